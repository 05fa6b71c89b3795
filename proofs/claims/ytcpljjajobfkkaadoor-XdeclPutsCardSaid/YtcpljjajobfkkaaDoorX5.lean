/- The program's answers; the law XdeclReads; how declarations are written. -/
import Derived.Test.YtcpljjajobfkkaaDoorRows
import Derived.WalkKit
import Derived.ProofKit
import Derived.OpenShut
import Derived.ShutString
import Derived.ChangeOld
import Derived.Below
import Derived.BigQuiet
import Derived.Deep.QuietTactic
import Derived.Lib.Hide
import Derived.Deep.RegionHeld3
import Derived.Lib.SlBytesConst
import Derived.Laws.CopyOwn
import Derived.Laws.CopyRow
import Derived.Lib.Bytes
import Derived.Deep.LoopGhost
import Derived.Deep.DeepFit
import Derived.Deep.DeepMust
import Derived.WalkSpells
import Derived.WalkLawsBesides
import Derived.Laws.EntriesVeiled
import Derived.Laws.Rows
import Derived.Deep.RegionWith
import Derived.LoopN
import Derived.Shelf.Strings.Builder1
import Derived.Test.YtcpljjajobfkkaaDoorBase
import Derived.Test.YtcpljjajobfkkaaDoorShelf
import Derived.Test.YtcpljjajobfkkaaDoorCharPlain
import Derived.Test.YtcpljjajobfkkaaDoorBuild
import Derived.Test.YtcpljjajobfkkaaDoorStr
import Derived.Test.YtcpljjajobfkkaaDoorPfx
import Derived.Test.YtcpljjajobfkkaaDoorLitP
import Derived.Test.YtcpljjajobfkkaaDoorLit1
import Derived.Test.YtcpljjajobfkkaaDoorPub
import Derived.Test.YtcpljjajobfkkaaDoorBlank
import Derived.Test.YtcpljjajobfkkaaDoorLibB
import Derived.Test.YtcpljjajobfkkaaDoorMiscP
import Derived.Test.YtcpljjajobfkkaaDoorMisc1
import Derived.Test.YtcpljjajobfkkaaDoorX1
import Derived.Test.YtcpljjajobfkkaaDoorBits
import Derived.Test.YtcpljjajobfkkaaDoorX3
import Derived.Test.YtcpljjajobfkkaaDoorX2
namespace Go.Proofs.YtcpljjajobfkkaaDoor
open Go.ChangeShapes Go.WideShapes Go.ChangeAt Go.RowKit
set_option linter.unusedVariables false
theorem tail_yes2 (l : List UInt8) (d : DeclL) (i : Nat) (h : [63, 62].isPrefixOf (l.drop (blankTo l i)) = true) : tailOut l d i = (d, blankTo l i + 2, 0) := by unfold tailOut; rw [if_pos h]
theorem tail_no2 (l : List UInt8) (d : DeclL) (i : Nat) (h : [63, 62].isPrefixOf (l.drop (blankTo l i)) = false) : tailOut l d i = (noDecl, 0, 7) := by unfold tailOut; rw [if_neg (by rw [h]; simp)]
/-- What the reading of all parts leaves. -/
def ReadPost (o : DeclL × Nat × Nat) (g : Nat) (w : World) (e : Ending) (w' : World) : Prop :=
  e = .returned (.tuple #[.int .i64 (o.2.1 : Int), .int .i64 (o.2.2 : Int)]) ∧ ∃ vs, RJ g vs w w' ∧ (o.2.2 = 0 → vs = #[.bool false, .string ⟨o.1.ver.toArray⟩, .string ⟨o.1.enc.toArray⟩, .string ⟨o.1.alone.toArray⟩] ∧ o.1.has = true)
theorem ReadPost.bad {g : Nat} {vs : Array Value} {w w' : World} {e : Ending} (h : e = .returned (.tuple #[.int .i64 0, .int .i64 7]) ∧ RJ g vs w w') : ReadPost (noDecl, 0, 7) g w e w' := ⟨h.1, vs, h.2, fun h => by cases h⟩
theorem ReadPost.good {g bt : Nat} {v e' a : List UInt8} {w w' : World} {e : Ending} (h : e = .returned (.tuple #[.int .i64 ((bt : Int) + 2), .int .i64 0]) ∧ RJ g #[.bool false, .string ⟨v.toArray⟩, .string ⟨e'.toArray⟩, .string ⟨a.toArray⟩] w w') : ReadPost (⟨true, v, e', a⟩, bt + 2, 0) g w e w' :=
  ⟨h.1, _, h.2, fun _ => ⟨rfl, rfl⟩⟩
theorem xdReadAll_f (g P B : Nat) (A : Option Addr) (n cap : Nat) (l : List UInt8) (k : Nat) (w : World) (h : Byt w B A n cap l) (hm : n ≤ 40000) (hx : hasX l k = true) (hBg : B ≤ g) (hT : FoldT w) (hTB : 0 < B) (hg : w.heap[g]? = some (.cells #[.bool false, .string ⟨#[]⟩, .string ⟨#[]⟩, .string ⟨#[]⟩] 53)) (hgP : g < P)
    (hP : w.heap[P]? = some (.cells #[.string ⟨#[118, 101, 114, 115, 105, 111, 110]⟩, .func (.func 47) #[] #[], .pointer (some ⟨g, 1, none⟩), .bool true, .string ⟨#[101, 110, 99, 111, 100, 105, 110, 103]⟩, .func (.func 48) #[] #[], .pointer (some ⟨g, 2, none⟩), .bool false, .string ⟨#[115, 116, 97, 110, 100, 97, 108, 111, 110, 101]⟩, .func (.func 49) #[] #[], .pointer (some ⟨g, 3, none⟩), .bool false] 93)) :
    Calls Tryd.prog 65 #[.slice A n cap, .int .i64 k, .pointer (some ⟨g, 0, none⟩), .slice (some ⟨P, 0, none⟩) 3 3] w fun e w' => ReadPost (readDecl false l k) g w e w' := by
  have hln := h.length
  have hkl := hasX_le l k n hln hx
  cases ho0 : partOut verW verB l (k + 5) with
  | none =>
    rw [show readDecl false l k = (noDecl, 0, 7) by unfold readDecl; rw [ho0]]
    exact (xdRead_f_none g P B A n cap l k w h hm hkl hBg hT hTB hg hgP hP ho0).mono fun e w' hr => ReadPost.bad hr
  | some p =>
    obtain ⟨v, j⟩ := p
    rcases part_le (by omega) ho0 with ⟨rfl, rfl⟩ | ⟨hlt0, hle0⟩
    · rw [show readDecl false l k = (noDecl, 0, 7) by unfold readDecl; rw [ho0]; simp]
      exact (xdRead_f_same g P B A n cap l k w h hm hkl hBg hT hTB hg hgP hP ho0).mono fun e w' hr => ReadPost.bad hr
    · rw [show readDecl false l k = readEnc false l v j by unfold readDecl; rw [ho0]; simp only; rw [if_neg (by omega)]]
      cases ho1 : partOut encW encB l j with
      | none =>
        rw [show readEnc false l v j = (noDecl, 0, 7) by unfold readEnc; rw [ho1]]
        exact (xdRead_f_found_none g P B A n cap l k w h hm hkl hBg hT hTB hg hgP hP v j ho0 hlt0 (by omega) ho1).mono fun e w' hr => ReadPost.bad hr
      | some p =>
        obtain ⟨e, j1⟩ := p
        rw [show readEnc false l v j = readAlone l v e j1 by unfold readEnc; rw [ho1]; simp]
        rcases part_le (by omega) ho1 with ⟨rfl, rfl⟩ | ⟨hlt1, hle1⟩
        · cases ho2 : partOut aloneW aloneB l j1 with
          | none =>
            rw [show readAlone l v [] j1 = (noDecl, 0, 7) by unfold readAlone; rw [ho2]]
            exact (xdRead_f_found_same_none g P B A n cap l k w h hm hkl hBg hT hTB hg hgP hP v j1 ho0 hlt0 (by omega) ho1 ho2).mono fun e w' hr => ReadPost.bad hr
          | some p =>
            obtain ⟨a, j2⟩ := p
            rw [show readAlone l v [] j1 = tailOut l ⟨true, v, [], a⟩ j2 by unfold readAlone; rw [ho2]]
            rcases part_le (by omega) ho2 with ⟨rfl, rfl⟩ | ⟨hlt2, hle2⟩
            · cases ht : [63, 62].isPrefixOf (l.drop (blankTo l j2)) with
              | true => rw [tail_yes2 _ _ _ ht]; exact (xdRead_f_found_same_same_yes g P B A n cap l k w h hm hkl hBg hT hTB hg hgP hP v j2 ho0 hlt0 (by omega) ho1 ho2 ht).mono fun e w' hr => ReadPost.good hr
              | false => rw [tail_no2 _ _ _ ht]; exact (xdRead_f_found_same_same_no g P B A n cap l k w h hm hkl hBg hT hTB hg hgP hP v j2 ho0 hlt0 (by omega) ho1 ho2 ht).mono fun e w' hr => ReadPost.bad hr
            · cases ht : [63, 62].isPrefixOf (l.drop (blankTo l j2)) with
              | true => rw [tail_yes2 _ _ _ ht]; exact (xdRead_f_found_same_found_yes g P B A n cap l k w h hm hkl hBg hT hTB hg hgP hP v j1 ho0 hlt0 (by omega) ho1 a j2 ho2 hlt2 (by omega) ht).mono fun e w' hr => ReadPost.good hr
              | false => rw [tail_no2 _ _ _ ht]; exact (xdRead_f_found_same_found_no g P B A n cap l k w h hm hkl hBg hT hTB hg hgP hP v j1 ho0 hlt0 (by omega) ho1 a j2 ho2 hlt2 (by omega) ht).mono fun e w' hr => ReadPost.bad hr
        · cases ho2 : partOut aloneW aloneB l j1 with
          | none =>
            rw [show readAlone l v e j1 = (noDecl, 0, 7) by unfold readAlone; rw [ho2]]
            exact (xdRead_f_found_found_none g P B A n cap l k w h hm hkl hBg hT hTB hg hgP hP v j ho0 hlt0 (by omega) e j1 ho1 hlt1 (by omega) ho2).mono fun e w' hr => ReadPost.bad hr
          | some p =>
            obtain ⟨a, j2⟩ := p
            rw [show readAlone l v e j1 = tailOut l ⟨true, v, e, a⟩ j2 by unfold readAlone; rw [ho2]]
            rcases part_le (by omega) ho2 with ⟨rfl, rfl⟩ | ⟨hlt2, hle2⟩
            · cases ht : [63, 62].isPrefixOf (l.drop (blankTo l j2)) with
              | true => rw [tail_yes2 _ _ _ ht]; exact (xdRead_f_found_found_same_yes g P B A n cap l k w h hm hkl hBg hT hTB hg hgP hP v j ho0 hlt0 (by omega) e j2 ho1 hlt1 (by omega) ho2 ht).mono fun e w' hr => ReadPost.good hr
              | false => rw [tail_no2 _ _ _ ht]; exact (xdRead_f_found_found_same_no g P B A n cap l k w h hm hkl hBg hT hTB hg hgP hP v j ho0 hlt0 (by omega) e j2 ho1 hlt1 (by omega) ho2 ht).mono fun e w' hr => ReadPost.bad hr
            · cases ht : [63, 62].isPrefixOf (l.drop (blankTo l j2)) with
              | true => rw [tail_yes2 _ _ _ ht]; exact (xdRead_f_found_found_found_yes g P B A n cap l k w h hm hkl hBg hT hTB hg hgP hP v j ho0 hlt0 (by omega) e j1 ho1 hlt1 (by omega) a j2 ho2 hlt2 (by omega) ht).mono fun e w' hr => ReadPost.good hr
              | false => rw [tail_no2 _ _ _ ht]; exact (xdRead_f_found_found_found_no g P B A n cap l k w h hm hkl hBg hT hTB hg hgP hP v j ho0 hlt0 (by omega) e j1 ho1 hlt1 (by omega) a j2 ho2 hlt2 (by omega) ht).mono fun e w' hr => ReadPost.bad hr
theorem xdReadAll_t (g P B : Nat) (A : Option Addr) (n cap : Nat) (l : List UInt8) (k : Nat) (w : World) (h : Byt w B A n cap l) (hm : n ≤ 40000) (hx : hasX l k = true) (hBg : B ≤ g) (hT : FoldT w) (hTB : 0 < B) (hg : w.heap[g]? = some (.cells #[.bool false, .string ⟨#[]⟩, .string ⟨#[]⟩, .string ⟨#[]⟩] 53)) (hgP : g < P)
    (hP : w.heap[P]? = some (.cells #[.string ⟨#[118, 101, 114, 115, 105, 111, 110]⟩, .func (.func 47) #[] #[], .pointer (some ⟨g, 1, none⟩), .bool false, .string ⟨#[101, 110, 99, 111, 100, 105, 110, 103]⟩, .func (.func 48) #[] #[], .pointer (some ⟨g, 2, none⟩), .bool true] 93)) :
    Calls Tryd.prog 65 #[.slice A n cap, .int .i64 k, .pointer (some ⟨g, 0, none⟩), .slice (some ⟨P, 0, none⟩) 2 2] w fun e w' => ReadPost (readDecl true l k) g w e w' := by
  have hln := h.length
  have hkl := hasX_le l k n hln hx
  cases ho0 : partOut verW verB l (k + 5) with
  | none =>
    rw [show readDecl true l k = (noDecl, 0, 7) by unfold readDecl; rw [ho0]]
    exact (xdRead_t_none g P B A n cap l k w h hm hkl hBg hT hTB hg hgP hP ho0).mono fun e w' hr => ReadPost.bad hr
  | some p =>
    obtain ⟨v, j⟩ := p
    rw [show readDecl true l k = readEnc true l v j by unfold readDecl; rw [ho0]; simp]
    rcases part_le (by omega) ho0 with ⟨rfl, rfl⟩ | ⟨hlt0, hle0⟩
    · cases ho1 : partOut encW encB l (k + 5) with
      | none =>
        rw [show readEnc true l [] (k + 5) = (noDecl, 0, 7) by unfold readEnc; rw [ho1]]
        exact (xdRead_t_same_none g P B A n cap l k w h hm hkl hBg hT hTB hg hgP hP ho0 ho1).mono fun e w' hr => ReadPost.bad hr
      | some p =>
        obtain ⟨e, j1⟩ := p
        rcases part_le (by omega) ho1 with ⟨rfl, rfl⟩ | ⟨hlt1, hle1⟩
        · rw [show readEnc true l [] (k + 5) = (noDecl, 0, 7) by unfold readEnc; rw [ho1]; simp]
          exact (xdRead_t_same_same g P B A n cap l k w h hm hkl hBg hT hTB hg hgP hP ho0 ho1).mono fun e w' hr => ReadPost.bad hr
        · rw [show readEnc true l [] (k + 5) = tailOut l ⟨true, [], e, []⟩ j1 by unfold readEnc; rw [ho1]; simp only [if_true]; rw [if_neg (by omega)]]
          cases ht : [63, 62].isPrefixOf (l.drop (blankTo l j1)) with
          | true => rw [tail_yes2 _ _ _ ht]; exact (xdRead_t_same_found_yes g P B A n cap l k w h hm hkl hBg hT hTB hg hgP hP ho0 e j1 ho1 hlt1 (by omega) ht).mono fun e w' hr => ReadPost.good hr
          | false => rw [tail_no2 _ _ _ ht]; exact (xdRead_t_same_found_no g P B A n cap l k w h hm hkl hBg hT hTB hg hgP hP ho0 e j1 ho1 hlt1 (by omega) ht).mono fun e w' hr => ReadPost.bad hr
    · cases ho1 : partOut encW encB l j with
      | none =>
        rw [show readEnc true l v j = (noDecl, 0, 7) by unfold readEnc; rw [ho1]]
        exact (xdRead_t_found_none g P B A n cap l k w h hm hkl hBg hT hTB hg hgP hP v j ho0 hlt0 (by omega) ho1).mono fun e w' hr => ReadPost.bad hr
      | some p =>
        obtain ⟨e, j1⟩ := p
        rcases part_le (by omega) ho1 with ⟨rfl, rfl⟩ | ⟨hlt1, hle1⟩
        · rw [show readEnc true l v j1 = (noDecl, 0, 7) by unfold readEnc; rw [ho1]; simp]
          exact (xdRead_t_found_same g P B A n cap l k w h hm hkl hBg hT hTB hg hgP hP v j1 ho0 hlt0 (by omega) ho1).mono fun e w' hr => ReadPost.bad hr
        · rw [show readEnc true l v j = tailOut l ⟨true, v, e, []⟩ j1 by unfold readEnc; rw [ho1]; simp only [if_true]; rw [if_neg (by omega)]]
          cases ht : [63, 62].isPrefixOf (l.drop (blankTo l j1)) with
          | true => rw [tail_yes2 _ _ _ ht]; exact (xdRead_t_found_found_yes g P B A n cap l k w h hm hkl hBg hT hTB hg hgP hP v j ho0 hlt0 (by omega) e j1 ho1 hlt1 (by omega) ht).mono fun e w' hr => ReadPost.good hr
          | false => rw [tail_no2 _ _ _ ht]; exact (xdRead_t_found_found_no g P B A n cap l k w h hm hkl hBg hT hTB hg hgP hP v j ho0 hlt0 (by omega) e j1 ho1 hlt1 (by omega) ht).mono fun e w' hr => ReadPost.bad hr
/-- While a declaration is told: all below stands but the declaration's block; it; and the result's own block. -/
def TJ (g : Nat) (vs rs : Array Value) (w W : World) : Prop := Fr w.heap.size g w W ∧ W.heap[g]? = some (.cells vs 53) ∧ W.heap[w.heap.size]? = some (.cells rs 53)
theorem TJ.kept {g : Nat} {vs rs : Array Value} {w W W' : World} (h : TJ g vs rs w W) (hb : Below W.heap.size W W') : TJ g vs rs w W' :=
  ⟨h.1.trans (Fr.ofBelow (hb.mono h.1.size)), by rw [hb.block _ (lt_of h.2.1)]; exact h.2.1, by rw [hb.block _ (lt_of h.2.2)]; exact h.2.2⟩
theorem TJ.start {g : Nat} {vs : Array Value} {w : World} (rs : Array Value) (hg : w.heap[g]? = some (.cells vs 53)) : TJ g vs rs w (w.alloc (.cells rs 53)) :=
  ⟨Fr.ofBelow ((Below.refl _ w).alloc (Nat.le_refl _) _), hp_old hg, hp_new _ _⟩
theorem TJ.read {g : Nat} {vs vs2 rs : Array Value} {w W W' : World} (h : TJ g vs rs w W) (hg : g < w.heap.size) (hr : RJ g vs2 W W') : TJ g vs2 rs w W' :=
  ⟨h.1.trans (hr.1.mono h.1.size), hr.2, by rw [hr.1.block _ (lt_of h.2.2) (by omega)]; exact h.2.2⟩
theorem TJ.set {g : Nat} {vs rs : Array Value} {w W : World} (h : TJ g vs rs w W) (hg : g < w.heap.size) (i : Nat) (v : Value) : TJ g (vs.setIfInBounds i v) rs w (W.setCell ⟨g, i, none⟩ v) :=
  ⟨h.1.set i v, hp_set h.2.1, by rw [hp_other (by omega)]; exact h.2.2⟩
theorem TJ.row {g : Nat} {vs rs : Array Value} {w W : World} (h : TJ g vs rs w W) (hg : g < w.heap.size) (cs : Array Value) : TJ g vs cs w (W.setRow w.heap.size cs) := by
  refine ⟨⟨h.1.os, h.1.tape, h.1.output, ?_, fun k hk hkg => ?_⟩, ?_, setRow_heap _ _ _ _ _ _ h.2.2⟩
  · have := h.1.size; simpa [World.setRow] using this
  · rw [setRow_other _ _ _ _ (by omega)]; exact h.1.block k hk hkg
  · rw [setRow_other _ _ _ _ (by omega)]; exact h.2.1
theorem tail_e (l : List UInt8) (d : DeclL) (i : Nat) : (tailOut l d i).2.2 ≠ 0 → tailOut l d i = (noDecl, 0, 7) := by
  unfold tailOut
  split
  · intro h; exact absurd rfl h
  · intro _; rfl
theorem alone_e (l v e : List UInt8) (i : Nat) : (readAlone l v e i).2.2 ≠ 0 → readAlone l v e i = (noDecl, 0, 7) := by
  unfold readAlone
  split
  · intro _; rfl
  · exact tail_e _ _ _
theorem enc_e (text : Bool) (l v : List UInt8) (i : Nat) : (readEnc text l v i).2.2 ≠ 0 → readEnc text l v i = (noDecl, 0, 7) := by
  unfold readEnc
  split
  · intro _; rfl
  · split
    · split
      · intro _; rfl
      · exact tail_e _ _ _
    · exact alone_e _ _ _ _
theorem readDecl_e (text : Bool) (l : List UInt8) (k : Nat) : (readDecl text l k).2.2 ≠ 0 → readDecl text l k = (noDecl, 0, 7) := by
  unfold readDecl
  split
  · intro _; rfl
  · split
    · intro _; rfl
    · exact enc_e _ _ _ _
def zDecl : Array Value := #[.bool false, .string ⟨#[]⟩, .string ⟨#[]⟩, .string ⟨#[]⟩]
set_option maxRecDepth 100000 in
set_option maxHeartbeats 8000000 in
theorem told_c (text : Bool) (pv : Value) (g B : Nat) (A : Option Addr) (n cap : Nat) (l : List UInt8) (at_ : Int) (w : World) (h : Byt w B A n cap l) (hm : n ≤ 40000) (hBg : B ≤ g) (hg : w.heap[g]? = some (.cells #[.bool false, .string ⟨#[]⟩, .string ⟨#[]⟩, .string ⟨#[]⟩] 53))
    (HR : ∀ k : Nat, k ≤ n → hasX l k = true → ∀ W, TJ g #[.bool false, .string ⟨#[]⟩, .string ⟨#[]⟩, .string ⟨#[]⟩] #[.bool false, .string ⟨#[]⟩, .string ⟨#[]⟩, .string ⟨#[]⟩] w W → Calls Tryd.prog 65 #[.slice A n cap, .int .i64 k, .pointer (some ⟨g, 0, none⟩), pv] W fun e w' => ReadPost (readDecl text l k) g W e w') :
    Calls Tryd.prog 46 #[.slice A n cap, .int .i64 at_, .pointer (some ⟨g, 0, none⟩), pv] w fun e w' => e = .returned (declV (declAt text l at_)) ∧ Fr w.heap.size g w w' := by
  have hgl := lt_of hg
  have hJ := TJ.start #[.bool false, .string ⟨#[]⟩, .string ⟨#[]⟩, .string ⟨#[]⟩] hg
  have hi : (Tryd.prog.info? 53).map (·.size) = some 4 := by kernel_rfl
  obtain ⟨d, hu⟩ := isStruct_of (P := Tryd.prog) (t := 53) (by kernel_rfl)
  have HU := Lib.hid (And.intro hi hu)
  have HG := Lib.hid hgl
  have J0 := Lib.hid hJ
  unfold declAt
  rw [h.length]
  by_cases ha : at_ < 0 ∨ (n : Int) < at_
  · rw [if_pos ha]
    have JF := Lib.hid (J0.out.row HG.out #[.bool false, .string ⟨#[]⟩, .string ⟨#[]⟩, .string ⟨#[]⟩])
    clear HR h hg hgl hJ hi hu hBg hm
    unfold declV
    by_cases h0 : at_ < 0
    · have hd : decide (at_ < 0) = true := by simpa using h0
      clear ha
      go_enter Tryd.func46, Tryd.ntmps46
      go_wp2_with (refine wpList_store_row rfl _ _ _ rfl w.heap.size #[.bool false, .string ⟨#[]⟩, .string ⟨#[]⟩, .string ⟨#[]⟩] rfl rfl _ _ J0.out.2.2 (by kernel_rfl) rfl (by kernel_rfl) ?_)
      (try simp only [Exit.inBlock, Exit.then])
      exact bodyPost_ret (results_cell3 rfl _ _ w.heap.size _ _ _ _ rfl JF.out.2.2 HU.out.2 rfl HU.out.1) rfl ⟨rfl, JF.out.1⟩
    · have h1 : (n : Int) < at_ := by omega
      clear ha
      go_enter Tryd.func46, Tryd.ntmps46
      go_wp2_with (refine wpList_store_row rfl _ _ _ rfl w.heap.size #[.bool false, .string ⟨#[]⟩, .string ⟨#[]⟩, .string ⟨#[]⟩] rfl rfl _ _ J0.out.2.2 (by kernel_rfl) rfl (by kernel_rfl) ?_)
      (try simp only [Exit.inBlock, Exit.then])
      exact bodyPost_ret (results_cell3 rfl _ _ w.heap.size _ _ _ _ rfl JF.out.2.2 HU.out.2 rfl HU.out.1) rfl ⟨rfl, JF.out.1⟩
  · rw [if_neg ha]
    obtain ⟨k, rfl⟩ : ∃ k : Nat, at_ = (k : Int) := ⟨at_.toNat, by omega⟩
    rw [Int.toNat_natCast]
    have hk : k ≤ n := by omega
    have hk' : ¬ (n : Int) < (k : Int) := by omega
    have hk0 : (0 : Int) ≤ (k : Int) := by omega
    have hk1 : (k : Int) ≤ 40000 := by omega
    have hin := (h.below (hJ.1.below (B := B) (by omega) hBg)).more (B' := (w.alloc (.cells #[.bool false, .string ⟨#[]⟩, .string ⟨#[]⟩, .string ⟨#[]⟩] 53)).heap.size) (by simp; omega)
    have C1 := Lib.hid (xdHas_in A n cap l k _ hin (by omega) hk)
    unfold declOut
    by_cases hx : hasX l k = true
    · rw [if_pos hx]
      rw [hx] at C1
      have CR := Lib.hid (HR k hk hx)
      have hoe := readDecl_e text l k
      generalize readDecl text l k = o at *
      obtain ⟨⟨dh, dv, de, da⟩, nx, er⟩ := o
      clear HR h hg hgl hJ hi hu hBg hm ha hin hx hk
      unfold declV DeclL.cells
      by_cases he : er = 0
      · subst he
        go_enter Tryd.func46, Tryd.ntmps46
        go_wp2_with fail
        refine C1.out.mono ?_
        rintro e w1 ⟨rfl, hb⟩
        have J1 := Lib.hid (J0.out.kept hb)
        clear hb
        go_wp2_with fail
        refine (CR.out _ J1.out).mono ?_
        rintro e w2 ⟨rfl, vs, hr, hvs⟩
        obtain ⟨rfl, hdh⟩ := hvs rfl
        simp only at hdh
        subst hdh
        have J2 := Lib.hid (J1.out.read HG.out hr)
        clear hr hvs
        have z0 := cell_of 0 J2.out.2.1
        have y0 := free_of 0 J2.out.2.1
        have J3 : Hid (TJ g #[.bool true, .string ⟨dv.toArray⟩, .string ⟨de.toArray⟩, .string ⟨da.toArray⟩] #[.bool false, .string ⟨#[]⟩, .string ⟨#[]⟩, .string ⟨#[]⟩] w (w2.setCell ⟨g, 0, none⟩ (.bool true))) := Lib.hid (J2.out.set HG.out 0 (.bool true))
        have JF := Lib.hid (J3.out.row HG.out #[.bool true, .string ⟨dv.toArray⟩, .string ⟨de.toArray⟩, .string ⟨da.toArray⟩])
        go_wp2_with (first | (refine wpList_load_row rfl _ _ rfl g rfl _ _ _ _ J3.out.2.1 HU.out.2 rfl HU.out.1 ?_) | (refine wpList_store_row rfl _ _ _ rfl w.heap.size #[.bool true, .string ⟨dv.toArray⟩, .string ⟨de.toArray⟩, .string ⟨da.toArray⟩] rfl rfl _ _ J3.out.2.2 (by kernel_rfl) rfl (by kernel_rfl) ?_))
        (try simp only [Exit.inBlock, Exit.then])
        exact bodyPost_ret (results_cell3 rfl _ _ w.heap.size _ _ _ _ rfl JF.out.2.2 HU.out.2 rfl HU.out.1) rfl ⟨rfl, JF.out.1⟩
      · have hei : ((er : Int) == 0) = false := by simp; omega
        have hh := hoe he
        simp only [Prod.mk.injEq] at hh
        obtain ⟨hd, rfl, rfl⟩ := hh
        unfold noDecl at hd
        cases hd
        clear hoe he
        go_enter Tryd.func46, Tryd.ntmps46
        go_wp2_with fail
        refine C1.out.mono ?_
        rintro e w1 ⟨rfl, hb⟩
        have J1 := Lib.hid (J0.out.kept hb)
        clear hb
        go_wp2_with fail
        refine (CR.out _ J1.out).mono ?_
        rintro e w2 ⟨rfl, vs, hr, hvs⟩
        have J2 := Lib.hid (J1.out.read HG.out hr)
        have JF := Lib.hid (J2.out.row HG.out #[.bool false, .string ⟨#[]⟩, .string ⟨#[]⟩, .string ⟨#[]⟩])
        clear hr hvs
        go_wp2_with (refine wpList_store_row rfl _ _ _ rfl w.heap.size #[.bool false, .string ⟨#[]⟩, .string ⟨#[]⟩, .string ⟨#[]⟩] rfl rfl _ _ J2.out.2.2 (by kernel_rfl) rfl (by kernel_rfl) ?_)
        (try simp only [Exit.inBlock, Exit.then])
        exact bodyPost_ret (results_cell3 rfl _ _ w.heap.size _ _ _ _ rfl JF.out.2.2 HU.out.2 rfl HU.out.1) rfl ⟨rfl, JF.out.1⟩
    · rw [if_neg hx]
      rw [bfalse hx] at C1
      clear HR h hg hgl hJ hi hu hBg hm ha hin hx hk
      unfold declV
      go_enter Tryd.func46, Tryd.ntmps46
      go_wp2_with fail
      refine C1.out.mono ?_
      rintro e w1 ⟨rfl, hb⟩
      have J1 := Lib.hid (J0.out.kept hb)
      have JF := Lib.hid (J1.out.row HG.out #[.bool false, .string ⟨#[]⟩, .string ⟨#[]⟩, .string ⟨#[]⟩])
      clear hb
      go_wp2_with (refine wpList_store_row rfl _ _ _ rfl w.heap.size #[.bool false, .string ⟨#[]⟩, .string ⟨#[]⟩, .string ⟨#[]⟩] rfl rfl _ _ J1.out.2.2 (by kernel_rfl) rfl (by kernel_rfl) ?_)
      (try simp only [Exit.inBlock, Exit.then])
      exact bodyPost_ret (results_cell3 rfl _ _ w.heap.size _ _ _ _ rfl JF.out.2.2 HU.out.2 rfl HU.out.1) rfl ⟨rfl, JF.out.1⟩
/-- What stands ahead of the telling: the result's block, the declaration's, the parts'. -/
def XP (pa : Array Value) (w W : World) : Prop := Below w.heap.size w W ∧ W.heap[w.heap.size]? = some (.cells #[.bool false, .string ⟨#[]⟩, .string ⟨#[]⟩, .string ⟨#[]⟩] 53) ∧ W.heap[w.heap.size + 1]? = some (.cells #[.bool false, .string ⟨#[]⟩, .string ⟨#[]⟩, .string ⟨#[]⟩] 53) ∧ W.heap[w.heap.size + 2]? = some (.cells pa 93)
theorem XP.drew {pa : Array Value} {w W : World} (h : XP pa w W) : XP pa w W.drew := ⟨h.1.drew, h.2.1, h.2.2.1, h.2.2.2⟩
theorem XP.start (pa : Array Value) (w : World) : XP pa w (((w.alloc (.cells #[.bool false, .string ⟨#[]⟩, .string ⟨#[]⟩, .string ⟨#[]⟩] 53)).alloc (.cells #[.bool false, .string ⟨#[]⟩, .string ⟨#[]⟩, .string ⟨#[]⟩] 53)).alloc (.cells pa 93)) := by
  have a1 := (Below.refl w.heap.size w).alloc (Nat.le_refl _) (.cells #[.bool false, .string ⟨#[]⟩, .string ⟨#[]⟩, .string ⟨#[]⟩] 53)
  have a2 := a1.alloc a1.size (.cells #[.bool false, .string ⟨#[]⟩, .string ⟨#[]⟩, .string ⟨#[]⟩] 53)
  have a3 := a2.alloc a2.size (.cells pa 93)
  refine ⟨a3, hp_old (hp_old (hp_new _ _)), ?_, ?_⟩
  · have := hp_new (w.alloc (.cells #[.bool false, .string ⟨#[]⟩, .string ⟨#[]⟩, .string ⟨#[]⟩] 53)) (.cells #[.bool false, .string ⟨#[]⟩, .string ⟨#[]⟩, .string ⟨#[]⟩] 53)
    rw [World.size_alloc] at this
    exact hp_old this
  · have := hp_new ((w.alloc (.cells #[.bool false, .string ⟨#[]⟩, .string ⟨#[]⟩, .string ⟨#[]⟩] 53)).alloc (.cells #[.bool false, .string ⟨#[]⟩, .string ⟨#[]⟩, .string ⟨#[]⟩] 53)) (.cells pa 93)
    rw [World.size_alloc, World.size_alloc] at this
    exact this
set_option maxRecDepth 100000 in
set_option maxHeartbeats 8000000 in
theorem xdXml_c (A : Option Addr) (n cap : Nat) (l : List UInt8) (at_ : Int) (w : World) (h : Byt w w.heap.size A n cap l) (hm : n ≤ 40000) (hT : FoldT w) :
    Calls Tryd.prog 23 #[.slice A n cap, .int .i64 at_] w fun e w' => e = .returned (declV (declAt false l at_)) ∧ Below w.heap.size w w' := by
  have hi : (Tryd.prog.info? 53).map (·.size) = some 4 := by kernel_rfl
  obtain ⟨d, hu⟩ := isStruct_of (P := Tryd.prog) (t := 53) (by kernel_rfl)
  have HU := Lib.hid (And.intro hi hu)
  have CT : Hid (∀ W, XP #[.string ⟨#[118, 101, 114, 115, 105, 111, 110]⟩, .func (.func 47) #[] #[], .pointer (some ⟨w.heap.size + 1, 1, none⟩), .bool true, .string ⟨#[101, 110, 99, 111, 100, 105, 110, 103]⟩, .func (.func 48) #[] #[], .pointer (some ⟨w.heap.size + 1, 2, none⟩), .bool false, .string ⟨#[115, 116, 97, 110, 100, 97, 108, 111, 110, 101]⟩, .func (.func 49) #[] #[], .pointer (some ⟨w.heap.size + 1, 3, none⟩), .bool false] w W → Calls Tryd.prog 46 #[.slice A n cap, .int .i64 at_, .pointer (some ⟨w.heap.size + 1, 0, none⟩), .slice (some ⟨w.heap.size + 2, 0, none⟩) 3 3] W fun e w' => e = .returned (declV (declAt false l at_)) ∧ (w'.cell? ⟨w.heap.size, 0, none⟩ = some (.bool false) ∧ w'.cell? ⟨w.heap.size, 1, none⟩ = some (.string ⟨#[]⟩) ∧ w'.cell? ⟨w.heap.size, 2, none⟩ = some (.string ⟨#[]⟩) ∧ w'.cell? ⟨w.heap.size, 3, none⟩ = some (.string ⟨#[]⟩) ∧ w'.frozen? ⟨w.heap.size, 0, none⟩ = false ∧ w'.frozen? ⟨w.heap.size, 1, none⟩ = false ∧ w'.frozen? ⟨w.heap.size, 2, none⟩ = false ∧ w'.frozen? ⟨w.heap.size, 3, none⟩ = false ∧ (w'.setCell ⟨w.heap.size, 0, none⟩ (.bool (declAt false l at_).1.has)).cell? ⟨w.heap.size, 1, none⟩ = some (.string ⟨#[]⟩) ∧ ((w'.setCell ⟨w.heap.size, 0, none⟩ (.bool (declAt false l at_).1.has)).setCell ⟨w.heap.size, 1, none⟩ (.string ⟨(declAt false l at_).1.ver.toArray⟩)).cell? ⟨w.heap.size, 2, none⟩ = some (.string ⟨#[]⟩) ∧ (((w'.setCell ⟨w.heap.size, 0, none⟩ (.bool (declAt false l at_).1.has)).setCell ⟨w.heap.size, 1, none⟩ (.string ⟨(declAt false l at_).1.ver.toArray⟩)).setCell ⟨w.heap.size, 2, none⟩ (.string ⟨(declAt false l at_).1.enc.toArray⟩)).cell? ⟨w.heap.size, 3, none⟩ = some (.string ⟨#[]⟩) ∧ (w'.setCell ⟨w.heap.size, 0, none⟩ (.bool (declAt false l at_).1.has)).frozen? ⟨w.heap.size, 1, none⟩ = false ∧ ((w'.setCell ⟨w.heap.size, 0, none⟩ (.bool (declAt false l at_).1.has)).setCell ⟨w.heap.size, 1, none⟩ (.string ⟨(declAt false l at_).1.ver.toArray⟩)).frozen? ⟨w.heap.size, 2, none⟩ = false ∧ (((w'.setCell ⟨w.heap.size, 0, none⟩ (.bool (declAt false l at_).1.has)).setCell ⟨w.heap.size, 1, none⟩ (.string ⟨(declAt false l at_).1.ver.toArray⟩)).setCell ⟨w.heap.size, 2, none⟩ (.string ⟨(declAt false l at_).1.enc.toArray⟩)).frozen? ⟨w.heap.size, 3, none⟩ = false) ∧ Hid (((((w'.setCell ⟨w.heap.size, 0, none⟩ (.bool (declAt false l at_).1.has)).setCell ⟨w.heap.size, 1, none⟩ (.string ⟨(declAt false l at_).1.ver.toArray⟩)).setCell ⟨w.heap.size, 2, none⟩ (.string ⟨(declAt false l at_).1.enc.toArray⟩)).setCell ⟨w.heap.size, 3, none⟩ (.string ⟨(declAt false l at_).1.alone.toArray⟩)).heap[w.heap.size]? = some (.cells (declAt false l at_).1.cells 53) ∧ Below w.heap.size w ((((w'.setCell ⟨w.heap.size, 0, none⟩ (.bool (declAt false l at_).1.has)).setCell ⟨w.heap.size, 1, none⟩ (.string ⟨(declAt false l at_).1.ver.toArray⟩)).setCell ⟨w.heap.size, 2, none⟩ (.string ⟨(declAt false l at_).1.enc.toArray⟩)).setCell ⟨w.heap.size, 3, none⟩ (.string ⟨(declAt false l at_).1.alone.toArray⟩)))) := Lib.hid fun W hX => by
    have hsz := hX.1.size
    have hl2 := lt_of hX.2.2.2
    refine (told_c false (.slice (some ⟨w.heap.size + 2, 0, none⟩) 3 3) (w.heap.size + 1) w.heap.size A n cap l at_ W (h.below hX.1) hm (Nat.le_succ _) hX.2.2.1 ?_).mono fun e w' ⟨he, hf⟩ => ?_
    · intro k hk hx W2 hJ
      have hb2 : Below w.heap.size W W2 := hJ.1.below (by omega) (by omega)
      refine xdReadAll_f (w.heap.size + 1) (w.heap.size + 2) w.heap.size A n cap l k W2 ((h.below hX.1).below hb2) hm hx (Nat.le_succ _) ((hT.below hX.1 hT.lt).below hb2 hT.lt) hT.lt hJ.2.1 (by omega) ?_
      rw [hJ.1.block _ hl2 (by omega)]
      exact hX.2.2.2
    · have hr : w'.heap[w.heap.size]? = some (.cells #[.bool false, .string ⟨#[]⟩, .string ⟨#[]⟩, .string ⟨#[]⟩] 53) := by rw [hf.block _ (by omega) (by omega)]; exact hX.2.1
      have hb := hX.1.trans (hf.below (B := w.heap.size) (by omega) (by omega))
      have r1 := hp_set (i := 0) (v := (.bool (declAt false l at_).1.has)) hr
      have r2 := hp_set (i := 1) (v := (.string ⟨(declAt false l at_).1.ver.toArray⟩)) r1
      have r3 := hp_set (i := 2) (v := (.string ⟨(declAt false l at_).1.enc.toArray⟩)) r2
      have r4 := hp_set (i := 3) (v := (.string ⟨(declAt false l at_).1.alone.toArray⟩)) r3
      refine ⟨he, ⟨cell_of 0 hr, cell_of 1 hr, cell_of 2 hr, cell_of 3 hr, free_of 0 hr, free_of 1 hr, free_of 2 hr, free_of 3 hr, cell_of 1 r1, cell_of 2 r2, cell_of 3 r3, free_of 1 r1, free_of 2 r2, free_of 3 r3⟩, Lib.hid ⟨r4, ?_⟩⟩
      exact (((hb.setCell (p := ⟨w.heap.size, 0, none⟩) (Nat.le_refl _) _).setCell (p := ⟨w.heap.size, 1, none⟩) (Nat.le_refl _) _).setCell (p := ⟨w.heap.size, 2, none⟩) (Nat.le_refl _) _).setCell (p := ⟨w.heap.size, 3, none⟩) (Nat.le_refl _) _
  have HX := Lib.hid (XP.start #[.string ⟨#[118, 101, 114, 115, 105, 111, 110]⟩, .func (.func 47) #[] #[], .pointer (some ⟨w.heap.size + 1, 1, none⟩), .bool true, .string ⟨#[101, 110, 99, 111, 100, 105, 110, 103]⟩, .func (.func 48) #[] #[], .pointer (some ⟨w.heap.size + 1, 2, none⟩), .bool false, .string ⟨#[115, 116, 97, 110, 100, 97, 108, 111, 110, 101]⟩, .func (.func 49) #[] #[], .pointer (some ⟨w.heap.size + 1, 3, none⟩), .bool false] w)
  clear h hT hm hi hu
  generalize declAt false l at_ = o at *
  obtain ⟨⟨dh, dv, de, da⟩, nx, er⟩ := o
  unfold declV DeclL.cells at *
  simp only at CT ⊢
  go_enter Tryd.func23, Tryd.ntmps23
  go_wp2
  go_region_with (first
    | (go_at_call 46; refine (CT.out _ (by first | exact HX.out | exact HX.out.drew | exact HX.out.drew.drew | exact HX.out.drew.drew.drew | exact HX.out.drew.drew.drew.drew)).mono ?_; rintro e w1 ⟨rfl, ⟨z0, z1, z2, z3, y0, y1, y2, y3, x1, x2, x3, u1, u2, u3⟩, HF⟩))
  all_goals
    go_wp2
    (try simp only [Exit.inBlock, Exit.then])
    exact bodyPost_ret (results_cell3 rfl _ _ w.heap.size _ _ _ _ rfl HF.out.1 HU.out.2 rfl HU.out.1) rfl ⟨rfl, HF.out.2⟩
set_option maxRecDepth 100000 in
set_option maxHeartbeats 8000000 in
theorem xdText_c (A : Option Addr) (n cap : Nat) (l : List UInt8) (at_ : Int) (w : World) (h : Byt w w.heap.size A n cap l) (hm : n ≤ 40000) (hT : FoldT w) :
    Calls Tryd.prog 28 #[.slice A n cap, .int .i64 at_] w fun e w' => e = .returned (declV (declAt true l at_)) ∧ Below w.heap.size w w' := by
  have hi : (Tryd.prog.info? 53).map (·.size) = some 4 := by kernel_rfl
  obtain ⟨d, hu⟩ := isStruct_of (P := Tryd.prog) (t := 53) (by kernel_rfl)
  have HU := Lib.hid (And.intro hi hu)
  have CT : Hid (∀ W, XP #[.string ⟨#[118, 101, 114, 115, 105, 111, 110]⟩, .func (.func 47) #[] #[], .pointer (some ⟨w.heap.size + 1, 1, none⟩), .bool false, .string ⟨#[101, 110, 99, 111, 100, 105, 110, 103]⟩, .func (.func 48) #[] #[], .pointer (some ⟨w.heap.size + 1, 2, none⟩), .bool true] w W → Calls Tryd.prog 46 #[.slice A n cap, .int .i64 at_, .pointer (some ⟨w.heap.size + 1, 0, none⟩), .slice (some ⟨w.heap.size + 2, 0, none⟩) 2 2] W fun e w' => e = .returned (declV (declAt true l at_)) ∧ (w'.cell? ⟨w.heap.size, 0, none⟩ = some (.bool false) ∧ w'.cell? ⟨w.heap.size, 1, none⟩ = some (.string ⟨#[]⟩) ∧ w'.cell? ⟨w.heap.size, 2, none⟩ = some (.string ⟨#[]⟩) ∧ w'.cell? ⟨w.heap.size, 3, none⟩ = some (.string ⟨#[]⟩) ∧ w'.frozen? ⟨w.heap.size, 0, none⟩ = false ∧ w'.frozen? ⟨w.heap.size, 1, none⟩ = false ∧ w'.frozen? ⟨w.heap.size, 2, none⟩ = false ∧ w'.frozen? ⟨w.heap.size, 3, none⟩ = false ∧ (w'.setCell ⟨w.heap.size, 0, none⟩ (.bool (declAt true l at_).1.has)).cell? ⟨w.heap.size, 1, none⟩ = some (.string ⟨#[]⟩) ∧ ((w'.setCell ⟨w.heap.size, 0, none⟩ (.bool (declAt true l at_).1.has)).setCell ⟨w.heap.size, 1, none⟩ (.string ⟨(declAt true l at_).1.ver.toArray⟩)).cell? ⟨w.heap.size, 2, none⟩ = some (.string ⟨#[]⟩) ∧ (((w'.setCell ⟨w.heap.size, 0, none⟩ (.bool (declAt true l at_).1.has)).setCell ⟨w.heap.size, 1, none⟩ (.string ⟨(declAt true l at_).1.ver.toArray⟩)).setCell ⟨w.heap.size, 2, none⟩ (.string ⟨(declAt true l at_).1.enc.toArray⟩)).cell? ⟨w.heap.size, 3, none⟩ = some (.string ⟨#[]⟩) ∧ (w'.setCell ⟨w.heap.size, 0, none⟩ (.bool (declAt true l at_).1.has)).frozen? ⟨w.heap.size, 1, none⟩ = false ∧ ((w'.setCell ⟨w.heap.size, 0, none⟩ (.bool (declAt true l at_).1.has)).setCell ⟨w.heap.size, 1, none⟩ (.string ⟨(declAt true l at_).1.ver.toArray⟩)).frozen? ⟨w.heap.size, 2, none⟩ = false ∧ (((w'.setCell ⟨w.heap.size, 0, none⟩ (.bool (declAt true l at_).1.has)).setCell ⟨w.heap.size, 1, none⟩ (.string ⟨(declAt true l at_).1.ver.toArray⟩)).setCell ⟨w.heap.size, 2, none⟩ (.string ⟨(declAt true l at_).1.enc.toArray⟩)).frozen? ⟨w.heap.size, 3, none⟩ = false) ∧ Hid (((((w'.setCell ⟨w.heap.size, 0, none⟩ (.bool (declAt true l at_).1.has)).setCell ⟨w.heap.size, 1, none⟩ (.string ⟨(declAt true l at_).1.ver.toArray⟩)).setCell ⟨w.heap.size, 2, none⟩ (.string ⟨(declAt true l at_).1.enc.toArray⟩)).setCell ⟨w.heap.size, 3, none⟩ (.string ⟨(declAt true l at_).1.alone.toArray⟩)).heap[w.heap.size]? = some (.cells (declAt true l at_).1.cells 53) ∧ Below w.heap.size w ((((w'.setCell ⟨w.heap.size, 0, none⟩ (.bool (declAt true l at_).1.has)).setCell ⟨w.heap.size, 1, none⟩ (.string ⟨(declAt true l at_).1.ver.toArray⟩)).setCell ⟨w.heap.size, 2, none⟩ (.string ⟨(declAt true l at_).1.enc.toArray⟩)).setCell ⟨w.heap.size, 3, none⟩ (.string ⟨(declAt true l at_).1.alone.toArray⟩)))) := Lib.hid fun W hX => by
    have hsz := hX.1.size
    have hl2 := lt_of hX.2.2.2
    refine (told_c true (.slice (some ⟨w.heap.size + 2, 0, none⟩) 2 2) (w.heap.size + 1) w.heap.size A n cap l at_ W (h.below hX.1) hm (Nat.le_succ _) hX.2.2.1 ?_).mono fun e w' ⟨he, hf⟩ => ?_
    · intro k hk hx W2 hJ
      have hb2 : Below w.heap.size W W2 := hJ.1.below (by omega) (by omega)
      refine xdReadAll_t (w.heap.size + 1) (w.heap.size + 2) w.heap.size A n cap l k W2 ((h.below hX.1).below hb2) hm hx (Nat.le_succ _) ((hT.below hX.1 hT.lt).below hb2 hT.lt) hT.lt hJ.2.1 (by omega) ?_
      rw [hJ.1.block _ hl2 (by omega)]
      exact hX.2.2.2
    · have hr : w'.heap[w.heap.size]? = some (.cells #[.bool false, .string ⟨#[]⟩, .string ⟨#[]⟩, .string ⟨#[]⟩] 53) := by rw [hf.block _ (by omega) (by omega)]; exact hX.2.1
      have hb := hX.1.trans (hf.below (B := w.heap.size) (by omega) (by omega))
      have r1 := hp_set (i := 0) (v := (.bool (declAt true l at_).1.has)) hr
      have r2 := hp_set (i := 1) (v := (.string ⟨(declAt true l at_).1.ver.toArray⟩)) r1
      have r3 := hp_set (i := 2) (v := (.string ⟨(declAt true l at_).1.enc.toArray⟩)) r2
      have r4 := hp_set (i := 3) (v := (.string ⟨(declAt true l at_).1.alone.toArray⟩)) r3
      refine ⟨he, ⟨cell_of 0 hr, cell_of 1 hr, cell_of 2 hr, cell_of 3 hr, free_of 0 hr, free_of 1 hr, free_of 2 hr, free_of 3 hr, cell_of 1 r1, cell_of 2 r2, cell_of 3 r3, free_of 1 r1, free_of 2 r2, free_of 3 r3⟩, Lib.hid ⟨r4, ?_⟩⟩
      exact (((hb.setCell (p := ⟨w.heap.size, 0, none⟩) (Nat.le_refl _) _).setCell (p := ⟨w.heap.size, 1, none⟩) (Nat.le_refl _) _).setCell (p := ⟨w.heap.size, 2, none⟩) (Nat.le_refl _) _).setCell (p := ⟨w.heap.size, 3, none⟩) (Nat.le_refl _) _
  have HX := Lib.hid (XP.start #[.string ⟨#[118, 101, 114, 115, 105, 111, 110]⟩, .func (.func 47) #[] #[], .pointer (some ⟨w.heap.size + 1, 1, none⟩), .bool false, .string ⟨#[101, 110, 99, 111, 100, 105, 110, 103]⟩, .func (.func 48) #[] #[], .pointer (some ⟨w.heap.size + 1, 2, none⟩), .bool true] w)
  clear h hT hm hi hu
  generalize declAt true l at_ = o at *
  obtain ⟨⟨dh, dv, de, da⟩, nx, er⟩ := o
  unfold declV DeclL.cells at *
  simp only at CT ⊢
  go_enter Tryd.func28, Tryd.ntmps28
  go_wp2
  go_region_with (first
    | (go_at_call 46; refine (CT.out _ (by first | exact HX.out | exact HX.out.drew | exact HX.out.drew.drew | exact HX.out.drew.drew.drew | exact HX.out.drew.drew.drew.drew)).mono ?_; rintro e w1 ⟨rfl, ⟨z0, z1, z2, z3, y0, y1, y2, y3, x1, x2, x3, u1, u2, u3⟩, HF⟩))
  all_goals
    go_wp2
    (try simp only [Exit.inBlock, Exit.then])
    exact bodyPost_ret (results_cell3 rfl _ _ w.heap.size _ _ _ _ rfl HF.out.1 HU.out.2 rfl HU.out.1) rfl ⟨rfl, HF.out.2⟩
/-- Two blocks that a law keeps: the program's answer, the document's. -/
def LJ (a b : Nat) (va vb : Array Value) (w W : World) : Prop := Below w.heap.size w W ∧ W.heap[a]? = some (.cells va 53) ∧ W.heap[b]? = some (.cells vb 56)
theorem LJ.kept {a b : Nat} {va vb : Array Value} {w W W' : World} (h : LJ a b va vb w W) (hb : Below W.heap.size W W') : LJ a b va vb w W' :=
  ⟨h.1.trans (hb.mono h.1.size), by rw [hb.block _ (lt_of h.2.1)]; exact h.2.1, by rw [hb.block _ (lt_of h.2.2)]; exact h.2.2⟩
theorem below_row {w W : World} (h : Below w.heap.size w W) (r : Nat) (hr : w.heap.size ≤ r) (cs : Array Value) : Below w.heap.size w (W.setRow r cs) := by
  refine ⟨h.os, h.tape, h.output, ?_, fun k hk => ?_⟩
  · have := h.size; simpa [World.setRow] using this
  · rw [setRow_other _ _ _ _ (by omega)]; exact h.block k hk
theorem LJ.rowA {a b : Nat} {va vb : Array Value} {w W : World} (h : LJ a b va vb w W) (ha : w.heap.size ≤ a) (hne : b ≠ a) (cs : Array Value) : LJ a b cs vb w (W.setRow a cs) :=
  ⟨below_row h.1 a ha cs, setRow_heap _ _ _ _ _ _ h.2.1, by rw [setRow_other _ _ _ _ hne]; exact h.2.2⟩
theorem LJ.rowB {a b : Nat} {va vb : Array Value} {w W : World} (h : LJ a b va vb w W) (hb : w.heap.size ≤ b) (hne : a ≠ b) (cs : Array Value) : LJ a b va cs w (W.setRow b cs) :=
  ⟨below_row h.1 b hb cs, by rw [setRow_other _ _ _ _ hne]; exact h.2.1, setRow_heap _ _ _ _ _ _ h.2.2⟩
set_option maxRecDepth 100000 in
set_option maxHeartbeats 4000000 in
theorem same9_c (dh : Bool) (dv de da : List UInt8) (w : World) :
    Calls Tryd.prog 25 #[.agg #[.bool dh, .string ⟨dv.toArray⟩, .string ⟨de.toArray⟩, .string ⟨da.toArray⟩], .agg #[.bool dh, .string ⟨dv.toArray⟩, .string ⟨de.toArray⟩, .string ⟨da.toArray⟩]] w fun e w' => e = .returned (.bool true) ∧ Below w.heap.size w w' := by
  have a1 := (Below.refl w.heap.size w).alloc (Nat.le_refl _) (.cells #[.bool dh, .string ⟨dv.toArray⟩, .string ⟨de.toArray⟩, .string ⟨da.toArray⟩] 53)
  have B2 := Lib.hid (a1.alloc a1.size (.cells #[.bool dh, .string ⟨dv.toArray⟩, .string ⟨de.toArray⟩, .string ⟨da.toArray⟩] 56))
  clear a1
  cases dh
  all_goals
    go_enter Tryd.func25, Tryd.ntmps25
    go_wp2
    go_ret
    exact ⟨rfl, B2.out⟩
theorem xdHas_c (A : Option Addr) (n cap : Nat) (l : List UInt8) (at_ : Int) (w : World) (h : Byt w w.heap.size A n cap l) (hm : n ≤ 100000) :
    Calls Tryd.prog 26 #[.slice A n cap, .int .i64 at_] w fun e w' => e = .returned (.bool (hasAt l at_)) ∧ Below w.heap.size w w' := by
  unfold hasAt
  rw [h.length]
  by_cases ha : at_ < 0 ∨ (n : Int) < at_
  · rw [if_pos ha]; exact (xdHas_range A n cap at_ w ha).mono fun e w' ⟨he, hw⟩ => ⟨he, hw ▸ Below.refl _ _⟩
  · rw [if_neg ha]
    obtain ⟨k, rfl⟩ : ∃ k : Nat, at_ = (k : Int) := ⟨at_.toNat, by omega⟩
    exact xdHas_in A n cap l k w h hm (by omega)
theorem refHasX_c (A : Option Addr) (n cap : Nat) (l : List UInt8) (at_ : Int) (w : World) (h : Byt w w.heap.size A n cap l) (hm : n ≤ 100000) (hb : at_ ≤ 9223372036854775807) :
    Calls Tryd.prog 27 #[.slice A n cap, .int .i64 at_] w fun e w' => e = .returned (.bool (hasAt l at_)) ∧ w = w' := by
  unfold hasAt
  rw [h.length]
  by_cases ha : at_ < 0 ∨ (n : Int) < at_
  · rw [if_pos ha]; exact refHas_far A n cap at_ w (by omega) ha hb
  · rw [if_neg ha]
    obtain ⟨k, rfl⟩ : ∃ k : Nat, at_ = (k : Int) := ⟨at_.toNat, by omega⟩
    exact refHas_in A n cap l k _ w h hm (by omega)
set_option maxRecDepth 100000 in
set_option maxHeartbeats 8000000 in
theorem live9_c (w : World) (hT : FoldT w) : Calls Tryd.prog 22 #[] w fun e w' => e = .returned (.bool true) ∧ Below w.heap.size w w' := by
  have kc := fun (w : World) (C : Array Value) (n c : Nat) => Lib.run_convert_bytes_const (P := Tryd.prog) w 22 5 C n c Tryd.underlying22 Tryd.underlying5
  have C1 : Hid (∀ W, Below w.heap.size w W → Calls Tryd.prog 23 #[.slice (some ⟨W.heap.size, 0, none⟩) 21 21, .int .i64 0] (W.alloc (.cells #[.int .u8 60, .int .u8 63, .int .u8 120, .int .u8 109, .int .u8 108, .int .u8 32, .int .u8 118, .int .u8 101, .int .u8 114, .int .u8 115, .int .u8 105, .int .u8 111, .int .u8 110, .int .u8 61, .int .u8 34, .int .u8 49, .int .u8 46, .int .u8 48, .int .u8 34, .int .u8 63, .int .u8 62] 5 (21, 22))) fun e w' => e = .returned (.tuple #[.agg #[.bool true, .string ⟨#[49, 46, 48]⟩, .string ⟨#[]⟩, .string ⟨#[]⟩], .int .i64 21, .int .i64 0]) ∧ Below W.heap.size W w') := Lib.hid fun W hb => by
    have k1 := alloc_const W [60, 63, 120, 109, 108, 32, 118, 101, 114, 115, 105, 111, 110, 61, 34, 49, 46, 48, 34, 63, 62] (21, 22) (by decide)
    have hb1 := hb.trans (k1.1.mono hb.size)
    have := xdXml_c _ _ _ _ 0 _ (k1.2.more (by simp)) (by decide) (hT.below hb1 hT.lt)
    rw [show declAt false [60, 63, 120, 109, 108, 32, 118, 101, 114, 115, 105, 111, 110, 61, 34, 49, 46, 48, 34, 63, 62] 0 = (⟨true, [49, 46, 48], [], []⟩, 21, 0) by kernel_rfl] at this
    exact this.mono fun e w' ⟨he, hb2⟩ => ⟨he, k1.1.trans (hb2.mono k1.1.size)⟩
  have C2 : Hid (∀ W, Below w.heap.size w W → Calls Tryd.prog 23 #[.slice (some ⟨W.heap.size, 0, none⟩) 4 4, .int .i64 0] (W.alloc (.cells #[.int .u8 60, .int .u8 97, .int .u8 47, .int .u8 62] 5 (4, 5))) fun e w' => e = .returned (.tuple #[.agg #[.bool false, .string ⟨#[]⟩, .string ⟨#[]⟩, .string ⟨#[]⟩], .int .i64 0, .int .i64 0]) ∧ Below W.heap.size W w') := Lib.hid fun W hb => by
    have k1 := alloc_const W [60, 97, 47, 62] (4, 5) (by decide)
    have hb1 := hb.trans (k1.1.mono hb.size)
    have := xdXml_c _ _ _ _ 0 _ (k1.2.more (by simp)) (by decide) (hT.below hb1 hT.lt)
    rw [show declAt false [60, 97, 47, 62] 0 = (noDecl, 0, 0) by kernel_rfl] at this
    exact this.mono fun e w' ⟨he, hb2⟩ => ⟨he, k1.1.trans (hb2.mono k1.1.size)⟩
  have hi : (Tryd.prog.info? 53).map (·.size) = some 4 := by kernel_rfl
  obtain ⟨d, hu⟩ := isStruct_of (P := Tryd.prog) (t := 53) (by kernel_rfl)
  have HU := Lib.hid (And.intro hi hu)
  clear hT hi hu
  go_enter Tryd.func22, Tryd.ntmps22
  go_wp2_with fail
  refine (C1.out _ (Below.refl _ _)).mono ?_
  rintro e w1 ⟨rfl, hb⟩
  have hq := hp_new w1 (.cells #[.bool true, .string ⟨#[49, 46, 48]⟩, .string ⟨#[]⟩, .string ⟨#[]⟩] 53)
  have ka := (Below.refl _ w1).alloc (Nat.le_refl _) (.cells #[.bool true, .string ⟨#[49, 46, 48]⟩, .string ⟨#[]⟩, .string ⟨#[]⟩] 53)
  have B1a := Lib.hid (hb.trans (ka.mono hb.size))
  have HQ := Lib.hid hq
  clear hb hq ka
  go_wp2_with fail
  generalize hv : w1.alloc (.cells #[.bool true, .string ⟨#[49, 46, 48]⟩, .string ⟨#[]⟩, .string ⟨#[]⟩] 53) = v1 at *
  have hs : w1.heap.size + 1 = v1.heap.size := by rw [← hv]; simp
  rw [hs, kc v1]
  clear hv
  go_wp2_with fail
  refine (C2.out _ B1a.out).mono ?_
  rintro e w2 ⟨rfl, hb⟩
  clear kc
  have ka2 := (Below.refl _ w2).alloc (Nat.le_refl _) (.cells #[.bool false, .string ⟨#[]⟩, .string ⟨#[]⟩, .string ⟨#[]⟩] 53)
  have hq2 : Hid ((w2.alloc (.cells #[.bool false, .string ⟨#[]⟩, .string ⟨#[]⟩, .string ⟨#[]⟩] 53)).heap[w1.heap.size]? = some (.cells #[.bool true, .string ⟨#[49, 46, 48]⟩, .string ⟨#[]⟩, .string ⟨#[]⟩] 53)) := Lib.hid (by
    rw [Below.heap_alloc _ _ _ (by have := hb.size; omega), hb.block _ (by omega)]
    exact HQ.out)
  have hq3 := Lib.hid (hp_new w2 (.cells #[.bool false, .string ⟨#[]⟩, .string ⟨#[]⟩, .string ⟨#[]⟩] 53))
  have B2 := Lib.hid (B1a.out.trans ((hb.trans (ka2.mono hb.size)).mono B1a.out.size))
  clear hb ka2 HQ
  go_wp2_with (first | (refine wpList_load_row rfl _ _ rfl w1.heap.size rfl _ _ _ _ hq2.out HU.out.2 rfl HU.out.1 ?_) | (refine wpList_load_row rfl _ _ rfl w2.heap.size rfl _ _ _ _ hq3.out HU.out.2 rfl HU.out.1 ?_))
  go_ret
  exact ⟨rfl, B2.out⟩
set_option maxRecDepth 100000 in
set_option maxHeartbeats 8000000 in
theorem xdeclReads_walk (A : Option Addr) (n cap : Nat) (l : List UInt8) (at_ : Int) (w : World) (h : Byt w w.heap.size A n cap l) (hwf : (Lit.int .i64 at_).wf = true) (hT : FoldT w) :
    Calls Tryd.prog 6 #[.slice A n cap, .int .i64 at_] w fun e w' => e = .returned (.bool true) ∧ Below w.heap.size w w' := by
  have LV : Hid (∀ W, Below w.heap.size w W → Calls Tryd.prog 22 #[] W fun e w' => e = .returned (.bool true) ∧ Below W.heap.size W w') := Lib.hid fun W hb => live9_c W (hT.below hb hT.lt)
  have hrg := bounds_i64 hwf
  by_cases hn : n ≤ 400
  · have hn' : ¬ (400 : Int) < (n : Int) := by omega
    have HK : Hid (∀ W, Below w.heap.size w W → Byt W W.heap.size A n cap l ∧ FoldT W) := Lib.hid fun W hb => ⟨(h.below hb).more hb.size, hT.below hb hT.lt⟩
    have C1 : Hid (∀ W, Below w.heap.size w W → Calls Tryd.prog 23 #[.slice A n cap, .int .i64 at_] W fun e w' => e = .returned (declV (declAt false l at_)) ∧ Below W.heap.size W w') := Lib.hid fun W hb => xdXml_c A n cap l at_ W (HK.out W hb).1 (by omega) (HK.out W hb).2
    have C2 : Hid (∀ W, Below w.heap.size w W → Calls Tryd.prog 24 #[.slice A n cap, .int .i64 at_, .bool false] W fun e w' => e = .returned (declV (declAt false l at_)) ∧ Below W.heap.size W w') := Lib.hid fun W hb => refReadDecl_c false A n cap l at_ W (HK.out W hb).1 (by omega)
    have C3 : Hid (∀ W, Below w.heap.size w W → Calls Tryd.prog 28 #[.slice A n cap, .int .i64 at_] W fun e w' => e = .returned (declV (declAt true l at_)) ∧ Below W.heap.size W w') := Lib.hid fun W hb => xdText_c A n cap l at_ W (HK.out W hb).1 (by omega) (HK.out W hb).2
    have C4 : Hid (∀ W, Below w.heap.size w W → Calls Tryd.prog 24 #[.slice A n cap, .int .i64 at_, .bool true] W fun e w' => e = .returned (declV (declAt true l at_)) ∧ Below W.heap.size W w') := Lib.hid fun W hb => refReadDecl_c true A n cap l at_ W (HK.out W hb).1 (by omega)
    have C5 : Hid (∀ W, Below w.heap.size w W → Calls Tryd.prog 26 #[.slice A n cap, .int .i64 at_] W fun e w' => e = .returned (.bool (hasAt l at_)) ∧ Below W.heap.size W w') := Lib.hid fun W hb => xdHas_c A n cap l at_ W (HK.out W hb).1 (by omega)
    have C6 : Hid (∀ W, Below w.heap.size w W → Calls Tryd.prog 27 #[.slice A n cap, .int .i64 at_] W fun e w' => e = .returned (.bool (hasAt l at_)) ∧ W = w') := Lib.hid fun W hb => refHasX_c A n cap l at_ W (HK.out W hb).1 (by omega) (by omega)
    have hi : (Tryd.prog.info? 53).map (·.size) = some 4 := by kernel_rfl
    obtain ⟨d, hu⟩ := isStruct_of (P := Tryd.prog) (t := 53) (by kernel_rfl)
    have HU := Lib.hid (And.intro hi hu)
    have hi2 : (Tryd.prog.info? 56).map (·.size) = some 4 := by kernel_rfl
    obtain ⟨d2, hu2⟩ := isStruct_of (P := Tryd.prog) (t := 56) (by kernel_rfl)
    have HU2 := Lib.hid (And.intro hi2 hu2)
    generalize declAt false l at_ = o1 at *
    generalize declAt true l at_ = o2 at *
    generalize hasAt l at_ = hv at *
    obtain ⟨⟨h1, v1, e1, a1⟩, i1, x1⟩ := o1
    obtain ⟨⟨h2, v2, e2, a2⟩, i2, x2⟩ := o2
    unfold declV DeclL.cells at *
    clear HK h hT hn hwf hrg hi hu hi2 hu2
    have hvv : (hv == hv) = true := by simp
    go_enter Tryd.func6, Tryd.ntmps6
    go_wp2_with fail
    refine (C1.out _ (Below.refl _ _)).mono ?_
    rintro e w1 ⟨rfl, b1⟩
    have ka := (Below.refl _ w1).alloc (Nat.le_refl _) (.cells #[.bool h1, .string ⟨v1.toArray⟩, .string ⟨e1.toArray⟩, .string ⟨a1.toArray⟩] 53)
    have HQ := Lib.hid (hp_new w1 (.cells #[.bool h1, .string ⟨v1.toArray⟩, .string ⟨e1.toArray⟩, .string ⟨a1.toArray⟩] 53))
    have B1 := Lib.hid (b1.trans (ka.mono b1.size))
    have ha := Lib.hid b1.size
    clear b1 ka
    go_wp2_with fail
    refine (C2.out _ B1.out).mono ?_
    rintro e w2 ⟨rfl, b2⟩
    have hs2 := b2.size
    simp only [World.size_alloc] at hs2
    have ka2 := (Below.refl _ w2).alloc (Nat.le_refl _) (.cells #[.bool h1, .string ⟨v1.toArray⟩, .string ⟨e1.toArray⟩, .string ⟨a1.toArray⟩] 56)
    have J3 : Hid (LJ w1.heap.size w2.heap.size #[.bool h1, .string ⟨v1.toArray⟩, .string ⟨e1.toArray⟩, .string ⟨a1.toArray⟩] #[.bool h1, .string ⟨v1.toArray⟩, .string ⟨e1.toArray⟩, .string ⟨a1.toArray⟩] w (w2.alloc (.cells #[.bool h1, .string ⟨v1.toArray⟩, .string ⟨e1.toArray⟩, .string ⟨a1.toArray⟩] 56))) := Lib.hid
      ⟨B1.out.trans ((b2.trans (ka2.mono b2.size)).mono B1.out.size), by rw [Below.heap_alloc _ _ _ (by omega), b2.block _ (by simp)]; exact HQ.out, hp_new _ _⟩
    have hlt := Lib.hid hs2
    clear b2 ka2 HQ hs2
    go_wp2_with (first | (refine wpList_load_row rfl _ _ rfl w1.heap.size rfl _ _ _ _ J3.out.2.1 HU.out.2 rfl HU.out.1 ?_) | (refine wpList_load_row rfl _ _ rfl w2.heap.size rfl _ _ _ _ J3.out.2.2 HU2.out.2 rfl HU2.out.1 ?_))
    refine (same9_c h1 v1 e1 a1 _).mono ?_
    rintro e w4 ⟨rfl, b4⟩
    have J4 := Lib.hid (J3.out.kept b4)
    clear b4
    go_wp2_with fail
    refine (C5.out _ J4.out.1).mono ?_
    rintro e w5 ⟨rfl, b5⟩
    have J5 := Lib.hid (J4.out.kept b5)
    clear b5
    go_wp2_with fail
    refine (C6.out _ J5.out.1).mono ?_
    rintro e wq ⟨rfl, rfl⟩
    go_wp2_with fail
    refine (C3.out _ J5.out.1).mono ?_
    rintro e w6 ⟨rfl, b6⟩
    have J6 := Lib.hid (J5.out.kept b6)
    clear b6
    have J7 := Lib.hid (J6.out.rowA ha.out (by have := hlt.out; omega) #[.bool h2, .string ⟨v2.toArray⟩, .string ⟨e2.toArray⟩, .string ⟨a2.toArray⟩])
    go_wp2_with (refine wpList_store_row rfl _ _ _ rfl w1.heap.size #[.bool h2, .string ⟨v2.toArray⟩, .string ⟨e2.toArray⟩, .string ⟨a2.toArray⟩] rfl rfl _ _ J6.out.2.1 (by kernel_rfl) rfl (by kernel_rfl) ?_)
    refine (C4.out _ J7.out.1).mono ?_
    rintro e w8 ⟨rfl, b8⟩
    have J8 := Lib.hid (J7.out.kept b8)
    clear b8
    have J9 := Lib.hid (J8.out.rowB (by have := hlt.out; have := ha.out; omega) (by have := hlt.out; omega) #[.bool h2, .string ⟨v2.toArray⟩, .string ⟨e2.toArray⟩, .string ⟨a2.toArray⟩])
    go_wp2_with (first | (refine wpList_store_row rfl _ _ _ rfl w2.heap.size #[.bool h2, .string ⟨v2.toArray⟩, .string ⟨e2.toArray⟩, .string ⟨a2.toArray⟩] rfl rfl _ _ J8.out.2.2 (by kernel_rfl) rfl (by kernel_rfl) ?_) | (refine wpList_load_row rfl _ _ rfl w1.heap.size rfl _ _ _ _ J9.out.2.1 HU.out.2 rfl HU.out.1 ?_) | (refine wpList_load_row rfl _ _ rfl w2.heap.size rfl _ _ _ _ J9.out.2.2 HU2.out.2 rfl HU2.out.1 ?_))
    refine (same9_c h2 v2 e2 a2 _).mono ?_
    rintro e w10 ⟨rfl, b10⟩
    have J10 := Lib.hid (J9.out.kept b10)
    clear b10
    go_wp2_with fail
    refine (LV.out _ J10.out.1).mono ?_
    rintro e w11 ⟨rfl, b11⟩
    have B11 := Lib.hid (J10.out.1.trans (b11.mono J10.out.1.size))
    clear b11
    go_wp2
    go_ret
    exact ⟨rfl, B11.out⟩
  · have hn' : (400 : Int) < (n : Int) := by omega
    clear hT hn h hrg hwf
    go_enter Tryd.func6, Tryd.ntmps6
    go_wp2_with fail
    refine (LV.out _ (Below.refl _ _)).mono ?_
    rintro e w1 ⟨rfl, hb⟩
    have B1 := Lib.hid hb
    clear hb
    go_wp2
    go_ret
    exact ⟨rfl, B1.out⟩
/-- One part, as it is written. -/
def partT (word v : List UInt8) : List UInt8 := [32] ++ word ++ [61, 34] ++ v ++ [34]
def partsT (word v : List UInt8) : List UInt8 := if v = [] then [] else partT word v
def declT (d : DeclL) : List UInt8 := [60, 63, 120, 109, 108] ++ partsT verW d.ver ++ partsT encW d.enc ++ partsT aloneW d.alone ++ [63, 62]
def mayV (may : List UInt8 → Bool) (v : List UInt8) : Bool := decide (v = []) || may v
def mayPut (d : DeclL) : Bool := mayV verB d.ver && mayV encB d.enc && mayV aloneB d.alone
theorem take_while_mid (l : List UInt8) (c : UInt8) (r : List UInt8) (h : isBl c = false) : blankTo (l ++ c :: r) l.length = l.length :=
  blankTo_no _ _ c (by simp) h
theorem blank_one (a : List UInt8) (c : UInt8) (r : List UInt8) (h : isBl c = false) : blankTo (a ++ 32 :: c :: r) a.length = a.length + 1 := by
  rw [blankTo_yes _ _ 32 (by simp) (by decide +kernel)]
  have := blankTo_no (a ++ 32 :: c :: r) (a.length + 1) c (by rw [List.getElem?_append_right (by omega), show a.length + 1 - a.length = 1 by omega]; rfl) h
  exact this
theorem quoted_mid (a v r : List UInt8) (h : ∀ c ∈ v, c ≠ 34) : quotedAt (a ++ 34 :: (v ++ 34 :: r)) (a.length : Nat) = (v, a.length + v.length + 2, 0) := by
  unfold quotedAt
  rw [if_neg (by simp only [List.length_append, List.length_cons]; omega), Int.toNat_natCast]
  unfold quotedOut
  rw [show (a ++ 34 :: (v ++ 34 :: r))[a.length]? = some 34 by simp]
  simp only [true_or, if_true]
  unfold quotedQ
  have hd : (a ++ 34 :: (v ++ 34 :: r)).drop (a.length + 1) = v ++ 34 :: r := by
    rw [← List.drop_drop, List.drop_left]; rfl
  rw [hd, ix_eq 34 (v ++ 34 :: r) v.length (by simp) (fun i hi e => by
    rw [List.getElem?_append_left hi] at e
    exact h _ (List.mem_of_getElem? e) rfl), if_neg (by omega), Int.toNat_natCast, List.take_left]
theorem part_here (a word v rest : List UInt8) (may : List UInt8 → Bool) (hw : ∃ c t, word = c :: t ∧ isBl c = false) (hm : may v = true) (hq : ∀ c ∈ v, c ≠ 34) :
    partOut word may (a ++ partT word v ++ rest) a.length = some (v, (a ++ partT word v).length) := by
  obtain ⟨c, t, rfl, hc⟩ := hw
  have e : a ++ partT (c :: t) v ++ rest = a ++ 32 :: c :: (t ++ 61 :: 34 :: (v ++ 34 :: rest)) := by simp [partT]
  have hb := blank_one a c (t ++ 61 :: 34 :: (v ++ 34 :: rest)) hc
  rw [← e] at hb
  have e2 : a ++ partT (c :: t) v ++ rest = (a ++ 32 :: c :: t) ++ 61 :: (34 :: (v ++ 34 :: rest)) := by simp [partT]
  have h61 := take_while_mid (a ++ 32 :: c :: t) 61 (34 :: (v ++ 34 :: rest)) (by decide +kernel)
  rw [← e2] at h61
  have hl1 : (a ++ 32 :: c :: t).length = a.length + 1 + (c :: t).length := by simp; omega
  rw [hl1] at h61
  have hp : (c :: t).isPrefixOf ((a ++ partT (c :: t) v ++ rest).drop (a.length + 1)) = true := by
    rw [List.isPrefixOf_iff_prefix]
    refine ⟨61 :: 34 :: (v ++ 34 :: rest), ?_⟩
    rw [e, ← List.drop_drop, List.drop_left]
    simp
  rw [part_some (i := a.length + 1 + (c :: t).length) (by rw [hb]; omega) (by rw [hb]; exact hp) (by rw [hb]; exact h61)]
  rw [if_pos (by rw [e2, ← hl1]; simp)]
  have e3 : a ++ partT (c :: t) v ++ rest = (a ++ 32 :: c :: t ++ [61]) ++ 34 :: (v ++ 34 :: rest) := by simp [partT]
  have hl3 : (a ++ 32 :: c :: t ++ [61]).length = a.length + 1 + (c :: t).length + 1 := by simp; omega
  have h34 := take_while_mid (a ++ 32 :: c :: t ++ [61]) 34 (v ++ 34 :: rest) (by decide +kernel)
  rw [← e3, hl3] at h34
  have hqm := quoted_mid (a ++ 32 :: c :: t ++ [61]) v rest hq
  rw [← e3, hl3] at hqm
  rw [h34, hqm, if_pos ⟨rfl, hm⟩]
  simp [partT]
  omega
/-- No part where the end stands. -/
theorem part_end (a word : List UInt8) (may : List UInt8 → Bool) (c : UInt8) (r : List UInt8) (h : isBl c = false) : partOut word may (a ++ c :: r) a.length = some ([], a.length) :=
  part_none1 (take_while_mid a c r h)
/-- No part where another word stands. -/
theorem part_other (a word : List UInt8) (may : List UInt8 → Bool) (c : UInt8) (r : List UInt8) (h : isBl c = false) (hp : word.isPrefixOf (c :: r) = false) : partOut word may (a ++ 32 :: c :: r) a.length = some ([], a.length) := by
  refine part_none2 ?_
  rw [blank_one a c r h, ← List.drop_drop, List.drop_left]
  exact hp
theorem tail_here (a : List UInt8) (d : DeclL) : tailOut (a ++ [63, 62]) d a.length = (d, (a ++ [63, 62]).length, 0) := by
  unfold tailOut
  rw [take_while_mid a 63 [62] (by decide +kernel), List.drop_left]
  simp
theorem isDig_ne (s : List UInt8) (h : verB s = true) : ∀ c ∈ s, c ≠ 34 := by
  unfold verB at h
  simp only [Bool.and_eq_true] at h
  obtain ⟨⟨hp, _⟩, ha⟩ := h
  obtain ⟨t, rfl⟩ := List.isPrefixOf_iff_prefix.1 hp
  intro c hc e
  subst e
  simp at hc ha
  exact absurd (ha _ hc) (by decide)
theorem enc_ne (s : List UInt8) (h : encB s = true) : ∀ c ∈ s, c ≠ 34 := by
  intro c hc e
  subst e
  rw [← low_enc] at h
  have h2 : s.map lowB = [117, 116, 102, 45, 56] := by simpa using h
  have : lowB 34 ∈ s.map lowB := List.mem_map.2 ⟨34, hc, rfl⟩
  rw [h2] at this
  exact absurd this (by decide)
theorem alone_ne (s : List UInt8) (h : aloneB s = true) : ∀ c ∈ s, c ≠ 34 := by
  unfold aloneB at h
  simp only [Bool.or_eq_true, decide_eq_true_eq] at h
  rcases h with rfl | rfl <;> decide
theorem word_v : ∃ c t, verW = c :: t ∧ isBl c = false := ⟨118, [101, 114, 115, 105, 111, 110], rfl, by decide +kernel⟩
theorem word_e : ∃ c t, encW = c :: t ∧ isBl c = false := ⟨101, [110, 99, 111, 100, 105, 110, 103], rfl, by decide +kernel⟩
theorem word_a : ∃ c t, aloneW = c :: t ∧ isBl c = false := ⟨115, [116, 97, 110, 100, 97, 108, 111, 110, 101], rfl, by decide +kernel⟩
theorem mayV_ok {may : List UInt8 → Bool} {v : List UInt8} (h : mayV may v = true) (hv : v ≠ []) : may v = true := by
  unfold mayV at h
  simpa [hv] using h
/-- The last part, or none. -/
theorem alone_here (a v : List UInt8) (d : DeclL) (h : mayV aloneB v = true) : partOut aloneW aloneB (a ++ partsT aloneW v ++ [63, 62]) a.length = some (v, (a ++ partsT aloneW v).length) := by
  unfold partsT
  by_cases hv : v = []
  · rw [if_pos hv, hv]
    simpa using part_end a aloneW aloneB 63 [62] (by decide +kernel)
  · rw [if_neg hv]
    exact part_here a aloneW v [63, 62] aloneB word_a (mayV_ok h hv) (alone_ne v (mayV_ok h hv))
theorem enc_here (a v u : List UInt8) (h : mayV encB v = true) : partOut encW encB (a ++ partsT encW v ++ (partsT aloneW u ++ [63, 62])) a.length = some (v, (a ++ partsT encW v).length) := by
  by_cases hv : v = []
  · subst hv
    unfold partsT
    rw [if_pos rfl]
    by_cases hu : u = []
    · rw [if_pos hu]
      simpa using part_end a encW encB 63 [62] (by decide +kernel)
    · rw [if_neg hu]
      have := part_other a encW encB 115 ([116, 97, 110, 100, 97, 108, 111, 110, 101] ++ [61, 34] ++ u ++ [34] ++ [63, 62]) (by decide +kernel) (by simp [encW, List.isPrefixOf])
      simpa [partT, aloneW] using this
  · have hh := part_here a encW v (partsT aloneW u ++ [63, 62]) encB word_e (mayV_ok h hv) (enc_ne v (mayV_ok h hv))
    rw [show partsT encW v = partT encW v by unfold partsT; rw [if_neg hv]]
    exact hh
theorem declT_hasX (d : DeclL) (hne : d.ver ≠ [] ∨ d.enc ≠ []) : hasX (declT d) 0 = true := by
  have hx : ∀ r : List UInt8, hasX ([60, 63, 120, 109, 108] ++ 32 :: r) 0 = true := fun r => by
    unfold hasX
    simp [List.isPrefixOf]
    decide +kernel
  have e : ∃ r, declT d = [60, 63, 120, 109, 108] ++ 32 :: r := by
    unfold declT partsT
    by_cases hv : d.ver = []
    · have he : d.enc ≠ [] := by
        rcases hne with h | h
        · exact absurd hv h
        · exact h
      rw [if_pos hv, if_neg he]
      exact ⟨encW ++ [61, 34] ++ d.enc ++ [34] ++ (if d.alone = [] then [] else partT aloneW d.alone) ++ [63, 62], by simp [partT]⟩
    · rw [if_neg hv]
      exact ⟨verW ++ [61, 34] ++ d.ver ++ [34] ++ (if d.enc = [] then [] else partT encW d.enc) ++ (if d.alone = [] then [] else partT aloneW d.alone) ++ [63, 62], by simp [partT]⟩
  obtain ⟨r, hr⟩ := e
  rw [hr]
  exact hx r
/-- What is written of a version reads as itself. -/
theorem decl_back (d : DeclL) (hh : d.has = true) (hm : mayPut d = true) (hv : d.ver ≠ []) : declOut false (declT d) 0 = (d, (declT d).length, 0) := by
  unfold mayPut at hm
  simp only [Bool.and_eq_true] at hm
  obtain ⟨⟨m1, m2⟩, m3⟩ := hm
  unfold declOut
  rw [if_pos (declT_hasX d (.inl hv))]
  have e1 : declT d = [60, 63, 120, 109, 108] ++ partT verW d.ver ++ (partsT encW d.enc ++ partsT aloneW d.alone ++ [63, 62]) := by
    unfold declT; rw [show partsT verW d.ver = partT verW d.ver by unfold partsT; rw [if_neg hv]]; simp only [List.append_assoc]
  have p1 := part_here [60, 63, 120, 109, 108] verW d.ver (partsT encW d.enc ++ partsT aloneW d.alone ++ [63, 62]) verB word_v (mayV_ok m1 hv) (isDig_ne _ (mayV_ok m1 hv))
  rw [← e1] at p1
  have e2 : declT d = ([60, 63, 120, 109, 108] ++ partT verW d.ver) ++ partsT encW d.enc ++ (partsT aloneW d.alone ++ [63, 62]) := by rw [e1]; simp only [List.append_assoc]
  have p2 := enc_here ([60, 63, 120, 109, 108] ++ partT verW d.ver) d.enc d.alone m2
  rw [← e2] at p2
  have e3 : declT d = ([60, 63, 120, 109, 108] ++ partT verW d.ver ++ partsT encW d.enc) ++ partsT aloneW d.alone ++ [63, 62] := by rw [e1]; simp only [List.append_assoc]
  have p3 := alone_here ([60, 63, 120, 109, 108] ++ partT verW d.ver ++ partsT encW d.enc) d.alone d m3
  rw [← e3] at p3
  have e4 : declT d = ([60, 63, 120, 109, 108] ++ partT verW d.ver ++ partsT encW d.enc ++ partsT aloneW d.alone) ++ [63, 62] := e3
  have p4 := tail_here ([60, 63, 120, 109, 108] ++ partT verW d.ver ++ partsT encW d.enc ++ partsT aloneW d.alone) d
  rw [← e4] at p4
  unfold readDecl
  rw [show (0 : Nat) + 5 = ([60, 63, 120, 109, 108] : List UInt8).length from rfl, p1]
  simp only
  rw [if_neg (by intro h; have := h.1; simp [partT] at this)]
  unfold readEnc
  rw [p2]
  simp only [Bool.false_eq_true, if_false]
  unfold readAlone
  rw [p3]
  simp only
  rw [← p4]
  congr 1
  cases d
  simp only at hh
  subst hh
  rfl
theorem decl_back_text (d : DeclL) (hh : d.has = true) (hm : mayPut d = true) (he : d.enc ≠ []) (ha : d.alone = []) : declOut true (declT d) 0 = (d, (declT d).length, 0) := by
  unfold mayPut at hm
  simp only [Bool.and_eq_true] at hm
  obtain ⟨⟨m1, m2⟩, m3⟩ := hm
  unfold declOut
  rw [if_pos (declT_hasX d (.inr he))]
  have e0 : declT d = [60, 63, 120, 109, 108] ++ partsT verW d.ver ++ (partT encW d.enc ++ [63, 62]) := by
    unfold declT; rw [show partsT encW d.enc = partT encW d.enc by unfold partsT; rw [if_neg he], ha]; simp [partsT]
  have p1 : partOut verW verB (declT d) 5 = some (d.ver, ([60, 63, 120, 109, 108] ++ partsT verW d.ver).length) := by
    by_cases hv : d.ver = []
    · rw [e0, hv]
      have := part_other [60, 63, 120, 109, 108] verW verB 101 ([110, 99, 111, 100, 105, 110, 103] ++ [61, 34] ++ d.enc ++ [34] ++ [63, 62]) (by decide +kernel) (by simp [verW, List.isPrefixOf])
      simpa [partsT, partT, encW] using this
    · have := part_here [60, 63, 120, 109, 108] verW d.ver (partT encW d.enc ++ [63, 62]) verB word_v (mayV_ok m1 hv) (isDig_ne _ (mayV_ok m1 hv))
      rw [e0, show partsT verW d.ver = partT verW d.ver by unfold partsT; rw [if_neg hv]]
      exact this
  have e2 : declT d = ([60, 63, 120, 109, 108] ++ partsT verW d.ver) ++ partT encW d.enc ++ [63, 62] := by rw [e0]; simp only [List.append_assoc]
  have p2 := part_here ([60, 63, 120, 109, 108] ++ partsT verW d.ver) encW d.enc [63, 62] encB word_e (mayV_ok m2 he) (enc_ne _ (mayV_ok m2 he))
  rw [← e2] at p2
  have p4 := tail_here ([60, 63, 120, 109, 108] ++ partsT verW d.ver ++ partT encW d.enc) d
  rw [← e2] at p4
  unfold readDecl
  rw [show (0 : Nat) + 5 = 5 from rfl, p1]
  simp only
  rw [if_neg (by intro h; cases h.2)]
  unfold readEnc
  rw [p2]
  simp only [if_true]
  rw [if_neg (by simp [partT]), ← p4]
  congr 1
  cases d
  simp only at hh ha
  subst hh ha
  rfl
theorem mayV_nil (may : List UInt8 → Bool) {v : List UInt8} (h : v = []) : mayV may v = true := by subst h; rfl
theorem mayV_of {may : List UInt8 → Bool} {v : List UInt8} (h : may v = true) : mayV may v = true := by unfold mayV; rw [h]; simp
theorem mayV_no {may : List UInt8 → Bool} {v : List UInt8} (h : may v = false) (hv : v ≠ []) : mayV may v = false := by unfold mayV; rw [h]; simp [hv]
theorem partsT_nil (word : List UInt8) {v : List UInt8} (h : v = []) : partsT word v = [] := by unfold partsT; rw [if_pos h]
theorem partsT_some (word : List UInt8) {v : List UInt8} (h : v ≠ []) : partsT word v = partT word v := by unfold partsT; rw [if_neg h]
/-- Every block but b that holds no bytes stands. -/
def Kp (b : Nat) (w w' : World) : Prop := ∀ k vs T f, k ≠ b → T ≠ 5 → w.heap[k]? = some (.cells vs T f) → w'.heap[k]? = some (.cells vs T f)
theorem Kp.trans {b : Nat} {x y z : World} (h : Kp b x y) (k : Kp b y z) : Kp b x z := fun j vs T f h1 h2 h3 => k j vs T f h1 h2 (h j vs T f h1 h2 h3)
/-- copyCheck, and what stands behind it. -/
theorem copyCheck_k (b : Nat) (l : List UInt8) (w : World) (h : Bld (b + 1) b l w) :
    Calls Tryd.prog 62 #[.pointer (some ⟨b, 0, none⟩)] w fun e w' => e = .returned (.tuple #[]) ∧ BldP (.pointer (some ⟨b, 0, none⟩)) (b + 1) b l w' ∧ Fr (b + 1) b w w' ∧ Kp b w w' := by
  rcases h with ⟨hb, v, hh, ho⟩ | h
  · refine (copyCheck_fresh b w (by rw [cell_of 0 hh]; rfl) (by simp [World.shape?, hh]) (free_of 0 hh)).mono ?_
    rintro e w' ⟨rfl, rfl⟩
    refine ⟨rfl, ⟨hb, v, ?_, ?_⟩, (Fr.refl (b + 1) b w).set 0 _, fun k vs T f h1 _ h3 => by rw [hp_other h1]; exact h3⟩
    · rw [hp_set hh]; rfl
    · refine ho.kept (row := some b) ((gr_refl w (some b)).setCell 0 _) (Or.inr ?_)
      intro e
      have := (ho.lt b e).1
      omega
  · obtain ⟨hb, v, hh, ho⟩ := h
    refine (copyCheck_used b w (by rw [cell_of 0 hh]; rfl)).mono ?_
    rintro e w' ⟨rfl, rfl⟩
    exact ⟨rfl, ⟨hb, v, hh, ho⟩, Fr.refl _ b _, fun k vs T f _ _ h3 => h3⟩
theorem ownsRow_type {w : World} {B : Nat} {e : TypeId} {c n : Nat} {v : Value} {xs : List Value} (h : w.ownsRow B e c v n xs) {k : Nat} {vs : Array Value} {T : TypeId} {f : Nat × Nat} (hk : w.heap[k]? = some (.cells vs T f)) (hT : T ≠ e) : some k ≠ v.ownBlock := by
  obtain ⟨hl, ⟨hv, _⟩ | ⟨g, cap, cur, hv, hg, hh, r⟩⟩ := h
  · rw [hv]; simp [Value.ownBlock]
  · rw [hv]
    intro e'
    simp [Value.ownBlock] at e'
    subst e'
    rw [hh] at hk
    cases hk
    exact hT rfl
set_option maxRecDepth 100000 in
set_option maxHeartbeats 4000000 in
/-- (*strings.Builder).WriteString, and what stands behind it. -/
theorem writeString_k (b : Nat) (l s : List UInt8) (w : World) (h : Bld (b + 1) b l w) (hlen : l.length + s.length ≤ 140737488355328) :
    Calls Tryd.prog 41 #[.pointer (some ⟨b, 0, none⟩), .string ⟨s.toArray⟩] w fun e w' => e = .returned (.tuple #[.int .i64 s.length, .nilIface]) ∧ Bld (b + 1) b (l ++ s) w' ∧ Fr (b + 1) b w w' ∧ Kp b w w' := by
  obtain ⟨i0, hi, hz0, hz1, hz2⟩ := info_parts (show (Tryd.prog.info? 5).map (fun i => (i.zero, i.size, i.bytes)) = some (some (.int .u8 0), 1, 1) by kernel_rfl)
  have hRw : b + 1 ≤ w.heap.size := h.lt
  have hss : (⟨s.toArray⟩ : ByteArray).size = s.length := by simp [ByteArray.size]
  have HSS := Lib.hid hss
  have hsc : Lib.strCells ⟨s.toArray⟩ = Lib.byteCells s := by simp [Lib.strCells, Lib.byteCells]
  have HSC := Lib.hid hsc
  have hle : (⟨s.toArray⟩ : ByteArray).size + l.length ≤ 140737488355328 := by omega
  have hsn : Lib.byteCells l ++ Lib.byteCells s = Lib.byteCells (l ++ s) := by simp [Lib.byteCells]
  have HSN := Lib.hid hsn
  rw [← hss]
  clear hss hsn hsc hlen
  generalize (⟨s.toArray⟩ : ByteArray) = sa at *
  go_enter Tryd.func41, Tryd.ntmps41
  go_wp2_with fail
  refine (copyCheck_k b l _ h).mono ?_
  rintro e w1 ⟨rfl, ⟨hbR, v, hbk, hown⟩, hf1, hk1⟩
  have c0 : w1.cell? ⟨b, 0, none⟩ = some (.pointer (some ⟨b, 0, none⟩)) := by rw [cell_of 0 hbk]; rfl
  have c1 : w1.cell? ⟨b, 1, none⟩ = some v := by rw [cell_of 1 hbk]; rfl
  have hs1 := hf1.size
  go_wp2_with (at_builtin; refine Lib.wpList_append_own_string _ rfl _ _ 22 9 rfl (b + 1) 5 i0 Tryd.underlying22 Tryd.underlying9 hi hz0 hz1 hz2 _ _ _ rfl hown sa rfl ?c3 ?c4 ?c5 ?_)
  case c3 => unfold maxLen; omega
  case c4 => omega
  case c5 => omega
  intro v' w2 hown' hgrow _
  have hlt : b < w1.heap.size := lt_of hbk
  have hne : some b ≠ v.ownBlock := by
    intro e
    have := (hown.lt b e.symm).1
    omega
  have hb2 : w2.heap[b]? = some (.cells #[.pointer (some ⟨b, 0, none⟩), v] 78 (0, 0)) := by
    rw [hgrow.block b hlt hne]
    exact hbk
  have d0 : w2.cell? ⟨b, 0, none⟩ = some (.pointer (some ⟨b, 0, none⟩)) := by rw [cell_of 0 hb2]; rfl
  have d1 : w2.cell? ⟨b, 1, none⟩ = some v := by rw [cell_of 1 hb2]; rfl
  have f1 : w2.frozen? ⟨b, 1, none⟩ = false := free_of 1 hb2
  have hF2 : Fr (b + 1) b w w2 := hf1.trans ⟨hgrow.os, hgrow.tape, hgrow.output, hgrow.size, fun k hk hkb => hgrow.block k (by omega) (fun e => by have := (hown.lt k e.symm).1; omega)⟩
  have hK2 : Kp b w w2 := hk1.trans fun k vs T f _ h2 h3 => by rw [hgrow.block k (lt_of h3) (ownsRow_type hown h3 h2)]; exact h3
  obtain ⟨ao, n', cap, rfl⟩ : ∃ ao n' cap, v' = .slice ao n' cap := by
    rcases hown'.2 with ⟨hv, _⟩ | ⟨g, cap, cur, hv, _⟩
    · exact ⟨_, _, _, hv⟩
    · exact ⟨_, _, _, hv⟩
  have HF2 := Lib.hid hF2
  have HK2 := Lib.hid hK2
  have HO := Lib.hid hown'
  clear hF2 hK2 hown' hgrow hown h hf1 hk1 hbk
  go_wp2
  go_ret2
  refine ⟨rfl, Or.inr ⟨hbR, _, by rw [hp_set hb2]; rfl, ?_⟩, HF2.out.set 1 _, fun k vs T f h1 h2 h3 => by rw [hp_other h1]; exact HK2.out k vs T f h1 h2 h3⟩
  have ho2 := HO.out
  rw [HSC.out, HSN.out, HSS.out] at ho2
  rw [List.length_append]
  refine ho2.kept (row := some b) ((gr_refl w2 (some b)).setCell 1 _) (Or.inr ?_)
  intro e
  have := (ho2.lt b e).1
  omega
/-- What is written of a declaration; or why it can't be. -/
def putDeclOut (d : DeclL) : List UInt8 × Nat := if d.has = true ∧ ¬ (d.ver = [] ∧ d.enc = []) ∧ mayPut d = true then (declT d, 0) else ([], 7)
def PP (o : List UInt8 × Nat) (w : World) (e : Ending) (w' : World) : Prop := e = .returned (.tuple #[.string ⟨o.1.toArray⟩, .int .i64 (o.2 : Int)]) ∧ Below w.heap.size w w'
theorem putDecl_bad {d : DeclL} (h : ¬ (d.has = true ∧ ¬ (d.ver = [] ∧ d.enc = []) ∧ mayPut d = true)) : putDeclOut d = ([], 7) := by unfold putDeclOut; rw [if_neg h]
theorem putDecl_good {d : DeclL} (h : d.has = true ∧ ¬ (d.ver = [] ∧ d.enc = []) ∧ mayPut d = true) : putDeclOut d = (declT d, 0) := by unfold putDeclOut; rw [if_pos h]
theorem PP.bad {o : List UInt8 × Nat} {w w' : World} {e : Ending} (h : o = ([], 7)) (he : e = .returned (.tuple #[.string ⟨#[]⟩, .int .i64 7])) (hb : Below w.heap.size w w') : PP o w e w' := by
  subst h
  exact ⟨he, hb⟩
theorem PP.good {o : List UInt8 × Nat} {t : List UInt8} {w w' : World} {e : Ending} (h : o = (t, 0)) (he : e = .returned (.tuple #[.string ⟨t.toArray⟩, .int .i64 0])) (hb : Below w.heap.size w w') : PP o w e w' := by
  subst h
  exact ⟨he, hb⟩
/-- While a declaration is written: its own block, the builder, the row of parts. -/
def PU (vs pa : Array Value) (pb : Nat) (T : List UInt8) (w W : World) : Prop := Below w.heap.size w W ∧ W.heap[w.heap.size]? = some (.cells vs 53) ∧ Bld (w.heap.size + 1 + 1) (w.heap.size + 1) T W ∧ W.heap[pb]? = some (.cells pa 93)
theorem PU.kept {vs pa : Array Value} {pb : Nat} {T : List UInt8} {w W W' : World} (h : PU vs pa pb T w W) (hb : Below W.heap.size W W') : PU vs pa pb T w W' :=
  ⟨h.1.trans (hb.mono h.1.size), by rw [hb.block _ (lt_of h.2.1)]; exact h.2.1, h.2.2.1.kept hb, by rw [hb.block _ (lt_of h.2.2.2)]; exact h.2.2.2⟩
theorem PU.wrote {vs pa : Array Value} {pb : Nat} {T T' : List UInt8} {w W W' : World} (h : PU vs pa pb T w W) (hp : w.heap.size + 1 < pb) (hB : Bld (w.heap.size + 1 + 1) (w.heap.size + 1) T' W') (hf : Fr (w.heap.size + 1 + 1) (w.heap.size + 1) W W') (hk : Kp (w.heap.size + 1) W W') : PU vs pa pb T' w W' :=
  ⟨h.1.trans (hf.below (by omega) (by omega)), by rw [hf.block _ (by omega) (by omega)]; exact h.2.1, hB, hk _ _ _ _ (by omega) (by decide) h.2.2.2⟩
/-- .. and the part at hand. -/
def PV (vs pa qc : Array Value) (pb q : Nat) (T : List UInt8) (w W : World) : Prop := PU vs pa pb T w W ∧ W.heap[q]? = some (.cells qc 93)
theorem PV.kept {vs pa qc : Array Value} {pb q : Nat} {T : List UInt8} {w W W' : World} (h : PV vs pa qc pb q T w W) (hb : Below W.heap.size W W') : PV vs pa qc pb q T w W' :=
  ⟨h.1.kept hb, by rw [hb.block _ (lt_of h.2)]; exact h.2⟩
theorem PV.drew {vs pa qc : Array Value} {pb q : Nat} {T : List UInt8} {w W : World} (h : PV vs pa qc pb q T w W) : PV vs pa qc pb q T w W.drew := ⟨⟨h.1.1.drew, h.1.2.1, h.1.2.2.1, h.1.2.2.2⟩, h.2⟩
/-- What the document writes of a declaration, and whether it can be. -/
def refPutOut (d : DeclL) : List UInt8 × Bool := if mayPut d = true then (declT d, d.has && (!d.ver.isEmpty || !d.enc.isEmpty)) else ([], false)
theorem refPut_bad {d : DeclL} (h : mayPut d = false) : refPutOut d = ([], false) := by unfold refPutOut; rw [if_neg (by rw [h]; simp)]
theorem refPut_good {d : DeclL} (h : mayPut d = true) : refPutOut d = (declT d, d.has && (!d.ver.isEmpty || !d.enc.isEmpty)) := by unfold refPutOut; rw [if_pos h]
set_option maxRecDepth 100000 in
set_option maxHeartbeats 16000000 in
theorem refPut_c (dh : Bool) (dv de da : List UInt8) (w : World) (h1 : dv.length ≤ 1000) (h2 : de.length ≤ 1000) (h3 : da.length ≤ 1000) :
    Calls Tryd.prog 30 #[.agg #[.bool dh, .string ⟨dv.toArray⟩, .string ⟨de.toArray⟩, .string ⟨da.toArray⟩]] w fun e w' => e = .returned (.tuple #[.string ⟨(refPutOut ⟨dh, dv, de, da⟩).1.toArray⟩, .bool (refPutOut ⟨dh, dv, de, da⟩).2]) ∧ Below w.heap.size w w' := by
  have b1 := (Below.refl w.heap.size w).alloc (Nat.le_refl _) (.cells #[.bool dh, .string ⟨dv.toArray⟩, .string ⟨de.toArray⟩, .string ⟨da.toArray⟩] 56)
  have b2 := b1.alloc b1.size (.cells #[.string ⟨dv.toArray⟩, .string ⟨de.toArray⟩, .string ⟨da.toArray⟩] 9)
  have b3 := b2.alloc b2.size (.cells #[.string ⟨#[118, 101, 114, 115, 105, 111, 110]⟩, .string ⟨#[101, 110, 99, 111, 100, 105, 110, 103]⟩, .string ⟨#[115, 116, 97, 110, 100, 97, 108, 111, 110, 101]⟩] 9)
  have n1 := hp_new w (.cells #[.bool dh, .string ⟨dv.toArray⟩, .string ⟨de.toArray⟩, .string ⟨da.toArray⟩] 56)
  have n2 := hp_new (w.alloc (.cells #[.bool dh, .string ⟨dv.toArray⟩, .string ⟨de.toArray⟩, .string ⟨da.toArray⟩] 56)) (.cells #[.string ⟨dv.toArray⟩, .string ⟨de.toArray⟩, .string ⟨da.toArray⟩] 9)
  have n3 := hp_new ((w.alloc (.cells #[.bool dh, .string ⟨dv.toArray⟩, .string ⟨de.toArray⟩, .string ⟨da.toArray⟩] 56)).alloc (.cells #[.string ⟨dv.toArray⟩, .string ⟨de.toArray⟩, .string ⟨da.toArray⟩] 9)) (.cells #[.string ⟨#[118, 101, 114, 115, 105, 111, 110]⟩, .string ⟨#[101, 110, 99, 111, 100, 105, 110, 103]⟩, .string ⟨#[115, 116, 97, 110, 100, 97, 108, 111, 110, 101]⟩] 9)
  rw [World.size_alloc] at n2
  rw [World.size_alloc, World.size_alloc] at n3
  have HW : Hid (∀ W, Below (w.heap.size + 3) (((w.alloc (.cells #[.bool dh, .string ⟨dv.toArray⟩, .string ⟨de.toArray⟩, .string ⟨da.toArray⟩] 56)).alloc (.cells #[.string ⟨dv.toArray⟩, .string ⟨de.toArray⟩, .string ⟨da.toArray⟩] 9)).alloc (.cells #[.string ⟨#[118, 101, 114, 115, 105, 111, 110]⟩, .string ⟨#[101, 110, 99, 111, 100, 105, 110, 103]⟩, .string ⟨#[115, 116, 97, 110, 100, 97, 108, 111, 110, 101]⟩] 9)) W → Below w.heap.size w W ∧ W.heap[w.heap.size]? = some (.cells #[.bool dh, .string ⟨dv.toArray⟩, .string ⟨de.toArray⟩, .string ⟨da.toArray⟩] 56) ∧ W.heap[w.heap.size + 1]? = some (.cells #[.string ⟨dv.toArray⟩, .string ⟨de.toArray⟩, .string ⟨da.toArray⟩] 9) ∧ W.heap[w.heap.size + 2]? = some (.cells #[.string ⟨#[118, 101, 114, 115, 105, 111, 110]⟩, .string ⟨#[101, 110, 99, 111, 100, 105, 110, 103]⟩, .string ⟨#[115, 116, 97, 110, 100, 97, 108, 111, 110, 101]⟩] 9)) := Lib.hid fun W hb =>
    ⟨b3.trans (hb.mono (by omega)), by rw [hb.block _ (by omega)]; exact hp_old (hp_old n1), by rw [hb.block _ (by omega)]; exact hp_old n2, by rw [hb.block _ (by omega)]; exact n3⟩
  have HS3 : Hid (∀ W, Below (w.heap.size + 3) (((w.alloc (.cells #[.bool dh, .string ⟨dv.toArray⟩, .string ⟨de.toArray⟩, .string ⟨da.toArray⟩] 56)).alloc (.cells #[.string ⟨dv.toArray⟩, .string ⟨de.toArray⟩, .string ⟨da.toArray⟩] 9)).alloc (.cells #[.string ⟨#[118, 101, 114, 115, 105, 111, 110]⟩, .string ⟨#[101, 110, 99, 111, 100, 105, 110, 103]⟩, .string ⟨#[115, 116, 97, 110, 100, 97, 108, 111, 110, 101]⟩] 9)) W → w.heap.size + 3 ≤ W.heap.size) := Lib.hid fun W hb => by have := hb.size; simp at this; omega
  generalize hT0 : ([60, 63, 120, 109, 108] : List UInt8) = T0
  generalize hT1 : T0 ++ partsT verW dv = T1
  generalize hT2 : T1 ++ partsT encW de = T2
  generalize hT3 : T2 ++ partsT aloneW da = T3
  have HT1 := Lib.hid hT1.symm
  have HT2 := Lib.hid hT2.symm
  have HT3 := Lib.hid hT3.symm
  have HGd : Hid (mayPut ⟨dh, dv, de, da⟩ = true → refPutOut ⟨dh, dv, de, da⟩ = (T3 ++ [63, 62], dh && (!dv.isEmpty || !de.isEmpty))) := Lib.hid fun hmp => by
    rw [refPut_good hmp, ← hT3, ← hT2, ← hT1, ← hT0]; rfl
  have hp : ∀ word v : List UInt8, word.length ≤ 100 → v.length ≤ 1000 → (partsT word v).length ≤ 1200 := fun word v hw hv => by
    unfold partsT partT
    split
    · simp
    · simp; omega
  have a0 : T0.length = 5 := by rw [← hT0]; rfl
  have a1 : T1.length ≤ 1300 := by rw [← hT1, List.length_append]; have := hp verW dv (by decide) h1; omega
  have a2 : T2.length ≤ 2600 := by rw [← hT2, List.length_append]; have := hp encW de (by decide) h2; omega
  have a3 : T3.length ≤ 3900 := by rw [← hT3, List.length_append]; have := hp aloneW da (by decide) h3; omega
  have HL0 := Lib.hid a0
  have HL1 := Lib.hid a1
  have HL2 := Lib.hid a2
  have HL3 := Lib.hid a3
  have hLn := Lib.hid (And.intro h1 (And.intro h2 h3))
  have hT0' : Value.string ⟨#[60, 63, 120, 109, 108]⟩ = .string ⟨T0.toArray⟩ := by rw [← hT0]
  have HV0 := Lib.hid hT0'
  clear hT0 hT1 hT2 hT3 hp a0 a1 a2 a3 h1 h2 h3 b1 b2 b3 n1 n2 n3 hT0'
  go_enter Tryd.func30, Tryd.ntmps30
  go_wp2_with fail
  have J0 : Hid (Below (w.heap.size + 3) (((w.alloc (.cells #[.bool dh, .string ⟨dv.toArray⟩, .string ⟨de.toArray⟩, .string ⟨da.toArray⟩] 56)).alloc (.cells #[.string ⟨dv.toArray⟩, .string ⟨de.toArray⟩, .string ⟨da.toArray⟩] 9)).alloc (.cells #[.string ⟨#[118, 101, 114, 115, 105, 111, 110]⟩, .string ⟨#[101, 110, 99, 111, 100, 105, 110, 103]⟩, .string ⟨#[115, 116, 97, 110, 100, 97, 108, 111, 110, 101]⟩] 9)) (((w.alloc (.cells #[.bool dh, .string ⟨dv.toArray⟩, .string ⟨de.toArray⟩, .string ⟨da.toArray⟩] 56)).alloc (.cells #[.string ⟨dv.toArray⟩, .string ⟨de.toArray⟩, .string ⟨da.toArray⟩] 9)).alloc (.cells #[.string ⟨#[118, 101, 114, 115, 105, 111, 110]⟩, .string ⟨#[101, 110, 99, 111, 100, 105, 110, 103]⟩, .string ⟨#[115, 116, 97, 110, 100, 97, 108, 111, 110, 101]⟩] 9))) := Lib.hid (Below.refl _ _)
  generalize (((w.alloc (.cells #[.bool dh, .string ⟨dv.toArray⟩, .string ⟨de.toArray⟩, .string ⟨da.toArray⟩] 56)).alloc (.cells #[.string ⟨dv.toArray⟩, .string ⟨de.toArray⟩, .string ⟨da.toArray⟩] 9)).alloc (.cells #[.string ⟨#[118, 101, 114, 115, 105, 111, 110]⟩, .string ⟨#[101, 110, 99, 111, 100, 105, 110, 103]⟩, .string ⟨#[115, 116, 97, 110, 100, 97, 108, 111, 110, 101]⟩] 9)) = w3 at *
  go_loopg [6, 7] (3) (fun g s k wr => (Hid (g = 3) ∧ s = .string ⟨T0.toArray⟩ ∧ k = .int .i64 0 ∧ Hid (Below (w.heap.size + 3) w3 wr)) ∨ (Hid (g = 2) ∧ s = .string ⟨T1.toArray⟩ ∧ k = .int .i64 1 ∧ Hid (mayV verB dv = true) ∧ Hid (Below (w.heap.size + 3) w3 wr)) ∨ (Hid (g = 1) ∧ s = .string ⟨T2.toArray⟩ ∧ k = .int .i64 2 ∧ Hid (mayV verB dv = true ∧ mayV encB de = true) ∧ Hid (Below (w.heap.size + 3) w3 wr)) ∨ (Hid (g = 0) ∧ s = .string ⟨T3.toArray⟩ ∧ k = .int .i64 3 ∧ Hid (mayV verB dv = true ∧ mayV encB de = true ∧ mayV aloneB da = true) ∧ Hid (Below (w.heap.size + 3) w3 wr)))
  case atStart => exact Or.inl ⟨Lib.hid rfl, HV0.out, rfl, J0⟩
  case round =>
    rcases hrel with ⟨hg, rfl, rfl, HB⟩ | ⟨hg, rfl, rfl, HO, HB⟩ | ⟨hg, rfl, rfl, HO, HB⟩ | ⟨hg, rfl, rfl, HO, HB⟩
    · obtain ⟨q0, q1, q2, q3⟩ := HW.out _ HB.out
      have zl := cell_of 0 q2
      have zw := cell_of 0 q3
      clear q0 q1 q2 q3
      by_cases hv : dv = []
      · have HT : Hid (Value.string ⟨T0.toArray⟩ = .string ⟨T1.toArray⟩) := Lib.hid (by rw [HT1.out, partsT_nil verW hv, List.append_nil])
        have hE : dv.isEmpty = true := by rw [hv]; rfl
        have HV := Lib.hid hv
        clear hv
        go_wp2
        go_roundg (3 - 1)
        case measure => have := hg.out; omega
        case rel => exact Or.inr (Or.inl ⟨Lib.hid rfl, HT.out, rfl, Lib.hid (mayV_nil verB HV.out), HB⟩)
      · have hE : dv.isEmpty = false := by cases dv with
          | nil => exact absurd rfl hv
          | cons a t => rfl
        have CM : Hid (∀ W, Below (w.heap.size + 3) w3 W → Calls Tryd.prog 54 #[.int .i64 0, .string ⟨dv.toArray⟩] W fun e w' => e = .returned (.bool (verB dv)) ∧ Hid (Below (w.heap.size + 3) w3 w')) := Lib.hid fun W hb => (refMay0_c dv W (by have := hLn.out; omega)).mono fun e w' ⟨he, hw⟩ => ⟨he, Lib.hid (hw ▸ hb)⟩
        cases hmy : verB dv with
        | false =>
          rw [hmy] at CM
          have HP : Hid (refPutOut ⟨dh, dv, de, da⟩ = ([], false)) := Lib.hid (refPut_bad (by unfold mayPut; rw [show mayV verB dv = false from mayV_no hmy hv]; rfl))
          clear hmy hv
          go_wp2_with fail
          refine (CM.out _ HB.out).mono ?_
          rintro e w5 ⟨rfl, HB5⟩
          have HBB := Lib.hid (HW.out _ HB5.out).1
          clear zl zw
          go_wp2
          go_ret2
          exact ⟨by rw [HP.out]; rfl, HBB.out⟩
        | true =>
          rw [hmy] at CM
          have HO2 : Hid (mayV verB dv = true) := Lib.hid (mayV_of hmy)
          have HT : Hid (Value.string ⟨(T0 ++ [32] ++ [118, 101, 114, 115, 105, 111, 110] ++ [61, 34] ++ dv ++ [34]).toArray⟩ = .string ⟨T1.toArray⟩) := Lib.hid (by rw [HT1.out, partsT_some verW hv]; simp [partT, verW])
          have p0 : ∀ w : World, (Op.stringOp .add ⟨T0.toArray⟩ ⟨#[32]⟩).run Tryd.prog w = .ok (.string ⟨(T0 ++ [32]).toArray⟩) w := fun w => run_sop (w := w) T0 [32] (by simp only [List.length_cons, List.length_nil]; have := hLn.out; have := HL0.out; omega)
          have p1 : ∀ w : World, (Op.stringOp .add ⟨(T0 ++ [32]).toArray⟩ ⟨#[118, 101, 114, 115, 105, 111, 110]⟩).run Tryd.prog w = .ok (.string ⟨(T0 ++ [32] ++ [118, 101, 114, 115, 105, 111, 110]).toArray⟩) w := fun w => run_sop (w := w) (T0 ++ [32]) [118, 101, 114, 115, 105, 111, 110] (by simp only [List.length_append, List.length_cons, List.length_nil]; have := hLn.out; have := HL0.out; omega)
          have p2 : ∀ w : World, (Op.stringOp .add ⟨(T0 ++ [32] ++ [118, 101, 114, 115, 105, 111, 110]).toArray⟩ ⟨#[61, 34]⟩).run Tryd.prog w = .ok (.string ⟨(T0 ++ [32] ++ [118, 101, 114, 115, 105, 111, 110] ++ [61, 34]).toArray⟩) w := fun w => run_sop (w := w) (T0 ++ [32] ++ [118, 101, 114, 115, 105, 111, 110]) [61, 34] (by simp only [List.length_append, List.length_cons, List.length_nil]; have := hLn.out; have := HL0.out; omega)
          have p3 : ∀ w : World, (Op.stringOp .add ⟨(T0 ++ [32] ++ [118, 101, 114, 115, 105, 111, 110] ++ [61, 34]).toArray⟩ ⟨dv.toArray⟩).run Tryd.prog w = .ok (.string ⟨(T0 ++ [32] ++ [118, 101, 114, 115, 105, 111, 110] ++ [61, 34] ++ dv).toArray⟩) w := fun w => run_sop (w := w) (T0 ++ [32] ++ [118, 101, 114, 115, 105, 111, 110] ++ [61, 34]) dv (by simp only [List.length_append, List.length_cons, List.length_nil]; have := hLn.out; have := HL0.out; omega)
          have p4 : ∀ w : World, (Op.stringOp .add ⟨(T0 ++ [32] ++ [118, 101, 114, 115, 105, 111, 110] ++ [61, 34] ++ dv).toArray⟩ ⟨#[34]⟩).run Tryd.prog w = .ok (.string ⟨(T0 ++ [32] ++ [118, 101, 114, 115, 105, 111, 110] ++ [61, 34] ++ dv ++ [34]).toArray⟩) w := fun w => run_sop (w := w) (T0 ++ [32] ++ [118, 101, 114, 115, 105, 111, 110] ++ [61, 34] ++ dv) [34] (by simp only [List.length_append, List.length_cons, List.length_nil]; have := hLn.out; have := HL0.out; omega)
          generalize T0 ++ [32] ++ [118, 101, 114, 115, 105, 111, 110] ++ [61, 34] ++ dv ++ [34] = s5 at *
          generalize T0 ++ [32] ++ [118, 101, 114, 115, 105, 111, 110] ++ [61, 34] ++ dv = s4 at *
          generalize T0 ++ [32] ++ [118, 101, 114, 115, 105, 111, 110] ++ [61, 34] = s3 at *
          generalize T0 ++ [32] ++ [118, 101, 114, 115, 105, 111, 110] = s2 at *
          generalize T0 ++ [32] = s1 at *
          clear hmy hv
          go_wp2_with fail
          refine (CM.out _ HB.out).mono ?_
          rintro e w5 ⟨rfl, HB5⟩
          clear zl zw
          obtain ⟨q0, q1, q2, q3⟩ := HW.out _ HB5.out
          have zl := cell_of 0 q2
          have zw := cell_of 0 q3
          clear q0 q1 q2 q3
          go_wp2
          go_quiet (fail)
          have HB6 := Lib.hid (below_drewN' (n := nq) HB5.out)
          clear zl zw
          generalize w5.drewN nq = w6 at *
          go_wp2
          go_roundg (3 - 1)
          case measure => have := hg.out; omega
          case rel => exact Or.inr (Or.inl ⟨Lib.hid rfl, HT.out, rfl, HO2, HB6⟩)
    · obtain ⟨q0, q1, q2, q3⟩ := HW.out _ HB.out
      have zl := cell_of 1 q2
      have zw := cell_of 1 q3
      clear q0 q1 q2 q3
      by_cases hv : de = []
      · have HT : Hid (Value.string ⟨T1.toArray⟩ = .string ⟨T2.toArray⟩) := Lib.hid (by rw [HT2.out, partsT_nil encW hv, List.append_nil])
        have hE : de.isEmpty = true := by rw [hv]; rfl
        have HV := Lib.hid hv
        clear hv
        go_wp2
        go_roundg (3 - 2)
        case measure => have := hg.out; omega
        case rel => exact Or.inr (Or.inr (Or.inl ⟨Lib.hid rfl, HT.out, rfl, Lib.hid ⟨HO.out, mayV_nil encB HV.out⟩, HB⟩))
      · have hE : de.isEmpty = false := by cases de with
          | nil => exact absurd rfl hv
          | cons a t => rfl
        have CM : Hid (∀ W, Below (w.heap.size + 3) w3 W → Calls Tryd.prog 54 #[.int .i64 1, .string ⟨de.toArray⟩] W fun e w' => e = .returned (.bool (encB de)) ∧ Hid (Below (w.heap.size + 3) w3 w')) := Lib.hid fun W hb => (refMay1_c de W (by have := hLn.out; omega)).mono fun e w' ⟨he, hb2⟩ => ⟨he, Lib.hid (hb.trans (hb2.mono (HS3.out _ hb)))⟩
        cases hmy : encB de with
        | false =>
          rw [hmy] at CM
          have HP : Hid (refPutOut ⟨dh, dv, de, da⟩ = ([], false)) := Lib.hid (refPut_bad (by unfold mayPut; rw [show mayV encB de = false from mayV_no hmy hv, Bool.and_false, Bool.false_and]))
          clear hmy hv
          go_wp2_with fail
          refine (CM.out _ HB.out).mono ?_
          rintro e w5 ⟨rfl, HB5⟩
          have HBB := Lib.hid (HW.out _ HB5.out).1
          clear zl zw
          go_wp2
          go_ret2
          exact ⟨by rw [HP.out]; rfl, HBB.out⟩
        | true =>
          rw [hmy] at CM
          have HO2 : Hid (mayV verB dv = true ∧ mayV encB de = true) := Lib.hid ⟨HO.out, mayV_of hmy⟩
          have HT : Hid (Value.string ⟨(T1 ++ [32] ++ [101, 110, 99, 111, 100, 105, 110, 103] ++ [61, 34] ++ de ++ [34]).toArray⟩ = .string ⟨T2.toArray⟩) := Lib.hid (by rw [HT2.out, partsT_some encW hv]; simp [partT, encW])
          have p0 : ∀ w : World, (Op.stringOp .add ⟨T1.toArray⟩ ⟨#[32]⟩).run Tryd.prog w = .ok (.string ⟨(T1 ++ [32]).toArray⟩) w := fun w => run_sop (w := w) T1 [32] (by simp only [List.length_cons, List.length_nil]; have := hLn.out; have := HL1.out; omega)
          have p1 : ∀ w : World, (Op.stringOp .add ⟨(T1 ++ [32]).toArray⟩ ⟨#[101, 110, 99, 111, 100, 105, 110, 103]⟩).run Tryd.prog w = .ok (.string ⟨(T1 ++ [32] ++ [101, 110, 99, 111, 100, 105, 110, 103]).toArray⟩) w := fun w => run_sop (w := w) (T1 ++ [32]) [101, 110, 99, 111, 100, 105, 110, 103] (by simp only [List.length_append, List.length_cons, List.length_nil]; have := hLn.out; have := HL1.out; omega)
          have p2 : ∀ w : World, (Op.stringOp .add ⟨(T1 ++ [32] ++ [101, 110, 99, 111, 100, 105, 110, 103]).toArray⟩ ⟨#[61, 34]⟩).run Tryd.prog w = .ok (.string ⟨(T1 ++ [32] ++ [101, 110, 99, 111, 100, 105, 110, 103] ++ [61, 34]).toArray⟩) w := fun w => run_sop (w := w) (T1 ++ [32] ++ [101, 110, 99, 111, 100, 105, 110, 103]) [61, 34] (by simp only [List.length_append, List.length_cons, List.length_nil]; have := hLn.out; have := HL1.out; omega)
          have p3 : ∀ w : World, (Op.stringOp .add ⟨(T1 ++ [32] ++ [101, 110, 99, 111, 100, 105, 110, 103] ++ [61, 34]).toArray⟩ ⟨de.toArray⟩).run Tryd.prog w = .ok (.string ⟨(T1 ++ [32] ++ [101, 110, 99, 111, 100, 105, 110, 103] ++ [61, 34] ++ de).toArray⟩) w := fun w => run_sop (w := w) (T1 ++ [32] ++ [101, 110, 99, 111, 100, 105, 110, 103] ++ [61, 34]) de (by simp only [List.length_append, List.length_cons, List.length_nil]; have := hLn.out; have := HL1.out; omega)
          have p4 : ∀ w : World, (Op.stringOp .add ⟨(T1 ++ [32] ++ [101, 110, 99, 111, 100, 105, 110, 103] ++ [61, 34] ++ de).toArray⟩ ⟨#[34]⟩).run Tryd.prog w = .ok (.string ⟨(T1 ++ [32] ++ [101, 110, 99, 111, 100, 105, 110, 103] ++ [61, 34] ++ de ++ [34]).toArray⟩) w := fun w => run_sop (w := w) (T1 ++ [32] ++ [101, 110, 99, 111, 100, 105, 110, 103] ++ [61, 34] ++ de) [34] (by simp only [List.length_append, List.length_cons, List.length_nil]; have := hLn.out; have := HL1.out; omega)
          generalize T1 ++ [32] ++ [101, 110, 99, 111, 100, 105, 110, 103] ++ [61, 34] ++ de ++ [34] = s5 at *
          generalize T1 ++ [32] ++ [101, 110, 99, 111, 100, 105, 110, 103] ++ [61, 34] ++ de = s4 at *
          generalize T1 ++ [32] ++ [101, 110, 99, 111, 100, 105, 110, 103] ++ [61, 34] = s3 at *
          generalize T1 ++ [32] ++ [101, 110, 99, 111, 100, 105, 110, 103] = s2 at *
          generalize T1 ++ [32] = s1 at *
          clear hmy hv
          go_wp2_with fail
          refine (CM.out _ HB.out).mono ?_
          rintro e w5 ⟨rfl, HB5⟩
          clear zl zw
          obtain ⟨q0, q1, q2, q3⟩ := HW.out _ HB5.out
          have zl := cell_of 1 q2
          have zw := cell_of 1 q3
          clear q0 q1 q2 q3
          go_wp2
          go_quiet (fail)
          have HB6 := Lib.hid (below_drewN' (n := nq) HB5.out)
          clear zl zw
          generalize w5.drewN nq = w6 at *
          go_wp2
          go_roundg (3 - 2)
          case measure => have := hg.out; omega
          case rel => exact Or.inr (Or.inr (Or.inl ⟨Lib.hid rfl, HT.out, rfl, HO2, HB6⟩))
    · obtain ⟨q0, q1, q2, q3⟩ := HW.out _ HB.out
      have zl := cell_of 2 q2
      have zw := cell_of 2 q3
      clear q0 q1 q2 q3
      by_cases hv : da = []
      · have HT : Hid (Value.string ⟨T2.toArray⟩ = .string ⟨T3.toArray⟩) := Lib.hid (by rw [HT3.out, partsT_nil aloneW hv, List.append_nil])
        have hE : da.isEmpty = true := by rw [hv]; rfl
        have HV := Lib.hid hv
        clear hv
        go_wp2
        go_roundg (3 - 3)
        case measure => have := hg.out; omega
        case rel => exact Or.inr (Or.inr (Or.inr ⟨Lib.hid rfl, HT.out, rfl, Lib.hid ⟨HO.out.1, HO.out.2, mayV_nil aloneB HV.out⟩, HB⟩))
      · have hE : da.isEmpty = false := by cases da with
          | nil => exact absurd rfl hv
          | cons a t => rfl
        have CM : Hid (∀ W, Below (w.heap.size + 3) w3 W → Calls Tryd.prog 54 #[.int .i64 2, .string ⟨da.toArray⟩] W fun e w' => e = .returned (.bool (aloneB da)) ∧ Hid (Below (w.heap.size + 3) w3 w')) := Lib.hid fun W hb => (refMay2_c da W).mono fun e w' ⟨he, hw⟩ => ⟨he, Lib.hid (hw ▸ hb)⟩
        cases hmy : aloneB da with
        | false =>
          rw [hmy] at CM
          have HP : Hid (refPutOut ⟨dh, dv, de, da⟩ = ([], false)) := Lib.hid (refPut_bad (by unfold mayPut; rw [show mayV aloneB da = false from mayV_no hmy hv, Bool.and_false]))
          clear hmy hv
          go_wp2_with fail
          refine (CM.out _ HB.out).mono ?_
          rintro e w5 ⟨rfl, HB5⟩
          have HBB := Lib.hid (HW.out _ HB5.out).1
          clear zl zw
          go_wp2
          go_ret2
          exact ⟨by rw [HP.out]; rfl, HBB.out⟩
        | true =>
          rw [hmy] at CM
          have HO2 : Hid (mayV verB dv = true ∧ mayV encB de = true ∧ mayV aloneB da = true) := Lib.hid ⟨HO.out.1, HO.out.2, mayV_of hmy⟩
          have HT : Hid (Value.string ⟨(T2 ++ [32] ++ [115, 116, 97, 110, 100, 97, 108, 111, 110, 101] ++ [61, 34] ++ da ++ [34]).toArray⟩ = .string ⟨T3.toArray⟩) := Lib.hid (by rw [HT3.out, partsT_some aloneW hv]; simp [partT, aloneW])
          have p0 : ∀ w : World, (Op.stringOp .add ⟨T2.toArray⟩ ⟨#[32]⟩).run Tryd.prog w = .ok (.string ⟨(T2 ++ [32]).toArray⟩) w := fun w => run_sop (w := w) T2 [32] (by simp only [List.length_cons, List.length_nil]; have := hLn.out; have := HL2.out; omega)
          have p1 : ∀ w : World, (Op.stringOp .add ⟨(T2 ++ [32]).toArray⟩ ⟨#[115, 116, 97, 110, 100, 97, 108, 111, 110, 101]⟩).run Tryd.prog w = .ok (.string ⟨(T2 ++ [32] ++ [115, 116, 97, 110, 100, 97, 108, 111, 110, 101]).toArray⟩) w := fun w => run_sop (w := w) (T2 ++ [32]) [115, 116, 97, 110, 100, 97, 108, 111, 110, 101] (by simp only [List.length_append, List.length_cons, List.length_nil]; have := hLn.out; have := HL2.out; omega)
          have p2 : ∀ w : World, (Op.stringOp .add ⟨(T2 ++ [32] ++ [115, 116, 97, 110, 100, 97, 108, 111, 110, 101]).toArray⟩ ⟨#[61, 34]⟩).run Tryd.prog w = .ok (.string ⟨(T2 ++ [32] ++ [115, 116, 97, 110, 100, 97, 108, 111, 110, 101] ++ [61, 34]).toArray⟩) w := fun w => run_sop (w := w) (T2 ++ [32] ++ [115, 116, 97, 110, 100, 97, 108, 111, 110, 101]) [61, 34] (by simp only [List.length_append, List.length_cons, List.length_nil]; have := hLn.out; have := HL2.out; omega)
          have p3 : ∀ w : World, (Op.stringOp .add ⟨(T2 ++ [32] ++ [115, 116, 97, 110, 100, 97, 108, 111, 110, 101] ++ [61, 34]).toArray⟩ ⟨da.toArray⟩).run Tryd.prog w = .ok (.string ⟨(T2 ++ [32] ++ [115, 116, 97, 110, 100, 97, 108, 111, 110, 101] ++ [61, 34] ++ da).toArray⟩) w := fun w => run_sop (w := w) (T2 ++ [32] ++ [115, 116, 97, 110, 100, 97, 108, 111, 110, 101] ++ [61, 34]) da (by simp only [List.length_append, List.length_cons, List.length_nil]; have := hLn.out; have := HL2.out; omega)
          have p4 : ∀ w : World, (Op.stringOp .add ⟨(T2 ++ [32] ++ [115, 116, 97, 110, 100, 97, 108, 111, 110, 101] ++ [61, 34] ++ da).toArray⟩ ⟨#[34]⟩).run Tryd.prog w = .ok (.string ⟨(T2 ++ [32] ++ [115, 116, 97, 110, 100, 97, 108, 111, 110, 101] ++ [61, 34] ++ da ++ [34]).toArray⟩) w := fun w => run_sop (w := w) (T2 ++ [32] ++ [115, 116, 97, 110, 100, 97, 108, 111, 110, 101] ++ [61, 34] ++ da) [34] (by simp only [List.length_append, List.length_cons, List.length_nil]; have := hLn.out; have := HL2.out; omega)
          generalize T2 ++ [32] ++ [115, 116, 97, 110, 100, 97, 108, 111, 110, 101] ++ [61, 34] ++ da ++ [34] = s5 at *
          generalize T2 ++ [32] ++ [115, 116, 97, 110, 100, 97, 108, 111, 110, 101] ++ [61, 34] ++ da = s4 at *
          generalize T2 ++ [32] ++ [115, 116, 97, 110, 100, 97, 108, 111, 110, 101] ++ [61, 34] = s3 at *
          generalize T2 ++ [32] ++ [115, 116, 97, 110, 100, 97, 108, 111, 110, 101] = s2 at *
          generalize T2 ++ [32] = s1 at *
          clear hmy hv
          go_wp2_with fail
          refine (CM.out _ HB.out).mono ?_
          rintro e w5 ⟨rfl, HB5⟩
          clear zl zw
          obtain ⟨q0, q1, q2, q3⟩ := HW.out _ HB5.out
          have zl := cell_of 2 q2
          have zw := cell_of 2 q3
          clear q0 q1 q2 q3
          go_wp2
          go_quiet (fail)
          have HB6 := Lib.hid (below_drewN' (n := nq) HB5.out)
          clear zl zw
          generalize w5.drewN nq = w6 at *
          go_wp2
          go_roundg (3 - 3)
          case measure => have := hg.out; omega
          case rel => exact Or.inr (Or.inr (Or.inr ⟨Lib.hid rfl, HT.out, rfl, HO2, HB6⟩))
    · obtain ⟨q0, q1, q2, q3⟩ := HW.out _ HB.out
      have zl := cell_of 0 q1
      have zv := cell_of 1 q1
      have ze := cell_of 2 q1
      have hmp : mayPut ⟨dh, dv, de, da⟩ = true := by
        unfold mayPut
        rw [show mayV verB dv = true from HO.out.1, show mayV encB de = true from HO.out.2.1, show mayV aloneB da = true from HO.out.2.2]
        rfl
      have HP := Lib.hid (HGd.out hmp)
      have pE : ∀ w : World, (Op.stringOp .add ⟨T3.toArray⟩ ⟨#[63, 62]⟩).run Tryd.prog w = .ok (.string ⟨(T3 ++ [63, 62]).toArray⟩) w := fun w => run_sop (w := w) T3 [63, 62] (by simp only [List.length_cons, List.length_nil]; have := HL3.out; omega)
      generalize T3 ++ [63, 62] = T4 at *
      have HBB := Lib.hid q0
      clear q0 q1 q2 q3 hmp
      cases dh with
      | false =>
        go_wp2
        go_quiet (fail)
        have HB6 := Lib.hid (below_drewN' (n := nq) HBB.out)
        clear zl zv ze
        generalize wr.drewN nq = w6 at *
        go_wp2
        go_ret2
        exact ⟨by rw [HP.out]; rfl, HB6.out⟩
      | true =>
        cases hEv : dv.isEmpty
        all_goals
          cases hEe : de.isEmpty
          all_goals
            rw [hEv, hEe] at HP
            go_wp2
            go_quiet (fail)
            have HB6 := Lib.hid (below_drewN' (n := nq) HBB.out)
            clear zl zv ze
            generalize wr.drewN nq = w6 at *
            go_wp2
            go_ret2
            exact ⟨by rw [HP.out]; rfl, HB6.out⟩
end Go.Proofs.YtcpljjajobfkkaaDoor
