/- The program's answers, and the law XdeclReads. -/
import Derived.Test.YtcpljjajobfkkaaDoorRows
import Derived.WalkKit
import Derived.ProofKit
import Derived.OpenShut
import Derived.ShutString
import Derived.ChangeOld
import Derived.Below
import Derived.BigQuiet
import Derived.Deep.QuietTactic
import Derived.Lib.Hide
import Derived.Deep.RegionHeld3
import Derived.Lib.SlBytesConst
import Derived.Laws.CopyOwn
import Derived.Laws.CopyRow
import Derived.Lib.Bytes
import Derived.Deep.LoopGhost
import Derived.Deep.DeepFit
import Derived.Deep.DeepMust
import Derived.WalkSpells
import Derived.WalkLawsBesides
import Derived.Laws.EntriesVeiled
import Derived.Laws.Rows
import Derived.Deep.RegionWith
import Derived.LoopN
import Derived.Test.YtcpljjajobfkkaaDoorBase
import Derived.Test.YtcpljjajobfkkaaDoorShelf
import Derived.Test.YtcpljjajobfkkaaDoorCharPlain
import Derived.Test.YtcpljjajobfkkaaDoorBuild
import Derived.Test.YtcpljjajobfkkaaDoorStr
import Derived.Test.YtcpljjajobfkkaaDoorPfx
import Derived.Test.YtcpljjajobfkkaaDoorLitP
import Derived.Test.YtcpljjajobfkkaaDoorLit1
import Derived.Test.YtcpljjajobfkkaaDoorPub
import Derived.Test.YtcpljjajobfkkaaDoorBlank
import Derived.Test.YtcpljjajobfkkaaDoorLibB
import Derived.Test.YtcpljjajobfkkaaDoorMiscP
import Derived.Test.YtcpljjajobfkkaaDoorMisc1
import Derived.Test.YtcpljjajobfkkaaDoorX1
import Derived.Test.YtcpljjajobfkkaaDoorBits
import Derived.Test.YtcpljjajobfkkaaDoorX3
import Derived.Test.YtcpljjajobfkkaaDoorX2
namespace Go.Proofs.YtcpljjajobfkkaaDoor
open Go.ChangeShapes Go.WideShapes Go.ChangeAt Go.RowKit
set_option linter.unusedVariables false
theorem tail_yes2 (l : List UInt8) (d : DeclL) (i : Nat) (h : [63, 62].isPrefixOf (l.drop (blankTo l i)) = true) : tailOut l d i = (d, blankTo l i + 2, 0) := by unfold tailOut; rw [if_pos h]
theorem tail_no2 (l : List UInt8) (d : DeclL) (i : Nat) (h : [63, 62].isPrefixOf (l.drop (blankTo l i)) = false) : tailOut l d i = (noDecl, 0, 7) := by unfold tailOut; rw [if_neg (by rw [h]; simp)]
/-- What the reading of all parts leaves. -/
def ReadPost (o : DeclL × Nat × Nat) (g : Nat) (w : World) (e : Ending) (w' : World) : Prop :=
  e = .returned (.tuple #[.int .i64 (o.2.1 : Int), .int .i64 (o.2.2 : Int)]) ∧ ∃ vs, RJ g vs w w' ∧ (o.2.2 = 0 → vs = #[.bool false, .string ⟨o.1.ver.toArray⟩, .string ⟨o.1.enc.toArray⟩, .string ⟨o.1.alone.toArray⟩] ∧ o.1.has = true)
theorem ReadPost.bad {g : Nat} {vs : Array Value} {w w' : World} {e : Ending} (h : e = .returned (.tuple #[.int .i64 0, .int .i64 7]) ∧ RJ g vs w w') : ReadPost (noDecl, 0, 7) g w e w' := ⟨h.1, vs, h.2, fun h => by cases h⟩
theorem ReadPost.good {g bt : Nat} {v e' a : List UInt8} {w w' : World} {e : Ending} (h : e = .returned (.tuple #[.int .i64 ((bt : Int) + 2), .int .i64 0]) ∧ RJ g #[.bool false, .string ⟨v.toArray⟩, .string ⟨e'.toArray⟩, .string ⟨a.toArray⟩] w w') : ReadPost (⟨true, v, e', a⟩, bt + 2, 0) g w e w' :=
  ⟨h.1, _, h.2, fun _ => ⟨rfl, rfl⟩⟩
theorem xdReadAll_f (g P B : Nat) (A : Option Addr) (n cap : Nat) (l : List UInt8) (k : Nat) (w : World) (h : Byt w B A n cap l) (hm : n ≤ 40000) (hx : hasX l k = true) (hBg : B ≤ g) (hT : FoldT w) (hTB : 0 < B) (hg : w.heap[g]? = some (.cells #[.bool false, .string ⟨#[]⟩, .string ⟨#[]⟩, .string ⟨#[]⟩] 53)) (hgP : g < P)
    (hP : w.heap[P]? = some (.cells #[.string ⟨#[118, 101, 114, 115, 105, 111, 110]⟩, .func (.func 47) #[] #[], .pointer (some ⟨g, 1, none⟩), .bool true, .string ⟨#[101, 110, 99, 111, 100, 105, 110, 103]⟩, .func (.func 48) #[] #[], .pointer (some ⟨g, 2, none⟩), .bool false, .string ⟨#[115, 116, 97, 110, 100, 97, 108, 111, 110, 101]⟩, .func (.func 49) #[] #[], .pointer (some ⟨g, 3, none⟩), .bool false] 93)) :
    Calls Tryd.prog 65 #[.slice A n cap, .int .i64 k, .pointer (some ⟨g, 0, none⟩), .slice (some ⟨P, 0, none⟩) 3 3] w fun e w' => ReadPost (readDecl false l k) g w e w' := by
  have hln := h.length
  have hkl := hasX_le l k n hln hx
  cases ho0 : partOut verW verB l (k + 5) with
  | none =>
    rw [show readDecl false l k = (noDecl, 0, 7) by unfold readDecl; rw [ho0]]
    exact (xdRead_f_none g P B A n cap l k w h hm hkl hBg hT hTB hg hgP hP ho0).mono fun e w' hr => ReadPost.bad hr
  | some p =>
    obtain ⟨v, j⟩ := p
    rcases part_le (by omega) ho0 with ⟨rfl, rfl⟩ | ⟨hlt0, hle0⟩
    · rw [show readDecl false l k = (noDecl, 0, 7) by unfold readDecl; rw [ho0]; simp]
      exact (xdRead_f_same g P B A n cap l k w h hm hkl hBg hT hTB hg hgP hP ho0).mono fun e w' hr => ReadPost.bad hr
    · rw [show readDecl false l k = readEnc false l v j by unfold readDecl; rw [ho0]; simp only; rw [if_neg (by omega)]]
      cases ho1 : partOut encW encB l j with
      | none =>
        rw [show readEnc false l v j = (noDecl, 0, 7) by unfold readEnc; rw [ho1]]
        exact (xdRead_f_found_none g P B A n cap l k w h hm hkl hBg hT hTB hg hgP hP v j ho0 hlt0 (by omega) ho1).mono fun e w' hr => ReadPost.bad hr
      | some p =>
        obtain ⟨e, j1⟩ := p
        rw [show readEnc false l v j = readAlone l v e j1 by unfold readEnc; rw [ho1]; simp]
        rcases part_le (by omega) ho1 with ⟨rfl, rfl⟩ | ⟨hlt1, hle1⟩
        · cases ho2 : partOut aloneW aloneB l j1 with
          | none =>
            rw [show readAlone l v [] j1 = (noDecl, 0, 7) by unfold readAlone; rw [ho2]]
            exact (xdRead_f_found_same_none g P B A n cap l k w h hm hkl hBg hT hTB hg hgP hP v j1 ho0 hlt0 (by omega) ho1 ho2).mono fun e w' hr => ReadPost.bad hr
          | some p =>
            obtain ⟨a, j2⟩ := p
            rw [show readAlone l v [] j1 = tailOut l ⟨true, v, [], a⟩ j2 by unfold readAlone; rw [ho2]]
            rcases part_le (by omega) ho2 with ⟨rfl, rfl⟩ | ⟨hlt2, hle2⟩
            · cases ht : [63, 62].isPrefixOf (l.drop (blankTo l j2)) with
              | true => rw [tail_yes2 _ _ _ ht]; exact (xdRead_f_found_same_same_yes g P B A n cap l k w h hm hkl hBg hT hTB hg hgP hP v j2 ho0 hlt0 (by omega) ho1 ho2 ht).mono fun e w' hr => ReadPost.good hr
              | false => rw [tail_no2 _ _ _ ht]; exact (xdRead_f_found_same_same_no g P B A n cap l k w h hm hkl hBg hT hTB hg hgP hP v j2 ho0 hlt0 (by omega) ho1 ho2 ht).mono fun e w' hr => ReadPost.bad hr
            · cases ht : [63, 62].isPrefixOf (l.drop (blankTo l j2)) with
              | true => rw [tail_yes2 _ _ _ ht]; exact (xdRead_f_found_same_found_yes g P B A n cap l k w h hm hkl hBg hT hTB hg hgP hP v j1 ho0 hlt0 (by omega) ho1 a j2 ho2 hlt2 (by omega) ht).mono fun e w' hr => ReadPost.good hr
              | false => rw [tail_no2 _ _ _ ht]; exact (xdRead_f_found_same_found_no g P B A n cap l k w h hm hkl hBg hT hTB hg hgP hP v j1 ho0 hlt0 (by omega) ho1 a j2 ho2 hlt2 (by omega) ht).mono fun e w' hr => ReadPost.bad hr
        · cases ho2 : partOut aloneW aloneB l j1 with
          | none =>
            rw [show readAlone l v e j1 = (noDecl, 0, 7) by unfold readAlone; rw [ho2]]
            exact (xdRead_f_found_found_none g P B A n cap l k w h hm hkl hBg hT hTB hg hgP hP v j ho0 hlt0 (by omega) e j1 ho1 hlt1 (by omega) ho2).mono fun e w' hr => ReadPost.bad hr
          | some p =>
            obtain ⟨a, j2⟩ := p
            rw [show readAlone l v e j1 = tailOut l ⟨true, v, e, a⟩ j2 by unfold readAlone; rw [ho2]]
            rcases part_le (by omega) ho2 with ⟨rfl, rfl⟩ | ⟨hlt2, hle2⟩
            · cases ht : [63, 62].isPrefixOf (l.drop (blankTo l j2)) with
              | true => rw [tail_yes2 _ _ _ ht]; exact (xdRead_f_found_found_same_yes g P B A n cap l k w h hm hkl hBg hT hTB hg hgP hP v j ho0 hlt0 (by omega) e j2 ho1 hlt1 (by omega) ho2 ht).mono fun e w' hr => ReadPost.good hr
              | false => rw [tail_no2 _ _ _ ht]; exact (xdRead_f_found_found_same_no g P B A n cap l k w h hm hkl hBg hT hTB hg hgP hP v j ho0 hlt0 (by omega) e j2 ho1 hlt1 (by omega) ho2 ht).mono fun e w' hr => ReadPost.bad hr
            · cases ht : [63, 62].isPrefixOf (l.drop (blankTo l j2)) with
              | true => rw [tail_yes2 _ _ _ ht]; exact (xdRead_f_found_found_found_yes g P B A n cap l k w h hm hkl hBg hT hTB hg hgP hP v j ho0 hlt0 (by omega) e j1 ho1 hlt1 (by omega) a j2 ho2 hlt2 (by omega) ht).mono fun e w' hr => ReadPost.good hr
              | false => rw [tail_no2 _ _ _ ht]; exact (xdRead_f_found_found_found_no g P B A n cap l k w h hm hkl hBg hT hTB hg hgP hP v j ho0 hlt0 (by omega) e j1 ho1 hlt1 (by omega) a j2 ho2 hlt2 (by omega) ht).mono fun e w' hr => ReadPost.bad hr
theorem xdReadAll_t (g P B : Nat) (A : Option Addr) (n cap : Nat) (l : List UInt8) (k : Nat) (w : World) (h : Byt w B A n cap l) (hm : n ≤ 40000) (hx : hasX l k = true) (hBg : B ≤ g) (hT : FoldT w) (hTB : 0 < B) (hg : w.heap[g]? = some (.cells #[.bool false, .string ⟨#[]⟩, .string ⟨#[]⟩, .string ⟨#[]⟩] 53)) (hgP : g < P)
    (hP : w.heap[P]? = some (.cells #[.string ⟨#[118, 101, 114, 115, 105, 111, 110]⟩, .func (.func 47) #[] #[], .pointer (some ⟨g, 1, none⟩), .bool false, .string ⟨#[101, 110, 99, 111, 100, 105, 110, 103]⟩, .func (.func 48) #[] #[], .pointer (some ⟨g, 2, none⟩), .bool true] 93)) :
    Calls Tryd.prog 65 #[.slice A n cap, .int .i64 k, .pointer (some ⟨g, 0, none⟩), .slice (some ⟨P, 0, none⟩) 2 2] w fun e w' => ReadPost (readDecl true l k) g w e w' := by
  have hln := h.length
  have hkl := hasX_le l k n hln hx
  cases ho0 : partOut verW verB l (k + 5) with
  | none =>
    rw [show readDecl true l k = (noDecl, 0, 7) by unfold readDecl; rw [ho0]]
    exact (xdRead_t_none g P B A n cap l k w h hm hkl hBg hT hTB hg hgP hP ho0).mono fun e w' hr => ReadPost.bad hr
  | some p =>
    obtain ⟨v, j⟩ := p
    rw [show readDecl true l k = readEnc true l v j by unfold readDecl; rw [ho0]; simp]
    rcases part_le (by omega) ho0 with ⟨rfl, rfl⟩ | ⟨hlt0, hle0⟩
    · cases ho1 : partOut encW encB l (k + 5) with
      | none =>
        rw [show readEnc true l [] (k + 5) = (noDecl, 0, 7) by unfold readEnc; rw [ho1]]
        exact (xdRead_t_same_none g P B A n cap l k w h hm hkl hBg hT hTB hg hgP hP ho0 ho1).mono fun e w' hr => ReadPost.bad hr
      | some p =>
        obtain ⟨e, j1⟩ := p
        rcases part_le (by omega) ho1 with ⟨rfl, rfl⟩ | ⟨hlt1, hle1⟩
        · rw [show readEnc true l [] (k + 5) = (noDecl, 0, 7) by unfold readEnc; rw [ho1]; simp]
          exact (xdRead_t_same_same g P B A n cap l k w h hm hkl hBg hT hTB hg hgP hP ho0 ho1).mono fun e w' hr => ReadPost.bad hr
        · rw [show readEnc true l [] (k + 5) = tailOut l ⟨true, [], e, []⟩ j1 by unfold readEnc; rw [ho1]; simp only [if_true]; rw [if_neg (by omega)]]
          cases ht : [63, 62].isPrefixOf (l.drop (blankTo l j1)) with
          | true => rw [tail_yes2 _ _ _ ht]; exact (xdRead_t_same_found_yes g P B A n cap l k w h hm hkl hBg hT hTB hg hgP hP ho0 e j1 ho1 hlt1 (by omega) ht).mono fun e w' hr => ReadPost.good hr
          | false => rw [tail_no2 _ _ _ ht]; exact (xdRead_t_same_found_no g P B A n cap l k w h hm hkl hBg hT hTB hg hgP hP ho0 e j1 ho1 hlt1 (by omega) ht).mono fun e w' hr => ReadPost.bad hr
    · cases ho1 : partOut encW encB l j with
      | none =>
        rw [show readEnc true l v j = (noDecl, 0, 7) by unfold readEnc; rw [ho1]]
        exact (xdRead_t_found_none g P B A n cap l k w h hm hkl hBg hT hTB hg hgP hP v j ho0 hlt0 (by omega) ho1).mono fun e w' hr => ReadPost.bad hr
      | some p =>
        obtain ⟨e, j1⟩ := p
        rcases part_le (by omega) ho1 with ⟨rfl, rfl⟩ | ⟨hlt1, hle1⟩
        · rw [show readEnc true l v j1 = (noDecl, 0, 7) by unfold readEnc; rw [ho1]; simp]
          exact (xdRead_t_found_same g P B A n cap l k w h hm hkl hBg hT hTB hg hgP hP v j1 ho0 hlt0 (by omega) ho1).mono fun e w' hr => ReadPost.bad hr
        · rw [show readEnc true l v j = tailOut l ⟨true, v, e, []⟩ j1 by unfold readEnc; rw [ho1]; simp only [if_true]; rw [if_neg (by omega)]]
          cases ht : [63, 62].isPrefixOf (l.drop (blankTo l j1)) with
          | true => rw [tail_yes2 _ _ _ ht]; exact (xdRead_t_found_found_yes g P B A n cap l k w h hm hkl hBg hT hTB hg hgP hP v j ho0 hlt0 (by omega) e j1 ho1 hlt1 (by omega) ht).mono fun e w' hr => ReadPost.good hr
          | false => rw [tail_no2 _ _ _ ht]; exact (xdRead_t_found_found_no g P B A n cap l k w h hm hkl hBg hT hTB hg hgP hP v j ho0 hlt0 (by omega) e j1 ho1 hlt1 (by omega) ht).mono fun e w' hr => ReadPost.bad hr
/-- While a declaration is told: all below stands but the declaration's block; it; and the result's own block. -/
def TJ (g : Nat) (vs rs : Array Value) (w W : World) : Prop := Fr w.heap.size g w W ∧ W.heap[g]? = some (.cells vs 53) ∧ W.heap[w.heap.size]? = some (.cells rs 53)
theorem TJ.kept {g : Nat} {vs rs : Array Value} {w W W' : World} (h : TJ g vs rs w W) (hb : Below W.heap.size W W') : TJ g vs rs w W' :=
  ⟨h.1.trans (Fr.ofBelow (hb.mono h.1.size)), by rw [hb.block _ (lt_of h.2.1)]; exact h.2.1, by rw [hb.block _ (lt_of h.2.2)]; exact h.2.2⟩
theorem TJ.start {g : Nat} {vs : Array Value} {w : World} (rs : Array Value) (hg : w.heap[g]? = some (.cells vs 53)) : TJ g vs rs w (w.alloc (.cells rs 53)) :=
  ⟨Fr.ofBelow ((Below.refl _ w).alloc (Nat.le_refl _) _), hp_old hg, hp_new _ _⟩
theorem TJ.read {g : Nat} {vs vs2 rs : Array Value} {w W W' : World} (h : TJ g vs rs w W) (hg : g < w.heap.size) (hr : RJ g vs2 W W') : TJ g vs2 rs w W' :=
  ⟨h.1.trans (hr.1.mono h.1.size), hr.2, by rw [hr.1.block _ (lt_of h.2.2) (by omega)]; exact h.2.2⟩
theorem TJ.set {g : Nat} {vs rs : Array Value} {w W : World} (h : TJ g vs rs w W) (hg : g < w.heap.size) (i : Nat) (v : Value) : TJ g (vs.setIfInBounds i v) rs w (W.setCell ⟨g, i, none⟩ v) :=
  ⟨h.1.set i v, hp_set h.2.1, by rw [hp_other (by omega)]; exact h.2.2⟩
theorem TJ.row {g : Nat} {vs rs : Array Value} {w W : World} (h : TJ g vs rs w W) (hg : g < w.heap.size) (cs : Array Value) : TJ g vs cs w (W.setRow w.heap.size cs) := by
  refine ⟨⟨h.1.os, h.1.tape, h.1.output, ?_, fun k hk hkg => ?_⟩, ?_, setRow_heap _ _ _ _ _ _ h.2.2⟩
  · have := h.1.size; simpa [World.setRow] using this
  · rw [setRow_other _ _ _ _ (by omega)]; exact h.1.block k hk hkg
  · rw [setRow_other _ _ _ _ (by omega)]; exact h.2.1
theorem tail_e (l : List UInt8) (d : DeclL) (i : Nat) : (tailOut l d i).2.2 ≠ 0 → tailOut l d i = (noDecl, 0, 7) := by
  unfold tailOut
  split
  · intro h; exact absurd rfl h
  · intro _; rfl
theorem alone_e (l v e : List UInt8) (i : Nat) : (readAlone l v e i).2.2 ≠ 0 → readAlone l v e i = (noDecl, 0, 7) := by
  unfold readAlone
  split
  · intro _; rfl
  · exact tail_e _ _ _
theorem enc_e (text : Bool) (l v : List UInt8) (i : Nat) : (readEnc text l v i).2.2 ≠ 0 → readEnc text l v i = (noDecl, 0, 7) := by
  unfold readEnc
  split
  · intro _; rfl
  · split
    · split
      · intro _; rfl
      · exact tail_e _ _ _
    · exact alone_e _ _ _ _
theorem readDecl_e (text : Bool) (l : List UInt8) (k : Nat) : (readDecl text l k).2.2 ≠ 0 → readDecl text l k = (noDecl, 0, 7) := by
  unfold readDecl
  split
  · intro _; rfl
  · split
    · intro _; rfl
    · exact enc_e _ _ _ _
def zDecl : Array Value := #[.bool false, .string ⟨#[]⟩, .string ⟨#[]⟩, .string ⟨#[]⟩]
set_option maxRecDepth 100000 in
set_option maxHeartbeats 8000000 in
theorem told_c (text : Bool) (pv : Value) (g B : Nat) (A : Option Addr) (n cap : Nat) (l : List UInt8) (at_ : Int) (w : World) (h : Byt w B A n cap l) (hm : n ≤ 40000) (hBg : B ≤ g) (hg : w.heap[g]? = some (.cells #[.bool false, .string ⟨#[]⟩, .string ⟨#[]⟩, .string ⟨#[]⟩] 53))
    (HR : ∀ k : Nat, k ≤ n → hasX l k = true → ∀ W, TJ g #[.bool false, .string ⟨#[]⟩, .string ⟨#[]⟩, .string ⟨#[]⟩] #[.bool false, .string ⟨#[]⟩, .string ⟨#[]⟩, .string ⟨#[]⟩] w W → Calls Tryd.prog 65 #[.slice A n cap, .int .i64 k, .pointer (some ⟨g, 0, none⟩), pv] W fun e w' => ReadPost (readDecl text l k) g W e w') :
    Calls Tryd.prog 46 #[.slice A n cap, .int .i64 at_, .pointer (some ⟨g, 0, none⟩), pv] w fun e w' => e = .returned (declV (declAt text l at_)) ∧ Fr w.heap.size g w w' := by
  have hgl := lt_of hg
  have hJ := TJ.start #[.bool false, .string ⟨#[]⟩, .string ⟨#[]⟩, .string ⟨#[]⟩] hg
  have hi : (Tryd.prog.info? 53).map (·.size) = some 4 := by kernel_rfl
  obtain ⟨d, hu⟩ := isStruct_of (P := Tryd.prog) (t := 53) (by kernel_rfl)
  have HU := Lib.hid (And.intro hi hu)
  have HG := Lib.hid hgl
  have J0 := Lib.hid hJ
  unfold declAt
  rw [h.length]
  by_cases ha : at_ < 0 ∨ (n : Int) < at_
  · rw [if_pos ha]
    have JF := Lib.hid (J0.out.row HG.out #[.bool false, .string ⟨#[]⟩, .string ⟨#[]⟩, .string ⟨#[]⟩])
    clear HR h hg hgl hJ hi hu hBg hm
    unfold declV
    by_cases h0 : at_ < 0
    · have hd : decide (at_ < 0) = true := by simpa using h0
      clear ha
      go_enter Tryd.func46, Tryd.ntmps46
      go_wp2_with (refine wpList_store_row rfl _ _ _ rfl w.heap.size #[.bool false, .string ⟨#[]⟩, .string ⟨#[]⟩, .string ⟨#[]⟩] rfl rfl _ _ J0.out.2.2 (by kernel_rfl) rfl (by kernel_rfl) ?_)
      (try simp only [Exit.inBlock, Exit.then])
      exact bodyPost_ret (results_cell3 rfl _ _ w.heap.size _ _ _ _ rfl JF.out.2.2 HU.out.2 rfl HU.out.1) rfl ⟨rfl, JF.out.1⟩
    · have h1 : (n : Int) < at_ := by omega
      clear ha
      go_enter Tryd.func46, Tryd.ntmps46
      go_wp2_with (refine wpList_store_row rfl _ _ _ rfl w.heap.size #[.bool false, .string ⟨#[]⟩, .string ⟨#[]⟩, .string ⟨#[]⟩] rfl rfl _ _ J0.out.2.2 (by kernel_rfl) rfl (by kernel_rfl) ?_)
      (try simp only [Exit.inBlock, Exit.then])
      exact bodyPost_ret (results_cell3 rfl _ _ w.heap.size _ _ _ _ rfl JF.out.2.2 HU.out.2 rfl HU.out.1) rfl ⟨rfl, JF.out.1⟩
  · rw [if_neg ha]
    obtain ⟨k, rfl⟩ : ∃ k : Nat, at_ = (k : Int) := ⟨at_.toNat, by omega⟩
    rw [Int.toNat_natCast]
    have hk : k ≤ n := by omega
    have hk' : ¬ (n : Int) < (k : Int) := by omega
    have hk0 : (0 : Int) ≤ (k : Int) := by omega
    have hk1 : (k : Int) ≤ 40000 := by omega
    have hin := (h.below (hJ.1.below (B := B) (by omega) hBg)).more (B' := (w.alloc (.cells #[.bool false, .string ⟨#[]⟩, .string ⟨#[]⟩, .string ⟨#[]⟩] 53)).heap.size) (by simp; omega)
    have C1 := Lib.hid (xdHas_in A n cap l k _ hin (by omega) hk)
    unfold declOut
    by_cases hx : hasX l k = true
    · rw [if_pos hx]
      rw [hx] at C1
      have CR := Lib.hid (HR k hk hx)
      have hoe := readDecl_e text l k
      generalize readDecl text l k = o at *
      obtain ⟨⟨dh, dv, de, da⟩, nx, er⟩ := o
      clear HR h hg hgl hJ hi hu hBg hm ha hin hx hk
      unfold declV DeclL.cells
      by_cases he : er = 0
      · subst he
        go_enter Tryd.func46, Tryd.ntmps46
        go_wp2_with fail
        refine C1.out.mono ?_
        rintro e w1 ⟨rfl, hb⟩
        have J1 := Lib.hid (J0.out.kept hb)
        clear hb
        go_wp2_with fail
        refine (CR.out _ J1.out).mono ?_
        rintro e w2 ⟨rfl, vs, hr, hvs⟩
        obtain ⟨rfl, hdh⟩ := hvs rfl
        simp only at hdh
        subst hdh
        have J2 := Lib.hid (J1.out.read HG.out hr)
        clear hr hvs
        have z0 := cell_of 0 J2.out.2.1
        have y0 := free_of 0 J2.out.2.1
        have J3 : Hid (TJ g #[.bool true, .string ⟨dv.toArray⟩, .string ⟨de.toArray⟩, .string ⟨da.toArray⟩] #[.bool false, .string ⟨#[]⟩, .string ⟨#[]⟩, .string ⟨#[]⟩] w (w2.setCell ⟨g, 0, none⟩ (.bool true))) := Lib.hid (J2.out.set HG.out 0 (.bool true))
        have JF := Lib.hid (J3.out.row HG.out #[.bool true, .string ⟨dv.toArray⟩, .string ⟨de.toArray⟩, .string ⟨da.toArray⟩])
        go_wp2_with (first | (refine wpList_load_row rfl _ _ rfl g rfl _ _ _ _ J3.out.2.1 HU.out.2 rfl HU.out.1 ?_) | (refine wpList_store_row rfl _ _ _ rfl w.heap.size #[.bool true, .string ⟨dv.toArray⟩, .string ⟨de.toArray⟩, .string ⟨da.toArray⟩] rfl rfl _ _ J3.out.2.2 (by kernel_rfl) rfl (by kernel_rfl) ?_))
        (try simp only [Exit.inBlock, Exit.then])
        exact bodyPost_ret (results_cell3 rfl _ _ w.heap.size _ _ _ _ rfl JF.out.2.2 HU.out.2 rfl HU.out.1) rfl ⟨rfl, JF.out.1⟩
      · have hei : ((er : Int) == 0) = false := by simp; omega
        have hh := hoe he
        simp only [Prod.mk.injEq] at hh
        obtain ⟨hd, rfl, rfl⟩ := hh
        unfold noDecl at hd
        cases hd
        clear hoe he
        go_enter Tryd.func46, Tryd.ntmps46
        go_wp2_with fail
        refine C1.out.mono ?_
        rintro e w1 ⟨rfl, hb⟩
        have J1 := Lib.hid (J0.out.kept hb)
        clear hb
        go_wp2_with fail
        refine (CR.out _ J1.out).mono ?_
        rintro e w2 ⟨rfl, vs, hr, hvs⟩
        have J2 := Lib.hid (J1.out.read HG.out hr)
        have JF := Lib.hid (J2.out.row HG.out #[.bool false, .string ⟨#[]⟩, .string ⟨#[]⟩, .string ⟨#[]⟩])
        clear hr hvs
        go_wp2_with (refine wpList_store_row rfl _ _ _ rfl w.heap.size #[.bool false, .string ⟨#[]⟩, .string ⟨#[]⟩, .string ⟨#[]⟩] rfl rfl _ _ J2.out.2.2 (by kernel_rfl) rfl (by kernel_rfl) ?_)
        (try simp only [Exit.inBlock, Exit.then])
        exact bodyPost_ret (results_cell3 rfl _ _ w.heap.size _ _ _ _ rfl JF.out.2.2 HU.out.2 rfl HU.out.1) rfl ⟨rfl, JF.out.1⟩
    · rw [if_neg hx]
      rw [bfalse hx] at C1
      clear HR h hg hgl hJ hi hu hBg hm ha hin hx hk
      unfold declV
      go_enter Tryd.func46, Tryd.ntmps46
      go_wp2_with fail
      refine C1.out.mono ?_
      rintro e w1 ⟨rfl, hb⟩
      have J1 := Lib.hid (J0.out.kept hb)
      have JF := Lib.hid (J1.out.row HG.out #[.bool false, .string ⟨#[]⟩, .string ⟨#[]⟩, .string ⟨#[]⟩])
      clear hb
      go_wp2_with (refine wpList_store_row rfl _ _ _ rfl w.heap.size #[.bool false, .string ⟨#[]⟩, .string ⟨#[]⟩, .string ⟨#[]⟩] rfl rfl _ _ J1.out.2.2 (by kernel_rfl) rfl (by kernel_rfl) ?_)
      (try simp only [Exit.inBlock, Exit.then])
      exact bodyPost_ret (results_cell3 rfl _ _ w.heap.size _ _ _ _ rfl JF.out.2.2 HU.out.2 rfl HU.out.1) rfl ⟨rfl, JF.out.1⟩
/-- What stands ahead of the telling: the result's block, the declaration's, the parts'. -/
def XP (pa : Array Value) (w W : World) : Prop := Below w.heap.size w W ∧ W.heap[w.heap.size]? = some (.cells #[.bool false, .string ⟨#[]⟩, .string ⟨#[]⟩, .string ⟨#[]⟩] 53) ∧ W.heap[w.heap.size + 1]? = some (.cells #[.bool false, .string ⟨#[]⟩, .string ⟨#[]⟩, .string ⟨#[]⟩] 53) ∧ W.heap[w.heap.size + 2]? = some (.cells pa 93)
theorem XP.drew {pa : Array Value} {w W : World} (h : XP pa w W) : XP pa w W.drew := ⟨h.1.drew, h.2.1, h.2.2.1, h.2.2.2⟩
theorem XP.start (pa : Array Value) (w : World) : XP pa w (((w.alloc (.cells #[.bool false, .string ⟨#[]⟩, .string ⟨#[]⟩, .string ⟨#[]⟩] 53)).alloc (.cells #[.bool false, .string ⟨#[]⟩, .string ⟨#[]⟩, .string ⟨#[]⟩] 53)).alloc (.cells pa 93)) := by
  have a1 := (Below.refl w.heap.size w).alloc (Nat.le_refl _) (.cells #[.bool false, .string ⟨#[]⟩, .string ⟨#[]⟩, .string ⟨#[]⟩] 53)
  have a2 := a1.alloc a1.size (.cells #[.bool false, .string ⟨#[]⟩, .string ⟨#[]⟩, .string ⟨#[]⟩] 53)
  have a3 := a2.alloc a2.size (.cells pa 93)
  refine ⟨a3, hp_old (hp_old (hp_new _ _)), ?_, ?_⟩
  · have := hp_new (w.alloc (.cells #[.bool false, .string ⟨#[]⟩, .string ⟨#[]⟩, .string ⟨#[]⟩] 53)) (.cells #[.bool false, .string ⟨#[]⟩, .string ⟨#[]⟩, .string ⟨#[]⟩] 53)
    rw [World.size_alloc] at this
    exact hp_old this
  · have := hp_new ((w.alloc (.cells #[.bool false, .string ⟨#[]⟩, .string ⟨#[]⟩, .string ⟨#[]⟩] 53)).alloc (.cells #[.bool false, .string ⟨#[]⟩, .string ⟨#[]⟩, .string ⟨#[]⟩] 53)) (.cells pa 93)
    rw [World.size_alloc, World.size_alloc] at this
    exact this
set_option maxRecDepth 100000 in
set_option maxHeartbeats 8000000 in
theorem xdXml_c (A : Option Addr) (n cap : Nat) (l : List UInt8) (at_ : Int) (w : World) (h : Byt w w.heap.size A n cap l) (hm : n ≤ 40000) (hT : FoldT w) :
    Calls Tryd.prog 23 #[.slice A n cap, .int .i64 at_] w fun e w' => e = .returned (declV (declAt false l at_)) ∧ Below w.heap.size w w' := by
  have hi : (Tryd.prog.info? 53).map (·.size) = some 4 := by kernel_rfl
  obtain ⟨d, hu⟩ := isStruct_of (P := Tryd.prog) (t := 53) (by kernel_rfl)
  have HU := Lib.hid (And.intro hi hu)
  have CT : Hid (∀ W, XP #[.string ⟨#[118, 101, 114, 115, 105, 111, 110]⟩, .func (.func 47) #[] #[], .pointer (some ⟨w.heap.size + 1, 1, none⟩), .bool true, .string ⟨#[101, 110, 99, 111, 100, 105, 110, 103]⟩, .func (.func 48) #[] #[], .pointer (some ⟨w.heap.size + 1, 2, none⟩), .bool false, .string ⟨#[115, 116, 97, 110, 100, 97, 108, 111, 110, 101]⟩, .func (.func 49) #[] #[], .pointer (some ⟨w.heap.size + 1, 3, none⟩), .bool false] w W → Calls Tryd.prog 46 #[.slice A n cap, .int .i64 at_, .pointer (some ⟨w.heap.size + 1, 0, none⟩), .slice (some ⟨w.heap.size + 2, 0, none⟩) 3 3] W fun e w' => e = .returned (declV (declAt false l at_)) ∧ (w'.cell? ⟨w.heap.size, 0, none⟩ = some (.bool false) ∧ w'.cell? ⟨w.heap.size, 1, none⟩ = some (.string ⟨#[]⟩) ∧ w'.cell? ⟨w.heap.size, 2, none⟩ = some (.string ⟨#[]⟩) ∧ w'.cell? ⟨w.heap.size, 3, none⟩ = some (.string ⟨#[]⟩) ∧ w'.frozen? ⟨w.heap.size, 0, none⟩ = false ∧ w'.frozen? ⟨w.heap.size, 1, none⟩ = false ∧ w'.frozen? ⟨w.heap.size, 2, none⟩ = false ∧ w'.frozen? ⟨w.heap.size, 3, none⟩ = false ∧ (w'.setCell ⟨w.heap.size, 0, none⟩ (.bool (declAt false l at_).1.has)).cell? ⟨w.heap.size, 1, none⟩ = some (.string ⟨#[]⟩) ∧ ((w'.setCell ⟨w.heap.size, 0, none⟩ (.bool (declAt false l at_).1.has)).setCell ⟨w.heap.size, 1, none⟩ (.string ⟨(declAt false l at_).1.ver.toArray⟩)).cell? ⟨w.heap.size, 2, none⟩ = some (.string ⟨#[]⟩) ∧ (((w'.setCell ⟨w.heap.size, 0, none⟩ (.bool (declAt false l at_).1.has)).setCell ⟨w.heap.size, 1, none⟩ (.string ⟨(declAt false l at_).1.ver.toArray⟩)).setCell ⟨w.heap.size, 2, none⟩ (.string ⟨(declAt false l at_).1.enc.toArray⟩)).cell? ⟨w.heap.size, 3, none⟩ = some (.string ⟨#[]⟩) ∧ (w'.setCell ⟨w.heap.size, 0, none⟩ (.bool (declAt false l at_).1.has)).frozen? ⟨w.heap.size, 1, none⟩ = false ∧ ((w'.setCell ⟨w.heap.size, 0, none⟩ (.bool (declAt false l at_).1.has)).setCell ⟨w.heap.size, 1, none⟩ (.string ⟨(declAt false l at_).1.ver.toArray⟩)).frozen? ⟨w.heap.size, 2, none⟩ = false ∧ (((w'.setCell ⟨w.heap.size, 0, none⟩ (.bool (declAt false l at_).1.has)).setCell ⟨w.heap.size, 1, none⟩ (.string ⟨(declAt false l at_).1.ver.toArray⟩)).setCell ⟨w.heap.size, 2, none⟩ (.string ⟨(declAt false l at_).1.enc.toArray⟩)).frozen? ⟨w.heap.size, 3, none⟩ = false) ∧ Hid (((((w'.setCell ⟨w.heap.size, 0, none⟩ (.bool (declAt false l at_).1.has)).setCell ⟨w.heap.size, 1, none⟩ (.string ⟨(declAt false l at_).1.ver.toArray⟩)).setCell ⟨w.heap.size, 2, none⟩ (.string ⟨(declAt false l at_).1.enc.toArray⟩)).setCell ⟨w.heap.size, 3, none⟩ (.string ⟨(declAt false l at_).1.alone.toArray⟩)).heap[w.heap.size]? = some (.cells (declAt false l at_).1.cells 53) ∧ Below w.heap.size w ((((w'.setCell ⟨w.heap.size, 0, none⟩ (.bool (declAt false l at_).1.has)).setCell ⟨w.heap.size, 1, none⟩ (.string ⟨(declAt false l at_).1.ver.toArray⟩)).setCell ⟨w.heap.size, 2, none⟩ (.string ⟨(declAt false l at_).1.enc.toArray⟩)).setCell ⟨w.heap.size, 3, none⟩ (.string ⟨(declAt false l at_).1.alone.toArray⟩)))) := Lib.hid fun W hX => by
    have hsz := hX.1.size
    have hl2 := lt_of hX.2.2.2
    refine (told_c false (.slice (some ⟨w.heap.size + 2, 0, none⟩) 3 3) (w.heap.size + 1) w.heap.size A n cap l at_ W (h.below hX.1) hm (Nat.le_succ _) hX.2.2.1 ?_).mono fun e w' ⟨he, hf⟩ => ?_
    · intro k hk hx W2 hJ
      have hb2 : Below w.heap.size W W2 := hJ.1.below (by omega) (by omega)
      refine xdReadAll_f (w.heap.size + 1) (w.heap.size + 2) w.heap.size A n cap l k W2 ((h.below hX.1).below hb2) hm hx (Nat.le_succ _) ((hT.below hX.1 hT.lt).below hb2 hT.lt) hT.lt hJ.2.1 (by omega) ?_
      rw [hJ.1.block _ hl2 (by omega)]
      exact hX.2.2.2
    · have hr : w'.heap[w.heap.size]? = some (.cells #[.bool false, .string ⟨#[]⟩, .string ⟨#[]⟩, .string ⟨#[]⟩] 53) := by rw [hf.block _ (by omega) (by omega)]; exact hX.2.1
      have hb := hX.1.trans (hf.below (B := w.heap.size) (by omega) (by omega))
      have r1 := hp_set (i := 0) (v := (.bool (declAt false l at_).1.has)) hr
      have r2 := hp_set (i := 1) (v := (.string ⟨(declAt false l at_).1.ver.toArray⟩)) r1
      have r3 := hp_set (i := 2) (v := (.string ⟨(declAt false l at_).1.enc.toArray⟩)) r2
      have r4 := hp_set (i := 3) (v := (.string ⟨(declAt false l at_).1.alone.toArray⟩)) r3
      refine ⟨he, ⟨cell_of 0 hr, cell_of 1 hr, cell_of 2 hr, cell_of 3 hr, free_of 0 hr, free_of 1 hr, free_of 2 hr, free_of 3 hr, cell_of 1 r1, cell_of 2 r2, cell_of 3 r3, free_of 1 r1, free_of 2 r2, free_of 3 r3⟩, Lib.hid ⟨r4, ?_⟩⟩
      exact (((hb.setCell (p := ⟨w.heap.size, 0, none⟩) (Nat.le_refl _) _).setCell (p := ⟨w.heap.size, 1, none⟩) (Nat.le_refl _) _).setCell (p := ⟨w.heap.size, 2, none⟩) (Nat.le_refl _) _).setCell (p := ⟨w.heap.size, 3, none⟩) (Nat.le_refl _) _
  have HX := Lib.hid (XP.start #[.string ⟨#[118, 101, 114, 115, 105, 111, 110]⟩, .func (.func 47) #[] #[], .pointer (some ⟨w.heap.size + 1, 1, none⟩), .bool true, .string ⟨#[101, 110, 99, 111, 100, 105, 110, 103]⟩, .func (.func 48) #[] #[], .pointer (some ⟨w.heap.size + 1, 2, none⟩), .bool false, .string ⟨#[115, 116, 97, 110, 100, 97, 108, 111, 110, 101]⟩, .func (.func 49) #[] #[], .pointer (some ⟨w.heap.size + 1, 3, none⟩), .bool false] w)
  clear h hT hm hi hu
  generalize declAt false l at_ = o at *
  obtain ⟨⟨dh, dv, de, da⟩, nx, er⟩ := o
  unfold declV DeclL.cells at *
  simp only at CT ⊢
  go_enter Tryd.func23, Tryd.ntmps23
  go_wp2
  go_region_with (first
    | (go_at_call 46; refine (CT.out _ (by first | exact HX.out | exact HX.out.drew | exact HX.out.drew.drew | exact HX.out.drew.drew.drew | exact HX.out.drew.drew.drew.drew)).mono ?_; rintro e w1 ⟨rfl, ⟨z0, z1, z2, z3, y0, y1, y2, y3, x1, x2, x3, u1, u2, u3⟩, HF⟩))
  all_goals
    go_wp2
    (try simp only [Exit.inBlock, Exit.then])
    exact bodyPost_ret (results_cell3 rfl _ _ w.heap.size _ _ _ _ rfl HF.out.1 HU.out.2 rfl HU.out.1) rfl ⟨rfl, HF.out.2⟩
set_option maxRecDepth 100000 in
set_option maxHeartbeats 8000000 in
theorem xdText_c (A : Option Addr) (n cap : Nat) (l : List UInt8) (at_ : Int) (w : World) (h : Byt w w.heap.size A n cap l) (hm : n ≤ 40000) (hT : FoldT w) :
    Calls Tryd.prog 28 #[.slice A n cap, .int .i64 at_] w fun e w' => e = .returned (declV (declAt true l at_)) ∧ Below w.heap.size w w' := by
  have hi : (Tryd.prog.info? 53).map (·.size) = some 4 := by kernel_rfl
  obtain ⟨d, hu⟩ := isStruct_of (P := Tryd.prog) (t := 53) (by kernel_rfl)
  have HU := Lib.hid (And.intro hi hu)
  have CT : Hid (∀ W, XP #[.string ⟨#[118, 101, 114, 115, 105, 111, 110]⟩, .func (.func 47) #[] #[], .pointer (some ⟨w.heap.size + 1, 1, none⟩), .bool false, .string ⟨#[101, 110, 99, 111, 100, 105, 110, 103]⟩, .func (.func 48) #[] #[], .pointer (some ⟨w.heap.size + 1, 2, none⟩), .bool true] w W → Calls Tryd.prog 46 #[.slice A n cap, .int .i64 at_, .pointer (some ⟨w.heap.size + 1, 0, none⟩), .slice (some ⟨w.heap.size + 2, 0, none⟩) 2 2] W fun e w' => e = .returned (declV (declAt true l at_)) ∧ (w'.cell? ⟨w.heap.size, 0, none⟩ = some (.bool false) ∧ w'.cell? ⟨w.heap.size, 1, none⟩ = some (.string ⟨#[]⟩) ∧ w'.cell? ⟨w.heap.size, 2, none⟩ = some (.string ⟨#[]⟩) ∧ w'.cell? ⟨w.heap.size, 3, none⟩ = some (.string ⟨#[]⟩) ∧ w'.frozen? ⟨w.heap.size, 0, none⟩ = false ∧ w'.frozen? ⟨w.heap.size, 1, none⟩ = false ∧ w'.frozen? ⟨w.heap.size, 2, none⟩ = false ∧ w'.frozen? ⟨w.heap.size, 3, none⟩ = false ∧ (w'.setCell ⟨w.heap.size, 0, none⟩ (.bool (declAt true l at_).1.has)).cell? ⟨w.heap.size, 1, none⟩ = some (.string ⟨#[]⟩) ∧ ((w'.setCell ⟨w.heap.size, 0, none⟩ (.bool (declAt true l at_).1.has)).setCell ⟨w.heap.size, 1, none⟩ (.string ⟨(declAt true l at_).1.ver.toArray⟩)).cell? ⟨w.heap.size, 2, none⟩ = some (.string ⟨#[]⟩) ∧ (((w'.setCell ⟨w.heap.size, 0, none⟩ (.bool (declAt true l at_).1.has)).setCell ⟨w.heap.size, 1, none⟩ (.string ⟨(declAt true l at_).1.ver.toArray⟩)).setCell ⟨w.heap.size, 2, none⟩ (.string ⟨(declAt true l at_).1.enc.toArray⟩)).cell? ⟨w.heap.size, 3, none⟩ = some (.string ⟨#[]⟩) ∧ (w'.setCell ⟨w.heap.size, 0, none⟩ (.bool (declAt true l at_).1.has)).frozen? ⟨w.heap.size, 1, none⟩ = false ∧ ((w'.setCell ⟨w.heap.size, 0, none⟩ (.bool (declAt true l at_).1.has)).setCell ⟨w.heap.size, 1, none⟩ (.string ⟨(declAt true l at_).1.ver.toArray⟩)).frozen? ⟨w.heap.size, 2, none⟩ = false ∧ (((w'.setCell ⟨w.heap.size, 0, none⟩ (.bool (declAt true l at_).1.has)).setCell ⟨w.heap.size, 1, none⟩ (.string ⟨(declAt true l at_).1.ver.toArray⟩)).setCell ⟨w.heap.size, 2, none⟩ (.string ⟨(declAt true l at_).1.enc.toArray⟩)).frozen? ⟨w.heap.size, 3, none⟩ = false) ∧ Hid (((((w'.setCell ⟨w.heap.size, 0, none⟩ (.bool (declAt true l at_).1.has)).setCell ⟨w.heap.size, 1, none⟩ (.string ⟨(declAt true l at_).1.ver.toArray⟩)).setCell ⟨w.heap.size, 2, none⟩ (.string ⟨(declAt true l at_).1.enc.toArray⟩)).setCell ⟨w.heap.size, 3, none⟩ (.string ⟨(declAt true l at_).1.alone.toArray⟩)).heap[w.heap.size]? = some (.cells (declAt true l at_).1.cells 53) ∧ Below w.heap.size w ((((w'.setCell ⟨w.heap.size, 0, none⟩ (.bool (declAt true l at_).1.has)).setCell ⟨w.heap.size, 1, none⟩ (.string ⟨(declAt true l at_).1.ver.toArray⟩)).setCell ⟨w.heap.size, 2, none⟩ (.string ⟨(declAt true l at_).1.enc.toArray⟩)).setCell ⟨w.heap.size, 3, none⟩ (.string ⟨(declAt true l at_).1.alone.toArray⟩)))) := Lib.hid fun W hX => by
    have hsz := hX.1.size
    have hl2 := lt_of hX.2.2.2
    refine (told_c true (.slice (some ⟨w.heap.size + 2, 0, none⟩) 2 2) (w.heap.size + 1) w.heap.size A n cap l at_ W (h.below hX.1) hm (Nat.le_succ _) hX.2.2.1 ?_).mono fun e w' ⟨he, hf⟩ => ?_
    · intro k hk hx W2 hJ
      have hb2 : Below w.heap.size W W2 := hJ.1.below (by omega) (by omega)
      refine xdReadAll_t (w.heap.size + 1) (w.heap.size + 2) w.heap.size A n cap l k W2 ((h.below hX.1).below hb2) hm hx (Nat.le_succ _) ((hT.below hX.1 hT.lt).below hb2 hT.lt) hT.lt hJ.2.1 (by omega) ?_
      rw [hJ.1.block _ hl2 (by omega)]
      exact hX.2.2.2
    · have hr : w'.heap[w.heap.size]? = some (.cells #[.bool false, .string ⟨#[]⟩, .string ⟨#[]⟩, .string ⟨#[]⟩] 53) := by rw [hf.block _ (by omega) (by omega)]; exact hX.2.1
      have hb := hX.1.trans (hf.below (B := w.heap.size) (by omega) (by omega))
      have r1 := hp_set (i := 0) (v := (.bool (declAt true l at_).1.has)) hr
      have r2 := hp_set (i := 1) (v := (.string ⟨(declAt true l at_).1.ver.toArray⟩)) r1
      have r3 := hp_set (i := 2) (v := (.string ⟨(declAt true l at_).1.enc.toArray⟩)) r2
      have r4 := hp_set (i := 3) (v := (.string ⟨(declAt true l at_).1.alone.toArray⟩)) r3
      refine ⟨he, ⟨cell_of 0 hr, cell_of 1 hr, cell_of 2 hr, cell_of 3 hr, free_of 0 hr, free_of 1 hr, free_of 2 hr, free_of 3 hr, cell_of 1 r1, cell_of 2 r2, cell_of 3 r3, free_of 1 r1, free_of 2 r2, free_of 3 r3⟩, Lib.hid ⟨r4, ?_⟩⟩
      exact (((hb.setCell (p := ⟨w.heap.size, 0, none⟩) (Nat.le_refl _) _).setCell (p := ⟨w.heap.size, 1, none⟩) (Nat.le_refl _) _).setCell (p := ⟨w.heap.size, 2, none⟩) (Nat.le_refl _) _).setCell (p := ⟨w.heap.size, 3, none⟩) (Nat.le_refl _) _
  have HX := Lib.hid (XP.start #[.string ⟨#[118, 101, 114, 115, 105, 111, 110]⟩, .func (.func 47) #[] #[], .pointer (some ⟨w.heap.size + 1, 1, none⟩), .bool false, .string ⟨#[101, 110, 99, 111, 100, 105, 110, 103]⟩, .func (.func 48) #[] #[], .pointer (some ⟨w.heap.size + 1, 2, none⟩), .bool true] w)
  clear h hT hm hi hu
  generalize declAt true l at_ = o at *
  obtain ⟨⟨dh, dv, de, da⟩, nx, er⟩ := o
  unfold declV DeclL.cells at *
  simp only at CT ⊢
  go_enter Tryd.func28, Tryd.ntmps28
  go_wp2
  go_region_with (first
    | (go_at_call 46; refine (CT.out _ (by first | exact HX.out | exact HX.out.drew | exact HX.out.drew.drew | exact HX.out.drew.drew.drew | exact HX.out.drew.drew.drew.drew)).mono ?_; rintro e w1 ⟨rfl, ⟨z0, z1, z2, z3, y0, y1, y2, y3, x1, x2, x3, u1, u2, u3⟩, HF⟩))
  all_goals
    go_wp2
    (try simp only [Exit.inBlock, Exit.then])
    exact bodyPost_ret (results_cell3 rfl _ _ w.heap.size _ _ _ _ rfl HF.out.1 HU.out.2 rfl HU.out.1) rfl ⟨rfl, HF.out.2⟩
/-- Two blocks that a law keeps: the program's answer, the document's. -/
def LJ (a b : Nat) (va vb : Array Value) (w W : World) : Prop := Below w.heap.size w W ∧ W.heap[a]? = some (.cells va 53) ∧ W.heap[b]? = some (.cells vb 56)
theorem LJ.kept {a b : Nat} {va vb : Array Value} {w W W' : World} (h : LJ a b va vb w W) (hb : Below W.heap.size W W') : LJ a b va vb w W' :=
  ⟨h.1.trans (hb.mono h.1.size), by rw [hb.block _ (lt_of h.2.1)]; exact h.2.1, by rw [hb.block _ (lt_of h.2.2)]; exact h.2.2⟩
theorem below_row {w W : World} (h : Below w.heap.size w W) (r : Nat) (hr : w.heap.size ≤ r) (cs : Array Value) : Below w.heap.size w (W.setRow r cs) := by
  refine ⟨h.os, h.tape, h.output, ?_, fun k hk => ?_⟩
  · have := h.size; simpa [World.setRow] using this
  · rw [setRow_other _ _ _ _ (by omega)]; exact h.block k hk
theorem LJ.rowA {a b : Nat} {va vb : Array Value} {w W : World} (h : LJ a b va vb w W) (ha : w.heap.size ≤ a) (hne : b ≠ a) (cs : Array Value) : LJ a b cs vb w (W.setRow a cs) :=
  ⟨below_row h.1 a ha cs, setRow_heap _ _ _ _ _ _ h.2.1, by rw [setRow_other _ _ _ _ hne]; exact h.2.2⟩
theorem LJ.rowB {a b : Nat} {va vb : Array Value} {w W : World} (h : LJ a b va vb w W) (hb : w.heap.size ≤ b) (hne : a ≠ b) (cs : Array Value) : LJ a b va cs w (W.setRow b cs) :=
  ⟨below_row h.1 b hb cs, by rw [setRow_other _ _ _ _ hne]; exact h.2.1, setRow_heap _ _ _ _ _ _ h.2.2⟩
set_option maxRecDepth 100000 in
set_option maxHeartbeats 4000000 in
theorem same9_c (dh : Bool) (dv de da : List UInt8) (w : World) :
    Calls Tryd.prog 25 #[.agg #[.bool dh, .string ⟨dv.toArray⟩, .string ⟨de.toArray⟩, .string ⟨da.toArray⟩], .agg #[.bool dh, .string ⟨dv.toArray⟩, .string ⟨de.toArray⟩, .string ⟨da.toArray⟩]] w fun e w' => e = .returned (.bool true) ∧ Below w.heap.size w w' := by
  have a1 := (Below.refl w.heap.size w).alloc (Nat.le_refl _) (.cells #[.bool dh, .string ⟨dv.toArray⟩, .string ⟨de.toArray⟩, .string ⟨da.toArray⟩] 53)
  have B2 := Lib.hid (a1.alloc a1.size (.cells #[.bool dh, .string ⟨dv.toArray⟩, .string ⟨de.toArray⟩, .string ⟨da.toArray⟩] 56))
  clear a1
  cases dh
  all_goals
    go_enter Tryd.func25, Tryd.ntmps25
    go_wp2
    go_ret
    exact ⟨rfl, B2.out⟩
theorem xdHas_c (A : Option Addr) (n cap : Nat) (l : List UInt8) (at_ : Int) (w : World) (h : Byt w w.heap.size A n cap l) (hm : n ≤ 100000) :
    Calls Tryd.prog 26 #[.slice A n cap, .int .i64 at_] w fun e w' => e = .returned (.bool (hasAt l at_)) ∧ Below w.heap.size w w' := by
  unfold hasAt
  rw [h.length]
  by_cases ha : at_ < 0 ∨ (n : Int) < at_
  · rw [if_pos ha]; exact (xdHas_range A n cap at_ w ha).mono fun e w' ⟨he, hw⟩ => ⟨he, hw ▸ Below.refl _ _⟩
  · rw [if_neg ha]
    obtain ⟨k, rfl⟩ : ∃ k : Nat, at_ = (k : Int) := ⟨at_.toNat, by omega⟩
    exact xdHas_in A n cap l k w h hm (by omega)
theorem refHasX_c (A : Option Addr) (n cap : Nat) (l : List UInt8) (at_ : Int) (w : World) (h : Byt w w.heap.size A n cap l) (hm : n ≤ 100000) (hb : at_ ≤ 9223372036854775807) :
    Calls Tryd.prog 27 #[.slice A n cap, .int .i64 at_] w fun e w' => e = .returned (.bool (hasAt l at_)) ∧ w = w' := by
  unfold hasAt
  rw [h.length]
  by_cases ha : at_ < 0 ∨ (n : Int) < at_
  · rw [if_pos ha]; exact refHas_far A n cap at_ w (by omega) ha hb
  · rw [if_neg ha]
    obtain ⟨k, rfl⟩ : ∃ k : Nat, at_ = (k : Int) := ⟨at_.toNat, by omega⟩
    exact refHas_in A n cap l k _ w h hm (by omega)
set_option maxRecDepth 100000 in
set_option maxHeartbeats 8000000 in
theorem live9_c (w : World) (hT : FoldT w) : Calls Tryd.prog 22 #[] w fun e w' => e = .returned (.bool true) ∧ Below w.heap.size w w' := by
  have kc := fun (w : World) (C : Array Value) (n c : Nat) => Lib.run_convert_bytes_const (P := Tryd.prog) w 22 5 C n c Tryd.underlying22 Tryd.underlying5
  have C1 : Hid (∀ W, Below w.heap.size w W → Calls Tryd.prog 23 #[.slice (some ⟨W.heap.size, 0, none⟩) 21 21, .int .i64 0] (W.alloc (.cells #[.int .u8 60, .int .u8 63, .int .u8 120, .int .u8 109, .int .u8 108, .int .u8 32, .int .u8 118, .int .u8 101, .int .u8 114, .int .u8 115, .int .u8 105, .int .u8 111, .int .u8 110, .int .u8 61, .int .u8 34, .int .u8 49, .int .u8 46, .int .u8 48, .int .u8 34, .int .u8 63, .int .u8 62] 5 (21, 22))) fun e w' => e = .returned (.tuple #[.agg #[.bool true, .string ⟨#[49, 46, 48]⟩, .string ⟨#[]⟩, .string ⟨#[]⟩], .int .i64 21, .int .i64 0]) ∧ Below W.heap.size W w') := Lib.hid fun W hb => by
    have k1 := alloc_const W [60, 63, 120, 109, 108, 32, 118, 101, 114, 115, 105, 111, 110, 61, 34, 49, 46, 48, 34, 63, 62] (21, 22) (by decide)
    have hb1 := hb.trans (k1.1.mono hb.size)
    have := xdXml_c _ _ _ _ 0 _ (k1.2.more (by simp)) (by decide) (hT.below hb1 hT.lt)
    rw [show declAt false [60, 63, 120, 109, 108, 32, 118, 101, 114, 115, 105, 111, 110, 61, 34, 49, 46, 48, 34, 63, 62] 0 = (⟨true, [49, 46, 48], [], []⟩, 21, 0) by kernel_rfl] at this
    exact this.mono fun e w' ⟨he, hb2⟩ => ⟨he, k1.1.trans (hb2.mono k1.1.size)⟩
  have C2 : Hid (∀ W, Below w.heap.size w W → Calls Tryd.prog 23 #[.slice (some ⟨W.heap.size, 0, none⟩) 4 4, .int .i64 0] (W.alloc (.cells #[.int .u8 60, .int .u8 97, .int .u8 47, .int .u8 62] 5 (4, 5))) fun e w' => e = .returned (.tuple #[.agg #[.bool false, .string ⟨#[]⟩, .string ⟨#[]⟩, .string ⟨#[]⟩], .int .i64 0, .int .i64 0]) ∧ Below W.heap.size W w') := Lib.hid fun W hb => by
    have k1 := alloc_const W [60, 97, 47, 62] (4, 5) (by decide)
    have hb1 := hb.trans (k1.1.mono hb.size)
    have := xdXml_c _ _ _ _ 0 _ (k1.2.more (by simp)) (by decide) (hT.below hb1 hT.lt)
    rw [show declAt false [60, 97, 47, 62] 0 = (noDecl, 0, 0) by kernel_rfl] at this
    exact this.mono fun e w' ⟨he, hb2⟩ => ⟨he, k1.1.trans (hb2.mono k1.1.size)⟩
  have hi : (Tryd.prog.info? 53).map (·.size) = some 4 := by kernel_rfl
  obtain ⟨d, hu⟩ := isStruct_of (P := Tryd.prog) (t := 53) (by kernel_rfl)
  have HU := Lib.hid (And.intro hi hu)
  clear hT hi hu
  go_enter Tryd.func22, Tryd.ntmps22
  go_wp2_with fail
  refine (C1.out _ (Below.refl _ _)).mono ?_
  rintro e w1 ⟨rfl, hb⟩
  have hq := hp_new w1 (.cells #[.bool true, .string ⟨#[49, 46, 48]⟩, .string ⟨#[]⟩, .string ⟨#[]⟩] 53)
  have ka := (Below.refl _ w1).alloc (Nat.le_refl _) (.cells #[.bool true, .string ⟨#[49, 46, 48]⟩, .string ⟨#[]⟩, .string ⟨#[]⟩] 53)
  have B1a := Lib.hid (hb.trans (ka.mono hb.size))
  have HQ := Lib.hid hq
  clear hb hq ka
  go_wp2_with fail
  generalize hv : w1.alloc (.cells #[.bool true, .string ⟨#[49, 46, 48]⟩, .string ⟨#[]⟩, .string ⟨#[]⟩] 53) = v1 at *
  have hs : w1.heap.size + 1 = v1.heap.size := by rw [← hv]; simp
  rw [hs, kc v1]
  clear hv
  go_wp2_with fail
  refine (C2.out _ B1a.out).mono ?_
  rintro e w2 ⟨rfl, hb⟩
  clear kc
  have ka2 := (Below.refl _ w2).alloc (Nat.le_refl _) (.cells #[.bool false, .string ⟨#[]⟩, .string ⟨#[]⟩, .string ⟨#[]⟩] 53)
  have hq2 : Hid ((w2.alloc (.cells #[.bool false, .string ⟨#[]⟩, .string ⟨#[]⟩, .string ⟨#[]⟩] 53)).heap[w1.heap.size]? = some (.cells #[.bool true, .string ⟨#[49, 46, 48]⟩, .string ⟨#[]⟩, .string ⟨#[]⟩] 53)) := Lib.hid (by
    rw [Below.heap_alloc _ _ _ (by have := hb.size; omega), hb.block _ (by omega)]
    exact HQ.out)
  have hq3 := Lib.hid (hp_new w2 (.cells #[.bool false, .string ⟨#[]⟩, .string ⟨#[]⟩, .string ⟨#[]⟩] 53))
  have B2 := Lib.hid (B1a.out.trans ((hb.trans (ka2.mono hb.size)).mono B1a.out.size))
  clear hb ka2 HQ
  go_wp2_with (first | (refine wpList_load_row rfl _ _ rfl w1.heap.size rfl _ _ _ _ hq2.out HU.out.2 rfl HU.out.1 ?_) | (refine wpList_load_row rfl _ _ rfl w2.heap.size rfl _ _ _ _ hq3.out HU.out.2 rfl HU.out.1 ?_))
  go_ret
  exact ⟨rfl, B2.out⟩
set_option maxRecDepth 100000 in
set_option maxHeartbeats 8000000 in
theorem xdeclReads_walk (A : Option Addr) (n cap : Nat) (l : List UInt8) (at_ : Int) (w : World) (h : Byt w w.heap.size A n cap l) (hwf : (Lit.int .i64 at_).wf = true) (hT : FoldT w) :
    Calls Tryd.prog 6 #[.slice A n cap, .int .i64 at_] w fun e w' => e = .returned (.bool true) ∧ Below w.heap.size w w' := by
  have LV : Hid (∀ W, Below w.heap.size w W → Calls Tryd.prog 22 #[] W fun e w' => e = .returned (.bool true) ∧ Below W.heap.size W w') := Lib.hid fun W hb => live9_c W (hT.below hb hT.lt)
  have hrg := bounds_i64 hwf
  by_cases hn : n ≤ 400
  · have hn' : ¬ (400 : Int) < (n : Int) := by omega
    have HK : Hid (∀ W, Below w.heap.size w W → Byt W W.heap.size A n cap l ∧ FoldT W) := Lib.hid fun W hb => ⟨(h.below hb).more hb.size, hT.below hb hT.lt⟩
    have C1 : Hid (∀ W, Below w.heap.size w W → Calls Tryd.prog 23 #[.slice A n cap, .int .i64 at_] W fun e w' => e = .returned (declV (declAt false l at_)) ∧ Below W.heap.size W w') := Lib.hid fun W hb => xdXml_c A n cap l at_ W (HK.out W hb).1 (by omega) (HK.out W hb).2
    have C2 : Hid (∀ W, Below w.heap.size w W → Calls Tryd.prog 24 #[.slice A n cap, .int .i64 at_, .bool false] W fun e w' => e = .returned (declV (declAt false l at_)) ∧ Below W.heap.size W w') := Lib.hid fun W hb => refReadDecl_c false A n cap l at_ W (HK.out W hb).1 (by omega)
    have C3 : Hid (∀ W, Below w.heap.size w W → Calls Tryd.prog 28 #[.slice A n cap, .int .i64 at_] W fun e w' => e = .returned (declV (declAt true l at_)) ∧ Below W.heap.size W w') := Lib.hid fun W hb => xdText_c A n cap l at_ W (HK.out W hb).1 (by omega) (HK.out W hb).2
    have C4 : Hid (∀ W, Below w.heap.size w W → Calls Tryd.prog 24 #[.slice A n cap, .int .i64 at_, .bool true] W fun e w' => e = .returned (declV (declAt true l at_)) ∧ Below W.heap.size W w') := Lib.hid fun W hb => refReadDecl_c true A n cap l at_ W (HK.out W hb).1 (by omega)
    have C5 : Hid (∀ W, Below w.heap.size w W → Calls Tryd.prog 26 #[.slice A n cap, .int .i64 at_] W fun e w' => e = .returned (.bool (hasAt l at_)) ∧ Below W.heap.size W w') := Lib.hid fun W hb => xdHas_c A n cap l at_ W (HK.out W hb).1 (by omega)
    have C6 : Hid (∀ W, Below w.heap.size w W → Calls Tryd.prog 27 #[.slice A n cap, .int .i64 at_] W fun e w' => e = .returned (.bool (hasAt l at_)) ∧ W = w') := Lib.hid fun W hb => refHasX_c A n cap l at_ W (HK.out W hb).1 (by omega) (by omega)
    have hi : (Tryd.prog.info? 53).map (·.size) = some 4 := by kernel_rfl
    obtain ⟨d, hu⟩ := isStruct_of (P := Tryd.prog) (t := 53) (by kernel_rfl)
    have HU := Lib.hid (And.intro hi hu)
    have hi2 : (Tryd.prog.info? 56).map (·.size) = some 4 := by kernel_rfl
    obtain ⟨d2, hu2⟩ := isStruct_of (P := Tryd.prog) (t := 56) (by kernel_rfl)
    have HU2 := Lib.hid (And.intro hi2 hu2)
    generalize declAt false l at_ = o1 at *
    generalize declAt true l at_ = o2 at *
    generalize hasAt l at_ = hv at *
    obtain ⟨⟨h1, v1, e1, a1⟩, i1, x1⟩ := o1
    obtain ⟨⟨h2, v2, e2, a2⟩, i2, x2⟩ := o2
    unfold declV DeclL.cells at *
    clear HK h hT hn hwf hrg hi hu hi2 hu2
    have hvv : (hv == hv) = true := by simp
    go_enter Tryd.func6, Tryd.ntmps6
    go_wp2_with fail
    refine (C1.out _ (Below.refl _ _)).mono ?_
    rintro e w1 ⟨rfl, b1⟩
    have ka := (Below.refl _ w1).alloc (Nat.le_refl _) (.cells #[.bool h1, .string ⟨v1.toArray⟩, .string ⟨e1.toArray⟩, .string ⟨a1.toArray⟩] 53)
    have HQ := Lib.hid (hp_new w1 (.cells #[.bool h1, .string ⟨v1.toArray⟩, .string ⟨e1.toArray⟩, .string ⟨a1.toArray⟩] 53))
    have B1 := Lib.hid (b1.trans (ka.mono b1.size))
    have ha := Lib.hid b1.size
    clear b1 ka
    go_wp2_with fail
    refine (C2.out _ B1.out).mono ?_
    rintro e w2 ⟨rfl, b2⟩
    have hs2 := b2.size
    simp only [World.size_alloc] at hs2
    have ka2 := (Below.refl _ w2).alloc (Nat.le_refl _) (.cells #[.bool h1, .string ⟨v1.toArray⟩, .string ⟨e1.toArray⟩, .string ⟨a1.toArray⟩] 56)
    have J3 : Hid (LJ w1.heap.size w2.heap.size #[.bool h1, .string ⟨v1.toArray⟩, .string ⟨e1.toArray⟩, .string ⟨a1.toArray⟩] #[.bool h1, .string ⟨v1.toArray⟩, .string ⟨e1.toArray⟩, .string ⟨a1.toArray⟩] w (w2.alloc (.cells #[.bool h1, .string ⟨v1.toArray⟩, .string ⟨e1.toArray⟩, .string ⟨a1.toArray⟩] 56))) := Lib.hid
      ⟨B1.out.trans ((b2.trans (ka2.mono b2.size)).mono B1.out.size), by rw [Below.heap_alloc _ _ _ (by omega), b2.block _ (by simp)]; exact HQ.out, hp_new _ _⟩
    have hlt := Lib.hid hs2
    clear b2 ka2 HQ hs2
    go_wp2_with (first | (refine wpList_load_row rfl _ _ rfl w1.heap.size rfl _ _ _ _ J3.out.2.1 HU.out.2 rfl HU.out.1 ?_) | (refine wpList_load_row rfl _ _ rfl w2.heap.size rfl _ _ _ _ J3.out.2.2 HU2.out.2 rfl HU2.out.1 ?_))
    refine (same9_c h1 v1 e1 a1 _).mono ?_
    rintro e w4 ⟨rfl, b4⟩
    have J4 := Lib.hid (J3.out.kept b4)
    clear b4
    go_wp2_with fail
    refine (C5.out _ J4.out.1).mono ?_
    rintro e w5 ⟨rfl, b5⟩
    have J5 := Lib.hid (J4.out.kept b5)
    clear b5
    go_wp2_with fail
    refine (C6.out _ J5.out.1).mono ?_
    rintro e wq ⟨rfl, rfl⟩
    go_wp2_with fail
    refine (C3.out _ J5.out.1).mono ?_
    rintro e w6 ⟨rfl, b6⟩
    have J6 := Lib.hid (J5.out.kept b6)
    clear b6
    have J7 := Lib.hid (J6.out.rowA ha.out (by have := hlt.out; omega) #[.bool h2, .string ⟨v2.toArray⟩, .string ⟨e2.toArray⟩, .string ⟨a2.toArray⟩])
    go_wp2_with (refine wpList_store_row rfl _ _ _ rfl w1.heap.size #[.bool h2, .string ⟨v2.toArray⟩, .string ⟨e2.toArray⟩, .string ⟨a2.toArray⟩] rfl rfl _ _ J6.out.2.1 (by kernel_rfl) rfl (by kernel_rfl) ?_)
    refine (C4.out _ J7.out.1).mono ?_
    rintro e w8 ⟨rfl, b8⟩
    have J8 := Lib.hid (J7.out.kept b8)
    clear b8
    have J9 := Lib.hid (J8.out.rowB (by have := hlt.out; have := ha.out; omega) (by have := hlt.out; omega) #[.bool h2, .string ⟨v2.toArray⟩, .string ⟨e2.toArray⟩, .string ⟨a2.toArray⟩])
    go_wp2_with (first | (refine wpList_store_row rfl _ _ _ rfl w2.heap.size #[.bool h2, .string ⟨v2.toArray⟩, .string ⟨e2.toArray⟩, .string ⟨a2.toArray⟩] rfl rfl _ _ J8.out.2.2 (by kernel_rfl) rfl (by kernel_rfl) ?_) | (refine wpList_load_row rfl _ _ rfl w1.heap.size rfl _ _ _ _ J9.out.2.1 HU.out.2 rfl HU.out.1 ?_) | (refine wpList_load_row rfl _ _ rfl w2.heap.size rfl _ _ _ _ J9.out.2.2 HU2.out.2 rfl HU2.out.1 ?_))
    refine (same9_c h2 v2 e2 a2 _).mono ?_
    rintro e w10 ⟨rfl, b10⟩
    have J10 := Lib.hid (J9.out.kept b10)
    clear b10
    go_wp2_with fail
    refine (LV.out _ J10.out.1).mono ?_
    rintro e w11 ⟨rfl, b11⟩
    have B11 := Lib.hid (J10.out.1.trans (b11.mono J10.out.1.size))
    clear b11
    go_wp2
    go_ret
    exact ⟨rfl, B11.out⟩
  · have hn' : (400 : Int) < (n : Int) := by omega
    clear hT hn h hrg hwf
    go_enter Tryd.func6, Tryd.ntmps6
    go_wp2_with fail
    refine (LV.out _ (Below.refl _ _)).mono ?_
    rintro e w1 ⟨rfl, hb⟩
    have B1 := Lib.hid hb
    clear hb
    go_wp2
    go_ret
    exact ⟨rfl, B1.out⟩
end Go.Proofs.YtcpljjajobfkkaaDoor
