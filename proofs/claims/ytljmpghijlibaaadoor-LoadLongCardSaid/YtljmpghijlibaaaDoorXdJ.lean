/- narthexref09.Read at any place. -/
import Derived.Test.YtljmpghijlibaaaDoorRows
import Derived.WalkKit
import Derived.ProofKit
import Derived.OpenShut
import Derived.ShutString
import Derived.ChangeOld
import Derived.Below
import Derived.BigQuiet
import Derived.Deep.QuietTactic
import Derived.Lib.Hide
import Derived.Deep.RegionHeld3
import Derived.Lib.SlBytesConst
import Derived.Laws.CopyOwn
import Derived.Laws.CopyRow
import Derived.Lib.Bytes
import Derived.Deep.LoopGhost
import Derived.Deep.DeepFit
import Derived.Deep.DeepMust
import Derived.WalkSpells
import Derived.WalkLawsBesides
import Derived.Test.YtljmpghijlibaaaDoorBase
import Derived.Test.YtljmpghijlibaaaDoorShelf
import Derived.Test.YtljmpghijlibaaaDoorCharPlain
import Derived.Test.YtljmpghijlibaaaDoorCref1
import Derived.Test.YtljmpghijlibaaaDoorY2
import Derived.Test.YtljmpghijlibaaaDoorStr
import Derived.Test.YtljmpghijlibaaaDoorY3
import Derived.Test.YtljmpghijlibaaaDoorPub
import Derived.Test.YtljmpghijlibaaaDoorBlank
import Derived.Test.YtljmpghijlibaaaDoorLibB
import Derived.Test.YtljmpghijlibaaaDoorMiscP
import Derived.Test.YtljmpghijlibaaaDoorMisc1
import Derived.Test.YtljmpghijlibaaaDoorBits
import Derived.Test.YtljmpghijlibaaaDoorX1
import Derived.Test.YtljmpghijlibaaaDoorXdH
import Derived.Test.YtljmpghijlibaaaDoorXdI
namespace Go.Proofs.YtljmpghijlibaaaDoor
open Go.ChangeShapes Go.WideShapes Go.ChangeAt Go.RowKit
set_option linter.unusedVariables false
theorem tail_yes (l : List UInt8) (d : DeclL) (i : Nat) (h : [63, 62].isPrefixOf (l.drop (blankTo l i)) = true) : tailOut l d i = (d, blankTo l i + 2, 0) := by unfold tailOut; rw [if_pos h]
theorem tail_no (l : List UInt8) (d : DeclL) (i : Nat) (h : [63, 62].isPrefixOf (l.drop (blankTo l i)) = false) : tailOut l d i = (noDecl, 0, 7) := by unfold tailOut; rw [if_neg (by rw [h]; simp)]
theorem readDecl_f (A : Option Addr) (n cap : Nat) (l : List UInt8) (k : Nat) (w : World) (h : Byt w w.heap.size A n cap l) (hm : n ≤ 40000) (hk : k ≤ n) (hx : hasX l k = true) :
    Calls Tryd.prog 45 #[.slice A n cap, .int .i64 k, .bool false] w fun e w' => e = .returned (declV (readDecl false l k)) ∧ Below w.heap.size w w' := by
  have hln := h.length
  have hkl := hasX_le l k n hln hx
  cases ho0 : partOut verW verB l (k + 5) with
  | none =>
    rw [show readDecl false l k = (noDecl, 0, 7) by unfold readDecl; rw [ho0]]
    exact refRead_f_none A n cap l k w h hm hk hx ho0
  | some p =>
    obtain ⟨v, j⟩ := p
    rcases part_le (by omega) ho0 with ⟨rfl, rfl⟩ | ⟨hlt0, hle0⟩
    · rw [show readDecl false l k = (noDecl, 0, 7) by unfold readDecl; rw [ho0]; simp]
      exact refRead_f_same A n cap l k w h hm hk hx ho0
    · rw [show readDecl false l k = readEnc false l v j by unfold readDecl; rw [ho0]; simp only; rw [if_neg (by omega)]]
      cases ho1 : partOut encW encB l j with
      | none =>
        rw [show readEnc false l v j = (noDecl, 0, 7) by unfold readEnc; rw [ho1]]
        exact refRead_f_found_none A n cap l k w h hm hk hx v j ho0 hlt0 (by omega) ho1
      | some p =>
        obtain ⟨e, j1⟩ := p
        rw [show readEnc false l v j = readAlone l v e j1 by unfold readEnc; rw [ho1]; simp]
        rcases part_le (by omega) ho1 with ⟨rfl, rfl⟩ | ⟨hlt1, hle1⟩
        · cases ho2 : partOut aloneW aloneB l j1 with
          | none =>
            rw [show readAlone l v [] j1 = (noDecl, 0, 7) by unfold readAlone; rw [ho2]]
            exact refRead_f_found_same_none A n cap l k w h hm hk hx v j1 ho0 hlt0 (by omega) ho1 ho2
          | some p =>
            obtain ⟨a, j2⟩ := p
            rw [show readAlone l v [] j1 = tailOut l ⟨true, v, [], a⟩ j2 by unfold readAlone; rw [ho2]]
            rcases part_le (by omega) ho2 with ⟨rfl, rfl⟩ | ⟨hlt2, hle2⟩
            · cases ht : [63, 62].isPrefixOf (l.drop (blankTo l j2)) with
              | true => rw [tail_yes _ _ _ ht]; exact refRead_f_found_same_same_yes A n cap l k w h hm hk hx v j2 ho0 hlt0 (by omega) ho1 ho2 ht
              | false => rw [tail_no _ _ _ ht]; exact refRead_f_found_same_same_no A n cap l k w h hm hk hx v j2 ho0 hlt0 (by omega) ho1 ho2 ht
            · cases ht : [63, 62].isPrefixOf (l.drop (blankTo l j2)) with
              | true => rw [tail_yes _ _ _ ht]; exact refRead_f_found_same_found_yes A n cap l k w h hm hk hx v j1 ho0 hlt0 (by omega) ho1 a j2 ho2 hlt2 (by omega) ht
              | false => rw [tail_no _ _ _ ht]; exact refRead_f_found_same_found_no A n cap l k w h hm hk hx v j1 ho0 hlt0 (by omega) ho1 a j2 ho2 hlt2 (by omega) ht
        · cases ho2 : partOut aloneW aloneB l j1 with
          | none =>
            rw [show readAlone l v e j1 = (noDecl, 0, 7) by unfold readAlone; rw [ho2]]
            exact refRead_f_found_found_none A n cap l k w h hm hk hx v j ho0 hlt0 (by omega) e j1 ho1 hlt1 (by omega) ho2
          | some p =>
            obtain ⟨a, j2⟩ := p
            rw [show readAlone l v e j1 = tailOut l ⟨true, v, e, a⟩ j2 by unfold readAlone; rw [ho2]]
            rcases part_le (by omega) ho2 with ⟨rfl, rfl⟩ | ⟨hlt2, hle2⟩
            · cases ht : [63, 62].isPrefixOf (l.drop (blankTo l j2)) with
              | true => rw [tail_yes _ _ _ ht]; exact refRead_f_found_found_same_yes A n cap l k w h hm hk hx v j ho0 hlt0 (by omega) e j2 ho1 hlt1 (by omega) ho2 ht
              | false => rw [tail_no _ _ _ ht]; exact refRead_f_found_found_same_no A n cap l k w h hm hk hx v j ho0 hlt0 (by omega) e j2 ho1 hlt1 (by omega) ho2 ht
            · cases ht : [63, 62].isPrefixOf (l.drop (blankTo l j2)) with
              | true => rw [tail_yes _ _ _ ht]; exact refRead_f_found_found_found_yes A n cap l k w h hm hk hx v j ho0 hlt0 (by omega) e j1 ho1 hlt1 (by omega) a j2 ho2 hlt2 (by omega) ht
              | false => rw [tail_no _ _ _ ht]; exact refRead_f_found_found_found_no A n cap l k w h hm hk hx v j ho0 hlt0 (by omega) e j1 ho1 hlt1 (by omega) a j2 ho2 hlt2 (by omega) ht
theorem readDecl_t (A : Option Addr) (n cap : Nat) (l : List UInt8) (k : Nat) (w : World) (h : Byt w w.heap.size A n cap l) (hm : n ≤ 40000) (hk : k ≤ n) (hx : hasX l k = true) :
    Calls Tryd.prog 45 #[.slice A n cap, .int .i64 k, .bool true] w fun e w' => e = .returned (declV (readDecl true l k)) ∧ Below w.heap.size w w' := by
  have hln := h.length
  have hkl := hasX_le l k n hln hx
  cases ho0 : partOut verW verB l (k + 5) with
  | none =>
    rw [show readDecl true l k = (noDecl, 0, 7) by unfold readDecl; rw [ho0]]
    exact refRead_t_none A n cap l k w h hm hk hx ho0
  | some p =>
    obtain ⟨v, j⟩ := p
    rw [show readDecl true l k = readEnc true l v j by unfold readDecl; rw [ho0]; simp]
    rcases part_le (by omega) ho0 with ⟨rfl, rfl⟩ | ⟨hlt0, hle0⟩
    · cases ho1 : partOut encW encB l (k + 5) with
      | none =>
        rw [show readEnc true l [] (k + 5) = (noDecl, 0, 7) by unfold readEnc; rw [ho1]]
        exact refRead_t_same_none A n cap l k w h hm hk hx ho0 ho1
      | some p =>
        obtain ⟨e, j1⟩ := p
        rcases part_le (by omega) ho1 with ⟨rfl, rfl⟩ | ⟨hlt1, hle1⟩
        · rw [show readEnc true l [] (k + 5) = (noDecl, 0, 7) by unfold readEnc; rw [ho1]; simp]
          exact refRead_t_same_same A n cap l k w h hm hk hx ho0 ho1
        · rw [show readEnc true l [] (k + 5) = tailOut l ⟨true, [], e, []⟩ j1 by unfold readEnc; rw [ho1]; simp only [if_true]; rw [if_neg (by omega)]]
          cases ht : [63, 62].isPrefixOf (l.drop (blankTo l j1)) with
          | true => rw [tail_yes _ _ _ ht]; exact refRead_t_same_found_yes A n cap l k w h hm hk hx ho0 e j1 ho1 hlt1 (by omega) ht
          | false => rw [tail_no _ _ _ ht]; exact refRead_t_same_found_no A n cap l k w h hm hk hx ho0 e j1 ho1 hlt1 (by omega) ht
    · cases ho1 : partOut encW encB l j with
      | none =>
        rw [show readEnc true l v j = (noDecl, 0, 7) by unfold readEnc; rw [ho1]]
        exact refRead_t_found_none A n cap l k w h hm hk hx v j ho0 hlt0 (by omega) ho1
      | some p =>
        obtain ⟨e, j1⟩ := p
        rcases part_le (by omega) ho1 with ⟨rfl, rfl⟩ | ⟨hlt1, hle1⟩
        · rw [show readEnc true l v j1 = (noDecl, 0, 7) by unfold readEnc; rw [ho1]; simp]
          exact refRead_t_found_same A n cap l k w h hm hk hx v j1 ho0 hlt0 (by omega) ho1
        · rw [show readEnc true l v j = tailOut l ⟨true, v, e, []⟩ j1 by unfold readEnc; rw [ho1]; simp only [if_true]; rw [if_neg (by omega)]]
          cases ht : [63, 62].isPrefixOf (l.drop (blankTo l j1)) with
          | true => rw [tail_yes _ _ _ ht]; exact refRead_t_found_found_yes A n cap l k w h hm hk hx v j ho0 hlt0 (by omega) e j1 ho1 hlt1 (by omega) ht
          | false => rw [tail_no _ _ _ ht]; exact refRead_t_found_found_no A n cap l k w h hm hk hx v j ho0 hlt0 (by omega) e j1 ho1 hlt1 (by omega) ht
/-- narthexref09.Read at any place. -/
theorem refReadDecl_c (text : Bool) (A : Option Addr) (n cap : Nat) (l : List UInt8) (at_ : Int) (w : World) (h : Byt w w.heap.size A n cap l) (hm : n ≤ 40000) :
    Calls Tryd.prog 45 #[.slice A n cap, .int .i64 at_, .bool text] w fun e w' => e = .returned (declV (declAt text l at_)) ∧ Below w.heap.size w w' := by
  unfold declAt
  rw [h.length]
  by_cases ha : at_ < 0 ∨ (n : Int) < at_
  · rw [if_pos ha]
    exact refReadDecl_range text A n cap at_ w ha
  · rw [if_neg ha]
    obtain ⟨k, rfl⟩ : ∃ k : Nat, at_ = (k : Int) := ⟨at_.toNat, by omega⟩
    rw [Int.toNat_natCast]
    unfold declOut
    by_cases hx : hasX l k = true
    · rw [if_pos hx]
      cases text with
      | true => exact readDecl_t A n cap l k w h hm (by omega) hx
      | false => exact readDecl_f A n cap l k w h hm (by omega) hx
    · rw [if_neg hx]
      exact refReadDecl_no text A n cap l k w h hm (by omega) (bfalse hx)
end Go.Proofs.YtljmpghijlibaaaDoor
