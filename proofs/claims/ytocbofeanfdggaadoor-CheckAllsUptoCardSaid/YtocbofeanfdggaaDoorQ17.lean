/- Texts of ours, joined: CkP, CkW. -/
import Derived.Test.YtocbofeanfdggaaDoorRows
import Derived.WalkKit
import Derived.ProofKit
import Derived.OpenShut
import Derived.ShutString
import Derived.ChangeOld
import Derived.Below
import Derived.BigQuiet
import Derived.Deep.QuietTactic
import Derived.Lib.Hide
import Derived.Deep.RegionHeld3
import Derived.Lib.SlBytesConst
import Derived.Laws.CopyOwn
import Derived.Laws.CopyRow
import Derived.Lib.Bytes
import Derived.Deep.LoopGhost
import Derived.Deep.DeepFit
import Derived.Deep.DeepMust
import Derived.WalkSpells
import Derived.WalkLawsBesides
import Derived.Test.YtocbofeanfdggaaDoorQ2
import Derived.Test.YtocbofeanfdggaaDoorQ5
import Derived.Test.YtocbofeanfdggaaDoorQ3
import Derived.Test.YtocbofeanfdggaaDoorQ4
import Derived.Test.YtocbofeanfdggaaDoorQ6
import Derived.Test.YtocbofeanfdggaaDoorQ11
import Derived.Test.YtocbofeanfdggaaDoorQ12
import Derived.Test.YtocbofeanfdggaaDoorQ13
import Derived.Test.YtocbofeanfdggaaDoorQ14
import Derived.Test.YtocbofeanfdggaaDoorQ16
import Derived.Laws.EntriesVeiled
import Derived.Laws.Rows
import Derived.Test.YtocbofeanfdggaaDoorQ1
/- The plain law of layer 40: an event, events. -/
namespace Go.Proofs.YtocbofeanfdggaaDoor
open Go.ChangeShapes Go.WideShapes Go.ChangeAt Go.RowKit
set_option linter.unusedVariables false
/-- An event, as both sides hold it: its attributes are names and values. -/
structure EvT where
  kind : Int
  sp : List UInt8
  lo : List UInt8
  ats : List (List UInt8 × List UInt8 × List UInt8)
  tx : List UInt8
def xmlnsS : List UInt8 := [104, 116, 116, 112, 58, 47, 47, 119, 119, 119, 46, 119, 51, 46, 111, 114, 103, 47, 50, 48, 48, 48, 47, 120, 109, 108, 110, 115, 47]
def xmlnsN : List UInt8 := [120, 109, 108, 110, 115]
/-- Has it just what its kind has? -/
def partsB (e : EvT) : Bool :=
  if e.kind = 1 then e.tx.isEmpty
  else if e.kind = 2 then e.tx.isEmpty && e.ats.isEmpty
  else if e.kind = 3 ∨ e.kind = 5 then e.sp.isEmpty && e.lo.isEmpty && e.ats.isEmpty
  else if e.kind = 4 then e.sp.isEmpty && e.ats.isEmpty
  else false
def namesA (ats : List (List UInt8 × List UInt8 × List UInt8)) : List (List UInt8 × List UInt8) := ats.map fun a => (a.1, a.2.1)
def namesE (e : EvT) : List (List UInt8 × List UInt8) := if e.kind = 3 ∨ e.kind = 5 then namesA e.ats else (e.sp, e.lo) :: namesA e.ats
def namedB (l : List (List UInt8 × List UInt8)) : Bool := l.all fun n => isPl n.2
def shortB (l : List (List UInt8 × List UInt8)) : Bool := l.all fun n => decide (n.2.length ≤ 1024)
def spacesB (l : List (List UInt8 × List UInt8)) : Bool := l.all fun n => allOut isDoc n.1
def valuesB (ats : List (List UInt8 × List UInt8 × List UInt8)) : Bool := ats.all fun a => allOut isDoc a.2.2
def nowhereB (l : List (List UInt8 × List UInt8)) : Bool := l.all fun n => !decide (n.1 = xmlnsS)
def hasNm (acc : List (List UInt8 × List UInt8)) (n : List UInt8 × List UInt8) : Bool := acc.any fun m => decide (m = n)
/-- Attributes whose names are not declarations, and no two the same. -/
def onceB : List (List UInt8 × List UInt8) → List (List UInt8 × List UInt8) → Bool
  | _, [] => true
  | acc, n :: t => if (decide (n = ([], xmlnsN)) || hasNm acc n) = true then false else onceB (acc ++ [n]) t
def ownB (e : EvT) : Bool :=
  if e.kind = 3 then !e.tx.isEmpty && allOut isDoc e.tx
  else if e.kind = 5 then allOut isDoc e.tx && mayComment e.tx && !Lib.contains e.tx [13]
  else if e.kind = 4 then allOut isDoc e.tx && !decide ((putPiOut e.lo e.tx).2 = 7) && !Lib.contains e.tx [13]
  else allOut isDoc e.tx && !Lib.contains e.tx [13]
def textsB (e : EvT) : Bool := spacesB (namesE e) && valuesB e.ats && ownB e
def spacedB (e : EvT) : Bool := onceB [] (namesA e.ats) && nowhereB (namesE e)
/-- The error of one event. -/
def oneE (e : EvT) : Nat :=
  if partsB e = false then 2 else if namedB (namesE e) = false then 7 else if textsB e = false then 7 else if shortB (namesE e) = false then 11 else if spacedB e = false then 9 else 0
/-- What stands behind one event more: the elements that are open, whether there was one, whether a text was last. -/
def nextE (op : List (List UInt8 × List UInt8)) (root text : Bool) (e : EvT) : Option (List (List UInt8 × List UInt8) × Bool × Bool) :=
  if e.kind = 1 then (if (op.isEmpty && root) = true then none else some (op ++ [(e.sp, e.lo)], true, false))
  else if e.kind = 2 then (if op.getLast? = some (e.sp, e.lo) then some (op.dropLast, root, false) else none)
  else if e.kind = 3 then (if (op.isEmpty || text) = true then none else some (op, root, true))
  else some (op, root, false)
def checkR : List (List UInt8 × List UInt8) → Bool → Bool → List EvT → Nat → Nat × Nat
  | op, root, _, [], i => (i, if (!op.isEmpty || !root) = true then 7 else 0)
  | op, root, text, e :: l, i => if oneE e ≠ 0 then (i, oneE e) else match nextE op root text e with
    | none => (i, 7)
    | some (op', root', text') => checkR op' root' text' l (i + 1)
def checkE (l : List EvT) : Nat × Nat := checkR [] false false l 0
theorem parts_kind {e : EvT} (h : partsB e = true) : e.kind = 1 ∨ e.kind = 2 ∨ e.kind = 3 ∨ e.kind = 4 ∨ e.kind = 5 := by
  unfold partsB at h
  repeat' split at h
  all_goals first | omega | cases h
theorem parts_tx {e : EvT} (h : partsB e = true) (hk : e.kind = 1 ∨ e.kind = 2) : e.tx = [] := by
  unfold partsB at h
  rcases hk with hk | hk
  · rw [if_pos hk] at h
    simpa using h
  · rw [if_neg (by omega), if_pos hk] at h
    simp only [Bool.and_eq_true, List.isEmpty_iff] at h
    exact h.1
end Go.Proofs.YtocbofeanfdggaaDoor
/- check's small functions. -/
namespace Go.Proofs.YtocbofeanfdggaaDoor
open Go.ChangeShapes Go.WideShapes Go.ChangeAt Go.RowKit
set_option linter.unusedVariables false
def cN (x : List UInt8 × List UInt8) : List Value := [.string ⟨x.1.toArray⟩, .string ⟨x.2.toArray⟩]
def cA (x : List UInt8 × List UInt8 × List UInt8) : List Value := [.string ⟨x.1.toArray⟩, .string ⟨x.2.1.toArray⟩, .string ⟨x.2.2.toArray⟩]
set_option maxRecDepth 100000 in
set_option maxHeartbeats 4000000 in
theorem named1_c (sp lo : List UInt8) (w : World) (hW : Tabs w) (hF : Forms w) (hm : lo.length ≤ 50000) : Calls Tryd.prog 58 #[.agg #[.string ⟨sp.toArray⟩, .string ⟨lo.toArray⟩]] w fun e w' => e = .returned (.bool (!isPl lo)) ∧ Below w.heap.size w w' := by
  have J0 := Lib.hid (CJ.start 37 w #[.string ⟨sp.toArray⟩, .string ⟨lo.toArray⟩])
  have C1 : Hid (Calls Tryd.prog 59 #[.string ⟨lo.toArray⟩] (w.alloc (.cells #[.string ⟨sp.toArray⟩, .string ⟨lo.toArray⟩] 37)) fun e w' => e = .returned (.bool (isPl lo)) ∧ Below (w.alloc (.cells #[.string ⟨sp.toArray⟩, .string ⟨lo.toArray⟩] 37)).heap.size (w.alloc (.cells #[.string ⟨sp.toArray⟩, .string ⟨lo.toArray⟩] 37)) w') := Lib.hid (isPlain_c lo _ (hF.below J0.out.1 hF.lt) ((hW.below J0.out.1 (hW.low hF)).n) hm)
  have z1 := cell_of 1 J0.out.2
  clear hW hF hm
  generalize isPl lo = b at *
  go_enter Tryd.func58, Tryd.ntmps58
  go_wp2_with fail
  refine C1.out.mono ?_
  rintro e w1 ⟨rfl, hb⟩
  have HB := Lib.hid (J0.out.1.trans (hb.mono J0.out.1.size))
  clear hb
  go_wp2
  go_ret
  exact ⟨rfl, HB.out⟩
set_option maxRecDepth 100000 in
set_option maxHeartbeats 4000000 in
theorem short1_c (sp lo : List UInt8) (w : World) : Calls Tryd.prog 64 #[.agg #[.string ⟨sp.toArray⟩, .string ⟨lo.toArray⟩]] w fun e w' => e = .returned (.bool (!decide (lo.length ≤ 1024))) ∧ Below w.heap.size w w' := by
  have J0 := Lib.hid (CJ.start 37 w #[.string ⟨sp.toArray⟩, .string ⟨lo.toArray⟩])
  have z1 := cell_of 1 J0.out.2
  by_cases h : lo.length ≤ 1024
  · have hi : ¬ (1024 : Int) < (lo.length : Int) := by omega
    rw [decide_eq_true h]
    go_enter Tryd.func64, Tryd.ntmps64
    go_wp2
    go_ret
    exact ⟨rfl, J0.out.1⟩
  · have hi : (1024 : Int) < (lo.length : Int) := by omega
    rw [decide_eq_false h]
    go_enter Tryd.func64, Tryd.ntmps64
    go_wp2
    go_ret
    exact ⟨rfl, J0.out.1⟩
set_option maxRecDepth 100000 in
set_option maxHeartbeats 4000000 in
theorem parts_c (k : Int) (sp lo tx : List UInt8) (A : Option Addr) (n cap : Nat) (ats : List (List UInt8 × List UInt8 × List UInt8)) (w : World) (hn : ats.length = n) :
    Calls Tryd.prog 43 #[.agg #[.int .i64 k, .string ⟨sp.toArray⟩, .string ⟨lo.toArray⟩, .slice A n cap, .string ⟨tx.toArray⟩]] w fun e w' => e = .returned (.bool (partsB ⟨k, sp, lo, ats, tx⟩)) ∧ Below w.heap.size w w' := by
  have HN : Hid (ats.isEmpty = decide (n = 0)) := Lib.hid (by cases ats with | nil => simp at hn; simp [← hn] | cons a t => simp at hn; simp; omega)
  have J0 := Lib.hid (CJ.start 40 w #[.int .i64 k, .string ⟨sp.toArray⟩, .string ⟨lo.toArray⟩, .slice A n cap, .string ⟨tx.toArray⟩])
  have ka := (Below.refl (w.alloc (.cells #[.int .i64 k, .string ⟨sp.toArray⟩, .string ⟨lo.toArray⟩, .slice A n cap, .string ⟨tx.toArray⟩] 40)).heap.size (w.alloc (.cells #[.int .i64 k, .string ⟨sp.toArray⟩, .string ⟨lo.toArray⟩, .slice A n cap, .string ⟨tx.toArray⟩] 40))).alloc (Nat.le_refl _) (.cells #[.string ⟨#[]⟩, .string ⟨#[]⟩] 37)
  have J1 := Lib.hid (J0.out.kept ka)
  have z0 := cell_of 0 J1.out.2
  have z1 := cell_of 1 J1.out.2
  have z2 := cell_of 2 J1.out.2
  have z3 := cell_of 3 J1.out.2
  have z4 := cell_of 4 J1.out.2
  clear hn ka
  have hnn : ∀ b, decide (n = 0) = b → ((n : Int) == 0) = b := fun b hb => by rw [← hb]; by_cases h : n = 0 <;> simp [h]
  unfold partsB
  simp only
  rw [HN.out]
  generalize hdn : decide (n = 0) = dn at *
  have hni := hnn dn rfl
  clear hnn hdn HN
  by_cases h1 : k = 1
  · subst h1
    rw [if_pos rfl]
    rcases tx with _ | ⟨ctx, ttx⟩
    · have hitx : ([] : List UInt8).isEmpty = true := rfl
      go_enter Tryd.func43, Tryd.ntmps43
      go_wp2
      go_ret
      exact ⟨rfl, J1.out.1⟩
    · have hitx : (ctx :: ttx).isEmpty = false := rfl
      go_enter Tryd.func43, Tryd.ntmps43
      go_wp2
      go_ret
      exact ⟨rfl, J1.out.1⟩
  by_cases h2 : k = 2
  · subst h2
    rw [if_neg h1, if_pos rfl]
    clear h1
    rcases tx with _ | ⟨ctx, ttx⟩
    · have hitx : ([] : List UInt8).isEmpty = true := rfl
      cases dn
      all_goals
        go_enter Tryd.func43, Tryd.ntmps43
        go_wp2
        go_ret
        exact ⟨rfl, J1.out.1⟩
    · have hitx : (ctx :: ttx).isEmpty = false := rfl
      cases dn
      all_goals
        go_enter Tryd.func43, Tryd.ntmps43
        go_wp2
        go_ret
        exact ⟨rfl, J1.out.1⟩
  by_cases h4 : k = 4
  · subst h4
    rw [if_neg h1, if_neg h2, if_neg (by decide), if_pos rfl]
    clear h1 h2
    rcases sp with _ | ⟨csp, tsp⟩
    · have hisp : ([] : List UInt8).isEmpty = true := rfl
      cases dn
      all_goals
        go_enter Tryd.func43, Tryd.ntmps43
        go_wp2
        go_ret
        exact ⟨rfl, J1.out.1⟩
    · have hisp : (csp :: tsp).isEmpty = false := rfl
      cases dn
      all_goals
        go_enter Tryd.func43, Tryd.ntmps43
        go_wp2
        go_ret
        exact ⟨rfl, J1.out.1⟩
  by_cases h3 : k = 3
  · subst h3
    rw [if_neg h1, if_neg h2, if_pos (.inl rfl)]
    clear h1 h2 h4
    rcases sp with _ | ⟨csp, tsp⟩
    · have hisp : ([] : List UInt8).isEmpty = true := rfl
      rcases lo with _ | ⟨clo, tlo⟩
      · have hilo : ([] : List UInt8).isEmpty = true := rfl
        cases dn
        all_goals
          go_enter Tryd.func43, Tryd.ntmps43
          go_wp2
          go_ret
          exact ⟨rfl, J1.out.1⟩
      · have hilo : (clo :: tlo).isEmpty = false := rfl
        cases dn
        all_goals
          go_enter Tryd.func43, Tryd.ntmps43
          go_wp2
          go_ret
          exact ⟨rfl, J1.out.1⟩
    · have hisp : (csp :: tsp).isEmpty = false := rfl
      rcases lo with _ | ⟨clo, tlo⟩
      · have hilo : ([] : List UInt8).isEmpty = true := rfl
        cases dn
        all_goals
          go_enter Tryd.func43, Tryd.ntmps43
          go_wp2
          go_ret
          exact ⟨rfl, J1.out.1⟩
      · have hilo : (clo :: tlo).isEmpty = false := rfl
        cases dn
        all_goals
          go_enter Tryd.func43, Tryd.ntmps43
          go_wp2
          go_ret
          exact ⟨rfl, J1.out.1⟩
  by_cases h5 : k = 5
  · subst h5
    rw [if_neg h1, if_neg h2, if_pos (.inr rfl)]
    clear h1 h2 h4 h3
    rcases sp with _ | ⟨csp, tsp⟩
    · have hisp : ([] : List UInt8).isEmpty = true := rfl
      rcases lo with _ | ⟨clo, tlo⟩
      · have hilo : ([] : List UInt8).isEmpty = true := rfl
        cases dn
        all_goals
          go_enter Tryd.func43, Tryd.ntmps43
          go_wp2
          go_ret
          exact ⟨rfl, J1.out.1⟩
      · have hilo : (clo :: tlo).isEmpty = false := rfl
        cases dn
        all_goals
          go_enter Tryd.func43, Tryd.ntmps43
          go_wp2
          go_ret
          exact ⟨rfl, J1.out.1⟩
    · have hisp : (csp :: tsp).isEmpty = false := rfl
      rcases lo with _ | ⟨clo, tlo⟩
      · have hilo : ([] : List UInt8).isEmpty = true := rfl
        cases dn
        all_goals
          go_enter Tryd.func43, Tryd.ntmps43
          go_wp2
          go_ret
          exact ⟨rfl, J1.out.1⟩
      · have hilo : (clo :: tlo).isEmpty = false := rfl
        cases dn
        all_goals
          go_enter Tryd.func43, Tryd.ntmps43
          go_wp2
          go_ret
          exact ⟨rfl, J1.out.1⟩
  rw [if_neg h1, if_neg h2, if_neg (by omega), if_neg h4]
  have k1 : (k == 1) = false := by simpa using h1
  have k2 : (k == 2) = false := by simpa using h2
  have k3 : (k == 3) = false := by simpa using h3
  have k4 : (k == 4) = false := by simpa using h4
  have k5 : (k == 5) = false := by simpa using h5
  clear h1 h2 h3 h4 h5
  go_enter Tryd.func43, Tryd.ntmps43
  go_wp2
  go_ret
  exact ⟨rfl, J1.out.1⟩
end Go.Proofs.YtocbofeanfdggaaDoor
