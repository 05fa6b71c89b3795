/- Rows of the call's own, of elements of so many cells. -/
import Derived.Test.YtbllodeanfdebaaGreatDoorRows
import Derived.WalkKit
import Derived.ProofKit
import Derived.OpenShut
import Derived.ShutString
import Derived.ChangeOld
import Derived.Below
import Derived.BigQuiet
import Derived.Deep.QuietTactic
import Derived.Lib.Hide
import Derived.Deep.RegionHeld3
import Derived.Lib.SlBytesConst
import Derived.Laws.CopyOwn
import Derived.Laws.CopyRow
import Derived.Lib.Bytes
import Derived.Deep.LoopGhost
import Derived.Deep.DeepFit
import Derived.Deep.DeepMust
import Derived.WalkSpells
import Derived.WalkLawsBesides
import Derived.Laws.EntriesVeiled
import Derived.Laws.Rows
import Derived.Maps.OwnOps
import Derived.Maps.OwnSet
import Derived.Maps.Views
import Derived.Maps.AppendAt
import Derived.Deep.AppendLies
import Derived.Test.YtbllodeanfdebaaGreatDoorShelf
import Derived.Test.YtbllodeanfdebaaGreatDoorBase
import Derived.Test.YtbllodeanfdebaaGreatDoorCharPlain
import Derived.Test.YtbllodeanfdebaaGreatDoorStr
import Derived.Test.YtbllodeanfdebaaGreatDoorRowG
import Derived.Test.YtbllodeanfdebaaGreatDoorRowS
namespace Go.Proofs.YtbllodeanfdebaaGreatDoor
open Go.ChangeShapes Go.WideShapes Go.ChangeAt Go.RowKit
set_option linter.unusedVariables false
/-- A row of the call's own, whatever its elements are. -/
def OwnC {α : Type} (c : α → List Value) (k : Nat) (e : TypeId) (w : World) (base : Nat) (v : Value) (l : List α) : Prop := w.ownsRow base e k v l.length (l.flatMap c)
section
variable {α : Type} {c : α → List Value} {k : Nat} {e : TypeId} {w w' : World} {base : Nat} {v : Value} {l : List α}
theorem OwnC.start (c : α → List Value) (k : Nat) (e : TypeId) (w : World) (base : Nat) : OwnC c k e w base (.slice none 0 0) [] := ⟨by simp, .inl ⟨rfl, rfl⟩⟩
theorem OwnC.form (h : OwnC c k e w base v l) : ∃ A cp, v = .slice A l.length cp := by
  obtain ⟨hl, ⟨hv, h0⟩ | ⟨g, cap, cur, hv, r⟩⟩ := h
  · exact ⟨none, 0, by rw [hv, h0]⟩
  · exact ⟨_, cap, hv⟩
theorem OwnC.keep (h : OwnC c k e w base v l) (hk : ∀ g, base ≤ g → g < w.heap.size → w'.heap[g]? = w.heap[g]?) : OwnC c k e w' base v l := by
  obtain ⟨hl, h2 | ⟨g, cap, cur, hv, hg, hh, r⟩⟩ := h
  · exact ⟨hl, .inl h2⟩
  · exact ⟨hl, .inr ⟨g, cap, cur, hv, hg, (hk g hg (lt_of hh)).trans hh, r⟩⟩
theorem OwnC.kept (h : OwnC c k e w base v l) (hb : Below w.heap.size w w') : OwnC c k e w' base v l := h.keep fun g _ hg => hb.block g hg
theorem OwnC.ge (h : OwnC c k e w base v l) {b : Nat} (hb : v.ownBlock = some b) : b < w.heap.size ∧ base ≤ b := by
  obtain ⟨hl, ⟨hv, _⟩ | ⟨g, cap, cur, hv, hg, hh, r⟩⟩ := h
  · rw [hv] at hb; simp [Value.ownBlock] at hb
  · rw [hv] at hb
    simp [Value.ownBlock] at hb
    subst hb
    exact ⟨lt_of hh, hg⟩
theorem OwnC.snoc {x : α} {v' : Value} (h : w'.ownsRow base e k v' (l.length + 1) (l.flatMap c ++ c x)) : OwnC c k e w' base v' (l ++ [x]) := by
  unfold OwnC
  rw [List.length_append, List.flatMap_append, List.flatMap_cons, List.flatMap_nil, List.append_nil]
  exact h
theorem OwnC.rrd (hk : ∀ x, (c x).length = k) (h0 : 0 < k) (h : OwnC c k e w base v l) : ∃ A cp, v = .slice A l.length cp ∧ RRd c k w w.heap.size A l.length cp l := RRd.ofOwn hk h0 h
theorem ownsRow_type {w : World} {B : Nat} {e : TypeId} {c n : Nat} {v : Value} {xs : List Value} (h : w.ownsRow B e c v n xs) {k : Nat} {o : Obj} (hk : w.heap[k]? = some o) (hT : ∀ vs f, o ≠ .cells vs e f) : some k ≠ v.ownBlock := by
  obtain ⟨hl, ⟨hv, _⟩ | ⟨g, cap, cur, hv, hg, hh, r⟩⟩ := h
  · rw [hv]; simp [Value.ownBlock]
  · rw [hv]
    intro e'
    simp [Value.ownBlock] at e'
    subst e'
    rw [hh] at hk
    cases hk
    exact hT _ _ rfl
/-- A row stands where a row of another type grows. -/
theorem OwnC.grown (h : OwnC c k e w base v l) {v2 : Value} {B2 c2 n2 : Nat} {e2 : TypeId} {xs2 : List Value} (h2 : w.ownsRow B2 e2 c2 v2 n2 xs2) (hne : e ≠ e2) (hg : w.grownBy w' v2.ownBlock) : OwnC c k e w' base v l := by
  obtain ⟨hl, h3 | ⟨g, cap, cur, hv, hgb, hh, r⟩⟩ := h
  · exact ⟨hl, .inl h3⟩
  · refine ⟨hl, .inr ⟨g, cap, cur, hv, hgb, ?_, r⟩⟩
    rw [hg.block g (lt_of hh) (ownsRow_type h2 hh fun vs f e' => by injection e' with _ e3 _; exact hne e3)]
    exact hh
end
theorem infoC_int : ∃ i, Tryz.prog.info? 3 = some i ∧ i.zero = some (.int .i64 0) ∧ i.size = 1 ∧ i.bytes = 8 := by
  obtain ⟨i, h1, h2, h3, h4⟩ := info_parts (show (Tryz.prog.info? 3).map (fun i => (i.zero, i.size, i.bytes)) = some (some (.int .i64 0), 1, 8) by kernel_rfl)
  exact ⟨i, h1, h2, h3, h4⟩
theorem infoC_ints : ∃ i, Tryz.prog.info? 66 = some i ∧ i.zero = some (.slice none 0 0) ∧ i.size = 1 ∧ i.bytes = 24 := by
  obtain ⟨i, h1, h2, h3, h4⟩ := info_parts (show (Tryz.prog.info? 66).map (fun i => (i.zero, i.size, i.bytes)) = some (some (.slice none 0 0), 1, 24) by kernel_rfl)
  exact ⟨i, h1, h2, h3, h4⟩
end Go.Proofs.YtbllodeanfdebaaGreatDoor
