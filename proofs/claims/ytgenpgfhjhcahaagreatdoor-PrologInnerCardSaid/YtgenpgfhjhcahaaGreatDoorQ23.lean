/- Texts of ours, joined: SkA, SbA. -/
import Derived.Test.YtgenpgfhjhcahaaGreatDoorRows
import Derived.WalkKit
import Derived.ProofKit
import Derived.OpenShut
import Derived.ShutString
import Derived.ChangeOld
import Derived.Below
import Derived.BigQuiet
import Derived.Deep.QuietTactic
import Derived.Lib.Hide
import Derived.Deep.RegionHeld3
import Derived.Lib.SlBytesConst
import Derived.Laws.CopyOwn
import Derived.Laws.CopyRow
import Derived.Lib.Bytes
import Derived.Deep.LoopGhost
import Derived.Deep.DeepFit
import Derived.Deep.DeepMust
import Derived.WalkSpells
import Derived.WalkLawsBesides
import Derived.Laws.EntriesVeiled
import Derived.Laws.Rows
import Derived.Test.YtgenpgfhjhcahaaGreatDoorQ1
/- The stack of texts of declarations. -/
namespace Go.Proofs.YtgenpgfhjhcahaaGreatDoor
open Go.ChangeShapes Go.WideShapes Go.ChangeAt Go.RowKit
set_option linter.unusedVariables false
/-- What lies on a stack of texts, from its top on: the texts' blocks. -/
def TCh (w : World) : Option Addr → List Nat → Prop
  | t, [] => t = none
  | t, x :: l => ∃ c q, t = some ⟨c, 0, none⟩ ∧ w.heap[c]? = some (.cells #[.pointer (some ⟨x, 0, none⟩), .pointer q] 172) ∧ TCh w q l
/-- A stack of texts in block b, with its room, and what lies on it (the top first). -/
def TSk (w : World) (b : Nat) (room : Int) (l : List Nat) : Prop :=
  (l.length : Int) ≤ room ∧ room ≤ 1099511627776 ∧ ∃ t, w.heap[b]? = some (.cells #[.int .i64 room, .int .i64 l.length, .pointer t] 170) ∧ TCh w t l
theorem TCh.keep {w w' : World} (h : ∀ (c : Nat) vs f, w.heap[c]? = some (.cells vs 172 f) → w'.heap[c]? = some (.cells vs 172 f)) : ∀ {l : List Nat} {t : Option Addr}, TCh w t l → TCh w' t l
  | [], _, hc => hc
  | x :: l, t, ⟨c, q, ht, hc, hl⟩ => ⟨c, q, ht, h c _ _ hc, hl.keep h⟩
theorem TSk.keep {w w' : World} {b : Nat} {room : Int} {l : List Nat} (h : ∀ (c : Nat) vs f, w.heap[c]? = some (.cells vs 172 f) → w'.heap[c]? = some (.cells vs 172 f)) (hb : ∀ o, w.heap[b]? = some o → w'.heap[b]? = some o) (s : TSk w b room l) : TSk w' b room l := by
  obtain ⟨h0, h1, t, h2, hc⟩ := s
  exact ⟨h0, h1, t, hb _ h2, hc.keep h⟩
theorem TSk.drewN {w : World} {b : Nat} {room : Int} {l : List Nat} {n : Nat} (s : TSk w b room l) : TSk (w.drewN n) b room l := TSk.keep (w := w) (w' := w.drewN n) (fun _ _ _ h => h) (fun _ h => h) s
theorem TSk.lt {w : World} {b : Nat} {room : Int} {l : List Nat} (s : TSk w b room l) : b < w.heap.size := by
  obtain ⟨_, _, t, hb, _⟩ := s; exact lt_of hb

theorem tnew_ok (room : Int) (w : World) (h0 : 0 ≤ room) (h1 : room ≤ 1099511627776) :
    Calls Tryz.prog 50 #[.int .i64 room] w fun e w' => e = .returned (.tuple #[.pointer (some ⟨w.heap.size, 0, none⟩), .int .i64 0]) ∧ TSk w' w.heap.size room [] ∧ Below w.heap.size w w' ∧ w.heap.size < w'.heap.size := by
  go_enter Tryz.func50, Tryz.ntmps50
  go_wp2
  refine bodyPost_ret (results_tmp2 rfl _ _ _) rfl ⟨rfl, ⟨by simpa using h0, h1, none, hp_new _ _, rfl⟩, (Below.refl _ _).alloc (Nat.le_refl _) _, by simp⟩

theorem tpush_ok (room : Int) (x : Nat) (l : List Nat) (b : Nat) (w : World) (s : TSk w b room l) (h : (l.length : Int) < room) :
    Calls Tryz.prog 51 #[.pointer (some ⟨b, 0, none⟩), .pointer (some ⟨x, 0, none⟩)] w fun e w' => e = .returned (.int .i64 0) ∧ TSk w' b room (x :: l) ∧ w.grownBy w' (some b) := by
  obtain ⟨h0, h1, top, hb, hch⟩ := s
  have c0 := cell_of 0 hb
  have c1 := cell_of 1 hb
  simp only [List.getElem?_toArray, List.getElem?_cons_zero, List.getElem?_cons_succ] at c0 c1
  have HB := Lib.hid hb
  clear hb
  go_enter Tryz.func51, Tryz.ntmps51
  go_wp2
  go_quiet (fail)
  clear c0 c1
  have hbq : (w.drewN nq).heap[b]? = _ := HB.out
  have hcq : TCh (w.drewN nq) top l := TCh.keep (w := w) (w' := w.drewN nq) (fun _ _ _ h => h) hch
  have hbl : w.grownBy (w.drewN nq) (some b) := (gr_refl _ _).drewN
  have hcc := Lib.hid hcq
  clear hcq hch HB
  generalize w.drewN nq = wq at *
  have c1 := cell_of 1 hbq
  have c2 := cell_of 2 hbq
  simp only [List.getElem?_toArray, List.getElem?_cons_zero, List.getElem?_cons_succ] at c1 c2
  have f1 := free_of 1 hbq
  have f2 := free_of 2 hbq
  have hl := lt_of hbq
  have HB := Lib.hid hbq
  clear hbq
  go_wp2
  refine bodyPost_ret (results_tmp rfl _ _ _) rfl ⟨rfl, ⟨by simp; omega, h1, some ⟨wq.heap.size, 0, none⟩, ?_, wq.heap.size, top, rfl, ?_, ?_⟩, ?_⟩
  · refine hp_old ?_
    have := hp_set (i := 1) (v := .int .i64 ((l.length : Int) + 1)) (hp_set (i := 2) (v := .pointer (some ⟨wq.heap.size, 0, none⟩)) HB.out)
    simpa using this
  · have := hp_new ((wq.setCell { block := b, off := 2 } (Value.pointer (some { block := wq.heap.size, off := 0 }))).setCell { block := b, off := 1 } (Value.int IntKind.i64 (↑l.length + 1))) (Obj.cells #[Value.pointer (some ⟨x, 0, none⟩), Value.pointer top] 172)
    simpa using this
  · refine hcc.out.keep fun c vs f hc => ?_
    have hcb : c ≠ b := fun e => by
      subst e
      have h9 := HB.out.symm.trans hc
      injection h9 with h9
      injection h9 with _ e2 _
      exact absurd e2 (by decide)
    have hcl := lt_of hc
    rw [Below.heap_alloc _ _ _ (by simpa using hcl), hp_other hcb, hp_other hcb]
    exact hc
  · exact ((hbl.setCell _ _).setCell _ _).alloc _

theorem tlen_of (room : Int) (l : List Nat) (b : Nat) (w : World) (s : TSk w b room l) :
    Calls Tryz.prog 112 #[.pointer (some ⟨b, 0, none⟩)] w fun e w' => e = .returned (.int .i64 l.length) ∧ w = w' := by
  obtain ⟨h0, h1, t, hb, _⟩ := s
  have c1 := cell_of 1 hb
  simp only [List.getElem?_toArray, List.getElem?_cons_zero, List.getElem?_cons_succ] at c1
  clear hb
  go_enter Tryz.func112, Tryz.ntmps112
  go_wp2
  go_ret
  exact ⟨rfl, rfl⟩

theorem ttop_some (room : Int) (x : Nat) (l : List Nat) (b : Nat) (w : World) (s : TSk w b room (x :: l)) :
    Calls Tryz.prog 72 #[.pointer (some ⟨b, 0, none⟩)] w fun e w' => e = .returned (.tuple #[.pointer (some ⟨x, 0, none⟩), .bool true]) ∧ w = w' := by
  obtain ⟨h0, h1, t, hb, c, q, rfl, hc, _⟩ := s
  have c2 := cell_of 2 hb
  have d0 := cell_of 0 hc
  simp only [List.getElem?_toArray, List.getElem?_cons_zero, List.getElem?_cons_succ] at c2 d0
  clear hb hc
  go_enter Tryz.func72, Tryz.ntmps72
  go_wp2
  go_ret2
  exact ⟨rfl, rfl⟩

end Go.Proofs.YtgenpgfhjhcahaaGreatDoor
/- subset.end. -/
namespace Go.Proofs.YtgenpgfhjhcahaaGreatDoor
open Go.ChangeShapes Go.WideShapes Go.ChangeAt Go.RowKit
set_option linter.unusedVariables false
set_option maxRecDepth 100000 in
set_option maxHeartbeats 4000000 in
theorem sbEnd_c (R X S : Nat) (room : Int) (A : Option Addr) (n cap at_ : Nat) (tv gv mv av : Value) (w : World) (hR : w.heap[R]? = some (.cells #[tv, gv, mv, .pointer (some ⟨S, 0, none⟩)] 131)) (hX : w.heap[X]? = some (.cells #[.string ⟨#[]⟩, .slice A n cap, av] 134)) (hS : TSk w S room [X]) (hat : at_ < n) (hm : n ≤ 1000000) :
    Calls Tryz.prog 74 #[.pointer (some ⟨R, 0, none⟩), .pointer (some ⟨X, 0, none⟩), .int .i64 at_] w fun e w' => e = .returned (.tuple #[.int .i64 ((at_ : Int) + 1), .bool true, .int .i64 0]) ∧ w = w' := by
  have CL : Hid (Calls Tryz.prog 112 #[.pointer (some ⟨S, 0, none⟩)] w fun e w' => e = .returned (.int .i64 1) ∧ w = w') := Lib.hid (tlen_of room [X] S w hS)
  have q3 : w.cell? ⟨R, 3, none⟩ = some (.pointer (some ⟨S, 0, none⟩)) := by rw [cell_of 3 hR]; rfl
  have x1 : w.cell? ⟨X, 1, none⟩ = some (.slice A n cap) := by rw [cell_of 1 hX]; rfl
  have h0 : (0 : Int) ≤ (at_ : Int) := by omega
  have h1 : (at_ : Int) ≤ 1000000 := by omega
  have h2 : (at_ : Int) < (n : Int) := by omega
  have h3 : ((at_ : Int) == (n : Int)) = false := by simp; omega
  clear hR hX hS hat
  go_enter Tryz.func74, Tryz.ntmps74
  go_wp2_with fail
  refine CL.out.mono ?_
  rintro e w1 ⟨rfl, rfl⟩
  go_wp2
  go_ret3
  exact ⟨rfl, rfl⟩
end Go.Proofs.YtgenpgfhjhcahaaGreatDoor
