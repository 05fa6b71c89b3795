/- The contracts of the stack's functions, for every stack that lies in memory. -/
import Derived.Test.YtpblphddpcogcaaRows
import Derived.WalkKit
import Derived.ProofKit
import Derived.OpenShut
import Derived.ShutString
import Derived.ChangeOld
import Derived.Below
import Derived.BigQuiet
import Derived.Deep.QuietTactic
import Derived.Lib.Hide
import Derived.Deep.RegionHeld3
import Derived.Lib.SlBytesConst
import Derived.Laws.CopyOwn
import Derived.Laws.CopyRow
import Derived.Lib.Bytes
import Derived.Deep.LoopGhost
import Derived.Deep.DeepFit
import Derived.Deep.DeepMust
import Derived.WalkSpells
import Derived.WalkLawsBesides
import Derived.Test.YtpblphddpcogcaaShelf
import Derived.Test.YtpblphddpcogcaaBase
namespace Go.Proofs.Ytpblphddpcogcaa
open Go.ChangeShapes Go.WideShapes Go.ChangeAt Go.RowKit
set_option linter.unusedVariables false
/-- What lies on a stack, from its top on: cells of the program's own type, each in a block of its own from B on. -/
def Chain (w : World) (B : Nat) : Option Addr → List Int → Prop
  | t, [] => t = none
  | t, x :: l => ∃ c q, t = some ⟨c, 0, none⟩ ∧ B ≤ c ∧ w.heap[c]? = some (.cells #[.int .i64 x, .pointer q] 51) ∧ Chain w B q l
/-- A stack in block b, with its room, and what lies on it (the top first). -/
def Stk (w : World) (b : Nat) (room : Int) (l : List Int) : Prop :=
  (l.length : Int) ≤ room ∧ room ≤ 1099511627776 ∧ ∃ t, w.heap[b]? = some (.cells #[.int .i64 room, .int .i64 l.length, .pointer t] 49) ∧ Chain w (b + 1) t l
theorem Chain.keep {w w' : World} {B : Nat} (h : ∀ c, B ≤ c → c < w.heap.size → w'.heap[c]? = w.heap[c]?) : ∀ {l : List Int} {t : Option Addr}, Chain w B t l → Chain w' B t l
  | [], _, hc => hc
  | x :: l, t, ⟨c, q, ht, hB, hc, hl⟩ => ⟨c, q, ht, hB, by rw [h c hB (lt_of hc)]; exact hc, hl.keep h⟩
theorem Stk.keep {w w' : World} {b : Nat} {room : Int} {l : List Int} (h : ∀ c, b ≤ c → c < w.heap.size → w'.heap[c]? = w.heap[c]?) (s : Stk w b room l) : Stk w' b room l := by
  obtain ⟨h0, h1, t, hb, hc⟩ := s
  exact ⟨h0, h1, t, by rw [h b (Nat.le_refl _) (lt_of hb)]; exact hb, hc.keep fun c hB => h c (by omega)⟩
theorem Stk.drewN {w : World} {b : Nat} {room : Int} {l : List Int} {n : Nat} (s : Stk w b room l) : Stk (w.drewN n) b room l := Stk.keep (w := w) (w' := w.drewN n) (fun _ _ _ => rfl) s
theorem Stk.lt {w : World} {b : Nat} {room : Int} {l : List Int} (s : Stk w b room l) : b < w.heap.size := by
  obtain ⟨_, _, t, hb, _⟩ := s; exact lt_of hb
theorem Stk.below {w w' : World} {b B : Nat} {room : Int} {l : List Int} (s : Stk w b room l) (h : Below B w w') (hB : w.heap.size ≤ B) : Stk w' b room l :=
  s.keep fun c _ hc => h.block c (by omega)

theorem new_ok (room : Int) (w : World) (h0 : 0 ≤ room) (h1 : room ≤ 1099511627776) :
    Calls Try.prog 5 #[.int .i64 room] w fun e w' => e = .returned (.tuple #[.pointer (some ⟨w.heap.size, 0, none⟩), .int .i64 0]) ∧ Stk w' w.heap.size room [] ∧ Below w.heap.size w w' ∧ w.heap.size < w'.heap.size := by
  go_enter Try.func5, Try.ntmps5
  go_wp2
  refine bodyPost_ret (results_tmp2 rfl _ _ _) rfl ⟨rfl, ⟨by simpa using h0, h1, none, hp_new _ _, rfl⟩, (Below.refl _ _).alloc (Nat.le_refl _) _, by simp⟩

theorem new_no (room : Int) (w : World) (h : room < 0 ∨ 1099511627776 < room) :
    Calls Try.prog 5 #[.int .i64 room] w fun e w' => e = .returned (.tuple #[.pointer none, .int .i64 2]) ∧ w = w' := by
  by_cases h0 : room < 0
  · have hd : decide (room < 0) = true := by simpa using h0
    go_enter Try.func5, Try.ntmps5
    go_wp2
    exact bodyPost_ret (results_tmp2 rfl _ _ _) rfl ⟨rfl, rfl⟩
  · have h1 : 1099511627776 < room := by omega
    go_enter Try.func5, Try.ntmps5
    go_wp2
    exact bodyPost_ret (results_tmp2 rfl _ _ _) rfl ⟨rfl, rfl⟩

theorem push_full (room x : Int) (l : List Int) (b : Nat) (w : World) (s : Stk w b room l) (h : room ≤ l.length) :
    Calls Try.prog 9 #[.pointer (some ⟨b, 0, none⟩), .int .i64 x] w fun e w' => e = .returned (.int .i64 11) ∧ ∃ n, w' = w.drewN n := by
  obtain ⟨h0, h1, t, hb, _⟩ := s
  have c0 := cell_of 0 hb
  have c1 := cell_of 1 hb
  simp only [List.getElem?_toArray, List.getElem?_cons_zero, List.getElem?_cons_succ] at c0 c1
  clear hb
  go_enter Try.func9, Try.ntmps9
  go_wp2
  go_quiet (fail)
  go_wp2
  go_ret
  exact ⟨rfl, _, rfl⟩

theorem push_ok (room x : Int) (l : List Int) (b : Nat) (w : World) (s : Stk w b room l) (h : (l.length : Int) < room) :
    Calls Try.prog 9 #[.pointer (some ⟨b, 0, none⟩), .int .i64 x] w fun e w' => e = .returned (.int .i64 0) ∧ Stk w' b room (x :: l) ∧ w.grownBy w' (some b) := by
  obtain ⟨h0, h1, top, hb, hch⟩ := s
  have c0 := cell_of 0 hb
  have c1 := cell_of 1 hb
  simp only [List.getElem?_toArray, List.getElem?_cons_zero, List.getElem?_cons_succ] at c0 c1
  have HB := Lib.hid hb
  clear hb
  go_enter Try.func9, Try.ntmps9
  go_wp2
  go_quiet (fail)
  clear c0 c1
  have hbq : (w.drewN nq).heap[b]? = _ := HB.out
  have hcq : Chain (w.drewN nq) (b+1) top l := Chain.keep (w := w) (w' := w.drewN nq) (fun _ _ _ => rfl) hch
  have hbl : w.grownBy (w.drewN nq) (some b) := (gr_refl _ _).drewN
  have hcc := Lib.hid hcq
  clear hcq hch HB
  generalize w.drewN nq = wq at *
  have c1 := cell_of 1 hbq
  have c2 := cell_of 2 hbq
  simp only [List.getElem?_toArray, List.getElem?_cons_zero, List.getElem?_cons_succ] at c1 c2
  have f1 := free_of 1 hbq
  have f2 := free_of 2 hbq
  have hl := lt_of hbq
  have HB := Lib.hid hbq
  clear hbq
  go_wp2
  refine bodyPost_ret (results_tmp rfl _ _ _) rfl ⟨rfl, ⟨by simp; omega, h1, some ⟨wq.heap.size, 0, none⟩, ?_, wq.heap.size, top, rfl, hl, ?_, ?_⟩, ?_⟩
  · refine hp_old ?_
    have := hp_set (i := 1) (v := .int .i64 ((l.length : Int) + 1)) (hp_set (i := 2) (v := .pointer (some ⟨wq.heap.size, 0, none⟩)) HB.out)
    simpa using this
  · have := hp_new ((wq.setCell { block := b, off := 2 } (Value.pointer (some { block := wq.heap.size, off := 0 }))).setCell { block := b, off := 1 } (Value.int IntKind.i64 (↑l.length + 1))) (Obj.cells #[Value.int IntKind.i64 x, Value.pointer top] 51)
    simpa using this
  · refine hcc.out.keep fun c hB hc => ?_
    rw [Below.heap_alloc _ _ _ (by simpa using hc), hp_other (by omega), hp_other (by omega)]
  · exact ((hbl.setCell _ _).setCell _ _).alloc _

theorem len_of (room : Int) (l : List Int) (b : Nat) (w : World) (s : Stk w b room l) :
    Calls Try.prog 18 #[.pointer (some ⟨b, 0, none⟩)] w fun e w' => e = .returned (.int .i64 l.length) ∧ w = w' := by
  obtain ⟨h0, h1, t, hb, _⟩ := s
  have c1 := cell_of 1 hb
  simp only [List.getElem?_toArray, List.getElem?_cons_zero, List.getElem?_cons_succ] at c1
  clear hb
  go_enter Try.func18, Try.ntmps18
  go_wp2
  go_ret
  exact ⟨rfl, rfl⟩

theorem room_of (room : Int) (l : List Int) (b : Nat) (w : World) (s : Stk w b room l) :
    Calls Try.prog 7 #[.pointer (some ⟨b, 0, none⟩)] w fun e w' => e = .returned (.int .i64 room) ∧ w = w' := by
  obtain ⟨h0, h1, t, hb, _⟩ := s
  have c0 := cell_of 0 hb
  simp only [List.getElem?_toArray, List.getElem?_cons_zero] at c0
  clear hb
  go_enter Try.func7, Try.ntmps7
  go_wp2
  go_ret
  exact ⟨rfl, rfl⟩

theorem top_none (room : Int) (b : Nat) (w : World) (s : Stk w b room []) :
    Calls Try.prog 14 #[.pointer (some ⟨b, 0, none⟩)] w fun e w' => e = .returned (.tuple #[.int .i64 0, .bool false]) ∧ w = w' := by
  obtain ⟨h0, h1, t, hb, rfl⟩ := s
  have c2 := cell_of 2 hb
  simp only [List.getElem?_toArray, List.getElem?_cons_zero, List.getElem?_cons_succ] at c2
  clear hb
  go_enter Try.func14, Try.ntmps14
  go_wp2
  go_ret2
  exact ⟨rfl, rfl⟩

theorem top_some (room x : Int) (l : List Int) (b : Nat) (w : World) (s : Stk w b room (x :: l)) :
    Calls Try.prog 14 #[.pointer (some ⟨b, 0, none⟩)] w fun e w' => e = .returned (.tuple #[.int .i64 x, .bool true]) ∧ w = w' := by
  obtain ⟨h0, h1, t, hb, c, q, rfl, hB, hc, _⟩ := s
  have c2 := cell_of 2 hb
  have d0 := cell_of 0 hc
  simp only [List.getElem?_toArray, List.getElem?_cons_zero, List.getElem?_cons_succ] at c2 d0
  clear hb hc
  go_enter Try.func14, Try.ntmps14
  go_wp2
  go_ret2
  exact ⟨rfl, rfl⟩

theorem pop_none (room : Int) (b : Nat) (w : World) (s : Stk w b room []) :
    Calls Try.prog 11 #[.pointer (some ⟨b, 0, none⟩)] w fun e w' => e = .returned (.tuple #[.int .i64 0, .bool false]) ∧ w = w' := by
  go_enter Try.func11, Try.ntmps11
  go_wp2_with (go_at_call 14; refine (top_none room b w s).mono ?_; rintro e w' ⟨rfl, rfl⟩)
  go_ret2
  exact ⟨rfl, rfl⟩

theorem pop_some (room x : Int) (l : List Int) (b : Nat) (w : World) (s : Stk w b room (x :: l)) :
    Calls Try.prog 11 #[.pointer (some ⟨b, 0, none⟩)] w fun e w' => e = .returned (.tuple #[.int .i64 x, .bool true]) ∧ Stk w' b room l ∧ w.grownBy w' (some b) := by
  have hs := s
  obtain ⟨h0, h1, t, hb, c, q, rfl, hB, hc, hch⟩ := s
  have e1 : ((x :: l).length : Int) = (l.length : Int) + 1 := by simp
  rw [e1] at hb h0
  clear e1
  have c1 := cell_of 1 hb
  have c2 := cell_of 2 hb
  have d1 := cell_of 1 hc
  simp only [List.getElem?_toArray, List.getElem?_cons_zero, List.getElem?_cons_succ] at c1 c2 d1
  have f1 := free_of 1 hb
  have f2 := free_of 2 hb
  have HB := Lib.hid hb
  have HC := Lib.hid hch
  clear hb hc hch
  have hlen : (0 : Int) ≤ (l.length : Int) := by omega
  go_enter Try.func11, Try.ntmps11
  go_wp2_with (go_at_call 14; refine (top_some room x l b w hs).mono ?_; rintro e w' ⟨rfl, rfl⟩)
  refine bodyPost_ret (results_tmp2 rfl _ _ _) rfl ⟨rfl, ⟨by omega, h1, q, ?_, ?_⟩, ?_⟩
  · have := hp_set (i := 1) (v := .int .i64 (l.length : Int)) (hp_set (i := 2) (v := .pointer q) HB.out)
    simpa using this
  · refine HC.out.keep fun c hB hc => ?_
    rw [hp_other (by omega), hp_other (by omega)]
  · exact ((gr_refl w (some b)).setCell 2 _).setCell 1 _

theorem top_nil (w : World) : Calls Try.prog 14 #[.pointer none] w fun e w' => e = .returned (.tuple #[.int .i64 0, .bool false]) ∧ w = w' := by
  go_enter Try.func14, Try.ntmps14
  go_wp2
  go_ret2
  exact ⟨rfl, rfl⟩

theorem pop_nil (w : World) : Calls Try.prog 11 #[.pointer none] w fun e w' => e = .returned (.tuple #[.int .i64 0, .bool false]) ∧ w = w' := by
  go_enter Try.func11, Try.ntmps11
  go_wp2_with (go_at_call 14; refine (top_nil w).mono ?_; rintro e w' ⟨rfl, rfl⟩)
  go_ret2
  exact ⟨rfl, rfl⟩

/-- The highest place of a number that is so. -/
def fnd (p : Int → Bool) : List Int → Int × Bool
  | [] => (0, false)
  | x :: l => if p x then (l.length, true) else fnd p l

theorem cut_ok (room n : Int) (l : List Int) (b : Nat) (w : World) (s : Stk w b room l) :
    Calls Try.prog 13 #[.pointer (some ⟨b, 0, none⟩), .int .i64 n] w fun e w' => e = .returned (.tuple #[]) ∧ Stk w' b room (l.drop (l.length - n.toNat)) ∧ w.grownBy w' (some b) := by
  go_enter Try.func13, Try.ntmps13
  go_wp2
  go_loopg [8] (l.length) (fun k _ wr => ∃ l', k = l'.length ∧ Stk wr b room l' ∧ w.grownBy wr (some b) ∧ l'.drop (l'.length - n.toNat) = l.drop (l.length - n.toNat))
  case atStart => exact ⟨l, rfl, s, gr_refl _ _, rfl⟩
  case round =>
    obtain ⟨l', rfl, s', hb, hd⟩ := hrel
    have HD := Lib.hid hd
    clear hd s
    by_cases hlt : n.toNat < l'.length
    · cases l' with
      | nil => simp at hlt
      | cons x l' =>
        have hx : x :: l' = [x] ++ l' := rfl
        have hx2 : (x :: l').length = l'.length + 1 := rfl
        have HD2 : Hid (l'.drop (l'.length - n.toNat) = l.drop (l.length - n.toNat)) := by
          show _ = _
          rw [← HD.out, hx2, show l'.length + 1 - n.toNat = (l'.length - n.toNat) + 1 by omega, List.drop_succ_cons]
        clear hx hx2 HD
        rcases Int.lt_or_le n 0 with hn | hn
        all_goals
          have hm : n < (l'.length : Int) + 1 := by simp at hlt; omega
          go_wp2_with (first | (go_at_call 18; refine (len_of room _ b _ s').mono ?_; rintro e w' ⟨rfl, rfl⟩) | (go_at_call 11; refine (pop_some room _ _ b _ s').mono ?_; rintro e w' ⟨rfl, s2, hb2⟩))
          go_roundg (l'.length)
          case measure => exact Nat.lt_succ_self _
          case rel => exact ⟨l', rfl, s2, hb.trans' hb2, HD2.out⟩
    · have h0 : l'.length - n.toNat = 0 := by omega
      have hz : n.toNat = 0 ∨ 0 < n.toNat := by omega
      have HE : Hid (l' = l.drop (l.length - n.toNat)) := by
        show _ = _
        rw [← HD.out, h0, List.drop_zero]
      clear HD h0
      rcases Int.lt_or_le n 0 with hn | hn
      all_goals
        have hm : ¬ n < (l'.length : Int) ∨ n < 0 := by omega
        have hm2 : (l'.length : Int) ≤ n ∨ (l'.length : Int) ≤ 0 := by omega
        go_wp2_with (first | (go_at_call 18; refine (len_of room _ b _ s').mono ?_; rintro e w' ⟨rfl, rfl⟩) | (go_at_call 11; refine (pop_some room _ _ b _ s').mono ?_; rintro e w' ⟨rfl, s2, hb2⟩))
        go_end0
        exact ⟨rfl, HE.out ▸ s', hb⟩
end Go.Proofs.Ytpblphddpcogcaa
