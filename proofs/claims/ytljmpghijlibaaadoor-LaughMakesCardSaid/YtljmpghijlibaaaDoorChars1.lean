/- Runs of numbers. -/
import Derived.Test.YtljmpghijlibaaaDoorRows
import Derived.WalkKit
import Derived.ProofKit
import Derived.OpenShut
import Derived.ShutString
import Derived.ChangeOld
import Derived.Below
import Derived.BigQuiet
import Derived.Deep.QuietTactic
import Derived.Lib.Hide
import Derived.Deep.RegionHeld3
import Derived.Lib.SlBytesConst
import Derived.Laws.CopyOwn
import Derived.Laws.CopyRow
import Derived.Lib.Bytes
import Derived.Deep.LoopGhost
import Derived.Deep.DeepFit
import Derived.Deep.DeepMust
import Derived.WalkSpells
import Derived.WalkLawsBesides
import Derived.Test.YtljmpghijlibaaaDoorBase
import Derived.Test.YtljmpghijlibaaaDoorShelf
import Derived.Test.YtljmpghijlibaaaDoorCharPlain
import Derived.Test.YtljmpghijlibaaaDoorUtf1
import Derived.Test.YtljmpghijlibaaaDoorUtf2
namespace Go.Proofs.YtljmpghijlibaaaDoor
open Go.ChangeShapes Go.WideShapes Go.ChangeAt Go.RowKit
set_option linter.unusedVariables false
/-- A table of runs of numbers, as memory holds it. -/
def Tab (w : World) (g : Nat) (t : List (Nat × Nat)) : Prop := ∀ i (p : Nat × Nat), t[i]? = some p → w.cell? ⟨g, i * 2, none⟩ = some (.int .i64 p.1) ∧ w.cell? ⟨g, i * 2 + 1, none⟩ = some (.int .i64 p.2)
theorem Tab.lt {w : World} {g : Nat} {t : List (Nat × Nat)} (h : Tab w g t) (hn : 0 < t.length) : g < w.heap.size := World.block_lt_of_cell? w _ (h 0 _ (List.getElem?_eq_getElem hn)).1
theorem Tab.below {w w' : World} {B g : Nat} {t : List (Nat × Nat)} (h : Tab w g t) (hb : Below B w w') (hB : g < B) : Tab w' g t := fun i p hp => by rw [hb.cell hB, hb.cell hB]; exact h i p hp
def inTab (t : List (Nat × Nat)) (r : Int) : Bool := t.any fun p => decide ((p.1 : Int) ≤ r) && decide (r ≤ (p.2 : Int))
theorem in1_c (g n : Nat) (t : List (Nat × Nat)) (r : Int) (i : Nat) (lo hi : Nat) (a1 a2 : Addr) (w : World) (hi' : i < n) (hp : t[i]? = some (lo, hi)) (h1 : w.cell? a1 = some (.slice (some ⟨g, 0, none⟩) n n)) (h2 : w.cell? a2 = some (.int .i64 r)) (ht : Tab w g t) :
    Calls Tryd.prog 118 #[.int .i64 i, .pointer (some a1), .pointer (some a2)] w fun e w' => e = .returned (.bool (decide (r ≤ (hi : Int)))) ∧ ∃ q, w' = w.drewN q := by
  have hc := (ht i _ hp).2
  simp only at hc
  have hin : (i : Int) < (n : Int) := by omega
  clear ht hp hi'
  go_enter Tryd.func118, Tryd.ntmps118
  go_wp2
  go_quiet (fail)
  go_wp2
  go_ret
  exact ⟨rfl, _, rfl⟩
/-- Its runs rise. -/
def Rises (t : List (Nat × Nat)) : Prop := ∀ (i j : Nat) (p q : Nat × Nat), i ≤ j → t[i]? = some p → t[j]? = some q → p.1 ≤ q.1 ∧ p.2 ≤ q.2
theorem search_c (g n : Nat) (t : List (Nat × Nat)) (r : Int) (a1 a2 : Addr) (w : World) (hn : t.length = n) (hs : n < 1000) (hr : Rises t) (h1 : w.cell? a1 = some (.slice (some ⟨g, 0, none⟩) n n)) (h2 : w.cell? a2 = some (.int .i64 r)) (ht : Tab w g t) :
    Calls Tryd.prog 117 #[.int .i64 n, .func (.func 118) #[] #[.pointer (some a1), .pointer (some a2)]] w fun e w' => ∃ k : Nat, e = .returned (.int .i64 k) ∧ k ≤ n ∧ (∀ (i : Nat) (p : Nat × Nat), i < k → t[i]? = some p → (p.2 : Int) < r) ∧ (∀ (i : Nat) (p : Nat × Nat), k ≤ i → t[i]? = some p → r ≤ (p.2 : Int)) ∧ ∃ q, w' = w.drewN q := by
  have HF : Hid (∀ (m i : Nat), i < n → ∀ p : Nat × Nat, t[i]? = some p → Calls Tryd.prog 118 #[.int .i64 i, .pointer (some a1), .pointer (some a2)] (w.drewN m) fun e w' => e = .returned (.bool (decide (r ≤ (p.2 : Int)))) ∧ ∃ q, w' = (w.drewN m).drewN q) :=
    Lib.hid fun m i hi p hp => in1_c g n t r i p.1 p.2 a1 a2 (w.drewN m) hi hp h1 h2 ht
  have HR := Lib.hid hr
  clear hr h1 h2 ht
  go_enter Tryd.func117, Tryd.ntmps117
  go_wp2
  go_loopg [5, 6] n (fun kx s5 s6 wr => ∃ (lo hi q : Nat), s5 = .int .i64 lo ∧ s6 = .int .i64 hi ∧ lo ≤ hi ∧ hi ≤ n ∧ hi - lo ≤ kx ∧ wr = w.drewN q ∧
    Hid ((∀ (i : Nat) (p : Nat × Nat), i < lo → t[i]? = some p → (p.2 : Int) < r) ∧ (∀ (i : Nat) (p : Nat × Nat), hi ≤ i → t[i]? = some p → r ≤ (p.2 : Int))))
  case atStart => exact ⟨0, n, 0, rfl, rfl, Nat.zero_le _, Nat.le_refl _, by omega, rfl, Lib.hid ⟨fun i p hi => absurd hi (Nat.not_lt_zero _), fun i p hi hp => by rw [List.getElem?_eq_none (by omega)] at hp; cases hp⟩⟩
  case round =>
    obtain ⟨lo, hi, q, rfl, rfl, hlh, hin, hg, rfl, I⟩ := hrel
    by_cases hlt : lo < hi
    · have hml : (lo + hi) / 2 < t.length := by omega
      obtain ⟨p, hp⟩ : ∃ p : Nat × Nat, t[(lo + hi) / 2]? = some p := ⟨_, List.getElem?_eq_getElem hml⟩
      have hc := HF.out q ((lo + hi) / 2) (by omega) p hp
      have HP := Lib.hid hp
      clear hp
      rw [show (((lo + hi) / 2 : Nat) : Int) = ((lo : Int) + (hi : Int)) / 2 by omega] at hc
      by_cases hq : r ≤ (p.2 : Int)
      · rw [decide_eq_true hq] at hc
        go_wp2_with fail
        refine hc.mono ?_
        rintro e w' ⟨rfl, nq, rfl⟩
        go_wp2
        go_roundg ((lo + hi) / 2 - lo)
        case measure => omega
        case rel => exact ⟨lo, (lo + hi) / 2, q + nq, rfl, by rw [show ((lo : Int) + (hi : Int)) / 2 = (((lo + hi) / 2 : Nat) : Int) by omega], by omega, by omega, Nat.le_refl _, rfl, Lib.hid ⟨I.out.1, fun i p' hi' hp' => by have := (HR.out _ i p p' hi' HP.out hp').2; omega⟩⟩
      · rw [decide_eq_false hq] at hc
        go_wp2_with fail
        refine hc.mono ?_
        rintro e w' ⟨rfl, nq, rfl⟩
        go_wp2
        go_roundg (hi - ((lo + hi) / 2 + 1))
        case measure => omega
        case rel => exact ⟨(lo + hi) / 2 + 1, hi, q + nq, by rw [show ((lo : Int) + (hi : Int)) / 2 + 1 = (((lo + hi) / 2 + 1 : Nat) : Int) by omega], rfl, by omega, hin, Nat.le_refl _, rfl, Lib.hid ⟨fun i p' hi' hp' => by have := (HR.out i _ p' p (by omega) hp' HP.out).2; omega, I.out.2⟩⟩
    · obtain rfl : hi = lo := by omega
      go_wp2
      go_ret
      exact ⟨hi, rfl, hin, I.out.1, I.out.2, q, rfl⟩
theorem inTab_of (t : List (Nat × Nat)) (r : Int) (k : Nat) (hr : Rises t) (h1 : ∀ (i : Nat) (p : Nat × Nat), i < k → t[i]? = some p → (p.2 : Int) < r) (h2 : ∀ (i : Nat) (p : Nat × Nat), k ≤ i → t[i]? = some p → r ≤ (p.2 : Int)) :
    inTab t r = match t[k]? with | some p => decide ((p.1 : Int) ≤ r) | none => false := by
  cases hk : t[k]? with
  | none =>
    have hkl : t.length ≤ k := List.getElem?_eq_none_iff.1 hk
    simp only [inTab, List.any_eq_false, Bool.and_eq_true, decide_eq_true_eq, not_and]
    intro p hp hle
    obtain ⟨i, hi, rfl⟩ := List.getElem_of_mem hp
    have := h1 i _ (by omega) (List.getElem?_eq_getElem hi)
    omega
  | some p =>
    by_cases hle : (p.1 : Int) ≤ r
    · simp only [hle, decide_true, inTab, List.any_eq_true]
      exact ⟨p, List.mem_of_getElem? hk, by simp [hle, h2 k p (Nat.le_refl _) hk]⟩
    · simp only [hle, decide_false, inTab, List.any_eq_false, Bool.and_eq_true, decide_eq_true_eq, not_and]
      intro q hq hql
      obtain ⟨i, hi, rfl⟩ := List.getElem_of_mem hq
      rcases Nat.lt_or_ge i k with hik | hik
      · have := h1 i _ hik (List.getElem?_eq_getElem hi)
        omega
      · have := (hr k i p _ hik hk (List.getElem?_eq_getElem hi)).1
        omega
theorem in_c (g n : Nat) (t : List (Nat × Nat)) (r : Int) (w : World) (hn : t.length = n) (hs : n < 1000) (hr : Rises t) (ht : Tab w g t) (hg : g < w.heap.size) :
    Calls Tryd.prog 90 #[.slice (some ⟨g, 0, none⟩) n n, .int .i64 r] w fun e w' => e = .returned (.bool (inTab t r)) ∧ Below w.heap.size w w' := by
  go_enter Tryd.func90, Tryd.ntmps90
  have f1 : ((w.alloc (.cells #[.slice (some ⟨g, 0, none⟩) n n] 122)).alloc (.cells #[.int .i64 r] 3)).heap[w.heap.size]? = some (.cells #[.slice (some ⟨g, 0, none⟩) n n] 122) := hp_old (hp_new _ _)
  have f2 : ((w.alloc (.cells #[.slice (some ⟨g, 0, none⟩) n n] 122)).alloc (.cells #[.int .i64 r] 3)).heap[w.heap.size + 1]? = some (.cells #[.int .i64 r] 3) := by
    have := hp_new (w.alloc (.cells #[.slice (some ⟨g, 0, none⟩) n n] 122)) (.cells #[.int .i64 r] 3)
    rwa [World.size_alloc] at this
  have hb : Below w.heap.size w ((w.alloc (.cells #[.slice (some ⟨g, 0, none⟩) n n] 122)).alloc (.cells #[.int .i64 r] 3)) := Below.alloc (Below.alloc (Below.refl _ _) (Nat.le_refl _) _) (by simp) _
  have ht2 := Lib.hid (ht.below hb hg)
  have HB := Lib.hid hb
  have HR := Lib.hid hr
  clear ht hb hr
  go_wp2_with fail
  generalize hw2 : ((w.alloc (.cells #[.slice (some ⟨g, 0, none⟩) n n] 122)).alloc (.cells #[.int .i64 r] 3)) = w2 at *
  refine (search_c g n t r ⟨w.heap.size, 0, none⟩ ⟨w.heap.size + 1, 0, none⟩ w2 hn hs HR.out (by rw [cell_of _ f1]; rfl) (by rw [cell_of _ f2]; rfl) ht2.out).mono ?_
  rintro e w1 ⟨k, rfl, hk, h1, h2, q, rfl⟩
  have hin := inTab_of t r k HR.out h1 h2
  have HI := Lib.hid hin
  clear hin h1 h2 hw2
  have g1 : (w2.drewN q).cell? ⟨w.heap.size, 0, none⟩ = some (.slice (some ⟨g, 0, none⟩) n n) := by rw [cell_of (w := w2.drewN q) 0 f1]; rfl
  have g2 : (w2.drewN q).cell? ⟨w.heap.size + 1, 0, none⟩ = some (.int .i64 r) := by rw [cell_of (w := w2.drewN q) 0 f2]; rfl
  have HB3 := Lib.hid (below_drewN' (n := q) HB.out)
  have ht3 : Hid (Tab (w2.drewN q) g t) := Lib.hid fun i p hp => ht2.out i p hp
  clear f1 f2 ht2 HB
  generalize w2.drewN q = w3 at *
  by_cases hkn : k < n
  · have hkn' : (k : Int) < (n : Int) := by omega
    obtain ⟨p, hp⟩ : ∃ p : Nat × Nat, t[k]? = some p := ⟨_, List.getElem?_eq_getElem (by omega)⟩
    have hcell := (ht3.out k p hp).1
    have HI2 : Hid (inTab t r = decide ((p.1 : Int) ≤ r)) := by have := HI.out; rw [hp] at this; exact Lib.hid this
    clear HI hp hkn
    go_wp2
    go_quiet (fail)
    go_wp2
    go_ret
    exact ⟨by rw [HI2.out]; rfl, below_drewN' HB3.out⟩
  · have HI2 : Hid (inTab t r = false) := by have := HI.out; rw [List.getElem?_eq_none (by omega)] at this; exact Lib.hid this
    have hd : decide (k < n) = false := by simpa using hkn
    have hkn' : (n : Int) ≤ (k : Int) := by omega
    clear HI hkn
    go_wp2
    go_quiet (fail)
    go_wp2
    go_ret
    exact ⟨by rw [HI2.out]; rfl, below_drewN' HB3.out⟩
def tabDocs : List (Nat × Nat) := [(9, 10), (13, 13), (32, 55295), (57344, 65533), (65536, 1114111)]
def tabStarts : List (Nat × Nat) := [(58, 58), (65, 90), (95, 95), (97, 122), (192, 214), (216, 246), (248, 767), (880, 893), (895, 8191), (8204, 8205), (8304, 8591), (11264, 12271), (12289, 55295), (63744, 64975), (65008, 65533), (65536, 983039)]
def tabMore : List (Nat × Nat) := [(45, 46), (48, 57), (183, 183), (768, 879), (8255, 8256)]
def risesB : List (Nat × Nat) → Bool
  | p :: q :: t => decide (p.1 ≤ q.1) && decide (p.2 ≤ q.2) && risesB (q :: t)
  | _ => true
theorem rises_of : ∀ t, risesB t = true → Rises t := by
  intro t
  induction t with
  | nil => intro _ i j p q _ h; simp at h
  | cons x t ih =>
    intro h
    have ht : risesB t = true := by
      cases t with
      | nil => rfl
      | cons y t => simp only [risesB, Bool.and_eq_true] at h; exact h.2
    have hR := ih ht
    have hx : ∀ (j : Nat) (q : Nat × Nat), t[j]? = some q → x.1 ≤ q.1 ∧ x.2 ≤ q.2 := by
      cases t with
      | nil => intro j q hq; simp at hq
      | cons y t =>
        intro j q hq
        simp only [risesB, Bool.and_eq_true, decide_eq_true_eq] at h
        have := hR 0 j y q (Nat.zero_le _) rfl hq
        omega
    intro i j p q hij hp hq
    cases i with
    | zero =>
      cases Option.some.inj hp
      cases j with
      | zero => cases Option.some.inj hq; exact ⟨Nat.le_refl _, Nat.le_refl _⟩
      | succ j => exact hx j q (by simpa using hq)
    | succ i =>
      cases j with
      | zero => omega
      | succ j => exact hR i j p q (by omega) (by simpa using hp) (by simpa using hq)
/-- The tables of characters, as memory holds them. -/
structure Tabs (w : World) : Prop where
  docs : Tab w 0 tabDocs
def Low (B : Nat) : Prop := 0 < B ∧ 2 < B
theorem Tabs.low {w : World} (h : Tabs w) (hF : Forms w) : Low w.heap.size := ⟨h.docs.lt (by decide), hF.lt⟩
theorem Tabs.below {w w' : World} {B : Nat} (h : Tabs w) (hb : Below B w w') (hB : Low B) : Tabs w' := ⟨h.docs.below hb hB.1⟩
theorem Tabs.drewN {w : World} (h : Tabs w) (n : Nat) : Tabs (w.drewN n) := ⟨fun i p hp => h.docs i p hp⟩
def isDoc (r : Int) : Bool := inTab tabDocs r
def isStart (r : Int) : Bool := inTab tabStarts r
def isMore (r : Int) : Bool := isStart r || inTab tabMore r
theorem char_c (r : Int) (w : World) (h : Tabs w) : Calls Tryd.prog 62 #[.int .i64 r] w fun e w' => e = .returned (.bool (isDoc r)) ∧ Below w.heap.size w w' := by
  have hc := in_c _ 5 tabDocs r w rfl (by decide) (rises_of _ (by decide)) h.docs (h.docs.lt (by decide))
  have HH := Lib.hid h
  clear h
  go_enter Tryd.func62, Tryd.ntmps62
  go_wp2_with fail
  refine hc.mono ?_
  rintro e w1 ⟨rfl, hb⟩
  go_wp2
  go_ret
  exact ⟨rfl, hb⟩
end Go.Proofs.YtljmpghijlibaaaDoor
