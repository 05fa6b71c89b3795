/- Texts of ours, joined: Utf3, Chars1, Ref1, Ref2, Ref6, Name1, Name2. -/
import Derived.Test.YtgenpgfhjhcahaaGreatDoorRows
import Derived.WalkKit
import Derived.ProofKit
import Derived.OpenShut
import Derived.ShutString
import Derived.ChangeOld
import Derived.Below
import Derived.BigQuiet
import Derived.Deep.QuietTactic
import Derived.Lib.Hide
import Derived.Deep.RegionHeld3
import Derived.Lib.SlBytesConst
import Derived.Laws.CopyOwn
import Derived.Laws.CopyRow
import Derived.Lib.Bytes
import Derived.Deep.LoopGhost
import Derived.Deep.DeepFit
import Derived.Deep.DeepMust
import Derived.WalkSpells
import Derived.WalkLawsBesides
import Derived.Test.YtgenpgfhjhcahaaGreatDoorQ1
import Derived.Test.YtgenpgfhjhcahaaGreatDoorQ2
import Derived.Test.YtgenpgfhjhcahaaGreatDoorQ3
import Derived.Laws.EntriesVeiled
import Derived.Laws.Rows
/- utf.Decode whole. -/
namespace Go.Proofs.YtgenpgfhjhcahaaGreatDoor
open Go.ChangeShapes Go.WideShapes Go.ChangeAt Go.RowKit
set_option linter.unusedVariables false
theorem decode_short (A : Option Addr) (n cap : Nat) (l : List UInt8) (k : Nat) (w : World) (B : Nat) (h : Byt w B A n cap l) (hF : Forms w) (hk : k < n) (hm : n ≤ 1100000) (c : UInt8) (hc : l[k]? = some c) (hl : lenB c.toNat = 0 ∨ n < k + lenB c.toNat) :
    Calls Tryz.prog 199 #[.slice A n cap, .int .i64 k] w fun e w' => e = .returned (decOut k none) ∧ ∃ q, w' = w.drewN q := by
  obtain ⟨b, o, c', rfl, hb, hc', hcell⟩ := h.cell hk
  obtain rfl : c' = c := by rw [hc] at hc'; exact (Option.some.inj hc').symm
  have hkn : (k : Int) < (n : Int) := by omega
  have hl4 := lenB_le c'.toNat
  clear hc hc' hF
  by_cases h0 : lenB c'.toNat = 0
  · have hL := Lib.hid h0
    clear hl h0 hl4
    go_enter Tryz.func199, Tryz.ntmps199
    go_wp2_with fail
    refine (length_c c' w).mono ?_
    rintro e w1 ⟨rfl, rfl⟩
    rw [hL.out]
    go_wp2
    go_ret3
    exact ⟨rfl, 0, rfl⟩
  · have hlt : n < k + lenB c'.toNat := by omega
    have hh : (n : Int) - (k : Int) < (lenB c'.toNat : Int) := by omega
    have h0' : ¬ ((lenB c'.toNat : Nat) : Int) = 0 := by omega
    have hz : (((lenB c'.toNat : Nat) : Int) == 0) = false := by simpa using h0'
    clear hl hlt
    go_enter Tryz.func199, Tryz.ntmps199
    go_wp2_with fail
    refine (length_c c' w).mono ?_
    rintro e w1 ⟨rfl, rfl⟩
    generalize lenB c'.toNat = L at *
    go_wp2
    go_ret3
    exact ⟨rfl, 0, rfl⟩
theorem dec_none (l : List UInt8) (k : Nat) (c : UInt8) (hc : l[k]? = some c) (hl : lenB c.toNat = 0 ∨ l.length < k + lenB c.toNat) : dec (l.drop k) = none := by
  have hk : k < l.length := by
    rcases Nat.lt_or_ge k l.length with h | h
    · exact h
    · rw [List.getElem?_eq_none h] at hc; cases hc
  rw [List.getElem?_eq_getElem hk] at hc
  rw [List.drop_eq_getElem_cons hk, Option.some.inj hc]
  simp only [dec]
  rw [if_pos]
  rcases hl with h | h
  · exact Or.inl h
  · exact Or.inr (by simp; omega)
/-- utf.Decode at a place of the bytes. -/
theorem decode_c (A : Option Addr) (n cap : Nat) (l : List UInt8) (k : Nat) (w : World) (B : Nat) (h : Byt w B A n cap l) (hF : Forms w) (hk : k < n) (hm : n ≤ 1100000) :
    Calls Tryz.prog 199 #[.slice A n cap, .int .i64 k] w fun e w' => e = .returned (decOut k (dec (l.drop k))) ∧ ∃ q, w' = w.drewN q := by
  have hlen := h.length
  have hkl : k < l.length := by omega
  obtain ⟨c, hc⟩ : ∃ c, l[k]? = some c := ⟨_, List.getElem?_eq_getElem hkl⟩
  by_cases hs : lenB c.toNat = 0 ∨ n < k + lenB c.toNat
  · rw [dec_none l k c hc (by rw [hlen]; exact hs)]
    exact decode_short A n cap l k w B h hF hk hm c hc hs
  · simp only [not_or] at hs
    have h4 := lenB_le c.toNat
    rcases (show lenB c.toNat = 1 ∨ lenB c.toNat = 2 ∨ lenB c.toNat = 3 ∨ lenB c.toNat = 4 by omega) with e | e | e | e
    · exact decode_1 A n cap l k w B h hF hk hm c hc e (by omega)
    · exact decode_2 A n cap l k w B h hF hk hm c hc e (by omega)
    · exact decode_3 A n cap l k w B h hF hk hm c hc e (by omega)
    · exact decode_4 A n cap l k w B h hF hk hm c hc e (by omega)
end Go.Proofs.YtgenpgfhjhcahaaGreatDoor
/- Runs of numbers. -/
namespace Go.Proofs.YtgenpgfhjhcahaaGreatDoor
open Go.ChangeShapes Go.WideShapes Go.ChangeAt Go.RowKit
set_option linter.unusedVariables false
/-- A table of runs of numbers, as memory holds it. -/
def Tab (w : World) (g : Nat) (t : List (Nat × Nat)) : Prop := ∀ i (p : Nat × Nat), t[i]? = some p → w.cell? ⟨g, i * 2, none⟩ = some (.int .i64 p.1) ∧ w.cell? ⟨g, i * 2 + 1, none⟩ = some (.int .i64 p.2)
theorem Tab.lt {w : World} {g : Nat} {t : List (Nat × Nat)} (h : Tab w g t) (hn : 0 < t.length) : g < w.heap.size := World.block_lt_of_cell? w _ (h 0 _ (List.getElem?_eq_getElem hn)).1
theorem Tab.below {w w' : World} {B g : Nat} {t : List (Nat × Nat)} (h : Tab w g t) (hb : Below B w w') (hB : g < B) : Tab w' g t := fun i p hp => by rw [hb.cell hB, hb.cell hB]; exact h i p hp
def inTab (t : List (Nat × Nat)) (r : Int) : Bool := t.any fun p => decide ((p.1 : Int) ≤ r) && decide (r ≤ (p.2 : Int))
theorem in1_c (g n : Nat) (t : List (Nat × Nat)) (r : Int) (i : Nat) (lo hi : Nat) (a1 a2 : Addr) (w : World) (hi' : i < n) (hp : t[i]? = some (lo, hi)) (h1 : w.cell? a1 = some (.slice (some ⟨g, 0, none⟩) n n)) (h2 : w.cell? a2 = some (.int .i64 r)) (ht : Tab w g t) :
    Calls Tryz.prog 233 #[.int .i64 i, .pointer (some a1), .pointer (some a2)] w fun e w' => e = .returned (.bool (decide (r ≤ (hi : Int)))) ∧ ∃ q, w' = w.drewN q := by
  have hc := (ht i _ hp).2
  simp only at hc
  have hin : (i : Int) < (n : Int) := by omega
  clear ht hp hi'
  go_enter Tryz.func233, Tryz.ntmps233
  go_wp2
  go_quiet (fail)
  go_wp2
  go_ret
  exact ⟨rfl, _, rfl⟩
/-- Its runs rise. -/
def Rises (t : List (Nat × Nat)) : Prop := ∀ (i j : Nat) (p q : Nat × Nat), i ≤ j → t[i]? = some p → t[j]? = some q → p.1 ≤ q.1 ∧ p.2 ≤ q.2
theorem search_c (g n : Nat) (t : List (Nat × Nat)) (r : Int) (a1 a2 : Addr) (w : World) (hn : t.length = n) (hs : n < 1000) (hr : Rises t) (h1 : w.cell? a1 = some (.slice (some ⟨g, 0, none⟩) n n)) (h2 : w.cell? a2 = some (.int .i64 r)) (ht : Tab w g t) :
    Calls Tryz.prog 232 #[.int .i64 n, .func (.func 233) #[] #[.pointer (some a1), .pointer (some a2)]] w fun e w' => ∃ k : Nat, e = .returned (.int .i64 k) ∧ k ≤ n ∧ (∀ (i : Nat) (p : Nat × Nat), i < k → t[i]? = some p → (p.2 : Int) < r) ∧ (∀ (i : Nat) (p : Nat × Nat), k ≤ i → t[i]? = some p → r ≤ (p.2 : Int)) ∧ ∃ q, w' = w.drewN q := by
  have HF : Hid (∀ (m i : Nat), i < n → ∀ p : Nat × Nat, t[i]? = some p → Calls Tryz.prog 233 #[.int .i64 i, .pointer (some a1), .pointer (some a2)] (w.drewN m) fun e w' => e = .returned (.bool (decide (r ≤ (p.2 : Int)))) ∧ ∃ q, w' = (w.drewN m).drewN q) :=
    Lib.hid fun m i hi p hp => in1_c g n t r i p.1 p.2 a1 a2 (w.drewN m) hi hp h1 h2 ht
  have HR := Lib.hid hr
  clear hr h1 h2 ht
  go_enter Tryz.func232, Tryz.ntmps232
  go_wp2
  go_loopg [5, 6] n (fun kx s5 s6 wr => ∃ (lo hi q : Nat), s5 = .int .i64 lo ∧ s6 = .int .i64 hi ∧ lo ≤ hi ∧ hi ≤ n ∧ hi - lo ≤ kx ∧ wr = w.drewN q ∧
    Hid ((∀ (i : Nat) (p : Nat × Nat), i < lo → t[i]? = some p → (p.2 : Int) < r) ∧ (∀ (i : Nat) (p : Nat × Nat), hi ≤ i → t[i]? = some p → r ≤ (p.2 : Int))))
  case atStart => exact ⟨0, n, 0, rfl, rfl, Nat.zero_le _, Nat.le_refl _, by omega, rfl, Lib.hid ⟨fun i p hi => absurd hi (Nat.not_lt_zero _), fun i p hi hp => by rw [List.getElem?_eq_none (by omega)] at hp; cases hp⟩⟩
  case round =>
    obtain ⟨lo, hi, q, rfl, rfl, hlh, hin, hg, rfl, I⟩ := hrel
    by_cases hlt : lo < hi
    · have hml : (lo + hi) / 2 < t.length := by omega
      obtain ⟨p, hp⟩ : ∃ p : Nat × Nat, t[(lo + hi) / 2]? = some p := ⟨_, List.getElem?_eq_getElem hml⟩
      have hc := HF.out q ((lo + hi) / 2) (by omega) p hp
      have HP := Lib.hid hp
      clear hp
      rw [show (((lo + hi) / 2 : Nat) : Int) = ((lo : Int) + (hi : Int)) / 2 by omega] at hc
      by_cases hq : r ≤ (p.2 : Int)
      · rw [decide_eq_true hq] at hc
        go_wp2_with fail
        refine hc.mono ?_
        rintro e w' ⟨rfl, nq, rfl⟩
        go_wp2
        go_roundg ((lo + hi) / 2 - lo)
        case measure => omega
        case rel => exact ⟨lo, (lo + hi) / 2, q + nq, rfl, by rw [show ((lo : Int) + (hi : Int)) / 2 = (((lo + hi) / 2 : Nat) : Int) by omega], by omega, by omega, Nat.le_refl _, rfl, Lib.hid ⟨I.out.1, fun i p' hi' hp' => by have := (HR.out _ i p p' hi' HP.out hp').2; omega⟩⟩
      · rw [decide_eq_false hq] at hc
        go_wp2_with fail
        refine hc.mono ?_
        rintro e w' ⟨rfl, nq, rfl⟩
        go_wp2
        go_roundg (hi - ((lo + hi) / 2 + 1))
        case measure => omega
        case rel => exact ⟨(lo + hi) / 2 + 1, hi, q + nq, by rw [show ((lo : Int) + (hi : Int)) / 2 + 1 = (((lo + hi) / 2 + 1 : Nat) : Int) by omega], rfl, by omega, hin, Nat.le_refl _, rfl, Lib.hid ⟨fun i p' hi' hp' => by have := (HR.out i _ p' p (by omega) hp' HP.out).2; omega, I.out.2⟩⟩
    · obtain rfl : hi = lo := by omega
      go_wp2
      go_ret
      exact ⟨hi, rfl, hin, I.out.1, I.out.2, q, rfl⟩
theorem inTab_of (t : List (Nat × Nat)) (r : Int) (k : Nat) (hr : Rises t) (h1 : ∀ (i : Nat) (p : Nat × Nat), i < k → t[i]? = some p → (p.2 : Int) < r) (h2 : ∀ (i : Nat) (p : Nat × Nat), k ≤ i → t[i]? = some p → r ≤ (p.2 : Int)) :
    inTab t r = match t[k]? with | some p => decide ((p.1 : Int) ≤ r) | none => false := by
  cases hk : t[k]? with
  | none =>
    have hkl : t.length ≤ k := List.getElem?_eq_none_iff.1 hk
    simp only [inTab, List.any_eq_false, Bool.and_eq_true, decide_eq_true_eq, not_and]
    intro p hp hle
    obtain ⟨i, hi, rfl⟩ := List.getElem_of_mem hp
    have := h1 i _ (by omega) (List.getElem?_eq_getElem hi)
    omega
  | some p =>
    by_cases hle : (p.1 : Int) ≤ r
    · simp only [hle, decide_true, inTab, List.any_eq_true]
      exact ⟨p, List.mem_of_getElem? hk, by simp [hle, h2 k p (Nat.le_refl _) hk]⟩
    · simp only [hle, decide_false, inTab, List.any_eq_false, Bool.and_eq_true, decide_eq_true_eq, not_and]
      intro q hq hql
      obtain ⟨i, hi, rfl⟩ := List.getElem_of_mem hq
      rcases Nat.lt_or_ge i k with hik | hik
      · have := h1 i _ hik (List.getElem?_eq_getElem hi)
        omega
      · have := (hr k i p _ hik hk (List.getElem?_eq_getElem hi)).1
        omega
theorem in_c (g n : Nat) (t : List (Nat × Nat)) (r : Int) (w : World) (hn : t.length = n) (hs : n < 1000) (hr : Rises t) (ht : Tab w g t) (hg : g < w.heap.size) :
    Calls Tryz.prog 198 #[.slice (some ⟨g, 0, none⟩) n n, .int .i64 r] w fun e w' => e = .returned (.bool (inTab t r)) ∧ Below w.heap.size w w' := by
  go_enter Tryz.func198, Tryz.ntmps198
  have f1 : ((w.alloc (.cells #[.slice (some ⟨g, 0, none⟩) n n] 305)).alloc (.cells #[.int .i64 r] 3)).heap[w.heap.size]? = some (.cells #[.slice (some ⟨g, 0, none⟩) n n] 305) := hp_old (hp_new _ _)
  have f2 : ((w.alloc (.cells #[.slice (some ⟨g, 0, none⟩) n n] 305)).alloc (.cells #[.int .i64 r] 3)).heap[w.heap.size + 1]? = some (.cells #[.int .i64 r] 3) := by
    have := hp_new (w.alloc (.cells #[.slice (some ⟨g, 0, none⟩) n n] 305)) (.cells #[.int .i64 r] 3)
    rwa [World.size_alloc] at this
  have hb : Below w.heap.size w ((w.alloc (.cells #[.slice (some ⟨g, 0, none⟩) n n] 305)).alloc (.cells #[.int .i64 r] 3)) := Below.alloc (Below.alloc (Below.refl _ _) (Nat.le_refl _) _) (by simp) _
  have ht2 := Lib.hid (ht.below hb hg)
  have HB := Lib.hid hb
  have HR := Lib.hid hr
  clear ht hb hr
  go_wp2_with fail
  generalize hw2 : ((w.alloc (.cells #[.slice (some ⟨g, 0, none⟩) n n] 305)).alloc (.cells #[.int .i64 r] 3)) = w2 at *
  refine (search_c g n t r ⟨w.heap.size, 0, none⟩ ⟨w.heap.size + 1, 0, none⟩ w2 hn hs HR.out (by rw [cell_of _ f1]; rfl) (by rw [cell_of _ f2]; rfl) ht2.out).mono ?_
  rintro e w1 ⟨k, rfl, hk, h1, h2, q, rfl⟩
  have hin := inTab_of t r k HR.out h1 h2
  have HI := Lib.hid hin
  clear hin h1 h2 hw2
  have g1 : (w2.drewN q).cell? ⟨w.heap.size, 0, none⟩ = some (.slice (some ⟨g, 0, none⟩) n n) := by rw [cell_of (w := w2.drewN q) 0 f1]; rfl
  have g2 : (w2.drewN q).cell? ⟨w.heap.size + 1, 0, none⟩ = some (.int .i64 r) := by rw [cell_of (w := w2.drewN q) 0 f2]; rfl
  have HB3 := Lib.hid (below_drewN' (n := q) HB.out)
  have ht3 : Hid (Tab (w2.drewN q) g t) := Lib.hid fun i p hp => ht2.out i p hp
  clear f1 f2 ht2 HB
  generalize w2.drewN q = w3 at *
  by_cases hkn : k < n
  · have hkn' : (k : Int) < (n : Int) := by omega
    obtain ⟨p, hp⟩ : ∃ p : Nat × Nat, t[k]? = some p := ⟨_, List.getElem?_eq_getElem (by omega)⟩
    have hcell := (ht3.out k p hp).1
    have HI2 : Hid (inTab t r = decide ((p.1 : Int) ≤ r)) := by have := HI.out; rw [hp] at this; exact Lib.hid this
    clear HI hp hkn
    go_wp2
    go_quiet (fail)
    go_wp2
    go_ret
    exact ⟨by rw [HI2.out]; rfl, below_drewN' HB3.out⟩
  · have HI2 : Hid (inTab t r = false) := by have := HI.out; rw [List.getElem?_eq_none (by omega)] at this; exact Lib.hid this
    have hd : decide (k < n) = false := by simpa using hkn
    have hkn' : (n : Int) ≤ (k : Int) := by omega
    clear HI hkn
    go_wp2
    go_quiet (fail)
    go_wp2
    go_ret
    exact ⟨by rw [HI2.out]; rfl, below_drewN' HB3.out⟩
def tabDocs : List (Nat × Nat) := [(9, 10), (13, 13), (32, 55295), (57344, 65533), (65536, 1114111)]
def tabStarts : List (Nat × Nat) := [(58, 58), (65, 90), (95, 95), (97, 122), (192, 214), (216, 246), (248, 767), (880, 893), (895, 8191), (8204, 8205), (8304, 8591), (11264, 12271), (12289, 55295), (63744, 64975), (65008, 65533), (65536, 983039)]
def tabMore : List (Nat × Nat) := [(45, 46), (48, 57), (183, 183), (768, 879), (8255, 8256)]
def risesB : List (Nat × Nat) → Bool
  | p :: q :: t => decide (p.1 ≤ q.1) && decide (p.2 ≤ q.2) && risesB (q :: t)
  | _ => true
theorem rises_of : ∀ t, risesB t = true → Rises t := by
  intro t
  induction t with
  | nil => intro _ i j p q _ h; simp at h
  | cons x t ih =>
    intro h
    have ht : risesB t = true := by
      cases t with
      | nil => rfl
      | cons y t => simp only [risesB, Bool.and_eq_true] at h; exact h.2
    have hR := ih ht
    have hx : ∀ (j : Nat) (q : Nat × Nat), t[j]? = some q → x.1 ≤ q.1 ∧ x.2 ≤ q.2 := by
      cases t with
      | nil => intro j q hq; simp at hq
      | cons y t =>
        intro j q hq
        simp only [risesB, Bool.and_eq_true, decide_eq_true_eq] at h
        have := hR 0 j y q (Nat.zero_le _) rfl hq
        omega
    intro i j p q hij hp hq
    cases i with
    | zero =>
      cases Option.some.inj hp
      cases j with
      | zero => cases Option.some.inj hq; exact ⟨Nat.le_refl _, Nat.le_refl _⟩
      | succ j => exact hx j q (by simpa using hq)
    | succ i =>
      cases j with
      | zero => omega
      | succ j => exact hR i j p q (by omega) (by simpa using hp) (by simpa using hq)
/-- The tables of characters, as memory holds them. -/
structure Tabs (w : World) : Prop where
  docs : Tab w 13 tabDocs
  starts : Tab w 8 tabStarts
  more : Tab w 9 tabMore
/-- Every variable that is laid lies below B. -/
def Low (B : Nat) : Prop := 13 < B ∧ 8 < B ∧ 9 < B ∧ 10 < B
theorem Tabs.low {w : World} (h : Tabs w) (hF : Forms w) : Low w.heap.size := ⟨h.docs.lt (by decide), h.starts.lt (by decide), h.more.lt (by decide), hF.lt⟩
theorem Tabs.below {w w' : World} {B : Nat} (h : Tabs w) (hb : Below B w w') (hB : Low B) : Tabs w' := ⟨h.docs.below hb hB.1, h.starts.below hb hB.2.1, h.more.below hb hB.2.2.1⟩
theorem Tabs.drewN {w : World} (h : Tabs w) (n : Nat) : Tabs (w.drewN n) := ⟨fun i p hp => h.docs i p hp, fun i p hp => h.starts i p hp, fun i p hp => h.more i p hp⟩
/-- The tables of names alone. -/
structure TabN (w : World) : Prop where
  starts : Tab w 8 tabStarts
  more : Tab w 9 tabMore
def LowN (B : Nat) : Prop := 8 < B ∧ 9 < B ∧ 10 < B
theorem TabN.low {w : World} (h : TabN w) (hF : Forms w) : LowN w.heap.size := ⟨h.starts.lt (by decide), h.more.lt (by decide), hF.lt⟩
theorem TabN.below {w w' : World} {B : Nat} (h : TabN w) (hb : Below B w w') (hB : LowN B) : TabN w' := ⟨h.starts.below hb hB.1, h.more.below hb hB.2.1⟩
theorem TabN.drewN {w : World} (h : TabN w) (n : Nat) : TabN (w.drewN n) := ⟨fun i p hp => h.starts i p hp, fun i p hp => h.more i p hp⟩
theorem Tabs.n {w : World} (h : Tabs w) : TabN w := ⟨h.starts, h.more⟩
def isStart (r : Int) : Bool := inTab tabStarts r
def isMore (r : Int) : Bool := isStart r || inTab tabMore r
theorem nameStart_c (r : Int) (w : World) (h : TabN w) : Calls Tryz.prog 149 #[.int .i64 r] w fun e w' => e = .returned (.bool (isStart r)) ∧ Below w.heap.size w w' := by
  have hc := in_c _ 16 tabStarts r w rfl (by decide) (rises_of _ (by decide)) h.starts (h.starts.lt (by decide))
  have HH := Lib.hid h
  clear h
  go_enter Tryz.func149, Tryz.ntmps149
  go_wp2_with fail
  refine hc.mono ?_
  rintro e w1 ⟨rfl, hb⟩
  go_wp2
  go_ret
  exact ⟨rfl, hb⟩
theorem nameChar_c (r : Int) (w : World) (h : TabN w) (hL : LowN w.heap.size) : Calls Tryz.prog 150 #[.int .i64 r] w fun e w' => e = .returned (.bool (isMore r)) ∧ Below w.heap.size w w' := by
  have HH := Lib.hid h
  have HL := Lib.hid hL
  have hs := nameStart_c r w h
  have hm : ∀ w1, Below w.heap.size w w1 → Calls Tryz.prog 198 #[.slice (some ⟨9, 0, none⟩) 5 5, .int .i64 r] w1 fun e w' => e = .returned (.bool (inTab tabMore r)) ∧ Below w1.heap.size w1 w' := fun w1 hb =>
    in_c _ 5 tabMore r w1 rfl (by decide) (rises_of _ (by decide)) (h.below hb hL).more ((h.below hb hL).more.lt (by decide))
  have HM := Lib.hid hm
  clear h hL hm
  unfold isMore
  cases he : isStart r with
  | true =>
    rw [he] at hs
    have HE := Lib.hid he
    clear he
    go_enter Tryz.func150, Tryz.ntmps150
    go_wp2_with fail
    refine hs.mono ?_
    rintro e w1 ⟨rfl, hb⟩
    go_wp2
    go_ret
    exact ⟨rfl, hb⟩
  | false =>
    rw [he] at hs
    have HE := Lib.hid he
    clear he
    go_enter Tryz.func150, Tryz.ntmps150
    go_wp2_with fail
    refine hs.mono ?_
    rintro e w1 ⟨rfl, hb⟩
    go_wp2_with fail
    refine (HM.out w1 hb).mono ?_
    rintro e w2 ⟨rfl, hb2⟩
    go_wp2
    go_ret
    exact ⟨rfl, hb.trans (hb2.mono hb.size)⟩
end Go.Proofs.YtgenpgfhjhcahaaGreatDoor
/- The document's characters. -/
namespace Go.Proofs.YtgenpgfhjhcahaaGreatDoor
open Go.ChangeShapes Go.WideShapes Go.ChangeAt Go.RowKit
set_option linter.unusedVariables false
theorem isStart_iff (r : Int) : isStart r = true ↔ ((58 ≤ r ∧ r ≤ 58) ∨ (65 ≤ r ∧ r ≤ 90) ∨ (95 ≤ r ∧ r ≤ 95) ∨ (97 ≤ r ∧ r ≤ 122) ∨ (192 ≤ r ∧ r ≤ 214) ∨ (216 ≤ r ∧ r ≤ 246) ∨ (248 ≤ r ∧ r ≤ 767) ∨ (880 ≤ r ∧ r ≤ 893) ∨ (895 ≤ r ∧ r ≤ 8191) ∨ (8204 ≤ r ∧ r ≤ 8205) ∨ (8304 ≤ r ∧ r ≤ 8591) ∨ (11264 ≤ r ∧ r ≤ 12271) ∨ (12289 ≤ r ∧ r ≤ 55295) ∨ (63744 ≤ r ∧ r ≤ 64975) ∨ (65008 ≤ r ∧ r ≤ 65533) ∨ (65536 ≤ r ∧ r ≤ 983039)) := by
  simp [isStart, inTab, tabStarts]
def isMoreOnly (r : Int) : Bool := inTab tabMore r
theorem isMoreOnly_iff (r : Int) : isMoreOnly r = true ↔ ((45 ≤ r ∧ r ≤ 46) ∨ (48 ≤ r ∧ r ≤ 57) ∨ (183 ≤ r ∧ r ≤ 183) ∨ (768 ≤ r ∧ r ≤ 879) ∨ (8255 ≤ r ∧ r ≤ 8256)) := by
  simp [isMoreOnly, inTab, tabMore]
end Go.Proofs.YtgenpgfhjhcahaaGreatDoor
/- The document's beginnings of names. -/
namespace Go.Proofs.YtgenpgfhjhcahaaGreatDoor
open Go.ChangeShapes Go.WideShapes Go.ChangeAt Go.RowKit
set_option linter.unusedVariables false
set_option maxRecDepth 100000 in
set_option maxHeartbeats 4000000 in
theorem refStart_c (r : Int) (w : World) : Calls Tryz.prog 85 #[.int .i64 r] w fun e w' => e = .returned (.bool (isStart r)) ∧ w = w' := by
  rcases (show r ≤ 57 ∨ r = 58 ∨ (59 ≤ r ∧ r ≤ 64) ∨ (65 ≤ r ∧ r ≤ 90) ∨ (91 ≤ r ∧ r ≤ 94) ∨ r = 95 ∨ r = 96 ∨ (97 ≤ r ∧ r ≤ 122) ∨ (123 ≤ r ∧ r ≤ 127) ∨ (128 ≤ r ∧ r ≤ 191) ∨ (192 ≤ r ∧ r ≤ 214) ∨ r = 215 ∨ (216 ≤ r ∧ r ≤ 246) ∨ r = 247 ∨ (248 ≤ r ∧ r ≤ 767) ∨ (768 ≤ r ∧ r ≤ 879) ∨ (880 ≤ r ∧ r ≤ 893) ∨ r = 894 ∨ (895 ≤ r ∧ r ≤ 8191) ∨ (8192 ≤ r ∧ r ≤ 8203) ∨ r = 8204 ∨ r = 8205 ∨ (8206 ≤ r ∧ r ≤ 8303) ∨ (8304 ≤ r ∧ r ≤ 8591) ∨ (8592 ≤ r ∧ r ≤ 11263) ∨ (11264 ≤ r ∧ r ≤ 12271) ∨ (12272 ≤ r ∧ r ≤ 12288) ∨ (12289 ≤ r ∧ r ≤ 55295) ∨ (55296 ≤ r ∧ r ≤ 63743) ∨ (63744 ≤ r ∧ r ≤ 64975) ∨ (64976 ≤ r ∧ r ≤ 65007) ∨ (65008 ≤ r ∧ r ≤ 65533) ∨ (65534 ≤ r ∧ r ≤ 65535) ∨ (65536 ≤ r ∧ r ≤ 983039) ∨ 983040 ≤ r by omega) with h | h | h | h | h | h | h | h | h | h | h | h | h | h | h | h | h | h | h | h | h | h | h | h | h | h | h | h | h | h | h | h | h | h | h
  all_goals
    first
      | (have e : isStart r = false := by rw [Bool.eq_false_iff, Ne, isStart_iff]; omega
         rw [e])
      | (have e : isStart r = true := by rw [isStart_iff]; omega
         rw [e])
    first | (have a0 : decide (r < 128) = true := decide_eq_true (by omega)) | (have a0 : decide (r < 128) = false := decide_eq_false (by omega))
    first | (have a1 : (r == 58) = true := beq_iff_eq.2 (by omega)) | (have a1 : (r == 58) = false := beq_eq_false_iff_ne.2 (by omega))
    first | (have a2 : decide (65 ≤ r) = true := decide_eq_true (by omega)) | (have a2 : decide (65 ≤ r) = false := decide_eq_false (by omega))
    first | (have a3 : decide (r ≤ 90) = true := decide_eq_true (by omega)) | (have a3 : decide (r ≤ 90) = false := decide_eq_false (by omega))
    first | (have a4 : (r == 95) = true := beq_iff_eq.2 (by omega)) | (have a4 : (r == 95) = false := beq_eq_false_iff_ne.2 (by omega))
    first | (have a5 : decide (97 ≤ r) = true := decide_eq_true (by omega)) | (have a5 : decide (97 ≤ r) = false := decide_eq_false (by omega))
    first | (have a6 : decide (r ≤ 122) = true := decide_eq_true (by omega)) | (have a6 : decide (r ≤ 122) = false := decide_eq_false (by omega))
    first | (have a7 : decide (r < 8192) = true := decide_eq_true (by omega)) | (have a7 : decide (r < 8192) = false := decide_eq_false (by omega))
    first | (have a8 : decide (192 ≤ r) = true := decide_eq_true (by omega)) | (have a8 : decide (192 ≤ r) = false := decide_eq_false (by omega))
    first | (have a9 : (r != 215) = true := bne_iff_ne.2 (by omega)) | (have a9 : (r != 215) = false := by rw [bne_eq_false_iff_eq]; omega)
    first | (have a10 : (r != 247) = true := bne_iff_ne.2 (by omega)) | (have a10 : (r != 247) = false := by rw [bne_eq_false_iff_eq]; omega)
    first | (have a11 : decide (r ≤ 767) = true := decide_eq_true (by omega)) | (have a11 : decide (r ≤ 767) = false := decide_eq_false (by omega))
    first | (have a12 : decide (880 ≤ r) = true := decide_eq_true (by omega)) | (have a12 : decide (880 ≤ r) = false := decide_eq_false (by omega))
    first | (have a13 : (r != 894) = true := bne_iff_ne.2 (by omega)) | (have a13 : (r != 894) = false := by rw [bne_eq_false_iff_eq]; omega)
    first | (have a14 : (r == 8204) = true := beq_iff_eq.2 (by omega)) | (have a14 : (r == 8204) = false := beq_eq_false_iff_ne.2 (by omega))
    first | (have a15 : (r == 8205) = true := beq_iff_eq.2 (by omega)) | (have a15 : (r == 8205) = false := beq_eq_false_iff_ne.2 (by omega))
    first | (have a16 : decide (8304 ≤ r) = true := decide_eq_true (by omega)) | (have a16 : decide (8304 ≤ r) = false := decide_eq_false (by omega))
    first | (have a17 : decide (r ≤ 8591) = true := decide_eq_true (by omega)) | (have a17 : decide (r ≤ 8591) = false := decide_eq_false (by omega))
    first | (have a18 : decide (11264 ≤ r) = true := decide_eq_true (by omega)) | (have a18 : decide (11264 ≤ r) = false := decide_eq_false (by omega))
    first | (have a19 : decide (r ≤ 12271) = true := decide_eq_true (by omega)) | (have a19 : decide (r ≤ 12271) = false := decide_eq_false (by omega))
    first | (have a20 : decide (12289 ≤ r) = true := decide_eq_true (by omega)) | (have a20 : decide (12289 ≤ r) = false := decide_eq_false (by omega))
    first | (have a21 : decide (r ≤ 55295) = true := decide_eq_true (by omega)) | (have a21 : decide (r ≤ 55295) = false := decide_eq_false (by omega))
    first | (have a22 : decide (63744 ≤ r) = true := decide_eq_true (by omega)) | (have a22 : decide (63744 ≤ r) = false := decide_eq_false (by omega))
    first | (have a23 : decide (r ≤ 64975) = true := decide_eq_true (by omega)) | (have a23 : decide (r ≤ 64975) = false := decide_eq_false (by omega))
    first | (have a24 : decide (65008 ≤ r) = true := decide_eq_true (by omega)) | (have a24 : decide (65008 ≤ r) = false := decide_eq_false (by omega))
    first | (have a25 : decide (r ≤ 65533) = true := decide_eq_true (by omega)) | (have a25 : decide (r ≤ 65533) = false := decide_eq_false (by omega))
    first | (have a26 : decide (65536 ≤ r) = true := decide_eq_true (by omega)) | (have a26 : decide (65536 ≤ r) = false := decide_eq_false (by omega))
    first | (have a27 : decide (r ≤ 983039) = true := decide_eq_true (by omega)) | (have a27 : decide (r ≤ 983039) = false := decide_eq_false (by omega))
    clear e h
    go_enter Tryz.func85, Tryz.ntmps85
    go_wp2
    go_ret
    exact ⟨rfl, rfl⟩
end Go.Proofs.YtgenpgfhjhcahaaGreatDoor
/- The document's name characters. -/
namespace Go.Proofs.YtgenpgfhjhcahaaGreatDoor
open Go.ChangeShapes Go.WideShapes Go.ChangeAt Go.RowKit
set_option linter.unusedVariables false
set_option maxRecDepth 100000 in
set_option maxHeartbeats 4000000 in
theorem refMore_c (r : Int) (w : World) : Calls Tryz.prog 84 #[.int .i64 r] w fun e w' => e = .returned (.bool (isMore r)) ∧ w = w' := by
  have hs := refStart_c r w
  unfold isMore
  cases he : isStart r with
  | true =>
    rw [he] at hs
    have HE := Lib.hid he
    clear he
    go_enter Tryz.func84, Tryz.ntmps84
    go_wp2_with fail
    refine hs.mono ?_
    rintro e w1 ⟨rfl, rfl⟩
    go_wp2
    go_ret
    exact ⟨rfl, rfl⟩
  | false =>
    rw [he] at hs
    have HE := Lib.hid he
    clear he
    show Calls _ _ _ _ fun e w' => e = .returned (.bool (isMoreOnly r)) ∧ w = w'
    rcases (show r ≤ 44 ∨ r = 45 ∨ r = 46 ∨ r = 47 ∨ (48 ≤ r ∧ r ≤ 57) ∨ (58 ≤ r ∧ r ≤ 182) ∨ r = 183 ∨ (184 ≤ r ∧ r ≤ 767) ∨ (768 ≤ r ∧ r ≤ 879) ∨ (880 ≤ r ∧ r ≤ 8254) ∨ r = 8255 ∨ r = 8256 ∨ 8257 ≤ r by omega) with h | h | h | h | h | h | h | h | h | h | h | h | h
    all_goals
      first
        | (have e : isMoreOnly r = false := by rw [Bool.eq_false_iff, Ne, isMoreOnly_iff]; omega
           rw [e])
        | (have e : isMoreOnly r = true := by rw [isMoreOnly_iff]; omega
           rw [e])
      first | (have a0 : (r == 45) = true := beq_iff_eq.2 (by omega)) | (have a0 : (r == 45) = false := beq_eq_false_iff_ne.2 (by omega))
      first | (have a1 : (r == 46) = true := beq_iff_eq.2 (by omega)) | (have a1 : (r == 46) = false := beq_eq_false_iff_ne.2 (by omega))
      first | (have a2 : decide (48 ≤ r) = true := decide_eq_true (by omega)) | (have a2 : decide (48 ≤ r) = false := decide_eq_false (by omega))
      first | (have a3 : decide (r ≤ 57) = true := decide_eq_true (by omega)) | (have a3 : decide (r ≤ 57) = false := decide_eq_false (by omega))
      first | (have a4 : (r == 183) = true := beq_iff_eq.2 (by omega)) | (have a4 : (r == 183) = false := beq_eq_false_iff_ne.2 (by omega))
      first | (have a5 : decide (768 ≤ r) = true := decide_eq_true (by omega)) | (have a5 : decide (768 ≤ r) = false := decide_eq_false (by omega))
      first | (have a6 : decide (r ≤ 879) = true := decide_eq_true (by omega)) | (have a6 : decide (r ≤ 879) = false := decide_eq_false (by omega))
      first | (have a7 : (r == 8255) = true := beq_iff_eq.2 (by omega)) | (have a7 : (r == 8255) = false := beq_eq_false_iff_ne.2 (by omega))
      first | (have a8 : (r == 8256) = true := beq_iff_eq.2 (by omega)) | (have a8 : (r == 8256) = false := beq_eq_false_iff_ne.2 (by omega))
      clear e h
      go_enter Tryz.func84, Tryz.ntmps84
      go_wp2_with fail
      refine hs.mono ?_
      rintro e w1 ⟨rfl, rfl⟩
      go_wp2
      go_ret
      exact ⟨rfl, rfl⟩
end Go.Proofs.YtgenpgfhjhcahaaGreatDoor
/- Names. -/
namespace Go.Proofs.YtgenpgfhjhcahaaGreatDoor
open Go.ChangeShapes Go.WideShapes Go.ChangeAt Go.RowKit
set_option linter.unusedVariables false
/-- What a function of a number says, whatever has come behind block B since. -/
def Says (fn : Nat) (cb : Array Value) (B : Nat) (w0 : World) (f : Int → Bool) : Prop :=
  ∀ (w1 : World) (r : Int), Below B w0 w1 → Calls Tryz.prog fn (#[.int .i64 r] ++ cb) w1 fun e w' => e = .returned (.bool (f r)) ∧ Below w1.heap.size w1 w'
theorem Says.below {fn : Nat} {cb : Array Value} {B : Nat} {w0 w1 : World} {f : Int → Bool} (h : Says fn cb B w0 f) (hb : Below B w0 w1) : Says fn cb B w1 f := fun w2 r h2 => h w2 r (hb.trans h2)
theorem Says.more {fn : Nat} {cb : Array Value} {B B' : Nat} {w0 : World} {f : Int → Bool} (h : Says fn cb B w0 f) (hB : B ≤ B') : Says fn cb B' w0 f := fun w2 r h2 => h w2 r (h2.mono hB)
/-- But for a colon. -/
def noColon (f : Int → Bool) (r : Int) : Bool := decide (r ≠ 58) && f r
theorem is1_c (fn : Nat) (f : Int → Bool) (a : Nat) (B : Nat) (w0 : World) (hfn : ∀ args w, (callFunc fn args).run Tryz.prog w = .ok (.enter fn args) w) (ha : w0.cell? ⟨a, 0, none⟩ = some (.func (.func fn) #[] #[])) (haB : a < B) (hs : Says fn #[] B w0 f) :
    Says 217 #[.pointer (some ⟨a, 0, none⟩)] B w0 (noColon f) := by
  intro w1 r hb
  have hc : w1.cell? ⟨a, 0, none⟩ = some (.func (.func fn) #[] #[]) := by rw [hb.cell haB]; exact ha
  have hcall := hs w1 r hb
  clear hs ha hb
  unfold noColon
  show Calls Tryz.prog 217 #[.int .i64 r, .pointer (some ⟨a, 0, none⟩)] w1 _
  by_cases h58 : r = 58
  · subst h58
    clear hcall
    go_enter Tryz.func217, Tryz.ntmps217
    go_wp2
    go_ret
    exact ⟨rfl, Below.refl _ _⟩
  · have hne : (r != 58) = true := by simpa using h58
    have hd : decide (r ≠ 58) = true := by simpa using h58
    rw [hd]
    clear hd
    go_enter Tryz.func217, Tryz.ntmps217
    go_wp2_with fail
    refine hcall.mono ?_
    rintro e w2 ⟨rfl, hb2⟩
    go_wp2
    go_ret
    exact ⟨rfl, hb2⟩
theorem isF_c (fn : Nat) (w : World) : Calls Tryz.prog 178 #[.func (.func fn) #[] #[]] w fun e w' => e = .returned (.func (.func 217) #[] #[.pointer (some ⟨w.heap.size, 0, none⟩)]) ∧ w' = w.alloc (.cells #[.func (.func fn) #[] #[]] 88) := by
  go_enter Tryz.func178, Tryz.ntmps178
  go_wp2
  go_ret
  exact ⟨rfl, rfl⟩
/-- The sort of names without a colon, as its two functions. -/
def plainsV (a b : Nat) : Value := .agg #[.func (.func 217) #[] #[.pointer (some ⟨a, 0, none⟩)], .func (.func 217) #[] #[.pointer (some ⟨b, 0, none⟩)]]
def isStructB (P : Program) (t : TypeId) : Bool := match P.underlying t with | some (.struct _) => true | _ => false
theorem isStruct_of {P : Program} {t : TypeId} (h : isStructB P t = true) : ∃ d, P.underlying t = some (.struct d) := by
  unfold isStructB at h
  split at h
  · exact ⟨_, by assumption⟩
  · cases h
theorem plains_c (w : World) (h : TabN w) (hL : LowN w.heap.size) : Calls Tryz.prog 125 #[] w fun e w' => ∃ a b, e = .returned (plainsV a b) ∧ Below w.heap.size w w' ∧
    Says 217 #[.pointer (some ⟨a, 0, none⟩)] w'.heap.size w' (noColon isStart) ∧ Says 217 #[.pointer (some ⟨b, 0, none⟩)] w'.heap.size w' (noColon isMore) := by
  have HH := Lib.hid (And.intro h hL)
  clear h hL
  go_enter Tryz.func125, Tryz.ntmps125
  go_wp2_with fail
  refine (isF_c 149 _).mono ?_
  rintro e w1 ⟨rfl, rfl⟩
  go_wp2_with fail
  refine (isF_c 150 _).mono ?_
  rintro e w2 ⟨rfl, rfl⟩
  have f0 : (((w.alloc (.cells #[.nilFunc, .nilFunc] 210)).alloc (.cells #[.func (.func 149) #[] #[]] 88)).alloc (.cells #[.func (.func 150) #[] #[]] 88)).heap[w.heap.size]? = some (.cells #[.nilFunc, .nilFunc] 210) := hp_old (hp_old (hp_new _ _))
  have f1 : (((w.alloc (.cells #[.nilFunc, .nilFunc] 210)).alloc (.cells #[.func (.func 149) #[] #[]] 88)).alloc (.cells #[.func (.func 150) #[] #[]] 88)).heap[w.heap.size + 1]? = some (.cells #[.func (.func 149) #[] #[]] 88) := by
    have := hp_new (w.alloc (.cells #[.nilFunc, .nilFunc] 210)) (.cells #[.func (.func 149) #[] #[]] 88)
    rw [World.size_alloc] at this
    exact hp_old this
  have f2 : (((w.alloc (.cells #[.nilFunc, .nilFunc] 210)).alloc (.cells #[.func (.func 149) #[] #[]] 88)).alloc (.cells #[.func (.func 150) #[] #[]] 88)).heap[w.heap.size + 1 + 1]? = some (.cells #[.func (.func 150) #[] #[]] 88) := by
    have := hp_new ((w.alloc (.cells #[.nilFunc, .nilFunc] 210)).alloc (.cells #[.func (.func 149) #[] #[]] 88)) (.cells #[.func (.func 150) #[] #[]] 88)
    rw [World.size_alloc, World.size_alloc] at this
    exact this
  have hb : Below w.heap.size w (((w.alloc (.cells #[.nilFunc, .nilFunc] 210)).alloc (.cells #[.func (.func 149) #[] #[]] 88)).alloc (.cells #[.func (.func 150) #[] #[]] 88)) := Below.alloc (Below.alloc (Below.alloc (Below.refl _ _) (Nat.le_refl _) _) (by simp) _) (by simp; omega) _
  have hsz : (((w.alloc (.cells #[.nilFunc, .nilFunc] 210)).alloc (.cells #[.func (.func 149) #[] #[]] 88)).alloc (.cells #[.func (.func 150) #[] #[]] 88)).heap.size = w.heap.size + 3 := by simp
  rw [World.size_alloc, World.size_alloc]
  generalize ((w.alloc (.cells #[.nilFunc, .nilFunc] 210)).alloc (.cells #[.func (.func 149) #[] #[]] 88)).alloc (.cells #[.func (.func 150) #[] #[]] 88) = w3 at *
  have HB := Lib.hid (And.intro hb hsz)
  have F1 := Lib.hid f1
  have F2 := Lib.hid f2
  clear hb hsz f1 f2
  have z0 : w3.cell? ⟨w.heap.size, 0, none⟩ = some .nilFunc := by rw [cell_of 0 f0]; rfl
  have z1 : w3.cell? ⟨w.heap.size, 1, none⟩ = some .nilFunc := by rw [cell_of 1 f0]; rfl
  have y0 : w3.frozen? ⟨w.heap.size, 0, none⟩ = false := free_of 0 f0
  have y1 : w3.frozen? ⟨w.heap.size, 1, none⟩ = false := free_of 1 f0
  go_wp2
  have hF := hp_set (i := 1) (v := .func (.func 217) #[] #[.pointer (some ⟨w.heap.size + 1 + 1, 0, none⟩)]) (hp_set (i := 0) (v := .func (.func 217) #[] #[.pointer (some ⟨w.heap.size + 1, 0, none⟩)]) f0)
  have hi : (Tryz.prog.info? 210).map (·.size) = some 2 := by kernel_rfl
  obtain ⟨d, hu⟩ := isStruct_of (P := Tryz.prog) (t := 210) (by kernel_rfl)
  (try simp only [Exit.inBlock, Exit.then])
  refine bodyPost_ret (results_cell_row rfl _ _ w.heap.size _ _ _ _ rfl hF hu rfl hi) rfl ?_
  have hbb := Below.setCell (p := ⟨w.heap.size, 1, none⟩) (Below.setCell (p := ⟨w.heap.size, 0, none⟩) HB.out.1 (Nat.le_refl _) (.func (.func 217) #[] #[.pointer (some ⟨w.heap.size + 1, 0, none⟩)])) (Nat.le_refl _) (.func (.func 217) #[] #[.pointer (some ⟨w.heap.size + 1 + 1, 0, none⟩)])
  have h1 := F1.out
  have h2 := F2.out
  have hs3 := HB.out.2
  rw [← hp_other (w := w3) (b := w.heap.size) (i := 0) (v := .func (.func 217) #[] #[.pointer (some ⟨w.heap.size + 1, 0, none⟩)]) (by omega), ← hp_other (b := w.heap.size) (i := 1) (v := .func (.func 217) #[] #[.pointer (some ⟨w.heap.size + 1 + 1, 0, none⟩)]) (by omega)] at h1 h2
  have hsz : ((w3.setCell ⟨w.heap.size, 0, none⟩ (.func (.func 217) #[] #[.pointer (some ⟨w.heap.size + 1, 0, none⟩)])).setCell ⟨w.heap.size, 1, none⟩ (.func (.func 217) #[] #[.pointer (some ⟨w.heap.size + 1 + 1, 0, none⟩)])).heap.size = w.heap.size + 3 := by simp [hs3]
  generalize ((w3.setCell ⟨w.heap.size, 0, none⟩ (.func (.func 217) #[] #[.pointer (some ⟨w.heap.size + 1, 0, none⟩)])).setCell ⟨w.heap.size, 1, none⟩ (.func (.func 217) #[] #[.pointer (some ⟨w.heap.size + 1 + 1, 0, none⟩)])) = w4 at *
  have hT := HH.out.1.below hbb HH.out.2
  have hL : LowN w4.heap.size := by have := HH.out.2; unfold LowN at *; omega
  refine ⟨w.heap.size + 1, w.heap.size + 1 + 1, rfl, hbb, ?_, ?_⟩
  · exact is1_c 149 isStart _ _ w4 (enters_of Tryz.func149 (by kernel_rfl) rfl) (by rw [cell_of _ h1]; rfl) (by omega) fun w5 r hb => nameStart_c r w5 (hT.below hb hL)
  · exact is1_c 150 isMore _ _ w4 (enters_of Tryz.func150 (by kernel_rfl) rfl) (by rw [cell_of _ h2]; rfl) (by omega) fun w5 r hb => nameChar_c r w5 (hT.below hb hL) (by have := hb.size; unfold LowN at *; omega)
end Go.Proofs.YtgenpgfhjhcahaaGreatDoor
/- Names: the end. -/
namespace Go.Proofs.YtgenpgfhjhcahaaGreatDoor
open Go.ChangeShapes Go.WideShapes Go.ChangeAt Go.RowKit
set_option linter.unusedVariables false
/-- How many bytes a name has: f: what may begin it; g: what may follow. -/
def endL (f g : Int → Bool) : Nat → List UInt8 → Nat
  | 0, _ => 0
  | k + 1, l => match dec l with
    | some (r, n) => if f r then n + endL g g k (l.drop n) else 0
    | none => 0
theorem endL_le (k : Nat) : ∀ (f g : Int → Bool) (l : List UInt8), endL f g k l ≤ l.length := by
  induction k with
  | zero => intro f g l; exact Nat.zero_le _
  | succ k ih =>
    intro f g l
    simp only [endL]
    split
    · rename_i r n h
      have := dec_le l r n h
      split
      · have := ih g g (l.drop n)
        rw [List.length_drop] at this
        omega
      · omega
    · omega
theorem endL_none (f g : Int → Bool) (k : Nat) (l : List UInt8) (h : dec l = none) : endL f g k l = 0 := by
  cases k with
  | zero => rfl
  | succ k => simp [endL, h]
theorem endL_no (f g : Int → Bool) (k : Nat) (l : List UInt8) (r n : Nat) (h : dec l = some (r, n)) (hf : f r = false) : endL f g k l = 0 := by
  cases k with
  | zero => rfl
  | succ k => simp [endL, h, hf]
theorem endL_yes (f g : Int → Bool) (k : Nat) (l : List UInt8) (r n : Nat) (h : dec l = some (r, n)) (hf : f r = true) : endL f g (k + 1) l = n + endL g g k (l.drop n) := by
  simp [endL, h, hf]
set_option maxHeartbeats 2000000 in
theorem end_c (f g : Int → Bool) (a b : Nat) (A : Option Addr) (n cap : Nat) (l : List UInt8) (at_ : Nat) (w : World) (h : Byt w w.heap.size A n cap l) (hF : Forms w) (hm : n ≤ 100000) (hat : at_ ≤ n)
    (hf : Says 217 #[.pointer (some ⟨a, 0, none⟩)] w.heap.size w f) (hg : Says 217 #[.pointer (some ⟨b, 0, none⟩)] w.heap.size w g) :
    Calls Tryz.prog 151 #[plainsV a b, .slice A n cap, .int .i64 at_] w fun e w' => e = .returned (.int .i64 ((at_ + endL f g n (l.drop at_) : Nat))) ∧ Below w.heap.size w w' := by
  have HB0 := Lib.hid (And.intro h (And.intro hF hF.lt))
  have HS := Lib.hid (And.intro hf hg)
  have hln := Lib.hid h.length
  clear h hF hf hg
  unfold plainsV
  go_enter Tryz.func151, Tryz.ntmps151
  have f0 := hp_new w (.cells #[.func (.func 217) #[] #[.pointer (some ⟨a, 0, none⟩)], .func (.func 217) #[] #[.pointer (some ⟨b, 0, none⟩)]] 210)
  have z0 := cell_of 0 f0
  have z1 := cell_of 1 f0
  have hb0 : Hid (Below w.heap.size w (w.alloc (.cells #[.func (.func 217) #[] #[.pointer (some ⟨a, 0, none⟩)], .func (.func 217) #[] #[.pointer (some ⟨b, 0, none⟩)]] 210))) := Lib.hid (Below.alloc (Below.refl _ _) (Nat.le_refl _) _)
  have hsz : (w.alloc (.cells #[.func (.func 217) #[] #[.pointer (some ⟨a, 0, none⟩)], .func (.func 217) #[] #[.pointer (some ⟨b, 0, none⟩)]] 210)).heap.size = w.heap.size + 1 := by simp
  have z1' : Hid ((w.alloc (.cells #[.func (.func 217) #[] #[.pointer (some ⟨a, 0, none⟩)], .func (.func 217) #[] #[.pointer (some ⟨b, 0, none⟩)]] 210)).cell? ⟨w.heap.size, 1, none⟩ = some (.func (.func 217) #[] #[.pointer (some ⟨b, 0, none⟩)])) := Lib.hid z1
  clear f0 z1
  go_wp2
  generalize hw0 : w.alloc (.cells #[.func (.func 217) #[] #[.pointer (some ⟨a, 0, none⟩)], .func (.func 217) #[] #[.pointer (some ⟨b, 0, none⟩)]] 210) = w0 at *
  clear hw0 z0
  go_loopg [2, 7] (n - at_) (fun kx s2 s7 wr => ∃ (p K c : Nat) (fc : Int → Bool), s2 = .int .i64 p ∧ s7 = .func (.func 217) #[] #[.pointer (some ⟨c, 0, none⟩)] ∧ p ≤ n ∧ kx = n - p ∧ n - p ≤ K ∧
    Hid (at_ + endL f g n (l.drop at_) = p + endL fc g K (l.drop p)) ∧ Hid (Says 217 #[.pointer (some ⟨c, 0, none⟩)] w.heap.size w fc) ∧ Hid (Below w.heap.size w wr) ∧ w.heap.size < wr.heap.size ∧
    Hid (wr.cell? ⟨w.heap.size, 1, none⟩ = some (.func (.func 217) #[] #[.pointer (some ⟨b, 0, none⟩)])))
  case atStart => exact ⟨at_, n, a, f, rfl, rfl, hat, rfl, by omega, Lib.hid rfl, Lib.hid HS.out.1, hb0, by omega, z1'⟩
  case round =>
    obtain ⟨p, K, c, fc, rfl, rfl, hp, hk, hK, HE, HC, HB, hsr, HZ⟩ := hrel
    by_cases hlt : p < n
    · have hlt' : (p : Int) < (n : Int) := by omega
      have hd := decode_c A n cap l p wr w.heap.size (HB0.out.1.below HB.out) (HB0.out.2.1.below HB.out HB0.out.2.2) hlt (by omega)
      cases hdec : dec (l.drop p) with
      | none =>
        rw [hdec] at hd
        have HD := Lib.hid hdec
        clear hdec
        go_wp2_with fail
        refine hd.mono ?_
        rintro e w1 ⟨rfl, q, rfl⟩
        simp only [decOut]
        go_wp2
        go_ret
        exact ⟨by rw [HE.out, endL_none _ _ _ _ HD.out]; rfl, below_drewN' HB.out⟩
      | some v =>
        obtain ⟨r, m⟩ := v
        rw [hdec] at hd
        have HD := Lib.hid hdec
        have hle := dec_le _ r m hdec
        rw [List.length_drop, hln.out] at hle
        have hcall := HC.out (wr.drewN 0) r (below_drewN' HB.out)
        clear hdec
        have HX := Lib.hid HC.out
        clear hcall
        cases hfr : fc r with
        | false =>
          go_wp2_with fail
          refine hd.mono ?_
          rintro e w1 ⟨rfl, q, rfl⟩
          simp only [decOut]
          have hcall := HC.out (wr.drewN q) r (below_drewN' HB.out)
          rw [hfr] at hcall
          have HR := Lib.hid hfr
          clear hfr
          go_wp2_with fail
          refine hcall.mono ?_
          rintro e w2 ⟨rfl, hb2⟩
          go_wp2
          go_ret
          exact ⟨by rw [HE.out, endL_no _ _ _ _ _ _ HD.out HR.out]; rfl, (below_drewN' HB.out).trans (hb2.mono (by show w.heap.size ≤ wr.heap.size; omega))⟩
        | true =>
          go_wp2_with fail
          refine hd.mono ?_
          rintro e w1 ⟨rfl, q, rfl⟩
          simp only [decOut]
          have hcall := HC.out (wr.drewN q) r (below_drewN' HB.out)
          rw [hfr] at hcall
          have HR := Lib.hid hfr
          clear hfr
          go_wp2_with fail
          refine hcall.mono ?_
          rintro e w2 ⟨rfl, hb2⟩
          have hz2 : w2.cell? ⟨w.heap.size, 1, none⟩ = some (.func (.func 217) #[] #[.pointer (some ⟨b, 0, none⟩)]) := by rw [hb2.cell (by show w.heap.size < wr.heap.size; omega)]; exact HZ.out
          have HB2 := Lib.hid ((below_drewN' (n := q) HB.out).trans (hb2.mono (by show w.heap.size ≤ wr.heap.size; omega)))
          have hs2 : w.heap.size < w2.heap.size := by have := hb2.size; have : wr.heap.size ≤ w2.heap.size := this; omega
          clear hb2
          go_wp2
          go_quiet (fail)
          have hz3 : Hid ((w2.drewN nq).cell? ⟨w.heap.size, 1, none⟩ = some (.func (.func 217) #[] #[.pointer (some ⟨b, 0, none⟩)])) := Lib.hid hz2
          go_wp2
          go_roundg (n - (p + m))
          case measure => omega
          case rel =>
            refine ⟨p + m, K - 1, b, g, rfl, rfl, by omega, rfl, by omega, Lib.hid ?_, Lib.hid HS.out.2, Lib.hid (below_drewN' HB2.out), hs2, hz3⟩
            have := endL_yes fc g (K - 1) _ r m HD.out HR.out
            rw [show K - 1 + 1 = K by omega, List.drop_drop] at this
            rw [HE.out, this]
            omega
    · obtain rfl : p = n := by omega
      go_wp2
      go_ret
      refine ⟨?_, HB.out⟩
      rw [HE.out, List.drop_of_length_le (by rw [hln.out]; exact Nat.le_refl _), endL_none _ _ _ _ (by rfl)]
      rfl
end Go.Proofs.YtgenpgfhjhcahaaGreatDoor
