/- Texts of ours, joined: Chars1, Utf3, Name1, Name2, Name3, Cref1, Ref1, Ref2, Ref3, Ref4, Ref5, Ref6, Ref7, Ref8, Ref9, Cref2, Dig, Num, LitP, Pub, Blank, Run, PlainP, NameA, Shelf2, Pfx, LibB, Bits, Whole, MiscP2, Misc1, Misc6, Misc7, Misc2, Misc3, Misc4, Misc5, Law08. -/
import Derived.Test.YthihkbcdihochaaGreatDoorRows
import Derived.WalkKit
import Derived.ProofKit
import Derived.OpenShut
import Derived.ShutString
import Derived.ChangeOld
import Derived.Below
import Derived.BigQuiet
import Derived.Deep.QuietTactic
import Derived.Lib.Hide
import Derived.Deep.RegionHeld3
import Derived.Lib.SlBytesConst
import Derived.Laws.CopyOwn
import Derived.Laws.CopyRow
import Derived.Lib.Bytes
import Derived.Deep.LoopGhost
import Derived.Deep.DeepFit
import Derived.Deep.DeepMust
import Derived.WalkSpells
import Derived.WalkLawsBesides
import Derived.Test.YthihkbcdihochaaGreatDoorC1
import Derived.Test.YthihkbcdihochaaGreatDoorC2
import Derived.Test.YthihkbcdihochaaGreatDoorC3
import Derived.Laws.EntriesVeiled
import Derived.Laws.Rows
import Derived.Shelf.Bytes.SlSmallAll
import Derived.Lib.ConvBytes
import Derived.Lib.IndexMore
import Derived.Lib.IndexLaws
import Derived.Lib.Fold
import Derived.StillTailTactics
import Derived.Deep.RegionWith
/- Runs of numbers. -/
namespace Go.Proofs.YthihkbcdihochaaGreatDoor
open Go.ChangeShapes Go.WideShapes Go.ChangeAt Go.RowKit
set_option linter.unusedVariables false
/-- A table of runs of numbers, as memory holds it. -/
def Tab (w : World) (g : Nat) (t : List (Nat × Nat)) : Prop := ∀ i (p : Nat × Nat), t[i]? = some p → w.cell? ⟨g, i * 2, none⟩ = some (.int .i64 p.1) ∧ w.cell? ⟨g, i * 2 + 1, none⟩ = some (.int .i64 p.2)
theorem Tab.lt {w : World} {g : Nat} {t : List (Nat × Nat)} (h : Tab w g t) (hn : 0 < t.length) : g < w.heap.size := World.block_lt_of_cell? w _ (h 0 _ (List.getElem?_eq_getElem hn)).1
theorem Tab.below {w w' : World} {B g : Nat} {t : List (Nat × Nat)} (h : Tab w g t) (hb : Below B w w') (hB : g < B) : Tab w' g t := fun i p hp => by rw [hb.cell hB, hb.cell hB]; exact h i p hp
def inTab (t : List (Nat × Nat)) (r : Int) : Bool := t.any fun p => decide ((p.1 : Int) ≤ r) && decide (r ≤ (p.2 : Int))
theorem in1_c (g n : Nat) (t : List (Nat × Nat)) (r : Int) (i : Nat) (lo hi : Nat) (a1 a2 : Addr) (w : World) (hi' : i < n) (hp : t[i]? = some (lo, hi)) (h1 : w.cell? a1 = some (.slice (some ⟨g, 0, none⟩) n n)) (h2 : w.cell? a2 = some (.int .i64 r)) (ht : Tab w g t) :
    Calls Tryz.prog 229 #[.int .i64 i, .pointer (some a1), .pointer (some a2)] w fun e w' => e = .returned (.bool (decide (r ≤ (hi : Int)))) ∧ ∃ q, w' = w.drewN q := by
  have hc := (ht i _ hp).2
  simp only at hc
  have hin : (i : Int) < (n : Int) := by omega
  clear ht hp hi'
  go_enter Tryz.func229, Tryz.ntmps229
  go_wp2
  go_quiet (fail)
  go_wp2
  go_ret
  exact ⟨rfl, _, rfl⟩
/-- Its runs rise. -/
def Rises (t : List (Nat × Nat)) : Prop := ∀ (i j : Nat) (p q : Nat × Nat), i ≤ j → t[i]? = some p → t[j]? = some q → p.1 ≤ q.1 ∧ p.2 ≤ q.2
theorem search_c (g n : Nat) (t : List (Nat × Nat)) (r : Int) (a1 a2 : Addr) (w : World) (hn : t.length = n) (hs : n < 1000) (hr : Rises t) (h1 : w.cell? a1 = some (.slice (some ⟨g, 0, none⟩) n n)) (h2 : w.cell? a2 = some (.int .i64 r)) (ht : Tab w g t) :
    Calls Tryz.prog 228 #[.int .i64 n, .func (.func 229) #[] #[.pointer (some a1), .pointer (some a2)]] w fun e w' => ∃ k : Nat, e = .returned (.int .i64 k) ∧ k ≤ n ∧ (∀ (i : Nat) (p : Nat × Nat), i < k → t[i]? = some p → (p.2 : Int) < r) ∧ (∀ (i : Nat) (p : Nat × Nat), k ≤ i → t[i]? = some p → r ≤ (p.2 : Int)) ∧ ∃ q, w' = w.drewN q := by
  have HF : Hid (∀ (m i : Nat), i < n → ∀ p : Nat × Nat, t[i]? = some p → Calls Tryz.prog 229 #[.int .i64 i, .pointer (some a1), .pointer (some a2)] (w.drewN m) fun e w' => e = .returned (.bool (decide (r ≤ (p.2 : Int)))) ∧ ∃ q, w' = (w.drewN m).drewN q) :=
    Lib.hid fun m i hi p hp => in1_c g n t r i p.1 p.2 a1 a2 (w.drewN m) hi hp h1 h2 ht
  have HR := Lib.hid hr
  clear hr h1 h2 ht
  go_enter Tryz.func228, Tryz.ntmps228
  go_wp2
  go_loopg [5, 6] n (fun kx s5 s6 wr => ∃ (lo hi q : Nat), s5 = .int .i64 lo ∧ s6 = .int .i64 hi ∧ lo ≤ hi ∧ hi ≤ n ∧ hi - lo ≤ kx ∧ wr = w.drewN q ∧
    Hid ((∀ (i : Nat) (p : Nat × Nat), i < lo → t[i]? = some p → (p.2 : Int) < r) ∧ (∀ (i : Nat) (p : Nat × Nat), hi ≤ i → t[i]? = some p → r ≤ (p.2 : Int))))
  case atStart => exact ⟨0, n, 0, rfl, rfl, Nat.zero_le _, Nat.le_refl _, by omega, rfl, Lib.hid ⟨fun i p hi => absurd hi (Nat.not_lt_zero _), fun i p hi hp => by rw [List.getElem?_eq_none (by omega)] at hp; cases hp⟩⟩
  case round =>
    obtain ⟨lo, hi, q, rfl, rfl, hlh, hin, hg, rfl, I⟩ := hrel
    by_cases hlt : lo < hi
    · have hml : (lo + hi) / 2 < t.length := by omega
      obtain ⟨p, hp⟩ : ∃ p : Nat × Nat, t[(lo + hi) / 2]? = some p := ⟨_, List.getElem?_eq_getElem hml⟩
      have hc := HF.out q ((lo + hi) / 2) (by omega) p hp
      have HP := Lib.hid hp
      clear hp
      rw [show (((lo + hi) / 2 : Nat) : Int) = ((lo : Int) + (hi : Int)) / 2 by omega] at hc
      by_cases hq : r ≤ (p.2 : Int)
      · rw [decide_eq_true hq] at hc
        go_wp2_with fail
        refine hc.mono ?_
        rintro e w' ⟨rfl, nq, rfl⟩
        go_wp2
        go_roundg ((lo + hi) / 2 - lo)
        case measure => omega
        case rel => exact ⟨lo, (lo + hi) / 2, q + nq, rfl, by rw [show ((lo : Int) + (hi : Int)) / 2 = (((lo + hi) / 2 : Nat) : Int) by omega], by omega, by omega, Nat.le_refl _, rfl, Lib.hid ⟨I.out.1, fun i p' hi' hp' => by have := (HR.out _ i p p' hi' HP.out hp').2; omega⟩⟩
      · rw [decide_eq_false hq] at hc
        go_wp2_with fail
        refine hc.mono ?_
        rintro e w' ⟨rfl, nq, rfl⟩
        go_wp2
        go_roundg (hi - ((lo + hi) / 2 + 1))
        case measure => omega
        case rel => exact ⟨(lo + hi) / 2 + 1, hi, q + nq, by rw [show ((lo : Int) + (hi : Int)) / 2 + 1 = (((lo + hi) / 2 + 1 : Nat) : Int) by omega], rfl, by omega, hin, Nat.le_refl _, rfl, Lib.hid ⟨fun i p' hi' hp' => by have := (HR.out i _ p' p (by omega) hp' HP.out).2; omega, I.out.2⟩⟩
    · obtain rfl : hi = lo := by omega
      go_wp2
      go_ret
      exact ⟨hi, rfl, hin, I.out.1, I.out.2, q, rfl⟩
theorem inTab_of (t : List (Nat × Nat)) (r : Int) (k : Nat) (hr : Rises t) (h1 : ∀ (i : Nat) (p : Nat × Nat), i < k → t[i]? = some p → (p.2 : Int) < r) (h2 : ∀ (i : Nat) (p : Nat × Nat), k ≤ i → t[i]? = some p → r ≤ (p.2 : Int)) :
    inTab t r = match t[k]? with | some p => decide ((p.1 : Int) ≤ r) | none => false := by
  cases hk : t[k]? with
  | none =>
    have hkl : t.length ≤ k := List.getElem?_eq_none_iff.1 hk
    simp only [inTab, List.any_eq_false, Bool.and_eq_true, decide_eq_true_eq, not_and]
    intro p hp hle
    obtain ⟨i, hi, rfl⟩ := List.getElem_of_mem hp
    have := h1 i _ (by omega) (List.getElem?_eq_getElem hi)
    omega
  | some p =>
    by_cases hle : (p.1 : Int) ≤ r
    · simp only [hle, decide_true, inTab, List.any_eq_true]
      exact ⟨p, List.mem_of_getElem? hk, by simp [hle, h2 k p (Nat.le_refl _) hk]⟩
    · simp only [hle, decide_false, inTab, List.any_eq_false, Bool.and_eq_true, decide_eq_true_eq, not_and]
      intro q hq hql
      obtain ⟨i, hi, rfl⟩ := List.getElem_of_mem hq
      rcases Nat.lt_or_ge i k with hik | hik
      · have := h1 i _ hik (List.getElem?_eq_getElem hi)
        omega
      · have := (hr k i p _ hik hk (List.getElem?_eq_getElem hi)).1
        omega
theorem in_c (g n : Nat) (t : List (Nat × Nat)) (r : Int) (w : World) (hn : t.length = n) (hs : n < 1000) (hr : Rises t) (ht : Tab w g t) (hg : g < w.heap.size) :
    Calls Tryz.prog 200 #[.slice (some ⟨g, 0, none⟩) n n, .int .i64 r] w fun e w' => e = .returned (.bool (inTab t r)) ∧ Below w.heap.size w w' := by
  go_enter Tryz.func200, Tryz.ntmps200
  have f1 : ((w.alloc (.cells #[.slice (some ⟨g, 0, none⟩) n n] 285)).alloc (.cells #[.int .i64 r] 3)).heap[w.heap.size]? = some (.cells #[.slice (some ⟨g, 0, none⟩) n n] 285) := hp_old (hp_new _ _)
  have f2 : ((w.alloc (.cells #[.slice (some ⟨g, 0, none⟩) n n] 285)).alloc (.cells #[.int .i64 r] 3)).heap[w.heap.size + 1]? = some (.cells #[.int .i64 r] 3) := by
    have := hp_new (w.alloc (.cells #[.slice (some ⟨g, 0, none⟩) n n] 285)) (.cells #[.int .i64 r] 3)
    rwa [World.size_alloc] at this
  have hb : Below w.heap.size w ((w.alloc (.cells #[.slice (some ⟨g, 0, none⟩) n n] 285)).alloc (.cells #[.int .i64 r] 3)) := Below.alloc (Below.alloc (Below.refl _ _) (Nat.le_refl _) _) (by simp) _
  have ht2 := Lib.hid (ht.below hb hg)
  have HB := Lib.hid hb
  have HR := Lib.hid hr
  clear ht hb hr
  go_wp2_with fail
  generalize hw2 : ((w.alloc (.cells #[.slice (some ⟨g, 0, none⟩) n n] 285)).alloc (.cells #[.int .i64 r] 3)) = w2 at *
  refine (search_c g n t r ⟨w.heap.size, 0, none⟩ ⟨w.heap.size + 1, 0, none⟩ w2 hn hs HR.out (by rw [cell_of _ f1]; rfl) (by rw [cell_of _ f2]; rfl) ht2.out).mono ?_
  rintro e w1 ⟨k, rfl, hk, h1, h2, q, rfl⟩
  have hin := inTab_of t r k HR.out h1 h2
  have HI := Lib.hid hin
  clear hin h1 h2 hw2
  have g1 : (w2.drewN q).cell? ⟨w.heap.size, 0, none⟩ = some (.slice (some ⟨g, 0, none⟩) n n) := by rw [cell_of (w := w2.drewN q) 0 f1]; rfl
  have g2 : (w2.drewN q).cell? ⟨w.heap.size + 1, 0, none⟩ = some (.int .i64 r) := by rw [cell_of (w := w2.drewN q) 0 f2]; rfl
  have HB3 := Lib.hid (below_drewN' (n := q) HB.out)
  have ht3 : Hid (Tab (w2.drewN q) g t) := Lib.hid fun i p hp => ht2.out i p hp
  clear f1 f2 ht2 HB
  generalize w2.drewN q = w3 at *
  by_cases hkn : k < n
  · have hkn' : (k : Int) < (n : Int) := by omega
    obtain ⟨p, hp⟩ : ∃ p : Nat × Nat, t[k]? = some p := ⟨_, List.getElem?_eq_getElem (by omega)⟩
    have hcell := (ht3.out k p hp).1
    have HI2 : Hid (inTab t r = decide ((p.1 : Int) ≤ r)) := by have := HI.out; rw [hp] at this; exact Lib.hid this
    clear HI hp hkn
    go_wp2
    go_quiet (fail)
    go_wp2
    go_ret
    exact ⟨by rw [HI2.out]; rfl, below_drewN' HB3.out⟩
  · have HI2 : Hid (inTab t r = false) := by have := HI.out; rw [List.getElem?_eq_none (by omega)] at this; exact Lib.hid this
    have hd : decide (k < n) = false := by simpa using hkn
    have hkn' : (n : Int) ≤ (k : Int) := by omega
    clear HI hkn
    go_wp2
    go_quiet (fail)
    go_wp2
    go_ret
    exact ⟨by rw [HI2.out]; rfl, below_drewN' HB3.out⟩
def tabDocs : List (Nat × Nat) := [(9, 10), (13, 13), (32, 55295), (57344, 65533), (65536, 1114111)]
def tabStarts : List (Nat × Nat) := [(58, 58), (65, 90), (95, 95), (97, 122), (192, 214), (216, 246), (248, 767), (880, 893), (895, 8191), (8204, 8205), (8304, 8591), (11264, 12271), (12289, 55295), (63744, 64975), (65008, 65533), (65536, 983039)]
def tabMore : List (Nat × Nat) := [(45, 46), (48, 57), (183, 183), (768, 879), (8255, 8256)]
def risesB : List (Nat × Nat) → Bool
  | p :: q :: t => decide (p.1 ≤ q.1) && decide (p.2 ≤ q.2) && risesB (q :: t)
  | _ => true
theorem rises_of : ∀ t, risesB t = true → Rises t := by
  intro t
  induction t with
  | nil => intro _ i j p q _ h; simp at h
  | cons x t ih =>
    intro h
    have ht : risesB t = true := by
      cases t with
      | nil => rfl
      | cons y t => simp only [risesB, Bool.and_eq_true] at h; exact h.2
    have hR := ih ht
    have hx : ∀ (j : Nat) (q : Nat × Nat), t[j]? = some q → x.1 ≤ q.1 ∧ x.2 ≤ q.2 := by
      cases t with
      | nil => intro j q hq; simp at hq
      | cons y t =>
        intro j q hq
        simp only [risesB, Bool.and_eq_true, decide_eq_true_eq] at h
        have := hR 0 j y q (Nat.zero_le _) rfl hq
        omega
    intro i j p q hij hp hq
    cases i with
    | zero =>
      cases Option.some.inj hp
      cases j with
      | zero => cases Option.some.inj hq; exact ⟨Nat.le_refl _, Nat.le_refl _⟩
      | succ j => exact hx j q (by simpa using hq)
    | succ i =>
      cases j with
      | zero => omega
      | succ j => exact hR i j p q (by omega) (by simpa using hp) (by simpa using hq)
/-- The tables of characters, as memory holds them. -/
structure Tabs (w : World) : Prop where
  docs : Tab w 3 tabDocs
  starts : Tab w 12 tabStarts
  more : Tab w 13 tabMore
/-- Every variable that is laid lies below B. -/
def Low (B : Nat) : Prop := 3 < B ∧ 12 < B ∧ 13 < B ∧ 0 < B
theorem Tabs.low {w : World} (h : Tabs w) (hF : Forms w) : Low w.heap.size := ⟨h.docs.lt (by decide), h.starts.lt (by decide), h.more.lt (by decide), hF.lt⟩
theorem Tabs.below {w w' : World} {B : Nat} (h : Tabs w) (hb : Below B w w') (hB : Low B) : Tabs w' := ⟨h.docs.below hb hB.1, h.starts.below hb hB.2.1, h.more.below hb hB.2.2.1⟩
theorem Tabs.drewN {w : World} (h : Tabs w) (n : Nat) : Tabs (w.drewN n) := ⟨fun i p hp => h.docs i p hp, fun i p hp => h.starts i p hp, fun i p hp => h.more i p hp⟩
/-- The tables of names alone. -/
structure TabN (w : World) : Prop where
  starts : Tab w 12 tabStarts
  more : Tab w 13 tabMore
def LowN (B : Nat) : Prop := 12 < B ∧ 13 < B ∧ 0 < B
theorem TabN.low {w : World} (h : TabN w) (hF : Forms w) : LowN w.heap.size := ⟨h.starts.lt (by decide), h.more.lt (by decide), hF.lt⟩
theorem TabN.below {w w' : World} {B : Nat} (h : TabN w) (hb : Below B w w') (hB : LowN B) : TabN w' := ⟨h.starts.below hb hB.1, h.more.below hb hB.2.1⟩
theorem TabN.drewN {w : World} (h : TabN w) (n : Nat) : TabN (w.drewN n) := ⟨fun i p hp => h.starts i p hp, fun i p hp => h.more i p hp⟩
theorem Tabs.n {w : World} (h : Tabs w) : TabN w := ⟨h.starts, h.more⟩
def isDoc (r : Int) : Bool := inTab tabDocs r
def isStart (r : Int) : Bool := inTab tabStarts r
def isMore (r : Int) : Bool := isStart r || inTab tabMore r
theorem char_c (r : Int) (w : World) (h : Tabs w) : Calls Tryz.prog 173 #[.int .i64 r] w fun e w' => e = .returned (.bool (isDoc r)) ∧ Below w.heap.size w w' := by
  have hc := in_c _ 5 tabDocs r w rfl (by decide) (rises_of _ (by decide)) h.docs (h.docs.lt (by decide))
  have HH := Lib.hid h
  clear h
  go_enter Tryz.func173, Tryz.ntmps173
  go_wp2_with fail
  refine hc.mono ?_
  rintro e w1 ⟨rfl, hb⟩
  go_wp2
  go_ret
  exact ⟨rfl, hb⟩
theorem nameStart_c (r : Int) (w : World) (h : TabN w) : Calls Tryz.prog 254 #[.int .i64 r] w fun e w' => e = .returned (.bool (isStart r)) ∧ Below w.heap.size w w' := by
  have hc := in_c _ 16 tabStarts r w rfl (by decide) (rises_of _ (by decide)) h.starts (h.starts.lt (by decide))
  have HH := Lib.hid h
  clear h
  go_enter Tryz.func254, Tryz.ntmps254
  go_wp2_with fail
  refine hc.mono ?_
  rintro e w1 ⟨rfl, hb⟩
  go_wp2
  go_ret
  exact ⟨rfl, hb⟩
theorem nameChar_c (r : Int) (w : World) (h : TabN w) (hL : LowN w.heap.size) : Calls Tryz.prog 255 #[.int .i64 r] w fun e w' => e = .returned (.bool (isMore r)) ∧ Below w.heap.size w w' := by
  have HH := Lib.hid h
  have HL := Lib.hid hL
  have hs := nameStart_c r w h
  have hm : ∀ w1, Below w.heap.size w w1 → Calls Tryz.prog 200 #[.slice (some ⟨13, 0, none⟩) 5 5, .int .i64 r] w1 fun e w' => e = .returned (.bool (inTab tabMore r)) ∧ Below w1.heap.size w1 w' := fun w1 hb =>
    in_c _ 5 tabMore r w1 rfl (by decide) (rises_of _ (by decide)) (h.below hb hL).more ((h.below hb hL).more.lt (by decide))
  have HM := Lib.hid hm
  clear h hL hm
  unfold isMore
  cases he : isStart r with
  | true =>
    rw [he] at hs
    have HE := Lib.hid he
    clear he
    go_enter Tryz.func255, Tryz.ntmps255
    go_wp2_with fail
    refine hs.mono ?_
    rintro e w1 ⟨rfl, hb⟩
    go_wp2
    go_ret
    exact ⟨rfl, hb⟩
  | false =>
    rw [he] at hs
    have HE := Lib.hid he
    clear he
    go_enter Tryz.func255, Tryz.ntmps255
    go_wp2_with fail
    refine hs.mono ?_
    rintro e w1 ⟨rfl, hb⟩
    go_wp2_with fail
    refine (HM.out w1 hb).mono ?_
    rintro e w2 ⟨rfl, hb2⟩
    go_wp2
    go_ret
    exact ⟨rfl, hb.trans (hb2.mono hb.size)⟩
end Go.Proofs.YthihkbcdihochaaGreatDoor
/- utf.Decode whole. -/
namespace Go.Proofs.YthihkbcdihochaaGreatDoor
open Go.ChangeShapes Go.WideShapes Go.ChangeAt Go.RowKit
set_option linter.unusedVariables false
theorem decode_short (A : Option Addr) (n cap : Nat) (l : List UInt8) (k : Nat) (w : World) (B : Nat) (h : Byt w B A n cap l) (hF : Forms w) (hk : k < n) (hm : n ≤ 1100000) (c : UInt8) (hc : l[k]? = some c) (hl : lenB c.toNat = 0 ∨ n < k + lenB c.toNat) :
    Calls Tryz.prog 268 #[.slice A n cap, .int .i64 k] w fun e w' => e = .returned (decOut k none) ∧ ∃ q, w' = w.drewN q := by
  obtain ⟨b, o, c', rfl, hb, hc', hcell⟩ := h.cell hk
  obtain rfl : c' = c := by rw [hc] at hc'; exact (Option.some.inj hc').symm
  have hkn : (k : Int) < (n : Int) := by omega
  have hl4 := lenB_le c'.toNat
  clear hc hc' hF
  by_cases h0 : lenB c'.toNat = 0
  · have hL := Lib.hid h0
    clear hl h0 hl4
    go_enter Tryz.func268, Tryz.ntmps268
    go_wp2_with fail
    refine (length_c c' w).mono ?_
    rintro e w1 ⟨rfl, rfl⟩
    rw [hL.out]
    go_wp2
    go_ret3
    exact ⟨rfl, 0, rfl⟩
  · have hlt : n < k + lenB c'.toNat := by omega
    have hh : (n : Int) - (k : Int) < (lenB c'.toNat : Int) := by omega
    have h0' : ¬ ((lenB c'.toNat : Nat) : Int) = 0 := by omega
    have hz : (((lenB c'.toNat : Nat) : Int) == 0) = false := by simpa using h0'
    clear hl hlt
    go_enter Tryz.func268, Tryz.ntmps268
    go_wp2_with fail
    refine (length_c c' w).mono ?_
    rintro e w1 ⟨rfl, rfl⟩
    generalize lenB c'.toNat = L at *
    go_wp2
    go_ret3
    exact ⟨rfl, 0, rfl⟩
theorem dec_none (l : List UInt8) (k : Nat) (c : UInt8) (hc : l[k]? = some c) (hl : lenB c.toNat = 0 ∨ l.length < k + lenB c.toNat) : dec (l.drop k) = none := by
  have hk : k < l.length := by
    rcases Nat.lt_or_ge k l.length with h | h
    · exact h
    · rw [List.getElem?_eq_none h] at hc; cases hc
  rw [List.getElem?_eq_getElem hk] at hc
  rw [List.drop_eq_getElem_cons hk, Option.some.inj hc]
  simp only [dec]
  rw [if_pos]
  rcases hl with h | h
  · exact Or.inl h
  · exact Or.inr (by simp; omega)
/-- utf.Decode at a place of the bytes. -/
theorem decode_c (A : Option Addr) (n cap : Nat) (l : List UInt8) (k : Nat) (w : World) (B : Nat) (h : Byt w B A n cap l) (hF : Forms w) (hk : k < n) (hm : n ≤ 1100000) :
    Calls Tryz.prog 268 #[.slice A n cap, .int .i64 k] w fun e w' => e = .returned (decOut k (dec (l.drop k))) ∧ ∃ q, w' = w.drewN q := by
  have hlen := h.length
  have hkl : k < l.length := by omega
  obtain ⟨c, hc⟩ : ∃ c, l[k]? = some c := ⟨_, List.getElem?_eq_getElem hkl⟩
  by_cases hs : lenB c.toNat = 0 ∨ n < k + lenB c.toNat
  · rw [dec_none l k c hc (by rw [hlen]; exact hs)]
    exact decode_short A n cap l k w B h hF hk hm c hc hs
  · simp only [not_or] at hs
    have h4 := lenB_le c.toNat
    rcases (show lenB c.toNat = 1 ∨ lenB c.toNat = 2 ∨ lenB c.toNat = 3 ∨ lenB c.toNat = 4 by omega) with e | e | e | e
    · exact decode_1 A n cap l k w B h hF hk hm c hc e (by omega)
    · exact decode_2 A n cap l k w B h hF hk hm c hc e (by omega)
    · exact decode_3 A n cap l k w B h hF hk hm c hc e (by omega)
    · exact decode_4 A n cap l k w B h hF hk hm c hc e (by omega)
end Go.Proofs.YthihkbcdihochaaGreatDoor
/- Names. -/
namespace Go.Proofs.YthihkbcdihochaaGreatDoor
open Go.ChangeShapes Go.WideShapes Go.ChangeAt Go.RowKit
set_option linter.unusedVariables false
/-- What a function of a number says, whatever has come behind block B since. -/
def Says (fn : Nat) (cb : Array Value) (B : Nat) (w0 : World) (f : Int → Bool) : Prop :=
  ∀ (w1 : World) (r : Int), Below B w0 w1 → Calls Tryz.prog fn (#[.int .i64 r] ++ cb) w1 fun e w' => e = .returned (.bool (f r)) ∧ Below w1.heap.size w1 w'
theorem Says.below {fn : Nat} {cb : Array Value} {B : Nat} {w0 w1 : World} {f : Int → Bool} (h : Says fn cb B w0 f) (hb : Below B w0 w1) : Says fn cb B w1 f := fun w2 r h2 => h w2 r (hb.trans h2)
theorem Says.more {fn : Nat} {cb : Array Value} {B B' : Nat} {w0 : World} {f : Int → Bool} (h : Says fn cb B w0 f) (hB : B ≤ B') : Says fn cb B' w0 f := fun w2 r h2 => h w2 r (h2.mono hB)
/-- But for a colon. -/
def noColon (f : Int → Bool) (r : Int) : Bool := decide (r ≠ 58) && f r
theorem is1_c (fn : Nat) (f : Int → Bool) (a : Nat) (B : Nat) (w0 : World) (hfn : ∀ args w, (callFunc fn args).run Tryz.prog w = .ok (.enter fn args) w) (ha : w0.cell? ⟨a, 0, none⟩ = some (.func (.func fn) #[] #[])) (haB : a < B) (hs : Says fn #[] B w0 f) :
    Says 267 #[.pointer (some ⟨a, 0, none⟩)] B w0 (noColon f) := by
  intro w1 r hb
  have hc : w1.cell? ⟨a, 0, none⟩ = some (.func (.func fn) #[] #[]) := by rw [hb.cell haB]; exact ha
  have hcall := hs w1 r hb
  clear hs ha hb
  unfold noColon
  show Calls Tryz.prog 267 #[.int .i64 r, .pointer (some ⟨a, 0, none⟩)] w1 _
  by_cases h58 : r = 58
  · subst h58
    clear hcall
    go_enter Tryz.func267, Tryz.ntmps267
    go_wp2
    go_ret
    exact ⟨rfl, Below.refl _ _⟩
  · have hne : (r != 58) = true := by simpa using h58
    have hd : decide (r ≠ 58) = true := by simpa using h58
    rw [hd]
    clear hd
    go_enter Tryz.func267, Tryz.ntmps267
    go_wp2_with fail
    refine hcall.mono ?_
    rintro e w2 ⟨rfl, hb2⟩
    go_wp2
    go_ret
    exact ⟨rfl, hb2⟩
theorem isF_c (fn : Nat) (w : World) : Calls Tryz.prog 253 #[.func (.func fn) #[] #[]] w fun e w' => e = .returned (.func (.func 267) #[] #[.pointer (some ⟨w.heap.size, 0, none⟩)]) ∧ w' = w.alloc (.cells #[.func (.func fn) #[] #[]] 117) := by
  go_enter Tryz.func253, Tryz.ntmps253
  go_wp2
  go_ret
  exact ⟨rfl, rfl⟩
/-- The sort of names without a colon, as its two functions. -/
def plainsV (a b : Nat) : Value := .agg #[.func (.func 267) #[] #[.pointer (some ⟨a, 0, none⟩)], .func (.func 267) #[] #[.pointer (some ⟨b, 0, none⟩)]]
def isStructB (P : Program) (t : TypeId) : Bool := match P.underlying t with | some (.struct _) => true | _ => false
theorem isStruct_of {P : Program} {t : TypeId} (h : isStructB P t = true) : ∃ d, P.underlying t = some (.struct d) := by
  unfold isStructB at h
  split at h
  · exact ⟨_, by assumption⟩
  · cases h
theorem plains_c (w : World) (h : TabN w) (hL : LowN w.heap.size) : Calls Tryz.prog 230 #[] w fun e w' => ∃ a b, e = .returned (plainsV a b) ∧ Below w.heap.size w w' ∧
    Says 267 #[.pointer (some ⟨a, 0, none⟩)] w'.heap.size w' (noColon isStart) ∧ Says 267 #[.pointer (some ⟨b, 0, none⟩)] w'.heap.size w' (noColon isMore) := by
  have HH := Lib.hid (And.intro h hL)
  clear h hL
  go_enter Tryz.func230, Tryz.ntmps230
  go_wp2_with fail
  refine (isF_c 254 _).mono ?_
  rintro e w1 ⟨rfl, rfl⟩
  go_wp2_with fail
  refine (isF_c 255 _).mono ?_
  rintro e w2 ⟨rfl, rfl⟩
  have f0 : (((w.alloc (.cells #[.nilFunc, .nilFunc] 304)).alloc (.cells #[.func (.func 254) #[] #[]] 117)).alloc (.cells #[.func (.func 255) #[] #[]] 117)).heap[w.heap.size]? = some (.cells #[.nilFunc, .nilFunc] 304) := hp_old (hp_old (hp_new _ _))
  have f1 : (((w.alloc (.cells #[.nilFunc, .nilFunc] 304)).alloc (.cells #[.func (.func 254) #[] #[]] 117)).alloc (.cells #[.func (.func 255) #[] #[]] 117)).heap[w.heap.size + 1]? = some (.cells #[.func (.func 254) #[] #[]] 117) := by
    have := hp_new (w.alloc (.cells #[.nilFunc, .nilFunc] 304)) (.cells #[.func (.func 254) #[] #[]] 117)
    rw [World.size_alloc] at this
    exact hp_old this
  have f2 : (((w.alloc (.cells #[.nilFunc, .nilFunc] 304)).alloc (.cells #[.func (.func 254) #[] #[]] 117)).alloc (.cells #[.func (.func 255) #[] #[]] 117)).heap[w.heap.size + 1 + 1]? = some (.cells #[.func (.func 255) #[] #[]] 117) := by
    have := hp_new ((w.alloc (.cells #[.nilFunc, .nilFunc] 304)).alloc (.cells #[.func (.func 254) #[] #[]] 117)) (.cells #[.func (.func 255) #[] #[]] 117)
    rw [World.size_alloc, World.size_alloc] at this
    exact this
  have hb : Below w.heap.size w (((w.alloc (.cells #[.nilFunc, .nilFunc] 304)).alloc (.cells #[.func (.func 254) #[] #[]] 117)).alloc (.cells #[.func (.func 255) #[] #[]] 117)) := Below.alloc (Below.alloc (Below.alloc (Below.refl _ _) (Nat.le_refl _) _) (by simp) _) (by simp; omega) _
  have hsz : (((w.alloc (.cells #[.nilFunc, .nilFunc] 304)).alloc (.cells #[.func (.func 254) #[] #[]] 117)).alloc (.cells #[.func (.func 255) #[] #[]] 117)).heap.size = w.heap.size + 3 := by simp
  rw [World.size_alloc, World.size_alloc]
  generalize ((w.alloc (.cells #[.nilFunc, .nilFunc] 304)).alloc (.cells #[.func (.func 254) #[] #[]] 117)).alloc (.cells #[.func (.func 255) #[] #[]] 117) = w3 at *
  have HB := Lib.hid (And.intro hb hsz)
  have F1 := Lib.hid f1
  have F2 := Lib.hid f2
  clear hb hsz f1 f2
  have z0 : w3.cell? ⟨w.heap.size, 0, none⟩ = some .nilFunc := by rw [cell_of 0 f0]; rfl
  have z1 : w3.cell? ⟨w.heap.size, 1, none⟩ = some .nilFunc := by rw [cell_of 1 f0]; rfl
  have y0 : w3.frozen? ⟨w.heap.size, 0, none⟩ = false := free_of 0 f0
  have y1 : w3.frozen? ⟨w.heap.size, 1, none⟩ = false := free_of 1 f0
  go_wp2
  have hF := hp_set (i := 1) (v := .func (.func 267) #[] #[.pointer (some ⟨w.heap.size + 1 + 1, 0, none⟩)]) (hp_set (i := 0) (v := .func (.func 267) #[] #[.pointer (some ⟨w.heap.size + 1, 0, none⟩)]) f0)
  have hi : (Tryz.prog.info? 304).map (·.size) = some 2 := by kernel_rfl
  obtain ⟨d, hu⟩ := isStruct_of (P := Tryz.prog) (t := 304) (by kernel_rfl)
  (try simp only [Exit.inBlock, Exit.then])
  refine bodyPost_ret (results_cell_row rfl _ _ w.heap.size _ _ _ _ rfl hF hu rfl hi) rfl ?_
  have hbb := Below.setCell (p := ⟨w.heap.size, 1, none⟩) (Below.setCell (p := ⟨w.heap.size, 0, none⟩) HB.out.1 (Nat.le_refl _) (.func (.func 267) #[] #[.pointer (some ⟨w.heap.size + 1, 0, none⟩)])) (Nat.le_refl _) (.func (.func 267) #[] #[.pointer (some ⟨w.heap.size + 1 + 1, 0, none⟩)])
  have h1 := F1.out
  have h2 := F2.out
  have hs3 := HB.out.2
  rw [← hp_other (w := w3) (b := w.heap.size) (i := 0) (v := .func (.func 267) #[] #[.pointer (some ⟨w.heap.size + 1, 0, none⟩)]) (by omega), ← hp_other (b := w.heap.size) (i := 1) (v := .func (.func 267) #[] #[.pointer (some ⟨w.heap.size + 1 + 1, 0, none⟩)]) (by omega)] at h1 h2
  have hsz : ((w3.setCell ⟨w.heap.size, 0, none⟩ (.func (.func 267) #[] #[.pointer (some ⟨w.heap.size + 1, 0, none⟩)])).setCell ⟨w.heap.size, 1, none⟩ (.func (.func 267) #[] #[.pointer (some ⟨w.heap.size + 1 + 1, 0, none⟩)])).heap.size = w.heap.size + 3 := by simp [hs3]
  generalize ((w3.setCell ⟨w.heap.size, 0, none⟩ (.func (.func 267) #[] #[.pointer (some ⟨w.heap.size + 1, 0, none⟩)])).setCell ⟨w.heap.size, 1, none⟩ (.func (.func 267) #[] #[.pointer (some ⟨w.heap.size + 1 + 1, 0, none⟩)])) = w4 at *
  have hT := HH.out.1.below hbb HH.out.2
  have hL : LowN w4.heap.size := by have := HH.out.2; unfold LowN at *; omega
  refine ⟨w.heap.size + 1, w.heap.size + 1 + 1, rfl, hbb, ?_, ?_⟩
  · exact is1_c 254 isStart _ _ w4 (enters_of Tryz.func254 (by kernel_rfl) rfl) (by rw [cell_of _ h1]; rfl) (by omega) fun w5 r hb => nameStart_c r w5 (hT.below hb hL)
  · exact is1_c 255 isMore _ _ w4 (enters_of Tryz.func255 (by kernel_rfl) rfl) (by rw [cell_of _ h2]; rfl) (by omega) fun w5 r hb => nameChar_c r w5 (hT.below hb hL) (by have := hb.size; unfold LowN at *; omega)
end Go.Proofs.YthihkbcdihochaaGreatDoor
/- Names: the end. -/
namespace Go.Proofs.YthihkbcdihochaaGreatDoor
open Go.ChangeShapes Go.WideShapes Go.ChangeAt Go.RowKit
set_option linter.unusedVariables false
/-- How many bytes a name has: f: what may begin it; g: what may follow. -/
def endL (f g : Int → Bool) : Nat → List UInt8 → Nat
  | 0, _ => 0
  | k + 1, l => match dec l with
    | some (r, n) => if f r then n + endL g g k (l.drop n) else 0
    | none => 0
theorem endL_le (k : Nat) : ∀ (f g : Int → Bool) (l : List UInt8), endL f g k l ≤ l.length := by
  induction k with
  | zero => intro f g l; exact Nat.zero_le _
  | succ k ih =>
    intro f g l
    simp only [endL]
    split
    · rename_i r n h
      have := dec_le l r n h
      split
      · have := ih g g (l.drop n)
        rw [List.length_drop] at this
        omega
      · omega
    · omega
theorem endL_none (f g : Int → Bool) (k : Nat) (l : List UInt8) (h : dec l = none) : endL f g k l = 0 := by
  cases k with
  | zero => rfl
  | succ k => simp [endL, h]
theorem endL_no (f g : Int → Bool) (k : Nat) (l : List UInt8) (r n : Nat) (h : dec l = some (r, n)) (hf : f r = false) : endL f g k l = 0 := by
  cases k with
  | zero => rfl
  | succ k => simp [endL, h, hf]
theorem endL_yes (f g : Int → Bool) (k : Nat) (l : List UInt8) (r n : Nat) (h : dec l = some (r, n)) (hf : f r = true) : endL f g (k + 1) l = n + endL g g k (l.drop n) := by
  simp [endL, h, hf]
set_option maxHeartbeats 2000000 in
theorem end_c (f g : Int → Bool) (a b : Nat) (A : Option Addr) (n cap : Nat) (l : List UInt8) (at_ : Nat) (w : World) (h : Byt w w.heap.size A n cap l) (hF : Forms w) (hm : n ≤ 100000) (hat : at_ ≤ n)
    (hf : Says 267 #[.pointer (some ⟨a, 0, none⟩)] w.heap.size w f) (hg : Says 267 #[.pointer (some ⟨b, 0, none⟩)] w.heap.size w g) :
    Calls Tryz.prog 256 #[plainsV a b, .slice A n cap, .int .i64 at_] w fun e w' => e = .returned (.int .i64 ((at_ + endL f g n (l.drop at_) : Nat))) ∧ Below w.heap.size w w' := by
  have HB0 := Lib.hid (And.intro h (And.intro hF hF.lt))
  have HS := Lib.hid (And.intro hf hg)
  have hln := Lib.hid h.length
  clear h hF hf hg
  unfold plainsV
  go_enter Tryz.func256, Tryz.ntmps256
  have f0 := hp_new w (.cells #[.func (.func 267) #[] #[.pointer (some ⟨a, 0, none⟩)], .func (.func 267) #[] #[.pointer (some ⟨b, 0, none⟩)]] 304)
  have z0 := cell_of 0 f0
  have z1 := cell_of 1 f0
  have hb0 : Hid (Below w.heap.size w (w.alloc (.cells #[.func (.func 267) #[] #[.pointer (some ⟨a, 0, none⟩)], .func (.func 267) #[] #[.pointer (some ⟨b, 0, none⟩)]] 304))) := Lib.hid (Below.alloc (Below.refl _ _) (Nat.le_refl _) _)
  have hsz : (w.alloc (.cells #[.func (.func 267) #[] #[.pointer (some ⟨a, 0, none⟩)], .func (.func 267) #[] #[.pointer (some ⟨b, 0, none⟩)]] 304)).heap.size = w.heap.size + 1 := by simp
  have z1' : Hid ((w.alloc (.cells #[.func (.func 267) #[] #[.pointer (some ⟨a, 0, none⟩)], .func (.func 267) #[] #[.pointer (some ⟨b, 0, none⟩)]] 304)).cell? ⟨w.heap.size, 1, none⟩ = some (.func (.func 267) #[] #[.pointer (some ⟨b, 0, none⟩)])) := Lib.hid z1
  clear f0 z1
  go_wp2
  generalize hw0 : w.alloc (.cells #[.func (.func 267) #[] #[.pointer (some ⟨a, 0, none⟩)], .func (.func 267) #[] #[.pointer (some ⟨b, 0, none⟩)]] 304) = w0 at *
  clear hw0 z0
  go_loopg [2, 7] (n - at_) (fun kx s2 s7 wr => ∃ (p K c : Nat) (fc : Int → Bool), s2 = .int .i64 p ∧ s7 = .func (.func 267) #[] #[.pointer (some ⟨c, 0, none⟩)] ∧ p ≤ n ∧ kx = n - p ∧ n - p ≤ K ∧
    Hid (at_ + endL f g n (l.drop at_) = p + endL fc g K (l.drop p)) ∧ Hid (Says 267 #[.pointer (some ⟨c, 0, none⟩)] w.heap.size w fc) ∧ Hid (Below w.heap.size w wr) ∧ w.heap.size < wr.heap.size ∧
    Hid (wr.cell? ⟨w.heap.size, 1, none⟩ = some (.func (.func 267) #[] #[.pointer (some ⟨b, 0, none⟩)])))
  case atStart => exact ⟨at_, n, a, f, rfl, rfl, hat, rfl, by omega, Lib.hid rfl, Lib.hid HS.out.1, hb0, by omega, z1'⟩
  case round =>
    obtain ⟨p, K, c, fc, rfl, rfl, hp, hk, hK, HE, HC, HB, hsr, HZ⟩ := hrel
    by_cases hlt : p < n
    · have hlt' : (p : Int) < (n : Int) := by omega
      have hd := decode_c A n cap l p wr w.heap.size (HB0.out.1.below HB.out) (HB0.out.2.1.below HB.out HB0.out.2.2) hlt (by omega)
      cases hdec : dec (l.drop p) with
      | none =>
        rw [hdec] at hd
        have HD := Lib.hid hdec
        clear hdec
        go_wp2_with fail
        refine hd.mono ?_
        rintro e w1 ⟨rfl, q, rfl⟩
        simp only [decOut]
        go_wp2
        go_ret
        exact ⟨by rw [HE.out, endL_none _ _ _ _ HD.out]; rfl, below_drewN' HB.out⟩
      | some v =>
        obtain ⟨r, m⟩ := v
        rw [hdec] at hd
        have HD := Lib.hid hdec
        have hle := dec_le _ r m hdec
        rw [List.length_drop, hln.out] at hle
        have hcall := HC.out (wr.drewN 0) r (below_drewN' HB.out)
        clear hdec
        have HX := Lib.hid HC.out
        clear hcall
        cases hfr : fc r with
        | false =>
          go_wp2_with fail
          refine hd.mono ?_
          rintro e w1 ⟨rfl, q, rfl⟩
          simp only [decOut]
          have hcall := HC.out (wr.drewN q) r (below_drewN' HB.out)
          rw [hfr] at hcall
          have HR := Lib.hid hfr
          clear hfr
          go_wp2_with fail
          refine hcall.mono ?_
          rintro e w2 ⟨rfl, hb2⟩
          go_wp2
          go_ret
          exact ⟨by rw [HE.out, endL_no _ _ _ _ _ _ HD.out HR.out]; rfl, (below_drewN' HB.out).trans (hb2.mono (by show w.heap.size ≤ wr.heap.size; omega))⟩
        | true =>
          go_wp2_with fail
          refine hd.mono ?_
          rintro e w1 ⟨rfl, q, rfl⟩
          simp only [decOut]
          have hcall := HC.out (wr.drewN q) r (below_drewN' HB.out)
          rw [hfr] at hcall
          have HR := Lib.hid hfr
          clear hfr
          go_wp2_with fail
          refine hcall.mono ?_
          rintro e w2 ⟨rfl, hb2⟩
          have hz2 : w2.cell? ⟨w.heap.size, 1, none⟩ = some (.func (.func 267) #[] #[.pointer (some ⟨b, 0, none⟩)]) := by rw [hb2.cell (by show w.heap.size < wr.heap.size; omega)]; exact HZ.out
          have HB2 := Lib.hid ((below_drewN' (n := q) HB.out).trans (hb2.mono (by show w.heap.size ≤ wr.heap.size; omega)))
          have hs2 : w.heap.size < w2.heap.size := by have := hb2.size; have : wr.heap.size ≤ w2.heap.size := this; omega
          clear hb2
          go_wp2
          go_quiet (fail)
          have hz3 : Hid ((w2.drewN nq).cell? ⟨w.heap.size, 1, none⟩ = some (.func (.func 267) #[] #[.pointer (some ⟨b, 0, none⟩)])) := Lib.hid hz2
          go_wp2
          go_roundg (n - (p + m))
          case measure => omega
          case rel =>
            refine ⟨p + m, K - 1, b, g, rfl, rfl, by omega, rfl, by omega, Lib.hid ?_, Lib.hid HS.out.2, Lib.hid (below_drewN' HB2.out), hs2, hz3⟩
            have := endL_yes fc g (K - 1) _ r m HD.out HR.out
            rw [show K - 1 + 1 = K by omega, List.drop_drop] at this
            rw [HE.out, this]
            omega
    · obtain rfl : p = n := by omega
      go_wp2
      go_ret
      refine ⟨?_, HB.out⟩
      rw [HE.out, List.drop_of_length_le (by rw [hln.out]; exact Nat.le_refl _), endL_none _ _ _ _ (by rfl)]
      rfl
end Go.Proofs.YthihkbcdihochaaGreatDoor
/- Names: read. -/
namespace Go.Proofs.YthihkbcdihochaaGreatDoor
open Go.ChangeShapes Go.WideShapes Go.ChangeAt Go.RowKit
set_option linter.unusedVariables false
end Go.Proofs.YthihkbcdihochaaGreatDoor
/- References: by a mark. -/
namespace Go.Proofs.YthihkbcdihochaaGreatDoor
open Go.ChangeShapes Go.WideShapes Go.ChangeAt Go.RowKit
set_option linter.unusedVariables false
end Go.Proofs.YthihkbcdihochaaGreatDoor
/- The document's characters. -/
namespace Go.Proofs.YthihkbcdihochaaGreatDoor
open Go.ChangeShapes Go.WideShapes Go.ChangeAt Go.RowKit
set_option linter.unusedVariables false
end Go.Proofs.YthihkbcdihochaaGreatDoor
/- The document's beginnings of names. -/
namespace Go.Proofs.YthihkbcdihochaaGreatDoor
open Go.ChangeShapes Go.WideShapes Go.ChangeAt Go.RowKit
set_option linter.unusedVariables false
end Go.Proofs.YthihkbcdihochaaGreatDoor
/- The document's character at a place: its parts. -/
namespace Go.Proofs.YthihkbcdihochaaGreatDoor
open Go.ChangeShapes Go.WideShapes Go.ChangeAt Go.RowKit
set_option linter.unusedVariables false
end Go.Proofs.YthihkbcdihochaaGreatDoor
/- The document's character at a place: the plain law. -/
namespace Go.Proofs.YthihkbcdihochaaGreatDoor
open Go.ChangeShapes Go.WideShapes Go.ChangeAt Go.RowKit
set_option linter.unusedVariables false
def mk (least N r : Nat) : Option (Nat × Nat) := if least ≤ r ∧ isR r = true then some (r, N) else none
end Go.Proofs.YthihkbcdihochaaGreatDoor
/- The document's character at a place: the walk. -/
namespace Go.Proofs.YthihkbcdihochaaGreatDoor
open Go.ChangeShapes Go.WideShapes Go.ChangeAt Go.RowKit
set_option linter.unusedVariables false
end Go.Proofs.YthihkbcdihochaaGreatDoor
/- The document's name characters. -/
namespace Go.Proofs.YthihkbcdihochaaGreatDoor
open Go.ChangeShapes Go.WideShapes Go.ChangeAt Go.RowKit
set_option linter.unusedVariables false
end Go.Proofs.YthihkbcdihochaaGreatDoor
/- The document's names: the end. -/
namespace Go.Proofs.YthihkbcdihochaaGreatDoor
open Go.ChangeShapes Go.WideShapes Go.ChangeAt Go.RowKit
set_option linter.unusedVariables false
end Go.Proofs.YthihkbcdihochaaGreatDoor
/- The document's names: read. -/
namespace Go.Proofs.YthihkbcdihochaaGreatDoor
open Go.ChangeShapes Go.WideShapes Go.ChangeAt Go.RowKit
set_option linter.unusedVariables false
end Go.Proofs.YthihkbcdihochaaGreatDoor
/- The document's references by a mark. -/
namespace Go.Proofs.YthihkbcdihochaaGreatDoor
open Go.ChangeShapes Go.WideShapes Go.ChangeAt Go.RowKit
set_option linter.unusedVariables false
end Go.Proofs.YthihkbcdihochaaGreatDoor
/- References to entities at any place. -/
namespace Go.Proofs.YthihkbcdihochaaGreatDoor
open Go.ChangeShapes Go.WideShapes Go.ChangeAt Go.RowKit
set_option linter.unusedVariables false
end Go.Proofs.YthihkbcdihochaaGreatDoor
/- Digits. -/
namespace Go.Proofs.YthihkbcdihochaaGreatDoor
open Go.ChangeShapes Go.WideShapes Go.ChangeAt Go.RowKit
set_option linter.unusedVariables false
end Go.Proofs.YthihkbcdihochaaGreatDoor
/- Numbers in references to characters: plain law. -/
namespace Go.Proofs.YthihkbcdihochaaGreatDoor
open Go.ChangeShapes Go.WideShapes Go.ChangeAt Go.RowKit
set_option linter.unusedVariables false
end Go.Proofs.YthihkbcdihochaaGreatDoor
/- Quotes and references in texts: plain law. -/
namespace Go.Proofs.YthihkbcdihochaaGreatDoor
open Go.ChangeShapes Go.WideShapes Go.ChangeAt Go.RowKit
set_option linter.unusedVariables false
end Go.Proofs.YthihkbcdihochaaGreatDoor
/- Characters of public identifiers; classes. -/
namespace Go.Proofs.YthihkbcdihochaaGreatDoor
open Go.ChangeShapes Go.WideShapes Go.ChangeAt Go.RowKit
set_option linter.unusedVariables false
/-- The signs of a public identifier. -/
def signs : List UInt8 := [45, 39, 40, 41, 43, 44, 46, 47, 58, 61, 63, 59, 33, 42, 35, 64, 36, 95, 37]
def isBlank (r : Int) : Bool := r == 32 || r == 9 || r == 13 || r == 10
end Go.Proofs.YthihkbcdihochaaGreatDoor
/- Blanks. -/
namespace Go.Proofs.YthihkbcdihochaaGreatDoor
open Go.ChangeShapes Go.WideShapes Go.ChangeAt Go.RowKit
set_option linter.unusedVariables false
def isBl (c : UInt8) : Bool := isBlank (c.toNat : Int)
theorem drop_cons (l : List UInt8) (k : Nat) (c : UInt8) (h : l[k]? = some c) : l.drop k = c :: l.drop (k + 1) := by
  obtain ⟨hk, hc⟩ := List.getElem?_eq_some_iff.1 h
  rw [List.drop_eq_getElem_cons hk, hc]
set_option maxRecDepth 100000 in
set_option maxHeartbeats 4000000 in
theorem blank_c (r : Int) (w : World) : Calls Tryz.prog 58 #[.int .i64 r] w fun e w' => e = .returned (.bool (isBlank r)) ∧ w = w' := by
  rcases (show (r = 32) ∨ (r = 9) ∨ (r = 13) ∨ (r = 10) ∨ (r ≠ 32 ∧ r ≠ 9 ∧ r ≠ 13 ∧ r ≠ 10) by omega) with h | h | h | h | h
  all_goals
    first
    | (subst h
       go_enter Tryz.func58, Tryz.ntmps58
       go_wp2
       go_ret
       exact ⟨rfl, rfl⟩)
    | (have a0 : (r == 32) = false := by simp; omega
       have a1 : (r == 9) = false := by simp; omega
       have a2 : (r == 13) = false := by simp; omega
       have a3 : (r == 10) = false := by simp; omega
       have e : isBlank r = false := by unfold isBlank; rw [a0, a1, a2, a3]; rfl
       rw [e]
       clear e h
       go_enter Tryz.func58, Tryz.ntmps58
       go_wp2
       go_ret
       exact ⟨rfl, rfl⟩)
end Go.Proofs.YthihkbcdihochaaGreatDoor
/- Characters of bytes, all. -/
namespace Go.Proofs.YthihkbcdihochaaGreatDoor
open Go.ChangeShapes Go.WideShapes Go.ChangeAt Go.RowKit
set_option linter.unusedVariables false
/-- The characters of bytes, and whether each is one. -/
def runesL : Nat → List UInt8 → List Nat × Bool
  | 0, _ => ([], true)
  | _ + 1, [] => ([], true)
  | f + 1, c :: t => match dec (c :: t) with
    | some (r, n) => (r :: (runesL f ((c :: t).drop n)).1, (runesL f ((c :: t).drop n)).2)
    | none => ([], false)
def runesOut (l : List UInt8) : List Nat × Bool := runesL l.length l
theorem runesL_nil (f : Nat) : runesL f [] = ([], true) := by cases f <;> rfl
theorem runesL_some (f : Nat) (l : List UInt8) (r n : Nat) (h : dec l = some (r, n)) : runesL (f + 1) l = (r :: (runesL f (l.drop n)).1, (runesL f (l.drop n)).2) := by
  cases l with
  | nil => simp [dec] at h
  | cons c t => simp only [runesL, h]
theorem runesL_none (f : Nat) (l : List UInt8) (h0 : l ≠ []) (h : dec l = none) : runesL (f + 1) l = ([], false) := by
  cases l with
  | nil => exact absurd rfl h0
  | cons c t => simp only [runesL, h]
theorem runesL_le (f : Nat) : ∀ l : List UInt8, (∀ r ∈ (runesL f l).1, r ≤ 1114111) ∧ (runesL f l).1.length ≤ l.length := by
  induction f with
  | zero => intro l; simp [runesL]
  | succ f ih =>
    intro l
    cases hd : dec l with
    | none =>
      by_cases h0 : l = []
      · rw [h0, runesL_nil]; simp
      · rw [runesL_none f l h0 hd]; simp
    | some x =>
      obtain ⟨r, n⟩ := x
      have hl := dec_le l r n hd
      have := ih (l.drop n)
      rw [runesL_some f l r n hd]
      refine ⟨fun y hy => ?_, ?_⟩
      · rcases List.mem_cons.1 hy with rfl | hy
        · exact hl.2.2.2
        · exact this.1 y hy
      · have h2 := this.2
        rw [List.length_drop] at h2
        simp only [List.length_cons]
        omega
def iv (r : Nat) : Value := .int .i64 (r : Int)
/-- What a function hands back of bytes' characters. -/
def RunesP (l : List UInt8) (w : World) (good : Int) (bad : Int → Prop) (e : Ending) (w' : World) : Prop :=
  Below w.heap.size w w' ∧ (((runesOut l).2 = true ∧ ∃ A c, e = .returned (.tuple #[.slice A (runesOut l).1.length c, .int .i64 good]) ∧ Rd w' w'.heap.size A (runesOut l).1.length c ((runesOut l).1.map iv)) ∨
    ((runesOut l).2 = false ∧ ∃ z, bad z ∧ e = .returned (.tuple #[.slice none 0 0, .int .i64 z])))
def allOut (f : Int → Bool) (l : List UInt8) : Bool := (runesOut l).2 && (runesOut l).1.all fun r => f (r : Int)
theorem all_take (f : Int → Bool) (rs : List Nat) (t : Nat) (r : Nat) (h : rs[t]? = some r) : ((rs.take (t + 1)).all fun r => f (r : Int)) = ((rs.take t).all (fun r => f (r : Int)) && f (r : Int)) := by
  rw [List.take_add_one, h]
  simp
end Go.Proofs.YthihkbcdihochaaGreatDoor
/- Plain law of whole names. -/
namespace Go.Proofs.YthihkbcdihochaaGreatDoor
open Go.ChangeShapes Go.WideShapes Go.ChangeAt Go.RowKit
set_option linter.unusedVariables false
/-- A name to its end. -/
def wholeB (f g : Int → Bool) (l : List UInt8) : Bool := !l.isEmpty && decide (endL f g l.length l = l.length)
end Go.Proofs.YthihkbcdihochaaGreatDoor
/- Names, colons too. -/
namespace Go.Proofs.YthihkbcdihochaaGreatDoor
open Go.ChangeShapes Go.WideShapes Go.ChangeAt Go.RowKit
set_option linter.unusedVariables false
end Go.Proofs.YthihkbcdihochaaGreatDoor

/- bytes.HasPrefix. -/
namespace Go.Proofs.YthihkbcdihochaaGreatDoor
open Go.ChangeShapes Go.WideShapes Go.ChangeAt Go.RowKit
set_option linter.unusedVariables false
end Go.Proofs.YthihkbcdihochaaGreatDoor
/- Go's library, by its contracts off the shelf, in this seat's words. -/
namespace Go.Proofs.YthihkbcdihochaaGreatDoor
open Go.ChangeShapes Go.WideShapes Go.ChangeAt Go.RowKit
set_option linter.unusedVariables false
/-- What internal/bytealg.MaxLen holds: some number. -/
def MaxL (w : World) : Prop := ∃ m : Int, w.cell? ⟨5, 0, none⟩ = some (.int .i64 m)
theorem MaxL.lt {w : World} (h : MaxL w) : 5 < w.heap.size := by
  obtain ⟨m, hm⟩ := h
  exact World.block_lt_of_cell? w _ hm
theorem MaxL.below {w w' : World} {B : Nat} (h : MaxL w) (hb : Below B w w') (hB : 5 < B) : MaxL w' := by
  obtain ⟨m, hm⟩ := h
  exact ⟨m, by rw [hb.cell hB]; exact hm⟩
theorem MaxL.drewN {w : World} (h : MaxL w) (n : Nat) : MaxL (w.drewN n) := h
/-- strings.Contains. -/
theorem contains_c (l1 l2 : List UInt8) (w : World) (hM : MaxL w) (hm1 : l1.length ≤ 1000000) :
    Calls Tryz.prog 165 #[.string ⟨l1.toArray⟩, .string ⟨l2.toArray⟩] w fun e w' => e = .returned (.bool (Lib.contains l1 l2)) ∧ w = w' := by
  obtain ⟨m, hm⟩ := hM
  exact (Tryz.strings_Contains ⟨l1.toArray⟩ ⟨l2.toArray⟩ m w (by simp [ByteArray.size]; omega) hm).mono fun e w' ⟨he, hw⟩ => ⟨he, hw.symm⟩
end Go.Proofs.YthihkbcdihochaaGreatDoor
/- Bytes of a string, of a constant. -/
namespace Go.Proofs.YthihkbcdihochaaGreatDoor
open Go.ChangeShapes Go.WideShapes Go.ChangeAt Go.RowKit
set_option linter.unusedVariables false
theorem byt_new (w : World) (l : List UInt8) (hl : l.length ≤ 1000000) : Byt (Lib.bytesWorld w 5 ⟨l.toArray⟩) (w.heap.size + 1) (some ⟨w.heap.size, 0, none⟩) l.length (grownCap w l.length 0 5) l := by
  have hsz : (⟨l.toArray⟩ : ByteArray).size = l.length := by simp [ByteArray.size]
  refine ⟨by simp, grownCap_ge _ _ _ _, grownCap_le_maxLen _ _ _ _ (by unfold maxLen; omega), (fun e => by cases e), fun _ => ⟨_, _, rfl, by omega, fun i u hu => ?_⟩⟩
  have hi : i < l.length := by
    rcases Nat.lt_or_ge i l.length with h' | h'
    · exact h'
    · rw [List.getElem?_eq_none (by simpa using h')] at hu; cases hu
  rw [Nat.zero_add, Lib.bytesWorld_cell _ _ _ _ (by rw [hsz]; exact hi)]
  rw [List.getElem?_map, List.getElem?_eq_getElem hi] at hu
  simp only [Option.map_some, Option.some.injEq] at hu
  rw [← hu]
  simp [bv, hi]
theorem run_toBytes (w : World) (l : List UInt8) : (convert 9 50 (.string ⟨l.toArray⟩)).run Tryz.prog w = .ok (.slice (some ⟨w.heap.size, 0, none⟩) l.length (grownCap w l.length 0 5)) (Lib.bytesWorld w 5 ⟨l.toArray⟩) := by
  have hsz : (⟨l.toArray⟩ : ByteArray).size = l.length := by simp [ByteArray.size]
  have := Lib.run_convert_string_bytes (P := Tryz.prog) w 9 50 5 ⟨l.toArray⟩ Tryz.underlying9 Tryz.underlying50 Tryz.underlying5
  rwa [hsz] at this
end Go.Proofs.YthihkbcdihochaaGreatDoor
/- Whole names. -/
namespace Go.Proofs.YthihkbcdihochaaGreatDoor
open Go.ChangeShapes Go.WideShapes Go.ChangeAt Go.RowKit
set_option linter.unusedVariables false
theorem endL_wholeB (f g : Int → Bool) (l : List UInt8) (h : l ≠ []) : wholeB f g l = decide (endL f g l.length l = l.length) := by
  unfold wholeB
  cases l with
  | nil => exact absurd rfl h
  | cons a t => simp
set_option maxRecDepth 100000 in
set_option maxHeartbeats 4000000 in
theorem plainWhole_c (a b : Nat) (s : List UInt8) (w : World) (hF : Forms w) (hm : s.length ≤ 50000) (hf : Says 267 #[.pointer (some ⟨a, 0, none⟩)] w.heap.size w (noColon isStart)) (hg : Says 267 #[.pointer (some ⟨b, 0, none⟩)] w.heap.size w (noColon isMore)) :
    Calls Tryz.prog 258 #[plainsV a b, .string ⟨s.toArray⟩] w fun e w' => e = .returned (.bool (wholeB (noColon isStart) (noColon isMore) s)) ∧ Below w.heap.size w w' := by
  have hb : Below w.heap.size w (w.alloc (.cells #[.func (.func 267) #[] #[.pointer (some ⟨a, 0, none⟩)], .func (.func 267) #[] #[.pointer (some ⟨b, 0, none⟩)]] 304)) := Below.alloc (Below.refl w.heap.size w) (Nat.le_refl _) _
  have HB := Lib.hid hb
  by_cases hs : s = []
  · subst hs
    clear hF hb hf hg
    unfold plainsV
    go_enter Tryz.func258, Tryz.ntmps258
    go_wp2
    go_ret
    exact ⟨rfl, HB.out⟩
  · rw [endL_wholeB _ _ _ hs]
    have hne : s.isEmpty = false := by cases s with
      | nil => exact absurd rfl hs
      | cons a t => rfl
    have hlen : 0 < s.length := by cases s with
      | nil => exact absurd rfl hs
      | cons a t => simp
    have f0 := hp_new w (.cells #[.func (.func 267) #[] #[.pointer (some ⟨a, 0, none⟩)], .func (.func 267) #[] #[.pointer (some ⟨b, 0, none⟩)]] 304)
    have hi : (Tryz.prog.info? 304).map (·.size) = some 2 := by kernel_rfl
    obtain ⟨d, hu⟩ := isStruct_of (P := Tryz.prog) (t := 304) (by kernel_rfl)
    have hld := run_loadVar_row _ _ _ _ _ _ _ f0 hu rfl hi
    have hcv := run_toBytes (w.alloc (.cells #[.func (.func 267) #[] #[.pointer (some ⟨a, 0, none⟩)], .func (.func 267) #[] #[.pointer (some ⟨b, 0, none⟩)]] 304)) s
    have hb1 : Below w.heap.size w (Lib.bytesWorld (w.alloc (.cells #[.func (.func 267) #[] #[.pointer (some ⟨a, 0, none⟩)], .func (.func 267) #[] #[.pointer (some ⟨b, 0, none⟩)]] 304)) 5 ⟨s.toArray⟩) := hb.trans ((Lib.bytesWorld_below _ _ _).mono hb.size)
    have CE := end_c (noColon isStart) (noColon isMore) a b _ _ _ s 0 _ ((byt_new (w.alloc (.cells #[.func (.func 267) #[] #[.pointer (some ⟨a, 0, none⟩)], .func (.func 267) #[] #[.pointer (some ⟨b, 0, none⟩)]] 304)) s (by omega)).more (Nat.le_of_eq (Lib.bytesWorld_size _ _ _).symm)) (hF.below hb1 hF.lt) (by omega) (Nat.zero_le _) ((hf.below hb1).more hb1.size) ((hg.below hb1).more hb1.size)
    rw [List.drop_zero, Nat.zero_add] at CE
    have hsz1 : (w.alloc (.cells #[.func (.func 267) #[] #[.pointer (some ⟨a, 0, none⟩)], .func (.func 267) #[] #[.pointer (some ⟨b, 0, none⟩)]] 304)).heap.size = w.heap.size + 1 := by simp
    rw [hsz1] at CE hcv
    have C1 := Lib.hid CE
    have HB1 := Lib.hid hb1
    have hle := endL_le s.length (noColon isStart) (noColon isMore) s
    clear f0 hu hi hF hb hb1 CE hsz1 hf hg
    unfold plainsV at *
    generalize endL (noColon isStart) (noColon isMore) s.length s = k at *
    go_enter Tryz.func258, Tryz.ntmps258
    go_wp2_with fail
    refine (C1.out).mono ?_
    rintro e w1 ⟨rfl, hb⟩
    have B1 := Lib.hid (HB1.out.trans (hb.mono HB1.out.size))
    clear hb
    by_cases hk : k = s.length
    · have hkt : ((k : Int) == (s.length : Int)) = true := by simp; omega
      have HD : Hid (decide (k = s.length) = true) := Lib.hid (by simpa using hk)
      clear hk
      go_wp2
      go_ret
      rw [HD.out]
      exact ⟨rfl, B1.out⟩
    · have hkt : ((k : Int) == (s.length : Int)) = false := by simp; omega
      have HD : Hid (decide (k = s.length) = false) := Lib.hid (by simpa using hk)
      clear hk
      go_wp2
      go_ret
      rw [HD.out]
      exact ⟨rfl, B1.out⟩
set_option maxRecDepth 100000 in
set_option maxHeartbeats 4000000 in
theorem isPlain_c (s : List UInt8) (w : World) (hF : Forms w) (hT : TabN w) (hm : s.length ≤ 50000) :
    Calls Tryz.prog 237 #[.string ⟨s.toArray⟩] w fun e w' => e = .returned (.bool (wholeB (noColon isStart) (noColon isMore) s)) ∧ Below w.heap.size w w' := by
  have hp := plains_c w hT (hT.low hF)
  have HH := Lib.hid (And.intro hF hm)
  clear hF hT hm
  go_enter Tryz.func237, Tryz.ntmps237
  go_wp2_with fail
  refine hp.mono ?_
  rintro e w1 ⟨a, b, rfl, hb, hf, hg⟩
  have C1 := Lib.hid (plainWhole_c a b s w1 (HH.out.1.below hb HH.out.1.lt) HH.out.2 hf hg)
  have B1 := Lib.hid hb
  clear hf hg hb hp
  go_wp2_with fail
  refine (C1.out).mono ?_
  rintro e w2 ⟨rfl, hb⟩
  have B2 := Lib.hid (B1.out.trans (hb.mono B1.out.size))
  clear hb
  go_wp2
  go_ret
  exact ⟨rfl, B2.out⟩
end Go.Proofs.YthihkbcdihochaaGreatDoor
/- Plain law: comments and marked texts as they are put. -/
namespace Go.Proofs.YthihkbcdihochaaGreatDoor
open Go.ChangeShapes Go.WideShapes Go.ChangeAt Go.RowKit
set_option linter.unusedVariables false
end Go.Proofs.YthihkbcdihochaaGreatDoor
/- narthexref08.At, Find. -/
namespace Go.Proofs.YthihkbcdihochaaGreatDoor
open Go.ChangeShapes Go.WideShapes Go.ChangeAt Go.RowKit
set_option linter.unusedVariables false
end Go.Proofs.YthihkbcdihochaaGreatDoor
/- narthexref08.Pi. -/
namespace Go.Proofs.YthihkbcdihochaaGreatDoor
open Go.ChangeShapes Go.WideShapes Go.ChangeAt Go.RowKit
set_option linter.unusedVariables false
/-- Is it xml, in letters of whatever size? -/
def resB (s : List UInt8) : Bool := Lib.equalFold s [120, 109, 108]
end Go.Proofs.YthihkbcdihochaaGreatDoor
/- misc.Pi. -/
namespace Go.Proofs.YthihkbcdihochaaGreatDoor
open Go.ChangeShapes Go.WideShapes Go.ChangeAt Go.RowKit
set_option linter.unusedVariables false
end Go.Proofs.YthihkbcdihochaaGreatDoor
/- narthexref08.Comment, CData. -/
namespace Go.Proofs.YthihkbcdihochaaGreatDoor
open Go.ChangeShapes Go.WideShapes Go.ChangeAt Go.RowKit
set_option linter.unusedVariables false
end Go.Proofs.YthihkbcdihochaaGreatDoor
/- misc: what stands between marks: comments. -/
namespace Go.Proofs.YthihkbcdihochaaGreatDoor
open Go.ChangeShapes Go.WideShapes Go.ChangeAt Go.RowKit
set_option linter.unusedVariables false
/-- What stands while marks are read: below w all as it was, and the sort's own block. -/
def MkJ (p q : List UInt8) (fid : Nat) (w W : World) : Prop :=
  Below w.heap.size w W ∧ w.heap.size < W.heap.size ∧ W.cell? ⟨w.heap.size, 0, none⟩ = some (.string ⟨p.toArray⟩) ∧ W.cell? ⟨w.heap.size, 1, none⟩ = some (.string ⟨q.toArray⟩) ∧ W.cell? ⟨w.heap.size, 2, none⟩ = some (.func (.func fid) #[] #[])
theorem MkJ.kept {p q : List UInt8} {fid : Nat} {w W W' : World} (h : MkJ p q fid w W) (hb : Below W.heap.size W W') : MkJ p q fid w W' :=
  ⟨h.1.trans (hb.mono h.1.size), by have := hb.size; have := h.2.1; omega, by rw [hb.cell h.2.1]; exact h.2.2.1, by rw [hb.cell h.2.1]; exact h.2.2.2.1, by rw [hb.cell h.2.1]; exact h.2.2.2.2⟩
theorem MkJ.drewN {p q : List UInt8} {fid : Nat} {w W : World} (h : MkJ p q fid w W) (n : Nat) : MkJ p q fid w (W.drewN n) := h.kept (below_drewN' (Below.refl _ _))
def commentsV : Value := .agg #[.string ⟨#[60, 33, 45, 45]⟩, .string ⟨#[45, 45, 62]⟩, .func (.func 270) #[] #[]]
set_option maxRecDepth 100000 in
set_option maxHeartbeats 4000000 in
theorem comments_c (w : World) : Calls Tryz.prog 260 #[] w fun e w' => e = .returned commentsV ∧ Below w.heap.size w w' := by
  have hF := Lib.hid (hp_new w (.cells #[.string ⟨#[60, 33, 45, 45]⟩, .string ⟨#[45, 45, 62]⟩, .func (.func 270) #[] #[]] 327))
  have hb := Lib.hid (Below.alloc (Below.refl w.heap.size w) (Nat.le_refl _) (.cells #[.string ⟨#[60, 33, 45, 45]⟩, .string ⟨#[45, 45, 62]⟩, .func (.func 270) #[] #[]] 327))
  go_enter Tryz.func260, Tryz.ntmps260
  go_wp2
  have hi : (Tryz.prog.info? 327).map (·.size) = some 3 := by kernel_rfl
  obtain ⟨d, hu⟩ := isStruct_of (P := Tryz.prog) (t := 327) (by kernel_rfl)
  (try simp only [Exit.inBlock, Exit.then])
  refine bodyPost_ret (results_cell_row rfl _ _ w.heap.size _ _ _ _ rfl hF.out hu rfl hi) rfl ⟨rfl, hb.out⟩
set_option maxRecDepth 100000 in
set_option maxHeartbeats 4000000 in
theorem comments1_c (s : List UInt8) (w : World) (hM : MaxL w) (hs : s.length ≤ 500000) :
    Calls Tryz.prog 270 #[.string ⟨s.toArray⟩] w fun e w' => e = .returned (.bool (mayComment s)) ∧ w = w' := by
  have hct : (Op.stringOp .add ⟨s.toArray⟩ ⟨#[45]⟩).run Tryz.prog w = .ok (.string ⟨(s ++ [45]).toArray⟩) w := run_sop (w := w) s [45] (by simp; omega)
  have C1 := Lib.hid (contains_c (s ++ [45]) [45, 45] w hM (by simp; omega))
  unfold mayComment
  generalize Lib.contains (s ++ [45]) [45, 45] = r at *
  generalize s ++ [45] = s2 at *
  clear hM hs
  cases r
  all_goals
    go_enter Tryz.func270, Tryz.ntmps270
    go_wp2_with fail
    refine (C1.out).mono ?_
    rintro e wq ⟨rfl, rfl⟩
    go_wp2
    go_ret
    exact ⟨rfl, rfl⟩
end Go.Proofs.YthihkbcdihochaaGreatDoor
/- misc: what stands between marks: marked texts. -/
namespace Go.Proofs.YthihkbcdihochaaGreatDoor
open Go.ChangeShapes Go.WideShapes Go.ChangeAt Go.RowKit
set_option linter.unusedVariables false
end Go.Proofs.YthihkbcdihochaaGreatDoor
/- misc: comments and marked texts, read and written. -/
namespace Go.Proofs.YthihkbcdihochaaGreatDoor
open Go.ChangeShapes Go.WideShapes Go.ChangeAt Go.RowKit
set_option linter.unusedVariables false
def putCommentOut (s : List UInt8) : List UInt8 × Nat := if mayComment s = true then ([60, 33, 45, 45] ++ s ++ [45, 45, 62], 0) else ([], 7)
set_option maxRecDepth 100000 in
set_option maxHeartbeats 4000000 in
theorem commentsWrite_c (s : List UInt8) (w : World) (hM : MaxL w) (hs : s.length ≤ 100000) :
    Calls Tryz.prog 261 #[commentsV, .string ⟨s.toArray⟩] w fun e w' => e = .returned (.tuple #[.string ⟨(putCommentOut s).1.toArray⟩, .int .i64 ((putCommentOut s).2 : Int)]) ∧ Below w.heap.size w w' := by
  have f0 := hp_new w (.cells #[.string ⟨#[60, 33, 45, 45]⟩, .string ⟨#[45, 45, 62]⟩, .func (.func 270) #[] #[]] 327)
  have z0 : (w.alloc (.cells #[.string ⟨#[60, 33, 45, 45]⟩, .string ⟨#[45, 45, 62]⟩, .func (.func 270) #[] #[]] 327)).cell? ⟨w.heap.size, 0, none⟩ = some (.string ⟨#[60, 33, 45, 45]⟩) := cell_of 0 f0
  have z1 : (w.alloc (.cells #[.string ⟨#[60, 33, 45, 45]⟩, .string ⟨#[45, 45, 62]⟩, .func (.func 270) #[] #[]] 327)).cell? ⟨w.heap.size, 1, none⟩ = some (.string ⟨#[45, 45, 62]⟩) := cell_of 1 f0
  have z2 : (w.alloc (.cells #[.string ⟨#[60, 33, 45, 45]⟩, .string ⟨#[45, 45, 62]⟩, .func (.func 270) #[] #[]] 327)).cell? ⟨w.heap.size, 2, none⟩ = some (.func (.func 270) #[] #[]) := cell_of 2 f0
  have hb0 := Lib.hid (Below.alloc (Below.refl w.heap.size w) (Nat.le_refl _) (.cells #[.string ⟨#[60, 33, 45, 45]⟩, .string ⟨#[45, 45, 62]⟩, .func (.func 270) #[] #[]] 327))
  have C1 := Lib.hid (comments1_c s (w.alloc (.cells #[.string ⟨#[60, 33, 45, 45]⟩, .string ⟨#[45, 45, 62]⟩, .func (.func 270) #[] #[]] 327)) (hM.below hb0.out hM.lt) (by omega))
  have hct : ∀ W, (Op.stringOp .add ⟨#[60, 33, 45, 45]⟩ ⟨s.toArray⟩).run Tryz.prog W = .ok (.string ⟨([60, 33, 45, 45] ++ s).toArray⟩) W := fun W => run_sop (w := W) [60, 33, 45, 45] s (by simp; omega)
  have hct2 : ∀ W, (Op.stringOp .add ⟨([60, 33, 45, 45] ++ s).toArray⟩ ⟨#[45, 45, 62]⟩).run Tryz.prog W = .ok (.string ⟨([60, 33, 45, 45] ++ s ++ [45, 45, 62]).toArray⟩) W := fun W => run_sop (w := W) ([60, 33, 45, 45] ++ s) [45, 45, 62] (by simp; omega)
  clear f0 hM hs
  unfold putCommentOut commentsV
  generalize mayComment s = my at *
  cases my
  · simp only [Bool.false_eq_true, if_false]
    clear hct hct2
    go_enter Tryz.func261, Tryz.ntmps261
    go_wp2_with fail
    refine (C1.out).mono ?_
    rintro e wq ⟨rfl, rfl⟩
    go_wp2
    go_ret2
    exact ⟨rfl, hb0.out⟩
  · simp only [if_true]
    generalize [60, 33, 45, 45] ++ s ++ [45, 45, 62] = s3 at *
    generalize [60, 33, 45, 45] ++ s = s2 at *
    go_enter Tryz.func261, Tryz.ntmps261
    go_wp2_with fail
    refine (C1.out).mono ?_
    rintro e wq ⟨rfl, rfl⟩
    go_wp2
    go_ret2
    exact ⟨rfl, hb0.out⟩
set_option maxRecDepth 100000 in
set_option maxHeartbeats 4000000 in
theorem miscPutComment_c (s : List UInt8) (w : World) (hM : MaxL w) (hs : s.length ≤ 100000) :
    Calls Tryz.prog 239 #[.string ⟨s.toArray⟩] w fun e w' => e = .returned (.tuple #[.string ⟨(putCommentOut s).1.toArray⟩, .int .i64 ((putCommentOut s).2 : Int)]) ∧ Below w.heap.size w w' := by
  have C1 := Lib.hid (comments_c w)
  have C2 : Hid (∀ W, Below w.heap.size w W → Calls Tryz.prog 261 #[commentsV, .string ⟨s.toArray⟩] W fun e w' => e = .returned (.tuple #[.string ⟨(putCommentOut s).1.toArray⟩, .int .i64 ((putCommentOut s).2 : Int)]) ∧ Below W.heap.size W w') := Lib.hid fun W hb => commentsWrite_c s W (hM.below hb hM.lt) hs
  clear hM hs
  generalize putCommentOut s = r at *
  go_enter Tryz.func239, Tryz.ntmps239
  go_wp2_with fail
  refine (C1.out).mono ?_
  rintro e w1 ⟨rfl, hb⟩
  have B1 := Lib.hid hb
  clear hb
  go_wp2_with fail
  refine (C2.out _ B1.out).mono ?_
  rintro e w2 ⟨rfl, hb⟩
  have B2 := Lib.hid (B1.out.trans (hb.mono B1.out.size))
  clear hb
  go_wp2
  go_ret2
  exact ⟨rfl, B2.out⟩
end Go.Proofs.YthihkbcdihochaaGreatDoor
/- Statements of chapter 8. -/
namespace Go.Proofs.YthihkbcdihochaaGreatDoor
open Go.ChangeShapes Go.WideShapes Go.ChangeAt Go.RowKit
set_option linter.unusedVariables false
set_option maxRecDepth 100000 in
set_option maxHeartbeats 4000000 in
theorem reserved_len (s : List UInt8) (w : World) (hs : s.length ≠ 3) : Calls Tryz.prog 262 #[.string ⟨s.toArray⟩] w fun e w' => e = .returned (.bool false) ∧ w = w' := by
  have hl : ((s.length : Int) == 3) = false := by simp; omega
  go_enter Tryz.func262, Tryz.ntmps262
  go_wp2
  go_ret
  exact ⟨rfl, rfl⟩
/-- What is asked of the world. -/
structure W8 (w : World) : Prop where
  tabs : TabN w
  forms : Forms w
  maxl : MaxL w
theorem W8.below {w w' : World} (h : W8 w) (hb : Below w.heap.size w w') : W8 w' := ⟨h.tabs.below hb (h.tabs.low h.forms), h.forms.below hb h.forms.lt, h.maxl.below hb h.maxl.lt⟩
end Go.Proofs.YthihkbcdihochaaGreatDoor
