/- Several texts of ours in one: Dig, Num, Ref4, Ref5, Ref6, Ref7, Ref8, Ref9, Cref2, Dig2. -/
import Derived.Test.YtljmpghijlibaaaDoorRows
import Derived.WalkKit
import Derived.ProofKit
import Derived.OpenShut
import Derived.ShutString
import Derived.ChangeOld
import Derived.Below
import Derived.BigQuiet
import Derived.Deep.QuietTactic
import Derived.Lib.Hide
import Derived.Deep.RegionHeld3
import Derived.Lib.SlBytesConst
import Derived.Laws.CopyOwn
import Derived.Laws.CopyRow
import Derived.Lib.Bytes
import Derived.Deep.LoopGhost
import Derived.Deep.DeepFit
import Derived.Deep.DeepMust
import Derived.WalkSpells
import Derived.WalkLawsBesides
import Derived.Laws.EntriesVeiled
import Derived.Laws.Rows
import Derived.Test.YtljmpghijlibaaaDoorBase
import Derived.Test.YtljmpghijlibaaaDoorShelf
import Derived.Test.YtljmpghijlibaaaDoorCharPlain
import Derived.Test.YtljmpghijlibaaaDoorUtf1
import Derived.Test.YtljmpghijlibaaaDoorUtf2
import Derived.Test.YtljmpghijlibaaaDoorUtf3
import Derived.Test.YtljmpghijlibaaaDoorChars1
import Derived.Test.YtljmpghijlibaaaDoorName1
import Derived.Test.YtljmpghijlibaaaDoorName2
import Derived.Test.YtljmpghijlibaaaDoorName3
import Derived.Test.YtljmpghijlibaaaDoorCref1
import Derived.Test.YtljmpghijlibaaaDoorRef1
import Derived.Test.YtljmpghijlibaaaDoorRef3
import Derived.Test.YtljmpghijlibaaaDoorRef2
namespace Go.Proofs.YtljmpghijlibaaaDoor
open Go.ChangeShapes Go.WideShapes Go.ChangeAt Go.RowKit
set_option linter.unusedVariables false
/-- What a digit says to a base. -/
def digit (b : Int) (r : Int) : Int :=
  if 48 ≤ r ∧ r ≤ 57 then r - 48 else if 97 ≤ r ∧ r ≤ 102 then (if b = 16 then r - 87 else -1) else if 65 ≤ r ∧ r ≤ 70 then (if b = 16 then r - 55 else -1) else -1
theorem digit_lt (b : Int) (hb : b = 10 ∨ b = 16) (r : Int) : digit b r < b ∧ -1 ≤ digit b r := by
  unfold digit
  rcases hb with rfl | rfl <;> (repeat' split) <;> omega
/-- The digits that bytes begin with. -/
def digs (b : Int) : List UInt8 → List UInt8
  | [] => []
  | c :: t => if 0 ≤ digit b c.toNat then c :: digs b t else []
theorem digs_le (b : Int) (l : List UInt8) : (digs b l).length ≤ l.length := by
  induction l with
  | nil => simp [digs]
  | cons c t ih => unfold digs; split <;> simp <;> omega
theorem digs_mem (b : Int) (l : List UInt8) : ∀ c ∈ digs b l, 0 ≤ digit b c.toNat := by
  induction l with
  | nil => simp [digs]
  | cons c t ih => 
    intro d hd
    unfold digs at hd
    split at hd
    · rcases List.mem_cons.1 hd with rfl | hd
      · assumption
      · exact ih d hd
    · simp at hd
/-- The byte at a place among the digits is one; the one behind them is none. -/
theorem digs_at (b : Int) (l : List UInt8) (k : Nat) (c : UInt8) (hk : k ≤ (digs b l).length) (hc : l[k]? = some c) : k < (digs b l).length ↔ 0 ≤ digit b c.toNat := by
  induction l generalizing k with
  | nil => simp at hc
  | cons d t ih =>
    unfold digs at hk ⊢
    cases k with
    | zero =>
      simp at hc
      subst hc
      split <;> simp_all
    | succ k =>
      split at hk
      · rename_i h
        rw [if_pos h]
        simp only [List.length_cons, Nat.add_lt_add_iff_right]
        exact ih k (by simpa using hk) (by simpa using hc)
      · simp at hk
theorem digs_take (b : Int) (l : List UInt8) : digs b l = l.take (digs b l).length := by
  induction l with
  | nil => simp [digs]
  | cons c t ih =>
    unfold digs
    split
    · simp only [List.length_cons, List.take_succ_cons]; rw [← ih]
    · simp
/-- The number of digits, no more than cap. -/
def numC (b cap : Int) (l : List UInt8) : Int := l.foldl (fun r c => min (r * b + digit b c.toNat) cap) 0
theorem numC_snoc (b cap : Int) (l : List UInt8) (c : UInt8) : numC b cap (l ++ [c]) = min (numC b cap l * b + digit b c.toNat) cap := by simp [numC]
/-- The number of digits. -/
def numU (b : Int) (l : List UInt8) : Int := l.foldl (fun r c => r * b + digit b c.toNat) 0
theorem numU_snoc (b : Int) (l : List UInt8) (c : UInt8) : numU b (l ++ [c]) = numU b l * b + digit b c.toNat := by simp [numU]
theorem numU_nonneg (b : Int) (hb : 1 ≤ b) (l : List UInt8) : (∀ c ∈ l, 0 ≤ digit b c.toNat) → 0 ≤ numU b l := by
  refine snoc_induction (P := fun l => (∀ c ∈ l, 0 ≤ digit b c.toNat) → 0 ≤ numU b l) ?_ ?_ l
  · intro _; simp [numU]
  · intro l x ih h
    rw [numU_snoc]
    have h1 := ih fun c hc => h c (List.mem_append_left _ hc)
    have h2 := h x (by simp)
    have h3 : 0 ≤ numU b l * b := Int.mul_nonneg h1 (by omega)
    omega
theorem numC_eq (b cap : Int) (hb : 1 ≤ b) (hc : 0 ≤ cap) (l : List UInt8) : (∀ c ∈ l, 0 ≤ digit b c.toNat) → numC b cap l = min (numU b l) cap := by
  refine snoc_induction (P := fun l => (∀ c ∈ l, 0 ≤ digit b c.toNat) → numC b cap l = min (numU b l) cap) ?_ ?_ l
  · intro _; simp only [numC, numU, List.foldl_nil]; omega
  · intro l x ih h
    have h1 := ih fun c hc => h c (List.mem_append_left _ hc)
    have h2 := h x (by simp)
    have h3 := numU_nonneg b hb l fun c hc => h c (List.mem_append_left _ hc)
    rw [numC_snoc, numU_snoc, h1]
    by_cases hle : numU b l ≤ cap
    · rw [Int.min_eq_left hle]
    · rw [Int.min_eq_right (by omega : cap ≤ numU b l)]
      have e1 : cap * 1 ≤ cap * b := Int.mul_le_mul_of_nonneg_left hb hc
      have e2 : numU b l * 1 ≤ numU b l * b := Int.mul_le_mul_of_nonneg_left hb h3
      rw [Int.min_eq_right (by omega : cap ≤ cap * b + _), Int.min_eq_right (by omega : cap ≤ numU b l * b + _)]
theorem numC_le (b cap : Int) (hc : 0 ≤ cap) (l : List UInt8) : numC b cap l ≤ cap := by
  refine snoc_induction (P := fun l => numC b cap l ≤ cap) (by simpa [numC] using hc) (fun l x ih => ?_) l
  rw [numC_snoc]; exact Int.min_le_right _ _
theorem numC_nonneg (b cap : Int) (hb : 1 ≤ b) (hc : 0 ≤ cap) (l : List UInt8) (h : ∀ c ∈ l, 0 ≤ digit b c.toNat) : 0 ≤ numC b cap l := by
  rw [numC_eq b cap hb hc l h]
  have := numU_nonneg b hb l h
  omega
/-- A cap above all characters changes neither which number is a character nor the character. -/
theorem cap_doc (b cap : Int) (hb : 1 ≤ b) (hc : 1114111 < cap) (l : List UInt8) (h : ∀ c ∈ l, 0 ≤ digit b c.toNat) : isDoc (numC b cap l) = isDoc (numU b l) ∧ (isDoc (numU b l) = true → numC b cap l = numU b l) := by
  rw [numC_eq b cap hb (by omega) l h]
  by_cases hle : numU b l ≤ cap
  · rw [Int.min_eq_left hle]; exact ⟨rfl, fun _ => rfl⟩
  · rw [Int.min_eq_right (by omega : cap ≤ numU b l)]
    have e1 : isDoc cap = false := by rw [Bool.eq_false_iff, Ne, isDoc_iff]; omega
    have e2 : isDoc (numU b l) = false := by rw [Bool.eq_false_iff, Ne, isDoc_iff]; omega
    exact ⟨by rw [e1, e2], fun h => by rw [e2] at h; cases h⟩
/-- What is read of a reference to a character: the number, the place behind, the fault. -/
def charBody (b : Int) (cap : Int) (l : List UInt8) (from_ : Nat) : Int × Nat × Nat :=
  let ds := digs b (l.drop from_)
  if ds.length = 0 ∨ l[from_ + ds.length]? ≠ some 59 then (0, 0, 7)
  else if isDoc (numC b cap ds) = true then (numC b cap ds, from_ + ds.length + 1, 0) else (0, 0, 6)
def charOut (l : List UInt8) (at_ : Nat) : Int × Nat × Nat :=
  if l[at_]? = some 38 ∧ l[at_ + 1]? = some 35 then
    (if l[at_ + 2]? = some 120 then charBody 16 2097152 l (at_ + 3) else charBody 10 2097152 l (at_ + 2))
  else (0, 0, 7)
theorem charBody_cap (b : Int) (hb : b = 10 ∨ b = 16) (c1 c2 : Int) (h1 : 1114111 < c1) (h2 : 1114111 < c2) (l : List UInt8) (k : Nat) : charBody b c1 l k = charBody b c2 l k := by
  unfold charBody
  have hm := digs_mem b (l.drop k)
  have a1 := cap_doc b c1 (by omega) h1 _ hm
  have a2 := cap_doc b c2 (by omega) h2 _ hm
  simp only [a1.1, a2.1]
  split
  · rfl
  · split
    · rename_i hd; rw [a1.2 hd, a2.2 hd]
    · rfl
theorem restOf_some (l : List UInt8) (k : Nat) (h : 0 ≤ restOf l k) : ∃ d, l[k]? = some d ∧ 128 ≤ d.toNat ∧ d.toNat < 192 ∧ restOf l k = (d.toNat : Int) - 128 := by
  unfold restOf at *
  split at h
  · rename_i c hc
    split at h
    · rename_i hh
      exact ⟨c, hc, hh.1, hh.2, by rw [if_pos hh]⟩
    · omega
  · omega
theorem restOf_none (l : List UInt8) (k : Nat) (h : restOf l k < 0) : l[k]? = none ∨ ∃ d, l[k]? = some d ∧ ¬ (128 ≤ d.toNat ∧ d.toNat < 192) := by
  unfold restOf at h
  split at h
  · rename_i c hc
    split at h
    · omega
    · rename_i hh; exact .inr ⟨c, hc, hh⟩
  · rename_i hc; exact .inl hc
theorem restOf_lt (l : List UInt8) (k : Nat) : restOf l k < 64 ∧ -1 ≤ restOf l k := by
  unfold restOf
  split
  · split <;> omega
  · omega
/-- What the bytes behind a place say, one by one. -/
theorem cont_step (l : List UInt8) (k : Nat) (N m : Nat) : cont m ((l.drop k).take (N + 1)) = if 0 ≤ restOf l k then cont (m * 64 + (restOf l k).toNat) ((l.drop (k + 1)).take N) else (if k < l.length then none else some m) := by
  by_cases hk : k < l.length
  · rw [List.drop_eq_getElem_cons hk, List.take_succ_cons]
    simp only [cont]
    have hr : restOf l k = if 128 ≤ l[k].toNat ∧ l[k].toNat < 192 then (l[k].toNat : Int) - 128 else -1 := by
      unfold restOf; rw [List.getElem?_eq_getElem hk]
    by_cases hc : 128 ≤ l[k].toNat ∧ l[k].toNat < 192
    · rw [if_pos hc] at hr ⊢
      have e : ((l[k].toNat : Int) - 128).toNat = l[k].toNat - 128 := by omega
      rw [if_pos (by omega), hr, e]
    · rw [if_neg hc] at hr ⊢
      rw [if_neg (by omega), if_pos hk]
  · have hr : restOf l k = -1 := by unfold restOf; rw [List.getElem?_eq_none (by omega)]
    rw [List.drop_of_length_le (by omega), hr]
    simp [cont, hk]
theorem cont_take0 (l : List UInt8) (k m : Nat) : cont m ((l.drop k).take 0) = some m := rfl
theorem rest_in (l : List UInt8) (k : Nat) (h : 0 ≤ restOf l k) : k < l.length := by
  obtain ⟨d, hd, _⟩ := restOf_some l k h
  rcases Nat.lt_or_ge k l.length with h | h
  · exact h
  · rw [List.getElem?_eq_none h] at hd; cases hd
def mk (least N r : Nat) : Option (Nat × Nat) := if least ≤ r ∧ isR r = true then some (r, N) else none
theorem dec_1 (l : List UInt8) (k : Nat) (c : UInt8) (hc : l[k]? = some c) (h : c.toNat < 128) : dec (l.drop k) = some (c.toNat, 1) := by
  have hk : k < l.length := by
    rcases Nat.lt_or_ge k l.length with h | h
    · exact h
    · rw [List.getElem?_eq_none h] at hc; cases hc
  rw [dec_at l k c hc 1 (by simp [lenB, h]) (by decide) (by omega)]
  have : msk 1 c.toNat = c.toNat := by simp [msk]; omega
  rw [this]
  simp only [Nat.sub_self, List.take_zero, cont]
  rw [if_pos ⟨Nat.zero_le _, by simp [isR]; omega⟩]
theorem dec_0 (l : List UInt8) (k : Nat) (c : UInt8) (hc : l[k]? = some c) (h : (128 ≤ c.toNat ∧ c.toNat < 192) ∨ 248 ≤ c.toNat) : dec (l.drop k) = none := by
  refine dec_none l k c hc (.inl ?_)
  unfold lenB
  rcases h with h | h
  · rw [if_neg (by omega), if_pos (by omega)]
  · rw [if_neg (by omega), if_neg (by omega), if_neg (by omega), if_neg (by omega), if_neg (by omega)]
theorem dec_2 (l : List UInt8) (k : Nat) (c : UInt8) (hc : l[k]? = some c) (h : 192 ≤ c.toNat ∧ c.toNat < 224) :
    dec (l.drop k) = if 0 ≤ restOf l (k + 1) then mk 128 2 ((c.toNat - 192) * 64 + (restOf l (k + 1)).toNat) else none := by
  have hL : lenB c.toNat = 2 := by unfold lenB; rw [if_neg (by omega), if_neg (by omega), if_pos (by omega)]
  have hm : msk 2 c.toNat = c.toNat - 192 := by simp only [msk]; simp; omega
  by_cases h1 : 0 ≤ restOf l (k + 1)
  · have := rest_in _ _ h1
    rw [dec_at l k c hc 2 hL (by decide) (by omega), hm, cont_step, if_pos h1, if_pos h1, cont_take0]
    rfl
  · rw [if_neg h1]
    by_cases hs : k + 2 ≤ l.length
    · rw [dec_at l k c hc 2 hL (by decide) hs, hm, cont_step, if_neg h1, if_pos (by omega)]
    · exact dec_none l k c hc (.inr (by omega))
theorem dec_3 (l : List UInt8) (k : Nat) (c : UInt8) (hc : l[k]? = some c) (h : 224 ≤ c.toNat ∧ c.toNat < 240) :
    dec (l.drop k) = if 0 ≤ restOf l (k + 1) ∧ 0 ≤ restOf l (k + 2) then mk 2048 3 (((c.toNat - 224) * 64 + (restOf l (k + 1)).toNat) * 64 + (restOf l (k + 2)).toNat) else none := by
  have hL : lenB c.toNat = 3 := by unfold lenB; rw [if_neg (by omega), if_neg (by omega), if_neg (by omega), if_pos (by omega)]
  have hm : msk 3 c.toNat = c.toNat - 224 := by simp only [msk]; simp; omega
  by_cases hs : k + 3 ≤ l.length
  · rw [dec_at l k c hc 3 hL (by decide) hs, hm, cont_step]
    by_cases h1 : 0 ≤ restOf l (k + 1)
    · rw [if_pos h1, cont_step]
      by_cases h2 : 0 ≤ restOf l (k + 2)
      · rw [if_pos h2, if_pos ⟨h1, h2⟩, cont_take0]
        rfl
      · rw [if_neg h2, if_pos (by omega : k + 1 + 1 < l.length), if_neg (fun h => h2 h.2)]
    · rw [if_neg h1, if_pos (by omega : k + 1 < l.length), if_neg (fun h => h1 h.1)]
  · rw [dec_none l k c hc (.inr (by omega)), if_neg (fun h => by have := rest_in _ _ h.2; omega)]
theorem dec_4 (l : List UInt8) (k : Nat) (c : UInt8) (hc : l[k]? = some c) (h : 240 ≤ c.toNat ∧ c.toNat < 248) :
    dec (l.drop k) = if 0 ≤ restOf l (k + 1) ∧ 0 ≤ restOf l (k + 2) ∧ 0 ≤ restOf l (k + 3) then mk 65536 4 ((((c.toNat - 240) * 64 + (restOf l (k + 1)).toNat) * 64 + (restOf l (k + 2)).toNat) * 64 + (restOf l (k + 3)).toNat) else none := by
  have hL : lenB c.toNat = 4 := by unfold lenB; rw [if_neg (by omega), if_neg (by omega), if_neg (by omega), if_neg (by omega), if_pos (by omega)]
  have hm : msk 4 c.toNat = c.toNat - 240 := by simp only [msk]; simp; omega
  by_cases hs : k + 4 ≤ l.length
  · rw [dec_at l k c hc 4 hL (by decide) hs, hm, cont_step]
    by_cases h1 : 0 ≤ restOf l (k + 1)
    · rw [if_pos h1, cont_step]
      by_cases h2 : 0 ≤ restOf l (k + 2)
      · rw [if_pos h2, cont_step]
        by_cases h3 : 0 ≤ restOf l (k + 3)
        · rw [if_pos h3, if_pos ⟨h1, h2, h3⟩, cont_take0]
          rfl
        · rw [if_neg h3, if_pos (by omega : k + 1 + 1 + 1 < l.length), if_neg (fun h => h3 h.2.2)]
      · rw [if_neg h2, if_pos (by omega : k + 1 + 1 < l.length), if_neg (fun h => h2 h.2.1)]
    · rw [if_neg h1, if_pos (by omega : k + 1 < l.length), if_neg (fun h => h1 h.1)]
  · rw [dec_none l k c hc (.inr (by omega)), if_neg (fun h => by have := rest_in _ _ h.2.2; omega)]
def pairV : Option (Nat × Nat) → Value
  | some (r, n) => .tuple #[.int .i64 r, .int .i64 n]
  | none => .tuple #[.int .i64 0, .int .i64 0]
theorem bytesN_eq (r : Int) (N : Nat) (h : (N = 1 ∧ r < 128) ∨ (N = 2 ∧ 128 ≤ r ∧ r < 2048) ∨ (N = 3 ∧ 2048 ≤ r ∧ r < 65536) ∨ (N = 4 ∧ 65536 ≤ r)) : bytesN r = N := by
  unfold bytesN
  rcases h with ⟨rfl, h⟩ | ⟨rfl, h⟩ | ⟨rfl, h⟩ | ⟨rfl, h⟩
  · rw [if_pos h]
  · rw [if_neg (by omega), if_pos (by omega)]
  · rw [if_neg (by omega), if_neg (by omega), if_pos (by omega)]
  · rw [if_neg (by omega), if_neg (by omega), if_neg (by omega)]
theorem bytesN_lt (r : Int) (N : Nat) (h : (N = 2 ∧ r < 128) ∨ (N = 3 ∧ r < 2048) ∨ (N = 4 ∧ r < 65536)) : bytesN r < N := by
  have e : bytesN r ≤ 4 ∧ (r < 128 → bytesN r ≤ 1) ∧ (r < 2048 → bytesN r ≤ 2) ∧ (r < 65536 → bytesN r ≤ 3) := by
    unfold bytesN
    by_cases h1 : r < 128
    · simp [h1]
    · by_cases h2 : r < 2048
      · simp [h1, h2]
      · by_cases h3 : r < 65536
        · simp [h1, h2, h3]
        · simp [h1, h2, h3]
  omega
set_option maxRecDepth 100000 in
set_option maxHeartbeats 8000000 in
theorem refDec_a (A : Option Addr) (n cap : Nat) (l : List UInt8) (k : Nat) (w : World) (B : Nat) (h : Byt w B A n cap l) (hk : k < n) (hm : n ≤ 50000) (c : UInt8) (hc : l[k]? = some c) (hcl : 0 ≤ c.toNat ∧ c.toNat ≤ 127) :
    Calls Tryd.prog 78 #[.slice A n cap, .int .i64 k] w fun e w' => e = .returned (pairV (dec (l.drop k))) ∧ Below w.heap.size w w' := by
  have hdec : dec (l.drop k) = some (c.toNat, 1) := dec_1 l k c hc (by omega)
  obtain ⟨b, o, c', rfl, hb, hc', hcell⟩ := h.cell hk
  obtain rfl : c' = c := by rw [hc] at hc'; exact (Option.some.inj hc').symm
  have r1 := rest_c (some ⟨b, o, none⟩) n cap l (k + 1) w B h
  have r2 := rest_c (some ⟨b, o, none⟩) n cap l (k + 2) w B h
  have r3 := rest_c (some ⟨b, o, none⟩) n cap l (k + 3) w B h
  rw [show ((k + 1 : Nat) : Int) = (k : Int) + 1 by omega] at r1
  rw [show ((k + 2 : Nat) : Int) = (k : Int) + 2 by omega] at r2
  rw [show ((k + 3 : Nat) : Int) = (k : Int) + 3 by omega] at r3
  have b1 := restOf_lt l (k + 1)
  have b2 := restOf_lt l (k + 2)
  have b3 := restOf_lt l (k + 3)
  have hkn : (k : Int) < (n : Int) := by omega
  generalize restOf l (k + 1) = x at *
  generalize restOf l (k + 2) = y at *
  generalize restOf l (k + 3) = z at *
  have HD := Lib.hid hdec
  clear hdec h hc hc'
  generalize c'.toNat = cc at *
  have a0 : decide ((cc : Int) < 128) = true := by simp; omega
  have a1 : decide (192 ≤ (cc : Int)) = false := by simp; omega
  have a2 : decide ((cc : Int) < 224) = true := by simp; omega
  have a3 : decide (224 ≤ (cc : Int)) = false := by simp; omega
  have a4 : decide ((cc : Int) < 240) = true := by simp; omega
  have a5 : decide (240 ≤ (cc : Int)) = false := by simp; omega
  have a6 : decide ((cc : Int) < 248) = true := by simp; omega
  have hI : ∀ w0 : World, Calls Tryd.prog 105 #[.int .i64 (cc : Int)] w0 fun e w' => e = .returned (.bool true) ∧ w0 = w' := fun w0 => by
    have := ref02Is_c (cc : Int) w0
    rwa [show isR (cc : Int) = true by rw [isR_iff]; omega] at this
  have hB := fun w0 => bytes_c (cc : Int) w0 (by omega) (by omega)
  rw [bytesN_eq (cc : Int) 1 (by omega)] at hB
  go_enter Tryd.func78, Tryd.ntmps78
  go_wp2_with fail
  refine r1.mono ?_
  rintro e w1 ⟨rfl, rfl⟩
  go_wp2_with fail
  refine r2.mono ?_
  rintro e w1 ⟨rfl, rfl⟩
  go_wp2_with fail
  refine r3.mono ?_
  rintro e w1 ⟨rfl, rfl⟩
  go_wp2_with fail
  refine (hI _).mono ?_
  rintro e w1 ⟨rfl, rfl⟩
  go_wp2_with fail
  refine (hB _).mono ?_
  rintro e w1 ⟨⟨a, rfl⟩, hb1⟩
  have HB := Lib.hid hb1
  clear hb1 hcell
  go_wp2
  go_ret2
  exact ⟨by rw [HD.out]; rfl, HB.out⟩
set_option maxRecDepth 100000 in
set_option maxHeartbeats 8000000 in
theorem refDec_b (A : Option Addr) (n cap : Nat) (l : List UInt8) (k : Nat) (w : World) (B : Nat) (h : Byt w B A n cap l) (hk : k < n) (hm : n ≤ 50000) (c : UInt8) (hc : l[k]? = some c) (hcl : 128 ≤ c.toNat ∧ c.toNat ≤ 191) :
    Calls Tryd.prog 78 #[.slice A n cap, .int .i64 k] w fun e w' => e = .returned (pairV (dec (l.drop k))) ∧ Below w.heap.size w w' := by
  have hdec : dec (l.drop k) = none := dec_0 l k c hc (by omega)
  obtain ⟨b, o, c', rfl, hb, hc', hcell⟩ := h.cell hk
  obtain rfl : c' = c := by rw [hc] at hc'; exact (Option.some.inj hc').symm
  have r1 := rest_c (some ⟨b, o, none⟩) n cap l (k + 1) w B h
  have r2 := rest_c (some ⟨b, o, none⟩) n cap l (k + 2) w B h
  have r3 := rest_c (some ⟨b, o, none⟩) n cap l (k + 3) w B h
  rw [show ((k + 1 : Nat) : Int) = (k : Int) + 1 by omega] at r1
  rw [show ((k + 2 : Nat) : Int) = (k : Int) + 2 by omega] at r2
  rw [show ((k + 3 : Nat) : Int) = (k : Int) + 3 by omega] at r3
  have b1 := restOf_lt l (k + 1)
  have b2 := restOf_lt l (k + 2)
  have b3 := restOf_lt l (k + 3)
  have hkn : (k : Int) < (n : Int) := by omega
  generalize restOf l (k + 1) = x at *
  generalize restOf l (k + 2) = y at *
  generalize restOf l (k + 3) = z at *
  have HD := Lib.hid hdec
  clear hdec h hc hc'
  generalize c'.toNat = cc at *
  have a0 : decide ((cc : Int) < 128) = false := by simp; omega
  have a1 : decide (192 ≤ (cc : Int)) = false := by simp; omega
  have a2 : decide ((cc : Int) < 224) = true := by simp; omega
  have a3 : decide (224 ≤ (cc : Int)) = false := by simp; omega
  have a4 : decide ((cc : Int) < 240) = true := by simp; omega
  have a5 : decide (240 ≤ (cc : Int)) = false := by simp; omega
  have a6 : decide ((cc : Int) < 248) = true := by simp; omega
  go_enter Tryd.func78, Tryd.ntmps78
  go_wp2_with fail
  refine r1.mono ?_
  rintro e w1 ⟨rfl, rfl⟩
  go_wp2_with fail
  refine r2.mono ?_
  rintro e w1 ⟨rfl, rfl⟩
  go_wp2_with fail
  refine r3.mono ?_
  rintro e w1 ⟨rfl, rfl⟩
  go_wp2
  go_ret2
  exact ⟨by rw [HD.out]; rfl, Below.refl _ _⟩
set_option maxRecDepth 100000 in
set_option maxHeartbeats 8000000 in
theorem refDec_cc (A : Option Addr) (n cap : Nat) (l : List UInt8) (k : Nat) (w : World) (B : Nat) (h : Byt w B A n cap l) (hk : k < n) (hm : n ≤ 50000) (c : UInt8) (hc : l[k]? = some c) (hcl : 192 ≤ c.toNat ∧ c.toNat ≤ 223) (hx : 0 ≤ restOf l (k + 1)) :
    Calls Tryd.prog 78 #[.slice A n cap, .int .i64 k] w fun e w' => e = .returned (pairV (dec (l.drop k))) ∧ Below w.heap.size w w' := by
  have hdec : dec (l.drop k) = mk 128 2 ((c.toNat - 192) * 64 + (restOf l (k + 1)).toNat) := by rw [dec_2 l k c hc (by omega), if_pos (by omega)]
  obtain ⟨b, o, c', rfl, hb, hc', hcell⟩ := h.cell hk
  obtain rfl : c' = c := by rw [hc] at hc'; exact (Option.some.inj hc').symm
  have r1 := rest_c (some ⟨b, o, none⟩) n cap l (k + 1) w B h
  have r2 := rest_c (some ⟨b, o, none⟩) n cap l (k + 2) w B h
  have r3 := rest_c (some ⟨b, o, none⟩) n cap l (k + 3) w B h
  rw [show ((k + 1 : Nat) : Int) = (k : Int) + 1 by omega] at r1
  rw [show ((k + 2 : Nat) : Int) = (k : Int) + 2 by omega] at r2
  rw [show ((k + 3 : Nat) : Int) = (k : Int) + 3 by omega] at r3
  have b1 := restOf_lt l (k + 1)
  have b2 := restOf_lt l (k + 2)
  have b3 := restOf_lt l (k + 3)
  have hkn : (k : Int) < (n : Int) := by omega
  generalize restOf l (k + 1) = x at *
  generalize restOf l (k + 2) = y at *
  generalize restOf l (k + 3) = z at *
  have HD := Lib.hid hdec
  clear hdec h hc hc'
  generalize c'.toNat = cc at *
  have a0 : decide ((cc : Int) < 128) = false := by simp; omega
  have a1 : decide (192 ≤ (cc : Int)) = true := by simp; omega
  have a2 : decide ((cc : Int) < 224) = true := by simp; omega
  have a3 : decide (224 ≤ (cc : Int)) = false := by simp; omega
  have a4 : decide ((cc : Int) < 240) = true := by simp; omega
  have a5 : decide (240 ≤ (cc : Int)) = false := by simp; omega
  have a6 : decide ((cc : Int) < 248) = true := by simp; omega
  have px : decide (0 ≤ x) = true := by simp; omega
  have hR : ∃ Rn : Nat, (Rn : Int) = ((cc : Int) - 192) * 64 + x ∧ dec (l.drop k) = mk 128 2 Rn := ⟨_, by omega, HD.out⟩
  obtain ⟨Rn, hRn, hdec⟩ := hR
  have HR := Lib.hid hRn
  have hbd : 0 ≤ ((cc : Int) - 192) * 64 + x ∧ ((cc : Int) - 192) * 64 + x ≤ 2097151 := by omega
  cases his : isR (((cc : Int) - 192) * 64 + x) with
  | false =>
    have hI : ∀ w0 : World, Calls Tryd.prog 105 #[.int .i64 (((cc : Int) - 192) * 64 + x)] w0 fun e w' => e = .returned (.bool false) ∧ w0 = w' := fun w0 => by
      have := ref02Is_c (((cc : Int) - 192) * 64 + x) w0
      rwa [his] at this
    have HN : Hid (dec (l.drop k) = none) := Lib.hid (by rw [hdec]; unfold mk; rw [if_neg (fun hh => by rw [hRn, his] at hh; cases hh.2)])
    clear hRn hdec HD his hbd
    go_enter Tryd.func78, Tryd.ntmps78
    go_wp2_with fail
    refine r1.mono ?_
    rintro e w1 ⟨rfl, rfl⟩
    go_wp2_with fail
    refine r2.mono ?_
    rintro e w1 ⟨rfl, rfl⟩
    go_wp2_with fail
    refine r3.mono ?_
    rintro e w1 ⟨rfl, rfl⟩
    go_wp2_with fail
    refine (hI _).mono ?_
    rintro e w1 ⟨rfl, rfl⟩
    go_wp2
    go_ret2
    exact ⟨by rw [HN.out]; rfl, Below.refl _ _⟩
  | true =>
    have hI : ∀ w0 : World, Calls Tryd.prog 105 #[.int .i64 (((cc : Int) - 192) * 64 + x)] w0 fun e w' => e = .returned (.bool true) ∧ w0 = w' := fun w0 => by
      have := ref02Is_c (((cc : Int) - 192) * 64 + x) w0
      rwa [his] at this
    have hle : ((cc : Int) - 192) * 64 + x ≤ 1114111 := by rw [isR_iff] at his; omega
    have hB := fun w0 => bytes_c (((cc : Int) - 192) * 64 + x) w0 hbd.1 hle
    by_cases hls : 128 ≤ ((cc : Int) - 192) * 64 + x
    · rw [bytesN_eq (((cc : Int) - 192) * 64 + x) 2 (by omega)] at hB
      have HN : Hid (dec (l.drop k) = some (Rn, 2)) := Lib.hid (by rw [hdec]; unfold mk; rw [if_pos ⟨by omega, by rw [hRn]; exact his⟩])
      clear hRn hdec HD his hbd hle hls
      go_enter Tryd.func78, Tryd.ntmps78
      go_wp2_with fail
      refine r1.mono ?_
      rintro e w1 ⟨rfl, rfl⟩
      go_wp2_with fail
      refine r2.mono ?_
      rintro e w1 ⟨rfl, rfl⟩
      go_wp2_with fail
      refine r3.mono ?_
      rintro e w1 ⟨rfl, rfl⟩
      go_wp2_with fail
      refine (hI _).mono ?_
      rintro e w1 ⟨rfl, rfl⟩
      go_wp2_with fail
      refine (hB _).mono ?_
      rintro e w1 ⟨⟨a, rfl⟩, hb1⟩
      have HB := Lib.hid hb1
      clear hb1 hcell
      go_wp2
      go_ret2
      refine ⟨?_, HB.out⟩
      rw [HN.out]
      show _ = Ending.returned (.tuple #[.int .i64 (Rn : Int), .int .i64 ((2 : Nat) : Int)])
      rw [HR.out]
      rfl
    · have hlt := bytesN_lt (((cc : Int) - 192) * 64 + x) 2 (by omega)
      have HN : Hid (dec (l.drop k) = none) := Lib.hid (by rw [hdec]; unfold mk; rw [if_neg (fun hh => by have := hh.1; omega)])
      generalize bytesN (((cc : Int) - 192) * 64 + x) = bn at *
      have hbn : ((bn : Int) != 2) = true := by simp; omega
      clear hRn hdec HD his hbd hle hls hlt
      go_enter Tryd.func78, Tryd.ntmps78
      go_wp2_with fail
      refine r1.mono ?_
      rintro e w1 ⟨rfl, rfl⟩
      go_wp2_with fail
      refine r2.mono ?_
      rintro e w1 ⟨rfl, rfl⟩
      go_wp2_with fail
      refine r3.mono ?_
      rintro e w1 ⟨rfl, rfl⟩
      go_wp2_with fail
      refine (hI _).mono ?_
      rintro e w1 ⟨rfl, rfl⟩
      go_wp2_with fail
      refine (hB _).mono ?_
      rintro e w1 ⟨⟨a, rfl⟩, hb1⟩
      have HB := Lib.hid hb1
      clear hb1 hcell
      go_wp2
      go_ret2
      exact ⟨by rw [HN.out]; rfl, HB.out⟩
set_option maxRecDepth 100000 in
set_option maxHeartbeats 8000000 in
theorem refDec_d (A : Option Addr) (n cap : Nat) (l : List UInt8) (k : Nat) (w : World) (B : Nat) (h : Byt w B A n cap l) (hk : k < n) (hm : n ≤ 50000) (c : UInt8) (hc : l[k]? = some c) (hcl : 192 ≤ c.toNat ∧ c.toNat ≤ 223) (hx : restOf l (k + 1) < 0) :
    Calls Tryd.prog 78 #[.slice A n cap, .int .i64 k] w fun e w' => e = .returned (pairV (dec (l.drop k))) ∧ Below w.heap.size w w' := by
  have hdec : dec (l.drop k) = none := by rw [dec_2 l k c hc (by omega), if_neg (by omega)]
  obtain ⟨b, o, c', rfl, hb, hc', hcell⟩ := h.cell hk
  obtain rfl : c' = c := by rw [hc] at hc'; exact (Option.some.inj hc').symm
  have r1 := rest_c (some ⟨b, o, none⟩) n cap l (k + 1) w B h
  have r2 := rest_c (some ⟨b, o, none⟩) n cap l (k + 2) w B h
  have r3 := rest_c (some ⟨b, o, none⟩) n cap l (k + 3) w B h
  rw [show ((k + 1 : Nat) : Int) = (k : Int) + 1 by omega] at r1
  rw [show ((k + 2 : Nat) : Int) = (k : Int) + 2 by omega] at r2
  rw [show ((k + 3 : Nat) : Int) = (k : Int) + 3 by omega] at r3
  have b1 := restOf_lt l (k + 1)
  have b2 := restOf_lt l (k + 2)
  have b3 := restOf_lt l (k + 3)
  have hkn : (k : Int) < (n : Int) := by omega
  generalize restOf l (k + 1) = x at *
  generalize restOf l (k + 2) = y at *
  generalize restOf l (k + 3) = z at *
  have HD := Lib.hid hdec
  clear hdec h hc hc'
  generalize c'.toNat = cc at *
  have a0 : decide ((cc : Int) < 128) = false := by simp; omega
  have a1 : decide (192 ≤ (cc : Int)) = true := by simp; omega
  have a2 : decide ((cc : Int) < 224) = true := by simp; omega
  have a3 : decide (224 ≤ (cc : Int)) = false := by simp; omega
  have a4 : decide ((cc : Int) < 240) = true := by simp; omega
  have a5 : decide (240 ≤ (cc : Int)) = false := by simp; omega
  have a6 : decide ((cc : Int) < 248) = true := by simp; omega
  have px : decide (0 ≤ x) = false := by simp; omega
  go_enter Tryd.func78, Tryd.ntmps78
  go_wp2_with fail
  refine r1.mono ?_
  rintro e w1 ⟨rfl, rfl⟩
  go_wp2_with fail
  refine r2.mono ?_
  rintro e w1 ⟨rfl, rfl⟩
  go_wp2_with fail
  refine r3.mono ?_
  rintro e w1 ⟨rfl, rfl⟩
  go_wp2
  go_ret2
  exact ⟨by rw [HD.out]; rfl, Below.refl _ _⟩
set_option maxRecDepth 100000 in
set_option maxHeartbeats 8000000 in
theorem refDec_e (A : Option Addr) (n cap : Nat) (l : List UInt8) (k : Nat) (w : World) (B : Nat) (h : Byt w B A n cap l) (hk : k < n) (hm : n ≤ 50000) (c : UInt8) (hc : l[k]? = some c) (hcl : 224 ≤ c.toNat ∧ c.toNat ≤ 239) (hx : 0 ≤ restOf l (k + 1)) (hy : 0 ≤ restOf l (k + 2)) :
    Calls Tryd.prog 78 #[.slice A n cap, .int .i64 k] w fun e w' => e = .returned (pairV (dec (l.drop k))) ∧ Below w.heap.size w w' := by
  have hdec : dec (l.drop k) = mk 2048 3 (((c.toNat - 224) * 64 + (restOf l (k + 1)).toNat) * 64 + (restOf l (k + 2)).toNat) := by rw [dec_3 l k c hc (by omega), if_pos (by omega)]
  obtain ⟨b, o, c', rfl, hb, hc', hcell⟩ := h.cell hk
  obtain rfl : c' = c := by rw [hc] at hc'; exact (Option.some.inj hc').symm
  have r1 := rest_c (some ⟨b, o, none⟩) n cap l (k + 1) w B h
  have r2 := rest_c (some ⟨b, o, none⟩) n cap l (k + 2) w B h
  have r3 := rest_c (some ⟨b, o, none⟩) n cap l (k + 3) w B h
  rw [show ((k + 1 : Nat) : Int) = (k : Int) + 1 by omega] at r1
  rw [show ((k + 2 : Nat) : Int) = (k : Int) + 2 by omega] at r2
  rw [show ((k + 3 : Nat) : Int) = (k : Int) + 3 by omega] at r3
  have b1 := restOf_lt l (k + 1)
  have b2 := restOf_lt l (k + 2)
  have b3 := restOf_lt l (k + 3)
  have hkn : (k : Int) < (n : Int) := by omega
  generalize restOf l (k + 1) = x at *
  generalize restOf l (k + 2) = y at *
  generalize restOf l (k + 3) = z at *
  have HD := Lib.hid hdec
  clear hdec h hc hc'
  generalize c'.toNat = cc at *
  have a0 : decide ((cc : Int) < 128) = false := by simp; omega
  have a1 : decide (192 ≤ (cc : Int)) = true := by simp; omega
  have a2 : decide ((cc : Int) < 224) = false := by simp; omega
  have a3 : decide (224 ≤ (cc : Int)) = true := by simp; omega
  have a4 : decide ((cc : Int) < 240) = true := by simp; omega
  have a5 : decide (240 ≤ (cc : Int)) = false := by simp; omega
  have a6 : decide ((cc : Int) < 248) = true := by simp; omega
  have px : decide (0 ≤ x) = true := by simp; omega
  have py : decide (0 ≤ y) = true := by simp; omega
  have hR : ∃ Rn : Nat, (Rn : Int) = (((cc : Int) - 224) * 64 + x) * 64 + y ∧ dec (l.drop k) = mk 2048 3 Rn := ⟨_, by omega, HD.out⟩
  obtain ⟨Rn, hRn, hdec⟩ := hR
  have HR := Lib.hid hRn
  have hbd : 0 ≤ (((cc : Int) - 224) * 64 + x) * 64 + y ∧ (((cc : Int) - 224) * 64 + x) * 64 + y ≤ 2097151 := by omega
  cases his : isR ((((cc : Int) - 224) * 64 + x) * 64 + y) with
  | false =>
    have hI : ∀ w0 : World, Calls Tryd.prog 105 #[.int .i64 ((((cc : Int) - 224) * 64 + x) * 64 + y)] w0 fun e w' => e = .returned (.bool false) ∧ w0 = w' := fun w0 => by
      have := ref02Is_c ((((cc : Int) - 224) * 64 + x) * 64 + y) w0
      rwa [his] at this
    have HN : Hid (dec (l.drop k) = none) := Lib.hid (by rw [hdec]; unfold mk; rw [if_neg (fun hh => by rw [hRn, his] at hh; cases hh.2)])
    clear hRn hdec HD his hbd
    go_enter Tryd.func78, Tryd.ntmps78
    go_wp2_with fail
    refine r1.mono ?_
    rintro e w1 ⟨rfl, rfl⟩
    go_wp2_with fail
    refine r2.mono ?_
    rintro e w1 ⟨rfl, rfl⟩
    go_wp2_with fail
    refine r3.mono ?_
    rintro e w1 ⟨rfl, rfl⟩
    go_wp2_with fail
    refine (hI _).mono ?_
    rintro e w1 ⟨rfl, rfl⟩
    go_wp2
    go_ret2
    exact ⟨by rw [HN.out]; rfl, Below.refl _ _⟩
  | true =>
    have hI : ∀ w0 : World, Calls Tryd.prog 105 #[.int .i64 ((((cc : Int) - 224) * 64 + x) * 64 + y)] w0 fun e w' => e = .returned (.bool true) ∧ w0 = w' := fun w0 => by
      have := ref02Is_c ((((cc : Int) - 224) * 64 + x) * 64 + y) w0
      rwa [his] at this
    have hle : (((cc : Int) - 224) * 64 + x) * 64 + y ≤ 1114111 := by rw [isR_iff] at his; omega
    have hB := fun w0 => bytes_c ((((cc : Int) - 224) * 64 + x) * 64 + y) w0 hbd.1 hle
    by_cases hls : 2048 ≤ (((cc : Int) - 224) * 64 + x) * 64 + y
    · rw [bytesN_eq ((((cc : Int) - 224) * 64 + x) * 64 + y) 3 (by omega)] at hB
      have HN : Hid (dec (l.drop k) = some (Rn, 3)) := Lib.hid (by rw [hdec]; unfold mk; rw [if_pos ⟨by omega, by rw [hRn]; exact his⟩])
      clear hRn hdec HD his hbd hle hls
      go_enter Tryd.func78, Tryd.ntmps78
      go_wp2_with fail
      refine r1.mono ?_
      rintro e w1 ⟨rfl, rfl⟩
      go_wp2_with fail
      refine r2.mono ?_
      rintro e w1 ⟨rfl, rfl⟩
      go_wp2_with fail
      refine r3.mono ?_
      rintro e w1 ⟨rfl, rfl⟩
      go_wp2_with fail
      refine (hI _).mono ?_
      rintro e w1 ⟨rfl, rfl⟩
      go_wp2_with fail
      refine (hB _).mono ?_
      rintro e w1 ⟨⟨a, rfl⟩, hb1⟩
      have HB := Lib.hid hb1
      clear hb1 hcell
      go_wp2
      go_ret2
      refine ⟨?_, HB.out⟩
      rw [HN.out]
      show _ = Ending.returned (.tuple #[.int .i64 (Rn : Int), .int .i64 ((3 : Nat) : Int)])
      rw [HR.out]
      rfl
    · have hlt := bytesN_lt ((((cc : Int) - 224) * 64 + x) * 64 + y) 3 (by omega)
      have HN : Hid (dec (l.drop k) = none) := Lib.hid (by rw [hdec]; unfold mk; rw [if_neg (fun hh => by have := hh.1; omega)])
      generalize bytesN ((((cc : Int) - 224) * 64 + x) * 64 + y) = bn at *
      have hbn : ((bn : Int) != 3) = true := by simp; omega
      clear hRn hdec HD his hbd hle hls hlt
      go_enter Tryd.func78, Tryd.ntmps78
      go_wp2_with fail
      refine r1.mono ?_
      rintro e w1 ⟨rfl, rfl⟩
      go_wp2_with fail
      refine r2.mono ?_
      rintro e w1 ⟨rfl, rfl⟩
      go_wp2_with fail
      refine r3.mono ?_
      rintro e w1 ⟨rfl, rfl⟩
      go_wp2_with fail
      refine (hI _).mono ?_
      rintro e w1 ⟨rfl, rfl⟩
      go_wp2_with fail
      refine (hB _).mono ?_
      rintro e w1 ⟨⟨a, rfl⟩, hb1⟩
      have HB := Lib.hid hb1
      clear hb1 hcell
      go_wp2
      go_ret2
      exact ⟨by rw [HN.out]; rfl, HB.out⟩
set_option maxRecDepth 100000 in
set_option maxHeartbeats 8000000 in
theorem refDec_f (A : Option Addr) (n cap : Nat) (l : List UInt8) (k : Nat) (w : World) (B : Nat) (h : Byt w B A n cap l) (hk : k < n) (hm : n ≤ 50000) (c : UInt8) (hc : l[k]? = some c) (hcl : 224 ≤ c.toNat ∧ c.toNat ≤ 239) (hx : restOf l (k + 1) < 0) :
    Calls Tryd.prog 78 #[.slice A n cap, .int .i64 k] w fun e w' => e = .returned (pairV (dec (l.drop k))) ∧ Below w.heap.size w w' := by
  have hdec : dec (l.drop k) = none := by rw [dec_3 l k c hc (by omega), if_neg (by omega)]
  obtain ⟨b, o, c', rfl, hb, hc', hcell⟩ := h.cell hk
  obtain rfl : c' = c := by rw [hc] at hc'; exact (Option.some.inj hc').symm
  have r1 := rest_c (some ⟨b, o, none⟩) n cap l (k + 1) w B h
  have r2 := rest_c (some ⟨b, o, none⟩) n cap l (k + 2) w B h
  have r3 := rest_c (some ⟨b, o, none⟩) n cap l (k + 3) w B h
  rw [show ((k + 1 : Nat) : Int) = (k : Int) + 1 by omega] at r1
  rw [show ((k + 2 : Nat) : Int) = (k : Int) + 2 by omega] at r2
  rw [show ((k + 3 : Nat) : Int) = (k : Int) + 3 by omega] at r3
  have b1 := restOf_lt l (k + 1)
  have b2 := restOf_lt l (k + 2)
  have b3 := restOf_lt l (k + 3)
  have hkn : (k : Int) < (n : Int) := by omega
  generalize restOf l (k + 1) = x at *
  generalize restOf l (k + 2) = y at *
  generalize restOf l (k + 3) = z at *
  have HD := Lib.hid hdec
  clear hdec h hc hc'
  generalize c'.toNat = cc at *
  have a0 : decide ((cc : Int) < 128) = false := by simp; omega
  have a1 : decide (192 ≤ (cc : Int)) = true := by simp; omega
  have a2 : decide ((cc : Int) < 224) = false := by simp; omega
  have a3 : decide (224 ≤ (cc : Int)) = true := by simp; omega
  have a4 : decide ((cc : Int) < 240) = true := by simp; omega
  have a5 : decide (240 ≤ (cc : Int)) = false := by simp; omega
  have a6 : decide ((cc : Int) < 248) = true := by simp; omega
  have px : decide (0 ≤ x) = false := by simp; omega
  go_enter Tryd.func78, Tryd.ntmps78
  go_wp2_with fail
  refine r1.mono ?_
  rintro e w1 ⟨rfl, rfl⟩
  go_wp2_with fail
  refine r2.mono ?_
  rintro e w1 ⟨rfl, rfl⟩
  go_wp2_with fail
  refine r3.mono ?_
  rintro e w1 ⟨rfl, rfl⟩
  go_wp2
  go_ret2
  exact ⟨by rw [HD.out]; rfl, Below.refl _ _⟩
set_option maxRecDepth 100000 in
set_option maxHeartbeats 8000000 in
theorem refDec_g (A : Option Addr) (n cap : Nat) (l : List UInt8) (k : Nat) (w : World) (B : Nat) (h : Byt w B A n cap l) (hk : k < n) (hm : n ≤ 50000) (c : UInt8) (hc : l[k]? = some c) (hcl : 224 ≤ c.toNat ∧ c.toNat ≤ 239) (hx : 0 ≤ restOf l (k + 1)) (hy : restOf l (k + 2) < 0) :
    Calls Tryd.prog 78 #[.slice A n cap, .int .i64 k] w fun e w' => e = .returned (pairV (dec (l.drop k))) ∧ Below w.heap.size w w' := by
  have hdec : dec (l.drop k) = none := by rw [dec_3 l k c hc (by omega), if_neg (by omega)]
  obtain ⟨b, o, c', rfl, hb, hc', hcell⟩ := h.cell hk
  obtain rfl : c' = c := by rw [hc] at hc'; exact (Option.some.inj hc').symm
  have r1 := rest_c (some ⟨b, o, none⟩) n cap l (k + 1) w B h
  have r2 := rest_c (some ⟨b, o, none⟩) n cap l (k + 2) w B h
  have r3 := rest_c (some ⟨b, o, none⟩) n cap l (k + 3) w B h
  rw [show ((k + 1 : Nat) : Int) = (k : Int) + 1 by omega] at r1
  rw [show ((k + 2 : Nat) : Int) = (k : Int) + 2 by omega] at r2
  rw [show ((k + 3 : Nat) : Int) = (k : Int) + 3 by omega] at r3
  have b1 := restOf_lt l (k + 1)
  have b2 := restOf_lt l (k + 2)
  have b3 := restOf_lt l (k + 3)
  have hkn : (k : Int) < (n : Int) := by omega
  generalize restOf l (k + 1) = x at *
  generalize restOf l (k + 2) = y at *
  generalize restOf l (k + 3) = z at *
  have HD := Lib.hid hdec
  clear hdec h hc hc'
  generalize c'.toNat = cc at *
  have a0 : decide ((cc : Int) < 128) = false := by simp; omega
  have a1 : decide (192 ≤ (cc : Int)) = true := by simp; omega
  have a2 : decide ((cc : Int) < 224) = false := by simp; omega
  have a3 : decide (224 ≤ (cc : Int)) = true := by simp; omega
  have a4 : decide ((cc : Int) < 240) = true := by simp; omega
  have a5 : decide (240 ≤ (cc : Int)) = false := by simp; omega
  have a6 : decide ((cc : Int) < 248) = true := by simp; omega
  have px : decide (0 ≤ x) = true := by simp; omega
  have py : decide (0 ≤ y) = false := by simp; omega
  go_enter Tryd.func78, Tryd.ntmps78
  go_wp2_with fail
  refine r1.mono ?_
  rintro e w1 ⟨rfl, rfl⟩
  go_wp2_with fail
  refine r2.mono ?_
  rintro e w1 ⟨rfl, rfl⟩
  go_wp2_with fail
  refine r3.mono ?_
  rintro e w1 ⟨rfl, rfl⟩
  go_wp2
  go_ret2
  exact ⟨by rw [HD.out]; rfl, Below.refl _ _⟩
set_option maxRecDepth 100000 in
set_option maxHeartbeats 8000000 in
theorem refDec_h (A : Option Addr) (n cap : Nat) (l : List UInt8) (k : Nat) (w : World) (B : Nat) (h : Byt w B A n cap l) (hk : k < n) (hm : n ≤ 50000) (c : UInt8) (hc : l[k]? = some c) (hcl : 240 ≤ c.toNat ∧ c.toNat ≤ 247) (hx : 0 ≤ restOf l (k + 1)) (hy : 0 ≤ restOf l (k + 2)) (hz : 0 ≤ restOf l (k + 3)) :
    Calls Tryd.prog 78 #[.slice A n cap, .int .i64 k] w fun e w' => e = .returned (pairV (dec (l.drop k))) ∧ Below w.heap.size w w' := by
  have hdec : dec (l.drop k) = mk 65536 4 ((((c.toNat - 240) * 64 + (restOf l (k + 1)).toNat) * 64 + (restOf l (k + 2)).toNat) * 64 + (restOf l (k + 3)).toNat) := by rw [dec_4 l k c hc (by omega), if_pos (by omega)]
  obtain ⟨b, o, c', rfl, hb, hc', hcell⟩ := h.cell hk
  obtain rfl : c' = c := by rw [hc] at hc'; exact (Option.some.inj hc').symm
  have r1 := rest_c (some ⟨b, o, none⟩) n cap l (k + 1) w B h
  have r2 := rest_c (some ⟨b, o, none⟩) n cap l (k + 2) w B h
  have r3 := rest_c (some ⟨b, o, none⟩) n cap l (k + 3) w B h
  rw [show ((k + 1 : Nat) : Int) = (k : Int) + 1 by omega] at r1
  rw [show ((k + 2 : Nat) : Int) = (k : Int) + 2 by omega] at r2
  rw [show ((k + 3 : Nat) : Int) = (k : Int) + 3 by omega] at r3
  have b1 := restOf_lt l (k + 1)
  have b2 := restOf_lt l (k + 2)
  have b3 := restOf_lt l (k + 3)
  have hkn : (k : Int) < (n : Int) := by omega
  generalize restOf l (k + 1) = x at *
  generalize restOf l (k + 2) = y at *
  generalize restOf l (k + 3) = z at *
  have HD := Lib.hid hdec
  clear hdec h hc hc'
  generalize c'.toNat = cc at *
  have a0 : decide ((cc : Int) < 128) = false := by simp; omega
  have a1 : decide (192 ≤ (cc : Int)) = true := by simp; omega
  have a2 : decide ((cc : Int) < 224) = false := by simp; omega
  have a3 : decide (224 ≤ (cc : Int)) = true := by simp; omega
  have a4 : decide ((cc : Int) < 240) = false := by simp; omega
  have a5 : decide (240 ≤ (cc : Int)) = true := by simp; omega
  have a6 : decide ((cc : Int) < 248) = true := by simp; omega
  have px : decide (0 ≤ x) = true := by simp; omega
  have py : decide (0 ≤ y) = true := by simp; omega
  have pz : decide (0 ≤ z) = true := by simp; omega
  have hR : ∃ Rn : Nat, (Rn : Int) = ((((cc : Int) - 240) * 64 + x) * 64 + y) * 64 + z ∧ dec (l.drop k) = mk 65536 4 Rn := ⟨_, by omega, HD.out⟩
  obtain ⟨Rn, hRn, hdec⟩ := hR
  have HR := Lib.hid hRn
  have hbd : 0 ≤ ((((cc : Int) - 240) * 64 + x) * 64 + y) * 64 + z ∧ ((((cc : Int) - 240) * 64 + x) * 64 + y) * 64 + z ≤ 2097151 := by omega
  cases his : isR (((((cc : Int) - 240) * 64 + x) * 64 + y) * 64 + z) with
  | false =>
    have hI : ∀ w0 : World, Calls Tryd.prog 105 #[.int .i64 (((((cc : Int) - 240) * 64 + x) * 64 + y) * 64 + z)] w0 fun e w' => e = .returned (.bool false) ∧ w0 = w' := fun w0 => by
      have := ref02Is_c (((((cc : Int) - 240) * 64 + x) * 64 + y) * 64 + z) w0
      rwa [his] at this
    have HN : Hid (dec (l.drop k) = none) := Lib.hid (by rw [hdec]; unfold mk; rw [if_neg (fun hh => by rw [hRn, his] at hh; cases hh.2)])
    clear hRn hdec HD his hbd
    go_enter Tryd.func78, Tryd.ntmps78
    go_wp2_with fail
    refine r1.mono ?_
    rintro e w1 ⟨rfl, rfl⟩
    go_wp2_with fail
    refine r2.mono ?_
    rintro e w1 ⟨rfl, rfl⟩
    go_wp2_with fail
    refine r3.mono ?_
    rintro e w1 ⟨rfl, rfl⟩
    go_wp2_with fail
    refine (hI _).mono ?_
    rintro e w1 ⟨rfl, rfl⟩
    go_wp2
    go_ret2
    exact ⟨by rw [HN.out]; rfl, Below.refl _ _⟩
  | true =>
    have hI : ∀ w0 : World, Calls Tryd.prog 105 #[.int .i64 (((((cc : Int) - 240) * 64 + x) * 64 + y) * 64 + z)] w0 fun e w' => e = .returned (.bool true) ∧ w0 = w' := fun w0 => by
      have := ref02Is_c (((((cc : Int) - 240) * 64 + x) * 64 + y) * 64 + z) w0
      rwa [his] at this
    have hle : ((((cc : Int) - 240) * 64 + x) * 64 + y) * 64 + z ≤ 1114111 := by rw [isR_iff] at his; omega
    have hB := fun w0 => bytes_c (((((cc : Int) - 240) * 64 + x) * 64 + y) * 64 + z) w0 hbd.1 hle
    by_cases hls : 65536 ≤ ((((cc : Int) - 240) * 64 + x) * 64 + y) * 64 + z
    · rw [bytesN_eq (((((cc : Int) - 240) * 64 + x) * 64 + y) * 64 + z) 4 (by omega)] at hB
      have HN : Hid (dec (l.drop k) = some (Rn, 4)) := Lib.hid (by rw [hdec]; unfold mk; rw [if_pos ⟨by omega, by rw [hRn]; exact his⟩])
      clear hRn hdec HD his hbd hle hls
      go_enter Tryd.func78, Tryd.ntmps78
      go_wp2_with fail
      refine r1.mono ?_
      rintro e w1 ⟨rfl, rfl⟩
      go_wp2_with fail
      refine r2.mono ?_
      rintro e w1 ⟨rfl, rfl⟩
      go_wp2_with fail
      refine r3.mono ?_
      rintro e w1 ⟨rfl, rfl⟩
      go_wp2_with fail
      refine (hI _).mono ?_
      rintro e w1 ⟨rfl, rfl⟩
      go_wp2_with fail
      refine (hB _).mono ?_
      rintro e w1 ⟨⟨a, rfl⟩, hb1⟩
      have HB := Lib.hid hb1
      clear hb1 hcell
      go_wp2
      go_ret2
      refine ⟨?_, HB.out⟩
      rw [HN.out]
      show _ = Ending.returned (.tuple #[.int .i64 (Rn : Int), .int .i64 ((4 : Nat) : Int)])
      rw [HR.out]
      rfl
    · have hlt := bytesN_lt (((((cc : Int) - 240) * 64 + x) * 64 + y) * 64 + z) 4 (by omega)
      have HN : Hid (dec (l.drop k) = none) := Lib.hid (by rw [hdec]; unfold mk; rw [if_neg (fun hh => by have := hh.1; omega)])
      generalize bytesN (((((cc : Int) - 240) * 64 + x) * 64 + y) * 64 + z) = bn at *
      have hbn : ((bn : Int) != 4) = true := by simp; omega
      clear hRn hdec HD his hbd hle hls hlt
      go_enter Tryd.func78, Tryd.ntmps78
      go_wp2_with fail
      refine r1.mono ?_
      rintro e w1 ⟨rfl, rfl⟩
      go_wp2_with fail
      refine r2.mono ?_
      rintro e w1 ⟨rfl, rfl⟩
      go_wp2_with fail
      refine r3.mono ?_
      rintro e w1 ⟨rfl, rfl⟩
      go_wp2_with fail
      refine (hI _).mono ?_
      rintro e w1 ⟨rfl, rfl⟩
      go_wp2_with fail
      refine (hB _).mono ?_
      rintro e w1 ⟨⟨a, rfl⟩, hb1⟩
      have HB := Lib.hid hb1
      clear hb1 hcell
      go_wp2
      go_ret2
      exact ⟨by rw [HN.out]; rfl, HB.out⟩
set_option maxRecDepth 100000 in
set_option maxHeartbeats 8000000 in
theorem refDec_i (A : Option Addr) (n cap : Nat) (l : List UInt8) (k : Nat) (w : World) (B : Nat) (h : Byt w B A n cap l) (hk : k < n) (hm : n ≤ 50000) (c : UInt8) (hc : l[k]? = some c) (hcl : 240 ≤ c.toNat ∧ c.toNat ≤ 247) (hx : restOf l (k + 1) < 0) :
    Calls Tryd.prog 78 #[.slice A n cap, .int .i64 k] w fun e w' => e = .returned (pairV (dec (l.drop k))) ∧ Below w.heap.size w w' := by
  have hdec : dec (l.drop k) = none := by rw [dec_4 l k c hc (by omega), if_neg (by omega)]
  obtain ⟨b, o, c', rfl, hb, hc', hcell⟩ := h.cell hk
  obtain rfl : c' = c := by rw [hc] at hc'; exact (Option.some.inj hc').symm
  have r1 := rest_c (some ⟨b, o, none⟩) n cap l (k + 1) w B h
  have r2 := rest_c (some ⟨b, o, none⟩) n cap l (k + 2) w B h
  have r3 := rest_c (some ⟨b, o, none⟩) n cap l (k + 3) w B h
  rw [show ((k + 1 : Nat) : Int) = (k : Int) + 1 by omega] at r1
  rw [show ((k + 2 : Nat) : Int) = (k : Int) + 2 by omega] at r2
  rw [show ((k + 3 : Nat) : Int) = (k : Int) + 3 by omega] at r3
  have b1 := restOf_lt l (k + 1)
  have b2 := restOf_lt l (k + 2)
  have b3 := restOf_lt l (k + 3)
  have hkn : (k : Int) < (n : Int) := by omega
  generalize restOf l (k + 1) = x at *
  generalize restOf l (k + 2) = y at *
  generalize restOf l (k + 3) = z at *
  have HD := Lib.hid hdec
  clear hdec h hc hc'
  generalize c'.toNat = cc at *
  have a0 : decide ((cc : Int) < 128) = false := by simp; omega
  have a1 : decide (192 ≤ (cc : Int)) = true := by simp; omega
  have a2 : decide ((cc : Int) < 224) = false := by simp; omega
  have a3 : decide (224 ≤ (cc : Int)) = true := by simp; omega
  have a4 : decide ((cc : Int) < 240) = false := by simp; omega
  have a5 : decide (240 ≤ (cc : Int)) = true := by simp; omega
  have a6 : decide ((cc : Int) < 248) = true := by simp; omega
  have px : decide (0 ≤ x) = false := by simp; omega
  go_enter Tryd.func78, Tryd.ntmps78
  go_wp2_with fail
  refine r1.mono ?_
  rintro e w1 ⟨rfl, rfl⟩
  go_wp2_with fail
  refine r2.mono ?_
  rintro e w1 ⟨rfl, rfl⟩
  go_wp2_with fail
  refine r3.mono ?_
  rintro e w1 ⟨rfl, rfl⟩
  go_wp2
  go_ret2
  exact ⟨by rw [HD.out]; rfl, Below.refl _ _⟩
set_option maxRecDepth 100000 in
set_option maxHeartbeats 8000000 in
theorem refDec_j (A : Option Addr) (n cap : Nat) (l : List UInt8) (k : Nat) (w : World) (B : Nat) (h : Byt w B A n cap l) (hk : k < n) (hm : n ≤ 50000) (c : UInt8) (hc : l[k]? = some c) (hcl : 240 ≤ c.toNat ∧ c.toNat ≤ 247) (hx : 0 ≤ restOf l (k + 1)) (hy : restOf l (k + 2) < 0) :
    Calls Tryd.prog 78 #[.slice A n cap, .int .i64 k] w fun e w' => e = .returned (pairV (dec (l.drop k))) ∧ Below w.heap.size w w' := by
  have hdec : dec (l.drop k) = none := by rw [dec_4 l k c hc (by omega), if_neg (by omega)]
  obtain ⟨b, o, c', rfl, hb, hc', hcell⟩ := h.cell hk
  obtain rfl : c' = c := by rw [hc] at hc'; exact (Option.some.inj hc').symm
  have r1 := rest_c (some ⟨b, o, none⟩) n cap l (k + 1) w B h
  have r2 := rest_c (some ⟨b, o, none⟩) n cap l (k + 2) w B h
  have r3 := rest_c (some ⟨b, o, none⟩) n cap l (k + 3) w B h
  rw [show ((k + 1 : Nat) : Int) = (k : Int) + 1 by omega] at r1
  rw [show ((k + 2 : Nat) : Int) = (k : Int) + 2 by omega] at r2
  rw [show ((k + 3 : Nat) : Int) = (k : Int) + 3 by omega] at r3
  have b1 := restOf_lt l (k + 1)
  have b2 := restOf_lt l (k + 2)
  have b3 := restOf_lt l (k + 3)
  have hkn : (k : Int) < (n : Int) := by omega
  generalize restOf l (k + 1) = x at *
  generalize restOf l (k + 2) = y at *
  generalize restOf l (k + 3) = z at *
  have HD := Lib.hid hdec
  clear hdec h hc hc'
  generalize c'.toNat = cc at *
  have a0 : decide ((cc : Int) < 128) = false := by simp; omega
  have a1 : decide (192 ≤ (cc : Int)) = true := by simp; omega
  have a2 : decide ((cc : Int) < 224) = false := by simp; omega
  have a3 : decide (224 ≤ (cc : Int)) = true := by simp; omega
  have a4 : decide ((cc : Int) < 240) = false := by simp; omega
  have a5 : decide (240 ≤ (cc : Int)) = true := by simp; omega
  have a6 : decide ((cc : Int) < 248) = true := by simp; omega
  have px : decide (0 ≤ x) = true := by simp; omega
  have py : decide (0 ≤ y) = false := by simp; omega
  go_enter Tryd.func78, Tryd.ntmps78
  go_wp2_with fail
  refine r1.mono ?_
  rintro e w1 ⟨rfl, rfl⟩
  go_wp2_with fail
  refine r2.mono ?_
  rintro e w1 ⟨rfl, rfl⟩
  go_wp2_with fail
  refine r3.mono ?_
  rintro e w1 ⟨rfl, rfl⟩
  go_wp2
  go_ret2
  exact ⟨by rw [HD.out]; rfl, Below.refl _ _⟩
set_option maxRecDepth 100000 in
set_option maxHeartbeats 8000000 in
theorem refDec_k (A : Option Addr) (n cap : Nat) (l : List UInt8) (k : Nat) (w : World) (B : Nat) (h : Byt w B A n cap l) (hk : k < n) (hm : n ≤ 50000) (c : UInt8) (hc : l[k]? = some c) (hcl : 240 ≤ c.toNat ∧ c.toNat ≤ 247) (hx : 0 ≤ restOf l (k + 1)) (hy : 0 ≤ restOf l (k + 2)) (hz : restOf l (k + 3) < 0) :
    Calls Tryd.prog 78 #[.slice A n cap, .int .i64 k] w fun e w' => e = .returned (pairV (dec (l.drop k))) ∧ Below w.heap.size w w' := by
  have hdec : dec (l.drop k) = none := by rw [dec_4 l k c hc (by omega), if_neg (by omega)]
  obtain ⟨b, o, c', rfl, hb, hc', hcell⟩ := h.cell hk
  obtain rfl : c' = c := by rw [hc] at hc'; exact (Option.some.inj hc').symm
  have r1 := rest_c (some ⟨b, o, none⟩) n cap l (k + 1) w B h
  have r2 := rest_c (some ⟨b, o, none⟩) n cap l (k + 2) w B h
  have r3 := rest_c (some ⟨b, o, none⟩) n cap l (k + 3) w B h
  rw [show ((k + 1 : Nat) : Int) = (k : Int) + 1 by omega] at r1
  rw [show ((k + 2 : Nat) : Int) = (k : Int) + 2 by omega] at r2
  rw [show ((k + 3 : Nat) : Int) = (k : Int) + 3 by omega] at r3
  have b1 := restOf_lt l (k + 1)
  have b2 := restOf_lt l (k + 2)
  have b3 := restOf_lt l (k + 3)
  have hkn : (k : Int) < (n : Int) := by omega
  generalize restOf l (k + 1) = x at *
  generalize restOf l (k + 2) = y at *
  generalize restOf l (k + 3) = z at *
  have HD := Lib.hid hdec
  clear hdec h hc hc'
  generalize c'.toNat = cc at *
  have a0 : decide ((cc : Int) < 128) = false := by simp; omega
  have a1 : decide (192 ≤ (cc : Int)) = true := by simp; omega
  have a2 : decide ((cc : Int) < 224) = false := by simp; omega
  have a3 : decide (224 ≤ (cc : Int)) = true := by simp; omega
  have a4 : decide ((cc : Int) < 240) = false := by simp; omega
  have a5 : decide (240 ≤ (cc : Int)) = true := by simp; omega
  have a6 : decide ((cc : Int) < 248) = true := by simp; omega
  have px : decide (0 ≤ x) = true := by simp; omega
  have py : decide (0 ≤ y) = true := by simp; omega
  have pz : decide (0 ≤ z) = false := by simp; omega
  go_enter Tryd.func78, Tryd.ntmps78
  go_wp2_with fail
  refine r1.mono ?_
  rintro e w1 ⟨rfl, rfl⟩
  go_wp2_with fail
  refine r2.mono ?_
  rintro e w1 ⟨rfl, rfl⟩
  go_wp2_with fail
  refine r3.mono ?_
  rintro e w1 ⟨rfl, rfl⟩
  go_wp2
  go_ret2
  exact ⟨by rw [HD.out]; rfl, Below.refl _ _⟩
set_option maxRecDepth 100000 in
set_option maxHeartbeats 8000000 in
theorem refDec_m (A : Option Addr) (n cap : Nat) (l : List UInt8) (k : Nat) (w : World) (B : Nat) (h : Byt w B A n cap l) (hk : k < n) (hm : n ≤ 50000) (c : UInt8) (hc : l[k]? = some c) (hcl : 248 ≤ c.toNat ∧ c.toNat ≤ 255) :
    Calls Tryd.prog 78 #[.slice A n cap, .int .i64 k] w fun e w' => e = .returned (pairV (dec (l.drop k))) ∧ Below w.heap.size w w' := by
  have hdec : dec (l.drop k) = none := dec_0 l k c hc (by omega)
  obtain ⟨b, o, c', rfl, hb, hc', hcell⟩ := h.cell hk
  obtain rfl : c' = c := by rw [hc] at hc'; exact (Option.some.inj hc').symm
  have r1 := rest_c (some ⟨b, o, none⟩) n cap l (k + 1) w B h
  have r2 := rest_c (some ⟨b, o, none⟩) n cap l (k + 2) w B h
  have r3 := rest_c (some ⟨b, o, none⟩) n cap l (k + 3) w B h
  rw [show ((k + 1 : Nat) : Int) = (k : Int) + 1 by omega] at r1
  rw [show ((k + 2 : Nat) : Int) = (k : Int) + 2 by omega] at r2
  rw [show ((k + 3 : Nat) : Int) = (k : Int) + 3 by omega] at r3
  have b1 := restOf_lt l (k + 1)
  have b2 := restOf_lt l (k + 2)
  have b3 := restOf_lt l (k + 3)
  have hkn : (k : Int) < (n : Int) := by omega
  generalize restOf l (k + 1) = x at *
  generalize restOf l (k + 2) = y at *
  generalize restOf l (k + 3) = z at *
  have HD := Lib.hid hdec
  clear hdec h hc hc'
  generalize c'.toNat = cc at *
  have a0 : decide ((cc : Int) < 128) = false := by simp; omega
  have a1 : decide (192 ≤ (cc : Int)) = true := by simp; omega
  have a2 : decide ((cc : Int) < 224) = false := by simp; omega
  have a3 : decide (224 ≤ (cc : Int)) = true := by simp; omega
  have a4 : decide ((cc : Int) < 240) = false := by simp; omega
  have a5 : decide (240 ≤ (cc : Int)) = true := by simp; omega
  have a6 : decide ((cc : Int) < 248) = false := by simp; omega
  go_enter Tryd.func78, Tryd.ntmps78
  go_wp2_with fail
  refine r1.mono ?_
  rintro e w1 ⟨rfl, rfl⟩
  go_wp2_with fail
  refine r2.mono ?_
  rintro e w1 ⟨rfl, rfl⟩
  go_wp2_with fail
  refine r3.mono ?_
  rintro e w1 ⟨rfl, rfl⟩
  go_wp2
  go_ret2
  exact ⟨by rw [HD.out]; rfl, Below.refl _ _⟩
theorem refDec_c (A : Option Addr) (n cap : Nat) (l : List UInt8) (k : Nat) (w : World) (B : Nat) (h : Byt w B A n cap l) (hk : k < n) (hm : n ≤ 50000) :
    Calls Tryd.prog 78 #[.slice A n cap, .int .i64 k] w fun e w' => e = .returned (pairV (dec (l.drop k))) ∧ Below w.heap.size w w' := by
  have hlen := h.length
  obtain ⟨c, hc⟩ : ∃ c, l[k]? = some c := ⟨_, List.getElem?_eq_getElem (by omega)⟩
  have hcl := c.toNat_lt
  rcases (show c.toNat ≤ 127 ∨ (128 ≤ c.toNat ∧ c.toNat ≤ 191) ∨ (192 ≤ c.toNat ∧ c.toNat ≤ 223) ∨ (224 ≤ c.toNat ∧ c.toNat ≤ 239) ∨ (240 ≤ c.toNat ∧ c.toNat ≤ 247) ∨ 248 ≤ c.toNat by omega) with g | g | g | g | g | g
  · exact refDec_a A n cap l k w B h hk hm c hc (by omega)
  · exact refDec_b A n cap l k w B h hk hm c hc (by omega)
  · by_cases hx : 0 ≤ restOf l (k + 1)
    · exact refDec_cc A n cap l k w B h hk hm c hc (by omega) hx
    · exact refDec_d A n cap l k w B h hk hm c hc (by omega) (by omega)
  · by_cases hx : 0 ≤ restOf l (k + 1)
    · by_cases hy : 0 ≤ restOf l (k + 2)
      · exact refDec_e A n cap l k w B h hk hm c hc (by omega) hx hy
      · exact refDec_g A n cap l k w B h hk hm c hc (by omega) hx (by omega)
    · exact refDec_f A n cap l k w B h hk hm c hc (by omega) (by omega)
  · by_cases hx : 0 ≤ restOf l (k + 1)
    · by_cases hy : 0 ≤ restOf l (k + 2)
      · by_cases hz : 0 ≤ restOf l (k + 3)
        · exact refDec_h A n cap l k w B h hk hm c hc (by omega) hx hy hz
        · exact refDec_k A n cap l k w B h hk hm c hc (by omega) hx hy (by omega)
      · exact refDec_j A n cap l k w B h hk hm c hc (by omega) hx (by omega)
    · exact refDec_i A n cap l k w B h hk hm c hc (by omega) (by omega)
  · exact refDec_m A n cap l k w B h hk hm c hc (by omega)
set_option maxRecDepth 100000 in
set_option maxHeartbeats 4000000 in
theorem refMore_c (r : Int) (w : World) : Calls Tryd.prog 141 #[.int .i64 r] w fun e w' => e = .returned (.bool (isMore r)) ∧ w = w' := by
  have hs := refStart_c r w
  unfold isMore
  cases he : isStart r with
  | true =>
    rw [he] at hs
    have HE := Lib.hid he
    clear he
    go_enter Tryd.func141, Tryd.ntmps141
    go_wp2_with fail
    refine hs.mono ?_
    rintro e w1 ⟨rfl, rfl⟩
    go_wp2
    go_ret
    exact ⟨rfl, rfl⟩
  | false =>
    rw [he] at hs
    have HE := Lib.hid he
    clear he
    show Calls _ _ _ _ fun e w' => e = .returned (.bool (isMoreOnly r)) ∧ w = w'
    rcases (show r ≤ 44 ∨ r = 45 ∨ r = 46 ∨ r = 47 ∨ (48 ≤ r ∧ r ≤ 57) ∨ (58 ≤ r ∧ r ≤ 182) ∨ r = 183 ∨ (184 ≤ r ∧ r ≤ 767) ∨ (768 ≤ r ∧ r ≤ 879) ∨ (880 ≤ r ∧ r ≤ 8254) ∨ r = 8255 ∨ r = 8256 ∨ 8257 ≤ r by omega) with h | h | h | h | h | h | h | h | h | h | h | h | h
    · have e : isMoreOnly r = false := by
        rw [Bool.eq_false_iff, Ne, isMoreOnly_iff]; omega
      rw [e]
      have a0 : (r == 45) = false := by first | (simp; omega) | (simp [h]; done)
      have a1 : (r == 46) = false := by first | (simp; omega) | (simp [h]; done)
      have a2 : decide (48 ≤ r) = false := by first | (simp; omega) | (simp [h]; done)
      have a3 : decide (r ≤ 57) = true := by first | (simp; omega) | (simp [h]; done)
      have a4 : (r == 183) = false := by first | (simp; omega) | (simp [h]; done)
      have a5 : decide (768 ≤ r) = false := by first | (simp; omega) | (simp [h]; done)
      have a6 : decide (r ≤ 879) = true := by first | (simp; omega) | (simp [h]; done)
      have a7 : (r == 8255) = false := by first | (simp; omega) | (simp [h]; done)
      have a8 : (r == 8256) = false := by first | (simp; omega) | (simp [h]; done)
      clear e h
      go_enter Tryd.func141, Tryd.ntmps141
      go_wp2_with fail
      refine hs.mono ?_
      rintro e w1 ⟨rfl, rfl⟩
      go_wp2
      go_ret
      exact ⟨rfl, rfl⟩
    · have e : isMoreOnly r = true := by
        rw [isMoreOnly_iff]; omega
      rw [e]
      have a0 : (r == 45) = true := by first | (simp; omega) | (simp [h]; done)
      have a1 : (r == 46) = false := by first | (simp; omega) | (simp [h]; done)
      have a2 : decide (48 ≤ r) = false := by first | (simp; omega) | (simp [h]; done)
      have a3 : decide (r ≤ 57) = true := by first | (simp; omega) | (simp [h]; done)
      have a4 : (r == 183) = false := by first | (simp; omega) | (simp [h]; done)
      have a5 : decide (768 ≤ r) = false := by first | (simp; omega) | (simp [h]; done)
      have a6 : decide (r ≤ 879) = true := by first | (simp; omega) | (simp [h]; done)
      have a7 : (r == 8255) = false := by first | (simp; omega) | (simp [h]; done)
      have a8 : (r == 8256) = false := by first | (simp; omega) | (simp [h]; done)
      clear e h
      go_enter Tryd.func141, Tryd.ntmps141
      go_wp2_with fail
      refine hs.mono ?_
      rintro e w1 ⟨rfl, rfl⟩
      go_wp2
      go_ret
      exact ⟨rfl, rfl⟩
    · have e : isMoreOnly r = true := by
        rw [isMoreOnly_iff]; omega
      rw [e]
      have a0 : (r == 45) = false := by first | (simp; omega) | (simp [h]; done)
      have a1 : (r == 46) = true := by first | (simp; omega) | (simp [h]; done)
      have a2 : decide (48 ≤ r) = false := by first | (simp; omega) | (simp [h]; done)
      have a3 : decide (r ≤ 57) = true := by first | (simp; omega) | (simp [h]; done)
      have a4 : (r == 183) = false := by first | (simp; omega) | (simp [h]; done)
      have a5 : decide (768 ≤ r) = false := by first | (simp; omega) | (simp [h]; done)
      have a6 : decide (r ≤ 879) = true := by first | (simp; omega) | (simp [h]; done)
      have a7 : (r == 8255) = false := by first | (simp; omega) | (simp [h]; done)
      have a8 : (r == 8256) = false := by first | (simp; omega) | (simp [h]; done)
      clear e h
      go_enter Tryd.func141, Tryd.ntmps141
      go_wp2_with fail
      refine hs.mono ?_
      rintro e w1 ⟨rfl, rfl⟩
      go_wp2
      go_ret
      exact ⟨rfl, rfl⟩
    · have e : isMoreOnly r = false := by
        rw [Bool.eq_false_iff, Ne, isMoreOnly_iff]; omega
      rw [e]
      have a0 : (r == 45) = false := by first | (simp; omega) | (simp [h]; done)
      have a1 : (r == 46) = false := by first | (simp; omega) | (simp [h]; done)
      have a2 : decide (48 ≤ r) = false := by first | (simp; omega) | (simp [h]; done)
      have a3 : decide (r ≤ 57) = true := by first | (simp; omega) | (simp [h]; done)
      have a4 : (r == 183) = false := by first | (simp; omega) | (simp [h]; done)
      have a5 : decide (768 ≤ r) = false := by first | (simp; omega) | (simp [h]; done)
      have a6 : decide (r ≤ 879) = true := by first | (simp; omega) | (simp [h]; done)
      have a7 : (r == 8255) = false := by first | (simp; omega) | (simp [h]; done)
      have a8 : (r == 8256) = false := by first | (simp; omega) | (simp [h]; done)
      clear e h
      go_enter Tryd.func141, Tryd.ntmps141
      go_wp2_with fail
      refine hs.mono ?_
      rintro e w1 ⟨rfl, rfl⟩
      go_wp2
      go_ret
      exact ⟨rfl, rfl⟩
    · have e : isMoreOnly r = true := by
        rw [isMoreOnly_iff]; omega
      rw [e]
      have a0 : (r == 45) = false := by first | (simp; omega) | (simp [h]; done)
      have a1 : (r == 46) = false := by first | (simp; omega) | (simp [h]; done)
      have a2 : decide (48 ≤ r) = true := by first | (simp; omega) | (simp [h]; done)
      have a3 : decide (r ≤ 57) = true := by first | (simp; omega) | (simp [h]; done)
      have a4 : (r == 183) = false := by first | (simp; omega) | (simp [h]; done)
      have a5 : decide (768 ≤ r) = false := by first | (simp; omega) | (simp [h]; done)
      have a6 : decide (r ≤ 879) = true := by first | (simp; omega) | (simp [h]; done)
      have a7 : (r == 8255) = false := by first | (simp; omega) | (simp [h]; done)
      have a8 : (r == 8256) = false := by first | (simp; omega) | (simp [h]; done)
      clear e h
      go_enter Tryd.func141, Tryd.ntmps141
      go_wp2_with fail
      refine hs.mono ?_
      rintro e w1 ⟨rfl, rfl⟩
      go_wp2
      go_ret
      exact ⟨rfl, rfl⟩
    · have e : isMoreOnly r = false := by
        rw [Bool.eq_false_iff, Ne, isMoreOnly_iff]; omega
      rw [e]
      have a0 : (r == 45) = false := by first | (simp; omega) | (simp [h]; done)
      have a1 : (r == 46) = false := by first | (simp; omega) | (simp [h]; done)
      have a2 : decide (48 ≤ r) = true := by first | (simp; omega) | (simp [h]; done)
      have a3 : decide (r ≤ 57) = false := by first | (simp; omega) | (simp [h]; done)
      have a4 : (r == 183) = false := by first | (simp; omega) | (simp [h]; done)
      have a5 : decide (768 ≤ r) = false := by first | (simp; omega) | (simp [h]; done)
      have a6 : decide (r ≤ 879) = true := by first | (simp; omega) | (simp [h]; done)
      have a7 : (r == 8255) = false := by first | (simp; omega) | (simp [h]; done)
      have a8 : (r == 8256) = false := by first | (simp; omega) | (simp [h]; done)
      clear e h
      go_enter Tryd.func141, Tryd.ntmps141
      go_wp2_with fail
      refine hs.mono ?_
      rintro e w1 ⟨rfl, rfl⟩
      go_wp2
      go_ret
      exact ⟨rfl, rfl⟩
    · have e : isMoreOnly r = true := by
        rw [isMoreOnly_iff]; omega
      rw [e]
      have a0 : (r == 45) = false := by first | (simp; omega) | (simp [h]; done)
      have a1 : (r == 46) = false := by first | (simp; omega) | (simp [h]; done)
      have a2 : decide (48 ≤ r) = true := by first | (simp; omega) | (simp [h]; done)
      have a3 : decide (r ≤ 57) = false := by first | (simp; omega) | (simp [h]; done)
      have a4 : (r == 183) = true := by first | (simp; omega) | (simp [h]; done)
      have a5 : decide (768 ≤ r) = false := by first | (simp; omega) | (simp [h]; done)
      have a6 : decide (r ≤ 879) = true := by first | (simp; omega) | (simp [h]; done)
      have a7 : (r == 8255) = false := by first | (simp; omega) | (simp [h]; done)
      have a8 : (r == 8256) = false := by first | (simp; omega) | (simp [h]; done)
      clear e h
      go_enter Tryd.func141, Tryd.ntmps141
      go_wp2_with fail
      refine hs.mono ?_
      rintro e w1 ⟨rfl, rfl⟩
      go_wp2
      go_ret
      exact ⟨rfl, rfl⟩
    · have e : isMoreOnly r = false := by
        rw [Bool.eq_false_iff, Ne, isMoreOnly_iff]; omega
      rw [e]
      have a0 : (r == 45) = false := by first | (simp; omega) | (simp [h]; done)
      have a1 : (r == 46) = false := by first | (simp; omega) | (simp [h]; done)
      have a2 : decide (48 ≤ r) = true := by first | (simp; omega) | (simp [h]; done)
      have a3 : decide (r ≤ 57) = false := by first | (simp; omega) | (simp [h]; done)
      have a4 : (r == 183) = false := by first | (simp; omega) | (simp [h]; done)
      have a5 : decide (768 ≤ r) = false := by first | (simp; omega) | (simp [h]; done)
      have a6 : decide (r ≤ 879) = true := by first | (simp; omega) | (simp [h]; done)
      have a7 : (r == 8255) = false := by first | (simp; omega) | (simp [h]; done)
      have a8 : (r == 8256) = false := by first | (simp; omega) | (simp [h]; done)
      clear e h
      go_enter Tryd.func141, Tryd.ntmps141
      go_wp2_with fail
      refine hs.mono ?_
      rintro e w1 ⟨rfl, rfl⟩
      go_wp2
      go_ret
      exact ⟨rfl, rfl⟩
    · have e : isMoreOnly r = true := by
        rw [isMoreOnly_iff]; omega
      rw [e]
      have a0 : (r == 45) = false := by first | (simp; omega) | (simp [h]; done)
      have a1 : (r == 46) = false := by first | (simp; omega) | (simp [h]; done)
      have a2 : decide (48 ≤ r) = true := by first | (simp; omega) | (simp [h]; done)
      have a3 : decide (r ≤ 57) = false := by first | (simp; omega) | (simp [h]; done)
      have a4 : (r == 183) = false := by first | (simp; omega) | (simp [h]; done)
      have a5 : decide (768 ≤ r) = true := by first | (simp; omega) | (simp [h]; done)
      have a6 : decide (r ≤ 879) = true := by first | (simp; omega) | (simp [h]; done)
      have a7 : (r == 8255) = false := by first | (simp; omega) | (simp [h]; done)
      have a8 : (r == 8256) = false := by first | (simp; omega) | (simp [h]; done)
      clear e h
      go_enter Tryd.func141, Tryd.ntmps141
      go_wp2_with fail
      refine hs.mono ?_
      rintro e w1 ⟨rfl, rfl⟩
      go_wp2
      go_ret
      exact ⟨rfl, rfl⟩
    · have e : isMoreOnly r = false := by
        rw [Bool.eq_false_iff, Ne, isMoreOnly_iff]; omega
      rw [e]
      have a0 : (r == 45) = false := by first | (simp; omega) | (simp [h]; done)
      have a1 : (r == 46) = false := by first | (simp; omega) | (simp [h]; done)
      have a2 : decide (48 ≤ r) = true := by first | (simp; omega) | (simp [h]; done)
      have a3 : decide (r ≤ 57) = false := by first | (simp; omega) | (simp [h]; done)
      have a4 : (r == 183) = false := by first | (simp; omega) | (simp [h]; done)
      have a5 : decide (768 ≤ r) = true := by first | (simp; omega) | (simp [h]; done)
      have a6 : decide (r ≤ 879) = false := by first | (simp; omega) | (simp [h]; done)
      have a7 : (r == 8255) = false := by first | (simp; omega) | (simp [h]; done)
      have a8 : (r == 8256) = false := by first | (simp; omega) | (simp [h]; done)
      clear e h
      go_enter Tryd.func141, Tryd.ntmps141
      go_wp2_with fail
      refine hs.mono ?_
      rintro e w1 ⟨rfl, rfl⟩
      go_wp2
      go_ret
      exact ⟨rfl, rfl⟩
    · have e : isMoreOnly r = true := by
        rw [isMoreOnly_iff]; omega
      rw [e]
      have a0 : (r == 45) = false := by first | (simp; omega) | (simp [h]; done)
      have a1 : (r == 46) = false := by first | (simp; omega) | (simp [h]; done)
      have a2 : decide (48 ≤ r) = true := by first | (simp; omega) | (simp [h]; done)
      have a3 : decide (r ≤ 57) = false := by first | (simp; omega) | (simp [h]; done)
      have a4 : (r == 183) = false := by first | (simp; omega) | (simp [h]; done)
      have a5 : decide (768 ≤ r) = true := by first | (simp; omega) | (simp [h]; done)
      have a6 : decide (r ≤ 879) = false := by first | (simp; omega) | (simp [h]; done)
      have a7 : (r == 8255) = true := by first | (simp; omega) | (simp [h]; done)
      have a8 : (r == 8256) = false := by first | (simp; omega) | (simp [h]; done)
      clear e h
      go_enter Tryd.func141, Tryd.ntmps141
      go_wp2_with fail
      refine hs.mono ?_
      rintro e w1 ⟨rfl, rfl⟩
      go_wp2
      go_ret
      exact ⟨rfl, rfl⟩
    · have e : isMoreOnly r = true := by
        rw [isMoreOnly_iff]; omega
      rw [e]
      have a0 : (r == 45) = false := by first | (simp; omega) | (simp [h]; done)
      have a1 : (r == 46) = false := by first | (simp; omega) | (simp [h]; done)
      have a2 : decide (48 ≤ r) = true := by first | (simp; omega) | (simp [h]; done)
      have a3 : decide (r ≤ 57) = false := by first | (simp; omega) | (simp [h]; done)
      have a4 : (r == 183) = false := by first | (simp; omega) | (simp [h]; done)
      have a5 : decide (768 ≤ r) = true := by first | (simp; omega) | (simp [h]; done)
      have a6 : decide (r ≤ 879) = false := by first | (simp; omega) | (simp [h]; done)
      have a7 : (r == 8255) = false := by first | (simp; omega) | (simp [h]; done)
      have a8 : (r == 8256) = true := by first | (simp; omega) | (simp [h]; done)
      clear e h
      go_enter Tryd.func141, Tryd.ntmps141
      go_wp2_with fail
      refine hs.mono ?_
      rintro e w1 ⟨rfl, rfl⟩
      go_wp2
      go_ret
      exact ⟨rfl, rfl⟩
    · have e : isMoreOnly r = false := by
        rw [Bool.eq_false_iff, Ne, isMoreOnly_iff]; omega
      rw [e]
      have a0 : (r == 45) = false := by first | (simp; omega) | (simp [h]; done)
      have a1 : (r == 46) = false := by first | (simp; omega) | (simp [h]; done)
      have a2 : decide (48 ≤ r) = true := by first | (simp; omega) | (simp [h]; done)
      have a3 : decide (r ≤ 57) = false := by first | (simp; omega) | (simp [h]; done)
      have a4 : (r == 183) = false := by first | (simp; omega) | (simp [h]; done)
      have a5 : decide (768 ≤ r) = true := by first | (simp; omega) | (simp [h]; done)
      have a6 : decide (r ≤ 879) = false := by first | (simp; omega) | (simp [h]; done)
      have a7 : (r == 8255) = false := by first | (simp; omega) | (simp [h]; done)
      have a8 : (r == 8256) = false := by first | (simp; omega) | (simp [h]; done)
      clear e h
      go_enter Tryd.func141, Tryd.ntmps141
      go_wp2_with fail
      refine hs.mono ?_
      rintro e w1 ⟨rfl, rfl⟩
      go_wp2
      go_ret
      exact ⟨rfl, rfl⟩
/-- What may stand in a name, or in a plain one. -/
def okName (pl : Bool) (f : Int → Bool) (r : Int) : Bool := if pl then noColon f r else f r
theorem okTrue (f : Int → Bool) : okName true f = noColon f := by funext r; simp [okName]

/-- What is read of a reference at any place. -/
def refAt (mark : UInt8) (l : List UInt8) (at_ : Int) : List UInt8 × Nat × Nat := if at_ < 0 ∨ (l.length : Int) < at_ then ([], 0, 3) else refOut mark l at_.toNat

end Go.Proofs.YtljmpghijlibaaaDoor
