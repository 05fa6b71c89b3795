/- Texts of ours, joined: XdP, XdD, Lit5, XdA, XdB, XdC, XdE, XdP2, XdF. -/
import Derived.Test.YtgenpgfhjhcahaaGreatDoorRows
import Derived.WalkKit
import Derived.ProofKit
import Derived.OpenShut
import Derived.ShutString
import Derived.ChangeOld
import Derived.Below
import Derived.BigQuiet
import Derived.Deep.QuietTactic
import Derived.Lib.Hide
import Derived.Deep.RegionHeld3
import Derived.Lib.SlBytesConst
import Derived.Laws.CopyOwn
import Derived.Laws.CopyRow
import Derived.Lib.Bytes
import Derived.Deep.LoopGhost
import Derived.Deep.DeepFit
import Derived.Deep.DeepMust
import Derived.WalkSpells
import Derived.WalkLawsBesides
import Derived.Shelf.Strings.SlTrimAscii
import Derived.Lib.SlTrimSet
import Derived.Lib.Fold
import Derived.Test.YtgenpgfhjhcahaaGreatDoorQ1
import Derived.Test.YtgenpgfhjhcahaaGreatDoorQ7
import Derived.Test.YtgenpgfhjhcahaaGreatDoorQ5
import Derived.Test.YtgenpgfhjhcahaaGreatDoorQ2
import Derived.Test.YtgenpgfhjhcahaaGreatDoorQ9
import Derived.Laws.EntriesVeiled
import Derived.Laws.Rows
import Derived.Test.YtgenpgfhjhcahaaGreatDoorQ3
import Derived.Test.YtgenpgfhjhcahaaGreatDoorQ4
import Derived.Test.YtgenpgfhjhcahaaGreatDoorQ8
/- Plain law of what a document says of itself. -/
namespace Go.Proofs.YtgenpgfhjhcahaaGreatDoor
open Go.ChangeShapes Go.WideShapes Go.ChangeAt Go.RowKit
set_option linter.unusedVariables false
def isDig (c : UInt8) : Bool := decide (48 ≤ c.toNat ∧ c.toNat ≤ 57)
/-- May a value be a version's, an encoding's, a standalone's? -/
def verB (s : List UInt8) : Bool := [49, 46].isPrefixOf s && !(s.drop 2).isEmpty && (s.drop 2).all isDig
def encB (s : List UInt8) : Bool := Lib.equalFold s [117, 116, 102, 45, 56]
def aloneB (s : List UInt8) : Bool := decide (s = [121, 101, 115]) || decide (s = [110, 111])
def digitsL : List UInt8 := [48, 49, 50, 51, 52, 53, 54, 55, 56, 57]
theorem digits_mem (c : UInt8) : digitsL.contains c = isDig c := by
  unfold isDig digitsL
  rw [Bool.eq_iff_iff]
  simp only [List.contains_iff_mem, List.mem_cons, List.not_mem_nil, or_false, decide_eq_true_eq]
  constructor
  · rintro (rfl | rfl | rfl | rfl | rfl | rfl | rfl | rfl | rfl | rfl) <;> decide
  · rintro ⟨h1, h2⟩
    have : c.toNat = 48 ∨ c.toNat = 49 ∨ c.toNat = 50 ∨ c.toNat = 51 ∨ c.toNat = 52 ∨ c.toNat = 53 ∨ c.toNat = 54 ∨ c.toNat = 55 ∨ c.toNat = 56 ∨ c.toNat = 57 := by omega
    have e : ∀ k : UInt8, c.toNat = k.toNat → c = k := fun k h => UInt8.toNat_inj.1 h
    rcases this with h | h | h | h | h | h | h | h | h | h
    · exact .inl (e 48 h)
    · exact .inr (.inl (e 49 h))
    · exact .inr (.inr (.inl (e 50 h)))
    · exact .inr (.inr (.inr (.inl (e 51 h))))
    · exact .inr (.inr (.inr (.inr (.inl (e 52 h)))))
    · exact .inr (.inr (.inr (.inr (.inr (.inl (e 53 h))))))
    · exact .inr (.inr (.inr (.inr (.inr (.inr (.inl (e 54 h)))))))
    · exact .inr (.inr (.inr (.inr (.inr (.inr (.inr (.inl (e 55 h))))))))
    · exact .inr (.inr (.inr (.inr (.inr (.inr (.inr (.inr (.inl (e 56 h)))))))))
    · exact .inr (.inr (.inr (.inr (.inr (.inr (.inr (.inr (.inr (e 57 h)))))))))
/-- What a declaration's part reads: none; or its value and the place behind; or that it is wrong. -/
def partOut (word : List UInt8) (may : List UInt8 → Bool) (l : List UInt8) (k : Nat) : Option (List UInt8 × Nat) :=
  if blankTo l k = k ∨ word.isPrefixOf (l.drop (blankTo l k)) = false then some ([], k) else
  let i := blankTo l (blankTo l k + word.length)
  if l[i]? = some 61 then
    let q := quotedAt l (blankTo l (i + 1))
    if q.2.2 = 0 ∧ may q.1 = true then some (q.1, q.2.1) else none
  else none
theorem trimS_nil (l cs : List UInt8) : Lib.trimS l cs = [] ↔ l.all (cs.contains ·) = true := by
  unfold Lib.trimS Lib.trimLeftS Lib.trimRightS
  rw [List.all_eq_true]
  have key : ∀ (p : UInt8 → Bool) (l : List UInt8), l.dropWhile p = [] ↔ ∀ x ∈ l, p x = true := by
    intro p l
    induction l with
    | nil => simp
    | cons a t ih =>
      by_cases h : p a = true
      · simp [h, ih]
      · simp [h]
  rw [key]
  constructor
  · intro h x hx
    have hx' : x ∈ l.reverse := List.mem_reverse.2 hx
    rw [← List.takeWhile_append_dropWhile (p := fun x => cs.contains x) (l := l.reverse)] at hx'
    rcases List.mem_append.1 hx' with g | g
    · exact (List.all_eq_true.1 List.all_takeWhile) x g
    · exact h x (List.mem_reverse.2 g)
  · intro h x hx
    have := List.mem_reverse.1 hx
    exact h x (List.mem_reverse.1 ((List.dropWhile_suffix _).subset this))
theorem verB_cons (d : List UInt8) : verB (49 :: 46 :: d) = (!d.isEmpty && d.all isDig) := by simp [verB]
theorem verB_no (s : List UInt8) (h : [49, 46].isPrefixOf s = false) : verB s = false := by unfold verB; rw [h]; rfl
end Go.Proofs.YtgenpgfhjhcahaaGreatDoor
/- Has. -/
namespace Go.Proofs.YtgenpgfhjhcahaaGreatDoor
open Go.ChangeShapes Go.WideShapes Go.ChangeAt Go.RowKit
set_option linter.unusedVariables false
/-- Does a declaration stand there? -/
def hasX (l : List UInt8) (k : Nat) : Bool := [60, 63, 120, 109, 108].isPrefixOf (l.drop k) && (match l[k + 5]? with | some c => isBl c | none => false)
theorem hasX_no (l : List UInt8) (k : Nat) (h : [60, 63, 120, 109, 108].isPrefixOf (l.drop k) = false) : hasX l k = false := by unfold hasX; rw [h]; rfl
theorem hasX_end (l : List UInt8) (k : Nat) (h : l[k + 5]? = none) : hasX l k = false := by unfold hasX; rw [h]; simp
theorem hasX_at (l : List UInt8) (k : Nat) (c : UInt8) (h : [60, 63, 120, 109, 108].isPrefixOf (l.drop k) = true) (hc : l[k + 5]? = some c) : hasX l k = isBl c := by unfold hasX; rw [h, hc]; rfl
set_option maxRecDepth 100000 in
set_option maxHeartbeats 4000000 in
theorem xdHas_in (A : Option Addr) (n cap : Nat) (l : List UInt8) (k : Nat) (w : World) (h : Byt w w.heap.size A n cap l) (hm : n ≤ 100000) (hk : k ≤ n) :
    Calls Tryz.prog 64 #[.slice A n cap, .int .i64 k] w fun e w' => e = .returned (.bool (hasX l k)) ∧ Below w.heap.size w w' := by
  have kc := fun (w : World) (C : Array Value) (n c : Nat) => Lib.run_convert_bytes_const (P := Tryz.prog) w 22 5 C n c Tryz.underlying22 Tryz.underlying5
  have hk' : ¬ (n : Int) < (k : Int) := by omega
  have hk0 : (0 : Int) ≤ (k : Int) := by omega
  have hrk : ∀ W : World, (Instr.slice 22 (.slice A n cap) (some (.int .i64 (k : Int))) none none).run Tryz.prog W = .ok (.slice (cutA A cap k) (n - k) (cap - k)) W := fun W => run_from A n cap k hk
  have hA0 := alloc_const w [60, 63, 120, 109, 108] (5, 6) (by simp)
  have hh := h.below hA0.1
  have B0 := Lib.hid hA0.1
  have hln := h.length
  by_cases hp : [60, 63, 120, 109, 108].isPrefixOf (l.drop k) = true
  · have hkl : k + 5 ≤ n := by have := pre_len hp; simp at this; omega
    have C1 := Lib.hid (cutPrefix_yes _ _ _ _ _ _ _ _ _ _ _ (hh.drop hk) hA0.2 (by simp) hp)
    simp only [List.length_cons, List.length_nil] at C1
    have hR := (hh.drop hk).drop (k := 5) (by omega)
    rw [List.drop_drop] at hR
    by_cases hz : n - k - 5 = 0
    · rw [hasX_end l k (by rw [List.getElem?_eq_none]; omega)]
      rw [hz] at C1
      clear h hm hA0 hh hln hp hR hz
      generalize cutA (cutA A cap k) (cap - k) 5 = R at *
      go_enter Tryz.func64, Tryz.ntmps64
      go_wp2_with fail
      refine C1.out.mono ?_
      rintro e w1 ⟨rfl, rfl⟩
      clear kc
      go_wp2
      go_ret
      exact ⟨rfl, B0.out⟩
    · obtain ⟨b, o, c, he, hb, hc, hcell⟩ := hR.cell (i := 0) (by omega)
      rw [List.getElem?_drop, Nat.add_zero] at hc
      rw [hasX_at l k c hp hc]
      rw [he] at C1
      rw [Nat.add_zero, hA0.1.cell (p := ⟨b, o, none⟩) hb] at hcell
      have hz0 : 0 < n - k - 5 := by omega
      have hz1 : (0 : Int) < ((n - k - 5 : Nat) : Int) := by omega
      have c0 : (0 : Int) ≤ (c.toNat : Int) := by omega
      have c1 : (c.toNat : Int) ≤ 255 := by have := c.toNat_lt; omega
      have CB : Hid (∀ W, Calls Tryz.prog 32 #[.int .i64 (c.toNat : Int)] W fun e w' => e = .returned (.bool (isBl c)) ∧ W = w') := Lib.hid fun W => blank_c _ W
      clear h hm hA0 hh hln hp hR hz hc he
      generalize n - k - 5 = rn at *
      generalize cap - k - 5 = rc at *
      generalize isBl c = ib at *
      generalize (c.toNat : Int) = cn at *
      go_enter Tryz.func64, Tryz.ntmps64
      go_wp2_with fail
      refine C1.out.mono ?_
      rintro e w1 ⟨rfl, rfl⟩
      clear kc
      go_wp2_with fail
      refine (CB.out _).mono ?_
      rintro e wq ⟨rfl, rfl⟩
      go_wp2
      go_ret
      exact ⟨rfl, B0.out⟩
  · have hp' := bfalse hp
    have C1 := Lib.hid (cutPrefix_no _ _ _ _ _ _ _ _ _ _ _ (hh.drop hk) hA0.2 hp')
    simp only [List.length_cons, List.length_nil] at C1
    rw [hasX_no l k hp']
    clear h hm hA0 hh hln hp hp'
    go_enter Tryz.func64, Tryz.ntmps64
    go_wp2_with fail
    refine C1.out.mono ?_
    rintro e w1 ⟨rfl, rfl⟩
    clear kc
    go_wp2
    go_ret
    exact ⟨rfl, B0.out⟩
end Go.Proofs.YtgenpgfhjhcahaaGreatDoor
/- narthexref07.Quoted, Has, Strict; lit.Entity. -/
namespace Go.Proofs.YtgenpgfhjhcahaaGreatDoor
open Go.ChangeShapes Go.WideShapes Go.ChangeAt Go.RowKit
set_option linter.unusedVariables false
end Go.Proofs.YtgenpgfhjhcahaaGreatDoor
/- xdecl: which values may be. -/
namespace Go.Proofs.YtgenpgfhjhcahaaGreatDoor
open Go.ChangeShapes Go.WideShapes Go.ChangeAt Go.RowKit
set_option linter.unusedVariables false
theorem trimPre (d : List UInt8) : Lib.trimPrefix (49 :: 46 :: d) [49, 46] = d := by simp [Lib.trimPrefix, Lib.hasPrefix]
theorem stringsTrim_c (d : List UInt8) (w : World) (hd : d.length ≤ 100000) : Calls Tryz.prog 67 #[.string ⟨d.toArray⟩, .string ⟨#[48, 49, 50, 51, 52, 53, 54, 55, 56, 57]⟩] w fun e w' => e = .returned (.string ⟨(Lib.trimS d digitsL).toArray⟩) ∧ Below w.heap.size w w' :=
  Any.strings_Trim_laid Tryz.lays160 (by kernel_rfl) ⟨d.toArray⟩ ⟨#[48, 49, 50, 51, 52, 53, 54, 55, 56, 57]⟩ w (by simp [ByteArray.size]; omega) (by decide) (ascii_of_all (by decide))
set_option maxRecDepth 100000 in
set_option maxHeartbeats 4000000 in
theorem version_c (s : List UInt8) (w : World) (hs : s.length ≤ 100000) : Calls Tryz.prog 46 #[.string ⟨s.toArray⟩] w fun e w' => e = .returned (.bool (verB s)) ∧ Below w.heap.size w w' := by
  have C1 := Lib.hid (Tryz.strings_CutPrefix ⟨s.toArray⟩ ⟨#[49, 46]⟩ w)
  by_cases hp : [49, 46].isPrefixOf s = true
  · obtain ⟨d, rfl⟩ : ∃ d, s = 49 :: 46 :: d := by
      obtain ⟨t, ht⟩ := List.isPrefixOf_iff_prefix.1 hp
      exact ⟨t, ht.symm⟩
    rw [verB_cons]
    have e1 : Lib.trimPrefix (⟨(49 :: 46 :: d).toArray⟩ : ByteArray).data.toList (⟨#[49, 46]⟩ : ByteArray).data.toList = d := trimPre d
    have e2 : Lib.hasPrefix (⟨(49 :: 46 :: d).toArray⟩ : ByteArray).data.toList (⟨#[49, 46]⟩ : ByteArray).data.toList = true := by simp [Lib.hasPrefix]
    rw [e1, e2] at C1
    clear e1 e2 hp
    cases d with
    | nil =>
      go_enter Tryz.func46, Tryz.ntmps46
      go_wp2_with fail
      refine (C1.out).mono ?_
      rintro e wq ⟨rfl, hwq⟩
      subst hwq
      go_wp2
      go_ret
      exact ⟨rfl, Below.refl _ _⟩
    | cons c d =>
      have C2 := Lib.hid (stringsTrim_c (c :: d) w (by simp at hs ⊢; omega))
      have hiff := trimS_nil (c :: d) digitsL
      simp only [digits_mem] at hiff
      have hne : (c :: d).isEmpty = false := rfl
      have hl1 : 0 < (c :: d).length := by simp
      rw [hne]
      generalize hall : (c :: d).all isDig = al at *
      clear hall
      have hs2 : (49 :: 46 :: c :: d).length ≤ 100000 := hs
      generalize (49 : UInt8) :: 46 :: c :: d = S at *
      generalize c :: d = D at *
      cases hT : Lib.trimS D digitsL with
      | nil =>
        rw [hT] at C2
        have hal : al = true := hiff.1 hT
        subst hal
        clear hT hiff hs
        go_enter Tryz.func46, Tryz.ntmps46
        go_wp2_with fail
        refine (C1.out).mono ?_
        rintro e wq ⟨rfl, hwq⟩
        subst hwq
        go_wp2_with fail
        refine (C2.out).mono ?_
        rintro e w1 ⟨rfl, hb⟩
        have B1 := Lib.hid hb
        clear hb
        go_wp2
        go_ret
        exact ⟨rfl, B1.out⟩
      | cons u T =>
        rw [hT] at C2
        have hal : al = false := by
          cases al with
          | false => rfl
          | true => rw [hiff.2 rfl] at hT; cases hT
        subst hal
        clear hT hiff hs
        have hnT : (u :: T).isEmpty = false := rfl
        have hlT : 0 < (u :: T).length := by simp
        generalize u :: T = UT at *
        go_enter Tryz.func46, Tryz.ntmps46
        go_wp2_with fail
        refine (C1.out).mono ?_
        rintro e wq ⟨rfl, hwq⟩
        subst hwq
        go_wp2_with fail
        refine (C2.out).mono ?_
        rintro e w1 ⟨rfl, hb⟩
        have B1 := Lib.hid hb
        clear hb
        go_wp2
        go_ret
        exact ⟨rfl, B1.out⟩
  · have hp' := bfalse hp
    rw [verB_no s hp']
    have e2 : Lib.hasPrefix (⟨s.toArray⟩ : ByteArray).data.toList (⟨#[49, 46]⟩ : ByteArray).data.toList = false := hp'
    rw [e2] at C1
    generalize Lib.trimPrefix (⟨s.toArray⟩ : ByteArray).data.toList (⟨#[49, 46]⟩ : ByteArray).data.toList = D at *
    clear e2 hp hp' hs
    go_enter Tryz.func46, Tryz.ntmps46
    go_wp2_with fail
    refine (C1.out).mono ?_
    rintro e wq ⟨rfl, hwq⟩
    subst hwq
    go_wp2
    go_ret
    exact ⟨rfl, Below.refl _ _⟩
theorem equalFold_len : ∀ (s t : List UInt8), s.length ≠ t.length → Lib.equalFold s t = false
  | [], [], h => absurd rfl h
  | [], _ :: _, _ => rfl
  | _ :: _, [], _ => rfl
  | x :: s, y :: t, h => by
    have := equalFold_len s t (by simpa using h)
    simp [Lib.equalFold, this]
set_option maxRecDepth 100000 in
set_option maxHeartbeats 4000000 in
theorem encoding_c (s : List UInt8) (w : World) (hT : FoldT w) : Calls Tryz.prog 47 #[.string ⟨s.toArray⟩] w fun e w' => e = .returned (.bool (encB s)) ∧ Below w.heap.size w w' := by
  unfold encB
  by_cases h : s.length = 5
  · have C1 := Lib.hid (equalFold_c s [117, 116, 102, 45, 56] w (by simp [h]) (by omega) utf8Fold hT)
    have hl : ((s.length : Int) == 5) = true := by simp; omega
    clear h hT
    generalize Lib.equalFold s [117, 116, 102, 45, 56] = r at *
    go_enter Tryz.func47, Tryz.ntmps47
    go_wp2_with fail
    refine (C1.out).mono ?_
    rintro e w1 ⟨rfl, hb⟩
    have B1 := Lib.hid hb
    clear hb
    go_wp2
    go_ret
    exact ⟨rfl, B1.out⟩
  · rw [equalFold_len _ _ h]
    have hl : ((s.length : Int) == 5) = false := by simp; omega
    clear h hT
    go_enter Tryz.func47, Tryz.ntmps47
    go_wp2
    go_ret
    exact ⟨rfl, Below.refl _ _⟩
end Go.Proofs.YtgenpgfhjhcahaaGreatDoor
/- xdecl: which values may be. -/
namespace Go.Proofs.YtgenpgfhjhcahaaGreatDoor
open Go.ChangeShapes Go.WideShapes Go.ChangeAt Go.RowKit
set_option linter.unusedVariables false
set_option maxRecDepth 100000 in
set_option maxHeartbeats 4000000 in
theorem alone_c (s : List UInt8) (w : World) : Calls Tryz.prog 48 #[.string ⟨s.toArray⟩] w fun e w' => e = .returned (.bool (aloneB s)) ∧ w = w' := by
  unfold aloneB
  by_cases h1 : s = [121, 101, 115]
  · subst h1
    go_enter Tryz.func48, Tryz.ntmps48
    go_wp2
    go_ret
    exact ⟨rfl, rfl⟩
  · by_cases h2 : s = [110, 111]
    · subst h2
      go_enter Tryz.func48, Tryz.ntmps48
      go_wp2
      go_ret
      exact ⟨rfl, rfl⟩
    · have e1 : (s == [121, 101, 115]) = false := by simpa using h1
      have e2 : (s == [110, 111]) = false := by simpa using h2
      have HD : Hid ((decide (s = [121, 101, 115]) || decide (s = [110, 111])) = false) := Lib.hid (by simp [h1, h2])
      clear h1 h2
      go_enter Tryz.func48, Tryz.ntmps48
      go_wp2
      go_ret
      rw [HD.out]
      exact ⟨rfl, rfl⟩
end Go.Proofs.YtgenpgfhjhcahaaGreatDoor
/- narthexref09.May. -/
namespace Go.Proofs.YtgenpgfhjhcahaaGreatDoor
open Go.ChangeShapes Go.WideShapes Go.ChangeAt Go.RowKit
set_option linter.unusedVariables false
end Go.Proofs.YtgenpgfhjhcahaaGreatDoor
/- narthexref09.part. -/
namespace Go.Proofs.YtgenpgfhjhcahaaGreatDoor
open Go.ChangeShapes Go.WideShapes Go.ChangeAt Go.RowKit
set_option linter.unusedVariables false
theorem part_none1 {word : List UInt8} {may : List UInt8 → Bool} {l : List UInt8} {k : Nat} (h : blankTo l k = k) : partOut word may l k = some ([], k) := by unfold partOut; rw [if_pos (.inl h)]
theorem part_none2 {word : List UInt8} {may : List UInt8 → Bool} {l : List UInt8} {k : Nat} (h : word.isPrefixOf (l.drop (blankTo l k)) = false) : partOut word may l k = some ([], k) := by unfold partOut; rw [if_pos (.inr h)]
theorem part_some {word : List UInt8} {may : List UInt8 → Bool} {l : List UInt8} {k i : Nat} (h1 : blankTo l k ≠ k) (h2 : word.isPrefixOf (l.drop (blankTo l k)) = true) (hi : blankTo l (blankTo l k + word.length) = i) :
    partOut word may l k = if l[i]? = some 61 then (if (quotedAt l (blankTo l (i + 1))).2.2 = 0 ∧ may (quotedAt l (blankTo l (i + 1))).1 = true then some ((quotedAt l (blankTo l (i + 1))).1, (quotedAt l (blankTo l (i + 1))).2.1) else none) else none := by
  subst hi
  unfold partOut
  rw [if_neg (by rintro (h | h)
                 · exact h1 h
                 · rw [h2] at h; cases h)]
theorem quotedAt_len (l : List UInt8) (at_ : Int) : (quotedAt l at_).1.length ≤ l.length := by
  unfold quotedAt
  split
  · simp
  · unfold quotedOut
    cases l[at_.toNat]? with
    | none => simp
    | some q =>
      simp only
      split
      · unfold quotedQ
        split
        · simp
        · simp only [List.length_take, List.length_drop]
          omega
      · simp
end Go.Proofs.YtgenpgfhjhcahaaGreatDoor
/- Plain law of declarations. -/
namespace Go.Proofs.YtgenpgfhjhcahaaGreatDoor
open Go.ChangeShapes Go.WideShapes Go.ChangeAt Go.RowKit
set_option linter.unusedVariables false
/-- What is said: whether, the version, the encoding, the standalone. -/
structure DeclL where
  has : Bool
  ver : List UInt8
  enc : List UInt8
  alone : List UInt8
def DeclL.cells (d : DeclL) : Array Value := #[.bool d.has, .string ⟨d.ver.toArray⟩, .string ⟨d.enc.toArray⟩, .string ⟨d.alone.toArray⟩]
def noDecl : DeclL := ⟨false, [], [], []⟩
def verW : List UInt8 := [118, 101, 114, 115, 105, 111, 110]
def encW : List UInt8 := [101, 110, 99, 111, 100, 105, 110, 103]
def aloneW : List UInt8 := [115, 116, 97, 110, 100, 97, 108, 111, 110, 101]
/-- The end of a declaration. -/
def tailOut (l : List UInt8) (d : DeclL) (i : Nat) : DeclL × Nat × Nat := if [63, 62].isPrefixOf (l.drop (blankTo l i)) = true then (d, blankTo l i + 2, 0) else (noDecl, 0, 7)
def readAlone (l : List UInt8) (v e : List UInt8) (i : Nat) : DeclL × Nat × Nat := match partOut aloneW aloneB l i with
  | none => (noDecl, 0, 7)
  | some (a, j) => tailOut l ⟨true, v, e, a⟩ j
def readEnc (text : Bool) (l : List UInt8) (v : List UInt8) (i : Nat) : DeclL × Nat × Nat := match partOut encW encB l i with
  | none => (noDecl, 0, 7)
  | some (e, j) => if text = true then (if j = i then (noDecl, 0, 7) else tailOut l ⟨true, v, e, []⟩ j) else readAlone l v e j
def readDecl (text : Bool) (l : List UInt8) (k : Nat) : DeclL × Nat × Nat := match partOut verW verB l (k + 5) with
  | none => (noDecl, 0, 7)
  | some (v, j) => if j = k + 5 ∧ text = false then (noDecl, 0, 7) else readEnc text l v j
def declOut (text : Bool) (l : List UInt8) (k : Nat) : DeclL × Nat × Nat := if hasX l k = true then readDecl text l k else (noDecl, k, 0)
def declAt (text : Bool) (l : List UInt8) (at_ : Int) : DeclL × Nat × Nat := if at_ < 0 ∨ (l.length : Int) < at_ then (noDecl, 0, 3) else declOut text l at_.toNat
theorem quotedAt_next (l : List UInt8) (p : Nat) (h : (quotedAt l (p : Int)).2.2 = 0) : p < (quotedAt l (p : Int)).2.1 ∧ (quotedAt l (p : Int)).2.1 ≤ l.length := by
  unfold quotedAt at h ⊢
  split
  · rename_i h'
    rw [if_pos h'] at h
    cases h
  · rename_i h'
    rw [if_neg h'] at h
    rw [Int.toNat_natCast] at h ⊢
    unfold quotedOut at h ⊢
    cases hq : l[p]? with
    | none => rw [hq] at h; cases h
    | some q =>
      rw [hq] at h
      simp only at h ⊢
      have hpl : p < l.length := (List.getElem?_eq_some_iff.1 hq).1
      split
      · rename_i h2
        rw [if_pos h2] at h
        unfold quotedQ at h ⊢
        split
        · rename_i h3
          rw [if_pos h3] at h
          cases h
        · rename_i h3
          have := ix_lo q (l.drop (p + 1))
          rw [List.length_drop] at this
          simp only
          omega
      · rename_i h2
        rw [if_neg h2] at h
        cases h
/-- A part that is there ends behind its beginning, within the text. -/
theorem part_le {word : List UInt8} {may : List UInt8 → Bool} {l : List UInt8} {k : Nat} {s : List UInt8} {j : Nat} (hk : k ≤ l.length) (h : partOut word may l k = some (s, j)) : (j = k ∧ s = []) ∨ (k < j ∧ j ≤ l.length) := by
  by_cases h1 : blankTo l k = k
  · rw [part_none1 h1] at h
    cases h
    exact .inl ⟨rfl, rfl⟩
  · cases h2 : word.isPrefixOf (l.drop (blankTo l k)) with
    | false =>
      rw [part_none2 h2] at h
      cases h
      exact .inl ⟨rfl, rfl⟩
    | true =>
      rw [part_some h1 h2 rfl] at h
      split at h
      · split at h
        · rename_i h3 h4
          have hb := blankTo_le l k hk
          have hw := pre_len h2
          have hbw : blankTo l k + word.length ≤ l.length := by
            rcases hw with e | e
            · subst e; simp; exact hb.2
            · exact e
          have hb2 := blankTo_le l (blankTo l k + word.length) hbw
          have hil := (List.getElem?_eq_some_iff.1 h3).1
          have hb3 := blankTo_le l (blankTo l (blankTo l k + word.length) + 1) (by omega)
          have hq := quotedAt_next l _ h4.1
          simp only [Option.some.injEq, Prod.mk.injEq] at h
          obtain ⟨_, rfl⟩ := h
          right
          omega
        · cases h
      · cases h
end Go.Proofs.YtgenpgfhjhcahaaGreatDoor
/- narthexref09.Read. -/
namespace Go.Proofs.YtgenpgfhjhcahaaGreatDoor
open Go.ChangeShapes Go.WideShapes Go.ChangeAt Go.RowKit
set_option linter.unusedVariables false
theorem results_cell3 {P : Program} {fn : Func} {p u v : Tmp} {ty : TypeId} (h : fn.results = #[.cell p ty, .tmp u, .tmp v]) (tmps : Array Value) (w : World) (g : Nat) (t : TypeId) (cs : Array Value) (fr : Nat × Nat) (d : TypeDesc)
    (hp : tmps.getD p undef = .pointer (some ⟨g, 0, none⟩)) (hg : w.heap[g]? = some (.cells cs t fr))
    (hu : P.underlying ty = some d) (hd : (match d with | .struct _ | .array _ _ => true | _ => false) = true) (hi : (P.info? ty).map (·.size) = some cs.size) :
    (results fn tmps).run P w = .ok (.tuple #[.agg cs, tmps.getD u undef, tmps.getD v undef]) w := by
  have hp' : tmps[p]?.getD undef = .pointer (some ⟨g, 0, none⟩) := by simpa using hp
  simp [results, h, hp', asAddr, run_loadVar_row w g t ty cs fr d hg hu hd hi]
def declV (o : DeclL × Nat × Nat) : Value := .tuple #[.agg o.1.cells, .int .i64 (o.2.1 : Int), .int .i64 (o.2.2 : Int)]
end Go.Proofs.YtgenpgfhjhcahaaGreatDoor
