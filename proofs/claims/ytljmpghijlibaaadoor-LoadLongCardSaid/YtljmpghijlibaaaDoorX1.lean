/- Several texts of ours in one: XdP, XdD, XdA, XdB, XdC, XdE, XdP2, XdF, XdG. -/
import Derived.Test.YtljmpghijlibaaaDoorRows
import Derived.WalkKit
import Derived.ProofKit
import Derived.OpenShut
import Derived.ShutString
import Derived.ChangeOld
import Derived.Below
import Derived.BigQuiet
import Derived.Deep.QuietTactic
import Derived.Lib.Hide
import Derived.Deep.RegionHeld3
import Derived.Lib.SlBytesConst
import Derived.Laws.CopyOwn
import Derived.Laws.CopyRow
import Derived.Lib.Bytes
import Derived.Deep.LoopGhost
import Derived.Deep.DeepFit
import Derived.Deep.DeepMust
import Derived.WalkSpells
import Derived.WalkLawsBesides
import Derived.Shelf.Strings.SlTrimAscii
import Derived.Lib.SlTrimSet
import Derived.Lib.Fold
import Derived.Laws.EntriesVeiled
import Derived.Laws.Rows
import Derived.Laws.Tables
import Derived.Outline
import Derived.LoopN
import Derived.Test.YtljmpghijlibaaaDoorBase
import Derived.Test.YtljmpghijlibaaaDoorCharPlain
import Derived.Test.YtljmpghijlibaaaDoorPub
import Derived.Test.YtljmpghijlibaaaDoorBlank
import Derived.Test.YtljmpghijlibaaaDoorCref1
import Derived.Test.YtljmpghijlibaaaDoorY2
import Derived.Test.YtljmpghijlibaaaDoorY3
import Derived.Test.YtljmpghijlibaaaDoorShelf
import Derived.Test.YtljmpghijlibaaaDoorStr
import Derived.Test.YtljmpghijlibaaaDoorLibB
import Derived.Test.YtljmpghijlibaaaDoorMiscP
import Derived.Test.YtljmpghijlibaaaDoorMisc1
import Derived.Test.YtljmpghijlibaaaDoorBits
import Derived.Test.YtljmpghijlibaaaDoorFold
import Derived.Test.YtljmpghijlibaaaDoorFold2
namespace Go.Proofs.YtljmpghijlibaaaDoor
open Go.ChangeShapes Go.WideShapes Go.ChangeAt Go.RowKit
set_option linter.unusedVariables false
def isDig (c : UInt8) : Bool := decide (48 ≤ c.toNat ∧ c.toNat ≤ 57)
/-- May a value be a version's, an encoding's, a standalone's? -/
def verB (s : List UInt8) : Bool := [49, 46].isPrefixOf s && !(s.drop 2).isEmpty && (s.drop 2).all isDig
def encB (s : List UInt8) : Bool := Lib.equalFold s [117, 116, 102, 45, 56]
def aloneB (s : List UInt8) : Bool := decide (s = [121, 101, 115]) || decide (s = [110, 111])
def digitsL : List UInt8 := [48, 49, 50, 51, 52, 53, 54, 55, 56, 57]
theorem digits_mem (c : UInt8) : digitsL.contains c = isDig c := by
  unfold isDig digitsL
  rw [Bool.eq_iff_iff]
  simp only [List.contains_iff_mem, List.mem_cons, List.not_mem_nil, or_false, decide_eq_true_eq]
  constructor
  · rintro (rfl | rfl | rfl | rfl | rfl | rfl | rfl | rfl | rfl | rfl) <;> decide
  · rintro ⟨h1, h2⟩
    have : c.toNat = 48 ∨ c.toNat = 49 ∨ c.toNat = 50 ∨ c.toNat = 51 ∨ c.toNat = 52 ∨ c.toNat = 53 ∨ c.toNat = 54 ∨ c.toNat = 55 ∨ c.toNat = 56 ∨ c.toNat = 57 := by omega
    have e : ∀ k : UInt8, c.toNat = k.toNat → c = k := fun k h => UInt8.toNat_inj.1 h
    rcases this with h | h | h | h | h | h | h | h | h | h
    · exact .inl (e 48 h)
    · exact .inr (.inl (e 49 h))
    · exact .inr (.inr (.inl (e 50 h)))
    · exact .inr (.inr (.inr (.inl (e 51 h))))
    · exact .inr (.inr (.inr (.inr (.inl (e 52 h)))))
    · exact .inr (.inr (.inr (.inr (.inr (.inl (e 53 h))))))
    · exact .inr (.inr (.inr (.inr (.inr (.inr (.inl (e 54 h)))))))
    · exact .inr (.inr (.inr (.inr (.inr (.inr (.inr (.inl (e 55 h))))))))
    · exact .inr (.inr (.inr (.inr (.inr (.inr (.inr (.inr (.inl (e 56 h)))))))))
    · exact .inr (.inr (.inr (.inr (.inr (.inr (.inr (.inr (.inr (e 57 h)))))))))
/-- What a declaration's part reads: none; or its value and the place behind; or that it is wrong. -/
def partOut (word : List UInt8) (may : List UInt8 → Bool) (l : List UInt8) (k : Nat) : Option (List UInt8 × Nat) :=
  if blankTo l k = k ∨ word.isPrefixOf (l.drop (blankTo l k)) = false then some ([], k) else
  let i := blankTo l (blankTo l k + word.length)
  if l[i]? = some 61 then
    let q := quotedAt l (blankTo l (i + 1))
    if q.2.2 = 0 ∧ may q.1 = true then some (q.1, q.2.1) else none
  else none
theorem trimS_nil (l cs : List UInt8) : Lib.trimS l cs = [] ↔ l.all (cs.contains ·) = true := by
  unfold Lib.trimS Lib.trimLeftS Lib.trimRightS
  rw [List.all_eq_true]
  have key : ∀ (p : UInt8 → Bool) (l : List UInt8), l.dropWhile p = [] ↔ ∀ x ∈ l, p x = true := by
    intro p l
    induction l with
    | nil => simp
    | cons a t ih =>
      by_cases h : p a = true
      · simp [h, ih]
      · simp [h]
  rw [key]
  constructor
  · intro h x hx
    have hx' : x ∈ l.reverse := List.mem_reverse.2 hx
    rw [← List.takeWhile_append_dropWhile (p := fun x => cs.contains x) (l := l.reverse)] at hx'
    rcases List.mem_append.1 hx' with g | g
    · exact (List.all_eq_true.1 List.all_takeWhile) x g
    · exact h x (List.mem_reverse.2 g)
  · intro h x hx
    have := List.mem_reverse.1 hx
    exact h x (List.mem_reverse.1 ((List.dropWhile_suffix _).subset this))
theorem verB_cons (d : List UInt8) : verB (49 :: 46 :: d) = (!d.isEmpty && d.all isDig) := by simp [verB]
theorem verB_no (s : List UInt8) (h : [49, 46].isPrefixOf s = false) : verB s = false := by unfold verB; rw [h]; rfl
def xmlMark : List UInt8 := [60, 63, 120, 109, 108]
/-- Does a declaration stand there? -/
def hasX (l : List UInt8) (k : Nat) : Bool := [60, 63, 120, 109, 108].isPrefixOf (l.drop k) && (match l[k + 5]? with | some c => isBl c | none => false)
theorem hasX_no (l : List UInt8) (k : Nat) (h : [60, 63, 120, 109, 108].isPrefixOf (l.drop k) = false) : hasX l k = false := by unfold hasX; rw [h]; rfl
theorem hasX_end (l : List UInt8) (k : Nat) (h : l[k + 5]? = none) : hasX l k = false := by unfold hasX; rw [h]; simp
theorem hasX_at (l : List UInt8) (k : Nat) (c : UInt8) (h : [60, 63, 120, 109, 108].isPrefixOf (l.drop k) = true) (hc : l[k + 5]? = some c) : hasX l k = isBl c := by unfold hasX; rw [h, hc]; rfl
def hasAt (l : List UInt8) (at_ : Int) : Bool := if at_ < 0 ∨ (l.length : Int) < at_ then false else hasX l at_.toNat
set_option maxRecDepth 100000 in
set_option maxHeartbeats 4000000 in
theorem xdHas_range (A : Option Addr) (n cap : Nat) (at_ : Int) (w : World) (ha : at_ < 0 ∨ (n : Int) < at_) :
    Calls Tryd.prog 92 #[.slice A n cap, .int .i64 at_] w fun e w' => e = .returned (.bool false) ∧ w = w' := by
  by_cases h0 : at_ < 0
  · have hd : decide (at_ < 0) = true := by simpa using h0
    clear ha
    go_enter Tryd.func92, Tryd.ntmps92
    go_wp2
    go_ret
    exact ⟨rfl, rfl⟩
  · have h1 : (n : Int) < at_ := by omega
    clear ha
    go_enter Tryd.func92, Tryd.ntmps92
    go_wp2
    go_ret
    exact ⟨rfl, rfl⟩
set_option maxRecDepth 100000 in
set_option maxHeartbeats 4000000 in
theorem xdHas_in (A : Option Addr) (n cap : Nat) (l : List UInt8) (k : Nat) (w : World) (h : Byt w w.heap.size A n cap l) (hm : n ≤ 100000) (hk : k ≤ n) :
    Calls Tryd.prog 92 #[.slice A n cap, .int .i64 k] w fun e w' => e = .returned (.bool (hasX l k)) ∧ Below w.heap.size w w' := by
  have kc := fun (w : World) (C : Array Value) (n c : Nat) => Lib.run_convert_bytes_const (P := Tryd.prog) w 35 5 C n c Tryd.underlying35 Tryd.underlying5
  have hk' : ¬ (n : Int) < (k : Int) := by omega
  have hk0 : (0 : Int) ≤ (k : Int) := by omega
  have hrk : ∀ W : World, (Instr.slice 35 (.slice A n cap) (some (.int .i64 (k : Int))) none none).run Tryd.prog W = .ok (.slice (cutA A cap k) (n - k) (cap - k)) W := fun W => run_from A n cap k hk
  have hA0 := alloc_const w [60, 63, 120, 109, 108] (5, 6) (by simp)
  have hh := h.below hA0.1
  have B0 := Lib.hid hA0.1
  have hln := h.length
  by_cases hp : [60, 63, 120, 109, 108].isPrefixOf (l.drop k) = true
  · have hkl : k + 5 ≤ n := by have := pre_len hp; simp at this; omega
    have C1 := Lib.hid (cutPrefix_yes _ _ _ _ _ _ _ _ _ _ _ (hh.drop hk) hA0.2 (by simp) hp)
    simp only [List.length_cons, List.length_nil] at C1
    have hR := (hh.drop hk).drop (k := 5) (by omega)
    rw [List.drop_drop] at hR
    by_cases hz : n - k - 5 = 0
    · rw [hasX_end l k (by rw [List.getElem?_eq_none]; omega)]
      rw [hz] at C1
      clear h hm hA0 hh hln hp hR hz
      generalize cutA (cutA A cap k) (cap - k) 5 = R at *
      go_enter Tryd.func92, Tryd.ntmps92
      go_wp2_with fail
      refine C1.out.mono ?_
      rintro e w1 ⟨rfl, rfl⟩
      clear kc
      go_wp2
      go_ret
      exact ⟨rfl, B0.out⟩
    · obtain ⟨b, o, c, he, hb, hc, hcell⟩ := hR.cell (i := 0) (by omega)
      rw [List.getElem?_drop, Nat.add_zero] at hc
      rw [hasX_at l k c hp hc]
      rw [he] at C1
      rw [Nat.add_zero, hA0.1.cell (p := ⟨b, o, none⟩) hb] at hcell
      have hz0 : 0 < n - k - 5 := by omega
      have hz1 : (0 : Int) < ((n - k - 5 : Nat) : Int) := by omega
      have c0 : (0 : Int) ≤ (c.toNat : Int) := by omega
      have c1 : (c.toNat : Int) ≤ 255 := by have := c.toNat_lt; omega
      have CB : Hid (∀ W, Calls Tryd.prog 121 #[.int .i64 (c.toNat : Int)] W fun e w' => e = .returned (.bool (isBl c)) ∧ W = w') := Lib.hid fun W => blank_c _ W
      clear h hm hA0 hh hln hp hR hz hc he
      generalize n - k - 5 = rn at *
      generalize cap - k - 5 = rc at *
      generalize isBl c = ib at *
      generalize (c.toNat : Int) = cn at *
      go_enter Tryd.func92, Tryd.ntmps92
      go_wp2_with fail
      refine C1.out.mono ?_
      rintro e w1 ⟨rfl, rfl⟩
      clear kc
      go_wp2_with fail
      refine (CB.out _).mono ?_
      rintro e wq ⟨rfl, rfl⟩
      go_wp2
      go_ret
      exact ⟨rfl, B0.out⟩
  · have hp' := bfalse hp
    have C1 := Lib.hid (cutPrefix_no _ _ _ _ _ _ _ _ _ _ _ (hh.drop hk) hA0.2 hp')
    simp only [List.length_cons, List.length_nil] at C1
    rw [hasX_no l k hp']
    clear h hm hA0 hh hln hp hp'
    go_enter Tryd.func92, Tryd.ntmps92
    go_wp2_with fail
    refine C1.out.mono ?_
    rintro e w1 ⟨rfl, rfl⟩
    clear kc
    go_wp2
    go_ret
    exact ⟨rfl, B0.out⟩
set_option maxRecDepth 100000 in
set_option maxHeartbeats 4000000 in
theorem refAt8_far (A : Option Addr) (n cap : Nat) (at_ : Int) (p : List UInt8) (w : World) (hm : n ≤ 1000000) (hpl : p.length ≤ 1000000) (ha : at_ < 0 ∨ (n : Int) < at_) (hb : at_ ≤ 9223372036854775807) :
    Calls Tryd.prog 75 #[.slice A n cap, .int .i64 at_, .string ⟨p.toArray⟩] w fun e w' => e = .returned (.bool false) ∧ w = w' := by
  by_cases h0 : at_ < 0
  · have hd : ¬ (0 : Int) ≤ at_ := by omega
    clear ha
    go_enter Tryd.func75, Tryd.ntmps75
    go_wp2
    go_ret
    exact ⟨rfl, rfl⟩
  · have hd : (0 : Int) ≤ at_ := by omega
    have hw : IntKind.i64.wrap ((n : Int) - at_) = (n : Int) - at_ := by rw [IntKind.wrap_i64]; omega
    have hle : ¬ (p.length : Int) ≤ (n : Int) - at_ := by omega
    clear ha h0
    go_enter Tryd.func75, Tryd.ntmps75
    go_wp2
    go_ret
    exact ⟨rfl, rfl⟩
set_option maxRecDepth 100000 in
set_option maxHeartbeats 4000000 in
theorem refHas_far (A : Option Addr) (n cap : Nat) (at_ : Int) (w : World) (hm : n ≤ 1000000) (ha : at_ < 0 ∨ (n : Int) < at_) (hb : at_ ≤ 9223372036854775807) :
    Calls Tryd.prog 72 #[.slice A n cap, .int .i64 at_] w fun e w' => e = .returned (.bool false) ∧ w = w' := by
  have C1 := Lib.hid (refAt8_far A n cap at_ [60, 63, 120, 109, 108] w hm (by simp) ha hb)
  clear ha hb
  go_enter Tryd.func72, Tryd.ntmps72
  go_wp2_with fail
  refine (C1.out).mono ?_
  rintro e wq ⟨rfl, rfl⟩
  go_wp2
  go_ret
  exact ⟨rfl, rfl⟩
set_option maxRecDepth 100000 in
set_option maxHeartbeats 4000000 in
theorem refHas_in (A : Option Addr) (n cap : Nat) (l : List UInt8) (k : Nat) (B : Nat) (w : World) (h : Byt w B A n cap l) (hm : n ≤ 100000) (hk : k ≤ n) :
    Calls Tryd.prog 72 #[.slice A n cap, .int .i64 k] w fun e w' => e = .returned (.bool (hasX l k)) ∧ w = w' := by
  have C1 := Lib.hid (refAt8_c A n cap l k [60, 63, 120, 109, 108] B w h (by simp) (by omega) (by simp) (by omega))
  have hk0 : (0 : Int) ≤ (k : Int) := by omega
  have hk1 : (k : Int) ≤ 100000 := by omega
  have hln := h.length
  by_cases hp : [60, 63, 120, 109, 108].isPrefixOf (l.drop k) = true
  · rw [hp] at C1
    by_cases hz : k + 5 < n
    · obtain ⟨b, o, c, rfl, hb, hc, hcell⟩ := h.cell hz
      rw [hasX_at l k c hp hc]
      have hzi : (k : Int) + 5 < (n : Int) := by omega
      have hz0 : (0 : Int) ≤ (k : Int) + 5 := by omega
      have htn : ((k : Int) + 5).toNat = k + 5 := by omega
      have c0 : (0 : Int) ≤ (c.toNat : Int) := by omega
      have c1 : (c.toNat : Int) ≤ 255 := by have := c.toNat_lt; omega
      have CB : Hid (∀ W, Calls Tryd.prog 97 #[.int .i64 (c.toNat : Int)] W fun e w' => e = .returned (.bool (isBl c)) ∧ W = w') := Lib.hid fun W => refBlank_c _ W
      clear h hm hln hp hc hb hz
      generalize isBl c = ib at *
      generalize (c.toNat : Int) = cn at *
      go_enter Tryd.func72, Tryd.ntmps72
      go_wp2_with fail
      refine (C1.out).mono ?_
      rintro e wq ⟨rfl, rfl⟩
      go_wp2_with fail
      refine (CB.out _).mono ?_
      rintro e wq ⟨rfl, rfl⟩
      go_wp2
      go_ret
      exact ⟨rfl, rfl⟩
    · rw [hasX_end l k (by rw [List.getElem?_eq_none]; omega)]
      have hzi : ¬ (k : Int) + 5 < (n : Int) := by omega
      clear h hm hln hp hz
      go_enter Tryd.func72, Tryd.ntmps72
      go_wp2_with fail
      refine (C1.out).mono ?_
      rintro e wq ⟨rfl, rfl⟩
      go_wp2
      go_ret
      exact ⟨rfl, rfl⟩
  · have hp' := bfalse hp
    rw [hp'] at C1
    rw [hasX_no l k hp']
    clear h hm hln hp hp'
    go_enter Tryd.func72, Tryd.ntmps72
    go_wp2_with fail
    refine (C1.out).mono ?_
    rintro e wq ⟨rfl, rfl⟩
    go_wp2
    go_ret
    exact ⟨rfl, rfl⟩
theorem trimPre (d : List UInt8) : Lib.trimPrefix (49 :: 46 :: d) [49, 46] = d := by simp [Lib.trimPrefix, Lib.hasPrefix]
theorem stringsTrim_c (d : List UInt8) (w : World) (hd : d.length ≤ 100000) : Calls Tryd.prog 95 #[.string ⟨d.toArray⟩, .string ⟨#[48, 49, 50, 51, 52, 53, 54, 55, 56, 57]⟩] w fun e w' => e = .returned (.string ⟨(Lib.trimS d digitsL).toArray⟩) ∧ Below w.heap.size w w' :=
  Any.strings_Trim_laid Tryd.lays160 (by kernel_rfl) ⟨d.toArray⟩ ⟨#[48, 49, 50, 51, 52, 53, 54, 55, 56, 57]⟩ w (by simp [ByteArray.size]; omega) (by decide) (ascii_of_all (by decide))
set_option maxRecDepth 100000 in
set_option maxHeartbeats 4000000 in
theorem version_c (s : List UInt8) (w : World) (hs : s.length ≤ 100000) : Calls Tryd.prog 70 #[.string ⟨s.toArray⟩] w fun e w' => e = .returned (.bool (verB s)) ∧ Below w.heap.size w w' := by
  have C1 := Lib.hid (Tryd.strings_CutPrefix ⟨s.toArray⟩ ⟨#[49, 46]⟩ w)
  by_cases hp : [49, 46].isPrefixOf s = true
  · obtain ⟨d, rfl⟩ : ∃ d, s = 49 :: 46 :: d := by
      obtain ⟨t, ht⟩ := List.isPrefixOf_iff_prefix.1 hp
      exact ⟨t, ht.symm⟩
    rw [verB_cons]
    have e1 : Lib.trimPrefix (⟨(49 :: 46 :: d).toArray⟩ : ByteArray).data.toList (⟨#[49, 46]⟩ : ByteArray).data.toList = d := trimPre d
    have e2 : Lib.hasPrefix (⟨(49 :: 46 :: d).toArray⟩ : ByteArray).data.toList (⟨#[49, 46]⟩ : ByteArray).data.toList = true := by simp [Lib.hasPrefix]
    rw [e1, e2] at C1
    clear e1 e2 hp
    cases d with
    | nil =>
      go_enter Tryd.func70, Tryd.ntmps70
      go_wp2_with fail
      refine (C1.out).mono ?_
      rintro e wq ⟨rfl, hwq⟩
      subst hwq
      go_wp2
      go_ret
      exact ⟨rfl, Below.refl _ _⟩
    | cons c d =>
      have C2 := Lib.hid (stringsTrim_c (c :: d) w (by simp at hs ⊢; omega))
      have hiff := trimS_nil (c :: d) digitsL
      simp only [digits_mem] at hiff
      have hne : (c :: d).isEmpty = false := rfl
      have hl1 : 0 < (c :: d).length := by simp
      rw [hne]
      generalize hall : (c :: d).all isDig = al at *
      clear hall
      have hs2 : (49 :: 46 :: c :: d).length ≤ 100000 := hs
      generalize (49 : UInt8) :: 46 :: c :: d = S at *
      generalize c :: d = D at *
      cases hT : Lib.trimS D digitsL with
      | nil =>
        rw [hT] at C2
        have hal : al = true := hiff.1 hT
        subst hal
        clear hT hiff hs
        go_enter Tryd.func70, Tryd.ntmps70
        go_wp2_with fail
        refine (C1.out).mono ?_
        rintro e wq ⟨rfl, hwq⟩
        subst hwq
        go_wp2_with fail
        refine (C2.out).mono ?_
        rintro e w1 ⟨rfl, hb⟩
        have B1 := Lib.hid hb
        clear hb
        go_wp2
        go_ret
        exact ⟨rfl, B1.out⟩
      | cons u T =>
        rw [hT] at C2
        have hal : al = false := by
          cases al with
          | false => rfl
          | true => rw [hiff.2 rfl] at hT; cases hT
        subst hal
        clear hT hiff hs
        have hnT : (u :: T).isEmpty = false := rfl
        have hlT : 0 < (u :: T).length := by simp
        generalize u :: T = UT at *
        go_enter Tryd.func70, Tryd.ntmps70
        go_wp2_with fail
        refine (C1.out).mono ?_
        rintro e wq ⟨rfl, hwq⟩
        subst hwq
        go_wp2_with fail
        refine (C2.out).mono ?_
        rintro e w1 ⟨rfl, hb⟩
        have B1 := Lib.hid hb
        clear hb
        go_wp2
        go_ret
        exact ⟨rfl, B1.out⟩
  · have hp' := bfalse hp
    rw [verB_no s hp']
    have e2 : Lib.hasPrefix (⟨s.toArray⟩ : ByteArray).data.toList (⟨#[49, 46]⟩ : ByteArray).data.toList = false := hp'
    rw [e2] at C1
    generalize Lib.trimPrefix (⟨s.toArray⟩ : ByteArray).data.toList (⟨#[49, 46]⟩ : ByteArray).data.toList = D at *
    clear e2 hp hp' hs
    go_enter Tryd.func70, Tryd.ntmps70
    go_wp2_with fail
    refine (C1.out).mono ?_
    rintro e wq ⟨rfl, hwq⟩
    subst hwq
    go_wp2
    go_ret
    exact ⟨rfl, Below.refl _ _⟩
theorem equalFold_len : ∀ (s t : List UInt8), s.length ≠ t.length → Lib.equalFold s t = false
  | [], [], h => absurd rfl h
  | [], _ :: _, _ => rfl
  | _ :: _, [], _ => rfl
  | x :: s, y :: t, h => by
    have := equalFold_len s t (by simpa using h)
    simp [Lib.equalFold, this]
set_option maxRecDepth 100000 in
set_option maxHeartbeats 4000000 in
theorem encoding_c (s : List UInt8) (w : World) (hT : FoldT w) : Calls Tryd.prog 71 #[.string ⟨s.toArray⟩] w fun e w' => e = .returned (.bool (encB s)) ∧ Below w.heap.size w w' := by
  unfold encB
  by_cases h : s.length = 5
  · have C1 := Lib.hid (equalFold_c s [117, 116, 102, 45, 56] w (by simp [h]) (by omega) utf8Fold hT)
    have hl : ((s.length : Int) == 5) = true := by simp; omega
    clear h hT
    generalize Lib.equalFold s [117, 116, 102, 45, 56] = r at *
    go_enter Tryd.func71, Tryd.ntmps71
    go_wp2_with fail
    refine (C1.out).mono ?_
    rintro e w1 ⟨rfl, hb⟩
    have B1 := Lib.hid hb
    clear hb
    go_wp2
    go_ret
    exact ⟨rfl, B1.out⟩
  · rw [equalFold_len _ _ h]
    have hl : ((s.length : Int) == 5) = false := by simp; omega
    clear h hT
    go_enter Tryd.func71, Tryd.ntmps71
    go_wp2
    go_ret
    exact ⟨rfl, Below.refl _ _⟩

theorem verB_short (s : List UInt8) (h : s.length < 3) : verB s = false := by
  cases hp : [49, 46].isPrefixOf s with
  | false => exact verB_no s hp
  | true =>
    obtain ⟨d, rfl⟩ : ∃ d, s = 49 :: 46 :: d := by
      obtain ⟨t, ht⟩ := List.isPrefixOf_iff_prefix.1 hp
      exact ⟨t, ht.symm⟩
    cases d with
    | nil => rfl
    | cons a t => simp at h; omega
theorem run_strTo (l : List UInt8) (j : Nat) (hj : j ≤ l.length) (w : World) :
    (Instr.slice 9 (.string ⟨l.toArray⟩) none (some (.int .i64 (j : Int))) none).run Tryd.prog w = .ok (.string ⟨(l.take j).toArray⟩) w := by
  have hsz : (⟨l.toArray⟩ : ByteArray).size = l.length := by simp [ByteArray.size]
  rw [run_slice_string_h (P := Tryd.prog) (w := w) (t := 9) (s := ⟨l.toArray⟩) Tryd.underlying9 .i64 (j : Int) (by omega) (by rw [hsz]; omega)]
  congr 2
  refine ByteArray.ext (Array.toList_inj.1 ?_)
  rw [Lib.extract_data]
  simp
set_option maxRecDepth 100000 in
set_option maxHeartbeats 4000000 in
theorem refMay2_c (s : List UInt8) (w : World) : Calls Tryd.prog 99 #[.int .i64 2, .string ⟨s.toArray⟩] w fun e w' => e = .returned (.bool (aloneB s)) ∧ w = w' := by
  unfold aloneB
  by_cases h1 : s = [121, 101, 115]
  · subst h1
    go_enter Tryd.func99, Tryd.ntmps99
    go_wp2
    go_ret
    exact ⟨rfl, rfl⟩
  · by_cases h2 : s = [110, 111]
    · subst h2
      go_enter Tryd.func99, Tryd.ntmps99
      go_wp2
      go_ret
      exact ⟨rfl, rfl⟩
    · have e1 : (s == [121, 101, 115]) = false := by simpa using h1
      have e2 : (s == [110, 111]) = false := by simpa using h2
      have HD : Hid ((decide (s = [121, 101, 115]) || decide (s = [110, 111])) = false) := Lib.hid (by simp [h1, h2])
      clear h1 h2
      go_enter Tryd.func99, Tryd.ntmps99
      go_wp2
      go_ret
      rw [HD.out]
      exact ⟨rfl, rfl⟩
set_option maxRecDepth 100000 in
set_option maxHeartbeats 4000000 in
theorem refMay0_c (s : List UInt8) (w : World) (hs : s.length ≤ 100000) : Calls Tryd.prog 99 #[.int .i64 0, .string ⟨s.toArray⟩] w fun e w' => e = .returned (.bool (verB s)) ∧ w = w' := by
  by_cases hl : s.length < 3
  · rw [verB_short s hl]
    have hl' : (s.length : Int) < 3 := by omega
    clear hl hs
    go_enter Tryd.func99, Tryd.ntmps99
    go_wp2
    go_ret
    exact ⟨rfl, rfl⟩
  · have hl' : ¬ (s.length : Int) < 3 := by omega
    have hsl : ∀ W, (Instr.slice 9 (.string ⟨s.toArray⟩) none (some (.int .i64 2)) none).run Tryd.prog W = .ok (.string ⟨(s.take 2).toArray⟩) W := fun W => run_strTo s 2 (by omega) W
    have hpt := pre_take [49, 46] s
    simp only [List.length_cons, List.length_nil] at hpt
    cases hp : [49, 46].isPrefixOf s with
    | false =>
      rw [verB_no s hp]
      rw [hp] at hpt
      have e1 : (s.take 2 == [49, 46]) = false := hpt.symm
      generalize s.take 2 = q at *
      clear hpt hp hs hl
      go_enter Tryd.func99, Tryd.ntmps99
      go_wp2
      go_ret
      exact ⟨rfl, rfl⟩
    | true =>
      rw [hp] at hpt
      have e1 : s.take 2 = [49, 46] := by have := hpt.symm; simpa using this
      rw [e1] at hsl
      have HV : Hid (verB s = (s.drop 2).all isDig) := Lib.hid (by
        unfold verB
        rw [hp]
        have : (s.drop 2).isEmpty = false := by
          cases hd : s.drop 2 with
          | nil =>
            have : (s.drop 2).length = 0 := by rw [hd]; rfl
            rw [List.length_drop] at this
            omega
          | cons a t => rfl
        rw [this]
        rfl)
      have HL := Lib.hid (show 3 ≤ s.length by omega)
      clear hpt hp e1 hl
      go_enter Tryd.func99, Tryd.ntmps99
      go_wp2
      go_loopg [8] (s.length) (fun g v wx => ∃ t : Nat, 2 ≤ t ∧ t ≤ s.length ∧ Hid (g + t = s.length + 2) ∧ v = .int .i64 (t : Int) ∧ w = wx ∧ Hid (∀ j (c : UInt8), 2 ≤ j → j < t → s[j]? = some c → isDig c = true))
      case atStart => exact ⟨2, Nat.le_refl _, by have := HL.out; omega, Lib.hid (by omega), rfl, rfl, Lib.hid (fun j c h1 h2 => absurd h1 (by omega))⟩
      case round =>
        obtain ⟨t, ht2, ht, hg, rfl, rfl, HN⟩ := hrel
        have ht0 : (0 : Int) ≤ (t : Int) := by omega
        have htb : (t : Int) ≤ 100000 := by omega
        by_cases htn : t < s.length
        · have htni : (t : Int) < (s.length : Int) := by omega
          have hix := run_strIndex s t htn w
          have HX : Hid (s[t]? = some (s.getD t 0)) := Lib.hid (by rw [List.getElem?_eq_getElem htn]; simp [htn])
          generalize s.getD t 0 = c at *
          cases hd : isDig c with
          | true =>
            have hdd := hd
            unfold isDig at hdd
            simp only [decide_eq_true_eq] at hdd
            have d1 : ¬ (c.toNat : Int) < 48 := by omega
            have d2 : ¬ (57 : Int) < (c.toNat : Int) := by omega
            have HN2 : Hid (∀ j (c : UInt8), 2 ≤ j → j < t + 1 → s[j]? = some c → isDig c = true) := Lib.hid (fun j c' h1 h2 h3 => by
              rcases (show j < t ∨ j = t by omega) with h | rfl
              · exact HN.out j c' h1 h h3
              · have := HX.out
                rw [h3] at this
                rw [Option.some.inj this]
                exact hd)
            clear hd hdd
            generalize (c.toNat : Int) = cn at *
            go_wp2
            go_roundg (s.length + 2 - (t + 1))
            case measure => have := hg.out; omega
            case rel => exact ⟨t + 1, by omega, by omega, Lib.hid (by omega), by go_num, rfl, HN2⟩
          | false =>
            have HF : Hid ((s.drop 2).all isDig = false) := Lib.hid (by
              rw [List.all_eq_false]
              refine ⟨c, ?_, by simp [hd]⟩
              have : (s.drop 2)[t - 2]? = some c := by rw [List.getElem?_drop, show 2 + (t - 2) = t by omega]; exact HX.out
              exact List.mem_of_getElem? this)
            have hdd := hd
            unfold isDig at hdd
            simp only [decide_eq_false_iff_not] at hdd
            clear hd
            rcases (show c.toNat < 48 ∨ (48 ≤ c.toNat ∧ 57 < c.toNat) by omega) with h | ⟨h, h'⟩
            · have d1 : (c.toNat : Int) < 48 := by omega
              clear hdd h
              generalize (c.toNat : Int) = cn at *
              go_wp2
              go_ret
              rw [HV.out, HF.out]
              exact ⟨rfl, rfl⟩
            · have d1 : ¬ (c.toNat : Int) < 48 := by omega
              have d2 : (57 : Int) < (c.toNat : Int) := by omega
              clear hdd h h'
              generalize (c.toNat : Int) = cn at *
              go_wp2
              go_ret
              rw [HV.out, HF.out]
              exact ⟨rfl, rfl⟩
        · have htni : ¬ (t : Int) < (s.length : Int) := by omega
          have HF : Hid ((s.drop 2).all isDig = true) := Lib.hid (by
            rw [List.all_eq_true]
            intro c hc
            obtain ⟨j, hj⟩ := List.mem_iff_getElem?.1 hc
            rw [List.getElem?_drop] at hj
            have hjl : 2 + j < s.length := (List.getElem?_eq_some_iff.1 hj).1
            exact HN.out (2 + j) c (by omega) (by omega) hj)
          go_wp2
          go_ret
          rw [HV.out, HF.out]
          exact ⟨rfl, rfl⟩
def lowB (c : UInt8) : UInt8 := if 65 ≤ c.toNat ∧ c.toNat ≤ 90 then c + 32 else c
theorem lowB_nat (c : UInt8) : (lowB c).toNat = if 65 ≤ c.toNat ∧ c.toNat ≤ 90 then c.toNat + 32 else c.toNat := by
  unfold lowB
  split
  · rename_i h
    rw [UInt8.toNat_add]
    show (c.toNat + 32) % 256 = _
    omega
  · rfl
theorem lowB_fold (x y : UInt8) (hy : ¬ (65 ≤ y.toNat ∧ y.toNat ≤ 90)) : (lowB x == y) = Lib.foldEq x y := by
  unfold Lib.foldEq
  rw [Bool.eq_iff_iff, beq_iff_eq, decide_eq_true_eq, ← UInt8.toNat_inj, lowB_nat]
  split <;> omega
theorem low_fold : ∀ (s t : List UInt8), (∀ y ∈ t, ¬ (65 ≤ y.toNat ∧ y.toNat ≤ 90)) → (s.map lowB == t) = Lib.equalFold s t
  | [], [], _ => rfl
  | [], _ :: _, _ => rfl
  | _ :: _, [], _ => rfl
  | x :: s, y :: t, h => by
    rw [List.map_cons, Lib.equalFold, ← low_fold s t (fun z hz => h z (by simp [hz])), ← lowB_fold x y (h y (by simp))]
    rfl
theorem low_enc (s : List UInt8) : (s.map lowB == [117, 116, 102, 45, 56]) = encB s := low_fold s _ (by decide)
theorem one_str (W : World) (u : UInt8) : (convert 35 9 (.slice (some ⟨W.heap.size, 0, none⟩) 1 1)).run Tryd.prog (W.alloc (.cells #[.int .u8 (u.toNat : Int)] 5)) = .ok (.string ⟨#[u]⟩) (W.alloc (.cells #[.int .u8 (u.toNat : Int)] 5)) :=
  (Byt.const W [u] (0, 0) (by simp)).str
set_option maxRecDepth 100000 in
set_option maxHeartbeats 4000000 in
theorem refMay1_c (s : List UInt8) (w : World) (hs : s.length ≤ 100000) : Calls Tryd.prog 99 #[.int .i64 1, .string ⟨s.toArray⟩] w fun e w' => e = .returned (.bool (encB s)) ∧ Below w.heap.size w w' := by
  have HE := Lib.hid (low_enc s)
  go_enter Tryd.func99, Tryd.ntmps99
  go_wp2
  go_loopg [5, 6] (s.length) (fun g a v wx => ∃ t : Nat, t ≤ s.length ∧ Hid (g + t = s.length) ∧ a = .string ⟨((s.take t).map lowB).toArray⟩ ∧ v = .int .i64 (t : Int) ∧ Hid (Below w.heap.size w wx))
  case atStart => exact ⟨0, Nat.zero_le _, Lib.hid rfl, rfl, rfl, Lib.hid (Below.refl _ _)⟩
  case round =>
    obtain ⟨t, ht, hg, rfl, rfl, HB⟩ := hrel
    have ht0 : (0 : Int) ≤ (t : Int) := by omega
    have htb : (t : Int) ≤ 100000 := by omega
    by_cases htn : t < s.length
    · have htni : (t : Int) < (s.length : Int) := by omega
      have hix := run_strIndex s t htn wr
      have hsn : (s.take (t + 1)).map lowB = (s.take t).map lowB ++ [lowB (s.getD t 0)] := by
        rw [List.take_add_one, List.map_append, List.getElem?_eq_getElem htn]
        simp [htn]
      have hln : ((s.take t).map lowB).length ≤ 100000 := by rw [List.length_map, List.length_take]; omega
      have HB2 := Lib.hid (HB.out.alloc HB.out.size (.cells #[.int .u8 ((lowB (s.getD t 0)).toNat : Int)] 5))
      have hst := one_str wr (lowB (s.getD t 0))
      have hct : ∀ W, (Op.stringOp .add ⟨((s.take t).map lowB).toArray⟩ ⟨#[lowB (s.getD t 0)]⟩).run Tryd.prog W = .ok (.string ⟨((s.take t).map lowB ++ [lowB (s.getD t 0)]).toArray⟩) W := fun W => run_sop (w := W) _ [lowB (s.getD t 0)] (by simp only [List.length_cons, List.length_nil]; omega)
      rw [← hsn] at hct
      clear hsn hln
      generalize hnx : (s.take (t + 1)).map lowB = nxt at *
      have HNX := Lib.hid hnx
      clear hnx
      generalize (s.take t).map lowB = acc at *
      generalize s.getD t 0 = c at *
      have c0 : (0 : Int) ≤ (c.toNat : Int) := by omega
      have c1 : (c.toNat : Int) ≤ 255 := by have := c.toNat_lt; omega
      by_cases hu : 65 ≤ c.toNat ∧ c.toNat ≤ 90
      · have hlow : ((lowB c).toNat : Int) = (c.toNat : Int) + 32 := by rw [lowB_nat, if_pos hu]; rfl
        have u1 : (65 : Int) ≤ (c.toNat : Int) := by omega
        have u2 : (c.toNat : Int) ≤ 90 := by omega
        rw [hlow] at hst HB2
        generalize lowB c = lc at *
        generalize (c.toNat : Int) = cn at *
        clear hlow hu
        go_wp2
        go_roundg (s.length - (t + 1))
        case measure => have := hg.out; omega
        case rel => exact ⟨t + 1, by omega, Lib.hid (by omega), by rw [HNX.out], by go_num, HB2⟩
      · have hlow : lowB c = c := by unfold lowB; rw [if_neg hu]
        rw [hlow] at hst HB2 hct
        rcases (show c.toNat < 65 ∨ (65 ≤ c.toNat ∧ 90 < c.toNat) by omega) with h | ⟨h, h'⟩
        · have u1 : ¬ (65 : Int) ≤ (c.toNat : Int) := by omega
          clear hlow hu h
          generalize (c.toNat : Int) = cn at *
          go_wp2
          go_roundg (s.length - (t + 1))
          case measure => have := hg.out; omega
          case rel => exact ⟨t + 1, by omega, Lib.hid (by omega), by rw [HNX.out], by go_num, HB2⟩
        · have u1 : (65 : Int) ≤ (c.toNat : Int) := by omega
          have u2 : ¬ (c.toNat : Int) ≤ 90 := by omega
          clear hlow hu h h'
          generalize (c.toNat : Int) = cn at *
          go_wp2
          go_roundg (s.length - (t + 1))
          case measure => have := hg.out; omega
          case rel => exact ⟨t + 1, by omega, Lib.hid (by omega), by rw [HNX.out], by go_num, HB2⟩
    · have htni : ¬ (t : Int) < (s.length : Int) := by omega
      have hte : s.take t = s := List.take_of_length_le (by omega)
      rw [hte]
      clear hte
      generalize s.map lowB = L at *
      go_wp2
      go_ret
      rw [← HE.out]
      exact ⟨rfl, HB.out⟩
theorem pre1 (a : UInt8) (l : List UInt8) (k : Nat) : [a].isPrefixOf (l.drop k) = decide (l[k]? = some a) := by
  rw [Bool.eq_iff_iff, decide_eq_true_eq]
  constructor
  · intro h
    have := pre_get h 0 (by simp)
    simpa using this
  · intro h
    exact pre_of_get fun i hi => by
      simp at hi
      subst hi
      simpa using h
theorem part_none1 {word : List UInt8} {may : List UInt8 → Bool} {l : List UInt8} {k : Nat} (h : blankTo l k = k) : partOut word may l k = some ([], k) := by unfold partOut; rw [if_pos (.inl h)]
theorem part_none2 {word : List UInt8} {may : List UInt8 → Bool} {l : List UInt8} {k : Nat} (h : word.isPrefixOf (l.drop (blankTo l k)) = false) : partOut word may l k = some ([], k) := by unfold partOut; rw [if_pos (.inr h)]
theorem part_some {word : List UInt8} {may : List UInt8 → Bool} {l : List UInt8} {k i : Nat} (h1 : blankTo l k ≠ k) (h2 : word.isPrefixOf (l.drop (blankTo l k)) = true) (hi : blankTo l (blankTo l k + word.length) = i) :
    partOut word may l k = if l[i]? = some 61 then (if (quotedAt l (blankTo l (i + 1))).2.2 = 0 ∧ may (quotedAt l (blankTo l (i + 1))).1 = true then some ((quotedAt l (blankTo l (i + 1))).1, (quotedAt l (blankTo l (i + 1))).2.1) else none) else none := by
  subst hi
  unfold partOut
  rw [if_neg (by rintro (h | h)
                 · exact h1 h
                 · rw [h2] at h; cases h)]
def partV : Option (List UInt8 × Nat) → Value
  | none => .tuple #[.string ⟨#[]⟩, .int .i64 (-1)]
  | some (s, k) => .tuple #[.string ⟨s.toArray⟩, .int .i64 (k : Int)]
theorem quotedAt_len (l : List UInt8) (at_ : Int) : (quotedAt l at_).1.length ≤ l.length := by
  unfold quotedAt
  split
  · simp
  · unfold quotedOut
    cases l[at_.toNat]? with
    | none => simp
    | some q =>
      simp only
      split
      · unfold quotedQ
        split
        · simp
        · simp only [List.length_take, List.length_drop]
          omega
      · simp
set_option maxRecDepth 100000 in
set_option maxHeartbeats 4000000 in
theorem refPart0_c (A : Option Addr) (n cap : Nat) (l : List UInt8) (k : Nat) (w : World) (h : Byt w w.heap.size A n cap l) (hm : n ≤ 40000) (hk : k ≤ n) :
    Calls Tryd.prog 73 #[.slice A n cap, .int .i64 k, .int .i64 0] w fun e w' => e = .returned (partV (partOut [118, 101, 114, 115, 105, 111, 110] verB l k)) ∧ Below w.heap.size w w' := by
  have hln := h.length
  have B0 := Lib.hid ((Below.refl w.heap.size w).alloc (Nat.le_refl _) (.cells #[.string ⟨#[118, 101, 114, 115, 105, 111, 110]⟩, .string ⟨#[101, 110, 99, 111, 100, 105, 110, 103]⟩, .string ⟨#[115, 116, 97, 110, 100, 97, 108, 111, 110, 101]⟩] 9))
  have CB : Hid (∀ t, t ≤ n → ∀ W, Below w.heap.size w W → Calls Tryd.prog 74 #[.slice A n cap, .int .i64 (t : Int)] W fun e w' => e = .returned (.int .i64 (blankTo l t)) ∧ W = w') := Lib.hid fun t ht W hb => refBlanks_c A n cap l t _ W (h.below hb) (by omega) ht
  have CA : Hid (∀ (t : Nat) (p : List UInt8), t ≤ n → p ≠ [] → p.length ≤ 100 → ∀ W, Below w.heap.size w W → Calls Tryd.prog 75 #[.slice A n cap, .int .i64 (t : Int), .string ⟨p.toArray⟩] W fun e w' => e = .returned (.bool (p.isPrefixOf (l.drop t))) ∧ W = w') := Lib.hid fun t p ht hp hpl W hb => refAt8_c A n cap l t p _ W (h.below hb) hp (by omega) (by omega) (by omega)
  have hb1 := blankTo_le l k (by omega)
  have c1 := CB.out k hk
  have c2 := CA.out (blankTo l k) [118, 101, 114, 115, 105, 111, 110] (by omega) (by simp) (by simp)
  have hk0 : (0 : Int) ≤ (k : Int) := by omega
  have hk1 : (k : Int) ≤ 40000 := by omega
  by_cases hbk : blankTo l k = k
  · rw [part_none1 hbk]
    rw [hbk] at c1
    have C1 := Lib.hid c1
    clear h hln CB CA hb1 c1 c2 hbk
    go_enter Tryd.func73, Tryd.ntmps73
    go_wp2_with fail
    refine (C1.out _ B0.out).mono ?_
    rintro e wq ⟨rfl, rfl⟩
    go_wp2
    go_ret2
    exact ⟨rfl, B0.out⟩
  · have hbf : ((blankTo l k : Int) == (k : Int)) = false := by simp; omega
    cases hp : [118, 101, 114, 115, 105, 111, 110].isPrefixOf (l.drop (blankTo l k)) with
    | false =>
      rw [part_none2 hp]
      rw [hp] at c2
      have C1 := Lib.hid c1
      have C2 := Lib.hid c2
      clear h hln CB CA hb1 c1 c2 hbk hp
      generalize blankTo l k = b at *
      go_enter Tryd.func73, Tryd.ntmps73
      go_wp2_with fail
      refine (C1.out _ B0.out).mono ?_
      rintro e wq ⟨rfl, rfl⟩
      go_wp2_with fail
      refine (C2.out _ B0.out).mono ?_
      rintro e wq ⟨rfl, rfl⟩
      go_wp2
      go_ret2
      exact ⟨rfl, B0.out⟩
    | true =>
      rw [hp] at c2
      have hbl : blankTo l k + 7 ≤ n := by have := pre_len hp; simp at this; omega
      have c3 := CB.out (blankTo l k + 7) hbl
      have hb2 := blankTo_le l (blankTo l k + 7) (by omega)
      rw [part_some hbk hp rfl]
      simp only [List.length_cons, List.length_nil]
      rw [show ((blankTo l k + 7 : Nat) : Int) = (blankTo l k : Int) + 7 by omega] at c3
      have hbb : (blankTo l k : Int) ≤ 40000 := by omega
      have hbb0 : (0 : Int) ≤ (blankTo l k : Int) := by omega
      generalize hi : blankTo l (blankTo l k + 7) = i at *
      have c4 := CA.out i [61] (by omega) (by simp) (by simp)
      rw [pre1] at c4
      have hi0 : (0 : Int) ≤ (i : Int) := by omega
      have hi1 : (i : Int) ≤ 40000 := by omega
      have C1 := Lib.hid c1
      have C2 := Lib.hid c2
      have C3 := Lib.hid c3
      clear c1 c2 c3 hp
      by_cases he : l[i]? = some 61
      · rw [if_pos he]
        have hd : decide (l[i]? = some 61) = true := by simpa using he
        rw [hd] at c4
        have C4 := Lib.hid c4
        have hil : i + 1 ≤ n := by
          have := (List.getElem?_eq_some_iff.1 he).1
          omega
        have c5 := CB.out (i + 1) hil
        rw [show ((i + 1 : Nat) : Int) = (i : Int) + 1 by omega] at c5
        have C5 := Lib.hid c5
        have C6 : Hid (∀ W, Below w.heap.size w W → Calls Tryd.prog 98 #[.slice A n cap, .int .i64 (blankTo l (i + 1) : Int)] W fun e w' => e = .returned (outV (quotedAt l (blankTo l (i + 1)))) ∧ Hid (Below w.heap.size w w')) := Lib.hid fun W hb => (refQuoted_c A n cap l (blankTo l (i + 1) : Int) W _ (h.below hb) (by omega)).mono fun e w' ⟨he, m, hm⟩ => ⟨he, Lib.hid (hm ▸ below_drewN' hb)⟩
        have hql := quotedAt_len l (blankTo l (i + 1) : Int)
        have C7 : Hid (∀ s : List UInt8, s.length ≤ n → ∀ W, Calls Tryd.prog 99 #[.int .i64 0, .string ⟨s.toArray⟩] W fun e w' => e = .returned (.bool (verB s)) ∧ Below W.heap.size W w') := Lib.hid fun s hsn W => by
          have hsl : s.length ≤ 100000 := by omega
          exact (refMay0_c s W hsl).mono fun e w' ⟨he, hw⟩ => ⟨he, hw ▸ Below.refl _ _⟩
        clear h CB CA c4 c5 hd hb1 hb2 hil hi he hbk hbl
        generalize quotedAt l (blankTo l (i + 1) : Int) = q at *
        generalize blankTo l (i + 1) = p at *
        generalize blankTo l k = b at *
        obtain ⟨s, t, f⟩ := q
        simp only at hql ⊢
        unfold outV at C6
        simp only at C6
        have C8 := Lib.hid (C7.out s (by omega))
        clear C7 hql hln
        by_cases hf : f = 0
        · subst hf
          cases hmy : verB s with
          | true =>
            rw [hmy] at C8
            clear hmy
            rw [if_pos ⟨rfl, rfl⟩]
            unfold partV
            go_enter Tryd.func73, Tryd.ntmps73
            go_wp2_with fail
            refine (C1.out _ B0.out).mono ?_
            rintro e wq ⟨rfl, rfl⟩
            go_wp2_with fail
            refine (C2.out _ B0.out).mono ?_
            rintro e wq ⟨rfl, rfl⟩
            go_wp2_with fail
            refine (C3.out _ B0.out).mono ?_
            rintro e wq ⟨rfl, rfl⟩
            go_wp2_with fail
            refine (C4.out _ B0.out).mono ?_
            rintro e wq ⟨rfl, rfl⟩
            go_wp2_with fail
            refine (C5.out _ B0.out).mono ?_
            rintro e wq ⟨rfl, rfl⟩
            go_wp2_with fail
            refine (C6.out _ B0.out).mono ?_
            rintro e w6 ⟨rfl, B6⟩
            go_wp2_with fail
            refine (C8.out _).mono ?_
            rintro e w7 ⟨rfl, hb⟩
            have B7 := Lib.hid (B6.out.trans (hb.mono B6.out.size))
            clear hb
            go_wp2
            go_ret2
            exact ⟨rfl, B7.out⟩
          | false =>
            rw [hmy] at C8
            clear hmy
            rw [if_neg (by simp)]
            unfold partV
            go_enter Tryd.func73, Tryd.ntmps73
            go_wp2_with fail
            refine (C1.out _ B0.out).mono ?_
            rintro e wq ⟨rfl, rfl⟩
            go_wp2_with fail
            refine (C2.out _ B0.out).mono ?_
            rintro e wq ⟨rfl, rfl⟩
            go_wp2_with fail
            refine (C3.out _ B0.out).mono ?_
            rintro e wq ⟨rfl, rfl⟩
            go_wp2_with fail
            refine (C4.out _ B0.out).mono ?_
            rintro e wq ⟨rfl, rfl⟩
            go_wp2_with fail
            refine (C5.out _ B0.out).mono ?_
            rintro e wq ⟨rfl, rfl⟩
            go_wp2_with fail
            refine (C6.out _ B0.out).mono ?_
            rintro e w6 ⟨rfl, B6⟩
            go_wp2_with fail
            refine (C8.out _).mono ?_
            rintro e w7 ⟨rfl, hb⟩
            have B7 := Lib.hid (B6.out.trans (hb.mono B6.out.size))
            clear hb
            go_wp2
            go_ret2
            exact ⟨rfl, B7.out⟩
        · rw [if_neg (fun h => hf h.1)]
          have hfz : ((f : Int) != 0) = true := by simp; omega
          clear hf C8
          unfold partV
          go_enter Tryd.func73, Tryd.ntmps73
          go_wp2_with fail
          refine (C1.out _ B0.out).mono ?_
          rintro e wq ⟨rfl, rfl⟩
          go_wp2_with fail
          refine (C2.out _ B0.out).mono ?_
          rintro e wq ⟨rfl, rfl⟩
          go_wp2_with fail
          refine (C3.out _ B0.out).mono ?_
          rintro e wq ⟨rfl, rfl⟩
          go_wp2_with fail
          refine (C4.out _ B0.out).mono ?_
          rintro e wq ⟨rfl, rfl⟩
          go_wp2_with fail
          refine (C5.out _ B0.out).mono ?_
          rintro e wq ⟨rfl, rfl⟩
          go_wp2_with fail
          refine (C6.out _ B0.out).mono ?_
          rintro e w6 ⟨rfl, B6⟩
          go_wp2
          go_ret2
          exact ⟨rfl, B6.out⟩
      · rw [if_neg he]
        have hd : decide (l[i]? = some 61) = false := by simpa using he
        rw [hd] at c4
        have C4 := Lib.hid c4
        clear h CB CA c4 hd hb1 hb2 hi he hbk hbl hln
        generalize blankTo l k = b at *
        unfold partV
        go_enter Tryd.func73, Tryd.ntmps73
        go_wp2_with fail
        refine (C1.out _ B0.out).mono ?_
        rintro e wq ⟨rfl, rfl⟩
        go_wp2_with fail
        refine (C2.out _ B0.out).mono ?_
        rintro e wq ⟨rfl, rfl⟩
        go_wp2_with fail
        refine (C3.out _ B0.out).mono ?_
        rintro e wq ⟨rfl, rfl⟩
        go_wp2_with fail
        refine (C4.out _ B0.out).mono ?_
        rintro e wq ⟨rfl, rfl⟩
        go_wp2
        go_ret2
        exact ⟨rfl, B0.out⟩
set_option maxRecDepth 100000 in
set_option maxHeartbeats 4000000 in
theorem refPart1_c (A : Option Addr) (n cap : Nat) (l : List UInt8) (k : Nat) (w : World) (h : Byt w w.heap.size A n cap l) (hm : n ≤ 40000) (hk : k ≤ n) :
    Calls Tryd.prog 73 #[.slice A n cap, .int .i64 k, .int .i64 1] w fun e w' => e = .returned (partV (partOut [101, 110, 99, 111, 100, 105, 110, 103] encB l k)) ∧ Below w.heap.size w w' := by
  have hln := h.length
  have B0 := Lib.hid ((Below.refl w.heap.size w).alloc (Nat.le_refl _) (.cells #[.string ⟨#[118, 101, 114, 115, 105, 111, 110]⟩, .string ⟨#[101, 110, 99, 111, 100, 105, 110, 103]⟩, .string ⟨#[115, 116, 97, 110, 100, 97, 108, 111, 110, 101]⟩] 9))
  have CB : Hid (∀ t, t ≤ n → ∀ W, Below w.heap.size w W → Calls Tryd.prog 74 #[.slice A n cap, .int .i64 (t : Int)] W fun e w' => e = .returned (.int .i64 (blankTo l t)) ∧ W = w') := Lib.hid fun t ht W hb => refBlanks_c A n cap l t _ W (h.below hb) (by omega) ht
  have CA : Hid (∀ (t : Nat) (p : List UInt8), t ≤ n → p ≠ [] → p.length ≤ 100 → ∀ W, Below w.heap.size w W → Calls Tryd.prog 75 #[.slice A n cap, .int .i64 (t : Int), .string ⟨p.toArray⟩] W fun e w' => e = .returned (.bool (p.isPrefixOf (l.drop t))) ∧ W = w') := Lib.hid fun t p ht hp hpl W hb => refAt8_c A n cap l t p _ W (h.below hb) hp (by omega) (by omega) (by omega)
  have hb1 := blankTo_le l k (by omega)
  have c1 := CB.out k hk
  have c2 := CA.out (blankTo l k) [101, 110, 99, 111, 100, 105, 110, 103] (by omega) (by simp) (by simp)
  have hk0 : (0 : Int) ≤ (k : Int) := by omega
  have hk1 : (k : Int) ≤ 40000 := by omega
  by_cases hbk : blankTo l k = k
  · rw [part_none1 hbk]
    rw [hbk] at c1
    have C1 := Lib.hid c1
    clear h hln CB CA hb1 c1 c2 hbk
    go_enter Tryd.func73, Tryd.ntmps73
    go_wp2_with fail
    refine (C1.out _ B0.out).mono ?_
    rintro e wq ⟨rfl, rfl⟩
    go_wp2
    go_ret2
    exact ⟨rfl, B0.out⟩
  · have hbf : ((blankTo l k : Int) == (k : Int)) = false := by simp; omega
    cases hp : [101, 110, 99, 111, 100, 105, 110, 103].isPrefixOf (l.drop (blankTo l k)) with
    | false =>
      rw [part_none2 hp]
      rw [hp] at c2
      have C1 := Lib.hid c1
      have C2 := Lib.hid c2
      clear h hln CB CA hb1 c1 c2 hbk hp
      generalize blankTo l k = b at *
      go_enter Tryd.func73, Tryd.ntmps73
      go_wp2_with fail
      refine (C1.out _ B0.out).mono ?_
      rintro e wq ⟨rfl, rfl⟩
      go_wp2_with fail
      refine (C2.out _ B0.out).mono ?_
      rintro e wq ⟨rfl, rfl⟩
      go_wp2
      go_ret2
      exact ⟨rfl, B0.out⟩
    | true =>
      rw [hp] at c2
      have hbl : blankTo l k + 8 ≤ n := by have := pre_len hp; simp at this; omega
      have c3 := CB.out (blankTo l k + 8) hbl
      have hb2 := blankTo_le l (blankTo l k + 8) (by omega)
      rw [part_some hbk hp rfl]
      simp only [List.length_cons, List.length_nil]
      rw [show ((blankTo l k + 8 : Nat) : Int) = (blankTo l k : Int) + 8 by omega] at c3
      have hbb : (blankTo l k : Int) ≤ 40000 := by omega
      have hbb0 : (0 : Int) ≤ (blankTo l k : Int) := by omega
      generalize hi : blankTo l (blankTo l k + 8) = i at *
      have c4 := CA.out i [61] (by omega) (by simp) (by simp)
      rw [pre1] at c4
      have hi0 : (0 : Int) ≤ (i : Int) := by omega
      have hi1 : (i : Int) ≤ 40000 := by omega
      have C1 := Lib.hid c1
      have C2 := Lib.hid c2
      have C3 := Lib.hid c3
      clear c1 c2 c3 hp
      by_cases he : l[i]? = some 61
      · rw [if_pos he]
        have hd : decide (l[i]? = some 61) = true := by simpa using he
        rw [hd] at c4
        have C4 := Lib.hid c4
        have hil : i + 1 ≤ n := by
          have := (List.getElem?_eq_some_iff.1 he).1
          omega
        have c5 := CB.out (i + 1) hil
        rw [show ((i + 1 : Nat) : Int) = (i : Int) + 1 by omega] at c5
        have C5 := Lib.hid c5
        have C6 : Hid (∀ W, Below w.heap.size w W → Calls Tryd.prog 98 #[.slice A n cap, .int .i64 (blankTo l (i + 1) : Int)] W fun e w' => e = .returned (outV (quotedAt l (blankTo l (i + 1)))) ∧ Hid (Below w.heap.size w w')) := Lib.hid fun W hb => (refQuoted_c A n cap l (blankTo l (i + 1) : Int) W _ (h.below hb) (by omega)).mono fun e w' ⟨he, m, hm⟩ => ⟨he, Lib.hid (hm ▸ below_drewN' hb)⟩
        have hql := quotedAt_len l (blankTo l (i + 1) : Int)
        have C7 : Hid (∀ s : List UInt8, s.length ≤ n → ∀ W, Calls Tryd.prog 99 #[.int .i64 1, .string ⟨s.toArray⟩] W fun e w' => e = .returned (.bool (encB s)) ∧ Below W.heap.size W w') := Lib.hid fun s hsn W => by
          have hsl : s.length ≤ 100000 := by omega
          exact refMay1_c s W hsl
        clear h CB CA c4 c5 hd hb1 hb2 hil hi he hbk hbl
        generalize quotedAt l (blankTo l (i + 1) : Int) = q at *
        generalize blankTo l (i + 1) = p at *
        generalize blankTo l k = b at *
        obtain ⟨s, t, f⟩ := q
        simp only at hql ⊢
        unfold outV at C6
        simp only at C6
        have C8 := Lib.hid (C7.out s (by omega))
        clear C7 hql hln
        by_cases hf : f = 0
        · subst hf
          cases hmy : encB s with
          | true =>
            rw [hmy] at C8
            clear hmy
            rw [if_pos ⟨rfl, rfl⟩]
            unfold partV
            go_enter Tryd.func73, Tryd.ntmps73
            go_wp2_with fail
            refine (C1.out _ B0.out).mono ?_
            rintro e wq ⟨rfl, rfl⟩
            go_wp2_with fail
            refine (C2.out _ B0.out).mono ?_
            rintro e wq ⟨rfl, rfl⟩
            go_wp2_with fail
            refine (C3.out _ B0.out).mono ?_
            rintro e wq ⟨rfl, rfl⟩
            go_wp2_with fail
            refine (C4.out _ B0.out).mono ?_
            rintro e wq ⟨rfl, rfl⟩
            go_wp2_with fail
            refine (C5.out _ B0.out).mono ?_
            rintro e wq ⟨rfl, rfl⟩
            go_wp2_with fail
            refine (C6.out _ B0.out).mono ?_
            rintro e w6 ⟨rfl, B6⟩
            go_wp2_with fail
            refine (C8.out _).mono ?_
            rintro e w7 ⟨rfl, hb⟩
            have B7 := Lib.hid (B6.out.trans (hb.mono B6.out.size))
            clear hb
            go_wp2
            go_ret2
            exact ⟨rfl, B7.out⟩
          | false =>
            rw [hmy] at C8
            clear hmy
            rw [if_neg (by simp)]
            unfold partV
            go_enter Tryd.func73, Tryd.ntmps73
            go_wp2_with fail
            refine (C1.out _ B0.out).mono ?_
            rintro e wq ⟨rfl, rfl⟩
            go_wp2_with fail
            refine (C2.out _ B0.out).mono ?_
            rintro e wq ⟨rfl, rfl⟩
            go_wp2_with fail
            refine (C3.out _ B0.out).mono ?_
            rintro e wq ⟨rfl, rfl⟩
            go_wp2_with fail
            refine (C4.out _ B0.out).mono ?_
            rintro e wq ⟨rfl, rfl⟩
            go_wp2_with fail
            refine (C5.out _ B0.out).mono ?_
            rintro e wq ⟨rfl, rfl⟩
            go_wp2_with fail
            refine (C6.out _ B0.out).mono ?_
            rintro e w6 ⟨rfl, B6⟩
            go_wp2_with fail
            refine (C8.out _).mono ?_
            rintro e w7 ⟨rfl, hb⟩
            have B7 := Lib.hid (B6.out.trans (hb.mono B6.out.size))
            clear hb
            go_wp2
            go_ret2
            exact ⟨rfl, B7.out⟩
        · rw [if_neg (fun h => hf h.1)]
          have hfz : ((f : Int) != 0) = true := by simp; omega
          clear hf C8
          unfold partV
          go_enter Tryd.func73, Tryd.ntmps73
          go_wp2_with fail
          refine (C1.out _ B0.out).mono ?_
          rintro e wq ⟨rfl, rfl⟩
          go_wp2_with fail
          refine (C2.out _ B0.out).mono ?_
          rintro e wq ⟨rfl, rfl⟩
          go_wp2_with fail
          refine (C3.out _ B0.out).mono ?_
          rintro e wq ⟨rfl, rfl⟩
          go_wp2_with fail
          refine (C4.out _ B0.out).mono ?_
          rintro e wq ⟨rfl, rfl⟩
          go_wp2_with fail
          refine (C5.out _ B0.out).mono ?_
          rintro e wq ⟨rfl, rfl⟩
          go_wp2_with fail
          refine (C6.out _ B0.out).mono ?_
          rintro e w6 ⟨rfl, B6⟩
          go_wp2
          go_ret2
          exact ⟨rfl, B6.out⟩
      · rw [if_neg he]
        have hd : decide (l[i]? = some 61) = false := by simpa using he
        rw [hd] at c4
        have C4 := Lib.hid c4
        clear h CB CA c4 hd hb1 hb2 hi he hbk hbl hln
        generalize blankTo l k = b at *
        unfold partV
        go_enter Tryd.func73, Tryd.ntmps73
        go_wp2_with fail
        refine (C1.out _ B0.out).mono ?_
        rintro e wq ⟨rfl, rfl⟩
        go_wp2_with fail
        refine (C2.out _ B0.out).mono ?_
        rintro e wq ⟨rfl, rfl⟩
        go_wp2_with fail
        refine (C3.out _ B0.out).mono ?_
        rintro e wq ⟨rfl, rfl⟩
        go_wp2_with fail
        refine (C4.out _ B0.out).mono ?_
        rintro e wq ⟨rfl, rfl⟩
        go_wp2
        go_ret2
        exact ⟨rfl, B0.out⟩
set_option maxRecDepth 100000 in
set_option maxHeartbeats 4000000 in
theorem refPart2_c (A : Option Addr) (n cap : Nat) (l : List UInt8) (k : Nat) (w : World) (h : Byt w w.heap.size A n cap l) (hm : n ≤ 40000) (hk : k ≤ n) :
    Calls Tryd.prog 73 #[.slice A n cap, .int .i64 k, .int .i64 2] w fun e w' => e = .returned (partV (partOut [115, 116, 97, 110, 100, 97, 108, 111, 110, 101] aloneB l k)) ∧ Below w.heap.size w w' := by
  have hln := h.length
  have B0 := Lib.hid ((Below.refl w.heap.size w).alloc (Nat.le_refl _) (.cells #[.string ⟨#[118, 101, 114, 115, 105, 111, 110]⟩, .string ⟨#[101, 110, 99, 111, 100, 105, 110, 103]⟩, .string ⟨#[115, 116, 97, 110, 100, 97, 108, 111, 110, 101]⟩] 9))
  have CB : Hid (∀ t, t ≤ n → ∀ W, Below w.heap.size w W → Calls Tryd.prog 74 #[.slice A n cap, .int .i64 (t : Int)] W fun e w' => e = .returned (.int .i64 (blankTo l t)) ∧ W = w') := Lib.hid fun t ht W hb => refBlanks_c A n cap l t _ W (h.below hb) (by omega) ht
  have CA : Hid (∀ (t : Nat) (p : List UInt8), t ≤ n → p ≠ [] → p.length ≤ 100 → ∀ W, Below w.heap.size w W → Calls Tryd.prog 75 #[.slice A n cap, .int .i64 (t : Int), .string ⟨p.toArray⟩] W fun e w' => e = .returned (.bool (p.isPrefixOf (l.drop t))) ∧ W = w') := Lib.hid fun t p ht hp hpl W hb => refAt8_c A n cap l t p _ W (h.below hb) hp (by omega) (by omega) (by omega)
  have hb1 := blankTo_le l k (by omega)
  have c1 := CB.out k hk
  have c2 := CA.out (blankTo l k) [115, 116, 97, 110, 100, 97, 108, 111, 110, 101] (by omega) (by simp) (by simp)
  have hk0 : (0 : Int) ≤ (k : Int) := by omega
  have hk1 : (k : Int) ≤ 40000 := by omega
  by_cases hbk : blankTo l k = k
  · rw [part_none1 hbk]
    rw [hbk] at c1
    have C1 := Lib.hid c1
    clear h hln CB CA hb1 c1 c2 hbk
    go_enter Tryd.func73, Tryd.ntmps73
    go_wp2_with fail
    refine (C1.out _ B0.out).mono ?_
    rintro e wq ⟨rfl, rfl⟩
    go_wp2
    go_ret2
    exact ⟨rfl, B0.out⟩
  · have hbf : ((blankTo l k : Int) == (k : Int)) = false := by simp; omega
    cases hp : [115, 116, 97, 110, 100, 97, 108, 111, 110, 101].isPrefixOf (l.drop (blankTo l k)) with
    | false =>
      rw [part_none2 hp]
      rw [hp] at c2
      have C1 := Lib.hid c1
      have C2 := Lib.hid c2
      clear h hln CB CA hb1 c1 c2 hbk hp
      generalize blankTo l k = b at *
      go_enter Tryd.func73, Tryd.ntmps73
      go_wp2_with fail
      refine (C1.out _ B0.out).mono ?_
      rintro e wq ⟨rfl, rfl⟩
      go_wp2_with fail
      refine (C2.out _ B0.out).mono ?_
      rintro e wq ⟨rfl, rfl⟩
      go_wp2
      go_ret2
      exact ⟨rfl, B0.out⟩
    | true =>
      rw [hp] at c2
      have hbl : blankTo l k + 10 ≤ n := by have := pre_len hp; simp at this; omega
      have c3 := CB.out (blankTo l k + 10) hbl
      have hb2 := blankTo_le l (blankTo l k + 10) (by omega)
      rw [part_some hbk hp rfl]
      simp only [List.length_cons, List.length_nil]
      rw [show ((blankTo l k + 10 : Nat) : Int) = (blankTo l k : Int) + 10 by omega] at c3
      have hbb : (blankTo l k : Int) ≤ 40000 := by omega
      have hbb0 : (0 : Int) ≤ (blankTo l k : Int) := by omega
      generalize hi : blankTo l (blankTo l k + 10) = i at *
      have c4 := CA.out i [61] (by omega) (by simp) (by simp)
      rw [pre1] at c4
      have hi0 : (0 : Int) ≤ (i : Int) := by omega
      have hi1 : (i : Int) ≤ 40000 := by omega
      have C1 := Lib.hid c1
      have C2 := Lib.hid c2
      have C3 := Lib.hid c3
      clear c1 c2 c3 hp
      by_cases he : l[i]? = some 61
      · rw [if_pos he]
        have hd : decide (l[i]? = some 61) = true := by simpa using he
        rw [hd] at c4
        have C4 := Lib.hid c4
        have hil : i + 1 ≤ n := by
          have := (List.getElem?_eq_some_iff.1 he).1
          omega
        have c5 := CB.out (i + 1) hil
        rw [show ((i + 1 : Nat) : Int) = (i : Int) + 1 by omega] at c5
        have C5 := Lib.hid c5
        have C6 : Hid (∀ W, Below w.heap.size w W → Calls Tryd.prog 98 #[.slice A n cap, .int .i64 (blankTo l (i + 1) : Int)] W fun e w' => e = .returned (outV (quotedAt l (blankTo l (i + 1)))) ∧ Hid (Below w.heap.size w w')) := Lib.hid fun W hb => (refQuoted_c A n cap l (blankTo l (i + 1) : Int) W _ (h.below hb) (by omega)).mono fun e w' ⟨he, m, hm⟩ => ⟨he, Lib.hid (hm ▸ below_drewN' hb)⟩
        have hql := quotedAt_len l (blankTo l (i + 1) : Int)
        have C7 : Hid (∀ s : List UInt8, s.length ≤ n → ∀ W, Calls Tryd.prog 99 #[.int .i64 2, .string ⟨s.toArray⟩] W fun e w' => e = .returned (.bool (aloneB s)) ∧ Below W.heap.size W w') := Lib.hid fun s hsn W => by
          have hsl : s.length ≤ 100000 := by omega
          exact (refMay2_c s W).mono fun e w' ⟨he, hw⟩ => ⟨he, hw ▸ Below.refl _ _⟩
        clear h CB CA c4 c5 hd hb1 hb2 hil hi he hbk hbl
        generalize quotedAt l (blankTo l (i + 1) : Int) = q at *
        generalize blankTo l (i + 1) = p at *
        generalize blankTo l k = b at *
        obtain ⟨s, t, f⟩ := q
        simp only at hql ⊢
        unfold outV at C6
        simp only at C6
        have C8 := Lib.hid (C7.out s (by omega))
        clear C7 hql hln
        by_cases hf : f = 0
        · subst hf
          cases hmy : aloneB s with
          | true =>
            rw [hmy] at C8
            clear hmy
            rw [if_pos ⟨rfl, rfl⟩]
            unfold partV
            go_enter Tryd.func73, Tryd.ntmps73
            go_wp2_with fail
            refine (C1.out _ B0.out).mono ?_
            rintro e wq ⟨rfl, rfl⟩
            go_wp2_with fail
            refine (C2.out _ B0.out).mono ?_
            rintro e wq ⟨rfl, rfl⟩
            go_wp2_with fail
            refine (C3.out _ B0.out).mono ?_
            rintro e wq ⟨rfl, rfl⟩
            go_wp2_with fail
            refine (C4.out _ B0.out).mono ?_
            rintro e wq ⟨rfl, rfl⟩
            go_wp2_with fail
            refine (C5.out _ B0.out).mono ?_
            rintro e wq ⟨rfl, rfl⟩
            go_wp2_with fail
            refine (C6.out _ B0.out).mono ?_
            rintro e w6 ⟨rfl, B6⟩
            go_wp2_with fail
            refine (C8.out _).mono ?_
            rintro e w7 ⟨rfl, hb⟩
            have B7 := Lib.hid (B6.out.trans (hb.mono B6.out.size))
            clear hb
            go_wp2
            go_ret2
            exact ⟨rfl, B7.out⟩
          | false =>
            rw [hmy] at C8
            clear hmy
            rw [if_neg (by simp)]
            unfold partV
            go_enter Tryd.func73, Tryd.ntmps73
            go_wp2_with fail
            refine (C1.out _ B0.out).mono ?_
            rintro e wq ⟨rfl, rfl⟩
            go_wp2_with fail
            refine (C2.out _ B0.out).mono ?_
            rintro e wq ⟨rfl, rfl⟩
            go_wp2_with fail
            refine (C3.out _ B0.out).mono ?_
            rintro e wq ⟨rfl, rfl⟩
            go_wp2_with fail
            refine (C4.out _ B0.out).mono ?_
            rintro e wq ⟨rfl, rfl⟩
            go_wp2_with fail
            refine (C5.out _ B0.out).mono ?_
            rintro e wq ⟨rfl, rfl⟩
            go_wp2_with fail
            refine (C6.out _ B0.out).mono ?_
            rintro e w6 ⟨rfl, B6⟩
            go_wp2_with fail
            refine (C8.out _).mono ?_
            rintro e w7 ⟨rfl, hb⟩
            have B7 := Lib.hid (B6.out.trans (hb.mono B6.out.size))
            clear hb
            go_wp2
            go_ret2
            exact ⟨rfl, B7.out⟩
        · rw [if_neg (fun h => hf h.1)]
          have hfz : ((f : Int) != 0) = true := by simp; omega
          clear hf C8
          unfold partV
          go_enter Tryd.func73, Tryd.ntmps73
          go_wp2_with fail
          refine (C1.out _ B0.out).mono ?_
          rintro e wq ⟨rfl, rfl⟩
          go_wp2_with fail
          refine (C2.out _ B0.out).mono ?_
          rintro e wq ⟨rfl, rfl⟩
          go_wp2_with fail
          refine (C3.out _ B0.out).mono ?_
          rintro e wq ⟨rfl, rfl⟩
          go_wp2_with fail
          refine (C4.out _ B0.out).mono ?_
          rintro e wq ⟨rfl, rfl⟩
          go_wp2_with fail
          refine (C5.out _ B0.out).mono ?_
          rintro e wq ⟨rfl, rfl⟩
          go_wp2_with fail
          refine (C6.out _ B0.out).mono ?_
          rintro e w6 ⟨rfl, B6⟩
          go_wp2
          go_ret2
          exact ⟨rfl, B6.out⟩
      · rw [if_neg he]
        have hd : decide (l[i]? = some 61) = false := by simpa using he
        rw [hd] at c4
        have C4 := Lib.hid c4
        clear h CB CA c4 hd hb1 hb2 hi he hbk hbl hln
        generalize blankTo l k = b at *
        unfold partV
        go_enter Tryd.func73, Tryd.ntmps73
        go_wp2_with fail
        refine (C1.out _ B0.out).mono ?_
        rintro e wq ⟨rfl, rfl⟩
        go_wp2_with fail
        refine (C2.out _ B0.out).mono ?_
        rintro e wq ⟨rfl, rfl⟩
        go_wp2_with fail
        refine (C3.out _ B0.out).mono ?_
        rintro e wq ⟨rfl, rfl⟩
        go_wp2_with fail
        refine (C4.out _ B0.out).mono ?_
        rintro e wq ⟨rfl, rfl⟩
        go_wp2
        go_ret2
        exact ⟨rfl, B0.out⟩
/-- What is said: whether, the version, the encoding, the standalone. -/
structure DeclL where
  has : Bool
  ver : List UInt8
  enc : List UInt8
  alone : List UInt8
def DeclL.cells (d : DeclL) : Array Value := #[.bool d.has, .string ⟨d.ver.toArray⟩, .string ⟨d.enc.toArray⟩, .string ⟨d.alone.toArray⟩]
def noDecl : DeclL := ⟨false, [], [], []⟩
def verW : List UInt8 := [118, 101, 114, 115, 105, 111, 110]
def encW : List UInt8 := [101, 110, 99, 111, 100, 105, 110, 103]
def aloneW : List UInt8 := [115, 116, 97, 110, 100, 97, 108, 111, 110, 101]
/-- The end of a declaration. -/
def tailOut (l : List UInt8) (d : DeclL) (i : Nat) : DeclL × Nat × Nat := if [63, 62].isPrefixOf (l.drop (blankTo l i)) = true then (d, blankTo l i + 2, 0) else (noDecl, 0, 7)
def readAlone (l : List UInt8) (v e : List UInt8) (i : Nat) : DeclL × Nat × Nat := match partOut aloneW aloneB l i with
  | none => (noDecl, 0, 7)
  | some (a, j) => tailOut l ⟨true, v, e, a⟩ j
def readEnc (text : Bool) (l : List UInt8) (v : List UInt8) (i : Nat) : DeclL × Nat × Nat := match partOut encW encB l i with
  | none => (noDecl, 0, 7)
  | some (e, j) => if text = true then (if j = i then (noDecl, 0, 7) else tailOut l ⟨true, v, e, []⟩ j) else readAlone l v e j
def readDecl (text : Bool) (l : List UInt8) (k : Nat) : DeclL × Nat × Nat := match partOut verW verB l (k + 5) with
  | none => (noDecl, 0, 7)
  | some (v, j) => if j = k + 5 ∧ text = false then (noDecl, 0, 7) else readEnc text l v j
def declOut (text : Bool) (l : List UInt8) (k : Nat) : DeclL × Nat × Nat := if hasX l k = true then readDecl text l k else (noDecl, k, 0)
def declAt (text : Bool) (l : List UInt8) (at_ : Int) : DeclL × Nat × Nat := if at_ < 0 ∨ (l.length : Int) < at_ then (noDecl, 0, 3) else declOut text l at_.toNat
theorem quotedAt_next (l : List UInt8) (p : Nat) (h : (quotedAt l (p : Int)).2.2 = 0) : p < (quotedAt l (p : Int)).2.1 ∧ (quotedAt l (p : Int)).2.1 ≤ l.length := by
  unfold quotedAt at h ⊢
  split
  · rename_i h'
    rw [if_pos h'] at h
    cases h
  · rename_i h'
    rw [if_neg h'] at h
    rw [Int.toNat_natCast] at h ⊢
    unfold quotedOut at h ⊢
    cases hq : l[p]? with
    | none => rw [hq] at h; cases h
    | some q =>
      rw [hq] at h
      simp only at h ⊢
      have hpl : p < l.length := (List.getElem?_eq_some_iff.1 hq).1
      split
      · rename_i h2
        rw [if_pos h2] at h
        unfold quotedQ at h ⊢
        split
        · rename_i h3
          rw [if_pos h3] at h
          cases h
        · rename_i h3
          have := ix_lo q (l.drop (p + 1))
          rw [List.length_drop] at this
          simp only
          omega
      · rename_i h2
        rw [if_neg h2] at h
        cases h
/-- A part that is there ends behind its beginning, within the text. -/
theorem part_le {word : List UInt8} {may : List UInt8 → Bool} {l : List UInt8} {k : Nat} {s : List UInt8} {j : Nat} (hk : k ≤ l.length) (h : partOut word may l k = some (s, j)) : (j = k ∧ s = []) ∨ (k < j ∧ j ≤ l.length) := by
  by_cases h1 : blankTo l k = k
  · rw [part_none1 h1] at h
    cases h
    exact .inl ⟨rfl, rfl⟩
  · cases h2 : word.isPrefixOf (l.drop (blankTo l k)) with
    | false =>
      rw [part_none2 h2] at h
      cases h
      exact .inl ⟨rfl, rfl⟩
    | true =>
      rw [part_some h1 h2 rfl] at h
      split at h
      · split at h
        · rename_i h3 h4
          have hb := blankTo_le l k hk
          have hw := pre_len h2
          have hbw : blankTo l k + word.length ≤ l.length := by
            rcases hw with e | e
            · subst e; simp; exact hb.2
            · exact e
          have hb2 := blankTo_le l (blankTo l k + word.length) hbw
          have hil := (List.getElem?_eq_some_iff.1 h3).1
          have hb3 := blankTo_le l (blankTo l (blankTo l k + word.length) + 1) (by omega)
          have hq := quotedAt_next l _ h4.1
          simp only [Option.some.injEq, Prod.mk.injEq] at h
          obtain ⟨_, rfl⟩ := h
          right
          omega
        · cases h
      · cases h
theorem results_cell3 {P : Program} {fn : Func} {p u v : Tmp} {ty : TypeId} (h : fn.results = #[.cell p ty, .tmp u, .tmp v]) (tmps : Array Value) (w : World) (g : Nat) (t : TypeId) (cs : Array Value) (fr : Nat × Nat) (d : TypeDesc)
    (hp : tmps.getD p undef = .pointer (some ⟨g, 0, none⟩)) (hg : w.heap[g]? = some (.cells cs t fr))
    (hu : P.underlying ty = some d) (hd : (match d with | .struct _ | .array _ _ => true | _ => false) = true) (hi : (P.info? ty).map (·.size) = some cs.size) :
    (results fn tmps).run P w = .ok (.tuple #[.agg cs, tmps.getD u undef, tmps.getD v undef]) w := by
  have hp' : tmps[p]?.getD undef = .pointer (some ⟨g, 0, none⟩) := by simpa using hp
  simp [results, h, hp', asAddr, run_loadVar_row w g t ty cs fr d hg hu hd hi]
def declV (o : DeclL × Nat × Nat) : Value := .tuple #[.agg o.1.cells, .int .i64 (o.2.1 : Int), .int .i64 (o.2.2 : Int)]
theorem cells_size (d : DeclL) : d.cells.size = 4 := rfl
/-- While a declaration is read: the result's block, and the declaration's own. -/
def DJ (w W : World) (rs vs : Array Value) : Prop :=
  Below w.heap.size w W ∧ w.heap.size + 2 ≤ W.heap.size ∧ W.heap[w.heap.size]? = some (.cells rs 67) ∧ W.heap[w.heap.size + 1]? = some (.cells vs 67)
theorem DJ.kept {w W W' : World} {rs vs : Array Value} (h : DJ w W rs vs) (hb : Below W.heap.size W W') : DJ w W' rs vs :=
  ⟨h.1.trans (hb.mono h.1.size), by have := hb.size; have := h.2.1; omega, by rw [hb.block _ (by have := h.2.1; omega)]; exact h.2.2.1, by rw [hb.block _ (by have := h.2.1; omega)]; exact h.2.2.2⟩
theorem DJ.set {w W : World} {rs vs : Array Value} (h : DJ w W rs vs) (i : Nat) (v : Value) : DJ w (W.setCell ⟨w.heap.size + 1, i, none⟩ v) rs (vs.setIfInBounds i v) :=
  ⟨h.1.setCell (p := ⟨w.heap.size + 1, i, none⟩) (Nat.le_succ _) v, by simpa using h.2.1, by rw [hp_other (by omega)]; exact h.2.2.1, hp_set h.2.2.2⟩
set_option maxRecDepth 100000 in
set_option maxHeartbeats 4000000 in
theorem refReadDecl_range (text : Bool) (A : Option Addr) (n cap : Nat) (at_ : Int) (w : World) (ha : at_ < 0 ∨ (n : Int) < at_) :
    Calls Tryd.prog 45 #[.slice A n cap, .int .i64 at_, .bool text] w fun e w' => e = .returned (declV (noDecl, 0, 3)) ∧ Below w.heap.size w w' := by
  have hF := Lib.hid (hp_new w (.cells #[.bool false, .string ⟨#[]⟩, .string ⟨#[]⟩, .string ⟨#[]⟩] 67))
  have hb := Lib.hid (Below.alloc (Below.refl w.heap.size w) (Nat.le_refl _) (.cells #[.bool false, .string ⟨#[]⟩, .string ⟨#[]⟩, .string ⟨#[]⟩] 67))
  have hi : (Tryd.prog.info? 67).map (·.size) = some 4 := by kernel_rfl
  obtain ⟨d, hu⟩ := isStruct_of (P := Tryd.prog) (t := 67) (by kernel_rfl)
  have HU := Lib.hid (And.intro hi hu)
  clear hi hu
  by_cases h0 : at_ < 0
  · have hd : decide (at_ < 0) = true := by simpa using h0
    clear ha
    go_enter Tryd.func45, Tryd.ntmps45
    go_wp2
    (try simp only [Exit.inBlock, Exit.then])
    exact bodyPost_ret (results_cell3 rfl _ _ w.heap.size _ _ _ _ rfl hF.out HU.out.2 rfl HU.out.1) rfl ⟨rfl, hb.out⟩
  · have h1 : (n : Int) < at_ := by omega
    clear ha
    go_enter Tryd.func45, Tryd.ntmps45
    go_wp2
    (try simp only [Exit.inBlock, Exit.then])
    exact bodyPost_ret (results_cell3 rfl _ _ w.heap.size _ _ _ _ rfl hF.out HU.out.2 rfl HU.out.1) rfl ⟨rfl, hb.out⟩
set_option maxRecDepth 100000 in
set_option maxHeartbeats 4000000 in
theorem refReadDecl_no (text : Bool) (A : Option Addr) (n cap : Nat) (l : List UInt8) (k : Nat) (w : World) (h : Byt w w.heap.size A n cap l) (hm : n ≤ 40000) (hk : k ≤ n) (hx : hasX l k = false) :
    Calls Tryd.prog 45 #[.slice A n cap, .int .i64 k, .bool text] w fun e w' => e = .returned (declV (noDecl, k, 0)) ∧ Below w.heap.size w w' := by
  have hF := Lib.hid (hp_new w (.cells #[.bool false, .string ⟨#[]⟩, .string ⟨#[]⟩, .string ⟨#[]⟩] 67))
  have hb := Lib.hid (Below.alloc (Below.refl w.heap.size w) (Nat.le_refl _) (.cells #[.bool false, .string ⟨#[]⟩, .string ⟨#[]⟩, .string ⟨#[]⟩] 67))
  have hi : (Tryd.prog.info? 67).map (·.size) = some 4 := by kernel_rfl
  obtain ⟨d, hu⟩ := isStruct_of (P := Tryd.prog) (t := 67) (by kernel_rfl)
  have HU := Lib.hid (And.intro hi hu)
  have C1 := Lib.hid (refHas_in A n cap l k _ _ (h.below hb.out) (by omega) hk)
  rw [hx] at C1
  have hk' : ¬ (n : Int) < (k : Int) := by omega
  have hk0 : (0 : Int) ≤ (k : Int) := by omega
  clear hi hu h hx
  go_enter Tryd.func45, Tryd.ntmps45
  go_wp2_with fail
  refine (C1.out).mono ?_
  rintro e wq ⟨rfl, rfl⟩
  go_wp2
  (try simp only [Exit.inBlock, Exit.then])
  exact bodyPost_ret (results_cell3 rfl _ _ w.heap.size _ _ _ _ rfl hF.out HU.out.2 rfl HU.out.1) rfl ⟨rfl, hb.out⟩
theorem DJ.row {w W : World} {rs vs : Array Value} (h : DJ w W rs vs) (cs : Array Value) : DJ w (W.setRow w.heap.size cs) cs vs := by
  have hlt : w.heap.size < W.heap.size := by have := h.2.1; omega
  refine ⟨⟨h.1.os, h.1.tape, h.1.output, ?_, fun k hk => ?_⟩, ?_, setRow_heap _ _ _ _ _ _ h.2.2.1, ?_⟩
  · have := h.1.size; simpa [World.setRow] using this
  · rw [setRow_other _ _ _ _ (by omega)]; exact h.1.block k hk
  · have := h.2.1; simpa [World.setRow] using this
  · rw [setRow_other _ _ _ _ (by omega)]; exact h.2.2.2
theorem DJ.store {w W : World} {rs vs : Array Value} (h : DJ w W rs vs) (hr : rs.size = 4) (cs : Array Value) (hc : cs.size = 4) (h1 : cs.all (·.oneCell') = true) : (storeVar 67 ⟨w.heap.size, 0, none⟩ (.agg cs)).run Tryd.prog W = .ok () (W.setRow w.heap.size cs) :=
  run_storeVar_row W w.heap.size 67 67 rs cs h.2.2.1 (by rw [hc]; kernel_rfl) (by rw [hr, hc]) h1
set_option maxRecDepth 100000 in
set_option maxHeartbeats 4000000 in
theorem refReadDecl_none (text : Bool) (A : Option Addr) (n cap : Nat) (l : List UInt8) (k : Nat) (w : World) (h : Byt w w.heap.size A n cap l) (hm : n ≤ 40000) (hk : k ≤ n) (hx : hasX l k = true) (ho : partOut verW verB l (k + 5) = none) :
    Calls Tryd.prog 45 #[.slice A n cap, .int .i64 k, .bool text] w fun e w' => e = .returned (declV (noDecl, 0, 7)) ∧ Below w.heap.size w w' := by
  have hb := Below.alloc (Below.refl w.heap.size w) (Nat.le_refl _) (.cells #[.bool false, .string ⟨#[]⟩, .string ⟨#[]⟩, .string ⟨#[]⟩] 67)
  have hkl : k + 5 ≤ n := by
    have := h.length
    unfold hasX at hx
    simp only [Bool.and_eq_true] at hx
    have := pre_len hx.1
    simp at this
    omega
  have hJ : DJ w ((w.alloc (.cells #[.bool false, .string ⟨#[]⟩, .string ⟨#[]⟩, .string ⟨#[]⟩] 67)).alloc (.cells #[.bool true, .string ⟨#[]⟩, .string ⟨#[]⟩, .string ⟨#[]⟩] 67)) #[.bool false, .string ⟨#[]⟩, .string ⟨#[]⟩, .string ⟨#[]⟩] #[.bool true, .string ⟨#[]⟩, .string ⟨#[]⟩, .string ⟨#[]⟩] :=
    ⟨hb.alloc hb.size _, by simp, hp_old (hp_new _ _), by have := hp_new (w.alloc (.cells #[.bool false, .string ⟨#[]⟩, .string ⟨#[]⟩, .string ⟨#[]⟩] 67)) (.cells #[.bool true, .string ⟨#[]⟩, .string ⟨#[]⟩, .string ⟨#[]⟩] 67); rwa [World.size_alloc] at this⟩
  have hi : (Tryd.prog.info? 67).map (·.size) = some 4 := by kernel_rfl
  obtain ⟨d, hu⟩ := isStruct_of (P := Tryd.prog) (t := 67) (by kernel_rfl)
  have HU := Lib.hid (And.intro hi hu)
  have C1 := Lib.hid (refHas_in A n cap l k _ _ (h.below hb) (by omega) hk)
  rw [hx] at C1
  have C2 := Lib.hid (refPart0_c A n cap l (k + 5) _ ((h.below hJ.1).more hJ.1.size) hm hkl)
  rw [show partOut [118, 101, 114, 115, 105, 111, 110] verB l (k + 5) = none from ho, show ((k + 5 : Nat) : Int) = (k : Int) + 5 by omega] at C2
  unfold partV at C2
  have HJ := Lib.hid hJ
  have hk' : ¬ (n : Int) < (k : Int) := by omega
  have hk0 : (0 : Int) ≤ (k : Int) := by omega
  have hk1 : (k : Int) ≤ 40000 := by omega
  clear hi hu h hx hb hJ ho
  go_enter Tryd.func45, Tryd.ntmps45
  go_wp2_with fail
  refine (C1.out).mono ?_
  rintro e wq ⟨rfl, rfl⟩
  go_wp2
  refine wp_loop_rounds 4 ?_
  rw [rounds_succ]
  go_wp2_with fail
  refine (C2.out).mono ?_
  rintro e w1 ⟨rfl, hb1⟩
  have J1 := Lib.hid (HJ.out.kept hb1)
  clear hb1
  have J2 := Lib.hid (J1.out.row #[.bool false, .string ⟨#[]⟩, .string ⟨#[]⟩, .string ⟨#[]⟩])
  go_wp2_with (refine wpList_store_row rfl _ _ _ rfl w.heap.size #[.bool false, .string ⟨#[]⟩, .string ⟨#[]⟩, .string ⟨#[]⟩] rfl rfl _ _ J1.out.2.2.1 (by kernel_rfl) rfl (by kernel_rfl) ?_)
  all_goals
    (try simp only [Exit.inBlock, Exit.then])
    exact bodyPost_ret (results_cell3 rfl _ _ w.heap.size _ _ _ _ rfl J2.out.2.2.1 HU.out.2 rfl HU.out.1) rfl ⟨rfl, J2.out.1⟩
end Go.Proofs.YtljmpghijlibaaaDoor
