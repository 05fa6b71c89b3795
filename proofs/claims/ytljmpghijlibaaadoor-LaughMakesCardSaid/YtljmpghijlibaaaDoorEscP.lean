/- Escaped texts: plain law. -/
import Derived.Test.YtljmpghijlibaaaDoorRows
import Derived.WalkKit
import Derived.ProofKit
import Derived.OpenShut
import Derived.ShutString
import Derived.ChangeOld
import Derived.Below
import Derived.BigQuiet
import Derived.Deep.QuietTactic
import Derived.Lib.Hide
import Derived.Deep.RegionHeld3
import Derived.Lib.SlBytesConst
import Derived.Laws.CopyOwn
import Derived.Laws.CopyRow
import Derived.Lib.Bytes
import Derived.Deep.LoopGhost
import Derived.Deep.DeepFit
import Derived.Deep.DeepMust
import Derived.WalkSpells
import Derived.WalkLawsBesides
import Derived.Laws.EntriesVeiled
import Derived.Laws.Rows
import Derived.Test.YtljmpghijlibaaaDoorBase
import Derived.Test.YtljmpghijlibaaaDoorShelf
import Derived.Test.YtljmpghijlibaaaDoorCharPlain
import Derived.Test.YtljmpghijlibaaaDoorUtf1
import Derived.Test.YtljmpghijlibaaaDoorUtf2
import Derived.Test.YtljmpghijlibaaaDoorUtf3
import Derived.Test.YtljmpghijlibaaaDoorChars1
import Derived.Test.YtljmpghijlibaaaDoorName1
import Derived.Test.YtljmpghijlibaaaDoorName2
import Derived.Test.YtljmpghijlibaaaDoorName3
import Derived.Test.YtljmpghijlibaaaDoorCref1
import Derived.Test.YtljmpghijlibaaaDoorY2
import Derived.Test.YtljmpghijlibaaaDoorRef1
import Derived.Test.YtljmpghijlibaaaDoorRef3
import Derived.Test.YtljmpghijlibaaaDoorKnown
import Derived.Test.YtljmpghijlibaaaDoorY3
namespace Go.Proofs.YtljmpghijlibaaaDoor
open Go.ChangeShapes Go.WideShapes Go.ChangeAt Go.RowKit
set_option linter.unusedVariables false
theorem esc_drop (l : List UInt8) (k : Nat) (hk : k < l.length) : (esc l).drop (esc (l.take k)).length = escB (l.getD k 0) ++ esc (l.drop (k + 1)) := by
  have e : l = l.take k ++ (l.getD k 0 :: l.drop (k + 1)) := by
    conv => lhs; rw [← List.take_append_drop k l, List.drop_eq_getElem_cons hk]
    simp [hk]
  have e2 : esc l = esc (l.take k) ++ (escB (l.getD k 0) ++ esc (l.drop (k + 1))) := by
    conv => lhs; rw [e]
    simp only [esc, List.flatMap_append, List.flatMap_cons]
  rw [e2, List.drop_left]
theorem getE_of_drop {X Y : List UInt8} {i : Nat} (h : X.drop i = Y) (j : Nat) : X[i + j]? = Y[j]? := by rw [← h, List.getElem?_drop]
theorem drop_of_drop {X Y : List UInt8} {i : Nat} (h : X.drop i = Y) (j : Nat) : X.drop (i + j) = Y.drop j := by rw [← h, List.drop_drop]
theorem len_of_drop {X Y : List UInt8} {i : Nat} (h : X.drop i = Y) (hy : 0 < Y.length) : X.length = i + Y.length := by
  have := congrArg List.length h
  rw [List.length_drop] at this
  omega
/-- What begins with an ASCII byte. -/
theorem dec_ascii (c : UInt8) (t : List UInt8) (h : c.toNat < 128) : dec (c :: t) = some (c.toNat, 1) := by
  have := dec_1 (c :: t) 0 c rfl h
  simpa using this
/-- A name of ASCII bytes, up to a byte that is none of it. -/
theorem endL_run (g : Int → Bool) (d : UInt8) (hd : d.toNat < 128) (hg : g d.toNat = false) (rest : List UInt8) : ∀ (ns : List UInt8) (k : Nat), ns.length < k → (∀ c ∈ ns, c.toNat < 128 ∧ g c.toNat = true) → endL g g k (ns ++ d :: rest) = ns.length
  | [], k, hk, _ => endL_no g g k (d :: rest) _ _ (dec_ascii d rest hd) hg
  | c :: t, 0, hk, _ => by simp at hk
  | c :: t, k + 1, hk, h => by
    have hc := h c List.mem_cons_self
    rw [List.cons_append, endL_yes g g k _ _ _ (dec_ascii c _ hc.1) hc.2, List.drop_one, List.tail_cons, endL_run g d hd hg rest t k (by simpa using hk) fun x hx => h x (List.mem_cons_of_mem _ hx)]
    simp; omega
theorem ref_name (n0 : UInt8) (nt rest X : List UInt8) (i : Nat) (h : X.drop i = 38 :: n0 :: (nt ++ 59 :: rest)) (h0 : n0.toNat < 128 ∧ noColon isStart n0.toNat = true) (ht : ∀ c ∈ nt, c.toNat < 128 ∧ noColon isMore c.toNat = true) (hl : nt.length ≤ 1000) :
    refOut 38 X i = (n0 :: nt, i + nt.length + 3, 0) := by
  have hlen := len_of_drop h (by simp)
  have e0 : X[i]? = some 38 := by have := getE_of_drop h 0; simpa using this
  have ed : X.drop (i + 1) = n0 :: (nt ++ 59 :: rest) := by have := drop_of_drop h 1; simpa using this
  have hend : endL (noColon isStart) (noColon isMore) X.length (X.drop (i + 1)) = nt.length + 1 := by
    obtain ⟨k, hk⟩ : ∃ k, X.length = k + 1 := ⟨X.length - 1, by simp at hlen; omega⟩
    rw [hk, ed, endL_yes _ _ _ _ _ _ (dec_ascii n0 _ h0.1) h0.2, List.drop_one, List.tail_cons, endL_run (noColon isMore) 59 (by decide) (by decide +kernel) rest nt k (by simp at hlen; omega) ht]
    omega
  have hp : plainOut X (i + 1) = (n0 :: nt, i + 1 + (nt.length + 1), 0) := by
    unfold plainOut
    simp only [hend]
    rw [if_neg (by omega), if_neg (by omega), ed]
    simp
  have e2 : X[i + 1 + (nt.length + 1)]? = some 59 := by
    rw [getE_of_drop ed]
    simp
  unfold refOut
  rw [e0]
  simp only [hp, e2]
  simp
  omega
theorem ref_no (X : List UInt8) (i : Nat) (c : UInt8) (h : X[i]? = some c) (hc : ¬ c = 38) : refOut 38 X i = ([], 0, 7) ∧ charOut X i = (0, 0, 7) := by
  constructor
  · unfold refOut; rw [h]; simp [hc]
  · unfold charOut; rw [h, if_neg (by simp [hc])]
theorem ref_hash (X : List UInt8) (i : Nat) (h0 : X[i]? = some 38) (h1 : X[i + 1]? = some 35) : refOut 38 X i = ([], 0, 7) := by
  have hl : i + 1 < X.length := by
    rcases Nat.lt_or_ge (i + 1) X.length with h | h
    · exact h
    · rw [List.getElem?_eq_none h] at h1; cases h1
  have hd : dec (X.drop (i + 1)) = some (35, 1) := dec_1 X (i + 1) 35 h1 (by decide)
  have hend : endL (noColon isStart) (noColon isMore) X.length (X.drop (i + 1)) = 0 := endL_no _ _ _ _ _ _ hd (by decide +kernel)
  have hp : plainOut X (i + 1) = ([], 0, 7) := by unfold plainOut; simp only [hend]; rfl
  unfold refOut
  rw [h0]
  simp [hp]
theorem char_name (X : List UInt8) (i : Nat) (c : UInt8) (h1 : X[i + 1]? = some c) (hc : ¬ c = 35) : charOut X i = (0, 0, 7) := by
  unfold charOut; rw [if_neg (by rw [h1]; simp [hc])]
theorem digs_run (b : Int) (rest : List UInt8) (d : UInt8) (hd : digit b d.toNat < 0) : ∀ ds : List UInt8, (∀ c ∈ ds, 0 ≤ digit b c.toNat) → digs b (ds ++ d :: rest) = ds
  | [], _ => by
    show digs b (d :: rest) = []
    unfold digs
    rw [if_neg (by omega)]
  | c :: t, h => by
    show digs b (c :: (t ++ d :: rest)) = c :: t
    unfold digs
    rw [if_pos (h c List.mem_cons_self), digs_run b rest d hd t fun x hx => h x (List.mem_cons_of_mem _ hx)]
theorem char_num (ds rest X : List UInt8) (i : Nat) (h : X.drop i = 38 :: 35 :: (ds ++ 59 :: rest)) (h0 : ds ≠ []) (hd : ∀ c ∈ ds, 0 ≤ digit 10 c.toNat) : charOut X i = if isDoc (numU 10 ds) = true then (numU 10 ds, i + ds.length + 3, 0) else (0, 0, 6) := by
  have e0 : X[i]? = some 38 := by have := getE_of_drop h 0; simpa using this
  have e1 : X[i + 1]? = some 35 := by have := getE_of_drop h 1; simpa using this
  have e2 : ¬ X[i + 2]? = some 120 := by
    rw [getE_of_drop h]
    cases ds with
    | nil => exact absurd rfl h0
    | cons c t =>
      intro e
      have e' : c = 120 := by simpa using e
      have := hd c List.mem_cons_self
      rw [e'] at this
      exact absurd this (by decide +kernel)
  have ed : X.drop (i + 2) = ds ++ 59 :: rest := by have := drop_of_drop h 2; simpa using this
  have hds : digs 10 (X.drop (i + 2)) = ds := by rw [ed, digs_run 10 rest 59 (by decide +kernel) ds hd]
  have e3 : X[i + 2 + ds.length]? = some 59 := by rw [getE_of_drop ed]; simp
  have hc := cap_doc 10 2097152 (by omega) (by omega) ds hd
  unfold charOut
  rw [if_pos ⟨e0, e1⟩, if_neg e2]
  unfold charBody
  simp only [hds, e3]
  rw [if_neg (by simp; exact h0), hc.1]
  by_cases hdoc : isDoc (numU 10 ds) = true
  · rw [if_pos hdoc, if_pos hdoc, hc.2 hdoc]
    congr 2
    omega
  · rw [if_neg hdoc, if_neg hdoc]
theorem digit_dec (d : Nat) (h : d < 10) : digit 10 (UInt8.ofNat (48 + d)).toNat = d := by
  have : (UInt8.ofNat (48 + d)).toNat = 48 + d := UInt8.toNat_ofNat_of_lt' (by show 48 + d < 256; omega)
  rw [this]
  unfold digit
  rw [if_pos (by omega)]
  omega
theorem dec_digits (n : Nat) : (∀ c ∈ Lib.decDigits n, 0 ≤ digit 10 c.toNat) ∧ numU 10 (Lib.decDigits n) = n ∧ Lib.decDigits n ≠ [] := by
  induction n using Nat.strongRecOn with
  | _ n ih =>
    by_cases h : n < 10
    · rw [Lib.decDigits, dif_pos h]
      refine ⟨fun c hc => ?_, ?_, by simp⟩
      · rw [List.mem_singleton.1 hc, digit_dec n h]; omega
      · have := digit_dec n h
        simp only [numU, List.foldl_cons, List.foldl_nil, this]
        omega
    · have := ih (n / 10) (by omega)
      rw [Lib.decDigits, dif_neg h]
      refine ⟨fun c hc => ?_, ?_, by simp⟩
      · rcases List.mem_append.1 hc with hc | hc
        · exact this.1 c hc
        · rw [List.mem_singleton.1 hc, digit_dec _ (by omega)]; omega
      · rw [numU_snoc, this.2.1, digit_dec _ (by omega)]
        omega
/-- What is read at the place of an escaped byte. -/
def escAt (X : List UInt8) (i : Nat) (c : UInt8) : Prop :=
  (X[i]? = some 38 ∧ escB c ≠ [c] ∧
    ((∃ ns, refOut 38 X i = (ns, i + (escB c).length, 0) ∧ (knownOf ⟨ns.toArray⟩ : Int) = c.toNat ∧ charOut X i = (0, 0, 7) ∧ X[i + 1]? ≠ some 35) ∨ (refOut 38 X i = ([], 0, 7) ∧ charOut X i = ((c.toNat : Int), i + (escB c).length, 0) ∧ X[i + 1]? = some 35))) ∨
  (X[i]? = some c ∧ c ≠ 38 ∧ c ≠ 60 ∧ c ≠ 34 ∧ c ≠ 13 ∧ c ≠ 10 ∧ c ≠ 9 ∧ c ≠ 62 ∧ escB c = [c] ∧ refOut 38 X i = ([], 0, 7) ∧ charOut X i = (0, 0, 7))
theorem escAt_name (X rest : List UInt8) (i : Nat) (c n0 : UInt8) (nt : List UInt8) (h : X.drop i = escB c ++ rest) (he : escB c = 38 :: n0 :: (nt ++ [59])) (hne : escB c ≠ [c]) (h0 : n0.toNat < 128 ∧ noColon isStart n0.toNat = true ∧ n0 ≠ 35)
    (ht : nt.all (fun c => decide (c.toNat < 128) && noColon isMore c.toNat) = true) (hl : nt.length ≤ 1000) (hk : (knownOf ⟨(n0 :: nt).toArray⟩ : Int) = c.toNat) : escAt X i c := by
  have h' : X.drop i = 38 :: n0 :: (nt ++ 59 :: rest) := by rw [h, he]; simp
  have e0 : X[i]? = some 38 := by have := getE_of_drop h' 0; simpa using this
  have e1 : X[i + 1]? = some n0 := by have := getE_of_drop h' 1; simpa using this
  refine Or.inl ⟨e0, hne, Or.inl ⟨n0 :: nt, ?_, hk, char_name X i n0 e1 h0.2.2, by rw [e1]; simpa using h0.2.2⟩⟩
  rw [ref_name n0 nt rest X i h' ⟨h0.1, h0.2.1⟩ (fun c hc => by have := List.all_eq_true.1 ht c hc; simpa using this) hl, he]
  simp
  omega
theorem escAt_num (X rest : List UInt8) (i : Nat) (c : UInt8) (ds : List UInt8) (h : X.drop i = escB c ++ rest) (he : escB c = 38 :: 35 :: (ds ++ [59])) (hne : escB c ≠ [c]) (h0 : ds ≠ [])
    (hd : ds.all (fun c => decide (0 ≤ digit 10 c.toNat)) = true) (hn : numU 10 ds = c.toNat) (hdoc : isDoc (c.toNat) = true) : escAt X i c := by
  have h' : X.drop i = 38 :: 35 :: (ds ++ 59 :: rest) := by rw [h, he]; simp
  have e0 : X[i]? = some 38 := by have := getE_of_drop h' 0; simpa using this
  have e1 : X[i + 1]? = some 35 := by have := getE_of_drop h' 1; simpa using this
  refine Or.inl ⟨e0, hne, Or.inr ⟨ref_hash X i e0 e1, ?_, e1⟩⟩
  rw [char_num ds rest X i h' h0 (fun c hc => by have := List.all_eq_true.1 hd c hc; simpa using this), hn, if_pos hdoc, he]
  simp
  omega
theorem escAt_of (X rest : List UInt8) (i : Nat) (c : UInt8) (h : X.drop i = escB c ++ rest) : escAt X i c := by
  by_cases h0 : c = 38
  · subst h0; exact escAt_name X rest i 38 97 [109, 112] h rfl (by decide) (by decide +kernel) (by decide +kernel) (by decide) (by decide +kernel)
  by_cases h1 : c = 60
  · subst h1; exact escAt_name X rest i 60 108 [116] h rfl (by decide) (by decide +kernel) (by decide +kernel) (by decide) (by decide +kernel)
  by_cases h2 : c = 62
  · subst h2; exact escAt_name X rest i 62 103 [116] h rfl (by decide) (by decide +kernel) (by decide +kernel) (by decide) (by decide +kernel)
  by_cases h3 : c = 34
  · subst h3; exact escAt_name X rest i 34 113 [117, 111, 116] h rfl (by decide) (by decide +kernel) (by decide +kernel) (by decide) (by decide +kernel)
  by_cases h4 : c = 13
  · subst h4; exact escAt_num X rest i 13 [49, 51] h rfl (by decide) (by decide) (by decide +kernel) (by decide +kernel) (by decide +kernel)
  by_cases h5 : c = 10
  · subst h5; exact escAt_num X rest i 10 [49, 48] h rfl (by decide) (by decide) (by decide +kernel) (by decide +kernel) (by decide +kernel)
  by_cases h6 : c = 9
  · subst h6; exact escAt_num X rest i 9 [57] h rfl (by decide) (by decide) (by decide +kernel) (by decide +kernel) (by decide +kernel)
  have he : escB c = [c] := by unfold escB; simp [h0, h1, h2, h3, h4, h5, h6]
  have e0 : X[i]? = some c := by have := getE_of_drop h 0; rw [he] at this; simpa using this
  have := ref_no X i c e0 h0
  exact Or.inr ⟨e0, h0, h1, h3, h4, h5, h6, h2, he, this.1, this.2⟩
end Go.Proofs.YtljmpghijlibaaaDoor
