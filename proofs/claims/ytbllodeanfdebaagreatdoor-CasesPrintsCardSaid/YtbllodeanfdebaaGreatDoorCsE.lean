/- Cases as lines, in plain Lean: what is printed is read as the same, what is read is printed as it was; numbers, cuts, bars. -/
import Derived.Test.YtbllodeanfdebaaGreatDoorRows
import Derived.WalkKit
import Derived.ProofKit
import Derived.OpenShut
import Derived.ShutString
import Derived.ChangeOld
import Derived.Below
import Derived.BigQuiet
import Derived.Deep.QuietTactic
import Derived.Lib.Hide
import Derived.Deep.RegionHeld3
import Derived.Lib.SlBytesConst
import Derived.Laws.CopyOwn
import Derived.Laws.CopyRow
import Derived.Lib.Bytes
import Derived.Deep.LoopGhost
import Derived.Deep.DeepFit
import Derived.Deep.DeepMust
import Derived.WalkSpells
import Derived.WalkLawsBesides
import Derived.Laws.EntriesVeiled
import Derived.Lib.Replace
import Derived.Lib.Split
import Derived.Lib.ItoaNum
import Derived.Lib.AtoiAllCases
import Derived.Test.YtbllodeanfdebaaGreatDoorBase
namespace Go.Proofs.YtbllodeanfdebaaGreatDoor
open Go.ChangeShapes Go.WideShapes Go.ChangeAt Go.RowKit
set_option linter.unusedVariables false
/-- A text's lines, each without its line feed, and what stands behind the last line feed. -/
def linesP : List UInt8 → List (List UInt8) × List UInt8
  | [] => ([], [])
  | c :: r => if c = 10 then ([] :: (linesP r).1, (linesP r).2) else match (linesP r).1 with
    | [] => ([], c :: (linesP r).2)
    | x :: xs => ((c :: x) :: xs, (linesP r).2)
/-- Lines, and what stands behind them, as a text. -/
def unl (ls : List (List UInt8)) (r : List UInt8) : List UInt8 := ls.flatMap (fun x => x ++ [10]) ++ r
theorem unl_cons (x : List UInt8) (ls : List (List UInt8)) (r : List UInt8) : unl (x :: ls) r = x ++ 10 :: unl ls r := by simp [unl]
theorem unl_lines : ∀ s : List UInt8, unl (linesP s).1 (linesP s).2 = s
  | [] => rfl
  | c :: r => by
    have ih := unl_lines r
    unfold linesP
    by_cases h : c = 10
    · subst h
      rw [if_pos rfl, unl_cons, ih]
      rfl
    · rw [if_neg h]
      cases hl : (linesP r).1 with
      | nil =>
        rw [hl] at ih
        simp only [unl, List.flatMap_nil, List.nil_append] at ih ⊢
        rw [ih]
      | cons x xs =>
        rw [hl, unl_cons] at ih
        show unl ((c :: x) :: xs) (linesP r).2 = c :: r
        rw [unl_cons, List.cons_append, ih]
theorem lines_no : ∀ s : List UInt8, (∀ x ∈ (linesP s).1, (10 : UInt8) ∉ x) ∧ (10 : UInt8) ∉ (linesP s).2
  | [] => by simp [linesP]
  | c :: r => by
    have ih := lines_no r
    unfold linesP
    by_cases h : c = 10
    · rw [if_pos h]
      refine ⟨fun x hx => ?_, ih.2⟩
      rcases List.mem_cons.1 hx with rfl | hx
      · simp
      · exact ih.1 x hx
    · rw [if_neg h]
      cases hl : (linesP r).1 with
      | nil => exact ⟨by simp, by simp only [List.mem_cons, not_or]; exact ⟨fun e => h e.symm, ih.2⟩⟩
      | cons y ys =>
        rw [hl] at ih
        refine ⟨fun x hx => ?_, ih.2⟩
        rcases List.mem_cons.1 hx with rfl | hx
        · simp only [List.mem_cons, not_or]
          exact ⟨fun e => h e.symm, ih.1 y (by simp)⟩
        · exact ih.1 x (by simp [hx])
theorem lines_unl : ∀ (ls : List (List UInt8)) (r : List UInt8), (∀ x ∈ ls, (10 : UInt8) ∉ x) → (10 : UInt8) ∉ r → linesP (unl ls r) = (ls, r)
  | [], r, _, hr => by
    show linesP r = ([], r)
    induction r with
    | nil => rfl
    | cons c r ih =>
      simp only [List.mem_cons, not_or] at hr
      unfold linesP
      rw [if_neg (fun e => hr.1 e.symm), ih hr.2]
  | x :: ls, r, h, hr => by
    rw [unl_cons]
    have ih := lines_unl ls r (fun y hy => h y (List.mem_cons_of_mem _ hy)) hr
    have hx := h x (List.mem_cons_self ..)
    clear h
    induction x with
    | nil =>
      show linesP (10 :: unl ls r) = _
      unfold linesP
      rw [if_pos rfl, ih]
    | cons c x ihx =>
      simp only [List.mem_cons, not_or] at hx
      show linesP (c :: (x ++ 10 :: unl ls r)) = _
      unfold linesP
      rw [if_neg (fun e => hx.1 e.symm), ihx hx.2]
/-- The bars at the head of lines: what they say, the lines behind. -/
def barsG : List UInt8 → List (List UInt8) → List UInt8 × List (List UInt8)
  | acc, (124 :: x) :: r => barsG (acc ++ 10 :: x) r
  | acc, r => (acc, r)
def barsP : List (List UInt8) → Option (List UInt8 × List (List UInt8))
  | (124 :: x) :: r => some (barsG x r)
  | _ => none
/-- A text as bars: its lines, each behind a bar. -/
def barLines : List UInt8 → List (List UInt8) := fun s => ((linesP s).1 ++ [(linesP s).2]).map (fun x => 124 :: x)
theorem barsG_back : ∀ (ys : List (List UInt8)) (acc : List UInt8) (r : List (List UInt8)), (∀ x, r.head? = some x → x.head? ≠ some 124) → barsG acc (ys.map (fun x => 124 :: x) ++ r) = (acc ++ ys.flatMap (fun x => 10 :: x), r)
  | [], acc, r, h => by
    simp only [List.map_nil, List.nil_append, List.flatMap_nil, List.append_nil]
    match r with
    | [] => rfl
    | [] :: r => rfl
    | (c :: x) :: r =>
      have hc : c ≠ 124 := fun e => h (c :: x) rfl (by simp [e])
      unfold barsG
      split
      · rename_i heq
        injection heq with h1 h2
        injection h1 with h1 _
        exact absurd h1 hc
      · rfl
  | y :: ys, acc, r, h => by
    rw [List.map_cons, List.cons_append, barsG, barsG_back ys _ r h, List.flatMap_cons]
    simp
theorem join_lines : ∀ (ls : List (List UInt8)) (r : List UInt8), unl ls r = (match ls ++ [r] with | [] => [] | x :: xs => x ++ xs.flatMap (fun x => 10 :: x))
  | [], r => by simp [unl]
  | x :: ls, r => by
    rw [unl_cons, join_lines ls r]
    cases ls with
    | nil => simp
    | cons y ls => simp
theorem barsP_back (s : List UInt8) (r : List (List UInt8)) (h : ∀ x, r.head? = some x → x.head? ≠ some 124) : barsP (barLines s ++ r) = some (s, r) := by
  have hj := join_lines (linesP s).1 (linesP s).2
  rw [unl_lines] at hj
  unfold barLines
  cases hl : (linesP s).1 ++ [(linesP s).2] with
  | nil => simp at hl
  | cons x xs =>
    rw [hl] at hj
    simp only at hj
    rw [List.map_cons, List.cons_append, barsP, barsG_back xs x r h, ← hj]
/-- What bars say, read off one string: behind each line feed a bar. -/
def barT (s : List UInt8) : List UInt8 := 124 :: s.flatMap (fun c => if c = 10 then [10, 124] else [c]) ++ [10]
theorem barT_lines : ∀ s : List UInt8, barT s = unl (barLines s) []
  | [] => by simp [barT, barLines, linesP, unl]
  | c :: r => by
    have ih := barT_lines r
    unfold barT at ih ⊢
    rw [List.flatMap_cons]
    unfold barLines at ih ⊢
    unfold linesP
    by_cases h : c = 10
    · subst h
      rw [if_pos rfl, if_pos rfl]
      simp only [List.cons_append, List.map_cons, unl_cons, List.nil_append] at ih ⊢
      rw [← ih]
    · rw [if_neg h, if_neg h]
      cases hl : (linesP r).1 with
      | nil =>
        rw [hl] at ih
        simp [unl] at ih ⊢
        exact ih
      | cons x xs =>
        rw [hl] at ih
        simp only [List.cons_append, List.map_cons, unl_cons, List.nil_append, List.cons.injEq, true_and] at ih ⊢
        rw [ih]
def beginsL (w s : List UInt8) : Bool := w.isPrefixOf s && decide (w.length < s.length)
def wAllow : List UInt8 := [97, 108, 108, 111, 119, 32]
def wOk : List UInt8 := [97, 110, 115, 119, 101, 114, 32, 111, 107, 32]
def wNo : List UInt8 := [97, 110, 115, 119, 101, 114, 32, 110, 111, 32]
def wDoc : List UInt8 := [100, 111, 99]
theorem begins_app (w s : List UInt8) (h : s ≠ []) : beginsL w (w ++ s) = true := by
  have : 0 < s.length := List.length_pos_iff.2 h
  unfold beginsL
  rw [Bool.and_eq_true, List.isPrefixOf_iff_prefix, decide_eq_true_eq]
  exact ⟨List.prefix_append _ _, by rw [List.length_append]; omega⟩
theorem begins_eq {w s : List UInt8} (h : beginsL w s = true) : s = w ++ s.drop w.length ∧ s.drop w.length ≠ [] := by
  unfold beginsL at h
  rw [Bool.and_eq_true, List.isPrefixOf_iff_prefix, decide_eq_true_eq] at h
  obtain ⟨⟨t, rfl⟩, h2⟩ := h
  rw [List.length_append] at h2
  refine ⟨by simp, ?_⟩
  rw [List.drop_left]
  intro e
  subst e
  simp at h2
/-- The patterns at the head of lines. -/
def allowP : List (List UInt8) → List (List UInt8) × List (List UInt8)
  | [] => ([], [])
  | x :: r => if beginsL wAllow x = true then (x.drop 6 :: (allowP r).1, (allowP r).2) else ([], x :: r)
theorem allowP_back : ∀ (al r : List (List UInt8)), (∀ p ∈ al, p ≠ []) → (∀ x, r.head? = some x → beginsL wAllow x = false) → allowP (al.map (fun p => wAllow ++ p) ++ r) = (al, r)
  | [], [], _, _ => rfl
  | [], x :: r, _, h => by
    show allowP (x :: r) = _
    rw [allowP, if_neg (by rw [h x rfl]; simp)]
  | p :: al, r, h, hr => by
    rw [List.map_cons, List.cons_append, allowP, if_pos (begins_app _ _ (h p (List.mem_cons_self ..))), allowP_back al r (fun q hq => h q (List.mem_cons_of_mem _ hq)) hr]
    rfl
theorem allowP_text : ∀ ls : List (List UInt8), (allowP ls).1.map (fun p => wAllow ++ p) ++ (allowP ls).2 = ls ∧ (∀ p ∈ (allowP ls).1, p ≠ [])
  | [] => ⟨rfl, fun p hp => by cases hp⟩
  | x :: r => by
    have ih := allowP_text r
    unfold allowP
    by_cases h : beginsL wAllow x = true
    · rw [if_pos h]
      obtain ⟨h1, h2⟩ := begins_eq h
      refine ⟨?_, fun p hp => ?_⟩
      · show (wAllow ++ x.drop 6) :: (_ ++ _) = x :: r
        rw [ih.1, ← show x = wAllow ++ x.drop 6 from h1]
      · rcases List.mem_cons.1 hp with rfl | hp
        · exact h2
        · exact ih.2 p hp
    · rw [if_neg h]
      exact ⟨rfl, fun p hp => by cases hp⟩
structure AnsC where
  id : List UInt8
  ok : Bool
  data : List UInt8
/-- The answers at the head of lines: them, and the lines behind; or the lines from the one at fault on. -/
def scriptP : Nat → List (List UInt8) → List AnsC → Sum (List AnsC × List (List UInt8)) (List (List UInt8))
  | 0, ls, acc => .inl (acc, ls)
  | _ + 1, [], acc => .inl (acc, [])
  | f + 1, x :: r, acc => if beginsL wOk x = true then (match barsP r with | none => .inr r | some (d, r2) => scriptP f r2 (acc ++ [⟨x.drop 10, true, d⟩]))
    else if beginsL wNo x = true then scriptP f r (acc ++ [⟨x.drop 10, false, []⟩]) else .inl (acc, x :: r)
def ansLines (a : AnsC) : List (List UInt8) := if a.ok = true then (wOk ++ a.id) :: barLines a.data else [wNo ++ a.id]
theorem ansLines_ok (id data : List UInt8) : ansLines ⟨id, true, data⟩ = (wOk ++ id) :: barLines data := rfl
theorem ansLines_no (id data : List UInt8) : ansLines ⟨id, false, data⟩ = [wNo ++ id] := rfl
theorem scriptP_back : ∀ (sc : List AnsC) (acc : List AnsC) (r : List (List UInt8)) (f : Nat), (∀ a ∈ sc, a.id ≠ [] ∧ (a.ok = false → a.data = [])) → (∀ x, r.head? = some x → beginsL wOk x = false ∧ beginsL wNo x = false ∧ x.head? ≠ some 124) → sc.length < f →
    scriptP f (sc.flatMap ansLines ++ r) acc = .inl (acc ++ sc, r)
  | [], acc, r, 0, _, _, hf => by omega
  | [], acc, [], f + 1, _, _, _ => by simp [scriptP]
  | [], acc, x :: r, f + 1, _, h, _ => by
    have := h x rfl
    show scriptP (f + 1) (x :: r) acc = _
    rw [scriptP, if_neg (by rw [this.1]; simp), if_neg (by rw [this.2.1]; simp), List.append_nil]
  | a :: sc, acc, r, 0, _, _, hf => by omega
  | a :: sc, acc, r, f + 1, h, hr, hf => by
    have ha := h a (List.mem_cons_self ..)
    have hrest := scriptP_back sc (acc ++ [a]) r f (fun b hb => h b (List.mem_cons_of_mem _ hb)) hr (by simp at hf; omega)
    have hhead : ∀ x, (sc.flatMap ansLines ++ r).head? = some x → x.head? ≠ some 124 := by
      intro x hx
      cases sc with
      | nil => exact (hr x (by simpa using hx)).2.2
      | cons b sc =>
        rw [List.flatMap_cons] at hx
        unfold ansLines at hx
        split at hx
        · simp at hx
          subst hx
          simp [wOk]
        · simp at hx
          subst hx
          simp [wNo]
    rw [List.flatMap_cons, List.append_assoc]
    obtain ⟨id, ok, data⟩ := a
    cases ok with
    | true =>
      rw [ansLines_ok, List.cons_append, scriptP, if_pos (begins_app _ _ ha.1), barsP_back data _ hhead]
      show scriptP f _ (acc ++ [⟨(wOk ++ id).drop 10, true, data⟩]) = _
      rw [show (wOk ++ id).drop 10 = id from List.drop_left (l₁ := wOk), hrest]
      simp
    | false =>
      have hd : data = [] := ha.2 rfl
      subst hd
      have h1 : beginsL wOk (wNo ++ id) = false := by
        unfold beginsL wOk wNo
        simp [List.isPrefixOf]
      rw [ansLines_no]
      show scriptP (f + 1) ((wNo ++ id) :: (sc.flatMap ansLines ++ r)) acc = _
      rw [scriptP, if_neg (by rw [h1]; simp), if_pos (begins_app _ _ ha.1), show (wNo ++ id).drop 10 = id from List.drop_left (l₁ := wNo), hrest]
      simp
theorem barsG_text : ∀ (ls : List (List UInt8)) (acc : List UInt8), ∃ ys : List (List UInt8), (barsG acc ls).1 = acc ++ ys.flatMap (fun x => 10 :: x) ∧ ls = ys.map (fun x => 124 :: x) ++ (barsG acc ls).2
  | [], acc => ⟨[], by simp [barsG]⟩
  | [] :: r, acc => ⟨[], by simp [barsG]⟩
  | (c :: x) :: r, acc => by
    by_cases h : c = 124
    · subst h
      obtain ⟨ys, h1, h2⟩ := barsG_text r (acc ++ 10 :: x)
      refine ⟨x :: ys, ?_, ?_⟩
      · rw [barsG, h1, List.flatMap_cons]
        simp
      · rw [barsG, List.map_cons, List.cons_append, ← h2]
    · refine ⟨[], ?_, ?_⟩
      · unfold barsG
        split
        · rename_i heq
          injection heq with h1 _
          injection h1 with h1 _
          exact absurd h1 h
        · simp
      · unfold barsG
        split
        · rename_i heq
          injection heq with h1 _
          injection h1 with h1 _
          exact absurd h1 h
        · simp
/-- Lines without line feeds, joined by line feeds, part into themselves. -/
theorem lines_join : ∀ (x : List UInt8) (xs : List (List UInt8)), (∀ y ∈ x :: xs, (10 : UInt8) ∉ y) → (linesP (x ++ xs.flatMap (fun x => 10 :: x))).1 ++ [(linesP (x ++ xs.flatMap (fun x => 10 :: x))).2] = x :: xs := by
  intro x xs h
  have key : ∀ (ls : List (List UInt8)) (r : List UInt8), ls ++ [r] = x :: xs → linesP (x ++ xs.flatMap (fun x => 10 :: x)) = (ls, r) := by
    intro ls r he
    have hj := join_lines ls r
    rw [he] at hj
    simp only at hj
    rw [← hj]
    refine lines_unl ls r (fun y hy => h y ?_) (h r ?_)
    · rw [← he]; exact List.mem_append_left _ hy
    · rw [← he]; simp
  obtain ⟨ls, r, he⟩ : ∃ ls r, ls ++ [r] = x :: xs := ⟨(x :: xs).dropLast, (x :: xs).getLast (by simp), List.dropLast_concat_getLast (by simp)⟩
  rw [key ls r he]
  exact he
theorem barsP_text {ls : List (List UInt8)} {s : List UInt8} {r : List (List UInt8)} (hn : ∀ x ∈ ls, (10 : UInt8) ∉ x) (h : barsP ls = some (s, r)) : ls = barLines s ++ r := by
  match ls, h with
  | [], h => cases h
  | [] :: q, h => simp [barsP] at h
  | (c :: x) :: q, h =>
    by_cases hc : c = 124
    · subst hc
      rw [barsP] at h
      obtain ⟨ys, h1, h2⟩ := barsG_text q x
      injection h with h
      rw [h] at h1 h2
      simp only at h1 h2
      unfold barLines
      rw [h1, lines_join x ys ?_, List.map_cons, List.cons_append, ← h2]
      intro y hy
      rcases List.mem_cons.1 hy with rfl | hy
      · have := hn (124 :: y) (by simp)
        simp only [List.mem_cons, not_or] at this
        exact this.2
      · have := hn (124 :: y) (by rw [h2]; exact List.mem_cons_of_mem _ (List.mem_append_left _ (List.mem_map.2 ⟨y, hy, rfl⟩)))
        simp only [List.mem_cons, not_or] at this
        exact this.2
    · unfold barsP at h
      split at h
      · rename_i heq
        injection heq with h1 _
        injection h1 with h1 _
        exact absurd h1 hc
      · cases h
theorem scriptP_text : ∀ (f : Nat) (ls : List (List UInt8)) (acc sc : List AnsC) (r : List (List UInt8)), (∀ x ∈ ls, (10 : UInt8) ∉ x) → scriptP f ls acc = .inl (sc, r) → ∃ new, sc = acc ++ new ∧ ls = new.flatMap ansLines ++ r ∧ ∀ a ∈ new, a.id ≠ [] ∧ (a.ok = false → a.data = [])
  | 0, ls, acc, sc, r, _, h => by
    injection h with h
    injection h with h1 h2
    exact ⟨[], by simp [h1], by simp [h2], by simp⟩
  | f + 1, [], acc, sc, r, _, h => by
    injection h with h
    injection h with h1 h2
    exact ⟨[], by simp [h1], by simp [h2], by simp⟩
  | f + 1, x :: q, acc, sc, r, hn, h => by
    rw [scriptP] at h
    by_cases h1 : beginsL wOk x = true
    · rw [if_pos h1] at h
      cases hb : barsP q with
      | none => rw [hb] at h; cases h
      | some p =>
        obtain ⟨d, r2⟩ := p
        rw [hb] at h
        simp only at h
        have hq := barsP_text (fun y hy => hn y (List.mem_cons_of_mem _ hy)) hb
        obtain ⟨new, e1, e2, e3⟩ := scriptP_text f r2 _ sc r (fun y hy => hn y (List.mem_cons_of_mem _ (by rw [hq]; exact List.mem_append_right _ hy))) h
        obtain ⟨b1, b2⟩ := begins_eq h1
        refine ⟨⟨x.drop 10, true, d⟩ :: new, by rw [e1]; simp, ?_, fun a ha => ?_⟩
        · rw [List.flatMap_cons, ansLines_ok, List.cons_append, List.cons_append, List.append_assoc, ← e2, ← hq, ← show x = wOk ++ x.drop 10 from b1]
        · rcases List.mem_cons.1 ha with rfl | ha
          · exact ⟨b2, by simp⟩
          · exact e3 a ha
    · rw [if_neg h1] at h
      by_cases h2 : beginsL wNo x = true
      · rw [if_pos h2] at h
        obtain ⟨new, e1, e2, e3⟩ := scriptP_text f q _ sc r (fun y hy => hn y (List.mem_cons_of_mem _ hy)) h
        obtain ⟨b1, b2⟩ := begins_eq h2
        refine ⟨⟨x.drop 10, false, []⟩ :: new, by rw [e1]; simp, ?_, fun a ha => ?_⟩
        · rw [List.flatMap_cons, ansLines_no, List.cons_append, List.nil_append, List.cons_append, ← e2, ← show x = wNo ++ x.drop 10 from b1]
        · rcases List.mem_cons.1 ha with rfl | ha
          · exact ⟨b2, fun _ => rfl⟩
          · exact e3 a ha
      · rw [if_neg h2] at h
        injection h with h
        injection h with h3 h4
        exact ⟨[], by simp [h3], by simp [h4], by simp⟩
/-- A text's words, parted at each blank. -/
def wordsP : List UInt8 → List (List UInt8)
  | [] => [[]]
  | c :: r => if c = 32 then [] :: wordsP r else match wordsP r with
    | [] => [[c]]
    | x :: xs => (c :: x) :: xs
theorem wordsP_ne : ∀ s, wordsP s ≠ []
  | [] => by simp [wordsP]
  | c :: r => by
    unfold wordsP
    split
    · simp
    · split <;> simp
def joinW : List (List UInt8) → List UInt8
  | [] => []
  | x :: xs => x ++ xs.flatMap (fun y => 32 :: y)
theorem joinW_words : ∀ s, joinW (wordsP s) = s
  | [] => rfl
  | c :: r => by
    have ih := joinW_words r
    have hn := wordsP_ne r
    unfold wordsP
    by_cases h : c = 32
    · subst h
      rw [if_pos rfl]
      cases hw : wordsP r with
      | nil => exact absurd hw hn
      | cons x xs =>
        rw [hw] at ih
        simp [joinW] at ih ⊢
        exact ih
    · rw [if_neg h]
      cases hw : wordsP r with
      | nil => exact absurd hw hn
      | cons x xs =>
        rw [hw] at ih
        simp [joinW] at ih ⊢
        exact ih
theorem words_plain : ∀ x : List UInt8, (32 : UInt8) ∉ x → wordsP x = [x]
  | [], _ => rfl
  | c :: x, h => by
    simp only [List.mem_cons, not_or] at h
    unfold wordsP
    rw [if_neg (fun e => h.1 e.symm), words_plain x h.2]
theorem words_app : ∀ (x s : List UInt8), (32 : UInt8) ∉ x → wordsP (x ++ 32 :: s) = x :: wordsP s
  | [], s, _ => by
    show wordsP (32 :: s) = _
    rw [wordsP, if_pos rfl]
  | c :: x, s, h => by
    simp only [List.mem_cons, not_or] at h
    show wordsP (c :: (x ++ 32 :: s)) = _
    rw [wordsP, if_neg (fun e => h.1 e.symm), words_app x s h.2]
theorem words_joinW : ∀ (x : List UInt8) (xs : List (List UInt8)), (∀ y ∈ x :: xs, (32 : UInt8) ∉ y) → wordsP (joinW (x :: xs)) = x :: xs
  | x, [], h => by
    show wordsP (x ++ []) = _
    rw [List.append_nil, words_plain x (h x (by simp))]
  | x, y :: ys, h => by
    show wordsP (x ++ (y :: ys).flatMap (fun y => 32 :: y)) = _
    rw [List.flatMap_cons, List.cons_append, words_app x _ (h x (by simp))]
    have := words_joinW y ys (fun z hz => h z (List.mem_cons_of_mem _ hz))
    exact congrArg (x :: ·) this
structure CaseC where
  doc : List UInt8
  lim : List Nat
  allow : List (List UInt8)
  script : List AnsC
inductive PrsC where
  | ok (c : CaseC)
  | bad (line : Nat)
  | big
section
variable (dec : Nat → List UInt8) (num : List UInt8 → Option Nat) (bigC : CaseC → Bool)
def wLim : List UInt8 := [108, 105, 109, 105, 116, 115, 32]
def limT (ns : List Nat) : List UInt8 := wLim ++ joinW (ns.map dec)
def limP (x : List UInt8) : Option (List Nat) := if wLim.isPrefixOf x = true then (if (wordsP (x.drop 7)).length = 6 then (wordsP (x.drop 7)).mapM num else none) else none
def linesC (c : CaseC) : List (List UInt8) := limT dec c.lim :: (c.allow.map (fun p => wAllow ++ p) ++ (c.script.flatMap ansLines ++ wDoc :: barLines c.doc))
def printC (c : CaseC) : List UInt8 := unl (linesC dec c) []
/-- What lines say, and what stands behind the last of them. -/
def parseL (ls : List (List UInt8)) (tl : List UInt8) : PrsC :=
  match ls with
  | [] => .bad 1
  | x :: r => match limP num x with
    | none => .bad 1
    | some lim => match scriptP ((allowP r).2.length + 1) (allowP r).2 [] with
      | .inr q => .bad (ls.length - q.length + 1)
      | .inl (sc, q) => match q with
        | [] => .bad (ls.length + 1)
        | d :: q2 => if d = wDoc then (match barsP q2 with
            | none => .bad (ls.length - q2.length + 1)
            | some (doc, q3) => if q3 ≠ [] ∨ tl ≠ [] then .bad (ls.length - q3.length + 1) else if bigC ⟨doc, lim, (allowP r).1, sc⟩ = true then .big else .ok ⟨doc, lim, (allowP r).1, sc⟩)
          else .bad (ls.length - q.length + 1)
def parseC (text : List UInt8) : PrsC := parseL num bigC (linesP text).1 (linesP text).2
/-- A case that can be printed. -/
structure GoodC (c : CaseC) : Prop where
  six : c.lim.length = 6
  nums : ∀ n ∈ c.lim, num (dec n) = some n ∧ (32 : UInt8) ∉ dec n ∧ (10 : UInt8) ∉ dec n
  allow : ∀ p ∈ c.allow, p ≠ [] ∧ (10 : UInt8) ∉ p
  script : ∀ a ∈ c.script, a.id ≠ [] ∧ (10 : UInt8) ∉ a.id ∧ (a.ok = false → a.data = [])
theorem barLines_no (s : List UInt8) : ∀ x ∈ barLines s, (10 : UInt8) ∉ x := by
  intro x hx
  unfold barLines at hx
  obtain ⟨y, hy, rfl⟩ := List.mem_map.1 hx
  have h := lines_no s
  rw [List.mem_cons, not_or]
  refine ⟨by decide, ?_⟩
  rcases List.mem_append.1 hy with hy | hy
  · exact h.1 y hy
  · rw [List.mem_singleton] at hy
    subst hy
    exact h.2
theorem joinW_no {xs : List (List UInt8)} (h : ∀ x ∈ xs, (10 : UInt8) ∉ x) : (10 : UInt8) ∉ joinW xs := by
  cases xs with
  | nil => simp [joinW]
  | cons x xs =>
    intro hm
    unfold joinW at hm
    rcases List.mem_append.1 hm with hm | hm
    · exact h x (by simp) hm
    · obtain ⟨y, hy, hm⟩ := List.mem_flatMap.1 hm
      rcases List.mem_cons.1 hm with hm | hm
      · exact absurd hm (by decide)
      · exact h y (by simp [hy]) hm
theorem mapM_back : ∀ ns : List Nat, (∀ n ∈ ns, num (dec n) = some n) → (ns.map dec).mapM num = some ns
  | [], _ => rfl
  | n :: ns, h => by
    rw [List.map_cons, List.mapM_cons, h n (by simp), mapM_back ns (fun m hm => h m (by simp [hm]))]
    rfl
theorem limP_back (ns : List Nat) (h6 : ns.length = 6) (h : ∀ n ∈ ns, num (dec n) = some n ∧ (32 : UInt8) ∉ dec n ∧ (10 : UInt8) ∉ dec n) : limP num (limT dec ns) = some ns := by
  unfold limP limT
  have hp : wLim.isPrefixOf (wLim ++ joinW (ns.map dec)) = true := List.isPrefixOf_iff_prefix.2 (List.prefix_append _ _)
  rw [if_pos hp, show (wLim ++ joinW (ns.map dec)).drop 7 = joinW (ns.map dec) from List.drop_left (l₁ := wLim)]
  have hw : wordsP (joinW (ns.map dec)) = ns.map dec := by
    cases ns with
    | nil => simp at h6
    | cons n ns =>
      rw [List.map_cons]
      refine words_joinW _ _ (fun y hy => ?_)
      rw [← List.map_cons] at hy
      obtain ⟨m, hm, rfl⟩ := List.mem_map.1 hy
      exact (h m hm).2.1
  rw [hw, if_pos (by simpa using h6), mapM_back dec num ns (fun n hn => (h n hn).1)]
theorem parse_print (c : CaseC) (h : GoodC dec num c) (hb : bigC c = false) : parseC num bigC (printC dec c) = .ok c := by
  unfold parseC printC
  have hno : ∀ x ∈ linesC dec c, (10 : UInt8) ∉ x := by
    intro x hx
    unfold linesC at hx
    rcases List.mem_cons.1 hx with rfl | hx
    · unfold limT
      intro hm
      rcases List.mem_append.1 hm with hm | hm
      · exact absurd hm (by decide)
      · refine joinW_no (fun y hy => ?_) hm
        obtain ⟨n, hn, rfl⟩ := List.mem_map.1 hy
        exact (h.nums n hn).2.2
    · rcases List.mem_append.1 hx with hx | hx
      · obtain ⟨p, hp, rfl⟩ := List.mem_map.1 hx
        intro hm
        rcases List.mem_append.1 hm with hm | hm
        · exact absurd hm (by decide)
        · exact (h.allow p hp).2 hm
      · rcases List.mem_append.1 hx with hx | hx
        · obtain ⟨a, ha, hx⟩ := List.mem_flatMap.1 hx
          obtain ⟨id, ok, data⟩ := a
          have hid := (h.script _ ha).2.1
          cases ok with
          | true =>
            rw [ansLines_ok] at hx
            rcases List.mem_cons.1 hx with rfl | hx
            · intro hm
              rcases List.mem_append.1 hm with hm | hm
              · exact absurd hm (by decide)
              · exact hid hm
            · exact barLines_no data x hx
          | false =>
            rw [ansLines_no, List.mem_singleton] at hx
            subst hx
            intro hm
            rcases List.mem_append.1 hm with hm | hm
            · exact absurd hm (by decide)
            · exact hid hm
        · rcases List.mem_cons.1 hx with rfl | hx
          · decide
          · exact barLines_no c.doc x hx
  rw [lines_unl _ [] hno (by simp)]
  unfold parseL linesC
  simp only
  rw [limP_back dec num c.lim h.six h.nums]
  simp only
  have hdoc : ∀ x, (wDoc :: barLines c.doc).head? = some x → beginsL wOk x = false ∧ beginsL wNo x = false ∧ x.head? ≠ some 124 := by
    intro x hx
    simp at hx
    subst hx
    exact ⟨by decide, by decide, by decide⟩
  have hal : ∀ x, (c.script.flatMap ansLines ++ wDoc :: barLines c.doc).head? = some x → beginsL wAllow x = false := by
    intro x hx
    cases hs : c.script with
    | nil =>
      rw [hs] at hx
      simp at hx
      subst hx
      decide
    | cons a sc =>
      rw [hs, List.flatMap_cons] at hx
      obtain ⟨id, ok, data⟩ := a
      cases ok with
      | true =>
        rw [ansLines_ok] at hx
        simp at hx
        subst hx
        simp [beginsL, wAllow, wOk, List.isPrefixOf]
      | false =>
        rw [ansLines_no] at hx
        simp at hx
        subst hx
        simp [beginsL, wAllow, wNo, List.isPrefixOf]
  rw [allowP_back c.allow _ (fun p hp => (h.allow p hp).1) hal]
  simp only
  have hlen : ∀ sc : List AnsC, sc.length ≤ (sc.flatMap ansLines).length := by
    intro sc
    induction sc with
    | nil => simp
    | cons a sc ih =>
      rw [List.flatMap_cons, List.length_append, List.length_cons]
      have : 1 ≤ (ansLines a).length := by unfold ansLines; split <;> simp
      omega
  rw [scriptP_back c.script [] _ _ (fun a ha => ⟨(h.script a ha).1, (h.script a ha).2.2⟩) hdoc (by rw [List.length_append]; have := hlen c.script; omega)]
  simp only [if_pos]
  have hbk := barsP_back c.doc [] (fun x hx => by cases hx)
  rw [List.append_nil] at hbk
  rw [hbk]
  simp [hb]
end
section
variable (dec : Nat → List UInt8) (num : List UInt8 → Option Nat) (bigC : CaseC → Bool)
theorem mapM_text (h : ∀ w n, num w = some n → dec n = w) : ∀ (ws : List (List UInt8)) (ns : List Nat), ws.mapM num = some ns → ns.map dec = ws
  | [], ns, e => by
    cases e
    rfl
  | w :: ws, ns, e => by
    rw [List.mapM_cons] at e
    cases hw : num w with
    | none => rw [hw] at e; cases e
    | some n =>
      cases hm : ws.mapM num with
      | none => rw [hw, hm] at e; cases e
      | some ms =>
        rw [hw, hm] at e
        cases e
        rw [List.map_cons, h w n hw, mapM_text h ws ms hm]
theorem limP_text (h : ∀ w n, num w = some n → dec n = w) {x : List UInt8} {ns : List Nat} (e : limP num x = some ns) : limT dec ns = x := by
  unfold limP at e
  split at e
  · rename_i hp
    split at e
    · have := mapM_text dec num h _ _ e
      obtain ⟨t, rfl⟩ := List.isPrefixOf_iff_prefix.1 hp
      unfold limT
      rw [this, joinW_words, show (wLim ++ t).drop 7 = t from List.drop_left (l₁ := wLim)]
    · cases e
  · cases e
theorem print_parse (h : ∀ w n, num w = some n → dec n = w) {text : List UInt8} {c : CaseC} (e : parseC num bigC text = .ok c) : printC dec c = text := by
  unfold parseC at e
  have hu := unl_lines text
  have hn := (lines_no text).1
  cases hl : (linesP text).1 with
  | nil => rw [hl] at e; unfold parseL at e; cases e
  | cons x r =>
    rw [hl] at e hn hu
    unfold parseL at e
    simp only at e
    cases hx : limP num x with
    | none => rw [hx] at e; cases e
    | some lim =>
      rw [hx] at e
      simp only at e
      have hal := allowP_text r
      have hnr : ∀ y ∈ (allowP r).2, (10 : UInt8) ∉ y := fun y hy => hn y (List.mem_cons_of_mem _ (by rw [← hal.1]; exact List.mem_append_right _ hy))
      cases hs : scriptP ((allowP r).2.length + 1) (allowP r).2 [] with
      | inr q => rw [hs] at e; cases e
      | inl p =>
        obtain ⟨sc, q⟩ := p
        rw [hs] at e
        simp only at e
        obtain ⟨new, e1, e2, _⟩ := scriptP_text _ _ _ _ _ hnr hs
        rw [List.nil_append] at e1
        subst e1
        cases q with
        | nil => cases e
        | cons d q2 =>
          simp only at e
          split at e
          · rename_i hd
            subst hd
            cases hb : barsP q2 with
            | none => rw [hb] at e; cases e
            | some p =>
              obtain ⟨doc, q3⟩ := p
              rw [hb] at e
              simp only at e
              split at e
              · cases e
              · rename_i h3
                split at e
                · cases e
                · injection e with e
                  subst e
                  have h3' : q3 = [] ∧ (linesP text).2 = [] := ⟨Classical.byContradiction fun h => h3 (.inl h), Classical.byContradiction fun h => h3 (.inr h)⟩
                  have hq := barsP_text (fun y hy => hnr y (by rw [e2]; exact List.mem_append_right _ (List.mem_cons_of_mem _ hy))) hb
                  rw [h3'.1, List.append_nil] at hq
                  rw [h3'.2] at hu
                  unfold printC linesC
                  rw [limP_text dec num h hx, ← hq, ← e2, hal.1, hu]
          · cases e
end
section
variable (dec : Nat → List UInt8) (num : List UInt8 → Option Nat) (bigC : CaseC → Bool)
theorem drop_no {x : List UInt8} (h : (10 : UInt8) ∉ x) (k : Nat) : (10 : UInt8) ∉ x.drop k := fun hm => h (List.mem_of_mem_drop hm)
theorem allowP_no : ∀ ls : List (List UInt8), (∀ x ∈ ls, (10 : UInt8) ∉ x) → ∀ p ∈ (allowP ls).1, (10 : UInt8) ∉ p
  | [], _ => fun p hp => by cases hp
  | x :: r, h => by
    have ih := allowP_no r (fun y hy => h y (List.mem_cons_of_mem _ hy))
    unfold allowP
    split
    · intro p hp
      rcases List.mem_cons.1 hp with rfl | hp
      · exact fun hm => h x (by simp) (List.mem_of_mem_drop hm)
      · exact ih p hp
    · intro p hp
      cases hp
theorem ans_no {new : List AnsC} {r ls : List (List UInt8)} (he : ls = new.flatMap ansLines ++ r) (h : ∀ x ∈ ls, (10 : UInt8) ∉ x) : ∀ a ∈ new, (10 : UInt8) ∉ a.id := by
  intro a ha hm
  obtain ⟨id, ok, data⟩ := a
  have key : ∀ y, y ∈ ansLines ⟨id, ok, data⟩ → (10 : UInt8) ∉ y := fun y hy => h y (by rw [he]; exact List.mem_append_left _ (List.mem_flatMap.2 ⟨_, ha, hy⟩))
  cases ok with
  | true => exact key (wOk ++ id) (by rw [ansLines_ok]; simp) (List.mem_append_right _ hm)
  | false => exact key (wNo ++ id) (by rw [ansLines_no]; simp) (List.mem_append_right _ hm)
/-- What is read can be printed. -/
structure ReadC (c : CaseC) : Prop where
  six : c.lim.length = 6
  nums : ∀ n ∈ c.lim, ∃ w, num w = some n
  allow : ∀ p ∈ c.allow, p ≠ [] ∧ (10 : UInt8) ∉ p
  script : ∀ a ∈ c.script, a.id ≠ [] ∧ (10 : UInt8) ∉ a.id ∧ (a.ok = false → a.data = [])
  big : bigC c = false
theorem mapM_some : ∀ (ws : List (List UInt8)) (ns : List Nat), ws.mapM num = some ns → ns.length = ws.length ∧ ∀ n ∈ ns, ∃ w, num w = some n
  | [], ns, e => by
    cases e
    exact ⟨rfl, fun n hn => by cases hn⟩
  | w :: ws, ns, e => by
    rw [List.mapM_cons] at e
    cases hw : num w with
    | none => rw [hw] at e; cases e
    | some n =>
      cases hm : ws.mapM num with
      | none => rw [hw, hm] at e; cases e
      | some ms =>
        rw [hw, hm] at e
        cases e
        obtain ⟨h1, h2⟩ := mapM_some ws ms hm
        refine ⟨by simp [h1], fun k hk => ?_⟩
        rcases List.mem_cons.1 hk with rfl | hk
        · exact ⟨w, hw⟩
        · exact h2 k hk
theorem parse_good {text : List UInt8} {c : CaseC} (e : parseC num bigC text = .ok c) : ReadC num bigC c := by
  unfold parseC at e
  have hn := (lines_no text).1
  cases hl : (linesP text).1 with
  | nil => rw [hl] at e; unfold parseL at e; cases e
  | cons x r =>
    rw [hl] at e hn
    unfold parseL at e
    simp only at e
    cases hx : limP num x with
    | none => rw [hx] at e; cases e
    | some lim =>
      rw [hx] at e
      simp only at e
      have hnr0 : ∀ y ∈ r, (10 : UInt8) ∉ y := fun y hy => hn y (List.mem_cons_of_mem _ hy)
      have hal := allowP_text r
      have hnr : ∀ y ∈ (allowP r).2, (10 : UInt8) ∉ y := fun y hy => hnr0 y (by rw [← hal.1]; exact List.mem_append_right _ hy)
      cases hs : scriptP ((allowP r).2.length + 1) (allowP r).2 [] with
      | inr q => rw [hs] at e; cases e
      | inl p =>
        obtain ⟨sc, q⟩ := p
        rw [hs] at e
        simp only at e
        obtain ⟨new, e1, e2, e3⟩ := scriptP_text _ _ _ _ _ hnr hs
        rw [List.nil_append] at e1
        subst e1
        have hids := ans_no e2 hnr
        cases q with
        | nil => cases e
        | cons d q2 =>
          simp only at e
          split at e
          · cases hb : barsP q2 with
            | none => rw [hb] at e; cases e
            | some p =>
              obtain ⟨doc, q3⟩ := p
              rw [hb] at e
              simp only at e
              split at e
              · cases e
              · split at e
                · cases e
                · rename_i hbig
                  injection e with e
                  subst e
                  have hlim : lim.length = 6 ∧ ∀ n ∈ lim, ∃ w, num w = some n := by
                    unfold limP at hx
                    split at hx
                    · split at hx
                      · rename_i h6
                        obtain ⟨h1, h2⟩ := mapM_some num _ _ hx
                        exact ⟨by rw [h1, h6], h2⟩
                      · cases hx
                    · cases hx
                  exact ⟨hlim.1, hlim.2, fun p hp => ⟨hal.2 p hp, allowP_no r hnr0 p hp⟩, fun a ha => ⟨(e3 a ha).1, hids a ha, (e3 a ha).2⟩, by simpa using hbig⟩
          · cases e
end
/-- One byte sought: what the library's functions on texts are. -/
theorem idx_none (c : UInt8) : ∀ s : List UInt8, c ∉ s → Lib.index s [c] = -1
  | [], _ => rfl
  | b :: l, h => by
    simp only [List.mem_cons, not_or] at h
    have hb : ([c] : List UInt8).isPrefixOf (b :: l) = false := by
      simp [List.isPrefixOf]
      exact h.1
    rw [Lib.index, hb, idx_none c l h.2]
    rfl
theorem idx_app (c : UInt8) : ∀ (x r : List UInt8), c ∉ x → Lib.index (x ++ c :: r) [c] = (x.length : Int)
  | [], r, _ => by
    show Lib.index (c :: r) [c] = 0
    rw [Lib.index]
    simp [List.isPrefixOf]
  | b :: x, r, h => by
    simp only [List.mem_cons, not_or] at h
    have hb : ([c] : List UInt8).isPrefixOf (b :: (x ++ c :: r)) = false := by
      simp [List.isPrefixOf]
      exact h.1
    show Lib.index (b :: (x ++ c :: r)) [c] = _
    rw [Lib.index, hb, idx_app c x r h.2]
    simp
theorem cut_none (c : UInt8) (s : List UInt8) (h : c ∉ s) : Lib.cut s [c] = (s, [], false) := by
  unfold Lib.cut
  rw [idx_none c s h]
  rfl
theorem cut_app (c : UInt8) (x r : List UInt8) (h : c ∉ x) : Lib.cut (x ++ c :: r) [c] = (x, r, true) := by
  unfold Lib.cut
  rw [idx_app c x r h, if_pos (by omega)]
  simp
theorem count_app (c : UInt8) (x r : List UInt8) (h : c ∉ x) : Lib.count (x ++ c :: r) [c] = 1 + Lib.count r [c] := by
  rw [Lib.count_one, Lib.count_one, List.count_append, List.count_cons_self, List.count_eq_zero.2 h]
  omega
theorem count_zero (c : UInt8) (s : List UInt8) (h : Lib.count s [c] = 0) : c ∉ s := by
  rw [Lib.count_one] at h
  exact List.count_eq_zero.1 h
theorem mem_of_count {c : UInt8} {s : List UInt8} {k : Nat} (h : Lib.count s [c] = k + 1) : c ∈ s := by
  rw [Lib.count_one] at h
  exact List.count_pos_iff.1 (by omega)
theorem flat_plain {c : UInt8} {f : UInt8 → List UInt8} (hf : ∀ b, b ≠ c → f b = [b]) : ∀ s : List UInt8, c ∉ s → s.flatMap f = s
  | [], _ => rfl
  | b :: l, h => by
    simp only [List.mem_cons, not_or] at h
    rw [List.flatMap_cons, hf b (fun e => h.1 e.symm), flat_plain hf l h.2]
    rfl
theorem replaceK_flat (c : UInt8) (new : List UInt8) : ∀ (k : Nat) (s : List UInt8), Lib.count s [c] = k → Lib.replaceK [c] new k s = s.flatMap (fun b => if b = c then new else [b])
  | 0, s, h => by
    rw [flat_plain (c := c) (fun b hb => if_neg hb) s (count_zero c s h)]
    rfl
  | k + 1, s, h => by
    obtain ⟨x, r, rfl, hx⟩ := List.eq_append_cons_of_mem (mem_of_count h)
    rw [count_app c x r hx] at h
    rw [Lib.replaceK_hit [c] new k _ x.length (idx_app c x r hx), List.flatMap_append, List.flatMap_cons, if_pos rfl, flat_plain (c := c) (fun b hb => if_neg hb) x hx]
    have hd : (x ++ c :: r).drop (x.length + [c].length) = r := by simp
    have ht : (x ++ c :: r).take x.length = x := by simp
    rw [hd, ht, replaceK_flat c new k r (by omega), List.append_assoc]
theorem replaceAll_bar (s : List UInt8) : Lib.replaceAll s [10] [10, 124] = s.flatMap (fun c => if c = 10 then [10, 124] else [c]) := by
  unfold Lib.replaceAll Lib.replace
  rw [if_neg (by decide)]
  have hn : Lib.replaceNum s [10] (-1) = Lib.count s [10] := by unfold Lib.replaceNum; rw [if_pos (.inl (by decide))]
  rw [hn]
  exact replaceK_flat 10 [10, 124] _ s rfl
theorem splitK_words : ∀ (k : Nat) (s : List UInt8), Lib.count s [32] = k → Lib.splitK [32] 0 k s = wordsP s
  | 0, s, h => by
    rw [words_plain s (count_zero 32 s h)]
    rfl
  | k + 1, s, h => by
    obtain ⟨x, r, rfl, hx⟩ := List.eq_append_cons_of_mem (mem_of_count h)
    rw [count_app 32 x r hx] at h
    have hi := idx_app 32 x r hx
    have hm : ¬ (Lib.index (x ++ 32 :: r) [32] == -1) = true := fun e => by have := beq_iff_eq.1 e; omega
    have e : (Lib.index (x ++ 32 :: r) [32]).toNat = x.length := by omega
    rw [Lib.splitK, if_neg hm, e, words_app x r hx]
    have hd : (x ++ 32 :: r).drop (x.length + ([32] : List UInt8).length) = r := by simp
    have ht : (x ++ 32 :: r).take (x.length + 0) = x := by simp
    rw [hd, ht, splitK_words k r (by omega)]
theorem split_words (s : List UInt8) : Lib.split s [32] = wordsP s := splitK_words _ s rfl
theorem cut_unl (l : List UInt8) (ls : List (List UInt8)) (tl : List UInt8) (h : (10 : UInt8) ∉ l) : Lib.cut (unl (l :: ls) tl) [10] = (l, unl ls tl, true) := by
  rw [unl_cons]
  exact cut_app 10 l _ h
theorem cut_tail (tl : List UInt8) (h : (10 : UInt8) ∉ tl) : Lib.cut (unl [] tl) [10] = (tl, [], false) := cut_none 10 tl h
/-- A row of digits' number. -/
def valD (w : List UInt8) : Nat := w.foldl (fun a c => 10 * a + (c.toNat - 48)) 0
/-- The number that a word writes, where it writes it as strconv.Itoa does and it is 2^40 at most. -/
def numD (w : List UInt8) : Option Nat := if w = Lib.decDigits (valD w) ∧ valD w ≤ 1099511627776 then some (valD w) else none
theorem valD_snoc (w : List UInt8) (c : UInt8) : valD (w ++ [c]) = 10 * valD w + (c.toNat - 48) := by simp [valD]
theorem digit_nat (k : Nat) (h : k < 10) : (UInt8.ofNat (48 + k)).toNat = 48 + k := by
  rw [UInt8.toNat_ofNat']
  exact Nat.mod_eq_of_lt (by omega)
theorem valD_dec : ∀ n : Nat, valD (Lib.decDigits n) = n := by
  intro n
  induction n using Nat.strongRecOn with
  | ind n ih =>
    rw [Lib.decDigits]
    split
    · rename_i h
      show 10 * 0 + ((UInt8.ofNat (48 + n)).toNat - 48) = n
      rw [digit_nat n h]
      omega
    · rename_i h
      rw [valD_snoc, ih (n / 10) (by omega), digit_nat (n % 10) (by omega)]
      omega
theorem dec_digit : ∀ n : Nat, ∀ c ∈ Lib.decDigits n, 48 ≤ c.toNat ∧ c.toNat ≤ 57 := by
  intro n
  induction n using Nat.strongRecOn with
  | ind n ih =>
    intro c hc
    rw [Lib.decDigits] at hc
    split at hc
    · rename_i h
      rw [List.mem_singleton.1 hc, digit_nat n h]
      omega
    · rename_i h
      rcases List.mem_append.1 hc with hc | hc
      · exact ih (n / 10) (by omega) c hc
      · rw [List.mem_singleton.1 hc, digit_nat (n % 10) (by omega)]
        omega
theorem dec_no (n : Nat) (c : UInt8) (h : c.toNat < 48) : c ∉ Lib.decDigits n := fun hm => by
  have := dec_digit n c hm
  omega
theorem numD_dec (n : Nat) (h : n ≤ 1099511627776) : numD (Lib.decDigits n) = some n := by
  unfold numD
  rw [valD_dec, if_pos ⟨rfl, h⟩]
theorem numD_some {w : List UInt8} {n : Nat} (h : numD w = some n) : Lib.decDigits n = w ∧ n ≤ 1099511627776 := by
  unfold numD at h
  split at h
  · rename_i hc
    cases h
    exact ⟨hc.1.symm, hc.2⟩
  · cases h
theorem numD_text (w : List UInt8) (n : Nat) (h : numD w = some n) : Lib.decDigits n = w := (numD_some h).1
theorem fold_ge : ∀ (w : List UInt8) (a : Nat), a ≤ w.foldl (fun a c => 10 * a + (c.toNat - 48)) a
  | [], a => Nat.le_refl a
  | c :: r, a => by
    have := fold_ge r (10 * a + (c.toNat - 48))
    rw [List.foldl_cons]
    omega
theorem parse_digits : ∀ (w : List UInt8) (a : Nat), (∀ c ∈ w, 48 ≤ c.toNat ∧ c.toNat ≤ 57) → w.foldl (fun a c => 10 * a + (c.toNat - 48)) a ≤ 1099511627776 → Lib.parseUint10 a w = .ok (w.foldl (fun a c => 10 * a + (c.toNat - 48)) a)
  | [], _, _, _ => rfl
  | c :: r, a, h, hb => by
    have h1 := h c (List.mem_cons_self ..)
    rw [List.foldl_cons] at hb ⊢
    have h2 := fold_ge r (10 * a + (c.toNat - 48))
    rw [Lib.parseUint10, if_pos h1, if_neg (by omega), if_neg (by omega), Nat.mul_comm a 10]
    exact parse_digits r _ (fun x hx => h x (List.mem_cons_of_mem _ hx)) hb
theorem dec_ne (n : Nat) : Lib.decDigits n ≠ [] := by
  rw [Lib.decDigits]
  split
  · exact fun e => by cases e
  · exact fun e => by simp at e
theorem atoi_dec (n : Nat) (h : n ≤ 1099511627776) : Lib.atoiAll (Lib.decDigits n) = .ok (n : Int) := by
  have hd := dec_digit n
  have hv := valD_dec n
  have hn := dec_ne n
  cases hw : Lib.decDigits n with
  | nil => exact absurd hw hn
  | cons c r =>
    rw [hw] at hd hv
    have h1 := hd c (List.mem_cons_self ..)
    rw [Lib.atoiAll_plain c r (by omega) (by omega)]
    have hp : Lib.parseMag (c :: r) = .ok n := by
      unfold Lib.parseMag
      rw [if_neg (fun e => by cases e), parse_digits (c :: r) 0 hd (by show valD (c :: r) ≤ _; rw [hv]; exact h)]
      show Lib.NumEnd.ok (valD (c :: r)) = _
      rw [hv]
    rw [hp]
    unfold Lib.signless
    simp
    omega
/-- What a word must be for strconv.Atoi and strconv.Itoa to agree on it. -/
theorem numD_none {w : List UInt8} {v : Int} (h : numD w = none) (h0 : 0 ≤ v) (h1 : v ≤ 1099511627776) : Lib.itoa v ≠ w := by
  intro e
  obtain ⟨n, rfl⟩ : ∃ n : Nat, v = (n : Int) := ⟨v.toNat, by omega⟩
  have e2 : Lib.itoa (n : Int) = Lib.decDigits n := by unfold Lib.itoa; rw [if_neg (by omega)]; simp
  rw [e2] at e
  have := numD_dec n (by omega)
  rw [e, h] at this
  cases this
theorem numD_atoi {w : List UInt8} {n : Nat} (h : numD w = some n) : Lib.atoiAll w = .ok (n : Int) ∧ Lib.itoa (n : Int) = w := by
  obtain ⟨e, hb⟩ := numD_some h
  refine ⟨e ▸ atoi_dec n hb, ?_⟩
  rw [← e]
  unfold Lib.itoa
  rw [if_neg (by omega)]
  simp
/-- The document's going through the first line behind its word, byte by byte: the number so far, its digits, the numbers before. -/
def scanD : List UInt8 → Nat → List UInt8 → List Nat → Option (List Nat)
  | [], n, ds, out => if ds = [] ∨ Lib.decDigits n ≠ ds then none else some (out ++ [n])
  | c :: r, n, ds, out =>
    if 48 ≤ c.toNat ∧ c.toNat ≤ 57 then (if 1099511627776 < 10 * n + (c.toNat - 48) then none else scanD r (10 * n + (c.toNat - 48)) (ds ++ [c]) out)
    else if c ≠ 32 ∨ ds = [] ∨ Lib.decDigits n ≠ ds then none else scanD r 0 [] (out ++ [n])
theorem words_front : ∀ (x s : List UInt8), (32 : UInt8) ∉ x → ∃ y ys, wordsP s = y :: ys ∧ wordsP (x ++ s) = (x ++ y) :: ys
  | [], s, _ => by
    cases hw : wordsP s with
    | nil => exact absurd hw (wordsP_ne s)
    | cons y ys => exact ⟨y, ys, rfl, hw⟩
  | c :: x, s, h => by
    simp only [List.mem_cons, not_or] at h
    obtain ⟨y, ys, h1, h2⟩ := words_front x s h.2
    refine ⟨y, ys, h1, ?_⟩
    show wordsP (c :: (x ++ s)) = _
    rw [wordsP, if_neg (fun e => h.1 e.symm), h2]
    rfl
theorem numD_not {w : List UInt8} {c : UInt8} (hc : c ∈ w) (h : ¬ (48 ≤ c.toNat ∧ c.toNat ≤ 57)) : numD w = none := by
  unfold numD
  rw [if_neg]
  intro e
  rw [e.1] at hc
  exact h (dec_digit _ c hc)
theorem valD_ge (x y : List UInt8) : valD x ≤ valD (x ++ y) := by
  unfold valD
  rw [List.foldl_append]
  exact fold_ge y _
theorem numD_big {w : List UInt8} (h : 1099511627776 < valD w) : numD w = none := by
  unfold numD
  rw [if_neg (fun e => by omega)]
theorem numD_nil : numD [] = none := by
  unfold numD
  rw [if_neg (fun e => dec_ne _ e.1.symm)]
theorem numD_if (ds : List UInt8) (hb : valD ds ≤ 1099511627776) : numD ds = if ds = [] ∨ Lib.decDigits (valD ds) ≠ ds then none else some (valD ds) := by
  by_cases h : ds = []
  · rw [if_pos (.inl h), h, numD_nil]
  · by_cases h2 : Lib.decDigits (valD ds) = ds
    · rw [if_neg (by rintro (e | e); exact h e; exact e h2)]
      unfold numD
      rw [if_pos ⟨h2.symm, hb⟩]
    · rw [if_pos (.inr h2)]
      unfold numD
      rw [if_neg (fun e => h2 e.1.symm)]
theorem scan_words : ∀ (s : List UInt8) (ds : List UInt8) (out : List Nat), (∀ c ∈ ds, 48 ≤ c.toNat ∧ c.toNat ≤ 57) → valD ds ≤ 1099511627776 → scanD s (valD ds) ds out = ((wordsP (ds ++ s)).mapM numD).map (fun l => out ++ l)
  | [], ds, out, hd, hb => by
    have h32 : (32 : UInt8) ∉ ds := fun h => by have h9 := hd _ h; have h8 : (32 : UInt8).toNat = 32 := rfl; omega
    rw [List.append_nil, words_plain ds h32, scanD, List.mapM_cons, List.mapM_nil, numD_if ds hb]
    split <;> rfl
  | c :: r, ds, out, hd, hb => by
    have h32 : (32 : UInt8) ∉ ds := fun h => by have h9 := hd _ h; have h8 : (32 : UInt8).toNat = 32 := rfl; omega
    rw [scanD]
    by_cases hc : 48 ≤ c.toNat ∧ c.toNat ≤ 57
    · rw [if_pos hc]
      have hd2 : ∀ x ∈ ds ++ [c], 48 ≤ x.toNat ∧ x.toNat ≤ 57 := by
        intro x hx
        rcases List.mem_append.1 hx with hx | hx
        · exact hd x hx
        · rw [List.mem_singleton.1 hx]; exact hc
      have h32b : (32 : UInt8) ∉ ds ++ [c] := fun h => by have h9 := hd2 _ h; have h8 : (32 : UInt8).toNat = 32 := rfl; omega
      have ea : ds ++ c :: r = (ds ++ [c]) ++ r := by simp
      rw [ea, ← valD_snoc]
      by_cases hm : 1099511627776 < valD (ds ++ [c])
      · rw [if_pos hm]
        obtain ⟨y, ys, h1, h2⟩ := words_front (ds ++ [c]) r h32b
        rw [h2, List.mapM_cons, numD_big (Nat.lt_of_lt_of_le hm (valD_ge _ _))]
        rfl
      · rw [if_neg hm]
        exact scan_words r (ds ++ [c]) out hd2 (by omega)
    · rw [if_neg hc]
      by_cases hs : c = 32
      · subst hs
        rw [words_app ds r h32, List.mapM_cons, numD_if ds hb]
        by_cases hx : ds = [] ∨ Lib.decDigits (valD ds) ≠ ds
        · rw [if_pos hx, if_pos (.inr hx)]
          rfl
        · rw [if_neg hx, if_neg (by rintro (e | e); exact e rfl; exact hx e)]
          have ih := scan_words r [] (out ++ [valD ds]) (by simp) (by show (0 : Nat) ≤ _; omega)
          have e0 : valD [] = 0 := rfl
          rw [e0, List.nil_append] at ih
          rw [ih]
          cases (wordsP r).mapM numD with
          | none => rfl
          | some l =>
            show some _ = some _
            simp
      · rw [if_pos (.inl hs)]
        obtain ⟨y, ys, h1, h2⟩ := words_front ds (c :: r) h32
        have hy : c ∈ y := by
          rw [wordsP, if_neg hs] at h1
          split at h1
          · injection h1 with h3 h4; rw [← h3]; simp
          · injection h1 with h3 h4; rw [← h3]; simp
        rw [h2, List.mapM_cons, numD_not (List.mem_append_right ds hy) hc]
        rfl
/-- The document's first line is limP's. -/
def firstD (x : List UInt8) : Option (List Nat) := if beginsL wLim x = true then (match scanD (x.drop 7) 0 [] [] with | some l => if l.length = 6 then some l else none | none => none) else none
theorem mapM_len : ∀ (ws : List (List UInt8)) (l : List Nat), ws.mapM numD = some l → l.length = ws.length := fun ws l h => (mapM_some numD ws l h).1
theorem first_lim (x : List UInt8) : firstD x = limP numD x := by
  unfold firstD limP
  have hs : scanD (x.drop 7) 0 [] [] = (wordsP (x.drop 7)).mapM numD := by
    have h := scan_words (x.drop 7) [] [] (by simp) (by show (0 : Nat) ≤ _; omega)
    have e0 : valD [] = 0 := rfl
    rw [e0, List.nil_append] at h
    rw [h]
    cases (wordsP (x.drop 7)).mapM numD <;> simp
  rw [hs]
  by_cases hp : wLim.isPrefixOf x = true
  · rw [if_pos hp]
    by_cases hl : wLim.length < x.length
    · rw [if_pos (by unfold beginsL; rw [hp]; simpa using hl)]
      cases hm : (wordsP (x.drop 7)).mapM numD with
      | none => simp
      | some l =>
        have := mapM_len _ l hm
        show (if l.length = 6 then some l else none) = _
        rw [this]
    · have e : x.drop 7 = [] := List.drop_eq_nil_of_le (by have : wLim.length = 7 := rfl; omega)
      rw [if_neg (by unfold beginsL; simp; intro _; omega), e]
      rfl
  · rw [if_neg hp, if_neg (by unfold beginsL; simp [hp])]
theorem lines_snoc_lf : ∀ s : List UInt8, linesP (s ++ [10]) = ((linesP s).1 ++ [(linesP s).2], []) := by
  intro s
  have h := unl_lines s
  have hn := lines_no s
  have e : s ++ [10] = unl ((linesP s).1 ++ [(linesP s).2]) [] := by
    conv => lhs; rw [← h]
    unfold unl
    simp
  rw [e]
  refine lines_unl _ _ ?_ (by simp)
  intro x hx
  rcases List.mem_append.1 hx with hx | hx
  · exact hn.1 x hx
  · rw [List.mem_singleton.1 hx]; exact hn.2
theorem lines_snoc (s : List UInt8) (c : UInt8) (hc : c ≠ 10) : linesP (s ++ [c]) = ((linesP s).1, (linesP s).2 ++ [c]) := by
  have h := unl_lines s
  have hn := lines_no s
  have e : s ++ [c] = unl (linesP s).1 ((linesP s).2 ++ [c]) := by
    conv => lhs; rw [← h]
    unfold unl
    simp
  rw [e]
  refine lines_unl _ _ hn.1 ?_
  intro hm
  rcases List.mem_append.1 hm with hm | hm
  · exact hn.2 hm
  · exact hc (List.mem_singleton.1 hm).symm
theorem limT_flat (dec : Nat → List UInt8) (ns : List Nat) (h : ns ≠ []) : limT dec ns = [108, 105, 109, 105, 116, 115] ++ ns.flatMap (fun n => 32 :: dec n) := by
  cases ns with
  | nil => exact absurd rfl h
  | cons n r =>
    unfold limT joinW wLim
    simp [List.flatMap_map]
/-- The bars at the head of lines, one more line read. -/
theorem barsG_step (acc x : List UInt8) (r : List (List UInt8)) : barsG acc ((124 :: x) :: r) = barsG (acc ++ 10 :: x) r := rfl
theorem barsG_stop (acc : List UInt8) (r : List (List UInt8)) (h : ∀ x, r.head? = some x → x.head? ≠ some 124) : barsG acc r = (acc, r) := by
  cases r with
  | nil => rfl
  | cons x xs =>
    cases x with
    | nil => rfl
    | cons c y =>
      have hc : c ≠ 124 := fun e => h _ rfl (by rw [e]; rfl)
      unfold barsG
      split
      · rename_i e
        simp only [List.cons.injEq] at e
        exact absurd e.1.1 hc
      · rfl
theorem barsP_none (r : List (List UInt8)) (h : ∀ x, r.head? = some x → x.head? ≠ some 124) : barsP r = none := by
  cases r with
  | nil => rfl
  | cons x xs =>
    cases x with
    | nil => rfl
    | cons c y =>
      have hc : c ≠ 124 := fun e => h _ rfl (by rw [e]; rfl)
      unfold barsP
      split
      · rename_i e
        simp only [List.cons.injEq] at e
        exact absurd e.1.1 hc
      · rfl
end Go.Proofs.YtbllodeanfdebaaGreatDoor
