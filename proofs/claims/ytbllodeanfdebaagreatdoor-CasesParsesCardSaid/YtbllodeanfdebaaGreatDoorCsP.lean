/- Cases as lines, in plain Lean: lines, bars, patterns, answers, there and back. -/
import Derived.Test.YtbllodeanfdebaaGreatDoorRows
import Derived.WalkKit
import Derived.ProofKit
import Derived.OpenShut
import Derived.ShutString
import Derived.ChangeOld
import Derived.Below
import Derived.BigQuiet
import Derived.Deep.QuietTactic
import Derived.Lib.Hide
import Derived.Deep.RegionHeld3
import Derived.Lib.SlBytesConst
import Derived.Laws.CopyOwn
import Derived.Laws.CopyRow
import Derived.Lib.Bytes
import Derived.Deep.LoopGhost
import Derived.Deep.DeepFit
import Derived.Deep.DeepMust
import Derived.WalkSpells
import Derived.WalkLawsBesides
import Derived.Laws.EntriesVeiled
import Derived.Test.YtbllodeanfdebaaGreatDoorBase
namespace Go.Proofs.YtbllodeanfdebaaGreatDoor
open Go.ChangeShapes Go.WideShapes Go.ChangeAt Go.RowKit
set_option linter.unusedVariables false
/-- A text's lines, each without its line feed, and what stands behind the last line feed. -/
def linesP : List UInt8 → List (List UInt8) × List UInt8
  | [] => ([], [])
  | c :: r => if c = 10 then ([] :: (linesP r).1, (linesP r).2) else match (linesP r).1 with
    | [] => ([], c :: (linesP r).2)
    | x :: xs => ((c :: x) :: xs, (linesP r).2)
/-- Lines, and what stands behind them, as a text. -/
def unl (ls : List (List UInt8)) (r : List UInt8) : List UInt8 := ls.flatMap (fun x => x ++ [10]) ++ r
theorem unl_cons (x : List UInt8) (ls : List (List UInt8)) (r : List UInt8) : unl (x :: ls) r = x ++ 10 :: unl ls r := by simp [unl]
theorem unl_lines : ∀ s : List UInt8, unl (linesP s).1 (linesP s).2 = s
  | [] => rfl
  | c :: r => by
    have ih := unl_lines r
    unfold linesP
    by_cases h : c = 10
    · subst h
      rw [if_pos rfl, unl_cons, ih]
      rfl
    · rw [if_neg h]
      cases hl : (linesP r).1 with
      | nil =>
        rw [hl] at ih
        simp only [unl, List.flatMap_nil, List.nil_append] at ih ⊢
        rw [ih]
      | cons x xs =>
        rw [hl, unl_cons] at ih
        show unl ((c :: x) :: xs) (linesP r).2 = c :: r
        rw [unl_cons, List.cons_append, ih]
theorem lines_no : ∀ s : List UInt8, (∀ x ∈ (linesP s).1, (10 : UInt8) ∉ x) ∧ (10 : UInt8) ∉ (linesP s).2
  | [] => by simp [linesP]
  | c :: r => by
    have ih := lines_no r
    unfold linesP
    by_cases h : c = 10
    · rw [if_pos h]
      refine ⟨fun x hx => ?_, ih.2⟩
      rcases List.mem_cons.1 hx with rfl | hx
      · simp
      · exact ih.1 x hx
    · rw [if_neg h]
      cases hl : (linesP r).1 with
      | nil => exact ⟨by simp, by simp only [List.mem_cons, not_or]; exact ⟨fun e => h e.symm, ih.2⟩⟩
      | cons y ys =>
        rw [hl] at ih
        refine ⟨fun x hx => ?_, ih.2⟩
        rcases List.mem_cons.1 hx with rfl | hx
        · simp only [List.mem_cons, not_or]
          exact ⟨fun e => h e.symm, ih.1 y (by simp)⟩
        · exact ih.1 x (by simp [hx])
theorem lines_unl : ∀ (ls : List (List UInt8)) (r : List UInt8), (∀ x ∈ ls, (10 : UInt8) ∉ x) → (10 : UInt8) ∉ r → linesP (unl ls r) = (ls, r)
  | [], r, _, hr => by
    show linesP r = ([], r)
    induction r with
    | nil => rfl
    | cons c r ih =>
      simp only [List.mem_cons, not_or] at hr
      unfold linesP
      rw [if_neg (fun e => hr.1 e.symm), ih hr.2]
  | x :: ls, r, h, hr => by
    rw [unl_cons]
    have ih := lines_unl ls r (fun y hy => h y (List.mem_cons_of_mem _ hy)) hr
    have hx := h x (List.mem_cons_self ..)
    clear h
    induction x with
    | nil =>
      show linesP (10 :: unl ls r) = _
      unfold linesP
      rw [if_pos rfl, ih]
    | cons c x ihx =>
      simp only [List.mem_cons, not_or] at hx
      show linesP (c :: (x ++ 10 :: unl ls r)) = _
      unfold linesP
      rw [if_neg (fun e => hx.1 e.symm), ihx hx.2]
/-- The bars at the head of lines: what they say, the lines behind. -/
def barsG : List UInt8 → List (List UInt8) → List UInt8 × List (List UInt8)
  | acc, (124 :: x) :: r => barsG (acc ++ 10 :: x) r
  | acc, r => (acc, r)
def barsP : List (List UInt8) → Option (List UInt8 × List (List UInt8))
  | (124 :: x) :: r => some (barsG x r)
  | _ => none
/-- A text as bars: its lines, each behind a bar. -/
def barLines : List UInt8 → List (List UInt8) := fun s => ((linesP s).1 ++ [(linesP s).2]).map (fun x => 124 :: x)
theorem barsG_back : ∀ (ys : List (List UInt8)) (acc : List UInt8) (r : List (List UInt8)), (∀ x, r.head? = some x → x.head? ≠ some 124) → barsG acc (ys.map (fun x => 124 :: x) ++ r) = (acc ++ ys.flatMap (fun x => 10 :: x), r)
  | [], acc, r, h => by
    simp only [List.map_nil, List.nil_append, List.flatMap_nil, List.append_nil]
    match r with
    | [] => rfl
    | [] :: r => rfl
    | (c :: x) :: r =>
      have hc : c ≠ 124 := fun e => h (c :: x) rfl (by simp [e])
      unfold barsG
      split
      · rename_i heq
        injection heq with h1 h2
        injection h1 with h1 _
        exact absurd h1 hc
      · rfl
  | y :: ys, acc, r, h => by
    rw [List.map_cons, List.cons_append, barsG, barsG_back ys _ r h, List.flatMap_cons]
    simp
theorem join_lines : ∀ (ls : List (List UInt8)) (r : List UInt8), unl ls r = (match ls ++ [r] with | [] => [] | x :: xs => x ++ xs.flatMap (fun x => 10 :: x))
  | [], r => by simp [unl]
  | x :: ls, r => by
    rw [unl_cons, join_lines ls r]
    cases ls with
    | nil => simp
    | cons y ls => simp
theorem barsP_back (s : List UInt8) (r : List (List UInt8)) (h : ∀ x, r.head? = some x → x.head? ≠ some 124) : barsP (barLines s ++ r) = some (s, r) := by
  have hj := join_lines (linesP s).1 (linesP s).2
  rw [unl_lines] at hj
  unfold barLines
  cases hl : (linesP s).1 ++ [(linesP s).2] with
  | nil => simp at hl
  | cons x xs =>
    rw [hl] at hj
    simp only at hj
    rw [List.map_cons, List.cons_append, barsP, barsG_back xs x r h, ← hj]
/-- What bars say, read off one string: behind each line feed a bar. -/
def barT (s : List UInt8) : List UInt8 := 124 :: s.flatMap (fun c => if c = 10 then [10, 124] else [c]) ++ [10]
theorem barT_lines : ∀ s : List UInt8, barT s = unl (barLines s) []
  | [] => by simp [barT, barLines, linesP, unl]
  | c :: r => by
    have ih := barT_lines r
    unfold barT at ih ⊢
    rw [List.flatMap_cons]
    unfold barLines at ih ⊢
    unfold linesP
    by_cases h : c = 10
    · subst h
      rw [if_pos rfl, if_pos rfl]
      simp only [List.cons_append, List.map_cons, unl_cons, List.nil_append] at ih ⊢
      rw [← ih]
    · rw [if_neg h, if_neg h]
      cases hl : (linesP r).1 with
      | nil =>
        rw [hl] at ih
        simp [unl] at ih ⊢
        exact ih
      | cons x xs =>
        rw [hl] at ih
        simp only [List.cons_append, List.map_cons, unl_cons, List.nil_append, List.cons.injEq, true_and] at ih ⊢
        rw [ih]
def beginsL (w s : List UInt8) : Bool := w.isPrefixOf s && decide (w.length < s.length)
def wAllow : List UInt8 := [97, 108, 108, 111, 119, 32]
def wOk : List UInt8 := [97, 110, 115, 119, 101, 114, 32, 111, 107, 32]
def wNo : List UInt8 := [97, 110, 115, 119, 101, 114, 32, 110, 111, 32]
def wDoc : List UInt8 := [100, 111, 99]
theorem begins_app (w s : List UInt8) (h : s ≠ []) : beginsL w (w ++ s) = true := by
  have : 0 < s.length := List.length_pos_iff.2 h
  unfold beginsL
  rw [Bool.and_eq_true, List.isPrefixOf_iff_prefix, decide_eq_true_eq]
  exact ⟨List.prefix_append _ _, by rw [List.length_append]; omega⟩
theorem begins_eq {w s : List UInt8} (h : beginsL w s = true) : s = w ++ s.drop w.length ∧ s.drop w.length ≠ [] := by
  unfold beginsL at h
  rw [Bool.and_eq_true, List.isPrefixOf_iff_prefix, decide_eq_true_eq] at h
  obtain ⟨⟨t, rfl⟩, h2⟩ := h
  rw [List.length_append] at h2
  refine ⟨by simp, ?_⟩
  rw [List.drop_left]
  intro e
  subst e
  simp at h2
/-- The patterns at the head of lines. -/
def allowP : List (List UInt8) → List (List UInt8) × List (List UInt8)
  | [] => ([], [])
  | x :: r => if beginsL wAllow x = true then (x.drop 6 :: (allowP r).1, (allowP r).2) else ([], x :: r)
theorem allowP_back : ∀ (al r : List (List UInt8)), (∀ p ∈ al, p ≠ []) → (∀ x, r.head? = some x → beginsL wAllow x = false) → allowP (al.map (fun p => wAllow ++ p) ++ r) = (al, r)
  | [], [], _, _ => rfl
  | [], x :: r, _, h => by
    show allowP (x :: r) = _
    rw [allowP, if_neg (by rw [h x rfl]; simp)]
  | p :: al, r, h, hr => by
    rw [List.map_cons, List.cons_append, allowP, if_pos (begins_app _ _ (h p (List.mem_cons_self ..))), allowP_back al r (fun q hq => h q (List.mem_cons_of_mem _ hq)) hr]
    rfl
theorem allowP_text : ∀ ls : List (List UInt8), (allowP ls).1.map (fun p => wAllow ++ p) ++ (allowP ls).2 = ls ∧ (∀ p ∈ (allowP ls).1, p ≠ [])
  | [] => ⟨rfl, fun p hp => by cases hp⟩
  | x :: r => by
    have ih := allowP_text r
    unfold allowP
    by_cases h : beginsL wAllow x = true
    · rw [if_pos h]
      obtain ⟨h1, h2⟩ := begins_eq h
      refine ⟨?_, fun p hp => ?_⟩
      · show (wAllow ++ x.drop 6) :: (_ ++ _) = x :: r
        rw [ih.1, ← show x = wAllow ++ x.drop 6 from h1]
      · rcases List.mem_cons.1 hp with rfl | hp
        · exact h2
        · exact ih.2 p hp
    · rw [if_neg h]
      exact ⟨rfl, fun p hp => by cases hp⟩
structure AnsC where
  id : List UInt8
  ok : Bool
  data : List UInt8
/-- The answers at the head of lines: them, and the lines behind; or the lines from the one at fault on. -/
def scriptP : Nat → List (List UInt8) → List AnsC → Sum (List AnsC × List (List UInt8)) (List (List UInt8))
  | 0, ls, acc => .inl (acc, ls)
  | _ + 1, [], acc => .inl (acc, [])
  | f + 1, x :: r, acc => if beginsL wOk x = true then (match barsP r with | none => .inr r | some (d, r2) => scriptP f r2 (acc ++ [⟨x.drop 10, true, d⟩]))
    else if beginsL wNo x = true then scriptP f r (acc ++ [⟨x.drop 10, false, []⟩]) else .inl (acc, x :: r)
def ansLines (a : AnsC) : List (List UInt8) := if a.ok = true then (wOk ++ a.id) :: barLines a.data else [wNo ++ a.id]
theorem ansLines_ok (id data : List UInt8) : ansLines ⟨id, true, data⟩ = (wOk ++ id) :: barLines data := rfl
theorem ansLines_no (id data : List UInt8) : ansLines ⟨id, false, data⟩ = [wNo ++ id] := rfl
theorem scriptP_back : ∀ (sc : List AnsC) (acc : List AnsC) (r : List (List UInt8)) (f : Nat), (∀ a ∈ sc, a.id ≠ [] ∧ (a.ok = false → a.data = [])) → (∀ x, r.head? = some x → beginsL wOk x = false ∧ beginsL wNo x = false ∧ x.head? ≠ some 124) → sc.length < f →
    scriptP f (sc.flatMap ansLines ++ r) acc = .inl (acc ++ sc, r)
  | [], acc, r, 0, _, _, hf => by omega
  | [], acc, [], f + 1, _, _, _ => by simp [scriptP]
  | [], acc, x :: r, f + 1, _, h, _ => by
    have := h x rfl
    show scriptP (f + 1) (x :: r) acc = _
    rw [scriptP, if_neg (by rw [this.1]; simp), if_neg (by rw [this.2.1]; simp), List.append_nil]
  | a :: sc, acc, r, 0, _, _, hf => by omega
  | a :: sc, acc, r, f + 1, h, hr, hf => by
    have ha := h a (List.mem_cons_self ..)
    have hrest := scriptP_back sc (acc ++ [a]) r f (fun b hb => h b (List.mem_cons_of_mem _ hb)) hr (by simp at hf; omega)
    have hhead : ∀ x, (sc.flatMap ansLines ++ r).head? = some x → x.head? ≠ some 124 := by
      intro x hx
      cases sc with
      | nil => exact (hr x (by simpa using hx)).2.2
      | cons b sc =>
        rw [List.flatMap_cons] at hx
        unfold ansLines at hx
        split at hx
        · simp at hx
          subst hx
          simp [wOk]
        · simp at hx
          subst hx
          simp [wNo]
    rw [List.flatMap_cons, List.append_assoc]
    obtain ⟨id, ok, data⟩ := a
    cases ok with
    | true =>
      rw [ansLines_ok, List.cons_append, scriptP, if_pos (begins_app _ _ ha.1), barsP_back data _ hhead]
      show scriptP f _ (acc ++ [⟨(wOk ++ id).drop 10, true, data⟩]) = _
      rw [show (wOk ++ id).drop 10 = id from List.drop_left (l₁ := wOk), hrest]
      simp
    | false =>
      have hd : data = [] := ha.2 rfl
      subst hd
      have h1 : beginsL wOk (wNo ++ id) = false := by
        unfold beginsL wOk wNo
        simp [List.isPrefixOf]
      rw [ansLines_no]
      show scriptP (f + 1) ((wNo ++ id) :: (sc.flatMap ansLines ++ r)) acc = _
      rw [scriptP, if_neg (by rw [h1]; simp), if_pos (begins_app _ _ ha.1), show (wNo ++ id).drop 10 = id from List.drop_left (l₁ := wNo), hrest]
      simp
theorem barsG_text : ∀ (ls : List (List UInt8)) (acc : List UInt8), ∃ ys : List (List UInt8), (barsG acc ls).1 = acc ++ ys.flatMap (fun x => 10 :: x) ∧ ls = ys.map (fun x => 124 :: x) ++ (barsG acc ls).2
  | [], acc => ⟨[], by simp [barsG]⟩
  | [] :: r, acc => ⟨[], by simp [barsG]⟩
  | (c :: x) :: r, acc => by
    by_cases h : c = 124
    · subst h
      obtain ⟨ys, h1, h2⟩ := barsG_text r (acc ++ 10 :: x)
      refine ⟨x :: ys, ?_, ?_⟩
      · rw [barsG, h1, List.flatMap_cons]
        simp
      · rw [barsG, List.map_cons, List.cons_append, ← h2]
    · refine ⟨[], ?_, ?_⟩
      · unfold barsG
        split
        · rename_i heq
          injection heq with h1 _
          injection h1 with h1 _
          exact absurd h1 h
        · simp
      · unfold barsG
        split
        · rename_i heq
          injection heq with h1 _
          injection h1 with h1 _
          exact absurd h1 h
        · simp
/-- Lines without line feeds, joined by line feeds, part into themselves. -/
theorem lines_join : ∀ (x : List UInt8) (xs : List (List UInt8)), (∀ y ∈ x :: xs, (10 : UInt8) ∉ y) → (linesP (x ++ xs.flatMap (fun x => 10 :: x))).1 ++ [(linesP (x ++ xs.flatMap (fun x => 10 :: x))).2] = x :: xs := by
  intro x xs h
  have key : ∀ (ls : List (List UInt8)) (r : List UInt8), ls ++ [r] = x :: xs → linesP (x ++ xs.flatMap (fun x => 10 :: x)) = (ls, r) := by
    intro ls r he
    have hj := join_lines ls r
    rw [he] at hj
    simp only at hj
    rw [← hj]
    refine lines_unl ls r (fun y hy => h y ?_) (h r ?_)
    · rw [← he]; exact List.mem_append_left _ hy
    · rw [← he]; simp
  obtain ⟨ls, r, he⟩ : ∃ ls r, ls ++ [r] = x :: xs := ⟨(x :: xs).dropLast, (x :: xs).getLast (by simp), List.dropLast_concat_getLast (by simp)⟩
  rw [key ls r he]
  exact he
theorem barsP_text {ls : List (List UInt8)} {s : List UInt8} {r : List (List UInt8)} (hn : ∀ x ∈ ls, (10 : UInt8) ∉ x) (h : barsP ls = some (s, r)) : ls = barLines s ++ r := by
  match ls, h with
  | [], h => cases h
  | [] :: q, h => simp [barsP] at h
  | (c :: x) :: q, h =>
    by_cases hc : c = 124
    · subst hc
      rw [barsP] at h
      obtain ⟨ys, h1, h2⟩ := barsG_text q x
      injection h with h
      rw [h] at h1 h2
      simp only at h1 h2
      unfold barLines
      rw [h1, lines_join x ys ?_, List.map_cons, List.cons_append, ← h2]
      intro y hy
      rcases List.mem_cons.1 hy with rfl | hy
      · have := hn (124 :: y) (by simp)
        simp only [List.mem_cons, not_or] at this
        exact this.2
      · have := hn (124 :: y) (by rw [h2]; exact List.mem_cons_of_mem _ (List.mem_append_left _ (List.mem_map.2 ⟨y, hy, rfl⟩)))
        simp only [List.mem_cons, not_or] at this
        exact this.2
    · unfold barsP at h
      split at h
      · rename_i heq
        injection heq with h1 _
        injection h1 with h1 _
        exact absurd h1 hc
      · cases h
theorem scriptP_text : ∀ (f : Nat) (ls : List (List UInt8)) (acc sc : List AnsC) (r : List (List UInt8)), (∀ x ∈ ls, (10 : UInt8) ∉ x) → scriptP f ls acc = .inl (sc, r) → ∃ new, sc = acc ++ new ∧ ls = new.flatMap ansLines ++ r ∧ ∀ a ∈ new, a.id ≠ [] ∧ (a.ok = false → a.data = [])
  | 0, ls, acc, sc, r, _, h => by
    injection h with h
    injection h with h1 h2
    exact ⟨[], by simp [h1], by simp [h2], by simp⟩
  | f + 1, [], acc, sc, r, _, h => by
    injection h with h
    injection h with h1 h2
    exact ⟨[], by simp [h1], by simp [h2], by simp⟩
  | f + 1, x :: q, acc, sc, r, hn, h => by
    rw [scriptP] at h
    by_cases h1 : beginsL wOk x = true
    · rw [if_pos h1] at h
      cases hb : barsP q with
      | none => rw [hb] at h; cases h
      | some p =>
        obtain ⟨d, r2⟩ := p
        rw [hb] at h
        simp only at h
        have hq := barsP_text (fun y hy => hn y (List.mem_cons_of_mem _ hy)) hb
        obtain ⟨new, e1, e2, e3⟩ := scriptP_text f r2 _ sc r (fun y hy => hn y (List.mem_cons_of_mem _ (by rw [hq]; exact List.mem_append_right _ hy))) h
        obtain ⟨b1, b2⟩ := begins_eq h1
        refine ⟨⟨x.drop 10, true, d⟩ :: new, by rw [e1]; simp, ?_, fun a ha => ?_⟩
        · rw [List.flatMap_cons, ansLines_ok, List.cons_append, List.cons_append, List.append_assoc, ← e2, ← hq, ← show x = wOk ++ x.drop 10 from b1]
        · rcases List.mem_cons.1 ha with rfl | ha
          · exact ⟨b2, by simp⟩
          · exact e3 a ha
    · rw [if_neg h1] at h
      by_cases h2 : beginsL wNo x = true
      · rw [if_pos h2] at h
        obtain ⟨new, e1, e2, e3⟩ := scriptP_text f q _ sc r (fun y hy => hn y (List.mem_cons_of_mem _ hy)) h
        obtain ⟨b1, b2⟩ := begins_eq h2
        refine ⟨⟨x.drop 10, false, []⟩ :: new, by rw [e1]; simp, ?_, fun a ha => ?_⟩
        · rw [List.flatMap_cons, ansLines_no, List.cons_append, List.nil_append, List.cons_append, ← e2, ← show x = wNo ++ x.drop 10 from b1]
        · rcases List.mem_cons.1 ha with rfl | ha
          · exact ⟨b2, fun _ => rfl⟩
          · exact e3 a ha
      · rw [if_neg h2] at h
        injection h with h
        injection h with h3 h4
        exact ⟨[], by simp [h3], by simp [h4], by simp⟩
/-- A text's words, parted at each blank. -/
def wordsP : List UInt8 → List (List UInt8)
  | [] => [[]]
  | c :: r => if c = 32 then [] :: wordsP r else match wordsP r with
    | [] => [[c]]
    | x :: xs => (c :: x) :: xs
theorem wordsP_ne : ∀ s, wordsP s ≠ []
  | [] => by simp [wordsP]
  | c :: r => by
    unfold wordsP
    split
    · simp
    · split <;> simp
def joinW : List (List UInt8) → List UInt8
  | [] => []
  | x :: xs => x ++ xs.flatMap (fun y => 32 :: y)
theorem joinW_words : ∀ s, joinW (wordsP s) = s
  | [] => rfl
  | c :: r => by
    have ih := joinW_words r
    have hn := wordsP_ne r
    unfold wordsP
    by_cases h : c = 32
    · subst h
      rw [if_pos rfl]
      cases hw : wordsP r with
      | nil => exact absurd hw hn
      | cons x xs =>
        rw [hw] at ih
        simp [joinW] at ih ⊢
        exact ih
    · rw [if_neg h]
      cases hw : wordsP r with
      | nil => exact absurd hw hn
      | cons x xs =>
        rw [hw] at ih
        simp [joinW] at ih ⊢
        exact ih
theorem words_plain : ∀ x : List UInt8, (32 : UInt8) ∉ x → wordsP x = [x]
  | [], _ => rfl
  | c :: x, h => by
    simp only [List.mem_cons, not_or] at h
    unfold wordsP
    rw [if_neg (fun e => h.1 e.symm), words_plain x h.2]
theorem words_app : ∀ (x s : List UInt8), (32 : UInt8) ∉ x → wordsP (x ++ 32 :: s) = x :: wordsP s
  | [], s, _ => by
    show wordsP (32 :: s) = _
    rw [wordsP, if_pos rfl]
  | c :: x, s, h => by
    simp only [List.mem_cons, not_or] at h
    show wordsP (c :: (x ++ 32 :: s)) = _
    rw [wordsP, if_neg (fun e => h.1 e.symm), words_app x s h.2]
theorem words_joinW : ∀ (x : List UInt8) (xs : List (List UInt8)), (∀ y ∈ x :: xs, (32 : UInt8) ∉ y) → wordsP (joinW (x :: xs)) = x :: xs
  | x, [], h => by
    show wordsP (x ++ []) = _
    rw [List.append_nil, words_plain x (h x (by simp))]
  | x, y :: ys, h => by
    show wordsP (x ++ (y :: ys).flatMap (fun y => 32 :: y)) = _
    rw [List.flatMap_cons, List.cons_append, words_app x _ (h x (by simp))]
    have := words_joinW y ys (fun z hz => h z (List.mem_cons_of_mem _ hz))
    exact congrArg (x :: ·) this
structure CaseC where
  doc : List UInt8
  lim : List Nat
  allow : List (List UInt8)
  script : List AnsC
inductive PrsC where
  | ok (c : CaseC)
  | bad (line : Nat)
  | big
section
variable (dec : Nat → List UInt8) (num : List UInt8 → Option Nat) (bigC : CaseC → Bool)
def wLim : List UInt8 := [108, 105, 109, 105, 116, 115, 32]
def limT (ns : List Nat) : List UInt8 := wLim ++ joinW (ns.map dec)
def limP (x : List UInt8) : Option (List Nat) := if wLim.isPrefixOf x = true then (if (wordsP (x.drop 7)).length = 6 then (wordsP (x.drop 7)).mapM num else none) else none
def linesC (c : CaseC) : List (List UInt8) := limT dec c.lim :: (c.allow.map (fun p => wAllow ++ p) ++ (c.script.flatMap ansLines ++ wDoc :: barLines c.doc))
def printC (c : CaseC) : List UInt8 := unl (linesC dec c) []
/-- What lines say, and what stands behind the last of them. -/
def parseL (ls : List (List UInt8)) (tl : List UInt8) : PrsC :=
  match ls with
  | [] => .bad 1
  | x :: r => match limP num x with
    | none => .bad 1
    | some lim => match scriptP ((allowP r).2.length + 1) (allowP r).2 [] with
      | .inr q => .bad (ls.length - q.length + 1)
      | .inl (sc, q) => match q with
        | [] => .bad (ls.length + 1)
        | d :: q2 => if d = wDoc then (match barsP q2 with
            | none => .bad (ls.length - q2.length + 1)
            | some (doc, q3) => if q3 ≠ [] ∨ tl ≠ [] then .bad (ls.length - q3.length + 1) else if bigC ⟨doc, lim, (allowP r).1, sc⟩ = true then .big else .ok ⟨doc, lim, (allowP r).1, sc⟩)
          else .bad (ls.length - q.length + 1)
def parseC (text : List UInt8) : PrsC := parseL num bigC (linesP text).1 (linesP text).2
/-- A case that can be printed. -/
structure GoodC (c : CaseC) : Prop where
  six : c.lim.length = 6
  nums : ∀ n ∈ c.lim, num (dec n) = some n ∧ (32 : UInt8) ∉ dec n ∧ (10 : UInt8) ∉ dec n
  allow : ∀ p ∈ c.allow, p ≠ [] ∧ (10 : UInt8) ∉ p
  script : ∀ a ∈ c.script, a.id ≠ [] ∧ (10 : UInt8) ∉ a.id ∧ (a.ok = false → a.data = [])
theorem barLines_no (s : List UInt8) : ∀ x ∈ barLines s, (10 : UInt8) ∉ x := by
  intro x hx
  unfold barLines at hx
  obtain ⟨y, hy, rfl⟩ := List.mem_map.1 hx
  have h := lines_no s
  rw [List.mem_cons, not_or]
  refine ⟨by decide, ?_⟩
  rcases List.mem_append.1 hy with hy | hy
  · exact h.1 y hy
  · rw [List.mem_singleton] at hy
    subst hy
    exact h.2
theorem joinW_no {xs : List (List UInt8)} (h : ∀ x ∈ xs, (10 : UInt8) ∉ x) : (10 : UInt8) ∉ joinW xs := by
  cases xs with
  | nil => simp [joinW]
  | cons x xs =>
    intro hm
    unfold joinW at hm
    rcases List.mem_append.1 hm with hm | hm
    · exact h x (by simp) hm
    · obtain ⟨y, hy, hm⟩ := List.mem_flatMap.1 hm
      rcases List.mem_cons.1 hm with hm | hm
      · exact absurd hm (by decide)
      · exact h y (by simp [hy]) hm
theorem mapM_back : ∀ ns : List Nat, (∀ n ∈ ns, num (dec n) = some n) → (ns.map dec).mapM num = some ns
  | [], _ => rfl
  | n :: ns, h => by
    rw [List.map_cons, List.mapM_cons, h n (by simp), mapM_back ns (fun m hm => h m (by simp [hm]))]
    rfl
theorem limP_back (ns : List Nat) (h6 : ns.length = 6) (h : ∀ n ∈ ns, num (dec n) = some n ∧ (32 : UInt8) ∉ dec n ∧ (10 : UInt8) ∉ dec n) : limP num (limT dec ns) = some ns := by
  unfold limP limT
  have hp : wLim.isPrefixOf (wLim ++ joinW (ns.map dec)) = true := List.isPrefixOf_iff_prefix.2 (List.prefix_append _ _)
  rw [if_pos hp, show (wLim ++ joinW (ns.map dec)).drop 7 = joinW (ns.map dec) from List.drop_left (l₁ := wLim)]
  have hw : wordsP (joinW (ns.map dec)) = ns.map dec := by
    cases ns with
    | nil => simp at h6
    | cons n ns =>
      rw [List.map_cons]
      refine words_joinW _ _ (fun y hy => ?_)
      rw [← List.map_cons] at hy
      obtain ⟨m, hm, rfl⟩ := List.mem_map.1 hy
      exact (h m hm).2.1
  rw [hw, if_pos (by simpa using h6), mapM_back dec num ns (fun n hn => (h n hn).1)]
theorem parse_print (c : CaseC) (h : GoodC dec num c) (hb : bigC c = false) : parseC num bigC (printC dec c) = .ok c := by
  unfold parseC printC
  have hno : ∀ x ∈ linesC dec c, (10 : UInt8) ∉ x := by
    intro x hx
    unfold linesC at hx
    rcases List.mem_cons.1 hx with rfl | hx
    · unfold limT
      intro hm
      rcases List.mem_append.1 hm with hm | hm
      · exact absurd hm (by decide)
      · refine joinW_no (fun y hy => ?_) hm
        obtain ⟨n, hn, rfl⟩ := List.mem_map.1 hy
        exact (h.nums n hn).2.2
    · rcases List.mem_append.1 hx with hx | hx
      · obtain ⟨p, hp, rfl⟩ := List.mem_map.1 hx
        intro hm
        rcases List.mem_append.1 hm with hm | hm
        · exact absurd hm (by decide)
        · exact (h.allow p hp).2 hm
      · rcases List.mem_append.1 hx with hx | hx
        · obtain ⟨a, ha, hx⟩ := List.mem_flatMap.1 hx
          obtain ⟨id, ok, data⟩ := a
          have hid := (h.script _ ha).2.1
          cases ok with
          | true =>
            rw [ansLines_ok] at hx
            rcases List.mem_cons.1 hx with rfl | hx
            · intro hm
              rcases List.mem_append.1 hm with hm | hm
              · exact absurd hm (by decide)
              · exact hid hm
            · exact barLines_no data x hx
          | false =>
            rw [ansLines_no, List.mem_singleton] at hx
            subst hx
            intro hm
            rcases List.mem_append.1 hm with hm | hm
            · exact absurd hm (by decide)
            · exact hid hm
        · rcases List.mem_cons.1 hx with rfl | hx
          · decide
          · exact barLines_no c.doc x hx
  rw [lines_unl _ [] hno (by simp)]
  unfold parseL linesC
  simp only
  rw [limP_back dec num c.lim h.six h.nums]
  simp only
  have hdoc : ∀ x, (wDoc :: barLines c.doc).head? = some x → beginsL wOk x = false ∧ beginsL wNo x = false ∧ x.head? ≠ some 124 := by
    intro x hx
    simp at hx
    subst hx
    exact ⟨by decide, by decide, by decide⟩
  have hal : ∀ x, (c.script.flatMap ansLines ++ wDoc :: barLines c.doc).head? = some x → beginsL wAllow x = false := by
    intro x hx
    cases hs : c.script with
    | nil =>
      rw [hs] at hx
      simp at hx
      subst hx
      decide
    | cons a sc =>
      rw [hs, List.flatMap_cons] at hx
      obtain ⟨id, ok, data⟩ := a
      cases ok with
      | true =>
        rw [ansLines_ok] at hx
        simp at hx
        subst hx
        simp [beginsL, wAllow, wOk, List.isPrefixOf]
      | false =>
        rw [ansLines_no] at hx
        simp at hx
        subst hx
        simp [beginsL, wAllow, wNo, List.isPrefixOf]
  rw [allowP_back c.allow _ (fun p hp => (h.allow p hp).1) hal]
  simp only
  have hlen : ∀ sc : List AnsC, sc.length ≤ (sc.flatMap ansLines).length := by
    intro sc
    induction sc with
    | nil => simp
    | cons a sc ih =>
      rw [List.flatMap_cons, List.length_append, List.length_cons]
      have : 1 ≤ (ansLines a).length := by unfold ansLines; split <;> simp
      omega
  rw [scriptP_back c.script [] _ _ (fun a ha => ⟨(h.script a ha).1, (h.script a ha).2.2⟩) hdoc (by rw [List.length_append]; have := hlen c.script; omega)]
  simp only [if_pos]
  have hbk := barsP_back c.doc [] (fun x hx => by cases hx)
  rw [List.append_nil] at hbk
  rw [hbk]
  simp [hb]
end
section
variable (dec : Nat → List UInt8) (num : List UInt8 → Option Nat) (bigC : CaseC → Bool)
theorem mapM_text (h : ∀ w n, num w = some n → dec n = w) : ∀ (ws : List (List UInt8)) (ns : List Nat), ws.mapM num = some ns → ns.map dec = ws
  | [], ns, e => by
    cases e
    rfl
  | w :: ws, ns, e => by
    rw [List.mapM_cons] at e
    cases hw : num w with
    | none => rw [hw] at e; cases e
    | some n =>
      cases hm : ws.mapM num with
      | none => rw [hw, hm] at e; cases e
      | some ms =>
        rw [hw, hm] at e
        cases e
        rw [List.map_cons, h w n hw, mapM_text h ws ms hm]
theorem limP_text (h : ∀ w n, num w = some n → dec n = w) {x : List UInt8} {ns : List Nat} (e : limP num x = some ns) : limT dec ns = x := by
  unfold limP at e
  split at e
  · rename_i hp
    split at e
    · have := mapM_text dec num h _ _ e
      obtain ⟨t, rfl⟩ := List.isPrefixOf_iff_prefix.1 hp
      unfold limT
      rw [this, joinW_words, show (wLim ++ t).drop 7 = t from List.drop_left (l₁ := wLim)]
    · cases e
  · cases e
theorem print_parse (h : ∀ w n, num w = some n → dec n = w) {text : List UInt8} {c : CaseC} (e : parseC num bigC text = .ok c) : printC dec c = text := by
  unfold parseC at e
  have hu := unl_lines text
  have hn := (lines_no text).1
  cases hl : (linesP text).1 with
  | nil => rw [hl] at e; unfold parseL at e; cases e
  | cons x r =>
    rw [hl] at e hn hu
    unfold parseL at e
    simp only at e
    cases hx : limP num x with
    | none => rw [hx] at e; cases e
    | some lim =>
      rw [hx] at e
      simp only at e
      have hal := allowP_text r
      have hnr : ∀ y ∈ (allowP r).2, (10 : UInt8) ∉ y := fun y hy => hn y (List.mem_cons_of_mem _ (by rw [← hal.1]; exact List.mem_append_right _ hy))
      cases hs : scriptP ((allowP r).2.length + 1) (allowP r).2 [] with
      | inr q => rw [hs] at e; cases e
      | inl p =>
        obtain ⟨sc, q⟩ := p
        rw [hs] at e
        simp only at e
        obtain ⟨new, e1, e2, _⟩ := scriptP_text _ _ _ _ _ hnr hs
        rw [List.nil_append] at e1
        subst e1
        cases q with
        | nil => cases e
        | cons d q2 =>
          simp only at e
          split at e
          · rename_i hd
            subst hd
            cases hb : barsP q2 with
            | none => rw [hb] at e; cases e
            | some p =>
              obtain ⟨doc, q3⟩ := p
              rw [hb] at e
              simp only at e
              split at e
              · cases e
              · rename_i h3
                split at e
                · cases e
                · injection e with e
                  subst e
                  have h3' : q3 = [] ∧ (linesP text).2 = [] := ⟨Classical.byContradiction fun h => h3 (.inl h), Classical.byContradiction fun h => h3 (.inr h)⟩
                  have hq := barsP_text (fun y hy => hnr y (by rw [e2]; exact List.mem_append_right _ (List.mem_cons_of_mem _ hy))) hb
                  rw [h3'.1, List.append_nil] at hq
                  rw [h3'.2] at hu
                  unfold printC linesC
                  rw [limP_text dec num h hx, ← hq, ← e2, hal.1, hu]
          · cases e
end
section
variable (dec : Nat → List UInt8) (num : List UInt8 → Option Nat) (bigC : CaseC → Bool)
theorem drop_no {x : List UInt8} (h : (10 : UInt8) ∉ x) (k : Nat) : (10 : UInt8) ∉ x.drop k := fun hm => h (List.mem_of_mem_drop hm)
theorem allowP_no : ∀ ls : List (List UInt8), (∀ x ∈ ls, (10 : UInt8) ∉ x) → ∀ p ∈ (allowP ls).1, (10 : UInt8) ∉ p
  | [], _ => fun p hp => by cases hp
  | x :: r, h => by
    have ih := allowP_no r (fun y hy => h y (List.mem_cons_of_mem _ hy))
    unfold allowP
    split
    · intro p hp
      rcases List.mem_cons.1 hp with rfl | hp
      · exact fun hm => h x (by simp) (List.mem_of_mem_drop hm)
      · exact ih p hp
    · intro p hp
      cases hp
theorem ans_no {new : List AnsC} {r ls : List (List UInt8)} (he : ls = new.flatMap ansLines ++ r) (h : ∀ x ∈ ls, (10 : UInt8) ∉ x) : ∀ a ∈ new, (10 : UInt8) ∉ a.id := by
  intro a ha hm
  obtain ⟨id, ok, data⟩ := a
  have key : ∀ y, y ∈ ansLines ⟨id, ok, data⟩ → (10 : UInt8) ∉ y := fun y hy => h y (by rw [he]; exact List.mem_append_left _ (List.mem_flatMap.2 ⟨_, ha, hy⟩))
  cases ok with
  | true => exact key (wOk ++ id) (by rw [ansLines_ok]; simp) (List.mem_append_right _ hm)
  | false => exact key (wNo ++ id) (by rw [ansLines_no]; simp) (List.mem_append_right _ hm)
/-- What is read can be printed. -/
structure ReadC (c : CaseC) : Prop where
  six : c.lim.length = 6
  nums : ∀ n ∈ c.lim, ∃ w, num w = some n
  allow : ∀ p ∈ c.allow, p ≠ [] ∧ (10 : UInt8) ∉ p
  script : ∀ a ∈ c.script, a.id ≠ [] ∧ (10 : UInt8) ∉ a.id ∧ (a.ok = false → a.data = [])
  big : bigC c = false
theorem mapM_some : ∀ (ws : List (List UInt8)) (ns : List Nat), ws.mapM num = some ns → ns.length = ws.length ∧ ∀ n ∈ ns, ∃ w, num w = some n
  | [], ns, e => by
    cases e
    exact ⟨rfl, fun n hn => by cases hn⟩
  | w :: ws, ns, e => by
    rw [List.mapM_cons] at e
    cases hw : num w with
    | none => rw [hw] at e; cases e
    | some n =>
      cases hm : ws.mapM num with
      | none => rw [hw, hm] at e; cases e
      | some ms =>
        rw [hw, hm] at e
        cases e
        obtain ⟨h1, h2⟩ := mapM_some ws ms hm
        refine ⟨by simp [h1], fun k hk => ?_⟩
        rcases List.mem_cons.1 hk with rfl | hk
        · exact ⟨w, hw⟩
        · exact h2 k hk
theorem parse_good {text : List UInt8} {c : CaseC} (e : parseC num bigC text = .ok c) : ReadC num bigC c := by
  unfold parseC at e
  have hn := (lines_no text).1
  cases hl : (linesP text).1 with
  | nil => rw [hl] at e; unfold parseL at e; cases e
  | cons x r =>
    rw [hl] at e hn
    unfold parseL at e
    simp only at e
    cases hx : limP num x with
    | none => rw [hx] at e; cases e
    | some lim =>
      rw [hx] at e
      simp only at e
      have hnr0 : ∀ y ∈ r, (10 : UInt8) ∉ y := fun y hy => hn y (List.mem_cons_of_mem _ hy)
      have hal := allowP_text r
      have hnr : ∀ y ∈ (allowP r).2, (10 : UInt8) ∉ y := fun y hy => hnr0 y (by rw [← hal.1]; exact List.mem_append_right _ hy)
      cases hs : scriptP ((allowP r).2.length + 1) (allowP r).2 [] with
      | inr q => rw [hs] at e; cases e
      | inl p =>
        obtain ⟨sc, q⟩ := p
        rw [hs] at e
        simp only at e
        obtain ⟨new, e1, e2, e3⟩ := scriptP_text _ _ _ _ _ hnr hs
        rw [List.nil_append] at e1
        subst e1
        have hids := ans_no e2 hnr
        cases q with
        | nil => cases e
        | cons d q2 =>
          simp only at e
          split at e
          · cases hb : barsP q2 with
            | none => rw [hb] at e; cases e
            | some p =>
              obtain ⟨doc, q3⟩ := p
              rw [hb] at e
              simp only at e
              split at e
              · cases e
              · split at e
                · cases e
                · rename_i hbig
                  injection e with e
                  subst e
                  have hlim : lim.length = 6 ∧ ∀ n ∈ lim, ∃ w, num w = some n := by
                    unfold limP at hx
                    split at hx
                    · split at hx
                      · rename_i h6
                        obtain ⟨h1, h2⟩ := mapM_some num _ _ hx
                        exact ⟨by rw [h1, h6], h2⟩
                      · cases hx
                    · cases hx
                  exact ⟨hlim.1, hlim.2, fun p hp => ⟨hal.2 p hp, allowP_no r hnr0 p hp⟩, fun a ha => ⟨(e3 a ha).1, hids a ha, (e3 a ha).2⟩, by simpa using hbig⟩
          · cases e
end
end Go.Proofs.YtbllodeanfdebaaGreatDoor
