/- Texts of ours, joined: Tag10, TagQ, XrA, TagS, TagC, Tag12, Build2, Tag13. -/
import Derived.Test.YtmclngahdklfkaaGreatDoorRows
import Derived.WalkKit
import Derived.ProofKit
import Derived.OpenShut
import Derived.ShutString
import Derived.ChangeOld
import Derived.Below
import Derived.BigQuiet
import Derived.Deep.QuietTactic
import Derived.Lib.Hide
import Derived.Deep.RegionHeld3
import Derived.Lib.SlBytesConst
import Derived.Laws.CopyOwn
import Derived.Laws.CopyRow
import Derived.Lib.Bytes
import Derived.Deep.LoopGhost
import Derived.Deep.DeepFit
import Derived.Deep.DeepMust
import Derived.WalkSpells
import Derived.WalkLawsBesides
import Derived.Laws.EntriesVeiled
import Derived.Laws.Rows
import Derived.Test.YtmclngahdklfkaaGreatDoorT1
import Derived.Test.YtmclngahdklfkaaGreatDoorT2
import Derived.Test.YtmclngahdklfkaaGreatDoorT4
import Derived.Test.YtmclngahdklfkaaGreatDoorT6
import Derived.Test.YtmclngahdklfkaaGreatDoorT5
import Derived.Test.YtmclngahdklfkaaGreatDoorT8
import Derived.Test.YtmclngahdklfkaaGreatDoorT10
import Derived.Test.YtmclngahdklfkaaGreatDoorT9
import Derived.Laws.RangeString
import Derived.Laws.Runes
import Derived.LoopN
import Derived.Laws.RangeAny
import Derived.Maps.OwnOps
import Derived.Maps.OwnSet
import Derived.Maps.Views
import Derived.Test.YtmclngahdklfkaaGreatDoorT7
import Derived.Shelf.Strings.Builder1
/- narthexref10: Same; the page's example -/
namespace Go.Proofs.YtmclngahdklfkaaGreatDoor
open Go.ChangeShapes Go.WideShapes Go.ChangeAt Go.RowKit
set_option linter.unusedVariables false
theorem PRd.drewN {w : World} {B n cap k : Nat} {A : Option Addr} {ps : List PairL} (h : PRd w B A n cap ps) : PRd (w.drewN k) B A n cap ps := h.keep (w' := w.drewN k) fun _ _ => rfl
set_option maxRecDepth 100000 in
set_option maxHeartbeats 4000000 in
theorem same10_c (A1 A2 : Option Addr) (n c1 c2 : Nat) (ps : List PairL) (w : World) (h1 : PRd w w.heap.size A1 n c1 ps) (h2 : PRd w w.heap.size A2 n c2 ps) (hm : n ≤ 1000000) :
    Calls Tryz.prog 39 #[.slice A1 n c1, .slice A2 n c2] w fun e w' => e = .returned (.bool true) ∧ Below w.heap.size w w' := by
  have HB := Lib.hid (And.intro h1 h2)
  clear h1 h2
  go_enter Tryz.func39, Tryz.ntmps39
  go_wp2
  go_loopg [5] (n) (fun g i wr => ∃ t : Nat, t ≤ n ∧ Hid (g + t = n) ∧ i = .int .i64 (t : Int) ∧ Hid (Below w.heap.size w wr))
  case atStart => exact ⟨0, Nat.zero_le _, Lib.hid (by omega), rfl, Lib.hid (Below.refl _ _)⟩
  case round =>
    obtain ⟨t, ht, hg, rfl, HN⟩ := hrel
    have ht0 : (0 : Int) ≤ (t : Int) := by omega
    have htb : (t : Int) ≤ 1000000 := by omega
    by_cases htn : t < n
    · have htni : (t : Int) < (n : Int) := by omega
      obtain ⟨b, o, p, rfl, hb, hp, hc0, hc1⟩ := (HB.out.1.below HN.out).cell htn
      obtain ⟨b2, o2, p2, rfl, hb2, hp2, hd0, hd1⟩ := (HB.out.2.below HN.out).cell htn
      obtain rfl : p = p2 := by rw [hp] at hp2; exact Option.some.inj hp2
      obtain ⟨pn, pv⟩ := p
      simp only at hc0 hc1 hd0 hd1
      clear hp hp2 hb hb2
      go_wp2
      go_quiet (fail)
      have HN2 := Lib.hid (below_drewN' (n := nq) HN.out)
      clear hc0 hc1 hd0 hd1
      generalize wr.drewN nq = wq at *
      go_wp2
      go_roundg (n - (t + 1))
      case measure => have := hg.out; omega
      case rel => exact ⟨t + 1, by omega, Lib.hid (by omega), by go_num, HN2⟩
    · have htni : ¬ (t : Int) < (n : Int) := by omega
      go_wp2
      go_ret
      exact ⟨rfl, HN.out⟩
end Go.Proofs.YtmclngahdklfkaaGreatDoor
/- What is written of a tag is read as itself; what is read can be written (plain). -/
namespace Go.Proofs.YtmclngahdklfkaaGreatDoor
open Go.ChangeShapes Go.WideShapes Go.ChangeAt Go.RowKit
set_option linter.unusedVariables false
/-- A name, of at most 1024 bytes. -/
def nameOk (s : List UInt8) : Bool := wholeB isStart isMore s && decide (s.length ≤ 1024)
/-- A value that may stand between quotes. -/
def valOk (v : List UInt8) : Bool := decide ((refsOut v).2 = 0) && (v.all fun c => decide (c ≠ 60)) && (v.all fun c => decide (c ≠ 34))
def pairT (p : PairL) : List UInt8 := 32 :: (p.1 ++ 61 :: 34 :: (p.2 ++ [34]))
def pairsT (ps : List PairL) : List UInt8 := ps.flatMap pairT
def endT (e : Bool) : List UInt8 := if e then [47, 62] else [62]
/-- A tag, as it is written. -/
def tagT (t : TagL) : List UInt8 := 60 :: (t.name ++ (pairsT t.pairs ++ endT t.empty))
theorem name_whole {s : List UInt8} (h : nameOk s = true) : s ≠ [] ∧ endL isStart isMore s.length s = s.length ∧ s.length ≤ 1024 := by
  unfold nameOk wholeB at h
  simp only [Bool.and_eq_true, decide_eq_true_eq, Bool.not_eq_true'] at h
  obtain ⟨⟨h1, h2⟩, h3⟩ := h
  refine ⟨fun e => ?_, h2, h3⟩
  rw [e] at h1
  cases h1
theorem val_parts {v : List UInt8} (h : valOk v = true) : (refsOut v).2 = 0 ∧ (∀ c ∈ v, c ≠ 60) ∧ ∀ c ∈ v, c ≠ 34 := by
  unfold valOk at h
  simp only [Bool.and_eq_true, decide_eq_true_eq, List.all_eq_true] at h
  exact ⟨h.1.1, h.1.2, h.2⟩
theorem name_head {s : List UInt8} (h : nameOk s = true) : ∃ c t, s = c :: t ∧ isBl c = false ∧ c ≠ 47 ∧ c ≠ 62 := by
  obtain ⟨hne, he, _⟩ := name_whole h
  cases s with
  | nil => exact absurd rfl hne
  | cons c t =>
    have key : ∀ d : UInt8, d.toNat < 128 → isStart (d.toNat : Int) = false → c ≠ d := by
      intro d hd hs e
      subst e
      rw [endL_stop _ _ c t hd hs] at he
      simp at he
    refine ⟨c, t, rfl, ?_, key 47 (by decide) (by decide +kernel), key 62 (by decide) (by decide +kernel)⟩
    have tn : ∀ d : UInt8, c ≠ d → c.toNat ≠ d.toNat := fun d hd e => hd (UInt8.toNat_inj.1 e)
    have a1 : c.toNat ≠ 32 := tn 32 (key 32 (by decide) (by decide +kernel))
    have a2 : c.toNat ≠ 9 := tn 9 (key 9 (by decide) (by decide +kernel))
    have a3 : c.toNat ≠ 13 := tn 13 (key 13 (by decide) (by decide +kernel))
    have a4 : c.toNat ≠ 10 := tn 10 (key 10 (by decide) (by decide +kernel))
    cases hb : isBl c with
    | false => rfl
    | true =>
      exfalso
      unfold isBl isBlank at hb
      simp only [Bool.or_eq_true, beq_iff_eq] at hb
      omega
theorem name_mid (a s r : List UInt8) (c : UInt8) (h : nameOk s = true) (hc : c.toNat < 128) (hm : isMore (c.toNat : Int) = false) : nameOut (a ++ (s ++ c :: r)) a.length = (s, a.length + s.length, 0) := by
  obtain ⟨hne, he, hl⟩ := name_whole h
  unfold nameOut
  have hk : endL isStart isMore (a ++ (s ++ c :: r)).length ((a ++ (s ++ c :: r)).drop a.length) = s.length := by
    rw [List.drop_left]
    exact endL_app isMore (c :: r) (endL_stop _ _ c r hc hm) s.length _ s _ hne (Nat.le_refl _) he (by simp only [List.length_append]; omega)
  simp only [hk]
  have h0 : s.length ≠ 0 := fun e => hne (List.length_eq_zero_iff.1 e)
  rw [if_neg h0, if_neg (by omega), List.drop_left, List.take_left]
theorem tq_quoted (a v r : List UInt8) (h : ∀ c ∈ v, c ≠ 34) : quotedAt (a ++ 34 :: (v ++ 34 :: r)) (a.length : Nat) = (v, a.length + v.length + 2, 0) := by
  unfold quotedAt
  rw [if_neg (by simp only [List.length_append, List.length_cons]; omega), Int.toNat_natCast]
  unfold quotedOut
  rw [show (a ++ 34 :: (v ++ 34 :: r))[a.length]? = some 34 by simp]
  simp only [true_or, if_true]
  unfold quotedQ
  have hd : (a ++ 34 :: (v ++ 34 :: r)).drop (a.length + 1) = v ++ 34 :: r := by
    rw [← List.drop_drop, List.drop_left]; rfl
  rw [hd, ix_eq 34 (v ++ 34 :: r) v.length (by simp) (fun i hi e => by
    rw [List.getElem?_append_left hi] at e
    exact h _ (List.mem_of_getElem? e) rfl), if_neg (by omega), Int.toNat_natCast, List.take_left]
theorem strict_mid (a v r : List UInt8) (h : valOk v = true) : strictAt 60 (a ++ 34 :: (v ++ 34 :: r)) (a.length : Nat) = (v, a.length + v.length + 2, 0) := by
  obtain ⟨h1, h2, h3⟩ := val_parts h
  unfold strictAt
  rw [tq_quoted a v r h3]
  simp only
  rw [if_neg (by simp), if_neg (by rw [ix_eq_none 60 v (fun i e => h2 _ (List.mem_of_getElem? e) rfl)]; omega), if_neg (by simp [h1])]
theorem tq_blank (a : List UInt8) (c : UInt8) (r : List UInt8) (h : isBl c = false) : blankTo (a ++ c :: r) a.length = a.length := blankTo_no _ _ c (by simp) h
theorem tq_blank1 (a : List UInt8) (c : UInt8) (r : List UInt8) (h : isBl c = false) : blankTo (a ++ 32 :: c :: r) a.length = a.length + 1 := by
  rw [blankTo_yes _ _ 32 (by simp) (by decide +kernel)]
  exact blankTo_no (a ++ 32 :: c :: r) (a.length + 1) c (by rw [List.getElem?_append_right (by omega), show a.length + 1 - a.length = 1 by omega]; rfl) h
theorem pair_mid (a r : List UInt8) (p : PairL) (hn : nameOk p.1 = true) (hv : valOk p.2 = true) :
    pairOut (a ++ (p.1 ++ 61 :: 34 :: (p.2 ++ 34 :: r))) a.length = (p, a.length + p.1.length + p.2.length + 3, 0) := by
  have hnm := name_mid a p.1 (34 :: (p.2 ++ 34 :: r)) 61 hn (by decide) (by decide +kernel)
  have hl : a ++ (p.1 ++ 61 :: 34 :: (p.2 ++ 34 :: r)) = (a ++ p.1) ++ 61 :: 34 :: (p.2 ++ 34 :: r) := by simp
  have hbl : (a ++ p.1).length = a.length + p.1.length := List.length_append
  rw [hl] at hnm ⊢
  generalize a ++ p.1 = b at *
  unfold pairOut
  rw [hnm]
  simp only [if_true]
  rw [← hbl, tq_blank b 61 _ (by decide +kernel), if_pos (by simp)]
  have hl2 : b ++ 61 :: 34 :: (p.2 ++ 34 :: r) = (b ++ [61]) ++ 34 :: (p.2 ++ 34 :: r) := by simp
  have hb2 : blankTo (b ++ 61 :: 34 :: (p.2 ++ 34 :: r)) (b.length + 1) = (b ++ [61]).length := by
    rw [hl2, show b.length + 1 = (b ++ [61]).length by simp]
    exact tq_blank (b ++ [61]) 34 _ (by decide +kernel)
  rw [hb2, hl2, strict_mid (b ++ [61]) p.2 r hv]
  simp only [Prod.mk.injEq, and_true, true_and, List.length_append, List.length_cons, List.length_nil]
  omega
def okPs : List PairL → List PairL → Bool
  | _, [] => true
  | acc, p :: ps => nameOk p.1 && valOk p.2 && !hasN acc p.1 && okPs (acc ++ [p]) ps
theorem pairs_mid (c : UInt8) (r : List UInt8) (hc : isBl c = false) : ∀ (ps acc : List PairL) (a : List UInt8) (f : Nat), okPs acc ps = true → ps.length < f →
    pairsR (a ++ (pairsT ps ++ c :: r)) f acc a.length = (acc ++ ps, a.length + (pairsT ps).length, 0)
  | [], acc, a, f + 1, _, _ => by
    show pairsR (a ++ c :: r) (f + 1) acc a.length = _
    rw [pairs_stop (by rw [tq_blank a c r hc]; unfold stopB; simp), List.append_nil]
    rfl
  | p :: ps, acc, a, f + 1, hk, hf => by
    simp only [okPs, Bool.and_eq_true, Bool.not_eq_true'] at hk
    obtain ⟨⟨⟨h1, h2⟩, h3⟩, h4⟩ := hk
    obtain ⟨c0, t0, e0, g0, g1, g2⟩ := name_head h1
    have hl : a ++ (pairsT (p :: ps) ++ c :: r) = (a ++ [32]) ++ (p.1 ++ 61 :: 34 :: (p.2 ++ 34 :: (pairsT ps ++ c :: r))) := by
      simp [pairsT, pairT, List.flatMap_cons]
    have hl2 : a ++ (pairsT (p :: ps) ++ c :: r) = (a ++ pairT p) ++ (pairsT ps ++ c :: r) := by
      simp [pairsT, List.flatMap_cons]
    have hl3 : a ++ (pairsT (p :: ps) ++ c :: r) = a ++ 32 :: c0 :: (t0 ++ 61 :: 34 :: (p.2 ++ 34 :: (pairsT ps ++ c :: r))) := by
      rw [hl, e0]; simp
    have hb : blankTo (a ++ (pairsT (p :: ps) ++ c :: r)) a.length = a.length + 1 := by rw [hl3]; exact tq_blank1 a c0 _ g0
    have hpl : (pairT p).length = p.1.length + p.2.length + 4 := by simp [pairT]; omega
    have hp : pairOut (a ++ (pairsT (p :: ps) ++ c :: r)) (a.length + 1) = (p, (a ++ pairT p).length, 0) := by
      have := pair_mid (a ++ [32]) (pairsT ps ++ c :: r) p h1 h2
      rw [hl, show a.length + 1 = (a ++ [32]).length by simp, this]
      simp only [Prod.mk.injEq, and_true, true_and, List.length_append, List.length_cons, List.length_nil, hpl]
      omega
    have hs : stopB (a ++ (pairsT (p :: ps) ++ c :: r)) (a.length + 1) a.length = false := by
      unfold stopB
      rw [hl3, List.getElem?_append_right (by omega), show a.length + 1 - a.length = 1 by omega]
      simp [g1, g2]
    rw [pairs_more (by rw [hb]; exact hs) (by rw [hb, hp]) (by rw [hb, hp]; exact h3), hb, hp]
    simp only
    have ih := pairs_mid c r hc ps (acc ++ [p]) (a ++ pairT p) f h4 (by simp at hf; omega)
    rw [hl2, ih]
    simp only [Prod.mk.injEq, and_true, List.append_assoc, List.cons_append, List.nil_append, true_and, List.length_append, pairsT, List.flatMap_cons]
    omega
theorem tail_head (ps : List PairL) (e : Bool) : ∃ c r, pairsT ps ++ endT e = c :: r ∧ c.toNat < 128 ∧ isMore (c.toNat : Int) = false := by
  cases ps with
  | nil => cases e with
    | true => exact ⟨47, [62], rfl, by decide, by decide +kernel⟩
    | false => exact ⟨62, [], rfl, by decide, by decide +kernel⟩
  | cons p ps => exact ⟨32, _, rfl, by decide, by decide +kernel⟩
theorem pairsT_len : ∀ ps : List PairL, ps.length ≤ (pairsT ps).length
  | [] => Nat.zero_le _
  | p :: ps => by
    have := pairsT_len ps
    simp only [pairsT, List.flatMap_cons, List.length_append, List.length_cons, pairT] at this ⊢
    omega
/-- What is written of a tag is read as itself. -/
theorem tag_back (t : TagL) (hn : nameOk t.name = true) (hp : okPs [] t.pairs = true) : openOut (tagT t) 0 = (t, (tagT t).length, 0) := by
  obtain ⟨s, ps, e⟩ := t
  simp only at hn hp
  obtain ⟨c, r, hc, hc1, hc2⟩ := tail_head ps e
  have h1 : nameOut (tagT ⟨s, ps, e⟩) 1 = (s, 1 + s.length, 0) := by
    have := name_mid [60] s r c hn hc1 hc2
    rw [← hc] at this
    exact this
  have h2 : pairsOut (tagT ⟨s, ps, e⟩) (1 + s.length) = (ps, 1 + s.length + (pairsT ps).length, 0) := by
    have hl : (1 + s.length) = ((60 :: s : List UInt8)).length := by simp; omega
    have hlen := pairsT_len ps
    unfold pairsOut
    cases e with
    | true =>
      have := pairs_mid 47 [62] (by decide +kernel) ps [] (60 :: s) ((tagT ⟨s, ps, true⟩).length + 1) hp (by simp [tagT]; omega)
      rw [hl]
      exact this
    | false =>
      have := pairs_mid 62 [] (by decide +kernel) ps [] (60 :: s) ((tagT ⟨s, ps, false⟩).length + 1) hp (by simp [tagT]; omega)
      rw [hl]
      exact this
  have hd : (tagT ⟨s, ps, e⟩).drop (1 + s.length + (pairsT ps).length) = endT e := by
    have hl : 1 + s.length + (pairsT ps).length = (60 :: (s ++ pairsT ps)).length := by simp; omega
    rw [hl, show tagT ⟨s, ps, e⟩ = (60 :: (s ++ pairsT ps)) ++ endT e by simp [tagT], List.drop_left]
  have hb : blankTo (tagT ⟨s, ps, e⟩) (1 + s.length + (pairsT ps).length) = 1 + s.length + (pairsT ps).length := by
    unfold blankTo
    rw [hd]
    cases e <;> rfl
  unfold openOut
  rw [if_pos (by rfl), show 0 + 1 = 1 by rfl, h1]
  simp only
  rw [if_neg (by simp), h2]
  simp only
  rw [if_neg (by simp), hb, hd]
  cases e with
  | true => rw [if_pos (by rfl)]; simp [tagT, endT]; omega
  | false => rw [if_neg (by decide), if_pos (by rfl)]; simp [tagT, endT]; omega
end Go.Proofs.YtmclngahdklfkaaGreatDoor
/- strings.IndexRune of two ASCII bytes at a wide rune. -/
namespace Go.Proofs.YtmclngahdklfkaaGreatDoor
open Go.ChangeShapes Go.WideShapes Go.ChangeAt Go.RowKit
set_option linter.unusedVariables false
theorem enc_cases (r : Int) (h : 128 ≤ r) : (∃ a b : UInt8, Utf8.encode r = ⟨#[a, b]⟩ ∧ 128 ≤ b.toNat) ∨ (∃ a b c : UInt8, Utf8.encode r = ⟨#[a, b, c]⟩) ∨ ∃ a b c d : UInt8, Utf8.encode r = ⟨#[a, b, c, d]⟩ := by
  unfold Utf8.encode
  have hc : 128 ≤ (if Utf8.valid r = true then r.toNat else Utf8.runeError) := by
    split
    · omega
    · decide
  simp only
  generalize (if Utf8.valid r = true then r.toNat else Utf8.runeError) = c at *
  rw [if_neg (by omega)]
  split
  · refine Or.inl ⟨_, _, rfl, ?_⟩
    simp
    omega
  · split
    · exact Or.inr (Or.inl ⟨_, _, _, rfl⟩)
    · exact Or.inr (Or.inr ⟨_, _, _, _, rfl⟩)
set_option maxRecDepth 100000 in
set_option maxHeartbeats 1000000 in
theorem indexRune_wide (r : Int) (w : World) (h0 : 128 ≤ r) (h1 : r ≤ 1114111) :
    Calls Tryz.prog 106 #[.string ⟨#[60, 34]⟩, .int .i32 r] w fun e w' => e = .returned (.int .i64 (-1)) ∧ Below w.heap.size w w' := by
  have H1 := Lib.hid h1
  clear h1
  by_cases hE : r = 65533
  · subst hE
    clear H1 h0
    go_enter Tryz.func106, Tryz.ntmps106
    go_wp2_with fail
    go_loopg [5, 6] 2 (fun g _ _ wx => ∃ i : Nat, i + g = 2 ∧ wx = w.iter ⟨#[60, 34]⟩ i)
    case atStart => exact ⟨0, by omega, rfl⟩
    case round =>
      obtain ⟨i, hig, rfl⟩ := hrel
      cases gk with
      | zero =>
        obtain rfl : i = 2 := by omega
        have hnx := fun ty => run_next_end (P := Tryz.prog) w ⟨#[60, 34]⟩ 2 ty (by decide)
        go_wp2
        go_ret
        exact ⟨rfl, (Below.refl _ _).alloc (Nat.le_refl _) _⟩
      | succ g =>
        have hi : i = 0 ∨ i = 1 := by omega
        rcases hi with rfl | rfl
        · have hnx := fun ty => run_next_ascii (P := Tryz.prog) w ⟨#[60, 34]⟩ 0 ty (by decide) (by decide)
          rw [show ((⟨#[60, 34]⟩ : ByteArray)[0]'(by decide)).toNat = 60 by rfl] at hnx
          go_wp2
          go_roundg g
          case measure => omega
          case rel => exact ⟨1, by omega, rfl⟩
        · have hnx := fun ty => run_next_ascii (P := Tryz.prog) w ⟨#[60, 34]⟩ 1 ty (by decide) (by decide)
          rw [show ((⟨#[60, 34]⟩ : ByteArray)[1]'(by decide)).toNat = 34 by rfl] at hnx
          go_wp2
          go_roundg g
          case measure => omega
          case rel => exact ⟨2, by omega, rfl⟩
  · have hE' : (r == 65533) = false := by simp [hE]
    have HE := Lib.hid hE
    clear hE
    have cV := fun W => Tryz.utf8_ValidRune r W
    cases hv : Lib.validRune r
    · go_enter Tryz.func106, Tryz.ntmps106
      go_wp2_with fail
      refine (cV _).mono ?_
      rintro e w1 ⟨rfl, rfl⟩
      rw [hv]
      go_wp2
      go_ret
      exact ⟨rfl, Below.refl _ _⟩
    · go_enter Tryz.func106, Tryz.ntmps106
      go_wp2_with fail
      refine (cV _).mono ?_
      rintro e w1 ⟨rfl, rfl⟩
      rw [hv]
      have kv := fun W => run_convert_int_string (P := Tryz.prog) W 21 9 .i32 r (by kernel_rfl) (by kernel_rfl)
      have he := enc_cases r h0
      generalize Utf8.encode r = z at *
      clear h0 H1 HE hE' cV hv
      rcases he with ⟨a, b, rfl, hb⟩ | ⟨a, b, c, rfl⟩ | ⟨a, b, c, d, rfl⟩
      · have h34 : ¬ (34 : Int) = (b.toNat : Int) := by omega
        have h34' : ((34 : Int) == (b.toNat : Int)) = false := by simp; omega
        have hz : (⟨#[a, b]⟩ : ByteArray).size = 2 := rfl
        go_wp2_with fail
        go_step3
        go_wp2_with fail
        refine wp_loop_rounds 1 ?_
        rw [rounds_succ]
        go_wp2_with fail
        go_step3
        have i1 : ((⟨#[60, 34]⟩ : ByteArray)[1]'(by decide)).toNat = 34 := rfl
        have i2 : ((⟨#[a, b]⟩ : ByteArray)[1]'(by show 1 < 2; omega)).toNat = b.toNat := rfl
        go_wp2_with fail
        go_quiet (fail)
        have hB : Below w1.heap.size w1 (w1.drewN nq) := below_drewN' (Below.refl _ _)
        generalize w1.drewN nq = wq at *
        go_wp2_with fail
        go_quiet ((go_at_call 143; exact Calls.quiet_of_same (Tryz.strings_IndexByte _ _ _)))
        have hB2 : Below w1.heap.size w1 (wq.drewN nq) := below_drewN' hB
        generalize wq.drewN nq = wr at *
        go_wp2_with fail
        simp only [Exit.inBlock, Exit.then, Exit.noGoto_ret]
        go_ret
        exact ⟨rfl, hB2⟩
      · go_wp2_with fail
        go_step3
        go_wp2_with fail
        refine wp_loop_rounds 1 ?_
        rw [rounds_succ]
        go_wp2_with fail
        rw [Exit.noGoto_ret]
        go_ret
        exact ⟨rfl, Below.refl _ _⟩
      · go_wp2_with fail
        go_step3
        go_wp2_with fail
        refine wp_loop_rounds 1 ?_
        rw [rounds_succ]
        go_wp2_with fail
        rw [Exit.noGoto_ret]
        go_ret
        exact ⟨rfl, Below.refl _ _⟩
end Go.Proofs.YtmclngahdklfkaaGreatDoor
/- What strings.IndexAny answers of two signs; no condition. -/
namespace Go.Proofs.YtmclngahdklfkaaGreatDoor
open Go.ChangeShapes Go.WideShapes Go.ChangeAt Go.RowKit
set_option linter.unusedVariables false
theorem get_plus (s : ByteArray) (p : Nat) (h : p < s.size) : s.get! p = s[p]'h := by
  simp [ByteArray.get!, getElem!_pos, h]
  rfl
/-- The bytes that a character takes which begins with a byte from 128 up are all so. -/
theorem decode_span (s : ByteArray) (pos : Nat) (h : pos < s.size) (ha : 128 ≤ (s[pos]'h).toNat) :
    pos + (Utf8.decode s pos).2 ≤ s.size ∧ ∀ j, pos ≤ j → j < pos + (Utf8.decode s pos).2 → ∃ hj : j < s.size, 128 ≤ (s[j]'hj).toNat := by
  have h0 : (s.get! (pos + 0)).toNat = (s[pos]'h).toNat := by rw [Nat.add_zero, get_plus s pos h]
  have hc : ∀ k, (pos + k < s.size && (s.get! (pos + k)).toNat / 64 == 2) = true → ∃ hj : pos + k < s.size, 128 ≤ (s[pos + k]'hj).toNat := by
    intro k hk
    simp only [Bool.and_eq_true, decide_eq_true_eq, beq_iff_eq] at hk
    refine ⟨hk.1, ?_⟩
    have := hk.2
    rw [get_plus s _ hk.1] at this
    omega
  have one : pos + 1 ≤ s.size ∧ ∀ j, pos ≤ j → j < pos + 1 → ∃ hj : j < s.size, 128 ≤ (s[j]'hj).toNat := by
    refine ⟨h, fun j h1 h2 => ?_⟩
    obtain rfl : j = pos := by omega
    exact ⟨h, ha⟩
  unfold Utf8.decode
  simp only
  rw [if_neg (by rw [h0]; omega)]
  split
  · rename_i h1
    rw [Bool.and_eq_true] at h1
    obtain ⟨a1, b1⟩ := hc 1 h1.2
    split
    · refine ⟨by simp only; omega, fun j h2 h3 => ?_⟩
      simp only at h3
      rcases (by omega : j = pos ∨ j = pos + 1) with rfl | rfl
      · exact ⟨h, ha⟩
      · exact ⟨a1, b1⟩
    · exact one
  · split
    · rename_i h1
      simp only [Bool.and_eq_true] at h1
      obtain ⟨a1, b1⟩ := hc 1 (by simpa using h1.1.2)
      obtain ⟨a2, b2⟩ := hc 2 (by simpa using h1.2)
      split
      · refine ⟨by simp only; omega, fun j h2 h3 => ?_⟩
        simp only at h3
        rcases (by omega : j = pos ∨ j = pos + 1 ∨ j = pos + 2) with rfl | rfl | rfl
        · exact ⟨h, ha⟩
        · exact ⟨a1, b1⟩
        · exact ⟨a2, b2⟩
      · exact one
    · split
      · rename_i h1
        simp only [Bool.and_eq_true] at h1
        obtain ⟨a1, b1⟩ := hc 1 (by simpa using h1.1.1.2)
        obtain ⟨a2, b2⟩ := hc 2 (by simpa using h1.1.2)
        obtain ⟨a3, b3⟩ := hc 3 (by simpa using h1.2)
        split
        · refine ⟨by simp only; omega, fun j h2 h3 => ?_⟩
          simp only at h3
          rcases (by omega : j = pos ∨ j = pos + 1 ∨ j = pos + 2 ∨ j = pos + 3) with rfl | rfl | rfl | rfl
          · exact ⟨h, ha⟩
          · exact ⟨a1, b1⟩
          · exact ⟨a2, b2⟩
          · exact ⟨a3, b3⟩
        · exact one
      · exact one
theorem valid_le (c : Nat) (h : Utf8.valid (c : Int) = true) : c ≤ 1114111 := by
  unfold Utf8.valid at h
  simp only [Bool.or_eq_true, Bool.and_eq_true, decide_eq_true_eq] at h
  omega
theorem decode_uni (s : ByteArray) (pos : Nat) : (Utf8.decode s pos).1 ≤ 1114111 := by
  unfold Utf8.decode
  simp only
  split
  · simp only; omega
  · split
    · split
      · simp only; omega
      · simp [Utf8.runeError]
    · split
      · split
        · rename_i h
          simp only [Bool.and_eq_true] at h
          exact valid_le _ h.2
        · simp [Utf8.runeError]
      · split
        · split
          · rename_i h
            simp only [Bool.and_eq_true] at h
            exact valid_le _ h.2
          · simp [Utf8.runeError]
        · simp [Utf8.runeError]
/-- '<' and '"'. -/
def quL : List UInt8 := [60, 34]
theorem qu_no (b : UInt8) (h : 128 ≤ b.toNat) : quL.contains b = false := by
  have h1 : b ≠ 60 := fun e => by subst e; simp at h
  have h2 : b ≠ 34 := fun e => by subst e; simp at h
  simp [quL, h1, h2]
theorem noAny_more {s : List UInt8} {i m : Nat} (h : Lib.NoAny s quL i) (hm : ∀ j b, i ≤ j → j < m → s[j]? = some b → 128 ≤ b.toNat) : Lib.NoAny s quL m := fun j b hj hb => by
  by_cases e : j < i
  · exact h j b e hb
  · exact qu_no b (hm j b (by omega) hj hb)
theorem containsAny_all (s : List UInt8) : Lib.containsAny s quL = (s.any fun c => quL.contains c) := by
  rw [Bool.eq_iff_iff]
  unfold Lib.containsAny
  rw [decide_eq_true_eq, List.any_eq_true]
  constructor
  · intro h
    false_or_by_contra
    rename_i hn
    have : Lib.NoAny s quL s.length := fun j b _ hb => by
      cases hc : quL.contains b with
      | false => rfl
      | true => exact absurd ⟨b, List.mem_of_getElem? hb, hc⟩ hn
    rw [Lib.indexAny_none this] at h
    omega
  · rintro ⟨c, hc, hq⟩
    false_or_by_contra
    rename_i hn
    have key : ∀ s : List UInt8, c ∈ s → 0 ≤ Lib.indexAny s quL := by
      intro s
      induction s with
      | nil => intro h; cases h
      | cons b l ih =>
        intro h
        unfold Lib.indexAny
        split
        · omega
        · rename_i hb
          have hcl : c ∈ l := by
            cases h with
            | head => exact absurd hq hb
            | tail _ h => exact h
          have := ih hcl
          split
          · rename_i h2; have := eq_of_beq h2; omega
          · omega
    exact hn (key s hc)
theorem lt_of_it {W : World} {b : Nat} {o : Obj} (h : W.heap[b]? = some o) : b < W.heap.size := (Array.getElem?_eq_some_iff.1 h).1
/-- A string's iterator in block b, at whatever world. -/
def itW (W : World) (b : Nat) (s : ByteArray) (p : Nat) : World := { W with heap := W.heap.setIfInBounds b (.stringIter s p) }
theorem itW_at {W : World} {b p q : Nat} {s : ByteArray} (h : W.heap[b]? = some (.stringIter s q)) : (itW W b s p).heap[b]? = some (.stringIter s p) := by
  have hb : b < W.heap.size := (Array.getElem?_eq_some_iff.1 h).1
  simp [itW, hb]
theorem itW_below {W : World} {b p : Nat} {s : ByteArray} : Below b W (itW W b s p) := ⟨rfl, rfl, rfl, by simp [itW], fun k hk => by simp [itW, show ¬ b = k by omega]⟩
theorem run_next_at (W : World) (b : Nat) (s : ByteArray) (pos : Nat) (ty : TypeId) (hb : W.heap[b]? = some (.stringIter s pos)) (h : pos < s.size) :
    (Instr.next (.pointer (some ⟨b, 0, none⟩)) true ty).run Tryz.prog W = .ok (.tuple #[.bool true, .int .i64 pos, .int .i32 (Utf8.decode s pos).1]) (itW W b s (pos + (Utf8.decode s pos).2)) := by
  simp only [Instr.next, getObj, setObj, Sem.run_bind, Sem.run, hb, Result.andThen, h, if_true]
  simp [goInt, itW]
theorem run_next_end_at (W : World) (b : Nat) (s : ByteArray) (pos : Nat) (ty : TypeId) (hb : W.heap[b]? = some (.stringIter s pos)) (h : ¬ pos < s.size) :
    (Instr.next (.pointer (some ⟨b, 0, none⟩)) true ty).run Tryz.prog W = .ok (.tuple #[.bool false]) W := by
  simp [Instr.next, getObj, Sem.run, hb, h]
set_option maxRecDepth 100000 in
set_option maxHeartbeats 4000000 in
theorem indexAny_q (s : List UInt8) (w : World) (hm : s.length ≤ 1000000) :
    Calls Tryz.prog 76 #[.string ⟨s.toArray⟩, .string ⟨#[60, 34]⟩] w fun e w' => e = .returned (.int .i64 (Lib.indexAny s quL)) ∧ Below w.heap.size w w' := by
  have hss : (⟨s.toArray⟩ : ByteArray).size = s.length := by simp [ByteArray.size]
  by_cases h8 : s.length ≤ 8
  · have h8z : decide ((8 : Int) < (s.length : Int)) = false := decide_eq_false (by omega)
    have HSS := Lib.hid hss
    have HG : Hid (∀ (i : Nat) (hi : i < s.length), (⟨s.toArray⟩ : ByteArray)[i]'(by rw [HSS.out]; exact hi) = s[i]) := Lib.hid fun i hi => rfl
    have CW : Hid (∀ (r : Int) W, 128 ≤ r → r ≤ 1114111 → Calls Tryz.prog 106 #[.string ⟨#[60, 34]⟩, .int .i32 r] W fun e w' => e = .returned (.int .i64 (-1)) ∧ Below W.heap.size W w') := Lib.hid fun r W h0 h1 => indexRune_wide r W h0 h1
    have CA : Hid (∀ (r : Int) W, 0 ≤ r → r < 128 → Calls Tryz.prog 106 #[.string ⟨#[60, 34]⟩, .int .i32 r] W fun e w' => e = .returned (.int .i64 (Lib.indexByte [60, 34] r.toNat.toUInt8)) ∧ w' = W) := Lib.hid fun r W h0 h1 => Tryz.strings_IndexRune_ascii ⟨#[60, 34]⟩ r W h0 h1
    have CS := Lib.hid fun (W : World) => Tryz.strings_shouldUseASCIISet (s.length : Int) W
    clear hss
    go_enter Tryz.func76, Tryz.ntmps76
    go_wp2_with fail
    refine (CS.out _).mono ?_
    rintro e w1 ⟨rfl, hw⟩
    rw [hw, h8z]
    clear hw w1
    go_wp2
    go_loopg [9, 10] s.length (fun g _ _ wx => ∃ i : Nat, i ≤ s.length ∧ Hid (g = s.length - i) ∧ wx.heap[w.heap.size]? = some (.stringIter ⟨s.toArray⟩ i) ∧ Hid (Below w.heap.size w wx) ∧ Hid (Lib.NoAny s quL i))
    case atStart => exact ⟨0, Nat.zero_le _, Lib.hid rfl, World.iter_heap _ _ _, Lib.hid ((Below.refl _ _).alloc (Nat.le_refl _) _), Lib.hid (Lib.NoAny.zero _ _)⟩
    case round =>
      obtain ⟨i, hi, hg, hit, HB, HN⟩ := hrel
      by_cases hil : i < s.length
      · have hnx := fun ty => run_next_at wr w.heap.size ⟨s.toArray⟩ i ty hit (by rw [HSS.out]; exact hil)
        have hc : (⟨s.toArray⟩ : ByteArray)[i]'(by rw [HSS.out]; exact hil) = s[i] := HG.out i hil
        have hx : s[i]? = some s[i] := List.getElem?_eq_getElem hil
        have hsp := decode_span ⟨s.toArray⟩ i (by rw [HSS.out]; exact hil)
        have hdh := decode_high ⟨s.toArray⟩ i (by rw [HSS.out]; exact hil)
        have hda := decode_ascii ⟨s.toArray⟩ i (by rw [HSS.out]; exact hil)
        have hdl := decode_uni ⟨s.toArray⟩ i
        rw [hc] at hsp hdh hda
        generalize s[i] = c at *
        by_cases hc128 : c.toNat < 128
        · rw [hda hc128] at hnx
          have CA1 := Lib.hid fun W => CA.out (c.toNat : Int) W (by omega) (by omega)
          have hct : ((c.toNat : Int)).toNat.toUInt8 = c := by simp
          rw [hct] at CA1
          have HX := Lib.hid hx
          have hat := itW_at (p := i + 1) hit
          have HB1 := Lib.hid (HB.out.trans (itW_below (W := wr) (b := w.heap.size) (p := i + 1) (s := ⟨s.toArray⟩)))
          clear hsp hdh hda hx hit hdl hc hct
          simp only at hnx
          generalize itW wr w.heap.size ⟨s.toArray⟩ (i + 1) = wi at *
          cases hq : quL.contains c with
          | true =>
            have HI := Lib.hid (Lib.indexAny_hit HN.out HX.out hq)
            have hge : (0 : Int) ≤ Lib.indexByte [60, 34] c := by
              have h1 : c = 60 ∨ c = 34 := by simpa [quL] using hq
              rcases h1 with rfl | rfl <;> decide
            go_wp2_with fail
            refine (CA1.out _).mono ?_
            rintro e w2 ⟨rfl, rfl⟩
            go_wp2
            go_ret
            rw [HI.out]
            exact ⟨rfl, HB1.out⟩
          | false =>
            have HN2 := Lib.hid (HN.out.succ HX.out hq)
            have hlt : ¬ ((0 : Int) ≤ Lib.indexByte [60, 34] c) := by
              have := Lib.contains_iff_indexByte quL c
              rw [hq] at this
              exact of_decide_eq_false this.symm
            go_wp2_with fail
            refine (CA1.out _).mono ?_
            rintro e w2 ⟨rfl, rfl⟩
            go_wp2
            go_roundg (s.length - (i + 1))
            case measure => have := hg.out; omega
            case rel => exact ⟨i + 1, by omega, Lib.hid rfl, hat, HB1, HN2⟩
        · have hc1 : 128 ≤ c.toNat := by omega
          have hs1 := hsp hc1
          have hd1 := hdh hc1
          generalize Utf8.decode ⟨s.toArray⟩ i = dc at *
          obtain ⟨r, m⟩ := dc
          simp only at hs1 hd1 hnx hdl
          have hr : r ≤ 1114111 := hdl
          have CW1 := Lib.hid fun W => CW.out (r : Int) W (by omega) (by omega)
          have HN2 : Hid (Lib.NoAny s quL (i + m)) := Lib.hid (noAny_more HN.out fun j b h1 h2 h3 => by
            obtain ⟨hj, hb⟩ := hs1.2 j h1 h2
            have hj' : j < s.length := by rw [← HSS.out]; exact hj
            rw [HG.out j hj'] at hb
            rw [List.getElem?_eq_getElem hj'] at h3
            cases h3
            exact hb)
          have him : i + m ≤ s.length := by rw [← HSS.out]; exact hs1.1
          have hat := itW_at (p := i + m) hit
          have HB1 := Lib.hid (HB.out.trans (itW_below (W := wr) (b := w.heap.size) (p := i + m) (s := ⟨s.toArray⟩)))
          have hm1 := hd1.2
          clear hsp hdh hda hx hit hdl hc hs1 hd1
          generalize itW wr w.heap.size ⟨s.toArray⟩ (i + m) = wi at *
          go_wp2_with fail
          refine (CW1.out _).mono ?_
          rintro e w2 ⟨rfl, hb2⟩
          have hat2 : w2.heap[w.heap.size]? = some (.stringIter ⟨s.toArray⟩ (i + m)) := (hb2.block _ (lt_of_it hat)).trans hat
          have HB2 := Lib.hid (HB1.out.trans (hb2.mono HB1.out.size))
          clear hat hb2
          go_wp2
          go_roundg (s.length - (i + m))
          case measure => have := hg.out; omega
          case rel => exact ⟨i + m, him, Lib.hid rfl, hat2, HB2, HN2⟩
      · have hnx := fun ty => run_next_end_at wr w.heap.size ⟨s.toArray⟩ i ty hit (by rw [HSS.out]; exact hil)
        have HI : Hid (Lib.indexAny s quL = -1) := Lib.hid (Lib.indexAny_none (by have := HN.out; rwa [show i = s.length by omega] at this))
        go_wp2
        go_ret
        rw [HI.out]
        exact ⟨rfl, HB.out⟩
  · have h2 : 2 ≤ (⟨#[60, 34]⟩ : ByteArray).size := by decide
    refine (Tryz.strings_IndexAny_long (zero_of_info (show (Tryz.prog.info? _).map (fun i => (i.zero, i.size)) = some (some (.agg (Array.replicate 256 (.bool false))), 256) by kernel_rfl)).1 ⟨s.toArray⟩ ⟨#[60, 34]⟩ w h2 (by rw [hss]; omega) (by rw [hss]; omega) (by decide) ?_).mono ?_
    · intro j b hb
      match j with
      | 0 => simp at hb; subst hb; decide
      | 1 => simp at hb; subst hb; decide
      | j + 2 => simp at hb
    · rintro e w' ⟨rfl, rfl⟩
      exact ⟨rfl, ((Below.refl _ _).alloc (Nat.le_refl _) _).alloc (by simp) _⟩
set_option maxRecDepth 100000 in
set_option maxHeartbeats 4000000 in
theorem containsAny_q (s : List UInt8) (w : World) (hm : s.length ≤ 1000000) :
    Calls Tryz.prog 44 #[.string ⟨s.toArray⟩, .string ⟨#[60, 34]⟩] w fun e w' => e = .returned (.bool (Lib.containsAny s quL)) ∧ Below w.heap.size w w' := by
  have C1 := Lib.hid (indexAny_q s w hm)
  have HC : Hid (Lib.containsAny s quL = decide (0 ≤ Lib.indexAny s quL)) := Lib.hid rfl
  rw [HC.out]
  clear hm
  generalize Lib.indexAny s quL = k at *
  go_enter Tryz.func44, Tryz.ntmps44
  go_wp2_with fail
  refine C1.out.mono ?_
  rintro e w1 ⟨rfl, hb⟩
  have B1 := Lib.hid hb
  clear hb
  go_wp2
  go_ret
  exact ⟨rfl, B1.out⟩
end Go.Proofs.YtmclngahdklfkaaGreatDoor
/- The plain law of what a tag's writing asks. -/
namespace Go.Proofs.YtmclngahdklfkaaGreatDoor
open Go.ChangeShapes Go.WideShapes Go.ChangeAt Go.RowKit
set_option linter.unusedVariables false
def nameB (s : List UInt8) : Bool := wholeB isStart isMore s
/-- Does a row of attributes hold what can be written? -/
def formP (ps : List PairL) : Bool := ps.all fun p => nameB p.1 && valOk p.2
def longP (ps : List PairL) : Bool := ps.any fun p => decide (1024 < p.1.length)
/-- How many names there are, behind others. -/
def countR : List PairL → List PairL → Nat
  | _, [] => 0
  | acc, p :: t => (if hasN acc p.1 then 0 else 1) + countR (acc ++ [p]) t
def dupR : List PairL → List PairL → Bool
  | _, [] => false
  | acc, p :: t => hasN acc p.1 || dupR (acc ++ [p]) t
theorem countR_snoc : ∀ (ps acc : List PairL) (p : PairL), countR acc (ps ++ [p]) = countR acc ps + if hasN (acc ++ ps) p.1 then 0 else 1
  | [], acc, p => by simp [countR]
  | q :: t, acc, p => by
    have := countR_snoc t (acc ++ [q]) p
    simp only [List.cons_append, countR, this, List.append_assoc, List.nil_append]
    omega
theorem dupR_snoc : ∀ (ps acc : List PairL) (p : PairL), dupR acc (ps ++ [p]) = (dupR acc ps || hasN (acc ++ ps) p.1)
  | [], acc, p => by simp [dupR]
  | q :: t, acc, p => by
    have := dupR_snoc t (acc ++ [q]) p
    simp only [List.cons_append, dupR, this, List.append_assoc, List.nil_append, Bool.or_assoc]
theorem countR_le : ∀ (ps acc : List PairL), countR acc ps ≤ ps.length
  | [], acc => Nat.le_refl _
  | p :: t, acc => by
    have := countR_le t (acc ++ [p])
    simp only [countR, List.length_cons]
    split <;> omega
theorem count_dup' : ∀ (ps acc : List PairL), dupR acc ps = true ↔ countR acc ps < ps.length
  | [], acc => by simp [dupR, countR]
  | p :: t, acc => by
    have h := count_dup' t (acc ++ [p])
    have hl := countR_le t (acc ++ [p])
    have e : countR acc (p :: t) = (if hasN acc p.1 = true then 0 else 1) + countR (acc ++ [p]) t := rfl
    have e2 : dupR acc (p :: t) = (hasN acc p.1 || dupR (acc ++ [p]) t) := rfl
    rw [e, e2, List.length_cons, Bool.or_eq_true, h]
    by_cases hh : hasN acc p.1 = true
    · rw [if_pos hh]; constructor
      · intro _; omega
      · intro _; exact Or.inl hh
    · rw [if_neg hh]; constructor
      · rintro (h1 | h1)
        · exact absurd h1 hh
        · omega
      · intro h1; exact Or.inr (by omega)
theorem count_dup (ps acc : List PairL) : dupR acc ps = decide (countR acc ps < ps.length) := by
  rw [Bool.eq_iff_iff, decide_eq_true_eq]; exact count_dup' ps acc
/-- The error of what is to be written. -/
def checkT (s : List UInt8) (ps : List PairL) : Nat := if (nameB s && formP ps) = true then (if (decide (1024 < s.length) || longP ps) = true then 11 else if dupR [] ps = true then 12 else 0) else 7
theorem okPs_eq : ∀ (ps acc : List PairL), okPs acc ps = (formP ps && !longP ps && !dupR acc ps)
  | [], acc => rfl
  | p :: t, acc => by
    have h := okPs_eq t (acc ++ [p])
    simp only [okPs, h, formP, longP, dupR, List.all_cons, List.any_cons, nameOk, nameB]
    have e : decide (p.1.length ≤ 1024) = !decide (1024 < p.1.length) := by simp [← Nat.not_lt]
    rw [e]
    cases wholeB isStart isMore p.1 <;> cases valOk p.2 <;> cases decide (1024 < p.1.length) <;> cases hasN acc p.1 <;> simp
theorem checkT_ok {s : List UInt8} {ps : List PairL} (h : checkT s ps = 0) : nameOk s = true ∧ okPs [] ps = true := by
  unfold checkT at h
  split at h
  · rename_i h1
    split at h
    · cases h
    · rename_i h2
      split at h
      · cases h
      · rename_i h3
        rw [okPs_eq]
        simp only [Bool.and_eq_true, Bool.or_eq_true, decide_eq_true_eq, not_or, Bool.not_eq_true] at h1 h2 h3
        refine ⟨by unfold nameOk; simp only [Bool.and_eq_true, decide_eq_true_eq]; exact ⟨h1.1, by omega⟩, ?_⟩
        rw [h1.2, h2.2, h3]
        rfl
  · cases h
theorem valOk_eq (v : List UInt8) : valOk v = (decide ((refsOut v).2 = 0) && !Lib.containsAny v quL) := by
  rw [containsAny_all]
  unfold valOk
  rw [Bool.and_assoc]
  congr 1
  induction v with
  | nil => rfl
  | cons c t ih =>
    simp only [List.all_cons, List.any_cons, Bool.not_or, ← ih]
    have : quL.contains c = (decide (c = 60) || decide (c = 34)) := by
      simp only [quL, List.contains_cons, List.contains_nil, Bool.or_false]
      rfl
    rw [this, Bool.not_or]
    rw [show decide (c ≠ 60) = !decide (c = 60) by simp, show decide (c ≠ 34) = !decide (c = 34) by simp]
    cases decide (c = 60) <;> cases decide (c = 34) <;> simp
/-- The names so far, in a map that counts them. -/
def Cnt (w : World) (b : Nat) (acc : List PairL) : Prop := ∃ D : DataW Unit, w.ownsMap Tryz.prog 9 (Go.plainElem Tryz.prog 3) b acc.length D ∧ Go.Maps.size D = countR [] acc ∧ (∀ s : List UInt8, Go.Maps.has D (.string s) = hasN acc s) ∧
  ∀ s : List UInt8, ∃ c : Nat, c ≤ acc.length ∧ D.atKey (.string s) (.lit (.int .i64 0)) = .lit (.int .i64 (c : Int))
theorem Cnt.start (w : World) : Cnt (w.alloc (.map #[] 0)) w.heap.size [] := ⟨.map [], World.ownsMap_made _ _ _ _, rfl, fun s => rfl, fun s => ⟨0, Nat.le_refl _, rfl⟩⟩
theorem cnt_snoc {D : DataW Unit} {acc : List PairL} {p : PairL} {c : Nat} (ht : Go.Maps.Tidy D) (hs : Go.Maps.size D = countR [] acc) (hh : ∀ s : List UInt8, Go.Maps.has D (.string s) = hasN acc s)
    (hc : ∀ s : List UInt8, ∃ c : Nat, c ≤ acc.length ∧ D.atKey (.string s) (.lit (.int .i64 0)) = .lit (.int .i64 (c : Int))) (hcl : c ≤ acc.length) :
    Go.Maps.size (D.put (.string p.1) (.lit (.int .i64 ((c : Int) + 1)))) = countR [] (acc ++ [p]) ∧ (∀ s : List UInt8, Go.Maps.has (D.put (.string p.1) (.lit (.int .i64 ((c : Int) + 1)))) (.string s) = hasN (acc ++ [p]) s) ∧
    ∀ s : List UInt8, ∃ c' : Nat, c' ≤ (acc ++ [p]).length ∧ (D.put (.string p.1) (.lit (.int .i64 ((c : Int) + 1)))).atKey (.string s) (.lit (.int .i64 0)) = .lit (.int .i64 (c' : Int)) := by
  refine ⟨?_, fun s => ?_, fun s => ?_⟩
  · rw [Go.Maps.size_put ht, countR_snoc, hh, hs, List.nil_append]
    split <;> rfl
  · rw [hasN_snoc]
    by_cases e : p.1 = s
    · subst e
      rw [Go.Maps.has_put_same ht.isMap (by simp [WideAt.IsKeyLit])]
      simp
    · rw [Go.Maps.has_put_other (by simpa using fun h => e h.symm), hh]
      simp [e]
  · by_cases e : p.1 = s
    · subst e
      exact ⟨c + 1, by simp; omega, by rw [Go.Maps.atKey_put_same ht.isMap (by simp [WideAt.IsKeyLit])]; simp⟩
    · obtain ⟨c', h1, h2⟩ := hc s
      exact ⟨c', by simp; omega, by rw [Go.Maps.atKey_put_other (by simpa using fun h => e h.symm), h2]⟩
end Go.Proofs.YtmclngahdklfkaaGreatDoor
/- What tag.check answers. -/
namespace Go.Proofs.YtmclngahdklfkaaGreatDoor
open Go.ChangeShapes Go.WideShapes Go.ChangeAt Go.RowKit
set_option linter.unusedVariables false
set_option maxRecDepth 100000 in
set_option maxHeartbeats 4000000 in
theorem plainT_c (s : List UInt8) (w : World) (hW : W10 w) (hm : s.length ≤ 40000) :
    Calls Tryz.prog 121 #[.string ⟨s.toArray⟩] w fun e w' => e = .returned (.bool (valOk s)) ∧ Below w.heap.size w w' := by
  have C1 := Lib.hid (refs_c s w hW.tabs hW.forms hm)
  have C2 := Lib.hid fun W => containsAny_q s W (by omega)
  have HV := Lib.hid (valOk_eq s)
  rw [HV.out]
  clear hm hW
  generalize refsOut s = o at *
  generalize Lib.containsAny s quL = c at *
  obtain ⟨i, e⟩ := o
  by_cases he : e = 0
  · subst he
    go_enter Tryz.func121, Tryz.ntmps121
    go_wp2_with fail
    refine (C1.out).mono ?_
    rintro e w1 ⟨rfl, hb⟩
    have B1 := Lib.hid hb
    clear hb
    go_wp2_with fail
    refine (C2.out _).mono ?_
    rintro e w2 ⟨rfl, hb⟩
    have B2 := Lib.hid (B1.out.trans (hb.mono B1.out.size))
    clear hb
    go_wp2
    go_ret
    exact ⟨by simp, B2.out⟩
  · have hei : ((e : Int) == 0) = false := by simp; omega
    have HE : Hid (decide (e = 0) = false) := Lib.hid (by simpa using he)
    clear he
    go_enter Tryz.func121, Tryz.ntmps121
    go_wp2_with fail
    refine (C1.out).mono ?_
    rintro e w1 ⟨rfl, hb⟩
    have B1 := Lib.hid hb
    clear hb
    go_wp2
    go_ret
    simp only [HE.out]
    exact ⟨by simp, B1.out⟩
theorem formP_snoc (ps : List PairL) (p : PairL) : formP (ps ++ [p]) = (formP ps && (nameB p.1 && valOk p.2)) := by simp [formP]
theorem longP_snoc (ps : List PairL) (p : PairL) : longP (ps ++ [p]) = (longP ps || decide (1024 < p.1.length)) := by simp [longP]
/-- While a tag is looked at: below w all as it was; the tag at w's end; the map of names behind it. -/
def CkJ (w wr : World) (cs : Array Value) (acc : List PairL) : Prop := Below w.heap.size w wr ∧ wr.heap[w.heap.size]? = some (.cells cs 87) ∧ Cnt wr (w.heap.size + 1) acc
theorem CkJ.lt {w wr : World} {cs : Array Value} {acc : List PairL} (h : CkJ w wr cs acc) : w.heap.size + 1 < wr.heap.size := by
  obtain ⟨_, _, D, h1, _⟩ := h
  exact ownsMap_at h1
theorem CkJ.kept {w wr w' : World} {cs : Array Value} {acc : List PairL} (h : CkJ w wr cs acc) (hb : Below wr.heap.size wr w') : CkJ w w' cs acc := by
  have hlt := h.lt
  obtain ⟨h1, h2, D, h3, h4⟩ := h
  exact ⟨h1.trans (hb.mono h1.size), by rw [hb.block _ (by omega)]; exact h2, D, ownsMap_keep h3 (hb.block _ hlt), h4⟩
theorem CkJ.start (w : World) (cs : Array Value) : CkJ w ((w.alloc (.cells cs 87)).alloc (.map #[] 0)) cs [] := by
  have hb := (Below.refl _ w).alloc (Nat.le_refl _) (.cells cs 87)
  have hq := hp_new w (.cells cs 87)
  refine ⟨hb.alloc hb.size _, by rw [Below.heap_alloc _ _ _ (by simp)]; exact hq, ?_⟩
  have := Cnt.start (w.alloc (.cells cs 87))
  rwa [show (w.alloc (.cells cs 87)).heap.size = w.heap.size + 1 by simp] at this
theorem CkJ.counted {w wr w' : World} {cs : Array Value} {acc acc' : List PairL} (h : CkJ w wr cs acc) (hb : wr.grownBy w' (some (w.heap.size + 1))) (hc : Cnt w' (w.heap.size + 1) acc') : CkJ w w' cs acc' :=
  ⟨h.1.grown hb h.1.size (fun j hj => by cases hj; omega), by rw [hb.block _ (by have := h.lt; omega) (by simp)]; exact h.2.1, hc⟩
theorem wf_small (c : Nat) (h : c ≤ 1000000) : (Lit.int .i64 ((c : Int) + 1)).wf = true := by
  simp only [Lit.wf, IntKind.min, IntKind.max, Bool.and_eq_true]
  constructor <;> (simp [IntKind.bits, IntKind.signed]; omega)
set_option maxRecDepth 100000 in
set_option maxHeartbeats 8000000 in
theorem checkTag_c (s : List UInt8) (A : Option Addr) (n cap : Nat) (ps : List PairL) (em : Bool) (w : World) (h : PRd w w.heap.size A n cap ps) (hW : W10 w) (hs : s.length ≤ 40000) (hn : n ≤ 40000) (hp : ∀ p ∈ ps, p.1.length ≤ 40000 ∧ p.2.length ≤ 40000) :
    Calls Tryz.prog 86 #[.agg #[.string ⟨s.toArray⟩, .slice A n cap, .bool em]] w fun e w' => e = .returned (.int .i64 (checkT s ps)) ∧ Below w.heap.size w w' := by
  have CN : Hid (∀ (q : List UInt8) W, q.length ≤ 40000 → Below w.heap.size w W → Calls Tryz.prog 120 #[.string ⟨q.toArray⟩] W fun e w' => e = .returned (.bool (nameB q)) ∧ Below W.heap.size W w') := Lib.hid fun q W h1 hb => isName_c q W (hW.below hb).forms (hW.below hb).tabs.n (by omega)
  have CP : Hid (∀ (q : List UInt8) W, q.length ≤ 40000 → Below w.heap.size w W → Calls Tryz.prog 121 #[.string ⟨q.toArray⟩] W fun e w' => e = .returned (.bool (valOk q)) ∧ Below W.heap.size W w') := Lib.hid fun q W h1 hb => plainT_c q W (hW.below hb) h1
  have HP := Lib.hid h
  have HS := Lib.hid hs
  have HQ := Lib.hid hp
  have HLN : Hid (ps.length = n) := Lib.hid h.len
  have HD := Lib.hid (count_dup ps [])
  have hs1 : (s.length : Int) ≤ 40000 := by omega
  have hst := CkJ.start w #[.string ⟨s.toArray⟩, .slice A n cap, .bool em]
  have HCk : Hid (checkT s ps = if (nameB s && formP ps) = true then (if (decide (1024 < s.length) || longP ps) = true then 11 else if dupR [] ps = true then 12 else 0) else 7) := Lib.hid rfl
  rw [HCk.out]
  clear HCk h hW hs hp
  have HJ0 := Lib.hid hst
  have z0 := cell_of 0 hst.2.1
  clear hst
  have hmm := @run_makeMap Tryz.prog
  go_enter Tryz.func86, Tryz.ntmps86
  go_wp2_with fail
  refine (CN.out s _ HS.out HJ0.out.1).mono ?_
  rintro e w1 ⟨rfl, hb⟩
  have HJ1 := Lib.hid (HJ0.out.kept hb)
  have z1 := cell_of 1 HJ1.out.2.1
  clear hb z0
  go_wp2
  go_loopg [4, 5, 19] (n) (fun g lg fm i wr => ∃ t : Nat, t ≤ n ∧ Hid (g + t = n) ∧ i = .int .i64 (t : Int) ∧ lg = .bool (decide (1024 < s.length) || longP (ps.take t)) ∧ fm = .bool (nameB s && formP (ps.take t)) ∧ Hid (CkJ w wr #[.string ⟨s.toArray⟩, .slice A n cap, .bool em] (ps.take t)))
  case atStart => exact ⟨0, Nat.zero_le _, Lib.hid (by omega), rfl, by simp [longP]; try omega, by simp [formP], HJ1⟩
  case round =>
    obtain ⟨t, ht, hg, rfl, rfl, rfl, HJ⟩ := hrel
    clear z1
    have ht0 : (0 : Int) ≤ (t : Int) := by omega
    have htb : (t : Int) ≤ 40000 := by omega
    by_cases htn : t < n
    · have htni : (t : Int) < (n : Int) := by omega
      obtain ⟨b, o, p, rfl, hb, hp, hc0, hc1⟩ := (HP.out.below HJ.out.1).cell htn
      have htk : ps.take (t + 1) = ps.take t ++ [p] := by rw [List.take_add_one, hp]; rfl
      have hFS := Lib.hid (formP_snoc (ps.take t) p)
      have hLS := Lib.hid (longP_snoc (ps.take t) p)
      rw [← htk] at hFS hLS
      have HTK := Lib.hid htk
      have hlen : (ps.take t).length ≤ 40000 := by rw [List.length_take]; omega
      have HLEN := Lib.hid hlen
      obtain ⟨hq1, hq2⟩ := HQ.out p (List.mem_of_getElem? hp)
      have CN1 := Lib.hid fun W hb => CN.out p.1 W hq1 hb
      have CP1 := Lib.hid fun W hb => CP.out p.2 W hq2 hb
      have hp1 : (p.1.length : Int) ≤ 40000 := by omega
      clear hp htk hb hlen hq1 hq2
      obtain ⟨pn, pv⟩ := p
      simp only at hc0 hc1 CN1 CP1 hFS hLS hp1
      generalize ps.take t = acc at *
      generalize hta : ps.take (t + 1) = acc2 at *
      have HTA := Lib.hid hta
      clear hta
      have hkey : keyOf Tryz.prog 9 (.string ⟨pn.toArray⟩) = some (.string pn) := by
        have := Go.WideMaps.keyOf_string_mk (P := Tryz.prog) Tryz.underlying9 (s := ⟨pn.toArray⟩) (by simp [ByteArray.size]; unfold maxLen; omega)
        simpa using this
      have HKEY := Lib.hid hkey
      clear hkey
      have J1 := Lib.hid (HJ.out.kept ((Below.refl _ wr).alloc (Nat.le_refl _) (.cells #[.string ⟨pn.toArray⟩, .string ⟨pv.toArray⟩] 81)))
      have q1 := hp_new wr (.cells #[.string ⟨pn.toArray⟩, .string ⟨pv.toArray⟩] 81)
      have z0 := cell_of 0 q1
      have z1 := cell_of 1 q1
      cases hf : nameB s && formP acc with
      | false =>
        have HFV : Hid ((nameB s && formP acc2) = false) := Lib.hid (by rw [hFS, ← Bool.and_assoc, hf]; rfl)
        clear hf hFS
        have JZ := J1
        have zq := q1
        cases hl : decide (1024 < s.length) || longP acc with
        | true =>
          have HLV : Hid ((decide (1024 < s.length) || longP acc2) = true) := Lib.hid (by rw [hLS, ← Bool.or_assoc, hl]; rfl)
          clear hl hLS
          obtain ⟨D, hown, hsz, hhas, hat⟩ := JZ.out.2.2
          obtain ⟨c, hc, hce⟩ := hat pn
          have hci : (c : Int) ≤ 40000 := by have := HLEN.out; omega
          have hci0 : (0 : Int) ≤ (c : Int) := by omega
          have HDk : Hid (∀ c' : Int, D.atKey (.string pn) (.lit (.int .i64 0)) = .lit (.int .i64 c') → c' = c) := Lib.hid fun c' h => by
            rw [hce] at h
            simp at h
            exact h.symm
          have HCN := Lib.hid (cnt_snoc (p := (pn, pv)) (hown.tidy lawS) hsz hhas hat hc)
          clear hsz hhas hat hce hc
          go_wp2_with (first
            | (at_lookup; refine wpList_lookup_own_int _ rfl _ _ 145 rfl 9 3 .i64 lawS Tryz.underlying145 Tryz.underlying3 (zeroI _) (w.heap.size + 1) acc.length _ rfl hown _ _ rfl HKEY.out ?_; intro c' hat hwc; obtain rfl := HDk.out c' hat)
            | (at_mapUpdate; refine wpList_mapUpdate_own _ rfl _ _ _ 145 rfl 9 3 lawS Tryz.underlying145 _ (w.heap.size + 1) acc.length _ rfl hown (by have := HLEN.out; unfold maxLen; omega) _ _ _ rfl rfl HKEY.out _ [] (plainElem_int Tryz.underlying3 (wf_small c (by omega))) ?_))
          intro w3 hown3 hgrow3
          have J3 : Hid (CkJ w w3 #[.string ⟨s.toArray⟩, .slice (some ⟨b, o, none⟩) n cap, .bool em] acc2) := Lib.hid (JZ.out.counted hgrow3 ⟨_, by rw [HTK.out, List.length_append]; exact hown3, by rw [HTK.out]; exact HCN.out.1, by rw [HTK.out]; exact HCN.out.2.1, by rw [HTK.out]; exact HCN.out.2.2⟩)
          clear hown hown3 hgrow3 zq z0 z1
          go_wp2
          go_roundg (n - (t + 1))
          case measure => have := hg.out; omega
          case rel => exact ⟨t + 1, by omega, Lib.hid (by omega), by go_num, by rw [HTA.out, HLV.out] <;> (try simp) <;> omega, by rw [HTA.out, HFV.out]; try simp, by rw [HTA.out]; exact J3⟩
        | false =>
          have HLV : Hid ((decide (1024 < s.length) || longP acc2) = decide (1024 < pn.length)) := Lib.hid (by rw [hLS, ← Bool.or_assoc, hl]; rfl)
          clear hl hLS
          obtain ⟨D, hown, hsz, hhas, hat⟩ := JZ.out.2.2
          obtain ⟨c, hc, hce⟩ := hat pn
          have hci : (c : Int) ≤ 40000 := by have := HLEN.out; omega
          have hci0 : (0 : Int) ≤ (c : Int) := by omega
          have HDk : Hid (∀ c' : Int, D.atKey (.string pn) (.lit (.int .i64 0)) = .lit (.int .i64 c') → c' = c) := Lib.hid fun c' h => by
            rw [hce] at h
            simp at h
            exact h.symm
          have HCN := Lib.hid (cnt_snoc (p := (pn, pv)) (hown.tidy lawS) hsz hhas hat hc)
          clear hsz hhas hat hce hc
          go_wp2_with (first
            | (at_lookup; refine wpList_lookup_own_int _ rfl _ _ 145 rfl 9 3 .i64 lawS Tryz.underlying145 Tryz.underlying3 (zeroI _) (w.heap.size + 1) acc.length _ rfl hown _ _ rfl HKEY.out ?_; intro c' hat hwc; obtain rfl := HDk.out c' hat)
            | (at_mapUpdate; refine wpList_mapUpdate_own _ rfl _ _ _ 145 rfl 9 3 lawS Tryz.underlying145 _ (w.heap.size + 1) acc.length _ rfl hown (by have := HLEN.out; unfold maxLen; omega) _ _ _ rfl rfl HKEY.out _ [] (plainElem_int Tryz.underlying3 (wf_small c (by omega))) ?_))
          intro w3 hown3 hgrow3
          have J3 : Hid (CkJ w w3 #[.string ⟨s.toArray⟩, .slice (some ⟨b, o, none⟩) n cap, .bool em] acc2) := Lib.hid (JZ.out.counted hgrow3 ⟨_, by rw [HTK.out, List.length_append]; exact hown3, by rw [HTK.out]; exact HCN.out.1, by rw [HTK.out]; exact HCN.out.2.1, by rw [HTK.out]; exact HCN.out.2.2⟩)
          clear hown hown3 hgrow3 zq z0 z1
          go_wp2
          go_roundg (n - (t + 1))
          case measure => have := hg.out; omega
          case rel => exact ⟨t + 1, by omega, Lib.hid (by omega), by go_num, by rw [HTA.out, HLV.out] <;> (try simp) <;> omega, by rw [HTA.out, HFV.out]; try simp, by rw [HTA.out]; exact J3⟩
      | true =>
        have HQ1 := Lib.hid q1
        go_wp2_with fail
        refine (CN1.out _ J1.out.1).mono ?_
        rintro e w2 ⟨rfl, hb⟩
        have J2 := Lib.hid (J1.out.kept hb)
        have q2 : w2.heap[wr.heap.size]? = some (.cells #[.string ⟨pn.toArray⟩, .string ⟨pv.toArray⟩] 81) := (hb.block _ (by simp)).trans HQ1.out
        clear z0 z1 hb q1
        have z0 := cell_of 0 q2
        have z1 := cell_of 1 q2
        cases hnb : nameB pn with
        | false =>
          have HFV : Hid ((nameB s && formP acc2) = false) := Lib.hid (by rw [hFS, ← Bool.and_assoc, hf, hnb]; rfl)
          clear hf hFS hnb
          have JZ := J2
          have zq := q2
          cases hl : decide (1024 < s.length) || longP acc with
          | true =>
            have HLV : Hid ((decide (1024 < s.length) || longP acc2) = true) := Lib.hid (by rw [hLS, ← Bool.or_assoc, hl]; rfl)
            clear hl hLS
            obtain ⟨D, hown, hsz, hhas, hat⟩ := JZ.out.2.2
            obtain ⟨c, hc, hce⟩ := hat pn
            have hci : (c : Int) ≤ 40000 := by have := HLEN.out; omega
            have hci0 : (0 : Int) ≤ (c : Int) := by omega
            have HDk : Hid (∀ c' : Int, D.atKey (.string pn) (.lit (.int .i64 0)) = .lit (.int .i64 c') → c' = c) := Lib.hid fun c' h => by
              rw [hce] at h
              simp at h
              exact h.symm
            have HCN := Lib.hid (cnt_snoc (p := (pn, pv)) (hown.tidy lawS) hsz hhas hat hc)
            clear hsz hhas hat hce hc
            go_wp2_with (first
              | (at_lookup; refine wpList_lookup_own_int _ rfl _ _ 145 rfl 9 3 .i64 lawS Tryz.underlying145 Tryz.underlying3 (zeroI _) (w.heap.size + 1) acc.length _ rfl hown _ _ rfl HKEY.out ?_; intro c' hat hwc; obtain rfl := HDk.out c' hat)
              | (at_mapUpdate; refine wpList_mapUpdate_own _ rfl _ _ _ 145 rfl 9 3 lawS Tryz.underlying145 _ (w.heap.size + 1) acc.length _ rfl hown (by have := HLEN.out; unfold maxLen; omega) _ _ _ rfl rfl HKEY.out _ [] (plainElem_int Tryz.underlying3 (wf_small c (by omega))) ?_))
            intro w3 hown3 hgrow3
            have J3 : Hid (CkJ w w3 #[.string ⟨s.toArray⟩, .slice (some ⟨b, o, none⟩) n cap, .bool em] acc2) := Lib.hid (JZ.out.counted hgrow3 ⟨_, by rw [HTK.out, List.length_append]; exact hown3, by rw [HTK.out]; exact HCN.out.1, by rw [HTK.out]; exact HCN.out.2.1, by rw [HTK.out]; exact HCN.out.2.2⟩)
            clear hown hown3 hgrow3 zq z0 z1
            go_wp2
            go_roundg (n - (t + 1))
            case measure => have := hg.out; omega
            case rel => exact ⟨t + 1, by omega, Lib.hid (by omega), by go_num, by rw [HTA.out, HLV.out] <;> (try simp) <;> omega, by rw [HTA.out, HFV.out]; try simp, by rw [HTA.out]; exact J3⟩
          | false =>
            have HLV : Hid ((decide (1024 < s.length) || longP acc2) = decide (1024 < pn.length)) := Lib.hid (by rw [hLS, ← Bool.or_assoc, hl]; rfl)
            clear hl hLS
            obtain ⟨D, hown, hsz, hhas, hat⟩ := JZ.out.2.2
            obtain ⟨c, hc, hce⟩ := hat pn
            have hci : (c : Int) ≤ 40000 := by have := HLEN.out; omega
            have hci0 : (0 : Int) ≤ (c : Int) := by omega
            have HDk : Hid (∀ c' : Int, D.atKey (.string pn) (.lit (.int .i64 0)) = .lit (.int .i64 c') → c' = c) := Lib.hid fun c' h => by
              rw [hce] at h
              simp at h
              exact h.symm
            have HCN := Lib.hid (cnt_snoc (p := (pn, pv)) (hown.tidy lawS) hsz hhas hat hc)
            clear hsz hhas hat hce hc
            go_wp2_with (first
              | (at_lookup; refine wpList_lookup_own_int _ rfl _ _ 145 rfl 9 3 .i64 lawS Tryz.underlying145 Tryz.underlying3 (zeroI _) (w.heap.size + 1) acc.length _ rfl hown _ _ rfl HKEY.out ?_; intro c' hat hwc; obtain rfl := HDk.out c' hat)
              | (at_mapUpdate; refine wpList_mapUpdate_own _ rfl _ _ _ 145 rfl 9 3 lawS Tryz.underlying145 _ (w.heap.size + 1) acc.length _ rfl hown (by have := HLEN.out; unfold maxLen; omega) _ _ _ rfl rfl HKEY.out _ [] (plainElem_int Tryz.underlying3 (wf_small c (by omega))) ?_))
            intro w3 hown3 hgrow3
            have J3 : Hid (CkJ w w3 #[.string ⟨s.toArray⟩, .slice (some ⟨b, o, none⟩) n cap, .bool em] acc2) := Lib.hid (JZ.out.counted hgrow3 ⟨_, by rw [HTK.out, List.length_append]; exact hown3, by rw [HTK.out]; exact HCN.out.1, by rw [HTK.out]; exact HCN.out.2.1, by rw [HTK.out]; exact HCN.out.2.2⟩)
            clear hown hown3 hgrow3 zq z0 z1
            go_wp2
            go_roundg (n - (t + 1))
            case measure => have := hg.out; omega
            case rel => exact ⟨t + 1, by omega, Lib.hid (by omega), by go_num, by rw [HTA.out, HLV.out] <;> (try simp) <;> omega, by rw [HTA.out, HFV.out]; try simp, by rw [HTA.out]; exact J3⟩
        | true =>
          have HQ2 := Lib.hid q2
          go_wp2_with fail
          refine (CP1.out _ J2.out.1).mono ?_
          rintro e w4 ⟨rfl, hb⟩
          have JZ := Lib.hid (J2.out.kept hb)
          have zq : w4.heap[wr.heap.size]? = some (.cells #[.string ⟨pn.toArray⟩, .string ⟨pv.toArray⟩] 81) := (hb.block _ (lt_of HQ2.out)).trans HQ2.out
          have HFV : Hid ((nameB s && formP acc2) = valOk pv) := Lib.hid (by rw [hFS, ← Bool.and_assoc, hf, hnb]; rfl)
          clear z0 z1 hb hf hFS hnb q2
          have z0 := cell_of 0 zq
          have z1 := cell_of 1 zq
          cases hl : decide (1024 < s.length) || longP acc with
          | true =>
            have HLV : Hid ((decide (1024 < s.length) || longP acc2) = true) := Lib.hid (by rw [hLS, ← Bool.or_assoc, hl]; rfl)
            clear hl hLS
            obtain ⟨D, hown, hsz, hhas, hat⟩ := JZ.out.2.2
            obtain ⟨c, hc, hce⟩ := hat pn
            have hci : (c : Int) ≤ 40000 := by have := HLEN.out; omega
            have hci0 : (0 : Int) ≤ (c : Int) := by omega
            have HDk : Hid (∀ c' : Int, D.atKey (.string pn) (.lit (.int .i64 0)) = .lit (.int .i64 c') → c' = c) := Lib.hid fun c' h => by
              rw [hce] at h
              simp at h
              exact h.symm
            have HCN := Lib.hid (cnt_snoc (p := (pn, pv)) (hown.tidy lawS) hsz hhas hat hc)
            clear hsz hhas hat hce hc
            go_wp2_with (first
              | (at_lookup; refine wpList_lookup_own_int _ rfl _ _ 145 rfl 9 3 .i64 lawS Tryz.underlying145 Tryz.underlying3 (zeroI _) (w.heap.size + 1) acc.length _ rfl hown _ _ rfl HKEY.out ?_; intro c' hat hwc; obtain rfl := HDk.out c' hat)
              | (at_mapUpdate; refine wpList_mapUpdate_own _ rfl _ _ _ 145 rfl 9 3 lawS Tryz.underlying145 _ (w.heap.size + 1) acc.length _ rfl hown (by have := HLEN.out; unfold maxLen; omega) _ _ _ rfl rfl HKEY.out _ [] (plainElem_int Tryz.underlying3 (wf_small c (by omega))) ?_))
            intro w3 hown3 hgrow3
            have J3 : Hid (CkJ w w3 #[.string ⟨s.toArray⟩, .slice (some ⟨b, o, none⟩) n cap, .bool em] acc2) := Lib.hid (JZ.out.counted hgrow3 ⟨_, by rw [HTK.out, List.length_append]; exact hown3, by rw [HTK.out]; exact HCN.out.1, by rw [HTK.out]; exact HCN.out.2.1, by rw [HTK.out]; exact HCN.out.2.2⟩)
            clear hown hown3 hgrow3 zq z0 z1
            go_wp2
            go_roundg (n - (t + 1))
            case measure => have := hg.out; omega
            case rel => exact ⟨t + 1, by omega, Lib.hid (by omega), by go_num, by rw [HTA.out, HLV.out] <;> (try simp) <;> omega, by rw [HTA.out, HFV.out]; try simp, by rw [HTA.out]; exact J3⟩
          | false =>
            have HLV : Hid ((decide (1024 < s.length) || longP acc2) = decide (1024 < pn.length)) := Lib.hid (by rw [hLS, ← Bool.or_assoc, hl]; rfl)
            clear hl hLS
            obtain ⟨D, hown, hsz, hhas, hat⟩ := JZ.out.2.2
            obtain ⟨c, hc, hce⟩ := hat pn
            have hci : (c : Int) ≤ 40000 := by have := HLEN.out; omega
            have hci0 : (0 : Int) ≤ (c : Int) := by omega
            have HDk : Hid (∀ c' : Int, D.atKey (.string pn) (.lit (.int .i64 0)) = .lit (.int .i64 c') → c' = c) := Lib.hid fun c' h => by
              rw [hce] at h
              simp at h
              exact h.symm
            have HCN := Lib.hid (cnt_snoc (p := (pn, pv)) (hown.tidy lawS) hsz hhas hat hc)
            clear hsz hhas hat hce hc
            go_wp2_with (first
              | (at_lookup; refine wpList_lookup_own_int _ rfl _ _ 145 rfl 9 3 .i64 lawS Tryz.underlying145 Tryz.underlying3 (zeroI _) (w.heap.size + 1) acc.length _ rfl hown _ _ rfl HKEY.out ?_; intro c' hat hwc; obtain rfl := HDk.out c' hat)
              | (at_mapUpdate; refine wpList_mapUpdate_own _ rfl _ _ _ 145 rfl 9 3 lawS Tryz.underlying145 _ (w.heap.size + 1) acc.length _ rfl hown (by have := HLEN.out; unfold maxLen; omega) _ _ _ rfl rfl HKEY.out _ [] (plainElem_int Tryz.underlying3 (wf_small c (by omega))) ?_))
            intro w3 hown3 hgrow3
            have J3 : Hid (CkJ w w3 #[.string ⟨s.toArray⟩, .slice (some ⟨b, o, none⟩) n cap, .bool em] acc2) := Lib.hid (JZ.out.counted hgrow3 ⟨_, by rw [HTK.out, List.length_append]; exact hown3, by rw [HTK.out]; exact HCN.out.1, by rw [HTK.out]; exact HCN.out.2.1, by rw [HTK.out]; exact HCN.out.2.2⟩)
            clear hown hown3 hgrow3 zq z0 z1
            go_wp2
            go_roundg (n - (t + 1))
            case measure => have := hg.out; omega
            case rel => exact ⟨t + 1, by omega, Lib.hid (by omega), by go_num, by rw [HTA.out, HLV.out] <;> (try simp) <;> omega, by rw [HTA.out, HFV.out]; try simp, by rw [HTA.out]; exact J3⟩
    · have htni : ¬ (t : Int) < (n : Int) := by omega
      obtain rfl : t = n := by omega
      rw [List.take_of_length_le (by rw [HLN.out]; exact Nat.le_refl _)] at *
      have z1 := cell_of 1 HJ.out.2.1
      obtain ⟨D, hown, hsz, hhas, hat⟩ := HJ.out.2.2
      rw [HLN.out] at hown
      have HSZ := Lib.hid hsz
      have HB := Lib.hid HJ.out.1
      clear hsz hhas hat
      cases hf : nameB s && formP ps with
      | false =>
        go_wp2
        go_ret
        exact ⟨by simp, HB.out⟩
      | true =>
        cases hl : decide (1024 < s.length) || longP ps with
        | true =>
          go_wp2
          go_ret
          exact ⟨by simp, HB.out⟩
        | false =>
          have hdd := HD.out
          rw [HLN.out, ← HSZ.out] at hdd
          by_cases hd : Go.Maps.size D < t
          · have hdi : ((Go.Maps.size D : Nat) : Int) < (t : Int) := by omega
            have HDD : Hid (dupR [] ps = true) := Lib.hid (by rw [hdd]; simpa using hd)
            clear hdd
            go_wp2_with (at_len; refine wpList_len_own _ rfl _ 145 rfl 9 3 Tryz.underlying145 _ (w.heap.size + 1) t D rfl hown ?_)
            go_ret
            exact ⟨by simp, HB.out⟩
          · have hdi : ¬ ((Go.Maps.size D : Nat) : Int) < (t : Int) := by omega
            have HDD : Hid (dupR [] ps = false) := Lib.hid (by rw [hdd]; simpa using hd)
            clear hdd
            have hdr := HDD.out
            go_wp2_with (at_len; refine wpList_len_own _ rfl _ 145 rfl 9 3 Tryz.underlying145 _ (w.heap.size + 1) t D rfl hown ?_)
            go_ret
            exact ⟨rfl, HB.out⟩
end Go.Proofs.YtmclngahdklfkaaGreatDoor
/- A builder that keeps what stands beside it. -/
namespace Go.Proofs.YtmclngahdklfkaaGreatDoor
open Go.ChangeShapes Go.WideShapes Go.ChangeAt Go.RowKit
set_option linter.unusedVariables false
/-- Every block but b that holds no bytes stands. -/
def Kp (b : Nat) (w w' : World) : Prop := ∀ k vs T f, k ≠ b → T ≠ 5 → w.heap[k]? = some (.cells vs T f) → w'.heap[k]? = some (.cells vs T f)
theorem Kp.trans {b : Nat} {x y z : World} (h : Kp b x y) (k : Kp b y z) : Kp b x z := fun j vs T f h1 h2 h3 => k j vs T f h1 h2 (h j vs T f h1 h2 h3)
/-- copyCheck, and what stands behind it. -/
theorem copyCheck_k (b : Nat) (l : List UInt8) (w : World) (h : Bld (b + 1) b l w) :
    Calls Tryz.prog 122 #[.pointer (some ⟨b, 0, none⟩)] w fun e w' => e = .returned (.tuple #[]) ∧ BldP (.pointer (some ⟨b, 0, none⟩)) (b + 1) b l w' ∧ Fr (b + 1) b w w' ∧ Kp b w w' := by
  rcases h with ⟨hb, v, hh, ho⟩ | h
  · refine (copyCheck_fresh b w (by rw [cell_of 0 hh]; rfl) (by simp [World.shape?, hh]) (free_of 0 hh)).mono ?_
    rintro e w' ⟨rfl, rfl⟩
    refine ⟨rfl, ⟨hb, v, ?_, ?_⟩, (Fr.refl (b + 1) b w).set 0 _, fun k vs T f h1 _ h3 => by rw [hp_other h1]; exact h3⟩
    · rw [hp_set hh]; rfl
    · refine ho.kept (row := some b) ((gr_refl w (some b)).setCell 0 _) (Or.inr ?_)
      intro e
      have := (ho.lt b e).1
      omega
  · obtain ⟨hb, v, hh, ho⟩ := h
    refine (copyCheck_used b w (by rw [cell_of 0 hh]; rfl)).mono ?_
    rintro e w' ⟨rfl, rfl⟩
    exact ⟨rfl, ⟨hb, v, hh, ho⟩, Fr.refl _ b _, fun k vs T f _ _ h3 => h3⟩
theorem ownsRow_type {w : World} {B : Nat} {e : TypeId} {c n : Nat} {v : Value} {xs : List Value} (h : w.ownsRow B e c v n xs) {k : Nat} {vs : Array Value} {T : TypeId} {f : Nat × Nat} (hk : w.heap[k]? = some (.cells vs T f)) (hT : T ≠ e) : some k ≠ v.ownBlock := by
  obtain ⟨hl, ⟨hv, _⟩ | ⟨g, cap, cur, hv, hg, hh, r⟩⟩ := h
  · rw [hv]; simp [Value.ownBlock]
  · rw [hv]
    intro e'
    simp [Value.ownBlock] at e'
    subst e'
    rw [hh] at hk
    cases hk
    exact hT rfl
set_option maxRecDepth 100000 in
set_option maxHeartbeats 4000000 in
/-- (*strings.Builder).WriteString, and what stands behind it. -/
theorem writeString_k (b : Nat) (l s : List UInt8) (w : World) (h : Bld (b + 1) b l w) (hlen : l.length + s.length ≤ 140737488355328) :
    Calls Tryz.prog 87 #[.pointer (some ⟨b, 0, none⟩), .string ⟨s.toArray⟩] w fun e w' => e = .returned (.tuple #[.int .i64 s.length, .nilIface]) ∧ Bld (b + 1) b (l ++ s) w' ∧ Fr (b + 1) b w w' ∧ Kp b w w' := by
  obtain ⟨i0, hi, hz0, hz1, hz2⟩ := info_parts (show (Tryz.prog.info? 5).map (fun i => (i.zero, i.size, i.bytes)) = some (some (.int .u8 0), 1, 1) by kernel_rfl)
  have hRw : b + 1 ≤ w.heap.size := h.lt
  have hss : (⟨s.toArray⟩ : ByteArray).size = s.length := by simp [ByteArray.size]
  have HSS := Lib.hid hss
  have hsc : Lib.strCells ⟨s.toArray⟩ = Lib.byteCells s := by simp [Lib.strCells, Lib.byteCells]
  have HSC := Lib.hid hsc
  have hle : (⟨s.toArray⟩ : ByteArray).size + l.length ≤ 140737488355328 := by omega
  have hsn : Lib.byteCells l ++ Lib.byteCells s = Lib.byteCells (l ++ s) := by simp [Lib.byteCells]
  have HSN := Lib.hid hsn
  rw [← hss]
  clear hss hsn hsc hlen
  generalize (⟨s.toArray⟩ : ByteArray) = sa at *
  go_enter Tryz.func87, Tryz.ntmps87
  go_wp2_with fail
  refine (copyCheck_k b l _ h).mono ?_
  rintro e w1 ⟨rfl, ⟨hbR, v, hbk, hown⟩, hf1, hk1⟩
  have c0 : w1.cell? ⟨b, 0, none⟩ = some (.pointer (some ⟨b, 0, none⟩)) := by rw [cell_of 0 hbk]; rfl
  have c1 : w1.cell? ⟨b, 1, none⟩ = some v := by rw [cell_of 1 hbk]; rfl
  have hs1 := hf1.size
  go_wp2_with (at_builtin; refine Lib.wpList_append_own_string _ rfl _ _ 22 9 rfl (b + 1) 5 i0 Tryz.underlying22 Tryz.underlying9 hi hz0 hz1 hz2 _ _ _ rfl hown sa rfl ?c3 ?c4 ?c5 ?_)
  case c3 => unfold maxLen; omega
  case c4 => omega
  case c5 => omega
  intro v' w2 hown' hgrow _
  have hlt : b < w1.heap.size := lt_of hbk
  have hne : some b ≠ v.ownBlock := by
    intro e
    have := (hown.lt b e.symm).1
    omega
  have hb2 : w2.heap[b]? = some (.cells #[.pointer (some ⟨b, 0, none⟩), v] 116 (0, 0)) := by
    rw [hgrow.block b hlt hne]
    exact hbk
  have d0 : w2.cell? ⟨b, 0, none⟩ = some (.pointer (some ⟨b, 0, none⟩)) := by rw [cell_of 0 hb2]; rfl
  have d1 : w2.cell? ⟨b, 1, none⟩ = some v := by rw [cell_of 1 hb2]; rfl
  have f1 : w2.frozen? ⟨b, 1, none⟩ = false := free_of 1 hb2
  have hF2 : Fr (b + 1) b w w2 := hf1.trans ⟨hgrow.os, hgrow.tape, hgrow.output, hgrow.size, fun k hk hkb => hgrow.block k (by omega) (fun e => by have := (hown.lt k e.symm).1; omega)⟩
  have hK2 : Kp b w w2 := hk1.trans fun k vs T f _ h2 h3 => by rw [hgrow.block k (lt_of h3) (ownsRow_type hown h3 h2)]; exact h3
  obtain ⟨ao, n', cap, rfl⟩ : ∃ ao n' cap, v' = .slice ao n' cap := by
    rcases hown'.2 with ⟨hv, _⟩ | ⟨g, cap, cur, hv, _⟩
    · exact ⟨_, _, _, hv⟩
    · exact ⟨_, _, _, hv⟩
  have HF2 := Lib.hid hF2
  have HK2 := Lib.hid hK2
  have HO := Lib.hid hown'
  clear hF2 hK2 hown' hgrow hown h hf1 hk1 hbk
  go_wp2
  go_ret2
  refine ⟨rfl, Or.inr ⟨hbR, _, by rw [hp_set hb2]; rfl, ?_⟩, HF2.out.set 1 _, fun k vs T f h1 h2 h3 => by rw [hp_other h1]; exact HK2.out k vs T f h1 h2 h3⟩
  have ho2 := HO.out
  rw [HSC.out, HSN.out, HSS.out] at ho2
  rw [List.length_append]
  refine ho2.kept (row := some b) ((gr_refl w2 (some b)).setCell 1 _) (Or.inr ?_)
  intro e
  have := (ho2.lt b e).1
  omega
end Go.Proofs.YtmclngahdklfkaaGreatDoor
/- What tag.Put answers. -/
namespace Go.Proofs.YtmclngahdklfkaaGreatDoor
open Go.ChangeShapes Go.WideShapes Go.ChangeAt Go.RowKit
set_option linter.unusedVariables false
theorem pairsT_snoc (ps : List PairL) (p : PairL) : pairsT (ps ++ [p]) = pairsT ps ++ pairT p := by simp [pairsT]
theorem pairT_len (p : PairL) : (pairT p).length = p.1.length + p.2.length + 4 := by simp [pairT]; omega
theorem pairsT_bound : ∀ ps : List PairL, (∀ p ∈ ps, p.1.length ≤ 40000 ∧ p.2.length ≤ 40000) → (pairsT ps).length ≤ ps.length * 80004
  | [], _ => Nat.zero_le _
  | p :: t, h => by
    have ih := pairsT_bound t fun q hq => h q (List.mem_cons_of_mem _ hq)
    have hp := h p List.mem_cons_self
    have hl := pairT_len p
    have e : pairsT (p :: t) = pairT p ++ pairsT t := rfl
    rw [e, List.length_append, List.length_cons]
    omega
/-- While a tag is written: below w all as it was; the tag at b0; the builder at b, with a text. -/
def PtJ (w : World) (b0 b : Nat) (cs : Array Value) (l : List UInt8) (wr : World) : Prop := Below w.heap.size w wr ∧ wr.heap[b0]? = some (.cells cs 87) ∧ Bld (b + 1) b l wr
theorem PtJ.fr {w : World} {b0 b : Nat} {cs : Array Value} {l l' : List UInt8} {wr w' : World} (h : PtJ w b0 b cs l wr) (hb0 : b0 < b) (hb : w.heap.size ≤ b) (hf : Fr (b + 1) b wr w') (hl : Bld (b + 1) b l' w') : PtJ w b0 b cs l' w' :=
  ⟨h.1.trans (hf.below (by omega) hb), by rw [hf.block b0 (by omega) (by omega)]; exact h.2.1, hl⟩
theorem PtJ.alloc {w : World} {b0 b : Nat} {cs : Array Value} {l : List UInt8} {wr : World} (h : PtJ w b0 b cs l wr) (hb0 : b0 < b) (o : Obj) : PtJ w b0 b cs l (wr.alloc o) :=
  ⟨h.1.alloc h.1.size _, by rw [Below.heap_alloc _ _ _ (lt_of h.2.1)]; exact h.2.1, h.2.2.alloc _⟩
/-- What tag.Put answers. -/
def putOut (s : List UInt8) (ps : List PairL) (em : Bool) : List UInt8 × Nat := if checkT s ps = 0 then (tagT ⟨s, ps, em⟩, 0) else ([], checkT s ps)
set_option maxRecDepth 100000 in
set_option maxHeartbeats 8000000 in
theorem tagPut_c (s : List UInt8) (A : Option Addr) (n cap : Nat) (ps : List PairL) (em : Bool) (w : World) (h : PRd w w.heap.size A n cap ps) (hW : W10 w) (hs : s.length ≤ 40000) (hn : n ≤ 40000) (hp : ∀ p ∈ ps, p.1.length ≤ 40000 ∧ p.2.length ≤ 40000) :
    Calls Tryz.prog 51 #[.agg #[.string ⟨s.toArray⟩, .slice A n cap, .bool em]] w fun e w' => e = .returned (.tuple #[.string ⟨(putOut s ps em).1.toArray⟩, .int .i64 ((putOut s ps em).2 : Int)]) ∧ Below w.heap.size w w' := by
  have hb := (Below.refl _ w).alloc (Nat.le_refl _) (.cells #[.string ⟨s.toArray⟩, .slice A n cap, .bool em] 87)
  have q0 := hp_new w (.cells #[.string ⟨s.toArray⟩, .slice A n cap, .bool em] 87)
  have z0 := cell_of 0 q0
  have z1 := cell_of 1 q0
  have z2 := cell_of 2 q0
  have CK := Lib.hid (checkTag_c s A n cap ps em _ ((h.below hb).more hb.size) (hW.below hb) hs hn hp)
  have HB := Lib.hid hb
  have HQ0 := Lib.hid q0
  have HP := Lib.hid h
  have HQ := Lib.hid hp
  have HLN : Hid (ps.length = n) := Lib.hid h.len
  have HPO : Hid (putOut s ps em = if checkT s ps = 0 then (tagT ⟨s, ps, em⟩, 0) else ([], checkT s ps)) := Lib.hid rfl
  rw [HPO.out]
  clear h hW hp hb q0 HPO
  generalize checkT s ps = k at *
  by_cases hk : k = 0
  · subst hk
    rw [if_pos rfl]
    have hbp := pairsT_bound ps HQ.out
    rw [HLN.out] at hbp
    have HBP := Lib.hid hbp
    have sp0 : ∀ w : World, (Op.stringOp .add ⟨#[60]⟩ ⟨s.toArray⟩).run Tryz.prog w = .ok (.string ⟨([60] ++ s).toArray⟩) w := fun w => run_sop (w := w) [60] s (by simp; omega)
    have sp9 : ∀ (l : List UInt8), l.length ≤ 10000000000 → ∀ w : World, (Op.stringOp .add ⟨l.toArray⟩ ⟨#[62]⟩).run Tryz.prog w = .ok (.string ⟨(l ++ [62]).toArray⟩) w := fun l hl w => run_sop (w := w) l [62] (by simp; omega)
    have SP9 := Lib.hid sp9
    clear sp9 hbp
    have HT : Hid (tagT ⟨s, ps, em⟩ = (([60] ++ s) ++ pairsT ps ++ (if em then [47] else [])) ++ [62]) := Lib.hid (by cases em <;> simp [tagT, endT])
    rw [HT.out]
    have HSL : Hid (([60] ++ s).length ≤ 40001) := Lib.hid (by simp; omega)
    generalize [60] ++ s = s1 at *
    go_enter Tryz.func51, Tryz.ntmps51
    go_wp2_with fail
    refine CK.out.mono ?_
    rintro e w1 ⟨rfl, hb1⟩
    have q1 := (hb1.block w.heap.size (by simp)).trans HQ0.out
    have B1 := Lib.hid (HB.out.trans (hb1.mono HB.out.size))
    have hz1 : w.heap.size < w1.heap.size := lt_of q1
    have y0 := cell_of 0 q1
    have J1 : Hid (PtJ w w.heap.size w1.heap.size #[.string ⟨s.toArray⟩, .slice A n cap, .bool em] [] (w1.alloc (.cells #[.pointer none, .slice none 0 0] 116))) := Lib.hid ⟨B1.out.alloc B1.out.size _, by rw [Below.heap_alloc _ _ _ hz1]; exact q1, Bld.fresh _ _ (by omega)⟩
    have C1 := Lib.hid (writeString_k w1.heap.size [] s1 _ J1.out.2.2 (by have := HSL.out; simp; omega))
    have y0' := cell_of 0 J1.out.2.1
    clear z0 z1 z2 hb1 q1 y0
    go_wp2_with fail
    refine C1.out.mono ?_
    rintro e w2 ⟨rfl, hl2, hf2, -⟩
    have J2 := Lib.hid (J1.out.fr hz1 (by omega) hf2 hl2)
    rw [List.nil_append] at J2
    have y1 := cell_of 1 J2.out.2.1
    clear hl2 hf2 y0'
    go_wp2
    go_loopg [20] (n) (fun g i wr => ∃ t : Nat, t ≤ n ∧ Hid (g + t = n) ∧ i = .int .i64 (t : Int) ∧ Hid (PtJ w w.heap.size w1.heap.size #[.string ⟨s.toArray⟩, .slice A n cap, .bool em] (s1 ++ pairsT (ps.take t)) wr))
    case atStart => exact ⟨0, Nat.zero_le _, Lib.hid (by omega), rfl, by simpa [pairsT] using J2⟩
    case round =>
      obtain ⟨t, ht, hg, rfl, HJ⟩ := hrel
      clear y1
      have ht0 : (0 : Int) ≤ (t : Int) := by omega
      have htb : (t : Int) ≤ 40000 := by omega
      by_cases htn : t < n
      · have htni : (t : Int) < (n : Int) := by omega
        obtain ⟨b, o, p, rfl, hb, hp, hc0, hc1⟩ := (HP.out.below HJ.out.1).cell htn
        have htk : ps.take (t + 1) = ps.take t ++ [p] := by rw [List.take_add_one, hp]; rfl
        obtain ⟨hq1, hq2⟩ := HQ.out p (List.mem_of_getElem? hp)
        have hbt := pairsT_bound (ps.take t) fun q hq => HQ.out q (List.mem_of_mem_take hq)
        have HLT : Hid ((s1 ++ pairsT (ps.take t)).length ≤ 4000000000) := Lib.hid (by
          have := HSL.out
          have hl : (ps.take t).length ≤ 40000 := by rw [List.length_take]; omega
          have hm : (ps.take t).length * 80004 ≤ 40000 * 80004 := Nat.mul_le_mul_right _ hl
          rw [List.length_append]
          omega)
        have HNX : Hid (s1 ++ pairsT (ps.take (t + 1)) = (s1 ++ pairsT (ps.take t)) ++ (([32] ++ p.1 ++ [61, 34] ++ p.2) ++ [34])) := Lib.hid (by rw [htk, pairsT_snoc]; simp [pairT])
        have hpl : (([32] ++ p.1 ++ [61, 34] ++ p.2) ++ [34]).length ≤ 80004 := by simp; omega
        clear hp htk hb hbt
        obtain ⟨pn, pv⟩ := p
        simp only at hc0 hc1 HNX hq1 hq2 hpl
        have HPL := Lib.hid hpl
        have s1' : ∀ w : World, (Op.stringOp .add ⟨#[32]⟩ ⟨pn.toArray⟩).run Tryz.prog w = .ok (.string ⟨([32] ++ pn).toArray⟩) w := fun w => run_sop (w := w) [32] pn (by simp; omega)
        have s2' : ∀ w : World, (Op.stringOp .add ⟨([32] ++ pn).toArray⟩ ⟨#[61, 34]⟩).run Tryz.prog w = .ok (.string ⟨([32] ++ pn ++ [61, 34]).toArray⟩) w := fun w => run_sop (w := w) ([32] ++ pn) [61, 34] (by simp; omega)
        have s3' : ∀ w : World, (Op.stringOp .add ⟨([32] ++ pn ++ [61, 34]).toArray⟩ ⟨pv.toArray⟩).run Tryz.prog w = .ok (.string ⟨([32] ++ pn ++ [61, 34] ++ pv).toArray⟩) w := fun w => run_sop (w := w) ([32] ++ pn ++ [61, 34]) pv (by simp; omega)
        have s4' : ∀ w : World, (Op.stringOp .add ⟨([32] ++ pn ++ [61, 34] ++ pv).toArray⟩ ⟨#[34]⟩).run Tryz.prog w = .ok (.string ⟨([32] ++ pn ++ [61, 34] ++ pv ++ [34]).toArray⟩) w := fun w => run_sop (w := w) ([32] ++ pn ++ [61, 34] ++ pv) [34] (by simp; omega)
        clear hpl hq1 hq2
        generalize [32] ++ pn ++ [61, 34] ++ pv ++ [34] = t4 at *
        generalize [32] ++ pn ++ [61, 34] ++ pv = t3 at *
        generalize [32] ++ pn ++ [61, 34] = t2 at *
        generalize [32] ++ pn = t1 at *
        generalize s1 ++ pairsT (ps.take t) = acc at *
        have JA := Lib.hid (HJ.out.alloc hz1 (.cells #[.string ⟨pn.toArray⟩, .string ⟨pv.toArray⟩] 81))
        have qp := hp_new wr (.cells #[.string ⟨pn.toArray⟩, .string ⟨pv.toArray⟩] 81)
        have x0 := cell_of 0 qp
        have x1 := cell_of 1 qp
        have C2 := Lib.hid (writeString_k w1.heap.size acc t4 _ JA.out.2.2 (by have := HLT.out; have := HPL.out; omega))
        clear qp
        go_wp2_with fail
        refine C2.out.mono ?_
        rintro e w3 ⟨rfl, hl3, hf3, -⟩
        have J3 := Lib.hid (JA.out.fr hz1 (by omega) hf3 hl3)
        rw [← HNX.out] at J3
        clear hl3 hf3 x0 x1 hc0 hc1
        go_wp2
        go_roundg (n - (t + 1))
        case measure => have := hg.out; omega
        case rel => exact ⟨t + 1, by omega, Lib.hid (by omega), by go_num, J3⟩
      · have htni : ¬ (t : Int) < (n : Int) := by omega
        obtain rfl : t = n := by omega
        rw [List.take_of_length_le (by rw [HLN.out]; exact Nat.le_refl _)] at HJ
        have y2 := cell_of 2 HJ.out.2.1
        have HLT : Hid ((s1 ++ pairsT ps).length ≤ 4000000000) := Lib.hid (by
          have := HSL.out
          have := HBP.out
          have hm : t * 80004 ≤ 40000 * 80004 := Nat.mul_le_mul_right _ hn
          rw [List.length_append]
          omega)
        obtain ⟨acc, hacc⟩ : ∃ a, s1 ++ pairsT ps = a := ⟨_, rfl⟩
        rw [hacc] at HJ HLT
        have HACC := Lib.hid hacc
        clear hacc
        cases em with
        | true =>
          have C3 := Lib.hid (writeString_k w1.heap.size acc [47] _ HJ.out.2.2 (by have := HLT.out; simp; omega))
          have sp := SP9.out (acc ++ [47]) (by have := HLT.out; simp; omega)
          have HLT2 : Hid ((acc ++ [47]).length ≤ 4000000001) := Lib.hid (by have := HLT.out; simp; omega)
          obtain ⟨acc2, hacc2⟩ : ∃ a, acc ++ [47] = a := ⟨_, rfl⟩
          rw [hacc2] at C3 sp HLT2
          have HACC2 := Lib.hid hacc2
          clear hacc2
          go_wp2_with fail
          refine C3.out.mono ?_
          rintro e w4 ⟨rfl, hl4, hf4, -⟩
          have J4 := Lib.hid (HJ.out.fr hz1 (by omega) hf4 hl4)
          clear hl4 hf4 y2
          go_wp2_with fail
          refine (string_b _ _ _ _ J4.out.2.2).mono ?_
          rintro e w5 ⟨rfl, hb5⟩
          have B5 := Lib.hid (J4.out.1.trans (hb5.mono (by omega)))
          clear hb5
          go_wp2
          go_ret2
          refine ⟨?_, B5.out⟩
          have e9 : s1 ++ (pairsT ps ++ [47, 62]) = acc2 ++ [62] := by rw [← HACC2.out, ← HACC.out]; simp
          show Ending.returned (.tuple #[.string ⟨(acc2 ++ [62]).toArray⟩, .int .i64 0]) = Ending.returned (.tuple #[.string ⟨(s1 ++ (pairsT ps ++ [47, 62])).toArray⟩, .int .i64 0])
          rw [e9]
        | false =>
          have sp := SP9.out acc (by have := HLT.out; omega)
          go_wp2_with fail
          refine (string_b _ _ _ _ HJ.out.2.2).mono ?_
          rintro e w5 ⟨rfl, hb5⟩
          have B5 := Lib.hid (HJ.out.1.trans (hb5.mono (by omega)))
          clear hb5
          go_wp2
          go_ret2
          refine ⟨?_, B5.out⟩
          have e9 : s1 ++ (pairsT ps ++ [62]) = acc ++ [62] := by rw [← HACC.out]; simp
          show Ending.returned (.tuple #[.string ⟨(acc ++ [62]).toArray⟩, .int .i64 0]) = Ending.returned (.tuple #[.string ⟨(s1 ++ (pairsT ps ++ [62])).toArray⟩, .int .i64 0])
          rw [e9]
  · have hki : ((k : Int) != 0) = true := by simp; omega
    have hkj : ¬ (k : Int) = 0 := by omega
    rw [if_neg hk]
    clear hk
    go_enter Tryz.func51, Tryz.ntmps51
    go_wp2_with fail
    refine CK.out.mono ?_
    rintro e w1 ⟨rfl, hb1⟩
    have B1 := Lib.hid (HB.out.trans (hb1.mono HB.out.size))
    clear hb1
    go_wp2
    go_ret2
    exact ⟨rfl, B1.out⟩
set_option maxRecDepth 100000 in
set_option maxHeartbeats 4000000 in
theorem putEnd_c (s : List UInt8) (w : World) (hW : W10 w) (hs : s.length ≤ 40000) :
    Calls Tryz.prog 52 #[.string ⟨s.toArray⟩] w fun e w' => e = .returned (.tuple #[.string ⟨(if checkT s [] = 0 then 60 :: 47 :: (s ++ [62]) else []).toArray⟩, .int .i64 (checkT s [] : Int)]) ∧ Below w.heap.size w w' := by
  have CK := Lib.hid (checkTag_c s none 0 0 [] false w (PRd.nilR w _) hW hs (Nat.zero_le _) (fun p hp => by cases hp))
  have sp0 : ∀ w : World, (Op.stringOp .add ⟨#[60, 47]⟩ ⟨s.toArray⟩).run Tryz.prog w = .ok (.string ⟨([60, 47] ++ s).toArray⟩) w := fun w => run_sop (w := w) [60, 47] s (by simp; omega)
  have sp1 : ∀ w : World, (Op.stringOp .add ⟨([60, 47] ++ s).toArray⟩ ⟨#[62]⟩).run Tryz.prog w = .ok (.string ⟨([60, 47] ++ s ++ [62]).toArray⟩) w := fun w => run_sop (w := w) ([60, 47] ++ s) [62] (by simp; omega)
  have HE : Hid (60 :: 47 :: (s ++ [62]) = [60, 47] ++ s ++ [62]) := Lib.hid (by simp)
  rw [HE.out]
  clear hW hs
  generalize checkT s [] = k at *
  generalize [60, 47] ++ s ++ [62] = t2 at *
  generalize [60, 47] ++ s = t1 at *
  by_cases hk : k = 0
  · subst hk
    rw [if_pos rfl]
    go_enter Tryz.func52, Tryz.ntmps52
    go_wp2_with fail
    refine (CK.out).mono ?_
    rintro e w1 ⟨rfl, hb⟩
    have B1 := Lib.hid hb
    clear hb
    go_wp2
    go_ret2
    exact ⟨rfl, B1.out⟩
  · have hki : ((k : Int) != 0) = true := by simp; omega
    have hkj : ¬ (k : Int) = 0 := by omega
    rw [if_neg hk]
    clear hk
    go_enter Tryz.func52, Tryz.ntmps52
    go_wp2_with fail
    refine (CK.out).mono ?_
    rintro e w1 ⟨rfl, hb⟩
    have B1 := Lib.hid hb
    clear hb
    go_wp2
    go_ret2
    exact ⟨rfl, B1.out⟩
end Go.Proofs.YtmclngahdklfkaaGreatDoor
