/- Texts of ours, joined: Blank, Run, PlainP, NameA, Shelf2, Pfx, LibB, Whole, MiscP, MiscP2. -/
import Derived.Test.YtocbofeanfdggaaDoorRows
import Derived.WalkKit
import Derived.ProofKit
import Derived.OpenShut
import Derived.ShutString
import Derived.ChangeOld
import Derived.Below
import Derived.BigQuiet
import Derived.Deep.QuietTactic
import Derived.Lib.Hide
import Derived.Deep.RegionHeld3
import Derived.Lib.SlBytesConst
import Derived.Laws.CopyOwn
import Derived.Laws.CopyRow
import Derived.Lib.Bytes
import Derived.Deep.LoopGhost
import Derived.Deep.DeepFit
import Derived.Deep.DeepMust
import Derived.WalkSpells
import Derived.WalkLawsBesides
import Derived.Test.YtocbofeanfdggaaDoorQ2
import Derived.Test.YtocbofeanfdggaaDoorQ1
import Derived.Test.YtocbofeanfdggaaDoorQ6
import Derived.Test.YtocbofeanfdggaaDoorQ12
import Derived.Test.YtocbofeanfdggaaDoorQ3
import Derived.Test.YtocbofeanfdggaaDoorQ4
import Derived.Test.YtocbofeanfdggaaDoorQ5
import Derived.Test.YtocbofeanfdggaaDoorQ7
import Derived.Test.YtocbofeanfdggaaDoorQ8
import Derived.Test.YtocbofeanfdggaaDoorQ9
import Derived.Test.YtocbofeanfdggaaDoorQ10
import Derived.Test.YtocbofeanfdggaaDoorQ11
import Derived.Laws.EntriesVeiled
import Derived.Laws.Rows
import Derived.Shelf.Bytes.SlSmallAll
import Derived.Lib.IndexMore
import Derived.Lib.IndexLaws
/- Blanks. -/
namespace Go.Proofs.YtocbofeanfdggaaDoor
open Go.ChangeShapes Go.WideShapes Go.ChangeAt Go.RowKit
set_option linter.unusedVariables false
def isBl (c : UInt8) : Bool := isBlank (c.toNat : Int)
theorem drop_cons (l : List UInt8) (k : Nat) (c : UInt8) (h : l[k]? = some c) : l.drop k = c :: l.drop (k + 1) := by
  obtain ⟨hk, hc⟩ := List.getElem?_eq_some_iff.1 h
  rw [List.drop_eq_getElem_cons hk, hc]
set_option maxRecDepth 100000 in
set_option maxHeartbeats 4000000 in
theorem blank_c (r : Int) (w : World) : Calls Tryd.prog 87 #[.int .i64 r] w fun e w' => e = .returned (.bool (isBlank r)) ∧ w = w' := by
  rcases (show (r = 32) ∨ (r = 9) ∨ (r = 13) ∨ (r = 10) ∨ (r ≠ 32 ∧ r ≠ 9 ∧ r ≠ 13 ∧ r ≠ 10) by omega) with h | h | h | h | h
  all_goals
    first
    | (subst h
       go_enter Tryd.func87, Tryd.ntmps87
       go_wp2
       go_ret
       exact ⟨rfl, rfl⟩)
    | (have a0 : (r == 32) = false := by simp; omega
       have a1 : (r == 9) = false := by simp; omega
       have a2 : (r == 13) = false := by simp; omega
       have a3 : (r == 10) = false := by simp; omega
       have e : isBlank r = false := by unfold isBlank; rw [a0, a1, a2, a3]; rfl
       rw [e]
       clear e h
       go_enter Tryd.func87, Tryd.ntmps87
       go_wp2
       go_ret
       exact ⟨rfl, rfl⟩)
end Go.Proofs.YtocbofeanfdggaaDoor
/- Characters of bytes, all. -/
namespace Go.Proofs.YtocbofeanfdggaaDoor
open Go.ChangeShapes Go.WideShapes Go.ChangeAt Go.RowKit
set_option linter.unusedVariables false
/-- The characters of bytes, and whether each is one. -/
def runesL : Nat → List UInt8 → List Nat × Bool
  | 0, _ => ([], true)
  | _ + 1, [] => ([], true)
  | f + 1, c :: t => match dec (c :: t) with
    | some (r, n) => (r :: (runesL f ((c :: t).drop n)).1, (runesL f ((c :: t).drop n)).2)
    | none => ([], false)
def runesOut (l : List UInt8) : List Nat × Bool := runesL l.length l
theorem runesL_nil (f : Nat) : runesL f [] = ([], true) := by cases f <;> rfl
theorem runesL_some (f : Nat) (l : List UInt8) (r n : Nat) (h : dec l = some (r, n)) : runesL (f + 1) l = (r :: (runesL f (l.drop n)).1, (runesL f (l.drop n)).2) := by
  cases l with
  | nil => simp [dec] at h
  | cons c t => simp only [runesL, h]
theorem runesL_none (f : Nat) (l : List UInt8) (h0 : l ≠ []) (h : dec l = none) : runesL (f + 1) l = ([], false) := by
  cases l with
  | nil => exact absurd rfl h0
  | cons c t => simp only [runesL, h]
theorem runesL_le (f : Nat) : ∀ l : List UInt8, (∀ r ∈ (runesL f l).1, r ≤ 1114111) ∧ (runesL f l).1.length ≤ l.length := by
  induction f with
  | zero => intro l; simp [runesL]
  | succ f ih =>
    intro l
    cases hd : dec l with
    | none =>
      by_cases h0 : l = []
      · rw [h0, runesL_nil]; simp
      · rw [runesL_none f l h0 hd]; simp
    | some x =>
      obtain ⟨r, n⟩ := x
      have hl := dec_le l r n hd
      have := ih (l.drop n)
      rw [runesL_some f l r n hd]
      refine ⟨fun y hy => ?_, ?_⟩
      · rcases List.mem_cons.1 hy with rfl | hy
        · exact hl.2.2.2
        · exact this.1 y hy
      · have h2 := this.2
        rw [List.length_drop] at h2
        simp only [List.length_cons]
        omega
theorem ownsRow_kept {w w' : World} {B : Nat} {e : TypeId} {c : Nat} {v : Value} {n : Nat} {xs : List Value} (h : w.ownsRow B e c v n xs) (hb : Below w.heap.size w w') : w'.ownsRow B e c v n xs :=
  h.kept (row := none) (hb.gr none) (by
    cases hv : v.ownBlock with
    | none => exact Or.inl rfl
    | some q => exact Or.inr (by simp))
def iv (r : Nat) : Value := .int .i64 (r : Int)
/-- What a function hands back of bytes' characters. -/
def RunesP (l : List UInt8) (w : World) (good : Int) (bad : Int → Prop) (e : Ending) (w' : World) : Prop :=
  Below w.heap.size w w' ∧ (((runesOut l).2 = true ∧ ∃ A c, e = .returned (.tuple #[.slice A (runesOut l).1.length c, .int .i64 good]) ∧ Rd w' w'.heap.size A (runesOut l).1.length c ((runesOut l).1.map iv)) ∨
    ((runesOut l).2 = false ∧ ∃ z, bad z ∧ e = .returned (.tuple #[.slice none 0 0, .int .i64 z])))
set_option maxRecDepth 100000 in
set_option maxHeartbeats 4000000 in
theorem refRunes_c (A : Option Addr) (n cap : Nat) (l : List UInt8) (w : World) (h : Byt w w.heap.size A n cap l) (hm : n ≤ 50000) :
    Calls Tryd.prog 69 #[.slice A n cap] w (RunesP l w (-1) (fun z => 0 ≤ z)) := by
  have hl := h.length
  have HBY := Lib.hid h
  have HR0 : Hid (runesOut l = ([] ++ (runesL l.length (l.drop 0)).1, (runesL l.length (l.drop 0)).2)) := Lib.hid (by simp [runesOut])
  have HL := Lib.hid hl
  clear h hl
  go_enter Tryd.func69, Tryd.ntmps69
  go_wp2
  go_loopg [4, 5] (n) (fun g v i wr => ∃ (k f : Nat) (acc : List Nat), k ≤ n ∧ Hid (g + k = n) ∧ Hid (n ≤ k + f) ∧ i = .int .i64 (k : Int) ∧ acc.length ≤ k ∧ Hid (wr.ownsRow w.heap.size 3 1 v acc.length (acc.map iv)) ∧ Hid (Below w.heap.size w wr) ∧ Hid (runesOut l = (acc ++ (runesL f (l.drop k)).1, (runesL f (l.drop k)).2)))
  case atStart => exact ⟨0, l.length, [], Nat.zero_le _, Lib.hid rfl, Lib.hid (by rw [HL.out]; omega), rfl, Nat.le_refl _, Lib.hid (World.ownsRow_nil _ _ _ _), Lib.hid (Below.refl _ _), HR0⟩
  case round =>
    obtain ⟨k, f, acc, hk, hg, hf, rfl, hal, HO, BR, HR⟩ := hrel
    have hk0 : (0 : Int) ≤ (k : Int) := by omega
    have hk1 : (k : Int) ≤ 50000 := by omega
    by_cases hkn : k < n
    · have hkni : (k : Int) < (n : Int) := by omega
      have HC := Lib.hid (refDec_c A n cap l k wr _ (HBY.out.below BR.out) hkn hm)
      have hne : l.drop k ≠ [] := by
        intro e
        have := congrArg List.length e
        rw [List.length_drop, HL.out] at this
        simp at this
        omega
      obtain ⟨f', hf'⟩ : ∃ f', f = f' + 1 := ⟨f - 1, by have := hf.out; omega⟩
      cases hd : dec (l.drop k) with
      | none =>
        have HE : Hid ((runesOut l).2 = false) := Lib.hid (by rw [HR.out, hf', runesL_none f' _ hne hd])
        rw [hd] at HC
        unfold pairV at HC
        clear hd hne hf'
        go_wp2_with fail
        refine HC.out.mono ?_
        rintro e w1 ⟨rfl, hb⟩
        have B1 : Hid (Below w.heap.size w w1) := Lib.hid (BR.out.trans (hb.mono BR.out.size))
        clear hb
        go_wp2
        go_ret2
        exact ⟨B1.out, Or.inr ⟨HE.out, (k : Int), by omega, rfl⟩⟩
      | some x =>
        obtain ⟨r, m⟩ := x
        have hle := dec_le _ r m hd
        rw [List.length_drop, HL.out] at hle
        have HR2 : Hid (runesOut l = ((acc ++ [r]) ++ (runesL f' (l.drop (k + m))).1, (runesL f' (l.drop (k + m))).2)) := Lib.hid (by
          rw [HR.out, hf', runesL_some f' _ r m hd, List.drop_drop]; simp)
        have HF : Hid (n ≤ k + m + f') := Lib.hid (by have := hf.out; omega)
        rw [hd] at HC
        unfold pairV at HC
        have hmz : ((m : Int) == 0) = false := by simp; omega
        have hmb : (m : Int) ≤ 4 := by omega
        have hm0 : (0 : Int) ≤ (m : Int) := by omega
        have HLE := Lib.hid hle
        clear hd hne hf' hle
        go_wp2_with fail
        refine HC.out.mono ?_
        rintro e w1 ⟨rfl, hb⟩
        have B1 : Below w.heap.size w w1 := BR.out.trans (hb.mono BR.out.size)
        have hown := ownsRow_kept HO.out hb
        have hsz := B1.size
        have HB1 := Lib.hid B1
        have HOW := Lib.hid hown
        clear hb B1 hown
        go_wp2_with (at_builtin; refine wpList_app1 rfl (.tmp 21) (.tmp 23) 103 3 rfl (.int .i64 0) 8 Tryd.underlying103 info_int rfl w.heap.size _ acc.length _ rfl HOW.out (.int .i64 (r : Int)) rfl rfl ?c1 (by decide) hsz w w.heap.size HB1.out (Nat.le_refl _) ?c2)
        case c1 => omega
        case c2 =>
          intro v' w2 hown' hb2 hs2
          have HO2 : Hid (w2.ownsRow w.heap.size 3 1 v' (acc ++ [r]).length ((acc ++ [r]).map iv)) := Lib.hid (by rw [List.length_append, List.map_append]; exact hown')
          have HB2 := Lib.hid hb2
          clear hown' hb2 hs2
          go_wp2
          go_roundg (n - (k + m))
          case measure => have := hg.out; have := HLE.out; omega
          case rel => exact ⟨k + m, f', acc ++ [r], by have := HLE.out; omega, Lib.hid (by have := HLE.out; omega), HF, by go_num, by have := HLE.out; simp; omega, HO2, HB2, HR2⟩
    · have hkni : ¬ (k : Int) < (n : Int) := by omega
      have hkd : l.drop k = [] := List.drop_eq_nil_of_le (by rw [HL.out]; omega)
      have HE : Hid (runesOut l = (acc, true)) := Lib.hid (by rw [HR.out, hkd, runesL_nil]; simp)
      clear hkd
      go_wp2
      go_ret2
      refine ⟨BR.out, Or.inl ⟨by rw [HE.out], ?_⟩⟩
      rw [HE.out]
      obtain ⟨A', c', rfl, hrd⟩ := own_form HO.out
      exact ⟨A', c', rfl, hrd⟩
def allOut (f : Int → Bool) (l : List UInt8) : Bool := (runesOut l).2 && (runesOut l).1.all fun r => f (r : Int)
theorem all_take (f : Int → Bool) (rs : List Nat) (t : Nat) (r : Nat) (h : rs[t]? = some r) : ((rs.take (t + 1)).all fun r => f (r : Int)) = ((rs.take t).all (fun r => f (r : Int)) && f (r : Int)) := by
  rw [List.take_add_one, h]
  simp
end Go.Proofs.YtocbofeanfdggaaDoor
/- Plain law of whole names. -/
namespace Go.Proofs.YtocbofeanfdggaaDoor
open Go.ChangeShapes Go.WideShapes Go.ChangeAt Go.RowKit
set_option linter.unusedVariables false
/-- A name to its end. -/
def wholeB (f g : Int → Bool) (l : List UInt8) : Bool := !l.isEmpty && decide (endL f g l.length l = l.length)
end Go.Proofs.YtocbofeanfdggaaDoor
/- Names, colons too. -/
namespace Go.Proofs.YtocbofeanfdggaaDoor
open Go.ChangeShapes Go.WideShapes Go.ChangeAt Go.RowKit
set_option linter.unusedVariables false
end Go.Proofs.YtocbofeanfdggaaDoor

/- bytes.HasPrefix. -/
namespace Go.Proofs.YtocbofeanfdggaaDoor
open Go.ChangeShapes Go.WideShapes Go.ChangeAt Go.RowKit
set_option linter.unusedVariables false
end Go.Proofs.YtocbofeanfdggaaDoor
/- Go's library, by its contracts off the shelf, in this seat's words. -/
namespace Go.Proofs.YtocbofeanfdggaaDoor
open Go.ChangeShapes Go.WideShapes Go.ChangeAt Go.RowKit
set_option linter.unusedVariables false
/-- What internal/bytealg.MaxLen holds: some number. -/
def MaxL (w : World) : Prop := ∃ m : Int, w.cell? ⟨4, 0, none⟩ = some (.int .i64 m)
theorem MaxL.lt {w : World} (h : MaxL w) : 4 < w.heap.size := by
  obtain ⟨m, hm⟩ := h
  exact World.block_lt_of_cell? w _ hm
theorem MaxL.below {w w' : World} {B : Nat} (h : MaxL w) (hb : Below B w w') (hB : 4 < B) : MaxL w' := by
  obtain ⟨m, hm⟩ := h
  exact ⟨m, by rw [hb.cell hB]; exact hm⟩
theorem MaxL.drewN {w : World} (h : MaxL w) (n : Nat) : MaxL (w.drewN n) := h
/-- strings.Contains. -/
theorem contains_c (l1 l2 : List UInt8) (w : World) (hM : MaxL w) (hm1 : l1.length ≤ 1000000) :
    Calls Tryd.prog 63 #[.string ⟨l1.toArray⟩, .string ⟨l2.toArray⟩] w fun e w' => e = .returned (.bool (Lib.contains l1 l2)) ∧ w = w' := by
  obtain ⟨m, hm⟩ := hM
  exact (Tryd.strings_Contains ⟨l1.toArray⟩ ⟨l2.toArray⟩ m w (by simp [ByteArray.size]; omega) hm).mono fun e w' ⟨he, hw⟩ => ⟨he, hw.symm⟩
end Go.Proofs.YtocbofeanfdggaaDoor
/- Whole names. -/
namespace Go.Proofs.YtocbofeanfdggaaDoor
open Go.ChangeShapes Go.WideShapes Go.ChangeAt Go.RowKit
set_option linter.unusedVariables false
theorem endL_wholeB (f g : Int → Bool) (l : List UInt8) (h : l ≠ []) : wholeB f g l = decide (endL f g l.length l = l.length) := by
  unfold wholeB
  cases l with
  | nil => exact absurd rfl h
  | cons a t => simp
set_option maxRecDepth 100000 in
set_option maxHeartbeats 4000000 in
theorem plainWhole_c (a b : Nat) (s : List UInt8) (w : World) (hF : Forms w) (hm : s.length ≤ 50000) (hf : Says 113 #[.pointer (some ⟨a, 0, none⟩)] w.heap.size w (noColon isStart)) (hg : Says 113 #[.pointer (some ⟨b, 0, none⟩)] w.heap.size w (noColon isMore)) :
    Calls Tryd.prog 81 #[plainsV a b, .string ⟨s.toArray⟩] w fun e w' => e = .returned (.bool (wholeB (noColon isStart) (noColon isMore) s)) ∧ Below w.heap.size w w' := by
  have hb : Below w.heap.size w (w.alloc (.cells #[.func (.func 113) #[] #[.pointer (some ⟨a, 0, none⟩)], .func (.func 113) #[] #[.pointer (some ⟨b, 0, none⟩)]] 116)) := Below.alloc (Below.refl w.heap.size w) (Nat.le_refl _) _
  have HB := Lib.hid hb
  by_cases hs : s = []
  · subst hs
    clear hF hb hf hg
    unfold plainsV
    go_enter Tryd.func81, Tryd.ntmps81
    go_wp2
    go_ret
    exact ⟨rfl, HB.out⟩
  · rw [endL_wholeB _ _ _ hs]
    have hne : s.isEmpty = false := by cases s with
      | nil => exact absurd rfl hs
      | cons a t => rfl
    have hlen : 0 < s.length := by cases s with
      | nil => exact absurd rfl hs
      | cons a t => simp
    have f0 := hp_new w (.cells #[.func (.func 113) #[] #[.pointer (some ⟨a, 0, none⟩)], .func (.func 113) #[] #[.pointer (some ⟨b, 0, none⟩)]] 116)
    have hi : (Tryd.prog.info? 116).map (·.size) = some 2 := by kernel_rfl
    obtain ⟨d, hu⟩ := isStruct_of (P := Tryd.prog) (t := 116) (by kernel_rfl)
    have hld := run_loadVar_row _ _ _ _ _ _ _ f0 hu rfl hi
    have hcv := run_toBytes (w.alloc (.cells #[.func (.func 113) #[] #[.pointer (some ⟨a, 0, none⟩)], .func (.func 113) #[] #[.pointer (some ⟨b, 0, none⟩)]] 116)) s
    have hb1 : Below w.heap.size w (Lib.bytesWorld (w.alloc (.cells #[.func (.func 113) #[] #[.pointer (some ⟨a, 0, none⟩)], .func (.func 113) #[] #[.pointer (some ⟨b, 0, none⟩)]] 116)) 5 ⟨s.toArray⟩) := hb.trans ((Lib.bytesWorld_below _ _ _).mono hb.size)
    have CE := end_c (noColon isStart) (noColon isMore) a b _ _ _ s 0 _ ((byt_new (w.alloc (.cells #[.func (.func 113) #[] #[.pointer (some ⟨a, 0, none⟩)], .func (.func 113) #[] #[.pointer (some ⟨b, 0, none⟩)]] 116)) s (by omega)).more (Nat.le_of_eq (Lib.bytesWorld_size _ _ _).symm)) (hF.below hb1 hF.lt) (by omega) (Nat.zero_le _) ((hf.below hb1).more hb1.size) ((hg.below hb1).more hb1.size)
    rw [List.drop_zero, Nat.zero_add] at CE
    have hsz1 : (w.alloc (.cells #[.func (.func 113) #[] #[.pointer (some ⟨a, 0, none⟩)], .func (.func 113) #[] #[.pointer (some ⟨b, 0, none⟩)]] 116)).heap.size = w.heap.size + 1 := by simp
    rw [hsz1] at CE hcv
    have C1 := Lib.hid CE
    have HB1 := Lib.hid hb1
    have hle := endL_le s.length (noColon isStart) (noColon isMore) s
    clear f0 hu hi hF hb hb1 CE hsz1 hf hg
    unfold plainsV at *
    generalize endL (noColon isStart) (noColon isMore) s.length s = k at *
    go_enter Tryd.func81, Tryd.ntmps81
    go_wp2_with fail
    refine (C1.out).mono ?_
    rintro e w1 ⟨rfl, hb⟩
    have B1 := Lib.hid (HB1.out.trans (hb.mono HB1.out.size))
    clear hb
    by_cases hk : k = s.length
    · have hkt : ((k : Int) == (s.length : Int)) = true := by simp; omega
      have HD : Hid (decide (k = s.length) = true) := Lib.hid (by simpa using hk)
      clear hk
      go_wp2
      go_ret
      rw [HD.out]
      exact ⟨rfl, B1.out⟩
    · have hkt : ((k : Int) == (s.length : Int)) = false := by simp; omega
      have HD : Hid (decide (k = s.length) = false) := Lib.hid (by simpa using hk)
      clear hk
      go_wp2
      go_ret
      rw [HD.out]
      exact ⟨rfl, B1.out⟩
set_option maxRecDepth 100000 in
set_option maxHeartbeats 4000000 in
theorem isPlain_c (s : List UInt8) (w : World) (hF : Forms w) (hT : TabN w) (hm : s.length ≤ 50000) :
    Calls Tryd.prog 59 #[.string ⟨s.toArray⟩] w fun e w' => e = .returned (.bool (wholeB (noColon isStart) (noColon isMore) s)) ∧ Below w.heap.size w w' := by
  have hp := plains_c w hT (hT.low hF)
  have HH := Lib.hid (And.intro hF hm)
  clear hF hT hm
  go_enter Tryd.func59, Tryd.ntmps59
  go_wp2_with fail
  refine hp.mono ?_
  rintro e w1 ⟨a, b, rfl, hb, hf, hg⟩
  have C1 := Lib.hid (plainWhole_c a b s w1 (HH.out.1.below hb HH.out.1.lt) HH.out.2 hf hg)
  have B1 := Lib.hid hb
  clear hf hg hb hp
  go_wp2_with fail
  refine (C1.out).mono ?_
  rintro e w2 ⟨rfl, hb⟩
  have B2 := Lib.hid (B1.out.trans (hb.mono B1.out.size))
  clear hb
  go_wp2
  go_ret
  exact ⟨rfl, B2.out⟩
set_option maxRecDepth 100000 in
set_option maxHeartbeats 4000000 in
theorem refIs_c5 (pl : Bool) (s : List UInt8) (w : World) (hm : s.length ≤ 50000) :
    Calls Tryd.prog 34 #[.string ⟨s.toArray⟩, .bool pl] w fun e w' => e = .returned (.bool (wholeB (okName pl isStart) (okName pl isMore) s)) ∧ Below w.heap.size w w' := by
  by_cases hs : s = []
  · subst hs
    go_enter Tryd.func34, Tryd.ntmps34
    go_wp2
    go_ret
    exact ⟨rfl, Below.refl _ _⟩
  · rw [endL_wholeB _ _ _ hs]
    have hne : s.isEmpty = false := by cases s with
      | nil => exact absurd rfl hs
      | cons a t => rfl
    have hlen : 0 < s.length := by cases s with
      | nil => exact absurd rfl hs
      | cons a t => simp
    have hcv := run_toBytes w s
    have hb1 := Lib.bytesWorld_below w 5 ⟨s.toArray⟩
    have CE := refEnd_c pl _ _ _ s 0 _ ((byt_new w s (by omega)).more (Nat.le_of_eq (Lib.bytesWorld_size _ _ _).symm)) hm (Nat.zero_le _)
    rw [List.drop_zero, Nat.zero_add] at CE
    have C1 := Lib.hid CE
    have HB1 := Lib.hid hb1
    clear hb1 CE
    generalize endL (okName pl isStart) (okName pl isMore) s.length s = k at *
    go_enter Tryd.func34, Tryd.ntmps34
    go_wp2_with fail
    refine (C1.out).mono ?_
    rintro e w1 ⟨rfl, hb⟩
    have B1 := Lib.hid (HB1.out.trans (hb.mono HB1.out.size))
    clear hb
    by_cases hk : k = s.length
    · have hkt : ((k : Int) == (s.length : Int)) = true := by simp; omega
      have HD : Hid (decide (k = s.length) = true) := Lib.hid (by simpa using hk)
      clear hk
      go_wp2
      go_ret
      rw [HD.out]
      exact ⟨rfl, B1.out⟩
    · have hkt : ((k : Int) == (s.length : Int)) = false := by simp; omega
      have HD : Hid (decide (k = s.length) = false) := Lib.hid (by simpa using hk)
      clear hk
      go_wp2
      go_ret
      rw [HD.out]
      exact ⟨rfl, B1.out⟩
end Go.Proofs.YtocbofeanfdggaaDoor
/- Plain law of texts between marks. -/
namespace Go.Proofs.YtocbofeanfdggaaDoor
open Go.ChangeShapes Go.WideShapes Go.ChangeAt Go.RowKit
set_option linter.unusedVariables false
theorem bfalse {b : Bool} (h : ¬ b = true) : b = false := by
  cases b with
  | false => rfl
  | true => exact absurd rfl h
/-- The place of the first instance from k on; below 0: there is none. -/
def findI (l : List UInt8) (k : Nat) (p : List UInt8) : Int := if Lib.index (l.drop k) p < 0 then -1 else (k : Int) + Lib.index (l.drop k) p
theorem occ_drop (l p : List UInt8) (k j : Nat) : Lib.occAt (l.drop k) p j = p.isPrefixOf (l.drop (k + j)) := by unfold Lib.occAt; rw [List.drop_drop]
theorem findI_hit (l p : List UInt8) (k i : Nat) (hk : k ≤ i) (hi : i ≤ l.length) (h : p.isPrefixOf (l.drop i) = true) (hn : ∀ j, k ≤ j → j < i → p.isPrefixOf (l.drop j) = false) : findI l k p = i := by
  have := Lib.index_first (s := l.drop k) (sub := p) (i := i - k) (by rw [List.length_drop]; omega) (by rw [occ_drop, show k + (i - k) = i by omega]; exact h) (fun j hj => by rw [occ_drop]; exact hn _ (by omega) (by omega))
  unfold findI
  rw [this, if_neg (by omega)]
  omega
theorem findI_none (l p : List UInt8) (k : Nat) (hk : k ≤ l.length) (hn : ∀ j, k ≤ j → j ≤ l.length → p.isPrefixOf (l.drop j) = false) : findI l k p = -1 := by
  have := Lib.index_none (s := l.drop k) (sub := p) (fun j hj => by rw [occ_drop]; rw [List.length_drop] at hj; exact hn _ (by omega) (by omega))
  unfold findI
  rw [this, if_pos (by omega)]
/-- The byte at a place of what stands there. -/
theorem pre_get {p l : List UInt8} {k : Nat} (h : p.isPrefixOf (l.drop k) = true) (i : Nat) (hi : i < p.length) : l[k + i]? = p[i]? := by
  obtain ⟨t, ht⟩ := List.isPrefixOf_iff_prefix.1 h
  have : (l.drop k)[i]? = p[i]? := by rw [← ht, List.getElem?_append_left hi]
  rw [← this, List.getElem?_drop]
theorem pre_len {p l : List UInt8} {k : Nat} (h : p.isPrefixOf (l.drop k) = true) : p = [] ∨ k + p.length ≤ l.length := by
  have := (List.isPrefixOf_iff_prefix.1 h).length_le
  rw [List.length_drop] at this
  rcases p with _ | ⟨a, t⟩
  · exact .inl rfl
  · simp at this ⊢; omega
def mayComment (s : List UInt8) : Bool := !Lib.contains (s ++ [45]) [45, 45]
theorem contains_false (s p : List UInt8) (h : ∀ j, j + p.length ≤ s.length → p.isPrefixOf (s.drop j) = false) (hp : p ≠ []) : Lib.contains s p = false := by
  unfold Lib.contains
  rw [Lib.index_none]
  · rfl
  · intro j hj
    by_cases hjl : j + p.length ≤ s.length
    · exact h j hjl
    · unfold Lib.occAt
      refine Classical.byContradiction fun hc => ?_
      have := pre_len (l := s) (k := j) (by simpa using hc)
      rcases this with h' | h'
      · exact hp h'
      · omega
theorem contains_true (s p : List UInt8) (j : Nat) (hj : j ≤ s.length) (h : p.isPrefixOf (s.drop j) = true) : Lib.contains s p = true := by
  rcases Lib.index_spec s p with ⟨h', hn⟩ | ⟨i, h', _⟩
  · have := hn j hj
    unfold Lib.occAt at this
    rw [h] at this; cases this
  · unfold Lib.contains
    rw [h']
    simp
theorem contains_iff (s p : List UInt8) (hp : p ≠ []) : Lib.contains s p = true ↔ ∃ j, j + p.length ≤ s.length ∧ p.isPrefixOf (s.drop j) = true := by
  constructor
  · intro h
    refine Classical.byContradiction fun hc => ?_
    rw [contains_false s p (fun j hj => by refine Classical.byContradiction fun h' => ?_; exact hc ⟨j, hj, by simpa using h'⟩) hp] at h
    cases h
  · rintro ⟨j, hj, h⟩
    exact contains_true s p j (by omega) h
theorem pre_of_get {p l : List UInt8} {k : Nat} (h : ∀ i, i < p.length → l[k + i]? = p[i]?) : p.isPrefixOf (l.drop k) = true := by
  refine List.isPrefixOf_iff_prefix.2 ?_
  refine List.prefix_iff_eq_take.2 (List.ext_getElem? fun i => ?_)
  rw [List.getElem?_take]
  split
  · rename_i hi
    rw [List.getElem?_drop, h i hi]
  · rename_i hi
    rw [List.getElem?_eq_none (by omega)]
end Go.Proofs.YtocbofeanfdggaaDoor
/- Plain law: comments and marked texts as they are put. -/
namespace Go.Proofs.YtocbofeanfdggaaDoor
open Go.ChangeShapes Go.WideShapes Go.ChangeAt Go.RowKit
set_option linter.unusedVariables false
theorem findI_contains (l p : List UInt8) : 0 ≤ findI l 0 p ↔ Lib.contains l p = true := by
  unfold findI Lib.contains
  rw [List.drop_zero]
  split
  · rename_i h
    simp only [decide_eq_true_eq]
    omega
  · rename_i h
    simp only [decide_eq_true_eq]
    omega
end Go.Proofs.YtocbofeanfdggaaDoor
