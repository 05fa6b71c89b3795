/- Characters of bytes, all. -/
import Derived.Test.YtljmpghijlibaaaDoorRows
import Derived.WalkKit
import Derived.ProofKit
import Derived.OpenShut
import Derived.ShutString
import Derived.ChangeOld
import Derived.Below
import Derived.BigQuiet
import Derived.Deep.QuietTactic
import Derived.Lib.Hide
import Derived.Deep.RegionHeld3
import Derived.Lib.SlBytesConst
import Derived.Laws.CopyOwn
import Derived.Laws.CopyRow
import Derived.Lib.Bytes
import Derived.Deep.LoopGhost
import Derived.Deep.DeepFit
import Derived.Deep.DeepMust
import Derived.WalkSpells
import Derived.WalkLawsBesides
import Derived.Test.YtljmpghijlibaaaDoorBase
import Derived.Test.YtljmpghijlibaaaDoorShelf
import Derived.Test.YtljmpghijlibaaaDoorCharPlain
import Derived.Test.YtljmpghijlibaaaDoorUtf1
import Derived.Test.YtljmpghijlibaaaDoorUtf2
import Derived.Test.YtljmpghijlibaaaDoorUtf3
import Derived.Test.YtljmpghijlibaaaDoorChars1
import Derived.Test.YtljmpghijlibaaaDoorRef1
import Derived.Test.YtljmpghijlibaaaDoorRef2
import Derived.Test.YtljmpghijlibaaaDoorRef3
import Derived.Test.YtljmpghijlibaaaDoorY2
import Derived.Test.YtljmpghijlibaaaDoorName1
import Derived.Test.YtljmpghijlibaaaDoorName2
import Derived.Test.YtljmpghijlibaaaDoorName3
import Derived.Test.YtljmpghijlibaaaDoorCref1
import Derived.Test.YtljmpghijlibaaaDoorStr
import Derived.Test.YtljmpghijlibaaaDoorY3
import Derived.Test.YtljmpghijlibaaaDoorPub
namespace Go.Proofs.YtljmpghijlibaaaDoor
open Go.ChangeShapes Go.WideShapes Go.ChangeAt Go.RowKit
set_option linter.unusedVariables false
/-- The characters of bytes, and whether each is one. -/
def runesL : Nat → List UInt8 → List Nat × Bool
  | 0, _ => ([], true)
  | _ + 1, [] => ([], true)
  | f + 1, c :: t => match dec (c :: t) with
    | some (r, n) => (r :: (runesL f ((c :: t).drop n)).1, (runesL f ((c :: t).drop n)).2)
    | none => ([], false)
def runesOut (l : List UInt8) : List Nat × Bool := runesL l.length l
theorem runesL_nil (f : Nat) : runesL f [] = ([], true) := by cases f <;> rfl
theorem runesL_some (f : Nat) (l : List UInt8) (r n : Nat) (h : dec l = some (r, n)) : runesL (f + 1) l = (r :: (runesL f (l.drop n)).1, (runesL f (l.drop n)).2) := by
  cases l with
  | nil => simp [dec] at h
  | cons c t => simp only [runesL, h]
theorem runesL_none (f : Nat) (l : List UInt8) (h0 : l ≠ []) (h : dec l = none) : runesL (f + 1) l = ([], false) := by
  cases l with
  | nil => exact absurd rfl h0
  | cons c t => simp only [runesL, h]
theorem runesL_le (f : Nat) : ∀ l : List UInt8, (∀ r ∈ (runesL f l).1, r ≤ 1114111) ∧ (runesL f l).1.length ≤ l.length := by
  induction f with
  | zero => intro l; simp [runesL]
  | succ f ih =>
    intro l
    cases hd : dec l with
    | none =>
      by_cases h0 : l = []
      · rw [h0, runesL_nil]; simp
      · rw [runesL_none f l h0 hd]; simp
    | some x =>
      obtain ⟨r, n⟩ := x
      have hl := dec_le l r n hd
      have := ih (l.drop n)
      rw [runesL_some f l r n hd]
      refine ⟨fun y hy => ?_, ?_⟩
      · rcases List.mem_cons.1 hy with rfl | hy
        · exact hl.2.2.2
        · exact this.1 y hy
      · have h2 := this.2
        rw [List.length_drop] at h2
        simp only [List.length_cons]
        omega
theorem ownsRow_kept {w w' : World} {B : Nat} {e : TypeId} {c : Nat} {v : Value} {n : Nat} {xs : List Value} (h : w.ownsRow B e c v n xs) (hb : Below w.heap.size w w') : w'.ownsRow B e c v n xs :=
  h.kept (row := none) (hb.gr none) (by
    cases hv : v.ownBlock with
    | none => exact Or.inl rfl
    | some q => exact Or.inr (by simp))
def iv (r : Nat) : Value := .int .i64 (r : Int)
/-- What a function hands back of bytes' characters. -/
def RunesP (l : List UInt8) (w : World) (good : Int) (bad : Int → Prop) (e : Ending) (w' : World) : Prop :=
  Below w.heap.size w w' ∧ (((runesOut l).2 = true ∧ ∃ A c, e = .returned (.tuple #[.slice A (runesOut l).1.length c, .int .i64 good]) ∧ Rd w' w'.heap.size A (runesOut l).1.length c ((runesOut l).1.map iv)) ∨
    ((runesOut l).2 = false ∧ ∃ z, bad z ∧ e = .returned (.tuple #[.slice none 0 0, .int .i64 z])))
set_option maxRecDepth 100000 in
set_option maxHeartbeats 4000000 in
theorem refRunes_c (A : Option Addr) (n cap : Nat) (l : List UInt8) (w : World) (h : Byt w w.heap.size A n cap l) (hm : n ≤ 50000) :
    Calls Tryd.prog 50 #[.slice A n cap] w (RunesP l w (-1) (fun z => 0 ≤ z)) := by
  have hl := h.length
  have HBY := Lib.hid h
  have HR0 : Hid (runesOut l = ([] ++ (runesL l.length (l.drop 0)).1, (runesL l.length (l.drop 0)).2)) := Lib.hid (by simp [runesOut])
  have HL := Lib.hid hl
  clear h hl
  go_enter Tryd.func50, Tryd.ntmps50
  go_wp2
  go_loopg [4, 5] (n) (fun g v i wr => ∃ (k f : Nat) (acc : List Nat), k ≤ n ∧ Hid (g + k = n) ∧ Hid (n ≤ k + f) ∧ i = .int .i64 (k : Int) ∧ acc.length ≤ k ∧ Hid (wr.ownsRow w.heap.size 3 1 v acc.length (acc.map iv)) ∧ Hid (Below w.heap.size w wr) ∧ Hid (runesOut l = (acc ++ (runesL f (l.drop k)).1, (runesL f (l.drop k)).2)))
  case atStart => exact ⟨0, l.length, [], Nat.zero_le _, Lib.hid rfl, Lib.hid (by rw [HL.out]; omega), rfl, Nat.le_refl _, Lib.hid (World.ownsRow_nil _ _ _ _), Lib.hid (Below.refl _ _), HR0⟩
  case round =>
    obtain ⟨k, f, acc, hk, hg, hf, rfl, hal, HO, BR, HR⟩ := hrel
    have hk0 : (0 : Int) ≤ (k : Int) := by omega
    have hk1 : (k : Int) ≤ 50000 := by omega
    by_cases hkn : k < n
    · have hkni : (k : Int) < (n : Int) := by omega
      have HC := Lib.hid (refDec_c A n cap l k wr _ (HBY.out.below BR.out) hkn hm)
      have hne : l.drop k ≠ [] := by
        intro e
        have := congrArg List.length e
        rw [List.length_drop, HL.out] at this
        simp at this
        omega
      obtain ⟨f', hf'⟩ : ∃ f', f = f' + 1 := ⟨f - 1, by have := hf.out; omega⟩
      cases hd : dec (l.drop k) with
      | none =>
        have HE : Hid ((runesOut l).2 = false) := Lib.hid (by rw [HR.out, hf', runesL_none f' _ hne hd])
        rw [hd] at HC
        unfold pairV at HC
        clear hd hne hf'
        go_wp2_with fail
        refine HC.out.mono ?_
        rintro e w1 ⟨rfl, hb⟩
        have B1 : Hid (Below w.heap.size w w1) := Lib.hid (BR.out.trans (hb.mono BR.out.size))
        clear hb
        go_wp2
        go_ret2
        exact ⟨B1.out, Or.inr ⟨HE.out, (k : Int), by omega, rfl⟩⟩
      | some x =>
        obtain ⟨r, m⟩ := x
        have hle := dec_le _ r m hd
        rw [List.length_drop, HL.out] at hle
        have HR2 : Hid (runesOut l = ((acc ++ [r]) ++ (runesL f' (l.drop (k + m))).1, (runesL f' (l.drop (k + m))).2)) := Lib.hid (by
          rw [HR.out, hf', runesL_some f' _ r m hd, List.drop_drop]; simp)
        have HF : Hid (n ≤ k + m + f') := Lib.hid (by have := hf.out; omega)
        rw [hd] at HC
        unfold pairV at HC
        have hmz : ((m : Int) == 0) = false := by simp; omega
        have hmb : (m : Int) ≤ 4 := by omega
        have hm0 : (0 : Int) ≤ (m : Int) := by omega
        have HLE := Lib.hid hle
        clear hd hne hf' hle
        go_wp2_with fail
        refine HC.out.mono ?_
        rintro e w1 ⟨rfl, hb⟩
        have B1 : Below w.heap.size w w1 := BR.out.trans (hb.mono BR.out.size)
        have hown := ownsRow_kept HO.out hb
        have hsz := B1.size
        have HB1 := Lib.hid B1
        have HOW := Lib.hid hown
        clear hb B1 hown
        go_wp2_with (at_builtin; refine wpList_app1 rfl (.tmp 21) (.tmp 23) 72 3 rfl (.int .i64 0) 8 Tryd.underlying72 info_int rfl w.heap.size _ acc.length _ rfl HOW.out (.int .i64 (r : Int)) rfl rfl ?c1 (by decide) hsz w w.heap.size HB1.out (Nat.le_refl _) ?c2)
        case c1 => omega
        case c2 =>
          intro v' w2 hown' hb2 hs2
          have HO2 : Hid (w2.ownsRow w.heap.size 3 1 v' (acc ++ [r]).length ((acc ++ [r]).map iv)) := Lib.hid (by rw [List.length_append, List.map_append]; exact hown')
          have HB2 := Lib.hid hb2
          clear hown' hb2 hs2
          go_wp2
          go_roundg (n - (k + m))
          case measure => have := hg.out; have := HLE.out; omega
          case rel => exact ⟨k + m, f', acc ++ [r], by have := HLE.out; omega, Lib.hid (by have := HLE.out; omega), HF, by go_num, by have := HLE.out; simp; omega, HO2, HB2, HR2⟩
    · have hkni : ¬ (k : Int) < (n : Int) := by omega
      have hkd : l.drop k = [] := List.drop_eq_nil_of_le (by rw [HL.out]; omega)
      have HE : Hid (runesOut l = (acc, true)) := Lib.hid (by rw [HR.out, hkd, runesL_nil]; simp)
      clear hkd
      go_wp2
      go_ret2
      refine ⟨BR.out, Or.inl ⟨by rw [HE.out], ?_⟩⟩
      rw [HE.out]
      obtain ⟨A', c', rfl, hrd⟩ := own_form HO.out
      exact ⟨A', c', rfl, hrd⟩
def allOut (f : Int → Bool) (l : List UInt8) : Bool := (runesOut l).2 && (runesOut l).1.all fun r => f (r : Int)
theorem all_take (f : Int → Bool) (rs : List Nat) (t : Nat) (r : Nat) (h : rs[t]? = some r) : ((rs.take (t + 1)).all fun r => f (r : Int)) = ((rs.take t).all (fun r => f (r : Int)) && f (r : Int)) := by
  rw [List.take_add_one, h]
  simp
set_option maxRecDepth 100000 in
set_option maxHeartbeats 4000000 in
theorem refAll_c (A : Option Addr) (n cap : Nat) (l : List UInt8) (w : World) (h : Byt w w.heap.size A n cap l) (hm : n ≤ 50000) :
    Calls Tryd.prog 58 #[.slice A n cap, .int .i64 4] w fun e w' => e = .returned (.bool (allOut isPub l)) ∧ Below w.heap.size w w' := by
  have HR := Lib.hid (refRunes_c A n cap l w h hm)
  have hrl := runesL_le l.length l
  rw [h.length] at hrl
  have HIS : Hid (∀ (r : Nat) (w1 : World), r ≤ 1114111 → Calls Tryd.prog 86 #[.int .i64 4, .int .i64 (r : Int)] w1 fun e w' => e = .returned (.bool (isPub (r : Int))) ∧ w1 = w') := Lib.hid fun r w1 hr => (refIs_c 4 (by omega) (r : Int) w1 (by omega) (by omega)).mono fun e w' ⟨he, hw⟩ => ⟨by
    rw [he, cls_pub]
    cases isPub (r : Int) <;> rfl, hw⟩
  have HRL : Hid ((∀ r ∈ (runesOut l).1, r ≤ 1114111) ∧ (runesOut l).1.length ≤ n) := Lib.hid (by unfold runesOut; rw [← h.length] at *; exact hrl)
  have HA : Hid (allOut isPub l = ((runesOut l).2 && (runesOut l).1.all fun r => isPub (r : Int))) := Lib.hid rfl
  clear h hrl
  generalize allOut isPub l = res at *
  unfold RunesP at HR
  generalize runesOut l = ro at *
  obtain ⟨rs, ok⟩ := ro
  simp only at HR HRL HA
  go_enter Tryd.func58, Tryd.ntmps58
  go_wp2_with fail
  refine HR.out.mono ?_
  rintro e w1 ⟨hb, ⟨hok, A', c', rfl, hrd⟩ | ⟨hok, z, hz, rfl⟩⟩
  · have B1 := Lib.hid hb
    have HOK := Lib.hid hok
    have HRD := Lib.hid hrd
    clear hb hok hrd
    go_wp2
    go_loopg [7] (rs.length) (fun g i wr => ∃ t : Nat, t ≤ rs.length ∧ Hid (g + t = rs.length) ∧ i = .int .i64 (t : Int) ∧ w1 = wr ∧ Hid ((rs.take t).all (fun r => isPub (r : Int)) = true))
    case atStart => exact ⟨0, Nat.zero_le _, Lib.hid rfl, rfl, rfl, Lib.hid rfl⟩
    case round =>
      obtain ⟨t, ht, hg, rfl, rfl, HN⟩ := hrel
      have ht0 : (0 : Int) ≤ (t : Int) := by omega
      have htb : (t : Int) ≤ 50000 := by have := HRL.out.2; omega
      by_cases htn : t < rs.length
      · have htni : (t : Int) < (rs.length : Int) := by omega
        have hrt : rs[t]? = some (rs.getD t 0) := by rw [List.getElem?_eq_getElem htn]; simp [htn]
        obtain ⟨b, o, e, hbb, hcl⟩ := HRD.out.at_ (by have := HRD.out.le; omega)
        subst e
        have hcell := hcl t (iv (rs.getD t 0)) (by rw [List.getElem?_map, hrt]; rfl)
        have HAT := Lib.hid (all_take isPub rs t _ hrt)
        have HMEM := Lib.hid (HRL.out.1 _ (List.mem_of_getElem? hrt))
        have HAL : Hid (isPub (rs.getD t 0 : Int) = false → (rs.all fun r => isPub (r : Int)) = false) := Lib.hid (fun h => by
          rw [List.all_eq_false]
          exact ⟨_, List.mem_of_getElem? hrt, by rw [h]; simp⟩)
        unfold iv at hcell
        clear hcl hrt hbb
        generalize rs.getD t 0 = r at *
        have HII := Lib.hid (HIS.out r w1 HMEM.out)
        cases hp : isPub (r : Int) with
        | true =>
          have HN2 : Hid ((rs.take (t + 1)).all (fun r => isPub (r : Int)) = true) := Lib.hid (by rw [HAT.out, HN.out, hp]; rfl)
          rw [hp] at HII
          clear hp
          go_wp2_with fail
          refine HII.out.mono ?_
          rintro e w2 ⟨rfl, rfl⟩
          go_wp2
          go_roundg (rs.length - (t + 1))
          case measure => have := hg.out; omega
          case rel => exact ⟨t + 1, by omega, Lib.hid (by omega), by go_num, rfl, HN2⟩
        | false =>
          have HE : Hid (res = false) := Lib.hid (by rw [HA.out, HAL.out hp]; simp)
          rw [hp] at HII
          clear hp
          go_wp2_with fail
          refine HII.out.mono ?_
          rintro e w2 ⟨rfl, rfl⟩
          go_wp2
          go_ret
          rw [HE.out]
          exact ⟨rfl, B1.out⟩
      · have htni : ¬ (t : Int) < (rs.length : Int) := by omega
        have HE : Hid (res = true) := Lib.hid (by
          have := HN.out
          rw [List.take_of_length_le (by omega)] at this
          rw [HA.out, HOK.out, this]; rfl)
        go_wp2
        go_ret
        rw [HE.out]
        exact ⟨rfl, B1.out⟩
  · have B1 := Lib.hid hb
    have HE : Hid (res = false) := Lib.hid (by rw [HA.out, hok]; rfl)
    have hd : decide (0 ≤ z) = true := by simpa using hz
    clear hb hok hz
    go_wp2
    go_ret
    rw [HE.out]
    exact ⟨rfl, B1.out⟩
end Go.Proofs.YtljmpghijlibaaaDoor
