/- Texts of ours, joined: Fold, Fold2, Misc8, Law08b, PutPi, CkP, CkW, CnP, CnW. -/
import Derived.Test.YthihkbcdihochaaGreatDoorRows
import Derived.WalkKit
import Derived.ProofKit
import Derived.OpenShut
import Derived.ShutString
import Derived.ChangeOld
import Derived.Below
import Derived.BigQuiet
import Derived.Deep.QuietTactic
import Derived.Lib.Hide
import Derived.Deep.RegionHeld3
import Derived.Lib.SlBytesConst
import Derived.Laws.CopyOwn
import Derived.Laws.CopyRow
import Derived.Lib.Bytes
import Derived.Deep.LoopGhost
import Derived.Deep.DeepFit
import Derived.Deep.DeepMust
import Derived.WalkSpells
import Derived.WalkLawsBesides
import Derived.Laws.EntriesVeiled
import Derived.Laws.Rows
import Derived.Lib.Fold
import Derived.ScopeJumps
import Derived.Outline
import Derived.WalkMore
import Derived.Laws.RangeAny
import Derived.Lib.FieldsLaws
import Derived.Lib.Walk
import Derived.Lib.Strings
import Derived.Laws.Strings3
import Derived.Laws.BitsAllLaws
import Derived.Test.YthihkbcdihochaaGreatDoorC1
import Derived.Test.YthihkbcdihochaaGreatDoorC4
import Derived.Test.YthihkbcdihochaaGreatDoorC2
import Derived.Test.YthihkbcdihochaaGreatDoorC3
import Derived.Maps.OwnOps
import Derived.Maps.OwnSet
import Derived.Maps.Views
import Derived.Maps.AppendAt
import Derived.Lib.SmallJoins
import Derived.Deep.AppendLies
import Derived.DeepKeys4
import Derived.MapViews
import Derived.Maps.Keyed
import Derived.Carry
/- strings.EqualFold of what is not ASCII. -/
namespace Go.Proofs.YthihkbcdihochaaGreatDoor
open Go.ChangeShapes Go.WideShapes Go.ChangeAt Go.RowKit
set_option linter.unusedVariables false
theorem foldEq_hi (x y : UInt8) (hy : y.toNat < 128) (hx : 128 ≤ x.toNat) : Lib.foldEq x y = false := by
  unfold Lib.foldEq
  exact decide_eq_false (by omega)
theorem equalFold_hi : ∀ (s t : List UInt8) (j : Nat) (b : UInt8), (∀ c ∈ t, c.toNat < 128) → s[j]? = some b → 128 ≤ b.toNat → Lib.equalFold s t = false
  | [], _, _, _, _, h, _ => by simp at h
  | x :: s, [], _, _, _, _, _ => rfl
  | x :: s, y :: t, 0, b, ht, h, hb => by
    simp at h
    subst h
    exact Lib.equalFold_no _ _ _ _ (foldEq_hi _ _ (ht y (by simp)) hb)
  | x :: s, y :: t, j + 1, b, ht, h, hb => by
    have := equalFold_hi s t j b (fun c hc => ht c (by simp [hc])) (by simpa using h) hb
    simp [Lib.equalFold, this]
/-- Letters that fold to one another and to nothing else, and signs that fold to themselves: of 'xml' and 'utf-8'. -/
def foldPairs : List (Nat × Nat) := [(120, 88), (88, 120), (109, 77), (77, 109), (108, 76), (76, 108), (117, 85), (85, 117), (116, 84), (84, 116), (102, 70), (70, 102), (45, 45), (56, 56)]
def FoldT (w : World) : Prop := ∀ p ∈ foldPairs, w.cell? ⟨14, p.1, none⟩ = some (.int .u16 (p.2 : Int))
theorem FoldT.lt {w : World} (h : FoldT w) : 14 < w.heap.size := World.block_lt_of_cell? w _ (h (120, 88) (by simp [foldPairs]))
theorem FoldT.below {w w' : World} {B : Nat} (h : FoldT w) (hb : Below B w w') (hB : 14 < B) : FoldT w' := fun p hp => by rw [hb.cell hB]; exact h p hp
theorem foldPairs_lt : ∀ p ∈ foldPairs, p.1 < 128 ∧ p.2 < 128 := by decide
set_option maxRecDepth 100000 in
set_option maxHeartbeats 4000000 in
theorem simpleFold_c (r f : Nat) (w : World) (hr : r < 128) (hf : f < 128) (hc : w.cell? ⟨14, r, none⟩ = some (.int .u16 (f : Int))) :
    Calls Tryz.prog 274 #[.int .i32 r] w fun e w' => e = .returned (.int .i32 f) ∧ w = w' := by
  have h0 : ¬ (r : Int) < 0 := by omega
  have h1 : (r : Int) < 128 := by omega
  have h1' : r < 128 := hr
  have h2 : (0 : Int) ≤ (r : Int) := by omega
  have h3 : (0 : Int) ≤ (f : Int) := by omega
  have h4 : (f : Int) < 128 := by omega
  clear hr hf
  go_enter Tryz.func274, Tryz.ntmps274
  go_wp2
  go_ret
  exact ⟨rfl, rfl⟩
theorem run_strFrom (l : List UInt8) (i : Nat) (h : i ≤ l.length) (w : World) :
    (Instr.slice 9 (.string ⟨l.toArray⟩) (some (.int .i64 (i : Int))) none none).run Tryz.prog w = .ok (.string ⟨(l.drop i).toArray⟩) w := by
  have hsz : (⟨l.toArray⟩ : ByteArray).size = l.length := by simp [ByteArray.size]
  rw [run_slice_string_l (P := Tryz.prog) (w := w) (t := 9) (s := ⟨l.toArray⟩) Tryz.underlying9 .i64 (i : Int) (by omega) (by rw [hsz]; omega)]
  congr 2
  refine ByteArray.ext (Array.toList_inj.1 ?_)
  rw [Lib.extract_data]
  rw [hsz]
  exact List.take_of_length_le (by simp)
/-- At the label: the two strings, and the place of the first byte that is not ASCII. -/
def FoldJ (s t : List UInt8) (i0 : Nat) (w : World) (a' : Act) (w' : World) : Prop := w' = w ∧ ∃ u : Nat → Value, u 0 = .string ⟨s.toArray⟩ ∧ u 1 = .string ⟨t.toArray⟩ ∧ u 5 = .int .i64 i0 ∧ a' = { tmps := #[u 0, u 1, u 2, u 3, u 4, u 5, u 6, u 7, u 8, u 9, u 10, u 11, u 12, u 13, u 14, u 15, u 16, u 17, u 18, u 19, u 20, u 21, u 22, u 23, u 24, u 25, u 26, u 27, u 28, u 29, u 30, u 31, u 32, u 33, u 34, u 35, u 36, u 37, u 38, u 39, u 40, u 41, u 42, u 43, u 44, u 45, u 46, u 47, u 48, u 49, u 50, u 51, u 52, u 53, u 54, u 55, u 56, u 57, u 58, u 59, u 60, u 61, u 62, u 63, u 64, u 65, u 66, u 67, u 68, u 69, u 70, u 71, u 72, u 73, u 74, u 75, u 76, u 77, u 78, u 79, u 80, u 81, u 82, u 83, u 84, u 85, u 86, u 87, u 88, u 89, u 90, u 91, u 92, u 93, u 94, u 95, u 96, u 97, u 98, u 99, u 100, u 101, u 102, u 103, u 104, u 105, u 106, u 107, u 108, u 109, u 110, u 111, u 112, u 113, u 114, u 115, u 116, u 117, u 118, u 119, u 120, u 121, u 122], defers := [] }
theorem foldJ_of {s t : List UInt8} {i0 : Nat} {w : World} (tm : Array Value) (h : tm = #[tm.getD 0 undef, tm.getD 1 undef, tm.getD 2 undef, tm.getD 3 undef, tm.getD 4 undef, tm.getD 5 undef, tm.getD 6 undef, tm.getD 7 undef, tm.getD 8 undef, tm.getD 9 undef, tm.getD 10 undef, tm.getD 11 undef, tm.getD 12 undef, tm.getD 13 undef, tm.getD 14 undef, tm.getD 15 undef, tm.getD 16 undef, tm.getD 17 undef, tm.getD 18 undef, tm.getD 19 undef, tm.getD 20 undef, tm.getD 21 undef, tm.getD 22 undef, tm.getD 23 undef, tm.getD 24 undef, tm.getD 25 undef, tm.getD 26 undef, tm.getD 27 undef, tm.getD 28 undef, tm.getD 29 undef, tm.getD 30 undef, tm.getD 31 undef, tm.getD 32 undef, tm.getD 33 undef, tm.getD 34 undef, tm.getD 35 undef, tm.getD 36 undef, tm.getD 37 undef, tm.getD 38 undef, tm.getD 39 undef, tm.getD 40 undef, tm.getD 41 undef, tm.getD 42 undef, tm.getD 43 undef, tm.getD 44 undef, tm.getD 45 undef, tm.getD 46 undef, tm.getD 47 undef, tm.getD 48 undef, tm.getD 49 undef, tm.getD 50 undef, tm.getD 51 undef, tm.getD 52 undef, tm.getD 53 undef, tm.getD 54 undef, tm.getD 55 undef, tm.getD 56 undef, tm.getD 57 undef, tm.getD 58 undef, tm.getD 59 undef, tm.getD 60 undef, tm.getD 61 undef, tm.getD 62 undef, tm.getD 63 undef, tm.getD 64 undef, tm.getD 65 undef, tm.getD 66 undef, tm.getD 67 undef, tm.getD 68 undef, tm.getD 69 undef, tm.getD 70 undef, tm.getD 71 undef, tm.getD 72 undef, tm.getD 73 undef, tm.getD 74 undef, tm.getD 75 undef, tm.getD 76 undef, tm.getD 77 undef, tm.getD 78 undef, tm.getD 79 undef, tm.getD 80 undef, tm.getD 81 undef, tm.getD 82 undef, tm.getD 83 undef, tm.getD 84 undef, tm.getD 85 undef, tm.getD 86 undef, tm.getD 87 undef, tm.getD 88 undef, tm.getD 89 undef, tm.getD 90 undef, tm.getD 91 undef, tm.getD 92 undef, tm.getD 93 undef, tm.getD 94 undef, tm.getD 95 undef, tm.getD 96 undef, tm.getD 97 undef, tm.getD 98 undef, tm.getD 99 undef, tm.getD 100 undef, tm.getD 101 undef, tm.getD 102 undef, tm.getD 103 undef, tm.getD 104 undef, tm.getD 105 undef, tm.getD 106 undef, tm.getD 107 undef, tm.getD 108 undef, tm.getD 109 undef, tm.getD 110 undef, tm.getD 111 undef, tm.getD 112 undef, tm.getD 113 undef, tm.getD 114 undef, tm.getD 115 undef, tm.getD 116 undef, tm.getD 117 undef, tm.getD 118 undef, tm.getD 119 undef, tm.getD 120 undef, tm.getD 121 undef, tm.getD 122 undef]) (h0 : tm.getD 0 undef = .string ⟨s.toArray⟩) (h1 : tm.getD 1 undef = .string ⟨t.toArray⟩) (h5 : tm.getD 5 undef = .int .i64 i0) : FoldJ s t i0 w { tmps := tm, defers := [] } w :=
  ⟨rfl, fun i => tm.getD i undef, h0, h1, h5, congrArg (fun x => ({ tmps := x, defers := [] } : Act)) h⟩
set_option maxRecDepth 1000000 in
set_option maxHeartbeats 8000000 in
theorem equalFold_high (s t : List UInt8) (i0 : Nat) (x c : UInt8) (f : Nat) (w : World) (hs : s.length = t.length) (hs1 : s.length ≤ 1000) (ht : ∀ (j : Nat) b, t[j]? = some b → b.toNat < 128) (hlo : ∀ j b, j < i0 → s[j]? = some b → b.toNat < 128) (hx : s[i0]? = some x) (hx1 : 128 ≤ x.toNat) (hc : t[i0]? = some c)
    (hp1 : (c.toNat, f) ∈ foldPairs) (hp2 : (f, c.toNat) ∈ foldPairs) (hT : FoldT w) :
    Calls Tryz.prog 271 #[.string ⟨s.toArray⟩, .string ⟨t.toArray⟩] w fun e w' => e = .returned (.bool false) ∧ Below w.heap.size w w' := by
  have HS := Lib.hid (And.intro hs (And.intro ht (And.intro hlo (And.intro hx (And.intro hc (And.intro hp1 (And.intro hp2 hT)))))))
  have hsz : (⟨s.toArray⟩ : ByteArray).size = s.length := by simp [ByteArray.size]
  have htz : (⟨t.toArray⟩ : ByteArray).size = s.length := by simp [ByteArray.size, hs]
  have hi0 : i0 < s.length := (List.getElem?_eq_some_iff.1 hx).1
  clear hs ht hlo hx hc hp1 hp2 hT
  go_enter Tryz.func271, Tryz.ntmps271
  go_wp2
  refine wp_scope_jumps 0 (FoldJ s t i0 w) (fun _ _ => 0) rfl ?_ ?_
  · go_wp2
    go_loopg [5] i0 (fun g v wx => w = wx ∧ ∃ i : Nat, i ≤ i0 ∧ Hid (g + i = i0) ∧ v = .int .i64 i)
    case atStart => exact ⟨rfl, 0, Nat.zero_le _, Lib.hid rfl, rfl⟩
    case round =>
      obtain ⟨rfl, i, hi, hg, rfl⟩ := hrel
      have hi1 : (i : Int) < (s.length : Int) := by omega
      have hi2 : (0 : Int) ≤ (i : Int) := by omega
      have hi3 : (i : Int) ≤ 1000 := by omega
      have hix := run_strIndex s i (by omega) w
      have hit := run_strIndex t i (by rw [← HS.out.1]; omega) w
      have HX : Hid (s[i]? = some (s.getD i 0)) := Lib.hid (by rw [List.getElem?_eq_getElem (by omega)]; simp [show i < s.length by omega])
      have HC : Hid (t[i]? = some (t.getD i 0)) := Lib.hid (by rw [List.getElem?_eq_getElem (by rw [← HS.out.1]; omega)]; simp [show i < t.length by rw [← HS.out.1]; omega])
      generalize s.getD i 0 = x' at *
      generalize t.getD i 0 = c' at *
      have hc128 : c'.toNat < 128 := HS.out.2.1 i c' HC.out
      have hx256 : x'.toNat < 256 := x'.toNat_lt
      have hor : bits .or .u8 (x'.toNat : Int) (c'.toNat : Int) = ((x'.toNat ||| c'.toNat : Nat) : Int) := u8_or_nat _ _ (by omega) (by omega)
      by_cases he : i = i0
      · subst he
        have hxe : x' = x := by have := HX.out; rw [HS.out.2.2.2.1] at this; exact (Option.some.inj this).symm
        subst hxe
        have hor128 : (128 : Int) ≤ ((x'.toNat ||| c'.toNat : Nat) : Int) := by have := Nat.left_le_or (n := x'.toNat) (m := c'.toNat); omega
        generalize ((x'.toNat ||| c'.toNat : Nat) : Int) = orv at *
        go_wp2
        go_step3
        exact ⟨rfl, foldJ_of _ rfl rfl rfl rfl⟩
      · have hx128 : x'.toNat < 128 := HS.out.2.2.1 i x' (by omega) HX.out
        have hor128 : ¬ ((128 : Int) ≤ ((x'.toNat ||| c'.toNat : Nat) : Int)) := by have := Nat.or_lt_two_pow (n := 7) hx128 hc128; omega
        go_wp2
        all_goals first
          | (go_roundg (i0 - (i + 1))
             case measure => have := hg.out; omega
             case rel => exact ⟨rfl, i + 1, by omega, Lib.hid (by omega), by go_num⟩)
          | ((try simp only [Exit.jump])
             go_ret
             exact ⟨rfl, Below.refl _ _⟩)
  · intro a' w' hJ
    obtain ⟨rfl, u, h0, h1, h5, rfl⟩ := hJ
    rw [h0, h1, h5]
    clear h0 h1 h5
    have hsl := run_strFrom s i0 (by omega)
    have htl := run_strFrom t i0 (by rw [← HS.out.1]; omega)
    obtain ⟨T', hT'⟩ : ∃ T', t.drop i0 = c :: T' := ⟨_, drop_cons t i0 c HS.out.2.2.2.2.1⟩
    obtain ⟨S', hS'⟩ : ∃ S', s.drop i0 = x :: S' := ⟨_, drop_cons s i0 x HS.out.2.2.2.1⟩
    rw [hT'] at htl
    rw [hS'] at hsl
    have htl1 := run_strFrom (c :: T') 1 (by simp)
    simp only [List.drop_succ_cons, List.drop_zero] at htl1
    have hSz : 0 < (⟨(x :: S').toArray⟩ : ByteArray).size := by simp [ByteArray.size]
    have hnx := fun ty => run_next_any (P := Tryz.prog) w' ⟨(x :: S').toArray⟩ 0 ty hSz
    have hdh := decode_high ⟨(x :: S').toArray⟩ 0 hSz hx1
    have hdl := decode_le ⟨(x :: S').toArray⟩ 0
    have hr1 := hdh.1
    generalize Utf8.decode ⟨(x :: S').toArray⟩ 0 = dc at *
    obtain ⟨r, m⟩ := dc
    simp only [Nat.zero_add] at hr1 hdl hnx
    have hcf := foldPairs_lt _ HS.out.2.2.2.2.2.1
    have hb : Below w'.heap.size w' (w'.iter ⟨(x :: S').toArray⟩ m) := (Below.refl _ _).alloc (Nat.le_refl _) _
    have HB := Lib.hid hb
    have CD := Lib.hid (Tryz.utf8_DecodeRuneInString_ascii ⟨(c :: T').toArray⟩ c (w'.iter ⟨(x :: S').toArray⟩ m) (by simp) hcf.1)
    have hT2 := HS.out.2.2.2.2.2.2.2.below hb HS.out.2.2.2.2.2.2.2.lt
    have CF := Lib.hid (simpleFold_c c.toNat f _ hcf.1 hcf.2 (hT2 _ HS.out.2.2.2.2.2.1))
    have CG := Lib.hid (simpleFold_c f c.toNat _ hcf.2 hcf.1 (hT2 _ HS.out.2.2.2.2.2.2.1))
    have hc0 : (0 : Int) ≤ (c.toNat : Int) := by omega
    have hc1 : (c.toNat : Int) < 128 := by omega
    have hf0 : (0 : Int) ≤ (f : Int) := by omega
    have hf1 : (f : Int) < 128 := by omega
    have hcr : (c.toNat : Int) < (r : Int) := by omega
    have hce : ((c.toNat : Int) == (r : Int)) = false := by simp; omega
    have hr128 : ¬ (r : Int) < 128 := by omega
    have hfr : (f : Int) < (r : Int) := by omega
    have hl0 : (((T'.length : Int) + 1) == 0) = false := by simp; omega
    clear hT' hS' hdh hcf hb hT2
    by_cases hfc : f = c.toNat
    · subst hfc
      clear CG
      generalize (c.toNat : Int) = cn at *
      go_wp2
      refine wp_loop_rounds 1 ?_
      rw [rounds_succ]
      go_wp2_with fail
      refine (CD.out).mono ?_
      rintro e wq ⟨rfl, hwq⟩
      subst hwq
      go_wp2_with fail
      refine (CF.out).mono ?_
      rintro e wq ⟨rfl, rfl⟩
      go_wp2
      refine wp_loop_rounds 1 ?_
      rw [rounds_succ]
      go_wp2
      (try simp only [Exit.jump])
      go_ret
      exact ⟨rfl, HB.out⟩
    · have hfne : ((f : Int) != (c.toNat : Int)) = true := by simp; omega
      generalize (c.toNat : Int) = cn at *
      go_wp2
      refine wp_loop_rounds 1 ?_
      rw [rounds_succ]
      go_wp2_with fail
      refine (CD.out).mono ?_
      rintro e wq ⟨rfl, hwq⟩
      subst hwq
      go_wp2_with fail
      refine (CF.out).mono ?_
      rintro e wq ⟨rfl, rfl⟩
      go_wp2
      refine wp_loop_rounds 2 ?_
      rw [rounds_succ]
      go_wp2_with fail
      refine (CG.out).mono ?_
      rintro e wq ⟨rfl, rfl⟩
      go_wp2
      rw [rounds_succ]
      go_wp2
      (try simp only [Exit.jump])
      go_ret
      exact ⟨rfl, HB.out⟩
end Go.Proofs.YthihkbcdihochaaGreatDoor
/- strings.EqualFold of texts of one length, of ASCII letters. -/
namespace Go.Proofs.YthihkbcdihochaaGreatDoor
open Go.ChangeShapes Go.WideShapes Go.ChangeAt Go.RowKit
set_option linter.unusedVariables false
theorem equalFold_c (s t : List UInt8) (w : World) (hs : s.length = t.length) (hs1 : s.length ≤ 1000) (ht : ∀ c ∈ t, ∃ f, (c.toNat, f) ∈ foldPairs ∧ (f, c.toNat) ∈ foldPairs) (hT : FoldT w) :
    Calls Tryz.prog 271 #[.string ⟨s.toArray⟩, .string ⟨t.toArray⟩] w fun e w' => e = .returned (.bool (Lib.equalFold s t)) ∧ Below w.heap.size w w' := by
  have ht1 : ∀ (j : Nat) b, t[j]? = some b → b.toNat < 128 := fun j b hb => by
    obtain ⟨f, h1, _⟩ := ht b (List.mem_of_getElem? hb)
    exact (foldPairs_lt _ h1).1
  by_cases hall : ∀ (j : Nat) b, s[j]? = some b → b.toNat < 128
  · exact (Tryz.strings_EqualFold ⟨s.toArray⟩ ⟨t.toArray⟩ w (by simp [ByteArray.size]; omega) hall ht1).mono fun e w' ⟨he, hw⟩ => ⟨he, by rw [hw]; exact Below.refl _ _⟩
  · have hex : ∃ (i0 : Nat) (x : UInt8), s[i0]? = some x ∧ 128 ≤ x.toNat ∧ ∀ (j : Nat) (b : UInt8), j < i0 → s[j]? = some b → b.toNat < 128 := by
      have : ∃ n : Nat, ∃ x : UInt8, s[n]? = some x ∧ 128 ≤ x.toNat := by
        refine Classical.byContradiction fun hc => hall fun j b hb => ?_
        refine Classical.byContradiction fun h2 => hc ⟨j, b, hb, by omega⟩
      obtain ⟨n, hn⟩ := this
      induction n using Nat.strongRecOn with
      | _ n ih =>
        by_cases hlow : ∀ (j : Nat) (b : UInt8), j < n → s[j]? = some b → b.toNat < 128
        · obtain ⟨x, h1, h2⟩ := hn
          exact ⟨n, x, h1, h2, hlow⟩
        · have : ∃ m, m < n ∧ ∃ x : UInt8, s[m]? = some x ∧ 128 ≤ x.toNat := by
            refine Classical.byContradiction fun hc => hlow fun j b hj hb => ?_
            refine Classical.byContradiction fun h2 => hc ⟨j, hj, b, hb, by omega⟩
          obtain ⟨m, hm, hm2⟩ := this
          exact ih m hm hm2
    obtain ⟨i0, x, hx, hx1, hlo⟩ := hex
    have hi0 : i0 < t.length := by rw [← hs]; exact (List.getElem?_eq_some_iff.1 hx).1
    obtain ⟨f, hp1, hp2⟩ := ht t[i0] (List.getElem_mem hi0)
    rw [equalFold_hi s t i0 x (fun c hc => by
      obtain ⟨j, hj⟩ := List.mem_iff_getElem?.1 hc
      exact ht1 j c hj) hx hx1]
    exact equalFold_high s t i0 x t[i0] f w hs hs1 ht1 hlo hx hx1 (List.getElem?_eq_getElem hi0) hp1 hp2 hT
theorem xmlFold : ∀ c ∈ ([120, 109, 108] : List UInt8), ∃ f, (c.toNat, f) ∈ foldPairs ∧ (f, c.toNat) ∈ foldPairs := by
  intro c hc
  simp at hc
  rcases hc with rfl | rfl | rfl
  · exact ⟨88, by decide, by decide⟩
  · exact ⟨77, by decide, by decide⟩
  · exact ⟨76, by decide, by decide⟩
end Go.Proofs.YthihkbcdihochaaGreatDoor
/- Reserved names. -/
namespace Go.Proofs.YthihkbcdihochaaGreatDoor
open Go.ChangeShapes Go.WideShapes Go.ChangeAt Go.RowKit
set_option linter.unusedVariables false
theorem resB_len (s : List UInt8) (h : s.length ≠ 3) : resB s = false := by
  unfold resB
  match s, h with
  | [], _ => rfl
  | [_], _ => simp [Lib.equalFold]
  | [_, _], _ => simp [Lib.equalFold]
  | [_, _, _], h => simp at h
  | _ :: _ :: _ :: _ :: _, _ => simp [Lib.equalFold]
set_option maxRecDepth 100000 in
set_option maxHeartbeats 4000000 in
theorem miscReserved_c (s : List UInt8) (w : World) (hT : FoldT w) : Calls Tryz.prog 262 #[.string ⟨s.toArray⟩] w fun e w' => e = .returned (.bool (resB s)) ∧ Below w.heap.size w w' := by
  by_cases h : s.length = 3
  · have C1 := Lib.hid (equalFold_c s [120, 109, 108] w (by simp [h]) (by omega) xmlFold hT)
    have hl : ((s.length : Int) == 3) = true := by simp; omega
    unfold resB
    clear h hT
    generalize Lib.equalFold s [120, 109, 108] = r at *
    go_enter Tryz.func262, Tryz.ntmps262
    go_wp2_with fail
    refine (C1.out).mono ?_
    rintro e w1 ⟨rfl, hb⟩
    have B1 := Lib.hid hb
    clear hb
    go_wp2
    go_ret
    exact ⟨rfl, B1.out⟩
  · rw [resB_len s h]
    exact (reserved_len s w h).mono fun e w' ⟨he, hw⟩ => ⟨he, hw ▸ Below.refl _ _⟩
end Go.Proofs.YthihkbcdihochaaGreatDoor
/- The law MiscReads. -/
namespace Go.Proofs.YthihkbcdihochaaGreatDoor
open Go.ChangeShapes Go.WideShapes Go.ChangeAt Go.RowKit
set_option linter.unusedVariables false
structure W8F (w : World) : Prop extends W8 w where
  fold : FoldT w
theorem W8F.below {w w' : World} (h : W8F w) (hb : Below w.heap.size w w') : W8F w' := ⟨h.toW8.below hb, h.fold.below hb h.fold.lt⟩
end Go.Proofs.YthihkbcdihochaaGreatDoor
/- misc.PutPi. -/
namespace Go.Proofs.YthihkbcdihochaaGreatDoor
open Go.ChangeShapes Go.WideShapes Go.ChangeAt Go.RowKit
set_option linter.unusedVariables false
def blankHead : List UInt8 → Bool
  | [] => false
  | c :: _ => isBl c
def dataOf : List UInt8 → List UInt8
  | [] => []
  | c :: d => 32 :: c :: d
def isPl (t : List UInt8) : Bool := wholeB (noColon isStart) (noColon isMore) t
def putPiOut (t d : List UInt8) : List UInt8 × Nat :=
  if isPl t = false ∨ resB t = true ∨ Lib.contains d [63, 62] = true ∨ blankHead d = true then ([], 7) else if 1024 < t.length then ([], 11) else ([60, 63] ++ t ++ dataOf d ++ [63, 62], 0)
theorem putPi_bad (t d : List UInt8) (h : isPl t = false ∨ resB t = true ∨ Lib.contains d [63, 62] = true ∨ blankHead d = true) : putPiOut t d = ([], 7) := by unfold putPiOut; rw [if_pos h]
theorem putPi_long (t d : List UInt8) (h1 : isPl t = true) (h2 : resB t = false) (h3 : Lib.contains d [63, 62] = false) (h4 : blankHead d = false) (h : 1024 < t.length) : putPiOut t d = ([], 11) := by
  unfold putPiOut
  rw [if_neg (by simp [h1, h2, h3, h4]), if_pos h]
theorem putPi_ok (t d : List UInt8) (h1 : isPl t = true) (h2 : resB t = false) (h3 : Lib.contains d [63, 62] = false) (h4 : blankHead d = false) (h : ¬ 1024 < t.length) : putPiOut t d = ([60, 63] ++ t ++ dataOf d ++ [63, 62], 0) := by
  unfold putPiOut
  rw [if_neg (by simp [h1, h2, h3, h4]), if_neg h]
def out2V (o : List UInt8 × Nat) : Value := .tuple #[.string ⟨o.1.toArray⟩, .int .i64 (o.2 : Int)]
set_option maxRecDepth 100000 in
set_option maxHeartbeats 4000000 in
theorem putPi_c (t d : List UInt8) (w : World) (hW : W8F w) (ht : t.length ≤ 5000) (hd : d.length ≤ 5000) :
    Calls Tryz.prog 240 #[.string ⟨t.toArray⟩, .string ⟨d.toArray⟩] w fun e w' => e = .returned (out2V (putPiOut t d)) ∧ Below w.heap.size w w' := by
  have C1 : Hid (Calls Tryz.prog 237 #[.string ⟨t.toArray⟩] w fun e w' => e = .returned (.bool (isPl t)) ∧ Below w.heap.size w w') := Lib.hid (isPlain_c t w hW.forms hW.tabs (by omega))
  have C2 : Hid (∀ W, Below w.heap.size w W → Calls Tryz.prog 262 #[.string ⟨t.toArray⟩] W fun e w' => e = .returned (.bool (resB t)) ∧ Below W.heap.size W w') := Lib.hid fun W hb => miscReserved_c t W (hW.below hb).fold
  have C3 : Hid (∀ W, Below w.heap.size w W → Calls Tryz.prog 165 #[.string ⟨d.toArray⟩, .string ⟨#[63, 62]⟩] W fun e w' => e = .returned (.bool (Lib.contains d [63, 62])) ∧ W = w') := Lib.hid fun W hb => contains_c d [63, 62] W (hW.below hb).maxl (by omega)
  clear hW
  by_cases h1 : isPl t = false
  · rw [putPi_bad t d (.inl h1)]
    rw [h1] at C1
    clear h1 C2 C3
    go_enter Tryz.func240, Tryz.ntmps240
    go_wp2_with fail
    refine (C1.out).mono ?_
    rintro e w1 ⟨rfl, hb⟩
    have B1 := Lib.hid hb
    clear hb
    go_wp2
    go_ret2
    exact ⟨rfl, B1.out⟩
  · have h1' : isPl t = true := by simpa using h1
    rw [h1'] at C1
    by_cases h2 : resB t = true
    · rw [putPi_bad t d (.inr (.inl h2))]
      rw [h2] at C2
      clear h1 h1' h2 C3
      go_enter Tryz.func240, Tryz.ntmps240
      go_wp2_with fail
      refine (C1.out).mono ?_
      rintro e w1 ⟨rfl, hb⟩
      have B1 := Lib.hid hb
      clear hb
      go_wp2_with fail
      refine (C2.out _ B1.out).mono ?_
      rintro e w2 ⟨rfl, hb⟩
      have B2 := Lib.hid (B1.out.trans (hb.mono B1.out.size))
      clear hb
      go_wp2
      go_ret2
      exact ⟨rfl, B2.out⟩
    · have h2' := bfalse h2
      rw [h2'] at C2
      by_cases h3 : Lib.contains d [63, 62] = true
      · rw [putPi_bad t d (.inr (.inr (.inl h3)))]
        rw [h3] at C3
        clear h1 h1' h2 h2' h3
        go_enter Tryz.func240, Tryz.ntmps240
        go_wp2_with fail
        refine (C1.out).mono ?_
        rintro e w1 ⟨rfl, hb⟩
        have B1 := Lib.hid hb
        clear hb
        go_wp2_with fail
        refine (C2.out _ B1.out).mono ?_
        rintro e w2 ⟨rfl, hb⟩
        have B2 := Lib.hid (B1.out.trans (hb.mono B1.out.size))
        clear hb
        go_wp2_with fail
        refine (C3.out _ B2.out).mono ?_
        rintro e wq ⟨rfl, rfl⟩
        go_wp2
        go_ret2
        exact ⟨rfl, B2.out⟩
      · have h3' := bfalse h3
        rw [h3'] at C3
        have ct1 : ∀ W, (Op.stringOp .add ⟨#[60, 63]⟩ ⟨t.toArray⟩).run Tryz.prog W = .ok (.string ⟨([60, 63] ++ t).toArray⟩) W := fun W => run_sop (w := W) [60, 63] t (by simp; omega)
        cases d with
        | nil =>
          have ct2 : ∀ W, (Op.stringOp .add ⟨([60, 63] ++ t).toArray⟩ ⟨#[]⟩).run Tryz.prog W = .ok (.string ⟨([60, 63] ++ t ++ []).toArray⟩) W := fun W => run_sop (w := W) ([60, 63] ++ t) [] (by simp; omega)
          have ct3 : ∀ W, (Op.stringOp .add ⟨([60, 63] ++ t ++ []).toArray⟩ ⟨#[63, 62]⟩).run Tryz.prog W = .ok (.string ⟨([60, 63] ++ t ++ [] ++ [63, 62]).toArray⟩) W := fun W => run_sop (w := W) ([60, 63] ++ t ++ []) [63, 62] (by simp; omega)
          by_cases hl : 1024 < t.length
          · rw [putPi_long t [] h1' h2' h3' rfl hl]
            have hl' : (1024 : Int) < (t.length : Int) := by omega
            clear h1 h1' h2 h2' h3 h3' hl
            go_enter Tryz.func240, Tryz.ntmps240
            go_wp2_with fail
            refine (C1.out).mono ?_
            rintro e w1 ⟨rfl, hb⟩
            have B1 := Lib.hid hb
            clear hb
            go_wp2_with fail
            refine (C2.out _ B1.out).mono ?_
            rintro e w2 ⟨rfl, hb⟩
            have B2 := Lib.hid (B1.out.trans (hb.mono B1.out.size))
            clear hb
            go_wp2_with fail
            refine (C3.out _ B2.out).mono ?_
            rintro e wq ⟨rfl, rfl⟩
            go_wp2
            go_ret2
            exact ⟨rfl, B2.out⟩
          · rw [putPi_ok t [] h1' h2' h3' rfl hl]
            have hl' : ¬ (1024 : Int) < (t.length : Int) := by omega
            clear h1 h1' h2 h2' h3 h3' hl
            unfold dataOf out2V
            generalize [60, 63] ++ t ++ [] ++ [63, 62] = r3 at *
            generalize [60, 63] ++ t ++ [] = r2 at *
            generalize [60, 63] ++ t = r1 at *
            go_enter Tryz.func240, Tryz.ntmps240
            go_wp2_with fail
            refine (C1.out).mono ?_
            rintro e w1 ⟨rfl, hb⟩
            have B1 := Lib.hid hb
            clear hb
            go_wp2_with fail
            refine (C2.out _ B1.out).mono ?_
            rintro e w2 ⟨rfl, hb⟩
            have B2 := Lib.hid (B1.out.trans (hb.mono B1.out.size))
            clear hb
            go_wp2_with fail
            refine (C3.out _ B2.out).mono ?_
            rintro e wq ⟨rfl, rfl⟩
            go_wp2
            go_ret2
            exact ⟨rfl, B2.out⟩
        | cons c d =>
          have hix : ∀ W, (Instr.index 9 (.string ⟨(c :: d).toArray⟩) (.int .i64 0)).run Tryz.prog W = .ok (.int .u8 (c.toNat : Int)) W := fun W => run_strIndex (c :: d) 0 (by simp) W
          have CB : Hid (∀ W, Calls Tryz.prog 58 #[.int .i64 (c.toNat : Int)] W fun e w' => e = .returned (.bool (isBl c)) ∧ W = w') := Lib.hid fun W => blank_c _ W
          have c0 : (0 : Int) ≤ (c.toNat : Int) := by omega
          have c1 : (c.toNat : Int) ≤ 255 := by have := c.toNat_lt; omega
          have ct0 : ∀ W, (Op.stringOp .add ⟨#[32]⟩ ⟨(c :: d).toArray⟩).run Tryz.prog W = .ok (.string ⟨(32 :: c :: d).toArray⟩) W := fun W => run_sop (w := W) [32] (c :: d) (by simp at hd ⊢; omega)
          have ct2 : ∀ W, (Op.stringOp .add ⟨([60, 63] ++ t).toArray⟩ ⟨(32 :: c :: d).toArray⟩).run Tryz.prog W = .ok (.string ⟨([60, 63] ++ t ++ 32 :: c :: d).toArray⟩) W := fun W => run_sop (w := W) ([60, 63] ++ t) (32 :: c :: d) (by simp at hd ⊢; omega)
          have ct3 : ∀ W, (Op.stringOp .add ⟨([60, 63] ++ t ++ 32 :: c :: d).toArray⟩ ⟨#[63, 62]⟩).run Tryz.prog W = .ok (.string ⟨([60, 63] ++ t ++ 32 :: c :: d ++ [63, 62]).toArray⟩) W := fun W => run_sop (w := W) ([60, 63] ++ t ++ 32 :: c :: d) [63, 62] (by simp at hd ⊢; omega)
          have hne : (c :: d).isEmpty = false := rfl
          have hl1 : 0 < (c :: d).length := by simp
          cases hbl : isBl c with
          | true =>
            rw [putPi_bad t (c :: d) (.inr (.inr (.inr hbl)))]
            rw [hbl] at CB
            clear h1 h1' h2 h2' h3 h3' hbl ct0 ct1 ct2 ct3
            generalize hD : c :: d = D at *
            clear hD
            generalize (c.toNat : Int) = cn at *
            by_cases hl : 1024 < t.length
            · have hl' : (1024 : Int) < (t.length : Int) := by omega
              clear hl
              go_enter Tryz.func240, Tryz.ntmps240
              go_wp2_with fail
              refine (C1.out).mono ?_
              rintro e w1 ⟨rfl, hb⟩
              have B1 := Lib.hid hb
              clear hb
              go_wp2_with fail
              refine (C2.out _ B1.out).mono ?_
              rintro e w2 ⟨rfl, hb⟩
              have B2 := Lib.hid (B1.out.trans (hb.mono B1.out.size))
              clear hb
              go_wp2_with fail
              refine (C3.out _ B2.out).mono ?_
              rintro e wq ⟨rfl, rfl⟩
              go_wp2_with fail
              refine (CB.out _).mono ?_
              rintro e wq ⟨rfl, rfl⟩
              go_wp2
              go_ret2
              exact ⟨rfl, B2.out⟩
            · have hl' : ¬ (1024 : Int) < (t.length : Int) := by omega
              clear hl
              go_enter Tryz.func240, Tryz.ntmps240
              go_wp2_with fail
              refine (C1.out).mono ?_
              rintro e w1 ⟨rfl, hb⟩
              have B1 := Lib.hid hb
              clear hb
              go_wp2_with fail
              refine (C2.out _ B1.out).mono ?_
              rintro e w2 ⟨rfl, hb⟩
              have B2 := Lib.hid (B1.out.trans (hb.mono B1.out.size))
              clear hb
              go_wp2_with fail
              refine (C3.out _ B2.out).mono ?_
              rintro e wq ⟨rfl, rfl⟩
              go_wp2_with fail
              refine (CB.out _).mono ?_
              rintro e wq ⟨rfl, rfl⟩
              go_wp2_with fail
              refine (CB.out _).mono ?_
              rintro e wq ⟨rfl, rfl⟩
              go_wp2
              go_ret2
              exact ⟨rfl, B2.out⟩
          | false =>
            rw [hbl] at CB
            by_cases hl : 1024 < t.length
            · rw [putPi_long t (c :: d) h1' h2' h3' hbl hl]
              have hl' : (1024 : Int) < (t.length : Int) := by omega
              clear h1 h1' h2 h2' h3 h3' hbl ct0 ct1 ct2 ct3 hl
              generalize hD : c :: d = D at *
              clear hD
              generalize (c.toNat : Int) = cn at *
              go_enter Tryz.func240, Tryz.ntmps240
              go_wp2_with fail
              refine (C1.out).mono ?_
              rintro e w1 ⟨rfl, hb⟩
              have B1 := Lib.hid hb
              clear hb
              go_wp2_with fail
              refine (C2.out _ B1.out).mono ?_
              rintro e w2 ⟨rfl, hb⟩
              have B2 := Lib.hid (B1.out.trans (hb.mono B1.out.size))
              clear hb
              go_wp2_with fail
              refine (C3.out _ B2.out).mono ?_
              rintro e wq ⟨rfl, rfl⟩
              go_wp2_with fail
              refine (CB.out _).mono ?_
              rintro e wq ⟨rfl, rfl⟩
              go_wp2
              go_ret2
              exact ⟨rfl, B2.out⟩
            · rw [putPi_ok t (c :: d) h1' h2' h3' hbl hl]
              have hl' : ¬ (1024 : Int) < (t.length : Int) := by omega
              clear h1 h1' h2 h2' h3 h3' hbl hl
              unfold dataOf out2V
              generalize [60, 63] ++ t ++ 32 :: c :: d ++ [63, 62] = r3 at *
              generalize [60, 63] ++ t ++ 32 :: c :: d = r2 at *
              generalize [60, 63] ++ t = r1 at *
              generalize hE : 32 :: c :: d = E at *
              generalize hD : c :: d = D at *
              clear hD hE
              generalize (c.toNat : Int) = cn at *
              go_enter Tryz.func240, Tryz.ntmps240
              go_wp2_with fail
              refine (C1.out).mono ?_
              rintro e w1 ⟨rfl, hb⟩
              have B1 := Lib.hid hb
              clear hb
              go_wp2_with fail
              refine (C2.out _ B1.out).mono ?_
              rintro e w2 ⟨rfl, hb⟩
              have B2 := Lib.hid (B1.out.trans (hb.mono B1.out.size))
              clear hb
              go_wp2_with fail
              refine (C3.out _ B2.out).mono ?_
              rintro e wq ⟨rfl, rfl⟩
              go_wp2_with fail
              refine (CB.out _).mono ?_
              rintro e wq ⟨rfl, rfl⟩
              go_wp2
              go_ret2
              exact ⟨rfl, B2.out⟩
end Go.Proofs.YthihkbcdihochaaGreatDoor
/- The plain law of layer 40: an event, events. -/
namespace Go.Proofs.YthihkbcdihochaaGreatDoor
open Go.ChangeShapes Go.WideShapes Go.ChangeAt Go.RowKit
set_option linter.unusedVariables false
/-- An event, as both sides hold it: its attributes are names and values. -/
structure EvT where
  kind : Int
  sp : List UInt8
  lo : List UInt8
  ats : List (List UInt8 × List UInt8 × List UInt8)
  tx : List UInt8
def xmlnsS : List UInt8 := [104, 116, 116, 112, 58, 47, 47, 119, 119, 119, 46, 119, 51, 46, 111, 114, 103, 47, 50, 48, 48, 48, 47, 120, 109, 108, 110, 115, 47]
def xmlnsN : List UInt8 := [120, 109, 108, 110, 115]
/-- Has it just what its kind has? -/
def partsB (e : EvT) : Bool :=
  if e.kind = 1 then e.tx.isEmpty
  else if e.kind = 2 then e.tx.isEmpty && e.ats.isEmpty
  else if e.kind = 3 ∨ e.kind = 5 then e.sp.isEmpty && e.lo.isEmpty && e.ats.isEmpty
  else if e.kind = 4 then e.sp.isEmpty && e.ats.isEmpty
  else false
def namesA (ats : List (List UInt8 × List UInt8 × List UInt8)) : List (List UInt8 × List UInt8) := ats.map fun a => (a.1, a.2.1)
def namesE (e : EvT) : List (List UInt8 × List UInt8) := if e.kind = 3 ∨ e.kind = 5 then namesA e.ats else (e.sp, e.lo) :: namesA e.ats
def namedB (l : List (List UInt8 × List UInt8)) : Bool := l.all fun n => isPl n.2
def shortB (l : List (List UInt8 × List UInt8)) : Bool := l.all fun n => decide (n.2.length ≤ 1024)
def spacesB (l : List (List UInt8 × List UInt8)) : Bool := l.all fun n => allOut isDoc n.1
def valuesB (ats : List (List UInt8 × List UInt8 × List UInt8)) : Bool := ats.all fun a => allOut isDoc a.2.2
def nowhereB (l : List (List UInt8 × List UInt8)) : Bool := l.all fun n => !decide (n.1 = xmlnsS)
def hasNm (acc : List (List UInt8 × List UInt8)) (n : List UInt8 × List UInt8) : Bool := acc.any fun m => decide (m = n)
/-- Attributes whose names are not declarations, and no two the same. -/
def onceB : List (List UInt8 × List UInt8) → List (List UInt8 × List UInt8) → Bool
  | _, [] => true
  | acc, n :: t => if (decide (n = ([], xmlnsN)) || hasNm acc n) = true then false else onceB (acc ++ [n]) t
def ownB (e : EvT) : Bool :=
  if e.kind = 3 then !e.tx.isEmpty && allOut isDoc e.tx
  else if e.kind = 5 then allOut isDoc e.tx && mayComment e.tx && !Lib.contains e.tx [13]
  else if e.kind = 4 then allOut isDoc e.tx && !decide ((putPiOut e.lo e.tx).2 = 7) && !Lib.contains e.tx [13]
  else allOut isDoc e.tx && !Lib.contains e.tx [13]
def textsB (e : EvT) : Bool := spacesB (namesE e) && valuesB e.ats && ownB e
def spacedB (e : EvT) : Bool := onceB [] (namesA e.ats) && nowhereB (namesE e)
/-- The error of one event. -/
def oneE (e : EvT) : Nat :=
  if partsB e = false then 2 else if namedB (namesE e) = false then 7 else if textsB e = false then 7 else if shortB (namesE e) = false then 11 else if spacedB e = false then 9 else 0
/-- What stands behind one event more: the elements that are open, whether there was one, whether a text was last. -/
def nextE (op : List (List UInt8 × List UInt8)) (root text : Bool) (e : EvT) : Option (List (List UInt8 × List UInt8) × Bool × Bool) :=
  if e.kind = 1 then (if (op.isEmpty && root) = true then none else some (op ++ [(e.sp, e.lo)], true, false))
  else if e.kind = 2 then (if op.getLast? = some (e.sp, e.lo) then some (op.dropLast, root, false) else none)
  else if e.kind = 3 then (if (op.isEmpty || text) = true then none else some (op, root, true))
  else some (op, root, false)
def checkR : List (List UInt8 × List UInt8) → Bool → Bool → List EvT → Nat → Nat × Nat
  | op, root, _, [], i => (i, if (!op.isEmpty || !root) = true then 7 else 0)
  | op, root, text, e :: l, i => if oneE e ≠ 0 then (i, oneE e) else match nextE op root text e with
    | none => (i, 7)
    | some (op', root', text') => checkR op' root' text' l (i + 1)
def checkE (l : List EvT) : Nat × Nat := checkR [] false false l 0
end Go.Proofs.YthihkbcdihochaaGreatDoor
/- check's small functions. -/
namespace Go.Proofs.YthihkbcdihochaaGreatDoor
open Go.ChangeShapes Go.WideShapes Go.ChangeAt Go.RowKit
set_option linter.unusedVariables false
def cN (x : List UInt8 × List UInt8) : List Value := [.string ⟨x.1.toArray⟩, .string ⟨x.2.toArray⟩]
def cA (x : List UInt8 × List UInt8 × List UInt8) : List Value := [.string ⟨x.1.toArray⟩, .string ⟨x.2.1.toArray⟩, .string ⟨x.2.2.toArray⟩]
set_option maxRecDepth 100000 in
set_option maxHeartbeats 4000000 in
theorem named1_c (sp lo : List UInt8) (w : World) (hW : Tabs w) (hF : Forms w) (hm : lo.length ≤ 50000) : Calls Tryz.prog 236 #[.agg #[.string ⟨sp.toArray⟩, .string ⟨lo.toArray⟩]] w fun e w' => e = .returned (.bool (!isPl lo)) ∧ Below w.heap.size w w' := by
  have J0 := Lib.hid (CJ.start 38 w #[.string ⟨sp.toArray⟩, .string ⟨lo.toArray⟩])
  have C1 : Hid (Calls Tryz.prog 237 #[.string ⟨lo.toArray⟩] (w.alloc (.cells #[.string ⟨sp.toArray⟩, .string ⟨lo.toArray⟩] 38)) fun e w' => e = .returned (.bool (isPl lo)) ∧ Below (w.alloc (.cells #[.string ⟨sp.toArray⟩, .string ⟨lo.toArray⟩] 38)).heap.size (w.alloc (.cells #[.string ⟨sp.toArray⟩, .string ⟨lo.toArray⟩] 38)) w') := Lib.hid (isPlain_c lo _ (hF.below J0.out.1 hF.lt) ((hW.below J0.out.1 (hW.low hF)).n) hm)
  have z1 := cell_of 1 J0.out.2
  clear hW hF hm
  generalize isPl lo = b at *
  go_enter Tryz.func236, Tryz.ntmps236
  go_wp2_with fail
  refine C1.out.mono ?_
  rintro e w1 ⟨rfl, hb⟩
  have HB := Lib.hid (J0.out.1.trans (hb.mono J0.out.1.size))
  clear hb
  go_wp2
  go_ret
  exact ⟨rfl, HB.out⟩
set_option maxRecDepth 100000 in
set_option maxHeartbeats 4000000 in
theorem short1_c (sp lo : List UInt8) (w : World) : Calls Tryz.prog 241 #[.agg #[.string ⟨sp.toArray⟩, .string ⟨lo.toArray⟩]] w fun e w' => e = .returned (.bool (!decide (lo.length ≤ 1024))) ∧ Below w.heap.size w w' := by
  have J0 := Lib.hid (CJ.start 38 w #[.string ⟨sp.toArray⟩, .string ⟨lo.toArray⟩])
  have z1 := cell_of 1 J0.out.2
  by_cases h : lo.length ≤ 1024
  · have hi : ¬ (1024 : Int) < (lo.length : Int) := by omega
    rw [decide_eq_true h]
    go_enter Tryz.func241, Tryz.ntmps241
    go_wp2
    go_ret
    exact ⟨rfl, J0.out.1⟩
  · have hi : (1024 : Int) < (lo.length : Int) := by omega
    rw [decide_eq_false h]
    go_enter Tryz.func241, Tryz.ntmps241
    go_wp2
    go_ret
    exact ⟨rfl, J0.out.1⟩
set_option maxRecDepth 100000 in
set_option maxHeartbeats 4000000 in
theorem parts_c (k : Int) (sp lo tx : List UInt8) (A : Option Addr) (n cap : Nat) (ats : List (List UInt8 × List UInt8 × List UInt8)) (w : World) (hn : ats.length = n) :
    Calls Tryz.prog 207 #[.agg #[.int .i64 k, .string ⟨sp.toArray⟩, .string ⟨lo.toArray⟩, .slice A n cap, .string ⟨tx.toArray⟩]] w fun e w' => e = .returned (.bool (partsB ⟨k, sp, lo, ats, tx⟩)) ∧ Below w.heap.size w w' := by
  have HN : Hid (ats.isEmpty = decide (n = 0)) := Lib.hid (by cases ats with | nil => simp at hn; simp [← hn] | cons a t => simp at hn; simp; omega)
  have J0 := Lib.hid (CJ.start 41 w #[.int .i64 k, .string ⟨sp.toArray⟩, .string ⟨lo.toArray⟩, .slice A n cap, .string ⟨tx.toArray⟩])
  have ka := (Below.refl (w.alloc (.cells #[.int .i64 k, .string ⟨sp.toArray⟩, .string ⟨lo.toArray⟩, .slice A n cap, .string ⟨tx.toArray⟩] 41)).heap.size (w.alloc (.cells #[.int .i64 k, .string ⟨sp.toArray⟩, .string ⟨lo.toArray⟩, .slice A n cap, .string ⟨tx.toArray⟩] 41))).alloc (Nat.le_refl _) (.cells #[.string ⟨#[]⟩, .string ⟨#[]⟩] 38)
  have J1 := Lib.hid (J0.out.kept ka)
  have z0 := cell_of 0 J1.out.2
  have z1 := cell_of 1 J1.out.2
  have z2 := cell_of 2 J1.out.2
  have z3 := cell_of 3 J1.out.2
  have z4 := cell_of 4 J1.out.2
  clear hn ka
  have hnn : ∀ b, decide (n = 0) = b → ((n : Int) == 0) = b := fun b hb => by rw [← hb]; by_cases h : n = 0 <;> simp [h]
  unfold partsB
  simp only
  rw [HN.out]
  generalize hdn : decide (n = 0) = dn at *
  have hni := hnn dn rfl
  clear hnn hdn HN
  by_cases h1 : k = 1
  · subst h1
    rw [if_pos rfl]
    rcases tx with _ | ⟨ctx, ttx⟩
    · have hitx : ([] : List UInt8).isEmpty = true := rfl
      go_enter Tryz.func207, Tryz.ntmps207
      go_wp2
      go_ret
      exact ⟨rfl, J1.out.1⟩
    · have hitx : (ctx :: ttx).isEmpty = false := rfl
      go_enter Tryz.func207, Tryz.ntmps207
      go_wp2
      go_ret
      exact ⟨rfl, J1.out.1⟩
  by_cases h2 : k = 2
  · subst h2
    rw [if_neg h1, if_pos rfl]
    clear h1
    rcases tx with _ | ⟨ctx, ttx⟩
    · have hitx : ([] : List UInt8).isEmpty = true := rfl
      cases dn
      all_goals
        go_enter Tryz.func207, Tryz.ntmps207
        go_wp2
        go_ret
        exact ⟨rfl, J1.out.1⟩
    · have hitx : (ctx :: ttx).isEmpty = false := rfl
      cases dn
      all_goals
        go_enter Tryz.func207, Tryz.ntmps207
        go_wp2
        go_ret
        exact ⟨rfl, J1.out.1⟩
  by_cases h4 : k = 4
  · subst h4
    rw [if_neg h1, if_neg h2, if_neg (by decide), if_pos rfl]
    clear h1 h2
    rcases sp with _ | ⟨csp, tsp⟩
    · have hisp : ([] : List UInt8).isEmpty = true := rfl
      cases dn
      all_goals
        go_enter Tryz.func207, Tryz.ntmps207
        go_wp2
        go_ret
        exact ⟨rfl, J1.out.1⟩
    · have hisp : (csp :: tsp).isEmpty = false := rfl
      cases dn
      all_goals
        go_enter Tryz.func207, Tryz.ntmps207
        go_wp2
        go_ret
        exact ⟨rfl, J1.out.1⟩
  by_cases h3 : k = 3
  · subst h3
    rw [if_neg h1, if_neg h2, if_pos (.inl rfl)]
    clear h1 h2 h4
    rcases sp with _ | ⟨csp, tsp⟩
    · have hisp : ([] : List UInt8).isEmpty = true := rfl
      rcases lo with _ | ⟨clo, tlo⟩
      · have hilo : ([] : List UInt8).isEmpty = true := rfl
        cases dn
        all_goals
          go_enter Tryz.func207, Tryz.ntmps207
          go_wp2
          go_ret
          exact ⟨rfl, J1.out.1⟩
      · have hilo : (clo :: tlo).isEmpty = false := rfl
        cases dn
        all_goals
          go_enter Tryz.func207, Tryz.ntmps207
          go_wp2
          go_ret
          exact ⟨rfl, J1.out.1⟩
    · have hisp : (csp :: tsp).isEmpty = false := rfl
      rcases lo with _ | ⟨clo, tlo⟩
      · have hilo : ([] : List UInt8).isEmpty = true := rfl
        cases dn
        all_goals
          go_enter Tryz.func207, Tryz.ntmps207
          go_wp2
          go_ret
          exact ⟨rfl, J1.out.1⟩
      · have hilo : (clo :: tlo).isEmpty = false := rfl
        cases dn
        all_goals
          go_enter Tryz.func207, Tryz.ntmps207
          go_wp2
          go_ret
          exact ⟨rfl, J1.out.1⟩
  by_cases h5 : k = 5
  · subst h5
    rw [if_neg h1, if_neg h2, if_pos (.inr rfl)]
    clear h1 h2 h4 h3
    rcases sp with _ | ⟨csp, tsp⟩
    · have hisp : ([] : List UInt8).isEmpty = true := rfl
      rcases lo with _ | ⟨clo, tlo⟩
      · have hilo : ([] : List UInt8).isEmpty = true := rfl
        cases dn
        all_goals
          go_enter Tryz.func207, Tryz.ntmps207
          go_wp2
          go_ret
          exact ⟨rfl, J1.out.1⟩
      · have hilo : (clo :: tlo).isEmpty = false := rfl
        cases dn
        all_goals
          go_enter Tryz.func207, Tryz.ntmps207
          go_wp2
          go_ret
          exact ⟨rfl, J1.out.1⟩
    · have hisp : (csp :: tsp).isEmpty = false := rfl
      rcases lo with _ | ⟨clo, tlo⟩
      · have hilo : ([] : List UInt8).isEmpty = true := rfl
        cases dn
        all_goals
          go_enter Tryz.func207, Tryz.ntmps207
          go_wp2
          go_ret
          exact ⟨rfl, J1.out.1⟩
      · have hilo : (clo :: tlo).isEmpty = false := rfl
        cases dn
        all_goals
          go_enter Tryz.func207, Tryz.ntmps207
          go_wp2
          go_ret
          exact ⟨rfl, J1.out.1⟩
  rw [if_neg h1, if_neg h2, if_neg (by omega), if_neg h4]
  have k1 : (k == 1) = false := by simpa using h1
  have k2 : (k == 2) = false := by simpa using h2
  have k3 : (k == 3) = false := by simpa using h3
  have k4 : (k == 4) = false := by simpa using h4
  have k5 : (k == 5) = false := by simpa using h5
  clear h1 h2 h3 h4 h5
  go_enter Tryz.func207, Tryz.ntmps207
  go_wp2
  go_ret
  exact ⟨rfl, J1.out.1⟩
end Go.Proofs.YthihkbcdihochaaGreatDoor
/- The plain law of layer 41: an event, written. -/
namespace Go.Proofs.YthihkbcdihochaaGreatDoor
open Go.ChangeShapes Go.WideShapes Go.ChangeAt Go.RowKit
set_option linter.unusedVariables false
def xmlSp : List UInt8 := [104, 116, 116, 112, 58, 47, 47, 119, 119, 119, 46, 119, 51, 46, 111, 114, 103, 47, 88, 77, 76, 47, 49, 57, 57, 56, 47, 110, 97, 109, 101, 115, 112, 97, 99, 101]
/-- An element's name, as canon writes it. -/
def elemL (sp lo : List UInt8) : List UInt8 := if sp = xmlSp then [120, 109, 108, 58] ++ lo else lo
def valL (s : List UInt8) : List UInt8 := [34] ++ esc s ++ [34]
def ownSp (s : List UInt8) : Bool := !(decide (s = []) || decide (s = xmlSp))
/-- Attributes' namespaces, in the order in which they come first. -/
def spcs : List (List UInt8) → List (List UInt8 × List UInt8 × List UInt8) → List (List UInt8)
  | acc, [] => acc
  | acc, a :: t => if (ownSp a.1 && !acc.contains a.1) = true then spcs (acc ++ [a.1]) t else spcs acc t
def prefL (l : List (List UInt8)) (sp : List UInt8) : List UInt8 := if sp = [] then [] else if sp = xmlSp then [120, 109, 108, 58] else [110] ++ Lib.decDigits (l.idxOf sp) ++ [58]
def nsOne (i : Nat) (s : List UInt8) : List UInt8 := [32, 120, 109, 108, 110, 115, 58, 110] ++ Lib.decDigits i ++ [61] ++ valL s
/-- The declarations of the first t namespaces. -/
def nsT (l : List (List UInt8)) : Nat → List UInt8
  | 0 => []
  | t + 1 => nsT l t ++ nsOne t (l.getD t [])
def cnAt (l : List (List UInt8)) (a : List UInt8 × List UInt8 × List UInt8) : List UInt8 := [32] ++ prefL l a.1 ++ a.2.1 ++ [61] ++ valL a.2.2
def spOf (sp space : List UInt8) : List UInt8 := if (decide (sp = xmlSp) || decide (sp = space)) = true then space else sp
def cnStart (sp lo : List UInt8) (ats : List (List UInt8 × List UInt8 × List UInt8)) (space : List UInt8) : List UInt8 :=
  [60] ++ elemL sp lo ++ (if (decide (sp = xmlSp) || decide (sp = space)) = true then [] else [32, 120, 109, 108, 110, 115, 61] ++ valL sp) ++ nsT (spcs [] ats) (spcs [] ats).length ++ ats.flatMap (cnAt (spcs [] ats)) ++ [62]
/-- One event as it is written, and the default namespace behind it. -/
def cnOne (e : EvT) (space : List UInt8) : List UInt8 × List UInt8 :=
  if e.kind = 1 then (cnStart e.sp e.lo e.ats space, spOf e.sp space)
  else if e.kind = 2 then ([60, 47] ++ elemL e.sp e.lo ++ [62], space)
  else if e.kind = 3 then (esc e.tx, space)
  else if e.kind = 4 then ([60, 63] ++ e.lo ++ (if e.tx = [] then [] else [32] ++ e.tx) ++ [63, 62], space)
  else if e.kind = 5 then ([60, 33, 45, 45] ++ e.tx ++ [45, 45, 62], space)
  else ([], space)
theorem spcs_app (acc : List (List UInt8)) (l : List (List UInt8 × List UInt8 × List UInt8)) (a : List UInt8 × List UInt8 × List UInt8) : spcs acc (l ++ [a]) = if (ownSp a.1 && !(spcs acc l).contains a.1) = true then spcs acc l ++ [a.1] else spcs acc l := by
  induction l generalizing acc with
  | nil => simp [spcs]
  | cons b t ih =>
    rw [List.cons_append, spcs, spcs]
    split
    · exact ih _
    · exact ih _
theorem spcs_take {ats : List (List UInt8 × List UInt8 × List UInt8)} {t : Nat} {x : List UInt8 × List UInt8 × List UInt8} (h : ats[t]? = some x) : spcs [] (ats.take (t + 1)) = if (ownSp x.1 && !(spcs [] (ats.take t)).contains x.1) = true then spcs [] (ats.take t) ++ [x.1] else spcs [] (ats.take t) := by
  rw [List.take_add_one, h]
  exact spcs_app [] (ats.take t) x
theorem spcs_len (acc : List (List UInt8)) : ∀ ats : List (List UInt8 × List UInt8 × List UInt8), (spcs acc ats).length ≤ acc.length + ats.length
  | [] => by simp [spcs]
  | a :: t => by
    rw [spcs]
    split
    · have := spcs_len (acc ++ [a.1]) t
      simp only [List.length_append, List.length_cons, List.length_nil] at this ⊢
      omega
    · have := spcs_len acc t
      simp only [List.length_cons]
      omega
theorem spcs_mem {acc : List (List UInt8)} : ∀ {ats : List (List UInt8 × List UInt8 × List UInt8)} {s : List UInt8}, s ∈ spcs acc ats → s ∈ acc ∨ ∃ a ∈ ats, a.1 = s
  | [], s, h => .inl h
  | a :: t, s, h => by
    rw [spcs] at h
    split at h
    · rcases spcs_mem h with h | ⟨b, hb, e⟩
      · rcases List.mem_append.1 h with h | h
        · exact .inl h
        · rw [List.mem_singleton] at h
          exact .inr ⟨a, List.mem_cons_self, h.symm⟩
      · exact .inr ⟨b, List.mem_cons_of_mem _ hb, e⟩
    · rcases spcs_mem h with h | ⟨b, hb, e⟩
      · exact .inl h
      · exact .inr ⟨b, List.mem_cons_of_mem _ hb, e⟩
/-- Every attribute's own namespace stands there at the end. -/
theorem spcs_has {acc : List (List UInt8)} : ∀ {ats : List (List UInt8 × List UInt8 × List UInt8)}, (∀ s ∈ acc, s ∈ spcs acc ats) ∧ ∀ a ∈ ats, ownSp a.1 = true → a.1 ∈ spcs acc ats
  | [] => ⟨fun s h => h, fun a h => by cases h⟩
  | b :: t => by
    rw [spcs]
    split
    · have ih := spcs_has (acc := acc ++ [b.1]) (ats := t)
      refine ⟨fun s h => ih.1 s (List.mem_append.2 (.inl h)), fun a ha ho => ?_⟩
      rcases List.mem_cons.1 ha with rfl | ha
      · exact ih.1 _ (List.mem_append.2 (.inr (List.mem_singleton.2 rfl)))
      · exact ih.2 a ha ho
    · rename_i hc
      have ih := spcs_has (acc := acc) (ats := t)
      refine ⟨ih.1, fun a ha ho => ?_⟩
      rcases List.mem_cons.1 ha with rfl | ha
      · refine ih.1 _ ?_
        rw [ho, Bool.true_and] at hc
        simpa using hc
      · exact ih.2 a ha ho
end Go.Proofs.YthihkbcdihochaaGreatDoor
/- Namespaces, numbered (canon.numbers). -/
namespace Go.Proofs.YthihkbcdihochaaGreatDoor
open Go.ChangeShapes Go.WideShapes Go.ChangeAt Go.RowKit
set_option linter.unusedVariables false
def cSn (s : List UInt8) : List Value := [.string ⟨s.toArray⟩]
theorem lawSn : Go.Maps.Keyed Tryz.prog 9 := Go.Maps.string_keyed Tryz.underlying9
theorem zeroSn (w : World) : (zeroValue 3).run Tryz.prog w = .ok (.int .i64 0) w := by kernel_rfl
theorem keySn {s : List UInt8} (h : s.length ≤ 1000000) : keyOf Tryz.prog 9 (.string ⟨s.toArray⟩) = some (.string s) := by
  have := Go.WideMaps.keyOf_string_mk (P := Tryz.prog) Tryz.underlying9 (s := ⟨s.toArray⟩) (by simp [ByteArray.size]; unfold maxLen; omega)
  simpa using this
/-- The namespaces so far, and their numbers, in a map. -/
def AtM (w : World) (b : Nat) (acc : List (List UInt8)) : Prop := ∃ D : DataW Unit, w.ownsMap Tryz.prog 9 (Go.plainElem Tryz.prog 3) b acc.length D ∧ (∀ s : List UInt8, Go.Maps.has D (.string s) = acc.contains s) ∧ ∀ s : List UInt8, s ∈ acc → D.atKey (.string s) (.lit (.int .i64 0)) = .lit (.int .i64 (acc.idxOf s : Nat))
theorem AtM.start (w : World) : AtM (w.alloc (.map #[] 0)) w.heap.size [] := ⟨.map [], World.ownsMap_made _ _ _ _, fun s => rfl, fun s h => by cases h⟩
theorem atM_snoc {D : DataW Unit} {acc : List (List UInt8)} {x : List UInt8} (hi : Go.Maps.IsMap D) (hx : acc.contains x = false) (hh : ∀ s : List UInt8, Go.Maps.has D (.string s) = acc.contains s) (ha : ∀ s : List UInt8, s ∈ acc → D.atKey (.string s) (.lit (.int .i64 0)) = .lit (.int .i64 (acc.idxOf s : Nat))) :
    (∀ s : List UInt8, Go.Maps.has (D.put (.string x) (.lit (.int .i64 (acc.length : Nat)))) (.string s) = (acc ++ [x]).contains s) ∧ ∀ s : List UInt8, s ∈ acc ++ [x] → (D.put (.string x) (.lit (.int .i64 (acc.length : Nat)))).atKey (.string s) (.lit (.int .i64 0)) = .lit (.int .i64 ((acc ++ [x]).idxOf s : Nat)) := by
  have hxn : x ∉ acc := by simpa using hx
  refine ⟨fun s => ?_, fun s hs => ?_⟩
  · by_cases e : s = x
    · subst e
      rw [Go.Maps.has_put_same hi (by simp [WideAt.IsKeyLit])]
      simp
    · rw [Go.Maps.has_put_other (by simpa using e), hh]
      simp [e]
  · by_cases e : s = x
    · subst e
      rw [Go.Maps.atKey_put_same hi (by simp [WideAt.IsKeyLit]), List.idxOf_append, if_neg hxn]
      simp
    · have hs' : s ∈ acc := by
        rcases List.mem_append.1 hs with h | h
        · exact h
        · rw [List.mem_singleton] at h; exact absurd h e
      rw [Go.Maps.atKey_put_other (by simpa using e), ha s hs', List.idxOf_append, if_pos hs']
theorem AtM.kept {w w' : World} {b : Nat} {acc : List (List UInt8)} (h : AtM w b acc) (hb : w'.heap[b]? = w.heap[b]?) : AtM w' b acc := by
  obtain ⟨D, h1, h2, h3⟩ := h
  obtain ⟨es, clock, hq, r⟩ := h1
  exact ⟨D, ⟨es, clock, hb.trans hq, r⟩, h2, h3⟩
theorem AtM.lt {w : World} {b : Nat} {acc : List (List UInt8)} (h : AtM w b acc) : b < w.heap.size := by
  obtain ⟨D, h1, _⟩ := h
  exact h1.lt
/-- A row of strings of the call's own. -/
def OwnX (w : World) (base : Nat) (v : Value) (l : List (List UInt8)) : Prop := w.ownsRow base 9 1 v l.length (l.flatMap cSn)
theorem OwnX.kept {w w' : World} {base : Nat} {v : Value} {l : List (List UInt8)} (h : OwnX w base v l) (hb : Below w.heap.size w w') : OwnX w' base v l := ownsRow_keep h fun g _ hg => hb.block g hg
theorem OwnX.ge {w : World} {base : Nat} {v : Value} {l : List (List UInt8)} (h : OwnX w base v l) {b : Nat} (hb : v.ownBlock = some b) : base ≤ b := by
  obtain ⟨hl, ⟨hv, _⟩ | ⟨g, cap, cur, hv, hg, hh, r⟩⟩ := h
  · rw [hv] at hb; simp [Value.ownBlock] at hb
  · rw [hv] at hb; simp [Value.ownBlock] at hb; subst hb; exact hg
theorem OwnX.snoc {w' : World} {base : Nat} {v' : Value} {l : List (List UInt8)} {x : List UInt8} (h : w'.ownsRow base 9 1 v' (l.length + 1) (l.flatMap cSn ++ cSn x)) : OwnX w' base v' (l ++ [x]) := by
  unfold OwnX
  rw [List.length_append, List.flatMap_append, List.flatMap_singleton]
  exact h
theorem OwnX.form {w : World} {base : Nat} {v : Value} {op : List (List UInt8)} (h : OwnX w base v op) : ∃ A c, v = .slice A op.length c := by
  obtain ⟨hl, ⟨hv, h0⟩ | ⟨g, cap, cur, hv, r⟩⟩ := h
  · exact ⟨none, 0, by rw [hv, h0]⟩
  · exact ⟨_, cap, hv⟩
/-- While the namespaces are numbered: the map, the row. -/
def NuJ (w W : World) (v : Value) (acc : List (List UInt8)) : Prop := Below w.heap.size w W ∧ AtM W w.heap.size acc ∧ OwnX W (w.heap.size + 1) v acc ∧ w.heap.size + 1 ≤ W.heap.size
theorem NuJ.kept {w W W' : World} {v : Value} {acc : List (List UInt8)} (h : NuJ w W v acc) (hb : Below W.heap.size W W') : NuJ w W' v acc :=
  ⟨h.1.trans (hb.mono h.1.size), h.2.1.kept (hb.block _ h.2.1.lt), h.2.2.1.kept hb, Nat.le_trans h.2.2.2 hb.size⟩
theorem NuJ.start (w : World) : NuJ w (w.alloc (.map #[] 0)) (.slice none 0 0) [] := ⟨(Below.refl _ w).alloc (Nat.le_refl _) _, AtM.start w, ⟨rfl, .inl ⟨rfl, rfl⟩⟩, by simp⟩
theorem xml_eq (sp : List UInt8) : (sp == xmlSp) = decide (sp = xmlSp) := by
  rw [Bool.eq_iff_iff, beq_iff_eq, decide_eq_true_eq]
set_option maxRecDepth 100000 in
set_option maxHeartbeats 8000000 in
theorem numbers_c (A : Option Addr) (n cap : Nat) (ats : List (List UInt8 × List UInt8 × List UInt8)) (w : World) (h : RRd cA 3 w w.heap.size A n cap ats) (hm : n ≤ 5000) (hs : ∀ a ∈ ats, a.1.length ≤ 5000) :
    Calls Tryz.prog 115 #[.slice A n cap] w fun e w' => ∃ OA oc, e = .returned (.tuple #[.map (some w.heap.size), .slice OA (spcs [] ats).length oc]) ∧ AtM w' w.heap.size (spcs [] ats) ∧ OwnX w' (w.heap.size + 1) (.slice OA (spcs [] ats).length oc) (spcs [] ats) ∧ Below w.heap.size w w' := by
  have HP : Hid (∀ W, Below w.heap.size w W → RRd cA 3 W W.heap.size A n cap ats) := Lib.hid fun W hb => (h.below hb).more hb.size
  have HLN : Hid (ats.length = n) := Lib.hid h.len
  have HS := Lib.hid hs
  have J0 := Lib.hid (NuJ.start w)
  have hmm := @run_makeMap Tryz.prog
  clear h hs
  go_enter Tryz.func115, Tryz.ntmps115
  go_wp2
  clear hmm
  go_loopg [5, 13] (n) (fun g v i wr => ∃ t : Nat, i = .int .i64 (t : Int) ∧ t ≤ n ∧ Hid (g + t = n) ∧ Hid (NuJ w wr v (spcs [] (ats.take t))))
  case atStart => exact ⟨0, rfl, Nat.zero_le _, Lib.hid rfl, J0⟩
  case round =>
    obtain ⟨t, rfl, ht, hg, HJ⟩ := hrel
    have ht0 : (0 : Int) ≤ (t : Int) := by omega
    have ht9 : (t : Int) ≤ 5000 := by omega
    by_cases htn : t < n
    · have hti : (t : Int) < (n : Int) := by omega
      obtain ⟨b1, o1, x, rfl, hb1, hx, hc1⟩ := (HP.out _ HJ.out.1).cell htn
      have hsx := HS.out x (List.mem_of_getElem? hx)
      have HSS := Lib.hid (spcs_take hx)
      have hal := spcs_len [] (ats.take t)
      have hal2 : (spcs [] (ats.take t)).length ≤ 5000 := by rw [List.length_take] at hal; simp at hal; omega
      obtain ⟨xs, xl, xv⟩ := x
      simp only at hsx HSS
      have y0 : wr.cell? ⟨b1, o1 + t * 3, none⟩ = some (.string ⟨xs.toArray⟩) := by rw [show o1 + t * 3 = o1 + (t * 3 + 0) by omega]; exact hc1 0 _ rfl
      have y1 : wr.cell? ⟨b1, o1 + t * 3 + 1, none⟩ = some (.string ⟨xl.toArray⟩) := by rw [show o1 + t * 3 + 1 = o1 + (t * 3 + 1) by omega]; exact hc1 1 _ rfl
      have y2 : wr.cell? ⟨b1, o1 + t * 3 + 2, none⟩ = some (.string ⟨xv.toArray⟩) := by rw [show o1 + t * 3 + 2 = o1 + (t * 3 + 2) by omega]; exact hc1 2 _ rfl
      clear hb1 hx hc1 hal
      obtain ⟨acc, hacc⟩ : ∃ q, spcs [] (ats.take t) = q := ⟨_, rfl⟩
      rw [hacc] at HSS hal2 HJ
      clear hacc
      have J1 := Lib.hid (HJ.out.kept ((Below.refl _ wr).alloc (Nat.le_refl _) (.cells #[.string ⟨xs.toArray⟩, .string ⟨xl.toArray⟩, .string ⟨xv.toArray⟩] 112)))
      have q1 := hp_new wr (.cells #[.string ⟨xs.toArray⟩, .string ⟨xl.toArray⟩, .string ⟨xv.toArray⟩] 112)
      have HQ1 := Lib.hid q1
      have z0 := cell_of 0 q1
      have hkey := keySn (s := xs) (by omega)
      have HKEY := Lib.hid hkey
      obtain ⟨D, hown, hhas, hat⟩ := J1.out.2.1
      obtain ⟨bh, hbh⟩ : ∃ q, acc.contains xs = q := ⟨_, rfl⟩
      have hhx : Go.Maps.has D (.string xs) = bh := (hhas xs).trans hbh
      have he := xml_eq xs
      obtain ⟨bx, hbx⟩ : ∃ q, decide (xs = xmlSp) = q := ⟨_, rfl⟩
      rw [hbx] at he
      unfold xmlSp at he
      have HBX := Lib.hid hbx
      have HBH := Lib.hid hbh
      obtain ⟨AV, cV, hv⟩ := J1.out.2.2.1.form
      subst hv
      have HIS := Lib.hid (by obtain ⟨es, clock, hb, _, _, rfl⟩ := hown; exact ⟨_, rfl⟩ : Go.Maps.IsMap D)
      have HHA := Lib.hid (And.intro hhas hat)
      have HLW0 := Lib.hid HJ.out.2.2.2
      clear hkey hbh hbx q1 hhas hat HJ
      have hstay : bh = true ∨ xs = [] ∨ bx = true → spcs [] (ats.take (t + 1)) = acc := fun hq => by
        rw [HSS.out, if_neg]
        unfold ownSp
        rw [HBX.out, HBH.out]
        rcases hq with rfl | rfl | rfl <;> simp
      have HST := Lib.hid hstay
      clear hstay
      have hxs : xs = [] ∨ ∃ a tl, xs = a :: tl := by cases xs <;> simp
      have HXS := Lib.hid hxs
      clear hxs
      cases bh with
      | true =>
        go_wp2_with (first
          | (at_lookup; refine wpList_lookup_own_ok_int _ rfl _ _ 171 rfl 9 3 .i64 lawSn Tryz.underlying171 Tryz.underlying3 (zeroSn _) w.heap.size acc.length _ rfl hown _ _ rfl HKEY.out ?_; intro c' hat hwc; rw [hhx]))
        go_roundg (n - (t + 1))
        case measure => have := hg.out; omega
        case rel => exact ⟨t + 1, by go_num, by omega, Lib.hid (by have := hg.out; omega), Lib.hid (by rw [HST.out (by simp)]; exact J1.out)⟩
      | false =>
        rcases HXS.out with rfl | ⟨a0, tl0, rfl⟩
        · have _t := True.intro
          clear _t
          go_wp2_with (first
            | (at_lookup; refine wpList_lookup_own_ok_int _ rfl _ _ 171 rfl 9 3 .i64 lawSn Tryz.underlying171 Tryz.underlying3 (zeroSn _) w.heap.size acc.length _ rfl hown _ _ rfl HKEY.out ?_; intro c' hat hwc; rw [hhx]))
          go_roundg (n - (t + 1))
          case measure => have := hg.out; omega
          case rel => exact ⟨t + 1, by go_num, by omega, Lib.hid (by have := hg.out; omega), Lib.hid (by rw [HST.out (by simp)]; exact J1.out)⟩
        · cases bx with
          | true =>
            go_wp2_with (first
              | (at_lookup; refine wpList_lookup_own_ok_int _ rfl _ _ 171 rfl 9 3 .i64 lawSn Tryz.underlying171 Tryz.underlying3 (zeroSn _) w.heap.size acc.length _ rfl hown _ _ rfl HKEY.out ?_; intro c' hat hwc; rw [hhx]))
            go_roundg (n - (t + 1))
            case measure => have := hg.out; omega
            case rel => exact ⟨t + 1, by go_num, by omega, Lib.hid (by have := hg.out; omega), Lib.hid (by rw [HST.out (by simp)]; exact J1.out)⟩
          | false =>
            obtain ⟨xs, hxs⟩ : ∃ q, a0 :: tl0 = q := ⟨_, rfl⟩
            have hwf : (Lit.int .i64 ((acc.length : Nat) : Int)).wf = true := by
              simp only [Lit.wf, IntKind.min, IntKind.max, Bool.and_eq_true]
              constructor <;> (simp [IntKind.bits, IntKind.signed] <;> omega)
            have HAS := Lib.hid (atM_snoc HIS.out HBH.out HHA.out.1 HHA.out.2)
            have HNX : Hid (spcs [] (ats.take (t + 1)) = acc ++ [a0 :: tl0]) := Lib.hid (by
              rw [HSS.out, if_pos]
              unfold ownSp
              rw [HBX.out, HBH.out]
              simp)
            have hmx : acc.length < maxLen := by unfold maxLen; omega
            have hal3 : acc.length ≤ 1000000000 := by omega
            clear hxs xs
            go_wp2_with (first
              | (at_lookup; refine wpList_lookup_own_ok_int _ rfl _ _ 171 rfl 9 3 .i64 lawSn Tryz.underlying171 Tryz.underlying3 (zeroSn _) w.heap.size acc.length _ rfl hown _ _ rfl HKEY.out ?_; intro c' hat hwc; rw [hhx])
              | (at_mapUpdate; refine wpList_mapUpdate_own _ rfl _ _ _ 171 rfl 9 3 lawSn Tryz.underlying171 _ w.heap.size acc.length _ rfl hown hmx _ _ _ rfl rfl HKEY.out _ [] (plainElem_int Tryz.underlying3 hwf) ?_))
            intro w3 hown3 hgrow3
            have hsz3 := hgrow3.size
            have HA3 : Hid (AtM w3 w.heap.size (acc ++ [a0 :: tl0])) := Lib.hid ⟨_, by rw [List.length_append]; exact hown3, HAS.out.1, HAS.out.2⟩
            have HB3 : Hid (Below w.heap.size w w3) := Lib.hid (J1.out.1.grown hgrow3 J1.out.1.size (fun j hj => by cases hj; exact Nat.le_refl _))
            have hmb := J1.out.2.1.lt
            have hlw := J1.out.2.2.2
            have hO3 : w3.ownsRow (w.heap.size + 1) 9 1 (.slice AV acc.length cV) acc.length (acc.flatMap cSn) := ownsRow_keep J1.out.2.2.1 fun g hg1 hg2 => hgrow3.block g hg2 (fun e => by cases e; omega)
            have hq3 : w3.heap[wr.heap.size]? = some (.cells #[.string ⟨(a0 :: tl0).toArray⟩, .string ⟨xl.toArray⟩, .string ⟨xv.toArray⟩] 112) := by
              rw [hgrow3.block _ (lt_of HQ1.out) (fun e => by have e2 := Option.some.inj e; have := HLW0.out; omega)]
              exact HQ1.out
            have u0 := cell_of 0 hq3
            have hbs3 : w.heap.size + 1 ≤ w3.heap.size := by omega
            clear hown hown3 hgrow3 hq3 hwf z0 hhx hmx y0 y1 y2
            go_wp2_with (first
              | (at_builtin; refine wpList_appK rfl (.tmp 44) (.tmp 48) 51 9 rfl (.string ⟨#[]⟩) 1 16 Tryz.underlying51 info_str rfl (by decide) _ _ _ _ rfl hO3 (cSn (a0 :: tl0)) _ rfl rfl rfl (by simp [cSn, Value.oneCell']) hal3 (by decide) hbs3 ?_))
            intro v6 w6 hown6 hg6 hat6
            have O6 := Lib.hid (OwnX.snoc (l := acc) (x := a0 :: tl0) hown6)
            have hs6 := hg6.size
            rw [World.size_alloc] at hs6
            have kb := (Below.refl w3.heap.size w3).alloc (Nat.le_refl _) (.cells (cSn (a0 :: tl0)).toArray 9)
            have HB6 := Lib.hid ((HB3.out.trans (kb.mono HB3.out.size)).grown hg6 (by rw [World.size_alloc w3]; omega) (fun j hj => by have := OwnX.ge (l := acc) hO3 hj; omega))
            have HA6 : Hid (AtM w6 w.heap.size (acc ++ [a0 :: tl0])) := Lib.hid (HA3.out.kept (by rw [hg6.block _ (by rw [World.size_alloc]; omega) (fun e => by have := OwnX.ge (l := acc) hO3 e.symm; omega), Below.heap_alloc _ _ _ (by omega)]))
            have hl6 : w.heap.size + 1 ≤ w6.heap.size := by omega
            have HJ6 := Lib.hid (And.intro HB6.out (And.intro HA6.out (And.intro O6.out hl6)))
            clear hown6 hg6 hat6 hO3 kb u0 hs6 hbs3 hal3
            go_wp2
            go_roundg (n - (t + 1))
            case measure => have := hg.out; omega
            case rel => exact ⟨t + 1, by go_num, by omega, Lib.hid (by have := hg.out; omega), Lib.hid (by rw [HNX.out]; exact HJ6.out)⟩
    · have hti : ¬ (t : Int) < (n : Int) := by omega
      have hJ := HJ.out
      rw [List.take_of_length_le (by rw [HLN.out]; omega)] at hJ
      obtain ⟨A2, c2, hv, hr⟩ := RRd.ofOwn (c := cSn) (fun _ => rfl) (by decide) hJ.2.2.1
      subst hv
      have HR := Lib.hid hr
      have HJ2 := Lib.hid hJ
      clear hr hJ HJ
      go_wp2
      go_ret2
      exact ⟨A2, c2, rfl, HJ2.out.2.1, HJ2.out.2.2.1, HJ2.out.1⟩
end Go.Proofs.YthihkbcdihochaaGreatDoor
