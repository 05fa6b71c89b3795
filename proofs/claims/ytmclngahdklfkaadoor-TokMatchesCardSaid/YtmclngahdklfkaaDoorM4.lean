/- Texts of ours, joined: Fold, Fold2, NameA, Dig2, CChar, CChar2, Build, Esc, Lit1, Lit2, RefC, Lit3. -/
import Derived.Test.YtmclngahdklfkaaDoorRows
import Derived.WalkKit
import Derived.ProofKit
import Derived.OpenShut
import Derived.ShutString
import Derived.ChangeOld
import Derived.Below
import Derived.BigQuiet
import Derived.Deep.QuietTactic
import Derived.Lib.Hide
import Derived.Deep.RegionHeld3
import Derived.Lib.SlBytesConst
import Derived.Laws.CopyOwn
import Derived.Laws.CopyRow
import Derived.Lib.Bytes
import Derived.Deep.LoopGhost
import Derived.Deep.DeepFit
import Derived.Deep.DeepMust
import Derived.WalkSpells
import Derived.WalkLawsBesides
import Derived.Laws.EntriesVeiled
import Derived.Laws.Rows
import Derived.Lib.Fold
import Derived.ScopeJumps
import Derived.Outline
import Derived.WalkMore
import Derived.Laws.RangeAny
import Derived.Lib.FieldsLaws
import Derived.Lib.Walk
import Derived.Lib.Strings
import Derived.Laws.Strings3
import Derived.Laws.BitsAllLaws
import Derived.Test.YtmclngahdklfkaaDoorM1
import Derived.Test.YtmclngahdklfkaaDoorM3
import Derived.Test.YtmclngahdklfkaaDoorM2
import Derived.Lib.Builder
import Derived.Lib.AppendStr
import Derived.Lib.UnsafeStr
import Derived.Laws.Externs
import Derived.Lib.ConvBytes
import Derived.Lib.AtoiErrMem
/- strings.EqualFold of what is not ASCII. -/
namespace Go.Proofs.YtmclngahdklfkaaDoor
open Go.ChangeShapes Go.WideShapes Go.ChangeAt Go.RowKit
set_option linter.unusedVariables false
theorem foldEq_hi (x y : UInt8) (hy : y.toNat < 128) (hx : 128 ≤ x.toNat) : Lib.foldEq x y = false := by
  unfold Lib.foldEq
  exact decide_eq_false (by omega)
theorem equalFold_hi : ∀ (s t : List UInt8) (j : Nat) (b : UInt8), (∀ c ∈ t, c.toNat < 128) → s[j]? = some b → 128 ≤ b.toNat → Lib.equalFold s t = false
  | [], _, _, _, _, h, _ => by simp at h
  | x :: s, [], _, _, _, _, _ => rfl
  | x :: s, y :: t, 0, b, ht, h, hb => by
    simp at h
    subst h
    exact Lib.equalFold_no _ _ _ _ (foldEq_hi _ _ (ht y (by simp)) hb)
  | x :: s, y :: t, j + 1, b, ht, h, hb => by
    have := equalFold_hi s t j b (fun c hc => ht c (by simp [hc])) (by simpa using h) hb
    simp [Lib.equalFold, this]
/-- Letters that fold to one another and to nothing else, and signs that fold to themselves: of 'xml' and 'utf-8'. -/
def foldPairs : List (Nat × Nat) := [(120, 88), (88, 120), (109, 77), (77, 109), (108, 76), (76, 108), (117, 85), (85, 117), (116, 84), (84, 116), (102, 70), (70, 102), (45, 45), (56, 56)]
def FoldT (w : World) : Prop := ∀ p ∈ foldPairs, w.cell? ⟨4, p.1, none⟩ = some (.int .u16 (p.2 : Int))
theorem FoldT.lt {w : World} (h : FoldT w) : 4 < w.heap.size := World.block_lt_of_cell? w _ (h (120, 88) (by simp [foldPairs]))
theorem FoldT.below {w w' : World} {B : Nat} (h : FoldT w) (hb : Below B w w') (hB : 4 < B) : FoldT w' := fun p hp => by rw [hb.cell hB]; exact h p hp
theorem foldPairs_lt : ∀ p ∈ foldPairs, p.1 < 128 ∧ p.2 < 128 := by decide
set_option maxRecDepth 100000 in
set_option maxHeartbeats 4000000 in
theorem simpleFold_c (r f : Nat) (w : World) (hr : r < 128) (hf : f < 128) (hc : w.cell? ⟨4, r, none⟩ = some (.int .u16 (f : Int))) :
    Calls Tryd.prog 66 #[.int .i32 r] w fun e w' => e = .returned (.int .i32 f) ∧ w = w' := by
  have h0 : ¬ (r : Int) < 0 := by omega
  have h1 : (r : Int) < 128 := by omega
  have h1' : r < 128 := hr
  have h2 : (0 : Int) ≤ (r : Int) := by omega
  have h3 : (0 : Int) ≤ (f : Int) := by omega
  have h4 : (f : Int) < 128 := by omega
  clear hr hf
  go_enter Tryd.func66, Tryd.ntmps66
  go_wp2
  go_ret
  exact ⟨rfl, rfl⟩
theorem run_strFrom (l : List UInt8) (i : Nat) (h : i ≤ l.length) (w : World) :
    (Instr.slice 9 (.string ⟨l.toArray⟩) (some (.int .i64 (i : Int))) none none).run Tryd.prog w = .ok (.string ⟨(l.drop i).toArray⟩) w := by
  have hsz : (⟨l.toArray⟩ : ByteArray).size = l.length := by simp [ByteArray.size]
  rw [run_slice_string_l (P := Tryd.prog) (w := w) (t := 9) (s := ⟨l.toArray⟩) Tryd.underlying9 .i64 (i : Int) (by omega) (by rw [hsz]; omega)]
  congr 2
  refine ByteArray.ext (Array.toList_inj.1 ?_)
  rw [Lib.extract_data]
  rw [hsz]
  exact List.take_of_length_le (by simp)
/-- At the label: the two strings, and the place of the first byte that is not ASCII. -/
def FoldJ (s t : List UInt8) (i0 : Nat) (w : World) (a' : Act) (w' : World) : Prop := w' = w ∧ ∃ u : Nat → Value, u 0 = .string ⟨s.toArray⟩ ∧ u 1 = .string ⟨t.toArray⟩ ∧ u 5 = .int .i64 i0 ∧ a' = { tmps := #[u 0, u 1, u 2, u 3, u 4, u 5, u 6, u 7, u 8, u 9, u 10, u 11, u 12, u 13, u 14, u 15, u 16, u 17, u 18, u 19, u 20, u 21, u 22, u 23, u 24, u 25, u 26, u 27, u 28, u 29, u 30, u 31, u 32, u 33, u 34, u 35, u 36, u 37, u 38, u 39, u 40, u 41, u 42, u 43, u 44, u 45, u 46, u 47, u 48, u 49, u 50, u 51, u 52, u 53, u 54, u 55, u 56, u 57, u 58, u 59, u 60, u 61, u 62, u 63, u 64, u 65, u 66, u 67, u 68, u 69, u 70, u 71, u 72, u 73, u 74, u 75, u 76, u 77, u 78, u 79, u 80, u 81, u 82, u 83, u 84, u 85, u 86, u 87, u 88, u 89, u 90, u 91, u 92, u 93, u 94, u 95, u 96, u 97, u 98, u 99, u 100, u 101, u 102, u 103, u 104, u 105, u 106, u 107, u 108, u 109, u 110, u 111, u 112, u 113, u 114, u 115, u 116, u 117, u 118, u 119, u 120, u 121, u 122], defers := [] }
theorem foldJ_of {s t : List UInt8} {i0 : Nat} {w : World} (tm : Array Value) (h : tm = #[tm.getD 0 undef, tm.getD 1 undef, tm.getD 2 undef, tm.getD 3 undef, tm.getD 4 undef, tm.getD 5 undef, tm.getD 6 undef, tm.getD 7 undef, tm.getD 8 undef, tm.getD 9 undef, tm.getD 10 undef, tm.getD 11 undef, tm.getD 12 undef, tm.getD 13 undef, tm.getD 14 undef, tm.getD 15 undef, tm.getD 16 undef, tm.getD 17 undef, tm.getD 18 undef, tm.getD 19 undef, tm.getD 20 undef, tm.getD 21 undef, tm.getD 22 undef, tm.getD 23 undef, tm.getD 24 undef, tm.getD 25 undef, tm.getD 26 undef, tm.getD 27 undef, tm.getD 28 undef, tm.getD 29 undef, tm.getD 30 undef, tm.getD 31 undef, tm.getD 32 undef, tm.getD 33 undef, tm.getD 34 undef, tm.getD 35 undef, tm.getD 36 undef, tm.getD 37 undef, tm.getD 38 undef, tm.getD 39 undef, tm.getD 40 undef, tm.getD 41 undef, tm.getD 42 undef, tm.getD 43 undef, tm.getD 44 undef, tm.getD 45 undef, tm.getD 46 undef, tm.getD 47 undef, tm.getD 48 undef, tm.getD 49 undef, tm.getD 50 undef, tm.getD 51 undef, tm.getD 52 undef, tm.getD 53 undef, tm.getD 54 undef, tm.getD 55 undef, tm.getD 56 undef, tm.getD 57 undef, tm.getD 58 undef, tm.getD 59 undef, tm.getD 60 undef, tm.getD 61 undef, tm.getD 62 undef, tm.getD 63 undef, tm.getD 64 undef, tm.getD 65 undef, tm.getD 66 undef, tm.getD 67 undef, tm.getD 68 undef, tm.getD 69 undef, tm.getD 70 undef, tm.getD 71 undef, tm.getD 72 undef, tm.getD 73 undef, tm.getD 74 undef, tm.getD 75 undef, tm.getD 76 undef, tm.getD 77 undef, tm.getD 78 undef, tm.getD 79 undef, tm.getD 80 undef, tm.getD 81 undef, tm.getD 82 undef, tm.getD 83 undef, tm.getD 84 undef, tm.getD 85 undef, tm.getD 86 undef, tm.getD 87 undef, tm.getD 88 undef, tm.getD 89 undef, tm.getD 90 undef, tm.getD 91 undef, tm.getD 92 undef, tm.getD 93 undef, tm.getD 94 undef, tm.getD 95 undef, tm.getD 96 undef, tm.getD 97 undef, tm.getD 98 undef, tm.getD 99 undef, tm.getD 100 undef, tm.getD 101 undef, tm.getD 102 undef, tm.getD 103 undef, tm.getD 104 undef, tm.getD 105 undef, tm.getD 106 undef, tm.getD 107 undef, tm.getD 108 undef, tm.getD 109 undef, tm.getD 110 undef, tm.getD 111 undef, tm.getD 112 undef, tm.getD 113 undef, tm.getD 114 undef, tm.getD 115 undef, tm.getD 116 undef, tm.getD 117 undef, tm.getD 118 undef, tm.getD 119 undef, tm.getD 120 undef, tm.getD 121 undef, tm.getD 122 undef]) (h0 : tm.getD 0 undef = .string ⟨s.toArray⟩) (h1 : tm.getD 1 undef = .string ⟨t.toArray⟩) (h5 : tm.getD 5 undef = .int .i64 i0) : FoldJ s t i0 w { tmps := tm, defers := [] } w :=
  ⟨rfl, fun i => tm.getD i undef, h0, h1, h5, congrArg (fun x => ({ tmps := x, defers := [] } : Act)) h⟩
set_option maxRecDepth 1000000 in
set_option maxHeartbeats 8000000 in
theorem equalFold_high (s t : List UInt8) (i0 : Nat) (x c : UInt8) (f : Nat) (w : World) (hs : s.length = t.length) (hs1 : s.length ≤ 1000) (ht : ∀ (j : Nat) b, t[j]? = some b → b.toNat < 128) (hlo : ∀ j b, j < i0 → s[j]? = some b → b.toNat < 128) (hx : s[i0]? = some x) (hx1 : 128 ≤ x.toNat) (hc : t[i0]? = some c)
    (hp1 : (c.toNat, f) ∈ foldPairs) (hp2 : (f, c.toNat) ∈ foldPairs) (hT : FoldT w) :
    Calls Tryd.prog 43 #[.string ⟨s.toArray⟩, .string ⟨t.toArray⟩] w fun e w' => e = .returned (.bool false) ∧ Below w.heap.size w w' := by
  have HS := Lib.hid (And.intro hs (And.intro ht (And.intro hlo (And.intro hx (And.intro hc (And.intro hp1 (And.intro hp2 hT)))))))
  have hsz : (⟨s.toArray⟩ : ByteArray).size = s.length := by simp [ByteArray.size]
  have htz : (⟨t.toArray⟩ : ByteArray).size = s.length := by simp [ByteArray.size, hs]
  have hi0 : i0 < s.length := (List.getElem?_eq_some_iff.1 hx).1
  clear hs ht hlo hx hc hp1 hp2 hT
  go_enter Tryd.func43, Tryd.ntmps43
  go_wp2
  refine wp_scope_jumps 0 (FoldJ s t i0 w) (fun _ _ => 0) rfl ?_ ?_
  · go_wp2
    go_loopg [5] i0 (fun g v wx => w = wx ∧ ∃ i : Nat, i ≤ i0 ∧ Hid (g + i = i0) ∧ v = .int .i64 i)
    case atStart => exact ⟨rfl, 0, Nat.zero_le _, Lib.hid rfl, rfl⟩
    case round =>
      obtain ⟨rfl, i, hi, hg, rfl⟩ := hrel
      have hi1 : (i : Int) < (s.length : Int) := by omega
      have hi2 : (0 : Int) ≤ (i : Int) := by omega
      have hi3 : (i : Int) ≤ 1000 := by omega
      have hix := run_strIndex s i (by omega) w
      have hit := run_strIndex t i (by rw [← HS.out.1]; omega) w
      have HX : Hid (s[i]? = some (s.getD i 0)) := Lib.hid (by rw [List.getElem?_eq_getElem (by omega)]; simp [show i < s.length by omega])
      have HC : Hid (t[i]? = some (t.getD i 0)) := Lib.hid (by rw [List.getElem?_eq_getElem (by rw [← HS.out.1]; omega)]; simp [show i < t.length by rw [← HS.out.1]; omega])
      generalize s.getD i 0 = x' at *
      generalize t.getD i 0 = c' at *
      have hc128 : c'.toNat < 128 := HS.out.2.1 i c' HC.out
      have hx256 : x'.toNat < 256 := x'.toNat_lt
      have hor : bits .or .u8 (x'.toNat : Int) (c'.toNat : Int) = ((x'.toNat ||| c'.toNat : Nat) : Int) := u8_or_nat _ _ (by omega) (by omega)
      by_cases he : i = i0
      · subst he
        have hxe : x' = x := by have := HX.out; rw [HS.out.2.2.2.1] at this; exact (Option.some.inj this).symm
        subst hxe
        have hor128 : (128 : Int) ≤ ((x'.toNat ||| c'.toNat : Nat) : Int) := by have := Nat.left_le_or (n := x'.toNat) (m := c'.toNat); omega
        generalize ((x'.toNat ||| c'.toNat : Nat) : Int) = orv at *
        go_wp2
        go_step3
        exact ⟨rfl, foldJ_of _ rfl rfl rfl rfl⟩
      · have hx128 : x'.toNat < 128 := HS.out.2.2.1 i x' (by omega) HX.out
        have hor128 : ¬ ((128 : Int) ≤ ((x'.toNat ||| c'.toNat : Nat) : Int)) := by have := Nat.or_lt_two_pow (n := 7) hx128 hc128; omega
        go_wp2
        all_goals first
          | (go_roundg (i0 - (i + 1))
             case measure => have := hg.out; omega
             case rel => exact ⟨rfl, i + 1, by omega, Lib.hid (by omega), by go_num⟩)
          | ((try simp only [Exit.jump])
             go_ret
             exact ⟨rfl, Below.refl _ _⟩)
  · intro a' w' hJ
    obtain ⟨rfl, u, h0, h1, h5, rfl⟩ := hJ
    rw [h0, h1, h5]
    clear h0 h1 h5
    have hsl := run_strFrom s i0 (by omega)
    have htl := run_strFrom t i0 (by rw [← HS.out.1]; omega)
    obtain ⟨T', hT'⟩ : ∃ T', t.drop i0 = c :: T' := ⟨_, drop_cons t i0 c HS.out.2.2.2.2.1⟩
    obtain ⟨S', hS'⟩ : ∃ S', s.drop i0 = x :: S' := ⟨_, drop_cons s i0 x HS.out.2.2.2.1⟩
    rw [hT'] at htl
    rw [hS'] at hsl
    have htl1 := run_strFrom (c :: T') 1 (by simp)
    simp only [List.drop_succ_cons, List.drop_zero] at htl1
    have hSz : 0 < (⟨(x :: S').toArray⟩ : ByteArray).size := by simp [ByteArray.size]
    have hnx := fun ty => run_next_any (P := Tryd.prog) w' ⟨(x :: S').toArray⟩ 0 ty hSz
    have hdh := decode_high ⟨(x :: S').toArray⟩ 0 hSz hx1
    have hdl := decode_le ⟨(x :: S').toArray⟩ 0
    have hr1 := hdh.1
    generalize Utf8.decode ⟨(x :: S').toArray⟩ 0 = dc at *
    obtain ⟨r, m⟩ := dc
    simp only [Nat.zero_add] at hr1 hdl hnx
    have hcf := foldPairs_lt _ HS.out.2.2.2.2.2.1
    have hb : Below w'.heap.size w' (w'.iter ⟨(x :: S').toArray⟩ m) := (Below.refl _ _).alloc (Nat.le_refl _) _
    have HB := Lib.hid hb
    have CD := Lib.hid (Tryd.utf8_DecodeRuneInString_ascii ⟨(c :: T').toArray⟩ c (w'.iter ⟨(x :: S').toArray⟩ m) (by simp) hcf.1)
    have hT2 := HS.out.2.2.2.2.2.2.2.below hb HS.out.2.2.2.2.2.2.2.lt
    have CF := Lib.hid (simpleFold_c c.toNat f _ hcf.1 hcf.2 (hT2 _ HS.out.2.2.2.2.2.1))
    have CG := Lib.hid (simpleFold_c f c.toNat _ hcf.2 hcf.1 (hT2 _ HS.out.2.2.2.2.2.2.1))
    have hc0 : (0 : Int) ≤ (c.toNat : Int) := by omega
    have hc1 : (c.toNat : Int) < 128 := by omega
    have hf0 : (0 : Int) ≤ (f : Int) := by omega
    have hf1 : (f : Int) < 128 := by omega
    have hcr : (c.toNat : Int) < (r : Int) := by omega
    have hce : ((c.toNat : Int) == (r : Int)) = false := by simp; omega
    have hr128 : ¬ (r : Int) < 128 := by omega
    have hfr : (f : Int) < (r : Int) := by omega
    have hl0 : (((T'.length : Int) + 1) == 0) = false := by simp; omega
    clear hT' hS' hdh hcf hb hT2
    by_cases hfc : f = c.toNat
    · subst hfc
      clear CG
      generalize (c.toNat : Int) = cn at *
      go_wp2
      refine wp_loop_rounds 1 ?_
      rw [rounds_succ]
      go_wp2_with fail
      refine (CD.out).mono ?_
      rintro e wq ⟨rfl, hwq⟩
      subst hwq
      go_wp2_with fail
      refine (CF.out).mono ?_
      rintro e wq ⟨rfl, rfl⟩
      go_wp2
      refine wp_loop_rounds 1 ?_
      rw [rounds_succ]
      go_wp2
      (try simp only [Exit.jump])
      go_ret
      exact ⟨rfl, HB.out⟩
    · have hfne : ((f : Int) != (c.toNat : Int)) = true := by simp; omega
      generalize (c.toNat : Int) = cn at *
      go_wp2
      refine wp_loop_rounds 1 ?_
      rw [rounds_succ]
      go_wp2_with fail
      refine (CD.out).mono ?_
      rintro e wq ⟨rfl, hwq⟩
      subst hwq
      go_wp2_with fail
      refine (CF.out).mono ?_
      rintro e wq ⟨rfl, rfl⟩
      go_wp2
      refine wp_loop_rounds 2 ?_
      rw [rounds_succ]
      go_wp2_with fail
      refine (CG.out).mono ?_
      rintro e wq ⟨rfl, rfl⟩
      go_wp2
      rw [rounds_succ]
      go_wp2
      (try simp only [Exit.jump])
      go_ret
      exact ⟨rfl, HB.out⟩
end Go.Proofs.YtmclngahdklfkaaDoor
/- strings.EqualFold of texts of one length, of ASCII letters. -/
namespace Go.Proofs.YtmclngahdklfkaaDoor
open Go.ChangeShapes Go.WideShapes Go.ChangeAt Go.RowKit
set_option linter.unusedVariables false
theorem equalFold_c (s t : List UInt8) (w : World) (hs : s.length = t.length) (hs1 : s.length ≤ 1000) (ht : ∀ c ∈ t, ∃ f, (c.toNat, f) ∈ foldPairs ∧ (f, c.toNat) ∈ foldPairs) (hT : FoldT w) :
    Calls Tryd.prog 43 #[.string ⟨s.toArray⟩, .string ⟨t.toArray⟩] w fun e w' => e = .returned (.bool (Lib.equalFold s t)) ∧ Below w.heap.size w w' := by
  have ht1 : ∀ (j : Nat) b, t[j]? = some b → b.toNat < 128 := fun j b hb => by
    obtain ⟨f, h1, _⟩ := ht b (List.mem_of_getElem? hb)
    exact (foldPairs_lt _ h1).1
  by_cases hall : ∀ (j : Nat) b, s[j]? = some b → b.toNat < 128
  · exact (Tryd.strings_EqualFold ⟨s.toArray⟩ ⟨t.toArray⟩ w (by simp [ByteArray.size]; omega) hall ht1).mono fun e w' ⟨he, hw⟩ => ⟨he, by rw [hw]; exact Below.refl _ _⟩
  · have hex : ∃ (i0 : Nat) (x : UInt8), s[i0]? = some x ∧ 128 ≤ x.toNat ∧ ∀ (j : Nat) (b : UInt8), j < i0 → s[j]? = some b → b.toNat < 128 := by
      have : ∃ n : Nat, ∃ x : UInt8, s[n]? = some x ∧ 128 ≤ x.toNat := by
        refine Classical.byContradiction fun hc => hall fun j b hb => ?_
        refine Classical.byContradiction fun h2 => hc ⟨j, b, hb, by omega⟩
      obtain ⟨n, hn⟩ := this
      induction n using Nat.strongRecOn with
      | _ n ih =>
        by_cases hlow : ∀ (j : Nat) (b : UInt8), j < n → s[j]? = some b → b.toNat < 128
        · obtain ⟨x, h1, h2⟩ := hn
          exact ⟨n, x, h1, h2, hlow⟩
        · have : ∃ m, m < n ∧ ∃ x : UInt8, s[m]? = some x ∧ 128 ≤ x.toNat := by
            refine Classical.byContradiction fun hc => hlow fun j b hj hb => ?_
            refine Classical.byContradiction fun h2 => hc ⟨j, hj, b, hb, by omega⟩
          obtain ⟨m, hm, hm2⟩ := this
          exact ih m hm hm2
    obtain ⟨i0, x, hx, hx1, hlo⟩ := hex
    have hi0 : i0 < t.length := by rw [← hs]; exact (List.getElem?_eq_some_iff.1 hx).1
    obtain ⟨f, hp1, hp2⟩ := ht t[i0] (List.getElem_mem hi0)
    rw [equalFold_hi s t i0 x (fun c hc => by
      obtain ⟨j, hj⟩ := List.mem_iff_getElem?.1 hc
      exact ht1 j c hj) hx hx1]
    exact equalFold_high s t i0 x t[i0] f w hs hs1 ht1 hlo hx hx1 (List.getElem?_eq_getElem hi0) hp1 hp2 hT
theorem xmlFold : ∀ c ∈ ([120, 109, 108] : List UInt8), ∃ f, (c.toNat, f) ∈ foldPairs ∧ (f, c.toNat) ∈ foldPairs := by
  intro c hc
  simp at hc
  rcases hc with rfl | rfl | rfl
  · exact ⟨88, by decide, by decide⟩
  · exact ⟨77, by decide, by decide⟩
  · exact ⟨76, by decide, by decide⟩
end Go.Proofs.YtmclngahdklfkaaDoor
/- Names, colons too. -/
namespace Go.Proofs.YtmclngahdklfkaaDoor
open Go.ChangeShapes Go.WideShapes Go.ChangeAt Go.RowKit
set_option linter.unusedVariables false
/-- The sort of names, as its two functions. -/
def namesV : Value := .agg #[.func (.func 62) #[] #[], .func (.func 63) #[] #[]]
set_option maxHeartbeats 2000000 in
theorem names_c (w : World) : Calls Tryd.prog 69 #[] w fun e w' => e = .returned namesV ∧ Below w.heap.size w w' := by
  have hF := Lib.hid (hp_new w (.cells #[.func (.func 62) #[] #[], .func (.func 63) #[] #[]] 70))
  have hb := Lib.hid (Below.alloc (Below.refl w.heap.size w) (Nat.le_refl _) (.cells #[.func (.func 62) #[] #[], .func (.func 63) #[] #[]] 70))
  go_enter Tryd.func69, Tryd.ntmps69
  go_wp2
  have hi : (Tryd.prog.info? 70).map (·.size) = some 2 := by kernel_rfl
  obtain ⟨d, hu⟩ := isStruct_of (P := Tryd.prog) (t := 70) (by kernel_rfl)
  (try simp only [Exit.inBlock, Exit.then])
  refine bodyPost_ret (results_cell_row rfl _ _ w.heap.size _ _ _ _ rfl hF.out hu rfl hi) rfl ⟨rfl, hb.out⟩
set_option maxRecDepth 100000 in
set_option maxHeartbeats 4000000 in
theorem endA_c (A : Option Addr) (n cap : Nat) (l : List UInt8) (at_ : Nat) (w : World) (h : Byt w w.heap.size A n cap l) (hF : Forms w) (hm : n ≤ 100000) (hat : at_ ≤ n)(hT : TabN w) :
    Calls Tryd.prog 64 #[namesV, .slice A n cap, .int .i64 at_] w fun e w' => e = .returned (.int .i64 ((at_ + endL isStart isMore n (l.drop at_) : Nat))) ∧ Below w.heap.size w w' := by
  have HB0 := Lib.hid (And.intro h (And.intro hF hF.lt))
  have HS : Hid (Says 62 #[] w.heap.size w isStart ∧ Says 63 #[] w.heap.size w isMore) := Lib.hid ⟨fun w1 r hb => nameStart_c r w1 (hT.below hb (hT.low hF)), fun w1 r hb => nameChar_c r w1 (hT.below hb (hT.low hF)) (by have := hb.size; have := hT.low hF; unfold LowN at *; omega)⟩
  have hln := Lib.hid h.length
  clear h hF hT
  unfold namesV
  go_enter Tryd.func64, Tryd.ntmps64
  have f0 := hp_new w (.cells #[.func (.func 62) #[] #[], .func (.func 63) #[] #[]] 70)
  have z0 := cell_of 0 f0
  have z1 := cell_of 1 f0
  have hb0 : Hid (Below w.heap.size w (w.alloc (.cells #[.func (.func 62) #[] #[], .func (.func 63) #[] #[]] 70))) := Lib.hid (Below.alloc (Below.refl _ _) (Nat.le_refl _) _)
  have hsz : (w.alloc (.cells #[.func (.func 62) #[] #[], .func (.func 63) #[] #[]] 70)).heap.size = w.heap.size + 1 := by simp
  have z1' : Hid ((w.alloc (.cells #[.func (.func 62) #[] #[], .func (.func 63) #[] #[]] 70)).cell? ⟨w.heap.size, 1, none⟩ = some (.func (.func 63) #[] #[])) := Lib.hid z1
  clear f0 z1
  go_wp2
  generalize hw0 : w.alloc (.cells #[.func (.func 62) #[] #[], .func (.func 63) #[] #[]] 70) = w0 at *
  clear hw0 z0
  go_loopg [2, 7] (n - at_) (fun kx s2 s7 wr => ∃ (p K fid : Nat) (fc : Int → Bool), s2 = .int .i64 p ∧ s7 = .func (.func fid) #[] #[] ∧ Hid (fid = 62 ∨ fid = 63) ∧ p ≤ n ∧ kx = n - p ∧ n - p ≤ K ∧
    Hid (at_ + endL isStart isMore n (l.drop at_) = p + endL fc isMore K (l.drop p)) ∧ Hid (Says fid #[] w.heap.size w fc) ∧ Hid (Below w.heap.size w wr) ∧ w.heap.size < wr.heap.size ∧
    Hid (wr.cell? ⟨w.heap.size, 1, none⟩ = some (.func (.func 63) #[] #[])))
  case atStart => exact ⟨at_, n, 62, isStart, rfl, rfl, Lib.hid (.inl rfl), hat, rfl, by omega, Lib.hid rfl, Lib.hid HS.out.1, hb0, by omega, z1'⟩
  case round =>
    obtain ⟨p, K, fid, fc, rfl, rfl, HFID, hp, hk, hK, HE, HC, HB, hsr, HZ⟩ := hrel
    have hfid := HFID.out
    clear HFID
    rcases hfid with rfl | rfl
    all_goals
      by_cases hlt : p < n
      · have hlt' : (p : Int) < (n : Int) := by omega
        have hd := decode_c A n cap l p wr w.heap.size (HB0.out.1.below HB.out) (HB0.out.2.1.below HB.out HB0.out.2.2) hlt (by omega)
        cases hdec : dec (l.drop p) with
        | none =>
          rw [hdec] at hd
          have HD := Lib.hid hdec
          clear hdec
          go_wp2_with fail
          refine hd.mono ?_
          rintro e w1 ⟨rfl, q, rfl⟩
          simp only [decOut]
          go_wp2
          go_ret
          exact ⟨by rw [HE.out, endL_none _ _ _ _ HD.out]; rfl, below_drewN' HB.out⟩
        | some v =>
          obtain ⟨r, m⟩ := v
          rw [hdec] at hd
          have HD := Lib.hid hdec
          have hle := dec_le _ r m hdec
          rw [List.length_drop, hln.out] at hle
          have hcall := HC.out (wr.drewN 0) r (below_drewN' HB.out)
          clear hdec
          have HX := Lib.hid HC.out
          clear hcall
          cases hfr : fc r with
          | false =>
            go_wp2_with fail
            refine hd.mono ?_
            rintro e w1 ⟨rfl, q, rfl⟩
            simp only [decOut]
            have hcall := HC.out (wr.drewN q) r (below_drewN' HB.out)
            rw [hfr] at hcall
            have HR := Lib.hid hfr
            clear hfr
            go_wp2_with fail
            refine hcall.mono ?_
            rintro e w2 ⟨rfl, hb2⟩
            go_wp2
            go_ret
            exact ⟨by rw [HE.out, endL_no _ _ _ _ _ _ HD.out HR.out]; rfl, (below_drewN' HB.out).trans (hb2.mono (by show w.heap.size ≤ wr.heap.size; omega))⟩
          | true =>
            go_wp2_with fail
            refine hd.mono ?_
            rintro e w1 ⟨rfl, q, rfl⟩
            simp only [decOut]
            have hcall := HC.out (wr.drewN q) r (below_drewN' HB.out)
            rw [hfr] at hcall
            have HR := Lib.hid hfr
            clear hfr
            go_wp2_with fail
            refine hcall.mono ?_
            rintro e w2 ⟨rfl, hb2⟩
            have hz2 : w2.cell? ⟨w.heap.size, 1, none⟩ = some (.func (.func 63) #[] #[]) := by rw [hb2.cell (by show w.heap.size < wr.heap.size; omega)]; exact HZ.out
            have HB2 := Lib.hid ((below_drewN' (n := q) HB.out).trans (hb2.mono (by show w.heap.size ≤ wr.heap.size; omega)))
            have hs2 : w.heap.size < w2.heap.size := by have := hb2.size; have : wr.heap.size ≤ w2.heap.size := this; omega
            clear hb2
            go_wp2
            go_quiet (fail)
            have hz3 : Hid ((w2.drewN nq).cell? ⟨w.heap.size, 1, none⟩ = some (.func (.func 63) #[] #[])) := Lib.hid hz2
            go_wp2
            go_roundg (n - (p + m))
            case measure => omega
            case rel =>
              refine ⟨p + m, K - 1, 63, isMore, rfl, rfl, Lib.hid (.inr rfl), by omega, rfl, by omega, Lib.hid ?_, Lib.hid HS.out.2, Lib.hid (below_drewN' HB2.out), hs2, hz3⟩
              have := endL_yes fc isMore (K - 1) _ r m HD.out HR.out
              rw [show K - 1 + 1 = K by omega, List.drop_drop] at this
              rw [HE.out, this]
              omega
      · obtain rfl : p = n := by omega
        go_wp2
        go_ret
        refine ⟨?_, HB.out⟩
        rw [HE.out, List.drop_of_length_le (by rw [hln.out]; exact Nat.le_refl _), endL_none _ _ _ _ (by rfl)]
        rfl
/-- What is read of a name at a place. -/
def nameOut (l : List UInt8) (at_ : Nat) : List UInt8 × Nat × Nat :=
  let k := endL isStart isMore l.length (l.drop at_)
  if k = 0 then ([], 0, 7) else if 1024 < k then ([], 0, 11) else ((l.drop at_).take k, at_ + k, 0)
set_option maxRecDepth 100000 in
set_option maxHeartbeats 2000000 in
theorem readA_c (A : Option Addr) (n cap : Nat) (l : List UInt8) (at_ : Nat) (w : World) (h : Byt w w.heap.size A n cap l) (hF : Forms w) (hm : n ≤ 100000) (hat : at_ ≤ n)(hT : TabN w) :
    Calls Tryd.prog 42 #[namesV, .slice A n cap, .int .i64 at_] w fun e w' => e = .returned (outV (nameOut l at_)) ∧ Below w.heap.size w w' := by
  have hb : Below w.heap.size w (w.alloc (.cells #[.func (.func 62) #[] #[], .func (.func 63) #[] #[]] 70)) := Below.alloc (Below.refl w.heap.size w) (Nat.le_refl _) _
  have hln := h.length
  have hend := endA_c A n cap l at_ _ ((h.below hb).more hb.size) (hF.below hb hF.lt) hm hat (hT.below hb (hT.low hF))
  have hkl : at_ + endL isStart isMore n (l.drop at_) ≤ n := by
    have := endL_le n isStart isMore (l.drop at_)
    rw [List.length_drop, hln] at this
    omega
  have HB := Lib.hid (And.intro h hb)
  have f0 := hp_new w (.cells #[.func (.func 62) #[] #[], .func (.func 63) #[] #[]] 70)
  have hi : (Tryd.prog.info? 70).map (·.size) = some 2 := by kernel_rfl
  obtain ⟨d, hu⟩ := isStruct_of (P := Tryd.prog) (t := 70) (by kernel_rfl)
  have hld := run_loadVar_row _ _ _ _ _ _ _ f0 hu rfl hi
  have HE : Hid (endL isStart isMore l.length (l.drop at_) = endL isStart isMore n (l.drop at_)) := Lib.hid (by rw [hln])
  clear h hF hT hb f0 hu hi hln
  unfold namesV at *
  unfold nameOut
  simp only [HE.out]
  generalize endL isStart isMore n (l.drop at_) = k at *
  have hat' : ¬ (n : Int) < (at_ : Int) := by omega
  have HM := Lib.hid (And.intro hm hat)
  have HN := Lib.hid hend
  clear hm hend
  generalize hres : (if k = 0 then ([], 0, 7) else if 1024 < k then ([], 0, 11) else ((l.drop at_).take k, at_ + k, 0)) = res
  have HR := Lib.hid hres
  clear hres
  go_enter Tryd.func42, Tryd.ntmps42
  go_wp2_with fail
  refine HN.out.mono ?_
  rintro e w1 ⟨rfl, hb1⟩
  have HB1 := Lib.hid ((HB.out.2).trans (hb1.mono HB.out.2.size))
  clear hb1 hld
  rcases (show k = 0 ∨ 1024 < k ∨ (0 < k ∧ k ≤ 1024) by omega) with h0 | h0 | h0
  · subst h0
    have hre := HR.out
    simp only [if_true] at hre
    subst hre
    have hn := Int.natCast_nonneg at_
    go_wp2
    go_ret3
    exact ⟨rfl, HB1.out⟩
  · have hre := HR.out
    rw [if_neg (by omega), if_pos h0] at hre
    subst hre
    have hne : (((at_ + k : Nat) : Int) == (at_ : Int)) = false := by simp; omega
    have hne2 : ((at_ : Int) + (k : Int) == (at_ : Int)) = false := by simp; omega
    have h0' : (1024 : Int) < (k : Int) := by omega
    have hsb : ((at_ : Int) + (k : Int)) - (at_ : Int) = (k : Int) := by omega
    have hw : IntKind.i64.wrap (k : Int) = (k : Int) := by rw [IntKind.wrap_i64]; have := HM.out; omega
    go_wp2
    go_ret3
    exact ⟨rfl, HB1.out⟩
  · have hre := HR.out
    rw [if_neg (by omega), if_neg (by omega)] at hre
    subst hre
    have hne : (((at_ + k : Nat) : Int) == (at_ : Int)) = false := by simp; omega
    have hne2 : ((at_ : Int) + (k : Int) == (at_ : Int)) = false := by simp; omega
    have h0' : ¬ (1024 : Int) < (k : Int) := by omega
    have hsb : ((at_ : Int) + (k : Int)) - (at_ : Int) = (k : Int) := by omega
    have hw : IntKind.i64.wrap (k : Int) = (k : Int) := by rw [IntKind.wrap_i64]; have := HM.out; omega
    have hy := ((HB.out.1.below HB1.out).drop hat).take (k := k) (by omega)
    have hstr := hy.str
    have hcap := HB.out.1.le
    have hrf : ∀ w2 : World, (Instr.slice 37 (.slice A n cap) (some (.int .i64 (at_ : Int))) (some (.int .i64 ((at_ : Int) + (k : Int)))) none).run Tryd.prog w2 = .ok (.slice (cutA A cap at_) k (cap - at_)) w2 := fun w2 => by
      have := run_fromTo (w := w2) A n cap at_ (at_ + k) (by omega) (by omega)
      rw [show at_ + k - at_ = k by omega, show ((at_ + k : Nat) : Int) = (at_ : Int) + (k : Int) by omega] at this
      exact this
    have HY := Lib.hid hy
    clear hy hcap h0
    go_wp2
    go_ret3
    exact ⟨rfl, HB1.out⟩
set_option maxHeartbeats 2000000 in
theorem name_c (A : Option Addr) (n cap : Nat) (l : List UInt8) (at_ : Nat) (w : World) (h : Byt w w.heap.size A n cap l) (hF : Forms w) (hT : TabN w) (hm : n ≤ 100000) (hat : at_ ≤ n) :
    Calls Tryd.prog 49 #[.slice A n cap, .int .i64 at_] w fun e w' => e = .returned (outV (nameOut l at_)) ∧ Below w.heap.size w w' := by
  have hp := names_c w
  have hL := hT.low hF
  have HH := Lib.hid (And.intro h (And.intro hF (And.intro hm (And.intro hat (And.intro hT hL)))))
  clear h hF hT hm hat hL
  go_enter Tryd.func49, Tryd.ntmps49
  go_wp2_with fail
  refine hp.mono ?_
  rintro e w1 ⟨rfl, hb⟩
  have hr := readA_c A n cap l at_ w1 ((HH.out.1.below hb).more hb.size) (HH.out.2.1.below hb HH.out.2.1.lt) HH.out.2.2.1 HH.out.2.2.2.1 (HH.out.2.2.2.2.1.below hb HH.out.2.2.2.2.2)
  have HB := Lib.hid hb
  clear hb hp
  unfold outV at *
  go_wp2_with fail
  refine hr.mono ?_
  rintro e w2 ⟨rfl, hb2⟩
  have HB2 := Lib.hid (HB.out.trans (hb2.mono HB.out.size))
  clear hr hb2
  go_wp2
  go_ret3
  exact ⟨rfl, HB2.out⟩
end Go.Proofs.YtmclngahdklfkaaDoor
/- The document's digits. -/
namespace Go.Proofs.YtmclngahdklfkaaDoor
open Go.ChangeShapes Go.WideShapes Go.ChangeAt Go.RowKit
set_option linter.unusedVariables false
end Go.Proofs.YtmclngahdklfkaaDoor
/- cref.Char. -/
namespace Go.Proofs.YtmclngahdklfkaaDoor
open Go.ChangeShapes Go.WideShapes Go.ChangeAt Go.RowKit
set_option linter.unusedVariables false
theorem digitB_c (b : Int) (hb : b = 10 ∨ b = 16) (r : Int) (w : World) : Calls Tryd.prog 33 #[.int .i64 r, .int .i64 b] w fun e w' => e = .returned (.int .i64 (digit b r)) ∧ w = w' := by
  rcases hb with rfl | rfl
  · exact digit10_c r w
  · exact digit16_c r w
def numV (o : Int × Nat × Nat) : Value := .tuple #[.int .i64 o.1, .int .i64 (o.2.1 : Int), .int .i64 (o.2.2 : Int)]
theorem pre2 (a b : UInt8) (l : List UInt8) : [a, b].isPrefixOf l = decide (l[0]? = some a ∧ l[1]? = some b) := by
  match l with
  | [] => simp
  | [x] => simp [List.isPrefixOf]
  | x :: y :: t =>
    simp [List.isPrefixOf]; rw [Bool.eq_iff_iff]; simp
    exact ⟨fun ⟨p, q⟩ => ⟨p.symm, q.symm⟩, fun ⟨p, q⟩ => ⟨p.symm, q.symm⟩⟩
theorem pre3 (a b c : UInt8) (l : List UInt8) : [a, b, c].isPrefixOf l = decide (l[0]? = some a ∧ l[1]? = some b ∧ l[2]? = some c) := by
  match l with
  | [] => simp
  | [x] => simp [List.isPrefixOf]
  | [x, y] => simp [List.isPrefixOf]
  | x :: y :: z :: t =>
    simp [List.isPrefixOf]; rw [Bool.eq_iff_iff]; simp
    exact ⟨fun ⟨p, q, r⟩ => ⟨p.symm, q.symm, r.symm⟩, fun ⟨p, q, r⟩ => ⟨p.symm, q.symm, r.symm⟩⟩
set_option maxRecDepth 100000 in
set_option maxHeartbeats 2000000 in
theorem crefChar_range (A : Option Addr) (n cap : Nat) (at_ : Int) (w : World) (ha : at_ < 0 ∨ (n : Int) < at_) :
    Calls Tryd.prog 19 #[.slice A n cap, .int .i64 at_] w fun e w' => e = .returned (numV (0, 0, 3)) ∧ Below w.heap.size w w' := by
  by_cases h0 : at_ < 0
  · have hd : decide (at_ < 0) = true := by simpa using h0
    clear ha
    go_enter Tryd.func19, Tryd.ntmps19
    go_wp2_with fail
    go_step3
    go_wp2
    rw [Exit.noGoto_ret]
    go_ret3
    exact ⟨rfl, Below.refl _ _⟩
  · have h1 : (n : Int) < at_ := by omega
    clear ha
    go_enter Tryd.func19, Tryd.ntmps19
    go_wp2_with fail
    go_step3
    go_wp2
    rw [Exit.noGoto_ret]
    go_ret3
    exact ⟨rfl, Below.refl _ _⟩
set_option maxRecDepth 100000 in
set_option maxHeartbeats 2000000 in
theorem crefChar_no (A : Option Addr) (n cap : Nat) (l : List UInt8) (at_ : Nat) (w : World) (h : Byt w w.heap.size A n cap l) (hm : n ≤ 50000) (hat : at_ ≤ n) (hp : [38, 35].isPrefixOf (l.drop at_) = false) :
    Calls Tryd.prog 19 #[.slice A n cap, .int .i64 at_] w fun e w' => e = .returned (numV (0, 0, 7)) ∧ Below w.heap.size w w' := by
  have hp3 : [38, 35, 120].isPrefixOf (l.drop at_) = false := by
    rw [pre2] at hp
    rw [pre3]
    simp only [decide_eq_false_iff_not] at hp ⊢
    exact fun h => hp ⟨h.1, h.2.1⟩
  have hat' : ¬ (n : Int) < (at_ : Int) := by omega
  have hrf : ∀ w2 : World, (Instr.slice 37 (.slice A n cap) (some (.int .i64 (at_ : Int))) none none).run Tryd.prog w2 = .ok (.slice (cutA A cap at_) (n - at_) (cap - at_)) w2 := fun w2 => run_from (w := w2) A n cap at_ hat
  have hap : IntKind.i64.wrap ((at_ : Int) + 2) = (at_ : Int) + 2 := by rw [IntKind.wrap_i64]; omega
  have kc := fun (w : World) (C : Array Value) (n c : Nat) => Lib.run_convert_bytes_const (P := Tryd.prog) w 37 5 C n c Tryd.underlying37 Tryd.underlying5
  have kc2 := kc (w.alloc (.cells #[bv 38, bv 35, bv 120] 5 (3, 4))) #[.int .u8 38, .int .u8 35] 2 2
  rw [show (w.alloc (.cells #[bv 38, bv 35, bv 120] 5 (3, 4))).heap.size = w.heap.size + 1 by simp] at kc2
  have k1 := Byt.const w [38, 35, 120] (3, 4) (by decide)
  have b1 : Below w.heap.size w (w.alloc (.cells ([38, 35, 120].map bv).toArray 5 (3, 4))) := (Below.refl _ _).alloc (Nat.le_refl _) _
  have c1 := hasPrefix_c _ _ _ _ _ _ _ _ _ _ _ ((h.below b1).drop hat) k1
  have k2 := Byt.const (w.alloc (.cells ([38, 35, 120].map bv).toArray 5 (3, 4))) [38, 35] (2, 3) (by decide)
  have b2 : Below w.heap.size w ((w.alloc (.cells ([38, 35, 120].map bv).toArray 5 (3, 4))).alloc (.cells ([38, 35].map bv).toArray 5 (2, 3))) := b1.alloc (by simp) _
  have c2 := hasPrefix_c _ _ _ _ _ _ _ _ _ _ _ ((h.below b2).drop hat) k2
  rw [hp3] at c1
  rw [hp] at c2
  rw [show (w.alloc (.cells ([38, 35, 120].map bv).toArray 5 (3, 4))).heap.size = w.heap.size + 1 by simp] at c2
  have HC2 := Lib.hid c2
  clear c2
  have HB := Lib.hid b2
  clear b2 b1 k1 k2 h hp hp3 hm
  go_enter Tryd.func19, Tryd.ntmps19
  go_wp2_with fail
  go_step3
  go_wp2_with fail
  refine c1.mono ?_
  rintro e w1 ⟨rfl, rfl⟩
  clear kc c1
  go_wp2_with fail
  refine HC2.out.mono ?_
  rintro e w1 ⟨rfl, rfl⟩
  go_wp2
  rw [Exit.noGoto_ret]
  go_ret3
  exact ⟨rfl, HB.out⟩
end Go.Proofs.YtmclngahdklfkaaDoor
/- cref.Char. -/
namespace Go.Proofs.YtmclngahdklfkaaDoor
open Go.ChangeShapes Go.WideShapes Go.ChangeAt Go.RowKit
set_option linter.unusedVariables false
theorem ne_byte' (c n : UInt8) (z : Int) (hz : z = (n.toNat : Int)) (h : ¬ c = n) : ((c.toNat : Int) == z) = false := by rw [hz, toNat_eq]; simp [h]
set_option maxRecDepth 100000 in
set_option maxHeartbeats 2000000 in
theorem crefChar_16 (A : Option Addr) (n cap : Nat) (l : List UInt8) (at_ : Nat) (w : World) (h : Byt w w.heap.size A n cap l) (hT : Tabs w) (hF : Forms w) (hm : n ≤ 50000) (hat : at_ ≤ n) (hp : [38, 35, 120].isPrefixOf (l.drop at_) = true) :
    Calls Tryd.prog 19 #[.slice A n cap, .int .i64 at_] w fun e w' => e = .returned (numV (charBody 16 2097152 l (at_ + 3))) ∧ Below w.heap.size w w' := by
  have hln := h.length
  have hlen : at_ + 3 ≤ n := by
    rw [pre3] at hp
    have h2 := (of_decide_eq_true hp).2.2
    rw [List.getElem?_drop] at h2
    rcases Nat.lt_or_ge (at_ + 2) l.length with g | g
    · omega
    · rw [List.getElem?_eq_none g] at h2; cases h2
  obtain ⟨b, o, c, rfl, hb, hc, hcell⟩ := h.cell (i := at_) (by omega)
  clear hb hc hcell
  have hat' : ¬ (n : Int) < (at_ : Int) := by omega
  have hrf : ∀ w2 : World, (Instr.slice 37 (.slice (some ⟨b, o, none⟩) n cap) (some (.int .i64 (at_ : Int))) none none).run Tryd.prog w2 = .ok (.slice (cutA (some ⟨b, o, none⟩) cap at_) (n - at_) (cap - at_)) w2 := fun w2 => run_from (w := w2) (some ⟨b, o, none⟩) n cap at_ hat
  have hap : IntKind.i64.wrap ((at_ : Int) + 2) = (at_ : Int) + 2 := by rw [IntKind.wrap_i64]; omega
  have hap3 : IntKind.i64.wrap ((at_ : Int) + 3) = (at_ : Int) + 3 := by rw [IntKind.wrap_i64]; omega
  have hL := hT.low hF
  have kc := fun (w : World) (C : Array Value) (n c : Nat) => Lib.run_convert_bytes_const (P := Tryd.prog) w 37 5 C n c Tryd.underlying37 Tryd.underlying5
  have kc2 := kc (w.alloc (.cells #[bv 38, bv 35, bv 120] 5 (3, 4))) #[.int .u8 38, .int .u8 35] 2 2
  rw [show (w.alloc (.cells #[bv 38, bv 35, bv 120] 5 (3, 4))).heap.size = w.heap.size + 1 by simp] at kc2
  have k1 := Byt.const w [38, 35, 120] (3, 4) (by decide)
  have b1 : Below w.heap.size w (w.alloc (.cells ([38, 35, 120].map bv).toArray 5 (3, 4))) := (Below.refl _ _).alloc (Nat.le_refl _) _
  have c1 := hasPrefix_c _ _ _ _ _ _ _ _ _ _ _ ((h.below b1).drop hat) k1
  rw [hp] at c1
  have HB := Lib.hid b1
  clear b1 k1 hp
  have HFR : Hid ((at_ : Int) + 3 = ((at_ + 3 : Nat) : Int)) := Lib.hid (by omega)
  have hfn : at_ + 3 ≤ n := hlen
  have hds := digs_le 16 (l.drop (at_ + 3))
  have hda := digs_at 16 (l.drop (at_ + 3))
  have hdt := digs_take 16 (l.drop (at_ + 3))
  have hdm := digs_mem 16 (l.drop (at_ + 3))
  rw [List.length_drop, hln] at hds
  have hk59 : l[(at_ + 3) + (digs 16 (l.drop (at_ + 3))).length]? = l[(at_ + 3) + (digs 16 (l.drop (at_ + 3))).length]? := rfl
  have HLN := Lib.hid hln
  have HC : Hid (charBody 16 2097152 l (at_ + 3) = if (digs 16 (l.drop (at_ + 3))).length = 0 ∨ l[(at_ + 3) + (digs 16 (l.drop (at_ + 3))).length]? ≠ some 59 then (0, 0, 7) else if isDoc (numC 16 2097152 (digs 16 (l.drop (at_ + 3)))) = true then (numC 16 2097152 (digs 16 (l.drop (at_ + 3))), (at_ + 3) + (digs 16 (l.drop (at_ + 3))).length + 1, 0) else (0, 0, 6)) := Lib.hid rfl
  generalize hdd : digs 16 (l.drop (at_ + 3)) = ds at *
  have hnb : ∀ k, 0 ≤ numC 16 2097152 (ds.take k) ∧ numC 16 2097152 (ds.take k) ≤ 2097152 := fun k => ⟨numC_nonneg 16 2097152 (by omega) (by omega) _ fun c hc => hdm c (List.mem_of_mem_take hc), numC_le _ _ (by omega) _⟩
  have HD := Lib.hid (And.intro hda (And.intro hdt hnb))
  have HS := Lib.hid hds
  have HH := Lib.hid (And.intro h (And.intro hT hL))
  clear hk59 hdm hda hdt hnb hdd h hT hF hL hds
  generalize charBody 16 2097152 l (at_ + 3) = res at *
  go_enter Tryd.func19, Tryd.ntmps19
  go_wp2_with fail
  go_step3
  go_wp2_with fail
  refine c1.mono ?_
  rintro e w1 ⟨rfl, rfl⟩
  clear kc c1
  go_wp2_with fail
  generalize hwq : (w.alloc (.cells #[bv 38, bv 35, bv 120] 5 (3, 4))) = wq
  have HQ : Hid (Below w.heap.size w wq) := Lib.hid (by rw [← hwq]; exact HB.out)
  clear hwq
  have HCELL : Hid (∀ k, k < n → wq.cell? ⟨b, o + k, none⟩ = some (.int .u8 (UInt8.toNat (l.getD k 0) : Int))) := Lib.hid fun k hk => by
    obtain ⟨b', o', c', e, hb', hc', hcl⟩ := (HH.out.1.below HQ.out).cell hk
    cases e
    rw [hcl, List.getD_eq_getElem?_getD, hc']
    rfl
  go_step3
  go_wp2_with fail
  go_loopg [4, 5] (n + 1 - (at_ + 3)) (fun g r i wr => ∃ j : Nat, at_ + 3 ≤ j ∧ j ≤ at_ + 3 + ds.length ∧ Hid (g + j = n + 1) ∧ i = .int .i64 (j : Int) ∧ r = .int .i64 (numC 16 2097152 (ds.take (j - (at_ + 3)))) ∧ wq = wr)
  case atStart => exact ⟨at_ + 3, Nat.le_refl _, Nat.le_add_right _ _, Lib.hid (by omega), rfl, by rw [Nat.sub_self]; rfl, rfl⟩
  case round =>
    obtain ⟨j, hj1, hj2, hg, rfl, rfl, rfl⟩ := hrel
    have hbn := (HD.out.2.2 (j - (at_ + 3)))
    have hb0 := hbn.1
    have hb1 := hbn.2
    have hj0 : (0 : Int) ≤ (j : Int) := by omega
    have hjb : (j : Int) ≤ 50000 := by have := HS.out; omega
    clear hbn
    by_cases hjn : j < n
    · have hcl := HCELL.out j hjn
      have hgd : (l.drop (at_ + 3))[j - (at_ + 3)]? = some (l.getD j 0) := by
        rw [List.getElem?_drop, show (at_ + 3) + (j - (at_ + 3)) = j by omega, List.getElem?_eq_getElem (by omega)]; simp [List.getD_eq_getElem?_getD, hln ▸ hjn]
      have hat59 := HD.out.1 (j - (at_ + 3)) (l.getD j 0) (by omega) hgd
      have hdl := digit_lt 16 (by omega) (UInt8.toNat (l.getD j 0) : Int)
      have hjin : (j : Int) < (n : Int) := by omega
      by_cases hjm : j < (at_ + 3) + ds.length
      · have hD0 : 0 ≤ digit 16 (UInt8.toNat (l.getD j 0) : Int) := hat59.1 (by omega)
        have HN : Hid (numC 16 2097152 (ds.take (j + 1 - (at_ + 3))) = min (numC 16 2097152 (ds.take (j - (at_ + 3))) * 16 + digit 16 (UInt8.toNat (l.getD j 0) : Int)) 2097152) := Lib.hid (by
          rw [show j + 1 - (at_ + 3) = (j - (at_ + 3)) + 1 by omega, take_snoc ds (j - (at_ + 3)) (l.getD j 0), numC_snoc]
          rw [HD.out.2.1, List.getElem?_take_of_lt (by omega)]; exact hgd)
        have HDC : Hid (Calls Tryd.prog 33 #[.int .i64 (UInt8.toNat (l.getD j 0) : Int), .int .i64 16] wq fun e w' => e = .returned (.int .i64 (digit 16 (UInt8.toNat (l.getD j 0) : Int))) ∧ wq = w') := Lib.hid (digitB_c 16 (by omega) _ wq)
        have hdl1 := hdl.1
        have hlx : 0 ≤ (UInt8.toNat (l.getD j 0) : Int) := by omega
        have hly : (UInt8.toNat (l.getD j 0) : Int) ≤ 255 := by have := (l.getD j 0).toNat_lt; omega
        clear hat59 hgd hdl
        generalize (UInt8.toNat (l.getD j 0) : Int) = dn at *
        generalize digit 16 dn = D at *
        generalize numC 16 2097152 (ds.take (j - (at_ + 3))) = r at *
        have hdn : decide (D < 0) = false := by simp; omega
        go_wp2_with fail
        refine HDC.out.mono ?_
        rintro e w1 ⟨rfl, rfl⟩
        go_wp2
        go_roundg (n - j)
        case measure => have := hg.out; omega
        case rel => exact ⟨j + 1, by omega, by omega, Lib.hid (by omega), by go_num, by rw [HN.out], rfl⟩
      · obtain rfl : j = (at_ + 3) + ds.length := by omega
        have hD0 : digit 16 (UInt8.toNat (l.getD ((at_ + 3) + ds.length) 0) : Int) < 0 := by
          rcases Int.lt_or_le (digit 16 (UInt8.toNat (l.getD ((at_ + 3) + ds.length) 0) : Int)) 0 with h | h
          · exact h
          · have := hat59.2 h; omega
        have h59 : l[(at_ + 3) + ds.length]? = some (l.getD ((at_ + 3) + ds.length) 0) := by
          rw [List.getElem?_eq_getElem (by omega)]; simp [List.getD_eq_getElem?_getD, hln ▸ hjn]
        have htk : ds.take ((at_ + 3) + ds.length - (at_ + 3)) = ds := by rw [show (at_ + 3) + ds.length - (at_ + 3) = ds.length by omega, List.take_length]
        rw [htk] at hb0 hb1 ⊢
        have HDC : Hid (Calls Tryd.prog 33 #[.int .i64 (UInt8.toNat (l.getD ((at_ + 3) + ds.length) 0) : Int), .int .i64 16] wq fun e w' => e = .returned (.int .i64 (digit 16 (UInt8.toNat (l.getD ((at_ + 3) + ds.length) 0) : Int))) ∧ wq = w') := Lib.hid (digitB_c 16 (by omega) _ wq)
        have hdn : decide (digit 16 (UInt8.toNat (l.getD ((at_ + 3) + ds.length) 0) : Int) < 0) = true := decide_eq_true hD0
        have hcc := HC.out
        rw [h59] at hcc
        have HT1 := Lib.hid (char_c (numC 16 2097152 ds) wq (HH.out.2.1.below HQ.out HH.out.2.2))
        clear hat59 hgd hdl htk h59
        generalize hdd : l.getD ((at_ + 3) + ds.length) 0 = d at *
        have hlx : 0 ≤ (d.toNat : Int) := by omega
        have hly : (d.toNat : Int) ≤ 255 := by have := d.toNat_lt; omega
        have hne59 : ¬ d = 59 → ((d.toNat : Int) != 59) = true := fun h => by have := ne_byte' d 59 59 rfl h; simp [bne, this]
        generalize digit 16 (d.toNat : Int) = D at *
        generalize numC 16 2097152 ds = r at *
        generalize hJ : (at_ + 3) + ds.length = J at *
        by_cases hm0 : ds.length = 0
        · have HRES : Hid (res = (0, 0, 7)) := Lib.hid (by rw [hcc, if_pos (Or.inl hm0)])
          have hJ0 : ((J : Int) == (at_ : Int) + 3) = true := by simp; omega
          have HJ := Lib.hid hJ
          clear hcc hm0 hJ hdd hne59
          go_wp2_with fail
          refine HDC.out.mono ?_
          rintro e w1 ⟨rfl, rfl⟩
          go_wp2
          try rw [Exit.noGoto_ret]
          go_ret3
          rw [HRES.out]
          exact ⟨rfl, HQ.out⟩
        · have hJ0 : ((J : Int) == (at_ : Int) + 3) = false := by simp; omega
          have hJn : ((J : Int) == (n : Int)) = false := by simp; omega
          by_cases hd59 : d = 59
          · have hcl' : wq.cell? ⟨b, o + J, none⟩ = some (.int .u8 59) := by rw [hcl, hd59]; rfl
            have hDd : d.toNat = 59 := by rw [hd59]; rfl
            cases hdoc : isDoc r with
            | true =>
              have HRES : Hid (res = (r, J + 1, 0)) := Lib.hid (by rw [hcc, if_neg (by rw [hd59]; simp; exact List.ne_nil_of_length_pos (by omega)), if_pos hdoc])
              rw [hdoc] at HT1
              have HJ := Lib.hid hJ
              have hm0' : 0 < ds.length := by omega
              rw [hDd] at HDC hcl
              clear hcc hm0 hJ hdd hne59 hd59 hDd hdoc hcl'
              go_wp2_with fail
              refine HDC.out.mono ?_
              rintro e w1 ⟨rfl, rfl⟩
              go_wp2_with fail
              refine HT1.out.mono ?_
              rintro e w1 ⟨rfl, hb⟩
              have HE : Hid (Below w.heap.size w w1) := Lib.hid (HQ.out.trans (hb.mono HQ.out.size))
              clear hb
              go_wp2
              try rw [Exit.noGoto_ret]
              go_ret3
              rw [HRES.out]
              exact ⟨rfl, HE.out⟩
            | false =>
              have HRES : Hid (res = (0, 0, 6)) := Lib.hid (by rw [hcc, if_neg (by rw [hd59]; simp; exact List.ne_nil_of_length_pos (by omega)), if_neg (by rw [hdoc]; decide)])
              rw [hdoc] at HT1
              have HJ := Lib.hid hJ
              have hm0' : 0 < ds.length := by omega
              rw [hDd] at HDC hcl
              clear hcc hm0 hJ hdd hne59 hd59 hDd hdoc hcl'
              go_wp2_with fail
              refine HDC.out.mono ?_
              rintro e w1 ⟨rfl, rfl⟩
              go_wp2_with fail
              refine HT1.out.mono ?_
              rintro e w1 ⟨rfl, hb⟩
              have HE : Hid (Below w.heap.size w w1) := Lib.hid (HQ.out.trans (hb.mono HQ.out.size))
              clear hb
              go_wp2
              try rw [Exit.noGoto_ret]
              go_ret3
              rw [HRES.out]
              exact ⟨rfl, HE.out⟩
          · have HRES : Hid (res = (0, 0, 7)) := Lib.hid (by rw [hcc, if_pos (Or.inr (by simpa using hd59))])
            have hdn59 := hne59 hd59
            have HJ := Lib.hid hJ
            have hm0' : 0 < ds.length := by omega
            clear hcc hm0 hJ hdd hne59 hd59
            generalize (d.toNat : Int) = dn at *
            go_wp2_with fail
            refine HDC.out.mono ?_
            rintro e w1 ⟨rfl, rfl⟩
            go_wp2
            try rw [Exit.noGoto_ret]
            go_ret3
            rw [HRES.out]
            exact ⟨rfl, HQ.out⟩
    · have hjm : j = (at_ + 3) + ds.length := by have := HS.out; omega
      have hjnn : j = n := by have := HS.out; omega
      have HRES : Hid (res = (0, 0, 7)) := Lib.hid (by rw [HC.out, if_pos (Or.inr (by rw [← hjm, List.getElem?_eq_none (by omega)]; simp))])
      have hjin : ¬ (j : Int) < (n : Int) := by omega
      have hjin2 : ((j : Int) == (n : Int)) = true := by simp; omega
      have HJ := Lib.hid (And.intro hjm hjnn)
      clear hjm hjnn
      generalize hz : ((j : Int) == (at_ : Int) + 3) = z at *
      cases z with
      | true =>
        go_wp2
        try rw [Exit.noGoto_ret]
        go_ret3
        rw [HRES.out]
        exact ⟨rfl, HQ.out⟩
      | false =>
        go_wp2
        try rw [Exit.noGoto_ret]
        go_ret3
        rw [HRES.out]
        exact ⟨rfl, HQ.out⟩
set_option maxRecDepth 100000 in
set_option maxHeartbeats 2000000 in
theorem crefChar_10 (A : Option Addr) (n cap : Nat) (l : List UInt8) (at_ : Nat) (w : World) (h : Byt w w.heap.size A n cap l) (hT : Tabs w) (hF : Forms w) (hm : n ≤ 50000) (hat : at_ ≤ n) (hp3 : [38, 35, 120].isPrefixOf (l.drop at_) = false) (hp : [38, 35].isPrefixOf (l.drop at_) = true) :
    Calls Tryd.prog 19 #[.slice A n cap, .int .i64 at_] w fun e w' => e = .returned (numV (charBody 10 2097152 l (at_ + 2))) ∧ Below w.heap.size w w' := by
  have hln := h.length
  have hlen : at_ + 2 ≤ n := by
    rw [pre2] at hp
    have h2 := (of_decide_eq_true hp).2
    rw [List.getElem?_drop] at h2
    rcases Nat.lt_or_ge (at_ + 1) l.length with g | g
    · omega
    · rw [List.getElem?_eq_none g] at h2; cases h2
  obtain ⟨b, o, c, rfl, hb, hc, hcell⟩ := h.cell (i := at_) (by omega)
  clear hb hc hcell
  have hat' : ¬ (n : Int) < (at_ : Int) := by omega
  have hrf : ∀ w2 : World, (Instr.slice 37 (.slice (some ⟨b, o, none⟩) n cap) (some (.int .i64 (at_ : Int))) none none).run Tryd.prog w2 = .ok (.slice (cutA (some ⟨b, o, none⟩) cap at_) (n - at_) (cap - at_)) w2 := fun w2 => run_from (w := w2) (some ⟨b, o, none⟩) n cap at_ hat
  have hap : IntKind.i64.wrap ((at_ : Int) + 2) = (at_ : Int) + 2 := by rw [IntKind.wrap_i64]; omega
  have hap3 : IntKind.i64.wrap ((at_ : Int) + 3) = (at_ : Int) + 3 := by rw [IntKind.wrap_i64]; omega
  have hL := hT.low hF
  have kc := fun (w : World) (C : Array Value) (n c : Nat) => Lib.run_convert_bytes_const (P := Tryd.prog) w 37 5 C n c Tryd.underlying37 Tryd.underlying5
  have kc2 := kc (w.alloc (.cells #[bv 38, bv 35, bv 120] 5 (3, 4))) #[.int .u8 38, .int .u8 35] 2 2
  rw [show (w.alloc (.cells #[bv 38, bv 35, bv 120] 5 (3, 4))).heap.size = w.heap.size + 1 by simp] at kc2
  have k1 := Byt.const w [38, 35, 120] (3, 4) (by decide)
  have b1 : Below w.heap.size w (w.alloc (.cells ([38, 35, 120].map bv).toArray 5 (3, 4))) := (Below.refl _ _).alloc (Nat.le_refl _) _
  have c1 := hasPrefix_c _ _ _ _ _ _ _ _ _ _ _ ((h.below b1).drop hat) k1
  have k2 := Byt.const (w.alloc (.cells ([38, 35, 120].map bv).toArray 5 (3, 4))) [38, 35] (2, 3) (by decide)
  have b2 : Below w.heap.size w ((w.alloc (.cells ([38, 35, 120].map bv).toArray 5 (3, 4))).alloc (.cells ([38, 35].map bv).toArray 5 (2, 3))) := b1.alloc (by simp) _
  have c2 := hasPrefix_c _ _ _ _ _ _ _ _ _ _ _ ((h.below b2).drop hat) k2
  rw [hp3] at c1
  rw [hp] at c2
  rw [show (w.alloc (.cells ([38, 35, 120].map bv).toArray 5 (3, 4))).heap.size = w.heap.size + 1 by simp] at c2
  have HC2 := Lib.hid c2
  clear c2
  have HB := Lib.hid b2
  clear b1 b2 k1 k2 hp hp3
  have HFR : Hid ((at_ : Int) + 2 = ((at_ + 2 : Nat) : Int)) := Lib.hid (by omega)
  have hfn : at_ + 2 ≤ n := hlen
  have hds := digs_le 10 (l.drop (at_ + 2))
  have hda := digs_at 10 (l.drop (at_ + 2))
  have hdt := digs_take 10 (l.drop (at_ + 2))
  have hdm := digs_mem 10 (l.drop (at_ + 2))
  rw [List.length_drop, hln] at hds
  have hk59 : l[(at_ + 2) + (digs 10 (l.drop (at_ + 2))).length]? = l[(at_ + 2) + (digs 10 (l.drop (at_ + 2))).length]? := rfl
  have HLN := Lib.hid hln
  have HC : Hid (charBody 10 2097152 l (at_ + 2) = if (digs 10 (l.drop (at_ + 2))).length = 0 ∨ l[(at_ + 2) + (digs 10 (l.drop (at_ + 2))).length]? ≠ some 59 then (0, 0, 7) else if isDoc (numC 10 2097152 (digs 10 (l.drop (at_ + 2)))) = true then (numC 10 2097152 (digs 10 (l.drop (at_ + 2))), (at_ + 2) + (digs 10 (l.drop (at_ + 2))).length + 1, 0) else (0, 0, 6)) := Lib.hid rfl
  generalize hdd : digs 10 (l.drop (at_ + 2)) = ds at *
  have hnb : ∀ k, 0 ≤ numC 10 2097152 (ds.take k) ∧ numC 10 2097152 (ds.take k) ≤ 2097152 := fun k => ⟨numC_nonneg 10 2097152 (by omega) (by omega) _ fun c hc => hdm c (List.mem_of_mem_take hc), numC_le _ _ (by omega) _⟩
  have HD := Lib.hid (And.intro hda (And.intro hdt hnb))
  have HS := Lib.hid hds
  have HH := Lib.hid (And.intro h (And.intro hT hL))
  clear hk59 hdm hda hdt hnb hdd h hT hF hL hds
  generalize charBody 10 2097152 l (at_ + 2) = res at *
  go_enter Tryd.func19, Tryd.ntmps19
  go_wp2_with fail
  go_step3
  go_wp2_with fail
  refine c1.mono ?_
  rintro e w1 ⟨rfl, rfl⟩
  clear kc c1
  go_wp2_with fail
  refine HC2.out.mono ?_
  rintro e w1 ⟨rfl, rfl⟩
  go_wp2_with fail
  generalize hwq : ((w.alloc (.cells #[bv 38, bv 35, bv 120] 5 (3, 4))).alloc (.cells #[bv 38, bv 35] 5 (2, 3))) = wq
  have HQ : Hid (Below w.heap.size w wq) := Lib.hid (by rw [← hwq]; exact HB.out)
  clear hwq
  have HCELL : Hid (∀ k, k < n → wq.cell? ⟨b, o + k, none⟩ = some (.int .u8 (UInt8.toNat (l.getD k 0) : Int))) := Lib.hid fun k hk => by
    obtain ⟨b', o', c', e, hb', hc', hcl⟩ := (HH.out.1.below HQ.out).cell hk
    cases e
    rw [hcl, List.getD_eq_getElem?_getD, hc']
    rfl
  go_step3
  go_wp2_with fail
  go_loopg [4, 5] (n + 1 - (at_ + 2)) (fun g r i wr => ∃ j : Nat, at_ + 2 ≤ j ∧ j ≤ at_ + 2 + ds.length ∧ Hid (g + j = n + 1) ∧ i = .int .i64 (j : Int) ∧ r = .int .i64 (numC 10 2097152 (ds.take (j - (at_ + 2)))) ∧ wq = wr)
  case atStart => exact ⟨at_ + 2, Nat.le_refl _, Nat.le_add_right _ _, Lib.hid (by omega), rfl, by rw [Nat.sub_self]; rfl, rfl⟩
  case round =>
    obtain ⟨j, hj1, hj2, hg, rfl, rfl, rfl⟩ := hrel
    have hbn := (HD.out.2.2 (j - (at_ + 2)))
    have hb0 := hbn.1
    have hb1 := hbn.2
    have hj0 : (0 : Int) ≤ (j : Int) := by omega
    have hjb : (j : Int) ≤ 50000 := by have := HS.out; omega
    clear hbn
    by_cases hjn : j < n
    · have hcl := HCELL.out j hjn
      have hgd : (l.drop (at_ + 2))[j - (at_ + 2)]? = some (l.getD j 0) := by
        rw [List.getElem?_drop, show (at_ + 2) + (j - (at_ + 2)) = j by omega, List.getElem?_eq_getElem (by omega)]; simp [List.getD_eq_getElem?_getD, hln ▸ hjn]
      have hat59 := HD.out.1 (j - (at_ + 2)) (l.getD j 0) (by omega) hgd
      have hdl := digit_lt 10 (by omega) (UInt8.toNat (l.getD j 0) : Int)
      have hjin : (j : Int) < (n : Int) := by omega
      by_cases hjm : j < (at_ + 2) + ds.length
      · have hD0 : 0 ≤ digit 10 (UInt8.toNat (l.getD j 0) : Int) := hat59.1 (by omega)
        have HN : Hid (numC 10 2097152 (ds.take (j + 1 - (at_ + 2))) = min (numC 10 2097152 (ds.take (j - (at_ + 2))) * 10 + digit 10 (UInt8.toNat (l.getD j 0) : Int)) 2097152) := Lib.hid (by
          rw [show j + 1 - (at_ + 2) = (j - (at_ + 2)) + 1 by omega, take_snoc ds (j - (at_ + 2)) (l.getD j 0), numC_snoc]
          rw [HD.out.2.1, List.getElem?_take_of_lt (by omega)]; exact hgd)
        have HDC : Hid (Calls Tryd.prog 33 #[.int .i64 (UInt8.toNat (l.getD j 0) : Int), .int .i64 10] wq fun e w' => e = .returned (.int .i64 (digit 10 (UInt8.toNat (l.getD j 0) : Int))) ∧ wq = w') := Lib.hid (digitB_c 10 (by omega) _ wq)
        have hdl1 := hdl.1
        have hlx : 0 ≤ (UInt8.toNat (l.getD j 0) : Int) := by omega
        have hly : (UInt8.toNat (l.getD j 0) : Int) ≤ 255 := by have := (l.getD j 0).toNat_lt; omega
        clear hat59 hgd hdl
        generalize (UInt8.toNat (l.getD j 0) : Int) = dn at *
        generalize digit 10 dn = D at *
        generalize numC 10 2097152 (ds.take (j - (at_ + 2))) = r at *
        have hdn : decide (D < 0) = false := by simp; omega
        go_wp2_with fail
        refine HDC.out.mono ?_
        rintro e w1 ⟨rfl, rfl⟩
        go_wp2
        go_roundg (n - j)
        case measure => have := hg.out; omega
        case rel => exact ⟨j + 1, by omega, by omega, Lib.hid (by omega), by go_num, by rw [HN.out], rfl⟩
      · obtain rfl : j = (at_ + 2) + ds.length := by omega
        have hD0 : digit 10 (UInt8.toNat (l.getD ((at_ + 2) + ds.length) 0) : Int) < 0 := by
          rcases Int.lt_or_le (digit 10 (UInt8.toNat (l.getD ((at_ + 2) + ds.length) 0) : Int)) 0 with h | h
          · exact h
          · have := hat59.2 h; omega
        have h59 : l[(at_ + 2) + ds.length]? = some (l.getD ((at_ + 2) + ds.length) 0) := by
          rw [List.getElem?_eq_getElem (by omega)]; simp [List.getD_eq_getElem?_getD, hln ▸ hjn]
        have htk : ds.take ((at_ + 2) + ds.length - (at_ + 2)) = ds := by rw [show (at_ + 2) + ds.length - (at_ + 2) = ds.length by omega, List.take_length]
        rw [htk] at hb0 hb1 ⊢
        have HDC : Hid (Calls Tryd.prog 33 #[.int .i64 (UInt8.toNat (l.getD ((at_ + 2) + ds.length) 0) : Int), .int .i64 10] wq fun e w' => e = .returned (.int .i64 (digit 10 (UInt8.toNat (l.getD ((at_ + 2) + ds.length) 0) : Int))) ∧ wq = w') := Lib.hid (digitB_c 10 (by omega) _ wq)
        have hdn : decide (digit 10 (UInt8.toNat (l.getD ((at_ + 2) + ds.length) 0) : Int) < 0) = true := decide_eq_true hD0
        have hcc := HC.out
        rw [h59] at hcc
        have HT1 := Lib.hid (char_c (numC 10 2097152 ds) wq (HH.out.2.1.below HQ.out HH.out.2.2))
        clear hat59 hgd hdl htk h59
        generalize hdd : l.getD ((at_ + 2) + ds.length) 0 = d at *
        have hlx : 0 ≤ (d.toNat : Int) := by omega
        have hly : (d.toNat : Int) ≤ 255 := by have := d.toNat_lt; omega
        have hne59 : ¬ d = 59 → ((d.toNat : Int) != 59) = true := fun h => by have := ne_byte' d 59 59 rfl h; simp [bne, this]
        generalize digit 10 (d.toNat : Int) = D at *
        generalize numC 10 2097152 ds = r at *
        generalize hJ : (at_ + 2) + ds.length = J at *
        by_cases hm0 : ds.length = 0
        · have HRES : Hid (res = (0, 0, 7)) := Lib.hid (by rw [hcc, if_pos (Or.inl hm0)])
          have hJ0 : ((J : Int) == (at_ : Int) + 2) = true := by simp; omega
          have HJ := Lib.hid hJ
          clear hcc hm0 hJ hdd hne59
          go_wp2_with fail
          refine HDC.out.mono ?_
          rintro e w1 ⟨rfl, rfl⟩
          go_wp2
          try rw [Exit.noGoto_ret]
          go_ret3
          rw [HRES.out]
          exact ⟨rfl, HQ.out⟩
        · have hJ0 : ((J : Int) == (at_ : Int) + 2) = false := by simp; omega
          have hJn : ((J : Int) == (n : Int)) = false := by simp; omega
          by_cases hd59 : d = 59
          · have hcl' : wq.cell? ⟨b, o + J, none⟩ = some (.int .u8 59) := by rw [hcl, hd59]; rfl
            have hDd : d.toNat = 59 := by rw [hd59]; rfl
            cases hdoc : isDoc r with
            | true =>
              have HRES : Hid (res = (r, J + 1, 0)) := Lib.hid (by rw [hcc, if_neg (by rw [hd59]; simp; exact List.ne_nil_of_length_pos (by omega)), if_pos hdoc])
              rw [hdoc] at HT1
              have HJ := Lib.hid hJ
              have hm0' : 0 < ds.length := by omega
              rw [hDd] at HDC hcl
              clear hcc hm0 hJ hdd hne59 hd59 hDd hdoc hcl'
              go_wp2_with fail
              refine HDC.out.mono ?_
              rintro e w1 ⟨rfl, rfl⟩
              go_wp2_with fail
              refine HT1.out.mono ?_
              rintro e w1 ⟨rfl, hb⟩
              have HE : Hid (Below w.heap.size w w1) := Lib.hid (HQ.out.trans (hb.mono HQ.out.size))
              clear hb
              go_wp2
              try rw [Exit.noGoto_ret]
              go_ret3
              rw [HRES.out]
              exact ⟨rfl, HE.out⟩
            | false =>
              have HRES : Hid (res = (0, 0, 6)) := Lib.hid (by rw [hcc, if_neg (by rw [hd59]; simp; exact List.ne_nil_of_length_pos (by omega)), if_neg (by rw [hdoc]; decide)])
              rw [hdoc] at HT1
              have HJ := Lib.hid hJ
              have hm0' : 0 < ds.length := by omega
              rw [hDd] at HDC hcl
              clear hcc hm0 hJ hdd hne59 hd59 hDd hdoc hcl'
              go_wp2_with fail
              refine HDC.out.mono ?_
              rintro e w1 ⟨rfl, rfl⟩
              go_wp2_with fail
              refine HT1.out.mono ?_
              rintro e w1 ⟨rfl, hb⟩
              have HE : Hid (Below w.heap.size w w1) := Lib.hid (HQ.out.trans (hb.mono HQ.out.size))
              clear hb
              go_wp2
              try rw [Exit.noGoto_ret]
              go_ret3
              rw [HRES.out]
              exact ⟨rfl, HE.out⟩
          · have HRES : Hid (res = (0, 0, 7)) := Lib.hid (by rw [hcc, if_pos (Or.inr (by simpa using hd59))])
            have hdn59 := hne59 hd59
            have HJ := Lib.hid hJ
            have hm0' : 0 < ds.length := by omega
            clear hcc hm0 hJ hdd hne59 hd59
            generalize (d.toNat : Int) = dn at *
            go_wp2_with fail
            refine HDC.out.mono ?_
            rintro e w1 ⟨rfl, rfl⟩
            go_wp2
            try rw [Exit.noGoto_ret]
            go_ret3
            rw [HRES.out]
            exact ⟨rfl, HQ.out⟩
    · have hjm : j = (at_ + 2) + ds.length := by have := HS.out; omega
      have hjnn : j = n := by have := HS.out; omega
      have HRES : Hid (res = (0, 0, 7)) := Lib.hid (by rw [HC.out, if_pos (Or.inr (by rw [← hjm, List.getElem?_eq_none (by omega)]; simp))])
      have hjin : ¬ (j : Int) < (n : Int) := by omega
      have hjin2 : ((j : Int) == (n : Int)) = true := by simp; omega
      have HJ := Lib.hid (And.intro hjm hjnn)
      clear hjm hjnn
      generalize hz : ((j : Int) == (at_ : Int) + 2) = z at *
      cases z with
      | true =>
        go_wp2
        try rw [Exit.noGoto_ret]
        go_ret3
        rw [HRES.out]
        exact ⟨rfl, HQ.out⟩
      | false =>
        go_wp2
        try rw [Exit.noGoto_ret]
        go_ret3
        rw [HRES.out]
        exact ⟨rfl, HQ.out⟩
/-- What is read of a reference to a character at any place. -/
def charAt (l : List UInt8) (at_ : Int) : Int × Nat × Nat := if at_ < 0 ∨ (l.length : Int) < at_ then (0, 0, 3) else charOut l at_.toNat
theorem crefChar_c (A : Option Addr) (n cap : Nat) (l : List UInt8) (at_ : Int) (w : World) (h : Byt w w.heap.size A n cap l) (hF : Forms w) (hT : Tabs w) (hm : n ≤ 50000) :
    Calls Tryd.prog 19 #[.slice A n cap, .int .i64 at_] w fun e w' => e = .returned (numV (charAt l at_)) ∧ Below w.heap.size w w' := by
  have hl := h.length
  unfold charAt
  rw [hl]
  by_cases ha : at_ < 0 ∨ (n : Int) < at_
  · rw [if_pos ha]; exact crefChar_range A n cap at_ w ha
  · rw [if_neg ha]
    obtain ⟨k, rfl⟩ : ∃ k : Nat, at_ = (k : Int) := ⟨at_.toNat, by omega⟩
    rw [Int.toNat_natCast]
    have hk : k ≤ n := by omega
    have hd0 : (l.drop k)[0]? = l[k]? := by simp
    have hd1 : (l.drop k)[1]? = l[k + 1]? := by simp
    have hd2 : (l.drop k)[2]? = l[k + 2]? := by simp
    unfold charOut
    by_cases h2 : l[k]? = some 38 ∧ l[k + 1]? = some 35
    · rw [if_pos h2]
      have p2 : [38, 35].isPrefixOf (l.drop k) = true := by rw [pre2, hd0, hd1]; exact decide_eq_true h2
      by_cases h3 : l[k + 2]? = some 120
      · rw [if_pos h3]
        exact crefChar_16 A n cap l k w h hT hF hm hk (by rw [pre3, hd0, hd1, hd2]; exact decide_eq_true ⟨h2.1, h2.2, h3⟩)
      · rw [if_neg h3]
        exact crefChar_10 A n cap l k w h hT hF hm hk (by rw [pre3, hd0, hd1, hd2]; exact decide_eq_false fun h => h3 h.2.2) p2
    · rw [if_neg h2]
      exact crefChar_no A n cap l k w h hm hk (by rw [pre2, hd0, hd1]; exact decide_eq_false h2)
end Go.Proofs.YtmclngahdklfkaaDoor
/- strings.Builder: what its methods do to a builder that the call has made. -/
namespace Go.Proofs.YtmclngahdklfkaaDoor
open Go.ChangeShapes Go.WideShapes Go.ChangeAt Go.RowKit
set_option linter.unusedVariables false
/-- Below R every block but b stands. -/
structure Fr (R b : Nat) (w w' : World) : Prop where
  os : w'.os = w.os
  tape : w'.tape = w.tape
  output : w'.output = w.output
  size : w.heap.size ≤ w'.heap.size
  block : ∀ k, k < R → k ≠ b → w'.heap[k]? = w.heap[k]?
theorem Fr.refl (R b : Nat) (w : World) : Fr R b w w := ⟨rfl, rfl, rfl, Nat.le_refl _, fun _ _ _ => rfl⟩
theorem Fr.trans {R b : Nat} {x y z : World} (h : Fr R b x y) (k : Fr R b y z) : Fr R b x z :=
  ⟨k.os.trans h.os, k.tape.trans h.tape, k.output.trans h.output, Nat.le_trans h.size k.size, fun i hi hb => (k.block i hi hb).trans (h.block i hi hb)⟩
theorem Fr.below {R b B : Nat} {w w' : World} (h : Fr R b w w') (hR : B ≤ R) (hb : B ≤ b) : Below B w w' := ⟨h.os, h.tape, h.output, h.size, fun k hk => h.block k (by omega) (by omega)⟩
theorem Fr.mono {R R' b : Nat} {w w' : World} (h : Fr R b w w') (hR : R' ≤ R) : Fr R' b w w' := ⟨h.os, h.tape, h.output, h.size, fun k hk hb => h.block k (by omega) hb⟩
theorem Fr.set {R b : Nat} {w w' : World} (h : Fr R b w w') (i : Nat) (v : Value) : Fr R b w (w'.setCell ⟨b, i, none⟩ v) :=
  ⟨h.os, h.tape, h.output, by have := h.size; simpa [World.setCell] using this, fun k hk hb => by rw [hp_other hb]; exact h.block k hk hb⟩
end Go.Proofs.YtmclngahdklfkaaDoor
/- cref.Escape. -/
namespace Go.Proofs.YtmclngahdklfkaaDoor
open Go.ChangeShapes Go.WideShapes Go.ChangeAt Go.RowKit
set_option linter.unusedVariables false
/-- '[]byte(s)'. -/
theorem toBytes (w : World) (l : List UInt8) (hl : l.length ≤ 1000000) : ∃ c w', (convert 9 37 (.string ⟨l.toArray⟩)).run Tryd.prog w = .ok (.slice (some ⟨w.heap.size, 0, none⟩) l.length c) w' ∧ Below w.heap.size w w' ∧ w'.heap.size = w.heap.size + 1 ∧ Byt w' (w.heap.size + 1) (some ⟨w.heap.size, 0, none⟩) l.length c l := by
  have hsz : (⟨l.toArray⟩ : ByteArray).size = l.length := by simp [ByteArray.size]
  refine ⟨_, _, (by have := Lib.run_convert_string_bytes (P := Tryd.prog) w 9 37 5 ⟨l.toArray⟩ Tryd.underlying9 Tryd.underlying37 Tryd.underlying5; rw [hsz] at this; exact this), Lib.bytesWorld_below _ _ _, Lib.bytesWorld_size _ _ _, ⟨by simp, grownCap_ge _ _ _ _, grownCap_le_maxLen _ _ _ _ (by unfold maxLen; omega), (fun e => by cases e), fun _ => ⟨_, _, rfl, by omega, fun i u hu => ?_⟩⟩⟩
  have hi : i < l.length := by
    rcases Nat.lt_or_ge i l.length with h' | h'
    · exact h'
    · rw [List.getElem?_eq_none (by simpa using h')] at hu; cases hu
  rw [Nat.zero_add, Lib.bytesWorld_cell _ _ _ _ (by rw [hsz]; exact hi)]
  rw [List.getElem?_map, List.getElem?_eq_getElem hi] at hu
  simp only [Option.map_some, Option.some.injEq] at hu
  rw [← hu]
  simp [bv, hi]
end Go.Proofs.YtmclngahdklfkaaDoor
/- lit.Quoted. -/
namespace Go.Proofs.YtmclngahdklfkaaDoor
open Go.ChangeShapes Go.WideShapes Go.ChangeAt Go.RowKit
set_option linter.unusedVariables false
theorem indexByte_c (A : Option Addr) (n cap : Nat) (l : List UInt8) (c : UInt8) (w : World) (B : Nat) (h : Byt w B A n cap l) :
    Calls Tryd.prog 45 #[.slice A n cap, .int .u8 c.toNat] w fun e w' => e = .returned (.int .i64 (Lib.indexByte l c)) ∧ w' = w := by
  have hcc : ((c.toNat : Int).toNat.toUInt8) = c := by simp
  cases A with
  | none =>
    have hc := h.nil rfl
    have hn := h.le
    have hl := h.length
    obtain rfl : cap = 0 := hc
    obtain rfl : n = 0 := by omega
    obtain rfl : l = [] := List.length_eq_zero_iff.1 hl
    exact (Tryd.bytes_IndexByte_nil (c.toNat : Int) w)
  | some a =>
    refine (Tryd.bytes_IndexByte_at a n cap (nums l) (c.toNat : Int) w (by rw [nums_length, h.length]) fun i hi => ?_).mono fun e w' ⟨he, hw⟩ => ⟨by rw [he, bytesOf_nums, hcc], hw⟩
    obtain ⟨b, o, e, hc⟩ := h.cells (by have := h.le; omega)
    cases e
    have := hc i hi
    unfold Addr.add
    split
    · rename_i h0; subst h0; rw [Nat.add_zero] at this; exact this
    · exact this
set_option maxRecDepth 100000 in
set_option maxHeartbeats 2000000 in
theorem quoted_range (A : Option Addr) (n cap : Nat) (at_ : Int) (w : World) (ha : at_ < 0 ∨ (n : Int) < at_) :
    Calls Tryd.prog 93 #[.slice A n cap, .int .i64 at_] w fun e w' => e = .returned (outV ([], 0, 3)) ∧ w = w' := by
  by_cases h0 : at_ < 0
  · have hd : decide (at_ < 0) = true := by simpa using h0
    clear ha
    go_enter Tryd.func93, Tryd.ntmps93
    go_wp2
    go_ret3
    exact ⟨rfl, rfl⟩
  · have h1 : (n : Int) < at_ := by omega
    clear ha
    go_enter Tryd.func93, Tryd.ntmps93
    go_wp2
    go_ret3
    exact ⟨rfl, rfl⟩
set_option maxRecDepth 100000 in
set_option maxHeartbeats 2000000 in
theorem quoted_no (A : Option Addr) (n cap : Nat) (l : List UInt8) (k : Nat) (w : World) (B : Nat) (h : Byt w B A n cap l) (hm : n ≤ 50000) (hk : k ≤ n) (hq : ∀ q, l[k]? = some q → ¬ (q = 34 ∨ q = 39)) :
    Calls Tryd.prog 93 #[.slice A n cap, .int .i64 k] w fun e w' => e = .returned (outV ([], 0, 7)) ∧ w = w' := by
  have hat' : ¬ (n : Int) < (k : Int) := by omega
  by_cases hkn : k = n
  · have hkn' : ((k : Int) == (n : Int)) = true := by simp; omega
    clear hq h hm hk hkn
    go_enter Tryd.func93, Tryd.ntmps93
    go_wp2
    go_ret3
    exact ⟨rfl, rfl⟩
  · have hkn' : ((k : Int) == (n : Int)) = false := by simp; omega
    obtain ⟨b, o, c, rfl, hb, hc, hcell⟩ := h.cell (i := k) (by omega)
    have hli : (k : Int) < (n : Int) := by omega
    have hq' := not_or.1 (hq c hc)
    have e1 : ((c.toNat : Int) != 34) = true := by have := ne_byte' c 34 34 rfl hq'.1; simp [bne, this]
    have e2 : ((c.toNat : Int) != 39) = true := by have := ne_byte' c 39 39 rfl hq'.2; simp [bne, this]
    clear hq hq' h hm hk hkn hc
    generalize (c.toNat : Int) = cn at *
    go_enter Tryd.func93, Tryd.ntmps93
    go_wp2
    go_ret3
    exact ⟨rfl, rfl⟩
set_option maxRecDepth 100000 in
set_option maxHeartbeats 2000000 in
theorem quoted_34 (A : Option Addr) (n cap : Nat) (l : List UInt8) (k : Nat) (w : World) (B : Nat) (h : Byt w B A n cap l) (hm : n ≤ 50000) (hq : l[k]? = some 34) :
    Calls Tryd.prog 93 #[.slice A n cap, .int .i64 k] w fun e w' => e = .returned (outV (quotedQ 34 l k)) ∧ ∃ m, w' = w.drewN m := by
  have hl := h.length
  have hkn : k < n := by
    rcases Nat.lt_or_ge k l.length with g | g
    · omega
    · rw [List.getElem?_eq_none g] at hq; cases hq
  have hat' : ¬ (n : Int) < (k : Int) := by omega
  have hne : ((k : Int) == (n : Int)) = false := by simp; omega
  obtain ⟨b, o, c, rfl, hb, hc, hcell⟩ := h.cell (i := k) hkn
  have hcq : c = 34 := by rw [hq] at hc; exact (Option.some.inj hc).symm
  have hcell' : w.cell? ⟨b, o + k, none⟩ = some (.int .u8 34) := by rw [hcell, hcq]; rfl
  have hli : (k : Int) < (n : Int) := by omega
  have hk0 : (0 : Int) ≤ (k : Int) := by omega
  have hk1 : (k : Int) ≤ 50000 := by omega
  have hk2 : (0 : Int) ≤ (k : Int) + 1 := by omega
  have hk3 : (k : Int) + 1 ≤ (n : Int) := by omega
  have hap : IntKind.i64.wrap ((k : Int) + 1) = (k : Int) + 1 := by rw [IntKind.wrap_i64]; omega
  have hrf : ∀ w2 : World, (Instr.slice 37 (.slice (some ⟨b, o, none⟩) n cap) (some (.int .i64 ((k : Int) + 1))) none none).run Tryd.prog w2 = .ok (.slice (cutA (some ⟨b, o, none⟩) cap (k + 1)) (n - (k + 1)) (cap - (k + 1))) w2 := fun w2 => run_from (w := w2) (some ⟨b, o, none⟩) n cap (k + 1) (by omega)
  have hdr := h.drop (k := k + 1) (by omega)
  have HI : Hid (∀ m, Calls Tryd.prog 45 #[.slice (cutA (some ⟨b, o, none⟩) cap (k + 1)) (n - (k + 1)) (cap - (k + 1)), .int .u8 34] (w.drewN m) fun e w' => e = .returned (.int .i64 (Lib.indexByte (l.drop (k + 1)) 34)) ∧ w' = w.drewN m) := Lib.hid fun m => indexByte_c _ _ _ (l.drop (k + 1)) 34 (w.drewN m) _ hdr.drewN
  have hlo := ix_lo 34 (l.drop (k + 1))
  rw [List.length_drop, hl] at hlo
  have hcap := h.le
  have HQ : Hid (quotedQ 34 l k = if Lib.indexByte (l.drop (k + 1)) 34 < 0 then ([], 0, 7) else ((l.drop (k + 1)).take (Lib.indexByte (l.drop (k + 1)) 34).toNat, k + (Lib.indexByte (l.drop (k + 1)) 34).toNat + 2, 0)) := Lib.hid rfl
  have HB : Hid (∀ j m, j ≤ n - (k + 1) → (convert 37 9 (.slice (cutA (some ⟨b, o, none⟩) cap (k + 1)) j (cap - (k + 1)))).run Tryd.prog (w.drewN m) = .ok (.string ⟨((l.drop (k + 1)).take j).toArray⟩) (w.drewN m)) := Lib.hid fun j m hj => (hdr.drewN.take hj).str
  have hlo1 := hlo.1
  have hlo2 := hlo.2
  clear h hc hcell hcq hdr hq hl hlo
  generalize Lib.indexByte (l.drop (k + 1)) 34 = ix at *
  generalize quotedQ 34 l k = res at *
  have hcut : ∀ j : Nat, j ≤ n - (k + 1) → ∀ w2 : World, (Instr.slice 37 (.slice (some ⟨b, o, none⟩) n cap) (some (.int .i64 ((k : Int) + 1))) (some (.int .i64 ((k : Int) + 1 + (j : Int)))) none).run Tryd.prog w2 = .ok (.slice (cutA (some ⟨b, o, none⟩) cap (k + 1)) j (cap - (k + 1))) w2 := fun j hj w2 => by
    have := run_fromTo (w := w2) (some ⟨b, o, none⟩) n cap (k + 1) (k + 1 + j) (by omega) (by omega)
    rw [show k + 1 + j - (k + 1) = j by omega, show ((k + 1 + j : Nat) : Int) = (k : Int) + 1 + (j : Int) by omega] at this
    exact this
  have HCUT := Lib.hid hcut
  clear hcut hcap
  go_enter Tryd.func93, Tryd.ntmps93
  go_wp2
  go_quiet ((go_at_call 45; exact Calls.quiet_of_same (HI.out _)))
  clear HI
  generalize hwq : w.drewN nq = wq at *
  have HWQ := Lib.hid hwq
  clear hwq
  by_cases hx : ix < 0
  · have hd : decide (ix < 0) = true := by simpa using hx
    have HRES : Hid (res = ([], 0, 7)) := Lib.hid (by rw [HQ.out, if_pos hx])
    go_wp2
    go_ret3
    rw [HRES.out]
    exact ⟨rfl, _, HWQ.out.symm⟩
  · obtain ⟨j, rfl⟩ : ∃ j : Nat, ix = (j : Int) := ⟨ix.toNat, by omega⟩
    have hd : decide ((j : Int) < 0) = false := by simp
    have hjn : j ≤ n - (k + 1) := by omega
    have HRES : Hid (res = ((l.drop (k + 1)).take j, k + j + 2, 0)) := Lib.hid (by rw [HQ.out, if_neg hx, Int.toNat_natCast])
    have hct := HCUT.out j hjn
    have hst : (convert 37 9 (.slice (cutA (some ⟨b, o, none⟩) cap (k + 1)) j (cap - (k + 1)))).run Tryd.prog wq = .ok (.string ⟨((l.drop (k + 1)).take j).toArray⟩) wq := by rw [← HWQ.out]; exact HB.out j _ hjn
    have hjb : (j : Int) ≤ 50000 := by omega
    generalize (l.drop (k + 1)).take j = T at *
    have hw1 : IntKind.i64.wrap ((k : Int) + 1 + (j : Int)) = (k : Int) + 1 + (j : Int) := by rw [IntKind.wrap_i64]; omega
    have hw2 : IntKind.i64.wrap ((k : Int) + (j : Int)) = (k : Int) + (j : Int) := by rw [IntKind.wrap_i64]; omega
    have hw3 : IntKind.i64.wrap ((k : Int) + (j : Int) + 2) = (k : Int) + (j : Int) + 2 := by rw [IntKind.wrap_i64]; omega
    clear hx hlo1 hlo2
    go_wp2
    go_ret3
    rw [HRES.out]
    exact ⟨rfl, _, HWQ.out.symm⟩
set_option maxRecDepth 100000 in
set_option maxHeartbeats 2000000 in
theorem quoted_39 (A : Option Addr) (n cap : Nat) (l : List UInt8) (k : Nat) (w : World) (B : Nat) (h : Byt w B A n cap l) (hm : n ≤ 50000) (hq : l[k]? = some 39) :
    Calls Tryd.prog 93 #[.slice A n cap, .int .i64 k] w fun e w' => e = .returned (outV (quotedQ 39 l k)) ∧ ∃ m, w' = w.drewN m := by
  have hl := h.length
  have hkn : k < n := by
    rcases Nat.lt_or_ge k l.length with g | g
    · omega
    · rw [List.getElem?_eq_none g] at hq; cases hq
  have hat' : ¬ (n : Int) < (k : Int) := by omega
  have hne : ((k : Int) == (n : Int)) = false := by simp; omega
  obtain ⟨b, o, c, rfl, hb, hc, hcell⟩ := h.cell (i := k) hkn
  have hcq : c = 39 := by rw [hq] at hc; exact (Option.some.inj hc).symm
  have hcell' : w.cell? ⟨b, o + k, none⟩ = some (.int .u8 39) := by rw [hcell, hcq]; rfl
  have hli : (k : Int) < (n : Int) := by omega
  have hk0 : (0 : Int) ≤ (k : Int) := by omega
  have hk1 : (k : Int) ≤ 50000 := by omega
  have hk2 : (0 : Int) ≤ (k : Int) + 1 := by omega
  have hk3 : (k : Int) + 1 ≤ (n : Int) := by omega
  have hap : IntKind.i64.wrap ((k : Int) + 1) = (k : Int) + 1 := by rw [IntKind.wrap_i64]; omega
  have hrf : ∀ w2 : World, (Instr.slice 37 (.slice (some ⟨b, o, none⟩) n cap) (some (.int .i64 ((k : Int) + 1))) none none).run Tryd.prog w2 = .ok (.slice (cutA (some ⟨b, o, none⟩) cap (k + 1)) (n - (k + 1)) (cap - (k + 1))) w2 := fun w2 => run_from (w := w2) (some ⟨b, o, none⟩) n cap (k + 1) (by omega)
  have hdr := h.drop (k := k + 1) (by omega)
  have HI : Hid (∀ m, Calls Tryd.prog 45 #[.slice (cutA (some ⟨b, o, none⟩) cap (k + 1)) (n - (k + 1)) (cap - (k + 1)), .int .u8 39] (w.drewN m) fun e w' => e = .returned (.int .i64 (Lib.indexByte (l.drop (k + 1)) 39)) ∧ w' = w.drewN m) := Lib.hid fun m => indexByte_c _ _ _ (l.drop (k + 1)) 39 (w.drewN m) _ hdr.drewN
  have hlo := ix_lo 39 (l.drop (k + 1))
  rw [List.length_drop, hl] at hlo
  have hcap := h.le
  have HQ : Hid (quotedQ 39 l k = if Lib.indexByte (l.drop (k + 1)) 39 < 0 then ([], 0, 7) else ((l.drop (k + 1)).take (Lib.indexByte (l.drop (k + 1)) 39).toNat, k + (Lib.indexByte (l.drop (k + 1)) 39).toNat + 2, 0)) := Lib.hid rfl
  have HB : Hid (∀ j m, j ≤ n - (k + 1) → (convert 37 9 (.slice (cutA (some ⟨b, o, none⟩) cap (k + 1)) j (cap - (k + 1)))).run Tryd.prog (w.drewN m) = .ok (.string ⟨((l.drop (k + 1)).take j).toArray⟩) (w.drewN m)) := Lib.hid fun j m hj => (hdr.drewN.take hj).str
  have hlo1 := hlo.1
  have hlo2 := hlo.2
  clear h hc hcell hcq hdr hq hl hlo
  generalize Lib.indexByte (l.drop (k + 1)) 39 = ix at *
  generalize quotedQ 39 l k = res at *
  have hcut : ∀ j : Nat, j ≤ n - (k + 1) → ∀ w2 : World, (Instr.slice 37 (.slice (some ⟨b, o, none⟩) n cap) (some (.int .i64 ((k : Int) + 1))) (some (.int .i64 ((k : Int) + 1 + (j : Int)))) none).run Tryd.prog w2 = .ok (.slice (cutA (some ⟨b, o, none⟩) cap (k + 1)) j (cap - (k + 1))) w2 := fun j hj w2 => by
    have := run_fromTo (w := w2) (some ⟨b, o, none⟩) n cap (k + 1) (k + 1 + j) (by omega) (by omega)
    rw [show k + 1 + j - (k + 1) = j by omega, show ((k + 1 + j : Nat) : Int) = (k : Int) + 1 + (j : Int) by omega] at this
    exact this
  have HCUT := Lib.hid hcut
  clear hcut hcap
  go_enter Tryd.func93, Tryd.ntmps93
  go_wp2
  go_quiet ((go_at_call 45; exact Calls.quiet_of_same (HI.out _)))
  clear HI
  generalize hwq : w.drewN nq = wq at *
  have HWQ := Lib.hid hwq
  clear hwq
  by_cases hx : ix < 0
  · have hd : decide (ix < 0) = true := by simpa using hx
    have HRES : Hid (res = ([], 0, 7)) := Lib.hid (by rw [HQ.out, if_pos hx])
    go_wp2
    go_ret3
    rw [HRES.out]
    exact ⟨rfl, _, HWQ.out.symm⟩
  · obtain ⟨j, rfl⟩ : ∃ j : Nat, ix = (j : Int) := ⟨ix.toNat, by omega⟩
    have hd : decide ((j : Int) < 0) = false := by simp
    have hjn : j ≤ n - (k + 1) := by omega
    have HRES : Hid (res = ((l.drop (k + 1)).take j, k + j + 2, 0)) := Lib.hid (by rw [HQ.out, if_neg hx, Int.toNat_natCast])
    have hct := HCUT.out j hjn
    have hst : (convert 37 9 (.slice (cutA (some ⟨b, o, none⟩) cap (k + 1)) j (cap - (k + 1)))).run Tryd.prog wq = .ok (.string ⟨((l.drop (k + 1)).take j).toArray⟩) wq := by rw [← HWQ.out]; exact HB.out j _ hjn
    have hjb : (j : Int) ≤ 50000 := by omega
    generalize (l.drop (k + 1)).take j = T at *
    have hw1 : IntKind.i64.wrap ((k : Int) + 1 + (j : Int)) = (k : Int) + 1 + (j : Int) := by rw [IntKind.wrap_i64]; omega
    have hw2 : IntKind.i64.wrap ((k : Int) + (j : Int)) = (k : Int) + (j : Int) := by rw [IntKind.wrap_i64]; omega
    have hw3 : IntKind.i64.wrap ((k : Int) + (j : Int) + 2) = (k : Int) + (j : Int) + 2 := by rw [IntKind.wrap_i64]; omega
    clear hx hlo1 hlo2
    go_wp2
    go_ret3
    rw [HRES.out]
    exact ⟨rfl, _, HWQ.out.symm⟩
/-- lit.Quoted. -/
theorem quoted_c (A : Option Addr) (n cap : Nat) (l : List UInt8) (at_ : Int) (w : World) (B : Nat) (h : Byt w B A n cap l) (hm : n ≤ 50000) :
    Calls Tryd.prog 93 #[.slice A n cap, .int .i64 at_] w fun e w' => e = .returned (outV (quotedAt l at_)) ∧ ∃ m, w' = w.drewN m := by
  have hl := h.length
  unfold quotedAt
  rw [hl]
  by_cases ha : at_ < 0 ∨ (n : Int) < at_
  · rw [if_pos ha]; exact (quoted_range A n cap at_ w ha).mono fun e w' ⟨he, hw⟩ => ⟨he, 0, hw.symm⟩
  · rw [if_neg ha]
    obtain ⟨k, rfl⟩ : ∃ k : Nat, at_ = (k : Int) := ⟨at_.toNat, by omega⟩
    rw [Int.toNat_natCast]
    unfold quotedOut
    cases hq : l[k]? with
    | none => exact (quoted_no A n cap l k w B h hm (by omega) (fun q e => by rw [hq] at e; cases e)).mono fun e w' ⟨he, hw⟩ => ⟨he, 0, hw.symm⟩
    | some q =>
      simp only
      by_cases hqq : q = 34 ∨ q = 39
      · rw [if_pos hqq]
        rcases hqq with rfl | rfl
        · exact quoted_34 A n cap l k w B h hm hq
        · exact quoted_39 A n cap l k w B h hm hq
      · rw [if_neg hqq]; exact (quoted_no A n cap l k w B h hm (by omega) (fun q' e => by rw [hq] at e; cases e; exact hqq)).mono fun e w' ⟨he, hw⟩ => ⟨he, 0, hw.symm⟩
end Go.Proofs.YtmclngahdklfkaaDoor
/- lit.Refs. -/
namespace Go.Proofs.YtmclngahdklfkaaDoor
open Go.ChangeShapes Go.WideShapes Go.ChangeAt Go.RowKit
set_option linter.unusedVariables false
theorem refAt_in (m : UInt8) (l : List UInt8) (k : Nat) (h : k ≤ l.length) : refAt m l (k : Int) = refOut m l k := by
  unfold refAt; rw [if_neg (by omega), Int.toNat_natCast]
theorem charAt_in (l : List UInt8) (k : Nat) (h : k ≤ l.length) : charAt l (k : Int) = charOut l k := by
  unfold charAt; rw [if_neg (by omega), Int.toNat_natCast]
set_option maxRecDepth 100000 in
set_option maxHeartbeats 2000000 in
theorem refs_c (l : List UInt8) (w : World) (hT : Tabs w) (hF : Forms w) (hm : l.length ≤ 40000) :
    Calls Tryd.prog 96 #[.string ⟨l.toArray⟩] w fun e w' => e = .returned (.tuple #[.int .i64 (refsOut l).1, .int .i64 (refsOut l).2]) ∧ Below w.heap.size w w' := by
  have hsz : (⟨l.toArray⟩ : ByteArray).size = l.length := by simp [ByteArray.size]
  obtain ⟨cp, w1, hcv, hb1, hs1, hby⟩ := toBytes w l (by omega)
  rw [show w.heap.size + 1 = w1.heap.size by omega] at hby
  have hL := hT.low hF
  have kc := fun (w : World) (C : Array Value) (n c : Nat) => Lib.run_convert_bytes_const (P := Tryd.prog) w 37 5 C n c Tryd.underlying37 Tryd.underlying5
  have HT1 := Lib.hid (hT.below hb1 hL)
  have HF1 := Lib.hid (hF.below hb1 hF.lt)
  have HL1 := Lib.hid (Tabs.low HT1.out HF1.out)
  have HBY := Lib.hid hby
  have HB1 := Lib.hid hb1
  have hcap := hby.le
  have HRES := Lib.hid (refsOut_eq l)
  clear hT hF hL hb1 hs1 hby
  generalize refsOut l = res at *
  go_enter Tryd.func96, Tryd.ntmps96
  go_wp2
  go_loopg [5] (l.length + 1) (fun g a wr => ∃ k : Nat, k ≤ l.length ∧ Hid (g + k = l.length + 1) ∧ a = .int .i64 (k : Int) ∧ Hid (refsFrom l k = res) ∧ Hid (Below w1.heap.size w1 wr))
  case atStart => exact ⟨0, Nat.zero_le _, Lib.hid (by omega), rfl, Lib.hid HRES.out.symm, Lib.hid (Below.refl _ _)⟩
  case round =>
    obtain ⟨k, hk, hg, rfl, HR, BR⟩ := hrel
    have hk0 : (0 : Int) ≤ (k : Int) := by omega
    have hk1 : (k : Int) ≤ 40000 := by omega
    have hrf : ∀ w2 : World, (Instr.slice 37 (.slice (some ⟨w.heap.size, 0, none⟩) l.length cp) (some (.int .i64 (k : Int))) none none).run Tryd.prog w2 = .ok (.slice (cutA (some ⟨w.heap.size, 0, none⟩) cp k) (l.length - k) (cp - k)) w2 := fun w2 => run_from (w := w2) _ l.length cp k hk
    have HI : Hid (Calls Tryd.prog 45 #[.slice (cutA (some ⟨w.heap.size, 0, none⟩) cp k) (l.length - k) (cp - k), .int .u8 38] wr fun e w' => e = .returned (.int .i64 (Lib.indexByte (l.drop k) 38)) ∧ w' = wr) := Lib.hid (indexByte_c _ _ _ (l.drop k) 38 wr _ ((HBY.out.below BR.out).drop hk))
    have hlo := ix_lo 38 (l.drop k)
    rw [List.length_drop] at hlo
    by_cases hx : Lib.indexByte (l.drop k) 38 < 0
    · have hno := ix_none 38 (l.drop k) hx
      have HE : Hid (res = (0, 0)) := Lib.hid (by
        rw [← HR.out, refsFrom_skips l k (l.length - k) (by omega) (fun j hj => by have := hno j; rwa [List.getElem?_drop] at this), refsFrom_end l _ (by omega)])
      have hd : decide (Lib.indexByte (l.drop k) 38 < 0) = true := by simpa using hx
      clear hlo hno hx
      generalize Lib.indexByte (l.drop k) 38 = ix at *
      go_wp2_with fail
      refine HI.out.mono ?_
      rintro e w2 ⟨rfl, rfl⟩
      clear hcv kc
      go_wp2
      go_ret2
      rw [HE.out]
      exact ⟨rfl, HB1.out.trans (BR.out.mono HB1.out.size)⟩
    · obtain ⟨hat, hno⟩ := ix_at 38 (l.drop k) (by omega)
      obtain ⟨j, hj⟩ : ∃ j : Nat, Lib.indexByte (l.drop k) 38 = (j : Int) := ⟨(Lib.indexByte (l.drop k) 38).toNat, by omega⟩
      rw [hj] at HI hlo hat hno
      rw [Int.toNat_natCast, List.getElem?_drop] at hat
      have hpl : k + j < l.length := by omega
      have HSK : Hid (refsFrom l (k + j) = res) := Lib.hid (by
        rw [← HR.out, refsFrom_skips l k j (by omega) (fun i hi => by have := hno i (by omega); rwa [List.getElem?_drop] at this)])
      have HAT := Lib.hid hat
      have hjj : decide ((j : Int) < 0) = false := by simp
      have hj0 : (0 : Int) ≤ (j : Int) := by omega
      have hjl := hlo.2
      clear hlo hno hx hj hat
      have hw1 : IntKind.i64.wrap ((k : Int) + (j : Int)) = ((k + j : Nat) : Int) := by rw [IntKind.wrap_i64]; omega
      have hw2 : (k : Int) + (j : Int) = ((k + j : Nat) : Int) := by omega
      have hw3 : (((k + j : Nat) : Int)) = (k : Int) + (j : Int) := by omega
      have hrf2 : ∀ w2 : World, (Instr.slice 37 (.slice (some ⟨w.heap.size, 0, none⟩) l.length cp) (some (.int .i64 ((k : Int) + (j : Int)))) none none).run Tryd.prog w2 = .ok (.slice (cutA (some ⟨w.heap.size, 0, none⟩) cp (k + j)) (l.length - (k + j)) (cp - (k + j))) w2 := fun w2 => by
        have := run_from (w := w2) (some ⟨w.heap.size, 0, none⟩) l.length cp (k + j) (by omega)
        rwa [hw3] at this
      have CE : Hid (Calls Tryd.prog 20 #[.slice (some ⟨w.heap.size, 0, none⟩) l.length cp, .int .i64 ((k : Int) + (j : Int))] wr fun e w' => e = .returned (outV (refOut 38 l (k + j))) ∧ Below wr.heap.size wr w') := Lib.hid (by
        have := crefEntity_c _ _ _ l ((k + j : Nat) : Int) wr ((HBY.out.below BR.out).more BR.out.size) (HF1.out.below BR.out HF1.out.lt) (HT1.out.below BR.out HL1.out) (by omega)
        rwa [refAt_in 38 l (k + j) (by omega), hw3] at this)
      have CC : Hid (∀ w4, Below w1.heap.size w1 w4 → Calls Tryd.prog 19 #[.slice (some ⟨w.heap.size, 0, none⟩) l.length cp, .int .i64 ((k : Int) + (j : Int))] w4 fun e w' => e = .returned (numV (charOut l (k + j))) ∧ Below w4.heap.size w4 w') := Lib.hid (fun w4 hb4 => by
        have := crefChar_c _ _ _ l ((k + j : Nat) : Int) w4 ((HBY.out.below hb4).more hb4.size) (HF1.out.below hb4 HF1.out.lt) (HT1.out.below hb4 HL1.out) (by omega)
        rwa [charAt_in l (k + j) (by omega), hw3] at this)
      have HP : Hid (∀ w3, Below w1.heap.size w1 w3 → Calls Tryd.prog 13 #[.slice (cutA (some ⟨w.heap.size, 0, none⟩) cp (k + j)) (l.length - (k + j)) (cp - (k + j)), .slice (some ⟨w3.heap.size, 0, none⟩) 2 2] (w3.alloc (.cells #[.int .u8 38, .int .u8 35] 5 (2, 3))) fun e w' => e = .returned (.bool (decide (l[k + j + 1]? = some 35))) ∧ w3.alloc (.cells #[.int .u8 38, .int .u8 35] 5 (2, 3)) = w') := Lib.hid (fun w3 hb3 => by
        have hb4 : Below w1.heap.size w1 (w3.alloc (.cells #[.int .u8 38, .int .u8 35] 5 (2, 3))) := hb3.alloc hb3.size _
        have := hasPrefix_c _ _ _ _ _ _ _ [38, 35] _ _ _ ((HBY.out.below hb4).drop (k := k + j) (by omega)) (Byt.const w3 [38, 35] (2, 3) (by decide))
        rw [pre2, List.getElem?_drop, List.getElem?_drop, show k + j + 0 = k + j by omega, HAT.out] at this
        simpa using this)
      have HM : Hid (markOut l (k + j) = if l[k + j + 1]? = some 35 then (charOut l (k + j)).2 else (refOut 38 l (k + j)).2) := Lib.hid rfl
      clear hw1 hw2 hw3
      have hwk : IntKind.i64.wrap ((k : Int) + (j : Int)) = (k : Int) + (j : Int) := by rw [IntKind.wrap_i64]; omega
      by_cases h35 : l[k + j + 1]? = some 35
      · have HMC : Hid (markOut l (k + j) = (charOut l (k + j)).2) := Lib.hid (by rw [HM.out, if_pos h35])
        have hd35 : decide (l[k + j + 1]? = some 35) = true := decide_eq_true h35
        rw [hd35] at HP
        clear hd35 h35
        generalize charOut l (k + j) = co at *
        generalize refOut 38 l (k + j) = ro at *
        obtain ⟨cv, cn, ce⟩ := co
        obtain ⟨rv, rn, re⟩ := ro
        unfold numV at CC
        unfold outV at CE
        by_cases hce : ce = 0
        · have HNX := Lib.hid (markOut_next l (k + j) (by rw [HMC.out]; exact hce))
          rw [HMC.out] at HNX
          have HS2 : Hid (refsFrom l cn = res) := Lib.hid (by rw [← HSK.out, refsFrom_next l (k + j) HAT.out (by rw [HMC.out]; exact hce), HMC.out])
          subst hce
          go_wp2_with fail
          refine HI.out.mono ?_
          rintro e w2 ⟨rfl, rfl⟩
          go_wp2_with fail
          refine CE.out.mono ?_
          rintro e w3 ⟨rfl, hb⟩
          have B3 : Hid (Below w1.heap.size w1 w3) := Lib.hid (BR.out.trans (hb.mono BR.out.size))
          clear hb
          go_wp2_with fail
          refine (HP.out w3 B3.out).mono ?_
          rintro e w4 ⟨rfl, hw4⟩
          have B4 : Hid (Below w1.heap.size w1 w4) := Lib.hid (by rw [← hw4]; exact B3.out.alloc B3.out.size _)
          clear hw4
          go_wp2_with fail
          refine (CC.out w4 B4.out).mono ?_
          rintro e w5 ⟨rfl, hb⟩
          have B5 : Hid (Below w1.heap.size w1 w5) := Lib.hid (B4.out.trans (hb.mono B4.out.size))
          clear hb
          go_wp2
          go_roundg (l.length + 1 - cn)
          case measure => have := hg.out; have := HNX.out; omega
          case rel => exact ⟨cn, HNX.out.2, Lib.hid (by have := HNX.out.2; omega), rfl, HS2, B5⟩
        · have HE : Hid (res = (k + j, ce)) := Lib.hid (by rw [← HSK.out, refsFrom_bad l (k + j) HAT.out (by rw [HMC.out]; exact hce), HMC.out])
          have hcz : ((ce : Int) != 0) = true := by simp; omega
          go_wp2_with fail
          refine HI.out.mono ?_
          rintro e w2 ⟨rfl, rfl⟩
          go_wp2_with fail
          refine CE.out.mono ?_
          rintro e w3 ⟨rfl, hb⟩
          have B3 : Hid (Below w1.heap.size w1 w3) := Lib.hid (BR.out.trans (hb.mono BR.out.size))
          clear hb
          go_wp2_with fail
          refine (HP.out w3 B3.out).mono ?_
          rintro e w4 ⟨rfl, hw4⟩
          have B4 : Hid (Below w1.heap.size w1 w4) := Lib.hid (by rw [← hw4]; exact B3.out.alloc B3.out.size _)
          clear hw4
          go_wp2_with fail
          refine (CC.out w4 B4.out).mono ?_
          rintro e w5 ⟨rfl, hb⟩
          have B5 : Hid (Below w1.heap.size w1 w5) := Lib.hid (B4.out.trans (hb.mono B4.out.size))
          clear hb
          go_wp2
          go_ret2
          rw [HE.out]
          exact ⟨rfl, HB1.out.trans (B5.out.mono HB1.out.size)⟩
      · have HMC : Hid (markOut l (k + j) = (refOut 38 l (k + j)).2) := Lib.hid (by rw [HM.out, if_neg h35])
        have hd35 : decide (l[k + j + 1]? = some 35) = false := decide_eq_false h35
        rw [hd35] at HP
        clear hd35 h35
        generalize refOut 38 l (k + j) = ro at *
        obtain ⟨rv, rn, re⟩ := ro
        unfold outV at CE
        by_cases hce : re = 0
        · have HNX := Lib.hid (markOut_next l (k + j) (by rw [HMC.out]; exact hce))
          rw [HMC.out] at HNX
          have HS2 : Hid (refsFrom l rn = res) := Lib.hid (by rw [← HSK.out, refsFrom_next l (k + j) HAT.out (by rw [HMC.out]; exact hce), HMC.out])
          subst hce
          go_wp2_with fail
          refine HI.out.mono ?_
          rintro e w2 ⟨rfl, rfl⟩
          go_wp2_with fail
          refine CE.out.mono ?_
          rintro e w3 ⟨rfl, hb⟩
          have B3 : Hid (Below w1.heap.size w1 w3) := Lib.hid (BR.out.trans (hb.mono BR.out.size))
          clear hb
          go_wp2_with fail
          refine (HP.out w3 B3.out).mono ?_
          rintro e w4 ⟨rfl, hw4⟩
          have B4 : Hid (Below w1.heap.size w1 w4) := Lib.hid (by rw [← hw4]; exact B3.out.alloc B3.out.size _)
          clear hw4
          go_wp2
          go_roundg (l.length + 1 - rn)
          case measure => have := hg.out; have := HNX.out; omega
          case rel => exact ⟨rn, HNX.out.2, Lib.hid (by have := HNX.out.2; omega), rfl, HS2, B4⟩
        · have HE : Hid (res = (k + j, re)) := Lib.hid (by rw [← HSK.out, refsFrom_bad l (k + j) HAT.out (by rw [HMC.out]; exact hce), HMC.out])
          have hcz : ((re : Int) != 0) = true := by simp; omega
          go_wp2_with fail
          refine HI.out.mono ?_
          rintro e w2 ⟨rfl, rfl⟩
          go_wp2_with fail
          refine CE.out.mono ?_
          rintro e w3 ⟨rfl, hb⟩
          have B3 : Hid (Below w1.heap.size w1 w3) := Lib.hid (BR.out.trans (hb.mono BR.out.size))
          clear hb
          go_wp2_with fail
          refine (HP.out w3 B3.out).mono ?_
          rintro e w4 ⟨rfl, hw4⟩
          have B4 : Hid (Below w1.heap.size w1 w4) := Lib.hid (by rw [← hw4]; exact B3.out.alloc B3.out.size _)
          clear hw4
          go_wp2
          go_ret2
          rw [HE.out]
          exact ⟨rfl, HB1.out.trans (B4.out.mono HB1.out.size)⟩
end Go.Proofs.YtmclngahdklfkaaDoor
/- narthexref06.Char. -/
namespace Go.Proofs.YtmclngahdklfkaaDoor
open Go.ChangeShapes Go.WideShapes Go.ChangeAt Go.RowKit
set_option linter.unusedVariables false
end Go.Proofs.YtmclngahdklfkaaDoor
/- narthexref07.Refs. -/
namespace Go.Proofs.YtmclngahdklfkaaDoor
open Go.ChangeShapes Go.WideShapes Go.ChangeAt Go.RowKit
set_option linter.unusedVariables false
end Go.Proofs.YtmclngahdklfkaaDoor
