/- What a document says of itself: its parts in plain Lean; the document's side, begun. -/
import Derived.Test.YtcpljjajobfkkaaDoorRows
import Derived.WalkKit
import Derived.ProofKit
import Derived.OpenShut
import Derived.ShutString
import Derived.ChangeOld
import Derived.Below
import Derived.BigQuiet
import Derived.Deep.QuietTactic
import Derived.Lib.Hide
import Derived.Deep.RegionHeld3
import Derived.Lib.SlBytesConst
import Derived.Laws.CopyOwn
import Derived.Laws.CopyRow
import Derived.Lib.Bytes
import Derived.Deep.LoopGhost
import Derived.Deep.DeepFit
import Derived.Deep.DeepMust
import Derived.WalkSpells
import Derived.WalkLawsBesides
import Derived.Laws.EntriesVeiled
import Derived.Laws.Rows
import Derived.Lib.Fold
import Derived.ScopeJumps
import Derived.Outline
import Derived.WalkMore
import Derived.Laws.RangeAny
import Derived.Lib.FieldsLaws
import Derived.Lib.Walk
import Derived.Lib.Strings
import Derived.Laws.Strings3
import Derived.Laws.BitsAllLaws
import Derived.Shelf.Strings.SlTrimAscii
import Derived.Lib.SlTrimSet
import Derived.Laws.Tables
import Derived.LoopN
import Derived.Test.YtcpljjajobfkkaaDoorBase
import Derived.Test.YtcpljjajobfkkaaDoorShelf
import Derived.Test.YtcpljjajobfkkaaDoorCharPlain
import Derived.Test.YtcpljjajobfkkaaDoorStr
import Derived.Test.YtcpljjajobfkkaaDoorPub
import Derived.Test.YtcpljjajobfkkaaDoorBlank
import Derived.Test.YtcpljjajobfkkaaDoorCref1
import Derived.Test.YtcpljjajobfkkaaDoorNum
import Derived.Test.YtcpljjajobfkkaaDoorLitP
import Derived.Test.YtcpljjajobfkkaaDoorLibB
import Derived.Test.YtcpljjajobfkkaaDoorMiscP
import Derived.Test.YtcpljjajobfkkaaDoorMisc1
import Derived.Test.YtcpljjajobfkkaaDoorBits
import Derived.Test.YtcpljjajobfkkaaDoorLit5
namespace Go.Proofs.YtcpljjajobfkkaaDoor
open Go.ChangeShapes Go.WideShapes Go.ChangeAt Go.RowKit
set_option linter.unusedVariables false
theorem foldEq_hi (x y : UInt8) (hy : y.toNat < 128) (hx : 128 ≤ x.toNat) : Lib.foldEq x y = false := by
  unfold Lib.foldEq
  exact decide_eq_false (by omega)
theorem equalFold_hi : ∀ (s t : List UInt8) (j : Nat) (b : UInt8), (∀ c ∈ t, c.toNat < 128) → s[j]? = some b → 128 ≤ b.toNat → Lib.equalFold s t = false
  | [], _, _, _, _, h, _ => by simp at h
  | x :: s, [], _, _, _, _, _ => rfl
  | x :: s, y :: t, 0, b, ht, h, hb => by
    simp at h
    subst h
    exact Lib.equalFold_no _ _ _ _ (foldEq_hi _ _ (ht y (by simp)) hb)
  | x :: s, y :: t, j + 1, b, ht, h, hb => by
    have := equalFold_hi s t j b (fun c hc => ht c (by simp [hc])) (by simpa using h) hb
    simp [Lib.equalFold, this]
/-- Letters that fold to one another and to nothing else, and signs that fold to themselves: of 'xml' and 'utf-8'. -/
def foldPairs : List (Nat × Nat) := [(120, 88), (88, 120), (109, 77), (77, 109), (108, 76), (76, 108), (117, 85), (85, 117), (116, 84), (84, 116), (102, 70), (70, 102), (45, 45), (56, 56)]
def FoldT (w : World) : Prop := ∀ p ∈ foldPairs, w.cell? ⟨0, p.1, none⟩ = some (.int .u16 (p.2 : Int))
theorem FoldT.lt {w : World} (h : FoldT w) : 0 < w.heap.size := World.block_lt_of_cell? w _ (h (120, 88) (by simp [foldPairs]))
theorem FoldT.below {w w' : World} {B : Nat} (h : FoldT w) (hb : Below B w w') (hB : 0 < B) : FoldT w' := fun p hp => by rw [hb.cell hB]; exact h p hp
theorem foldPairs_lt : ∀ p ∈ foldPairs, p.1 < 128 ∧ p.2 < 128 := by decide
set_option maxRecDepth 100000 in
set_option maxHeartbeats 4000000 in
theorem simpleFold_c (r f : Nat) (w : World) (hr : r < 128) (hf : f < 128) (hc : w.cell? ⟨0, r, none⟩ = some (.int .u16 (f : Int))) :
    Calls Tryd.prog 95 #[.int .i32 r] w fun e w' => e = .returned (.int .i32 f) ∧ w = w' := by
  have h0 : ¬ (r : Int) < 0 := by omega
  have h1 : (r : Int) < 128 := by omega
  have h1' : r < 128 := hr
  have h2 : (0 : Int) ≤ (r : Int) := by omega
  have h3 : (0 : Int) ≤ (f : Int) := by omega
  have h4 : (f : Int) < 128 := by omega
  clear hr hf
  go_enter Tryd.func95, Tryd.ntmps95
  go_wp2
  go_ret
  exact ⟨rfl, rfl⟩
theorem run_strFrom (l : List UInt8) (i : Nat) (h : i ≤ l.length) (w : World) :
    (Instr.slice 9 (.string ⟨l.toArray⟩) (some (.int .i64 (i : Int))) none none).run Tryd.prog w = .ok (.string ⟨(l.drop i).toArray⟩) w := by
  have hsz : (⟨l.toArray⟩ : ByteArray).size = l.length := by simp [ByteArray.size]
  rw [run_slice_string_l (P := Tryd.prog) (w := w) (t := 9) (s := ⟨l.toArray⟩) Tryd.underlying9 .i64 (i : Int) (by omega) (by rw [hsz]; omega)]
  congr 2
  refine ByteArray.ext (Array.toList_inj.1 ?_)
  rw [Lib.extract_data]
  rw [hsz]
  exact List.take_of_length_le (by simp)
/-- At the label: the two strings, and the place of the first byte that is not ASCII. -/
def FoldJ (s t : List UInt8) (i0 : Nat) (w : World) (a' : Act) (w' : World) : Prop := w' = w ∧ ∃ u : Nat → Value, u 0 = .string ⟨s.toArray⟩ ∧ u 1 = .string ⟨t.toArray⟩ ∧ u 5 = .int .i64 i0 ∧ a' = { tmps := #[u 0, u 1, u 2, u 3, u 4, u 5, u 6, u 7, u 8, u 9, u 10, u 11, u 12, u 13, u 14, u 15, u 16, u 17, u 18, u 19, u 20, u 21, u 22, u 23, u 24, u 25, u 26, u 27, u 28, u 29, u 30, u 31, u 32, u 33, u 34, u 35, u 36, u 37, u 38, u 39, u 40, u 41, u 42, u 43, u 44, u 45, u 46, u 47, u 48, u 49, u 50, u 51, u 52, u 53, u 54, u 55, u 56, u 57, u 58, u 59, u 60, u 61, u 62, u 63, u 64, u 65, u 66, u 67, u 68, u 69, u 70, u 71, u 72, u 73, u 74, u 75, u 76, u 77, u 78, u 79, u 80, u 81, u 82, u 83, u 84, u 85, u 86, u 87, u 88, u 89, u 90, u 91, u 92, u 93, u 94, u 95, u 96, u 97, u 98, u 99, u 100, u 101, u 102, u 103, u 104, u 105, u 106, u 107, u 108, u 109, u 110, u 111, u 112, u 113, u 114, u 115, u 116, u 117, u 118, u 119, u 120, u 121, u 122], defers := [] }
theorem foldJ_of {s t : List UInt8} {i0 : Nat} {w : World} (tm : Array Value) (h : tm = #[tm.getD 0 undef, tm.getD 1 undef, tm.getD 2 undef, tm.getD 3 undef, tm.getD 4 undef, tm.getD 5 undef, tm.getD 6 undef, tm.getD 7 undef, tm.getD 8 undef, tm.getD 9 undef, tm.getD 10 undef, tm.getD 11 undef, tm.getD 12 undef, tm.getD 13 undef, tm.getD 14 undef, tm.getD 15 undef, tm.getD 16 undef, tm.getD 17 undef, tm.getD 18 undef, tm.getD 19 undef, tm.getD 20 undef, tm.getD 21 undef, tm.getD 22 undef, tm.getD 23 undef, tm.getD 24 undef, tm.getD 25 undef, tm.getD 26 undef, tm.getD 27 undef, tm.getD 28 undef, tm.getD 29 undef, tm.getD 30 undef, tm.getD 31 undef, tm.getD 32 undef, tm.getD 33 undef, tm.getD 34 undef, tm.getD 35 undef, tm.getD 36 undef, tm.getD 37 undef, tm.getD 38 undef, tm.getD 39 undef, tm.getD 40 undef, tm.getD 41 undef, tm.getD 42 undef, tm.getD 43 undef, tm.getD 44 undef, tm.getD 45 undef, tm.getD 46 undef, tm.getD 47 undef, tm.getD 48 undef, tm.getD 49 undef, tm.getD 50 undef, tm.getD 51 undef, tm.getD 52 undef, tm.getD 53 undef, tm.getD 54 undef, tm.getD 55 undef, tm.getD 56 undef, tm.getD 57 undef, tm.getD 58 undef, tm.getD 59 undef, tm.getD 60 undef, tm.getD 61 undef, tm.getD 62 undef, tm.getD 63 undef, tm.getD 64 undef, tm.getD 65 undef, tm.getD 66 undef, tm.getD 67 undef, tm.getD 68 undef, tm.getD 69 undef, tm.getD 70 undef, tm.getD 71 undef, tm.getD 72 undef, tm.getD 73 undef, tm.getD 74 undef, tm.getD 75 undef, tm.getD 76 undef, tm.getD 77 undef, tm.getD 78 undef, tm.getD 79 undef, tm.getD 80 undef, tm.getD 81 undef, tm.getD 82 undef, tm.getD 83 undef, tm.getD 84 undef, tm.getD 85 undef, tm.getD 86 undef, tm.getD 87 undef, tm.getD 88 undef, tm.getD 89 undef, tm.getD 90 undef, tm.getD 91 undef, tm.getD 92 undef, tm.getD 93 undef, tm.getD 94 undef, tm.getD 95 undef, tm.getD 96 undef, tm.getD 97 undef, tm.getD 98 undef, tm.getD 99 undef, tm.getD 100 undef, tm.getD 101 undef, tm.getD 102 undef, tm.getD 103 undef, tm.getD 104 undef, tm.getD 105 undef, tm.getD 106 undef, tm.getD 107 undef, tm.getD 108 undef, tm.getD 109 undef, tm.getD 110 undef, tm.getD 111 undef, tm.getD 112 undef, tm.getD 113 undef, tm.getD 114 undef, tm.getD 115 undef, tm.getD 116 undef, tm.getD 117 undef, tm.getD 118 undef, tm.getD 119 undef, tm.getD 120 undef, tm.getD 121 undef, tm.getD 122 undef]) (h0 : tm.getD 0 undef = .string ⟨s.toArray⟩) (h1 : tm.getD 1 undef = .string ⟨t.toArray⟩) (h5 : tm.getD 5 undef = .int .i64 i0) : FoldJ s t i0 w { tmps := tm, defers := [] } w :=
  ⟨rfl, fun i => tm.getD i undef, h0, h1, h5, congrArg (fun x => ({ tmps := x, defers := [] } : Act)) h⟩
set_option maxRecDepth 1000000 in
set_option maxHeartbeats 8000000 in
theorem equalFold_high (s t : List UInt8) (i0 : Nat) (x c : UInt8) (f : Nat) (w : World) (hs : s.length = t.length) (hs1 : s.length ≤ 1000) (ht : ∀ (j : Nat) b, t[j]? = some b → b.toNat < 128) (hlo : ∀ j b, j < i0 → s[j]? = some b → b.toNat < 128) (hx : s[i0]? = some x) (hx1 : 128 ≤ x.toNat) (hc : t[i0]? = some c)
    (hp1 : (c.toNat, f) ∈ foldPairs) (hp2 : (f, c.toNat) ∈ foldPairs) (hT : FoldT w) :
    Calls Tryd.prog 68 #[.string ⟨s.toArray⟩, .string ⟨t.toArray⟩] w fun e w' => e = .returned (.bool false) ∧ Below w.heap.size w w' := by
  have HS := Lib.hid (And.intro hs (And.intro ht (And.intro hlo (And.intro hx (And.intro hc (And.intro hp1 (And.intro hp2 hT)))))))
  have hsz : (⟨s.toArray⟩ : ByteArray).size = s.length := by simp [ByteArray.size]
  have htz : (⟨t.toArray⟩ : ByteArray).size = s.length := by simp [ByteArray.size, hs]
  have hi0 : i0 < s.length := (List.getElem?_eq_some_iff.1 hx).1
  clear hs ht hlo hx hc hp1 hp2 hT
  go_enter Tryd.func68, Tryd.ntmps68
  go_wp2
  refine wp_scope_jumps 0 (FoldJ s t i0 w) (fun _ _ => 0) rfl ?_ ?_
  · go_wp2
    go_loopg [5] i0 (fun g v wx => w = wx ∧ ∃ i : Nat, i ≤ i0 ∧ Hid (g + i = i0) ∧ v = .int .i64 i)
    case atStart => exact ⟨rfl, 0, Nat.zero_le _, Lib.hid rfl, rfl⟩
    case round =>
      obtain ⟨rfl, i, hi, hg, rfl⟩ := hrel
      have hi1 : (i : Int) < (s.length : Int) := by omega
      have hi2 : (0 : Int) ≤ (i : Int) := by omega
      have hi3 : (i : Int) ≤ 1000 := by omega
      have hix := run_strIndex s i (by omega) w
      have hit := run_strIndex t i (by rw [← HS.out.1]; omega) w
      have HX : Hid (s[i]? = some (s.getD i 0)) := Lib.hid (by rw [List.getElem?_eq_getElem (by omega)]; simp [show i < s.length by omega])
      have HC : Hid (t[i]? = some (t.getD i 0)) := Lib.hid (by rw [List.getElem?_eq_getElem (by rw [← HS.out.1]; omega)]; simp [show i < t.length by rw [← HS.out.1]; omega])
      generalize s.getD i 0 = x' at *
      generalize t.getD i 0 = c' at *
      have hc128 : c'.toNat < 128 := HS.out.2.1 i c' HC.out
      have hx256 : x'.toNat < 256 := x'.toNat_lt
      have hor : bits .or .u8 (x'.toNat : Int) (c'.toNat : Int) = ((x'.toNat ||| c'.toNat : Nat) : Int) := u8_or_nat _ _ (by omega) (by omega)
      by_cases he : i = i0
      · subst he
        have hxe : x' = x := by have := HX.out; rw [HS.out.2.2.2.1] at this; exact (Option.some.inj this).symm
        subst hxe
        have hor128 : (128 : Int) ≤ ((x'.toNat ||| c'.toNat : Nat) : Int) := by have := Nat.left_le_or (n := x'.toNat) (m := c'.toNat); omega
        generalize ((x'.toNat ||| c'.toNat : Nat) : Int) = orv at *
        go_wp2
        go_step3
        exact ⟨rfl, foldJ_of _ rfl rfl rfl rfl⟩
      · have hx128 : x'.toNat < 128 := HS.out.2.2.1 i x' (by omega) HX.out
        have hor128 : ¬ ((128 : Int) ≤ ((x'.toNat ||| c'.toNat : Nat) : Int)) := by have := Nat.or_lt_two_pow (n := 7) hx128 hc128; omega
        go_wp2
        all_goals first
          | (go_roundg (i0 - (i + 1))
             case measure => have := hg.out; omega
             case rel => exact ⟨rfl, i + 1, by omega, Lib.hid (by omega), by go_num⟩)
          | ((try simp only [Exit.jump])
             go_ret
             exact ⟨rfl, Below.refl _ _⟩)
  · intro a' w' hJ
    obtain ⟨rfl, u, h0, h1, h5, rfl⟩ := hJ
    rw [h0, h1, h5]
    clear h0 h1 h5
    have hsl := run_strFrom s i0 (by omega)
    have htl := run_strFrom t i0 (by rw [← HS.out.1]; omega)
    obtain ⟨T', hT'⟩ : ∃ T', t.drop i0 = c :: T' := ⟨_, drop_cons t i0 c HS.out.2.2.2.2.1⟩
    obtain ⟨S', hS'⟩ : ∃ S', s.drop i0 = x :: S' := ⟨_, drop_cons s i0 x HS.out.2.2.2.1⟩
    rw [hT'] at htl
    rw [hS'] at hsl
    have htl1 := run_strFrom (c :: T') 1 (by simp)
    simp only [List.drop_succ_cons, List.drop_zero] at htl1
    have hSz : 0 < (⟨(x :: S').toArray⟩ : ByteArray).size := by simp [ByteArray.size]
    have hnx := fun ty => run_next_any (P := Tryd.prog) w' ⟨(x :: S').toArray⟩ 0 ty hSz
    have hdh := decode_high ⟨(x :: S').toArray⟩ 0 hSz hx1
    have hdl := decode_le ⟨(x :: S').toArray⟩ 0
    have hr1 := hdh.1
    generalize Utf8.decode ⟨(x :: S').toArray⟩ 0 = dc at *
    obtain ⟨r, m⟩ := dc
    simp only [Nat.zero_add] at hr1 hdl hnx
    have hcf := foldPairs_lt _ HS.out.2.2.2.2.2.1
    have hb : Below w'.heap.size w' (w'.iter ⟨(x :: S').toArray⟩ m) := (Below.refl _ _).alloc (Nat.le_refl _) _
    have HB := Lib.hid hb
    have CD := Lib.hid (Tryd.utf8_DecodeRuneInString_ascii ⟨(c :: T').toArray⟩ c (w'.iter ⟨(x :: S').toArray⟩ m) (by simp) hcf.1)
    have hT2 := HS.out.2.2.2.2.2.2.2.below hb HS.out.2.2.2.2.2.2.2.lt
    have CF := Lib.hid (simpleFold_c c.toNat f _ hcf.1 hcf.2 (hT2 _ HS.out.2.2.2.2.2.1))
    have CG := Lib.hid (simpleFold_c f c.toNat _ hcf.2 hcf.1 (hT2 _ HS.out.2.2.2.2.2.2.1))
    have hc0 : (0 : Int) ≤ (c.toNat : Int) := by omega
    have hc1 : (c.toNat : Int) < 128 := by omega
    have hf0 : (0 : Int) ≤ (f : Int) := by omega
    have hf1 : (f : Int) < 128 := by omega
    have hcr : (c.toNat : Int) < (r : Int) := by omega
    have hce : ((c.toNat : Int) == (r : Int)) = false := by simp; omega
    have hr128 : ¬ (r : Int) < 128 := by omega
    have hfr : (f : Int) < (r : Int) := by omega
    have hl0 : (((T'.length : Int) + 1) == 0) = false := by simp; omega
    clear hT' hS' hdh hcf hb hT2
    by_cases hfc : f = c.toNat
    · subst hfc
      clear CG
      generalize (c.toNat : Int) = cn at *
      go_wp2
      refine wp_loop_rounds 1 ?_
      rw [rounds_succ]
      go_wp2_with fail
      refine (CD.out).mono ?_
      rintro e wq ⟨rfl, hwq⟩
      subst hwq
      go_wp2_with fail
      refine (CF.out).mono ?_
      rintro e wq ⟨rfl, rfl⟩
      go_wp2
      refine wp_loop_rounds 1 ?_
      rw [rounds_succ]
      go_wp2
      (try simp only [Exit.jump])
      go_ret
      exact ⟨rfl, HB.out⟩
    · have hfne : ((f : Int) != (c.toNat : Int)) = true := by simp; omega
      generalize (c.toNat : Int) = cn at *
      go_wp2
      refine wp_loop_rounds 1 ?_
      rw [rounds_succ]
      go_wp2_with fail
      refine (CD.out).mono ?_
      rintro e wq ⟨rfl, hwq⟩
      subst hwq
      go_wp2_with fail
      refine (CF.out).mono ?_
      rintro e wq ⟨rfl, rfl⟩
      go_wp2
      refine wp_loop_rounds 2 ?_
      rw [rounds_succ]
      go_wp2_with fail
      refine (CG.out).mono ?_
      rintro e wq ⟨rfl, rfl⟩
      go_wp2
      rw [rounds_succ]
      go_wp2
      (try simp only [Exit.jump])
      go_ret
      exact ⟨rfl, HB.out⟩
theorem equalFold_c (s t : List UInt8) (w : World) (hs : s.length = t.length) (hs1 : s.length ≤ 1000) (ht : ∀ c ∈ t, ∃ f, (c.toNat, f) ∈ foldPairs ∧ (f, c.toNat) ∈ foldPairs) (hT : FoldT w) :
    Calls Tryd.prog 68 #[.string ⟨s.toArray⟩, .string ⟨t.toArray⟩] w fun e w' => e = .returned (.bool (Lib.equalFold s t)) ∧ Below w.heap.size w w' := by
  have ht1 : ∀ (j : Nat) b, t[j]? = some b → b.toNat < 128 := fun j b hb => by
    obtain ⟨f, h1, _⟩ := ht b (List.mem_of_getElem? hb)
    exact (foldPairs_lt _ h1).1
  by_cases hall : ∀ (j : Nat) b, s[j]? = some b → b.toNat < 128
  · exact (Tryd.strings_EqualFold ⟨s.toArray⟩ ⟨t.toArray⟩ w (by simp [ByteArray.size]; omega) hall ht1).mono fun e w' ⟨he, hw⟩ => ⟨he, by rw [hw]; exact Below.refl _ _⟩
  · have hex : ∃ (i0 : Nat) (x : UInt8), s[i0]? = some x ∧ 128 ≤ x.toNat ∧ ∀ (j : Nat) (b : UInt8), j < i0 → s[j]? = some b → b.toNat < 128 := by
      have : ∃ n : Nat, ∃ x : UInt8, s[n]? = some x ∧ 128 ≤ x.toNat := by
        refine Classical.byContradiction fun hc => hall fun j b hb => ?_
        refine Classical.byContradiction fun h2 => hc ⟨j, b, hb, by omega⟩
      obtain ⟨n, hn⟩ := this
      induction n using Nat.strongRecOn with
      | _ n ih =>
        by_cases hlow : ∀ (j : Nat) (b : UInt8), j < n → s[j]? = some b → b.toNat < 128
        · obtain ⟨x, h1, h2⟩ := hn
          exact ⟨n, x, h1, h2, hlow⟩
        · have : ∃ m, m < n ∧ ∃ x : UInt8, s[m]? = some x ∧ 128 ≤ x.toNat := by
            refine Classical.byContradiction fun hc => hlow fun j b hj hb => ?_
            refine Classical.byContradiction fun h2 => hc ⟨j, hj, b, hb, by omega⟩
          obtain ⟨m, hm, hm2⟩ := this
          exact ih m hm hm2
    obtain ⟨i0, x, hx, hx1, hlo⟩ := hex
    have hi0 : i0 < t.length := by rw [← hs]; exact (List.getElem?_eq_some_iff.1 hx).1
    obtain ⟨f, hp1, hp2⟩ := ht t[i0] (List.getElem_mem hi0)
    rw [equalFold_hi s t i0 x (fun c hc => by
      obtain ⟨j, hj⟩ := List.mem_iff_getElem?.1 hc
      exact ht1 j c hj) hx hx1]
    exact equalFold_high s t i0 x t[i0] f w hs hs1 ht1 hlo hx hx1 (List.getElem?_eq_getElem hi0) hp1 hp2 hT
theorem xmlFold : ∀ c ∈ ([120, 109, 108] : List UInt8), ∃ f, (c.toNat, f) ∈ foldPairs ∧ (f, c.toNat) ∈ foldPairs := by
  intro c hc
  simp at hc
  rcases hc with rfl | rfl | rfl
  · exact ⟨88, by decide, by decide⟩
  · exact ⟨77, by decide, by decide⟩
  · exact ⟨76, by decide, by decide⟩
theorem utf8Fold : ∀ c ∈ ([117, 116, 102, 45, 56] : List UInt8), ∃ f, (c.toNat, f) ∈ foldPairs ∧ (f, c.toNat) ∈ foldPairs := by
  intro c hc
  simp at hc
  rcases hc with rfl | rfl | rfl | rfl | rfl
  · exact ⟨85, by decide, by decide⟩
  · exact ⟨84, by decide, by decide⟩
  · exact ⟨70, by decide, by decide⟩
  · exact ⟨45, by decide, by decide⟩
  · exact ⟨56, by decide, by decide⟩
def isDig (c : UInt8) : Bool := decide (48 ≤ c.toNat ∧ c.toNat ≤ 57)
/-- May a value be a version's, an encoding's, a standalone's? -/
def verB (s : List UInt8) : Bool := [49, 46].isPrefixOf s && !(s.drop 2).isEmpty && (s.drop 2).all isDig
def encB (s : List UInt8) : Bool := Lib.equalFold s [117, 116, 102, 45, 56]
def aloneB (s : List UInt8) : Bool := decide (s = [121, 101, 115]) || decide (s = [110, 111])
def digitsL : List UInt8 := [48, 49, 50, 51, 52, 53, 54, 55, 56, 57]
theorem digits_mem (c : UInt8) : digitsL.contains c = isDig c := by
  unfold isDig digitsL
  rw [Bool.eq_iff_iff]
  simp only [List.contains_iff_mem, List.mem_cons, List.not_mem_nil, or_false, decide_eq_true_eq]
  constructor
  · rintro (rfl | rfl | rfl | rfl | rfl | rfl | rfl | rfl | rfl | rfl) <;> decide
  · rintro ⟨h1, h2⟩
    have : c.toNat = 48 ∨ c.toNat = 49 ∨ c.toNat = 50 ∨ c.toNat = 51 ∨ c.toNat = 52 ∨ c.toNat = 53 ∨ c.toNat = 54 ∨ c.toNat = 55 ∨ c.toNat = 56 ∨ c.toNat = 57 := by omega
    have e : ∀ k : UInt8, c.toNat = k.toNat → c = k := fun k h => UInt8.toNat_inj.1 h
    rcases this with h | h | h | h | h | h | h | h | h | h
    · exact .inl (e 48 h)
    · exact .inr (.inl (e 49 h))
    · exact .inr (.inr (.inl (e 50 h)))
    · exact .inr (.inr (.inr (.inl (e 51 h))))
    · exact .inr (.inr (.inr (.inr (.inl (e 52 h)))))
    · exact .inr (.inr (.inr (.inr (.inr (.inl (e 53 h))))))
    · exact .inr (.inr (.inr (.inr (.inr (.inr (.inl (e 54 h)))))))
    · exact .inr (.inr (.inr (.inr (.inr (.inr (.inr (.inl (e 55 h))))))))
    · exact .inr (.inr (.inr (.inr (.inr (.inr (.inr (.inr (.inl (e 56 h)))))))))
    · exact .inr (.inr (.inr (.inr (.inr (.inr (.inr (.inr (.inr (e 57 h)))))))))
/-- What a declaration's part reads: none; or its value and the place behind; or that it is wrong. -/
def partOut (word : List UInt8) (may : List UInt8 → Bool) (l : List UInt8) (k : Nat) : Option (List UInt8 × Nat) :=
  if blankTo l k = k ∨ word.isPrefixOf (l.drop (blankTo l k)) = false then some ([], k) else
  let i := blankTo l (blankTo l k + word.length)
  if l[i]? = some 61 then
    let q := quotedAt l (blankTo l (i + 1))
    if q.2.2 = 0 ∧ may q.1 = true then some (q.1, q.2.1) else none
  else none
theorem trimS_nil (l cs : List UInt8) : Lib.trimS l cs = [] ↔ l.all (cs.contains ·) = true := by
  unfold Lib.trimS Lib.trimLeftS Lib.trimRightS
  rw [List.all_eq_true]
  have key : ∀ (p : UInt8 → Bool) (l : List UInt8), l.dropWhile p = [] ↔ ∀ x ∈ l, p x = true := by
    intro p l
    induction l with
    | nil => simp
    | cons a t ih =>
      by_cases h : p a = true
      · simp [h, ih]
      · simp [h]
  rw [key]
  constructor
  · intro h x hx
    have hx' : x ∈ l.reverse := List.mem_reverse.2 hx
    rw [← List.takeWhile_append_dropWhile (p := fun x => cs.contains x) (l := l.reverse)] at hx'
    rcases List.mem_append.1 hx' with g | g
    · exact (List.all_eq_true.1 List.all_takeWhile) x g
    · exact h x (List.mem_reverse.2 g)
  · intro h x hx
    have := List.mem_reverse.1 hx
    exact h x (List.mem_reverse.1 ((List.dropWhile_suffix _).subset this))
theorem verB_cons (d : List UInt8) : verB (49 :: 46 :: d) = (!d.isEmpty && d.all isDig) := by simp [verB]
theorem verB_no (s : List UInt8) (h : [49, 46].isPrefixOf s = false) : verB s = false := by unfold verB; rw [h]; rfl
theorem trimPre (d : List UInt8) : Lib.trimPrefix (49 :: 46 :: d) [49, 46] = d := by simp [Lib.trimPrefix, Lib.hasPrefix]
theorem stringsTrim_c (d : List UInt8) (w : World) (hd : d.length ≤ 100000) : Calls Tryd.prog 67 #[.string ⟨d.toArray⟩, .string ⟨#[48, 49, 50, 51, 52, 53, 54, 55, 56, 57]⟩] w fun e w' => e = .returned (.string ⟨(Lib.trimS d digitsL).toArray⟩) ∧ Below w.heap.size w w' :=
  Any.strings_Trim_laid Tryd.lays160 (by kernel_rfl) ⟨d.toArray⟩ ⟨#[48, 49, 50, 51, 52, 53, 54, 55, 56, 57]⟩ w (by simp [ByteArray.size]; omega) (by decide) (ascii_of_all (by decide))
set_option maxRecDepth 100000 in
set_option maxHeartbeats 4000000 in
theorem version_c (s : List UInt8) (w : World) (hs : s.length ≤ 100000) : Calls Tryd.prog 47 #[.string ⟨s.toArray⟩] w fun e w' => e = .returned (.bool (verB s)) ∧ Below w.heap.size w w' := by
  have C1 := Lib.hid (Tryd.strings_CutPrefix ⟨s.toArray⟩ ⟨#[49, 46]⟩ w)
  by_cases hp : [49, 46].isPrefixOf s = true
  · obtain ⟨d, rfl⟩ : ∃ d, s = 49 :: 46 :: d := by
      obtain ⟨t, ht⟩ := List.isPrefixOf_iff_prefix.1 hp
      exact ⟨t, ht.symm⟩
    rw [verB_cons]
    have e1 : Lib.trimPrefix (⟨(49 :: 46 :: d).toArray⟩ : ByteArray).data.toList (⟨#[49, 46]⟩ : ByteArray).data.toList = d := trimPre d
    have e2 : Lib.hasPrefix (⟨(49 :: 46 :: d).toArray⟩ : ByteArray).data.toList (⟨#[49, 46]⟩ : ByteArray).data.toList = true := by simp [Lib.hasPrefix]
    rw [e1, e2] at C1
    clear e1 e2 hp
    cases d with
    | nil =>
      go_enter Tryd.func47, Tryd.ntmps47
      go_wp2_with fail
      refine (C1.out).mono ?_
      rintro e wq ⟨rfl, hwq⟩
      subst hwq
      go_wp2
      go_ret
      exact ⟨rfl, Below.refl _ _⟩
    | cons c d =>
      have C2 := Lib.hid (stringsTrim_c (c :: d) w (by simp at hs ⊢; omega))
      have hiff := trimS_nil (c :: d) digitsL
      simp only [digits_mem] at hiff
      have hne : (c :: d).isEmpty = false := rfl
      have hl1 : 0 < (c :: d).length := by simp
      rw [hne]
      generalize hall : (c :: d).all isDig = al at *
      clear hall
      have hs2 : (49 :: 46 :: c :: d).length ≤ 100000 := hs
      generalize (49 : UInt8) :: 46 :: c :: d = S at *
      generalize c :: d = D at *
      cases hT : Lib.trimS D digitsL with
      | nil =>
        rw [hT] at C2
        have hal : al = true := hiff.1 hT
        subst hal
        clear hT hiff hs
        go_enter Tryd.func47, Tryd.ntmps47
        go_wp2_with fail
        refine (C1.out).mono ?_
        rintro e wq ⟨rfl, hwq⟩
        subst hwq
        go_wp2_with fail
        refine (C2.out).mono ?_
        rintro e w1 ⟨rfl, hb⟩
        have B1 := Lib.hid hb
        clear hb
        go_wp2
        go_ret
        exact ⟨rfl, B1.out⟩
      | cons u T =>
        rw [hT] at C2
        have hal : al = false := by
          cases al with
          | false => rfl
          | true => rw [hiff.2 rfl] at hT; cases hT
        subst hal
        clear hT hiff hs
        have hnT : (u :: T).isEmpty = false := rfl
        have hlT : 0 < (u :: T).length := by simp
        generalize u :: T = UT at *
        go_enter Tryd.func47, Tryd.ntmps47
        go_wp2_with fail
        refine (C1.out).mono ?_
        rintro e wq ⟨rfl, hwq⟩
        subst hwq
        go_wp2_with fail
        refine (C2.out).mono ?_
        rintro e w1 ⟨rfl, hb⟩
        have B1 := Lib.hid hb
        clear hb
        go_wp2
        go_ret
        exact ⟨rfl, B1.out⟩
  · have hp' := bfalse hp
    rw [verB_no s hp']
    have e2 : Lib.hasPrefix (⟨s.toArray⟩ : ByteArray).data.toList (⟨#[49, 46]⟩ : ByteArray).data.toList = false := hp'
    rw [e2] at C1
    generalize Lib.trimPrefix (⟨s.toArray⟩ : ByteArray).data.toList (⟨#[49, 46]⟩ : ByteArray).data.toList = D at *
    clear e2 hp hp' hs
    go_enter Tryd.func47, Tryd.ntmps47
    go_wp2_with fail
    refine (C1.out).mono ?_
    rintro e wq ⟨rfl, hwq⟩
    subst hwq
    go_wp2
    go_ret
    exact ⟨rfl, Below.refl _ _⟩
theorem equalFold_len : ∀ (s t : List UInt8), s.length ≠ t.length → Lib.equalFold s t = false
  | [], [], h => absurd rfl h
  | [], _ :: _, _ => rfl
  | _ :: _, [], _ => rfl
  | x :: s, y :: t, h => by
    have := equalFold_len s t (by simpa using h)
    simp [Lib.equalFold, this]
set_option maxRecDepth 100000 in
set_option maxHeartbeats 4000000 in
theorem encoding_c (s : List UInt8) (w : World) (hT : FoldT w) : Calls Tryd.prog 48 #[.string ⟨s.toArray⟩] w fun e w' => e = .returned (.bool (encB s)) ∧ Below w.heap.size w w' := by
  unfold encB
  by_cases h : s.length = 5
  · have C1 := Lib.hid (equalFold_c s [117, 116, 102, 45, 56] w (by simp [h]) (by omega) utf8Fold hT)
    have hl : ((s.length : Int) == 5) = true := by simp; omega
    clear h hT
    generalize Lib.equalFold s [117, 116, 102, 45, 56] = r at *
    go_enter Tryd.func48, Tryd.ntmps48
    go_wp2_with fail
    refine (C1.out).mono ?_
    rintro e w1 ⟨rfl, hb⟩
    have B1 := Lib.hid hb
    clear hb
    go_wp2
    go_ret
    exact ⟨rfl, B1.out⟩
  · rw [equalFold_len _ _ h]
    have hl : ((s.length : Int) == 5) = false := by simp; omega
    clear h hT
    go_enter Tryd.func48, Tryd.ntmps48
    go_wp2
    go_ret
    exact ⟨rfl, Below.refl _ _⟩
set_option maxRecDepth 100000 in
set_option maxHeartbeats 4000000 in
theorem alone_c (s : List UInt8) (w : World) : Calls Tryd.prog 49 #[.string ⟨s.toArray⟩] w fun e w' => e = .returned (.bool (aloneB s)) ∧ w = w' := by
  unfold aloneB
  by_cases h1 : s = [121, 101, 115]
  · subst h1
    go_enter Tryd.func49, Tryd.ntmps49
    go_wp2
    go_ret
    exact ⟨rfl, rfl⟩
  · by_cases h2 : s = [110, 111]
    · subst h2
      go_enter Tryd.func49, Tryd.ntmps49
      go_wp2
      go_ret
      exact ⟨rfl, rfl⟩
    · have e1 : (s == [121, 101, 115]) = false := by simpa using h1
      have e2 : (s == [110, 111]) = false := by simpa using h2
      have HD : Hid ((decide (s = [121, 101, 115]) || decide (s = [110, 111])) = false) := Lib.hid (by simp [h1, h2])
      clear h1 h2
      go_enter Tryd.func49, Tryd.ntmps49
      go_wp2
      go_ret
      rw [HD.out]
      exact ⟨rfl, rfl⟩
theorem verB_short (s : List UInt8) (h : s.length < 3) : verB s = false := by
  cases hp : [49, 46].isPrefixOf s with
  | false => exact verB_no s hp
  | true =>
    obtain ⟨d, rfl⟩ : ∃ d, s = 49 :: 46 :: d := by
      obtain ⟨t, ht⟩ := List.isPrefixOf_iff_prefix.1 hp
      exact ⟨t, ht.symm⟩
    cases d with
    | nil => rfl
    | cons a t => simp at h; omega
theorem run_strTo (l : List UInt8) (j : Nat) (hj : j ≤ l.length) (w : World) :
    (Instr.slice 9 (.string ⟨l.toArray⟩) none (some (.int .i64 (j : Int))) none).run Tryd.prog w = .ok (.string ⟨(l.take j).toArray⟩) w := by
  have hsz : (⟨l.toArray⟩ : ByteArray).size = l.length := by simp [ByteArray.size]
  rw [run_slice_string_h (P := Tryd.prog) (w := w) (t := 9) (s := ⟨l.toArray⟩) Tryd.underlying9 .i64 (j : Int) (by omega) (by rw [hsz]; omega)]
  congr 2
  refine ByteArray.ext (Array.toList_inj.1 ?_)
  rw [Lib.extract_data]
  simp
set_option maxRecDepth 100000 in
set_option maxHeartbeats 4000000 in
theorem refMay2_c (s : List UInt8) (w : World) : Calls Tryd.prog 54 #[.int .i64 2, .string ⟨s.toArray⟩] w fun e w' => e = .returned (.bool (aloneB s)) ∧ w = w' := by
  unfold aloneB
  by_cases h1 : s = [121, 101, 115]
  · subst h1
    go_enter Tryd.func54, Tryd.ntmps54
    go_wp2
    go_ret
    exact ⟨rfl, rfl⟩
  · by_cases h2 : s = [110, 111]
    · subst h2
      go_enter Tryd.func54, Tryd.ntmps54
      go_wp2
      go_ret
      exact ⟨rfl, rfl⟩
    · have e1 : (s == [121, 101, 115]) = false := by simpa using h1
      have e2 : (s == [110, 111]) = false := by simpa using h2
      have HD : Hid ((decide (s = [121, 101, 115]) || decide (s = [110, 111])) = false) := Lib.hid (by simp [h1, h2])
      clear h1 h2
      go_enter Tryd.func54, Tryd.ntmps54
      go_wp2
      go_ret
      rw [HD.out]
      exact ⟨rfl, rfl⟩
set_option maxRecDepth 100000 in
set_option maxHeartbeats 4000000 in
theorem refMay0_c (s : List UInt8) (w : World) (hs : s.length ≤ 100000) : Calls Tryd.prog 54 #[.int .i64 0, .string ⟨s.toArray⟩] w fun e w' => e = .returned (.bool (verB s)) ∧ w = w' := by
  by_cases hl : s.length < 3
  · rw [verB_short s hl]
    have hl' : (s.length : Int) < 3 := by omega
    clear hl hs
    go_enter Tryd.func54, Tryd.ntmps54
    go_wp2
    go_ret
    exact ⟨rfl, rfl⟩
  · have hl' : ¬ (s.length : Int) < 3 := by omega
    have hsl : ∀ W, (Instr.slice 9 (.string ⟨s.toArray⟩) none (some (.int .i64 2)) none).run Tryd.prog W = .ok (.string ⟨(s.take 2).toArray⟩) W := fun W => run_strTo s 2 (by omega) W
    have hpt := pre_take [49, 46] s
    simp only [List.length_cons, List.length_nil] at hpt
    cases hp : [49, 46].isPrefixOf s with
    | false =>
      rw [verB_no s hp]
      rw [hp] at hpt
      have e1 : (s.take 2 == [49, 46]) = false := hpt.symm
      generalize s.take 2 = q at *
      clear hpt hp hs hl
      go_enter Tryd.func54, Tryd.ntmps54
      go_wp2
      go_ret
      exact ⟨rfl, rfl⟩
    | true =>
      rw [hp] at hpt
      have e1 : s.take 2 = [49, 46] := by have := hpt.symm; simpa using this
      rw [e1] at hsl
      have HV : Hid (verB s = (s.drop 2).all isDig) := Lib.hid (by
        unfold verB
        rw [hp]
        have : (s.drop 2).isEmpty = false := by
          cases hd : s.drop 2 with
          | nil =>
            have : (s.drop 2).length = 0 := by rw [hd]; rfl
            rw [List.length_drop] at this
            omega
          | cons a t => rfl
        rw [this]
        rfl)
      have HL := Lib.hid (show 3 ≤ s.length by omega)
      clear hpt hp e1 hl
      go_enter Tryd.func54, Tryd.ntmps54
      go_wp2
      go_loopg [8] (s.length) (fun g v wx => ∃ t : Nat, 2 ≤ t ∧ t ≤ s.length ∧ Hid (g + t = s.length + 2) ∧ v = .int .i64 (t : Int) ∧ w = wx ∧ Hid (∀ j (c : UInt8), 2 ≤ j → j < t → s[j]? = some c → isDig c = true))
      case atStart => exact ⟨2, Nat.le_refl _, by have := HL.out; omega, Lib.hid (by omega), rfl, rfl, Lib.hid (fun j c h1 h2 => absurd h1 (by omega))⟩
      case round =>
        obtain ⟨t, ht2, ht, hg, rfl, rfl, HN⟩ := hrel
        have ht0 : (0 : Int) ≤ (t : Int) := by omega
        have htb : (t : Int) ≤ 100000 := by omega
        by_cases htn : t < s.length
        · have htni : (t : Int) < (s.length : Int) := by omega
          have hix := run_strIndex s t htn w
          have HX : Hid (s[t]? = some (s.getD t 0)) := Lib.hid (by rw [List.getElem?_eq_getElem htn]; simp [htn])
          generalize s.getD t 0 = c at *
          cases hd : isDig c with
          | true =>
            have hdd := hd
            unfold isDig at hdd
            simp only [decide_eq_true_eq] at hdd
            have d1 : ¬ (c.toNat : Int) < 48 := by omega
            have d2 : ¬ (57 : Int) < (c.toNat : Int) := by omega
            have HN2 : Hid (∀ j (c : UInt8), 2 ≤ j → j < t + 1 → s[j]? = some c → isDig c = true) := Lib.hid (fun j c' h1 h2 h3 => by
              rcases (show j < t ∨ j = t by omega) with h | rfl
              · exact HN.out j c' h1 h h3
              · have := HX.out
                rw [h3] at this
                rw [Option.some.inj this]
                exact hd)
            clear hd hdd
            generalize (c.toNat : Int) = cn at *
            go_wp2
            go_roundg (s.length + 2 - (t + 1))
            case measure => have := hg.out; omega
            case rel => exact ⟨t + 1, by omega, by omega, Lib.hid (by omega), by go_num, rfl, HN2⟩
          | false =>
            have HF : Hid ((s.drop 2).all isDig = false) := Lib.hid (by
              rw [List.all_eq_false]
              refine ⟨c, ?_, by simp [hd]⟩
              have : (s.drop 2)[t - 2]? = some c := by rw [List.getElem?_drop, show 2 + (t - 2) = t by omega]; exact HX.out
              exact List.mem_of_getElem? this)
            have hdd := hd
            unfold isDig at hdd
            simp only [decide_eq_false_iff_not] at hdd
            clear hd
            rcases (show c.toNat < 48 ∨ (48 ≤ c.toNat ∧ 57 < c.toNat) by omega) with h | ⟨h, h'⟩
            · have d1 : (c.toNat : Int) < 48 := by omega
              clear hdd h
              generalize (c.toNat : Int) = cn at *
              go_wp2
              go_ret
              rw [HV.out, HF.out]
              exact ⟨rfl, rfl⟩
            · have d1 : ¬ (c.toNat : Int) < 48 := by omega
              have d2 : (57 : Int) < (c.toNat : Int) := by omega
              clear hdd h h'
              generalize (c.toNat : Int) = cn at *
              go_wp2
              go_ret
              rw [HV.out, HF.out]
              exact ⟨rfl, rfl⟩
        · have htni : ¬ (t : Int) < (s.length : Int) := by omega
          have HF : Hid ((s.drop 2).all isDig = true) := Lib.hid (by
            rw [List.all_eq_true]
            intro c hc
            obtain ⟨j, hj⟩ := List.mem_iff_getElem?.1 hc
            rw [List.getElem?_drop] at hj
            have hjl : 2 + j < s.length := (List.getElem?_eq_some_iff.1 hj).1
            exact HN.out (2 + j) c (by omega) (by omega) hj)
          go_wp2
          go_ret
          rw [HV.out, HF.out]
          exact ⟨rfl, rfl⟩
def lowB (c : UInt8) : UInt8 := if 65 ≤ c.toNat ∧ c.toNat ≤ 90 then c + 32 else c
theorem lowB_nat (c : UInt8) : (lowB c).toNat = if 65 ≤ c.toNat ∧ c.toNat ≤ 90 then c.toNat + 32 else c.toNat := by
  unfold lowB
  split
  · rename_i h
    rw [UInt8.toNat_add]
    show (c.toNat + 32) % 256 = _
    omega
  · rfl
theorem lowB_fold (x y : UInt8) (hy : ¬ (65 ≤ y.toNat ∧ y.toNat ≤ 90)) : (lowB x == y) = Lib.foldEq x y := by
  unfold Lib.foldEq
  rw [Bool.eq_iff_iff, beq_iff_eq, decide_eq_true_eq, ← UInt8.toNat_inj, lowB_nat]
  split <;> omega
theorem low_fold : ∀ (s t : List UInt8), (∀ y ∈ t, ¬ (65 ≤ y.toNat ∧ y.toNat ≤ 90)) → (s.map lowB == t) = Lib.equalFold s t
  | [], [], _ => rfl
  | [], _ :: _, _ => rfl
  | _ :: _, [], _ => rfl
  | x :: s, y :: t, h => by
    rw [List.map_cons, Lib.equalFold, ← low_fold s t (fun z hz => h z (by simp [hz])), ← lowB_fold x y (h y (by simp))]
    rfl
theorem low_enc (s : List UInt8) : (s.map lowB == [117, 116, 102, 45, 56]) = encB s := low_fold s _ (by decide)
theorem one_str (W : World) (u : UInt8) : (convert 22 9 (.slice (some ⟨W.heap.size, 0, none⟩) 1 1)).run Tryd.prog (W.alloc (.cells #[.int .u8 (u.toNat : Int)] 5)) = .ok (.string ⟨#[u]⟩) (W.alloc (.cells #[.int .u8 (u.toNat : Int)] 5)) :=
  (Byt.const W [u] (0, 0) (by simp)).str
set_option maxRecDepth 100000 in
set_option maxHeartbeats 4000000 in
theorem refMay1_c (s : List UInt8) (w : World) (hs : s.length ≤ 100000) : Calls Tryd.prog 54 #[.int .i64 1, .string ⟨s.toArray⟩] w fun e w' => e = .returned (.bool (encB s)) ∧ Below w.heap.size w w' := by
  have HE := Lib.hid (low_enc s)
  go_enter Tryd.func54, Tryd.ntmps54
  go_wp2
  go_loopg [5, 6] (s.length) (fun g a v wx => ∃ t : Nat, t ≤ s.length ∧ Hid (g + t = s.length) ∧ a = .string ⟨((s.take t).map lowB).toArray⟩ ∧ v = .int .i64 (t : Int) ∧ Hid (Below w.heap.size w wx))
  case atStart => exact ⟨0, Nat.zero_le _, Lib.hid rfl, rfl, rfl, Lib.hid (Below.refl _ _)⟩
  case round =>
    obtain ⟨t, ht, hg, rfl, rfl, HB⟩ := hrel
    have ht0 : (0 : Int) ≤ (t : Int) := by omega
    have htb : (t : Int) ≤ 100000 := by omega
    by_cases htn : t < s.length
    · have htni : (t : Int) < (s.length : Int) := by omega
      have hix := run_strIndex s t htn wr
      have hsn : (s.take (t + 1)).map lowB = (s.take t).map lowB ++ [lowB (s.getD t 0)] := by
        rw [List.take_add_one, List.map_append, List.getElem?_eq_getElem htn]
        simp [htn]
      have hln : ((s.take t).map lowB).length ≤ 100000 := by rw [List.length_map, List.length_take]; omega
      have HB2 := Lib.hid (HB.out.alloc HB.out.size (.cells #[.int .u8 ((lowB (s.getD t 0)).toNat : Int)] 5))
      have hst := one_str wr (lowB (s.getD t 0))
      have hct : ∀ W, (Op.stringOp .add ⟨((s.take t).map lowB).toArray⟩ ⟨#[lowB (s.getD t 0)]⟩).run Tryd.prog W = .ok (.string ⟨((s.take t).map lowB ++ [lowB (s.getD t 0)]).toArray⟩) W := fun W => run_sop (w := W) _ [lowB (s.getD t 0)] (by simp only [List.length_cons, List.length_nil]; omega)
      rw [← hsn] at hct
      clear hsn hln
      generalize hnx : (s.take (t + 1)).map lowB = nxt at *
      have HNX := Lib.hid hnx
      clear hnx
      generalize (s.take t).map lowB = acc at *
      generalize s.getD t 0 = c at *
      have c0 : (0 : Int) ≤ (c.toNat : Int) := by omega
      have c1 : (c.toNat : Int) ≤ 255 := by have := c.toNat_lt; omega
      by_cases hu : 65 ≤ c.toNat ∧ c.toNat ≤ 90
      · have hlow : ((lowB c).toNat : Int) = (c.toNat : Int) + 32 := by rw [lowB_nat, if_pos hu]; rfl
        have u1 : (65 : Int) ≤ (c.toNat : Int) := by omega
        have u2 : (c.toNat : Int) ≤ 90 := by omega
        rw [hlow] at hst HB2
        generalize lowB c = lc at *
        generalize (c.toNat : Int) = cn at *
        clear hlow hu
        go_wp2
        go_roundg (s.length - (t + 1))
        case measure => have := hg.out; omega
        case rel => exact ⟨t + 1, by omega, Lib.hid (by omega), by rw [HNX.out], by go_num, HB2⟩
      · have hlow : lowB c = c := by unfold lowB; rw [if_neg hu]
        rw [hlow] at hst HB2 hct
        rcases (show c.toNat < 65 ∨ (65 ≤ c.toNat ∧ 90 < c.toNat) by omega) with h | ⟨h, h'⟩
        · have u1 : ¬ (65 : Int) ≤ (c.toNat : Int) := by omega
          clear hlow hu h
          generalize (c.toNat : Int) = cn at *
          go_wp2
          go_roundg (s.length - (t + 1))
          case measure => have := hg.out; omega
          case rel => exact ⟨t + 1, by omega, Lib.hid (by omega), by rw [HNX.out], by go_num, HB2⟩
        · have u1 : (65 : Int) ≤ (c.toNat : Int) := by omega
          have u2 : ¬ (c.toNat : Int) ≤ 90 := by omega
          clear hlow hu h h'
          generalize (c.toNat : Int) = cn at *
          go_wp2
          go_roundg (s.length - (t + 1))
          case measure => have := hg.out; omega
          case rel => exact ⟨t + 1, by omega, Lib.hid (by omega), by rw [HNX.out], by go_num, HB2⟩
    · have htni : ¬ (t : Int) < (s.length : Int) := by omega
      have hte : s.take t = s := List.take_of_length_le (by omega)
      rw [hte]
      clear hte
      generalize s.map lowB = L at *
      go_wp2
      go_ret
      rw [← HE.out]
      exact ⟨rfl, HB.out⟩
def xmlMark : List UInt8 := [60, 63, 120, 109, 108]
/-- Does a declaration stand there? -/
def hasX (l : List UInt8) (k : Nat) : Bool := [60, 63, 120, 109, 108].isPrefixOf (l.drop k) && (match l[k + 5]? with | some c => isBl c | none => false)
theorem hasX_no (l : List UInt8) (k : Nat) (h : [60, 63, 120, 109, 108].isPrefixOf (l.drop k) = false) : hasX l k = false := by unfold hasX; rw [h]; rfl
theorem hasX_end (l : List UInt8) (k : Nat) (h : l[k + 5]? = none) : hasX l k = false := by unfold hasX; rw [h]; simp
theorem hasX_at (l : List UInt8) (k : Nat) (c : UInt8) (h : [60, 63, 120, 109, 108].isPrefixOf (l.drop k) = true) (hc : l[k + 5]? = some c) : hasX l k = isBl c := by unfold hasX; rw [h, hc]; rfl
def hasAt (l : List UInt8) (at_ : Int) : Bool := if at_ < 0 ∨ (l.length : Int) < at_ then false else hasX l at_.toNat
set_option maxRecDepth 100000 in
set_option maxHeartbeats 4000000 in
theorem xdHas_range (A : Option Addr) (n cap : Nat) (at_ : Int) (w : World) (ha : at_ < 0 ∨ (n : Int) < at_) :
    Calls Tryd.prog 26 #[.slice A n cap, .int .i64 at_] w fun e w' => e = .returned (.bool false) ∧ w = w' := by
  by_cases h0 : at_ < 0
  · have hd : decide (at_ < 0) = true := by simpa using h0
    clear ha
    go_enter Tryd.func26, Tryd.ntmps26
    go_wp2
    go_ret
    exact ⟨rfl, rfl⟩
  · have h1 : (n : Int) < at_ := by omega
    clear ha
    go_enter Tryd.func26, Tryd.ntmps26
    go_wp2
    go_ret
    exact ⟨rfl, rfl⟩
set_option maxRecDepth 100000 in
set_option maxHeartbeats 4000000 in
theorem xdHas_in (A : Option Addr) (n cap : Nat) (l : List UInt8) (k : Nat) (w : World) (h : Byt w w.heap.size A n cap l) (hm : n ≤ 100000) (hk : k ≤ n) :
    Calls Tryd.prog 26 #[.slice A n cap, .int .i64 k] w fun e w' => e = .returned (.bool (hasX l k)) ∧ Below w.heap.size w w' := by
  have kc := fun (w : World) (C : Array Value) (n c : Nat) => Lib.run_convert_bytes_const (P := Tryd.prog) w 22 5 C n c Tryd.underlying22 Tryd.underlying5
  have hk' : ¬ (n : Int) < (k : Int) := by omega
  have hk0 : (0 : Int) ≤ (k : Int) := by omega
  have hrk : ∀ W : World, (Instr.slice 22 (.slice A n cap) (some (.int .i64 (k : Int))) none none).run Tryd.prog W = .ok (.slice (cutA A cap k) (n - k) (cap - k)) W := fun W => run_from A n cap k hk
  have hA0 := alloc_const w [60, 63, 120, 109, 108] (5, 6) (by simp)
  have hh := h.below hA0.1
  have B0 := Lib.hid hA0.1
  have hln := h.length
  by_cases hp : [60, 63, 120, 109, 108].isPrefixOf (l.drop k) = true
  · have hkl : k + 5 ≤ n := by have := pre_len hp; simp at this; omega
    have C1 := Lib.hid (cutPrefix_yes _ _ _ _ _ _ _ _ _ _ _ (hh.drop hk) hA0.2 (by simp) hp)
    simp only [List.length_cons, List.length_nil] at C1
    have hR := (hh.drop hk).drop (k := 5) (by omega)
    rw [List.drop_drop] at hR
    by_cases hz : n - k - 5 = 0
    · rw [hasX_end l k (by rw [List.getElem?_eq_none]; omega)]
      rw [hz] at C1
      clear h hm hA0 hh hln hp hR hz
      generalize cutA (cutA A cap k) (cap - k) 5 = R at *
      go_enter Tryd.func26, Tryd.ntmps26
      go_wp2_with fail
      refine C1.out.mono ?_
      rintro e w1 ⟨rfl, rfl⟩
      clear kc
      go_wp2
      go_ret
      exact ⟨rfl, B0.out⟩
    · obtain ⟨b, o, c, he, hb, hc, hcell⟩ := hR.cell (i := 0) (by omega)
      rw [List.getElem?_drop, Nat.add_zero] at hc
      rw [hasX_at l k c hp hc]
      rw [he] at C1
      rw [Nat.add_zero, hA0.1.cell (p := ⟨b, o, none⟩) hb] at hcell
      have hz0 : 0 < n - k - 5 := by omega
      have hz1 : (0 : Int) < ((n - k - 5 : Nat) : Int) := by omega
      have c0 : (0 : Int) ≤ (c.toNat : Int) := by omega
      have c1 : (c.toNat : Int) ≤ 255 := by have := c.toNat_lt; omega
      have CB : Hid (∀ W, Calls Tryd.prog 52 #[.int .i64 (c.toNat : Int)] W fun e w' => e = .returned (.bool (isBl c)) ∧ W = w') := Lib.hid fun W => blank_c _ W
      clear h hm hA0 hh hln hp hR hz hc he
      generalize n - k - 5 = rn at *
      generalize cap - k - 5 = rc at *
      generalize isBl c = ib at *
      generalize (c.toNat : Int) = cn at *
      go_enter Tryd.func26, Tryd.ntmps26
      go_wp2_with fail
      refine C1.out.mono ?_
      rintro e w1 ⟨rfl, rfl⟩
      clear kc
      go_wp2_with fail
      refine (CB.out _).mono ?_
      rintro e wq ⟨rfl, rfl⟩
      go_wp2
      go_ret
      exact ⟨rfl, B0.out⟩
  · have hp' := bfalse hp
    have C1 := Lib.hid (cutPrefix_no _ _ _ _ _ _ _ _ _ _ _ (hh.drop hk) hA0.2 hp')
    simp only [List.length_cons, List.length_nil] at C1
    rw [hasX_no l k hp']
    clear h hm hA0 hh hln hp hp'
    go_enter Tryd.func26, Tryd.ntmps26
    go_wp2_with fail
    refine C1.out.mono ?_
    rintro e w1 ⟨rfl, rfl⟩
    clear kc
    go_wp2
    go_ret
    exact ⟨rfl, B0.out⟩
set_option maxRecDepth 100000 in
set_option maxHeartbeats 4000000 in
theorem refAt8_far (A : Option Addr) (n cap : Nat) (at_ : Int) (p : List UInt8) (w : World) (hm : n ≤ 1000000) (hpl : p.length ≤ 1000000) (ha : at_ < 0 ∨ (n : Int) < at_) (hb : at_ ≤ 9223372036854775807) :
    Calls Tryd.prog 35 #[.slice A n cap, .int .i64 at_, .string ⟨p.toArray⟩] w fun e w' => e = .returned (.bool false) ∧ w = w' := by
  by_cases h0 : at_ < 0
  · have hd : ¬ (0 : Int) ≤ at_ := by omega
    clear ha
    go_enter Tryd.func35, Tryd.ntmps35
    go_wp2
    go_ret
    exact ⟨rfl, rfl⟩
  · have hd : (0 : Int) ≤ at_ := by omega
    have hw : IntKind.i64.wrap ((n : Int) - at_) = (n : Int) - at_ := by rw [IntKind.wrap_i64]; omega
    have hle : ¬ (p.length : Int) ≤ (n : Int) - at_ := by omega
    clear ha h0
    go_enter Tryd.func35, Tryd.ntmps35
    go_wp2
    go_ret
    exact ⟨rfl, rfl⟩
set_option maxRecDepth 100000 in
set_option maxHeartbeats 4000000 in
theorem refHas_far (A : Option Addr) (n cap : Nat) (at_ : Int) (w : World) (hm : n ≤ 1000000) (ha : at_ < 0 ∨ (n : Int) < at_) (hb : at_ ≤ 9223372036854775807) :
    Calls Tryd.prog 27 #[.slice A n cap, .int .i64 at_] w fun e w' => e = .returned (.bool false) ∧ w = w' := by
  have C1 := Lib.hid (refAt8_far A n cap at_ [60, 63, 120, 109, 108] w hm (by simp) ha hb)
  clear ha hb
  go_enter Tryd.func27, Tryd.ntmps27
  go_wp2_with fail
  refine (C1.out).mono ?_
  rintro e wq ⟨rfl, rfl⟩
  go_wp2
  go_ret
  exact ⟨rfl, rfl⟩
set_option maxRecDepth 100000 in
set_option maxHeartbeats 4000000 in
theorem refHas_in (A : Option Addr) (n cap : Nat) (l : List UInt8) (k : Nat) (B : Nat) (w : World) (h : Byt w B A n cap l) (hm : n ≤ 100000) (hk : k ≤ n) :
    Calls Tryd.prog 27 #[.slice A n cap, .int .i64 k] w fun e w' => e = .returned (.bool (hasX l k)) ∧ w = w' := by
  have C1 := Lib.hid (refAt8_c A n cap l k [60, 63, 120, 109, 108] B w h (by simp) (by omega) (by simp) (by omega))
  have hk0 : (0 : Int) ≤ (k : Int) := by omega
  have hk1 : (k : Int) ≤ 100000 := by omega
  have hln := h.length
  by_cases hp : [60, 63, 120, 109, 108].isPrefixOf (l.drop k) = true
  · rw [hp] at C1
    by_cases hz : k + 5 < n
    · obtain ⟨b, o, c, rfl, hb, hc, hcell⟩ := h.cell hz
      rw [hasX_at l k c hp hc]
      have hzi : (k : Int) + 5 < (n : Int) := by omega
      have hz0 : (0 : Int) ≤ (k : Int) + 5 := by omega
      have htn : ((k : Int) + 5).toNat = k + 5 := by omega
      have c0 : (0 : Int) ≤ (c.toNat : Int) := by omega
      have c1 : (c.toNat : Int) ≤ 255 := by have := c.toNat_lt; omega
      have CB : Hid (∀ W, Calls Tryd.prog 53 #[.int .i64 (c.toNat : Int)] W fun e w' => e = .returned (.bool (isBl c)) ∧ W = w') := Lib.hid fun W => refBlank_c _ W
      clear h hm hln hp hc hb hz
      generalize isBl c = ib at *
      generalize (c.toNat : Int) = cn at *
      go_enter Tryd.func27, Tryd.ntmps27
      go_wp2_with fail
      refine (C1.out).mono ?_
      rintro e wq ⟨rfl, rfl⟩
      go_wp2_with fail
      refine (CB.out _).mono ?_
      rintro e wq ⟨rfl, rfl⟩
      go_wp2
      go_ret
      exact ⟨rfl, rfl⟩
    · rw [hasX_end l k (by rw [List.getElem?_eq_none]; omega)]
      have hzi : ¬ (k : Int) + 5 < (n : Int) := by omega
      clear h hm hln hp hz
      go_enter Tryd.func27, Tryd.ntmps27
      go_wp2_with fail
      refine (C1.out).mono ?_
      rintro e wq ⟨rfl, rfl⟩
      go_wp2
      go_ret
      exact ⟨rfl, rfl⟩
  · have hp' := bfalse hp
    rw [hp'] at C1
    rw [hasX_no l k hp']
    clear h hm hln hp hp'
    go_enter Tryd.func27, Tryd.ntmps27
    go_wp2_with fail
    refine (C1.out).mono ?_
    rintro e wq ⟨rfl, rfl⟩
    go_wp2
    go_ret
    exact ⟨rfl, rfl⟩
theorem pre1 (a : UInt8) (l : List UInt8) (k : Nat) : [a].isPrefixOf (l.drop k) = decide (l[k]? = some a) := by
  rw [Bool.eq_iff_iff, decide_eq_true_eq]
  constructor
  · intro h
    have := pre_get h 0 (by simp)
    simpa using this
  · intro h
    exact pre_of_get fun i hi => by
      simp at hi
      subst hi
      simpa using h
theorem part_none1 {word : List UInt8} {may : List UInt8 → Bool} {l : List UInt8} {k : Nat} (h : blankTo l k = k) : partOut word may l k = some ([], k) := by unfold partOut; rw [if_pos (.inl h)]
theorem part_none2 {word : List UInt8} {may : List UInt8 → Bool} {l : List UInt8} {k : Nat} (h : word.isPrefixOf (l.drop (blankTo l k)) = false) : partOut word may l k = some ([], k) := by unfold partOut; rw [if_pos (.inr h)]
theorem part_some {word : List UInt8} {may : List UInt8 → Bool} {l : List UInt8} {k i : Nat} (h1 : blankTo l k ≠ k) (h2 : word.isPrefixOf (l.drop (blankTo l k)) = true) (hi : blankTo l (blankTo l k + word.length) = i) :
    partOut word may l k = if l[i]? = some 61 then (if (quotedAt l (blankTo l (i + 1))).2.2 = 0 ∧ may (quotedAt l (blankTo l (i + 1))).1 = true then some ((quotedAt l (blankTo l (i + 1))).1, (quotedAt l (blankTo l (i + 1))).2.1) else none) else none := by
  subst hi
  unfold partOut
  rw [if_neg (by rintro (h | h)
                 · exact h1 h
                 · rw [h2] at h; cases h)]
def partV : Option (List UInt8 × Nat) → Value
  | none => .tuple #[.string ⟨#[]⟩, .int .i64 (-1)]
  | some (s, k) => .tuple #[.string ⟨s.toArray⟩, .int .i64 (k : Int)]
theorem quotedAt_len (l : List UInt8) (at_ : Int) : (quotedAt l at_).1.length ≤ l.length := by
  unfold quotedAt
  split
  · simp
  · unfold quotedOut
    cases l[at_.toNat]? with
    | none => simp
    | some q =>
      simp only
      split
      · unfold quotedQ
        split
        · simp
        · simp only [List.length_take, List.length_drop]
          omega
      · simp
set_option maxRecDepth 100000 in
set_option maxHeartbeats 4000000 in
theorem refPart0_c (A : Option Addr) (n cap : Nat) (l : List UInt8) (k : Nat) (w : World) (h : Byt w w.heap.size A n cap l) (hm : n ≤ 40000) (hk : k ≤ n) :
    Calls Tryd.prog 50 #[.slice A n cap, .int .i64 k, .int .i64 0] w fun e w' => e = .returned (partV (partOut [118, 101, 114, 115, 105, 111, 110] verB l k)) ∧ Below w.heap.size w w' := by
  have hln := h.length
  have B0 := Lib.hid ((Below.refl w.heap.size w).alloc (Nat.le_refl _) (.cells #[.string ⟨#[118, 101, 114, 115, 105, 111, 110]⟩, .string ⟨#[101, 110, 99, 111, 100, 105, 110, 103]⟩, .string ⟨#[115, 116, 97, 110, 100, 97, 108, 111, 110, 101]⟩] 9))
  have CB : Hid (∀ t, t ≤ n → ∀ W, Below w.heap.size w W → Calls Tryd.prog 33 #[.slice A n cap, .int .i64 (t : Int)] W fun e w' => e = .returned (.int .i64 (blankTo l t)) ∧ W = w') := Lib.hid fun t ht W hb => refBlanks_c A n cap l t _ W (h.below hb) (by omega) ht
  have CA : Hid (∀ (t : Nat) (p : List UInt8), t ≤ n → p ≠ [] → p.length ≤ 100 → ∀ W, Below w.heap.size w W → Calls Tryd.prog 35 #[.slice A n cap, .int .i64 (t : Int), .string ⟨p.toArray⟩] W fun e w' => e = .returned (.bool (p.isPrefixOf (l.drop t))) ∧ W = w') := Lib.hid fun t p ht hp hpl W hb => refAt8_c A n cap l t p _ W (h.below hb) hp (by omega) (by omega) (by omega)
  have hb1 := blankTo_le l k (by omega)
  have c1 := CB.out k hk
  have c2 := CA.out (blankTo l k) [118, 101, 114, 115, 105, 111, 110] (by omega) (by simp) (by simp)
  have hk0 : (0 : Int) ≤ (k : Int) := by omega
  have hk1 : (k : Int) ≤ 40000 := by omega
  by_cases hbk : blankTo l k = k
  · rw [part_none1 hbk]
    rw [hbk] at c1
    have C1 := Lib.hid c1
    clear h hln CB CA hb1 c1 c2 hbk
    go_enter Tryd.func50, Tryd.ntmps50
    go_wp2_with fail
    refine (C1.out _ B0.out).mono ?_
    rintro e wq ⟨rfl, rfl⟩
    go_wp2
    go_ret2
    exact ⟨rfl, B0.out⟩
  · have hbf : ((blankTo l k : Int) == (k : Int)) = false := by simp; omega
    cases hp : [118, 101, 114, 115, 105, 111, 110].isPrefixOf (l.drop (blankTo l k)) with
    | false =>
      rw [part_none2 hp]
      rw [hp] at c2
      have C1 := Lib.hid c1
      have C2 := Lib.hid c2
      clear h hln CB CA hb1 c1 c2 hbk hp
      generalize blankTo l k = b at *
      go_enter Tryd.func50, Tryd.ntmps50
      go_wp2_with fail
      refine (C1.out _ B0.out).mono ?_
      rintro e wq ⟨rfl, rfl⟩
      go_wp2_with fail
      refine (C2.out _ B0.out).mono ?_
      rintro e wq ⟨rfl, rfl⟩
      go_wp2
      go_ret2
      exact ⟨rfl, B0.out⟩
    | true =>
      rw [hp] at c2
      have hbl : blankTo l k + 7 ≤ n := by have := pre_len hp; simp at this; omega
      have c3 := CB.out (blankTo l k + 7) hbl
      have hb2 := blankTo_le l (blankTo l k + 7) (by omega)
      rw [part_some hbk hp rfl]
      simp only [List.length_cons, List.length_nil]
      rw [show ((blankTo l k + 7 : Nat) : Int) = (blankTo l k : Int) + 7 by omega] at c3
      have hbb : (blankTo l k : Int) ≤ 40000 := by omega
      have hbb0 : (0 : Int) ≤ (blankTo l k : Int) := by omega
      generalize hi : blankTo l (blankTo l k + 7) = i at *
      have c4 := CA.out i [61] (by omega) (by simp) (by simp)
      rw [pre1] at c4
      have hi0 : (0 : Int) ≤ (i : Int) := by omega
      have hi1 : (i : Int) ≤ 40000 := by omega
      have C1 := Lib.hid c1
      have C2 := Lib.hid c2
      have C3 := Lib.hid c3
      clear c1 c2 c3 hp
      by_cases he : l[i]? = some 61
      · rw [if_pos he]
        have hd : decide (l[i]? = some 61) = true := by simpa using he
        rw [hd] at c4
        have C4 := Lib.hid c4
        have hil : i + 1 ≤ n := by
          have := (List.getElem?_eq_some_iff.1 he).1
          omega
        have c5 := CB.out (i + 1) hil
        rw [show ((i + 1 : Nat) : Int) = (i : Int) + 1 by omega] at c5
        have C5 := Lib.hid c5
        have C6 : Hid (∀ W, Below w.heap.size w W → Calls Tryd.prog 58 #[.slice A n cap, .int .i64 (blankTo l (i + 1) : Int)] W fun e w' => e = .returned (outV (quotedAt l (blankTo l (i + 1)))) ∧ Hid (Below w.heap.size w w')) := Lib.hid fun W hb => (refQuoted_c A n cap l (blankTo l (i + 1) : Int) W _ (h.below hb) (by omega)).mono fun e w' ⟨he, m, hm⟩ => ⟨he, Lib.hid (hm ▸ below_drewN' hb)⟩
        have hql := quotedAt_len l (blankTo l (i + 1) : Int)
        have C7 : Hid (∀ s : List UInt8, s.length ≤ n → ∀ W, Calls Tryd.prog 54 #[.int .i64 0, .string ⟨s.toArray⟩] W fun e w' => e = .returned (.bool (verB s)) ∧ Below W.heap.size W w') := Lib.hid fun s hsn W => by
          have hsl : s.length ≤ 100000 := by omega
          exact (refMay0_c s W hsl).mono fun e w' ⟨he, hw⟩ => ⟨he, hw ▸ Below.refl _ _⟩
        clear h CB CA c4 c5 hd hb1 hb2 hil hi he hbk hbl
        generalize quotedAt l (blankTo l (i + 1) : Int) = q at *
        generalize blankTo l (i + 1) = p at *
        generalize blankTo l k = b at *
        obtain ⟨s, t, f⟩ := q
        simp only at hql ⊢
        unfold outV at C6
        simp only at C6
        have C8 := Lib.hid (C7.out s (by omega))
        clear C7 hql hln
        by_cases hf : f = 0
        · subst hf
          cases hmy : verB s with
          | true =>
            rw [hmy] at C8
            clear hmy
            rw [if_pos ⟨rfl, rfl⟩]
            unfold partV
            go_enter Tryd.func50, Tryd.ntmps50
            go_wp2_with fail
            refine (C1.out _ B0.out).mono ?_
            rintro e wq ⟨rfl, rfl⟩
            go_wp2_with fail
            refine (C2.out _ B0.out).mono ?_
            rintro e wq ⟨rfl, rfl⟩
            go_wp2_with fail
            refine (C3.out _ B0.out).mono ?_
            rintro e wq ⟨rfl, rfl⟩
            go_wp2_with fail
            refine (C4.out _ B0.out).mono ?_
            rintro e wq ⟨rfl, rfl⟩
            go_wp2_with fail
            refine (C5.out _ B0.out).mono ?_
            rintro e wq ⟨rfl, rfl⟩
            go_wp2_with fail
            refine (C6.out _ B0.out).mono ?_
            rintro e w6 ⟨rfl, B6⟩
            go_wp2_with fail
            refine (C8.out _).mono ?_
            rintro e w7 ⟨rfl, hb⟩
            have B7 := Lib.hid (B6.out.trans (hb.mono B6.out.size))
            clear hb
            go_wp2
            go_ret2
            exact ⟨rfl, B7.out⟩
          | false =>
            rw [hmy] at C8
            clear hmy
            rw [if_neg (by simp)]
            unfold partV
            go_enter Tryd.func50, Tryd.ntmps50
            go_wp2_with fail
            refine (C1.out _ B0.out).mono ?_
            rintro e wq ⟨rfl, rfl⟩
            go_wp2_with fail
            refine (C2.out _ B0.out).mono ?_
            rintro e wq ⟨rfl, rfl⟩
            go_wp2_with fail
            refine (C3.out _ B0.out).mono ?_
            rintro e wq ⟨rfl, rfl⟩
            go_wp2_with fail
            refine (C4.out _ B0.out).mono ?_
            rintro e wq ⟨rfl, rfl⟩
            go_wp2_with fail
            refine (C5.out _ B0.out).mono ?_
            rintro e wq ⟨rfl, rfl⟩
            go_wp2_with fail
            refine (C6.out _ B0.out).mono ?_
            rintro e w6 ⟨rfl, B6⟩
            go_wp2_with fail
            refine (C8.out _).mono ?_
            rintro e w7 ⟨rfl, hb⟩
            have B7 := Lib.hid (B6.out.trans (hb.mono B6.out.size))
            clear hb
            go_wp2
            go_ret2
            exact ⟨rfl, B7.out⟩
        · rw [if_neg (fun h => hf h.1)]
          have hfz : ((f : Int) != 0) = true := by simp; omega
          clear hf C8
          unfold partV
          go_enter Tryd.func50, Tryd.ntmps50
          go_wp2_with fail
          refine (C1.out _ B0.out).mono ?_
          rintro e wq ⟨rfl, rfl⟩
          go_wp2_with fail
          refine (C2.out _ B0.out).mono ?_
          rintro e wq ⟨rfl, rfl⟩
          go_wp2_with fail
          refine (C3.out _ B0.out).mono ?_
          rintro e wq ⟨rfl, rfl⟩
          go_wp2_with fail
          refine (C4.out _ B0.out).mono ?_
          rintro e wq ⟨rfl, rfl⟩
          go_wp2_with fail
          refine (C5.out _ B0.out).mono ?_
          rintro e wq ⟨rfl, rfl⟩
          go_wp2_with fail
          refine (C6.out _ B0.out).mono ?_
          rintro e w6 ⟨rfl, B6⟩
          go_wp2
          go_ret2
          exact ⟨rfl, B6.out⟩
      · rw [if_neg he]
        have hd : decide (l[i]? = some 61) = false := by simpa using he
        rw [hd] at c4
        have C4 := Lib.hid c4
        clear h CB CA c4 hd hb1 hb2 hi he hbk hbl hln
        generalize blankTo l k = b at *
        unfold partV
        go_enter Tryd.func50, Tryd.ntmps50
        go_wp2_with fail
        refine (C1.out _ B0.out).mono ?_
        rintro e wq ⟨rfl, rfl⟩
        go_wp2_with fail
        refine (C2.out _ B0.out).mono ?_
        rintro e wq ⟨rfl, rfl⟩
        go_wp2_with fail
        refine (C3.out _ B0.out).mono ?_
        rintro e wq ⟨rfl, rfl⟩
        go_wp2_with fail
        refine (C4.out _ B0.out).mono ?_
        rintro e wq ⟨rfl, rfl⟩
        go_wp2
        go_ret2
        exact ⟨rfl, B0.out⟩
set_option maxRecDepth 100000 in
set_option maxHeartbeats 4000000 in
theorem refPart1_c (A : Option Addr) (n cap : Nat) (l : List UInt8) (k : Nat) (w : World) (h : Byt w w.heap.size A n cap l) (hm : n ≤ 40000) (hk : k ≤ n) :
    Calls Tryd.prog 50 #[.slice A n cap, .int .i64 k, .int .i64 1] w fun e w' => e = .returned (partV (partOut [101, 110, 99, 111, 100, 105, 110, 103] encB l k)) ∧ Below w.heap.size w w' := by
  have hln := h.length
  have B0 := Lib.hid ((Below.refl w.heap.size w).alloc (Nat.le_refl _) (.cells #[.string ⟨#[118, 101, 114, 115, 105, 111, 110]⟩, .string ⟨#[101, 110, 99, 111, 100, 105, 110, 103]⟩, .string ⟨#[115, 116, 97, 110, 100, 97, 108, 111, 110, 101]⟩] 9))
  have CB : Hid (∀ t, t ≤ n → ∀ W, Below w.heap.size w W → Calls Tryd.prog 33 #[.slice A n cap, .int .i64 (t : Int)] W fun e w' => e = .returned (.int .i64 (blankTo l t)) ∧ W = w') := Lib.hid fun t ht W hb => refBlanks_c A n cap l t _ W (h.below hb) (by omega) ht
  have CA : Hid (∀ (t : Nat) (p : List UInt8), t ≤ n → p ≠ [] → p.length ≤ 100 → ∀ W, Below w.heap.size w W → Calls Tryd.prog 35 #[.slice A n cap, .int .i64 (t : Int), .string ⟨p.toArray⟩] W fun e w' => e = .returned (.bool (p.isPrefixOf (l.drop t))) ∧ W = w') := Lib.hid fun t p ht hp hpl W hb => refAt8_c A n cap l t p _ W (h.below hb) hp (by omega) (by omega) (by omega)
  have hb1 := blankTo_le l k (by omega)
  have c1 := CB.out k hk
  have c2 := CA.out (blankTo l k) [101, 110, 99, 111, 100, 105, 110, 103] (by omega) (by simp) (by simp)
  have hk0 : (0 : Int) ≤ (k : Int) := by omega
  have hk1 : (k : Int) ≤ 40000 := by omega
  by_cases hbk : blankTo l k = k
  · rw [part_none1 hbk]
    rw [hbk] at c1
    have C1 := Lib.hid c1
    clear h hln CB CA hb1 c1 c2 hbk
    go_enter Tryd.func50, Tryd.ntmps50
    go_wp2_with fail
    refine (C1.out _ B0.out).mono ?_
    rintro e wq ⟨rfl, rfl⟩
    go_wp2
    go_ret2
    exact ⟨rfl, B0.out⟩
  · have hbf : ((blankTo l k : Int) == (k : Int)) = false := by simp; omega
    cases hp : [101, 110, 99, 111, 100, 105, 110, 103].isPrefixOf (l.drop (blankTo l k)) with
    | false =>
      rw [part_none2 hp]
      rw [hp] at c2
      have C1 := Lib.hid c1
      have C2 := Lib.hid c2
      clear h hln CB CA hb1 c1 c2 hbk hp
      generalize blankTo l k = b at *
      go_enter Tryd.func50, Tryd.ntmps50
      go_wp2_with fail
      refine (C1.out _ B0.out).mono ?_
      rintro e wq ⟨rfl, rfl⟩
      go_wp2_with fail
      refine (C2.out _ B0.out).mono ?_
      rintro e wq ⟨rfl, rfl⟩
      go_wp2
      go_ret2
      exact ⟨rfl, B0.out⟩
    | true =>
      rw [hp] at c2
      have hbl : blankTo l k + 8 ≤ n := by have := pre_len hp; simp at this; omega
      have c3 := CB.out (blankTo l k + 8) hbl
      have hb2 := blankTo_le l (blankTo l k + 8) (by omega)
      rw [part_some hbk hp rfl]
      simp only [List.length_cons, List.length_nil]
      rw [show ((blankTo l k + 8 : Nat) : Int) = (blankTo l k : Int) + 8 by omega] at c3
      have hbb : (blankTo l k : Int) ≤ 40000 := by omega
      have hbb0 : (0 : Int) ≤ (blankTo l k : Int) := by omega
      generalize hi : blankTo l (blankTo l k + 8) = i at *
      have c4 := CA.out i [61] (by omega) (by simp) (by simp)
      rw [pre1] at c4
      have hi0 : (0 : Int) ≤ (i : Int) := by omega
      have hi1 : (i : Int) ≤ 40000 := by omega
      have C1 := Lib.hid c1
      have C2 := Lib.hid c2
      have C3 := Lib.hid c3
      clear c1 c2 c3 hp
      by_cases he : l[i]? = some 61
      · rw [if_pos he]
        have hd : decide (l[i]? = some 61) = true := by simpa using he
        rw [hd] at c4
        have C4 := Lib.hid c4
        have hil : i + 1 ≤ n := by
          have := (List.getElem?_eq_some_iff.1 he).1
          omega
        have c5 := CB.out (i + 1) hil
        rw [show ((i + 1 : Nat) : Int) = (i : Int) + 1 by omega] at c5
        have C5 := Lib.hid c5
        have C6 : Hid (∀ W, Below w.heap.size w W → Calls Tryd.prog 58 #[.slice A n cap, .int .i64 (blankTo l (i + 1) : Int)] W fun e w' => e = .returned (outV (quotedAt l (blankTo l (i + 1)))) ∧ Hid (Below w.heap.size w w')) := Lib.hid fun W hb => (refQuoted_c A n cap l (blankTo l (i + 1) : Int) W _ (h.below hb) (by omega)).mono fun e w' ⟨he, m, hm⟩ => ⟨he, Lib.hid (hm ▸ below_drewN' hb)⟩
        have hql := quotedAt_len l (blankTo l (i + 1) : Int)
        have C7 : Hid (∀ s : List UInt8, s.length ≤ n → ∀ W, Calls Tryd.prog 54 #[.int .i64 1, .string ⟨s.toArray⟩] W fun e w' => e = .returned (.bool (encB s)) ∧ Below W.heap.size W w') := Lib.hid fun s hsn W => by
          have hsl : s.length ≤ 100000 := by omega
          exact refMay1_c s W hsl
        clear h CB CA c4 c5 hd hb1 hb2 hil hi he hbk hbl
        generalize quotedAt l (blankTo l (i + 1) : Int) = q at *
        generalize blankTo l (i + 1) = p at *
        generalize blankTo l k = b at *
        obtain ⟨s, t, f⟩ := q
        simp only at hql ⊢
        unfold outV at C6
        simp only at C6
        have C8 := Lib.hid (C7.out s (by omega))
        clear C7 hql hln
        by_cases hf : f = 0
        · subst hf
          cases hmy : encB s with
          | true =>
            rw [hmy] at C8
            clear hmy
            rw [if_pos ⟨rfl, rfl⟩]
            unfold partV
            go_enter Tryd.func50, Tryd.ntmps50
            go_wp2_with fail
            refine (C1.out _ B0.out).mono ?_
            rintro e wq ⟨rfl, rfl⟩
            go_wp2_with fail
            refine (C2.out _ B0.out).mono ?_
            rintro e wq ⟨rfl, rfl⟩
            go_wp2_with fail
            refine (C3.out _ B0.out).mono ?_
            rintro e wq ⟨rfl, rfl⟩
            go_wp2_with fail
            refine (C4.out _ B0.out).mono ?_
            rintro e wq ⟨rfl, rfl⟩
            go_wp2_with fail
            refine (C5.out _ B0.out).mono ?_
            rintro e wq ⟨rfl, rfl⟩
            go_wp2_with fail
            refine (C6.out _ B0.out).mono ?_
            rintro e w6 ⟨rfl, B6⟩
            go_wp2_with fail
            refine (C8.out _).mono ?_
            rintro e w7 ⟨rfl, hb⟩
            have B7 := Lib.hid (B6.out.trans (hb.mono B6.out.size))
            clear hb
            go_wp2
            go_ret2
            exact ⟨rfl, B7.out⟩
          | false =>
            rw [hmy] at C8
            clear hmy
            rw [if_neg (by simp)]
            unfold partV
            go_enter Tryd.func50, Tryd.ntmps50
            go_wp2_with fail
            refine (C1.out _ B0.out).mono ?_
            rintro e wq ⟨rfl, rfl⟩
            go_wp2_with fail
            refine (C2.out _ B0.out).mono ?_
            rintro e wq ⟨rfl, rfl⟩
            go_wp2_with fail
            refine (C3.out _ B0.out).mono ?_
            rintro e wq ⟨rfl, rfl⟩
            go_wp2_with fail
            refine (C4.out _ B0.out).mono ?_
            rintro e wq ⟨rfl, rfl⟩
            go_wp2_with fail
            refine (C5.out _ B0.out).mono ?_
            rintro e wq ⟨rfl, rfl⟩
            go_wp2_with fail
            refine (C6.out _ B0.out).mono ?_
            rintro e w6 ⟨rfl, B6⟩
            go_wp2_with fail
            refine (C8.out _).mono ?_
            rintro e w7 ⟨rfl, hb⟩
            have B7 := Lib.hid (B6.out.trans (hb.mono B6.out.size))
            clear hb
            go_wp2
            go_ret2
            exact ⟨rfl, B7.out⟩
        · rw [if_neg (fun h => hf h.1)]
          have hfz : ((f : Int) != 0) = true := by simp; omega
          clear hf C8
          unfold partV
          go_enter Tryd.func50, Tryd.ntmps50
          go_wp2_with fail
          refine (C1.out _ B0.out).mono ?_
          rintro e wq ⟨rfl, rfl⟩
          go_wp2_with fail
          refine (C2.out _ B0.out).mono ?_
          rintro e wq ⟨rfl, rfl⟩
          go_wp2_with fail
          refine (C3.out _ B0.out).mono ?_
          rintro e wq ⟨rfl, rfl⟩
          go_wp2_with fail
          refine (C4.out _ B0.out).mono ?_
          rintro e wq ⟨rfl, rfl⟩
          go_wp2_with fail
          refine (C5.out _ B0.out).mono ?_
          rintro e wq ⟨rfl, rfl⟩
          go_wp2_with fail
          refine (C6.out _ B0.out).mono ?_
          rintro e w6 ⟨rfl, B6⟩
          go_wp2
          go_ret2
          exact ⟨rfl, B6.out⟩
      · rw [if_neg he]
        have hd : decide (l[i]? = some 61) = false := by simpa using he
        rw [hd] at c4
        have C4 := Lib.hid c4
        clear h CB CA c4 hd hb1 hb2 hi he hbk hbl hln
        generalize blankTo l k = b at *
        unfold partV
        go_enter Tryd.func50, Tryd.ntmps50
        go_wp2_with fail
        refine (C1.out _ B0.out).mono ?_
        rintro e wq ⟨rfl, rfl⟩
        go_wp2_with fail
        refine (C2.out _ B0.out).mono ?_
        rintro e wq ⟨rfl, rfl⟩
        go_wp2_with fail
        refine (C3.out _ B0.out).mono ?_
        rintro e wq ⟨rfl, rfl⟩
        go_wp2_with fail
        refine (C4.out _ B0.out).mono ?_
        rintro e wq ⟨rfl, rfl⟩
        go_wp2
        go_ret2
        exact ⟨rfl, B0.out⟩
set_option maxRecDepth 100000 in
set_option maxHeartbeats 4000000 in
theorem refPart2_c (A : Option Addr) (n cap : Nat) (l : List UInt8) (k : Nat) (w : World) (h : Byt w w.heap.size A n cap l) (hm : n ≤ 40000) (hk : k ≤ n) :
    Calls Tryd.prog 50 #[.slice A n cap, .int .i64 k, .int .i64 2] w fun e w' => e = .returned (partV (partOut [115, 116, 97, 110, 100, 97, 108, 111, 110, 101] aloneB l k)) ∧ Below w.heap.size w w' := by
  have hln := h.length
  have B0 := Lib.hid ((Below.refl w.heap.size w).alloc (Nat.le_refl _) (.cells #[.string ⟨#[118, 101, 114, 115, 105, 111, 110]⟩, .string ⟨#[101, 110, 99, 111, 100, 105, 110, 103]⟩, .string ⟨#[115, 116, 97, 110, 100, 97, 108, 111, 110, 101]⟩] 9))
  have CB : Hid (∀ t, t ≤ n → ∀ W, Below w.heap.size w W → Calls Tryd.prog 33 #[.slice A n cap, .int .i64 (t : Int)] W fun e w' => e = .returned (.int .i64 (blankTo l t)) ∧ W = w') := Lib.hid fun t ht W hb => refBlanks_c A n cap l t _ W (h.below hb) (by omega) ht
  have CA : Hid (∀ (t : Nat) (p : List UInt8), t ≤ n → p ≠ [] → p.length ≤ 100 → ∀ W, Below w.heap.size w W → Calls Tryd.prog 35 #[.slice A n cap, .int .i64 (t : Int), .string ⟨p.toArray⟩] W fun e w' => e = .returned (.bool (p.isPrefixOf (l.drop t))) ∧ W = w') := Lib.hid fun t p ht hp hpl W hb => refAt8_c A n cap l t p _ W (h.below hb) hp (by omega) (by omega) (by omega)
  have hb1 := blankTo_le l k (by omega)
  have c1 := CB.out k hk
  have c2 := CA.out (blankTo l k) [115, 116, 97, 110, 100, 97, 108, 111, 110, 101] (by omega) (by simp) (by simp)
  have hk0 : (0 : Int) ≤ (k : Int) := by omega
  have hk1 : (k : Int) ≤ 40000 := by omega
  by_cases hbk : blankTo l k = k
  · rw [part_none1 hbk]
    rw [hbk] at c1
    have C1 := Lib.hid c1
    clear h hln CB CA hb1 c1 c2 hbk
    go_enter Tryd.func50, Tryd.ntmps50
    go_wp2_with fail
    refine (C1.out _ B0.out).mono ?_
    rintro e wq ⟨rfl, rfl⟩
    go_wp2
    go_ret2
    exact ⟨rfl, B0.out⟩
  · have hbf : ((blankTo l k : Int) == (k : Int)) = false := by simp; omega
    cases hp : [115, 116, 97, 110, 100, 97, 108, 111, 110, 101].isPrefixOf (l.drop (blankTo l k)) with
    | false =>
      rw [part_none2 hp]
      rw [hp] at c2
      have C1 := Lib.hid c1
      have C2 := Lib.hid c2
      clear h hln CB CA hb1 c1 c2 hbk hp
      generalize blankTo l k = b at *
      go_enter Tryd.func50, Tryd.ntmps50
      go_wp2_with fail
      refine (C1.out _ B0.out).mono ?_
      rintro e wq ⟨rfl, rfl⟩
      go_wp2_with fail
      refine (C2.out _ B0.out).mono ?_
      rintro e wq ⟨rfl, rfl⟩
      go_wp2
      go_ret2
      exact ⟨rfl, B0.out⟩
    | true =>
      rw [hp] at c2
      have hbl : blankTo l k + 10 ≤ n := by have := pre_len hp; simp at this; omega
      have c3 := CB.out (blankTo l k + 10) hbl
      have hb2 := blankTo_le l (blankTo l k + 10) (by omega)
      rw [part_some hbk hp rfl]
      simp only [List.length_cons, List.length_nil]
      rw [show ((blankTo l k + 10 : Nat) : Int) = (blankTo l k : Int) + 10 by omega] at c3
      have hbb : (blankTo l k : Int) ≤ 40000 := by omega
      have hbb0 : (0 : Int) ≤ (blankTo l k : Int) := by omega
      generalize hi : blankTo l (blankTo l k + 10) = i at *
      have c4 := CA.out i [61] (by omega) (by simp) (by simp)
      rw [pre1] at c4
      have hi0 : (0 : Int) ≤ (i : Int) := by omega
      have hi1 : (i : Int) ≤ 40000 := by omega
      have C1 := Lib.hid c1
      have C2 := Lib.hid c2
      have C3 := Lib.hid c3
      clear c1 c2 c3 hp
      by_cases he : l[i]? = some 61
      · rw [if_pos he]
        have hd : decide (l[i]? = some 61) = true := by simpa using he
        rw [hd] at c4
        have C4 := Lib.hid c4
        have hil : i + 1 ≤ n := by
          have := (List.getElem?_eq_some_iff.1 he).1
          omega
        have c5 := CB.out (i + 1) hil
        rw [show ((i + 1 : Nat) : Int) = (i : Int) + 1 by omega] at c5
        have C5 := Lib.hid c5
        have C6 : Hid (∀ W, Below w.heap.size w W → Calls Tryd.prog 58 #[.slice A n cap, .int .i64 (blankTo l (i + 1) : Int)] W fun e w' => e = .returned (outV (quotedAt l (blankTo l (i + 1)))) ∧ Hid (Below w.heap.size w w')) := Lib.hid fun W hb => (refQuoted_c A n cap l (blankTo l (i + 1) : Int) W _ (h.below hb) (by omega)).mono fun e w' ⟨he, m, hm⟩ => ⟨he, Lib.hid (hm ▸ below_drewN' hb)⟩
        have hql := quotedAt_len l (blankTo l (i + 1) : Int)
        have C7 : Hid (∀ s : List UInt8, s.length ≤ n → ∀ W, Calls Tryd.prog 54 #[.int .i64 2, .string ⟨s.toArray⟩] W fun e w' => e = .returned (.bool (aloneB s)) ∧ Below W.heap.size W w') := Lib.hid fun s hsn W => by
          have hsl : s.length ≤ 100000 := by omega
          exact (refMay2_c s W).mono fun e w' ⟨he, hw⟩ => ⟨he, hw ▸ Below.refl _ _⟩
        clear h CB CA c4 c5 hd hb1 hb2 hil hi he hbk hbl
        generalize quotedAt l (blankTo l (i + 1) : Int) = q at *
        generalize blankTo l (i + 1) = p at *
        generalize blankTo l k = b at *
        obtain ⟨s, t, f⟩ := q
        simp only at hql ⊢
        unfold outV at C6
        simp only at C6
        have C8 := Lib.hid (C7.out s (by omega))
        clear C7 hql hln
        by_cases hf : f = 0
        · subst hf
          cases hmy : aloneB s with
          | true =>
            rw [hmy] at C8
            clear hmy
            rw [if_pos ⟨rfl, rfl⟩]
            unfold partV
            go_enter Tryd.func50, Tryd.ntmps50
            go_wp2_with fail
            refine (C1.out _ B0.out).mono ?_
            rintro e wq ⟨rfl, rfl⟩
            go_wp2_with fail
            refine (C2.out _ B0.out).mono ?_
            rintro e wq ⟨rfl, rfl⟩
            go_wp2_with fail
            refine (C3.out _ B0.out).mono ?_
            rintro e wq ⟨rfl, rfl⟩
            go_wp2_with fail
            refine (C4.out _ B0.out).mono ?_
            rintro e wq ⟨rfl, rfl⟩
            go_wp2_with fail
            refine (C5.out _ B0.out).mono ?_
            rintro e wq ⟨rfl, rfl⟩
            go_wp2_with fail
            refine (C6.out _ B0.out).mono ?_
            rintro e w6 ⟨rfl, B6⟩
            go_wp2_with fail
            refine (C8.out _).mono ?_
            rintro e w7 ⟨rfl, hb⟩
            have B7 := Lib.hid (B6.out.trans (hb.mono B6.out.size))
            clear hb
            go_wp2
            go_ret2
            exact ⟨rfl, B7.out⟩
          | false =>
            rw [hmy] at C8
            clear hmy
            rw [if_neg (by simp)]
            unfold partV
            go_enter Tryd.func50, Tryd.ntmps50
            go_wp2_with fail
            refine (C1.out _ B0.out).mono ?_
            rintro e wq ⟨rfl, rfl⟩
            go_wp2_with fail
            refine (C2.out _ B0.out).mono ?_
            rintro e wq ⟨rfl, rfl⟩
            go_wp2_with fail
            refine (C3.out _ B0.out).mono ?_
            rintro e wq ⟨rfl, rfl⟩
            go_wp2_with fail
            refine (C4.out _ B0.out).mono ?_
            rintro e wq ⟨rfl, rfl⟩
            go_wp2_with fail
            refine (C5.out _ B0.out).mono ?_
            rintro e wq ⟨rfl, rfl⟩
            go_wp2_with fail
            refine (C6.out _ B0.out).mono ?_
            rintro e w6 ⟨rfl, B6⟩
            go_wp2_with fail
            refine (C8.out _).mono ?_
            rintro e w7 ⟨rfl, hb⟩
            have B7 := Lib.hid (B6.out.trans (hb.mono B6.out.size))
            clear hb
            go_wp2
            go_ret2
            exact ⟨rfl, B7.out⟩
        · rw [if_neg (fun h => hf h.1)]
          have hfz : ((f : Int) != 0) = true := by simp; omega
          clear hf C8
          unfold partV
          go_enter Tryd.func50, Tryd.ntmps50
          go_wp2_with fail
          refine (C1.out _ B0.out).mono ?_
          rintro e wq ⟨rfl, rfl⟩
          go_wp2_with fail
          refine (C2.out _ B0.out).mono ?_
          rintro e wq ⟨rfl, rfl⟩
          go_wp2_with fail
          refine (C3.out _ B0.out).mono ?_
          rintro e wq ⟨rfl, rfl⟩
          go_wp2_with fail
          refine (C4.out _ B0.out).mono ?_
          rintro e wq ⟨rfl, rfl⟩
          go_wp2_with fail
          refine (C5.out _ B0.out).mono ?_
          rintro e wq ⟨rfl, rfl⟩
          go_wp2_with fail
          refine (C6.out _ B0.out).mono ?_
          rintro e w6 ⟨rfl, B6⟩
          go_wp2
          go_ret2
          exact ⟨rfl, B6.out⟩
      · rw [if_neg he]
        have hd : decide (l[i]? = some 61) = false := by simpa using he
        rw [hd] at c4
        have C4 := Lib.hid c4
        clear h CB CA c4 hd hb1 hb2 hi he hbk hbl hln
        generalize blankTo l k = b at *
        unfold partV
        go_enter Tryd.func50, Tryd.ntmps50
        go_wp2_with fail
        refine (C1.out _ B0.out).mono ?_
        rintro e wq ⟨rfl, rfl⟩
        go_wp2_with fail
        refine (C2.out _ B0.out).mono ?_
        rintro e wq ⟨rfl, rfl⟩
        go_wp2_with fail
        refine (C3.out _ B0.out).mono ?_
        rintro e wq ⟨rfl, rfl⟩
        go_wp2_with fail
        refine (C4.out _ B0.out).mono ?_
        rintro e wq ⟨rfl, rfl⟩
        go_wp2
        go_ret2
        exact ⟨rfl, B0.out⟩
/-- What is said: whether, the version, the encoding, the standalone. -/
structure DeclL where
  has : Bool
  ver : List UInt8
  enc : List UInt8
  alone : List UInt8
def DeclL.cells (d : DeclL) : Array Value := #[.bool d.has, .string ⟨d.ver.toArray⟩, .string ⟨d.enc.toArray⟩, .string ⟨d.alone.toArray⟩]
def noDecl : DeclL := ⟨false, [], [], []⟩
def verW : List UInt8 := [118, 101, 114, 115, 105, 111, 110]
def encW : List UInt8 := [101, 110, 99, 111, 100, 105, 110, 103]
def aloneW : List UInt8 := [115, 116, 97, 110, 100, 97, 108, 111, 110, 101]
/-- The end of a declaration. -/
def tailOut (l : List UInt8) (d : DeclL) (i : Nat) : DeclL × Nat × Nat := if [63, 62].isPrefixOf (l.drop (blankTo l i)) = true then (d, blankTo l i + 2, 0) else (noDecl, 0, 7)
def readAlone (l : List UInt8) (v e : List UInt8) (i : Nat) : DeclL × Nat × Nat := match partOut aloneW aloneB l i with
  | none => (noDecl, 0, 7)
  | some (a, j) => tailOut l ⟨true, v, e, a⟩ j
def readEnc (text : Bool) (l : List UInt8) (v : List UInt8) (i : Nat) : DeclL × Nat × Nat := match partOut encW encB l i with
  | none => (noDecl, 0, 7)
  | some (e, j) => if text = true then (if j = i then (noDecl, 0, 7) else tailOut l ⟨true, v, e, []⟩ j) else readAlone l v e j
def readDecl (text : Bool) (l : List UInt8) (k : Nat) : DeclL × Nat × Nat := match partOut verW verB l (k + 5) with
  | none => (noDecl, 0, 7)
  | some (v, j) => if j = k + 5 ∧ text = false then (noDecl, 0, 7) else readEnc text l v j
def declOut (text : Bool) (l : List UInt8) (k : Nat) : DeclL × Nat × Nat := if hasX l k = true then readDecl text l k else (noDecl, k, 0)
def declAt (text : Bool) (l : List UInt8) (at_ : Int) : DeclL × Nat × Nat := if at_ < 0 ∨ (l.length : Int) < at_ then (noDecl, 0, 3) else declOut text l at_.toNat
theorem quotedAt_next (l : List UInt8) (p : Nat) (h : (quotedAt l (p : Int)).2.2 = 0) : p < (quotedAt l (p : Int)).2.1 ∧ (quotedAt l (p : Int)).2.1 ≤ l.length := by
  unfold quotedAt at h ⊢
  split
  · rename_i h'
    rw [if_pos h'] at h
    cases h
  · rename_i h'
    rw [if_neg h'] at h
    rw [Int.toNat_natCast] at h ⊢
    unfold quotedOut at h ⊢
    cases hq : l[p]? with
    | none => rw [hq] at h; cases h
    | some q =>
      rw [hq] at h
      simp only at h ⊢
      have hpl : p < l.length := (List.getElem?_eq_some_iff.1 hq).1
      split
      · rename_i h2
        rw [if_pos h2] at h
        unfold quotedQ at h ⊢
        split
        · rename_i h3
          rw [if_pos h3] at h
          cases h
        · rename_i h3
          have := ix_lo q (l.drop (p + 1))
          rw [List.length_drop] at this
          simp only
          omega
      · rename_i h2
        rw [if_neg h2] at h
        cases h
/-- A part that is there ends behind its beginning, within the text. -/
theorem part_le {word : List UInt8} {may : List UInt8 → Bool} {l : List UInt8} {k : Nat} {s : List UInt8} {j : Nat} (hk : k ≤ l.length) (h : partOut word may l k = some (s, j)) : (j = k ∧ s = []) ∨ (k < j ∧ j ≤ l.length) := by
  by_cases h1 : blankTo l k = k
  · rw [part_none1 h1] at h
    cases h
    exact .inl ⟨rfl, rfl⟩
  · cases h2 : word.isPrefixOf (l.drop (blankTo l k)) with
    | false =>
      rw [part_none2 h2] at h
      cases h
      exact .inl ⟨rfl, rfl⟩
    | true =>
      rw [part_some h1 h2 rfl] at h
      split at h
      · split at h
        · rename_i h3 h4
          have hb := blankTo_le l k hk
          have hw := pre_len h2
          have hbw : blankTo l k + word.length ≤ l.length := by
            rcases hw with e | e
            · subst e; simp; exact hb.2
            · exact e
          have hb2 := blankTo_le l (blankTo l k + word.length) hbw
          have hil := (List.getElem?_eq_some_iff.1 h3).1
          have hb3 := blankTo_le l (blankTo l (blankTo l k + word.length) + 1) (by omega)
          have hq := quotedAt_next l _ h4.1
          simp only [Option.some.injEq, Prod.mk.injEq] at h
          obtain ⟨_, rfl⟩ := h
          right
          omega
        · cases h
      · cases h
theorem results_cell3 {P : Program} {fn : Func} {p u v : Tmp} {ty : TypeId} (h : fn.results = #[.cell p ty, .tmp u, .tmp v]) (tmps : Array Value) (w : World) (g : Nat) (t : TypeId) (cs : Array Value) (fr : Nat × Nat) (d : TypeDesc)
    (hp : tmps.getD p undef = .pointer (some ⟨g, 0, none⟩)) (hg : w.heap[g]? = some (.cells cs t fr))
    (hu : P.underlying ty = some d) (hd : (match d with | .struct _ | .array _ _ => true | _ => false) = true) (hi : (P.info? ty).map (·.size) = some cs.size) :
    (results fn tmps).run P w = .ok (.tuple #[.agg cs, tmps.getD u undef, tmps.getD v undef]) w := by
  have hp' : tmps[p]?.getD undef = .pointer (some ⟨g, 0, none⟩) := by simpa using hp
  simp [results, h, hp', asAddr, run_loadVar_row w g t ty cs fr d hg hu hd hi]
def declV (o : DeclL × Nat × Nat) : Value := .tuple #[.agg o.1.cells, .int .i64 (o.2.1 : Int), .int .i64 (o.2.2 : Int)]
theorem cells_size (d : DeclL) : d.cells.size = 4 := rfl
/-- While a declaration is read: the result's block, and the declaration's own. -/
def DJ (w W : World) (rs vs : Array Value) : Prop :=
  Below w.heap.size w W ∧ w.heap.size + 2 ≤ W.heap.size ∧ W.heap[w.heap.size]? = some (.cells rs 56) ∧ W.heap[w.heap.size + 1]? = some (.cells vs 56)
theorem DJ.kept {w W W' : World} {rs vs : Array Value} (h : DJ w W rs vs) (hb : Below W.heap.size W W') : DJ w W' rs vs :=
  ⟨h.1.trans (hb.mono h.1.size), by have := hb.size; have := h.2.1; omega, by rw [hb.block _ (by have := h.2.1; omega)]; exact h.2.2.1, by rw [hb.block _ (by have := h.2.1; omega)]; exact h.2.2.2⟩
theorem DJ.set {w W : World} {rs vs : Array Value} (h : DJ w W rs vs) (i : Nat) (v : Value) : DJ w (W.setCell ⟨w.heap.size + 1, i, none⟩ v) rs (vs.setIfInBounds i v) :=
  ⟨h.1.setCell (p := ⟨w.heap.size + 1, i, none⟩) (Nat.le_succ _) v, by simpa using h.2.1, by rw [hp_other (by omega)]; exact h.2.2.1, hp_set h.2.2.2⟩
set_option maxRecDepth 100000 in
set_option maxHeartbeats 4000000 in
theorem refReadDecl_range (text : Bool) (A : Option Addr) (n cap : Nat) (at_ : Int) (w : World) (ha : at_ < 0 ∨ (n : Int) < at_) :
    Calls Tryd.prog 24 #[.slice A n cap, .int .i64 at_, .bool text] w fun e w' => e = .returned (declV (noDecl, 0, 3)) ∧ Below w.heap.size w w' := by
  have hF := Lib.hid (hp_new w (.cells #[.bool false, .string ⟨#[]⟩, .string ⟨#[]⟩, .string ⟨#[]⟩] 56))
  have hb := Lib.hid (Below.alloc (Below.refl w.heap.size w) (Nat.le_refl _) (.cells #[.bool false, .string ⟨#[]⟩, .string ⟨#[]⟩, .string ⟨#[]⟩] 56))
  have hi : (Tryd.prog.info? 56).map (·.size) = some 4 := by kernel_rfl
  obtain ⟨d, hu⟩ := isStruct_of (P := Tryd.prog) (t := 56) (by kernel_rfl)
  have HU := Lib.hid (And.intro hi hu)
  clear hi hu
  by_cases h0 : at_ < 0
  · have hd : decide (at_ < 0) = true := by simpa using h0
    clear ha
    go_enter Tryd.func24, Tryd.ntmps24
    go_wp2
    (try simp only [Exit.inBlock, Exit.then])
    exact bodyPost_ret (results_cell3 rfl _ _ w.heap.size _ _ _ _ rfl hF.out HU.out.2 rfl HU.out.1) rfl ⟨rfl, hb.out⟩
  · have h1 : (n : Int) < at_ := by omega
    clear ha
    go_enter Tryd.func24, Tryd.ntmps24
    go_wp2
    (try simp only [Exit.inBlock, Exit.then])
    exact bodyPost_ret (results_cell3 rfl _ _ w.heap.size _ _ _ _ rfl hF.out HU.out.2 rfl HU.out.1) rfl ⟨rfl, hb.out⟩
set_option maxRecDepth 100000 in
set_option maxHeartbeats 4000000 in
theorem refReadDecl_no (text : Bool) (A : Option Addr) (n cap : Nat) (l : List UInt8) (k : Nat) (w : World) (h : Byt w w.heap.size A n cap l) (hm : n ≤ 40000) (hk : k ≤ n) (hx : hasX l k = false) :
    Calls Tryd.prog 24 #[.slice A n cap, .int .i64 k, .bool text] w fun e w' => e = .returned (declV (noDecl, k, 0)) ∧ Below w.heap.size w w' := by
  have hF := Lib.hid (hp_new w (.cells #[.bool false, .string ⟨#[]⟩, .string ⟨#[]⟩, .string ⟨#[]⟩] 56))
  have hb := Lib.hid (Below.alloc (Below.refl w.heap.size w) (Nat.le_refl _) (.cells #[.bool false, .string ⟨#[]⟩, .string ⟨#[]⟩, .string ⟨#[]⟩] 56))
  have hi : (Tryd.prog.info? 56).map (·.size) = some 4 := by kernel_rfl
  obtain ⟨d, hu⟩ := isStruct_of (P := Tryd.prog) (t := 56) (by kernel_rfl)
  have HU := Lib.hid (And.intro hi hu)
  have C1 := Lib.hid (refHas_in A n cap l k _ _ (h.below hb.out) (by omega) hk)
  rw [hx] at C1
  have hk' : ¬ (n : Int) < (k : Int) := by omega
  have hk0 : (0 : Int) ≤ (k : Int) := by omega
  clear hi hu h hx
  go_enter Tryd.func24, Tryd.ntmps24
  go_wp2_with fail
  refine (C1.out).mono ?_
  rintro e wq ⟨rfl, rfl⟩
  go_wp2
  (try simp only [Exit.inBlock, Exit.then])
  exact bodyPost_ret (results_cell3 rfl _ _ w.heap.size _ _ _ _ rfl hF.out HU.out.2 rfl HU.out.1) rfl ⟨rfl, hb.out⟩
theorem DJ.row {w W : World} {rs vs : Array Value} (h : DJ w W rs vs) (cs : Array Value) : DJ w (W.setRow w.heap.size cs) cs vs := by
  have hlt : w.heap.size < W.heap.size := by have := h.2.1; omega
  refine ⟨⟨h.1.os, h.1.tape, h.1.output, ?_, fun k hk => ?_⟩, ?_, setRow_heap _ _ _ _ _ _ h.2.2.1, ?_⟩
  · have := h.1.size; simpa [World.setRow] using this
  · rw [setRow_other _ _ _ _ (by omega)]; exact h.1.block k hk
  · have := h.2.1; simpa [World.setRow] using this
  · rw [setRow_other _ _ _ _ (by omega)]; exact h.2.2.2
theorem DJ.store {w W : World} {rs vs : Array Value} (h : DJ w W rs vs) (hr : rs.size = 4) (cs : Array Value) (hc : cs.size = 4) (h1 : cs.all (·.oneCell') = true) : (storeVar 56 ⟨w.heap.size, 0, none⟩ (.agg cs)).run Tryd.prog W = .ok () (W.setRow w.heap.size cs) :=
  run_storeVar_row W w.heap.size 56 56 rs cs h.2.2.1 (by rw [hc]; kernel_rfl) (by rw [hr, hc]) h1
set_option maxRecDepth 100000 in
set_option maxHeartbeats 4000000 in
theorem refReadDecl_none (text : Bool) (A : Option Addr) (n cap : Nat) (l : List UInt8) (k : Nat) (w : World) (h : Byt w w.heap.size A n cap l) (hm : n ≤ 40000) (hk : k ≤ n) (hx : hasX l k = true) (ho : partOut verW verB l (k + 5) = none) :
    Calls Tryd.prog 24 #[.slice A n cap, .int .i64 k, .bool text] w fun e w' => e = .returned (declV (noDecl, 0, 7)) ∧ Below w.heap.size w w' := by
  have hb := Below.alloc (Below.refl w.heap.size w) (Nat.le_refl _) (.cells #[.bool false, .string ⟨#[]⟩, .string ⟨#[]⟩, .string ⟨#[]⟩] 56)
  have hkl : k + 5 ≤ n := by
    have := h.length
    unfold hasX at hx
    simp only [Bool.and_eq_true] at hx
    have := pre_len hx.1
    simp at this
    omega
  have hJ : DJ w ((w.alloc (.cells #[.bool false, .string ⟨#[]⟩, .string ⟨#[]⟩, .string ⟨#[]⟩] 56)).alloc (.cells #[.bool true, .string ⟨#[]⟩, .string ⟨#[]⟩, .string ⟨#[]⟩] 56)) #[.bool false, .string ⟨#[]⟩, .string ⟨#[]⟩, .string ⟨#[]⟩] #[.bool true, .string ⟨#[]⟩, .string ⟨#[]⟩, .string ⟨#[]⟩] :=
    ⟨hb.alloc hb.size _, by simp, hp_old (hp_new _ _), by have := hp_new (w.alloc (.cells #[.bool false, .string ⟨#[]⟩, .string ⟨#[]⟩, .string ⟨#[]⟩] 56)) (.cells #[.bool true, .string ⟨#[]⟩, .string ⟨#[]⟩, .string ⟨#[]⟩] 56); rwa [World.size_alloc] at this⟩
  have hi : (Tryd.prog.info? 56).map (·.size) = some 4 := by kernel_rfl
  obtain ⟨d, hu⟩ := isStruct_of (P := Tryd.prog) (t := 56) (by kernel_rfl)
  have HU := Lib.hid (And.intro hi hu)
  have C1 := Lib.hid (refHas_in A n cap l k _ _ (h.below hb) (by omega) hk)
  rw [hx] at C1
  have C2 := Lib.hid (refPart0_c A n cap l (k + 5) _ ((h.below hJ.1).more hJ.1.size) hm hkl)
  rw [show partOut [118, 101, 114, 115, 105, 111, 110] verB l (k + 5) = none from ho, show ((k + 5 : Nat) : Int) = (k : Int) + 5 by omega] at C2
  unfold partV at C2
  have HJ := Lib.hid hJ
  have hk' : ¬ (n : Int) < (k : Int) := by omega
  have hk0 : (0 : Int) ≤ (k : Int) := by omega
  have hk1 : (k : Int) ≤ 40000 := by omega
  clear hi hu h hx hb hJ ho
  go_enter Tryd.func24, Tryd.ntmps24
  go_wp2_with fail
  refine (C1.out).mono ?_
  rintro e wq ⟨rfl, rfl⟩
  go_wp2
  refine wp_loop_rounds 4 ?_
  rw [rounds_succ]
  go_wp2_with fail
  refine (C2.out).mono ?_
  rintro e w1 ⟨rfl, hb1⟩
  have J1 := Lib.hid (HJ.out.kept hb1)
  clear hb1
  have J2 := Lib.hid (J1.out.row #[.bool false, .string ⟨#[]⟩, .string ⟨#[]⟩, .string ⟨#[]⟩])
  go_wp2_with (refine wpList_store_row rfl _ _ _ rfl w.heap.size #[.bool false, .string ⟨#[]⟩, .string ⟨#[]⟩, .string ⟨#[]⟩] rfl rfl _ _ J1.out.2.2.1 (by kernel_rfl) rfl (by kernel_rfl) ?_)
  all_goals
    (try simp only [Exit.inBlock, Exit.then])
    exact bodyPost_ret (results_cell3 rfl _ _ w.heap.size _ _ _ _ rfl J2.out.2.2.1 HU.out.2 rfl HU.out.1) rfl ⟨rfl, J2.out.1⟩
end Go.Proofs.YtcpljjajobfkkaaDoor
