/- Texts of ours, joined: Utf2. -/
import Derived.Test.YtgenpgfhjhcahaaGreatDoorRows
import Derived.WalkKit
import Derived.ProofKit
import Derived.OpenShut
import Derived.ShutString
import Derived.ChangeOld
import Derived.Below
import Derived.BigQuiet
import Derived.Deep.QuietTactic
import Derived.Lib.Hide
import Derived.Deep.RegionHeld3
import Derived.Lib.SlBytesConst
import Derived.Laws.CopyOwn
import Derived.Laws.CopyRow
import Derived.Lib.Bytes
import Derived.Deep.LoopGhost
import Derived.Deep.DeepFit
import Derived.Deep.DeepMust
import Derived.WalkSpells
import Derived.WalkLawsBesides
import Derived.Test.YtgenpgfhjhcahaaGreatDoorQ1
import Derived.Test.YtgenpgfhjhcahaaGreatDoorQ2
/- utf.Decode at every start. -/
namespace Go.Proofs.YtgenpgfhjhcahaaGreatDoor
open Go.ChangeShapes Go.WideShapes Go.ChangeAt Go.RowKit
set_option linter.unusedVariables false
/-- The table of how many bytes a character has, as memory holds it. -/
def formsRow : List Value := [.int .u8 0, .int .u8 0, .int .i64 0, .int .u8 0, .int .u8 127, .int .i64 0, .int .u8 192, .int .u8 31, .int .i64 128, .int .u8 224, .int .u8 15, .int .i64 2048, .int .u8 240, .int .u8 7, .int .i64 65536]
def Forms (w : World) : Prop := ∀ i u, formsRow[i]? = some u → w.cell? ⟨10, i, none⟩ = some u
theorem Forms.lt {w : World} (h : Forms w) : 10 < w.heap.size := World.block_lt_of_cell? w _ (h 0 _ rfl)
theorem Forms.below {w w' : World} {B : Nat} (h : Forms w) (hb : Below B w w') (hB : 10 < B) : Forms w' := fun i u hu => by rw [hb.cell hB]; exact h i u hu
theorem bits192 : ∀ x : Fin 256, (bits .and .u8 (x.val : Int) 192 != 128) = !(decide (128 ≤ x.val) && decide (x.val < 192)) := by decide +kernel
theorem bits192' (y : UInt8) : (bits .and .u8 (y.toNat : Int) 192 != 128) = !(decide (128 ≤ y.toNat) && decide (y.toNat < 192)) := bits192 ⟨y.toNat, y.toNat_lt⟩
theorem bits6 (r x : Nat) (hx : x < 64) (hr : r < 67108864) : bits .or .i64 ((r : Int) * 64) (x : Int) = ((r * 64 + x : Nat) : Int) := by
  have := bits_join .i64 62 (by decide) (fun n h0 h1 => by rw [IntKind.wrap_i64]; omega) 6 ((r : Int) * 64) (x : Int) (by omega) (by omega) (by omega) (by omega) (by omega) (by omega)
  omega
def decOut (at_ : Nat) : Option (Nat × Nat) → Value
  | some (r, n) => .tuple #[.int .i64 r, .int .i64 ((at_ + n : Nat) : Int), .int .i64 0]
  | none => .tuple #[.int .i64 0, .int .i64 0, .int .i64 5]

theorem dec_at (l : List UInt8) (k : Nat) (c : UInt8) (hc : l[k]? = some c) (N : Nat) (hl : lenB c.toNat = N) (hN : 1 ≤ N) (hs : k + N ≤ l.length) :
    dec (l.drop k) = match cont (msk N c.toNat) ((l.drop (k + 1)).take (N - 1)) with
      | some r => if least N ≤ r ∧ isR r = true then some (r, N) else none
      | none => none := by
  have hk : k < l.length := by
    rcases Nat.lt_or_ge k l.length with h | h
    · exact h
    · rw [List.getElem?_eq_none h] at hc; cases hc
  rw [List.getElem?_eq_getElem hk] at hc
  rw [List.drop_eq_getElem_cons hk, Option.some.inj hc]
  simp only [dec, hl]
  rw [if_neg (by simp; omega)]
  rfl
theorem cont_snoc (t : List UInt8) (y : UInt8) : ∀ m, cont m (t ++ [y]) = match cont m t with
      | some r => if 128 ≤ y.toNat ∧ y.toNat < 192 then some (r * 64 + (y.toNat - 128)) else none
      | none => none := by
  induction t with
  | nil => intro m; simp [cont]
  | cons c t ih =>
    intro m
    simp only [List.cons_append, cont]
    split
    · exact ih _
    · rfl
theorem cont_none (t u : List UInt8) : ∀ m, cont m t = none → cont m (t ++ u) = none := by
  induction t with
  | nil => intro m h; simp [cont] at h
  | cons c t ih =>
    intro m h
    simp only [List.cons_append, cont] at h ⊢
    split
    · rename_i hc; rw [if_pos hc] at h; exact ih _ h
    · rfl

set_option maxRecDepth 100000 in
set_option maxHeartbeats 2000000 in
theorem decode_1 (A : Option Addr) (n cap : Nat) (l : List UInt8) (k : Nat) (w : World) (B : Nat) (h : Byt w B A n cap l) (hF : Forms w) (hk : k < n) (hm : n ≤ 1100000) (c : UInt8) (hc : l[k]? = some c) (hl : lenB c.toNat = 1) (hs : k + 1 ≤ n) :
    Calls Tryz.prog 199 #[.slice A n cap, .int .i64 k] w fun e w' => e = .returned (decOut k (dec (l.drop k))) ∧ ∃ q, w' = w.drewN q := by
  have hd := dec_at l k c hc 1 hl (by decide) (by rw [h.length]; exact hs)
  obtain ⟨b, o, c', rfl, hb, hc', hcell⟩ := h.cell hk
  obtain rfl : c' = c := by rw [hc] at hc'; exact (Option.some.inj hc').symm
  have hcap := h.le
  have hL := Lib.hid hl
  have hln := Lib.hid h.length
  have hD := Lib.hid hd
  have c1 := hF (1 * 3 + 1) _ rfl
  have c2 := hF (1 * 3 + 2) _ rfl
  simp only [Nat.reduceMul, Nat.reduceAdd] at c1 c2
  have hu : bits .and .u8 (c'.toNat : Int) 127 = ((c'.toNat % 128 : Nat) : Int) := (bits_mask .u8 8 (by decide) wraps_u8 7 (by decide) (c'.toNat : Int) (by omega) (by have := c'.toNat_lt; omega)).trans (by omega)
  have hmk : msk 1 c'.toNat = c'.toNat % 128 := rfl
  have hmb : c'.toNat % 128 < 128 := by omega
  rw [hmk] at hD
  generalize hTd : (l.drop (k + 1)).take (1 - 1) = T at *
  generalize c'.toNat % 128 = m0 at *
  have hm0 : m0 ≤ 127 := by omega
  clear hl hc hc' hd hmb hmk
  have hkn : (k : Int) < (n : Int) := by omega
  have hmn : ¬ (n : Int) - (k : Int) < 1 := by omega
  rcases (show cap = k + 1 ∨ ¬ cap = k + 1 by omega) with hce | hce
  all_goals
  go_enter Tryz.func199, Tryz.ntmps199
  go_wp2_with fail
  refine (length_c c' w).mono ?_
  rintro e w1 ⟨rfl, rfl⟩
  rw [hL.out]
  go_wp2_with fail
  go_quiet (fail)
  clear hu
  have c2q : (w.drewN nq).cell? ⟨10, 5, none⟩ = _ := c2
  have hq : Byt (w.drewN nq) B (some ⟨b, o, none⟩) n cap l := h.drewN
  have HQ := Lib.hid (show w.drewN nq = w.drewN nq from rfl)
  clear c1 c2 hcell h hF
  generalize hwq : w.drewN nq = wq at *
  have HW := Lib.hid hwq
  clear hwq HQ
  have HT : Hid ((∀ j, j < 0 → T[j]? = l[k + 1 + j]?) ∧ T.length = 0) := by
    rw [← hTd]
    refine ⟨fun j hj => by rw [List.getElem?_take_of_lt hj, List.getElem?_drop], by rw [List.length_take, List.length_drop, hln.out]; omega⟩
  go_wp2_with fail
  go_loopg [4, 9, 51] (0) (fun g r _ i wr => ∃ (j x : Nat), j ≤ 0 ∧ g = 0 - j ∧ i = .int .i64 j ∧ r = .int .i64 x ∧ cont m0 (T.take j) = some x ∧ x < 128 * 64 ^ j ∧ wq = wr)
  case atStart => exact ⟨0, m0, Nat.zero_le _, rfl, rfl, rfl, rfl, by omega, rfl⟩
  case round =>
    obtain ⟨j, x, hj, rfl, rfl, rfl, hco, hxb, rfl⟩ := hrel
    have hxb2 : x < 33554432 := Nat.lt_of_lt_of_le hxb (by
      have : 64 ^ j ≤ 64 ^ 3 := Nat.pow_le_pow_right (by decide) (by omega)
      omega)
    have hx0 : (0 : Int) ≤ (x : Int) := by omega
    have hx1 : (x : Int) < 33554432 := by omega
    have HCO := Lib.hid (And.intro hco hxb)
    clear hco hxb
    by_cases hlt : j < 0
    · exact absurd hlt (Nat.not_lt_zero _)
    · have hje : j = 0 := by omega
      subst hje
      have hTT : T.take 0 = T := List.take_of_length_le (by rw [HT.out.2]; exact Nat.le_refl _)
      have hfin : cont m0 T = some x := by rw [← hTT]; exact HCO.out.1
      have HN := Lib.hid hfin
      clear hfin hTT
      by_cases hle : x < 0
      · exact absurd hle (by omega)
      · have hle' : ¬ (x : Int) < 0 := by omega
        cases his : isR x with
        | true =>
          have hres : dec (l.drop k) = some (x, 1) := by 
            rw [hD.out, HN.out]
            exact if_pos ⟨show 0 ≤ x by omega, his⟩
          have HR := Lib.hid (And.intro hres his)
          clear hres his
          go_wp2_with fail
          refine (utfIs_c x _).mono ?_
          rintro e w2 ⟨rfl, rfl⟩
          rw [HR.out.2]
          go_wp2
          go_ret3
          exact ⟨by rw [HR.out.1]; rfl, nq, HW.out.symm⟩
        | false =>
          have hres : dec (l.drop k) = none := by 
            rw [hD.out, HN.out]
            exact if_neg (fun h => by rw [his] at h; cases h.2)
          have HR := Lib.hid (And.intro hres his)
          clear hres his
          go_wp2_with fail
          refine (utfIs_c x _).mono ?_
          rintro e w2 ⟨rfl, rfl⟩
          rw [HR.out.2]
          go_wp2
          go_ret3
          exact ⟨by rw [HR.out.1]; rfl, nq, HW.out.symm⟩

set_option maxRecDepth 100000 in
set_option maxHeartbeats 2000000 in
theorem decode_2 (A : Option Addr) (n cap : Nat) (l : List UInt8) (k : Nat) (w : World) (B : Nat) (h : Byt w B A n cap l) (hF : Forms w) (hk : k < n) (hm : n ≤ 1100000) (c : UInt8) (hc : l[k]? = some c) (hl : lenB c.toNat = 2) (hs : k + 2 ≤ n) :
    Calls Tryz.prog 199 #[.slice A n cap, .int .i64 k] w fun e w' => e = .returned (decOut k (dec (l.drop k))) ∧ ∃ q, w' = w.drewN q := by
  have hd := dec_at l k c hc 2 hl (by decide) (by rw [h.length]; exact hs)
  obtain ⟨b, o, c', rfl, hb, hc', hcell⟩ := h.cell hk
  obtain rfl : c' = c := by rw [hc] at hc'; exact (Option.some.inj hc').symm
  have hcap := h.le
  have hL := Lib.hid hl
  have hln := Lib.hid h.length
  have hD := Lib.hid hd
  have c1 := hF (2 * 3 + 1) _ rfl
  have c2 := hF (2 * 3 + 2) _ rfl
  simp only [Nat.reduceMul, Nat.reduceAdd] at c1 c2
  have hu : bits .and .u8 (c'.toNat : Int) 31 = ((c'.toNat % 32 : Nat) : Int) := (u8_and31 (x := (c'.toNat : Int)) (by omega) (by have := c'.toNat_lt; omega)).trans (by omega)
  have hmk : msk 2 c'.toNat = c'.toNat % 32 := rfl
  have hmb : c'.toNat % 32 < 128 := by omega
  rw [hmk] at hD
  generalize hTd : (l.drop (k + 1)).take (2 - 1) = T at *
  generalize c'.toNat % 32 = m0 at *
  have hm0 : m0 ≤ 127 := by omega
  clear hl hc hc' hd hmb hmk
  have hkn : (k : Int) < (n : Int) := by omega
  have hmn : ¬ (n : Int) - (k : Int) < 2 := by omega
  go_enter Tryz.func199, Tryz.ntmps199
  go_wp2_with fail
  refine (length_c c' w).mono ?_
  rintro e w1 ⟨rfl, rfl⟩
  rw [hL.out]
  go_wp2_with fail
  go_quiet (fail)
  clear hu
  have c2q : (w.drewN nq).cell? ⟨10, 8, none⟩ = _ := c2
  have hq : Byt (w.drewN nq) B (some ⟨b, o, none⟩) n cap l := h.drewN
  have HQ := Lib.hid (show w.drewN nq = w.drewN nq from rfl)
  clear c1 c2 hcell h hF
  generalize hwq : w.drewN nq = wq at *
  have HW := Lib.hid hwq
  clear hwq HQ
  have HT : Hid ((∀ j, j < 1 → T[j]? = l[k + 1 + j]?) ∧ T.length = 1) := by
    rw [← hTd]
    refine ⟨fun j hj => by rw [List.getElem?_take_of_lt hj, List.getElem?_drop], by rw [List.length_take, List.length_drop, hln.out]; omega⟩
  go_wp2_with fail
  go_loopg [4, 9, 51] (1) (fun g r _ i wr => ∃ (j x : Nat), j ≤ 1 ∧ g = 1 - j ∧ i = .int .i64 j ∧ r = .int .i64 x ∧ cont m0 (T.take j) = some x ∧ x < 128 * 64 ^ j ∧ wq = wr)
  case atStart => exact ⟨0, m0, Nat.zero_le _, rfl, rfl, rfl, rfl, by omega, rfl⟩
  case round =>
    obtain ⟨j, x, hj, rfl, rfl, rfl, hco, hxb, rfl⟩ := hrel
    have hxb2 : x < 33554432 := Nat.lt_of_lt_of_le hxb (by
      have : 64 ^ j ≤ 64 ^ 3 := Nat.pow_le_pow_right (by decide) (by omega)
      omega)
    have hx0 : (0 : Int) ≤ (x : Int) := by omega
    have hx1 : (x : Int) < 33554432 := by omega
    have HCO := Lib.hid (And.intro hco hxb)
    clear hco hxb
    by_cases hlt : j < 1
    · obtain ⟨b', o', y, e, _, hy, hcy⟩ := hq.cell (i := k + 1 + j) (by omega)
      cases e
      have hcy' : wq.cell? ⟨b, o + (k + 1) + j, none⟩ = some (.int .u8 (y.toNat : Int)) := by rw [Nat.add_assoc]; exact hcy
      have hTj : T.take (j + 1) = T.take j ++ [y] := take_snoc T j y (by rw [HT.out.1 j hlt]; exact hy)
      have hyl := y.toNat_lt
      by_cases hcon : 128 ≤ y.toNat ∧ y.toNat < 192
      · have ht : (bits .and .u8 (y.toNat : Int) 192 != 128) = false := by rw [bits192']; simp [hcon.1, hcon.2]
        have hu : bits .and .u8 (y.toNat : Int) 63 = ((y.toNat - 128 : Nat) : Int) := (u8_and63 (x := (y.toNat : Int)) (by omega) (by omega)).trans (by omega)
        have ho := bits6 x (y.toNat - 128) (by omega) (by omega)
        have hcs := cont_snoc (T.take j) y m0
        rw [HCO.out.1, ← hTj] at hcs
        simp only [hcon, and_self, if_true] at hcs
        have hb2 : x * 64 + (y.toNat - 128) < 128 * 64 ^ (j + 1) := by
          have := HCO.out.2
          rw [Nat.pow_succ]
          omega
        have HS := Lib.hid (And.intro hcs hb2)
        have hyb : y.toNat - 128 < 64 := by omega
        generalize y.toNat - 128 = z at *
        have hsh : IntKind.i64.wrap ((x : Int) * 64) = (x : Int) * 64 := by rw [IntKind.wrap_i64]; omega
        have HX := Lib.hid (And.intro hxb2 (And.intro hx0 hx1))
        clear hcs hb2 hTj hy hcon hcy hxb2 hx0 hx1
        go_wp2
        go_roundg (1 - (j + 1))
        case measure => omega
        case rel => exact ⟨j + 1, _, by omega, rfl, rfl, rfl, HS.out.1, HS.out.2, rfl⟩
      · have ht : (bits .and .u8 (y.toNat : Int) 192 != 128) = true := by
          rw [bits192']
          by_cases h1 : 128 ≤ y.toNat
          · have : ¬ y.toNat < 192 := fun h2 => hcon ⟨h1, h2⟩
            simp [this]
          · simp [h1]
        have hcs := cont_snoc (T.take j) y m0
        rw [HCO.out.1, ← hTj] at hcs
        simp only [hcon, if_false] at hcs
        have hno : cont m0 T = none := by
          have e : T = T.take (j + 1) ++ T.drop (j + 1) := (List.take_append_drop _ _).symm
          rw [e]; exact cont_none _ _ _ hcs
        have HN := Lib.hid hno
        have HX := Lib.hid (And.intro hxb2 (And.intro hx0 hx1))
        clear hno hcs hTj hy hcon hcy hxb2 hx0 hx1
        go_wp2
        go_ret3
        exact ⟨by rw [hD.out, HN.out]; rfl, nq, HW.out.symm⟩
    · have hje : j = 1 := by omega
      subst hje
      have hTT : T.take 1 = T := List.take_of_length_le (by rw [HT.out.2]; exact Nat.le_refl _)
      have hfin : cont m0 T = some x := by rw [← hTT]; exact HCO.out.1
      have HN := Lib.hid hfin
      clear hfin hTT
      by_cases hle : x < 128
      · have hle' : (x : Int) < 128 := by omega
        have hres : dec (l.drop k) = none := by
          rw [hD.out, HN.out]
          exact if_neg (fun h => absurd (show 128 ≤ x from h.1) (by omega))
        have HR := Lib.hid hres
        clear hres
        go_wp2
        go_ret3
        exact ⟨by rw [HR.out]; rfl, nq, HW.out.symm⟩
      · have hle' : ¬ (x : Int) < 128 := by omega
        cases his : isR x with
        | true =>
          have hres : dec (l.drop k) = some (x, 2) := by 
            rw [hD.out, HN.out]
            exact if_pos ⟨show 128 ≤ x by omega, his⟩
          have HR := Lib.hid (And.intro hres his)
          clear hres his
          go_wp2_with fail
          refine (utfIs_c x _).mono ?_
          rintro e w2 ⟨rfl, rfl⟩
          rw [HR.out.2]
          go_wp2
          go_ret3
          exact ⟨by rw [HR.out.1]; rfl, nq, HW.out.symm⟩
        | false =>
          have hres : dec (l.drop k) = none := by 
            rw [hD.out, HN.out]
            exact if_neg (fun h => by rw [his] at h; cases h.2)
          have HR := Lib.hid (And.intro hres his)
          clear hres his
          go_wp2_with fail
          refine (utfIs_c x _).mono ?_
          rintro e w2 ⟨rfl, rfl⟩
          rw [HR.out.2]
          go_wp2
          go_ret3
          exact ⟨by rw [HR.out.1]; rfl, nq, HW.out.symm⟩

set_option maxRecDepth 100000 in
set_option maxHeartbeats 2000000 in
theorem decode_3 (A : Option Addr) (n cap : Nat) (l : List UInt8) (k : Nat) (w : World) (B : Nat) (h : Byt w B A n cap l) (hF : Forms w) (hk : k < n) (hm : n ≤ 1100000) (c : UInt8) (hc : l[k]? = some c) (hl : lenB c.toNat = 3) (hs : k + 3 ≤ n) :
    Calls Tryz.prog 199 #[.slice A n cap, .int .i64 k] w fun e w' => e = .returned (decOut k (dec (l.drop k))) ∧ ∃ q, w' = w.drewN q := by
  have hd := dec_at l k c hc 3 hl (by decide) (by rw [h.length]; exact hs)
  obtain ⟨b, o, c', rfl, hb, hc', hcell⟩ := h.cell hk
  obtain rfl : c' = c := by rw [hc] at hc'; exact (Option.some.inj hc').symm
  have hcap := h.le
  have hL := Lib.hid hl
  have hln := Lib.hid h.length
  have hD := Lib.hid hd
  have c1 := hF (3 * 3 + 1) _ rfl
  have c2 := hF (3 * 3 + 2) _ rfl
  simp only [Nat.reduceMul, Nat.reduceAdd] at c1 c2
  have hu : bits .and .u8 (c'.toNat : Int) 15 = ((c'.toNat % 16 : Nat) : Int) := (u8_and15 (x := (c'.toNat : Int)) (by omega) (by have := c'.toNat_lt; omega)).trans (by omega)
  have hmk : msk 3 c'.toNat = c'.toNat % 16 := rfl
  have hmb : c'.toNat % 16 < 128 := by omega
  rw [hmk] at hD
  generalize hTd : (l.drop (k + 1)).take (3 - 1) = T at *
  generalize c'.toNat % 16 = m0 at *
  have hm0 : m0 ≤ 127 := by omega
  clear hl hc hc' hd hmb hmk
  have hkn : (k : Int) < (n : Int) := by omega
  have hmn : ¬ (n : Int) - (k : Int) < 3 := by omega
  go_enter Tryz.func199, Tryz.ntmps199
  go_wp2_with fail
  refine (length_c c' w).mono ?_
  rintro e w1 ⟨rfl, rfl⟩
  rw [hL.out]
  go_wp2_with fail
  go_quiet (fail)
  clear hu
  have c2q : (w.drewN nq).cell? ⟨10, 11, none⟩ = _ := c2
  have hq : Byt (w.drewN nq) B (some ⟨b, o, none⟩) n cap l := h.drewN
  have HQ := Lib.hid (show w.drewN nq = w.drewN nq from rfl)
  clear c1 c2 hcell h hF
  generalize hwq : w.drewN nq = wq at *
  have HW := Lib.hid hwq
  clear hwq HQ
  have HT : Hid ((∀ j, j < 2 → T[j]? = l[k + 1 + j]?) ∧ T.length = 2) := by
    rw [← hTd]
    refine ⟨fun j hj => by rw [List.getElem?_take_of_lt hj, List.getElem?_drop], by rw [List.length_take, List.length_drop, hln.out]; omega⟩
  go_wp2_with fail
  go_loopg [4, 9, 51] (2) (fun g r _ i wr => ∃ (j x : Nat), j ≤ 2 ∧ g = 2 - j ∧ i = .int .i64 j ∧ r = .int .i64 x ∧ cont m0 (T.take j) = some x ∧ x < 128 * 64 ^ j ∧ wq = wr)
  case atStart => exact ⟨0, m0, Nat.zero_le _, rfl, rfl, rfl, rfl, by omega, rfl⟩
  case round =>
    obtain ⟨j, x, hj, rfl, rfl, rfl, hco, hxb, rfl⟩ := hrel
    have hxb2 : x < 33554432 := Nat.lt_of_lt_of_le hxb (by
      have : 64 ^ j ≤ 64 ^ 3 := Nat.pow_le_pow_right (by decide) (by omega)
      omega)
    have hx0 : (0 : Int) ≤ (x : Int) := by omega
    have hx1 : (x : Int) < 33554432 := by omega
    have HCO := Lib.hid (And.intro hco hxb)
    clear hco hxb
    by_cases hlt : j < 2
    · obtain ⟨b', o', y, e, _, hy, hcy⟩ := hq.cell (i := k + 1 + j) (by omega)
      cases e
      have hcy' : wq.cell? ⟨b, o + (k + 1) + j, none⟩ = some (.int .u8 (y.toNat : Int)) := by rw [Nat.add_assoc]; exact hcy
      have hTj : T.take (j + 1) = T.take j ++ [y] := take_snoc T j y (by rw [HT.out.1 j hlt]; exact hy)
      have hyl := y.toNat_lt
      by_cases hcon : 128 ≤ y.toNat ∧ y.toNat < 192
      · have ht : (bits .and .u8 (y.toNat : Int) 192 != 128) = false := by rw [bits192']; simp [hcon.1, hcon.2]
        have hu : bits .and .u8 (y.toNat : Int) 63 = ((y.toNat - 128 : Nat) : Int) := (u8_and63 (x := (y.toNat : Int)) (by omega) (by omega)).trans (by omega)
        have ho := bits6 x (y.toNat - 128) (by omega) (by omega)
        have hcs := cont_snoc (T.take j) y m0
        rw [HCO.out.1, ← hTj] at hcs
        simp only [hcon, and_self, if_true] at hcs
        have hb2 : x * 64 + (y.toNat - 128) < 128 * 64 ^ (j + 1) := by
          have := HCO.out.2
          rw [Nat.pow_succ]
          omega
        have HS := Lib.hid (And.intro hcs hb2)
        have hyb : y.toNat - 128 < 64 := by omega
        generalize y.toNat - 128 = z at *
        have hsh : IntKind.i64.wrap ((x : Int) * 64) = (x : Int) * 64 := by rw [IntKind.wrap_i64]; omega
        have HX := Lib.hid (And.intro hxb2 (And.intro hx0 hx1))
        clear hcs hb2 hTj hy hcon hcy hxb2 hx0 hx1
        go_wp2
        go_roundg (2 - (j + 1))
        case measure => omega
        case rel => exact ⟨j + 1, _, by omega, rfl, rfl, rfl, HS.out.1, HS.out.2, rfl⟩
      · have ht : (bits .and .u8 (y.toNat : Int) 192 != 128) = true := by
          rw [bits192']
          by_cases h1 : 128 ≤ y.toNat
          · have : ¬ y.toNat < 192 := fun h2 => hcon ⟨h1, h2⟩
            simp [this]
          · simp [h1]
        have hcs := cont_snoc (T.take j) y m0
        rw [HCO.out.1, ← hTj] at hcs
        simp only [hcon, if_false] at hcs
        have hno : cont m0 T = none := by
          have e : T = T.take (j + 1) ++ T.drop (j + 1) := (List.take_append_drop _ _).symm
          rw [e]; exact cont_none _ _ _ hcs
        have HN := Lib.hid hno
        have HX := Lib.hid (And.intro hxb2 (And.intro hx0 hx1))
        clear hno hcs hTj hy hcon hcy hxb2 hx0 hx1
        go_wp2
        go_ret3
        exact ⟨by rw [hD.out, HN.out]; rfl, nq, HW.out.symm⟩
    · have hje : j = 2 := by omega
      subst hje
      have hTT : T.take 2 = T := List.take_of_length_le (by rw [HT.out.2]; exact Nat.le_refl _)
      have hfin : cont m0 T = some x := by rw [← hTT]; exact HCO.out.1
      have HN := Lib.hid hfin
      clear hfin hTT
      by_cases hle : x < 2048
      · have hle' : (x : Int) < 2048 := by omega
        have hres : dec (l.drop k) = none := by
          rw [hD.out, HN.out]
          exact if_neg (fun h => absurd (show 2048 ≤ x from h.1) (by omega))
        have HR := Lib.hid hres
        clear hres
        go_wp2
        go_ret3
        exact ⟨by rw [HR.out]; rfl, nq, HW.out.symm⟩
      · have hle' : ¬ (x : Int) < 2048 := by omega
        cases his : isR x with
        | true =>
          have hres : dec (l.drop k) = some (x, 3) := by 
            rw [hD.out, HN.out]
            exact if_pos ⟨show 2048 ≤ x by omega, his⟩
          have HR := Lib.hid (And.intro hres his)
          clear hres his
          go_wp2_with fail
          refine (utfIs_c x _).mono ?_
          rintro e w2 ⟨rfl, rfl⟩
          rw [HR.out.2]
          go_wp2
          go_ret3
          exact ⟨by rw [HR.out.1]; rfl, nq, HW.out.symm⟩
        | false =>
          have hres : dec (l.drop k) = none := by 
            rw [hD.out, HN.out]
            exact if_neg (fun h => by rw [his] at h; cases h.2)
          have HR := Lib.hid (And.intro hres his)
          clear hres his
          go_wp2_with fail
          refine (utfIs_c x _).mono ?_
          rintro e w2 ⟨rfl, rfl⟩
          rw [HR.out.2]
          go_wp2
          go_ret3
          exact ⟨by rw [HR.out.1]; rfl, nq, HW.out.symm⟩

set_option maxRecDepth 100000 in
set_option maxHeartbeats 2000000 in
theorem decode_4 (A : Option Addr) (n cap : Nat) (l : List UInt8) (k : Nat) (w : World) (B : Nat) (h : Byt w B A n cap l) (hF : Forms w) (hk : k < n) (hm : n ≤ 1100000) (c : UInt8) (hc : l[k]? = some c) (hl : lenB c.toNat = 4) (hs : k + 4 ≤ n) :
    Calls Tryz.prog 199 #[.slice A n cap, .int .i64 k] w fun e w' => e = .returned (decOut k (dec (l.drop k))) ∧ ∃ q, w' = w.drewN q := by
  have hd := dec_at l k c hc 4 hl (by decide) (by rw [h.length]; exact hs)
  obtain ⟨b, o, c', rfl, hb, hc', hcell⟩ := h.cell hk
  obtain rfl : c' = c := by rw [hc] at hc'; exact (Option.some.inj hc').symm
  have hcap := h.le
  have hL := Lib.hid hl
  have hln := Lib.hid h.length
  have hD := Lib.hid hd
  have c1 := hF (4 * 3 + 1) _ rfl
  have c2 := hF (4 * 3 + 2) _ rfl
  simp only [Nat.reduceMul, Nat.reduceAdd] at c1 c2
  have hu : bits .and .u8 (c'.toNat : Int) 7 = ((c'.toNat % 8 : Nat) : Int) := (u8_and7 (x := (c'.toNat : Int)) (by omega) (by have := c'.toNat_lt; omega)).trans (by omega)
  have hmk : msk 4 c'.toNat = c'.toNat % 8 := rfl
  have hmb : c'.toNat % 8 < 128 := by omega
  rw [hmk] at hD
  generalize hTd : (l.drop (k + 1)).take (4 - 1) = T at *
  generalize c'.toNat % 8 = m0 at *
  have hm0 : m0 ≤ 127 := by omega
  clear hl hc hc' hd hmb hmk
  have hkn : (k : Int) < (n : Int) := by omega
  have hmn : ¬ (n : Int) - (k : Int) < 4 := by omega
  go_enter Tryz.func199, Tryz.ntmps199
  go_wp2_with fail
  refine (length_c c' w).mono ?_
  rintro e w1 ⟨rfl, rfl⟩
  rw [hL.out]
  go_wp2_with fail
  go_quiet (fail)
  clear hu
  have c2q : (w.drewN nq).cell? ⟨10, 14, none⟩ = _ := c2
  have hq : Byt (w.drewN nq) B (some ⟨b, o, none⟩) n cap l := h.drewN
  have HQ := Lib.hid (show w.drewN nq = w.drewN nq from rfl)
  clear c1 c2 hcell h hF
  generalize hwq : w.drewN nq = wq at *
  have HW := Lib.hid hwq
  clear hwq HQ
  have HT : Hid ((∀ j, j < 3 → T[j]? = l[k + 1 + j]?) ∧ T.length = 3) := by
    rw [← hTd]
    refine ⟨fun j hj => by rw [List.getElem?_take_of_lt hj, List.getElem?_drop], by rw [List.length_take, List.length_drop, hln.out]; omega⟩
  go_wp2_with fail
  go_loopg [4, 9, 51] (3) (fun g r _ i wr => ∃ (j x : Nat), j ≤ 3 ∧ g = 3 - j ∧ i = .int .i64 j ∧ r = .int .i64 x ∧ cont m0 (T.take j) = some x ∧ x < 128 * 64 ^ j ∧ wq = wr)
  case atStart => exact ⟨0, m0, Nat.zero_le _, rfl, rfl, rfl, rfl, by omega, rfl⟩
  case round =>
    obtain ⟨j, x, hj, rfl, rfl, rfl, hco, hxb, rfl⟩ := hrel
    have hxb2 : x < 33554432 := Nat.lt_of_lt_of_le hxb (by
      have : 64 ^ j ≤ 64 ^ 3 := Nat.pow_le_pow_right (by decide) (by omega)
      omega)
    have hx0 : (0 : Int) ≤ (x : Int) := by omega
    have hx1 : (x : Int) < 33554432 := by omega
    have HCO := Lib.hid (And.intro hco hxb)
    clear hco hxb
    by_cases hlt : j < 3
    · obtain ⟨b', o', y, e, _, hy, hcy⟩ := hq.cell (i := k + 1 + j) (by omega)
      cases e
      have hcy' : wq.cell? ⟨b, o + (k + 1) + j, none⟩ = some (.int .u8 (y.toNat : Int)) := by rw [Nat.add_assoc]; exact hcy
      have hTj : T.take (j + 1) = T.take j ++ [y] := take_snoc T j y (by rw [HT.out.1 j hlt]; exact hy)
      have hyl := y.toNat_lt
      by_cases hcon : 128 ≤ y.toNat ∧ y.toNat < 192
      · have ht : (bits .and .u8 (y.toNat : Int) 192 != 128) = false := by rw [bits192']; simp [hcon.1, hcon.2]
        have hu : bits .and .u8 (y.toNat : Int) 63 = ((y.toNat - 128 : Nat) : Int) := (u8_and63 (x := (y.toNat : Int)) (by omega) (by omega)).trans (by omega)
        have ho := bits6 x (y.toNat - 128) (by omega) (by omega)
        have hcs := cont_snoc (T.take j) y m0
        rw [HCO.out.1, ← hTj] at hcs
        simp only [hcon, and_self, if_true] at hcs
        have hb2 : x * 64 + (y.toNat - 128) < 128 * 64 ^ (j + 1) := by
          have := HCO.out.2
          rw [Nat.pow_succ]
          omega
        have HS := Lib.hid (And.intro hcs hb2)
        have hyb : y.toNat - 128 < 64 := by omega
        generalize y.toNat - 128 = z at *
        have hsh : IntKind.i64.wrap ((x : Int) * 64) = (x : Int) * 64 := by rw [IntKind.wrap_i64]; omega
        have HX := Lib.hid (And.intro hxb2 (And.intro hx0 hx1))
        clear hcs hb2 hTj hy hcon hcy hxb2 hx0 hx1
        go_wp2
        go_roundg (3 - (j + 1))
        case measure => omega
        case rel => exact ⟨j + 1, _, by omega, rfl, rfl, rfl, HS.out.1, HS.out.2, rfl⟩
      · have ht : (bits .and .u8 (y.toNat : Int) 192 != 128) = true := by
          rw [bits192']
          by_cases h1 : 128 ≤ y.toNat
          · have : ¬ y.toNat < 192 := fun h2 => hcon ⟨h1, h2⟩
            simp [this]
          · simp [h1]
        have hcs := cont_snoc (T.take j) y m0
        rw [HCO.out.1, ← hTj] at hcs
        simp only [hcon, if_false] at hcs
        have hno : cont m0 T = none := by
          have e : T = T.take (j + 1) ++ T.drop (j + 1) := (List.take_append_drop _ _).symm
          rw [e]; exact cont_none _ _ _ hcs
        have HN := Lib.hid hno
        have HX := Lib.hid (And.intro hxb2 (And.intro hx0 hx1))
        clear hno hcs hTj hy hcon hcy hxb2 hx0 hx1
        go_wp2
        go_ret3
        exact ⟨by rw [hD.out, HN.out]; rfl, nq, HW.out.symm⟩
    · have hje : j = 3 := by omega
      subst hje
      have hTT : T.take 3 = T := List.take_of_length_le (by rw [HT.out.2]; exact Nat.le_refl _)
      have hfin : cont m0 T = some x := by rw [← hTT]; exact HCO.out.1
      have HN := Lib.hid hfin
      clear hfin hTT
      by_cases hle : x < 65536
      · have hle' : (x : Int) < 65536 := by omega
        have hres : dec (l.drop k) = none := by
          rw [hD.out, HN.out]
          exact if_neg (fun h => absurd (show 65536 ≤ x from h.1) (by omega))
        have HR := Lib.hid hres
        clear hres
        go_wp2
        go_ret3
        exact ⟨by rw [HR.out]; rfl, nq, HW.out.symm⟩
      · have hle' : ¬ (x : Int) < 65536 := by omega
        cases his : isR x with
        | true =>
          have hres : dec (l.drop k) = some (x, 4) := by 
            rw [hD.out, HN.out]
            exact if_pos ⟨show 65536 ≤ x by omega, his⟩
          have HR := Lib.hid (And.intro hres his)
          clear hres his
          go_wp2_with fail
          refine (utfIs_c x _).mono ?_
          rintro e w2 ⟨rfl, rfl⟩
          rw [HR.out.2]
          go_wp2
          go_ret3
          exact ⟨by rw [HR.out.1]; rfl, nq, HW.out.symm⟩
        | false =>
          have hres : dec (l.drop k) = none := by 
            rw [hD.out, HN.out]
            exact if_neg (fun h => by rw [his] at h; cases h.2)
          have HR := Lib.hid (And.intro hres his)
          clear hres his
          go_wp2_with fail
          refine (utfIs_c x _).mono ?_
          rintro e w2 ⟨rfl, rfl⟩
          rw [HR.out.2]
          go_wp2
          go_ret3
          exact ⟨by rw [HR.out.1]; rfl, nq, HW.out.symm⟩
end Go.Proofs.YtgenpgfhjhcahaaGreatDoor
