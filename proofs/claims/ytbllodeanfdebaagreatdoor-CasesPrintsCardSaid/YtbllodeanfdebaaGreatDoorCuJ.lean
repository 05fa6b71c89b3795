/- A case that can be printed; one that cannot; bytes behind one byte. -/
import Derived.Test.YtbllodeanfdebaaGreatDoorRows
import Derived.WalkKit
import Derived.ProofKit
import Derived.OpenShut
import Derived.ShutString
import Derived.ChangeOld
import Derived.Below
import Derived.BigQuiet
import Derived.Deep.QuietTactic
import Derived.Lib.Hide
import Derived.Deep.RegionHeld3
import Derived.Lib.SlBytesConst
import Derived.Laws.CopyOwn
import Derived.Laws.CopyRow
import Derived.Lib.Bytes
import Derived.Deep.LoopGhost
import Derived.Deep.DeepFit
import Derived.Deep.DeepMust
import Derived.WalkSpells
import Derived.WalkLawsBesides
import Derived.Laws.EntriesVeiled
import Derived.Lib.IndexBytes
import Derived.Deep.RegionWith
import Derived.Tactics2
import Derived.Laws.Rows
import Derived.Lib.Replace
import Derived.Lib.Split
import Derived.Lib.ItoaNum
import Derived.Lib.AtoiAllCases
import Derived.Lib.AtoiErrMem
import Derived.Lib.AppendIntMem
import Derived.Maps.OwnOps
import Derived.Maps.OwnSet
import Derived.Maps.Views
import Derived.Maps.AppendAt
import Derived.Deep.AppendLies
import Derived.Defers
import Derived.Recover
import Derived.Laws.Pointers
import Derived.ArgAppend
import Derived.Deep.AppendSrc
import Derived.Deep.Upon
import Derived.Test.YtbllodeanfdebaaGreatDoorShelf
import Derived.Test.YtbllodeanfdebaaGreatDoorBase
import Derived.Test.YtbllodeanfdebaaGreatDoorCsE
import Derived.Test.YtbllodeanfdebaaGreatDoorCsG
import Derived.Test.YtbllodeanfdebaaGreatDoorCsH
import Derived.Test.YtbllodeanfdebaaGreatDoorCsI
import Derived.Test.YtbllodeanfdebaaGreatDoorCsJ
import Derived.Test.YtbllodeanfdebaaGreatDoorCalm
import Derived.Test.YtbllodeanfdebaaGreatDoorCsL
import Derived.Test.YtbllodeanfdebaaGreatDoorRowS
import Derived.Test.YtbllodeanfdebaaGreatDoorRowG
import Derived.Test.YtbllodeanfdebaaGreatDoorCsO
import Derived.Test.YtbllodeanfdebaaGreatDoorCsM
import Derived.Test.YtbllodeanfdebaaGreatDoorCsN2
import Derived.Test.YtbllodeanfdebaaGreatDoorStL
import Derived.Test.YtbllodeanfdebaaGreatDoorCsO2
import Derived.Test.YtbllodeanfdebaaGreatDoorCsQ
import Derived.Test.YtbllodeanfdebaaGreatDoorStr
import Derived.Test.YtbllodeanfdebaaGreatDoorCsR
import Derived.Test.YtbllodeanfdebaaGreatDoorCsS
import Derived.Test.YtbllodeanfdebaaGreatDoorCsT
import Derived.Test.YtbllodeanfdebaaGreatDoorCsU
import Derived.Test.YtbllodeanfdebaaGreatDoorCsV
import Derived.Test.YtbllodeanfdebaaGreatDoorCsW
import Derived.Test.YtbllodeanfdebaaGreatDoorCsY
import Derived.Test.YtbllodeanfdebaaGreatDoorCsZ
import Derived.Test.YtbllodeanfdebaaGreatDoorCsPa
import Derived.Test.YtbllodeanfdebaaGreatDoorRpC
import Derived.Test.YtbllodeanfdebaaGreatDoorCtD
import Derived.Test.YtbllodeanfdebaaGreatDoorCtE
import Derived.Test.YtbllodeanfdebaaGreatDoorCsB2
import Derived.Test.YtbllodeanfdebaaGreatDoorBuild
import Derived.Test.YtbllodeanfdebaaGreatDoorCsPb
import Derived.Test.YtbllodeanfdebaaGreatDoorCtF
import Derived.Test.YtbllodeanfdebaaGreatDoorCuA
import Derived.Test.YtbllodeanfdebaaGreatDoorCuB
import Derived.Test.YtbllodeanfdebaaGreatDoorCuE
import Derived.Test.YtbllodeanfdebaaGreatDoorBits
namespace Go.Proofs.YtbllodeanfdebaaGreatDoor
open Go.ChangeShapes Go.WideShapes Go.ChangeAt Go.RowKit
set_option linter.unusedVariables false
def G23 (n : Nat) (ys : List AnV) (w : World) (e : Ending) (w' : World) : Prop := ∃ g : Bool, e = .returned (.bool g) ∧ (g = false → (n ≤ 12 ∨ 257 ≤ n ∧ n ≤ 260) ∧ ∀ y ∈ ys, y.a.id.length ≤ 200 ∧ y.a.data.length ≤ 2000) ∧ w = w'
def G22 (n : Nat) (l : List (List UInt8)) (w : World) (e : Ending) (w' : World) : Prop := ∃ g : Bool, e = .returned (.bool g) ∧ (g = false → n ≤ 80 ∧ ∀ p ∈ l, p.length ≤ 300) ∧ w = w'
set_option linter.unusedSimpArgs false in
set_option maxRecDepth 100000 in
set_option maxHeartbeats 8000000 in
theorem great23_c (A : Option Addr) (n c : Nat) (ys : List AnV) (w : World) (h : RRd cAn 3 w w.heap.size A n c ys) :
    Calls Tryz.prog 11 #[.slice A n c] w fun e w' => G23 n ys w e w' := by
  have HR := Lib.hid h
  have HL := Lib.hid h.len
  clear h
  go_enter Tryz.func11, Tryz.ntmps11
  go_wp2_with fail
  go_loopg [3] 301 (fun g i wr => ∃ k : Nat, i = .int .i64 (k : Int) ∧ k ≤ n ∧ k ≤ 300 ∧ Hid (g + k = 301) ∧ Hid (∀ j y, j < k → ys[j]? = some y → y.a.id.length ≤ 200 ∧ y.a.data.length ≤ 2000) ∧ wr = w)
  case atStart => exact ⟨0, rfl, Nat.zero_le _, by omega, Lib.hid rfl, Lib.hid (fun j y hj => absurd hj (by omega)), rfl⟩
  case round =>
    obtain ⟨k, rfl, hkn, hk3, hg, HM, rfl⟩ := hrel
    by_cases hk : k < n
    · have hk1 : (k : Int) < (n : Int) := by omega
      by_cases hk4 : k < 300
      · have hk5 : (k : Int) < 300 := by omega
        obtain ⟨b, o, x, rfl, hbB, hx, hc⟩ := HR.out.cell hk
        have z0 : wr.cell? ⟨b, o + k * 3, none⟩ = some (.string ⟨x.a.id.toArray⟩) := by rw [show o + k * 3 = o + (k * 3 + 0) by omega]; exact hc 0 _ rfl
        have z2 : wr.cell? ⟨b, o + k * 3 + 2, none⟩ = some (.slice x.A x.a.data.length x.cap) := by rw [show o + k * 3 + 2 = o + (k * 3 + 2) by omega]; exact hc 2 _ rfl
        by_cases h1 : 200 < x.a.id.length
        · have h11 : (200 : Int) < (x.a.id.length : Int) := by omega
          clear hc hx hbB
          go_wp2
          go_ret
          exact ⟨true, rfl, fun e => (by cases e), rfl⟩
        · have h11 : ¬ (200 : Int) < (x.a.id.length : Int) := by omega
          by_cases h2 : 2000 < x.a.data.length
          · have h21 : (2000 : Int) < (x.a.data.length : Int) := by omega
            clear hc hx hbB
            go_wp2
            go_ret
            exact ⟨true, rfl, fun e => (by cases e), rfl⟩
          · have h21 : ¬ (2000 : Int) < (x.a.data.length : Int) := by omega
            have HM2 : Hid (∀ j y, j < k + 1 → ys[j]? = some y → y.a.id.length ≤ 200 ∧ y.a.data.length ≤ 2000) := Lib.hid fun j y hj hy => by
              rcases Nat.lt_or_ge j k with hj | hj
              · exact HM.out j y hj hy
              · obtain rfl : j = k := by omega
                rw [hx] at hy
                obtain rfl := Option.some.inj hy
                exact ⟨by omega, by omega⟩
            clear hc hx hbB
            go_wp2
            go_roundg (301 - (k + 1))
            case measure => have := hg.out; omega
            case rel => exact ⟨k + 1, by go_num, by omega, by omega, Lib.hid (by have := hg.out; omega), HM2, rfl⟩
      · have hk5 : ¬ (k : Int) < 300 := by omega
        have a1 : (12 : Int) < (n : Int) := by omega
        have a2 : ¬ (n : Int) < 257 := by omega
        have a3 : (260 : Int) < (n : Int) := by omega
        go_wp2
        go_ret
        exact ⟨true, rfl, fun e => (by cases e), rfl⟩
    · have hk1 : ¬ (k : Int) < (n : Int) := by omega
      obtain rfl : k = n := by omega
      have HA : Hid (∀ y ∈ ys, y.a.id.length ≤ 200 ∧ y.a.data.length ≤ 2000) := Lib.hid fun y hy => by
        obtain ⟨j, hj, e⟩ := List.getElem_of_mem hy
        exact HM.out j y (by rw [HL.out] at hj; exact hj) (by rw [List.getElem?_eq_getElem hj, e])
      clear hg hk3
      by_cases b1 : 12 < k
      · have a1 : (12 : Int) < (k : Int) := by omega
        by_cases b2 : k < 257
        · have a2 : (k : Int) < 257 := by omega
          go_wp2
          go_ret
          exact ⟨true, rfl, fun e => (by cases e), rfl⟩
        · have a2 : ¬ (k : Int) < 257 := by omega
          by_cases b3 : 260 < k
          · have a3 : (260 : Int) < (k : Int) := by omega
            go_wp2
            go_ret
            exact ⟨true, rfl, fun e => (by cases e), rfl⟩
          · have a3 : ¬ (260 : Int) < (k : Int) := by omega
            go_wp2
            go_ret
            exact ⟨false, rfl, fun _ => ⟨.inr ⟨by omega, by omega⟩, HA.out⟩, rfl⟩
      · have a1 : ¬ (12 : Int) < (k : Int) := by omega
        have a3 : ¬ (260 : Int) < (k : Int) := by omega
        go_wp2
        go_ret
        exact ⟨false, rfl, fun _ => ⟨.inl (by omega), HA.out⟩, rfl⟩
set_option linter.unusedSimpArgs false in
set_option maxRecDepth 100000 in
set_option maxHeartbeats 8000000 in
theorem great22_c (A : Option Addr) (n c : Nat) (l : List (List UInt8)) (w : World) (h : RRd cS1 1 w w.heap.size A n c l) :
    Calls Tryz.prog 12 #[.slice A n c] w fun e w' => G22 n l w e w' := by
  have HR := Lib.hid h
  have HL := Lib.hid h.len
  clear h
  go_enter Tryz.func12, Tryz.ntmps12
  go_wp2_with fail
  go_loopg [3] 101 (fun g i wr => ∃ k : Nat, i = .int .i64 (k : Int) ∧ k ≤ n ∧ k ≤ 100 ∧ Hid (g + k = 101) ∧ Hid (∀ j y, j < k → l[j]? = some y → y.length ≤ 300) ∧ wr = w)
  case atStart => exact ⟨0, rfl, Nat.zero_le _, by omega, Lib.hid rfl, Lib.hid (fun j y hj => absurd hj (by omega)), rfl⟩
  case round =>
    obtain ⟨k, rfl, hkn, hk3, hg, HM, rfl⟩ := hrel
    by_cases hk : k < n
    · have hk1 : (k : Int) < (n : Int) := by omega
      by_cases hk4 : k < 100
      · have hk5 : (k : Int) < 100 := by omega
        obtain ⟨b, o, x, rfl, hbB, hx, hc⟩ := HR.out.cell hk
        have z0 : wr.cell? ⟨b, o + k, none⟩ = some (.string ⟨x.toArray⟩) := by rw [show o + k = o + (k * 1 + 0) by omega]; exact hc 0 _ rfl
        by_cases h1 : 300 < x.length
        · have h11 : (300 : Int) < (x.length : Int) := by omega
          clear hc hx hbB
          go_wp2
          go_ret
          exact ⟨true, rfl, fun e => (by cases e), rfl⟩
        · have h11 : ¬ (300 : Int) < (x.length : Int) := by omega
          have HM2 : Hid (∀ j y, j < k + 1 → l[j]? = some y → y.length ≤ 300) := Lib.hid fun j y hj hy => by
            rcases Nat.lt_or_ge j k with hj | hj
            · exact HM.out j y hj hy
            · obtain rfl : j = k := by omega
              rw [hx] at hy
              obtain rfl := Option.some.inj hy
              omega
          clear hc hx hbB
          go_wp2
          go_roundg (101 - (k + 1))
          case measure => have := hg.out; omega
          case rel => exact ⟨k + 1, by go_num, by omega, by omega, Lib.hid (by have := hg.out; omega), HM2, rfl⟩
      · have hk5 : ¬ (k : Int) < 100 := by omega
        have a1 : (80 : Int) < (n : Int) := by omega
        go_wp2
        go_ret
        exact ⟨true, rfl, fun e => (by cases e), rfl⟩
    · have hk1 : ¬ (k : Int) < (n : Int) := by omega
      obtain rfl : k = n := by omega
      have HA : Hid (∀ p ∈ l, p.length ≤ 300) := Lib.hid fun y hy => by
        obtain ⟨j, hj, e⟩ := List.getElem_of_mem hy
        exact HM.out j y (by rw [HL.out] at hj; exact hj) (by rw [List.getElem?_eq_getElem hj, e])
      clear hg hk3
      by_cases b1 : 80 < k
      · have a1 : (80 : Int) < (k : Int) := by omega
        go_wp2
        go_ret
        exact ⟨true, rfl, fun e => (by cases e), rfl⟩
      · have a1 : ¬ (80 : Int) < (k : Int) := by omega
        go_wp2
        go_ret
        exact ⟨false, rfl, fun _ => ⟨by omega, HA.out⟩, rfl⟩
set_option linter.unusedSimpArgs false in
set_option maxRecDepth 100000 in
set_option maxHeartbeats 8000000 in
theorem likeI_c (w : World) (doc : List UInt8) (al : List (List UInt8)) (A1 A2 A3 : Option Addr) (c1 c2 c3 : Nat) (ys : List AnV) (m0 m1 m2 m3 m4 m5 : Int) (h : CInI w doc al A1 A2 A3 c1 c2 c3 ys) :
    Calls Tryz.prog 9 #[.agg #[.slice A1 doc.length c1, .int .i64 m0, .int .i64 m1, .int .i64 m2, .int .i64 m3, .int .i64 m4, .int .i64 m5, .slice A2 al.length c2, .slice A3 ys.length c3]] w fun e w' => e = .returned (.agg #[.string ⟨doc.toArray⟩, .int .i64 m0, .int .i64 m1, .int .i64 m2, .int .i64 m3, .int .i64 m4, .int .i64 m5, .slice A2 al.length c2, .slice A3 ys.length c3]) ∧ Below w.heap.size w w' := by
  obtain ⟨d9, hu⟩ := isStruct_ofC (P := Tryz.prog) (t := 34) (by kernel_rfl)
  obtain ⟨N, hN⟩ : ∃ N, w.heap.size = N := ⟨_, rfl⟩
  obtain ⟨w1, hw1⟩ : ∃ w1, w.alloc (.cells #[.slice A1 doc.length c1, .int .i64 m0, .int .i64 m1, .int .i64 m2, .int .i64 m3, .int .i64 m4, .int .i64 m5, .slice A2 al.length c2, .slice A3 ys.length c3] 29) = w1 := ⟨_, rfl⟩
  obtain ⟨N2, hN2⟩ : ∃ N, w1.heap.size = N := ⟨_, rfl⟩
  obtain ⟨w2, hw2⟩ : ∃ w2, w1.alloc (.cells #[.string ⟨#[]⟩, .int .i64 0, .int .i64 0, .int .i64 0, .int .i64 0, .int .i64 0, .int .i64 0, .slice none 0 0, .slice none 0 0] 34) = w2 := ⟨_, rfl⟩
  have k1 : w2.heap[N]? = some (.cells #[.slice A1 doc.length c1, .int .i64 m0, .int .i64 m1, .int .i64 m2, .int .i64 m3, .int .i64 m4, .int .i64 m5, .slice A2 al.length c2, .slice A3 ys.length c3] 29) := by rw [← hw2, ← hw1, ← hN]; exact hp_old (hp_new _ _)
  have k2 : w2.heap[N2]? = some (.cells #[.string ⟨#[]⟩, .int .i64 0, .int .i64 0, .int .i64 0, .int .i64 0, .int .i64 0, .int .i64 0, .slice none 0 0, .slice none 0 0] 34) := by rw [← hw2, ← hN2]; exact hp_new _ _
  have hsz : w.heap.size ≤ w1.heap.size := by rw [← hw1]; simp
  have hb2 : Below w.heap.size w w2 := by
    rw [← hw2]
    refine Below.alloc (by rw [← hw1]; exact (Below.refl _ _).alloc (Nat.le_refl _) _) hsz _
  have hst := (h.doc.below hb2).str
  have q0 : w2.cell? ⟨N, 0, none⟩ = some (.slice A1 doc.length c1) := by rw [cell_of 0 k1]; rfl
  have q1 : w2.cell? ⟨N, 1, none⟩ = some (.int .i64 m0) := by rw [cell_of 1 k1]; rfl
  have q2 : w2.cell? ⟨N, 2, none⟩ = some (.int .i64 m1) := by rw [cell_of 2 k1]; rfl
  have q3 : w2.cell? ⟨N, 3, none⟩ = some (.int .i64 m2) := by rw [cell_of 3 k1]; rfl
  have q4 : w2.cell? ⟨N, 4, none⟩ = some (.int .i64 m3) := by rw [cell_of 4 k1]; rfl
  have q5 : w2.cell? ⟨N, 5, none⟩ = some (.int .i64 m4) := by rw [cell_of 5 k1]; rfl
  have q6 : w2.cell? ⟨N, 6, none⟩ = some (.int .i64 m5) := by rw [cell_of 6 k1]; rfl
  have q7 : w2.cell? ⟨N, 7, none⟩ = some (.slice A2 al.length c2) := by rw [cell_of 7 k1]; rfl
  have q8 : w2.cell? ⟨N, 8, none⟩ = some (.slice A3 ys.length c3) := by rw [cell_of 8 k1]; rfl
  have HF := Lib.hid (And.intro (setRow_heap _ _ _ #[.string ⟨doc.toArray⟩, .int .i64 m0, .int .i64 m1, .int .i64 m2, .int .i64 m3, .int .i64 m4, .int .i64 m5, .slice A2 al.length c2, .slice A3 ys.length c3] _ _ k2) (below_setRow hb2 (show w.heap.size ≤ N2 by omega) #[.string ⟨doc.toArray⟩, .int .i64 m0, .int .i64 m1, .int .i64 m2, .int .i64 m3, .int .i64 m4, .int .i64 m5, .slice A2 al.length c2, .slice A3 ys.length c3]))
  clear h k1 hb2 hsz
  go_enter Tryz.func9, Tryz.ntmps9
  go_wp2_with (first | (refine wpList_store_row rfl _ _ _ rfl N2 #[.string ⟨doc.toArray⟩, .int .i64 m0, .int .i64 m1, .int .i64 m2, .int .i64 m3, .int .i64 m4, .int .i64 m5, .slice A2 al.length c2, .slice A3 ys.length c3] rfl rfl _ _ k2 (by kernel_rfl) rfl (by kernel_rfl) ?_))
  exact bodyPost_ret (results_cell_row rfl _ _ N2 _ _ _ (.struct d9) rfl HF.out.1 hu rfl rcaseInfo) rfl ⟨rfl, HF.out.2⟩
theorem flat_le {α : Type} (f : α → List UInt8) (B : Nat) : ∀ l : List α, (∀ x ∈ l, (f x).length ≤ B) → (l.flatMap f).length ≤ l.length * B
  | [], _ => by simp
  | x :: l, h => by
    have h1 := flat_le f B l (fun y hy => h y (List.mem_cons_of_mem _ hy))
    have h2 := h x (List.mem_cons_self ..)
    rw [List.flatMap_cons, List.length_append, List.length_cons, Nat.succ_mul]
    omega
theorem sum_le {α : Type} (f : α → Nat) (B : Nat) : ∀ l : List α, (∀ x ∈ l, f x ≤ B) → (l.map f).sum ≤ l.length * B
  | [], _ => by simp
  | x :: l, h => by
    have h1 := sum_le f B l (fun y hy => h y (List.mem_cons_of_mem _ hy))
    have h2 := h x (List.mem_cons_self ..)
    rw [List.map_cons, List.sum_cons, List.length_cons, Nat.succ_mul]
    omega
theorem barT_le (s : List UInt8) : (barT s).length ≤ 2 * s.length + 2 := by
  have := bar_le s
  rw [barT_F]
  simp only [List.length_append, List.length_cons, List.length_nil]
  omega
/-- What can be printed, of the law's sizes, is printed and read as the same. -/
theorem good_print {c : CaseC} (h6 : c.lim.length = 6) (hn : ∀ n ∈ c.lim, n ≤ 1099511627776) (ha : ∀ p ∈ c.allow, p ≠ [] ∧ (10 : UInt8) ∉ p) (hs : ∀ a ∈ c.script, a.id ≠ [] ∧ (10 : UInt8) ∉ a.id ∧ (a.ok = false → a.data = []))
    (hd : c.doc.length ≤ 600) (hal : c.allow.length ≤ 64) (hap : ∀ p ∈ c.allow, p.length ≤ 300) (hsc : c.script.length ≤ 12) (hsp : ∀ a ∈ c.script, a.id.length ≤ 200 ∧ a.data.length ≤ 2000) :
    CGood c ∧ (printC Lib.decDigits c).length ≤ 90000 ∧ parseC numD bigS (printC Lib.decDigits c) = .ok c := by
  have hpf := print_flat c (fun e => by rw [e] at h6; cases h6)
  have l1 := flat_le (fun n => [32] ++ Lib.decDigits n) 21 c.lim (fun n hm => by
    have := decDigits_le20 n (by have := hn n hm; omega)
    simp only [List.length_append, List.length_cons, List.length_nil]
    omega)
  have l2 := flat_le (fun p => wAllow ++ p ++ [10]) 307 c.allow (fun p hm => by
    have := hap p hm
    simp only [List.length_append, List.length_cons, List.length_nil, wAllow]
    omega)
  have l3 := flat_le ansT 4300 c.script (fun a hm => by
    have h1 := hsp a hm
    have h2 := barT_le a.data
    unfold ansT
    split <;> simp only [List.length_append, List.length_cons, List.length_nil, wOk, wNo] <;> omega)
  have l4 := barT_le c.doc
  have l5 := sum_le (fun a : AnsC => a.data.length) 2000 c.script (fun a hm => (hsp a hm).2)
  have hlen : (printC Lib.decDigits c).length ≤ 90000 := by
    rw [hpf]
    simp only [List.length_append, List.length_cons, List.length_nil, wLims, wDoc]
    rw [h6] at l1
    omega
  refine ⟨⟨h6, hn, ha, hs, hal, by omega, by omega, by omega⟩, hlen, parse_print Lib.decDigits numD bigS c ⟨h6, fun n hm => ⟨numD_dec n (hn n hm), dec_no n 32 (by decide), dec_no n 10 (by decide)⟩, ha, hs⟩ ?_⟩
  unfold bigS
  exact decide_eq_false (by omega)
theorem checkK_zero {ms : List Int} {al : List (List UInt8)} {sc : List AnsC} (h : checkK ms al sc = 0) : al.any oddB = false ∧ ms.any badM = false ∧ sc.any badA = false ∧ al.length ≤ 64 ∧ sc.length ≤ 256 := by
  unfold checkK at h
  split at h
  · cases h
  · rename_i hw
    split at h
    · cases h
    · rename_i hb
      have hw2 : wrongB ms al sc = false := by simpa using hw
      unfold wrongB at hw2
      rw [Bool.or_eq_false_iff, Bool.or_eq_false_iff] at hw2
      exact ⟨hw2.1.1, hw2.1.2, hw2.2, by omega, by omega⟩
theorem any_no {α : Type} {l : List α} {p : α → Bool} (h : l.any p = false) : ∀ x ∈ l, p x = false := by
  intro x hx
  cases hp : p x with
  | false => rfl
  | true => rw [List.any_eq_true.2 ⟨x, hx, hp⟩] at h; cases h
theorem wpList_appRun {P : Program} {ops : Array Oper} {rest : List Oper} {o : Oper} {a : Act} {Q : Exit → Act → World → Prop} {w : World} (hgd : o.guard = none) (s x : Operand) (t : TypeId)
    (ho : o.op = .call { callee := .builtin .append, args := #[s, x], argTypes := #[t, t] }) (v y : Value) (hs : a.eval s = v) (hx : a.eval x = y) (v2 : Value) (w2 : World) (hrun : (Builtin.append_ #[t, t] o.type #[v, y]).run P w = .ok v2 w2)
    (h : wpList P ops Q rest (a.put o.dst v2) w2) : wpList P ops Q (o :: rest) a w := by
  refine wpList_plain hgd fun K hK => ?_
  unfold Oper.wp execOp
  simp only [ho, resolve, invoke, builtin, Sem.run_bind, Sem.run_pure, Result.andThen_ok, List.map_toArray, List.map_cons, List.map_nil, hs, hx, hrun]
  exact hK _ _ h
theorem Rd.cells_of {w : World} {B n cap : Nat} {A : Option Addr} {us : List Value} (h : Rd w B A n cap us) (a : Addr) (ha : A = some a) (h0 : 0 < cap) : ∀ j u, us[j]? = some u → w.cell? (a.add j) = some u := by
  intro j u hu
  obtain ⟨b, o, e, hb, hc⟩ := h.at_ h0
  rw [e] at ha
  cases ha
  rw [Addr.add_lit]
  exact hc j u hu
theorem bv_one (l : List UInt8) : ∀ u ∈ l.map bv, u.oneCell' = true := by
  intro u hu
  obtain ⟨x, _, rfl⟩ := List.mem_map.1 hu
  rfl
/-- Bytes behind one byte of a constant. -/
theorem append_x (w : World) (N : Nat) (fz : Nat × Nat) (A : Option Addr) (n c : Nat) (l : List UInt8) (hN : w.heap[N]? = some (.cells #[.int .u8 120] 5 fz)) (h : Byt w w.heap.size A n c l) (hn : n ≤ 1000) (ty : TypeId) :
    ∃ A' c' w', (Builtin.append_ #[23, 23] ty #[.slice (some ⟨N, 0, none⟩) 1 1, .slice A n c]).run Tryz.prog w = .ok (.slice A' (n + 1) c') w' ∧ Below w.heap.size w w' ∧ Byt w' w'.heap.size A' (n + 1) c' (120 :: l) ∧ ∀ a, A' = some a → N ≤ a.block := by
  obtain ⟨i0, hi, hz0, hz1, hz2⟩ := info_u8
  have hl : l.length = n := h.length
  rcases Nat.eq_zero_or_pos n with h0 | h0
  · subst h0
    obtain rfl : l = [] := List.length_eq_zero_iff.1 hl
    refine ⟨some ⟨N, 0, none⟩, 1, w, ?_, Below.refl _ _, ⟨rfl, Nat.le_refl _, by unfold maxLen; omega, (fun e => by cases e), fun _ => ⟨N, 0, rfl, lt_of hN, fun i u hu => ?_⟩⟩, fun a e => by cases e; exact Nat.le_refl _⟩
    · refine run_append_nothing w 23 23 ty 5 i0 Tryz.underlying23 hi _ 1 1 (Nat.le_refl _) _ ?_
      cases A with
      | none => exact Src.ofNil w Tryz.underlying23 c
      | some a => exact Src.ofSlice w Tryz.underlying23 a 0 c [] (by simp) (fun j u hu => by simp at hu) (fun u hu => by cases hu)
    · rw [cell_of _ hN, Nat.zero_add]
      match i, hu with
      | 0, hu => exact hu
  · have hc0 : 0 < c := by have := h.le; omega
    obtain ⟨b, o, rfl, hb, hcl⟩ := h.at_ hc0
    obtain ⟨v', w', hrun, r1, r2⟩ := run_append_arg_grows (P := Tryz.prog) w 23 ty 5 i0 (.int .u8 0) 1 1 Tryz.underlying23 hi hz0 hz1 hz2 rfl (by decide) ⟨N, 0, none⟩ 1 1 [.int .u8 120] rfl (fun j u hj => by
        rw [Addr.add_lit, cell_of _ hN, Nat.zero_add]
        match j, hj with
        | 0, hj => exact hj) ⟨b, o, none⟩ n c (l.map bv) (by rw [List.length_map, hl, Nat.mul_one]) (h.cells_of _ rfl hc0) (by omega) (by unfold maxLen; omega) (by omega)
    rw [Nat.add_comm 1 n] at r1
    obtain ⟨A', c', rfl, hrd⟩ := own_form r1
    exact ⟨A', c', w', hrun, (Below.refl _ w).grown r2 (Nat.le_refl _) (fun k e => by cases e), hrd, fun a e => by
      subst e
      have h9 := (r1.lt a.block rfl).1
      have h8 := lt_of hN
      omega⟩
set_option linter.unusedSimpArgs false in
set_option maxRecDepth 100000 in
set_option maxHeartbeats 8000000 in
theorem printNo_c (w : World) (doc : List UInt8) (al : List (List UInt8)) (A1 A2 A3 : Option Addr) (c1 c2 c3 : Nat) (ys : List AnV) (m0 m1 m2 m3 m4 m5 : Int) (h : CInI w doc al A1 A2 A3 c1 c2 c3 ys) (ha : al.length ≤ 1000000) (hy : ys.length ≤ 1000000) (hs : doc.length + sumD ys ≤ 1048576) (K : Int) (hK : checkK [m0, m1, m2, m3, m4, m5] al (ys.map AnV.a) = K) (h0 : ¬ K = 0) :
    Calls Tryz.prog 10 #[.agg #[.slice A1 doc.length c1, .int .i64 m0, .int .i64 m1, .int .i64 m2, .int .i64 m3, .int .i64 m4, .int .i64 m5, .slice A2 al.length c2, .slice A3 ys.length c3]] w fun e w' => e = .returned (.tuple #[.string ⟨#[]⟩, .int .i64 K]) ∧ Below w.heap.size w w' := by
  obtain ⟨N, hN⟩ : ∃ N, w.heap.size = N := ⟨_, rfl⟩
  obtain ⟨w1, hw1⟩ : ∃ w1, w.alloc (.cells #[.slice A1 doc.length c1, .int .i64 m0, .int .i64 m1, .int .i64 m2, .int .i64 m3, .int .i64 m4, .int .i64 m5, .slice A2 al.length c2, .slice A3 ys.length c3] 29) = w1 := ⟨_, rfl⟩
  have hc1 : w1.heap[N]? = some (.cells #[.slice A1 doc.length c1, .int .i64 m0, .int .i64 m1, .int .i64 m2, .int .i64 m3, .int .i64 m4, .int .i64 m5, .slice A2 al.length c2, .slice A3 ys.length c3] 29) := by rw [← hw1, ← hN]; exact hp_new _ _
  have hb1 : Below w.heap.size w w1 := by rw [← hw1]; exact (Below.refl _ _).alloc (Nat.le_refl _) _
  have CK := Lib.hid (checkI_c w1 doc al A1 A2 A3 c1 c2 c3 ys m0 m1 m2 m3 m4 m5 (h.up hb1) ha hy hs)
  rw [hK] at CK
  have q0 : w1.cell? ⟨N, 0, none⟩ = some (.slice A1 doc.length c1) := by rw [cell_of 0 hc1]; rfl
  have q1 : w1.cell? ⟨N, 1, none⟩ = some (.int .i64 m0) := by rw [cell_of 1 hc1]; rfl
  have q2 : w1.cell? ⟨N, 2, none⟩ = some (.int .i64 m1) := by rw [cell_of 2 hc1]; rfl
  have q3 : w1.cell? ⟨N, 3, none⟩ = some (.int .i64 m2) := by rw [cell_of 3 hc1]; rfl
  have q4 : w1.cell? ⟨N, 4, none⟩ = some (.int .i64 m3) := by rw [cell_of 4 hc1]; rfl
  have q5 : w1.cell? ⟨N, 5, none⟩ = some (.int .i64 m4) := by rw [cell_of 5 hc1]; rfl
  have q6 : w1.cell? ⟨N, 6, none⟩ = some (.int .i64 m5) := by rw [cell_of 6 hc1]; rfl
  have q7 : w1.cell? ⟨N, 7, none⟩ = some (.slice A2 al.length c2) := by rw [cell_of 7 hc1]; rfl
  have q8 : w1.cell? ⟨N, 8, none⟩ = some (.slice A3 ys.length c3) := by rw [cell_of 8 hc1]; rfl
  have HB1 := Lib.hid hb1
  clear h ha hy hs hK hc1 hb1
  go_enter Tryz.func10, Tryz.ntmps10
  go_wp2_with fail
  refine CK.out.mono ?_
  rintro e w2 ⟨rfl, hb2⟩
  have HF := Lib.hid (HB1.out.trans (hb2.mono HB1.out.size))
  clear hb2 CK q0 q1 q2 q3 q4 q5 q6 q7 q8
  go_wp2
  go_ret2
  exact ⟨rfl, HF.out⟩
theorem Byt.set_other {w : World} {A : Option Addr} {n c g i : Nat} {l : List UInt8} {v : Value} (h : Byt w w.heap.size A n c l) (hA : ∀ a, A = some a → g ≠ a.block) : Byt (w.setCell ⟨g, i, none⟩ v) (w.setCell ⟨g, i, none⟩ v).heap.size A n c l := by
  have hsz : (w.setCell ⟨g, i, none⟩ v).heap.size = w.heap.size := by simp only [World.setCell, Array.size_modify]
  rw [hsz]
  refine ⟨h.len, h.le, h.fit, h.nil, fun h0 => ?_⟩
  obtain ⟨b, o, rfl, hb, hc⟩ := h.at_ h0
  refine ⟨b, o, rfl, hb, fun j u hu => ?_⟩
  have hne : b ≠ g := fun e => hA _ rfl e.symm
  have h9 : (w.setCell ⟨g, i, none⟩ v).heap[b]? = w.heap[b]? := hp_other hne
  rw [← hc j u hu]
  simp only [World.cell?, h9]
theorem WC.big {B B' : Nat} {w : World} (h : WC B w) (hb : B ≤ B') (hs : B' ≤ w.heap.size) : WC B' w :=
  ⟨h.max, Nat.lt_of_lt_of_le h.maxB hb, h.syn, Nat.lt_of_lt_of_le h.synB hb, h.rng, Nat.lt_of_lt_of_le h.rngB hb, hs, fun W hW => h.pow W fun k hk => hW k (by omega)⟩
def czero : CaseC := ⟨[], [], [], []⟩
def resI : PrsC → CaseC × Int × Int
  | .bad n => (czero, (n : Int), 15)
  | .big => (czero, 0, 13)
  | .ok c => (c, 0, 0)
theorem cin0 (w : World) : CIn w czero none none none 0 0 0 [] := ⟨Rd.nilR _ _, RRd.nilR _ _ _ _, rfl, RRd.nilR _ _ _ _, fun y hy => by cases hy⟩
theorem ps_all {R : PrsC} {w : World} {e : Ending} {w' : World} (h : PsPost R w e w') : Below w.heap.size w w' ∧ ∃ A1 A2 A3 c1 c2 c3 ys, e = .returned (.tuple #[caseW (resI R).1 A1 A2 A3 c1 c2 c3, .int .i64 (resI R).2.1, .int .i64 (resI R).2.2]) ∧ CIn w' (resI R).1 A1 A2 A3 c1 c2 c3 ys := by
  obtain ⟨hb, ⟨n, rfl, rfl⟩ | ⟨rfl, rfl⟩ | ⟨c, v, rfl, rfl, hc⟩⟩ := h
  · exact ⟨hb, none, none, none, 0, 0, 0, [], rfl, cin0 _⟩
  · exact ⟨hb, none, none, none, 0, 0, 0, [], rfl, cin0 _⟩
  · obtain ⟨A1, A2, A3, c1, c2, c3, ys, rfl, h1, h2, h3, h4, h5⟩ := hc.ex
    exact ⟨hb, A1, A2, A3, c1, c2, c3, ys, rfl, ⟨h1, h2, h3, h4, h5⟩⟩
end Go.Proofs.YtbllodeanfdebaaGreatDoor
