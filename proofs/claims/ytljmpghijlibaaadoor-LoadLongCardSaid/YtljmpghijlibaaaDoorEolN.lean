/- Line ends: eol.Norm, eol.Is, their twins, bytes.Clone. -/
import Derived.Test.YtljmpghijlibaaaDoorRows
import Derived.WalkKit
import Derived.ProofKit
import Derived.OpenShut
import Derived.ShutString
import Derived.ChangeOld
import Derived.Below
import Derived.BigQuiet
import Derived.Deep.QuietTactic
import Derived.Lib.Hide
import Derived.Deep.RegionHeld3
import Derived.Lib.SlBytesConst
import Derived.Laws.CopyOwn
import Derived.Laws.CopyRow
import Derived.Lib.Bytes
import Derived.Deep.LoopGhost
import Derived.Deep.DeepFit
import Derived.Deep.DeepMust
import Derived.WalkSpells
import Derived.WalkLawsBesides
import Derived.Laws.EntriesVeiled
import Derived.Laws.Rows
import Derived.Laws.CopyOwn
import Derived.Laws.CopyRow
import Derived.Test.YtljmpghijlibaaaDoorShelf
import Derived.Test.YtljmpghijlibaaaDoorBase
import Derived.Test.YtljmpghijlibaaaDoorCharPlain
import Derived.Test.YtljmpghijlibaaaDoorY3
import Derived.Test.YtljmpghijlibaaaDoorEolP
namespace Go.Proofs.YtljmpghijlibaaaDoor
open Go.ChangeShapes Go.WideShapes Go.ChangeAt Go.RowKit
set_option linter.unusedVariables false
theorem list_keep (cur : List Value) (m : Nat) (v : Value) (pre : List Value) (hp : cur.take m = pre) (hm : m < cur.length) : (cur.set m v).take (m + 1) = pre ++ [v] := by
  rw [List.take_succ_eq_append_getElem (by simpa using hm)]
  congr 1
  · rw [← hp]; rw [List.take_set]; exact List.set_eq_of_length_le (by simp; omega)
  · simp
theorem block_set {w : World} {g m : Nat} {cur : List Value} {T : TypeId} {v : Value} (h : w.heap[g]? = some (.cells cur.toArray T)) : (w.setCell ⟨g, m, none⟩ v).heap[g]? = some (.cells (cur.set m v).toArray T) := by
  have := hp_set (i := m) (v := v) h
  simpa using this

set_option maxRecDepth 100000 in
set_option maxHeartbeats 4000000 in
theorem norm_c (A : Option Addr) (n cap : Nat) (l : List UInt8) (w : World) (B : Nat) (h : Byt w B A n cap l) (hB : B ≤ w.heap.size) (hm : n ≤ 2000000) :
    Calls Tryd.prog 47 #[.slice A n cap] w fun e w' => ∃ A' m, e = .returned (.slice A' m m) ∧ Byt w' w'.heap.size A' m m (nrm l) ∧ Below w.heap.size w w' := by
  have hlen := h.length
  obtain ⟨i0, hi, hz0, hz1, hz2⟩ := info_parts (show (Tryd.prog.info? 5).map (fun i => (i.zero, i.size, i.bytes)) = some (some (.int .u8 0), 1, 1) by kernel_rfl)
  have hmk := run_make (P := Tryd.prog) w 35 5 i0 (.int .u8 0) Tryd.underlying35 hi hz0 .i64 .i64 n n (by omega) (Int.le_refl _) (by rw [hz2]; omega) (by omega)
  rw [hz1] at hmk
  have hzl := size_madeCells (Value.int .u8 0).cells (Int.toNat (n : Int) * 1)
  generalize madeCells (Value.int .u8 0).cells (Int.toNat (n : Int) * 1) = Z at hmk hzl
  simp only [Int.toNat_natCast, Nat.mul_one] at hmk hzl
  have HZ := Lib.hid hzl
  have HL := Lib.hid hlen
  clear hzl hz0 hz1 hz2 hi hlen
  go_enter Tryd.func47, Tryd.ntmps47
  go_wp2_with (refine wpList_copy_splice rfl (.tmp 10) (.tmp 11) 35 35 rfl 5 Tryd.underlying35 (by kernel_rfl) (some ⟨w.heap.size, 0, none⟩) A n n n cap rfl rfl w.heap.size 0 Z.toList 5 ?hg (l.map bv) ?hn ?hpos ?hfit ?h1 w.heap.size w ?hb ?hBg ?hK)
  case hg => simpa using hp_new w (.cells Z 5)
  case hn => simp [HL.out]
  case hpos =>
    intro h0
    have h0' : 0 < l.length := by simpa using h0
    obtain ⟨b, o, rfl, hb, hc⟩ := h.at_ (by have := h.le; have := HL.out; omega)
    have hcc : ∀ (j : Nat) (v : Value), (l.map bv)[j]? = some v → (w.alloc (.cells Z 5)).cell? ((⟨b, o, none⟩ : Addr).add j) = some v := by
      intro j v hv
      rw [World.cell?_alloc_old _ _ _ (by unfold Addr.add; split <;> (simp; omega)), ← hc j v hv]
      unfold Addr.add
      split
      · rename_i h0; subst h0; rfl
      · rfl
    exact ⟨_, rfl, fun j a ha => hcc j _ (by rw [List.getElem?_map, ha]; rfl)⟩
  case hfit => simp [HL.out, HZ.out]
  case h1 => intro v hv; obtain ⟨b, _, rfl⟩ := List.mem_map.1 hv; rfl
  case hb => exact (Below.refl _ _).alloc (Nat.le_refl _) _
  case hBg => exact Nat.le_refl _
  case hK =>
    intro w1 hg1 hb1
    have hg1 := hg1.out
    have hspl : splice Z.toList 0 (l.map bv) = l.map bv := by
      simp [splice, HL.out, HZ.out]
    rw [hspl] at hg1
    have HG := Lib.hid hg1
    clear hg1 hspl hmk
    go_wp2
    go_loopg [4, 5, 6, 15] (n) (fun k nn _ _ i wr => ∃ (j m : Nat) (cur : List Value), j ≤ n ∧ k = n - j ∧ i = .int .i64 j ∧ nn = .int .i64 m ∧ m = (nrmTo l j).length ∧
      wr.heap[w.heap.size]? = some (.cells cur.toArray 5) ∧ cur.length = n ∧ cur.take m = (nrmTo l j).map bv ∧ (∀ i, j ≤ i → cur[i]? = (l.map bv)[i]?) ∧ Below w.heap.size w wr)
    case atStart => exact ⟨0, 0, l.map bv, Nat.zero_le _, rfl, rfl, rfl, rfl, HG.out, by simp [HL.out], rfl, fun _ _ => rfl, hb1⟩
    case round =>
      clear hb1
      obtain ⟨j, m, cur, hj, rfl, rfl, rfl, hmm, hg, hcl, hct, hcr, hb⟩ := hrel
      have hmj := nrmTo_le l j
      rw [← hmm] at hmj
      by_cases hlt : j < n
      · obtain ⟨x, hx⟩ : ∃ x, l[j]? = some x := ⟨_, List.getElem?_eq_getElem (by rw [HL.out]; exact hlt)⟩
        have hcj : wr.cell? ⟨w.heap.size, j, none⟩ = some (.int .u8 (x.toNat : Int)) := by
          rw [cell_of _ hg, List.getElem?_toArray, hcr j (Nat.le_refl _), List.getElem?_map, hx]; rfl
        obtain ⟨v, hv⟩ : ∃ v, cur[m]? = some v := ⟨_, List.getElem?_eq_getElem (by omega)⟩
        have hcm : wr.cell? ⟨w.heap.size, m, none⟩ = some v := by rw [cell_of _ hg, List.getElem?_toArray, hv]
        have hfm := free_of m hg
        have hsz := lt_of hg
        have hmn : m < n := by omega
        have hpre := fun v => list_keep cur m v _ hct (by omega)
        have hrest : ∀ (v : Value) (i : Nat), j + 1 ≤ i → (cur.set m v)[i]? = (l.map bv)[i]? := fun v i hi => by
          rw [List.getElem?_set_ne (by omega)]; exact hcr i (by omega)
        have HH := Lib.hid (And.intro hmm (And.intro hg (And.intro hcl (And.intro hct (And.intro hcr (And.intro hpre (And.intro hrest hx)))))))
        clear hmm hg hcl hct hcr hpre hrest hx hv
        have hjn : (j : Int) < (n : Int) := by omega
        have hmni : (m : Int) < (n : Int) := by omega
        by_cases hx13 : x = 13
        · subst hx13
          by_cases hlast : j + 1 < n
          · obtain ⟨b, o, y, rfl, hbB, hy, hcy⟩ := h.cell (i := j + 1) hlast
            have hcy' : wr.cell? ⟨b, o + (j + 1), none⟩ = some (.int .u8 (y.toNat : Int)) := by rw [hb.cell (by simpa using Nat.lt_of_lt_of_le hbB hB)]; exact hcy
            have hj1 : (j : Int) + 1 < (n : Int) := by omega
            by_cases hy10 : y = 10
            · subst hy10
              have HY := Lib.hid hy
              clear hy hcy
              go_wp2
              go_roundg (n - (j + 1))
              case measure => omega
              case rel =>
                obtain ⟨hmm, hg, hcl, hct, hcr, hpre, hrest, hx⟩ := HH.out
                have hkp : kp l j = [] := by simp [kp, hx, HY.out]
                refine ⟨j + 1, m, cur, by omega, rfl, rfl, rfl, by rw [nrmTo, hkp, List.append_nil]; exact hmm, hg, hcl, by rw [nrmTo, hkp, List.append_nil]; exact hct, fun i hi => hcr i (by omega), hb⟩
            · have ht : ((y.toNat : Int) == 10) = false := by
                have := toNat_eq y 10
                rw [decide_eq_false hy10] at this; exact this
              have HY := Lib.hid (And.intro hy hy10)
              clear hy hcy hy10
              go_wp2
              go_roundg (n - (j + 1))
              case measure => omega
              case rel =>
                obtain ⟨hmm, hg, hcl, hct, hcr, hpre, hrest, hx⟩ := HH.out
                have hkp : kp l j = [10] := by simp [kp, hx, HY.out.1, HY.out.2]
                refine ⟨j + 1, m + 1, cur.set m (bv 10), by omega, rfl, rfl, rfl, by rw [nrmTo, hkp, List.length_append, ← hmm]; rfl, block_set hg, by rw [List.length_set]; exact hcl, by rw [nrmTo, hkp, List.map_append]; exact hpre _, fun i hi => hrest _ i hi, hb.setCell (p := ⟨w.heap.size, m, none⟩) (Nat.le_refl _) _⟩
          · have hj1 : ¬ (j : Int) + 1 < (n : Int) := by omega
            have hnone : l[j + 1]? = none := List.getElem?_eq_none (by rw [HL.out]; omega)
            have HY := Lib.hid hnone
            clear hnone
            go_wp2
            go_roundg (n - (j + 1))
            case measure => omega
            case rel =>
              obtain ⟨hmm, hg, hcl, hct, hcr, hpre, hrest, hx⟩ := HH.out
              have hkp : kp l j = [10] := by simp [kp, hx, HY.out]
              refine ⟨j + 1, m + 1, cur.set m (bv 10), by omega, rfl, rfl, rfl, by rw [nrmTo, hkp, List.length_append, ← hmm]; rfl, block_set hg, by rw [List.length_set]; exact hcl, by rw [nrmTo, hkp, List.map_append]; exact hpre _, fun i hi => hrest _ i hi, hb.setCell (p := ⟨w.heap.size, m, none⟩) (Nat.le_refl _) _⟩
        · have ht : ((x.toNat : Int) == 13) = false := by
            have := toNat_eq x 13
            rw [decide_eq_false hx13] at this; exact this
          have HX := Lib.hid hx13
          clear hx13
          go_wp2
          go_roundg (n - (j + 1))
          case measure => omega
          case rel =>
            obtain ⟨hmm, hg, hcl, hct, hcr, hpre, hrest, hx⟩ := HH.out
            have hkp : kp l j = [x] := by simp [kp, hx, HX.out]
            refine ⟨j + 1, m + 1, cur.set m (bv x), by omega, rfl, rfl, rfl, by rw [nrmTo, hkp, List.length_append, ← hmm]; rfl, block_set hg, by rw [List.length_set]; exact hcl, by rw [nrmTo, hkp, List.map_append]; exact hpre _, fun i hi => hrest _ i hi, hb.setCell (p := ⟨w.heap.size, m, none⟩) (Nat.le_refl _) _⟩
      · have hje : j = n := by omega
        subst hje
        have hmn : m ≤ j := hmj
        have HH := Lib.hid (And.intro hmm (And.intro hg (And.intro hcl hct)))
        clear hmm hg hcl hct hcr
        have hjj : ¬ (j : Int) < (j : Int) := by omega
        go_wp2
        go_ret
        obtain ⟨hmm, hg, hcl, hct⟩ := HH.out
        refine ⟨some ⟨w.heap.size, 0, none⟩, m, rfl, ?_, hb⟩
        have hnr : nrm l = nrmTo l j := by rw [nrm, HL.out]
        rw [hnr]
        refine ⟨by simp [hmm], Nat.le_refl _, by unfold maxLen; omega, (fun e => by cases e), fun h0 => ⟨_, 0, rfl, lt_of hg, fun i u hu => ?_⟩⟩
        rw [← hct] at hu
        rw [cell_of _ hg, List.getElem?_toArray, Nat.zero_add]
        rw [List.getElem?_take] at hu
        split at hu
        · exact hu
        · cases hu
set_option maxRecDepth 100000 in
set_option maxHeartbeats 4000000 in
theorem refNorm_c (A : Option Addr) (n cap : Nat) (l : List UInt8) (w : World) (B : Nat) (h : Byt w B A n cap l) (hB : B ≤ w.heap.size) (hm : n ≤ 2000000) :
    Calls Tryd.prog 52 #[.slice A n cap] w fun e w' => ∃ A' m c, e = .returned (.slice A' m c) ∧ Byt w' w'.heap.size A' m c (nrm l) ∧ Below w.heap.size w w' := by
  have HL := Lib.hid h.length
  go_enter Tryd.func52, Tryd.ntmps52
  go_wp2
  go_loopg [3, 4] (n) (fun k v i wr => ∃ (j m : Nat), j ≤ n ∧ k = n - j ∧ i = .int .i64 j ∧ m = (nrmTo l j).length ∧
    wr.ownsRow w.heap.size 5 1 v m ((nrmTo l j).map bv) ∧ Below w.heap.size w wr)
  case atStart => exact ⟨0, 0, Nat.zero_le _, rfl, rfl, rfl, World.ownsRow_nil _ _ _ _, Below.refl _ _⟩
  case round =>
    obtain ⟨j, m, hj, rfl, rfl, hmm, hown, hb⟩ := hrel
    have hmj := nrmTo_le l j
    rw [← hmm] at hmj
    by_cases hlt : j < n
    · obtain ⟨b, o, x, rfl, hbB, hx, hcx⟩ := h.cell (i := j) hlt
      have hcx' : wr.cell? ⟨b, o + j, none⟩ = some (.int .u8 (x.toNat : Int)) := by rw [hb.cell (by simpa using Nat.lt_of_lt_of_le hbB hB)]; exact hcx
      have HX := Lib.hid (And.intro hx hmm)
      clear hx hcx hmm
      have hjn : (j : Int) < (n : Int) := by omega
      have hsz := hb.size
      by_cases hx13 : x = 13
      · subst hx13
        by_cases hlast : j + 1 < n
        · obtain ⟨b', o', y, hA, hbB', hy, hcy⟩ := h.cell (i := j + 1) hlast
          cases hA
          have hcy' : wr.cell? ⟨b, o + (j + 1), none⟩ = some (.int .u8 (y.toNat : Int)) := by rw [hb.cell (by simpa using Nat.lt_of_lt_of_le hbB hB)]; exact hcy
          have hj1 : (j : Int) + 1 < (n : Int) := by omega
          have hj2 : ((j : Int) + 1 == (n : Int)) = false := by simp; omega
          by_cases hy10 : y = 10
          · subst hy10
            have HY := Lib.hid hy
            clear hy hcy
            go_wp2
            go_roundg (n - (j + 1))
            case measure => omega
            case rel =>
              have hkp : kp l j = [] := by simp [kp, HX.out.1, HY.out]
              exact ⟨j + 1, m, by omega, rfl, rfl, by rw [nrmTo, hkp, List.append_nil]; exact HX.out.2, by rw [nrmTo, hkp, List.append_nil]; exact hown, hb⟩
          · have ht : ((y.toNat : Int) != 10) = true := by
              have := toNat_eq y 10
              rw [decide_eq_false hy10] at this; exact bne_iff_ne.2 (by simpa using this)
            have HY := Lib.hid (And.intro hy hy10)
            clear hy hcy hy10
            go_wp2_with (at_builtin; refine wpList_app1 rfl (.tmp 36) (.tmp 37) 35 5 rfl (.int .u8 0) 1 Tryd.underlying35 info_u8 rfl w.heap.size _ m _ rfl hown (.int .u8 10) rfl rfl ?c1 (by decide) hsz w w.heap.size hb (Nat.le_refl _) ?c2)
            case c1 => omega
            case c2 =>
              intro v' w1 hown' hb1 hs1
              go_wp2
              go_roundg (n - (j + 1))
              case measure => omega
              case rel =>
                have hkp : kp l j = [10] := by simp [kp, HX.out.1, HY.out.1, HY.out.2]
                exact ⟨j + 1, m + 1, by omega, rfl, rfl, by rw [nrmTo, hkp, List.length_append, ← HX.out.2]; rfl, by rw [nrmTo, hkp, List.map_append]; exact hown', hb1⟩
        · have hj2 : ((j : Int) + 1 == (n : Int)) = true := by simp; omega
          have HY := Lib.hid (show l[j + 1]? = none from List.getElem?_eq_none (by rw [HL.out]; omega))
          go_wp2_with (at_builtin; refine wpList_app1 rfl (.tmp 36) (.tmp 37) 35 5 rfl (.int .u8 0) 1 Tryd.underlying35 info_u8 rfl w.heap.size _ m _ rfl hown (.int .u8 10) rfl rfl ?c1 (by decide) hsz w w.heap.size hb (Nat.le_refl _) ?c2)
          case c1 => omega
          case c2 =>
            intro v' w1 hown' hb1 hs1
            go_wp2
            go_roundg (n - (j + 1))
            case measure => omega
            case rel =>
              have hkp : kp l j = [10] := by simp [kp, HX.out.1, HY.out]
              exact ⟨j + 1, m + 1, by omega, rfl, rfl, by rw [nrmTo, hkp, List.length_append, ← HX.out.2]; rfl, by rw [nrmTo, hkp, List.map_append]; exact hown', hb1⟩
      · have ht : ((x.toNat : Int) != 13) = true := by
          have := toNat_eq x 13
          rw [decide_eq_false hx13] at this; exact bne_iff_ne.2 (by simpa using this)
        have HN := Lib.hid hx13
        clear hx13
        go_wp2_with (at_builtin; refine wpList_app1 rfl (.tmp 16) (.tmp 21) 35 5 rfl (.int .u8 0) 1 Tryd.underlying35 info_u8 rfl w.heap.size _ m _ rfl hown (bv x) rfl rfl ?c1 (by decide) hsz w w.heap.size hb (Nat.le_refl _) ?c2)
        case c1 => omega
        case c2 =>
          intro v' w1 hown' hb1 hs1
          go_wp2
          go_roundg (n - (j + 1))
          case measure => omega
          case rel =>
            have hkp : kp l j = [x] := by simp [kp, HX.out.1, HN.out]
            exact ⟨j + 1, m + 1, by omega, rfl, rfl, by rw [nrmTo, hkp, List.length_append, ← HX.out.2]; rfl, by rw [nrmTo, hkp, List.map_append]; exact hown', hb1⟩
    · have hje : j = n := by omega
      subst hje
      have hjj : ¬ (j : Int) < (j : Int) := by omega
      have HM := Lib.hid hmm
      clear hmm
      go_wp2
      go_ret
      obtain ⟨A', c, hv, hrd⟩ := own_form hown
      refine ⟨A', m, c, by rw [← hv]; rfl, ?_, hb⟩
      have hnr : nrm l = nrmTo l j := by rw [nrm, HL.out]
      rw [hnr]; exact hrd

theorem eolIs_c (A : Option Addr) (n cap : Nat) (l : List UInt8) (w : World) (B : Nat) (h : Byt w B A n cap l) :
    Calls Tryd.prog 49 #[.slice A n cap] w fun e w' => e = .returned (.bool (decide (Lib.indexByte l 13 < 0))) ∧ w = w' := by
  go_enter Tryd.func49, Tryd.ntmps49
  go_wp2_with (go_at_call 77; refine (indexByte_c A n cap l 13 w B h).mono ?_; rintro e w' ⟨rfl, rfl⟩)
  go_ret
  exact ⟨rfl, rfl⟩

theorem clone_c (A : Option Addr) (n cap : Nat) (l : List UInt8) (w : World) (B : Nat) (h : Byt w B A n cap l) (hm : n ≤ 2000000) :
    Calls Tryd.prog 44 #[.slice A n cap] w fun e w' => ∃ A' c, e = .returned (.slice A' n c) ∧ Byt w' w'.heap.size A' n c l ∧ Below w.heap.size w w' := by
  cases A with
  | none =>
    have hc := h.nil rfl
    have hn := h.le
    have hl := h.length
    obtain rfl : cap = 0 := hc
    obtain rfl : n = 0 := by omega
    obtain rfl : l = [] := List.length_eq_zero_iff.1 hl
    exact (Tryd.bytes_Clone_nil 0 0 w).mono fun e w' ⟨he, hw⟩ => ⟨none, 0, he, Rd.nilR _ _, by rw [hw]; exact Below.refl _ _⟩
  | some a =>
    refine (Tryd.bytes_Clone_at a n cap (nums l) w (by rw [nums_length, h.length]) (by omega) (fun i hi => ?_)).mono fun e w' ⟨v', he, hown, _, hb⟩ => ?_
    · obtain ⟨b, o, e, hc⟩ := h.cells (by have := h.le; omega)
      cases e
      rw [addr_add]
      exact hc i hi
    · obtain ⟨A', c, rfl, hr⟩ := own_form hown
      have e : (nums l).map (Value.int .u8) = l.map bv := by simp [nums, bv]
      rw [e] at hr
      exact ⟨A', c, he, hr, hb⟩

end Go.Proofs.YtljmpghijlibaaaDoor
