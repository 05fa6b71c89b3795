/- Texts of ours, joined: GrF, AtP, AtC, AtW. -/
import Derived.Test.YtfemfgkcgboopaaGreatDoorRows
import Derived.WalkKit
import Derived.ProofKit
import Derived.OpenShut
import Derived.ShutString
import Derived.ChangeOld
import Derived.Below
import Derived.BigQuiet
import Derived.Deep.QuietTactic
import Derived.Lib.Hide
import Derived.Deep.RegionHeld3
import Derived.Lib.SlBytesConst
import Derived.Laws.CopyOwn
import Derived.Laws.CopyRow
import Derived.Lib.Bytes
import Derived.Deep.LoopGhost
import Derived.Deep.DeepFit
import Derived.Deep.DeepMust
import Derived.WalkSpells
import Derived.WalkLawsBesides
import Derived.Laws.EntriesVeiled
import Derived.Laws.Rows
import Derived.Maps.OwnOps
import Derived.Maps.OwnSet
import Derived.Maps.Views
import Derived.Maps.AppendAt
import Derived.Deep.AppendLies
import Derived.DeepKeys4
import Derived.MapViews
import Derived.Maps.Keyed
import Derived.Deep.RegionLaw
import Derived.Deep.RegionWith
import Derived.Laws.MakeOwn
import Derived.Laws.OwnMore
import Derived.Test.YtfemfgkcgboopaaGreatDoorQ1
import Derived.Test.YtfemfgkcgboopaaGreatDoorQ13
import Derived.Test.YtfemfgkcgboopaaGreatDoorQ16
import Derived.Test.YtfemfgkcgboopaaGreatDoorQ2
import Derived.Test.YtfemfgkcgboopaaGreatDoorQ3
import Derived.Test.YtfemfgkcgboopaaGreatDoorQ4
import Derived.Test.YtfemfgkcgboopaaGreatDoorQ9
import Derived.Test.YtfemfgkcgboopaaGreatDoorQ14
import Derived.Test.YtfemfgkcgboopaaGreatDoorQ10
import Derived.Test.YtfemfgkcgboopaaGreatDoorQ17
import Derived.Test.YtfemfgkcgboopaaGreatDoorQ23
import Derived.Test.YtfemfgkcgboopaaGreatDoorQ24
import Derived.Test.YtfemfgkcgboopaaGreatDoorQ26
import Derived.Lib.SlTrimSet
import Derived.Laws.World
import Derived.Lib.SliceRun
import Derived.Test.YtfemfgkcgboopaaGreatDoorQ15
/- Whether an entity leads back to itself, by the document. -/
namespace Go.Proofs.YtfemfgkcgboopaaGreatDoor
open Go.ChangeShapes Go.WideShapes Go.ChangeAt Go.RowKit
set_option linter.unusedVariables false
set_option maxRecDepth 100000 in
set_option maxHeartbeats 8000000 in
/-- Whether a place leads back, by the document. -/
theorem rfLoop_c (NA : Option Addr) (nc : Nat) (TA : Option Addr) (n tc : Nat) (rs : List IRow) (g : List (List Nat)) (w : World) (hrs : rs.map IRow.l = g) (h : GRd w w.heap.size TA n tc rs) (hok : okG g) (hm : n ≤ 1000) (hs : ∀ t ∈ g, t.length ≤ 100000) :
    Calls Tryz.prog 17 #[.agg #[.slice NA n nc, .slice TA n tc]] w fun e w' => ∃ r : Int, e = .returned (.int .i64 r) ∧ (0 ≤ r ↔ ∃ i, Way g i i) ∧ Below w.heap.size w w' := by
  have hln : g.length = n := by rw [← hrs, List.length_map]; exact h.row.len
  have HP : Hid (∀ W, Below w.heap.size w W → GRd W W.heap.size TA n tc rs) := Lib.hid fun W hb => (h.below hb).more hb.size
  have CL : Hid (∀ W, Below w.heap.size w W → ∀ t : Nat, t ≤ 1000 → Calls Tryz.prog 34 #[.agg #[.slice NA n nc, .slice TA n tc], .int .i64 (t : Int)] W fun e w' => e = .returned (.slice (some ⟨W.heap.size + 1, 0, none⟩) n n) ∧ w'.heap[W.heap.size + 1]? = some (.cells (bsB (leadsL g t)) 4 (0, 0)) ∧ Below W.heap.size W w') := Lib.hid fun W hb t ht => rfLeads_c NA nc TA n tc t rs g W hrs (HP.out W hb) hok hm hs (by omega)
  have HLD : Hid (∀ t, (leadsL g t).getD t false = true ↔ Way g t t) := Lib.hid fun t => leads_iff hok t t
  have HLN := Lib.hid hln
  have J0 := Lib.hid (CJ.start 48 w #[.slice NA n nc, .slice TA n tc])
  clear h hok hrs hln hs HP
  go_enter Tryz.func17, Tryz.ntmps17
  go_wp2_with fail
  go_loopg [3] (n) (fun gq i wr => ∃ t : Nat, i = .int .i64 (t : Int) ∧ t ≤ n ∧ Hid (gq + t = n) ∧ Hid (CJ 48 w wr #[.slice NA n nc, .slice TA n tc]) ∧ Hid (∀ i < t, ¬ Way g i i))
  case atStart => exact ⟨0, rfl, Nat.zero_le _, Lib.hid rfl, J0, Lib.hid fun i hi => absurd hi (by omega)⟩
  case round =>
    clear J0
    obtain ⟨t, rfl, ht, hg, HJ, HN⟩ := hrel
    have ht0 : (0 : Int) ≤ (t : Int) := by omega
    have ht9 : (t : Int) ≤ 1000 := by omega
    have z0 := cell_of 0 HJ.out.2
    have z1 := cell_of 1 HJ.out.2
    by_cases htn : t < n
    · have hti : (t : Int) < (n : Int) := by omega
      have C1 := Lib.hid (CL.out wr HJ.out.1 t (by omega))
      have htl : t < (leadsL g t).length := by rw [leadsL_len, HLN.out]; exact htn
      obtain ⟨b, hb⟩ : ∃ q, (leadsL g t).getD t false = q := ⟨_, rfl⟩
      have HB := Lib.hid hb
      clear hb
      go_wp2_with fail
      refine C1.out.mono ?_
      rintro e w1 ⟨rfl, hq, hb⟩
      have c1 : w1.cell? ⟨wr.heap.size + 1, t, none⟩ = some (.bool b) := by rw [cell_of t hq, bsB_get _ t htl, HB.out]
      have HJ1 := Lib.hid (HJ.out.kept hb)
      clear hq hb C1 z0 z1 htl
      cases b with
      | true =>
        have HW : Hid (0 ≤ (t : Int) ↔ ∃ i, Way g i i) := Lib.hid ⟨fun _ => ⟨t, (HLD.out t).1 HB.out⟩, fun _ => by omega⟩
        go_wp2
        go_ret
        exact ⟨_, rfl, HW.out, HJ1.out.1⟩
      | false =>
        have HN2 : Hid (∀ i < t + 1, ¬ Way g i i) := Lib.hid fun i hi hw => by
          by_cases hit : i = t
          · subst hit
            have := (HLD.out i).2 hw
            rw [HB.out] at this
            cases this
          · exact HN.out i (by omega) hw
        go_wp2
        go_roundg (n - (t + 1))
        case measure => have := hg.out; omega
        case rel => exact ⟨t + 1, by go_num, by omega, Lib.hid (by have := hg.out; omega), HJ1, HN2⟩
    · have hti : ¬ (t : Int) < (n : Int) := by omega
      have HW : Hid ((0 : Int) ≤ -1 ↔ ∃ i, Way g i i) := Lib.hid ⟨fun h => by omega, fun ⟨i, hi⟩ => absurd hi (HN.out i (by have := hi.lt; rw [HLN.out] at this; omega))⟩
      go_wp2
      go_ret
      exact ⟨_, rfl, HW.out, HJ.out.1⟩
theorem graph_rows (l : List EntT) (hx : ∀ x ∈ l, x.tx.length ≤ 20000) : ∀ t ∈ graphE l, t.length ≤ 100000 := by
  intro t ht
  unfold graphE at ht
  obtain ⟨x, hx1, rfl⟩ := List.mem_map.1 ht
  have h1 := toE_len ((innerE l).map EntT.nm) (eachL x.tx)
  have h2 := eachL_len x.tx
  have h3 := hx x ((inner_sub l [] x (fun _ h => h) hx1).resolve_right (fun h => by cases h))
  omega
set_option maxRecDepth 100000 in
set_option maxHeartbeats 8000000 in
/-- Whether an entity leads back to itself, by the document. -/
theorem rfLoops_c (A : Option Addr) (n cap : Nat) (l : List EntT) (w : World) (h : RRd cE 6 w w.heap.size A n cap l) (hm : n ≤ 1000) (hx : ∀ x ∈ l, x.tx.length ≤ 20000) :
    Calls Tryz.prog 7 #[.slice A n cap] w fun e w' => ∃ b : Bool, e = .returned (.bool b) ∧ (b = true ↔ loopsE l) ∧ Below w.heap.size w w' := by
  have C1 := Lib.hid (rfOf_c A n cap l w h hm hx)
  have hin : (innerE l).length ≤ 1000 := by have := inner_len l []; have := h.len; unfold innerE; simp only [List.length_nil] at *; omega
  have HGR := Lib.hid (graph_rows l hx)
  clear h hx
  go_enter Tryz.func7, Tryz.ntmps7
  go_wp2_with fail
  refine C1.out.mono ?_
  rintro e w1 ⟨NA, nc, TA, tc, rs, rfl, hrs, _, hgr, hb⟩
  have C2 := Lib.hid (rfLoop_c NA nc TA (innerE l).length tc rs (graphE l) w1 hrs hgr (graphE_ok l) hin HGR.out)
  have HB := Lib.hid hb
  clear hrs hgr hb C1
  go_wp2_with fail
  refine C2.out.mono ?_
  rintro e w2 ⟨r, rfl, hr, hb⟩
  have HB2 := Lib.hid (HB.out.trans (hb.mono HB.out.size))
  have HR := Lib.hid hr
  clear hb hr C2
  go_wp2
  go_ret
  exact ⟨decide (0 ≤ r), rfl, by rw [decide_eq_true_eq]; exact HR.out, HB2.out⟩
def sumT (l : List EntT) : Nat := (l.map (fun x => x.tx.length)).sum
theorem sumT_take {l : List EntT} {t : Nat} {x : EntT} (h : l[t]? = some x) : sumT (l.take (t + 1)) = sumT (l.take t) + x.tx.length := by
  unfold sumT
  rw [List.take_add_one, h, List.map_append, List.sum_append]
  simp
theorem sumT_le (l : List EntT) (b : Nat) (h : ∀ x ∈ l, x.tx.length ≤ b) : sumT l ≤ l.length * b := by
  unfold sumT
  induction l with
  | nil => simp
  | cons x l ih =>
    have h1 := ih fun y hy => h y (List.mem_cons_of_mem _ hy)
    have h2 := h x List.mem_cons_self
    simp only [List.map_cons, List.sum_cons, List.length_cons, Nat.add_mul]
    omega
/-- More than is asked? -/
def muchE (l : List EntT) : Bool := decide (24 < l.length) || decide (1500 < sumT (l.take 50))
set_option maxRecDepth 100000 in
set_option maxHeartbeats 8000000 in
theorem rfMuch_c (A : Option Addr) (n cap : Nat) (l : List EntT) (w : World) (h : RRd cE 6 w w.heap.size A n cap l) (hx : ∀ x ∈ l, x.tx.length ≤ 281474976710656) :
    Calls Tryz.prog 6 #[.slice A n cap] w fun e w' => e = .returned (.bool (muchE l)) ∧ Below w.heap.size w w' := by
  have HP : Hid (∀ W, Below w.heap.size w W → RRd cE 6 W W.heap.size A n cap l) := Lib.hid fun W hb => (h.below hb).more hb.size
  have HL : Hid (l.length = n) := Lib.hid h.len
  have HX : Hid (∀ t, t ≤ 50 → sumT (l.take t) ≤ 14073748835532800) := Lib.hid fun t ht => by
    have h1 := sumT_le (l.take t) 281474976710656 fun x hx2 => hx x (List.mem_of_mem_take hx2)
    have h2 : (l.take t).length ≤ 50 := by rw [List.length_take]; omega
    have h3 : (l.take t).length * 281474976710656 ≤ 50 * 281474976710656 := Nat.mul_le_mul_right _ h2
    omega
  have hfit : n ≤ maxLen := Nat.le_trans h.le h.fit
  have hfit2 : n ≤ 9223372036854775807 := by unfold maxLen at hfit; omega
  clear h hx hfit
  go_enter Tryz.func6, Tryz.ntmps6
  go_wp2
  go_loopg [3, 4] (50) (fun g s i wr => ∃ t : Nat, i = .int .i64 (t : Int) ∧ t ≤ n ∧ t ≤ 50 ∧ Hid (g + t = 50) ∧ s = .int .i64 ((sumT (l.take t) : Nat) : Int) ∧ Hid (Below w.heap.size w wr))
  case atStart => exact ⟨0, rfl, Nat.zero_le _, Nat.zero_le _, Lib.hid rfl, rfl, Lib.hid (Below.refl _ _)⟩
  case round =>
    obtain ⟨t, rfl, ht, ht5, hg, rfl, HB⟩ := hrel
    have ht0 : (0 : Int) ≤ (t : Int) := by omega
    by_cases htn : t < n ∧ t < 50
    · obtain ⟨htn, ht50⟩ := htn
      have hti : (t : Int) < (n : Int) := by omega
      have htj : (t : Int) < 50 := by omega
      obtain ⟨b1, o1, x, rfl, hb1, hx, hc1⟩ := (HP.out wr HB.out).cell htn
      have y1 : wr.cell? ⟨b1, o1 + t * 6 + 1, none⟩ = some (.string ⟨x.tx.toArray⟩) := by rw [show o1 + t * 6 + 1 = o1 + (t * 6 + 1) by omega]; exact hc1 1 _ rfl
      have HT := Lib.hid (sumT_take hx)
      have hs1 := HX.out (t + 1) (by omega)
      rw [HT.out] at hs1
      obtain ⟨s, hs⟩ : ∃ q, sumT (l.take t) = q := ⟨_, rfl⟩
      obtain ⟨xt, hxt⟩ : ∃ q, x.tx = q := ⟨_, rfl⟩
      rw [hs, hxt] at HT hs1
      rw [hxt] at y1
      rw [hs]
      have hsz : (⟨xt.toArray⟩ : ByteArray).size = xt.length := by simp [ByteArray.size]
      have hwr : IntKind.i64.wrap ((s : Int) + (xt.length : Int)) = ((s + xt.length : Nat) : Int) := by rw [IntKind.wrap_i64]; omega
      clear hb1 hx hc1 hs hxt hs1
      go_wp2
      go_roundg (50 - (t + 1))
      case measure => have := hg.out; omega
      case rel => exact ⟨t + 1, by go_num, by omega, by omega, Lib.hid (by have := hg.out; omega), by rw [HT.out, Int.natCast_add], HB⟩
    · have hE : Hid (muchE l = (decide (24 < n) || decide (1500 < sumT (l.take t)))) := Lib.hid (by
        unfold muchE
        rw [HL.out]
        by_cases h50 : t = 50
        · rw [h50]
        · have htn2 : t = n := by omega
          rw [List.take_of_length_le (by rw [HL.out]; omega), List.take_of_length_le (by rw [HL.out]; omega)])
      have hs1 := HX.out t ht5
      obtain ⟨s, hs⟩ : ∃ q, sumT (l.take t) = q := ⟨_, rfl⟩
      rw [hs] at hE hs1 ⊢
      have HEND : Hid (t < n → ¬ t < 50) := Lib.hid fun h1 h2 => htn ⟨h1, h2⟩
      clear htn hs
      by_cases htn : t < n
      · have hti : (t : Int) < (n : Int) := by omega
        have htj : ¬ (t : Int) < 50 := by have := HEND.out htn; omega
        by_cases h24 : 24 < n
        · have h24i : (n : Int) > 24 := by omega
          have hE2 : Hid (muchE l = true) := Lib.hid (by rw [hE.out]; simp [h24])
          clear hs1
          go_wp2
          go_ret
          exact ⟨by rw [hE2.out]; rfl, HB.out⟩
        · exfalso
          have := HEND.out htn
          omega
      · have hti : ¬ (t : Int) < (n : Int) := by omega
        by_cases h24 : 24 < n
        · have h24i : (n : Int) > 24 := by omega
          have hE2 : Hid (muchE l = true) := Lib.hid (by rw [hE.out]; simp [h24])
          clear hs1
          go_wp2
          go_ret
          exact ⟨by rw [hE2.out]; rfl, HB.out⟩
        · have h24i : ¬ (n : Int) > 24 := by omega
          by_cases h15 : 1500 < s
          · have h15i : (s : Int) > 1500 := by omega
            have hE2 : Hid (muchE l = true) := Lib.hid (by rw [hE.out]; simp [h15])
            clear hs1
            go_wp2
            go_ret
            exact ⟨by rw [hE2.out]; rfl, HB.out⟩
          · have h15i : ¬ (s : Int) > 1500 := by omega
            have hE2 : Hid (muchE l = false) := Lib.hid (by rw [hE.out]; simp [h24, h15])
            clear hs1
            go_wp2
            go_ret
            exact ⟨by rw [hE2.out]; rfl, HB.out⟩
end Go.Proofs.YtfemfgkcgboopaaGreatDoor
/- Values without needless blanks. -/
namespace Go.Proofs.YtfemfgkcgboopaaGreatDoor
open Go.ChangeShapes Go.WideShapes Go.ChangeAt Go.RowKit
set_option linter.unusedVariables false
/-- Blanks that follow on blanks go; p: was a blank last? -/
def compW : Bool → List UInt8 → List UInt8
  | _, [] => []
  | p, c :: t => if c = 32 then (if p = true then compW true t else 32 :: compW true t) else c :: compW false t
def dropT (l : List UInt8) : List UInt8 := if l.getLast? = some 32 then l.dropLast else l
/-- A value without needless blanks. -/
def trimT (s : List UInt8) : List UInt8 := dropT (compW true s)
/-- As the document goes over it. -/
def tR : List UInt8 → List UInt8 → List UInt8
  | out, [] => out
  | out, c :: t => if c ≠ 32 then tR (out ++ [c]) t else if out ≠ [] ∧ out.getLast? ≠ some 32 then tR (out ++ [32]) t else tR out t
def skipB (out : List UInt8) : Bool := out.isEmpty || decide (out.getLast? = some 32)
theorem skip_snoc (out : List UInt8) (c : UInt8) : skipB (out ++ [c]) = decide (c = 32) := by
  simp [skipB]
theorem tR_comp : ∀ (t out : List UInt8), tR out t = out ++ compW (skipB out) t
  | [], out => by simp [tR, compW]
  | c :: t, out => by
    rw [tR, compW]
    by_cases hc : c = 32
    · subst hc
      rw [if_neg (by simp), if_pos rfl]
      cases hs : skipB out with
      | true =>
        have : ¬ (out ≠ [] ∧ out.getLast? ≠ some 32) := by
          simp only [skipB, Bool.or_eq_true, List.isEmpty_iff, decide_eq_true_eq] at hs
          rintro ⟨a, b⟩
          rcases hs with h | h
          · exact a h
          · exact b h
        rw [if_neg this, if_pos rfl, tR_comp t out, hs]
      | false =>
        have : out ≠ [] ∧ out.getLast? ≠ some 32 := by
          simp only [skipB, Bool.or_eq_false_iff, decide_eq_false_iff_not] at hs
          exact ⟨fun e => by rw [e] at hs; exact absurd hs.1 (by decide), hs.2⟩
        rw [if_pos this, if_neg (by simp), tR_comp t (out ++ [32]), skip_snoc]
        simp
    · rw [if_pos hc, if_neg hc, tR_comp t (out ++ [c]), skip_snoc, decide_eq_false hc]
      simp
theorem tR_all (s : List UInt8) : dropT (tR [] s) = trimT s := by
  rw [tR_comp]
  rfl
/-- What stands between the outer blanks, blanks that follow on blanks gone. -/
theorem comp_skip : ∀ s : List UInt8, compW true s = compW true (s.dropWhile ([32].contains ·))
  | [] => rfl
  | c :: t => by
    by_cases hc : c = 32
    · subst hc
      rw [compW, if_pos rfl, if_pos rfl, comp_skip t, List.dropWhile_cons_of_pos (by decide)]
    · rw [List.dropWhile_cons_of_neg (by simp [hc])]
theorem comp_free : ∀ (s : List UInt8), s.head? ≠ some 32 → compW true s = compW false s
  | [], _ => rfl
  | c :: t, h => by
    have hc : c ≠ 32 := fun e => h (by simp [e])
    rw [compW, compW, if_neg hc, if_neg hc]
theorem comp_blanks : ∀ k : Nat, compW true (List.replicate k 32) = []
  | 0 => rfl
  | k + 1 => by rw [List.replicate_succ, compW, if_pos rfl, if_pos rfl, comp_blanks k]
theorem comp_last : ∀ (r : List UInt8) (p : Bool) (c : UInt8), r.getLast? = some c → c ≠ 32 → (compW p r).getLast? = some c
  | [], p, c, h, _ => by cases h
  | [d], p, c, h, hc => by
    simp at h
    subst h
    rw [compW, if_neg hc]
    rfl
  | d :: e :: t, p, c, h, hc => by
    rw [List.getLast?_cons_cons] at h
    have key : ∀ q, (compW q (e :: t)).getLast? = some c := fun q => comp_last (e :: t) q c h hc
    have two : ∀ (x : UInt8) (l : List UInt8), l.getLast? = some c → (x :: l).getLast? = some c := fun x l hl => by
      cases l with
      | nil => cases hl
      | cons y l => rwa [List.getLast?_cons_cons]
    rw [compW]
    by_cases hd : d = 32
    · rw [if_pos hd]
      cases p with
      | true => rw [if_pos rfl]; exact key true
      | false => rw [if_neg (by simp)]; exact two _ _ (key true)
    · rw [if_neg hd]
      exact two _ _ (key false)
theorem comp_tail : ∀ (r : List UInt8) (p : Bool) (c : UInt8) (k : Nat), r.getLast? = some c → c ≠ 32 → compW p (r ++ List.replicate k 32) = compW p r ++ (if k = 0 then [] else [32])
  | [], p, c, k, h, _ => by cases h
  | [d], p, c, k, h, hc => by
    simp at h
    subst h
    rw [List.cons_append, List.nil_append, compW, if_neg hc, compW, if_neg hc, List.cons_append]
    congr 1
    cases k with
    | zero => rfl
    | succ k => rw [List.replicate_succ]; simp [compW, comp_blanks]
  | d :: e :: t, p, c, k, h, hc => by
    rw [List.getLast?_cons_cons] at h
    have key := fun q => comp_tail (e :: t) q c k h hc
    rw [List.cons_append, compW, compW]
    by_cases hd : d = 32
    · rw [if_pos hd, if_pos hd, key true]
      cases p <;> simp
    · rw [if_neg hd, if_neg hd, key false, List.cons_append]
theorem right_split (s : List UInt8) : ∃ k, s = Lib.trimRightS s [32] ++ List.replicate k 32 := by
  unfold Lib.trimRightS
  have key : ∀ l : List UInt8, ∃ k, l = List.replicate k 32 ++ l.dropWhile ([32].contains ·) := by
    intro l
    induction l with
    | nil => exact ⟨0, rfl⟩
    | cons c t ih =>
      by_cases hc : c = 32
      · subst hc
        obtain ⟨k, hk⟩ := ih
        refine ⟨k + 1, ?_⟩
        rw [List.dropWhile_cons_of_pos (by decide), List.replicate_succ, List.cons_append, ← hk]
      · exact ⟨0, by rw [List.dropWhile_cons_of_neg (by simp [hc])]; rfl⟩
  obtain ⟨k, hk⟩ := key s.reverse
  refine ⟨k, ?_⟩
  have := congrArg List.reverse hk
  rwa [List.reverse_reverse, List.reverse_append, List.reverse_replicate] at this
theorem drop_head (l : List UInt8) : (l.dropWhile ([32].contains ·)).head? ≠ some 32 := by
  induction l with
  | nil => simp
  | cons c t ih =>
    by_cases hc : c = 32
    · subst hc; rw [List.dropWhile_cons_of_pos (by decide)]; exact ih
    · rw [List.dropWhile_cons_of_neg (by simp [hc])]; simpa using hc
theorem right_last (s : List UInt8) : (Lib.trimRightS s [32]).getLast? ≠ some 32 := by
  unfold Lib.trimRightS
  rw [List.getLast?_reverse]
  exact drop_head _
theorem trim_comp (s : List UInt8) : compW false (Lib.trimS s [32]) = trimT s := by
  obtain ⟨k, hk⟩ := right_split s
  have hl := right_last s
  unfold Lib.trimS Lib.trimLeftS trimT
  generalize Lib.trimRightS s [32] = r at *
  rw [← comp_free _ (drop_head r), ← comp_skip, hk]
  cases hr : r.getLast? with
  | none =>
    have : r = [] := List.getLast?_eq_none_iff.1 hr
    subst this
    rw [List.nil_append, comp_blanks]
    rfl
  | some c =>
    have hc : c ≠ 32 := fun e => hl (by rw [hr, e])
    rw [comp_tail r true c k hr hc]
    have hcl := comp_last r true c hr hc
    unfold dropT
    by_cases h0 : k = 0
    · rw [if_pos h0, List.append_nil, if_neg (by rw [hcl]; intro e; exact hc (Option.some.inj e))]
    · rw [if_neg h0, if_pos (by simp), List.dropLast_concat]
def lastB : Bool → List UInt8 → Bool
  | p, [] => p
  | _, c :: t => lastB (decide (c = 32)) t
theorem lastB_snoc : ∀ (l : List UInt8) (p : Bool) (c : UInt8), lastB p (l ++ [c]) = decide (c = 32)
  | [], p, c => rfl
  | d :: l, p, c => by rw [List.cons_append, lastB]; exact lastB_snoc l _ c
theorem comp_snoc : ∀ (l : List UInt8) (p : Bool) (c : UInt8), compW p (l ++ [c]) = compW p l ++ (if (decide (c = 32) && lastB p l) = true then [] else [c])
  | [], p, c => by
    by_cases hc : c = 32
    · subst hc; cases p <;> simp [compW, lastB]
    · simp [compW, hc]
  | d :: l, p, c => by
    rw [List.cons_append, compW, compW, lastB]
    by_cases hd : d = 32
    · rw [if_pos hd, if_pos hd, comp_snoc l true c, decide_eq_true hd]
      cases p <;> simp
    · rw [if_neg hd, if_neg hd, comp_snoc l false c, decide_eq_false hd, List.cons_append]
theorem comp_take {l : List UInt8} {m : Nat} {a b : UInt8} (ha : l[m]? = some a) (hb : l[m + 1]? = some b) : compW false (l.take (m + 1 + 1)) = compW false (l.take (m + 1)) ++ (if (decide (b = 32) && decide (a = 32)) = true then [] else [b]) := by
  have e1 : l.take (m + 1) = l.take m ++ [a] := by rw [List.take_add_one, ha]; rfl
  have e2 : l.take (m + 1 + 1) = l.take (m + 1) ++ [b] := by rw [List.take_add_one, hb]; rfl
  rw [e2, comp_snoc, e1, lastB_snoc]
theorem comp_one {l : List UInt8} {a : UInt8} (ha : l[0]? = some a) : compW false (l.take 1) = [a] := by
  cases l with
  | nil => cases ha
  | cons c t =>
    simp at ha
    subst ha
    by_cases hc : c = 32
    · subst hc; simp [compW]
    · simp [compW, hc]
theorem comp_len : ∀ (l : List UInt8) (p : Bool), (compW p l).length ≤ l.length
  | [], p => Nat.le_refl _
  | c :: t, p => by
    have h1 := comp_len t true
    have h2 := comp_len t false
    rw [compW, List.length_cons]
    by_cases hc : c = 32
    · rw [if_pos hc]
      split
      · omega
      · rw [List.length_cons]; omega
    · rw [if_neg hc, List.length_cons]; omega
end Go.Proofs.YtfemfgkcgboopaaGreatDoor
/- slices.CompactFunc of bytes. -/
namespace Go.Proofs.YtfemfgkcgboopaaGreatDoor
open Go.ChangeShapes Go.WideShapes Go.ChangeAt Go.RowKit
set_option linter.unusedVariables false
/-- Bytes that lie in a block of the call's own, from a place on, and can be written. -/
def BytM (w : World) (b off : Nat) (l : List UInt8) : Prop := ∀ (j : Nat) x, l[j]? = some x → w.cell? ⟨b, off + j, none⟩ = some (bv x) ∧ w.frozen? ⟨b, off + j, none⟩ = false
theorem BytM.set {w : World} {b off kk : Nat} {l : List UInt8} (h : BytM w b off l) (hk : kk < l.length) (u : UInt8) : BytM (w.setCell ⟨b, off + kk, none⟩ (bv u)) b off (l.set kk u) := fun j x hj => by
  rw [List.getElem?_set] at hj
  by_cases e : kk = j
  · subst e
    rw [if_pos rfl, if_pos hk] at hj
    cases hj
    have h1 := h kk l[kk] (List.getElem?_eq_getElem hk)
    exact ⟨World.cell?_setCell_same _ _ _ h1.1, by rw [World.frozen?_setCell]; exact h1.2⟩
  · rw [if_neg e] at hj
    have h1 := h j x hj
    refine ⟨?_, by rw [World.frozen?_setCell]; exact h1.2⟩
    exact (World.cell?_setCell_other _ _ _ _ (by intro he; injection he with _ h2 _; omega)).trans h1.1
theorem BytM.take {w : World} {b off : Nat} {l : List UInt8} (h : BytM w b off l) (k : Nat) : BytM w b off (l.take k) := fun j x hj => h j x (by
  rw [List.getElem?_take] at hj
  split at hj
  · exact hj
  · cases hj)
theorem BytM.drop {w : World} {b off : Nat} {l : List UInt8} (h : BytM w b off l) (k : Nat) : BytM w b (off + k) (l.drop k) := fun j x hj => by
  rw [List.getElem?_drop] at hj
  have := h (k + j) x hj
  rwa [← Nat.add_assoc] at this
theorem BytM.byt {w : World} {b off cap : Nat} {l : List UInt8} (h : BytM w b off l) (hb : b < w.heap.size) (hl : l.length ≤ cap) (hc : cap ≤ maxLen) : Byt w w.heap.size (some ⟨b, off, none⟩) l.length cap l :=
  ⟨by simp, hl, hc, (fun e => by cases e), fun _ => ⟨b, off, rfl, hb, fun i u hu => by
    rw [List.getElem?_map] at hu
    obtain ⟨x, hx, rfl⟩ := Option.map_eq_some_iff.1 hu
    exact (h i x hx).1⟩⟩
/-- The state of the second loop of CompactFunc: what was kept lies ahead, what is to come lies untouched. -/
structure CmpI (l cur : List UInt8) (m kk : Nat) : Prop where
  len : cur.length = l.length
  pre : cur.take kk = compW false (l.take m)
  cnt : kk = (compW false (l.take m)).length
  rest : ∀ j, m ≤ j + 1 → cur[j]? = l[j]?
  le : kk + 1 ≤ m
theorem CmpI.skip {l cur : List UInt8} {m kk : Nat} {a b : UInt8} (h : CmpI l cur (m + 1) kk) (ha : l[m]? = some a) (hb : l[m + 1]? = some b) (he : (decide (b = 32) && decide (a = 32)) = true) : CmpI l cur (m + 1 + 1) kk := by
  have := comp_take ha hb
  rw [if_pos he, List.append_nil] at this
  exact ⟨h.len, by rw [this]; exact h.pre, by rw [this]; exact h.cnt, fun j hj => h.rest j (by omega), by have := h.le; omega⟩
theorem CmpI.keepS {l cur : List UInt8} {m kk : Nat} {a b : UInt8} (h : CmpI l cur (m + 1) kk) (ha : l[m]? = some a) (hb : l[m + 1]? = some b) (he : (decide (b = 32) && decide (a = 32)) = false) : CmpI l (cur.set kk b) (m + 1 + 1) (kk + 1) := by
  have := comp_take ha hb
  rw [if_neg (by rw [he]; simp)] at this
  have hml : m + 1 < l.length := (List.getElem?_eq_some_iff.1 hb).1
  have hle := h.le
  have hkl : kk < cur.length := by rw [h.len]; omega
  refine ⟨by rw [List.length_set, h.len], ?_, by rw [this, List.length_append, ← h.cnt]; rfl, fun j hj => ?_, by omega⟩
  · rw [List.take_add_one, List.getElem?_set_self hkl, List.take_set_of_le (Nat.le_refl _), h.pre, this]
    rfl
  · rw [List.getElem?_set_ne (by omega)]
    exact h.rest j (by omega)
theorem CmpI.start {l : List UInt8} {k : Nat} {a b : UInt8} (hk : 1 ≤ k) (hc : compW false (l.take k) = l.take k) (ha : l[k - 1]? = some a) (hb : l[k]? = some b) (he : (decide (b = 32) && decide (a = 32)) = true) : CmpI l l (k + 1) k := by
  obtain ⟨m, rfl⟩ : ∃ m, k = m + 1 := ⟨k - 1, by omega⟩
  have := comp_take (by simpa using ha) hb
  rw [if_pos he, List.append_nil, hc] at this
  have hml : m + 1 < l.length := (List.getElem?_eq_some_iff.1 hb).1
  exact ⟨rfl, this.symm, by rw [this, List.length_take]; omega, fun j _ => rfl, by omega⟩
end Go.Proofs.YtfemfgkcgboopaaGreatDoor
/- The document's Trim. -/
namespace Go.Proofs.YtfemfgkcgboopaaGreatDoor
open Go.ChangeShapes Go.WideShapes Go.ChangeAt Go.RowKit
set_option linter.unusedVariables false
/-- 's[:j]' of a string. -/
theorem run_strTo (l : List UInt8) (j : Nat) (hj : j ≤ l.length) (w : World) :
    (Instr.slice 9 (.string ⟨l.toArray⟩) none (some (.int .i64 (j : Int))) none).run Tryz.prog w = .ok (.string ⟨(l.take j).toArray⟩) w := by
  have hsz : (⟨l.toArray⟩ : ByteArray).size = l.length := by simp [ByteArray.size]
  rw [run_slice_string_h w 9 ⟨l.toArray⟩ Tryz.underlying9 .i64 j (by omega) (by rw [hsz]; omega)]
  congr 2
  refine ByteArray.ext (Array.toList_inj.1 ?_)
  rw [Lib.extract_data]
  simp
def trimK (k : Int) (s : List UInt8) : List UInt8 := if k = 1 then s else trimT s
theorem tR_snoc (l : List UInt8) (t : Nat) (c : UInt8) (out : List UInt8) (hc : l[t]? = some c) : tR out (l.drop t) = tR (if c ≠ 32 then out ++ [c] else if out ≠ [] ∧ out.getLast? ≠ some 32 then out ++ [32] else out) (l.drop (t + 1)) := by
  have hl := (List.getElem?_eq_some_iff.1 hc).1
  have he : l[t] = c := by rw [List.getElem?_eq_getElem hl] at hc; exact Option.some.inj hc
  rw [List.drop_eq_getElem_cons hl, he, tR]
  split
  · rfl
  · split <;> rfl
theorem last_get {out : List UInt8} {c : UInt8} (h : out.getLast? = some c) : out ≠ [] ∧ 0 < out.length ∧ out[out.length - 1]? = some c := by
  cases out with
  | nil => cases h
  | cons a t => exact ⟨by simp, by simp, by rw [← h, List.getLast?_eq_getElem?]⟩
set_option maxRecDepth 100000 in
set_option maxHeartbeats 4000000 in
theorem refTrim_c (k : Int) (l : List UInt8) (w : World) (hm : l.length ≤ 100000) :
    Calls Tryz.prog 14 #[.int .i64 k, .string ⟨l.toArray⟩] w fun e w' => e = .returned (.string ⟨(trimK k l).toArray⟩) ∧ w = w' := by
  unfold trimK
  by_cases hk : k = 1
  · rw [if_pos hk]
    subst hk
    clear hm
    go_enter Tryz.func14, Tryz.ntmps14
    go_wp2
    go_ret
    exact ⟨rfl, rfl⟩
  · rw [if_neg hk]
    have hkb : (k == 1) = false := by simpa using hk
    have hsz : (⟨l.toArray⟩ : ByteArray).size = l.length := by simp [ByteArray.size]
    have HT : Hid (trimT l = dropT (tR [] l)) := Lib.hid (tR_all l).symm
    clear hk
    go_enter Tryz.func14, Tryz.ntmps14
    go_wp2
    go_loopg [5, 6] (l.length) (fun g s i wr => ∃ (t : Nat) (o : List UInt8), wr = w ∧ i = .int .i64 (t : Int) ∧ s = .string ⟨o.toArray⟩ ∧ t ≤ l.length ∧ Hid (g + t = l.length) ∧ Hid (o.length ≤ t) ∧ Hid (trimT l = dropT (tR o (l.drop t))))
    case atStart => exact ⟨0, [], rfl, rfl, rfl, Nat.zero_le _, Lib.hid rfl, Lib.hid (Nat.le_refl _), HT⟩
    case round =>
      obtain ⟨t, o, rfl, rfl, rfl, ht, hg, ho, HA⟩ := hrel
      have ht0 : (0 : Int) ≤ (t : Int) := by omega
      have ht9 : (t : Int) ≤ 100000 := by omega
      have ho0 : (0 : Int) ≤ (o.length : Int) := by omega
      have ho9 : (o.length : Int) ≤ 100000 := by have := ho.out; omega
      by_cases htn : t < l.length
      · have hti : (t : Int) < (l.length : Int) := by omega
        have hix := run_strIndex l t htn wr
        have hsl := run_strSlice l t (t + 1) (by omega) (by omega) wr
        have hct : l[t]? = some (l.getD t 0) := by simp [htn]
        have hsn := tR_snoc l t _ o hct
        rw [show ((t + 1 : Nat) : Int) = (t : Int) + 1 by omega, show t + 1 - t = 1 by omega, show (l.drop t).take 1 = [l.getD t 0] by
          rw [List.drop_eq_getElem_cons htn, List.take_succ_cons, List.take_zero]; simp [htn]] at hsl
        generalize l.getD t 0 = c at *
        have hc0 : (0 : Int) ≤ (c.toNat : Int) := by omega
        have hc1 : (c.toNat : Int) ≤ 255 := by have := c.toNat_lt; omega
        by_cases hc : c = 32
        · rw [if_neg (by simp [hc])] at hsn
          have hcn : ((c.toNat : Int) != 32) = false := by subst hc; rfl
          have hcd : (c.toNat : Int) = 32 := by subst hc; rfl
          rw [hcd] at hix
          clear hc hct hcn
          by_cases he : o = []
          · subst he
            rw [if_neg (by simp)] at hsn
            have HA2 := Lib.hid (HA.out.trans (congrArg dropT hsn))
            have hie : ([] : List UInt8).isEmpty = true := rfl
            clear hsn hsl hcd hc0 hc1
            go_wp2
            go_roundg (l.length - (t + 1))
            case measure => have := hg.out; omega
            case rel => exact ⟨t + 1, [], rfl, by go_num, rfl, by omega, Lib.hid (by omega), Lib.hid (Nat.zero_le _), HA2⟩
          · have hie : o.isEmpty = false := by cases o with | nil => exact absurd rfl he | cons a b => rfl
            obtain ⟨d, hd⟩ : ∃ d, o.getLast? = some d := by
              cases h : o.getLast? with
              | none => exact absurd (List.getLast?_eq_none_iff.1 h) he
              | some d => exact ⟨d, rfl⟩
            obtain ⟨_, hpos, hdg⟩ := last_get hd
            have hox := run_strIndex o (o.length - 1) (by omega) wr
            rw [show o.getD (o.length - 1) 0 = d by simp [List.getD, hdg], show ((o.length - 1 : Nat) : Int) = (o.length : Int) - 1 by omega] at hox
            have hd0 : (0 : Int) ≤ (d.toNat : Int) := by omega
            have hd1 : (d.toNat : Int) ≤ 255 := by have := d.toNat_lt; omega
            have hop : (1 : Int) ≤ (o.length : Int) := by omega
            by_cases hdd : d = 32
            · rw [if_neg (by rw [hd, hdd]; simp)] at hsn
              have HA2 := Lib.hid (HA.out.trans (congrArg dropT hsn))
              have hdn : (d.toNat : Int) = 32 := by subst hdd; rfl
              rw [hdn] at hox
              clear hsn hsl hcd hc0 hc1 hdg hd hdd hdn hd0 hd1 he
              go_wp2
              go_roundg (l.length - (t + 1))
              case measure => have := hg.out; omega
              case rel => exact ⟨t + 1, o, rfl, by go_num, rfl, by omega, Lib.hid (by omega), Lib.hid (by have := ho.out; omega), HA2⟩
            · rw [if_pos ⟨he, by rw [hd]; intro e; exact hdd (Option.some.inj e)⟩] at hsn
              have HA2 := Lib.hid (HA.out.trans (congrArg dropT hsn))
              have hdn : ((d.toNat : Int) != 32) = true := by
                have : ((d.toNat : Int) == 32) = false := ne_byte d 32 32 rfl hdd
                simp [bne, this]
              have hsp : (Op.stringOp .add ⟨o.toArray⟩ ⟨#[32]⟩).run Tryz.prog wr = .ok (.string ⟨(o ++ [32]).toArray⟩) wr := run_sop (w := wr) o [32] (by have := ho.out; simp; omega)
              have hlo : (o ++ [32]).length = o.length + 1 := by simp
              have HLO := Lib.hid hlo
              clear hsn hsl hcd hc0 hc1 hdg hd hdd he hlo
              generalize o ++ [32] = o2 at *
              go_wp2
              go_roundg (l.length - (t + 1))
              case measure => have := hg.out; omega
              case rel => exact ⟨t + 1, o2, rfl, by go_num, rfl, by omega, Lib.hid (by omega), Lib.hid (by have := ho.out; have := HLO.out; omega), HA2⟩
        · rw [if_pos hc] at hsn
          have HA2 := Lib.hid (HA.out.trans (congrArg dropT hsn))
          have hcn : ((c.toNat : Int) != 32) = true := by
            have : ((c.toNat : Int) == 32) = false := ne_byte c 32 32 rfl hc
            simp [bne, this]
          have hsp : (Op.stringOp .add ⟨o.toArray⟩ ⟨[c].toArray⟩).run Tryz.prog wr = .ok (.string ⟨(o ++ [c]).toArray⟩) wr := run_sop (w := wr) o [c] (by have := ho.out; simp; omega)
          have hlo : (o ++ [c]).length = o.length + 1 := by simp
          have HLO := Lib.hid hlo
          clear hsn hc hct hlo
          generalize o ++ [c] = o2 at *
          go_wp2
          go_roundg (l.length - (t + 1))
          case measure => have := hg.out; omega
          case rel => exact ⟨t + 1, o2, rfl, by go_num, rfl, by omega, Lib.hid (by omega), Lib.hid (by have := ho.out; have := HLO.out; omega), HA2⟩
      · have hti : ¬ (t : Int) < (l.length : Int) := by omega
        have hA := HA.out
        rw [List.drop_of_length_le (by omega)] at hA
        have hA' : trimT l = dropT o := hA
        clear hA HA
        unfold dropT at hA'
        by_cases he : o = []
        · subst he
          have hie : ([] : List UInt8).isEmpty = true := rfl
          have HAE := Lib.hid hA'
          clear hA'
          go_wp2
          go_ret
          exact ⟨by rw [HAE.out]; rfl, rfl⟩
        · have hie : o.isEmpty = false := by cases o with | nil => exact absurd rfl he | cons a b => rfl
          obtain ⟨d, hd⟩ : ∃ d, o.getLast? = some d := by
            cases h : o.getLast? with
            | none => exact absurd (List.getLast?_eq_none_iff.1 h) he
            | some d => exact ⟨d, rfl⟩
          obtain ⟨_, hpos, hdg⟩ := last_get hd
          have hox := run_strIndex o (o.length - 1) (by omega) wr
          rw [show o.getD (o.length - 1) 0 = d by simp [List.getD, hdg], show ((o.length - 1 : Nat) : Int) = (o.length : Int) - 1 by omega] at hox
          have hd0 : (0 : Int) ≤ (d.toNat : Int) := by omega
          have hd1 : (d.toNat : Int) ≤ 255 := by have := d.toNat_lt; omega
          have hop : (1 : Int) ≤ (o.length : Int) := by omega
          by_cases hdd : d = 32
          · rw [if_pos (by rw [hd, hdd])] at hA'
            have HAE := Lib.hid hA'
            have hdn : (d.toNat : Int) = 32 := by subst hdd; rfl
            rw [hdn] at hox
            have hcs := run_strTo o (o.length - 1) (by omega) wr
            rw [show ((o.length - 1 : Nat) : Int) = (o.length : Int) - 1 by omega, ← List.dropLast_eq_take] at hcs
            clear hdg hd hdd hdn hd0 hd1 he hA'
            generalize o.dropLast = o2 at *
            go_wp2
            go_ret
            exact ⟨by rw [HAE.out]; rfl, rfl⟩
          · rw [if_neg (by rw [hd]; intro e; exact hdd (Option.some.inj e))] at hA'
            have HAE := Lib.hid hA'
            have hdn : ((d.toNat : Int) == 32) = false := ne_byte d 32 32 rfl hdd
            clear hdg hd hdd he hA'
            go_wp2
            go_ret
            exact ⟨by rw [HAE.out]; rfl, rfl⟩
end Go.Proofs.YtfemfgkcgboopaaGreatDoor
