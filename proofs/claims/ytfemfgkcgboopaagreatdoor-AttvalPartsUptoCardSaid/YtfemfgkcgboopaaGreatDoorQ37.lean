/- Texts of ours, joined: GsZ, Mk1, PlainP. -/
import Derived.Test.YtfemfgkcgboopaaGreatDoorRows
import Derived.WalkKit
import Derived.ProofKit
import Derived.OpenShut
import Derived.ShutString
import Derived.ChangeOld
import Derived.Below
import Derived.BigQuiet
import Derived.Deep.QuietTactic
import Derived.Lib.Hide
import Derived.Deep.RegionHeld3
import Derived.Lib.SlBytesConst
import Derived.Laws.CopyOwn
import Derived.Laws.CopyRow
import Derived.Lib.Bytes
import Derived.Deep.LoopGhost
import Derived.Deep.DeepFit
import Derived.Deep.DeepMust
import Derived.WalkSpells
import Derived.WalkLawsBesides
import Derived.Laws.EntriesVeiled
import Derived.Laws.Rows
import Derived.Maps.OwnOps
import Derived.Maps.OwnSet
import Derived.Maps.Views
import Derived.Maps.AppendAt
import Derived.Deep.AppendLies
import Derived.DeepKeys4
import Derived.MapViews
import Derived.Maps.Keyed
import Derived.Deep.RegionLaw
import Derived.Deep.RegionWith
import Derived.StillTailTactics
import Derived.Deep.CutRange
import Derived.Test.YtfemfgkcgboopaaGreatDoorQ1
import Derived.Test.YtfemfgkcgboopaaGreatDoorQ13
import Derived.Test.YtfemfgkcgboopaaGreatDoorQ16
import Derived.Test.YtfemfgkcgboopaaGreatDoorQ2
import Derived.Test.YtfemfgkcgboopaaGreatDoorQ3
import Derived.Test.YtfemfgkcgboopaaGreatDoorQ4
import Derived.Test.YtfemfgkcgboopaaGreatDoorQ9
import Derived.Test.YtfemfgkcgboopaaGreatDoorQ15
import Derived.Test.YtfemfgkcgboopaaGreatDoorQ14
import Derived.Test.YtfemfgkcgboopaaGreatDoorQ10
import Derived.Test.YtfemfgkcgboopaaGreatDoorQ17
import Derived.Test.YtfemfgkcgboopaaGreatDoorQ23
import Derived.Test.YtfemfgkcgboopaaGreatDoorQ24
import Derived.Test.YtfemfgkcgboopaaGreatDoorQ19
import Derived.Test.YtfemfgkcgboopaaGreatDoorQ20
import Derived.Test.YtfemfgkcgboopaaGreatDoorQ32
import Derived.Test.YtfemfgkcgboopaaGreatDoorQ26
import Derived.Test.YtfemfgkcgboopaaGreatDoorQ33
import Derived.Test.YtfemfgkcgboopaaGreatDoorQ34
import Derived.Test.YtfemfgkcgboopaaGreatDoorQ18
import Derived.Test.YtfemfgkcgboopaaGreatDoorQ25
import Derived.Test.YtfemfgkcgboopaaGreatDoorQ29
import Derived.Test.YtfemfgkcgboopaaGreatDoorQ27
import Derived.Test.YtfemfgkcgboopaaGreatDoorQ28
import Derived.Test.YtfemfgkcgboopaaGreatDoorQ30
import Derived.Test.YtfemfgkcgboopaaGreatDoorQ21
import Derived.Test.YtfemfgkcgboopaaGreatDoorQ22
import Derived.Test.YtfemfgkcgboopaaGreatDoorQ31
import Derived.Test.YtfemfgkcgboopaaGreatDoorQ36
/- Where no entity leads back to itself and the cost is small, values come to an end: plain. -/
namespace Go.Proofs.YtfemfgkcgboopaaGreatDoor
open Go.ChangeShapes Go.WideShapes Go.ChangeAt Go.RowKit
set_option linter.unusedVariables false
theorem Way.trans {g : List (List Nat)} {i j k : Nat} (h : Way g i j) (h2 : Way g j k) : Way g i k :=
  h2.closed (S := fun m => Way g i m) (fun _ ht _ hk => h.more ht hk) (fun _ _ hm ht _ hk => hm.more ht hk)
theorem countP_le' {α : Type} (p q : α → Bool) : ∀ l : List α, (∀ x ∈ l, p x = true → q x = true) → l.countP p ≤ l.countP q
  | [], _ => Nat.le_refl _
  | x :: l, h => by
    have h1 := countP_le' p q l fun y hy => h y (List.mem_cons_of_mem _ hy)
    have h2 := h x List.mem_cons_self
    rw [List.countP_cons, List.countP_cons]
    cases hp : p x with
    | true => rw [h2 hp]; simp; omega
    | false => cases q x <;> simp <;> omega
theorem countP_lt' {α : Type} (p q : α → Bool) : ∀ l : List α, (∀ x ∈ l, p x = true → q x = true) → (∃ x ∈ l, q x = true ∧ p x = false) → l.countP p < l.countP q
  | [], _, ⟨x, hx, _⟩ => by cases hx
  | x :: l, h, ⟨y, hy, h1, h2⟩ => by
    have h3 := countP_le' p q l fun y hy => h y (List.mem_cons_of_mem _ hy)
    have h4 := h x List.mem_cons_self
    rw [List.countP_cons, List.countP_cons]
    rcases List.mem_cons.1 hy with rfl | hy
    · rw [h1, h2]; simp; omega
    · have h5 := countP_lt' p q l (fun y hy => h y (List.mem_cons_of_mem _ hy)) ⟨y, hy, h1, h2⟩
      cases hp : p x with
      | true => rw [h4 hp]; simp; omega
      | false => cases q x <;> simp <;> omega
open Classical in
/-- To how many places ways lead from one. -/
noncomputable def rankW (g : List (List Nat)) (i : Nat) : Nat := (List.range g.length).countP fun j => decide (Way g i j)
theorem edge_of {l : List EntT} {i : Nat} {x y : EntT} {r : Nat × Nat × List UInt8} (hx : (innerE l)[i]? = some x) (hr : r ∈ rfsA x.tx 0) (hy : fndE (innerE l) r.2.2 = some y) : ∃ j, Way (graphE l) i j ∧ j < (graphE l).length ∧ (innerE l)[j]? = some y := by
  obtain ⟨h1, h2⟩ := fndE_idx hy
  refine ⟨((innerE l).map EntT.nm).idxOf r.2.2, ?_, by rw [graphE_len]; exact (List.getElem?_eq_some_iff.1 h2).1, h2⟩
  refine Way.one (t := toE ((innerE l).map EntT.nm) (eachL x.tx)) (by unfold graphE; rw [List.getElem?_map, hx]; rfl) ?_
  unfold toE
  refine List.mem_filterMap.2 ⟨r.2.2, ?_, by rw [if_pos h1]⟩
  unfold eachL onceL
  refine (mem_once (rnames x.tx) _).2 ?_
  unfold rnames
  exact List.mem_map.2 ⟨r, hr, rfl⟩
theorem deep_rank {l : List EntT} (hnl : ¬ loopsE l) : ∀ (k i : Nat) (x : EntT), (innerE l)[i]? = some x → rankW (graphE l) i ≤ k → deepB (innerE l) k x.tx := by
  intro k
  induction k with
  | zero =>
    intro i x hx hk r hr
    cases hy : fndE (innerE l) r.2.2 with
    | none => rfl
    | some y =>
      exfalso
      obtain ⟨j, hw, hj, _⟩ := edge_of hx hr hy
      have : 0 < rankW (graphE l) i := by
        unfold rankW
        exact List.countP_pos_iff.2 ⟨j, List.mem_range.2 hj, by simpa using hw⟩
      omega
  | succ k ih =>
    intro i x hx hk r hr y hy
    obtain ⟨j, hw, hj, hyj⟩ := edge_of hx hr hy
    refine ih j y hyj ?_
    have : rankW (graphE l) j < rankW (graphE l) i := by
      unfold rankW
      refine countP_lt' _ _ _ (fun m _ hm => ?_) ⟨j, List.mem_range.2 hj, by simpa using hw, ?_⟩
      · simp only [decide_eq_true_eq] at hm ⊢
        exact hw.trans hm
      · simp only [decide_eq_false_iff_not]
        exact fun h => hnl ⟨j, h⟩
    omega
/-- Where no entity leads back to itself, any text leads no deeper than there are entities. -/
theorem deep_all {l : List EntT} (hnl : ¬ loopsE l) (s : List UInt8) : deepB (innerE l) ((innerE l).length + 1) s := by
  intro r hr y hy
  obtain ⟨h1, h2⟩ := fndE_idx hy
  refine deep_rank hnl _ _ y h2 ?_
  unfold rankW
  refine Nat.le_trans List.countP_le_length ?_
  rw [List.length_range, graphE_len]
  exact Nat.le_refl _
theorem satN_mono {a b : Nat} (h : a ≤ b) : satN a ≤ satN b := by unfold satN; omega
theorem satN_split (a b : Nat) : satN (a + b) ≤ satN a + satN b := by unfold satN; omega
theorem sat_sum {α : Type} (c z : α → Nat) : ∀ l : List α, (∀ x ∈ l, satN (c x) ≤ z x) → satN (l.map c).sum ≤ (l.map z).sum
  | [], _ => by simp [satN]
  | x :: l, h => by
    have h1 := sat_sum c z l fun y hy => h y (List.mem_cons_of_mem _ hy)
    have h2 := h x List.mem_cons_self
    have h3 := satN_split (c x) (l.map c).sum
    simp only [List.map_cons, List.sum_cons]
    omega
theorem costB_more (g : List EntT) : ∀ (k : Nat) (b : List UInt8), costB g k b ≤ costB g (k + 1) b := by
  intro k
  induction k with
  | zero => intro b; exact Nat.zero_le _
  | succ k ih =>
    intro b
    rw [costB, costB]
    refine Nat.add_le_add_left (sum_map_le _ _ (fun r => ?_) _) _
    cases fndE g r.2.2 with
    | none => exact Nat.le_refl _
    | some x => exact ih x.tx
/-- Costs known so far are no less than those of expanding so deep. -/
def LowZ (g : List EntT) (k : Nat) (zc : List Nat) : Prop := ∀ i x, g[i]? = some x → satN (costB g k x.tx) ≤ zc.getD i 0
theorem costT_low {g : List EntT} {k : Nat} {zc : List Nat} (h : LowZ g k zc) (s : List UInt8) : satN (costB g (k + 1) s) ≤ costT g zc s := by
  rw [show costB g (k + 1) s = s.length + ((rfsA s 0).map (refC g k)).sum from rfl]
  unfold costT
  have h1 := sat_sum (refC g k) (refZ g zc) (rfsA s 0) (fun r _ => by
    unfold refZ refC
    cases hf : fndE g r.2.2 with
    | none => simp [satN]
    | some x =>
      obtain ⟨h2, h3⟩ := fndE_idx hf
      rw [if_pos h2]
      exact h _ x h3)
  unfold satN capN at *
  omega
theorem rows_low {g : List EntT} {m : Nat} {zc : List Nat} (hl : zc.length = g.length) (h : LowZ g m zc) : ∀ k, k ≤ g.length → LowZ g m (rowsZ g zc k) ∧ ∀ i x, i < k → g[i]? = some x → satN (costB g (m + 1) x.tx) ≤ (rowsZ g zc k).getD i 0 := by
  intro k
  induction k with
  | zero => intro _; exact ⟨h, fun i x hi => by omega⟩
  | succ k ih =>
    intro hk
    obtain ⟨h1, h2⟩ := ih (by omega)
    obtain ⟨x, hx⟩ : ∃ x, g[k]? = some x := ⟨_, List.getElem?_eq_getElem (by omega)⟩
    have hkl : k < (rowsZ g zc k).length := by rw [rowsZ_len, hl]; omega
    have hc := costT_low h1 x.tx
    have hset : ∀ i, (rowsZ g zc (k + 1)).getD i 0 = if i = k then costT g (rowsZ g zc k) x.tx else (rowsZ g zc k).getD i 0 := fun i => by
      rw [rowsZ, hx]
      exact getD_set _ _ _ _ hkl
    refine ⟨fun i y hy => ?_, fun i y hi hy => ?_⟩
    · rw [hset]
      by_cases hik : i = k
      · subst hik
        rw [hx] at hy
        cases hy
        rw [if_pos rfl]
        exact Nat.le_trans (satN_mono (costB_more g m x.tx)) hc
      · rw [if_neg hik]; exact h1 i y hy
    · rw [hset]
      by_cases hik : i = k
      · subst hik
        rw [hx] at hy
        cases hy
        rw [if_pos rfl]
        exact hc
      · rw [if_neg hik]; exact h2 i y (by omega) hy
theorem rounds_low (g : List EntT) : ∀ m, LowZ g m (roundsZ g m) := by
  intro m
  induction m with
  | zero => intro i x _; simp [costB, satN]
  | succ m ih =>
    have h := (rows_low (roundsZ_len g m) ih g.length (Nat.le_refl _)).2
    intro i x hx
    exact h i x (List.getElem?_eq_some_iff.1 hx).1 hx
/-- The document's cost of a text. -/
def costL (l : List EntT) (s : List UInt8) : Nat := costT (innerE l) (roundsZ (innerE l) ((innerE l).length + 1)) s
theorem costL_low {l : List EntT} {s : List UInt8} (h : costL l s ≤ 20000) : costB (innerE l) ((innerE l).length + 2) s ≤ 20000 := by
  have h1 := costT_low (rounds_low (innerE l) ((innerE l).length + 1)) s
  unfold costL at h
  rw [show (innerE l).length + 1 + 1 = (innerE l).length + 2 by omega] at h1
  unfold satN capN at h1
  omega
/-- Where no entity leads back to itself and the text costs little, what is put out of it comes to an end. -/
theorem over_cheap {l : List EntT} (hnl : ¬ loopsE l) (hN : (innerE l).length ≤ 900) (s : List UInt8) (deep : Int) (hc : costB (innerE l) ((innerE l).length + 2) s ≤ 20000) : ∃ f o2 e, overL l deep f 0 0 s 0 [] = some (o2, e) ∧ o2.length ≤ 20000 := by
  rw [cost_rem] at hc
  obtain ⟨f, o2, e, h1, h2⟩ := over_ends l deep ((innerE l).length + 1) s 0 0 (deep_all hnl s) (by omega) s.length 0 [] (by omega) (fun r hr => hr) (by simp only [List.length_nil]; omega)
  exact ⟨f, o2, e, h1, by simp only [List.length_nil] at h2; omega⟩
end Go.Proofs.YtfemfgkcgboopaaGreatDoor
/- The document answer on values, and the law AttvalMakes. -/
namespace Go.Proofs.YtfemfgkcgboopaaGreatDoor
open Go.ChangeShapes Go.WideShapes Go.ChangeAt Go.RowKit
set_option linter.unusedVariables false
theorem over_err (l : List EntT) (deep : Int) : ∀ (f p wi : Nat) (b : List UInt8) (t : Nat) (o o2 : List UInt8) (e : Nat), overL l deep f p wi b t o = some (o2, e) → e ≠ 0 → o2 = [] := by
  intro f
  induction f with
  | zero => intro p wi b t o o2 e h; cases h
  | succ f ih =>
    intro p wi b t o o2 e h he
    rw [overL] at h
    split at h
    · cases h
    · split at h
      · cases h; exact absurd rfl he
      · split at h
        · cases h; rfl
        · split at h
          · split at h
            · cases h; rfl
            · split at h
              · exact ih _ _ _ _ _ _ _ h he
              · split at h
                · cases h
                · split at h
                  · cases h; rfl
                  · exact ih _ _ _ _ _ _ _ h he
          · exact ih _ _ _ _ _ _ _ h he
theorem trimK_nil (k : Int) : trimK k [] = [] := by unfold trimK; split <;> rfl
/-- The document's value. -/
def valD (kind : Int) (o2 : List UInt8) (e2 : Nat) : List UInt8 := if e2 = 0 then trimK kind o2 else []
set_option maxRecDepth 100000 in
set_option maxHeartbeats 8000000 in
theorem refValue_c (A : Option Addr) (n cap : Nat) (l : List EntT) (raw : List UInt8) (kind deep : Int) (f : Nat) (o2 : List UInt8) (e2 : Nat) (w : World) (h : RRd cE 6 w w.heap.size A n cap l) (hm : n ≤ 1000) (hx : ∀ x ∈ l, x.tx.length ≤ 20000) (hraw : raw.length ≤ 50000) (hL : ¬ loopsE l) (hr : overL l deep f 0 0 raw 0 [] = some (o2, e2)) (ho2 : o2.length ≤ 100000) :
    Calls Tryz.prog 11 #[.slice A n cap, .string ⟨raw.toArray⟩, .int .i64 kind, .int .i64 deep] w fun e w' => e = .returned (.tuple #[.string ⟨(valD kind o2 e2).toArray⟩, .int .i64 (e2 : Nat)]) ∧ Below w.heap.size w w' := by
  have CL := Lib.hid (rfLoops_c A n cap l w h hm hx)
  have CO : Hid (∀ W, Below w.heap.size w W → Calls Tryz.prog 29 #[.slice A n cap, .string ⟨raw.toArray⟩, .int .i64 0, .int .i64 deep] W fun e w' => e = .returned (.tuple #[.string ⟨o2.toArray⟩, .int .i64 (e2 : Nat)]) ∧ Below W.heap.size W w') := Lib.hid fun W hW => over_c A n cap l deep hm (fun x hx2 => by have := hx x hx2; omega) f 0 0 raw o2 e2 W ((h.below hW).more hW.size) hraw hr
  have CT := Lib.hid fun W => refTrim_c kind o2 W ho2
  have HV : Hid (trimK kind o2 = valD kind o2 e2) := Lib.hid (by
    unfold valD
    by_cases he : e2 = 0
    · rw [if_pos he]
    · rw [if_neg he, over_err l deep f 0 0 raw 0 [] o2 e2 hr he, trimK_nil])
  rw [HV.out] at CT
  clear h hx hr HV
  generalize valD kind o2 e2 = vd at *
  go_enter Tryz.func11, Tryz.ntmps11
  go_wp2_with fail
  refine CL.out.mono ?_
  rintro e w1 ⟨b, rfl, hbl, hb1⟩
  obtain rfl : b = false := by
    cases b with
    | true => exact absurd (hbl.1 rfl) hL
    | false => rfl
  have HB1 := Lib.hid hb1
  clear CL hbl hb1
  go_wp2_with fail
  refine (CO.out _ HB1.out).mono ?_
  rintro e w2 ⟨rfl, hb2⟩
  have HB2 := Lib.hid (HB1.out.trans (hb2.mono HB1.out.size))
  clear CO hb2
  go_wp2_with fail
  refine (CT.out _).mono ?_
  rintro e wq ⟨rfl, rfl⟩
  go_wp2
  go_ret2
  exact ⟨rfl, HB2.out⟩
set_option maxRecDepth 100000 in
set_option maxHeartbeats 8000000 in
theorem refValue_loops (A : Option Addr) (n cap : Nat) (l : List EntT) (raw : List UInt8) (kind deep : Int) (w : World) (h : RRd cE 6 w w.heap.size A n cap l) (hm : n ≤ 1000) (hx : ∀ x ∈ l, x.tx.length ≤ 20000) (hL : loopsE l) :
    Calls Tryz.prog 11 #[.slice A n cap, .string ⟨raw.toArray⟩, .int .i64 kind, .int .i64 deep] w fun e w' => e = .returned (.tuple #[.string ⟨#[]⟩, .int .i64 8]) ∧ Below w.heap.size w w' := by
  have CL := Lib.hid (rfLoops_c A n cap l w h hm hx)
  clear h hx
  go_enter Tryz.func11, Tryz.ntmps11
  go_wp2_with fail
  refine CL.out.mono ?_
  rintro e w1 ⟨b, rfl, hbl, hb1⟩
  obtain rfl : b = true := hbl.2 hL
  have HB1 := Lib.hid hb1
  clear CL hbl hb1
  go_wp2
  go_ret2
  exact ⟨rfl, HB1.out⟩
/-- Both answers, whatever is asked: one text, one error, if it costs little or if entities lead back to themselves. -/
theorem both_values {l : List EntT} {raw : List UInt8} (kind deep : Int) (hl : l.length ≤ 24) (hc : ¬ loopsE l → costL l raw ≤ 20000) :
    ∃ (v : List UInt8) (e2 : Nat), ((loopsE l ∧ v = [] ∧ e2 = 8) ∨ (¬ loopsE l ∧ ∃ f f' o2 o', overL l deep f 0 0 raw 0 [] = some (o2, e2) ∧ runL l deep f' [(raw, 0)] [] = some (o', e2) ∧ o2.length ≤ 20000 ∧ (e2 = 0 → o' = o2) ∧ v = valD kind o2 e2)) := by
  by_cases hL : loopsE l
  · exact ⟨[], 8, .inl ⟨hL, rfl, rfl⟩⟩
  · have hN : (innerE l).length ≤ 900 := by
      have := inner_len l []
      have h2 : (innerE l).length ≤ l.length := by simpa [innerE] using this
      omega
    obtain ⟨f, o2, e2, h1, h2⟩ := over_cheap hL hN raw deep (costL_low (hc hL))
    obtain ⟨f', o', h3, h4⟩ := over_all h1
    exact ⟨valD kind o2 e2, e2, .inr ⟨hL, f, f', o2, o', h1, h3, h2, h4, rfl⟩⟩
/-- The program's answer and the document's, at one asking. -/
theorem both_c (A : Option Addr) (n cap : Nat) (l : List EntT) (raw : List UInt8) (kind deep : Int) (w : World) (h : RRd cE 6 w w.heap.size A n cap l) (hl : l.length ≤ 24) (hs2 : (l.map fun y => y.tx.length).sum ≤ 1500) (hs3 : ∀ x ∈ l, x.tx.length ≤ 1500) (hnm : ∀ x ∈ l, x.nm.length ≤ 1000000000000000) (hraw : raw.length ≤ 2000) (hF : Forms w) (hT : Tabs w) (hK : KnownT w) (hc : ¬ loopsE l → costL l raw ≤ 20000) :
    ∃ (v : List UInt8) (e2 : Nat), ∀ W, Below w.heap.size w W →
      Calls Tryz.prog 10 #[.slice A n cap, .string ⟨raw.toArray⟩, .int .i64 kind, .int .i64 deep] W (fun e w' => e = .returned (.tuple #[.string ⟨v.toArray⟩, .int .i64 (e2 : Nat)]) ∧ Below W.heap.size W w') ∧
      Calls Tryz.prog 11 #[.slice A n cap, .string ⟨raw.toArray⟩, .int .i64 kind, .int .i64 deep] W (fun e w' => e = .returned (.tuple #[.string ⟨v.toArray⟩, .int .i64 (e2 : Nat)]) ∧ Below W.heap.size W w') := by
  have hln := h.len
  obtain ⟨v, e2, hh⟩ := both_values (l := l) (raw := raw) kind deep hl hc
  refine ⟨v, e2, fun W hW => ?_⟩
  have hr := (h.below hW).more hW.size
  have hx20 : ∀ x ∈ l, x.tx.length ≤ 20000 := fun x hx => by have := hs3 x hx; omega
  have hFW := hF.below hW hF.lt
  have hTW := hT.below hW (hT.low hF)
  have hKW := hK.below hW
  rcases hh with ⟨hL, rfl, rfl⟩ | ⟨hL, f, f', o2, o', h1, h2, h3, h4, rfl⟩
  · exact ⟨attValue_loops A n cap l raw kind deep W hr (by omega) hx20 hnm (by omega) hFW hTW hL, refValue_loops A n cap l raw kind deep W hr (by omega) hx20 hL⟩
  · refine ⟨?_, refValue_c A n cap l raw kind deep f o2 e2 W hr (by omega) hx20 (by omega) hL h1 (by omega)⟩
    have := attValue_c A n cap l raw kind deep f' o' e2 W hr (by omega) hx20 hnm (by omega) hFW hTW hKW (by omega) hL h2 (fun he => by rw [h4 he]; omega)
    have e : (if e2 = 0 then trimK kind o' else []) = valD kind o2 e2 := by
      unfold valD
      by_cases he : e2 = 0
      · rw [if_pos he, if_pos he, h4 he]
      · rw [if_neg he, if_neg he]
    rw [e] at this
    exact this
end Go.Proofs.YtfemfgkcgboopaaGreatDoor
/- Plain law of whole names. -/
namespace Go.Proofs.YtfemfgkcgboopaaGreatDoor
open Go.ChangeShapes Go.WideShapes Go.ChangeAt Go.RowKit
set_option linter.unusedVariables false
theorem dec_ascii (c : UInt8) (t : List UInt8) (hc : c.toNat < 128) : dec (c :: t) = some (c.toNat, 1) := by
  have hl : lenB c.toNat = 1 := by unfold lenB; rw [if_pos hc]
  have hm : msk 1 c.toNat = c.toNat := by unfold msk; rw [if_pos rfl]; omega
  have hr : isR (c.toNat : Int) = true := by unfold isR; simp; omega
  simp only [dec]
  rw [hl, if_neg (by simp)]
  simp [cont, hm, least, hr]
/-- What does not begin with a character that may stand in a name. -/
theorem endL_stop (f g : Int → Bool) (c : UInt8) (t : List UInt8) (hc : c.toNat < 128) (h : f (c.toNat : Int) = false) : ∀ K, endL f g K (c :: t) = 0 := fun K => endL_no _ _ _ _ _ _ (dec_ascii c t hc) h
end Go.Proofs.YtfemfgkcgboopaaGreatDoor
