/- Texts of ours, joined: GoJ, GoK. -/
import Derived.Test.YtfemfgkcgboopaaGreatDoorRows
import Derived.WalkKit
import Derived.ProofKit
import Derived.OpenShut
import Derived.ShutString
import Derived.ChangeOld
import Derived.Below
import Derived.BigQuiet
import Derived.Deep.QuietTactic
import Derived.Lib.Hide
import Derived.Deep.RegionHeld3
import Derived.Lib.SlBytesConst
import Derived.Laws.CopyOwn
import Derived.Laws.CopyRow
import Derived.Lib.Bytes
import Derived.Deep.LoopGhost
import Derived.Deep.DeepFit
import Derived.Deep.DeepMust
import Derived.WalkSpells
import Derived.WalkLawsBesides
import Derived.Laws.EntriesVeiled
import Derived.Laws.Rows
import Derived.Maps.OwnOps
import Derived.Maps.OwnSet
import Derived.Maps.Views
import Derived.Maps.AppendAt
import Derived.Deep.AppendLies
import Derived.DeepKeys4
import Derived.MapViews
import Derived.Maps.Keyed
import Derived.Deep.RegionLaw
import Derived.Deep.RegionWith
import Derived.Laws.MakeOwn
import Derived.Laws.OwnMore
import Derived.Test.YtfemfgkcgboopaaGreatDoorQ1
import Derived.Test.YtfemfgkcgboopaaGreatDoorQ13
import Derived.Test.YtfemfgkcgboopaaGreatDoorQ16
import Derived.Test.YtfemfgkcgboopaaGreatDoorQ2
import Derived.Test.YtfemfgkcgboopaaGreatDoorQ3
import Derived.Test.YtfemfgkcgboopaaGreatDoorQ4
import Derived.Test.YtfemfgkcgboopaaGreatDoorQ9
import Derived.Test.YtfemfgkcgboopaaGreatDoorQ14
import Derived.Test.YtfemfgkcgboopaaGreatDoorQ10
import Derived.Test.YtfemfgkcgboopaaGreatDoorQ17
import Derived.Test.YtfemfgkcgboopaaGreatDoorQ23
import Derived.Test.YtfemfgkcgboopaaGreatDoorQ26
import Derived.Test.YtfemfgkcgboopaaGreatDoorQ27
import Derived.Lib.SmallJoins
/- graph.reached. -/
namespace Go.Proofs.YtfemfgkcgboopaaGreatDoor
open Go.ChangeShapes Go.WideShapes Go.ChangeAt Go.RowKit
set_option linter.unusedVariables false
theorem wpList_appRow {ops : Array Oper} {rest : List Oper} {o : Oper} {a : Act} {Q : Exit → Act → World → Prop} {w : World} (hgd : o.guard = none) (s x : Operand)
    (ho : o.op = .call { callee := .builtin .append, args := #[s, x], argTypes := #[81, 81] }) (base : Nat) (v : Value) (ws : List Nat) (hs : a.eval s = v) (hown : OwnC cI 1 3 w base v ws)
    (A : Option Addr) (m c : Nat) (t : List Nat) (hx : a.eval x = .slice A m c) (hr : RRd cI 1 w w.heap.size A m c t) (hb : ws.length + m ≤ 1000000000) (hbase : base ≤ w.heap.size)
    (h : ∀ v' w', OwnC cI 1 3 w' base v' (ws ++ t) → w.grownBy w' v.ownBlock → wpList Tryz.prog ops Q rest (a.put o.dst v') w') : wpList Tryz.prog ops Q (o :: rest) a w := by
  obtain ⟨i, h1, h2, h3, h4⟩ := infoC_int
  have hfl : ∀ l : List Nat, (l.flatMap cI).length = l.length := fun l => by rw [flat_len (k := 1) (fun _ => rfl)]; omega
  have hl := hr.len
  cases A with
  | none =>
    have hc := hr.nil rfl
    have hn := hr.le
    obtain rfl : t = [] := List.length_eq_zero_iff.1 (by omega)
    obtain rfl : c = 0 := hc
    obtain rfl : m = 0 := by omega
    have hrun := run_append_owned_none (P := Tryz.prog) (w := w) base 81 o.type 3 i 1 Tryz.underlying81 h1 v ws.length (ws.flatMap cI) hown
    refine wpList_plain hgd fun K hK => ?_
    unfold Oper.wp execOp
    simp only [ho, resolve, invoke, builtin, Sem.run_bind, Sem.run_pure, Result.andThen_ok, List.map_toArray, List.map_cons, List.map_nil, hs, hx, hrun]
    exact hK _ _ (h v w (by rw [List.append_nil]; exact hown) ⟨rfl, rfl, rfl, Nat.le_refl _, fun _ _ _ => rfl⟩)
  | some ad =>
    have hcc : ∀ (j : Nat) (u : Nat), t[j]? = some u → w.cell? (ad.add j) = some (.int .i64 (u : Int)) := fun j u hu => by
      obtain ⟨b, o2, e, _, hc⟩ := hr.at_ (by have := (List.getElem?_eq_some_iff.1 hu).1; have := hr.le; omega)
      cases e
      rw [addr_add, show o2 + j = o2 + (j * 1 + 0) by omega]
      exact hc j u hu 0 _ rfl
    refine wpList_append_own_at _ hgd s x 81 ho base 3 i (.int .i64 0) 1 8 Tryz.underlying81 h1 h2 h3 h4 rfl (by decide) v ws.length (ws.flatMap cI) hs hown ad m c (t.flatMap cI) hx (by rw [hfl]; omega) (fun j u hu => ?_) (fun u hu => ?_) (by unfold maxLen; omega) (by omega) hbase fun v' w' ho hg _ _ => h v' w' ?_ hg
    · have hj : j < t.length := by rw [← hfl t]; exact (List.getElem?_eq_some_iff.1 hu).1
      have e := flat_get (c := cI) (k := 1) (fun _ => rfl) t j t[j] (List.getElem?_eq_getElem hj) 0 _ rfl
      rw [Nat.mul_one, Nat.add_zero, hu] at e
      rw [Option.some.inj e]
      exact hcc j _ (List.getElem?_eq_getElem hj)
    · obtain ⟨y, _, hy⟩ := List.mem_flatMap.1 hu
      simp only [cI, List.mem_singleton] at hy
      subst hy
      rfl
    · unfold OwnC
      rw [List.length_append, List.flatMap_append, hl]
      exact ho
theorem filt_succ (p : Nat → Bool) (t : Nat) : (List.range (t + 1)).filter p = (List.range t).filter p ++ (if p t = true then [t] else []) := by
  rw [List.range_succ, List.filter_append, List.filter_cons, List.filter_nil]
set_option maxRecDepth 100000 in
set_option maxHeartbeats 16000000 in
/-- The places to which ways lead. -/
theorem graphReached_c (NA : Option Addr) (nc : Nat) (TA : Option Addr) (n tc src : Nat) (rs : List IRow) (g : List (List Nat)) (w : World) (hrs : rs.map IRow.l = g) (h : GRd w w.heap.size TA n tc rs) (hok : okG g) (hm : n ≤ 1000) (hs : ∀ t ∈ g, t.length ≤ 100000) (hsz : sizeE g ≤ 1000000) (hsrc : src < n) :
    Calls Tryz.prog 43 #[.agg #[.slice NA n nc, .slice TA n tc], .int .i64 (src : Int)] w fun e w' => ∃ OA oc l, e = .returned (.slice OA l.length oc) ∧ RRd cI 1 w' w'.heap.size OA l.length oc l ∧ (∀ j, j ∈ l ↔ Way g src j) ∧ l.length ≤ 1000 ∧ Below w.heap.size w w' := by
  have hln : g.length = n := by rw [← hrs, List.length_map]; exact h.row.len
  have HP : Hid (∀ W, Below w.heap.size w W → GRd W W.heap.size TA n tc rs) := Lib.hid fun W hb => (h.below hb).more hb.size
  have HOK := Lib.hid (And.intro hok (And.intro hs (And.intro hrs hln)))
  have mk := fun W => mk_int W n (by omega)
  have J0 : Hid (ReJ #[.slice NA n nc, .slice TA n tc] (List.replicate n 0) w ((w.alloc (.cells #[.slice NA n nc, .slice TA n tc] 56)).alloc (.cells (nsI (List.replicate n 0)) 3))) := Lib.hid (by
    have e1 := hp_new (w.alloc (.cells #[.slice NA n nc, .slice TA n tc] 56)) (.cells (nsI (List.replicate n 0)) 3)
    simp only [World.size_alloc] at e1
    exact ⟨(Below.refl _ _).alloc (by simp) _, by simp, e1⟩)
  have z1 : (w.alloc (.cells #[.slice NA n nc, .slice TA n tc] 56)).cell? ⟨w.heap.size, 1, none⟩ = some (.slice TA n tc) := by rw [cell_of 1 (hp_new w _)]; rfl
  have z2 : ((w.alloc (.cells #[.slice NA n nc, .slice TA n tc] 56)).alloc (.cells (nsI (List.replicate n 0)) 3)).cell? ⟨w.heap.size, 1, none⟩ = some (.slice TA n tc) := cell_of 1 J0.out.graph
  have hs0 : (0 : Int) ≤ (src : Int) := by omega
  have hsn : (src : Int) < (n : Int) := by omega
  have HSZ := Lib.hid hsz
  have HRW : Hid (∀ W, Below w.heap.size w W → ∀ i, i < n → ∃ (b o : Nat) (ir : IRow), TA = some ⟨b, o, none⟩ ∧ g[i]? = some ir.l ∧ W.cell? ⟨b, o + i, none⟩ = some (.slice ir.A ir.n ir.c) ∧ RRd cI 1 W W.heap.size ir.A ir.n ir.c ir.l ∧ ir.n = ir.l.length ∧ ir.n ≤ 100000) := Lib.hid fun W hb i hi => by
    obtain ⟨b1, o1, ir, e, _, hir, hc1⟩ := (HP.out W hb).row.cell hi
    have hr := (HP.out W hb).rows ir (List.mem_of_getElem? hir)
    have hg2 : g[i]? = some ir.l := by rw [← hrs, List.getElem?_map, hir]; rfl
    refine ⟨b1, o1, ir, e, hg2, by rw [show o1 + i = o1 + (i * 1 + 0) by omega]; exact hc1 0 _ rfl, hr, hr.len.symm, ?_⟩
    rw [← hr.len]
    exact hs _ (List.mem_of_getElem? hg2)
  obtain ⟨b0, o0, ir0, hTA, hg0, y0, hr0, hn0, hq0⟩ := HRW.out _ J0.out.old src hsrc
  subst hTA
  have CC := Lib.hid (cloneI_c ir0.A ir0.n ir0.c ir0.l _ hr0 (by omega))
  have HG0 := Lib.hid (And.intro hg0 (And.intro hn0 hq0))
  obtain ⟨iA, iN, iC, iL⟩ := ir0
  simp only at y0 CC HG0
  clear h hok hs hrs hln hr0 hg0 hn0 hq0 hsz
  go_enter Tryz.func43, Tryz.ntmps43
  go_wp2_with fail
  refine CC.out.mono ?_
  rintro e w1 ⟨v1, rfl, ho1, hb1⟩
  have K0 : Hid (RInv g src (List.replicate n 0) iL ∧ ReJ #[.slice NA n nc, .slice (some ⟨b0, o0, none⟩) n tc] (List.replicate n 0) w w1 ∧ OwnC cI 1 3 w1 (w.heap.size + 2) v1 iL) := Lib.hid ⟨by
    have e := RInv.begin g src iL HG0.out.1
    rw [HOK.out.2.2.2] at e
    exact e, J0.out.kept hb1, ho1.base J0.out.2.1⟩
  have hM0 : iL.length + leftE g (List.replicate n 0) ≤ 1100000 := by
    have e1 := leftE_le g (List.replicate n 0)
    have e2 := HG0.out.2
    have e3 := HSZ.out
    omega
  obtain ⟨M0, hM⟩ : ∃ M, iL.length + leftE g (List.replicate n 0) = M := ⟨_, rfl⟩
  rw [hM] at hM0
  clear ho1 hb1 CC J0 z1 z2 y0 mk
  go_wp2_with fail
  go_loopg [6] (M0) (fun gq v wr => ∃ (seen wait : List Nat), Hid (gq = wait.length + leftE g seen ∧ gq ≤ M0 ∧ ∀ j, seen.getD j 0 ≤ M0 - gq) ∧ Hid (RInv g src seen wait ∧ ReJ #[.slice NA n nc, .slice (some ⟨b0, o0, none⟩) n tc] seen w wr ∧ OwnC cI 1 3 wr (w.heap.size + 2) v wait))
  case atStart => exact ⟨_, iL, Lib.hid ⟨hM.symm, Nat.le_refl _, fun j => by
    rw [List.getD_eq_getElem?_getD, List.getElem?_replicate]
    split <;> simp⟩, K0⟩
  case round =>
    clear K0
    obtain ⟨seen, wait, hg, HK⟩ := hrel
    rcases List.eq_nil_or_concat wait with rfl | ⟨ws, i, rfl⟩
    · obtain ⟨WA, wc, hv⟩ := HK.out.2.2.form
      subst hv
      simp only [List.length_nil]
      have hsl : seen.length = n := by rw [HK.out.1.len, HOK.out.2.2.2]
      have HSL := Lib.hid hsl
      obtain ⟨S2, hS2⟩ : ∃ q, wr.heap.size = q := ⟨_, rfl⟩
      have HS2 := Lib.hid hS2
      have L0 : Hid (Below wr.heap.size wr wr ∧ OwnC cI 1 3 wr wr.heap.size (.slice none 0 0) ((List.range 0).filter fun j => decide (0 < seen.getD j 0))) := Lib.hid ⟨Below.refl _ _, OwnC.start _ _ _ _ _⟩
      clear hsl hS2
      go_wp2_with fail
      generalize wr = w2 at *
      go_loopg [8, 55] (n) (fun gq v i wr => ∃ t : Nat, i = .int .i64 (t : Int) ∧ t ≤ n ∧ Hid (gq + t = n) ∧ Hid (Below w2.heap.size w2 wr ∧ OwnC cI 1 3 wr w2.heap.size v ((List.range t).filter fun j => decide (0 < seen.getD j 0))))
      case atStart => exact ⟨0, rfl, Nat.zero_le _, Lib.hid rfl, L0⟩
      case round =>
        clear L0
        obtain ⟨t, rfl, ht, hgt, HL⟩ := hrel
        obtain ⟨LA, lc, hvl⟩ := HL.out.2.form
        subst hvl
        have ht0 : (0 : Int) ≤ (t : Int) := by omega
        have ht9 : (t : Int) ≤ 1000 := by omega
        by_cases htn : t < n
        · have hti : (t : Int) < (n : Int) := by omega
          have c1 : wr.cell? ⟨w.heap.size + 1, t, none⟩ = some (.int .i64 ((seen.getD t 0 : Nat) : Int)) := by
            rw [cell_of t ((HK.out.2.1.kept HL.out.1).2.2), nsI_get _ _ (by rw [HSL.out]; exact htn)]
          have hal : ((List.range t).filter fun j => decide (0 < seen.getD j 0)).length ≤ 1000 := by
            have := List.length_filter_le (fun j => decide (0 < seen.getD j 0)) (List.range t)
            rw [List.length_range] at this
            omega
          have HR : Hid ((List.range (t + 1)).filter (fun j => decide (0 < seen.getD j 0)) = ((List.range t).filter fun j => decide (0 < seen.getD j 0)) ++ (if 0 < seen.getD t 0 then [t] else [])) := Lib.hid (by
            rw [filt_succ]
            simp only [decide_eq_true_eq])
          obtain ⟨acc, hacc⟩ : ∃ p, ((List.range t).filter fun j => decide (0 < seen.getD j 0)) = p := ⟨_, rfl⟩
          rw [hacc] at HR HL hal ⊢
          obtain ⟨sv, hsv⟩ : ∃ p, seen.getD t 0 = p := ⟨_, rfl⟩
          rw [hsv] at HR c1
          clear hacc hsv
          by_cases h0 : 0 < sv
          · have h0i : (sv : Int) > 0 := by omega
            have HE : Hid ((List.range (t + 1)).filter (fun j => decide (0 < seen.getD j 0)) = acc ++ [t]) := Lib.hid (by rw [HR.out, if_pos h0])
            have hown : wr.ownsRow w2.heap.size 3 1 (.slice LA acc.length lc) acc.length (acc.flatMap cI) := HL.out.2
            have hpl : acc.length ≤ 1000000000 := by omega
            have hba : w2.heap.size ≤ wr.heap.size := HL.out.1.size
            clear h0 HR
            go_wp2_with (at_builtin; refine wpList_appK rfl (.tmp 62) (.tmp 64) 81 3 rfl (.int .i64 0) 1 8 Tryz.underlying81 infoC_int rfl (by decide) _ _ _ _ rfl hown (cI t) _ rfl rfl rfl (by simp [cI, Value.oneCell']) hpl (by decide) hba ?_)
            intro v6 w6 hown6 hg6 hat6
            have O6 := Lib.hid (OwnC.snoc (c := cI) (x := t) hown6)
            have kb := (Below.refl wr.heap.size wr).alloc (Nat.le_refl _) (.cells (cI t).toArray 3)
            have HB6 := Lib.hid ((HL.out.1.trans (kb.mono HL.out.1.size)).grown hg6 (by rw [World.size_alloc wr]; omega) (fun j hj => (HL.out.2.ge hj).2))
            clear hown6 hg6 hat6 hown kb hba
            go_wp2
            go_roundg (n - (t + 1))
            case measure => have := hgt.out; omega
            case rel => exact ⟨t + 1, by go_num, by omega, Lib.hid (by have := hgt.out; omega), Lib.hid (by rw [HE.out]; exact ⟨HB6.out, O6.out⟩)⟩
          · have h0i : ¬ (sv : Int) > 0 := by omega
            have HE : Hid ((List.range (t + 1)).filter (fun j => decide (0 < seen.getD j 0)) = acc) := Lib.hid (by rw [HR.out, if_neg h0, List.append_nil])
            clear h0 HR
            go_wp2
            go_roundg (n - (t + 1))
            case measure => have := hgt.out; omega
            case rel => exact ⟨t + 1, by go_num, by omega, Lib.hid (by have := hgt.out; omega), Lib.hid (by rw [HE.out]; exact HL.out)⟩
        · have hti : ¬ (t : Int) < (n : Int) := by omega
          obtain rfl : t = n := by omega
          obtain ⟨L, hL⟩ : ∃ p, ((List.range t).filter fun j => decide (0 < seen.getD j 0)) = p := ⟨_, rfl⟩
          have HF : Hid (∀ j, j ∈ L ↔ Way g src j) := Lib.hid fun j => by
            rw [← hL, List.mem_filter, List.mem_range, decide_eq_true_eq, HK.out.1.done]
            exact ⟨fun h => h.2, fun h => ⟨by have := h.lt2 HOK.out.1; rw [HOK.out.2.2.2] at this; exact this, h⟩⟩
          have hLl : L.length ≤ 1000 := by
            have := List.length_filter_le (fun j => decide (0 < seen.getD j 0)) (List.range t)
            rw [List.length_range, hL] at this
            omega
          have HLL := Lib.hid hLl
          clear hLl
          rw [hL] at HL ⊢
          obtain ⟨LA2, lc2, e9, hrr⟩ := OwnC.rrd (c := cI) (k := 1) (fun _ => rfl) (by decide) HL.out.2
          cases e9
          have HR9 := Lib.hid (And.intro hrr (HK.out.2.1.old.trans (HL.out.1.mono HK.out.2.1.old.size)))
          clear hrr hL
          go_wp2
          go_ret
          exact ⟨LA, lc, L, rfl, HR9.out.1, HF.out, HLL.out, HR9.out.2⟩
    · rw [List.concat_eq_append] at *
      obtain ⟨wg, wc, rfl, hwc, hwl, hwo⟩ := HK.out.2.2.lastI
      have hin : i < n := by
        have := (HK.out.1.a i (.inr (by simp))).lt2 HOK.out.1
        rw [HOK.out.2.2.2] at this
        exact this
      obtain ⟨b', o', ir, hA', hgi, yi, hri, hni, hqi⟩ := HRW.out wr HK.out.2.1.old i hin
      cases hA'
      have hsl : i < seen.length := by rw [HK.out.1.len, HOK.out.2.2.2]; exact hin
      have c1 : wr.cell? ⟨w.heap.size + 1, i, none⟩ = some (.int .i64 ((seen.getD i 0 : Nat) : Int)) := by rw [cell_of i HK.out.2.1.2.2, nsI_get _ _ hsl]
      have f1 : wr.frozen? ⟨w.heap.size + 1, i, none⟩ = false := free_of i HK.out.2.1.2.2
      have hcb := hg.out.2.2 i
      have hg1 : 1 ≤ gk ∧ gk ≤ M0 := ⟨by have := hg.out.1; rw [List.length_append] at this; simp at this; omega, hg.out.2.1⟩
      obtain ⟨cv, hcv⟩ : ∃ p, seen.getD i 0 = p := ⟨_, rfl⟩
      have HNX := Lib.hid (HK.out.1.next HOK.out.1 hgi)
      have HLE := Lib.hid (leftE_set g seen i ir.l hgi hsl)
      have HGD : Hid (∀ j, (seen.set i (cv + 1)).getD j 0 ≤ M0 - (gk - 1)) := Lib.hid fun j => by
        rw [getD_set _ _ _ _ hsl]
        split
        · omega
        · have := hg.out.2.2 j
          omega
      rw [hcv] at c1 HNX HLE hcb
      have HSET : Hid (ReJ #[.slice NA n nc, .slice (some ⟨b0, o0, none⟩) n tc] (seen.set i (cv + 1)) w (wr.setCell ⟨w.heap.size + 1, i, none⟩ (.int .i64 ((cv : Int) + 1)))) := Lib.hid (HK.out.2.1.set i (cv + 1))
      have HWO : Hid (OwnC cI 1 3 (wr.setCell ⟨w.heap.size + 1, i, none⟩ (.int .i64 ((cv : Int) + 1))) (w.heap.size + 2) (.slice (some ⟨wg, 0, none⟩) ws.length wc) ws) := Lib.hid (hwo.keep fun p h1 h2 => hp_other (by omega))
      have z1x := cell_of 1 HSET.out.graph
      obtain ⟨b2', o2', ir2, hA2, hgi2, yix, hrix, hni2, hqi2⟩ := HRW.out _ HSET.out.old i hin
      cases hA2
      rw [hgi] at hgi2
      have c1x : (wr.setCell ⟨w.heap.size + 1, i, none⟩ (.int .i64 ((cv : Int) + 1))).cell? ⟨w.heap.size + 1, i, none⟩ = some (.int .i64 ((cv : Int) + 1)) := by
        rw [cell_of i HSET.out.2.2, nsI_get _ _ (by rw [List.length_set]; exact hsl), getD_set _ _ _ _ hsl, if_pos rfl]
        rfl
      have hcv0 : (0 : Int) ≤ (cv : Int) := by omega
      have hcv9 : (cv : Int) ≤ 1100000 := by omega
      have HGE := Lib.hid (And.intro hg.out.1 hg1)
      have hwl9 : ws.length ≤ 1100000 := by have := hg.out.1; rw [List.length_append] at this; simp at this; omega
      have HEQ : Hid (ir.l = ir2.l) := Lib.hid (Option.some.inj hgi2)
      obtain ⟨wl, hwlen⟩ : ∃ p, ws.length = p := ⟨_, rfl⟩
      have HWL := Lib.hid hwlen
      rw [hwlen] at hwc hwl HWO hwl9 ⊢
      have l0 : (0 : Int) ≤ (wl : Int) := by omega
      have l1 : (wl : Int) < (wl : Int) + 1 := by omega
      have l4 : ¬ (wl : Int) < 0 := by omega
      have l9 : (wl : Int) ≤ 1100000 := by omega
      have l2 : IntKind.i64.wrap (wl : Int) = (wl : Int) := by rw [IntKind.wrap_i64]; omega
      have hcut := fun W => run_cutI (w := W) (some ⟨wg, 0, none⟩) (wl + 1) wc wl (by omega)
      have hi0 : (0 : Int) ≤ (i : Int) := by omega
      have hii : (i : Int) < (n : Int) := by omega
      obtain ⟨iA, q, iC, il⟩ := ir
      obtain ⟨jA, jn, jC, jl⟩ := ir2
      simp only at yi yix hrix HNX HLE HEQ hni2 hqi2
      have hb0 : b0 < w.heap.size := by
        have hrow := (HP.out w (Below.refl _ _)).row
        obtain ⟨b, o, e, hb, _⟩ := hrow.at_ (by have := hrow.le; omega)
        cases e
        exact hb
      have e9 : Value.slice jA jn jC = Value.slice iA q iC := by
        have h1 := yix
        rw [World.cell?_of_block (a := ⟨b0, o0 + i, none⟩) (hp_other (show b0 ≠ w.heap.size + 1 by omega)), yi] at h1
        exact (Option.some.inj h1).symm
      injection e9 with e91 e92 e93
      subst e91 e92 e93
      clear hb0
      clear hgi hgi2 hri hni hni2 hqi hcv hcb hsl hwo hwlen hg HK
      by_cases hz : cv = 0
      · have hb1 : ((cv : Int) + 1 == 1) = true := by simp [hz]
        have HNX2 : Hid (RInv g src (seen.set i (cv + 1)) (ws ++ jl)) := Lib.hid (by have := HNX.out; rw [if_pos hz, HEQ.out] at this; exact this)
        have HL2 : Hid (leftE g (seen.set i (cv + 1)) + jl.length = leftE g seen) := Lib.hid (by have := HLE.out; rw [if_pos hz, HEQ.out] at this; exact this)
        have hbb : w.heap.size + 2 ≤ (wr.setCell ⟨w.heap.size + 1, i, none⟩ (.int .i64 ((cv : Int) + 1))).heap.size := HSET.out.2.1
        have hle9 : wl + jn ≤ 1000000000 := by omega
        have hown : OwnC cI 1 3 (wr.setCell ⟨w.heap.size + 1, i, none⟩ (.int .i64 ((cv : Int) + 1))) (w.heap.size + 2) (.slice (some ⟨wg, 0, none⟩) wl wc) ws := HWO.out
        clear hz HNX HLE
        go_wp2_with (at_builtin; refine wpList_appRow rfl (.tmp 46) (.tmp 51) rfl (w.heap.size + 2) _ ws rfl hown jA jn jC jl rfl hrix (by rw [HWL.out]; exact hle9) hbb ?_)
        intro v6 w6 ho6 hg6
        have J6 := Lib.hid (And.intro HNX2.out (And.intro (HSET.out.grown hg6 (fun b hb => (HWO.out.ge hb).2)) ho6))
        clear ho6 hg6 hown hbb
        go_wp2
        go_roundg (gk - 1)
        case measure => have := HGE.out; omega
        case rel => exact ⟨seen.set i (cv + 1), ws ++ jl, Lib.hid ⟨by have h1 := HGE.out.1; have h2 := HL2.out; simp only [List.length_append, List.length_cons, List.length_nil] at h1 ⊢; omega, by have := HGE.out; omega, HGD.out⟩, J6⟩
      · have hb1 : ((cv : Int) + 1 == 1) = false := by
          have : ¬ ((cv : Int) + 1 = 1) := by omega
          simpa using this
        have HNX2 : Hid (RInv g src (seen.set i (cv + 1)) ws) := Lib.hid (by have := HNX.out; rw [if_neg hz] at this; exact this)
        have HL2 : Hid (leftE g (seen.set i (cv + 1)) = leftE g seen) := Lib.hid (by have := HLE.out; rw [if_neg hz] at this; omega)
        have J6 := Lib.hid (And.intro HNX2.out (And.intro HSET.out HWO.out))
        clear hz HNX HLE
        go_wp2
        go_roundg (gk - 1)
        case measure => have := HGE.out; omega
        case rel => exact ⟨seen.set i (cv + 1), ws, Lib.hid ⟨by have h1 := HGE.out.1; have h2 := HL2.out; simp only [List.length_append, List.length_cons, List.length_nil] at h1 ⊢; omega, by have := HGE.out; omega, HGD.out⟩, J6⟩
end Go.Proofs.YtfemfgkcgboopaaGreatDoor
/- graph.Loop. -/
namespace Go.Proofs.YtfemfgkcgboopaaGreatDoor
open Go.ChangeShapes Go.WideShapes Go.ChangeAt Go.RowKit
set_option linter.unusedVariables false
theorem hasI_c (A : Option Addr) (n c x : Nat) (l : List Nat) (w : World) (h : RRd cI 1 w w.heap.size A n c l) (hm : n ≤ 1000000) :
    Calls Tryz.prog 42 #[.slice A n c, .int .i64 (x : Int)] w fun e w' => e = .returned (.bool (decide (x ∈ l))) ∧ w' = w := by
  have hl := h.len
  by_cases hn : n = 0
  · subst hn
    obtain rfl : l = [] := List.length_eq_zero_iff.1 hl
    refine (Tryz.slices_Contains_int_empty A c (x : Int) w).mono ?_
    rintro e w' ⟨rfl, rfl⟩
    exact ⟨by simp, rfl⟩
  · obtain ⟨b, o, e, _, hc⟩ := h.at_ (by have := h.le; omega)
    subst e
    refine (Tryz.slices_Contains_int b o n c (l.map (fun (n : Nat) => (n : Int))) (x : Int) w (by simp; omega) (by omega) (fun j hj => ?_)).mono ?_
    · rw [List.length_map] at hj
      have h9 := hc j l[j] (List.getElem?_eq_getElem hj) 0 _ rfl
      rw [show o + (j * 1 + 0) = o + j by omega] at h9
      rw [h9, zsI l j hj, List.getD_eq_getElem?_getD, List.getElem?_eq_getElem hj]
      rfl
    · rintro e w' ⟨rfl, rfl⟩
      refine ⟨?_, rfl⟩
      congr 2
      rw [List.take_of_length_le (by simp; omega), Bool.eq_iff_iff, decide_eq_true_eq, List.contains_iff_mem, List.mem_map]
      constructor
      · rintro ⟨y, hy, he⟩
        have : y = x := by omega
        rw [← this]
        exact hy
      · exact fun h => ⟨x, h, rfl⟩
set_option maxRecDepth 100000 in
set_option maxHeartbeats 16000000 in
/-- Whether a place leads back. -/
theorem graphLoop_c (NA : Option Addr) (nc : Nat) (TA : Option Addr) (n tc : Nat) (rs : List IRow) (g : List (List Nat)) (w : World) (hrs : rs.map IRow.l = g) (h : GRd w w.heap.size TA n tc rs) (hok : okG g) (hm : n ≤ 1000) (hs : ∀ t ∈ g, t.length ≤ 100000) (hsz : sizeE g ≤ 1000000) :
    Calls Tryz.prog 22 #[.agg #[.slice NA n nc, .slice TA n tc]] w fun e w' => ∃ (x : Int) (b : Bool), e = .returned (.tuple #[.int .i64 x, .bool b]) ∧ (b = true ↔ ∃ i, Way g i i) ∧ Below w.heap.size w w' := by
  have hln : g.length = n := by rw [← hrs, List.length_map]; exact h.row.len
  have HP : Hid (∀ W, Below w.heap.size w W → GRd W W.heap.size TA n tc rs) := Lib.hid fun W hb => (h.below hb).more hb.size
  have HLN := Lib.hid hln
  have at2 : ∀ W, Hid (CJ 56 w W #[.slice NA n nc, .slice TA n tc]) → W.cell? ⟨w.heap.size, 0, none⟩ = some (.slice NA n nc) ∧ W.cell? ⟨w.heap.size, 1, none⟩ = some (.slice TA n tc) := fun W h => ⟨cell_of 0 h.out.2, cell_of 1 h.out.2⟩
  have CR : Hid (∀ W, Hid (CJ 56 w W #[.slice NA n nc, .slice TA n tc]) → Calls Tryz.prog 40 #[.agg #[.slice NA n nc, .slice TA n tc]] W fun e w' => e = .returned (.bool true) ∧ (w'.cell? ⟨w.heap.size, 0, none⟩ = some (.slice NA n nc) ∧ w'.cell? ⟨w.heap.size, 1, none⟩ = some (.slice TA n tc)) ∧ Hid (CJ 56 w w' #[.slice NA n nc, .slice TA n tc])) := Lib.hid fun W hJ =>
    (graphRight_c NA nc TA n tc rs g W hrs (HP.out W hJ.out.1) hok hm hs).mono fun e w' ⟨he, hb⟩ => ⟨he, at2 w' (Lib.hid (hJ.out.kept hb)), Lib.hid (hJ.out.kept hb)⟩
  have CO : Hid (∀ W, Hid (CJ 56 w W #[.slice NA n nc, .slice TA n tc]) → Calls Tryz.prog 41 #[.agg #[.slice NA n nc, .slice TA n tc]] W fun e w' => ∃ OA oc m, e = .returned (.slice OA m oc) ∧ Hid (m = n → ∀ i, ¬ Way g i i) ∧ (w'.cell? ⟨w.heap.size, 0, none⟩ = some (.slice NA n nc) ∧ w'.cell? ⟨w.heap.size, 1, none⟩ = some (.slice TA n tc)) ∧ Hid (CJ 56 w w' #[.slice NA n nc, .slice TA n tc])) := Lib.hid fun W hJ =>
    (graphOrder_c NA nc TA n tc rs g W hrs (HP.out W hJ.out.1) hok hm hs).mono fun e w' ⟨OA, oc, l, he, ⟨told, ho⟩, hb⟩ => ⟨OA, oc, l.length, he, Lib.hid (fun e i => ho.done (by rw [e]; exact hln.symm) i), at2 w' (Lib.hid (hJ.out.kept hb)), Lib.hid (hJ.out.kept hb)⟩
  have CE : Hid (∀ W, Below w.heap.size w W → ∀ t : Nat, t < n → Calls Tryz.prog 43 #[.agg #[.slice NA n nc, .slice TA n tc], .int .i64 (t : Int)] W fun e w' => ∃ OA oc l, e = .returned (.slice OA l.length oc) ∧ RRd cI 1 w' w'.heap.size OA l.length oc l ∧ (∀ j, j ∈ l ↔ Way g t j) ∧ l.length ≤ 1000 ∧ Below W.heap.size W w') := Lib.hid fun W hb t ht => graphReached_c NA nc TA n tc t rs g W hrs (HP.out W hb) hok hm hs hsz ht
  have J0 := Lib.hid (CJ.start 56 w #[.slice NA n nc, .slice TA n tc])
  clear h hok hs hrs hln hsz
  go_enter Tryz.func22, Tryz.ntmps22
  go_wp2_with fail
  obtain ⟨z0, z1⟩ := at2 _ J0
  have J0d : Hid (CJ 56 w (w.alloc (.cells #[.slice NA n nc, .slice TA n tc] 56)).drew #[.slice NA n nc, .slice TA n tc]) := Lib.hid ⟨J0.out.1.drew, J0.out.2⟩
  obtain ⟨zd0, zd1⟩ := at2 _ J0d
  go_region_held3 (fun w' => (w'.cell? ⟨w.heap.size, 0, none⟩ = some (.slice NA n nc) ∧ w'.cell? ⟨w.heap.size, 1, none⟩ = some (.slice TA n tc)) ∧ Hid (CJ 56 w w' #[.slice NA n nc, .slice TA n tc])) (first | exact ⟨⟨by assumption, by assumption⟩, by assumption⟩) (first
      | (go_at_call 40; refine (CR.out _ (by assumption)).mono ?_; rintro e w4 ⟨rfl, ⟨b0, b1⟩, hj4⟩)
      | (go_at_call 41; refine (CO.out _ (by assumption)).mono ?_; rintro e w5 ⟨OA, oc, m, rfl, HMO, ⟨d0, d1⟩, hj5⟩))
  generalize hbq : ((m : Int) == (n : Int)) = bq
  cases bq with
  | true =>
    have hmn : m = n := by
      have h9 : (m : Int) = (n : Int) := by simpa using hbq
      omega
    have HF : Hid (false = true ↔ ∃ i, Way g i i) := Lib.hid ⟨(fun h => by cases h), fun ⟨i, hi⟩ => absurd hi (HMO.out hmn i)⟩
    clear hmn hbq
    go_wp2
    go_ret2
    exact ⟨0, false, rfl, (by first | exact HF.out | simpa using HF.out), hj5.out.1⟩
  | false =>
    clear hbq
    have z1 := d1
    clear HMO z0 zd0 zd1 J0 J0d
    go_wp2_with fail
    go_loopg [20] (n) (fun gq i wr => ∃ t : Nat, i = .int .i64 (t : Int) ∧ t ≤ n ∧ Hid (gq + t = n) ∧ Hid (CJ 56 w wr #[.slice NA n nc, .slice TA n tc]) ∧ Hid (∀ i < t, ¬ Way g i i))
    case atStart => exact ⟨0, rfl, Nat.zero_le _, Lib.hid rfl, hj5, Lib.hid fun i hi => absurd hi (by omega)⟩
    case round =>
      clear z1 b0 b1 d0 d1 hj4 hj5
      obtain ⟨t, rfl, ht, hg, HJ, HN⟩ := hrel
      have ht0 : (0 : Int) ≤ (t : Int) := by omega
      have ht9 : (t : Int) ≤ 1000 := by omega
      obtain ⟨z0, z1⟩ := at2 _ HJ
      by_cases htn : t < n
      · have hti : (t : Int) < (n : Int) := by omega
        have CE1 := Lib.hid (CE.out wr HJ.out.1 t htn)
        go_wp2_with fail
        refine CE1.out.mono ?_
        rintro e w6 ⟨QA, qc, l, rfl, hr, hl, hl1, hb⟩
        have HJ1 := Lib.hid (HJ.out.kept hb)
        have hl9 : l.length ≤ 1000000 := by omega
        have CI := Lib.hid (hasI_c QA l.length qc t l w6 hr hl9)
        have HL := Lib.hid (hl t)
        obtain ⟨bd, hbd⟩ : ∃ p, decide (t ∈ l) = p := ⟨_, rfl⟩
        rw [hbd] at CI
        have HBD := Lib.hid hbd
        obtain ⟨q, hq⟩ : ∃ p, l.length = p := ⟨_, rfl⟩
        rw [hq] at CI ⊢
        clear hr hl hl1 hb CE1 hl9 hbd hq
        go_wp2_with fail
        refine CI.out.mono ?_
        rintro e w7 ⟨rfl, rfl⟩
        cases bd with
        | true =>
          have HF : Hid (true = true ↔ ∃ i, Way g i i) := Lib.hid ⟨fun _ => ⟨t, HL.out.1 (of_decide_eq_true HBD.out)⟩, fun _ => rfl⟩
          go_wp2
          go_ret2
          exact ⟨(t : Int), true, rfl, (by first | exact HF.out | simpa using HF.out), HJ1.out.1⟩
        | false =>
          have HN2 : Hid (∀ i < t + 1, ¬ Way g i i) := Lib.hid fun i hi hw => by
            by_cases hit : i = t
            · subst hit
              exact of_decide_eq_false HBD.out (HL.out.2 hw)
            · exact HN.out i (by omega) hw
          go_wp2
          go_roundg (n - (t + 1))
          case measure => have := hg.out; omega
          case rel => exact ⟨t + 1, by go_num, by omega, Lib.hid (by have := hg.out; omega), HJ1, HN2⟩
      · have hti : ¬ (t : Int) < (n : Int) := by omega
        have HNW : Hid (∀ i, ¬ Way g i i) := Lib.hid fun i hi => absurd hi (HN.out i (by have := hi.lt; rw [HLN.out] at this; omega))
        go_wp2
        go_ret2
        exact ⟨0, .inl ⟨rfl, HNW.out, HJ.out.1⟩⟩
end Go.Proofs.YtfemfgkcgboopaaGreatDoor
