/- Texts of ours, joined: GoH, GoI. -/
import Derived.Test.YtfemfgkcgboopaaGreatDoorRows
import Derived.WalkKit
import Derived.ProofKit
import Derived.OpenShut
import Derived.ShutString
import Derived.ChangeOld
import Derived.Below
import Derived.BigQuiet
import Derived.Deep.QuietTactic
import Derived.Lib.Hide
import Derived.Deep.RegionHeld3
import Derived.Lib.SlBytesConst
import Derived.Laws.CopyOwn
import Derived.Laws.CopyRow
import Derived.Lib.Bytes
import Derived.Deep.LoopGhost
import Derived.Deep.DeepFit
import Derived.Deep.DeepMust
import Derived.WalkSpells
import Derived.WalkLawsBesides
import Derived.Laws.EntriesVeiled
import Derived.Laws.Rows
import Derived.Maps.OwnOps
import Derived.Maps.OwnSet
import Derived.Maps.Views
import Derived.Maps.AppendAt
import Derived.Deep.AppendLies
import Derived.DeepKeys4
import Derived.MapViews
import Derived.Maps.Keyed
import Derived.Deep.RegionLaw
import Derived.Deep.RegionWith
import Derived.Laws.MakeOwn
import Derived.Laws.OwnMore
import Derived.Test.YtfemfgkcgboopaaGreatDoorQ1
import Derived.Test.YtfemfgkcgboopaaGreatDoorQ13
import Derived.Test.YtfemfgkcgboopaaGreatDoorQ16
import Derived.Test.YtfemfgkcgboopaaGreatDoorQ2
import Derived.Test.YtfemfgkcgboopaaGreatDoorQ3
import Derived.Test.YtfemfgkcgboopaaGreatDoorQ4
import Derived.Test.YtfemfgkcgboopaaGreatDoorQ9
import Derived.Test.YtfemfgkcgboopaaGreatDoorQ14
import Derived.Test.YtfemfgkcgboopaaGreatDoorQ10
import Derived.Test.YtfemfgkcgboopaaGreatDoorQ17
import Derived.Test.YtfemfgkcgboopaaGreatDoorQ23
import Derived.Test.YtfemfgkcgboopaaGreatDoorQ26
/- graph.order. -/
namespace Go.Proofs.YtfemfgkcgboopaaGreatDoor
open Go.ChangeShapes Go.WideShapes Go.ChangeAt Go.RowKit
set_option linter.unusedVariables false
theorem wpList_appH2 {P : Program} {ops : Array Oper} {rest : List Oper} {o : Oper} {a : Act} {Q : Exit → Act → World → Prop} {w : World} (hgd : o.guard = none) (s x : Operand) (t e : TypeId)
    (ho : o.op = .call { callee := .builtin .append, args := #[s, x], argTypes := #[t, t] }) (z : Value) (k bytes : Nat) (ht : P.underlying t = some (.slice e))
    (hi : ∃ i, P.info? e = some i ∧ i.zero = some z ∧ i.size = k ∧ i.bytes = bytes) (hzs : z.cells.size = k) (hk : 0 < k)
    (base : Nat) (v : Value) (n : Nat) (xs : List Value) (hs : a.eval s = v) (hown : w.ownsRow base e k v n xs) (us : List Value) (us' : Array Value) (hus : us' = us.toArray) (H : Nat) (hH : w.heap.size = H) (hx : a.eval x = .slice (some ⟨H, 0, none⟩) 1 1)
    (hl : us.length = k) (h1 : ∀ u ∈ us, u.oneCell' = true) (hn : n ≤ 1000000000) (hby : bytes ≤ 1000) (hbase : base ≤ w.heap.size)
    (h : ∀ v' w', w'.ownsRow base e k v' (n + 1) (xs ++ us) → (w.alloc (.cells us' e)).grownBy w' v.ownBlock → (v'.ownBlock = v.ownBlock ∨ v'.ownBlock = some (w.heap.size + 1)) → wpList P ops Q rest (a.put o.dst v') w') : wpList P ops Q (o :: rest) a (w.alloc (.cells us' e)) := by
  subst hH
  exact wpList_appK hgd s x t e ho z k bytes ht hi hzs hk base v n xs hs hown us us' hus hx hl h1 hn hby hbase h
/-- While graph.order tells: the graph's block, the marks, their box. -/
def OrJ (cs : Array Value) (n : Nat) (told : List Nat) (w W : World) : Prop :=
  Below (w.heap.size + 1) (w.alloc (.cells cs 56)) W ∧ w.heap.size + 3 ≤ W.heap.size ∧ W.heap[w.heap.size + 1]? = some (.cells (nsI told) 3 (0, 0)) ∧ W.heap[w.heap.size + 2]? = some (.cells #[.slice (some ⟨w.heap.size + 1, 0, none⟩) n n] 81 (0, 0))
theorem OrJ.graph {cs : Array Value} {n : Nat} {told : List Nat} {w W : World} (h : OrJ cs n told w W) : W.heap[w.heap.size]? = some (.cells cs 56 (0, 0)) := (h.1.block _ (by omega)).trans (hp_new w _)
theorem OrJ.old {cs : Array Value} {n : Nat} {told : List Nat} {w W : World} (h : OrJ cs n told w W) : Below w.heap.size w W := ((Below.refl _ w).alloc (Nat.le_refl _) _).trans (h.1.mono (by omega))
theorem OrJ.kept {cs : Array Value} {n : Nat} {told : List Nat} {w W W' : World} (h : OrJ cs n told w W) (hb : Below W.heap.size W W') : OrJ cs n told w W' := by
  have h2 := h.2.1
  exact ⟨h.1.trans (hb.mono (by omega)), Nat.le_trans h2 hb.size, (hb.block _ (by omega)).trans h.2.2.1, (hb.block _ (by omega)).trans h.2.2.2⟩
theorem OrJ.set {cs : Array Value} {n : Nat} {told : List Nat} {w W : World} (h : OrJ cs n told w W) (j : Nat) : OrJ cs n (told.set j 1) w (W.setCell ⟨w.heap.size + 1, j, none⟩ (.int .i64 1)) :=
  ⟨h.1.setCell (p := ⟨w.heap.size + 1, j, none⟩) (Nat.le_refl _) _, by rw [World.size_setCell]; exact h.2.1, by rw [hp_set h.2.2.1]; rw [show (Value.int .i64 1) = Value.int .i64 ((1 : Nat) : Int) from rfl, nsI_set], (hp_other (by omega)).trans h.2.2.2⟩
set_option maxRecDepth 100000 in
set_option maxHeartbeats 4000000 in
theorem orderOpen_c (cs : Array Value) (n x : Nat) (told : List Nat) (w0 w : World) (h : OrJ cs n told w0 w) (hl : told.length = n) (hx : x < n) (hn : n ≤ 1000000) :
    Calls Tryz.prog 60 #[.int .i64 (x : Int), .pointer (some ⟨w0.heap.size + 1 + 1, 0, none⟩)] w fun e w' => e = .returned (.bool (decide (told.getD x 0 = 0))) ∧ Below w.heap.size w w' := by
  have z0 : w.cell? ⟨w0.heap.size + 1 + 1, 0, none⟩ = some (.slice (some ⟨w0.heap.size + 1, 0, none⟩) n n) := cell_of 0 h.2.2.2
  have z1 : w.cell? ⟨w0.heap.size + 1, x, none⟩ = some (.int .i64 ((told.getD x 0 : Nat) : Int)) := by rw [cell_of x h.2.2.1, nsI_get _ _ (by omega)]
  have hx0 : (0 : Int) ≤ (x : Int) := by omega
  have hxi : (x : Int) < (n : Int) := by omega
  obtain ⟨v, hv⟩ : ∃ q, told.getD x 0 = q := ⟨_, rfl⟩
  rw [hv] at z1 ⊢
  have hd : decide (v = 0) = (((v : Nat) : Int) == 0) := by
    rw [Bool.eq_iff_iff, decide_eq_true_eq, beq_iff_eq]
    omega
  rw [hd]
  clear h hv hd
  go_enter Tryz.func60, Tryz.ntmps60
  go_wp2
  go_ret
  exact ⟨rfl, Below.refl _ _⟩
set_option maxRecDepth 100000 in
set_option maxHeartbeats 16000000 in
/-- The places that can be told, one behind those to which its ways lead. -/
theorem graphOrder_c (NA : Option Addr) (nc : Nat) (TA : Option Addr) (n tc : Nat) (rs : List IRow) (g : List (List Nat)) (w : World) (hrs : rs.map IRow.l = g) (h : GRd w w.heap.size TA n tc rs) (hok : okG g) (hm : n ≤ 1000) (hs : ∀ t ∈ g, t.length ≤ 100000) :
    Calls Tryz.prog 41 #[.agg #[.slice NA n nc, .slice TA n tc]] w fun e w' => ∃ OA oc l, e = .returned (.slice OA l.length oc) ∧ (∃ told, OInv g told l) ∧ Below w.heap.size w w' := by
  have hln : g.length = n := by rw [← hrs, List.length_map]; exact h.row.len
  have HP : Hid (∀ W, Below w.heap.size w W → GRd W W.heap.size TA n tc rs) := Lib.hid fun W hb => (h.below hb).more hb.size
  have HOK := Lib.hid (And.intro hok (And.intro hs (And.intro hrs hln)))
  have mk := fun W => mk_int W n (by omega)
  have O0 : OInv g (List.replicate n 0) [] := by rw [← hln]; exact OInv.begin g
  have J0 : Hid (OrJ #[.slice NA n nc, .slice TA n tc] n (List.replicate n 0) w (((w.alloc (.cells #[.slice NA n nc, .slice TA n tc] 56)).alloc (.cells (nsI (List.replicate n 0)) 3)).alloc (.cells #[.slice (some ⟨w.heap.size + 1, 0, none⟩) n n] 81)) ∧ OInv g (List.replicate n 0) [] ∧ OwnC cI 1 3 (((w.alloc (.cells #[.slice NA n nc, .slice TA n tc] 56)).alloc (.cells (nsI (List.replicate n 0)) 3)).alloc (.cells #[.slice (some ⟨w.heap.size + 1, 0, none⟩) n n] 81)) (w.heap.size + 3) (.slice none 0 0) []) := Lib.hid (by
    have e1 := hp_new (w.alloc (.cells #[.slice NA n nc, .slice TA n tc] 56)) (.cells (nsI (List.replicate n 0)) 3)
    have e2 := hp_new ((w.alloc (.cells #[.slice NA n nc, .slice TA n tc] 56)).alloc (.cells (nsI (List.replicate n 0)) 3)) (.cells #[.slice (some ⟨w.heap.size + 1, 0, none⟩) n n] 81)
    simp only [World.size_alloc] at e1 e2
    exact ⟨⟨((Below.refl _ _).alloc (by simp) _).alloc (by simp) _, by simp, hp_old e1, e2⟩, O0, OwnC.start _ _ _ _ _⟩)
  have z1 : (w.alloc (.cells #[.slice NA n nc, .slice TA n tc] 56)).cell? ⟨w.heap.size, 1, none⟩ = some (.slice TA n tc) := by rw [cell_of 1 (hp_new w _)]; rfl
  clear h hok hs hrs hln O0
  go_enter Tryz.func41, Tryz.ntmps41
  go_wp2_with fail
  go_step3
  go_wp2_with fail
  go_step3
  go_wp2_with fail
  clear z1 mk
  go_loopg [3] (n + 1) (fun gq v wr => ∃ (told l : List Nat), Hid (gq + l.length = n + 1) ∧ Hid (OrJ #[.slice NA n nc, .slice TA n tc] n told w wr ∧ OInv g told l ∧ OwnC cI 1 3 wr (w.heap.size + 3) v l))
  case atStart => exact ⟨_, [], Lib.hid rfl, J0⟩
  case round =>
    clear J0
    obtain ⟨told, l, hg, HJ⟩ := hrel
    obtain ⟨LA, lc, hv⟩ := HJ.out.2.2.form
    subst hv
    have hll : l.length ≤ n := by
      have h1 := HJ.out.2.1.cnt
      have h2 := HJ.out.2.1.len
      have h3 : told.countP (fun n => n != 0) ≤ told.length := List.countP_le_length
      rw [HOK.out.2.2.2] at h2
      omega
    have htl : told.length = n := by rw [HJ.out.2.1.len, HOK.out.2.2.2]
    have HTL := Lib.hid htl
    obtain ⟨m, hml⟩ : ∃ m, l.length = m := ⟨_, rfl⟩
    have HM := Lib.hid hml
    rw [hml] at hll ⊢
    have z1 := cell_of 1 HJ.out.1.graph
    have HJ0 := HJ
    clear hml htl
    go_wp2_with fail
    clear z1
    generalize wr = w9 at *
    go_loopg [3, 16] (n) (fun gq v i wr => v = .slice LA m lc ∧ ∃ t : Nat, i = .int .i64 (t : Int) ∧ t ≤ n ∧ Hid (gq + t = n) ∧ Hid (OrJ #[.slice NA n nc, .slice TA n tc] n told w wr ∧ OwnC cI 1 3 wr (w.heap.size + 3) (.slice LA m lc) l))
    case atStart => exact ⟨rfl, 0, rfl, Nat.zero_le _, Lib.hid rfl, Lib.hid ⟨HJ0.out.1, by have := HJ0.out.2.2; rw [HM.out] at this; exact this⟩⟩
    case round =>
      obtain ⟨rfl, t, rfl, ht, hgt, HI⟩ := hrel
      have ht0 : (0 : Int) ≤ (t : Int) := by omega
      have ht9 : (t : Int) ≤ 1000 := by omega
      by_cases htn : t < n
      · have hti : (t : Int) < (n : Int) := by omega
        have z1 := cell_of 1 HI.out.1.graph
        obtain ⟨b1, o1, ir, rfl, hb1, hir, hc1⟩ := (HP.out wr HI.out.1.old).row.cell htn
        have y1 : wr.cell? ⟨b1, o1 + t, none⟩ = some (.slice ir.A ir.n ir.c) := by rw [show o1 + t = o1 + (t * 1 + 0) by omega]; exact hc1 0 _ rfl
        have hmem : ir ∈ rs := List.mem_of_getElem? hir
        have hgt2 : g[t]? = some ir.l := by rw [← HOK.out.2.2.1, List.getElem?_map, hir]; rfl
        have HGT := Lib.hid hgt2
        have hjl := HOK.out.1 t ir.l hgt2
        have hq9 : ir.n ≤ 1000000 := by have := ((HP.out wr HI.out.1.old).rows ir hmem).len; have := HOK.out.2.1 _ (List.mem_of_getElem? hgt2); omega
        have CO := Lib.hid (orderOpen_c _ n t told w wr HI.out.1 HTL.out htn (by omega))
        have CF : Hid (∀ W, Below wr.heap.size wr W → Calls Tryz.prog 59 #[.slice ir.A ir.n ir.c, .func (.func 60) #[] #[.pointer (some ⟨w.heap.size + 1 + 1, 0, none⟩)]] W fun e w' => e = .returned (.bool (ir.l.any (fun x => decide (told.getD x 0 = 0)))) ∧ Below W.heap.size W w') := Lib.hid fun W hb =>
          hasFuncI_c 60 (.pointer (some ⟨w.heap.size + 1 + 1, 0, none⟩)) (fun x => decide (told.getD x 0 = 0)) ir.A ir.n ir.c ir.l W ((HP.out W (HI.out.1.old.trans (hb.mono HI.out.1.old.size))).rows ir hmem) hq9 (enters_of Tryz.func60 (by kernel_rfl) rfl) (fun x hx W2 hb2 => orderOpen_c _ n x told w W2 ((HI.out.1.kept hb).kept hb2) HTL.out (by have := hjl x hx; rw [HOK.out.2.2.2] at this; exact this) (by omega))
        obtain ⟨ba, hba⟩ : ∃ p, ir.l.any (fun x => decide (told.getD x 0 = 0)) = p := ⟨_, rfl⟩
        rw [hba] at CF
        obtain ⟨bo, hbo⟩ : ∃ p, decide (told.getD t 0 = 0) = p := ⟨_, rfl⟩
        rw [hbo] at CO
        have HBB := Lib.hid (And.intro hba hbo)
        obtain ⟨iA, q, iC, il⟩ := ir
        simp only at y1 CF HBB HGT
        clear hb1 hc1 hmem hgt2 hjl hq9 hba hbo hir
        cases bo with
        | false =>
          go_wp2_with fail
          refine CO.out.mono ?_
          rintro e w2 ⟨rfl, hb⟩
          have HI2 := Lib.hid (And.intro (HI.out.1.kept hb) (HI.out.2.kept hb))
          clear hb CO CF
          go_wp2
          go_roundg (n - (t + 1))
          case measure => have := hgt.out; omega
          case rel => exact ⟨rfl, t + 1, by go_num, by omega, Lib.hid (by have := hgt.out; omega), HI2⟩
        | true =>
          go_wp2_with fail
          refine CO.out.mono ?_
          rintro e w2 ⟨rfl, hb⟩
          have HI2 := Lib.hid (And.intro (HI.out.1.kept hb) (HI.out.2.kept hb))
          have CF2 := Lib.hid (CF.out w2 hb)
          clear hb CO CF
          go_wp2_with fail
          refine CF2.out.mono ?_
          rintro e w3 ⟨rfl, hb⟩
          have HI3 := Lib.hid (And.intro (HI2.out.1.kept hb) (HI2.out.2.kept hb))
          clear hb CF2 HI2
          cases ba with
          | true =>
            go_wp2
            go_roundg (n - (t + 1))
            case measure => have := hgt.out; omega
            case rel => exact ⟨rfl, t + 1, by go_num, by omega, Lib.hid (by have := hgt.out; omega), HI3⟩
          | false =>
            have HON : Hid (OInv g (told.set t 1) (l ++ [t])) := Lib.hid (HJ0.out.2.1.next HGT.out (of_decide_eq_true HBB.out.2) (fun j hj => by
              have h9 := List.any_eq_false.1 HBB.out.1 j hj
              simpa using h9))
            have hlm : m + 1 ≤ n := by
              have h1 := HON.out.cnt
              have h2 := HON.out.len
              have h3 : (told.set t 1).countP (fun n => n != 0) ≤ (told.set t 1).length := List.countP_le_length
              rw [HOK.out.2.2.2] at h2
              rw [List.length_append, HM.out] at h1
              simp only [List.length_cons, List.length_nil] at h1
              omega
            have c0 : w3.cell? ⟨w.heap.size + 1 + 1, 0, none⟩ = some (.slice (some ⟨w.heap.size + 1, 0, none⟩) n n) := cell_of 0 HI3.out.1.2.2.2
            have c1 : w3.cell? ⟨w.heap.size + 1, t, none⟩ = some (.int .i64 ((told.getD t 0 : Nat) : Int)) := by rw [cell_of t HI3.out.1.2.2.1, nsI_get _ _ (by rw [HTL.out]; exact htn)]
            have f1 : w3.frozen? ⟨w.heap.size + 1, t, none⟩ = false := free_of t HI3.out.1.2.2.1
            have J4 := Lib.hid (HI3.out.1.set t)
            have O4 : Hid (OwnC cI 1 3 (w3.setCell ⟨w.heap.size + 1, t, none⟩ (.int .i64 1)) (w.heap.size + 3) (.slice LA m lc) l) := Lib.hid (HI3.out.2.keep fun p h1 h2 => hp_other (by omega))
            have hown : (w3.setCell ⟨w.heap.size + 1, t, none⟩ (.int .i64 1)).ownsRow (w.heap.size + 3) 3 1 (.slice LA m lc) m (l.flatMap cI) := by have h9 := O4.out; unfold OwnC at h9; rw [HM.out] at h9; exact h9
            have hba : w.heap.size + 3 ≤ (w3.setCell ⟨w.heap.size + 1, t, none⟩ (.int .i64 1)).heap.size := J4.out.2.1
            have hpl : m ≤ 1000000000 := by omega
            generalize told.getD t 0 = tv at *
            clear z1 y1 HI HI3 HJ HJ0
            go_wp2_with (at_builtin; refine wpList_appH2 rfl (.tmp 33) (.tmp 35) 81 3 rfl (.int .i64 0) 1 8 Tryz.underlying81 infoC_int rfl (by decide) _ _ _ _ rfl hown (cI t) _ rfl w3.heap.size (by rw [World.size_setCell]) rfl rfl (by simp [cI, Value.oneCell']) hpl (by decide) hba ?_)
            intro v6 w6 hown6 hg6 hat6
            have O6 : OwnC cI 1 3 w6 (w.heap.size + 3) v6 (l ++ [t]) := OwnC.snoc (by rw [HM.out]; exact hown6)
            have J6 : OrJ #[.slice NA n nc, .slice (some ⟨b1, o1, none⟩) n tc] n (told.set t 1) w w6 := by
              have kb := (Below.refl (w3.setCell ⟨w.heap.size + 1, t, none⟩ (.int .i64 1)).heap.size (w3.setCell ⟨w.heap.size + 1, t, none⟩ (.int .i64 1))).alloc (Nat.le_refl _) (.cells (cI t).toArray 3)
              have h1 := J4.out.kept kb
              have hne : ∀ k, k < w.heap.size + 3 → some k ≠ (Value.slice LA m lc).ownBlock := fun k hk e => by have := (O4.out.ge e.symm).2; omega
              exact ⟨h1.1.grown hg6 (Nat.le_trans (by omega) h1.2.1) (fun k hk => by have := (O4.out.ge hk).2; omega), Nat.le_trans h1.2.1 hg6.size, (hg6.block _ (Nat.lt_of_lt_of_le (by omega) h1.2.1) (hne _ (by omega))).trans h1.2.2.1, (hg6.block _ (Nat.lt_of_lt_of_le (by omega) h1.2.1) (hne _ (by omega))).trans h1.2.2.2⟩
            have HN6 := Lib.hid (And.intro J6 (And.intro HON.out O6))
            clear hown6 hg6 hat6 hown hba O6 J6 c0 c1 f1
            go_wp2
            go_roundg (n + 1 - (m + 1))
            case measure => have := hg.out; have := HM.out; omega
            case rel => exact ⟨told.set t 1, l ++ [t], Lib.hid (by have := HM.out; rw [List.length_append]; simp; omega), HN6⟩
      · have hti : ¬ (t : Int) < (n : Int) := by omega
        have HF := Lib.hid (And.intro HJ0.out.2.1 HI.out.1.old)
        have HM2 := HM.out
        clear HJ HJ0 HI
        subst HM2
        go_wp2
        (try simp only [Exit.inBlock, Exit.then, Exit.noGoto_ret])
        go_ret
        exact ⟨LA, lc, l, rfl, ⟨told, HF.out.1⟩, HF.out.2⟩
end Go.Proofs.YtfemfgkcgboopaaGreatDoor
/- graph.reached: what it leans on. -/
namespace Go.Proofs.YtfemfgkcgboopaaGreatDoor
open Go.ChangeShapes Go.WideShapes Go.ChangeAt Go.RowKit
set_option linter.unusedVariables false
theorem OwnC.lastI {w : World} {base : Nat} {v : Value} {ws : List Nat} {i : Nat} (h : OwnC cI 1 3 w base v (ws ++ [i])) : ∃ g c, v = .slice (some ⟨g, 0, none⟩) (ws.length + 1) c ∧ ws.length + 1 ≤ c ∧ w.cell? ⟨g, ws.length, none⟩ = some (.int .i64 (i : Int)) ∧ OwnC cI 1 3 w base (.slice (some ⟨g, 0, none⟩) ws.length c) ws := by
  have hfl : ∀ l : List Nat, (l.flatMap cI).length = l.length := fun l => by rw [flat_len (k := 1) (fun _ => rfl)]; omega
  obtain ⟨hl, ⟨hv, h0⟩ | ⟨g, cap, cur, hv, hg, hh, h3, h4, h5, h6⟩⟩ := h
  · simp at h0
  · rw [List.length_append] at hv h3 h6
    simp only [List.length_cons, List.length_nil, Nat.zero_add] at hv h3 h6
    refine ⟨g, cap, hv, h3, ?_, ?_, .inr ⟨g, cap, cur, rfl, hg, hh, by omega, h4, h5, ?_⟩⟩
    · have e : (cur.toList.take ((ws.length + 1) * 1))[ws.length]? = some (.int .i64 (i : Int)) := by
        rw [h6, List.flatMap_append, List.getElem?_append_right (by rw [hfl]; exact Nat.le_refl _), hfl, Nat.sub_self]
        rfl
      rw [List.getElem?_take_of_lt (by omega)] at e
      rw [cell_of _ hh]
      simpa using e
    · rw [hfl]
      omega
    · have e := congrArg (List.take ws.length) h6
      rw [List.take_take, List.flatMap_append, List.take_left' (hfl ws)] at e
      rw [Nat.mul_one]
      rw [show min ws.length ((ws.length + 1) * 1) = ws.length by omega] at e
      exact e
theorem run_cutI {w : World} (A : Option Addr) (n cap t : Nat) (ht : t ≤ cap) : (Instr.slice 81 (.slice A n cap) none (some (.int .i64 (t : Int))) none).run Tryz.prog w = .ok (.slice A t cap) w := by
  rw [run_slice_h (P := Tryz.prog) (w := w) 81 A n cap (by kernel_rfl) .i64 (t : Int) (by omega) (by omega), show (sizeOf (Tryz.prog.elem 81)).run Tryz.prog w = .ok 1 w by kernel_rfl]
  simp [sliced]
  intro _
  cases A with
  | none => rfl
  | some a => simp [Addr.add]
theorem zsI (l : List Nat) (j : Nat) (h : j < l.length) : (l.map (fun (n : Nat) => (n : Int))).getD j 0 = ((l.getD j 0 : Nat) : Int) := by
  rw [List.getD_eq_getElem?_getD, List.getElem?_map, List.getD_eq_getElem?_getD, List.getElem?_eq_getElem h]
  rfl
theorem cloneI_c (A : Option Addr) (n c : Nat) (l : List Nat) (w : World) (h : RRd cI 1 w w.heap.size A n c l) (hm : n ≤ 1000000) :
    Calls Tryz.prog 62 #[.slice A n c] w fun e w' => ∃ v, e = .returned v ∧ OwnC cI 1 3 w' w.heap.size v l ∧ Below w.heap.size w w' := by
  have hl := h.len
  cases A with
  | none =>
    have hc := h.nil rfl
    have hn := h.le
    have : l = [] := List.length_eq_zero_iff.1 (by omega)
    subst this
    refine (Tryz.slices_Clone_int_nil n c w).mono ?_
    rintro e w' ⟨rfl, rfl⟩
    exact ⟨_, rfl, OwnC.start _ _ _ _ _, Below.refl _ _⟩
  | some a =>
    by_cases hn : n = 0
    · subst hn
      have : l = [] := List.length_eq_zero_iff.1 hl
      subst this
      refine (Tryz.slices_Clone_int_zero a c w).mono ?_
      rintro e w' ⟨v', rfl, ho, _, hb⟩
      exact ⟨v', rfl, ho, hb⟩
    · obtain ⟨b, o, e, _, hc⟩ := h.at_ (by have := h.le; omega)
      cases e
      refine (Tryz.slices_Clone_int b o n c (l.map (fun (n : Nat) => (n : Int))) w (by simp; omega) (by omega) (fun j hj => ?_)).mono ?_
      · rw [List.length_map] at hj
        have h9 := hc j l[j] (List.getElem?_eq_getElem hj) 0 _ rfl
        rw [show o + (j * 1 + 0) = o + j by omega] at h9
        rw [h9, zsI l j hj, List.getD_eq_getElem?_getD, List.getElem?_eq_getElem hj]
        rfl
      · rintro e w' ⟨v', rfl, ho, _, hb⟩
        refine ⟨v', rfl, ?_, hb⟩
        unfold OwnC
        rw [hl]
        have e : ((l.map (fun (n : Nat) => (n : Int))).take n).map (Value.int .i64) = l.flatMap cI := by
          rw [List.take_of_length_le (by simp; omega), List.map_map]
          clear hc ho h hl
          induction l with
          | nil => rfl
          | cons x l ih => rw [List.map_cons, List.flatMap_cons, ih]; rfl
        rw [e] at ho
        exact ho
/-- While graph.reached goes: the graph's block, how often each place was seen. -/
def ReJ (cs : Array Value) (seen : List Nat) (w W : World) : Prop :=
  Below (w.heap.size + 1) (w.alloc (.cells cs 56)) W ∧ w.heap.size + 2 ≤ W.heap.size ∧ W.heap[w.heap.size + 1]? = some (.cells (nsI seen) 3 (0, 0))
theorem ReJ.graph {cs : Array Value} {seen : List Nat} {w W : World} (h : ReJ cs seen w W) : W.heap[w.heap.size]? = some (.cells cs 56 (0, 0)) := (h.1.block _ (by omega)).trans (hp_new w _)
theorem ReJ.old {cs : Array Value} {seen : List Nat} {w W : World} (h : ReJ cs seen w W) : Below w.heap.size w W := ((Below.refl _ w).alloc (Nat.le_refl _) _).trans (h.1.mono (by omega))
theorem ReJ.kept {cs : Array Value} {seen : List Nat} {w W W' : World} (h : ReJ cs seen w W) (hb : Below W.heap.size W W') : ReJ cs seen w W' := by
  have h2 := h.2.1
  exact ⟨h.1.trans (hb.mono (by omega)), Nat.le_trans h2 hb.size, (hb.block _ (by omega)).trans h.2.2⟩
theorem ReJ.set {cs : Array Value} {seen : List Nat} {w W : World} (h : ReJ cs seen w W) (j v : Nat) : ReJ cs (seen.set j v) w (W.setCell ⟨w.heap.size + 1, j, none⟩ (.int .i64 (v : Nat))) :=
  ⟨h.1.setCell (p := ⟨w.heap.size + 1, j, none⟩) (Nat.le_refl _) _, by rw [World.size_setCell]; exact h.2.1, by rw [hp_set h.2.2, nsI_set]⟩
theorem ReJ.grown {cs : Array Value} {seen : List Nat} {w W W' : World} (h : ReJ cs seen w W) {row : Option Nat} (hg : W.grownBy W' row) (hr : ∀ b, row = some b → w.heap.size + 2 ≤ b) : ReJ cs seen w W' := by
  have h2 := h.2.1
  exact ⟨h.1.grown hg (by omega) (fun k hk => by have := hr k hk; omega), Nat.le_trans h2 hg.size, (hg.block _ (by omega) (fun e => by have := hr _ e.symm; omega)).trans h.2.2⟩
end Go.Proofs.YtfemfgkcgboopaaGreatDoor
