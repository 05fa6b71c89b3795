/- Texts of ours, joined: GrE, GoF, GoG. -/
import Derived.Test.YtfemfgkcgboopaaGreatDoorRows
import Derived.WalkKit
import Derived.ProofKit
import Derived.OpenShut
import Derived.ShutString
import Derived.ChangeOld
import Derived.Below
import Derived.BigQuiet
import Derived.Deep.QuietTactic
import Derived.Lib.Hide
import Derived.Deep.RegionHeld3
import Derived.Lib.SlBytesConst
import Derived.Laws.CopyOwn
import Derived.Laws.CopyRow
import Derived.Lib.Bytes
import Derived.Deep.LoopGhost
import Derived.Deep.DeepFit
import Derived.Deep.DeepMust
import Derived.WalkSpells
import Derived.WalkLawsBesides
import Derived.Laws.EntriesVeiled
import Derived.Laws.Rows
import Derived.Maps.OwnOps
import Derived.Maps.OwnSet
import Derived.Maps.Views
import Derived.Maps.AppendAt
import Derived.Deep.AppendLies
import Derived.DeepKeys4
import Derived.MapViews
import Derived.Maps.Keyed
import Derived.Deep.RegionLaw
import Derived.Deep.RegionWith
import Derived.Laws.MakeOwn
import Derived.Laws.OwnMore
import Derived.Test.YtfemfgkcgboopaaGreatDoorQ1
import Derived.Test.YtfemfgkcgboopaaGreatDoorQ13
import Derived.Test.YtfemfgkcgboopaaGreatDoorQ16
import Derived.Test.YtfemfgkcgboopaaGreatDoorQ2
import Derived.Test.YtfemfgkcgboopaaGreatDoorQ3
import Derived.Test.YtfemfgkcgboopaaGreatDoorQ4
import Derived.Test.YtfemfgkcgboopaaGreatDoorQ9
import Derived.Test.YtfemfgkcgboopaaGreatDoorQ14
import Derived.Test.YtfemfgkcgboopaaGreatDoorQ10
import Derived.Test.YtfemfgkcgboopaaGreatDoorQ17
import Derived.Test.YtfemfgkcgboopaaGreatDoorQ23
/- The document leads, place by place. -/
namespace Go.Proofs.YtfemfgkcgboopaaGreatDoor
open Go.ChangeShapes Go.WideShapes Go.ChangeAt Go.RowKit
set_option linter.unusedVariables false
def bsB (l : List Bool) : Array Value := (l.map Value.bool).toArray
def nsI (l : List Nat) : Array Value := (l.map fun n => Value.int .i64 (n : Nat)).toArray
theorem bsB_get (l : List Bool) (i : Nat) (h : i < l.length) : (bsB l)[i]? = some (.bool (l.getD i false)) := by
  unfold bsB
  rw [List.getElem?_toArray, List.getElem?_map, List.getD_eq_getElem?_getD, List.getElem?_eq_getElem h]
  rfl
theorem nsI_get (l : List Nat) (i : Nat) (h : i < l.length) : (nsI l)[i]? = some (.int .i64 ((l.getD i 0 : Nat) : Int)) := by
  unfold nsI
  rw [List.getElem?_toArray, List.getElem?_map, List.getD_eq_getElem?_getD, List.getElem?_eq_getElem h]
  rfl
theorem bsB_set (l : List Bool) (i : Nat) (b : Bool) : (bsB l).setIfInBounds i (.bool b) = bsB (l.set i b) := by
  unfold bsB
  rw [List.setIfInBounds_toArray, List.map_set]
theorem nsI_set (l : List Nat) (i n : Nat) : (nsI l).setIfInBounds i (.int .i64 (n : Nat)) = nsI (l.set i n) := by
  unfold nsI
  rw [List.setIfInBounds_toArray, List.map_set]
theorem mk_bool (w : World) (n : Nat) (hn : n ≤ 100000) : (Instr.makeSlice 78 (.int .i64 (n : Int)) (.int .i64 (n : Int))).run Tryz.prog w = .ok (.slice (some ⟨w.heap.size, 0, none⟩) n n) (w.alloc (.cells (bsB (List.replicate n false)) 4)) := by
  obtain ⟨i, h1, h2, h3, h4⟩ := info_parts (show (Tryz.prog.info? 4).map (fun i => (i.zero, i.size, i.bytes)) = some (some (.bool false), 1, 1) by kernel_rfl)
  have := run_make (P := Tryz.prog) w 78 4 i (.bool false) Tryz.underlying78 h1 h2 .i64 .i64 (n : Int) (n : Int) (by omega) (by omega) (by rw [h4]; omega) (by omega)
  rw [h3, Nat.mul_one, Int.toNat_natCast, show (Value.bool false).cells = #[.bool false] from rfl] at this
  rw [this]
  have e : madeCells #[.bool false] n = bsB (List.replicate n false) := by
    apply Array.toList_inj.1
    rw [toList_madeCells_one]
    simp [bsB]
  rw [e]
theorem mk_int (w : World) (n : Nat) (hn : n ≤ 100000) : (Instr.makeSlice 81 (.int .i64 (n : Int)) (.int .i64 (n : Int))).run Tryz.prog w = .ok (.slice (some ⟨w.heap.size, 0, none⟩) n n) (w.alloc (.cells (nsI (List.replicate n 0)) 3)) := by
  obtain ⟨i, h1, h2, h3, h4⟩ := info_parts (show (Tryz.prog.info? 3).map (fun i => (i.zero, i.size, i.bytes)) = some (some (.int .i64 0), 1, 8) by kernel_rfl)
  have := run_make (P := Tryz.prog) w 81 3 i (.int .i64 0) Tryz.underlying81 h1 h2 .i64 .i64 (n : Int) (n : Int) (by omega) (by omega) (by rw [h4]; omega) (by omega)
  rw [h3, Nat.mul_one, Int.toNat_natCast, show (Value.int .i64 0).cells = #[.int .i64 0] from rfl] at this
  rw [this]
  have e : madeCells #[.int .i64 0] n = nsI (List.replicate n 0) := by
    apply Array.toList_inj.1
    rw [toList_madeCells_one]
    simp [nsI]
  rw [e]
/-- While leads marks: the graph's block, the marks. -/
def LdJ (T : TypeId) (cs : Array Value) (to : List Bool) (w W : World) : Prop :=
  Below (w.heap.size + 1) (w.alloc (.cells cs T)) W ∧ w.heap.size + 1 < W.heap.size ∧ W.heap[w.heap.size + 1]? = some (.cells (bsB to) 4 (0, 0))
theorem LdJ.graph {T : TypeId} {cs : Array Value} {to : List Bool} {w W : World} (h : LdJ T cs to w W) : W.heap[w.heap.size]? = some (.cells cs T (0, 0)) := (h.1.block _ (by omega)).trans (hp_new w _)
theorem LdJ.old {T : TypeId} {cs : Array Value} {to : List Bool} {w W : World} (h : LdJ T cs to w W) : Below w.heap.size w W := ((Below.refl _ w).alloc (Nat.le_refl _) _).trans (h.1.mono (by omega))
theorem LdJ.set {T : TypeId} {cs : Array Value} {to : List Bool} {w W : World} (h : LdJ T cs to w W) (j : Nat) : LdJ T cs (to.set j true) w (W.setCell ⟨w.heap.size + 1, j, none⟩ (.bool true)) :=
  ⟨h.1.setCell (p := ⟨w.heap.size + 1, j, none⟩) (Nat.le_refl _) _, by rw [World.size_setCell]; exact h.2.1, by rw [hp_set h.2.2, bsB_set]⟩
set_option maxRecDepth 100000 in
set_option maxHeartbeats 16000000 in
/-- To which places ways lead, by the document. -/
theorem rfLeads_c (NA : Option Addr) (nc : Nat) (TA : Option Addr) (n tc src : Nat) (rs : List IRow) (g : List (List Nat)) (w : World) (hrs : rs.map IRow.l = g) (h : GRd w w.heap.size TA n tc rs) (hok : okG g) (hm : n ≤ 1000) (hs : ∀ t ∈ g, t.length ≤ 100000) (hsrc : src ≤ 1000000) :
    Calls Tryz.prog 34 #[.agg #[.slice NA n nc, .slice TA n tc], .int .i64 (src : Int)] w fun e w' => e = .returned (.slice (some ⟨w.heap.size + 1, 0, none⟩) n n) ∧ w'.heap[w.heap.size + 1]? = some (.cells (bsB (leadsL g src)) 4 (0, 0)) ∧ Below w.heap.size w w' := by
  have hln : g.length = n := by rw [← hrs, List.length_map]; exact h.row.len
  have HP : Hid (∀ W, Below w.heap.size w W → GRd W W.heap.size TA n tc rs) := Lib.hid fun W hb => (h.below hb).more hb.size
  have HS := Lib.hid hs
  have HOK := Lib.hid hok
  have HRS := Lib.hid hrs
  have HLN := Lib.hid hln
  have mk := fun W => mk_bool W n (by omega)
  have J0 : Hid (LdJ 48 #[.slice NA n nc, .slice TA n tc] (roundsL g src (List.replicate n false) 0) w ((w.alloc (.cells #[.slice NA n nc, .slice TA n tc] 48)).alloc (.cells (bsB (List.replicate n false)) 4))) := Lib.hid (by
    refine ⟨(Below.refl _ _).alloc (by simp) _, by simp, ?_⟩
    have := hp_new (w.alloc (.cells #[.slice NA n nc, .slice TA n tc] 48)) (.cells (bsB (List.replicate n false)) 4)
    rw [World.size_alloc] at this
    exact this)
  have z1 : (w.alloc (.cells #[.slice NA n nc, .slice TA n tc] 48)).cell? ⟨w.heap.size, 1, none⟩ = some (.slice TA n tc) := by rw [cell_of 1 (hp_new w _)]; rfl
  clear h hs hok hrs hln
  go_enter Tryz.func34, Tryz.ntmps34
  go_wp2
  clear z1
  go_loopg [6] (n + 1) (fun gq i wr => ∃ r : Nat, i = .int .i64 (r : Int) ∧ r ≤ n + 1 ∧ Hid (gq + r = n + 1) ∧ Hid (LdJ 48 #[.slice NA n nc, .slice TA n tc] (roundsL g src (List.replicate n false) r) w wr))
  case atStart => exact ⟨0, rfl, Nat.zero_le _, Lib.hid rfl, J0⟩
  case round =>
    clear J0
    obtain ⟨r, rfl, hr, hgr, HJ⟩ := hrel
    have hr0 : (0 : Int) ≤ (r : Int) := by omega
    have hr9 : (r : Int) ≤ 1001 := by omega
    have z1 := cell_of 1 HJ.out.graph
    by_cases hrn : r ≤ n
    · have hri : (r : Int) ≤ (n : Int) := by omega
      obtain ⟨to, hto⟩ : ∃ q, roundsL g src (List.replicate n false) r = q := ⟨_, rfl⟩
      have HT : Hid (roundsL g src (List.replicate n false) (r + 1) = rowsL g src to n) := Lib.hid (by rw [roundsL, hto, HLN.out])
      have htl : to.length = n := by rw [← hto, roundsL_len]; simp
      have HTL := Lib.hid htl
      rw [hto] at HJ
      have J1 : Hid (LdJ 48 #[.slice NA n nc, .slice TA n tc] (rowsL g src to 0) w wr) := HJ
      clear hto htl
      go_wp2_with fail
      clear z1
      generalize wr = w9 at *
      go_loopg [7] (n) (fun gq i wr => ∃ t : Nat, i = .int .i64 (t : Int) ∧ t ≤ n ∧ Hid (gq + t = n) ∧ Hid (LdJ 48 #[.slice NA n nc, .slice TA n tc] (rowsL g src to t) w wr))
      case atStart => exact ⟨0, rfl, Nat.zero_le _, Lib.hid rfl, J1⟩
      case round =>
        clear J1
        obtain ⟨t, rfl, ht, hgt, HI⟩ := hrel
        have ht0 : (0 : Int) ≤ (t : Int) := by omega
        have ht9 : (t : Int) ≤ 1000 := by omega
        have z1 := cell_of 1 HI.out.graph
        by_cases htn : t < n
        · have hti : (t : Int) < (n : Int) := by omega
          obtain ⟨b1, o1, ir, rfl, hb1, hir, hc1⟩ := (HP.out wr HI.out.old).row.cell htn
          have y1 : wr.cell? ⟨b1, o1 + t, none⟩ = some (.slice ir.A ir.n ir.c) := by rw [show o1 + t = o1 + (t * 1 + 0) by omega]; exact hc1 0 _ rfl
          have HIR := Lib.hid hir
          have hmem : ir ∈ rs := List.mem_of_getElem? hir
          have HRW : Hid (∀ W, Below w.heap.size w W → RRd cI 1 W W.heap.size ir.A ir.n ir.c ir.l) := Lib.hid fun W hb => (HP.out W hb).rows ir hmem
          have hgt2 : g[t]? = some ir.l := by rw [← HRS.out, List.getElem?_map, hir]; rfl
          have HJL := Lib.hid (HOK.out t ir.l hgt2)
          have hil := (HRW.out wr HI.out.old).len
          have hq9 : ir.n ≤ 100000 := by rw [← hil]; exact HS.out _ (List.mem_of_getElem? hgt2)
          obtain ⟨cur, hcur⟩ : ∃ q, rowsL g src to t = q := ⟨_, rfl⟩
          have HT2 : Hid (rowsL g src to (t + 1) = (ir.l).foldl (edgeL src t) cur) := Lib.hid (by rw [rowsL, hcur, List.getD_eq_getElem?_getD, hgt2]; rfl)
          have hcl : cur.length = n := by rw [← hcur, rowsL_len]; exact HTL.out
          rw [hcur] at HI
          obtain ⟨iA, q, iC, il⟩ := ir
          simp only at y1 HRW hil hq9 HT2 HJL
          have HCL := Lib.hid hcl
          have HIL := Lib.hid hil
          have J2 : Hid (LdJ 48 #[.slice NA n nc, .slice (some ⟨b1, o1, none⟩) n tc] ((il.take 0).foldl (edgeL src t) cur) w wr) := HI
          clear hb1 hc1 hmem hgt2 hcur hcl hil hir
          go_wp2_with fail
          clear z1 y1
          generalize wr = w8 at *
          go_loopg [8] (q) (fun gq i wr => ∃ k : Nat, i = .int .i64 (k : Int) ∧ k ≤ q ∧ Hid (gq + k = q) ∧ Hid (LdJ 48 #[.slice NA n nc, .slice (some ⟨b1, o1, none⟩) n tc] ((il.take k).foldl (edgeL src t) cur) w wr))
          case atStart => exact ⟨0, rfl, Nat.zero_le _, Lib.hid rfl, J2⟩
          case round =>
            clear J2
            obtain ⟨k, rfl, hk, hgk, HK⟩ := hrel
            have hk0 : (0 : Int) ≤ (k : Int) := by omega
            have hk9 : (k : Int) ≤ 100000 := by omega
            have z1 := cell_of 1 HK.out.graph
            obtain ⟨b1', o1', ir', hA', _, hir', hc1'⟩ := (HP.out wr HK.out.old).row.cell htn
            cases hA'
            rw [HIR.out] at hir'
            cases hir'
            have y1 : wr.cell? ⟨b1, o1 + t, none⟩ = some (.slice iA q iC) := by rw [show o1 + t = o1 + (t * 1 + 0) by omega]; exact hc1' 0 _ rfl
            clear hc1'
            by_cases hkq : k < q
            · have hki : (k : Int) < (q : Int) := by omega
              obtain ⟨b3, o3, j, rfl, hb3, hj, hc3⟩ := (HRW.out wr HK.out.old).cell hkq
              have y2 : wr.cell? ⟨b3, o3 + k, none⟩ = some (.int .i64 (j : Int)) := by rw [show o3 + k = o3 + (k * 1 + 0) by omega]; exact hc3 0 _ rfl
              have hjn : j < n := by have := HJL.out j (List.mem_of_getElem? hj); rw [HLN.out] at this; exact this
              have hj0 : (0 : Int) ≤ (j : Int) := by omega
              have hji : (j : Int) < (n : Int) := by omega
              have HFS : Hid ((il.take (k + 1)).foldl (edgeL src t) cur = edgeL src t ((il.take k).foldl (edgeL src t) cur) j) := Lib.hid (by rw [List.take_add_one, hj, List.foldl_append]; rfl)
              have htkl : ((il.take k).foldl (edgeL src t) cur).length = n := by rw [edges_len]; exact HCL.out
              obtain ⟨tk, htk⟩ : ∃ p, (il.take k).foldl (edgeL src t) cur = p := ⟨_, rfl⟩
              rw [htk] at HFS htkl HK
              have c1 : wr.cell? ⟨w.heap.size + 1, t, none⟩ = some (.bool (tk.getD t false)) := by rw [cell_of t HK.out.2.2]; exact bsB_get tk t (by omega)
              have c2 : wr.cell? ⟨w.heap.size + 1, j, none⟩ = some (.bool (tk.getD j false)) := by rw [cell_of j HK.out.2.2]; exact bsB_get tk j (by omega)
              have f2 : wr.frozen? ⟨w.heap.size + 1, j, none⟩ = false := free_of j HK.out.2.2
              have HSET := Lib.hid (HK.out.set j)
              obtain ⟨bt, hbt⟩ : ∃ p, tk.getD t false = p := ⟨_, rfl⟩
              obtain ⟨bj, hbj⟩ : ∃ p, tk.getD j false = p := ⟨_, rfl⟩
              rw [hbt] at c1
              rw [hbj] at c2
              have HED : Hid (edgeL src t tk j = if (decide (t = src) || bt) = true then tk.set j true else tk) := Lib.hid (by unfold edgeL; rw [hbt])
              clear hb3 hj hc3 htk hbt hbj htkl
              by_cases hts : t = src
              · have hE : Hid ((il.take (k + 1)).foldl (edgeL src t) cur = tk.set j true) := Lib.hid (by rw [HFS.out, HED.out, if_pos (by simp [hts])])
                clear HED HFS
                subst hts
                go_wp2
                go_roundg (q - (k + 1))
                case measure => have := hgk.out; omega
                case rel => exact ⟨k + 1, by go_num, by omega, Lib.hid (by have := hgk.out; omega), Lib.hid (by rw [hE.out]; exact HSET.out)⟩
              · have htsi : ¬ (t : Int) = (src : Int) := by omega
                cases bt with
                | true =>
                  have hE : Hid ((il.take (k + 1)).foldl (edgeL src t) cur = tk.set j true) := Lib.hid (by rw [HFS.out, HED.out, if_pos (by simp)])
                  clear hts HED HFS
                  go_wp2
                  go_roundg (q - (k + 1))
                  case measure => have := hgk.out; omega
                  case rel => exact ⟨k + 1, by go_num, by omega, Lib.hid (by have := hgk.out; omega), Lib.hid (by rw [hE.out]; exact HSET.out)⟩
                | false =>
                  have hE : Hid ((il.take (k + 1)).foldl (edgeL src t) cur = tk) := Lib.hid (by rw [HFS.out, HED.out, if_neg (by simp [hts])])
                  clear hts HED HFS HSET
                  go_wp2
                  go_roundg (q - (k + 1))
                  case measure => have := hgk.out; omega
                  case rel => exact ⟨k + 1, by go_num, by omega, Lib.hid (by have := hgk.out; omega), Lib.hid (by rw [hE.out]; exact HK.out)⟩
            · have hki : ¬ (k : Int) < (q : Int) := by omega
              have hE : Hid (LdJ 48 #[.slice NA n nc, .slice (some ⟨b1, o1, none⟩) n tc] (rowsL g src to (t + 1)) w wr) := Lib.hid (by
                have := HK.out
                rw [List.take_of_length_le (by rw [HIL.out]; omega)] at this
                rw [HT2.out]
                exact this)
              clear HK
              go_wp2
              go_roundg (n - (t + 1))
              case measure => have := hgt.out; omega
              case rel => exact ⟨t + 1, by go_num, by omega, Lib.hid (by have := hgt.out; omega), hE⟩
        · have hti : ¬ (t : Int) < (n : Int) := by omega
          obtain rfl : t = n := by omega
          go_wp2
          go_roundg (t + 1 - (r + 1))
          case measure => have := hgr.out; omega
          case rel => exact ⟨r + 1, by go_num, by omega, Lib.hid (by have := hgr.out; omega), Lib.hid (by rw [HT.out]; exact HI.out)⟩
    · have hri : ¬ (r : Int) ≤ (n : Int) := by omega
      have hrr : r = n + 1 := by omega
      have HF : Hid (wr.heap[w.heap.size + 1]? = some (.cells (bsB (leadsL g src)) 4 (0, 0)) ∧ Below w.heap.size w wr) := Lib.hid (by
        refine ⟨?_, HJ.out.old⟩
        have := HJ.out.2.2
        rw [hrr] at this
        unfold leadsL
        rw [HLN.out]
        exact this)
      clear hrr
      go_wp2
      go_ret
      exact ⟨rfl, HF.out⟩
end Go.Proofs.YtfemfgkcgboopaaGreatDoor
/- slices.ContainsFunc of numbers. -/
namespace Go.Proofs.YtfemfgkcgboopaaGreatDoor
open Go.ChangeShapes Go.WideShapes Go.ChangeAt Go.RowKit
set_option linter.unusedVariables false
set_option maxRecDepth 100000 in
set_option maxHeartbeats 4000000 in
/-- slices.IndexFunc of numbers, at a function that holds one captured value. -/
theorem ixFuncI_c (fid : FuncId) (c0 : Value) (f : Nat → Bool) (A : Option Addr) (n cap : Nat) (l : List Nat) (w : World) (h : RRd cI 1 w w.heap.size A n cap l) (hm : n ≤ 1000000)
    (ec : ∀ args w, (callFunc fid args).run Tryz.prog w = .ok (.enter fid args) w) (HM : ∀ x ∈ l, ∀ W, Below w.heap.size w W → Calls Tryz.prog fid #[.int .i64 (x : Int), c0] W fun e w' => e = .returned (.bool (f x)) ∧ Below W.heap.size W w') :
    Calls Tryz.prog 84 #[.slice A n cap, .func (.func fid) #[] #[c0]] w fun e w' => ∃ r : Int, e = .returned (.int .i64 r) ∧ (0 ≤ r ↔ l.any f = true) ∧ Below w.heap.size w w' := by
  have HP : Hid (∀ W, Below w.heap.size w W → RRd cI 1 W W.heap.size A n cap l) := Lib.hid fun W hb => (h.below hb).more hb.size
  have HL : Hid (l.length = n) := Lib.hid h.len
  have HMM := Lib.hid HM
  clear h HM
  go_enter Tryz.func84, Tryz.ntmps84
  go_wp2
  go_loopg [8] (n) (fun g i wr => ∃ t : Nat, i = .int .i64 (t : Int) ∧ t ≤ n ∧ Hid (g + t = n) ∧ Hid (Below w.heap.size w wr) ∧ Hid ((l.take t).any f = false))
  case atStart => exact ⟨0, rfl, Nat.zero_le _, Lib.hid rfl, Lib.hid (Below.refl _ _), Lib.hid rfl⟩
  case round =>
    obtain ⟨t, rfl, ht, hg, HB, HN⟩ := hrel
    have ht0 : (0 : Int) ≤ (t : Int) := by omega
    have ht9 : (t : Int) ≤ 1000000 := by omega
    by_cases htn : t < n
    · have hti : (t : Int) < (n : Int) := by omega
      obtain ⟨b1, o1, x, rfl, hb1, hx, hc1⟩ := (HP.out _ HB.out).cell htn
      have HC := Lib.hid (HMM.out x (List.mem_of_getElem? hx) wr HB.out)
      have y0 : wr.cell? ⟨b1, o1 + t, none⟩ = some (.int .i64 (x : Int)) := by rw [show o1 + t = o1 + (t * 1 + 0) by omega]; exact hc1 0 _ rfl
      have HTK : Hid ((l.take (t + 1)).any f = f x) := Lib.hid (by rw [List.take_add_one, hx, List.any_append, HN.out]; simp)
      have HMEM := Lib.hid (List.mem_of_getElem? hx)
      obtain ⟨b, hb⟩ : ∃ q, f x = q := ⟨_, rfl⟩
      rw [hb] at HC HTK
      have HB9 := Lib.hid hb
      clear hb1 hx hc1 hb
      go_wp2_with fail
      refine HC.out.mono ?_
      rintro e w2 ⟨rfl, hb2⟩
      have HB2 := Lib.hid (HB.out.trans (hb2.mono HB.out.size))
      clear hb2 HC
      cases b with
      | true =>
        have HF : Hid (0 ≤ (t : Int) ↔ l.any f = true) := Lib.hid ⟨fun _ => List.any_eq_true.2 ⟨x, HMEM.out, HB9.out⟩, fun _ => by omega⟩
        go_wp2
        go_ret
        exact ⟨_, rfl, HF.out, HB2.out⟩
      | false =>
        go_wp2
        go_roundg (n - (t + 1))
        case measure => have := hg.out; omega
        case rel => exact ⟨t + 1, by go_num, by omega, Lib.hid (by have := hg.out; omega), HB2, HTK⟩
    · have hti : ¬ (t : Int) < (n : Int) := by omega
      have HF : Hid ((0 : Int) ≤ -1 ↔ l.any f = true) := Lib.hid ⟨fun h => by omega, fun h => by
        have := HN.out
        rw [List.take_of_length_le (by rw [HL.out]; omega), h] at this
        cases this⟩
      go_wp2
      go_ret
      exact ⟨_, rfl, by first | exact HF.out | (have h9 := HF.out; rwa [List.any_eq_true] at h9), HB.out⟩
set_option maxRecDepth 100000 in
set_option maxHeartbeats 4000000 in
theorem hasFuncI_c (fid : FuncId) (c0 : Value) (f : Nat → Bool) (A : Option Addr) (n cap : Nat) (l : List Nat) (w : World) (h : RRd cI 1 w w.heap.size A n cap l) (hm : n ≤ 1000000)
    (ec : ∀ args w, (callFunc fid args).run Tryz.prog w = .ok (.enter fid args) w) (HM : ∀ x ∈ l, ∀ W, Below w.heap.size w W → Calls Tryz.prog fid #[.int .i64 (x : Int), c0] W fun e w' => e = .returned (.bool (f x)) ∧ Below W.heap.size W w') :
    Calls Tryz.prog 59 #[.slice A n cap, .func (.func fid) #[] #[c0]] w fun e w' => e = .returned (.bool (l.any f)) ∧ Below w.heap.size w w' := by
  have C1 := Lib.hid (ixFuncI_c fid c0 f A n cap l w h hm ec HM)
  clear h hm HM
  go_enter Tryz.func59, Tryz.ntmps59
  go_wp2_with fail
  refine C1.out.mono ?_
  rintro e w1 ⟨r, rfl, hr, hb⟩
  have HB := Lib.hid (And.intro hr hb)
  clear hb hr
  go_wp2
  go_ret
  refine ⟨?_, HB.out.2⟩
  have : decide (0 ≤ r) = l.any f := by rw [Bool.eq_iff_iff, decide_eq_true_eq]; exact HB.out.1
  rw [← this]
  rfl
end Go.Proofs.YtfemfgkcgboopaaGreatDoor
/- graph.Right. -/
namespace Go.Proofs.YtfemfgkcgboopaaGreatDoor
open Go.ChangeShapes Go.WideShapes Go.ChangeAt Go.RowKit
set_option linter.unusedVariables false
set_option maxRecDepth 100000 in
set_option maxHeartbeats 4000000 in
theorem rightOdd_c (S : Nat) (vT : Value) (NA : Option Addr) (nc n x : Nat) (w : World) (hq : w.heap[S]? = some (.cells #[.slice NA n nc, vT] 56 (0, 0))) (hx : x ≤ 1000000) (hn : n ≤ 1000000) :
    Calls Tryz.prog 58 #[.int .i64 (x : Int), .pointer (some ⟨S, 0, none⟩)] w fun e w' => e = .returned (.bool (decide (n ≤ x))) ∧ Below w.heap.size w w' := by
  have z0 := cell_of 0 hq
  have hx0 : ¬ (x : Int) < 0 := by omega
  clear hq
  by_cases h : n ≤ x
  · have hge : (x : Int) ≥ (n : Int) := by omega
    have hd : decide (n ≤ x) = true := by simpa using h
    rw [hd]
    clear h hd
    go_enter Tryz.func58, Tryz.ntmps58
    go_wp2
    go_ret
    exact ⟨rfl, Below.refl _ _⟩
  · have hge : ¬ (x : Int) ≥ (n : Int) := by omega
    have hd : decide (n ≤ x) = false := by simpa using h
    rw [hd]
    clear h hd
    go_enter Tryz.func58, Tryz.ntmps58
    go_wp2
    go_ret
    exact ⟨rfl, Below.refl _ _⟩
set_option maxRecDepth 100000 in
set_option maxHeartbeats 8000000 in
/-- A graph whose numbers are places is right. -/
theorem graphRight_c (NA : Option Addr) (nc : Nat) (TA : Option Addr) (n tc : Nat) (rs : List IRow) (g : List (List Nat)) (w : World) (hrs : rs.map IRow.l = g) (h : GRd w w.heap.size TA n tc rs) (hok : okG g) (hm : n ≤ 1000) (hs : ∀ t ∈ g, t.length ≤ 100000) :
    Calls Tryz.prog 40 #[.agg #[.slice NA n nc, .slice TA n tc]] w fun e w' => e = .returned (.bool true) ∧ Below w.heap.size w w' := by
  have hln : g.length = n := by rw [← hrs, List.length_map]; exact h.row.len
  have HP : Hid (∀ W, Below w.heap.size w W → GRd W W.heap.size TA n tc rs) := Lib.hid fun W hb => (h.below hb).more hb.size
  have HOK := Lib.hid (And.intro hok (And.intro hs (And.intro hrs hln)))
  have J0 := Lib.hid (CJ.start 56 w #[.slice NA n nc, .slice TA n tc])
  clear h hok hs hrs hln
  go_enter Tryz.func40, Tryz.ntmps40
  go_wp2_with fail
  go_loopg [10] (n) (fun gq i wr => ∃ t : Nat, i = .int .i64 (t : Int) ∧ t ≤ n ∧ Hid (gq + t = n) ∧ Hid (CJ 56 w wr #[.slice NA n nc, .slice TA n tc]))
  case atStart => exact ⟨0, rfl, Nat.zero_le _, Lib.hid rfl, J0⟩
  case round =>
    clear J0
    obtain ⟨t, rfl, ht, hg, HJ⟩ := hrel
    have ht0 : (0 : Int) ≤ (t : Int) := by omega
    have ht9 : (t : Int) ≤ 1000 := by omega
    have z0 := cell_of 0 HJ.out.2
    have z1 := cell_of 1 HJ.out.2
    by_cases htn : t < n
    · have hti : (t : Int) < (n : Int) := by omega
      obtain ⟨b1, o1, ir, rfl, hb1, hir, hc1⟩ := (HP.out wr HJ.out.1).row.cell htn
      have y1 : wr.cell? ⟨b1, o1 + t, none⟩ = some (.slice ir.A ir.n ir.c) := by rw [show o1 + t = o1 + (t * 1 + 0) by omega]; exact hc1 0 _ rfl
      have hrd := (HP.out wr HJ.out.1).rows ir (List.mem_of_getElem? hir)
      have hgt2 : g[t]? = some ir.l := by rw [← HOK.out.2.2.1, List.getElem?_map, hir]; rfl
      have hq9 : ir.n ≤ 1000000 := by have := hrd.len; have := HOK.out.2.1 _ (List.mem_of_getElem? hgt2); omega
      have hjl := HOK.out.1 t ir.l hgt2
      have hany : ir.l.any (fun x => decide (n ≤ x)) = false := by
        rw [List.any_eq_false]
        intro x hx
        have := hjl x hx
        rw [HOK.out.2.2.2] at this
        simp
        omega
      have HC := Lib.hid (hasFuncI_c 58 (.pointer (some ⟨w.heap.size, 0, none⟩)) (fun x => decide (n ≤ x)) ir.A ir.n ir.c ir.l wr hrd hq9 (enters_of Tryz.func58 (by kernel_rfl) rfl) (fun x hx W hb => rightOdd_c w.heap.size _ NA nc n x W ((HJ.out.kept hb).2) (by have := hjl x hx; rw [HOK.out.2.2.2] at this; omega) (by omega)))
      rw [hany] at HC
      obtain ⟨iA, q, iC, il⟩ := ir
      simp only at y1 HC
      clear hb1 hc1 hir hrd hgt2 hq9 hjl hany
      go_wp2_with fail
      refine HC.out.mono ?_
      rintro e w1 ⟨rfl, hb⟩
      have HJ1 := Lib.hid (HJ.out.kept hb)
      clear hb HC
      go_wp2
      go_roundg (n - (t + 1))
      case measure => have := hg.out; omega
      case rel => exact ⟨t + 1, by go_num, by omega, Lib.hid (by have := hg.out; omega), HJ1⟩
    · have hti : ¬ (t : Int) < (n : Int) := by omega
      go_wp2
      go_ret
      exact ⟨by simp, HJ.out.1⟩
end Go.Proofs.YtfemfgkcgboopaaGreatDoor
