/- Texts of ours, joined: Laid, Laid3. -/
import Derived.Test.YtocbofeanfdggaaDoorRows
import Derived.WalkKit
import Derived.ProofKit
import Derived.OpenShut
import Derived.ShutString
import Derived.ChangeOld
import Derived.Below
import Derived.BigQuiet
import Derived.Deep.QuietTactic
import Derived.Lib.Hide
import Derived.Deep.RegionHeld3
import Derived.Lib.SlBytesConst
import Derived.Laws.CopyOwn
import Derived.Laws.CopyRow
import Derived.Lib.Bytes
import Derived.Deep.LoopGhost
import Derived.Deep.DeepFit
import Derived.Deep.DeepMust
import Derived.WalkSpells
import Derived.WalkLawsBesides
import Derived.Test.YtocbofeanfdggaaDoorQ2
import Derived.Test.YtocbofeanfdggaaDoorQ1
import Derived.Test.YtocbofeanfdggaaDoorQ3
import Derived.Test.YtocbofeanfdggaaDoorQ4
import Derived.Test.YtocbofeanfdggaaDoorQ5
import Derived.Lib.LaidCaseMet
import Derived.Deep.DeepLaidRun
import Derived.Test.YtocbofeanfdggaaDoorQ13
/- What a row's list of variables gives. -/
namespace Go.Proofs.YtocbofeanfdggaaDoor
open Go.ChangeShapes Go.WideShapes Go.ChangeAt Go.RowKit
set_option linter.unusedVariables false
/-- The cells that a datum of numbers, strings, arrays and structs takes, by its type: none where the lay-out has a gap. -/
def flatL (P : Program) (fl : TypeId → DataW Unit → Option (List Value)) : Nat → List (TypeId × Nat) → List (DataW Unit) → Option (List Value)
  | _, [], [] => some []
  | off, (t, o) :: ts, d :: ds => if o = off then (fl t d).bind fun v => if v.length = P.cellsOf t then (flatL P fl (off + P.cellsOf t) ts ds).map (v ++ ·) else none else none
  | _, _, _ => none
def flatD (P : Program) : Nat → TypeId → DataW Unit → Option (List Value)
  | 0, _, _ => none
  | f + 1, t, d => match P.underlying t, d with
    | some (.int k), .lit (.int k' n) => if k' = k then some [.int k n] else none
    | some .string, .lit (.string l) => some [.string ⟨l.toArray⟩]
    | some (.struct fs), .agg ds => (flatL P (flatD P f) 0 (fs.toList.map fun f => (f.type, f.offset)) ds).bind fun v => if v.length = P.cellsOf t then some v else none
    | some (.array n e), .agg ds => (flatL P (flatD P f) 0 ((List.range n).map fun i => (e, i * P.cellsOf e)) ds).bind fun v => if v.length = P.cellsOf t then some v else none
    | _, _ => none
theorem mapM_map {α β γ : Type} (g : α → β) (f : β → Option γ) : ∀ l : List α, (l.map g).mapM f = l.mapM fun a => f (g a)
  | [] => rfl
  | a :: l => by simp [List.mapM_cons, mapM_map g f l]
theorem mapM_cons_some {α β : Type} {f : α → Option β} {a : α} {l : List α} {ys : List β} (h : (a :: l).mapM f = some ys) : ∃ y ys', f a = some y ∧ l.mapM f = some ys' ∧ ys = y :: ys' := by
  rw [List.mapM_cons] at h
  obtain ⟨y, hy, h⟩ := Option.bind_eq_some_iff.1 h
  obtain ⟨ys', hys, h⟩ := Option.bind_eq_some_iff.1 h
  exact ⟨y, ys', hy, hys, (Option.some.inj h).symm⟩
theorem flatL_mapM {P : Program} {w : World} {base : Nat} {sp : Nat → Bool} {held : Bool} {enc : TypeId × Value → Unit} {fuel f : Nat} {cs : List Value}
    (ih : ∀ t cs d p vs, DataW.trod enc P w base sp held fuel t cs = some (d, p) → flatD P f t d = some vs → cs = vs) :
    ∀ (ts : List (TypeId × Nat)) (xs : List (DataW Unit × List MemPlace)) (off : Nat) (vs : List Value),
      (ts.mapM fun x => DataW.trod enc P w base sp held fuel x.1 ((cs.drop x.2).take (P.cellsOf x.1))) = some xs → flatL P (flatD P f) off ts (xs.map (·.1)) = some vs → (cs.drop off).take vs.length = vs
  | [], xs, off, vs, hm, hf => by
    have : xs = [] := by simpa using hm.symm
    subst this
    simp [flatL] at hf
    subst hf
    simp
  | (t, o) :: ts, xs, off, vs, hm, hf => by
    obtain ⟨⟨d, p⟩, xs', hx, hm', rfl⟩ := mapM_cons_some hm
    simp only [List.map_cons, flatL] at hf
    split at hf
    · rename_i ho
      subst ho
      obtain ⟨v, hv, hf⟩ := Option.bind_eq_some_iff.1 hf
      split at hf
      · rename_i hl
        obtain ⟨vs', hvs, rfl⟩ := Option.map_eq_some_iff.1 hf
        have h1 := ih t _ d p v hx hv
        have h2 := flatL_mapM ih ts xs' _ vs' hm' hvs
        simp only at h1
        rw [List.length_append, List.take_add, hl, h1, List.drop_drop, h2]
      · cases hf
    · cases hf
theorem flat_trod {P : Program} {w : World} {base : Nat} {sp : Nat → Bool} {held : Bool} {enc : TypeId × Value → Unit} : ∀ (fuel f : Nat) (t : TypeId) (cs : List Value) (d : DataW Unit) (p : List MemPlace) (vs : List Value),
    DataW.trod enc P w base sp held fuel t cs = some (d, p) → flatD P f t d = some vs → cs = vs := by
  intro fuel
  induction fuel with
  | zero => intro f t cs d p vs h; simp [DataW.trod] at h
  | succ fuel ih =>
    intro f t cs d p vs h hf
    cases f with
    | zero => simp [flatD] at hf
    | succ f =>
      unfold flatD at hf
      split at hf
      · rename_i k k' n hu
        split at hf
        · rename_i hk
          subst hk
          obtain ⟨m, hc, he, _⟩ := DataW.trod_int hu h
          cases he
          rw [hc]
          exact Option.some.inj hf
        · cases hf
      · rename_i l hu
        obtain ⟨m, hc, he, _⟩ := DataW.trod_string hu h
        cases he
        rw [hc]
        exact Option.some.inj hf
      · rename_i fs ds hu
        simp only [DataW.trod, hu] at h
        split at h
        · rename_i hl
          obtain ⟨xs, hm, hx⟩ := Option.map_eq_some_iff.1 h
          simp only [Prod.mk.injEq, DataW.agg.injEq] at hx
          obtain ⟨rfl, _⟩ := hx
          obtain ⟨v, hv, hf⟩ := Option.bind_eq_some_iff.1 hf
          split at hf
          · rename_i hvl
            have h2 := flatL_mapM (cs := cs) (fun t cs d p vs => ih f t cs d p vs) (fs.toList.map fun f => (f.type, f.offset)) xs 0 v (by rw [mapM_map]; exact hm) hv
            rw [List.drop_zero, hvl, ← hl, List.take_length] at h2
            rw [h2]
            exact Option.some.inj hf
          · cases hf
        · cases h
      · rename_i n e ds hu
        simp only [DataW.trod, hu] at h
        split at h
        · rename_i hl
          obtain ⟨xs, hm, hx⟩ := Option.map_eq_some_iff.1 h
          simp only [Prod.mk.injEq, DataW.agg.injEq] at hx
          obtain ⟨rfl, _⟩ := hx
          obtain ⟨v, hv, hf⟩ := Option.bind_eq_some_iff.1 hf
          split at hf
          · rename_i hvl
            have h2 := flatL_mapM (cs := cs) (fun t cs d p vs => ih f t cs d p vs) ((List.range n).map fun i => (e, i * P.cellsOf e)) xs 0 v (by rw [mapM_map]; exact hm) hv
            rw [List.drop_zero, hvl, ← hl, List.take_length] at h2
            rw [h2]
            exact Option.some.inj hf
          · cases hf
        · cases h
      · cases hf
/-- A variable that is listed holds the cells of its datum. -/
theorem laid_cells {P : Program} {w : World} : ∀ (laid : List (String × DataW Unit)) (ps : List MemPlace), DataW.LaidVars P w laid ps → ∀ (name : String) (d : DataW Unit), (name, d) ∈ laid →
    ∀ (g t f : Nat) (vs : List Value), P.globalNamed name = some g → (P.globals[g]?).map (·.type) = some t → flatD P f t d = some vs → w.var? P name = some vs.toArray
  | [], _, _, _, _, hm, _, _, _, _, _, _, _ => by cases hm
  | (n, d0) :: r, ps, h, name, d, hm, g, t, f, vs, hg, ht, hf => by
    obtain ⟨g', t', cs, fuel, p, q, hg', ht', hv, htr, hr, _⟩ := h
    rcases List.mem_cons.1 hm with e | hm
    · cases e
      obtain rfl := Option.some.inj (hg.symm.trans hg')
      obtain rfl := Option.some.inj (ht.symm.trans ht')
      rw [hv, ← flat_trod fuel f t cs.toList _ p vs htr hf]
    · exact laid_cells r q hr name d hm g t f vs hg ht hf
theorem block_of_var {P : Program} {w : World} {name : String} {g : Nat} {cs : Array Value} (hg : P.globalNamed name = some g) (h : w.var? P name = some cs) : ∃ T f, w.heap[g]? = some (.cells cs T f) := by
  simp only [World.var?, hg, Option.bind_some] at h
  split at h
  · rename_i cs' T f hb
    cases h
    exact ⟨T, f, hb⟩
  · cases h
theorem laid_var {P : Program} {w : World} {laid : List (String × DataW Unit)} (h : laidMet P laid w) (name : String) (d : DataW Unit) (hm : (name, d) ∈ laid) (g f : Nat) (vs : List Value)
    (hg : P.globalNamed name = some g) (hf : (((P.globals[g]?).map (·.type)).bind fun t => flatD P f t d) = some vs) : w.var? P name = some vs.toArray := by
  obtain ⟨ps, hl, _⟩ := h
  obtain ⟨t, ht, hf⟩ := Option.bind_eq_some_iff.1 hf
  exact laid_cells laid ps hl name d hm g t f vs hg ht hf
theorem laid_block {P : Program} {w : World} {laid : List (String × DataW Unit)} (h : laidMet P laid w) (name : String) (d : DataW Unit) (hm : (name, d) ∈ laid) (g f : Nat) (vs : List Value)
    (hg : P.globalNamed name = some g) (hf : (((P.globals[g]?).map (·.type)).bind fun t => flatD P f t d) = some vs) : ∃ T fr, w.heap[g]? = some (.cells vs.toArray T fr) :=
  block_of_var hg (laid_var h name d hm g f vs hg hf)
/-- A table of runs, out of a block. -/
theorem tab_of {w : World} {g : Nat} {T : TypeId} {fr : Nat × Nat} (t : List (Nat × Nat)) (h : w.heap[g]? = some (.cells (t.flatMap fun p => [Value.int .i64 p.1, Value.int .i64 p.2]).toArray T fr)) : Tab w g t := by
  intro i p hp
  have key : ∀ (t : List (Nat × Nat)) (i : Nat) (p : Nat × Nat), t[i]? = some p → (t.flatMap fun p => [Value.int .i64 p.1, Value.int .i64 p.2])[i * 2]? = some (.int .i64 p.1) ∧ (t.flatMap fun p => [Value.int .i64 p.1, Value.int .i64 p.2])[i * 2 + 1]? = some (.int .i64 p.2) := by
    intro t
    induction t with
    | nil => intro i p h; simp at h
    | cons x t ih =>
      intro i p h
      cases i with
      | zero => simp at h; subst h; exact ⟨rfl, rfl⟩
      | succ i =>
        have := ih i p (by simpa using h)
        rw [show (i + 1) * 2 = i * 2 + 2 by omega]
        simpa [List.flatMap_cons] using this
  have := key t i p hp
  rw [cell_of _ h, cell_of _ h, List.getElem?_toArray, List.getElem?_toArray]
  exact this
/-- The cells of a datum, whatever its type. -/
def flatV : Nat → DataW Unit → List Value
  | f + 1, .lit (.int k n) => [.int k n]
  | f + 1, .lit (.string l) => [.string ⟨l.toArray⟩]
  | f + 1, .agg ds => ds.flatMap (flatV f)
  | _, _ => []
def layObj (vs : Array Value) : Obj → Obj
  | .cells _ t frozen => .cells vs t frozen
  | o => o
def layHeap (l : List (Nat × DataW Unit)) (h : Array Obj) : Array Obj := l.foldl (fun h x => h.modify x.1 (layObj (flatV 8 x.2).toArray)) h
end Go.Proofs.YtocbofeanfdggaaDoor
/- A witness with slices, unicode.CaseRanges among them. -/
namespace Go.Proofs.YtocbofeanfdggaaDoor
open Go.ChangeShapes Go.WideShapes Go.ChangeAt Go.RowKit
set_option linter.unusedVariables false
theorem LaidVars_split {P : Program} {w : World} : ∀ {l l' : List (String × DataW Unit)} {ps : List MemPlace}, DataW.LaidVars P w (l ++ l') ps → ∃ p p', DataW.LaidVars P w l p ∧ DataW.LaidVars P w l' p' ∧ ps = p ++ p'
  | [], l', ps, h => ⟨[], ps, rfl, h, rfl⟩
  | (n, d) :: r, l', ps, h => by
    obtain ⟨g, t, cs, fuel, p, q, h1, h2, h3, h4, h5, rfl⟩ := h
    obtain ⟨p1, p2, g1, g2, rfl⟩ := LaidVars_split h5
    exact ⟨_, p2, ⟨g, t, cs, fuel, p, p1, h1, h2, h3, h4, g1, rfl⟩, g2, by simp [List.append_assoc]⟩
/-- The last of the listed may stand anywhere. -/
theorem laidMet_move {P : Program} {w : World} {a b : List (String × DataW Unit)} {x : String × DataW Unit} (h : laidMet P (a ++ b ++ [x]) w) : laidMet P (a ++ x :: b) w := by
  obtain ⟨ps, hv, hn, hr⟩ := h
  obtain ⟨p1, px, h1, hx, rfl⟩ := LaidVars_split hv
  obtain ⟨pa, pb, ha, hb, rfl⟩ := LaidVars_split h1
  have hperm : (pa ++ pb ++ px).Perm (pa ++ (px ++ pb)) := by
    rw [List.append_assoc]
    exact List.Perm.append_left _ List.perm_append_comm
  refine ⟨pa ++ (px ++ pb), ?_, hperm.nodup_iff.1 hn, fun bb off hm => hr bb off (hperm.mem_iff.2 hm)⟩
  exact Go.Proofs.LaidVars_append ha (Go.Proofs.LaidVars_append (l := [x]) hx hb)
def putRows (N : Nat) : Nat → List (Nat × TypeId × Array Value × Nat) → Array Obj → Array Obj
  | _, [], h => h
  | i, (g, _, _, n) :: r, h => putRows N (i + 1) r (h.modify g (layObj #[.slice (some ⟨N + i, 0, none⟩) n n]))
/-- A world for a witness: the settled one, with a block more for each listed slice, the listed variables' blocks holding what is listed. -/
noncomputable def laidWorldC (l : List (Nat × DataW Unit)) (sl : List (Nat × TypeId × Array Value × Nat)) (os : Os) : World :=
  { World.holding Tryd.prog os ⟨(sl.map fun x => Obj.cells x.2.2.1 x.2.1).toArray, #[], []⟩ with heap := putRows (World.settled Tryd.prog os).heap.size 0 sl (layHeap l (World.holding Tryd.prog os ⟨(sl.map fun x => Obj.cells x.2.2.1 x.2.1).toArray, #[], []⟩).heap) }
theorem case_same : Go.Pinned.caseRanges = Lib.caseData := by kernel_rfl
theorem laidMet_case {w : World} {a b : List (String × DataW Unit)} (fuel : Nat)
    (h : (DataW.laidRun Tryd.prog w fuel ((a ++ b).map (·.1))).map (·.1) = some (a ++ b))
    (hn : (DataW.laidRun Tryd.prog w fuel ((a ++ b).map (·.1))).map (fun x => nodupB (x.2.map MemPlace.codeOf)) = some true)
    (hr : (DataW.laidRun Tryd.prog w fuel ((a ++ b).map (·.1))).map (fun x => laidRowsB Tryd.prog w x.2) = some true)
    (R : Nat) (hgR : 12 ≠ R)
    (hoff : (DataW.laidRun Tryd.prog w fuel ((a ++ b).map (·.1))).map (fun x => x.2.all fun p => p.block != 12 && p.block != R) = some true)
    (hvar : w.heap[12]? = some (.cells #[.slice (some ⟨R, 0, none⟩) 336 336] 165 (0, 0)))
    (hblk : w.heap[R]? = some (.cells Lib.caseCells5 176 (0, 0))) :
    laidMet Tryd.prog (a ++ ("unicode.CaseRanges", Go.Pinned.caseRanges) :: b) w := by
  rw [case_same]
  exact laidMet_move (laidMet_with_case (ρ := ⟨Tryd.lays274_ren.f, Tryd.lays274_ren.t, fun _ => 12⟩) { Tryd.lays274 with } (by kernel_rfl) ⟨by kernel_rfl, by kernel_rfl, by kernel_rfl, by kernel_rfl, by kernel_rfl, by kernel_rfl⟩ fuel h hn hr R _ hgR hoff (by rw [show Lib.caseA.size = 336 by kernel_rfl]; exact hvar) hblk)
end Go.Proofs.YtocbofeanfdggaaDoor
