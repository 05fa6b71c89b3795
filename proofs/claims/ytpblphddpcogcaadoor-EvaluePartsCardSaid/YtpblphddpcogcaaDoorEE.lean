/- The walks of the three laws on values; and the row's laid variables. -/
import Derived.Test.YtpblphddpcogcaaDoorRows
import Derived.WalkKit
import Derived.ProofKit
import Derived.OpenShut
import Derived.ShutString
import Derived.ChangeOld
import Derived.Below
import Derived.BigQuiet
import Derived.Deep.QuietTactic
import Derived.Lib.Hide
import Derived.Deep.RegionHeld3
import Derived.Lib.SlBytesConst
import Derived.Laws.CopyOwn
import Derived.Laws.CopyRow
import Derived.Lib.Bytes
import Derived.Deep.LoopGhost
import Derived.Deep.DeepFit
import Derived.Deep.DeepMust
import Derived.WalkSpells
import Derived.WalkLawsBesides
import Derived.Laws.EntriesVeiled
import Derived.Laws.Rows
import Derived.Test.YtpblphddpcogcaaDoorBase
import Derived.Test.YtpblphddpcogcaaDoorShelf
import Derived.Test.YtpblphddpcogcaaDoorCharPlain
import Derived.Test.YtpblphddpcogcaaDoorUtf1
import Derived.Test.YtpblphddpcogcaaDoorUtf2
import Derived.Test.YtpblphddpcogcaaDoorChars1
import Derived.Test.YtpblphddpcogcaaDoorStr
import Derived.Test.YtpblphddpcogcaaDoorUtf3
import Derived.Test.YtpblphddpcogcaaDoorRun
import Derived.Test.YtpblphddpcogcaaDoorRunU
import Derived.Test.YtpblphddpcogcaaDoorRunV
import Derived.Test.YtpblphddpcogcaaDoorName1
import Derived.Test.YtpblphddpcogcaaDoorName2
import Derived.Test.YtpblphddpcogcaaDoorName3
import Derived.Test.YtpblphddpcogcaaDoorCref1
import Derived.Test.YtpblphddpcogcaaDoorNum
import Derived.Test.YtpblphddpcogcaaDoorLitP
import Derived.Test.YtpblphddpcogcaaDoorLit2
import Derived.Test.YtpblphddpcogcaaDoorLit3
import Derived.Test.YtpblphddpcogcaaDoorLit5
import Derived.Test.YtpblphddpcogcaaDoorLibB
import Derived.Test.YtpblphddpcogcaaDoorMiscP
import Derived.Test.YtpblphddpcogcaaDoorEA
import Derived.Test.YtpblphddpcogcaaDoorEscP
import Derived.Test.YtpblphddpcogcaaDoorPlainP
import Derived.Test.YtpblphddpcogcaaDoorKnown
import Derived.Test.YtpblphddpcogcaaDoorEC
import Derived.Test.YtpblphddpcogcaaDoorEB
import Derived.Test.YtpblphddpcogcaaDoorRef1
import Derived.Test.YtpblphddpcogcaaDoorRef3
import Derived.Test.YtpblphddpcogcaaDoorEsc
import Derived.Test.YtpblphddpcogcaaDoorRefC
import Derived.Test.YtpblphddpcogcaaDoorED
import Derived.Test.YtpblphddpcogcaaDoorBuild
import Derived.Test.YtpblphddpcogcaaDoorText
import Derived.Test.YtpblphddpcogcaaDoorPub
namespace Go.Proofs.YtpblphddpcogcaaDoor
open Go.ChangeShapes Go.WideShapes Go.ChangeAt Go.RowKit
set_option linter.unusedVariables false
/-- The cells that a datum of numbers, strings, arrays and structs takes, by its type: none where the lay-out has a gap. -/
def flatL (P : Program) (fl : TypeId → DataW Unit → Option (List Value)) : Nat → List (TypeId × Nat) → List (DataW Unit) → Option (List Value)
  | _, [], [] => some []
  | off, (t, o) :: ts, d :: ds => if o = off then (fl t d).bind fun v => if v.length = P.cellsOf t then (flatL P fl (off + P.cellsOf t) ts ds).map (v ++ ·) else none else none
  | _, _, _ => none
def flatD (P : Program) : Nat → TypeId → DataW Unit → Option (List Value)
  | 0, _, _ => none
  | f + 1, t, d => match P.underlying t, d with
    | some (.int k), .lit (.int k' n) => if k' = k then some [.int k n] else none
    | some .string, .lit (.string l) => some [.string ⟨l.toArray⟩]
    | some (.struct fs), .agg ds => (flatL P (flatD P f) 0 (fs.toList.map fun f => (f.type, f.offset)) ds).bind fun v => if v.length = P.cellsOf t then some v else none
    | some (.array n e), .agg ds => (flatL P (flatD P f) 0 ((List.range n).map fun i => (e, i * P.cellsOf e)) ds).bind fun v => if v.length = P.cellsOf t then some v else none
    | _, _ => none
theorem mapM_map {α β γ : Type} (g : α → β) (f : β → Option γ) : ∀ l : List α, (l.map g).mapM f = l.mapM fun a => f (g a)
  | [] => rfl
  | a :: l => by simp [List.mapM_cons, mapM_map g f l]
theorem mapM_cons_some {α β : Type} {f : α → Option β} {a : α} {l : List α} {ys : List β} (h : (a :: l).mapM f = some ys) : ∃ y ys', f a = some y ∧ l.mapM f = some ys' ∧ ys = y :: ys' := by
  rw [List.mapM_cons] at h
  obtain ⟨y, hy, h⟩ := Option.bind_eq_some_iff.1 h
  obtain ⟨ys', hys, h⟩ := Option.bind_eq_some_iff.1 h
  exact ⟨y, ys', hy, hys, (Option.some.inj h).symm⟩
theorem flatL_mapM {P : Program} {w : World} {base : Nat} {sp : Nat → Bool} {held : Bool} {enc : TypeId × Value → Unit} {fuel f : Nat} {cs : List Value}
    (ih : ∀ t cs d p vs, DataW.trod enc P w base sp held fuel t cs = some (d, p) → flatD P f t d = some vs → cs = vs) :
    ∀ (ts : List (TypeId × Nat)) (xs : List (DataW Unit × List MemPlace)) (off : Nat) (vs : List Value),
      (ts.mapM fun x => DataW.trod enc P w base sp held fuel x.1 ((cs.drop x.2).take (P.cellsOf x.1))) = some xs → flatL P (flatD P f) off ts (xs.map (·.1)) = some vs → (cs.drop off).take vs.length = vs
  | [], xs, off, vs, hm, hf => by
    have : xs = [] := by simpa using hm.symm
    subst this
    simp [flatL] at hf
    subst hf
    simp
  | (t, o) :: ts, xs, off, vs, hm, hf => by
    obtain ⟨⟨d, p⟩, xs', hx, hm', rfl⟩ := mapM_cons_some hm
    simp only [List.map_cons, flatL] at hf
    split at hf
    · rename_i ho
      subst ho
      obtain ⟨v, hv, hf⟩ := Option.bind_eq_some_iff.1 hf
      split at hf
      · rename_i hl
        obtain ⟨vs', hvs, rfl⟩ := Option.map_eq_some_iff.1 hf
        have h1 := ih t _ d p v hx hv
        have h2 := flatL_mapM ih ts xs' _ vs' hm' hvs
        simp only at h1
        rw [List.length_append, List.take_add, hl, h1, List.drop_drop, h2]
      · cases hf
    · cases hf
theorem flat_trod {P : Program} {w : World} {base : Nat} {sp : Nat → Bool} {held : Bool} {enc : TypeId × Value → Unit} : ∀ (fuel f : Nat) (t : TypeId) (cs : List Value) (d : DataW Unit) (p : List MemPlace) (vs : List Value),
    DataW.trod enc P w base sp held fuel t cs = some (d, p) → flatD P f t d = some vs → cs = vs := by
  intro fuel
  induction fuel with
  | zero => intro f t cs d p vs h; simp [DataW.trod] at h
  | succ fuel ih =>
    intro f t cs d p vs h hf
    cases f with
    | zero => simp [flatD] at hf
    | succ f =>
      unfold flatD at hf
      split at hf
      · rename_i k k' n hu
        split at hf
        · rename_i hk
          subst hk
          obtain ⟨m, hc, he, _⟩ := DataW.trod_int hu h
          cases he
          rw [hc]
          exact Option.some.inj hf
        · cases hf
      · rename_i l hu
        obtain ⟨m, hc, he, _⟩ := DataW.trod_string hu h
        cases he
        rw [hc]
        exact Option.some.inj hf
      · rename_i fs ds hu
        simp only [DataW.trod, hu] at h
        split at h
        · rename_i hl
          obtain ⟨xs, hm, hx⟩ := Option.map_eq_some_iff.1 h
          simp only [Prod.mk.injEq, DataW.agg.injEq] at hx
          obtain ⟨rfl, _⟩ := hx
          obtain ⟨v, hv, hf⟩ := Option.bind_eq_some_iff.1 hf
          split at hf
          · rename_i hvl
            have h2 := flatL_mapM (cs := cs) (fun t cs d p vs => ih f t cs d p vs) (fs.toList.map fun f => (f.type, f.offset)) xs 0 v (by rw [mapM_map]; exact hm) hv
            rw [List.drop_zero, hvl, ← hl, List.take_length] at h2
            rw [h2]
            exact Option.some.inj hf
          · cases hf
        · cases h
      · rename_i n e ds hu
        simp only [DataW.trod, hu] at h
        split at h
        · rename_i hl
          obtain ⟨xs, hm, hx⟩ := Option.map_eq_some_iff.1 h
          simp only [Prod.mk.injEq, DataW.agg.injEq] at hx
          obtain ⟨rfl, _⟩ := hx
          obtain ⟨v, hv, hf⟩ := Option.bind_eq_some_iff.1 hf
          split at hf
          · rename_i hvl
            have h2 := flatL_mapM (cs := cs) (fun t cs d p vs => ih f t cs d p vs) ((List.range n).map fun i => (e, i * P.cellsOf e)) xs 0 v (by rw [mapM_map]; exact hm) hv
            rw [List.drop_zero, hvl, ← hl, List.take_length] at h2
            rw [h2]
            exact Option.some.inj hf
          · cases hf
        · cases h
      · cases hf
/-- A variable that is listed holds the cells of its datum. -/
theorem laid_cells {P : Program} {w : World} : ∀ (laid : List (String × DataW Unit)) (ps : List MemPlace), DataW.LaidVars P w laid ps → ∀ (name : String) (d : DataW Unit), (name, d) ∈ laid →
    ∀ (g t f : Nat) (vs : List Value), P.globalNamed name = some g → (P.globals[g]?).map (·.type) = some t → flatD P f t d = some vs → w.var? P name = some vs.toArray
  | [], _, _, _, _, hm, _, _, _, _, _, _, _ => by cases hm
  | (n, d0) :: r, ps, h, name, d, hm, g, t, f, vs, hg, ht, hf => by
    obtain ⟨g', t', cs, fuel, p, q, hg', ht', hv, htr, hr, _⟩ := h
    rcases List.mem_cons.1 hm with e | hm
    · cases e
      obtain rfl := Option.some.inj (hg.symm.trans hg')
      obtain rfl := Option.some.inj (ht.symm.trans ht')
      rw [hv, ← flat_trod fuel f t cs.toList _ p vs htr hf]
    · exact laid_cells r q hr name d hm g t f vs hg ht hf
theorem block_of_var {P : Program} {w : World} {name : String} {g : Nat} {cs : Array Value} (hg : P.globalNamed name = some g) (h : w.var? P name = some cs) : ∃ T f, w.heap[g]? = some (.cells cs T f) := by
  simp only [World.var?, hg, Option.bind_some] at h
  split at h
  · rename_i cs' T f hb
    cases h
    exact ⟨T, f, hb⟩
  · cases h
theorem laid_var {P : Program} {w : World} {laid : List (String × DataW Unit)} (h : laidMet P laid w) (name : String) (d : DataW Unit) (hm : (name, d) ∈ laid) (g f : Nat) (vs : List Value)
    (hg : P.globalNamed name = some g) (hf : (((P.globals[g]?).map (·.type)).bind fun t => flatD P f t d) = some vs) : w.var? P name = some vs.toArray := by
  obtain ⟨ps, hl, _⟩ := h
  obtain ⟨t, ht, hf⟩ := Option.bind_eq_some_iff.1 hf
  exact laid_cells laid ps hl name d hm g t f vs hg ht hf
theorem laid_block {P : Program} {w : World} {laid : List (String × DataW Unit)} (h : laidMet P laid w) (name : String) (d : DataW Unit) (hm : (name, d) ∈ laid) (g f : Nat) (vs : List Value)
    (hg : P.globalNamed name = some g) (hf : (((P.globals[g]?).map (·.type)).bind fun t => flatD P f t d) = some vs) : ∃ T fr, w.heap[g]? = some (.cells vs.toArray T fr) :=
  block_of_var hg (laid_var h name d hm g f vs hg hf)
/-- A table of runs, out of a block. -/
theorem tab_of {w : World} {g : Nat} {T : TypeId} {fr : Nat × Nat} (t : List (Nat × Nat)) (h : w.heap[g]? = some (.cells (t.flatMap fun p => [Value.int .i64 p.1, Value.int .i64 p.2]).toArray T fr)) : Tab w g t := by
  intro i p hp
  have key : ∀ (t : List (Nat × Nat)) (i : Nat) (p : Nat × Nat), t[i]? = some p → (t.flatMap fun p => [Value.int .i64 p.1, Value.int .i64 p.2])[i * 2]? = some (.int .i64 p.1) ∧ (t.flatMap fun p => [Value.int .i64 p.1, Value.int .i64 p.2])[i * 2 + 1]? = some (.int .i64 p.2) := by
    intro t
    induction t with
    | nil => intro i p h; simp at h
    | cons x t ih =>
      intro i p h
      cases i with
      | zero => simp at h; subst h; exact ⟨rfl, rfl⟩
      | succ i =>
        have := ih i p (by simpa using h)
        rw [show (i + 1) * 2 = i * 2 + 2 by omega]
        simpa [List.flatMap_cons] using this
  have := key t i p hp
  rw [cell_of _ h, cell_of _ h, List.getElem?_toArray, List.getElem?_toArray]
  exact this
/-- The cells of a datum, whatever its type. -/
def flatV : Nat → DataW Unit → List Value
  | f + 1, .lit (.int k n) => [.int k n]
  | f + 1, .lit (.string l) => [.string ⟨l.toArray⟩]
  | f + 1, .agg ds => ds.flatMap (flatV f)
  | _, _ => []
def layObj (vs : Array Value) : Obj → Obj
  | .cells _ t frozen => .cells vs t frozen
  | o => o
def layHeap (l : List (Nat × DataW Unit)) (h : Array Obj) : Array Obj := l.foldl (fun h x => h.modify x.1 (layObj (flatV 8 x.2).toArray)) h
/-- A world for a witness: the settled one, the listed variables' blocks holding what is listed. -/
noncomputable def laidWorldOf (l : List (Nat × DataW Unit)) (os : Os) : World :=
  { World.holding Tryd.prog os ⟨#[], #[], []⟩ with heap := layHeap l (World.holding Tryd.prog os ⟨#[], #[], []⟩).heap }
/-- A value has no references to characters just where its text is itself. -/
theorem text_count (s : List UInt8) (hc : cgood s) : (Lib.contains s [38, 35] = false ∧ txtOut s = (s, 0)) ∨ (Lib.contains s [38, 35] = true ∧ 0 < (txtOut s).2) := by
  rcases findI_spec s [38, 35] 0 (Nat.zero_le _) with ⟨_, hn⟩ | ⟨i, _, _, hil, hp, hlo⟩
  · left
    refine ⟨contains_false s [38, 35] (fun j hj => hn j (Nat.zero_le _) (by simp at hj; omega)) (by simp), ?_⟩
    have := txt_skip s.length s s.length (Nat.le_refl _) (Nat.le_refl _) (fun j hj hh => by
      have := hn j (Nat.zero_le _) (by omega)
      rw [(pre_two s j).2 hh] at this
      cases this)
    unfold txtOut
    rw [this, List.take_length, List.drop_length, txtL_nil, List.append_nil]
  · right
    refine ⟨contains_true s [38, 35] i (by simp at hil; omega) hp, ?_⟩
    have hil2 : i + 2 ≤ s.length := hil
    have h2 := (pre_two s i).1 hp
    have h0 := hc i h2.1 h2.2
    have := txt_skip i s s.length (Nat.le_refl _) (by omega) (fun j hj hh => by
      have := hlo j (Nat.zero_le _) hj
      rw [(pre_two s j).2 hh] at this
      cases this)
    unfold txtOut
    rw [this, txt_step_ok s i h0]
    simp
def W14p (w : World) : Prop := W14 w ∧ Lib.TabIs Tryd.prog w "internal/strconv.uint64pow10" .u64 Lib.pow10Tab
theorem W14p.below {w w' : World} (h : W14p w) (hb : Below w.heap.size w w') : W14p w' := ⟨h.1.below hb, TabIs_below (B := 0) h.2 hb⟩
set_option maxRecDepth 100000 in
set_option maxHeartbeats 8000000 in
theorem live14_c (w : World) (hW : W14p w) : Calls Tryd.prog 17 #[] w fun e w' => e = .returned (.bool true) ∧ Below w.heap.size w w' := by
  have C1 : Hid (∀ W, Below w.heap.size w W → Calls Tryd.prog 20 #[.string ⟨#[38, 35, 54, 53, 59, 38, 97, 59]⟩] W fun e w' => e = .returned (.tuple #[.string ⟨#[65, 38, 97, 59]⟩, .int .i64 0]) ∧ Below W.heap.size W w') := Lib.hid fun W hb => by
    have := evText_c [38, 35, 54, 53, 59, 38, 97, 59] W (hW.below hb).1 (by decide)
    rwa [show tOut [38, 35, 54, 53, 59, 38, 97, 59] = [65, 38, 97, 59] by kernel_rfl, show checkV [38, 35, 54, 53, 59, 38, 97, 59] = 0 by kernel_rfl] at this
  have C2 : Hid (∀ W, Below w.heap.size w W → Calls Tryd.prog 20 #[.string ⟨#[38, 35, 51, 56, 59, 35, 54, 48, 59]⟩] W fun e w' => e = .returned (.tuple #[.string ⟨#[38, 35, 54, 48, 59]⟩, .int .i64 0]) ∧ Below W.heap.size W w') := Lib.hid fun W hb => by
    have := evText_c [38, 35, 51, 56, 59, 35, 54, 48, 59] W (hW.below hb).1 (by decide)
    rwa [show tOut [38, 35, 51, 56, 59, 35, 54, 48, 59] = [38, 35, 54, 48, 59] by kernel_rfl, show checkV [38, 35, 51, 56, 59, 35, 54, 48, 59] = 0 by kernel_rfl] at this
  have C3 : Hid (∀ W, Below w.heap.size w W → Calls Tryd.prog 18 #[.string ⟨#[38]⟩] W fun e w' => e = .returned (.tuple #[.string ⟨#[38, 35, 51, 56, 59]⟩, .int .i64 0]) ∧ Below W.heap.size W w') := Lib.hid fun W hb => by
    have := evPut_c [38] W (hW.below hb).1 (hW.below hb).2 (by decide)
    rwa [show putOut [38] = ([38, 35, 51, 56, 59], 0) by kernel_rfl] at this
  clear hW
  go_enter Tryd.func17, Tryd.ntmps17
  go_wp2_with fail
  refine (C1.out _ (Below.refl _ _)).mono ?_
  rintro e w1 ⟨rfl, hb⟩
  have B1 := Lib.hid hb
  clear hb
  go_wp2_with fail
  refine (C2.out _ B1.out).mono ?_
  rintro e w2 ⟨rfl, hb⟩
  have B2 := Lib.hid (B1.out.trans (hb.mono B1.out.size))
  clear hb
  go_wp2_with fail
  refine (C3.out _ B2.out).mono ?_
  rintro e w3 ⟨rfl, hb⟩
  have B3 := Lib.hid (B2.out.trans (hb.mono B2.out.size))
  clear hb
  go_wp2
  go_ret
  exact ⟨rfl, B3.out⟩
set_option maxRecDepth 100000 in
set_option maxHeartbeats 8000000 in
theorem evalueTexts_walk (s : List UInt8) (w : World) (hW : W14p w) :
    Calls Tryd.prog 7 #[.string ⟨s.toArray⟩] w fun e w' => e = .returned (.bool true) ∧ Below w.heap.size w w' := by
  have LV : Hid (∀ W, Below w.heap.size w W → Calls Tryd.prog 17 #[] W fun e w' => e = .returned (.bool true) ∧ Below W.heap.size W w') := Lib.hid fun W hb => live14_c W (hW.below hb)
  have hsz : (⟨s.toArray⟩ : ByteArray).size = s.length := by simp [ByteArray.size]
  by_cases hn : s.length ≤ 400
  · have hn' : ¬ (400 : Int) < (s.length : Int) := by omega
    have CT := Lib.hid (evText_c s w hW.1 (by omega))
    have CK : Hid (∀ W, Calls Tryd.prog 22 #[.string ⟨s.toArray⟩] W fun e w' => e = .returned (.int .i64 (checkV s)) ∧ Below W.heap.size W w') := Lib.hid fun W => refCheck14_c s W (by omega)
    have CS : Hid (∀ W, Below w.heap.size w W → Calls Tryd.prog 23 #[.string ⟨s.toArray⟩] W fun e w' => e = .returned (.bool (decide (checkV s = 0) && !Lib.contains s [38, 35])) ∧ Below W.heap.size W w') := Lib.hid fun W hb => stays_c s W (hW.below hb).1 (by omega)
    by_cases hk : checkV s = 0
    · have CR : Hid (∀ W, Calls Tryd.prog 24 #[.string ⟨s.toArray⟩] W fun e w' => e = .returned (.tuple #[.string ⟨(txtOut s).1.toArray⟩, .int .i64 ((txtOut s).2 : Nat)]) ∧ Below W.heap.size W w') := Lib.hid fun W => refText14_c s W (by omega)
      have hto : tOut s = (txtOut s).1 := by unfold tOut; rw [if_pos hk]
      have htc := text_count s (mgood_c (checkV_ok hk).1)
      rw [hto, hk] at CT
      rw [hk] at CK CS
      clear hk hto hW
      rcases htc with ⟨h1, h2⟩ | ⟨h1, h2⟩
      · rw [h1] at CS
        rw [h2] at CT CR
        clear h1 h2
        dsimp only at CT CR
        go_enter Tryd.func7, Tryd.ntmps7
        go_wp2_with fail
        refine (CT.out).mono ?_
        rintro e w1 ⟨rfl, hb⟩
        have B1 := Lib.hid hb
        clear hb
        go_wp2_with fail
        refine (CK.out _).mono ?_
        rintro e w2 ⟨rfl, hb⟩
        have B2 := Lib.hid (B1.out.trans (hb.mono B1.out.size))
        clear hb
        go_wp2_with fail
        refine (CR.out _).mono ?_
        rintro e w3 ⟨rfl, hb⟩
        have B3 := Lib.hid (B2.out.trans (hb.mono B2.out.size))
        clear hb
        go_wp2_with fail
        refine (CS.out _ B3.out).mono ?_
        rintro e w4 ⟨rfl, hb⟩
        have B4 := Lib.hid (B3.out.trans (hb.mono B3.out.size))
        clear hb
        go_wp2_with fail
        refine (LV.out _ B4.out).mono ?_
        rintro e w5 ⟨rfl, hb⟩
        have B5 := Lib.hid (B4.out.trans (hb.mono B4.out.size))
        clear hb
        go_wp2
        go_ret
        exact ⟨rfl, B5.out⟩
      · rw [h1] at CS
        have hnz : ((((txtOut s).2 : Nat) : Int) == 0) = false := by simp; omega
        have hnp : (0 : Int) < (((txtOut s).2 : Nat) : Int) := by omega
        generalize txtOut s = t at *
        obtain ⟨t1, t2⟩ := t
        dsimp only at *
        clear h1 h2
        go_enter Tryd.func7, Tryd.ntmps7
        go_wp2_with fail
        refine (CT.out).mono ?_
        rintro e w1 ⟨rfl, hb⟩
        have B1 := Lib.hid hb
        clear hb
        go_wp2_with fail
        refine (CK.out _).mono ?_
        rintro e w2 ⟨rfl, hb⟩
        have B2 := Lib.hid (B1.out.trans (hb.mono B1.out.size))
        clear hb
        go_wp2_with fail
        refine (CR.out _).mono ?_
        rintro e w3 ⟨rfl, hb⟩
        have B3 := Lib.hid (B2.out.trans (hb.mono B2.out.size))
        clear hb
        go_wp2_with fail
        refine (CS.out _ B3.out).mono ?_
        rintro e w4 ⟨rfl, hb⟩
        have B4 := Lib.hid (B3.out.trans (hb.mono B3.out.size))
        clear hb
        go_wp2_with fail
        refine (LV.out _ B4.out).mono ?_
        rintro e w5 ⟨rfl, hb⟩
        have B5 := Lib.hid (B4.out.trans (hb.mono B4.out.size))
        clear hb
        go_wp2
        go_ret
        exact ⟨rfl, B5.out⟩
    · have hto : tOut s = [] := by unfold tOut; rw [if_neg hk]
      have hz : ((checkV s : Int) == 0) = false := by simpa using hk
      rw [hto] at CT
      rw [decide_eq_false hk] at CS
      clear hk hto hW
      generalize checkV s = c at *
      go_enter Tryd.func7, Tryd.ntmps7
      go_wp2_with fail
      refine (CT.out).mono ?_
      rintro e w1 ⟨rfl, hb⟩
      have B1 := Lib.hid hb
      clear hb
      go_wp2_with fail
      refine (CK.out _).mono ?_
      rintro e w2 ⟨rfl, hb⟩
      have B2 := Lib.hid (B1.out.trans (hb.mono B1.out.size))
      clear hb
      go_wp2_with fail
      refine (CS.out _ B2.out).mono ?_
      rintro e w4 ⟨rfl, hb⟩
      have B4 := Lib.hid (B2.out.trans (hb.mono B2.out.size))
      clear hb
      go_wp2_with fail
      refine (LV.out _ B4.out).mono ?_
      rintro e w5 ⟨rfl, hb⟩
      have B5 := Lib.hid (B4.out.trans (hb.mono B4.out.size))
      clear hb
      go_wp2
      go_ret
      exact ⟨rfl, B5.out⟩
  · have hn' : (400 : Int) < (s.length : Int) := by omega
    clear hn hW
    go_enter Tryd.func7, Tryd.ntmps7
    go_wp2_with fail
    refine (LV.out _ (Below.refl _ _)).mono ?_
    rintro e w1 ⟨rfl, hb⟩
    have B1 := Lib.hid hb
    clear hb
    go_wp2
    go_ret
    exact ⟨rfl, B1.out⟩
set_option maxRecDepth 100000 in
set_option maxHeartbeats 8000000 in
theorem evaluePuts_walk (s : List UInt8) (w : World) (hW : W14p w) :
    Calls Tryd.prog 5 #[.string ⟨s.toArray⟩] w fun e w' => e = .returned (.bool true) ∧ Below w.heap.size w w' := by
  have LV : Hid (∀ W, Below w.heap.size w W → Calls Tryd.prog 17 #[] W fun e w' => e = .returned (.bool true) ∧ Below W.heap.size W w') := Lib.hid fun W hb => live14_c W (hW.below hb)
  have hsz : (⟨s.toArray⟩ : ByteArray).size = s.length := by simp [ByteArray.size]
  by_cases hn : s.length ≤ 300
  · have hn' : ¬ (300 : Int) < (s.length : Int) := by omega
    have CP := Lib.hid (evPut_c s w hW.1 hW.2 (by omega))
    have CR : Hid (∀ W, Calls Tryd.prog 19 #[.string ⟨s.toArray⟩] W fun e w' => e = .returned (.tuple #[.string ⟨(putOut s).1.toArray⟩, .int .i64 (putOut s).2]) ∧ Below W.heap.size W w') := Lib.hid fun W => refPut14_c s W (by omega)
    by_cases hok : (putOut s).2 = 0
    · have hpo : (putOut s).1 = putV s := by
        unfold putOut at hok ⊢
        split at hok
        · split at hok
          · rename_i h1 h2; rw [if_pos h1, if_pos h2]
          · simp at hok
        · simp at hok
      have hlv := putV_le s
      have CT : Hid (∀ W, Below w.heap.size w W → Calls Tryd.prog 20 #[.string ⟨(putV s).toArray⟩] W fun e w' => e = .returned (.tuple #[.string ⟨s.toArray⟩, .int .i64 0]) ∧ Below W.heap.size W w') := Lib.hid fun W hb => by
        have := evText_c (putV s) W (hW.below hb).1 (by omega)
        have ht : tOut (putV s) = s := by unfold tOut; rw [if_pos (checkV_put s)]; exact put_txt s _ (Nat.le_refl _)
        rwa [ht, checkV_put s] at this
      have CH : Hid (∀ (c : UInt8) W, c = 34 ∨ c = 39 ∨ c = 13 ∨ c = 10 → Calls Tryd.prog 21 #[.string ⟨(putV s).toArray⟩, .int .u8 c.toNat] W fun e w' => e = .returned (.bool false) ∧ W = w') := Lib.hid fun c W hc => by
        have := has_c (putV s) c W (by omega)
        have hno : (putV s).contains c = false := by
          rw [Bool.eq_false_iff]
          intro h
          have := put_no s c (by simpa using h)
          rcases hc with rfl | rfl | rfl | rfl
          · exact this.2.1 rfl
          · exact this.2.2.1 rfl
          · exact this.2.2.2.1 rfl
          · exact this.2.2.2.2.1 rfl
        rwa [ix_contains, hno] at this
      have H34 : Hid (∀ W, Calls Tryd.prog 21 #[.string ⟨(putV s).toArray⟩, .int .u8 34] W fun e w' => e = .returned (.bool false) ∧ W = w') := Lib.hid fun W => CH.out 34 W (Or.inl rfl)
      have H39 : Hid (∀ W, Calls Tryd.prog 21 #[.string ⟨(putV s).toArray⟩, .int .u8 39] W fun e w' => e = .returned (.bool false) ∧ W = w') := Lib.hid fun W => CH.out 39 W (Or.inr (Or.inl rfl))
      have H13 : Hid (∀ W, Calls Tryd.prog 21 #[.string ⟨(putV s).toArray⟩, .int .u8 13] W fun e w' => e = .returned (.bool false) ∧ W = w') := Lib.hid fun W => CH.out 13 W (Or.inr (Or.inr (Or.inl rfl)))
      have H10 : Hid (∀ W, Calls Tryd.prog 21 #[.string ⟨(putV s).toArray⟩, .int .u8 10] W fun e w' => e = .returned (.bool false) ∧ W = w') := Lib.hid fun W => CH.out 10 W (Or.inr (Or.inr (Or.inr rfl)))
      rw [hpo, hok] at CP CR
      clear hpo hok hW CH hlv
      generalize putV s = v at *
      go_enter Tryd.func5, Tryd.ntmps5
      go_wp2_with fail
      refine (CP.out).mono ?_
      rintro e w1 ⟨rfl, hb⟩
      have B1 := Lib.hid hb
      clear hb
      go_wp2_with fail
      refine (CR.out _).mono ?_
      rintro e w2 ⟨rfl, hb⟩
      have B2 := Lib.hid (B1.out.trans (hb.mono B1.out.size))
      clear hb
      go_wp2_with fail
      refine (CT.out _ B2.out).mono ?_
      rintro e w3 ⟨rfl, hb⟩
      have B3 := Lib.hid (B2.out.trans (hb.mono B2.out.size))
      clear hb
      go_wp2_with fail
      refine (H34.out _).mono ?_
      rintro e wq ⟨rfl, rfl⟩
      go_wp2_with fail
      refine (H39.out _).mono ?_
      rintro e wq ⟨rfl, rfl⟩
      go_wp2_with fail
      refine (H13.out _).mono ?_
      rintro e wq ⟨rfl, rfl⟩
      go_wp2_with fail
      refine (H10.out _).mono ?_
      rintro e wq ⟨rfl, rfl⟩
      go_wp2_with fail
      refine (LV.out _ B3.out).mono ?_
      rintro e w5 ⟨rfl, hb⟩
      have B5 := Lib.hid (B3.out.trans (hb.mono B3.out.size))
      clear hb
      go_wp2
      go_ret
      exact ⟨rfl, B5.out⟩
    · have hz : ((putOut s).2 == 0) = false := by simpa using hok
      clear hok hW
      generalize putOut s = t at *
      obtain ⟨t1, t2⟩ := t
      dsimp only at *
      go_enter Tryd.func5, Tryd.ntmps5
      go_wp2_with fail
      refine (CP.out).mono ?_
      rintro e w1 ⟨rfl, hb⟩
      have B1 := Lib.hid hb
      clear hb
      go_wp2_with fail
      refine (CR.out _).mono ?_
      rintro e w2 ⟨rfl, hb⟩
      have B2 := Lib.hid (B1.out.trans (hb.mono B1.out.size))
      clear hb
      go_wp2_with fail
      refine (LV.out _ B2.out).mono ?_
      rintro e w5 ⟨rfl, hb⟩
      have B5 := Lib.hid (B2.out.trans (hb.mono B2.out.size))
      clear hb
      go_wp2
      go_ret
      exact ⟨rfl, B5.out⟩
  · have hn' : (300 : Int) < (s.length : Int) := by omega
    clear hn hW
    go_enter Tryd.func5, Tryd.ntmps5
    go_wp2_with fail
    refine (LV.out _ (Below.refl _ _)).mono ?_
    rintro e w1 ⟨rfl, hb⟩
    have B1 := Lib.hid hb
    clear hb
    go_wp2
    go_ret
    exact ⟨rfl, B1.out⟩
theorem evalueTexts_walkB (sb : ByteArray) (w : World) (hW : W14p w) : Calls Tryd.prog 7 #[.string sb] w fun e w' => e = .returned (.bool true) ∧ Below w.heap.size w w' := by
  have := evalueTexts_walk sb.data.toList w hW
  rwa [show (⟨sb.data.toList.toArray⟩ : ByteArray) = sb by simp] at this
theorem evaluePuts_walkB (sb : ByteArray) (w : World) (hW : W14p w) : Calls Tryd.prog 5 #[.string sb] w fun e w' => e = .returned (.bool true) ∧ Below w.heap.size w w' := by
  have := evaluePuts_walk sb.data.toList w hW
  rwa [show (⟨sb.data.toList.toArray⟩ : ByteArray) = sb by simp] at this
theorem tOut_app {a b : List UInt8} (ha : checkV a = 0) (hb : checkV b = 0) : tOut (a ++ b) = tOut a ++ tOut b := by
  unfold tOut
  rw [if_pos ha, if_pos hb, if_pos (checkV_app ha hb)]
  unfold txtOut
  rw [txt_app a.length a b (a ++ b).length b.length (Nat.le_refl _) (by simp) (Nat.le_refl _) (checkV_ok ha).1]
theorem tOut_le (s : List UInt8) : (tOut s).length ≤ 4 * s.length := by
  unfold tOut
  split
  · exact txtL_le _ _
  · simp
set_option maxRecDepth 100000 in
set_option maxHeartbeats 8000000 in
theorem evalueParts_walk (a b : List UInt8) (w : World) (hW : W14p w) :
    Calls Tryd.prog 6 #[.string ⟨a.toArray⟩, .string ⟨b.toArray⟩] w fun e w' => e = .returned (.bool true) ∧ Below w.heap.size w w' := by
  have LV : Hid (∀ W, Below w.heap.size w W → Calls Tryd.prog 17 #[] W fun e w' => e = .returned (.bool true) ∧ Below W.heap.size W w') := Lib.hid fun W hb => live14_c W (hW.below hb)
  have hsa : (⟨a.toArray⟩ : ByteArray).size = a.length := by simp [ByteArray.size]
  have hsb : (⟨b.toArray⟩ : ByteArray).size = b.length := by simp [ByteArray.size]
  by_cases hna : a.length ≤ 200
  · have hna' : ¬ (200 : Int) < (a.length : Int) := by omega
    by_cases hnb : b.length ≤ 200
    · have hnb' : ¬ (200 : Int) < (b.length : Int) := by omega
      have CA := Lib.hid (refCheck14_c a w (by omega))
      by_cases ka : checkV a = 0
      · rw [ka] at CA
        have CB : Hid (∀ W, Calls Tryd.prog 22 #[.string ⟨b.toArray⟩] W fun e w' => e = .returned (.int .i64 (checkV b)) ∧ Below W.heap.size W w') := Lib.hid fun W => refCheck14_c b W (by omega)
        by_cases kb : checkV b = 0
        · have hap := tOut_app ka kb
          have h1 := tOut_le a
          have h2 := tOut_le b
          have TA : Hid (∀ W, Below w.heap.size w W → Calls Tryd.prog 20 #[.string ⟨a.toArray⟩] W fun e w' => e = .returned (.tuple #[.string ⟨(tOut a).toArray⟩, .int .i64 0]) ∧ Below W.heap.size W w') := Lib.hid fun W hb => by
            have := evText_c a W (hW.below hb).1 (by omega)
            rwa [ka] at this
          have TB : Hid (∀ W, Below w.heap.size w W → Calls Tryd.prog 20 #[.string ⟨b.toArray⟩] W fun e w' => e = .returned (.tuple #[.string ⟨(tOut b).toArray⟩, .int .i64 0]) ∧ Below W.heap.size W w') := Lib.hid fun W hb => by
            have := evText_c b W (hW.below hb).1 (by omega)
            rwa [kb] at this
          have TC : Hid (∀ W, Below w.heap.size w W → Calls Tryd.prog 20 #[.string ⟨(a ++ b).toArray⟩] W fun e w' => e = .returned (.tuple #[.string ⟨(tOut a ++ tOut b).toArray⟩, .int .i64 0]) ∧ Below W.heap.size W w') := Lib.hid fun W hb => by
            have := evText_c (a ++ b) W (hW.below hb).1 (by rw [List.length_append]; omega)
            rwa [checkV_app ka kb, hap] at this
          have hs1 : ∀ W : World, (Op.stringOp .add ⟨a.toArray⟩ ⟨b.toArray⟩).run Tryd.prog W = .ok (.string ⟨(a ++ b).toArray⟩) W := fun W => run_sop (w := W) a b (by omega)
          have hs2 : ∀ W : World, (Op.stringOp .add ⟨(tOut a).toArray⟩ ⟨(tOut b).toArray⟩).run Tryd.prog W = .ok (.string ⟨(tOut a ++ tOut b).toArray⟩) W := fun W => run_sop (w := W) (tOut a) (tOut b) (by omega)
          rw [kb] at CB
          clear ka kb hap h1 h2 hW
          generalize a ++ b = ab at *
          generalize tOut a ++ tOut b = tab at *
          generalize tOut a = ta at *
          generalize tOut b = tb at *
          go_enter Tryd.func6, Tryd.ntmps6
          go_wp2_with fail
          refine (CA.out).mono ?_
          rintro e w1 ⟨rfl, hb⟩
          have B1 := Lib.hid hb
          clear hb
          go_wp2_with fail
          refine (CB.out _).mono ?_
          rintro e w2 ⟨rfl, hb⟩
          have B2 := Lib.hid (B1.out.trans (hb.mono B1.out.size))
          clear hb
          go_wp2_with fail
          refine (TA.out _ B2.out).mono ?_
          rintro e w3 ⟨rfl, hb⟩
          have B3 := Lib.hid (B2.out.trans (hb.mono B2.out.size))
          clear hb
          go_wp2_with fail
          refine (TB.out _ B3.out).mono ?_
          rintro e w4 ⟨rfl, hb⟩
          have B4 := Lib.hid (B3.out.trans (hb.mono B3.out.size))
          clear hb
          go_wp2_with fail
          refine (TC.out _ B4.out).mono ?_
          rintro e w5 ⟨rfl, hb⟩
          have B5 := Lib.hid (B4.out.trans (hb.mono B4.out.size))
          clear hb
          go_wp2_with fail
          refine (LV.out _ B5.out).mono ?_
          rintro e w6 ⟨rfl, hb⟩
          have B6 := Lib.hid (B5.out.trans (hb.mono B5.out.size))
          clear hb
          go_wp2
          go_ret
          exact ⟨rfl, B6.out⟩
        · have hz : ((checkV b : Int) == 0) = false := by simpa using kb
          have hz2 : ((checkV b : Int) != 0) = true := by simpa using kb
          have hz3 : ¬ ((checkV b : Int) = 0) := by omega
          clear ka hW
          generalize checkV b = c at *
          go_enter Tryd.func6, Tryd.ntmps6
          go_wp2_with fail
          refine (CA.out).mono ?_
          rintro e w1 ⟨rfl, hb⟩
          have B1 := Lib.hid hb
          clear hb
          go_wp2_with fail
          refine (CB.out _).mono ?_
          rintro e w2 ⟨rfl, hb⟩
          have B2 := Lib.hid (B1.out.trans (hb.mono B1.out.size))
          clear hb
          go_wp2_with fail
          refine (LV.out _ B2.out).mono ?_
          rintro e w6 ⟨rfl, hb⟩
          have B6 := Lib.hid (B2.out.trans (hb.mono B2.out.size))
          clear hb
          go_wp2
          go_ret
          exact ⟨rfl, B6.out⟩
      · have hz : ((checkV a : Int) == 0) = false := by simpa using ka
        have hz2 : ((checkV a : Int) != 0) = true := by simpa using ka
        have hz3 : ¬ ((checkV a : Int) = 0) := by omega
        clear hW
        generalize checkV a = c at *
        go_enter Tryd.func6, Tryd.ntmps6
        go_wp2_with fail
        refine (CA.out).mono ?_
        rintro e w1 ⟨rfl, hb⟩
        have B1 := Lib.hid hb
        clear hb
        go_wp2_with fail
        refine (LV.out _ B1.out).mono ?_
        rintro e w6 ⟨rfl, hb⟩
        have B6 := Lib.hid (B1.out.trans (hb.mono B1.out.size))
        clear hb
        go_wp2
        go_ret
        exact ⟨rfl, B6.out⟩
    · have hnb' : (200 : Int) < (b.length : Int) := by omega
      clear hnb hW
      go_enter Tryd.func6, Tryd.ntmps6
      go_wp2_with fail
      refine (LV.out _ (Below.refl _ _)).mono ?_
      rintro e w1 ⟨rfl, hb⟩
      have B1 := Lib.hid hb
      clear hb
      go_wp2
      go_ret
      exact ⟨rfl, B1.out⟩
  · have hna' : (200 : Int) < (a.length : Int) := by omega
    clear hna hW
    go_enter Tryd.func6, Tryd.ntmps6
    go_wp2_with fail
    refine (LV.out _ (Below.refl _ _)).mono ?_
    rintro e w1 ⟨rfl, hb⟩
    have B1 := Lib.hid hb
    clear hb
    go_wp2
    go_ret
    exact ⟨rfl, B1.out⟩
theorem evalueParts_walkB (sa sb : ByteArray) (w : World) (hW : W14p w) : Calls Tryd.prog 6 #[.string sa, .string sb] w fun e w' => e = .returned (.bool true) ∧ Below w.heap.size w w' := by
  have := evalueParts_walk sa.data.toList sb.data.toList w hW
  rwa [show (⟨sa.data.toList.toArray⟩ : ByteArray) = sa by simp, show (⟨sb.data.toList.toArray⟩ : ByteArray) = sb by simp] at this
end Go.Proofs.YtpblphddpcogcaaDoor
