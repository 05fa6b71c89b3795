/- Texts of ours, joined: PgS, EvL, EvS, LfA, PgE. -/
import Derived.Test.YtgenpgfhjhcahaaGreatDoorRows
import Derived.WalkKit
import Derived.ProofKit
import Derived.OpenShut
import Derived.ShutString
import Derived.ChangeOld
import Derived.Below
import Derived.BigQuiet
import Derived.Deep.QuietTactic
import Derived.Lib.Hide
import Derived.Deep.RegionHeld3
import Derived.Lib.SlBytesConst
import Derived.Laws.CopyOwn
import Derived.Laws.CopyRow
import Derived.Lib.Bytes
import Derived.Deep.LoopGhost
import Derived.Deep.DeepFit
import Derived.Deep.DeepMust
import Derived.WalkSpells
import Derived.WalkLawsBesides
import Derived.Laws.EntriesVeiled
import Derived.Laws.Rows
import Derived.Maps.OwnOps
import Derived.Maps.OwnSet
import Derived.Maps.Views
import Derived.Maps.AppendAt
import Derived.Deep.AppendLies
import Derived.DeepKeys4
import Derived.MapViews
import Derived.Maps.Keyed
import Derived.Deep.RegionLaw
import Derived.Deep.RegionWith
import Derived.StillTailTactics
import Derived.Deep.CutRange
import Derived.IntWalk
import Derived.Laws.MakeOwn
import Derived.Laws.OwnMore
import Derived.Test.YtgenpgfhjhcahaaGreatDoorQ1
import Derived.Test.YtgenpgfhjhcahaaGreatDoorQ2
import Derived.Test.YtgenpgfhjhcahaaGreatDoorQ7
import Derived.Test.YtgenpgfhjhcahaaGreatDoorQ8
import Derived.Test.YtgenpgfhjhcahaaGreatDoorQ4
import Derived.Test.YtgenpgfhjhcahaaGreatDoorQ3
import Derived.Test.YtgenpgfhjhcahaaGreatDoorQ5
import Derived.Test.YtgenpgfhjhcahaaGreatDoorQ9
import Derived.Test.YtgenpgfhjhcahaaGreatDoorQ10
import Derived.Test.YtgenpgfhjhcahaaGreatDoorQ11
import Derived.RangeFuncNested
import Derived.RangeFuncBound
import Derived.RangeFuncCalls
import Derived.RangeFuncLeaves
import Derived.RangeFuncBox
import Derived.RangeFuncWrites
import Derived.OwnWalkIn
import Derived.TacticsInMore
import Derived.Shelf.Abstract
import Derived.Shelf.RegionOpen
import Derived.LoopNIn
import Derived.LoopIn
/- prolog.stands, prolog.one. -/
namespace Go.Proofs.YtgenpgfhjhcahaaGreatDoor
open Go.ChangeShapes Go.WideShapes Go.ChangeAt Go.RowKit
set_option linter.unusedVariables false
/-- What is asked of the world. -/
structure W29 (w : World) : Prop where
  tabs : TabN w
  forms : Forms w
  maxl : MaxL w
  fold : FoldT w
theorem W29.below {w w' : World} (h : W29 w) (hb : Below w.heap.size w w') : W29 w' := ⟨h.tabs.below hb (h.tabs.low h.forms), h.forms.below hb h.forms.lt, h.maxl.below hb h.maxl.lt, h.fold.below hb h.fold.lt⟩
theorem pgPi_c (A : Option Addr) (n cap : Nat) (l : List UInt8) (k : Nat) (w : World) (h : Byt w w.heap.size A n cap l) (hW : W29 w) (hm : n ≤ 50000) (hk : k ≤ n) :
    Calls Tryz.prog 55 #[.slice A n cap, .int .i64 k] w fun e w' => e = .returned (out4V (piOut l k)) ∧ Below w.heap.size w w' :=
  miscPi_in A n cap l k w h hW.forms hW.tabs hW.maxl hm hk fun W hb => miscReserved_c _ W (hW.below hb).fold
theorem pgComment_c (A : Option Addr) (n cap : Nat) (l : List UInt8) (k : Nat) (w : World) (h : Byt w w.heap.size A n cap l) (hW : W29 w) (hm : n ≤ 50000) (hk : k ≤ n) :
    Calls Tryz.prog 54 #[.slice A n cap, .int .i64 k] w fun e w' => e = .returned (outV (commentOut l k)) ∧ Below w.heap.size w w' := by
  have := miscComment_c A n cap l k w h hW.maxl (by omega)
  rwa [anyAt_in _ _ _ (by rw [h.length]; exact hk)] at this
set_option maxRecDepth 100000 in
set_option maxHeartbeats 4000000 in
theorem pgStands_c (A : Option Addr) (n cap : Nat) (l : List UInt8) (k : Nat) (p : List UInt8) (w : World) (h : Byt w w.heap.size A n cap l) (hk : k ≤ n) (hp : p.length ≤ 1000000) :
    Calls Tryz.prog 29 #[.slice A n cap, .int .i64 k, .string ⟨p.toArray⟩] w fun e w' => e = .returned (.bool (p.isPrefixOf (l.drop k))) ∧ Below w.heap.size w w' := by
  have hrf : ∀ W : World, (Instr.slice 22 (.slice A n cap) (some (.int .i64 (k : Int))) none none).run Tryz.prog W = .ok (.slice (cutA A cap k) (n - k) (cap - k)) W := fun W => run_from A n cap k hk
  have hcv := run_toBytes w p
  have hb1 := Lib.bytesWorld_below w 5 ⟨p.toArray⟩
  have CH := Lib.hid (hasPrefix_c (cutA A cap k) _ (n - k) (cap - k) _ _ (l.drop k) p _ _ _ ((h.below hb1).drop hk) (byt_new w p hp))
  have HB := Lib.hid hb1
  clear hb1 h
  generalize Lib.bytesWorld w 5 ⟨p.toArray⟩ = W1 at *
  generalize grownCap w p.length 0 5 = c1 at *
  generalize p.isPrefixOf (l.drop k) = r at *
  go_enter Tryz.func29, Tryz.ntmps29
  go_wp2_with fail
  refine CH.out.mono ?_
  rintro e w2 ⟨rfl, rfl⟩
  go_wp2
  go_ret
  exact ⟨rfl, HB.out⟩
theorem results_cell3p {P : Program} {fn : Func} {p u v : Tmp} {ty : TypeId} (h : fn.results = #[.cell p ty, .tmp u, .tmp v]) (tmps : Array Value) (w : World) (g : Nat) (t : TypeId) (cs : Array Value) (fr : Nat × Nat) (d : TypeDesc)
    (hp : tmps.getD p undef = .pointer (some ⟨g, 0, none⟩)) (hg : w.heap[g]? = some (.cells cs t fr))
    (hu : P.underlying ty = some d) (hd : (match d with | .struct _ | .array _ _ => true | _ => false) = true) (hi : (P.info? ty).map (·.size) = some cs.size) :
    (results fn tmps).run P w = .ok (.tuple #[.agg cs, tmps.getD u undef, tmps.getD v undef]) w := by
  have hp' : tmps[p]?.getD undef = .pointer (some ⟨g, 0, none⟩) := by simpa using hp
  simp [results, h, hp', asAddr, run_loadVar_row w g t ty cs fr d hg hu hd hi]
/-- An event with its place behind and its fault. -/
def oneV (x : MisT × Nat × Nat) : Value := .tuple #[.agg (cMis x.1).toArray, .int .i64 (x.2.1 : Nat), .int .i64 (x.2.2 : Nat)]
set_option maxRecDepth 100000 in
set_option maxHeartbeats 4000000 in
theorem pgOne_c (A : Option Addr) (n cap : Nat) (l : List UInt8) (k : Nat) (x : MisT × Nat × Nat) (w : World) (h : Byt w w.heap.size A n cap l) (hW : W29 w) (hm : n ≤ 50000) (hk : k ≤ n) (hx : misAt l k = some x) :
    Calls Tryz.prog 31 #[.slice A n cap, .int .i64 k] w fun e w' => e = .returned (oneV x) ∧ Below w.heap.size w w' := by
  obtain ⟨w0, hw0⟩ : ∃ w0, w.alloc (.cells #[.int .i64 0, .string ⟨#[]⟩, .string ⟨#[]⟩, .slice none 0 0, .string ⟨#[]⟩] 54) = w0 := ⟨_, rfl⟩
  have hcell : w0.heap[w.heap.size]? = some (.cells #[.int .i64 0, .string ⟨#[]⟩, .string ⟨#[]⟩, .slice none 0 0, .string ⟨#[]⟩] 54) := by rw [← hw0]; exact hp_new _ _
  have hb0 : Below w.heap.size w w0 := by rw [← hw0]; exact (Below.refl _ _).alloc (Nat.le_refl _) _
  have hl0 : w.heap.size < w0.heap.size := lt_of hcell
  have CS : Hid (Calls Tryz.prog 29 #[.slice A n cap, .int .i64 k, .string ⟨[60, 33, 45, 45].toArray⟩] w0 fun e w' => e = .returned (.bool ([60, 33, 45, 45].isPrefixOf (l.drop k))) ∧ Below w0.heap.size w0 w') := Lib.hid (pgStands_c A n cap l k [60, 33, 45, 45] w0 ((h.below hb0).more (by omega)) hk (by decide))
  have CC : Hid (∀ W, Below w0.heap.size w0 W → Calls Tryz.prog 54 #[.slice A n cap, .int .i64 k] W fun e w' => e = .returned (outV (commentOut l k)) ∧ Below W.heap.size W w') := Lib.hid fun W hb => by
    have hb1 : Below w.heap.size w W := hb0.trans (hb.mono (by omega))
    exact pgComment_c A n cap l k W ((h.below hb1).more hb1.size) (hW.below hb1) hm hk
  have CP : Hid (∀ W, Below w0.heap.size w0 W → Calls Tryz.prog 55 #[.slice A n cap, .int .i64 k] W fun e w' => e = .returned (out4V (piOut l k)) ∧ Below W.heap.size W w') := Lib.hid fun W hb => by
    have hb1 : Below w.heap.size w W := hb0.trans (hb.mono (by omega))
    exact pgPi_c A n cap l k W ((h.below hb1).more hb1.size) (hW.below hb1) hm hk
  obtain ⟨d9, hu⟩ := isStruct_of (P := Tryz.prog) (t := 54) (by kernel_rfl)
  have hi : (Tryz.prog.info? 54).map (·.size) = some 5 := by kernel_rfl
  have HU := Lib.hid (And.intro hi hu)
  clear hi hu
  have H0 := Lib.hid (And.intro hb0 (And.intro hl0 hcell))
  clear hb0 hl0 hcell h hW
  unfold misAt at hx
  by_cases hp : [60, 33, 45, 45].isPrefixOf (l.drop k) = true
  · rw [if_pos hp] at hx
    rw [hp] at CS
    obtain ⟨r, hr⟩ : ∃ r, commentOut l k = r := ⟨_, rfl⟩
    rw [hr] at hx CC
    obtain ⟨s, nx, f⟩ := r
    cases hx
    clear hp hr
    unfold outV at CC
    go_enter Tryz.func31, Tryz.ntmps31
    go_wp2_with fail
    try rw [hw0]
    refine CS.out.mono ?_
    rintro e w2 ⟨rfl, hb2⟩
    have C2 := Lib.hid (CC.out w2 hb2)
    have HB2 := Lib.hid hb2
    have E2 : Hid (w2.heap[w.heap.size]? = some (.cells #[.int .i64 0, .string ⟨#[]⟩, .string ⟨#[]⟩, .slice none 0 0, .string ⟨#[]⟩] 54)) := Lib.hid ((hb2.block _ H0.out.2.1).trans H0.out.2.2)
    clear hb2 CS CC CP
    go_wp2_with fail
    refine C2.out.mono ?_
    rintro e w3 ⟨rfl, hb3⟩
    have wc : w3.heap[w.heap.size]? = some (.cells #[.int .i64 0, .string ⟨#[]⟩, .string ⟨#[]⟩, .slice none 0 0, .string ⟨#[]⟩] 54 (0, 0)) := (hb3.block _ (lt_of E2.out)).trans E2.out
    have HQ : Hid ((w3.setRow w.heap.size #[.int .i64 5, .string ⟨#[]⟩, .string ⟨#[]⟩, .slice none 0 0, .string ⟨s.toArray⟩]).heap[w.heap.size]? = some (.cells #[.int .i64 5, .string ⟨#[]⟩, .string ⟨#[]⟩, .slice none 0 0, .string ⟨s.toArray⟩] 54 (0, 0))) := Lib.hid (setRow_heap _ _ _ _ _ _ wc)
    have HBF : Hid (Below w.heap.size w (w3.setRow w.heap.size #[.int .i64 5, .string ⟨#[]⟩, .string ⟨#[]⟩, .slice none 0 0, .string ⟨s.toArray⟩])) := Lib.hid (below_setRow (H0.out.1.trans ((HB2.out.trans (hb3.mono HB2.out.size)).mono H0.out.1.size)) (Nat.le_refl _) _)
    clear hb3 C2 E2
    go_wp2_with (first | (refine wpList_store_row rfl _ _ _ rfl w.heap.size #[.int .i64 5, .string ⟨#[]⟩, .string ⟨#[]⟩, .slice none 0 0, .string ⟨s.toArray⟩] rfl rfl _ _ wc (by kernel_rfl) rfl (by kernel_rfl) ?_))
    (try simp only [Exit.inBlock, Exit.then])
    exact bodyPost_ret (results_cell3p rfl _ _ w.heap.size _ _ _ _ rfl HQ.out HU.out.2 rfl HU.out.1) rfl ⟨rfl, HBF.out⟩
  · rw [if_neg hp] at hx
    by_cases hq : [60, 63].isPrefixOf (l.drop k) = true
    · rw [if_pos hq] at hx
      rw [bfalse hp] at CS
      obtain ⟨r, hr⟩ : ∃ r, piOut l k = r := ⟨_, rfl⟩
      rw [hr] at hx CP
      obtain ⟨s, d, nx, f⟩ := r
      cases hx
      clear hp hq hr
      unfold out4V at CP
      go_enter Tryz.func31, Tryz.ntmps31
      go_wp2_with fail
      try rw [hw0]
      refine CS.out.mono ?_
      rintro e w2 ⟨rfl, hb2⟩
      have C2 := Lib.hid (CP.out w2 hb2)
      have HB2 := Lib.hid hb2
      have E2 : Hid (w2.heap[w.heap.size]? = some (.cells #[.int .i64 0, .string ⟨#[]⟩, .string ⟨#[]⟩, .slice none 0 0, .string ⟨#[]⟩] 54)) := Lib.hid ((hb2.block _ H0.out.2.1).trans H0.out.2.2)
      clear hb2 CS CC CP
      go_wp2_with fail
      refine C2.out.mono ?_
      rintro e w3 ⟨rfl, hb3⟩
      have wc : w3.heap[w.heap.size]? = some (.cells #[.int .i64 0, .string ⟨#[]⟩, .string ⟨#[]⟩, .slice none 0 0, .string ⟨#[]⟩] 54 (0, 0)) := (hb3.block _ (lt_of E2.out)).trans E2.out
      have HQ : Hid ((w3.setRow w.heap.size #[.int .i64 4, .string ⟨#[]⟩, .string ⟨s.toArray⟩, .slice none 0 0, .string ⟨d.toArray⟩]).heap[w.heap.size]? = some (.cells #[.int .i64 4, .string ⟨#[]⟩, .string ⟨s.toArray⟩, .slice none 0 0, .string ⟨d.toArray⟩] 54 (0, 0))) := Lib.hid (setRow_heap _ _ _ _ _ _ wc)
      have HBF : Hid (Below w.heap.size w (w3.setRow w.heap.size #[.int .i64 4, .string ⟨#[]⟩, .string ⟨s.toArray⟩, .slice none 0 0, .string ⟨d.toArray⟩])) := Lib.hid (below_setRow (H0.out.1.trans ((HB2.out.trans (hb3.mono HB2.out.size)).mono H0.out.1.size)) (Nat.le_refl _) _)
      clear hb3 C2 E2
      go_wp2_with (first | (refine wpList_store_row rfl _ _ _ rfl w.heap.size #[.int .i64 4, .string ⟨#[]⟩, .string ⟨s.toArray⟩, .slice none 0 0, .string ⟨d.toArray⟩] rfl rfl _ _ wc (by kernel_rfl) rfl (by kernel_rfl) ?_))
      (try simp only [Exit.inBlock, Exit.then])
      exact bodyPost_ret (results_cell3p rfl _ _ w.heap.size _ _ _ _ rfl HQ.out HU.out.2 rfl HU.out.1) rfl ⟨rfl, HBF.out⟩
    · rw [if_neg hq] at hx
      cases hx
end Go.Proofs.YtgenpgfhjhcahaaGreatDoor
/- The statement 'for x := range f', where f writes its own captured box. -/
namespace Go.Proofs.YtgenpgfhjhcahaaGreatDoor
open Go.ChangeShapes Go.WideShapes Go.ChangeAt Go.RowKit
set_option linter.unusedVariables false
/-- Whatever is said of a world stands when new blocks are laid or the one box b is written. -/
def StandsBox {β : Type} (b : Nat) (J : β → World → Prop) : Prop :=
  ∀ s W W' row, J s W → W.grownBy W' row → (∀ r, row = some r → r = b) → J s W'
theorem grownBy_away {W W' : World} {row : Option Nat} {b k : Nat} (hg : W.grownBy W' row) (hr : ∀ r, row = some r → r = b) (hk : k < W.heap.size) (h : k ≠ b) : W'.heap[k]? = W.heap[k]? :=
  hg.block k hk (fun e => h (hr k e.symm))
variable {F : Fence} {n : Nat} {P : Program}
end Go.Proofs.YtgenpgfhjhcahaaGreatDoor
/- A range over a function whose iterator writes its own box, and which a round may stop. -/
namespace Go.Proofs.YtgenpgfhjhcahaaGreatDoor
open Go.ChangeShapes Go.WideShapes Go.ChangeAt Go.RowKit
set_option linter.unusedVariables false
/-- The contract of an iterator that writes its own captured box b between two rounds; a round may stop it. -/
def SeqBoxS {α : Type} (F : Fence) (n : Nat) (P : Program) (g : Nat) (lb : Array Value) (encs : α → Array Value) (b : Nat) (Kp : World → World → Prop) (Sx Sp : List α → Prop) (Gd : List α → Prop) (w0 : World) : Prop :=
  ∀ (l : Nat) (J Jx : List α → World → Prop) (W : World), Below w0.heap.size w0 W → StandsBox b J → StandsBox b Jx →
    (∀ pre x W1, J pre W1 → Gd (pre ++ [x]) → YieldAt F (n - 1) P l (encs x) W1 fun e W' => (e = .returned (.bool true) ∧ J (pre ++ [x]) W' ∧ Kp W1 W') ∨ (e = .returned (.bool false) ∧ Jx (pre ++ [x]) W')) →
    J [] W → CallsIn F n P g (#[.func (.yield l) #[] #[]] ++ lb) W fun e W' => (∃ v, e = .returned v) ∧ ((∃ xs, Sx xs ∧ J xs W') ∨ ∃ pre, Sp pre ∧ Jx pre W')
theorem wpIn_rangeFunc_boxS {F : Fence} {n : Nat} {P : Program} {α : Type} {g : Operand} {ps : Array Tmp} {assign body : Code} {Q : Exit → Act → World → Prop} {a : Act} {w : World}
    (hro : F.round = none) (h1 : 1 ≤ n) {gf : Nat} {lb : Array Value} (hg : a.eval g = .func (.func gf) #[] lb) (hFg : F.fn gf) (eg : ∀ args w, (callFunc gf args).run P w = .ok (.enter gf args) w)
    {encs : α → Array Value} {b : Nat} {Kp : World → World → Prop} {Sx Sp : List α → Prop} {Gd : List α → Prop} {w0 : World} (hseq : SeqBoxS F (n - 1) P gf lb encs b Kp Sx Sp Gd w0) (hbw : b < w.heap.size)
    (hKt : ∀ {A B C : World}, Kp A B → Kp B C → Kp A C) (hKb : ∀ (W : World) (l : Nat) (o o' : Obj), w.heap.size ≤ l → W.heap[l]? = some o → o.isCells = false → o.isWalk = false → Kp W (W.putObj l o'))
    (hb0 : Below w0.heap.size w0 w) (hps : ∀ x, (encs x).size = ps.size)
    (I : List α → World → Prop) (Ix : Code → List α → World → Prop) (hI : OwnFrom w.heap.size I) (hIb : StandsBox b I) (hIx : ∀ c, OwnFrom w.heap.size (Ix c)) (hIxb : ∀ c, StandsBox b (Ix c)) (h0 : I [] w) (Ax : α → Act → World → Prop) (hAx : ∀ x a', OwnFrom w.heap.size fun (_ : Unit) W => Ax x a' W)
    (hassign : ∀ (l : Nat) (pre : List α) (x : α) (W : World), I pre W → Gd (pre ++ [x]) →
      assign.wpIn (F.inRound l) (n - 1 - 1) P (Exit.then (fun a' W' => KeepsFrom w.heap.size W W' ∧ Kp W W' ∧ I pre W' ∧ Ax x a' W') (fun _ _ _ => False)) { tmps := (ps.zip (encs x)).foldl (fun t (p, v) => t.setIfInBounds p v) a.tmps, defers := [] } W)
    (hbody : ∀ (l : Nat) (pre : List α) (x : α) (a' : Act) (W : World), I pre W → Ax x a' W → Gd (pre ++ [x]) → body.wpIn (F.inRound l) (n - 1 - 1) P (ownPostG w.heap.size Kp I Ix (pre ++ [x]) W) a' W)
    (hdone : ∀ (D : Nat) (xs : List α) (W : World), w.heap.size ≤ D → Sx xs → I xs W → W.heap[D]? = some (.deferred (some [])) → Q .normal { a with defers := { target := .collected D, args := #[] } :: a.defers } W)
    (hstop : ∀ (D : Nat) (c : Code) (pre : List α) (W : World), w.heap.size ≤ D → Sp pre → Ix c pre W → W.heap[D]? = some (.deferred (some [])) → c.wpIn F n P Q { a with defers := { target := .collected D, args := #[] } :: a.defers } W) :
    (Code.rangeFunc g ps assign body).wpIn F n P Q a w := by
  refine wpIn_rangeFunc ?_
  intro fn hfn
  rw [hro]
  obtain ⟨rec, hrec⟩ : ∃ rec : LoopState → Option Code → Loop, rec = fun st pe => { state := st, pending := pe, fn, tmps := a.tmps, params := ps, assign, body, defers := w.heap.size } := ⟨_, rfl⟩
  obtain ⟨W1, hW1⟩ : ∃ W1, (w.alloc (.deferred (some []))).alloc (.loop (rec .ready none)) = W1 := ⟨_, rfl⟩
  have hL1 : W1.heap[w.heap.size + 1]? = some (.loop (rec .ready none)) := by
    rw [← hW1]; have := World.alloc_heap_new (w.alloc (.deferred (some []))) (.loop (rec .ready none)); rwa [World.size_alloc] at this
  have hK1 : W1.heap[w.heap.size]? = some (.deferred (some [])) := by
    rw [← hW1]; exact (Below.heap_alloc _ _ _ (by simp)).trans (World.alloc_heap_new w _)
  have hI1 : I [] W1 := by rw [← hW1]; exact hI.alloc _ (hI.alloc _ h0)
  have hb1 : Below w0.heap.size w0 W1 := by
    rw [← hW1]; exact hb0.trans ((((Below.refl _ w).alloc (Nat.le_refl _) _).alloc (by simp) _).mono hb0.size)
  refine ⟨w.heap.size + 1, [{ target := .collected w.heap.size, args := #[] }], W1, { target := .fn (.func gf) lb, args := #[.func (.yield (w.heap.size + 1)) #[] #[]] }, W1, gf,
    #[.func (.yield (w.heap.size + 1)) #[] #[]] ++ lb, W1, ?_, ?_, ?_, ?_, fun _ => h1, ?_⟩
  · rw [← hW1, hrec]; exact run_enterLoop_outer _ _ _ _ _
  · simp only [resolve, hg]
    simp [go_sem]
  · intro f' hf'; simp [Target.leads] at hf'; subst hf'; exact hFg
  · simp [invoke, go_sem, eg]
  · refine (hseq (w.heap.size + 1)
      (fun pre W => I pre W ∧ W.heap[w.heap.size + 1]? = some (.loop (rec .ready none)) ∧ W.heap[w.heap.size]? = some (.deferred (some [])))
      (fun pre W => ∃ c, Ix c pre W ∧ W.heap[w.heap.size + 1]? = some (.loop (rec .done (some c))) ∧ W.heap[w.heap.size]? = some (.deferred (some [])))
      W1 hb1 ?_ ?_ ?_ ⟨hI1, hL1, hK1⟩).mono ?_
    · rintro s A B row ⟨i, x, y⟩ hgr hrow
      exact ⟨hIb s A B row i hgr hrow, (grownBy_away hgr hrow (Array.getElem?_eq_some_iff.1 x).1 (by omega)).trans x, (grownBy_away hgr hrow (Array.getElem?_eq_some_iff.1 y).1 (by omega)).trans y⟩
    · rintro s A B row ⟨c, i, x, y⟩ hgr hrow
      exact ⟨c, hIxb c s A B row i hgr hrow, (grownBy_away hgr hrow (Array.getElem?_eq_some_iff.1 x).1 (by omega)).trans x, (grownBy_away hgr hrow (Array.getElem?_eq_some_iff.1 y).1 (by omega)).trans y⟩
    · rintro pre x W ⟨hi, hl, hk⟩ hlen
      have hy := run_yield (P := P) (args := encs x) hl (by rw [hrec]; exact hps x)
      rw [hrec] at hy
      refine ⟨fn, _, assign, body, hy, roundIn_of_wpIn hfn (wpIn_mono (hassign _ pre x W hi hlen) ?_)⟩
      clear hy
      rintro e a' Wa hp
      cases e with
      | ret => exact hp.elim
      | exit id => exact hp.elim
      | goto t => exact hp.elim
      | panic ch => exact hp.elim
      | outgrown => exact hp.elim
      | normal =>
      obtain ⟨hkfa, hkpa, hia, hax⟩ := hp
      replace hl := hkfa.same _ _ (by omega) hl rfl
      replace hk := hkfa.same _ _ (Nat.le_refl _) hk rfl
      have hlt : w.heap.size + 1 < Wa.heap.size := (Array.getElem?_eq_some_iff.1 hl).1
      refine ⟨_, run_beginRound hl (by rw [hrec]), ?_⟩
      have hl2 : (Wa.putObj (w.heap.size + 1) (.loop { rec .ready none with state := .busy })).heap[w.heap.size + 1]? = some (.loop { rec .ready none with state := .busy }) := World.putObj_heap_same hlt
      have hk2 : (Wa.putObj (w.heap.size + 1) (.loop { rec .ready none with state := .busy })).heap[w.heap.size]? = some (.deferred (some [])) := (World.putObj_heap_other (by omega)).trans hk
      have hw2 : Kp Wa (Wa.putObj (w.heap.size + 1) (.loop { rec .ready none with state := .busy })) := hKb _ _ _ _ (by omega) hl rfl rfl
      refine wpIn_mono (hbody _ pre x a' _ (hI.putObj _ hia (by omega) hl rfl) ((hAx x a').putObj (s := ()) _ hax (by omega) hl rfl) hlen) ?_
      have fin : ∀ (jump : Option Code) (W3 : World), KeepsFrom w.heap.size (Wa.putObj (w.heap.size + 1) (.loop { rec .ready none with state := .busy })) W3 →
          (Instr.endRound (w.heap.size + 1) jump).run P W3 = .ok (.bool jump.isNone) (W3.putObj (w.heap.size + 1) (.loop (rec (if jump.isNone then .ready else .done) jump))) ∧
          W3.heap[w.heap.size + 1]? = some (.loop { rec .ready none with state := .busy }) ∧
          (W3.putObj (w.heap.size + 1) (.loop (rec (if jump.isNone then .ready else .done) jump))).heap[w.heap.size + 1]? = some (.loop (rec (if jump.isNone then .ready else .done) jump)) ∧
          (W3.putObj (w.heap.size + 1) (.loop (rec (if jump.isNone then .ready else .done) jump))).heap[w.heap.size]? = some (.deferred (some [])) := fun jump W3 hk3 => by
        have hl3 := hk3.same _ _ (by omega) hl2 rfl
        have := run_endRound (P := P) jump hl3
        rw [hrec] at this ⊢
        exact ⟨this, by rw [hrec] at hl3; exact hl3, World.putObj_heap_same (Array.getElem?_eq_some_iff.1 hl3).1, (World.putObj_heap_other (by omega)).trans (hk3.same _ _ (Nat.le_refl _) hk2 rfl)⟩
      rintro e a3 W3 hp
      cases e with
      | normal =>
        obtain ⟨hk3, hkp3, hi3⟩ := hp
        obtain ⟨hr, hl3, hl4, hk4⟩ := fin none W3 hk3
        exact ⟨_, _, hr, .inl ⟨rfl, ⟨hI.putObj _ hi3 (by omega) hl3 rfl, hl4, hk4⟩, hKt hkpa (hKt (hKt hw2 hkp3) (hKb _ _ _ _ (by omega) hl3 rfl rfl))⟩⟩
      | ret =>
        obtain ⟨hk3, hi3⟩ := hp
        obtain ⟨hr, hl3, hl4, hk4⟩ := fin (some .ret) W3 hk3
        exact ⟨_, _, hr, .inr ⟨rfl, .ret, (hIx _).putObj _ hi3 (by omega) hl3 rfl, hl4, hk4⟩⟩
      | exit id =>
        obtain ⟨hk3, hi3⟩ := hp
        obtain ⟨hr, hl3, hl4, hk4⟩ := fin (some (.exit id)) W3 hk3
        exact ⟨_, _, hr, .inr ⟨rfl, .exit id, (hIx _).putObj _ hi3 (by omega) hl3 rfl, hl4, hk4⟩⟩
      | goto t =>
        obtain ⟨hk3, hi3⟩ := hp
        obtain ⟨hr, hl3, hl4, hk4⟩ := fin (some (.goto t)) W3 hk3
        exact ⟨_, _, hr, .inr ⟨rfl, .goto t, (hIx _).putObj _ hi3 (by omega) hl3 rfl, hl4, hk4⟩⟩
      | panic ch => exact hp.elim
      | outgrown => exact hp.elim
    · rintro e W2 ⟨⟨v, rfl⟩, (⟨xs, hS, hi, hl, hk⟩ | ⟨pre, hSp, c, hi, hl, hk⟩)⟩
      · exact ⟨none, _, by have := run_endLoop (P := P) hl (by rw [hrec]; simp); rw [hrec] at this; exact this, hdone _ xs _ (Nat.le_refl _) hS (hI.putObj _ hi (by omega) hl rfl) ((World.putObj_heap_other (by omega)).trans hk)⟩
      · exact ⟨some c, _, by have := run_endLoop (P := P) hl (by rw [hrec]; simp); rw [hrec] at this; exact this, hstop _ c pre _ (Nat.le_refl _) hSp ((hIx c).putObj _ hi (by omega) hl rfl) ((World.putObj_heap_other (by omega)).trans hk)⟩
end Go.Proofs.YtgenpgfhjhcahaaGreatDoor
/- A region that draws its order, within a round of a range over a function: by the laws for plain code. -/
namespace Go.Proofs.YtgenpgfhjhcahaaGreatDoor
open Go.ChangeShapes Go.WideShapes Go.ChangeAt Go.RowKit
set_option linter.unusedVariables false
section
variable {P : Program} {md : Region.Mode} {ops : Array Oper} {Q : Exit → Act → World → Prop} {n : Nat}
/-- A fence that lets all through. -/
structure Lets (P : Program) (F : Fence) : Prop where
  fn : ∀ f, F.fn f
  depth : ¬ F.depth.isSome = true
  calls : ∀ {n : Nat} {f : FuncId} {args : Array Value} {w : World} {R : Ending → World → Prop}, Calls P f args w R → CallsIn F n P f args w R
  rows : ∀ {n : Nat} {row : String} {args : Array Value} {w : World} {R : Value → World → Prop}, Rows P row args w R → RowsIn F n P row args w R
theorem Lets.wide (P : Program) : Lets P Fence.wide := ⟨fun _ => trivial, fun h0 => by simp [Fence.wide] at h0, fun h => callsIn_wide.2 h, fun h c cs _ => let ⟨v, w', hR, s⟩ := h c cs; ⟨v, w', hR, stepsIn_wide.2 s⟩⟩
theorem Lets.round (P : Program) (l : Nat) : Lets P (Fence.wide.inRound l) := ⟨fun _ => trivial, fun h0 => by simp [Fence.inRound, Fence.wide] at h0, fun h => CallsIn.inRound l (callsIn_wide.2 h), fun h c cs _ => let ⟨v, w', hR, s⟩ := h c cs; ⟨v, w', hR, by rw [fenced_inRound]; exact stepsIn_wide.2 s⟩⟩
theorem wpIn_op_of {F : Fence} (hF : Lets P F) {o : Oper} {a : Act} {w : World} {K : Act → World → Prop} (hnd : ∀ c, o.op ≠ .defer c) (h : o.wp P a w K Q) : o.wpIn F n P a w K Q := by
  refine ⟨fun f _ => hF.fn f, ?_⟩
  rw [Oper.semAt_plain _ _ _ hnd]
  unfold Oper.wp at h
  generalize (execOp a.eval o).run P w = r at *
  cases r with
  | ok nx w' =>
    cases nx with
    | value v => exact h
    | skip => exact h
    | defer d => exact h
    | enter f args => exact ⟨fun h0 => absurd h0 hF.depth, hF.calls h⟩
    | row r args => exact ⟨fun h0 => absurd h0 hF.depth, hF.rows h⟩
    | round l f tmps a b => exact h.elim
    | recover => exact h.elim
    | _ => exact h.elim
  | halt e w' =>
    cases e with
    | panic v => exact h
    | _ => exact h.elim
theorem wpAnyIn_of {F : Fence} (hF : Lets P F) (hnd : ∀ (i : Nat) (o : Oper), ops[i]? = some o → ∀ c, o.op ≠ .defer c) (hQ : ¬ LetsOut Q) : ∀ (fuel : Nat) (listed : Array Bool) (a : Act) (w : World), wpAny P md ops Q fuel listed a w → wpAnyIn F n P md ops Q fuel listed a w
  | 0, _, _, _, h => h
  | f + 1, listed, a, w, h => ⟨h.1, fun i hi => by
      have h2 := h.2 i hi
      unfold wpOp at h2
      unfold wpOpIn
      cases ho : ops[i]? with
      | none =>
        rw [ho] at h2
        exact wpAnyIn_of hF hnd hQ f _ _ _ h2
      | some o =>
        rw [ho] at h2
        simp only at h2 ⊢
        split at h2
        · rename_i hw
          rw [if_pos hw]
          rcases h2 with h2 | ⟨_, h2⟩
          · exact wpIn_op_of hF (hnd i o ho) (Oper.wp_mono (fun a w h => wpAnyIn_of hF hnd hQ f _ a w h) h2)
          · exact absurd h2 hQ
        · rename_i hw
          rw [if_neg hw]
          exact ⟨fun f _ => hF.fn f, wpAnyIn_of hF hnd hQ f _ _ _ h2⟩⟩
theorem no_defer {ops : List Oper} (h : (ops.all fun o => match o.op with | .defer _ => false | _ => true) = true) (i : Nat) (o : Oper) (ho : ops.toArray[i]? = some o) (c : Call) : o.op ≠ .defer c := by
  intro e
  have h1 := List.all_eq_true.1 h o (List.mem_of_getElem? (by simpa using ho))
  rw [e] at h1
  cases h1
/-- The law: in a range over a function a region that draws its order is walked by the laws for plain code. -/
theorem wpIn_region_lets {F : Fence} (hF : Lets P F) {id : Nat} {ops : List Oper} {a : Act} {w : World} (hm : P.follows .mixedOrders = true) (hnd : (ops.all fun o => match o.op with | .defer _ => false | _ => true) = true) (hQ : ¬ LetsOut Q)
    (h : wpAny P .any ops.toArray Q ops.toArray.size (Array.replicate ops.toArray.size false) a w.drew) : (Code.region id ops.toArray true).wpIn F n P Q a w :=
  wpIn_region_any hm (wpAnyIn_of hF (no_defer hnd) hQ _ _ _ _ h)
/-- 'append(s, x)' whose run is known, as one step of a statement that draws its order. -/
theorem stepRun_append {o : Oper} {a : Act} {K : Act → World → Prop} {E : Prop} {w w' : World} (hgd : o.guard = none) (s x : Operand) (t : TypeId)
    (ho : o.op = .call { callee := .builtin .append, args := #[s, x], argTypes := #[t, t] }) (v v' x' : Value) (hs : a.eval s = v) (hx : a.eval x = x') (hr : (Builtin.append_ #[t, t] o.type #[v, x']).run P w = .ok v' w')
    (h : K (a.put o.dst v') w') : if Region.wanted o (yielded ops a.tmps) = true then Oper.wp P o a w K Q else E := by
  have hw : Region.wanted o (yielded ops a.tmps) = true := by simp [Region.wanted, hgd]
  rw [if_pos hw]
  unfold Oper.wp execOp
  simp only [ho, resolve, invoke, builtin, Sem.run_bind, Sem.run_pure, Result.andThen_ok, List.map_toArray, List.map_cons, List.map_nil, hs, hx, hr]
  exact h
end
end Go.Proofs.YtgenpgfhjhcahaaGreatDoor
/- prolog.events: comments and processing instructions, one by one. -/
namespace Go.Proofs.YtgenpgfhjhcahaaGreatDoor
open Go.ChangeShapes Go.WideShapes Go.ChangeAt Go.RowKit
set_option linter.unusedVariables false
attribute [local go_sem] Oper.semAt_some
set_option maxRecDepth 100000 in
set_option maxHeartbeats 4000000 in
theorem pgEvents_c (A : Option Addr) (n cap : Nat) (k : Int) (w : World) : Calls Tryz.prog 12 #[.slice A n cap, .int .i64 k] w fun e w' => e = .returned (.func (.func 30) #[] #[.pointer (some ⟨w.heap.size, 0, none⟩), .pointer (some ⟨w.heap.size + 1, 0, none⟩)]) ∧ w' = (w.alloc (.cells #[.slice A n cap] 22)).alloc (.cells #[.int .i64 k] 3) := by
  go_enter Tryz.func12, Tryz.ntmps12
  go_wp2
  go_ret
  exact ⟨by simp, rfl⟩
/-- What is handed out, as the iterator gives it. -/
def encE (x : MisT × Nat × Nat) : Array Value := #[.agg #[.int .i64 (x.1.kind : Nat), .string ⟨#[]⟩, .string ⟨x.1.name.toArray⟩, .slice none 0 0, .string ⟨x.1.text.toArray⟩, .int .i64 (x.2.1 : Nat), .int .i64 (x.2.2 : Nat)]]
/-- What a round keeps for the iterator: what lay below S0, and its two boxes. -/
def KpE (S0 Bb Bn : Nat) (W W' : World) : Prop := Below S0 W W' ∧ W'.heap[Bb]? = W.heap[Bb]? ∧ W'.heap[Bn]? = W.heap[Bn]?
theorem KpE.trans {S0 Bb Bn : Nat} {X Y Z : World} (h : KpE S0 Bb Bn X Y) (k : KpE S0 Bb Bn Y Z) : KpE S0 Bb Bn X Z := ⟨h.1.trans k.1, k.2.1.trans h.2.1, k.2.2.trans h.2.2⟩
end Go.Proofs.YtgenpgfhjhcahaaGreatDoor
