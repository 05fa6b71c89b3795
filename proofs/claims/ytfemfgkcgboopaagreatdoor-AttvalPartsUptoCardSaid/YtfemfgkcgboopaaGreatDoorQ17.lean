/- Texts of ours, joined: Lit1, EvL, RfA, EaA. -/
import Derived.Test.YtfemfgkcgboopaaGreatDoorRows
import Derived.WalkKit
import Derived.ProofKit
import Derived.OpenShut
import Derived.ShutString
import Derived.ChangeOld
import Derived.Below
import Derived.BigQuiet
import Derived.Deep.QuietTactic
import Derived.Lib.Hide
import Derived.Deep.RegionHeld3
import Derived.Lib.SlBytesConst
import Derived.Laws.CopyOwn
import Derived.Laws.CopyRow
import Derived.Lib.Bytes
import Derived.Deep.LoopGhost
import Derived.Deep.DeepFit
import Derived.Deep.DeepMust
import Derived.WalkSpells
import Derived.WalkLawsBesides
import Derived.Test.YtfemfgkcgboopaaGreatDoorQ1
import Derived.Test.YtfemfgkcgboopaaGreatDoorQ14
import Derived.Test.YtfemfgkcgboopaaGreatDoorQ2
import Derived.Test.YtfemfgkcgboopaaGreatDoorQ3
import Derived.Test.YtfemfgkcgboopaaGreatDoorQ4
import Derived.Test.YtfemfgkcgboopaaGreatDoorQ9
import Derived.Test.YtfemfgkcgboopaaGreatDoorQ11
import Derived.Test.YtfemfgkcgboopaaGreatDoorQ12
import Derived.Laws.EntriesVeiled
import Derived.Laws.Rows
import Derived.RangeFuncNested
import Derived.RangeFuncBound
import Derived.RangeFuncCalls
import Derived.RangeFuncLeaves
import Derived.RangeFuncBox
import Derived.RangeFuncWrites
import Derived.OwnWalkIn
import Derived.TacticsInMore
import Derived.Maps.OwnOps
import Derived.Maps.OwnSet
import Derived.Maps.Views
import Derived.Maps.AppendAt
import Derived.Deep.AppendLies
import Derived.Lib.AtoiErrMem
import Derived.DeepKeys4
import Derived.MapViews
import Derived.Maps.Keyed
import Derived.Test.YtfemfgkcgboopaaGreatDoorQ13
import Derived.Test.YtfemfgkcgboopaaGreatDoorQ16
import Derived.Test.YtfemfgkcgboopaaGreatDoorQ10
import Derived.Shelf.Abstract
import Derived.Shelf.RegionOpen
import Derived.LoopNIn
import Derived.LoopIn
/- lit.Quoted. -/
namespace Go.Proofs.YtfemfgkcgboopaaGreatDoor
open Go.ChangeShapes Go.WideShapes Go.ChangeAt Go.RowKit
set_option linter.unusedVariables false
theorem indexByte_c (A : Option Addr) (n cap : Nat) (l : List UInt8) (c : UInt8) (w : World) (B : Nat) (h : Byt w B A n cap l) :
    Calls Tryz.prog 86 #[.slice A n cap, .int .u8 c.toNat] w fun e w' => e = .returned (.int .i64 (Lib.indexByte l c)) ∧ w' = w := by
  have hcc : ((c.toNat : Int).toNat.toUInt8) = c := by simp
  cases A with
  | none =>
    have hc := h.nil rfl
    have hn := h.le
    have hl := h.length
    obtain rfl : cap = 0 := hc
    obtain rfl : n = 0 := by omega
    obtain rfl : l = [] := List.length_eq_zero_iff.1 hl
    exact (Tryz.bytes_IndexByte_nil (c.toNat : Int) w)
  | some a =>
    refine (Tryz.bytes_IndexByte_at a n cap (nums l) (c.toNat : Int) w (by rw [nums_length, h.length]) fun i hi => ?_).mono fun e w' ⟨he, hw⟩ => ⟨by rw [he, bytesOf_nums, hcc], hw⟩
    obtain ⟨b, o, e, hc⟩ := h.cells (by have := h.le; omega)
    cases e
    have := hc i hi
    unfold Addr.add
    split
    · rename_i h0; subst h0; rw [Nat.add_zero] at this; exact this
    · exact this
end Go.Proofs.YtfemfgkcgboopaaGreatDoor
/- The statement 'for x := range f', where f writes its own captured box. -/
namespace Go.Proofs.YtfemfgkcgboopaaGreatDoor
open Go.ChangeShapes Go.WideShapes Go.ChangeAt Go.RowKit
set_option linter.unusedVariables false
/-- Whatever is said of a world stands when new blocks are laid or the one box b is written. -/
def StandsBox {β : Type} (b : Nat) (J : β → World → Prop) : Prop :=
  ∀ s W W' row, J s W → W.grownBy W' row → (∀ r, row = some r → r = b) → J s W'
/-- The contract of an iterator that writes its own captured box b between two rounds; every round goes on. -/
def SeqBox {α : Type} (F : Fence) (n : Nat) (P : Program) (g : Nat) (lb : Array Value) (encs : α → Array Value) (b : Nat) (Kp : World → World → Prop) (Sx : List α → Prop) (Gd : List α → Prop) (w0 : World) : Prop :=
  ∀ (l : Nat) (J : List α → World → Prop) (W : World), Below w0.heap.size w0 W → StandsBox b J →
    (∀ pre x W1, J pre W1 → Gd (pre ++ [x]) → YieldAt F (n - 1) P l (encs x) W1 fun e W' => e = .returned (.bool true) ∧ J (pre ++ [x]) W' ∧ Kp W1 W') →
    J [] W → CallsIn F n P g (#[.func (.yield l) #[] #[]] ++ lb) W fun e W' => (∃ v, e = .returned v) ∧ ∃ xs, Sx xs ∧ J xs W'
theorem grownBy_away {W W' : World} {row : Option Nat} {b k : Nat} (hg : W.grownBy W' row) (hr : ∀ r, row = some r → r = b) (hk : k < W.heap.size) (h : k ≠ b) : W'.heap[k]? = W.heap[k]? :=
  hg.block k hk (fun e => h (hr k e.symm))
variable {F : Fence} {n : Nat} {P : Program}
/-- How a round's body ends: on, always. -/
def boxPost {α : Type} (B : Nat) (Kp : World → World → Prop) (I : List α → World → Prop) (xs : List α) (W : World) : Exit → Act → World → Prop
  | .normal, _, W' => KeepsFrom B W W' ∧ Kp W W' ∧ I xs W'
  | _, _, _ => False
theorem wpIn_rangeFunc_box {α : Type} {g : Operand} {ps : Array Tmp} {assign body : Code} {Q : Exit → Act → World → Prop} {a : Act} {w : World}
    (hro : F.round = none) (h1 : 1 ≤ n) {gf : Nat} {lb : Array Value} (hg : a.eval g = .func (.func gf) #[] lb) (hFg : F.fn gf) (eg : ∀ args w, (callFunc gf args).run P w = .ok (.enter gf args) w)
    {encs : α → Array Value} {b : Nat} {Kp : World → World → Prop} {Sx : List α → Prop} {Gd : List α → Prop} {w0 : World} (hseq : SeqBox F (n - 1) P gf lb encs b Kp Sx Gd w0) (hbw : b < w.heap.size)
    (hKt : ∀ {A B C : World}, Kp A B → Kp B C → Kp A C) (hKb : ∀ (W : World) (l : Nat) (o o' : Obj), w.heap.size ≤ l → W.heap[l]? = some o → o.isCells = false → o.isWalk = false → Kp W (W.putObj l o'))
    (hw0 : Below w0.heap.size w0 w) (hps : ∀ x, (encs x).size = ps.size)
    (I : List α → World → Prop) (hI : OwnFrom w.heap.size I) (hIb : StandsBox b I) (h0 : I [] w) (Ax : α → Act → World → Prop) (hAx : ∀ x a', OwnFrom w.heap.size fun (_ : Unit) W => Ax x a' W)
    (hassign : ∀ (l : Nat) (pre : List α) (x : α) (W : World), I pre W → Gd (pre ++ [x]) →
      assign.wpIn (F.inRound l) (n - 1 - 1) P (Exit.then (fun a' W' => KeepsFrom w.heap.size W W' ∧ Kp W W' ∧ I pre W' ∧ Ax x a' W') (fun _ _ _ => False)) { tmps := (ps.zip (encs x)).foldl (fun t (p, v) => t.setIfInBounds p v) a.tmps, defers := [] } W)
    (hbody : ∀ (l : Nat) (pre : List α) (x : α) (a' : Act) (W : World), I pre W → Ax x a' W → Gd (pre ++ [x]) → body.wpIn (F.inRound l) (n - 1 - 1) P (boxPost w.heap.size Kp I (pre ++ [x]) W) a' W)
    (hdone : ∀ (D : Nat) (xs : List α) (W : World), w.heap.size ≤ D → Sx xs → I xs W → W.heap[D]? = some (.deferred (some [])) → Q .normal { a with defers := { target := .collected D, args := #[] } :: a.defers } W) :
    (Code.rangeFunc g ps assign body).wpIn F n P Q a w := by
  refine wpIn_rangeFunc fun fn hfn => ?_
  rw [hro]
  let rec' : LoopState → Loop := fun st => { state := st, pending := none, fn, tmps := a.tmps, params := ps, assign, body, defers := w.heap.size }
  let W1 : World := (w.alloc (.deferred (some []))).alloc (.loop (rec' .ready))
  have hsz : W1.heap.size = w.heap.size + 2 := by simp [W1]
  have hL : W1.heap[w.heap.size + 1]? = some (.loop (rec' .ready)) := by
    have h := World.alloc_heap_new (w.alloc (.deferred (some []))) (.loop (rec' .ready))
    rwa [World.size_alloc] at h
  have hD : W1.heap[w.heap.size]? = some (.deferred (some [])) := (Below.heap_alloc (w.alloc (.deferred (some []))) _ _ (by simp)).trans (World.alloc_heap_new w _)
  have hB1 : Below w0.heap.size w0 W1 := hw0.trans ((((Below.refl _ w).alloc (Nat.le_refl _) _).alloc (by simp) _).mono hw0.size)
  have hI1 : I [] W1 := hI.alloc _ (hI.alloc _ h0)
  refine ⟨w.heap.size + 1, [{ target := .collected w.heap.size, args := #[] }], W1, { target := .fn (.func gf) lb, args := #[.func (.yield (w.heap.size + 1)) #[] #[]] }, W1, gf,
    #[.func (.yield (w.heap.size + 1)) #[] #[]] ++ lb, W1, run_enterLoop_outer _ _ _ _ _, ?_, ?_, ?_, fun _ => h1, ?_⟩
  · simp only [resolve, hg]; simp [go_sem]
  · intro f' hf'; simp [Target.leads] at hf'; exact hf' ▸ hFg
  · simp [invoke, go_sem, eg]
  clear_value W1
  refine (hseq (w.heap.size + 1) (fun pre W => I pre W ∧ W.heap[w.heap.size + 1]? = some (.loop (rec' .ready)) ∧ W.heap[w.heap.size]? = some (.deferred (some []))) W1 hB1 ?_ ?_ ⟨hI1, hL, hD⟩).mono ?_
  · rintro s A B row ⟨i, x, y⟩ hgr hrow
    exact ⟨hIb s A B row i hgr hrow, (grownBy_away hgr hrow (Array.getElem?_eq_some_iff.1 x).1 (by omega)).trans x, (grownBy_away hgr hrow (Array.getElem?_eq_some_iff.1 y).1 (by omega)).trans y⟩
  · rintro pre x W ⟨hi, hl, hk⟩ hlen
    refine ⟨fn, _, assign, body, run_yield (P := P) (args := encs x) hl (hps x), roundIn_of_wpIn hfn (wpIn_mono (hassign _ pre x W hi hlen) ?_)⟩
    rintro e a' W' hp
    cases e with
    | ret => exact hp.elim
    | exit id => exact hp.elim
    | goto t => exact hp.elim
    | panic ch => exact hp.elim
    | outgrown => exact hp.elim
    | normal =>
    obtain ⟨hkf, hkp', hi', hax⟩ := hp
    have hl' := hkf.same _ _ (by omega) hl rfl
    have hk' := hkf.same _ _ (Nat.le_refl _) hk rfl
    have hlt : w.heap.size + 1 < W'.heap.size := (Array.getElem?_eq_some_iff.1 hl').1
    refine ⟨_, run_beginRound hl' rfl, ?_⟩
    have hl2 : (W'.putObj (w.heap.size + 1) (.loop (rec' .busy))).heap[w.heap.size + 1]? = some (.loop (rec' .busy)) := World.putObj_heap_same hlt
    have hk2 : (W'.putObj (w.heap.size + 1) (.loop (rec' .busy))).heap[w.heap.size]? = some (.deferred (some [])) := (World.putObj_heap_other (by omega)).trans hk'
    refine wpIn_mono (hbody _ pre x a' _ (hI.putObj _ hi' (by omega) hl' rfl) ((hAx x a').putObj (s := ()) _ hax (by omega) hl' rfl) hlen) ?_
    rintro e a3 W3 hp
    cases e with
    | normal =>
      obtain ⟨hk3, hkp, hi3⟩ := hp
      have hl3 := hk3.same _ _ (by omega) hl2 rfl
      have hd3 := hk3.same _ _ (Nat.le_refl _) hk2 rfl
      exact ⟨_, _, run_endRound (P := P) none hl3, rfl, ⟨hI.putObj _ hi3 (by omega) hl3 rfl, World.putObj_heap_same (Array.getElem?_eq_some_iff.1 hl3).1, (World.putObj_heap_other (by omega)).trans hd3⟩,
        hKt (hKt (hKt hkp' (hKb _ _ _ _ (by omega) hl' rfl rfl)) hkp) (hKb _ _ _ _ (by omega) hl3 rfl rfl)⟩
    | ret => exact hp.elim
    | exit id => exact hp.elim
    | goto t => exact hp.elim
    | panic ch => exact hp.elim
    | outgrown => exact hp.elim
  · rintro e W2 ⟨⟨v, rfl⟩, xs, hS, hi, hl, hk⟩
    exact ⟨none, _, run_endLoop (P := P) hl (by simp [rec']), hdone _ xs _ (Nat.le_refl _) hS (hI.putObj _ hi (by omega) hl rfl) ((World.putObj_heap_other (by omega)).trans hk)⟩
end Go.Proofs.YtfemfgkcgboopaaGreatDoor
/- The document's row of references. -/
namespace Go.Proofs.YtfemfgkcgboopaaGreatDoor
open Go.ChangeShapes Go.WideShapes Go.ChangeAt Go.RowKit
set_option linter.unusedVariables false
theorem refAt_in (l : List UInt8) (k : Nat) (hk : k ≤ l.length) : refAt 38 l (k : Int) = refOut 38 l k := by
  unfold refAt
  rw [if_neg (by omega)]
  simp
theorem OwnC.base {α : Type} {c : α → List Value} {k : Nat} {e : TypeId} {w : World} {b b' : Nat} {v : Value} {l : List α} (h : OwnC c k e w b v l) (hb : b' ≤ b) : OwnC c k e w b' v l := ownsRow_base h hb
set_option maxRecDepth 100000 in
set_option maxHeartbeats 8000000 in
/-- The document's row of references. -/
theorem rfAll_c (l : List UInt8) (w : World) (hm : l.length ≤ 20000) : Calls Tryz.prog 37 #[.string ⟨l.toArray⟩] w fun e w' => ∃ OA oc, e = .returned (.slice OA (rfsA l 0).length oc) ∧ OwnC cRf 3 86 w' w.heap.size (.slice OA (rfsA l 0).length oc) (rfsA l 0) ∧ Below w.heap.size w w' := by
  have cv := run_toBytes w l
  have hb1 := Lib.bytesWorld_below w 5 ⟨l.toArray⟩
  have hB : Byt (Lib.bytesWorld w 5 ⟨l.toArray⟩) (Lib.bytesWorld w 5 ⟨l.toArray⟩).heap.size (some ⟨w.heap.size, 0, none⟩) l.length (grownCap w l.length 0 5) l := (byt_new w l (by omega)).more (Nat.le_of_eq (Lib.bytesWorld_size _ _ _).symm)
  generalize Lib.bytesWorld w 5 ⟨l.toArray⟩ = W1 at *
  generalize grownCap w l.length 0 5 = cap at *
  have HB1 := Lib.hid hb1
  have HB : Hid (∀ W, Below W1.heap.size W1 W → Byt W W.heap.size (some ⟨w.heap.size, 0, none⟩) l.length cap l) := Lib.hid fun W hb => (hB.below hb).more hb.size
  obtain ⟨S, hS⟩ : ∃ S, w.heap.size = S := ⟨_, rfl⟩
  obtain ⟨n, hn⟩ : ∃ n, l.length = n := ⟨_, rfl⟩
  have HN := Lib.hid hn
  have hJ0 : Hid (rfsA l 0 = [] ++ rfsA l 0 ∧ ([] : List (Nat × Nat × List UInt8)).length ≤ 0 ∧ Below W1.heap.size W1 W1 ∧ OwnC cRf 3 86 W1 W1.heap.size (.slice none 0 0) []) := Lib.hid ⟨rfl, Nat.le_refl _, Below.refl _ _, OwnC.start _ _ _ _ _⟩
  rw [hS, hn] at HB
  rw [hS, hn] at cv
  rw [hn] at hm
  clear hb1 hB hn
  go_enter Tryz.func37, Tryz.ntmps37
  go_wp2
  go_loopg [4, 5] (n) (fun g v i wr => ∃ (k : Nat) (pre : List (Nat × Nat × List UInt8)), i = .int .i64 (k : Int) ∧ k ≤ n ∧ Hid (g + k = n) ∧ Hid (rfsA l 0 = pre ++ rfsA l k ∧ pre.length ≤ k ∧ Below W1.heap.size W1 wr ∧ OwnC cRf 3 86 wr W1.heap.size v pre))
  case atStart => exact ⟨0, [], rfl, Nat.zero_le _, Lib.hid rfl, hJ0⟩
  case round =>
    clear hJ0
    obtain ⟨k, pre, rfl, hk, hg, HJ⟩ := hrel
    obtain ⟨A0, c0, hv0⟩ := HJ.out.2.2.2.form
    subst hv0
    have hk0 : (0 : Int) ≤ (k : Int) := by omega
    have hk9 : (k : Int) ≤ 20000 := by omega
    by_cases hkn : k < n
    · have hki : (k : Int) < (n : Int) := by omega
      have CE := refEntityAt_c _ n cap l (k : Int) 38 wr (HB.out wr HJ.out.2.2.1) (by omega)
      rw [refAt_in l k (by rw [HN.out]; exact hk)] at CE
      obtain ⟨r, hr⟩ : ∃ r, refOut 38 l k = r := ⟨_, rfl⟩
      rw [hr] at CE
      have HR := Lib.hid hr
      obtain ⟨s, nx, f⟩ := r
      have CE2 : Hid (Calls Tryz.prog 54 #[.slice (some ⟨S, 0, none⟩) n cap, .int .i64 (k : Int), .int .u8 38] wr fun e w' => e = .returned (.tuple #[.string ⟨s.toArray⟩, .int .i64 (nx : Int), .int .i64 (f : Int)]) ∧ Below wr.heap.size wr w') := Lib.hid CE
      clear CE hr
      by_cases hf : f = 0
      · subst hf
        have hnx := refOut_nx l k (by rw [HR.out])
        rw [HR.out] at hnx
        simp only at hnx
        have HNX := Lib.hid (And.intro hnx.1 (show nx ≤ n by rw [← HN.out]; exact hnx.2.1))
        have HRS : Hid (rfsA l 0 = (pre ++ [(k, nx, s)]) ++ rfsA l nx) := Lib.hid (by
          rw [HJ.out.1, rfsA_ref l k (by rw [HR.out]), HR.out]
          simp)
        clear hnx
        go_wp2_with fail
        refine CE2.out.mono ?_
        rintro e w1 ⟨rfl, hb⟩
        have HJ1 := Lib.hid (And.intro (HJ.out.2.2.1.trans (hb.mono HJ.out.2.2.1.size)) (HJ.out.2.2.2.kept hb))
        clear hb CE2
        have hown : w1.ownsRow W1.heap.size 86 3 (.slice A0 pre.length c0) pre.length (pre.flatMap cRf) := HJ1.out.2
        have hpl : pre.length ≤ 1000000000 := by have := HJ.out.2.1; omega
        have hba : W1.heap.size ≤ w1.heap.size := HJ1.out.1.size
        go_wp2_with (at_builtin; refine wpList_appK rfl (.tmp 26) (.tmp 31) 83 86 rfl (.agg #[.int .i64 0, .int .i64 0, .string ⟨#[]⟩]) 3 32 Tryz.underlying83 infoC_rf rfl (by decide) _ _ _ _ rfl hown (cRf (k, nx, s)) _ rfl rfl rfl (by simp [cRf, Value.oneCell']) hpl (by decide) hba ?_)
        intro v6 w6 hown6 hg6 hat6
        have O6 := Lib.hid (OwnC.snoc (c := cRf) (x := (k, nx, s)) hown6)
        have kb := (Below.refl w1.heap.size w1).alloc (Nat.le_refl _) (.cells (cRf (k, nx, s)).toArray 86)
        have HB6 := Lib.hid ((HJ1.out.1.trans (kb.mono HJ1.out.1.size)).grown hg6 (by rw [World.size_alloc w1]; omega) (fun j hj => (HJ1.out.2.ge hj).2))
        clear hown6 hg6 hat6 hown kb hba
        go_wp2
        go_roundg (n - nx)
        case measure => have := hg.out; have := HNX.out; omega
        case rel => exact ⟨nx, pre ++ [(k, nx, s)], by go_num, HNX.out.2, Lib.hid (by have := hg.out; have := HNX.out; omega), Lib.hid ⟨HRS.out, by have := HJ.out.2.1; have := HNX.out; rw [List.length_append]; simp; omega, HB6.out, O6.out⟩⟩
      · have hf2 : ¬ ((f : Nat) : Int) = 0 := by omega
        have HRS : Hid (rfsA l 0 = pre ++ rfsA l (k + 1)) := Lib.hid (by rw [HJ.out.1, rfsA_no l k (by rw [HN.out]; exact hkn) (by rw [HR.out]; exact hf)])
        clear hf
        go_wp2_with fail
        refine CE2.out.mono ?_
        rintro e w1 ⟨rfl, hb⟩
        have HJ1 := Lib.hid (And.intro (HJ.out.2.2.1.trans (hb.mono HJ.out.2.2.1.size)) (HJ.out.2.2.2.kept hb))
        clear hb CE2
        go_wp2
        go_roundg (n - (k + 1))
        case measure => have := hg.out; omega
        case rel => exact ⟨k + 1, pre, by go_num, by omega, Lib.hid (by have := hg.out; omega), Lib.hid ⟨HRS.out, by have := HJ.out.2.1; omega, HJ1.out⟩⟩
    · have hki : ¬ (k : Int) < (n : Int) := by omega
      have hJ := HJ.out
      rw [rfsA_end l k (by rw [HN.out]; omega), List.append_nil] at hJ
      obtain ⟨hp, _, hb2, ho2⟩ := hJ
      subst hp
      have HF := Lib.hid (And.intro (ho2.base (show w.heap.size ≤ W1.heap.size from HB1.out.size)) (HB1.out.trans (hb2.mono HB1.out.size)))
      clear HJ hb2 ho2
      go_wp2
      go_ret
      subst hS
      exact ⟨A0, c0, rfl, HF.out⟩
end Go.Proofs.YtfemfgkcgboopaaGreatDoor
/- refs.each, what its iterator hands out. -/
namespace Go.Proofs.YtfemfgkcgboopaaGreatDoor
open Go.ChangeShapes Go.WideShapes Go.ChangeAt Go.RowKit
set_option linter.unusedVariables false
attribute [local go_sem] Oper.semAt_some
def encR (x : Nat × Nat × List UInt8) : Array Value := #[.agg #[.int .i64 (x.1 : Nat), .int .i64 (x.2.1 : Nat), .string ⟨x.2.2.toArray⟩]]
/-- What a round keeps for the iterator: what lay below S, the box Bn, all bytes. -/
def KpR (S Bn : Nat) (W W' : World) : Prop := Below S W W' ∧ W'.heap[Bn]? = W.heap[Bn]? ∧ ∀ (k : Nat) (vs : Array Value) (f : Nat × Nat), W.heap[k]? = some (Obj.cells vs 5 f) → W'.heap[k]? = some (Obj.cells vs 5 f)
theorem KpR.trans {S Bn : Nat} {X Y Z : World} (h : KpR S Bn X Y) (k : KpR S Bn Y Z) : KpR S Bn X Z := ⟨h.1.trans k.1, k.2.1.trans h.2.1, fun j vs f hj => k.2.2 j vs f (h.2.2 j vs f hj)⟩
theorem Byt.blk {w w' : World} {B B' b n cap : Nat} {l : List UInt8} (h : Byt w B (some ⟨b, 0, none⟩) n cap l) (hb : w'.heap[b]? = w.heap[b]?) (hB : b < B') : Byt w' B' (some ⟨b, 0, none⟩) n cap l :=
  ⟨h.len, h.le, h.fit, h.nil, fun h0 => by
    obtain ⟨b2, o2, e, _, hc⟩ := h.at_ h0
    cases e
    exact ⟨b, 0, rfl, hB, fun i u hu => (World.cell?_of_block (a := ⟨b, 0 + i, none⟩) hb).trans (hc i u hu)⟩⟩
set_option maxRecDepth 100000 in
set_option maxHeartbeats 4000000 in
theorem each1_in (m : Nat) (hm1 : 1 ≤ m) (lr Bn : Nat) (l : List UInt8) (J : List (Nat × Nat × List UInt8) → World → Prop) (w0 W : World) (hJ : StandsBox Bn J)
    (hY : ∀ pre x W1, J pre W1 → (pre ++ [x] <+: rfsA l 0) → YieldAt Fence.wide (m - 1) Tryz.prog lr (encR x) W1 fun e W' => e = .returned (.bool true) ∧ J (pre ++ [x]) W' ∧ KpR w0.heap.size Bn W1 W')
    (hb : Boxed W Bn 9 (.string ⟨l.toArray⟩)) (hF : Forms w0) (hT : Tabs w0) (hB : Below w0.heap.size w0 W) (hm : l.length ≤ 20000) (h0 : J [] W) :
    CallsIn Fence.wide m Tryz.prog 85 #[.func (.yield lr) #[] #[], .pointer (some ⟨Bn, 0, none⟩)] W fun e W' => (∃ v, e = .returned v) ∧ J (rfsA l 0) W' := by
  have cv := run_toBytes W l
  have hb1 := Lib.bytesWorld_below W 5 ⟨l.toArray⟩
  have hBy : Byt (Lib.bytesWorld W 5 ⟨l.toArray⟩) (Lib.bytesWorld W 5 ⟨l.toArray⟩).heap.size (some ⟨W.heap.size, 0, none⟩) l.length (grownCap W l.length 0 5) l := (byt_new W l (by omega)).more (Nat.le_of_eq (Lib.bytesWorld_size _ _ _).symm)
  obtain ⟨vs, vf, hvs⟩ : ∃ vs vf, (Lib.bytesWorld W 5 ⟨l.toArray⟩).heap[W.heap.size]? = some (.cells vs 5 vf) := ⟨_, _, Lib.bytesWorld_at_new W 5 ⟨l.toArray⟩⟩
  have hJ1 : J [] (Lib.bytesWorld W 5 ⟨l.toArray⟩) := hJ [] W _ none h0 (hb1.gr none) (fun r e => by cases e)
  have c0 := hb.cell
  generalize Lib.bytesWorld W 5 ⟨l.toArray⟩ = W1 at *
  generalize grownCap W l.length 0 5 = cap at *
  obtain ⟨Y, hYb⟩ : ∃ Y, W.heap.size = Y := ⟨_, rfl⟩
  rw [hYb] at cv hBy hvs
  obtain ⟨n, hn⟩ : ∃ n, l.length = n := ⟨_, rfl⟩
  rw [hn] at cv hBy hm
  have HJ := Lib.hid hJ
  have HY := Lib.hid hY
  have HN := Lib.hid hn
  have HBy := Lib.hid (And.intro hBy hvs)
  have HFT := Lib.hid (And.intro hF hT)
  have hB1 : Below w0.heap.size w0 W1 := hB.trans (hb1.mono hB.size)
  have J0 : Hid (rfsA l 0 = [] ++ rfsA l 0 ∧ J [] W1 ∧ Below w0.heap.size w0 W1 ∧ W1.heap[Y]? = some (.cells vs 5 vf)) := Lib.hid ⟨rfl, hJ1, hB1, hvs⟩
  have hrf : ∀ (k : Nat) (w2 : World), k ≤ n → (Instr.slice 65 (.slice (some ⟨Y, 0, none⟩) n cap) (some (.int .i64 (k : Int))) none none).run Tryz.prog w2 = .ok (.slice (cutA (some ⟨Y, 0, none⟩) cap k) (n - k) (cap - k)) w2 := fun k w2 hk => run_from (w := w2) (some ⟨Y, 0, none⟩) n cap k hk
  clear hJ hY hF hT hB hb hb1 hBy hvs h0 hJ1 hB1 hn
  refine callsIn_of_wp Tryz.func85 rfl trivial ?_ rfl
  simp only [Tryz.ntmps85, List.size_toArray, List.length_cons, List.length_nil, Nat.reduceAdd, Nat.reduceSub, Array.replicate_succ, Array.replicate_zero, List.push_toArray, List.append_toArray, List.nil_append, List.cons_append]
  gi_wp2
  gi_loopw [4] (fun i wr => ∃ (k : Nat) (pre : List (Nat × Nat × List UInt8)), i = .int .i64 (k : Int) ∧ k ≤ n ∧ Hid (rfsA l 0 = pre ++ rfsA l k ∧ J pre wr ∧ Below w0.heap.size w0 wr ∧ wr.heap[Y]? = some (.cells vs 5 vf)))
    (fun i _ => n + 1 - (intOf i).toNat)
  case atStart => exact ⟨0, [], rfl, Nat.zero_le _, J0⟩
  case round =>
    clear J0 cv c0
    obtain ⟨k, pre, rfl, hk, HI⟩ := hrel
    have hk0 : (0 : Int) ≤ (k : Int) := by omega
    have hk1 : (k : Int) ≤ 20000 := by omega
    have hrk := hrf k
    have hby : Byt wr wr.heap.size (some ⟨Y, 0, none⟩) n cap l := HBy.out.1.blk (HI.out.2.2.2.trans HBy.out.2.symm) (lt_of HI.out.2.2.2)
    have CI : Hid (Calls Tryz.prog 86 #[.slice (cutA (some ⟨Y, 0, none⟩) cap k) (n - k) (cap - k), .int .u8 38] wr fun e w' => e = .returned (.int .i64 (Lib.indexByte (l.drop k) 38)) ∧ w' = wr) := Lib.hid (indexByte_c _ _ _ (l.drop k) 38 wr _ (hby.drop hk))
    have CE : Hid (∀ j : Nat, j ≤ n → Calls Tryz.prog 69 #[.slice (some ⟨Y, 0, none⟩) n cap, .int .i64 (j : Int)] wr fun e w' => e = .returned (.tuple #[.string ⟨(refOut 38 l j).1.toArray⟩, .int .i64 ((refOut 38 l j).2.1 : Int), .int .i64 ((refOut 38 l j).2.2 : Int)]) ∧ Below wr.heap.size wr w') := Lib.hid fun j hj => by
      have := crefEntity_c (some ⟨Y, 0, none⟩) n cap l (j : Int) wr hby (HFT.out.1.below HI.out.2.2.1 HFT.out.1.lt) (HFT.out.2.below HI.out.2.2.1 (HFT.out.2.low HFT.out.1)) (by omega)
      rw [refAt_in l j (by rw [HN.out]; exact hj)] at this
      exact this
    have hlo := ix_lo 38 (l.drop k)
    rw [List.length_drop, HN.out] at hlo
    clear hby
    by_cases hx : Lib.indexByte (l.drop k) 38 < 0
    · have HE : Hid (rfsA l 0 = pre) := Lib.hid (by
        have hno := ix_none 38 (l.drop k) hx
        rw [HI.out.1, rfsA_none l k (fun i hi => by
          have := hno (i - k)
          rwa [List.getElem?_drop, show k + (i - k) = i by omega] at this), List.append_nil])
      have hd : decide (Lib.indexByte (l.drop k) 38 < 0) = true := by simpa using hx
      clear hlo hx CE
      generalize Lib.indexByte (l.drop k) 38 = ix at *
      gi_wp2_with fail
      refine ⟨trivial, (callsIn_wide.2 CI.out).mono ?_⟩
      rintro e w2 ⟨rfl, rfl⟩
      clear CI hrk
      gi_wp2
      exact bodyPost_ret (results_none (by rfl) _ _ _) rfl ⟨⟨_, rfl⟩, by rw [HE.out]; exact HI.out.2.1⟩
    · obtain ⟨hat, hno⟩ := ix_at 38 (l.drop k) (by omega)
      obtain ⟨j, hj⟩ : ∃ j : Nat, Lib.indexByte (l.drop k) 38 = (j : Int) := ⟨(Lib.indexByte (l.drop k) 38).toNat, by omega⟩
      rw [hj] at CI hlo hno
      have hpl : k + j < n := by omega
      have HSK : Hid (rfsA l 0 = pre ++ rfsA l (k + j)) := Lib.hid (by
        rw [HI.out.1, rfsA_skip l k j (fun i h1 h2 => by
          have := hno (i - k) (by omega)
          rwa [List.getElem?_drop, show k + (i - k) = i by omega] at this) (by rw [HN.out]; omega)])
      have hjj : decide ((j : Int) < 0) = false := by simp
      have hj0 : (0 : Int) ≤ (j : Int) := by omega
      have hj9 : (j : Int) ≤ 20000 := by omega
      have CE2 := CE.out (k + j) (by omega)
      rw [Int.natCast_add] at CE2
      obtain ⟨r, hr⟩ : ∃ r, refOut 38 l (k + j) = r := ⟨_, rfl⟩
      rw [hr] at CE2
      have HR := Lib.hid hr
      obtain ⟨s, nx, f⟩ := r
      simp only at CE2
      have CE3 := Lib.hid CE2
      clear hlo hno hat hj hx CE CE2 hr
      by_cases hf : f = 0
      · subst hf
        have hnx := refOut_nx l (k + j) (by rw [HR.out])
        rw [HR.out] at hnx
        simp only at hnx
        have HNX := Lib.hid (And.intro hnx.1 (show nx ≤ n by rw [← HN.out]; exact hnx.2.1))
        have HRS : Hid (rfsA l 0 = (pre ++ [(k + j, nx, s)]) ++ rfsA l nx) := Lib.hid (by
          rw [HSK.out, rfsA_ref l (k + j) (by rw [HR.out]), HR.out]
          simp)
        clear hnx
        gi_wp2_with fail
        refine ⟨trivial, (callsIn_wide.2 CI.out).mono ?_⟩
        rintro e w2 ⟨rfl, rfl⟩
        clear CI hrk
        gi_wp2_with fail
        refine ⟨trivial, (callsIn_wide.2 CE3.out).mono ?_⟩
        rintro e w3 ⟨rfl, hb3⟩
        have J3 : J pre w3 := HJ.out pre _ w3 none HI.out.2.1 (hb3.gr none) (fun r e => by cases e)
        have HB3 : Hid (Below w0.heap.size w0 w3 ∧ w3.heap[Y]? = some (.cells vs 5 vf)) := Lib.hid ⟨HI.out.2.2.1.trans (hb3.mono HI.out.2.2.1.size), (hb3.block _ (lt_of HI.out.2.2.2)).trans HI.out.2.2.2⟩
        obtain ⟨fn, tmps, assign, body, hy, hR⟩ := HY.out pre (k + j, nx, s) w3 J3 (by rw [HRS.out]; exact List.prefix_append _ _)
        unfold encR at hy
        dsimp only at hy
        rw [Int.natCast_add] at hy
        have HRR := Lib.hid hR
        clear hR J3 hb3 CE3
        gi_wp2
        refine HRR.out.mono ?_
        rintro e W3 ⟨rfl, hJ3, hk3⟩
        have HJ3 : Hid (rfsA l 0 = (pre ++ [(k + j, nx, s)]) ++ rfsA l nx ∧ J (pre ++ [(k + j, nx, s)]) W3 ∧ Below w0.heap.size w0 W3 ∧ W3.heap[Y]? = some (.cells vs 5 vf)) := Lib.hid ⟨HRS.out, hJ3, HB3.out.1.trans hk3.1, hk3.2.2 _ _ _ HB3.out.2⟩
        clear hJ3 hk3 hy
        gi_wp2
        go_roundw
        case rel => exact ⟨nx, pre ++ [(k + j, nx, s)], by first | rfl | go_num, HNX.out.2, HJ3⟩
        case measure => have := HNX.out; simp [intOf]; omega
      · have hf2 : ((f : Int) == 0) = false := by simpa using hf
        have hf3 : ¬ (f : Int) = 0 := by omega
        have HRS : Hid (rfsA l 0 = pre ++ rfsA l (k + j + 1)) := Lib.hid (by rw [HSK.out, rfsA_no l (k + j) (by rw [HN.out]; exact hpl) (by rw [HR.out]; exact hf)])
        clear hf
        gi_wp2_with fail
        refine ⟨trivial, (callsIn_wide.2 CI.out).mono ?_⟩
        rintro e w2 ⟨rfl, rfl⟩
        clear CI hrk
        gi_wp2_with fail
        refine ⟨trivial, (callsIn_wide.2 CE3.out).mono ?_⟩
        rintro e w3 ⟨rfl, hb3⟩
        have HJ3 : Hid (rfsA l 0 = pre ++ rfsA l (k + j + 1) ∧ J pre w3 ∧ Below w0.heap.size w0 w3 ∧ w3.heap[Y]? = some (.cells vs 5 vf)) := Lib.hid ⟨HRS.out, HJ.out pre _ w3 none HI.out.2.1 (hb3.gr none) (fun r e => by cases e), HI.out.2.2.1.trans (hb3.mono HI.out.2.2.1.size), (hb3.block _ (lt_of HI.out.2.2.2)).trans HI.out.2.2.2⟩
        clear hb3 CE3
        gi_wp2
        go_roundw
        case rel => exact ⟨k + j + 1, pre, by first | rfl | go_num, by omega, HJ3⟩
        case measure => simp [intOf]; omega
end Go.Proofs.YtfemfgkcgboopaaGreatDoor
