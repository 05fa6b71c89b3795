/- Several texts of ours in one: EvN, LgV, LgX, LgY, Laid. -/
import Derived.Test.YtljmpghijlibaaaDoorRows
import Derived.WalkKit
import Derived.ProofKit
import Derived.OpenShut
import Derived.ShutString
import Derived.ChangeOld
import Derived.Below
import Derived.BigQuiet
import Derived.Deep.QuietTactic
import Derived.Lib.Hide
import Derived.Deep.RegionHeld3
import Derived.Lib.SlBytesConst
import Derived.Laws.CopyOwn
import Derived.Laws.CopyRow
import Derived.Lib.Bytes
import Derived.Deep.LoopGhost
import Derived.Deep.DeepFit
import Derived.Deep.DeepMust
import Derived.WalkSpells
import Derived.WalkLawsBesides
import Derived.Laws.EntriesVeiled
import Derived.Laws.Rows
import Derived.RangeFuncNested
import Derived.RangeFuncBound
import Derived.RangeFuncCalls
import Derived.RangeFuncLeaves
import Derived.RangeFuncBox
import Derived.RangeFuncWrites
import Derived.OwnWalkIn
import Derived.TacticsInMore
import Derived.Shelf.Abstract
import Derived.Shelf.RegionOpen
import Derived.LoopNIn
import Derived.LoopIn
import Derived.Maps.AppendAt
import Derived.Test.YtljmpghijlibaaaDoorBase
import Derived.Test.YtljmpghijlibaaaDoorShelf
import Derived.Test.YtljmpghijlibaaaDoorCharPlain
import Derived.Test.YtljmpghijlibaaaDoorChars1
import Derived.Test.YtljmpghijlibaaaDoorUtf1
import Derived.Test.YtljmpghijlibaaaDoorUtf2
import Derived.Test.YtljmpghijlibaaaDoorUtf3
import Derived.Test.YtljmpghijlibaaaDoorName1
import Derived.Test.YtljmpghijlibaaaDoorName2
import Derived.Test.YtljmpghijlibaaaDoorName3
import Derived.Test.YtljmpghijlibaaaDoorCref1
import Derived.Test.YtljmpghijlibaaaDoorY2
import Derived.Test.YtljmpghijlibaaaDoorStr
import Derived.Test.YtljmpghijlibaaaDoorY3
import Derived.Test.YtljmpghijlibaaaDoorMiscP
import Derived.Test.YtljmpghijlibaaaDoorEnc
import Derived.Test.YtljmpghijlibaaaDoorEvP
import Derived.Test.YtljmpghijlibaaaDoorEvP2
import Derived.Test.YtljmpghijlibaaaDoorEscP
import Derived.Test.YtljmpghijlibaaaDoorPlainP
import Derived.Test.YtljmpghijlibaaaDoorKnown
import Derived.Test.YtljmpghijlibaaaDoorEvP3
import Derived.Test.YtljmpghijlibaaaDoorEvP4
import Derived.Test.YtljmpghijlibaaaDoorPub
import Derived.Test.YtljmpghijlibaaaDoorRun
import Derived.Test.YtljmpghijlibaaaDoorRunU
import Derived.Test.YtljmpghijlibaaaDoorRunV
import Derived.Test.YtljmpghijlibaaaDoorEv2
import Derived.Test.YtljmpghijlibaaaDoorEv3
import Derived.Test.YtljmpghijlibaaaDoorLibB
import Derived.Test.YtljmpghijlibaaaDoorText
import Derived.Test.YtljmpghijlibaaaDoorEv1
import Derived.Test.YtljmpghijlibaaaDoorEv6
import Derived.Test.YtljmpghijlibaaaDoorEv7
import Derived.Test.YtljmpghijlibaaaDoorZ3
import Derived.Test.YtljmpghijlibaaaDoorLgP
import Derived.Test.YtljmpghijlibaaaDoorLgW
import Derived.Test.YtljmpghijlibaaaDoorZ4
import Derived.Test.YtljmpghijlibaaaDoorEvL
import Derived.Test.YtljmpghijlibaaaDoorBuild2
import Derived.Test.YtljmpghijlibaaaDoorEvB
import Derived.Test.YtljmpghijlibaaaDoorEvB2
import Derived.Test.YtljmpghijlibaaaDoorEvB3
namespace Go.Proofs.YtljmpghijlibaaaDoor
open Go.ChangeShapes Go.WideShapes Go.ChangeAt Go.RowKit
set_option linter.unusedVariables false
/-- Whatever is said of a world stands when new blocks are laid. -/
def StandsNew {β : Type} (J : β → World → Prop) : Prop :=
  ∀ s W W', J s W → W.grownBy W' none → J s W'
/-- The contract of an iterator that lays new blocks alone between two rounds; every round goes on. -/
def SeqNew {α : Type} (F : Fence) (n : Nat) (P : Program) (g : Nat) (lb : Array Value) (encs : α → Array Value) (Kp : World → World → Prop) (Sx : List α → Prop) (Gd : List α → Prop) (w0 : World) : Prop :=
  ∀ (l : Nat) (J : List α → World → Prop) (W : World), Below w0.heap.size w0 W → StandsNew J →
    (∀ pre x W1, J pre W1 → Gd (pre ++ [x]) → YieldAt F (n - 1) P l (encs x) W1 fun e W' => e = .returned (.bool true) ∧ J (pre ++ [x]) W' ∧ Kp W1 W') →
    J [] W → CallsIn F n P g (#[.func (.yield l) #[] #[]] ++ lb) W fun e W' => (∃ v, e = .returned v) ∧ ∃ xs, Sx xs ∧ J xs W'
variable {F : Fence} {n : Nat} {P : Program}
/-- How a round's body ends: on, always. -/
def newPost {α : Type} (B : Nat) (Kp : World → World → Prop) (I : List α → World → Prop) (xs : List α) (W : World) : Exit → Act → World → Prop
  | .normal, _, W' => KeepsFrom B W W' ∧ Kp W W' ∧ I xs W'
  | _, _, _ => False
theorem wpIn_rangeFunc_new {α : Type} {g : Operand} {ps : Array Tmp} {assign body : Code} {Q : Exit → Act → World → Prop} {a : Act} {w : World}
    (hro : F.round = none) (h1 : 1 ≤ n) {gf : Nat} {lb : Array Value} (hg : a.eval g = .func (.func gf) #[] lb) (hFg : F.fn gf) (eg : ∀ args w, (callFunc gf args).run P w = .ok (.enter gf args) w)
    {encs : α → Array Value} {Kp : World → World → Prop} {Sx : List α → Prop} {Gd : List α → Prop} {w0 : World} (hseq : SeqNew F (n - 1) P gf lb encs Kp Sx Gd w0)
    (hKt : ∀ {A B C : World}, Kp A B → Kp B C → Kp A C) (hKb : ∀ (W : World) (l : Nat) (o o' : Obj), w.heap.size ≤ l → W.heap[l]? = some o → o.isCells = false → o.isWalk = false → Kp W (W.putObj l o'))
    (hw0 : Below w0.heap.size w0 w) (hps : ∀ x, (encs x).size = ps.size)
    (I : List α → World → Prop) (hI : OwnFrom w.heap.size I) (h0 : I [] w) (Ax : α → Act → World → Prop) (hAx : ∀ x a', OwnFrom w.heap.size fun (_ : Unit) W => Ax x a' W)
    (hassign : ∀ (l : Nat) (pre : List α) (x : α) (W : World), I pre W → Gd (pre ++ [x]) →
      assign.wpIn (F.inRound l) (n - 1 - 1) P (Exit.then (fun a' W' => KeepsFrom w.heap.size W W' ∧ Kp W W' ∧ I pre W' ∧ Ax x a' W') (fun _ _ _ => False)) { tmps := (ps.zip (encs x)).foldl (fun t (p, v) => t.setIfInBounds p v) a.tmps, defers := [] } W)
    (hbody : ∀ (l : Nat) (pre : List α) (x : α) (a' : Act) (W : World), I pre W → Ax x a' W → Gd (pre ++ [x]) → body.wpIn (F.inRound l) (n - 1 - 1) P (newPost w.heap.size Kp I (pre ++ [x]) W) a' W)
    (hdone : ∀ (D : Nat) (xs : List α) (W : World), w.heap.size ≤ D → Sx xs → I xs W → W.heap[D]? = some (.deferred (some [])) → Q .normal { a with defers := { target := .collected D, args := #[] } :: a.defers } W) :
    (Code.rangeFunc g ps assign body).wpIn F n P Q a w := by
  refine wpIn_rangeFunc fun fn hfn => ?_
  rw [hro]
  let rec' : LoopState → Loop := fun st => { state := st, pending := none, fn, tmps := a.tmps, params := ps, assign, body, defers := w.heap.size }
  let W1 : World := (w.alloc (.deferred (some []))).alloc (.loop (rec' .ready))
  have hsz : W1.heap.size = w.heap.size + 2 := by simp [W1]
  have hL : W1.heap[w.heap.size + 1]? = some (.loop (rec' .ready)) := by
    have h := World.alloc_heap_new (w.alloc (.deferred (some []))) (.loop (rec' .ready))
    rwa [World.size_alloc] at h
  have hD : W1.heap[w.heap.size]? = some (.deferred (some [])) := (Below.heap_alloc (w.alloc (.deferred (some []))) _ _ (by simp)).trans (World.alloc_heap_new w _)
  have hB1 : Below w0.heap.size w0 W1 := hw0.trans ((((Below.refl _ w).alloc (Nat.le_refl _) _).alloc (by simp) _).mono hw0.size)
  have hI1 : I [] W1 := hI.alloc _ (hI.alloc _ h0)
  refine ⟨w.heap.size + 1, [{ target := .collected w.heap.size, args := #[] }], W1, { target := .fn (.func gf) lb, args := #[.func (.yield (w.heap.size + 1)) #[] #[]] }, W1, gf,
    #[.func (.yield (w.heap.size + 1)) #[] #[]] ++ lb, W1, run_enterLoop_outer _ _ _ _ _, ?_, ?_, ?_, fun _ => h1, ?_⟩
  · simp only [resolve, hg]; simp [go_sem]
  · intro f' hf'; simp [Target.leads] at hf'; exact hf' ▸ hFg
  · simp [invoke, go_sem, eg]
  clear_value W1
  refine (hseq (w.heap.size + 1) (fun pre W => I pre W ∧ W.heap[w.heap.size + 1]? = some (.loop (rec' .ready)) ∧ W.heap[w.heap.size]? = some (.deferred (some []))) W1 hB1 ?_ ?_ ⟨hI1, hL, hD⟩).mono ?_
  · rintro s A B ⟨i, x, y⟩ hgr
    exact ⟨hI s A B none i hgr (fun r e => by cases e), (hgr.block _ (Array.getElem?_eq_some_iff.1 x).1 (by simp)).trans x, (hgr.block _ (Array.getElem?_eq_some_iff.1 y).1 (by simp)).trans y⟩
  · rintro pre x W ⟨hi, hl, hk⟩ hlen
    refine ⟨fn, _, assign, body, run_yield (P := P) (args := encs x) hl (hps x), roundIn_of_wpIn hfn (wpIn_mono (hassign _ pre x W hi hlen) ?_)⟩
    rintro e a' W' hp
    cases e with
    | ret => exact hp.elim
    | exit id => exact hp.elim
    | goto t => exact hp.elim
    | panic ch => exact hp.elim
    | outgrown => exact hp.elim
    | normal =>
    obtain ⟨hkf, hkp', hi', hax⟩ := hp
    have hl' := hkf.same _ _ (by omega) hl rfl
    have hk' := hkf.same _ _ (Nat.le_refl _) hk rfl
    have hlt : w.heap.size + 1 < W'.heap.size := (Array.getElem?_eq_some_iff.1 hl').1
    refine ⟨_, run_beginRound hl' rfl, ?_⟩
    have hl2 : (W'.putObj (w.heap.size + 1) (.loop (rec' .busy))).heap[w.heap.size + 1]? = some (.loop (rec' .busy)) := World.putObj_heap_same hlt
    have hk2 : (W'.putObj (w.heap.size + 1) (.loop (rec' .busy))).heap[w.heap.size]? = some (.deferred (some [])) := (World.putObj_heap_other (by omega)).trans hk'
    refine wpIn_mono (hbody _ pre x a' _ (hI.putObj _ hi' (by omega) hl' rfl) ((hAx x a').putObj (s := ()) _ hax (by omega) hl' rfl) hlen) ?_
    rintro e a3 W3 hp
    cases e with
    | normal =>
      obtain ⟨hk3, hkp, hi3⟩ := hp
      have hl3 := hk3.same _ _ (by omega) hl2 rfl
      have hd3 := hk3.same _ _ (Nat.le_refl _) hk2 rfl
      exact ⟨_, _, run_endRound (P := P) none hl3, rfl, ⟨hI.putObj _ hi3 (by omega) hl3 rfl, World.putObj_heap_same (Array.getElem?_eq_some_iff.1 hl3).1, (World.putObj_heap_other (by omega)).trans hd3⟩,
        hKt (hKt (hKt hkp' (hKb _ _ _ _ (by omega) hl' rfl rfl)) hkp) (hKb _ _ _ _ (by omega) hl3 rfl rfl)⟩
    | ret => exact hp.elim
    | exit id => exact hp.elim
    | goto t => exact hp.elim
    | panic ch => exact hp.elim
    | outgrown => exact hp.elim
  · rintro e W2 ⟨⟨v, rfl⟩, xs, hS, hi, hl, hk⟩
    exact ⟨none, _, run_endLoop (P := P) hl (by simp [rec']), hdone _ xs _ (Nat.le_refl _) hS (hI.putObj _ hi (by omega) hl rfl) ((World.putObj_heap_other (by omega)).trans hk)⟩
attribute [local go_sem] Oper.semAt_some
def encL2 (x : Int × List UInt8) : Array Value := #[.int .i64 x.1, .string ⟨x.2.toArray⟩]
/-- The numbers and the values of so many levels. -/
def valsL (u : List UInt8) (w : Nat) : Nat → List (Int × List UInt8)
  | 0 => [(0, valB u w 0)]
  | n + 1 => valsL u w n ++ [(((n + 1 : Nat) : Int), valB u w (n + 1))]
theorem valsL_pre (u : List UInt8) (w : Nat) : ∀ n m, n ≤ m → valsL u w n <+: valsL u w m
  | n, 0, h => by
    obtain rfl : n = 0 := by omega
    exact List.prefix_rfl
  | n, m + 1, h => by
    by_cases h' : n = m + 1
    · subst h'; exact List.prefix_rfl
    · exact (valsL_pre u w n m (by omega)).trans ⟨_, rfl⟩
set_option maxRecDepth 100000 in
set_option maxHeartbeats 8000000 in
theorem values1_in (m : Nat) (hm1 : 1 ≤ m) (lr Bn : Nat) (lv wd : Nat) (u : List UInt8) (hl : lv ≤ 200) (hw : wd ≤ 16) (hu : u.length ≤ 1000) (J : List (Int × List UInt8) → World → Prop) (w0 W : World) (hJ : StandsNew J)
    (hY : ∀ pre x W1, J pre W1 → (pre ++ [x] <+: valsL u wd lv) → YieldAt Fence.wide (m - 1) Tryd.prog lr (encL2 x) W1 fun e W' => e = .returned (.bool true) ∧ J (pre ++ [x]) W' ∧ KpB w0.heap.size Bn W1 W')
    (hb : W.heap[Bn]? = some (.cells #[.int .i64 lv, .int .i64 wd, .string ⟨u.toArray⟩] 28)) (hSB : w0.heap.size ≤ Bn) (hW : W14p w0) (hB : Below w0.heap.size w0 W) (h0 : J [] W) :
    CallsIn Fence.wide m Tryd.prog 55 #[.func (.yield lr) #[] #[], .pointer (some ⟨Bn, 0, none⟩)] W fun e W' => (∃ v, e = .returned v) ∧ J (valsL u wd lv) W' := by
  have HJ := Lib.hid hJ
  have HY := Lib.hid hY
  have HW := Lib.hid hW
  have HSB := Lib.hid hSB
  have HCE : Hid (∀ W' : World, W'.heap[Bn]? = some (.cells #[.int .i64 lv, .int .i64 wd, .string ⟨u.toArray⟩] 28) → W'.cell? ⟨Bn, 0, none⟩ = some (.int .i64 lv) ∧ W'.cell? ⟨Bn, 1, none⟩ = some (.int .i64 wd) ∧ W'.cell? ⟨Bn, 2, none⟩ = some (.string ⟨u.toArray⟩)) := Lib.hid fun W' z => ⟨by rw [cell_of 0 z]; rfl, by rw [cell_of 1 z]; rfl, by rw [cell_of 2 z]; rfl⟩
  have CE : Hid (∀ W, Calls Tryd.prog 36 #[.string ⟨u.toArray⟩] W fun e w' => e = .returned (.string ⟨(esc u).toArray⟩) ∧ Below W.heap.size W w') := Lib.hid fun W => escape_c u W (by omega)
  have hel := esc_le u
  have CP : Hid (∀ W, Below w0.heap.size w0 W → Calls Tryd.prog 33 #[.string ⟨(esc u).toArray⟩] W fun e w' => e = .returned (.tuple #[.string ⟨(putOut (esc u)).1.toArray⟩, .int .i64 (putOut (esc u)).2]) ∧ Below W.heap.size W w') := Lib.hid fun W hb => evPut_c (esc u) W (HW.out.below hb).1 (HW.out.below hb).2 (by omega)
  have HV0 : Hid ((putOut (esc u)).1 = valB u wd 0) := Lib.hid rfl
  have HB0 := Lib.hid (And.intro hb (And.intro hB h0))
  obtain ⟨c0, c1, c2⟩ := HCE.out W hb
  clear hJ hY hW hB h0 hSB hb
  refine callsIn_of_wp Tryd.func55 rfl trivial ?_ rfl
  simp only [Tryd.ntmps55, List.size_toArray, List.length_cons, List.length_nil, Nat.reduceAdd, Nat.reduceSub, Array.replicate_succ, Array.replicate_zero, List.push_toArray, List.append_toArray, List.nil_append, List.cons_append]
  gi_wp2_with fail
  refine ⟨trivial, (callsIn_wide.2 (CE.out _)).mono ?_⟩
  rintro e w1 ⟨rfl, hb1⟩
  have HB1 := Lib.hid (And.intro (HB0.out.2.1.trans (hb1.mono HB0.out.2.1.size)) (And.intro (HJ.out _ _ _ HB0.out.2.2 (hb1.gr none)) ((hb1.block Bn (lt_of HB0.out.1)).trans HB0.out.1)))
  clear hb1 c0 c1 c2
  gi_wp2_with fail
  refine ⟨trivial, (callsIn_wide.2 (CP.out _ HB1.out.1)).mono ?_⟩
  rintro e w2 ⟨rfl, hb2⟩
  have HB2 := Lib.hid (And.intro (HB1.out.1.trans (hb2.mono HB1.out.1.size)) (And.intro (HJ.out _ _ _ HB1.out.2.1 (hb2.gr none)) ((hb2.block Bn (lt_of HB1.out.2.2)).trans HB1.out.2.2)))
  clear hb2
  rw [HV0.out]
  have hpre0 : [] ++ [((0 : Int), valB u wd 0)] <+: valsL u wd lv := valsL_pre u wd 0 lv (Nat.zero_le _)
  obtain ⟨fn, tmps, assign, body, hy, hR⟩ := HY.out [] (0, valB u wd 0) _ HB2.out.2.1 hpre0
  unfold encL2 at hy
  dsimp only at hy
  have HR := Lib.hid hR
  clear hR
  generalize (putOut (esc u)).2 = pe at *
  gi_wp2
  refine HR.out.mono ?_
  rintro e W3 ⟨rfl, hJ3, hk3⟩
  have HB3 := Lib.hid (And.intro (HB2.out.1.trans hk3.1) (And.intro hJ3 (hk3.2.trans HB2.out.2.2)))
  obtain ⟨c0, c1, c2⟩ := HCE.out W3 HB3.out.2.2
  clear hJ3 hk3 hy
  gi_wp2
  gi_loopw [19] (fun b wr => ∃ i : Nat, i ≤ lv ∧ b = .int .i64 i ∧ Hid (Below w0.heap.size w0 wr ∧ J (valsL u wd i) wr ∧ wr.heap[Bn]? = some (.cells #[.int .i64 lv, .int .i64 wd, .string ⟨u.toArray⟩] 28)))
    (fun b _ => lv - (intOf b).toNat)
  case atStart => exact ⟨0, Nat.zero_le _, rfl, HB3⟩
  case round =>
    obtain ⟨i, hi, rfl, HK⟩ := hrel
    clear c0 c1 c2
    obtain ⟨d0, d1, d2⟩ := HCE.out wr HK.out.2.2
    by_cases hlt : i < lv
    · have hlti : (i : Int) < (lv : Int) := by omega
      have HLT := Lib.hid hlt
      have hr := refB_le i (by omega)
      have CRi : Hid (∀ W, Below wr.heap.size wr W → Calls Tryd.prog 28 #[.int .i64 i] W fun e w' => e = .returned (.string ⟨(refB i).toArray⟩) ∧ Hid (Below wr.heap.size wr w') ∧ w'.cell? ⟨Bn, 1, none⟩ = some (.int .i64 wd)) := Lib.hid fun W hb => by
        have h1 : Below w0.heap.size w0 W := HK.out.1.trans (hb.mono HK.out.1.size)
        refine (lref_c i (by omega) W (HW.out.below h1).2).mono fun e w' ⟨he, hb2⟩ => ?_
        have h2 := hb.trans (hb2.mono hb.size)
        exact ⟨he, Lib.hid h2, (HCE.out w' ((h2.block Bn (lt_of HK.out.2.2)).trans HK.out.2.2)).2.1⟩
      have hV : valB u wd (i + 1) = Lib.repeatL (refB i) wd := by unfold valB; rw [if_neg (by omega), ← repB_eq]; rfl
      have CPi : Hid (∀ W, Hid (Below wr.heap.size wr W) → Calls Tryd.prog 56 #[.string ⟨(refB i).toArray⟩, .int .i64 wd] W fun e w' => e = .returned (.string ⟨(valB u wd (i + 1)).toArray⟩) ∧ Hid (Below wr.heap.size wr w')) := Lib.hid fun W hb => by
        have hln : (⟨(refB i).toArray⟩ : ByteArray).size * wd ≤ 140737488355328 := by
          have h1 : (⟨(refB i).toArray⟩ : ByteArray).size = (refB i).length := by simp [ByteArray.size]
          rw [h1]
          have : (refB i).length * wd ≤ 6 * 16 := Nat.mul_le_mul hr hw
          omega
        refine (Tryd.strings_Repeat ⟨(refB i).toArray⟩ wd W (by omega) hln).mono fun e w' ⟨he, hb2⟩ => ⟨?_, Lib.hid (hb.out.trans (hb2.mono hb.out.size))⟩
        rw [he, hV]
      have HYI : Hid (∀ W5, Hid (Below wr.heap.size wr W5) → YieldAt Fence.wide (m - 1) Tryd.prog lr #[.int .i64 ((i : Int) + 1), .string ⟨(valB u wd (i + 1)).toArray⟩] W5 fun e W' => e = .returned (.bool true) ∧ J (valsL u wd (i + 1)) W' ∧ KpB w0.heap.size Bn W5 W') := Lib.hid fun W5 hb => by
        have hpre : valsL u wd i ++ [(((i + 1 : Nat) : Int), valB u wd (i + 1))] <+: valsL u wd lv := valsL_pre u wd (i + 1) lv (by omega)
        have := HY.out (valsL u wd i) (((i + 1 : Nat) : Int), valB u wd (i + 1)) W5 (HJ.out _ _ _ HK.out.2.1 (hb.out.gr none)) hpre
        unfold encL2 at this
        rw [show ((i + 1 : Nat) : Int) = (i : Int) + 1 by omega] at this
        exact this
      have HD : Hid (Below wr.heap.size wr wr.drew) := Lib.hid (Below.drew (Below.refl _ wr))
      clear hV hr
      generalize valB u wd (i + 1) = V at *
      generalize refB i = rb at *
      have hmix : Tryd.prog.follows .mixedOrders = true := by kernel_rfl
      have hwr : IntKind.i64.wrap ((i : Int) + 1) = (i : Int) + 1 := by rw [IntKind.wrap_i64]; omega
      gi_wp2_with fail
      gi_region_with_o (first | (refine ⟨trivial, ?_⟩; gi_at_call 28; refine (callsIn_wide.2 (CRi.out _ HD.out)).mono ?_; rintro e w4 ⟨rfl, hb4, hc4⟩) | (refine ⟨trivial, ?_⟩; gi_at_call 56; refine (callsIn_wide.2 (CPi.out _ hb4)).mono ?_; rintro e w5 ⟨rfl, hb5⟩; obtain ⟨fn5, tmps5, assign5, body5, hy5, hR5⟩ := HYI.out w5 hb5) | (refine hR5.mono ?_; rintro e w6 ⟨rfl, hJ6, hk6⟩))
      all_goals clear hy5 hR5
      all_goals (try simp only [Act.put, List.setIfInBounds_toArray])
      all_goals gi_wp2
      all_goals refine ⟨⟨i + 1, by have := HLT.out; omega, by go_num, Lib.hid ⟨(HK.out.1.trans (hb5.out.mono HK.out.1.size)).trans hk6.1, hJ6, hk6.2.trans ((hb5.out.block Bn (lt_of HK.out.2.2)).trans HK.out.2.2)⟩⟩, ?_⟩
      all_goals (have := HLT.out; simp [intOf]; omega)
    · obtain rfl : i = lv := by omega
      have hni : ¬ (i : Int) < (i : Int) := by omega
      gi_wp2
      go_end0
      exact ⟨⟨_, rfl⟩, HK.out.2.1⟩
attribute [local go_sem] Oper.semAt_some
theorem Bld.grown {R b : Nat} {l : List UInt8} {W W' : World} {row : Option Nat} (h : Bld R b l W) (hg : W.grownBy W' row) (hb : ∀ r, row = some r → r ≠ b ∧ (r < R ∨ ∃ o : Obj, W.heap[r]? = some o ∧ o.isCells = false)) : Bld R b l W' := by
  have aux : ∀ p, BldP p R b l W → BldP p R b l W' := by
    rintro p ⟨hbR, v, hh, ho⟩
    refine ⟨hbR, v, (hg.block b (lt_of hh) (fun e => (hb b e.symm).1 rfl)).trans hh, ho.kept hg ?_⟩
    cases hv : v.ownBlock with
    | none => exact Or.inl rfl
    | some k =>
      refine Or.inr fun e => ?_
      rcases (hb k e.symm).2 with hlt | ⟨o, h1, h2⟩
      · have := (ho.lt k hv).1; omega
      · obtain ⟨_, ⟨hv', _⟩ | ⟨g, cap, cur, hv', hg', hh', r⟩⟩ := ho
        · rw [hv'] at hv; simp [Value.ownBlock] at hv
        · rw [hv'] at hv
          simp [Value.ownBlock] at hv
          subst hv
          rw [hh'] at h1
          cases h1
          simp [Obj.isCells] at h2
  rcases h with h | h
  · exact Or.inl (aux _ h)
  · exact Or.inr (aux _ h)
set_option maxRecDepth 100000 in
set_option maxHeartbeats 4000000 in
theorem values_c (v : Array Value) (lv wd : Nat) (u : List UInt8) (w : World) : Calls Tryd.prog 26 #[.agg #[.int .i64 lv, .int .i64 wd, .string ⟨u.toArray⟩]] w fun e w' => e = .returned (.func (.func 55) #[] #[.pointer (some ⟨w.heap.size, 0, none⟩)]) ∧ w' = w.alloc (.cells #[.int .i64 lv, .int .i64 wd, .string ⟨u.toArray⟩] 28) := by
  go_enter Tryd.func26, Tryd.ntmps26
  go_wp2
  go_ret
  exact ⟨rfl, rfl⟩
def begB : List UInt8 := [60, 33, 68, 79, 67, 84, 89, 80, 69, 32, 97, 32, 91]
def declP (x : Int × List UInt8) : List UInt8 := declB x.1.toNat x.2
theorem valsL_body (u : List UInt8) (w : Nat) : ∀ n, (valsL u w n).flatMap declP = bodyB u w (n + 1)
  | 0 => by simp [valsL, bodyB, declP]
  | n + 1 => by
    rw [valsL, List.flatMap_append, valsL_body u w n]
    conv => rhs; rw [bodyB]
    simp [declP]
theorem valsL_mem (u : List UInt8) (w : Nat) : ∀ n, ∀ x ∈ valsL u w n, ∃ i : Nat, i ≤ n ∧ x = ((i : Int), valB u w i)
  | 0, x, hx => ⟨0, Nat.le_refl _, by simpa [valsL] using hx⟩
  | n + 1, x, hx => by
    rw [valsL] at hx
    rcases List.mem_append.1 hx with h | h
    · obtain ⟨i, hi, e⟩ := valsL_mem u w n x h
      exact ⟨i, by omega, e⟩
    · exact ⟨n + 1, Nat.le_refl _, by simpa using h⟩
def LgI (S Bn : Nat) (w : World) (PL : Obj) (pre : List (Int × List UInt8)) (W : World) : Prop := Bld (S + 1) S (begB ++ pre.flatMap declP) W ∧ Below S w W ∧ S + 1 ≤ W.heap.size ∧ W.heap[Bn]? = some PL
theorem lgI_own (S Bn D : Nat) (w : World) (cs : Array Value) (T : TypeId) (hS : S ≤ w.heap.size) (hD : S + 1 ≤ D) : OwnFrom D (LgI S Bn w (.cells cs T)) := by
  rintro pre W W' row ⟨h1, h2, h3, h4⟩ hg hr
  refine ⟨h1.grown hg fun r e => ⟨by have := (hr r e).1; omega, Or.inr (hr r e).2⟩, h2.grown hg (by have := h2.size; omega) fun k hk => by have := (hr k hk).1; omega, Nat.le_trans h3 hg.size, (hg.block Bn (lt_of h4) fun e => ?_).trans h4⟩
  obtain ⟨_, o, h5, h6⟩ := hr Bn e.symm
  rw [h4] at h5
  cases h5
  simp [Obj.isCells] at h6
set_option maxRecDepth 100000 in
set_option maxHeartbeats 16000000 in
theorem lDoc_c (lv wd : Nat) (u : List UInt8) (hl : lv ≤ 200) (hw : wd ≤ 16) (hu : u.length ≤ 1000) (hc : chkB lv wd u = 0) (w : World) (hW : W14p w) :
    Calls Tryd.prog 8 #[.agg #[.int .i64 lv, .int .i64 wd, .string ⟨u.toArray⟩]] w fun e w' => e = .returned (.tuple #[.string ⟨(docB u wd lv).toArray⟩, .int .i64 0]) ∧ Below w.heap.size w w' := by
  have HB := Lib.hid ((Below.refl _ w).alloc (Nat.le_refl _) (.cells #[.int .i64 lv, .int .i64 wd, .string ⟨u.toArray⟩] 28))
  have CC := Lib.hid (lCheck_c lv wd u _ (hW.below HB.out))
  rw [hc] at CC
  have HW := Lib.hid hW
  have hs0 : (w.alloc (.cells #[.int .i64 lv, .int .i64 wd, .string ⟨u.toArray⟩] 28)).heap.size = w.heap.size + 1 := by simp
  have HC : Hid (∀ W, Below (w.heap.size + 1) (w.alloc (.cells #[.int .i64 lv, .int .i64 wd, .string ⟨u.toArray⟩] 28)) W → W.cell? ⟨w.heap.size, 0, none⟩ = some (.int .i64 lv) ∧ W.cell? ⟨w.heap.size, 1, none⟩ = some (.int .i64 wd) ∧ W.cell? ⟨w.heap.size, 2, none⟩ = some (.string ⟨u.toArray⟩)) := Lib.hid fun W hb => by
    have z := (hb.block _ (by omega)).trans (hp_new w (.cells #[.int .i64 lv, .int .i64 wd, .string ⟨u.toArray⟩] 28))
    exact ⟨by rw [cell_of 0 z]; rfl, by rw [cell_of 1 z]; rfl, by rw [cell_of 2 z]; rfl⟩
  clear hW hc
  refine (callsIn_wide (n := 5)).1 ?_
  refine callsIn_of_wp_marks Tryd.func8 rfl trivial ?_ rfl
  simp only [Tryd.ntmps8, List.size_toArray, List.length_cons, List.length_nil, Nat.reduceAdd, Nat.reduceSub, Array.replicate_succ, Array.replicate_zero, List.push_toArray, List.append_toArray, List.nil_append, List.cons_append]
  gi_wp2_with fail
  refine ⟨trivial, (callsIn_wide.2 CC.out).mono ?_⟩
  rintro e w1 ⟨rfl, hb1⟩
  rw [hs0] at hb1
  obtain ⟨c0, c1, c2⟩ := HC.out w1 hb1
  have HS1 := Lib.hid hb1
  have hBld := Bld.fresh (w1.heap.size + 1) w1 (by omega)
  have CWS := Lib.hid (writeString_r (w1.heap.size + 1) w1.heap.size [] [60, 33, 68, 79, 67, 84, 89, 80, 69, 32, 97, 32, 91] _ hBld (by decide) (by simp))
  clear hb1 hBld
  gi_wp2_with fail
  refine ⟨trivial, (callsIn_wide.2 CWS.out).mono ?_⟩
  rintro e w2 ⟨rfl, hb2, hf2, hk2⟩
  have HB2 := Lib.hid (And.intro hb2 (And.intro hf2 hk2))
  have hbw2 : Below w1.heap.size w1 w2 := ((Below.refl _ w1).alloc (Nat.le_refl _) _).trans (hf2.below (by omega) (Nat.le_refl _))
  have hbp2 := HS1.out.trans (hbw2.mono (by have := HS1.out.size; rw [hs0] at this; exact this))
  obtain ⟨d0, d1, d2⟩ := HC.out w2 hbp2
  have HBW2 := Lib.hid (And.intro hbw2 hbp2)
  clear hb2 hf2 hk2 hbw2 hbp2 c0 c1 c2
  gi_wp2_with fail
  refine ⟨trivial, (callsIn_wide.2 (values_c #[] lv wd u _)).mono ?_⟩
  rintro e w3 ⟨rfl, rfl⟩
  gi_wp2_with fail
  have hBld : Bld (w1.heap.size + 1) w1.heap.size begB (w2.alloc (.cells #[.int .i64 lv, .int .i64 wd, .string ⟨u.toArray⟩] 28)) := HB2.out.1.alloc _
  have hB0 : Below w1.heap.size w1 (w2.alloc (.cells #[.int .i64 lv, .int .i64 wd, .string ⟨u.toArray⟩] 28)) := HBW2.out.1.alloc HBW2.out.1.size _
  have hsz : w1.heap.size + 1 ≤ (w2.alloc (.cells #[.int .i64 lv, .int .i64 wd, .string ⟨u.toArray⟩] 28)).heap.size := by have := HB2.out.2.1.size; simp at this ⊢; omega
  have hszb : w2.heap.size < (w2.alloc (.cells #[.int .i64 lv, .int .i64 wd, .string ⟨u.toArray⟩] 28)).heap.size := by simp
  have hbox : (w2.alloc (.cells #[.int .i64 lv, .int .i64 wd, .string ⟨u.toArray⟩] 28)).heap[w2.heap.size]? = some (.cells #[.int .i64 lv, .int .i64 wd, .string ⟨u.toArray⟩] 28) := hp_new w2 _
  have hSB : w1.heap.size ≤ w2.heap.size := HBW2.out.1.size
  have hW1 : W14p w1 := HW.out.below (HB.out.trans (HS1.out.mono (by omega)))
  have HSEQ : SeqNew Fence.wide (5 - 1) Tryd.prog 55 #[.pointer (some ⟨w2.heap.size, 0, none⟩)] encL2 (KpB w1.heap.size w2.heap.size) (fun ys => ys = valsL u wd lv) (fun ys => ys <+: valsL u wd lv) (w2.alloc (.cells #[.int .i64 lv, .int .i64 wd, .string ⟨u.toArray⟩] 28)) := fun lr J W hW hJ hY h0 =>
    (values1_in 4 (by omega) lr w2.heap.size lv wd u hl hw hu J w1 W hJ hY ((hW.block _ hszb).trans hbox) hSB hW1 (hB0.trans (hW.mono (by omega))) h0).mono fun e W' ⟨hv, hj⟩ => ⟨hv, _, rfl, hj⟩
  have HWW := Lib.hid hW1
  have HOW : OwnFrom (w2.alloc (.cells #[.int .i64 lv, .int .i64 wd, .string ⟨u.toArray⟩] 28)).heap.size (LgI w1.heap.size w2.heap.size w1 (.cells #[.int .i64 lv, .int .i64 wd, .string ⟨u.toArray⟩] 28)) := lgI_own _ _ _ _ _ _ (Nat.le_refl _) hsz
  have HI0 : LgI w1.heap.size w2.heap.size w1 (.cells #[.int .i64 lv, .int .i64 wd, .string ⟨u.toArray⟩] 28) [] (w2.alloc (.cells #[.int .i64 lv, .int .i64 wd, .string ⟨u.toArray⟩] 28)) := ⟨by simpa using hBld, hB0, hsz, hbox⟩
  have HFACT := Lib.hid (And.intro hB0 (And.intro hsz (And.intro hszb hSB)))
  clear hBld hW1 hbox d0 d1 d2
  generalize hWW0 : (w2.alloc (.cells #[.int .i64 lv, .int .i64 wd, .string ⟨u.toArray⟩] 28)) = W0 at *
  refine wpIn_rangeFunc_new rfl (by omega) (gf := 55) (lb := #[.pointer (some ⟨w2.heap.size, 0, none⟩)]) rfl trivial (enters_of Tryd.func55 (by kernel_rfl) rfl) HSEQ KpB.trans
    (fun W l o o' hl' ho _ _ => kpB_b (D := W0.heap.size) (by omega) (by omega) W l o o' hl' ho) (Below.refl _ _) (fun _ => rfl)
    (LgI w1.heap.size w2.heap.size w1 (.cells #[.int .i64 lv, .int .i64 wd, .string ⟨u.toArray⟩] 28)) HOW HI0
    (fun x a' _ => a' = { tmps := #[.agg #[.int .i64 lv, .int .i64 wd, .string ⟨u.toArray⟩], .pointer (some ⟨w.heap.size, 0, none⟩), .string ⟨#[]⟩, .int .i64 0, .int .i64 0, .pointer (some ⟨w1.heap.size, 0, none⟩), .int .i64 x.1, .string ⟨x.2.toArray⟩, .agg #[.int .i64 lv, .int .i64 wd, .string ⟨u.toArray⟩], .int .i64 0, .int .i64 0, .bool false, undef, .tuple #[.int .i64 13, .nilIface], .agg #[.int .i64 lv, .int .i64 wd, .string ⟨u.toArray⟩], .func (.func 55) #[] #[.pointer (some ⟨w2.heap.size, 0, none⟩)], .int .i64 x.1, .string ⟨x.2.toArray⟩, undef, undef, undef, undef, undef, undef, undef, undef, undef, undef, undef], defers := [] }) ?hAx ?assign ?body ?done
  case hAx => exact fun x a' _ W W' row h _ _ => h
  case assign =>
    rintro lr pre x W hI hgd
    unfold encL2
    gi_wp2
    exact ⟨KeepsFrom.refl _ _, ⟨Below.refl _ _, rfl⟩, hI, trivial⟩
  case body =>
    rintro lr pre x a' W ⟨hI1, hI2, hI3, hI4⟩ rfl hgd
    have hx : x ∈ valsL u wd lv := hgd.subset (by simp)
    obtain ⟨i, hi, rfl⟩ := valsL_mem u wd lv x hx
    have hvl := valB_le u wd i hu hw (by omega)
    have hlen : (begB ++ pre.flatMap declP).length + (declB i (valB u wd i)).length ≤ 140737488355328 := by
      obtain ⟨r, hr⟩ := hgd
      have h1 := congrArg (fun l => (l.flatMap declP).length) hr
      simp only [List.flatMap_append, List.length_append, valsL_body] at h1
      have h2 := bodyB_le u wd hu hw (lv + 1) (by omega)
      have h3 : ((([((i : Int), valB u wd i)] : List (Int × List UInt8)).flatMap declP)).length = (declB i (valB u wd i)).length := by simp [declP]
      have h4 : begB.length = 13 := rfl
      rw [List.length_append, h4]
      omega
    have HX : Hid ((begB ++ pre.flatMap declP) ++ declB i (valB u wd i) = begB ++ (pre ++ [((i : Int), valB u wd i)]).flatMap declP) := Lib.hid (by simp [declP])
    have CD := Lib.hid (ldecl_c i (valB u wd i) (by omega) (by omega) W (HWW.out.below hI2).2)
    have HEND : Hid (∀ W' l', Bld (w1.heap.size + 1) w1.heap.size l' W' → l' = begB ++ (pre ++ [((i : Int), valB u wd i)]).flatMap declP → Fr (w1.heap.size + 1) w1.heap.size W W' → Ko w1.heap.size W W' → KeepsFrom W0.heap.size W W' ∧ KpB w1.heap.size w2.heap.size W W' ∧ LgI w1.heap.size w2.heap.size w1 (.cells #[.int .i64 lv, .int .i64 wd, .string ⟨u.toArray⟩] 28) (pre ++ [((i : Int), valB u wd i)]) W') := Lib.hid fun W' l' h1 h2 h3 h4 => by
      have h5 : W'.heap[w2.heap.size]? = some (.cells #[.int .i64 lv, .int .i64 wd, .string ⟨u.toArray⟩] 28) := h4 _ _ (by have := HFACT.out.2.2.2; have := HB2.out.1.lt; omega) (fun vs f e => by cases e) hI4
      exact ⟨⟨h3.size, fun k o hk ho hc => h4 k o (by have := HFACT.out.2.1; omega) (fun vs f e => by rw [e] at hc; simp [Obj.isCells] at hc) ho⟩, ⟨h3.below (by omega) (Nat.le_refl _), h5.trans hI4.symm⟩, by rw [← h2]; exact h1, hI2.trans (h3.below (by omega) (Nat.le_refl _)), Nat.le_trans hI3 h3.size, h5⟩
    have HI := Lib.hid (And.intro hI1 (And.intro hI2 hI3))
    have HLN := Lib.hid hlen
    clear hI1 hI2 hI3 hI4 hlen hvl hx hgd
    generalize hdv : declB i (valB u wd i) = DV at *
    dsimp only
    gi_wp2_with fail
    refine ⟨trivial, (CallsIn.inRound lr (callsIn_wide.2 CD.out)).mono ?_⟩
    rintro e W4 ⟨rfl, hb4⟩
    have CW := Lib.hid (writeString_r (w1.heap.size + 1) w1.heap.size (begB ++ pre.flatMap declP) DV W4 (HI.out.1.kept hb4) HLN.out (Nat.le_trans HI.out.2.2 hb4.size))
    have HF4 : Hid (Fr (w1.heap.size + 1) w1.heap.size W W4 ∧ Ko w1.heap.size W W4) := Lib.hid ⟨Fr.ofBelow (hb4.mono HI.out.2.2), Ko.ofBelow hb4⟩
    clear hb4
    gi_wp2_with fail
    refine ⟨trivial, (CallsIn.inRound lr (callsIn_wide.2 CW.out)).mono ?_⟩
    rintro e W5 ⟨rfl, hb5, hf5, hk5⟩
    have HE := Lib.hid (HEND.out _ _ hb5 HX.out (HF4.out.1.trans hf5) (HF4.out.2.trans hk5))
    clear hb5 hf5 hk5
    gi_wp2
    exact HE.out
  case done =>
    rintro D ys W hD rfl ⟨hI1, hI2, hI3, hI4⟩ hK
    rw [valsL_body] at hI1
    have hbp := HS1.out.trans (hI2.mono (by have := HS1.out.size; rw [hs0] at this; exact this))
    obtain ⟨d0, d1, d2⟩ := HC.out W hbp
    have hrl := refB_le lv hl
    have hbl := bodyB_le u wd hu hw (lv + 1) (by omega)
    have CR := Lib.hid (lref_c lv hl W (HWW.out.below hI2).2)
    have HD : Hid (docB u wd lv = (begB ++ bodyB u wd (lv + 1)) ++ ([93, 62, 60, 97, 62] ++ refB lv ++ [60, 47, 97, 62])) := Lib.hid (by simp [docB, begB])
    have hs1 : ∀ w : World, (Op.stringOp .add ⟨#[93, 62, 60, 97, 62]⟩ ⟨(refB lv).toArray⟩).run Tryd.prog w = .ok (.string ⟨([93, 62, 60, 97, 62] ++ refB lv).toArray⟩) w := fun w => run_sop (w := w) [93, 62, 60, 97, 62] (refB lv) (by simp; omega)
    have hs2 : ∀ w : World, (Op.stringOp .add ⟨([93, 62, 60, 97, 62] ++ refB lv).toArray⟩ ⟨#[60, 47, 97, 62]⟩).run Tryd.prog w = .ok (.string ⟨([93, 62, 60, 97, 62] ++ refB lv ++ [60, 47, 97, 62]).toArray⟩) w := fun w => run_sop (w := w) _ [60, 47, 97, 62] (by simp; omega)
    have HLN : Hid ((begB ++ bodyB u wd (lv + 1)).length + ([93, 62, 60, 97, 62] ++ refB lv ++ [60, 47, 97, 62]).length ≤ 140737488355328) := Lib.hid (by
      have h4 : begB.length = 13 := rfl
      simp only [List.length_append, List.length_cons, List.length_nil, h4]
      omega)
    have HALL := Lib.hid (And.intro hI1 (And.intro hI2 (And.intro hI3 (And.intro hD hK))))
    clear hI1 hI2 hI3 hI4 hD hK hbp hrl hbl
    generalize begB ++ bodyB u wd (lv + 1) = BB at *
    generalize [93, 62, 60, 97, 62] ++ refB lv ++ [60, 47, 97, 62] = T2 at *
    generalize [93, 62, 60, 97, 62] ++ refB lv = T1 at *
    generalize refB lv = rb at *
    gi_wp2_with fail
    refine ⟨trivial, (callsIn_wide.2 CR.out).mono ?_⟩
    rintro e W4 ⟨rfl, hb4⟩
    have CW := Lib.hid (writeString_r (w1.heap.size + 1) w1.heap.size BB T2 W4 (HALL.out.1.kept hb4) HLN.out (Nat.le_trans HALL.out.2.2.1 hb4.size))
    have H4 : Hid (Below w1.heap.size w1 W4 ∧ w1.heap.size + 1 ≤ W4.heap.size ∧ W4.heap[D]? = some (.deferred (some []))) := Lib.hid ⟨HALL.out.2.1.trans (hb4.mono HALL.out.2.1.size), Nat.le_trans HALL.out.2.2.1 hb4.size, (hb4.block D (Array.getElem?_eq_some_iff.1 HALL.out.2.2.2.2).1).trans HALL.out.2.2.2.2⟩
    have HDS : Hid (D ≠ w1.heap.size) := Lib.hid (by have := HALL.out.2.2.2.1; have := HFACT.out.2.1; omega)
    clear hb4
    gi_wp2_with fail
    refine ⟨trivial, (callsIn_wide.2 CW.out).mono ?_⟩
    rintro e W5 ⟨rfl, hb5, hf5, hk5⟩
    have CS := Lib.hid (string_r (w1.heap.size + 1) w1.heap.size (BB ++ T2) W5 hb5 (Nat.le_trans H4.out.2.1 hf5.size))
    have H5 : Hid (Below w1.heap.size w1 W5 ∧ W5.heap[D]? = some (.deferred (some []))) := Lib.hid ⟨H4.out.1.trans (hf5.below (by omega) (Nat.le_refl _)), hk5 D _ HDS.out (fun _ _ e => by cases e) H4.out.2.2⟩
    clear hb5 hf5 hk5
    gi_wp2_with fail
    refine ⟨trivial, (callsIn_wide.2 CS.out).mono ?_⟩
    rintro e W6 ⟨rfl, hf6, hk6⟩
    have H6 : Hid (Below w1.heap.size w1 W6 ∧ W6.heap[D]? = some (.deferred (some []))) := Lib.hid ⟨H5.out.1.trans (hf6.below (by omega) (Nat.le_refl _)), hk6 D _ HDS.out (fun _ _ e => by cases e) H5.out.2⟩
    clear hf6 hk6
    gi_wp2
    obtain ⟨hB6, hK6⟩ := H6.out
    have hSw : w.heap.size + 1 ≤ w1.heap.size := by have := HS1.out.size; rw [hs0] at this; exact this
    have hDS : w1.heap.size ≤ D := by have := HALL.out.2.2.2.1; have := HFACT.out.2.1; omega
    refine ⟨by simp, .inl ⟨_, _, rfl, run_takeDeferred hK6, ?_⟩⟩
    have hB7 : Below w.heap.size w (W6.putObj D (.deferred none)) := (HB.out.trans ((HS1.out.trans (hB6.mono hSw)).mono (by omega))).grown (grownBy_putObj' W6 D (.deferred none)) (by have := hB6.size; omega) (fun k e => by cases e; omega)
    refine ⟨.tuple #[.string ⟨(docB u wd lv).toArray⟩, .int .i64 0], ?_, ⟨rfl, hB7⟩⟩
    rw [HD.out]
    simp [results, Tryd.f8, go_sem]
set_option maxRecDepth 100000 in
set_option maxHeartbeats 4000000 in
theorem give_c (lv wd : Int) (u : List UInt8) (w : World) : Calls Tryd.prog 9 #[.agg #[.int .i64 lv, .int .i64 wd, .string ⟨u.toArray⟩]] w fun e w' => e = .returned (.agg #[.int .i64 lv, .int .i64 wd, .string ⟨u.toArray⟩]) ∧ Below w.heap.size w w' := by
  have HC : (w.alloc (.cells #[.int .i64 lv, .int .i64 wd, .string ⟨u.toArray⟩] 23)).heap.size = w.heap.size + 1 := by simp
  have hb := Lib.hid (((Below.refl w.heap.size w).alloc (Nat.le_refl _) (.cells #[.int .i64 lv, .int .i64 wd, .string ⟨u.toArray⟩] 23)).alloc (by simp) (.cells #[.int .i64 lv, .int .i64 wd, .string ⟨u.toArray⟩] 28))
  have hF := Lib.hid (hp_new (w.alloc (.cells #[.int .i64 lv, .int .i64 wd, .string ⟨u.toArray⟩] 23)) (.cells #[.int .i64 lv, .int .i64 wd, .string ⟨u.toArray⟩] 28))
  go_enter Tryd.func9, Tryd.ntmps9
  go_wp2
  have hi : (Tryd.prog.info? 28).map (·.size) = some 3 := by kernel_rfl
  obtain ⟨d, hu⟩ := isStruct_of (P := Tryd.prog) (t := 28) (by kernel_rfl)
  (try simp only [Exit.inBlock, Exit.then])
  refine bodyPost_ret (results_cell_row rfl _ _ (w.alloc (.cells #[.int .i64 lv, .int .i64 wd, .string ⟨u.toArray⟩] 23)).heap.size _ _ _ _ (by simp) hF.out hu rfl hi) rfl ⟨rfl, hb.out⟩
set_option maxRecDepth 100000 in
set_option maxHeartbeats 8000000 in
theorem lDoc_bad (lv wd : Int) (u : List UInt8) (hc : chkB lv wd u ≠ 0) (w : World) (hW : W14p w) :
    Calls Tryd.prog 8 #[.agg #[.int .i64 lv, .int .i64 wd, .string ⟨u.toArray⟩]] w fun e w' => e = .returned (.tuple #[.string ⟨#[]⟩, .int .i64 (chkB lv wd u)]) ∧ Below w.heap.size w w' := by
  have HB := Lib.hid ((Below.refl _ w).alloc (Nat.le_refl _) (.cells #[.int .i64 lv, .int .i64 wd, .string ⟨u.toArray⟩] 28))
  have CC := Lib.hid (lCheck_c lv wd u _ (hW.below HB.out))
  have hz : (chkB lv wd u == 0) = false := by simpa using hc
  clear hW hc
  generalize chkB lv wd u = c at *
  go_enter Tryd.func8, Tryd.ntmps8
  go_wp2_with fail
  refine CC.out.mono ?_
  rintro e w1 ⟨rfl, hb1⟩
  have HE := Lib.hid (HB.out.trans (hb1.mono HB.out.size))
  clear hb1
  go_wp2
  go_ret2
  exact ⟨rfl, HE.out⟩
set_option maxRecDepth 100000 in
set_option maxHeartbeats 4000000 in
theorem live45_c (w : World) (hW : W14p w) : Calls Tryd.prog 7 #[] w fun e w' => e = .returned (.bool true) ∧ Below w.heap.size w w' := by
  have CL : Hid (Calls Tryd.prog 12 #[.agg #[.int .i64 3, .int .i64 10, .string ⟨#[120]⟩]] w fun e w' => e = .returned (.int .i64 1000) ∧ Below w.heap.size w w') := Lib.hid (lLength_c 3 10 [120] (by omega) (by omega) (by decide) (by kernel_rfl) w hW)
  clear hW
  go_enter Tryd.func7, Tryd.ntmps7
  go_wp2_with fail
  refine CL.out.mono ?_
  rintro e w1 ⟨rfl, hb1⟩
  have HE := Lib.hid hb1
  clear hb1
  go_wp2
  go_ret
  exact ⟨rfl, HE.out⟩
theorem chkB_ok {lv wd : Int} {u : List UInt8} (h : chkB lv wd u = 0) : ∃ l d : Nat, lv = l ∧ wd = d ∧ l ≤ 200 ∧ d ≤ 16 ∧ u.length ≤ 1000 := by
  unfold chkB at h
  split at h
  · omega
  · rename_i hn
    simp only [not_or] at hn
    exact ⟨lv.toNat, wd.toNat, by omega, by omega, by omega, by omega, by omega⟩
set_option maxRecDepth 100000 in
set_option maxHeartbeats 16000000 in
theorem law_mid (lv wd : Int) (u : List UInt8) (h1 : (300 : Int) < u.length) (h2 : (u.length : Int) ≤ 1000) (w : World) (hW : W14p w) :
    Calls Tryd.prog 3 #[.agg #[.int .i64 lv, .int .i64 wd, .string ⟨u.toArray⟩]] w fun e w' => e = .returned (.bool true) ∧ Below w.heap.size w w' := by
  have hsz : (⟨u.toArray⟩ : ByteArray).size = u.length := by simp [ByteArray.size]
  have HB := Lib.hid ((Below.refl _ w).alloc (Nat.le_refl _) (.cells #[.int .i64 lv, .int .i64 wd, .string ⟨u.toArray⟩] 23))
  have hs0 : (w.alloc (.cells #[.int .i64 lv, .int .i64 wd, .string ⟨u.toArray⟩] 23)).heap.size = w.heap.size + 1 := by simp
  have HC : Hid (∀ W, Below (w.heap.size + 1) (w.alloc (.cells #[.int .i64 lv, .int .i64 wd, .string ⟨u.toArray⟩] 23)) W → W.cell? ⟨w.heap.size, 0, none⟩ = some (.int .i64 lv) ∧ W.cell? ⟨w.heap.size, 1, none⟩ = some (.int .i64 wd) ∧ W.cell? ⟨w.heap.size, 2, none⟩ = some (.string ⟨u.toArray⟩)) := Lib.hid fun W hb => by
    have z := (hb.block _ (by omega)).trans (hp_new w (.cells #[.int .i64 lv, .int .i64 wd, .string ⟨u.toArray⟩] 23))
    exact ⟨by rw [cell_of 0 z]; rfl, by rw [cell_of 1 z]; rfl, by rw [cell_of 2 z]; rfl⟩
  have B0 := Lib.hid (Below.refl (w.heap.size + 1) (w.alloc (.cells #[.int .i64 lv, .int .i64 wd, .string ⟨u.toArray⟩] 23)))
  have HN : Hid (∀ W W', Below (w.heap.size + 1) (w.alloc (.cells #[.int .i64 lv, .int .i64 wd, .string ⟨u.toArray⟩] 23)) W → Below W.heap.size W W' → Below (w.heap.size + 1) (w.alloc (.cells #[.int .i64 lv, .int .i64 wd, .string ⟨u.toArray⟩] 23)) W') := Lib.hid fun W W' h1 h2 => h1.trans (h2.mono (by have := h1.size; omega))
  have HE : Hid (∀ W, Below (w.heap.size + 1) (w.alloc (.cells #[.int .i64 lv, .int .i64 wd, .string ⟨u.toArray⟩] 23)) W → Below w.heap.size w W) := Lib.hid fun W h => HB.out.trans (h.mono (by omega))
  have HW : Hid (∀ W, Below (w.heap.size + 1) (w.alloc (.cells #[.int .i64 lv, .int .i64 wd, .string ⟨u.toArray⟩] 23)) W → W14p W) := Lib.hid fun W h => hW.below (HE.out W h)
  have S0 : Hid (∀ W, Below (w.heap.size + 1) (w.alloc (.cells #[.int .i64 lv, .int .i64 wd, .string ⟨u.toArray⟩] 23)) W → Calls Tryd.prog 7 #[] W fun e w' => e = .returned (.bool true) ∧ Below W.heap.size W w') := Lib.hid fun W h => live45_c W (HW.out W h)
  have S1 : Hid (∀ W, Below (w.heap.size + 1) (w.alloc (.cells #[.int .i64 lv, .int .i64 wd, .string ⟨u.toArray⟩] 23)) W → Calls Tryd.prog 9 #[.agg #[.int .i64 lv, .int .i64 wd, .string ⟨u.toArray⟩]] W fun e w' => e = .returned (.agg #[.int .i64 lv, .int .i64 wd, .string ⟨u.toArray⟩]) ∧ Below W.heap.size W w') := Lib.hid fun W h => give_c lv wd u W
  have S2 : Hid (∀ W, Below (w.heap.size + 1) (w.alloc (.cells #[.int .i64 lv, .int .i64 wd, .string ⟨u.toArray⟩] 23)) W → Calls Tryd.prog 10 #[.agg #[.int .i64 lv, .int .i64 wd, .string ⟨u.toArray⟩]] W fun e w' => e = .returned (.int .i64 (chkB lv wd u)) ∧ Below W.heap.size W w') := Lib.hid fun W h => rCheck_c lv wd u W
  have S3 : Hid (∀ W, Below (w.heap.size + 1) (w.alloc (.cells #[.int .i64 lv, .int .i64 wd, .string ⟨u.toArray⟩] 23)) W → Calls Tryd.prog 11 #[.agg #[.int .i64 lv, .int .i64 wd, .string ⟨u.toArray⟩]] W fun e w' => e = .returned (.int .i64 (chkB lv wd u)) ∧ Below W.heap.size W w') := Lib.hid fun W h => lCheck_c lv wd u W (HW.out W h)
  clear hW
  obtain ⟨c0, c1, c2⟩ := HC.out _ B0.out
  go_enter Tryd.func3, Tryd.ntmps3
  go_wp2_with fail
  refine (S0.out _ B0.out).mono ?_
  rintro e w1 ⟨rfl, hb⟩
  have B1 := Lib.hid (HN.out _ _ B0.out hb)
  clear hb
  try clear c0 c1 c2
  obtain ⟨c0, c1, c2⟩ := HC.out w1 B1.out
  go_wp2
  go_ret
  exact ⟨rfl, HE.out _ B1.out⟩

set_option maxRecDepth 100000 in
set_option maxHeartbeats 16000000 in
theorem law_bad (lv wd : Int) (u : List UInt8) (h1 : (u.length : Int) ≤ 300) (hc : chkB lv wd u ≠ 0) (w : World) (hW : W14p w) :
    Calls Tryd.prog 3 #[.agg #[.int .i64 lv, .int .i64 wd, .string ⟨u.toArray⟩]] w fun e w' => e = .returned (.bool true) ∧ Below w.heap.size w w' := by
  have hsz : (⟨u.toArray⟩ : ByteArray).size = u.length := by simp [ByteArray.size]
  have HB := Lib.hid ((Below.refl _ w).alloc (Nat.le_refl _) (.cells #[.int .i64 lv, .int .i64 wd, .string ⟨u.toArray⟩] 23))
  have hs0 : (w.alloc (.cells #[.int .i64 lv, .int .i64 wd, .string ⟨u.toArray⟩] 23)).heap.size = w.heap.size + 1 := by simp
  have HC : Hid (∀ W, Below (w.heap.size + 1) (w.alloc (.cells #[.int .i64 lv, .int .i64 wd, .string ⟨u.toArray⟩] 23)) W → W.cell? ⟨w.heap.size, 0, none⟩ = some (.int .i64 lv) ∧ W.cell? ⟨w.heap.size, 1, none⟩ = some (.int .i64 wd) ∧ W.cell? ⟨w.heap.size, 2, none⟩ = some (.string ⟨u.toArray⟩)) := Lib.hid fun W hb => by
    have z := (hb.block _ (by omega)).trans (hp_new w (.cells #[.int .i64 lv, .int .i64 wd, .string ⟨u.toArray⟩] 23))
    exact ⟨by rw [cell_of 0 z]; rfl, by rw [cell_of 1 z]; rfl, by rw [cell_of 2 z]; rfl⟩
  have B0 := Lib.hid (Below.refl (w.heap.size + 1) (w.alloc (.cells #[.int .i64 lv, .int .i64 wd, .string ⟨u.toArray⟩] 23)))
  have HN : Hid (∀ W W', Below (w.heap.size + 1) (w.alloc (.cells #[.int .i64 lv, .int .i64 wd, .string ⟨u.toArray⟩] 23)) W → Below W.heap.size W W' → Below (w.heap.size + 1) (w.alloc (.cells #[.int .i64 lv, .int .i64 wd, .string ⟨u.toArray⟩] 23)) W') := Lib.hid fun W W' h1 h2 => h1.trans (h2.mono (by have := h1.size; omega))
  have HE : Hid (∀ W, Below (w.heap.size + 1) (w.alloc (.cells #[.int .i64 lv, .int .i64 wd, .string ⟨u.toArray⟩] 23)) W → Below w.heap.size w W) := Lib.hid fun W h => HB.out.trans (h.mono (by omega))
  have HW : Hid (∀ W, Below (w.heap.size + 1) (w.alloc (.cells #[.int .i64 lv, .int .i64 wd, .string ⟨u.toArray⟩] 23)) W → W14p W) := Lib.hid fun W h => hW.below (HE.out W h)
  have S0 : Hid (∀ W, Below (w.heap.size + 1) (w.alloc (.cells #[.int .i64 lv, .int .i64 wd, .string ⟨u.toArray⟩] 23)) W → Calls Tryd.prog 7 #[] W fun e w' => e = .returned (.bool true) ∧ Below W.heap.size W w') := Lib.hid fun W h => live45_c W (HW.out W h)
  have S1 : Hid (∀ W, Below (w.heap.size + 1) (w.alloc (.cells #[.int .i64 lv, .int .i64 wd, .string ⟨u.toArray⟩] 23)) W → Calls Tryd.prog 9 #[.agg #[.int .i64 lv, .int .i64 wd, .string ⟨u.toArray⟩]] W fun e w' => e = .returned (.agg #[.int .i64 lv, .int .i64 wd, .string ⟨u.toArray⟩]) ∧ Below W.heap.size W w') := Lib.hid fun W h => give_c lv wd u W
  have S2 : Hid (∀ W, Below (w.heap.size + 1) (w.alloc (.cells #[.int .i64 lv, .int .i64 wd, .string ⟨u.toArray⟩] 23)) W → Calls Tryd.prog 10 #[.agg #[.int .i64 lv, .int .i64 wd, .string ⟨u.toArray⟩]] W fun e w' => e = .returned (.int .i64 (chkB lv wd u)) ∧ Below W.heap.size W w') := Lib.hid fun W h => rCheck_c lv wd u W
  have S3 : Hid (∀ W, Below (w.heap.size + 1) (w.alloc (.cells #[.int .i64 lv, .int .i64 wd, .string ⟨u.toArray⟩] 23)) W → Calls Tryd.prog 11 #[.agg #[.int .i64 lv, .int .i64 wd, .string ⟨u.toArray⟩]] W fun e w' => e = .returned (.int .i64 (chkB lv wd u)) ∧ Below W.heap.size W w') := Lib.hid fun W h => lCheck_c lv wd u W (HW.out W h)
  have S4 : Hid (∀ W, Below (w.heap.size + 1) (w.alloc (.cells #[.int .i64 lv, .int .i64 wd, .string ⟨u.toArray⟩] 23)) W → Calls Tryd.prog 8 #[.agg #[.int .i64 lv, .int .i64 wd, .string ⟨u.toArray⟩]] W fun e w' => e = .returned (.tuple #[.string ⟨#[]⟩, .int .i64 (chkB lv wd u)]) ∧ Below W.heap.size W w') := Lib.hid fun W h => lDoc_bad lv wd u hc W (HW.out W h)
  have S5 : Hid (∀ W, Below (w.heap.size + 1) (w.alloc (.cells #[.int .i64 lv, .int .i64 wd, .string ⟨u.toArray⟩] 23)) W → Calls Tryd.prog 12 #[.agg #[.int .i64 lv, .int .i64 wd, .string ⟨u.toArray⟩]] W fun e w' => e = .returned (.int .i64 0) ∧ Below W.heap.size W w') := Lib.hid fun W h => lLength_bad lv wd u hc W (HW.out W h)
  have S6 : Hid (∀ W, Below (w.heap.size + 1) (w.alloc (.cells #[.int .i64 lv, .int .i64 wd, .string ⟨u.toArray⟩] 23)) W → Calls Tryd.prog 13 #[.agg #[.int .i64 lv, .int .i64 wd, .string ⟨u.toArray⟩]] W fun e w' => e = .returned (.int .i64 0) ∧ Below W.heap.size W w') := Lib.hid fun W h => lCost_bad lv wd u hc W (HW.out W h)
  have hz : (chkB lv wd u == 0) = false := by simpa using hc
  clear hW hc
  generalize chkB lv wd u = c at *
  have h1 : ¬ (300 : Int) < u.length := by omega
  obtain ⟨c0, c1, c2⟩ := HC.out _ B0.out
  go_enter Tryd.func3, Tryd.ntmps3
  go_wp2_with fail
  refine (S1.out _ B0.out).mono ?_
  rintro e w1 ⟨rfl, hb⟩
  have B1 := Lib.hid (HN.out _ _ B0.out hb)
  clear hb
  try clear c0 c1 c2
  obtain ⟨c0, c1, c2⟩ := HC.out w1 B1.out
  go_wp2_with fail
  refine (S4.out _ B1.out).mono ?_
  rintro e w2 ⟨rfl, hb⟩
  have B2 := Lib.hid (HN.out _ _ B1.out hb)
  clear hb
  try clear c0 c1 c2
  obtain ⟨c0, c1, c2⟩ := HC.out w2 B2.out
  go_wp2_with fail
  refine (S2.out _ B2.out).mono ?_
  rintro e w3 ⟨rfl, hb⟩
  have B3 := Lib.hid (HN.out _ _ B2.out hb)
  clear hb
  try clear c0 c1 c2
  obtain ⟨c0, c1, c2⟩ := HC.out w3 B3.out
  go_wp2_with fail
  refine (S1.out _ B3.out).mono ?_
  rintro e w4 ⟨rfl, hb⟩
  have B4 := Lib.hid (HN.out _ _ B3.out hb)
  clear hb
  try clear c0 c1 c2
  obtain ⟨c0, c1, c2⟩ := HC.out w4 B4.out
  go_wp2_with fail
  refine (S3.out _ B4.out).mono ?_
  rintro e w5 ⟨rfl, hb⟩
  have B5 := Lib.hid (HN.out _ _ B4.out hb)
  clear hb
  try clear c0 c1 c2
  obtain ⟨c0, c1, c2⟩ := HC.out w5 B5.out
  go_wp2_with fail
  refine (S1.out _ B5.out).mono ?_
  rintro e w6 ⟨rfl, hb⟩
  have B6 := Lib.hid (HN.out _ _ B5.out hb)
  clear hb
  try clear c0 c1 c2
  obtain ⟨c0, c1, c2⟩ := HC.out w6 B6.out
  go_wp2_with fail
  refine (S5.out _ B6.out).mono ?_
  rintro e w7 ⟨rfl, hb⟩
  have B7 := Lib.hid (HN.out _ _ B6.out hb)
  clear hb
  try clear c0 c1 c2
  obtain ⟨c0, c1, c2⟩ := HC.out w7 B7.out
  go_wp2_with fail
  refine (S1.out _ B7.out).mono ?_
  rintro e w8 ⟨rfl, hb⟩
  have B8 := Lib.hid (HN.out _ _ B7.out hb)
  clear hb
  try clear c0 c1 c2
  obtain ⟨c0, c1, c2⟩ := HC.out w8 B8.out
  go_wp2_with fail
  refine (S6.out _ B8.out).mono ?_
  rintro e w9 ⟨rfl, hb⟩
  have B9 := Lib.hid (HN.out _ _ B8.out hb)
  clear hb
  try clear c0 c1 c2
  obtain ⟨c0, c1, c2⟩ := HC.out w9 B9.out
  go_wp2_with fail
  refine (S0.out _ B9.out).mono ?_
  rintro e w10 ⟨rfl, hb⟩
  have B10 := Lib.hid (HN.out _ _ B9.out hb)
  clear hb
  try clear c0 c1 c2
  obtain ⟨c0, c1, c2⟩ := HC.out w10 B10.out
  go_wp2
  go_ret
  exact ⟨rfl, HE.out _ B10.out⟩

set_option maxRecDepth 100000 in
set_option maxHeartbeats 16000000 in
theorem law_bad2 (lv wd : Int) (u : List UInt8) (h1 : (300 : Int) < u.length) (h2 : ¬ (u.length : Int) ≤ 1000) (hc : chkB lv wd u ≠ 0) (w : World) (hW : W14p w) :
    Calls Tryd.prog 3 #[.agg #[.int .i64 lv, .int .i64 wd, .string ⟨u.toArray⟩]] w fun e w' => e = .returned (.bool true) ∧ Below w.heap.size w w' := by
  have hsz : (⟨u.toArray⟩ : ByteArray).size = u.length := by simp [ByteArray.size]
  have HB := Lib.hid ((Below.refl _ w).alloc (Nat.le_refl _) (.cells #[.int .i64 lv, .int .i64 wd, .string ⟨u.toArray⟩] 23))
  have hs0 : (w.alloc (.cells #[.int .i64 lv, .int .i64 wd, .string ⟨u.toArray⟩] 23)).heap.size = w.heap.size + 1 := by simp
  have HC : Hid (∀ W, Below (w.heap.size + 1) (w.alloc (.cells #[.int .i64 lv, .int .i64 wd, .string ⟨u.toArray⟩] 23)) W → W.cell? ⟨w.heap.size, 0, none⟩ = some (.int .i64 lv) ∧ W.cell? ⟨w.heap.size, 1, none⟩ = some (.int .i64 wd) ∧ W.cell? ⟨w.heap.size, 2, none⟩ = some (.string ⟨u.toArray⟩)) := Lib.hid fun W hb => by
    have z := (hb.block _ (by omega)).trans (hp_new w (.cells #[.int .i64 lv, .int .i64 wd, .string ⟨u.toArray⟩] 23))
    exact ⟨by rw [cell_of 0 z]; rfl, by rw [cell_of 1 z]; rfl, by rw [cell_of 2 z]; rfl⟩
  have B0 := Lib.hid (Below.refl (w.heap.size + 1) (w.alloc (.cells #[.int .i64 lv, .int .i64 wd, .string ⟨u.toArray⟩] 23)))
  have HN : Hid (∀ W W', Below (w.heap.size + 1) (w.alloc (.cells #[.int .i64 lv, .int .i64 wd, .string ⟨u.toArray⟩] 23)) W → Below W.heap.size W W' → Below (w.heap.size + 1) (w.alloc (.cells #[.int .i64 lv, .int .i64 wd, .string ⟨u.toArray⟩] 23)) W') := Lib.hid fun W W' h1 h2 => h1.trans (h2.mono (by have := h1.size; omega))
  have HE : Hid (∀ W, Below (w.heap.size + 1) (w.alloc (.cells #[.int .i64 lv, .int .i64 wd, .string ⟨u.toArray⟩] 23)) W → Below w.heap.size w W) := Lib.hid fun W h => HB.out.trans (h.mono (by omega))
  have HW : Hid (∀ W, Below (w.heap.size + 1) (w.alloc (.cells #[.int .i64 lv, .int .i64 wd, .string ⟨u.toArray⟩] 23)) W → W14p W) := Lib.hid fun W h => hW.below (HE.out W h)
  have S0 : Hid (∀ W, Below (w.heap.size + 1) (w.alloc (.cells #[.int .i64 lv, .int .i64 wd, .string ⟨u.toArray⟩] 23)) W → Calls Tryd.prog 7 #[] W fun e w' => e = .returned (.bool true) ∧ Below W.heap.size W w') := Lib.hid fun W h => live45_c W (HW.out W h)
  have S1 : Hid (∀ W, Below (w.heap.size + 1) (w.alloc (.cells #[.int .i64 lv, .int .i64 wd, .string ⟨u.toArray⟩] 23)) W → Calls Tryd.prog 9 #[.agg #[.int .i64 lv, .int .i64 wd, .string ⟨u.toArray⟩]] W fun e w' => e = .returned (.agg #[.int .i64 lv, .int .i64 wd, .string ⟨u.toArray⟩]) ∧ Below W.heap.size W w') := Lib.hid fun W h => give_c lv wd u W
  have S2 : Hid (∀ W, Below (w.heap.size + 1) (w.alloc (.cells #[.int .i64 lv, .int .i64 wd, .string ⟨u.toArray⟩] 23)) W → Calls Tryd.prog 10 #[.agg #[.int .i64 lv, .int .i64 wd, .string ⟨u.toArray⟩]] W fun e w' => e = .returned (.int .i64 (chkB lv wd u)) ∧ Below W.heap.size W w') := Lib.hid fun W h => rCheck_c lv wd u W
  have S3 : Hid (∀ W, Below (w.heap.size + 1) (w.alloc (.cells #[.int .i64 lv, .int .i64 wd, .string ⟨u.toArray⟩] 23)) W → Calls Tryd.prog 11 #[.agg #[.int .i64 lv, .int .i64 wd, .string ⟨u.toArray⟩]] W fun e w' => e = .returned (.int .i64 (chkB lv wd u)) ∧ Below W.heap.size W w') := Lib.hid fun W h => lCheck_c lv wd u W (HW.out W h)
  have S4 : Hid (∀ W, Below (w.heap.size + 1) (w.alloc (.cells #[.int .i64 lv, .int .i64 wd, .string ⟨u.toArray⟩] 23)) W → Calls Tryd.prog 8 #[.agg #[.int .i64 lv, .int .i64 wd, .string ⟨u.toArray⟩]] W fun e w' => e = .returned (.tuple #[.string ⟨#[]⟩, .int .i64 (chkB lv wd u)]) ∧ Below W.heap.size W w') := Lib.hid fun W h => lDoc_bad lv wd u hc W (HW.out W h)
  have S5 : Hid (∀ W, Below (w.heap.size + 1) (w.alloc (.cells #[.int .i64 lv, .int .i64 wd, .string ⟨u.toArray⟩] 23)) W → Calls Tryd.prog 12 #[.agg #[.int .i64 lv, .int .i64 wd, .string ⟨u.toArray⟩]] W fun e w' => e = .returned (.int .i64 0) ∧ Below W.heap.size W w') := Lib.hid fun W h => lLength_bad lv wd u hc W (HW.out W h)
  have S6 : Hid (∀ W, Below (w.heap.size + 1) (w.alloc (.cells #[.int .i64 lv, .int .i64 wd, .string ⟨u.toArray⟩] 23)) W → Calls Tryd.prog 13 #[.agg #[.int .i64 lv, .int .i64 wd, .string ⟨u.toArray⟩]] W fun e w' => e = .returned (.int .i64 0) ∧ Below W.heap.size W w') := Lib.hid fun W h => lCost_bad lv wd u hc W (HW.out W h)
  have hz : (chkB lv wd u == 0) = false := by simpa using hc
  clear hW hc
  generalize chkB lv wd u = c at *
  obtain ⟨c0, c1, c2⟩ := HC.out _ B0.out
  go_enter Tryd.func3, Tryd.ntmps3
  go_wp2_with fail
  refine (S1.out _ B0.out).mono ?_
  rintro e w1 ⟨rfl, hb⟩
  have B1 := Lib.hid (HN.out _ _ B0.out hb)
  clear hb
  try clear c0 c1 c2
  obtain ⟨c0, c1, c2⟩ := HC.out w1 B1.out
  go_wp2_with fail
  refine (S4.out _ B1.out).mono ?_
  rintro e w2 ⟨rfl, hb⟩
  have B2 := Lib.hid (HN.out _ _ B1.out hb)
  clear hb
  try clear c0 c1 c2
  obtain ⟨c0, c1, c2⟩ := HC.out w2 B2.out
  go_wp2_with fail
  refine (S2.out _ B2.out).mono ?_
  rintro e w3 ⟨rfl, hb⟩
  have B3 := Lib.hid (HN.out _ _ B2.out hb)
  clear hb
  try clear c0 c1 c2
  obtain ⟨c0, c1, c2⟩ := HC.out w3 B3.out
  go_wp2_with fail
  refine (S1.out _ B3.out).mono ?_
  rintro e w4 ⟨rfl, hb⟩
  have B4 := Lib.hid (HN.out _ _ B3.out hb)
  clear hb
  try clear c0 c1 c2
  obtain ⟨c0, c1, c2⟩ := HC.out w4 B4.out
  go_wp2_with fail
  refine (S3.out _ B4.out).mono ?_
  rintro e w5 ⟨rfl, hb⟩
  have B5 := Lib.hid (HN.out _ _ B4.out hb)
  clear hb
  try clear c0 c1 c2
  obtain ⟨c0, c1, c2⟩ := HC.out w5 B5.out
  go_wp2_with fail
  refine (S1.out _ B5.out).mono ?_
  rintro e w6 ⟨rfl, hb⟩
  have B6 := Lib.hid (HN.out _ _ B5.out hb)
  clear hb
  try clear c0 c1 c2
  obtain ⟨c0, c1, c2⟩ := HC.out w6 B6.out
  go_wp2_with fail
  refine (S5.out _ B6.out).mono ?_
  rintro e w7 ⟨rfl, hb⟩
  have B7 := Lib.hid (HN.out _ _ B6.out hb)
  clear hb
  try clear c0 c1 c2
  obtain ⟨c0, c1, c2⟩ := HC.out w7 B7.out
  go_wp2_with fail
  refine (S1.out _ B7.out).mono ?_
  rintro e w8 ⟨rfl, hb⟩
  have B8 := Lib.hid (HN.out _ _ B7.out hb)
  clear hb
  try clear c0 c1 c2
  obtain ⟨c0, c1, c2⟩ := HC.out w8 B8.out
  go_wp2_with fail
  refine (S6.out _ B8.out).mono ?_
  rintro e w9 ⟨rfl, hb⟩
  have B9 := Lib.hid (HN.out _ _ B8.out hb)
  clear hb
  try clear c0 c1 c2
  obtain ⟨c0, c1, c2⟩ := HC.out w9 B9.out
  go_wp2_with fail
  refine (S0.out _ B9.out).mono ?_
  rintro e w10 ⟨rfl, hb⟩
  have B10 := Lib.hid (HN.out _ _ B9.out hb)
  clear hb
  try clear c0 c1 c2
  obtain ⟨c0, c1, c2⟩ := HC.out w10 B10.out
  go_wp2
  go_ret
  exact ⟨rfl, HE.out _ B10.out⟩

set_option maxRecDepth 100000 in
set_option maxHeartbeats 16000000 in
theorem law_ok (lv wd : Nat) (u : List UInt8) (hl : lv ≤ 200) (hw : wd ≤ 16) (hu : u.length ≤ 1000) (h1 : ¬ (300 : Int) < u.length) (hc : chkB lv wd u = 0) (w : World) (hW : W14p w) :
    Calls Tryd.prog 3 #[.agg #[.int .i64 lv, .int .i64 wd, .string ⟨u.toArray⟩]] w fun e w' => e = .returned (.bool true) ∧ Below w.heap.size w w' := by
  have hsz : (⟨u.toArray⟩ : ByteArray).size = u.length := by simp [ByteArray.size]
  have HB := Lib.hid ((Below.refl _ w).alloc (Nat.le_refl _) (.cells #[.int .i64 lv, .int .i64 wd, .string ⟨u.toArray⟩] 23))
  have hs0 : (w.alloc (.cells #[.int .i64 lv, .int .i64 wd, .string ⟨u.toArray⟩] 23)).heap.size = w.heap.size + 1 := by simp
  have HC : Hid (∀ W, Below (w.heap.size + 1) (w.alloc (.cells #[.int .i64 lv, .int .i64 wd, .string ⟨u.toArray⟩] 23)) W → W.cell? ⟨w.heap.size, 0, none⟩ = some (.int .i64 lv) ∧ W.cell? ⟨w.heap.size, 1, none⟩ = some (.int .i64 wd) ∧ W.cell? ⟨w.heap.size, 2, none⟩ = some (.string ⟨u.toArray⟩)) := Lib.hid fun W hb => by
    have z := (hb.block _ (by omega)).trans (hp_new w (.cells #[.int .i64 lv, .int .i64 wd, .string ⟨u.toArray⟩] 23))
    exact ⟨by rw [cell_of 0 z]; rfl, by rw [cell_of 1 z]; rfl, by rw [cell_of 2 z]; rfl⟩
  have B0 := Lib.hid (Below.refl (w.heap.size + 1) (w.alloc (.cells #[.int .i64 lv, .int .i64 wd, .string ⟨u.toArray⟩] 23)))
  have HN : Hid (∀ W W', Below (w.heap.size + 1) (w.alloc (.cells #[.int .i64 lv, .int .i64 wd, .string ⟨u.toArray⟩] 23)) W → Below W.heap.size W W' → Below (w.heap.size + 1) (w.alloc (.cells #[.int .i64 lv, .int .i64 wd, .string ⟨u.toArray⟩] 23)) W') := Lib.hid fun W W' h1 h2 => h1.trans (h2.mono (by have := h1.size; omega))
  have HE : Hid (∀ W, Below (w.heap.size + 1) (w.alloc (.cells #[.int .i64 lv, .int .i64 wd, .string ⟨u.toArray⟩] 23)) W → Below w.heap.size w W) := Lib.hid fun W h => HB.out.trans (h.mono (by omega))
  have HW : Hid (∀ W, Below (w.heap.size + 1) (w.alloc (.cells #[.int .i64 lv, .int .i64 wd, .string ⟨u.toArray⟩] 23)) W → W14p W) := Lib.hid fun W h => hW.below (HE.out W h)
  have S0 : Hid (∀ W, Below (w.heap.size + 1) (w.alloc (.cells #[.int .i64 lv, .int .i64 wd, .string ⟨u.toArray⟩] 23)) W → Calls Tryd.prog 7 #[] W fun e w' => e = .returned (.bool true) ∧ Below W.heap.size W w') := Lib.hid fun W h => live45_c W (HW.out W h)
  have S1 : Hid (∀ W, Below (w.heap.size + 1) (w.alloc (.cells #[.int .i64 lv, .int .i64 wd, .string ⟨u.toArray⟩] 23)) W → Calls Tryd.prog 9 #[.agg #[.int .i64 lv, .int .i64 wd, .string ⟨u.toArray⟩]] W fun e w' => e = .returned (.agg #[.int .i64 lv, .int .i64 wd, .string ⟨u.toArray⟩]) ∧ Below W.heap.size W w') := Lib.hid fun W h => give_c lv wd u W
  have S2 : Hid (∀ W, Below (w.heap.size + 1) (w.alloc (.cells #[.int .i64 lv, .int .i64 wd, .string ⟨u.toArray⟩] 23)) W → Calls Tryd.prog 10 #[.agg #[.int .i64 lv, .int .i64 wd, .string ⟨u.toArray⟩]] W fun e w' => e = .returned (.int .i64 (chkB lv wd u)) ∧ Below W.heap.size W w') := Lib.hid fun W h => rCheck_c lv wd u W
  have S3 : Hid (∀ W, Below (w.heap.size + 1) (w.alloc (.cells #[.int .i64 lv, .int .i64 wd, .string ⟨u.toArray⟩] 23)) W → Calls Tryd.prog 11 #[.agg #[.int .i64 lv, .int .i64 wd, .string ⟨u.toArray⟩]] W fun e w' => e = .returned (.int .i64 (chkB lv wd u)) ∧ Below W.heap.size W w') := Lib.hid fun W h => lCheck_c lv wd u W (HW.out W h)
  have S4 : Hid (∀ W, Below (w.heap.size + 1) (w.alloc (.cells #[.int .i64 lv, .int .i64 wd, .string ⟨u.toArray⟩] 23)) W → Calls Tryd.prog 8 #[.agg #[.int .i64 lv, .int .i64 wd, .string ⟨u.toArray⟩]] W fun e w' => e = .returned (.tuple #[.string ⟨(docB u wd lv).toArray⟩, .int .i64 0]) ∧ Below W.heap.size W w') := Lib.hid fun W h => lDoc_c lv wd u hl hw hu hc W (HW.out W h)
  have S5 : Hid (∀ W, Below (w.heap.size + 1) (w.alloc (.cells #[.int .i64 lv, .int .i64 wd, .string ⟨u.toArray⟩] 23)) W → Calls Tryd.prog 12 #[.agg #[.int .i64 lv, .int .i64 wd, .string ⟨u.toArray⟩]] W fun e w' => e = .returned (.int .i64 (satN (u.length * wd ^ lv) : Nat)) ∧ Below W.heap.size W w') := Lib.hid fun W h => lLength_c lv wd u hl hw hu hc W (HW.out W h)
  have S6 : Hid (∀ W, Below (w.heap.size + 1) (w.alloc (.cells #[.int .i64 lv, .int .i64 wd, .string ⟨u.toArray⟩] 23)) W → Calls Tryd.prog 13 #[.agg #[.int .i64 lv, .int .i64 wd, .string ⟨u.toArray⟩]] W fun e w' => e = .returned (.int .i64 (costB u wd lv : Nat)) ∧ Below W.heap.size W w') := Lib.hid fun W h => lCost_c lv wd u hl hw hu hc W (HW.out W h)
  have S7 : Hid (∀ W, Below (w.heap.size + 1) (w.alloc (.cells #[.int .i64 lv, .int .i64 wd, .string ⟨u.toArray⟩] 23)) W → Calls Tryd.prog 14 #[.agg #[.int .i64 lv, .int .i64 wd, .string ⟨u.toArray⟩]] W fun e w' => e = .returned (.string ⟨(docB u wd lv).toArray⟩) ∧ Below W.heap.size W w') := Lib.hid fun W h => rDoc_c lv wd u hl hw hu W
  have S8 : Hid (∀ W, Below (w.heap.size + 1) (w.alloc (.cells #[.int .i64 lv, .int .i64 wd, .string ⟨u.toArray⟩] 23)) W → Calls Tryd.prog 15 #[.agg #[.int .i64 lv, .int .i64 wd, .string ⟨u.toArray⟩]] W fun e w' => e = .returned (.int .i64 (satN (u.length * wd ^ lv) : Nat)) ∧ Below W.heap.size W w') := Lib.hid fun W h => rLength_c lv wd u hl hw hu W
  have S9 : Hid (∀ W, Below (w.heap.size + 1) (w.alloc (.cells #[.int .i64 lv, .int .i64 wd, .string ⟨u.toArray⟩] 23)) W → Calls Tryd.prog 16 #[.agg #[.int .i64 lv, .int .i64 wd, .string ⟨u.toArray⟩]] W fun e w' => e = .returned (.int .i64 (costB u wd lv : Nat)) ∧ Below W.heap.size W w') := Lib.hid fun W h => rCost_c lv wd u hl hw hu W
  rw [hc] at S2 S3
  clear hW hc hl hw hu
  generalize docB u wd lv = dB at *
  generalize satN (u.length * wd ^ lv) = sB at *
  generalize costB u wd lv = cB at *
  obtain ⟨c0, c1, c2⟩ := HC.out _ B0.out
  go_enter Tryd.func3, Tryd.ntmps3
  go_wp2_with fail
  refine (S1.out _ B0.out).mono ?_
  rintro e w1 ⟨rfl, hb⟩
  have B1 := Lib.hid (HN.out _ _ B0.out hb)
  clear hb
  try clear c0 c1 c2
  obtain ⟨c0, c1, c2⟩ := HC.out w1 B1.out
  go_wp2_with fail
  refine (S4.out _ B1.out).mono ?_
  rintro e w2 ⟨rfl, hb⟩
  have B2 := Lib.hid (HN.out _ _ B1.out hb)
  clear hb
  try clear c0 c1 c2
  obtain ⟨c0, c1, c2⟩ := HC.out w2 B2.out
  go_wp2_with fail
  refine (S2.out _ B2.out).mono ?_
  rintro e w3 ⟨rfl, hb⟩
  have B3 := Lib.hid (HN.out _ _ B2.out hb)
  clear hb
  try clear c0 c1 c2
  obtain ⟨c0, c1, c2⟩ := HC.out w3 B3.out
  go_wp2_with fail
  refine (S1.out _ B3.out).mono ?_
  rintro e w4 ⟨rfl, hb⟩
  have B4 := Lib.hid (HN.out _ _ B3.out hb)
  clear hb
  try clear c0 c1 c2
  obtain ⟨c0, c1, c2⟩ := HC.out w4 B4.out
  go_wp2_with fail
  refine (S3.out _ B4.out).mono ?_
  rintro e w5 ⟨rfl, hb⟩
  have B5 := Lib.hid (HN.out _ _ B4.out hb)
  clear hb
  try clear c0 c1 c2
  obtain ⟨c0, c1, c2⟩ := HC.out w5 B5.out
  go_wp2
  clear c0 c1 c2
  have HS : Hid (∀ W W', Below (w.heap.size + 1) (w.alloc (.cells #[.int .i64 lv, .int .i64 wd, .string ⟨u.toArray⟩] 23)) W → Below W.heap.size W W' → (fun w' => w'.cell? ⟨w.heap.size, 0, none⟩ = some (.int .i64 lv) ∧ w'.cell? ⟨w.heap.size, 1, none⟩ = some (.int .i64 wd) ∧ w'.cell? ⟨w.heap.size, 2, none⟩ = some (.string ⟨u.toArray⟩) ∧ Hid (Below (w.heap.size + 1) (w.alloc (.cells #[.int .i64 lv, .int .i64 wd, .string ⟨u.toArray⟩] 23)) w')) W') := Lib.hid fun W W' h1 h2 => by
    have h3 := HN.out W W' h1 h2
    obtain ⟨c0, c1, c2⟩ := HC.out W' h3
    exact ⟨c0, c1, c2, Lib.hid h3⟩
  have HS0 : (fun w' => w'.cell? ⟨w.heap.size, 0, none⟩ = some (.int .i64 lv) ∧ w'.cell? ⟨w.heap.size, 1, none⟩ = some (.int .i64 wd) ∧ w'.cell? ⟨w.heap.size, 2, none⟩ = some (.string ⟨u.toArray⟩) ∧ Hid (Below (w.heap.size + 1) (w.alloc (.cells #[.int .i64 lv, .int .i64 wd, .string ⟨u.toArray⟩] 23)) w')) w5.drew := by
    have h3 := Below.drew B5.out
    obtain ⟨c0, c1, c2⟩ := HC.out _ h3
    exact ⟨c0, c1, c2, Lib.hid h3⟩
  obtain ⟨g0, g1, g2, g3⟩ := HS0
  go_region_held3 (fun w' => w'.cell? ⟨w.heap.size, 0, none⟩ = some (.int .i64 lv) ∧ w'.cell? ⟨w.heap.size, 1, none⟩ = some (.int .i64 wd) ∧ w'.cell? ⟨w.heap.size, 2, none⟩ = some (.string ⟨u.toArray⟩) ∧ Hid (Below (w.heap.size + 1) (w.alloc (.cells #[.int .i64 lv, .int .i64 wd, .string ⟨u.toArray⟩] 23)) w')) (first | exact ⟨by assumption, by assumption, by assumption, by assumption⟩) (first | (go_at_call 9; refine (S1.out _ (Hid.out (by assumption))).mono ?_; rintro e w6 ⟨rfl, hb⟩; obtain ⟨e0, e1, e2, e3⟩ := HS.out _ _ (Hid.out (by assumption)) hb; clear hb) | (go_at_call 12; refine (S5.out _ (Hid.out (by assumption))).mono ?_; rintro e w6 ⟨rfl, hb⟩; obtain ⟨e0, e1, e2, e3⟩ := HS.out _ _ (Hid.out (by assumption)) hb; clear hb) | (go_at_call 14; refine (S7.out _ (Hid.out (by assumption))).mono ?_; rintro e w6 ⟨rfl, hb⟩; obtain ⟨e0, e1, e2, e3⟩ := HS.out _ _ (Hid.out (by assumption)) hb; clear hb) | (go_at_call 15; refine (S8.out _ (Hid.out (by assumption))).mono ?_; rintro e w6 ⟨rfl, hb⟩; obtain ⟨e0, e1, e2, e3⟩ := HS.out _ _ (Hid.out (by assumption)) hb; clear hb) | (go_at_call 13; refine (S6.out _ (Hid.out (by assumption))).mono ?_; rintro e w6 ⟨rfl, hb⟩; obtain ⟨e0, e1, e2, e3⟩ := HS.out _ _ (Hid.out (by assumption)) hb; clear hb) | (go_at_call 16; refine (S9.out _ (Hid.out (by assumption))).mono ?_; rintro e w6 ⟨rfl, hb⟩; obtain ⟨e0, e1, e2, e3⟩ := HS.out _ _ (Hid.out (by assumption)) hb; clear hb) | (go_at_call 7; refine (S0.out _ (Hid.out (by assumption))).mono ?_; rintro e w6 ⟨rfl, hb⟩; obtain ⟨e0, e1, e2, e3⟩ := HS.out _ _ (Hid.out (by assumption)) hb; clear hb))
  go_wp2
  go_ret
  exact ⟨rfl, HE.out _ (Hid.out (by assumption))⟩

theorem laughMakes_walk (lv wd : Int) (u : List UInt8) (w : World) (hW : W14p w) :
    Calls Tryd.prog 3 #[.agg #[.int .i64 lv, .int .i64 wd, .string ⟨u.toArray⟩]] w fun e w' => e = .returned (.bool true) ∧ Below w.heap.size w w' := by
  by_cases h1 : (300 : Int) < u.length
  · by_cases h2 : (u.length : Int) ≤ 1000
    · exact law_mid lv wd u h1 h2 w hW
    · refine law_bad2 lv wd u h1 h2 (fun hc => ?_) w hW
      obtain ⟨_, _, _, _, _, _, h⟩ := chkB_ok hc
      omega
  · by_cases hc : chkB lv wd u = 0
    · obtain ⟨l, d, rfl, rfl, hl, hd, hu⟩ := chkB_ok hc
      exact law_ok l d u hl hd hu h1 hc w hW
    · exact law_bad lv wd u (by omega) hc w hW
theorem laughMakes_walkB (lv wd : Int) (s : ByteArray) (w : World) (hW : W14p w) :
    Calls Tryd.prog 3 #[.agg #[.int .i64 lv, .int .i64 wd, .string s]] w fun e w' => e = .returned (.bool true) ∧ Below w.heap.size w w' := by
  have := laughMakes_walk lv wd s.data.toList w hW
  simpa using this
/-- The cells that a datum of numbers, strings, arrays and structs takes, by its type: none where the lay-out has a gap. -/
def flatL (P : Program) (fl : TypeId → DataW Unit → Option (List Value)) : Nat → List (TypeId × Nat) → List (DataW Unit) → Option (List Value)
  | _, [], [] => some []
  | off, (t, o) :: ts, d :: ds => if o = off then (fl t d).bind fun v => if v.length = P.cellsOf t then (flatL P fl (off + P.cellsOf t) ts ds).map (v ++ ·) else none else none
  | _, _, _ => none
def flatD (P : Program) : Nat → TypeId → DataW Unit → Option (List Value)
  | 0, _, _ => none
  | f + 1, t, d => match P.underlying t, d with
    | some (.int k), .lit (.int k' n) => if k' = k then some [.int k n] else none
    | some .string, .lit (.string l) => some [.string ⟨l.toArray⟩]
    | some (.struct fs), .agg ds => (flatL P (flatD P f) 0 (fs.toList.map fun f => (f.type, f.offset)) ds).bind fun v => if v.length = P.cellsOf t then some v else none
    | some (.array n e), .agg ds => (flatL P (flatD P f) 0 ((List.range n).map fun i => (e, i * P.cellsOf e)) ds).bind fun v => if v.length = P.cellsOf t then some v else none
    | _, _ => none
theorem mapM_map {α β γ : Type} (g : α → β) (f : β → Option γ) : ∀ l : List α, (l.map g).mapM f = l.mapM fun a => f (g a)
  | [] => rfl
  | a :: l => by simp [List.mapM_cons, mapM_map g f l]
theorem mapM_cons_some {α β : Type} {f : α → Option β} {a : α} {l : List α} {ys : List β} (h : (a :: l).mapM f = some ys) : ∃ y ys', f a = some y ∧ l.mapM f = some ys' ∧ ys = y :: ys' := by
  rw [List.mapM_cons] at h
  obtain ⟨y, hy, h⟩ := Option.bind_eq_some_iff.1 h
  obtain ⟨ys', hys, h⟩ := Option.bind_eq_some_iff.1 h
  exact ⟨y, ys', hy, hys, (Option.some.inj h).symm⟩
theorem flatL_mapM {P : Program} {w : World} {base : Nat} {sp : Nat → Bool} {held : Bool} {enc : TypeId × Value → Unit} {fuel f : Nat} {cs : List Value}
    (ih : ∀ t cs d p vs, DataW.trod enc P w base sp held fuel t cs = some (d, p) → flatD P f t d = some vs → cs = vs) :
    ∀ (ts : List (TypeId × Nat)) (xs : List (DataW Unit × List MemPlace)) (off : Nat) (vs : List Value),
      (ts.mapM fun x => DataW.trod enc P w base sp held fuel x.1 ((cs.drop x.2).take (P.cellsOf x.1))) = some xs → flatL P (flatD P f) off ts (xs.map (·.1)) = some vs → (cs.drop off).take vs.length = vs
  | [], xs, off, vs, hm, hf => by
    have : xs = [] := by simpa using hm.symm
    subst this
    simp [flatL] at hf
    subst hf
    simp
  | (t, o) :: ts, xs, off, vs, hm, hf => by
    obtain ⟨⟨d, p⟩, xs', hx, hm', rfl⟩ := mapM_cons_some hm
    simp only [List.map_cons, flatL] at hf
    split at hf
    · rename_i ho
      subst ho
      obtain ⟨v, hv, hf⟩ := Option.bind_eq_some_iff.1 hf
      split at hf
      · rename_i hl
        obtain ⟨vs', hvs, rfl⟩ := Option.map_eq_some_iff.1 hf
        have h1 := ih t _ d p v hx hv
        have h2 := flatL_mapM ih ts xs' _ vs' hm' hvs
        simp only at h1
        rw [List.length_append, List.take_add, hl, h1, List.drop_drop, h2]
      · cases hf
    · cases hf
theorem flat_trod {P : Program} {w : World} {base : Nat} {sp : Nat → Bool} {held : Bool} {enc : TypeId × Value → Unit} : ∀ (fuel f : Nat) (t : TypeId) (cs : List Value) (d : DataW Unit) (p : List MemPlace) (vs : List Value),
    DataW.trod enc P w base sp held fuel t cs = some (d, p) → flatD P f t d = some vs → cs = vs := by
  intro fuel
  induction fuel with
  | zero => intro f t cs d p vs h; simp [DataW.trod] at h
  | succ fuel ih =>
    intro f t cs d p vs h hf
    cases f with
    | zero => simp [flatD] at hf
    | succ f =>
      unfold flatD at hf
      split at hf
      · rename_i k k' n hu
        split at hf
        · rename_i hk
          subst hk
          obtain ⟨m, hc, he, _⟩ := DataW.trod_int hu h
          cases he
          rw [hc]
          exact Option.some.inj hf
        · cases hf
      · rename_i l hu
        obtain ⟨m, hc, he, _⟩ := DataW.trod_string hu h
        cases he
        rw [hc]
        exact Option.some.inj hf
      · rename_i fs ds hu
        simp only [DataW.trod, hu] at h
        split at h
        · rename_i hl
          obtain ⟨xs, hm, hx⟩ := Option.map_eq_some_iff.1 h
          simp only [Prod.mk.injEq, DataW.agg.injEq] at hx
          obtain ⟨rfl, _⟩ := hx
          obtain ⟨v, hv, hf⟩ := Option.bind_eq_some_iff.1 hf
          split at hf
          · rename_i hvl
            have h2 := flatL_mapM (cs := cs) (fun t cs d p vs => ih f t cs d p vs) (fs.toList.map fun f => (f.type, f.offset)) xs 0 v (by rw [mapM_map]; exact hm) hv
            rw [List.drop_zero, hvl, ← hl, List.take_length] at h2
            rw [h2]
            exact Option.some.inj hf
          · cases hf
        · cases h
      · rename_i n e ds hu
        simp only [DataW.trod, hu] at h
        split at h
        · rename_i hl
          obtain ⟨xs, hm, hx⟩ := Option.map_eq_some_iff.1 h
          simp only [Prod.mk.injEq, DataW.agg.injEq] at hx
          obtain ⟨rfl, _⟩ := hx
          obtain ⟨v, hv, hf⟩ := Option.bind_eq_some_iff.1 hf
          split at hf
          · rename_i hvl
            have h2 := flatL_mapM (cs := cs) (fun t cs d p vs => ih f t cs d p vs) ((List.range n).map fun i => (e, i * P.cellsOf e)) xs 0 v (by rw [mapM_map]; exact hm) hv
            rw [List.drop_zero, hvl, ← hl, List.take_length] at h2
            rw [h2]
            exact Option.some.inj hf
          · cases hf
        · cases h
      · cases hf
/-- A variable that is listed holds the cells of its datum. -/
theorem laid_cells {P : Program} {w : World} : ∀ (laid : List (String × DataW Unit)) (ps : List MemPlace), DataW.LaidVars P w laid ps → ∀ (name : String) (d : DataW Unit), (name, d) ∈ laid →
    ∀ (g t f : Nat) (vs : List Value), P.globalNamed name = some g → (P.globals[g]?).map (·.type) = some t → flatD P f t d = some vs → w.var? P name = some vs.toArray
  | [], _, _, _, _, hm, _, _, _, _, _, _, _ => by cases hm
  | (n, d0) :: r, ps, h, name, d, hm, g, t, f, vs, hg, ht, hf => by
    obtain ⟨g', t', cs, fuel, p, q, hg', ht', hv, htr, hr, _⟩ := h
    rcases List.mem_cons.1 hm with e | hm
    · cases e
      obtain rfl := Option.some.inj (hg.symm.trans hg')
      obtain rfl := Option.some.inj (ht.symm.trans ht')
      rw [hv, ← flat_trod fuel f t cs.toList _ p vs htr hf]
    · exact laid_cells r q hr name d hm g t f vs hg ht hf
theorem block_of_var {P : Program} {w : World} {name : String} {g : Nat} {cs : Array Value} (hg : P.globalNamed name = some g) (h : w.var? P name = some cs) : ∃ T f, w.heap[g]? = some (.cells cs T f) := by
  simp only [World.var?, hg, Option.bind_some] at h
  split at h
  · rename_i cs' T f hb
    cases h
    exact ⟨T, f, hb⟩
  · cases h
theorem laid_var {P : Program} {w : World} {laid : List (String × DataW Unit)} (h : laidMet P laid w) (name : String) (d : DataW Unit) (hm : (name, d) ∈ laid) (g f : Nat) (vs : List Value)
    (hg : P.globalNamed name = some g) (hf : (((P.globals[g]?).map (·.type)).bind fun t => flatD P f t d) = some vs) : w.var? P name = some vs.toArray := by
  obtain ⟨ps, hl, _⟩ := h
  obtain ⟨t, ht, hf⟩ := Option.bind_eq_some_iff.1 hf
  exact laid_cells laid ps hl name d hm g t f vs hg ht hf
theorem laid_block {P : Program} {w : World} {laid : List (String × DataW Unit)} (h : laidMet P laid w) (name : String) (d : DataW Unit) (hm : (name, d) ∈ laid) (g f : Nat) (vs : List Value)
    (hg : P.globalNamed name = some g) (hf : (((P.globals[g]?).map (·.type)).bind fun t => flatD P f t d) = some vs) : ∃ T fr, w.heap[g]? = some (.cells vs.toArray T fr) :=
  block_of_var hg (laid_var h name d hm g f vs hg hf)
/-- A table of runs, out of a block. -/
theorem tab_of {w : World} {g : Nat} {T : TypeId} {fr : Nat × Nat} (t : List (Nat × Nat)) (h : w.heap[g]? = some (.cells (t.flatMap fun p => [Value.int .i64 p.1, Value.int .i64 p.2]).toArray T fr)) : Tab w g t := by
  intro i p hp
  have key : ∀ (t : List (Nat × Nat)) (i : Nat) (p : Nat × Nat), t[i]? = some p → (t.flatMap fun p => [Value.int .i64 p.1, Value.int .i64 p.2])[i * 2]? = some (.int .i64 p.1) ∧ (t.flatMap fun p => [Value.int .i64 p.1, Value.int .i64 p.2])[i * 2 + 1]? = some (.int .i64 p.2) := by
    intro t
    induction t with
    | nil => intro i p h; simp at h
    | cons x t ih =>
      intro i p h
      cases i with
      | zero => simp at h; subst h; exact ⟨rfl, rfl⟩
      | succ i =>
        have := ih i p (by simpa using h)
        rw [show (i + 1) * 2 = i * 2 + 2 by omega]
        simpa [List.flatMap_cons] using this
  have := key t i p hp
  rw [cell_of _ h, cell_of _ h, List.getElem?_toArray, List.getElem?_toArray]
  exact this
/-- The cells of a datum, whatever its type. -/
def flatV : Nat → DataW Unit → List Value
  | f + 1, .lit (.int k n) => [.int k n]
  | f + 1, .lit (.string l) => [.string ⟨l.toArray⟩]
  | f + 1, .agg ds => ds.flatMap (flatV f)
  | _, _ => []
def layObj (vs : Array Value) : Obj → Obj
  | .cells _ t frozen => .cells vs t frozen
  | o => o
def layHeap (l : List (Nat × DataW Unit)) (h : Array Obj) : Array Obj := l.foldl (fun h x => h.modify x.1 (layObj (flatV 8 x.2).toArray)) h
/-- A world for a witness: the settled one, the listed variables' blocks holding what is listed. -/
noncomputable def laidWorldOf (l : List (Nat × DataW Unit)) (os : Os) : World :=
  { World.holding Tryd.prog os ⟨#[], #[], []⟩ with heap := layHeap l (World.holding Tryd.prog os ⟨#[], #[], []⟩).heap }
end Go.Proofs.YtljmpghijlibaaaDoor
