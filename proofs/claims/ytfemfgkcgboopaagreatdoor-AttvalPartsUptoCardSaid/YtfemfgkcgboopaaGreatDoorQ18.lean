/- Texts of ours, joined: EaB, GsA. -/
import Derived.Test.YtfemfgkcgboopaaGreatDoorRows
import Derived.WalkKit
import Derived.ProofKit
import Derived.OpenShut
import Derived.ShutString
import Derived.ChangeOld
import Derived.Below
import Derived.BigQuiet
import Derived.Deep.QuietTactic
import Derived.Lib.Hide
import Derived.Deep.RegionHeld3
import Derived.Lib.SlBytesConst
import Derived.Laws.CopyOwn
import Derived.Laws.CopyRow
import Derived.Lib.Bytes
import Derived.Deep.LoopGhost
import Derived.Deep.DeepFit
import Derived.Deep.DeepMust
import Derived.WalkSpells
import Derived.WalkLawsBesides
import Derived.Laws.EntriesVeiled
import Derived.Laws.Rows
import Derived.RangeFuncNested
import Derived.RangeFuncBound
import Derived.RangeFuncCalls
import Derived.RangeFuncLeaves
import Derived.RangeFuncBox
import Derived.RangeFuncWrites
import Derived.Shelf.Abstract
import Derived.Shelf.RegionOpen
import Derived.OwnWalkIn
import Derived.TacticsInMore
import Derived.LoopNIn
import Derived.LoopIn
import Derived.Maps.AppendAt
import Derived.Maps.OwnIn
import Derived.Maps.OwnOps
import Derived.Maps.OwnSet
import Derived.Maps.Views
import Derived.DeepKeys4
import Derived.MapViews
import Derived.Maps.Keyed
import Derived.Test.YtfemfgkcgboopaaGreatDoorQ1
import Derived.Test.YtfemfgkcgboopaaGreatDoorQ13
import Derived.Test.YtfemfgkcgboopaaGreatDoorQ16
import Derived.Test.YtfemfgkcgboopaaGreatDoorQ2
import Derived.Test.YtfemfgkcgboopaaGreatDoorQ3
import Derived.Test.YtfemfgkcgboopaaGreatDoorQ4
import Derived.Test.YtfemfgkcgboopaaGreatDoorQ9
import Derived.Test.YtfemfgkcgboopaaGreatDoorQ17
import Derived.Test.YtfemfgkcgboopaaGreatDoorQ14
import Derived.Test.YtfemfgkcgboopaaGreatDoorQ10
/- refs.Each: names, each once. -/
namespace Go.Proofs.YtfemfgkcgboopaaGreatDoor
open Go.ChangeShapes Go.WideShapes Go.ChangeAt Go.RowKit
set_option linter.unusedVariables false
attribute [local go_sem] Oper.semAt_some
theorem refsEach_c (l : List UInt8) (w : World) : Calls Tryz.prog 63 #[.string ⟨l.toArray⟩] w fun e w' => e = .returned (.func (.func 85) #[] #[.pointer (some ⟨w.heap.size, 0, none⟩)]) ∧ w' = w.alloc (.cells #[.string ⟨l.toArray⟩] 9) := by
  go_enter Tryz.func63, Tryz.ntmps63
  go_wp2
  go_ret
  exact ⟨rfl, rfl⟩
theorem lawSg : Go.Maps.Keyed Tryz.prog 9 := Go.Maps.string_keyed Tryz.underlying9
theorem zeroIg (w : World) : (zeroValue 3).run Tryz.prog w = .ok (.int .i64 0) w := by kernel_rfl
theorem keySg {s : List UInt8} (h : s.length ≤ 9000000000000000000) : keyOf Tryz.prog 9 (.string ⟨s.toArray⟩) = some (.string s) := by
  have := Go.WideMaps.keyOf_string_mk (P := Tryz.prog) Tryz.underlying9 (s := ⟨s.toArray⟩) (by simp [ByteArray.size]; unfold maxLen; omega)
  simpa using this
/-- How often each name came, in a map. -/
def CntS (w : World) (b : Nat) (acc : List (List UInt8)) : Prop := ∃ D : DataW Unit, w.ownsMap Tryz.prog 9 (Go.plainElem Tryz.prog 3) b acc.length D ∧ ∀ s : List UInt8, D.atKey (.string s) (.lit (.int .i64 0)) = .lit (.int .i64 (acc.count s : Nat))
theorem CntS.start (w : World) : CntS (w.alloc (.map #[] 0)) w.heap.size [] := ⟨.map [], World.ownsMap_made _ _ _ _, fun s => rfl⟩
theorem CntS.kept {w w' : World} {b : Nat} {acc : List (List UInt8)} (h : CntS w b acc) (hb : w'.heap[b]? = w.heap[b]?) : CntS w' b acc := by
  obtain ⟨D, ⟨es, clock, hq, r⟩, h2⟩ := h
  exact ⟨D, ⟨es, clock, hb.trans hq, r⟩, h2⟩
theorem CntS.lt {w : World} {b : Nat} {acc : List (List UInt8)} (h : CntS w b acc) : b < w.heap.size := by
  obtain ⟨D, h1, _⟩ := h
  exact h1.lt
theorem cntS_snoc {D : DataW Unit} {acc : List (List UInt8)} {x : List UInt8} (hi : Go.Maps.IsMap D) (h : ∀ s : List UInt8, D.atKey (.string s) (.lit (.int .i64 0)) = .lit (.int .i64 (acc.count s : Nat))) :
    ∀ s : List UInt8, (D.put (.string x) (.lit (.int .i64 ((acc.count x + 1 : Nat) : Int)))).atKey (.string s) (.lit (.int .i64 0)) = .lit (.int .i64 ((acc ++ [x]).count s : Nat)) := by
  intro s
  rw [List.count_append]
  by_cases e : x = s
  · subst e
    rw [Go.Maps.atKey_put_same hi (by simp [WideAt.IsKeyLit])]
    simp
  · rw [Go.Maps.atKey_put_other (by simpa using fun h => e h.symm), h]
    simp [e]
theorem plainOut_len (l : List UInt8) (k : Nat) : (plainOut l k).1.length ≤ 1024 := by
  unfold plainOut
  dsimp only
  split
  · simp
  · split
    · simp
    · rw [List.length_take]
      omega
theorem refOut_len (l : List UInt8) (k : Nat) : (refOut 38 l k).1.length ≤ 1024 := by
  have h := plainOut_len l (k + 1)
  unfold refOut
  split
  · simp
  · split
    · split
      · simp
      · split
        · split
          · exact h
          · simp
        · simp
    · simp
theorem rfsF_len (l : List UInt8) : ∀ (f k : Nat), ∀ x ∈ rfsF l f k, x.2.2.length ≤ 1024 := by
  intro f
  induction f with
  | zero => intro k x hx; cases hx
  | succ f ih =>
    intro k x hx
    unfold rfsF at hx
    split at hx
    · cases hx
    · split at hx
      · rcases List.mem_cons.1 hx with rfl | hx
        · exact refOut_len l k
        · exact ih _ x hx
      · exact ih _ x hx
theorem onceL_snoc (l : List (List UInt8)) (s : List UInt8) : onceL (l ++ [s]) = onceF (onceL l) s := by
  unfold onceL
  rw [List.foldl_append]
  rfl
theorem mem_once (l : List (List UInt8)) (s : List UInt8) : s ∈ onceL l ↔ s ∈ l := by
  have aux : ∀ (l a : List (List UInt8)), s ∈ l.foldl onceF a ↔ s ∈ a ∨ s ∈ l := by
    intro l
    induction l with
    | nil => intro a; simp
    | cons x l ih =>
      intro a
      rw [List.foldl_cons, ih, List.mem_cons]
      unfold onceF
      split
      · rename_i h
        constructor
        · rintro (h2 | h2)
          · exact .inl h2
          · exact .inr (.inr h2)
        · rintro (h2 | rfl | h2)
          · exact .inl h2
          · exact .inl h
          · exact .inr h2
      · rw [List.mem_append, List.mem_singleton]
        constructor
        · rintro ((h2 | h2) | h2)
          · exact .inl h2
          · exact .inr (.inl h2)
          · exact .inr (.inr h2)
        · rintro (h2 | h2 | h2)
          · exact .inl (.inl h2)
          · exact .inl (.inr h2)
          · exact .inr h2
  rw [show onceL l = l.foldl onceF [] from rfl, aux]
  simp
/-- While names are gathered: the box of the row, the map, its box. -/
def EaI (S : Nat) (w : World) (pre : List (Nat × Nat × List UInt8)) (W : World) : Prop :=
  (∃ v, Boxed W S 45 v ∧ OwnC cS1 1 9 W (S + 4) v (onceL (pre.map (fun r => r.2.2)))) ∧ CntS W (S + 1) (pre.map (fun r => r.2.2)) ∧ Boxed W (S + 2) 93 (.map (some (S + 1))) ∧ Below S w W ∧ S + 4 ≤ W.heap.size
theorem EaI.grown {S : Nat} {w W W' : World} {pre : List (Nat × Nat × List UInt8)} {row : Option Nat} (h : EaI S w pre W) (hS : S ≤ w.heap.size) (hg : W.grownBy W' row) (hr : ∀ r, row = some r → r = S + 3 ∨ (S + 4 ≤ r ∧ ∃ o : Obj, W.heap[r]? = some o ∧ o.isCells = false)) : EaI S w pre W' := by
  obtain ⟨⟨v, h1, h2⟩, h3, h4, h5, h6⟩ := h
  have hne : ∀ k, k < S + 3 → row ≠ some k := fun k hk e => by
    rcases hr k e with h | h
    · omega
    · omega
  refine ⟨⟨v, (hg.block S (by omega) (fun e => hne S (by omega) e.symm)).trans h1, ?_⟩, h3.kept (hg.block _ (by omega) (fun e => hne _ (by omega) e.symm)), (hg.block _ (by omega) (fun e => hne _ (by omega) e.symm)).trans h4, h5.grown hg (by omega) (fun k hk => by rcases hr k hk with h | h <;> omega), Nat.le_trans h6 hg.size⟩
  obtain ⟨hl, hv | ⟨g, cap, cur, hv, hgb, hh, r⟩⟩ := h2
  · exact ⟨hl, .inl hv⟩
  · refine ⟨hl, .inr ⟨g, cap, cur, hv, hgb, (hg.block g (lt_of hh) (fun e => ?_)).trans hh, r⟩⟩
    rcases hr g e.symm with h | ⟨_, o, ho, hc⟩
    · omega
    · rw [hh] at ho
      cases ho
      simp [Obj.isCells] at hc
theorem ea_step {S B : Nat} {v : Value} {acc : List (List UInt8)} {W X : World} (hS : S + 4 ≤ B) (h0 : Boxed W S 45 v) (h1 : CntS W (S + 1) acc) (hB : Below S W X) (h3 : X.heap[S + 3]? = W.heap[S + 3]?) (hR : ∀ (k : Nat) (o : Obj), W.heap[k]? = some o → k ≠ S → k ≠ S + 1 → (∀ vs f, o ≠ .cells vs 9 f) → X.heap[k]? = some o) : KeepsFrom B W X ∧ KpR S (S + 3) W X := by
  refine ⟨⟨hB.size, fun k o hk ho hc => hR k o ho (by omega) (by omega) (fun vs f e => by rw [e] at hc; simp [Obj.isCells] at hc)⟩, hB, h3, fun k vs f hk => ?_⟩
  by_cases hk0 : k = S
  · subst hk0
    unfold Boxed at h0
    rw [h0] at hk
    cases hk
  · by_cases hk1 : k = S + 1
    · subst hk1
      obtain ⟨D, ⟨es, clock, hq, r⟩, _⟩ := h1
      rw [hq] at hk
      cases hk
    · exact hR k _ hk hk0 hk1 fun vs f e => by cases e
set_option maxRecDepth 100000 in
set_option maxHeartbeats 8000000 in
theorem refsEachL_c (l : List UInt8) (w : World) (hF : Forms w) (hT : Tabs w) (hm : l.length ≤ 20000) : Calls Tryz.prog 44 #[.string ⟨l.toArray⟩] w fun e w' => ∃ OA oc, e = .returned (.slice OA (eachL l).length oc) ∧ OwnC cS1 1 9 w' w.heap.size (.slice OA (eachL l).length oc) (eachL l) ∧ Below w.heap.size w w' := by
  have HFT := Lib.hid (And.intro hF hT)
  have hmm := @run_makeMap Tryz.prog
  clear hF hT
  refine (callsIn_wide (n := 5)).1 ?_
  refine callsIn_of_wp_marks Tryz.func44 rfl trivial ?_ rfl
  simp only [Tryz.ntmps44, List.size_toArray, List.length_cons, List.length_nil, Nat.reduceAdd, Nat.reduceSub, Array.replicate_succ, Array.replicate_zero, List.push_toArray, List.append_toArray, List.nil_append, List.cons_append]
  gi_wp2_with fail
  refine ⟨trivial, (callsIn_wide.2 (refsEach_c l _)).mono ?_⟩
  rintro e w2 ⟨rfl, rfl⟩
  gi_wp2_with fail
  clear hmm
  have b0 := (((Boxed.new w 45 (.slice none 0 0)).alloc (.map #[] 0)).alloc (.cells #[.map (some (w.heap.size + 1))] 93)).alloc (.cells #[.string ⟨l.toArray⟩] 9)
  have b1 := CntS.start (w.alloc (.cells #[.slice none 0 0] 45))
  have b2 := (Boxed.new ((w.alloc (.cells #[.slice none 0 0] 45)).alloc (.map #[] 0)) 93 (.map (some (w.heap.size + 1)))).alloc (.cells #[.string ⟨l.toArray⟩] 9)
  have b3 := Boxed.new (((w.alloc (.cells #[.slice none 0 0] 45)).alloc (.map #[] 0)).alloc (.cells #[.map (some (w.heap.size + 1))] 93)) 9 (.string ⟨l.toArray⟩)
  simp only [World.size_alloc] at b1 b2 b3
  have b1' : CntS ((((w.alloc (.cells #[.slice none 0 0] 45)).alloc (.map #[] 0)).alloc (.cells #[.map (some (w.heap.size + 1))] 93)).alloc (.cells #[.string ⟨l.toArray⟩] 9)) (w.heap.size + 1) [] := b1.kept (by rw [Below.heap_alloc _ _ _ (by first | (simp; done) | (simp; omega)), Below.heap_alloc _ _ _ (by simp)])
  have hB0 : Below w.heap.size w ((((w.alloc (.cells #[.slice none 0 0] 45)).alloc (.map #[] 0)).alloc (.cells #[.map (some (w.heap.size + 1))] 93)).alloc (.cells #[.string ⟨l.toArray⟩] 9)) := ((((Below.refl _ w).alloc (Nat.le_refl _) _).alloc (by simp) _).alloc (by first | (simp; done) | (simp; omega)) _).alloc (by first | (simp; done) | (simp; omega)) _
  have hsz : ((((w.alloc (.cells #[.slice none 0 0] 45)).alloc (.map #[] 0)).alloc (.cells #[.map (some (w.heap.size + 1))] 93)).alloc (.cells #[.string ⟨l.toArray⟩] 9)).heap.size = w.heap.size + 4 := by simp
  clear b1
  generalize hS0 : w.heap.size = S at *
  generalize hW0 : ((((w.alloc (.cells #[.slice none 0 0] 45)).alloc (.map #[] 0)).alloc (.cells #[.map (some (S + 1))] 93)).alloc (.cells #[.string ⟨l.toArray⟩] 9)) = W0 at *
  have HI0 : EaI S w [] W0 := ⟨⟨_, b0, OwnC.start _ _ _ _ _⟩, b1', b2, hB0, by omega⟩
  have HSEQ : SeqBox Fence.wide (5 - 1) Tryz.prog 85 #[.pointer (some ⟨S + 1 + 1 + 1, 0, none⟩)] encR (S + 3) (KpR S (S + 3)) (fun ys => ys = rfsA l 0) (fun ys => ys <+: rfsA l 0) W0 := fun lr J W hW hJ hY h0 =>
    (each1_in 4 (by omega) lr (S + 3) l J w W hJ (by rw [hS0]; exact hY) ((hW.block _ (by omega)).trans b3) HFT.out.1 HFT.out.2 (by rw [hS0]; exact hB0.trans (hW.mono (by omega))) hm h0).mono fun e W' ⟨hv, hj⟩ => ⟨hv, _, rfl, hj⟩
  clear b0 b1' b2 b3
  refine wpIn_rangeFunc_box rfl (by omega) (gf := 85) (lb := #[.pointer (some ⟨S + 1 + 1 + 1, 0, none⟩)]) rfl trivial (enters_of Tryz.func85 (by kernel_rfl) rfl) HSEQ (by rw [hsz]; omega) KpR.trans
    (fun W l o o' hl ho hc _ => ⟨(Below.refl S W).grown (grownBy_putObj' W l o') (by have := lt_of ho; omega) (fun k e => by cases e; omega), World.putObj_heap_other (by omega), fun k vs f hk => by
      by_cases hkl : k = l
      · subst hkl
        rw [hk] at ho
        cases ho
        simp [Obj.isCells] at hc
      · rw [World.putObj_heap_other hkl]
        exact hk⟩) (Below.refl _ _) (fun _ => rfl)
    (EaI S w) (fun pre W W' row h hg hr => h.grown (by omega) hg fun r e => .inr ⟨by have := (hr r e).1; omega, (hr r e).2⟩) (fun pre W W' row h hg hr => h.grown (by omega) hg fun r e => .inl (hr r e)) HI0
    (fun x a' W => ∃ g, S + 4 ≤ g ∧ a' = { tmps := #[.string ⟨l.toArray⟩, undef, .slice none 0 0, .pointer (some ⟨S, 0, none⟩), .pointer (some ⟨S + 1 + 1, 0, none⟩), .pointer (some ⟨g, 0, none⟩), .map (some (S + 1)), .string ⟨l.toArray⟩, .func (.func 85) #[] #[.pointer (some ⟨S + 1 + 1 + 1, 0, none⟩)], .agg #[.int .i64 (x.1 : Nat), .int .i64 (x.2.1 : Nat), .string ⟨x.2.2.toArray⟩], undef, undef, undef, undef, undef, undef, undef, undef, undef, undef, undef, undef, undef, undef, undef, undef], defers := [] } ∧ W.heap[g]? = some (.cells #[.int .i64 (x.1 : Nat), .int .i64 (x.2.1 : Nat), .string ⟨x.2.2.toArray⟩] 124 (0, 0)))
    ?hAx ?assign ?body ?done
  case hAx =>
    rintro x a' _ W W' row ⟨g, h1, h2, h3⟩ hg hr
    refine ⟨g, h1, h2, (hg.block g (lt_of h3) fun e => ?_).trans h3⟩
    obtain ⟨_, o, h4, h5⟩ := hr g e.symm
    rw [h3] at h4
    cases h4
    simp [Obj.isCells] at h5
  case assign =>
    rintro lr pre x W hI hgd
    have hBs := hI.2.2.2.2
    have hI2 : EaI S w pre (W.alloc (.cells #[.int .i64 (x.1 : Nat), .int .i64 (x.2.1 : Nat), .string ⟨x.2.2.toArray⟩] 124)) := hI.grown (by omega) (World.grownBy_alloc W _ none) (fun r e => by cases e)
    unfold encR
    gi_wp2
    exact ⟨(KeepsOthers.alloc W _).from _, ⟨(Below.refl _ W).alloc (by omega) _, Below.heap_alloc W _ _ (by omega), fun k vs f hk => by rw [Below.heap_alloc W _ _ (lt_of hk)]; exact hk⟩, hI2, W.heap.size, by omega, rfl, World.alloc_heap_new W _⟩
  case body =>
    rintro lr pre ⟨k, nx, s⟩ a' W hI ⟨g, hg, rfl, hcell⟩ hgd
    dsimp only at hcell ⊢
    have hmem : (k, nx, s) ∈ rfsA l 0 := hgd.subset (by simp)
    have hsl : s.length ≤ 1024 := rfsF_len l _ _ _ hmem
    have hplen : pre.length ≤ 20000 := by
      have h1 := hgd.length_le
      have h2 := rfsA_len l l.length 0 (by omega)
      rw [List.length_append] at h1
      omega
    have KEY := Lib.hid (keySg (s := s) (by omega))
    have HI := Lib.hid hI
    obtain ⟨⟨v, h1, h2⟩, h3, h4, h5, h6⟩ := hI
    obtain ⟨D, hown, hat⟩ := h3
    have c4 : W.cell? ⟨S + 1 + 1, 0, none⟩ = some (.map (some (S + 1))) := h4.cell
    have g2 : W.cell? ⟨g, 2, none⟩ = some (.string ⟨s.toArray⟩) := by rw [cell_of 2 hcell]; rfl
    obtain ⟨nms, hnms⟩ : ∃ p, pre.map (fun r => r.2.2) = p := ⟨_, rfl⟩
    have hnms2 : (pre ++ [(k, nx, s)]).map (fun r => r.2.2) = nms ++ [s] := by rw [List.map_append, hnms]; rfl
    have hnl : nms.length = pre.length := by rw [← hnms]; simp
    rw [hnms] at h2 hown hat
    obtain ⟨ct, hct⟩ : ∃ p, nms.count s = p := ⟨_, rfl⟩
    have hcl : ct ≤ nms.length := by rw [← hct]; exact List.count_le_length
    have hc0 : (0 : Int) ≤ (ct : Int) := by omega
    have hc9 : (ct : Int) ≤ 20000 := by omega
    have HC1 : Hid (∀ c' : Int, D.atKey (.string s) (.lit (.int .i64 0)) = .lit (.int .i64 c') → c' = (ct : Int)) := Lib.hid fun c' h => by
      have := h.symm.trans (hat s)
      rw [hct] at this
      simpa using this
    have HIS : Go.Maps.IsMap D := by obtain ⟨es, clock, hb, _, _, rfl⟩ := hown; exact ⟨_, rfl⟩
    have hsn := cntS_snoc (x := s) HIS hat
    rw [hct] at hsn
    have HC2 : Hid (∀ c' : Int, (D.put (.string s) (.lit (.int .i64 ((ct : Int) + 1)))).atKey (.string s) (.lit (.int .i64 0)) = .lit (.int .i64 c') → c' = (ct : Int) + 1) := Lib.hid fun c' h => by
      have h9 := h.symm.trans (hsn s)
      rw [List.count_append, hct] at h9
      simpa using h9
    have HSN := Lib.hid hsn
    have HCNT := Lib.hid (And.intro hown hat)
    have hwf : (Lit.int .i64 ((ct : Int) + 1)).wf = true := by
      simp only [Lit.wf, IntKind.min, IntKind.max, Bool.and_eq_true]
      constructor <;> (simp [IntKind.bits, IntKind.signed] <;> omega)
    have hmx : nms.length < maxLen := by unfold maxLen; omega
    have HNM := Lib.hid (And.intro hnms2 (And.intro hnl hct))
    have hnl9 : nms.length ≤ 20000 := by omega
    have HCELL := Lib.hid (And.intro hcell (And.intro h1 (And.intro h2 (And.intro h4 (And.intro h5 h6)))))
    clear hnl hplen hmem hgd hsn HIS hcell hnms hnms2 hct hat h1 h2 h4 h5 h6 HI
    have hW6 : S + 4 ≤ W.heap.size := HCELL.out.2.2.2.2.2
    by_cases hz : ct = 0
    · have hb1 : (((ct : Nat) : Int) + 1 == 1) = true := by simp [hz]
      have hns : s ∉ nms := by rw [← List.count_eq_zero, HNM.out.2.2]; exact hz
      have HON : Hid (onceL (nms ++ [s]) = onceL nms ++ [s]) := Lib.hid (by rw [onceL_snoc]; unfold onceF; rw [if_neg (by rw [mem_once]; exact hns)])
      clear hz hns
      obtain ⟨i0, hi, hz0, hz1, hz2⟩ := info_str
      gi_wp2_with (first | (gi_at_lookup; refine wpListIn_lookup_own_int _ rfl _ _ 93 rfl 9 3 .i64 lawSg Tryz.underlying93 Tryz.underlying3 (zeroIg _) (S + 1) _ D rfl hown _ _ rfl KEY.out ?_; intro c' hat' hwc'; obtain rfl := HC1.out c' hat'; clear hat' hwc') | (gi_at_mapUpdate; refine wpListIn_mapUpdate_own _ rfl _ _ _ 93 rfl 9 3 lawSg Tryz.underlying93 _ (S + 1) _ D rfl hown hmx _ _ _ rfl rfl KEY.out _ [] (plainElem_int Tryz.underlying3 hwf) ?_))
      intro w3 hown3 hg3
      have hs3 := hg3.size
      have e34 : w3.heap[S + 1 + 1]? = W.heap[S + 1 + 1]? := hg3.block _ (by omega) (fun e => by have := Option.some.inj e; omega)
      have e30 : w3.heap[S]? = W.heap[S]? := hg3.block _ (by omega) (fun e => by have := Option.some.inj e; omega)
      have d4 : w3.cell? ⟨S + 1 + 1, 0, none⟩ = some (.map (some (S + 1))) := (World.cell?_of_block (a := ⟨S + 1 + 1, 0, none⟩) e34).trans c4
      have e3g : w3.heap[g]? = W.heap[g]? := hg3.block g (lt_of HCELL.out.1) (fun e => by have := Option.some.inj e; omega)
      have e2 : w3.cell? ⟨g, 2, none⟩ = some (.string ⟨s.toArray⟩) := (World.cell?_of_block (a := ⟨g, 2, none⟩) e3g).trans g2
      have b30 : Boxed w3 S 45 v := e30.trans HCELL.out.2.1
      have d0 := b30.cell
      have hB3 : Below S W w3 := (Below.refl S W).grown hg3 (by omega) (fun k hk => by have := Option.some.inj hk; omega)
      have hO3 : OwnC cS1 1 9 w3 (S + 4) v (onceL nms) := HCELL.out.2.2.1.keep fun q hq1 hq2 => hg3.block q hq2 (fun e => by have := Option.some.inj e; omega)
      have HW3 := Lib.hid (And.intro hg3 (And.intro hB3 (And.intro hO3 (And.intro hown3 (And.intro e34 b30)))))
      clear c4 g2 hown hwf hmx hg3 hB3 e34 e30 e3g
      have hol : (onceL nms).length ≤ 20000 := by have := once_le nms []; unfold onceL; simp only [List.length_nil] at this; omega
      have hownA : (w3.alloc (.cells #[.string ⟨s.toArray⟩] 9)).ownsRow (S + 4) 9 1 v (onceL nms).length ((onceL nms).flatMap cS1) := hO3.kept ((Below.refl _ _).alloc (Nat.le_refl _) _)
      have hcA : ∀ (j : Nat) u, (cS1 s)[j]? = some u → (w3.alloc (.cells #[.string ⟨s.toArray⟩] 9)).cell? ((⟨w3.heap.size, 0, none⟩ : Addr).add j) = some u := fun j u hu => cell_newN w3 (cS1 s) 9 j u hu
      have h63 : (onceL nms).length + 1 ≤ maxLen := by unfold maxLen; omega
      have hby : ((onceL nms).length + 1) * 16 ≤ 140737488355328 := by omega
      have hbA : S + 4 ≤ (w3.alloc (.cells #[.string ⟨s.toArray⟩] 9)).heap.size := by rw [World.size_alloc]; omega
      obtain ⟨A0, c0, hv0⟩ := hO3.form
      subst hv0
      clear hO3
      gi_wp2_with (first | (gi_at_lookup; refine wpListIn_lookup_own_int _ rfl _ _ 93 rfl 9 3 .i64 lawSg Tryz.underlying93 Tryz.underlying3 (zeroIg _) (S + 1) _ _ rfl hown3 _ _ rfl KEY.out ?_; intro c' hat' hwc'; obtain rfl := HC2.out c' hat'; clear hat' hwc') | (gi_at_builtin; refine wpListIn_append_own_at _ rfl (.tmp 20) (.tmp 23) 45 rfl (S + 4) 9 i0 (.string ⟨#[]⟩) 1 16 Tryz.underlying45 hi hz0 hz1 hz2 rfl (by decide) _ _ _ rfl hownA ⟨w3.heap.size, 0, none⟩ 1 1 (cS1 s) rfl rfl hcA (by simp [cS1, Value.oneCell']) h63 hby hbA ?_))
      intro v6 w6 hown6 hg6 _ _
      have hs6 := hg6.size
      rw [World.size_alloc] at hs6
      have hne : ∀ k, k < S + 4 → some k ≠ (Value.slice A0 (onceL nms).length c0).ownBlock := fun k hk e => by have := (HW3.out.2.2.1.ge e.symm).2; omega
      have b60 : Boxed w6 S 45 (.slice A0 (onceL nms).length c0) := (hg6.block S (by rw [World.size_alloc]; omega) (hne S (by omega))).trans (hp_old HW3.out.2.2.2.2.2)
      have O6 : OwnC cS1 1 9 w6 (S + 4) v6 (onceL nms ++ [s]) := OwnC.snoc hown6
      obtain ⟨A6, c6, hv6⟩ := O6.form
      obtain ⟨n6, hn6⟩ : ∃ p, (onceL nms ++ [s]).length = p := ⟨_, rfl⟩
      rw [hn6] at hv6
      subst hv6
      have q0 := b60.cell
      have q1 := b60.frozen
      have HW6 := Lib.hid (And.intro hg6 (And.intro O6 b60))
      have HNE := Lib.hid hne
      have HWN := Lib.hid hown3
      clear hn6 hown6 hg6 hownA hcA h63 hby hbA hne b60 O6 hown3 d4 e2 b30 d0
      gi_wp2
      have hg6 := HW6.out.1
      have hX : ∀ (k : Nat) (o : Obj), W.heap[k]? = some o → k ≠ S → k ≠ S + 1 → some k ≠ (Value.slice A0 (onceL nms).length c0).ownBlock → (w6.setCell ⟨S, 0, none⟩ (.slice A6 n6 c6)).heap[k]? = some o := fun k o hk h0 h1 h2 => by
        rw [hp_other h0, hg6.block k (by rw [World.size_alloc]; have := lt_of hk; omega) h2, Below.heap_alloc _ _ _ (by have := lt_of hk; omega), HW3.out.1.block k (lt_of hk) (fun e => h1 (Option.some.inj e))]
        exact hk
      have hBX : Below S W (w6.setCell ⟨S, 0, none⟩ (.slice A6 n6 c6)) := ((HW3.out.2.1.alloc (by omega) _).grown hg6 (by rw [World.size_alloc]; omega) (fun k hk => by have := (HW3.out.2.2.1.ge hk).2; omega)).setCell (p := ⟨S, 0, none⟩) (Nat.le_refl _) _
      have hstep := ea_step (B := S + 4) (by omega) HCELL.out.2.1 ⟨D, HCNT.out⟩ hBX (by
        obtain ⟨o3, ho3⟩ : ∃ o, W.heap[S + 3]? = some o := ⟨_, Array.getElem?_eq_getElem (by omega)⟩
        rw [ho3]
        exact hX _ _ ho3 (by omega) (by omega) (HNE.out _ (by omega))) (fun k o hk h0 h1 h2 => hX k o hk h0 h1 (ownsRow_type HCELL.out.2.2.1 hk h2))
      refine ⟨by first | exact hstep.1 | (rw [hsz]; exact hstep.1), hstep.2, ⟨_, HW6.out.2.2.set _, ?_⟩, ?_, ?_, ?_, ?_⟩
      · rw [HNM.out.1, HON.out]
        exact HW6.out.2.1.keep fun q hq1 hq2 => hp_other (by omega)
      · rw [HNM.out.1]
        refine ⟨_, ?_, HSN.out⟩
        obtain ⟨es, clock, hq, r⟩ := HWN.out
        rw [List.length_append]
        exact ⟨es, clock, by rw [hp_other (by omega), hg6.block (S + 1) (by rw [World.size_alloc]; omega) (HNE.out _ (by omega)), Below.heap_alloc _ _ _ (by omega)]; exact hq, r⟩
      · exact hX _ _ HCELL.out.2.2.2.1 (by omega) (by omega) (HNE.out _ (by omega))
      · exact HCELL.out.2.2.2.2.1.trans hBX
      · have := hBX.size; omega
    · have hb1 : (((ct : Nat) : Int) + 1 == 1) = false := by
        have : ¬ (((ct : Nat) : Int) + 1 = 1) := by omega
        simpa using this
      have hns : s ∈ nms := List.count_pos_iff.1 (by rw [HNM.out.2.2]; omega)
      have HON : Hid (onceL (nms ++ [s]) = onceL nms) := Lib.hid (by rw [onceL_snoc]; unfold onceF; rw [if_pos ((mem_once nms s).2 hns)])
      clear hz hns
      gi_wp2_with (first | (gi_at_lookup; refine wpListIn_lookup_own_int _ rfl _ _ 93 rfl 9 3 .i64 lawSg Tryz.underlying93 Tryz.underlying3 (zeroIg _) (S + 1) _ D rfl hown _ _ rfl KEY.out ?_; intro c' hat' hwc'; obtain rfl := HC1.out c' hat'; clear hat' hwc') | (gi_at_mapUpdate; refine wpListIn_mapUpdate_own _ rfl _ _ _ 93 rfl 9 3 lawSg Tryz.underlying93 _ (S + 1) _ D rfl hown hmx _ _ _ rfl rfl KEY.out _ [] (plainElem_int Tryz.underlying3 hwf) ?_))
      intro w3 hown3 hg3
      have hs3 := hg3.size
      have e34 : w3.heap[S + 1 + 1]? = W.heap[S + 1 + 1]? := hg3.block _ (by omega) (fun e => by have := Option.some.inj e; omega)
      have e30 : w3.heap[S]? = W.heap[S]? := hg3.block _ (by omega) (fun e => by have := Option.some.inj e; omega)
      have d4 : w3.cell? ⟨S + 1 + 1, 0, none⟩ = some (.map (some (S + 1))) := (World.cell?_of_block (a := ⟨S + 1 + 1, 0, none⟩) e34).trans c4
      have e3g : w3.heap[g]? = W.heap[g]? := hg3.block g (lt_of HCELL.out.1) (fun e => by have := Option.some.inj e; omega)
      have e2 : w3.cell? ⟨g, 2, none⟩ = some (.string ⟨s.toArray⟩) := (World.cell?_of_block (a := ⟨g, 2, none⟩) e3g).trans g2
      have b30 : Boxed w3 S 45 v := e30.trans HCELL.out.2.1
      have d0 := b30.cell
      have hB3 : Below S W w3 := (Below.refl S W).grown hg3 (by omega) (fun k hk => by have := Option.some.inj hk; omega)
      have hO3 : OwnC cS1 1 9 w3 (S + 4) v (onceL nms) := HCELL.out.2.2.1.keep fun q hq1 hq2 => hg3.block q hq2 (fun e => by have := Option.some.inj e; omega)
      have HW3 := Lib.hid (And.intro hg3 (And.intro hB3 (And.intro hO3 (And.intro hown3 (And.intro e34 b30)))))
      clear c4 g2 hown hwf hmx hg3 hB3 e34 e30 e3g
      have HWN := Lib.hid hown3
      clear hO3
      gi_wp2_with (first | (gi_at_lookup; refine wpListIn_lookup_own_int _ rfl _ _ 93 rfl 9 3 .i64 lawSg Tryz.underlying93 Tryz.underlying3 (zeroIg _) (S + 1) _ _ rfl hown3 _ _ rfl KEY.out ?_; intro c' hat' hwc'; obtain rfl := HC2.out c' hat'; clear hat' hwc'))
      have hg3 := HW3.out.1
      have hX : ∀ (k : Nat) (o : Obj), W.heap[k]? = some o → k ≠ S + 1 → w3.heap[k]? = some o := fun k o hk h1 => by
        rw [hg3.block k (lt_of hk) (fun e => h1 (Option.some.inj e))]
        exact hk
      have hstep := ea_step (B := S + 4) (by omega) HCELL.out.2.1 ⟨D, HCNT.out⟩ HW3.out.2.1 (hg3.block _ (by omega) (fun e => by have := Option.some.inj e; omega)) (fun k o hk h0 h1 h2 => hX k o hk h1)
      refine ⟨by first | exact hstep.1 | (rw [hsz]; exact hstep.1), hstep.2, ⟨_, b30, ?_⟩, ?_, ?_, ?_, ?_⟩
      · rw [HNM.out.1, HON.out]
        exact HW3.out.2.2.1
      · rw [HNM.out.1]
        refine ⟨_, ?_, HSN.out⟩
        rw [List.length_append]
        exact HWN.out
      · exact hX _ _ HCELL.out.2.2.2.1 (by omega)
      · exact HCELL.out.2.2.2.2.1.trans HW3.out.2.1
      · omega
  case done =>
    rintro D ys W hD rfl hI hK
    have hD4 : S + 4 ≤ D := by omega
    have hI2 : EaI S w (rfsA l 0) (W.putObj D (.deferred none)) := hI.grown (by omega) (grownBy_putObj' W D (.deferred none)) (fun r e => by cases e; exact .inr ⟨hD4, _, hK, rfl⟩)
    obtain ⟨⟨v, h1, h2⟩, _, _, _, _⟩ := hI
    obtain ⟨⟨v2, g1, g2⟩, _, _, g5, _⟩ := hI2
    have hvv : v2 = v := by
      have e : (W.putObj D (.deferred none)).heap[S]? = W.heap[S]? := World.putObj_heap_other (by omega)
      unfold Boxed at h1 g1
      rw [e, h1] at g1
      cases g1
      rfl
    subst hvv
    obtain ⟨OA, oc, hv⟩ := g2.form
    have hE : onceL ((rfsA l 0).map (fun r => r.2.2)) = eachL l := rfl
    rw [hE] at hv g2
    subst hv
    have c0 := h1.cell
    have HALL := Lib.hid (And.intro g2 (And.intro g5 hK))
    clear h1 h2 g1 g2 g5 hK hE
    gi_wp2
    refine ⟨by simp, .inl ⟨_, _, rfl, run_takeDeferred HALL.out.2.2, ?_⟩⟩
    refine ⟨.slice OA (eachL l).length oc, ?_, ⟨OA, oc, rfl, by rw [hS0]; exact HALL.out.1.base (by omega), by rw [hS0]; exact HALL.out.2.1⟩⟩
    simp [results, Tryz.f44, go_sem]
end Go.Proofs.YtfemfgkcgboopaaGreatDoor
/- The stack of texts. -/
namespace Go.Proofs.YtfemfgkcgboopaaGreatDoor
open Go.ChangeShapes Go.WideShapes Go.ChangeAt Go.RowKit
set_option linter.unusedVariables false
/-- What lies on a stack of texts, from its top on: the texts' blocks. -/
def TCh (w : World) : Option Addr → List Nat → Prop
  | t, [] => t = none
  | t, x :: l => ∃ c q, t = some ⟨c, 0, none⟩ ∧ w.heap[c]? = some (.cells #[.pointer (some ⟨x, 0, none⟩), .pointer q] 99) ∧ TCh w q l
/-- A stack of texts in block b, with its room, and what lies on it (the top first). -/
def TSk (w : World) (b : Nat) (room : Int) (l : List Nat) : Prop :=
  (l.length : Int) ≤ room ∧ room ≤ 1099511627776 ∧ ∃ t, w.heap[b]? = some (.cells #[.int .i64 room, .int .i64 l.length, .pointer t] 97) ∧ TCh w t l
theorem TCh.keep {w w' : World} (h : ∀ (c : Nat) vs f, w.heap[c]? = some (.cells vs 99 f) → w'.heap[c]? = some (.cells vs 99 f)) : ∀ {l : List Nat} {t : Option Addr}, TCh w t l → TCh w' t l
  | [], _, hc => hc
  | x :: l, t, ⟨c, q, ht, hc, hl⟩ => ⟨c, q, ht, h c _ _ hc, hl.keep h⟩
theorem TSk.keep {w w' : World} {b : Nat} {room : Int} {l : List Nat} (h : ∀ (c : Nat) vs f, w.heap[c]? = some (.cells vs 99 f) → w'.heap[c]? = some (.cells vs 99 f)) (hb : ∀ o, w.heap[b]? = some o → w'.heap[b]? = some o) (s : TSk w b room l) : TSk w' b room l := by
  obtain ⟨h0, h1, t, h2, hc⟩ := s
  exact ⟨h0, h1, t, hb _ h2, hc.keep h⟩
theorem TSk.drewN {w : World} {b : Nat} {room : Int} {l : List Nat} {n : Nat} (s : TSk w b room l) : TSk (w.drewN n) b room l := TSk.keep (w := w) (w' := w.drewN n) (fun _ _ _ h => h) (fun _ h => h) s
theorem TSk.lt {w : World} {b : Nat} {room : Int} {l : List Nat} (s : TSk w b room l) : b < w.heap.size := by
  obtain ⟨_, _, t, hb, _⟩ := s; exact lt_of hb

theorem tnew_ok (room : Int) (w : World) (h0 : 0 ≤ room) (h1 : room ≤ 1099511627776) :
    Calls Tryz.prog 24 #[.int .i64 room] w fun e w' => e = .returned (.tuple #[.pointer (some ⟨w.heap.size, 0, none⟩), .int .i64 0]) ∧ TSk w' w.heap.size room [] ∧ Below w.heap.size w w' ∧ w.heap.size < w'.heap.size := by
  go_enter Tryz.func24, Tryz.ntmps24
  go_wp2
  refine bodyPost_ret (results_tmp2 rfl _ _ _) rfl ⟨rfl, ⟨by simpa using h0, h1, none, hp_new _ _, rfl⟩, (Below.refl _ _).alloc (Nat.le_refl _) _, by simp⟩

theorem tpush_ok (room : Int) (x : Nat) (l : List Nat) (b : Nat) (w : World) (s : TSk w b room l) (h : (l.length : Int) < room) :
    Calls Tryz.prog 25 #[.pointer (some ⟨b, 0, none⟩), .pointer (some ⟨x, 0, none⟩)] w fun e w' => e = .returned (.int .i64 0) ∧ TSk w' b room (x :: l) ∧ w.grownBy w' (some b) := by
  obtain ⟨h0, h1, top, hb, hch⟩ := s
  have c0 := cell_of 0 hb
  have c1 := cell_of 1 hb
  simp only [List.getElem?_toArray, List.getElem?_cons_zero, List.getElem?_cons_succ] at c0 c1
  have HB := Lib.hid hb
  clear hb
  go_enter Tryz.func25, Tryz.ntmps25
  go_wp2
  go_quiet (fail)
  clear c0 c1
  have hbq : (w.drewN nq).heap[b]? = _ := HB.out
  have hcq : TCh (w.drewN nq) top l := TCh.keep (w := w) (w' := w.drewN nq) (fun _ _ _ h => h) hch
  have hbl : w.grownBy (w.drewN nq) (some b) := (gr_refl _ _).drewN
  have hcc := Lib.hid hcq
  clear hcq hch HB
  generalize w.drewN nq = wq at *
  have c1 := cell_of 1 hbq
  have c2 := cell_of 2 hbq
  simp only [List.getElem?_toArray, List.getElem?_cons_zero, List.getElem?_cons_succ] at c1 c2
  have f1 := free_of 1 hbq
  have f2 := free_of 2 hbq
  have hl := lt_of hbq
  have HB := Lib.hid hbq
  clear hbq
  go_wp2
  refine bodyPost_ret (results_tmp rfl _ _ _) rfl ⟨rfl, ⟨by simp; omega, h1, some ⟨wq.heap.size, 0, none⟩, ?_, wq.heap.size, top, rfl, ?_, ?_⟩, ?_⟩
  · refine hp_old ?_
    have := hp_set (i := 1) (v := .int .i64 ((l.length : Int) + 1)) (hp_set (i := 2) (v := .pointer (some ⟨wq.heap.size, 0, none⟩)) HB.out)
    simpa using this
  · have := hp_new ((wq.setCell { block := b, off := 2 } (Value.pointer (some { block := wq.heap.size, off := 0 }))).setCell { block := b, off := 1 } (Value.int IntKind.i64 (↑l.length + 1))) (Obj.cells #[Value.pointer (some ⟨x, 0, none⟩), Value.pointer top] 99)
    simpa using this
  · refine hcc.out.keep fun c vs f hc => ?_
    have hcb : c ≠ b := fun e => by
      subst e
      have h9 := HB.out.symm.trans hc
      injection h9 with h9
      injection h9 with _ e2 _
      exact absurd e2 (by decide)
    have hcl := lt_of hc
    rw [Below.heap_alloc _ _ _ (by simpa using hcl), hp_other hcb, hp_other hcb]
    exact hc
  · exact ((hbl.setCell _ _).setCell _ _).alloc _

theorem tlen_of (room : Int) (l : List Nat) (b : Nat) (w : World) (s : TSk w b room l) :
    Calls Tryz.prog 93 #[.pointer (some ⟨b, 0, none⟩)] w fun e w' => e = .returned (.int .i64 l.length) ∧ w = w' := by
  obtain ⟨h0, h1, t, hb, _⟩ := s
  have c1 := cell_of 1 hb
  simp only [List.getElem?_toArray, List.getElem?_cons_zero, List.getElem?_cons_succ] at c1
  clear hb
  go_enter Tryz.func93, Tryz.ntmps93
  go_wp2
  go_ret
  exact ⟨rfl, rfl⟩

theorem ttop_none (room : Int) (b : Nat) (w : World) (s : TSk w b room []) :
    Calls Tryz.prog 64 #[.pointer (some ⟨b, 0, none⟩)] w fun e w' => e = .returned (.tuple #[.pointer none, .bool false]) ∧ w = w' := by
  obtain ⟨h0, h1, t, hb, rfl⟩ := s
  have c2 := cell_of 2 hb
  simp only [List.getElem?_toArray, List.getElem?_cons_zero, List.getElem?_cons_succ] at c2
  clear hb
  go_enter Tryz.func64, Tryz.ntmps64
  go_wp2
  go_ret2
  exact ⟨rfl, rfl⟩

theorem ttop_some (room : Int) (x : Nat) (l : List Nat) (b : Nat) (w : World) (s : TSk w b room (x :: l)) :
    Calls Tryz.prog 64 #[.pointer (some ⟨b, 0, none⟩)] w fun e w' => e = .returned (.tuple #[.pointer (some ⟨x, 0, none⟩), .bool true]) ∧ w = w' := by
  obtain ⟨h0, h1, t, hb, c, q, rfl, hc, _⟩ := s
  have c2 := cell_of 2 hb
  have d0 := cell_of 0 hc
  simp only [List.getElem?_toArray, List.getElem?_cons_zero, List.getElem?_cons_succ] at c2 d0
  clear hb hc
  go_enter Tryz.func64, Tryz.ntmps64
  go_wp2
  go_ret2
  exact ⟨rfl, rfl⟩

theorem tpop_some (room : Int) (x : Nat) (l : List Nat) (b : Nat) (w : World) (s : TSk w b room (x :: l)) :
    Calls Tryz.prog 46 #[.pointer (some ⟨b, 0, none⟩)] w fun e w' => e = .returned (.tuple #[.pointer (some ⟨x, 0, none⟩), .bool true]) ∧ TSk w' b room l ∧ w.grownBy w' (some b) := by
  have hs := s
  obtain ⟨h0, h1, t, hb, c, q, rfl, hc, hch⟩ := s
  have e1 : ((x :: l).length : Int) = (l.length : Int) + 1 := by simp
  rw [e1] at hb h0
  clear e1
  have c1 := cell_of 1 hb
  have c2 := cell_of 2 hb
  have d1 := cell_of 1 hc
  simp only [List.getElem?_toArray, List.getElem?_cons_zero, List.getElem?_cons_succ] at c1 c2 d1
  have f1 := free_of 1 hb
  have f2 := free_of 2 hb
  have HB := Lib.hid hb
  have HC := Lib.hid hch
  clear hb hc hch
  have hlen : (0 : Int) ≤ (l.length : Int) := by omega
  go_enter Tryz.func46, Tryz.ntmps46
  go_wp2_with (go_at_call 64; refine (ttop_some room x l b w hs).mono ?_; rintro e w' ⟨rfl, rfl⟩)
  refine bodyPost_ret (results_tmp2 rfl _ _ _) rfl ⟨rfl, ⟨by omega, h1, q, ?_, ?_⟩, ?_⟩
  · have := hp_set (i := 1) (v := .int .i64 (l.length : Int)) (hp_set (i := 2) (v := .pointer q) HB.out)
    simpa using this
  · refine HC.out.keep fun c vs f hc => ?_
    have hcb : c ≠ b := fun e => by
      subst e
      have h9 := HB.out.symm.trans hc
      injection h9 with h9
      injection h9 with _ e2 _
      exact absurd e2 (by decide)
    rw [hp_other hcb, hp_other hcb]
    exact hc
  · exact ((gr_refl w (some b)).setCell 2 _).setCell 1 _

theorem tattTop_none (room : Int) (b : Nat) (w : World) (s : TSk w b room []) :
    Calls Tryz.prog 45 #[.pointer (some ⟨b, 0, none⟩)] w fun e w' => e = .returned (.tuple #[.pointer none, .bool false]) ∧ w = w' := by
  go_enter Tryz.func45, Tryz.ntmps45
  go_wp2_with (go_at_call 64; refine (ttop_none room b w s).mono ?_; rintro e w' ⟨rfl, rfl⟩)
  go_ret2
  exact ⟨rfl, rfl⟩

theorem tattTop_some (room : Int) (x : Nat) (l : List Nat) (b : Nat) (w : World) (s : TSk w b room (x :: l)) :
    Calls Tryz.prog 45 #[.pointer (some ⟨b, 0, none⟩)] w fun e w' => e = .returned (.tuple #[.pointer (some ⟨x, 0, none⟩), .bool true]) ∧ w = w' := by
  go_enter Tryz.func45, Tryz.ntmps45
  go_wp2_with (go_at_call 64; refine (ttop_some room x l b w s).mono ?_; rintro e w' ⟨rfl, rfl⟩)
  go_ret2
  exact ⟨rfl, rfl⟩
end Go.Proofs.YtfemfgkcgboopaaGreatDoor
