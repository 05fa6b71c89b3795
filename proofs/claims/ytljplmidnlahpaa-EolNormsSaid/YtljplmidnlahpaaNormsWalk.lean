/- Line ends made one, of any bytes: the law's walk. Its last statement draws its order; the steps of that part were printed by a program of ours (wip/tools/gen_region.py). -/
import Derived.Test.YtljplmidnlahpaaRows
import Derived.WalkKit
import Derived.ProofKit
import Derived.OpenShut
import Derived.ShutString
import Derived.ChangeOld
import Derived.Below
import Derived.BigQuiet
import Derived.Deep.QuietTactic
import Derived.Lib.Hide
import Derived.Deep.RegionHeld3
import Derived.Lib.SlBytesConst
import Derived.Laws.CopyOwn
import Derived.Laws.CopyRow
import Derived.Lib.Bytes
import Derived.Deep.LoopGhost
import Derived.Deep.DeepFit
import Derived.Deep.DeepMust
import Derived.WalkSpells
import Derived.WalkLawsBesides
import Derived.Test.YtljplmidnlahpaaBase
import Derived.Test.YtljplmidnlahpaaShelf
import Derived.Test.YtljplmidnlahpaaEolPlain
import Derived.Test.YtljplmidnlahpaaEolWalks
import Derived.Test.YtljplmidnlahpaaEolNorm
import Derived.Test.YtljplmidnlahpaaEolNorm2
namespace Go.Proofs.Ytljplmidnlahpaa
open Go.ChangeShapes Go.WideShapes Go.ChangeAt Go.RowKit
set_option linter.unusedVariables false
theorem indexByte_none (l : List UInt8) (h : (13 : UInt8) ∉ l) : decide (Lib.indexByte l 13 < 0) = true := by
  have : Lib.indexByte l 13 = -1 := by
    induction l with
    | nil => rfl
    | cons x l ih =>
      simp only [List.mem_cons, not_or] at h
      simp [Lib.indexByte, ih h.2, Ne.symm h.1]
  simp [this]
theorem indexByte_some (l : List UInt8) (h : (13 : UInt8) ∈ l) : decide (Lib.indexByte l 13 < 0) = false := by
  have : 0 ≤ Lib.indexByte l 13 := by
    induction l with
    | nil => simp at h
    | cons x l ih =>
      simp only [Lib.indexByte]
      split
      · omega
      · rename_i hne
        have hx : (13 : UInt8) ∈ l := by
          rcases List.mem_cons.1 h with e | e
          · subst e; simp at hne
          · exact e
        have := ih hx
        split
        · rename_i h1; simp at h1; omega
        · omega
  simp; omega
def has13 (l : List UInt8) : Bool := decide ((13 : UInt8) ∈ l)
theorem indexByte_has (l : List UInt8) : decide (Lib.indexByte l 13 < 0) = !has13 l := by
  unfold has13
  by_cases h : (13 : UInt8) ∈ l
  · rw [indexByte_some l h]; simp [h]
  · rw [indexByte_none l h]; simp [h]
theorem has13_snoc (l : List UInt8) (x : UInt8) : has13 (l ++ [x]) = (has13 l || decide (x = 13)) := by
  unfold has13
  by_cases h : x = 13
  · subst h; simp
  · have : ¬ (13 : UInt8) = x := fun e => h e.symm
    simp [h, this]

theorem eolIs_has (A : Option Addr) (n cap : Nat) (l : List UInt8) (b : Bool) (hb : has13 l = b) (w : World) (B : Nat) (h : Byt w B A n cap l) :
    Calls Try.prog 33 #[.slice A n cap] w fun e w' => e = .returned (.bool (!b)) ∧ w = w' :=
  (eolIs_c A n cap l w B h).mono fun e w' ⟨he, hw⟩ => ⟨by rw [he, indexByte_has, hb], hw⟩
set_option maxRecDepth 100000 in
set_option linter.unusedSimpArgs false in
set_option maxHeartbeats 20000000 in
theorem norms_walk (A : Option Addr) (n cap : Nat) (l : List UInt8) (w : World) (h : Byt w w.heap.size A n cap l) :
    Calls Try.prog 7 #[.slice A n cap] w fun e w' => e = .returned (.bool true) ∧ Below w.heap.size w w' := by
  by_cases hn : 500 < n
  · go_enter Try.func7, Try.ntmps7
    go_wp2_with fail
    refine (liveEol_ok w).mono ?_
    rintro e w1 ⟨rfl, b1⟩
    go_wp2
    go_ret
    exact ⟨rfl, b1⟩
  · have hlen := h.length
    have hn' : n ≤ 500 := by omega
    have HL := Lib.hid hlen
    clear hlen
    go_enter Try.func7, Try.ntmps7
    go_wp2_with fail
    refine (norm_c A n cap l w _ h (Nat.le_refl _) (by omega)).mono ?_
    rintro e w1 ⟨A1, m, rfl, hy1, b1⟩
    have h1 := h.below b1
    go_wp2_with fail
    go_loopg [4, 5] (n) (fun k cr i wr => ∃ j : Nat, j ≤ n ∧ k = n - j ∧ i = .int .i64 j ∧ cr = .bool (has13 (l.take j)) ∧ w1 = wr)
    case atStart => exact ⟨0, Nat.zero_le _, rfl, rfl, rfl, rfl⟩
    case round =>
      obtain ⟨j, hj, rfl, rfl, rfl, rfl⟩ := hrel
      by_cases hlt : j < n
      · obtain ⟨b, o, x, rfl, hbB, hx, hcx⟩ := h1.cell (i := j) hlt
        have hts := take_snoc l j x hx
        have HT := Lib.hid hts
        clear hts hx
        have hjn : (j : Int) < (n : Int) := by omega
        cases hc : has13 (l.take j) with
        | true =>
          have HC := Lib.hid hc
          clear hc
          go_wp2
          go_roundg (n - (j + 1))
          case measure => omega
          case rel => exact ⟨j + 1, by omega, rfl, rfl, by rw [HT.out, has13_snoc, HC.out]; rfl, rfl⟩
        | false =>
          have HC := Lib.hid hc
          clear hc
          have ht : ((x.toNat : Int) == 13) = decide (x = 13) := toNat_eq x 13
          have HT13 := Lib.hid ht
          clear ht
          go_wp2
          go_roundg (n - (j + 1))
          case measure => omega
          case rel => exact ⟨j + 1, by omega, rfl, rfl, by rw [HT.out, has13_snoc, HC.out, HT13.out]; rfl, rfl⟩
      · have hje : j = n := by omega
        subst hje
        have hall : l.take j = l := by rw [← HL.out, List.take_length]
        rw [hall]
        clear hall
        have hjj : ¬ (j : Int) < (j : Int) := by omega
        go_wp2
        have hz1 := b1.size
        have hnr : has13 (nrm l) = false := by unfold has13; simp [nrm_no13]
        have hnn : nrm (nrm l) = nrm l := nrm_same _ (nrm_no13 l)
        have hml : (m : Int) ≤ (j : Int) := by
          have := nrm_le l
          rw [HL.out, hy1.length] at this
          omega
        have HF := Lib.hid (And.intro hnr hnn)
        clear hnr hnn
        cases hc : has13 l with
        | true | false =>
          have HC := Lib.hid hc
          clear hc
          have hs1 := hy1.drew.str
          have c32 := refNorm_c A j cap l _ _ h1.drew hz1 (by omega)
          have C32 := Lib.hid c32
          clear c32
          refine wp_region_held_drew (S := fun w' => (convert 48 9 (.slice A1 m m)).run Try.prog w' = .ok (.string ⟨(nrm l).toArray⟩) w') (by kernel_rfl) ?_ (fun hH => ?_)
          · exact hy1.drew.str
          refine wpAnyH_takeD (i := 0) (v := ?_) 26 rfl rfl (by kernel_rfl) (by kernel_rfl) (by kernel_rfl) (fun _ _ _ h => h) (Or.inl ⟨by kernel_rfl, ?_⟩) hH ?_
          rotate_left
          · intro w hSw
            (try dsimp only at hSw)
            go_simp
            try with_reducible rfl
          try simp only [List.setIfInBounds_toArray, List.set_cons_zero, List.set_cons_succ]
          refine wpAnyH_takeD (i := 1) (v := ?_) 27 rfl rfl (by kernel_rfl) (by kernel_rfl) (by kernel_rfl) (fun _ _ _ h => h) (Or.inl ⟨by kernel_rfl, ?_⟩) hH ?_
          rotate_left
          · intro w hSw
            (try dsimp only at hSw)
            go_simp
            try with_reducible rfl
          try simp only [List.setIfInBounds_toArray, List.set_cons_zero, List.set_cons_succ]
          refine wpAnyH_takeD (i := 2) (v := ?_) 28 rfl rfl (by kernel_rfl) (by kernel_rfl) (by kernel_rfl) (fun _ _ _ h => h) (Or.inl ⟨by kernel_rfl, ?_⟩) hH ?_
          rotate_left
          · intro w hSw
            (try dsimp only at hSw)
            go_simp
            try with_reducible rfl
          try simp only [List.setIfInBounds_toArray, List.set_cons_zero, List.set_cons_succ]
          refine wpAnyH_ready (rs := [3]) (by kernel_rfl) (by simp) ?_
          refine AllReadyH.cons rfl (fun K hK => ?_) AllReadyH.nil
          rw [if_pos (by kernel_rfl)]
          go_simp
          refine C32.out.mono ?_
          clear C32 hs1
          rintro e w2 ⟨A2, m2, c2, rfl, hy2, b2⟩
          have hy1' := hy1.drew.below b2
          have hz2 : w1.heap.size ≤ w2.heap.size := b2.size
          have h1' := h1.drew.below (b2.mono hz1)
          go_wp2_with fail
          refine hK.out _ _ hy1'.str (fun hH0 => ?_)
          clear hK K hH
          refine wpAnyH_mono (S := fun w' => (convert 48 9 (.slice A1 m m)).run Try.prog w' = .ok (.string ⟨(nrm l).toArray⟩) w' ∧ (convert 48 9 (.slice A2 m2 c2)).run Try.prog w' = .ok (.string ⟨(nrm l).toArray⟩) w') (fun _ h => h.1) ?_
          have hH : (fun w' => (convert 48 9 (.slice A1 m m)).run Try.prog w' = .ok (.string ⟨(nrm l).toArray⟩) w' ∧ (convert 48 9 (.slice A2 m2 c2)).run Try.prog w' = .ok (.string ⟨(nrm l).toArray⟩) w') _ := ⟨hy1'.str, hy2.str⟩
          clear hH0
          try simp only [Act.put, List.setIfInBounds_toArray, List.set_cons_zero, List.set_cons_succ]
          refine wpAnyH_takeD (i := 4) (v := ?_) 30 rfl rfl (by kernel_rfl) (by kernel_rfl) (by kernel_rfl) (fun _ _ _ h => h) (Or.inl ⟨by kernel_rfl, ?_⟩) hH ?_
          rotate_left
          · intro w hSw
            (try dsimp only at hSw)
            go_simp
            try with_reducible rfl
          try simp only [List.setIfInBounds_toArray, List.set_cons_zero, List.set_cons_succ]
          refine wpAnyH_takeD (i := 5) (v := ?_) 31 rfl rfl (by kernel_rfl) (by kernel_rfl) (by kernel_rfl) (fun _ _ _ h => h) (Or.inl ⟨by kernel_rfl, ?_⟩) hH ?_
          rotate_left
          · intro w hSw
            (try dsimp only at hSw)
            go_simp
            try with_reducible rfl
          try simp only [List.setIfInBounds_toArray, List.set_cons_zero, List.set_cons_succ]
          refine wpAnyH_takeD (i := 6) (v := ?_) 32 rfl rfl (by kernel_rfl) (by kernel_rfl) (by kernel_rfl) (fun _ _ _ h => h) (Or.inl ⟨by kernel_rfl, ?_⟩) hH ?_
          rotate_left
          · intro w hSw
            (try dsimp only at hSw)
            go_simp
            try with_reducible rfl
          try simp only [List.setIfInBounds_toArray, List.set_cons_zero, List.set_cons_succ]
          refine wpAnyH_takeD (i := 7) (v := ?_) 33 rfl rfl (by kernel_rfl) (by kernel_rfl) (by kernel_rfl) (fun _ _ _ h => h) (Or.inl ⟨by kernel_rfl, ?_⟩) hH ?_
          rotate_left
          · intro w hSw
            (try dsimp only at hSw)
            go_simp
            try with_reducible rfl
          try simp only [List.setIfInBounds_toArray, List.set_cons_zero, List.set_cons_succ]
          refine wpAnyH_takeD (i := 9) (v := ?_) 35 rfl rfl (by kernel_rfl) (by kernel_rfl) (by kernel_rfl) (fun _ _ _ h => h) (Or.inl ⟨by kernel_rfl, ?_⟩) hH ?_
          rotate_left
          · intro w hSw
            (try dsimp only at hSw)
            go_simp
            try with_reducible rfl
          try simp only [List.setIfInBounds_toArray, List.set_cons_zero, List.set_cons_succ]
          refine wpAnyH_takeD (i := 10) (v := ?_) 36 rfl rfl (by kernel_rfl) (by kernel_rfl) (by kernel_rfl) (fun _ _ _ h => h) (Or.inl ⟨by kernel_rfl, ?_⟩) hH ?_
          rotate_left
          · intro w hSw
            (try dsimp only at hSw)
            go_simp
            try with_reducible rfl
          try simp only [List.setIfInBounds_toArray, List.set_cons_zero, List.set_cons_succ]
          refine wpAnyH_ready (rs := [8]) (by kernel_rfl) (by simp) ?_
          refine AllReadyH.cons rfl (fun K hK => ?_) AllReadyH.nil
          rw [if_pos (by kernel_rfl)]
          go_simp
          refine (eolIs_has A j cap l _ HC.out _ _ h1').mono ?_
          rintro e w3 ⟨rfl, rfl⟩
          go_wp2_with fail
          refine hK.out _ _ hH (fun hH0 => ?_)
          clear hK K hH
          have hH := hH0
          clear hH0
          try simp only [Act.put, List.setIfInBounds_toArray, List.set_cons_zero, List.set_cons_succ]
          refine wpAnyH_takeD (i := 11) (v := ?_) 37 rfl rfl (by kernel_rfl) (by kernel_rfl) (by kernel_rfl) (fun _ _ _ h => h) (Or.inl ⟨by kernel_rfl, ?_⟩) hH ?_
          rotate_left
          · intro w hSw
            (try dsimp only at hSw)
            go_simp
            try with_reducible rfl
          try simp only [List.setIfInBounds_toArray, List.set_cons_zero, List.set_cons_succ]
          refine wpAnyH_takeD (i := 12) (v := ?_) 38 rfl rfl (by kernel_rfl) (by kernel_rfl) (by kernel_rfl) (fun _ _ _ h => h) (Or.inl ⟨by kernel_rfl, ?_⟩) hH ?_
          rotate_left
          · intro w hSw
            (try dsimp only at hSw)
            go_simp
            try with_reducible rfl
          try simp only [List.setIfInBounds_toArray, List.set_cons_zero, List.set_cons_succ]
          refine wpAnyH_takeD (i := 13) (v := ?_) 39 rfl rfl (by kernel_rfl) (by kernel_rfl) (by kernel_rfl) (fun _ _ _ h => h) (Or.inl ⟨by kernel_rfl, ?_⟩) hH ?_
          rotate_left
          · intro w hSw
            (try dsimp only at hSw)
            go_simp
            try with_reducible rfl
          try simp only [List.setIfInBounds_toArray, List.set_cons_zero, List.set_cons_succ]
          refine wpAnyH_takeD (i := 14) (v := ?_) 40 rfl rfl (by kernel_rfl) (by kernel_rfl) (by kernel_rfl) (fun _ _ _ h => h) (Or.inl ⟨by kernel_rfl, ?_⟩) hH ?_
          rotate_left
          · intro w hSw
            (try dsimp only at hSw)
            go_simp
            try with_reducible rfl
          try simp only [List.setIfInBounds_toArray, List.set_cons_zero, List.set_cons_succ]
          refine wpAnyH_ready (rs := [15]) (by kernel_rfl) (by simp) ?_
          refine AllReadyH.cons rfl (fun K hK => ?_) AllReadyH.nil
          rw [if_pos (by kernel_rfl)]
          go_simp
          refine (eolIs_has A1 m m _ _ HF.out.1 _ _ hy1').mono ?_
          rintro e w3 ⟨rfl, rfl⟩
          go_wp2_with fail
          refine hK.out _ _ hH (fun hH0 => ?_)
          clear hK K hH
          have hH := hH0
          clear hH0
          try simp only [Act.put, List.setIfInBounds_toArray, List.set_cons_zero, List.set_cons_succ]
          refine wpAnyH_takeD (i := 16) (v := ?_) 42 rfl rfl (by kernel_rfl) (by kernel_rfl) (by kernel_rfl) (fun _ _ _ h => h) (Or.inl ⟨by kernel_rfl, ?_⟩) hH ?_
          rotate_left
          · intro w hSw
            (try dsimp only at hSw)
            go_simp
            try with_reducible rfl
          try simp only [List.setIfInBounds_toArray, List.set_cons_zero, List.set_cons_succ]
          refine wpAnyH_takeD (i := 17) (v := ?_) 43 rfl rfl (by kernel_rfl) (by kernel_rfl) (by kernel_rfl) (fun _ _ _ h => h) (Or.inl ⟨by kernel_rfl, ?_⟩) hH ?_
          rotate_left
          · intro w hSw
            (try dsimp only at hSw)
            go_simp
            try with_reducible rfl
          try simp only [List.setIfInBounds_toArray, List.set_cons_zero, List.set_cons_succ]
          refine wpAnyH_takeD (i := 18) (v := ?_) 44 rfl rfl (by kernel_rfl) (by kernel_rfl) (by kernel_rfl) (fun _ _ _ h => h) (Or.inl ⟨by kernel_rfl, ?_⟩) hH ?_
          rotate_left
          · intro w hSw
            (try dsimp only at hSw)
            go_simp
            try with_reducible rfl
          try simp only [List.setIfInBounds_toArray, List.set_cons_zero, List.set_cons_succ]
          refine wpAnyH_takeD (i := 21) (v := ?_) 47 rfl rfl (by kernel_rfl) (by kernel_rfl) (by kernel_rfl) (fun _ _ _ h => h) (Or.inl ⟨by kernel_rfl, ?_⟩) hH ?_
          rotate_left
          · intro w hSw
            (try dsimp only at hSw)
            go_simp
            try with_reducible rfl
          try simp only [List.setIfInBounds_toArray, List.set_cons_zero, List.set_cons_succ]
          refine wpAnyH_takeD (i := 22) (v := ?_) 48 rfl rfl (by kernel_rfl) (by kernel_rfl) (by kernel_rfl) (fun _ _ _ h => h) (Or.inl ⟨by kernel_rfl, ?_⟩) hH ?_
          rotate_left
          · intro w hSw
            (try dsimp only at hSw)
            go_simp
            try with_reducible rfl
          try simp only [List.setIfInBounds_toArray, List.set_cons_zero, List.set_cons_succ]
          refine wpAnyH_ready (rs := [19]) (by kernel_rfl) (by simp) ?_
          refine AllReadyH.cons rfl (fun K hK => ?_) AllReadyH.nil
          rw [if_pos (by kernel_rfl)]
          go_simp
          refine (norm_c A1 m m _ _ _ hy1' hz2 (by omega)).mono ?_
          rintro e w4 ⟨A4, m4, rfl, hy4, b4⟩
          have hy1'' := hy1'.below (b4.mono hz2)
          rw [HF.out.2] at hy4
          have hz4 : w2.heap.size ≤ w4.heap.size := b4.size
          go_wp2_with fail
          refine hK.out _ _ ⟨hy1''.str, (hy2.below b4).str⟩ (fun hH0 => ?_)
          clear hK K hH
          refine wpAnyH_mono (S := fun w' => (convert 48 9 (.slice A1 m m)).run Try.prog w' = .ok (.string ⟨(nrm l).toArray⟩) w' ∧ (convert 48 9 (.slice A2 m2 c2)).run Try.prog w' = .ok (.string ⟨(nrm l).toArray⟩) w' ∧ (convert 48 9 (.slice A4 m4 m4)).run Try.prog w' = .ok (.string ⟨(nrm l).toArray⟩) w') (fun _ h => ⟨h.1, h.2.1⟩) ?_
          have hH : (fun w' => (convert 48 9 (.slice A1 m m)).run Try.prog w' = .ok (.string ⟨(nrm l).toArray⟩) w' ∧ (convert 48 9 (.slice A2 m2 c2)).run Try.prog w' = .ok (.string ⟨(nrm l).toArray⟩) w' ∧ (convert 48 9 (.slice A4 m4 m4)).run Try.prog w' = .ok (.string ⟨(nrm l).toArray⟩) w') _ := ⟨hy1''.str, (hy2.below b4).str, hy4.str⟩
          clear hH0
          try simp only [Act.put, List.setIfInBounds_toArray, List.set_cons_zero, List.set_cons_succ]
          refine wpAnyH_takeD (i := 20) (v := ?_) 46 rfl rfl (by kernel_rfl) (by kernel_rfl) (by kernel_rfl) (fun _ _ _ h => h) (Or.inl ⟨by kernel_rfl, ?_⟩) hH ?_
          rotate_left
          · intro w hSw
            (try dsimp only at hSw)
            go_simp
            try with_reducible rfl
          try simp only [List.setIfInBounds_toArray, List.set_cons_zero, List.set_cons_succ]
          refine wpAnyH_takeD (i := 23) (v := ?_) 49 rfl rfl (by kernel_rfl) (by kernel_rfl) (by kernel_rfl) (fun _ _ _ h => h) (Or.inl ⟨by kernel_rfl, ?_⟩) hH ?_
          rotate_left
          · intro w hSw
            (try dsimp only at hSw)
            go_simp
            try with_reducible rfl
          try simp only [List.setIfInBounds_toArray, List.set_cons_zero, List.set_cons_succ]
          refine wpAnyH_takeD (i := 24) (v := ?_) 50 rfl rfl (by kernel_rfl) (by kernel_rfl) (by kernel_rfl) (fun _ _ _ h => h) (Or.inl ⟨by kernel_rfl, ?_⟩) hH ?_
          rotate_left
          · intro w hSw
            (try dsimp only at hSw)
            go_simp
            try with_reducible rfl
          try simp only [List.setIfInBounds_toArray, List.set_cons_zero, List.set_cons_succ]
          refine wpAnyH_takeD (i := 25) (v := ?_) 51 rfl rfl (by kernel_rfl) (by kernel_rfl) (by kernel_rfl) (fun _ _ _ h => h) (Or.inl ⟨by kernel_rfl, ?_⟩) hH ?_
          rotate_left
          · intro w hSw
            (try dsimp only at hSw)
            go_simp
            try with_reducible rfl
          try simp only [List.setIfInBounds_toArray, List.set_cons_zero, List.set_cons_succ]
          refine wpAnyH_takeD (i := 26) (v := ?_) 52 rfl rfl (by kernel_rfl) (by kernel_rfl) (by kernel_rfl) (fun _ _ _ h => h) (Or.inl ⟨by kernel_rfl, ?_⟩) hH ?_
          rotate_left
          · intro w hSw
            (try dsimp only at hSw)
            go_simp
            try with_reducible rfl
          try simp only [List.setIfInBounds_toArray, List.set_cons_zero, List.set_cons_succ]
          refine wpAnyH_takeD (i := 27) (v := ?_) 53 rfl rfl (by kernel_rfl) (by kernel_rfl) (by kernel_rfl) (fun _ _ _ h => h) (Or.inl ⟨by kernel_rfl, ?_⟩) hH ?_
          rotate_left
          · intro w hSw
            (try dsimp only at hSw)
            go_simp
            try with_reducible rfl
          try simp only [List.setIfInBounds_toArray, List.set_cons_zero, List.set_cons_succ]
          refine wpAnyH_takeD (i := 28) (v := ?_) 54 rfl rfl (by kernel_rfl) (by kernel_rfl) (by kernel_rfl) (fun _ _ _ h => h) (Or.inl ⟨by kernel_rfl, ?_⟩) hH ?_
          rotate_left
          · intro w hSw
            (try dsimp only at hSw)
            go_simp
            try with_reducible rfl
          try simp only [List.setIfInBounds_toArray, List.set_cons_zero, List.set_cons_succ]
          refine wpAnyH_takeD (i := 29) (v := ?_) 55 rfl rfl (by kernel_rfl) (by kernel_rfl) (by kernel_rfl) (fun _ _ _ h => h) (Or.inl ⟨by kernel_rfl, ?_⟩) hH ?_
          rotate_left
          · intro w hSw
            (try dsimp only at hSw)
            go_simp
            try with_reducible rfl
          try simp only [List.setIfInBounds_toArray, List.set_cons_zero, List.set_cons_succ]
          refine wpAnyH_takeD (i := 30) (v := ?_) 56 rfl rfl (by kernel_rfl) (by kernel_rfl) (by kernel_rfl) (fun _ _ _ h => h) (Or.inl ⟨by kernel_rfl, ?_⟩) hH ?_
          rotate_left
          · intro w hSw
            (try dsimp only at hSw)
            go_simp
            try with_reducible rfl
          try simp only [List.setIfInBounds_toArray, List.set_cons_zero, List.set_cons_succ]
          refine wpAnyH_takeD (i := 31) (v := ?_) 57 rfl rfl (by kernel_rfl) (by kernel_rfl) (by kernel_rfl) (fun _ _ _ h => h) (Or.inl ⟨by kernel_rfl, ?_⟩) hH ?_
          rotate_left
          · intro w hSw
            (try dsimp only at hSw)
            go_simp
            try with_reducible rfl
          try simp only [List.setIfInBounds_toArray, List.set_cons_zero, List.set_cons_succ]
          refine wpAnyH_takeD (i := 32) (v := ?_) 58 rfl rfl (by kernel_rfl) (by kernel_rfl) (by kernel_rfl) (fun _ _ _ h => h) (Or.inl ⟨by kernel_rfl, ?_⟩) hH ?_
          rotate_left
          · intro w hSw
            (try dsimp only at hSw)
            go_simp
            try with_reducible rfl
          try simp only [List.setIfInBounds_toArray, List.set_cons_zero, List.set_cons_succ]
          refine wpAnyH_ready (rs := [33]) (by kernel_rfl) (by simp) ?_
          refine AllReadyH.cons rfl (fun K hK => ?_) AllReadyH.nil
          rw [if_pos (by kernel_rfl)]
          go_simp
          refine (liveEol_ok _).mono ?_
          rintro e w5 ⟨rfl, b5⟩
          go_wp2_with fail
          refine hK.out _ _ ⟨(hy1''.below (b5.mono (by omega))).str, ((hy2.below b4).below (b5.mono (by omega))).str, (hy4.below b5).str⟩ (fun hH0 => ?_)
          clear hK K hH
          have hH := hH0
          clear hH0
          try simp only [Act.put, List.setIfInBounds_toArray, List.set_cons_zero, List.set_cons_succ]
          refine wpAnyH_takeD (i := 34) (v := ?_) 60 rfl rfl (by kernel_rfl) (by kernel_rfl) (by kernel_rfl) (fun _ _ _ h => h) (Or.inl ⟨by kernel_rfl, ?_⟩) hH ?_
          rotate_left
          · intro w hSw
            (try dsimp only at hSw)
            go_simp
            try with_reducible rfl
          try simp only [List.setIfInBounds_toArray, List.set_cons_zero, List.set_cons_succ]
          refine wpAnyH_takeD (i := 35) (v := ?_) 2 rfl rfl (by kernel_rfl) (by kernel_rfl) (by kernel_rfl) (fun _ _ _ h => h) (Or.inl ⟨by kernel_rfl, ?_⟩) hH ?_
          rotate_left
          · intro w hSw
            (try dsimp only at hSw)
            go_simp
            try with_reducible rfl
          try simp only [List.setIfInBounds_toArray, List.set_cons_zero, List.set_cons_succ]
          refine wpAnyH_done (by kernel_rfl) ?_ _
          go_wp2
          go_ret
          have hz5 : w4.heap.size ≤ w5.heap.size := b5.size
          exact ⟨rfl, (((b1.drew.trans (b2.mono hz1)).trans (b4.mono (by omega))).trans (b5.mono (by omega)))⟩
end Go.Proofs.Ytljplmidnlahpaa
