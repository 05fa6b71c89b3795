/- The law: what a text says. -/
import Derived.Test.YtbllodeanfdebaaGreatDoorRows
import Derived.WalkKit
import Derived.ProofKit
import Derived.OpenShut
import Derived.ShutString
import Derived.ChangeOld
import Derived.Below
import Derived.BigQuiet
import Derived.Deep.QuietTactic
import Derived.Lib.Hide
import Derived.Deep.RegionHeld3
import Derived.Lib.SlBytesConst
import Derived.Laws.CopyOwn
import Derived.Laws.CopyRow
import Derived.Lib.Bytes
import Derived.Deep.LoopGhost
import Derived.Deep.DeepFit
import Derived.Deep.DeepMust
import Derived.WalkSpells
import Derived.WalkLawsBesides
import Derived.Laws.EntriesVeiled
import Derived.Lib.IndexBytes
import Derived.Deep.RegionWith
import Derived.Tactics2
import Derived.Laws.Rows
import Derived.Lib.Replace
import Derived.Lib.Split
import Derived.Lib.ItoaNum
import Derived.Lib.AtoiAllCases
import Derived.Lib.AtoiErrMem
import Derived.Lib.AppendIntMem
import Derived.Maps.OwnOps
import Derived.Maps.OwnSet
import Derived.Maps.Views
import Derived.Maps.AppendAt
import Derived.Deep.AppendLies
import Derived.Defers
import Derived.Recover
import Derived.Laws.Pointers
import Derived.Deep.CutBlock
import Derived.Deep.CutRange
import Derived.Test.YtbllodeanfdebaaGreatDoorShelf
import Derived.Test.YtbllodeanfdebaaGreatDoorBase
import Derived.Test.YtbllodeanfdebaaGreatDoorCsP
import Derived.Test.YtbllodeanfdebaaGreatDoorCsK
import Derived.Test.YtbllodeanfdebaaGreatDoorCsN
import Derived.Test.YtbllodeanfdebaaGreatDoorCsA
import Derived.Test.YtbllodeanfdebaaGreatDoorCsD
import Derived.Test.YtbllodeanfdebaaGreatDoorCsE
import Derived.Test.YtbllodeanfdebaaGreatDoorCsG
import Derived.Test.YtbllodeanfdebaaGreatDoorCsH
import Derived.Test.YtbllodeanfdebaaGreatDoorCsI
import Derived.Test.YtbllodeanfdebaaGreatDoorCsJ
import Derived.Test.YtbllodeanfdebaaGreatDoorCalm
import Derived.Test.YtbllodeanfdebaaGreatDoorCsL
import Derived.Test.YtbllodeanfdebaaGreatDoorRowS
import Derived.Test.YtbllodeanfdebaaGreatDoorRowG
import Derived.Test.YtbllodeanfdebaaGreatDoorCsO
import Derived.Test.YtbllodeanfdebaaGreatDoorCsM
import Derived.Test.YtbllodeanfdebaaGreatDoorCsN2
import Derived.Test.YtbllodeanfdebaaGreatDoorStL
import Derived.Test.YtbllodeanfdebaaGreatDoorCsO2
import Derived.Test.YtbllodeanfdebaaGreatDoorCsQ
import Derived.Test.YtbllodeanfdebaaGreatDoorStr
import Derived.Test.YtbllodeanfdebaaGreatDoorCsR
import Derived.Test.YtbllodeanfdebaaGreatDoorCsS
import Derived.Test.YtbllodeanfdebaaGreatDoorCsT
import Derived.Test.YtbllodeanfdebaaGreatDoorCsU
import Derived.Test.YtbllodeanfdebaaGreatDoorCsV
import Derived.Test.YtbllodeanfdebaaGreatDoorCsW
import Derived.Test.YtbllodeanfdebaaGreatDoorCsY
import Derived.Test.YtbllodeanfdebaaGreatDoorCsZ
import Derived.Test.YtbllodeanfdebaaGreatDoorCsPa
import Derived.Test.YtbllodeanfdebaaGreatDoorRpC
import Derived.Test.YtbllodeanfdebaaGreatDoorCtA
import Derived.Test.YtbllodeanfdebaaGreatDoorCtB
import Derived.Test.YtbllodeanfdebaaGreatDoorCtC
import Derived.Test.YtbllodeanfdebaaGreatDoorCtD
import Derived.Test.YtbllodeanfdebaaGreatDoorCtE
import Derived.Test.YtbllodeanfdebaaGreatDoorCtF
import Derived.Test.YtbllodeanfdebaaGreatDoorCtG
import Derived.Test.YtbllodeanfdebaaGreatDoorCtH
import Derived.Test.YtbllodeanfdebaaGreatDoorCsX
import Derived.Test.YtbllodeanfdebaaGreatDoorBuild
import Derived.Test.YtbllodeanfdebaaGreatDoorCsB2
import Derived.Test.YtbllodeanfdebaaGreatDoorCsPb
namespace Go.Proofs.YtbllodeanfdebaaGreatDoor
open Go.ChangeShapes Go.WideShapes Go.ChangeAt Go.RowKit
set_option linter.unusedVariables false
def czero : CaseC := ⟨[], [], [], []⟩
def resI : PrsC → CaseC × Int × Int
  | .bad n => (czero, (n : Int), 15)
  | .big => (czero, 0, 13)
  | .ok c => (c, 0, 0)
theorem cin0 (w : World) : CIn w czero none none none 0 0 0 [] := ⟨Rd.nilR _ _, RRd.nilR _ _ _ _, rfl, RRd.nilR _ _ _ _, fun y hy => by cases hy⟩
theorem rin0 (w : World) : RIn w czero none none 0 0 [] := ⟨RRd.nilR _ _ _ _, rfl, RRd.nilR _ _ _ _, fun y hy => by cases hy⟩
theorem ps_all {R : PrsC} {w : World} {e : Ending} {w' : World} (h : PsPost R w e w') : Below w.heap.size w w' ∧ ∃ A1 A2 A3 c1 c2 c3 ys, e = .returned (.tuple #[caseW (resI R).1 A1 A2 A3 c1 c2 c3, .int .i64 (resI R).2.1, .int .i64 (resI R).2.2]) ∧ CIn w' (resI R).1 A1 A2 A3 c1 c2 c3 ys := by
  obtain ⟨hb, ⟨n, rfl, rfl⟩ | ⟨rfl, rfl⟩ | ⟨c, v, rfl, rfl, hc⟩⟩ := h
  · exact ⟨hb, none, none, none, 0, 0, 0, [], rfl, cin0 _⟩
  · exact ⟨hb, none, none, none, 0, 0, 0, [], rfl, cin0 _⟩
  · obtain ⟨A1, A2, A3, c1, c2, c3, ys, rfl, h1, h2, h3, h4, h5⟩ := hc.ex
    exact ⟨hb, A1, A2, A3, c1, c2, c3, ys, rfl, ⟨h1, h2, h3, h4, h5⟩⟩
theorem rp_all {R : PrsC} {w : World} {e : Ending} {w' : World} (h : RPost R w e w') : Below w.heap.size w w' ∧ ∃ A2 A3 c2 c3 ys, e = .returned (.tuple #[rcaseW (resI R).1 A2 A3 c2 c3, .int .i64 (resI R).2.1, .int .i64 (resI R).2.2]) ∧ RIn w' (resI R).1 A2 A3 c2 c3 ys := by
  obtain ⟨hb, ⟨n, rfl, rfl⟩ | ⟨rfl, rfl⟩ | ⟨c, A2, A3, c2, c3, ys, rfl, rfl, hc⟩⟩ := h
  · exact ⟨hb, none, none, 0, 0, [], rfl, rin0 _⟩
  · exact ⟨hb, none, none, 0, 0, [], rfl, rin0 _⟩
  · exact ⟨hb, A2, A3, c2, c3, ys, rfl, hc⟩
theorem ans_sum : ∀ sc : List AnsC, (∀ a ∈ sc, a.ok = false → a.data = []) → (sc.map (fun a => a.data.length)).sum ≤ (sc.flatMap ansT).length
  | [], _ => by simp
  | a :: sc, h => by
    rw [List.map_cons, List.sum_cons, List.flatMap_cons, List.length_append]
    have h1 := ans_sum sc (fun b hb => h b (by simp [hb]))
    have h2 : a.data.length ≤ (ansT a).length := by
      cases ho : a.ok with
      | true =>
        unfold ansT
        rw [if_pos ho]
        have := bar_lo a.data
        simp only [List.length_append]
        omega
      | false =>
        rw [h a (by simp) ho]
        exact Nat.zero_le _
    omega
/-- What is read can be printed, and prints as it was. -/
theorem good_of {text : List UInt8} {c : CaseC} (h : parseC numD bigS text = .ok c) (hm : text.length ≤ 1500) : CGood c ∧ printC Lib.decDigits c = text := by
  have hp := print_parse Lib.decDigits numD bigS numD_text h
  have hr := parse_good numD bigS h
  have hbig : ¬ (64 < c.allow.length ∨ 256 < c.script.length) := by
    have := hr.big
    unfold bigS at this
    exact of_decide_eq_false this
  have hne : c.lim ≠ [] := fun e => by have := hr.six; rw [e] at this; cases this
  refine ⟨⟨hr.six, fun n hn => ?_, hr.allow, hr.script, by omega, by omega, ?_, by rw [hp]; omega⟩, hp⟩
  · obtain ⟨w, hw⟩ := hr.nums n hn
    exact (numD_some hw).2
  · have h1 := print_flat c hne
    rw [hp] at h1
    have h2 := congrArg List.length h1
    simp only [List.length_append] at h2
    have h3 := ans_sum c.script (fun a ha => (hr.script a ha).2.2)
    have h4 := bar_lo c.doc
    omega
theorem allow_bound {R : PrsC} {text : List UInt8} (hR : parseC numD bigS text = R) (hm : text.length ≤ 1500) : (resI R).1.allow.length ≤ 1000000 ∧ (resI R).1.script.length ≤ 1000000 := by
  cases R with
  | bad n => exact ⟨Nat.zero_le _, Nat.zero_le _⟩
  | big => exact ⟨Nat.zero_le _, Nat.zero_le _⟩
  | ok c =>
    have h := (good_of hR hm).1
    exact ⟨Nat.le_trans h.na (by decide), Nat.le_trans h.ns (by decide)⟩
set_option linter.unusedSimpArgs false in
set_option maxRecDepth 100000 in
set_option maxHeartbeats 40000000 in
theorem casesParses_walk (text : List UInt8) (W : World) (hw : WC W.heap.size W) :
    Calls Tryz.prog 3 #[.string ⟨text.toArray⟩] W fun e w' => e = .returned (.bool true) ∧ Below W.heap.size W w' := by
  by_cases hm : text.length ≤ 1500
  · have hm1 : ¬ (1500 : Int) < (text.length : Int) := by omega
    obtain ⟨R, hR⟩ : ∃ R, parseC numD bigS text = R := ⟨_, rfl⟩
    have PC := Lib.hid (parse_c text W hw (by omega))
    have RC := Lib.hid (fun W => refParse_c text W hm)
    rw [hR] at PC RC
    have HAB := Lib.hid (allow_bound hR hm)
    have HRR := Lib.hid hR
    have HW := Lib.hid hw
    have HM := Lib.hid hm
    obtain ⟨X, hX⟩ : ∃ X, resI R = X := ⟨_, rfl⟩
    obtain ⟨c, li, er⟩ := X
    have HX := Lib.hid hX
    rw [hX] at HAB
    simp only at HAB
    clear hR hX hw hm
    obtain ⟨m0, m1, m2, m3, m4, m5, HCV⟩ := caseV_ints c.lim
    go_enter Tryz.func3, Tryz.ntmps3
    go_wp2_with fail
    refine PC.out.mono ?_
    rintro e w1 hpost
    obtain ⟨hb1, A1, A2, A3, c1, c2, c3, ys, rfl, hin⟩ := ps_all hpost.out
    rw [HX.out] at hin ⊢
    simp only at hin ⊢
    have H1 := Lib.hid (And.intro hb1 hin)
    clear hb1 hin hpost PC
    unfold caseW
    rw [HCV]
    obtain ⟨P1, hP1⟩ : ∃ P1, w1.heap.size = P1 := ⟨_, rfl⟩
    obtain ⟨w2, hw2⟩ : ∃ w2, (w1.alloc (.cells #[.slice none 0 0, .int .i64 0, .int .i64 0, .int .i64 0, .int .i64 0, .int .i64 0, .int .i64 0, .slice none 0 0, .slice none 0 0] 29)).setRow P1 #[.slice A1 c.doc.length c1, .int .i64 m0, .int .i64 m1, .int .i64 m2, .int .i64 m3, .int .i64 m4, .int .i64 m5, .slice A2 c.allow.length c2, .slice A3 c.script.length c3] = w2 := ⟨_, rfl⟩
    have hz1 : (w1.alloc (.cells #[.slice none 0 0, .int .i64 0, .int .i64 0, .int .i64 0, .int .i64 0, .int .i64 0, .int .i64 0, .slice none 0 0, .slice none 0 0] 29)).heap[P1]? = some (.cells #[.slice none 0 0, .int .i64 0, .int .i64 0, .int .i64 0, .int .i64 0, .int .i64 0, .int .i64 0, .slice none 0 0, .slice none 0 0] 29) := by rw [← hP1]; exact hp_new _ _
    have hc2 : w2.heap[P1]? = some (.cells #[.slice A1 c.doc.length c1, .int .i64 m0, .int .i64 m1, .int .i64 m2, .int .i64 m3, .int .i64 m4, .int .i64 m5, .slice A2 c.allow.length c2, .slice A3 c.script.length c3] 29) := by rw [← hw2]; exact setRow_heap _ _ _ _ _ _ hz1
    have hb2 : Below w1.heap.size w1 w2 := by rw [← hw2]; exact below_setRow ((Below.refl _ _).alloc (Nat.le_refl _) _) (by omega) _
    have H2 := Lib.hid (And.intro hc2 (And.intro (H1.out.1.trans (hb2.mono H1.out.1.size)) (H1.out.2.up hb2)))
    clear hc2 hb2
    go_wp2_with (first | (refine wpList_store_row rfl _ _ _ rfl P1 #[.slice A1 c.doc.length c1, .int .i64 m0, .int .i64 m1, .int .i64 m2, .int .i64 m3, .int .i64 m4, .int .i64 m5, .slice A2 c.allow.length c2, .slice A3 c.script.length c3] rfl rfl _ _ hz1 (by kernel_rfl) rfl (by kernel_rfl) ?_))
    refine (RC.out w2).mono ?_
    rintro e w3 hpost
    obtain ⟨hb3, B2, B3, d2, d3, zs, rfl, hrin⟩ := rp_all hpost.out
    rw [HX.out] at hrin ⊢
    simp only at hrin ⊢
    have H3 := Lib.hid (And.intro ((hb3.block _ (lt_of H2.out.1)).trans H2.out.1) (And.intro (H2.out.2.1.trans (hb3.mono H2.out.2.1.size)) (And.intro (H2.out.2.2.up hb3) hrin)))
    clear hb3 hrin hpost RC hz1 hw2
    unfold rcaseW
    rw [HCV]
    obtain ⟨P2, hP2⟩ : ∃ P2, w3.heap.size = P2 := ⟨_, rfl⟩
    obtain ⟨w4, hw4⟩ : ∃ w4, (w3.alloc (.cells #[.string ⟨#[]⟩, .int .i64 0, .int .i64 0, .int .i64 0, .int .i64 0, .int .i64 0, .int .i64 0, .slice none 0 0, .slice none 0 0] 34)).setRow P2 #[.string ⟨c.doc.toArray⟩, .int .i64 m0, .int .i64 m1, .int .i64 m2, .int .i64 m3, .int .i64 m4, .int .i64 m5, .slice B2 c.allow.length d2, .slice B3 c.script.length d3] = w4 := ⟨_, rfl⟩
    have hz2 : (w3.alloc (.cells #[.string ⟨#[]⟩, .int .i64 0, .int .i64 0, .int .i64 0, .int .i64 0, .int .i64 0, .int .i64 0, .slice none 0 0, .slice none 0 0] 34)).heap[P2]? = some (.cells #[.string ⟨#[]⟩, .int .i64 0, .int .i64 0, .int .i64 0, .int .i64 0, .int .i64 0, .int .i64 0, .slice none 0 0, .slice none 0 0] 34) := by rw [← hP2]; exact hp_new _ _
    have hc4 : w4.heap[P2]? = some (.cells #[.string ⟨c.doc.toArray⟩, .int .i64 m0, .int .i64 m1, .int .i64 m2, .int .i64 m3, .int .i64 m4, .int .i64 m5, .slice B2 c.allow.length d2, .slice B3 c.script.length d3] 34) := by rw [← hw4]; exact setRow_heap _ _ _ _ _ _ hz2
    have hb4 : Below w3.heap.size w3 w4 := by rw [← hw4]; exact below_setRow ((Below.refl _ _).alloc (Nat.le_refl _) _) (by omega) _
    have H4 := Lib.hid (And.intro ((hb4.block _ (lt_of H3.out.1)).trans H3.out.1) (And.intro hc4 (And.intro (H3.out.2.1.trans (hb4.mono H3.out.2.1.size)) (And.intro (H3.out.2.2.1.up hb4) (H3.out.2.2.2.up hb4)))))
    clear hc4 hb4
    have AT : Hid (∀ W, Hid (Below w4.heap.size w4 W) → (W.cell? ⟨P1, 0, none⟩ = some (.slice A1 c.doc.length c1) ∧ W.cell? ⟨P1, 1, none⟩ = some (.int .i64 m0) ∧ W.cell? ⟨P1, 2, none⟩ = some (.int .i64 m1) ∧ W.cell? ⟨P1, 3, none⟩ = some (.int .i64 m2) ∧ W.cell? ⟨P1, 4, none⟩ = some (.int .i64 m3) ∧ W.cell? ⟨P1, 5, none⟩ = some (.int .i64 m4) ∧ W.cell? ⟨P1, 6, none⟩ = some (.int .i64 m5) ∧ W.cell? ⟨P1, 7, none⟩ = some (.slice A2 c.allow.length c2) ∧ W.cell? ⟨P1, 8, none⟩ = some (.slice A3 c.script.length c3)) ∧ (W.cell? ⟨P2, 0, none⟩ = some (.string ⟨c.doc.toArray⟩) ∧ W.cell? ⟨P2, 1, none⟩ = some (.int .i64 m0) ∧ W.cell? ⟨P2, 2, none⟩ = some (.int .i64 m1) ∧ W.cell? ⟨P2, 3, none⟩ = some (.int .i64 m2) ∧ W.cell? ⟨P2, 4, none⟩ = some (.int .i64 m3) ∧ W.cell? ⟨P2, 5, none⟩ = some (.int .i64 m4) ∧ W.cell? ⟨P2, 6, none⟩ = some (.int .i64 m5) ∧ W.cell? ⟨P2, 7, none⟩ = some (.slice B2 c.allow.length d2) ∧ W.cell? ⟨P2, 8, none⟩ = some (.slice B3 c.script.length d3))) := Lib.hid fun W hb => by
      have e1 := (hb.out.block _ (lt_of H4.out.1)).trans H4.out.1
      have e2 := (hb.out.block _ (lt_of H4.out.2.1)).trans H4.out.2.1
      exact ⟨⟨by rw [cell_of 0 e1]; rfl, by rw [cell_of 1 e1]; rfl, by rw [cell_of 2 e1]; rfl, by rw [cell_of 3 e1]; rfl, by rw [cell_of 4 e1]; rfl, by rw [cell_of 5 e1]; rfl, by rw [cell_of 6 e1]; rfl, by rw [cell_of 7 e1]; rfl, by rw [cell_of 8 e1]; rfl⟩, ⟨by rw [cell_of 0 e2]; rfl, by rw [cell_of 1 e2]; rfl, by rw [cell_of 2 e2]; rfl, by rw [cell_of 3 e2]; rfl, by rw [cell_of 4 e2]; rfl, by rw [cell_of 5 e2]; rfl, by rw [cell_of 6 e2]; rfl, by rw [cell_of 7 e2]; rfl, by rw [cell_of 8 e2]; rfl⟩⟩
    have S1 : Hid (∀ W, Hid (Below w4.heap.size w4 W) → Calls Tryz.prog 9 #[.agg #[.slice A1 c.doc.length c1, .int .i64 m0, .int .i64 m1, .int .i64 m2, .int .i64 m3, .int .i64 m4, .int .i64 m5, .slice A2 c.allow.length c2, .slice A3 c.script.length c3]] W fun e w' => e = .returned (.agg #[.string ⟨c.doc.toArray⟩, .int .i64 m0, .int .i64 m1, .int .i64 m2, .int .i64 m3, .int .i64 m4, .int .i64 m5, .slice A2 c.allow.length c2, .slice A3 c.script.length c3]) ∧ Hid (Below w4.heap.size w4 w')) := Lib.hid fun W hb => by
      have h9 := like_c W c A1 A2 A3 c1 c2 c3 ys (H4.out.2.2.2.1.up hb.out)
      unfold caseW rcaseW at h9
      rw [HCV, HCV] at h9
      exact h9.mono fun e w' ⟨he, h8⟩ => ⟨he, Lib.hid (hb.out.trans (h8.mono hb.out.size))⟩
    have S2 : Hid (∀ W, Hid (Below w4.heap.size w4 W) → Calls Tryz.prog 8 #[.agg #[.string ⟨c.doc.toArray⟩, .int .i64 m0, .int .i64 m1, .int .i64 m2, .int .i64 m3, .int .i64 m4, .int .i64 m5, .slice A2 c.allow.length c2, .slice A3 c.script.length c3], .agg #[.string ⟨c.doc.toArray⟩, .int .i64 m0, .int .i64 m1, .int .i64 m2, .int .i64 m3, .int .i64 m4, .int .i64 m5, .slice B2 c.allow.length d2, .slice B3 c.script.length d3]] W fun e w' => e = .returned (.bool true) ∧ Hid (Below w4.heap.size w4 w')) := Lib.hid fun W hb => by
      have hci := H4.out.2.2.2.1.up hb.out
      have h9 := refSame_yes W c A2 A3 B2 B3 c2 c3 d2 d3 ys zs ⟨hci.al, hci.ym, hci.sc, hci.dat⟩ (H4.out.2.2.2.2.up hb.out) HAB.out
      unfold rcaseW at h9
      rw [HCV, HCV] at h9
      exact h9.mono fun e w' ⟨he, h8⟩ => ⟨he, Lib.hid (hb.out.trans (h8.mono hb.out.size))⟩
    have JG : Hid (Below w4.heap.size w4 w4.drew) := Lib.hid (Below.refl _ _).drew
    go_wp2_with (first | (refine wpList_store_row rfl _ _ _ rfl P2 #[.string ⟨c.doc.toArray⟩, .int .i64 m0, .int .i64 m1, .int .i64 m2, .int .i64 m3, .int .i64 m4, .int .i64 m5, .slice B2 c.allow.length d2, .slice B3 c.script.length d3] rfl rfl _ _ hz2 (by kernel_rfl) rfl (by kernel_rfl) ?_))
    clear hz2 hw4
    refine wp_region_calm (fun W => Hid (Below w4.heap.size w4 W)) 14 (by kernel_rfl) (by kernel_rfl) JG ?_
    simp only [List.take_succ_cons, List.take_zero, List.drop_succ_cons, List.drop_zero]
    repeat
      refine wpQuiet_step (fun K hK => ?_)
      go_simp
      first
        | (refine hK _ ?_; clear hK K)
        | (apply Exists.intro
           refine ⟨fun W hW => ?_, hK _ ?_⟩
           · first
               | exact rfl
               | (with_reducible exact S1.out W hW)
               | (with_reducible exact S2.out W hW)
               | (obtain ⟨⟨x0, x1, x2, x3, x4, x5, x6, x7, x8⟩, z0, z1, z2, z3, z4, z5, z6, z7, z8⟩ := AT.out W hW; go_simp; done)
               | (obtain ⟨⟨x0, x1, x2, x3, x4, x5, x6, x7, x8⟩, z0, z1, z2, z3, z4, z5, z6, z7, z8⟩ := AT.out W hW; go_simp; exact rfl)
           clear hK K)
    refine wpQuiet_nil ?_
    intro w5 hw5
    have HB5 : Hid (Below W.heap.size W w5) := Lib.hid (H4.out.2.2.1.trans (hw5.out.mono H4.out.2.2.1.size))
    have LV := Lib.hid (fun W' (hb : Below w5.heap.size w5 W') => live43_c W.heap.size W' ((HW.out.up HB5.out).up hb))
    obtain ⟨⟨x0, x1, x2, x3, x4, x5, x6, x7, x8⟩, _⟩ := AT.out w5 hw5
    have HI5 := Lib.hid (H4.out.2.2.2.1.up hw5.out)
    clear AT S1 S2 JG hw5
    by_cases he : er = 0
    · have hRc : R = .ok c := by
        have h9 := HX.out
        cases R with
        | bad n => injection h9 with _ h9; injection h9 with _ h9; rw [he] at h9; cases h9
        | big => injection h9 with _ h9; injection h9 with _ h9; rw [he] at h9; cases h9
        | ok c' => injection h9 with h9 _; rw [h9]
      obtain ⟨hgood, htext⟩ := good_of (HRR.out.trans hRc) HM.out
      have PR := Lib.hid (print_c W.heap.size w5 c A1 A2 A3 c1 c2 c3 ys HI5.out hgood (HW.out.up HB5.out))
      rw [htext] at PR
      unfold caseW at PR
      rw [HCV] at PR
      have hse := str_beqC text
      subst he
      clear hRc hgood htext
      go_wp2_with fail
      refine PR.out.mono ?_
      rintro e w6 ⟨rfl, hb6⟩
      have L6 := Lib.hid (LV.out w6 hb6)
      have HB6 := Lib.hid (HB5.out.trans (hb6.mono HB5.out.size))
      clear hb6 PR x0 x1 x2 x3 x4 x5 x6 x7 x8
      go_wp2_with fail
      refine L6.out.mono ?_
      rintro e w7 ⟨rfl, hb7⟩
      have HB7 := Lib.hid (HB6.out.trans (hb7.mono HB6.out.size))
      clear hb7
      go_wp2
      go_ret
      exact ⟨rfl, HB7.out⟩
    · have L6 := Lib.hid (LV.out w5 (Below.refl _ _))
      clear x0 x1 x2 x3 x4 x5 x6 x7 x8
      go_wp2_with fail
      refine L6.out.mono ?_
      rintro e w7 ⟨rfl, hb7⟩
      have HB7 := Lib.hid (HB5.out.trans (hb7.mono HB5.out.size))
      clear hb7
      go_wp2
      go_ret
      exact ⟨rfl, HB7.out⟩
  · have hm1 : (1500 : Int) < (text.length : Int) := by omega
    have LV := Lib.hid (live43_c W.heap.size W hw)
    clear hw hm
    go_enter Tryz.func3, Tryz.ntmps3
    go_wp2_with fail
    refine LV.out.mono ?_
    rintro e w1 ⟨rfl, hb⟩
    have HB := Lib.hid hb
    clear hb
    go_wp2
    go_ret
    exact ⟨rfl, HB.out⟩
end Go.Proofs.YtbllodeanfdebaaGreatDoor
