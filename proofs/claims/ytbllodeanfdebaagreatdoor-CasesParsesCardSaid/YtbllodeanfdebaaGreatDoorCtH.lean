/- The document reading a case, walked. -/
import Derived.Test.YtbllodeanfdebaaGreatDoorRows
import Derived.WalkKit
import Derived.ProofKit
import Derived.OpenShut
import Derived.ShutString
import Derived.ChangeOld
import Derived.Below
import Derived.BigQuiet
import Derived.Deep.QuietTactic
import Derived.Lib.Hide
import Derived.Deep.RegionHeld3
import Derived.Lib.SlBytesConst
import Derived.Laws.CopyOwn
import Derived.Laws.CopyRow
import Derived.Lib.Bytes
import Derived.Deep.LoopGhost
import Derived.Deep.DeepFit
import Derived.Deep.DeepMust
import Derived.WalkSpells
import Derived.WalkLawsBesides
import Derived.Laws.EntriesVeiled
import Derived.Lib.IndexBytes
import Derived.Deep.RegionWith
import Derived.Tactics2
import Derived.Laws.Rows
import Derived.Lib.Replace
import Derived.Lib.Split
import Derived.Lib.ItoaNum
import Derived.Lib.AtoiAllCases
import Derived.Lib.AtoiErrMem
import Derived.Lib.AppendIntMem
import Derived.Maps.OwnOps
import Derived.Maps.OwnSet
import Derived.Maps.Views
import Derived.Maps.AppendAt
import Derived.Deep.AppendLies
import Derived.Defers
import Derived.Recover
import Derived.Laws.Pointers
import Derived.Deep.CutBlock
import Derived.Deep.CutRange
import Derived.Test.YtbllodeanfdebaaGreatDoorShelf
import Derived.Test.YtbllodeanfdebaaGreatDoorBase
import Derived.Test.YtbllodeanfdebaaGreatDoorCsP
import Derived.Test.YtbllodeanfdebaaGreatDoorCsK
import Derived.Test.YtbllodeanfdebaaGreatDoorCsN
import Derived.Test.YtbllodeanfdebaaGreatDoorCsA
import Derived.Test.YtbllodeanfdebaaGreatDoorCsD
import Derived.Test.YtbllodeanfdebaaGreatDoorCsE
import Derived.Test.YtbllodeanfdebaaGreatDoorCsG
import Derived.Test.YtbllodeanfdebaaGreatDoorCsH
import Derived.Test.YtbllodeanfdebaaGreatDoorCsI
import Derived.Test.YtbllodeanfdebaaGreatDoorCsJ
import Derived.Test.YtbllodeanfdebaaGreatDoorCalm
import Derived.Test.YtbllodeanfdebaaGreatDoorCsL
import Derived.Test.YtbllodeanfdebaaGreatDoorRowS
import Derived.Test.YtbllodeanfdebaaGreatDoorRowG
import Derived.Test.YtbllodeanfdebaaGreatDoorCsO
import Derived.Test.YtbllodeanfdebaaGreatDoorCsM
import Derived.Test.YtbllodeanfdebaaGreatDoorCsN2
import Derived.Test.YtbllodeanfdebaaGreatDoorStL
import Derived.Test.YtbllodeanfdebaaGreatDoorCsO2
import Derived.Test.YtbllodeanfdebaaGreatDoorCsQ
import Derived.Test.YtbllodeanfdebaaGreatDoorStr
import Derived.Test.YtbllodeanfdebaaGreatDoorCsR
import Derived.Test.YtbllodeanfdebaaGreatDoorCsS
import Derived.Test.YtbllodeanfdebaaGreatDoorCsT
import Derived.Test.YtbllodeanfdebaaGreatDoorCsU
import Derived.Test.YtbllodeanfdebaaGreatDoorCsV
import Derived.Test.YtbllodeanfdebaaGreatDoorCsW
import Derived.Test.YtbllodeanfdebaaGreatDoorCsY
import Derived.Test.YtbllodeanfdebaaGreatDoorCsZ
import Derived.Test.YtbllodeanfdebaaGreatDoorCsPa
import Derived.Test.YtbllodeanfdebaaGreatDoorRpC
import Derived.Test.YtbllodeanfdebaaGreatDoorCtA
import Derived.Test.YtbllodeanfdebaaGreatDoorCtB
import Derived.Test.YtbllodeanfdebaaGreatDoorCtC
import Derived.Test.YtbllodeanfdebaaGreatDoorCtD
import Derived.Test.YtbllodeanfdebaaGreatDoorCtE
import Derived.Test.YtbllodeanfdebaaGreatDoorCtF
import Derived.Test.YtbllodeanfdebaaGreatDoorCtG
import Derived.Test.YtbllodeanfdebaaGreatDoorBits
namespace Go.Proofs.YtbllodeanfdebaaGreatDoor
open Go.ChangeShapes Go.WideShapes Go.ChangeAt Go.RowKit
set_option linter.unusedVariables false
set_option linter.unusedSimpArgs false in
set_option maxRecDepth 100000 in
set_option maxHeartbeats 40000000 in
theorem refParse_c (text : List UInt8) (w : World) (hm : text.length ≤ 1500) :
    Calls Tryz.prog 7 #[.string ⟨text.toArray⟩] w fun e w' => Hid (RPost (parseC numD bigS text) w e w') := by
  obtain ⟨d9, hu⟩ := isStruct_ofC (P := Tryz.prog) (t := 34) (by kernel_rfl)
  have HU := Lib.hid hu
  clear hu
  obtain ⟨ls, hls⟩ : ∃ ls, (linesP text).1 = ls := ⟨_, rfl⟩
  obtain ⟨tl, htl⟩ : ∃ tl, (linesP text).2 = tl := ⟨_, rfl⟩
  have hun := unl_lines text
  have hno := lines_no text
  rw [hls, htl] at hun hno
  have hlen : (unl ls tl).length ≤ 1500 := by rw [hun]; exact hm
  have hlen2 : (unl ls []).length ≤ 1500 := by
    have : (unl ls tl).length = (unl ls []).length + tl.length := by simp [unl]
    omega
  have hll : ls.length ≤ 1500 := by
    have : ∀ l : List (List UInt8), l.length ≤ (unl l tl).length := fun l => by
      induction l with
      | nil => simp
      | cons x l ih => rw [unl_len]; simp; omega
    have := this ls
    omega
  obtain ⟨N, hN⟩ : ∃ N, w.heap.size = N := ⟨_, rfl⟩
  obtain ⟨w1, hw1⟩ : ∃ w1, w.alloc (.cells ZR 34) = w1 := ⟨_, rfl⟩
  have hZ : w1.heap[N]? = some (.cells ZR 34) := by rw [← hw1, ← hN]; exact hp_new _ _
  have hb1 : Below w.heap.size w w1 := by rw [← hw1]; exact (Below.refl _ _).alloc (Nat.le_refl _) _
  have LN := Lib.hid (fun W => refLines_c text W hm)
  rw [hls, htl] at LN
  have H1 := Lib.hid (And.intro hZ hb1)
  have HNO := Lib.hid hno
  have HLEN := Lib.hid (And.intro hlen (And.intro hlen2 hll))
  have HLS := Lib.hid (And.intro hls htl)
  have HHN := Lib.hid hN
  clear hZ hb1 hno hlen hlen2 hll hun hls htl
  unfold ZR at hw1
  generalize hR : parseC numD bigS text = R at *
  have HR := Lib.hid hR
  clear hR
  -- a result laid down
  have BAD : Hid (∀ (W : World) (n : Nat) (z : Int), z = (n : Int) → W.heap[N]? = some (.cells ZR 34) → Below w.heap.size w W → R = .bad n → (W.setRow N ZR).heap[N]? = some (.cells ZR 34) ∧ RPost R w (.returned (.tuple #[.agg ZR, .int .i64 z, .int .i64 15])) (W.setRow N ZR)) := Lib.hid fun W n z hz h1 h2 h3 =>
    ⟨setRow_heap _ _ _ _ _ _ h1, below_setRow h2 (by rw [hN]; exact Nat.le_refl _) _, .inl ⟨n, h3, by rw [hz]⟩⟩
  go_enter Tryz.func7, Tryz.ntmps7
  go_wp2_with fail
  refine (LN.out _).mono ?_
  rintro e w2 ⟨⟨v, rfl, hO2⟩, hb2⟩
  obtain ⟨A, cl, rfl, hRl⟩ := own_rrdS hO2
  have H2 := Lib.hid (And.intro hRl (And.intro ((hb2.block _ (lt_of H1.out.1)).trans H1.out.1) (H1.out.2.trans (hb2.mono H1.out.2.size))))
  clear hO2 hRl hb2
  obtain ⟨w3, hw3⟩ : ∃ w3, w2.alloc (.cells #[] 3) = w3 := ⟨_, rfl⟩
  have hb3 : Below w2.heap.size w2 w3 := by rw [← hw3]; exact (Below.refl _ _).alloc (Nat.le_refl _) _
  have H3 := Lib.hid (And.intro ((H2.out.1.below hb3).more hb3.size) (And.intro ((hb3.block _ (lt_of H2.out.2.1)).trans H2.out.2.1) (H2.out.2.2.trans (hb3.mono H2.out.2.2.size))))
  have hl0 : (ls.length : Int) ≤ 1500 := by have := HLEN.out.2.2; omega

  clear hb3
  rcases ls with _ | ⟨y, r⟩
  · have hbad : R = .bad 1 := by rw [← HR.out]; exact parse_none fun y r e => by rw [HLS.out.1] at e; cases e
    have HB := BAD.out w3 1 1 rfl H3.out.2.1 H3.out.2.2 hbad
    have hst := H3.out.2.1
    have HF := Lib.hid HB
    clear HB hbad
    go_wp2_with (first | (refine wpList_store_row rfl _ _ _ rfl N #[.string ⟨#[]⟩, .int .i64 0, .int .i64 0, .int .i64 0, .int .i64 0, .int .i64 0, .int .i64 0, .slice none 0 0, .slice none 0 0] rfl rfl _ _ hst (by kernel_rfl) rfl (by kernel_rfl) ?_))
    exact bodyPost_ret (results_cell3q (p := 2) (u := 3) (v := 4) rfl _ _ N _ _ _ (.struct d9) rfl HF.out.1 HU.out rfl (by kernel_rfl)) rfl (Lib.hid HF.out.2)
  · obtain ⟨b0, o0, x0, rfl, hb0, hx0, hc0⟩ := H3.out.1.cell (show 0 < (y :: r).length by simp)
    obtain rfl : y = x0 := by simpa using hx0
    have y0 : w3.cell? ⟨b0, o0, none⟩ = some (.string ⟨y.toArray⟩) := by rw [show o0 = o0 + (0 * 1 + 0) by omega]; exact hc0 0 _ rfl
    have NB := Lib.hid (refNumbers_c y w3 (by have := HLEN.out.1; rw [unl_len] at this; omega))
    have hpos : (0 : Int) < ((y :: r).length : Int) := by simp
    clear hb0 hx0 hc0
    go_wp2_with fail
    refine NB.out.mono ?_
    rintro e w4 hpost
    clear NB
    obtain ⟨hb4, h4⟩ := hpost.out
    have H4 := Lib.hid (And.intro ((H3.out.1.below hb4).more hb4.size) (And.intro ((hb4.block _ (lt_of H3.out.2.1)).trans H3.out.2.1) (H3.out.2.2.trans (hb4.mono H3.out.2.2.size))))
    clear hb4 hpost y0
    rcases h4 with ⟨lim, v4, hfd, rfl, hO4⟩ | ⟨hfd, v4, rfl⟩
    · obtain ⟨An, cn, rfl, hRn⟩ := hO4.rrd (c := cI) (fun _ => rfl) (by decide)
      have hl6 : lim.length = 6 := by
        have h9 := hfd
        rw [first_lim] at h9
        unfold limP at h9
        split at h9
        · split at h9
          · rename_i h6
            rw [(mapM_some numD _ _ h9).1, h6]
          · cases h9
        · cases h9
      have HL6 := Lib.hid hl6
      have hRh := parse_head2 HLS.out.1 (by rw [← first_lim]; exact hfd)
      rw [HR.out, HLS.out.2] at hRh
      have HRH := Lib.hid hRh
      obtain ⟨bn, on, xn, rfl, _, _, _⟩ := hRn.cell (show 0 < lim.length by omega)
      have hni : ∀ i : Nat, i < 6 → ∀ W, Below w4.heap.size w4 W → W.cell? ⟨bn, on + i, none⟩ = some (.int .i64 ((lim.getD i 0 : Nat) : Int)) := fun i hi W hb => by
        obtain ⟨b, o, x, e, hbb, hx, hc⟩ := hRn.cell (show i < lim.length by omega)
        cases e
        have h9 := hc 0 _ rfl
        rw [show on + (i * 1 + 0) = on + i by omega] at h9
        rw [hb.cell hbb, h9, List.getD_eq_getElem?_getD, hx]
        rfl
      obtain ⟨m0, m1, m2, m3, m4, m5, HCV⟩ := caseV_ints lim
      have KP : Hid (∀ W, Below w4.heap.size w4 W → W.cell? ⟨bn, on, none⟩ = some (.int .i64 m0) ∧ W.cell? ⟨bn, on + 1, none⟩ = some (.int .i64 m1) ∧ W.cell? ⟨bn, on + 2, none⟩ = some (.int .i64 m2) ∧ W.cell? ⟨bn, on + 3, none⟩ = some (.int .i64 m3) ∧ W.cell? ⟨bn, on + 4, none⟩ = some (.int .i64 m4) ∧ W.cell? ⟨bn, on + 5, none⟩ = some (.int .i64 m5) ∧ Hid (Below w4.heap.size w4 W)) := Lib.hid fun W hb => by
        have e9 := HCV (.slice none 0 0) (.slice none 0 0) (.slice none 0 0)
        unfold caseV at e9
        have g1 := congrArg (fun a : Array Value => a.toList) e9
        simp only [List.cons.injEq, Value.int.injEq, true_and, and_true] at g1
        obtain ⟨g0, g1, g2, g3, g4, g5⟩ := g1
        exact ⟨by have := hni 0 (by omega) W hb; rw [g0] at this; exact this, by have := hni 1 (by omega) W hb; rw [g1] at this; exact this, by have := hni 2 (by omega) W hb; rw [g2] at this; exact this, by have := hni 3 (by omega) W hb; rw [g3] at this; exact this, by have := hni 4 (by omega) W hb; rw [g4] at this; exact this, by have := hni 5 (by omega) W hb; rw [g5] at this; exact this, Lib.hid hb⟩
      have HB0 : Hid (Below w4.heap.size w4 w4.drew) := Lib.hid (Below.refl _ _).drew
      obtain ⟨a0, a1, a2, a3, a4, a5, _⟩ := KP.out w4.drew HB0.out
      obtain ⟨M, hM⟩ : ∃ M, r.length + 1 = M := ⟨_, rfl⟩
      obtain ⟨L, hL⟩ : ∃ L, y :: r = L := ⟨_, rfl⟩
      have hLM : L.length = M := by rw [← hL, ← hM]; rfl
      have hM15 : M ≤ 1500 := by rw [← hM]; have := HLEN.out.2.2; simp at this; omega
      have hM15i : (M : Int) ≤ 1500 := by omega
      have H4L := H4.out
      rw [hL] at H4L HRH
      rw [hLM] at H4L HRH
      have hLR : ∀ W, Below w4.heap.size w4 W → ∀ (k : Nat) x, L[k]? = some x → W.cell? ⟨b0, o0 + k, none⟩ = some (.string ⟨x.toArray⟩) := fun W hb k x hx => by
        have hkM : k < M := by have := (List.getElem?_eq_some_iff.1 hx).1; omega
        obtain ⟨b, o, x', e, hbb, hx', hc⟩ := H4L.1.cell hkM
        cases e
        rw [hx] at hx'
        cases hx'
        have h9 := hc 0 _ rfl
        rw [show o0 + (k * 1 + 0) = o0 + k by omega] at h9
        rw [hb.cell hbb, h9]
      have hLB : ∀ x ∈ L, x.length ≤ 1500 := fun x hx => by
        have h9 := HLEN.out.1
        rw [hL] at h9
        obtain ⟨p, q, rfl⟩ := List.append_of_mem hx
        have h8 := unl_suf p (x :: q) tl
        rw [unl_len] at h8
        omega
      have hLU : (unl L []).length ≤ 60000 := by have h9 := HLEN.out.2.1; rw [hL] at h9; omega
      have hLN : (∀ x ∈ L, (10 : UInt8) ∉ x) := by rw [← hL]; exact HNO.out.1
      have HL := Lib.hid (And.intro hLM (And.intro hM15 (And.intro hLR (And.intro hLB (And.intro hLU (And.intro hLN (And.intro H4L.1 hL)))))))
      have HN4 := Lib.hid (And.intro H4L.2.1 H4L.2.2)
      rw [hl6]
      clear hRn hO4 hfd hni hRh hl6 hLR hLB hLU hLN hLM hL hM15 H4L
      have HF7 : Hid (∀ W, Below w4.heap.size w4 W → W.heap.size = w4.heap.size → Below w4.heap.size w4 W) := Lib.hid fun W h _ => h
      go_wp2_with fail
      go_region_held3 (fun W => W.cell? ⟨bn, on, none⟩ = some (.int .i64 m0) ∧ W.cell? ⟨bn, on + 1, none⟩ = some (.int .i64 m1) ∧ W.cell? ⟨bn, on + 2, none⟩ = some (.int .i64 m2) ∧ W.cell? ⟨bn, on + 3, none⟩ = some (.int .i64 m3) ∧ W.cell? ⟨bn, on + 4, none⟩ = some (.int .i64 m4) ∧ W.cell? ⟨bn, on + 5, none⟩ = some (.int .i64 m5) ∧ Hid (Below w4.heap.size w4 W)) (first | exact KP.out _ HB0.out | exact KP.out _ (HB0.out.alloc (Nat.le_refl _) _) | (refine KP.out _ ?_; exact below_setRow (HB0.out.alloc (Nat.le_refl _) _) (Nat.le_refl _) _)) (fail)
      all_goals
        have HJ0 : Hid (RpJ w4.heap.size w4 lim [] (.slice none 0 0) (.slice none 0 0) [] (w4.alloc (.cells #[.string ⟨#[]⟩, .int .i64 m0, .int .i64 m1, .int .i64 m2, .int .i64 m3, .int .i64 m4, .int .i64 m5, .slice none 0 0, .slice none 0 0] 34)).drew) := Lib.hid (RpJ.drew ⟨(Below.refl _ _).alloc (Nat.le_refl _) _, by rw [HCV]; exact hp_new _ _, OwnS.start _ _, OwnA.start _ _, by simp⟩)
        clear HB0 a0 a1 a2 a3 a4 a5 KP HF7
        generalize (w4.alloc (.cells #[.string ⟨#[]⟩, .int .i64 m0, .int .i64 m1, .int .i64 m2, .int .i64 m3, .int .i64 m4, .int .i64 m5, .slice none 0 0, .slice none 0 0] 34)).drew = w7 at *
        obtain ⟨C, hC⟩ : ∃ C, w4.heap.size = C := ⟨_, rfl⟩
        have HC := Lib.hid hC
        rw [hC] at HJ0 ⊢
        clear hC
        go_upto_block 0 with fail
        go_cut [10] from 57 to 81 (fun i wx => ∃ (k : Nat) (al : List (List UInt8)) (va : Value), i = .int .i64 (k : Int) ∧ 1 ≤ k ∧ k ≤ M ∧ Hid (RpJ C w4 lim al va (.slice none 0 0) [] wx ∧ (allowP r).1 = al ∧ (allowP r).2 = L.drop k ∧ al.length ≤ k))
        case first =>
          go_wp2_with fail
          go_loopg [10] (M + 1) (fun g i wr => ∃ (k : Nat) (al : List (List UInt8)) (va : Value), i = .int .i64 (k : Int) ∧ 1 ≤ k ∧ k ≤ M ∧ Hid (g + k = M + 2) ∧ Hid (RpJ C w4 lim al va (.slice none 0 0) [] wr ∧ (allowP r).1 = al ++ (allowP (L.drop k)).1 ∧ (allowP r).2 = (allowP (L.drop k)).2 ∧ al.length ≤ k))
          case atStart => exact ⟨1, [], _, rfl, Nat.le_refl _, by omega, Lib.hid (by omega), Lib.hid ⟨HJ0.out, by rw [← HL.out.2.2.2.2.2.2.2]; rfl, by rw [← HL.out.2.2.2.2.2.2.2]; rfl, by simp⟩⟩
          case round =>
            obtain ⟨k, al, va, rfl, hk1, hkM, hg, HJ⟩ := hrel
            have hk9 : (k : Int) ≤ (M : Int) := by omega
            have hk0 : (1 : Int) ≤ (k : Int) := by omega
            by_cases hkm : k < M
            · have hk2 : (k : Int) < (M : Int) := by omega
              obtain ⟨x, hx⟩ : ∃ x, L[k]? = some x := ⟨_, List.getElem?_eq_getElem (by rw [HL.out.1]; exact hkm)⟩
              have hbw : ∀ W, Below C w4 W → Below w4.heap.size w4 W := fun W h => by rw [HC.out]; exact h
              have y0 : wr.cell? ⟨b0, o0 + k, none⟩ = some (.string ⟨x.toArray⟩) := HL.out.2.2.1 wr (hbw _ HJ.out.1.bb) k x hx
              have hxl := HL.out.2.2.2.1 x (List.mem_of_getElem? hx)
              have BC := Lib.hid (begins_c x wAllow wr (by omega) (by decide))
              have hdk := drop_at_l hx
              cases hbx : beginsL wAllow x with
              | true =>
                rw [hbx] at BC
                obtain ⟨Aa, ca, rfl⟩ := OwnS.form HJ.out.1.al
                have h6 : 6 ≤ x.length := by have h9 := hbx; unfold beginsL at h9; rw [Bool.and_eq_true, decide_eq_true_eq] at h9; have h8 : wAllow.length = 6 := rfl; omega
                obtain ⟨z, hz⟩ : ∃ z, x.drop 6 = z := ⟨_, rfl⟩
                have hsl : ∀ W, (Instr.slice 9 (.string ⟨x.toArray⟩) (some (.int .i64 6)) none none).run Tryz.prog W = .ok (.string ⟨z.toArray⟩) W := fun W => by have h9 := run_sFrom x 6 h6 W; rw [hz] at h9; exact h9
                have HN1 : Hid ((allowP r).1 = (al ++ [z]) ++ (allowP (L.drop (k + 1))).1 ∧ (allowP r).2 = (allowP (L.drop (k + 1))).2) := Lib.hid (by
                  have h1 := HJ.out.2.1
                  have h2 := HJ.out.2.2.1
                  rw [hdk, allow_step hbx] at h1 h2
                  rw [← hz]
                  exact ⟨by rw [h1]; simp [wAllow], h2⟩)
                have HA : Hid (RpJ C w4 lim al (.slice Aa al.length ca) (.slice none 0 0) [] (wr.drew.alloc (.cells #[.string ⟨z.toArray⟩] 9))) := Lib.hid (HJ.out.1.drew.kept ((Below.refl _ _).alloc (Nat.le_refl _) _))
                have c7 : wr.drew.cell? ⟨C, 7, none⟩ = some (.slice Aa al.length ca) := by rw [cell_of 7 HJ.out.1.drew.cs]; rfl
                have c7b : (wr.drew.alloc (.cells #[.string ⟨z.toArray⟩] 9)).cell? ⟨C, 7, none⟩ = some (.slice Aa al.length ca) := by rw [cell_of 7 HA.out.cs]; rfl
                have c7c : (wr.alloc (.cells #[.string ⟨z.toArray⟩] 9)).drew.cell? ⟨C, 7, none⟩ = some (.slice Aa al.length ca) := c7b
                have yd : wr.drew.cell? ⟨b0, o0 + k, none⟩ = some (.string ⟨x.toArray⟩) := y0
                have hcellA : ∀ ad, some (⟨wr.heap.size, 0, none⟩ : Addr) = some ad → ∀ (j : Nat) u, ([z].map strV)[j]? = some u → (wr.drew.alloc (.cells #[.string ⟨z.toArray⟩] 9)).cell? (ad.add j) = some u := fun ad e j u hu => by cases e; exact cell_newN wr.drew [strV z] 9 j u hu
                have hbb : al.length + 1 ≤ 1000000 := by have := HJ.out.2.2.2; omega
                clear hz h6 hdk hbx
                go_wp2_with fail
                refine BC.out.mono ?_
                rintro e wq ⟨rfl, rfl⟩
                clear BC
                go_wp2_with fail
                refine wp_region_drew (by kernel_rfl) ?_
                refine wpAny_take (i := 0) (oi := { dst := some 68, op := Op.fieldAddr 34 (Operand.tmp 9) 1, type := 0, pos := "ref.go:169", after := #[], guard := none }) (v := ?_) rfl (by kernel_rfl) (by kernel_rfl) (by kernel_rfl) (fun _ _ _ h => h) (Or.inl ⟨by rfl, fun w9 => by go_simp; try with_reducible rfl⟩) ?_
                (try simp only [Act.put, List.setIfInBounds_toArray, List.set_cons_zero, List.set_cons_succ])
                refine wpAny_take (i := 1) (oi := { dst := some 69, op := Op.fieldAddr 26 (Operand.tmp 68) 6, type := 0, pos := "ref.go:169", after := #[{ on := 0, ground := Ground.data }], guard := none }) (v := ?_) rfl (by kernel_rfl) (by kernel_rfl) (by kernel_rfl) (fun _ _ _ h => h) (Or.inl ⟨by rfl, fun w9 => by go_simp; try with_reducible rfl⟩) ?_
                (try simp only [Act.put, List.setIfInBounds_toArray, List.set_cons_zero, List.set_cons_succ])
                refine wpAny_take (i := 3) (oi := { dst := some 71, op := Op.move (Operand.tmp 5), type := 24, pos := "ref.go:169", after := #[], guard := none }) (v := ?_) rfl (by kernel_rfl) (by kernel_rfl) (by kernel_rfl) (fun _ _ _ h => h) (Or.inl ⟨by rfl, fun w9 => by go_simp; try with_reducible rfl⟩) ?_
                (try simp only [Act.put, List.setIfInBounds_toArray, List.set_cons_zero, List.set_cons_succ])
                refine wpAny_take (i := 4) (oi := { dst := some 72, op := Op.move (Operand.tmp 10), type := 3, pos := "ref.go:169", after := #[], guard := none }) (v := ?_) rfl (by kernel_rfl) (by kernel_rfl) (by kernel_rfl) (fun _ _ _ h => h) (Or.inl ⟨by rfl, fun w9 => by go_simp; try with_reducible rfl⟩) ?_
                (try simp only [Act.put, List.setIfInBounds_toArray, List.set_cons_zero, List.set_cons_succ])
                refine wpAny_take (i := 5) (oi := { dst := some 73, op := Op.indexAddr 24 (Operand.tmp 71) (Operand.tmp 72), type := 0, pos := "ref.go:169", after := #[{ on := 3, ground := Ground.data }, { on := 4, ground := Ground.data }], guard := none }) (v := ?_) rfl (by kernel_rfl) (by kernel_rfl) (by kernel_rfl) (fun _ _ _ h => h) (Or.inl ⟨by rfl, fun w9 => by go_simp; try with_reducible rfl⟩) ?_
                (try simp only [Act.put, List.setIfInBounds_toArray, List.set_cons_zero, List.set_cons_succ])
                refine wpAny_ready (rs := [2, 6]) (by kernel_rfl) (by simp) ?_
                refine AllReady.cons (o := { dst := some 70, op := Op.load 24 (Operand.tmp 69), type := 24, pos := "ref.go:169", after := #[{ on := 1, ground := Ground.data }], guard := none }) rfl (fun K hK => ?_) ?_
                · go_simp
                  refine hK _ _ ?_
                  clear hK K
                  (try simp only [Act.put, List.setIfInBounds_toArray, List.set_cons_zero, List.set_cons_succ])
                  refine wpAny_ready (rs := [6]) (by kernel_rfl) (by simp) ?_
                  refine AllReady.cons (o := { dst := some 74, op := Op.load 9 (Operand.tmp 73), type := 9, pos := "ref.go:169", after := #[{ on := 5, ground := Ground.data }], guard := none }) rfl (fun K hK => ?_) ?_
                  · go_simp
                    refine hK _ _ ?_
                    clear hK K
                    (try simp only [Act.put, List.setIfInBounds_toArray, List.set_cons_zero, List.set_cons_succ])
                    refine wpAny_take (i := 7) (oi := { dst := some 75, op := Op.slice 9 (Operand.tmp 74) (some (Operand.const (Value.int IntKind.i64 6))) none none, type := 9, pos := "ref.go:169", after := #[{ on := 6, ground := Ground.data }], guard := none }) (v := ?_) rfl (by kernel_rfl) (by kernel_rfl) (by kernel_rfl) (fun _ _ _ h => h) (Or.inl ⟨by rfl, fun w9 => by go_simp; try with_reducible rfl⟩) ?_
                    (try simp only [Act.put, List.setIfInBounds_toArray, List.set_cons_zero, List.set_cons_succ])
                    refine wpAny_ready (rs := [8]) (by kernel_rfl) (by simp) ?_
                    refine AllReady.cons (o := { dst := some 76, op := Op.buildSlice 24 1 #[(0, Operand.tmp 75)], type := 24, pos := "ref.go:169", after := #[{ on := 7, ground := Ground.data }], guard := none }) rfl (fun K hK => ?_) ?_
                    · go_simp
                      refine hK _ _ ?_
                      clear hK K
                      (try simp only [Act.put, List.setIfInBounds_toArray, List.set_cons_zero, List.set_cons_succ])
                      refine wpAny_ready (rs := [9]) (by kernel_rfl) (by simp) ?_
                      refine AllReady.cons (o := { dst := some 77, op := Op.call { callee := Callee.builtin Builtin.append, args := #[Operand.tmp 70, Operand.tmp 76], argTypes := #[24, 24] }, type := 24, pos := "ref.go:169", after := #[{ on := 2, ground := Ground.data }, { on := 8, ground := Ground.data }], guard := none }) rfl (fun K hK => ?_) ?_
                      · refine stepAppS rfl (.tmp 70) (.tmp 76) rfl (C + 1) (.slice Aa al.length ca) al rfl HA.out.al (some ⟨wr.heap.size, 0, none⟩) 1 1 rfl [z] rfl hcellA (fun e => by cases e) hbb HA.out.sz ?_
                        intro v7 w7 ho7 hg7 hat7
                        obtain ⟨A7, cp7, e7⟩ := OwnS.form ho7
                        rw [show (al ++ [z]).length = al.length + 1 from by simp] at e7
                        subst e7
                        obtain ⟨hN7, hJ7⟩ := HA.out.app ho7 hg7
                        have HJ7 := Lib.hid hJ7
                        have d7 : w7.cell? ⟨C, 7, none⟩ = some (.slice Aa al.length ca) := by rw [cell_of 7 hN7]; rfl
                        have f7 := free_of 7 hN7
                        clear ho7 hg7 hat7 hJ7 hN7
                        refine hK _ _ ?_
                        clear hK K
                        (try simp only [Act.put, List.setIfInBounds_toArray, List.set_cons_zero, List.set_cons_succ])
                        refine wpAny_take (i := 10) (oi := { dst := some 78, op := Op.fieldAddr 34 (Operand.tmp 9) 1, type := 0, pos := "ref.go:169", after := #[{ on := 0, ground := Ground.phase }, { on := 1, ground := Ground.phase }, { on := 2, ground := Ground.phase }, { on := 3, ground := Ground.phase }, { on := 4, ground := Ground.phase }, { on := 5, ground := Ground.phase }, { on := 6, ground := Ground.phase }, { on := 7, ground := Ground.phase }, { on := 8, ground := Ground.phase }, { on := 9, ground := Ground.phase }], guard := none }) (v := ?_) rfl (by kernel_rfl) (by kernel_rfl) (by kernel_rfl) (fun _ _ _ h => h) (Or.inl ⟨by rfl, fun w9 => by go_simp; try with_reducible rfl⟩) ?_
                        (try simp only [Act.put, List.setIfInBounds_toArray, List.set_cons_zero, List.set_cons_succ])
                        refine wpAny_take (i := 11) (oi := { dst := some 79, op := Op.fieldAddr 26 (Operand.tmp 78) 6, type := 0, pos := "ref.go:169", after := #[{ on := 10, ground := Ground.data }, { on := 0, ground := Ground.phase }, { on := 1, ground := Ground.phase }, { on := 2, ground := Ground.phase }, { on := 3, ground := Ground.phase }, { on := 4, ground := Ground.phase }, { on := 5, ground := Ground.phase }, { on := 6, ground := Ground.phase }, { on := 7, ground := Ground.phase }, { on := 8, ground := Ground.phase }, { on := 9, ground := Ground.phase }], guard := none }) (v := ?_) rfl (by kernel_rfl) (by kernel_rfl) (by kernel_rfl) (fun _ _ _ h => h) (Or.inl ⟨by rfl, fun w9 => by go_simp; try with_reducible rfl⟩) ?_
                        (try simp only [Act.put, List.setIfInBounds_toArray, List.set_cons_zero, List.set_cons_succ])
                        refine wpAny_ready (rs := [12]) (by kernel_rfl) (by simp) ?_
                        refine AllReady.cons (o := { dst := none, op := Op.store 24 (Operand.tmp 79) (Operand.tmp 77), type := 0, pos := "ref.go:169", after := #[{ on := 11, ground := Ground.data }, { on := 9, ground := Ground.data }, { on := 9, ground := Ground.chain }, { on := 0, ground := Ground.phase }, { on := 1, ground := Ground.phase }, { on := 2, ground := Ground.phase }, { on := 3, ground := Ground.phase }, { on := 4, ground := Ground.phase }, { on := 5, ground := Ground.phase }, { on := 6, ground := Ground.phase }, { on := 7, ground := Ground.phase }, { on := 8, ground := Ground.phase }, { on := 9, ground := Ground.phase }], guard := none }) rfl (fun K hK => ?_) ?_
                        · go_simp
                          refine hK _ _ ?_
                          clear hK K
                          (try simp only [Act.put, List.setIfInBounds_toArray, List.set_cons_zero, List.set_cons_succ])
                          refine wpAny_done (by kernel_rfl) ?_ _
                          (try simp only [Exit.inBlock, Exit.then])
                          go_wp2
                          go_roundg (M + 2 - (k + 1))
                          case measure => have := hg.out; omega
                          case rel => exact ⟨k + 1, al ++ [z], _, by go_num, by omega, by omega, Lib.hid (by have := hg.out; omega), Lib.hid ⟨HJ7.out, HN1.out.1, HN1.out.2, by have := HJ.out.2.2.2; rw [List.length_append]; simp; omega⟩⟩
                        exact AllReady.nil
                      exact AllReady.nil
                    exact AllReady.nil
                  exact AllReady.nil
                refine AllReady.cons (o := { dst := some 74, op := Op.load 9 (Operand.tmp 73), type := 9, pos := "ref.go:169", after := #[{ on := 5, ground := Ground.data }], guard := none }) rfl (fun K hK => ?_) ?_
                · go_simp
                  refine hK _ _ ?_
                  clear hK K
                  (try simp only [Act.put, List.setIfInBounds_toArray, List.set_cons_zero, List.set_cons_succ])
                  refine wpAny_take (i := 7) (oi := { dst := some 75, op := Op.slice 9 (Operand.tmp 74) (some (Operand.const (Value.int IntKind.i64 6))) none none, type := 9, pos := "ref.go:169", after := #[{ on := 6, ground := Ground.data }], guard := none }) (v := ?_) rfl (by kernel_rfl) (by kernel_rfl) (by kernel_rfl) (fun _ _ _ h => h) (Or.inl ⟨by rfl, fun w9 => by go_simp; try with_reducible rfl⟩) ?_
                  (try simp only [Act.put, List.setIfInBounds_toArray, List.set_cons_zero, List.set_cons_succ])
                  refine wpAny_ready (rs := [2, 8]) (by kernel_rfl) (by simp) ?_
                  refine AllReady.cons (o := { dst := some 70, op := Op.load 24 (Operand.tmp 69), type := 24, pos := "ref.go:169", after := #[{ on := 1, ground := Ground.data }], guard := none }) rfl (fun K hK => ?_) ?_
                  · go_simp
                    refine hK _ _ ?_
                    clear hK K
                    (try simp only [Act.put, List.setIfInBounds_toArray, List.set_cons_zero, List.set_cons_succ])
                    refine wpAny_ready (rs := [8]) (by kernel_rfl) (by simp) ?_
                    refine AllReady.cons (o := { dst := some 76, op := Op.buildSlice 24 1 #[(0, Operand.tmp 75)], type := 24, pos := "ref.go:169", after := #[{ on := 7, ground := Ground.data }], guard := none }) rfl (fun K hK => ?_) ?_
                    · go_simp
                      refine hK _ _ ?_
                      clear hK K
                      (try simp only [Act.put, List.setIfInBounds_toArray, List.set_cons_zero, List.set_cons_succ])
                      refine wpAny_ready (rs := [9]) (by kernel_rfl) (by simp) ?_
                      refine AllReady.cons (o := { dst := some 77, op := Op.call { callee := Callee.builtin Builtin.append, args := #[Operand.tmp 70, Operand.tmp 76], argTypes := #[24, 24] }, type := 24, pos := "ref.go:169", after := #[{ on := 2, ground := Ground.data }, { on := 8, ground := Ground.data }], guard := none }) rfl (fun K hK => ?_) ?_
                      · refine stepAppS rfl (.tmp 70) (.tmp 76) rfl (C + 1) (.slice Aa al.length ca) al rfl HA.out.al (some ⟨wr.heap.size, 0, none⟩) 1 1 rfl [z] rfl hcellA (fun e => by cases e) hbb HA.out.sz ?_
                        intro v7 w7 ho7 hg7 hat7
                        obtain ⟨A7, cp7, e7⟩ := OwnS.form ho7
                        rw [show (al ++ [z]).length = al.length + 1 from by simp] at e7
                        subst e7
                        obtain ⟨hN7, hJ7⟩ := HA.out.app ho7 hg7
                        have HJ7 := Lib.hid hJ7
                        have d7 : w7.cell? ⟨C, 7, none⟩ = some (.slice Aa al.length ca) := by rw [cell_of 7 hN7]; rfl
                        have f7 := free_of 7 hN7
                        clear ho7 hg7 hat7 hJ7 hN7
                        refine hK _ _ ?_
                        clear hK K
                        (try simp only [Act.put, List.setIfInBounds_toArray, List.set_cons_zero, List.set_cons_succ])
                        refine wpAny_take (i := 10) (oi := { dst := some 78, op := Op.fieldAddr 34 (Operand.tmp 9) 1, type := 0, pos := "ref.go:169", after := #[{ on := 0, ground := Ground.phase }, { on := 1, ground := Ground.phase }, { on := 2, ground := Ground.phase }, { on := 3, ground := Ground.phase }, { on := 4, ground := Ground.phase }, { on := 5, ground := Ground.phase }, { on := 6, ground := Ground.phase }, { on := 7, ground := Ground.phase }, { on := 8, ground := Ground.phase }, { on := 9, ground := Ground.phase }], guard := none }) (v := ?_) rfl (by kernel_rfl) (by kernel_rfl) (by kernel_rfl) (fun _ _ _ h => h) (Or.inl ⟨by rfl, fun w9 => by go_simp; try with_reducible rfl⟩) ?_
                        (try simp only [Act.put, List.setIfInBounds_toArray, List.set_cons_zero, List.set_cons_succ])
                        refine wpAny_take (i := 11) (oi := { dst := some 79, op := Op.fieldAddr 26 (Operand.tmp 78) 6, type := 0, pos := "ref.go:169", after := #[{ on := 10, ground := Ground.data }, { on := 0, ground := Ground.phase }, { on := 1, ground := Ground.phase }, { on := 2, ground := Ground.phase }, { on := 3, ground := Ground.phase }, { on := 4, ground := Ground.phase }, { on := 5, ground := Ground.phase }, { on := 6, ground := Ground.phase }, { on := 7, ground := Ground.phase }, { on := 8, ground := Ground.phase }, { on := 9, ground := Ground.phase }], guard := none }) (v := ?_) rfl (by kernel_rfl) (by kernel_rfl) (by kernel_rfl) (fun _ _ _ h => h) (Or.inl ⟨by rfl, fun w9 => by go_simp; try with_reducible rfl⟩) ?_
                        (try simp only [Act.put, List.setIfInBounds_toArray, List.set_cons_zero, List.set_cons_succ])
                        refine wpAny_ready (rs := [12]) (by kernel_rfl) (by simp) ?_
                        refine AllReady.cons (o := { dst := none, op := Op.store 24 (Operand.tmp 79) (Operand.tmp 77), type := 0, pos := "ref.go:169", after := #[{ on := 11, ground := Ground.data }, { on := 9, ground := Ground.data }, { on := 9, ground := Ground.chain }, { on := 0, ground := Ground.phase }, { on := 1, ground := Ground.phase }, { on := 2, ground := Ground.phase }, { on := 3, ground := Ground.phase }, { on := 4, ground := Ground.phase }, { on := 5, ground := Ground.phase }, { on := 6, ground := Ground.phase }, { on := 7, ground := Ground.phase }, { on := 8, ground := Ground.phase }, { on := 9, ground := Ground.phase }], guard := none }) rfl (fun K hK => ?_) ?_
                        · go_simp
                          refine hK _ _ ?_
                          clear hK K
                          (try simp only [Act.put, List.setIfInBounds_toArray, List.set_cons_zero, List.set_cons_succ])
                          refine wpAny_done (by kernel_rfl) ?_ _
                          (try simp only [Exit.inBlock, Exit.then])
                          go_wp2
                          go_roundg (M + 2 - (k + 1))
                          case measure => have := hg.out; omega
                          case rel => exact ⟨k + 1, al ++ [z], _, by go_num, by omega, by omega, Lib.hid (by have := hg.out; omega), Lib.hid ⟨HJ7.out, HN1.out.1, HN1.out.2, by have := HJ.out.2.2.2; rw [List.length_append]; simp; omega⟩⟩
                        exact AllReady.nil
                      exact AllReady.nil
                    exact AllReady.nil
                  refine AllReady.cons (o := { dst := some 76, op := Op.buildSlice 24 1 #[(0, Operand.tmp 75)], type := 24, pos := "ref.go:169", after := #[{ on := 7, ground := Ground.data }], guard := none }) rfl (fun K hK => ?_) ?_
                  · go_simp
                    refine hK _ _ ?_
                    clear hK K
                    (try simp only [Act.put, List.setIfInBounds_toArray, List.set_cons_zero, List.set_cons_succ])
                    refine wpAny_ready (rs := [2]) (by kernel_rfl) (by simp) ?_
                    refine AllReady.cons (o := { dst := some 70, op := Op.load 24 (Operand.tmp 69), type := 24, pos := "ref.go:169", after := #[{ on := 1, ground := Ground.data }], guard := none }) rfl (fun K hK => ?_) ?_
                    · go_simp
                      refine hK _ _ ?_
                      clear hK K
                      (try simp only [Act.put, List.setIfInBounds_toArray, List.set_cons_zero, List.set_cons_succ])
                      refine wpAny_ready (rs := [9]) (by kernel_rfl) (by simp) ?_
                      refine AllReady.cons (o := { dst := some 77, op := Op.call { callee := Callee.builtin Builtin.append, args := #[Operand.tmp 70, Operand.tmp 76], argTypes := #[24, 24] }, type := 24, pos := "ref.go:169", after := #[{ on := 2, ground := Ground.data }, { on := 8, ground := Ground.data }], guard := none }) rfl (fun K hK => ?_) ?_
                      · refine stepAppS rfl (.tmp 70) (.tmp 76) rfl (C + 1) (.slice Aa al.length ca) al rfl HA.out.al (some ⟨wr.heap.size, 0, none⟩) 1 1 rfl [z] rfl hcellA (fun e => by cases e) hbb HA.out.sz ?_
                        intro v7 w7 ho7 hg7 hat7
                        obtain ⟨A7, cp7, e7⟩ := OwnS.form ho7
                        rw [show (al ++ [z]).length = al.length + 1 from by simp] at e7
                        subst e7
                        obtain ⟨hN7, hJ7⟩ := HA.out.app ho7 hg7
                        have HJ7 := Lib.hid hJ7
                        have d7 : w7.cell? ⟨C, 7, none⟩ = some (.slice Aa al.length ca) := by rw [cell_of 7 hN7]; rfl
                        have f7 := free_of 7 hN7
                        clear ho7 hg7 hat7 hJ7 hN7
                        refine hK _ _ ?_
                        clear hK K
                        (try simp only [Act.put, List.setIfInBounds_toArray, List.set_cons_zero, List.set_cons_succ])
                        refine wpAny_take (i := 10) (oi := { dst := some 78, op := Op.fieldAddr 34 (Operand.tmp 9) 1, type := 0, pos := "ref.go:169", after := #[{ on := 0, ground := Ground.phase }, { on := 1, ground := Ground.phase }, { on := 2, ground := Ground.phase }, { on := 3, ground := Ground.phase }, { on := 4, ground := Ground.phase }, { on := 5, ground := Ground.phase }, { on := 6, ground := Ground.phase }, { on := 7, ground := Ground.phase }, { on := 8, ground := Ground.phase }, { on := 9, ground := Ground.phase }], guard := none }) (v := ?_) rfl (by kernel_rfl) (by kernel_rfl) (by kernel_rfl) (fun _ _ _ h => h) (Or.inl ⟨by rfl, fun w9 => by go_simp; try with_reducible rfl⟩) ?_
                        (try simp only [Act.put, List.setIfInBounds_toArray, List.set_cons_zero, List.set_cons_succ])
                        refine wpAny_take (i := 11) (oi := { dst := some 79, op := Op.fieldAddr 26 (Operand.tmp 78) 6, type := 0, pos := "ref.go:169", after := #[{ on := 10, ground := Ground.data }, { on := 0, ground := Ground.phase }, { on := 1, ground := Ground.phase }, { on := 2, ground := Ground.phase }, { on := 3, ground := Ground.phase }, { on := 4, ground := Ground.phase }, { on := 5, ground := Ground.phase }, { on := 6, ground := Ground.phase }, { on := 7, ground := Ground.phase }, { on := 8, ground := Ground.phase }, { on := 9, ground := Ground.phase }], guard := none }) (v := ?_) rfl (by kernel_rfl) (by kernel_rfl) (by kernel_rfl) (fun _ _ _ h => h) (Or.inl ⟨by rfl, fun w9 => by go_simp; try with_reducible rfl⟩) ?_
                        (try simp only [Act.put, List.setIfInBounds_toArray, List.set_cons_zero, List.set_cons_succ])
                        refine wpAny_ready (rs := [12]) (by kernel_rfl) (by simp) ?_
                        refine AllReady.cons (o := { dst := none, op := Op.store 24 (Operand.tmp 79) (Operand.tmp 77), type := 0, pos := "ref.go:169", after := #[{ on := 11, ground := Ground.data }, { on := 9, ground := Ground.data }, { on := 9, ground := Ground.chain }, { on := 0, ground := Ground.phase }, { on := 1, ground := Ground.phase }, { on := 2, ground := Ground.phase }, { on := 3, ground := Ground.phase }, { on := 4, ground := Ground.phase }, { on := 5, ground := Ground.phase }, { on := 6, ground := Ground.phase }, { on := 7, ground := Ground.phase }, { on := 8, ground := Ground.phase }, { on := 9, ground := Ground.phase }], guard := none }) rfl (fun K hK => ?_) ?_
                        · go_simp
                          refine hK _ _ ?_
                          clear hK K
                          (try simp only [Act.put, List.setIfInBounds_toArray, List.set_cons_zero, List.set_cons_succ])
                          refine wpAny_done (by kernel_rfl) ?_ _
                          (try simp only [Exit.inBlock, Exit.then])
                          go_wp2
                          go_roundg (M + 2 - (k + 1))
                          case measure => have := hg.out; omega
                          case rel => exact ⟨k + 1, al ++ [z], _, by go_num, by omega, by omega, Lib.hid (by have := hg.out; omega), Lib.hid ⟨HJ7.out, HN1.out.1, HN1.out.2, by have := HJ.out.2.2.2; rw [List.length_append]; simp; omega⟩⟩
                        exact AllReady.nil
                      exact AllReady.nil
                    exact AllReady.nil
                  exact AllReady.nil
                exact AllReady.nil
              | false =>
                rw [hbx] at BC
                have HE : Hid ((allowP r).1 = al ∧ (allowP r).2 = L.drop k) := Lib.hid (by
                  have h1 := HJ.out.2.1
                  have h2 := HJ.out.2.2.1
                  have hst := allow_stop (show namedP wAllow (L.drop k) = none by rw [hdk]; simp [namedP, hbx])
                  rw [hst] at h1 h2
                  exact ⟨by simpa using h1, h2⟩)
                clear hdk hbx
                go_wp2_with fail
                refine BC.out.mono ?_
                rintro e wq ⟨rfl, rfl⟩
                go_wp2_with fail
                go_meet
                exact ⟨k, al, va, rfl, hk1, hkM, Lib.hid ⟨HJ.out.1, HE.out.1, HE.out.2, HJ.out.2.2.2⟩⟩
            · have hk2 : ¬ (k : Int) < (M : Int) := by omega
              have HE : Hid ((allowP r).1 = al ∧ (allowP r).2 = L.drop k) := Lib.hid (by
                have h1 := HJ.out.2.1
                have h2 := HJ.out.2.2.1
                have h0 : L.drop k = [] := List.drop_of_length_le (by rw [HL.out.1]; omega)
                rw [h0] at h1 h2 ⊢
                exact ⟨by simpa [allowP] using h1, h2⟩)
              go_wp2_with fail
              go_meet
              exact ⟨k, al, va, rfl, hk1, hkM, Lib.hid ⟨HJ.out.1, HE.out.1, HE.out.2, HJ.out.2.2.2⟩⟩
        obtain ⟨k0, al, va, rfl, hk1, hkM, HJ⟩ := hcut
        obtain ⟨SC, hSC⟩ : ∃ SC, scriptP ((L.drop k0).length + 1) (L.drop k0) [] = SC := ⟨_, rfl⟩
        have HSC := Lib.hid hSC
        have HR2 : Hid (R = afterA M lim al tl SC) := Lib.hid (by
          have h9 := HRH.out
          rw [HJ.out.2.1, HJ.out.2.2.1, hSC] at h9
          exact h9)
        clear hSC
        go_upto_block 2 with fail
        go_cut [10] from 82 to 136 (fun i wx => ∃ (k : Nat) (sc : List AnV) (vs : Value), i = .int .i64 (k : Int) ∧ 1 ≤ k ∧ k ≤ M ∧ Hid (RpJ C w4 lim al va vs sc wx ∧ SC = .inl (sc.map AnV.a, L.drop k) ∧ sc.length ≤ k))
        case first =>
          go_wp2_with fail
          go_loopg [10] (M + 1) (fun g i wr => ∃ (k f : Nat) (sc : List AnV) (vs : Value), i = .int .i64 (k : Int) ∧ 1 ≤ k ∧ k ≤ M ∧ Hid (g + k = M + 1 + k0) ∧ Hid (RpJ C w4 lim al va vs sc wr ∧ scriptP f (L.drop k) (sc.map AnV.a) = SC ∧ (L.drop k).length < f ∧ sc.length ≤ k))
          case atStart => exact ⟨k0, (L.drop k0).length + 1, [], _, rfl, hk1, hkM, Lib.hid rfl, Lib.hid ⟨HJ.out.1, HSC.out, Nat.lt_succ_self _, Nat.zero_le _⟩⟩
          case round =>
            obtain ⟨k, f, sc, vs, rfl, hk1, hkM, hg, HJ2⟩ := hrel
            have hk9 : (k : Int) ≤ (M : Int) := by omega
            have hk0 : (1 : Int) ≤ (k : Int) := by omega
            by_cases hkm : k < M
            · have hk2 : (k : Int) < (M : Int) := by omega
              obtain ⟨f, rfl⟩ : ∃ f', f = f' + 1 := ⟨f - 1, by have := HJ2.out.2.2.1; omega⟩
              obtain ⟨x, hx⟩ : ∃ x, L[k]? = some x := ⟨_, List.getElem?_eq_getElem (by rw [HL.out.1]; exact hkm)⟩
              have hbw : ∀ W, Below C w4 W → Below w4.heap.size w4 W := fun W h => by rw [HC.out]; exact h
              have HY : Hid (∀ W, Below C w4 W → W.cell? ⟨b0, o0 + k, none⟩ = some (.string ⟨x.toArray⟩)) := Lib.hid fun W hb => HL.out.2.2.1 W (hbw _ hb) k x hx
              have y0 := HY.out wr HJ2.out.1.bb
              have hxl := HL.out.2.2.2.1 x (List.mem_of_getElem? hx)
              have BO := Lib.hid (begins_c x wOk wr (by omega) (by decide))
              have BN := Lib.hid (begins_c x wNo wr (by omega) (by decide))
              have hdk := drop_at_l hx
              have hSS := HJ2.out.2.1
              rw [hdk, scriptP] at hSS
              cases hbo : beginsL wOk x with
              | true =>
                obtain ⟨t, hxt⟩ : ∃ t, x = wOk ++ t := by
                  have h9 := (begins_pre hbo).1
                  obtain ⟨t, ht⟩ := List.isPrefixOf_iff_prefix.1 h9
                  exact ⟨t, ht.symm⟩
                have h10 : 10 ≤ x.length := by rw [hxt, List.length_append]; have : (wOk).length = 10 := rfl; omega
                have hix : ∀ W, (Instr.index 9 (.string ⟨x.toArray⟩) (.int .i64 7)).run Tryz.prog W = .ok (.int .u8 111) W := fun W => by
                  have h9 := run_strIndex x 7 (by omega) W
                  rw [show x.getD 7 0 = 111 by rw [hxt]; rfl] at h9
                  exact h9
                obtain ⟨z, hz⟩ : ∃ z, x.drop 10 = z := ⟨_, rfl⟩
                have hsl : ∀ W, (Instr.slice 9 (.string ⟨x.toArray⟩) (some (.int .i64 10)) none none).run Tryz.prog W = .ok (.string ⟨z.toArray⟩) W := fun W => by have h9 := run_sFrom x 10 h10 W; rw [hz] at h9; exact h9
                obtain ⟨wA, hwA⟩ : ∃ wA, (wr.alloc (.cells #[.string ⟨z.toArray⟩, .bool true, .slice none 0 0] 71)).drew = wA := ⟨_, rfl⟩
                have hbA : Below wr.heap.size wr wA := by rw [← hwA]; exact ((Below.refl _ _).alloc (Nat.le_refl _) _).drew
                have hcp : wA.heap[wr.heap.size]? = some (.cells #[.string ⟨z.toArray⟩, .bool true, .slice none 0 0] 71) := by rw [← hwA]; exact hp_new _ _
                have HA := Lib.hid (And.intro hbA (And.intro hcp (HJ2.out.1.kept hbA)))
                have HB1 : Hid (Below wr.heap.size wr wr.drew) := Lib.hid (Below.refl _ _).drew
                have yd := HY.out wr.drew HJ2.out.1.drew.bb
                have HKS : Hid (∀ W, Below wr.heap.size wr W → W.cell? ⟨b0, o0 + k, none⟩ = some (.string ⟨x.toArray⟩) ∧ Hid (Below wr.heap.size wr W)) := Lib.hid fun W hb => ⟨HY.out W (HJ2.out.1.kept hb).bb, Lib.hid hb⟩
                rw [if_pos hbo] at hSS
                rw [hbo] at BO
                have TK := Lib.hid (refTaken_c (some ⟨b0, o0, none⟩) M cl L (k + 1) wA (by have h9 := HL.out.2.2.2.2.2.2.1; have hb := hbw _ HA.out.2.2.bb; exact (h9.below hb).more hb.size) (by have := HL.out.2.1; omega) (by omega) HL.out.2.2.2.2.1)
                rw [show ((k + 1 : Nat) : Int) = (k : Int) + 1 by omega] at TK
                clear hxt h10 hcp hbA
                go_wp2_with fail
                refine BO.out.mono ?_
                rintro e wq ⟨rfl, rfl⟩
                clear BO BN
                go_wp2_with fail
                have HWA := Lib.hid hwA
                clear hwA
                go_region_held3 (fun W => W.cell? ⟨b0, o0 + k, none⟩ = some (.string ⟨x.toArray⟩) ∧ Hid (Below wr.heap.size wr W)) (first | exact HKS.out _ HB1.out | exact HKS.out _ (HB1.out.alloc (Nat.le_refl _) _) | exact HKS.out _ HA.out.1 | (refine HKS.out _ ?_; exact below_setRow (HB1.out.alloc (Nat.le_refl _) _) (Nat.le_refl _) _)) (fail)
                all_goals
                  (try rw [HWA.out])
                  clear yd HKS HB1 y0
                  have p1 : wA.cell? ⟨wr.heap.size, 1, none⟩ = some (.bool true) := by rw [cell_of 1 HA.out.2.1]; rfl
                  cases hb : barsP (L.drop (k + 1)) with
                  | none =>
                    rw [hb] at TK hSS
                    have hRb : R = .bad (k + 2) := by
                      rw [HR2.out, ← hSS]
                      show PrsC.bad (M - (L.drop (k + 1)).length + 1) = _
                      rw [List.length_drop, HL.out.1, show M - (M - (k + 1)) + 1 = k + 2 by omega]
                    have hNw : Below w4.heap.size w4 wA := hbw _ HA.out.2.2.bb
                    have hst := (hNw.block N (lt_of HN4.out.1)).trans HN4.out.1
                    have HB := BAD.out wA (k + 2) ((k : Int) + 1 + 1) (by omega) hst (HN4.out.2.trans (hNw.mono HN4.out.2.size)) hRb
                    have HF := Lib.hid HB
                    simp only [takenV] at TK
                    clear HB hRb hb hSS hNw
                    go_wp2_with fail
                    refine TK.out.mono ?_
                    rintro e wq ⟨rfl, rfl⟩
                    go_wp2_with (first | (refine wpList_store_row rfl _ _ _ rfl N #[.string ⟨#[]⟩, .int .i64 0, .int .i64 0, .int .i64 0, .int .i64 0, .int .i64 0, .int .i64 0, .slice none 0 0, .slice none 0 0] rfl rfl _ _ hst (by kernel_rfl) rfl (by kernel_rfl) ?_))
                    exact bodyPost_ret (results_cell3q (p := 2) (u := 3) (v := 4) rfl _ _ N _ _ _ (.struct d9) rfl HF.out.1 HU.out rfl (by kernel_rfl)) rfl (Lib.hid HF.out.2)
                  | some pq =>
                    obtain ⟨d, q3⟩ := pq
                    rw [hb] at TK hSS
                    simp only [takenV] at TK
                    have hq3 := barsP_drop (fun x hx => HL.out.2.2.2.2.2.1 x (List.mem_of_mem_drop hx)) hb
                    have hq4 := barsP_len hb
                    rw [List.length_drop, HL.out.1] at hq3 hq4
                    rw [List.drop_drop] at hq3
                    obtain ⟨nx, hnx⟩ : ∃ nx, M - q3.length = nx := ⟨_, rfl⟩
                    rw [show k + 1 + (M - (k + 1) - q3.length) = nx by omega] at hq3
                    rw [hnx] at TK
                    have hnk : k < nx ∧ nx ≤ M := by omega
                    have hnx0 : ¬ ((nx : Int) < 0) := by omega
                    have hdl : d.length ≤ 60000 := by
                      have h9 := barsP_sum (fun x hx => HL.out.2.2.2.2.2.1 x (List.mem_of_mem_drop hx)) hb []
                      have h8 := unl_suf (L.take (k + 1)) (L.drop (k + 1)) []
                      rw [List.take_append_drop] at h8
                      have h7 := HL.out.2.2.2.2.1
                      omega
                    have hcv := run_toBytes wA d
                    obtain ⟨gc, hgc⟩ : ∃ gc, grownCap wA d.length 0 5 = gc := ⟨_, rfl⟩
                    obtain ⟨wB, hwB⟩ : ∃ wB, Lib.bytesWorld wA 5 ⟨d.toArray⟩ = wB := ⟨_, rfl⟩
                    have hbn := byt_new wA d (by omega)
                    have hbB := bw_below wA 5 ⟨d.toArray⟩
                    rw [hgc, hwB] at hcv hbn
                    rw [hwB] at hbB
                    have hcpB := (hbB.block _ (lt_of HA.out.2.1)).trans HA.out.2.1
                    have r2 : wB.cell? ⟨wr.heap.size, 2, none⟩ = some (.slice none 0 0) := by rw [cell_of 2 hcpB]; rfl
                    have g2 := free_of 2 hcpB
                    obtain ⟨wC, hwC⟩ : ∃ wC, wB.setCell ⟨wr.heap.size, 2, none⟩ (.slice (some ⟨wA.heap.size, 0, none⟩) d.length gc) = wC := ⟨_, rfl⟩
                    have hcpC : wC.heap[wr.heap.size]? = some (.cells #[.string ⟨z.toArray⟩, .bool true, .slice (some ⟨wA.heap.size, 0, none⟩) d.length gc] 71) := by rw [← hwC]; exact hp_set hcpB
                    have t0 : wC.cell? ⟨wr.heap.size, 0, none⟩ = some (.string ⟨z.toArray⟩) := by rw [cell_of 0 hcpC]; rfl
                    have t1 : wC.cell? ⟨wr.heap.size, 1, none⟩ = some (.bool true) := by rw [cell_of 1 hcpC]; rfl
                    have t2 : wC.cell? ⟨wr.heap.size, 2, none⟩ = some (.slice (some ⟨wA.heap.size, 0, none⟩) d.length gc) := by rw [cell_of 2 hcpC]; rfl
                    have hbC : Below wr.heap.size wr wC := by rw [← hwC]; exact (HA.out.1.trans (hbB.mono HA.out.1.size)).setCell (p := ⟨wr.heap.size, 2, none⟩) (Nat.le_refl _) _
                    have hAlt : wr.heap.size < wA.heap.size := lt_of HA.out.2.1
                    have hszB : wA.heap.size < wB.heap.size ∨ wA.heap.size = wB.heap.size := by have := hbB.size; omega
                    have HJC := Lib.hid (HJ2.out.1.kept hbC)
                    have hCs : wB.heap.size = wC.heap.size := by rw [← hwC]; simp only [World.setCell, Array.size_modify]
                    have hlB : wA.heap.size + 1 ≤ wB.heap.size := by rw [← hwB]; exact bw_size wA 5 ⟨d.toArray⟩
                    have HX1 : Hid (Byt wC wC.heap.size (some ⟨wA.heap.size, 0, none⟩) d.length gc d) := Lib.hid (rd_keepAt hbn (by omega) fun p hp _ => by cases hp; rw [← hwC]; exact hp_other (show wA.heap.size ≠ wr.heap.size by omega))
                    have HX2 : Hid (C + 1 ≤ wA.heap.size ∧ wA.heap.size < wC.heap.size ∧ ∀ b, vs.ownBlock = some b → b < wr.heap.size) := Lib.hid ⟨by have := HJ2.out.1.sz; omega, by omega, fun b hb => (OwnC.ge HJ2.out.1.sc.own hb).1⟩
                    have HNX : Hid (SC = scriptP f (L.drop nx) ((sc ++ [(⟨⟨z, true, d⟩, some ⟨wA.heap.size, 0, none⟩, gc⟩ : AnV)]).map AnV.a)) := Lib.hid (by rw [← hSS, hq3, ← hz, List.map_append]; rfl)
                    clear hb hSS hq3 hcpB hcpC hbC hgc hwB hbn hbB hz hszB hCs hlB hAlt hdl
                    go_wp2_with fail
                    refine TK.out.mono ?_
                    rintro e wq ⟨rfl, rfl⟩
                    clear TK p1
                    have c8 : wC.cell? ⟨C, 8, none⟩ = some vs := by rw [cell_of 8 HJC.out.cs]; rfl
                    have hown : wC.ownsRow (C + 1) 71 3 vs sc.length (sc.flatMap cAn) := HJC.out.sc.own
                    have hpl : sc.length ≤ 1000000000 := by have := HJ2.out.2.2.2; omega
                    have hba : C + 1 ≤ wC.heap.size := HJC.out.sz
                    go_wp2_with (at_builtin; refine wpList_appK rfl (.tmp 132) (.tmp 134) 27 71 rfl (.agg #[.string ⟨#[]⟩, .bool false, .slice none 0 0]) 3 48 Tryz.underlying27 infoA_ans rfl (by decide) _ _ _ _ rfl hown (cAn ⟨⟨z, true, d⟩, some ⟨wA.heap.size, 0, none⟩, gc⟩) _ rfl rfl rfl (by simp [cAn, Value.oneCell']) hpl (by decide) hba ?_)
                    intro v7 w7 hown7 hg7 hat7
                    obtain ⟨A7, cp7, e7⟩ : ∃ A7 cp7, v7 = .slice A7 (sc.length + 1) cp7 := by
                      obtain ⟨_, ⟨hv, h0⟩ | ⟨g, cap, cur, hv, _⟩⟩ := hown7
                      · exact absurd h0 (by omega)
                      · exact ⟨_, _, hv⟩
                    subst e7
                    obtain ⟨hN8, hJ8⟩ := HJC.out.ans (x := ⟨⟨z, true, d⟩, some ⟨wA.heap.size, 0, none⟩, gc⟩) HX1.out (fun p hp => by cases hp; exact HX2.out.1) (fun p hp e => by cases hp; have := HX2.out.2.2 _ e.symm; have := lt_of HA.out.2.1; simp only at *; omega) (fun p hp => by cases hp; exact HX2.out.2.1) hown7 hg7 hat7
                    have d8 : w7.cell? ⟨C, 8, none⟩ = some vs := by rw [cell_of 8 hN8]; rfl
                    have f8 := free_of 8 hN8
                    have HJ8 := Lib.hid hJ8
                    clear hown7 hg7 hat7 hown hba hJ8 hN8 c8
                    go_wp2
                    go_roundg (M + 1 + k0 - nx)
                    case measure => have := hg.out; omega
                    case rel => exact ⟨nx, f, sc ++ [⟨⟨z, true, d⟩, some ⟨wA.heap.size, 0, none⟩, gc⟩], _, rfl, by omega, hnk.2, Lib.hid (by have := hg.out; omega), Lib.hid ⟨HJ8.out, HNX.out.symm, by have := HJ2.out.2.2.1; rw [List.length_drop, HL.out.1] at *; omega, by have := HJ2.out.2.2.2; rw [List.length_append]; simp; omega⟩⟩
              | false =>
                rw [hbo] at BO
                cases hbn : beginsL wNo x with
                | true =>
                  obtain ⟨t, hxt⟩ : ∃ t, x = wNo ++ t := by
                    have h9 := (begins_pre hbn).1
                    obtain ⟨t, ht⟩ := List.isPrefixOf_iff_prefix.1 h9
                    exact ⟨t, ht.symm⟩
                  have h10 : 10 ≤ x.length := by rw [hxt, List.length_append]; have : (wNo).length = 10 := rfl; omega
                  have hix : ∀ W, (Instr.index 9 (.string ⟨x.toArray⟩) (.int .i64 7)).run Tryz.prog W = .ok (.int .u8 110) W := fun W => by
                    have h9 := run_strIndex x 7 (by omega) W
                    rw [show x.getD 7 0 = 110 by rw [hxt]; rfl] at h9
                    exact h9
                  obtain ⟨z, hz⟩ : ∃ z, x.drop 10 = z := ⟨_, rfl⟩
                  have hsl : ∀ W, (Instr.slice 9 (.string ⟨x.toArray⟩) (some (.int .i64 10)) none none).run Tryz.prog W = .ok (.string ⟨z.toArray⟩) W := fun W => by have h9 := run_sFrom x 10 h10 W; rw [hz] at h9; exact h9
                  obtain ⟨wA, hwA⟩ : ∃ wA, (wr.alloc (.cells #[.string ⟨z.toArray⟩, .bool false, .slice none 0 0] 71)).drew = wA := ⟨_, rfl⟩
                  have hbA : Below wr.heap.size wr wA := by rw [← hwA]; exact ((Below.refl _ _).alloc (Nat.le_refl _) _).drew
                  have hcp : wA.heap[wr.heap.size]? = some (.cells #[.string ⟨z.toArray⟩, .bool false, .slice none 0 0] 71) := by rw [← hwA]; exact hp_new _ _
                  have HA := Lib.hid (And.intro hbA (And.intro hcp (HJ2.out.1.kept hbA)))
                  have HB1 : Hid (Below wr.heap.size wr wr.drew) := Lib.hid (Below.refl _ _).drew
                  have yd := HY.out wr.drew HJ2.out.1.drew.bb
                  have HKS : Hid (∀ W, Below wr.heap.size wr W → W.cell? ⟨b0, o0 + k, none⟩ = some (.string ⟨x.toArray⟩) ∧ Hid (Below wr.heap.size wr W)) := Lib.hid fun W hb => ⟨HY.out W (HJ2.out.1.kept hb).bb, Lib.hid hb⟩
                  rw [if_neg (by rw [hbo]; simp), if_pos hbn] at hSS
                  rw [hbn] at BN
                  have p1 : wA.cell? ⟨wr.heap.size, 1, none⟩ = some (.bool false) := by rw [cell_of 1 hcp]; rfl
                  have t0 : wA.cell? ⟨wr.heap.size, 0, none⟩ = some (.string ⟨z.toArray⟩) := by rw [cell_of 0 hcp]; rfl
                  have t2 : wA.cell? ⟨wr.heap.size, 2, none⟩ = some (.slice none 0 0) := by rw [cell_of 2 hcp]; rfl
                  have HJC := Lib.hid (HJ2.out.1.kept hbA)
                  have HNX : Hid (SC = scriptP f (L.drop (k + 1)) ((sc ++ [(⟨⟨z, false, []⟩, none, 0⟩ : AnV)]).map AnV.a)) := Lib.hid (by rw [← hSS, ← hz, List.map_append]; rfl)
                  clear hxt h10 hcp hbA hz hSS
                  go_wp2_with fail
                  refine BO.out.mono ?_
                  rintro e wq ⟨rfl, rfl⟩
                  go_wp2_with fail
                  refine BN.out.mono ?_
                  rintro e wq ⟨rfl, rfl⟩
                  clear BO BN
                  go_wp2_with fail
                  have HWA := Lib.hid hwA
                  clear hwA
                  go_region_held3 (fun W => W.cell? ⟨b0, o0 + k, none⟩ = some (.string ⟨x.toArray⟩) ∧ Hid (Below wr.heap.size wr W)) (first | exact HKS.out _ HB1.out | exact HKS.out _ (HB1.out.alloc (Nat.le_refl _) _) | exact HKS.out _ HA.out.1 | (refine HKS.out _ ?_; exact below_setRow (HB1.out.alloc (Nat.le_refl _) _) (Nat.le_refl _) _)) (fail)
                  all_goals
                    (try rw [HWA.out])
                    clear yd HKS HB1 y0
                    have c8 : wA.cell? ⟨C, 8, none⟩ = some vs := by rw [cell_of 8 HJC.out.cs]; rfl
                    have hown : wA.ownsRow (C + 1) 71 3 vs sc.length (sc.flatMap cAn) := HJC.out.sc.own
                    have hpl : sc.length ≤ 1000000000 := by have := HJ2.out.2.2.2; omega
                    have hba : C + 1 ≤ wA.heap.size := HJC.out.sz
                    go_wp2_with (at_builtin; refine wpList_appK rfl (.tmp 132) (.tmp 134) 27 71 rfl (.agg #[.string ⟨#[]⟩, .bool false, .slice none 0 0]) 3 48 Tryz.underlying27 infoA_ans rfl (by decide) _ _ _ _ rfl hown (cAn ⟨⟨z, false, []⟩, none, 0⟩) _ rfl rfl rfl (by simp [cAn, Value.oneCell']) hpl (by decide) hba ?_)
                    intro v7 w7 hown7 hg7 hat7
                    obtain ⟨A7, cp7, e7⟩ : ∃ A7 cp7, v7 = .slice A7 (sc.length + 1) cp7 := by
                      obtain ⟨_, ⟨hv, h0⟩ | ⟨g, cap, cur, hv, _⟩⟩ := hown7
                      · exact absurd h0 (by omega)
                      · exact ⟨_, _, hv⟩
                    subst e7
                    obtain ⟨hN8, hJ8⟩ := HJC.out.ans (x := ⟨⟨z, false, []⟩, none, 0⟩) (Rd.nilR _ _) (fun p hp => by cases hp) (fun p hp => by cases hp) (fun p hp => by cases hp) hown7 hg7 hat7
                    have d8 : w7.cell? ⟨C, 8, none⟩ = some vs := by rw [cell_of 8 hN8]; rfl
                    have f8 := free_of 8 hN8
                    have HJ8 := Lib.hid hJ8
                    clear hown7 hg7 hat7 hown hba hJ8 hN8 c8
                    go_wp2
                    go_roundg (M + 1 + k0 - (k + 1))
                    case measure => have := hg.out; omega
                    case rel => exact ⟨k + 1, f, sc ++ [⟨⟨z, false, []⟩, none, 0⟩], _, by go_num, by omega, by omega, Lib.hid (by have := hg.out; omega), Lib.hid ⟨HJ8.out, HNX.out.symm, by have := HJ2.out.2.2.1; rw [List.length_drop, HL.out.1] at *; omega, by have := HJ2.out.2.2.2; rw [List.length_append]; simp; omega⟩⟩
                | false =>
                  rw [hbn] at BN
                  have HE : Hid (SC = .inl (sc.map AnV.a, L.drop k)) := Lib.hid (by
                    rw [if_neg (by rw [hbo]; simp), if_neg (by rw [hbn]; simp)] at hSS
                    rw [← hSS, hdk])
                  clear hdk hbo hbn hSS
                  go_wp2_with fail
                  refine BO.out.mono ?_
                  rintro e wq ⟨rfl, rfl⟩
                  go_wp2_with fail
                  refine BN.out.mono ?_
                  rintro e wq ⟨rfl, rfl⟩
                  go_wp2_with fail
                  go_meet
                  exact ⟨k, sc, vs, rfl, hk1, hkM, Lib.hid ⟨HJ2.out.1, HE.out, HJ2.out.2.2.2⟩⟩
            · have hk2 : ¬ (k : Int) < (M : Int) := by omega
              have HE : Hid (SC = .inl (sc.map AnV.a, L.drop k)) := Lib.hid (by
                have h2 := HJ2.out.2.1
                have h0 : L.drop k = [] := List.drop_of_length_le (by rw [HL.out.1]; omega)
                rw [h0] at h2 ⊢
                rw [← h2]
                cases f <;> rfl)
              go_wp2_with fail
              go_meet
              exact ⟨k, sc, vs, rfl, hk1, hkM, Lib.hid ⟨HJ2.out.1, HE.out, HJ2.out.2.2.2⟩⟩
        obtain ⟨k, sc, vs, rfl, hk1, hkM, HJ3⟩ := hcut
        have HR3 : Hid (R = tailP M lim al (sc.map AnV.a) tl (L.drop k)) := Lib.hid (by rw [HR2.out, HJ3.out.2.1]; rfl)
        have hbw : ∀ W, Below C w4 W → Below w4.heap.size w4 W := fun W h => by rw [HC.out]; exact h
        have HNW : Hid (∀ W, Below C w4 W → W.heap[N]? = some (.cells ZR 34) ∧ Below w.heap.size w W) := Lib.hid fun W hb => ⟨((hbw W hb).block N (lt_of HN4.out.1)).trans HN4.out.1, HN4.out.2.trans ((hbw W hb).mono HN4.out.2.size)⟩
        have HBW := Lib.hid hbw
        have HJB := Lib.hid HJ3.out.1.bb
        obtain ⟨A2, c2, rfl⟩ := OwnS.form HJ3.out.1.al
        obtain ⟨A3, c3, rfl⟩ := OwnC.form HJ3.out.1.sc.own
        have hk9 : (k : Int) ≤ (M : Int) := by omega
        have hk0 : (1 : Int) ≤ (k : Int) := by omega
        have HALN : Hid (al.length ≤ 1500) := Lib.hid (by have := HJ.out.2.2.2; have := HL.out.2.1; omega)
        clear hbw HJ HR2 HJ0 HRH
        by_cases hkm : k < M
        · have hk2 : (k : Int) < (M : Int) := by omega
          obtain ⟨x, hx⟩ : ∃ x, L[k]? = some x := ⟨_, List.getElem?_eq_getElem (by rw [HL.out.1]; exact hkm)⟩
          have y0 : wc.cell? ⟨b0, o0 + k, none⟩ = some (.string ⟨x.toArray⟩) := HL.out.2.2.1 wc (HBW.out _ HJB.out) k x hx
          have hdk := drop_at_l hx
          by_cases hxd : x = [100, 111, 99]
          · subst hxd
            have TK := Lib.hid (refTaken_c (some ⟨b0, o0, none⟩) M cl L (k + 1) wc (by have h9 := HL.out.2.2.2.2.2.2.1; have hb := HBW.out _ HJB.out; exact (h9.below hb).more hb.size) (by have := HL.out.2.1; omega) (by omega) HL.out.2.2.2.2.1)
            rw [show ((k + 1 : Nat) : Int) = (k : Int) + 1 by omega] at TK
            have hR4 := HR3.out
            rw [hdk] at hR4
            have hR5 := hR4.trans tail_doc
            have hse := str_beqC [100, 111, 99]
            have hbe : (([100, 111, 99] : List UInt8) == [100, 111, 99]) = true := by decide
            clear hR4 hdk
            cases hb : barsP (L.drop (k + 1)) with
            | none =>
              rw [hb] at TK hR5
              simp only [takenV] at TK
              have hRb : R = .bad (k + 2) := by
                rw [hR5]
                simp only
                rw [List.length_drop, HL.out.1, show M - (M - (k + 1)) + 1 = k + 2 by omega]
              have hst := (HNW.out wc HJB.out).1
              have HF := Lib.hid (BAD.out wc (k + 2) ((k : Int) + 2) (by omega) hst (HNW.out wc HJB.out).2 hRb)
              clear hRb hR5 hb
              go_wp2_with fail
              refine TK.out.mono ?_
              rintro e wq ⟨rfl, rfl⟩
              go_wp2_with (first | (refine wpList_store_row rfl _ _ _ rfl N #[.string ⟨#[]⟩, .int .i64 0, .int .i64 0, .int .i64 0, .int .i64 0, .int .i64 0, .int .i64 0, .slice none 0 0, .slice none 0 0] rfl rfl _ _ hst (by kernel_rfl) rfl (by kernel_rfl) ?_))
              exact bodyPost_ret (results_cell3q (p := 2) (u := 3) (v := 4) rfl _ _ N _ _ _ (.struct d9) rfl HF.out.1 HU.out rfl (by kernel_rfl)) rfl (Lib.hid HF.out.2)
            | some pq =>
              obtain ⟨d, q3⟩ := pq
              rw [hb] at TK hR5
              simp only [takenV] at TK
              simp only at hR5
              have hq4 := barsP_len hb
              rw [List.length_drop, HL.out.1] at hq4
              obtain ⟨nx, hnx⟩ : ∃ nx, M - q3.length = nx := ⟨_, rfl⟩
              rw [hnx] at TK hR5
              have hnk : k < nx ∧ nx ≤ M := by omega
              have hnx0 : ¬ ((nx : Int) < 0) := by omega
              have hnx9 : (nx : Int) ≤ (M : Int) := by omega
              have hq0 : (q3 ≠ []) ↔ nx < M := by
                constructor
                · intro h
                  have := List.length_pos_iff.2 h
                  omega
                · rintro h rfl
                  simp at hnx
                  omega
              have hdl : d.length ≤ 1500 := by
                have h9 := barsP_sum (fun x hx => HL.out.2.2.2.2.2.1 x (List.mem_of_mem_drop hx)) hb []
                have h8 := unl_suf (L.take (k + 1)) (L.drop (k + 1)) []
                rw [List.take_append_drop] at h8
                have h7 := HLEN.out.2.1
                rw [HL.out.2.2.2.2.2.2.2] at h7
                omega
              have hsum : sumD sc ≤ 1500 := by
                have h9 := script_sum (fun x hx => HL.out.2.2.2.2.2.1 x (List.mem_of_mem_drop hx)) (HSC.out.trans HJ3.out.2.1) []
                rw [List.map_map] at h9
                have h8 := unl_suf (L.take k0) (L.drop k0) []
                rw [List.take_append_drop] at h8
                have h7 := HLEN.out.2.1
                rw [HL.out.2.2.2.2.2.2.2] at h7
                show (sc.map (fun x => x.a.data.length)).sum ≤ 1500
                have h6 : (sc.map (fun x => x.a.data.length)).sum + (unl (L.drop k) []).length ≤ (unl (L.drop k0) []).length := h9
                omega
              have c0 : wc.cell? ⟨C, 0, none⟩ = some (.string ⟨#[]⟩) := by rw [cell_of 0 HJ3.out.1.cs]; rfl
              have f0 := free_of 0 HJ3.out.1.cs
              obtain ⟨wD, hwD⟩ : ∃ wD, wc.setCell ⟨C, 0, none⟩ (.string ⟨d.toArray⟩) = wD := ⟨_, rfl⟩
              have HD : Hid (Below C w4 wD ∧ wD.heap[C]? = some (.cells (caseV (.string ⟨d.toArray⟩) lim (.slice A2 al.length c2) (.slice A3 sc.length c3)) 34) ∧ OwnS wD (C + 1) (.slice A2 al.length c2) al ∧ OwnA wD (C + 1) (.slice A3 sc.length c3) sc) := Lib.hid (by
                rw [← hwD]
                exact ⟨HJB.out.setCell (p := ⟨C, 0, none⟩) (Nat.le_refl _) _, hp_set HJ3.out.1.cs, ownsRow_keep HJ3.out.1.al fun g h1 _ => hp_other (show g ≠ C by omega), HJ3.out.1.sc.set (by omega)⟩)
              have LN := Lib.hid (refLines_c text wD (by have := HLEN.out; exact hm))
              rw [HLS.out.1, HLS.out.2] at LN
              have HSM := Lib.hid (And.intro hdl hsum)
              have HR5 := Lib.hid hR5
              clear hR5 hb hdl hsum
              go_wp2_with fail
              refine TK.out.mono ?_
              rintro e wq ⟨rfl, rfl⟩
              clear TK y0
              go_wp2_with fail
              refine LN.out.mono ?_
              rintro e wE ⟨⟨v9, rfl, _⟩, hbE⟩
              have HE : Hid (Below C w4 wE ∧ wE.heap[C]? = some (.cells (caseV (.string ⟨d.toArray⟩) lim (.slice A2 al.length c2) (.slice A3 sc.length c3)) 34) ∧ OwnS wE (C + 1) (.slice A2 al.length c2) al ∧ OwnA wE (C + 1) (.slice A3 sc.length c3) sc) := Lib.hid ⟨HD.out.1.trans (hbE.mono (by have := lt_of HD.out.2.1; omega)), (hbE.block _ (lt_of HD.out.2.1)).trans HD.out.2.1, HD.out.2.2.1.kept hbE, HD.out.2.2.2.kept hbE⟩
              clear hbE LN c0 f0 hwD
              by_cases hbad : q3 ≠ [] ∨ tl ≠ []
              · have hRb : R = .bad (nx + 1) := by rw [HR5.out, if_pos hbad]
                have hst := (HNW.out wE HE.out.1).1
                have HF := Lib.hid (BAD.out wE (nx + 1) ((nx : Int) + 1) (by omega) hst (HNW.out wE HE.out.1).2 hRb)
                rcases Nat.lt_or_ge nx M with hlt | hge
                · have hlt1 : (nx : Int) < (M : Int) := by omega
                  clear hRb hbad hq0
                  go_wp2_with (first | (refine wpList_store_row rfl _ _ _ rfl N #[.string ⟨#[]⟩, .int .i64 0, .int .i64 0, .int .i64 0, .int .i64 0, .int .i64 0, .int .i64 0, .slice none 0 0, .slice none 0 0] rfl rfl _ _ hst (by kernel_rfl) rfl (by kernel_rfl) ?_))
                  exact bodyPost_ret (results_cell3q (p := 2) (u := 3) (v := 4) rfl _ _ N _ _ _ (.struct d9) rfl HF.out.1 HU.out rfl (by kernel_rfl)) rfl (Lib.hid HF.out.2)
                · have hlt1 : ¬ (nx : Int) < (M : Int) := by omega
                  have htl : tl ≠ [] := hbad.resolve_left fun h => by have := hq0.1 h; omega
                  have hdt : decide (tl = []) = false := decide_eq_false htl
                  clear hRb hbad hq0
                  go_wp2_with (first | (refine wpList_store_row rfl _ _ _ rfl N #[.string ⟨#[]⟩, .int .i64 0, .int .i64 0, .int .i64 0, .int .i64 0, .int .i64 0, .int .i64 0, .slice none 0 0, .slice none 0 0] rfl rfl _ _ hst (by kernel_rfl) rfl (by kernel_rfl) ?_))
                  exact bodyPost_ret (results_cell3q (p := 2) (u := 3) (v := 4) rfl _ _ N _ _ _ (.struct d9) rfl HF.out.1 HU.out rfl (by kernel_rfl)) rfl (Lib.hid HF.out.2)
              · have hlt1 : ¬ (nx : Int) < (M : Int) := fun h => hbad (.inl (hq0.2 (by omega)))
                have htl : tl = [] := Classical.byContradiction fun h => hbad (.inr h)
                have hRf : R = if bigS ⟨d, lim, al, sc.map AnV.a⟩ = true then .big else .ok ⟨d, lim, al, sc.map AnV.a⟩ := by rw [HR5.out, if_neg hbad]
                obtain ⟨Aq, cq, eq9, hRR⟩ := HE.out.2.2.2.own.rrd cAn_len (by decide)
                cases eq9
                have BG := Lib.hid (refBig_c d A2 A3 al.length c2 sc.length c3 lim sc wE hRR (by have := HSM.out; omega) (by have := HALN.out; omega) (by have := HJ3.out.2.2; have := HL.out.2.1; omega))
                rw [HCV] at BG
                have hcs := HE.out.2.1
                rw [HCV] at hcs
                have q0 : wE.cell? ⟨C, 0, none⟩ = some (.string ⟨d.toArray⟩) := by rw [cell_of 0 hcs]; rfl
                have q1 : wE.cell? ⟨C, 1, none⟩ = some (.int .i64 m0) := by rw [cell_of 1 hcs]; rfl
                have q2 : wE.cell? ⟨C, 2, none⟩ = some (.int .i64 m1) := by rw [cell_of 2 hcs]; rfl
                have q3' : wE.cell? ⟨C, 3, none⟩ = some (.int .i64 m2) := by rw [cell_of 3 hcs]; rfl
                have q4 : wE.cell? ⟨C, 4, none⟩ = some (.int .i64 m3) := by rw [cell_of 4 hcs]; rfl
                have q5 : wE.cell? ⟨C, 5, none⟩ = some (.int .i64 m4) := by rw [cell_of 5 hcs]; rfl
                have q6 : wE.cell? ⟨C, 6, none⟩ = some (.int .i64 m5) := by rw [cell_of 6 hcs]; rfl
                have q7 : wE.cell? ⟨C, 7, none⟩ = some (.slice A2 al.length c2) := by rw [cell_of 7 hcs]; rfl
                have q8 : wE.cell? ⟨C, 8, none⟩ = some (.slice A3 sc.length c3) := by rw [cell_of 8 hcs]; rfl
                have HRF := Lib.hid hRf
                clear hcs hRR hRf hbad hq0
                go_wp2_with fail
                refine BG.out.mono ?_
                rintro e wF ⟨rfl, hbF⟩
                have HG : Hid (Below C w4 wF ∧ wF.heap[C]? = some (.cells (caseV (.string ⟨d.toArray⟩) lim (.slice A2 al.length c2) (.slice A3 sc.length c3)) 34) ∧ OwnS wF (C + 1) (.slice A2 al.length c2) al ∧ OwnA wF (C + 1) (.slice A3 sc.length c3) sc) := Lib.hid ⟨HE.out.1.trans (hbF.mono (by have := lt_of HE.out.2.1; omega)), (hbF.block _ (lt_of HE.out.2.1)).trans HE.out.2.1, HE.out.2.2.1.kept hbF, HE.out.2.2.2.kept hbF⟩
                have hst := (HNW.out wF HG.out.1).1
                clear hbF q0 q1 q2 q3' q4 q5 q6 q7 q8 BG
                by_cases hbig : 64 < al.length ∨ 256 < sc.length
                · have hd : decide (64 < al.length ∨ 256 < sc.length) = true := decide_eq_true hbig
                  rw [hd]
                  have HF : Hid ((wF.setRow N ZR).heap[N]? = some (.cells ZR 34) ∧ RPost R w (.returned (.tuple #[.agg ZR, .int .i64 0, .int .i64 13])) (wF.setRow N ZR)) := Lib.hid ⟨setRow_heap _ _ _ _ _ _ hst, below_setRow (HNW.out wF HG.out.1).2 (by rw [HHN.out]; exact Nat.le_refl _) _, .inr (.inl ⟨by rw [HRF.out, if_pos (by unfold bigS; simpa using hbig)], rfl⟩)⟩
                  clear hd hbig
                  go_wp2_with (first | (refine wpList_store_row rfl _ _ _ rfl N #[.string ⟨#[]⟩, .int .i64 0, .int .i64 0, .int .i64 0, .int .i64 0, .int .i64 0, .int .i64 0, .slice none 0 0, .slice none 0 0] rfl rfl _ _ hst (by kernel_rfl) rfl (by kernel_rfl) ?_))
                  exact bodyPost_ret (results_cell3q (p := 2) (u := 3) (v := 4) rfl _ _ N _ _ _ (.struct d9) rfl HF.out.1 HU.out rfl (by kernel_rfl)) rfl (Lib.hid HF.out.2)
                · have hd : decide (64 < al.length ∨ 256 < sc.length) = false := decide_eq_false hbig
                  rw [hd]
                  have hcs := HG.out.2.1
                  rw [HCV] at hcs
                  have q0 : wF.cell? ⟨C, 0, none⟩ = some (.string ⟨d.toArray⟩) := by rw [cell_of 0 hcs]; rfl
                  have q1 : wF.cell? ⟨C, 1, none⟩ = some (.int .i64 m0) := by rw [cell_of 1 hcs]; rfl
                  have q2 : wF.cell? ⟨C, 2, none⟩ = some (.int .i64 m1) := by rw [cell_of 2 hcs]; rfl
                  have q3' : wF.cell? ⟨C, 3, none⟩ = some (.int .i64 m2) := by rw [cell_of 3 hcs]; rfl
                  have q4 : wF.cell? ⟨C, 4, none⟩ = some (.int .i64 m3) := by rw [cell_of 4 hcs]; rfl
                  have q5 : wF.cell? ⟨C, 5, none⟩ = some (.int .i64 m4) := by rw [cell_of 5 hcs]; rfl
                  have q6 : wF.cell? ⟨C, 6, none⟩ = some (.int .i64 m5) := by rw [cell_of 6 hcs]; rfl
                  have q7 : wF.cell? ⟨C, 7, none⟩ = some (.slice A2 al.length c2) := by rw [cell_of 7 hcs]; rfl
                  have q8 : wF.cell? ⟨C, 8, none⟩ = some (.slice A3 sc.length c3) := by rw [cell_of 8 hcs]; rfl
                  have hNC : N < C := by have h1 := lt_of HN4.out.1; rw [HC.out] at h1; exact h1
                  have HRI : Hid (RIn (wF.setRow N #[.string ⟨d.toArray⟩, .int .i64 m0, .int .i64 m1, .int .i64 m2, .int .i64 m3, .int .i64 m4, .int .i64 m5, .slice A2 al.length c2, .slice A3 sc.length c3]) ⟨d, lim, al, sc.map AnV.a⟩ A2 A3 c2 c3 sc) := Lib.hid (ref_in (N := N) hNC HG.out.2.2.1 HG.out.2.2.2 _)
                  have HF : Hid ((wF.setRow N #[.string ⟨d.toArray⟩, .int .i64 m0, .int .i64 m1, .int .i64 m2, .int .i64 m3, .int .i64 m4, .int .i64 m5, .slice A2 al.length c2, .slice A3 sc.length c3]).heap[N]? = some (.cells #[.string ⟨d.toArray⟩, .int .i64 m0, .int .i64 m1, .int .i64 m2, .int .i64 m3, .int .i64 m4, .int .i64 m5, .slice A2 al.length c2, .slice A3 sc.length c3] 34) ∧ RPost R w (.returned (.tuple #[.agg #[.string ⟨d.toArray⟩, .int .i64 m0, .int .i64 m1, .int .i64 m2, .int .i64 m3, .int .i64 m4, .int .i64 m5, .slice A2 al.length c2, .slice A3 sc.length c3], .int .i64 0, .int .i64 0])) (wF.setRow N #[.string ⟨d.toArray⟩, .int .i64 m0, .int .i64 m1, .int .i64 m2, .int .i64 m3, .int .i64 m4, .int .i64 m5, .slice A2 al.length c2, .slice A3 sc.length c3])) := Lib.hid ⟨setRow_heap _ _ _ _ _ _ hst, below_setRow (HNW.out wF HG.out.1).2 (by rw [HHN.out]; exact Nat.le_refl _) _, .inr (.inr ⟨_, A2, A3, c2, c3, sc, by rw [HRF.out, if_neg (by unfold bigS; simpa using hbig)], by unfold rcaseW; rw [HCV]; simp, HRI.out⟩)⟩
                  clear hd hbig hcs HRI
                  go_wp2_with (first | (refine wpList_store_row rfl _ _ _ rfl N #[.string ⟨d.toArray⟩, .int .i64 m0, .int .i64 m1, .int .i64 m2, .int .i64 m3, .int .i64 m4, .int .i64 m5, .slice A2 al.length c2, .slice A3 sc.length c3] rfl rfl _ _ hst (by kernel_rfl) rfl (by kernel_rfl) ?_))
                  exact bodyPost_ret (results_cell3q (p := 2) (u := 3) (v := 4) rfl _ _ N _ _ _ (.struct d9) rfl HF.out.1 HU.out rfl (by kernel_rfl)) rfl (Lib.hid HF.out.2)
          · have hRb : R = .bad (k + 1) := by
              rw [HR3.out, tail_bad (fun q2 e => hxd (by rw [hdk] at e; injection e)) (by rw [List.length_drop, HL.out.1]; omega), List.length_drop, HL.out.1, show M - (M - k) + 1 = k + 1 by omega]
            have hse := str_bneC hxd
            have hbe : (x == [100, 111, 99]) = false := by simpa using hxd
            have hst := (HNW.out wc HJB.out).1
            have HF := Lib.hid (BAD.out wc (k + 1) ((k : Int) + 1) (by omega) hst (HNW.out wc HJB.out).2 hRb)
            clear hRb hdk
            go_wp2_with (first | (refine wpList_store_row rfl _ _ _ rfl N #[.string ⟨#[]⟩, .int .i64 0, .int .i64 0, .int .i64 0, .int .i64 0, .int .i64 0, .int .i64 0, .slice none 0 0, .slice none 0 0] rfl rfl _ _ hst (by kernel_rfl) rfl (by kernel_rfl) ?_))
            exact bodyPost_ret (results_cell3q (p := 2) (u := 3) (v := 4) rfl _ _ N _ _ _ (.struct d9) rfl HF.out.1 HU.out rfl (by kernel_rfl)) rfl (Lib.hid HF.out.2)
        · have hk2 : ¬ (k : Int) < (M : Int) := by omega
          have hRb : R = .bad (k + 1) := by
            rw [HR3.out, List.drop_of_length_le (by rw [HL.out.1]; omega), show k = M by omega]
            rfl
          have hst := (HNW.out wc HJB.out).1
          have HF := Lib.hid (BAD.out wc (k + 1) ((k : Int) + 1) (by omega) hst (HNW.out wc HJB.out).2 hRb)
          clear hRb
          go_wp2_with (first | (refine wpList_store_row rfl _ _ _ rfl N #[.string ⟨#[]⟩, .int .i64 0, .int .i64 0, .int .i64 0, .int .i64 0, .int .i64 0, .int .i64 0, .slice none 0 0, .slice none 0 0] rfl rfl _ _ hst (by kernel_rfl) rfl (by kernel_rfl) ?_))
          exact bodyPost_ret (results_cell3q (p := 2) (u := 3) (v := 4) rfl _ _ N _ _ _ (.struct d9) rfl HF.out.1 HU.out rfl (by kernel_rfl)) rfl (Lib.hid HF.out.2)
    · have hbad : R = .bad 1 := by rw [← HR.out]; exact parse_first HLS.out.1 hfd
      have HB := BAD.out w4 1 1 rfl H4.out.2.1 H4.out.2.2 hbad
      have hst := H4.out.2.1
      have HF := Lib.hid HB
      clear HB hbad
      go_wp2_with (first | (refine wpList_store_row rfl _ _ _ rfl N #[.string ⟨#[]⟩, .int .i64 0, .int .i64 0, .int .i64 0, .int .i64 0, .int .i64 0, .int .i64 0, .slice none 0 0, .slice none 0 0] rfl rfl _ _ hst (by kernel_rfl) rfl (by kernel_rfl) ?_))
      exact bodyPost_ret (results_cell3q (p := 2) (u := 3) (v := 4) rfl _ _ N _ _ _ (.struct d9) rfl HF.out.1 HU.out rfl (by kernel_rfl)) rfl (Lib.hid HF.out.2)
end Go.Proofs.YtbllodeanfdebaaGreatDoor
