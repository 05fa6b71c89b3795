/- Texts of ours, joined: GsU. -/
import Derived.Test.YtfemfgkcgboopaaGreatDoorRows
import Derived.WalkKit
import Derived.ProofKit
import Derived.OpenShut
import Derived.ShutString
import Derived.ChangeOld
import Derived.Below
import Derived.BigQuiet
import Derived.Deep.QuietTactic
import Derived.Lib.Hide
import Derived.Deep.RegionHeld3
import Derived.Lib.SlBytesConst
import Derived.Laws.CopyOwn
import Derived.Laws.CopyRow
import Derived.Lib.Bytes
import Derived.Deep.LoopGhost
import Derived.Deep.DeepFit
import Derived.Deep.DeepMust
import Derived.WalkSpells
import Derived.WalkLawsBesides
import Derived.Laws.EntriesVeiled
import Derived.Laws.Rows
import Derived.Maps.OwnOps
import Derived.Maps.OwnSet
import Derived.Maps.Views
import Derived.Maps.AppendAt
import Derived.DeepKeys4
import Derived.MapViews
import Derived.Maps.Keyed
import Derived.Deep.RegionWith
import Derived.Deep.CutRange
import Derived.StillTailTactics
import Derived.Test.YtfemfgkcgboopaaGreatDoorQ1
import Derived.Test.YtfemfgkcgboopaaGreatDoorQ2
import Derived.Test.YtfemfgkcgboopaaGreatDoorQ3
import Derived.Test.YtfemfgkcgboopaaGreatDoorQ4
import Derived.Test.YtfemfgkcgboopaaGreatDoorQ9
import Derived.Test.YtfemfgkcgboopaaGreatDoorQ10
import Derived.Test.YtfemfgkcgboopaaGreatDoorQ11
import Derived.Test.YtfemfgkcgboopaaGreatDoorQ12
import Derived.Test.YtfemfgkcgboopaaGreatDoorQ13
import Derived.Test.YtfemfgkcgboopaaGreatDoorQ14
import Derived.Test.YtfemfgkcgboopaaGreatDoorQ15
import Derived.Test.YtfemfgkcgboopaaGreatDoorQ16
import Derived.Test.YtfemfgkcgboopaaGreatDoorQ18
import Derived.Test.YtfemfgkcgboopaaGreatDoorQ19
import Derived.Test.YtfemfgkcgboopaaGreatDoorQ20
import Derived.Test.YtfemfgkcgboopaaGreatDoorQ21
import Derived.Test.YtfemfgkcgboopaaGreatDoorQ22
import Derived.Test.YtfemfgkcgboopaaGreatDoorQ23
import Derived.Test.YtfemfgkcgboopaaGreatDoorQ17
import Derived.Test.YtfemfgkcgboopaaGreatDoorQ25
import Derived.Test.YtfemfgkcgboopaaGreatDoorQ26
import Derived.Test.YtfemfgkcgboopaaGreatDoorQ27
import Derived.Test.YtfemfgkcgboopaaGreatDoorQ28
import Derived.Test.YtfemfgkcgboopaaGreatDoorQ24
import Derived.Test.YtfemfgkcgboopaaGreatDoorQ29
import Derived.Test.YtfemfgkcgboopaaGreatDoorQ30
import Derived.Test.YtfemfgkcgboopaaGreatDoorQ31
import Derived.Test.YtfemfgkcgboopaaGreatDoorQ5
import Derived.Test.YtfemfgkcgboopaaGreatDoorQ6
import Derived.Test.YtfemfgkcgboopaaGreatDoorQ7
import Derived.Test.YtfemfgkcgboopaaGreatDoorQ8
import Derived.Test.YtfemfgkcgboopaaGreatDoorQ35
/- The document answer on values: one text gone over. -/
namespace Go.Proofs.YtfemfgkcgboopaaGreatDoor
open Go.ChangeShapes Go.WideShapes Go.ChangeAt Go.RowKit
set_option linter.unusedVariables false
/-- The document's walk over one text. -/
def OvJ (w w1 W : World) : Prop := Below w1.heap.size w1 W ∧ Below w.heap.size w W
theorem take38 {b : List UInt8} {t : Nat} (h : b[t]? = some 38) : (b.drop t).take 2 = [38, 35] ↔ b[t + 1]? = some 35 := by
  have e0 : (b.drop t)[0]? = some 38 := by rw [List.getElem?_drop]; exact h
  have e1 : (b.drop t)[1]? = b[t + 1]? := by rw [List.getElem?_drop]
  rw [← e1]
  generalize b.drop t = z at *
  match z, e0 with
  | [a], e0 => simp
  | a :: c :: z, e0 => simp at e0; subst e0; simp
theorem fndN_some {l : List EntT} {s : List UInt8} {x : EntT} (h : fndE l s = some x) : ∃ i : Nat, fndN (l.map EntT.nm) s = (i : Int) ∧ l[i]? = some x := by
  obtain ⟨h1, h2⟩ := fndE_idx h
  refine ⟨_, ?_, h2⟩
  unfold fndN
  rw [if_pos h1]
theorem fndN_none {l : List EntT} {s : List UInt8} (h : fndE l s = none) : fndN (l.map EntT.nm) s = -1 := by
  unfold fndN
  rw [if_neg]
  intro hm
  obtain ⟨x, hx, he⟩ := List.mem_map.1 hm
  unfold fndE at h
  rw [List.find?_eq_none] at h
  exact h x hx (by simpa using he)
theorem mk1 (w : World) (c : UInt8) (f : Nat × Nat) : (convert 65 9 (.slice (some ⟨w.heap.size, 0, none⟩) 1 1)).run Tryz.prog (w.alloc (.cells #[.int .u8 (c.toNat : Int)] 5 f)) = .ok (.string ⟨#[c]⟩) (w.alloc (.cells #[.int .u8 (c.toNat : Int)] 5 f)) :=
  Byt.str (l := [c]) (Byt.const w [c] f (by simp))
/-- What is put out of a text is no longer than the run bears. -/
theorem over_small (l : List EntT) (deep : Int) : ∀ (f p wi : Nat) (b : List UInt8) (t : Nat) (o o2 : List UInt8) (e : Nat), overL l deep f p wi b t o = some (o2, e) → o2.length ≤ 1000000 := by
  intro f
  induction f with
  | zero => intro p wi b t o o2 e h; cases h
  | succ f ih =>
    intro p wi b t o o2 e h
    rw [overL] at h
    split at h
    · cases h
    · rename_i hb
      split at h
      · cases h; omega
      · split at h
        · cases h; simp
        · split at h
          · split at h
            · cases h; simp
            · split at h
              · exact ih _ _ _ _ _ _ _ h
              · split at h
                · cases h
                · split at h
                  · cases h; simp
                  · exact ih _ _ _ _ _ _ _ h
          · exact ih _ _ _ _ _ _ _ h
set_option maxRecDepth 100000 in
set_option maxHeartbeats 32000000 in
theorem over_c (A : Option Addr) (n cap : Nat) (l : List EntT) (deep : Int) (hm : n ≤ 1000) (hx : ∀ x ∈ l, x.tx.length ≤ 50000) : ∀ (f p wi : Nat) (b o2 : List UInt8) (e2 : Nat) (w : World), RRd cE 6 w w.heap.size A n cap l → b.length ≤ 50000 → overL l deep f p wi b 0 [] = some (o2, e2) →
    Calls Tryz.prog 29 #[.slice A n cap, .string ⟨b.toArray⟩, .int .i64 (wi : Nat), .int .i64 deep] w fun e w' => e = .returned (.tuple #[.string ⟨o2.toArray⟩, .int .i64 (e2 : Nat)]) ∧ Below w.heap.size w w' := by
  intro f
  induction f using Nat.strongRecOn with
  | ind f ih =>
  intro p wi b o2 e2 w h hb hr
  have IH := Lib.hid ih
  have HX := Lib.hid hx
  have HLN : Hid (l.length = n) := Lib.hid h.len
  have HP : Hid (∀ W, Below w.heap.size w W → RRd cE 6 W W.heap.size A n cap l) := Lib.hid fun W hb => (h.below hb).more hb.size
  have HR := Lib.hid hr
  have hcv := run_toBytes w b
  have kV : Below w.heap.size w (Lib.bytesWorld w 5 ⟨b.toArray⟩) := Lib.bytesWorld_below _ _ _
  have hby := (byt_new w b (by omega)).more (Nat.le_of_eq (Lib.bytesWorld_size w 5 ⟨b.toArray⟩).symm)
  have HJ0 : Hid (OvJ w (Lib.bytesWorld w 5 ⟨b.toArray⟩) (Lib.bytesWorld w 5 ⟨b.toArray⟩)) := Lib.hid ⟨Below.refl _ _, kV⟩
  have HSW := Lib.hid (Lib.bytesWorld_size w 5 ⟨b.toArray⟩)
  clear h hr ih kV hx
  generalize Lib.bytesWorld w 5 ⟨b.toArray⟩ = w1 at *
  obtain ⟨S, hS⟩ : ∃ S, w.heap.size = S := ⟨_, rfl⟩
  obtain ⟨cp, hcp⟩ : ∃ c, grownCap w b.length 0 5 = c := ⟨_, rfl⟩
  rw [hcp] at hby hcv
  rw [hS] at hby hcv
  have HBY : Hid (∀ W, OvJ w w1 W → Byt W W.heap.size (some ⟨S, 0, none⟩) b.length cp b) := Lib.hid fun W hW => (hby.below hW.1).more hW.1.size
  clear hby hcp hS
  go_enter Tryz.func29, Tryz.ntmps29
  go_wp2_with fail
  clear hcv
  go_loopg [11, 12] (f) (fun g ov iv wr => ∃ (t : Nat) (o : List UInt8), ov = .string ⟨o.toArray⟩ ∧ iv = .int .i64 (t : Int) ∧ t ≤ b.length ∧ g ≤ f ∧ Hid (OvJ w w1 wr) ∧ Hid (overL l deep g p wi b t o = some (o2, e2)))
  case atStart => exact ⟨0, [], rfl, rfl, Nat.zero_le _, Nat.le_refl _, HJ0, HR⟩
  case round =>
    clear HJ0 HR
    obtain ⟨t, o, rfl, rfl, ht, hgf, HJ, HR⟩ := hrel
    obtain ⟨g', rfl⟩ : ∃ g', gk = g' + 1 := by
      cases gk with
      | zero => have := HR.out; cases this
      | succ g' => exact ⟨g', rfl⟩
    have hrun := HR.out
    rw [overL] at hrun
    by_cases hbig : 1000000 < p + o.length ∨ 1000 < wi
    · rw [if_pos hbig] at hrun; cases hrun
    rw [if_neg hbig] at hrun
    have ht0 : (0 : Int) ≤ (t : Int) := by omega
    have ht9 : (t : Int) ≤ 50000 := by omega
    by_cases htn : t < b.length
    · have hti : (t : Int) < (b.length : Int) := by omega
      obtain ⟨q', o', c, eA, hq', hc, hcell⟩ := (HBY.out wr HJ.out).cell htn
      cases eA
      have y0 : wr.cell? ⟨S, t, none⟩ = some (.int .u8 (c.toNat : Nat)) := by rw [← hcell, Nat.zero_add]
      rw [hc] at hrun
      simp only at hrun
      clear HR hq' hcell
      by_cases h60 : c = 60
      · have hb60 : (((c.toNat : Nat) : Int) == 60) = true := by rw [h60]; rfl
        rw [if_pos h60] at hrun
        have H9 := Lib.hid hrun
        clear hrun h60 hc
        generalize (c.toNat : Int) = cn at *
        go_wp2
        (try simp only [Exit.noGoto_ret])
        go_ret2
        have h9 := H9.out
        cases h9
        exact ⟨rfl, HJ.out.2⟩
      · have hb60 : (((c.toNat : Nat) : Int) == 60) = false := ne_byte c 60 60 rfl h60
        rw [if_neg h60] at hrun
        by_cases h38 : c = 38
        · have hn38 : (((c.toNat : Nat) : Int) != 38) = false := by rw [h38]; rfl
          have hc38 : b[t]? = some 38 := by rw [hc, h38]
          rw [if_pos h38] at hrun
          have HT38 := Lib.hid (take38 hc38)
          clear h60 h38 hc hc38
          generalize (c.toNat : Int) = cn at *
          by_cases h35 : b[t + 1]? = some 35
          · have htn1 : t + 1 < b.length := (List.getElem?_eq_some_iff.1 h35).1
            have hti1 : (t : Int) + 1 < (b.length : Int) := by omega
            obtain ⟨q', o', c', eA, hq', hc', hcell'⟩ := (HBY.out wr HJ.out).cell htn1
            cases eA
            rw [h35] at hc'
            cases hc'
            have y1 : wr.cell? ⟨S, t + 1, none⟩ = some (.int .u8 35) := by rw [show t + 1 = 0 + (t + 1) by omega]; exact hcell'
            have hn := HT38.out.2 h35
            have HC1 := Lib.hid (charOut_nxt b t)
            have HC2 := Lib.hid (charOut_ok b t)
            have hR : refS l deep (wi + 1) b t o = if (charOut b t).2.2 ≠ 0 then ((charOut b t).2.2, t, o, none) else (0, (charOut b t).2.1, o ++ encL (charOut b t).1.toNat, none) := by unfold refS; rw [if_pos hn]
            have CC : Hid (Calls Tryz.prog 52 #[.slice (some ⟨S, 0, none⟩) b.length cp, .int .i64 (t : Nat)] wr fun e w' => e = .returned (numV (charOut b t)) ∧ wr = w') := Lib.hid (by
              have := refCharR_c (some ⟨S, 0, none⟩) b.length cp b (t : Nat) wr _ (HBY.out wr HJ.out) hb
              unfold charAt at this
              rw [if_neg (by omega), Int.toNat_natCast] at this
              exact this)
            rw [hR] at hrun
            clear hR hn h35 htn1 hq' hcell' HT38
            generalize charOut b t = R at *
            obtain ⟨r, nx, er⟩ := R
            unfold numV at CC
            simp only at *
            by_cases her : er ≠ 0
            · have her2 : ((er : Nat) : Int) ≠ 0 := by omega
              have her3 : (((er : Nat) : Int) != 0) = true := by simpa using her
              rw [if_pos her] at hrun
              simp only at hrun
              rw [if_pos her] at hrun
              have H9 := Lib.hid hrun
              clear hrun HC1 HC2
              go_wp2_with fail
              refine (CC.out).mono ?_
              rintro e wq ⟨rfl, rfl⟩
              go_wp2
              (try simp only [Exit.noGoto_ret])
              go_ret2
              have h9 := H9.out
              cases h9
              exact ⟨rfl, HJ.out.2⟩
            · have hr0 : er = 0 := by omega
              subst hr0
              rw [if_neg her] at hrun
              simp only at hrun
              rw [if_neg (by simp)] at hrun
              obtain ⟨hn1, hn2, _⟩ := HC1.out rfl
              have hdoc := HC2.out rfl
              obtain ⟨rn, rfl⟩ : ∃ rn : Nat, r = (rn : Int) := ⟨r.toNat, by have := (isDoc_iff _).1 hdoc; omega⟩
              rw [Int.toNat_natCast] at hrun
              have CE := Lib.hid (utfBytes_c rn wr (by have := (isDoc_iff _).1 hdoc; omega))
              have hel := encL_len rn
              have HRN := Lib.hid hrun
              have hop : o.length + (encL rn).length ≤ 9223372036854775807 := by omega
              clear hrun HC1 HC2 hdoc hn1 her
              go_wp2_with fail
              refine (CC.out).mono ?_
              rintro e wq ⟨rfl, rfl⟩
              clear CC
              go_wp2_with fail
              refine (CE.out).mono ?_
              rintro e w4 ⟨g, rfl, hg, hgb, hb4⟩
              have hst : (convert 65 9 (.slice (some ⟨g, 0, none⟩) (encL rn).length (encL rn).length)).run Tryz.prog w4 = .ok (.string ⟨(encL rn).toArray⟩) w4 := Byt.str (byt_cells w4 w4.heap.size g (encL rn) hgb (lt_of hgb) (by omega))
              have hsp := run_sop (w := w4) o (encL rn) hop
              have HJ4 : Hid (OvJ w w1 w4) := Lib.hid ⟨HJ.out.1.trans (hb4.mono HJ.out.1.size), HJ.out.2.trans (hb4.mono HJ.out.2.size)⟩
              clear hg hgb hb4 hop
              generalize o ++ encL rn = o3 at *
              generalize encL rn = bs at *
              go_wp2
              go_roundg g'
              case measure => omega
              case rel => exact ⟨nx, o3, rfl, rfl, hn2, by omega, HJ4, HRN⟩
          · have hn : ¬ (b.drop t).take 2 = [38, 35] := fun h => h35 (HT38.out.1 h)
            have HX1 := Lib.hid (refOut_nx b t)
            have hnl := refOut_len b t
            have CN : Hid (Calls Tryz.prog 54 #[.slice (some ⟨S, 0, none⟩) b.length cp, .int .i64 (t : Nat), .int .u8 38] wr fun e w' => e = .returned (outV (refOut 38 b t)) ∧ Below wr.heap.size wr w') := Lib.hid (by
              have := refEntityAt_c (some ⟨S, 0, none⟩) b.length cp b (t : Nat) 38 wr (HBY.out wr HJ.out) hb
              unfold refAt at this
              rw [if_neg (by omega), Int.toNat_natCast] at this
              exact this)
            have hR : refS l deep (wi + 1) b t o = if (refOut 38 b t).2.2 ≠ 0 then ((refOut 38 b t).2.2, t, o, none) else if 0 < knownOf ⟨(refOut 38 b t).1.toArray⟩ then (0, (refOut 38 b t).2.1, o ++ [UInt8.ofNat (knownOf ⟨(refOut 38 b t).1.toArray⟩)], none)
                else match fndE l (refOut 38 b t).1 with
                  | none => (7, t, o, none)
                  | some x => if x.out = true then (7, t, o, none) else if deep < ((wi + 1 : Nat) : Int) then (11, t, o, none) else (0, (refOut 38 b t).2.1, o, some x.tx) := by unfold refS; rw [if_neg hn]; rfl
            rw [hR] at hrun
            clear hR hn HT38
            generalize refOut 38 b t = R at *
            obtain ⟨nm, nx, er⟩ := R
            unfold outV at CN
            simp only at *
            have HRUN := Lib.hid hrun
            clear hrun
            by_cases htn1 : t + 1 < b.length
            · have hti1 : (t : Int) + 1 < (b.length : Int) := by omega
              obtain ⟨q', o', d, eA, hq', hc', hcell'⟩ := (HBY.out wr HJ.out).cell htn1
              cases eA
              have y1 : wr.cell? ⟨S, t + 1, none⟩ = some (.int .u8 (d.toNat : Nat)) := by rw [show t + 1 = 0 + (t + 1) by omega]; exact hcell'
              have hd35 : (((d.toNat : Nat) : Int) == 35) = false := ne_byte d 35 35 rfl (fun e => by subst e; exact h35 hc')
              clear h35 htn1 hq' hcell' hc'
              generalize (d.toNat : Int) = dn at *
              have HBL2 : Hid (∀ W, Below wr.heap.size wr W → OvJ w w1 W) := Lib.hid fun W hW => ⟨HJ.out.1.trans (hW.mono HJ.out.1.size), HJ.out.2.trans (hW.mono HJ.out.2.size)⟩
              go_wp2_with fail
              refine CN.out.mono ?_
              rintro e w3 ⟨rfl, hb3⟩
              have HJ3 := Lib.hid (HBL2.out _ hb3)
              clear hb3 CN HBL2 y0
              (try clear y1)
              have hrun := HRUN.out
              by_cases her : er ≠ 0
              · have her2 : ((er : Nat) : Int) ≠ 0 := by omega
                have her3 : (((er : Nat) : Int) != 0) = true := by simpa using her
                rw [if_pos her] at hrun
                simp only at hrun
                rw [if_pos her] at hrun
                have H9 := Lib.hid hrun
                clear hrun HX1
                go_wp2
                (try simp only [Exit.noGoto_ret])
                go_ret2
                have h9 := H9.out
                cases h9
                exact ⟨rfl, HJ3.out.2⟩
              · have hr0 : er = 0 := by omega
                subst hr0
                rw [if_neg her] at hrun
                obtain ⟨hn1, hn2, _⟩ := HX1.out rfl
                clear HX1 her hn1
                have CK := Lib.hid fun W => refKnown_c ⟨nm.toArray⟩ W
                have hk255 : knownOf ⟨nm.toArray⟩ ≤ 255 := known_le _
                generalize knownOf ⟨nm.toArray⟩ = kn at *
                go_wp2_with fail
                refine (CK.out _).mono ?_
                rintro e wq ⟨rfl, rfl⟩
                by_cases hk0 : 0 < kn
                · have hki : (0 : Int) < (kn : Int) := by omega
                  have hk9 : (kn : Int) ≤ 255 := by omega
                  rw [if_pos hk0] at hrun
                  simp only at hrun
                  rw [if_neg (by simp)] at hrun
                  have HRN := Lib.hid hrun
                  have hop : o.length + 1 ≤ 9223372036854775807 := by omega
                  have hst := mk1 w3 (UInt8.ofNat kn) (0, 0)
                  rw [show (UInt8.ofNat kn).toNat = kn by exact UInt8.toNat_ofNat_of_lt' (by show kn < 256; omega)] at hst
                  generalize UInt8.ofNat kn = kb at *
                  have hsp : (Op.stringOp .add ⟨o.toArray⟩ ⟨#[kb]⟩).run Tryz.prog (w3.alloc (.cells #[.int .u8 (kn : Int)] 5 (0, 0))) = .ok (.string ⟨(o ++ [kb]).toArray⟩) _ := run_sop o [kb] hop
                  have HJ4 : Hid (OvJ w w1 (w3.alloc (.cells #[.int .u8 (kn : Int)] 5 (0, 0)))) := Lib.hid ⟨HJ3.out.1.alloc HJ3.out.1.size _, HJ3.out.2.alloc HJ3.out.2.size _⟩
                  clear hop hrun hk255 hk0
                  generalize o ++ [kb] = o3 at *
                  go_wp2_with fail
                  refine (CK.out _).mono ?_
                  rintro e wq ⟨rfl, rfl⟩
                  go_wp2
                  go_roundg g'
                  case measure => omega
                  case rel => exact ⟨nx, o3, rfl, rfl, hn2, by omega, HJ4, HRN⟩
                · have hk1 : kn = 0 := by omega
                  subst hk1
                  rw [if_neg hk0] at hrun
                  have FD := Lib.hid (rfFindE_c A n cap l nm w3 (HP.out _ HJ3.out.2) (by omega))
                  clear hk0 hk255 CK
                  cases hf : fndE l nm with
                  | none =>
                    rw [hf] at hrun
                    simp only at hrun
                    rw [if_pos (by decide)] at hrun
                    rw [fndN_none hf] at FD
                    have H9 := Lib.hid hrun
                    clear hrun hf
                    go_wp2_with fail
                    refine FD.out.mono ?_
                    rintro e wq ⟨rfl, rfl⟩
                    go_wp2
                    (try simp only [Exit.noGoto_ret])
                    go_ret2
                    have h9 := H9.out
                    cases h9
                    exact ⟨rfl, HJ3.out.2⟩
                  | some x =>
                    rw [hf] at hrun
                    simp only at hrun
                    obtain ⟨ix, hix, hxi⟩ := fndN_some hf
                    rw [hix] at FD
                    have hxl : ix < n := by rw [← HLN.out]; exact (List.getElem?_eq_some_iff.1 hxi).1
                    have hx50 := HX.out x (List.mem_of_getElem? hxi)
                    have hix0 : ¬ ((ix : Int) < 0) := by omega
                    have hix1 : (0 : Int) ≤ (ix : Int) := by omega
                    have hix2 : (ix : Int) < (n : Int) := by omega
                    obtain ⟨b1, o1, x', rfl, hb1, hx', hc1⟩ := (HP.out _ HJ3.out.2).cell hxl
                    rw [hxi] at hx'
                    cases hx'
                    have u1 : w3.cell? ⟨b1, o1 + ix * 6 + 1, none⟩ = some (.string ⟨x.tx.toArray⟩) := by rw [show o1 + ix * 6 + 1 = o1 + (ix * 6 + 1) by omega]; exact hc1 1 _ rfl
                    have u2 : w3.cell? ⟨b1, o1 + ix * 6 + 2, none⟩ = some (.bool x.out) := by rw [show o1 + ix * 6 + 2 = o1 + (ix * 6 + 2) by omega]; exact hc1 2 _ rfl
                    obtain ⟨xo, hxo⟩ : ∃ q, x.out = q := ⟨_, rfl⟩
                    obtain ⟨xt, hxt⟩ : ∃ q, x.tx = q := ⟨_, rfl⟩
                    rw [hxo] at u2 hrun
                    rw [hxt] at u1 hrun hx50
                    clear hf hix hxi hb1 hc1 hxo hxt
                    cases xo with
                    | true =>
                      rw [if_pos rfl] at hrun
                      simp only at hrun
                      rw [if_pos (by decide)] at hrun
                      have H9 := Lib.hid hrun
                      clear hrun
                      go_wp2_with fail
                      refine FD.out.mono ?_
                      rintro e wq ⟨rfl, rfl⟩
                      go_wp2
                      (try simp only [Exit.noGoto_ret])
                      go_ret2
                      have h9 := H9.out
                      cases h9
                      exact ⟨rfl, HJ3.out.2⟩
                    | false =>
                      rw [if_neg (show ¬ (false = true) by simp)] at hrun
                      have hwi : (wi : Int) ≤ 1000 := by omega
                      by_cases hdp : deep < ((wi + 1 : Nat) : Int)
                      · rw [if_pos hdp] at hrun
                        simp only at hrun
                        rw [if_pos (by decide)] at hrun
                        have hdp2 : deep < (wi : Int) + 1 := by omega
                        have H9 := Lib.hid hrun
                        clear hrun hdp
                        go_wp2_with fail
                        refine FD.out.mono ?_
                        rintro e wq ⟨rfl, rfl⟩
                        go_wp2
                        (try simp only [Exit.noGoto_ret])
                        go_ret2
                        have h9 := H9.out
                        cases h9
                        exact ⟨rfl, HJ3.out.2⟩
                      · rw [if_neg hdp] at hrun
                        simp only at hrun
                        rw [if_neg (by simp)] at hrun
                        have hdp2 : ¬ deep < (wi : Int) + 1 := by omega
                        clear hdp
                        cases hi : overL l deep g' (p + o.length) (wi + 1) xt 0 [] with
                        | none => rw [hi] at hrun; cases hrun
                        | some ue =>
                          obtain ⟨u, e1⟩ := ue
                          rw [hi] at hrun
                          simp only at hrun
                          have CO := IH.out g' (by omega) (p + o.length) (wi + 1) xt u e1 w3 (HP.out _ HJ3.out.2) hx50 hi
                          rw [show (((wi + 1 : Nat) : Nat) : Int) = (wi : Int) + 1 by omega] at CO
                          have HCO := Lib.hid CO
                          clear CO
                          by_cases he1 : e1 ≠ 0
                          · have he2 : ((e1 : Nat) : Int) ≠ 0 := by omega
                            have he3 : (((e1 : Nat) : Int) != 0) = true := by simpa using he1
                            rw [if_pos he1] at hrun
                            have H9 := Lib.hid hrun
                            clear hrun hi
                            go_wp2_with fail
                            refine FD.out.mono ?_
                            rintro e wq ⟨rfl, rfl⟩
                            go_wp2_with fail
                            refine HCO.out.mono ?_
                            rintro e w5 ⟨rfl, hb5⟩
                            have HJ5 : Hid (OvJ w w1 w5) := Lib.hid ⟨HJ3.out.1.trans (hb5.mono HJ3.out.1.size), HJ3.out.2.trans (hb5.mono HJ3.out.2.size)⟩
                            clear hb5
                            go_wp2
                            (try simp only [Exit.noGoto_ret])
                            go_ret2
                            have h9 := H9.out
                            cases h9
                            exact ⟨rfl, HJ5.out.2⟩
                          · have he0 : e1 = 0 := by omega
                            subst he0
                            rw [if_neg he1] at hrun
                            have HRN := Lib.hid hrun
                            have hul : u.length ≤ 1000000 := over_small _ _ _ _ _ _ _ _ _ _ hi
                            have hop : o.length + u.length ≤ 9223372036854775807 := by omega
                            clear hrun hi he1 hul
                            go_wp2_with fail
                            refine FD.out.mono ?_
                            rintro e wq ⟨rfl, rfl⟩
                            go_wp2_with fail
                            refine HCO.out.mono ?_
                            rintro e w5 ⟨rfl, hb5⟩
                            have HJ5 : Hid (OvJ w w1 w5) := Lib.hid ⟨HJ3.out.1.trans (hb5.mono HJ3.out.1.size), HJ3.out.2.trans (hb5.mono HJ3.out.2.size)⟩
                            have hsp := run_sop (w := w5) o u hop
                            clear hb5 hop
                            generalize o ++ u = o3 at *
                            go_wp2
                            go_roundg g'
                            case measure => omega
                            case rel => exact ⟨nx, o3, rfl, rfl, hn2, by omega, HJ5, HRN⟩
            · have hti1 : ¬ (t : Int) + 1 < (b.length : Int) := by omega
              clear h35 htn1
              have HBL2 : Hid (∀ W, Below wr.heap.size wr W → OvJ w w1 W) := Lib.hid fun W hW => ⟨HJ.out.1.trans (hW.mono HJ.out.1.size), HJ.out.2.trans (hW.mono HJ.out.2.size)⟩
              go_wp2_with fail
              refine CN.out.mono ?_
              rintro e w3 ⟨rfl, hb3⟩
              have HJ3 := Lib.hid (HBL2.out _ hb3)
              clear hb3 CN HBL2 y0
              (try clear y1)
              have hrun := HRUN.out
              by_cases her : er ≠ 0
              · have her2 : ((er : Nat) : Int) ≠ 0 := by omega
                have her3 : (((er : Nat) : Int) != 0) = true := by simpa using her
                rw [if_pos her] at hrun
                simp only at hrun
                rw [if_pos her] at hrun
                have H9 := Lib.hid hrun
                clear hrun HX1
                go_wp2
                (try simp only [Exit.noGoto_ret])
                go_ret2
                have h9 := H9.out
                cases h9
                exact ⟨rfl, HJ3.out.2⟩
              · have hr0 : er = 0 := by omega
                subst hr0
                rw [if_neg her] at hrun
                obtain ⟨hn1, hn2, _⟩ := HX1.out rfl
                clear HX1 her hn1
                have CK := Lib.hid fun W => refKnown_c ⟨nm.toArray⟩ W
                have hk255 : knownOf ⟨nm.toArray⟩ ≤ 255 := known_le _
                generalize knownOf ⟨nm.toArray⟩ = kn at *
                go_wp2_with fail
                refine (CK.out _).mono ?_
                rintro e wq ⟨rfl, rfl⟩
                by_cases hk0 : 0 < kn
                · have hki : (0 : Int) < (kn : Int) := by omega
                  have hk9 : (kn : Int) ≤ 255 := by omega
                  rw [if_pos hk0] at hrun
                  simp only at hrun
                  rw [if_neg (by simp)] at hrun
                  have HRN := Lib.hid hrun
                  have hop : o.length + 1 ≤ 9223372036854775807 := by omega
                  have hst := mk1 w3 (UInt8.ofNat kn) (0, 0)
                  rw [show (UInt8.ofNat kn).toNat = kn by exact UInt8.toNat_ofNat_of_lt' (by show kn < 256; omega)] at hst
                  generalize UInt8.ofNat kn = kb at *
                  have hsp : (Op.stringOp .add ⟨o.toArray⟩ ⟨#[kb]⟩).run Tryz.prog (w3.alloc (.cells #[.int .u8 (kn : Int)] 5 (0, 0))) = .ok (.string ⟨(o ++ [kb]).toArray⟩) _ := run_sop o [kb] hop
                  have HJ4 : Hid (OvJ w w1 (w3.alloc (.cells #[.int .u8 (kn : Int)] 5 (0, 0)))) := Lib.hid ⟨HJ3.out.1.alloc HJ3.out.1.size _, HJ3.out.2.alloc HJ3.out.2.size _⟩
                  clear hop hrun hk255 hk0
                  generalize o ++ [kb] = o3 at *
                  go_wp2_with fail
                  refine (CK.out _).mono ?_
                  rintro e wq ⟨rfl, rfl⟩
                  go_wp2
                  go_roundg g'
                  case measure => omega
                  case rel => exact ⟨nx, o3, rfl, rfl, hn2, by omega, HJ4, HRN⟩
                · have hk1 : kn = 0 := by omega
                  subst hk1
                  rw [if_neg hk0] at hrun
                  have FD := Lib.hid (rfFindE_c A n cap l nm w3 (HP.out _ HJ3.out.2) (by omega))
                  clear hk0 hk255 CK
                  cases hf : fndE l nm with
                  | none =>
                    rw [hf] at hrun
                    simp only at hrun
                    rw [if_pos (by decide)] at hrun
                    rw [fndN_none hf] at FD
                    have H9 := Lib.hid hrun
                    clear hrun hf
                    go_wp2_with fail
                    refine FD.out.mono ?_
                    rintro e wq ⟨rfl, rfl⟩
                    go_wp2
                    (try simp only [Exit.noGoto_ret])
                    go_ret2
                    have h9 := H9.out
                    cases h9
                    exact ⟨rfl, HJ3.out.2⟩
                  | some x =>
                    rw [hf] at hrun
                    simp only at hrun
                    obtain ⟨ix, hix, hxi⟩ := fndN_some hf
                    rw [hix] at FD
                    have hxl : ix < n := by rw [← HLN.out]; exact (List.getElem?_eq_some_iff.1 hxi).1
                    have hx50 := HX.out x (List.mem_of_getElem? hxi)
                    have hix0 : ¬ ((ix : Int) < 0) := by omega
                    have hix1 : (0 : Int) ≤ (ix : Int) := by omega
                    have hix2 : (ix : Int) < (n : Int) := by omega
                    obtain ⟨b1, o1, x', rfl, hb1, hx', hc1⟩ := (HP.out _ HJ3.out.2).cell hxl
                    rw [hxi] at hx'
                    cases hx'
                    have u1 : w3.cell? ⟨b1, o1 + ix * 6 + 1, none⟩ = some (.string ⟨x.tx.toArray⟩) := by rw [show o1 + ix * 6 + 1 = o1 + (ix * 6 + 1) by omega]; exact hc1 1 _ rfl
                    have u2 : w3.cell? ⟨b1, o1 + ix * 6 + 2, none⟩ = some (.bool x.out) := by rw [show o1 + ix * 6 + 2 = o1 + (ix * 6 + 2) by omega]; exact hc1 2 _ rfl
                    obtain ⟨xo, hxo⟩ : ∃ q, x.out = q := ⟨_, rfl⟩
                    obtain ⟨xt, hxt⟩ : ∃ q, x.tx = q := ⟨_, rfl⟩
                    rw [hxo] at u2 hrun
                    rw [hxt] at u1 hrun hx50
                    clear hf hix hxi hb1 hc1 hxo hxt
                    cases xo with
                    | true =>
                      rw [if_pos rfl] at hrun
                      simp only at hrun
                      rw [if_pos (by decide)] at hrun
                      have H9 := Lib.hid hrun
                      clear hrun
                      go_wp2_with fail
                      refine FD.out.mono ?_
                      rintro e wq ⟨rfl, rfl⟩
                      go_wp2
                      (try simp only [Exit.noGoto_ret])
                      go_ret2
                      have h9 := H9.out
                      cases h9
                      exact ⟨rfl, HJ3.out.2⟩
                    | false =>
                      rw [if_neg (show ¬ (false = true) by simp)] at hrun
                      have hwi : (wi : Int) ≤ 1000 := by omega
                      by_cases hdp : deep < ((wi + 1 : Nat) : Int)
                      · rw [if_pos hdp] at hrun
                        simp only at hrun
                        rw [if_pos (by decide)] at hrun
                        have hdp2 : deep < (wi : Int) + 1 := by omega
                        have H9 := Lib.hid hrun
                        clear hrun hdp
                        go_wp2_with fail
                        refine FD.out.mono ?_
                        rintro e wq ⟨rfl, rfl⟩
                        go_wp2
                        (try simp only [Exit.noGoto_ret])
                        go_ret2
                        have h9 := H9.out
                        cases h9
                        exact ⟨rfl, HJ3.out.2⟩
                      · rw [if_neg hdp] at hrun
                        simp only at hrun
                        rw [if_neg (by simp)] at hrun
                        have hdp2 : ¬ deep < (wi : Int) + 1 := by omega
                        clear hdp
                        cases hi : overL l deep g' (p + o.length) (wi + 1) xt 0 [] with
                        | none => rw [hi] at hrun; cases hrun
                        | some ue =>
                          obtain ⟨u, e1⟩ := ue
                          rw [hi] at hrun
                          simp only at hrun
                          have CO := IH.out g' (by omega) (p + o.length) (wi + 1) xt u e1 w3 (HP.out _ HJ3.out.2) hx50 hi
                          rw [show (((wi + 1 : Nat) : Nat) : Int) = (wi : Int) + 1 by omega] at CO
                          have HCO := Lib.hid CO
                          clear CO
                          by_cases he1 : e1 ≠ 0
                          · have he2 : ((e1 : Nat) : Int) ≠ 0 := by omega
                            have he3 : (((e1 : Nat) : Int) != 0) = true := by simpa using he1
                            rw [if_pos he1] at hrun
                            have H9 := Lib.hid hrun
                            clear hrun hi
                            go_wp2_with fail
                            refine FD.out.mono ?_
                            rintro e wq ⟨rfl, rfl⟩
                            go_wp2_with fail
                            refine HCO.out.mono ?_
                            rintro e w5 ⟨rfl, hb5⟩
                            have HJ5 : Hid (OvJ w w1 w5) := Lib.hid ⟨HJ3.out.1.trans (hb5.mono HJ3.out.1.size), HJ3.out.2.trans (hb5.mono HJ3.out.2.size)⟩
                            clear hb5
                            go_wp2
                            (try simp only [Exit.noGoto_ret])
                            go_ret2
                            have h9 := H9.out
                            cases h9
                            exact ⟨rfl, HJ5.out.2⟩
                          · have he0 : e1 = 0 := by omega
                            subst he0
                            rw [if_neg he1] at hrun
                            have HRN := Lib.hid hrun
                            have hul : u.length ≤ 1000000 := over_small _ _ _ _ _ _ _ _ _ _ hi
                            have hop : o.length + u.length ≤ 9223372036854775807 := by omega
                            clear hrun hi he1 hul
                            go_wp2_with fail
                            refine FD.out.mono ?_
                            rintro e wq ⟨rfl, rfl⟩
                            go_wp2_with fail
                            refine HCO.out.mono ?_
                            rintro e w5 ⟨rfl, hb5⟩
                            have HJ5 : Hid (OvJ w w1 w5) := Lib.hid ⟨HJ3.out.1.trans (hb5.mono HJ3.out.1.size), HJ3.out.2.trans (hb5.mono HJ3.out.2.size)⟩
                            have hsp := run_sop (w := w5) o u hop
                            clear hb5 hop
                            generalize o ++ u = o3 at *
                            go_wp2
                            go_roundg g'
                            case measure => omega
                            case rel => exact ⟨nx, o3, rfl, rfl, hn2, by omega, HJ5, HRN⟩
        · have hn38 : (((c.toNat : Nat) : Int) != 38) = true := by have := ne_byte c 38 38 rfl h38; simp only [bne, this]; rfl
          rw [if_neg h38] at hrun
          have HRN := Lib.hid hrun
          have CB : Hid (Calls Tryz.prog 33 #[.int .i64 (c.toNat : Int)] wr fun e w' => e = .returned (.bool (isBl c)) ∧ wr = w') := Lib.hid (refBlank_c _ wr)
          have hc0 : (0 : Int) ≤ (c.toNat : Int) := by omega
          have hc9 : (c.toNat : Int) ≤ 255 := by have := UInt8.toNat_lt c; omega
          have hop : o.length + 1 ≤ 9223372036854775807 := by omega
          clear h60 h38 hrun hc
          have HJ4 : Hid (∀ ob, OvJ w w1 (wr.alloc ob)) := Lib.hid fun ob => ⟨HJ.out.1.alloc HJ.out.1.size _, HJ.out.2.alloc HJ.out.2.size _⟩
          cases hbl : isBl c with
          | true =>
            rw [hbl] at CB
            rw [hbl, if_pos rfl] at HRN
            have hst := mk1 wr 32 (0, 0)
            have hsp : (Op.stringOp .add ⟨o.toArray⟩ ⟨#[32]⟩).run Tryz.prog (wr.alloc (.cells #[.int .u8 32] 5 (0, 0))) = .ok (.string ⟨(o ++ [32]).toArray⟩) _ := run_sop o [32] hop
            rw [show (((32 : UInt8).toNat : Nat) : Int) = 32 from rfl] at hst
            clear hop hbl
            generalize o ++ [32] = o3 at *
            generalize (c.toNat : Int) = cn at *
            go_wp2_with fail
            refine (CB.out).mono ?_
            rintro e wq ⟨rfl, rfl⟩
            go_wp2
            go_roundg g'
            case measure => omega
            case rel => exact ⟨t + 1, o3, rfl, by go_num, by omega, by omega, Lib.hid (HJ4.out _), HRN⟩
          | false =>
            rw [hbl] at CB
            rw [hbl, if_neg (by simp)] at HRN
            have hst := mk1 wr c (0, 0)
            have hsp : (Op.stringOp .add ⟨o.toArray⟩ ⟨#[c]⟩).run Tryz.prog (wr.alloc (.cells #[.int .u8 (c.toNat : Int)] 5 (0, 0))) = .ok (.string ⟨(o ++ [c]).toArray⟩) _ := run_sop o [c] hop
            clear hop hbl
            generalize o ++ [c] = o3 at *
            generalize (c.toNat : Int) = cn at *
            go_wp2_with fail
            refine (CB.out).mono ?_
            rintro e wq ⟨rfl, rfl⟩
            go_wp2
            go_roundg g'
            case measure => omega
            case rel => exact ⟨t + 1, o3, rfl, by go_num, by omega, by omega, Lib.hid (HJ4.out _), HRN⟩
    · have hti : ¬ (t : Int) < (b.length : Int) := by omega
      rw [List.getElem?_eq_none (by omega)] at hrun
      simp only at hrun
      have H9 := Lib.hid hrun
      clear HR hrun
      go_wp2
      (try simp only [Exit.noGoto_ret])
      go_ret2
      have h9 := H9.out
      cases h9
      exact ⟨rfl, HJ.out.2⟩
end Go.Proofs.YtfemfgkcgboopaaGreatDoor
