/- The law SweepOne. -/
import Derived.Test.YtmclngahdklfkaaGreatDoorRows
import Derived.Test.YtmclngahdklfkaaGreatDoorQX
import Derived.WalkKit
import Derived.ProofKit
import Derived.OpenShut
import Derived.ShutString
import Derived.ChangeOld
import Derived.Below
import Derived.BigQuiet
import Derived.Deep.QuietTactic
import Derived.Lib.Hide
import Derived.Deep.RegionHeld3
import Derived.Lib.SlBytesConst
import Derived.Laws.CopyOwn
import Derived.Laws.CopyRow
import Derived.Lib.Bytes
import Derived.Deep.LoopGhost
import Derived.Deep.DeepFit
import Derived.Deep.DeepMust
import Derived.WalkSpells
import Derived.WalkLawsBesides
import Derived.Maps.OwnOps
import Derived.Maps.OwnSet
import Derived.Maps.Views
import Derived.Laws.EntriesVeiled
import Derived.Laws.Rows
import Derived.Maps.AppendAt
import Derived.Lib.SmallJoins
import Derived.Deep.AppendLies
import Derived.Deep.RegionLaw
import Derived.Deep.RegionWith
import Derived.Deep.RegionWith
import Derived.Test.YtmclngahdklfkaaGreatDoorQ1
import Derived.Test.YtmclngahdklfkaaGreatDoorQ6
import Derived.Test.YtmclngahdklfkaaGreatDoorQ2
import Derived.Test.YtmclngahdklfkaaGreatDoorQ4
import Derived.Test.YtmclngahdklfkaaGreatDoorQ5
import Derived.Test.YtmclngahdklfkaaGreatDoorQ8
import Derived.Test.YtmclngahdklfkaaGreatDoorQ9
import Derived.Test.YtmclngahdklfkaaGreatDoorQ10
import Derived.Test.YtmclngahdklfkaaGreatDoorQ11
import Derived.Test.YtmclngahdklfkaaGreatDoorQ12
import Derived.Test.YtmclngahdklfkaaGreatDoorQ13
import Derived.Test.YtmclngahdklfkaaGreatDoorQ14
import Derived.Test.YtmclngahdklfkaaGreatDoorQ15
import Derived.Test.YtmclngahdklfkaaGreatDoorQ16
import Derived.Test.YtmclngahdklfkaaGreatDoorQ17
import Derived.Test.YtmclngahdklfkaaGreatDoorQ18
import Derived.Test.YtmclngahdklfkaaGreatDoorQ19
import Derived.Test.YtmclngahdklfkaaGreatDoorQ20
import Derived.Test.YtmclngahdklfkaaGreatDoorQ21
import Derived.Test.YtmclngahdklfkaaGreatDoorQ24
import Derived.Test.YtmclngahdklfkaaGreatDoorQ22
import Derived.Test.YtmclngahdklfkaaGreatDoorQ23
import Derived.Test.YtmclngahdklfkaaGreatDoorQ7
import Derived.Test.YtmclngahdklfkaaGreatDoorQ25
import Derived.Test.YtmclngahdklfkaaGreatDoorTok9
import Derived.Test.YtmclngahdklfkaaGreatDoorTok10
import Derived.Test.YtmclngahdklfkaaGreatDoorTok10b
import Derived.Test.YtmclngahdklfkaaGreatDoorTokQ
import Derived.Test.YtmclngahdklfkaaGreatDoorSwP
import Derived.Test.YtmclngahdklfkaaGreatDoorSw1
import Derived.Test.YtmclngahdklfkaaGreatDoorSw2
import Derived.Test.YtmclngahdklfkaaGreatDoorSw3
import Derived.Test.YtmclngahdklfkaaGreatDoorSw4
import Derived.Test.YtmclngahdklfkaaGreatDoorSw5
import Derived.Test.YtmclngahdklfkaaGreatDoorSw6
import Derived.Test.YtmclngahdklfkaaGreatDoorSw7
import Derived.Test.YtmclngahdklfkaaGreatDoorSw8
namespace Go.Proofs.YtmclngahdklfkaaGreatDoor
open Go.ChangeShapes Go.WideShapes Go.ChangeAt Go.RowKit
set_option linter.unusedVariables false
theorem scan_step {ts : List TokL} {n d : Nat} {R : Option (Nat × Nat)} {t : TokL} (h : scanS (t :: ts) n d = R) : scanS (t :: ts) n d = R := h
theorem tokens_text (l : List UInt8) (whole : Bool) : ∀ (f : Nat) (acc : List TokL) (op : List (List UInt8)) (root : Bool) (t : Nat), (∀ k ∈ acc, k.kind = 1 → k.text.length ≤ l.length) → ∀ k ∈ (overR l whole f acc op root t).1, k.kind = 1 → k.text.length ≤ l.length
  | 0, acc, op, root, t, h, k, hk => by cases hk
  | f + 1, acc, op, root, t, h, k, hk => by
    by_cases htl : t < l.length
    · by_cases h0 : (nextOut l t).2 = 0
      · have htx := text_le l t
        have h' : nextOut l t = ((nextOut l t).1, 0) := by rw [← h0]
        obtain ⟨_, u, hu, _⟩ := nextOut_ok l t htl h0
        generalize (nextOut l t).1 = x at h' hu htx
        cases hm : mayS whole op root x with
        | none => rw [over_no htl h' hm] at hk; cases hk
        | some y =>
          obtain ⟨op', root'⟩ := y
          rw [over_more htl h' hm hu] at hk
          refine tokens_text l whole f _ op' root' u ?_ k hk
          split
          · exact h
          · intro z hz
            rcases List.mem_append.1 hz with hz | hz
            · exact h z hz
            · rw [List.mem_singleton] at hz; subst hz; exact htx
      · rw [over_bad htl rfl h0] at hk; cases hk
    · cases hb : (!op.isEmpty || (whole && !root)) with
      | true => rw [over_open htl hb] at hk; cases hk
      | false => rw [over_end htl hb] at hk; exact h k hk
theorem over_len (l : List UInt8) (whole : Bool) : ∀ (f : Nat) (acc : List TokL) (op : List (List UInt8)) (root : Bool) (t : Nat), t ≤ l.length → acc.length ≤ t → (overR l whole f acc op root t).1.length ≤ l.length
  | 0, acc, op, root, t, ht, ha => Nat.zero_le _
  | f + 1, acc, op, root, t, ht, ha => by
    by_cases htl : t < l.length
    · by_cases h0 : (nextOut l t).2 = 0
      · have h' : nextOut l t = ((nextOut l t).1, 0) := by rw [← h0]
        obtain ⟨_, u, hu, h1, h2⟩ := nextOut_ok l t htl h0
        generalize (nextOut l t).1 = x at h' hu
        cases hm : mayS whole op root x with
        | none => rw [over_no htl h' hm]; exact Nat.zero_le _
        | some y =>
          obtain ⟨op', root'⟩ := y
          rw [over_more htl h' hm hu]
          refine over_len l whole f _ op' root' u h2 ?_
          split
          · omega
          · simp; omega
      · rw [over_bad htl rfl h0]; exact Nat.zero_le _
    · cases hb : (!op.isEmpty || (whole && !root)) with
      | true => rw [over_open htl hb]; exact Nat.zero_le _
      | false => rw [over_end htl hb]; show acc.length ≤ _; omega
theorem over_bad_nil (l : List UInt8) (whole : Bool) : ∀ (f : Nat) (acc : List TokL) (op : List (List UInt8)) (root : Bool) (t : Nat), (overR l whole f acc op root t).2.2 ≠ 0 → (overR l whole f acc op root t).1 = []
  | 0, acc, op, root, t, h => rfl
  | f + 1, acc, op, root, t, h => by
    by_cases htl : t < l.length
    · by_cases h0 : (nextOut l t).2 = 0
      · have h' : nextOut l t = ((nextOut l t).1, 0) := by rw [← h0]
        obtain ⟨_, u, hu, _⟩ := nextOut_ok l t htl h0
        generalize (nextOut l t).1 = x at h' hu
        cases hm : mayS whole op root x with
        | none => rw [over_no htl h' hm]
        | some y =>
          obtain ⟨op', root'⟩ := y
          rw [over_more htl h' hm hu] at h ⊢
          exact over_bad_nil l whole f _ op' root' u h
      · rw [over_bad htl rfl h0]
    · cases hb : (!op.isEmpty || (whole && !root)) with
      | true => rw [over_open htl hb]
      | false => rw [over_end htl hb] at h; exact absurd rfl h
/-- One token of the scan: how many stand outside, how many are open, behind it. -/
def stepS (t : TokL) (n d : Nat) : Option (Nat × Nat) :=
  if t.kind = 9 then (if d = 0 then none else some (n, d - 1))
  else if d = 0 then (if t.kind = 7 then some (n + 1, 1) else if t.kind = 8 then some (n + 1, 0) else if t.kind = 1 then (if blankB t.text = true then some (n, 0) else none) else if t.kind = 2 ∨ t.kind = 3 ∨ t.kind = 4 then none else some (n, 0))
  else if t.kind = 7 then some (n, d + 1) else some (n, d)
theorem scan_cons (t : TokL) (ts : List TokL) (n d : Nat) : scanS (t :: ts) n d = (stepS t n d).bind fun p => scanS ts p.1 p.2 := by
  rw [scanS]
  unfold stepS
  repeat' split
  all_goals rfl
set_option maxRecDepth 100000 in
set_option maxHeartbeats 8000000 in
theorem sweepOne_walk (A : Option Addr) (n cap : Nat) (l : List UInt8) (w : World) (h : Byt w w.heap.size A n cap l) (hW : W11 w) :
    Calls Tryz.prog 6 #[.slice A n cap] w fun e w' => e = .returned (.bool true) ∧ Below w.heap.size w w' := by
  have LV : Hid (∀ W, Below w.heap.size w W → Calls Tryz.prog 18 #[] W fun e w' => e = .returned (.bool true) ∧ Below W.heap.size W w') := Lib.hid fun W hb => live30_c W (hW.below hb)
  by_cases hn : n ≤ 500
  · have hn' : ¬ (500 : Int) < (n : Int) := by omega
    have C1 : Hid (Calls Tryz.prog 19 #[.slice A n cap, .int .i64 0] w fun e w' => AllPost (overAt l 0 true) w e w') := Lib.hid (document_c A n cap l 0 w h hW (by omega))
    have hE : overAt l 0 true = overR l true (l.length + 1) [] [] false 0 := by
      unfold overAt
      rw [if_neg (by omega)]
      rfl
    rw [hE] at C1
    have hsc := over_scan l (l.length + 1) [] [] false 0 (Nat.le_refl _) (Nat.zero_le _) rfl (fun h => absurd rfl h)
    have hlen := over_len l true (l.length + 1) [] [] false 0 (Nat.zero_le _) (Nat.le_refl _)
    have htx := tokens_text l true (l.length + 1) [] [] false 0 (fun k hk => by cases hk)
    have hnil := over_bad_nil l true (l.length + 1) [] [] false 0
    have hnl := h.length
    generalize overR l true (l.length + 1) [] [] false 0 = R at *
    obtain ⟨L, at_, x⟩ := R
    simp only at hsc hlen htx hnil
    rw [hnl] at hlen htx
    have HLL := Lib.hid (show L.length ≤ 500 by omega)
    have HTX : Hid (∀ k ∈ L, k.kind = 1 → k.text.length ≤ 500000) := Lib.hid fun k hk h1 => by
      have := htx k hk h1
      omega
    have HSC := Lib.hid hsc
    have HNL := Lib.hid hnil
    clear h hW hn hE hsc hlen htx hnil
    go_enter Tryz.func6, Tryz.ntmps6
    go_wp2_with fail
    refine C1.out.mono ?_
    rintro e0 w1 ⟨A1, m, c1, vs, rfl, hv, hr, hb⟩
    simp only at hv
    have hm1 : L.length = m := by rw [← hv, List.length_map]; exact hr.len
    have HV := Lib.hid hv
    have HR := Lib.hid hr
    have HB := Lib.hid hb
    have HM := Lib.hid hm1
    clear hv hr hb
    by_cases hx : x = 0
    · subst hx
      have hsc2 := HSC.out rfl
      have HS0 : Hid (scanS (L.drop 0) 0 0 = some (1, 0)) := Lib.hid hsc2
      clear hsc2 hm1
      go_wp2_with fail
      go_loopg [6, 7, 8] (m) (fun g nv dv i wr => ∃ (t a d : Nat), i = .int .i64 (t : Int) ∧ nv = .int .i64 (a : Int) ∧ dv = .int .i64 (d : Int) ∧ t ≤ m ∧ Hid (g + t = m) ∧ Hid (a ≤ t) ∧ Hid (d ≤ t) ∧ Hid (scanS (L.drop t) a d = some (1, 0)) ∧ Hid (Below w.heap.size w wr ∧ TRd wr wr.heap.size A1 m c1 vs))
      case atStart => exact ⟨0, 0, 0, rfl, rfl, rfl, Nat.zero_le _, Lib.hid rfl, Lib.hid (Nat.zero_le _), Lib.hid (Nat.zero_le _), HS0, Lib.hid ⟨HB.out, HR.out⟩⟩
      case round =>
        obtain ⟨t, a, d, rfl, rfl, rfl, ht, hg, ha, hd, HS, HJ⟩ := hrel
        have hmb : m ≤ 500 := by have := HLL.out; have := HM.out; omega
        have t0 : (0 : Int) ≤ (t : Int) := by omega
        have t9 : (t : Int) ≤ 500 := by omega
        have a0 : (0 : Int) ≤ (a : Int) := by omega
        have a9 : (a : Int) ≤ 500 := by have := ha.out; omega
        have d0 : (0 : Int) ≤ (d : Int) := by omega
        have d9 : (d : Int) ≤ 500 := by have := hd.out; omega
        by_cases htm : t < m
        · have hti : (t : Int) < (m : Int) := by omega
          obtain ⟨b, o, v, rfl, hbB, hv, hc, _⟩ := HJ.out.2.cell htm
          have hk1 : L[t]? = some v.t := by rw [← HV.out, List.getElem?_map, hv]; rfl
          have hdr : L.drop t = v.t :: L.drop (t + 1) := by
            have hl := (List.getElem?_eq_some_iff.1 hk1).1
            have he : L[t] = v.t := by rw [List.getElem?_eq_getElem hl] at hk1; exact Option.some.inj hk1
            rw [List.drop_eq_getElem_cons hl, he]
          have hst := HS.out
          rw [hdr, scan_cons] at hst
          have htx := HTX.out v.t (List.mem_of_getElem? hk1)
          have z0 : wr.cell? ⟨b, o + t * 7, none⟩ = some (.int .i64 v.t.kind) := by rw [show o + t * 7 = o + (t * 7 + 0) by omega]; exact hc 0 _ rfl
          have z4 : wr.cell? ⟨b, o + t * 7 + 4, none⟩ = some (.string ⟨v.t.text.toArray⟩) := by rw [show o + t * 7 + 4 = o + (t * 7 + 4) by omega]; exact hc 4 _ rfl
          clear hc hv hdr hk1
          obtain ⟨⟨kind, fro, to_, name, text, ps, rr⟩, vA, vn, vc⟩ := v
          simp only at z0 z4 htx hst
          by_cases e9 : kind = 9
          · subst e9
            cases d with
            | zero => simp [stepS] at hst
            | succ d =>
              have HS2 : Hid (scanS (L.drop (t + 1)) (a) (d) = some (1, 0)) := Lib.hid (by simpa [stepS] using hst)
              have HJ2 := HJ
              have hA := ha
              have hD := hd
              clear hst htx ha hd
              by_cases hd0 : d = 0
              · subst hd0
                go_wp2
                go_roundg (m - (t + 1))
                case measure => have := hg.out; omega
                case rel => exact ⟨t + 1, a, 0, by go_num, rfl, by go_num, by omega, Lib.hid (by omega), Lib.hid (by have := hA.out; omega), Lib.hid (by have := hD.out; omega), HS2, HJ2⟩
              · have hdi : ((d : Int) == 0) = false := by simp; omega
                go_wp2
                go_roundg (m - (t + 1))
                case measure => have := hg.out; omega
                case rel => exact ⟨t + 1, a, d, by go_num, rfl, by go_num, by omega, Lib.hid (by omega), Lib.hid (by have := hA.out; omega), Lib.hid (by have := hD.out; omega), HS2, HJ2⟩
          · have k9 : (kind == 9) = false := by simp [e9]
            by_cases d00 : d = 0
            · subst d00
              by_cases e7 : kind = 7
              · subst e7
                have HS2 : Hid (scanS (L.drop (t + 1)) (a + 1) (1) = some (1, 0)) := Lib.hid (by simpa [stepS] using hst)
                have HJ2 := HJ
                have hA := ha
                have hD := hd
                clear hst htx ha hd
                go_wp2
                go_roundg (m - (t + 1))
                case measure => have := hg.out; omega
                case rel => exact ⟨t + 1, a + 1, 1, by go_num, by go_num, by go_num, by omega, Lib.hid (by omega), Lib.hid (by have := hA.out; omega), Lib.hid (by have := hD.out; omega), HS2, HJ2⟩
              · by_cases e8 : kind = 8
                · subst e8
                  have HS2 : Hid (scanS (L.drop (t + 1)) (a + 1) (0) = some (1, 0)) := Lib.hid (by simpa [stepS] using hst)
                  have HJ2 := HJ
                  have hA := ha
                  have hD := hd
                  clear hst htx ha hd
                  go_wp2
                  go_roundg (m - (t + 1))
                  case measure => have := hg.out; omega
                  case rel => exact ⟨t + 1, a + 1, 0, by go_num, by go_num, rfl, by omega, Lib.hid (by omega), Lib.hid (by have := hA.out; omega), Lib.hid (by have := hD.out; omega), HS2, HJ2⟩
                · by_cases e1 : kind = 1
                  · subst e1
                    cases hbl : blankB text with
                    | false => simp [stepS, hbl] at hst
                    | true =>
                      have CB := Lib.hid (blankR_c text wr (htx rfl))
                      rw [hbl] at CB
                      have HS2 : Hid (scanS (L.drop (t + 1)) (a) (0) = some (1, 0)) := Lib.hid (by simpa [stepS, hbl] using hst)
                      have hA := ha
                      have hD := hd
                      clear hst htx ha hd
                      go_wp2_with fail
                      refine CB.out.mono ?_
                      rintro e0 w5 ⟨rfl, hb5⟩
                      have HJ2 : Hid (Below w.heap.size w w5 ∧ TRd w5 w5.heap.size (some ⟨b, o, none⟩) m c1 vs) := Lib.hid ⟨HJ.out.1.trans (hb5.mono HJ.out.1.size), HJ.out.2.up hb5⟩
                      have z0' : w5.cell? ⟨b, o + t * 7, none⟩ = some (.int .i64 1) := (hb5.cell (p := ⟨b, o + t * 7, none⟩) hbB).trans z0
                      clear hb5 hbl
                      go_wp2
                      go_roundg (m - (t + 1))
                      case measure => have := hg.out; omega
                      case rel => exact ⟨t + 1, a, 0, by go_num, rfl, rfl, by omega, Lib.hid (by omega), Lib.hid (by have := hA.out; omega), Lib.hid (by have := hD.out; omega), HS2, HJ2⟩
                  · by_cases e234 : kind = 2 ∨ kind = 3 ∨ kind = 4
                    · rw [show stepS ⟨kind, fro, to_, name, text, ps, rr⟩ a 0 = none by unfold stepS; rw [if_neg (by exact e9), if_pos rfl, if_neg (by exact e7), if_neg (by exact e8), if_neg (by exact e1), if_pos (by exact e234)]] at hst
                      cases hst
                    · have e2 : kind ≠ 2 := fun e => e234 (.inl e)
                      have e3 : kind ≠ 3 := fun e => e234 (.inr (.inl e))
                      have e4 : kind ≠ 4 := fun e => e234 (.inr (.inr e))
                      rw [show stepS ⟨kind, fro, to_, name, text, ps, rr⟩ a 0 = some (a, 0) by unfold stepS; rw [if_neg (by exact e9), if_pos rfl, if_neg (by exact e7), if_neg (by exact e8), if_neg (by exact e1), if_neg (by exact e234)]] at hst
                      have k7 : (kind == 7) = false := by simp [e7]
                      have k8 : (kind == 8) = false := by simp [e8]
                      have k1 : (kind == 1) = false := by simp [e1]
                      have k2 : (kind == 2) = false := by simp [e2]
                      have k3 : (kind == 3) = false := by simp [e3]
                      have k4 : (kind == 4) = false := by simp [e4]
                      have HS2 : Hid (scanS (L.drop (t + 1)) a 0 = some (1, 0)) := Lib.hid hst
                      have HJ2 := HJ
                      have hA := ha
                      have hD := hd
                      clear hst htx ha hd e9 e7 e8 e1 e234 e2 e3 e4
                      go_wp2
                      go_roundg (m - (t + 1))
                      case measure => have := hg.out; omega
                      case rel => exact ⟨t + 1, a, 0, by go_num, rfl, rfl, by omega, Lib.hid (by omega), Lib.hid (by have := hA.out; omega), Lib.hid (by have := hD.out; omega), HS2, HJ2⟩
            · have hdi : ((d : Int) == 0) = false := by simp; omega
              by_cases e7 : kind = 7
              · subst e7
                rw [show stepS ⟨7, fro, to_, name, text, ps, rr⟩ a d = some (a, d + 1) by unfold stepS; rw [if_neg (by show ¬ (7 : Int) = 9; decide), if_neg d00, if_pos rfl]] at hst
                have HS2 : Hid (scanS (L.drop (t + 1)) a (d + 1) = some (1, 0)) := Lib.hid hst
                have HJ2 := HJ
                have hA := ha
                have hD := hd
                clear hst htx ha hd d00 e9
                go_wp2
                go_roundg (m - (t + 1))
                case measure => have := hg.out; omega
                case rel => exact ⟨t + 1, a, d + 1, by go_num, rfl, by go_num, by omega, Lib.hid (by omega), Lib.hid (by have := hA.out; omega), Lib.hid (by have := hD.out; omega), HS2, HJ2⟩
              · rw [show stepS ⟨kind, fro, to_, name, text, ps, rr⟩ a d = some (a, d) by unfold stepS; rw [if_neg (by exact e9), if_neg d00, if_neg (by exact e7)]] at hst
                have k7 : (kind == 7) = false := by simp [e7]
                have HS2 : Hid (scanS (L.drop (t + 1)) a d = some (1, 0)) := Lib.hid hst
                have HJ2 := HJ
                have hA := ha
                have hD := hd
                clear hst htx ha hd d00 e9 e7
                go_wp2
                go_roundg (m - (t + 1))
                case measure => have := hg.out; omega
                case rel => exact ⟨t + 1, a, d, by go_num, rfl, rfl, by omega, Lib.hid (by omega), Lib.hid (by have := hA.out; omega), Lib.hid (by have := hD.out; omega), HS2, HJ2⟩
        · have hti : ¬ (t : Int) < (m : Int) := by omega
          obtain rfl : t = m := by omega
          have hst := HS.out
          rw [List.drop_of_length_le (by rw [HM.out]; exact Nat.le_refl _)] at hst
          simp only [scanS, Option.some.injEq, Prod.mk.injEq] at hst
          obtain ⟨rfl, rfl⟩ := hst
          go_wp2_with fail
          refine (LV.out _ HJ.out.1).mono ?_
          rintro e0 w5 ⟨rfl, hb5⟩
          have HB5 := Lib.hid (HJ.out.1.trans (hb5.mono HJ.out.1.size))
          clear hb5
          go_wp2
          go_ret
          exact ⟨rfl, HB5.out⟩
    · have hxi : ((x : Int) == 0) = false := by simp; omega
      have hL : L = [] := HNL.out hx
      have hm0 : m = 0 := by rw [← hm1, hL]; rfl
      subst hm0
      clear hL hm1
      go_wp2_with fail
      refine (LV.out _ HB.out).mono ?_
      rintro e0 w5 ⟨rfl, hb5⟩
      have HB5 := Lib.hid (HB.out.trans (hb5.mono HB.out.size))
      clear hb5
      go_wp2
      go_ret
      exact ⟨rfl, HB5.out⟩
  · have hn' : (500 : Int) < (n : Int) := by omega
    clear hW hn h
    go_enter Tryz.func6, Tryz.ntmps6
    go_wp2_with fail
    refine (LV.out _ (Below.refl _ _)).mono ?_
    rintro e w1 ⟨rfl, hb⟩
    have B1 := Lib.hid hb
    clear hb
    go_wp2
    go_ret
    exact ⟨rfl, B1.out⟩
end Go.Proofs.YtmclngahdklfkaaGreatDoor
