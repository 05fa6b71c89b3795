/- Parse, walked. -/
import Derived.Test.YtbllodeanfdebaaGreatDoorRows
import Derived.WalkKit
import Derived.ProofKit
import Derived.OpenShut
import Derived.ShutString
import Derived.ChangeOld
import Derived.Below
import Derived.BigQuiet
import Derived.Deep.QuietTactic
import Derived.Lib.Hide
import Derived.Deep.RegionHeld3
import Derived.Lib.SlBytesConst
import Derived.Laws.CopyOwn
import Derived.Laws.CopyRow
import Derived.Lib.Bytes
import Derived.Deep.LoopGhost
import Derived.Deep.DeepFit
import Derived.Deep.DeepMust
import Derived.WalkSpells
import Derived.WalkLawsBesides
import Derived.Laws.EntriesVeiled
import Derived.Tactics2
import Derived.Laws.Rows
import Derived.Lib.Replace
import Derived.Lib.Split
import Derived.Lib.ItoaNum
import Derived.Lib.AtoiAllCases
import Derived.Lib.AtoiErrMem
import Derived.Lib.AppendIntMem
import Derived.Maps.OwnOps
import Derived.Maps.OwnSet
import Derived.Maps.Views
import Derived.Maps.AppendAt
import Derived.Deep.AppendLies
import Derived.Defers
import Derived.Recover
import Derived.Laws.Pointers
import Derived.Test.YtbllodeanfdebaaGreatDoorShelf
import Derived.Test.YtbllodeanfdebaaGreatDoorBase
import Derived.Test.YtbllodeanfdebaaGreatDoorCsE
import Derived.Test.YtbllodeanfdebaaGreatDoorCsG
import Derived.Test.YtbllodeanfdebaaGreatDoorCsH
import Derived.Test.YtbllodeanfdebaaGreatDoorCsI
import Derived.Test.YtbllodeanfdebaaGreatDoorCsJ
import Derived.Test.YtbllodeanfdebaaGreatDoorCalm
import Derived.Test.YtbllodeanfdebaaGreatDoorCsL
import Derived.Test.YtbllodeanfdebaaGreatDoorRowS
import Derived.Test.YtbllodeanfdebaaGreatDoorRowG
import Derived.Test.YtbllodeanfdebaaGreatDoorCsO
import Derived.Test.YtbllodeanfdebaaGreatDoorCsM
import Derived.Test.YtbllodeanfdebaaGreatDoorCsN2
import Derived.Test.YtbllodeanfdebaaGreatDoorStL
import Derived.Test.YtbllodeanfdebaaGreatDoorCsO2
import Derived.Test.YtbllodeanfdebaaGreatDoorCsQ
import Derived.Test.YtbllodeanfdebaaGreatDoorStr
import Derived.Test.YtbllodeanfdebaaGreatDoorCsR
import Derived.Test.YtbllodeanfdebaaGreatDoorCsS
import Derived.Test.YtbllodeanfdebaaGreatDoorCsT
import Derived.Test.YtbllodeanfdebaaGreatDoorCsU
import Derived.Test.YtbllodeanfdebaaGreatDoorCsV
import Derived.Test.YtbllodeanfdebaaGreatDoorCsW
namespace Go.Proofs.YtbllodeanfdebaaGreatDoor
open Go.ChangeShapes Go.WideShapes Go.ChangeAt Go.RowKit
set_option linter.unusedVariables false
set_option linter.unusedSimpArgs false in
set_option maxRecDepth 100000 in
set_option maxHeartbeats 40000000 in
theorem parse_c (text : List UInt8) (w : World) (hw : WC w.heap.size w) (hm : text.length ≤ 90000) :
    Calls Tryz.prog 6 #[.string ⟨text.toArray⟩] w fun e w' => Hid (PsPost (parseC numD bigS text) w e w') := by
  have hmf : ∀ (fn : Fn) (first cap : Array Value) (w : World), (Instr.makeFunc fn first cap).run Tryz.prog w = .ok (.func fn first cap) w := fun _ _ _ _ => rfl
  obtain ⟨ls, hls⟩ : ∃ ls, (linesP text).1 = ls := ⟨_, rfl⟩
  obtain ⟨tl, htl⟩ : ∃ tl, (linesP text).2 = tl := ⟨_, rfl⟩
  have hun := unl_lines text
  have hno := lines_no text
  rw [hls, htl] at hun hno
  have hlen : (unl ls tl).length ≤ 100000 := by rw [hun]; omega
  have hll : ls.length ≤ 90000 := by
    have : ∀ l : List (List UInt8), l.length ≤ (unl l tl).length := fun l => by
      induction l with
      | nil => simp
      | cons x l ih => rw [unl_len]; simp; omega
    have := this ls
    rw [hun] at this
    omega
  obtain ⟨N, hN⟩ : ∃ N, w.heap.size = N := ⟨_, rfl⟩
  obtain ⟨w4, hw4⟩ : ∃ w4, ((((w.alloc (.cells Z9 29)).alloc (.cells #[.int .i64 0] 3)).alloc (.cells #[.int .i64 0] 30)).alloc (.cells #[.string ⟨text.toArray⟩, .int .i64 0] 55)) = w4 := ⟨_, rfl⟩
  have hZ : w4.heap[N]? = some (.cells (limV []) 29) := by rw [← hw4, ← hN]; exact hp_old (hp_old (hp_old (hp_new _ _)))
  have h1 : w4.heap[N + 1]? = some (.cells #[.int .i64 0] 3) := by
    rw [← hw4]
    refine hp_old (hp_old ?_)
    have := hp_new (w.alloc (.cells Z9 29)) (.cells #[.int .i64 0] 3)
    rw [World.size_alloc, hN] at this
    exact this
  have h2 : w4.heap[N + 2]? = some (.cells #[.int .i64 0] 30) := by
    rw [← hw4]
    refine hp_old ?_
    have := hp_new ((w.alloc (.cells Z9 29)).alloc (.cells #[.int .i64 0] 3)) (.cells #[.int .i64 0] 30)
    rw [World.size_alloc, World.size_alloc, hN] at this
    exact this
  have h3 : LnAt w4 (N + 3) (unl ls tl) 0 := by
    rw [← hw4, hun]
    have := hp_new (((w.alloc (.cells Z9 29)).alloc (.cells #[.int .i64 0] 3)).alloc (.cells #[.int .i64 0] 30)) (.cells #[.string ⟨text.toArray⟩, .int .i64 0] 55)
    rw [World.size_alloc, World.size_alloc, World.size_alloc, hN] at this
    exact this
  have hkp : Below N w w4 := by
    rw [← hw4, ← hN]
    exact ((((Below.refl _ w).alloc (Nat.le_refl _) _).alloc (by simp) _).alloc (by simp; omega) _).alloc (by simp; omega) _
  have hsz : N + 4 ≤ w4.heap.size := by rw [← hw4]; simp; omega
  have hwc : WC N w4 := by rw [hN] at hw; exact hw.below hkp
  have H4 := Lib.hid (And.intro hZ (And.intro h1 (And.intro h2 (And.intro h3 (And.intro hkp (And.intro hsz hwc))))))
  have HNO := Lib.hid hno
  have HLEN := Lib.hid hlen
  have HLL := Lib.hid hll
  have HTL := Lib.hid htl
  have HLS := Lib.hid hls
  have HHN := Lib.hid hN
  clear hZ h1 h2 h3 hkp hsz hwc hno hlen hll hun hw hm htl hls
  unfold Z9 at hw4
  generalize hR : parseC numD bigS text = R at *
  have HR := Lib.hid hR
  clear hR
  go_enter_defers Tryz.func6, Tryz.ntmps6
  go_wp2_with fail
  by_cases hlim : ∃ y r lim, ls = y :: r ∧ limP numD y = some lim
  · obtain ⟨y, r, lim, rfl, hlim⟩ := hlim
    obtain ⟨M, hM⟩ : ∃ M, (y :: r).length = M := ⟨_, rfl⟩
    have hRh := parse_head HLS.out hlim
    rw [HR.out, HTL.out, hM] at hRh
    have HRH := Lib.hid hRh
    have hMr : r.length + 1 = M := by rw [← hM]; rfl
    have HMM : Hid (M ≤ 90000 ∧ r.length + 1 = M) := Lib.hid ⟨by rw [← hM]; exact HLL.out, hMr⟩
    have HT1 := Lib.hid HNO.out.2
    refine (lnLimits_yes N (N + 3) N 0 y r tl lim w4 H4.out.2.2.2.1 H4.out.2.2.2.2.2.2 H4.out.1 (by omega) (Nat.le_refl _) (by omega) (HNO.out.1 y (by simp)) hlim HLEN.out (by omega)).mono ?_
    rintro e w5 ⟨rfl, hL5, hc5, hk5⟩
    have HJ5 : Hid (PsJ N M r tl 1 lim [] (.slice none 0 0) (.slice none 0 0) (.slice none 0 0) w w5) := Lib.hid
      ⟨hL5, hc5, (hk5.block _ (lt_of H4.out.2.1) (by omega) (by omega)).trans H4.out.2.1, (hk5.block _ (lt_of H4.out.2.2.1) (by omega) (by omega)).trans H4.out.2.2.1,
        H4.out.2.2.2.2.1.trans (hk5.below (by omega) (Nat.le_refl _) (by have := H4.out.2.2.2.2.2.1; omega)), H4.out.2.2.2.2.2.2.kp (by omega) (Nat.le_refl _) hk5, OwnS.start _ _, Nat.le_trans H4.out.2.2.2.2.2.1 hk5.size,
        fun x hx => HNO.out.1 x (List.mem_cons_of_mem _ hx), by have := HLEN.out; rw [unl_len] at this; omega, by have := HMM.out.2; omega⟩
    clear hL5 hc5 hk5 H4 hRh hM hMr hlim HNO HLEN HLL hw4
    go_wp2_with fail
    go_loopg [] (r.length + 1) (fun g wr => ∃ (l2 : List (List UInt8)) (t2 : Nat) (al : List (List UInt8)) (va : Value), Hid (g = l2.length + 1) ∧ Hid (PsJ N M l2 tl t2 lim al (.slice none 0 0) va (.slice none 0 0) w wr ∧ (allowP r).1 = al ++ (allowP l2).1 ∧ (allowP r).2 = (allowP l2).2 ∧ al.length + l2.length ≤ M))
    case atStart => exact ⟨r, 1, [], _, Lib.hid rfl, Lib.hid ⟨HJ5.out, rfl, rfl, by have := HMM.out.2; simp; omega⟩⟩
    case round =>
      obtain ⟨l2, t2, al, va, hg, HJ⟩ := hrel
      have HT2 : Hid (t2 ≤ 90000) := Lib.hid (by have := HJ.out.1.at_; have := HMM.out.1; omega)
      rcases named_case wAllow l2 with ⟨z, q, rfl, hz⟩ | hno
      · have hlen := HJ.out.1.len
        rw [unl_len] at hlen
        have NY := Lib.hid (named_yes N (N + 3) t2 wAllow z q tl wr HJ.out.1.ln HJ.out.1.wc (HJ.out.1.no _ (by simp)) hz HJ.out.1.len (by have := HT2.out; omega))
        have HQ : Hid ((unl q tl).length ≤ 100000) := Lib.hid (by omega)
        have HAL := Lib.hid (allow_step (q := q) hz)
        clear hlen hz
        go_wp2_with fail
        refine NY.out.mono ?_
        rintro e w6 ⟨rfl, hL6, hg6⟩
        have HJ6 := Lib.hid (HJ.out.1.gr hg6 hL6 (fun x hx => HJ.out.1.no x (List.mem_cons_of_mem _ hx)) HQ.out (by have := HJ.out.1.at_; simp only [List.length_cons] at this; omega))
        clear hL6 hg6 NY
        have c7 : w6.cell? ⟨N, 7, none⟩ = some va := by rw [cell_of 7 HJ6.out.cs]; rfl
        have hown : w6.ownsRow (N + 4) 9 1 va al.length (al.map strV) := HJ6.out.al
        have hal : al.length ≤ 1000000000 := by have := HJ.out.2.2.2; have := HMM.out.1; omega
        have hba : N + 4 ≤ w6.heap.size := HJ6.out.sz
        go_wp2_with (at_builtin; refine wpList_appK rfl (.tmp 24) (.tmp 26) 24 9 rfl (.string ⟨#[]⟩) 1 16 Tryz.underlying24 info_str rfl (by decide) _ _ _ _ rfl hown [strV (z.drop wAllow.length)] _ rfl rfl rfl (by simp [strV, Value.oneCell']) hal (by decide) hba ?_)
        intro v7 w7 hown7 hg7 hat7
        obtain ⟨A7, cp7, rfl, _⟩ := own_form hown7
        obtain ⟨hN7, hJ7⟩ := HJ6.out.app hown7 hg7
        have d7 : w7.cell? ⟨N, 7, none⟩ = some va := by rw [cell_of 7 hN7]; rfl
        have f7 := free_of 7 hN7
        have HJ7 := Lib.hid hJ7
        clear hown7 hg7 hat7 hown hba hJ7 hN7 c7
        go_wp2
        go_roundg (q.length + 1)
        case measure => have := hg.out; simp at this; omega
        case rel => exact ⟨q, t2 + 1, al ++ [z.drop wAllow.length], _, Lib.hid rfl, Lib.hid ⟨HJ7.out, by rw [HJ.out.2.1, HAL.out]; simp, by rw [HJ.out.2.2.1, HAL.out], by have := HJ.out.2.2.2; rw [List.length_append]; simp only [List.length_cons, List.length_nil] at *; omega⟩⟩
      · have NN := Lib.hid (named_no N (N + 3) t2 wAllow l2 tl wr HJ.out.1.ln HJ.out.1.wc HJ.out.1.no HT1.out hno HJ.out.1.len)
        have HA : Hid ((allowP r).1 = al) := Lib.hid (by rw [HJ.out.2.1, allow_stop hno]; simp)
        have HA2 : Hid ((allowP r).2 = l2) := Lib.hid (by rw [HJ.out.2.2.1, allow_stop hno])
        have hMt : t2 + l2.length = M := HJ.out.1.at_
        have HR2 : Hid (R = match scriptP (l2.length + 1) l2 [] with | .inr q => .bad (M - q.length + 1) | .inl (sc, q) => tailP M lim al sc tl q) := Lib.hid (by have h9 := HRH.out; rw [HA.out, HA2.out] at h9; exact h9)
        have HALN : Hid (al.length ≤ 90000) := Lib.hid (by have := HJ.out.2.2.2; have := HMM.out.1; omega)
        clear hno
        go_wp2_with fail
        refine NN.out.mono ?_
        rintro e w6 ⟨rfl, n, rfl⟩
        have HJ6 := Lib.hid (HJ.out.1.kept (below_drewN' (n := n) (Below.refl _ _)))
        clear NN HJ
        generalize wr.drewN n = w6 at *
        have AN := Lib.hid (answers_c N (N + 3) t2 l2 tl w6 HJ6.out.ln HJ6.out.wc (by omega) HJ6.out.no HT1.out HJ6.out.len (by have := HMM.out.1; omega))
        rw [hMt] at AN
        have HMT := Lib.hid hMt
        clear hMt
        go_wp2_with fail
        refine AN.out.mono ?_
        rintro e w9 hpost
        clear AN
        rcases hpost.out with ⟨q, v, ys, hsc, rfl, hO, hL, hg9, hnoq, hql, hlenq, hcnt⟩ | ⟨q, hsc, rfl, hg9⟩
        · obtain ⟨A3, c3, rfl, hR3⟩ := hO.own.rrd cAn_len (by decide)
          have hJ9 := HJ6.out.gr hg9 hL hnoq hlenq (by omega)
          have c8 : w9.cell? ⟨N, 8, none⟩ = some (.slice none 0 0) := by rw [cell_of 8 hJ9.cs]; rfl
          have f8 := free_of 8 hJ9.cs
          obtain ⟨w10, hw10⟩ : ∃ w10, w9.setCell ⟨N, 8, none⟩ (.slice A3 ys.length c3) = w10 := ⟨_, rfl⟩
          have HJ10 : Hid (PsJ N M q tl (M - q.length) lim al (.slice none 0 0) va (.slice A3 ys.length c3) w w10) := Lib.hid (by rw [← hw10]; exact hJ9.put (i := 8) rfl)
          have HO10 : Hid (OwnA w10 (N + 4) (.slice A3 ys.length c3) ys) := Lib.hid (by rw [← hw10]; exact (hO.base HJ6.out.sz).set (by omega))
          have HR10 : Hid (R = tailP M lim al (ys.map AnV.a) tl q) := Lib.hid (by have h9 := HR2.out; rw [hsc] at h9; exact h9)
          have HCN := Lib.hid hcnt
          have HSUM : Hid (sumD ys + (unl q tl).length ≤ 100000) := Lib.hid (by
            have h9 := script_sum HJ6.out.no hsc tl
            rw [List.map_map] at h9
            have h8 := HJ6.out.len
            show (ys.map (fun x => x.a.data.length)).sum + _ ≤ _
            exact Nat.le_trans h9 h8)
          have HQL := Lib.hid hql
          clear hpost hsc hO hL hg9 hnoq hql hlenq hcnt hR3 hJ9 HR2 HJ6
          obtain ⟨t3, ht3⟩ : ∃ t3, M - q.length = t3 := ⟨_, rfl⟩
          rw [ht3] at HJ10
          have HT3 : Hid (M - q.length = t3 ∧ t3 ≤ 90000 ∧ t3 + q.length = M) := Lib.hid ⟨ht3, by have := HMM.out.1; omega, by have := HQL.out; omega⟩
          have ht31 : (t3 : Int) ≤ 90000 := by have := HT3.out.2.1; omega
          clear ht3
          go_wp2_with fail
          rcases doc_case q with ⟨q2, rfl⟩ | ⟨d, q2, rfl, hpre, hdn⟩ | ⟨htk, hne⟩
          · have MY := Lib.hid (must_yes N (N + 3) t3 wDoc wDoc q2 tl w10 HJ10.out.ln HJ10.out.wc (HJ10.out.no _ (by simp)) (by decide) HJ10.out.len (by have := HT3.out.2.1; omega))
            rw [show List.drop wDoc.length wDoc = [] from rfl] at MY
            refine MY.out.mono ?_
            rintro e w11 ⟨rfl, hL11, hg11⟩
            have HJ11 := Lib.hid (HJ10.out.gr hg11 hL11 (fun x hx => HJ10.out.no x (List.mem_cons_of_mem _ hx)) (by have := HJ10.out.len; rw [unl_len] at this; omega) (by have := HT3.out.2.2; simp only [List.length_cons] at this; omega))
            have HO11 := Lib.hid (HO10.out.gr (by omega) hg11)
            clear hL11 hg11 MY HJ10 HO10
            obtain ⟨A2, c2, rfl⟩ := OwnS.form HJ11.out.al
            cases hb : barsP q2 with
            | none =>
              have BN := Lib.hid (lnBars_no N (N + 3) (t3 + 1) q2 tl w11 HJ11.out.ln HJ11.out.wc HJ11.out.no HT1.out hb HJ11.out.len (by have := HT3.out.2.1; omega))
              have HRq : Hid (R = .bad (t3 + 1 + 1)) := Lib.hid (by rw [HR10.out, tail_doc, hb]; simp only; rw [show M - q2.length = t3 + 1 by have := HJ11.out.at_; omega])
              clear hb
              go_wp2_with fail
              refine BN.out.mono ?_
              rintro e w12 ⟨rfl, hb12⟩
              have HG := Lib.hid (hb12.gr (some (N + 3)))
              clear hb12 BN
              go_wp2
              exact parse_bad rfl rfl rfl HHN.out HJ11.out HG.out HRq.out
            | some p =>
              obtain ⟨doc, q3⟩ := p
              have BY := Lib.hid (lnBars_yes N (N + 3) (t3 + 1) q2 q3 tl doc w11 HJ11.out.ln HJ11.out.wc (by omega) HJ11.out.no HT1.out hb HJ11.out.len (by have := HJ11.out.at_; have := HMM.out.1; omega))
              have HR12 : Hid (R = if q3 ≠ [] ∨ tl ≠ [] then .bad (M - q3.length + 1) else if bigS ⟨doc, lim, al, ys.map AnV.a⟩ = true then .big else .ok ⟨doc, lim, al, ys.map AnV.a⟩) := Lib.hid (by rw [HR10.out, tail_doc, hb])
              have HSF := Lib.hid (And.intro (barsP_suf HJ11.out.no hb).1 (And.intro ((barsP_suf HJ11.out.no hb).2 tl) (barsP_len hb)))
              have HDS : Hid (doc.length + sumD ys ≤ 100000) := Lib.hid (by have h7 := barsP_sum HJ11.out.no hb tl; have h8 := HSUM.out; rw [unl_len] at h8; omega)
              clear hb
              go_wp2_with fail
              refine BY.out.mono ?_
              rintro e w12 ⟨⟨A1, c1, rfl, hA, hlo⟩, hL12, hg12⟩
              obtain ⟨t4, ht4⟩ : ∃ t4, t3 + 1 + (q2.length - q3.length) = t4 := ⟨_, rfl⟩
              rw [ht4] at hL12
              have hJ12 := HJ11.out.gr hg12 hL12 HSF.out.1 (Nat.le_trans HSF.out.2.1 HJ11.out.len) (by have := HJ11.out.at_; have := HSF.out.2.2; omega)
              have c0 : w12.cell? ⟨N, 0, none⟩ = some (.slice none 0 0) := by rw [cell_of 0 hJ12.cs]; rfl
              have f0 := free_of 0 hJ12.cs
              obtain ⟨w13, hw13⟩ : ∃ w13, w12.setCell ⟨N, 0, none⟩ (.slice A1 doc.length c1) = w13 := ⟨_, rfl⟩
              have HJ13 : Hid (PsJ N M q3 tl t4 lim al (.slice A1 doc.length c1) (.slice A2 al.length c2) (.slice A3 ys.length c3) w w13) := Lib.hid (by rw [← hw13]; exact hJ12.put (i := 0) rfl)
              have HO13 : Hid (OwnA w13 (N + 4) (.slice A3 ys.length c3) ys) := Lib.hid (by rw [← hw13]; exact (HO11.out.gr (by omega) hg12).set (by omega))
              have HA13 : Hid (Byt w13 w13.heap.size A1 doc.length c1 doc) := Lib.hid (by
                rw [← hw13]
                exact rd_keepAt hA (by simp only [World.setCell, Array.size_modify]; exact Nat.le_refl _) fun p hp _ => hp_other (by have := (hlo p hp).1; have := HJ11.out.sz; omega))
              have HLO : Hid (∀ p, A1 = some p → N + 4 ≤ p.block) := Lib.hid fun p hp => Nat.le_trans HJ11.out.sz (hlo p hp).1
              have HT4 : Hid (t4 + q3.length = M) := Lib.hid hJ12.at_
              clear hA hlo hL12 hg12 hJ12 ht4 BY HJ11 HO11
              have ht41 : (t4 : Int) ≤ 90000 := by have := HT4.out; have := HMM.out.1; omega
              have e0 : w13.cell? ⟨N + 3, 0, none⟩ = some (.string ⟨(unl q3 tl).toArray⟩) := by rw [cell_of 0 HJ13.out.ln]; rfl
              by_cases hz : q3 ≠ [] ∨ tl ≠ []
              · have hie : (unl q3 tl).isEmpty = false := by
                  have : unl q3 tl ≠ [] := fun e => unl_nil.1 e hz
                  simpa using this
                have FL := Lib.hid (fail_c (N + 3) t4 _ w13 HJ13.out.ln (by have := HT4.out; have := HMM.out.1; omega))
                have HRq : Hid (R = .bad (t4 + 1)) := Lib.hid (by rw [HR12.out, if_pos hz, show M - q3.length = t4 by have := HT4.out; omega])
                clear hz
                generalize unl q3 tl = rs at *
                go_wp2_with fail
                refine FL.out.mono ?_
                rintro e w14 ⟨rfl, rfl⟩
                go_wp2
                exact parse_bad rfl rfl rfl HHN.out HJ13.out (gr_refl _ _) HRq.out
              · have hun0 : unl q3 tl = [] := unl_nil.2 hz
                rw [hun0] at e0
                obtain ⟨m0, m1, m2, m3, m4, m5, HCV⟩ := caseV_ints lim
                have hcs : w13.heap[N]? = some (.cells #[.slice A1 doc.length c1, .int .i64 m0, .int .i64 m1, .int .i64 m2, .int .i64 m3, .int .i64 m4, .int .i64 m5, .slice A2 al.length c2, .slice A3 ys.length c3] 29) := by have h9 := HJ13.out.cs; rw [HCV] at h9; exact h9
                obtain ⟨A9, c9, e9, hR9⟩ := HO13.out.own.rrd cAn_len (by decide)
                cases e9
                have BG := Lib.hid (big_c A1 A2 A3 doc.length c1 al.length c2 ys.length c3 lim ys w13 hR9 (by have := HDS.out; omega) (by have := HALN.out; omega) (by have := HCN.out; have := HMM.out.1; omega))
                rw [HCV] at BG
                have q0 : w13.cell? ⟨N, 0, none⟩ = some (.slice A1 doc.length c1) := by rw [cell_of 0 hcs]; rfl
                have q1 : w13.cell? ⟨N, 1, none⟩ = some (.int .i64 m0) := by rw [cell_of 1 hcs]; rfl
                have q2 : w13.cell? ⟨N, 2, none⟩ = some (.int .i64 m1) := by rw [cell_of 2 hcs]; rfl
                have q3 : w13.cell? ⟨N, 3, none⟩ = some (.int .i64 m2) := by rw [cell_of 3 hcs]; rfl
                have q4 : w13.cell? ⟨N, 4, none⟩ = some (.int .i64 m3) := by rw [cell_of 4 hcs]; rfl
                have q5 : w13.cell? ⟨N, 5, none⟩ = some (.int .i64 m4) := by rw [cell_of 5 hcs]; rfl
                have q6 : w13.cell? ⟨N, 6, none⟩ = some (.int .i64 m5) := by rw [cell_of 6 hcs]; rfl
                have q7 : w13.cell? ⟨N, 7, none⟩ = some (.slice A2 al.length c2) := by rw [cell_of 7 hcs]; rfl
                have q8 : w13.cell? ⟨N, 8, none⟩ = some (.slice A3 ys.length c3) := by rw [cell_of 8 hcs]; rfl
                have HHC := Lib.hid hcs
                clear hcs hR9
                go_wp2_with fail
                refine BG.out.mono ?_
                rintro e w14 ⟨rfl, hb14⟩
                have hc14 := (hb14.block N (lt_of HHC.out)).trans HHC.out
                have h1_14 := (hb14.block _ (lt_of HJ13.out.n1)).trans HJ13.out.n1
                have h2_14 := (hb14.block _ (lt_of HJ13.out.n2)).trans HJ13.out.n2
                have HB14 := Lib.hid hb14
                have HRf : Hid (R = if bigS ⟨doc, lim, al, ys.map AnV.a⟩ = true then .big else .ok ⟨doc, lim, al, ys.map AnV.a⟩) := Lib.hid (by rw [HR12.out, if_neg hz])
                clear hb14 q0 q1 q2 q3 q4 q5 q6 q7 q8 e0
                by_cases hbig : 64 < al.length ∨ 256 < ys.length
                · have hd : decide (64 < al.length ∨ 256 < ys.length) = true := decide_eq_true hbig
                  rw [hd]
                  have HRb : Hid (R = .big) := Lib.hid (by rw [HRf.out, if_pos (by unfold bigS; simpa using hbig)])
                  obtain ⟨g1, g2, g3, g4, HG⟩ := three_laid (cs := #[.slice none 0 0, .int .i64 0, .int .i64 0, .int .i64 0, .int .i64 0, .int .i64 0, .int .i64 0, .slice none 0 0, .slice none 0 0]) (x := 0) (y := 13) hc14 h1_14 h2_14
                  clear hd hbig
                  go_wp2_with (first | (refine wpList_store_row rfl _ _ _ rfl N #[.slice none 0 0, .int .i64 0, .int .i64 0, .int .i64 0, .int .i64 0, .int .i64 0, .int .i64 0, .slice none 0 0, .slice none 0 0] rfl rfl _ _ hc14 (by kernel_rfl) rfl (by kernel_rfl) ?_))
                  exact parse_ret rfl rfl rfl HG.out.1 rfl HG.out.2.1 HG.out.2.2.1 fun W2 hb => Lib.hid ⟨by rw [HHN.out]; exact ((HJ13.out.kp.trans (HB14.out.mono (by have := HJ13.out.sz; omega))).trans HG.out.2.2.2.1).trans (hb.mono (by rw [HG.out.2.2.2.2.1]; have := HB14.out.size; have := HJ13.out.sz; omega)), .inr (.inl ⟨HRb.out, rfl⟩)⟩
                · have hd : decide (64 < al.length ∨ 256 < ys.length) = false := decide_eq_false hbig
                  rw [hd]
                  have HRb : Hid (R = .ok ⟨doc, lim, al, ys.map AnV.a⟩) := Lib.hid (by rw [HRf.out, if_neg (by unfold bigS; simpa using hbig)])
                  obtain ⟨g1, g2, g3, g4, HG⟩ := three_laid (cs := #[.slice A1 doc.length c1, .int .i64 m0, .int .i64 m1, .int .i64 m2, .int .i64 m3, .int .i64 m4, .int .i64 m5, .slice A2 al.length c2, .slice A3 ys.length c3]) (x := 0) (y := 0) hc14 h1_14 h2_14
                  have q0 : w14.cell? ⟨N, 0, none⟩ = some (.slice A1 doc.length c1) := by rw [cell_of 0 hc14]; rfl
                  have q1 : w14.cell? ⟨N, 1, none⟩ = some (.int .i64 m0) := by rw [cell_of 1 hc14]; rfl
                  have q2 : w14.cell? ⟨N, 2, none⟩ = some (.int .i64 m1) := by rw [cell_of 2 hc14]; rfl
                  have q3 : w14.cell? ⟨N, 3, none⟩ = some (.int .i64 m2) := by rw [cell_of 3 hc14]; rfl
                  have q4 : w14.cell? ⟨N, 4, none⟩ = some (.int .i64 m3) := by rw [cell_of 4 hc14]; rfl
                  have q5 : w14.cell? ⟨N, 5, none⟩ = some (.int .i64 m4) := by rw [cell_of 5 hc14]; rfl
                  have q6 : w14.cell? ⟨N, 6, none⟩ = some (.int .i64 m5) := by rw [cell_of 6 hc14]; rfl
                  have q7 : w14.cell? ⟨N, 7, none⟩ = some (.slice A2 al.length c2) := by rw [cell_of 7 hc14]; rfl
                  have q8 : w14.cell? ⟨N, 8, none⟩ = some (.slice A3 ys.length c3) := by rw [cell_of 8 hc14]; rfl
                  clear hd hbig
                  go_wp2_with (first | (refine wpList_store_row rfl _ _ _ rfl N #[.slice A1 doc.length c1, .int .i64 m0, .int .i64 m1, .int .i64 m2, .int .i64 m3, .int .i64 m4, .int .i64 m5, .slice A2 al.length c2, .slice A3 ys.length c3] rfl rfl _ _ hc14 (by kernel_rfl) rfl (by kernel_rfl) ?_))
                  refine parse_ret rfl rfl rfl HG.out.1 rfl HG.out.2.1 HG.out.2.2.1 fun W2 hb => Lib.hid ⟨by rw [HHN.out]; exact ((HJ13.out.kp.trans (HB14.out.mono (by have := HJ13.out.sz; omega))).trans HG.out.2.2.2.1).trans (hb.mono (by rw [HG.out.2.2.2.2.1]; have := HB14.out.size; have := HJ13.out.sz; omega)), .inr (.inr ⟨⟨doc, lim, al, ys.map AnV.a⟩, _, HRb.out, rfl, ?_⟩)⟩
                  have hca := case_at (lim := lim) (W := W2) HA13.out HLO.out HJ13.out.al HO13.out (by have h1 := hb.size; have h2 := HB14.out.size; rw [HG.out.2.2.2.2.1] at h1; omega) fun k h1 h2 => by
                    rw [hb.block k (by rw [HG.out.2.2.2.2.1]; have := HB14.out.size; omega), HG.out.2.2.2.2.2 k (by omega), HB14.out.block k h2]
                  rw [HCV] at hca
                  exact hca
          · have MY := Lib.hid (must_yes N (N + 3) t3 wDoc d q2 tl w10 HJ10.out.ln HJ10.out.wc (HJ10.out.no _ (by simp)) hpre HJ10.out.len (by have := HT3.out.2.1; omega))
            have hdd := doc_drop hpre hdn
            have hie : (d.drop wDoc.length).isEmpty = false := by simpa using hdd
            generalize d.drop wDoc.length = dd at *
            have HRq : Hid (R = .bad (t3 + 1)) := Lib.hid (by rw [HR10.out, tail_bad (fun q3 e => hdn (by injection e)) HQL.out, HT3.out.1])
            refine MY.out.mono ?_
            rintro e w11 ⟨rfl, hL11, hg11⟩
            have c1 : w11.cell? ⟨N + 3, 1, none⟩ = some (.int .i64 ((t3 : Int) + 1)) := by rw [cell_of 1 hL11]; rfl
            have f1 := free_of 1 hL11
            have e1 : (t3 : Int) + 1 - 1 = t3 := by omega
            have hL12 : LnAt (w11.setCell ⟨N + 3, 1, none⟩ (.int .i64 (t3 : Int))) (N + 3) (unl q2 tl) t3 := hp_set hL11
            have hg12 : w10.grownBy (w11.setCell ⟨N + 3, 1, none⟩ (.int .i64 (t3 : Int))) (some (N + 3)) := hg11.setCell 1 _
            have FL := Lib.hid (fail_c (N + 3) t3 _ _ hL12 (by have := HT3.out.2.1; omega))
            have HG12 := Lib.hid hg12
            clear hL11 hg11 hL12 hg12 MY hpre hdn
            go_wp2_with fail
            refine FL.out.mono ?_
            rintro e w13 ⟨rfl, rfl⟩
            go_wp2
            exact parse_bad rfl rfl rfl HHN.out HJ10.out HG12.out HRq.out
          · have MN := Lib.hid (must_no N (N + 3) t3 wDoc q tl w10 HJ10.out.ln HJ10.out.wc HJ10.out.no HT1.out htk HJ10.out.len (by have := HT3.out.2.1; omega))
            have HRq : Hid (R = .bad (t3 + 1)) := Lib.hid (by rw [HR10.out, tail_bad hne HQL.out, HT3.out.1])
            clear htk hne
            refine MN.out.mono ?_
            rintro e w11 ⟨rfl, n2, rfl⟩
            go_wp2
            exact parse_bad rfl rfl rfl HHN.out HJ10.out ((gr_refl _ _).drewN) HRq.out
        · have HE := Lib.hid (And.intro hsc hg9)
          have HRq : Hid (R = .bad (M - q.length + 1)) := Lib.hid (by have h9 := HR2.out; rw [hsc] at h9; exact h9)
          clear hpost hsc hg9
          go_wp2
          exact parse_bad rfl rfl rfl HHN.out HJ6.out HE.out.2 HRq.out
  · have hnone : ∀ y r, ls = y :: r → limP numD y = none := fun y r e => by
      cases h : limP numD y with
      | none => rfl
      | some lim => exact absurd ⟨y, r, lim, e, h⟩ hlim
    refine (lnLimits_no N (N + 3) N 0 ls tl w4 H4.out.2.2.2.1 H4.out.2.2.2.2.2.2 H4.out.1 (by omega) (Nat.le_refl _) (by omega) HNO.out.1 HNO.out.2 hnone HLEN.out (by omega)).mono ?_
    rintro e w5 ⟨rfl, hk, l9, hc⟩
    have HE := Lib.hid (And.intro hk hc)
    clear hk hc
    go_wp2
    refine parse_pan rfl rfl rfl HE.out.2 rfl ((HE.out.1.block _ (lt_of H4.out.2.1) (by omega) (by omega)).trans H4.out.2.1) ((HE.out.1.block _ (lt_of H4.out.2.2.1) (by omega) (by omega)).trans H4.out.2.2.1) fun W2 hb => Lib.hid ⟨?_, .inl ⟨1, ?_, rfl⟩⟩
    · rw [HHN.out]
      exact (H4.out.2.2.2.2.1.trans (HE.out.1.below (by omega) (Nat.le_refl _) (by have := H4.out.2.2.2.2.2.1; omega))).trans hb
    · rw [← HR.out]
      exact parse_none fun y r e => hnone y r (by rw [← HLS.out]; exact e)
end Go.Proofs.YtbllodeanfdebaaGreatDoor
