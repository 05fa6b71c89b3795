/- Texts of ours, joined: CkA, Dig2, CChar, CChar2, RefC, Lit1, Lit2, Lit3. -/
import Derived.Test.YtocbofeanfdggaaDoorRows
import Derived.WalkKit
import Derived.ProofKit
import Derived.OpenShut
import Derived.ShutString
import Derived.ChangeOld
import Derived.Below
import Derived.BigQuiet
import Derived.Deep.QuietTactic
import Derived.Lib.Hide
import Derived.Deep.RegionHeld3
import Derived.Lib.SlBytesConst
import Derived.Laws.CopyOwn
import Derived.Laws.CopyRow
import Derived.Lib.Bytes
import Derived.Deep.LoopGhost
import Derived.Deep.DeepFit
import Derived.Deep.DeepMust
import Derived.WalkSpells
import Derived.WalkLawsBesides
import Derived.Maps.OwnOps
import Derived.Maps.OwnSet
import Derived.Maps.Views
import Derived.Laws.EntriesVeiled
import Derived.Laws.Rows
import Derived.Maps.AppendAt
import Derived.Lib.SmallJoins
import Derived.Deep.AppendLies
import Derived.Deep.RegionLaw
import Derived.Deep.RegionWith
import Derived.Test.YtocbofeanfdggaaDoorQ1
import Derived.Test.YtocbofeanfdggaaDoorQ2
import Derived.Test.YtocbofeanfdggaaDoorQ3
import Derived.Test.YtocbofeanfdggaaDoorQ4
import Derived.Test.YtocbofeanfdggaaDoorQ5
import Derived.Test.YtocbofeanfdggaaDoorQ6
import Derived.Test.YtocbofeanfdggaaDoorQ11
import Derived.Test.YtocbofeanfdggaaDoorQ12
import Derived.Test.YtocbofeanfdggaaDoorQ13
import Derived.Test.YtocbofeanfdggaaDoorQ14
import Derived.Test.YtocbofeanfdggaaDoorQ17
import Derived.Test.YtocbofeanfdggaaDoorQ18
/- The document's Names. -/
namespace Go.Proofs.YtocbofeanfdggaaDoor
open Go.ChangeShapes Go.WideShapes Go.ChangeAt Go.RowKit
set_option linter.unusedVariables false
set_option maxRecDepth 100000 in
set_option maxHeartbeats 8000000 in
theorem refNames_c (k : Int) (sp lo tx : List UInt8) (A : Option Addr) (n cap : Nat) (ats : List (List UInt8 × List UInt8 × List UInt8)) (w : World) (h : RRd cA 3 w w.heap.size A n cap ats) (hm : n ≤ 100000) (hk : k = 1 ∨ k = 2 ∨ k = 3 ∨ k = 4 ∨ k = 5) :
    Calls Tryd.prog 33 #[.agg #[.int .i64 k, .string ⟨sp.toArray⟩, .string ⟨lo.toArray⟩, .slice A n cap, .string ⟨tx.toArray⟩]] w fun e w' => ∃ A2 c2, e = .returned (.slice A2 (namesE ⟨k, sp, lo, ats, tx⟩).length c2) ∧ RRd cN 2 w' w'.heap.size A2 (namesE ⟨k, sp, lo, ats, tx⟩).length c2 (namesE ⟨k, sp, lo, ats, tx⟩) ∧ Below w.heap.size w w' := by
  have J0 := Lib.hid (CJ.start 40 w #[.int .i64 k, .string ⟨sp.toArray⟩, .string ⟨lo.toArray⟩, .slice A n cap, .string ⟨tx.toArray⟩])
  have HP : Hid (∀ W, Below w.heap.size w W → RRd cA 3 W W.heap.size A n cap ats) := Lib.hid fun W hb => (h.below hb).more hb.size
  have HLN : Hid (ats.length = n) := Lib.hid h.len
  have z0 := cell_of 0 J0.out.2
  have z1 := cell_of 1 J0.out.2
  have z2 := cell_of 2 J0.out.2
  clear h
  by_cases h35 : k = 3 ∨ k = 5
  · have HE : Hid (namesE ⟨k, sp, lo, ats, tx⟩ = [] ++ namesA ats) := Lib.hid (by unfold namesE; rw [if_pos h35]; rfl)
    rw [HE.out]
    have O0 : Hid (OwnN (w.alloc (.cells #[.int .i64 k, .string ⟨sp.toArray⟩, .string ⟨lo.toArray⟩, .slice A n cap, .string ⟨tx.toArray⟩] 40)) (w.alloc (.cells #[.int .i64 k, .string ⟨sp.toArray⟩, .string ⟨lo.toArray⟩, .slice A n cap, .string ⟨tx.toArray⟩] 40)).heap.size (.slice none 0 0) []) := Lib.hid ⟨rfl, .inl ⟨rfl, rfl⟩⟩
    clear HE hk
    rcases h35 with rfl | rfl
    · go_enter Tryd.func33, Tryd.ntmps33
      go_wp2
      clear z0 z1 z2
      go_loopg [3, 4] (n) (fun g v i wr => ∃ t : Nat, i = .int .i64 (t : Int) ∧ t ≤ n ∧ Hid (g + t = n) ∧ Hid (OwnN wr (w.alloc (.cells #[.int .i64 3, .string ⟨sp.toArray⟩, .string ⟨lo.toArray⟩, .slice A n cap, .string ⟨tx.toArray⟩] 40)).heap.size v (([] : List (List UInt8 × List UInt8)) ++ namesA (ats.take t))) ∧ Hid (Below (w.alloc (.cells #[.int .i64 3, .string ⟨sp.toArray⟩, .string ⟨lo.toArray⟩, .slice A n cap, .string ⟨tx.toArray⟩] 40)).heap.size (w.alloc (.cells #[.int .i64 3, .string ⟨sp.toArray⟩, .string ⟨lo.toArray⟩, .slice A n cap, .string ⟨tx.toArray⟩] 40)) wr))
      case atStart => exact ⟨0, rfl, Nat.zero_le _, Lib.hid rfl, Lib.hid (by simpa [namesA] using O0.out), Lib.hid (Below.refl _ _)⟩
      case round =>
        obtain ⟨t, rfl, ht, hg, HO, HB⟩ := hrel
        have ht0 : (0 : Int) ≤ (t : Int) := by omega
        have ht9 : (t : Int) ≤ 100000 := by omega
        have JR := Lib.hid (J0.out.kept HB.out)
        have x3 := cell_of 3 JR.out.2
        by_cases htn : t < n
        · have hti : (t : Int) < (n : Int) := by omega
          obtain ⟨b1, o1, x, rfl, hb1, hx, hc1⟩ := (HP.out _ JR.out.1).cell htn
          have HSN := Lib.hid (namesA_snoc hx)
          obtain ⟨xs, xl, xv⟩ := x
          have y0 : wr.cell? ⟨b1, o1 + t * 3, none⟩ = some (.string ⟨xs.toArray⟩) := by rw [show o1 + t * 3 = o1 + (t * 3 + 0) by omega]; exact hc1 0 _ rfl
          have y1 : wr.cell? ⟨b1, o1 + t * 3 + 1, none⟩ = some (.string ⟨xl.toArray⟩) := by rw [show o1 + t * 3 + 1 = o1 + (t * 3 + 1) by omega]; exact hc1 1 _ rfl
          have hlen : (([] : List (List UInt8 × List UInt8)) ++ namesA (ats.take t)).length ≤ 1000000000 := by
            rw [List.length_append]
            simp [namesA]
            omega
          obtain ⟨L, hL⟩ : ∃ L, ([] : List (List UInt8 × List UInt8)) ++ namesA (ats.take t) = L := ⟨_, rfl⟩
          rw [hL] at HO hlen
          have HL := Lib.hid hL
          have hown : wr.ownsRow _ 37 2 _ L.length (L.flatMap cN) := HO.out
          have hba := HB.out.size
          clear hb1 hx hc1 hL
          go_wp2_with (first
            | (at_builtin; refine wpList_appK rfl (.tmp 30) (.tmp 37) 71 37 rfl (.agg #[.string ⟨#[]⟩, .string ⟨#[]⟩]) 2 32 Tryd.underlying71 info_name rfl (by decide) _ _ _ _ rfl hown (cN (xs, xl)) _ rfl rfl rfl (by simp [cN, Value.oneCell']) hlen (by decide) hba ?_))
          intro v6 w6 hown6 hg6 hat6
          have O6 := Lib.hid (OwnN.snoc (l := L) (x := (xs, xl)) hown6)
          have kb := (Below.refl wr.heap.size wr).alloc (Nat.le_refl _) (.cells (cN (xs, xl)).toArray 37)
          have HB6 := Lib.hid ((HB.out.trans (kb.mono hba)).grown hg6 (by rw [World.size_alloc wr]; omega) (fun j hj => OwnN.ge (l := L) hown hj))
          clear hown6 hg6 hat6 kb hown x3 y0 y1
          go_wp2
          go_roundg (n - (t + 1))
          case measure => have := hg.out; omega
          case rel => exact ⟨t + 1, by go_num, by omega, Lib.hid (by have := hg.out; omega), Lib.hid (by rw [HSN.out, ← List.append_assoc, HL.out, World.size_alloc]; exact O6.out), HB6⟩
        · have hti : ¬ (t : Int) < (n : Int) := by omega
          have hO := HO.out
          rw [show ats.take t = ats from List.take_of_length_le (by rw [HLN.out]; omega)] at hO
          obtain ⟨A2, c2, hv, hr⟩ := RRd.ofOwn (c := cN) (fun _ => rfl) (by decide) hO
          subst hv
          have HR := Lib.hid hr
          clear hO hr
          go_wp2
          go_ret
          exact ⟨A2, c2, rfl, HR.out, JR.out.1⟩
    · go_enter Tryd.func33, Tryd.ntmps33
      go_wp2
      clear z0 z1 z2
      go_loopg [3, 4] (n) (fun g v i wr => ∃ t : Nat, i = .int .i64 (t : Int) ∧ t ≤ n ∧ Hid (g + t = n) ∧ Hid (OwnN wr (w.alloc (.cells #[.int .i64 5, .string ⟨sp.toArray⟩, .string ⟨lo.toArray⟩, .slice A n cap, .string ⟨tx.toArray⟩] 40)).heap.size v (([] : List (List UInt8 × List UInt8)) ++ namesA (ats.take t))) ∧ Hid (Below (w.alloc (.cells #[.int .i64 5, .string ⟨sp.toArray⟩, .string ⟨lo.toArray⟩, .slice A n cap, .string ⟨tx.toArray⟩] 40)).heap.size (w.alloc (.cells #[.int .i64 5, .string ⟨sp.toArray⟩, .string ⟨lo.toArray⟩, .slice A n cap, .string ⟨tx.toArray⟩] 40)) wr))
      case atStart => exact ⟨0, rfl, Nat.zero_le _, Lib.hid rfl, Lib.hid (by simpa [namesA] using O0.out), Lib.hid (Below.refl _ _)⟩
      case round =>
        obtain ⟨t, rfl, ht, hg, HO, HB⟩ := hrel
        have ht0 : (0 : Int) ≤ (t : Int) := by omega
        have ht9 : (t : Int) ≤ 100000 := by omega
        have JR := Lib.hid (J0.out.kept HB.out)
        have x3 := cell_of 3 JR.out.2
        by_cases htn : t < n
        · have hti : (t : Int) < (n : Int) := by omega
          obtain ⟨b1, o1, x, rfl, hb1, hx, hc1⟩ := (HP.out _ JR.out.1).cell htn
          have HSN := Lib.hid (namesA_snoc hx)
          obtain ⟨xs, xl, xv⟩ := x
          have y0 : wr.cell? ⟨b1, o1 + t * 3, none⟩ = some (.string ⟨xs.toArray⟩) := by rw [show o1 + t * 3 = o1 + (t * 3 + 0) by omega]; exact hc1 0 _ rfl
          have y1 : wr.cell? ⟨b1, o1 + t * 3 + 1, none⟩ = some (.string ⟨xl.toArray⟩) := by rw [show o1 + t * 3 + 1 = o1 + (t * 3 + 1) by omega]; exact hc1 1 _ rfl
          have hlen : (([] : List (List UInt8 × List UInt8)) ++ namesA (ats.take t)).length ≤ 1000000000 := by
            rw [List.length_append]
            simp [namesA]
            omega
          obtain ⟨L, hL⟩ : ∃ L, ([] : List (List UInt8 × List UInt8)) ++ namesA (ats.take t) = L := ⟨_, rfl⟩
          rw [hL] at HO hlen
          have HL := Lib.hid hL
          have hown : wr.ownsRow _ 37 2 _ L.length (L.flatMap cN) := HO.out
          have hba := HB.out.size
          clear hb1 hx hc1 hL
          go_wp2_with (first
            | (at_builtin; refine wpList_appK rfl (.tmp 30) (.tmp 37) 71 37 rfl (.agg #[.string ⟨#[]⟩, .string ⟨#[]⟩]) 2 32 Tryd.underlying71 info_name rfl (by decide) _ _ _ _ rfl hown (cN (xs, xl)) _ rfl rfl rfl (by simp [cN, Value.oneCell']) hlen (by decide) hba ?_))
          intro v6 w6 hown6 hg6 hat6
          have O6 := Lib.hid (OwnN.snoc (l := L) (x := (xs, xl)) hown6)
          have kb := (Below.refl wr.heap.size wr).alloc (Nat.le_refl _) (.cells (cN (xs, xl)).toArray 37)
          have HB6 := Lib.hid ((HB.out.trans (kb.mono hba)).grown hg6 (by rw [World.size_alloc wr]; omega) (fun j hj => OwnN.ge (l := L) hown hj))
          clear hown6 hg6 hat6 kb hown x3 y0 y1
          go_wp2
          go_roundg (n - (t + 1))
          case measure => have := hg.out; omega
          case rel => exact ⟨t + 1, by go_num, by omega, Lib.hid (by have := hg.out; omega), Lib.hid (by rw [HSN.out, ← List.append_assoc, HL.out, World.size_alloc]; exact O6.out), HB6⟩
        · have hti : ¬ (t : Int) < (n : Int) := by omega
          have hO := HO.out
          rw [show ats.take t = ats from List.take_of_length_le (by rw [HLN.out]; omega)] at hO
          obtain ⟨A2, c2, hv, hr⟩ := RRd.ofOwn (c := cN) (fun _ => rfl) (by decide) hO
          subst hv
          have HR := Lib.hid hr
          clear hO hr
          go_wp2
          go_ret
          exact ⟨A2, c2, rfl, HR.out, JR.out.1⟩
  · have HE : Hid (namesE ⟨k, sp, lo, ats, tx⟩ = [(sp, lo)] ++ namesA ats) := Lib.hid (by unfold namesE; rw [if_neg h35]; rfl)
    rw [HE.out]
    have hk' : k = 1 ∨ k = 2 ∨ k = 4 := by omega
    have own0 : (w.alloc (.cells #[.int .i64 k, .string ⟨sp.toArray⟩, .string ⟨lo.toArray⟩, .slice A n cap, .string ⟨tx.toArray⟩] 40)).ownsRow (w.alloc (.cells #[.int .i64 k, .string ⟨sp.toArray⟩, .string ⟨lo.toArray⟩, .slice A n cap, .string ⟨tx.toArray⟩] 40)).heap.size 37 2 (.slice none 0 0) ([] : List (List UInt8 × List UInt8)).length (([] : List (List UInt8 × List UInt8)).flatMap cN) := ⟨rfl, .inl ⟨rfl, rfl⟩⟩
    clear HE h35 hk
    rcases hk' with rfl | rfl | rfl
    · go_enter Tryd.func33, Tryd.ntmps33
      go_wp2_with (first
        | (at_builtin; refine wpList_appK rfl (.tmp 18) (.tmp 21) 71 37 rfl (.agg #[.string ⟨#[]⟩, .string ⟨#[]⟩]) 2 32 Tryd.underlying71 info_name rfl (by decide) (w.alloc (.cells #[.int .i64 1, .string ⟨sp.toArray⟩, .string ⟨lo.toArray⟩, .slice A n cap, .string ⟨tx.toArray⟩] 40)).heap.size _ _ _ rfl own0 (cN (sp, lo)) _ rfl (by simp [Act.eval]) rfl (by simp [cN, Value.oneCell']) (by decide) (by decide) (Nat.le_refl _) ?_))
      intro v5 w5 hown5 hg5 hat5
      rw [← World.size_alloc w (.cells #[.int .i64 1, .string ⟨sp.toArray⟩, .string ⟨lo.toArray⟩, .slice A n cap, .string ⟨tx.toArray⟩] 40)] at hown5
      have O0 : Hid (OwnN w5 (w.alloc (.cells #[.int .i64 1, .string ⟨sp.toArray⟩, .string ⟨lo.toArray⟩, .slice A n cap, .string ⟨tx.toArray⟩] 40)).heap.size v5 [(sp, lo)]) := Lib.hid (OwnN.snoc (l := []) hown5)
      have ka := (Below.refl (w.alloc (.cells #[.int .i64 1, .string ⟨sp.toArray⟩, .string ⟨lo.toArray⟩, .slice A n cap, .string ⟨tx.toArray⟩] 40)).heap.size (w.alloc (.cells #[.int .i64 1, .string ⟨sp.toArray⟩, .string ⟨lo.toArray⟩, .slice A n cap, .string ⟨tx.toArray⟩] 40))).alloc (Nat.le_refl _) (.cells (cN (sp, lo)).toArray 37)
      have HB0 : Hid (Below (w.alloc (.cells #[.int .i64 1, .string ⟨sp.toArray⟩, .string ⟨lo.toArray⟩, .slice A n cap, .string ⟨tx.toArray⟩] 40)).heap.size (w.alloc (.cells #[.int .i64 1, .string ⟨sp.toArray⟩, .string ⟨lo.toArray⟩, .slice A n cap, .string ⟨tx.toArray⟩] 40)) w5) := Lib.hid (ka.grown hg5 ka.size (fun j hj => by cases hj))
      clear hown5 hg5 hat5 ka own0 z0 z1 z2
      go_wp2
      go_loopg [3, 4] (n) (fun g v i wr => ∃ t : Nat, i = .int .i64 (t : Int) ∧ t ≤ n ∧ Hid (g + t = n) ∧ Hid (OwnN wr (w.alloc (.cells #[.int .i64 1, .string ⟨sp.toArray⟩, .string ⟨lo.toArray⟩, .slice A n cap, .string ⟨tx.toArray⟩] 40)).heap.size v ([(sp, lo)] ++ namesA (ats.take t))) ∧ Hid (Below (w.alloc (.cells #[.int .i64 1, .string ⟨sp.toArray⟩, .string ⟨lo.toArray⟩, .slice A n cap, .string ⟨tx.toArray⟩] 40)).heap.size (w.alloc (.cells #[.int .i64 1, .string ⟨sp.toArray⟩, .string ⟨lo.toArray⟩, .slice A n cap, .string ⟨tx.toArray⟩] 40)) wr))
      case atStart => exact ⟨0, rfl, Nat.zero_le _, Lib.hid rfl, Lib.hid (by simpa [namesA] using O0.out), HB0⟩
      case round =>
        obtain ⟨t, rfl, ht, hg, HO, HB⟩ := hrel
        have ht0 : (0 : Int) ≤ (t : Int) := by omega
        have ht9 : (t : Int) ≤ 100000 := by omega
        have JR := Lib.hid (J0.out.kept HB.out)
        have x3 := cell_of 3 JR.out.2
        by_cases htn : t < n
        · have hti : (t : Int) < (n : Int) := by omega
          obtain ⟨b1, o1, x, rfl, hb1, hx, hc1⟩ := (HP.out _ JR.out.1).cell htn
          have HSN := Lib.hid (namesA_snoc hx)
          obtain ⟨xs, xl, xv⟩ := x
          have y0 : wr.cell? ⟨b1, o1 + t * 3, none⟩ = some (.string ⟨xs.toArray⟩) := by rw [show o1 + t * 3 = o1 + (t * 3 + 0) by omega]; exact hc1 0 _ rfl
          have y1 : wr.cell? ⟨b1, o1 + t * 3 + 1, none⟩ = some (.string ⟨xl.toArray⟩) := by rw [show o1 + t * 3 + 1 = o1 + (t * 3 + 1) by omega]; exact hc1 1 _ rfl
          have hlen : ([(sp, lo)] ++ namesA (ats.take t)).length ≤ 1000000000 := by
            rw [List.length_append]
            simp [namesA]
            omega
          obtain ⟨L, hL⟩ : ∃ L, [(sp, lo)] ++ namesA (ats.take t) = L := ⟨_, rfl⟩
          rw [hL] at HO hlen
          have HL := Lib.hid hL
          have hown : wr.ownsRow _ 37 2 _ L.length (L.flatMap cN) := HO.out
          have hba := HB.out.size
          clear hb1 hx hc1 hL
          go_wp2_with (first
            | (at_builtin; refine wpList_appK rfl (.tmp 30) (.tmp 37) 71 37 rfl (.agg #[.string ⟨#[]⟩, .string ⟨#[]⟩]) 2 32 Tryd.underlying71 info_name rfl (by decide) _ _ _ _ rfl hown (cN (xs, xl)) _ rfl rfl rfl (by simp [cN, Value.oneCell']) hlen (by decide) hba ?_))
          intro v6 w6 hown6 hg6 hat6
          have O6 := Lib.hid (OwnN.snoc (l := L) (x := (xs, xl)) hown6)
          have kb := (Below.refl wr.heap.size wr).alloc (Nat.le_refl _) (.cells (cN (xs, xl)).toArray 37)
          have HB6 := Lib.hid ((HB.out.trans (kb.mono hba)).grown hg6 (by rw [World.size_alloc wr]; omega) (fun j hj => OwnN.ge (l := L) hown hj))
          clear hown6 hg6 hat6 kb hown x3 y0 y1
          go_wp2
          go_roundg (n - (t + 1))
          case measure => have := hg.out; omega
          case rel => exact ⟨t + 1, by go_num, by omega, Lib.hid (by have := hg.out; omega), Lib.hid (by rw [HSN.out, ← List.append_assoc, HL.out, World.size_alloc]; exact O6.out), HB6⟩
        · have hti : ¬ (t : Int) < (n : Int) := by omega
          have hO := HO.out
          rw [show ats.take t = ats from List.take_of_length_le (by rw [HLN.out]; omega)] at hO
          obtain ⟨A2, c2, hv, hr⟩ := RRd.ofOwn (c := cN) (fun _ => rfl) (by decide) hO
          subst hv
          have HR := Lib.hid hr
          clear hO hr
          go_wp2
          go_ret
          exact ⟨A2, c2, rfl, HR.out, JR.out.1⟩
    · go_enter Tryd.func33, Tryd.ntmps33
      go_wp2_with (first
        | (at_builtin; refine wpList_appK rfl (.tmp 18) (.tmp 21) 71 37 rfl (.agg #[.string ⟨#[]⟩, .string ⟨#[]⟩]) 2 32 Tryd.underlying71 info_name rfl (by decide) (w.alloc (.cells #[.int .i64 2, .string ⟨sp.toArray⟩, .string ⟨lo.toArray⟩, .slice A n cap, .string ⟨tx.toArray⟩] 40)).heap.size _ _ _ rfl own0 (cN (sp, lo)) _ rfl (by simp [Act.eval]) rfl (by simp [cN, Value.oneCell']) (by decide) (by decide) (Nat.le_refl _) ?_))
      intro v5 w5 hown5 hg5 hat5
      rw [← World.size_alloc w (.cells #[.int .i64 2, .string ⟨sp.toArray⟩, .string ⟨lo.toArray⟩, .slice A n cap, .string ⟨tx.toArray⟩] 40)] at hown5
      have O0 : Hid (OwnN w5 (w.alloc (.cells #[.int .i64 2, .string ⟨sp.toArray⟩, .string ⟨lo.toArray⟩, .slice A n cap, .string ⟨tx.toArray⟩] 40)).heap.size v5 [(sp, lo)]) := Lib.hid (OwnN.snoc (l := []) hown5)
      have ka := (Below.refl (w.alloc (.cells #[.int .i64 2, .string ⟨sp.toArray⟩, .string ⟨lo.toArray⟩, .slice A n cap, .string ⟨tx.toArray⟩] 40)).heap.size (w.alloc (.cells #[.int .i64 2, .string ⟨sp.toArray⟩, .string ⟨lo.toArray⟩, .slice A n cap, .string ⟨tx.toArray⟩] 40))).alloc (Nat.le_refl _) (.cells (cN (sp, lo)).toArray 37)
      have HB0 : Hid (Below (w.alloc (.cells #[.int .i64 2, .string ⟨sp.toArray⟩, .string ⟨lo.toArray⟩, .slice A n cap, .string ⟨tx.toArray⟩] 40)).heap.size (w.alloc (.cells #[.int .i64 2, .string ⟨sp.toArray⟩, .string ⟨lo.toArray⟩, .slice A n cap, .string ⟨tx.toArray⟩] 40)) w5) := Lib.hid (ka.grown hg5 ka.size (fun j hj => by cases hj))
      clear hown5 hg5 hat5 ka own0 z0 z1 z2
      go_wp2
      go_loopg [3, 4] (n) (fun g v i wr => ∃ t : Nat, i = .int .i64 (t : Int) ∧ t ≤ n ∧ Hid (g + t = n) ∧ Hid (OwnN wr (w.alloc (.cells #[.int .i64 2, .string ⟨sp.toArray⟩, .string ⟨lo.toArray⟩, .slice A n cap, .string ⟨tx.toArray⟩] 40)).heap.size v ([(sp, lo)] ++ namesA (ats.take t))) ∧ Hid (Below (w.alloc (.cells #[.int .i64 2, .string ⟨sp.toArray⟩, .string ⟨lo.toArray⟩, .slice A n cap, .string ⟨tx.toArray⟩] 40)).heap.size (w.alloc (.cells #[.int .i64 2, .string ⟨sp.toArray⟩, .string ⟨lo.toArray⟩, .slice A n cap, .string ⟨tx.toArray⟩] 40)) wr))
      case atStart => exact ⟨0, rfl, Nat.zero_le _, Lib.hid rfl, Lib.hid (by simpa [namesA] using O0.out), HB0⟩
      case round =>
        obtain ⟨t, rfl, ht, hg, HO, HB⟩ := hrel
        have ht0 : (0 : Int) ≤ (t : Int) := by omega
        have ht9 : (t : Int) ≤ 100000 := by omega
        have JR := Lib.hid (J0.out.kept HB.out)
        have x3 := cell_of 3 JR.out.2
        by_cases htn : t < n
        · have hti : (t : Int) < (n : Int) := by omega
          obtain ⟨b1, o1, x, rfl, hb1, hx, hc1⟩ := (HP.out _ JR.out.1).cell htn
          have HSN := Lib.hid (namesA_snoc hx)
          obtain ⟨xs, xl, xv⟩ := x
          have y0 : wr.cell? ⟨b1, o1 + t * 3, none⟩ = some (.string ⟨xs.toArray⟩) := by rw [show o1 + t * 3 = o1 + (t * 3 + 0) by omega]; exact hc1 0 _ rfl
          have y1 : wr.cell? ⟨b1, o1 + t * 3 + 1, none⟩ = some (.string ⟨xl.toArray⟩) := by rw [show o1 + t * 3 + 1 = o1 + (t * 3 + 1) by omega]; exact hc1 1 _ rfl
          have hlen : ([(sp, lo)] ++ namesA (ats.take t)).length ≤ 1000000000 := by
            rw [List.length_append]
            simp [namesA]
            omega
          obtain ⟨L, hL⟩ : ∃ L, [(sp, lo)] ++ namesA (ats.take t) = L := ⟨_, rfl⟩
          rw [hL] at HO hlen
          have HL := Lib.hid hL
          have hown : wr.ownsRow _ 37 2 _ L.length (L.flatMap cN) := HO.out
          have hba := HB.out.size
          clear hb1 hx hc1 hL
          go_wp2_with (first
            | (at_builtin; refine wpList_appK rfl (.tmp 30) (.tmp 37) 71 37 rfl (.agg #[.string ⟨#[]⟩, .string ⟨#[]⟩]) 2 32 Tryd.underlying71 info_name rfl (by decide) _ _ _ _ rfl hown (cN (xs, xl)) _ rfl rfl rfl (by simp [cN, Value.oneCell']) hlen (by decide) hba ?_))
          intro v6 w6 hown6 hg6 hat6
          have O6 := Lib.hid (OwnN.snoc (l := L) (x := (xs, xl)) hown6)
          have kb := (Below.refl wr.heap.size wr).alloc (Nat.le_refl _) (.cells (cN (xs, xl)).toArray 37)
          have HB6 := Lib.hid ((HB.out.trans (kb.mono hba)).grown hg6 (by rw [World.size_alloc wr]; omega) (fun j hj => OwnN.ge (l := L) hown hj))
          clear hown6 hg6 hat6 kb hown x3 y0 y1
          go_wp2
          go_roundg (n - (t + 1))
          case measure => have := hg.out; omega
          case rel => exact ⟨t + 1, by go_num, by omega, Lib.hid (by have := hg.out; omega), Lib.hid (by rw [HSN.out, ← List.append_assoc, HL.out, World.size_alloc]; exact O6.out), HB6⟩
        · have hti : ¬ (t : Int) < (n : Int) := by omega
          have hO := HO.out
          rw [show ats.take t = ats from List.take_of_length_le (by rw [HLN.out]; omega)] at hO
          obtain ⟨A2, c2, hv, hr⟩ := RRd.ofOwn (c := cN) (fun _ => rfl) (by decide) hO
          subst hv
          have HR := Lib.hid hr
          clear hO hr
          go_wp2
          go_ret
          exact ⟨A2, c2, rfl, HR.out, JR.out.1⟩
    · go_enter Tryd.func33, Tryd.ntmps33
      go_wp2_with (first
        | (at_builtin; refine wpList_appK rfl (.tmp 18) (.tmp 21) 71 37 rfl (.agg #[.string ⟨#[]⟩, .string ⟨#[]⟩]) 2 32 Tryd.underlying71 info_name rfl (by decide) (w.alloc (.cells #[.int .i64 4, .string ⟨sp.toArray⟩, .string ⟨lo.toArray⟩, .slice A n cap, .string ⟨tx.toArray⟩] 40)).heap.size _ _ _ rfl own0 (cN (sp, lo)) _ rfl (by simp [Act.eval]) rfl (by simp [cN, Value.oneCell']) (by decide) (by decide) (Nat.le_refl _) ?_))
      intro v5 w5 hown5 hg5 hat5
      rw [← World.size_alloc w (.cells #[.int .i64 4, .string ⟨sp.toArray⟩, .string ⟨lo.toArray⟩, .slice A n cap, .string ⟨tx.toArray⟩] 40)] at hown5
      have O0 : Hid (OwnN w5 (w.alloc (.cells #[.int .i64 4, .string ⟨sp.toArray⟩, .string ⟨lo.toArray⟩, .slice A n cap, .string ⟨tx.toArray⟩] 40)).heap.size v5 [(sp, lo)]) := Lib.hid (OwnN.snoc (l := []) hown5)
      have ka := (Below.refl (w.alloc (.cells #[.int .i64 4, .string ⟨sp.toArray⟩, .string ⟨lo.toArray⟩, .slice A n cap, .string ⟨tx.toArray⟩] 40)).heap.size (w.alloc (.cells #[.int .i64 4, .string ⟨sp.toArray⟩, .string ⟨lo.toArray⟩, .slice A n cap, .string ⟨tx.toArray⟩] 40))).alloc (Nat.le_refl _) (.cells (cN (sp, lo)).toArray 37)
      have HB0 : Hid (Below (w.alloc (.cells #[.int .i64 4, .string ⟨sp.toArray⟩, .string ⟨lo.toArray⟩, .slice A n cap, .string ⟨tx.toArray⟩] 40)).heap.size (w.alloc (.cells #[.int .i64 4, .string ⟨sp.toArray⟩, .string ⟨lo.toArray⟩, .slice A n cap, .string ⟨tx.toArray⟩] 40)) w5) := Lib.hid (ka.grown hg5 ka.size (fun j hj => by cases hj))
      clear hown5 hg5 hat5 ka own0 z0 z1 z2
      go_wp2
      go_loopg [3, 4] (n) (fun g v i wr => ∃ t : Nat, i = .int .i64 (t : Int) ∧ t ≤ n ∧ Hid (g + t = n) ∧ Hid (OwnN wr (w.alloc (.cells #[.int .i64 4, .string ⟨sp.toArray⟩, .string ⟨lo.toArray⟩, .slice A n cap, .string ⟨tx.toArray⟩] 40)).heap.size v ([(sp, lo)] ++ namesA (ats.take t))) ∧ Hid (Below (w.alloc (.cells #[.int .i64 4, .string ⟨sp.toArray⟩, .string ⟨lo.toArray⟩, .slice A n cap, .string ⟨tx.toArray⟩] 40)).heap.size (w.alloc (.cells #[.int .i64 4, .string ⟨sp.toArray⟩, .string ⟨lo.toArray⟩, .slice A n cap, .string ⟨tx.toArray⟩] 40)) wr))
      case atStart => exact ⟨0, rfl, Nat.zero_le _, Lib.hid rfl, Lib.hid (by simpa [namesA] using O0.out), HB0⟩
      case round =>
        obtain ⟨t, rfl, ht, hg, HO, HB⟩ := hrel
        have ht0 : (0 : Int) ≤ (t : Int) := by omega
        have ht9 : (t : Int) ≤ 100000 := by omega
        have JR := Lib.hid (J0.out.kept HB.out)
        have x3 := cell_of 3 JR.out.2
        by_cases htn : t < n
        · have hti : (t : Int) < (n : Int) := by omega
          obtain ⟨b1, o1, x, rfl, hb1, hx, hc1⟩ := (HP.out _ JR.out.1).cell htn
          have HSN := Lib.hid (namesA_snoc hx)
          obtain ⟨xs, xl, xv⟩ := x
          have y0 : wr.cell? ⟨b1, o1 + t * 3, none⟩ = some (.string ⟨xs.toArray⟩) := by rw [show o1 + t * 3 = o1 + (t * 3 + 0) by omega]; exact hc1 0 _ rfl
          have y1 : wr.cell? ⟨b1, o1 + t * 3 + 1, none⟩ = some (.string ⟨xl.toArray⟩) := by rw [show o1 + t * 3 + 1 = o1 + (t * 3 + 1) by omega]; exact hc1 1 _ rfl
          have hlen : ([(sp, lo)] ++ namesA (ats.take t)).length ≤ 1000000000 := by
            rw [List.length_append]
            simp [namesA]
            omega
          obtain ⟨L, hL⟩ : ∃ L, [(sp, lo)] ++ namesA (ats.take t) = L := ⟨_, rfl⟩
          rw [hL] at HO hlen
          have HL := Lib.hid hL
          have hown : wr.ownsRow _ 37 2 _ L.length (L.flatMap cN) := HO.out
          have hba := HB.out.size
          clear hb1 hx hc1 hL
          go_wp2_with (first
            | (at_builtin; refine wpList_appK rfl (.tmp 30) (.tmp 37) 71 37 rfl (.agg #[.string ⟨#[]⟩, .string ⟨#[]⟩]) 2 32 Tryd.underlying71 info_name rfl (by decide) _ _ _ _ rfl hown (cN (xs, xl)) _ rfl rfl rfl (by simp [cN, Value.oneCell']) hlen (by decide) hba ?_))
          intro v6 w6 hown6 hg6 hat6
          have O6 := Lib.hid (OwnN.snoc (l := L) (x := (xs, xl)) hown6)
          have kb := (Below.refl wr.heap.size wr).alloc (Nat.le_refl _) (.cells (cN (xs, xl)).toArray 37)
          have HB6 := Lib.hid ((HB.out.trans (kb.mono hba)).grown hg6 (by rw [World.size_alloc wr]; omega) (fun j hj => OwnN.ge (l := L) hown hj))
          clear hown6 hg6 hat6 kb hown x3 y0 y1
          go_wp2
          go_roundg (n - (t + 1))
          case measure => have := hg.out; omega
          case rel => exact ⟨t + 1, by go_num, by omega, Lib.hid (by have := hg.out; omega), Lib.hid (by rw [HSN.out, ← List.append_assoc, HL.out, World.size_alloc]; exact O6.out), HB6⟩
        · have hti : ¬ (t : Int) < (n : Int) := by omega
          have hO := HO.out
          rw [show ats.take t = ats from List.take_of_length_le (by rw [HLN.out]; omega)] at hO
          obtain ⟨A2, c2, hv, hr⟩ := RRd.ofOwn (c := cN) (fun _ => rfl) (by decide) hO
          subst hv
          have HR := Lib.hid hr
          clear hO hr
          go_wp2
          go_ret
          exact ⟨A2, c2, rfl, HR.out, JR.out.1⟩
end Go.Proofs.YtocbofeanfdggaaDoor
/- The document's digits. -/
namespace Go.Proofs.YtocbofeanfdggaaDoor
open Go.ChangeShapes Go.WideShapes Go.ChangeAt Go.RowKit
set_option linter.unusedVariables false
end Go.Proofs.YtocbofeanfdggaaDoor
/- cref.Char. -/
namespace Go.Proofs.YtocbofeanfdggaaDoor
open Go.ChangeShapes Go.WideShapes Go.ChangeAt Go.RowKit
set_option linter.unusedVariables false
end Go.Proofs.YtocbofeanfdggaaDoor
/- cref.Char. -/
namespace Go.Proofs.YtocbofeanfdggaaDoor
open Go.ChangeShapes Go.WideShapes Go.ChangeAt Go.RowKit
set_option linter.unusedVariables false
theorem ne_byte' (c n : UInt8) (z : Int) (hz : z = (n.toNat : Int)) (h : ¬ c = n) : ((c.toNat : Int) == z) = false := by rw [hz, toNat_eq]; simp [h]
end Go.Proofs.YtocbofeanfdggaaDoor
/- narthexref06.Char. -/
namespace Go.Proofs.YtocbofeanfdggaaDoor
open Go.ChangeShapes Go.WideShapes Go.ChangeAt Go.RowKit
set_option linter.unusedVariables false
end Go.Proofs.YtocbofeanfdggaaDoor
/- lit.Quoted. -/
namespace Go.Proofs.YtocbofeanfdggaaDoor
open Go.ChangeShapes Go.WideShapes Go.ChangeAt Go.RowKit
set_option linter.unusedVariables false
end Go.Proofs.YtocbofeanfdggaaDoor
/- lit.Refs. -/
namespace Go.Proofs.YtocbofeanfdggaaDoor
open Go.ChangeShapes Go.WideShapes Go.ChangeAt Go.RowKit
set_option linter.unusedVariables false
end Go.Proofs.YtocbofeanfdggaaDoor
/- narthexref07.Refs. -/
namespace Go.Proofs.YtocbofeanfdggaaDoor
open Go.ChangeShapes Go.WideShapes Go.ChangeAt Go.RowKit
set_option linter.unusedVariables false
end Go.Proofs.YtocbofeanfdggaaDoor
