/- Texts of ours, joined: GsN, GsO. -/
import Derived.Test.YtfemfgkcgboopaaGreatDoorRows
import Derived.WalkKit
import Derived.ProofKit
import Derived.OpenShut
import Derived.ShutString
import Derived.ChangeOld
import Derived.Below
import Derived.BigQuiet
import Derived.Deep.QuietTactic
import Derived.Lib.Hide
import Derived.Deep.RegionHeld3
import Derived.Lib.SlBytesConst
import Derived.Laws.CopyOwn
import Derived.Laws.CopyRow
import Derived.Lib.Bytes
import Derived.Deep.LoopGhost
import Derived.Deep.DeepFit
import Derived.Deep.DeepMust
import Derived.WalkSpells
import Derived.WalkLawsBesides
import Derived.Laws.EntriesVeiled
import Derived.Laws.Rows
import Derived.Maps.OwnOps
import Derived.Maps.OwnSet
import Derived.Maps.Views
import Derived.Maps.AppendAt
import Derived.DeepKeys4
import Derived.MapViews
import Derived.Maps.Keyed
import Derived.Deep.RegionWith
import Derived.Deep.CutRange
import Derived.Test.YtfemfgkcgboopaaGreatDoorQ1
import Derived.Test.YtfemfgkcgboopaaGreatDoorQ2
import Derived.Test.YtfemfgkcgboopaaGreatDoorQ3
import Derived.Test.YtfemfgkcgboopaaGreatDoorQ4
import Derived.Test.YtfemfgkcgboopaaGreatDoorQ9
import Derived.Test.YtfemfgkcgboopaaGreatDoorQ10
import Derived.Test.YtfemfgkcgboopaaGreatDoorQ11
import Derived.Test.YtfemfgkcgboopaaGreatDoorQ12
import Derived.Test.YtfemfgkcgboopaaGreatDoorQ13
import Derived.Test.YtfemfgkcgboopaaGreatDoorQ14
import Derived.Test.YtfemfgkcgboopaaGreatDoorQ15
import Derived.Test.YtfemfgkcgboopaaGreatDoorQ16
import Derived.Test.YtfemfgkcgboopaaGreatDoorQ18
import Derived.Test.YtfemfgkcgboopaaGreatDoorQ19
import Derived.Test.YtfemfgkcgboopaaGreatDoorQ20
import Derived.Test.YtfemfgkcgboopaaGreatDoorQ21
/- maker.ref. -/
namespace Go.Proofs.YtfemfgkcgboopaaGreatDoor
open Go.ChangeShapes Go.WideShapes Go.ChangeAt Go.RowKit
set_option linter.unusedVariables false
section
variable {m s M B : Nat} {l : List EntT} {deep : Int} {fr : List Otx} {o : List UInt8} {w0 : World}
theorem FrAt.cells {w : World} {B : Nat} {p : Otx} (h : FrAt w B p) : ∃ q c, w.cell? ⟨p.x, 0, none⟩ = some (.slice (some ⟨q, 0, none⟩) p.b.length c) ∧ w.cell? ⟨p.x, 1, none⟩ = some (.int .i64 (p.t : Nat)) ∧ w.frozen? ⟨p.x, 1, none⟩ = false ∧ Byt w w.heap.size (some ⟨q, 0, none⟩) p.b.length c p.b ∧ p.t ≤ p.b.length ∧ p.b.length ≤ 50000 := by
  obtain ⟨h1, h2, h3, q, c, h4, h5⟩ := h
  exact ⟨q, c, by rw [cell_of 0 h4]; rfl, by rw [cell_of 1 h4]; rfl, free_of 1 h4, h5.byt, h2, h3⟩
theorem pre38 (b : List UInt8) (t : Nat) : [38, 35].isPrefixOf (b.drop t) = decide ((b.drop t).take 2 = [38, 35]) := by
  generalize b.drop t = z
  match z with
  | [] => rfl
  | [a] => simp [List.isPrefixOf]
  | a :: c :: z => simp [List.isPrefixOf]; grind
theorem charBody_ok (b : Int) (hb : b = 10 ∨ b = 16) (l : List UInt8) (k : Nat) (h : (charBody b 2097152 l k).2.2 = 0) : isDoc (charBody b 2097152 l k).1 = true := by
  unfold charBody at h ⊢
  simp only at h ⊢
  split at h
  · cases h
  · rename_i h1
    split at h
    · rename_i h2
      rw [if_neg h1, if_pos h2]
      exact h2
    · cases h
theorem charOut_ok (l : List UInt8) (k : Nat) (h : (charOut l k).2.2 = 0) : isDoc (charOut l k).1 = true := by
  unfold charOut at h ⊢
  split at h
  · rename_i h1
    rw [if_pos h1]
    split at h
    · rename_i h2
      rw [if_pos h2]
      exact charBody_ok 16 (.inr rfl) l _ h
    · rename_i h2
      rw [if_neg h2]
      exact charBody_ok 10 (.inl rfl) l _ h
  · cases h
/-- The text that is opened, if there is one. -/
def opnT (x : Nat) : Option (List UInt8) → List Otx
  | none => []
  | some y => [⟨x, y, 0⟩]
theorem known_le (s : ByteArray) : knownOf s ≤ 255 := by
  unfold knownOf
  (repeat' split) <;> omega
set_option maxRecDepth 100000 in
set_option maxHeartbeats 16000000 in
/-- maker.ref: what a reference gives. -/
theorem makerRef_c (p : Otx) (w : World) (h : MkS m s M B l deep (p :: fr) o w0 w) (hB : B = w0.heap.size) (hF0 : Forms w0) (hT0 : Tabs w0) (hK0 : KnownT w0) (hfr : fr.length ≤ 1000) (ho : o.length ≤ 1000000) (hlx : ∀ x ∈ l, x.tx.length ≤ 50000) :
    Calls Tryz.prog 47 #[.pointer (some ⟨m, 0, none⟩), .pointer (some ⟨p.x, 0, none⟩)] w fun e w' => e = .returned (.int .i64 ((refS l deep (fr.length + 1) p.b p.t o).1 : Nat)) ∧ Below B w0 w' ∧
      ((refS l deep (fr.length + 1) p.b p.t o).1 = 0 → ∃ x', MkS m s M B l deep (opnT x' (refS l deep (fr.length + 1) p.b p.t o).2.2.2 ++ ⟨p.x, p.b, (refS l deep (fr.length + 1) p.b p.t o).2.1⟩ :: fr) (refS l deep (fr.length + 1) p.b p.t o).2.2.1 w0 w') := by
  have hF : Forms w := hF0.below h.below (by rw [hB]; exact hF0.lt)
  have hT : Tabs w := hT0.below h.below (by rw [hB]; exact hT0.low hF0)
  have hK : ∀ W, Below B w0 W → KnownT W := fun W hW => hK0.below (by rw [← hB]; exact hW)
  clear hF0 hT0 hK0 hB
  obtain ⟨q, c, c0, c1, f1, hby, ht, hb⟩ := (h.frs p List.mem_cons_self).cells
  have hrf : ∀ w2 : World, (Instr.slice 65 (.slice (some ⟨q, 0, none⟩) p.b.length c) (some (.int .i64 ((p.t : Nat) : Int))) none none).run Tryz.prog w2 = .ok (.slice (cutA (some ⟨q, 0, none⟩) c p.t) (p.b.length - p.t) (c - p.t)) w2 := fun w2 => run_from (w := w2) (some ⟨q, 0, none⟩) p.b.length c p.t ht
  have kc0 := Lib.run_convert_bytes_const (P := Tryz.prog) w.drew 65 5 #[.int .u8 38, .int .u8 35] 2 2 Tryz.underlying65 Tryz.underlying5
  have kc : (convert 65 65 (.slice (some ⟨w.heap.size, 0, none⟩) 2 2)).run Tryz.prog (w.alloc (.cells #[.int .u8 38, .int .u8 35] 5)).drew = .ok (.slice (some ⟨w.heap.size, 0, none⟩) 2 2) (w.alloc (.cells #[.int .u8 38, .int .u8 35] 5 (2, 3))).drew := kc0
  clear kc0
  have k1 := Byt.const w.drew [38, 35] (2, 3) (by decide)
  have b1 : Below w.drew.heap.size w.drew (w.drew.alloc (.cells ([38, 35].map bv).toArray 5 (2, 3))) := (Below.refl _ _).alloc (Nat.le_refl _) _
  have CH : Hid (Calls Tryz.prog 65 #[.slice (cutA (some ⟨q, 0, none⟩) c p.t) (p.b.length - p.t) (c - p.t), .slice (some ⟨w.heap.size, 0, none⟩) 2 2] (w.alloc (.cells #[.int .u8 38, .int .u8 35] 5 (2, 3))).drew fun e w' => e = .returned (.bool (decide ((p.b.drop p.t).take 2 = [38, 35]))) ∧ (w.alloc (.cells #[.int .u8 38, .int .u8 35] 5 (2, 3))).drew = w') := Lib.hid (by
    have := hasPrefix_c _ _ _ _ _ _ _ _ _ _ _ (((hby.below (Below.drew (Below.refl _ w))).below b1).drop ht) k1
    rw [pre38] at this
    exact this)
  have K1 : Hid (Below w.heap.size w (w.alloc (.cells #[.int .u8 38, .int .u8 35] 5 (2, 3))).drew) := Lib.hid (((Below.refl _ _).alloc (Nat.le_refl _) _).drew)
  have HS := Lib.hid (h.kept K1.out)
  have HBY : Hid (∀ W, Below w.heap.size w W → Byt W W.heap.size (some ⟨q, 0, none⟩) p.b.length c p.b) := Lib.hid fun W hW => (hby.below hW).more hW.size
  have CC : Hid (∀ W, Below w.heap.size w W → Calls Tryz.prog 66 #[.slice (some ⟨q, 0, none⟩) p.b.length c, .int .i64 (p.t : Nat)] W fun e w' => e = .returned (numV (charOut p.b p.t)) ∧ Below W.heap.size W w') := Lib.hid fun W hW => by
    have := crefChar_c (some ⟨q, 0, none⟩) p.b.length c p.b (p.t : Nat) W (HBY.out W hW) (hF.below hW hF.lt) (hT.below hW (hT.low hF)) hb
    unfold charAt at this
    rw [if_neg (by omega), Int.toNat_natCast] at this
    exact this
  have CN : Hid (∀ W, Below w.heap.size w W → Calls Tryz.prog 69 #[.slice (some ⟨q, 0, none⟩) p.b.length c, .int .i64 (p.t : Nat)] W fun e w' => e = .returned (outV (refOut 38 p.b p.t)) ∧ Below W.heap.size W w') := Lib.hid fun W hW => by
    have := crefEntity_c (some ⟨q, 0, none⟩) p.b.length c p.b (p.t : Nat) W (HBY.out W hW) (hF.below hW hF.lt) (hT.below hW (hT.low hF)) hb
    unfold refAt at this
    rw [if_neg (by omega), Int.toNat_natCast] at this
    exact this
  have hxl := World.block_lt_of_cell? w _ c0
  have CW : Hid (∀ W, Below w.heap.size w W → W.cell? ⟨p.x, 0, none⟩ = some (.slice (some ⟨q, 0, none⟩) p.b.length c) ∧ W.cell? ⟨p.x, 1, none⟩ = some (.int .i64 (p.t : Nat))) := Lib.hid fun W hW => ⟨(hW.cell hxl).trans c0, (hW.cell (p := ⟨p.x, 1, none⟩) hxl).trans c1⟩
  have K0 : Below w.heap.size w (w.alloc (.cells #[.int .u8 38, .int .u8 35] 5)).drew := ((Below.refl _ _).alloc (Nat.le_refl _) _).drew
  obtain ⟨g0, g1⟩ := CW.out _ K0
  obtain ⟨d0, d1⟩ := CW.out _ K1.out
  clear K0 hxl
  have htN : ¬ ((p.b.length : Int) < (p.t : Int)) := by omega
  have HFT := Lib.hid (And.intro hF (And.intro hT hK))
  have HLX := Lib.hid hlx
  have h0 := Lib.hid h
  have HB3 : Hid (∀ W, Below w.heap.size w W → Below B w0 W) := Lib.hid fun W hW => (h.kept hW).below
  obtain ⟨x, b, t⟩ := p
  simp only at *
  obtain ⟨hp, hpe⟩ : ∃ hp, decide ((b.drop t).take 2 = [38, 35]) = hp := ⟨_, rfl⟩
  rw [hpe] at CH
  have HPE := Lib.hid hpe
  have hbl := Lib.hid hb
  obtain ⟨RS, hRS⟩ : ∃ RS, refS l deep (fr.length + 1) b t o = RS := ⟨_, rfl⟩
  have HRS := Lib.hid hRS
  rw [hRS]
  obtain ⟨e1, t1, o1, n1⟩ := RS
  simp only
  clear h k1 b1 hby hF hT hK hlx hpe hRS
  go_enter Tryz.func47, Tryz.ntmps47
  go_upto_region 1 with fail
  go_cut [26] from 15 (fun cc wx => cc = .bool hp ∧ wx = (w.alloc (.cells #[.int .u8 38, .int .u8 35] 5 (2, 3))).drew)
  case first =>
    go_region_with (go_at_call 65; (with_reducible refine CH.out.mono ?_); rintro e w2 ⟨rfl, rfl⟩)
    all_goals (go_wp2_with fail; go_meet; exact ⟨rfl, rfl⟩)
  obtain ⟨rfl, rfl⟩ := hcut
  clear kc hrf CH c0 c1 f1 g0 g1
  generalize (w.alloc (.cells #[.int .u8 38, .int .u8 35] 5 (2, 3))).drew = W at *
  cases hp with
  | true =>
    have hn := of_decide_eq_true HPE.out
    have HC1 := Lib.hid (charOut_nxt b t)
    have HC2 := Lib.hid (charOut_ok b t)
    have hR : refS l deep (fr.length + 1) b t o = if (charOut b t).2.2 ≠ 0 then ((charOut b t).2.2, t, o, none) else (0, (charOut b t).2.1, o ++ encL (charOut b t).1.toNat, none) := by unfold refS; rw [if_pos hn]
    rw [HRS.out] at hR
    have HR2 := Lib.hid hR
    clear hR HPE hn CN HRS
    generalize charOut b t = R at *
    obtain ⟨r, nx, er⟩ := R
    unfold numV at CC
    simp only at *
    have K2 := Lib.hid (Below.drew K1.out)
    obtain ⟨d0', d1'⟩ := CW.out _ K2.out
    clear d0 d1
    go_wp2_with fail
    go_region_held3 (fun w' => w'.cell? ⟨x, 0, none⟩ = some (.slice (some ⟨q, 0, none⟩) b.length c) ∧ w'.cell? ⟨x, 1, none⟩ = some (.int .i64 (t : Nat)) ∧ Hid (Below w.heap.size w w')) (first | exact ⟨by assumption, by assumption, by assumption⟩) (first
      | (go_at_call 66; refine (CC.out _ (Hid.out (by assumption))).mono ?_; rintro e w3 ⟨rfl, hb3⟩; have K3 := Lib.hid ((Hid.out (by assumption : Hid (Below w.heap.size w _))).trans (hb3.mono (Hid.out (by assumption : Hid (Below w.heap.size w _))).size)); have e0 := (CW.out _ K3.out).1; have e1 := (CW.out _ K3.out).2; clear hb3))
    by_cases her : er ≠ 0
    · have her2 : ((er : Nat) : Int) ≠ 0 := by omega
      have her3 : (((er : Nat) : Int) != 0) = true := by simpa using her
      go_wp2
      go_ret
      have h9 := HR2.out
      rw [if_pos her] at h9
      cases h9
      exact ⟨rfl, HB3.out _ K3.out, fun h => absurd h her⟩
    · have hr0 : er = 0 := by omega
      subst hr0
      obtain ⟨hn1, hn2, _⟩ := HC1.out rfl
      have hdoc := HC2.out rfl
      obtain ⟨rn, rfl⟩ : ∃ rn : Nat, r = (rn : Int) := ⟨r.toNat, by have := (isDoc_iff _).1 hdoc; omega⟩
      have hrn : rn ≤ 1114111 := by have := (isDoc_iff _).1 hdoc; omega
      have CE := Lib.hid (utfEncode_c rn w3 (HFT.out.1.below K3.out HFT.out.1.lt) hrn ((isR_iff _).2 (by have := (isDoc_iff _).1 hdoc; omega)))
      have HM3 := Lib.hid (h0.out.kept K3.out)
      have hel := encL_len rn
      have hnx : nx ≤ b.length := hn2
      have HEL := Lib.hid hel
      clear HC1 HC2 hdoc hn1 her hel
      go_wp2_with fail
      refine CE.out.mono ?_
      rintro e w4 ⟨g, rfl, hg, hgb, hb4⟩
      have HM4 := Lib.hid (HM3.out.kept hb4)
      obtain ⟨v, hBv, hv0⟩ := HM4.out.bld
      have hcx : ∀ j u, (Lib.byteCells (encL rn))[j]? = some u → w4.cell? ⟨g, 0 + j, none⟩ = some u := fun j u hu => by
        rw [Nat.zero_add, cell_of j hgb, List.getElem?_toArray]
        unfold Lib.byteCells at hu
        exact hu
      have hgm : g ≠ m := by
        obtain ⟨v3, hB3, _⟩ := HM3.out.bld
        obtain ⟨_, hB4, _⟩ := hB3.blk
        have := lt_of hB4
        omega
      have WR := Lib.hid (write_m m s (.map (some M)) deep v o (encL rn) g 0 (encL rn).length w4 hBv (by have := HEL.out; omega) hgm hcx)
      have HBV := Lib.hid hBv
      clear hg hgb hb4 hcx hBv hv0 hgm
      go_wp2_with fail
      refine WR.out.mono ?_
      rintro e w5 ⟨rfl, v', hB5, hF5, _⟩
      have HM5 := Lib.hid (HM4.out.put HBV.out hB5 (by intro e; have := HEL.out; rw [e] at this; simp at this) hF5)
      obtain ⟨q5, c5, z0, z1, zf, _, _, _⟩ := (HM5.out.frs _ List.mem_cons_self).cells
      have HM6 := Lib.hid (HM5.out.goto nx hnx)
      simp only at z1 zf HM6
      clear hB5 hF5 WR HBV
      go_wp2
      go_ret
      have h9 := HR2.out
      rw [if_neg (by simp), Int.toNat_natCast] at h9
      cases h9
      exact ⟨rfl, HM6.out.below, fun _ => ⟨0, HM6.out⟩⟩
  | false =>
    have hn := of_decide_eq_false HPE.out
    have HX1 := Lib.hid (refOut_nx b t)
    have hnl := refOut_len b t
    have hR : refS l deep (fr.length + 1) b t o = if (refOut 38 b t).2.2 ≠ 0 then ((refOut 38 b t).2.2, t, o, none) else if 0 < knownOf ⟨(refOut 38 b t).1.toArray⟩ then (0, (refOut 38 b t).2.1, o ++ [UInt8.ofNat (knownOf ⟨(refOut 38 b t).1.toArray⟩)], none)
        else match fndE l (refOut 38 b t).1 with
          | none => (7, t, o, none)
          | some x => if x.out = true then (7, t, o, none) else if deep < ((fr.length + 1 : Nat) : Int) then (11, t, o, none) else (0, (refOut 38 b t).2.1, o, some x.tx) := by unfold refS; rw [if_neg hn]; rfl
    rw [HRS.out] at hR
    have HR2 := Lib.hid hR
    clear hR HPE hn CC HRS
    generalize refOut 38 b t = R at *
    obtain ⟨nm, nx, er⟩ := R
    unfold outV at CN
    simp only at *
    have K2 := Lib.hid (Below.drew K1.out)
    obtain ⟨d0', d1'⟩ := CW.out _ K2.out
    clear d0 d1
    go_wp2_with fail
    go_region_held3 (fun w' => w'.cell? ⟨x, 0, none⟩ = some (.slice (some ⟨q, 0, none⟩) b.length c) ∧ w'.cell? ⟨x, 1, none⟩ = some (.int .i64 (t : Nat)) ∧ Hid (Below w.heap.size w w')) (first | exact ⟨by assumption, by assumption, by assumption⟩) (first
      | (go_at_call 69; refine (CN.out _ (Hid.out (by assumption))).mono ?_; rintro e w3 ⟨rfl, hb3⟩; have K3 := Lib.hid ((Hid.out (by assumption : Hid (Below w.heap.size w _))).trans (hb3.mono (Hid.out (by assumption : Hid (Below w.heap.size w _))).size)); have e0 := (CW.out _ K3.out).1; have e1 := (CW.out _ K3.out).2; clear hb3))
    by_cases her : er ≠ 0
    · have her2 : ((er : Nat) : Int) ≠ 0 := by omega
      have her3 : (((er : Nat) : Int) != 0) = true := by simpa using her
      go_wp2
      go_ret
      have h9 := HR2.out
      rw [if_pos her] at h9
      cases h9
      exact ⟨rfl, HB3.out _ K3.out, fun h => absurd h her⟩
    · have hr0 : er = 0 := by omega
      subst hr0
      obtain ⟨hn1, hn2, _⟩ := HX1.out rfl
      have HM3 := Lib.hid (h0.out.kept K3.out)
      obtain ⟨q5, c5, z0, z1, zf, _, _, _⟩ := (HM3.out.frs _ List.mem_cons_self).cells
      have HM4 := Lib.hid (HM3.out.goto nx hn2)
      simp only at z1 zf HM4
      clear HX1 hn1 her
      go_wp2_with fail
      generalize hw4 : w3.setCell ⟨x, 1, none⟩ (.int .i64 ((nx : Nat) : Int)) = w4 at *
      have CK := Lib.hid (crefKnown_c ⟨nm.toArray⟩ w4 (HFT.out.2.2 _ HM4.out.below))
      obtain ⟨kn, hkn⟩ : ∃ kn, knownOf ⟨nm.toArray⟩ = kn := ⟨_, rfl⟩
      have hk255 : kn ≤ 255 := by rw [← hkn]; exact known_le _
      have HKN := Lib.hid hkn
      rw [hkn] at CK
      clear hkn z0 z1 zf e0 e1 hw4
      unfold knownV at CK
      refine CK.out.mono ?_
      rintro e w5 ⟨rfl, hb5⟩
      have HM5 := Lib.hid (HM4.out.kept hb5)
      clear hb5 CK
      by_cases hk0 : 0 < kn
      · have hkd : decide (0 < kn) = true := decide_eq_true hk0
        rw [hkd]
        obtain ⟨v, hBv, hv0⟩ := HM5.out.bld
        have WR := writeByte_m m s (.map (some M)) deep v o (UInt8.ofNat kn) w5 hBv (by omega)
        rw [show (UInt8.ofNat kn).toNat = kn by exact UInt8.toNat_ofNat_of_lt' (by show kn < 256; omega)] at WR
        have WRH := Lib.hid WR
        have HBV := Lib.hid hBv
        clear WR hBv hv0 hkd
        go_wp2_with fail
        refine WRH.out.mono ?_
        rintro e w6 ⟨rfl, v', hB6, hF6, _⟩
        have HM6 := Lib.hid (HM5.out.put HBV.out hB6 (by simp) hF6)
        clear hB6 hF6 WRH HBV
        go_wp2
        go_ret
        have h9 := HR2.out
        rw [if_neg (by simp), HKN.out, if_pos hk0] at h9
        cases h9
        exact ⟨rfl, HM6.out.below, fun _ => ⟨0, HM6.out⟩⟩
      · have hkd : decide (0 < kn) = false := decide_eq_false hk0
        rw [hkd]
        have h9 := HR2.out
        rw [if_neg (by simp), HKN.out, if_neg hk0] at h9
        have hs9 : nm.length ≤ 9000000000000000000 := by omega
        cases hf : fndE l nm with
        | none =>
          rw [hf] at h9
          have CI := Lib.hid (into_no nm w5 HM5.out hs9 hf)
          have H9 := Lib.hid h9
          clear h9 hkd hf HR2
          go_wp2_with fail
          refine CI.out.mono ?_
          rintro e w6 ⟨rfl, hb6⟩
          have HM6 := Lib.hid (HM5.out.kept hb6)
          clear hb6 CI
          go_wp2
          go_ret
          cases H9.out
          exact ⟨rfl, HM6.out.below, fun h => by cases h⟩
        | some y =>
          rw [hf] at h9
          simp only at h9
          by_cases hyo : y.out = true
          · rw [if_pos hyo] at h9
            have CI := Lib.hid (into_out nm y w5 HM5.out hs9 hf hyo)
            have H9 := Lib.hid h9
            clear h9 hkd hf HR2 hyo
            go_wp2_with fail
            refine CI.out.mono ?_
            rintro e w6 ⟨rfl, hb6⟩
            have HM6 := Lib.hid (HM5.out.kept hb6)
            clear hb6 CI
            go_wp2
            go_ret
            cases H9.out
            exact ⟨rfl, HM6.out.below, fun h => by cases h⟩
          · rw [if_neg hyo] at h9
            have hyf : y.out = false := by simpa using hyo
            by_cases hdp : deep < ((fr.length + 1 : Nat) : Int)
            · rw [if_pos hdp] at h9
              have CI := Lib.hid (into_deep nm y w5 HM5.out hs9 hf hyf (by rw [List.length_cons]; exact hdp))
              have H9 := Lib.hid h9
              clear h9 hkd hf HR2 hyo hyf hdp
              go_wp2_with fail
              refine CI.out.mono ?_
              rintro e w6 ⟨rfl, hb6⟩
              have HM6 := Lib.hid (HM5.out.kept hb6)
              clear hb6 CI
              go_wp2
              go_ret
              cases H9.out
              exact ⟨rfl, HM6.out.below, fun h => by cases h⟩
            · rw [if_neg hdp] at h9
              have hyl : y ∈ l := by unfold fndE at hf; exact List.mem_of_find?_eq_some hf
              have CI := Lib.hid (into_ok nm y w5 HM5.out hs9 hf hyf (by rw [List.length_cons]; exact hdp) (by rw [List.length_cons]; omega) (HLX.out y hyl))
              have H9 := Lib.hid h9
              clear h9 hkd hf HR2 hyo hyf hdp hyl
              go_wp2_with fail
              refine CI.out.mono ?_
              rintro e w6 ⟨rfl, x', hM6⟩
              have HM6 := Lib.hid hM6
              clear hM6 CI
              go_wp2
              go_ret
              cases H9.out
              exact ⟨rfl, HM6.out.below, fun _ => ⟨x', HM6.out⟩⟩
end
end Go.Proofs.YtfemfgkcgboopaaGreatDoor
/- maker.run. -/
namespace Go.Proofs.YtfemfgkcgboopaaGreatDoor
open Go.ChangeShapes Go.WideShapes Go.ChangeAt Go.RowKit
set_option linter.unusedVariables false
theorem opn_map (x : Nat) (n : Option (List UInt8)) : (opnT x n).map Otx.p = (match n with | none => [] | some y => [(y, 0)]) := by cases n <;> rfl
section
variable {m s M B : Nat} {l : List EntT} {deep : Int} {w0 : World}
theorem pop_c {p : Otx} {r : List Otx} {o : List UInt8} {w : World} (h : MkS m s M B l deep (p :: r) o w0 w) : Calls Tryz.prog 46 #[.pointer (some ⟨s, 0, none⟩)] w fun e w' => e = .returned (.tuple #[.pointer (some ⟨p.x, 0, none⟩), .bool true]) ∧ MkS m s M B l deep r o w0 w' :=
  (tpop_some 1099511627776 p.x (r.map Otx.x) s w h.stk).mono fun e w' ⟨he, hs, hg⟩ => ⟨he, h.stack hs hg (fun p hp => h.frs p (List.mem_cons_of_mem _ hp)) (List.nodup_cons.1 h.apart).2⟩
set_option maxRecDepth 100000 in
set_option maxHeartbeats 16000000 in
/-- maker.run: what the run says. -/
theorem makerRun_c (f : Nat) (fr : List Otx) (o o2 : List UInt8) (e2 : Nat) (w : World) (h : MkS m s M B l deep fr o w0 w) (hB : B = w0.heap.size) (hF0 : Forms w0) (hT0 : Tabs w0) (hK0 : KnownT w0) (hlx : ∀ x ∈ l, x.tx.length ≤ 50000) (hr : runL l deep f (fr.map Otx.p) o = some (o2, e2)) :
    Calls Tryz.prog 26 #[.pointer (some ⟨m, 0, none⟩)] w fun e w' => e = .returned (.int .i64 (e2 : Nat)) ∧ Below B w0 w' ∧ (e2 = 0 → ∃ v, MkB m s (.map (some M)) deep v o2 w' ∧ (o2 = [] → v = .slice none 0 0)) := by
  have H0 := Lib.hid (And.intro hB (And.intro hF0 (And.intro hT0 (And.intro hK0 hlx))))
  have HS := Lib.hid h
  have HR := Lib.hid hr
  clear h hB hF0 hT0 hK0 hlx hr
  go_enter Tryz.func26, Tryz.ntmps26
  go_wp2_with fail
  go_step3
  go_wp2_with fail
  go_step3
  go_wp2_with fail
  go_loopg [3] (f) (fun g tv wr => ∃ (fr : List Otx) (o : List UInt8), Hid (MkS m s M B l deep fr o w0 wr) ∧ Hid (runL l deep g (fr.map Otx.p) o = some (o2, e2)))
  case atStart => exact ⟨fr, o, HS, HR⟩
  case round =>
    clear HS HR
    obtain ⟨fr, o, HS, HR⟩ := hrel
    obtain ⟨g', rfl⟩ : ∃ g', gk = g' + 1 := by
      cases gk with
      | zero => have := HR.out; cases this
      | succ g' => exact ⟨g', rfl⟩
    obtain ⟨c0, c1, c2⟩ := HS.out.cells
    cases fr with
    | nil =>
      have CT := Lib.hid (tattTop_none 1099511627776 s wr HS.out.stk)
      have hr2 := HR.out
      rw [List.map_nil, runL] at hr2
      simp only [Option.some.injEq, Prod.mk.injEq] at hr2
      obtain ⟨ro, re⟩ := hr2
      have HRO := Lib.hid (And.intro ro re)
      clear HR c0 c1 ro re
      go_wp2_with fail
      refine CT.out.mono ?_
      rintro e wq ⟨rfl, rfl⟩
      clear CT
      go_wp2
      (try simp only [Exit.noGoto_ret])
      go_ret
      obtain ⟨rfl, rfl⟩ := HRO.out
      exact ⟨rfl, HS.out.below, fun _ => HS.out.bld⟩
    | cons p r =>
      obtain ⟨q, cp, z0, z1, zf, hby, ht, hb⟩ := (HS.out.frs p List.mem_cons_self).cells
      have CT := Lib.hid (tattTop_some 1099511627776 p.x (r.map Otx.x) s wr HS.out.stk)
      have hrun := HR.out
      rw [List.map_cons, show Otx.p p = (p.b, p.t) from rfl, runL] at hrun
      by_cases hbig : 1000000 < o.length ∨ 1000 < (r.map Otx.p).length
      · rw [if_pos hbig] at hrun; cases hrun
      rw [if_neg hbig, List.length_map] at hrun
      rw [List.length_map] at hbig
      obtain ⟨x, b, t⟩ := p
      simp only at *
      have hxl := World.block_lt_of_cell? wr _ z0
      have hBl : B ≤ wr.heap.size := by
        have := HS.out.ge.2.1
        have := HS.out.stk.lt
        omega
      have HQ0 : Hid (Below wr.heap.size wr wr) := Lib.hid (Below.refl _ _)
      by_cases htb : t < b.length
      · obtain ⟨q', o', c, eA, hq', hc, hcell⟩ := hby.cell htb
        cases eA
        have CW : Hid (∀ W, Below wr.heap.size wr W → W.cell? ⟨x, 0, none⟩ = some (.slice (some ⟨q, 0, none⟩) b.length cp) ∧ W.cell? ⟨x, 1, none⟩ = some (.int .i64 (t : Nat)) ∧ W.cell? ⟨q, t, none⟩ = some (.int .u8 (c.toNat : Nat))) := Lib.hid fun W hW => ⟨(hW.cell hxl).trans z0, (hW.cell (p := ⟨x, 1, none⟩) hxl).trans z1, (hW.cell (p := ⟨q, t, none⟩) hq').trans (by rw [← hcell, Nat.zero_add])⟩
        obtain ⟨_, _, zc⟩ := CW.out _ HQ0.out
        rw [hc] at hrun
        simp only at hrun
        have hti : (t : Int) < (b.length : Int) := by omega
        have ht0 : (0 : Int) ≤ (t : Int) := by omega
        have hte : (((t : Nat) : Int) == (b.length : Int)) = false := by
          have : ¬ ((t : Int) = (b.length : Int)) := by omega
          simpa using this
        have HRUN := Lib.hid hrun
        clear HR hby hcell hq' hrun hxl
        by_cases h60 : c = 60
        · have hb60 : (((c.toNat : Nat) : Int) == 60) = true := by rw [h60]; rfl
          have H60 := Lib.hid h60
          clear h60
          generalize (c.toNat : Int) = cn at *
          go_wp2_with fail
          refine CT.out.mono ?_
          rintro e wq ⟨rfl, rfl⟩
          clear CT
          go_wp2_with fail
          go_quiet (fail)
          have HQ1 : Hid (Below wr.heap.size wr (wr.drewN nq)) := Lib.hid (below_drewN' HQ0.out)
          clear z0 z1 zc
          obtain ⟨z0, z1, zc⟩ := CW.out _ HQ1.out
          clear HQ0
          generalize wr.drewN nq = W1 at *
          go_wp2_with fail
          go_quiet (fail)
          have HQ2 : Hid (Below wr.heap.size wr (W1.drewN nq)) := Lib.hid (below_drewN' HQ1.out)
          clear z0 z1 zc
          obtain ⟨z0, z1, zc⟩ := CW.out _ HQ2.out
          clear HQ1
          generalize W1.drewN nq = W2 at *
          go_wp2_with fail
          (try simp only [Exit.noGoto_ret])
          go_ret
          have h9 := HRUN.out
          rw [if_pos H60.out] at h9
          cases h9
          exact ⟨rfl, HS.out.below.trans (HQ2.out.mono hBl), fun h => by cases h⟩
        · have hb60 : (((c.toNat : Nat) : Int) == 60) = false := ne_byte c 60 60 rfl h60
          have hr6 := HRUN.out
          rw [if_neg h60] at hr6
          by_cases h38 : c = 38
          · have hb38 : (((c.toNat : Nat) : Int) == 38) = true := by rw [h38]; rfl
            rw [if_pos h38] at hr6
            have H6 := Lib.hid hr6
            clear h60 h38 HRUN hr6
            generalize (c.toNat : Int) = cn at *
            go_wp2_with fail
            refine CT.out.mono ?_
            rintro e wq ⟨rfl, rfl⟩
            clear CT
            go_wp2_with fail
            go_quiet (fail)
            have HQ1 : Hid (Below wr.heap.size wr (wr.drewN nq)) := Lib.hid (below_drewN' HQ0.out)
            clear z0 z1 zc
            obtain ⟨z0, z1, zc⟩ := CW.out _ HQ1.out
            clear HQ0
            generalize wr.drewN nq = W1 at *
            go_wp2_with fail
            go_quiet (fail)
            have HQ2 : Hid (Below wr.heap.size wr (W1.drewN nq)) := Lib.hid (below_drewN' HQ1.out)
            clear z0 z1 zc
            obtain ⟨z0, z1, zc⟩ := CW.out _ HQ2.out
            clear HQ1
            generalize W1.drewN nq = W2 at *
            go_wp2_with fail
            go_quiet (fail)
            have HQ3 : Hid (Below wr.heap.size wr (W2.drewN nq)) := Lib.hid (below_drewN' HQ2.out)
            clear z0 z1 zc
            obtain ⟨z0, z1, zc⟩ := CW.out _ HQ3.out
            clear HQ2
            generalize W2.drewN nq = W3 at *
            have HM3 := Lib.hid (HS.out.kept HQ3.out)
            have CR := Lib.hid (makerRef_c ⟨x, b, t⟩ W3 HM3.out H0.out.1 H0.out.2.1 H0.out.2.2.1 H0.out.2.2.2.1 (by omega) (by omega) H0.out.2.2.2.2)
            simp only at CR
            generalize refS l deep (r.length + 1) b t o = RS at *
            obtain ⟨er, tn, on, nn⟩ := RS
            simp only at *
            by_cases her : er ≠ 0
            · have her2 : ((er : Nat) : Int) ≠ 0 := by omega
              have her3 : (((er : Nat) : Int) != 0) = true := by simpa using her
              go_wp2_with fail
              refine CR.out.mono ?_
              rintro e w5 ⟨rfl, hB5, _⟩
              have HB5 := Lib.hid hB5
              clear hB5 CR
              go_wp2_with fail
              (try simp only [Exit.noGoto_ret])
              go_ret
              have h9 := H6.out
              rw [if_pos her] at h9
              cases h9
              exact ⟨rfl, HB5.out, fun h => absurd h her⟩
            · have hr0 : er = 0 := by omega
              subst hr0
              go_wp2_with fail
              refine CR.out.mono ?_
              rintro e w5 ⟨rfl, _, hM5⟩
              obtain ⟨x', hM5⟩ := hM5 trivial
              have HM5 := Lib.hid hM5
              have h9 := H6.out
              rw [if_neg (by simp)] at h9
              have H9 : Hid (runL l deep g' ((opnT x' nn ++ ⟨x, b, tn⟩ :: r).map Otx.p) on = some (o2, e2)) := Lib.hid (by
                rw [List.map_append, opn_map]
                exact h9)
              clear hM5 CR h9 H6
              go_wp2_with fail
              go_roundg g'
              case measure => omega
              case rel => exact ⟨_, on, HM5, H9⟩
          · have hb38 : (((c.toNat : Nat) : Int) == 38) = false := ne_byte c 38 38 rfl h38
            rw [if_neg h38] at hr6
            have H6 := Lib.hid hr6
            have hc0 : (0 : Int) ≤ (c.toNat : Int) := by omega
            have hc9 : (c.toNat : Int) ≤ 255 := by have := UInt8.toNat_lt c; omega
            have CB := fun W => blank_c (c.toNat : Int) W
            rw [show isBlank (c.toNat : Int) = isBl c from rfl] at CB
            have HCB := Lib.hid CB
            clear h60 h38 HRUN hr6 CB
            have HW32 : Hid ((if isBl c = true then (32 : UInt8) else c) = if isBl c = true then 32 else c) := Lib.hid rfl
            go_wp2_with fail
            refine CT.out.mono ?_
            rintro e wq ⟨rfl, rfl⟩
            clear CT
            go_wp2_with fail
            go_quiet (fail)
            have HQ1 : Hid (Below wr.heap.size wr (wr.drewN nq)) := Lib.hid (below_drewN' HQ0.out)
            clear z0 z1 zc
            obtain ⟨z0, z1, zc⟩ := CW.out _ HQ1.out
            clear HQ0
            generalize wr.drewN nq = W1 at *
            go_wp2_with fail
            go_quiet (fail)
            have HQ2 : Hid (Below wr.heap.size wr (W1.drewN nq)) := Lib.hid (below_drewN' HQ1.out)
            clear z0 z1 zc
            obtain ⟨z0, z1, zc⟩ := CW.out _ HQ2.out
            clear HQ1
            generalize W1.drewN nq = W2 at *
            go_wp2_with fail
            go_quiet (fail)
            have HQ3 : Hid (Below wr.heap.size wr (W2.drewN nq)) := Lib.hid (below_drewN' HQ2.out)
            clear z0 z1 zc
            obtain ⟨z0, z1, zc⟩ := CW.out _ HQ3.out
            clear HQ2
            generalize W2.drewN nq = W3 at *
            go_wp2_with fail
            go_quiet (fail)
            have HQ4 : Hid (Below wr.heap.size wr (W3.drewN nq)) := Lib.hid (below_drewN' HQ3.out)
            clear z0 z1 zc
            obtain ⟨z0, z1, zc⟩ := CW.out _ HQ4.out
            clear HQ3
            generalize W3.drewN nq = W4 at *
            have HM4 := Lib.hid (HS.out.kept HQ4.out)
            obtain ⟨v, hBv, hv0⟩ := HM4.out.bld
            have WR := Lib.hid fun d => writeByte_m m s (.map (some M)) deep v o d W4 hBv (by omega)
            have HBV := Lib.hid hBv
            clear hBv hv0
            cases hbl : isBl c with
            | true =>
              rw [hbl] at HCB H6
              rw [if_pos rfl] at H6
              have WR1 := WR.out 32
              rw [show (((32 : UInt8).toNat : Nat) : Int) = 32 from rfl] at WR1
              have WRX := Lib.hid WR1
              clear WR WR1 hbl
              generalize (c.toNat : Int) = cn at *
              go_wp2_with fail
              refine (HCB.out _).mono ?_
              rintro e w5 ⟨rfl, rfl⟩
              go_wp2_with fail
              refine (WRX.out).mono ?_
              rintro e w6 ⟨rfl, v', hB6, hF6, _⟩
              have HM6 := Lib.hid (HM4.out.put HBV.out hB6 (by simp) hF6)
              clear hB6 hF6 WRX HBV
              obtain ⟨_, _, _, y1, yf, _, _, _⟩ := (HM6.out.frs _ List.mem_cons_self).cells
              simp only at y1 yf
              have HM7 := Lib.hid (HM6.out.goto (t + 1) (by simp only; omega))
              rw [show (((t + 1 : Nat) : Nat) : Int) = (t : Int) + 1 by omega] at HM7
              have ht9 : (t : Int) ≤ 50000 := by omega
              go_wp2
              go_roundg g'
              case measure => omega
              case rel => exact ⟨⟨x, b, t + 1⟩ :: r, o ++ [32], HM7, H6⟩
            | false =>
              rw [hbl] at HCB H6
              rw [if_neg (by simp)] at H6
              have WRX := Lib.hid (WR.out c)
              clear WR hbl
              generalize (c.toNat : Int) = cn at *
              go_wp2_with fail
              refine (HCB.out _).mono ?_
              rintro e w5 ⟨rfl, rfl⟩
              go_wp2_with fail
              refine (WRX.out).mono ?_
              rintro e w6 ⟨rfl, v', hB6, hF6, _⟩
              have HM6 := Lib.hid (HM4.out.put HBV.out hB6 (by simp) hF6)
              clear hB6 hF6 WRX HBV
              obtain ⟨_, _, _, y1, yf, _, _, _⟩ := (HM6.out.frs _ List.mem_cons_self).cells
              simp only at y1 yf
              have HM7 := Lib.hid (HM6.out.goto (t + 1) (by simp only; omega))
              rw [show (((t + 1 : Nat) : Nat) : Int) = (t : Int) + 1 by omega] at HM7
              have ht9 : (t : Int) ≤ 50000 := by omega
              go_wp2
              go_roundg g'
              case measure => omega
              case rel => exact ⟨⟨x, b, t + 1⟩ :: r, o ++ [c], HM7, H6⟩
      · have htl : t = b.length := by omega
        have CW : Hid (∀ W, Below wr.heap.size wr W → W.cell? ⟨x, 0, none⟩ = some (.slice (some ⟨q, 0, none⟩) b.length cp) ∧ W.cell? ⟨x, 1, none⟩ = some (.int .i64 (t : Nat))) := Lib.hid fun W hW => ⟨(hW.cell hxl).trans z0, (hW.cell (p := ⟨x, 1, none⟩) hxl).trans z1⟩
        rw [List.getElem?_eq_none (by omega)] at hrun
        simp only at hrun
        have hte : (((t : Nat) : Int) == (b.length : Int)) = true := by
          have : ((t : Int) = (b.length : Int)) := by omega
          simpa using this
        have HRUN := Lib.hid hrun
        clear HR hby hrun hxl htl htb
        go_wp2_with fail
        refine CT.out.mono ?_
        rintro e wq ⟨rfl, rfl⟩
        clear CT
        go_wp2_with fail
        go_quiet (fail)
        have HQ1 : Hid (Below wr.heap.size wr (wr.drewN nq)) := Lib.hid (below_drewN' HQ0.out)
        clear z0 z1
        obtain ⟨z0, z1⟩ := CW.out _ HQ1.out
        clear HQ0
        generalize wr.drewN nq = W1 at *
        have HSq := Lib.hid (HS.out.kept HQ1.out)
        have d2 := HSq.out.cells.2.2
        clear c0 c1 c2
        go_wp2_with fail
        refine (pop_c HSq.out).mono ?_
        rintro e w5 ⟨rfl, hM5⟩
        have HM5 := Lib.hid hM5
        clear hM5
        go_wp2
        go_roundg g'
        case measure => omega
        case rel => exact ⟨r, o, HM5, HRUN⟩
end
end Go.Proofs.YtfemfgkcgboopaaGreatDoor
