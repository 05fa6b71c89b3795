/- Texts of ours, joined: AtK, AtU, AtL, AtM, MiscP, Tag0, AtN. -/
import Derived.Test.YtbfdomipkfbaeaaDoorRows
import Derived.WalkKit
import Derived.ProofKit
import Derived.OpenShut
import Derived.ShutString
import Derived.ChangeOld
import Derived.Below
import Derived.BigQuiet
import Derived.Deep.QuietTactic
import Derived.Lib.Hide
import Derived.Deep.RegionHeld3
import Derived.Lib.SlBytesConst
import Derived.Laws.CopyOwn
import Derived.Laws.CopyRow
import Derived.Lib.Bytes
import Derived.Deep.LoopGhost
import Derived.Deep.DeepFit
import Derived.Deep.DeepMust
import Derived.WalkSpells
import Derived.WalkLawsBesides
import Derived.Laws.EntriesVeiled
import Derived.Laws.Rows
import Derived.Laws.World
import Derived.Laws.IdiomCopy
import Derived.Lib.SliceRun
import Derived.Lib.SlTrimSet
import Derived.Test.YtbfdomipkfbaeaaDoorA1
import Derived.Test.YtbfdomipkfbaeaaDoorA6
import Derived.Maps.OwnOps
import Derived.Maps.AppendAt
import Derived.Deep.AppendLies
import Derived.Deep.RegionLaw
import Derived.Test.YtbfdomipkfbaeaaDoorA2
import Derived.Test.YtbfdomipkfbaeaaDoorA3
import Derived.Test.YtbfdomipkfbaeaaDoorA4
import Derived.Lib.IndexMore
import Derived.Lib.IndexLaws
/- slices.CompactFunc of bytes. -/
namespace Go.Proofs.YtbfdomipkfbaeaaDoor
open Go.ChangeShapes Go.WideShapes Go.ChangeAt Go.RowKit
set_option linter.unusedVariables false
theorem belowRow {B : Nat} {a : World} (b : Nat) (hb : B ≤ b) : ∀ (vs : List Value) (o : Nat) {w : World}, Below B a w → Below B a (w.setCells b o vs)
  | [], _, _, h => h
  | v :: r, o, _, h => belowRow b hb r (o + 1) (h.setCell (p := ⟨b, o, none⟩) hb v)
set_option maxRecDepth 100000 in
set_option maxHeartbeats 4000000 in
theorem eqT_c (c d : UInt8) (w : World) : Calls Tryd.prog 47 #[.int .u8 (c.toNat : Int), .int .u8 (d.toNat : Int)] w fun e w' => e = .returned (.bool (decide (c = 32) && decide (d = 32))) ∧ w' = w := by
  have hc0 : (0 : Int) ≤ (c.toNat : Int) := by omega
  have hd0 : (0 : Int) ≤ (d.toNat : Int) := by omega
  by_cases hc : c = 32
  · have hcd : (c.toNat : Int) = 32 := by subst hc; rfl
    rw [hcd, decide_eq_true hc]
    by_cases hd : d = 32
    · have hdd : (d.toNat : Int) = 32 := by subst hd; rfl
      rw [hdd, decide_eq_true hd]
      go_enter Tryd.func47, Tryd.ntmps47
      go_wp2
      go_ret
      exact ⟨rfl, rfl⟩
    · have hdd : ((d.toNat : Int) == 32) = false := ne_byte d 32 32 rfl hd
      rw [decide_eq_false hd]
      go_enter Tryd.func47, Tryd.ntmps47
      go_wp2
      go_ret
      exact ⟨rfl, rfl⟩
  · have hcd : ((c.toNat : Int) == 32) = false := ne_byte c 32 32 rfl hc
    rw [decide_eq_false hc, Bool.false_and]
    go_enter Tryd.func47, Tryd.ntmps47
    go_wp2
    go_ret
    exact ⟨rfl, rfl⟩
theorem BytM.cellB {w : World} {b off : Nat} {l : List UInt8} (h : BytM w b off l) {j p : Nat} {x : UInt8} (hj : l[j]? = some x) (hp : off + j = p) : w.cell? ⟨b, p, none⟩ = some (.int .u8 (x.toNat : Int)) := by
  subst hp
  exact (h j x hj).1
theorem BytM.free {w : World} {b off : Nat} {l : List UInt8} (h : BytM w b off l) {j p : Nat} (hj : j < l.length) (hp : off + j = p) : w.frozen? ⟨b, p, none⟩ = false := by
  subst hp
  exact (h j _ (List.getElem?_eq_getElem hj)).2
theorem get_some {l : List UInt8} {j : Nat} (h : j < l.length) : ∃ c, l[j]? = some c := ⟨_, List.getElem?_eq_getElem h⟩
set_option maxRecDepth 100000 in
set_option maxHeartbeats 8000000 in
theorem compact_c (b off cap n : Nat) (l : List UInt8) (w : World) (h : BytM w b off l) (hn : l.length = n) (hm : n ≤ 100000) (hcap : n ≤ cap) :
    Calls Tryd.prog 46 #[.slice (some ⟨b, off, none⟩) n cap, .func (.func 47) #[] #[]] w fun e w' => e = .returned (.slice (some ⟨b, off, none⟩) (compW false l).length cap) ∧ BytM w' b off (compW false l) ∧ ∀ B, B ≤ b → Below B w w' := by
  have HB0 := Lib.hid h
  have HN := Lib.hid hn
  have hnn : (n : Int) ≤ 100000 := by omega
  by_cases h2 : n < 2
  · have h2i : (n : Int) < 2 := by omega
    have hl : compW false l = l := by
      match l, hn with
      | [], _ => rfl
      | [c], _ => exact comp_one (l := [c]) rfl
      | a :: c :: t, h => simp at h; omega
    rw [hl, hn]
    clear h hn hl h2
    go_enter Tryd.func46, Tryd.ntmps46
    go_wp2
    go_ret
    exact ⟨rfl, HB0.out, fun B _ => Below.refl _ _⟩
  · have h2i : ¬ (n : Int) < 2 := by omega
    have CE := Lib.hid eqT_c
    have HL1 : Hid (compW false (l.take 1) = l.take 1) := Lib.hid (by
      obtain ⟨c, hc⟩ := get_some (l := l) (j := 0) (by omega)
      rw [comp_one hc, List.take_add_one, hc]
      rfl)
    clear h hn
    go_enter Tryd.func46, Tryd.ntmps46
    go_wp2
    go_loopg [5] (n - 1) (fun g s wr => ∃ k : Nat, s = .int .i64 (k : Int) ∧ 1 ≤ k ∧ k ≤ n ∧ g = n - k ∧ Hid (BytM wr b off l) ∧ Hid (∀ B, B ≤ b → Below B w wr) ∧ Hid (compW false (l.take k) = l.take k))
    case atStart => exact ⟨1, rfl, Nat.le_refl _, by omega, by omega, HB0, Lib.hid (fun B _ => Below.refl _ _), HL1⟩
    case round =>
      obtain ⟨k, rfl, hk1, hk, hg, HB, HW, HC⟩ := hrel
      by_cases hkn : k < n
      · obtain ⟨m, rfl⟩ : ∃ m, k = m + 1 := ⟨k - 1, by omega⟩
        obtain ⟨c, hc⟩ := get_some (l := l) (j := m + 1) (by rw [HN.out]; exact hkn)
        obtain ⟨d, hd⟩ := get_some (l := l) (j := m) (by rw [HN.out]; omega)
        have z1 : wr.cell? ⟨b, off + (m + 1), none⟩ = some (.int .u8 (c.toNat : Int)) := HB.out.cellB hc rfl
        have z0 : wr.cell? ⟨b, off + m, none⟩ = some (.int .u8 (d.toNat : Int)) := HB.out.cellB hd rfl
        have e1 : ((m + 1 : Nat) : Int) - 1 = (m : Int) := by omega
        have i1 : ((m + 1 : Nat) : Int) < (n : Int) := by omega
        have i0 : (m : Int) < (n : Int) := by omega
        have i2 : (0 : Int) ≤ (m : Int) := by omega
        have i3 : (0 : Int) ≤ ((m + 1 : Nat) : Int) := by omega
        have CE1 : Hid (∀ q : Nat, Calls Tryd.prog 47 #[.int .u8 (c.toNat : Int), .int .u8 (d.toNat : Int)] (wr.drewN q) fun e w' => e = .returned (.bool (decide (c = 32) && decide (d = 32))) ∧ w' = wr.drewN q) := Lib.hid fun q => CE.out c d _
        have HC1 := Lib.hid hc
        have HD1 := Lib.hid hd
        clear hc hd
        cases hdup : (decide (c = 32) && decide (d = 32)) with
        | false =>
          rw [hdup] at CE1
          have HK : Hid (compW false (l.take (m + 1 + 1)) = l.take (m + 1 + 1)) := Lib.hid (by
            rw [comp_take HD1.out HC1.out, hdup, HC.out]
            have : l.take (m + 1 + 1) = l.take (m + 1) ++ [c] := by rw [List.take_add_one, HC1.out]; rfl
            rw [this]
            rfl)
          clear hdup
          go_wp2_with fail
          go_quiet ((go_at_call 47; exact Calls.quiet_of_same (CE1.out _)))
          go_wp2
          go_roundg (n - (m + 1 + 1))
          case measure => omega
          case rel => exact ⟨m + 1 + 1, by go_num, by omega, by omega, by omega, Lib.hid HB.out, Lib.hid (fun B hB => (HW.out B hB).trans (below_drewN' (n := nq) (Below.refl _ _))), HK⟩
        | true =>
          rw [hdup] at CE1
          have HI0 : Hid (CmpI l l (m + 1 + 1) (m + 1)) := Lib.hid (CmpI.start (by omega) HC.out (by simpa using HD1.out) HC1.out hdup)
          have hcm : ¬ cap = m + 1 := by omega
          clear hdup
          go_wp2_with fail
          go_quiet ((go_at_call 47; exact Calls.quiet_of_same (CE1.out _)))
          have HB1 : Hid (BytM (wr.drewN nq) b off l) := Lib.hid HB.out
          have HW1 : Hid (∀ B, B ≤ b → Below B w (wr.drewN nq)) := Lib.hid (fun B hB => (HW.out B hB).trans (below_drewN' (n := nq) (Below.refl _ _)))
          clear z0 z1 CE1 HB HW
          generalize wr.drewN nq = wv at *
          have hms : ((n - (m + 1) : Nat) : Int) = (n : Int) - ((m + 1 : Nat) : Int) := by omega
          go_wp2
          go_loopg [5, 7] (n - (m + 1 + 1)) (fun g s5 s7 wz => ∃ (kk q : Nat) (cur : List UInt8), s5 = .int .i64 (kk : Int) ∧ s7 = .int .i64 ((q + 1 : Nat) : Int) ∧ m + 1 + (q + 1) ≤ n ∧ g = n - (m + 1 + (q + 1)) ∧ Hid (CmpI l cur (m + 1 + q + 1) kk) ∧ Hid (BytM wz b off cur) ∧ Hid (∀ B, B ≤ b → Below B w wz))
          case atStart => exact ⟨m + 1, 0, l, rfl, rfl, by omega, by omega, HI0, HB1, HW1⟩
          case round =>
            obtain ⟨kk, q, cur, rfl, rfl, hle, hg2, HI, HBz, HWz⟩ := hrel
            have hkk := HI.out.le
            have hcl := HI.out.len
            have k0 : (0 : Int) ≤ (kk : Int) := by omega
            have k1 : (kk : Int) < (n : Int) := by omega
            have q0 : (0 : Int) ≤ (q : Int) := by omega
            have q1 : (0 : Int) ≤ ((q + 1 : Nat) : Int) := by omega
            have q2 : ((q + 1 : Nat) : Int) - 1 = (q : Int) := by omega
            have q3 : (q : Int) < ((n - (m + 1) : Nat) : Int) := by omega
            by_cases hlt : m + 1 + (q + 1) < n
            · have q4 : ((q + 1 : Nat) : Int) < ((n - (m + 1) : Nat) : Int) := by omega
              obtain ⟨c, hc⟩ := get_some (l := l) (j := m + 1 + q + 1) (by rw [HN.out]; omega)
              obtain ⟨d, hd⟩ := get_some (l := l) (j := m + 1 + q) (by rw [HN.out]; omega)
              have z1 : wr.cell? ⟨b, off + (m + 1) + (q + 1), none⟩ = some (.int .u8 (c.toNat : Int)) := HBz.out.cellB ((HI.out.rest _ (by omega)).trans hc) (by omega)
              have z0 : wr.cell? ⟨b, off + (m + 1) + q, none⟩ = some (.int .u8 (d.toNat : Int)) := HBz.out.cellB ((HI.out.rest _ (by omega)).trans hd) (by omega)
              obtain ⟨o, ho⟩ := get_some (l := cur) (j := kk) (by rw [hcl, HN.out]; omega)
              have zk : wr.cell? ⟨b, off + kk, none⟩ = some (.int .u8 (o.toNat : Int)) := HBz.out.cellB ho rfl
              have fk : wr.frozen? ⟨b, off + kk, none⟩ = false := HBz.out.free (by rw [hcl, HN.out]; omega) rfl
              have CE1 : Hid (∀ q : Nat, Calls Tryd.prog 47 #[.int .u8 (c.toNat : Int), .int .u8 (d.toNat : Int)] (wr.drewN q) fun e w' => e = .returned (.bool (decide (c = 32) && decide (d = 32))) ∧ w' = wr.drewN q) := Lib.hid fun q => CE.out c d _
              have HC1 := Lib.hid hc
              have HD1 := Lib.hid hd
              have HKL : Hid (kk < cur.length) := Lib.hid (by rw [hcl, HN.out]; omega)
              clear hc hd ho
              cases hdup : (decide (c = 32) && decide (d = 32)) with
              | true =>
                rw [hdup] at CE1
                have HI2 := Lib.hid (HI.out.skip HD1.out HC1.out hdup)
                clear hdup
                go_wp2_with fail
                go_quiet ((go_at_call 47; exact Calls.quiet_of_same (CE1.out _)))
                go_wp2
                go_roundg (n - (m + 1 + (q + 1 + 1)))
                case measure => omega
                case rel => exact ⟨kk, q + 1, cur, rfl, by go_num, by omega, by omega, Lib.hid HI2.out, Lib.hid HBz.out, Lib.hid (fun B hB => (HWz.out B hB).trans (below_drewN' (n := nq) (Below.refl _ _)))⟩
              | false =>
                rw [hdup] at CE1
                have HI2 := Lib.hid (HI.out.keepS HD1.out HC1.out hdup)
                clear hdup
                go_wp2_with fail
                go_quiet ((go_at_call 47; exact Calls.quiet_of_same (CE1.out _)))
                have HB2 : Hid (BytM (wr.drewN nq) b off cur) := Lib.hid HBz.out
                have HW2 : Hid (∀ B, B ≤ b → Below B w (wr.drewN nq)) := Lib.hid (fun B hB => (HWz.out B hB).trans (below_drewN' (n := nq) (Below.refl _ _)))
                have z1' : (wr.drewN nq).cell? ⟨b, off + (m + 1) + (q + 1), none⟩ = some (.int .u8 (c.toNat : Int)) := z1
                have zk' : (wr.drewN nq).cell? ⟨b, off + kk, none⟩ = some (.int .u8 (o.toNat : Int)) := zk
                have fk' : (wr.drewN nq).frozen? ⟨b, off + kk, none⟩ = false := fk
                clear z0 z1 zk fk CE1 HBz HWz
                generalize wr.drewN nq = wy at *
                go_wp2
                go_roundg (n - (m + 1 + (q + 1 + 1)))
                case measure => omega
                case rel => exact ⟨kk + 1, q + 1, cur.set kk c, by go_num, by go_num, by omega, by omega, Lib.hid HI2.out, Lib.hid (HB2.out.set HKL.out c), Lib.hid (fun B hB => (HW2.out B hB).setCell (by exact hB) _)⟩
            · have q4 : ¬ ((q + 1 : Nat) : Int) < ((n - (m + 1) : Nat) : Int) := by omega
              have hck : ¬ cap = kk := by omega
              have hend : m + 1 + q + 1 = n := by omega
              have hpre := HI.out.pre
              have hcnt := HI.out.cnt
              rw [hend, show l.take n = l by rw [List.take_of_length_le (by rw [HN.out]; exact Nat.le_refl _)]] at hpre hcnt
              have hcl2 : ∀ ty, (Builtin.clear_ #[63] ty #[.slice (some ⟨b, off + kk, none⟩) (n - kk) (cap - kk)]).run Tryd.prog wr = .ok (.tuple #[]) (wr.setCells b (off + kk) (List.replicate (n - kk) (.int .u8 0))) := fun ty => Lib.run_clear_slice wr _ _ ty _ Tryd.underlying63 (fun _ => rfl) rfl rfl b (off + kk) _ _ (by omega) (fun j hj => by
                obtain ⟨o, ho⟩ := get_some (l := cur) (j := kk + j) (by rw [hcl, HN.out]; omega)
                rw [HBz.out.cellB ho (by omega)]
                rfl) (fun j hj => HBz.out.free (j := kk + j) (by rw [hcl, HN.out]; omega) (by omega))
              have HF : Hid (BytM (wr.setCells b (off + kk) (List.replicate (n - kk) (.int .u8 0))) b off (compW false l) ∧ ∀ B, B ≤ b → Below B w (wr.setCells b (off + kk) (List.replicate (n - kk) (.int .u8 0)))) := Lib.hid ⟨fun j x hj => by
                have hjk : j < kk := by rw [hcnt]; exact (List.getElem?_eq_some_iff.1 hj).1
                rw [← hpre, List.getElem?_take_of_lt hjk] at hj
                have := HBz.out j x hj
                exact ⟨(World.cell?_setCells_out b _ _ _ _ (fun _ _ => .inl (by simp; omega))).trans this.1, (World.frozen?_setCells b _ _ _ _).trans this.2⟩, fun B hB => belowRow b hB _ _ (HWz.out B hB)⟩
              have HKC : Hid ((compW false l).length = kk) := Lib.hid hcnt.symm
              clear hpre hcnt hcl
              go_wp2
              go_ret
              exact ⟨by rw [HKC.out]; rfl, HF.out.1, HF.out.2⟩
      · have hkn' : ¬ (k : Int) < (n : Int) := by omega
        have hc := HC.out
        rw [List.take_of_length_le (by rw [HN.out]; omega)] at hc
        have HKC : Hid (compW false l = l) := Lib.hid hc
        clear hc
        go_wp2
        go_ret
        exact ⟨by rw [HKC.out, HN.out]; rfl, by rw [HKC.out]; exact HB.out, HW.out⟩
end Go.Proofs.YtbfdomipkfbaeaaDoor
/- atype.Trim. -/
namespace Go.Proofs.YtbfdomipkfbaeaaDoor
open Go.ChangeShapes Go.WideShapes Go.ChangeAt Go.RowKit
set_option linter.unusedVariables false
theorem bytM_new (w : World) (l : List UInt8) (hl : l.length ≤ 1000000) : BytM (Lib.bytesWorld w 5 ⟨l.toArray⟩) w.heap.size 0 l := fun j x hj => by
  have hsz : (⟨l.toArray⟩ : ByteArray).size = l.length := by simp [ByteArray.size]
  have hjl := (List.getElem?_eq_some_iff.1 hj).1
  refine ⟨?_, ?_⟩
  · have hb := (byt_new w l hl).at_ (by
      have := (byt_new w l hl).le
      omega)
    obtain ⟨b, o, e, _, hc⟩ := hb
    cases e
    exact hc j (bv x) (by rw [List.getElem?_map, hj]; rfl)
  · have hsl : j < (Lib.bytesCells w 5 ⟨l.toArray⟩).size := by
      unfold Lib.bytesCells
      rw [Array.size_append, Array.size_map]
      have h3 : (⟨l.toArray⟩ : ByteArray).data.size = l.length := by simp
      rw [h3]
      omega
    simp only [World.frozen?, Lib.bytesWorld_at_new]
    simp
    omega
set_option maxRecDepth 100000 in
set_option maxHeartbeats 4000000 in
theorem compact_nil (w : World) : Calls Tryd.prog 46 #[.slice none 0 0, .func (.func 47) #[] #[]] w fun e w' => e = .returned (.slice none 0 0) ∧ w' = w := by
  go_enter Tryd.func46, Tryd.ntmps46
  go_wp2
  go_ret
  exact ⟨rfl, rfl⟩
set_option maxRecDepth 100000 in
set_option maxHeartbeats 4000000 in
theorem atTrim_c (k : Int) (s : List UInt8) (w : World) (hm : s.length ≤ 100000) :
    Calls Tryd.prog 21 #[.int .i64 k, .string ⟨s.toArray⟩] w fun e w' => e = .returned (.string ⟨(trimK k s).toArray⟩) ∧ Below w.heap.size w w' := by
  unfold trimK
  by_cases hk : k = 1
  · rw [if_pos hk]
    subst hk
    clear hm
    go_enter Tryd.func21, Tryd.ntmps21
    go_wp2
    go_ret
    exact ⟨rfl, Below.refl _ _⟩
  · rw [if_neg hk]
    have hkb : (k == 1) = false := by simpa using hk
    have cv := run_toBytes w s
    have hby := byt_new w s (by omega)
    have hbm := bytM_new w s (by omega)
    have hb1 := Lib.bytesWorld_below w 5 ⟨s.toArray⟩
    have hs1 : (Lib.bytesWorld w 5 ⟨s.toArray⟩).heap.size = w.heap.size + 1 := Lib.bytesWorld_size _ _ _
    obtain ⟨V, hV⟩ : ∃ V, Lib.bytesWorld w 5 ⟨s.toArray⟩ = V := ⟨_, rfl⟩
    rw [hV] at cv hby hbm hb1 hs1
    have hle := hby.le
    have hfit := hby.fit
    generalize grownCap w s.length 0 5 = cap at cv hby hle hfit
    have CT := Lib.hid (trimB_c w.heap.size 0 cap s.length s V hbm rfl hm hle)
    have hrt := right_take s
    have htc := trim_comp s
    unfold Lib.trimS Lib.trimLeftS at htc
    rw [← htc]
    unfold leftB at CT
    have hbr : BytM V w.heap.size 0 (Lib.trimRightS s [32]) := by rw [hrt.1]; exact hbm.take _
    have hrl := hrt.2
    clear hk hV hby htc hrt
    generalize Lib.trimRightS s [32] = r at *
    have HB1 := Lib.hid (And.intro hb1 hs1)
    by_cases hd : r.dropWhile ([32].contains ·) = []
    · rw [if_pos hd] at CT
      rw [hd]
      have CN := Lib.hid compact_nil
      have hsn : ∀ W : World, (convert 63 9 (.slice none 0 0)).run Tryd.prog W = .ok (.string ⟨#[]⟩) W := fun W => Byt.str (B := 0) (l := []) (⟨rfl, Nat.le_refl _, Nat.zero_le _, fun _ => rfl, fun h => absurd h (by omega)⟩)
      have HE : Hid (compW false [] = []) := Lib.hid rfl
      rw [HE.out]
      clear hd hbr hbm hb1 hs1 hm hle hfit hrl
      go_enter Tryd.func21, Tryd.ntmps21
      go_wp2_with fail
      refine CT.out.mono ?_
      rintro e w1 ⟨rfl, q, rfl⟩
      clear cv
      go_wp2_with fail
      refine (CN.out _).mono ?_
      rintro e w2 ⟨rfl, rfl⟩
      go_wp2
      go_ret
      exact ⟨rfl, below_drewN' HB1.out.1⟩
    · rw [if_neg hd] at CT
      have hdl : (r.dropWhile ([32].contains ·)).length ≤ r.length := (List.dropWhile_suffix _).length_le
      have hde : r.dropWhile ([32].contains ·) = r.drop (r.length - (r.dropWhile ([32].contains ·)).length) := by
        have := (List.dropWhile_suffix (l := r) ([32].contains ·))
        exact List.suffix_iff_eq_drop.1 this
      have hbd : BytM V w.heap.size (0 + (r.length - (r.dropWhile ([32].contains ·)).length)) (r.dropWhile ([32].contains ·)) := by
        have := hbr.drop (r.length - (r.dropWhile ([32].contains ·)).length)
        rwa [← hde] at this
      have hlen : (r.dropWhile ([32].contains ·)).length ≤ 100000 := by omega
      generalize r.length - (r.dropWhile ([32].contains ·)).length = dd at *
      have hcap2 : (r.dropWhile ([32].contains ·)).length ≤ cap - dd := by
        have := congrArg List.length hde
        rw [List.length_drop] at this
        omega
      generalize r.dropWhile ([32].contains ·) = d at *
      have CC : Hid (∀ q : Nat, Calls Tryd.prog 46 #[.slice (some ⟨w.heap.size, 0 + dd, none⟩) d.length (cap - dd), .func (.func 47) #[] #[]] (V.drewN q) fun e w' => e = .returned (.slice (some ⟨w.heap.size, 0 + dd, none⟩) (compW false d).length (cap - dd)) ∧ BytM w' w.heap.size (0 + dd) (compW false d) ∧ ∀ B, B ≤ w.heap.size → Below B (V.drewN q) w') := Lib.hid fun q => compact_c w.heap.size (0 + dd) (cap - dd) d.length d (V.drewN q) hbd rfl hlen hcap2
      have hfit2 : cap - dd ≤ maxLen := by omega
      have hcl := comp_len d false
      have HSZ : Hid ((compW false d).length ≤ cap - dd ∧ cap - dd ≤ maxLen) := Lib.hid ⟨by omega, hfit2⟩
      clear hd hbr hbm hb1 hs1 hm hle hfit hrl hdl hde hbd hlen hcap2 hfit2 hcl
      generalize compW false d = T at *
      generalize cap - dd = cp at *
      generalize 0 + dd = off at *
      go_enter Tryd.func21, Tryd.ntmps21
      go_wp2_with fail
      refine CT.out.mono ?_
      rintro e w1 ⟨rfl, q, rfl⟩
      clear cv
      go_wp2_with fail
      refine (CC.out q).mono ?_
      rintro e w2 ⟨rfl, hbT, hBT⟩
      have hbw := hBT w.heap.size (Nat.le_refl _)
      have hsz2 : w.heap.size < w2.heap.size := by
        have := hbw.size
        have h2 : (V.drewN q).heap.size = V.heap.size := rfl
        have := HB1.out.2
        omega
      have hst := (hbT.byt hsz2 HSZ.out.1 HSZ.out.2).str
      have HBF := Lib.hid ((below_drewN' (n := q) HB1.out.1).trans hbw)
      clear hbT hBT hbw hsz2
      go_wp2
      go_ret
      exact ⟨rfl, HBF.out⟩
end Go.Proofs.YtbfdomipkfbaeaaDoor
/- atype's readers. -/
namespace Go.Proofs.YtbfdomipkfbaeaaDoor
open Go.ChangeShapes Go.WideShapes Go.ChangeAt Go.RowKit
set_option linter.unusedVariables false
/-- What is asked of the world where attributes' types are read. -/
structure W15 (w : World) : Prop where
  tabs : Tabs w
  forms : Forms w
  kinds : w.cell? ⟨2, 0, none⟩ = some (.string ⟨#[]⟩)
  klt : 2 < w.heap.size
theorem W15.below {w w' : World} (h : W15 w) (hb : Below w.heap.size w w') : W15 w' :=
  ⟨h.tabs.below hb (h.tabs.low h.forms), h.forms.below hb h.forms.lt, (hb.cell (p := ⟨_, 0, none⟩) h.klt).trans h.kinds, by have := hb.size; have := h.klt; omega⟩
set_option maxRecDepth 100000 in
set_option maxHeartbeats 4000000 in
theorem stands_c (A : Option Addr) (n cap : Nat) (l : List UInt8) (k : Nat) (c : UInt8) (B : Nat) (w : World) (h : Byt w B A n cap l) (hm : n ≤ 100000) :
    Calls Tryd.prog 105 #[.slice A n cap, .int .i64 (k : Int), .int .u8 (c.toNat : Int)] w fun e w' => e = .returned (.bool (decide (l[k]? = some c))) ∧ w' = w := by
  have hk0 : (0 : Int) ≤ (k : Int) := by omega
  have hc0 : (0 : Int) ≤ (c.toNat : Int) := by omega
  by_cases hkn : k < n
  · have hki : (k : Int) < (n : Int) := by omega
    obtain ⟨b, o, d, rfl, _, hd, hz⟩ := h.cell hkn
    have hd0 : (0 : Int) ≤ (d.toNat : Int) := by omega
    rw [hd]
    by_cases hdc : d = c
    · subst hdc
      rw [decide_eq_true rfl]
      clear h hd
      go_enter Tryd.func105, Tryd.ntmps105
      go_wp2
      go_ret
      exact ⟨rfl, rfl⟩
    · have hdd : ((d.toNat : Int) == (c.toNat : Int)) = false := ne_byte d c _ rfl hdc
      rw [decide_eq_false (fun e => hdc (Option.some.inj e))]
      clear h hd
      go_enter Tryd.func105, Tryd.ntmps105
      go_wp2
      go_ret
      exact ⟨rfl, rfl⟩
  · have hki : ¬ (k : Int) < (n : Int) := by omega
    have hd : l[k]? = none := List.getElem?_eq_none (by rw [h.length]; omega)
    rw [hd, decide_eq_false (fun e => by cases e)]
    clear h hd
    go_enter Tryd.func105, Tryd.ntmps105
    go_wp2
    go_ret
    exact ⟨rfl, rfl⟩
/-- Some characters of names: the text, the place behind, the error. -/
def tokenOut (l : List UInt8) (k : Nat) : List UInt8 × Nat × Nat :=
  if endL isMore isMore l.length (l.drop k) = 0 then ([], 0, 7) else if 1024 < endL isMore isMore l.length (l.drop k) then ([], 0, 11) else ((l.drop k).take (endL isMore isMore l.length (l.drop k)), k + endL isMore isMore l.length (l.drop k), 0)
set_option maxRecDepth 100000 in
set_option maxHeartbeats 4000000 in
theorem token_c (A : Option Addr) (n cap : Nat) (l : List UInt8) (k : Nat) (w : World) (h : Byt w w.heap.size A n cap l) (hF : Forms w) (hT : Tabs w) (hm : n ≤ 100000) (hk : k ≤ n) :
    Calls Tryd.prog 103 #[.slice A n cap, .int .i64 (k : Int)] w fun e w' => e = .returned (outV (tokenOut l k)) ∧ Below w.heap.size w w' := by
  have HB0 := Lib.hid (And.intro h (And.intro hF hF.lt))
  have HTT := Lib.hid (And.intro hT (hT.low hF))
  have hln := Lib.hid h.length
  have HTO : Hid (tokenOut l k = if endL isMore isMore n (l.drop k) = 0 then ([], 0, 7) else if 1024 < endL isMore isMore n (l.drop k) then ([], 0, 11) else ((l.drop k).take (endL isMore isMore n (l.drop k)), k + endL isMore isMore n (l.drop k), 0)) := Lib.hid (by unfold tokenOut; rw [hln.out])
  have hft := fun W (to : Nat) (h1 : k ≤ to) (h2 : to ≤ cap) => run_fromTo (w := W) A n cap k to h1 h2
  have hle := h.le
  have hst := fun (to : Nat) (h1 : k ≤ to) (h2 : to ≤ n) (W : World) (hb : Below w.heap.size w W) => ((((h.below hb).take h2).drop h1)).str
  have HS := Lib.hid hst
  have HFT := Lib.hid hft
  have hk0 : (0 : Int) ≤ (k : Int) := by omega
  have hk9 : (k : Int) ≤ 100000 := by omega
  clear h hF hT hft hst
  generalize tokenOut l k = TO at *
  go_enter Tryd.func103, Tryd.ntmps103
  go_wp2
  go_loopg [7] (n - k) (fun g s wr => ∃ p K : Nat, s = .int .i64 (p : Int) ∧ k ≤ p ∧ p ≤ n ∧ g = n - p ∧ n - p ≤ K ∧ Hid (k + endL isMore isMore n (l.drop k) = p + endL isMore isMore K (l.drop p)) ∧ Hid (Below w.heap.size w wr))
  case atStart => exact ⟨k, n, rfl, Nat.le_refl _, hk, rfl, by omega, Lib.hid rfl, Lib.hid (Below.refl _ _)⟩
  case round =>
    obtain ⟨p, K, rfl, hkp, hp, hg, hK, HE, HB⟩ := hrel
    have hp0 : (0 : Int) ≤ (p : Int) := by omega
    have hp9 : (p : Int) ≤ 100000 := by omega
    by_cases hlt : p < n
    · have hlt' : (p : Int) < (n : Int) := by omega
      have hd := fun (W : World) (hb : Below w.heap.size w W) => decode_c A n cap l p W w.heap.size (HB0.out.1.below hb) (HB0.out.2.1.below hb HB0.out.2.2) hlt (by omega)
      have hd1 := hd wr HB.out
      cases hdec : dec (l.drop p) with
      | none =>
        rw [hdec] at hd1
        have HM : Hid (endL isMore isMore n (l.drop k) = p - k) := Lib.hid (by have := HE.out; rw [endL_none _ _ _ _ hdec] at this; omega)
        have HD1 := Lib.hid hd1
        clear hdec hd hd1
        go_wp2_with fail
        refine HD1.out.mono ?_
        rintro e w1 ⟨rfl, q, rfl⟩
        simp only [decOut]
        have HBW : Hid (Below w.heap.size w (wr.drewN q)) := Lib.hid (below_drewN' HB.out)
        clear HD1 HB
        generalize wr.drewN q = wv at *
        by_cases e0 : p = k
        · subst e0
          have HT0 : Hid (TO = ([], 0, 7)) := Lib.hid (by rw [HTO.out, HM.out, if_pos (Nat.sub_self p)])
          clear hkp
          go_wp2
          go_ret3
          exact ⟨by rw [HT0.out]; rfl, HBW.out⟩
        · have e0i : ((p : Int) == (k : Int)) = false := by simp; omega
          have hpk : (p : Int) - (k : Int) = ((p - k : Nat) : Int) := by omega
          have e1 : ¬ p - k = 0 := by omega
          by_cases e2 : 1024 < p - k
          · have e2i : (1024 : Int) < (p : Int) - (k : Int) := by omega
            have HT0 : Hid (TO = ([], 0, 11)) := Lib.hid (by rw [HTO.out, HM.out, if_neg e1, if_pos e2])
            clear hkp e0 e1 e2 hpk
            go_wp2
            go_ret3
            exact ⟨by rw [HT0.out]; rfl, HBW.out⟩
          · have e2i : ¬ (1024 : Int) < (p : Int) - (k : Int) := by omega
            have HT0 : Hid (TO = ((l.take p).drop k, p, 0)) := Lib.hid (by rw [HTO.out, HM.out, if_neg e1, if_neg e2, List.drop_take, show k + (p - k) = p by omega])
            have hft := HFT.out wv p hkp (by omega)
            have hstr := HS.out p hkp hp wv HBW.out
            clear e0 e1 e2 hpk
            generalize (l.take p).drop k = T at *
            go_wp2
            go_ret3
            exact ⟨by rw [HT0.out]; rfl, HBW.out⟩
      | some v =>
        obtain ⟨r, m⟩ := v
        rw [hdec] at hd1
        have hle2 := dec_le _ r m hdec
        rw [List.length_drop, hln.out] at hle2
        have HD := Lib.hid hdec
        have HD1 := Lib.hid hd1
        have HC : Hid (∀ W, Below w.heap.size w W → Calls Tryd.prog 131 #[.int .i64 (r : Int)] W fun e w' => e = .returned (.bool (isMore (r : Int))) ∧ Below W.heap.size W w') := Lib.hid fun W hb => nameChar_c r W (HTT.out.1.below hb HTT.out.2).n ((HTT.out.1.below hb HTT.out.2).n.low (HB0.out.2.1.below hb HB0.out.2.2))
        clear hdec hd hd1
        cases hfr : isMore (r : Int) with
        | false =>
          rw [hfr] at HC
          have HM : Hid (endL isMore isMore n (l.drop k) = p - k) := Lib.hid (by have := HE.out; rw [endL_no _ _ _ _ _ _ HD.out hfr] at this; omega)
          clear hfr
          go_wp2_with fail
          refine HD1.out.mono ?_
          rintro e w1 ⟨rfl, q, rfl⟩
          simp only [decOut]
          have HBV : Hid (Below w.heap.size w (wr.drewN q)) := Lib.hid (below_drewN' HB.out)
          clear HD1 HB
          generalize wr.drewN q = wv at *
          go_wp2_with fail
          refine (HC.out _ HBV.out).mono ?_
          rintro e w2 ⟨rfl, hb2⟩
          have HBW := Lib.hid (HBV.out.trans (hb2.mono HBV.out.size))
          clear hb2
          by_cases e0 : p = k
          · subst e0
            have HT0 : Hid (TO = ([], 0, 7)) := Lib.hid (by rw [HTO.out, HM.out, if_pos (Nat.sub_self p)])
            clear hkp
            go_wp2
            go_ret3
            exact ⟨by rw [HT0.out]; rfl, HBW.out⟩
          · have e0i : ((p : Int) == (k : Int)) = false := by simp; omega
            have hpk : (p : Int) - (k : Int) = ((p - k : Nat) : Int) := by omega
            have e1 : ¬ p - k = 0 := by omega
            by_cases e2 : 1024 < p - k
            · have e2i : (1024 : Int) < (p : Int) - (k : Int) := by omega
              have HT0 : Hid (TO = ([], 0, 11)) := Lib.hid (by rw [HTO.out, HM.out, if_neg e1, if_pos e2])
              clear hkp e0 e1 e2 hpk
              go_wp2
              go_ret3
              exact ⟨by rw [HT0.out]; rfl, HBW.out⟩
            · have e2i : ¬ (1024 : Int) < (p : Int) - (k : Int) := by omega
              have HT0 : Hid (TO = ((l.take p).drop k, p, 0)) := Lib.hid (by rw [HTO.out, HM.out, if_neg e1, if_neg e2, List.drop_take, show k + (p - k) = p by omega])
              have hft := HFT.out w2 p hkp (by omega)
              have hstr := HS.out p hkp hp w2 HBW.out
              clear e0 e1 e2 hpk
              generalize (l.take p).drop k = T at *
              go_wp2
              go_ret3
              exact ⟨by rw [HT0.out]; rfl, HBW.out⟩
        | true =>
          rw [hfr] at HC
          obtain ⟨K', rfl⟩ : ∃ K', K = K' + 1 := ⟨K - 1, by omega⟩
          have HE2 : Hid (k + endL isMore isMore n (l.drop k) = p + m + endL isMore isMore K' (l.drop (p + m))) := Lib.hid (by
            have := HE.out
            rw [endL_yes _ _ _ _ _ _ HD.out hfr, List.drop_drop] at this
            omega)
          clear hfr
          go_wp2_with fail
          refine HD1.out.mono ?_
          rintro e w1 ⟨rfl, q, rfl⟩
          simp only [decOut]
          have HBV : Hid (Below w.heap.size w (wr.drewN q)) := Lib.hid (below_drewN' HB.out)
          clear HD1 HB
          generalize wr.drewN q = wv at *
          go_wp2_with fail
          refine (HC.out _ HBV.out).mono ?_
          rintro e w2 ⟨rfl, hb2⟩
          have HBW := Lib.hid (HBV.out.trans (hb2.mono HBV.out.size))
          clear hb2
          go_wp2
          go_roundg (n - (p + m))
          case measure => omega
          case rel => exact ⟨p + m, K', by go_num, by omega, by omega, rfl, by omega, HE2, HBW⟩
    · have hlt' : ¬ (p : Int) < (n : Int) := by omega
      have HM : Hid (endL isMore isMore n (l.drop k) = p - k) := Lib.hid (by
        have h1 := HE.out
        rw [show l.drop p = [] from List.drop_of_length_le (by rw [hln.out]; omega)] at h1
        have h2 := endL_le K isMore isMore []
        simp at h2
        omega)
      by_cases e0 : p = k
      · subst e0
        have HT0 : Hid (TO = ([], 0, 7)) := Lib.hid (by rw [HTO.out, HM.out, if_pos (Nat.sub_self p)])
        clear hkp
        go_wp2
        go_ret3
        exact ⟨by rw [HT0.out]; rfl, HB.out⟩
      · have e0i : ((p : Int) == (k : Int)) = false := by simp; omega
        have hpk : (p : Int) - (k : Int) = ((p - k : Nat) : Int) := by omega
        have e1 : ¬ p - k = 0 := by omega
        by_cases e2 : 1024 < p - k
        · have e2i : (1024 : Int) < (p : Int) - (k : Int) := by omega
          have HT0 : Hid (TO = ([], 0, 11)) := Lib.hid (by rw [HTO.out, HM.out, if_neg e1, if_pos e2])
          clear hkp e0 e1 e2 hpk
          go_wp2
          go_ret3
          exact ⟨by rw [HT0.out]; rfl, HB.out⟩
        · have e2i : ¬ (1024 : Int) < (p : Int) - (k : Int) := by omega
          have HT0 : Hid (TO = ((l.take p).drop k, p, 0)) := Lib.hid (by rw [HTO.out, HM.out, if_neg e1, if_neg e2, List.drop_take, show k + (p - k) = p by omega])
          have hft := HFT.out wr p hkp (by omega)
          have hstr := HS.out p hkp hp wr HB.out
          clear e0 e1 e2 hpk
          generalize (l.take p).drop k = T at *
          go_wp2
          go_ret3
          exact ⟨by rw [HT0.out]; rfl, HB.out⟩
end Go.Proofs.YtbfdomipkfbaeaaDoor
/- atype.One at the example. -/
namespace Go.Proofs.YtbfdomipkfbaeaaDoor
open Go.ChangeShapes Go.WideShapes Go.ChangeAt Go.RowKit
set_option linter.unusedVariables false
theorem ownsRow_ge {w : World} {base : Nat} {e : TypeId} {c n : Nat} {v : Value} {xs : List Value} (h : w.ownsRow base e c v n xs) {b : Nat} (hb : v.ownBlock = some b) : base ≤ b := by
  obtain ⟨hl, ⟨hv, _⟩ | ⟨g, cap, cur, hv, hg, hh, r⟩⟩ := h
  · rw [hv] at hb; simp [Value.ownBlock] at hb
  · rw [hv] at hb; simp [Value.ownBlock] at hb; subst hb; exact hg
/-- The page's example. -/
def lx : List UInt8 := [97, 32, 40, 120, 124, 121, 41, 32, 39, 120, 39]
theorem OwnS.more1 {w w' : World} {base : Nat} {v v' : Value} {op : List (List UInt8)} {s : List UInt8} (hown : w'.ownsRow base 9 1 v' (op.length + 1) (op.map strV ++ [strV s])) : OwnS w' base v' (op ++ [s]) := by
  unfold OwnS
  rw [List.length_append, List.map_append]
  exact hown
set_option maxRecDepth 100000 in
set_option maxHeartbeats 8000000 in
theorem row_ex (A : Option Addr) (cap : Nat) (w : World) (h : Byt w w.heap.size A 11 cap lx) (hW : W15 w) :
    Calls Tryd.prog 102 #[.slice A 11 cap, .int .i64 2, .func (.func 103) #[] #[]] w fun e w' => ∃ v, e = .returned (.tuple #[v, .int .i64 7, .int .i64 0]) ∧ OwnS w' w.heap.size v [[120], [121]] ∧ Below w.heap.size w w' := by
  have S2 : Hid (∀ W, Below w.heap.size w W → Calls Tryd.prog 105 #[.slice A 11 cap, .int .i64 2, .int .u8 40] W fun e w' => e = .returned (.bool true) ∧ w' = W) := Lib.hid fun W hb => by
    have := stands_c A 11 cap lx 2 40 _ W (h.below hb) (by omega)
    rw [show decide (lx[2]? = some 40) = true by decide] at this
    exact this
  have S4 : Hid (∀ W, Below w.heap.size w W → Calls Tryd.prog 105 #[.slice A 11 cap, .int .i64 4, .int .u8 124] W fun e w' => e = .returned (.bool true) ∧ w' = W) := Lib.hid fun W hb => by
    have := stands_c A 11 cap lx 4 124 _ W (h.below hb) (by omega)
    rw [show decide (lx[4]? = some 124) = true by decide] at this
    exact this
  have S6 : Hid (∀ W, Below w.heap.size w W → Calls Tryd.prog 105 #[.slice A 11 cap, .int .i64 6, .int .u8 124] W fun e w' => e = .returned (.bool false) ∧ w' = W) := Lib.hid fun W hb => by
    have := stands_c A 11 cap lx 6 124 _ W (h.below hb) (by omega)
    rw [show decide (lx[6]? = some 124) = false by decide] at this
    exact this
  have S6b : Hid (∀ W, Below w.heap.size w W → Calls Tryd.prog 105 #[.slice A 11 cap, .int .i64 6, .int .u8 41] W fun e w' => e = .returned (.bool true) ∧ w' = W) := Lib.hid fun W hb => by
    have := stands_c A 11 cap lx 6 41 _ W (h.below hb) (by omega)
    rw [show decide (lx[6]? = some 41) = true by decide] at this
    exact this
  have B3 : Hid (∀ W, Below w.heap.size w W → Calls Tryd.prog 99 #[.slice A 11 cap, .int .i64 3] W fun e w' => e = .returned (.int .i64 3) ∧ W = w') := Lib.hid fun W hb => by
    have := blanks_c A 11 cap lx 3 _ W (h.below hb) (by omega) (by omega)
    rw [show blankTo lx 3 = 3 by decide +kernel] at this
    exact this
  have B5 : Hid (∀ W, Below w.heap.size w W → Calls Tryd.prog 99 #[.slice A 11 cap, .int .i64 5] W fun e w' => e = .returned (.int .i64 5) ∧ W = w') := Lib.hid fun W hb => by
    have := blanks_c A 11 cap lx 5 _ W (h.below hb) (by omega) (by omega)
    rw [show blankTo lx 5 = 5 by decide +kernel] at this
    exact this
  have B4 : Hid (∀ W, Below w.heap.size w W → Calls Tryd.prog 99 #[.slice A 11 cap, .int .i64 4] W fun e w' => e = .returned (.int .i64 4) ∧ W = w') := Lib.hid fun W hb => by
    have := blanks_c A 11 cap lx 4 _ W (h.below hb) (by omega) (by omega)
    rw [show blankTo lx 4 = 4 by decide +kernel] at this
    exact this
  have B6 : Hid (∀ W, Below w.heap.size w W → Calls Tryd.prog 99 #[.slice A 11 cap, .int .i64 6] W fun e w' => e = .returned (.int .i64 6) ∧ W = w') := Lib.hid fun W hb => by
    have := blanks_c A 11 cap lx 6 _ W (h.below hb) (by omega) (by omega)
    rw [show blankTo lx 6 = 6 by decide +kernel] at this
    exact this
  have T3 : Hid (∀ W, Below w.heap.size w W → Calls Tryd.prog 103 #[.slice A 11 cap, .int .i64 3] W fun e w' => e = .returned (.tuple #[.string ⟨#[120]⟩, .int .i64 4, .int .i64 0]) ∧ Below W.heap.size W w') := Lib.hid fun W hb => by
    have := token_c A 11 cap lx 3 W ((h.below hb).more hb.size) (hW.below hb).forms (hW.below hb).tabs (by omega) (by omega)
    rw [show tokenOut lx 3 = ([120], 4, 0) by decide +kernel] at this
    exact this
  have T5 : Hid (∀ W, Below w.heap.size w W → Calls Tryd.prog 103 #[.slice A 11 cap, .int .i64 5] W fun e w' => e = .returned (.tuple #[.string ⟨#[121]⟩, .int .i64 6, .int .i64 0]) ∧ Below W.heap.size W w') := Lib.hid fun W hb => by
    have := token_c A 11 cap lx 5 W ((h.below hb).more hb.size) (hW.below hb).forms (hW.below hb).tabs (by omega) (by omega)
    rw [show tokenOut lx 5 = ([121], 6, 0) by decide +kernel] at this
    exact this
  have O0 := Lib.hid (OwnS.start w w.heap.size)
  clear h hW
  go_enter Tryd.func102, Tryd.ntmps102
  go_wp2
  go_loopg [1, 9, 10] (2) (fun g a v c wr => ∃ op : List (List UInt8), Hid (OwnS wr w.heap.size v op) ∧ Hid (Below w.heap.size w wr) ∧ ((g = 2 ∧ a = .int .i64 2 ∧ c = .int .u8 40 ∧ op = []) ∨ (g = 1 ∧ a = .int .i64 4 ∧ c = .int .u8 124 ∧ op = [[120]]) ∨ (g = 0 ∧ a = .int .i64 6 ∧ c = .int .u8 124 ∧ op = [[120], [121]])))
  case atStart => exact ⟨[], O0, Lib.hid (Below.refl _ _), .inl ⟨rfl, rfl, rfl, rfl⟩⟩
  case round =>
    obtain ⟨op, HO, HB, ⟨hg, rfl, rfl, rfl⟩ | ⟨hg, rfl, rfl, rfl⟩ | ⟨hg, rfl, rfl, rfl⟩⟩ := hrel
    · go_wp2_with fail
      refine (S2.out _ HB.out).mono ?_
      rintro e wq ⟨rfl, rfl⟩
      go_wp2_with fail
      refine (B3.out _ HB.out).mono ?_
      rintro e wq ⟨rfl, rfl⟩
      go_wp2_with fail
      refine (T3.out _ HB.out).mono ?_
      rintro e w2 ⟨rfl, hb2⟩
      have HB2 := Lib.hid (HB.out.trans (hb2.mono HB.out.size))
      have hown : w2.ownsRow w.heap.size 9 1 _ ([] : List (List UInt8)).length (([] : List (List UInt8)).map strV) := HO.out.kept hb2
      have hba : w.heap.size ≤ w2.heap.size := HB2.out.size
      clear hb2
      go_wp2_with (first
        | (at_builtin; refine wpList_appK rfl (.tmp 32) (.tmp 34) 23 9 rfl (.string ⟨#[]⟩) 1 16 Tryd.underlying23 info_str rfl (by decide) w.heap.size _ _ _ rfl hown [strV [120]] _ rfl rfl rfl (by simp [strV, Value.oneCell']) (by decide) (by decide) hba ?_))
      intro v5 w5 hown5 hg5 hat5
      have HO5 : Hid (OwnS w5 w.heap.size v5 ([] ++ [[120]])) := Lib.hid (OwnS.more1 (w := w2) (v := v5) hown5)
      have ka := (Below.refl w2.heap.size w2).alloc (Nat.le_refl _) (.cells #[strV [120]] 9)
      have HB5 : Hid (Below w.heap.size w w5) := Lib.hid ((HB2.out.trans (ka.mono hba)).grown hg5 (by rw [World.size_alloc]; omega) (fun j hj => (ownsRow_ge hown hj)))
      clear hown5 hg5 hat5 hown ka
      go_wp2_with fail
      refine (B4.out _ HB5.out).mono ?_
      rintro e wq ⟨rfl, rfl⟩
      go_wp2
      go_roundg (1)
      case measure => omega
      case rel => exact ⟨_, HO5, HB5, .inr (.inl ⟨rfl, rfl, rfl, rfl⟩)⟩
    · go_wp2_with fail
      refine (S4.out _ HB.out).mono ?_
      rintro e wq ⟨rfl, rfl⟩
      go_wp2_with fail
      refine (B5.out _ HB.out).mono ?_
      rintro e wq ⟨rfl, rfl⟩
      go_wp2_with fail
      refine (T5.out _ HB.out).mono ?_
      rintro e w2 ⟨rfl, hb2⟩
      have HB2 := Lib.hid (HB.out.trans (hb2.mono HB.out.size))
      have hown : w2.ownsRow w.heap.size 9 1 _ ([[120]] : List (List UInt8)).length (([[120]] : List (List UInt8)).map strV) := HO.out.kept hb2
      have hba : w.heap.size ≤ w2.heap.size := HB2.out.size
      clear hb2
      go_wp2_with (first
        | (at_builtin; refine wpList_appK rfl (.tmp 32) (.tmp 34) 23 9 rfl (.string ⟨#[]⟩) 1 16 Tryd.underlying23 info_str rfl (by decide) w.heap.size _ _ _ rfl hown [strV [121]] _ rfl rfl rfl (by simp [strV, Value.oneCell']) (by decide) (by decide) hba ?_))
      intro v5 w5 hown5 hg5 hat5
      have HO5 : Hid (OwnS w5 w.heap.size v5 ([[120]] ++ [[121]])) := Lib.hid (OwnS.more1 (w := w2) (v := v5) hown5)
      have ka := (Below.refl w2.heap.size w2).alloc (Nat.le_refl _) (.cells #[strV [121]] 9)
      have HB5 : Hid (Below w.heap.size w w5) := Lib.hid ((HB2.out.trans (ka.mono hba)).grown hg5 (by rw [World.size_alloc]; omega) (fun j hj => (ownsRow_ge hown hj)))
      clear hown5 hg5 hat5 hown ka
      go_wp2_with fail
      refine (B6.out _ HB5.out).mono ?_
      rintro e wq ⟨rfl, rfl⟩
      go_wp2
      go_roundg (0)
      case measure => omega
      case rel => exact ⟨_, HO5, HB5, .inr (.inr ⟨rfl, rfl, rfl, rfl⟩)⟩
    · obtain ⟨A2, c2, hv⟩ := HO.out.form
      subst hv
      go_wp2_with fail
      refine (S6.out _ HB.out).mono ?_
      rintro e wq ⟨rfl, rfl⟩
      go_wp2_with fail
      refine (S6b.out _ HB.out).mono ?_
      rintro e wq ⟨rfl, rfl⟩
      go_wp2
      go_ret3
      exact ⟨_, rfl, HO.out, HB.out⟩
end Go.Proofs.YtbfdomipkfbaeaaDoor
/- Plain law of texts between marks. -/
namespace Go.Proofs.YtbfdomipkfbaeaaDoor
open Go.ChangeShapes Go.WideShapes Go.ChangeAt Go.RowKit
set_option linter.unusedVariables false
end Go.Proofs.YtbfdomipkfbaeaaDoor
/- A result in a block of its own. -/
namespace Go.Proofs.YtbfdomipkfbaeaaDoor
open Go.ChangeShapes Go.WideShapes Go.ChangeAt Go.RowKit
set_option linter.unusedVariables false
theorem results_c3 {P : Program} {fn : Func} {p u v : Tmp} {ty : TypeId} (h : fn.results = #[.cell p ty, .tmp u, .tmp v]) (tmps : Array Value) (w : World) (g : Nat) (t : TypeId) (cs : Array Value) (fr : Nat × Nat) (d : TypeDesc)
    (hp : tmps.getD p undef = .pointer (some ⟨g, 0, none⟩)) (hg : w.heap[g]? = some (.cells cs t fr))
    (hu : P.underlying ty = some d) (hd : (match d with | .struct _ | .array _ _ => true | _ => false) = true) (hi : (P.info? ty).map (·.size) = some cs.size) :
    (results fn tmps).run P w = .ok (.tuple #[.agg cs, tmps.getD u undef, tmps.getD v undef]) w := by
  have hp' : tmps[p]?.getD undef = .pointer (some ⟨g, 0, none⟩) := by simpa using hp
  simp [results, h, hp', asAddr, run_loadVar_row w g t ty cs fr d hg hu hd hi]
/-- While a result lies in a block of its own: below w all as it was, and that block. -/
def CJ (T : TypeId) (w W : World) (rs : Array Value) : Prop := Below w.heap.size w W ∧ W.heap[w.heap.size]? = some (.cells rs T)
theorem CJ.start (T : TypeId) (w : World) (rs : Array Value) : CJ T w (w.alloc (.cells rs T)) rs := ⟨(Below.refl _ _).alloc (Nat.le_refl _) _, hp_new _ _⟩
theorem CJ.kept {T : TypeId} {w W W' : World} {rs : Array Value} (h : CJ T w W rs) (hb : Below W.heap.size W W') : CJ T w W' rs :=
  ⟨h.1.trans (hb.mono h.1.size), by rw [hb.block _ (lt_of h.2)]; exact h.2⟩
theorem CJ.row {T : TypeId} {w W : World} {rs : Array Value} (h : CJ T w W rs) (cs : Array Value) : CJ T w (W.setRow w.heap.size cs) cs := by
  refine ⟨⟨h.1.os, h.1.tape, h.1.output, ?_, fun k hk => ?_⟩, setRow_heap _ _ _ _ _ _ h.2⟩
  · have := h.1.size; simpa [World.setRow] using this
  · rw [setRow_other _ _ _ _ (by omega)]; exact h.1.block k hk
end Go.Proofs.YtbfdomipkfbaeaaDoor
/- atype.One at the page's example. -/
namespace Go.Proofs.YtbfdomipkfbaeaaDoor
open Go.ChangeShapes Go.WideShapes Go.ChangeAt Go.RowKit
set_option linter.unusedVariables false
theorem results_t4 {fn : Func} {a b c d : Tmp} (h : fn.results = #[.tmp a, .tmp b, .tmp c, .tmp d]) (tmps : Array Value) (P : Program) (w : World) :
    (results fn tmps).run P w = .ok (.tuple #[tmps.getD a undef, tmps.getD b undef, tmps.getD c undef, tmps.getD d undef]) w := by
  simp [results, h]
theorem OwnS.low {w : World} {base base' : Nat} {v : Value} {op : List (List UInt8)} (h : OwnS w base v op) (hb : base' < base) : OwnS w (base' + 1) v op := by
  obtain ⟨hl, h2 | ⟨g, cap, cur, hv, hg, r⟩⟩ := h
  · exact ⟨hl, .inl h2⟩
  · exact ⟨hl, .inr ⟨g, cap, cur, hv, by omega, r⟩⟩
theorem OwnS.down {w : World} {base base' : Nat} {v : Value} {op : List (List UInt8)} (h : OwnS w base v op) (hb : base' ≤ base) : OwnS w base' v op := by
  obtain ⟨hl, h2 | ⟨g, cap, cur, hv, hg, r⟩⟩ := h
  · exact ⟨hl, .inl h2⟩
  · exact ⟨hl, .inr ⟨g, cap, cur, hv, by omega, r⟩⟩
theorem OwnS.far {w : World} {c : Nat} {v : Value} {op : List (List UInt8)} (h : OwnS w (c + 1) v op) (i : Nat) (u : Value) : OwnS (w.setCell ⟨c, i, none⟩ u) (c + 1) v op :=
  ownsRow_keep h fun g hg _ => Below.heap_setCell _ _ _ _ (by show g ≠ c; omega)
theorem CJ.set {T : TypeId} {w W : World} {rs : Array Value} (h : CJ T w W rs) (i : Nat) (v : Value) : CJ T w (W.setCell ⟨w.heap.size, i, none⟩ v) (rs.setIfInBounds i v) := ⟨h.1.setCell (Nat.le_refl _) v, Go.Joins.block_setCell h.2 v⟩
set_option maxRecDepth 100000 in
set_option maxHeartbeats 4000000 in
theorem index_ex (b n c : Nat) (w : World) (hn : 0 < n) (hm : n ≤ 1000) (hz : w.cell? ⟨b, 0, none⟩ = some (.string ⟨#[]⟩)) :
    Calls Tryd.prog 101 #[.slice (some ⟨b, 0, none⟩) n c, .string ⟨#[]⟩] w fun e w' => e = .returned (.int .i64 0) ∧ w' = w := by
  have h0 : (0 : Int) < (n : Int) := by omega
  go_enter Tryd.func101, Tryd.ntmps101
  go_wp2
  go_loopg [8] (0) (fun g s wr => s = .int .i64 0 ∧ wr = w)
  case atStart => exact ⟨rfl, rfl⟩
  case round =>
    obtain ⟨rfl, rfl⟩ := hrel
    go_wp2
    go_ret
    exact ⟨rfl, rfl⟩
set_option maxRecDepth 100000 in
set_option maxHeartbeats 4000000 in
theorem word_ex (A : Option Addr) (cap : Nat) (w : World) (h : Byt w w.heap.size A 11 cap lx) :
    Calls Tryd.prog 100 #[.slice A 11 cap, .int .i64 2] w fun e w' => e = .returned (.string ⟨#[]⟩) ∧ w' = w := by
  obtain ⟨b, o, d, rfl, _, hd, hz⟩ := h.cell (i := 2) (by omega)
  have hd' : d = 40 := by
    have : lx[2]? = some 40 := by decide
    rw [this] at hd
    exact (Option.some.inj hd).symm
  subst hd'
  have hz' : w.cell? ⟨b, o + 2, none⟩ = some (.int .u8 40) := hz
  have hle := h.le
  have hft := run_fromTo (w := w) (some ⟨b, o, none⟩) 11 cap 2 2 (Nat.le_refl _) (by omega)
  have hstr := ((h.take (k := 2) (by omega)).drop (k := 2) (by omega)).str
  rw [show (lx.take 2).drop 2 = [] by decide] at hstr
  unfold cutA at hstr
  rw [if_neg (by omega), Option.map_some, addr_add] at hstr
  have hc2 : ¬ cap = 2 := by omega
  have hc3 : (2 : Int) ≤ (cap : Int) := by omega
  clear h hz hd hft
  go_enter Tryd.func100, Tryd.ntmps100
  go_wp2
  go_loopg [5] (0) (fun g s wr => s = .int .i64 2 ∧ wr = w)
  case atStart => exact ⟨rfl, rfl⟩
  case round =>
    obtain ⟨rfl, rfl⟩ := hrel
    go_wp2
    go_ret
    exact ⟨rfl, rfl⟩
set_option maxRecDepth 100000 in
set_option maxHeartbeats 4000000 in
theorem type_ex (A : Option Addr) (cap : Nat) (w : World) (h : Byt w w.heap.size A 11 cap lx) (hW : W15 w) :
    Calls Tryd.prog 67 #[.slice A 11 cap, .int .i64 2] w fun e w' => ∃ v, e = .returned (.tuple #[.int .i64 10, v, .int .i64 7, .int .i64 0]) ∧ OwnS w' w.heap.size v [[120], [121]] ∧ Below w.heap.size w w' := by
  have C1 := Lib.hid (word_ex A cap w h)
  have C2 := Lib.hid (index_ex 2 10 10 w (by omega) (by omega) hW.kinds)
  have C3 := Lib.hid (row_ex A cap w h hW)
  clear h hW
  go_enter Tryd.func67, Tryd.ntmps67
  go_wp2_with fail
  refine C1.out.mono ?_
  rintro e wq ⟨rfl, rfl⟩
  go_wp2_with fail
  refine C2.out.mono ?_
  rintro e wq ⟨rfl, rfl⟩
  go_wp2_with fail
  refine C3.out.mono ?_
  rintro e w1 ⟨v, rfl, ho, hb⟩
  have HF := Lib.hid (And.intro ho hb)
  clear ho hb
  go_wp2
  (try simp only [Exit.inBlock, Exit.then])
  refine bodyPost_ret (results_t4 rfl _ _ _) rfl ?_
  exact ⟨_, rfl, HF.out.1, HF.out.2⟩
set_option maxRecDepth 100000 in
set_option maxHeartbeats 4000000 in
theorem default_ex (A : Option Addr) (cap : Nat) (w : World) (h : Byt w w.heap.size A 11 cap lx) (hW : W15 w) :
    Calls Tryd.prog 68 #[.slice A 11 cap, .int .i64 8] w fun e w' => e = .returned (.tuple #[.int .i64 4, .string ⟨#[120]⟩, .int .i64 11, .int .i64 0]) ∧ Below w.heap.size w w' := by
  have C1 : Hid (Calls Tryd.prog 105 #[.slice A 11 cap, .int .i64 8, .int .u8 35] w fun e w' => e = .returned (.bool false) ∧ w' = w) := Lib.hid (by
    have := stands_c A 11 cap lx 8 35 _ w h (by omega)
    rw [show decide (lx[8]? = some 35) = false by decide] at this
    exact this)
  have C2 : Hid (Calls Tryd.prog 106 #[.slice A 11 cap, .int .i64 8] w fun e w' => e = .returned (.tuple #[.string ⟨#[120]⟩, .int .i64 11, .int .i64 0]) ∧ Below w.heap.size w w') := Lib.hid (by
    have := litValue_c A 11 cap lx 8 w h hW.tabs hW.forms (by omega)
    rw [show strictAt 60 lx 8 = ([120], 11, 0) by decide +kernel] at this
    exact this)
  clear h hW
  go_enter Tryd.func68, Tryd.ntmps68
  go_wp2_with fail
  refine C1.out.mono ?_
  rintro e wq ⟨rfl, rfl⟩
  go_wp2_with fail
  refine C2.out.mono ?_
  rintro e w1 ⟨rfl, hb⟩
  have HB := Lib.hid hb
  clear hb
  go_wp2
  (try simp only [Exit.inBlock, Exit.then])
  refine bodyPost_ret (results_t4 rfl _ _ _) rfl ?_
  exact ⟨rfl, HB.out⟩
set_option maxRecDepth 100000 in
set_option maxHeartbeats 4000000 in
theorem blanks1_ex (A : Option Addr) (cap : Nat) (w : World) (h : Byt w w.heap.size A 11 cap lx) :
    Calls Tryd.prog 66 #[.slice A 11 cap, .int .i64 1] w fun e w' => e = .returned (.tuple #[.int .i64 2, .int .i64 0]) ∧ w' = w := by
  have C1 : Hid (Calls Tryd.prog 99 #[.slice A 11 cap, .int .i64 1] w fun e w' => e = .returned (.int .i64 2) ∧ w = w') := Lib.hid (by
    have := blanks_c A 11 cap lx 1 _ w h (by omega) (by omega)
    rw [show blankTo lx 1 = 2 by decide +kernel] at this
    exact this)
  clear h
  go_enter Tryd.func66, Tryd.ntmps66
  go_wp2_with fail
  refine C1.out.mono ?_
  rintro e wq ⟨rfl, rfl⟩
  go_wp2
  go_ret2
  exact ⟨rfl, rfl⟩
set_option maxRecDepth 100000 in
set_option maxHeartbeats 4000000 in
theorem blanks7_ex (A : Option Addr) (cap : Nat) (w : World) (h : Byt w w.heap.size A 11 cap lx) :
    Calls Tryd.prog 66 #[.slice A 11 cap, .int .i64 7] w fun e w' => e = .returned (.tuple #[.int .i64 8, .int .i64 0]) ∧ w' = w := by
  have C1 : Hid (Calls Tryd.prog 99 #[.slice A 11 cap, .int .i64 7] w fun e w' => e = .returned (.int .i64 8) ∧ w = w') := Lib.hid (by
    have := blanks_c A 11 cap lx 7 _ w h (by omega) (by omega)
    rw [show blankTo lx 7 = 8 by decide +kernel] at this
    exact this)
  clear h
  go_enter Tryd.func66, Tryd.ntmps66
  go_wp2_with fail
  refine C1.out.mono ?_
  rintro e wq ⟨rfl, rfl⟩
  go_wp2
  go_ret2
  exact ⟨rfl, rfl⟩
set_option maxRecDepth 100000 in
set_option maxHeartbeats 8000000 in
theorem one_ex (A : Option Addr) (cap : Nat) (w : World) (h : Byt w w.heap.size A 11 cap lx) (hW : W15 w) :
    Calls Tryd.prog 44 #[.slice A 11 cap, .int .i64 0] w fun e w' => ∃ A2 c2, e = .returned (.tuple #[.agg #[.string ⟨#[97]⟩, .int .i64 10, .slice A2 2 c2, .int .i64 4, .string ⟨#[120]⟩], .int .i64 11, .int .i64 0]) ∧ OwnS w' w.heap.size (.slice A2 2 c2) [[120], [121]] ∧ Below w.heap.size w w' := by
  have J0 := Lib.hid (CJ.start 55 w #[.string ⟨#[]⟩, .int .i64 0, .slice none 0 0, .int .i64 0, .string ⟨#[]⟩])
  have HK : Hid (∀ W, Below w.heap.size w W → Byt W W.heap.size A 11 cap lx ∧ W15 W) := Lib.hid fun W hb => ⟨(h.below hb).more hb.size, hW.below hb⟩
  have hi : (Tryd.prog.info? 55).map (·.size) = some 5 := by kernel_rfl
  obtain ⟨sd, hu⟩ := isStruct_of (P := Tryd.prog) (t := 55) (by kernel_rfl)
  have HU := Lib.hid (And.intro hi hu)
  have C1 : Hid (Calls Tryd.prog 65 #[.slice A 11 cap, .int .i64 0] (w.alloc (.cells #[.string ⟨#[]⟩, .int .i64 0, .slice none 0 0, .int .i64 0, .string ⟨#[]⟩] 55)) fun e w' => e = .returned (.tuple #[.string ⟨#[97]⟩, .int .i64 1, .int .i64 0]) ∧ Below (w.alloc (.cells #[.string ⟨#[]⟩, .int .i64 0, .slice none 0 0, .int .i64 0, .string ⟨#[]⟩] 55)).heap.size (w.alloc (.cells #[.string ⟨#[]⟩, .int .i64 0, .slice none 0 0, .int .i64 0, .string ⟨#[]⟩] 55)) w') := Lib.hid (by
    have := name_c A 11 cap lx 0 _ (HK.out _ J0.out.1).1 (HK.out _ J0.out.1).2.forms (HK.out _ J0.out.1).2.tabs.n (by omega) (by omega)
    rw [show nameOut lx 0 = ([97], 1, 0) by decide +kernel] at this
    exact this)
  clear h hW hi hu
  go_enter Tryd.func44, Tryd.ntmps44
  go_wp2_with fail
  refine C1.out.mono ?_
  rintro e w1 ⟨rfl, hb⟩
  have J1 := Lib.hid (J0.out.kept hb)
  have J1s := Lib.hid (J1.out.set 0 (.string ⟨#[97]⟩))
  have z0 := cell_of 0 J1.out.2
  have z1 := cell_of 1 J1.out.2
  have z2 := cell_of 2 J1.out.2
  have z3 := cell_of 3 J1.out.2
  have z4 := cell_of 4 J1.out.2
  have f0 := free_of 0 J1.out.2
  have f1 := free_of 1 J1.out.2
  have f2 := free_of 2 J1.out.2
  have f3 := free_of 3 J1.out.2
  have f4 := free_of 4 J1.out.2
  have C2 := Lib.hid (blanks1_ex A cap _ (HK.out _ J1s.out.1).1)
  clear hb
  go_wp2_with fail
  refine C2.out.mono ?_
  rintro e wq ⟨rfl, hq⟩
  subst hq
  have C3 := Lib.hid (type_ex A cap _ (HK.out _ J1s.out.1).1 (HK.out _ J1s.out.1).2)
  go_wp2_with fail
  refine C3.out.mono ?_
  rintro e w2 ⟨v, rfl, ho, hb⟩
  obtain ⟨A2, c2, hv⟩ : ∃ A2 c2, v = .slice A2 2 c2 := ho.form
  subst hv
  have hlt : w.heap.size < (w1.setCell ⟨w.heap.size, 0, none⟩ (.string ⟨#[97]⟩)).heap.size := lt_of J1s.out.2
  have J2 := Lib.hid (J1s.out.kept hb)
  have O2 := Lib.hid (ho.low hlt)
  clear hb ho hlt z0 f0 z1 f1 z2 f2 z3 f3 z4 f4
  have z0 := cell_of 0 J2.out.2
  have z1 := cell_of 1 J2.out.2
  have z2 := cell_of 2 J2.out.2
  have z3 := cell_of 3 J2.out.2
  have z4 := cell_of 4 J2.out.2
  have f0 := free_of 0 J2.out.2
  have f1 := free_of 1 J2.out.2
  have f2 := free_of 2 J2.out.2
  have f3 := free_of 3 J2.out.2
  have f4 := free_of 4 J2.out.2
  have J2a := Lib.hid (J2.out.set 1 (.int .i64 10))
  have J2s := Lib.hid (J2a.out.set 2 (.slice A2 2 c2))
  have O2s := Lib.hid ((O2.out.far 1 (.int .i64 10)).far 2 (.slice A2 2 c2))
  have C4 := Lib.hid (blanks7_ex A cap _ (HK.out _ J2s.out.1).1)
  go_wp2_with fail
  refine C4.out.mono ?_
  rintro e wq ⟨rfl, hq⟩
  subst hq
  have C5 := Lib.hid (default_ex A cap _ (HK.out _ J2s.out.1).1 (HK.out _ J2s.out.1).2)
  clear z0 f0 z1 f1 z2 f2 z3 f3 z4 f4
  go_wp2_with fail
  refine C5.out.mono ?_
  rintro e w3 ⟨rfl, hb⟩
  have J3 := Lib.hid (J2s.out.kept hb)
  have O3 := Lib.hid (O2s.out.kept hb)
  clear hb
  have z0 := cell_of 0 J3.out.2
  have z1 := cell_of 1 J3.out.2
  have z2 := cell_of 2 J3.out.2
  have z3 := cell_of 3 J3.out.2
  have z4 := cell_of 4 J3.out.2
  have f0 := free_of 0 J3.out.2
  have f1 := free_of 1 J3.out.2
  have f2 := free_of 2 J3.out.2
  have f3 := free_of 3 J3.out.2
  have f4 := free_of 4 J3.out.2
  have J3a := Lib.hid (J3.out.set 3 (.int .i64 4))
  have J3s := Lib.hid (J3a.out.set 4 (.string ⟨#[120]⟩))
  have O3s := Lib.hid ((O3.out.far 3 (.int .i64 4)).far 4 (.string ⟨#[120]⟩))
  clear C1 C2 C3 C4 C5
  have J4 : Hid (CJ 55 w ((w3.setCell ⟨w.heap.size, 3, none⟩ (.int .i64 4)).setCell ⟨w.heap.size, 4, none⟩ (.string ⟨#[120]⟩)) #[.string ⟨#[97]⟩, .int .i64 10, .slice A2 2 c2, .int .i64 4, .string ⟨#[120]⟩]) := Lib.hid J3s.out
  have J5 := Lib.hid (J4.out.row #[.string ⟨#[97]⟩, .int .i64 10, .slice A2 2 c2, .int .i64 4, .string ⟨#[120]⟩])
  have O5 : Hid (OwnS (((w3.setCell ⟨w.heap.size, 3, none⟩ (.int .i64 4)).setCell ⟨w.heap.size, 4, none⟩ (.string ⟨#[120]⟩)).setRow w.heap.size #[.string ⟨#[97]⟩, .int .i64 10, .slice A2 2 c2, .int .i64 4, .string ⟨#[120]⟩]) (w.heap.size + 1) (.slice A2 2 c2) [[120], [121]]) := Lib.hid (ownsRow_keep O3s.out fun g hg _ => setRow_other _ _ _ _ (by omega))
  go_wp2_with (first | (refine wpList_load_row rfl _ _ rfl w.heap.size rfl _ _ _ _ J4.out.2 HU.out.2 rfl HU.out.1 ?_) | (refine wpList_store_row rfl _ _ _ rfl w.heap.size #[.string ⟨#[97]⟩, .int .i64 10, .slice A2 2 c2, .int .i64 4, .string ⟨#[120]⟩] rfl rfl _ _ J4.out.2 (by kernel_rfl) rfl (by kernel_rfl) ?_))
  (try simp only [Exit.inBlock, Exit.then])
  exact bodyPost_ret (results_c3 rfl _ _ w.heap.size _ _ _ _ rfl J5.out.2 HU.out.2 rfl HU.out.1) rfl ⟨A2, c2, rfl, O5.out.down (Nat.le_succ _), J5.out.1⟩
end Go.Proofs.YtbfdomipkfbaeaaDoor
