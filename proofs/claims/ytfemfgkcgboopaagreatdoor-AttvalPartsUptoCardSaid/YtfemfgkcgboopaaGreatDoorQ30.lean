/- Texts of ours, joined: AtT, AtK, AtU. -/
import Derived.Test.YtfemfgkcgboopaaGreatDoorRows
import Derived.WalkKit
import Derived.ProofKit
import Derived.OpenShut
import Derived.ShutString
import Derived.ChangeOld
import Derived.Below
import Derived.BigQuiet
import Derived.Deep.QuietTactic
import Derived.Lib.Hide
import Derived.Deep.RegionHeld3
import Derived.Lib.SlBytesConst
import Derived.Laws.CopyOwn
import Derived.Laws.CopyRow
import Derived.Lib.Bytes
import Derived.Deep.LoopGhost
import Derived.Deep.DeepFit
import Derived.Deep.DeepMust
import Derived.WalkSpells
import Derived.WalkLawsBesides
import Derived.Laws.EntriesVeiled
import Derived.Laws.Rows
import Derived.Laws.World
import Derived.Lib.SliceRun
import Derived.Lib.SlTrimSet
import Derived.Test.YtfemfgkcgboopaaGreatDoorQ1
import Derived.Test.YtfemfgkcgboopaaGreatDoorQ13
import Derived.Test.YtfemfgkcgboopaaGreatDoorQ15
import Derived.Test.YtfemfgkcgboopaaGreatDoorQ16
import Derived.Test.YtfemfgkcgboopaaGreatDoorQ29
import Derived.Laws.IdiomCopy
/- bytes.Trim of blanks. -/
namespace Go.Proofs.YtfemfgkcgboopaaGreatDoor
open Go.ChangeShapes Go.WideShapes Go.ChangeAt Go.RowKit
set_option linter.unusedVariables false
theorem left_cons {c : UInt8} {t : List UInt8} (h : c = 32) : (c :: t).dropWhile ([32].contains ·) = t.dropWhile ([32].contains ·) := by rw [List.dropWhile_cons_of_pos (by simp [h])]
theorem left_stop {c : UInt8} {t : List UInt8} (h : c ≠ 32) : (c :: t).dropWhile ([32].contains ·) = c :: t := by rw [List.dropWhile_cons_of_neg (by simp [h])]
theorem right_snoc {c : UInt8} {t : List UInt8} (h : c = 32) : Lib.trimRightS (t ++ [c]) [32] = Lib.trimRightS t [32] := by
  unfold Lib.trimRightS
  rw [List.reverse_append, List.reverse_singleton, List.singleton_append, left_cons h]
theorem right_stop {c : UInt8} {t : List UInt8} (h : c ≠ 32) : Lib.trimRightS (t ++ [c]) [32] = t ++ [c] := by
  unfold Lib.trimRightS
  rw [List.reverse_append, List.reverse_singleton, List.singleton_append, left_stop h]
  simp
set_option maxRecDepth 100000 in
set_option maxHeartbeats 4000000 in
theorem trimRightB_c (b off cap n : Nat) (l : List UInt8) (w : World) (h : BytM w b off l) (hn : l.length = n) (hm : n ≤ 100000) (hcap : n ≤ cap) :
    Calls Tryz.prog 74 #[.slice (some ⟨b, off, none⟩) n cap, .int .u8 32] w fun e w' => e = .returned (.slice (some ⟨b, off, none⟩) (Lib.trimRightS l [32]).length cap) ∧ w' = w := by
  have HB := Lib.hid h
  have HN := Lib.hid hn
  clear h hn
  go_enter Tryz.func74, Tryz.ntmps74
  go_wp2
  go_loopg [0] (n) (fun g s wr => ∃ t : Nat, wr = w ∧ s = .slice (some ⟨b, off, none⟩) t cap ∧ t ≤ n ∧ g = t ∧ Hid (Lib.trimRightS l [32] = Lib.trimRightS (l.take t) [32]))
  case atStart => exact ⟨n, rfl, rfl, Nat.le_refl _, rfl, Lib.hid (by rw [List.take_of_length_le (by rw [HN.out]; exact Nat.le_refl _)])⟩
  case round =>
    obtain ⟨t, rfl, rfl, ht, hg, HA⟩ := hrel
    have ht9 : (t : Int) ≤ 100000 := by omega
    by_cases h0 : t = 0
    · subst h0
      have hA := HA.out
      rw [List.take_zero] at hA
      have HL : Hid ((Lib.trimRightS l [32]).length = 0) := Lib.hid (by rw [hA]; rfl)
      clear hA HA
      go_wp2
      go_ret
      exact ⟨by rw [HL.out]; rfl, rfl⟩
    · have htp : (0 : Int) < (t : Int) := by omega
      have ht1 : (1 : Int) ≤ (t : Int) := by omega
      obtain ⟨c, hc⟩ : ∃ c, l[t - 1]? = some c := ⟨l[t - 1]'(by rw [HN.out]; omega), List.getElem?_eq_getElem _⟩
      have hz := (HB.out (t - 1) c hc).1
      have htk : l.take t = l.take (t - 1) ++ [c] := by
        have : l.take (t - 1 + 1) = l.take (t - 1) ++ [c] := by rw [List.take_add_one, hc]; rfl
        rwa [show t - 1 + 1 = t by omega] at this
      obtain ⟨u, rfl⟩ : ∃ u, t = u + 1 := ⟨t - 1, by omega⟩
      rw [show u + 1 - 1 = u by omega] at hz htk
      have hz' : wr.cell? ⟨b, off + u, none⟩ = some (.int .u8 (c.toNat : Int)) := hz
      have hup := run_upTo (w := wr) (some ⟨b, off, none⟩) (u + 1) cap u (by omega)
      have hu1 : ((u + 1 : Nat) : Int) - 1 = (u : Int) := by omega
      have hu0 : (0 : Int) ≤ (u : Int) := by omega
      clear hz hc h0
      by_cases hc : c = 32
      · have hcd : (c.toNat : Int) = 32 := by subst hc; rfl
        rw [hcd] at hz'
        have HA2 : Hid (Lib.trimRightS l [32] = Lib.trimRightS (l.take u) [32]) := Lib.hid (by rw [HA.out, htk, right_snoc hc])
        clear hcd hc htk
        go_wp2
        go_roundg u
        case measure => omega
        case rel => exact ⟨u, rfl, rfl, by omega, rfl, HA2⟩
      · have hcd : ((c.toNat : Int) == 32) = false := ne_byte c 32 32 rfl hc
        have hc0 : (0 : Int) ≤ (c.toNat : Int) := by omega
        have hc1 : (c.toNat : Int) ≤ 255 := by have := c.toNat_lt; omega
        have HL : Hid ((Lib.trimRightS l [32]).length = u + 1) := Lib.hid (by
          rw [HA.out, htk, right_stop hc, List.length_append, List.length_take, HN.out]
          simp
          omega)
        clear hc htk HA
        go_wp2
        go_ret
        exact ⟨by rw [HL.out]; rfl, rfl⟩
/-- What is left of a row when d of its bytes are cut off ahead; none if nothing is left. -/
def leftB (b off cap : Nat) (l : List UInt8) : Value := if l.dropWhile ([32].contains ·) = [] then .slice none 0 0 else .slice (some ⟨b, off + (l.length - (l.dropWhile ([32].contains ·)).length), none⟩) (l.dropWhile ([32].contains ·)).length (cap - (l.length - (l.dropWhile ([32].contains ·)).length))
set_option maxRecDepth 100000 in
set_option maxHeartbeats 4000000 in
theorem trimLeftB_c (b off cap n : Nat) (l : List UInt8) (w : World) (h : BytM w b off l) (hn : l.length = n) (hm : n ≤ 100000) (hcap : n ≤ cap) :
    Calls Tryz.prog 73 #[.slice (some ⟨b, off, none⟩) n cap, .int .u8 32] w fun e w' => e = .returned (leftB b off cap l) ∧ w' = w := by
  have HB := Lib.hid h
  have HN := Lib.hid hn
  have HLB : Hid (leftB b off cap l = if l.dropWhile ([32].contains ·) = [] then .slice none 0 0 else .slice (some ⟨b, off + (l.length - (l.dropWhile ([32].contains ·)).length), none⟩) (l.dropWhile ([32].contains ·)).length (cap - (l.length - (l.dropWhile ([32].contains ·)).length))) := Lib.hid rfl
  clear h hn
  generalize leftB b off cap l = R at *
  go_enter Tryz.func73, Tryz.ntmps73
  go_wp2
  go_loopg [0] (n) (fun g s wr => ∃ t o' : Nat, wr = w ∧ s = .slice (some ⟨b, o', none⟩) (n - t) (cap - t) ∧ t ≤ n ∧ g = n - t ∧ (t < n → o' = off + t) ∧ Hid (l.dropWhile ([32].contains ·) = (l.drop t).dropWhile ([32].contains ·)))
  case atStart => exact ⟨0, off, rfl, rfl, Nat.zero_le _, rfl, fun _ => rfl, Lib.hid rfl⟩
  case round =>
    obtain ⟨t, o', rfl, rfl, ht, hg, ho, HA⟩ := hrel
    by_cases h0 : t = n
    · subst h0
      have hA := HA.out
      rw [List.drop_of_length_le (by rw [HN.out]; exact Nat.le_refl _)] at hA
      have hA' : l.dropWhile ([32].contains ·) = [] := hA
      have HL : Hid (R = .slice none 0 0) := Lib.hid (by rw [HLB.out, if_pos hA'])
      have hnn : t - t = 0 := Nat.sub_self t
      rw [hnn]
      clear hA hA' HA HLB
      go_wp2
      go_ret
      exact ⟨by rw [HL.out]; rfl, rfl⟩
    · have hlt : t < n := by omega
      obtain rfl := ho hlt
      obtain ⟨c, hc⟩ : ∃ c, l[t]? = some c := ⟨l[t]'(by rw [HN.out]; exact hlt), List.getElem?_eq_getElem _⟩
      have hz' : wr.cell? ⟨b, off + t, none⟩ = some (.int .u8 (c.toNat : Int)) := (HB.out t c hc).1
      have hdr : l.drop t = c :: l.drop (t + 1) := by
        have hl := (List.getElem?_eq_some_iff.1 hc).1
        have he : l[t] = c := by rw [List.getElem?_eq_getElem hl] at hc; exact Option.some.inj hc
        rw [List.drop_eq_getElem_cons hl, he]
      obtain ⟨u, hu⟩ : ∃ u, n - t = u + 1 := ⟨n - t - 1, by omega⟩
      have hu0 : (0 : Int) < ((u + 1 : Nat) : Int) := by omega
      have hu2 : (u : Int) ≤ 100000 := by omega
      rw [hu]
      by_cases hcc : c = 32
      · have hcd : (c.toNat : Int) = 32 := by subst hcc; rfl
        rw [hcd] at hz'
        have HA2 : Hid (l.dropWhile ([32].contains ·) = (l.drop (t + 1)).dropWhile ([32].contains ·)) := Lib.hid (by rw [HA.out, hdr, left_cons hcc])
        clear hcd hcc hdr hc
        by_cases h1 : cap - t = 1
        · go_wp2
          go_roundg u
          case measure => omega
          case rel => exact ⟨t + 1, off + t, rfl, by rw [show n - (t + 1) = u by omega, show cap - (t + 1) = 0 by omega], by omega, by omega, fun h => by omega, HA2⟩
        · go_wp2
          go_roundg u
          case measure => omega
          case rel => exact ⟨t + 1, off + t + 1, rfl, by rw [show n - (t + 1) = u by omega, show cap - (t + 1) = cap - t - 1 by omega], by omega, by omega, fun h => by omega, HA2⟩
      · have hcd : ((c.toNat : Int) == 32) = false := ne_byte c 32 32 rfl hcc
        have hc0 : (0 : Int) ≤ (c.toNat : Int) := by omega
        have hc1 : (c.toNat : Int) ≤ 255 := by have := c.toNat_lt; omega
        have hu3 : (((u + 1 : Nat) : Int) == 0) = false := by simp; omega
        have HL : Hid (R = .slice (some ⟨b, off + t, none⟩) (u + 1) (cap - t)) := Lib.hid (by
          have hd : l.dropWhile ([32].contains ·) = l.drop t := by rw [HA.out, hdr, left_stop hcc]
          have hdl : (l.drop t).length = u + 1 := by rw [List.length_drop, HN.out]; omega
          rw [HLB.out, hd, if_neg (by rw [hdr]; simp), hdl, HN.out]
          rw [show n - (u + 1) = t by omega])
        clear hcc hdr hc HA HLB
        go_wp2
        go_ret
        exact ⟨by rw [HL.out]; rfl, rfl⟩
theorem right_take (l : List UInt8) : Lib.trimRightS l [32] = l.take (Lib.trimRightS l [32]).length ∧ (Lib.trimRightS l [32]).length ≤ l.length := by
  obtain ⟨k, hk⟩ := right_split l
  have h1 : l.take (Lib.trimRightS l [32]).length = Lib.trimRightS l [32] := by
    have := congrArg (List.take (Lib.trimRightS l [32]).length) hk
    rwa [List.take_left] at this
  exact ⟨h1.symm, by have := congrArg List.length hk; rw [List.length_append] at this; omega⟩
set_option maxRecDepth 100000 in
set_option maxHeartbeats 4000000 in
theorem trimB_c (b off cap n : Nat) (l : List UInt8) (w : World) (h : BytM w b off l) (hn : l.length = n) (hm : n ≤ 100000) (hcap : n ≤ cap) :
    Calls Tryz.prog 49 #[.slice (some ⟨b, off, none⟩) n cap, .string ⟨#[32]⟩] w fun e w' => e = .returned (leftB b off cap (Lib.trimRightS l [32])) ∧ ∃ q, w' = w.drewN q := by
  by_cases h0 : n = 0
  · subst h0
    have hl : l = [] := List.length_eq_zero_iff.1 hn
    subst hl
    have HR : Hid (leftB b off cap (Lib.trimRightS [] [32]) = .slice none 0 0) := Lib.hid rfl
    rw [HR.out]
    clear h hn hm hcap
    go_enter Tryz.func49, Tryz.ntmps49
    go_wp2
    go_ret
    exact ⟨rfl, 0, rfl⟩
  · have hkn : (Lib.trimRightS l [32]).length ≤ n := by rw [← hn]; exact (right_take l).2
    have CR : Hid (∀ m : Nat, Calls Tryz.prog 74 #[.slice (some ⟨b, off, none⟩) n cap, .int .u8 32] (w.drewN m) fun e w' => e = .returned (.slice (some ⟨b, off, none⟩) (Lib.trimRightS l [32]).length cap) ∧ w' = w.drewN m) := Lib.hid fun m => trimRightB_c b off cap n l (w.drewN m) h hn hm hcap
    have CL : Hid (∀ m : Nat, Calls Tryz.prog 73 #[.slice (some ⟨b, off, none⟩) (Lib.trimRightS l [32]).length cap, .int .u8 32] (w.drewN m) fun e w' => e = .returned (leftB b off cap (Lib.trimRightS l [32])) ∧ w' = w.drewN m) := Lib.hid fun m => trimLeftB_c b off cap _ (Lib.trimRightS l [32]) (w.drewN m) (by rw [(right_take l).1]; exact h.take _) rfl (by omega) (by omega)
    have hn0 : ((n : Int) == 0) = false := by simp; omega
    have g0 : ((⟨#[32]⟩ : ByteArray)[0]'(by decide)).toNat = 32 := rfl
    clear h hn hkn hcap h0
    generalize leftB b off cap (Lib.trimRightS l [32]) = R at *
    generalize (Lib.trimRightS l [32]).length = kR at *
    go_enter Tryz.func49, Tryz.ntmps49
    go_wp2_with fail
    go_quiet (first | (go_at_call 74; exact Calls.quiet_of_same (CR.out _)) | (go_at_call 73; exact Calls.quiet_of_same (CL.out _)))
    go_wp2
    go_ret
    exact ⟨rfl, nq, rfl⟩
end Go.Proofs.YtfemfgkcgboopaaGreatDoor
/- slices.CompactFunc of bytes. -/
namespace Go.Proofs.YtfemfgkcgboopaaGreatDoor
open Go.ChangeShapes Go.WideShapes Go.ChangeAt Go.RowKit
set_option linter.unusedVariables false
theorem belowRow {B : Nat} {a : World} (b : Nat) (hb : B ≤ b) : ∀ (vs : List Value) (o : Nat) {w : World}, Below B a w → Below B a (w.setCells b o vs)
  | [], _, _, h => h
  | v :: r, o, _, h => belowRow b hb r (o + 1) (h.setCell (p := ⟨b, o, none⟩) hb v)
set_option maxRecDepth 100000 in
set_option maxHeartbeats 4000000 in
theorem eqT_c (c d : UInt8) (w : World) : Calls Tryz.prog 51 #[.int .u8 (c.toNat : Int), .int .u8 (d.toNat : Int)] w fun e w' => e = .returned (.bool (decide (c = 32) && decide (d = 32))) ∧ w' = w := by
  have hc0 : (0 : Int) ≤ (c.toNat : Int) := by omega
  have hd0 : (0 : Int) ≤ (d.toNat : Int) := by omega
  by_cases hc : c = 32
  · have hcd : (c.toNat : Int) = 32 := by subst hc; rfl
    rw [hcd, decide_eq_true hc]
    by_cases hd : d = 32
    · have hdd : (d.toNat : Int) = 32 := by subst hd; rfl
      rw [hdd, decide_eq_true hd]
      go_enter Tryz.func51, Tryz.ntmps51
      go_wp2
      go_ret
      exact ⟨rfl, rfl⟩
    · have hdd : ((d.toNat : Int) == 32) = false := ne_byte d 32 32 rfl hd
      rw [decide_eq_false hd]
      go_enter Tryz.func51, Tryz.ntmps51
      go_wp2
      go_ret
      exact ⟨rfl, rfl⟩
  · have hcd : ((c.toNat : Int) == 32) = false := ne_byte c 32 32 rfl hc
    rw [decide_eq_false hc, Bool.false_and]
    go_enter Tryz.func51, Tryz.ntmps51
    go_wp2
    go_ret
    exact ⟨rfl, rfl⟩
theorem BytM.cellB {w : World} {b off : Nat} {l : List UInt8} (h : BytM w b off l) {j p : Nat} {x : UInt8} (hj : l[j]? = some x) (hp : off + j = p) : w.cell? ⟨b, p, none⟩ = some (.int .u8 (x.toNat : Int)) := by
  subst hp
  exact (h j x hj).1
theorem BytM.free {w : World} {b off : Nat} {l : List UInt8} (h : BytM w b off l) {j p : Nat} (hj : j < l.length) (hp : off + j = p) : w.frozen? ⟨b, p, none⟩ = false := by
  subst hp
  exact (h j _ (List.getElem?_eq_getElem hj)).2
theorem get_some {l : List UInt8} {j : Nat} (h : j < l.length) : ∃ c, l[j]? = some c := ⟨_, List.getElem?_eq_getElem h⟩
set_option maxRecDepth 100000 in
set_option maxHeartbeats 8000000 in
theorem compact_c (b off cap n : Nat) (l : List UInt8) (w : World) (h : BytM w b off l) (hn : l.length = n) (hm : n ≤ 100000) (hcap : n ≤ cap) :
    Calls Tryz.prog 50 #[.slice (some ⟨b, off, none⟩) n cap, .func (.func 51) #[] #[]] w fun e w' => e = .returned (.slice (some ⟨b, off, none⟩) (compW false l).length cap) ∧ BytM w' b off (compW false l) ∧ ∀ B, B ≤ b → Below B w w' := by
  have HB0 := Lib.hid h
  have HN := Lib.hid hn
  have hnn : (n : Int) ≤ 100000 := by omega
  by_cases h2 : n < 2
  · have h2i : (n : Int) < 2 := by omega
    have hl : compW false l = l := by
      match l, hn with
      | [], _ => rfl
      | [c], _ => exact comp_one (l := [c]) rfl
      | a :: c :: t, h => simp at h; omega
    rw [hl, hn]
    clear h hn hl h2
    go_enter Tryz.func50, Tryz.ntmps50
    go_wp2
    go_ret
    exact ⟨rfl, HB0.out, fun B _ => Below.refl _ _⟩
  · have h2i : ¬ (n : Int) < 2 := by omega
    have CE := Lib.hid eqT_c
    have HL1 : Hid (compW false (l.take 1) = l.take 1) := Lib.hid (by
      obtain ⟨c, hc⟩ := get_some (l := l) (j := 0) (by omega)
      rw [comp_one hc, List.take_add_one, hc]
      rfl)
    clear h hn
    go_enter Tryz.func50, Tryz.ntmps50
    go_wp2
    go_loopg [5] (n - 1) (fun g s wr => ∃ k : Nat, s = .int .i64 (k : Int) ∧ 1 ≤ k ∧ k ≤ n ∧ g = n - k ∧ Hid (BytM wr b off l) ∧ Hid (∀ B, B ≤ b → Below B w wr) ∧ Hid (compW false (l.take k) = l.take k))
    case atStart => exact ⟨1, rfl, Nat.le_refl _, by omega, by omega, HB0, Lib.hid (fun B _ => Below.refl _ _), HL1⟩
    case round =>
      obtain ⟨k, rfl, hk1, hk, hg, HB, HW, HC⟩ := hrel
      by_cases hkn : k < n
      · obtain ⟨m, rfl⟩ : ∃ m, k = m + 1 := ⟨k - 1, by omega⟩
        obtain ⟨c, hc⟩ := get_some (l := l) (j := m + 1) (by rw [HN.out]; exact hkn)
        obtain ⟨d, hd⟩ := get_some (l := l) (j := m) (by rw [HN.out]; omega)
        have z1 : wr.cell? ⟨b, off + (m + 1), none⟩ = some (.int .u8 (c.toNat : Int)) := HB.out.cellB hc rfl
        have z0 : wr.cell? ⟨b, off + m, none⟩ = some (.int .u8 (d.toNat : Int)) := HB.out.cellB hd rfl
        have e1 : ((m + 1 : Nat) : Int) - 1 = (m : Int) := by omega
        have i1 : ((m + 1 : Nat) : Int) < (n : Int) := by omega
        have i0 : (m : Int) < (n : Int) := by omega
        have i2 : (0 : Int) ≤ (m : Int) := by omega
        have i3 : (0 : Int) ≤ ((m + 1 : Nat) : Int) := by omega
        have CE1 : Hid (∀ q : Nat, Calls Tryz.prog 51 #[.int .u8 (c.toNat : Int), .int .u8 (d.toNat : Int)] (wr.drewN q) fun e w' => e = .returned (.bool (decide (c = 32) && decide (d = 32))) ∧ w' = wr.drewN q) := Lib.hid fun q => CE.out c d _
        have HC1 := Lib.hid hc
        have HD1 := Lib.hid hd
        clear hc hd
        cases hdup : (decide (c = 32) && decide (d = 32)) with
        | false =>
          rw [hdup] at CE1
          have HK : Hid (compW false (l.take (m + 1 + 1)) = l.take (m + 1 + 1)) := Lib.hid (by
            rw [comp_take HD1.out HC1.out, hdup, HC.out]
            have : l.take (m + 1 + 1) = l.take (m + 1) ++ [c] := by rw [List.take_add_one, HC1.out]; rfl
            rw [this]
            rfl)
          clear hdup
          go_wp2_with fail
          go_quiet ((go_at_call 51; exact Calls.quiet_of_same (CE1.out _)))
          go_wp2
          go_roundg (n - (m + 1 + 1))
          case measure => omega
          case rel => exact ⟨m + 1 + 1, by go_num, by omega, by omega, by omega, Lib.hid HB.out, Lib.hid (fun B hB => (HW.out B hB).trans (below_drewN' (n := nq) (Below.refl _ _))), HK⟩
        | true =>
          rw [hdup] at CE1
          have HI0 : Hid (CmpI l l (m + 1 + 1) (m + 1)) := Lib.hid (CmpI.start (by omega) HC.out (by simpa using HD1.out) HC1.out hdup)
          have hcm : ¬ cap = m + 1 := by omega
          clear hdup
          go_wp2_with fail
          go_quiet ((go_at_call 51; exact Calls.quiet_of_same (CE1.out _)))
          have HB1 : Hid (BytM (wr.drewN nq) b off l) := Lib.hid HB.out
          have HW1 : Hid (∀ B, B ≤ b → Below B w (wr.drewN nq)) := Lib.hid (fun B hB => (HW.out B hB).trans (below_drewN' (n := nq) (Below.refl _ _)))
          clear z0 z1 CE1 HB HW
          generalize wr.drewN nq = wv at *
          have hms : ((n - (m + 1) : Nat) : Int) = (n : Int) - ((m + 1 : Nat) : Int) := by omega
          go_wp2
          go_loopg [5, 7] (n - (m + 1 + 1)) (fun g s5 s7 wz => ∃ (kk q : Nat) (cur : List UInt8), s5 = .int .i64 (kk : Int) ∧ s7 = .int .i64 ((q + 1 : Nat) : Int) ∧ m + 1 + (q + 1) ≤ n ∧ g = n - (m + 1 + (q + 1)) ∧ Hid (CmpI l cur (m + 1 + q + 1) kk) ∧ Hid (BytM wz b off cur) ∧ Hid (∀ B, B ≤ b → Below B w wz))
          case atStart => exact ⟨m + 1, 0, l, rfl, rfl, by omega, by omega, HI0, HB1, HW1⟩
          case round =>
            obtain ⟨kk, q, cur, rfl, rfl, hle, hg2, HI, HBz, HWz⟩ := hrel
            have hkk := HI.out.le
            have hcl := HI.out.len
            have k0 : (0 : Int) ≤ (kk : Int) := by omega
            have k1 : (kk : Int) < (n : Int) := by omega
            have q0 : (0 : Int) ≤ (q : Int) := by omega
            have q1 : (0 : Int) ≤ ((q + 1 : Nat) : Int) := by omega
            have q2 : ((q + 1 : Nat) : Int) - 1 = (q : Int) := by omega
            have q3 : (q : Int) < ((n - (m + 1) : Nat) : Int) := by omega
            by_cases hlt : m + 1 + (q + 1) < n
            · have q4 : ((q + 1 : Nat) : Int) < ((n - (m + 1) : Nat) : Int) := by omega
              obtain ⟨c, hc⟩ := get_some (l := l) (j := m + 1 + q + 1) (by rw [HN.out]; omega)
              obtain ⟨d, hd⟩ := get_some (l := l) (j := m + 1 + q) (by rw [HN.out]; omega)
              have z1 : wr.cell? ⟨b, off + (m + 1) + (q + 1), none⟩ = some (.int .u8 (c.toNat : Int)) := HBz.out.cellB ((HI.out.rest _ (by omega)).trans hc) (by omega)
              have z0 : wr.cell? ⟨b, off + (m + 1) + q, none⟩ = some (.int .u8 (d.toNat : Int)) := HBz.out.cellB ((HI.out.rest _ (by omega)).trans hd) (by omega)
              obtain ⟨o, ho⟩ := get_some (l := cur) (j := kk) (by rw [hcl, HN.out]; omega)
              have zk : wr.cell? ⟨b, off + kk, none⟩ = some (.int .u8 (o.toNat : Int)) := HBz.out.cellB ho rfl
              have fk : wr.frozen? ⟨b, off + kk, none⟩ = false := HBz.out.free (by rw [hcl, HN.out]; omega) rfl
              have CE1 : Hid (∀ q : Nat, Calls Tryz.prog 51 #[.int .u8 (c.toNat : Int), .int .u8 (d.toNat : Int)] (wr.drewN q) fun e w' => e = .returned (.bool (decide (c = 32) && decide (d = 32))) ∧ w' = wr.drewN q) := Lib.hid fun q => CE.out c d _
              have HC1 := Lib.hid hc
              have HD1 := Lib.hid hd
              have HKL : Hid (kk < cur.length) := Lib.hid (by rw [hcl, HN.out]; omega)
              clear hc hd ho
              cases hdup : (decide (c = 32) && decide (d = 32)) with
              | true =>
                rw [hdup] at CE1
                have HI2 := Lib.hid (HI.out.skip HD1.out HC1.out hdup)
                clear hdup
                go_wp2_with fail
                go_quiet ((go_at_call 51; exact Calls.quiet_of_same (CE1.out _)))
                go_wp2
                go_roundg (n - (m + 1 + (q + 1 + 1)))
                case measure => omega
                case rel => exact ⟨kk, q + 1, cur, rfl, by go_num, by omega, by omega, Lib.hid HI2.out, Lib.hid HBz.out, Lib.hid (fun B hB => (HWz.out B hB).trans (below_drewN' (n := nq) (Below.refl _ _)))⟩
              | false =>
                rw [hdup] at CE1
                have HI2 := Lib.hid (HI.out.keepS HD1.out HC1.out hdup)
                clear hdup
                go_wp2_with fail
                go_quiet ((go_at_call 51; exact Calls.quiet_of_same (CE1.out _)))
                have HB2 : Hid (BytM (wr.drewN nq) b off cur) := Lib.hid HBz.out
                have HW2 : Hid (∀ B, B ≤ b → Below B w (wr.drewN nq)) := Lib.hid (fun B hB => (HWz.out B hB).trans (below_drewN' (n := nq) (Below.refl _ _)))
                have z1' : (wr.drewN nq).cell? ⟨b, off + (m + 1) + (q + 1), none⟩ = some (.int .u8 (c.toNat : Int)) := z1
                have zk' : (wr.drewN nq).cell? ⟨b, off + kk, none⟩ = some (.int .u8 (o.toNat : Int)) := zk
                have fk' : (wr.drewN nq).frozen? ⟨b, off + kk, none⟩ = false := fk
                clear z0 z1 zk fk CE1 HBz HWz
                generalize wr.drewN nq = wy at *
                go_wp2
                go_roundg (n - (m + 1 + (q + 1 + 1)))
                case measure => omega
                case rel => exact ⟨kk + 1, q + 1, cur.set kk c, by go_num, by go_num, by omega, by omega, Lib.hid HI2.out, Lib.hid (HB2.out.set HKL.out c), Lib.hid (fun B hB => (HW2.out B hB).setCell (by exact hB) _)⟩
            · have q4 : ¬ ((q + 1 : Nat) : Int) < ((n - (m + 1) : Nat) : Int) := by omega
              have hck : ¬ cap = kk := by omega
              have hend : m + 1 + q + 1 = n := by omega
              have hpre := HI.out.pre
              have hcnt := HI.out.cnt
              rw [hend, show l.take n = l by rw [List.take_of_length_le (by rw [HN.out]; exact Nat.le_refl _)]] at hpre hcnt
              have hcl2 : ∀ ty, (Builtin.clear_ #[65] ty #[.slice (some ⟨b, off + kk, none⟩) (n - kk) (cap - kk)]).run Tryz.prog wr = .ok (.tuple #[]) (wr.setCells b (off + kk) (List.replicate (n - kk) (.int .u8 0))) := fun ty => Lib.run_clear_slice wr _ _ ty _ Tryz.underlying65 (fun _ => rfl) rfl rfl b (off + kk) _ _ (by omega) (fun j hj => by
                obtain ⟨o, ho⟩ := get_some (l := cur) (j := kk + j) (by rw [hcl, HN.out]; omega)
                rw [HBz.out.cellB ho (by omega)]
                rfl) (fun j hj => HBz.out.free (j := kk + j) (by rw [hcl, HN.out]; omega) (by omega))
              have HF : Hid (BytM (wr.setCells b (off + kk) (List.replicate (n - kk) (.int .u8 0))) b off (compW false l) ∧ ∀ B, B ≤ b → Below B w (wr.setCells b (off + kk) (List.replicate (n - kk) (.int .u8 0)))) := Lib.hid ⟨fun j x hj => by
                have hjk : j < kk := by rw [hcnt]; exact (List.getElem?_eq_some_iff.1 hj).1
                rw [← hpre, List.getElem?_take_of_lt hjk] at hj
                have := HBz.out j x hj
                exact ⟨(World.cell?_setCells_out b _ _ _ _ (fun _ _ => .inl (by simp; omega))).trans this.1, (World.frozen?_setCells b _ _ _ _).trans this.2⟩, fun B hB => belowRow b hB _ _ (HWz.out B hB)⟩
              have HKC : Hid ((compW false l).length = kk) := Lib.hid hcnt.symm
              clear hpre hcnt hcl
              go_wp2
              go_ret
              exact ⟨by rw [HKC.out]; rfl, HF.out.1, HF.out.2⟩
      · have hkn' : ¬ (k : Int) < (n : Int) := by omega
        have hc := HC.out
        rw [List.take_of_length_le (by rw [HN.out]; omega)] at hc
        have HKC : Hid (compW false l = l) := Lib.hid hc
        clear hc
        go_wp2
        go_ret
        exact ⟨by rw [HKC.out, HN.out]; rfl, by rw [HKC.out]; exact HB.out, HW.out⟩
end Go.Proofs.YtfemfgkcgboopaaGreatDoor
/- atype.Trim. -/
namespace Go.Proofs.YtfemfgkcgboopaaGreatDoor
open Go.ChangeShapes Go.WideShapes Go.ChangeAt Go.RowKit
set_option linter.unusedVariables false
theorem bytM_new (w : World) (l : List UInt8) (hl : l.length ≤ 1000000) : BytM (Lib.bytesWorld w 5 ⟨l.toArray⟩) w.heap.size 0 l := fun j x hj => by
  have hsz : (⟨l.toArray⟩ : ByteArray).size = l.length := by simp [ByteArray.size]
  have hjl := (List.getElem?_eq_some_iff.1 hj).1
  refine ⟨?_, ?_⟩
  · have hb := (byt_new w l hl).at_ (by
      have := (byt_new w l hl).le
      omega)
    obtain ⟨b, o, e, _, hc⟩ := hb
    cases e
    exact hc j (bv x) (by rw [List.getElem?_map, hj]; rfl)
  · have hsl : j < (Lib.bytesCells w 5 ⟨l.toArray⟩).size := by
      unfold Lib.bytesCells
      rw [Array.size_append, Array.size_map]
      have h3 : (⟨l.toArray⟩ : ByteArray).data.size = l.length := by simp
      rw [h3]
      omega
    simp only [World.frozen?, Lib.bytesWorld_at_new]
    simp
    omega
set_option maxRecDepth 100000 in
set_option maxHeartbeats 4000000 in
theorem compact_nil (w : World) : Calls Tryz.prog 50 #[.slice none 0 0, .func (.func 51) #[] #[]] w fun e w' => e = .returned (.slice none 0 0) ∧ w' = w := by
  go_enter Tryz.func50, Tryz.ntmps50
  go_wp2
  go_ret
  exact ⟨rfl, rfl⟩
set_option maxRecDepth 100000 in
set_option maxHeartbeats 4000000 in
theorem atTrim_c (k : Int) (s : List UInt8) (w : World) (hm : s.length ≤ 100000) :
    Calls Tryz.prog 27 #[.int .i64 k, .string ⟨s.toArray⟩] w fun e w' => e = .returned (.string ⟨(trimK k s).toArray⟩) ∧ Below w.heap.size w w' := by
  unfold trimK
  by_cases hk : k = 1
  · rw [if_pos hk]
    subst hk
    clear hm
    go_enter Tryz.func27, Tryz.ntmps27
    go_wp2
    go_ret
    exact ⟨rfl, Below.refl _ _⟩
  · rw [if_neg hk]
    have hkb : (k == 1) = false := by simpa using hk
    have cv := run_toBytes w s
    have hby := byt_new w s (by omega)
    have hbm := bytM_new w s (by omega)
    have hb1 := Lib.bytesWorld_below w 5 ⟨s.toArray⟩
    have hs1 : (Lib.bytesWorld w 5 ⟨s.toArray⟩).heap.size = w.heap.size + 1 := Lib.bytesWorld_size _ _ _
    obtain ⟨V, hV⟩ : ∃ V, Lib.bytesWorld w 5 ⟨s.toArray⟩ = V := ⟨_, rfl⟩
    rw [hV] at cv hby hbm hb1 hs1
    have hle := hby.le
    have hfit := hby.fit
    generalize grownCap w s.length 0 5 = cap at cv hby hle hfit
    have CT := Lib.hid (trimB_c w.heap.size 0 cap s.length s V hbm rfl hm hle)
    have hrt := right_take s
    have htc := trim_comp s
    unfold Lib.trimS Lib.trimLeftS at htc
    rw [← htc]
    unfold leftB at CT
    have hbr : BytM V w.heap.size 0 (Lib.trimRightS s [32]) := by rw [hrt.1]; exact hbm.take _
    have hrl := hrt.2
    clear hk hV hby htc hrt
    generalize Lib.trimRightS s [32] = r at *
    have HB1 := Lib.hid (And.intro hb1 hs1)
    by_cases hd : r.dropWhile ([32].contains ·) = []
    · rw [if_pos hd] at CT
      rw [hd]
      have CN := Lib.hid compact_nil
      have hsn : ∀ W : World, (convert 65 9 (.slice none 0 0)).run Tryz.prog W = .ok (.string ⟨#[]⟩) W := fun W => Byt.str (B := 0) (l := []) (⟨rfl, Nat.le_refl _, Nat.zero_le _, fun _ => rfl, fun h => absurd h (by omega)⟩)
      have HE : Hid (compW false [] = []) := Lib.hid rfl
      rw [HE.out]
      clear hd hbr hbm hb1 hs1 hm hle hfit hrl
      go_enter Tryz.func27, Tryz.ntmps27
      go_wp2_with fail
      refine CT.out.mono ?_
      rintro e w1 ⟨rfl, q, rfl⟩
      clear cv
      go_wp2_with fail
      refine (CN.out _).mono ?_
      rintro e w2 ⟨rfl, rfl⟩
      go_wp2
      go_ret
      exact ⟨rfl, below_drewN' HB1.out.1⟩
    · rw [if_neg hd] at CT
      have hdl : (r.dropWhile ([32].contains ·)).length ≤ r.length := (List.dropWhile_suffix _).length_le
      have hde : r.dropWhile ([32].contains ·) = r.drop (r.length - (r.dropWhile ([32].contains ·)).length) := by
        have := (List.dropWhile_suffix (l := r) ([32].contains ·))
        exact List.suffix_iff_eq_drop.1 this
      have hbd : BytM V w.heap.size (0 + (r.length - (r.dropWhile ([32].contains ·)).length)) (r.dropWhile ([32].contains ·)) := by
        have := hbr.drop (r.length - (r.dropWhile ([32].contains ·)).length)
        rwa [← hde] at this
      have hlen : (r.dropWhile ([32].contains ·)).length ≤ 100000 := by omega
      generalize r.length - (r.dropWhile ([32].contains ·)).length = dd at *
      have hcap2 : (r.dropWhile ([32].contains ·)).length ≤ cap - dd := by
        have := congrArg List.length hde
        rw [List.length_drop] at this
        omega
      generalize r.dropWhile ([32].contains ·) = d at *
      have CC : Hid (∀ q : Nat, Calls Tryz.prog 50 #[.slice (some ⟨w.heap.size, 0 + dd, none⟩) d.length (cap - dd), .func (.func 51) #[] #[]] (V.drewN q) fun e w' => e = .returned (.slice (some ⟨w.heap.size, 0 + dd, none⟩) (compW false d).length (cap - dd)) ∧ BytM w' w.heap.size (0 + dd) (compW false d) ∧ ∀ B, B ≤ w.heap.size → Below B (V.drewN q) w') := Lib.hid fun q => compact_c w.heap.size (0 + dd) (cap - dd) d.length d (V.drewN q) hbd rfl hlen hcap2
      have hfit2 : cap - dd ≤ maxLen := by omega
      have hcl := comp_len d false
      have HSZ : Hid ((compW false d).length ≤ cap - dd ∧ cap - dd ≤ maxLen) := Lib.hid ⟨by omega, hfit2⟩
      clear hd hbr hbm hb1 hs1 hm hle hfit hrl hdl hde hbd hlen hcap2 hfit2 hcl
      generalize compW false d = T at *
      generalize cap - dd = cp at *
      generalize 0 + dd = off at *
      go_enter Tryz.func27, Tryz.ntmps27
      go_wp2_with fail
      refine CT.out.mono ?_
      rintro e w1 ⟨rfl, q, rfl⟩
      clear cv
      go_wp2_with fail
      refine (CC.out q).mono ?_
      rintro e w2 ⟨rfl, hbT, hBT⟩
      have hbw := hBT w.heap.size (Nat.le_refl _)
      have hsz2 : w.heap.size < w2.heap.size := by
        have := hbw.size
        have h2 : (V.drewN q).heap.size = V.heap.size := rfl
        have := HB1.out.2
        omega
      have hst := (hbT.byt hsz2 HSZ.out.1 HSZ.out.2).str
      have HBF := Lib.hid ((below_drewN' (n := q) HB1.out.1).trans hbw)
      clear hbT hBT hbw hsz2
      go_wp2
      go_ret
      exact ⟨rfl, HBF.out⟩
end Go.Proofs.YtfemfgkcgboopaaGreatDoor
