/- Texts of ours, joined: AtO, AtG, AtV, Laid, Laid3, StO, Agg5. -/
import Derived.Test.YtbfdomipkfbaeaaDoorRows
import Derived.WalkKit
import Derived.ProofKit
import Derived.OpenShut
import Derived.ShutString
import Derived.ChangeOld
import Derived.Below
import Derived.BigQuiet
import Derived.Deep.QuietTactic
import Derived.Lib.Hide
import Derived.Deep.RegionHeld3
import Derived.Lib.SlBytesConst
import Derived.Laws.CopyOwn
import Derived.Laws.CopyRow
import Derived.Lib.Bytes
import Derived.Deep.LoopGhost
import Derived.Deep.DeepFit
import Derived.Deep.DeepMust
import Derived.WalkSpells
import Derived.WalkLawsBesides
import Derived.Laws.EntriesVeiled
import Derived.Laws.Rows
import Derived.Laws.World
import Derived.Maps.OwnOps
import Derived.Maps.AppendAt
import Derived.Deep.AppendLies
import Derived.Deep.RegionLaw
import Derived.Test.YtbfdomipkfbaeaaDoorA1
import Derived.Test.YtbfdomipkfbaeaaDoorA2
import Derived.Test.YtbfdomipkfbaeaaDoorA3
import Derived.Test.YtbfdomipkfbaeaaDoorA4
import Derived.Test.YtbfdomipkfbaeaaDoorA6
import Derived.Test.YtbfdomipkfbaeaaDoorA7
import Derived.Lib.LaidCaseMet
import Derived.Deep.DeepLaidRun
import Derived.Test.YtbfdomipkfbaeaaDoorA5
import Derived.Maps.OwnSet
import Derived.Maps.Views
import Derived.Lib.SmallJoins
import Derived.Deep.RegionWith
import Derived.Deep.DeepHandedRow
import Derived.Deep.SlicePairs
import Derived.Deep.Slices
import Derived.ChangeArms
/- atype.Same, give. -/
namespace Go.Proofs.YtbfdomipkfbaeaaDoor
open Go.ChangeShapes Go.WideShapes Go.ChangeAt Go.RowKit
set_option linter.unusedVariables false
def cS (s : List UInt8) : List Value := [.string ⟨s.toArray⟩]
theorem flat_cS : ∀ op : List (List UInt8), op.flatMap cS = op.map strV
  | [] => rfl
  | a :: t => by rw [List.flatMap_cons, List.map_cons, flat_cS t]; rfl
theorem OwnS.rrd {w : World} {base : Nat} {v : Value} {op : List (List UInt8)} (h : OwnS w base v op) : ∃ A c, v = .slice A op.length c ∧ RRd cS 1 w w.heap.size A op.length c op := by
  unfold OwnS at h
  rw [← flat_cS] at h
  exact RRd.ofOwn (c := cS) (k := 1) (fun _ => rfl) (by decide) h
theorem rrd_get {w : World} {B n c i : Nat} {A : Option Addr} {ws : List (List UInt8)} (h : RRd cS 1 w B A n c ws) (hi : i < n) : ∃ b o s, A = some ⟨b, o, none⟩ ∧ b < B ∧ ws[i]? = some s ∧ w.cell? ⟨b, o + i, none⟩ = some (.string ⟨s.toArray⟩) := by
  obtain ⟨b, o, s, hA, hb, hs, hc⟩ := h.cell hi
  have := hc 0 _ rfl
  rw [Nat.mul_one, Nat.add_zero] at this
  exact ⟨b, o, s, hA, hb, hs, this⟩
theorem equal_yes (A1 A2 : Option Addr) (n c1 c2 : Nat) (ws : List (List UInt8)) (w : World) (h1 : RRd cS 1 w w.heap.size A1 n c1 ws) (h2 : RRd cS 1 w w.heap.size A2 n c2 ws) :
    Calls Tryd.prog 48 #[.slice A1 n c1, .slice A2 n c2] w fun e w' => e = .returned (.bool true) ∧ ∃ q, w' = w.drewN q := by
  by_cases h0 : n = 0
  · subst h0
    exact (Tryd.slices_Equal_string_empty A1 A2 c1 0 c2 w (by omega)).mono fun e w' ⟨he, hw⟩ => ⟨he, 0, hw⟩
  · obtain ⟨b1, o1, _, rfl, _⟩ := rrd_get h1 (i := 0) (by omega)
    obtain ⟨b2, o2, _, rfl, _⟩ := rrd_get h2 (i := 0) (by omega)
    have hn := h1.len
    have hf := h1.fit
    have hl := h1.le
    have hm : maxLen = 9223372036854775807 := rfl
    have hcell : ∀ {b o c : Nat}, RRd cS 1 w w.heap.size (some ⟨b, o, none⟩) n c ws → ∀ j, j < (ws.map fun s => (⟨s.toArray⟩ : ByteArray)).length → w.cell? ⟨b, o + j, none⟩ = some (.string ((ws.map fun s => (⟨s.toArray⟩ : ByteArray)).getD j ByteArray.empty)) := fun h j hj => by
      rw [List.length_map] at hj
      obtain ⟨b', o', s, hA, _, hs, hz⟩ := rrd_get h (i := j) (by omega)
      cases hA
      rw [hz]
      simp [List.getD, hs]
    exact (Tryd.slices_Equal_string b1 o1 n c1 b2 o2 n c2 (ws.map fun s => ⟨s.toArray⟩) (ws.map fun s => ⟨s.toArray⟩) w (by rw [List.length_map]; omega) (by rw [List.length_map]; omega) (by omega) (by omega) (hcell h1) (hcell h2)).mono fun e w' ⟨he, hw⟩ => ⟨by rw [he, decide_eq_true rfl], hw⟩
set_option maxRecDepth 100000 in
set_option maxHeartbeats 4000000 in
theorem atSame_yes (k m : Int) (name val : List UInt8) (A1 A2 : Option Addr) (n1 c1 c2 : Nat) (ws : List (List UInt8)) (w : World) (h1 : RRd cS 1 w w.heap.size A1 n1 c1 ws) (h2 : RRd cS 1 w w.heap.size A2 n1 c2 ws):
    Calls Tryd.prog 23 #[.agg #[.string ⟨name.toArray⟩, .int .i64 k, .slice A1 n1 c1, .int .i64 m, .string ⟨val.toArray⟩], .agg #[.string ⟨name.toArray⟩, .int .i64 k, .slice A2 n1 c2, .int .i64 m, .string ⟨val.toArray⟩]] w fun e w' => e = .returned (.bool true) ∧ Below w.heap.size w w' := by
  have hb := ((Below.refl w.heap.size w).alloc (Nat.le_refl _) (.cells #[.string ⟨name.toArray⟩, .int .i64 k, .slice A1 n1 c1, .int .i64 m, .string ⟨val.toArray⟩] 55)).alloc (by simp) (.cells #[.string ⟨name.toArray⟩, .int .i64 k, .slice A2 n1 c2, .int .i64 m, .string ⟨val.toArray⟩] 55)
  have HB := Lib.hid hb
  have CS := Lib.hid (equal_yes A1 A2 n1 c1 c2 ws _ ((h1.below hb).more hb.size) ((h2.below hb).more hb.size))
  have q1 : ((w.alloc (.cells #[.string ⟨name.toArray⟩, .int .i64 k, .slice A1 n1 c1, .int .i64 m, .string ⟨val.toArray⟩] 55)).alloc (.cells #[.string ⟨name.toArray⟩, .int .i64 k, .slice A2 n1 c2, .int .i64 m, .string ⟨val.toArray⟩] 55)).heap[w.heap.size]? = some (.cells #[.string ⟨name.toArray⟩, .int .i64 k, .slice A1 n1 c1, .int .i64 m, .string ⟨val.toArray⟩] 55) := by
    rw [Below.heap_alloc _ _ _ (by simp)]; exact hp_new _ _
  have q2 : ((w.alloc (.cells #[.string ⟨name.toArray⟩, .int .i64 k, .slice A1 n1 c1, .int .i64 m, .string ⟨val.toArray⟩] 55)).alloc (.cells #[.string ⟨name.toArray⟩, .int .i64 k, .slice A2 n1 c2, .int .i64 m, .string ⟨val.toArray⟩] 55)).heap[w.heap.size + 1]? = some (.cells #[.string ⟨name.toArray⟩, .int .i64 k, .slice A2 n1 c2, .int .i64 m, .string ⟨val.toArray⟩] 55) := by
    have := hp_new (w.alloc (.cells #[.string ⟨name.toArray⟩, .int .i64 k, .slice A1 n1 c1, .int .i64 m, .string ⟨val.toArray⟩] 55)) (.cells #[.string ⟨name.toArray⟩, .int .i64 k, .slice A2 n1 c2, .int .i64 m, .string ⟨val.toArray⟩] 55)
    rwa [World.size_alloc] at this
  have x0 := cell_of 0 q1
  have y0 := cell_of 0 q2
  have x1 := cell_of 1 q1
  have y1 := cell_of 1 q2
  have x2 := cell_of 2 q1
  have y2 := cell_of 2 q2
  have x3 := cell_of 3 q1
  have y3 := cell_of 3 q2
  have x4 := cell_of 4 q1
  have y4 := cell_of 4 q2
  clear hb q1 q2 h1 h2
  go_enter Tryd.func23, Tryd.ntmps23
  go_wp2_with fail
  refine CS.out.mono ?_
  rintro e w1 ⟨rfl, ⟨q, rfl⟩⟩
  go_wp2
  go_ret
  exact ⟨rfl, below_drewN' HB.out⟩
set_option maxRecDepth 100000 in
set_option maxHeartbeats 4000000 in
theorem atSame_mode (k m : Int) (name val : List UInt8) (A1 A2 : Option Addr) (n1 c1 c2 : Nat) (n2 : Nat) (m2 : Int) (w : World) (hne : m ≠ m2):
    Calls Tryd.prog 23 #[.agg #[.string ⟨name.toArray⟩, .int .i64 k, .slice A1 n1 c1, .int .i64 m, .string ⟨val.toArray⟩], .agg #[.string ⟨name.toArray⟩, .int .i64 k, .slice A2 n2 c2, .int .i64 m2, .string ⟨val.toArray⟩]] w fun e w' => e = .returned (.bool false) ∧ Below w.heap.size w w' := by
  have hb := ((Below.refl w.heap.size w).alloc (Nat.le_refl _) (.cells #[.string ⟨name.toArray⟩, .int .i64 k, .slice A1 n1 c1, .int .i64 m, .string ⟨val.toArray⟩] 55)).alloc (by simp) (.cells #[.string ⟨name.toArray⟩, .int .i64 k, .slice A2 n2 c2, .int .i64 m2, .string ⟨val.toArray⟩] 55)
  have HB := Lib.hid hb

  have q1 : ((w.alloc (.cells #[.string ⟨name.toArray⟩, .int .i64 k, .slice A1 n1 c1, .int .i64 m, .string ⟨val.toArray⟩] 55)).alloc (.cells #[.string ⟨name.toArray⟩, .int .i64 k, .slice A2 n2 c2, .int .i64 m2, .string ⟨val.toArray⟩] 55)).heap[w.heap.size]? = some (.cells #[.string ⟨name.toArray⟩, .int .i64 k, .slice A1 n1 c1, .int .i64 m, .string ⟨val.toArray⟩] 55) := by
    rw [Below.heap_alloc _ _ _ (by simp)]; exact hp_new _ _
  have q2 : ((w.alloc (.cells #[.string ⟨name.toArray⟩, .int .i64 k, .slice A1 n1 c1, .int .i64 m, .string ⟨val.toArray⟩] 55)).alloc (.cells #[.string ⟨name.toArray⟩, .int .i64 k, .slice A2 n2 c2, .int .i64 m2, .string ⟨val.toArray⟩] 55)).heap[w.heap.size + 1]? = some (.cells #[.string ⟨name.toArray⟩, .int .i64 k, .slice A2 n2 c2, .int .i64 m2, .string ⟨val.toArray⟩] 55) := by
    have := hp_new (w.alloc (.cells #[.string ⟨name.toArray⟩, .int .i64 k, .slice A1 n1 c1, .int .i64 m, .string ⟨val.toArray⟩] 55)) (.cells #[.string ⟨name.toArray⟩, .int .i64 k, .slice A2 n2 c2, .int .i64 m2, .string ⟨val.toArray⟩] 55)
    rwa [World.size_alloc] at this
  have x0 := cell_of 0 q1
  have y0 := cell_of 0 q2
  have x1 := cell_of 1 q1
  have y1 := cell_of 1 q2
  have x2 := cell_of 2 q1
  have y2 := cell_of 2 q2
  have x3 := cell_of 3 q1
  have y3 := cell_of 3 q2
  have x4 := cell_of 4 q1
  have y4 := cell_of 4 q2
  have hm : (m == m2) = false := by simpa using hne
  clear hb q1 q2 hne
  go_enter Tryd.func23, Tryd.ntmps23
  go_wp2
  go_ret
  exact ⟨rfl, HB.out⟩
set_option maxRecDepth 100000 in
set_option maxHeartbeats 4000000 in
theorem atSame_len (k m : Int) (name val : List UInt8) (A1 A2 : Option Addr) (n1 c1 c2 : Nat) (n2 : Nat) (w : World) (hne : n1 ≠ n2):
    Calls Tryd.prog 23 #[.agg #[.string ⟨name.toArray⟩, .int .i64 k, .slice A1 n1 c1, .int .i64 m, .string ⟨val.toArray⟩], .agg #[.string ⟨name.toArray⟩, .int .i64 k, .slice A2 n2 c2, .int .i64 m, .string ⟨val.toArray⟩]] w fun e w' => e = .returned (.bool false) ∧ Below w.heap.size w w' := by
  have hb := ((Below.refl w.heap.size w).alloc (Nat.le_refl _) (.cells #[.string ⟨name.toArray⟩, .int .i64 k, .slice A1 n1 c1, .int .i64 m, .string ⟨val.toArray⟩] 55)).alloc (by simp) (.cells #[.string ⟨name.toArray⟩, .int .i64 k, .slice A2 n2 c2, .int .i64 m, .string ⟨val.toArray⟩] 55)
  have HB := Lib.hid hb
  have CS := Lib.hid (Tryd.slices_Equal_string_lens A1 A2 n1 c1 n2 c2 ((w.alloc (.cells #[.string ⟨name.toArray⟩, .int .i64 k, .slice A1 n1 c1, .int .i64 m, .string ⟨val.toArray⟩] 55)).alloc (.cells #[.string ⟨name.toArray⟩, .int .i64 k, .slice A2 n2 c2, .int .i64 m, .string ⟨val.toArray⟩] 55)) hne)
  have q1 : ((w.alloc (.cells #[.string ⟨name.toArray⟩, .int .i64 k, .slice A1 n1 c1, .int .i64 m, .string ⟨val.toArray⟩] 55)).alloc (.cells #[.string ⟨name.toArray⟩, .int .i64 k, .slice A2 n2 c2, .int .i64 m, .string ⟨val.toArray⟩] 55)).heap[w.heap.size]? = some (.cells #[.string ⟨name.toArray⟩, .int .i64 k, .slice A1 n1 c1, .int .i64 m, .string ⟨val.toArray⟩] 55) := by
    rw [Below.heap_alloc _ _ _ (by simp)]; exact hp_new _ _
  have q2 : ((w.alloc (.cells #[.string ⟨name.toArray⟩, .int .i64 k, .slice A1 n1 c1, .int .i64 m, .string ⟨val.toArray⟩] 55)).alloc (.cells #[.string ⟨name.toArray⟩, .int .i64 k, .slice A2 n2 c2, .int .i64 m, .string ⟨val.toArray⟩] 55)).heap[w.heap.size + 1]? = some (.cells #[.string ⟨name.toArray⟩, .int .i64 k, .slice A2 n2 c2, .int .i64 m, .string ⟨val.toArray⟩] 55) := by
    have := hp_new (w.alloc (.cells #[.string ⟨name.toArray⟩, .int .i64 k, .slice A1 n1 c1, .int .i64 m, .string ⟨val.toArray⟩] 55)) (.cells #[.string ⟨name.toArray⟩, .int .i64 k, .slice A2 n2 c2, .int .i64 m, .string ⟨val.toArray⟩] 55)
    rwa [World.size_alloc] at this
  have x0 := cell_of 0 q1
  have y0 := cell_of 0 q2
  have x1 := cell_of 1 q1
  have y1 := cell_of 1 q2
  have x2 := cell_of 2 q1
  have y2 := cell_of 2 q2
  have x3 := cell_of 3 q1
  have y3 := cell_of 3 q2
  have x4 := cell_of 4 q1
  have y4 := cell_of 4 q2
  clear hb q1 q2 hne
  go_enter Tryd.func23, Tryd.ntmps23
  go_wp2_with fail
  refine CS.out.mono ?_
  rintro e w1 ⟨rfl, rfl⟩
  go_wp2
  go_ret
  exact ⟨rfl, HB.out⟩
set_option maxRecDepth 100000 in
set_option maxHeartbeats 4000000 in
theorem give15_c (k m : Int) (name val : List UInt8) (A : Option Addr) (n c : Nat) (w : World) : Calls Tryd.prog 24 #[.agg #[.string ⟨name.toArray⟩, .int .i64 k, .slice A n c, .int .i64 m, .string ⟨val.toArray⟩]] w fun e w' => e = .returned (.agg #[.string ⟨name.toArray⟩, .int .i64 k, .slice A n c, .int .i64 m, .string ⟨val.toArray⟩]) ∧ Below w.heap.size w w' := by
  have hi : (Tryd.prog.info? 55).map (·.size) = some 5 := by kernel_rfl
  obtain ⟨sd, hu⟩ := isStruct_of (P := Tryd.prog) (t := 55) (by kernel_rfl)
  have hq : ((w.alloc (.cells #[.string ⟨name.toArray⟩, .int .i64 k, .slice A n c, .int .i64 m, .string ⟨val.toArray⟩] 51)).alloc (.cells #[.string ⟨name.toArray⟩, .int .i64 k, .slice A n c, .int .i64 m, .string ⟨val.toArray⟩] 55)).heap[w.heap.size + 1]? = some (.cells #[.string ⟨name.toArray⟩, .int .i64 k, .slice A n c, .int .i64 m, .string ⟨val.toArray⟩] 55) := by
    have := hp_new (w.alloc (.cells #[.string ⟨name.toArray⟩, .int .i64 k, .slice A n c, .int .i64 m, .string ⟨val.toArray⟩] 51)) (.cells #[.string ⟨name.toArray⟩, .int .i64 k, .slice A n c, .int .i64 m, .string ⟨val.toArray⟩] 55)
    rwa [World.size_alloc] at this
  have HQ := Lib.hid hq
  have HB := Lib.hid (((Below.refl w.heap.size w).alloc (Nat.le_refl _) (.cells #[.string ⟨name.toArray⟩, .int .i64 k, .slice A n c, .int .i64 m, .string ⟨val.toArray⟩] 51)).alloc (by simp) (.cells #[.string ⟨name.toArray⟩, .int .i64 k, .slice A n c, .int .i64 m, .string ⟨val.toArray⟩] 55))
  have HU := Lib.hid (And.intro hi hu)
  clear hq hi hu
  go_enter Tryd.func24, Tryd.ntmps24
  go_wp2
  (try simp only [Exit.inBlock, Exit.then])
  exact bodyPost_ret (results_cell_row rfl _ _ (w.heap.size + 1) _ _ _ _ rfl HQ.out HU.out.2 rfl HU.out.1) rfl ⟨rfl, HB.out⟩
end Go.Proofs.YtbfdomipkfbaeaaDoor
/- Great of an attribute. -/
namespace Go.Proofs.YtbfdomipkfbaeaaDoor
open Go.ChangeShapes Go.WideShapes Go.ChangeAt Go.RowKit
set_option linter.unusedVariables false
def greatW (s : List UInt8) : Bool := decide (1200 < s.length)
def greatD (name val : List UInt8) (ws : List (List UInt8)) : Bool := ((ws.take 30).any greatW) || (decide (1200 < name.length) || (decide (12 < ws.length) || decide (300 < val.length)))
theorem greatD_no {name val : List UInt8} {ws : List (List UInt8)} (h : greatD name val ws = false) : name.length ≤ 1200 ∧ ws.length ≤ 12 ∧ val.length ≤ 300 ∧ ∀ s ∈ ws, s.length ≤ 1200 := by
  unfold greatD at h
  simp only [Bool.or_eq_false_iff, decide_eq_false_iff_not] at h
  have hl : ws.length ≤ 12 := by omega
  rw [List.take_of_length_le (by omega)] at h
  refine ⟨by omega, hl, by omega, fun s hs => ?_⟩
  have := List.any_eq_false.1 h.1 s hs
  simp only [greatW, decide_eq_true_eq] at this
  omega
theorem take_snoc3 {α : Type} {l : List α} {t : Nat} {p : α} (h : l[t]? = some p) : l.take (t + 1) = l.take t ++ [p] := by rw [List.take_add_one, h]; rfl
set_option maxRecDepth 100000 in
set_option maxHeartbeats 8000000 in
theorem great15_c (k m : Int) (name val : List UInt8) (A : Option Addr) (n cap : Nat) (ws : List (List UInt8)) (w : World) (h : RRd cS 1 w w.heap.size A n cap ws) :
    Calls Tryd.prog 19 #[.agg #[.string ⟨name.toArray⟩, .int .i64 k, .slice A n cap, .int .i64 m, .string ⟨val.toArray⟩]] w fun e w' => e = .returned (.bool (greatD name val ws)) ∧ Below w.heap.size w w' := by
  have J0 := Lib.hid (CJ.start 51 w #[.string ⟨name.toArray⟩, .int .i64 k, .slice A n cap, .int .i64 m, .string ⟨val.toArray⟩])
  have HP := Lib.hid (h.below J0.out.1)
  have HLN : Hid (ws.length = n) := Lib.hid h.len
  have z0 := cell_of 0 J0.out.2
  have z2 := cell_of 2 J0.out.2
  have z4 := cell_of 4 J0.out.2
  have HG : Hid (greatD name val ws = (((ws.take 30).any greatW) || (decide (1200 < name.length) || (decide (12 < ws.length) || decide (300 < val.length))))) := Lib.hid rfl
  obtain ⟨G, hG⟩ : ∃ b, greatD name val ws = b := ⟨_, rfl⟩
  rw [hG] at HG ⊢
  clear h hG
  go_enter Tryd.func19, Tryd.ntmps19
  go_wp2
  generalize w.alloc (.cells #[.string ⟨name.toArray⟩, .int .i64 k, .slice A n cap, .int .i64 m, .string ⟨val.toArray⟩] 51) = wa at *
  go_loopg [3] (n) (fun g i wr => ∃ t : Nat, t ≤ n ∧ t ≤ 30 ∧ Hid (g + t = n) ∧ i = .int .i64 (t : Int) ∧ wa = wr ∧ Hid ((ws.take t).any greatW = false))
  case atStart => exact ⟨0, Nat.zero_le _, Nat.zero_le _, Lib.hid (by omega), rfl, rfl, Lib.hid rfl⟩
  case round =>
    obtain ⟨t, ht, ht4, hg, rfl, rfl, HN⟩ := hrel
    have ht0 : (0 : Int) ≤ (t : Int) := by omega
    have htb : (t : Int) ≤ 30 := by omega
    by_cases htn : t < n ∧ t < 30
    · have htni : (t : Int) < (n : Int) := by omega
      have htn4 : (t : Int) < 30 := by omega
      obtain ⟨b, o, p, rfl, hb, hp, hc0⟩ := rrd_get HP.out htn.1
      have htk := take_snoc3 hp
      have HAN : Hid ((ws.take (t + 1)).any greatW = ((ws.take t).any greatW || greatW p)) := Lib.hid (by rw [htk, List.any_append]; simp)
      have HT : Hid (greatW p = true → G = true) := Lib.hid fun h0 => by
        rw [HG.out]
        have : (ws.take 30).any greatW = true := List.any_eq_true.2 ⟨p, by
          have h1 : (ws.take 30)[t]? = some p := by rw [List.getElem?_take_of_lt htn.2]; exact hp
          exact List.mem_of_getElem? h1, h0⟩
        rw [this]; rfl
      clear hb hp htk
      by_cases h1 : 1200 < p.length
      · have h1i : (1200 : Int) < (p.length : Int) := by omega
        have HE := HT.out (by unfold greatW; simp [h1])
        subst HE
        go_wp2
        go_ret
        exact ⟨rfl, J0.out.1⟩
      · have h1i : ¬ (1200 : Int) < (p.length : Int) := by omega
        have HN2 : Hid ((ws.take (t + 1)).any greatW = false) := Lib.hid (by rw [HAN.out, HN.out]; unfold greatW; simp [h1])
        go_wp2
        go_roundg (n - (t + 1))
        case measure => have := hg.out; omega
        case rel => exact ⟨t + 1, by omega, by omega, Lib.hid (by have := hg.out; omega), by go_num, rfl, HN2⟩
    · have HF : Hid (G = (decide (1200 < name.length) || (decide (12 < n) || decide (300 < val.length)))) := Lib.hid (by
        rw [HG.out, HLN.out]
        have h0 : (ws.take 30).any greatW = false := by
          have := HN.out
          by_cases h4 : t = 30
          · rwa [h4] at this
          · have hn : n ≤ t := by omega
            rw [List.take_of_length_le (by rw [HLN.out]; exact hn)] at this
            rw [List.take_of_length_le (by rw [HLN.out]; omega)]
            exact this
        rw [h0, Bool.false_or])
      by_cases h1 : 1200 < name.length
      · have h1i : (1200 : Int) < (name.length : Int) := by omega
        have hGG : G = true := by rw [HF.out, decide_eq_true h1]; rfl
        by_cases hc : t < n
        · have hci : (t : Int) < (n : Int) := by omega
          have h4i : ¬ (t : Int) < 30 := by omega
          clear htn
          subst hGG
          go_wp2
          go_ret
          exact ⟨rfl, J0.out.1⟩
        · have hci : ¬ (t : Int) < (n : Int) := by omega
          clear htn
          subst hGG
          go_wp2
          go_ret
          exact ⟨rfl, J0.out.1⟩
      · have h1i : ¬ (1200 : Int) < (name.length : Int) := by omega
        by_cases h2 : 12 < n
        · have h2i : (12 : Int) < (n : Int) := by omega
          have hGG : G = true := by rw [HF.out, decide_eq_false h1, decide_eq_true h2]; rfl
          by_cases hc : t < n
          · have hci : (t : Int) < (n : Int) := by omega
            have h4i : ¬ (t : Int) < 30 := by omega
            clear htn
            subst hGG
            go_wp2
            go_ret
            exact ⟨rfl, J0.out.1⟩
          · have hci : ¬ (t : Int) < (n : Int) := by omega
            clear htn
            subst hGG
            go_wp2
            go_ret
            exact ⟨rfl, J0.out.1⟩
        · have h2i : ¬ (12 : Int) < (n : Int) := by omega
          by_cases h3 : 300 < val.length
          · have h3i : (300 : Int) < (val.length : Int) := by omega
            have hGG : G = true := by rw [HF.out, decide_eq_false h1, decide_eq_false h2, decide_eq_true h3]; rfl
            by_cases hc : t < n
            · exfalso
              omega
            · have hci : ¬ (t : Int) < (n : Int) := by omega
              clear htn
              subst hGG
              go_wp2
              go_ret
              exact ⟨rfl, J0.out.1⟩
          · have h3i : ¬ (300 : Int) < (val.length : Int) := by omega
            have hGG : G = false := by rw [HF.out, decide_eq_false h1, decide_eq_false h2, decide_eq_false h3]; rfl
            by_cases hc : t < n
            · exfalso
              omega
            · have hci : ¬ (t : Int) < (n : Int) := by omega
              clear htn
              subst hGG
              go_wp2
              go_ret
              exact ⟨rfl, J0.out.1⟩
end Go.Proofs.YtbfdomipkfbaeaaDoor
/- The law's live. -/
namespace Go.Proofs.YtbfdomipkfbaeaaDoor
open Go.ChangeShapes Go.WideShapes Go.ChangeAt Go.RowKit
set_option linter.unusedVariables false
theorem rrd_two {w : World} {g : Nat} (h : w.heap[g]? = some (.cells #[.string ⟨#[120]⟩, .string ⟨#[121]⟩] 9)) : RRd cS 1 w w.heap.size (some ⟨g, 0, none⟩) 2 2 [[120], [121]] :=
  ⟨rfl, Nat.le_refl _, by decide, (fun e => by cases e), fun _ => ⟨g, 0, rfl, lt_of h, fun i x hx j u hu => by
    match j with
    | 0 =>
      cases hu
      match i with
      | 0 => cases hx; rw [cell_of _ h]; rfl
      | 1 => cases hx; rw [cell_of _ h]; rfl
      | i + 2 => simp at hx
    | j + 1 => simp [cS] at hu⟩⟩
set_option maxRecDepth 100000 in
set_option maxHeartbeats 4000000 in
theorem live15_c (w : World) (hW : W15 w) : Calls Tryd.prog 20 #[] w fun e w' => e = .returned (.bool true) ∧ Below w.heap.size w w' := by
  have kc := fun (w : World) (C : Array Value) (n c : Nat) => Lib.run_convert_bytes_const (P := Tryd.prog) w 63 5 C n c Tryd.underlying63 Tryd.underlying5
  have C1 : Hid (Calls Tryd.prog 44 #[.slice (some ⟨w.heap.size, 0, none⟩) 11 11, .int .i64 0] (w.alloc (.cells #[.int .u8 97, .int .u8 32, .int .u8 40, .int .u8 120, .int .u8 124, .int .u8 121, .int .u8 41, .int .u8 32, .int .u8 39, .int .u8 120, .int .u8 39] 5 (11, 12))) fun e w' => ∃ A2 c2, e = .returned (.tuple #[.agg #[.string ⟨#[97]⟩, .int .i64 10, .slice A2 2 c2, .int .i64 4, .string ⟨#[120]⟩], .int .i64 11, .int .i64 0]) ∧ RRd cS 1 w' w'.heap.size A2 2 c2 [[120], [121]] ∧ Below w.heap.size w w') := Lib.hid (by
    have k1 := alloc_const w lx (11, 12) (by decide)
    have := one_ex _ _ _ (k1.2.more (by simp)) (hW.below k1.1)
    refine this.mono fun e w' ⟨A2, c2, he, ho, hb⟩ => ?_
    obtain ⟨A3, c3, hv, hr⟩ := ho.rrd
    cases hv
    exact ⟨A2, c2, he, hr, k1.1.trans (hb.mono k1.1.size)⟩)
  clear hW
  go_enter Tryd.func20, Tryd.ntmps20
  go_wp2_with fail
  refine C1.out.mono ?_
  rintro e w1 ⟨A2, c2, rfl, hr, hb⟩
  clear kc
  have ka := (Below.refl w1.heap.size w1).alloc (Nat.le_refl _) (.cells #[.string ⟨#[97]⟩, .int .i64 10, .slice A2 2 c2, .int .i64 4, .string ⟨#[120]⟩] 55)
  have kb := ka.alloc (by simp) (.cells #[.string ⟨#[120]⟩, .string ⟨#[121]⟩] 9)
  have hq := hp_new w1 (.cells #[.string ⟨#[97]⟩, .int .i64 10, .slice A2 2 c2, .int .i64 4, .string ⟨#[120]⟩] 55)
  have hq2 : ((w1.alloc (.cells #[.string ⟨#[97]⟩, .int .i64 10, .slice A2 2 c2, .int .i64 4, .string ⟨#[120]⟩] 55)).alloc (.cells #[.string ⟨#[120]⟩, .string ⟨#[121]⟩] 9)).heap[w1.heap.size + 1]? = some (.cells #[.string ⟨#[120]⟩, .string ⟨#[121]⟩] 9) := by
    have := hp_new (w1.alloc (.cells #[.string ⟨#[97]⟩, .int .i64 10, .slice A2 2 c2, .int .i64 4, .string ⟨#[120]⟩] 55)) (.cells #[.string ⟨#[120]⟩, .string ⟨#[121]⟩] 9)
    rwa [World.size_alloc] at this
  have CS := Lib.hid (atSame_yes 10 4 [97] [120] A2 (some ⟨w1.heap.size + 1, 0, none⟩) 2 c2 2 [[120], [121]] ((w1.alloc (.cells #[.string ⟨#[97]⟩, .int .i64 10, .slice A2 2 c2, .int .i64 4, .string ⟨#[120]⟩] 55)).alloc (.cells #[.string ⟨#[120]⟩, .string ⟨#[121]⟩] 9)) ((hr.below kb).more kb.size) (rrd_two hq2))
  have HB := Lib.hid (hb.trans (kb.mono hb.size))
  have x0 := cell_of 0 hq
  have x1 := cell_of 1 hq
  have x2 := cell_of 2 hq
  have x3 := cell_of 3 hq
  have x4 := cell_of 4 hq
  clear hr hb ka kb hq hq2
  go_wp2_with fail
  refine CS.out.mono ?_
  rintro e w2 ⟨rfl, hb⟩
  have HB2 := Lib.hid (HB.out.trans (hb.mono HB.out.size))
  clear hb
  go_wp2
  go_ret
  exact ⟨rfl, HB2.out⟩
end Go.Proofs.YtbfdomipkfbaeaaDoor
/- What a row's list of variables gives. -/
namespace Go.Proofs.YtbfdomipkfbaeaaDoor
open Go.ChangeShapes Go.WideShapes Go.ChangeAt Go.RowKit
set_option linter.unusedVariables false
/-- The cells that a datum of numbers, strings, arrays and structs takes, by its type: none where the lay-out has a gap. -/
def flatL (P : Program) (fl : TypeId → DataW Unit → Option (List Value)) : Nat → List (TypeId × Nat) → List (DataW Unit) → Option (List Value)
  | _, [], [] => some []
  | off, (t, o) :: ts, d :: ds => if o = off then (fl t d).bind fun v => if v.length = P.cellsOf t then (flatL P fl (off + P.cellsOf t) ts ds).map (v ++ ·) else none else none
  | _, _, _ => none
def flatD (P : Program) : Nat → TypeId → DataW Unit → Option (List Value)
  | 0, _, _ => none
  | f + 1, t, d => match P.underlying t, d with
    | some (.int k), .lit (.int k' n) => if k' = k then some [.int k n] else none
    | some .string, .lit (.string l) => some [.string ⟨l.toArray⟩]
    | some (.struct fs), .agg ds => (flatL P (flatD P f) 0 (fs.toList.map fun f => (f.type, f.offset)) ds).bind fun v => if v.length = P.cellsOf t then some v else none
    | some (.array n e), .agg ds => (flatL P (flatD P f) 0 ((List.range n).map fun i => (e, i * P.cellsOf e)) ds).bind fun v => if v.length = P.cellsOf t then some v else none
    | _, _ => none
theorem mapM_map {α β γ : Type} (g : α → β) (f : β → Option γ) : ∀ l : List α, (l.map g).mapM f = l.mapM fun a => f (g a)
  | [] => rfl
  | a :: l => by simp [List.mapM_cons, mapM_map g f l]
theorem mapM_cons_some {α β : Type} {f : α → Option β} {a : α} {l : List α} {ys : List β} (h : (a :: l).mapM f = some ys) : ∃ y ys', f a = some y ∧ l.mapM f = some ys' ∧ ys = y :: ys' := by
  rw [List.mapM_cons] at h
  obtain ⟨y, hy, h⟩ := Option.bind_eq_some_iff.1 h
  obtain ⟨ys', hys, h⟩ := Option.bind_eq_some_iff.1 h
  exact ⟨y, ys', hy, hys, (Option.some.inj h).symm⟩
theorem flatL_mapM {P : Program} {w : World} {base : Nat} {sp : Nat → Bool} {held : Bool} {enc : TypeId × Value → Unit} {fuel f : Nat} {cs : List Value}
    (ih : ∀ t cs d p vs, DataW.trod enc P w base sp held fuel t cs = some (d, p) → flatD P f t d = some vs → cs = vs) :
    ∀ (ts : List (TypeId × Nat)) (xs : List (DataW Unit × List MemPlace)) (off : Nat) (vs : List Value),
      (ts.mapM fun x => DataW.trod enc P w base sp held fuel x.1 ((cs.drop x.2).take (P.cellsOf x.1))) = some xs → flatL P (flatD P f) off ts (xs.map (·.1)) = some vs → (cs.drop off).take vs.length = vs
  | [], xs, off, vs, hm, hf => by
    have : xs = [] := by simpa using hm.symm
    subst this
    simp [flatL] at hf
    subst hf
    simp
  | (t, o) :: ts, xs, off, vs, hm, hf => by
    obtain ⟨⟨d, p⟩, xs', hx, hm', rfl⟩ := mapM_cons_some hm
    simp only [List.map_cons, flatL] at hf
    split at hf
    · rename_i ho
      subst ho
      obtain ⟨v, hv, hf⟩ := Option.bind_eq_some_iff.1 hf
      split at hf
      · rename_i hl
        obtain ⟨vs', hvs, rfl⟩ := Option.map_eq_some_iff.1 hf
        have h1 := ih t _ d p v hx hv
        have h2 := flatL_mapM ih ts xs' _ vs' hm' hvs
        simp only at h1
        rw [List.length_append, List.take_add, hl, h1, List.drop_drop, h2]
      · cases hf
    · cases hf
theorem flat_trod {P : Program} {w : World} {base : Nat} {sp : Nat → Bool} {held : Bool} {enc : TypeId × Value → Unit} : ∀ (fuel f : Nat) (t : TypeId) (cs : List Value) (d : DataW Unit) (p : List MemPlace) (vs : List Value),
    DataW.trod enc P w base sp held fuel t cs = some (d, p) → flatD P f t d = some vs → cs = vs := by
  intro fuel
  induction fuel with
  | zero => intro f t cs d p vs h; simp [DataW.trod] at h
  | succ fuel ih =>
    intro f t cs d p vs h hf
    cases f with
    | zero => simp [flatD] at hf
    | succ f =>
      unfold flatD at hf
      split at hf
      · rename_i k k' n hu
        split at hf
        · rename_i hk
          subst hk
          obtain ⟨m, hc, he, _⟩ := DataW.trod_int hu h
          cases he
          rw [hc]
          exact Option.some.inj hf
        · cases hf
      · rename_i l hu
        obtain ⟨m, hc, he, _⟩ := DataW.trod_string hu h
        cases he
        rw [hc]
        exact Option.some.inj hf
      · rename_i fs ds hu
        simp only [DataW.trod, hu] at h
        split at h
        · rename_i hl
          obtain ⟨xs, hm, hx⟩ := Option.map_eq_some_iff.1 h
          simp only [Prod.mk.injEq, DataW.agg.injEq] at hx
          obtain ⟨rfl, _⟩ := hx
          obtain ⟨v, hv, hf⟩ := Option.bind_eq_some_iff.1 hf
          split at hf
          · rename_i hvl
            have h2 := flatL_mapM (cs := cs) (fun t cs d p vs => ih f t cs d p vs) (fs.toList.map fun f => (f.type, f.offset)) xs 0 v (by rw [mapM_map]; exact hm) hv
            rw [List.drop_zero, hvl, ← hl, List.take_length] at h2
            rw [h2]
            exact Option.some.inj hf
          · cases hf
        · cases h
      · rename_i n e ds hu
        simp only [DataW.trod, hu] at h
        split at h
        · rename_i hl
          obtain ⟨xs, hm, hx⟩ := Option.map_eq_some_iff.1 h
          simp only [Prod.mk.injEq, DataW.agg.injEq] at hx
          obtain ⟨rfl, _⟩ := hx
          obtain ⟨v, hv, hf⟩ := Option.bind_eq_some_iff.1 hf
          split at hf
          · rename_i hvl
            have h2 := flatL_mapM (cs := cs) (fun t cs d p vs => ih f t cs d p vs) ((List.range n).map fun i => (e, i * P.cellsOf e)) xs 0 v (by rw [mapM_map]; exact hm) hv
            rw [List.drop_zero, hvl, ← hl, List.take_length] at h2
            rw [h2]
            exact Option.some.inj hf
          · cases hf
        · cases h
      · cases hf
/-- A variable that is listed holds the cells of its datum. -/
theorem laid_cells {P : Program} {w : World} : ∀ (laid : List (String × DataW Unit)) (ps : List MemPlace), DataW.LaidVars P w laid ps → ∀ (name : String) (d : DataW Unit), (name, d) ∈ laid →
    ∀ (g t f : Nat) (vs : List Value), P.globalNamed name = some g → (P.globals[g]?).map (·.type) = some t → flatD P f t d = some vs → w.var? P name = some vs.toArray
  | [], _, _, _, _, hm, _, _, _, _, _, _, _ => by cases hm
  | (n, d0) :: r, ps, h, name, d, hm, g, t, f, vs, hg, ht, hf => by
    obtain ⟨g', t', cs, fuel, p, q, hg', ht', hv, htr, hr, _⟩ := h
    rcases List.mem_cons.1 hm with e | hm
    · cases e
      obtain rfl := Option.some.inj (hg.symm.trans hg')
      obtain rfl := Option.some.inj (ht.symm.trans ht')
      rw [hv, ← flat_trod fuel f t cs.toList _ p vs htr hf]
    · exact laid_cells r q hr name d hm g t f vs hg ht hf
theorem block_of_var {P : Program} {w : World} {name : String} {g : Nat} {cs : Array Value} (hg : P.globalNamed name = some g) (h : w.var? P name = some cs) : ∃ T f, w.heap[g]? = some (.cells cs T f) := by
  simp only [World.var?, hg, Option.bind_some] at h
  split at h
  · rename_i cs' T f hb
    cases h
    exact ⟨T, f, hb⟩
  · cases h
theorem laid_var {P : Program} {w : World} {laid : List (String × DataW Unit)} (h : laidMet P laid w) (name : String) (d : DataW Unit) (hm : (name, d) ∈ laid) (g f : Nat) (vs : List Value)
    (hg : P.globalNamed name = some g) (hf : (((P.globals[g]?).map (·.type)).bind fun t => flatD P f t d) = some vs) : w.var? P name = some vs.toArray := by
  obtain ⟨ps, hl, _⟩ := h
  obtain ⟨t, ht, hf⟩ := Option.bind_eq_some_iff.1 hf
  exact laid_cells laid ps hl name d hm g t f vs hg ht hf
theorem laid_block {P : Program} {w : World} {laid : List (String × DataW Unit)} (h : laidMet P laid w) (name : String) (d : DataW Unit) (hm : (name, d) ∈ laid) (g f : Nat) (vs : List Value)
    (hg : P.globalNamed name = some g) (hf : (((P.globals[g]?).map (·.type)).bind fun t => flatD P f t d) = some vs) : ∃ T fr, w.heap[g]? = some (.cells vs.toArray T fr) :=
  block_of_var hg (laid_var h name d hm g f vs hg hf)
/-- A table of runs, out of a block. -/
theorem tab_of {w : World} {g : Nat} {T : TypeId} {fr : Nat × Nat} (t : List (Nat × Nat)) (h : w.heap[g]? = some (.cells (t.flatMap fun p => [Value.int .i64 p.1, Value.int .i64 p.2]).toArray T fr)) : Tab w g t := by
  intro i p hp
  have key : ∀ (t : List (Nat × Nat)) (i : Nat) (p : Nat × Nat), t[i]? = some p → (t.flatMap fun p => [Value.int .i64 p.1, Value.int .i64 p.2])[i * 2]? = some (.int .i64 p.1) ∧ (t.flatMap fun p => [Value.int .i64 p.1, Value.int .i64 p.2])[i * 2 + 1]? = some (.int .i64 p.2) := by
    intro t
    induction t with
    | nil => intro i p h; simp at h
    | cons x t ih =>
      intro i p h
      cases i with
      | zero => simp at h; subst h; exact ⟨rfl, rfl⟩
      | succ i =>
        have := ih i p (by simpa using h)
        rw [show (i + 1) * 2 = i * 2 + 2 by omega]
        simpa [List.flatMap_cons] using this
  have := key t i p hp
  rw [cell_of _ h, cell_of _ h, List.getElem?_toArray, List.getElem?_toArray]
  exact this
/-- The cells of a datum, whatever its type. -/
def flatV : Nat → DataW Unit → List Value
  | f + 1, .lit (.int k n) => [.int k n]
  | f + 1, .lit (.string l) => [.string ⟨l.toArray⟩]
  | f + 1, .agg ds => ds.flatMap (flatV f)
  | _, _ => []
def layObj (vs : Array Value) : Obj → Obj
  | .cells _ t frozen => .cells vs t frozen
  | o => o
def layHeap (l : List (Nat × DataW Unit)) (h : Array Obj) : Array Obj := l.foldl (fun h x => h.modify x.1 (layObj (flatV 8 x.2).toArray)) h
/-- A world for a witness: the settled one, the listed variables' blocks holding what is listed. -/
noncomputable def laidWorldOf (l : List (Nat × DataW Unit)) (os : Os) : World :=
  { World.holding Tryd.prog os ⟨#[], #[], []⟩ with heap := layHeap l (World.holding Tryd.prog os ⟨#[], #[], []⟩).heap }
end Go.Proofs.YtbfdomipkfbaeaaDoor
/- A witness with slices, unicode.CaseRanges among them. -/
namespace Go.Proofs.YtbfdomipkfbaeaaDoor
open Go.ChangeShapes Go.WideShapes Go.ChangeAt Go.RowKit
set_option linter.unusedVariables false
end Go.Proofs.YtbfdomipkfbaeaaDoor
/- A row of strings as a parameter. -/
namespace Go.Proofs.YtbfdomipkfbaeaaDoor
open Go.ChangeShapes Go.WideShapes Go.ChangeAt Go.RowKit
set_option linter.unusedVariables false
open Go.Deep in
/-- A reading of a row of strings is a row that can be read. -/
theorem srd_of_trod {H : Type} {enc : TypeId × Value → H} {W : World} {n : Nat} {v : Value} {x : DataW H × List MemPlace} (h : DataW.trod enc Tryd.prog W 0 (fun _ => true) true n 23 [v] = some x) :
    ∃ A len cap ss, v = .slice A len cap ∧ RRd (fun s : List UInt8 => [Value.string ⟨s.toArray⟩]) 1 W W.heap.size A len cap ss ∧ ∀ s ∈ ss, s.length ≤ maxLen := by
  rcases open_slice1 Tryd.underlying23 (by kernel_rfl) h with ⟨hc, _⟩ | ⟨a, len, cap, m, k, V, D, Pl, hc, hb, hl, hm, hmm, _, hi⟩
  · simp at hc
    subst hc
    exact ⟨none, 0, 0, [], rfl, RRd.nilR _ _ W _, fun s hs => by cases hs⟩
  · simp at hc
    subst hc
    have hmc : m = cap := by simpa using hmm
    subst hmc
    have key : ∀ i, i < m → ∃ s : List UInt8, W.cell? (a.add i) = some (.string ⟨s.toArray⟩) ∧ s.length ≤ maxLen := by
      intro i hi'
      obtain ⟨c0, t0⟩ := hi i hi'
      obtain ⟨s0, e0, _, z0⟩ := DataW.trod_string Tryd.underlying9 t0
      simp at e0
      exact ⟨s0.data.toList, by rw [c0, e0], by rw [Array.length_toList]; exact z0⟩
    obtain ⟨f, hf⟩ := choose_lt key
    refine ⟨some a, len, m, (List.range len).map f, rfl, ⟨by simp, hl, hm, (fun e => by cases e), fun h0 => ?_⟩, ?_⟩
    · obtain ⟨b, o, s⟩ := a
      have h1 := (hf 0 h0).1
      have hs : s = none := by simpa [Addr.add] using World.cell?_spot h1
      subst hs
      refine ⟨b, o, rfl, by simpa [Addr.add] using World.block_lt_of_cell? W _ h1, fun i p hp j u hu => ?_⟩
      rw [List.getElem?_map] at hp
      have hil : i < len := by
        rcases Nat.lt_or_ge i len with h' | h'
        · exact h'
        · rw [List.getElem?_eq_none (by simp; omega)] at hp; cases hp
      rw [List.getElem?_range hil] at hp
      simp at hp
      subst hp
      have h2 := (hf i (by omega)).1
      rw [addr_add] at h2
      match j with
      | 0 => cases hu; rw [Nat.mul_one, Nat.add_zero]; exact h2
      | j + 1 => simp at hu
    · intro p hp
      obtain ⟨i, hi', rfl⟩ := List.mem_map.1 hp
      exact (hf i (by have := List.mem_range.1 hi'; omega)).2
end Go.Proofs.YtbfdomipkfbaeaaDoor
/- A struct, a row of structs, of five one-cell fields, opened. -/
namespace Go.Proofs.YtbfdomipkfbaeaaDoor
open Go.ChangeShapes Go.WideShapes Go.ChangeAt Go.RowKit
set_option linter.unusedVariables false
theorem array5' {α : Type} {a : Array α} (h : a.size = 5) : ∃ x0 x1 x2 x3 x4, a = #[x0, x1, x2, x3, x4] := by
  obtain ⟨l⟩ := a
  match l, h with
  | [x0, x1, x2, x3, x4], _ => exact ⟨x0, x1, x2, x3, x4, rfl⟩
open Go.Joins Go.Deep Go.WideElems Go.Maps in
/-- A struct of 5 one-cell fields, by value, opened. -/
theorem agg5_open {H : Type} {enc : TypeId × Value → H} {P : Program} {w : World} {base : Nat} {spare : Nat → Bool} {held : Bool} {r : Reach} {b0 : Nat} {t : TypeId} {f0 f1 f2 f3 f4 : Field} {v : Value} {d : DataW H} {p : List MemPlace} (hs : P.underlying t = some (.struct #[f0, f1, f2, f3, f4])) (hone : oneCellFields P #[f0, f1, f2, f3, f4] = true) (hC : P.cellsOf t = 5)
    (hv : Value.okWide P w r b0 t v) (h : DataW.Trod enc P w base spare held t v d p) :
    ∃ (v0 v1 v2 v3 v4 : Value) (y0 y1 y2 y3 y4 : DataW H × List MemPlace) (n : Nat), v = .agg #[v0, v1, v2, v3, v4] ∧ d = .agg [y0.1, y1.1, y2.1, y3.1, y4.1] ∧ p = y0.2 ++ (y1.2 ++ (y2.2 ++ (y3.2 ++ y4.2))) ∧
      DataW.trod enc P w base spare held n f0.type [v0] = some y0 ∧ DataW.trod enc P w base spare held n f1.type [v1] = some y1 ∧ DataW.trod enc P w base spare held n f2.type [v2] = some y2 ∧ DataW.trod enc P w base spare held n f3.type [v3] = some y3 ∧ DataW.trod enc P w base spare held n f4.type [v4] = some y4 := by
  obtain ⟨cs, rfl, hsz⟩ := okWide_struct hs hv
  obtain ⟨c0, c1, c2, c3, c4, rfl⟩ := array5' (hsz.trans hC)
  obtain ⟨fuel, hf⟩ := h
  obtain ⟨xs, n, _, hx, hl, hlen, hF⟩ := DataW.trod_struct hs hf
  match xs, hlen with
  | [y0, y1, y2, y3, y4], _ =>
    obtain ⟨o0, k0⟩ := hone_of hone 0 f0 rfl
    obtain ⟨o1, k1⟩ := hone_of hone 1 f1 rfl
    obtain ⟨o2, k2⟩ := hone_of hone 2 f2 rfl
    obtain ⟨o3, k3⟩ := hone_of hone 3 f3 rfl
    obtain ⟨o4, k4⟩ := hone_of hone 4 f4 rfl
    have g0 := hF 0 f0 rfl
    have g1 := hF 1 f1 rfl
    have g2 := hF 2 f2 rfl
    have g3 := hF 3 f3 rfl
    have g4 := hF 4 f4 rfl
    simp only [Prod.mk.injEq] at hx
    exact ⟨c0, c1, c2, c3, c4, y0, y1, y2, y3, y4, n, rfl, by simpa using hx.1, by simpa using hx.2, by simpa [Value.cells, o0, k0] using g0, by simpa [Value.cells, o1, k1] using g1, by simpa [Value.cells, o2, k2] using g2, by simpa [Value.cells, o3, k3] using g3, by simpa [Value.cells, o4, k4] using g4⟩
end Go.Proofs.YtbfdomipkfbaeaaDoor
