/- Texts of ours, joined: GsX, EntO, SatP, SatW. -/
import Derived.Test.YtfemfgkcgboopaaGreatDoorRows
import Derived.WalkKit
import Derived.ProofKit
import Derived.OpenShut
import Derived.ShutString
import Derived.ChangeOld
import Derived.Below
import Derived.BigQuiet
import Derived.Deep.QuietTactic
import Derived.Lib.Hide
import Derived.Deep.RegionHeld3
import Derived.Lib.SlBytesConst
import Derived.Laws.CopyOwn
import Derived.Laws.CopyRow
import Derived.Lib.Bytes
import Derived.Deep.LoopGhost
import Derived.Deep.DeepFit
import Derived.Deep.DeepMust
import Derived.WalkSpells
import Derived.WalkLawsBesides
import Derived.Laws.EntriesVeiled
import Derived.Laws.Rows
import Derived.Maps.OwnOps
import Derived.Maps.OwnSet
import Derived.Maps.Views
import Derived.Maps.AppendAt
import Derived.DeepKeys4
import Derived.MapViews
import Derived.Maps.Keyed
import Derived.Deep.RegionWith
import Derived.Deep.CutRange
import Derived.StillTailTactics
import Derived.Test.YtfemfgkcgboopaaGreatDoorQ1
import Derived.Test.YtfemfgkcgboopaaGreatDoorQ2
import Derived.Test.YtfemfgkcgboopaaGreatDoorQ3
import Derived.Test.YtfemfgkcgboopaaGreatDoorQ4
import Derived.Test.YtfemfgkcgboopaaGreatDoorQ9
import Derived.Test.YtfemfgkcgboopaaGreatDoorQ10
import Derived.Test.YtfemfgkcgboopaaGreatDoorQ11
import Derived.Test.YtfemfgkcgboopaaGreatDoorQ12
import Derived.Test.YtfemfgkcgboopaaGreatDoorQ13
import Derived.Test.YtfemfgkcgboopaaGreatDoorQ14
import Derived.Test.YtfemfgkcgboopaaGreatDoorQ15
import Derived.Test.YtfemfgkcgboopaaGreatDoorQ16
import Derived.Test.YtfemfgkcgboopaaGreatDoorQ18
import Derived.Test.YtfemfgkcgboopaaGreatDoorQ19
import Derived.Test.YtfemfgkcgboopaaGreatDoorQ20
import Derived.Test.YtfemfgkcgboopaaGreatDoorQ21
import Derived.Test.YtfemfgkcgboopaaGreatDoorQ22
import Derived.Test.YtfemfgkcgboopaaGreatDoorQ23
import Derived.Test.YtfemfgkcgboopaaGreatDoorQ17
import Derived.Test.YtfemfgkcgboopaaGreatDoorQ25
import Derived.Test.YtfemfgkcgboopaaGreatDoorQ26
import Derived.Test.YtfemfgkcgboopaaGreatDoorQ27
import Derived.Test.YtfemfgkcgboopaaGreatDoorQ28
import Derived.Test.YtfemfgkcgboopaaGreatDoorQ24
import Derived.Test.YtfemfgkcgboopaaGreatDoorQ29
import Derived.Test.YtfemfgkcgboopaaGreatDoorQ30
import Derived.Test.YtfemfgkcgboopaaGreatDoorQ31
import Derived.Deep.Slices
import Derived.Deep.Fields
import Derived.Lib.SmallJoins
import Derived.ChangeArms
import Derived.DataReads
/- The law AttvalWrites. -/
namespace Go.Proofs.YtfemfgkcgboopaaGreatDoor
open Go.ChangeShapes Go.WideShapes Go.ChangeAt Go.RowKit
set_option linter.unusedVariables false
theorem le_sum_mem {n : Nat} : ∀ {l : List Nat}, n ∈ l → n ≤ l.sum
  | [], h => by cases h
  | m :: l, h => by
    rcases List.mem_cons.1 h with rfl | h
    · simp
    · have := le_sum_mem h
      simp only [List.sum_cons]
      omega
theorem much_small {l : List EntT} (h : muchE l = false) : l.length ≤ 24 ∧ (l.map fun y => y.tx.length).sum ≤ 1500 ∧ ∀ x ∈ l, x.tx.length ≤ 1500 := by
  unfold muchE at h
  simp only [Bool.or_eq_false_iff, decide_eq_false_iff_not] at h
  have h1 : l.length ≤ 24 := by omega
  have h2 : (l.map fun y => y.tx.length).sum ≤ 1500 := by
    have h3 := h.2
    rw [List.take_of_length_le (by omega)] at h3
    unfold sumT at h3
    omega
  refine ⟨h1, h2, fun x hx => Nat.le_trans ?_ h2⟩
  exact le_sum_mem (List.mem_map.2 ⟨x, hx, rfl⟩)
theorem run_escaped (l : List EntT) (deep : Int) (v : List UInt8) (hv : v.length ≤ 1000000) : ∃ f, runL l deep f [(esc v, 0)] [] = some (v, 0) := by
  obtain ⟨f, hf⟩ := over_escaped l deep v hv
  obtain ⟨n, o', h1, h2⟩ := over_all hf
  exact ⟨n, by rw [h1, h2 rfl]⟩
set_option maxRecDepth 100000 in
set_option maxHeartbeats 16000000 in
/-- The law. -/
theorem attvalWrites_walk (A : Option Addr) (n cap : Nat) (l : List EntT) (v : List UInt8) (kind : Int) (w : World) (h : RRd cE 6 w w.heap.size A n cap l) (hx : ∀ x ∈ l, x.tx.length ≤ 281474976710656) (hnm : ∀ x ∈ l, x.nm.length ≤ 1000000000000000) (hF : Forms w) (hT : Tabs w) (hK : KnownT w) :
    Calls Tryz.prog 5 #[.slice A n cap, .string ⟨v.toArray⟩, .int .i64 kind] w fun e w' => e = .returned (.bool true) ∧ Below w.heap.size w w' := by
  have hln := h.len
  have CM := Lib.hid (rfMuch_c A n cap l w h hx)
  have LV : Hid (∀ W, Below w.heap.size w W → Calls Tryz.prog 9 #[] W fun e w' => e = .returned (.bool true) ∧ Below W.heap.size W w') := Lib.hid fun W hW => live27_c W (hF.below hW hF.lt) (hT.below hW (hT.low hF)) (hK.below hW)
  have hsz : (⟨v.toArray⟩ : ByteArray).size = v.length := by simp [ByteArray.size]
  cases hmu : muchE l with
  | true =>
    rw [hmu] at CM
    clear h hx hnm hF hT hK hmu
    go_enter Tryz.func5, Tryz.ntmps5
    go_wp2_with fail
    refine CM.out.mono ?_
    rintro e w1 ⟨rfl, hb1⟩
    have HB1 := Lib.hid hb1
    clear hb1 CM
    go_wp2_with fail
    refine (LV.out _ HB1.out).mono ?_
    rintro e w2 ⟨rfl, hb2⟩
    have HB2 := Lib.hid (HB1.out.trans (hb2.mono HB1.out.size))
    clear hb2 LV
    go_wp2
    go_ret
    exact ⟨rfl, HB2.out⟩
  | false =>
    rw [hmu] at CM
    obtain ⟨hs1, hs2, hs3⟩ := much_small hmu
    have HP : Hid (∀ W, Below w.heap.size w W → RRd cE 6 W W.heap.size A n cap l) := Lib.hid fun W hb => (h.below hb).more hb.size
    have CL : Hid (∀ W, Below w.heap.size w W → Calls Tryz.prog 7 #[.slice A n cap] W fun e w' => ∃ b : Bool, e = .returned (.bool b) ∧ (b = true ↔ loopsE l) ∧ Below W.heap.size W w') := Lib.hid fun W hW => rfLoops_c A n cap l W (HP.out W hW) (by omega) (fun x hx2 => by have := hs3 x hx2; omega)
    by_cases hv2 : v.length ≤ 200
    · have hvi : ¬ ((200 : Int) < (v.length : Int)) := by omega
      obtain ⟨f, hf⟩ := run_escaped l 0 v (by omega)
      have hel := esc_le v
      have CV : Hid (¬ loopsE l → ∀ (k : Int) W, Below w.heap.size w W → Calls Tryz.prog 10 #[.slice A n cap, .string ⟨(esc v).toArray⟩, .int .i64 k, .int .i64 0] W fun e w' => e = .returned (.tuple #[.string ⟨(trimK k v).toArray⟩, .int .i64 0]) ∧ Below W.heap.size W w') := Lib.hid fun hL k W hW =>
        attValue_c A n cap l (esc v) k 0 f v 0 W (HP.out W hW) (by omega) (fun x hx2 => by have := hs3 x hx2; omega) hnm (by omega) (hF.below hW hF.lt) (hT.below hW (hT.low hF)) (hK.below hW) (by omega) hL hf (fun _ => by omega)
      have CW : Hid (∀ W, Calls Tryz.prog 12 #[.string ⟨v.toArray⟩] W fun e w' => e = .returned (.string ⟨(esc v).toArray⟩) ∧ Below W.heap.size W w') := Lib.hid fun W => attWrite_c v W (by omega)
      have CE : Hid (∀ W, Calls Tryz.prog 13 #[.string ⟨v.toArray⟩] W fun e w' => e = .returned (.string ⟨(esc v).toArray⟩) ∧ W = w') := Lib.hid fun W => refEscape_c v W (by omega)
      have CT : Hid (∀ W, Calls Tryz.prog 14 #[.int .i64 kind, .string ⟨v.toArray⟩] W fun e w' => e = .returned (.string ⟨(trimK kind v).toArray⟩) ∧ W = w') := Lib.hid fun W => refTrim_c kind v W (by omega)
      have CF : Hid (∀ W, Calls Tryz.prog 15 #[.string ⟨v.toArray⟩] W fun e w' => e = .returned (.string ⟨(foldL v).toArray⟩) ∧ Below W.heap.size W w') := Lib.hid fun W => fold_c v W (by omega)
      have CG : Hid (∀ W, Calls Tryz.prog 16 #[.string ⟨v.toArray⟩] W fun e w' => e = .returned (.string ⟨(foldL v).toArray⟩) ∧ W = w') := Lib.hid fun W => refFold_c v W (by omega)
      have h1v : trimK 1 v = v := by unfold trimK; rw [if_pos rfl]
      have HV1 := Lib.hid (fun hL W hW => (CV.out hL 1 W hW))
      rw [h1v] at HV1
      have HV2 := Lib.hid (fun hL W hW => (CV.out hL kind W hW))
      clear CV
      generalize esc v = ev at *
      generalize trimK kind v = tv at *
      generalize foldL v = fv at *
      clear h hx hnm hF hT hK hmu hs1 hs2 hs3 hf hel h1v
      go_enter Tryz.func5, Tryz.ntmps5
      go_wp2_with fail
      refine CM.out.mono ?_
      rintro e w1 ⟨rfl, hb1⟩
      have HB1 := Lib.hid hb1
      clear hb1 CM
      go_wp2_with fail
      refine (CL.out _ HB1.out).mono ?_
      rintro e w2 ⟨bl, rfl, hbl, hb2⟩
      have HB2 := Lib.hid (HB1.out.trans (hb2.mono HB1.out.size))
      have HBL := Lib.hid hbl
      clear hb2 CL hbl HB1
      cases bl with
      | true =>
        go_wp2_with fail
        refine (LV.out _ HB2.out).mono ?_
        rintro e w3 ⟨rfl, hb3⟩
        have HB3 := Lib.hid (HB2.out.trans (hb3.mono HB2.out.size))
        clear hb3 LV
        go_wp2
        go_ret
        exact ⟨rfl, HB3.out⟩
      | false =>
        have HL : Hid (¬ loopsE l) := Lib.hid fun hL => by have := HBL.out.2 hL; cases this
        go_wp2_with fail
        refine (CW.out _).mono ?_
        rintro e w3 ⟨rfl, hb3⟩
        have HB3 := Lib.hid (HB2.out.trans (hb3.mono HB2.out.size))
        clear hb3 CW
        go_wp2_with fail
        refine (HV1.out HL.out _ HB3.out).mono ?_
        rintro e w4 ⟨rfl, hb4⟩
        have HB4 := Lib.hid (HB3.out.trans (hb4.mono HB3.out.size))
        clear hb4 HV1
        go_wp2_with fail
        refine (HV2.out HL.out _ HB4.out).mono ?_
        rintro e w5 ⟨rfl, hb5⟩
        have HB5 := Lib.hid (HB4.out.trans (hb5.mono HB4.out.size))
        clear hb5 HV2
        go_wp2_with fail
        refine (CE.out _).mono ?_
        rintro e w6 ⟨rfl, rfl⟩
        go_wp2_with fail
        refine (CT.out _).mono ?_
        rintro e w6 ⟨rfl, rfl⟩
        go_wp2_with fail
        refine (CF.out _).mono ?_
        rintro e w7 ⟨rfl, hb7⟩
        have HB7 := Lib.hid (HB5.out.trans (hb7.mono HB5.out.size))
        clear hb7 CF
        go_wp2_with fail
        refine (CG.out _).mono ?_
        rintro e w8 ⟨rfl, rfl⟩
        go_wp2_with fail
        refine (LV.out _ HB7.out).mono ?_
        rintro e w9 ⟨rfl, hb9⟩
        have HB9 := Lib.hid (HB7.out.trans (hb9.mono HB7.out.size))
        clear hb9 LV
        go_wp2
        go_ret
        exact ⟨rfl, HB9.out⟩
    · have hvi : (200 : Int) < (v.length : Int) := by omega
      clear h hx hnm hF hT hK hmu hs1 hs2 hs3 CL HP
      go_enter Tryz.func5, Tryz.ntmps5
      go_wp2_with fail
      refine CM.out.mono ?_
      rintro e w1 ⟨rfl, hb1⟩
      have HB1 := Lib.hid hb1
      clear hb1 CM
      go_wp2_with fail
      refine (LV.out _ HB1.out).mono ?_
      rintro e w2 ⟨rfl, hb2⟩
      have HB2 := Lib.hid (HB1.out.trans (hb2.mono HB1.out.size))
      clear hb2 LV
      go_wp2
      go_ret
      exact ⟨rfl, HB2.out⟩
end Go.Proofs.YtfemfgkcgboopaaGreatDoor
/- Rows of entities as a parameter. -/
namespace Go.Proofs.YtfemfgkcgboopaaGreatDoor
open Go.ChangeShapes Go.WideShapes Go.ChangeAt Go.RowKit
set_option linter.unusedVariables false
/-- No name, no text of an entity is longer than so. -/
def EntLe (b : Nat) (x : EntT) : Prop := x.nm.length ≤ b ∧ x.tx.length ≤ b
theorem bulk_part {H : Type} {d : DataW H} {l : List (DataW H)} (h : d ∈ l) : Rows.uptoBulk d ≤ Rows.uptoBulkAll l := by
  induction l with
  | nil => cases h
  | cons x r ih =>
    simp only [Rows.uptoBulkAll]
    cases List.mem_cons.1 h with
    | inl e => subst e; omega
    | inr e => have := ih e; omega
theorem bulk_pos {H : Type} (d : DataW H) : 1 ≤ Rows.uptoBulk d := by
  cases d with
  | lit l => cases l <;> simp [Rows.uptoBulk]
  | _ => simp [Rows.uptoBulk]
theorem bulk_len {H : Type} (l : List (DataW H)) : l.length ≤ Rows.uptoBulkAll l := by
  induction l with
  | nil => simp [Rows.uptoBulkAll]
  | cons x r ih => have := bulk_pos x; simp only [Rows.uptoBulkAll, List.length_cons]; omega
theorem cellsStrE : Tryz.prog.cellsOf 9 = 1 := by kernel_rfl
theorem cellsBoolE : Tryz.prog.cellsOf 4 = 1 := by kernel_rfl
theorem cellsExtE : Tryz.prog.cellsOf 41 = 2 := by kernel_rfl
theorem cellsEntE : Tryz.prog.cellsOf 43 = 6 := by kernel_rfl
section
variable {H : Type} {enc : TypeId × Value → H} {W : World} {sp : Nat → Bool} {held : Bool}
theorem str_open {n : Nat} {cs : List Value} {x : DataW H × List MemPlace} (h : DataW.trod enc Tryz.prog W 0 sp held n 9 cs = some x) : ∃ s : List UInt8, cs = [.string ⟨s.toArray⟩] ∧ s.length ≤ Rows.uptoBulk x.1 := by
  obtain ⟨s0, e0, e1, z0⟩ := DataW.trod_string Tryz.underlying9 h
  refine ⟨s0.data.toList, by rw [e0], ?_⟩
  rw [e1]
  simp [Rows.uptoBulk]
set_option maxRecDepth 100000 in
set_option maxHeartbeats 4000000 in
theorem extE_open {n : Nat} {cs : List Value} {x : DataW H × List MemPlace} (h : DataW.trod enc Tryz.prog W 0 sp held n 41 cs = some x) : ∃ s l : List UInt8, cs = [.string ⟨s.toArray⟩, .string ⟨l.toArray⟩] := by
  obtain ⟨xs, k, _, hx, hl, hlen, hF⟩ := DataW.trod_struct Tryz.underlying41 h
  rw [cellsExtE] at hl
  match xs, hlen, cs, hl with
  | [y0, y1], _, [c0, c1], _ =>
    have g0 := hF 0 _ rfl
    have g1 := hF 1 _ rfl
    simp [cellsStrE] at g0 g1
    obtain ⟨s, e0, b0⟩ := str_open g0
    obtain ⟨l, e1, b1⟩ := str_open g1
    simp at e0 e1
    subst e0 e1
    exact ⟨s, l, rfl⟩
set_option maxRecDepth 100000 in
set_option maxHeartbeats 4000000 in
theorem entE_open {n : Nat} {cs : List Value} {x : DataW H × List MemPlace} (h : DataW.trod enc Tryz.prog W 0 sp held n 43 cs = some x) : ∃ a : EntT, cs = cE a ∧ EntLe (Rows.uptoBulk x.1) a := by
  obtain ⟨xs, k, _, hx, hl, hlen, hF⟩ := DataW.trod_struct Tryz.underlying43 h
  rw [cellsEntE] at hl
  match xs, hlen, cs, hl with
  | [y0, y1, y2, y3, y4], _, [c0, c1, c2, c3, c4, c5], _ =>
    have g0 := hF 0 _ rfl
    have g1 := hF 1 _ rfl
    have g2 := hF 2 _ rfl
    have g3 := hF 3 _ rfl
    have g4 := hF 4 _ rfl
    simp [cellsStrE, cellsBoolE, cellsExtE] at g0 g1 g2 g3 g4
    obtain ⟨z0, e0, b0⟩ := str_open g0
    obtain ⟨z1, e1, b1⟩ := str_open g1
    obtain ⟨z2, e2, _⟩ := DataW.trod_bool Tryz.underlying4 g2
    obtain ⟨z3, z4, e3⟩ := extE_open g3
    obtain ⟨z5, e5, b5⟩ := str_open g4
    simp at e0 e1 e2 e3 e5
    obtain ⟨rfl, rfl⟩ := e3
    subst e0 e1 e2 e5
    refine ⟨⟨z0, z1, z2, z3, z4, z5⟩, rfl, ?_, ?_⟩ <;> rw [hx] <;> simp [Rows.uptoBulk, Rows.uptoBulkAll] <;> omega
open Go.Deep in
/-- A row read: what holds of each element (whatever is shown of one element's reading), the bulk. -/
theorem row_open {t e : TypeId} {k : Nat} {α : Type} {c : α → List Value} (Good : α → Nat → Prop) (hG : ∀ a b b', Good a b → b ≤ b' → Good a b') (ht : Tryz.prog.underlying t = some (.slice e)) (ce : Tryz.prog.cellsOf e = k) (hk0 : 0 < k) (hk : ∀ a, (c a).length = k)
    (ho : ∀ {n : Nat} {cs : List Value} {x : DataW H × List MemPlace}, DataW.trod enc Tryz.prog W 0 (fun _ => true) held n e cs = some x → ∃ a, cs = c a ∧ Good a (Rows.uptoBulk x.1))
    {n : Nat} {v : Value} {x : DataW H × List MemPlace} (h : DataW.trod enc Tryz.prog W 0 (fun _ => true) held n t [v] = some x) :
    ∃ A len cap xs, v = .slice A len cap ∧ RRd c k W W.heap.size A len cap xs ∧ len ≤ Rows.uptoBulk x.1 ∧ ∀ a ∈ xs, Good a (Rows.uptoBulk x.1) := by
  rcases open_slice ht h with ⟨hc, _⟩ | ⟨a, len, cap, m, k', D, Pl, hc, _, hl, hm, hmm, hx, hi⟩
  · simp at hc
    subst hc
    exact ⟨none, 0, 0, [], rfl, RRd.nilR c k W _, Nat.zero_le _, fun a ha => by cases ha⟩
  · simp at hc
    subst hc
    have hmc : m = cap := by simpa using hmm
    subst hmc
    have hbl : ∀ i, i < m → Rows.uptoBulk (D i) ≤ Rows.uptoBulk x.1 := fun i hil => by
      rw [hx]
      simp only [Rows.uptoBulk]
      by_cases hlt : i < len
      · have := bulk_part (d := D i) (l := (List.range len).map D) (List.mem_map.2 ⟨i, List.mem_range.2 hlt, rfl⟩)
        omega
      · have := bulk_part (d := D i) (l := (List.range (m - len)).map fun j => D (len + j)) (List.mem_map.2 ⟨i - len, List.mem_range.2 (by omega), by rw [show len + (i - len) = i by omega]⟩)
        omega
    have key : ∀ i, i < m → ∃ z : α, (∀ (j : Nat) u, (c z)[j]? = some u → W.cell? (a.add (i * k + j)) = some u) ∧ Good z (Rows.uptoBulk x.1) := by
      intro i hil
      obtain ⟨cs', h1, h2⟩ := hi i hil
      rw [ce] at h1
      obtain ⟨_, hlen, hcell⟩ := World.cells?_some h1
      obtain ⟨z, e0, b0⟩ := ho h2
      refine ⟨z, fun j u hu => ?_, hG _ _ _ b0 (hbl i hil)⟩
      have hj : j < k := by rw [← hk z]; exact (List.getElem?_eq_some_iff.1 hu).1
      have := hcell j hj
      rw [e0, hu, add_add] at this
      exact this
    rcases Nat.eq_zero_or_pos m with h00 | h00
    · subst h00
      obtain rfl : len = 0 := by omega
      exact ⟨some a, 0, 0, [], rfl, ⟨rfl, Nat.le_refl _, Nat.zero_le _, fun _ => rfl, fun h => absurd h (by omega)⟩, Nat.zero_le _, fun a ha => by cases ha⟩
    · obtain ⟨z0, _⟩ := key 0 h00
      have : Inhabited α := ⟨z0⟩
      obtain ⟨f, hf⟩ := choose_lt key
      refine ⟨some a, len, m, (List.range len).map f, rfl, ⟨by simp, hl, hm, (fun e => by cases e), fun h0 => ?_⟩, ?_, ?_⟩
      · obtain ⟨b, o, s⟩ := a
        have hz0 : ∃ u, (c (f 0))[0]? = some u := ⟨_, List.getElem?_eq_getElem (by rw [hk]; exact hk0)⟩
        obtain ⟨u0, hu0⟩ := hz0
        have h1 := (hf 0 h00).1 0 _ hu0
        have hs : s = none := by simpa [Addr.add] using World.cell?_spot h1
        subst hs
        refine ⟨b, o, rfl, by simpa [Addr.add] using World.block_lt_of_cell? W _ h1, fun i p hp j u hu => ?_⟩
        rw [List.getElem?_map] at hp
        have hil : i < len := by
          rcases Nat.lt_or_ge i len with h' | h'
          · exact h'
          · rw [List.getElem?_eq_none (by simp; omega)] at hp; cases hp
        rw [List.getElem?_range hil] at hp
        simp at hp
        subst hp
        have h2 := (hf i (by omega)).1 j u hu
        rwa [addr_add] at h2
      · rw [hx]
        simp only [Rows.uptoBulk]
        have := bulk_len ((List.range len).map D)
        simp at this
        omega
      · intro p hp
        obtain ⟨i, hi', rfl⟩ := List.mem_map.1 hp
        exact (hf i (by have := List.mem_range.1 hi'; omega)).2
theorem ents_open {n : Nat} {v : Value} {x : DataW H × List MemPlace} (h : DataW.trod enc Tryz.prog W 0 (fun _ => true) held n 22 [v] = some x) :
    ∃ A len cap vs, v = .slice A len cap ∧ RRd cE 6 W W.heap.size A len cap vs ∧ len ≤ Rows.uptoBulk x.1 ∧ ∀ a ∈ vs, EntLe (Rows.uptoBulk x.1) a :=
  row_open (c := cE) (k := 6) (fun a b => EntLe b a) (fun a b b' h hb => ⟨Nat.le_trans h.1 hb, Nat.le_trans h.2 hb⟩) Tryz.underlying22 cellsEntE (by decide) (fun _ => rfl) (fun h => entE_open h) h
end
end Go.Proofs.YtfemfgkcgboopaaGreatDoor
/- Numbers that are held, in plain Lean. -/
namespace Go.Proofs.YtfemfgkcgboopaaGreatDoor
open Go.ChangeShapes Go.WideShapes Go.ChangeAt Go.RowKit
set_option linter.unusedVariables false
/-- Where all numbers end. -/
def capN : Nat := 9223372036854775807
def satN (n : Nat) : Nat := min n capN
theorem satN_le (n : Nat) : satN n ≤ 9223372036854775807 := Nat.min_le_right _ _
theorem satN_id {n : Nat} (h : n ≤ 9223372036854775807) : satN n = n := Nat.min_eq_left h
theorem satN_add (a b : Nat) : satN (satN a + satN b) = satN (a + b) := by unfold satN capN; omega
end Go.Proofs.YtfemfgkcgboopaaGreatDoor
/- sat and its twin: walks. -/
namespace Go.Proofs.YtfemfgkcgboopaaGreatDoor
open Go.ChangeShapes Go.WideShapes Go.ChangeAt Go.RowKit
set_option linter.unusedVariables false
set_option maxRecDepth 100000 in
set_option maxHeartbeats 4000000 in
theorem rhold_c (x : Nat) (w : World) : Calls Tryz.prog 57 #[.int .i64 x] w fun e w' => e = .returned (.int .i64 x) ∧ w = w' := by
  have h : ¬ (x : Int) < 0 := by omega
  go_enter Tryz.func57, Tryz.ntmps57
  go_wp2
  go_ret
  exact ⟨by simp, rfl⟩
set_option maxRecDepth 100000 in
set_option maxHeartbeats 4000000 in
theorem rAdd_c (x y : Nat) (hx : x ≤ 9223372036854775807) (hy : y ≤ 9223372036854775807) (w : World) : Calls Tryz.prog 38 #[.int .i64 x, .int .i64 y] w fun e w' => e = .returned (.int .i64 (satN (x + y) : Nat)) ∧ w = w' := by
  have CX : Hid (∀ W, Calls Tryz.prog 57 #[.int .i64 x] W fun e w' => e = .returned (.int .i64 x) ∧ W = w') := Lib.hid fun W => rhold_c x W
  have CY : Hid (∀ W, Calls Tryz.prog 57 #[.int .i64 y] W fun e w' => e = .returned (.int .i64 y) ∧ W = w') := Lib.hid fun W => rhold_c y W
  by_cases hxy : 9223372036854775807 - (y : Int) < (x : Int)
  · have HS : Hid (((satN (x + y) : Nat) : Int) = 9223372036854775807) := Lib.hid (by unfold satN capN; omega)
    go_enter Tryz.func38, Tryz.ntmps38
    go_wp2_with fail
    refine (CX.out _).mono ?_
    rintro e wq ⟨rfl, rfl⟩
    go_wp2_with fail
    refine (CY.out _).mono ?_
    rintro e wq ⟨rfl, rfl⟩
    go_wp2
    go_ret
    exact ⟨by rw [HS.out]; rfl, rfl⟩
  · have HS : Hid (((satN (x + y) : Nat) : Int) = (x : Int) + y) := Lib.hid (by unfold satN capN; omega)
    go_enter Tryz.func38, Tryz.ntmps38
    go_wp2_with fail
    refine (CX.out _).mono ?_
    rintro e wq ⟨rfl, rfl⟩
    go_wp2_with fail
    refine (CY.out _).mono ?_
    rintro e wq ⟨rfl, rfl⟩
    go_wp2
    go_ret
    exact ⟨by rw [HS.out]; rfl, rfl⟩
end Go.Proofs.YtfemfgkcgboopaaGreatDoor
