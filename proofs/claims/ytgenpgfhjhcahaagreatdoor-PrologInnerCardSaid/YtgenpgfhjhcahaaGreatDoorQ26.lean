/- Texts of ours, joined: RdQ. -/
import Derived.Test.YtgenpgfhjhcahaaGreatDoorRows
import Derived.WalkKit
import Derived.ProofKit
import Derived.OpenShut
import Derived.ShutString
import Derived.ChangeOld
import Derived.Below
import Derived.BigQuiet
import Derived.Deep.QuietTactic
import Derived.Lib.Hide
import Derived.Deep.RegionHeld3
import Derived.Lib.SlBytesConst
import Derived.Laws.CopyOwn
import Derived.Laws.CopyRow
import Derived.Lib.Bytes
import Derived.Deep.LoopGhost
import Derived.Deep.DeepFit
import Derived.Deep.DeepMust
import Derived.WalkSpells
import Derived.WalkLawsBesides
import Derived.Laws.EntriesVeiled
import Derived.Laws.Rows
import Derived.Maps.OwnOps
import Derived.Maps.OwnSet
import Derived.Maps.Views
import Derived.Maps.AppendAt
import Derived.Deep.AppendLies
import Derived.DeepKeys4
import Derived.MapViews
import Derived.Maps.Keyed
import Derived.Deep.RegionLaw
import Derived.Deep.RegionWith
import Derived.StillTailTactics
import Derived.Deep.CutRange
import Derived.IntWalk
import Derived.Laws.MakeOwn
import Derived.Laws.OwnMore
import Derived.Deep.MidRow
import Derived.Test.YtgenpgfhjhcahaaGreatDoorQ1
import Derived.Test.YtgenpgfhjhcahaaGreatDoorQ2
import Derived.Test.YtgenpgfhjhcahaaGreatDoorQ7
import Derived.Test.YtgenpgfhjhcahaaGreatDoorQ8
import Derived.Test.YtgenpgfhjhcahaaGreatDoorQ4
import Derived.Test.YtgenpgfhjhcahaaGreatDoorQ3
import Derived.Test.YtgenpgfhjhcahaaGreatDoorQ5
import Derived.Test.YtgenpgfhjhcahaaGreatDoorQ9
import Derived.Test.YtgenpgfhjhcahaaGreatDoorQ10
import Derived.Test.YtgenpgfhjhcahaaGreatDoorQ11
import Derived.Test.YtgenpgfhjhcahaaGreatDoorQ12
import Derived.Test.YtgenpgfhjhcahaaGreatDoorQ14
import Derived.Test.YtgenpgfhjhcahaaGreatDoorQ15
import Derived.Test.YtgenpgfhjhcahaaGreatDoorQ16
import Derived.Test.YtgenpgfhjhcahaaGreatDoorQ17
import Derived.Test.YtgenpgfhjhcahaaGreatDoorQ18
import Derived.Test.YtgenpgfhjhcahaaGreatDoorQ20
import Derived.Test.YtgenpgfhjhcahaaGreatDoorQ21
import Derived.Test.YtgenpgfhjhcahaaGreatDoorQ22
import Derived.Test.YtgenpgfhjhcahaaGreatDoorQ25
/- The parts of prolog.Read. -/
namespace Go.Proofs.YtgenpgfhjhcahaaGreatDoor
open Go.ChangeShapes Go.WideShapes Go.ChangeAt Go.RowKit
set_option linter.unusedVariables false
/-- The cells of a prolog's reader. -/
def rdC (A : Option Addr) (n cap : Nat) (d : DeclL) (hs : Bool) (nm : List UInt8) (op : Bool) (ev : Value) (at_ e : Int) : Array Value :=
  #[.slice A n cap, .bool d.has, .string ⟨d.ver.toArray⟩, .string ⟨d.enc.toArray⟩, .string ⟨d.alone.toArray⟩, .bool hs, .string ⟨nm.toArray⟩, .string ⟨#[]⟩, .string ⟨#[]⟩, .bool false, .bool op, ev, .int .i64 at_, .int .i64 e]
/-- While a prolog is read: what lay below stands, the reader's block, its events. -/
def PrJ (w0 W0 : World) (D : Nat) (cs : Array Value) (v : Value) (evs : List MisT) (W : World) : Prop :=
  Below w0.heap.size w0 W ∧ W0.heap.size ≤ W.heap.size ∧ (∀ q, q < D + 2 → q ≠ D → W.heap[q]? = W0.heap[q]?) ∧ W.heap[D]? = some (.cells cs 76) ∧ OwnC cMis 5 54 W (D + 2) v evs
section
variable {w0 W0 : World} {D : Nat} {cs : Array Value} {v : Value} {evs : List MisT} {W W' : World}
theorem PrJ.kept (h : PrJ w0 W0 D cs v evs W) (hD : D + 2 ≤ W0.heap.size) (hb : Below W.heap.size W W') : PrJ w0 W0 D cs v evs W' :=
  ⟨h.1.trans (hb.mono h.1.size), Nat.le_trans h.2.1 hb.size, fun q h1 h2 => (hb.block _ (by have := h.2.1; omega)).trans (h.2.2.1 q h1 h2), (hb.block _ (lt_of h.2.2.2.1)).trans h.2.2.2.1, h.2.2.2.2.kept hb⟩
theorem PrJ.set (h : PrJ w0 W0 D cs v evs W) (h0 : w0.heap.size ≤ D) (i : Nat) (x : Value) : PrJ w0 W0 D (cs.setIfInBounds i x) v evs (W.setCell ⟨D, i, none⟩ x) :=
  ⟨h.1.setCell (p := ⟨D, i, none⟩) h0 _, by have := h.2.1; simpa using this, fun q h1 h2 => (hp_other h2).trans (h.2.2.1 q h1 h2), hp_set h.2.2.2.1, h.2.2.2.2.keep fun g h1 _ => hp_other (by omega)⟩
end
set_option linter.unusedSimpArgs false in
set_option maxRecDepth 100000 in
set_option maxHeartbeats 8000000 in
theorem rd1_c (D Bb : Nat) (A : Option Addr) (n cap : Nat) (l : List UInt8) (d : DeclL) (t0 : Nat) (w0 W0 w : World) (h : Byt w0 w0.heap.size A n cap l) (hW : W29 w0) (hm : n ≤ 40000) (h0 : w0.heap.size ≤ D) (hD : D + 2 ≤ W0.heap.size) (hBb : Bb < D)
    (hb : W0.heap[Bb]? = some (.cells #[.slice A n cap] 22)) (hr : W0.heap[D + 1]? = some (.cells #[.pointer (some ⟨D, 0, none⟩)] 74)) (hJ : PrJ w0 W0 D (rdC A n cap noDecl false [] false (.slice none 0 0) 0 0) (.slice none 0 0) [] w) (hd : declAt false l 0 = (d, t0, 0)) :
    Calls Tryz.prog 22 #[.pointer (some ⟨Bb, 0, none⟩), .pointer (some ⟨D + 1, 0, none⟩)] w fun e w' => e = .returned (.tuple #[.int .i64 (t0 : Nat), .int .i64 0]) ∧ PrJ w0 W0 D (rdC A n cap d false [] false (.slice none 0 0) 0 0) (.slice none 0 0) [] w' := by
  have hbw := (hJ.2.2.1 Bb (by omega) (by omega)).trans hb
  have hrw := (hJ.2.2.1 (D + 1) (by omega) (by omega)).trans hr
  have c1 : w.drew.cell? ⟨Bb, 0, none⟩ = some (.slice A n cap) := by rw [cell_of (w := w.drew) 0 hbw]; rfl
  have c2 : w.drew.cell? ⟨D + 1, 0, none⟩ = some (.pointer (some ⟨D, 0, none⟩)) := by rw [cell_of (w := w.drew) 0 hrw]; rfl
  have hJd := hJ.kept hD ((Below.refl w.heap.size w).drew)
  have CX : Hid (Calls Tryz.prog 23 #[.slice A n cap, .int .i64 0] w.drew fun e w' => e = .returned (.tuple #[.agg #[.bool d.has, .string ⟨d.ver.toArray⟩, .string ⟨d.enc.toArray⟩, .string ⟨d.alone.toArray⟩], .int .i64 (t0 : Nat), .int .i64 0]) ∧ PrJ w0 W0 D (rdC A n cap noDecl false [] false (.slice none 0 0) 0 0) (.slice none 0 0) [] w') := Lib.hid (by
    have := xdXml_c A n cap l 0 w.drew ((h.below hJd.1).more hJd.1.size) hm (hW.below hJd.1).fold
    rw [hd] at this
    exact this.mono fun e w' ⟨he, hb⟩ => ⟨he, hJd.kept hD hb⟩)
  have H0 := Lib.hid h0
  have HR := Lib.hid hr
  clear h hW hb hr hJ hd hbw hrw hJd
  go_enter Tryz.func22, Tryz.ntmps22
  go_wp2_with fail
  refine wp_region_drew (by kernel_rfl) ?_
  refine wpAny_ready (rs := [0, 1]) (by kernel_rfl) (by simp) ?_
  refine AllReady.cons (o := { dst := some 5, op := Op.load 74 (Operand.tmp 1), type := 74, pos := "prolog.go:126", after := #[], guard := none }) rfl (fun K hK => ?_) ?_
  · go_simp
    refine hK _ _ ?_
    clear hK K
    (try simp only [Act.put, List.setIfInBounds_toArray, List.set_cons_zero, List.set_cons_succ])
    refine wpAny_ready (rs := [1]) (by kernel_rfl) (by simp) ?_
    refine AllReady.cons (o := { dst := some 6, op := Op.load 22 (Operand.tmp 0), type := 22, pos := "prolog.go:126", after := #[], guard := none }) rfl (fun K hK => ?_) ?_
    · go_simp
      refine hK _ _ ?_
      clear hK K
      (try simp only [Act.put, List.setIfInBounds_toArray, List.set_cons_zero, List.set_cons_succ])
      refine wpAny_ready (rs := [2]) (by kernel_rfl) (by simp) ?_
      refine AllReady.cons (o := { dst := some 7, op := Op.call { callee := Callee.value (Operand.func 23), args := #[Operand.tmp 6, Operand.const (Value.int IntKind.i64 0)], argTypes := #[22, 3] }, type := 78, pos := "prolog.go:126", after := #[{ on := 1, ground := Ground.data }], guard := none }) rfl (fun K hK => ?_) ?_
      · go_simp
        refine CX.out.mono ?_
        rintro e w9 ⟨rfl, hJ9⟩
        have hD9 := hJ9.2.2.2.1
        have g0 : w9.cell? ⟨D + 1, 0, none⟩ = some (.pointer (some ⟨D, 0, none⟩)) := by rw [cell_of 0 ((hJ9.2.2.1 (D + 1) (by omega) (by omega)).trans HR.out)]; rfl
        have g1 : w9.cell? ⟨D, 1, none⟩ = some (.bool false) := by rw [cell_of 1 hD9]; rfl
        have g2 : w9.cell? ⟨D, 2, none⟩ = some (.string ⟨#[]⟩) := by rw [cell_of 2 hD9]; rfl
        have g3 : w9.cell? ⟨D, 3, none⟩ = some (.string ⟨#[]⟩) := by rw [cell_of 3 hD9]; rfl
        have g4 : w9.cell? ⟨D, 4, none⟩ = some (.string ⟨#[]⟩) := by rw [cell_of 4 hD9]; rfl
        have f1 := free_of 1 hD9
        have f2 := free_of 2 hD9
        have f3 := free_of 3 hD9
        have f4 := free_of 4 hD9
        have HJ9 := Lib.hid ((((hJ9.set H0.out 1 (.bool d.has)).set H0.out 2 (.string ⟨d.ver.toArray⟩)).set H0.out 3 (.string ⟨d.enc.toArray⟩)).set H0.out 4 (.string ⟨d.alone.toArray⟩))
        clear hD9 hJ9
        dsimp only
        refine hK _ _ ?_
        clear hK K
        (try simp only [Act.put, List.setIfInBounds_toArray, List.set_cons_zero, List.set_cons_succ])
        refine wpAny_take (i := 3) (oi := { dst := some 4, op := Op.move (Operand.tmp 7), type := 78, pos := "prolog.go:126", after := #[{ on := 2, ground := Ground.data }], guard := none }) (v := ?_) rfl (by kernel_rfl) (by kernel_rfl) (by kernel_rfl) (fun _ _ _ h => h) (Or.inl ⟨by rfl, fun w9 => by go_simp; try with_reducible rfl⟩) ?_
        (try simp only [Act.put, List.setIfInBounds_toArray, List.set_cons_zero, List.set_cons_succ])
        refine wpAny_take (i := 4) (oi := { dst := some 8, op := Op.extract (Operand.tmp 4) 0, type := 41, pos := "prolog.go:126", after := #[{ on := 3, ground := Ground.data }], guard := none }) (v := ?_) rfl (by kernel_rfl) (by kernel_rfl) (by kernel_rfl) (fun _ _ _ h => h) (Or.inl ⟨by rfl, fun w9 => by go_simp; try with_reducible rfl⟩) ?_
        (try simp only [Act.put, List.setIfInBounds_toArray, List.set_cons_zero, List.set_cons_succ])
        refine wpAny_take (i := 5) (oi := { dst := some 9, op := Op.extract (Operand.tmp 4) 1, type := 3, pos := "prolog.go:126", after := #[{ on := 3, ground := Ground.data }, { on := 10, ground := Ground.gcOnly Departure.lateStores }], guard := none }) (v := ?_) rfl (by kernel_rfl) (by kernel_rfl) (by kernel_rfl) (fun _ _ _ h => h) (Or.inl ⟨by rfl, fun w9 => by go_simp; try with_reducible rfl⟩) ?_
        (try simp only [Act.put, List.setIfInBounds_toArray, List.set_cons_zero, List.set_cons_succ])
        refine wpAny_take (i := 6) (oi := { dst := some 10, op := Op.extract (Operand.tmp 4) 2, type := 25, pos := "prolog.go:126", after := #[{ on := 3, ground := Ground.data }, { on := 11, ground := Ground.gcOnly Departure.lateStores }], guard := none }) (v := ?_) rfl (by kernel_rfl) (by kernel_rfl) (by kernel_rfl) (fun _ _ _ h => h) (Or.inl ⟨by rfl, fun w9 => by go_simp; try with_reducible rfl⟩) ?_
        (try simp only [Act.put, List.setIfInBounds_toArray, List.set_cons_zero, List.set_cons_succ])
        refine wpAny_take (i := 7) (oi := { dst := some 11, op := Op.nilCheck (Operand.tmp 5), type := 0, pos := "prolog.go:126", after := #[{ on := 0, ground := Ground.data }, { on := 0, ground := Ground.phase }, { on := 1, ground := Ground.phase }, { on := 2, ground := Ground.phase }, { on := 3, ground := Ground.phase }, { on := 4, ground := Ground.phase }, { on := 5, ground := Ground.textOnly Departure.lateStores }, { on := 6, ground := Ground.textOnly Departure.lateStores }], guard := none }) (v := ?_) rfl (by kernel_rfl) (by kernel_rfl) (by kernel_rfl) (fun _ _ _ h => h) (Or.inl ⟨by rfl, fun w9 => by go_simp; try with_reducible rfl⟩) ?_
        (try simp only [Act.put, List.setIfInBounds_toArray, List.set_cons_zero, List.set_cons_succ])
        refine wpAny_take (i := 8) (oi := { dst := some 12, op := Op.fieldAddr 76 (Operand.tmp 11) 1, type := 0, pos := "prolog.go:126", after := #[{ on := 7, ground := Ground.data }, { on := 0, ground := Ground.phase }, { on := 1, ground := Ground.phase }, { on := 2, ground := Ground.phase }, { on := 3, ground := Ground.phase }, { on := 4, ground := Ground.phase }, { on := 5, ground := Ground.textOnly Departure.lateStores }, { on := 6, ground := Ground.textOnly Departure.lateStores }], guard := none }) (v := ?_) rfl (by kernel_rfl) (by kernel_rfl) (by kernel_rfl) (fun _ _ _ h => h) (Or.inl ⟨by rfl, fun w9 => by go_simp; try with_reducible rfl⟩) ?_
        (try simp only [Act.put, List.setIfInBounds_toArray, List.set_cons_zero, List.set_cons_succ])
        refine wpAny_take (i := 9) (oi := { dst := some 13, op := Op.fieldAddr 47 (Operand.tmp 12) 0, type := 0, pos := "prolog.go:126", after := #[{ on := 8, ground := Ground.data }, { on := 0, ground := Ground.phase }, { on := 1, ground := Ground.phase }, { on := 2, ground := Ground.phase }, { on := 3, ground := Ground.phase }, { on := 4, ground := Ground.phase }, { on := 5, ground := Ground.textOnly Departure.lateStores }, { on := 6, ground := Ground.textOnly Departure.lateStores }], guard := none }) (v := ?_) rfl (by kernel_rfl) (by kernel_rfl) (by kernel_rfl) (fun _ _ _ h => h) (Or.inl ⟨by rfl, fun w9 => by go_simp; try with_reducible rfl⟩) ?_
        (try simp only [Act.put, List.setIfInBounds_toArray, List.set_cons_zero, List.set_cons_succ])
        refine wpAny_ready (rs := [10]) (by kernel_rfl) (by simp) ?_
        refine AllReady.cons (o := { dst := none, op := Op.store 41 (Operand.tmp 13) (Operand.tmp 8), type := 0, pos := "prolog.go:126", after := #[{ on := 9, ground := Ground.data }, { on := 4, ground := Ground.data }, { on := 2, ground := Ground.chain }, { on := 0, ground := Ground.phase }, { on := 1, ground := Ground.phase }, { on := 2, ground := Ground.phase }, { on := 3, ground := Ground.phase }, { on := 4, ground := Ground.phase }, { on := 5, ground := Ground.textOnly Departure.lateStores }, { on := 6, ground := Ground.textOnly Departure.lateStores }], guard := none }) rfl (fun K hK => ?_) ?_
        · go_simp
          refine hK _ _ ?_
          clear hK K
          (try simp only [Act.put, List.setIfInBounds_toArray, List.set_cons_zero, List.set_cons_succ])
          refine wpAny_take (i := 11) (oi := { dst := some 2, op := Op.assign (Operand.tmp 9), type := 3, pos := "prolog.go:126", after := #[{ on := 5, ground := Ground.data }, { on := 10, ground := Ground.chain }, { on := 0, ground := Ground.phase }, { on := 1, ground := Ground.phase }, { on := 2, ground := Ground.phase }, { on := 3, ground := Ground.phase }, { on := 4, ground := Ground.phase }, { on := 5, ground := Ground.phase }, { on := 6, ground := Ground.textOnly Departure.lateStores }, { on := 7, ground := Ground.phase }, { on := 8, ground := Ground.phase }, { on := 9, ground := Ground.phase }, { on := 10, ground := Ground.phase }], guard := none }) (v := ?_) rfl (by kernel_rfl) (by kernel_rfl) (by kernel_rfl) (fun _ _ _ h => h) (Or.inl ⟨by rfl, fun w9 => by go_simp; try with_reducible rfl⟩) ?_
          (try simp only [Act.put, List.setIfInBounds_toArray, List.set_cons_zero, List.set_cons_succ])
          refine wpAny_take (i := 12) (oi := { dst := some 3, op := Op.assign (Operand.tmp 10), type := 25, pos := "prolog.go:126", after := #[{ on := 6, ground := Ground.data }, { on := 11, ground := Ground.chain }, { on := 0, ground := Ground.phase }, { on := 1, ground := Ground.phase }, { on := 2, ground := Ground.phase }, { on := 3, ground := Ground.phase }, { on := 4, ground := Ground.phase }, { on := 5, ground := Ground.phase }, { on := 6, ground := Ground.phase }, { on := 7, ground := Ground.phase }, { on := 8, ground := Ground.phase }, { on := 9, ground := Ground.phase }, { on := 10, ground := Ground.phase }, { on := 11, ground := Ground.phase }], guard := none }) (v := ?_) rfl (by kernel_rfl) (by kernel_rfl) (by kernel_rfl) (fun _ _ _ h => h) (Or.inl ⟨by rfl, fun w9 => by go_simp; try with_reducible rfl⟩) ?_
          (try simp only [Act.put, List.setIfInBounds_toArray, List.set_cons_zero, List.set_cons_succ])
          refine wpAny_done (by kernel_rfl) ?_ _
          (try simp only [Exit.inBlock, Exit.then])
          go_wp2
          go_ret2
          exact ⟨rfl, HJ9.out⟩
        exact AllReady.nil
      exact AllReady.nil
    exact AllReady.nil
  refine AllReady.cons (o := { dst := some 6, op := Op.load 22 (Operand.tmp 0), type := 22, pos := "prolog.go:126", after := #[], guard := none }) rfl (fun K hK => ?_) ?_
  · go_simp
    refine hK _ _ ?_
    clear hK K
    (try simp only [Act.put, List.setIfInBounds_toArray, List.set_cons_zero, List.set_cons_succ])
    refine wpAny_ready (rs := [0, 2]) (by kernel_rfl) (by simp) ?_
    refine AllReady.cons (o := { dst := some 5, op := Op.load 74 (Operand.tmp 1), type := 74, pos := "prolog.go:126", after := #[], guard := none }) rfl (fun K hK => ?_) ?_
    · go_simp
      refine hK _ _ ?_
      clear hK K
      (try simp only [Act.put, List.setIfInBounds_toArray, List.set_cons_zero, List.set_cons_succ])
      refine wpAny_ready (rs := [2]) (by kernel_rfl) (by simp) ?_
      refine AllReady.cons (o := { dst := some 7, op := Op.call { callee := Callee.value (Operand.func 23), args := #[Operand.tmp 6, Operand.const (Value.int IntKind.i64 0)], argTypes := #[22, 3] }, type := 78, pos := "prolog.go:126", after := #[{ on := 1, ground := Ground.data }], guard := none }) rfl (fun K hK => ?_) ?_
      · go_simp
        refine CX.out.mono ?_
        rintro e w9 ⟨rfl, hJ9⟩
        have hD9 := hJ9.2.2.2.1
        have g0 : w9.cell? ⟨D + 1, 0, none⟩ = some (.pointer (some ⟨D, 0, none⟩)) := by rw [cell_of 0 ((hJ9.2.2.1 (D + 1) (by omega) (by omega)).trans HR.out)]; rfl
        have g1 : w9.cell? ⟨D, 1, none⟩ = some (.bool false) := by rw [cell_of 1 hD9]; rfl
        have g2 : w9.cell? ⟨D, 2, none⟩ = some (.string ⟨#[]⟩) := by rw [cell_of 2 hD9]; rfl
        have g3 : w9.cell? ⟨D, 3, none⟩ = some (.string ⟨#[]⟩) := by rw [cell_of 3 hD9]; rfl
        have g4 : w9.cell? ⟨D, 4, none⟩ = some (.string ⟨#[]⟩) := by rw [cell_of 4 hD9]; rfl
        have f1 := free_of 1 hD9
        have f2 := free_of 2 hD9
        have f3 := free_of 3 hD9
        have f4 := free_of 4 hD9
        have HJ9 := Lib.hid ((((hJ9.set H0.out 1 (.bool d.has)).set H0.out 2 (.string ⟨d.ver.toArray⟩)).set H0.out 3 (.string ⟨d.enc.toArray⟩)).set H0.out 4 (.string ⟨d.alone.toArray⟩))
        clear hD9 hJ9
        dsimp only
        refine hK _ _ ?_
        clear hK K
        (try simp only [Act.put, List.setIfInBounds_toArray, List.set_cons_zero, List.set_cons_succ])
        refine wpAny_take (i := 3) (oi := { dst := some 4, op := Op.move (Operand.tmp 7), type := 78, pos := "prolog.go:126", after := #[{ on := 2, ground := Ground.data }], guard := none }) (v := ?_) rfl (by kernel_rfl) (by kernel_rfl) (by kernel_rfl) (fun _ _ _ h => h) (Or.inl ⟨by rfl, fun w9 => by go_simp; try with_reducible rfl⟩) ?_
        (try simp only [Act.put, List.setIfInBounds_toArray, List.set_cons_zero, List.set_cons_succ])
        refine wpAny_take (i := 4) (oi := { dst := some 8, op := Op.extract (Operand.tmp 4) 0, type := 41, pos := "prolog.go:126", after := #[{ on := 3, ground := Ground.data }], guard := none }) (v := ?_) rfl (by kernel_rfl) (by kernel_rfl) (by kernel_rfl) (fun _ _ _ h => h) (Or.inl ⟨by rfl, fun w9 => by go_simp; try with_reducible rfl⟩) ?_
        (try simp only [Act.put, List.setIfInBounds_toArray, List.set_cons_zero, List.set_cons_succ])
        refine wpAny_take (i := 5) (oi := { dst := some 9, op := Op.extract (Operand.tmp 4) 1, type := 3, pos := "prolog.go:126", after := #[{ on := 3, ground := Ground.data }, { on := 10, ground := Ground.gcOnly Departure.lateStores }], guard := none }) (v := ?_) rfl (by kernel_rfl) (by kernel_rfl) (by kernel_rfl) (fun _ _ _ h => h) (Or.inl ⟨by rfl, fun w9 => by go_simp; try with_reducible rfl⟩) ?_
        (try simp only [Act.put, List.setIfInBounds_toArray, List.set_cons_zero, List.set_cons_succ])
        refine wpAny_take (i := 6) (oi := { dst := some 10, op := Op.extract (Operand.tmp 4) 2, type := 25, pos := "prolog.go:126", after := #[{ on := 3, ground := Ground.data }, { on := 11, ground := Ground.gcOnly Departure.lateStores }], guard := none }) (v := ?_) rfl (by kernel_rfl) (by kernel_rfl) (by kernel_rfl) (fun _ _ _ h => h) (Or.inl ⟨by rfl, fun w9 => by go_simp; try with_reducible rfl⟩) ?_
        (try simp only [Act.put, List.setIfInBounds_toArray, List.set_cons_zero, List.set_cons_succ])
        refine wpAny_take (i := 7) (oi := { dst := some 11, op := Op.nilCheck (Operand.tmp 5), type := 0, pos := "prolog.go:126", after := #[{ on := 0, ground := Ground.data }, { on := 0, ground := Ground.phase }, { on := 1, ground := Ground.phase }, { on := 2, ground := Ground.phase }, { on := 3, ground := Ground.phase }, { on := 4, ground := Ground.phase }, { on := 5, ground := Ground.textOnly Departure.lateStores }, { on := 6, ground := Ground.textOnly Departure.lateStores }], guard := none }) (v := ?_) rfl (by kernel_rfl) (by kernel_rfl) (by kernel_rfl) (fun _ _ _ h => h) (Or.inl ⟨by rfl, fun w9 => by go_simp; try with_reducible rfl⟩) ?_
        (try simp only [Act.put, List.setIfInBounds_toArray, List.set_cons_zero, List.set_cons_succ])
        refine wpAny_take (i := 8) (oi := { dst := some 12, op := Op.fieldAddr 76 (Operand.tmp 11) 1, type := 0, pos := "prolog.go:126", after := #[{ on := 7, ground := Ground.data }, { on := 0, ground := Ground.phase }, { on := 1, ground := Ground.phase }, { on := 2, ground := Ground.phase }, { on := 3, ground := Ground.phase }, { on := 4, ground := Ground.phase }, { on := 5, ground := Ground.textOnly Departure.lateStores }, { on := 6, ground := Ground.textOnly Departure.lateStores }], guard := none }) (v := ?_) rfl (by kernel_rfl) (by kernel_rfl) (by kernel_rfl) (fun _ _ _ h => h) (Or.inl ⟨by rfl, fun w9 => by go_simp; try with_reducible rfl⟩) ?_
        (try simp only [Act.put, List.setIfInBounds_toArray, List.set_cons_zero, List.set_cons_succ])
        refine wpAny_take (i := 9) (oi := { dst := some 13, op := Op.fieldAddr 47 (Operand.tmp 12) 0, type := 0, pos := "prolog.go:126", after := #[{ on := 8, ground := Ground.data }, { on := 0, ground := Ground.phase }, { on := 1, ground := Ground.phase }, { on := 2, ground := Ground.phase }, { on := 3, ground := Ground.phase }, { on := 4, ground := Ground.phase }, { on := 5, ground := Ground.textOnly Departure.lateStores }, { on := 6, ground := Ground.textOnly Departure.lateStores }], guard := none }) (v := ?_) rfl (by kernel_rfl) (by kernel_rfl) (by kernel_rfl) (fun _ _ _ h => h) (Or.inl ⟨by rfl, fun w9 => by go_simp; try with_reducible rfl⟩) ?_
        (try simp only [Act.put, List.setIfInBounds_toArray, List.set_cons_zero, List.set_cons_succ])
        refine wpAny_ready (rs := [10]) (by kernel_rfl) (by simp) ?_
        refine AllReady.cons (o := { dst := none, op := Op.store 41 (Operand.tmp 13) (Operand.tmp 8), type := 0, pos := "prolog.go:126", after := #[{ on := 9, ground := Ground.data }, { on := 4, ground := Ground.data }, { on := 2, ground := Ground.chain }, { on := 0, ground := Ground.phase }, { on := 1, ground := Ground.phase }, { on := 2, ground := Ground.phase }, { on := 3, ground := Ground.phase }, { on := 4, ground := Ground.phase }, { on := 5, ground := Ground.textOnly Departure.lateStores }, { on := 6, ground := Ground.textOnly Departure.lateStores }], guard := none }) rfl (fun K hK => ?_) ?_
        · go_simp
          refine hK _ _ ?_
          clear hK K
          (try simp only [Act.put, List.setIfInBounds_toArray, List.set_cons_zero, List.set_cons_succ])
          refine wpAny_take (i := 11) (oi := { dst := some 2, op := Op.assign (Operand.tmp 9), type := 3, pos := "prolog.go:126", after := #[{ on := 5, ground := Ground.data }, { on := 10, ground := Ground.chain }, { on := 0, ground := Ground.phase }, { on := 1, ground := Ground.phase }, { on := 2, ground := Ground.phase }, { on := 3, ground := Ground.phase }, { on := 4, ground := Ground.phase }, { on := 5, ground := Ground.phase }, { on := 6, ground := Ground.textOnly Departure.lateStores }, { on := 7, ground := Ground.phase }, { on := 8, ground := Ground.phase }, { on := 9, ground := Ground.phase }, { on := 10, ground := Ground.phase }], guard := none }) (v := ?_) rfl (by kernel_rfl) (by kernel_rfl) (by kernel_rfl) (fun _ _ _ h => h) (Or.inl ⟨by rfl, fun w9 => by go_simp; try with_reducible rfl⟩) ?_
          (try simp only [Act.put, List.setIfInBounds_toArray, List.set_cons_zero, List.set_cons_succ])
          refine wpAny_take (i := 12) (oi := { dst := some 3, op := Op.assign (Operand.tmp 10), type := 25, pos := "prolog.go:126", after := #[{ on := 6, ground := Ground.data }, { on := 11, ground := Ground.chain }, { on := 0, ground := Ground.phase }, { on := 1, ground := Ground.phase }, { on := 2, ground := Ground.phase }, { on := 3, ground := Ground.phase }, { on := 4, ground := Ground.phase }, { on := 5, ground := Ground.phase }, { on := 6, ground := Ground.phase }, { on := 7, ground := Ground.phase }, { on := 8, ground := Ground.phase }, { on := 9, ground := Ground.phase }, { on := 10, ground := Ground.phase }, { on := 11, ground := Ground.phase }], guard := none }) (v := ?_) rfl (by kernel_rfl) (by kernel_rfl) (by kernel_rfl) (fun _ _ _ h => h) (Or.inl ⟨by rfl, fun w9 => by go_simp; try with_reducible rfl⟩) ?_
          (try simp only [Act.put, List.setIfInBounds_toArray, List.set_cons_zero, List.set_cons_succ])
          refine wpAny_done (by kernel_rfl) ?_ _
          (try simp only [Exit.inBlock, Exit.then])
          go_wp2
          go_ret2
          exact ⟨rfl, HJ9.out⟩
        exact AllReady.nil
      exact AllReady.nil
    refine AllReady.cons (o := { dst := some 7, op := Op.call { callee := Callee.value (Operand.func 23), args := #[Operand.tmp 6, Operand.const (Value.int IntKind.i64 0)], argTypes := #[22, 3] }, type := 78, pos := "prolog.go:126", after := #[{ on := 1, ground := Ground.data }], guard := none }) rfl (fun K hK => ?_) ?_
    · go_simp
      refine CX.out.mono ?_
      rintro e w9 ⟨rfl, hJ9⟩
      have hD9 := hJ9.2.2.2.1
      have g0 : w9.cell? ⟨D + 1, 0, none⟩ = some (.pointer (some ⟨D, 0, none⟩)) := by rw [cell_of 0 ((hJ9.2.2.1 (D + 1) (by omega) (by omega)).trans HR.out)]; rfl
      have g1 : w9.cell? ⟨D, 1, none⟩ = some (.bool false) := by rw [cell_of 1 hD9]; rfl
      have g2 : w9.cell? ⟨D, 2, none⟩ = some (.string ⟨#[]⟩) := by rw [cell_of 2 hD9]; rfl
      have g3 : w9.cell? ⟨D, 3, none⟩ = some (.string ⟨#[]⟩) := by rw [cell_of 3 hD9]; rfl
      have g4 : w9.cell? ⟨D, 4, none⟩ = some (.string ⟨#[]⟩) := by rw [cell_of 4 hD9]; rfl
      have f1 := free_of 1 hD9
      have f2 := free_of 2 hD9
      have f3 := free_of 3 hD9
      have f4 := free_of 4 hD9
      have HJ9 := Lib.hid ((((hJ9.set H0.out 1 (.bool d.has)).set H0.out 2 (.string ⟨d.ver.toArray⟩)).set H0.out 3 (.string ⟨d.enc.toArray⟩)).set H0.out 4 (.string ⟨d.alone.toArray⟩))
      clear hD9 hJ9
      dsimp only
      refine hK _ _ ?_
      clear hK K
      (try simp only [Act.put, List.setIfInBounds_toArray, List.set_cons_zero, List.set_cons_succ])
      refine wpAny_take (i := 3) (oi := { dst := some 4, op := Op.move (Operand.tmp 7), type := 78, pos := "prolog.go:126", after := #[{ on := 2, ground := Ground.data }], guard := none }) (v := ?_) rfl (by kernel_rfl) (by kernel_rfl) (by kernel_rfl) (fun _ _ _ h => h) (Or.inl ⟨by rfl, fun w9 => by go_simp; try with_reducible rfl⟩) ?_
      (try simp only [Act.put, List.setIfInBounds_toArray, List.set_cons_zero, List.set_cons_succ])
      refine wpAny_take (i := 4) (oi := { dst := some 8, op := Op.extract (Operand.tmp 4) 0, type := 41, pos := "prolog.go:126", after := #[{ on := 3, ground := Ground.data }], guard := none }) (v := ?_) rfl (by kernel_rfl) (by kernel_rfl) (by kernel_rfl) (fun _ _ _ h => h) (Or.inl ⟨by rfl, fun w9 => by go_simp; try with_reducible rfl⟩) ?_
      (try simp only [Act.put, List.setIfInBounds_toArray, List.set_cons_zero, List.set_cons_succ])
      refine wpAny_take (i := 5) (oi := { dst := some 9, op := Op.extract (Operand.tmp 4) 1, type := 3, pos := "prolog.go:126", after := #[{ on := 3, ground := Ground.data }, { on := 10, ground := Ground.gcOnly Departure.lateStores }], guard := none }) (v := ?_) rfl (by kernel_rfl) (by kernel_rfl) (by kernel_rfl) (fun _ _ _ h => h) (Or.inl ⟨by rfl, fun w9 => by go_simp; try with_reducible rfl⟩) ?_
      (try simp only [Act.put, List.setIfInBounds_toArray, List.set_cons_zero, List.set_cons_succ])
      refine wpAny_take (i := 6) (oi := { dst := some 10, op := Op.extract (Operand.tmp 4) 2, type := 25, pos := "prolog.go:126", after := #[{ on := 3, ground := Ground.data }, { on := 11, ground := Ground.gcOnly Departure.lateStores }], guard := none }) (v := ?_) rfl (by kernel_rfl) (by kernel_rfl) (by kernel_rfl) (fun _ _ _ h => h) (Or.inl ⟨by rfl, fun w9 => by go_simp; try with_reducible rfl⟩) ?_
      (try simp only [Act.put, List.setIfInBounds_toArray, List.set_cons_zero, List.set_cons_succ])
      refine wpAny_ready (rs := [0]) (by kernel_rfl) (by simp) ?_
      refine AllReady.cons (o := { dst := some 5, op := Op.load 74 (Operand.tmp 1), type := 74, pos := "prolog.go:126", after := #[], guard := none }) rfl (fun K hK => ?_) ?_
      · go_simp
        refine hK _ _ ?_
        clear hK K
        (try simp only [Act.put, List.setIfInBounds_toArray, List.set_cons_zero, List.set_cons_succ])
        refine wpAny_take (i := 7) (oi := { dst := some 11, op := Op.nilCheck (Operand.tmp 5), type := 0, pos := "prolog.go:126", after := #[{ on := 0, ground := Ground.data }, { on := 0, ground := Ground.phase }, { on := 1, ground := Ground.phase }, { on := 2, ground := Ground.phase }, { on := 3, ground := Ground.phase }, { on := 4, ground := Ground.phase }, { on := 5, ground := Ground.textOnly Departure.lateStores }, { on := 6, ground := Ground.textOnly Departure.lateStores }], guard := none }) (v := ?_) rfl (by kernel_rfl) (by kernel_rfl) (by kernel_rfl) (fun _ _ _ h => h) (Or.inl ⟨by rfl, fun w9 => by go_simp; try with_reducible rfl⟩) ?_
        (try simp only [Act.put, List.setIfInBounds_toArray, List.set_cons_zero, List.set_cons_succ])
        refine wpAny_take (i := 8) (oi := { dst := some 12, op := Op.fieldAddr 76 (Operand.tmp 11) 1, type := 0, pos := "prolog.go:126", after := #[{ on := 7, ground := Ground.data }, { on := 0, ground := Ground.phase }, { on := 1, ground := Ground.phase }, { on := 2, ground := Ground.phase }, { on := 3, ground := Ground.phase }, { on := 4, ground := Ground.phase }, { on := 5, ground := Ground.textOnly Departure.lateStores }, { on := 6, ground := Ground.textOnly Departure.lateStores }], guard := none }) (v := ?_) rfl (by kernel_rfl) (by kernel_rfl) (by kernel_rfl) (fun _ _ _ h => h) (Or.inl ⟨by rfl, fun w9 => by go_simp; try with_reducible rfl⟩) ?_
        (try simp only [Act.put, List.setIfInBounds_toArray, List.set_cons_zero, List.set_cons_succ])
        refine wpAny_take (i := 9) (oi := { dst := some 13, op := Op.fieldAddr 47 (Operand.tmp 12) 0, type := 0, pos := "prolog.go:126", after := #[{ on := 8, ground := Ground.data }, { on := 0, ground := Ground.phase }, { on := 1, ground := Ground.phase }, { on := 2, ground := Ground.phase }, { on := 3, ground := Ground.phase }, { on := 4, ground := Ground.phase }, { on := 5, ground := Ground.textOnly Departure.lateStores }, { on := 6, ground := Ground.textOnly Departure.lateStores }], guard := none }) (v := ?_) rfl (by kernel_rfl) (by kernel_rfl) (by kernel_rfl) (fun _ _ _ h => h) (Or.inl ⟨by rfl, fun w9 => by go_simp; try with_reducible rfl⟩) ?_
        (try simp only [Act.put, List.setIfInBounds_toArray, List.set_cons_zero, List.set_cons_succ])
        refine wpAny_ready (rs := [10]) (by kernel_rfl) (by simp) ?_
        refine AllReady.cons (o := { dst := none, op := Op.store 41 (Operand.tmp 13) (Operand.tmp 8), type := 0, pos := "prolog.go:126", after := #[{ on := 9, ground := Ground.data }, { on := 4, ground := Ground.data }, { on := 2, ground := Ground.chain }, { on := 0, ground := Ground.phase }, { on := 1, ground := Ground.phase }, { on := 2, ground := Ground.phase }, { on := 3, ground := Ground.phase }, { on := 4, ground := Ground.phase }, { on := 5, ground := Ground.textOnly Departure.lateStores }, { on := 6, ground := Ground.textOnly Departure.lateStores }], guard := none }) rfl (fun K hK => ?_) ?_
        · go_simp
          refine hK _ _ ?_
          clear hK K
          (try simp only [Act.put, List.setIfInBounds_toArray, List.set_cons_zero, List.set_cons_succ])
          refine wpAny_take (i := 11) (oi := { dst := some 2, op := Op.assign (Operand.tmp 9), type := 3, pos := "prolog.go:126", after := #[{ on := 5, ground := Ground.data }, { on := 10, ground := Ground.chain }, { on := 0, ground := Ground.phase }, { on := 1, ground := Ground.phase }, { on := 2, ground := Ground.phase }, { on := 3, ground := Ground.phase }, { on := 4, ground := Ground.phase }, { on := 5, ground := Ground.phase }, { on := 6, ground := Ground.textOnly Departure.lateStores }, { on := 7, ground := Ground.phase }, { on := 8, ground := Ground.phase }, { on := 9, ground := Ground.phase }, { on := 10, ground := Ground.phase }], guard := none }) (v := ?_) rfl (by kernel_rfl) (by kernel_rfl) (by kernel_rfl) (fun _ _ _ h => h) (Or.inl ⟨by rfl, fun w9 => by go_simp; try with_reducible rfl⟩) ?_
          (try simp only [Act.put, List.setIfInBounds_toArray, List.set_cons_zero, List.set_cons_succ])
          refine wpAny_take (i := 12) (oi := { dst := some 3, op := Op.assign (Operand.tmp 10), type := 25, pos := "prolog.go:126", after := #[{ on := 6, ground := Ground.data }, { on := 11, ground := Ground.chain }, { on := 0, ground := Ground.phase }, { on := 1, ground := Ground.phase }, { on := 2, ground := Ground.phase }, { on := 3, ground := Ground.phase }, { on := 4, ground := Ground.phase }, { on := 5, ground := Ground.phase }, { on := 6, ground := Ground.phase }, { on := 7, ground := Ground.phase }, { on := 8, ground := Ground.phase }, { on := 9, ground := Ground.phase }, { on := 10, ground := Ground.phase }, { on := 11, ground := Ground.phase }], guard := none }) (v := ?_) rfl (by kernel_rfl) (by kernel_rfl) (by kernel_rfl) (fun _ _ _ h => h) (Or.inl ⟨by rfl, fun w9 => by go_simp; try with_reducible rfl⟩) ?_
          (try simp only [Act.put, List.setIfInBounds_toArray, List.set_cons_zero, List.set_cons_succ])
          refine wpAny_done (by kernel_rfl) ?_ _
          (try simp only [Exit.inBlock, Exit.then])
          go_wp2
          go_ret2
          exact ⟨rfl, HJ9.out⟩
        exact AllReady.nil
      exact AllReady.nil
    exact AllReady.nil
  exact AllReady.nil
set_option linter.unusedSimpArgs false in
set_option maxRecDepth 100000 in
set_option maxHeartbeats 8000000 in
theorem rdHead_c (D : Nat) (A : Option Addr) (n cap : Nat) (l : List UInt8) (d : DeclL) (t1 ta tb tc : Nat) (s : List UInt8) (v : Value) (evs : List MisT) (w0 W0 w : World) (h : Byt w0 w0.heap.size A n cap l) (hW : W29 w0) (hm : n ≤ 40000) (h0 : w0.heap.size ≤ D) (hD : D + 2 ≤ W0.heap.size)
    (hJ : PrJ w0 W0 D (rdC A n cap d false [] false v (t1 : Nat) 0) v evs w) (hd : DtAt l t1 ta tb tc s) :
    Calls Tryz.prog 25 #[.pointer (some ⟨D, 0, none⟩)] w fun e w' => e = .returned (.tuple #[.int .i64 ((tc : Int) + 1), .int .i64 0]) ∧ PrJ w0 W0 D (rdC A n cap d true s true v (t1 : Nat) 0) v evs w' := by
  have hDw := hJ.2.2.2.1
  have c1 : w.drew.cell? ⟨D, 0, none⟩ = some (.slice A n cap) := by rw [cell_of (w := w.drew) 0 hDw]; rfl
  have c2 : w.drew.cell? ⟨D, 12, none⟩ = some (.int .i64 (t1 : Nat)) := by rw [cell_of (w := w.drew) 12 hDw]; rfl
  have hJd := hJ.kept hD ((Below.refl w.heap.size w).drew)
  have CX : Hid (Calls Tryz.prog 49 #[.slice A n cap, .int .i64 (t1 : Nat)] w.drew fun e w' => e = .returned (.tuple #[.agg #[.bool true, .string ⟨s.toArray⟩, .string ⟨#[]⟩, .string ⟨#[]⟩, .bool false, .bool true], .int .i64 ((tc : Int) + 1), .int .i64 0]) ∧ PrJ w0 W0 D (rdC A n cap d false [] false v (t1 : Nat) 0) v evs w') := Lib.hid (by
    have := doctype_c A n cap l t1 ta tb tc s w.drew ((h.below hJd.1).more hJd.1.size) (hW.below hJd.1) (by omega) hd
    exact this.mono fun e w' ⟨he, hb⟩ => ⟨he, hJd.kept hD hb⟩)
  have H0 := Lib.hid h0
  clear h hW hJ hd hDw hJd
  go_enter Tryz.func25, Tryz.ntmps25
  go_wp2_with fail
  refine wp_region_drew (by kernel_rfl) ?_
  refine wpAny_take (i := 0) (oi := { dst := some 5, op := Op.move (Operand.tmp 0), type := 74, pos := "prolog.go:106", after := #[], guard := none }) (v := ?_) rfl (by kernel_rfl) (by kernel_rfl) (by kernel_rfl) (fun _ _ _ h => h) (Or.inl ⟨by rfl, fun w9 => by go_simp; try with_reducible rfl⟩) ?_
  (try simp only [Act.put, List.setIfInBounds_toArray, List.set_cons_zero, List.set_cons_succ])
  refine wpAny_take (i := 1) (oi := { dst := some 6, op := Op.move (Operand.tmp 0), type := 74, pos := "prolog.go:106", after := #[], guard := none }) (v := ?_) rfl (by kernel_rfl) (by kernel_rfl) (by kernel_rfl) (fun _ _ _ h => h) (Or.inl ⟨by rfl, fun w9 => by go_simp; try with_reducible rfl⟩) ?_
  (try simp only [Act.put, List.setIfInBounds_toArray, List.set_cons_zero, List.set_cons_succ])
  refine wpAny_take (i := 2) (oi := { dst := some 7, op := Op.nilCheck (Operand.tmp 6), type := 0, pos := "prolog.go:106", after := #[{ on := 1, ground := Ground.data }], guard := none }) (v := ?_) rfl (by kernel_rfl) (by kernel_rfl) (by kernel_rfl) (fun _ _ _ h => h) (Or.inl ⟨by rfl, fun w9 => by go_simp; try with_reducible rfl⟩) ?_
  (try simp only [Act.put, List.setIfInBounds_toArray, List.set_cons_zero, List.set_cons_succ])
  refine wpAny_take (i := 3) (oi := { dst := some 8, op := Op.fieldAddr 76 (Operand.tmp 7) 0, type := 0, pos := "prolog.go:106", after := #[{ on := 2, ground := Ground.data }], guard := none }) (v := ?_) rfl (by kernel_rfl) (by kernel_rfl) (by kernel_rfl) (fun _ _ _ h => h) (Or.inl ⟨by rfl, fun w9 => by go_simp; try with_reducible rfl⟩) ?_
  (try simp only [Act.put, List.setIfInBounds_toArray, List.set_cons_zero, List.set_cons_succ])
  refine wpAny_take (i := 5) (oi := { dst := some 10, op := Op.move (Operand.tmp 0), type := 74, pos := "prolog.go:106", after := #[], guard := none }) (v := ?_) rfl (by kernel_rfl) (by kernel_rfl) (by kernel_rfl) (fun _ _ _ h => h) (Or.inl ⟨by rfl, fun w9 => by go_simp; try with_reducible rfl⟩) ?_
  (try simp only [Act.put, List.setIfInBounds_toArray, List.set_cons_zero, List.set_cons_succ])
  refine wpAny_take (i := 6) (oi := { dst := some 11, op := Op.nilCheck (Operand.tmp 10), type := 0, pos := "prolog.go:106", after := #[{ on := 5, ground := Ground.data }], guard := none }) (v := ?_) rfl (by kernel_rfl) (by kernel_rfl) (by kernel_rfl) (fun _ _ _ h => h) (Or.inl ⟨by rfl, fun w9 => by go_simp; try with_reducible rfl⟩) ?_
  (try simp only [Act.put, List.setIfInBounds_toArray, List.set_cons_zero, List.set_cons_succ])
  refine wpAny_take (i := 7) (oi := { dst := some 12, op := Op.fieldAddr 76 (Operand.tmp 11) 1, type := 0, pos := "prolog.go:106", after := #[{ on := 6, ground := Ground.data }], guard := none }) (v := ?_) rfl (by kernel_rfl) (by kernel_rfl) (by kernel_rfl) (fun _ _ _ h => h) (Or.inl ⟨by rfl, fun w9 => by go_simp; try with_reducible rfl⟩) ?_
  (try simp only [Act.put, List.setIfInBounds_toArray, List.set_cons_zero, List.set_cons_succ])
  refine wpAny_take (i := 8) (oi := { dst := some 13, op := Op.fieldAddr 47 (Operand.tmp 12) 3, type := 0, pos := "prolog.go:106", after := #[{ on := 7, ground := Ground.data }], guard := none }) (v := ?_) rfl (by kernel_rfl) (by kernel_rfl) (by kernel_rfl) (fun _ _ _ h => h) (Or.inl ⟨by rfl, fun w9 => by go_simp; try with_reducible rfl⟩) ?_
  (try simp only [Act.put, List.setIfInBounds_toArray, List.set_cons_zero, List.set_cons_succ])
  refine wpAny_ready (rs := [4, 9]) (by kernel_rfl) (by simp) ?_
  refine AllReady.cons (o := { dst := some 9, op := Op.load 22 (Operand.tmp 8), type := 22, pos := "prolog.go:106", after := #[{ on := 3, ground := Ground.data }], guard := none }) rfl (fun K hK => ?_) ?_
  · go_simp
    refine hK _ _ ?_
    clear hK K
    (try simp only [Act.put, List.setIfInBounds_toArray, List.set_cons_zero, List.set_cons_succ])
    refine wpAny_ready (rs := [9]) (by kernel_rfl) (by simp) ?_
    refine AllReady.cons (o := { dst := some 14, op := Op.load 3 (Operand.tmp 13), type := 3, pos := "prolog.go:106", after := #[{ on := 8, ground := Ground.data }], guard := none }) rfl (fun K hK => ?_) ?_
    · go_simp
      refine hK _ _ ?_
      clear hK K
      (try simp only [Act.put, List.setIfInBounds_toArray, List.set_cons_zero, List.set_cons_succ])
      refine wpAny_ready (rs := [10]) (by kernel_rfl) (by simp) ?_
      refine AllReady.cons (o := { dst := some 15, op := Op.call { callee := Callee.value (Operand.func 49), args := #[Operand.tmp 9, Operand.tmp 14], argTypes := #[22, 3] }, type := 123, pos := "prolog.go:106", after := #[{ on := 4, ground := Ground.data }, { on := 9, ground := Ground.data }], guard := none }) rfl (fun K hK => ?_) ?_
      · go_simp
        refine CX.out.mono ?_
        rintro e w9 ⟨rfl, hJ9⟩
        have hD9 := hJ9.2.2.2.1
        have g5 : w9.cell? ⟨D, 5, none⟩ = some (.bool false) := by rw [cell_of 5 hD9]; rfl
        have g6 : w9.cell? ⟨D, 6, none⟩ = some (.string ⟨#[]⟩) := by rw [cell_of 6 hD9]; rfl
        have g7 : w9.cell? ⟨D, 7, none⟩ = some (.string ⟨#[]⟩) := by rw [cell_of 7 hD9]; rfl
        have g8 : w9.cell? ⟨D, 8, none⟩ = some (.string ⟨#[]⟩) := by rw [cell_of 8 hD9]; rfl
        have g9 : w9.cell? ⟨D, 9, none⟩ = some (.bool false) := by rw [cell_of 9 hD9]; rfl
        have g10 : w9.cell? ⟨D, 10, none⟩ = some (.bool false) := by rw [cell_of 10 hD9]; rfl
        have f5 := free_of 5 hD9
        have f6 := free_of 6 hD9
        have f7 := free_of 7 hD9
        have f8 := free_of 8 hD9
        have f9 := free_of 9 hD9
        have f10 := free_of 10 hD9
        have HJ9 := Lib.hid ((((((hJ9.set H0.out 5 (.bool true)).set H0.out 6 (.string ⟨s.toArray⟩)).set H0.out 7 (.string ⟨#[]⟩)).set H0.out 8 (.string ⟨#[]⟩)).set H0.out 9 (.bool false)).set H0.out 10 (.bool true))
        clear hD9 hJ9
        dsimp only
        refine hK _ _ ?_
        clear hK K
        (try simp only [Act.put, List.setIfInBounds_toArray, List.set_cons_zero, List.set_cons_succ])
        refine wpAny_take (i := 11) (oi := { dst := some 4, op := Op.move (Operand.tmp 15), type := 123, pos := "prolog.go:106", after := #[{ on := 10, ground := Ground.data }], guard := none }) (v := ?_) rfl (by kernel_rfl) (by kernel_rfl) (by kernel_rfl) (fun _ _ _ h => h) (Or.inl ⟨by rfl, fun w9 => by go_simp; try with_reducible rfl⟩) ?_
        (try simp only [Act.put, List.setIfInBounds_toArray, List.set_cons_zero, List.set_cons_succ])
        refine wpAny_take (i := 12) (oi := { dst := some 16, op := Op.extract (Operand.tmp 4) 0, type := 45, pos := "prolog.go:106", after := #[{ on := 11, ground := Ground.data }], guard := none }) (v := ?_) rfl (by kernel_rfl) (by kernel_rfl) (by kernel_rfl) (fun _ _ _ h => h) (Or.inl ⟨by rfl, fun w9 => by go_simp; try with_reducible rfl⟩) ?_
        (try simp only [Act.put, List.setIfInBounds_toArray, List.set_cons_zero, List.set_cons_succ])
        refine wpAny_take (i := 13) (oi := { dst := some 17, op := Op.extract (Operand.tmp 4) 1, type := 3, pos := "prolog.go:106", after := #[{ on := 11, ground := Ground.data }, { on := 18, ground := Ground.gcOnly Departure.lateStores }], guard := none }) (v := ?_) rfl (by kernel_rfl) (by kernel_rfl) (by kernel_rfl) (fun _ _ _ h => h) (Or.inl ⟨by rfl, fun w9 => by go_simp; try with_reducible rfl⟩) ?_
        (try simp only [Act.put, List.setIfInBounds_toArray, List.set_cons_zero, List.set_cons_succ])
        refine wpAny_take (i := 14) (oi := { dst := some 18, op := Op.extract (Operand.tmp 4) 2, type := 25, pos := "prolog.go:106", after := #[{ on := 11, ground := Ground.data }, { on := 19, ground := Ground.gcOnly Departure.lateStores }], guard := none }) (v := ?_) rfl (by kernel_rfl) (by kernel_rfl) (by kernel_rfl) (fun _ _ _ h => h) (Or.inl ⟨by rfl, fun w9 => by go_simp; try with_reducible rfl⟩) ?_
        (try simp only [Act.put, List.setIfInBounds_toArray, List.set_cons_zero, List.set_cons_succ])
        refine wpAny_take (i := 15) (oi := { dst := some 19, op := Op.nilCheck (Operand.tmp 5), type := 0, pos := "prolog.go:106", after := #[{ on := 0, ground := Ground.data }, { on := 0, ground := Ground.phase }, { on := 1, ground := Ground.phase }, { on := 2, ground := Ground.phase }, { on := 3, ground := Ground.phase }, { on := 4, ground := Ground.phase }, { on := 5, ground := Ground.phase }, { on := 6, ground := Ground.phase }, { on := 7, ground := Ground.phase }, { on := 8, ground := Ground.phase }, { on := 9, ground := Ground.phase }, { on := 10, ground := Ground.phase }, { on := 11, ground := Ground.phase }, { on := 12, ground := Ground.phase }, { on := 13, ground := Ground.textOnly Departure.lateStores }, { on := 14, ground := Ground.textOnly Departure.lateStores }], guard := none }) (v := ?_) rfl (by kernel_rfl) (by kernel_rfl) (by kernel_rfl) (fun _ _ _ h => h) (Or.inl ⟨by rfl, fun w9 => by go_simp; try with_reducible rfl⟩) ?_
        (try simp only [Act.put, List.setIfInBounds_toArray, List.set_cons_zero, List.set_cons_succ])
        refine wpAny_take (i := 16) (oi := { dst := some 20, op := Op.fieldAddr 76 (Operand.tmp 19) 1, type := 0, pos := "prolog.go:106", after := #[{ on := 15, ground := Ground.data }, { on := 0, ground := Ground.phase }, { on := 1, ground := Ground.phase }, { on := 2, ground := Ground.phase }, { on := 3, ground := Ground.phase }, { on := 4, ground := Ground.phase }, { on := 5, ground := Ground.phase }, { on := 6, ground := Ground.phase }, { on := 7, ground := Ground.phase }, { on := 8, ground := Ground.phase }, { on := 9, ground := Ground.phase }, { on := 10, ground := Ground.phase }, { on := 11, ground := Ground.phase }, { on := 12, ground := Ground.phase }, { on := 13, ground := Ground.textOnly Departure.lateStores }, { on := 14, ground := Ground.textOnly Departure.lateStores }], guard := none }) (v := ?_) rfl (by kernel_rfl) (by kernel_rfl) (by kernel_rfl) (fun _ _ _ h => h) (Or.inl ⟨by rfl, fun w9 => by go_simp; try with_reducible rfl⟩) ?_
        (try simp only [Act.put, List.setIfInBounds_toArray, List.set_cons_zero, List.set_cons_succ])
        refine wpAny_take (i := 17) (oi := { dst := some 21, op := Op.fieldAddr 47 (Operand.tmp 20) 1, type := 0, pos := "prolog.go:106", after := #[{ on := 16, ground := Ground.data }, { on := 0, ground := Ground.phase }, { on := 1, ground := Ground.phase }, { on := 2, ground := Ground.phase }, { on := 3, ground := Ground.phase }, { on := 4, ground := Ground.phase }, { on := 5, ground := Ground.phase }, { on := 6, ground := Ground.phase }, { on := 7, ground := Ground.phase }, { on := 8, ground := Ground.phase }, { on := 9, ground := Ground.phase }, { on := 10, ground := Ground.phase }, { on := 11, ground := Ground.phase }, { on := 12, ground := Ground.phase }, { on := 13, ground := Ground.textOnly Departure.lateStores }, { on := 14, ground := Ground.textOnly Departure.lateStores }], guard := none }) (v := ?_) rfl (by kernel_rfl) (by kernel_rfl) (by kernel_rfl) (fun _ _ _ h => h) (Or.inl ⟨by rfl, fun w9 => by go_simp; try with_reducible rfl⟩) ?_
        (try simp only [Act.put, List.setIfInBounds_toArray, List.set_cons_zero, List.set_cons_succ])
        refine wpAny_ready (rs := [18]) (by kernel_rfl) (by simp) ?_
        refine AllReady.cons (o := { dst := none, op := Op.store 45 (Operand.tmp 21) (Operand.tmp 16), type := 0, pos := "prolog.go:106", after := #[{ on := 17, ground := Ground.data }, { on := 12, ground := Ground.data }, { on := 10, ground := Ground.chain }, { on := 0, ground := Ground.phase }, { on := 1, ground := Ground.phase }, { on := 2, ground := Ground.phase }, { on := 3, ground := Ground.phase }, { on := 4, ground := Ground.phase }, { on := 5, ground := Ground.phase }, { on := 6, ground := Ground.phase }, { on := 7, ground := Ground.phase }, { on := 8, ground := Ground.phase }, { on := 9, ground := Ground.phase }, { on := 10, ground := Ground.phase }, { on := 11, ground := Ground.phase }, { on := 12, ground := Ground.phase }, { on := 13, ground := Ground.textOnly Departure.lateStores }, { on := 14, ground := Ground.textOnly Departure.lateStores }], guard := none }) rfl (fun K hK => ?_) ?_
        · go_simp
          refine hK _ _ ?_
          clear hK K
          (try simp only [Act.put, List.setIfInBounds_toArray, List.set_cons_zero, List.set_cons_succ])
          refine wpAny_take (i := 19) (oi := { dst := some 2, op := Op.assign (Operand.tmp 17), type := 3, pos := "prolog.go:106", after := #[{ on := 13, ground := Ground.data }, { on := 18, ground := Ground.chain }, { on := 0, ground := Ground.phase }, { on := 1, ground := Ground.phase }, { on := 2, ground := Ground.phase }, { on := 3, ground := Ground.phase }, { on := 4, ground := Ground.phase }, { on := 5, ground := Ground.phase }, { on := 6, ground := Ground.phase }, { on := 7, ground := Ground.phase }, { on := 8, ground := Ground.phase }, { on := 9, ground := Ground.phase }, { on := 10, ground := Ground.phase }, { on := 11, ground := Ground.phase }, { on := 12, ground := Ground.phase }, { on := 13, ground := Ground.phase }, { on := 14, ground := Ground.textOnly Departure.lateStores }, { on := 15, ground := Ground.phase }, { on := 16, ground := Ground.phase }, { on := 17, ground := Ground.phase }, { on := 18, ground := Ground.phase }], guard := none }) (v := ?_) rfl (by kernel_rfl) (by kernel_rfl) (by kernel_rfl) (fun _ _ _ h => h) (Or.inl ⟨by rfl, fun w9 => by go_simp; try with_reducible rfl⟩) ?_
          (try simp only [Act.put, List.setIfInBounds_toArray, List.set_cons_zero, List.set_cons_succ])
          refine wpAny_take (i := 20) (oi := { dst := some 3, op := Op.assign (Operand.tmp 18), type := 25, pos := "prolog.go:106", after := #[{ on := 14, ground := Ground.data }, { on := 19, ground := Ground.chain }, { on := 0, ground := Ground.phase }, { on := 1, ground := Ground.phase }, { on := 2, ground := Ground.phase }, { on := 3, ground := Ground.phase }, { on := 4, ground := Ground.phase }, { on := 5, ground := Ground.phase }, { on := 6, ground := Ground.phase }, { on := 7, ground := Ground.phase }, { on := 8, ground := Ground.phase }, { on := 9, ground := Ground.phase }, { on := 10, ground := Ground.phase }, { on := 11, ground := Ground.phase }, { on := 12, ground := Ground.phase }, { on := 13, ground := Ground.phase }, { on := 14, ground := Ground.phase }, { on := 15, ground := Ground.phase }, { on := 16, ground := Ground.phase }, { on := 17, ground := Ground.phase }, { on := 18, ground := Ground.phase }, { on := 19, ground := Ground.phase }], guard := none }) (v := ?_) rfl (by kernel_rfl) (by kernel_rfl) (by kernel_rfl) (fun _ _ _ h => h) (Or.inl ⟨by rfl, fun w9 => by go_simp; try with_reducible rfl⟩) ?_
          (try simp only [Act.put, List.setIfInBounds_toArray, List.set_cons_zero, List.set_cons_succ])
          refine wpAny_done (by kernel_rfl) ?_ _
          (try simp only [Exit.inBlock, Exit.then])
          go_wp2
          go_ret2
          exact ⟨rfl, HJ9.out⟩
        exact AllReady.nil
      exact AllReady.nil
    exact AllReady.nil
  refine AllReady.cons (o := { dst := some 14, op := Op.load 3 (Operand.tmp 13), type := 3, pos := "prolog.go:106", after := #[{ on := 8, ground := Ground.data }], guard := none }) rfl (fun K hK => ?_) ?_
  · go_simp
    refine hK _ _ ?_
    clear hK K
    (try simp only [Act.put, List.setIfInBounds_toArray, List.set_cons_zero, List.set_cons_succ])
    refine wpAny_ready (rs := [4]) (by kernel_rfl) (by simp) ?_
    refine AllReady.cons (o := { dst := some 9, op := Op.load 22 (Operand.tmp 8), type := 22, pos := "prolog.go:106", after := #[{ on := 3, ground := Ground.data }], guard := none }) rfl (fun K hK => ?_) ?_
    · go_simp
      refine hK _ _ ?_
      clear hK K
      (try simp only [Act.put, List.setIfInBounds_toArray, List.set_cons_zero, List.set_cons_succ])
      refine wpAny_ready (rs := [10]) (by kernel_rfl) (by simp) ?_
      refine AllReady.cons (o := { dst := some 15, op := Op.call { callee := Callee.value (Operand.func 49), args := #[Operand.tmp 9, Operand.tmp 14], argTypes := #[22, 3] }, type := 123, pos := "prolog.go:106", after := #[{ on := 4, ground := Ground.data }, { on := 9, ground := Ground.data }], guard := none }) rfl (fun K hK => ?_) ?_
      · go_simp
        refine CX.out.mono ?_
        rintro e w9 ⟨rfl, hJ9⟩
        have hD9 := hJ9.2.2.2.1
        have g5 : w9.cell? ⟨D, 5, none⟩ = some (.bool false) := by rw [cell_of 5 hD9]; rfl
        have g6 : w9.cell? ⟨D, 6, none⟩ = some (.string ⟨#[]⟩) := by rw [cell_of 6 hD9]; rfl
        have g7 : w9.cell? ⟨D, 7, none⟩ = some (.string ⟨#[]⟩) := by rw [cell_of 7 hD9]; rfl
        have g8 : w9.cell? ⟨D, 8, none⟩ = some (.string ⟨#[]⟩) := by rw [cell_of 8 hD9]; rfl
        have g9 : w9.cell? ⟨D, 9, none⟩ = some (.bool false) := by rw [cell_of 9 hD9]; rfl
        have g10 : w9.cell? ⟨D, 10, none⟩ = some (.bool false) := by rw [cell_of 10 hD9]; rfl
        have f5 := free_of 5 hD9
        have f6 := free_of 6 hD9
        have f7 := free_of 7 hD9
        have f8 := free_of 8 hD9
        have f9 := free_of 9 hD9
        have f10 := free_of 10 hD9
        have HJ9 := Lib.hid ((((((hJ9.set H0.out 5 (.bool true)).set H0.out 6 (.string ⟨s.toArray⟩)).set H0.out 7 (.string ⟨#[]⟩)).set H0.out 8 (.string ⟨#[]⟩)).set H0.out 9 (.bool false)).set H0.out 10 (.bool true))
        clear hD9 hJ9
        dsimp only
        refine hK _ _ ?_
        clear hK K
        (try simp only [Act.put, List.setIfInBounds_toArray, List.set_cons_zero, List.set_cons_succ])
        refine wpAny_take (i := 11) (oi := { dst := some 4, op := Op.move (Operand.tmp 15), type := 123, pos := "prolog.go:106", after := #[{ on := 10, ground := Ground.data }], guard := none }) (v := ?_) rfl (by kernel_rfl) (by kernel_rfl) (by kernel_rfl) (fun _ _ _ h => h) (Or.inl ⟨by rfl, fun w9 => by go_simp; try with_reducible rfl⟩) ?_
        (try simp only [Act.put, List.setIfInBounds_toArray, List.set_cons_zero, List.set_cons_succ])
        refine wpAny_take (i := 12) (oi := { dst := some 16, op := Op.extract (Operand.tmp 4) 0, type := 45, pos := "prolog.go:106", after := #[{ on := 11, ground := Ground.data }], guard := none }) (v := ?_) rfl (by kernel_rfl) (by kernel_rfl) (by kernel_rfl) (fun _ _ _ h => h) (Or.inl ⟨by rfl, fun w9 => by go_simp; try with_reducible rfl⟩) ?_
        (try simp only [Act.put, List.setIfInBounds_toArray, List.set_cons_zero, List.set_cons_succ])
        refine wpAny_take (i := 13) (oi := { dst := some 17, op := Op.extract (Operand.tmp 4) 1, type := 3, pos := "prolog.go:106", after := #[{ on := 11, ground := Ground.data }, { on := 18, ground := Ground.gcOnly Departure.lateStores }], guard := none }) (v := ?_) rfl (by kernel_rfl) (by kernel_rfl) (by kernel_rfl) (fun _ _ _ h => h) (Or.inl ⟨by rfl, fun w9 => by go_simp; try with_reducible rfl⟩) ?_
        (try simp only [Act.put, List.setIfInBounds_toArray, List.set_cons_zero, List.set_cons_succ])
        refine wpAny_take (i := 14) (oi := { dst := some 18, op := Op.extract (Operand.tmp 4) 2, type := 25, pos := "prolog.go:106", after := #[{ on := 11, ground := Ground.data }, { on := 19, ground := Ground.gcOnly Departure.lateStores }], guard := none }) (v := ?_) rfl (by kernel_rfl) (by kernel_rfl) (by kernel_rfl) (fun _ _ _ h => h) (Or.inl ⟨by rfl, fun w9 => by go_simp; try with_reducible rfl⟩) ?_
        (try simp only [Act.put, List.setIfInBounds_toArray, List.set_cons_zero, List.set_cons_succ])
        refine wpAny_take (i := 15) (oi := { dst := some 19, op := Op.nilCheck (Operand.tmp 5), type := 0, pos := "prolog.go:106", after := #[{ on := 0, ground := Ground.data }, { on := 0, ground := Ground.phase }, { on := 1, ground := Ground.phase }, { on := 2, ground := Ground.phase }, { on := 3, ground := Ground.phase }, { on := 4, ground := Ground.phase }, { on := 5, ground := Ground.phase }, { on := 6, ground := Ground.phase }, { on := 7, ground := Ground.phase }, { on := 8, ground := Ground.phase }, { on := 9, ground := Ground.phase }, { on := 10, ground := Ground.phase }, { on := 11, ground := Ground.phase }, { on := 12, ground := Ground.phase }, { on := 13, ground := Ground.textOnly Departure.lateStores }, { on := 14, ground := Ground.textOnly Departure.lateStores }], guard := none }) (v := ?_) rfl (by kernel_rfl) (by kernel_rfl) (by kernel_rfl) (fun _ _ _ h => h) (Or.inl ⟨by rfl, fun w9 => by go_simp; try with_reducible rfl⟩) ?_
        (try simp only [Act.put, List.setIfInBounds_toArray, List.set_cons_zero, List.set_cons_succ])
        refine wpAny_take (i := 16) (oi := { dst := some 20, op := Op.fieldAddr 76 (Operand.tmp 19) 1, type := 0, pos := "prolog.go:106", after := #[{ on := 15, ground := Ground.data }, { on := 0, ground := Ground.phase }, { on := 1, ground := Ground.phase }, { on := 2, ground := Ground.phase }, { on := 3, ground := Ground.phase }, { on := 4, ground := Ground.phase }, { on := 5, ground := Ground.phase }, { on := 6, ground := Ground.phase }, { on := 7, ground := Ground.phase }, { on := 8, ground := Ground.phase }, { on := 9, ground := Ground.phase }, { on := 10, ground := Ground.phase }, { on := 11, ground := Ground.phase }, { on := 12, ground := Ground.phase }, { on := 13, ground := Ground.textOnly Departure.lateStores }, { on := 14, ground := Ground.textOnly Departure.lateStores }], guard := none }) (v := ?_) rfl (by kernel_rfl) (by kernel_rfl) (by kernel_rfl) (fun _ _ _ h => h) (Or.inl ⟨by rfl, fun w9 => by go_simp; try with_reducible rfl⟩) ?_
        (try simp only [Act.put, List.setIfInBounds_toArray, List.set_cons_zero, List.set_cons_succ])
        refine wpAny_take (i := 17) (oi := { dst := some 21, op := Op.fieldAddr 47 (Operand.tmp 20) 1, type := 0, pos := "prolog.go:106", after := #[{ on := 16, ground := Ground.data }, { on := 0, ground := Ground.phase }, { on := 1, ground := Ground.phase }, { on := 2, ground := Ground.phase }, { on := 3, ground := Ground.phase }, { on := 4, ground := Ground.phase }, { on := 5, ground := Ground.phase }, { on := 6, ground := Ground.phase }, { on := 7, ground := Ground.phase }, { on := 8, ground := Ground.phase }, { on := 9, ground := Ground.phase }, { on := 10, ground := Ground.phase }, { on := 11, ground := Ground.phase }, { on := 12, ground := Ground.phase }, { on := 13, ground := Ground.textOnly Departure.lateStores }, { on := 14, ground := Ground.textOnly Departure.lateStores }], guard := none }) (v := ?_) rfl (by kernel_rfl) (by kernel_rfl) (by kernel_rfl) (fun _ _ _ h => h) (Or.inl ⟨by rfl, fun w9 => by go_simp; try with_reducible rfl⟩) ?_
        (try simp only [Act.put, List.setIfInBounds_toArray, List.set_cons_zero, List.set_cons_succ])
        refine wpAny_ready (rs := [18]) (by kernel_rfl) (by simp) ?_
        refine AllReady.cons (o := { dst := none, op := Op.store 45 (Operand.tmp 21) (Operand.tmp 16), type := 0, pos := "prolog.go:106", after := #[{ on := 17, ground := Ground.data }, { on := 12, ground := Ground.data }, { on := 10, ground := Ground.chain }, { on := 0, ground := Ground.phase }, { on := 1, ground := Ground.phase }, { on := 2, ground := Ground.phase }, { on := 3, ground := Ground.phase }, { on := 4, ground := Ground.phase }, { on := 5, ground := Ground.phase }, { on := 6, ground := Ground.phase }, { on := 7, ground := Ground.phase }, { on := 8, ground := Ground.phase }, { on := 9, ground := Ground.phase }, { on := 10, ground := Ground.phase }, { on := 11, ground := Ground.phase }, { on := 12, ground := Ground.phase }, { on := 13, ground := Ground.textOnly Departure.lateStores }, { on := 14, ground := Ground.textOnly Departure.lateStores }], guard := none }) rfl (fun K hK => ?_) ?_
        · go_simp
          refine hK _ _ ?_
          clear hK K
          (try simp only [Act.put, List.setIfInBounds_toArray, List.set_cons_zero, List.set_cons_succ])
          refine wpAny_take (i := 19) (oi := { dst := some 2, op := Op.assign (Operand.tmp 17), type := 3, pos := "prolog.go:106", after := #[{ on := 13, ground := Ground.data }, { on := 18, ground := Ground.chain }, { on := 0, ground := Ground.phase }, { on := 1, ground := Ground.phase }, { on := 2, ground := Ground.phase }, { on := 3, ground := Ground.phase }, { on := 4, ground := Ground.phase }, { on := 5, ground := Ground.phase }, { on := 6, ground := Ground.phase }, { on := 7, ground := Ground.phase }, { on := 8, ground := Ground.phase }, { on := 9, ground := Ground.phase }, { on := 10, ground := Ground.phase }, { on := 11, ground := Ground.phase }, { on := 12, ground := Ground.phase }, { on := 13, ground := Ground.phase }, { on := 14, ground := Ground.textOnly Departure.lateStores }, { on := 15, ground := Ground.phase }, { on := 16, ground := Ground.phase }, { on := 17, ground := Ground.phase }, { on := 18, ground := Ground.phase }], guard := none }) (v := ?_) rfl (by kernel_rfl) (by kernel_rfl) (by kernel_rfl) (fun _ _ _ h => h) (Or.inl ⟨by rfl, fun w9 => by go_simp; try with_reducible rfl⟩) ?_
          (try simp only [Act.put, List.setIfInBounds_toArray, List.set_cons_zero, List.set_cons_succ])
          refine wpAny_take (i := 20) (oi := { dst := some 3, op := Op.assign (Operand.tmp 18), type := 25, pos := "prolog.go:106", after := #[{ on := 14, ground := Ground.data }, { on := 19, ground := Ground.chain }, { on := 0, ground := Ground.phase }, { on := 1, ground := Ground.phase }, { on := 2, ground := Ground.phase }, { on := 3, ground := Ground.phase }, { on := 4, ground := Ground.phase }, { on := 5, ground := Ground.phase }, { on := 6, ground := Ground.phase }, { on := 7, ground := Ground.phase }, { on := 8, ground := Ground.phase }, { on := 9, ground := Ground.phase }, { on := 10, ground := Ground.phase }, { on := 11, ground := Ground.phase }, { on := 12, ground := Ground.phase }, { on := 13, ground := Ground.phase }, { on := 14, ground := Ground.phase }, { on := 15, ground := Ground.phase }, { on := 16, ground := Ground.phase }, { on := 17, ground := Ground.phase }, { on := 18, ground := Ground.phase }, { on := 19, ground := Ground.phase }], guard := none }) (v := ?_) rfl (by kernel_rfl) (by kernel_rfl) (by kernel_rfl) (fun _ _ _ h => h) (Or.inl ⟨by rfl, fun w9 => by go_simp; try with_reducible rfl⟩) ?_
          (try simp only [Act.put, List.setIfInBounds_toArray, List.set_cons_zero, List.set_cons_succ])
          refine wpAny_done (by kernel_rfl) ?_ _
          (try simp only [Exit.inBlock, Exit.then])
          go_wp2
          go_ret2
          exact ⟨rfl, HJ9.out⟩
        exact AllReady.nil
      exact AllReady.nil
    exact AllReady.nil
  exact AllReady.nil
/-- 'append(s, x...)' of rows of events. -/
theorem wpList_appRow {ops : Array Oper} {rest : List Oper} {o : Oper} {a : Act} {Q : Exit → Act → World → Prop} {w : World} (hgd : o.guard = none) (s x : Operand)
    (ho : o.op = .call { callee := .builtin .append, args := #[s, x], argTypes := #[24, 24] }) (base : Nat) (v : Value) (evs : List MisT) (hs : a.eval s = v) (hown : OwnC cMis 5 54 w base v evs)
    (base2 : Nat) (vx : Value) (ys : List MisT) (hx : a.eval x = vx) (hownx : OwnC cMis 5 54 w base2 vx ys) (hlen : evs.length + ys.length ≤ 1000000) (hbase : base ≤ w.heap.size)
    (h : ∀ v' w', OwnC cMis 5 54 w' base v' (evs ++ ys) → w.grownBy w' v.ownBlock → wpList Tryz.prog ops Q rest (a.put o.dst v') w') : wpList Tryz.prog ops Q (o :: rest) a w := by
  refine wpList_plain hgd fun K hK => ?_
  obtain ⟨i, hi, hz, hsz, hbt⟩ := infoC_ev
  unfold OwnC at hown
  obtain ⟨hl2, hn2 | ⟨g, cp, cur, hv2, hg2, hh2, hle2, hcp2, hsz2, htk2⟩⟩ := hownx
  · obtain ⟨rfl, hn2⟩ := hn2
    have hys : ys = [] := List.length_eq_zero_iff.1 hn2
    subst hys
    have hr := run_append_owned_none (P := Tryz.prog) (w := w) base 24 o.type 54 i 5 Tryz.underlying24 hi v evs.length (evs.flatMap cMis) hown
    unfold Oper.wp execOp
    simp only [ho, resolve, invoke, builtin, Sem.run_bind, Sem.run_pure, Result.andThen_ok, List.map_toArray, List.map_cons, List.map_nil, hs, hx, hr]
    exact hK _ _ (h v w (by rw [List.append_nil]; exact hown) ⟨rfl, rfl, rfl, Nat.le_refl _, fun _ _ _ => rfl⟩)
  · obtain ⟨v', w', hr, h2, h3, _, _⟩ := run_append_own_at (P := Tryz.prog) w base 24 o.type 54 i (.agg #[.int .i64 0, .string ⟨#[]⟩, .string ⟨#[]⟩, .slice none 0 0, .string ⟨#[]⟩]) 5 80 Tryz.underlying24 hi hz hsz hbt rfl (by decide) v evs.length (evs.flatMap cMis) hown ⟨g, 0, none⟩ ys.length cp (ys.flatMap cMis) hl2 (fun j u hu => by
      rw [addr_add, cell_of _ hh2, Nat.zero_add]
      have hj : j < ys.length * 5 := by have := (List.getElem?_eq_some_iff.1 hu).1; rwa [hl2] at this
      rw [← htk2, List.getElem?_take_of_lt hj] at hu
      simpa using hu) (fun u hu => by
      obtain ⟨m, _, hm⟩ := List.mem_flatMap.1 hu
      simp [cMis] at hm
      rcases hm with rfl | rfl | rfl | rfl | rfl <;> rfl) (by unfold maxLen; omega) (by omega) hbase
    subst hv2
    unfold Oper.wp execOp
    simp only [ho, resolve, invoke, builtin, Sem.run_bind, Sem.run_pure, Result.andThen_ok, List.map_toArray, List.map_cons, List.map_nil, hs, hx, hr]
    refine hK _ _ (h v' w' ?_ h3)
    unfold OwnC
    rw [List.length_append, List.flatMap_append]
    exact h2
end Go.Proofs.YtgenpgfhjhcahaaGreatDoor
