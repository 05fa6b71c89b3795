/- Texts of ours, joined: RdS. -/
import Derived.Test.YtgenpgfhjhcahaaGreatDoorRows
import Derived.WalkKit
import Derived.ProofKit
import Derived.OpenShut
import Derived.ShutString
import Derived.ChangeOld
import Derived.Below
import Derived.BigQuiet
import Derived.Deep.QuietTactic
import Derived.Lib.Hide
import Derived.Deep.RegionHeld3
import Derived.Lib.SlBytesConst
import Derived.Laws.CopyOwn
import Derived.Laws.CopyRow
import Derived.Lib.Bytes
import Derived.Deep.LoopGhost
import Derived.Deep.DeepFit
import Derived.Deep.DeepMust
import Derived.WalkSpells
import Derived.WalkLawsBesides
import Derived.Laws.EntriesVeiled
import Derived.Laws.Rows
import Derived.Maps.OwnOps
import Derived.Maps.OwnSet
import Derived.Maps.Views
import Derived.Maps.AppendAt
import Derived.Deep.AppendLies
import Derived.DeepKeys4
import Derived.MapViews
import Derived.Maps.Keyed
import Derived.Deep.RegionLaw
import Derived.Deep.RegionWith
import Derived.StillTailTactics
import Derived.Deep.CutRange
import Derived.IntWalk
import Derived.Laws.MakeOwn
import Derived.Laws.OwnMore
import Derived.Deep.MidRow
import Derived.Test.YtgenpgfhjhcahaaGreatDoorQ1
import Derived.Test.YtgenpgfhjhcahaaGreatDoorQ2
import Derived.Test.YtgenpgfhjhcahaaGreatDoorQ7
import Derived.Test.YtgenpgfhjhcahaaGreatDoorQ8
import Derived.Test.YtgenpgfhjhcahaaGreatDoorQ4
import Derived.Test.YtgenpgfhjhcahaaGreatDoorQ3
import Derived.Test.YtgenpgfhjhcahaaGreatDoorQ5
import Derived.Test.YtgenpgfhjhcahaaGreatDoorQ9
import Derived.Test.YtgenpgfhjhcahaaGreatDoorQ10
import Derived.Test.YtgenpgfhjhcahaaGreatDoorQ11
import Derived.Test.YtgenpgfhjhcahaaGreatDoorQ12
import Derived.Test.YtgenpgfhjhcahaaGreatDoorQ14
import Derived.Test.YtgenpgfhjhcahaaGreatDoorQ15
import Derived.Test.YtgenpgfhjhcahaaGreatDoorQ16
import Derived.Test.YtgenpgfhjhcahaaGreatDoorQ17
import Derived.Test.YtgenpgfhjhcahaaGreatDoorQ18
import Derived.Test.YtgenpgfhjhcahaaGreatDoorQ20
import Derived.Test.YtgenpgfhjhcahaaGreatDoorQ21
import Derived.Test.YtgenpgfhjhcahaaGreatDoorQ22
import Derived.Test.YtgenpgfhjhcahaaGreatDoorQ25
import Derived.Test.YtgenpgfhjhcahaaGreatDoorQ26
/- The parts of prolog.Read: its events, the declarations. -/
namespace Go.Proofs.YtgenpgfhjhcahaaGreatDoor
open Go.ChangeShapes Go.WideShapes Go.ChangeAt Go.RowKit
set_option linter.unusedVariables false
set_option linter.unusedSimpArgs false in
set_option maxRecDepth 100000 in
set_option maxHeartbeats 8000000 in
theorem rdMisc_c (D : Nat) (A : Option Addr) (n cap : Nat) (l : List UInt8) (d : DeclL) (hs : Bool) (nm : List UInt8) (op : Bool) (t t2 : Nat) (ev2 : List MisT) (v : Value) (evs : List MisT) (w0 W0 w : World) (h : Byt w0 w0.heap.size A n cap l) (hW : W29 w0) (hm : n ≤ 40000) (h0 : w0.heap.size ≤ D) (hD : D + 2 ≤ W0.heap.size)
    (hJ : PrJ w0 W0 D (rdC A n cap d hs nm op v (t : Nat) 0) v evs w) (ht : t ≤ n) (hx : miscOut l t = (ev2, t2, 0)) (hlen : evs.length + ev2.length ≤ 1000000) :
    Calls Tryz.prog 24 #[.pointer (some ⟨D, 0, none⟩)] w fun e w' => e = .returned (.tuple #[.int .i64 (t2 : Nat), .int .i64 0]) ∧ ∃ v', PrJ w0 W0 D (rdC A n cap d hs nm op v' (t : Nat) 0) v' (evs ++ ev2) w' := by
  have hDw := hJ.2.2.2.1
  have c1 : w.drew.cell? ⟨D, 0, none⟩ = some (.slice A n cap) := by rw [cell_of (w := w.drew) 0 hDw]; rfl
  have c2 : w.drew.cell? ⟨D, 12, none⟩ = some (.int .i64 (t : Nat)) := by rw [cell_of (w := w.drew) 12 hDw]; rfl
  have hJd := hJ.kept hD ((Below.refl w.heap.size w).drew)
  have CX : Hid (Calls Tryz.prog 6 #[.slice A n cap, .int .i64 (t : Nat)] w.drew fun e w' => ∃ OA oc, e = .returned (.tuple #[.slice OA ev2.length oc, .int .i64 (t2 : Nat), .int .i64 0]) ∧ OwnC cMis 5 54 w' w.heap.size (.slice OA ev2.length oc) ev2 ∧ PrJ w0 W0 D (rdC A n cap d hs nm op v (t : Nat) 0) v evs w') := Lib.hid (by
    have := pgMisc_c A n cap l t w.drew ((h.below hJd.1).more hJd.1.size) (hW.below hJd.1) (by omega) ht
    rw [hx] at this
    exact this.mono fun e w' ⟨OA, oc, he, ho, hb⟩ => ⟨OA, oc, he, ho, hJd.kept hD hb⟩)
  have H0 := Lib.hid (And.intro h0 (And.intro hD hlen))
  clear h hW hJ hDw hJd hx hlen
  go_enter Tryz.func24, Tryz.ntmps24
  go_wp2_with fail
  refine wp_region_drew (by kernel_rfl) ?_
  refine wpAny_take (i := 0) (oi := { dst := some 8, op := Op.move (Operand.tmp 0), type := 74, pos := "prolog.go:99", after := #[], guard := none }) (v := ?_) rfl (by kernel_rfl) (by kernel_rfl) (by kernel_rfl) (fun _ _ _ h => h) (Or.inl ⟨by rfl, fun w9 => by go_simp; try with_reducible rfl⟩) ?_
  (try simp only [Act.put, List.setIfInBounds_toArray, List.set_cons_zero, List.set_cons_succ])
  refine wpAny_take (i := 1) (oi := { dst := some 9, op := Op.nilCheck (Operand.tmp 8), type := 0, pos := "prolog.go:99", after := #[{ on := 0, ground := Ground.data }], guard := none }) (v := ?_) rfl (by kernel_rfl) (by kernel_rfl) (by kernel_rfl) (fun _ _ _ h => h) (Or.inl ⟨by rfl, fun w9 => by go_simp; try with_reducible rfl⟩) ?_
  (try simp only [Act.put, List.setIfInBounds_toArray, List.set_cons_zero, List.set_cons_succ])
  refine wpAny_take (i := 2) (oi := { dst := some 10, op := Op.fieldAddr 76 (Operand.tmp 9) 0, type := 0, pos := "prolog.go:99", after := #[{ on := 1, ground := Ground.data }], guard := none }) (v := ?_) rfl (by kernel_rfl) (by kernel_rfl) (by kernel_rfl) (fun _ _ _ h => h) (Or.inl ⟨by rfl, fun w9 => by go_simp; try with_reducible rfl⟩) ?_
  (try simp only [Act.put, List.setIfInBounds_toArray, List.set_cons_zero, List.set_cons_succ])
  refine wpAny_take (i := 4) (oi := { dst := some 12, op := Op.move (Operand.tmp 0), type := 74, pos := "prolog.go:99", after := #[], guard := none }) (v := ?_) rfl (by kernel_rfl) (by kernel_rfl) (by kernel_rfl) (fun _ _ _ h => h) (Or.inl ⟨by rfl, fun w9 => by go_simp; try with_reducible rfl⟩) ?_
  (try simp only [Act.put, List.setIfInBounds_toArray, List.set_cons_zero, List.set_cons_succ])
  refine wpAny_take (i := 5) (oi := { dst := some 13, op := Op.nilCheck (Operand.tmp 12), type := 0, pos := "prolog.go:99", after := #[{ on := 4, ground := Ground.data }], guard := none }) (v := ?_) rfl (by kernel_rfl) (by kernel_rfl) (by kernel_rfl) (fun _ _ _ h => h) (Or.inl ⟨by rfl, fun w9 => by go_simp; try with_reducible rfl⟩) ?_
  (try simp only [Act.put, List.setIfInBounds_toArray, List.set_cons_zero, List.set_cons_succ])
  refine wpAny_take (i := 6) (oi := { dst := some 14, op := Op.fieldAddr 76 (Operand.tmp 13) 1, type := 0, pos := "prolog.go:99", after := #[{ on := 5, ground := Ground.data }], guard := none }) (v := ?_) rfl (by kernel_rfl) (by kernel_rfl) (by kernel_rfl) (fun _ _ _ h => h) (Or.inl ⟨by rfl, fun w9 => by go_simp; try with_reducible rfl⟩) ?_
  (try simp only [Act.put, List.setIfInBounds_toArray, List.set_cons_zero, List.set_cons_succ])
  refine wpAny_take (i := 7) (oi := { dst := some 15, op := Op.fieldAddr 47 (Operand.tmp 14) 3, type := 0, pos := "prolog.go:99", after := #[{ on := 6, ground := Ground.data }], guard := none }) (v := ?_) rfl (by kernel_rfl) (by kernel_rfl) (by kernel_rfl) (fun _ _ _ h => h) (Or.inl ⟨by rfl, fun w9 => by go_simp; try with_reducible rfl⟩) ?_
  (try simp only [Act.put, List.setIfInBounds_toArray, List.set_cons_zero, List.set_cons_succ])
  refine wpAny_ready (rs := [3, 8]) (by kernel_rfl) (by simp) ?_
  refine AllReady.cons (o := { dst := some 11, op := Op.load 22 (Operand.tmp 10), type := 22, pos := "prolog.go:99", after := #[{ on := 2, ground := Ground.data }], guard := none }) rfl (fun K hK => ?_) ?_
  · go_simp
    refine hK _ _ ?_
    clear hK K
    (try simp only [Act.put, List.setIfInBounds_toArray, List.set_cons_zero, List.set_cons_succ])
    refine wpAny_ready (rs := [8]) (by kernel_rfl) (by simp) ?_
    refine AllReady.cons (o := { dst := some 16, op := Op.load 3 (Operand.tmp 15), type := 3, pos := "prolog.go:99", after := #[{ on := 7, ground := Ground.data }], guard := none }) rfl (fun K hK => ?_) ?_
    · go_simp
      refine hK _ _ ?_
      clear hK K
      (try simp only [Act.put, List.setIfInBounds_toArray, List.set_cons_zero, List.set_cons_succ])
      refine wpAny_ready (rs := [9]) (by kernel_rfl) (by simp) ?_
      refine AllReady.cons (o := { dst := some 17, op := Op.call { callee := Callee.value (Operand.func 6), args := #[Operand.tmp 11, Operand.tmp 16], argTypes := #[22, 3] }, type := 26, pos := "prolog.go:99", after := #[{ on := 3, ground := Ground.data }, { on := 8, ground := Ground.data }], guard := none }) rfl (fun K hK => ?_) ?_
      · go_simp
        refine CX.out.mono ?_
        rintro e w9 ⟨OA, oc, rfl, hO9, hJ9⟩
        have HO9 := Lib.hid (And.intro hO9 hJ9)
        have c11 : w9.cell? ⟨D, 11, none⟩ = some v := by rw [cell_of 11 hJ9.2.2.2.1]; rfl
        clear hO9 hJ9
        dsimp only
        refine hK _ _ ?_
        clear hK K
        (try simp only [Act.put, List.setIfInBounds_toArray, List.set_cons_zero, List.set_cons_succ])
        refine wpAny_take (i := 10) (oi := { dst := some 7, op := Op.move (Operand.tmp 17), type := 26, pos := "prolog.go:99", after := #[{ on := 9, ground := Ground.data }], guard := none }) (v := ?_) rfl (by kernel_rfl) (by kernel_rfl) (by kernel_rfl) (fun _ _ _ h => h) (Or.inl ⟨by rfl, fun w9 => by go_simp; try with_reducible rfl⟩) ?_
        (try simp only [Act.put, List.setIfInBounds_toArray, List.set_cons_zero, List.set_cons_succ])
        refine wpAny_take (i := 11) (oi := { dst := some 18, op := Op.extract (Operand.tmp 7) 0, type := 24, pos := "prolog.go:99", after := #[{ on := 10, ground := Ground.data }], guard := none }) (v := ?_) rfl (by kernel_rfl) (by kernel_rfl) (by kernel_rfl) (fun _ _ _ h => h) (Or.inl ⟨by rfl, fun w9 => by go_simp; try with_reducible rfl⟩) ?_
        (try simp only [Act.put, List.setIfInBounds_toArray, List.set_cons_zero, List.set_cons_succ])
        refine wpAny_take (i := 12) (oi := { dst := some 19, op := Op.extract (Operand.tmp 7) 1, type := 3, pos := "prolog.go:99", after := #[{ on := 10, ground := Ground.data }, { on := 14, ground := Ground.gcOnly Departure.lateStores }], guard := none }) (v := ?_) rfl (by kernel_rfl) (by kernel_rfl) (by kernel_rfl) (fun _ _ _ h => h) (Or.inl ⟨by rfl, fun w9 => by go_simp; try with_reducible rfl⟩) ?_
        (try simp only [Act.put, List.setIfInBounds_toArray, List.set_cons_zero, List.set_cons_succ])
        refine wpAny_take (i := 13) (oi := { dst := some 20, op := Op.extract (Operand.tmp 7) 2, type := 25, pos := "prolog.go:99", after := #[{ on := 10, ground := Ground.data }, { on := 15, ground := Ground.gcOnly Departure.lateStores }], guard := none }) (v := ?_) rfl (by kernel_rfl) (by kernel_rfl) (by kernel_rfl) (fun _ _ _ h => h) (Or.inl ⟨by rfl, fun w9 => by go_simp; try with_reducible rfl⟩) ?_
        (try simp only [Act.put, List.setIfInBounds_toArray, List.set_cons_zero, List.set_cons_succ])
        refine wpAny_take (i := 14) (oi := { dst := some 4, op := Op.assign (Operand.tmp 18), type := 24, pos := "prolog.go:99", after := #[{ on := 11, ground := Ground.data }, { on := 9, ground := Ground.chain }, { on := 0, ground := Ground.phase }, { on := 1, ground := Ground.phase }, { on := 2, ground := Ground.phase }, { on := 3, ground := Ground.phase }, { on := 4, ground := Ground.phase }, { on := 5, ground := Ground.phase }, { on := 6, ground := Ground.phase }, { on := 7, ground := Ground.phase }, { on := 8, ground := Ground.phase }, { on := 9, ground := Ground.phase }, { on := 10, ground := Ground.phase }, { on := 11, ground := Ground.phase }, { on := 12, ground := Ground.textOnly Departure.lateStores }, { on := 13, ground := Ground.textOnly Departure.lateStores }], guard := none }) (v := ?_) rfl (by kernel_rfl) (by kernel_rfl) (by kernel_rfl) (fun _ _ _ h => h) (Or.inl ⟨by rfl, fun w9 => by go_simp; try with_reducible rfl⟩) ?_
        (try simp only [Act.put, List.setIfInBounds_toArray, List.set_cons_zero, List.set_cons_succ])
        refine wpAny_take (i := 15) (oi := { dst := some 5, op := Op.assign (Operand.tmp 19), type := 3, pos := "prolog.go:99", after := #[{ on := 12, ground := Ground.data }, { on := 14, ground := Ground.chain }, { on := 0, ground := Ground.phase }, { on := 1, ground := Ground.phase }, { on := 2, ground := Ground.phase }, { on := 3, ground := Ground.phase }, { on := 4, ground := Ground.phase }, { on := 5, ground := Ground.phase }, { on := 6, ground := Ground.phase }, { on := 7, ground := Ground.phase }, { on := 8, ground := Ground.phase }, { on := 9, ground := Ground.phase }, { on := 10, ground := Ground.phase }, { on := 11, ground := Ground.phase }, { on := 12, ground := Ground.phase }, { on := 13, ground := Ground.textOnly Departure.lateStores }, { on := 14, ground := Ground.phase }], guard := none }) (v := ?_) rfl (by kernel_rfl) (by kernel_rfl) (by kernel_rfl) (fun _ _ _ h => h) (Or.inl ⟨by rfl, fun w9 => by go_simp; try with_reducible rfl⟩) ?_
        (try simp only [Act.put, List.setIfInBounds_toArray, List.set_cons_zero, List.set_cons_succ])
        refine wpAny_take (i := 16) (oi := { dst := some 6, op := Op.assign (Operand.tmp 20), type := 25, pos := "prolog.go:99", after := #[{ on := 13, ground := Ground.data }, { on := 15, ground := Ground.chain }, { on := 0, ground := Ground.phase }, { on := 1, ground := Ground.phase }, { on := 2, ground := Ground.phase }, { on := 3, ground := Ground.phase }, { on := 4, ground := Ground.phase }, { on := 5, ground := Ground.phase }, { on := 6, ground := Ground.phase }, { on := 7, ground := Ground.phase }, { on := 8, ground := Ground.phase }, { on := 9, ground := Ground.phase }, { on := 10, ground := Ground.phase }, { on := 11, ground := Ground.phase }, { on := 12, ground := Ground.phase }, { on := 13, ground := Ground.phase }, { on := 14, ground := Ground.phase }, { on := 15, ground := Ground.phase }], guard := none }) (v := ?_) rfl (by kernel_rfl) (by kernel_rfl) (by kernel_rfl) (fun _ _ _ h => h) (Or.inl ⟨by rfl, fun w9 => by go_simp; try with_reducible rfl⟩) ?_
        (try simp only [Act.put, List.setIfInBounds_toArray, List.set_cons_zero, List.set_cons_succ])
        refine wpAny_done (by kernel_rfl) ?_ _
        (try simp only [Exit.inBlock, Exit.then])
        go_wp2_with (at_builtin; refine wpList_appRow rfl (.tmp 26) (.tmp 27) rfl (D + 2) _ _ rfl HO9.out.2.2.2.2.2 _ _ _ rfl HO9.out.1 H0.out.2.2 (by have := HO9.out.2.2.1; have := H0.out.2.1; omega) ?_)
        intro v6 w6 hO6 hg6
        have HO6 := Lib.hid (And.intro hO6 hg6)
        have hD6 : w6.heap[D]? = some (.cells (rdC A n cap d hs nm op v (t : Nat) 0) 76) := (hg6.block D (lt_of HO9.out.2.2.2.2.1) (fun e => by have := (HO9.out.2.2.2.2.2.ge e.symm).2; omega)).trans HO9.out.2.2.2.2.1
        have g11 : w6.cell? ⟨D, 11, none⟩ = some v := by rw [cell_of 11 hD6]; rfl
        have f11 := free_of 11 hD6
        have hJ6 : PrJ w0 W0 D (rdC A n cap d hs nm op v6 (t : Nat) 0) v6 (evs ++ ev2) (w6.setCell ⟨D, 11, none⟩ v6) := by
          have h9 := HO9.out.2
          exact ⟨(h9.1.grown hg6 h9.1.size (fun q hq => by have := (h9.2.2.2.2.ge hq).2; have := H0.out.1; omega)).setCell (p := ⟨D, 11, none⟩) H0.out.1 _, by have := h9.2.1; have := hg6.size; simpa using (by omega), fun q h1 h2 => (hp_other h2).trans ((hg6.block q (by have := h9.2.1; have := H0.out.2.1; omega) (fun e => by have := (h9.2.2.2.2.ge e.symm).2; omega)).trans (h9.2.2.1 q h1 h2)), hp_set hD6, hO6.keep fun g hg1 _ => hp_other (by omega)⟩
        obtain ⟨A6, c6, hv6⟩ := hO6.form
        obtain ⟨n6, hn6⟩ : ∃ p, (evs ++ ev2).length = p := ⟨_, rfl⟩
        rw [hn6] at hv6
        have HJ6 := Lib.hid hJ6
        clear hO6 hg6 hD6 hJ6 hn6
        subst hv6
        go_wp2
        go_ret2
        exact ⟨rfl, _, HJ6.out⟩
      exact AllReady.nil
    exact AllReady.nil
  refine AllReady.cons (o := { dst := some 16, op := Op.load 3 (Operand.tmp 15), type := 3, pos := "prolog.go:99", after := #[{ on := 7, ground := Ground.data }], guard := none }) rfl (fun K hK => ?_) ?_
  · go_simp
    refine hK _ _ ?_
    clear hK K
    (try simp only [Act.put, List.setIfInBounds_toArray, List.set_cons_zero, List.set_cons_succ])
    refine wpAny_ready (rs := [3]) (by kernel_rfl) (by simp) ?_
    refine AllReady.cons (o := { dst := some 11, op := Op.load 22 (Operand.tmp 10), type := 22, pos := "prolog.go:99", after := #[{ on := 2, ground := Ground.data }], guard := none }) rfl (fun K hK => ?_) ?_
    · go_simp
      refine hK _ _ ?_
      clear hK K
      (try simp only [Act.put, List.setIfInBounds_toArray, List.set_cons_zero, List.set_cons_succ])
      refine wpAny_ready (rs := [9]) (by kernel_rfl) (by simp) ?_
      refine AllReady.cons (o := { dst := some 17, op := Op.call { callee := Callee.value (Operand.func 6), args := #[Operand.tmp 11, Operand.tmp 16], argTypes := #[22, 3] }, type := 26, pos := "prolog.go:99", after := #[{ on := 3, ground := Ground.data }, { on := 8, ground := Ground.data }], guard := none }) rfl (fun K hK => ?_) ?_
      · go_simp
        refine CX.out.mono ?_
        rintro e w9 ⟨OA, oc, rfl, hO9, hJ9⟩
        have HO9 := Lib.hid (And.intro hO9 hJ9)
        have c11 : w9.cell? ⟨D, 11, none⟩ = some v := by rw [cell_of 11 hJ9.2.2.2.1]; rfl
        clear hO9 hJ9
        dsimp only
        refine hK _ _ ?_
        clear hK K
        (try simp only [Act.put, List.setIfInBounds_toArray, List.set_cons_zero, List.set_cons_succ])
        refine wpAny_take (i := 10) (oi := { dst := some 7, op := Op.move (Operand.tmp 17), type := 26, pos := "prolog.go:99", after := #[{ on := 9, ground := Ground.data }], guard := none }) (v := ?_) rfl (by kernel_rfl) (by kernel_rfl) (by kernel_rfl) (fun _ _ _ h => h) (Or.inl ⟨by rfl, fun w9 => by go_simp; try with_reducible rfl⟩) ?_
        (try simp only [Act.put, List.setIfInBounds_toArray, List.set_cons_zero, List.set_cons_succ])
        refine wpAny_take (i := 11) (oi := { dst := some 18, op := Op.extract (Operand.tmp 7) 0, type := 24, pos := "prolog.go:99", after := #[{ on := 10, ground := Ground.data }], guard := none }) (v := ?_) rfl (by kernel_rfl) (by kernel_rfl) (by kernel_rfl) (fun _ _ _ h => h) (Or.inl ⟨by rfl, fun w9 => by go_simp; try with_reducible rfl⟩) ?_
        (try simp only [Act.put, List.setIfInBounds_toArray, List.set_cons_zero, List.set_cons_succ])
        refine wpAny_take (i := 12) (oi := { dst := some 19, op := Op.extract (Operand.tmp 7) 1, type := 3, pos := "prolog.go:99", after := #[{ on := 10, ground := Ground.data }, { on := 14, ground := Ground.gcOnly Departure.lateStores }], guard := none }) (v := ?_) rfl (by kernel_rfl) (by kernel_rfl) (by kernel_rfl) (fun _ _ _ h => h) (Or.inl ⟨by rfl, fun w9 => by go_simp; try with_reducible rfl⟩) ?_
        (try simp only [Act.put, List.setIfInBounds_toArray, List.set_cons_zero, List.set_cons_succ])
        refine wpAny_take (i := 13) (oi := { dst := some 20, op := Op.extract (Operand.tmp 7) 2, type := 25, pos := "prolog.go:99", after := #[{ on := 10, ground := Ground.data }, { on := 15, ground := Ground.gcOnly Departure.lateStores }], guard := none }) (v := ?_) rfl (by kernel_rfl) (by kernel_rfl) (by kernel_rfl) (fun _ _ _ h => h) (Or.inl ⟨by rfl, fun w9 => by go_simp; try with_reducible rfl⟩) ?_
        (try simp only [Act.put, List.setIfInBounds_toArray, List.set_cons_zero, List.set_cons_succ])
        refine wpAny_take (i := 14) (oi := { dst := some 4, op := Op.assign (Operand.tmp 18), type := 24, pos := "prolog.go:99", after := #[{ on := 11, ground := Ground.data }, { on := 9, ground := Ground.chain }, { on := 0, ground := Ground.phase }, { on := 1, ground := Ground.phase }, { on := 2, ground := Ground.phase }, { on := 3, ground := Ground.phase }, { on := 4, ground := Ground.phase }, { on := 5, ground := Ground.phase }, { on := 6, ground := Ground.phase }, { on := 7, ground := Ground.phase }, { on := 8, ground := Ground.phase }, { on := 9, ground := Ground.phase }, { on := 10, ground := Ground.phase }, { on := 11, ground := Ground.phase }, { on := 12, ground := Ground.textOnly Departure.lateStores }, { on := 13, ground := Ground.textOnly Departure.lateStores }], guard := none }) (v := ?_) rfl (by kernel_rfl) (by kernel_rfl) (by kernel_rfl) (fun _ _ _ h => h) (Or.inl ⟨by rfl, fun w9 => by go_simp; try with_reducible rfl⟩) ?_
        (try simp only [Act.put, List.setIfInBounds_toArray, List.set_cons_zero, List.set_cons_succ])
        refine wpAny_take (i := 15) (oi := { dst := some 5, op := Op.assign (Operand.tmp 19), type := 3, pos := "prolog.go:99", after := #[{ on := 12, ground := Ground.data }, { on := 14, ground := Ground.chain }, { on := 0, ground := Ground.phase }, { on := 1, ground := Ground.phase }, { on := 2, ground := Ground.phase }, { on := 3, ground := Ground.phase }, { on := 4, ground := Ground.phase }, { on := 5, ground := Ground.phase }, { on := 6, ground := Ground.phase }, { on := 7, ground := Ground.phase }, { on := 8, ground := Ground.phase }, { on := 9, ground := Ground.phase }, { on := 10, ground := Ground.phase }, { on := 11, ground := Ground.phase }, { on := 12, ground := Ground.phase }, { on := 13, ground := Ground.textOnly Departure.lateStores }, { on := 14, ground := Ground.phase }], guard := none }) (v := ?_) rfl (by kernel_rfl) (by kernel_rfl) (by kernel_rfl) (fun _ _ _ h => h) (Or.inl ⟨by rfl, fun w9 => by go_simp; try with_reducible rfl⟩) ?_
        (try simp only [Act.put, List.setIfInBounds_toArray, List.set_cons_zero, List.set_cons_succ])
        refine wpAny_take (i := 16) (oi := { dst := some 6, op := Op.assign (Operand.tmp 20), type := 25, pos := "prolog.go:99", after := #[{ on := 13, ground := Ground.data }, { on := 15, ground := Ground.chain }, { on := 0, ground := Ground.phase }, { on := 1, ground := Ground.phase }, { on := 2, ground := Ground.phase }, { on := 3, ground := Ground.phase }, { on := 4, ground := Ground.phase }, { on := 5, ground := Ground.phase }, { on := 6, ground := Ground.phase }, { on := 7, ground := Ground.phase }, { on := 8, ground := Ground.phase }, { on := 9, ground := Ground.phase }, { on := 10, ground := Ground.phase }, { on := 11, ground := Ground.phase }, { on := 12, ground := Ground.phase }, { on := 13, ground := Ground.phase }, { on := 14, ground := Ground.phase }, { on := 15, ground := Ground.phase }], guard := none }) (v := ?_) rfl (by kernel_rfl) (by kernel_rfl) (by kernel_rfl) (fun _ _ _ h => h) (Or.inl ⟨by rfl, fun w9 => by go_simp; try with_reducible rfl⟩) ?_
        (try simp only [Act.put, List.setIfInBounds_toArray, List.set_cons_zero, List.set_cons_succ])
        refine wpAny_done (by kernel_rfl) ?_ _
        (try simp only [Exit.inBlock, Exit.then])
        go_wp2_with (at_builtin; refine wpList_appRow rfl (.tmp 26) (.tmp 27) rfl (D + 2) _ _ rfl HO9.out.2.2.2.2.2 _ _ _ rfl HO9.out.1 H0.out.2.2 (by have := HO9.out.2.2.1; have := H0.out.2.1; omega) ?_)
        intro v6 w6 hO6 hg6
        have HO6 := Lib.hid (And.intro hO6 hg6)
        have hD6 : w6.heap[D]? = some (.cells (rdC A n cap d hs nm op v (t : Nat) 0) 76) := (hg6.block D (lt_of HO9.out.2.2.2.2.1) (fun e => by have := (HO9.out.2.2.2.2.2.ge e.symm).2; omega)).trans HO9.out.2.2.2.2.1
        have g11 : w6.cell? ⟨D, 11, none⟩ = some v := by rw [cell_of 11 hD6]; rfl
        have f11 := free_of 11 hD6
        have hJ6 : PrJ w0 W0 D (rdC A n cap d hs nm op v6 (t : Nat) 0) v6 (evs ++ ev2) (w6.setCell ⟨D, 11, none⟩ v6) := by
          have h9 := HO9.out.2
          exact ⟨(h9.1.grown hg6 h9.1.size (fun q hq => by have := (h9.2.2.2.2.ge hq).2; have := H0.out.1; omega)).setCell (p := ⟨D, 11, none⟩) H0.out.1 _, by have := h9.2.1; have := hg6.size; simpa using (by omega), fun q h1 h2 => (hp_other h2).trans ((hg6.block q (by have := h9.2.1; have := H0.out.2.1; omega) (fun e => by have := (h9.2.2.2.2.ge e.symm).2; omega)).trans (h9.2.2.1 q h1 h2)), hp_set hD6, hO6.keep fun g hg1 _ => hp_other (by omega)⟩
        obtain ⟨A6, c6, hv6⟩ := hO6.form
        obtain ⟨n6, hn6⟩ : ∃ p, (evs ++ ev2).length = p := ⟨_, rfl⟩
        rw [hn6] at hv6
        have HJ6 := Lib.hid hJ6
        clear hO6 hg6 hD6 hJ6 hn6
        subst hv6
        go_wp2
        go_ret2
        exact ⟨rfl, _, HJ6.out⟩
      exact AllReady.nil
    exact AllReady.nil
  exact AllReady.nil
set_option linter.unusedSimpArgs false in
set_option maxRecDepth 100000 in
set_option maxHeartbeats 8000000 in
theorem rd2_c (D Bb Bt Bg Bm tb gb mb : Nat) (A : Option Addr) (n cap : Nat) (l : List UInt8) (d : DeclL) (nm : List UInt8) (k0 t3 : Nat) (v : Value) (evs : List MisT) (w0 W0 w : World) (h : Byt w0 w0.heap.size A n cap l) (hW : W29 w0) (hWd : WordsD w0) (hm : n ≤ 40000) (h0 : w0.heap.size ≤ D) (hD : D + 2 ≤ W0.heap.size)
    (hBb : Bb < D) (hBt : Bt < D) (hBg : Bg < D) (hBm : Bm < D) (hb : W0.heap[Bb]? = some (.cells #[.slice A n cap] 22)) (hbt : W0.heap[Bt]? = some (.cells #[.pointer (some ⟨tb, 0, none⟩)] 32)) (hbg : W0.heap[Bg]? = some (.cells #[.pointer (some ⟨gb, 0, none⟩)] 33)) (hbm : W0.heap[Bm]? = some (.cells #[.pointer (some ⟨mb, 0, none⟩)] 34))
    (hr : W0.heap[D + 1]? = some (.cells #[.pointer (some ⟨D, 0, none⟩)] 74)) (hJ : PrJ w0 W0 D (rdC A n cap d true nm true v (k0 : Nat) 0) v evs w) (hk0 : k0 ≤ n) (hend : (miscOut l k0).2 = (t3, 0)) (hbr : l[t3]? = some 93) :
    Calls Tryz.prog 26 #[.pointer (some ⟨Bb, 0, none⟩), .pointer (some ⟨D + 1, 0, none⟩), .pointer (some ⟨Bt, 0, none⟩), .pointer (some ⟨Bg, 0, none⟩), .pointer (some ⟨Bm, 0, none⟩)] w fun e w' => e = .returned (.tuple #[.int .i64 ((t3 : Int) + 1), .int .i64 0]) ∧ PrJ w0 W0 D (rdC A n cap d true nm true v (k0 : Nat) 0) v evs w' := by
  have AT : Hid (∀ W, PrJ w0 W0 D (rdC A n cap d true nm true v (k0 : Nat) 0) v evs W → W.cell? ⟨Bb, 0, none⟩ = some (.slice A n cap) ∧ W.cell? ⟨D + 1, 0, none⟩ = some (.pointer (some ⟨D, 0, none⟩)) ∧ W.cell? ⟨Bt, 0, none⟩ = some (.pointer (some ⟨tb, 0, none⟩)) ∧ W.cell? ⟨Bg, 0, none⟩ = some (.pointer (some ⟨gb, 0, none⟩)) ∧ W.cell? ⟨Bm, 0, none⟩ = some (.pointer (some ⟨mb, 0, none⟩)) ∧ W.cell? ⟨D, 12, none⟩ = some (.int .i64 (k0 : Nat))) := Lib.hid fun W hJ => by
    have q := hJ.2.2.1
    exact ⟨by rw [cell_of 0 ((q Bb (by omega) (by omega)).trans hb)]; rfl, by rw [cell_of 0 ((q (D + 1) (by omega) (by omega)).trans hr)]; rfl, by rw [cell_of 0 ((q Bt (by omega) (by omega)).trans hbt)]; rfl, by rw [cell_of 0 ((q Bg (by omega) (by omega)).trans hbg)]; rfl, by rw [cell_of 0 ((q Bm (by omega) (by omega)).trans hbm)]; rfl, by rw [cell_of 12 hJ.2.2.2.1]; rfl⟩
  have JG : Hid (PrJ w0 W0 D (rdC A n cap d true nm true v (k0 : Nat) 0) v evs w.drew) := Lib.hid (hJ.kept hD ((Below.refl w.heap.size w).drew))
  have S1 : Hid (∀ W, Hid (PrJ w0 W0 D (rdC A n cap d true nm true v (k0 : Nat) 0) v evs W) → Calls Tryz.prog 27 #[.slice A n cap, .int .i64 (k0 : Nat), .pointer (some ⟨tb, 0, none⟩), .pointer (some ⟨gb, 0, none⟩), .pointer (some ⟨mb, 0, none⟩)] W fun e w' => e = .returned (.tuple #[.int .i64 ((t3 : Int) + 1), .int .i64 0]) ∧ Hid (PrJ w0 W0 D (rdC A n cap d true nm true v (k0 : Nat) 0) v evs w')) := Lib.hid fun W hJ =>
    (sbRead_c A n cap l k0 t3 tb gb mb W ((h.below hJ.out.1).more hJ.out.1.size) (hW.below hJ.out.1) (hWd.below hJ.out.1 hWd.lt) (by omega) hk0 hend hbr).mono fun e w' ⟨he, hb⟩ => ⟨he, Lib.hid (hJ.out.kept hD hb)⟩
  clear h hW hWd hb hbt hbg hbm hr hJ hend hbr
  go_enter Tryz.func26, Tryz.ntmps26
  go_wp2_with fail
  refine wp_region_calm0 (fun W => Hid (PrJ w0 W0 D (rdC A n cap d true nm true v (k0 : Nat) 0) v evs W)) (by kernel_rfl) (by kernel_rfl) JG ?_
  repeat
    refine wpQuiet_step (fun K hK => ?_)
    go_simp
    first
      | (refine hK _ ?_; clear hK K)
      | (apply Exists.intro
         refine ⟨fun W hW => ?_, hK _ ?_⟩
         · first
             | exact rfl
             | (with_reducible exact S1.out W hW)
             | (obtain ⟨a0, a1, a2, a3, a4, a5⟩ := AT.out W hW.out; go_simp; done)
             | (obtain ⟨a0, a1, a2, a3, a4, a5⟩ := AT.out W hW.out; go_simp; exact rfl)
         clear hK K)
  refine wpQuiet_nil ?_
  intro w9 hw9
  (try simp only [Exit.inBlock, Exit.then])
  clear S1 AT JG
  go_wp2
  go_ret2
  exact ⟨rfl, hw9.out⟩
end Go.Proofs.YtgenpgfhjhcahaaGreatDoor
