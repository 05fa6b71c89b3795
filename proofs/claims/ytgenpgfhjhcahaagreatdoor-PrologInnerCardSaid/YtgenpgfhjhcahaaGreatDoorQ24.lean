/- Texts of ours, joined: SbR. -/
import Derived.Test.YtgenpgfhjhcahaaGreatDoorRows
import Derived.WalkKit
import Derived.ProofKit
import Derived.OpenShut
import Derived.ShutString
import Derived.ChangeOld
import Derived.Below
import Derived.BigQuiet
import Derived.Deep.QuietTactic
import Derived.Lib.Hide
import Derived.Deep.RegionHeld3
import Derived.Lib.SlBytesConst
import Derived.Laws.CopyOwn
import Derived.Laws.CopyRow
import Derived.Lib.Bytes
import Derived.Deep.LoopGhost
import Derived.Deep.DeepFit
import Derived.Deep.DeepMust
import Derived.WalkSpells
import Derived.WalkLawsBesides
import Derived.Laws.EntriesVeiled
import Derived.Laws.Rows
import Derived.Maps.OwnOps
import Derived.Maps.OwnSet
import Derived.Maps.Views
import Derived.Maps.AppendAt
import Derived.Deep.AppendLies
import Derived.DeepKeys4
import Derived.MapViews
import Derived.Maps.Keyed
import Derived.Deep.RegionLaw
import Derived.Deep.RegionWith
import Derived.StillTailTactics
import Derived.Deep.CutRange
import Derived.IntWalk
import Derived.Laws.MakeOwn
import Derived.Laws.OwnMore
import Derived.Deep.MidRow
import Derived.Test.YtgenpgfhjhcahaaGreatDoorQ1
import Derived.Test.YtgenpgfhjhcahaaGreatDoorQ2
import Derived.Test.YtgenpgfhjhcahaaGreatDoorQ7
import Derived.Test.YtgenpgfhjhcahaaGreatDoorQ8
import Derived.Test.YtgenpgfhjhcahaaGreatDoorQ4
import Derived.Test.YtgenpgfhjhcahaaGreatDoorQ3
import Derived.Test.YtgenpgfhjhcahaaGreatDoorQ5
import Derived.Test.YtgenpgfhjhcahaaGreatDoorQ9
import Derived.Test.YtgenpgfhjhcahaaGreatDoorQ10
import Derived.Test.YtgenpgfhjhcahaaGreatDoorQ11
import Derived.Test.YtgenpgfhjhcahaaGreatDoorQ12
import Derived.Test.YtgenpgfhjhcahaaGreatDoorQ21
import Derived.Test.YtgenpgfhjhcahaaGreatDoorQ20
import Derived.Test.YtgenpgfhjhcahaaGreatDoorQ22
import Derived.Test.YtgenpgfhjhcahaaGreatDoorQ23
/- subset.run where only comments, processing instructions and the bracket stand. -/
namespace Go.Proofs.YtgenpgfhjhcahaaGreatDoor
open Go.ChangeShapes Go.WideShapes Go.ChangeAt Go.RowKit
set_option linter.unusedVariables false
/-- The plain law of a row of comments and processing instructions: where it ends. -/
theorem outM_acc (l : List UInt8) : ∀ (xs : List (MisT × Nat × Nat)) (acc acc' : List MisT) (t : Nat), (outM l xs acc t).2 = (outM l xs acc' t).2
  | [], acc, acc', t => rfl
  | (m, nx, e) :: r, acc, acc', t => by
    rw [outM, outM]
    by_cases he : e = 0
    · rw [if_pos he, if_pos he]
      exact outM_acc l r _ _ nx
    · rw [if_neg he, if_neg he]
theorem mis_next {l : List UInt8} {k t3 : Nat} (hk : k ≤ l.length) (h : (miscOut l k).2 = (t3, 0)) (hb : l[t3]? = some 93) :
    (misAt l (blankTo l k) = none ∧ blankTo l k = t3) ∨ ∃ m nx, misAt l (blankTo l k) = some (m, nx, 0) ∧ (miscOut l nx).2 = (t3, 0) ∧ k < nx ∧ nx ≤ l.length := by
  have hbl := blankTo_le l k hk
  cases hm : misAt l (blankTo l k) with
  | none =>
    left
    refine ⟨rfl, ?_⟩
    unfold miscOut at h
    rw [outM_none hm] at h
    injection h
  | some y =>
    obtain ⟨m, nx, e⟩ := y
    right
    by_cases he : e = 0
    · subst he
      have hn := misAt_ok hbl.2 hm
      refine ⟨m, nx, rfl, ?_, by omega, hn.2⟩
      unfold miscOut at h ⊢
      rw [outM_more hk hm] at h
      rw [← h]
      exact outM_acc l _ _ _ nx
    · unfold miscOut at h
      rw [outM_bad hm he] at h
      injection h with _ h
      exact absurd h he
def SbJ (w0 : World) (R X S : Nat) (room : Int) (rc : Array Value) (A : Option Addr) (n cap k : Nat) (wr : World) : Prop :=
  Below w0.heap.size w0 wr ∧ wr.heap[R]? = some (.cells rc 131) ∧ wr.heap[X]? = some (.cells #[.string ⟨#[]⟩, .slice A n cap, .int .i64 (k : Nat)] 134) ∧ TSk wr S room [X]
theorem SbJ.kept {w0 : World} {R X S : Nat} {room : Int} {rc : Array Value} {A : Option Addr} {n cap k : Nat} {wr W : World} (h : SbJ w0 R X S room rc A n cap k wr) (hb : Below wr.heap.size wr W) : SbJ w0 R X S room rc A n cap k W :=
  ⟨h.1.trans (hb.mono h.1.size), (hb.block _ (lt_of h.2.1)).trans h.2.1, (hb.block _ (lt_of h.2.2.1)).trans h.2.2.1, TSk.keep (fun c vs f hc => (hb.block _ (lt_of hc)).trans hc) (fun o ho => (hb.block _ (lt_of ho)).trans ho) h.2.2.2⟩
theorem SbJ.put {w0 : World} {R X S : Nat} {room : Int} {rc : Array Value} {A : Option Addr} {n cap k : Nat} {wr : World} (h : SbJ w0 R X S room rc A n cap k wr) (hX : w0.heap.size ≤ X) (k' : Nat) : SbJ w0 R X S room rc A n cap k' (wr.setCell ⟨X, 2, none⟩ (.int .i64 (k' : Nat))) := by
  have hne : ∀ (c : Nat) (o : Obj), wr.heap[c]? = some o → (∀ vs f, o ≠ .cells vs 134 f) → c ≠ X := fun c o hc ho e => by
    subst e
    rw [h.2.2.1] at hc
    cases hc
    exact ho _ _ rfl
  refine ⟨h.1.setCell (p := ⟨X, 2, none⟩) hX _, (hp_other (hne _ _ h.2.1 (fun vs f e => by injection e with _ e _; revert e; decide))).trans h.2.1, hp_set h.2.2.1, TSk.keep (fun c vs f hc => (hp_other (hne _ _ hc (fun vs f e => by injection e with _ e _; revert e; decide))).trans hc) (fun o ho => ?_) h.2.2.2⟩
  obtain ⟨_, _, t, hb, _⟩ := h.2.2.2
  refine (hp_other (hne _ _ ho (fun vs f e => ?_))).trans ho
  rw [hb] at ho
  cases ho
  injection e with _ e _
  revert e
  decide
set_option linter.unusedSimpArgs false in
set_option maxRecDepth 100000 in
set_option maxHeartbeats 8000000 in
theorem sbRun_c (R X S : Nat) (room : Int) (A : Option Addr) (n cap : Nat) (l : List UInt8) (k0 t3 tb : Nat) (gv mv : Value) (w0 w : World) (h : Byt w0 w0.heap.size A n cap l) (hW : W29 w0) (hWd : WordsD w0) (hX0 : w0.heap.size ≤ X) (hm : n ≤ 50000) (hk0 : k0 ≤ n)
    (hJ : SbJ w0 R X S room #[.pointer (some ⟨tb, 0, none⟩), gv, mv, .pointer (some ⟨S, 0, none⟩)] A n cap k0 w) (hend : (miscOut l k0).2 = (t3, 0)) (hbr : l[t3]? = some 93) :
    Calls Tryz.prog 52 #[.pointer (some ⟨R, 0, none⟩)] w fun e w' => e = .returned (.tuple #[.int .i64 ((t3 : Int) + 1), .int .i64 0]) ∧ Below w0.heap.size w0 w' := by
  have HB := Lib.hid (And.intro h (And.intro hW (And.intro hWd hX0)))
  have HN : Hid (l.length = n) := Lib.hid h.length
  have HBR := Lib.hid hbr
  have HJ0 := Lib.hid hJ
  have HE0 := Lib.hid hend
  obtain ⟨d9, hu⟩ := isStruct_of (P := Tryz.prog) (t := 177) (by kernel_rfl)
  have hi : (Tryz.prog.info? 177).map (·.size) = some 13 := by kernel_rfl
  have HU := Lib.hid (And.intro hi hu)
  clear h hW hWd hX0 hJ hend hbr hi hu
  go_enter Tryz.func52, Tryz.ntmps52
  go_wp2_with fail
  go_step3
  go_wp2_with fail
  go_step3
  go_wp2_with fail
  go_loopg [5] (n - k0) (fun g _ wr => ∃ k : Nat, k ≤ n ∧ Hid (g + k = n) ∧ Hid ((miscOut l k).2 = (t3, 0)) ∧ Hid (SbJ w0 R X S room #[.pointer (some ⟨tb, 0, none⟩), gv, mv, .pointer (some ⟨S, 0, none⟩)] A n cap k wr))
  case atStart => exact ⟨k0, hk0, Lib.hid (by omega), HE0, HJ0⟩
  case round =>
    obtain ⟨k, hk, hg, HE, HJ⟩ := hrel
    have CT : Hid (Calls Tryz.prog 72 #[.pointer (some ⟨S, 0, none⟩)] wr fun e w' => e = .returned (.tuple #[.pointer (some ⟨X, 0, none⟩), .bool true]) ∧ wr = w') := Lib.hid (ttop_some room X [] S wr HJ.out.2.2.2)
    have r3 : wr.cell? ⟨R, 3, none⟩ = some (.pointer (some ⟨S, 0, none⟩)) := by rw [cell_of 3 HJ.out.2.1]; rfl
    have hbase : ∀ W, Below wr.heap.size wr W → Byt W W.heap.size A n cap l ∧ W29 W ∧ WordsD W := fun W hb => by
      have hb2 : Below w0.heap.size w0 W := HJ.out.1.trans (hb.mono HJ.out.1.size)
      exact ⟨(HB.out.1.below hb2).more hb2.size, HB.out.2.1.below hb2, HB.out.2.2.1.below hb2 HB.out.2.2.1.lt⟩
    have CN : Hid (∃ (KD nx : Nat) (nm tx : List UInt8), (∀ W, Below wr.heap.size wr W → Calls Tryz.prog 73 #[.slice A n cap, .int .i64 (k : Nat)] W fun e w' => e = .returned (.tuple #[.agg #[.int .i64 (KD : Nat), .string ⟨nm.toArray⟩, .bool false, .string ⟨#[]⟩, .string ⟨#[]⟩, .bool false, .string ⟨#[]⟩, .string ⟨#[]⟩, .string ⟨#[]⟩, .slice none 0 0, .string ⟨#[]⟩, .string ⟨#[]⟩, .string ⟨tx.toArray⟩], .int .i64 (nx : Nat), .int .i64 0]) ∧ Below W.heap.size W w') ∧
        ((KD = 0 ∧ nx = t3 ∧ t3 < n) ∨ ((KD = 5 ∨ KD = 6) ∧ (miscOut l nx).2 = (t3, 0) ∧ k < nx ∧ nx ≤ n))) := Lib.hid (by
      rcases mis_next (by rw [HN.out]; exact hk) HE.out HBR.out with ⟨h1, h2⟩ | ⟨m, nx, h1, h2, h3, h4⟩
      · refine ⟨0, t3, [], [], fun W hb => dnEnd_c A n cap l k t3 W (hbase W hb).1 hm hk h2 HBR.out, .inl ⟨rfl, rfl, ?_⟩⟩
        have := (List.getElem?_eq_some_iff.1 HBR.out).1
        rwa [HN.out] at this
      · refine ⟨kdR m.kind, nx, m.name, m.text, fun W hb => dnMis_c A n cap l k (blankTo l k) m nx W (hbase W hb).1 (hbase W hb).2.1 (hbase W hb).2.2 hm hk rfl h1, .inr ⟨?_, h2, h3, by rw [← HN.out]; exact h4⟩⟩
        unfold kdR
        split
        · exact .inr rfl
        · exact .inl rfl)
    clear hbase
    obtain ⟨KD, nx, nm, tx, hcn, hcase⟩ := CN.out
    have CN2 := Lib.hid hcn
    have HC := Lib.hid hcase
    clear CN hcn hcase
    go_wp2_with fail
    refine CT.out.mono ?_
    rintro e w1 ⟨rfl, rfl⟩
    clear CT r3
    go_upto_region 3 with fail
    go_cut [7, 8, 9] from 10 to 66 (fun c7 c8 c9 wx => ∃ g9, c7 = .pointer (some ⟨g9, 0, none⟩) ∧ c8 = .int .i64 (nx : Nat) ∧ c9 = .int .i64 0 ∧ Hid (Below wr.heap.size wr wx ∧ wr.heap.size ≤ g9 ∧ wx.heap[g9]? = some (.cells #[.int .i64 (KD : Nat), .string ⟨nm.toArray⟩, .bool false, .string ⟨#[]⟩, .string ⟨#[]⟩, .bool false, .string ⟨#[]⟩, .string ⟨#[]⟩, .string ⟨#[]⟩, .slice none 0 0, .string ⟨#[]⟩, .string ⟨#[]⟩, .string ⟨tx.toArray⟩] 177)))
    case first =>
      obtain ⟨WA, hWA⟩ : ∃ WA, wr.drew.alloc (.cells #[.int .i64 0, .string ⟨#[]⟩, .bool false, .string ⟨#[]⟩, .string ⟨#[]⟩, .bool false, .string ⟨#[]⟩, .string ⟨#[]⟩, .string ⟨#[]⟩, .slice none 0 0, .string ⟨#[]⟩, .string ⟨#[]⟩, .string ⟨#[]⟩] 177) = WA := ⟨_, rfl⟩
      have hX9 := HJ.out.2.2.1
      have c1 : wr.drew.cell? ⟨X, 1, none⟩ = some (.slice A n cap) := by rw [cell_of (w := wr.drew) 1 hX9]; rfl
      have c2 : wr.drew.cell? ⟨X, 2, none⟩ = some (.int .i64 (k : Nat)) := by rw [cell_of (w := wr.drew) 2 hX9]; rfl
      have hXA : WA.heap[X]? = some (.cells #[.string ⟨#[]⟩, .slice A n cap, .int .i64 (k : Nat)] 134) := by rw [← hWA]; exact hp_old (w := wr.drew) hX9
      have a1 : WA.cell? ⟨X, 1, none⟩ = some (.slice A n cap) := by rw [cell_of 1 hXA]; rfl
      have a2 : WA.cell? ⟨X, 2, none⟩ = some (.int .i64 (k : Nat)) := by rw [cell_of 2 hXA]; rfl
      have hgA : WA.heap[wr.heap.size]? = some (.cells #[.int .i64 0, .string ⟨#[]⟩, .bool false, .string ⟨#[]⟩, .string ⟨#[]⟩, .bool false, .string ⟨#[]⟩, .string ⟨#[]⟩, .string ⟨#[]⟩, .slice none 0 0, .string ⟨#[]⟩, .string ⟨#[]⟩, .string ⟨#[]⟩] 177) := by rw [← hWA]; exact hp_new wr.drew _
      have BD := Lib.hid (Below.drew (Below.refl wr.heap.size wr))
      have BA : Hid (Below wr.heap.size wr WA) := Lib.hid (by rw [← hWA]; exact BD.out.alloc (Nat.le_refl _) _)
      have HGA := Lib.hid hgA
      clear hX9 hXA hgA
      refine wp_region_drew (by kernel_rfl) ?_
      refine wpAny_take (i := 0) (oi := { dst := some 20, op := Op.move (Operand.tmp 5), type := 128, pos := "subset.go:86", after := #[], guard := none }) (v := ?_) rfl (by kernel_rfl) (by kernel_rfl) (by kernel_rfl) (fun _ _ _ h => h) (Or.inl ⟨by rfl, fun w9 => by go_simp; try with_reducible rfl⟩) ?_
      (try simp only [Act.put, List.setIfInBounds_toArray, List.set_cons_zero, List.set_cons_succ])
      refine wpAny_take (i := 1) (oi := { dst := some 21, op := Op.nilCheck (Operand.tmp 20), type := 0, pos := "subset.go:86", after := #[{ on := 0, ground := Ground.data }], guard := none }) (v := ?_) rfl (by kernel_rfl) (by kernel_rfl) (by kernel_rfl) (fun _ _ _ h => h) (Or.inl ⟨by rfl, fun w9 => by go_simp; try with_reducible rfl⟩) ?_
      (try simp only [Act.put, List.setIfInBounds_toArray, List.set_cons_zero, List.set_cons_succ])
      refine wpAny_take (i := 2) (oi := { dst := some 22, op := Op.fieldAddr 134 (Operand.tmp 21) 1, type := 0, pos := "subset.go:86", after := #[{ on := 1, ground := Ground.data }], guard := none }) (v := ?_) rfl (by kernel_rfl) (by kernel_rfl) (by kernel_rfl) (fun _ _ _ h => h) (Or.inl ⟨by rfl, fun w9 => by go_simp; try with_reducible rfl⟩) ?_
      (try simp only [Act.put, List.setIfInBounds_toArray, List.set_cons_zero, List.set_cons_succ])
      refine wpAny_take (i := 4) (oi := { dst := some 24, op := Op.move (Operand.tmp 5), type := 128, pos := "subset.go:86", after := #[], guard := none }) (v := ?_) rfl (by kernel_rfl) (by kernel_rfl) (by kernel_rfl) (fun _ _ _ h => h) (Or.inl ⟨by rfl, fun w9 => by go_simp; try with_reducible rfl⟩) ?_
      (try simp only [Act.put, List.setIfInBounds_toArray, List.set_cons_zero, List.set_cons_succ])
      refine wpAny_take (i := 5) (oi := { dst := some 25, op := Op.nilCheck (Operand.tmp 24), type := 0, pos := "subset.go:86", after := #[{ on := 4, ground := Ground.data }], guard := none }) (v := ?_) rfl (by kernel_rfl) (by kernel_rfl) (by kernel_rfl) (fun _ _ _ h => h) (Or.inl ⟨by rfl, fun w9 => by go_simp; try with_reducible rfl⟩) ?_
      (try simp only [Act.put, List.setIfInBounds_toArray, List.set_cons_zero, List.set_cons_succ])
      refine wpAny_take (i := 6) (oi := { dst := some 26, op := Op.fieldAddr 134 (Operand.tmp 25) 2, type := 0, pos := "subset.go:86", after := #[{ on := 5, ground := Ground.data }], guard := none }) (v := ?_) rfl (by kernel_rfl) (by kernel_rfl) (by kernel_rfl) (fun _ _ _ h => h) (Or.inl ⟨by rfl, fun w9 => by go_simp; try with_reducible rfl⟩) ?_
      (try simp only [Act.put, List.setIfInBounds_toArray, List.set_cons_zero, List.set_cons_succ])
      refine wpAny_ready (rs := [3, 7, 13]) (by kernel_rfl) (by simp) ?_
      refine AllReady.cons (o := { dst := some 23, op := Op.load 22 (Operand.tmp 22), type := 22, pos := "subset.go:86", after := #[{ on := 2, ground := Ground.data }], guard := none }) rfl (fun K hK => ?_) ?_
      · go_simp
        refine hK _ _ ?_
        clear hK K
        (try simp only [Act.put, List.setIfInBounds_toArray, List.set_cons_zero, List.set_cons_succ])
        refine wpAny_ready (rs := [7, 13]) (by kernel_rfl) (by simp) ?_
        refine AllReady.cons (o := { dst := some 27, op := Op.load 3 (Operand.tmp 26), type := 3, pos := "subset.go:86", after := #[{ on := 6, ground := Ground.data }], guard := none }) rfl (fun K hK => ?_) ?_
        · go_simp
          refine hK _ _ ?_
          clear hK K
          (try simp only [Act.put, List.setIfInBounds_toArray, List.set_cons_zero, List.set_cons_succ])
          refine wpAny_ready (rs := [8, 13]) (by kernel_rfl) (by simp) ?_
          refine AllReady.cons (o := { dst := some 28, op := Op.call { callee := Callee.value (Operand.func 73), args := #[Operand.tmp 23, Operand.tmp 27], argTypes := #[22, 3] }, type := 178, pos := "subset.go:86", after := #[{ on := 3, ground := Ground.data }, { on := 7, ground := Ground.data }], guard := none }) rfl (fun K hK => ?_) ?_
          · go_simp
            refine (CN2.out _ (by first | exact BD.out | exact BA.out)).mono ?_
            rintro e w9 ⟨rfl, hb9⟩
            have HB9 := Lib.hid hb9
            clear hb9
            dsimp only
            refine hK _ _ ?_
            clear hK K
            (try simp only [Act.put, List.setIfInBounds_toArray, List.set_cons_zero, List.set_cons_succ])
            refine wpAny_take (i := 9) (oi := { dst := some 19, op := Op.move (Operand.tmp 28), type := 178, pos := "subset.go:86", after := #[{ on := 8, ground := Ground.data }], guard := none }) (v := ?_) rfl (by kernel_rfl) (by kernel_rfl) (by kernel_rfl) (fun _ _ _ h => h) (Or.inl ⟨by rfl, fun w9 => by go_simp; try with_reducible rfl⟩) ?_
            (try simp only [Act.put, List.setIfInBounds_toArray, List.set_cons_zero, List.set_cons_succ])
            refine wpAny_take (i := 10) (oi := { dst := some 29, op := Op.extract (Operand.tmp 19) 0, type := 177, pos := "subset.go:86", after := #[{ on := 9, ground := Ground.data }], guard := none }) (v := ?_) rfl (by kernel_rfl) (by kernel_rfl) (by kernel_rfl) (fun _ _ _ h => h) (Or.inl ⟨by rfl, fun w9 => by go_simp; try with_reducible rfl⟩) ?_
            (try simp only [Act.put, List.setIfInBounds_toArray, List.set_cons_zero, List.set_cons_succ])
            refine wpAny_take (i := 11) (oi := { dst := some 30, op := Op.extract (Operand.tmp 19) 1, type := 3, pos := "subset.go:86", after := #[{ on := 9, ground := Ground.data }, { on := 14, ground := Ground.gcOnly Departure.lateStores }], guard := none }) (v := ?_) rfl (by kernel_rfl) (by kernel_rfl) (by kernel_rfl) (fun _ _ _ h => h) (Or.inl ⟨by rfl, fun w9 => by go_simp; try with_reducible rfl⟩) ?_
            (try simp only [Act.put, List.setIfInBounds_toArray, List.set_cons_zero, List.set_cons_succ])
            refine wpAny_take (i := 12) (oi := { dst := some 31, op := Op.extract (Operand.tmp 19) 2, type := 25, pos := "subset.go:86", after := #[{ on := 9, ground := Ground.data }, { on := 15, ground := Ground.gcOnly Departure.lateStores }], guard := none }) (v := ?_) rfl (by kernel_rfl) (by kernel_rfl) (by kernel_rfl) (fun _ _ _ h => h) (Or.inl ⟨by rfl, fun w9 => by go_simp; try with_reducible rfl⟩) ?_
            (try simp only [Act.put, List.setIfInBounds_toArray, List.set_cons_zero, List.set_cons_succ])
            refine wpAny_ready (rs := [13]) (by kernel_rfl) (by simp) ?_
            refine AllReady.cons (o := { dst := some 7, op := Op.alloc 177, type := 0, pos := "subset.go:86", after := #[], guard := none }) rfl (fun K hK => ?_) ?_
            · go_simp
              refine hK _ _ ?_
              clear hK K
              (try simp only [Act.put, List.setIfInBounds_toArray, List.set_cons_zero, List.set_cons_succ])
              refine wpAny_ready (rs := [14]) (by kernel_rfl) (by simp) ?_
              refine AllReady.cons (o := { dst := none, op := Op.store 177 (Operand.tmp 7) (Operand.tmp 29), type := 0, pos := "subset.go:86", after := #[{ on := 13, ground := Ground.data }, { on := 10, ground := Ground.data }, { on := 8, ground := Ground.chain }, { on := 0, ground := Ground.phase }, { on := 1, ground := Ground.phase }, { on := 2, ground := Ground.phase }, { on := 3, ground := Ground.phase }, { on := 4, ground := Ground.phase }, { on := 5, ground := Ground.phase }, { on := 6, ground := Ground.phase }, { on := 7, ground := Ground.phase }, { on := 8, ground := Ground.phase }, { on := 9, ground := Ground.phase }, { on := 10, ground := Ground.phase }, { on := 11, ground := Ground.textOnly Departure.lateStores }, { on := 12, ground := Ground.textOnly Departure.lateStores }, { on := 13, ground := Ground.phase }], guard := none }) rfl (fun K hK => ?_) ?_
              · refine step_op rfl (wp_store_row 177 (.tmp 7) (.tmp 29) rfl _ #[.int .i64 (KD : Nat), .string ⟨nm.toArray⟩, .bool false, .string ⟨#[]⟩, .string ⟨#[]⟩, .bool false, .string ⟨#[]⟩, .string ⟨#[]⟩, .string ⟨#[]⟩, .slice none 0 0, .string ⟨#[]⟩, .string ⟨#[]⟩, .string ⟨tx.toArray⟩] rfl rfl _ _ (by first | exact hp_new _ _ | exact (HB9.out.block _ (lt_of HGA.out)).trans HGA.out) (HU.out.1.trans rfl) (by rfl) (by kernel_rfl) ?_)
                refine hK _ _ ?_
                clear hK K
                (try simp only [Act.put, List.setIfInBounds_toArray, List.set_cons_zero, List.set_cons_succ])
                refine wpAny_take (i := 15) (oi := { dst := some 8, op := Op.assign (Operand.tmp 30), type := 3, pos := "subset.go:86", after := #[{ on := 11, ground := Ground.data }, { on := 14, ground := Ground.chain }, { on := 0, ground := Ground.phase }, { on := 1, ground := Ground.phase }, { on := 2, ground := Ground.phase }, { on := 3, ground := Ground.phase }, { on := 4, ground := Ground.phase }, { on := 5, ground := Ground.phase }, { on := 6, ground := Ground.phase }, { on := 7, ground := Ground.phase }, { on := 8, ground := Ground.phase }, { on := 9, ground := Ground.phase }, { on := 10, ground := Ground.phase }, { on := 11, ground := Ground.phase }, { on := 12, ground := Ground.textOnly Departure.lateStores }, { on := 13, ground := Ground.phase }, { on := 14, ground := Ground.phase }], guard := none }) (v := ?_) rfl (by kernel_rfl) (by kernel_rfl) (by kernel_rfl) (fun _ _ _ h => h) (Or.inl ⟨by rfl, fun w9 => by go_simp; try with_reducible rfl⟩) ?_
                (try simp only [Act.put, List.setIfInBounds_toArray, List.set_cons_zero, List.set_cons_succ])
                refine wpAny_take (i := 16) (oi := { dst := some 9, op := Op.assign (Operand.tmp 31), type := 25, pos := "subset.go:86", after := #[{ on := 12, ground := Ground.data }, { on := 15, ground := Ground.chain }, { on := 0, ground := Ground.phase }, { on := 1, ground := Ground.phase }, { on := 2, ground := Ground.phase }, { on := 3, ground := Ground.phase }, { on := 4, ground := Ground.phase }, { on := 5, ground := Ground.phase }, { on := 6, ground := Ground.phase }, { on := 7, ground := Ground.phase }, { on := 8, ground := Ground.phase }, { on := 9, ground := Ground.phase }, { on := 10, ground := Ground.phase }, { on := 11, ground := Ground.phase }, { on := 12, ground := Ground.phase }, { on := 13, ground := Ground.phase }, { on := 14, ground := Ground.phase }, { on := 15, ground := Ground.phase }], guard := none }) (v := ?_) rfl (by kernel_rfl) (by kernel_rfl) (by kernel_rfl) (fun _ _ _ h => h) (Or.inl ⟨by rfl, fun w9 => by go_simp; try with_reducible rfl⟩) ?_
                (try simp only [Act.put, List.setIfInBounds_toArray, List.set_cons_zero, List.set_cons_succ])
                refine wpAny_done (by kernel_rfl) ?_ _
                go_wp2_with fail
                go_meet
                first
                  | exact ⟨_, rfl, rfl, rfl, Lib.hid ⟨below_setRow ((BD.out.trans (HB9.out.mono BD.out.size)).alloc ((BD.out.trans (HB9.out.mono BD.out.size))).size _) ((BD.out.trans (HB9.out.mono BD.out.size))).size _, ((BD.out.trans (HB9.out.mono BD.out.size))).size, setRow_heap _ _ _ _ _ _ (hp_new _ _)⟩⟩
                  | exact ⟨_, rfl, rfl, rfl, Lib.hid ⟨below_setRow (BA.out.trans (HB9.out.mono BA.out.size)) (Nat.le_refl _) _, Nat.le_refl _, setRow_heap _ _ _ _ _ _ ((HB9.out.block _ (lt_of HGA.out)).trans HGA.out)⟩⟩
              exact AllReady.nil
            exact AllReady.nil
          refine AllReady.cons (o := { dst := some 7, op := Op.alloc 177, type := 0, pos := "subset.go:86", after := #[], guard := none }) rfl (fun K hK => ?_) ?_
          · go_simp
            refine hK _ _ ?_
            clear hK K
            (try simp only [Act.put, List.setIfInBounds_toArray, List.set_cons_zero, List.set_cons_succ])
            refine wpAny_ready (rs := [8]) (by kernel_rfl) (by simp) ?_
            refine AllReady.cons (o := { dst := some 28, op := Op.call { callee := Callee.value (Operand.func 73), args := #[Operand.tmp 23, Operand.tmp 27], argTypes := #[22, 3] }, type := 178, pos := "subset.go:86", after := #[{ on := 3, ground := Ground.data }, { on := 7, ground := Ground.data }], guard := none }) rfl (fun K hK => ?_) ?_
            · go_simp
              refine (CN2.out _ (by first | exact BD.out | exact BA.out)).mono ?_
              rintro e w9 ⟨rfl, hb9⟩
              have HB9 := Lib.hid hb9
              clear hb9
              dsimp only
              refine hK _ _ ?_
              clear hK K
              (try simp only [Act.put, List.setIfInBounds_toArray, List.set_cons_zero, List.set_cons_succ])
              refine wpAny_take (i := 9) (oi := { dst := some 19, op := Op.move (Operand.tmp 28), type := 178, pos := "subset.go:86", after := #[{ on := 8, ground := Ground.data }], guard := none }) (v := ?_) rfl (by kernel_rfl) (by kernel_rfl) (by kernel_rfl) (fun _ _ _ h => h) (Or.inl ⟨by rfl, fun w9 => by go_simp; try with_reducible rfl⟩) ?_
              (try simp only [Act.put, List.setIfInBounds_toArray, List.set_cons_zero, List.set_cons_succ])
              refine wpAny_take (i := 10) (oi := { dst := some 29, op := Op.extract (Operand.tmp 19) 0, type := 177, pos := "subset.go:86", after := #[{ on := 9, ground := Ground.data }], guard := none }) (v := ?_) rfl (by kernel_rfl) (by kernel_rfl) (by kernel_rfl) (fun _ _ _ h => h) (Or.inl ⟨by rfl, fun w9 => by go_simp; try with_reducible rfl⟩) ?_
              (try simp only [Act.put, List.setIfInBounds_toArray, List.set_cons_zero, List.set_cons_succ])
              refine wpAny_take (i := 11) (oi := { dst := some 30, op := Op.extract (Operand.tmp 19) 1, type := 3, pos := "subset.go:86", after := #[{ on := 9, ground := Ground.data }, { on := 14, ground := Ground.gcOnly Departure.lateStores }], guard := none }) (v := ?_) rfl (by kernel_rfl) (by kernel_rfl) (by kernel_rfl) (fun _ _ _ h => h) (Or.inl ⟨by rfl, fun w9 => by go_simp; try with_reducible rfl⟩) ?_
              (try simp only [Act.put, List.setIfInBounds_toArray, List.set_cons_zero, List.set_cons_succ])
              refine wpAny_take (i := 12) (oi := { dst := some 31, op := Op.extract (Operand.tmp 19) 2, type := 25, pos := "subset.go:86", after := #[{ on := 9, ground := Ground.data }, { on := 15, ground := Ground.gcOnly Departure.lateStores }], guard := none }) (v := ?_) rfl (by kernel_rfl) (by kernel_rfl) (by kernel_rfl) (fun _ _ _ h => h) (Or.inl ⟨by rfl, fun w9 => by go_simp; try with_reducible rfl⟩) ?_
              (try simp only [Act.put, List.setIfInBounds_toArray, List.set_cons_zero, List.set_cons_succ])
              refine wpAny_ready (rs := [14]) (by kernel_rfl) (by simp) ?_
              refine AllReady.cons (o := { dst := none, op := Op.store 177 (Operand.tmp 7) (Operand.tmp 29), type := 0, pos := "subset.go:86", after := #[{ on := 13, ground := Ground.data }, { on := 10, ground := Ground.data }, { on := 8, ground := Ground.chain }, { on := 0, ground := Ground.phase }, { on := 1, ground := Ground.phase }, { on := 2, ground := Ground.phase }, { on := 3, ground := Ground.phase }, { on := 4, ground := Ground.phase }, { on := 5, ground := Ground.phase }, { on := 6, ground := Ground.phase }, { on := 7, ground := Ground.phase }, { on := 8, ground := Ground.phase }, { on := 9, ground := Ground.phase }, { on := 10, ground := Ground.phase }, { on := 11, ground := Ground.textOnly Departure.lateStores }, { on := 12, ground := Ground.textOnly Departure.lateStores }, { on := 13, ground := Ground.phase }], guard := none }) rfl (fun K hK => ?_) ?_
              · refine step_op rfl (wp_store_row 177 (.tmp 7) (.tmp 29) rfl _ #[.int .i64 (KD : Nat), .string ⟨nm.toArray⟩, .bool false, .string ⟨#[]⟩, .string ⟨#[]⟩, .bool false, .string ⟨#[]⟩, .string ⟨#[]⟩, .string ⟨#[]⟩, .slice none 0 0, .string ⟨#[]⟩, .string ⟨#[]⟩, .string ⟨tx.toArray⟩] rfl rfl _ _ (by first | exact hp_new _ _ | exact (HB9.out.block _ (lt_of HGA.out)).trans HGA.out) (HU.out.1.trans rfl) (by rfl) (by kernel_rfl) ?_)
                refine hK _ _ ?_
                clear hK K
                (try simp only [Act.put, List.setIfInBounds_toArray, List.set_cons_zero, List.set_cons_succ])
                refine wpAny_take (i := 15) (oi := { dst := some 8, op := Op.assign (Operand.tmp 30), type := 3, pos := "subset.go:86", after := #[{ on := 11, ground := Ground.data }, { on := 14, ground := Ground.chain }, { on := 0, ground := Ground.phase }, { on := 1, ground := Ground.phase }, { on := 2, ground := Ground.phase }, { on := 3, ground := Ground.phase }, { on := 4, ground := Ground.phase }, { on := 5, ground := Ground.phase }, { on := 6, ground := Ground.phase }, { on := 7, ground := Ground.phase }, { on := 8, ground := Ground.phase }, { on := 9, ground := Ground.phase }, { on := 10, ground := Ground.phase }, { on := 11, ground := Ground.phase }, { on := 12, ground := Ground.textOnly Departure.lateStores }, { on := 13, ground := Ground.phase }, { on := 14, ground := Ground.phase }], guard := none }) (v := ?_) rfl (by kernel_rfl) (by kernel_rfl) (by kernel_rfl) (fun _ _ _ h => h) (Or.inl ⟨by rfl, fun w9 => by go_simp; try with_reducible rfl⟩) ?_
                (try simp only [Act.put, List.setIfInBounds_toArray, List.set_cons_zero, List.set_cons_succ])
                refine wpAny_take (i := 16) (oi := { dst := some 9, op := Op.assign (Operand.tmp 31), type := 25, pos := "subset.go:86", after := #[{ on := 12, ground := Ground.data }, { on := 15, ground := Ground.chain }, { on := 0, ground := Ground.phase }, { on := 1, ground := Ground.phase }, { on := 2, ground := Ground.phase }, { on := 3, ground := Ground.phase }, { on := 4, ground := Ground.phase }, { on := 5, ground := Ground.phase }, { on := 6, ground := Ground.phase }, { on := 7, ground := Ground.phase }, { on := 8, ground := Ground.phase }, { on := 9, ground := Ground.phase }, { on := 10, ground := Ground.phase }, { on := 11, ground := Ground.phase }, { on := 12, ground := Ground.phase }, { on := 13, ground := Ground.phase }, { on := 14, ground := Ground.phase }, { on := 15, ground := Ground.phase }], guard := none }) (v := ?_) rfl (by kernel_rfl) (by kernel_rfl) (by kernel_rfl) (fun _ _ _ h => h) (Or.inl ⟨by rfl, fun w9 => by go_simp; try with_reducible rfl⟩) ?_
                (try simp only [Act.put, List.setIfInBounds_toArray, List.set_cons_zero, List.set_cons_succ])
                refine wpAny_done (by kernel_rfl) ?_ _
                go_wp2_with fail
                go_meet
                first
                  | exact ⟨_, rfl, rfl, rfl, Lib.hid ⟨below_setRow ((BD.out.trans (HB9.out.mono BD.out.size)).alloc ((BD.out.trans (HB9.out.mono BD.out.size))).size _) ((BD.out.trans (HB9.out.mono BD.out.size))).size _, ((BD.out.trans (HB9.out.mono BD.out.size))).size, setRow_heap _ _ _ _ _ _ (hp_new _ _)⟩⟩
                  | exact ⟨_, rfl, rfl, rfl, Lib.hid ⟨below_setRow (BA.out.trans (HB9.out.mono BA.out.size)) (Nat.le_refl _) _, Nat.le_refl _, setRow_heap _ _ _ _ _ _ ((HB9.out.block _ (lt_of HGA.out)).trans HGA.out)⟩⟩
              exact AllReady.nil
            exact AllReady.nil
          exact AllReady.nil
        refine AllReady.cons (o := { dst := some 7, op := Op.alloc 177, type := 0, pos := "subset.go:86", after := #[], guard := none }) rfl (fun K hK => ?_) ?_
        · go_simp
          refine hK _ _ ?_
          clear hK K
          (try simp only [Act.put, List.setIfInBounds_toArray, List.set_cons_zero, List.set_cons_succ])
          refine wpAny_ready (rs := [7]) (by kernel_rfl) (by simp) ?_
          refine AllReady.cons (o := { dst := some 27, op := Op.load 3 (Operand.tmp 26), type := 3, pos := "subset.go:86", after := #[{ on := 6, ground := Ground.data }], guard := none }) rfl (fun K hK => ?_) ?_
          · go_simp
            refine hK _ _ ?_
            clear hK K
            (try simp only [Act.put, List.setIfInBounds_toArray, List.set_cons_zero, List.set_cons_succ])
            refine wpAny_ready (rs := [8]) (by kernel_rfl) (by simp) ?_
            refine AllReady.cons (o := { dst := some 28, op := Op.call { callee := Callee.value (Operand.func 73), args := #[Operand.tmp 23, Operand.tmp 27], argTypes := #[22, 3] }, type := 178, pos := "subset.go:86", after := #[{ on := 3, ground := Ground.data }, { on := 7, ground := Ground.data }], guard := none }) rfl (fun K hK => ?_) ?_
            · go_simp
              refine (CN2.out _ (by first | exact BD.out | exact BA.out)).mono ?_
              rintro e w9 ⟨rfl, hb9⟩
              have HB9 := Lib.hid hb9
              clear hb9
              dsimp only
              refine hK _ _ ?_
              clear hK K
              (try simp only [Act.put, List.setIfInBounds_toArray, List.set_cons_zero, List.set_cons_succ])
              refine wpAny_take (i := 9) (oi := { dst := some 19, op := Op.move (Operand.tmp 28), type := 178, pos := "subset.go:86", after := #[{ on := 8, ground := Ground.data }], guard := none }) (v := ?_) rfl (by kernel_rfl) (by kernel_rfl) (by kernel_rfl) (fun _ _ _ h => h) (Or.inl ⟨by rfl, fun w9 => by go_simp; try with_reducible rfl⟩) ?_
              (try simp only [Act.put, List.setIfInBounds_toArray, List.set_cons_zero, List.set_cons_succ])
              refine wpAny_take (i := 10) (oi := { dst := some 29, op := Op.extract (Operand.tmp 19) 0, type := 177, pos := "subset.go:86", after := #[{ on := 9, ground := Ground.data }], guard := none }) (v := ?_) rfl (by kernel_rfl) (by kernel_rfl) (by kernel_rfl) (fun _ _ _ h => h) (Or.inl ⟨by rfl, fun w9 => by go_simp; try with_reducible rfl⟩) ?_
              (try simp only [Act.put, List.setIfInBounds_toArray, List.set_cons_zero, List.set_cons_succ])
              refine wpAny_take (i := 11) (oi := { dst := some 30, op := Op.extract (Operand.tmp 19) 1, type := 3, pos := "subset.go:86", after := #[{ on := 9, ground := Ground.data }, { on := 14, ground := Ground.gcOnly Departure.lateStores }], guard := none }) (v := ?_) rfl (by kernel_rfl) (by kernel_rfl) (by kernel_rfl) (fun _ _ _ h => h) (Or.inl ⟨by rfl, fun w9 => by go_simp; try with_reducible rfl⟩) ?_
              (try simp only [Act.put, List.setIfInBounds_toArray, List.set_cons_zero, List.set_cons_succ])
              refine wpAny_take (i := 12) (oi := { dst := some 31, op := Op.extract (Operand.tmp 19) 2, type := 25, pos := "subset.go:86", after := #[{ on := 9, ground := Ground.data }, { on := 15, ground := Ground.gcOnly Departure.lateStores }], guard := none }) (v := ?_) rfl (by kernel_rfl) (by kernel_rfl) (by kernel_rfl) (fun _ _ _ h => h) (Or.inl ⟨by rfl, fun w9 => by go_simp; try with_reducible rfl⟩) ?_
              (try simp only [Act.put, List.setIfInBounds_toArray, List.set_cons_zero, List.set_cons_succ])
              refine wpAny_ready (rs := [14]) (by kernel_rfl) (by simp) ?_
              refine AllReady.cons (o := { dst := none, op := Op.store 177 (Operand.tmp 7) (Operand.tmp 29), type := 0, pos := "subset.go:86", after := #[{ on := 13, ground := Ground.data }, { on := 10, ground := Ground.data }, { on := 8, ground := Ground.chain }, { on := 0, ground := Ground.phase }, { on := 1, ground := Ground.phase }, { on := 2, ground := Ground.phase }, { on := 3, ground := Ground.phase }, { on := 4, ground := Ground.phase }, { on := 5, ground := Ground.phase }, { on := 6, ground := Ground.phase }, { on := 7, ground := Ground.phase }, { on := 8, ground := Ground.phase }, { on := 9, ground := Ground.phase }, { on := 10, ground := Ground.phase }, { on := 11, ground := Ground.textOnly Departure.lateStores }, { on := 12, ground := Ground.textOnly Departure.lateStores }, { on := 13, ground := Ground.phase }], guard := none }) rfl (fun K hK => ?_) ?_
              · refine step_op rfl (wp_store_row 177 (.tmp 7) (.tmp 29) rfl _ #[.int .i64 (KD : Nat), .string ⟨nm.toArray⟩, .bool false, .string ⟨#[]⟩, .string ⟨#[]⟩, .bool false, .string ⟨#[]⟩, .string ⟨#[]⟩, .string ⟨#[]⟩, .slice none 0 0, .string ⟨#[]⟩, .string ⟨#[]⟩, .string ⟨tx.toArray⟩] rfl rfl _ _ (by first | exact hp_new _ _ | exact (HB9.out.block _ (lt_of HGA.out)).trans HGA.out) (HU.out.1.trans rfl) (by rfl) (by kernel_rfl) ?_)
                refine hK _ _ ?_
                clear hK K
                (try simp only [Act.put, List.setIfInBounds_toArray, List.set_cons_zero, List.set_cons_succ])
                refine wpAny_take (i := 15) (oi := { dst := some 8, op := Op.assign (Operand.tmp 30), type := 3, pos := "subset.go:86", after := #[{ on := 11, ground := Ground.data }, { on := 14, ground := Ground.chain }, { on := 0, ground := Ground.phase }, { on := 1, ground := Ground.phase }, { on := 2, ground := Ground.phase }, { on := 3, ground := Ground.phase }, { on := 4, ground := Ground.phase }, { on := 5, ground := Ground.phase }, { on := 6, ground := Ground.phase }, { on := 7, ground := Ground.phase }, { on := 8, ground := Ground.phase }, { on := 9, ground := Ground.phase }, { on := 10, ground := Ground.phase }, { on := 11, ground := Ground.phase }, { on := 12, ground := Ground.textOnly Departure.lateStores }, { on := 13, ground := Ground.phase }, { on := 14, ground := Ground.phase }], guard := none }) (v := ?_) rfl (by kernel_rfl) (by kernel_rfl) (by kernel_rfl) (fun _ _ _ h => h) (Or.inl ⟨by rfl, fun w9 => by go_simp; try with_reducible rfl⟩) ?_
                (try simp only [Act.put, List.setIfInBounds_toArray, List.set_cons_zero, List.set_cons_succ])
                refine wpAny_take (i := 16) (oi := { dst := some 9, op := Op.assign (Operand.tmp 31), type := 25, pos := "subset.go:86", after := #[{ on := 12, ground := Ground.data }, { on := 15, ground := Ground.chain }, { on := 0, ground := Ground.phase }, { on := 1, ground := Ground.phase }, { on := 2, ground := Ground.phase }, { on := 3, ground := Ground.phase }, { on := 4, ground := Ground.phase }, { on := 5, ground := Ground.phase }, { on := 6, ground := Ground.phase }, { on := 7, ground := Ground.phase }, { on := 8, ground := Ground.phase }, { on := 9, ground := Ground.phase }, { on := 10, ground := Ground.phase }, { on := 11, ground := Ground.phase }, { on := 12, ground := Ground.phase }, { on := 13, ground := Ground.phase }, { on := 14, ground := Ground.phase }, { on := 15, ground := Ground.phase }], guard := none }) (v := ?_) rfl (by kernel_rfl) (by kernel_rfl) (by kernel_rfl) (fun _ _ _ h => h) (Or.inl ⟨by rfl, fun w9 => by go_simp; try with_reducible rfl⟩) ?_
                (try simp only [Act.put, List.setIfInBounds_toArray, List.set_cons_zero, List.set_cons_succ])
                refine wpAny_done (by kernel_rfl) ?_ _
                go_wp2_with fail
                go_meet
                first
                  | exact ⟨_, rfl, rfl, rfl, Lib.hid ⟨below_setRow ((BD.out.trans (HB9.out.mono BD.out.size)).alloc ((BD.out.trans (HB9.out.mono BD.out.size))).size _) ((BD.out.trans (HB9.out.mono BD.out.size))).size _, ((BD.out.trans (HB9.out.mono BD.out.size))).size, setRow_heap _ _ _ _ _ _ (hp_new _ _)⟩⟩
                  | exact ⟨_, rfl, rfl, rfl, Lib.hid ⟨below_setRow (BA.out.trans (HB9.out.mono BA.out.size)) (Nat.le_refl _) _, Nat.le_refl _, setRow_heap _ _ _ _ _ _ ((HB9.out.block _ (lt_of HGA.out)).trans HGA.out)⟩⟩
              exact AllReady.nil
            exact AllReady.nil
          exact AllReady.nil
        exact AllReady.nil
      refine AllReady.cons (o := { dst := some 27, op := Op.load 3 (Operand.tmp 26), type := 3, pos := "subset.go:86", after := #[{ on := 6, ground := Ground.data }], guard := none }) rfl (fun K hK => ?_) ?_
      · go_simp
        refine hK _ _ ?_
        clear hK K
        (try simp only [Act.put, List.setIfInBounds_toArray, List.set_cons_zero, List.set_cons_succ])
        refine wpAny_ready (rs := [3, 13]) (by kernel_rfl) (by simp) ?_
        refine AllReady.cons (o := { dst := some 23, op := Op.load 22 (Operand.tmp 22), type := 22, pos := "subset.go:86", after := #[{ on := 2, ground := Ground.data }], guard := none }) rfl (fun K hK => ?_) ?_
        · go_simp
          refine hK _ _ ?_
          clear hK K
          (try simp only [Act.put, List.setIfInBounds_toArray, List.set_cons_zero, List.set_cons_succ])
          refine wpAny_ready (rs := [8, 13]) (by kernel_rfl) (by simp) ?_
          refine AllReady.cons (o := { dst := some 28, op := Op.call { callee := Callee.value (Operand.func 73), args := #[Operand.tmp 23, Operand.tmp 27], argTypes := #[22, 3] }, type := 178, pos := "subset.go:86", after := #[{ on := 3, ground := Ground.data }, { on := 7, ground := Ground.data }], guard := none }) rfl (fun K hK => ?_) ?_
          · go_simp
            refine (CN2.out _ (by first | exact BD.out | exact BA.out)).mono ?_
            rintro e w9 ⟨rfl, hb9⟩
            have HB9 := Lib.hid hb9
            clear hb9
            dsimp only
            refine hK _ _ ?_
            clear hK K
            (try simp only [Act.put, List.setIfInBounds_toArray, List.set_cons_zero, List.set_cons_succ])
            refine wpAny_take (i := 9) (oi := { dst := some 19, op := Op.move (Operand.tmp 28), type := 178, pos := "subset.go:86", after := #[{ on := 8, ground := Ground.data }], guard := none }) (v := ?_) rfl (by kernel_rfl) (by kernel_rfl) (by kernel_rfl) (fun _ _ _ h => h) (Or.inl ⟨by rfl, fun w9 => by go_simp; try with_reducible rfl⟩) ?_
            (try simp only [Act.put, List.setIfInBounds_toArray, List.set_cons_zero, List.set_cons_succ])
            refine wpAny_take (i := 10) (oi := { dst := some 29, op := Op.extract (Operand.tmp 19) 0, type := 177, pos := "subset.go:86", after := #[{ on := 9, ground := Ground.data }], guard := none }) (v := ?_) rfl (by kernel_rfl) (by kernel_rfl) (by kernel_rfl) (fun _ _ _ h => h) (Or.inl ⟨by rfl, fun w9 => by go_simp; try with_reducible rfl⟩) ?_
            (try simp only [Act.put, List.setIfInBounds_toArray, List.set_cons_zero, List.set_cons_succ])
            refine wpAny_take (i := 11) (oi := { dst := some 30, op := Op.extract (Operand.tmp 19) 1, type := 3, pos := "subset.go:86", after := #[{ on := 9, ground := Ground.data }, { on := 14, ground := Ground.gcOnly Departure.lateStores }], guard := none }) (v := ?_) rfl (by kernel_rfl) (by kernel_rfl) (by kernel_rfl) (fun _ _ _ h => h) (Or.inl ⟨by rfl, fun w9 => by go_simp; try with_reducible rfl⟩) ?_
            (try simp only [Act.put, List.setIfInBounds_toArray, List.set_cons_zero, List.set_cons_succ])
            refine wpAny_take (i := 12) (oi := { dst := some 31, op := Op.extract (Operand.tmp 19) 2, type := 25, pos := "subset.go:86", after := #[{ on := 9, ground := Ground.data }, { on := 15, ground := Ground.gcOnly Departure.lateStores }], guard := none }) (v := ?_) rfl (by kernel_rfl) (by kernel_rfl) (by kernel_rfl) (fun _ _ _ h => h) (Or.inl ⟨by rfl, fun w9 => by go_simp; try with_reducible rfl⟩) ?_
            (try simp only [Act.put, List.setIfInBounds_toArray, List.set_cons_zero, List.set_cons_succ])
            refine wpAny_ready (rs := [13]) (by kernel_rfl) (by simp) ?_
            refine AllReady.cons (o := { dst := some 7, op := Op.alloc 177, type := 0, pos := "subset.go:86", after := #[], guard := none }) rfl (fun K hK => ?_) ?_
            · go_simp
              refine hK _ _ ?_
              clear hK K
              (try simp only [Act.put, List.setIfInBounds_toArray, List.set_cons_zero, List.set_cons_succ])
              refine wpAny_ready (rs := [14]) (by kernel_rfl) (by simp) ?_
              refine AllReady.cons (o := { dst := none, op := Op.store 177 (Operand.tmp 7) (Operand.tmp 29), type := 0, pos := "subset.go:86", after := #[{ on := 13, ground := Ground.data }, { on := 10, ground := Ground.data }, { on := 8, ground := Ground.chain }, { on := 0, ground := Ground.phase }, { on := 1, ground := Ground.phase }, { on := 2, ground := Ground.phase }, { on := 3, ground := Ground.phase }, { on := 4, ground := Ground.phase }, { on := 5, ground := Ground.phase }, { on := 6, ground := Ground.phase }, { on := 7, ground := Ground.phase }, { on := 8, ground := Ground.phase }, { on := 9, ground := Ground.phase }, { on := 10, ground := Ground.phase }, { on := 11, ground := Ground.textOnly Departure.lateStores }, { on := 12, ground := Ground.textOnly Departure.lateStores }, { on := 13, ground := Ground.phase }], guard := none }) rfl (fun K hK => ?_) ?_
              · refine step_op rfl (wp_store_row 177 (.tmp 7) (.tmp 29) rfl _ #[.int .i64 (KD : Nat), .string ⟨nm.toArray⟩, .bool false, .string ⟨#[]⟩, .string ⟨#[]⟩, .bool false, .string ⟨#[]⟩, .string ⟨#[]⟩, .string ⟨#[]⟩, .slice none 0 0, .string ⟨#[]⟩, .string ⟨#[]⟩, .string ⟨tx.toArray⟩] rfl rfl _ _ (by first | exact hp_new _ _ | exact (HB9.out.block _ (lt_of HGA.out)).trans HGA.out) (HU.out.1.trans rfl) (by rfl) (by kernel_rfl) ?_)
                refine hK _ _ ?_
                clear hK K
                (try simp only [Act.put, List.setIfInBounds_toArray, List.set_cons_zero, List.set_cons_succ])
                refine wpAny_take (i := 15) (oi := { dst := some 8, op := Op.assign (Operand.tmp 30), type := 3, pos := "subset.go:86", after := #[{ on := 11, ground := Ground.data }, { on := 14, ground := Ground.chain }, { on := 0, ground := Ground.phase }, { on := 1, ground := Ground.phase }, { on := 2, ground := Ground.phase }, { on := 3, ground := Ground.phase }, { on := 4, ground := Ground.phase }, { on := 5, ground := Ground.phase }, { on := 6, ground := Ground.phase }, { on := 7, ground := Ground.phase }, { on := 8, ground := Ground.phase }, { on := 9, ground := Ground.phase }, { on := 10, ground := Ground.phase }, { on := 11, ground := Ground.phase }, { on := 12, ground := Ground.textOnly Departure.lateStores }, { on := 13, ground := Ground.phase }, { on := 14, ground := Ground.phase }], guard := none }) (v := ?_) rfl (by kernel_rfl) (by kernel_rfl) (by kernel_rfl) (fun _ _ _ h => h) (Or.inl ⟨by rfl, fun w9 => by go_simp; try with_reducible rfl⟩) ?_
                (try simp only [Act.put, List.setIfInBounds_toArray, List.set_cons_zero, List.set_cons_succ])
                refine wpAny_take (i := 16) (oi := { dst := some 9, op := Op.assign (Operand.tmp 31), type := 25, pos := "subset.go:86", after := #[{ on := 12, ground := Ground.data }, { on := 15, ground := Ground.chain }, { on := 0, ground := Ground.phase }, { on := 1, ground := Ground.phase }, { on := 2, ground := Ground.phase }, { on := 3, ground := Ground.phase }, { on := 4, ground := Ground.phase }, { on := 5, ground := Ground.phase }, { on := 6, ground := Ground.phase }, { on := 7, ground := Ground.phase }, { on := 8, ground := Ground.phase }, { on := 9, ground := Ground.phase }, { on := 10, ground := Ground.phase }, { on := 11, ground := Ground.phase }, { on := 12, ground := Ground.phase }, { on := 13, ground := Ground.phase }, { on := 14, ground := Ground.phase }, { on := 15, ground := Ground.phase }], guard := none }) (v := ?_) rfl (by kernel_rfl) (by kernel_rfl) (by kernel_rfl) (fun _ _ _ h => h) (Or.inl ⟨by rfl, fun w9 => by go_simp; try with_reducible rfl⟩) ?_
                (try simp only [Act.put, List.setIfInBounds_toArray, List.set_cons_zero, List.set_cons_succ])
                refine wpAny_done (by kernel_rfl) ?_ _
                go_wp2_with fail
                go_meet
                first
                  | exact ⟨_, rfl, rfl, rfl, Lib.hid ⟨below_setRow ((BD.out.trans (HB9.out.mono BD.out.size)).alloc ((BD.out.trans (HB9.out.mono BD.out.size))).size _) ((BD.out.trans (HB9.out.mono BD.out.size))).size _, ((BD.out.trans (HB9.out.mono BD.out.size))).size, setRow_heap _ _ _ _ _ _ (hp_new _ _)⟩⟩
                  | exact ⟨_, rfl, rfl, rfl, Lib.hid ⟨below_setRow (BA.out.trans (HB9.out.mono BA.out.size)) (Nat.le_refl _) _, Nat.le_refl _, setRow_heap _ _ _ _ _ _ ((HB9.out.block _ (lt_of HGA.out)).trans HGA.out)⟩⟩
              exact AllReady.nil
            exact AllReady.nil
          refine AllReady.cons (o := { dst := some 7, op := Op.alloc 177, type := 0, pos := "subset.go:86", after := #[], guard := none }) rfl (fun K hK => ?_) ?_
          · go_simp
            refine hK _ _ ?_
            clear hK K
            (try simp only [Act.put, List.setIfInBounds_toArray, List.set_cons_zero, List.set_cons_succ])
            refine wpAny_ready (rs := [8]) (by kernel_rfl) (by simp) ?_
            refine AllReady.cons (o := { dst := some 28, op := Op.call { callee := Callee.value (Operand.func 73), args := #[Operand.tmp 23, Operand.tmp 27], argTypes := #[22, 3] }, type := 178, pos := "subset.go:86", after := #[{ on := 3, ground := Ground.data }, { on := 7, ground := Ground.data }], guard := none }) rfl (fun K hK => ?_) ?_
            · go_simp
              refine (CN2.out _ (by first | exact BD.out | exact BA.out)).mono ?_
              rintro e w9 ⟨rfl, hb9⟩
              have HB9 := Lib.hid hb9
              clear hb9
              dsimp only
              refine hK _ _ ?_
              clear hK K
              (try simp only [Act.put, List.setIfInBounds_toArray, List.set_cons_zero, List.set_cons_succ])
              refine wpAny_take (i := 9) (oi := { dst := some 19, op := Op.move (Operand.tmp 28), type := 178, pos := "subset.go:86", after := #[{ on := 8, ground := Ground.data }], guard := none }) (v := ?_) rfl (by kernel_rfl) (by kernel_rfl) (by kernel_rfl) (fun _ _ _ h => h) (Or.inl ⟨by rfl, fun w9 => by go_simp; try with_reducible rfl⟩) ?_
              (try simp only [Act.put, List.setIfInBounds_toArray, List.set_cons_zero, List.set_cons_succ])
              refine wpAny_take (i := 10) (oi := { dst := some 29, op := Op.extract (Operand.tmp 19) 0, type := 177, pos := "subset.go:86", after := #[{ on := 9, ground := Ground.data }], guard := none }) (v := ?_) rfl (by kernel_rfl) (by kernel_rfl) (by kernel_rfl) (fun _ _ _ h => h) (Or.inl ⟨by rfl, fun w9 => by go_simp; try with_reducible rfl⟩) ?_
              (try simp only [Act.put, List.setIfInBounds_toArray, List.set_cons_zero, List.set_cons_succ])
              refine wpAny_take (i := 11) (oi := { dst := some 30, op := Op.extract (Operand.tmp 19) 1, type := 3, pos := "subset.go:86", after := #[{ on := 9, ground := Ground.data }, { on := 14, ground := Ground.gcOnly Departure.lateStores }], guard := none }) (v := ?_) rfl (by kernel_rfl) (by kernel_rfl) (by kernel_rfl) (fun _ _ _ h => h) (Or.inl ⟨by rfl, fun w9 => by go_simp; try with_reducible rfl⟩) ?_
              (try simp only [Act.put, List.setIfInBounds_toArray, List.set_cons_zero, List.set_cons_succ])
              refine wpAny_take (i := 12) (oi := { dst := some 31, op := Op.extract (Operand.tmp 19) 2, type := 25, pos := "subset.go:86", after := #[{ on := 9, ground := Ground.data }, { on := 15, ground := Ground.gcOnly Departure.lateStores }], guard := none }) (v := ?_) rfl (by kernel_rfl) (by kernel_rfl) (by kernel_rfl) (fun _ _ _ h => h) (Or.inl ⟨by rfl, fun w9 => by go_simp; try with_reducible rfl⟩) ?_
              (try simp only [Act.put, List.setIfInBounds_toArray, List.set_cons_zero, List.set_cons_succ])
              refine wpAny_ready (rs := [14]) (by kernel_rfl) (by simp) ?_
              refine AllReady.cons (o := { dst := none, op := Op.store 177 (Operand.tmp 7) (Operand.tmp 29), type := 0, pos := "subset.go:86", after := #[{ on := 13, ground := Ground.data }, { on := 10, ground := Ground.data }, { on := 8, ground := Ground.chain }, { on := 0, ground := Ground.phase }, { on := 1, ground := Ground.phase }, { on := 2, ground := Ground.phase }, { on := 3, ground := Ground.phase }, { on := 4, ground := Ground.phase }, { on := 5, ground := Ground.phase }, { on := 6, ground := Ground.phase }, { on := 7, ground := Ground.phase }, { on := 8, ground := Ground.phase }, { on := 9, ground := Ground.phase }, { on := 10, ground := Ground.phase }, { on := 11, ground := Ground.textOnly Departure.lateStores }, { on := 12, ground := Ground.textOnly Departure.lateStores }, { on := 13, ground := Ground.phase }], guard := none }) rfl (fun K hK => ?_) ?_
              · refine step_op rfl (wp_store_row 177 (.tmp 7) (.tmp 29) rfl _ #[.int .i64 (KD : Nat), .string ⟨nm.toArray⟩, .bool false, .string ⟨#[]⟩, .string ⟨#[]⟩, .bool false, .string ⟨#[]⟩, .string ⟨#[]⟩, .string ⟨#[]⟩, .slice none 0 0, .string ⟨#[]⟩, .string ⟨#[]⟩, .string ⟨tx.toArray⟩] rfl rfl _ _ (by first | exact hp_new _ _ | exact (HB9.out.block _ (lt_of HGA.out)).trans HGA.out) (HU.out.1.trans rfl) (by rfl) (by kernel_rfl) ?_)
                refine hK _ _ ?_
                clear hK K
                (try simp only [Act.put, List.setIfInBounds_toArray, List.set_cons_zero, List.set_cons_succ])
                refine wpAny_take (i := 15) (oi := { dst := some 8, op := Op.assign (Operand.tmp 30), type := 3, pos := "subset.go:86", after := #[{ on := 11, ground := Ground.data }, { on := 14, ground := Ground.chain }, { on := 0, ground := Ground.phase }, { on := 1, ground := Ground.phase }, { on := 2, ground := Ground.phase }, { on := 3, ground := Ground.phase }, { on := 4, ground := Ground.phase }, { on := 5, ground := Ground.phase }, { on := 6, ground := Ground.phase }, { on := 7, ground := Ground.phase }, { on := 8, ground := Ground.phase }, { on := 9, ground := Ground.phase }, { on := 10, ground := Ground.phase }, { on := 11, ground := Ground.phase }, { on := 12, ground := Ground.textOnly Departure.lateStores }, { on := 13, ground := Ground.phase }, { on := 14, ground := Ground.phase }], guard := none }) (v := ?_) rfl (by kernel_rfl) (by kernel_rfl) (by kernel_rfl) (fun _ _ _ h => h) (Or.inl ⟨by rfl, fun w9 => by go_simp; try with_reducible rfl⟩) ?_
                (try simp only [Act.put, List.setIfInBounds_toArray, List.set_cons_zero, List.set_cons_succ])
                refine wpAny_take (i := 16) (oi := { dst := some 9, op := Op.assign (Operand.tmp 31), type := 25, pos := "subset.go:86", after := #[{ on := 12, ground := Ground.data }, { on := 15, ground := Ground.chain }, { on := 0, ground := Ground.phase }, { on := 1, ground := Ground.phase }, { on := 2, ground := Ground.phase }, { on := 3, ground := Ground.phase }, { on := 4, ground := Ground.phase }, { on := 5, ground := Ground.phase }, { on := 6, ground := Ground.phase }, { on := 7, ground := Ground.phase }, { on := 8, ground := Ground.phase }, { on := 9, ground := Ground.phase }, { on := 10, ground := Ground.phase }, { on := 11, ground := Ground.phase }, { on := 12, ground := Ground.phase }, { on := 13, ground := Ground.phase }, { on := 14, ground := Ground.phase }, { on := 15, ground := Ground.phase }], guard := none }) (v := ?_) rfl (by kernel_rfl) (by kernel_rfl) (by kernel_rfl) (fun _ _ _ h => h) (Or.inl ⟨by rfl, fun w9 => by go_simp; try with_reducible rfl⟩) ?_
                (try simp only [Act.put, List.setIfInBounds_toArray, List.set_cons_zero, List.set_cons_succ])
                refine wpAny_done (by kernel_rfl) ?_ _
                go_wp2_with fail
                go_meet
                first
                  | exact ⟨_, rfl, rfl, rfl, Lib.hid ⟨below_setRow ((BD.out.trans (HB9.out.mono BD.out.size)).alloc ((BD.out.trans (HB9.out.mono BD.out.size))).size _) ((BD.out.trans (HB9.out.mono BD.out.size))).size _, ((BD.out.trans (HB9.out.mono BD.out.size))).size, setRow_heap _ _ _ _ _ _ (hp_new _ _)⟩⟩
                  | exact ⟨_, rfl, rfl, rfl, Lib.hid ⟨below_setRow (BA.out.trans (HB9.out.mono BA.out.size)) (Nat.le_refl _) _, Nat.le_refl _, setRow_heap _ _ _ _ _ _ ((HB9.out.block _ (lt_of HGA.out)).trans HGA.out)⟩⟩
              exact AllReady.nil
            exact AllReady.nil
          exact AllReady.nil
        refine AllReady.cons (o := { dst := some 7, op := Op.alloc 177, type := 0, pos := "subset.go:86", after := #[], guard := none }) rfl (fun K hK => ?_) ?_
        · go_simp
          refine hK _ _ ?_
          clear hK K
          (try simp only [Act.put, List.setIfInBounds_toArray, List.set_cons_zero, List.set_cons_succ])
          refine wpAny_ready (rs := [3]) (by kernel_rfl) (by simp) ?_
          refine AllReady.cons (o := { dst := some 23, op := Op.load 22 (Operand.tmp 22), type := 22, pos := "subset.go:86", after := #[{ on := 2, ground := Ground.data }], guard := none }) rfl (fun K hK => ?_) ?_
          · go_simp
            refine hK _ _ ?_
            clear hK K
            (try simp only [Act.put, List.setIfInBounds_toArray, List.set_cons_zero, List.set_cons_succ])
            refine wpAny_ready (rs := [8]) (by kernel_rfl) (by simp) ?_
            refine AllReady.cons (o := { dst := some 28, op := Op.call { callee := Callee.value (Operand.func 73), args := #[Operand.tmp 23, Operand.tmp 27], argTypes := #[22, 3] }, type := 178, pos := "subset.go:86", after := #[{ on := 3, ground := Ground.data }, { on := 7, ground := Ground.data }], guard := none }) rfl (fun K hK => ?_) ?_
            · go_simp
              refine (CN2.out _ (by first | exact BD.out | exact BA.out)).mono ?_
              rintro e w9 ⟨rfl, hb9⟩
              have HB9 := Lib.hid hb9
              clear hb9
              dsimp only
              refine hK _ _ ?_
              clear hK K
              (try simp only [Act.put, List.setIfInBounds_toArray, List.set_cons_zero, List.set_cons_succ])
              refine wpAny_take (i := 9) (oi := { dst := some 19, op := Op.move (Operand.tmp 28), type := 178, pos := "subset.go:86", after := #[{ on := 8, ground := Ground.data }], guard := none }) (v := ?_) rfl (by kernel_rfl) (by kernel_rfl) (by kernel_rfl) (fun _ _ _ h => h) (Or.inl ⟨by rfl, fun w9 => by go_simp; try with_reducible rfl⟩) ?_
              (try simp only [Act.put, List.setIfInBounds_toArray, List.set_cons_zero, List.set_cons_succ])
              refine wpAny_take (i := 10) (oi := { dst := some 29, op := Op.extract (Operand.tmp 19) 0, type := 177, pos := "subset.go:86", after := #[{ on := 9, ground := Ground.data }], guard := none }) (v := ?_) rfl (by kernel_rfl) (by kernel_rfl) (by kernel_rfl) (fun _ _ _ h => h) (Or.inl ⟨by rfl, fun w9 => by go_simp; try with_reducible rfl⟩) ?_
              (try simp only [Act.put, List.setIfInBounds_toArray, List.set_cons_zero, List.set_cons_succ])
              refine wpAny_take (i := 11) (oi := { dst := some 30, op := Op.extract (Operand.tmp 19) 1, type := 3, pos := "subset.go:86", after := #[{ on := 9, ground := Ground.data }, { on := 14, ground := Ground.gcOnly Departure.lateStores }], guard := none }) (v := ?_) rfl (by kernel_rfl) (by kernel_rfl) (by kernel_rfl) (fun _ _ _ h => h) (Or.inl ⟨by rfl, fun w9 => by go_simp; try with_reducible rfl⟩) ?_
              (try simp only [Act.put, List.setIfInBounds_toArray, List.set_cons_zero, List.set_cons_succ])
              refine wpAny_take (i := 12) (oi := { dst := some 31, op := Op.extract (Operand.tmp 19) 2, type := 25, pos := "subset.go:86", after := #[{ on := 9, ground := Ground.data }, { on := 15, ground := Ground.gcOnly Departure.lateStores }], guard := none }) (v := ?_) rfl (by kernel_rfl) (by kernel_rfl) (by kernel_rfl) (fun _ _ _ h => h) (Or.inl ⟨by rfl, fun w9 => by go_simp; try with_reducible rfl⟩) ?_
              (try simp only [Act.put, List.setIfInBounds_toArray, List.set_cons_zero, List.set_cons_succ])
              refine wpAny_ready (rs := [14]) (by kernel_rfl) (by simp) ?_
              refine AllReady.cons (o := { dst := none, op := Op.store 177 (Operand.tmp 7) (Operand.tmp 29), type := 0, pos := "subset.go:86", after := #[{ on := 13, ground := Ground.data }, { on := 10, ground := Ground.data }, { on := 8, ground := Ground.chain }, { on := 0, ground := Ground.phase }, { on := 1, ground := Ground.phase }, { on := 2, ground := Ground.phase }, { on := 3, ground := Ground.phase }, { on := 4, ground := Ground.phase }, { on := 5, ground := Ground.phase }, { on := 6, ground := Ground.phase }, { on := 7, ground := Ground.phase }, { on := 8, ground := Ground.phase }, { on := 9, ground := Ground.phase }, { on := 10, ground := Ground.phase }, { on := 11, ground := Ground.textOnly Departure.lateStores }, { on := 12, ground := Ground.textOnly Departure.lateStores }, { on := 13, ground := Ground.phase }], guard := none }) rfl (fun K hK => ?_) ?_
              · refine step_op rfl (wp_store_row 177 (.tmp 7) (.tmp 29) rfl _ #[.int .i64 (KD : Nat), .string ⟨nm.toArray⟩, .bool false, .string ⟨#[]⟩, .string ⟨#[]⟩, .bool false, .string ⟨#[]⟩, .string ⟨#[]⟩, .string ⟨#[]⟩, .slice none 0 0, .string ⟨#[]⟩, .string ⟨#[]⟩, .string ⟨tx.toArray⟩] rfl rfl _ _ (by first | exact hp_new _ _ | exact (HB9.out.block _ (lt_of HGA.out)).trans HGA.out) (HU.out.1.trans rfl) (by rfl) (by kernel_rfl) ?_)
                refine hK _ _ ?_
                clear hK K
                (try simp only [Act.put, List.setIfInBounds_toArray, List.set_cons_zero, List.set_cons_succ])
                refine wpAny_take (i := 15) (oi := { dst := some 8, op := Op.assign (Operand.tmp 30), type := 3, pos := "subset.go:86", after := #[{ on := 11, ground := Ground.data }, { on := 14, ground := Ground.chain }, { on := 0, ground := Ground.phase }, { on := 1, ground := Ground.phase }, { on := 2, ground := Ground.phase }, { on := 3, ground := Ground.phase }, { on := 4, ground := Ground.phase }, { on := 5, ground := Ground.phase }, { on := 6, ground := Ground.phase }, { on := 7, ground := Ground.phase }, { on := 8, ground := Ground.phase }, { on := 9, ground := Ground.phase }, { on := 10, ground := Ground.phase }, { on := 11, ground := Ground.phase }, { on := 12, ground := Ground.textOnly Departure.lateStores }, { on := 13, ground := Ground.phase }, { on := 14, ground := Ground.phase }], guard := none }) (v := ?_) rfl (by kernel_rfl) (by kernel_rfl) (by kernel_rfl) (fun _ _ _ h => h) (Or.inl ⟨by rfl, fun w9 => by go_simp; try with_reducible rfl⟩) ?_
                (try simp only [Act.put, List.setIfInBounds_toArray, List.set_cons_zero, List.set_cons_succ])
                refine wpAny_take (i := 16) (oi := { dst := some 9, op := Op.assign (Operand.tmp 31), type := 25, pos := "subset.go:86", after := #[{ on := 12, ground := Ground.data }, { on := 15, ground := Ground.chain }, { on := 0, ground := Ground.phase }, { on := 1, ground := Ground.phase }, { on := 2, ground := Ground.phase }, { on := 3, ground := Ground.phase }, { on := 4, ground := Ground.phase }, { on := 5, ground := Ground.phase }, { on := 6, ground := Ground.phase }, { on := 7, ground := Ground.phase }, { on := 8, ground := Ground.phase }, { on := 9, ground := Ground.phase }, { on := 10, ground := Ground.phase }, { on := 11, ground := Ground.phase }, { on := 12, ground := Ground.phase }, { on := 13, ground := Ground.phase }, { on := 14, ground := Ground.phase }, { on := 15, ground := Ground.phase }], guard := none }) (v := ?_) rfl (by kernel_rfl) (by kernel_rfl) (by kernel_rfl) (fun _ _ _ h => h) (Or.inl ⟨by rfl, fun w9 => by go_simp; try with_reducible rfl⟩) ?_
                (try simp only [Act.put, List.setIfInBounds_toArray, List.set_cons_zero, List.set_cons_succ])
                refine wpAny_done (by kernel_rfl) ?_ _
                go_wp2_with fail
                go_meet
                first
                  | exact ⟨_, rfl, rfl, rfl, Lib.hid ⟨below_setRow ((BD.out.trans (HB9.out.mono BD.out.size)).alloc ((BD.out.trans (HB9.out.mono BD.out.size))).size _) ((BD.out.trans (HB9.out.mono BD.out.size))).size _, ((BD.out.trans (HB9.out.mono BD.out.size))).size, setRow_heap _ _ _ _ _ _ (hp_new _ _)⟩⟩
                  | exact ⟨_, rfl, rfl, rfl, Lib.hid ⟨below_setRow (BA.out.trans (HB9.out.mono BA.out.size)) (Nat.le_refl _) _, Nat.le_refl _, setRow_heap _ _ _ _ _ _ ((HB9.out.block _ (lt_of HGA.out)).trans HGA.out)⟩⟩
              exact AllReady.nil
            exact AllReady.nil
          exact AllReady.nil
        exact AllReady.nil
      refine AllReady.cons (o := { dst := some 7, op := Op.alloc 177, type := 0, pos := "subset.go:86", after := #[], guard := none }) rfl (fun K hK => ?_) ?_
      · go_simp
        refine hK _ _ ?_
        clear hK K
        (try simp only [Act.put, List.setIfInBounds_toArray, List.set_cons_zero, List.set_cons_succ])
        refine wpAny_ready (rs := [3, 7]) (by kernel_rfl) (by simp) ?_
        refine AllReady.cons (o := { dst := some 23, op := Op.load 22 (Operand.tmp 22), type := 22, pos := "subset.go:86", after := #[{ on := 2, ground := Ground.data }], guard := none }) rfl (fun K hK => ?_) ?_
        · go_simp
          refine hK _ _ ?_
          clear hK K
          (try simp only [Act.put, List.setIfInBounds_toArray, List.set_cons_zero, List.set_cons_succ])
          refine wpAny_ready (rs := [7]) (by kernel_rfl) (by simp) ?_
          refine AllReady.cons (o := { dst := some 27, op := Op.load 3 (Operand.tmp 26), type := 3, pos := "subset.go:86", after := #[{ on := 6, ground := Ground.data }], guard := none }) rfl (fun K hK => ?_) ?_
          · go_simp
            refine hK _ _ ?_
            clear hK K
            (try simp only [Act.put, List.setIfInBounds_toArray, List.set_cons_zero, List.set_cons_succ])
            refine wpAny_ready (rs := [8]) (by kernel_rfl) (by simp) ?_
            refine AllReady.cons (o := { dst := some 28, op := Op.call { callee := Callee.value (Operand.func 73), args := #[Operand.tmp 23, Operand.tmp 27], argTypes := #[22, 3] }, type := 178, pos := "subset.go:86", after := #[{ on := 3, ground := Ground.data }, { on := 7, ground := Ground.data }], guard := none }) rfl (fun K hK => ?_) ?_
            · go_simp
              refine (CN2.out _ (by first | exact BD.out | exact BA.out)).mono ?_
              rintro e w9 ⟨rfl, hb9⟩
              have HB9 := Lib.hid hb9
              clear hb9
              dsimp only
              refine hK _ _ ?_
              clear hK K
              (try simp only [Act.put, List.setIfInBounds_toArray, List.set_cons_zero, List.set_cons_succ])
              refine wpAny_take (i := 9) (oi := { dst := some 19, op := Op.move (Operand.tmp 28), type := 178, pos := "subset.go:86", after := #[{ on := 8, ground := Ground.data }], guard := none }) (v := ?_) rfl (by kernel_rfl) (by kernel_rfl) (by kernel_rfl) (fun _ _ _ h => h) (Or.inl ⟨by rfl, fun w9 => by go_simp; try with_reducible rfl⟩) ?_
              (try simp only [Act.put, List.setIfInBounds_toArray, List.set_cons_zero, List.set_cons_succ])
              refine wpAny_take (i := 10) (oi := { dst := some 29, op := Op.extract (Operand.tmp 19) 0, type := 177, pos := "subset.go:86", after := #[{ on := 9, ground := Ground.data }], guard := none }) (v := ?_) rfl (by kernel_rfl) (by kernel_rfl) (by kernel_rfl) (fun _ _ _ h => h) (Or.inl ⟨by rfl, fun w9 => by go_simp; try with_reducible rfl⟩) ?_
              (try simp only [Act.put, List.setIfInBounds_toArray, List.set_cons_zero, List.set_cons_succ])
              refine wpAny_take (i := 11) (oi := { dst := some 30, op := Op.extract (Operand.tmp 19) 1, type := 3, pos := "subset.go:86", after := #[{ on := 9, ground := Ground.data }, { on := 14, ground := Ground.gcOnly Departure.lateStores }], guard := none }) (v := ?_) rfl (by kernel_rfl) (by kernel_rfl) (by kernel_rfl) (fun _ _ _ h => h) (Or.inl ⟨by rfl, fun w9 => by go_simp; try with_reducible rfl⟩) ?_
              (try simp only [Act.put, List.setIfInBounds_toArray, List.set_cons_zero, List.set_cons_succ])
              refine wpAny_take (i := 12) (oi := { dst := some 31, op := Op.extract (Operand.tmp 19) 2, type := 25, pos := "subset.go:86", after := #[{ on := 9, ground := Ground.data }, { on := 15, ground := Ground.gcOnly Departure.lateStores }], guard := none }) (v := ?_) rfl (by kernel_rfl) (by kernel_rfl) (by kernel_rfl) (fun _ _ _ h => h) (Or.inl ⟨by rfl, fun w9 => by go_simp; try with_reducible rfl⟩) ?_
              (try simp only [Act.put, List.setIfInBounds_toArray, List.set_cons_zero, List.set_cons_succ])
              refine wpAny_ready (rs := [14]) (by kernel_rfl) (by simp) ?_
              refine AllReady.cons (o := { dst := none, op := Op.store 177 (Operand.tmp 7) (Operand.tmp 29), type := 0, pos := "subset.go:86", after := #[{ on := 13, ground := Ground.data }, { on := 10, ground := Ground.data }, { on := 8, ground := Ground.chain }, { on := 0, ground := Ground.phase }, { on := 1, ground := Ground.phase }, { on := 2, ground := Ground.phase }, { on := 3, ground := Ground.phase }, { on := 4, ground := Ground.phase }, { on := 5, ground := Ground.phase }, { on := 6, ground := Ground.phase }, { on := 7, ground := Ground.phase }, { on := 8, ground := Ground.phase }, { on := 9, ground := Ground.phase }, { on := 10, ground := Ground.phase }, { on := 11, ground := Ground.textOnly Departure.lateStores }, { on := 12, ground := Ground.textOnly Departure.lateStores }, { on := 13, ground := Ground.phase }], guard := none }) rfl (fun K hK => ?_) ?_
              · refine step_op rfl (wp_store_row 177 (.tmp 7) (.tmp 29) rfl _ #[.int .i64 (KD : Nat), .string ⟨nm.toArray⟩, .bool false, .string ⟨#[]⟩, .string ⟨#[]⟩, .bool false, .string ⟨#[]⟩, .string ⟨#[]⟩, .string ⟨#[]⟩, .slice none 0 0, .string ⟨#[]⟩, .string ⟨#[]⟩, .string ⟨tx.toArray⟩] rfl rfl _ _ (by first | exact hp_new _ _ | exact (HB9.out.block _ (lt_of HGA.out)).trans HGA.out) (HU.out.1.trans rfl) (by rfl) (by kernel_rfl) ?_)
                refine hK _ _ ?_
                clear hK K
                (try simp only [Act.put, List.setIfInBounds_toArray, List.set_cons_zero, List.set_cons_succ])
                refine wpAny_take (i := 15) (oi := { dst := some 8, op := Op.assign (Operand.tmp 30), type := 3, pos := "subset.go:86", after := #[{ on := 11, ground := Ground.data }, { on := 14, ground := Ground.chain }, { on := 0, ground := Ground.phase }, { on := 1, ground := Ground.phase }, { on := 2, ground := Ground.phase }, { on := 3, ground := Ground.phase }, { on := 4, ground := Ground.phase }, { on := 5, ground := Ground.phase }, { on := 6, ground := Ground.phase }, { on := 7, ground := Ground.phase }, { on := 8, ground := Ground.phase }, { on := 9, ground := Ground.phase }, { on := 10, ground := Ground.phase }, { on := 11, ground := Ground.phase }, { on := 12, ground := Ground.textOnly Departure.lateStores }, { on := 13, ground := Ground.phase }, { on := 14, ground := Ground.phase }], guard := none }) (v := ?_) rfl (by kernel_rfl) (by kernel_rfl) (by kernel_rfl) (fun _ _ _ h => h) (Or.inl ⟨by rfl, fun w9 => by go_simp; try with_reducible rfl⟩) ?_
                (try simp only [Act.put, List.setIfInBounds_toArray, List.set_cons_zero, List.set_cons_succ])
                refine wpAny_take (i := 16) (oi := { dst := some 9, op := Op.assign (Operand.tmp 31), type := 25, pos := "subset.go:86", after := #[{ on := 12, ground := Ground.data }, { on := 15, ground := Ground.chain }, { on := 0, ground := Ground.phase }, { on := 1, ground := Ground.phase }, { on := 2, ground := Ground.phase }, { on := 3, ground := Ground.phase }, { on := 4, ground := Ground.phase }, { on := 5, ground := Ground.phase }, { on := 6, ground := Ground.phase }, { on := 7, ground := Ground.phase }, { on := 8, ground := Ground.phase }, { on := 9, ground := Ground.phase }, { on := 10, ground := Ground.phase }, { on := 11, ground := Ground.phase }, { on := 12, ground := Ground.phase }, { on := 13, ground := Ground.phase }, { on := 14, ground := Ground.phase }, { on := 15, ground := Ground.phase }], guard := none }) (v := ?_) rfl (by kernel_rfl) (by kernel_rfl) (by kernel_rfl) (fun _ _ _ h => h) (Or.inl ⟨by rfl, fun w9 => by go_simp; try with_reducible rfl⟩) ?_
                (try simp only [Act.put, List.setIfInBounds_toArray, List.set_cons_zero, List.set_cons_succ])
                refine wpAny_done (by kernel_rfl) ?_ _
                go_wp2_with fail
                go_meet
                first
                  | exact ⟨_, rfl, rfl, rfl, Lib.hid ⟨below_setRow ((BD.out.trans (HB9.out.mono BD.out.size)).alloc ((BD.out.trans (HB9.out.mono BD.out.size))).size _) ((BD.out.trans (HB9.out.mono BD.out.size))).size _, ((BD.out.trans (HB9.out.mono BD.out.size))).size, setRow_heap _ _ _ _ _ _ (hp_new _ _)⟩⟩
                  | exact ⟨_, rfl, rfl, rfl, Lib.hid ⟨below_setRow (BA.out.trans (HB9.out.mono BA.out.size)) (Nat.le_refl _) _, Nat.le_refl _, setRow_heap _ _ _ _ _ _ ((HB9.out.block _ (lt_of HGA.out)).trans HGA.out)⟩⟩
              exact AllReady.nil
            exact AllReady.nil
          exact AllReady.nil
        refine AllReady.cons (o := { dst := some 27, op := Op.load 3 (Operand.tmp 26), type := 3, pos := "subset.go:86", after := #[{ on := 6, ground := Ground.data }], guard := none }) rfl (fun K hK => ?_) ?_
        · go_simp
          refine hK _ _ ?_
          clear hK K
          (try simp only [Act.put, List.setIfInBounds_toArray, List.set_cons_zero, List.set_cons_succ])
          refine wpAny_ready (rs := [3]) (by kernel_rfl) (by simp) ?_
          refine AllReady.cons (o := { dst := some 23, op := Op.load 22 (Operand.tmp 22), type := 22, pos := "subset.go:86", after := #[{ on := 2, ground := Ground.data }], guard := none }) rfl (fun K hK => ?_) ?_
          · go_simp
            refine hK _ _ ?_
            clear hK K
            (try simp only [Act.put, List.setIfInBounds_toArray, List.set_cons_zero, List.set_cons_succ])
            refine wpAny_ready (rs := [8]) (by kernel_rfl) (by simp) ?_
            refine AllReady.cons (o := { dst := some 28, op := Op.call { callee := Callee.value (Operand.func 73), args := #[Operand.tmp 23, Operand.tmp 27], argTypes := #[22, 3] }, type := 178, pos := "subset.go:86", after := #[{ on := 3, ground := Ground.data }, { on := 7, ground := Ground.data }], guard := none }) rfl (fun K hK => ?_) ?_
            · go_simp
              refine (CN2.out _ (by first | exact BD.out | exact BA.out)).mono ?_
              rintro e w9 ⟨rfl, hb9⟩
              have HB9 := Lib.hid hb9
              clear hb9
              dsimp only
              refine hK _ _ ?_
              clear hK K
              (try simp only [Act.put, List.setIfInBounds_toArray, List.set_cons_zero, List.set_cons_succ])
              refine wpAny_take (i := 9) (oi := { dst := some 19, op := Op.move (Operand.tmp 28), type := 178, pos := "subset.go:86", after := #[{ on := 8, ground := Ground.data }], guard := none }) (v := ?_) rfl (by kernel_rfl) (by kernel_rfl) (by kernel_rfl) (fun _ _ _ h => h) (Or.inl ⟨by rfl, fun w9 => by go_simp; try with_reducible rfl⟩) ?_
              (try simp only [Act.put, List.setIfInBounds_toArray, List.set_cons_zero, List.set_cons_succ])
              refine wpAny_take (i := 10) (oi := { dst := some 29, op := Op.extract (Operand.tmp 19) 0, type := 177, pos := "subset.go:86", after := #[{ on := 9, ground := Ground.data }], guard := none }) (v := ?_) rfl (by kernel_rfl) (by kernel_rfl) (by kernel_rfl) (fun _ _ _ h => h) (Or.inl ⟨by rfl, fun w9 => by go_simp; try with_reducible rfl⟩) ?_
              (try simp only [Act.put, List.setIfInBounds_toArray, List.set_cons_zero, List.set_cons_succ])
              refine wpAny_take (i := 11) (oi := { dst := some 30, op := Op.extract (Operand.tmp 19) 1, type := 3, pos := "subset.go:86", after := #[{ on := 9, ground := Ground.data }, { on := 14, ground := Ground.gcOnly Departure.lateStores }], guard := none }) (v := ?_) rfl (by kernel_rfl) (by kernel_rfl) (by kernel_rfl) (fun _ _ _ h => h) (Or.inl ⟨by rfl, fun w9 => by go_simp; try with_reducible rfl⟩) ?_
              (try simp only [Act.put, List.setIfInBounds_toArray, List.set_cons_zero, List.set_cons_succ])
              refine wpAny_take (i := 12) (oi := { dst := some 31, op := Op.extract (Operand.tmp 19) 2, type := 25, pos := "subset.go:86", after := #[{ on := 9, ground := Ground.data }, { on := 15, ground := Ground.gcOnly Departure.lateStores }], guard := none }) (v := ?_) rfl (by kernel_rfl) (by kernel_rfl) (by kernel_rfl) (fun _ _ _ h => h) (Or.inl ⟨by rfl, fun w9 => by go_simp; try with_reducible rfl⟩) ?_
              (try simp only [Act.put, List.setIfInBounds_toArray, List.set_cons_zero, List.set_cons_succ])
              refine wpAny_ready (rs := [14]) (by kernel_rfl) (by simp) ?_
              refine AllReady.cons (o := { dst := none, op := Op.store 177 (Operand.tmp 7) (Operand.tmp 29), type := 0, pos := "subset.go:86", after := #[{ on := 13, ground := Ground.data }, { on := 10, ground := Ground.data }, { on := 8, ground := Ground.chain }, { on := 0, ground := Ground.phase }, { on := 1, ground := Ground.phase }, { on := 2, ground := Ground.phase }, { on := 3, ground := Ground.phase }, { on := 4, ground := Ground.phase }, { on := 5, ground := Ground.phase }, { on := 6, ground := Ground.phase }, { on := 7, ground := Ground.phase }, { on := 8, ground := Ground.phase }, { on := 9, ground := Ground.phase }, { on := 10, ground := Ground.phase }, { on := 11, ground := Ground.textOnly Departure.lateStores }, { on := 12, ground := Ground.textOnly Departure.lateStores }, { on := 13, ground := Ground.phase }], guard := none }) rfl (fun K hK => ?_) ?_
              · refine step_op rfl (wp_store_row 177 (.tmp 7) (.tmp 29) rfl _ #[.int .i64 (KD : Nat), .string ⟨nm.toArray⟩, .bool false, .string ⟨#[]⟩, .string ⟨#[]⟩, .bool false, .string ⟨#[]⟩, .string ⟨#[]⟩, .string ⟨#[]⟩, .slice none 0 0, .string ⟨#[]⟩, .string ⟨#[]⟩, .string ⟨tx.toArray⟩] rfl rfl _ _ (by first | exact hp_new _ _ | exact (HB9.out.block _ (lt_of HGA.out)).trans HGA.out) (HU.out.1.trans rfl) (by rfl) (by kernel_rfl) ?_)
                refine hK _ _ ?_
                clear hK K
                (try simp only [Act.put, List.setIfInBounds_toArray, List.set_cons_zero, List.set_cons_succ])
                refine wpAny_take (i := 15) (oi := { dst := some 8, op := Op.assign (Operand.tmp 30), type := 3, pos := "subset.go:86", after := #[{ on := 11, ground := Ground.data }, { on := 14, ground := Ground.chain }, { on := 0, ground := Ground.phase }, { on := 1, ground := Ground.phase }, { on := 2, ground := Ground.phase }, { on := 3, ground := Ground.phase }, { on := 4, ground := Ground.phase }, { on := 5, ground := Ground.phase }, { on := 6, ground := Ground.phase }, { on := 7, ground := Ground.phase }, { on := 8, ground := Ground.phase }, { on := 9, ground := Ground.phase }, { on := 10, ground := Ground.phase }, { on := 11, ground := Ground.phase }, { on := 12, ground := Ground.textOnly Departure.lateStores }, { on := 13, ground := Ground.phase }, { on := 14, ground := Ground.phase }], guard := none }) (v := ?_) rfl (by kernel_rfl) (by kernel_rfl) (by kernel_rfl) (fun _ _ _ h => h) (Or.inl ⟨by rfl, fun w9 => by go_simp; try with_reducible rfl⟩) ?_
                (try simp only [Act.put, List.setIfInBounds_toArray, List.set_cons_zero, List.set_cons_succ])
                refine wpAny_take (i := 16) (oi := { dst := some 9, op := Op.assign (Operand.tmp 31), type := 25, pos := "subset.go:86", after := #[{ on := 12, ground := Ground.data }, { on := 15, ground := Ground.chain }, { on := 0, ground := Ground.phase }, { on := 1, ground := Ground.phase }, { on := 2, ground := Ground.phase }, { on := 3, ground := Ground.phase }, { on := 4, ground := Ground.phase }, { on := 5, ground := Ground.phase }, { on := 6, ground := Ground.phase }, { on := 7, ground := Ground.phase }, { on := 8, ground := Ground.phase }, { on := 9, ground := Ground.phase }, { on := 10, ground := Ground.phase }, { on := 11, ground := Ground.phase }, { on := 12, ground := Ground.phase }, { on := 13, ground := Ground.phase }, { on := 14, ground := Ground.phase }, { on := 15, ground := Ground.phase }], guard := none }) (v := ?_) rfl (by kernel_rfl) (by kernel_rfl) (by kernel_rfl) (fun _ _ _ h => h) (Or.inl ⟨by rfl, fun w9 => by go_simp; try with_reducible rfl⟩) ?_
                (try simp only [Act.put, List.setIfInBounds_toArray, List.set_cons_zero, List.set_cons_succ])
                refine wpAny_done (by kernel_rfl) ?_ _
                go_wp2_with fail
                go_meet
                first
                  | exact ⟨_, rfl, rfl, rfl, Lib.hid ⟨below_setRow ((BD.out.trans (HB9.out.mono BD.out.size)).alloc ((BD.out.trans (HB9.out.mono BD.out.size))).size _) ((BD.out.trans (HB9.out.mono BD.out.size))).size _, ((BD.out.trans (HB9.out.mono BD.out.size))).size, setRow_heap _ _ _ _ _ _ (hp_new _ _)⟩⟩
                  | exact ⟨_, rfl, rfl, rfl, Lib.hid ⟨below_setRow (BA.out.trans (HB9.out.mono BA.out.size)) (Nat.le_refl _) _, Nat.le_refl _, setRow_heap _ _ _ _ _ _ ((HB9.out.block _ (lt_of HGA.out)).trans HGA.out)⟩⟩
              exact AllReady.nil
            exact AllReady.nil
          exact AllReady.nil
        exact AllReady.nil
      exact AllReady.nil
    obtain ⟨g9, rfl, rfl, rfl, HX⟩ := hcut
    have J4 := HJ.out.kept HX.out.1
    have hX4 := J4.2.2.1
    have x2 : wc.cell? ⟨X, 2, none⟩ = some (.int .i64 (k : Nat)) := by rw [cell_of 2 hX4]; rfl
    have x2f := free_of 2 hX4
    obtain ⟨W5, hW5⟩ : ∃ W5, wc.setCell ⟨X, 2, none⟩ (.int .i64 (nx : Nat)) = W5 := ⟨_, rfl⟩
    have J5 : Hid (SbJ w0 R X S room #[.pointer (some ⟨tb, 0, none⟩), gv, mv, .pointer (some ⟨S, 0, none⟩)] A n cap nx W5) := Lib.hid (by rw [← hW5]; exact J4.put HB.out.2.2.2 nx)
    have hg5 : W5.heap[g9]? = some (.cells #[.int .i64 (KD : Nat), .string ⟨nm.toArray⟩, .bool false, .string ⟨#[]⟩, .string ⟨#[]⟩, .bool false, .string ⟨#[]⟩, .string ⟨#[]⟩, .string ⟨#[]⟩, .slice none 0 0, .string ⟨#[]⟩, .string ⟨#[]⟩, .string ⟨tx.toArray⟩] 177) := by
      rw [← hW5, hp_other (by have := HX.out.2.1; have := lt_of HJ.out.2.2.1; omega)]
      exact HX.out.2.2
    have z0 : W5.cell? ⟨g9, 0, none⟩ = some (.int .i64 (KD : Nat)) := by rw [cell_of 0 hg5]; rfl
    have HG5 := Lib.hid hg5
    clear J4 hX4 hg5 CN2
    rcases HC.out with ⟨rfl, rfl, ht3⟩ | ⟨hkd, hE2, hkn, hnn⟩
    · have CE := Lib.hid (sbEnd_c R X S room A n cap nx (.pointer (some ⟨tb, 0, none⟩)) gv mv (.int .i64 (nx : Nat)) W5 J5.out.2.1 J5.out.2.2.1 J5.out.2.2.2 ht3 (by omega))
      clear HC ht3 hg
      go_wp2_with fail
      refine CE.out.mono ?_
      rintro e w6 ⟨rfl, rfl⟩
      clear CE
      go_wp2
      rw [Exit.noGoto_ret]
      go_ret2
      exact ⟨rfl, J5.out.1⟩
    · have hk0 : ((KD : Int) == 0) = false := by rcases hkd with rfl | rfl <;> rfl
      have hk7 : ((KD : Int) == 7) = false := by rcases hkd with rfl | rfl <;> rfl
      have HNX := Lib.hid (And.intro hE2 (And.intro hkn hnn))
      have CAd : Hid (Calls Tryz.prog 76 #[.pointer (some ⟨tb, 0, none⟩), .agg #[.int .i64 (KD : Nat), .string ⟨nm.toArray⟩, .bool false, .string ⟨#[]⟩, .string ⟨#[]⟩, .bool false, .string ⟨#[]⟩, .string ⟨#[]⟩, .string ⟨#[]⟩, .slice none 0 0, .string ⟨#[]⟩, .string ⟨#[]⟩, .string ⟨tx.toArray⟩]] W5.drew fun e w' => e = .returned (.int .i64 0) ∧ Below W5.drew.heap.size W5.drew w') := Lib.hid (tabAdd_c tb (KD : Nat) nm tx (by omega) W5.drew)
      have r0 : W5.drew.cell? ⟨R, 0, none⟩ = some (.pointer (some ⟨tb, 0, none⟩)) := by rw [cell_of (w := W5.drew) 0 J5.out.2.1]; rfl
      have rg : Hid (W5.drew.rangeAt g9 0 #[.int .i64 (KD : Nat), .string ⟨nm.toArray⟩, .bool false, .string ⟨#[]⟩, .string ⟨#[]⟩, .bool false, .string ⟨#[]⟩, .string ⟨#[]⟩, .string ⟨#[]⟩, .slice none 0 0, .string ⟨#[]⟩, .string ⟨#[]⟩, .string ⟨tx.toArray⟩].toList) := Lib.hid (rangeAt_of (w := W5.drew) HG5.out 0 13 (Nat.le_refl 13))
      clear HC hkd hE2 hkn hnn
      go_wp2_with fail
      refine wp_region_drew (by kernel_rfl) ?_
      refine wpAny_take (i := 0) (oi := { dst := some 41, op := Op.move (Operand.tmp 0), type := 129, pos := "subset.go:101", after := #[], guard := none }) (v := ?_) rfl (by kernel_rfl) (by kernel_rfl) (by kernel_rfl) (fun _ _ _ h => h) (Or.inl ⟨by rfl, fun w9 => by go_simp; try with_reducible rfl⟩) ?_
      (try simp only [Act.put, List.setIfInBounds_toArray, List.set_cons_zero, List.set_cons_succ])
      refine wpAny_take (i := 1) (oi := { dst := some 42, op := Op.nilCheck (Operand.tmp 41), type := 0, pos := "subset.go:101", after := #[{ on := 0, ground := Ground.data }], guard := none }) (v := ?_) rfl (by kernel_rfl) (by kernel_rfl) (by kernel_rfl) (fun _ _ _ h => h) (Or.inl ⟨by rfl, fun w9 => by go_simp; try with_reducible rfl⟩) ?_
      (try simp only [Act.put, List.setIfInBounds_toArray, List.set_cons_zero, List.set_cons_succ])
      refine wpAny_take (i := 2) (oi := { dst := some 43, op := Op.fieldAddr 131 (Operand.tmp 42) 0, type := 0, pos := "subset.go:101", after := #[{ on := 1, ground := Ground.data }], guard := none }) (v := ?_) rfl (by kernel_rfl) (by kernel_rfl) (by kernel_rfl) (fun _ _ _ h => h) (Or.inl ⟨by rfl, fun w9 => by go_simp; try with_reducible rfl⟩) ?_
      (try simp only [Act.put, List.setIfInBounds_toArray, List.set_cons_zero, List.set_cons_succ])
      refine wpAny_ready (rs := [3, 4]) (by kernel_rfl) (by simp) ?_
      refine AllReady.cons (o := { dst := some 44, op := Op.load 32 (Operand.tmp 43), type := 32, pos := "subset.go:101", after := #[{ on := 2, ground := Ground.data }], guard := none }) rfl (fun K hK => ?_) ?_
      · go_simp
        refine hK _ _ ?_
        clear hK K
        (try simp only [Act.put, List.setIfInBounds_toArray, List.set_cons_zero, List.set_cons_succ])
        refine wpAny_ready (rs := [4]) (by kernel_rfl) (by simp) ?_
        refine AllReady.cons (o := { dst := some 45, op := Op.load 177 (Operand.tmp 7), type := 177, pos := "subset.go:101", after := #[], guard := none }) rfl (fun K hK => ?_) ?_
        · refine step_op rfl (wp_load_mid 177 (.tmp 7) rfl g9 0 rfl _ _ rg.out HU.out.2 rfl (HU.out.1.trans rfl) ?_)
          refine hK _ _ ?_
          clear hK K
          (try simp only [Act.put, List.setIfInBounds_toArray, List.set_cons_zero, List.set_cons_succ])
          refine wpAny_ready (rs := [5]) (by kernel_rfl) (by simp) ?_
          refine AllReady.cons (o := { dst := some 46, op := Op.call { callee := Callee.value (Operand.func 76), args := #[Operand.tmp 44, Operand.tmp 45], argTypes := #[32, 177] }, type := 25, pos := "subset.go:101", after := #[{ on := 3, ground := Ground.data }, { on := 4, ground := Ground.data }], guard := none }) rfl (fun K hK => ?_) ?_
          · go_simp
            refine CAd.out.mono ?_
            rintro e w9 ⟨rfl, hb9⟩
            have HJ9 := Lib.hid ((J5.out.kept (Below.refl _ _).drew).kept hb9)
            clear hb9
            dsimp only
            refine hK _ _ ?_
            clear hK K
            (try simp only [Act.put, List.setIfInBounds_toArray, List.set_cons_zero, List.set_cons_succ])
            refine wpAny_done (by kernel_rfl) ?_ _
            go_wp2
            go_roundg (n - nx)
            case measure => have := hg.out; have := HNX.out; omega
            case rel => exact ⟨nx, HNX.out.2.2, Lib.hid (by have := hg.out; have := HNX.out; omega), Lib.hid HNX.out.1, HJ9⟩
          exact AllReady.nil
        exact AllReady.nil
      refine AllReady.cons (o := { dst := some 45, op := Op.load 177 (Operand.tmp 7), type := 177, pos := "subset.go:101", after := #[], guard := none }) rfl (fun K hK => ?_) ?_
      · refine step_op rfl (wp_load_mid 177 (.tmp 7) rfl g9 0 rfl _ _ rg.out HU.out.2 rfl (HU.out.1.trans rfl) ?_)
        refine hK _ _ ?_
        clear hK K
        (try simp only [Act.put, List.setIfInBounds_toArray, List.set_cons_zero, List.set_cons_succ])
        refine wpAny_ready (rs := [3]) (by kernel_rfl) (by simp) ?_
        refine AllReady.cons (o := { dst := some 44, op := Op.load 32 (Operand.tmp 43), type := 32, pos := "subset.go:101", after := #[{ on := 2, ground := Ground.data }], guard := none }) rfl (fun K hK => ?_) ?_
        · go_simp
          refine hK _ _ ?_
          clear hK K
          (try simp only [Act.put, List.setIfInBounds_toArray, List.set_cons_zero, List.set_cons_succ])
          refine wpAny_ready (rs := [5]) (by kernel_rfl) (by simp) ?_
          refine AllReady.cons (o := { dst := some 46, op := Op.call { callee := Callee.value (Operand.func 76), args := #[Operand.tmp 44, Operand.tmp 45], argTypes := #[32, 177] }, type := 25, pos := "subset.go:101", after := #[{ on := 3, ground := Ground.data }, { on := 4, ground := Ground.data }], guard := none }) rfl (fun K hK => ?_) ?_
          · go_simp
            refine CAd.out.mono ?_
            rintro e w9 ⟨rfl, hb9⟩
            have HJ9 := Lib.hid ((J5.out.kept (Below.refl _ _).drew).kept hb9)
            clear hb9
            dsimp only
            refine hK _ _ ?_
            clear hK K
            (try simp only [Act.put, List.setIfInBounds_toArray, List.set_cons_zero, List.set_cons_succ])
            refine wpAny_done (by kernel_rfl) ?_ _
            go_wp2
            go_roundg (n - nx)
            case measure => have := hg.out; have := HNX.out; omega
            case rel => exact ⟨nx, HNX.out.2.2, Lib.hid (by have := hg.out; have := HNX.out; omega), Lib.hid HNX.out.1, HJ9⟩
          exact AllReady.nil
        exact AllReady.nil
      exact AllReady.nil
end Go.Proofs.YtgenpgfhjhcahaaGreatDoor
