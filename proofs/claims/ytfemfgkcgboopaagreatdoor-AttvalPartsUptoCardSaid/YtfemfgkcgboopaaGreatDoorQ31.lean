/- Texts of ours, joined: GsV, GsV2, GsW, GsF, GsG, GsH. -/
import Derived.Test.YtfemfgkcgboopaaGreatDoorRows
import Derived.WalkKit
import Derived.ProofKit
import Derived.OpenShut
import Derived.ShutString
import Derived.ChangeOld
import Derived.Below
import Derived.BigQuiet
import Derived.Deep.QuietTactic
import Derived.Lib.Hide
import Derived.Deep.RegionHeld3
import Derived.Lib.SlBytesConst
import Derived.Laws.CopyOwn
import Derived.Laws.CopyRow
import Derived.Lib.Bytes
import Derived.Deep.LoopGhost
import Derived.Deep.DeepFit
import Derived.Deep.DeepMust
import Derived.WalkSpells
import Derived.WalkLawsBesides
import Derived.Laws.EntriesVeiled
import Derived.Laws.Rows
import Derived.Maps.OwnOps
import Derived.Maps.OwnSet
import Derived.Maps.Views
import Derived.Maps.AppendAt
import Derived.DeepKeys4
import Derived.MapViews
import Derived.Maps.Keyed
import Derived.Deep.RegionWith
import Derived.Deep.CutRange
import Derived.StillTailTactics
import Derived.Test.YtfemfgkcgboopaaGreatDoorQ1
import Derived.Test.YtfemfgkcgboopaaGreatDoorQ2
import Derived.Test.YtfemfgkcgboopaaGreatDoorQ3
import Derived.Test.YtfemfgkcgboopaaGreatDoorQ4
import Derived.Test.YtfemfgkcgboopaaGreatDoorQ9
import Derived.Test.YtfemfgkcgboopaaGreatDoorQ10
import Derived.Test.YtfemfgkcgboopaaGreatDoorQ11
import Derived.Test.YtfemfgkcgboopaaGreatDoorQ12
import Derived.Test.YtfemfgkcgboopaaGreatDoorQ13
import Derived.Test.YtfemfgkcgboopaaGreatDoorQ14
import Derived.Test.YtfemfgkcgboopaaGreatDoorQ15
import Derived.Test.YtfemfgkcgboopaaGreatDoorQ16
import Derived.Test.YtfemfgkcgboopaaGreatDoorQ18
import Derived.Test.YtfemfgkcgboopaaGreatDoorQ19
import Derived.Test.YtfemfgkcgboopaaGreatDoorQ20
import Derived.Test.YtfemfgkcgboopaaGreatDoorQ21
import Derived.Test.YtfemfgkcgboopaaGreatDoorQ22
import Derived.Test.YtfemfgkcgboopaaGreatDoorQ23
import Derived.Test.YtfemfgkcgboopaaGreatDoorQ17
import Derived.Test.YtfemfgkcgboopaaGreatDoorQ25
import Derived.Test.YtfemfgkcgboopaaGreatDoorQ26
import Derived.Test.YtfemfgkcgboopaaGreatDoorQ27
import Derived.Test.YtfemfgkcgboopaaGreatDoorQ28
import Derived.Test.YtfemfgkcgboopaaGreatDoorQ24
import Derived.Test.YtfemfgkcgboopaaGreatDoorQ29
import Derived.Test.YtfemfgkcgboopaaGreatDoorQ30
import Derived.Laws.World
import Derived.Laws.IdiomCopy
import Derived.Lib.SliceRun
import Derived.Lib.SlTrimSet
/- attval.Value. -/
namespace Go.Proofs.YtfemfgkcgboopaaGreatDoor
open Go.ChangeShapes Go.WideShapes Go.ChangeAt Go.RowKit
set_option linter.unusedVariables false
section
variable {m s M B : Nat} {l : List EntT} {deep : Int} {fr : List Otx} {o : List UInt8} {w0 w w' : World}
/-- The map alone was turned. -/
theorem MkS.remap (h : MkS m s M B l deep fr o w0 w) {l' : List EntT} (hg : w.grownBy w' (some M)) (hm : EnI w' M l') : MkS m s M B l' deep fr o w0 w' := by
  obtain ⟨⟨v, hB, hv⟩, h2, h3, h4, h5, h6, h7⟩ := h
  have hk : ∀ (k : Nat) (vs : Array Value) (T : TypeId) (f : Nat × Nat), w.heap[k]? = some (.cells vs T f) → w'.heap[k]? = some (.cells vs T f) := fun k vs T f ho => by
    rw [hg.block k (lt_of ho) (fun e => h5.ne ho (Option.some.inj e))]
    exact ho
  refine ⟨⟨v, MkB.keep hB (fun _ _ => hk _ _ _ _) (fun _ _ => hk _ _ _ _), hv⟩, h2.keep (fun _ _ _ => hk _ _ _ _) (fun o2 ho2 => ?_), fun p2 hp2 => (h3 p2 hp2).keep fun k o2 ho2 hi _ => ?_, h4, hm, h6, h7.grown hg ?_ (fun k e => by cases e; exact h6.2.2)⟩
  · obtain ⟨_, _, t, hsb, _⟩ := h2
    rw [hsb] at ho2
    cases ho2
    exact hk _ _ _ _ hsb
  · rcases hi with ⟨vs, f, rfl⟩ | ⟨vs, f, rfl, hf⟩
    · exact hk _ _ _ _ ho2
    · exact hk _ _ _ _ ho2
  · have := h5.lt
    have := h6.2.2
    omega
/-- A new maker. -/
theorem MkS.begin {w0 w : World} {s : Nat} (deep : Int) (hs : TSk w s 1099511627776 []) (hB : w0.heap.size ≤ s) (hb : Below w0.heap.size w0 w) :
    MkS (w.heap.size + 1) s w.heap.size w0.heap.size [] deep [] [] w0 ((w.alloc (.map #[] 0)).alloc (.cells #[.map (some w.heap.size), .int .i64 deep, .pointer (some ⟨s, 0, none⟩), .pointer none, .slice none 0 0] 69)) := by
  have e1 : (w.alloc (.map #[] 0)).heap.size = w.heap.size + 1 := World.size_alloc _ _
  have hn := hp_new (w.alloc (.map #[] 0)) (.cells #[.map (some w.heap.size), .int .i64 deep, .pointer (some ⟨s, 0, none⟩), .pointer none, .slice none 0 0] 69)
  rw [e1] at hn
  have hk : ∀ (k : Nat) (o : Obj), w.heap[k]? = some o → ((w.alloc (.map #[] 0)).alloc (.cells #[.map (some w.heap.size), .int .i64 deep, .pointer (some ⟨s, 0, none⟩), .pointer none, .slice none 0 0] 69)).heap[k]? = some o := fun k o ho => hp_old (hp_old ho)
  refine ⟨⟨.slice none 0 0, .inl ⟨hn, ⟨by simp [Lib.byteCells], .inl ⟨rfl, rfl⟩⟩⟩, fun _ => rfl⟩, hs.keep (fun _ _ _ => hk _ _) (fun _ => hk _ _), (fun p hp => by cases hp), List.nodup_nil, (EnI.start w).kept ?_, ⟨by have := hb.size; omega, hB, hb.size⟩, (hb.alloc hb.size _).alloc (by rw [World.size_alloc]; have := hb.size; omega) _⟩
  have := hp_new w (.map #[] 0)
  rw [hp_old this, this]
theorem push_c {p : Otx} {fr : List Otx} {o : List UInt8} {w : World} (h : MkS m s M B l deep fr o w0 w) (hl : fr.length ≤ 100000) (hp : FrAt w B p) (hn : p.x ∉ fr.map Otx.x) : Calls Tryz.prog 25 #[.pointer (some ⟨s, 0, none⟩), .pointer (some ⟨p.x, 0, none⟩)] w fun e w' => e = .returned (.int .i64 0) ∧ MkS m s M B l deep (p :: fr) o w0 w' :=
  (tpush_ok 1099511627776 p.x (fr.map Otx.x) s w h.stk (by rw [List.length_map]; omega)).mono fun e w' ⟨he, hs, hg⟩ => ⟨he, h.stack hs hg (fun q hq => by
    rcases List.mem_cons.1 hq with rfl | hq
    · exact hp
    · exact h.frs q hq) (List.nodup_cons.2 ⟨hn, h.apart⟩)⟩
end
set_option maxRecDepth 100000 in
set_option maxHeartbeats 16000000 in
/-- attval.Value, where entities lead back to themselves. -/
theorem attValue_loops (A : Option Addr) (n cap : Nat) (l : List EntT) (raw : List UInt8) (kind deep : Int) (w : World) (h : RRd cE 6 w w.heap.size A n cap l) (hm : n ≤ 1000) (hx : ∀ x ∈ l, x.tx.length ≤ 20000) (hnm : ∀ x ∈ l, x.nm.length ≤ 1000000000000000) (hsz : (l.map fun y => y.tx.length).sum ≤ 1000000) (hF : Forms w) (hT : Tabs w) (hL : loopsE l) :
    Calls Tryz.prog 10 #[.slice A n cap, .string ⟨raw.toArray⟩, .int .i64 kind, .int .i64 deep] w fun e w' => e = .returned (.tuple #[.string ⟨#[]⟩, .int .i64 8]) ∧ Below w.heap.size w w' := by
  have CG := Lib.hid (graphOf_c A n cap l w h hm hx hnm hF hT)
  have hil := inner_len l []
  have hln := h.len
  have HIL : Hid ((innerE l).length ≤ 1000) := Lib.hid (by
    have : (innerE l).length ≤ l.length := by simpa [innerE] using hil
    omega)
  have HGR := Lib.hid (graph_rows l hx)
  have HSZ : Hid (sizeE (graphE l) ≤ 1000000) := Lib.hid (Nat.le_trans (graph_size l) hsz)
  clear h hx hnm hsz hF hT hil hln
  go_enter Tryz.func10, Tryz.ntmps10
  go_wp2_with fail
  refine CG.out.mono ?_
  rintro e w1 ⟨NA, nc, TA, tc, rfl, rs, hrs, hrn, hrg, hb1⟩
  have CLP := Lib.hid (graphLoop_c NA nc TA (innerE l).length tc rs (graphE l) w1 hrs hrg (graphE_ok l) HIL.out HGR.out HSZ.out)
  have HB1 := Lib.hid hb1
  clear CG hrs hrn hrg hb1
  generalize (innerE l).length = k at *
  go_wp2_with fail
  refine CLP.out.mono ?_
  rintro e w2 ⟨x, b, rfl, hbl, hb2⟩
  have HB2 := Lib.hid (HB1.out.trans (hb2.mono HB1.out.size))
  obtain rfl : b = true := hbl.2 hL
  clear CLP hbl hb2
  go_wp2
  go_ret2
  exact ⟨rfl, HB2.out⟩
end Go.Proofs.YtfemfgkcgboopaaGreatDoor
/- attval.Value, its run. -/
namespace Go.Proofs.YtfemfgkcgboopaaGreatDoor
open Go.ChangeShapes Go.WideShapes Go.ChangeAt Go.RowKit
set_option linter.unusedVariables false
/-- 'x, ok := m.l[name]', as an equation. -/
theorem ent_run {W : World} {M : Nat} {acc : List EntT} (h : EnI W M acc) (s : List UInt8) (hs : s.length ≤ 9000000000000000000) (y : EntT) (b : Bool) (hy : (fndE acc s).getD noE = y) (hb : (fndE acc s).isSome = b) :
    (Instr.lookup 63 (.map (some M)) (.string ⟨s.toArray⟩) true).run Tryz.prog W = .ok (.tuple #[.agg #[.string ⟨y.nm.toArray⟩, .string ⟨y.tx.toArray⟩, .bool y.out, .string ⟨y.pub.toArray⟩, .string ⟨y.sys.toArray⟩, .string ⟨y.nt.toArray⟩], .bool b]) W := by
  obtain ⟨D, h1, h2, h3⟩ := h
  obtain ⟨v, ps, hrun, hv⟩ := h1.look_ok lawSg Tryz.underlying63 (zeroEnt W) (R := heldElem) (zd := .held (entV noE)) (zp := []) rfl (keySg hs)
  rw [h3, hy] at hv
  unfold heldElem at hv
  simp only [Option.some.injEq, Prod.mk.injEq, DataW.held.injEq] at hv
  rw [hv.1, h2, hb] at hrun
  exact hrun
set_option maxRecDepth 100000 in
set_option maxHeartbeats 16000000 in
/-- attval.Value, where no entity leads back to itself. -/
theorem attValue_c (A : Option Addr) (n cap : Nat) (l : List EntT) (raw : List UInt8) (kind deep : Int) (f : Nat) (o2 : List UInt8) (e2 : Nat) (w : World) (h : RRd cE 6 w w.heap.size A n cap l) (hm : n ≤ 1000) (hx : ∀ x ∈ l, x.tx.length ≤ 20000) (hnm : ∀ x ∈ l, x.nm.length ≤ 1000000000000000) (hsz : (l.map fun y => y.tx.length).sum ≤ 1000000) (hF : Forms w) (hT : Tabs w) (hK : KnownT w) (hraw : raw.length ≤ 50000) (hL : ¬ loopsE l)
    (hr : runL l deep f [(raw, 0)] [] = some (o2, e2)) (ho2 : e2 = 0 → o2.length ≤ 100000) :
    Calls Tryz.prog 10 #[.slice A n cap, .string ⟨raw.toArray⟩, .int .i64 kind, .int .i64 deep] w fun e w' => e = .returned (.tuple #[.string ⟨(if e2 = 0 then trimK kind o2 else []).toArray⟩, .int .i64 (e2 : Nat)]) ∧ Below w.heap.size w w' := by
  have CG := Lib.hid (graphOf_c A n cap l w h hm hx hnm hF hT)
  have hil := inner_len l []
  have hln := h.len
  have HIL : Hid ((innerE l).length ≤ 1000) := Lib.hid (by
    have : (innerE l).length ≤ l.length := by simpa [innerE] using hil
    omega)
  have HGR := Lib.hid (graph_rows l hx)
  have HSZ : Hid (sizeE (graphE l) ≤ 1000000) := Lib.hid (Nat.le_trans (graph_size l) hsz)
  have HFT := Lib.hid (And.intro hF (And.intro hT hK))
  have HRUN := Lib.hid hr
  have HLL := Lib.hid hln
  have HXX := Lib.hid (And.intro hx hnm)
  have HP : Hid (∀ W, Below w.heap.size w W → RRd cE 6 W W.heap.size A n cap l) := Lib.hid fun W hb => (h.below hb).more hb.size
  have hmm := @run_makeMap Tryz.prog
  clear h hx hnm hsz hF hT hK hil hln hr
  go_enter Tryz.func10, Tryz.ntmps10
  go_wp2_with fail
  refine CG.out.mono ?_
  rintro e w1 ⟨NA, nc, TA, tc, rfl, rs, hrs, hrn, hrg, hb1⟩
  have CLP := Lib.hid (graphLoop_c NA nc TA (innerE l).length tc rs (graphE l) w1 hrs hrg (graphE_ok l) HIL.out HGR.out HSZ.out)
  have HB1 := Lib.hid hb1
  clear CG hrs hrn hrg hb1 HIL HGR HSZ
  generalize (innerE l).length = k at *
  go_wp2_with fail
  refine CLP.out.mono ?_
  rintro e w2 ⟨x, b, rfl, hbl, hb2⟩
  have HB2 := Lib.hid (HB1.out.trans (hb2.mono HB1.out.size))
  obtain rfl : b = false := by
    cases b with
    | true => exact absurd (hbl.1 rfl) hL
    | false => rfl
  have CTN := Lib.hid (tnew_ok 1099511627776 w2 (by omega) (by omega))
  clear CLP hbl hb2 HB1
  go_wp2_with fail
  refine CTN.out.mono ?_
  rintro e w3 ⟨rfl, hts, hb3, hlt3⟩
  have HM0 := Lib.hid (MkS.begin deep hts HB2.out.size (HB2.out.trans (hb3.mono HB2.out.size)))
  clear CTN hts hb3 hlt3 HB2
  generalize w2.heap.size = S at *
  obtain ⟨M, hM⟩ : ∃ M, w3.heap.size = M := ⟨_, rfl⟩
  rw [hM] at HM0
  go_wp2_with fail
  go_loopg [38] (n) (fun g i wr => ∃ t : Nat, i = .int .i64 (t : Int) ∧ t ≤ n ∧ Hid (g + t = n) ∧ Hid (MkS (M + 1) S M w.heap.size (l.take t) deep [] [] w wr))
  case atStart => exact ⟨0, rfl, Nat.zero_le _, Lib.hid rfl, HM0⟩
  case round =>
    clear HM0
    obtain ⟨t, rfl, ht, hg, HJ⟩ := hrel
    have ht0 : (0 : Int) ≤ (t : Int) := by omega
    have ht9 : (t : Int) ≤ 1000 := by omega
    by_cases htn : t < n
    · have hti : (t : Int) < (n : Int) := by omega
      obtain ⟨b1, o1, x, rfl, hb1, hx, hc1⟩ := (HP.out _ HJ.out.below).cell htn
      have hxl := HXX.out.2 x (List.mem_of_getElem? hx)
      have HTK : Hid (l.take (t + 1) = l.take t ++ [x]) := Lib.hid (by rw [List.take_add_one, hx]; rfl)
      have hal : (l.take t).length ≤ 1000 := by rw [List.length_take]; omega
      obtain ⟨acc, hacc⟩ : ∃ p, l.take t = p := ⟨_, rfl⟩
      rw [hacc] at HTK HJ hal
      obtain ⟨y, hy⟩ : ∃ y, (fndE acc x.nm).getD noE = y := ⟨_, rfl⟩
      obtain ⟨bb, hbb⟩ : ∃ b, (fndE acc x.nm).isSome = b := ⟨_, rfl⟩
      have HBB := Lib.hid hbb
      obtain ⟨xn, xt, xo, xp, xq, xr⟩ := x
      simp only at hxl hy hbb HBB
      obtain ⟨yn, yt, yo, yp, yq, yr⟩ := y
      have y0 : wr.cell? ⟨b1, o1 + t * 6, none⟩ = some (.string ⟨xn.toArray⟩) := by rw [show o1 + t * 6 = o1 + (t * 6 + 0) by omega]; exact hc1 0 _ rfl
      have y1 : wr.cell? ⟨b1, o1 + t * 6 + 1, none⟩ = some (.string ⟨xt.toArray⟩) := by rw [show o1 + t * 6 + 1 = o1 + (t * 6 + 1) by omega]; exact hc1 1 _ rfl
      have y2 : wr.cell? ⟨b1, o1 + t * 6 + 2, none⟩ = some (.bool xo) := by rw [show o1 + t * 6 + 2 = o1 + (t * 6 + 2) by omega]; exact hc1 2 _ rfl
      have y3 : wr.cell? ⟨b1, o1 + t * 6 + 3, none⟩ = some (.string ⟨xp.toArray⟩) := by rw [show o1 + t * 6 + 3 = o1 + (t * 6 + 3) by omega]; exact hc1 3 _ rfl
      have y4 : wr.cell? ⟨b1, o1 + t * 6 + 4, none⟩ = some (.string ⟨xq.toArray⟩) := by rw [show o1 + t * 6 + 4 = o1 + (t * 6 + 4) by omega]; exact hc1 4 _ rfl
      have y5 : wr.cell? ⟨b1, o1 + t * 6 + 5, none⟩ = some (.string ⟨xr.toArray⟩) := by rw [show o1 + t * 6 + 5 = o1 + (t * 6 + 5) by omega]; exact hc1 5 _ rfl
      clear hb1 hx hc1 hacc
      go_upto_region 9 with fail
      obtain ⟨Q, hQ⟩ : ∃ Q, wr.heap.size = Q := ⟨_, rfl⟩
      have HJ1 := Lib.hid (HJ.out.kept ((Below.refl _ wr).alloc (Nat.le_refl _) (.cells #[.string ⟨xn.toArray⟩, .string ⟨xt.toArray⟩, .bool xo, .string ⟨xp.toArray⟩, .string ⟨xq.toArray⟩, .string ⟨xr.toArray⟩] 43)))
      have hq1 := hp_new wr (.cells #[.string ⟨xn.toArray⟩, .string ⟨xt.toArray⟩, .bool xo, .string ⟨xp.toArray⟩, .string ⟨xq.toArray⟩, .string ⟨xr.toArray⟩] 43)
      have hz1 : (wr.alloc (.cells #[.string ⟨xn.toArray⟩, .string ⟨xt.toArray⟩, .bool xo, .string ⟨xp.toArray⟩, .string ⟨xq.toArray⟩, .string ⟨xr.toArray⟩] 43)).heap.size = wr.heap.size + 1 := World.size_alloc _ _
      rw [hQ] at hq1 hz1
      clear y0 y1 y2 y3 y4 y5
      generalize wr.alloc (.cells #[.string ⟨xn.toArray⟩, .string ⟨xt.toArray⟩, .bool xo, .string ⟨xp.toArray⟩, .string ⟨xq.toArray⟩, .string ⟨xr.toArray⟩] 43) = W1 at *
      have e0 : W1.drew.cell? ⟨M + 1, 0, none⟩ = some (.map (some M)) := HJ1.out.cells.1
      have e1 : W1.drew.cell? ⟨Q, 0, none⟩ = some (.string ⟨xn.toArray⟩) := cell_of 0 hq1
      have lk1 := ent_run (W := W1.drew) (HJ1.out.map.kept rfl) xn (by omega) _ bb hy hbb
      have HJ2 := fun ob => HJ1.out.kept ((Below.refl _ W1).alloc (Nat.le_refl _) ob)
      have f0 : ∀ ob, (W1.alloc ob).drew.cell? ⟨M + 1, 0, none⟩ = some (.map (some M)) := fun ob => (HJ2 ob).cells.1
      have f1 : ∀ ob, (W1.alloc ob).drew.cell? ⟨Q, 0, none⟩ = some (.string ⟨xn.toArray⟩) := fun ob => by
        have : (W1.alloc ob).drew.heap[Q]? = _ := hp_old hq1
        exact cell_of 0 this
      have lk2 := fun ob => ent_run (W := (W1.alloc ob).drew) ((HJ2 ob).map.kept rfl) xn (by omega) _ bb hy hbb
      simp only at lk1 lk2
      go_region
      clear lk1 lk2 e0 e1 f0 f1
      have HJ3 := Lib.hid ((HJ2 (.cells #[.string ⟨yn.toArray⟩, .string ⟨yt.toArray⟩, .bool yo, .string ⟨yp.toArray⟩, .string ⟨yq.toArray⟩, .string ⟨yr.toArray⟩] 43)).kept (Below.drew (Below.refl _ _)))
      have hq3 : (W1.alloc (.cells #[.string ⟨yn.toArray⟩, .string ⟨yt.toArray⟩, .bool yo, .string ⟨yp.toArray⟩, .string ⟨yq.toArray⟩, .string ⟨yr.toArray⟩] 43)).drew.heap[Q]? = _ := hp_old hq1
      clear HJ2 HJ1 hq1 hz1 HJ hy
      generalize (W1.alloc (.cells #[.string ⟨yn.toArray⟩, .string ⟨yt.toArray⟩, .bool yo, .string ⟨yp.toArray⟩, .string ⟨yq.toArray⟩, .string ⟨yr.toArray⟩] 43)).drew = W2 at *
      cases bb with
      | true =>
        have HE := Lib.hid (HJ3.out.remap (gr_refl _ _) (HJ3.out.map.same (x := ⟨xn, xt, xo, xp, xq, xr⟩) HBB.out))
        clear hq3
        go_wp2
        go_roundg (n - (t + 1))
        case measure => have := hg.out; omega
        case rel => exact ⟨t + 1, by go_num, by omega, Lib.hid (by have := hg.out; omega), Lib.hid (by rw [HTK.out]; exact HE.out)⟩
      | false =>
        have g0 : W2.cell? ⟨M + 1, 0, none⟩ = some (.map (some M)) := HJ3.out.cells.1
        have g1 : W2.cell? ⟨Q, 0, none⟩ = some (.string ⟨xn.toArray⟩) := cell_of 0 hq3
        have g2 : W2.cell? ⟨Q, 1, none⟩ = some (.string ⟨xt.toArray⟩) := cell_of 1 hq3
        have g3 : W2.cell? ⟨Q, 2, none⟩ = some (.bool xo) := cell_of 2 hq3
        have g4 : W2.cell? ⟨Q, 3, none⟩ = some (.string ⟨xp.toArray⟩) := cell_of 3 hq3
        have g5 : W2.cell? ⟨Q, 4, none⟩ = some (.string ⟨xq.toArray⟩) := cell_of 4 hq3
        have g6 : W2.cell? ⟨Q, 5, none⟩ = some (.string ⟨xr.toArray⟩) := cell_of 5 hq3
        clear hq3
        go_wp2_with fail
        go_still_tail 7, (by kernel_rfl)
        change wpList _ _ _ _ _ W2.drew
        have HJ4 := Lib.hid (HJ3.out.kept (Below.drew (Below.refl _ W2)))
        obtain ⟨D, hown, hhas, hat⟩ := HJ4.out.map
        have HIS := Lib.hid (by obtain ⟨es, clock, hb, _, _, rfl⟩ := hown; exact ⟨_, rfl⟩ : Go.Maps.IsMap D)
        have HHA := Lib.hid (And.intro hhas hat)
        have HKEY := Lib.hid (keySg (s := xn) (by omega))
        have hmx : acc.length < maxLen := by unfold maxLen; omega
        clear hhas hat g0 g1 g2 g3 g4 g5 g6 HJ3
        generalize W2.drew = W3 at *
        go_wp2_with (at_mapUpdate; refine wpList_mapUpdate_own _ rfl _ _ _ 63 rfl 9 43 lawSg Tryz.underlying63 heldElem M _ D rfl hown hmx _ _ _ rfl rfl HKEY.out _ [] rfl ?_)
        intro w5 hown5 hg5
        have HE : Hid (MkS (M + 1) S M w.heap.size (acc ++ [⟨xn, xt, xo, xp, xq, xr⟩]) deep [] [] w w5) := Lib.hid (HJ4.out.remap hg5 ⟨_, by rw [List.length_append]; exact hown5, enI_snoc (x := ⟨xn, xt, xo, xp, xq, xr⟩) HIS.out HBB.out HHA.out.1 HHA.out.2⟩)
        clear hown hown5 hg5 HJ4
        go_wp2
        go_roundg (n - (t + 1))
        case measure => have := hg.out; omega
        case rel => exact ⟨t + 1, by go_num, by omega, Lib.hid (by have := hg.out; omega), Lib.hid (by rw [HTK.out]; exact HE.out)⟩
    · have hti : ¬ (t : Int) < (n : Int) := by omega
      have hJ := HJ.out
      rw [List.take_of_length_le (by rw [HLL.out]; omega)] at hJ
      have HM := Lib.hid hJ
      have c2 := hJ.cells.2.2
      have hcv := run_toBytes wr raw
      have kV : Below wr.heap.size wr (Lib.bytesWorld wr 5 ⟨raw.toArray⟩) := Lib.bytesWorld_below _ _ _
      have HMV := Lib.hid (HM.out.kept kV)
      have hTx := TxB.new wr raw (by omega)
      have hVs := Lib.bytesWorld_size wr 5 ⟨raw.toArray⟩
      clear hJ kV HJ
      generalize Lib.bytesWorld wr 5 ⟨raw.toArray⟩ = V at *
      have HMW := Lib.hid (HMV.out.kept ((Below.refl _ V).alloc (Nat.le_refl _) (.cells #[.slice (some ⟨wr.heap.size, 0, none⟩) raw.length (grownCap wr raw.length 0 5), .int .i64 0] 73)))
      have hgeV : w.heap.size ≤ V.heap.size := HMV.out.below.size
      have hFN : FrAt (V.alloc (.cells #[.slice (some ⟨wr.heap.size, 0, none⟩) raw.length (grownCap wr raw.length 0 5), .int .i64 0] 73)) w.heap.size ⟨V.heap.size, raw, 0⟩ := FrAt.new hgeV hraw hTx
      rw [hVs] at hFN
      have CP := Lib.hid (push_c (fr := []) HMW.out (Nat.zero_le _) hFN (by simp))
      clear hTx hFN hgeV HMV HM HMW
      go_wp2_with fail
      refine CP.out.mono ?_
      rintro e w6 ⟨rfl, hM6⟩
      have HM6 := Lib.hid hM6
      have CR := Lib.hid (makerRun_c f [⟨wr.heap.size + 1, raw, 0⟩] [] o2 e2 w6 hM6 rfl HFT.out.1 HFT.out.2.1 HFT.out.2.2 (fun x hx => by have := HXX.out.1 x hx; omega) HRUN.out)
      clear hM6 CP hVs hcv c2
      go_wp2_with fail
      refine CR.out.mono ?_
      rintro e w7 ⟨rfl, hB7, hE7⟩
      have HB7 := Lib.hid hB7
      clear hB7 CR
      by_cases he : e2 ≠ 0
      · have he2 : ((e2 : Nat) : Int) ≠ 0 := by omega
        have he3 : (((e2 : Nat) : Int) != 0) = true := by simpa using he
        clear hE7
        go_wp2
        go_ret2
        exact ⟨by first | rfl | (rw [if_neg he]; rfl), HB7.out⟩
      · have he0 : e2 = 0 := by omega
        subst he0
        obtain ⟨v, hBv, hv0⟩ := hE7 rfl
        have CS := Lib.hid (string_m (M + 1) S (.map (some M)) deep v o2 w7 hBv hv0)
        have hlm : M + 1 < w7.heap.size := by obtain ⟨_, h9, _⟩ := hBv.blk; exact lt_of h9
        have hwM : w.heap.size ≤ M + 1 := HM6.out.ge.1
        clear hBv hv0 hE7
        go_wp2_with fail
        refine CS.out.mono ?_
        rintro e w8 ⟨rfl, hb8⟩
        have HB8 := Lib.hid (HB7.out.trans (hb8.mono hwM))
        have CTR := Lib.hid (atTrim_c kind o2 w8 (ho2 (by trivial)))
        clear CS hb8
        go_wp2_with fail
        refine CTR.out.mono ?_
        rintro e w9 ⟨rfl, hb9⟩
        have HB9 := Lib.hid (HB8.out.trans (hb9.mono HB8.out.size))
        clear CTR hb9
        go_wp2
        go_ret2
        exact ⟨rfl, HB9.out⟩
end Go.Proofs.YtfemfgkcgboopaaGreatDoor
/- The example of the page on attribute values. -/
namespace Go.Proofs.YtfemfgkcgboopaaGreatDoor
open Go.ChangeShapes Go.WideShapes Go.ChangeAt Go.RowKit
set_option linter.unusedVariables false
def entX : EntT := ⟨[120], [38, 108, 116, 59, 121], false, [], [], []⟩
theorem noLoop_nil : ¬ loopsE [] := fun ⟨i, h⟩ => by have := h.lt; simp [graphE, innerE] at this
theorem noLoop_x : ¬ loopsE [entX] := fun ⟨i, h⟩ => by
  have hg : graphE [entX] = [[]] := by decide +kernel
  unfold loopsE at *
  rw [hg] at h
  exact (h.closed (S := fun _ => False) (fun t ht k hk => by
    have h0 := (List.getElem?_eq_some_iff.1 ht).1
    simp at h0
    subst h0
    simp at ht
    subst ht
    cases hk) (fun _ _ h => h.elim)).elim
theorem live_run1 : runL [] 9 30 [([97, 38, 35, 49, 48, 59, 98, 10, 99], 0)] [] = some ([97, 10, 98, 32, 99], 0) := by decide +kernel
theorem live_run2 : runL [entX] 9 30 [([38, 120, 59], 0)] [] = some ([60, 121], 0) := by decide +kernel
theorem entX_row {w : World} {b : Nat} {cs : Array Value} {T : TypeId} {f : Nat × Nat} (h : w.heap[b]? = some (.cells cs T f)) (hcs : cs = (cE entX).toArray) : RRd cE 6 w w.heap.size (some ⟨b, 0, none⟩) 1 1 [entX] :=
  ⟨rfl, Nat.le_refl _, by unfold maxLen; omega, (fun e => by cases e), fun _ => ⟨b, 0, rfl, lt_of h, fun i x hx j u hu => by
    have hi := (List.getElem?_eq_some_iff.1 hx).1
    have hi0 : i = 0 := by simpa using hi
    subst hi0
    simp at hx
    subst hx
    rw [cell_of _ h, hcs, List.getElem?_toArray, show 0 + (0 * 6 + j) = j by omega]
    exact hu⟩⟩
set_option maxRecDepth 100000 in
set_option maxHeartbeats 8000000 in
/-- The page's example. -/
theorem live27_c (w : World) (hF : Forms w) (hT : Tabs w) (hK : KnownT w) : Calls Tryz.prog 9 #[] w fun e w' => e = .returned (.bool true) ∧ Below w.heap.size w w' := by
  have C1 : Hid (Calls Tryz.prog 10 #[.slice none 0 0, .string ⟨#[97, 38, 35, 49, 48, 59, 98, 10, 99]⟩, .int .i64 1, .int .i64 9] w fun e w' => e = .returned (.tuple #[.string ⟨#[97, 10, 98, 32, 99]⟩, .int .i64 0]) ∧ Below w.heap.size w w') := Lib.hid (attValue_c none 0 0 [] [97, 38, 35, 49, 48, 59, 98, 10, 99] 1 9 30 [97, 10, 98, 32, 99] 0 w (RRd.nilR _ _ _ _) (by omega) (fun x hx => by cases hx) (fun x hx => by cases hx) (by decide) hF hT hK (by decide) noLoop_nil live_run1 (fun _ => by decide))
  have C2 : Hid (∀ W b, Below w.heap.size w W → W.heap[b]? = some (.cells #[.string ⟨#[120]⟩, .string ⟨#[38, 108, 116, 59, 121]⟩, .bool false, .string ⟨#[]⟩, .string ⟨#[]⟩, .string ⟨#[]⟩] 43 (0, 0)) → Calls Tryz.prog 10 #[.slice (some ⟨b, 0, none⟩) 1 1, .string ⟨#[38, 120, 59]⟩, .int .i64 1, .int .i64 9] W fun e w' => e = .returned (.tuple #[.string ⟨#[60, 121]⟩, .int .i64 0]) ∧ Below W.heap.size W w') := Lib.hid fun W b hW hb => attValue_c (some ⟨b, 0, none⟩) 1 1 [entX] [38, 120, 59] 1 9 30 [60, 121] 0 W (entX_row hb rfl) (by omega) (fun x hx => by rw [List.mem_singleton] at hx; subst hx; decide) (fun x hx => by rw [List.mem_singleton] at hx; subst hx; decide) (by decide) (hF.below hW hF.lt) (hT.below hW (hT.low hF)) (hK.below hW) (by decide) noLoop_x live_run2 (fun _ => by decide)
  clear hF hT hK
  go_enter Tryz.func9, Tryz.ntmps9
  go_wp2_with fail
  refine C1.out.mono ?_
  rintro e w1 ⟨rfl, hb1⟩
  have HB1 := Lib.hid hb1
  clear hb1 C1
  go_wp2_with fail
  have hq := hp_new w1 (.cells #[.string ⟨#[120]⟩, .string ⟨#[38, 108, 116, 59, 121]⟩, .bool false, .string ⟨#[]⟩, .string ⟨#[]⟩, .string ⟨#[]⟩] 43)
  have HB2 := Lib.hid (HB1.out.trans ((Below.refl w1.heap.size w1).alloc (Nat.le_refl _) (.cells #[.string ⟨#[120]⟩, .string ⟨#[38, 108, 116, 59, 121]⟩, .bool false, .string ⟨#[]⟩, .string ⟨#[]⟩, .string ⟨#[]⟩] 43) |>.mono HB1.out.size))
  refine (C2.out _ _ HB2.out hq).mono ?_
  rintro e w2 ⟨rfl, hb2⟩
  have HB3 := Lib.hid (HB2.out.trans (hb2.mono HB2.out.size))
  clear hb2 hq C2
  go_wp2
  go_ret
  exact ⟨rfl, HB3.out⟩
end Go.Proofs.YtfemfgkcgboopaaGreatDoor
/- The document's Fold. -/
namespace Go.Proofs.YtfemfgkcgboopaaGreatDoor
open Go.ChangeShapes Go.WideShapes Go.ChangeAt Go.RowKit
set_option linter.unusedVariables false
/-- Blanks are one. -/
def foldL (l : List UInt8) : List UInt8 := l.map fun c => if isBl c then 32 else c
theorem foldL_snoc (l : List UInt8) (t : Nat) (c : UInt8) (hc : l[t]? = some c) : foldL (l.take (t + 1)) = foldL (l.take t) ++ [if isBl c then 32 else c] := by
  have hl := (List.getElem?_eq_some_iff.1 hc).1
  have he : l[t] = c := by rw [List.getElem?_eq_getElem hl] at hc; exact Option.some.inj hc
  unfold foldL
  rw [List.take_succ_eq_append_getElem hl, List.map_append, he]
  rfl
set_option maxRecDepth 100000 in
set_option maxHeartbeats 4000000 in
theorem refFold_c (l : List UInt8) (w : World) (hm : l.length ≤ 100000) :
    Calls Tryz.prog 16 #[.string ⟨l.toArray⟩] w fun e w' => e = .returned (.string ⟨(foldL l).toArray⟩) ∧ w = w' := by
  have hsz : (⟨l.toArray⟩ : ByteArray).size = l.length := by simp [ByteArray.size]
  go_enter Tryz.func16, Tryz.ntmps16
  go_wp2
  go_loopg [3, 4] (l.length) (fun g s i wr => ∃ (t : Nat) (o : List UInt8), wr = w ∧ i = .int .i64 (t : Int) ∧ s = .string ⟨o.toArray⟩ ∧ t ≤ l.length ∧ Hid (g + t = l.length) ∧ Hid (o.length ≤ t) ∧ Hid (o = foldL (l.take t)))
  case atStart => exact ⟨0, [], rfl, rfl, rfl, Nat.zero_le _, Lib.hid rfl, Lib.hid (Nat.le_refl _), Lib.hid rfl⟩
  case round =>
    obtain ⟨t, o, rfl, rfl, rfl, ht, hg, ho, HA⟩ := hrel
    have ht0 : (0 : Int) ≤ (t : Int) := by omega
    have ht9 : (t : Int) ≤ 100000 := by omega
    have ho0 : (0 : Int) ≤ (o.length : Int) := by omega
    have ho9 : (o.length : Int) ≤ 100000 := by have := ho.out; omega
    by_cases htn : t < l.length
    · have hti : (t : Int) < (l.length : Int) := by omega
      have hix := run_strIndex l t htn wr
      have hsl := run_strSlice l t (t + 1) (by omega) (by omega) wr
      have hct : l[t]? = some (l.getD t 0) := by simp [htn]
      have hsn := foldL_snoc l t _ hct
      rw [show ((t + 1 : Nat) : Int) = (t : Int) + 1 by omega, show t + 1 - t = 1 by omega, show (l.drop t).take 1 = [l.getD t 0] by
        rw [List.drop_eq_getElem_cons htn, List.take_succ_cons, List.take_zero]; simp [htn]] at hsl
      rw [← HA.out] at hsn
      generalize l.getD t 0 = c at *
      have hc0 : (0 : Int) ≤ (c.toNat : Int) := by omega
      have hc1 : (c.toNat : Int) ≤ 255 := by have := c.toNat_lt; omega
      have CB := Lib.hid (refBlank_c (c.toNat : Int) wr)
      have HBL : Hid (isBl c = isBlank (c.toNat : Int)) := Lib.hid rfl
      generalize isBlank (c.toNat : Int) = bl at CB HBL
      have hsp : (Op.stringOp .add ⟨o.toArray⟩ ⟨[c].toArray⟩).run Tryz.prog wr = .ok (.string ⟨(o ++ [c]).toArray⟩) wr := run_sop (w := wr) o [c] (by have := ho.out; simp; omega)
      have hsp2 : (Op.stringOp .add ⟨o.toArray⟩ ⟨#[32]⟩).run Tryz.prog wr = .ok (.string ⟨(o ++ [32]).toArray⟩) wr := run_sop (w := wr) o [32] (by have := ho.out; simp; omega)
      rw [HBL.out] at hsn
      clear hct hsz
      cases bl with
      | true =>
        have HA2 : Hid (o ++ [32] = foldL (l.take (t + 1))) := Lib.hid (by rw [hsn]; rfl)
        have HLO : Hid ((o ++ [32]).length = o.length + 1) := Lib.hid (by simp)
        clear hsn hsp HA
        generalize o ++ [32] = o2 at *
        go_wp2_with fail
        refine CB.out.mono ?_
        rintro e w6 ⟨rfl, rfl⟩
        go_wp2
        go_roundg (l.length - (t + 1))
        case measure => have := hg.out; omega
        case rel => exact ⟨t + 1, o2, rfl, by go_num, rfl, by omega, Lib.hid (by omega), Lib.hid (by have := ho.out; have := HLO.out; omega), HA2⟩
      | false =>
        have HA2 : Hid (o ++ [c] = foldL (l.take (t + 1))) := Lib.hid (by rw [hsn]; rfl)
        have HLO : Hid ((o ++ [c]).length = o.length + 1) := Lib.hid (by simp)
        clear hsn hsp2 HA
        generalize o ++ [c] = o2 at *
        go_wp2_with fail
        refine CB.out.mono ?_
        rintro e w6 ⟨rfl, rfl⟩
        go_wp2
        go_roundg (l.length - (t + 1))
        case measure => have := hg.out; omega
        case rel => exact ⟨t + 1, o2, rfl, by go_num, rfl, by omega, Lib.hid (by omega), Lib.hid (by have := ho.out; have := HLO.out; omega), HA2⟩
    · have hti : ¬ (t : Int) < (l.length : Int) := by omega
      have hA := HA.out
      rw [List.take_of_length_le (by omega)] at hA
      subst hA
      have hti2 : (l.length : Int) ≤ (t : Int) := by omega
      go_wp2
      go_ret
      exact ⟨rfl, rfl⟩
end Go.Proofs.YtfemfgkcgboopaaGreatDoor
/- Fold, in place. -/
namespace Go.Proofs.YtfemfgkcgboopaaGreatDoor
open Go.ChangeShapes Go.WideShapes Go.ChangeAt Go.RowKit
set_option linter.unusedVariables false
/-- What the loop has gone over is folded, the rest is as it was. -/
theorem fold_step (l : List UInt8) (t : Nat) (c : UInt8) (hc : l[t]? = some c) :
    (foldL (l.take t) ++ l.drop t)[t]? = some c ∧ (foldL (l.take t) ++ l.drop t).set t (if isBl c then 32 else c) = foldL (l.take (t + 1)) ++ l.drop (t + 1) := by
  have hl := (List.getElem?_eq_some_iff.1 hc).1
  have he : l[t] = c := by rw [List.getElem?_eq_getElem hl] at hc; exact Option.some.inj hc
  have hlen : (foldL (l.take t)).length = t := by unfold foldL; rw [List.length_map, List.length_take]; omega
  rw [foldL_snoc l t c hc, List.drop_eq_getElem_cons hl, he]
  refine ⟨?_, ?_⟩
  · rw [List.getElem?_append_right (by omega), hlen]; simp
  · rw [List.set_append_right _ _ (by omega), hlen]; simp
set_option maxRecDepth 100000 in
set_option maxHeartbeats 4000000 in
theorem fold_c (l : List UInt8) (w : World) (hm : l.length ≤ 100000) :
    Calls Tryz.prog 15 #[.string ⟨l.toArray⟩] w fun e w' => e = .returned (.string ⟨(foldL l).toArray⟩) ∧ Below w.heap.size w w' := by
  have cv := run_toBytes w l
  have hby := byt_new w l (by omega)
  have hbm := bytM_new w l (by omega)
  have hb1 := Lib.bytesWorld_below w 5 ⟨l.toArray⟩
  have hs1 : (Lib.bytesWorld w 5 ⟨l.toArray⟩).heap.size = w.heap.size + 1 := Lib.bytesWorld_size _ _ _
  obtain ⟨V, hV⟩ : ∃ V, Lib.bytesWorld w 5 ⟨l.toArray⟩ = V := ⟨_, rfl⟩
  rw [hV] at cv hby hbm hb1 hs1
  have hle := Lib.hid hby.le
  have hfit := Lib.hid hby.fit
  generalize grownCap w l.length 0 5 = cap at cv hle hfit
  have HS : Hid (V.heap.size = w.heap.size + 1) := Lib.hid hs1
  have J0 : Hid (BytM V w.heap.size 0 (foldL (l.take 0) ++ l.drop 0)) := Lib.hid hbm
  have B0 : Hid (Below w.heap.size w V) := Lib.hid hb1
  obtain ⟨b, hb⟩ : ∃ b, w.heap.size = b := ⟨_, rfl⟩
  rw [hb] at cv J0 B0 HS ⊢
  clear hV hby hbm hb1 hs1 hb
  go_enter Tryz.func15, Tryz.ntmps15
  go_wp2
  go_loopg [4, 5, 10] (l.length) (fun g _ _ i wr => ∃ t : Nat, i = .int .i64 (t : Int) ∧ t ≤ l.length ∧ Hid (g + t = l.length) ∧ Hid (BytM wr b 0 (foldL (l.take t) ++ l.drop t)) ∧ Hid (Below b w wr ∧ wr.heap.size = b + 1))
  case atStart => exact ⟨0, rfl, Nat.zero_le _, Lib.hid rfl, J0, Lib.hid ⟨B0.out, HS.out⟩⟩
  case round =>
    obtain ⟨t, rfl, ht, hg, HJ, HB⟩ := hrel
    have ht0 : (0 : Int) ≤ (t : Int) := by omega
    have ht9 : (t : Int) ≤ 100000 := by omega
    clear J0 B0 cv
    by_cases htn : t < l.length
    · have hti : (t : Int) < (l.length : Int) := by omega
      obtain ⟨c, hc⟩ : ∃ c, l[t]? = some c := ⟨_, List.getElem?_eq_getElem htn⟩
      obtain ⟨f1, f2⟩ := fold_step l t c hc
      have hlt := (List.getElem?_eq_some_iff.1 f1).1
      have HST := Lib.hid fun u => HJ.out.set hlt u
      obtain ⟨z0, z1⟩ := HJ.out t c f1
      rw [show 0 + t = t by omega] at z0 z1
      have z2 : wr.cell? ⟨b, t, none⟩ = some (.int .u8 (c.toNat : Int)) := z0
      have hc0 : (0 : Int) ≤ (c.toNat : Int) := by omega
      have hc1 : (c.toNat : Int) ≤ 255 := by have := c.toNat_lt; omega
      have CB := Lib.hid (blank_c (c.toNat : Int) wr)
      have HBL : Hid (isBl c = isBlank (c.toNat : Int)) := Lib.hid rfl
      generalize isBlank (c.toNat : Int) = bl at CB HBL
      rw [HBL.out] at f2
      cases bl with
      | true =>
        have HJ2 : Hid (BytM (wr.setCell ⟨b, t, none⟩ (.int .u8 32)) b 0 (foldL (l.take (t + 1)) ++ l.drop (t + 1))) := Lib.hid (by
          have := HST.out 32
          rw [show 0 + t = t by omega, show (32 : UInt8) = (if true = true then 32 else c) from rfl, f2] at this
          exact this)
        have HB2 : Hid (Below b w (wr.setCell ⟨b, t, none⟩ (.int .u8 32)) ∧ (wr.setCell ⟨b, t, none⟩ (.int .u8 32)).heap.size = b + 1) := Lib.hid ⟨HB.out.1.setCell (p := ⟨b, t, none⟩) (Nat.le_refl _) _, by have := HB.out.2; simpa [World.setCell] using this⟩
        clear f1 f2 hc hlt HST z0 HJ
        go_wp2_with fail
        refine CB.out.mono ?_
        rintro e w6 ⟨rfl, rfl⟩
        go_wp2
        go_roundg (l.length - (t + 1))
        case measure => have := hg.out; omega
        case rel => exact ⟨t + 1, by go_num, by omega, Lib.hid (by omega), HJ2, HB2⟩
      | false =>
        have HJ2 : Hid (BytM wr b 0 (foldL (l.take (t + 1)) ++ l.drop (t + 1))) := Lib.hid (by
          have h9 : (foldL (l.take t) ++ l.drop t).set t c = foldL (l.take t) ++ l.drop t := by
            have h8 := (List.getElem?_eq_some_iff.1 f1).2
            conv => lhs; rw [← h8]
            exact List.set_getElem_self _
          rw [← f2]
          show BytM wr b 0 ((foldL (l.take t) ++ l.drop t).set t c)
          rw [h9]
          exact HJ.out)
        clear f1 f2 hc hlt HST z0 HJ
        go_wp2_with fail
        refine CB.out.mono ?_
        rintro e w6 ⟨rfl, rfl⟩
        go_wp2
        go_roundg (l.length - (t + 1))
        case measure => have := hg.out; omega
        case rel => exact ⟨t + 1, by go_num, by omega, Lib.hid (by omega), HJ2, HB⟩
    · have hti : ¬ (t : Int) < (l.length : Int) := by omega
      have hA := HJ.out
      rw [List.take_of_length_le (by omega), List.drop_of_length_le (by omega), List.append_nil] at hA
      have hlf : (foldL l).length = l.length := by unfold foldL; rw [List.length_map]
      have cs := (hA.byt (cap := cap) (by have := HB.out.2; omega) (by rw [hlf]; exact hle.out) hfit.out).str
      rw [hlf] at cs
      clear hA hlf
      go_wp2
      go_ret
      exact ⟨rfl, HB.out.1⟩
end Go.Proofs.YtfemfgkcgboopaaGreatDoor
/- Written. -/
namespace Go.Proofs.YtfemfgkcgboopaaGreatDoor
open Go.ChangeShapes Go.WideShapes Go.ChangeAt Go.RowKit
set_option linter.unusedVariables false
theorem attWrite_c (l : List UInt8) (w : World) (hl : l.length ≤ 1000000) :
    Calls Tryz.prog 12 #[.string ⟨l.toArray⟩] w fun e w' => e = .returned (.string ⟨(esc l).toArray⟩) ∧ Below w.heap.size w w' := by
  have CE := Lib.hid (escape_c l w hl)
  clear hl
  go_enter Tryz.func12, Tryz.ntmps12
  go_wp2_with fail
  refine CE.out.mono ?_
  rintro e w6 ⟨rfl, hb⟩
  go_wp2
  go_ret
  exact ⟨rfl, hb⟩
end Go.Proofs.YtfemfgkcgboopaaGreatDoor
