/- Texts of ours, joined: GsS, GsM. -/
import Derived.Test.YtfemfgkcgboopaaGreatDoorRows
import Derived.WalkKit
import Derived.ProofKit
import Derived.OpenShut
import Derived.ShutString
import Derived.ChangeOld
import Derived.Below
import Derived.BigQuiet
import Derived.Deep.QuietTactic
import Derived.Lib.Hide
import Derived.Deep.RegionHeld3
import Derived.Lib.SlBytesConst
import Derived.Laws.CopyOwn
import Derived.Laws.CopyRow
import Derived.Lib.Bytes
import Derived.Deep.LoopGhost
import Derived.Deep.DeepFit
import Derived.Deep.DeepMust
import Derived.WalkSpells
import Derived.WalkLawsBesides
import Derived.Laws.EntriesVeiled
import Derived.Laws.Rows
import Derived.Maps.OwnOps
import Derived.Maps.OwnSet
import Derived.Maps.Views
import Derived.Maps.AppendAt
import Derived.DeepKeys4
import Derived.MapViews
import Derived.Maps.Keyed
import Derived.Test.YtfemfgkcgboopaaGreatDoorQ1
import Derived.Test.YtfemfgkcgboopaaGreatDoorQ4
import Derived.Test.YtfemfgkcgboopaaGreatDoorQ9
import Derived.Test.YtfemfgkcgboopaaGreatDoorQ10
import Derived.Test.YtfemfgkcgboopaaGreatDoorQ13
import Derived.Test.YtfemfgkcgboopaaGreatDoorQ14
import Derived.Test.YtfemfgkcgboopaaGreatDoorQ15
import Derived.Test.YtfemfgkcgboopaaGreatDoorQ16
import Derived.Test.YtfemfgkcgboopaaGreatDoorQ18
import Derived.Test.YtfemfgkcgboopaaGreatDoorQ19
import Derived.Test.YtfemfgkcgboopaaGreatDoorQ20
import Derived.Deep.RegionWith
/- The maker with its open texts. -/
namespace Go.Proofs.YtfemfgkcgboopaaGreatDoor
open Go.ChangeShapes Go.WideShapes Go.ChangeAt Go.RowKit
set_option linter.unusedVariables false
/-- An open text: its block, its bytes, how far. -/
structure Otx where
  x : Nat
  b : List UInt8
  t : Nat
def Otx.p (p : Otx) : List UInt8 × Nat := (p.b, p.t)
/-- The bytes of a text, in a row that a conversion laid. -/
def TxB (w : World) (q : Nat) (b : List UInt8) (c : Nat) : Prop := b.length ≤ c ∧ c ≤ maxLen ∧ ∃ cs f, w.heap[q]? = some (.cells cs 5 f) ∧ f ≠ (0, 0) ∧ ∀ (i : Nat) (u : Value), (b.map bv)[i]? = some u → cs[i]? = some u
theorem TxB.byt {w : World} {q c : Nat} {b : List UInt8} (h : TxB w q b c) : Byt w w.heap.size (some ⟨q, 0, none⟩) b.length c b := by
  obtain ⟨h1, h2, cs, f, h3, _, h4⟩ := h
  refine ⟨by simp, h1, h2, (fun e => by cases e), fun _ => ⟨q, 0, rfl, lt_of h3, fun i u hu => ?_⟩⟩
  rw [Nat.zero_add, cell_of i h3]
  exact h4 i u hu
theorem TxB.new (w : World) (l : List UInt8) (hl : l.length ≤ 1000000) : TxB (Lib.bytesWorld w 5 ⟨l.toArray⟩) w.heap.size l (grownCap w l.length 0 5) := by
  have hsz : (⟨l.toArray⟩ : ByteArray).size = l.length := by simp [ByteArray.size]
  refine ⟨grownCap_ge _ _ _ _, grownCap_le_maxLen _ _ _ _ (by unfold maxLen; omega), _, _, Lib.bytesWorld_at_new w 5 ⟨l.toArray⟩, by simp, fun i u hu => ?_⟩
  have hi : i < l.length := by
    rcases Nat.lt_or_ge i l.length with h' | h'
    · exact h'
    · rw [List.getElem?_eq_none (by simpa using h')] at hu; cases hu
  have h1 := Lib.bytesWorld_cell w 5 ⟨l.toArray⟩ i (by rw [hsz]; exact hi)
  rw [cell_of i (Lib.bytesWorld_at_new w 5 ⟨l.toArray⟩)] at h1
  rw [h1]
  rw [List.getElem?_map, List.getElem?_eq_getElem hi] at hu
  simp only [Option.map_some, Option.some.injEq] at hu
  rw [← hu]
  simp [bv, hi]
/-- What is a text's: its block, or a row of bytes that a conversion laid. -/
def IsTx (o : Obj) : Prop := (∃ vs f, o = .cells vs 73 f) ∨ ∃ vs f, o = .cells vs 5 f ∧ f ≠ (0, 0)
/-- An open text where it lies. -/
def FrAt (w : World) (B : Nat) (p : Otx) : Prop := B ≤ p.x ∧ p.t ≤ p.b.length ∧ p.b.length ≤ 50000 ∧ ∃ q c, w.heap[p.x]? = some (.cells #[.slice (some ⟨q, 0, none⟩) p.b.length c, .int .i64 (p.t : Nat)] 73 (0, 0)) ∧ TxB w q p.b c
theorem FrAt.keep {w w' : World} {B : Nat} {p : Otx} (h : FrAt w B p) (hk : ∀ (k : Nat) (o : Obj), w.heap[k]? = some o → IsTx o → k = p.x ∨ (∃ vs f, o = .cells vs 5 f) → w'.heap[k]? = some o) : FrAt w' B p := by
  obtain ⟨h1, h2, h3, q, c, h4, h5, h6, cs, f, h7, h8, h9⟩ := h
  exact ⟨h1, h2, h3, q, c, hk _ _ h4 (.inl ⟨_, _, rfl⟩) (.inl rfl), h5, h6, cs, f, hk _ _ h7 (.inr ⟨_, _, rfl, h8⟩) (.inr ⟨_, _, rfl⟩), h8, h9⟩
/-- A maker in block m whose stack lies in s, whose map lies in M; the open texts, the top first; what was put out. -/
structure MkS (m s M B : Nat) (l : List EntT) (deep : Int) (fr : List Otx) (o : List UInt8) (w0 w : World) : Prop where
  bld : ∃ v, MkB m s (.map (some M)) deep v o w ∧ (o = [] → v = .slice none 0 0)
  stk : TSk w s 1099511627776 (fr.map Otx.x)
  frs : ∀ p ∈ fr, FrAt w B p
  apart : (fr.map Otx.x).Nodup
  map : EnI w M l
  ge : B ≤ m ∧ B ≤ s ∧ B ≤ M
  below : Below B w0 w
theorem MkB.blk {m s : Nat} {mv : Value} {deep : Int} {v : Value} {o : List UInt8} {w : World} (h : MkB m s mv deep v o w) : ∃ p, w.heap[m]? = some (.cells #[mv, .int .i64 deep, .pointer (some ⟨s, 0, none⟩), p, v] 69 (0, 0)) ∧ w.ownsRow (m + 1) 5 1 v o.length (Lib.byteCells o) := by
  rcases h with ⟨h1, h2⟩ | ⟨h1, h2⟩
  · exact ⟨_, h1, h2⟩
  · exact ⟨_, h1, h2⟩
theorem ownsRow_obj {w w' : World} {B : Nat} {e : TypeId} {c n : Nat} {v : Value} {xs : List Value} (h : w.ownsRow B e c v n xs) (hk : ∀ (k : Nat) (vs : Array Value), w.heap[k]? = some (.cells vs e (0, 0)) → w'.heap[k]? = some (.cells vs e (0, 0))) : w'.ownsRow B e c v n xs := by
  obtain ⟨hl, h2 | ⟨g, cap, cur, hv, hg, hh, r⟩⟩ := h
  · exact ⟨hl, .inl h2⟩
  · exact ⟨hl, .inr ⟨g, cap, cur, hv, hg, hk _ _ hh, r⟩⟩
/-- The builder's row is no other block. -/
theorem ownsRow_obj_ne {w : World} {B : Nat} {e : TypeId} {c n : Nat} {v : Value} {xs : List Value} (h : w.ownsRow B e c v n xs) {k : Nat} {o : Obj} (hk : w.heap[k]? = some o) (hT : ∀ (vs : Array Value), o ≠ .cells vs e (0, 0)) : some k ≠ v.ownBlock := by
  obtain ⟨hl, ⟨hv, _⟩ | ⟨g, cap, cur, hv, hg, hh, r⟩⟩ := h
  · rw [hv]; simp [Value.ownBlock]
  · rw [hv]
    intro e'
    simp [Value.ownBlock] at e'
    subst e'
    rw [hh] at hk
    cases hk
    exact hT _ rfl
theorem MkB.keep {m s : Nat} {mv : Value} {deep : Int} {v : Value} {o : List UInt8} {w w' : World} (h : MkB m s mv deep v o w) (h1 : ∀ (vs : Array Value) (f : Nat × Nat), w.heap[m]? = some (.cells vs 69 f) → w'.heap[m]? = some (.cells vs 69 f)) (h2 : ∀ (k : Nat) (vs : Array Value), w.heap[k]? = some (.cells vs 5 (0, 0)) → w'.heap[k]? = some (.cells vs 5 (0, 0))) : MkB m s mv deep v o w' := by
  rcases h with ⟨g1, g2⟩ | ⟨g1, g2⟩
  · exact .inl ⟨h1 _ _ g1, ownsRow_obj g2 h2⟩
  · exact .inr ⟨h1 _ _ g1, ownsRow_obj g2 h2⟩
section
variable {m s M B : Nat} {l : List EntT} {deep : Int} {fr : List Otx} {p : Otx} {o : List UInt8} {w0 w w' : World}
/-- All stands where all that was there stands. -/
theorem MkS.kept (h : MkS m s M B l deep fr o w0 w) (hb : Below w.heap.size w w') : MkS m s M B l deep fr o w0 w' := by
  obtain ⟨⟨v, hB, hv⟩, h2, h3, h4, h5, h6, h7⟩ := h
  have hk : ∀ (k : Nat) (o : Obj), w.heap[k]? = some o → w'.heap[k]? = some o := fun k o ho => (hb.block _ (lt_of ho)).trans ho
  refine ⟨⟨v, MkB.keep hB (fun _ _ => hk _ _) (fun _ _ => hk _ _), hv⟩, h2.keep (fun _ _ _ => hk _ _) (fun _ => hk _ _), fun p hp => (h3 p hp).keep fun k o ho _ _ => hk k o ho, h4, h5.kept (hb.block _ h5.lt), h6, h7.trans (hb.mono ?_)⟩
  obtain ⟨_, hB1, _⟩ := hB.blk
  have := lt_of hB1
  omega
/-- More is put out. -/
theorem MkS.put (h : MkS m s M B l deep fr o w0 w) {v v' : Value} {x : List UInt8} (hB : MkB m s (.map (some M)) deep v o w) (hB' : MkB m s (.map (some M)) deep v' (o ++ x) w') (hx : x ≠ []) (hF : MkF m v.ownBlock w w') : MkS m s M B l deep fr (o ++ x) w0 w' := by
  obtain ⟨pp, hb1, hb2⟩ := hB.blk
  have hk : ∀ (k : Nat) (o : Obj), w.heap[k]? = some o → k ≠ m → (∀ (vs : Array Value), o ≠ .cells vs 5 (0, 0)) → w'.heap[k]? = some o := fun k o ho hne hT => (hF.block k (lt_of ho) hne (ownsRow_obj_ne hb2 ho hT)).trans ho
  have hnm : ∀ (k : Nat) (vs : Array Value) (T : TypeId) (f : Nat × Nat), w.heap[k]? = some (.cells vs T f) → T ≠ 69 → k ≠ m := fun k vs T f ho hT e => by
    subst e
    rw [hb1] at ho
    cases ho
    exact hT rfl
  refine ⟨⟨v', hB', fun e => absurd (List.append_eq_nil_iff.1 e).2 hx⟩, h.stk.keep (fun c vs f hc => hk _ _ hc (hnm _ _ _ _ hc (by decide)) (fun vs2 e => by injection e with _ e2 _; exact absurd e2 (by decide))) (fun o2 ho2 => ?_), fun p hp => (h.frs p hp).keep fun k o2 ho2 hi _ => ?_, h.apart, h.map.kept ?_, h.ge, ?_⟩
  · obtain ⟨_, _, t, hsb, _⟩ := h.stk
    rw [hsb] at ho2
    cases ho2
    exact hk _ _ hsb (hnm _ _ _ _ hsb (by decide)) (fun vs2 e => by injection e with _ e2 _; exact absurd e2 (by decide))
  · rcases hi with ⟨vs, f, rfl⟩ | ⟨vs, f, rfl, hf⟩
    · exact hk _ _ ho2 (hnm _ _ _ _ ho2 (by decide)) (fun vs2 e => by injection e with _ e2 _; exact absurd e2 (by decide))
    · exact hk _ _ ho2 (hnm _ _ _ _ ho2 (by decide)) (fun vs2 e => by injection e with _ _ e3; exact hf e3)
  · obtain ⟨D, ⟨es, clock, hq, _⟩, _⟩ := h.map
    rw [hq]
    refine hk _ _ hq (fun e => ?_) (fun vs e => by cases e)
    subst e
    rw [hb1] at hq
    cases hq
  · refine h.below.trans ⟨hF.os, hF.tape, hF.output, hF.size, fun k hkB => ?_⟩
    have hkl : k < w.heap.size := by have := lt_of hb1; have := h.ge.1; omega
    have hge := h.ge.1
    refine hF.block k hkl (by omega) (fun e => ?_)
    have := (hb2.lt k e.symm).1
    omega
/-- How far the top text is gone over. -/
theorem MkS.goto (h : MkS m s M B l deep (p :: fr) o w0 w) (t : Nat) (ht : t ≤ p.b.length) : MkS m s M B l deep (⟨p.x, p.b, t⟩ :: fr) o w0 (w.setCell ⟨p.x, 1, none⟩ (.int .i64 (t : Nat))) := by
  obtain ⟨⟨v, hB, hv⟩, h2, h3, h4, h5, h6, h7⟩ := h
  obtain ⟨g1, g2, g3, q, c, g4, g5⟩ := h3 p List.mem_cons_self
  have hk : ∀ (k : Nat) (o : Obj), w.heap[k]? = some o → (∀ (vs : Array Value) (f : Nat × Nat), o ≠ .cells vs 73 f) → (w.setCell ⟨p.x, 1, none⟩ (.int .i64 (t : Nat))).heap[k]? = some o := fun k o ho hT => by
    rw [hp_other]
    · exact ho
    · intro e
      subst e
      rw [g4] at ho
      cases ho
      exact hT _ _ rfl
  have hT : ∀ (k : Nat) (vs : Array Value) (T : TypeId) (f : Nat × Nat), w.heap[k]? = some (.cells vs T f) → T ≠ 73 → (w.setCell ⟨p.x, 1, none⟩ (.int .i64 (t : Nat))).heap[k]? = some (.cells vs T f) := fun k vs T f ho hne => hk _ _ ho (fun vs2 f2 e => by injection e with _ e2 _; exact hne e2)
  refine ⟨⟨v, MkB.keep hB (fun _ _ h => hT _ _ _ _ h (by decide)) (fun _ _ h => hT _ _ _ _ h (by decide)), hv⟩, h2.keep (fun _ _ _ h => hT _ _ _ _ h (by decide)) (fun o2 ho2 => ?_), fun p2 hp2 => ?_, h4, h5.kept ?_, h6, h7.setCell (p := ⟨p.x, 1, none⟩) g1 _⟩
  · obtain ⟨_, _, t, hsb, _⟩ := h2
    rw [hsb] at ho2
    cases ho2
    exact hT _ _ _ _ hsb (by decide)
  · rcases List.mem_cons.1 hp2 with rfl | hp2
    · refine ⟨g1, ht, g3, q, c, ?_, ?_⟩
      · rw [hp_set g4]; rfl
      · obtain ⟨k1, k2, cs, f, k3, k4, k5⟩ := g5
        exact ⟨k1, k2, cs, f, hT _ _ _ _ k3 (by decide), k4, k5⟩
    · have hne : p2.x ≠ p.x := fun e => by
        rw [List.map_cons, List.nodup_cons] at h4
        exact h4.1 (by rw [← e]; exact List.mem_map.2 ⟨p2, hp2, rfl⟩)
      refine (h3 p2 (List.mem_cons_of_mem _ hp2)).keep fun k o2 ho2 _ hor => ?_
      rcases hor with rfl | ⟨vs, f, rfl⟩
      · rw [hp_other hne]; exact ho2
      · exact hT _ _ _ _ ho2 (by decide)
  · obtain ⟨D, ⟨es, clock, hq, _⟩, _⟩ := h5
    rw [hq]
    exact hk _ _ hq (fun vs f e => by cases e)
/-- Another stack of texts, where nothing but the stack's block was turned. -/
theorem MkS.stack (h : MkS m s M B l deep fr o w0 w) {fr' : List Otx} (hs : TSk w' s 1099511627776 (fr'.map Otx.x)) (hg : w.grownBy w' (some s)) (hf : ∀ p ∈ fr', FrAt w B p) (hn : (fr'.map Otx.x).Nodup) : MkS m s M B l deep fr' o w0 w' := by
  obtain ⟨⟨v, hB, hv⟩, h2, h3, h4, h5, h6, h7⟩ := h
  obtain ⟨_, _, t, hsb, _⟩ := h2
  have hk : ∀ (k : Nat) (o : Obj), w.heap[k]? = some o → (∀ (vs : Array Value) (f : Nat × Nat), o ≠ .cells vs 97 f) → w'.heap[k]? = some o := fun k o ho hT => by
    rw [hg.block k (lt_of ho)]
    · exact ho
    · intro e
      cases e
      rw [hsb] at ho
      cases ho
      exact hT _ _ rfl
  have hT : ∀ (k : Nat) (vs : Array Value) (T : TypeId) (f : Nat × Nat), w.heap[k]? = some (.cells vs T f) → T ≠ 97 → w'.heap[k]? = some (.cells vs T f) := fun k vs T f ho hne => hk _ _ ho (fun vs2 f2 e => by injection e with _ e2 _; exact hne e2)
  refine ⟨⟨v, MkB.keep hB (fun _ _ h => hT _ _ _ _ h (by decide)) (fun _ _ h => hT _ _ _ _ h (by decide)), hv⟩, hs, fun p2 hp2 => (hf p2 hp2).keep fun k o2 ho2 hi _ => ?_, hn, h5.kept ?_, h6, h7.grown hg ?_ (fun k e => by cases e; exact h6.2.1)⟩
  · rcases hi with ⟨vs, f, rfl⟩ | ⟨vs, f, rfl, hf⟩
    · exact hT _ _ _ _ ho2 (by decide)
    · exact hT _ _ _ _ ho2 (by decide)
  · obtain ⟨D, ⟨es, clock, hq, _⟩, _⟩ := h5
    rw [hq]
    exact hk _ _ hq (fun vs f e => by cases e)
  · have := lt_of hsb
    have := h6.2.1
    omega
/-- A text in a new block. -/
theorem FrAt.new {w : World} {B q c : Nat} {b : List UInt8} (hB : B ≤ w.heap.size) (hb : b.length ≤ 50000) (h : TxB w q b c) : FrAt (w.alloc (.cells #[.slice (some ⟨q, 0, none⟩) b.length c, .int .i64 0] 73)) B ⟨w.heap.size, b, 0⟩ := by
  obtain ⟨h1, h2, cs, f, h3, h4, h5⟩ := h
  exact ⟨hB, Nat.zero_le _, hb, q, c, hp_new w _, h1, h2, cs, f, hp_old h3, h4, h5⟩
end
end Go.Proofs.YtfemfgkcgboopaaGreatDoor
/- maker.into. -/
namespace Go.Proofs.YtfemfgkcgboopaaGreatDoor
open Go.ChangeShapes Go.WideShapes Go.ChangeAt Go.RowKit
set_option linter.unusedVariables false
/-- 'x, ok := m.l[name]' where the map holds the first entity of each name. -/
theorem wpList_lookup_ent {w : World} {ops : Array Oper} {rest : List Oper} {o : Oper} {a : Act} {Q : Exit → Act → World → Prop}
    (hg : o.guard = none) (m x : Operand) (hop : o.op = Op.lookup 63 m x true) (M : Nat) (l : List EntT) (hm : a.eval m = .map (some M)) (h : EnI w M l) (s : List UInt8) (hx : a.eval x = .string ⟨s.toArray⟩) (hs : s.length ≤ 9000000000000000000)
    (y : EntT) (b : Bool) (hy : (fndE l s).getD noE = y) (hb : (fndE l s).isSome = b)
    (hK : wpList Tryz.prog ops Q rest (a.put o.dst (.tuple #[.agg #[.string ⟨y.nm.toArray⟩, .string ⟨y.tx.toArray⟩, .bool y.out, .string ⟨y.pub.toArray⟩, .string ⟨y.sys.toArray⟩, .string ⟨y.nt.toArray⟩], .bool b])) w) :
    wpList Tryz.prog ops Q (o :: rest) a w := by
  obtain ⟨D, h1, h2, h3⟩ := h
  refine wpList_lookup_own_ok w hg m x 63 hop 9 43 lawSg Tryz.underlying63 heldElem (zeroEnt w) (.held (entV noE)) [] rfl M l.length D hm h1 _ _ hx (keySg hs) (fun v ps hv => ?_)
  rw [h3, hy] at hv
  unfold heldElem at hv
  simp only [Option.some.injEq, Prod.mk.injEq, DataW.held.injEq] at hv
  rw [hv.1, h2, hb]
  exact hK
theorem MkS.cells {m s M B : Nat} {l : List EntT} {deep : Int} {fr : List Otx} {o : List UInt8} {w0 w : World} (h : MkS m s M B l deep fr o w0 w) : w.cell? ⟨m, 0, none⟩ = some (.map (some M)) ∧ w.cell? ⟨m, 1, none⟩ = some (.int .i64 deep) ∧ w.cell? ⟨m, 2, none⟩ = some (.pointer (some ⟨s, 0, none⟩)) := by
  obtain ⟨v, hB, _⟩ := h.bld
  obtain ⟨p, hb, _⟩ := hB.blk
  exact ⟨by rw [cell_of 0 hb]; rfl, by rw [cell_of 1 hb]; rfl, by rw [cell_of 2 hb]; rfl⟩
section
variable {m s M B : Nat} {l : List EntT} {deep : Int} {fr : List Otx} {o : List UInt8} {w0 : World}
set_option maxRecDepth 100000 in
set_option maxHeartbeats 4000000 in
theorem into_no (nm : List UInt8) (w : World) (h : MkS m s M B l deep fr o w0 w) (hs : nm.length ≤ 9000000000000000000) (hn : fndE l nm = none) :
    Calls Tryz.prog 71 #[.pointer (some ⟨m, 0, none⟩), .string ⟨nm.toArray⟩] w fun e w' => e = .returned (.int .i64 7) ∧ Below w.heap.size w w' := by
  obtain ⟨c0, c1, c2⟩ := h.cells
  have hM := h.map
  clear h
  have h1 : (fndE l nm).getD noE = noE := by rw [hn]; rfl
  have h2 : (fndE l nm).isSome = false := by rw [hn]; rfl
  clear hn
  go_enter Tryz.func71, Tryz.ntmps71
  go_wp2_with (at_lookup; refine wpList_lookup_ent rfl _ _ rfl M l rfl hM nm rfl hs noE false h1 h2 ?_)
  go_ret
  exact ⟨rfl, (Below.refl _ _).alloc (Nat.le_refl _) _⟩
set_option maxRecDepth 100000 in
set_option maxHeartbeats 4000000 in
theorem into_out (nm : List UInt8) (x : EntT) (w : World) (h : MkS m s M B l deep fr o w0 w) (hs : nm.length ≤ 9000000000000000000) (hn : fndE l nm = some x) (hx : x.out = true) :
    Calls Tryz.prog 71 #[.pointer (some ⟨m, 0, none⟩), .string ⟨nm.toArray⟩] w fun e w' => e = .returned (.int .i64 7) ∧ Below w.heap.size w w' := by
  obtain ⟨c0, c1, c2⟩ := h.cells
  have hM := h.map
  clear h
  have h1 : (fndE l nm).getD noE = x := by rw [hn]; rfl
  have h2 : (fndE l nm).isSome = true := by rw [hn]; rfl
  clear hn
  obtain ⟨xn, xt, xo, xp, xq, xr⟩ := x
  simp only at hx
  subst hx
  go_enter Tryz.func71, Tryz.ntmps71
  go_wp2_with (at_lookup; refine wpList_lookup_ent rfl _ _ rfl M l rfl hM nm rfl hs _ true h1 h2 ?_)
  go_ret
  exact ⟨rfl, (Below.refl _ _).alloc (Nat.le_refl _) _⟩
set_option maxRecDepth 100000 in
set_option maxHeartbeats 8000000 in
theorem into_deep (nm : List UInt8) (x : EntT) (w : World) (h : MkS m s M B l deep fr o w0 w) (hs : nm.length ≤ 9000000000000000000) (hn : fndE l nm = some x) (hx : x.out = false) (hd : deep < (fr.length : Int)) :
    Calls Tryz.prog 71 #[.pointer (some ⟨m, 0, none⟩), .string ⟨nm.toArray⟩] w fun e w' => e = .returned (.int .i64 11) ∧ Below w.heap.size w w' := by
  obtain ⟨c0, c1, c2⟩ := h.cells
  have hM := h.map
  have HS := Lib.hid h
  clear h
  have h1 : (fndE l nm).getD noE = x := by rw [hn]; rfl
  have h2 : (fndE l nm).isSome = true := by rw [hn]; rfl
  clear hn
  obtain ⟨xn, xt, xo, xp, xq, xr⟩ := x
  simp only at hx
  subst hx
  have hml : m < w.heap.size := World.block_lt_of_cell? w _ c0
  have d1 : (w.alloc (.cells #[.string ⟨xn.toArray⟩, .string ⟨xt.toArray⟩, .bool false, .string ⟨xp.toArray⟩, .string ⟨xq.toArray⟩, .string ⟨xr.toArray⟩] 43)).cell? ⟨m, 1, none⟩ = some (.int .i64 deep) := (((Below.refl w.heap.size w).alloc (Nat.le_refl _) _).cell hml).trans c1
  have d2 : (w.alloc (.cells #[.string ⟨xn.toArray⟩, .string ⟨xt.toArray⟩, .bool false, .string ⟨xp.toArray⟩, .string ⟨xq.toArray⟩, .string ⟨xr.toArray⟩] 43)).cell? ⟨m, 2, none⟩ = some (.pointer (some ⟨s, 0, none⟩)) := (((Below.refl w.heap.size w).alloc (Nat.le_refl _) _).cell hml).trans c2
  have CL : Hid (∀ n, Calls Tryz.prog 93 #[.pointer (some ⟨s, 0, none⟩)] ((w.alloc (.cells #[.string ⟨xn.toArray⟩, .string ⟨xt.toArray⟩, .bool false, .string ⟨xp.toArray⟩, .string ⟨xq.toArray⟩, .string ⟨xr.toArray⟩] 43)).drewN n) fun e w' => e = .returned (.int .i64 (fr.length : Nat)) ∧ w' = (w.alloc (.cells #[.string ⟨xn.toArray⟩, .string ⟨xt.toArray⟩, .bool false, .string ⟨xp.toArray⟩, .string ⟨xq.toArray⟩, .string ⟨xr.toArray⟩] 43)).drewN n) := Lib.hid fun n => by
    have h9 := tlen_of 1099511627776 (fr.map Otx.x) s _ (((HS.out.kept ((Below.refl _ w).alloc (Nat.le_refl _) (.cells #[.string ⟨xn.toArray⟩, .string ⟨xt.toArray⟩, .bool false, .string ⟨xp.toArray⟩, .string ⟨xq.toArray⟩, .string ⟨xr.toArray⟩] 43))).stk).drewN (n := n))
    rw [List.length_map] at h9
    exact h9.mono fun e w' ⟨he, hw⟩ => ⟨he, hw.symm⟩
  go_enter Tryz.func71, Tryz.ntmps71
  go_wp2_with (at_lookup; refine wpList_lookup_ent rfl _ _ rfl M l rfl hM nm rfl hs _ true h1 h2 ?_)
  go_quiet ((go_at_call 93; exact Calls.quiet_of_same (CL.out _)))
  go_wp2
  go_ret
  exact ⟨rfl, below_drewN' ((Below.refl _ _).alloc (Nat.le_refl _) _)⟩
set_option maxRecDepth 100000 in
set_option maxHeartbeats 8000000 in
theorem into_ok (nm : List UInt8) (x : EntT) (w : World) (h : MkS m s M B l deep fr o w0 w) (hs : nm.length ≤ 9000000000000000000) (hn : fndE l nm = some x) (hx : x.out = false) (hd : ¬ deep < (fr.length : Int)) (hl : fr.length ≤ 100000) (htx : x.tx.length ≤ 50000) :
    Calls Tryz.prog 71 #[.pointer (some ⟨m, 0, none⟩), .string ⟨nm.toArray⟩] w fun e w' => e = .returned (.int .i64 0) ∧ ∃ x', MkS m s M B l deep (⟨x', x.tx, 0⟩ :: fr) o w0 w' := by
  obtain ⟨c0, c1, c2⟩ := h.cells
  have hM := h.map
  have HS := Lib.hid h
  clear h
  have h1 : (fndE l nm).getD noE = x := by rw [hn]; rfl
  have h2 : (fndE l nm).isSome = true := by rw [hn]; rfl
  clear hn
  obtain ⟨xn, xt, xo, xp, xq, xr⟩ := x
  simp only at hx htx
  subst hx
  have hml : m < w.heap.size := World.block_lt_of_cell? w _ c0
  have HS1 := Lib.hid (HS.out.kept ((Below.refl _ w).alloc (Nat.le_refl _) (.cells #[.string ⟨xn.toArray⟩, .string ⟨xt.toArray⟩, .bool false, .string ⟨xp.toArray⟩, .string ⟨xq.toArray⟩, .string ⟨xr.toArray⟩] 43)))
  obtain ⟨d0, d1, d2⟩ := HS1.out.cells
  have hx1 : (w.alloc (.cells #[.string ⟨xn.toArray⟩, .string ⟨xt.toArray⟩, .bool false, .string ⟨xp.toArray⟩, .string ⟨xq.toArray⟩, .string ⟨xr.toArray⟩] 43)).cell? ⟨w.heap.size, 1, none⟩ = some (.string ⟨xt.toArray⟩) := by rw [cell_of 1 (hp_new _ _)]; rfl
  have CL : Hid (∀ n, Calls Tryz.prog 93 #[.pointer (some ⟨s, 0, none⟩)] ((w.alloc (.cells #[.string ⟨xn.toArray⟩, .string ⟨xt.toArray⟩, .bool false, .string ⟨xp.toArray⟩, .string ⟨xq.toArray⟩, .string ⟨xr.toArray⟩] 43)).drewN n) fun e w' => e = .returned (.int .i64 (fr.length : Nat)) ∧ w' = (w.alloc (.cells #[.string ⟨xn.toArray⟩, .string ⟨xt.toArray⟩, .bool false, .string ⟨xp.toArray⟩, .string ⟨xq.toArray⟩, .string ⟨xr.toArray⟩] 43)).drewN n) := Lib.hid fun n => by
    have h9 := tlen_of 1099511627776 (fr.map Otx.x) s _ ((HS1.out.stk).drewN (n := n))
    rw [List.length_map] at h9
    exact h9.mono fun e w' ⟨he, hw⟩ => ⟨he, hw.symm⟩
  obtain ⟨X, hX⟩ : ∃ X, w.heap.size = X := ⟨_, rfl⟩
  go_enter Tryz.func71, Tryz.ntmps71
  go_wp2_with (at_lookup; refine wpList_lookup_ent rfl _ _ rfl M l rfl hM nm rfl hs _ true h1 h2 ?_)
  go_quiet ((go_at_call 93; exact Calls.quiet_of_same (CL.out _)))
  go_wp2
  -- the text is laid
  have HSq : Hid (MkS m s M B l deep fr o w0 ((w.alloc (.cells #[.string ⟨xn.toArray⟩, .string ⟨xt.toArray⟩, .bool false, .string ⟨xp.toArray⟩, .string ⟨xq.toArray⟩, .string ⟨xr.toArray⟩] 43)).drewN nq).drew) := Lib.hid (HS1.out.kept (Below.drew (below_drewN' (Below.refl _ _))))
  have e2 : ((w.alloc (.cells #[.string ⟨xn.toArray⟩, .string ⟨xt.toArray⟩, .bool false, .string ⟨xp.toArray⟩, .string ⟨xq.toArray⟩, .string ⟨xr.toArray⟩] 43)).drewN nq).drew.cell? ⟨m, 2, none⟩ = some (.pointer (some ⟨s, 0, none⟩)) := d2
  have hx2 : ((w.alloc (.cells #[.string ⟨xn.toArray⟩, .string ⟨xt.toArray⟩, .bool false, .string ⟨xp.toArray⟩, .string ⟨xq.toArray⟩, .string ⟨xr.toArray⟩] 43)).drewN nq).drew.cell? ⟨X, 1, none⟩ = some (.string ⟨xt.toArray⟩) := by rw [← hX]; exact hx1
  have hXl : X < ((w.alloc (.cells #[.string ⟨xn.toArray⟩, .string ⟨xt.toArray⟩, .bool false, .string ⟨xp.toArray⟩, .string ⟨xq.toArray⟩, .string ⟨xr.toArray⟩] 43)).drewN nq).drew.heap.size := by show X < (w.alloc _).heap.size; rw [World.size_alloc]; omega
  clear hM c0 c1 c2 d0 d1 d2 hx1 CL HS HS1 h1 h2 hml hX
  generalize ((w.alloc (.cells #[.string ⟨xn.toArray⟩, .string ⟨xt.toArray⟩, .bool false, .string ⟨xp.toArray⟩, .string ⟨xq.toArray⟩, .string ⟨xr.toArray⟩] 43)).drewN nq) = wq at *
  have hcv := run_toBytes wq.drew xt
  have kV : Below wq.drew.heap.size wq.drew (Lib.bytesWorld wq.drew 5 ⟨xt.toArray⟩) := Lib.bytesWorld_below _ _ _
  have HSV := Lib.hid (HSq.out.kept kV)
  have hTx := TxB.new wq.drew xt (by omega)
  have hVs := Lib.bytesWorld_size wq.drew 5 ⟨xt.toArray⟩
  have hge := HSq.out.ge.2.1
  have hsl := HSq.out.stk.lt
  have hV2 := HSV.out.cells.2.2
  generalize Lib.bytesWorld wq.drew 5 ⟨xt.toArray⟩ = V at *
  have HSW := Lib.hid (HSV.out.kept ((Below.refl _ V).alloc (Nat.le_refl _) (.cells #[.slice (some ⟨wq.heap.size, 0, none⟩) xt.length (grownCap wq.drew xt.length 0 5), .int .i64 0] 73)))
  have hW2 := HSW.out.cells.2.2
  have hVs2 : V.heap.size = wq.heap.size + 1 := hVs
  have HFN : Hid (FrAt (V.alloc (.cells #[.slice (some ⟨wq.heap.size, 0, none⟩) xt.length (grownCap wq.drew xt.length 0 5), .int .i64 0] 73)) B ⟨wq.heap.size + 1, xt, 0⟩) := Lib.hid (by
    rw [← hVs2]
    exact FrAt.new (by have : s < wq.heap.size := hsl; omega) htx hTx)
  have CP : Hid (Calls Tryz.prog 25 #[.pointer (some ⟨s, 0, none⟩), .pointer (some ⟨wq.heap.size + 1, 0, none⟩)] (V.alloc (.cells #[.slice (some ⟨wq.heap.size, 0, none⟩) xt.length (grownCap wq.drew xt.length 0 5), .int .i64 0] 73)) fun e w' => e = .returned (.int .i64 0) ∧ ∃ x', MkS m s M B l deep (⟨x', xt, 0⟩ :: fr) o w0 w') := Lib.hid (by
    refine (tpush_ok 1099511627776 (wq.heap.size + 1) (fr.map Otx.x) s _ HSW.out.stk (by rw [List.length_map]; omega)).mono fun e w' ⟨he, hs', hg⟩ => ⟨he, wq.heap.size + 1, ?_⟩
    refine HSW.out.stack hs' hg (fun p hp => ?_) ?_
    · rcases List.mem_cons.1 hp with rfl | hp
      · exact HFN.out
      · exact HSW.out.frs p hp
    · rw [List.map_cons, List.nodup_cons]
      refine ⟨fun hm => ?_, HSV.out.apart⟩
      obtain ⟨p, hp, he⟩ := List.mem_map.1 hm
      obtain ⟨_, _, _, q, c, hb, _⟩ := HSV.out.frs p hp
      have := lt_of hb
      rw [he, hVs2] at this
      exact Nat.lt_irrefl _ this)
  clear HFN HSV HSq hTx kV hVs2 hXl
  go_region_with (go_at_call 25; (with_reducible refine CP.out.mono ?_); rintro e w5 ⟨rfl, hend⟩)
  all_goals
    have HEND := Lib.hid hend
    clear hend HSW CP
    go_wp2
    go_ret
    exact ⟨rfl, HEND.out⟩
end
end Go.Proofs.YtfemfgkcgboopaaGreatDoor
