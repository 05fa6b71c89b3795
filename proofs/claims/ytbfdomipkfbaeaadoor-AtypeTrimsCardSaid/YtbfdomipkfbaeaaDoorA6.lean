/- Texts of ours, joined: Lit4, RowS, RowG, AtP, AtC, AtW, AtT. -/
import Derived.Test.YtbfdomipkfbaeaaDoorRows
import Derived.WalkKit
import Derived.ProofKit
import Derived.OpenShut
import Derived.ShutString
import Derived.ChangeOld
import Derived.Below
import Derived.BigQuiet
import Derived.Deep.QuietTactic
import Derived.Lib.Hide
import Derived.Deep.RegionHeld3
import Derived.Lib.SlBytesConst
import Derived.Laws.CopyOwn
import Derived.Laws.CopyRow
import Derived.Lib.Bytes
import Derived.Deep.LoopGhost
import Derived.Deep.DeepFit
import Derived.Deep.DeepMust
import Derived.WalkSpells
import Derived.WalkLawsBesides
import Derived.Test.YtbfdomipkfbaeaaDoorA1
import Derived.Test.YtbfdomipkfbaeaaDoorA2
import Derived.Test.YtbfdomipkfbaeaaDoorA3
import Derived.Test.YtbfdomipkfbaeaaDoorA4
import Derived.Test.YtbfdomipkfbaeaaDoorA5
import Derived.Maps.OwnOps
import Derived.Maps.OwnSet
import Derived.Maps.Views
import Derived.Laws.EntriesVeiled
import Derived.Laws.Rows
import Derived.Maps.AppendAt
import Derived.Lib.SmallJoins
import Derived.Deep.AppendLies
import Derived.Deep.RegionLaw
import Derived.Deep.RegionWith
import Derived.Lib.SlTrimSet
import Derived.Laws.World
import Derived.Lib.SliceRun
/- lit.read, Value. -/
namespace Go.Proofs.YtbfdomipkfbaeaaDoor
open Go.ChangeShapes Go.WideShapes Go.ChangeAt Go.RowKit
set_option linter.unusedVariables false
theorem without1_c (c : UInt8) (l : List UInt8) (a : Nat) (w : World) (ha : w.cell? ⟨a, 0, none⟩ = some (.int .u8 c.toNat)) :
    Calls Tryd.prog 157 #[.string ⟨l.toArray⟩, .pointer (some ⟨a, 0, none⟩)] w fun e w' => e = .returned (.int .i64 (if 0 ≤ Lib.indexByte l c then 7 else 0)) ∧ w = w' := by
  have hi := Tryd.strings_IndexByte ⟨l.toArray⟩ (c.toNat : Int) w
  rw [show ((c.toNat : Int).toNat.toUInt8) = c by simp] at hi
  have hi' : Calls Tryd.prog 158 #[.string ⟨l.toArray⟩, .int .u8 (c.toNat : Int)] w fun e w' => e = .returned (.int .i64 (Lib.indexByte l c)) ∧ w' = w := hi
  have HI := Lib.hid hi'
  clear hi hi'
  generalize Lib.indexByte l c = ix at *
  generalize (c.toNat : Int) = cn at *
  by_cases h0 : 0 ≤ ix
  · have hd : decide (0 ≤ ix) = true := by simpa using h0
    rw [if_pos h0]
    go_enter Tryd.func157, Tryd.ntmps157
    go_wp2_with fail
    refine HI.out.mono ?_
    rintro e w1 ⟨rfl, rfl⟩
    go_wp2
    go_ret
    exact ⟨rfl, rfl⟩
  · have hd : decide (0 ≤ ix) = false := by simpa using h0
    rw [if_neg h0]
    go_enter Tryd.func157, Tryd.ntmps157
    go_wp2_with fail
    refine HI.out.mono ?_
    rintro e w1 ⟨rfl, rfl⟩
    go_wp2
    go_ret
    exact ⟨rfl, rfl⟩
theorem refsR_c (l : List UInt8) (w : World) (hT : Tabs w) (hF : Forms w) (hm : l.length ≤ 40000) :
    Calls Tryd.prog 136 #[.string ⟨l.toArray⟩] w fun e w' => e = .returned (.int .i64 (refsOut l).2) ∧ Below w.heap.size w w' := by
  have HR := Lib.hid (refs_c l w hT hF hm)
  clear hT hF
  generalize refsOut l = r at *
  obtain ⟨r1, r2⟩ := r
  go_enter Tryd.func136, Tryd.ntmps136
  go_wp2_with fail
  refine HR.out.mono ?_
  rintro e w1 ⟨rfl, hb⟩
  have HB := Lib.hid hb
  clear hb
  go_wp2
  go_ret
  exact ⟨rfl, HB.out⟩
def wV (a : Nat) : Value := .func (.func 157) #[] #[.pointer (some ⟨a, 0, none⟩)]
theorem without_c (c : Int) (w : World) : Calls Tryd.prog 135 #[.int .u8 c] w fun e w' => e = .returned (wV w.heap.size) ∧ w.alloc (.cells #[.int .u8 c] 5) = w' := by
  unfold wV
  go_enter Tryd.func135, Tryd.ntmps135
  go_wp2
  go_ret
  exact ⟨rfl, rfl⟩
/-- What stands between quotes, without a byte, each reference one. -/
def strictAt (but : UInt8) (l : List UInt8) (at_ : Int) : List UInt8 × Nat × Nat :=
  if (quotedAt l at_).2.2 ≠ 0 then ([], 0, (quotedAt l at_).2.2)
  else if 0 ≤ Lib.indexByte (quotedAt l at_).1 but then ([], 0, 7)
  else if (refsOut (quotedAt l at_).1).2 ≠ 0 then ([], 0, (refsOut (quotedAt l at_).1).2)
  else ((quotedAt l at_).1, (quotedAt l at_).2.1, 0)
theorem quotedAt_le (l : List UInt8) (at_ : Int) : (quotedAt l at_).1.length ≤ l.length := by
  unfold quotedAt quotedOut quotedQ
  split
  · simp
  · split
    · simp
    · split
      · split
        · simp
        · simp only [List.length_take, List.length_drop]; omega
      · simp
set_option maxRecDepth 100000 in
set_option maxHeartbeats 4000000 in
theorem litRead_c (A : Option Addr) (n cap : Nat) (l : List UInt8) (at_ : Int) (but : UInt8) (a g : Nat) (w : World) (h : Byt w w.heap.size A n cap l) (hT : Tabs w) (hF : Forms w) (hm : n ≤ 40000)
    (ha : w.cell? ⟨a, 0, none⟩ = some (.int .u8 but.toNat)) (hal : a < w.heap.size) (hg : w.heap[g]? = some (.cells #[wV a, .func (.func 136) #[] #[]] 168)) :
    Calls Tryd.prog 134 #[.slice A n cap, .int .i64 at_, .slice (some ⟨g, 0, none⟩) 2 2] w fun e w' => e = .returned (outV (strictAt but l at_)) ∧ Below w.heap.size w w' := by
  have hL := hT.low hF
  have hgl := lt_of hg
  have HQ := Lib.hid (quoted_c A n cap l at_ w _ h (by omega))
  have hql := quotedAt_le l at_
  rw [h.length] at hql
  have HS : Hid (strictAt but l at_ = if (quotedAt l at_).2.2 ≠ 0 then ([], 0, (quotedAt l at_).2.2) else if 0 ≤ Lib.indexByte (quotedAt l at_).1 but then ([], 0, 7) else if (refsOut (quotedAt l at_).1).2 ≠ 0 then ([], 0, (refsOut (quotedAt l at_).1).2) else ((quotedAt l at_).1, (quotedAt l at_).2.1, 0)) := Lib.hid rfl
  have HW : Hid (∀ w1, Below w.heap.size w w1 → Calls Tryd.prog 157 #[.string ⟨(quotedAt l at_).1.toArray⟩, .pointer (some ⟨a, 0, none⟩)] w1 fun e w' => e = .returned (.int .i64 (if 0 ≤ Lib.indexByte (quotedAt l at_).1 but then 7 else 0)) ∧ w1 = w') := Lib.hid fun w1 hb => without1_c but _ a w1 (by rw [hb.cell hal]; exact ha)
  have HR : Hid (∀ w1, Below w.heap.size w w1 → Calls Tryd.prog 136 #[.string ⟨(quotedAt l at_).1.toArray⟩] w1 fun e w' => e = .returned (.int .i64 (refsOut (quotedAt l at_).1).2) ∧ Below w1.heap.size w1 w') := Lib.hid fun w1 hb => refsR_c _ w1 (hT.below hb hL) (hF.below hb hF.lt) (by omega)
  have HG : Hid (∀ w1, Below w.heap.size w w1 → w1.cell? ⟨g, 0, none⟩ = some (wV a) ∧ w1.cell? ⟨g, 1, none⟩ = some (.func (.func 136) #[] #[])) := Lib.hid fun w1 hb => by
    have := (hb.block g hgl).trans hg
    exact ⟨by rw [cell_of 0 this]; rfl, by rw [cell_of 1 this]; rfl⟩
  clear h hT hF hL ha hg hql hm hal
  generalize strictAt but l at_ = res at *
  generalize quotedAt l at_ = q at *
  obtain ⟨s, k, f⟩ := q
  simp only at HS HW HR
  unfold outV at HQ
  unfold wV at HG
  by_cases hf : f = 0
  · subst hf
    go_enter Tryd.func134, Tryd.ntmps134
    go_wp2_with fail
    refine HQ.out.mono ?_
    rintro e w1 ⟨rfl, m, hw1⟩
    have B1 : Hid (Below w.heap.size w w1) := Lib.hid (by rw [hw1]; exact below_drewN' (Below.refl _ _))
    clear hw1
    go_wp2_with fail
    go_loopg [27] (3) (fun g i wr => ∃ j : Nat, j ≤ 2 ∧ Hid (g + j = 3) ∧ i = .int .i64 (j : Int) ∧ Hid (Below w.heap.size w wr) ∧ Hid ((1 ≤ j → ¬ 0 ≤ Lib.indexByte s but) ∧ (2 ≤ j → (refsOut s).2 = 0)))
    case atStart => exact ⟨0, by omega, Lib.hid rfl, rfl, B1, Lib.hid ⟨fun h => absurd h (by omega), fun h => absurd h (by omega)⟩⟩
    case round =>
      obtain ⟨j, hj, hg, rfl, BR, HJ⟩ := hrel
      have hg0 := (HG.out wr BR.out).1
      have hg1 := (HG.out wr BR.out).2
      rcases (show j = 0 ∨ j = 1 ∨ j = 2 by omega) with rfl | rfl | rfl
      · have HWW := Lib.hid (HW.out wr BR.out)
        by_cases hb : 0 ≤ Lib.indexByte s but
        · rw [if_pos hb] at HWW
          have HE : Hid (res = ([], 0, 7)) := Lib.hid (by rw [HS.out, if_neg (by simp), if_pos hb])
          go_wp2_with fail
          refine HWW.out.mono ?_
          rintro e w2 ⟨rfl, rfl⟩
          go_wp2
          go_ret3
          rw [HE.out]
          exact ⟨rfl, BR.out⟩
        · rw [if_neg hb] at HWW
          have HB := Lib.hid hb
          clear hb
          go_wp2_with fail
          refine HWW.out.mono ?_
          rintro e w2 ⟨rfl, rfl⟩
          go_wp2
          go_roundg (2)
          case measure => have := hg.out; omega
          case rel => exact ⟨1, by omega, Lib.hid (by omega), rfl, BR, Lib.hid ⟨fun _ => HB.out, fun h => absurd h (by omega)⟩⟩
      · have HRR := Lib.hid (HR.out wr BR.out)
        generalize hr : (refsOut s).2 = r at *
        by_cases hb : r = 0
        · have HB := Lib.hid hb
          subst hb
          go_wp2_with fail
          refine HRR.out.mono ?_
          rintro e w2 ⟨rfl, hb⟩
          have B2 : Hid (Below w.heap.size w w2) := Lib.hid (BR.out.trans (hb.mono BR.out.size))
          clear hb
          go_wp2
          go_roundg (1)
          case measure => have := hg.out; omega
          case rel => exact ⟨2, by omega, Lib.hid (by omega), rfl, B2, Lib.hid ⟨fun _ => HJ.out.1 (by omega), fun _ => by trivial⟩⟩
        · have HE : Hid (res = ([], 0, r)) := Lib.hid (by rw [HS.out, if_neg (by simp), if_neg (HJ.out.1 (by omega)), if_pos hb])
          have hrz : ((r : Int) != 0) = true := by simp; omega
          clear hb hr
          go_wp2_with fail
          refine HRR.out.mono ?_
          rintro e w2 ⟨rfl, hb⟩
          have B2 : Hid (Below w.heap.size w w2) := Lib.hid (BR.out.trans (hb.mono BR.out.size))
          clear hb
          go_wp2
          go_ret3
          rw [HE.out]
          exact ⟨rfl, B2.out⟩
      · have HE : Hid (res = (s, k, 0)) := Lib.hid (by rw [HS.out, if_neg (by simp), if_neg (HJ.out.1 (by omega)), if_neg (by rw [HJ.out.2 (by omega)]; simp)])
        go_wp2
        go_ret3
        rw [HE.out]
        exact ⟨rfl, BR.out⟩
  · have HE : Hid (res = ([], 0, f)) := Lib.hid (by rw [HS.out, if_pos hf])
    have hfz : ((f : Int) != 0) = true := by simp; omega
    clear hf
    go_enter Tryd.func134, Tryd.ntmps134
    go_wp2_with fail
    refine HQ.out.mono ?_
    rintro e w1 ⟨rfl, m, hw1⟩
    have B1 : Hid (Below w.heap.size w w1) := Lib.hid (by rw [hw1]; exact below_drewN' (Below.refl _ _))
    clear hw1
    go_wp2
    go_ret3
    rw [HE.out]
    exact ⟨rfl, B1.out⟩
set_option maxRecDepth 100000 in
set_option maxHeartbeats 4000000 in
theorem litValue_c (A : Option Addr) (n cap : Nat) (l : List UInt8) (at_ : Int) (w : World) (h : Byt w w.heap.size A n cap l) (hT : Tabs w) (hF : Forms w) (hm : n ≤ 40000) :
    Calls Tryd.prog 106 #[.slice A n cap, .int .i64 at_] w fun e w' => e = .returned (outV (strictAt 60 l at_)) ∧ Below w.heap.size w w' := by
  have hL := hT.low hF
  have b1 : Below w.heap.size w (w.alloc (.cells #[.int .u8 60] 5)) := (Below.refl _ _).alloc (Nat.le_refl _) _
  have b2 : Below w.heap.size w ((w.alloc (.cells #[.int .u8 60] 5)).alloc (.cells #[wV w.heap.size, .func (.func 136) #[] #[]] 168)) := b1.alloc (by simp) _
  have hg := hp_new (w.alloc (.cells #[.int .u8 60] 5)) (.cells #[wV w.heap.size, .func (.func 136) #[] #[]] 168)
  have ha : ((w.alloc (.cells #[.int .u8 60] 5)).alloc (.cells #[wV w.heap.size, .func (.func 136) #[] #[]] 168)).cell? ⟨w.heap.size, 0, none⟩ = some (.int .u8 (60 : UInt8).toNat) := by
    rw [cell_of 0 (hp_old (hp_new w _))]; rfl
  have c1 := litRead_c A n cap l at_ 60 w.heap.size _ _ ((h.below b2).more b2.size) (hT.below b2 hL) (hF.below b2 hF.lt) hm ha (by simp; omega) hg
  rw [show (w.alloc (.cells #[.int .u8 60] 5)).heap.size = w.heap.size + 1 by simp] at c1
  have hs2 : ((w.alloc (.cells #[.int .u8 60] 5)).alloc (.cells #[wV w.heap.size, .func (.func 136) #[] #[]] 168)).heap.size = w.heap.size + 2 := by simp
  have C1 := Lib.hid c1
  have HB2 := Lib.hid b2
  have HS2 := Lib.hid hs2
  clear c1 b1 b2 hg ha hs2 h hT hF hL
  generalize strictAt 60 l at_ = res at *
  obtain ⟨s, k, f⟩ := res
  unfold outV wV at *
  go_enter Tryd.func106, Tryd.ntmps106
  go_wp2_with fail
  refine (without_c 60 w).mono ?_
  rintro e w1 ⟨rfl, rfl⟩
  unfold wV
  go_wp2_with fail
  refine C1.out.mono ?_
  rintro e w2 ⟨rfl, hb⟩
  have B2 : Hid (Below w.heap.size w w2) := Lib.hid (HB2.out.trans (hb.mono (by rw [HS2.out]; omega)))
  clear hb
  go_wp2
  go_ret3
  exact ⟨rfl, B2.out⟩
end Go.Proofs.YtbfdomipkfbaeaaDoor
/- Rows of strings of the call's own. -/
namespace Go.Proofs.YtbfdomipkfbaeaaDoor
open Go.ChangeShapes Go.WideShapes Go.ChangeAt Go.RowKit
set_option linter.unusedVariables false
theorem ownsRow_keep {w w' : World} {base : Nat} {e : TypeId} {c n : Nat} {v : Value} {xs : List Value} (h : w.ownsRow base e c v n xs) (hk : ∀ g, base ≤ g → g < w.heap.size → w'.heap[g]? = w.heap[g]?) : w'.ownsRow base e c v n xs := by
  obtain ⟨hl, h2 | ⟨g, cap, cur, hv, hg, hh, r⟩⟩ := h
  · exact ⟨hl, Or.inl h2⟩
  · exact ⟨hl, Or.inr ⟨g, cap, cur, hv, hg, (hk g hg (lt_of hh)).trans hh, r⟩⟩
theorem cell_newN (w : World) (us : List Value) (T : TypeId) : ∀ (j : Nat) (v : Value), us[j]? = some v → (w.alloc (.cells us.toArray T)).cell? ((⟨w.heap.size, 0, none⟩ : Addr).add j) = some v := by
  intro j v hv
  rw [addr_add, cell_of _ (hp_new _ _)]
  simpa using hv
/-- 'out = append(out, u)' onto a row of the call's own, the element's cells lying in a block just made. -/
theorem wpList_appK {P : Program} {ops : Array Oper} {rest : List Oper} {o : Oper} {a : Act} {Q : Exit → Act → World → Prop} {w : World} (hgd : o.guard = none) (s x : Operand) (t e : TypeId)
    (ho : o.op = .call { callee := .builtin .append, args := #[s, x], argTypes := #[t, t] }) (z : Value) (k bytes : Nat) (ht : P.underlying t = some (.slice e))
    (hi : ∃ i, P.info? e = some i ∧ i.zero = some z ∧ i.size = k ∧ i.bytes = bytes) (hzs : z.cells.size = k) (hk : 0 < k)
    (base : Nat) (v : Value) (n : Nat) (xs : List Value) (hs : a.eval s = v) (hown : w.ownsRow base e k v n xs) (us : List Value) (us' : Array Value) (hus : us' = us.toArray) (hx : a.eval x = .slice (some ⟨w.heap.size, 0, none⟩) 1 1)
    (hl : us.length = k) (h1 : ∀ u ∈ us, u.oneCell' = true) (hn : n ≤ 1000000000) (hby : bytes ≤ 1000) (hbase : base ≤ w.heap.size)
    (h : ∀ v' w', w'.ownsRow base e k v' (n + 1) (xs ++ us) → (w.alloc (.cells us' e)).grownBy w' v.ownBlock → (v'.ownBlock = v.ownBlock ∨ v'.ownBlock = some (w.heap.size + 1)) → wpList P ops Q rest (a.put o.dst v') w') : wpList P ops Q (o :: rest) a (w.alloc (.cells us' e)) := by
  subst hus
  obtain ⟨i, hi, hz, hsz, hbt⟩ := hi
  refine wpList_append_own_at _ hgd s x t ho base e i z k bytes ht hi hz hsz hbt hzs hk v n xs hs (hown.alloc _) ⟨w.heap.size, 0, none⟩ 1 1 us hx (by omega) (cell_newN w us e) h1 (by unfold maxLen; omega) ?_ (by simp; omega) fun v' w' hown' hgrow _ hat => h v' w' hown' hgrow (by rw [World.size_alloc] at hat; exact hat)
  have : (n + 1) * bytes ≤ 1000000001 * 1000 := Nat.mul_le_mul (by omega) hby
  omega
theorem info_str : ∃ i, Tryd.prog.info? 9 = some i ∧ i.zero = some (.string ⟨#[]⟩) ∧ i.size = 1 ∧ i.bytes = 16 := by
  obtain ⟨i, h1, h2, h3, h4⟩ := info_parts (show (Tryd.prog.info? 9).map (fun i => (i.zero, i.size, i.bytes)) = some (some (.string ⟨#[]⟩), 1, 16) by kernel_rfl)
  exact ⟨i, h1, h2, h3, h4⟩
def strV (s : List UInt8) : Value := .string ⟨s.toArray⟩
/-- A row of strings of the call's own. -/
def OwnS (w : World) (base : Nat) (v : Value) (op : List (List UInt8)) : Prop := w.ownsRow base 9 1 v op.length (op.map strV)
theorem OwnS.start (w : World) (base : Nat) : OwnS w base (.slice none 0 0) [] := ⟨rfl, .inl ⟨rfl, rfl⟩⟩
theorem OwnS.kept {w w' : World} {base : Nat} {v : Value} {op : List (List UInt8)} (h : OwnS w base v op) (hb : Below w.heap.size w w') : OwnS w' base v op := ownsRow_keep h fun g _ hg => hb.block g hg
theorem OwnS.form {w : World} {base : Nat} {v : Value} {op : List (List UInt8)} (h : OwnS w base v op) : ∃ A c, v = .slice A op.length c := by
  obtain ⟨hl, ⟨hv, h0⟩ | ⟨g, cap, cur, hv, r⟩⟩ := h
  · exact ⟨none, 0, by rw [hv, h0]⟩
  · exact ⟨_, cap, hv⟩
theorem OwnS.cells {w : World} {base : Nat} {ad : Addr} {n c : Nat} {op : List (List UInt8)} (h : OwnS w base (.slice (some ad) n c) op) : ∀ (j : Nat) u, (op.map strV)[j]? = some u → w.cell? (ad.add j) = some u := by
  obtain ⟨hl, ⟨hv, _⟩ | ⟨g, cap, cur, hv, hg, hh, hn, hc, hs, ht⟩⟩ := h
  · cases hv
  · injection hv with h1 h2 h3
    cases h1
    intro j u hu
    have hj : j < op.length := by have := (List.getElem?_eq_some_iff.1 hu).1; rwa [List.length_map] at this
    rw [addr_add, cell_of _ hh, Nat.zero_add]
    rw [← ht, List.getElem?_take_of_lt (by omega)] at hu
    simpa using hu
theorem OwnS.lit (w : World) (base : Nat) (hb : base ≤ w.heap.size) : OwnS (w.alloc (.cells #[] 9)) base (.slice (some ⟨w.heap.size, 0, none⟩) 0 0) [] :=
  ⟨rfl, .inr ⟨w.heap.size, 0, #[], rfl, hb, hp_new _ _, Nat.le_refl _, Nat.zero_le _, rfl, rfl⟩⟩

end Go.Proofs.YtbfdomipkfbaeaaDoor
/- Rows of elements of so many cells, whatever they are. -/
namespace Go.Proofs.YtbfdomipkfbaeaaDoor
open Go.ChangeShapes Go.WideShapes Go.ChangeAt Go.RowKit
set_option linter.unusedVariables false
/-- A row whose elements take k cells each, that can be read (whatever the elements are). -/
structure RRd {α : Type} (c : α → List Value) (k : Nat) (w : World) (B : Nat) (A : Option Addr) (n cap : Nat) (xs : List α) : Prop where
  len : xs.length = n
  le : n ≤ cap
  fit : cap ≤ maxLen
  nil : A = none → cap = 0
  at_ : 0 < cap → ∃ b o, A = some ⟨b, o, none⟩ ∧ b < B ∧ ∀ i x, xs[i]? = some x → ∀ (j : Nat) u, (c x)[j]? = some u → w.cell? ⟨b, o + (i * k + j), none⟩ = some u
theorem RRd.keep {α : Type} {c : α → List Value} {k : Nat} {w w' : World} {B n cap : Nat} {A : Option Addr} {xs : List α} (h : RRd c k w B A n cap xs) (hk : ∀ p : Addr, p.block < B → w'.cell? p = w.cell? p) : RRd c k w' B A n cap xs :=
  ⟨h.len, h.le, h.fit, h.nil, fun h0 => by
    obtain ⟨b, o, e, hb, hc⟩ := h.at_ h0
    exact ⟨b, o, e, hb, fun i x hx j u hu => (hk ⟨b, _, none⟩ hb).trans (hc i x hx j u hu)⟩⟩
theorem RRd.more {α : Type} {c : α → List Value} {k : Nat} {w : World} {B B' n cap : Nat} {A : Option Addr} {xs : List α} (h : RRd c k w B A n cap xs) (hB : B ≤ B') : RRd c k w B' A n cap xs :=
  ⟨h.len, h.le, h.fit, h.nil, fun h0 => by
    obtain ⟨b, o, e, hb, hc⟩ := h.at_ h0
    exact ⟨b, o, e, by omega, hc⟩⟩
theorem RRd.below {α : Type} {c : α → List Value} {k : Nat} {w w' : World} {B n cap : Nat} {A : Option Addr} {xs : List α} (h : RRd c k w B A n cap xs) (hb : Below B w w') : RRd c k w' B A n cap xs := h.keep fun p hp => hb.cell hp
theorem RRd.up {α : Type} {c : α → List Value} {k : Nat} {w w' : World} {n cap : Nat} {A : Option Addr} {xs : List α} (h : RRd c k w w.heap.size A n cap xs) (hb : Below w.heap.size w w') : RRd c k w' w'.heap.size A n cap xs := (h.below hb).more hb.size
theorem RRd.drewN {α : Type} {c : α → List Value} {k : Nat} {w : World} {B n cap m : Nat} {A : Option Addr} {xs : List α} (h : RRd c k w B A n cap xs) : RRd c k (w.drewN m) B A n cap xs := h.keep (w' := w.drewN m) fun _ _ => rfl
theorem RRd.nilR {α : Type} (c : α → List Value) (k : Nat) (w : World) (B : Nat) : RRd c k w B none 0 0 [] := ⟨rfl, Nat.le_refl _, Nat.zero_le _, fun _ => rfl, fun h => absurd h (by omega)⟩
theorem RRd.cell {α : Type} {c : α → List Value} {k : Nat} {w : World} {B n cap : Nat} {A : Option Addr} {xs : List α} {i : Nat} (h : RRd c k w B A n cap xs) (hi : i < n) :
    ∃ b o x, A = some ⟨b, o, none⟩ ∧ b < B ∧ xs[i]? = some x ∧ ∀ (j : Nat) u, (c x)[j]? = some u → w.cell? ⟨b, o + (i * k + j), none⟩ = some u := by
  obtain ⟨b, o, e, hb, hc⟩ := h.at_ (by have := h.le; omega)
  have hl : i < xs.length := by rw [h.len]; exact hi
  exact ⟨b, o, xs[i], e, hb, List.getElem?_eq_getElem hl, hc i _ (List.getElem?_eq_getElem hl)⟩
theorem flat_get {α : Type} {c : α → List Value} {k : Nat} (hk : ∀ x, (c x).length = k) : ∀ (xs : List α) (i : Nat) (x : α), xs[i]? = some x → ∀ (j : Nat) u, (c x)[j]? = some u → (xs.flatMap c)[i * k + j]? = some u
  | [], i, x, h, j, u, hu => by simp at h
  | y :: xs, 0, x, h, j, u, hu => by
    simp at h
    subst h
    have hj : j < (c y).length := (List.getElem?_eq_some_iff.1 hu).1
    rw [List.flatMap_cons, Nat.zero_mul, Nat.zero_add, List.getElem?_append_left hj]
    exact hu
  | y :: xs, i + 1, x, h, j, u, hu => by
    rw [List.flatMap_cons, List.getElem?_append_right (by rw [hk, Nat.add_mul]; omega), hk, show (i + 1) * k + j - k = i * k + j by rw [Nat.add_mul]; omega]
    exact flat_get hk xs i x (by simpa using h) j u hu
theorem flat_len {α : Type} {c : α → List Value} {k : Nat} (hk : ∀ x, (c x).length = k) : ∀ xs : List α, (xs.flatMap c).length = xs.length * k
  | [] => by simp
  | y :: xs => by rw [List.flatMap_cons, List.length_append, hk, flat_len hk xs, List.length_cons, Nat.add_mul]; omega
/-- A row that the call made is one that can be read. -/
theorem RRd.ofOwn {α : Type} {c : α → List Value} {k : Nat} (hk : ∀ x, (c x).length = k) (h0 : 0 < k) {w : World} {base : Nat} {e : TypeId} {v : Value} {n : Nat} {xs : List α} (h : w.ownsRow base e k v n (xs.flatMap c)) : ∃ A cp, v = .slice A n cp ∧ RRd c k w w.heap.size A n cp xs := by
  obtain ⟨hl, h2 | ⟨g, cap, cur, hv, hg, hh, hn, hc, hs, ht⟩⟩ := h
  · obtain ⟨hv, hn⟩ := h2
    subst hn
    rw [flat_len hk] at hl
    have : xs = [] := List.length_eq_zero_iff.1 (by
      rcases Nat.eq_zero_or_pos xs.length with h | h
      · exact h
      · have := Nat.mul_pos h h0
        omega)
    subst this
    exact ⟨none, 0, hv, RRd.nilR c k w _⟩
  · rw [flat_len hk] at hl
    have hnx : xs.length = n := Nat.eq_of_mul_eq_mul_right h0 hl
    refine ⟨_, cap, hv, hnx, hn, hc, (fun e => by cases e), fun _ => ⟨g, 0, rfl, lt_of hh, fun i p hp j u hu => ?_⟩⟩
    have hi : i < xs.length := (List.getElem?_eq_some_iff.1 hp).1
    have hj : j < k := by rw [← hk p]; exact (List.getElem?_eq_some_iff.1 hu).1
    have hcp := flat_get hk xs i p hp j u hu
    have hlt : i * k + j < n * k := by
      have : (i + 1) * k ≤ n * k := Nat.mul_le_mul_right _ (by omega)
      rw [Nat.add_mul] at this
      omega
    rw [← ht, List.getElem?_take_of_lt hlt] at hcp
    rw [cell_of _ hh, Nat.zero_add]
    simpa using hcp
end Go.Proofs.YtbfdomipkfbaeaaDoor
/- Values without needless blanks. -/
namespace Go.Proofs.YtbfdomipkfbaeaaDoor
open Go.ChangeShapes Go.WideShapes Go.ChangeAt Go.RowKit
set_option linter.unusedVariables false
/-- Blanks that follow on blanks go; p: was a blank last? -/
def compW : Bool → List UInt8 → List UInt8
  | _, [] => []
  | p, c :: t => if c = 32 then (if p = true then compW true t else 32 :: compW true t) else c :: compW false t
def dropT (l : List UInt8) : List UInt8 := if l.getLast? = some 32 then l.dropLast else l
/-- A value without needless blanks. -/
def trimT (s : List UInt8) : List UInt8 := dropT (compW true s)
/-- As the document goes over it. -/
def tR : List UInt8 → List UInt8 → List UInt8
  | out, [] => out
  | out, c :: t => if c ≠ 32 then tR (out ++ [c]) t else if out ≠ [] ∧ out.getLast? ≠ some 32 then tR (out ++ [32]) t else tR out t
def skipB (out : List UInt8) : Bool := out.isEmpty || decide (out.getLast? = some 32)
theorem skip_snoc (out : List UInt8) (c : UInt8) : skipB (out ++ [c]) = decide (c = 32) := by
  simp [skipB]
theorem tR_comp : ∀ (t out : List UInt8), tR out t = out ++ compW (skipB out) t
  | [], out => by simp [tR, compW]
  | c :: t, out => by
    rw [tR, compW]
    by_cases hc : c = 32
    · subst hc
      rw [if_neg (by simp), if_pos rfl]
      cases hs : skipB out with
      | true =>
        have : ¬ (out ≠ [] ∧ out.getLast? ≠ some 32) := by
          simp only [skipB, Bool.or_eq_true, List.isEmpty_iff, decide_eq_true_eq] at hs
          rintro ⟨a, b⟩
          rcases hs with h | h
          · exact a h
          · exact b h
        rw [if_neg this, if_pos rfl, tR_comp t out, hs]
      | false =>
        have : out ≠ [] ∧ out.getLast? ≠ some 32 := by
          simp only [skipB, Bool.or_eq_false_iff, decide_eq_false_iff_not] at hs
          exact ⟨fun e => by rw [e] at hs; exact absurd hs.1 (by decide), hs.2⟩
        rw [if_pos this, if_neg (by simp), tR_comp t (out ++ [32]), skip_snoc]
        simp
    · rw [if_pos hc, if_neg hc, tR_comp t (out ++ [c]), skip_snoc, decide_eq_false hc]
      simp
theorem tR_all (s : List UInt8) : dropT (tR [] s) = trimT s := by
  rw [tR_comp]
  rfl
/-- Nothing needless: no two blanks, and none at the head if p. -/
def neatB : Bool → List UInt8 → Bool
  | _, [] => true
  | p, c :: t => if c = 32 then (!p && neatB true t) else neatB false t
theorem comp_neat : ∀ (s : List UInt8) (p : Bool), neatB p (compW p s) = true
  | [], p => rfl
  | c :: t, p => by
    rw [compW]
    by_cases hc : c = 32
    · rw [if_pos hc]
      cases p with
      | true => rw [if_pos rfl]; exact comp_neat t true
      | false => rw [if_neg (by simp), neatB, if_pos rfl]; simpa using comp_neat t true
    · rw [if_neg hc, neatB, if_neg hc]
      exact comp_neat t false
theorem neat_comp : ∀ (s : List UInt8) (p : Bool), neatB p s = true → compW p s = s
  | [], p, _ => rfl
  | c :: t, p, h => by
    rw [neatB] at h
    rw [compW]
    by_cases hc : c = 32
    · rw [if_pos hc] at h ⊢
      rw [Bool.and_eq_true, Bool.not_eq_true'] at h
      rw [if_neg (by rw [h.1]; simp), neat_comp t true h.2, hc]
    · rw [if_neg hc] at h ⊢
      rw [neat_comp t false h]
theorem neat_take : ∀ (s : List UInt8) (p : Bool) (u : List UInt8), neatB p (s ++ u) = true → neatB p s = true
  | [], p, u, _ => rfl
  | c :: t, p, u, h => by
    rw [List.cons_append, neatB] at h
    rw [neatB]
    by_cases hc : c = 32
    · rw [if_pos hc] at h ⊢
      rw [Bool.and_eq_true] at h ⊢
      exact ⟨h.1, neat_take t true u h.2⟩
    · rw [if_neg hc] at h ⊢
      exact neat_take t false u h
theorem neat_last : ∀ (s : List UInt8) (p : Bool), neatB p (s ++ [32]) = true → s.getLast? ≠ some 32
  | [], p, _ => by simp
  | [c], p, h => by
    intro e
    simp at e
    subst e
    simp [neatB] at h
  | c :: d :: t, p, h => by
    have : ∃ q, neatB q ((d :: t) ++ [32]) = true := by
      rw [List.cons_append, neatB] at h
      by_cases hc : c = 32
      · rw [if_pos hc, Bool.and_eq_true] at h; exact ⟨_, h.2⟩
      · rw [if_neg hc] at h; exact ⟨_, h⟩
    obtain ⟨q, hq⟩ := this
    have := neat_last (d :: t) q hq
    rwa [List.getLast?_cons_cons]
theorem trim_again (s : List UInt8) : trimT (trimT s) = trimT s := by
  have hn := comp_neat s true
  unfold trimT
  generalize compW true s = l at *
  unfold dropT
  by_cases hl : l.getLast? = some 32
  · rw [if_pos hl]
    obtain ⟨m, rfl⟩ : ∃ m, l = m ++ [32] := by
      obtain ⟨m, x, e⟩ : ∃ m x, l = m ++ [x] := by
        rcases List.eq_nil_or_concat l with h | ⟨m, x, h⟩
        · rw [h] at hl; cases hl
        · exact ⟨m, x, by rw [h, List.concat_eq_append]⟩
      rw [e] at hl
      simp at hl
      exact ⟨m, by rw [e, hl]⟩
    rw [List.dropLast_concat, neat_comp m true (neat_take m true _ hn), if_neg (neat_last m true hn)]
  · rw [if_neg hl, neat_comp l true hn, if_neg hl]
/-- What stands between the outer blanks, blanks that follow on blanks gone. -/
theorem comp_skip : ∀ s : List UInt8, compW true s = compW true (s.dropWhile ([32].contains ·))
  | [] => rfl
  | c :: t => by
    by_cases hc : c = 32
    · subst hc
      rw [compW, if_pos rfl, if_pos rfl, comp_skip t, List.dropWhile_cons_of_pos (by decide)]
    · rw [List.dropWhile_cons_of_neg (by simp [hc])]
theorem comp_free : ∀ (s : List UInt8), s.head? ≠ some 32 → compW true s = compW false s
  | [], _ => rfl
  | c :: t, h => by
    have hc : c ≠ 32 := fun e => h (by simp [e])
    rw [compW, compW, if_neg hc, if_neg hc]
theorem comp_blanks : ∀ k : Nat, compW true (List.replicate k 32) = []
  | 0 => rfl
  | k + 1 => by rw [List.replicate_succ, compW, if_pos rfl, if_pos rfl, comp_blanks k]
theorem comp_last : ∀ (r : List UInt8) (p : Bool) (c : UInt8), r.getLast? = some c → c ≠ 32 → (compW p r).getLast? = some c
  | [], p, c, h, _ => by cases h
  | [d], p, c, h, hc => by
    simp at h
    subst h
    rw [compW, if_neg hc]
    rfl
  | d :: e :: t, p, c, h, hc => by
    rw [List.getLast?_cons_cons] at h
    have key : ∀ q, (compW q (e :: t)).getLast? = some c := fun q => comp_last (e :: t) q c h hc
    have two : ∀ (x : UInt8) (l : List UInt8), l.getLast? = some c → (x :: l).getLast? = some c := fun x l hl => by
      cases l with
      | nil => cases hl
      | cons y l => rwa [List.getLast?_cons_cons]
    rw [compW]
    by_cases hd : d = 32
    · rw [if_pos hd]
      cases p with
      | true => rw [if_pos rfl]; exact key true
      | false => rw [if_neg (by simp)]; exact two _ _ (key true)
    · rw [if_neg hd]
      exact two _ _ (key false)
theorem comp_tail : ∀ (r : List UInt8) (p : Bool) (c : UInt8) (k : Nat), r.getLast? = some c → c ≠ 32 → compW p (r ++ List.replicate k 32) = compW p r ++ (if k = 0 then [] else [32])
  | [], p, c, k, h, _ => by cases h
  | [d], p, c, k, h, hc => by
    simp at h
    subst h
    rw [List.cons_append, List.nil_append, compW, if_neg hc, compW, if_neg hc, List.cons_append]
    congr 1
    cases k with
    | zero => rfl
    | succ k => rw [List.replicate_succ]; simp [compW, comp_blanks]
  | d :: e :: t, p, c, k, h, hc => by
    rw [List.getLast?_cons_cons] at h
    have key := fun q => comp_tail (e :: t) q c k h hc
    rw [List.cons_append, compW, compW]
    by_cases hd : d = 32
    · rw [if_pos hd, if_pos hd, key true]
      cases p <;> simp
    · rw [if_neg hd, if_neg hd, key false, List.cons_append]
theorem right_split (s : List UInt8) : ∃ k, s = Lib.trimRightS s [32] ++ List.replicate k 32 := by
  unfold Lib.trimRightS
  have key : ∀ l : List UInt8, ∃ k, l = List.replicate k 32 ++ l.dropWhile ([32].contains ·) := by
    intro l
    induction l with
    | nil => exact ⟨0, rfl⟩
    | cons c t ih =>
      by_cases hc : c = 32
      · subst hc
        obtain ⟨k, hk⟩ := ih
        refine ⟨k + 1, ?_⟩
        rw [List.dropWhile_cons_of_pos (by decide), List.replicate_succ, List.cons_append, ← hk]
      · exact ⟨0, by rw [List.dropWhile_cons_of_neg (by simp [hc])]; rfl⟩
  obtain ⟨k, hk⟩ := key s.reverse
  refine ⟨k, ?_⟩
  have := congrArg List.reverse hk
  rwa [List.reverse_reverse, List.reverse_append, List.reverse_replicate] at this
theorem drop_head (l : List UInt8) : (l.dropWhile ([32].contains ·)).head? ≠ some 32 := by
  induction l with
  | nil => simp
  | cons c t ih =>
    by_cases hc : c = 32
    · subst hc; rw [List.dropWhile_cons_of_pos (by decide)]; exact ih
    · rw [List.dropWhile_cons_of_neg (by simp [hc])]; simpa using hc
theorem right_last (s : List UInt8) : (Lib.trimRightS s [32]).getLast? ≠ some 32 := by
  unfold Lib.trimRightS
  rw [List.getLast?_reverse]
  exact drop_head _
theorem trim_comp (s : List UInt8) : compW false (Lib.trimS s [32]) = trimT s := by
  obtain ⟨k, hk⟩ := right_split s
  have hl := right_last s
  unfold Lib.trimS Lib.trimLeftS trimT
  generalize Lib.trimRightS s [32] = r at *
  rw [← comp_free _ (drop_head r), ← comp_skip, hk]
  cases hr : r.getLast? with
  | none =>
    have : r = [] := List.getLast?_eq_none_iff.1 hr
    subst this
    rw [List.nil_append, comp_blanks]
    rfl
  | some c =>
    have hc : c ≠ 32 := fun e => hl (by rw [hr, e])
    rw [comp_tail r true c k hr hc]
    have hcl := comp_last r true c hr hc
    unfold dropT
    by_cases h0 : k = 0
    · rw [if_pos h0, List.append_nil, if_neg (by rw [hcl]; intro e; exact hc (Option.some.inj e))]
    · rw [if_neg h0, if_pos (by simp), List.dropLast_concat]
def lastB : Bool → List UInt8 → Bool
  | p, [] => p
  | _, c :: t => lastB (decide (c = 32)) t
theorem lastB_snoc : ∀ (l : List UInt8) (p : Bool) (c : UInt8), lastB p (l ++ [c]) = decide (c = 32)
  | [], p, c => rfl
  | d :: l, p, c => by rw [List.cons_append, lastB]; exact lastB_snoc l _ c
theorem comp_snoc : ∀ (l : List UInt8) (p : Bool) (c : UInt8), compW p (l ++ [c]) = compW p l ++ (if (decide (c = 32) && lastB p l) = true then [] else [c])
  | [], p, c => by
    by_cases hc : c = 32
    · subst hc; cases p <;> simp [compW, lastB]
    · simp [compW, hc]
  | d :: l, p, c => by
    rw [List.cons_append, compW, compW, lastB]
    by_cases hd : d = 32
    · rw [if_pos hd, if_pos hd, comp_snoc l true c, decide_eq_true hd]
      cases p <;> simp
    · rw [if_neg hd, if_neg hd, comp_snoc l false c, decide_eq_false hd, List.cons_append]
theorem comp_take {l : List UInt8} {m : Nat} {a b : UInt8} (ha : l[m]? = some a) (hb : l[m + 1]? = some b) : compW false (l.take (m + 1 + 1)) = compW false (l.take (m + 1)) ++ (if (decide (b = 32) && decide (a = 32)) = true then [] else [b]) := by
  have e1 : l.take (m + 1) = l.take m ++ [a] := by rw [List.take_add_one, ha]; rfl
  have e2 : l.take (m + 1 + 1) = l.take (m + 1) ++ [b] := by rw [List.take_add_one, hb]; rfl
  rw [e2, comp_snoc, e1, lastB_snoc]
theorem comp_one {l : List UInt8} {a : UInt8} (ha : l[0]? = some a) : compW false (l.take 1) = [a] := by
  cases l with
  | nil => cases ha
  | cons c t =>
    simp at ha
    subst ha
    by_cases hc : c = 32
    · subst hc; simp [compW]
    · simp [compW, hc]
theorem comp_len : ∀ (l : List UInt8) (p : Bool), (compW p l).length ≤ l.length
  | [], p => Nat.le_refl _
  | c :: t, p => by
    have h1 := comp_len t true
    have h2 := comp_len t false
    rw [compW, List.length_cons]
    by_cases hc : c = 32
    · rw [if_pos hc]
      split
      · omega
      · rw [List.length_cons]; omega
    · rw [if_neg hc, List.length_cons]; omega
end Go.Proofs.YtbfdomipkfbaeaaDoor
/- slices.CompactFunc of bytes. -/
namespace Go.Proofs.YtbfdomipkfbaeaaDoor
open Go.ChangeShapes Go.WideShapes Go.ChangeAt Go.RowKit
set_option linter.unusedVariables false
/-- Bytes that lie in a block of the call's own, from a place on, and can be written. -/
def BytM (w : World) (b off : Nat) (l : List UInt8) : Prop := ∀ (j : Nat) x, l[j]? = some x → w.cell? ⟨b, off + j, none⟩ = some (bv x) ∧ w.frozen? ⟨b, off + j, none⟩ = false
theorem BytM.set {w : World} {b off kk : Nat} {l : List UInt8} (h : BytM w b off l) (hk : kk < l.length) (u : UInt8) : BytM (w.setCell ⟨b, off + kk, none⟩ (bv u)) b off (l.set kk u) := fun j x hj => by
  rw [List.getElem?_set] at hj
  by_cases e : kk = j
  · subst e
    rw [if_pos rfl, if_pos hk] at hj
    cases hj
    have h1 := h kk l[kk] (List.getElem?_eq_getElem hk)
    exact ⟨World.cell?_setCell_same _ _ _ h1.1, by rw [World.frozen?_setCell]; exact h1.2⟩
  · rw [if_neg e] at hj
    have h1 := h j x hj
    refine ⟨?_, by rw [World.frozen?_setCell]; exact h1.2⟩
    exact (World.cell?_setCell_other _ _ _ _ (by intro he; injection he with _ h2 _; omega)).trans h1.1
theorem BytM.take {w : World} {b off : Nat} {l : List UInt8} (h : BytM w b off l) (k : Nat) : BytM w b off (l.take k) := fun j x hj => h j x (by
  rw [List.getElem?_take] at hj
  split at hj
  · exact hj
  · cases hj)
theorem BytM.drop {w : World} {b off : Nat} {l : List UInt8} (h : BytM w b off l) (k : Nat) : BytM w b (off + k) (l.drop k) := fun j x hj => by
  rw [List.getElem?_drop] at hj
  have := h (k + j) x hj
  rwa [← Nat.add_assoc] at this
theorem BytM.byt {w : World} {b off cap : Nat} {l : List UInt8} (h : BytM w b off l) (hb : b < w.heap.size) (hl : l.length ≤ cap) (hc : cap ≤ maxLen) : Byt w w.heap.size (some ⟨b, off, none⟩) l.length cap l :=
  ⟨by simp, hl, hc, (fun e => by cases e), fun _ => ⟨b, off, rfl, hb, fun i u hu => by
    rw [List.getElem?_map] at hu
    obtain ⟨x, hx, rfl⟩ := Option.map_eq_some_iff.1 hu
    exact (h i x hx).1⟩⟩
/-- The state of the second loop of CompactFunc: what was kept lies ahead, what is to come lies untouched. -/
structure CmpI (l cur : List UInt8) (m kk : Nat) : Prop where
  len : cur.length = l.length
  pre : cur.take kk = compW false (l.take m)
  cnt : kk = (compW false (l.take m)).length
  rest : ∀ j, m ≤ j + 1 → cur[j]? = l[j]?
  le : kk + 1 ≤ m
theorem CmpI.skip {l cur : List UInt8} {m kk : Nat} {a b : UInt8} (h : CmpI l cur (m + 1) kk) (ha : l[m]? = some a) (hb : l[m + 1]? = some b) (he : (decide (b = 32) && decide (a = 32)) = true) : CmpI l cur (m + 1 + 1) kk := by
  have := comp_take ha hb
  rw [if_pos he, List.append_nil] at this
  exact ⟨h.len, by rw [this]; exact h.pre, by rw [this]; exact h.cnt, fun j hj => h.rest j (by omega), by have := h.le; omega⟩
theorem CmpI.keepS {l cur : List UInt8} {m kk : Nat} {a b : UInt8} (h : CmpI l cur (m + 1) kk) (ha : l[m]? = some a) (hb : l[m + 1]? = some b) (he : (decide (b = 32) && decide (a = 32)) = false) : CmpI l (cur.set kk b) (m + 1 + 1) (kk + 1) := by
  have := comp_take ha hb
  rw [if_neg (by rw [he]; simp)] at this
  have hml : m + 1 < l.length := (List.getElem?_eq_some_iff.1 hb).1
  have hle := h.le
  have hkl : kk < cur.length := by rw [h.len]; omega
  refine ⟨by rw [List.length_set, h.len], ?_, by rw [this, List.length_append, ← h.cnt]; rfl, fun j hj => ?_, by omega⟩
  · rw [List.take_add_one, List.getElem?_set_self hkl, List.take_set_of_le (Nat.le_refl _), h.pre, this]
    rfl
  · rw [List.getElem?_set_ne (by omega)]
    exact h.rest j (by omega)
theorem CmpI.start {l : List UInt8} {k : Nat} {a b : UInt8} (hk : 1 ≤ k) (hc : compW false (l.take k) = l.take k) (ha : l[k - 1]? = some a) (hb : l[k]? = some b) (he : (decide (b = 32) && decide (a = 32)) = true) : CmpI l l (k + 1) k := by
  obtain ⟨m, rfl⟩ : ∃ m, k = m + 1 := ⟨k - 1, by omega⟩
  have := comp_take (by simpa using ha) hb
  rw [if_pos he, List.append_nil, hc] at this
  have hml : m + 1 < l.length := (List.getElem?_eq_some_iff.1 hb).1
  exact ⟨rfl, this.symm, by rw [this, List.length_take]; omega, fun j _ => rfl, by omega⟩
end Go.Proofs.YtbfdomipkfbaeaaDoor
/- The document's Trim. -/
namespace Go.Proofs.YtbfdomipkfbaeaaDoor
open Go.ChangeShapes Go.WideShapes Go.ChangeAt Go.RowKit
set_option linter.unusedVariables false
/-- 's[:j]' of a string. -/
theorem run_strTo (l : List UInt8) (j : Nat) (hj : j ≤ l.length) (w : World) :
    (Instr.slice 9 (.string ⟨l.toArray⟩) none (some (.int .i64 (j : Int))) none).run Tryd.prog w = .ok (.string ⟨(l.take j).toArray⟩) w := by
  have hsz : (⟨l.toArray⟩ : ByteArray).size = l.length := by simp [ByteArray.size]
  rw [run_slice_string_h w 9 ⟨l.toArray⟩ Tryd.underlying9 .i64 j (by omega) (by rw [hsz]; omega)]
  congr 2
  refine ByteArray.ext (Array.toList_inj.1 ?_)
  rw [Lib.extract_data]
  simp
def trimK (k : Int) (s : List UInt8) : List UInt8 := if k = 1 then s else trimT s
theorem tR_snoc (l : List UInt8) (t : Nat) (c : UInt8) (out : List UInt8) (hc : l[t]? = some c) : tR out (l.drop t) = tR (if c ≠ 32 then out ++ [c] else if out ≠ [] ∧ out.getLast? ≠ some 32 then out ++ [32] else out) (l.drop (t + 1)) := by
  have hl := (List.getElem?_eq_some_iff.1 hc).1
  have he : l[t] = c := by rw [List.getElem?_eq_getElem hl] at hc; exact Option.some.inj hc
  rw [List.drop_eq_getElem_cons hl, he, tR]
  split
  · rfl
  · split <;> rfl
theorem last_get {out : List UInt8} {c : UInt8} (h : out.getLast? = some c) : out ≠ [] ∧ 0 < out.length ∧ out[out.length - 1]? = some c := by
  cases out with
  | nil => cases h
  | cons a t => exact ⟨by simp, by simp, by rw [← h, List.getLast?_eq_getElem?]⟩
set_option maxRecDepth 100000 in
set_option maxHeartbeats 4000000 in
theorem refTrim_c (k : Int) (l : List UInt8) (w : World) (hm : l.length ≤ 100000) :
    Calls Tryd.prog 22 #[.int .i64 k, .string ⟨l.toArray⟩] w fun e w' => e = .returned (.string ⟨(trimK k l).toArray⟩) ∧ w = w' := by
  unfold trimK
  by_cases hk : k = 1
  · rw [if_pos hk]
    subst hk
    clear hm
    go_enter Tryd.func22, Tryd.ntmps22
    go_wp2
    go_ret
    exact ⟨rfl, rfl⟩
  · rw [if_neg hk]
    have hkb : (k == 1) = false := by simpa using hk
    have hsz : (⟨l.toArray⟩ : ByteArray).size = l.length := by simp [ByteArray.size]
    have HT : Hid (trimT l = dropT (tR [] l)) := Lib.hid (tR_all l).symm
    clear hk
    go_enter Tryd.func22, Tryd.ntmps22
    go_wp2
    go_loopg [5, 6] (l.length) (fun g s i wr => ∃ (t : Nat) (o : List UInt8), wr = w ∧ i = .int .i64 (t : Int) ∧ s = .string ⟨o.toArray⟩ ∧ t ≤ l.length ∧ Hid (g + t = l.length) ∧ Hid (o.length ≤ t) ∧ Hid (trimT l = dropT (tR o (l.drop t))))
    case atStart => exact ⟨0, [], rfl, rfl, rfl, Nat.zero_le _, Lib.hid rfl, Lib.hid (Nat.le_refl _), HT⟩
    case round =>
      obtain ⟨t, o, rfl, rfl, rfl, ht, hg, ho, HA⟩ := hrel
      have ht0 : (0 : Int) ≤ (t : Int) := by omega
      have ht9 : (t : Int) ≤ 100000 := by omega
      have ho0 : (0 : Int) ≤ (o.length : Int) := by omega
      have ho9 : (o.length : Int) ≤ 100000 := by have := ho.out; omega
      by_cases htn : t < l.length
      · have hti : (t : Int) < (l.length : Int) := by omega
        have hix := run_strIndex l t htn wr
        have hsl := run_strSlice l t (t + 1) (by omega) (by omega) wr
        have hct : l[t]? = some (l.getD t 0) := by simp [htn]
        have hsn := tR_snoc l t _ o hct
        rw [show ((t + 1 : Nat) : Int) = (t : Int) + 1 by omega, show t + 1 - t = 1 by omega, show (l.drop t).take 1 = [l.getD t 0] by
          rw [List.drop_eq_getElem_cons htn, List.take_succ_cons, List.take_zero]; simp [htn]] at hsl
        generalize l.getD t 0 = c at *
        have hc0 : (0 : Int) ≤ (c.toNat : Int) := by omega
        have hc1 : (c.toNat : Int) ≤ 255 := by have := c.toNat_lt; omega
        by_cases hc : c = 32
        · rw [if_neg (by simp [hc])] at hsn
          have hcn : ((c.toNat : Int) != 32) = false := by subst hc; rfl
          have hcd : (c.toNat : Int) = 32 := by subst hc; rfl
          rw [hcd] at hix
          clear hc hct hcn
          by_cases he : o = []
          · subst he
            rw [if_neg (by simp)] at hsn
            have HA2 := Lib.hid (HA.out.trans (congrArg dropT hsn))
            have hie : ([] : List UInt8).isEmpty = true := rfl
            clear hsn hsl hcd hc0 hc1
            go_wp2
            go_roundg (l.length - (t + 1))
            case measure => have := hg.out; omega
            case rel => exact ⟨t + 1, [], rfl, by go_num, rfl, by omega, Lib.hid (by omega), Lib.hid (Nat.zero_le _), HA2⟩
          · have hie : o.isEmpty = false := by cases o with | nil => exact absurd rfl he | cons a b => rfl
            obtain ⟨d, hd⟩ : ∃ d, o.getLast? = some d := by
              cases h : o.getLast? with
              | none => exact absurd (List.getLast?_eq_none_iff.1 h) he
              | some d => exact ⟨d, rfl⟩
            obtain ⟨_, hpos, hdg⟩ := last_get hd
            have hox := run_strIndex o (o.length - 1) (by omega) wr
            rw [show o.getD (o.length - 1) 0 = d by simp [List.getD, hdg], show ((o.length - 1 : Nat) : Int) = (o.length : Int) - 1 by omega] at hox
            have hd0 : (0 : Int) ≤ (d.toNat : Int) := by omega
            have hd1 : (d.toNat : Int) ≤ 255 := by have := d.toNat_lt; omega
            have hop : (1 : Int) ≤ (o.length : Int) := by omega
            by_cases hdd : d = 32
            · rw [if_neg (by rw [hd, hdd]; simp)] at hsn
              have HA2 := Lib.hid (HA.out.trans (congrArg dropT hsn))
              have hdn : (d.toNat : Int) = 32 := by subst hdd; rfl
              rw [hdn] at hox
              clear hsn hsl hcd hc0 hc1 hdg hd hdd hdn hd0 hd1 he
              go_wp2
              go_roundg (l.length - (t + 1))
              case measure => have := hg.out; omega
              case rel => exact ⟨t + 1, o, rfl, by go_num, rfl, by omega, Lib.hid (by omega), Lib.hid (by have := ho.out; omega), HA2⟩
            · rw [if_pos ⟨he, by rw [hd]; intro e; exact hdd (Option.some.inj e)⟩] at hsn
              have HA2 := Lib.hid (HA.out.trans (congrArg dropT hsn))
              have hdn : ((d.toNat : Int) != 32) = true := by
                have : ((d.toNat : Int) == 32) = false := ne_byte d 32 32 rfl hdd
                simp [bne, this]
              have hsp : (Op.stringOp .add ⟨o.toArray⟩ ⟨#[32]⟩).run Tryd.prog wr = .ok (.string ⟨(o ++ [32]).toArray⟩) wr := run_sop (w := wr) o [32] (by have := ho.out; simp; omega)
              have hlo : (o ++ [32]).length = o.length + 1 := by simp
              have HLO := Lib.hid hlo
              clear hsn hsl hcd hc0 hc1 hdg hd hdd he hlo
              generalize o ++ [32] = o2 at *
              go_wp2
              go_roundg (l.length - (t + 1))
              case measure => have := hg.out; omega
              case rel => exact ⟨t + 1, o2, rfl, by go_num, rfl, by omega, Lib.hid (by omega), Lib.hid (by have := ho.out; have := HLO.out; omega), HA2⟩
        · rw [if_pos hc] at hsn
          have HA2 := Lib.hid (HA.out.trans (congrArg dropT hsn))
          have hcn : ((c.toNat : Int) != 32) = true := by
            have : ((c.toNat : Int) == 32) = false := ne_byte c 32 32 rfl hc
            simp [bne, this]
          have hsp : (Op.stringOp .add ⟨o.toArray⟩ ⟨[c].toArray⟩).run Tryd.prog wr = .ok (.string ⟨(o ++ [c]).toArray⟩) wr := run_sop (w := wr) o [c] (by have := ho.out; simp; omega)
          have hlo : (o ++ [c]).length = o.length + 1 := by simp
          have HLO := Lib.hid hlo
          clear hsn hc hct hlo
          generalize o ++ [c] = o2 at *
          go_wp2
          go_roundg (l.length - (t + 1))
          case measure => have := hg.out; omega
          case rel => exact ⟨t + 1, o2, rfl, by go_num, rfl, by omega, Lib.hid (by omega), Lib.hid (by have := ho.out; have := HLO.out; omega), HA2⟩
      · have hti : ¬ (t : Int) < (l.length : Int) := by omega
        have hA := HA.out
        rw [List.drop_of_length_le (by omega)] at hA
        have hA' : trimT l = dropT o := hA
        clear hA HA
        unfold dropT at hA'
        by_cases he : o = []
        · subst he
          have hie : ([] : List UInt8).isEmpty = true := rfl
          have HAE := Lib.hid hA'
          clear hA'
          go_wp2
          go_ret
          exact ⟨by rw [HAE.out]; rfl, rfl⟩
        · have hie : o.isEmpty = false := by cases o with | nil => exact absurd rfl he | cons a b => rfl
          obtain ⟨d, hd⟩ : ∃ d, o.getLast? = some d := by
            cases h : o.getLast? with
            | none => exact absurd (List.getLast?_eq_none_iff.1 h) he
            | some d => exact ⟨d, rfl⟩
          obtain ⟨_, hpos, hdg⟩ := last_get hd
          have hox := run_strIndex o (o.length - 1) (by omega) wr
          rw [show o.getD (o.length - 1) 0 = d by simp [List.getD, hdg], show ((o.length - 1 : Nat) : Int) = (o.length : Int) - 1 by omega] at hox
          have hd0 : (0 : Int) ≤ (d.toNat : Int) := by omega
          have hd1 : (d.toNat : Int) ≤ 255 := by have := d.toNat_lt; omega
          have hop : (1 : Int) ≤ (o.length : Int) := by omega
          by_cases hdd : d = 32
          · rw [if_pos (by rw [hd, hdd])] at hA'
            have HAE := Lib.hid hA'
            have hdn : (d.toNat : Int) = 32 := by subst hdd; rfl
            rw [hdn] at hox
            have hcs := run_strTo o (o.length - 1) (by omega) wr
            rw [show ((o.length - 1 : Nat) : Int) = (o.length : Int) - 1 by omega, ← List.dropLast_eq_take] at hcs
            clear hdg hd hdd hdn hd0 hd1 he hA'
            generalize o.dropLast = o2 at *
            go_wp2
            go_ret
            exact ⟨by rw [HAE.out]; rfl, rfl⟩
          · rw [if_neg (by rw [hd]; intro e; exact hdd (Option.some.inj e))] at hA'
            have HAE := Lib.hid hA'
            have hdn : ((d.toNat : Int) == 32) = false := ne_byte d 32 32 rfl hdd
            clear hdg hd hdd he hA'
            go_wp2
            go_ret
            exact ⟨by rw [HAE.out]; rfl, rfl⟩
end Go.Proofs.YtbfdomipkfbaeaaDoor
/- bytes.Trim of blanks. -/
namespace Go.Proofs.YtbfdomipkfbaeaaDoor
open Go.ChangeShapes Go.WideShapes Go.ChangeAt Go.RowKit
set_option linter.unusedVariables false
theorem left_cons {c : UInt8} {t : List UInt8} (h : c = 32) : (c :: t).dropWhile ([32].contains ·) = t.dropWhile ([32].contains ·) := by rw [List.dropWhile_cons_of_pos (by simp [h])]
theorem left_stop {c : UInt8} {t : List UInt8} (h : c ≠ 32) : (c :: t).dropWhile ([32].contains ·) = c :: t := by rw [List.dropWhile_cons_of_neg (by simp [h])]
theorem right_snoc {c : UInt8} {t : List UInt8} (h : c = 32) : Lib.trimRightS (t ++ [c]) [32] = Lib.trimRightS t [32] := by
  unfold Lib.trimRightS
  rw [List.reverse_append, List.reverse_singleton, List.singleton_append, left_cons h]
theorem right_stop {c : UInt8} {t : List UInt8} (h : c ≠ 32) : Lib.trimRightS (t ++ [c]) [32] = t ++ [c] := by
  unfold Lib.trimRightS
  rw [List.reverse_append, List.reverse_singleton, List.singleton_append, left_stop h]
  simp
set_option maxRecDepth 100000 in
set_option maxHeartbeats 4000000 in
theorem trimRightB_c (b off cap n : Nat) (l : List UInt8) (w : World) (h : BytM w b off l) (hn : l.length = n) (hm : n ≤ 100000) (hcap : n ≤ cap) :
    Calls Tryd.prog 70 #[.slice (some ⟨b, off, none⟩) n cap, .int .u8 32] w fun e w' => e = .returned (.slice (some ⟨b, off, none⟩) (Lib.trimRightS l [32]).length cap) ∧ w' = w := by
  have HB := Lib.hid h
  have HN := Lib.hid hn
  clear h hn
  go_enter Tryd.func70, Tryd.ntmps70
  go_wp2
  go_loopg [0] (n) (fun g s wr => ∃ t : Nat, wr = w ∧ s = .slice (some ⟨b, off, none⟩) t cap ∧ t ≤ n ∧ g = t ∧ Hid (Lib.trimRightS l [32] = Lib.trimRightS (l.take t) [32]))
  case atStart => exact ⟨n, rfl, rfl, Nat.le_refl _, rfl, Lib.hid (by rw [List.take_of_length_le (by rw [HN.out]; exact Nat.le_refl _)])⟩
  case round =>
    obtain ⟨t, rfl, rfl, ht, hg, HA⟩ := hrel
    have ht9 : (t : Int) ≤ 100000 := by omega
    by_cases h0 : t = 0
    · subst h0
      have hA := HA.out
      rw [List.take_zero] at hA
      have HL : Hid ((Lib.trimRightS l [32]).length = 0) := Lib.hid (by rw [hA]; rfl)
      clear hA HA
      go_wp2
      go_ret
      exact ⟨by rw [HL.out]; rfl, rfl⟩
    · have htp : (0 : Int) < (t : Int) := by omega
      have ht1 : (1 : Int) ≤ (t : Int) := by omega
      obtain ⟨c, hc⟩ : ∃ c, l[t - 1]? = some c := ⟨l[t - 1]'(by rw [HN.out]; omega), List.getElem?_eq_getElem _⟩
      have hz := (HB.out (t - 1) c hc).1
      have htk : l.take t = l.take (t - 1) ++ [c] := by
        have : l.take (t - 1 + 1) = l.take (t - 1) ++ [c] := by rw [List.take_add_one, hc]; rfl
        rwa [show t - 1 + 1 = t by omega] at this
      obtain ⟨u, rfl⟩ : ∃ u, t = u + 1 := ⟨t - 1, by omega⟩
      rw [show u + 1 - 1 = u by omega] at hz htk
      have hz' : wr.cell? ⟨b, off + u, none⟩ = some (.int .u8 (c.toNat : Int)) := hz
      have hup := run_upTo (w := wr) (some ⟨b, off, none⟩) (u + 1) cap u (by omega)
      have hu1 : ((u + 1 : Nat) : Int) - 1 = (u : Int) := by omega
      have hu0 : (0 : Int) ≤ (u : Int) := by omega
      clear hz hc h0
      by_cases hc : c = 32
      · have hcd : (c.toNat : Int) = 32 := by subst hc; rfl
        rw [hcd] at hz'
        have HA2 : Hid (Lib.trimRightS l [32] = Lib.trimRightS (l.take u) [32]) := Lib.hid (by rw [HA.out, htk, right_snoc hc])
        clear hcd hc htk
        go_wp2
        go_roundg u
        case measure => omega
        case rel => exact ⟨u, rfl, rfl, by omega, rfl, HA2⟩
      · have hcd : ((c.toNat : Int) == 32) = false := ne_byte c 32 32 rfl hc
        have hc0 : (0 : Int) ≤ (c.toNat : Int) := by omega
        have hc1 : (c.toNat : Int) ≤ 255 := by have := c.toNat_lt; omega
        have HL : Hid ((Lib.trimRightS l [32]).length = u + 1) := Lib.hid (by
          rw [HA.out, htk, right_stop hc, List.length_append, List.length_take, HN.out]
          simp
          omega)
        clear hc htk HA
        go_wp2
        go_ret
        exact ⟨by rw [HL.out]; rfl, rfl⟩
/-- What is left of a row when d of its bytes are cut off ahead; none if nothing is left. -/
def leftB (b off cap : Nat) (l : List UInt8) : Value := if l.dropWhile ([32].contains ·) = [] then .slice none 0 0 else .slice (some ⟨b, off + (l.length - (l.dropWhile ([32].contains ·)).length), none⟩) (l.dropWhile ([32].contains ·)).length (cap - (l.length - (l.dropWhile ([32].contains ·)).length))
set_option maxRecDepth 100000 in
set_option maxHeartbeats 4000000 in
theorem trimLeftB_c (b off cap n : Nat) (l : List UInt8) (w : World) (h : BytM w b off l) (hn : l.length = n) (hm : n ≤ 100000) (hcap : n ≤ cap) :
    Calls Tryd.prog 69 #[.slice (some ⟨b, off, none⟩) n cap, .int .u8 32] w fun e w' => e = .returned (leftB b off cap l) ∧ w' = w := by
  have HB := Lib.hid h
  have HN := Lib.hid hn
  have HLB : Hid (leftB b off cap l = if l.dropWhile ([32].contains ·) = [] then .slice none 0 0 else .slice (some ⟨b, off + (l.length - (l.dropWhile ([32].contains ·)).length), none⟩) (l.dropWhile ([32].contains ·)).length (cap - (l.length - (l.dropWhile ([32].contains ·)).length))) := Lib.hid rfl
  clear h hn
  generalize leftB b off cap l = R at *
  go_enter Tryd.func69, Tryd.ntmps69
  go_wp2
  go_loopg [0] (n) (fun g s wr => ∃ t o' : Nat, wr = w ∧ s = .slice (some ⟨b, o', none⟩) (n - t) (cap - t) ∧ t ≤ n ∧ g = n - t ∧ (t < n → o' = off + t) ∧ Hid (l.dropWhile ([32].contains ·) = (l.drop t).dropWhile ([32].contains ·)))
  case atStart => exact ⟨0, off, rfl, rfl, Nat.zero_le _, rfl, fun _ => rfl, Lib.hid rfl⟩
  case round =>
    obtain ⟨t, o', rfl, rfl, ht, hg, ho, HA⟩ := hrel
    by_cases h0 : t = n
    · subst h0
      have hA := HA.out
      rw [List.drop_of_length_le (by rw [HN.out]; exact Nat.le_refl _)] at hA
      have hA' : l.dropWhile ([32].contains ·) = [] := hA
      have HL : Hid (R = .slice none 0 0) := Lib.hid (by rw [HLB.out, if_pos hA'])
      have hnn : t - t = 0 := Nat.sub_self t
      rw [hnn]
      clear hA hA' HA HLB
      go_wp2
      go_ret
      exact ⟨by rw [HL.out]; rfl, rfl⟩
    · have hlt : t < n := by omega
      obtain rfl := ho hlt
      obtain ⟨c, hc⟩ : ∃ c, l[t]? = some c := ⟨l[t]'(by rw [HN.out]; exact hlt), List.getElem?_eq_getElem _⟩
      have hz' : wr.cell? ⟨b, off + t, none⟩ = some (.int .u8 (c.toNat : Int)) := (HB.out t c hc).1
      have hdr : l.drop t = c :: l.drop (t + 1) := by
        have hl := (List.getElem?_eq_some_iff.1 hc).1
        have he : l[t] = c := by rw [List.getElem?_eq_getElem hl] at hc; exact Option.some.inj hc
        rw [List.drop_eq_getElem_cons hl, he]
      obtain ⟨u, hu⟩ : ∃ u, n - t = u + 1 := ⟨n - t - 1, by omega⟩
      have hu0 : (0 : Int) < ((u + 1 : Nat) : Int) := by omega
      have hu2 : (u : Int) ≤ 100000 := by omega
      rw [hu]
      by_cases hcc : c = 32
      · have hcd : (c.toNat : Int) = 32 := by subst hcc; rfl
        rw [hcd] at hz'
        have HA2 : Hid (l.dropWhile ([32].contains ·) = (l.drop (t + 1)).dropWhile ([32].contains ·)) := Lib.hid (by rw [HA.out, hdr, left_cons hcc])
        clear hcd hcc hdr hc
        by_cases h1 : cap - t = 1
        · go_wp2
          go_roundg u
          case measure => omega
          case rel => exact ⟨t + 1, off + t, rfl, by rw [show n - (t + 1) = u by omega, show cap - (t + 1) = 0 by omega], by omega, by omega, fun h => by omega, HA2⟩
        · go_wp2
          go_roundg u
          case measure => omega
          case rel => exact ⟨t + 1, off + t + 1, rfl, by rw [show n - (t + 1) = u by omega, show cap - (t + 1) = cap - t - 1 by omega], by omega, by omega, fun h => by omega, HA2⟩
      · have hcd : ((c.toNat : Int) == 32) = false := ne_byte c 32 32 rfl hcc
        have hc0 : (0 : Int) ≤ (c.toNat : Int) := by omega
        have hc1 : (c.toNat : Int) ≤ 255 := by have := c.toNat_lt; omega
        have hu3 : (((u + 1 : Nat) : Int) == 0) = false := by simp; omega
        have HL : Hid (R = .slice (some ⟨b, off + t, none⟩) (u + 1) (cap - t)) := Lib.hid (by
          have hd : l.dropWhile ([32].contains ·) = l.drop t := by rw [HA.out, hdr, left_stop hcc]
          have hdl : (l.drop t).length = u + 1 := by rw [List.length_drop, HN.out]; omega
          rw [HLB.out, hd, if_neg (by rw [hdr]; simp), hdl, HN.out]
          rw [show n - (u + 1) = t by omega])
        clear hcc hdr hc HA HLB
        go_wp2
        go_ret
        exact ⟨by rw [HL.out]; rfl, rfl⟩
theorem right_take (l : List UInt8) : Lib.trimRightS l [32] = l.take (Lib.trimRightS l [32]).length ∧ (Lib.trimRightS l [32]).length ≤ l.length := by
  obtain ⟨k, hk⟩ := right_split l
  have h1 : l.take (Lib.trimRightS l [32]).length = Lib.trimRightS l [32] := by
    have := congrArg (List.take (Lib.trimRightS l [32]).length) hk
    rwa [List.take_left] at this
  exact ⟨h1.symm, by have := congrArg List.length hk; rw [List.length_append] at this; omega⟩
set_option maxRecDepth 100000 in
set_option maxHeartbeats 4000000 in
theorem trimB_c (b off cap n : Nat) (l : List UInt8) (w : World) (h : BytM w b off l) (hn : l.length = n) (hm : n ≤ 100000) (hcap : n ≤ cap) :
    Calls Tryd.prog 45 #[.slice (some ⟨b, off, none⟩) n cap, .string ⟨#[32]⟩] w fun e w' => e = .returned (leftB b off cap (Lib.trimRightS l [32])) ∧ ∃ q, w' = w.drewN q := by
  by_cases h0 : n = 0
  · subst h0
    have hl : l = [] := List.length_eq_zero_iff.1 hn
    subst hl
    have HR : Hid (leftB b off cap (Lib.trimRightS [] [32]) = .slice none 0 0) := Lib.hid rfl
    rw [HR.out]
    clear h hn hm hcap
    go_enter Tryd.func45, Tryd.ntmps45
    go_wp2
    go_ret
    exact ⟨rfl, 0, rfl⟩
  · have hkn : (Lib.trimRightS l [32]).length ≤ n := by rw [← hn]; exact (right_take l).2
    have CR : Hid (∀ m : Nat, Calls Tryd.prog 70 #[.slice (some ⟨b, off, none⟩) n cap, .int .u8 32] (w.drewN m) fun e w' => e = .returned (.slice (some ⟨b, off, none⟩) (Lib.trimRightS l [32]).length cap) ∧ w' = w.drewN m) := Lib.hid fun m => trimRightB_c b off cap n l (w.drewN m) h hn hm hcap
    have CL : Hid (∀ m : Nat, Calls Tryd.prog 69 #[.slice (some ⟨b, off, none⟩) (Lib.trimRightS l [32]).length cap, .int .u8 32] (w.drewN m) fun e w' => e = .returned (leftB b off cap (Lib.trimRightS l [32])) ∧ w' = w.drewN m) := Lib.hid fun m => trimLeftB_c b off cap _ (Lib.trimRightS l [32]) (w.drewN m) (by rw [(right_take l).1]; exact h.take _) rfl (by omega) (by omega)
    have hn0 : ((n : Int) == 0) = false := by simp; omega
    have g0 : ((⟨#[32]⟩ : ByteArray)[0]'(by decide)).toNat = 32 := rfl
    clear h hn hkn hcap h0
    generalize leftB b off cap (Lib.trimRightS l [32]) = R at *
    generalize (Lib.trimRightS l [32]).length = kR at *
    go_enter Tryd.func45, Tryd.ntmps45
    go_wp2_with fail
    go_quiet (first | (go_at_call 70; exact Calls.quiet_of_same (CR.out _)) | (go_at_call 69; exact Calls.quiet_of_same (CL.out _)))
    go_wp2
    go_ret
    exact ⟨rfl, nq, rfl⟩
end Go.Proofs.YtbfdomipkfbaeaaDoor
