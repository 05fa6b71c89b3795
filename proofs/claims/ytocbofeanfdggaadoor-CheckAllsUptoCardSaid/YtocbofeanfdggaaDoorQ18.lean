/- Texts of ours, joined: CkN, CkF, CkG. -/
import Derived.Test.YtocbofeanfdggaaDoorRows
import Derived.WalkKit
import Derived.ProofKit
import Derived.OpenShut
import Derived.ShutString
import Derived.ChangeOld
import Derived.Below
import Derived.BigQuiet
import Derived.Deep.QuietTactic
import Derived.Lib.Hide
import Derived.Deep.RegionHeld3
import Derived.Lib.SlBytesConst
import Derived.Laws.CopyOwn
import Derived.Laws.CopyRow
import Derived.Lib.Bytes
import Derived.Deep.LoopGhost
import Derived.Deep.DeepFit
import Derived.Deep.DeepMust
import Derived.WalkSpells
import Derived.WalkLawsBesides
import Derived.Maps.OwnOps
import Derived.Maps.OwnSet
import Derived.Maps.Views
import Derived.Laws.EntriesVeiled
import Derived.Laws.Rows
import Derived.Maps.AppendAt
import Derived.Lib.SmallJoins
import Derived.Deep.AppendLies
import Derived.Deep.RegionLaw
import Derived.Deep.RegionWith
import Derived.Test.YtocbofeanfdggaaDoorQ1
import Derived.Test.YtocbofeanfdggaaDoorQ2
import Derived.Test.YtocbofeanfdggaaDoorQ3
import Derived.Test.YtocbofeanfdggaaDoorQ4
import Derived.Test.YtocbofeanfdggaaDoorQ5
import Derived.Test.YtocbofeanfdggaaDoorQ6
import Derived.Test.YtocbofeanfdggaaDoorQ11
import Derived.Test.YtocbofeanfdggaaDoorQ12
import Derived.Test.YtocbofeanfdggaaDoorQ13
import Derived.Test.YtocbofeanfdggaaDoorQ14
import Derived.Test.YtocbofeanfdggaaDoorQ17
/- check.names. -/
namespace Go.Proofs.YtocbofeanfdggaaDoor
open Go.ChangeShapes Go.WideShapes Go.ChangeAt Go.RowKit
set_option linter.unusedVariables false
theorem wpList_appH {P : Program} {ops : Array Oper} {rest : List Oper} {o : Oper} {a : Act} {Q : Exit → Act → World → Prop} {w : World} (hgd : o.guard = none) (s x : Operand) (t e : TypeId)
    (ho : o.op = .call { callee := .builtin .append, args := #[s, x], argTypes := #[t, t] }) (z : Value) (k bytes : Nat) (ht : P.underlying t = some (.slice e))
    (hi : ∃ i, P.info? e = some i ∧ i.zero = some z ∧ i.size = k ∧ i.bytes = bytes) (hzs : z.cells.size = k) (hk : 0 < k)
    (base : Nat) (v : Value) (n : Nat) (xs : List Value) (hs : a.eval s = v) (hown : w.ownsRow base e k v n xs) (us : List Value) (us' : Array Value) (hus : us' = us.toArray) (H : Nat) (hH : w.heap.size = H) (hx : a.eval x = .slice (some ⟨H, 0, none⟩) 1 1)
    (hl : us.length = k) (h1 : ∀ u ∈ us, u.oneCell' = true) (hn : n ≤ 1000000000) (hby : bytes ≤ 1000) (hbase : base ≤ w.heap.size)
    (h : ∀ v' w', w'.ownsRow base e k v' (n + 1) (xs ++ us) → (w.alloc (.cells us' e)).grownBy w' v.ownBlock → (v'.ownBlock = v.ownBlock ∨ v'.ownBlock = some (w.heap.size + 1)) → wpList P ops Q rest (a.put o.dst v') w') : wpList P ops Q (o :: rest) a (w.alloc (.cells us' e)) := by
  subst hH
  exact wpList_appK hgd s x t e ho z k bytes ht hi hzs hk base v n xs hs hown us us' hus hx hl h1 hn hby hbase h
theorem info_name : ∃ i, Tryd.prog.info? 37 = some i ∧ i.zero = some (.agg #[.string ⟨#[]⟩, .string ⟨#[]⟩]) ∧ i.size = 2 ∧ i.bytes = 32 := by
  have h : (Tryd.prog.info? 37).map (fun i => (i.zero, i.size, i.bytes)) = some (some (.agg #[.string ⟨#[]⟩, .string ⟨#[]⟩]), 2, 32) := by kernel_rfl
  obtain ⟨i, hi, he⟩ := Option.map_eq_some_iff.1 h
  simp only [Prod.mk.injEq] at he
  exact ⟨i, hi, he.1, he.2.1, he.2.2⟩
/-- A row of names of the call's own. -/
def OwnN (w : World) (base : Nat) (v : Value) (l : List (List UInt8 × List UInt8)) : Prop := w.ownsRow base 37 2 v l.length (l.flatMap cN)
theorem OwnN.kept {w w' : World} {base : Nat} {v : Value} {l : List (List UInt8 × List UInt8)} (h : OwnN w base v l) (hb : Below w.heap.size w w') : OwnN w' base v l := ownsRow_keep h fun g _ hg => hb.block g hg
theorem OwnN.ge {w : World} {base : Nat} {v : Value} {l : List (List UInt8 × List UInt8)} (h : OwnN w base v l) {b : Nat} (hb : v.ownBlock = some b) : base ≤ b := by
  obtain ⟨hl, ⟨hv, _⟩ | ⟨g, cap, cur, hv, hg, hh, r⟩⟩ := h
  · rw [hv] at hb; simp [Value.ownBlock] at hb
  · rw [hv] at hb; simp [Value.ownBlock] at hb; subst hb; exact hg
theorem OwnN.snoc {w' : World} {base : Nat} {v' : Value} {l : List (List UInt8 × List UInt8)} {x : List UInt8 × List UInt8} (h : w'.ownsRow base 37 2 v' (l.length + 1) (l.flatMap cN ++ cN x)) : OwnN w' base v' (l ++ [x]) := by
  unfold OwnN
  rw [List.length_append, List.flatMap_append, List.flatMap_singleton]
  exact h
theorem namesA_snoc {ats : List (List UInt8 × List UInt8 × List UInt8)} {t : Nat} {x : List UInt8 × List UInt8 × List UInt8} (h : ats[t]? = some x) : namesA (ats.take (t + 1)) = namesA (ats.take t) ++ [(x.1, x.2.1)] := by
  rw [List.take_add_one, h]
  simp [namesA]
set_option maxRecDepth 100000 in
set_option maxHeartbeats 8000000 in
theorem ckNames_c (k : Int) (sp lo tx : List UInt8) (A : Option Addr) (n cap : Nat) (ats : List (List UInt8 × List UInt8 × List UInt8)) (w : World) (h : RRd cA 3 w w.heap.size A n cap ats) (hm : n ≤ 100000) :
    Calls Tryd.prog 57 #[.agg #[.int .i64 k, .string ⟨sp.toArray⟩, .string ⟨lo.toArray⟩, .slice A n cap, .string ⟨tx.toArray⟩]] w fun e w' => ∃ A2 c2, e = .returned (.slice A2 (namesE ⟨k, sp, lo, ats, tx⟩).length c2) ∧ RRd cN 2 w' w'.heap.size A2 (namesE ⟨k, sp, lo, ats, tx⟩).length c2 (namesE ⟨k, sp, lo, ats, tx⟩) ∧ Below w.heap.size w w' := by
  have J0 := Lib.hid (CJ.start 40 w #[.int .i64 k, .string ⟨sp.toArray⟩, .string ⟨lo.toArray⟩, .slice A n cap, .string ⟨tx.toArray⟩])
  have HP : Hid (∀ W, Below w.heap.size w W → RRd cA 3 W W.heap.size A n cap ats) := Lib.hid fun W hb => (h.below hb).more hb.size
  have HLN : Hid (ats.length = n) := Lib.hid h.len
  have z0 := cell_of 0 J0.out.2
  have z1 := cell_of 1 J0.out.2
  have z2 := cell_of 2 J0.out.2
  have z3 := cell_of 3 J0.out.2
  have z4 := cell_of 4 J0.out.2
  clear h
  have key : ∀ (pre : List (List UInt8 × List UInt8)) (V : Value) (W : World), Hid (OwnN W w.heap.size V pre) → Hid (CJ 40 w W #[.int .i64 k, .string ⟨sp.toArray⟩, .string ⟨lo.toArray⟩, .slice A n cap, .string ⟨tx.toArray⟩]) → True := fun _ _ _ _ _ => trivial
  clear key
  by_cases h35 : k = 3 ∨ k = 5
  · have HE : Hid (namesE ⟨k, sp, lo, ats, tx⟩ = [] ++ namesA ats) := Lib.hid (by unfold namesE; rw [if_pos h35]; rfl)
    rw [HE.out]
    have O0 : Hid (OwnN (w.alloc (.cells #[.int .i64 k, .string ⟨sp.toArray⟩, .string ⟨lo.toArray⟩, .slice A n cap, .string ⟨tx.toArray⟩] 40)) w.heap.size (.slice none 0 0) []) := Lib.hid ⟨rfl, .inl ⟨rfl, rfl⟩⟩
    clear HE
    rcases h35 with rfl | rfl
    all_goals
      go_enter Tryd.func57, Tryd.ntmps57
      go_wp2
      go_loopg [3, 22] (n) (fun g v i wr => ∃ t : Nat, i = .int .i64 (t : Int) ∧ t ≤ n ∧ Hid (g + t = n) ∧ Hid (OwnN wr w.heap.size v (([] : List (List UInt8 × List UInt8)) ++ namesA (ats.take t))) ∧ Hid (Below w.heap.size w wr))
      case atStart => exact ⟨0, rfl, Nat.zero_le _, Lib.hid rfl, Lib.hid (by simpa [namesA] using O0.out), Lib.hid J0.out.1⟩
      case round =>
        obtain ⟨t, rfl, ht, hg, HO, HB⟩ := hrel
        have ht0 : (0 : Int) ≤ (t : Int) := by omega
        have ht9 : (t : Int) ≤ 100000 := by omega
        by_cases htn : t < n
        · have hti : (t : Int) < (n : Int) := by omega
          obtain ⟨b1, o1, x, rfl, hb1, hx, hc1⟩ := (HP.out _ HB.out).cell htn
          have HSN := Lib.hid (namesA_snoc hx)
          obtain ⟨xs, xl, xv⟩ := x
          have y0 : wr.cell? ⟨b1, o1 + t * 3, none⟩ = some (.string ⟨xs.toArray⟩) := by rw [show o1 + t * 3 = o1 + (t * 3 + 0) by omega]; exact hc1 0 _ rfl
          have y1 : wr.cell? ⟨b1, o1 + t * 3 + 1, none⟩ = some (.string ⟨xl.toArray⟩) := by rw [show o1 + t * 3 + 1 = o1 + (t * 3 + 1) by omega]; exact hc1 1 _ rfl
          have y2 : wr.cell? ⟨b1, o1 + t * 3 + 2, none⟩ = some (.string ⟨xv.toArray⟩) := by rw [show o1 + t * 3 + 2 = o1 + (t * 3 + 2) by omega]; exact hc1 2 _ rfl
          have hlen : (([] : List (List UInt8 × List UInt8)) ++ namesA (ats.take t)).length ≤ 1000000000 := by
            rw [List.length_append]
            simp [namesA]
            omega
          obtain ⟨L, hL⟩ : ∃ L, ([] : List (List UInt8 × List UInt8)) ++ namesA (ats.take t) = L := ⟨_, rfl⟩
          rw [hL] at HO hlen
          have HL := Lib.hid hL
          have ka := (Below.refl wr.heap.size wr).alloc (Nat.le_refl _) (.cells #[.string ⟨xs.toArray⟩, .string ⟨xl.toArray⟩, .string ⟨xv.toArray⟩] 51)
          have hown : (wr.alloc (.cells #[.string ⟨xs.toArray⟩, .string ⟨xl.toArray⟩, .string ⟨xv.toArray⟩] 51)).ownsRow w.heap.size 37 2 _ L.length (L.flatMap cN) := HO.out.kept ka
          have HB2 := Lib.hid (HB.out.trans (ka.mono HB.out.size))
          have hba : w.heap.size ≤ (wr.alloc (.cells #[.string ⟨xs.toArray⟩, .string ⟨xl.toArray⟩, .string ⟨xv.toArray⟩] 51)).heap.size := HB2.out.size
          clear hb1 hx hc1 ka hL
          go_wp2_with (first
            | (at_builtin; refine wpList_appH rfl (.tmp 26) (.tmp 29) 71 37 rfl (.agg #[.string ⟨#[]⟩, .string ⟨#[]⟩]) 2 32 Tryd.underlying71 info_name rfl (by decide) w.heap.size _ _ _ rfl hown (cN (xs, xl)) _ rfl (wr.heap.size + 1) (by simp) rfl rfl (by simp [cN, Value.oneCell']) hlen (by decide) hba ?_))
          intro v6 w6 hown6 hg6 hat6
          have O6 : Hid (OwnN w6 w.heap.size v6 (L ++ [(xs, xl)])) := Lib.hid (OwnN.snoc hown6)
          have kb := (Below.refl (wr.alloc (.cells #[.string ⟨xs.toArray⟩, .string ⟨xl.toArray⟩, .string ⟨xv.toArray⟩] 51)).heap.size _).alloc (Nat.le_refl _) (.cells (cN (xs, xl)).toArray 37)
          have HB6 : Hid (Below w.heap.size w w6) := Lib.hid ((HB2.out.trans (kb.mono hba)).grown hg6 (by rw [World.size_alloc]; omega) (fun j hj => OwnN.ge (l := L) hown hj))
          clear hown6 hg6 hat6 kb hown
          go_wp2
          go_roundg (n - (t + 1))
          case measure => have := hg.out; omega
          case rel => exact ⟨t + 1, by go_num, by omega, Lib.hid (by have := hg.out; omega), Lib.hid (by rw [HSN.out, ← List.append_assoc, HL.out]; exact O6.out), HB6⟩
        · have hti : ¬ (t : Int) < (n : Int) := by omega
          have hO := HO.out
          rw [show ats.take t = ats from List.take_of_length_le (by rw [HLN.out]; omega)] at hO
          obtain ⟨A2, c2, hv, hr⟩ := RRd.ofOwn (c := cN) (fun _ => rfl) (by decide) hO
          subst hv
          have HR := Lib.hid hr
          clear hO hr
          go_wp2
          go_ret
          exact ⟨A2, c2, rfl, HR.out, HB.out⟩
  · have HE : Hid (namesE ⟨k, sp, lo, ats, tx⟩ = [(sp, lo)] ++ namesA ats) := Lib.hid (by unfold namesE; rw [if_neg h35]; rfl)
    rw [HE.out]
    have k3 : (k != 3) = true := by simp; omega
    have k5 : (k != 5) = true := by simp; omega
    have own0 : (w.alloc (.cells #[.int .i64 k, .string ⟨sp.toArray⟩, .string ⟨lo.toArray⟩, .slice A n cap, .string ⟨tx.toArray⟩] 40)).ownsRow w.heap.size 37 2 (.slice none 0 0) ([] : List (List UInt8 × List UInt8)).length (([] : List (List UInt8 × List UInt8)).flatMap cN) := ⟨rfl, .inl ⟨rfl, rfl⟩⟩
    have hba : w.heap.size ≤ (w.alloc (.cells #[.int .i64 k, .string ⟨sp.toArray⟩, .string ⟨lo.toArray⟩, .slice A n cap, .string ⟨tx.toArray⟩] 40)).heap.size := by simp
    clear HE h35
    go_enter Tryd.func57, Tryd.ntmps57
    go_wp2_with (first
      | (at_builtin; refine wpList_appH rfl (.tmp 14) (.tmp 17) 71 37 rfl (.agg #[.string ⟨#[]⟩, .string ⟨#[]⟩]) 2 32 Tryd.underlying71 info_name rfl (by decide) w.heap.size _ _ _ rfl own0 (cN (sp, lo)) _ rfl (w.heap.size + 1) (by simp) rfl rfl (by simp [cN, Value.oneCell']) (by decide) (by decide) hba ?_))
    intro v5 w5 hown5 hg5 hat5
    have O0 : Hid (OwnN w5 w.heap.size v5 [(sp, lo)]) := Lib.hid (OwnN.snoc (l := []) hown5)
    have ka := (Below.refl (w.alloc (.cells #[.int .i64 k, .string ⟨sp.toArray⟩, .string ⟨lo.toArray⟩, .slice A n cap, .string ⟨tx.toArray⟩] 40)).heap.size (w.alloc (.cells #[.int .i64 k, .string ⟨sp.toArray⟩, .string ⟨lo.toArray⟩, .slice A n cap, .string ⟨tx.toArray⟩] 40))).alloc (Nat.le_refl _) (.cells (cN (sp, lo)).toArray 37)
    have hg6 : Below (w.alloc (.cells #[.int .i64 k, .string ⟨sp.toArray⟩, .string ⟨lo.toArray⟩, .slice A n cap, .string ⟨tx.toArray⟩] 40)).heap.size (w.alloc (.cells #[.int .i64 k, .string ⟨sp.toArray⟩, .string ⟨lo.toArray⟩, .slice A n cap, .string ⟨tx.toArray⟩] 40)) w5 := ka.grown hg5 ka.size (fun j hj => by cases hj)
    have J5 := Lib.hid (J0.out.kept hg6)
    clear hown5 hg5 hat5 ka hg6 z0 z1 z2 z3 z4 own0 hba
    have z3 := cell_of 3 J5.out.2
    go_wp2
    go_loopg [3, 22] (n) (fun g v i wr => ∃ t : Nat, i = .int .i64 (t : Int) ∧ t ≤ n ∧ Hid (g + t = n) ∧ Hid (OwnN wr w.heap.size v ([(sp, lo)] ++ namesA (ats.take t))) ∧ Hid (Below w.heap.size w wr))
    case atStart => exact ⟨0, rfl, Nat.zero_le _, Lib.hid rfl, Lib.hid (by simpa [namesA] using O0.out), Lib.hid J5.out.1⟩
    case round =>
      obtain ⟨t, rfl, ht, hg, HO, HB⟩ := hrel
      have ht0 : (0 : Int) ≤ (t : Int) := by omega
      have ht9 : (t : Int) ≤ 100000 := by omega
      by_cases htn : t < n
      · have hti : (t : Int) < (n : Int) := by omega
        obtain ⟨b1, o1, x, rfl, hb1, hx, hc1⟩ := (HP.out _ HB.out).cell htn
        have HSN := Lib.hid (namesA_snoc hx)
        obtain ⟨xs, xl, xv⟩ := x
        have y0 : wr.cell? ⟨b1, o1 + t * 3, none⟩ = some (.string ⟨xs.toArray⟩) := by rw [show o1 + t * 3 = o1 + (t * 3 + 0) by omega]; exact hc1 0 _ rfl
        have y1 : wr.cell? ⟨b1, o1 + t * 3 + 1, none⟩ = some (.string ⟨xl.toArray⟩) := by rw [show o1 + t * 3 + 1 = o1 + (t * 3 + 1) by omega]; exact hc1 1 _ rfl
        have y2 : wr.cell? ⟨b1, o1 + t * 3 + 2, none⟩ = some (.string ⟨xv.toArray⟩) := by rw [show o1 + t * 3 + 2 = o1 + (t * 3 + 2) by omega]; exact hc1 2 _ rfl
        have hlen : ([(sp, lo)] ++ namesA (ats.take t)).length ≤ 1000000000 := by
          rw [List.length_append]
          simp [namesA]
          omega
        obtain ⟨L, hL⟩ : ∃ L, [(sp, lo)] ++ namesA (ats.take t) = L := ⟨_, rfl⟩
        rw [hL] at HO hlen
        have HL := Lib.hid hL
        have ka := (Below.refl wr.heap.size wr).alloc (Nat.le_refl _) (.cells #[.string ⟨xs.toArray⟩, .string ⟨xl.toArray⟩, .string ⟨xv.toArray⟩] 51)
        have hown : (wr.alloc (.cells #[.string ⟨xs.toArray⟩, .string ⟨xl.toArray⟩, .string ⟨xv.toArray⟩] 51)).ownsRow w.heap.size 37 2 _ L.length (L.flatMap cN) := HO.out.kept ka
        have HB2 := Lib.hid (HB.out.trans (ka.mono HB.out.size))
        have hba : w.heap.size ≤ (wr.alloc (.cells #[.string ⟨xs.toArray⟩, .string ⟨xl.toArray⟩, .string ⟨xv.toArray⟩] 51)).heap.size := HB2.out.size
        clear hb1 hx hc1 ka hL
        go_wp2_with (first
          | (at_builtin; refine wpList_appH rfl (.tmp 26) (.tmp 29) 71 37 rfl (.agg #[.string ⟨#[]⟩, .string ⟨#[]⟩]) 2 32 Tryd.underlying71 info_name rfl (by decide) w.heap.size _ _ _ rfl hown (cN (xs, xl)) _ rfl (wr.heap.size + 1) (by simp) rfl rfl (by simp [cN, Value.oneCell']) hlen (by decide) hba ?_))
        intro v6 w6 hown6 hg6 hat6
        have O6 : Hid (OwnN w6 w.heap.size v6 (L ++ [(xs, xl)])) := Lib.hid (OwnN.snoc hown6)
        have kb := (Below.refl (wr.alloc (.cells #[.string ⟨xs.toArray⟩, .string ⟨xl.toArray⟩, .string ⟨xv.toArray⟩] 51)).heap.size _).alloc (Nat.le_refl _) (.cells (cN (xs, xl)).toArray 37)
        have HB6 : Hid (Below w.heap.size w w6) := Lib.hid ((HB2.out.trans (kb.mono hba)).grown hg6 (by rw [World.size_alloc]; omega) (fun j hj => OwnN.ge (l := L) hown hj))
        clear hown6 hg6 hat6 kb hown
        go_wp2
        go_roundg (n - (t + 1))
        case measure => have := hg.out; omega
        case rel => exact ⟨t + 1, by go_num, by omega, Lib.hid (by have := hg.out; omega), Lib.hid (by rw [HSN.out, ← List.append_assoc, HL.out]; exact O6.out), HB6⟩
      · have hti : ¬ (t : Int) < (n : Int) := by omega
        have hO := HO.out
        rw [show ats.take t = ats from List.take_of_length_le (by rw [HLN.out]; omega)] at hO
        obtain ⟨A2, c2, hv, hr⟩ := RRd.ofOwn (c := cN) (fun _ => rfl) (by decide) hO
        subst hv
        have HR := Lib.hid hr
        clear hO hr
        go_wp2
        go_ret
        exact ⟨A2, c2, rfl, HR.out, HB.out⟩
end Go.Proofs.YtocbofeanfdggaaDoor
/- slices.ContainsFunc of names. -/
namespace Go.Proofs.YtocbofeanfdggaaDoor
open Go.ChangeShapes Go.WideShapes Go.ChangeAt Go.RowKit
set_option linter.unusedVariables false
/-- The first name that is so, from a place on. -/
def firstN (p : List UInt8 × List UInt8 → Bool) : List (List UInt8 × List UInt8) → Nat → Int
  | [], _ => -1
  | x :: l, i => if p x = true then (i : Int) else firstN p l (i + 1)
theorem firstN_any (p : List UInt8 × List UInt8 → Bool) : ∀ (l : List (List UInt8 × List UInt8)) (i : Nat), decide (0 ≤ firstN p l i) = l.any p
  | [], _ => rfl
  | x :: l, i => by
    rw [firstN, List.any_cons]
    cases h : p x with
    | true => simp
    | false => rw [if_neg (by simp), firstN_any p l (i + 1), Bool.false_or]
set_option maxRecDepth 100000 in
set_option maxHeartbeats 4000000 in
theorem indexFunc_c (fid : FuncId) (p : List UInt8 × List UInt8 → Bool) (A : Option Addr) (n cap : Nat) (l : List (List UInt8 × List UInt8)) (w : World) (h : RRd cN 2 w w.heap.size A n cap l) (hm : n ≤ 1000000)
    (ec : ∀ args w, (callFunc fid args).run Tryd.prog w = .ok (.enter fid args) w) (HM : ∀ x ∈ l, ∀ W, Below w.heap.size w W → Calls Tryd.prog fid #[.agg #[.string ⟨x.1.toArray⟩, .string ⟨x.2.toArray⟩]] W fun e w' => e = .returned (.bool (p x)) ∧ Below W.heap.size W w') :
    Calls Tryd.prog 79 #[.slice A n cap, .func (.func fid) #[] #[]] w fun e w' => e = .returned (.int .i64 (firstN p l 0)) ∧ Below w.heap.size w w' := by
  have HP : Hid (∀ W, Below w.heap.size w W → RRd cN 2 W W.heap.size A n cap l) := Lib.hid fun W hb => (h.below hb).more hb.size
  have HMM := Lib.hid HM
  have HLN : Hid (l.length = n) := Lib.hid h.len
  have HF : Hid (firstN p l 0 = firstN p (l.drop 0) 0) := Lib.hid rfl
  generalize firstN p l 0 = R at *
  clear h HM
  go_enter Tryd.func79, Tryd.ntmps79
  go_wp2
  go_loopg [8] (n) (fun g i wr => ∃ t : Nat, i = .int .i64 (t : Int) ∧ t ≤ n ∧ Hid (g + t = n) ∧ Hid (R = firstN p (l.drop t) t) ∧ Hid (Below w.heap.size w wr))
  case atStart => exact ⟨0, rfl, Nat.zero_le _, Lib.hid rfl, HF, Lib.hid (Below.refl _ _)⟩
  case round =>
    obtain ⟨t, rfl, ht, hg, HA, HB⟩ := hrel
    have ht0 : (0 : Int) ≤ (t : Int) := by omega
    have ht9 : (t : Int) ≤ 1000000 := by omega
    by_cases htn : t < n
    · have hti : (t : Int) < (n : Int) := by omega
      obtain ⟨b1, o1, x, rfl, hb1, hx, hc1⟩ := (HP.out _ HB.out).cell htn
      have HC := Lib.hid (HMM.out x (List.mem_of_getElem? hx) wr HB.out)
      have hdr : l.drop t = x :: l.drop (t + 1) := by
        have hl := (List.getElem?_eq_some_iff.1 hx).1
        have he : l[t] = x := by rw [List.getElem?_eq_getElem hl] at hx; exact Option.some.inj hx
        rw [List.drop_eq_getElem_cons hl, he]
      have hA := HA.out
      rw [hdr, firstN] at hA
      obtain ⟨xs, xl⟩ := x
      have y0 : wr.cell? ⟨b1, o1 + t * 2, none⟩ = some (.string ⟨xs.toArray⟩) := by rw [show o1 + t * 2 = o1 + (t * 2 + 0) by omega]; exact hc1 0 _ rfl
      have y1 : wr.cell? ⟨b1, o1 + t * 2 + 1, none⟩ = some (.string ⟨xl.toArray⟩) := by rw [show o1 + t * 2 + 1 = o1 + (t * 2 + 1) by omega]; exact hc1 1 _ rfl
      clear hb1 hx hc1 hdr
      cases hp : p (xs, xl) with
      | true =>
        rw [hp, if_pos rfl] at hA
        rw [hp] at HC
        have HA2 := Lib.hid hA
        clear hA hp HA
        go_wp2_with fail
        refine HC.out.mono ?_
        rintro e w2 ⟨rfl, hb2⟩
        have HB2 := Lib.hid (HB.out.trans (hb2.mono HB.out.size))
        clear hb2
        go_wp2
        go_ret
        exact ⟨by rw [HA2.out]; rfl, HB2.out⟩
      | false =>
        rw [hp, if_neg (by simp)] at hA
        rw [hp] at HC
        have HA2 := Lib.hid hA
        clear hA hp HA
        go_wp2_with fail
        refine HC.out.mono ?_
        rintro e w2 ⟨rfl, hb2⟩
        have HB2 := Lib.hid (HB.out.trans (hb2.mono HB.out.size))
        clear hb2
        go_wp2
        go_roundg (n - (t + 1))
        case measure => have := hg.out; omega
        case rel => exact ⟨t + 1, by go_num, by omega, Lib.hid (by have := hg.out; omega), HA2, HB2⟩
    · have hti : ¬ (t : Int) < (n : Int) := by omega
      have hA := HA.out
      rw [List.drop_of_length_le (by rw [HLN.out]; omega), firstN] at hA
      have HA2 := Lib.hid hA
      clear hA HA
      go_wp2
      go_ret
      exact ⟨by rw [HA2.out]; rfl, HB.out⟩
set_option maxRecDepth 100000 in
set_option maxHeartbeats 4000000 in
theorem containsFunc_c (fid : FuncId) (p : List UInt8 × List UInt8 → Bool) (A : Option Addr) (n cap : Nat) (l : List (List UInt8 × List UInt8)) (w : World) (h : RRd cN 2 w w.heap.size A n cap l) (hm : n ≤ 1000000)
    (ec : ∀ args w, (callFunc fid args).run Tryd.prog w = .ok (.enter fid args) w) (HM : ∀ x ∈ l, ∀ W, Below w.heap.size w W → Calls Tryd.prog fid #[.agg #[.string ⟨x.1.toArray⟩, .string ⟨x.2.toArray⟩]] W fun e w' => e = .returned (.bool (p x)) ∧ Below W.heap.size W w') :
    Calls Tryd.prog 56 #[.slice A n cap, .func (.func fid) #[] #[]] w fun e w' => e = .returned (.bool (l.any p)) ∧ Below w.heap.size w w' := by
  have C1 := Lib.hid (indexFunc_c fid p A n cap l w h hm ec HM)
  rw [← firstN_any p l 0]
  clear h hm HM
  generalize firstN p l 0 = R at *
  go_enter Tryd.func56, Tryd.ntmps56
  go_wp2_with fail
  refine C1.out.mono ?_
  rintro e w1 ⟨rfl, hb⟩
  have HB := Lib.hid hb
  clear hb
  go_wp2
  go_ret
  exact ⟨rfl, HB.out⟩
end Go.Proofs.YtocbofeanfdggaaDoor
/- check.named, check.short. -/
namespace Go.Proofs.YtocbofeanfdggaaDoor
open Go.ChangeShapes Go.WideShapes Go.ChangeAt Go.RowKit
set_option linter.unusedVariables false
theorem all_any {α : Type} (l : List α) (p q : α → Bool) (h : ∀ x, q x = !p x) : (!l.any q) = l.all p := by
  induction l with
  | nil => rfl
  | cons a t ih => rw [List.any_cons, List.all_cons, Bool.not_or, ih, h, Bool.not_not]
set_option maxRecDepth 100000 in
set_option maxHeartbeats 4000000 in
theorem named_c (k : Int) (sp lo tx : List UInt8) (A : Option Addr) (n cap : Nat) (ats : List (List UInt8 × List UInt8 × List UInt8)) (w : World) (h : RRd cA 3 w w.heap.size A n cap ats) (hm : n ≤ 100000) (hT : Tabs w) (hF : Forms w) (hl : ∀ x ∈ namesE ⟨k, sp, lo, ats, tx⟩, x.2.length ≤ 50000) :
    Calls Tryd.prog 44 #[.agg #[.int .i64 k, .string ⟨sp.toArray⟩, .string ⟨lo.toArray⟩, .slice A n cap, .string ⟨tx.toArray⟩]] w fun e w' => e = .returned (.bool (namedB (namesE ⟨k, sp, lo, ats, tx⟩))) ∧ Below w.heap.size w w' := by
  have J0 := Lib.hid (CJ.start 40 w #[.int .i64 k, .string ⟨sp.toArray⟩, .string ⟨lo.toArray⟩, .slice A n cap, .string ⟨tx.toArray⟩])
  have z0 := cell_of 0 J0.out.2
  have z1 := cell_of 1 J0.out.2
  have z2 := cell_of 2 J0.out.2
  have z3 := cell_of 3 J0.out.2
  have z4 := cell_of 4 J0.out.2
  have hnl : (namesE ⟨k, sp, lo, ats, tx⟩).length ≤ n + 1 := by
    have := h.len
    unfold namesE namesA
    split <;> simp <;> omega
  have C1 := Lib.hid (ckNames_c k sp lo tx A n cap ats _ ((h.below J0.out.1).more J0.out.1.size) hm)
  have hR : namedB (namesE ⟨k, sp, lo, ats, tx⟩) = !(namesE ⟨k, sp, lo, ats, tx⟩).any (fun x => !isPl x.2) := (all_any _ _ _ (fun x => rfl)).symm
  rw [hR]
  have C2 : Hid (∀ (W : World) (A2 : Option Addr) (c2 : Nat), Below w.heap.size w W → RRd cN 2 W W.heap.size A2 (namesE ⟨k, sp, lo, ats, tx⟩).length c2 (namesE ⟨k, sp, lo, ats, tx⟩) → Calls Tryd.prog 56 #[.slice A2 (namesE ⟨k, sp, lo, ats, tx⟩).length c2, .func (.func 58) #[] #[]] W fun e w' => e = .returned (.bool ((namesE ⟨k, sp, lo, ats, tx⟩).any (fun x => !isPl x.2))) ∧ Below W.heap.size W w') := Lib.hid fun W A2 c2 hb hr => containsFunc_c _ (fun x => !isPl x.2) A2 _ c2 _ W hr (by omega) (enters_of Tryd.func58 (by kernel_rfl) rfl) (fun x hx W' hb' => named1_c x.1 x.2 W' ((hT.below hb (hT.low hF)).below hb' ((hT.below hb (hT.low hF)).low (hF.below hb hF.lt))) ((hF.below hb hF.lt).below hb' (hF.below hb hF.lt).lt) (hl x hx))
  clear h hm hnl hR hT hF hl
  generalize namesE ⟨k, sp, lo, ats, tx⟩ = l at *
  generalize hany : l.any (fun x => !isPl x.2) = b at *
  generalize hll : l.length = m at *
  clear hany hll
  go_enter Tryd.func44, Tryd.ntmps44
  go_wp2_with fail
  refine C1.out.mono ?_
  rintro e w1 ⟨A2, c2, rfl, hr, hb⟩
  have HB1 := Lib.hid (J0.out.1.trans (hb.mono J0.out.1.size))
  have C3 := Lib.hid (C2.out w1 A2 c2 HB1.out hr)
  clear hr hb C2 C1
  go_wp2_with fail
  refine C3.out.mono ?_
  rintro e w2 ⟨rfl, hb⟩
  have HB2 := Lib.hid (HB1.out.trans (hb.mono HB1.out.size))
  clear hb
  go_wp2
  go_ret
  exact ⟨rfl, HB2.out⟩
set_option maxRecDepth 100000 in
set_option maxHeartbeats 4000000 in
theorem short_c (k : Int) (sp lo tx : List UInt8) (A : Option Addr) (n cap : Nat) (ats : List (List UInt8 × List UInt8 × List UInt8)) (w : World) (h : RRd cA 3 w w.heap.size A n cap ats) (hm : n ≤ 100000) :
    Calls Tryd.prog 46 #[.agg #[.int .i64 k, .string ⟨sp.toArray⟩, .string ⟨lo.toArray⟩, .slice A n cap, .string ⟨tx.toArray⟩]] w fun e w' => e = .returned (.bool (shortB (namesE ⟨k, sp, lo, ats, tx⟩))) ∧ Below w.heap.size w w' := by
  have J0 := Lib.hid (CJ.start 40 w #[.int .i64 k, .string ⟨sp.toArray⟩, .string ⟨lo.toArray⟩, .slice A n cap, .string ⟨tx.toArray⟩])
  have z0 := cell_of 0 J0.out.2
  have z1 := cell_of 1 J0.out.2
  have z2 := cell_of 2 J0.out.2
  have z3 := cell_of 3 J0.out.2
  have z4 := cell_of 4 J0.out.2
  have hnl : (namesE ⟨k, sp, lo, ats, tx⟩).length ≤ n + 1 := by
    have := h.len
    unfold namesE namesA
    split <;> simp <;> omega
  have C1 := Lib.hid (ckNames_c k sp lo tx A n cap ats _ ((h.below J0.out.1).more J0.out.1.size) hm)
  have hR : shortB (namesE ⟨k, sp, lo, ats, tx⟩) = !(namesE ⟨k, sp, lo, ats, tx⟩).any (fun x => !decide (x.2.length ≤ 1024)) := (all_any _ _ _ (fun x => rfl)).symm
  rw [hR]
  have C2 : Hid (∀ (W : World) (A2 : Option Addr) (c2 : Nat), Below w.heap.size w W → RRd cN 2 W W.heap.size A2 (namesE ⟨k, sp, lo, ats, tx⟩).length c2 (namesE ⟨k, sp, lo, ats, tx⟩) → Calls Tryd.prog 56 #[.slice A2 (namesE ⟨k, sp, lo, ats, tx⟩).length c2, .func (.func 64) #[] #[]] W fun e w' => e = .returned (.bool ((namesE ⟨k, sp, lo, ats, tx⟩).any (fun x => !decide (x.2.length ≤ 1024)))) ∧ Below W.heap.size W w') := Lib.hid fun W A2 c2 hb hr => containsFunc_c _ (fun x => !decide (x.2.length ≤ 1024)) A2 _ c2 _ W hr (by omega) (enters_of Tryd.func64 (by kernel_rfl) rfl) (fun x hx W' hb' => short1_c x.1 x.2 W')
  clear h hm hnl hR
  generalize namesE ⟨k, sp, lo, ats, tx⟩ = l at *
  generalize hany : l.any (fun x => !decide (x.2.length ≤ 1024)) = b at *
  generalize hll : l.length = m at *
  clear hany hll
  go_enter Tryd.func46, Tryd.ntmps46
  go_wp2_with fail
  refine C1.out.mono ?_
  rintro e w1 ⟨A2, c2, rfl, hr, hb⟩
  have HB1 := Lib.hid (J0.out.1.trans (hb.mono J0.out.1.size))
  have C3 := Lib.hid (C2.out w1 A2 c2 HB1.out hr)
  clear hr hb C2 C1
  go_wp2_with fail
  refine C3.out.mono ?_
  rintro e w2 ⟨rfl, hb⟩
  have HB2 := Lib.hid (HB1.out.trans (hb.mono HB1.out.size))
  clear hb
  go_wp2
  go_ret
  exact ⟨rfl, HB2.out⟩
end Go.Proofs.YtocbofeanfdggaaDoor
