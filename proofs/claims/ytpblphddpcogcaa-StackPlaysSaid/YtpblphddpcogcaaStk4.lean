/- Find and All of a stack. -/
import Derived.Test.YtpblphddpcogcaaRows
import Derived.WalkKit
import Derived.ProofKit
import Derived.OpenShut
import Derived.ShutString
import Derived.ChangeOld
import Derived.Below
import Derived.BigQuiet
import Derived.Deep.QuietTactic
import Derived.Lib.Hide
import Derived.Deep.RegionHeld3
import Derived.Lib.SlBytesConst
import Derived.Laws.CopyOwn
import Derived.Laws.CopyRow
import Derived.Lib.Bytes
import Derived.Deep.LoopGhost
import Derived.Deep.DeepFit
import Derived.Deep.DeepMust
import Derived.WalkSpells
import Derived.WalkLawsBesides
import Derived.Laws.OwnMore
import Derived.Deep.Upon
import Derived.Deep.AppendSrc
import Derived.Laws.IdiomCopy
import Derived.Lib.LazyBuf
import Derived.Test.YtpblphddpcogcaaShelf
import Derived.Test.YtpblphddpcogcaaBase
import Derived.Test.YtpblphddpcogcaaStk
import Derived.Test.YtpblphddpcogcaaStk2
import Derived.Test.YtpblphddpcogcaaStk3
namespace Go.Proofs.Ytpblphddpcogcaa
open Go.ChangeShapes Go.WideShapes Go.ChangeAt Go.RowKit
set_option linter.unusedVariables false
set_option maxRecDepth 100000 in
set_option maxHeartbeats 2000000 in
theorem find_c (x room : Int) (l : List Int) (b : Nat) (c0 c1 : Value) (w : World) (s : Stk w b room l) (hm : l.length ≤ 1000)
    (hC : ∀ k : Int, Calls Try.prog 16 #[.int .i64 k, c0, c1] w fun e w' => e = .returned (.bool (k == x)) ∧ w = w') :
    Calls Try.prog 15 #[.pointer (some ⟨b, 0, none⟩), .func (.func 16) #[] #[c0, c1]] w fun e w' => e = .returned (.tuple #[.int .i64 (fnd (· == x) l).1, .bool (fnd (· == x) l).2]) ∧ w = w' := by
  obtain ⟨h0, h1, t, hb, hch⟩ := s
  have z1 := cell_of 1 hb
  have z2 := cell_of 2 hb
  simp only [List.getElem?_toArray, List.getElem?_cons_zero, List.getElem?_cons_succ] at z1 z2
  have hnil : ∀ w : World, (binOp .eql 28 (.func (.func 16) #[] #[c0, c1]) .nilFunc).run Try.prog w = .ok (.bool false) w := fun w => by kernel_rfl
  have ec : ∀ args w, (callFunc 16 args).run Try.prog w = .ok (.enter 16 args) w := enters_of Try.func16 (by kernel_rfl) rfl
  have HC := Lib.hid hC
  have HCH := Lib.hid hch
  have hlb : (l.length : Int) ≤ 1000 := by omega
  clear hb hch hC h0 h1
  go_enter Try.func15, Try.ntmps15
  go_wp2
  go_loopg [6, 7] (l.length) (fun g a p wr => ∃ (l' : List Int) (t' : Option Addr), g = l'.length ∧ l'.length ≤ l.length ∧ a = .int .i64 (l'.length : Int) ∧ p = .pointer t' ∧ w = wr ∧ Hid (Chain w (b + 1) t' l') ∧ Hid (fnd (· == x) l = fnd (· == x) l'))
  case atStart => exact ⟨l, t, rfl, Nat.le_refl _, rfl, rfl, rfl, HCH, Lib.hid rfl⟩
  case round =>
    obtain ⟨l', t', hg, hl, rfl, rfl, rfl, HCn, HE⟩ := hrel
    cases l' with
    | nil =>
      obtain rfl : t' = none := HCn.out
      have HE0 : Hid (fnd (· == x) l = (0, false)) := Lib.hid (by rw [HE.out]; rfl)
      go_wp2
      go_ret2
      rw [HE0.out]
      exact ⟨rfl, rfl⟩
    | cons y l' =>
      obtain ⟨c, q, rfl, hB, hc, hrest⟩ := HCn.out
      have d0 := cell_of 0 hc
      have d1 := cell_of 1 hc
      simp only [List.getElem?_toArray, List.getElem?_cons_zero, List.getElem?_cons_succ] at d0 d1
      have HR := Lib.hid hrest
      have hyl : ((y :: l').length : Int) = (l'.length : Int) + 1 := by simp
      have hl2 : l'.length + 1 ≤ l.length := by simpa using hl
      have hl3 : (l'.length : Int) ≤ 1000 := by omega
      have HX : Hid (fnd (· == x) l = if (y == x) = true then ((l'.length : Int), true) else fnd (· == x) l') := Lib.hid (by rw [HE.out]; rfl)
      rw [hyl]
      clear hc hrest HCn HE hl
      have C1 := Lib.hid (HC.out y)
      cases hy : (y == x) with
      | true =>
        rw [hy] at C1 HX
        have HE0 : Hid (fnd (· == x) l = ((l'.length : Int), true)) := Lib.hid (by rw [HX.out, if_pos rfl])
        clear hy
        go_wp2_with fail
        refine C1.out.mono ?_
        rintro e w1 ⟨rfl, rfl⟩
        go_wp2
        go_ret2
        rw [HE0.out]
        exact ⟨rfl, rfl⟩
      | false =>
        rw [hy] at C1 HX
        have HE0 : Hid (fnd (· == x) l = fnd (· == x) l') := Lib.hid (by rw [HX.out, if_neg (by simp)])
        clear hy
        go_wp2_with fail
        refine C1.out.mono ?_
        rintro e w1 ⟨rfl, rfl⟩
        go_wp2
        go_roundg (l'.length)
        case measure => simp at hg; omega
        case rel => exact ⟨l', q, rfl, by omega, by go_num, rfl, rfl, HR, HE0⟩
set_option maxRecDepth 100000 in
set_option maxHeartbeats 4000000 in
theorem all_c (room : Int) (l : List Int) (b : Nat) (w : World) (s : Stk w b room l) (hm : l.length ≤ 1000) :
    Calls Try.prog 20 #[.pointer (some ⟨b, 0, none⟩)] w fun e w' => ∃ A c, e = .returned (.slice A l.length c) ∧ Rd w' w'.heap.size A l.length c (l.reverse.map iz) ∧ Below w.heap.size w w' := by
  obtain ⟨h0, h1, t, hb, hch⟩ := s
  have z2 := cell_of 2 hb
  simp only [List.getElem?_toArray, List.getElem?_cons_zero, List.getElem?_cons_succ] at z2
  have HCH := Lib.hid hch
  clear hb hch h0 h1
  go_enter Try.func20, Try.ntmps20
  go_wp2
  go_loopg [3, 4] (l.length) (fun g v p wr => ∃ (acc l' : List Int) (t' : Option Addr), g = l'.length ∧ p = .pointer t' ∧ Hid (acc ++ l' = l) ∧ Hid (Chain wr (b + 1) t' l') ∧ Hid (Chain w (b + 1) t' l') ∧ Hid (wr.ownsRow w.heap.size 3 1 v acc.length (acc.map iz)) ∧ Hid (Below w.heap.size w wr))
  case atStart => exact ⟨[], l, t, rfl, rfl, Lib.hid rfl, HCH, HCH, Lib.hid ⟨rfl, Or.inl ⟨rfl, rfl⟩⟩, Lib.hid (Below.refl _ _)⟩
  case round =>
    obtain ⟨acc, l', t', hg, rfl, HA, HC1, HC2, HO, HB⟩ := hrel
    clear z2
    cases l' with
    | nil =>
      obtain rfl : t' = none := HC1.out
      have ha : acc = l := by simpa using HA.out
      subst ha
      obtain ⟨hlen, ⟨rfl, hz⟩ | ⟨g, cap, cur, rfl, hg2, hh, hn, hc, hs, ht2⟩⟩ := HO.out
      · have hz' : acc = [] := List.length_eq_zero_iff.1 hz
        subst hz'
        have CR := Lib.hid fun W => Try.slices_Reverse_int_empty none 0 W
        clear hlen HO
        go_wp2_with fail
        refine (CR.out _).mono ?_
        rintro e w1 ⟨rfl, rfl⟩
        go_wp2
        go_ret
        exact ⟨none, 0, rfl, Rd.nilR _ _, HB.out⟩
      · have hcell : ∀ j, j < acc.length → wr.cell? ⟨g, 0 + j, none⟩ = some (.int .i64 (acc.getD j 0)) := fun j hj => by
          have h1 : (acc.map iz)[j]? = some (.int .i64 (acc.getD j 0)) := by
            rw [List.getElem?_map, List.getElem?_eq_getElem hj]; simp [hj, iz]
          rw [← ht2, List.getElem?_take_of_lt (by omega)] at h1
          rw [Nat.zero_add, cell_of j hh]
          simpa using h1
        have CR := Lib.hid (Try.slices_Reverse_int_cells g 0 acc.length cap acc wr (Nat.le_refl _) (by omega) hcell (fun j hj => free_of _ hh))
        have HCELL := Lib.hid hcell
        have HX := Lib.hid (And.intro hg2 (And.intro (lt_of hh) (And.intro hn hc)))
        clear hcell hh hn hc hs ht2 hlen HO hg2
        go_wp2_with fail
        refine CR.out.mono ?_
        rintro e w1 ⟨rfl, hw1⟩
        have HR1 : Hid (Rd w1 w1.heap.size (some ⟨g, 0, none⟩) acc.length cap (acc.reverse.map iz) ∧ Below w.heap.size w w1) := Lib.hid (by
          obtain ⟨q, rfl⟩ := hw1
          have hb1 : Below w.heap.size w ((wr.drewN q).setCells g 0 ((acc.take acc.length).reverse.map (Value.int .i64))) := below_setCells HX.out.1 _ _ _ (below_drewN' HB.out)
          rw [List.take_length] at hb1 ⊢
          have hsz : (wr.drewN q).heap.size ≤ ((wr.drewN q).setCells g 0 (acc.reverse.map (Value.int .i64))).heap.size := (below_setCells (B := 0) (a := wr.drewN q) (Nat.zero_le g) _ _ _ (Below.refl _ _)).size
          refine ⟨⟨by simp, HX.out.2.2.1, HX.out.2.2.2, (fun e => by cases e), fun h0 => ⟨g, 0, rfl, Nat.lt_of_lt_of_le HX.out.2.1 hsz, fun i u hu => ?_⟩⟩, hb1⟩
          have hi : i < (acc.reverse.map (Value.int .i64)).length := by
            rcases Nat.lt_or_ge i (acc.reverse.map iz).length with h' | h'
            · simpa using h'
            · rw [List.getElem?_eq_none h'] at hu; cases hu
          have h1 := World.cell?_setCells_in g (acc.reverse.map (Value.int .i64)) 0 (wr.drewN q) (fun j hj => by
            have := HCELL.out j (by simpa using hj)
            show ((wr.drewN q).cell? _).isSome = true
            rw [show (wr.drewN q).cell? ⟨g, 0 + j, none⟩ = wr.cell? ⟨g, 0 + j, none⟩ from rfl, this]
            rfl) i hi
          have h2 : (acc.reverse.map (Value.int .i64))[i]? = some u := hu
          rw [List.getElem?_eq_getElem hi] at h2
          rw [h1]
          exact h2)
        clear hw1
        go_wp2
        go_ret
        exact ⟨_, cap, rfl, HR1.out.1, HR1.out.2⟩
    | cons y l' =>
      obtain ⟨c, q, rfl, hB, hc, hrest⟩ := HC1.out
      have d0 := cell_of 0 hc
      simp only [List.getElem?_toArray, List.getElem?_cons_zero] at d0
      obtain ⟨c', q', e', hB', hc', hrest'⟩ := HC2.out
      cases e'
      have hl' : acc.length + (l'.length + 1) = l.length := by have := congrArg List.length HA.out; simpa using this
      have hcl : c < w.heap.size := lt_of hc'
      obtain rfl : q = q' := by
        have := (HB.out.block c hcl).symm.trans hc
        rw [hc'] at this
        cases this
        rfl
      have HR := Lib.hid hrest'
      have HCc := Lib.hid hc'
      have HCL := Lib.hid hcl
      have HL' := Lib.hid hl'
      have hsz := HB.out.size
      have HSZ := Lib.hid hsz
      have d1 := cell_of 1 hc
      simp only [List.getElem?_toArray, List.getElem?_cons_zero, List.getElem?_cons_succ] at d1
      clear hc hrest hc' hrest' HC1 HC2 hcl hl' hsz
      go_wp2_with (at_builtin; refine wpList_app1 rfl (.tmp 17) (.tmp 22) 30 3 rfl (.int .i64 0) 8 Try.underlying30 info_int rfl w.heap.size _ acc.length _ rfl HO.out (.int .i64 y) rfl rfl (by have := HL'.out; omega) (by decide) HSZ.out w w.heap.size HB.out (Nat.le_refl _) ?_)
      intro v' w' hown' hb' hs'
      have HO2 : Hid (w'.ownsRow w.heap.size 3 1 v' (acc ++ [y]).length ((acc ++ [y]).map iz)) := Lib.hid (by rw [List.length_append, List.map_append]; exact hown')
      have HB2 := Lib.hid hb'
      have hcw := (hb'.block c HCL.out).trans HCc.out
      have d1 := cell_of 1 hcw
      simp only [List.getElem?_toArray, List.getElem?_cons_zero, List.getElem?_cons_succ] at d1
      have HCW : Hid (Chain w' (b + 1) q l') := Lib.hid (HR.out.keep fun c _ hc => hb'.block c hc)
      clear hown' hb' hs' hcw
      go_wp2
      go_roundg (l'.length)
      case measure => simp at hg; omega
      case rel => exact ⟨acc ++ [y], l', q, rfl, rfl, Lib.hid (by rw [← HA.out]; simp), HCW, HR, HO2, HB2⟩
end Go.Proofs.Ytpblphddpcogcaa
