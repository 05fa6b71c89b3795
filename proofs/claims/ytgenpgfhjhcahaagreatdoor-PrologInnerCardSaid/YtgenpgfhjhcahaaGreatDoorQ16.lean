/- Texts of ours, joined: XdK. -/
import Derived.Test.YtgenpgfhjhcahaaGreatDoorRows
import Derived.WalkKit
import Derived.ProofKit
import Derived.OpenShut
import Derived.ShutString
import Derived.ChangeOld
import Derived.Below
import Derived.BigQuiet
import Derived.Deep.QuietTactic
import Derived.Lib.Hide
import Derived.Deep.RegionHeld3
import Derived.Lib.SlBytesConst
import Derived.Laws.CopyOwn
import Derived.Laws.CopyRow
import Derived.Lib.Bytes
import Derived.Deep.LoopGhost
import Derived.Deep.DeepFit
import Derived.Deep.DeepMust
import Derived.WalkSpells
import Derived.WalkLawsBesides
import Derived.Laws.EntriesVeiled
import Derived.Laws.Rows
import Derived.Deep.RegionWith
import Derived.Test.YtgenpgfhjhcahaaGreatDoorQ1
import Derived.Test.YtgenpgfhjhcahaaGreatDoorQ8
import Derived.Test.YtgenpgfhjhcahaaGreatDoorQ2
import Derived.Test.YtgenpgfhjhcahaaGreatDoorQ7
import Derived.Test.YtgenpgfhjhcahaaGreatDoorQ9
import Derived.Test.YtgenpgfhjhcahaaGreatDoorQ15
/- narthex/xdecl.part's read. -/
namespace Go.Proofs.YtgenpgfhjhcahaaGreatDoor
open Go.ChangeShapes Go.WideShapes Go.ChangeAt Go.RowKit
set_option linter.unusedVariables false
/-- What stands while a part is read: below w all as it was, and the part's own block. -/
def PkJ (word : List UInt8) (fid : Nat) (pt : Addr) (must : Bool) (w W : World) : Prop :=
  Below w.heap.size w W ∧ w.heap.size < W.heap.size ∧ W.cell? ⟨w.heap.size, 0, none⟩ = some (.string ⟨word.toArray⟩) ∧ W.cell? ⟨w.heap.size, 1, none⟩ = some (.func (.func fid) #[] #[]) ∧ W.cell? ⟨w.heap.size, 2, none⟩ = some (.pointer (some pt))
theorem PkJ.kept {word : List UInt8} {fid : Nat} {pt : Addr} {must : Bool} {w W W' : World} (h : PkJ word fid pt must w W) (hb : Below W.heap.size W W') : PkJ word fid pt must w W' :=
  ⟨h.1.trans (hb.mono h.1.size), by have := hb.size; have := h.2.1; omega, by rw [hb.cell h.2.1]; exact h.2.2.1, by rw [hb.cell h.2.1]; exact h.2.2.2.1, by rw [hb.cell h.2.1]; exact h.2.2.2.2⟩
theorem PkJ.drewN {word : List UInt8} {fid : Nat} {pt : Addr} {must : Bool} {w W : World} (h : PkJ word fid pt must w W) (n : Nat) : PkJ word fid pt must w (W.drewN n) := h.kept (below_drewN' (Below.refl _ _))
/-- What is left behind a part: it is not there, wrong, or there: then its value is stored. -/
def PartPost (o : Option (List UInt8 × Nat)) (k g idx : Nat) (w : World) (e : Ending) (w' : World) : Prop := match o with
  | none => e = .returned (.tuple #[.int .i64 0, .int .i64 7]) ∧ Below w.heap.size w w'
  | some (s, j) => if j = k then e = .returned (.tuple #[.int .i64 (k : Int), .int .i64 0]) ∧ Below w.heap.size w w' else e = .returned (.tuple #[.int .i64 (j : Int), .int .i64 0]) ∧ ∃ w1, Below w.heap.size w w1 ∧ w' = w1.setCell ⟨g, idx, none⟩ (.string ⟨s.toArray⟩)
theorem PartPost.mkSame {k g idx : Nat} {w : World} {e : Ending} {w' : World} (h1 : e = .returned (.tuple #[.int .i64 (k : Int), .int .i64 0])) (h2 : Below w.heap.size w w') : PartPost (some (([] : List UInt8), k)) k g idx w e w' := by
  show (if k = k then _ else _)
  rw [if_pos rfl]
  exact ⟨h1, h2⟩
set_option maxRecDepth 100000 in
set_option maxHeartbeats 4000000 in
theorem partRead_c (word : List UInt8) (fid : Nat) (may : List UInt8 → Bool) (must : Bool) (g idx : Nat) (vs : Array Value) (T : TypeId) (A : Option Addr) (n cap : Nat) (l : List UInt8) (k : Nat) (w : World) (h : Byt w w.heap.size A n cap l) (hm : n ≤ 40000) (hk : k ≤ n)
    (hw0 : 0 < word.length) (hwl : word.length ≤ 100) (hg : w.heap[g]? = some (.cells vs T)) (hidx : idx < vs.size)
    (ec : ∀ args w, (callFunc fid args).run Tryz.prog w = .ok (.enter fid args) w) (HM : ∀ s : List UInt8, s.length ≤ n → ∀ W, Below w.heap.size w W → Calls Tryz.prog fid #[.string ⟨s.toArray⟩] W fun e w' => e = .returned (.bool (may s)) ∧ Below W.heap.size W w') :
    Calls Tryz.prog 92 #[.agg #[.string ⟨word.toArray⟩, .func (.func fid) #[] #[], .pointer (some ⟨g, idx, none⟩), .bool must], .slice A n cap, .int .i64 k] w fun e w' => PartPost (partOut word may l k) k g idx w e w' := by
  have hgl := lt_of hg
  have f0 := hp_new w (.cells #[.string ⟨word.toArray⟩, .func (.func fid) #[] #[], .pointer (some ⟨g, idx, none⟩), .bool must] 122)
  have z0 : (w.alloc (.cells #[.string ⟨word.toArray⟩, .func (.func fid) #[] #[], .pointer (some ⟨g, idx, none⟩), .bool must] 122)).cell? ⟨w.heap.size, 0, none⟩ = some (.string ⟨word.toArray⟩) := cell_of 0 f0
  have z1 : (w.alloc (.cells #[.string ⟨word.toArray⟩, .func (.func fid) #[] #[], .pointer (some ⟨g, idx, none⟩), .bool must] 122)).cell? ⟨w.heap.size, 1, none⟩ = some (.func (.func fid) #[] #[]) := cell_of 1 f0
  have z2 : (w.alloc (.cells #[.string ⟨word.toArray⟩, .func (.func fid) #[] #[], .pointer (some ⟨g, idx, none⟩), .bool must] 122)).cell? ⟨w.heap.size, 2, none⟩ = some (.pointer (some ⟨g, idx, none⟩)) := cell_of 2 f0
  have hb0 : Below w.heap.size w (w.alloc (.cells #[.string ⟨word.toArray⟩, .func (.func fid) #[] #[], .pointer (some ⟨g, idx, none⟩), .bool must] 122)) := Below.alloc (Below.refl _ _) (Nat.le_refl _) _
  have hsize : (w.alloc (.cells #[.string ⟨word.toArray⟩, .func (.func fid) #[] #[], .pointer (some ⟨g, idx, none⟩), .bool must] 122)).heap.size = w.heap.size + 1 := by simp
  have hJ0 : PkJ word fid ⟨g, idx, none⟩ must w (w.alloc (.cells #[.string ⟨word.toArray⟩, .func (.func fid) #[] #[], .pointer (some ⟨g, idx, none⟩), .bool must] 122)) := ⟨hb0, by simp, z0, z1, z2⟩
  have hln := h.length
  have hcap := h.le
  have hcv : ∀ W : World, (convert 9 22 (.string ⟨word.toArray⟩)).run Tryz.prog W = .ok (.slice (some ⟨W.heap.size, 0, none⟩) word.length (grownCap W word.length 0 5)) (Lib.bytesWorld W 5 ⟨word.toArray⟩) := fun W => run_toBytes W word
  have hA : ∀ W, PkJ word fid ⟨g, idx, none⟩ must w W → Byt W w.heap.size A n cap l := fun W hJ => h.below hJ.1
  have CB : Hid (∀ t, t ≤ n → ∀ W, PkJ word fid ⟨g, idx, none⟩ must w W → Calls Tryz.prog 13 #[.slice A n cap, .int .i64 (t : Int)] W fun e w' => e = .returned (.int .i64 (blankTo l t)) ∧ W = w') := Lib.hid fun t ht W hJ => blanks_c A n cap l t _ W (hA W hJ) (by omega) ht
  have CQ : Hid (∀ t : Nat, ∀ W, PkJ word fid ⟨g, idx, none⟩ must w W → Calls Tryz.prog 141 #[.slice A n cap, .int .i64 (t : Int)] W fun e w' => e = .returned (outV (quotedAt l (t : Int))) ∧ Hid (PkJ word fid ⟨g, idx, none⟩ must w w')) := Lib.hid fun t W hJ => (quoted_c A n cap l t W _ (hA W hJ) (by omega)).mono fun e w' ⟨he, m, hw⟩ => ⟨he, Lib.hid (hw ▸ hJ.drewN m)⟩
  have CM : Hid (∀ s : List UInt8, s.length ≤ n → ∀ W, PkJ word fid ⟨g, idx, none⟩ must w W → Calls Tryz.prog fid #[.string ⟨s.toArray⟩] W fun e w' => e = .returned (.bool (may s)) ∧ Hid (PkJ word fid ⟨g, idx, none⟩ must w w')) := Lib.hid fun s hs W hJ => (HM s hs W hJ.1).mono fun e w' ⟨he, hb⟩ => ⟨he, Lib.hid (hJ.kept hb)⟩
  have HG : Hid (∀ W, PkJ word fid ⟨g, idx, none⟩ must w W → W.heap[g]? = some (.cells vs T)) := Lib.hid fun W hJ => (hJ.1.block g hgl).trans hg
  have hk0 : (0 : Int) ≤ (k : Int) := by omega
  have hk1 : (k : Int) ≤ 40000 := by omega
  have hb1 := blankTo_le l k (by omega)
  have c1 := CB.out k hk _ hJ0
  have hin := h.below hb0
  clear hg hgl
  generalize hbd : blankTo l k = b at *
  have hbn : b ≤ n := by omega
  have hrf : ∀ W : World, (Instr.slice 22 (.slice A n cap) (some (.int .i64 (b : Int))) none none).run Tryz.prog W = .ok (.slice (cutA A cap b) (n - b) (cap - b)) W := fun W => run_from A n cap b hbn
  have hbb0 : (0 : Int) ≤ (b : Int) := by omega
  have hbb1 : (b : Int) ≤ 40000 := by omega
  by_cases hp : word.isPrefixOf (l.drop b) = true
  · have hpl := pre_len hp
    have hbw : b + word.length ≤ n := by
      rcases hpl with e | e
      · rw [e] at hw0; cases hw0
      · omega
    have CP : Hid (∀ W : World, Hid (∃ m, W = (w.alloc (.cells #[.string ⟨word.toArray⟩, .func (.func fid) #[] #[], .pointer (some ⟨g, idx, none⟩), .bool must] 122)).drewN m) → Calls Tryz.prog 91 #[.slice (cutA A cap b) (n - b) (cap - b), .slice (some ⟨w.heap.size + 1, 0, none⟩) word.length (grownCap W word.length 0 5)] (Lib.bytesWorld W 5 ⟨word.toArray⟩) fun e w' => e = .returned (.tuple #[.slice (cutA (cutA A cap b) (cap - b) word.length) (n - b - word.length) (cap - b - word.length), .bool true]) ∧ Hid (PkJ word fid ⟨g, idx, none⟩ must w w')) := Lib.hid fun W HW => by
      obtain ⟨m, rfl⟩ := HW.out
      have hJ1 := (hJ0.drewN m).kept (Lib.bytesWorld_below _ 5 ⟨word.toArray⟩)
      have hn := byt_new ((w.alloc (.cells #[.string ⟨word.toArray⟩, .func (.func fid) #[] #[], .pointer (some ⟨g, idx, none⟩), .bool must] 122)).drewN m) word (by omega)
      rw [show ((w.alloc (.cells #[.string ⟨word.toArray⟩, .func (.func fid) #[] #[], .pointer (some ⟨g, idx, none⟩), .bool must] 122)).drewN m).heap.size = w.heap.size + 1 from hsize] at hn
      exact (cutPrefix_yes _ _ _ _ _ _ _ _ _ _ _ ((hA _ hJ1).drop hbn) hn hw0 hp).mono fun e w' ⟨he, hw⟩ => ⟨he, Lib.hid (hw ▸ hJ1)⟩
    by_cases hbk : b = k
    · rw [part_none1 (by rw [hbd, hbk])]
      have hbe : ((b : Int) == (k : Int)) = true := by simp; omega
      have HF : Hid (∀ e w', e = .returned (.tuple #[.int .i64 (k : Int), .int .i64 0]) → Below w.heap.size w w' → PartPost (some (([] : List UInt8), k)) k g idx w e w') := Lib.hid fun e w' h1 h2 => PartPost.mkSame h1 h2
      have C1 := Lib.hid c1
      clear c1 h hA hin hb0 f0 hJ0 hln hcap hp hpl hbw CB CQ CM HG hbd hb1 hsize hidx HM hbk hw0 hwl
      generalize cutA (cutA A cap b) (cap - b) word.length = R at *
      generalize cutA A cap b = A2 at *
      generalize n - b - word.length = rn at *
      generalize cap - b - word.length = rc at *
      generalize n - b = n2 at *
      generalize cap - b = c2 at *
      go_enter Tryz.func92, Tryz.ntmps92
      go_wp2_with fail
      refine (C1.out).mono ?_
      rintro e wq ⟨rfl, rfl⟩
      go_wp2
      go_region_with (first
        | (go_at_call 91; refine (CP.out _ (by first | exact Lib.hid ⟨0, rfl⟩ | exact Lib.hid ⟨1, rfl⟩ | exact Lib.hid ⟨2, rfl⟩ | exact Lib.hid ⟨3, rfl⟩)).mono ?_; rintro e w1 ⟨rfl, HJ1⟩))
      all_goals
        clear hcv z0
        go_wp2
        go_ret2
        exact HF.out _ _ rfl HJ1.out.1
    · have hbe : ((b : Int) == (k : Int)) = false := by simp; omega
      have c3 := CB.out (b + word.length) hbw
      have hb2 := blankTo_le l (b + word.length) (by omega)
      have hps := part_some (may := may) (i := blankTo l (b + word.length)) (by rw [hbd]; exact hbk) (by rw [hbd]; exact hp) (by rw [hbd])
      generalize blankTo l (b + word.length) = i at *
      have hi0 : (0 : Int) ≤ (i : Int) := by omega
      have hi1 : (i : Int) ≤ 40000 := by omega
      rw [show ((b + word.length : Nat) : Int) = (n : Int) - ((n - b - word.length : Nat) : Int) by omega] at c3
      have hr0 : (0 : Int) ≤ (n : Int) - ((n - b - word.length : Nat) : Int) := by omega
      have hr1 : (n : Int) - ((n - b - word.length : Nat) : Int) ≤ 40000 := by omega
      by_cases h61 : l[i]? = some 61
      · rw [if_pos h61] at hps
        have hlt := (List.getElem?_eq_some_iff.1 h61).1
        have hin' : i < n := by omega
        obtain ⟨bb, o, c, rfl, hbl, hc, hcell⟩ := hin.cell hin'
        rw [h61] at hc
        obtain rfl : 61 = c := Option.some.inj hc
        have hie : ((i : Int) == (n : Int)) = false := by simp; omega
        have HCell : Hid (∀ W, PkJ word fid ⟨g, idx, none⟩ must w W → W.cell? ⟨bb, o + i, none⟩ = some (.int .u8 61)) := Lib.hid fun W hJ => by
          have := (hJ.1.cell (p := ⟨bb, o + i, none⟩) (by exact hbl)).trans ((hb0.cell (p := ⟨bb, o + i, none⟩) (by exact hbl)).symm.trans hcell)
          exact this
        have c4 := CB.out (i + 1) (by omega)
        have hb3 := blankTo_le l (i + 1) (by omega)
        rw [show ((i + 1 : Nat) : Int) = (i : Int) + 1 by omega] at c4
        generalize blankTo l (i + 1) = d at *
        have c5 := CQ.out d
        have hql := quotedAt_len l (d : Int)
        have hqn := quotedAt_next l d
        generalize quotedAt l (d : Int) = q at *
        obtain ⟨s, j, e⟩ := q
        unfold outV at c5
        simp only at c5 hql hqn hps
        have C1 := Lib.hid c1
        have C3 := Lib.hid c3
        have C4 := Lib.hid c4
        have C5 := Lib.hid c5
        have CMs := Lib.hid (CM.out s (by omega))
        by_cases he : e = 0
        · subst he
          have hkj : k < j := by have := (hqn rfl).1; omega
          cases hmy : may s with
          | true =>
            rw [if_pos ⟨rfl, hmy⟩] at hps
            rw [hps]
            rw [hmy] at CMs
            have HF : Hid (∀ e w' w1, e = .returned (.tuple #[.int .i64 (j : Int), .int .i64 0]) → Below w.heap.size w w1 → w' = w1.setCell ⟨g, idx, none⟩ (.string ⟨s.toArray⟩) → PartPost (some (s, j)) k g idx w e w') := Lib.hid fun e w' w1 h1 h2 h3 => by unfold PartPost; simp only; rw [if_neg (by omega)]; exact ⟨h1, w1, h2, h3⟩
            have HI := Lib.hid hidx
            clear c1 c3 c4 c5 h hA hin hb0 f0 hJ0 hln hcap hp hpl hbw CB CQ CM hbd hb1 hb2 hb3 hsize HM hbk hw0 hwl h61 hlt hbl hc hcell hql hqn hps hmy hkj hidx
            generalize cutA (cutA (some ⟨bb, o, none⟩) cap b) (cap - b) word.length = R at *
            generalize cutA (some ⟨bb, o, none⟩) cap b = A2 at *
            generalize n - b - word.length = rn at *
            generalize cap - b - word.length = rc at *
            generalize n - b = n2 at *
            generalize cap - b = c2 at *
            go_enter Tryz.func92, Tryz.ntmps92
            go_wp2_with fail
            refine (C1.out).mono ?_
            rintro e wq ⟨rfl, rfl⟩
            go_wp2
            go_region_with (first
              | (go_at_call 91; refine (CP.out _ (by first | exact Lib.hid ⟨0, rfl⟩ | exact Lib.hid ⟨1, rfl⟩ | exact Lib.hid ⟨2, rfl⟩ | exact Lib.hid ⟨3, rfl⟩)).mono ?_; rintro e w1 ⟨rfl, HJ1⟩))
            all_goals
              clear hcv z0 z1 z2
              go_wp2_with fail
              refine (C3.out _ HJ1.out).mono ?_
              rintro e wq ⟨rfl, rfl⟩
              have y0 := HCell.out _ HJ1.out
              go_wp2_with fail
              refine (C4.out _ HJ1.out).mono ?_
              rintro e wq ⟨rfl, rfl⟩
              clear y0
              go_wp2_with fail
              refine (C5.out _ HJ1.out).mono ?_
              rintro e w2 ⟨rfl, HJ2⟩
              have y1 := HJ2.out.2.2.2.1
              go_wp2_with fail
              refine (CMs.out _ HJ2.out).mono ?_
              rintro e w3 ⟨rfl, HJ3⟩
              clear y1
              have y2 := HJ3.out.2.2.2.2
              have y3 := cell_of idx (HG.out _ HJ3.out)
              have y4 := free_of idx (HG.out _ HJ3.out)
              rw [Array.getElem?_eq_getElem HI.out] at y3
              go_wp2
              go_ret2
              exact HF.out _ _ _ rfl HJ3.out.1 rfl
          | false =>
            rw [if_neg (by rintro ⟨_, h2⟩; rw [hmy] at h2; cases h2)] at hps
            rw [hps]
            rw [hmy] at CMs
            have HF : Hid (∀ e w', e = .returned (.tuple #[.int .i64 0, .int .i64 7]) → Below w.heap.size w w' → PartPost none k g idx w e w') := Lib.hid fun e w' h1 h2 => ⟨h1, h2⟩
            clear c1 c3 c4 c5 h hA hin hb0 f0 hJ0 hln hcap hp hpl hbw CB CQ CM hbd hb1 hb2 hb3 hsize HM hbk hw0 hwl h61 hlt hbl hc hcell hql hqn hps hmy hkj hidx HG
            generalize cutA (cutA (some ⟨bb, o, none⟩) cap b) (cap - b) word.length = R at *
            generalize cutA (some ⟨bb, o, none⟩) cap b = A2 at *
            generalize n - b - word.length = rn at *
            generalize cap - b - word.length = rc at *
            generalize n - b = n2 at *
            generalize cap - b = c2 at *
            go_enter Tryz.func92, Tryz.ntmps92
            go_wp2_with fail
            refine (C1.out).mono ?_
            rintro e wq ⟨rfl, rfl⟩
            go_wp2
            go_region_with (first
              | (go_at_call 91; refine (CP.out _ (by first | exact Lib.hid ⟨0, rfl⟩ | exact Lib.hid ⟨1, rfl⟩ | exact Lib.hid ⟨2, rfl⟩ | exact Lib.hid ⟨3, rfl⟩)).mono ?_; rintro e w1 ⟨rfl, HJ1⟩))
            all_goals
              clear hcv z0 z1 z2
              go_wp2_with fail
              refine (C3.out _ HJ1.out).mono ?_
              rintro e wq ⟨rfl, rfl⟩
              have y0 := HCell.out _ HJ1.out
              go_wp2_with fail
              refine (C4.out _ HJ1.out).mono ?_
              rintro e wq ⟨rfl, rfl⟩
              clear y0
              go_wp2_with fail
              refine (C5.out _ HJ1.out).mono ?_
              rintro e w2 ⟨rfl, HJ2⟩
              have y1 := HJ2.out.2.2.2.1
              go_wp2_with fail
              refine (CMs.out _ HJ2.out).mono ?_
              rintro e w3 ⟨rfl, HJ3⟩
              clear y1
              go_wp2
              go_ret2
              exact HF.out _ _ rfl HJ3.out.1
        · rw [if_neg (by rintro ⟨h2, _⟩; exact he h2)] at hps
          rw [hps]
          have hei : ((e : Int) == 0) = false := by simp; omega
          have HF : Hid (∀ e w', e = .returned (.tuple #[.int .i64 0, .int .i64 7]) → Below w.heap.size w w' → PartPost none k g idx w e w') := Lib.hid fun e w' h1 h2 => ⟨h1, h2⟩
          clear c1 c3 c4 c5 h hA hin hb0 f0 hJ0 hln hcap hp hpl hbw CB CQ CM hbd hb1 hb2 hb3 hsize HM hbk hw0 hwl h61 hlt hbl hc hcell hql hqn hps hidx HG CMs
          generalize cutA (cutA (some ⟨bb, o, none⟩) cap b) (cap - b) word.length = R at *
          generalize cutA (some ⟨bb, o, none⟩) cap b = A2 at *
          generalize n - b - word.length = rn at *
          generalize cap - b - word.length = rc at *
          generalize n - b = n2 at *
          generalize cap - b = c2 at *
          go_enter Tryz.func92, Tryz.ntmps92
          go_wp2_with fail
          refine (C1.out).mono ?_
          rintro e wq ⟨rfl, rfl⟩
          go_wp2
          go_region_with (first
            | (go_at_call 91; refine (CP.out _ (by first | exact Lib.hid ⟨0, rfl⟩ | exact Lib.hid ⟨1, rfl⟩ | exact Lib.hid ⟨2, rfl⟩ | exact Lib.hid ⟨3, rfl⟩)).mono ?_; rintro e w1 ⟨rfl, HJ1⟩))
          all_goals
            clear hcv z0 z1 z2
            go_wp2_with fail
            refine (C3.out _ HJ1.out).mono ?_
            rintro e wq ⟨rfl, rfl⟩
            have y0 := HCell.out _ HJ1.out
            go_wp2_with fail
            refine (C4.out _ HJ1.out).mono ?_
            rintro e wq ⟨rfl, rfl⟩
            clear y0
            go_wp2_with fail
            refine (C5.out _ HJ1.out).mono ?_
            rintro e w2 ⟨rfl, HJ2⟩
            go_wp2
            go_ret2
            exact HF.out _ _ rfl HJ2.out.1
      · rw [if_neg h61] at hps
        rw [hps]
        have HF : Hid (∀ e w', e = .returned (.tuple #[.int .i64 0, .int .i64 7]) → Below w.heap.size w w' → PartPost none k g idx w e w') := Lib.hid fun e w' h1 h2 => ⟨h1, h2⟩
        have C1 := Lib.hid c1
        have C3 := Lib.hid c3
        by_cases hin' : i < n
        · obtain ⟨bb, o, c, rfl, hbl, hc, hcell⟩ := hin.cell hin'
          have hie : ((i : Int) == (n : Int)) = false := by simp; omega
          have HCell : Hid (∀ W, PkJ word fid ⟨g, idx, none⟩ must w W → W.cell? ⟨bb, o + i, none⟩ = some (.int .u8 (c.toNat : Int))) := Lib.hid fun W hJ => by
            have := (hJ.1.cell (p := ⟨bb, o + i, none⟩) (by exact hbl)).trans ((hb0.cell (p := ⟨bb, o + i, none⟩) (by exact hbl)).symm.trans hcell)
            exact this
          have hce : ((c.toNat : Int) == 61) = false := by
            have : c ≠ 61 := fun e => h61 (by rw [hc, e])
            have h2 : c.toNat ≠ 61 := fun e => this (UInt8.toNat_inj.1 e)
            simp; omega
          clear c1 c3 h hA hin hb0 f0 hJ0 hln hcap hp hpl hbw CB CQ CM hbd hb1 hb2 hsize HM hbk hw0 hwl h61 hbl hc hcell hps hidx HG
          generalize cutA (cutA (some ⟨bb, o, none⟩) cap b) (cap - b) word.length = R at *
          generalize cutA (some ⟨bb, o, none⟩) cap b = A2 at *
          generalize n - b - word.length = rn at *
          generalize cap - b - word.length = rc at *
          generalize n - b = n2 at *
          generalize cap - b = c2 at *
          generalize (c.toNat : Int) = cn at *
          go_enter Tryz.func92, Tryz.ntmps92
          go_wp2_with fail
          refine (C1.out).mono ?_
          rintro e wq ⟨rfl, rfl⟩
          go_wp2
          go_region_with (first
            | (go_at_call 91; refine (CP.out _ (by first | exact Lib.hid ⟨0, rfl⟩ | exact Lib.hid ⟨1, rfl⟩ | exact Lib.hid ⟨2, rfl⟩ | exact Lib.hid ⟨3, rfl⟩)).mono ?_; rintro e w1 ⟨rfl, HJ1⟩))
          all_goals
            clear hcv z0 z1 z2
            go_wp2_with fail
            refine (C3.out _ HJ1.out).mono ?_
            rintro e wq ⟨rfl, rfl⟩
            have y0 := HCell.out _ HJ1.out
            go_wp2
            go_ret2
            exact HF.out _ _ rfl HJ1.out.1
        · have hie : ((i : Int) == (n : Int)) = true := by simp; omega
          clear c1 c3 h hA hin hb0 f0 hJ0 hln hcap hp hpl hbw CB CQ CM hbd hb1 hb2 hsize HM hbk hw0 hwl h61 hin' hps hidx HG
          generalize cutA (cutA A cap b) (cap - b) word.length = R at *
          generalize cutA A cap b = A2 at *
          generalize n - b - word.length = rn at *
          generalize cap - b - word.length = rc at *
          generalize n - b = n2 at *
          generalize cap - b = c2 at *
          go_enter Tryz.func92, Tryz.ntmps92
          go_wp2_with fail
          refine (C1.out).mono ?_
          rintro e wq ⟨rfl, rfl⟩
          go_wp2
          go_region_with (first
            | (go_at_call 91; refine (CP.out _ (by first | exact Lib.hid ⟨0, rfl⟩ | exact Lib.hid ⟨1, rfl⟩ | exact Lib.hid ⟨2, rfl⟩ | exact Lib.hid ⟨3, rfl⟩)).mono ?_; rintro e w1 ⟨rfl, HJ1⟩))
          all_goals
            clear hcv z0 z1 z2
            go_wp2_with fail
            refine (C3.out _ HJ1.out).mono ?_
            rintro e wq ⟨rfl, rfl⟩
            go_wp2
            go_ret2
            exact HF.out _ _ rfl HJ1.out.1
  · have hp' := bfalse hp
    rw [part_none2 (by rw [hbd]; exact hp')]
    have CP : Hid (∀ W : World, Hid (∃ m, W = (w.alloc (.cells #[.string ⟨word.toArray⟩, .func (.func fid) #[] #[], .pointer (some ⟨g, idx, none⟩), .bool must] 122)).drewN m) → Calls Tryz.prog 91 #[.slice (cutA A cap b) (n - b) (cap - b), .slice (some ⟨w.heap.size + 1, 0, none⟩) word.length (grownCap W word.length 0 5)] (Lib.bytesWorld W 5 ⟨word.toArray⟩) fun e w' => e = .returned (.tuple #[.slice (cutA A cap b) (n - b) (cap - b), .bool false]) ∧ Hid (PkJ word fid ⟨g, idx, none⟩ must w w')) := Lib.hid fun W HW => by
      obtain ⟨m, rfl⟩ := HW.out
      have hJ1 := (hJ0.drewN m).kept (Lib.bytesWorld_below _ 5 ⟨word.toArray⟩)
      have hn := byt_new ((w.alloc (.cells #[.string ⟨word.toArray⟩, .func (.func fid) #[] #[], .pointer (some ⟨g, idx, none⟩), .bool must] 122)).drewN m) word (by omega)
      rw [show ((w.alloc (.cells #[.string ⟨word.toArray⟩, .func (.func fid) #[] #[], .pointer (some ⟨g, idx, none⟩), .bool must] 122)).drewN m).heap.size = w.heap.size + 1 from hsize] at hn
      exact (cutPrefix_no _ _ _ _ _ _ _ _ _ _ _ ((hA _ hJ1).drop hbn) hn hp').mono fun e w' ⟨he, hw⟩ => ⟨he, Lib.hid (hw ▸ hJ1)⟩
    have HF : Hid (∀ e w', e = .returned (.tuple #[.int .i64 (k : Int), .int .i64 0]) → Below w.heap.size w w' → PartPost (some (([] : List UInt8), k)) k g idx w e w') := Lib.hid fun e w' h1 h2 => PartPost.mkSame h1 h2
    have C1 := Lib.hid c1
    clear c1 h hA hin hb0 f0 hJ0 hln hcap hp hp' CB CQ CM HG hbd hb1 hsize hidx HM hw0 hwl
    generalize cutA A cap b = A2 at *
    generalize n - b = n2 at *
    generalize cap - b = c2 at *
    cases hbe : ((b : Int) == (k : Int))
    all_goals
      go_enter Tryz.func92, Tryz.ntmps92
      go_wp2_with fail
      refine (C1.out).mono ?_
      rintro e wq ⟨rfl, rfl⟩
      go_wp2
      go_region_with (first
        | (go_at_call 91; refine (CP.out _ (by first | exact Lib.hid ⟨0, rfl⟩ | exact Lib.hid ⟨1, rfl⟩ | exact Lib.hid ⟨2, rfl⟩ | exact Lib.hid ⟨3, rfl⟩)).mono ?_; rintro e w1 ⟨rfl, HJ1⟩))
      all_goals
        clear hcv z0
        go_wp2
        go_ret2
        exact HF.out _ _ rfl HJ1.out.1
end Go.Proofs.YtgenpgfhjhcahaaGreatDoor
