/- The reading of a part, and of all parts. -/
import Derived.Test.YtcpljjajobfkkaaDoorRows
import Derived.WalkKit
import Derived.ProofKit
import Derived.OpenShut
import Derived.ShutString
import Derived.ChangeOld
import Derived.Below
import Derived.BigQuiet
import Derived.Deep.QuietTactic
import Derived.Lib.Hide
import Derived.Deep.RegionHeld3
import Derived.Lib.SlBytesConst
import Derived.Laws.CopyOwn
import Derived.Laws.CopyRow
import Derived.Lib.Bytes
import Derived.Deep.LoopGhost
import Derived.Deep.DeepFit
import Derived.Deep.DeepMust
import Derived.WalkSpells
import Derived.WalkLawsBesides
import Derived.Laws.EntriesVeiled
import Derived.Laws.Rows
import Derived.Deep.RegionWith
import Derived.LoopN
import Derived.Test.YtcpljjajobfkkaaDoorBase
import Derived.Test.YtcpljjajobfkkaaDoorShelf
import Derived.Test.YtcpljjajobfkkaaDoorCharPlain
import Derived.Test.YtcpljjajobfkkaaDoorBuild
import Derived.Test.YtcpljjajobfkkaaDoorStr
import Derived.Test.YtcpljjajobfkkaaDoorLitP
import Derived.Test.YtcpljjajobfkkaaDoorLit1
import Derived.Test.YtcpljjajobfkkaaDoorPub
import Derived.Test.YtcpljjajobfkkaaDoorBlank
import Derived.Test.YtcpljjajobfkkaaDoorLibB
import Derived.Test.YtcpljjajobfkkaaDoorMiscP
import Derived.Test.YtcpljjajobfkkaaDoorMisc1
import Derived.Test.YtcpljjajobfkkaaDoorBits
import Derived.Test.YtcpljjajobfkkaaDoorX1
import Derived.Test.YtcpljjajobfkkaaDoorPfx
namespace Go.Proofs.YtcpljjajobfkkaaDoor
open Go.ChangeShapes Go.WideShapes Go.ChangeAt Go.RowKit
set_option linter.unusedVariables false
/-- What stands while a part is read: below w all as it was, and the part's own block. -/
def PkJ (word : List UInt8) (fid : Nat) (pt : Addr) (must : Bool) (w W : World) : Prop :=
  Below w.heap.size w W ∧ w.heap.size < W.heap.size ∧ W.cell? ⟨w.heap.size, 0, none⟩ = some (.string ⟨word.toArray⟩) ∧ W.cell? ⟨w.heap.size, 1, none⟩ = some (.func (.func fid) #[] #[]) ∧ W.cell? ⟨w.heap.size, 2, none⟩ = some (.pointer (some pt))
theorem PkJ.kept {word : List UInt8} {fid : Nat} {pt : Addr} {must : Bool} {w W W' : World} (h : PkJ word fid pt must w W) (hb : Below W.heap.size W W') : PkJ word fid pt must w W' :=
  ⟨h.1.trans (hb.mono h.1.size), by have := hb.size; have := h.2.1; omega, by rw [hb.cell h.2.1]; exact h.2.2.1, by rw [hb.cell h.2.1]; exact h.2.2.2.1, by rw [hb.cell h.2.1]; exact h.2.2.2.2⟩
theorem PkJ.drewN {word : List UInt8} {fid : Nat} {pt : Addr} {must : Bool} {w W : World} (h : PkJ word fid pt must w W) (n : Nat) : PkJ word fid pt must w (W.drewN n) := h.kept (below_drewN' (Below.refl _ _))
/-- What is left behind a part: it is not there, wrong, or there: then its value is stored. -/
def PartPost (o : Option (List UInt8 × Nat)) (k g idx : Nat) (w : World) (e : Ending) (w' : World) : Prop := match o with
  | none => e = .returned (.tuple #[.int .i64 0, .int .i64 7]) ∧ Below w.heap.size w w'
  | some (s, j) => if j = k then e = .returned (.tuple #[.int .i64 (k : Int), .int .i64 0]) ∧ Below w.heap.size w w' else e = .returned (.tuple #[.int .i64 (j : Int), .int .i64 0]) ∧ ∃ w1, Below w.heap.size w w1 ∧ w' = w1.setCell ⟨g, idx, none⟩ (.string ⟨s.toArray⟩)
theorem PartPost.mkSame {k g idx : Nat} {w : World} {e : Ending} {w' : World} (h1 : e = .returned (.tuple #[.int .i64 (k : Int), .int .i64 0])) (h2 : Below w.heap.size w w') : PartPost (some (([] : List UInt8), k)) k g idx w e w' := by
  show (if k = k then _ else _)
  rw [if_pos rfl]
  exact ⟨h1, h2⟩
set_option maxRecDepth 100000 in
set_option maxHeartbeats 4000000 in
theorem partRead_c (word : List UInt8) (fid : Nat) (may : List UInt8 → Bool) (must : Bool) (g idx : Nat) (vs : Array Value) (T : TypeId) (A : Option Addr) (n cap : Nat) (l : List UInt8) (k : Nat) (w : World) (h : Byt w w.heap.size A n cap l) (hm : n ≤ 40000) (hk : k ≤ n)
    (hw0 : 0 < word.length) (hwl : word.length ≤ 100) (hg : w.heap[g]? = some (.cells vs T)) (hidx : idx < vs.size)
    (ec : ∀ args w, (callFunc fid args).run Tryd.prog w = .ok (.enter fid args) w) (HM : ∀ s : List UInt8, s.length ≤ n → ∀ W, Below w.heap.size w W → Calls Tryd.prog fid #[.string ⟨s.toArray⟩] W fun e w' => e = .returned (.bool (may s)) ∧ Below W.heap.size W w') :
    Calls Tryd.prog 85 #[.agg #[.string ⟨word.toArray⟩, .func (.func fid) #[] #[], .pointer (some ⟨g, idx, none⟩), .bool must], .slice A n cap, .int .i64 k] w fun e w' => PartPost (partOut word may l k) k g idx w e w' := by
  have hgl := lt_of hg
  have f0 := hp_new w (.cells #[.string ⟨word.toArray⟩, .func (.func fid) #[] #[], .pointer (some ⟨g, idx, none⟩), .bool must] 93)
  have z0 : (w.alloc (.cells #[.string ⟨word.toArray⟩, .func (.func fid) #[] #[], .pointer (some ⟨g, idx, none⟩), .bool must] 93)).cell? ⟨w.heap.size, 0, none⟩ = some (.string ⟨word.toArray⟩) := cell_of 0 f0
  have z1 : (w.alloc (.cells #[.string ⟨word.toArray⟩, .func (.func fid) #[] #[], .pointer (some ⟨g, idx, none⟩), .bool must] 93)).cell? ⟨w.heap.size, 1, none⟩ = some (.func (.func fid) #[] #[]) := cell_of 1 f0
  have z2 : (w.alloc (.cells #[.string ⟨word.toArray⟩, .func (.func fid) #[] #[], .pointer (some ⟨g, idx, none⟩), .bool must] 93)).cell? ⟨w.heap.size, 2, none⟩ = some (.pointer (some ⟨g, idx, none⟩)) := cell_of 2 f0
  have hb0 : Below w.heap.size w (w.alloc (.cells #[.string ⟨word.toArray⟩, .func (.func fid) #[] #[], .pointer (some ⟨g, idx, none⟩), .bool must] 93)) := Below.alloc (Below.refl _ _) (Nat.le_refl _) _
  have hsize : (w.alloc (.cells #[.string ⟨word.toArray⟩, .func (.func fid) #[] #[], .pointer (some ⟨g, idx, none⟩), .bool must] 93)).heap.size = w.heap.size + 1 := by simp
  have hJ0 : PkJ word fid ⟨g, idx, none⟩ must w (w.alloc (.cells #[.string ⟨word.toArray⟩, .func (.func fid) #[] #[], .pointer (some ⟨g, idx, none⟩), .bool must] 93)) := ⟨hb0, by simp, z0, z1, z2⟩
  have hln := h.length
  have hcap := h.le
  have hcv : ∀ W : World, (convert 9 22 (.string ⟨word.toArray⟩)).run Tryd.prog W = .ok (.slice (some ⟨W.heap.size, 0, none⟩) word.length (grownCap W word.length 0 5)) (Lib.bytesWorld W 5 ⟨word.toArray⟩) := fun W => run_toBytes W word
  have hA : ∀ W, PkJ word fid ⟨g, idx, none⟩ must w W → Byt W w.heap.size A n cap l := fun W hJ => h.below hJ.1
  have CB : Hid (∀ t, t ≤ n → ∀ W, PkJ word fid ⟨g, idx, none⟩ must w W → Calls Tryd.prog 31 #[.slice A n cap, .int .i64 (t : Int)] W fun e w' => e = .returned (.int .i64 (blankTo l t)) ∧ W = w') := Lib.hid fun t ht W hJ => blanks_c A n cap l t _ W (hA W hJ) (by omega) ht
  have CQ : Hid (∀ t : Nat, ∀ W, PkJ word fid ⟨g, idx, none⟩ must w W → Calls Tryd.prog 100 #[.slice A n cap, .int .i64 (t : Int)] W fun e w' => e = .returned (outV (quotedAt l (t : Int))) ∧ Hid (PkJ word fid ⟨g, idx, none⟩ must w w')) := Lib.hid fun t W hJ => (quoted_c A n cap l t W _ (hA W hJ) (by omega)).mono fun e w' ⟨he, m, hw⟩ => ⟨he, Lib.hid (hw ▸ hJ.drewN m)⟩
  have CM : Hid (∀ s : List UInt8, s.length ≤ n → ∀ W, PkJ word fid ⟨g, idx, none⟩ must w W → Calls Tryd.prog fid #[.string ⟨s.toArray⟩] W fun e w' => e = .returned (.bool (may s)) ∧ Hid (PkJ word fid ⟨g, idx, none⟩ must w w')) := Lib.hid fun s hs W hJ => (HM s hs W hJ.1).mono fun e w' ⟨he, hb⟩ => ⟨he, Lib.hid (hJ.kept hb)⟩
  have HG : Hid (∀ W, PkJ word fid ⟨g, idx, none⟩ must w W → W.heap[g]? = some (.cells vs T)) := Lib.hid fun W hJ => (hJ.1.block g hgl).trans hg
  have hk0 : (0 : Int) ≤ (k : Int) := by omega
  have hk1 : (k : Int) ≤ 40000 := by omega
  have hb1 := blankTo_le l k (by omega)
  have c1 := CB.out k hk _ hJ0
  have hin := h.below hb0
  clear hg hgl
  generalize hbd : blankTo l k = b at *
  have hbn : b ≤ n := by omega
  have hrf : ∀ W : World, (Instr.slice 22 (.slice A n cap) (some (.int .i64 (b : Int))) none none).run Tryd.prog W = .ok (.slice (cutA A cap b) (n - b) (cap - b)) W := fun W => run_from A n cap b hbn
  have hbb0 : (0 : Int) ≤ (b : Int) := by omega
  have hbb1 : (b : Int) ≤ 40000 := by omega
  by_cases hp : word.isPrefixOf (l.drop b) = true
  · have hpl := pre_len hp
    have hbw : b + word.length ≤ n := by
      rcases hpl with e | e
      · rw [e] at hw0; cases hw0
      · omega
    have CP : Hid (∀ W : World, Hid (∃ m, W = (w.alloc (.cells #[.string ⟨word.toArray⟩, .func (.func fid) #[] #[], .pointer (some ⟨g, idx, none⟩), .bool must] 93)).drewN m) → Calls Tryd.prog 51 #[.slice (cutA A cap b) (n - b) (cap - b), .slice (some ⟨w.heap.size + 1, 0, none⟩) word.length (grownCap W word.length 0 5)] (Lib.bytesWorld W 5 ⟨word.toArray⟩) fun e w' => e = .returned (.tuple #[.slice (cutA (cutA A cap b) (cap - b) word.length) (n - b - word.length) (cap - b - word.length), .bool true]) ∧ Hid (PkJ word fid ⟨g, idx, none⟩ must w w')) := Lib.hid fun W HW => by
      obtain ⟨m, rfl⟩ := HW.out
      have hJ1 := (hJ0.drewN m).kept (Lib.bytesWorld_below _ 5 ⟨word.toArray⟩)
      have hn := byt_new ((w.alloc (.cells #[.string ⟨word.toArray⟩, .func (.func fid) #[] #[], .pointer (some ⟨g, idx, none⟩), .bool must] 93)).drewN m) word (by omega)
      rw [show ((w.alloc (.cells #[.string ⟨word.toArray⟩, .func (.func fid) #[] #[], .pointer (some ⟨g, idx, none⟩), .bool must] 93)).drewN m).heap.size = w.heap.size + 1 from hsize] at hn
      exact (cutPrefix_yes _ _ _ _ _ _ _ _ _ _ _ ((hA _ hJ1).drop hbn) hn hw0 hp).mono fun e w' ⟨he, hw⟩ => ⟨he, Lib.hid (hw ▸ hJ1)⟩
    by_cases hbk : b = k
    · rw [part_none1 (by rw [hbd, hbk])]
      have hbe : ((b : Int) == (k : Int)) = true := by simp; omega
      have HF : Hid (∀ e w', e = .returned (.tuple #[.int .i64 (k : Int), .int .i64 0]) → Below w.heap.size w w' → PartPost (some (([] : List UInt8), k)) k g idx w e w') := Lib.hid fun e w' h1 h2 => PartPost.mkSame h1 h2
      have C1 := Lib.hid c1
      clear c1 h hA hin hb0 f0 hJ0 hln hcap hp hpl hbw CB CQ CM HG hbd hb1 hsize hidx HM hbk hw0 hwl
      generalize cutA (cutA A cap b) (cap - b) word.length = R at *
      generalize cutA A cap b = A2 at *
      generalize n - b - word.length = rn at *
      generalize cap - b - word.length = rc at *
      generalize n - b = n2 at *
      generalize cap - b = c2 at *
      go_enter Tryd.func85, Tryd.ntmps85
      go_wp2_with fail
      refine (C1.out).mono ?_
      rintro e wq ⟨rfl, rfl⟩
      go_wp2
      go_region_with (first
        | (go_at_call 51; refine (CP.out _ (by first | exact Lib.hid ⟨0, rfl⟩ | exact Lib.hid ⟨1, rfl⟩ | exact Lib.hid ⟨2, rfl⟩ | exact Lib.hid ⟨3, rfl⟩)).mono ?_; rintro e w1 ⟨rfl, HJ1⟩))
      all_goals
        clear hcv z0
        go_wp2
        go_ret2
        exact HF.out _ _ rfl HJ1.out.1
    · have hbe : ((b : Int) == (k : Int)) = false := by simp; omega
      have c3 := CB.out (b + word.length) hbw
      have hb2 := blankTo_le l (b + word.length) (by omega)
      have hps := part_some (may := may) (i := blankTo l (b + word.length)) (by rw [hbd]; exact hbk) (by rw [hbd]; exact hp) (by rw [hbd])
      generalize blankTo l (b + word.length) = i at *
      have hi0 : (0 : Int) ≤ (i : Int) := by omega
      have hi1 : (i : Int) ≤ 40000 := by omega
      rw [show ((b + word.length : Nat) : Int) = (n : Int) - ((n - b - word.length : Nat) : Int) by omega] at c3
      have hr0 : (0 : Int) ≤ (n : Int) - ((n - b - word.length : Nat) : Int) := by omega
      have hr1 : (n : Int) - ((n - b - word.length : Nat) : Int) ≤ 40000 := by omega
      by_cases h61 : l[i]? = some 61
      · rw [if_pos h61] at hps
        have hlt := (List.getElem?_eq_some_iff.1 h61).1
        have hin' : i < n := by omega
        obtain ⟨bb, o, c, rfl, hbl, hc, hcell⟩ := hin.cell hin'
        rw [h61] at hc
        obtain rfl : 61 = c := Option.some.inj hc
        have hie : ((i : Int) == (n : Int)) = false := by simp; omega
        have HCell : Hid (∀ W, PkJ word fid ⟨g, idx, none⟩ must w W → W.cell? ⟨bb, o + i, none⟩ = some (.int .u8 61)) := Lib.hid fun W hJ => by
          have := (hJ.1.cell (p := ⟨bb, o + i, none⟩) (by exact hbl)).trans ((hb0.cell (p := ⟨bb, o + i, none⟩) (by exact hbl)).symm.trans hcell)
          exact this
        have c4 := CB.out (i + 1) (by omega)
        have hb3 := blankTo_le l (i + 1) (by omega)
        rw [show ((i + 1 : Nat) : Int) = (i : Int) + 1 by omega] at c4
        generalize blankTo l (i + 1) = d at *
        have c5 := CQ.out d
        have hql := quotedAt_len l (d : Int)
        have hqn := quotedAt_next l d
        generalize quotedAt l (d : Int) = q at *
        obtain ⟨s, j, e⟩ := q
        unfold outV at c5
        simp only at c5 hql hqn hps
        have C1 := Lib.hid c1
        have C3 := Lib.hid c3
        have C4 := Lib.hid c4
        have C5 := Lib.hid c5
        have CMs := Lib.hid (CM.out s (by omega))
        by_cases he : e = 0
        · subst he
          have hkj : k < j := by have := (hqn rfl).1; omega
          cases hmy : may s with
          | true =>
            rw [if_pos ⟨rfl, hmy⟩] at hps
            rw [hps]
            rw [hmy] at CMs
            have HF : Hid (∀ e w' w1, e = .returned (.tuple #[.int .i64 (j : Int), .int .i64 0]) → Below w.heap.size w w1 → w' = w1.setCell ⟨g, idx, none⟩ (.string ⟨s.toArray⟩) → PartPost (some (s, j)) k g idx w e w') := Lib.hid fun e w' w1 h1 h2 h3 => by unfold PartPost; simp only; rw [if_neg (by omega)]; exact ⟨h1, w1, h2, h3⟩
            have HI := Lib.hid hidx
            clear c1 c3 c4 c5 h hA hin hb0 f0 hJ0 hln hcap hp hpl hbw CB CQ CM hbd hb1 hb2 hb3 hsize HM hbk hw0 hwl h61 hlt hbl hc hcell hql hqn hps hmy hkj hidx
            generalize cutA (cutA (some ⟨bb, o, none⟩) cap b) (cap - b) word.length = R at *
            generalize cutA (some ⟨bb, o, none⟩) cap b = A2 at *
            generalize n - b - word.length = rn at *
            generalize cap - b - word.length = rc at *
            generalize n - b = n2 at *
            generalize cap - b = c2 at *
            go_enter Tryd.func85, Tryd.ntmps85
            go_wp2_with fail
            refine (C1.out).mono ?_
            rintro e wq ⟨rfl, rfl⟩
            go_wp2
            go_region_with (first
              | (go_at_call 51; refine (CP.out _ (by first | exact Lib.hid ⟨0, rfl⟩ | exact Lib.hid ⟨1, rfl⟩ | exact Lib.hid ⟨2, rfl⟩ | exact Lib.hid ⟨3, rfl⟩)).mono ?_; rintro e w1 ⟨rfl, HJ1⟩))
            all_goals
              clear hcv z0 z1 z2
              go_wp2_with fail
              refine (C3.out _ HJ1.out).mono ?_
              rintro e wq ⟨rfl, rfl⟩
              have y0 := HCell.out _ HJ1.out
              go_wp2_with fail
              refine (C4.out _ HJ1.out).mono ?_
              rintro e wq ⟨rfl, rfl⟩
              clear y0
              go_wp2_with fail
              refine (C5.out _ HJ1.out).mono ?_
              rintro e w2 ⟨rfl, HJ2⟩
              have y1 := HJ2.out.2.2.2.1
              go_wp2_with fail
              refine (CMs.out _ HJ2.out).mono ?_
              rintro e w3 ⟨rfl, HJ3⟩
              clear y1
              have y2 := HJ3.out.2.2.2.2
              have y3 := cell_of idx (HG.out _ HJ3.out)
              have y4 := free_of idx (HG.out _ HJ3.out)
              rw [Array.getElem?_eq_getElem HI.out] at y3
              go_wp2
              go_ret2
              exact HF.out _ _ _ rfl HJ3.out.1 rfl
          | false =>
            rw [if_neg (by rintro ⟨_, h2⟩; rw [hmy] at h2; cases h2)] at hps
            rw [hps]
            rw [hmy] at CMs
            have HF : Hid (∀ e w', e = .returned (.tuple #[.int .i64 0, .int .i64 7]) → Below w.heap.size w w' → PartPost none k g idx w e w') := Lib.hid fun e w' h1 h2 => ⟨h1, h2⟩
            clear c1 c3 c4 c5 h hA hin hb0 f0 hJ0 hln hcap hp hpl hbw CB CQ CM hbd hb1 hb2 hb3 hsize HM hbk hw0 hwl h61 hlt hbl hc hcell hql hqn hps hmy hkj hidx HG
            generalize cutA (cutA (some ⟨bb, o, none⟩) cap b) (cap - b) word.length = R at *
            generalize cutA (some ⟨bb, o, none⟩) cap b = A2 at *
            generalize n - b - word.length = rn at *
            generalize cap - b - word.length = rc at *
            generalize n - b = n2 at *
            generalize cap - b = c2 at *
            go_enter Tryd.func85, Tryd.ntmps85
            go_wp2_with fail
            refine (C1.out).mono ?_
            rintro e wq ⟨rfl, rfl⟩
            go_wp2
            go_region_with (first
              | (go_at_call 51; refine (CP.out _ (by first | exact Lib.hid ⟨0, rfl⟩ | exact Lib.hid ⟨1, rfl⟩ | exact Lib.hid ⟨2, rfl⟩ | exact Lib.hid ⟨3, rfl⟩)).mono ?_; rintro e w1 ⟨rfl, HJ1⟩))
            all_goals
              clear hcv z0 z1 z2
              go_wp2_with fail
              refine (C3.out _ HJ1.out).mono ?_
              rintro e wq ⟨rfl, rfl⟩
              have y0 := HCell.out _ HJ1.out
              go_wp2_with fail
              refine (C4.out _ HJ1.out).mono ?_
              rintro e wq ⟨rfl, rfl⟩
              clear y0
              go_wp2_with fail
              refine (C5.out _ HJ1.out).mono ?_
              rintro e w2 ⟨rfl, HJ2⟩
              have y1 := HJ2.out.2.2.2.1
              go_wp2_with fail
              refine (CMs.out _ HJ2.out).mono ?_
              rintro e w3 ⟨rfl, HJ3⟩
              clear y1
              go_wp2
              go_ret2
              exact HF.out _ _ rfl HJ3.out.1
        · rw [if_neg (by rintro ⟨h2, _⟩; exact he h2)] at hps
          rw [hps]
          have hei : ((e : Int) == 0) = false := by simp; omega
          have HF : Hid (∀ e w', e = .returned (.tuple #[.int .i64 0, .int .i64 7]) → Below w.heap.size w w' → PartPost none k g idx w e w') := Lib.hid fun e w' h1 h2 => ⟨h1, h2⟩
          clear c1 c3 c4 c5 h hA hin hb0 f0 hJ0 hln hcap hp hpl hbw CB CQ CM hbd hb1 hb2 hb3 hsize HM hbk hw0 hwl h61 hlt hbl hc hcell hql hqn hps hidx HG CMs
          generalize cutA (cutA (some ⟨bb, o, none⟩) cap b) (cap - b) word.length = R at *
          generalize cutA (some ⟨bb, o, none⟩) cap b = A2 at *
          generalize n - b - word.length = rn at *
          generalize cap - b - word.length = rc at *
          generalize n - b = n2 at *
          generalize cap - b = c2 at *
          go_enter Tryd.func85, Tryd.ntmps85
          go_wp2_with fail
          refine (C1.out).mono ?_
          rintro e wq ⟨rfl, rfl⟩
          go_wp2
          go_region_with (first
            | (go_at_call 51; refine (CP.out _ (by first | exact Lib.hid ⟨0, rfl⟩ | exact Lib.hid ⟨1, rfl⟩ | exact Lib.hid ⟨2, rfl⟩ | exact Lib.hid ⟨3, rfl⟩)).mono ?_; rintro e w1 ⟨rfl, HJ1⟩))
          all_goals
            clear hcv z0 z1 z2
            go_wp2_with fail
            refine (C3.out _ HJ1.out).mono ?_
            rintro e wq ⟨rfl, rfl⟩
            have y0 := HCell.out _ HJ1.out
            go_wp2_with fail
            refine (C4.out _ HJ1.out).mono ?_
            rintro e wq ⟨rfl, rfl⟩
            clear y0
            go_wp2_with fail
            refine (C5.out _ HJ1.out).mono ?_
            rintro e w2 ⟨rfl, HJ2⟩
            go_wp2
            go_ret2
            exact HF.out _ _ rfl HJ2.out.1
      · rw [if_neg h61] at hps
        rw [hps]
        have HF : Hid (∀ e w', e = .returned (.tuple #[.int .i64 0, .int .i64 7]) → Below w.heap.size w w' → PartPost none k g idx w e w') := Lib.hid fun e w' h1 h2 => ⟨h1, h2⟩
        have C1 := Lib.hid c1
        have C3 := Lib.hid c3
        by_cases hin' : i < n
        · obtain ⟨bb, o, c, rfl, hbl, hc, hcell⟩ := hin.cell hin'
          have hie : ((i : Int) == (n : Int)) = false := by simp; omega
          have HCell : Hid (∀ W, PkJ word fid ⟨g, idx, none⟩ must w W → W.cell? ⟨bb, o + i, none⟩ = some (.int .u8 (c.toNat : Int))) := Lib.hid fun W hJ => by
            have := (hJ.1.cell (p := ⟨bb, o + i, none⟩) (by exact hbl)).trans ((hb0.cell (p := ⟨bb, o + i, none⟩) (by exact hbl)).symm.trans hcell)
            exact this
          have hce : ((c.toNat : Int) == 61) = false := by
            have : c ≠ 61 := fun e => h61 (by rw [hc, e])
            have h2 : c.toNat ≠ 61 := fun e => this (UInt8.toNat_inj.1 e)
            simp; omega
          clear c1 c3 h hA hin hb0 f0 hJ0 hln hcap hp hpl hbw CB CQ CM hbd hb1 hb2 hsize HM hbk hw0 hwl h61 hbl hc hcell hps hidx HG
          generalize cutA (cutA (some ⟨bb, o, none⟩) cap b) (cap - b) word.length = R at *
          generalize cutA (some ⟨bb, o, none⟩) cap b = A2 at *
          generalize n - b - word.length = rn at *
          generalize cap - b - word.length = rc at *
          generalize n - b = n2 at *
          generalize cap - b = c2 at *
          generalize (c.toNat : Int) = cn at *
          go_enter Tryd.func85, Tryd.ntmps85
          go_wp2_with fail
          refine (C1.out).mono ?_
          rintro e wq ⟨rfl, rfl⟩
          go_wp2
          go_region_with (first
            | (go_at_call 51; refine (CP.out _ (by first | exact Lib.hid ⟨0, rfl⟩ | exact Lib.hid ⟨1, rfl⟩ | exact Lib.hid ⟨2, rfl⟩ | exact Lib.hid ⟨3, rfl⟩)).mono ?_; rintro e w1 ⟨rfl, HJ1⟩))
          all_goals
            clear hcv z0 z1 z2
            go_wp2_with fail
            refine (C3.out _ HJ1.out).mono ?_
            rintro e wq ⟨rfl, rfl⟩
            have y0 := HCell.out _ HJ1.out
            go_wp2
            go_ret2
            exact HF.out _ _ rfl HJ1.out.1
        · have hie : ((i : Int) == (n : Int)) = true := by simp; omega
          clear c1 c3 h hA hin hb0 f0 hJ0 hln hcap hp hpl hbw CB CQ CM hbd hb1 hb2 hsize HM hbk hw0 hwl h61 hin' hps hidx HG
          generalize cutA (cutA A cap b) (cap - b) word.length = R at *
          generalize cutA A cap b = A2 at *
          generalize n - b - word.length = rn at *
          generalize cap - b - word.length = rc at *
          generalize n - b = n2 at *
          generalize cap - b = c2 at *
          go_enter Tryd.func85, Tryd.ntmps85
          go_wp2_with fail
          refine (C1.out).mono ?_
          rintro e wq ⟨rfl, rfl⟩
          go_wp2
          go_region_with (first
            | (go_at_call 51; refine (CP.out _ (by first | exact Lib.hid ⟨0, rfl⟩ | exact Lib.hid ⟨1, rfl⟩ | exact Lib.hid ⟨2, rfl⟩ | exact Lib.hid ⟨3, rfl⟩)).mono ?_; rintro e w1 ⟨rfl, HJ1⟩))
          all_goals
            clear hcv z0 z1 z2
            go_wp2_with fail
            refine (C3.out _ HJ1.out).mono ?_
            rintro e wq ⟨rfl, rfl⟩
            go_wp2
            go_ret2
            exact HF.out _ _ rfl HJ1.out.1
  · have hp' := bfalse hp
    rw [part_none2 (by rw [hbd]; exact hp')]
    have CP : Hid (∀ W : World, Hid (∃ m, W = (w.alloc (.cells #[.string ⟨word.toArray⟩, .func (.func fid) #[] #[], .pointer (some ⟨g, idx, none⟩), .bool must] 93)).drewN m) → Calls Tryd.prog 51 #[.slice (cutA A cap b) (n - b) (cap - b), .slice (some ⟨w.heap.size + 1, 0, none⟩) word.length (grownCap W word.length 0 5)] (Lib.bytesWorld W 5 ⟨word.toArray⟩) fun e w' => e = .returned (.tuple #[.slice (cutA A cap b) (n - b) (cap - b), .bool false]) ∧ Hid (PkJ word fid ⟨g, idx, none⟩ must w w')) := Lib.hid fun W HW => by
      obtain ⟨m, rfl⟩ := HW.out
      have hJ1 := (hJ0.drewN m).kept (Lib.bytesWorld_below _ 5 ⟨word.toArray⟩)
      have hn := byt_new ((w.alloc (.cells #[.string ⟨word.toArray⟩, .func (.func fid) #[] #[], .pointer (some ⟨g, idx, none⟩), .bool must] 93)).drewN m) word (by omega)
      rw [show ((w.alloc (.cells #[.string ⟨word.toArray⟩, .func (.func fid) #[] #[], .pointer (some ⟨g, idx, none⟩), .bool must] 93)).drewN m).heap.size = w.heap.size + 1 from hsize] at hn
      exact (cutPrefix_no _ _ _ _ _ _ _ _ _ _ _ ((hA _ hJ1).drop hbn) hn hp').mono fun e w' ⟨he, hw⟩ => ⟨he, Lib.hid (hw ▸ hJ1)⟩
    have HF : Hid (∀ e w', e = .returned (.tuple #[.int .i64 (k : Int), .int .i64 0]) → Below w.heap.size w w' → PartPost (some (([] : List UInt8), k)) k g idx w e w') := Lib.hid fun e w' h1 h2 => PartPost.mkSame h1 h2
    have C1 := Lib.hid c1
    clear c1 h hA hin hb0 f0 hJ0 hln hcap hp hp' CB CQ CM HG hbd hb1 hsize hidx HM hw0 hwl
    generalize cutA A cap b = A2 at *
    generalize n - b = n2 at *
    generalize cap - b = c2 at *
    cases hbe : ((b : Int) == (k : Int))
    all_goals
      go_enter Tryd.func85, Tryd.ntmps85
      go_wp2_with fail
      refine (C1.out).mono ?_
      rintro e wq ⟨rfl, rfl⟩
      go_wp2
      go_region_with (first
        | (go_at_call 51; refine (CP.out _ (by first | exact Lib.hid ⟨0, rfl⟩ | exact Lib.hid ⟨1, rfl⟩ | exact Lib.hid ⟨2, rfl⟩ | exact Lib.hid ⟨3, rfl⟩)).mono ?_; rintro e w1 ⟨rfl, HJ1⟩))
      all_goals
        clear hcv z0
        go_wp2
        go_ret2
        exact HF.out _ _ rfl HJ1.out.1
/-- While the parts are read: all below stands but the declaration's block, and it. -/
def RJ (g : Nat) (vs : Array Value) (w W : World) : Prop := Fr w.heap.size g w W ∧ W.heap[g]? = some (.cells vs 53)
theorem RJ.kept {g : Nat} {vs : Array Value} {w W W' : World} (h : RJ g vs w W) (hb : Below W.heap.size W W') : RJ g vs w W' :=
  ⟨h.1.trans (Fr.ofBelow (hb.mono h.1.size)), by rw [hb.block _ (lt_of h.2)]; exact h.2⟩
theorem RJ.set {g : Nat} {vs : Array Value} {w W : World} (h : RJ g vs w W) (i : Nat) (v : Value) : RJ g (vs.setIfInBounds i v) w (W.setCell ⟨g, i, none⟩ v) := ⟨h.1.set i v, hp_set h.2⟩
theorem RJ.cell {g : Nat} {vs : Array Value} {w W : World} (h : RJ g vs w W) {b i : Nat} (hb : b < w.heap.size) (hg : b ≠ g) : W.cell? ⟨b, i, none⟩ = w.cell? ⟨b, i, none⟩ := by
  unfold World.cell?
  rw [h.1.block b hb hg]
theorem RJ.byt {g : Nat} {vs : Array Value} {w W : World} (h : RJ g vs w W) {B n cap : Nat} {A : Option Addr} {l : List UInt8} (hB : Byt w B A n cap l) (hg : B ≤ g) (hw : B ≤ w.heap.size) : Byt W B A n cap l :=
  hB.below (h.1.below hw hg)
theorem partRead_out (o : Option (List UInt8 × Nat)) (word : List UInt8) (fid : Nat) (may : List UInt8 → Bool) (must : Bool) (g idx : Nat) (vs : Array Value) (T : TypeId) (A : Option Addr) (n cap : Nat) (l : List UInt8) (k : Nat) (w : World) (h : Byt w w.heap.size A n cap l) (hm : n ≤ 40000) (hk : k ≤ n)
    (hw0 : 0 < word.length) (hwl : word.length ≤ 100) (hg : w.heap[g]? = some (.cells vs T)) (hidx : idx < vs.size)
    (ec : ∀ args w, (callFunc fid args).run Tryd.prog w = .ok (.enter fid args) w) (HM : ∀ s : List UInt8, s.length ≤ n → ∀ W, Below w.heap.size w W → Calls Tryd.prog fid #[.string ⟨s.toArray⟩] W fun e w' => e = .returned (.bool (may s)) ∧ Below W.heap.size W w') (ho : partOut word may l k = o) :
    Calls Tryd.prog 85 #[.agg #[.string ⟨word.toArray⟩, .func (.func fid) #[] #[], .pointer (some ⟨g, idx, none⟩), .bool must], .slice A n cap, .int .i64 k] w fun e w' => PartPost o k g idx w e w' := by
  subst ho
  exact partRead_c word fid may must g idx vs T A n cap l k w h hm hk hw0 hwl hg hidx ec HM
theorem PartPost.same {s : List UInt8} {k g idx : Nat} {w : World} {e : Ending} {w' : World} (h : PartPost (some (s, k)) k g idx w e w') : e = .returned (.tuple #[.int .i64 (k : Int), .int .i64 0]) ∧ Below w.heap.size w w' := by
  unfold PartPost at h
  simpa using h
theorem PartPost.found {s : List UInt8} {k j g idx : Nat} {w : World} {e : Ending} {w' : World} (h : PartPost (some (s, j)) k g idx w e w') (hj : k < j) : e = .returned (.tuple #[.int .i64 (j : Int), .int .i64 0]) ∧ ∃ w1, Below w.heap.size w w1 ∧ w' = w1.setCell ⟨g, idx, none⟩ (.string ⟨s.toArray⟩) := by
  unfold PartPost at h
  simp only at h
  rwa [if_neg (by omega)] at h
set_option maxRecDepth 100000 in
set_option maxHeartbeats 8000000 in
theorem xdRead_f_none (g P B : Nat) (A : Option Addr) (n cap : Nat) (l : List UInt8) (k : Nat) (w : World) (h : Byt w B A n cap l) (hm : n ≤ 40000) (hk : k + 5 ≤ n) (hBg : B ≤ g) (hT : FoldT w) (hTB : 0 < B) (hg : w.heap[g]? = some (.cells #[.bool false, .string ⟨#[]⟩, .string ⟨#[]⟩, .string ⟨#[]⟩] 53)) (hgP : g < P)
    (hP : w.heap[P]? = some (.cells #[.string ⟨#[118, 101, 114, 115, 105, 111, 110]⟩, .func (.func 47) #[] #[], .pointer (some ⟨g, 1, none⟩), .bool true, .string ⟨#[101, 110, 99, 111, 100, 105, 110, 103]⟩, .func (.func 48) #[] #[], .pointer (some ⟨g, 2, none⟩), .bool false, .string ⟨#[115, 116, 97, 110, 100, 97, 108, 111, 110, 101]⟩, .func (.func 49) #[] #[], .pointer (some ⟨g, 3, none⟩), .bool false] 93)) (ho0 : partOut verW verB l (k + 5) = none) :
    Calls Tryd.prog 65 #[.slice A n cap, .int .i64 k, .pointer (some ⟨g, 0, none⟩), .slice (some ⟨P, 0, none⟩) 3 3] w fun e w' => e = .returned (.tuple #[.int .i64 0, .int .i64 7]) ∧ RJ g #[.bool false, .string ⟨#[]⟩, .string ⟨#[]⟩, .string ⟨#[]⟩] w w' := by
  have hln := h.length
  have hgl := lt_of hg
  have hPl := lt_of hP
  have HJ : Hid (RJ g #[.bool false, .string ⟨#[]⟩, .string ⟨#[]⟩, .string ⟨#[]⟩] w w) := Lib.hid ⟨Fr.refl _ _ _, hg⟩
  have HX : Hid (∀ vs W, RJ g vs w W → W.cell? ⟨P, 0, none⟩ = some (.string ⟨#[118, 101, 114, 115, 105, 111, 110]⟩) ∧ W.cell? ⟨P, 1, none⟩ = some (.func (.func 47) #[] #[]) ∧ W.cell? ⟨P, 2, none⟩ = some (.pointer (some ⟨g, 1, none⟩)) ∧ W.cell? ⟨P, 3, none⟩ = some (.bool true) ∧ W.cell? ⟨P, 4, none⟩ = some (.string ⟨#[101, 110, 99, 111, 100, 105, 110, 103]⟩) ∧ W.cell? ⟨P, 5, none⟩ = some (.func (.func 48) #[] #[]) ∧ W.cell? ⟨P, 6, none⟩ = some (.pointer (some ⟨g, 2, none⟩)) ∧ W.cell? ⟨P, 7, none⟩ = some (.bool false) ∧ W.cell? ⟨P, 8, none⟩ = some (.string ⟨#[115, 116, 97, 110, 100, 97, 108, 111, 110, 101]⟩) ∧ W.cell? ⟨P, 9, none⟩ = some (.func (.func 49) #[] #[]) ∧ W.cell? ⟨P, 10, none⟩ = some (.pointer (some ⟨g, 3, none⟩)) ∧ W.cell? ⟨P, 11, none⟩ = some (.bool false)) := Lib.hid fun vs W hJ => by
    have hne : P ≠ g := by omega
    refine ⟨?_, ?_, ?_, ?_, ?_, ?_, ?_, ?_, ?_, ?_, ?_, ?_⟩ <;> (rw [hJ.cell hPl hne, cell_of _ hP]; rfl)
  have HB : Hid (∀ vs W, RJ g vs w W → Byt W B A n cap l ∧ B ≤ W.heap.size ∧ FoldT W) := Lib.hid fun vs W hJ => ⟨hJ.byt h hBg (by omega), by have := hJ.1.size; omega, hT.below (hJ.1.below (B := B) (by omega) hBg) hTB⟩
  have P0 : Hid (∀ W, RJ g #[.bool false, .string ⟨#[]⟩, .string ⟨#[]⟩, .string ⟨#[]⟩] w W → Calls Tryd.prog 85 #[.agg #[.string ⟨#[118, 101, 114, 115, 105, 111, 110]⟩, .func (.func 47) #[] #[], .pointer (some ⟨g, 1, none⟩), .bool true], .slice A n cap, .int .i64 ((k + 5) : Nat)] W fun e w' => e = .returned (.tuple #[.int .i64 0, .int .i64 7]) ∧ Below W.heap.size W w') := Lib.hid fun W hJ => by
    obtain ⟨hb1, hb2, hb3⟩ := HB.out _ W hJ
    exact (partRead_out (none) verW 47 verB true g 1 #[.bool false, .string ⟨#[]⟩, .string ⟨#[]⟩, .string ⟨#[]⟩] 53 A n cap l (k + 5) W (hb1.more hb2) hm (by omega) (by decide) (by decide) hJ.2 (by show (1 : Nat) < 4; decide) (enters_of Tryd.func47 (by kernel_rfl) rfl) (fun s hs W' hb => version_c s W' (by omega)) ho0).mono fun e w' hp => hp
  rw [show ((k + 5 : Nat) : Int) = (k : Int) + 5 by omega] at P0
  have hk0 : (0 : Int) ≤ (k : Int) := by omega
  have hk1 : (k : Int) ≤ 40000 := by omega
  clear h hT hTB hg hP hln hBg HB hk hm hPl hgP ho0 
  go_enter Tryd.func65, Tryd.ntmps65
  go_wp2_with fail
  go_step3
  go_wp2_with fail
  go_step3
  go_wp2_with fail
  refine wp_loop_rounds 4 ?_
  rw [rounds_succ]
  obtain ⟨x0, x1, x2, x3, x4, x5, x6, x7, x8, x9, x10, x11⟩ := HX.out _ _ HJ.out
  clear x4 x5 x6 x7 x8 x9 x10 x11
  have hn0 := hp_new w (.cells #[.string ⟨#[118, 101, 114, 115, 105, 111, 110]⟩, .func (.func 47) #[] #[], .pointer (some ⟨g, 1, none⟩), .bool true] 93)
  have JA0 := Lib.hid (HJ.out.kept ((Below.refl _ w).alloc (Nat.le_refl _) (.cells #[.string ⟨#[118, 101, 114, 115, 105, 111, 110]⟩, .func (.func 47) #[] #[], .pointer (some ⟨g, 1, none⟩), .bool true] 93)))
  go_wp2_with fail
  clear x0 x1 x2 x3
  refine (P0.out _ JA0.out).mono ?_
  rintro e u1 ⟨rfl, hb1⟩
  have J0 := Lib.hid (JA0.out.kept hb1)
  clear hb1 hn0 JA0
  go_wp2
  (try rw [Exit.noGoto_ret])
  go_ret2
  exact ⟨rfl, J0.out⟩
set_option maxRecDepth 100000 in
set_option maxHeartbeats 8000000 in
theorem xdRead_f_found_none (g P B : Nat) (A : Option Addr) (n cap : Nat) (l : List UInt8) (k : Nat) (w : World) (h : Byt w B A n cap l) (hm : n ≤ 40000) (hk : k + 5 ≤ n) (hBg : B ≤ g) (hT : FoldT w) (hTB : 0 < B) (hg : w.heap[g]? = some (.cells #[.bool false, .string ⟨#[]⟩, .string ⟨#[]⟩, .string ⟨#[]⟩] 53)) (hgP : g < P)
    (hP : w.heap[P]? = some (.cells #[.string ⟨#[118, 101, 114, 115, 105, 111, 110]⟩, .func (.func 47) #[] #[], .pointer (some ⟨g, 1, none⟩), .bool true, .string ⟨#[101, 110, 99, 111, 100, 105, 110, 103]⟩, .func (.func 48) #[] #[], .pointer (some ⟨g, 2, none⟩), .bool false, .string ⟨#[115, 116, 97, 110, 100, 97, 108, 111, 110, 101]⟩, .func (.func 49) #[] #[], .pointer (some ⟨g, 3, none⟩), .bool false] 93)) (s0 : List UInt8) (j0 : Nat) (ho0 : partOut verW verB l (k + 5) = some (s0, j0)) (hlt0 : (k + 5) < j0) (hle0 : j0 ≤ n) (ho1 : partOut encW encB l j0 = none) :
    Calls Tryd.prog 65 #[.slice A n cap, .int .i64 k, .pointer (some ⟨g, 0, none⟩), .slice (some ⟨P, 0, none⟩) 3 3] w fun e w' => e = .returned (.tuple #[.int .i64 0, .int .i64 7]) ∧ RJ g #[.bool false, .string ⟨s0.toArray⟩, .string ⟨#[]⟩, .string ⟨#[]⟩] w w' := by
  have hln := h.length
  have hgl := lt_of hg
  have hPl := lt_of hP
  have HJ : Hid (RJ g #[.bool false, .string ⟨#[]⟩, .string ⟨#[]⟩, .string ⟨#[]⟩] w w) := Lib.hid ⟨Fr.refl _ _ _, hg⟩
  have HX : Hid (∀ vs W, RJ g vs w W → W.cell? ⟨P, 0, none⟩ = some (.string ⟨#[118, 101, 114, 115, 105, 111, 110]⟩) ∧ W.cell? ⟨P, 1, none⟩ = some (.func (.func 47) #[] #[]) ∧ W.cell? ⟨P, 2, none⟩ = some (.pointer (some ⟨g, 1, none⟩)) ∧ W.cell? ⟨P, 3, none⟩ = some (.bool true) ∧ W.cell? ⟨P, 4, none⟩ = some (.string ⟨#[101, 110, 99, 111, 100, 105, 110, 103]⟩) ∧ W.cell? ⟨P, 5, none⟩ = some (.func (.func 48) #[] #[]) ∧ W.cell? ⟨P, 6, none⟩ = some (.pointer (some ⟨g, 2, none⟩)) ∧ W.cell? ⟨P, 7, none⟩ = some (.bool false) ∧ W.cell? ⟨P, 8, none⟩ = some (.string ⟨#[115, 116, 97, 110, 100, 97, 108, 111, 110, 101]⟩) ∧ W.cell? ⟨P, 9, none⟩ = some (.func (.func 49) #[] #[]) ∧ W.cell? ⟨P, 10, none⟩ = some (.pointer (some ⟨g, 3, none⟩)) ∧ W.cell? ⟨P, 11, none⟩ = some (.bool false)) := Lib.hid fun vs W hJ => by
    have hne : P ≠ g := by omega
    refine ⟨?_, ?_, ?_, ?_, ?_, ?_, ?_, ?_, ?_, ?_, ?_, ?_⟩ <;> (rw [hJ.cell hPl hne, cell_of _ hP]; rfl)
  have HB : Hid (∀ vs W, RJ g vs w W → Byt W B A n cap l ∧ B ≤ W.heap.size ∧ FoldT W) := Lib.hid fun vs W hJ => ⟨hJ.byt h hBg (by omega), by have := hJ.1.size; omega, hT.below (hJ.1.below (B := B) (by omega) hBg) hTB⟩
  have P0 : Hid (∀ W, RJ g #[.bool false, .string ⟨#[]⟩, .string ⟨#[]⟩, .string ⟨#[]⟩] w W → Calls Tryd.prog 85 #[.agg #[.string ⟨#[118, 101, 114, 115, 105, 111, 110]⟩, .func (.func 47) #[] #[], .pointer (some ⟨g, 1, none⟩), .bool true], .slice A n cap, .int .i64 ((k + 5) : Nat)] W fun e w' => e = .returned (.tuple #[.int .i64 (j0 : Int), .int .i64 0]) ∧ ∃ w1, Below W.heap.size W w1 ∧ w' = w1.setCell ⟨g, 1, none⟩ (.string ⟨s0.toArray⟩)) := Lib.hid fun W hJ => by
    obtain ⟨hb1, hb2, hb3⟩ := HB.out _ W hJ
    exact (partRead_out (some (s0, j0)) verW 47 verB true g 1 #[.bool false, .string ⟨#[]⟩, .string ⟨#[]⟩, .string ⟨#[]⟩] 53 A n cap l (k + 5) W (hb1.more hb2) hm (by omega) (by decide) (by decide) hJ.2 (by show (1 : Nat) < 4; decide) (enters_of Tryd.func47 (by kernel_rfl) rfl) (fun s hs W' hb => version_c s W' (by omega)) ho0).mono fun e w' hp => hp.found hlt0
  rw [show ((k + 5 : Nat) : Int) = (k : Int) + 5 by omega] at P0
  have P1 : Hid (∀ W, RJ g #[.bool false, .string ⟨s0.toArray⟩, .string ⟨#[]⟩, .string ⟨#[]⟩] w W → Calls Tryd.prog 85 #[.agg #[.string ⟨#[101, 110, 99, 111, 100, 105, 110, 103]⟩, .func (.func 48) #[] #[], .pointer (some ⟨g, 2, none⟩), .bool false], .slice A n cap, .int .i64 (j0 : Nat)] W fun e w' => e = .returned (.tuple #[.int .i64 0, .int .i64 7]) ∧ Below W.heap.size W w') := Lib.hid fun W hJ => by
    obtain ⟨hb1, hb2, hb3⟩ := HB.out _ W hJ
    exact (partRead_out (none) encW 48 encB false g 2 #[.bool false, .string ⟨s0.toArray⟩, .string ⟨#[]⟩, .string ⟨#[]⟩] 53 A n cap l j0 W (hb1.more hb2) hm (by omega) (by decide) (by decide) hJ.2 (by show (2 : Nat) < 4; decide) (enters_of Tryd.func48 (by kernel_rfl) rfl) (fun s hs W' hb => encoding_c s W' (hb3.below hb hb3.lt)) ho1).mono fun e w' hp => hp
  have hk0 : (0 : Int) ≤ (k : Int) := by omega
  have hk1 : (k : Int) ≤ 40000 := by omega
  have e0 : ((j0 : Int) == (k : Int) + 5) = false := by simp; omega
  clear h hT hTB hg hP hln hBg HB hk hm hPl hgP ho0 ho1 hlt0 hle0
  go_enter Tryd.func65, Tryd.ntmps65
  go_wp2_with fail
  go_step3
  go_wp2_with fail
  go_step3
  go_wp2_with fail
  refine wp_loop_rounds 4 ?_
  rw [rounds_succ]
  obtain ⟨x0, x1, x2, x3, x4, x5, x6, x7, x8, x9, x10, x11⟩ := HX.out _ _ HJ.out
  clear x4 x5 x6 x7 x8 x9 x10 x11
  have hn0 := hp_new w (.cells #[.string ⟨#[118, 101, 114, 115, 105, 111, 110]⟩, .func (.func 47) #[] #[], .pointer (some ⟨g, 1, none⟩), .bool true] 93)
  have JA0 := Lib.hid (HJ.out.kept ((Below.refl _ w).alloc (Nat.le_refl _) (.cells #[.string ⟨#[118, 101, 114, 115, 105, 111, 110]⟩, .func (.func 47) #[] #[], .pointer (some ⟨g, 1, none⟩), .bool true] 93)))
  go_wp2_with fail
  clear x0 x1 x2 x3
  refine (P0.out _ JA0.out).mono ?_
  rintro e w1 ⟨rfl, v1, hb1, rfl⟩
  have J0 : Hid (RJ g #[.bool false, .string ⟨s0.toArray⟩, .string ⟨#[]⟩, .string ⟨#[]⟩] w (v1.setCell ⟨g, 1, none⟩ (.string ⟨s0.toArray⟩))) := Lib.hid ((JA0.out.kept hb1).set 1 (.string ⟨s0.toArray⟩))
  clear hb1 hn0 JA0
  generalize v1.setCell ⟨g, 1, none⟩ (.string ⟨s0.toArray⟩) = u1 at *
  go_wp2
  rw [rounds_succ]
  obtain ⟨x0, x1, x2, x3, x4, x5, x6, x7, x8, x9, x10, x11⟩ := HX.out _ _ J0.out
  clear x0 x1 x2 x3 x8 x9 x10 x11
  have hn1 := hp_new u1 (.cells #[.string ⟨#[101, 110, 99, 111, 100, 105, 110, 103]⟩, .func (.func 48) #[] #[], .pointer (some ⟨g, 2, none⟩), .bool false] 93)
  have JA1 := Lib.hid (J0.out.kept ((Below.refl _ u1).alloc (Nat.le_refl _) (.cells #[.string ⟨#[101, 110, 99, 111, 100, 105, 110, 103]⟩, .func (.func 48) #[] #[], .pointer (some ⟨g, 2, none⟩), .bool false] 93)))
  go_wp2_with fail
  clear x4 x5 x6 x7
  refine (P1.out _ JA1.out).mono ?_
  rintro e u2 ⟨rfl, hb2⟩
  have J1 := Lib.hid (JA1.out.kept hb2)
  clear hb2 hn1 JA1
  go_wp2
  (try rw [Exit.noGoto_ret])
  go_ret2
  exact ⟨rfl, J1.out⟩
set_option maxRecDepth 100000 in
set_option maxHeartbeats 8000000 in
theorem xdRead_f_found_same_none (g P B : Nat) (A : Option Addr) (n cap : Nat) (l : List UInt8) (k : Nat) (w : World) (h : Byt w B A n cap l) (hm : n ≤ 40000) (hk : k + 5 ≤ n) (hBg : B ≤ g) (hT : FoldT w) (hTB : 0 < B) (hg : w.heap[g]? = some (.cells #[.bool false, .string ⟨#[]⟩, .string ⟨#[]⟩, .string ⟨#[]⟩] 53)) (hgP : g < P)
    (hP : w.heap[P]? = some (.cells #[.string ⟨#[118, 101, 114, 115, 105, 111, 110]⟩, .func (.func 47) #[] #[], .pointer (some ⟨g, 1, none⟩), .bool true, .string ⟨#[101, 110, 99, 111, 100, 105, 110, 103]⟩, .func (.func 48) #[] #[], .pointer (some ⟨g, 2, none⟩), .bool false, .string ⟨#[115, 116, 97, 110, 100, 97, 108, 111, 110, 101]⟩, .func (.func 49) #[] #[], .pointer (some ⟨g, 3, none⟩), .bool false] 93)) (s0 : List UInt8) (j0 : Nat) (ho0 : partOut verW verB l (k + 5) = some (s0, j0)) (hlt0 : (k + 5) < j0) (hle0 : j0 ≤ n) (ho1 : partOut encW encB l j0 = some ([], j0)) (ho2 : partOut aloneW aloneB l j0 = none) :
    Calls Tryd.prog 65 #[.slice A n cap, .int .i64 k, .pointer (some ⟨g, 0, none⟩), .slice (some ⟨P, 0, none⟩) 3 3] w fun e w' => e = .returned (.tuple #[.int .i64 0, .int .i64 7]) ∧ RJ g #[.bool false, .string ⟨s0.toArray⟩, .string ⟨#[]⟩, .string ⟨#[]⟩] w w' := by
  have hln := h.length
  have hgl := lt_of hg
  have hPl := lt_of hP
  have HJ : Hid (RJ g #[.bool false, .string ⟨#[]⟩, .string ⟨#[]⟩, .string ⟨#[]⟩] w w) := Lib.hid ⟨Fr.refl _ _ _, hg⟩
  have HX : Hid (∀ vs W, RJ g vs w W → W.cell? ⟨P, 0, none⟩ = some (.string ⟨#[118, 101, 114, 115, 105, 111, 110]⟩) ∧ W.cell? ⟨P, 1, none⟩ = some (.func (.func 47) #[] #[]) ∧ W.cell? ⟨P, 2, none⟩ = some (.pointer (some ⟨g, 1, none⟩)) ∧ W.cell? ⟨P, 3, none⟩ = some (.bool true) ∧ W.cell? ⟨P, 4, none⟩ = some (.string ⟨#[101, 110, 99, 111, 100, 105, 110, 103]⟩) ∧ W.cell? ⟨P, 5, none⟩ = some (.func (.func 48) #[] #[]) ∧ W.cell? ⟨P, 6, none⟩ = some (.pointer (some ⟨g, 2, none⟩)) ∧ W.cell? ⟨P, 7, none⟩ = some (.bool false) ∧ W.cell? ⟨P, 8, none⟩ = some (.string ⟨#[115, 116, 97, 110, 100, 97, 108, 111, 110, 101]⟩) ∧ W.cell? ⟨P, 9, none⟩ = some (.func (.func 49) #[] #[]) ∧ W.cell? ⟨P, 10, none⟩ = some (.pointer (some ⟨g, 3, none⟩)) ∧ W.cell? ⟨P, 11, none⟩ = some (.bool false)) := Lib.hid fun vs W hJ => by
    have hne : P ≠ g := by omega
    refine ⟨?_, ?_, ?_, ?_, ?_, ?_, ?_, ?_, ?_, ?_, ?_, ?_⟩ <;> (rw [hJ.cell hPl hne, cell_of _ hP]; rfl)
  have HB : Hid (∀ vs W, RJ g vs w W → Byt W B A n cap l ∧ B ≤ W.heap.size ∧ FoldT W) := Lib.hid fun vs W hJ => ⟨hJ.byt h hBg (by omega), by have := hJ.1.size; omega, hT.below (hJ.1.below (B := B) (by omega) hBg) hTB⟩
  have P0 : Hid (∀ W, RJ g #[.bool false, .string ⟨#[]⟩, .string ⟨#[]⟩, .string ⟨#[]⟩] w W → Calls Tryd.prog 85 #[.agg #[.string ⟨#[118, 101, 114, 115, 105, 111, 110]⟩, .func (.func 47) #[] #[], .pointer (some ⟨g, 1, none⟩), .bool true], .slice A n cap, .int .i64 ((k + 5) : Nat)] W fun e w' => e = .returned (.tuple #[.int .i64 (j0 : Int), .int .i64 0]) ∧ ∃ w1, Below W.heap.size W w1 ∧ w' = w1.setCell ⟨g, 1, none⟩ (.string ⟨s0.toArray⟩)) := Lib.hid fun W hJ => by
    obtain ⟨hb1, hb2, hb3⟩ := HB.out _ W hJ
    exact (partRead_out (some (s0, j0)) verW 47 verB true g 1 #[.bool false, .string ⟨#[]⟩, .string ⟨#[]⟩, .string ⟨#[]⟩] 53 A n cap l (k + 5) W (hb1.more hb2) hm (by omega) (by decide) (by decide) hJ.2 (by show (1 : Nat) < 4; decide) (enters_of Tryd.func47 (by kernel_rfl) rfl) (fun s hs W' hb => version_c s W' (by omega)) ho0).mono fun e w' hp => hp.found hlt0
  rw [show ((k + 5 : Nat) : Int) = (k : Int) + 5 by omega] at P0
  have P1 : Hid (∀ W, RJ g #[.bool false, .string ⟨s0.toArray⟩, .string ⟨#[]⟩, .string ⟨#[]⟩] w W → Calls Tryd.prog 85 #[.agg #[.string ⟨#[101, 110, 99, 111, 100, 105, 110, 103]⟩, .func (.func 48) #[] #[], .pointer (some ⟨g, 2, none⟩), .bool false], .slice A n cap, .int .i64 (j0 : Nat)] W fun e w' => e = .returned (.tuple #[.int .i64 (j0 : Nat), .int .i64 0]) ∧ Below W.heap.size W w') := Lib.hid fun W hJ => by
    obtain ⟨hb1, hb2, hb3⟩ := HB.out _ W hJ
    exact (partRead_out (some ([], j0)) encW 48 encB false g 2 #[.bool false, .string ⟨s0.toArray⟩, .string ⟨#[]⟩, .string ⟨#[]⟩] 53 A n cap l j0 W (hb1.more hb2) hm (by omega) (by decide) (by decide) hJ.2 (by show (2 : Nat) < 4; decide) (enters_of Tryd.func48 (by kernel_rfl) rfl) (fun s hs W' hb => encoding_c s W' (hb3.below hb hb3.lt)) ho1).mono fun e w' hp => hp.same
  have P2 : Hid (∀ W, RJ g #[.bool false, .string ⟨s0.toArray⟩, .string ⟨#[]⟩, .string ⟨#[]⟩] w W → Calls Tryd.prog 85 #[.agg #[.string ⟨#[115, 116, 97, 110, 100, 97, 108, 111, 110, 101]⟩, .func (.func 49) #[] #[], .pointer (some ⟨g, 3, none⟩), .bool false], .slice A n cap, .int .i64 (j0 : Nat)] W fun e w' => e = .returned (.tuple #[.int .i64 0, .int .i64 7]) ∧ Below W.heap.size W w') := Lib.hid fun W hJ => by
    obtain ⟨hb1, hb2, hb3⟩ := HB.out _ W hJ
    exact (partRead_out (none) aloneW 49 aloneB false g 3 #[.bool false, .string ⟨s0.toArray⟩, .string ⟨#[]⟩, .string ⟨#[]⟩] 53 A n cap l j0 W (hb1.more hb2) hm (by omega) (by decide) (by decide) hJ.2 (by show (3 : Nat) < 4; decide) (enters_of Tryd.func49 (by kernel_rfl) rfl) (fun s hs W' hb => (alone_c s W').mono fun e w' ⟨he, hw⟩ => ⟨he, hw ▸ Below.refl _ _⟩) ho2).mono fun e w' hp => hp
  have hk0 : (0 : Int) ≤ (k : Int) := by omega
  have hk1 : (k : Int) ≤ 40000 := by omega
  have e0 : ((j0 : Int) == (k : Int) + 5) = false := by simp; omega
  clear h hT hTB hg hP hln hBg HB hk hm hPl hgP ho0 ho1 ho2 hlt0 hle0
  go_enter Tryd.func65, Tryd.ntmps65
  go_wp2_with fail
  go_step3
  go_wp2_with fail
  go_step3
  go_wp2_with fail
  refine wp_loop_rounds 4 ?_
  rw [rounds_succ]
  obtain ⟨x0, x1, x2, x3, x4, x5, x6, x7, x8, x9, x10, x11⟩ := HX.out _ _ HJ.out
  clear x4 x5 x6 x7 x8 x9 x10 x11
  have hn0 := hp_new w (.cells #[.string ⟨#[118, 101, 114, 115, 105, 111, 110]⟩, .func (.func 47) #[] #[], .pointer (some ⟨g, 1, none⟩), .bool true] 93)
  have JA0 := Lib.hid (HJ.out.kept ((Below.refl _ w).alloc (Nat.le_refl _) (.cells #[.string ⟨#[118, 101, 114, 115, 105, 111, 110]⟩, .func (.func 47) #[] #[], .pointer (some ⟨g, 1, none⟩), .bool true] 93)))
  go_wp2_with fail
  clear x0 x1 x2 x3
  refine (P0.out _ JA0.out).mono ?_
  rintro e w1 ⟨rfl, v1, hb1, rfl⟩
  have J0 : Hid (RJ g #[.bool false, .string ⟨s0.toArray⟩, .string ⟨#[]⟩, .string ⟨#[]⟩] w (v1.setCell ⟨g, 1, none⟩ (.string ⟨s0.toArray⟩))) := Lib.hid ((JA0.out.kept hb1).set 1 (.string ⟨s0.toArray⟩))
  clear hb1 hn0 JA0
  generalize v1.setCell ⟨g, 1, none⟩ (.string ⟨s0.toArray⟩) = u1 at *
  go_wp2
  rw [rounds_succ]
  obtain ⟨x0, x1, x2, x3, x4, x5, x6, x7, x8, x9, x10, x11⟩ := HX.out _ _ J0.out
  clear x0 x1 x2 x3 x8 x9 x10 x11
  have hn1 := hp_new u1 (.cells #[.string ⟨#[101, 110, 99, 111, 100, 105, 110, 103]⟩, .func (.func 48) #[] #[], .pointer (some ⟨g, 2, none⟩), .bool false] 93)
  have JA1 := Lib.hid (J0.out.kept ((Below.refl _ u1).alloc (Nat.le_refl _) (.cells #[.string ⟨#[101, 110, 99, 111, 100, 105, 110, 103]⟩, .func (.func 48) #[] #[], .pointer (some ⟨g, 2, none⟩), .bool false] 93)))
  go_wp2_with fail
  clear x4 x5 x6 x7
  refine (P1.out _ JA1.out).mono ?_
  rintro e u2 ⟨rfl, hb2⟩
  have J1 := Lib.hid (JA1.out.kept hb2)
  have m1 : u2.cell? ⟨u1.heap.size, 3, none⟩ = some (.bool false) := by rw [hb2.cell (p := ⟨u1.heap.size, 3, none⟩) (by simp), cell_of 3 hn1]; rfl
  clear hb2 hn1 JA1
  go_wp2
  clear m1
  rw [rounds_succ]
  obtain ⟨x0, x1, x2, x3, x4, x5, x6, x7, x8, x9, x10, x11⟩ := HX.out _ _ J1.out
  clear x0 x1 x2 x3 x4 x5 x6 x7
  have hn2 := hp_new u2 (.cells #[.string ⟨#[115, 116, 97, 110, 100, 97, 108, 111, 110, 101]⟩, .func (.func 49) #[] #[], .pointer (some ⟨g, 3, none⟩), .bool false] 93)
  have JA2 := Lib.hid (J1.out.kept ((Below.refl _ u2).alloc (Nat.le_refl _) (.cells #[.string ⟨#[115, 116, 97, 110, 100, 97, 108, 111, 110, 101]⟩, .func (.func 49) #[] #[], .pointer (some ⟨g, 3, none⟩), .bool false] 93)))
  go_wp2_with fail
  clear x8 x9 x10 x11
  refine (P2.out _ JA2.out).mono ?_
  rintro e u3 ⟨rfl, hb3⟩
  have J2 := Lib.hid (JA2.out.kept hb3)
  clear hb3 hn2 JA2
  go_wp2
  (try rw [Exit.noGoto_ret])
  go_ret2
  exact ⟨rfl, J2.out⟩
set_option maxRecDepth 100000 in
set_option maxHeartbeats 8000000 in
theorem xdRead_f_found_same_same_yes (g P B : Nat) (A : Option Addr) (n cap : Nat) (l : List UInt8) (k : Nat) (w : World) (h : Byt w B A n cap l) (hm : n ≤ 40000) (hk : k + 5 ≤ n) (hBg : B ≤ g) (hT : FoldT w) (hTB : 0 < B) (hg : w.heap[g]? = some (.cells #[.bool false, .string ⟨#[]⟩, .string ⟨#[]⟩, .string ⟨#[]⟩] 53)) (hgP : g < P)
    (hP : w.heap[P]? = some (.cells #[.string ⟨#[118, 101, 114, 115, 105, 111, 110]⟩, .func (.func 47) #[] #[], .pointer (some ⟨g, 1, none⟩), .bool true, .string ⟨#[101, 110, 99, 111, 100, 105, 110, 103]⟩, .func (.func 48) #[] #[], .pointer (some ⟨g, 2, none⟩), .bool false, .string ⟨#[115, 116, 97, 110, 100, 97, 108, 111, 110, 101]⟩, .func (.func 49) #[] #[], .pointer (some ⟨g, 3, none⟩), .bool false] 93)) (s0 : List UInt8) (j0 : Nat) (ho0 : partOut verW verB l (k + 5) = some (s0, j0)) (hlt0 : (k + 5) < j0) (hle0 : j0 ≤ n) (ho1 : partOut encW encB l j0 = some ([], j0)) (ho2 : partOut aloneW aloneB l j0 = some ([], j0)) (ht : [63, 62].isPrefixOf (l.drop (blankTo l j0)) = true) :
    Calls Tryd.prog 65 #[.slice A n cap, .int .i64 k, .pointer (some ⟨g, 0, none⟩), .slice (some ⟨P, 0, none⟩) 3 3] w fun e w' => e = .returned (.tuple #[.int .i64 ((blankTo l j0 : Int) + 2), .int .i64 0]) ∧ RJ g #[.bool false, .string ⟨s0.toArray⟩, .string ⟨#[]⟩, .string ⟨#[]⟩] w w' := by
  have kc := fun (w : World) (C : Array Value) (n c : Nat) => Lib.run_convert_bytes_const (P := Tryd.prog) w 22 5 C n c Tryd.underlying22 Tryd.underlying5
  have hln := h.length
  have hgl := lt_of hg
  have hPl := lt_of hP
  have HJ : Hid (RJ g #[.bool false, .string ⟨#[]⟩, .string ⟨#[]⟩, .string ⟨#[]⟩] w w) := Lib.hid ⟨Fr.refl _ _ _, hg⟩
  have HX : Hid (∀ vs W, RJ g vs w W → W.cell? ⟨P, 0, none⟩ = some (.string ⟨#[118, 101, 114, 115, 105, 111, 110]⟩) ∧ W.cell? ⟨P, 1, none⟩ = some (.func (.func 47) #[] #[]) ∧ W.cell? ⟨P, 2, none⟩ = some (.pointer (some ⟨g, 1, none⟩)) ∧ W.cell? ⟨P, 3, none⟩ = some (.bool true) ∧ W.cell? ⟨P, 4, none⟩ = some (.string ⟨#[101, 110, 99, 111, 100, 105, 110, 103]⟩) ∧ W.cell? ⟨P, 5, none⟩ = some (.func (.func 48) #[] #[]) ∧ W.cell? ⟨P, 6, none⟩ = some (.pointer (some ⟨g, 2, none⟩)) ∧ W.cell? ⟨P, 7, none⟩ = some (.bool false) ∧ W.cell? ⟨P, 8, none⟩ = some (.string ⟨#[115, 116, 97, 110, 100, 97, 108, 111, 110, 101]⟩) ∧ W.cell? ⟨P, 9, none⟩ = some (.func (.func 49) #[] #[]) ∧ W.cell? ⟨P, 10, none⟩ = some (.pointer (some ⟨g, 3, none⟩)) ∧ W.cell? ⟨P, 11, none⟩ = some (.bool false)) := Lib.hid fun vs W hJ => by
    have hne : P ≠ g := by omega
    refine ⟨?_, ?_, ?_, ?_, ?_, ?_, ?_, ?_, ?_, ?_, ?_, ?_⟩ <;> (rw [hJ.cell hPl hne, cell_of _ hP]; rfl)
  have HB : Hid (∀ vs W, RJ g vs w W → Byt W B A n cap l ∧ B ≤ W.heap.size ∧ FoldT W) := Lib.hid fun vs W hJ => ⟨hJ.byt h hBg (by omega), by have := hJ.1.size; omega, hT.below (hJ.1.below (B := B) (by omega) hBg) hTB⟩
  have P0 : Hid (∀ W, RJ g #[.bool false, .string ⟨#[]⟩, .string ⟨#[]⟩, .string ⟨#[]⟩] w W → Calls Tryd.prog 85 #[.agg #[.string ⟨#[118, 101, 114, 115, 105, 111, 110]⟩, .func (.func 47) #[] #[], .pointer (some ⟨g, 1, none⟩), .bool true], .slice A n cap, .int .i64 ((k + 5) : Nat)] W fun e w' => e = .returned (.tuple #[.int .i64 (j0 : Int), .int .i64 0]) ∧ ∃ w1, Below W.heap.size W w1 ∧ w' = w1.setCell ⟨g, 1, none⟩ (.string ⟨s0.toArray⟩)) := Lib.hid fun W hJ => by
    obtain ⟨hb1, hb2, hb3⟩ := HB.out _ W hJ
    exact (partRead_out (some (s0, j0)) verW 47 verB true g 1 #[.bool false, .string ⟨#[]⟩, .string ⟨#[]⟩, .string ⟨#[]⟩] 53 A n cap l (k + 5) W (hb1.more hb2) hm (by omega) (by decide) (by decide) hJ.2 (by show (1 : Nat) < 4; decide) (enters_of Tryd.func47 (by kernel_rfl) rfl) (fun s hs W' hb => version_c s W' (by omega)) ho0).mono fun e w' hp => hp.found hlt0
  rw [show ((k + 5 : Nat) : Int) = (k : Int) + 5 by omega] at P0
  have P1 : Hid (∀ W, RJ g #[.bool false, .string ⟨s0.toArray⟩, .string ⟨#[]⟩, .string ⟨#[]⟩] w W → Calls Tryd.prog 85 #[.agg #[.string ⟨#[101, 110, 99, 111, 100, 105, 110, 103]⟩, .func (.func 48) #[] #[], .pointer (some ⟨g, 2, none⟩), .bool false], .slice A n cap, .int .i64 (j0 : Nat)] W fun e w' => e = .returned (.tuple #[.int .i64 (j0 : Nat), .int .i64 0]) ∧ Below W.heap.size W w') := Lib.hid fun W hJ => by
    obtain ⟨hb1, hb2, hb3⟩ := HB.out _ W hJ
    exact (partRead_out (some ([], j0)) encW 48 encB false g 2 #[.bool false, .string ⟨s0.toArray⟩, .string ⟨#[]⟩, .string ⟨#[]⟩] 53 A n cap l j0 W (hb1.more hb2) hm (by omega) (by decide) (by decide) hJ.2 (by show (2 : Nat) < 4; decide) (enters_of Tryd.func48 (by kernel_rfl) rfl) (fun s hs W' hb => encoding_c s W' (hb3.below hb hb3.lt)) ho1).mono fun e w' hp => hp.same
  have P2 : Hid (∀ W, RJ g #[.bool false, .string ⟨s0.toArray⟩, .string ⟨#[]⟩, .string ⟨#[]⟩] w W → Calls Tryd.prog 85 #[.agg #[.string ⟨#[115, 116, 97, 110, 100, 97, 108, 111, 110, 101]⟩, .func (.func 49) #[] #[], .pointer (some ⟨g, 3, none⟩), .bool false], .slice A n cap, .int .i64 (j0 : Nat)] W fun e w' => e = .returned (.tuple #[.int .i64 (j0 : Nat), .int .i64 0]) ∧ Below W.heap.size W w') := Lib.hid fun W hJ => by
    obtain ⟨hb1, hb2, hb3⟩ := HB.out _ W hJ
    exact (partRead_out (some ([], j0)) aloneW 49 aloneB false g 3 #[.bool false, .string ⟨s0.toArray⟩, .string ⟨#[]⟩, .string ⟨#[]⟩] 53 A n cap l j0 W (hb1.more hb2) hm (by omega) (by decide) (by decide) hJ.2 (by show (3 : Nat) < 4; decide) (enters_of Tryd.func49 (by kernel_rfl) rfl) (fun s hs W' hb => (alone_c s W').mono fun e w' ⟨he, hw⟩ => ⟨he, hw ▸ Below.refl _ _⟩) ho2).mono fun e w' hp => hp.same
  have CB : Hid (∀ W, RJ g #[.bool false, .string ⟨s0.toArray⟩, .string ⟨#[]⟩, .string ⟨#[]⟩] w W → Calls Tryd.prog 31 #[.slice A n cap, .int .i64 (j0 : Nat)] W fun e w' => e = .returned (.int .i64 (blankTo l j0)) ∧ W = w') := Lib.hid fun W hJ => blanks_c A n cap l j0 _ W (HB.out _ W hJ).1 (by omega) (by omega)
  have hbl := blankTo_le l j0 (by omega)
  have CH : Hid (∀ W, RJ g #[.bool false, .string ⟨s0.toArray⟩, .string ⟨#[]⟩, .string ⟨#[]⟩] w W → Calls Tryd.prog 69 #[.slice (cutA A cap (blankTo l j0)) (n - blankTo l j0) (cap - blankTo l j0), .slice (some ⟨W.heap.size, 0, none⟩) 2 2] (W.alloc (.cells #[.int .u8 63, .int .u8 62] 5 (2, 3))) fun e w' => e = .returned (.bool true) ∧ Hid (RJ g #[.bool false, .string ⟨s0.toArray⟩, .string ⟨#[]⟩, .string ⟨#[]⟩] w w')) := Lib.hid fun W hJ => by
    have ka := alloc_const W [63, 62] (2, 3) (by decide)
    obtain ⟨hb1, hb2, _⟩ := HB.out _ W hJ
    have := hasPrefix_c _ _ _ _ _ _ _ _ (W.alloc (.cells #[.int .u8 63, .int .u8 62] 5 (2, 3))) _ _ (((hb1.more hb2).below ka.1).drop (k := blankTo l j0) (by omega)) ka.2
    rw [ht] at this
    exact this.mono fun e w' ⟨he, hw⟩ => ⟨he, Lib.hid (hw ▸ hJ.kept ka.1)⟩
  have hrb : ∀ W : World, (Instr.slice 22 (.slice A n cap) (some (.int .i64 (blankTo l j0 : Nat))) none none).run Tryd.prog W = .ok (.slice (cutA A cap (blankTo l j0)) (n - blankTo l j0) (cap - blankTo l j0)) W := fun W => run_from A n cap (blankTo l j0) (by omega)
  have hbi : (blankTo l j0 : Int) ≤ 40000 := by omega
  generalize hbt : blankTo l j0 = bt at *
  have hk0 : (0 : Int) ≤ (k : Int) := by omega
  have hk1 : (k : Int) ≤ 40000 := by omega
  have e0 : ((j0 : Int) == (k : Int) + 5) = false := by simp; omega
  clear h hT hTB hg hP hln hBg HB hk hm hPl hgP ho0 ho1 ho2 hlt0 hle0 ht hbl hbt
  go_enter Tryd.func65, Tryd.ntmps65
  go_wp2_with fail
  go_step3
  go_wp2_with fail
  go_step3
  go_wp2_with fail
  refine wp_loop_rounds 4 ?_
  rw [rounds_succ]
  obtain ⟨x0, x1, x2, x3, x4, x5, x6, x7, x8, x9, x10, x11⟩ := HX.out _ _ HJ.out
  clear x4 x5 x6 x7 x8 x9 x10 x11
  have hn0 := hp_new w (.cells #[.string ⟨#[118, 101, 114, 115, 105, 111, 110]⟩, .func (.func 47) #[] #[], .pointer (some ⟨g, 1, none⟩), .bool true] 93)
  have JA0 := Lib.hid (HJ.out.kept ((Below.refl _ w).alloc (Nat.le_refl _) (.cells #[.string ⟨#[118, 101, 114, 115, 105, 111, 110]⟩, .func (.func 47) #[] #[], .pointer (some ⟨g, 1, none⟩), .bool true] 93)))
  go_wp2_with fail
  clear x0 x1 x2 x3
  refine (P0.out _ JA0.out).mono ?_
  rintro e w1 ⟨rfl, v1, hb1, rfl⟩
  have J0 : Hid (RJ g #[.bool false, .string ⟨s0.toArray⟩, .string ⟨#[]⟩, .string ⟨#[]⟩] w (v1.setCell ⟨g, 1, none⟩ (.string ⟨s0.toArray⟩))) := Lib.hid ((JA0.out.kept hb1).set 1 (.string ⟨s0.toArray⟩))
  clear hb1 hn0 JA0
  generalize v1.setCell ⟨g, 1, none⟩ (.string ⟨s0.toArray⟩) = u1 at *
  go_wp2
  rw [rounds_succ]
  obtain ⟨x0, x1, x2, x3, x4, x5, x6, x7, x8, x9, x10, x11⟩ := HX.out _ _ J0.out
  clear x0 x1 x2 x3 x8 x9 x10 x11
  have hn1 := hp_new u1 (.cells #[.string ⟨#[101, 110, 99, 111, 100, 105, 110, 103]⟩, .func (.func 48) #[] #[], .pointer (some ⟨g, 2, none⟩), .bool false] 93)
  have JA1 := Lib.hid (J0.out.kept ((Below.refl _ u1).alloc (Nat.le_refl _) (.cells #[.string ⟨#[101, 110, 99, 111, 100, 105, 110, 103]⟩, .func (.func 48) #[] #[], .pointer (some ⟨g, 2, none⟩), .bool false] 93)))
  go_wp2_with fail
  clear x4 x5 x6 x7
  refine (P1.out _ JA1.out).mono ?_
  rintro e u2 ⟨rfl, hb2⟩
  have J1 := Lib.hid (JA1.out.kept hb2)
  have m1 : u2.cell? ⟨u1.heap.size, 3, none⟩ = some (.bool false) := by rw [hb2.cell (p := ⟨u1.heap.size, 3, none⟩) (by simp), cell_of 3 hn1]; rfl
  clear hb2 hn1 JA1
  go_wp2
  clear m1
  rw [rounds_succ]
  obtain ⟨x0, x1, x2, x3, x4, x5, x6, x7, x8, x9, x10, x11⟩ := HX.out _ _ J1.out
  clear x0 x1 x2 x3 x4 x5 x6 x7
  have hn2 := hp_new u2 (.cells #[.string ⟨#[115, 116, 97, 110, 100, 97, 108, 111, 110, 101]⟩, .func (.func 49) #[] #[], .pointer (some ⟨g, 3, none⟩), .bool false] 93)
  have JA2 := Lib.hid (J1.out.kept ((Below.refl _ u2).alloc (Nat.le_refl _) (.cells #[.string ⟨#[115, 116, 97, 110, 100, 97, 108, 111, 110, 101]⟩, .func (.func 49) #[] #[], .pointer (some ⟨g, 3, none⟩), .bool false] 93)))
  go_wp2_with fail
  clear x8 x9 x10 x11
  refine (P2.out _ JA2.out).mono ?_
  rintro e u3 ⟨rfl, hb3⟩
  have J2 := Lib.hid (JA2.out.kept hb3)
  have m2 : u3.cell? ⟨u2.heap.size, 3, none⟩ = some (.bool false) := by rw [hb3.cell (p := ⟨u2.heap.size, 3, none⟩) (by simp), cell_of 3 hn2]; rfl
  clear hb3 hn2 JA2
  go_wp2
  clear m2
  rw [rounds_succ]
  go_wp2_with fail
  refine (CB.out _ J2.out).mono ?_
  rintro e wq ⟨rfl, rfl⟩
  go_wp2_with fail
  refine (CH.out _ J2.out).mono ?_
  rintro e wz ⟨rfl, JZ⟩
  clear kc
  go_wp2
  (try rw [Exit.noGoto_ret])
  go_ret2
  exact ⟨rfl, JZ.out⟩
set_option maxRecDepth 100000 in
set_option maxHeartbeats 8000000 in
theorem xdRead_f_found_same_same_no (g P B : Nat) (A : Option Addr) (n cap : Nat) (l : List UInt8) (k : Nat) (w : World) (h : Byt w B A n cap l) (hm : n ≤ 40000) (hk : k + 5 ≤ n) (hBg : B ≤ g) (hT : FoldT w) (hTB : 0 < B) (hg : w.heap[g]? = some (.cells #[.bool false, .string ⟨#[]⟩, .string ⟨#[]⟩, .string ⟨#[]⟩] 53)) (hgP : g < P)
    (hP : w.heap[P]? = some (.cells #[.string ⟨#[118, 101, 114, 115, 105, 111, 110]⟩, .func (.func 47) #[] #[], .pointer (some ⟨g, 1, none⟩), .bool true, .string ⟨#[101, 110, 99, 111, 100, 105, 110, 103]⟩, .func (.func 48) #[] #[], .pointer (some ⟨g, 2, none⟩), .bool false, .string ⟨#[115, 116, 97, 110, 100, 97, 108, 111, 110, 101]⟩, .func (.func 49) #[] #[], .pointer (some ⟨g, 3, none⟩), .bool false] 93)) (s0 : List UInt8) (j0 : Nat) (ho0 : partOut verW verB l (k + 5) = some (s0, j0)) (hlt0 : (k + 5) < j0) (hle0 : j0 ≤ n) (ho1 : partOut encW encB l j0 = some ([], j0)) (ho2 : partOut aloneW aloneB l j0 = some ([], j0)) (ht : [63, 62].isPrefixOf (l.drop (blankTo l j0)) = false) :
    Calls Tryd.prog 65 #[.slice A n cap, .int .i64 k, .pointer (some ⟨g, 0, none⟩), .slice (some ⟨P, 0, none⟩) 3 3] w fun e w' => e = .returned (.tuple #[.int .i64 0, .int .i64 7]) ∧ RJ g #[.bool false, .string ⟨s0.toArray⟩, .string ⟨#[]⟩, .string ⟨#[]⟩] w w' := by
  have kc := fun (w : World) (C : Array Value) (n c : Nat) => Lib.run_convert_bytes_const (P := Tryd.prog) w 22 5 C n c Tryd.underlying22 Tryd.underlying5
  have hln := h.length
  have hgl := lt_of hg
  have hPl := lt_of hP
  have HJ : Hid (RJ g #[.bool false, .string ⟨#[]⟩, .string ⟨#[]⟩, .string ⟨#[]⟩] w w) := Lib.hid ⟨Fr.refl _ _ _, hg⟩
  have HX : Hid (∀ vs W, RJ g vs w W → W.cell? ⟨P, 0, none⟩ = some (.string ⟨#[118, 101, 114, 115, 105, 111, 110]⟩) ∧ W.cell? ⟨P, 1, none⟩ = some (.func (.func 47) #[] #[]) ∧ W.cell? ⟨P, 2, none⟩ = some (.pointer (some ⟨g, 1, none⟩)) ∧ W.cell? ⟨P, 3, none⟩ = some (.bool true) ∧ W.cell? ⟨P, 4, none⟩ = some (.string ⟨#[101, 110, 99, 111, 100, 105, 110, 103]⟩) ∧ W.cell? ⟨P, 5, none⟩ = some (.func (.func 48) #[] #[]) ∧ W.cell? ⟨P, 6, none⟩ = some (.pointer (some ⟨g, 2, none⟩)) ∧ W.cell? ⟨P, 7, none⟩ = some (.bool false) ∧ W.cell? ⟨P, 8, none⟩ = some (.string ⟨#[115, 116, 97, 110, 100, 97, 108, 111, 110, 101]⟩) ∧ W.cell? ⟨P, 9, none⟩ = some (.func (.func 49) #[] #[]) ∧ W.cell? ⟨P, 10, none⟩ = some (.pointer (some ⟨g, 3, none⟩)) ∧ W.cell? ⟨P, 11, none⟩ = some (.bool false)) := Lib.hid fun vs W hJ => by
    have hne : P ≠ g := by omega
    refine ⟨?_, ?_, ?_, ?_, ?_, ?_, ?_, ?_, ?_, ?_, ?_, ?_⟩ <;> (rw [hJ.cell hPl hne, cell_of _ hP]; rfl)
  have HB : Hid (∀ vs W, RJ g vs w W → Byt W B A n cap l ∧ B ≤ W.heap.size ∧ FoldT W) := Lib.hid fun vs W hJ => ⟨hJ.byt h hBg (by omega), by have := hJ.1.size; omega, hT.below (hJ.1.below (B := B) (by omega) hBg) hTB⟩
  have P0 : Hid (∀ W, RJ g #[.bool false, .string ⟨#[]⟩, .string ⟨#[]⟩, .string ⟨#[]⟩] w W → Calls Tryd.prog 85 #[.agg #[.string ⟨#[118, 101, 114, 115, 105, 111, 110]⟩, .func (.func 47) #[] #[], .pointer (some ⟨g, 1, none⟩), .bool true], .slice A n cap, .int .i64 ((k + 5) : Nat)] W fun e w' => e = .returned (.tuple #[.int .i64 (j0 : Int), .int .i64 0]) ∧ ∃ w1, Below W.heap.size W w1 ∧ w' = w1.setCell ⟨g, 1, none⟩ (.string ⟨s0.toArray⟩)) := Lib.hid fun W hJ => by
    obtain ⟨hb1, hb2, hb3⟩ := HB.out _ W hJ
    exact (partRead_out (some (s0, j0)) verW 47 verB true g 1 #[.bool false, .string ⟨#[]⟩, .string ⟨#[]⟩, .string ⟨#[]⟩] 53 A n cap l (k + 5) W (hb1.more hb2) hm (by omega) (by decide) (by decide) hJ.2 (by show (1 : Nat) < 4; decide) (enters_of Tryd.func47 (by kernel_rfl) rfl) (fun s hs W' hb => version_c s W' (by omega)) ho0).mono fun e w' hp => hp.found hlt0
  rw [show ((k + 5 : Nat) : Int) = (k : Int) + 5 by omega] at P0
  have P1 : Hid (∀ W, RJ g #[.bool false, .string ⟨s0.toArray⟩, .string ⟨#[]⟩, .string ⟨#[]⟩] w W → Calls Tryd.prog 85 #[.agg #[.string ⟨#[101, 110, 99, 111, 100, 105, 110, 103]⟩, .func (.func 48) #[] #[], .pointer (some ⟨g, 2, none⟩), .bool false], .slice A n cap, .int .i64 (j0 : Nat)] W fun e w' => e = .returned (.tuple #[.int .i64 (j0 : Nat), .int .i64 0]) ∧ Below W.heap.size W w') := Lib.hid fun W hJ => by
    obtain ⟨hb1, hb2, hb3⟩ := HB.out _ W hJ
    exact (partRead_out (some ([], j0)) encW 48 encB false g 2 #[.bool false, .string ⟨s0.toArray⟩, .string ⟨#[]⟩, .string ⟨#[]⟩] 53 A n cap l j0 W (hb1.more hb2) hm (by omega) (by decide) (by decide) hJ.2 (by show (2 : Nat) < 4; decide) (enters_of Tryd.func48 (by kernel_rfl) rfl) (fun s hs W' hb => encoding_c s W' (hb3.below hb hb3.lt)) ho1).mono fun e w' hp => hp.same
  have P2 : Hid (∀ W, RJ g #[.bool false, .string ⟨s0.toArray⟩, .string ⟨#[]⟩, .string ⟨#[]⟩] w W → Calls Tryd.prog 85 #[.agg #[.string ⟨#[115, 116, 97, 110, 100, 97, 108, 111, 110, 101]⟩, .func (.func 49) #[] #[], .pointer (some ⟨g, 3, none⟩), .bool false], .slice A n cap, .int .i64 (j0 : Nat)] W fun e w' => e = .returned (.tuple #[.int .i64 (j0 : Nat), .int .i64 0]) ∧ Below W.heap.size W w') := Lib.hid fun W hJ => by
    obtain ⟨hb1, hb2, hb3⟩ := HB.out _ W hJ
    exact (partRead_out (some ([], j0)) aloneW 49 aloneB false g 3 #[.bool false, .string ⟨s0.toArray⟩, .string ⟨#[]⟩, .string ⟨#[]⟩] 53 A n cap l j0 W (hb1.more hb2) hm (by omega) (by decide) (by decide) hJ.2 (by show (3 : Nat) < 4; decide) (enters_of Tryd.func49 (by kernel_rfl) rfl) (fun s hs W' hb => (alone_c s W').mono fun e w' ⟨he, hw⟩ => ⟨he, hw ▸ Below.refl _ _⟩) ho2).mono fun e w' hp => hp.same
  have CB : Hid (∀ W, RJ g #[.bool false, .string ⟨s0.toArray⟩, .string ⟨#[]⟩, .string ⟨#[]⟩] w W → Calls Tryd.prog 31 #[.slice A n cap, .int .i64 (j0 : Nat)] W fun e w' => e = .returned (.int .i64 (blankTo l j0)) ∧ W = w') := Lib.hid fun W hJ => blanks_c A n cap l j0 _ W (HB.out _ W hJ).1 (by omega) (by omega)
  have hbl := blankTo_le l j0 (by omega)
  have CH : Hid (∀ W, RJ g #[.bool false, .string ⟨s0.toArray⟩, .string ⟨#[]⟩, .string ⟨#[]⟩] w W → Calls Tryd.prog 69 #[.slice (cutA A cap (blankTo l j0)) (n - blankTo l j0) (cap - blankTo l j0), .slice (some ⟨W.heap.size, 0, none⟩) 2 2] (W.alloc (.cells #[.int .u8 63, .int .u8 62] 5 (2, 3))) fun e w' => e = .returned (.bool false) ∧ Hid (RJ g #[.bool false, .string ⟨s0.toArray⟩, .string ⟨#[]⟩, .string ⟨#[]⟩] w w')) := Lib.hid fun W hJ => by
    have ka := alloc_const W [63, 62] (2, 3) (by decide)
    obtain ⟨hb1, hb2, _⟩ := HB.out _ W hJ
    have := hasPrefix_c _ _ _ _ _ _ _ _ (W.alloc (.cells #[.int .u8 63, .int .u8 62] 5 (2, 3))) _ _ (((hb1.more hb2).below ka.1).drop (k := blankTo l j0) (by omega)) ka.2
    rw [ht] at this
    exact this.mono fun e w' ⟨he, hw⟩ => ⟨he, Lib.hid (hw ▸ hJ.kept ka.1)⟩
  have hrb : ∀ W : World, (Instr.slice 22 (.slice A n cap) (some (.int .i64 (blankTo l j0 : Nat))) none none).run Tryd.prog W = .ok (.slice (cutA A cap (blankTo l j0)) (n - blankTo l j0) (cap - blankTo l j0)) W := fun W => run_from A n cap (blankTo l j0) (by omega)
  have hbi : (blankTo l j0 : Int) ≤ 40000 := by omega
  generalize hbt : blankTo l j0 = bt at *
  have hk0 : (0 : Int) ≤ (k : Int) := by omega
  have hk1 : (k : Int) ≤ 40000 := by omega
  have e0 : ((j0 : Int) == (k : Int) + 5) = false := by simp; omega
  clear h hT hTB hg hP hln hBg HB hk hm hPl hgP ho0 ho1 ho2 hlt0 hle0 ht hbl hbt
  go_enter Tryd.func65, Tryd.ntmps65
  go_wp2_with fail
  go_step3
  go_wp2_with fail
  go_step3
  go_wp2_with fail
  refine wp_loop_rounds 4 ?_
  rw [rounds_succ]
  obtain ⟨x0, x1, x2, x3, x4, x5, x6, x7, x8, x9, x10, x11⟩ := HX.out _ _ HJ.out
  clear x4 x5 x6 x7 x8 x9 x10 x11
  have hn0 := hp_new w (.cells #[.string ⟨#[118, 101, 114, 115, 105, 111, 110]⟩, .func (.func 47) #[] #[], .pointer (some ⟨g, 1, none⟩), .bool true] 93)
  have JA0 := Lib.hid (HJ.out.kept ((Below.refl _ w).alloc (Nat.le_refl _) (.cells #[.string ⟨#[118, 101, 114, 115, 105, 111, 110]⟩, .func (.func 47) #[] #[], .pointer (some ⟨g, 1, none⟩), .bool true] 93)))
  go_wp2_with fail
  clear x0 x1 x2 x3
  refine (P0.out _ JA0.out).mono ?_
  rintro e w1 ⟨rfl, v1, hb1, rfl⟩
  have J0 : Hid (RJ g #[.bool false, .string ⟨s0.toArray⟩, .string ⟨#[]⟩, .string ⟨#[]⟩] w (v1.setCell ⟨g, 1, none⟩ (.string ⟨s0.toArray⟩))) := Lib.hid ((JA0.out.kept hb1).set 1 (.string ⟨s0.toArray⟩))
  clear hb1 hn0 JA0
  generalize v1.setCell ⟨g, 1, none⟩ (.string ⟨s0.toArray⟩) = u1 at *
  go_wp2
  rw [rounds_succ]
  obtain ⟨x0, x1, x2, x3, x4, x5, x6, x7, x8, x9, x10, x11⟩ := HX.out _ _ J0.out
  clear x0 x1 x2 x3 x8 x9 x10 x11
  have hn1 := hp_new u1 (.cells #[.string ⟨#[101, 110, 99, 111, 100, 105, 110, 103]⟩, .func (.func 48) #[] #[], .pointer (some ⟨g, 2, none⟩), .bool false] 93)
  have JA1 := Lib.hid (J0.out.kept ((Below.refl _ u1).alloc (Nat.le_refl _) (.cells #[.string ⟨#[101, 110, 99, 111, 100, 105, 110, 103]⟩, .func (.func 48) #[] #[], .pointer (some ⟨g, 2, none⟩), .bool false] 93)))
  go_wp2_with fail
  clear x4 x5 x6 x7
  refine (P1.out _ JA1.out).mono ?_
  rintro e u2 ⟨rfl, hb2⟩
  have J1 := Lib.hid (JA1.out.kept hb2)
  have m1 : u2.cell? ⟨u1.heap.size, 3, none⟩ = some (.bool false) := by rw [hb2.cell (p := ⟨u1.heap.size, 3, none⟩) (by simp), cell_of 3 hn1]; rfl
  clear hb2 hn1 JA1
  go_wp2
  clear m1
  rw [rounds_succ]
  obtain ⟨x0, x1, x2, x3, x4, x5, x6, x7, x8, x9, x10, x11⟩ := HX.out _ _ J1.out
  clear x0 x1 x2 x3 x4 x5 x6 x7
  have hn2 := hp_new u2 (.cells #[.string ⟨#[115, 116, 97, 110, 100, 97, 108, 111, 110, 101]⟩, .func (.func 49) #[] #[], .pointer (some ⟨g, 3, none⟩), .bool false] 93)
  have JA2 := Lib.hid (J1.out.kept ((Below.refl _ u2).alloc (Nat.le_refl _) (.cells #[.string ⟨#[115, 116, 97, 110, 100, 97, 108, 111, 110, 101]⟩, .func (.func 49) #[] #[], .pointer (some ⟨g, 3, none⟩), .bool false] 93)))
  go_wp2_with fail
  clear x8 x9 x10 x11
  refine (P2.out _ JA2.out).mono ?_
  rintro e u3 ⟨rfl, hb3⟩
  have J2 := Lib.hid (JA2.out.kept hb3)
  have m2 : u3.cell? ⟨u2.heap.size, 3, none⟩ = some (.bool false) := by rw [hb3.cell (p := ⟨u2.heap.size, 3, none⟩) (by simp), cell_of 3 hn2]; rfl
  clear hb3 hn2 JA2
  go_wp2
  clear m2
  rw [rounds_succ]
  go_wp2_with fail
  refine (CB.out _ J2.out).mono ?_
  rintro e wq ⟨rfl, rfl⟩
  go_wp2_with fail
  refine (CH.out _ J2.out).mono ?_
  rintro e wz ⟨rfl, JZ⟩
  clear kc
  go_wp2
  (try rw [Exit.noGoto_ret])
  go_ret2
  exact ⟨rfl, JZ.out⟩
set_option maxRecDepth 100000 in
set_option maxHeartbeats 8000000 in
theorem xdRead_f_found_same_found_yes (g P B : Nat) (A : Option Addr) (n cap : Nat) (l : List UInt8) (k : Nat) (w : World) (h : Byt w B A n cap l) (hm : n ≤ 40000) (hk : k + 5 ≤ n) (hBg : B ≤ g) (hT : FoldT w) (hTB : 0 < B) (hg : w.heap[g]? = some (.cells #[.bool false, .string ⟨#[]⟩, .string ⟨#[]⟩, .string ⟨#[]⟩] 53)) (hgP : g < P)
    (hP : w.heap[P]? = some (.cells #[.string ⟨#[118, 101, 114, 115, 105, 111, 110]⟩, .func (.func 47) #[] #[], .pointer (some ⟨g, 1, none⟩), .bool true, .string ⟨#[101, 110, 99, 111, 100, 105, 110, 103]⟩, .func (.func 48) #[] #[], .pointer (some ⟨g, 2, none⟩), .bool false, .string ⟨#[115, 116, 97, 110, 100, 97, 108, 111, 110, 101]⟩, .func (.func 49) #[] #[], .pointer (some ⟨g, 3, none⟩), .bool false] 93)) (s0 : List UInt8) (j0 : Nat) (ho0 : partOut verW verB l (k + 5) = some (s0, j0)) (hlt0 : (k + 5) < j0) (hle0 : j0 ≤ n) (ho1 : partOut encW encB l j0 = some ([], j0)) (s2 : List UInt8) (j2 : Nat) (ho2 : partOut aloneW aloneB l j0 = some (s2, j2)) (hlt2 : j0 < j2) (hle2 : j2 ≤ n) (ht : [63, 62].isPrefixOf (l.drop (blankTo l j2)) = true) :
    Calls Tryd.prog 65 #[.slice A n cap, .int .i64 k, .pointer (some ⟨g, 0, none⟩), .slice (some ⟨P, 0, none⟩) 3 3] w fun e w' => e = .returned (.tuple #[.int .i64 ((blankTo l j2 : Int) + 2), .int .i64 0]) ∧ RJ g #[.bool false, .string ⟨s0.toArray⟩, .string ⟨#[]⟩, .string ⟨s2.toArray⟩] w w' := by
  have kc := fun (w : World) (C : Array Value) (n c : Nat) => Lib.run_convert_bytes_const (P := Tryd.prog) w 22 5 C n c Tryd.underlying22 Tryd.underlying5
  have hln := h.length
  have hgl := lt_of hg
  have hPl := lt_of hP
  have HJ : Hid (RJ g #[.bool false, .string ⟨#[]⟩, .string ⟨#[]⟩, .string ⟨#[]⟩] w w) := Lib.hid ⟨Fr.refl _ _ _, hg⟩
  have HX : Hid (∀ vs W, RJ g vs w W → W.cell? ⟨P, 0, none⟩ = some (.string ⟨#[118, 101, 114, 115, 105, 111, 110]⟩) ∧ W.cell? ⟨P, 1, none⟩ = some (.func (.func 47) #[] #[]) ∧ W.cell? ⟨P, 2, none⟩ = some (.pointer (some ⟨g, 1, none⟩)) ∧ W.cell? ⟨P, 3, none⟩ = some (.bool true) ∧ W.cell? ⟨P, 4, none⟩ = some (.string ⟨#[101, 110, 99, 111, 100, 105, 110, 103]⟩) ∧ W.cell? ⟨P, 5, none⟩ = some (.func (.func 48) #[] #[]) ∧ W.cell? ⟨P, 6, none⟩ = some (.pointer (some ⟨g, 2, none⟩)) ∧ W.cell? ⟨P, 7, none⟩ = some (.bool false) ∧ W.cell? ⟨P, 8, none⟩ = some (.string ⟨#[115, 116, 97, 110, 100, 97, 108, 111, 110, 101]⟩) ∧ W.cell? ⟨P, 9, none⟩ = some (.func (.func 49) #[] #[]) ∧ W.cell? ⟨P, 10, none⟩ = some (.pointer (some ⟨g, 3, none⟩)) ∧ W.cell? ⟨P, 11, none⟩ = some (.bool false)) := Lib.hid fun vs W hJ => by
    have hne : P ≠ g := by omega
    refine ⟨?_, ?_, ?_, ?_, ?_, ?_, ?_, ?_, ?_, ?_, ?_, ?_⟩ <;> (rw [hJ.cell hPl hne, cell_of _ hP]; rfl)
  have HB : Hid (∀ vs W, RJ g vs w W → Byt W B A n cap l ∧ B ≤ W.heap.size ∧ FoldT W) := Lib.hid fun vs W hJ => ⟨hJ.byt h hBg (by omega), by have := hJ.1.size; omega, hT.below (hJ.1.below (B := B) (by omega) hBg) hTB⟩
  have P0 : Hid (∀ W, RJ g #[.bool false, .string ⟨#[]⟩, .string ⟨#[]⟩, .string ⟨#[]⟩] w W → Calls Tryd.prog 85 #[.agg #[.string ⟨#[118, 101, 114, 115, 105, 111, 110]⟩, .func (.func 47) #[] #[], .pointer (some ⟨g, 1, none⟩), .bool true], .slice A n cap, .int .i64 ((k + 5) : Nat)] W fun e w' => e = .returned (.tuple #[.int .i64 (j0 : Int), .int .i64 0]) ∧ ∃ w1, Below W.heap.size W w1 ∧ w' = w1.setCell ⟨g, 1, none⟩ (.string ⟨s0.toArray⟩)) := Lib.hid fun W hJ => by
    obtain ⟨hb1, hb2, hb3⟩ := HB.out _ W hJ
    exact (partRead_out (some (s0, j0)) verW 47 verB true g 1 #[.bool false, .string ⟨#[]⟩, .string ⟨#[]⟩, .string ⟨#[]⟩] 53 A n cap l (k + 5) W (hb1.more hb2) hm (by omega) (by decide) (by decide) hJ.2 (by show (1 : Nat) < 4; decide) (enters_of Tryd.func47 (by kernel_rfl) rfl) (fun s hs W' hb => version_c s W' (by omega)) ho0).mono fun e w' hp => hp.found hlt0
  rw [show ((k + 5 : Nat) : Int) = (k : Int) + 5 by omega] at P0
  have P1 : Hid (∀ W, RJ g #[.bool false, .string ⟨s0.toArray⟩, .string ⟨#[]⟩, .string ⟨#[]⟩] w W → Calls Tryd.prog 85 #[.agg #[.string ⟨#[101, 110, 99, 111, 100, 105, 110, 103]⟩, .func (.func 48) #[] #[], .pointer (some ⟨g, 2, none⟩), .bool false], .slice A n cap, .int .i64 (j0 : Nat)] W fun e w' => e = .returned (.tuple #[.int .i64 (j0 : Nat), .int .i64 0]) ∧ Below W.heap.size W w') := Lib.hid fun W hJ => by
    obtain ⟨hb1, hb2, hb3⟩ := HB.out _ W hJ
    exact (partRead_out (some ([], j0)) encW 48 encB false g 2 #[.bool false, .string ⟨s0.toArray⟩, .string ⟨#[]⟩, .string ⟨#[]⟩] 53 A n cap l j0 W (hb1.more hb2) hm (by omega) (by decide) (by decide) hJ.2 (by show (2 : Nat) < 4; decide) (enters_of Tryd.func48 (by kernel_rfl) rfl) (fun s hs W' hb => encoding_c s W' (hb3.below hb hb3.lt)) ho1).mono fun e w' hp => hp.same
  have P2 : Hid (∀ W, RJ g #[.bool false, .string ⟨s0.toArray⟩, .string ⟨#[]⟩, .string ⟨#[]⟩] w W → Calls Tryd.prog 85 #[.agg #[.string ⟨#[115, 116, 97, 110, 100, 97, 108, 111, 110, 101]⟩, .func (.func 49) #[] #[], .pointer (some ⟨g, 3, none⟩), .bool false], .slice A n cap, .int .i64 (j0 : Nat)] W fun e w' => e = .returned (.tuple #[.int .i64 (j2 : Int), .int .i64 0]) ∧ ∃ w1, Below W.heap.size W w1 ∧ w' = w1.setCell ⟨g, 3, none⟩ (.string ⟨s2.toArray⟩)) := Lib.hid fun W hJ => by
    obtain ⟨hb1, hb2, hb3⟩ := HB.out _ W hJ
    exact (partRead_out (some (s2, j2)) aloneW 49 aloneB false g 3 #[.bool false, .string ⟨s0.toArray⟩, .string ⟨#[]⟩, .string ⟨#[]⟩] 53 A n cap l j0 W (hb1.more hb2) hm (by omega) (by decide) (by decide) hJ.2 (by show (3 : Nat) < 4; decide) (enters_of Tryd.func49 (by kernel_rfl) rfl) (fun s hs W' hb => (alone_c s W').mono fun e w' ⟨he, hw⟩ => ⟨he, hw ▸ Below.refl _ _⟩) ho2).mono fun e w' hp => hp.found hlt2
  have CB : Hid (∀ W, RJ g #[.bool false, .string ⟨s0.toArray⟩, .string ⟨#[]⟩, .string ⟨s2.toArray⟩] w W → Calls Tryd.prog 31 #[.slice A n cap, .int .i64 (j2 : Nat)] W fun e w' => e = .returned (.int .i64 (blankTo l j2)) ∧ W = w') := Lib.hid fun W hJ => blanks_c A n cap l j2 _ W (HB.out _ W hJ).1 (by omega) (by omega)
  have hbl := blankTo_le l j2 (by omega)
  have CH : Hid (∀ W, RJ g #[.bool false, .string ⟨s0.toArray⟩, .string ⟨#[]⟩, .string ⟨s2.toArray⟩] w W → Calls Tryd.prog 69 #[.slice (cutA A cap (blankTo l j2)) (n - blankTo l j2) (cap - blankTo l j2), .slice (some ⟨W.heap.size, 0, none⟩) 2 2] (W.alloc (.cells #[.int .u8 63, .int .u8 62] 5 (2, 3))) fun e w' => e = .returned (.bool true) ∧ Hid (RJ g #[.bool false, .string ⟨s0.toArray⟩, .string ⟨#[]⟩, .string ⟨s2.toArray⟩] w w')) := Lib.hid fun W hJ => by
    have ka := alloc_const W [63, 62] (2, 3) (by decide)
    obtain ⟨hb1, hb2, _⟩ := HB.out _ W hJ
    have := hasPrefix_c _ _ _ _ _ _ _ _ (W.alloc (.cells #[.int .u8 63, .int .u8 62] 5 (2, 3))) _ _ (((hb1.more hb2).below ka.1).drop (k := blankTo l j2) (by omega)) ka.2
    rw [ht] at this
    exact this.mono fun e w' ⟨he, hw⟩ => ⟨he, Lib.hid (hw ▸ hJ.kept ka.1)⟩
  have hrb : ∀ W : World, (Instr.slice 22 (.slice A n cap) (some (.int .i64 (blankTo l j2 : Nat))) none none).run Tryd.prog W = .ok (.slice (cutA A cap (blankTo l j2)) (n - blankTo l j2) (cap - blankTo l j2)) W := fun W => run_from A n cap (blankTo l j2) (by omega)
  have hbi : (blankTo l j2 : Int) ≤ 40000 := by omega
  generalize hbt : blankTo l j2 = bt at *
  have hk0 : (0 : Int) ≤ (k : Int) := by omega
  have hk1 : (k : Int) ≤ 40000 := by omega
  have e0 : ((j0 : Int) == (k : Int) + 5) = false := by simp; omega
  have e2 : ((j2 : Int) == (j0 : Int)) = false := by simp; omega
  clear h hT hTB hg hP hln hBg HB hk hm hPl hgP ho0 ho1 ho2 hlt0 hle0 hlt2 hle2 ht hbl hbt
  go_enter Tryd.func65, Tryd.ntmps65
  go_wp2_with fail
  go_step3
  go_wp2_with fail
  go_step3
  go_wp2_with fail
  refine wp_loop_rounds 4 ?_
  rw [rounds_succ]
  obtain ⟨x0, x1, x2, x3, x4, x5, x6, x7, x8, x9, x10, x11⟩ := HX.out _ _ HJ.out
  clear x4 x5 x6 x7 x8 x9 x10 x11
  have hn0 := hp_new w (.cells #[.string ⟨#[118, 101, 114, 115, 105, 111, 110]⟩, .func (.func 47) #[] #[], .pointer (some ⟨g, 1, none⟩), .bool true] 93)
  have JA0 := Lib.hid (HJ.out.kept ((Below.refl _ w).alloc (Nat.le_refl _) (.cells #[.string ⟨#[118, 101, 114, 115, 105, 111, 110]⟩, .func (.func 47) #[] #[], .pointer (some ⟨g, 1, none⟩), .bool true] 93)))
  go_wp2_with fail
  clear x0 x1 x2 x3
  refine (P0.out _ JA0.out).mono ?_
  rintro e w1 ⟨rfl, v1, hb1, rfl⟩
  have J0 : Hid (RJ g #[.bool false, .string ⟨s0.toArray⟩, .string ⟨#[]⟩, .string ⟨#[]⟩] w (v1.setCell ⟨g, 1, none⟩ (.string ⟨s0.toArray⟩))) := Lib.hid ((JA0.out.kept hb1).set 1 (.string ⟨s0.toArray⟩))
  clear hb1 hn0 JA0
  generalize v1.setCell ⟨g, 1, none⟩ (.string ⟨s0.toArray⟩) = u1 at *
  go_wp2
  rw [rounds_succ]
  obtain ⟨x0, x1, x2, x3, x4, x5, x6, x7, x8, x9, x10, x11⟩ := HX.out _ _ J0.out
  clear x0 x1 x2 x3 x8 x9 x10 x11
  have hn1 := hp_new u1 (.cells #[.string ⟨#[101, 110, 99, 111, 100, 105, 110, 103]⟩, .func (.func 48) #[] #[], .pointer (some ⟨g, 2, none⟩), .bool false] 93)
  have JA1 := Lib.hid (J0.out.kept ((Below.refl _ u1).alloc (Nat.le_refl _) (.cells #[.string ⟨#[101, 110, 99, 111, 100, 105, 110, 103]⟩, .func (.func 48) #[] #[], .pointer (some ⟨g, 2, none⟩), .bool false] 93)))
  go_wp2_with fail
  clear x4 x5 x6 x7
  refine (P1.out _ JA1.out).mono ?_
  rintro e u2 ⟨rfl, hb2⟩
  have J1 := Lib.hid (JA1.out.kept hb2)
  have m1 : u2.cell? ⟨u1.heap.size, 3, none⟩ = some (.bool false) := by rw [hb2.cell (p := ⟨u1.heap.size, 3, none⟩) (by simp), cell_of 3 hn1]; rfl
  clear hb2 hn1 JA1
  go_wp2
  clear m1
  rw [rounds_succ]
  obtain ⟨x0, x1, x2, x3, x4, x5, x6, x7, x8, x9, x10, x11⟩ := HX.out _ _ J1.out
  clear x0 x1 x2 x3 x4 x5 x6 x7
  have hn2 := hp_new u2 (.cells #[.string ⟨#[115, 116, 97, 110, 100, 97, 108, 111, 110, 101]⟩, .func (.func 49) #[] #[], .pointer (some ⟨g, 3, none⟩), .bool false] 93)
  have JA2 := Lib.hid (J1.out.kept ((Below.refl _ u2).alloc (Nat.le_refl _) (.cells #[.string ⟨#[115, 116, 97, 110, 100, 97, 108, 111, 110, 101]⟩, .func (.func 49) #[] #[], .pointer (some ⟨g, 3, none⟩), .bool false] 93)))
  go_wp2_with fail
  clear x8 x9 x10 x11
  refine (P2.out _ JA2.out).mono ?_
  rintro e w3 ⟨rfl, v3, hb3, rfl⟩
  have J2 : Hid (RJ g #[.bool false, .string ⟨s0.toArray⟩, .string ⟨#[]⟩, .string ⟨s2.toArray⟩] w (v3.setCell ⟨g, 3, none⟩ (.string ⟨s2.toArray⟩))) := Lib.hid ((JA2.out.kept hb3).set 3 (.string ⟨s2.toArray⟩))
  clear hb3 hn2 JA2
  generalize v3.setCell ⟨g, 3, none⟩ (.string ⟨s2.toArray⟩) = u3 at *
  go_wp2
  rw [rounds_succ]
  go_wp2_with fail
  refine (CB.out _ J2.out).mono ?_
  rintro e wq ⟨rfl, rfl⟩
  go_wp2_with fail
  refine (CH.out _ J2.out).mono ?_
  rintro e wz ⟨rfl, JZ⟩
  clear kc
  go_wp2
  (try rw [Exit.noGoto_ret])
  go_ret2
  exact ⟨rfl, JZ.out⟩
set_option maxRecDepth 100000 in
set_option maxHeartbeats 8000000 in
theorem xdRead_f_found_same_found_no (g P B : Nat) (A : Option Addr) (n cap : Nat) (l : List UInt8) (k : Nat) (w : World) (h : Byt w B A n cap l) (hm : n ≤ 40000) (hk : k + 5 ≤ n) (hBg : B ≤ g) (hT : FoldT w) (hTB : 0 < B) (hg : w.heap[g]? = some (.cells #[.bool false, .string ⟨#[]⟩, .string ⟨#[]⟩, .string ⟨#[]⟩] 53)) (hgP : g < P)
    (hP : w.heap[P]? = some (.cells #[.string ⟨#[118, 101, 114, 115, 105, 111, 110]⟩, .func (.func 47) #[] #[], .pointer (some ⟨g, 1, none⟩), .bool true, .string ⟨#[101, 110, 99, 111, 100, 105, 110, 103]⟩, .func (.func 48) #[] #[], .pointer (some ⟨g, 2, none⟩), .bool false, .string ⟨#[115, 116, 97, 110, 100, 97, 108, 111, 110, 101]⟩, .func (.func 49) #[] #[], .pointer (some ⟨g, 3, none⟩), .bool false] 93)) (s0 : List UInt8) (j0 : Nat) (ho0 : partOut verW verB l (k + 5) = some (s0, j0)) (hlt0 : (k + 5) < j0) (hle0 : j0 ≤ n) (ho1 : partOut encW encB l j0 = some ([], j0)) (s2 : List UInt8) (j2 : Nat) (ho2 : partOut aloneW aloneB l j0 = some (s2, j2)) (hlt2 : j0 < j2) (hle2 : j2 ≤ n) (ht : [63, 62].isPrefixOf (l.drop (blankTo l j2)) = false) :
    Calls Tryd.prog 65 #[.slice A n cap, .int .i64 k, .pointer (some ⟨g, 0, none⟩), .slice (some ⟨P, 0, none⟩) 3 3] w fun e w' => e = .returned (.tuple #[.int .i64 0, .int .i64 7]) ∧ RJ g #[.bool false, .string ⟨s0.toArray⟩, .string ⟨#[]⟩, .string ⟨s2.toArray⟩] w w' := by
  have kc := fun (w : World) (C : Array Value) (n c : Nat) => Lib.run_convert_bytes_const (P := Tryd.prog) w 22 5 C n c Tryd.underlying22 Tryd.underlying5
  have hln := h.length
  have hgl := lt_of hg
  have hPl := lt_of hP
  have HJ : Hid (RJ g #[.bool false, .string ⟨#[]⟩, .string ⟨#[]⟩, .string ⟨#[]⟩] w w) := Lib.hid ⟨Fr.refl _ _ _, hg⟩
  have HX : Hid (∀ vs W, RJ g vs w W → W.cell? ⟨P, 0, none⟩ = some (.string ⟨#[118, 101, 114, 115, 105, 111, 110]⟩) ∧ W.cell? ⟨P, 1, none⟩ = some (.func (.func 47) #[] #[]) ∧ W.cell? ⟨P, 2, none⟩ = some (.pointer (some ⟨g, 1, none⟩)) ∧ W.cell? ⟨P, 3, none⟩ = some (.bool true) ∧ W.cell? ⟨P, 4, none⟩ = some (.string ⟨#[101, 110, 99, 111, 100, 105, 110, 103]⟩) ∧ W.cell? ⟨P, 5, none⟩ = some (.func (.func 48) #[] #[]) ∧ W.cell? ⟨P, 6, none⟩ = some (.pointer (some ⟨g, 2, none⟩)) ∧ W.cell? ⟨P, 7, none⟩ = some (.bool false) ∧ W.cell? ⟨P, 8, none⟩ = some (.string ⟨#[115, 116, 97, 110, 100, 97, 108, 111, 110, 101]⟩) ∧ W.cell? ⟨P, 9, none⟩ = some (.func (.func 49) #[] #[]) ∧ W.cell? ⟨P, 10, none⟩ = some (.pointer (some ⟨g, 3, none⟩)) ∧ W.cell? ⟨P, 11, none⟩ = some (.bool false)) := Lib.hid fun vs W hJ => by
    have hne : P ≠ g := by omega
    refine ⟨?_, ?_, ?_, ?_, ?_, ?_, ?_, ?_, ?_, ?_, ?_, ?_⟩ <;> (rw [hJ.cell hPl hne, cell_of _ hP]; rfl)
  have HB : Hid (∀ vs W, RJ g vs w W → Byt W B A n cap l ∧ B ≤ W.heap.size ∧ FoldT W) := Lib.hid fun vs W hJ => ⟨hJ.byt h hBg (by omega), by have := hJ.1.size; omega, hT.below (hJ.1.below (B := B) (by omega) hBg) hTB⟩
  have P0 : Hid (∀ W, RJ g #[.bool false, .string ⟨#[]⟩, .string ⟨#[]⟩, .string ⟨#[]⟩] w W → Calls Tryd.prog 85 #[.agg #[.string ⟨#[118, 101, 114, 115, 105, 111, 110]⟩, .func (.func 47) #[] #[], .pointer (some ⟨g, 1, none⟩), .bool true], .slice A n cap, .int .i64 ((k + 5) : Nat)] W fun e w' => e = .returned (.tuple #[.int .i64 (j0 : Int), .int .i64 0]) ∧ ∃ w1, Below W.heap.size W w1 ∧ w' = w1.setCell ⟨g, 1, none⟩ (.string ⟨s0.toArray⟩)) := Lib.hid fun W hJ => by
    obtain ⟨hb1, hb2, hb3⟩ := HB.out _ W hJ
    exact (partRead_out (some (s0, j0)) verW 47 verB true g 1 #[.bool false, .string ⟨#[]⟩, .string ⟨#[]⟩, .string ⟨#[]⟩] 53 A n cap l (k + 5) W (hb1.more hb2) hm (by omega) (by decide) (by decide) hJ.2 (by show (1 : Nat) < 4; decide) (enters_of Tryd.func47 (by kernel_rfl) rfl) (fun s hs W' hb => version_c s W' (by omega)) ho0).mono fun e w' hp => hp.found hlt0
  rw [show ((k + 5 : Nat) : Int) = (k : Int) + 5 by omega] at P0
  have P1 : Hid (∀ W, RJ g #[.bool false, .string ⟨s0.toArray⟩, .string ⟨#[]⟩, .string ⟨#[]⟩] w W → Calls Tryd.prog 85 #[.agg #[.string ⟨#[101, 110, 99, 111, 100, 105, 110, 103]⟩, .func (.func 48) #[] #[], .pointer (some ⟨g, 2, none⟩), .bool false], .slice A n cap, .int .i64 (j0 : Nat)] W fun e w' => e = .returned (.tuple #[.int .i64 (j0 : Nat), .int .i64 0]) ∧ Below W.heap.size W w') := Lib.hid fun W hJ => by
    obtain ⟨hb1, hb2, hb3⟩ := HB.out _ W hJ
    exact (partRead_out (some ([], j0)) encW 48 encB false g 2 #[.bool false, .string ⟨s0.toArray⟩, .string ⟨#[]⟩, .string ⟨#[]⟩] 53 A n cap l j0 W (hb1.more hb2) hm (by omega) (by decide) (by decide) hJ.2 (by show (2 : Nat) < 4; decide) (enters_of Tryd.func48 (by kernel_rfl) rfl) (fun s hs W' hb => encoding_c s W' (hb3.below hb hb3.lt)) ho1).mono fun e w' hp => hp.same
  have P2 : Hid (∀ W, RJ g #[.bool false, .string ⟨s0.toArray⟩, .string ⟨#[]⟩, .string ⟨#[]⟩] w W → Calls Tryd.prog 85 #[.agg #[.string ⟨#[115, 116, 97, 110, 100, 97, 108, 111, 110, 101]⟩, .func (.func 49) #[] #[], .pointer (some ⟨g, 3, none⟩), .bool false], .slice A n cap, .int .i64 (j0 : Nat)] W fun e w' => e = .returned (.tuple #[.int .i64 (j2 : Int), .int .i64 0]) ∧ ∃ w1, Below W.heap.size W w1 ∧ w' = w1.setCell ⟨g, 3, none⟩ (.string ⟨s2.toArray⟩)) := Lib.hid fun W hJ => by
    obtain ⟨hb1, hb2, hb3⟩ := HB.out _ W hJ
    exact (partRead_out (some (s2, j2)) aloneW 49 aloneB false g 3 #[.bool false, .string ⟨s0.toArray⟩, .string ⟨#[]⟩, .string ⟨#[]⟩] 53 A n cap l j0 W (hb1.more hb2) hm (by omega) (by decide) (by decide) hJ.2 (by show (3 : Nat) < 4; decide) (enters_of Tryd.func49 (by kernel_rfl) rfl) (fun s hs W' hb => (alone_c s W').mono fun e w' ⟨he, hw⟩ => ⟨he, hw ▸ Below.refl _ _⟩) ho2).mono fun e w' hp => hp.found hlt2
  have CB : Hid (∀ W, RJ g #[.bool false, .string ⟨s0.toArray⟩, .string ⟨#[]⟩, .string ⟨s2.toArray⟩] w W → Calls Tryd.prog 31 #[.slice A n cap, .int .i64 (j2 : Nat)] W fun e w' => e = .returned (.int .i64 (blankTo l j2)) ∧ W = w') := Lib.hid fun W hJ => blanks_c A n cap l j2 _ W (HB.out _ W hJ).1 (by omega) (by omega)
  have hbl := blankTo_le l j2 (by omega)
  have CH : Hid (∀ W, RJ g #[.bool false, .string ⟨s0.toArray⟩, .string ⟨#[]⟩, .string ⟨s2.toArray⟩] w W → Calls Tryd.prog 69 #[.slice (cutA A cap (blankTo l j2)) (n - blankTo l j2) (cap - blankTo l j2), .slice (some ⟨W.heap.size, 0, none⟩) 2 2] (W.alloc (.cells #[.int .u8 63, .int .u8 62] 5 (2, 3))) fun e w' => e = .returned (.bool false) ∧ Hid (RJ g #[.bool false, .string ⟨s0.toArray⟩, .string ⟨#[]⟩, .string ⟨s2.toArray⟩] w w')) := Lib.hid fun W hJ => by
    have ka := alloc_const W [63, 62] (2, 3) (by decide)
    obtain ⟨hb1, hb2, _⟩ := HB.out _ W hJ
    have := hasPrefix_c _ _ _ _ _ _ _ _ (W.alloc (.cells #[.int .u8 63, .int .u8 62] 5 (2, 3))) _ _ (((hb1.more hb2).below ka.1).drop (k := blankTo l j2) (by omega)) ka.2
    rw [ht] at this
    exact this.mono fun e w' ⟨he, hw⟩ => ⟨he, Lib.hid (hw ▸ hJ.kept ka.1)⟩
  have hrb : ∀ W : World, (Instr.slice 22 (.slice A n cap) (some (.int .i64 (blankTo l j2 : Nat))) none none).run Tryd.prog W = .ok (.slice (cutA A cap (blankTo l j2)) (n - blankTo l j2) (cap - blankTo l j2)) W := fun W => run_from A n cap (blankTo l j2) (by omega)
  have hbi : (blankTo l j2 : Int) ≤ 40000 := by omega
  generalize hbt : blankTo l j2 = bt at *
  have hk0 : (0 : Int) ≤ (k : Int) := by omega
  have hk1 : (k : Int) ≤ 40000 := by omega
  have e0 : ((j0 : Int) == (k : Int) + 5) = false := by simp; omega
  have e2 : ((j2 : Int) == (j0 : Int)) = false := by simp; omega
  clear h hT hTB hg hP hln hBg HB hk hm hPl hgP ho0 ho1 ho2 hlt0 hle0 hlt2 hle2 ht hbl hbt
  go_enter Tryd.func65, Tryd.ntmps65
  go_wp2_with fail
  go_step3
  go_wp2_with fail
  go_step3
  go_wp2_with fail
  refine wp_loop_rounds 4 ?_
  rw [rounds_succ]
  obtain ⟨x0, x1, x2, x3, x4, x5, x6, x7, x8, x9, x10, x11⟩ := HX.out _ _ HJ.out
  clear x4 x5 x6 x7 x8 x9 x10 x11
  have hn0 := hp_new w (.cells #[.string ⟨#[118, 101, 114, 115, 105, 111, 110]⟩, .func (.func 47) #[] #[], .pointer (some ⟨g, 1, none⟩), .bool true] 93)
  have JA0 := Lib.hid (HJ.out.kept ((Below.refl _ w).alloc (Nat.le_refl _) (.cells #[.string ⟨#[118, 101, 114, 115, 105, 111, 110]⟩, .func (.func 47) #[] #[], .pointer (some ⟨g, 1, none⟩), .bool true] 93)))
  go_wp2_with fail
  clear x0 x1 x2 x3
  refine (P0.out _ JA0.out).mono ?_
  rintro e w1 ⟨rfl, v1, hb1, rfl⟩
  have J0 : Hid (RJ g #[.bool false, .string ⟨s0.toArray⟩, .string ⟨#[]⟩, .string ⟨#[]⟩] w (v1.setCell ⟨g, 1, none⟩ (.string ⟨s0.toArray⟩))) := Lib.hid ((JA0.out.kept hb1).set 1 (.string ⟨s0.toArray⟩))
  clear hb1 hn0 JA0
  generalize v1.setCell ⟨g, 1, none⟩ (.string ⟨s0.toArray⟩) = u1 at *
  go_wp2
  rw [rounds_succ]
  obtain ⟨x0, x1, x2, x3, x4, x5, x6, x7, x8, x9, x10, x11⟩ := HX.out _ _ J0.out
  clear x0 x1 x2 x3 x8 x9 x10 x11
  have hn1 := hp_new u1 (.cells #[.string ⟨#[101, 110, 99, 111, 100, 105, 110, 103]⟩, .func (.func 48) #[] #[], .pointer (some ⟨g, 2, none⟩), .bool false] 93)
  have JA1 := Lib.hid (J0.out.kept ((Below.refl _ u1).alloc (Nat.le_refl _) (.cells #[.string ⟨#[101, 110, 99, 111, 100, 105, 110, 103]⟩, .func (.func 48) #[] #[], .pointer (some ⟨g, 2, none⟩), .bool false] 93)))
  go_wp2_with fail
  clear x4 x5 x6 x7
  refine (P1.out _ JA1.out).mono ?_
  rintro e u2 ⟨rfl, hb2⟩
  have J1 := Lib.hid (JA1.out.kept hb2)
  have m1 : u2.cell? ⟨u1.heap.size, 3, none⟩ = some (.bool false) := by rw [hb2.cell (p := ⟨u1.heap.size, 3, none⟩) (by simp), cell_of 3 hn1]; rfl
  clear hb2 hn1 JA1
  go_wp2
  clear m1
  rw [rounds_succ]
  obtain ⟨x0, x1, x2, x3, x4, x5, x6, x7, x8, x9, x10, x11⟩ := HX.out _ _ J1.out
  clear x0 x1 x2 x3 x4 x5 x6 x7
  have hn2 := hp_new u2 (.cells #[.string ⟨#[115, 116, 97, 110, 100, 97, 108, 111, 110, 101]⟩, .func (.func 49) #[] #[], .pointer (some ⟨g, 3, none⟩), .bool false] 93)
  have JA2 := Lib.hid (J1.out.kept ((Below.refl _ u2).alloc (Nat.le_refl _) (.cells #[.string ⟨#[115, 116, 97, 110, 100, 97, 108, 111, 110, 101]⟩, .func (.func 49) #[] #[], .pointer (some ⟨g, 3, none⟩), .bool false] 93)))
  go_wp2_with fail
  clear x8 x9 x10 x11
  refine (P2.out _ JA2.out).mono ?_
  rintro e w3 ⟨rfl, v3, hb3, rfl⟩
  have J2 : Hid (RJ g #[.bool false, .string ⟨s0.toArray⟩, .string ⟨#[]⟩, .string ⟨s2.toArray⟩] w (v3.setCell ⟨g, 3, none⟩ (.string ⟨s2.toArray⟩))) := Lib.hid ((JA2.out.kept hb3).set 3 (.string ⟨s2.toArray⟩))
  clear hb3 hn2 JA2
  generalize v3.setCell ⟨g, 3, none⟩ (.string ⟨s2.toArray⟩) = u3 at *
  go_wp2
  rw [rounds_succ]
  go_wp2_with fail
  refine (CB.out _ J2.out).mono ?_
  rintro e wq ⟨rfl, rfl⟩
  go_wp2_with fail
  refine (CH.out _ J2.out).mono ?_
  rintro e wz ⟨rfl, JZ⟩
  clear kc
  go_wp2
  (try rw [Exit.noGoto_ret])
  go_ret2
  exact ⟨rfl, JZ.out⟩
set_option maxRecDepth 100000 in
set_option maxHeartbeats 8000000 in
theorem xdRead_f_found_found_none (g P B : Nat) (A : Option Addr) (n cap : Nat) (l : List UInt8) (k : Nat) (w : World) (h : Byt w B A n cap l) (hm : n ≤ 40000) (hk : k + 5 ≤ n) (hBg : B ≤ g) (hT : FoldT w) (hTB : 0 < B) (hg : w.heap[g]? = some (.cells #[.bool false, .string ⟨#[]⟩, .string ⟨#[]⟩, .string ⟨#[]⟩] 53)) (hgP : g < P)
    (hP : w.heap[P]? = some (.cells #[.string ⟨#[118, 101, 114, 115, 105, 111, 110]⟩, .func (.func 47) #[] #[], .pointer (some ⟨g, 1, none⟩), .bool true, .string ⟨#[101, 110, 99, 111, 100, 105, 110, 103]⟩, .func (.func 48) #[] #[], .pointer (some ⟨g, 2, none⟩), .bool false, .string ⟨#[115, 116, 97, 110, 100, 97, 108, 111, 110, 101]⟩, .func (.func 49) #[] #[], .pointer (some ⟨g, 3, none⟩), .bool false] 93)) (s0 : List UInt8) (j0 : Nat) (ho0 : partOut verW verB l (k + 5) = some (s0, j0)) (hlt0 : (k + 5) < j0) (hle0 : j0 ≤ n) (s1 : List UInt8) (j1 : Nat) (ho1 : partOut encW encB l j0 = some (s1, j1)) (hlt1 : j0 < j1) (hle1 : j1 ≤ n) (ho2 : partOut aloneW aloneB l j1 = none) :
    Calls Tryd.prog 65 #[.slice A n cap, .int .i64 k, .pointer (some ⟨g, 0, none⟩), .slice (some ⟨P, 0, none⟩) 3 3] w fun e w' => e = .returned (.tuple #[.int .i64 0, .int .i64 7]) ∧ RJ g #[.bool false, .string ⟨s0.toArray⟩, .string ⟨s1.toArray⟩, .string ⟨#[]⟩] w w' := by
  have hln := h.length
  have hgl := lt_of hg
  have hPl := lt_of hP
  have HJ : Hid (RJ g #[.bool false, .string ⟨#[]⟩, .string ⟨#[]⟩, .string ⟨#[]⟩] w w) := Lib.hid ⟨Fr.refl _ _ _, hg⟩
  have HX : Hid (∀ vs W, RJ g vs w W → W.cell? ⟨P, 0, none⟩ = some (.string ⟨#[118, 101, 114, 115, 105, 111, 110]⟩) ∧ W.cell? ⟨P, 1, none⟩ = some (.func (.func 47) #[] #[]) ∧ W.cell? ⟨P, 2, none⟩ = some (.pointer (some ⟨g, 1, none⟩)) ∧ W.cell? ⟨P, 3, none⟩ = some (.bool true) ∧ W.cell? ⟨P, 4, none⟩ = some (.string ⟨#[101, 110, 99, 111, 100, 105, 110, 103]⟩) ∧ W.cell? ⟨P, 5, none⟩ = some (.func (.func 48) #[] #[]) ∧ W.cell? ⟨P, 6, none⟩ = some (.pointer (some ⟨g, 2, none⟩)) ∧ W.cell? ⟨P, 7, none⟩ = some (.bool false) ∧ W.cell? ⟨P, 8, none⟩ = some (.string ⟨#[115, 116, 97, 110, 100, 97, 108, 111, 110, 101]⟩) ∧ W.cell? ⟨P, 9, none⟩ = some (.func (.func 49) #[] #[]) ∧ W.cell? ⟨P, 10, none⟩ = some (.pointer (some ⟨g, 3, none⟩)) ∧ W.cell? ⟨P, 11, none⟩ = some (.bool false)) := Lib.hid fun vs W hJ => by
    have hne : P ≠ g := by omega
    refine ⟨?_, ?_, ?_, ?_, ?_, ?_, ?_, ?_, ?_, ?_, ?_, ?_⟩ <;> (rw [hJ.cell hPl hne, cell_of _ hP]; rfl)
  have HB : Hid (∀ vs W, RJ g vs w W → Byt W B A n cap l ∧ B ≤ W.heap.size ∧ FoldT W) := Lib.hid fun vs W hJ => ⟨hJ.byt h hBg (by omega), by have := hJ.1.size; omega, hT.below (hJ.1.below (B := B) (by omega) hBg) hTB⟩
  have P0 : Hid (∀ W, RJ g #[.bool false, .string ⟨#[]⟩, .string ⟨#[]⟩, .string ⟨#[]⟩] w W → Calls Tryd.prog 85 #[.agg #[.string ⟨#[118, 101, 114, 115, 105, 111, 110]⟩, .func (.func 47) #[] #[], .pointer (some ⟨g, 1, none⟩), .bool true], .slice A n cap, .int .i64 ((k + 5) : Nat)] W fun e w' => e = .returned (.tuple #[.int .i64 (j0 : Int), .int .i64 0]) ∧ ∃ w1, Below W.heap.size W w1 ∧ w' = w1.setCell ⟨g, 1, none⟩ (.string ⟨s0.toArray⟩)) := Lib.hid fun W hJ => by
    obtain ⟨hb1, hb2, hb3⟩ := HB.out _ W hJ
    exact (partRead_out (some (s0, j0)) verW 47 verB true g 1 #[.bool false, .string ⟨#[]⟩, .string ⟨#[]⟩, .string ⟨#[]⟩] 53 A n cap l (k + 5) W (hb1.more hb2) hm (by omega) (by decide) (by decide) hJ.2 (by show (1 : Nat) < 4; decide) (enters_of Tryd.func47 (by kernel_rfl) rfl) (fun s hs W' hb => version_c s W' (by omega)) ho0).mono fun e w' hp => hp.found hlt0
  rw [show ((k + 5 : Nat) : Int) = (k : Int) + 5 by omega] at P0
  have P1 : Hid (∀ W, RJ g #[.bool false, .string ⟨s0.toArray⟩, .string ⟨#[]⟩, .string ⟨#[]⟩] w W → Calls Tryd.prog 85 #[.agg #[.string ⟨#[101, 110, 99, 111, 100, 105, 110, 103]⟩, .func (.func 48) #[] #[], .pointer (some ⟨g, 2, none⟩), .bool false], .slice A n cap, .int .i64 (j0 : Nat)] W fun e w' => e = .returned (.tuple #[.int .i64 (j1 : Int), .int .i64 0]) ∧ ∃ w1, Below W.heap.size W w1 ∧ w' = w1.setCell ⟨g, 2, none⟩ (.string ⟨s1.toArray⟩)) := Lib.hid fun W hJ => by
    obtain ⟨hb1, hb2, hb3⟩ := HB.out _ W hJ
    exact (partRead_out (some (s1, j1)) encW 48 encB false g 2 #[.bool false, .string ⟨s0.toArray⟩, .string ⟨#[]⟩, .string ⟨#[]⟩] 53 A n cap l j0 W (hb1.more hb2) hm (by omega) (by decide) (by decide) hJ.2 (by show (2 : Nat) < 4; decide) (enters_of Tryd.func48 (by kernel_rfl) rfl) (fun s hs W' hb => encoding_c s W' (hb3.below hb hb3.lt)) ho1).mono fun e w' hp => hp.found hlt1
  have P2 : Hid (∀ W, RJ g #[.bool false, .string ⟨s0.toArray⟩, .string ⟨s1.toArray⟩, .string ⟨#[]⟩] w W → Calls Tryd.prog 85 #[.agg #[.string ⟨#[115, 116, 97, 110, 100, 97, 108, 111, 110, 101]⟩, .func (.func 49) #[] #[], .pointer (some ⟨g, 3, none⟩), .bool false], .slice A n cap, .int .i64 (j1 : Nat)] W fun e w' => e = .returned (.tuple #[.int .i64 0, .int .i64 7]) ∧ Below W.heap.size W w') := Lib.hid fun W hJ => by
    obtain ⟨hb1, hb2, hb3⟩ := HB.out _ W hJ
    exact (partRead_out (none) aloneW 49 aloneB false g 3 #[.bool false, .string ⟨s0.toArray⟩, .string ⟨s1.toArray⟩, .string ⟨#[]⟩] 53 A n cap l j1 W (hb1.more hb2) hm (by omega) (by decide) (by decide) hJ.2 (by show (3 : Nat) < 4; decide) (enters_of Tryd.func49 (by kernel_rfl) rfl) (fun s hs W' hb => (alone_c s W').mono fun e w' ⟨he, hw⟩ => ⟨he, hw ▸ Below.refl _ _⟩) ho2).mono fun e w' hp => hp
  have hk0 : (0 : Int) ≤ (k : Int) := by omega
  have hk1 : (k : Int) ≤ 40000 := by omega
  have e0 : ((j0 : Int) == (k : Int) + 5) = false := by simp; omega
  have e1 : ((j1 : Int) == (j0 : Int)) = false := by simp; omega
  clear h hT hTB hg hP hln hBg HB hk hm hPl hgP ho0 ho1 ho2 hlt0 hle0 hlt1 hle1
  go_enter Tryd.func65, Tryd.ntmps65
  go_wp2_with fail
  go_step3
  go_wp2_with fail
  go_step3
  go_wp2_with fail
  refine wp_loop_rounds 4 ?_
  rw [rounds_succ]
  obtain ⟨x0, x1, x2, x3, x4, x5, x6, x7, x8, x9, x10, x11⟩ := HX.out _ _ HJ.out
  clear x4 x5 x6 x7 x8 x9 x10 x11
  have hn0 := hp_new w (.cells #[.string ⟨#[118, 101, 114, 115, 105, 111, 110]⟩, .func (.func 47) #[] #[], .pointer (some ⟨g, 1, none⟩), .bool true] 93)
  have JA0 := Lib.hid (HJ.out.kept ((Below.refl _ w).alloc (Nat.le_refl _) (.cells #[.string ⟨#[118, 101, 114, 115, 105, 111, 110]⟩, .func (.func 47) #[] #[], .pointer (some ⟨g, 1, none⟩), .bool true] 93)))
  go_wp2_with fail
  clear x0 x1 x2 x3
  refine (P0.out _ JA0.out).mono ?_
  rintro e w1 ⟨rfl, v1, hb1, rfl⟩
  have J0 : Hid (RJ g #[.bool false, .string ⟨s0.toArray⟩, .string ⟨#[]⟩, .string ⟨#[]⟩] w (v1.setCell ⟨g, 1, none⟩ (.string ⟨s0.toArray⟩))) := Lib.hid ((JA0.out.kept hb1).set 1 (.string ⟨s0.toArray⟩))
  clear hb1 hn0 JA0
  generalize v1.setCell ⟨g, 1, none⟩ (.string ⟨s0.toArray⟩) = u1 at *
  go_wp2
  rw [rounds_succ]
  obtain ⟨x0, x1, x2, x3, x4, x5, x6, x7, x8, x9, x10, x11⟩ := HX.out _ _ J0.out
  clear x0 x1 x2 x3 x8 x9 x10 x11
  have hn1 := hp_new u1 (.cells #[.string ⟨#[101, 110, 99, 111, 100, 105, 110, 103]⟩, .func (.func 48) #[] #[], .pointer (some ⟨g, 2, none⟩), .bool false] 93)
  have JA1 := Lib.hid (J0.out.kept ((Below.refl _ u1).alloc (Nat.le_refl _) (.cells #[.string ⟨#[101, 110, 99, 111, 100, 105, 110, 103]⟩, .func (.func 48) #[] #[], .pointer (some ⟨g, 2, none⟩), .bool false] 93)))
  go_wp2_with fail
  clear x4 x5 x6 x7
  refine (P1.out _ JA1.out).mono ?_
  rintro e w2 ⟨rfl, v2, hb2, rfl⟩
  have J1 : Hid (RJ g #[.bool false, .string ⟨s0.toArray⟩, .string ⟨s1.toArray⟩, .string ⟨#[]⟩] w (v2.setCell ⟨g, 2, none⟩ (.string ⟨s1.toArray⟩))) := Lib.hid ((JA1.out.kept hb2).set 2 (.string ⟨s1.toArray⟩))
  clear hb2 hn1 JA1
  generalize v2.setCell ⟨g, 2, none⟩ (.string ⟨s1.toArray⟩) = u2 at *
  go_wp2
  rw [rounds_succ]
  obtain ⟨x0, x1, x2, x3, x4, x5, x6, x7, x8, x9, x10, x11⟩ := HX.out _ _ J1.out
  clear x0 x1 x2 x3 x4 x5 x6 x7
  have hn2 := hp_new u2 (.cells #[.string ⟨#[115, 116, 97, 110, 100, 97, 108, 111, 110, 101]⟩, .func (.func 49) #[] #[], .pointer (some ⟨g, 3, none⟩), .bool false] 93)
  have JA2 := Lib.hid (J1.out.kept ((Below.refl _ u2).alloc (Nat.le_refl _) (.cells #[.string ⟨#[115, 116, 97, 110, 100, 97, 108, 111, 110, 101]⟩, .func (.func 49) #[] #[], .pointer (some ⟨g, 3, none⟩), .bool false] 93)))
  go_wp2_with fail
  clear x8 x9 x10 x11
  refine (P2.out _ JA2.out).mono ?_
  rintro e u3 ⟨rfl, hb3⟩
  have J2 := Lib.hid (JA2.out.kept hb3)
  clear hb3 hn2 JA2
  go_wp2
  (try rw [Exit.noGoto_ret])
  go_ret2
  exact ⟨rfl, J2.out⟩
set_option maxRecDepth 100000 in
set_option maxHeartbeats 8000000 in
theorem xdRead_f_found_found_same_yes (g P B : Nat) (A : Option Addr) (n cap : Nat) (l : List UInt8) (k : Nat) (w : World) (h : Byt w B A n cap l) (hm : n ≤ 40000) (hk : k + 5 ≤ n) (hBg : B ≤ g) (hT : FoldT w) (hTB : 0 < B) (hg : w.heap[g]? = some (.cells #[.bool false, .string ⟨#[]⟩, .string ⟨#[]⟩, .string ⟨#[]⟩] 53)) (hgP : g < P)
    (hP : w.heap[P]? = some (.cells #[.string ⟨#[118, 101, 114, 115, 105, 111, 110]⟩, .func (.func 47) #[] #[], .pointer (some ⟨g, 1, none⟩), .bool true, .string ⟨#[101, 110, 99, 111, 100, 105, 110, 103]⟩, .func (.func 48) #[] #[], .pointer (some ⟨g, 2, none⟩), .bool false, .string ⟨#[115, 116, 97, 110, 100, 97, 108, 111, 110, 101]⟩, .func (.func 49) #[] #[], .pointer (some ⟨g, 3, none⟩), .bool false] 93)) (s0 : List UInt8) (j0 : Nat) (ho0 : partOut verW verB l (k + 5) = some (s0, j0)) (hlt0 : (k + 5) < j0) (hle0 : j0 ≤ n) (s1 : List UInt8) (j1 : Nat) (ho1 : partOut encW encB l j0 = some (s1, j1)) (hlt1 : j0 < j1) (hle1 : j1 ≤ n) (ho2 : partOut aloneW aloneB l j1 = some ([], j1)) (ht : [63, 62].isPrefixOf (l.drop (blankTo l j1)) = true) :
    Calls Tryd.prog 65 #[.slice A n cap, .int .i64 k, .pointer (some ⟨g, 0, none⟩), .slice (some ⟨P, 0, none⟩) 3 3] w fun e w' => e = .returned (.tuple #[.int .i64 ((blankTo l j1 : Int) + 2), .int .i64 0]) ∧ RJ g #[.bool false, .string ⟨s0.toArray⟩, .string ⟨s1.toArray⟩, .string ⟨#[]⟩] w w' := by
  have kc := fun (w : World) (C : Array Value) (n c : Nat) => Lib.run_convert_bytes_const (P := Tryd.prog) w 22 5 C n c Tryd.underlying22 Tryd.underlying5
  have hln := h.length
  have hgl := lt_of hg
  have hPl := lt_of hP
  have HJ : Hid (RJ g #[.bool false, .string ⟨#[]⟩, .string ⟨#[]⟩, .string ⟨#[]⟩] w w) := Lib.hid ⟨Fr.refl _ _ _, hg⟩
  have HX : Hid (∀ vs W, RJ g vs w W → W.cell? ⟨P, 0, none⟩ = some (.string ⟨#[118, 101, 114, 115, 105, 111, 110]⟩) ∧ W.cell? ⟨P, 1, none⟩ = some (.func (.func 47) #[] #[]) ∧ W.cell? ⟨P, 2, none⟩ = some (.pointer (some ⟨g, 1, none⟩)) ∧ W.cell? ⟨P, 3, none⟩ = some (.bool true) ∧ W.cell? ⟨P, 4, none⟩ = some (.string ⟨#[101, 110, 99, 111, 100, 105, 110, 103]⟩) ∧ W.cell? ⟨P, 5, none⟩ = some (.func (.func 48) #[] #[]) ∧ W.cell? ⟨P, 6, none⟩ = some (.pointer (some ⟨g, 2, none⟩)) ∧ W.cell? ⟨P, 7, none⟩ = some (.bool false) ∧ W.cell? ⟨P, 8, none⟩ = some (.string ⟨#[115, 116, 97, 110, 100, 97, 108, 111, 110, 101]⟩) ∧ W.cell? ⟨P, 9, none⟩ = some (.func (.func 49) #[] #[]) ∧ W.cell? ⟨P, 10, none⟩ = some (.pointer (some ⟨g, 3, none⟩)) ∧ W.cell? ⟨P, 11, none⟩ = some (.bool false)) := Lib.hid fun vs W hJ => by
    have hne : P ≠ g := by omega
    refine ⟨?_, ?_, ?_, ?_, ?_, ?_, ?_, ?_, ?_, ?_, ?_, ?_⟩ <;> (rw [hJ.cell hPl hne, cell_of _ hP]; rfl)
  have HB : Hid (∀ vs W, RJ g vs w W → Byt W B A n cap l ∧ B ≤ W.heap.size ∧ FoldT W) := Lib.hid fun vs W hJ => ⟨hJ.byt h hBg (by omega), by have := hJ.1.size; omega, hT.below (hJ.1.below (B := B) (by omega) hBg) hTB⟩
  have P0 : Hid (∀ W, RJ g #[.bool false, .string ⟨#[]⟩, .string ⟨#[]⟩, .string ⟨#[]⟩] w W → Calls Tryd.prog 85 #[.agg #[.string ⟨#[118, 101, 114, 115, 105, 111, 110]⟩, .func (.func 47) #[] #[], .pointer (some ⟨g, 1, none⟩), .bool true], .slice A n cap, .int .i64 ((k + 5) : Nat)] W fun e w' => e = .returned (.tuple #[.int .i64 (j0 : Int), .int .i64 0]) ∧ ∃ w1, Below W.heap.size W w1 ∧ w' = w1.setCell ⟨g, 1, none⟩ (.string ⟨s0.toArray⟩)) := Lib.hid fun W hJ => by
    obtain ⟨hb1, hb2, hb3⟩ := HB.out _ W hJ
    exact (partRead_out (some (s0, j0)) verW 47 verB true g 1 #[.bool false, .string ⟨#[]⟩, .string ⟨#[]⟩, .string ⟨#[]⟩] 53 A n cap l (k + 5) W (hb1.more hb2) hm (by omega) (by decide) (by decide) hJ.2 (by show (1 : Nat) < 4; decide) (enters_of Tryd.func47 (by kernel_rfl) rfl) (fun s hs W' hb => version_c s W' (by omega)) ho0).mono fun e w' hp => hp.found hlt0
  rw [show ((k + 5 : Nat) : Int) = (k : Int) + 5 by omega] at P0
  have P1 : Hid (∀ W, RJ g #[.bool false, .string ⟨s0.toArray⟩, .string ⟨#[]⟩, .string ⟨#[]⟩] w W → Calls Tryd.prog 85 #[.agg #[.string ⟨#[101, 110, 99, 111, 100, 105, 110, 103]⟩, .func (.func 48) #[] #[], .pointer (some ⟨g, 2, none⟩), .bool false], .slice A n cap, .int .i64 (j0 : Nat)] W fun e w' => e = .returned (.tuple #[.int .i64 (j1 : Int), .int .i64 0]) ∧ ∃ w1, Below W.heap.size W w1 ∧ w' = w1.setCell ⟨g, 2, none⟩ (.string ⟨s1.toArray⟩)) := Lib.hid fun W hJ => by
    obtain ⟨hb1, hb2, hb3⟩ := HB.out _ W hJ
    exact (partRead_out (some (s1, j1)) encW 48 encB false g 2 #[.bool false, .string ⟨s0.toArray⟩, .string ⟨#[]⟩, .string ⟨#[]⟩] 53 A n cap l j0 W (hb1.more hb2) hm (by omega) (by decide) (by decide) hJ.2 (by show (2 : Nat) < 4; decide) (enters_of Tryd.func48 (by kernel_rfl) rfl) (fun s hs W' hb => encoding_c s W' (hb3.below hb hb3.lt)) ho1).mono fun e w' hp => hp.found hlt1
  have P2 : Hid (∀ W, RJ g #[.bool false, .string ⟨s0.toArray⟩, .string ⟨s1.toArray⟩, .string ⟨#[]⟩] w W → Calls Tryd.prog 85 #[.agg #[.string ⟨#[115, 116, 97, 110, 100, 97, 108, 111, 110, 101]⟩, .func (.func 49) #[] #[], .pointer (some ⟨g, 3, none⟩), .bool false], .slice A n cap, .int .i64 (j1 : Nat)] W fun e w' => e = .returned (.tuple #[.int .i64 (j1 : Nat), .int .i64 0]) ∧ Below W.heap.size W w') := Lib.hid fun W hJ => by
    obtain ⟨hb1, hb2, hb3⟩ := HB.out _ W hJ
    exact (partRead_out (some ([], j1)) aloneW 49 aloneB false g 3 #[.bool false, .string ⟨s0.toArray⟩, .string ⟨s1.toArray⟩, .string ⟨#[]⟩] 53 A n cap l j1 W (hb1.more hb2) hm (by omega) (by decide) (by decide) hJ.2 (by show (3 : Nat) < 4; decide) (enters_of Tryd.func49 (by kernel_rfl) rfl) (fun s hs W' hb => (alone_c s W').mono fun e w' ⟨he, hw⟩ => ⟨he, hw ▸ Below.refl _ _⟩) ho2).mono fun e w' hp => hp.same
  have CB : Hid (∀ W, RJ g #[.bool false, .string ⟨s0.toArray⟩, .string ⟨s1.toArray⟩, .string ⟨#[]⟩] w W → Calls Tryd.prog 31 #[.slice A n cap, .int .i64 (j1 : Nat)] W fun e w' => e = .returned (.int .i64 (blankTo l j1)) ∧ W = w') := Lib.hid fun W hJ => blanks_c A n cap l j1 _ W (HB.out _ W hJ).1 (by omega) (by omega)
  have hbl := blankTo_le l j1 (by omega)
  have CH : Hid (∀ W, RJ g #[.bool false, .string ⟨s0.toArray⟩, .string ⟨s1.toArray⟩, .string ⟨#[]⟩] w W → Calls Tryd.prog 69 #[.slice (cutA A cap (blankTo l j1)) (n - blankTo l j1) (cap - blankTo l j1), .slice (some ⟨W.heap.size, 0, none⟩) 2 2] (W.alloc (.cells #[.int .u8 63, .int .u8 62] 5 (2, 3))) fun e w' => e = .returned (.bool true) ∧ Hid (RJ g #[.bool false, .string ⟨s0.toArray⟩, .string ⟨s1.toArray⟩, .string ⟨#[]⟩] w w')) := Lib.hid fun W hJ => by
    have ka := alloc_const W [63, 62] (2, 3) (by decide)
    obtain ⟨hb1, hb2, _⟩ := HB.out _ W hJ
    have := hasPrefix_c _ _ _ _ _ _ _ _ (W.alloc (.cells #[.int .u8 63, .int .u8 62] 5 (2, 3))) _ _ (((hb1.more hb2).below ka.1).drop (k := blankTo l j1) (by omega)) ka.2
    rw [ht] at this
    exact this.mono fun e w' ⟨he, hw⟩ => ⟨he, Lib.hid (hw ▸ hJ.kept ka.1)⟩
  have hrb : ∀ W : World, (Instr.slice 22 (.slice A n cap) (some (.int .i64 (blankTo l j1 : Nat))) none none).run Tryd.prog W = .ok (.slice (cutA A cap (blankTo l j1)) (n - blankTo l j1) (cap - blankTo l j1)) W := fun W => run_from A n cap (blankTo l j1) (by omega)
  have hbi : (blankTo l j1 : Int) ≤ 40000 := by omega
  generalize hbt : blankTo l j1 = bt at *
  have hk0 : (0 : Int) ≤ (k : Int) := by omega
  have hk1 : (k : Int) ≤ 40000 := by omega
  have e0 : ((j0 : Int) == (k : Int) + 5) = false := by simp; omega
  have e1 : ((j1 : Int) == (j0 : Int)) = false := by simp; omega
  clear h hT hTB hg hP hln hBg HB hk hm hPl hgP ho0 ho1 ho2 hlt0 hle0 hlt1 hle1 ht hbl hbt
  go_enter Tryd.func65, Tryd.ntmps65
  go_wp2_with fail
  go_step3
  go_wp2_with fail
  go_step3
  go_wp2_with fail
  refine wp_loop_rounds 4 ?_
  rw [rounds_succ]
  obtain ⟨x0, x1, x2, x3, x4, x5, x6, x7, x8, x9, x10, x11⟩ := HX.out _ _ HJ.out
  clear x4 x5 x6 x7 x8 x9 x10 x11
  have hn0 := hp_new w (.cells #[.string ⟨#[118, 101, 114, 115, 105, 111, 110]⟩, .func (.func 47) #[] #[], .pointer (some ⟨g, 1, none⟩), .bool true] 93)
  have JA0 := Lib.hid (HJ.out.kept ((Below.refl _ w).alloc (Nat.le_refl _) (.cells #[.string ⟨#[118, 101, 114, 115, 105, 111, 110]⟩, .func (.func 47) #[] #[], .pointer (some ⟨g, 1, none⟩), .bool true] 93)))
  go_wp2_with fail
  clear x0 x1 x2 x3
  refine (P0.out _ JA0.out).mono ?_
  rintro e w1 ⟨rfl, v1, hb1, rfl⟩
  have J0 : Hid (RJ g #[.bool false, .string ⟨s0.toArray⟩, .string ⟨#[]⟩, .string ⟨#[]⟩] w (v1.setCell ⟨g, 1, none⟩ (.string ⟨s0.toArray⟩))) := Lib.hid ((JA0.out.kept hb1).set 1 (.string ⟨s0.toArray⟩))
  clear hb1 hn0 JA0
  generalize v1.setCell ⟨g, 1, none⟩ (.string ⟨s0.toArray⟩) = u1 at *
  go_wp2
  rw [rounds_succ]
  obtain ⟨x0, x1, x2, x3, x4, x5, x6, x7, x8, x9, x10, x11⟩ := HX.out _ _ J0.out
  clear x0 x1 x2 x3 x8 x9 x10 x11
  have hn1 := hp_new u1 (.cells #[.string ⟨#[101, 110, 99, 111, 100, 105, 110, 103]⟩, .func (.func 48) #[] #[], .pointer (some ⟨g, 2, none⟩), .bool false] 93)
  have JA1 := Lib.hid (J0.out.kept ((Below.refl _ u1).alloc (Nat.le_refl _) (.cells #[.string ⟨#[101, 110, 99, 111, 100, 105, 110, 103]⟩, .func (.func 48) #[] #[], .pointer (some ⟨g, 2, none⟩), .bool false] 93)))
  go_wp2_with fail
  clear x4 x5 x6 x7
  refine (P1.out _ JA1.out).mono ?_
  rintro e w2 ⟨rfl, v2, hb2, rfl⟩
  have J1 : Hid (RJ g #[.bool false, .string ⟨s0.toArray⟩, .string ⟨s1.toArray⟩, .string ⟨#[]⟩] w (v2.setCell ⟨g, 2, none⟩ (.string ⟨s1.toArray⟩))) := Lib.hid ((JA1.out.kept hb2).set 2 (.string ⟨s1.toArray⟩))
  clear hb2 hn1 JA1
  generalize v2.setCell ⟨g, 2, none⟩ (.string ⟨s1.toArray⟩) = u2 at *
  go_wp2
  rw [rounds_succ]
  obtain ⟨x0, x1, x2, x3, x4, x5, x6, x7, x8, x9, x10, x11⟩ := HX.out _ _ J1.out
  clear x0 x1 x2 x3 x4 x5 x6 x7
  have hn2 := hp_new u2 (.cells #[.string ⟨#[115, 116, 97, 110, 100, 97, 108, 111, 110, 101]⟩, .func (.func 49) #[] #[], .pointer (some ⟨g, 3, none⟩), .bool false] 93)
  have JA2 := Lib.hid (J1.out.kept ((Below.refl _ u2).alloc (Nat.le_refl _) (.cells #[.string ⟨#[115, 116, 97, 110, 100, 97, 108, 111, 110, 101]⟩, .func (.func 49) #[] #[], .pointer (some ⟨g, 3, none⟩), .bool false] 93)))
  go_wp2_with fail
  clear x8 x9 x10 x11
  refine (P2.out _ JA2.out).mono ?_
  rintro e u3 ⟨rfl, hb3⟩
  have J2 := Lib.hid (JA2.out.kept hb3)
  have m2 : u3.cell? ⟨u2.heap.size, 3, none⟩ = some (.bool false) := by rw [hb3.cell (p := ⟨u2.heap.size, 3, none⟩) (by simp), cell_of 3 hn2]; rfl
  clear hb3 hn2 JA2
  go_wp2
  clear m2
  rw [rounds_succ]
  go_wp2_with fail
  refine (CB.out _ J2.out).mono ?_
  rintro e wq ⟨rfl, rfl⟩
  go_wp2_with fail
  refine (CH.out _ J2.out).mono ?_
  rintro e wz ⟨rfl, JZ⟩
  clear kc
  go_wp2
  (try rw [Exit.noGoto_ret])
  go_ret2
  exact ⟨rfl, JZ.out⟩
set_option maxRecDepth 100000 in
set_option maxHeartbeats 8000000 in
theorem xdRead_f_found_found_same_no (g P B : Nat) (A : Option Addr) (n cap : Nat) (l : List UInt8) (k : Nat) (w : World) (h : Byt w B A n cap l) (hm : n ≤ 40000) (hk : k + 5 ≤ n) (hBg : B ≤ g) (hT : FoldT w) (hTB : 0 < B) (hg : w.heap[g]? = some (.cells #[.bool false, .string ⟨#[]⟩, .string ⟨#[]⟩, .string ⟨#[]⟩] 53)) (hgP : g < P)
    (hP : w.heap[P]? = some (.cells #[.string ⟨#[118, 101, 114, 115, 105, 111, 110]⟩, .func (.func 47) #[] #[], .pointer (some ⟨g, 1, none⟩), .bool true, .string ⟨#[101, 110, 99, 111, 100, 105, 110, 103]⟩, .func (.func 48) #[] #[], .pointer (some ⟨g, 2, none⟩), .bool false, .string ⟨#[115, 116, 97, 110, 100, 97, 108, 111, 110, 101]⟩, .func (.func 49) #[] #[], .pointer (some ⟨g, 3, none⟩), .bool false] 93)) (s0 : List UInt8) (j0 : Nat) (ho0 : partOut verW verB l (k + 5) = some (s0, j0)) (hlt0 : (k + 5) < j0) (hle0 : j0 ≤ n) (s1 : List UInt8) (j1 : Nat) (ho1 : partOut encW encB l j0 = some (s1, j1)) (hlt1 : j0 < j1) (hle1 : j1 ≤ n) (ho2 : partOut aloneW aloneB l j1 = some ([], j1)) (ht : [63, 62].isPrefixOf (l.drop (blankTo l j1)) = false) :
    Calls Tryd.prog 65 #[.slice A n cap, .int .i64 k, .pointer (some ⟨g, 0, none⟩), .slice (some ⟨P, 0, none⟩) 3 3] w fun e w' => e = .returned (.tuple #[.int .i64 0, .int .i64 7]) ∧ RJ g #[.bool false, .string ⟨s0.toArray⟩, .string ⟨s1.toArray⟩, .string ⟨#[]⟩] w w' := by
  have kc := fun (w : World) (C : Array Value) (n c : Nat) => Lib.run_convert_bytes_const (P := Tryd.prog) w 22 5 C n c Tryd.underlying22 Tryd.underlying5
  have hln := h.length
  have hgl := lt_of hg
  have hPl := lt_of hP
  have HJ : Hid (RJ g #[.bool false, .string ⟨#[]⟩, .string ⟨#[]⟩, .string ⟨#[]⟩] w w) := Lib.hid ⟨Fr.refl _ _ _, hg⟩
  have HX : Hid (∀ vs W, RJ g vs w W → W.cell? ⟨P, 0, none⟩ = some (.string ⟨#[118, 101, 114, 115, 105, 111, 110]⟩) ∧ W.cell? ⟨P, 1, none⟩ = some (.func (.func 47) #[] #[]) ∧ W.cell? ⟨P, 2, none⟩ = some (.pointer (some ⟨g, 1, none⟩)) ∧ W.cell? ⟨P, 3, none⟩ = some (.bool true) ∧ W.cell? ⟨P, 4, none⟩ = some (.string ⟨#[101, 110, 99, 111, 100, 105, 110, 103]⟩) ∧ W.cell? ⟨P, 5, none⟩ = some (.func (.func 48) #[] #[]) ∧ W.cell? ⟨P, 6, none⟩ = some (.pointer (some ⟨g, 2, none⟩)) ∧ W.cell? ⟨P, 7, none⟩ = some (.bool false) ∧ W.cell? ⟨P, 8, none⟩ = some (.string ⟨#[115, 116, 97, 110, 100, 97, 108, 111, 110, 101]⟩) ∧ W.cell? ⟨P, 9, none⟩ = some (.func (.func 49) #[] #[]) ∧ W.cell? ⟨P, 10, none⟩ = some (.pointer (some ⟨g, 3, none⟩)) ∧ W.cell? ⟨P, 11, none⟩ = some (.bool false)) := Lib.hid fun vs W hJ => by
    have hne : P ≠ g := by omega
    refine ⟨?_, ?_, ?_, ?_, ?_, ?_, ?_, ?_, ?_, ?_, ?_, ?_⟩ <;> (rw [hJ.cell hPl hne, cell_of _ hP]; rfl)
  have HB : Hid (∀ vs W, RJ g vs w W → Byt W B A n cap l ∧ B ≤ W.heap.size ∧ FoldT W) := Lib.hid fun vs W hJ => ⟨hJ.byt h hBg (by omega), by have := hJ.1.size; omega, hT.below (hJ.1.below (B := B) (by omega) hBg) hTB⟩
  have P0 : Hid (∀ W, RJ g #[.bool false, .string ⟨#[]⟩, .string ⟨#[]⟩, .string ⟨#[]⟩] w W → Calls Tryd.prog 85 #[.agg #[.string ⟨#[118, 101, 114, 115, 105, 111, 110]⟩, .func (.func 47) #[] #[], .pointer (some ⟨g, 1, none⟩), .bool true], .slice A n cap, .int .i64 ((k + 5) : Nat)] W fun e w' => e = .returned (.tuple #[.int .i64 (j0 : Int), .int .i64 0]) ∧ ∃ w1, Below W.heap.size W w1 ∧ w' = w1.setCell ⟨g, 1, none⟩ (.string ⟨s0.toArray⟩)) := Lib.hid fun W hJ => by
    obtain ⟨hb1, hb2, hb3⟩ := HB.out _ W hJ
    exact (partRead_out (some (s0, j0)) verW 47 verB true g 1 #[.bool false, .string ⟨#[]⟩, .string ⟨#[]⟩, .string ⟨#[]⟩] 53 A n cap l (k + 5) W (hb1.more hb2) hm (by omega) (by decide) (by decide) hJ.2 (by show (1 : Nat) < 4; decide) (enters_of Tryd.func47 (by kernel_rfl) rfl) (fun s hs W' hb => version_c s W' (by omega)) ho0).mono fun e w' hp => hp.found hlt0
  rw [show ((k + 5 : Nat) : Int) = (k : Int) + 5 by omega] at P0
  have P1 : Hid (∀ W, RJ g #[.bool false, .string ⟨s0.toArray⟩, .string ⟨#[]⟩, .string ⟨#[]⟩] w W → Calls Tryd.prog 85 #[.agg #[.string ⟨#[101, 110, 99, 111, 100, 105, 110, 103]⟩, .func (.func 48) #[] #[], .pointer (some ⟨g, 2, none⟩), .bool false], .slice A n cap, .int .i64 (j0 : Nat)] W fun e w' => e = .returned (.tuple #[.int .i64 (j1 : Int), .int .i64 0]) ∧ ∃ w1, Below W.heap.size W w1 ∧ w' = w1.setCell ⟨g, 2, none⟩ (.string ⟨s1.toArray⟩)) := Lib.hid fun W hJ => by
    obtain ⟨hb1, hb2, hb3⟩ := HB.out _ W hJ
    exact (partRead_out (some (s1, j1)) encW 48 encB false g 2 #[.bool false, .string ⟨s0.toArray⟩, .string ⟨#[]⟩, .string ⟨#[]⟩] 53 A n cap l j0 W (hb1.more hb2) hm (by omega) (by decide) (by decide) hJ.2 (by show (2 : Nat) < 4; decide) (enters_of Tryd.func48 (by kernel_rfl) rfl) (fun s hs W' hb => encoding_c s W' (hb3.below hb hb3.lt)) ho1).mono fun e w' hp => hp.found hlt1
  have P2 : Hid (∀ W, RJ g #[.bool false, .string ⟨s0.toArray⟩, .string ⟨s1.toArray⟩, .string ⟨#[]⟩] w W → Calls Tryd.prog 85 #[.agg #[.string ⟨#[115, 116, 97, 110, 100, 97, 108, 111, 110, 101]⟩, .func (.func 49) #[] #[], .pointer (some ⟨g, 3, none⟩), .bool false], .slice A n cap, .int .i64 (j1 : Nat)] W fun e w' => e = .returned (.tuple #[.int .i64 (j1 : Nat), .int .i64 0]) ∧ Below W.heap.size W w') := Lib.hid fun W hJ => by
    obtain ⟨hb1, hb2, hb3⟩ := HB.out _ W hJ
    exact (partRead_out (some ([], j1)) aloneW 49 aloneB false g 3 #[.bool false, .string ⟨s0.toArray⟩, .string ⟨s1.toArray⟩, .string ⟨#[]⟩] 53 A n cap l j1 W (hb1.more hb2) hm (by omega) (by decide) (by decide) hJ.2 (by show (3 : Nat) < 4; decide) (enters_of Tryd.func49 (by kernel_rfl) rfl) (fun s hs W' hb => (alone_c s W').mono fun e w' ⟨he, hw⟩ => ⟨he, hw ▸ Below.refl _ _⟩) ho2).mono fun e w' hp => hp.same
  have CB : Hid (∀ W, RJ g #[.bool false, .string ⟨s0.toArray⟩, .string ⟨s1.toArray⟩, .string ⟨#[]⟩] w W → Calls Tryd.prog 31 #[.slice A n cap, .int .i64 (j1 : Nat)] W fun e w' => e = .returned (.int .i64 (blankTo l j1)) ∧ W = w') := Lib.hid fun W hJ => blanks_c A n cap l j1 _ W (HB.out _ W hJ).1 (by omega) (by omega)
  have hbl := blankTo_le l j1 (by omega)
  have CH : Hid (∀ W, RJ g #[.bool false, .string ⟨s0.toArray⟩, .string ⟨s1.toArray⟩, .string ⟨#[]⟩] w W → Calls Tryd.prog 69 #[.slice (cutA A cap (blankTo l j1)) (n - blankTo l j1) (cap - blankTo l j1), .slice (some ⟨W.heap.size, 0, none⟩) 2 2] (W.alloc (.cells #[.int .u8 63, .int .u8 62] 5 (2, 3))) fun e w' => e = .returned (.bool false) ∧ Hid (RJ g #[.bool false, .string ⟨s0.toArray⟩, .string ⟨s1.toArray⟩, .string ⟨#[]⟩] w w')) := Lib.hid fun W hJ => by
    have ka := alloc_const W [63, 62] (2, 3) (by decide)
    obtain ⟨hb1, hb2, _⟩ := HB.out _ W hJ
    have := hasPrefix_c _ _ _ _ _ _ _ _ (W.alloc (.cells #[.int .u8 63, .int .u8 62] 5 (2, 3))) _ _ (((hb1.more hb2).below ka.1).drop (k := blankTo l j1) (by omega)) ka.2
    rw [ht] at this
    exact this.mono fun e w' ⟨he, hw⟩ => ⟨he, Lib.hid (hw ▸ hJ.kept ka.1)⟩
  have hrb : ∀ W : World, (Instr.slice 22 (.slice A n cap) (some (.int .i64 (blankTo l j1 : Nat))) none none).run Tryd.prog W = .ok (.slice (cutA A cap (blankTo l j1)) (n - blankTo l j1) (cap - blankTo l j1)) W := fun W => run_from A n cap (blankTo l j1) (by omega)
  have hbi : (blankTo l j1 : Int) ≤ 40000 := by omega
  generalize hbt : blankTo l j1 = bt at *
  have hk0 : (0 : Int) ≤ (k : Int) := by omega
  have hk1 : (k : Int) ≤ 40000 := by omega
  have e0 : ((j0 : Int) == (k : Int) + 5) = false := by simp; omega
  have e1 : ((j1 : Int) == (j0 : Int)) = false := by simp; omega
  clear h hT hTB hg hP hln hBg HB hk hm hPl hgP ho0 ho1 ho2 hlt0 hle0 hlt1 hle1 ht hbl hbt
  go_enter Tryd.func65, Tryd.ntmps65
  go_wp2_with fail
  go_step3
  go_wp2_with fail
  go_step3
  go_wp2_with fail
  refine wp_loop_rounds 4 ?_
  rw [rounds_succ]
  obtain ⟨x0, x1, x2, x3, x4, x5, x6, x7, x8, x9, x10, x11⟩ := HX.out _ _ HJ.out
  clear x4 x5 x6 x7 x8 x9 x10 x11
  have hn0 := hp_new w (.cells #[.string ⟨#[118, 101, 114, 115, 105, 111, 110]⟩, .func (.func 47) #[] #[], .pointer (some ⟨g, 1, none⟩), .bool true] 93)
  have JA0 := Lib.hid (HJ.out.kept ((Below.refl _ w).alloc (Nat.le_refl _) (.cells #[.string ⟨#[118, 101, 114, 115, 105, 111, 110]⟩, .func (.func 47) #[] #[], .pointer (some ⟨g, 1, none⟩), .bool true] 93)))
  go_wp2_with fail
  clear x0 x1 x2 x3
  refine (P0.out _ JA0.out).mono ?_
  rintro e w1 ⟨rfl, v1, hb1, rfl⟩
  have J0 : Hid (RJ g #[.bool false, .string ⟨s0.toArray⟩, .string ⟨#[]⟩, .string ⟨#[]⟩] w (v1.setCell ⟨g, 1, none⟩ (.string ⟨s0.toArray⟩))) := Lib.hid ((JA0.out.kept hb1).set 1 (.string ⟨s0.toArray⟩))
  clear hb1 hn0 JA0
  generalize v1.setCell ⟨g, 1, none⟩ (.string ⟨s0.toArray⟩) = u1 at *
  go_wp2
  rw [rounds_succ]
  obtain ⟨x0, x1, x2, x3, x4, x5, x6, x7, x8, x9, x10, x11⟩ := HX.out _ _ J0.out
  clear x0 x1 x2 x3 x8 x9 x10 x11
  have hn1 := hp_new u1 (.cells #[.string ⟨#[101, 110, 99, 111, 100, 105, 110, 103]⟩, .func (.func 48) #[] #[], .pointer (some ⟨g, 2, none⟩), .bool false] 93)
  have JA1 := Lib.hid (J0.out.kept ((Below.refl _ u1).alloc (Nat.le_refl _) (.cells #[.string ⟨#[101, 110, 99, 111, 100, 105, 110, 103]⟩, .func (.func 48) #[] #[], .pointer (some ⟨g, 2, none⟩), .bool false] 93)))
  go_wp2_with fail
  clear x4 x5 x6 x7
  refine (P1.out _ JA1.out).mono ?_
  rintro e w2 ⟨rfl, v2, hb2, rfl⟩
  have J1 : Hid (RJ g #[.bool false, .string ⟨s0.toArray⟩, .string ⟨s1.toArray⟩, .string ⟨#[]⟩] w (v2.setCell ⟨g, 2, none⟩ (.string ⟨s1.toArray⟩))) := Lib.hid ((JA1.out.kept hb2).set 2 (.string ⟨s1.toArray⟩))
  clear hb2 hn1 JA1
  generalize v2.setCell ⟨g, 2, none⟩ (.string ⟨s1.toArray⟩) = u2 at *
  go_wp2
  rw [rounds_succ]
  obtain ⟨x0, x1, x2, x3, x4, x5, x6, x7, x8, x9, x10, x11⟩ := HX.out _ _ J1.out
  clear x0 x1 x2 x3 x4 x5 x6 x7
  have hn2 := hp_new u2 (.cells #[.string ⟨#[115, 116, 97, 110, 100, 97, 108, 111, 110, 101]⟩, .func (.func 49) #[] #[], .pointer (some ⟨g, 3, none⟩), .bool false] 93)
  have JA2 := Lib.hid (J1.out.kept ((Below.refl _ u2).alloc (Nat.le_refl _) (.cells #[.string ⟨#[115, 116, 97, 110, 100, 97, 108, 111, 110, 101]⟩, .func (.func 49) #[] #[], .pointer (some ⟨g, 3, none⟩), .bool false] 93)))
  go_wp2_with fail
  clear x8 x9 x10 x11
  refine (P2.out _ JA2.out).mono ?_
  rintro e u3 ⟨rfl, hb3⟩
  have J2 := Lib.hid (JA2.out.kept hb3)
  have m2 : u3.cell? ⟨u2.heap.size, 3, none⟩ = some (.bool false) := by rw [hb3.cell (p := ⟨u2.heap.size, 3, none⟩) (by simp), cell_of 3 hn2]; rfl
  clear hb3 hn2 JA2
  go_wp2
  clear m2
  rw [rounds_succ]
  go_wp2_with fail
  refine (CB.out _ J2.out).mono ?_
  rintro e wq ⟨rfl, rfl⟩
  go_wp2_with fail
  refine (CH.out _ J2.out).mono ?_
  rintro e wz ⟨rfl, JZ⟩
  clear kc
  go_wp2
  (try rw [Exit.noGoto_ret])
  go_ret2
  exact ⟨rfl, JZ.out⟩
set_option maxRecDepth 100000 in
set_option maxHeartbeats 8000000 in
theorem xdRead_f_found_found_found_yes (g P B : Nat) (A : Option Addr) (n cap : Nat) (l : List UInt8) (k : Nat) (w : World) (h : Byt w B A n cap l) (hm : n ≤ 40000) (hk : k + 5 ≤ n) (hBg : B ≤ g) (hT : FoldT w) (hTB : 0 < B) (hg : w.heap[g]? = some (.cells #[.bool false, .string ⟨#[]⟩, .string ⟨#[]⟩, .string ⟨#[]⟩] 53)) (hgP : g < P)
    (hP : w.heap[P]? = some (.cells #[.string ⟨#[118, 101, 114, 115, 105, 111, 110]⟩, .func (.func 47) #[] #[], .pointer (some ⟨g, 1, none⟩), .bool true, .string ⟨#[101, 110, 99, 111, 100, 105, 110, 103]⟩, .func (.func 48) #[] #[], .pointer (some ⟨g, 2, none⟩), .bool false, .string ⟨#[115, 116, 97, 110, 100, 97, 108, 111, 110, 101]⟩, .func (.func 49) #[] #[], .pointer (some ⟨g, 3, none⟩), .bool false] 93)) (s0 : List UInt8) (j0 : Nat) (ho0 : partOut verW verB l (k + 5) = some (s0, j0)) (hlt0 : (k + 5) < j0) (hle0 : j0 ≤ n) (s1 : List UInt8) (j1 : Nat) (ho1 : partOut encW encB l j0 = some (s1, j1)) (hlt1 : j0 < j1) (hle1 : j1 ≤ n) (s2 : List UInt8) (j2 : Nat) (ho2 : partOut aloneW aloneB l j1 = some (s2, j2)) (hlt2 : j1 < j2) (hle2 : j2 ≤ n) (ht : [63, 62].isPrefixOf (l.drop (blankTo l j2)) = true) :
    Calls Tryd.prog 65 #[.slice A n cap, .int .i64 k, .pointer (some ⟨g, 0, none⟩), .slice (some ⟨P, 0, none⟩) 3 3] w fun e w' => e = .returned (.tuple #[.int .i64 ((blankTo l j2 : Int) + 2), .int .i64 0]) ∧ RJ g #[.bool false, .string ⟨s0.toArray⟩, .string ⟨s1.toArray⟩, .string ⟨s2.toArray⟩] w w' := by
  have kc := fun (w : World) (C : Array Value) (n c : Nat) => Lib.run_convert_bytes_const (P := Tryd.prog) w 22 5 C n c Tryd.underlying22 Tryd.underlying5
  have hln := h.length
  have hgl := lt_of hg
  have hPl := lt_of hP
  have HJ : Hid (RJ g #[.bool false, .string ⟨#[]⟩, .string ⟨#[]⟩, .string ⟨#[]⟩] w w) := Lib.hid ⟨Fr.refl _ _ _, hg⟩
  have HX : Hid (∀ vs W, RJ g vs w W → W.cell? ⟨P, 0, none⟩ = some (.string ⟨#[118, 101, 114, 115, 105, 111, 110]⟩) ∧ W.cell? ⟨P, 1, none⟩ = some (.func (.func 47) #[] #[]) ∧ W.cell? ⟨P, 2, none⟩ = some (.pointer (some ⟨g, 1, none⟩)) ∧ W.cell? ⟨P, 3, none⟩ = some (.bool true) ∧ W.cell? ⟨P, 4, none⟩ = some (.string ⟨#[101, 110, 99, 111, 100, 105, 110, 103]⟩) ∧ W.cell? ⟨P, 5, none⟩ = some (.func (.func 48) #[] #[]) ∧ W.cell? ⟨P, 6, none⟩ = some (.pointer (some ⟨g, 2, none⟩)) ∧ W.cell? ⟨P, 7, none⟩ = some (.bool false) ∧ W.cell? ⟨P, 8, none⟩ = some (.string ⟨#[115, 116, 97, 110, 100, 97, 108, 111, 110, 101]⟩) ∧ W.cell? ⟨P, 9, none⟩ = some (.func (.func 49) #[] #[]) ∧ W.cell? ⟨P, 10, none⟩ = some (.pointer (some ⟨g, 3, none⟩)) ∧ W.cell? ⟨P, 11, none⟩ = some (.bool false)) := Lib.hid fun vs W hJ => by
    have hne : P ≠ g := by omega
    refine ⟨?_, ?_, ?_, ?_, ?_, ?_, ?_, ?_, ?_, ?_, ?_, ?_⟩ <;> (rw [hJ.cell hPl hne, cell_of _ hP]; rfl)
  have HB : Hid (∀ vs W, RJ g vs w W → Byt W B A n cap l ∧ B ≤ W.heap.size ∧ FoldT W) := Lib.hid fun vs W hJ => ⟨hJ.byt h hBg (by omega), by have := hJ.1.size; omega, hT.below (hJ.1.below (B := B) (by omega) hBg) hTB⟩
  have P0 : Hid (∀ W, RJ g #[.bool false, .string ⟨#[]⟩, .string ⟨#[]⟩, .string ⟨#[]⟩] w W → Calls Tryd.prog 85 #[.agg #[.string ⟨#[118, 101, 114, 115, 105, 111, 110]⟩, .func (.func 47) #[] #[], .pointer (some ⟨g, 1, none⟩), .bool true], .slice A n cap, .int .i64 ((k + 5) : Nat)] W fun e w' => e = .returned (.tuple #[.int .i64 (j0 : Int), .int .i64 0]) ∧ ∃ w1, Below W.heap.size W w1 ∧ w' = w1.setCell ⟨g, 1, none⟩ (.string ⟨s0.toArray⟩)) := Lib.hid fun W hJ => by
    obtain ⟨hb1, hb2, hb3⟩ := HB.out _ W hJ
    exact (partRead_out (some (s0, j0)) verW 47 verB true g 1 #[.bool false, .string ⟨#[]⟩, .string ⟨#[]⟩, .string ⟨#[]⟩] 53 A n cap l (k + 5) W (hb1.more hb2) hm (by omega) (by decide) (by decide) hJ.2 (by show (1 : Nat) < 4; decide) (enters_of Tryd.func47 (by kernel_rfl) rfl) (fun s hs W' hb => version_c s W' (by omega)) ho0).mono fun e w' hp => hp.found hlt0
  rw [show ((k + 5 : Nat) : Int) = (k : Int) + 5 by omega] at P0
  have P1 : Hid (∀ W, RJ g #[.bool false, .string ⟨s0.toArray⟩, .string ⟨#[]⟩, .string ⟨#[]⟩] w W → Calls Tryd.prog 85 #[.agg #[.string ⟨#[101, 110, 99, 111, 100, 105, 110, 103]⟩, .func (.func 48) #[] #[], .pointer (some ⟨g, 2, none⟩), .bool false], .slice A n cap, .int .i64 (j0 : Nat)] W fun e w' => e = .returned (.tuple #[.int .i64 (j1 : Int), .int .i64 0]) ∧ ∃ w1, Below W.heap.size W w1 ∧ w' = w1.setCell ⟨g, 2, none⟩ (.string ⟨s1.toArray⟩)) := Lib.hid fun W hJ => by
    obtain ⟨hb1, hb2, hb3⟩ := HB.out _ W hJ
    exact (partRead_out (some (s1, j1)) encW 48 encB false g 2 #[.bool false, .string ⟨s0.toArray⟩, .string ⟨#[]⟩, .string ⟨#[]⟩] 53 A n cap l j0 W (hb1.more hb2) hm (by omega) (by decide) (by decide) hJ.2 (by show (2 : Nat) < 4; decide) (enters_of Tryd.func48 (by kernel_rfl) rfl) (fun s hs W' hb => encoding_c s W' (hb3.below hb hb3.lt)) ho1).mono fun e w' hp => hp.found hlt1
  have P2 : Hid (∀ W, RJ g #[.bool false, .string ⟨s0.toArray⟩, .string ⟨s1.toArray⟩, .string ⟨#[]⟩] w W → Calls Tryd.prog 85 #[.agg #[.string ⟨#[115, 116, 97, 110, 100, 97, 108, 111, 110, 101]⟩, .func (.func 49) #[] #[], .pointer (some ⟨g, 3, none⟩), .bool false], .slice A n cap, .int .i64 (j1 : Nat)] W fun e w' => e = .returned (.tuple #[.int .i64 (j2 : Int), .int .i64 0]) ∧ ∃ w1, Below W.heap.size W w1 ∧ w' = w1.setCell ⟨g, 3, none⟩ (.string ⟨s2.toArray⟩)) := Lib.hid fun W hJ => by
    obtain ⟨hb1, hb2, hb3⟩ := HB.out _ W hJ
    exact (partRead_out (some (s2, j2)) aloneW 49 aloneB false g 3 #[.bool false, .string ⟨s0.toArray⟩, .string ⟨s1.toArray⟩, .string ⟨#[]⟩] 53 A n cap l j1 W (hb1.more hb2) hm (by omega) (by decide) (by decide) hJ.2 (by show (3 : Nat) < 4; decide) (enters_of Tryd.func49 (by kernel_rfl) rfl) (fun s hs W' hb => (alone_c s W').mono fun e w' ⟨he, hw⟩ => ⟨he, hw ▸ Below.refl _ _⟩) ho2).mono fun e w' hp => hp.found hlt2
  have CB : Hid (∀ W, RJ g #[.bool false, .string ⟨s0.toArray⟩, .string ⟨s1.toArray⟩, .string ⟨s2.toArray⟩] w W → Calls Tryd.prog 31 #[.slice A n cap, .int .i64 (j2 : Nat)] W fun e w' => e = .returned (.int .i64 (blankTo l j2)) ∧ W = w') := Lib.hid fun W hJ => blanks_c A n cap l j2 _ W (HB.out _ W hJ).1 (by omega) (by omega)
  have hbl := blankTo_le l j2 (by omega)
  have CH : Hid (∀ W, RJ g #[.bool false, .string ⟨s0.toArray⟩, .string ⟨s1.toArray⟩, .string ⟨s2.toArray⟩] w W → Calls Tryd.prog 69 #[.slice (cutA A cap (blankTo l j2)) (n - blankTo l j2) (cap - blankTo l j2), .slice (some ⟨W.heap.size, 0, none⟩) 2 2] (W.alloc (.cells #[.int .u8 63, .int .u8 62] 5 (2, 3))) fun e w' => e = .returned (.bool true) ∧ Hid (RJ g #[.bool false, .string ⟨s0.toArray⟩, .string ⟨s1.toArray⟩, .string ⟨s2.toArray⟩] w w')) := Lib.hid fun W hJ => by
    have ka := alloc_const W [63, 62] (2, 3) (by decide)
    obtain ⟨hb1, hb2, _⟩ := HB.out _ W hJ
    have := hasPrefix_c _ _ _ _ _ _ _ _ (W.alloc (.cells #[.int .u8 63, .int .u8 62] 5 (2, 3))) _ _ (((hb1.more hb2).below ka.1).drop (k := blankTo l j2) (by omega)) ka.2
    rw [ht] at this
    exact this.mono fun e w' ⟨he, hw⟩ => ⟨he, Lib.hid (hw ▸ hJ.kept ka.1)⟩
  have hrb : ∀ W : World, (Instr.slice 22 (.slice A n cap) (some (.int .i64 (blankTo l j2 : Nat))) none none).run Tryd.prog W = .ok (.slice (cutA A cap (blankTo l j2)) (n - blankTo l j2) (cap - blankTo l j2)) W := fun W => run_from A n cap (blankTo l j2) (by omega)
  have hbi : (blankTo l j2 : Int) ≤ 40000 := by omega
  generalize hbt : blankTo l j2 = bt at *
  have hk0 : (0 : Int) ≤ (k : Int) := by omega
  have hk1 : (k : Int) ≤ 40000 := by omega
  have e0 : ((j0 : Int) == (k : Int) + 5) = false := by simp; omega
  have e1 : ((j1 : Int) == (j0 : Int)) = false := by simp; omega
  have e2 : ((j2 : Int) == (j1 : Int)) = false := by simp; omega
  clear h hT hTB hg hP hln hBg HB hk hm hPl hgP ho0 ho1 ho2 hlt0 hle0 hlt1 hle1 hlt2 hle2 ht hbl hbt
  go_enter Tryd.func65, Tryd.ntmps65
  go_wp2_with fail
  go_step3
  go_wp2_with fail
  go_step3
  go_wp2_with fail
  refine wp_loop_rounds 4 ?_
  rw [rounds_succ]
  obtain ⟨x0, x1, x2, x3, x4, x5, x6, x7, x8, x9, x10, x11⟩ := HX.out _ _ HJ.out
  clear x4 x5 x6 x7 x8 x9 x10 x11
  have hn0 := hp_new w (.cells #[.string ⟨#[118, 101, 114, 115, 105, 111, 110]⟩, .func (.func 47) #[] #[], .pointer (some ⟨g, 1, none⟩), .bool true] 93)
  have JA0 := Lib.hid (HJ.out.kept ((Below.refl _ w).alloc (Nat.le_refl _) (.cells #[.string ⟨#[118, 101, 114, 115, 105, 111, 110]⟩, .func (.func 47) #[] #[], .pointer (some ⟨g, 1, none⟩), .bool true] 93)))
  go_wp2_with fail
  clear x0 x1 x2 x3
  refine (P0.out _ JA0.out).mono ?_
  rintro e w1 ⟨rfl, v1, hb1, rfl⟩
  have J0 : Hid (RJ g #[.bool false, .string ⟨s0.toArray⟩, .string ⟨#[]⟩, .string ⟨#[]⟩] w (v1.setCell ⟨g, 1, none⟩ (.string ⟨s0.toArray⟩))) := Lib.hid ((JA0.out.kept hb1).set 1 (.string ⟨s0.toArray⟩))
  clear hb1 hn0 JA0
  generalize v1.setCell ⟨g, 1, none⟩ (.string ⟨s0.toArray⟩) = u1 at *
  go_wp2
  rw [rounds_succ]
  obtain ⟨x0, x1, x2, x3, x4, x5, x6, x7, x8, x9, x10, x11⟩ := HX.out _ _ J0.out
  clear x0 x1 x2 x3 x8 x9 x10 x11
  have hn1 := hp_new u1 (.cells #[.string ⟨#[101, 110, 99, 111, 100, 105, 110, 103]⟩, .func (.func 48) #[] #[], .pointer (some ⟨g, 2, none⟩), .bool false] 93)
  have JA1 := Lib.hid (J0.out.kept ((Below.refl _ u1).alloc (Nat.le_refl _) (.cells #[.string ⟨#[101, 110, 99, 111, 100, 105, 110, 103]⟩, .func (.func 48) #[] #[], .pointer (some ⟨g, 2, none⟩), .bool false] 93)))
  go_wp2_with fail
  clear x4 x5 x6 x7
  refine (P1.out _ JA1.out).mono ?_
  rintro e w2 ⟨rfl, v2, hb2, rfl⟩
  have J1 : Hid (RJ g #[.bool false, .string ⟨s0.toArray⟩, .string ⟨s1.toArray⟩, .string ⟨#[]⟩] w (v2.setCell ⟨g, 2, none⟩ (.string ⟨s1.toArray⟩))) := Lib.hid ((JA1.out.kept hb2).set 2 (.string ⟨s1.toArray⟩))
  clear hb2 hn1 JA1
  generalize v2.setCell ⟨g, 2, none⟩ (.string ⟨s1.toArray⟩) = u2 at *
  go_wp2
  rw [rounds_succ]
  obtain ⟨x0, x1, x2, x3, x4, x5, x6, x7, x8, x9, x10, x11⟩ := HX.out _ _ J1.out
  clear x0 x1 x2 x3 x4 x5 x6 x7
  have hn2 := hp_new u2 (.cells #[.string ⟨#[115, 116, 97, 110, 100, 97, 108, 111, 110, 101]⟩, .func (.func 49) #[] #[], .pointer (some ⟨g, 3, none⟩), .bool false] 93)
  have JA2 := Lib.hid (J1.out.kept ((Below.refl _ u2).alloc (Nat.le_refl _) (.cells #[.string ⟨#[115, 116, 97, 110, 100, 97, 108, 111, 110, 101]⟩, .func (.func 49) #[] #[], .pointer (some ⟨g, 3, none⟩), .bool false] 93)))
  go_wp2_with fail
  clear x8 x9 x10 x11
  refine (P2.out _ JA2.out).mono ?_
  rintro e w3 ⟨rfl, v3, hb3, rfl⟩
  have J2 : Hid (RJ g #[.bool false, .string ⟨s0.toArray⟩, .string ⟨s1.toArray⟩, .string ⟨s2.toArray⟩] w (v3.setCell ⟨g, 3, none⟩ (.string ⟨s2.toArray⟩))) := Lib.hid ((JA2.out.kept hb3).set 3 (.string ⟨s2.toArray⟩))
  clear hb3 hn2 JA2
  generalize v3.setCell ⟨g, 3, none⟩ (.string ⟨s2.toArray⟩) = u3 at *
  go_wp2
  rw [rounds_succ]
  go_wp2_with fail
  refine (CB.out _ J2.out).mono ?_
  rintro e wq ⟨rfl, rfl⟩
  go_wp2_with fail
  refine (CH.out _ J2.out).mono ?_
  rintro e wz ⟨rfl, JZ⟩
  clear kc
  go_wp2
  (try rw [Exit.noGoto_ret])
  go_ret2
  exact ⟨rfl, JZ.out⟩
set_option maxRecDepth 100000 in
set_option maxHeartbeats 8000000 in
theorem xdRead_f_found_found_found_no (g P B : Nat) (A : Option Addr) (n cap : Nat) (l : List UInt8) (k : Nat) (w : World) (h : Byt w B A n cap l) (hm : n ≤ 40000) (hk : k + 5 ≤ n) (hBg : B ≤ g) (hT : FoldT w) (hTB : 0 < B) (hg : w.heap[g]? = some (.cells #[.bool false, .string ⟨#[]⟩, .string ⟨#[]⟩, .string ⟨#[]⟩] 53)) (hgP : g < P)
    (hP : w.heap[P]? = some (.cells #[.string ⟨#[118, 101, 114, 115, 105, 111, 110]⟩, .func (.func 47) #[] #[], .pointer (some ⟨g, 1, none⟩), .bool true, .string ⟨#[101, 110, 99, 111, 100, 105, 110, 103]⟩, .func (.func 48) #[] #[], .pointer (some ⟨g, 2, none⟩), .bool false, .string ⟨#[115, 116, 97, 110, 100, 97, 108, 111, 110, 101]⟩, .func (.func 49) #[] #[], .pointer (some ⟨g, 3, none⟩), .bool false] 93)) (s0 : List UInt8) (j0 : Nat) (ho0 : partOut verW verB l (k + 5) = some (s0, j0)) (hlt0 : (k + 5) < j0) (hle0 : j0 ≤ n) (s1 : List UInt8) (j1 : Nat) (ho1 : partOut encW encB l j0 = some (s1, j1)) (hlt1 : j0 < j1) (hle1 : j1 ≤ n) (s2 : List UInt8) (j2 : Nat) (ho2 : partOut aloneW aloneB l j1 = some (s2, j2)) (hlt2 : j1 < j2) (hle2 : j2 ≤ n) (ht : [63, 62].isPrefixOf (l.drop (blankTo l j2)) = false) :
    Calls Tryd.prog 65 #[.slice A n cap, .int .i64 k, .pointer (some ⟨g, 0, none⟩), .slice (some ⟨P, 0, none⟩) 3 3] w fun e w' => e = .returned (.tuple #[.int .i64 0, .int .i64 7]) ∧ RJ g #[.bool false, .string ⟨s0.toArray⟩, .string ⟨s1.toArray⟩, .string ⟨s2.toArray⟩] w w' := by
  have kc := fun (w : World) (C : Array Value) (n c : Nat) => Lib.run_convert_bytes_const (P := Tryd.prog) w 22 5 C n c Tryd.underlying22 Tryd.underlying5
  have hln := h.length
  have hgl := lt_of hg
  have hPl := lt_of hP
  have HJ : Hid (RJ g #[.bool false, .string ⟨#[]⟩, .string ⟨#[]⟩, .string ⟨#[]⟩] w w) := Lib.hid ⟨Fr.refl _ _ _, hg⟩
  have HX : Hid (∀ vs W, RJ g vs w W → W.cell? ⟨P, 0, none⟩ = some (.string ⟨#[118, 101, 114, 115, 105, 111, 110]⟩) ∧ W.cell? ⟨P, 1, none⟩ = some (.func (.func 47) #[] #[]) ∧ W.cell? ⟨P, 2, none⟩ = some (.pointer (some ⟨g, 1, none⟩)) ∧ W.cell? ⟨P, 3, none⟩ = some (.bool true) ∧ W.cell? ⟨P, 4, none⟩ = some (.string ⟨#[101, 110, 99, 111, 100, 105, 110, 103]⟩) ∧ W.cell? ⟨P, 5, none⟩ = some (.func (.func 48) #[] #[]) ∧ W.cell? ⟨P, 6, none⟩ = some (.pointer (some ⟨g, 2, none⟩)) ∧ W.cell? ⟨P, 7, none⟩ = some (.bool false) ∧ W.cell? ⟨P, 8, none⟩ = some (.string ⟨#[115, 116, 97, 110, 100, 97, 108, 111, 110, 101]⟩) ∧ W.cell? ⟨P, 9, none⟩ = some (.func (.func 49) #[] #[]) ∧ W.cell? ⟨P, 10, none⟩ = some (.pointer (some ⟨g, 3, none⟩)) ∧ W.cell? ⟨P, 11, none⟩ = some (.bool false)) := Lib.hid fun vs W hJ => by
    have hne : P ≠ g := by omega
    refine ⟨?_, ?_, ?_, ?_, ?_, ?_, ?_, ?_, ?_, ?_, ?_, ?_⟩ <;> (rw [hJ.cell hPl hne, cell_of _ hP]; rfl)
  have HB : Hid (∀ vs W, RJ g vs w W → Byt W B A n cap l ∧ B ≤ W.heap.size ∧ FoldT W) := Lib.hid fun vs W hJ => ⟨hJ.byt h hBg (by omega), by have := hJ.1.size; omega, hT.below (hJ.1.below (B := B) (by omega) hBg) hTB⟩
  have P0 : Hid (∀ W, RJ g #[.bool false, .string ⟨#[]⟩, .string ⟨#[]⟩, .string ⟨#[]⟩] w W → Calls Tryd.prog 85 #[.agg #[.string ⟨#[118, 101, 114, 115, 105, 111, 110]⟩, .func (.func 47) #[] #[], .pointer (some ⟨g, 1, none⟩), .bool true], .slice A n cap, .int .i64 ((k + 5) : Nat)] W fun e w' => e = .returned (.tuple #[.int .i64 (j0 : Int), .int .i64 0]) ∧ ∃ w1, Below W.heap.size W w1 ∧ w' = w1.setCell ⟨g, 1, none⟩ (.string ⟨s0.toArray⟩)) := Lib.hid fun W hJ => by
    obtain ⟨hb1, hb2, hb3⟩ := HB.out _ W hJ
    exact (partRead_out (some (s0, j0)) verW 47 verB true g 1 #[.bool false, .string ⟨#[]⟩, .string ⟨#[]⟩, .string ⟨#[]⟩] 53 A n cap l (k + 5) W (hb1.more hb2) hm (by omega) (by decide) (by decide) hJ.2 (by show (1 : Nat) < 4; decide) (enters_of Tryd.func47 (by kernel_rfl) rfl) (fun s hs W' hb => version_c s W' (by omega)) ho0).mono fun e w' hp => hp.found hlt0
  rw [show ((k + 5 : Nat) : Int) = (k : Int) + 5 by omega] at P0
  have P1 : Hid (∀ W, RJ g #[.bool false, .string ⟨s0.toArray⟩, .string ⟨#[]⟩, .string ⟨#[]⟩] w W → Calls Tryd.prog 85 #[.agg #[.string ⟨#[101, 110, 99, 111, 100, 105, 110, 103]⟩, .func (.func 48) #[] #[], .pointer (some ⟨g, 2, none⟩), .bool false], .slice A n cap, .int .i64 (j0 : Nat)] W fun e w' => e = .returned (.tuple #[.int .i64 (j1 : Int), .int .i64 0]) ∧ ∃ w1, Below W.heap.size W w1 ∧ w' = w1.setCell ⟨g, 2, none⟩ (.string ⟨s1.toArray⟩)) := Lib.hid fun W hJ => by
    obtain ⟨hb1, hb2, hb3⟩ := HB.out _ W hJ
    exact (partRead_out (some (s1, j1)) encW 48 encB false g 2 #[.bool false, .string ⟨s0.toArray⟩, .string ⟨#[]⟩, .string ⟨#[]⟩] 53 A n cap l j0 W (hb1.more hb2) hm (by omega) (by decide) (by decide) hJ.2 (by show (2 : Nat) < 4; decide) (enters_of Tryd.func48 (by kernel_rfl) rfl) (fun s hs W' hb => encoding_c s W' (hb3.below hb hb3.lt)) ho1).mono fun e w' hp => hp.found hlt1
  have P2 : Hid (∀ W, RJ g #[.bool false, .string ⟨s0.toArray⟩, .string ⟨s1.toArray⟩, .string ⟨#[]⟩] w W → Calls Tryd.prog 85 #[.agg #[.string ⟨#[115, 116, 97, 110, 100, 97, 108, 111, 110, 101]⟩, .func (.func 49) #[] #[], .pointer (some ⟨g, 3, none⟩), .bool false], .slice A n cap, .int .i64 (j1 : Nat)] W fun e w' => e = .returned (.tuple #[.int .i64 (j2 : Int), .int .i64 0]) ∧ ∃ w1, Below W.heap.size W w1 ∧ w' = w1.setCell ⟨g, 3, none⟩ (.string ⟨s2.toArray⟩)) := Lib.hid fun W hJ => by
    obtain ⟨hb1, hb2, hb3⟩ := HB.out _ W hJ
    exact (partRead_out (some (s2, j2)) aloneW 49 aloneB false g 3 #[.bool false, .string ⟨s0.toArray⟩, .string ⟨s1.toArray⟩, .string ⟨#[]⟩] 53 A n cap l j1 W (hb1.more hb2) hm (by omega) (by decide) (by decide) hJ.2 (by show (3 : Nat) < 4; decide) (enters_of Tryd.func49 (by kernel_rfl) rfl) (fun s hs W' hb => (alone_c s W').mono fun e w' ⟨he, hw⟩ => ⟨he, hw ▸ Below.refl _ _⟩) ho2).mono fun e w' hp => hp.found hlt2
  have CB : Hid (∀ W, RJ g #[.bool false, .string ⟨s0.toArray⟩, .string ⟨s1.toArray⟩, .string ⟨s2.toArray⟩] w W → Calls Tryd.prog 31 #[.slice A n cap, .int .i64 (j2 : Nat)] W fun e w' => e = .returned (.int .i64 (blankTo l j2)) ∧ W = w') := Lib.hid fun W hJ => blanks_c A n cap l j2 _ W (HB.out _ W hJ).1 (by omega) (by omega)
  have hbl := blankTo_le l j2 (by omega)
  have CH : Hid (∀ W, RJ g #[.bool false, .string ⟨s0.toArray⟩, .string ⟨s1.toArray⟩, .string ⟨s2.toArray⟩] w W → Calls Tryd.prog 69 #[.slice (cutA A cap (blankTo l j2)) (n - blankTo l j2) (cap - blankTo l j2), .slice (some ⟨W.heap.size, 0, none⟩) 2 2] (W.alloc (.cells #[.int .u8 63, .int .u8 62] 5 (2, 3))) fun e w' => e = .returned (.bool false) ∧ Hid (RJ g #[.bool false, .string ⟨s0.toArray⟩, .string ⟨s1.toArray⟩, .string ⟨s2.toArray⟩] w w')) := Lib.hid fun W hJ => by
    have ka := alloc_const W [63, 62] (2, 3) (by decide)
    obtain ⟨hb1, hb2, _⟩ := HB.out _ W hJ
    have := hasPrefix_c _ _ _ _ _ _ _ _ (W.alloc (.cells #[.int .u8 63, .int .u8 62] 5 (2, 3))) _ _ (((hb1.more hb2).below ka.1).drop (k := blankTo l j2) (by omega)) ka.2
    rw [ht] at this
    exact this.mono fun e w' ⟨he, hw⟩ => ⟨he, Lib.hid (hw ▸ hJ.kept ka.1)⟩
  have hrb : ∀ W : World, (Instr.slice 22 (.slice A n cap) (some (.int .i64 (blankTo l j2 : Nat))) none none).run Tryd.prog W = .ok (.slice (cutA A cap (blankTo l j2)) (n - blankTo l j2) (cap - blankTo l j2)) W := fun W => run_from A n cap (blankTo l j2) (by omega)
  have hbi : (blankTo l j2 : Int) ≤ 40000 := by omega
  generalize hbt : blankTo l j2 = bt at *
  have hk0 : (0 : Int) ≤ (k : Int) := by omega
  have hk1 : (k : Int) ≤ 40000 := by omega
  have e0 : ((j0 : Int) == (k : Int) + 5) = false := by simp; omega
  have e1 : ((j1 : Int) == (j0 : Int)) = false := by simp; omega
  have e2 : ((j2 : Int) == (j1 : Int)) = false := by simp; omega
  clear h hT hTB hg hP hln hBg HB hk hm hPl hgP ho0 ho1 ho2 hlt0 hle0 hlt1 hle1 hlt2 hle2 ht hbl hbt
  go_enter Tryd.func65, Tryd.ntmps65
  go_wp2_with fail
  go_step3
  go_wp2_with fail
  go_step3
  go_wp2_with fail
  refine wp_loop_rounds 4 ?_
  rw [rounds_succ]
  obtain ⟨x0, x1, x2, x3, x4, x5, x6, x7, x8, x9, x10, x11⟩ := HX.out _ _ HJ.out
  clear x4 x5 x6 x7 x8 x9 x10 x11
  have hn0 := hp_new w (.cells #[.string ⟨#[118, 101, 114, 115, 105, 111, 110]⟩, .func (.func 47) #[] #[], .pointer (some ⟨g, 1, none⟩), .bool true] 93)
  have JA0 := Lib.hid (HJ.out.kept ((Below.refl _ w).alloc (Nat.le_refl _) (.cells #[.string ⟨#[118, 101, 114, 115, 105, 111, 110]⟩, .func (.func 47) #[] #[], .pointer (some ⟨g, 1, none⟩), .bool true] 93)))
  go_wp2_with fail
  clear x0 x1 x2 x3
  refine (P0.out _ JA0.out).mono ?_
  rintro e w1 ⟨rfl, v1, hb1, rfl⟩
  have J0 : Hid (RJ g #[.bool false, .string ⟨s0.toArray⟩, .string ⟨#[]⟩, .string ⟨#[]⟩] w (v1.setCell ⟨g, 1, none⟩ (.string ⟨s0.toArray⟩))) := Lib.hid ((JA0.out.kept hb1).set 1 (.string ⟨s0.toArray⟩))
  clear hb1 hn0 JA0
  generalize v1.setCell ⟨g, 1, none⟩ (.string ⟨s0.toArray⟩) = u1 at *
  go_wp2
  rw [rounds_succ]
  obtain ⟨x0, x1, x2, x3, x4, x5, x6, x7, x8, x9, x10, x11⟩ := HX.out _ _ J0.out
  clear x0 x1 x2 x3 x8 x9 x10 x11
  have hn1 := hp_new u1 (.cells #[.string ⟨#[101, 110, 99, 111, 100, 105, 110, 103]⟩, .func (.func 48) #[] #[], .pointer (some ⟨g, 2, none⟩), .bool false] 93)
  have JA1 := Lib.hid (J0.out.kept ((Below.refl _ u1).alloc (Nat.le_refl _) (.cells #[.string ⟨#[101, 110, 99, 111, 100, 105, 110, 103]⟩, .func (.func 48) #[] #[], .pointer (some ⟨g, 2, none⟩), .bool false] 93)))
  go_wp2_with fail
  clear x4 x5 x6 x7
  refine (P1.out _ JA1.out).mono ?_
  rintro e w2 ⟨rfl, v2, hb2, rfl⟩
  have J1 : Hid (RJ g #[.bool false, .string ⟨s0.toArray⟩, .string ⟨s1.toArray⟩, .string ⟨#[]⟩] w (v2.setCell ⟨g, 2, none⟩ (.string ⟨s1.toArray⟩))) := Lib.hid ((JA1.out.kept hb2).set 2 (.string ⟨s1.toArray⟩))
  clear hb2 hn1 JA1
  generalize v2.setCell ⟨g, 2, none⟩ (.string ⟨s1.toArray⟩) = u2 at *
  go_wp2
  rw [rounds_succ]
  obtain ⟨x0, x1, x2, x3, x4, x5, x6, x7, x8, x9, x10, x11⟩ := HX.out _ _ J1.out
  clear x0 x1 x2 x3 x4 x5 x6 x7
  have hn2 := hp_new u2 (.cells #[.string ⟨#[115, 116, 97, 110, 100, 97, 108, 111, 110, 101]⟩, .func (.func 49) #[] #[], .pointer (some ⟨g, 3, none⟩), .bool false] 93)
  have JA2 := Lib.hid (J1.out.kept ((Below.refl _ u2).alloc (Nat.le_refl _) (.cells #[.string ⟨#[115, 116, 97, 110, 100, 97, 108, 111, 110, 101]⟩, .func (.func 49) #[] #[], .pointer (some ⟨g, 3, none⟩), .bool false] 93)))
  go_wp2_with fail
  clear x8 x9 x10 x11
  refine (P2.out _ JA2.out).mono ?_
  rintro e w3 ⟨rfl, v3, hb3, rfl⟩
  have J2 : Hid (RJ g #[.bool false, .string ⟨s0.toArray⟩, .string ⟨s1.toArray⟩, .string ⟨s2.toArray⟩] w (v3.setCell ⟨g, 3, none⟩ (.string ⟨s2.toArray⟩))) := Lib.hid ((JA2.out.kept hb3).set 3 (.string ⟨s2.toArray⟩))
  clear hb3 hn2 JA2
  generalize v3.setCell ⟨g, 3, none⟩ (.string ⟨s2.toArray⟩) = u3 at *
  go_wp2
  rw [rounds_succ]
  go_wp2_with fail
  refine (CB.out _ J2.out).mono ?_
  rintro e wq ⟨rfl, rfl⟩
  go_wp2_with fail
  refine (CH.out _ J2.out).mono ?_
  rintro e wz ⟨rfl, JZ⟩
  clear kc
  go_wp2
  (try rw [Exit.noGoto_ret])
  go_ret2
  exact ⟨rfl, JZ.out⟩
set_option maxRecDepth 100000 in
set_option maxHeartbeats 8000000 in
theorem xdRead_f_same (g P B : Nat) (A : Option Addr) (n cap : Nat) (l : List UInt8) (k : Nat) (w : World) (h : Byt w B A n cap l) (hm : n ≤ 40000) (hk : k + 5 ≤ n) (hBg : B ≤ g) (hT : FoldT w) (hTB : 0 < B) (hg : w.heap[g]? = some (.cells #[.bool false, .string ⟨#[]⟩, .string ⟨#[]⟩, .string ⟨#[]⟩] 53)) (hgP : g < P)
    (hP : w.heap[P]? = some (.cells #[.string ⟨#[118, 101, 114, 115, 105, 111, 110]⟩, .func (.func 47) #[] #[], .pointer (some ⟨g, 1, none⟩), .bool true, .string ⟨#[101, 110, 99, 111, 100, 105, 110, 103]⟩, .func (.func 48) #[] #[], .pointer (some ⟨g, 2, none⟩), .bool false, .string ⟨#[115, 116, 97, 110, 100, 97, 108, 111, 110, 101]⟩, .func (.func 49) #[] #[], .pointer (some ⟨g, 3, none⟩), .bool false] 93)) (ho0 : partOut verW verB l (k + 5) = some ([], (k + 5))) :
    Calls Tryd.prog 65 #[.slice A n cap, .int .i64 k, .pointer (some ⟨g, 0, none⟩), .slice (some ⟨P, 0, none⟩) 3 3] w fun e w' => e = .returned (.tuple #[.int .i64 0, .int .i64 7]) ∧ RJ g #[.bool false, .string ⟨#[]⟩, .string ⟨#[]⟩, .string ⟨#[]⟩] w w' := by
  have kc := fun (w : World) (C : Array Value) (n c : Nat) => Lib.run_convert_bytes_const (P := Tryd.prog) w 22 5 C n c Tryd.underlying22 Tryd.underlying5
  have hln := h.length
  have hgl := lt_of hg
  have hPl := lt_of hP
  have HJ : Hid (RJ g #[.bool false, .string ⟨#[]⟩, .string ⟨#[]⟩, .string ⟨#[]⟩] w w) := Lib.hid ⟨Fr.refl _ _ _, hg⟩
  have HX : Hid (∀ vs W, RJ g vs w W → W.cell? ⟨P, 0, none⟩ = some (.string ⟨#[118, 101, 114, 115, 105, 111, 110]⟩) ∧ W.cell? ⟨P, 1, none⟩ = some (.func (.func 47) #[] #[]) ∧ W.cell? ⟨P, 2, none⟩ = some (.pointer (some ⟨g, 1, none⟩)) ∧ W.cell? ⟨P, 3, none⟩ = some (.bool true) ∧ W.cell? ⟨P, 4, none⟩ = some (.string ⟨#[101, 110, 99, 111, 100, 105, 110, 103]⟩) ∧ W.cell? ⟨P, 5, none⟩ = some (.func (.func 48) #[] #[]) ∧ W.cell? ⟨P, 6, none⟩ = some (.pointer (some ⟨g, 2, none⟩)) ∧ W.cell? ⟨P, 7, none⟩ = some (.bool false) ∧ W.cell? ⟨P, 8, none⟩ = some (.string ⟨#[115, 116, 97, 110, 100, 97, 108, 111, 110, 101]⟩) ∧ W.cell? ⟨P, 9, none⟩ = some (.func (.func 49) #[] #[]) ∧ W.cell? ⟨P, 10, none⟩ = some (.pointer (some ⟨g, 3, none⟩)) ∧ W.cell? ⟨P, 11, none⟩ = some (.bool false)) := Lib.hid fun vs W hJ => by
    have hne : P ≠ g := by omega
    refine ⟨?_, ?_, ?_, ?_, ?_, ?_, ?_, ?_, ?_, ?_, ?_, ?_⟩ <;> (rw [hJ.cell hPl hne, cell_of _ hP]; rfl)
  have HB : Hid (∀ vs W, RJ g vs w W → Byt W B A n cap l ∧ B ≤ W.heap.size ∧ FoldT W) := Lib.hid fun vs W hJ => ⟨hJ.byt h hBg (by omega), by have := hJ.1.size; omega, hT.below (hJ.1.below (B := B) (by omega) hBg) hTB⟩
  have P0 : Hid (∀ W, RJ g #[.bool false, .string ⟨#[]⟩, .string ⟨#[]⟩, .string ⟨#[]⟩] w W → Calls Tryd.prog 85 #[.agg #[.string ⟨#[118, 101, 114, 115, 105, 111, 110]⟩, .func (.func 47) #[] #[], .pointer (some ⟨g, 1, none⟩), .bool true], .slice A n cap, .int .i64 ((k + 5) : Nat)] W fun e w' => e = .returned (.tuple #[.int .i64 ((k + 5) : Nat), .int .i64 0]) ∧ Below W.heap.size W w') := Lib.hid fun W hJ => by
    obtain ⟨hb1, hb2, hb3⟩ := HB.out _ W hJ
    exact (partRead_out (some ([], (k + 5))) verW 47 verB true g 1 #[.bool false, .string ⟨#[]⟩, .string ⟨#[]⟩, .string ⟨#[]⟩] 53 A n cap l (k + 5) W (hb1.more hb2) hm (by omega) (by decide) (by decide) hJ.2 (by show (1 : Nat) < 4; decide) (enters_of Tryd.func47 (by kernel_rfl) rfl) (fun s hs W' hb => version_c s W' (by omega)) ho0).mono fun e w' hp => hp.same
  rw [show ((k + 5 : Nat) : Int) = (k : Int) + 5 by omega] at P0
  have CB : Hid (∀ W, RJ g #[.bool false, .string ⟨#[]⟩, .string ⟨#[]⟩, .string ⟨#[]⟩] w W → Calls Tryd.prog 31 #[.slice A n cap, .int .i64 (n : Int)] W fun e w' => e = .returned (.int .i64 (n : Int)) ∧ W = w') := Lib.hid fun W hJ => by
    have := blanks_c A n cap l n _ W (HB.out _ W hJ).1 (by omega) (Nat.le_refl _)
    rwa [blankTo_end l n (by omega)] at this
  have CH : Hid (∀ W, RJ g #[.bool false, .string ⟨#[]⟩, .string ⟨#[]⟩, .string ⟨#[]⟩] w W → Calls Tryd.prog 69 #[.slice (cutA A cap (n)) 0 (cap - n), .slice (some ⟨W.heap.size, 0, none⟩) 2 2] (W.alloc (.cells #[.int .u8 63, .int .u8 62] 5 (2, 3))) fun e w' => e = .returned (.bool false) ∧ Hid (RJ g #[.bool false, .string ⟨#[]⟩, .string ⟨#[]⟩, .string ⟨#[]⟩] w w')) := Lib.hid fun W hJ => by
    have ka := alloc_const W [63, 62] (2, 3) (by decide)
    obtain ⟨hb1, hb2, _⟩ := HB.out _ W hJ
    have := hasPrefix_c _ _ _ _ _ _ _ _ (W.alloc (.cells #[.int .u8 63, .int .u8 62] 5 (2, 3))) _ _ (((hb1.more hb2).below ka.1).drop (k := n) (by omega)) ka.2
    rw [Nat.sub_self] at this
    rw [show [63, 62].isPrefixOf (l.drop n) = false by rw [List.drop_of_length_le (by omega)]; rfl] at this
    exact this.mono fun e w' ⟨he, hw⟩ => ⟨he, Lib.hid (hw ▸ hJ.kept ka.1)⟩
  have hrb : ∀ W : World, (Instr.slice 22 (.slice A n cap) (some (.int .i64 (n : Nat))) none none).run Tryd.prog W = .ok (.slice (cutA A cap (n)) 0 (cap - n)) W := fun W => by have := run_from (w := W) A n cap n (Nat.le_refl _); rwa [Nat.sub_self] at this
  generalize cutA A cap (n) = Rn at *
  have hk0 : (0 : Int) ≤ (k : Int) := by omega
  have hk1 : (k : Int) ≤ 40000 := by omega
  clear h hT hTB hg hP hln hBg HB hk hm hPl hgP ho0 
  go_enter Tryd.func65, Tryd.ntmps65
  go_wp2_with fail
  go_step3
  go_wp2_with fail
  go_step3
  go_wp2_with fail
  refine wp_loop_rounds 4 ?_
  rw [rounds_succ]
  obtain ⟨x0, x1, x2, x3, x4, x5, x6, x7, x8, x9, x10, x11⟩ := HX.out _ _ HJ.out
  clear x4 x5 x6 x7 x8 x9 x10 x11
  have hn0 := hp_new w (.cells #[.string ⟨#[118, 101, 114, 115, 105, 111, 110]⟩, .func (.func 47) #[] #[], .pointer (some ⟨g, 1, none⟩), .bool true] 93)
  have JA0 := Lib.hid (HJ.out.kept ((Below.refl _ w).alloc (Nat.le_refl _) (.cells #[.string ⟨#[118, 101, 114, 115, 105, 111, 110]⟩, .func (.func 47) #[] #[], .pointer (some ⟨g, 1, none⟩), .bool true] 93)))
  go_wp2_with fail
  clear x0 x1 x2 x3
  refine (P0.out _ JA0.out).mono ?_
  rintro e u1 ⟨rfl, hb1⟩
  have J0 := Lib.hid (JA0.out.kept hb1)
  have m0 : u1.cell? ⟨w.heap.size, 3, none⟩ = some (.bool true) := by rw [hb1.cell (p := ⟨w.heap.size, 3, none⟩) (by simp), cell_of 3 hn0]; rfl
  clear hb1 hn0 JA0
  go_wp2_with fail
  refine (CB.out _ J0.out).mono ?_
  rintro e wq ⟨rfl, rfl⟩
  clear m0
  go_wp2_with fail
  refine (CH.out _ J0.out).mono ?_
  rintro e wz ⟨rfl, JZ⟩
  clear kc
  go_wp2
  (try rw [Exit.noGoto_ret])
  go_ret2
  exact ⟨rfl, JZ.out⟩
set_option maxRecDepth 100000 in
set_option maxHeartbeats 8000000 in
theorem xdRead_t_same_same (g P B : Nat) (A : Option Addr) (n cap : Nat) (l : List UInt8) (k : Nat) (w : World) (h : Byt w B A n cap l) (hm : n ≤ 40000) (hk : k + 5 ≤ n) (hBg : B ≤ g) (hT : FoldT w) (hTB : 0 < B) (hg : w.heap[g]? = some (.cells #[.bool false, .string ⟨#[]⟩, .string ⟨#[]⟩, .string ⟨#[]⟩] 53)) (hgP : g < P)
    (hP : w.heap[P]? = some (.cells #[.string ⟨#[118, 101, 114, 115, 105, 111, 110]⟩, .func (.func 47) #[] #[], .pointer (some ⟨g, 1, none⟩), .bool false, .string ⟨#[101, 110, 99, 111, 100, 105, 110, 103]⟩, .func (.func 48) #[] #[], .pointer (some ⟨g, 2, none⟩), .bool true] 93)) (ho0 : partOut verW verB l (k + 5) = some ([], (k + 5))) (ho1 : partOut encW encB l (k + 5) = some ([], (k + 5))) :
    Calls Tryd.prog 65 #[.slice A n cap, .int .i64 k, .pointer (some ⟨g, 0, none⟩), .slice (some ⟨P, 0, none⟩) 2 2] w fun e w' => e = .returned (.tuple #[.int .i64 0, .int .i64 7]) ∧ RJ g #[.bool false, .string ⟨#[]⟩, .string ⟨#[]⟩, .string ⟨#[]⟩] w w' := by
  have kc := fun (w : World) (C : Array Value) (n c : Nat) => Lib.run_convert_bytes_const (P := Tryd.prog) w 22 5 C n c Tryd.underlying22 Tryd.underlying5
  have hln := h.length
  have hgl := lt_of hg
  have hPl := lt_of hP
  have HJ : Hid (RJ g #[.bool false, .string ⟨#[]⟩, .string ⟨#[]⟩, .string ⟨#[]⟩] w w) := Lib.hid ⟨Fr.refl _ _ _, hg⟩
  have HX : Hid (∀ vs W, RJ g vs w W → W.cell? ⟨P, 0, none⟩ = some (.string ⟨#[118, 101, 114, 115, 105, 111, 110]⟩) ∧ W.cell? ⟨P, 1, none⟩ = some (.func (.func 47) #[] #[]) ∧ W.cell? ⟨P, 2, none⟩ = some (.pointer (some ⟨g, 1, none⟩)) ∧ W.cell? ⟨P, 3, none⟩ = some (.bool false) ∧ W.cell? ⟨P, 4, none⟩ = some (.string ⟨#[101, 110, 99, 111, 100, 105, 110, 103]⟩) ∧ W.cell? ⟨P, 5, none⟩ = some (.func (.func 48) #[] #[]) ∧ W.cell? ⟨P, 6, none⟩ = some (.pointer (some ⟨g, 2, none⟩)) ∧ W.cell? ⟨P, 7, none⟩ = some (.bool true)) := Lib.hid fun vs W hJ => by
    have hne : P ≠ g := by omega
    refine ⟨?_, ?_, ?_, ?_, ?_, ?_, ?_, ?_⟩ <;> (rw [hJ.cell hPl hne, cell_of _ hP]; rfl)
  have HB : Hid (∀ vs W, RJ g vs w W → Byt W B A n cap l ∧ B ≤ W.heap.size ∧ FoldT W) := Lib.hid fun vs W hJ => ⟨hJ.byt h hBg (by omega), by have := hJ.1.size; omega, hT.below (hJ.1.below (B := B) (by omega) hBg) hTB⟩
  have P0 : Hid (∀ W, RJ g #[.bool false, .string ⟨#[]⟩, .string ⟨#[]⟩, .string ⟨#[]⟩] w W → Calls Tryd.prog 85 #[.agg #[.string ⟨#[118, 101, 114, 115, 105, 111, 110]⟩, .func (.func 47) #[] #[], .pointer (some ⟨g, 1, none⟩), .bool false], .slice A n cap, .int .i64 ((k + 5) : Nat)] W fun e w' => e = .returned (.tuple #[.int .i64 ((k + 5) : Nat), .int .i64 0]) ∧ Below W.heap.size W w') := Lib.hid fun W hJ => by
    obtain ⟨hb1, hb2, hb3⟩ := HB.out _ W hJ
    exact (partRead_out (some ([], (k + 5))) verW 47 verB false g 1 #[.bool false, .string ⟨#[]⟩, .string ⟨#[]⟩, .string ⟨#[]⟩] 53 A n cap l (k + 5) W (hb1.more hb2) hm (by omega) (by decide) (by decide) hJ.2 (by show (1 : Nat) < 4; decide) (enters_of Tryd.func47 (by kernel_rfl) rfl) (fun s hs W' hb => version_c s W' (by omega)) ho0).mono fun e w' hp => hp.same
  rw [show ((k + 5 : Nat) : Int) = (k : Int) + 5 by omega] at P0
  have P1 : Hid (∀ W, RJ g #[.bool false, .string ⟨#[]⟩, .string ⟨#[]⟩, .string ⟨#[]⟩] w W → Calls Tryd.prog 85 #[.agg #[.string ⟨#[101, 110, 99, 111, 100, 105, 110, 103]⟩, .func (.func 48) #[] #[], .pointer (some ⟨g, 2, none⟩), .bool true], .slice A n cap, .int .i64 ((k + 5) : Nat)] W fun e w' => e = .returned (.tuple #[.int .i64 ((k + 5) : Nat), .int .i64 0]) ∧ Below W.heap.size W w') := Lib.hid fun W hJ => by
    obtain ⟨hb1, hb2, hb3⟩ := HB.out _ W hJ
    exact (partRead_out (some ([], (k + 5))) encW 48 encB true g 2 #[.bool false, .string ⟨#[]⟩, .string ⟨#[]⟩, .string ⟨#[]⟩] 53 A n cap l (k + 5) W (hb1.more hb2) hm (by omega) (by decide) (by decide) hJ.2 (by show (2 : Nat) < 4; decide) (enters_of Tryd.func48 (by kernel_rfl) rfl) (fun s hs W' hb => encoding_c s W' (hb3.below hb hb3.lt)) ho1).mono fun e w' hp => hp.same
  rw [show ((k + 5 : Nat) : Int) = (k : Int) + 5 by omega] at P1
  have CB : Hid (∀ W, RJ g #[.bool false, .string ⟨#[]⟩, .string ⟨#[]⟩, .string ⟨#[]⟩] w W → Calls Tryd.prog 31 #[.slice A n cap, .int .i64 (n : Int)] W fun e w' => e = .returned (.int .i64 (n : Int)) ∧ W = w') := Lib.hid fun W hJ => by
    have := blanks_c A n cap l n _ W (HB.out _ W hJ).1 (by omega) (Nat.le_refl _)
    rwa [blankTo_end l n (by omega)] at this
  have CH : Hid (∀ W, RJ g #[.bool false, .string ⟨#[]⟩, .string ⟨#[]⟩, .string ⟨#[]⟩] w W → Calls Tryd.prog 69 #[.slice (cutA A cap (n)) 0 (cap - n), .slice (some ⟨W.heap.size, 0, none⟩) 2 2] (W.alloc (.cells #[.int .u8 63, .int .u8 62] 5 (2, 3))) fun e w' => e = .returned (.bool false) ∧ Hid (RJ g #[.bool false, .string ⟨#[]⟩, .string ⟨#[]⟩, .string ⟨#[]⟩] w w')) := Lib.hid fun W hJ => by
    have ka := alloc_const W [63, 62] (2, 3) (by decide)
    obtain ⟨hb1, hb2, _⟩ := HB.out _ W hJ
    have := hasPrefix_c _ _ _ _ _ _ _ _ (W.alloc (.cells #[.int .u8 63, .int .u8 62] 5 (2, 3))) _ _ (((hb1.more hb2).below ka.1).drop (k := n) (by omega)) ka.2
    rw [Nat.sub_self] at this
    rw [show [63, 62].isPrefixOf (l.drop n) = false by rw [List.drop_of_length_le (by omega)]; rfl] at this
    exact this.mono fun e w' ⟨he, hw⟩ => ⟨he, Lib.hid (hw ▸ hJ.kept ka.1)⟩
  have hrb : ∀ W : World, (Instr.slice 22 (.slice A n cap) (some (.int .i64 (n : Nat))) none none).run Tryd.prog W = .ok (.slice (cutA A cap (n)) 0 (cap - n)) W := fun W => by have := run_from (w := W) A n cap n (Nat.le_refl _); rwa [Nat.sub_self] at this
  generalize cutA A cap (n) = Rn at *
  have hk0 : (0 : Int) ≤ (k : Int) := by omega
  have hk1 : (k : Int) ≤ 40000 := by omega
  clear h hT hTB hg hP hln hBg HB hk hm hPl hgP ho0 ho1 
  go_enter Tryd.func65, Tryd.ntmps65
  go_wp2_with fail
  go_step3
  go_wp2_with fail
  go_step3
  go_wp2_with fail
  refine wp_loop_rounds 3 ?_
  rw [rounds_succ]
  obtain ⟨x0, x1, x2, x3, x4, x5, x6, x7⟩ := HX.out _ _ HJ.out
  clear x4 x5 x6 x7
  have hn0 := hp_new w (.cells #[.string ⟨#[118, 101, 114, 115, 105, 111, 110]⟩, .func (.func 47) #[] #[], .pointer (some ⟨g, 1, none⟩), .bool false] 93)
  have JA0 := Lib.hid (HJ.out.kept ((Below.refl _ w).alloc (Nat.le_refl _) (.cells #[.string ⟨#[118, 101, 114, 115, 105, 111, 110]⟩, .func (.func 47) #[] #[], .pointer (some ⟨g, 1, none⟩), .bool false] 93)))
  go_wp2_with fail
  clear x0 x1 x2 x3
  refine (P0.out _ JA0.out).mono ?_
  rintro e u1 ⟨rfl, hb1⟩
  have J0 := Lib.hid (JA0.out.kept hb1)
  have m0 : u1.cell? ⟨w.heap.size, 3, none⟩ = some (.bool false) := by rw [hb1.cell (p := ⟨w.heap.size, 3, none⟩) (by simp), cell_of 3 hn0]; rfl
  clear hb1 hn0 JA0
  go_wp2
  clear m0
  rw [rounds_succ]
  obtain ⟨x0, x1, x2, x3, x4, x5, x6, x7⟩ := HX.out _ _ J0.out
  clear x0 x1 x2 x3
  have hn1 := hp_new u1 (.cells #[.string ⟨#[101, 110, 99, 111, 100, 105, 110, 103]⟩, .func (.func 48) #[] #[], .pointer (some ⟨g, 2, none⟩), .bool true] 93)
  have JA1 := Lib.hid (J0.out.kept ((Below.refl _ u1).alloc (Nat.le_refl _) (.cells #[.string ⟨#[101, 110, 99, 111, 100, 105, 110, 103]⟩, .func (.func 48) #[] #[], .pointer (some ⟨g, 2, none⟩), .bool true] 93)))
  go_wp2_with fail
  clear x4 x5 x6 x7
  refine (P1.out _ JA1.out).mono ?_
  rintro e u2 ⟨rfl, hb2⟩
  have J1 := Lib.hid (JA1.out.kept hb2)
  have m1 : u2.cell? ⟨u1.heap.size, 3, none⟩ = some (.bool true) := by rw [hb2.cell (p := ⟨u1.heap.size, 3, none⟩) (by simp), cell_of 3 hn1]; rfl
  clear hb2 hn1 JA1
  go_wp2_with fail
  refine (CB.out _ J1.out).mono ?_
  rintro e wq ⟨rfl, rfl⟩
  clear m1
  go_wp2_with fail
  refine (CH.out _ J1.out).mono ?_
  rintro e wz ⟨rfl, JZ⟩
  clear kc
  go_wp2
  (try rw [Exit.noGoto_ret])
  go_ret2
  exact ⟨rfl, JZ.out⟩
set_option maxRecDepth 100000 in
set_option maxHeartbeats 8000000 in
theorem xdRead_t_found_same (g P B : Nat) (A : Option Addr) (n cap : Nat) (l : List UInt8) (k : Nat) (w : World) (h : Byt w B A n cap l) (hm : n ≤ 40000) (hk : k + 5 ≤ n) (hBg : B ≤ g) (hT : FoldT w) (hTB : 0 < B) (hg : w.heap[g]? = some (.cells #[.bool false, .string ⟨#[]⟩, .string ⟨#[]⟩, .string ⟨#[]⟩] 53)) (hgP : g < P)
    (hP : w.heap[P]? = some (.cells #[.string ⟨#[118, 101, 114, 115, 105, 111, 110]⟩, .func (.func 47) #[] #[], .pointer (some ⟨g, 1, none⟩), .bool false, .string ⟨#[101, 110, 99, 111, 100, 105, 110, 103]⟩, .func (.func 48) #[] #[], .pointer (some ⟨g, 2, none⟩), .bool true] 93)) (s0 : List UInt8) (j0 : Nat) (ho0 : partOut verW verB l (k + 5) = some (s0, j0)) (hlt0 : (k + 5) < j0) (hle0 : j0 ≤ n) (ho1 : partOut encW encB l j0 = some ([], j0)) :
    Calls Tryd.prog 65 #[.slice A n cap, .int .i64 k, .pointer (some ⟨g, 0, none⟩), .slice (some ⟨P, 0, none⟩) 2 2] w fun e w' => e = .returned (.tuple #[.int .i64 0, .int .i64 7]) ∧ RJ g #[.bool false, .string ⟨s0.toArray⟩, .string ⟨#[]⟩, .string ⟨#[]⟩] w w' := by
  have kc := fun (w : World) (C : Array Value) (n c : Nat) => Lib.run_convert_bytes_const (P := Tryd.prog) w 22 5 C n c Tryd.underlying22 Tryd.underlying5
  have hln := h.length
  have hgl := lt_of hg
  have hPl := lt_of hP
  have HJ : Hid (RJ g #[.bool false, .string ⟨#[]⟩, .string ⟨#[]⟩, .string ⟨#[]⟩] w w) := Lib.hid ⟨Fr.refl _ _ _, hg⟩
  have HX : Hid (∀ vs W, RJ g vs w W → W.cell? ⟨P, 0, none⟩ = some (.string ⟨#[118, 101, 114, 115, 105, 111, 110]⟩) ∧ W.cell? ⟨P, 1, none⟩ = some (.func (.func 47) #[] #[]) ∧ W.cell? ⟨P, 2, none⟩ = some (.pointer (some ⟨g, 1, none⟩)) ∧ W.cell? ⟨P, 3, none⟩ = some (.bool false) ∧ W.cell? ⟨P, 4, none⟩ = some (.string ⟨#[101, 110, 99, 111, 100, 105, 110, 103]⟩) ∧ W.cell? ⟨P, 5, none⟩ = some (.func (.func 48) #[] #[]) ∧ W.cell? ⟨P, 6, none⟩ = some (.pointer (some ⟨g, 2, none⟩)) ∧ W.cell? ⟨P, 7, none⟩ = some (.bool true)) := Lib.hid fun vs W hJ => by
    have hne : P ≠ g := by omega
    refine ⟨?_, ?_, ?_, ?_, ?_, ?_, ?_, ?_⟩ <;> (rw [hJ.cell hPl hne, cell_of _ hP]; rfl)
  have HB : Hid (∀ vs W, RJ g vs w W → Byt W B A n cap l ∧ B ≤ W.heap.size ∧ FoldT W) := Lib.hid fun vs W hJ => ⟨hJ.byt h hBg (by omega), by have := hJ.1.size; omega, hT.below (hJ.1.below (B := B) (by omega) hBg) hTB⟩
  have P0 : Hid (∀ W, RJ g #[.bool false, .string ⟨#[]⟩, .string ⟨#[]⟩, .string ⟨#[]⟩] w W → Calls Tryd.prog 85 #[.agg #[.string ⟨#[118, 101, 114, 115, 105, 111, 110]⟩, .func (.func 47) #[] #[], .pointer (some ⟨g, 1, none⟩), .bool false], .slice A n cap, .int .i64 ((k + 5) : Nat)] W fun e w' => e = .returned (.tuple #[.int .i64 (j0 : Int), .int .i64 0]) ∧ ∃ w1, Below W.heap.size W w1 ∧ w' = w1.setCell ⟨g, 1, none⟩ (.string ⟨s0.toArray⟩)) := Lib.hid fun W hJ => by
    obtain ⟨hb1, hb2, hb3⟩ := HB.out _ W hJ
    exact (partRead_out (some (s0, j0)) verW 47 verB false g 1 #[.bool false, .string ⟨#[]⟩, .string ⟨#[]⟩, .string ⟨#[]⟩] 53 A n cap l (k + 5) W (hb1.more hb2) hm (by omega) (by decide) (by decide) hJ.2 (by show (1 : Nat) < 4; decide) (enters_of Tryd.func47 (by kernel_rfl) rfl) (fun s hs W' hb => version_c s W' (by omega)) ho0).mono fun e w' hp => hp.found hlt0
  rw [show ((k + 5 : Nat) : Int) = (k : Int) + 5 by omega] at P0
  have P1 : Hid (∀ W, RJ g #[.bool false, .string ⟨s0.toArray⟩, .string ⟨#[]⟩, .string ⟨#[]⟩] w W → Calls Tryd.prog 85 #[.agg #[.string ⟨#[101, 110, 99, 111, 100, 105, 110, 103]⟩, .func (.func 48) #[] #[], .pointer (some ⟨g, 2, none⟩), .bool true], .slice A n cap, .int .i64 (j0 : Nat)] W fun e w' => e = .returned (.tuple #[.int .i64 (j0 : Nat), .int .i64 0]) ∧ Below W.heap.size W w') := Lib.hid fun W hJ => by
    obtain ⟨hb1, hb2, hb3⟩ := HB.out _ W hJ
    exact (partRead_out (some ([], j0)) encW 48 encB true g 2 #[.bool false, .string ⟨s0.toArray⟩, .string ⟨#[]⟩, .string ⟨#[]⟩] 53 A n cap l j0 W (hb1.more hb2) hm (by omega) (by decide) (by decide) hJ.2 (by show (2 : Nat) < 4; decide) (enters_of Tryd.func48 (by kernel_rfl) rfl) (fun s hs W' hb => encoding_c s W' (hb3.below hb hb3.lt)) ho1).mono fun e w' hp => hp.same
  have CB : Hid (∀ W, RJ g #[.bool false, .string ⟨s0.toArray⟩, .string ⟨#[]⟩, .string ⟨#[]⟩] w W → Calls Tryd.prog 31 #[.slice A n cap, .int .i64 (n : Int)] W fun e w' => e = .returned (.int .i64 (n : Int)) ∧ W = w') := Lib.hid fun W hJ => by
    have := blanks_c A n cap l n _ W (HB.out _ W hJ).1 (by omega) (Nat.le_refl _)
    rwa [blankTo_end l n (by omega)] at this
  have CH : Hid (∀ W, RJ g #[.bool false, .string ⟨s0.toArray⟩, .string ⟨#[]⟩, .string ⟨#[]⟩] w W → Calls Tryd.prog 69 #[.slice (cutA A cap (n)) 0 (cap - n), .slice (some ⟨W.heap.size, 0, none⟩) 2 2] (W.alloc (.cells #[.int .u8 63, .int .u8 62] 5 (2, 3))) fun e w' => e = .returned (.bool false) ∧ Hid (RJ g #[.bool false, .string ⟨s0.toArray⟩, .string ⟨#[]⟩, .string ⟨#[]⟩] w w')) := Lib.hid fun W hJ => by
    have ka := alloc_const W [63, 62] (2, 3) (by decide)
    obtain ⟨hb1, hb2, _⟩ := HB.out _ W hJ
    have := hasPrefix_c _ _ _ _ _ _ _ _ (W.alloc (.cells #[.int .u8 63, .int .u8 62] 5 (2, 3))) _ _ (((hb1.more hb2).below ka.1).drop (k := n) (by omega)) ka.2
    rw [Nat.sub_self] at this
    rw [show [63, 62].isPrefixOf (l.drop n) = false by rw [List.drop_of_length_le (by omega)]; rfl] at this
    exact this.mono fun e w' ⟨he, hw⟩ => ⟨he, Lib.hid (hw ▸ hJ.kept ka.1)⟩
  have hrb : ∀ W : World, (Instr.slice 22 (.slice A n cap) (some (.int .i64 (n : Nat))) none none).run Tryd.prog W = .ok (.slice (cutA A cap (n)) 0 (cap - n)) W := fun W => by have := run_from (w := W) A n cap n (Nat.le_refl _); rwa [Nat.sub_self] at this
  generalize cutA A cap (n) = Rn at *
  have hk0 : (0 : Int) ≤ (k : Int) := by omega
  have hk1 : (k : Int) ≤ 40000 := by omega
  have e0 : ((j0 : Int) == (k : Int) + 5) = false := by simp; omega
  clear h hT hTB hg hP hln hBg HB hk hm hPl hgP ho0 ho1 hlt0 hle0
  go_enter Tryd.func65, Tryd.ntmps65
  go_wp2_with fail
  go_step3
  go_wp2_with fail
  go_step3
  go_wp2_with fail
  refine wp_loop_rounds 3 ?_
  rw [rounds_succ]
  obtain ⟨x0, x1, x2, x3, x4, x5, x6, x7⟩ := HX.out _ _ HJ.out
  clear x4 x5 x6 x7
  have hn0 := hp_new w (.cells #[.string ⟨#[118, 101, 114, 115, 105, 111, 110]⟩, .func (.func 47) #[] #[], .pointer (some ⟨g, 1, none⟩), .bool false] 93)
  have JA0 := Lib.hid (HJ.out.kept ((Below.refl _ w).alloc (Nat.le_refl _) (.cells #[.string ⟨#[118, 101, 114, 115, 105, 111, 110]⟩, .func (.func 47) #[] #[], .pointer (some ⟨g, 1, none⟩), .bool false] 93)))
  go_wp2_with fail
  clear x0 x1 x2 x3
  refine (P0.out _ JA0.out).mono ?_
  rintro e w1 ⟨rfl, v1, hb1, rfl⟩
  have J0 : Hid (RJ g #[.bool false, .string ⟨s0.toArray⟩, .string ⟨#[]⟩, .string ⟨#[]⟩] w (v1.setCell ⟨g, 1, none⟩ (.string ⟨s0.toArray⟩))) := Lib.hid ((JA0.out.kept hb1).set 1 (.string ⟨s0.toArray⟩))
  clear hb1 hn0 JA0
  generalize v1.setCell ⟨g, 1, none⟩ (.string ⟨s0.toArray⟩) = u1 at *
  go_wp2
  rw [rounds_succ]
  obtain ⟨x0, x1, x2, x3, x4, x5, x6, x7⟩ := HX.out _ _ J0.out
  clear x0 x1 x2 x3
  have hn1 := hp_new u1 (.cells #[.string ⟨#[101, 110, 99, 111, 100, 105, 110, 103]⟩, .func (.func 48) #[] #[], .pointer (some ⟨g, 2, none⟩), .bool true] 93)
  have JA1 := Lib.hid (J0.out.kept ((Below.refl _ u1).alloc (Nat.le_refl _) (.cells #[.string ⟨#[101, 110, 99, 111, 100, 105, 110, 103]⟩, .func (.func 48) #[] #[], .pointer (some ⟨g, 2, none⟩), .bool true] 93)))
  go_wp2_with fail
  clear x4 x5 x6 x7
  refine (P1.out _ JA1.out).mono ?_
  rintro e u2 ⟨rfl, hb2⟩
  have J1 := Lib.hid (JA1.out.kept hb2)
  have m1 : u2.cell? ⟨u1.heap.size, 3, none⟩ = some (.bool true) := by rw [hb2.cell (p := ⟨u1.heap.size, 3, none⟩) (by simp), cell_of 3 hn1]; rfl
  clear hb2 hn1 JA1
  go_wp2_with fail
  refine (CB.out _ J1.out).mono ?_
  rintro e wq ⟨rfl, rfl⟩
  clear m1
  go_wp2_with fail
  refine (CH.out _ J1.out).mono ?_
  rintro e wz ⟨rfl, JZ⟩
  clear kc
  go_wp2
  (try rw [Exit.noGoto_ret])
  go_ret2
  exact ⟨rfl, JZ.out⟩
set_option maxRecDepth 100000 in
set_option maxHeartbeats 8000000 in
theorem xdRead_t_none (g P B : Nat) (A : Option Addr) (n cap : Nat) (l : List UInt8) (k : Nat) (w : World) (h : Byt w B A n cap l) (hm : n ≤ 40000) (hk : k + 5 ≤ n) (hBg : B ≤ g) (hT : FoldT w) (hTB : 0 < B) (hg : w.heap[g]? = some (.cells #[.bool false, .string ⟨#[]⟩, .string ⟨#[]⟩, .string ⟨#[]⟩] 53)) (hgP : g < P)
    (hP : w.heap[P]? = some (.cells #[.string ⟨#[118, 101, 114, 115, 105, 111, 110]⟩, .func (.func 47) #[] #[], .pointer (some ⟨g, 1, none⟩), .bool false, .string ⟨#[101, 110, 99, 111, 100, 105, 110, 103]⟩, .func (.func 48) #[] #[], .pointer (some ⟨g, 2, none⟩), .bool true] 93)) (ho0 : partOut verW verB l (k + 5) = none) :
    Calls Tryd.prog 65 #[.slice A n cap, .int .i64 k, .pointer (some ⟨g, 0, none⟩), .slice (some ⟨P, 0, none⟩) 2 2] w fun e w' => e = .returned (.tuple #[.int .i64 0, .int .i64 7]) ∧ RJ g #[.bool false, .string ⟨#[]⟩, .string ⟨#[]⟩, .string ⟨#[]⟩] w w' := by
  have hln := h.length
  have hgl := lt_of hg
  have hPl := lt_of hP
  have HJ : Hid (RJ g #[.bool false, .string ⟨#[]⟩, .string ⟨#[]⟩, .string ⟨#[]⟩] w w) := Lib.hid ⟨Fr.refl _ _ _, hg⟩
  have HX : Hid (∀ vs W, RJ g vs w W → W.cell? ⟨P, 0, none⟩ = some (.string ⟨#[118, 101, 114, 115, 105, 111, 110]⟩) ∧ W.cell? ⟨P, 1, none⟩ = some (.func (.func 47) #[] #[]) ∧ W.cell? ⟨P, 2, none⟩ = some (.pointer (some ⟨g, 1, none⟩)) ∧ W.cell? ⟨P, 3, none⟩ = some (.bool false) ∧ W.cell? ⟨P, 4, none⟩ = some (.string ⟨#[101, 110, 99, 111, 100, 105, 110, 103]⟩) ∧ W.cell? ⟨P, 5, none⟩ = some (.func (.func 48) #[] #[]) ∧ W.cell? ⟨P, 6, none⟩ = some (.pointer (some ⟨g, 2, none⟩)) ∧ W.cell? ⟨P, 7, none⟩ = some (.bool true)) := Lib.hid fun vs W hJ => by
    have hne : P ≠ g := by omega
    refine ⟨?_, ?_, ?_, ?_, ?_, ?_, ?_, ?_⟩ <;> (rw [hJ.cell hPl hne, cell_of _ hP]; rfl)
  have HB : Hid (∀ vs W, RJ g vs w W → Byt W B A n cap l ∧ B ≤ W.heap.size ∧ FoldT W) := Lib.hid fun vs W hJ => ⟨hJ.byt h hBg (by omega), by have := hJ.1.size; omega, hT.below (hJ.1.below (B := B) (by omega) hBg) hTB⟩
  have P0 : Hid (∀ W, RJ g #[.bool false, .string ⟨#[]⟩, .string ⟨#[]⟩, .string ⟨#[]⟩] w W → Calls Tryd.prog 85 #[.agg #[.string ⟨#[118, 101, 114, 115, 105, 111, 110]⟩, .func (.func 47) #[] #[], .pointer (some ⟨g, 1, none⟩), .bool false], .slice A n cap, .int .i64 ((k + 5) : Nat)] W fun e w' => e = .returned (.tuple #[.int .i64 0, .int .i64 7]) ∧ Below W.heap.size W w') := Lib.hid fun W hJ => by
    obtain ⟨hb1, hb2, hb3⟩ := HB.out _ W hJ
    exact (partRead_out (none) verW 47 verB false g 1 #[.bool false, .string ⟨#[]⟩, .string ⟨#[]⟩, .string ⟨#[]⟩] 53 A n cap l (k + 5) W (hb1.more hb2) hm (by omega) (by decide) (by decide) hJ.2 (by show (1 : Nat) < 4; decide) (enters_of Tryd.func47 (by kernel_rfl) rfl) (fun s hs W' hb => version_c s W' (by omega)) ho0).mono fun e w' hp => hp
  rw [show ((k + 5 : Nat) : Int) = (k : Int) + 5 by omega] at P0
  have hk0 : (0 : Int) ≤ (k : Int) := by omega
  have hk1 : (k : Int) ≤ 40000 := by omega
  clear h hT hTB hg hP hln hBg HB hk hm hPl hgP ho0 
  go_enter Tryd.func65, Tryd.ntmps65
  go_wp2_with fail
  go_step3
  go_wp2_with fail
  go_step3
  go_wp2_with fail
  refine wp_loop_rounds 3 ?_
  rw [rounds_succ]
  obtain ⟨x0, x1, x2, x3, x4, x5, x6, x7⟩ := HX.out _ _ HJ.out
  clear x4 x5 x6 x7
  have hn0 := hp_new w (.cells #[.string ⟨#[118, 101, 114, 115, 105, 111, 110]⟩, .func (.func 47) #[] #[], .pointer (some ⟨g, 1, none⟩), .bool false] 93)
  have JA0 := Lib.hid (HJ.out.kept ((Below.refl _ w).alloc (Nat.le_refl _) (.cells #[.string ⟨#[118, 101, 114, 115, 105, 111, 110]⟩, .func (.func 47) #[] #[], .pointer (some ⟨g, 1, none⟩), .bool false] 93)))
  go_wp2_with fail
  clear x0 x1 x2 x3
  refine (P0.out _ JA0.out).mono ?_
  rintro e u1 ⟨rfl, hb1⟩
  have J0 := Lib.hid (JA0.out.kept hb1)
  clear hb1 hn0 JA0
  go_wp2
  (try rw [Exit.noGoto_ret])
  go_ret2
  exact ⟨rfl, J0.out⟩
set_option maxRecDepth 100000 in
set_option maxHeartbeats 8000000 in
theorem xdRead_t_same_none (g P B : Nat) (A : Option Addr) (n cap : Nat) (l : List UInt8) (k : Nat) (w : World) (h : Byt w B A n cap l) (hm : n ≤ 40000) (hk : k + 5 ≤ n) (hBg : B ≤ g) (hT : FoldT w) (hTB : 0 < B) (hg : w.heap[g]? = some (.cells #[.bool false, .string ⟨#[]⟩, .string ⟨#[]⟩, .string ⟨#[]⟩] 53)) (hgP : g < P)
    (hP : w.heap[P]? = some (.cells #[.string ⟨#[118, 101, 114, 115, 105, 111, 110]⟩, .func (.func 47) #[] #[], .pointer (some ⟨g, 1, none⟩), .bool false, .string ⟨#[101, 110, 99, 111, 100, 105, 110, 103]⟩, .func (.func 48) #[] #[], .pointer (some ⟨g, 2, none⟩), .bool true] 93)) (ho0 : partOut verW verB l (k + 5) = some ([], (k + 5))) (ho1 : partOut encW encB l (k + 5) = none) :
    Calls Tryd.prog 65 #[.slice A n cap, .int .i64 k, .pointer (some ⟨g, 0, none⟩), .slice (some ⟨P, 0, none⟩) 2 2] w fun e w' => e = .returned (.tuple #[.int .i64 0, .int .i64 7]) ∧ RJ g #[.bool false, .string ⟨#[]⟩, .string ⟨#[]⟩, .string ⟨#[]⟩] w w' := by
  have hln := h.length
  have hgl := lt_of hg
  have hPl := lt_of hP
  have HJ : Hid (RJ g #[.bool false, .string ⟨#[]⟩, .string ⟨#[]⟩, .string ⟨#[]⟩] w w) := Lib.hid ⟨Fr.refl _ _ _, hg⟩
  have HX : Hid (∀ vs W, RJ g vs w W → W.cell? ⟨P, 0, none⟩ = some (.string ⟨#[118, 101, 114, 115, 105, 111, 110]⟩) ∧ W.cell? ⟨P, 1, none⟩ = some (.func (.func 47) #[] #[]) ∧ W.cell? ⟨P, 2, none⟩ = some (.pointer (some ⟨g, 1, none⟩)) ∧ W.cell? ⟨P, 3, none⟩ = some (.bool false) ∧ W.cell? ⟨P, 4, none⟩ = some (.string ⟨#[101, 110, 99, 111, 100, 105, 110, 103]⟩) ∧ W.cell? ⟨P, 5, none⟩ = some (.func (.func 48) #[] #[]) ∧ W.cell? ⟨P, 6, none⟩ = some (.pointer (some ⟨g, 2, none⟩)) ∧ W.cell? ⟨P, 7, none⟩ = some (.bool true)) := Lib.hid fun vs W hJ => by
    have hne : P ≠ g := by omega
    refine ⟨?_, ?_, ?_, ?_, ?_, ?_, ?_, ?_⟩ <;> (rw [hJ.cell hPl hne, cell_of _ hP]; rfl)
  have HB : Hid (∀ vs W, RJ g vs w W → Byt W B A n cap l ∧ B ≤ W.heap.size ∧ FoldT W) := Lib.hid fun vs W hJ => ⟨hJ.byt h hBg (by omega), by have := hJ.1.size; omega, hT.below (hJ.1.below (B := B) (by omega) hBg) hTB⟩
  have P0 : Hid (∀ W, RJ g #[.bool false, .string ⟨#[]⟩, .string ⟨#[]⟩, .string ⟨#[]⟩] w W → Calls Tryd.prog 85 #[.agg #[.string ⟨#[118, 101, 114, 115, 105, 111, 110]⟩, .func (.func 47) #[] #[], .pointer (some ⟨g, 1, none⟩), .bool false], .slice A n cap, .int .i64 ((k + 5) : Nat)] W fun e w' => e = .returned (.tuple #[.int .i64 ((k + 5) : Nat), .int .i64 0]) ∧ Below W.heap.size W w') := Lib.hid fun W hJ => by
    obtain ⟨hb1, hb2, hb3⟩ := HB.out _ W hJ
    exact (partRead_out (some ([], (k + 5))) verW 47 verB false g 1 #[.bool false, .string ⟨#[]⟩, .string ⟨#[]⟩, .string ⟨#[]⟩] 53 A n cap l (k + 5) W (hb1.more hb2) hm (by omega) (by decide) (by decide) hJ.2 (by show (1 : Nat) < 4; decide) (enters_of Tryd.func47 (by kernel_rfl) rfl) (fun s hs W' hb => version_c s W' (by omega)) ho0).mono fun e w' hp => hp.same
  rw [show ((k + 5 : Nat) : Int) = (k : Int) + 5 by omega] at P0
  have P1 : Hid (∀ W, RJ g #[.bool false, .string ⟨#[]⟩, .string ⟨#[]⟩, .string ⟨#[]⟩] w W → Calls Tryd.prog 85 #[.agg #[.string ⟨#[101, 110, 99, 111, 100, 105, 110, 103]⟩, .func (.func 48) #[] #[], .pointer (some ⟨g, 2, none⟩), .bool true], .slice A n cap, .int .i64 ((k + 5) : Nat)] W fun e w' => e = .returned (.tuple #[.int .i64 0, .int .i64 7]) ∧ Below W.heap.size W w') := Lib.hid fun W hJ => by
    obtain ⟨hb1, hb2, hb3⟩ := HB.out _ W hJ
    exact (partRead_out (none) encW 48 encB true g 2 #[.bool false, .string ⟨#[]⟩, .string ⟨#[]⟩, .string ⟨#[]⟩] 53 A n cap l (k + 5) W (hb1.more hb2) hm (by omega) (by decide) (by decide) hJ.2 (by show (2 : Nat) < 4; decide) (enters_of Tryd.func48 (by kernel_rfl) rfl) (fun s hs W' hb => encoding_c s W' (hb3.below hb hb3.lt)) ho1).mono fun e w' hp => hp
  rw [show ((k + 5 : Nat) : Int) = (k : Int) + 5 by omega] at P1
  have hk0 : (0 : Int) ≤ (k : Int) := by omega
  have hk1 : (k : Int) ≤ 40000 := by omega
  clear h hT hTB hg hP hln hBg HB hk hm hPl hgP ho0 ho1 
  go_enter Tryd.func65, Tryd.ntmps65
  go_wp2_with fail
  go_step3
  go_wp2_with fail
  go_step3
  go_wp2_with fail
  refine wp_loop_rounds 3 ?_
  rw [rounds_succ]
  obtain ⟨x0, x1, x2, x3, x4, x5, x6, x7⟩ := HX.out _ _ HJ.out
  clear x4 x5 x6 x7
  have hn0 := hp_new w (.cells #[.string ⟨#[118, 101, 114, 115, 105, 111, 110]⟩, .func (.func 47) #[] #[], .pointer (some ⟨g, 1, none⟩), .bool false] 93)
  have JA0 := Lib.hid (HJ.out.kept ((Below.refl _ w).alloc (Nat.le_refl _) (.cells #[.string ⟨#[118, 101, 114, 115, 105, 111, 110]⟩, .func (.func 47) #[] #[], .pointer (some ⟨g, 1, none⟩), .bool false] 93)))
  go_wp2_with fail
  clear x0 x1 x2 x3
  refine (P0.out _ JA0.out).mono ?_
  rintro e u1 ⟨rfl, hb1⟩
  have J0 := Lib.hid (JA0.out.kept hb1)
  have m0 : u1.cell? ⟨w.heap.size, 3, none⟩ = some (.bool false) := by rw [hb1.cell (p := ⟨w.heap.size, 3, none⟩) (by simp), cell_of 3 hn0]; rfl
  clear hb1 hn0 JA0
  go_wp2
  clear m0
  rw [rounds_succ]
  obtain ⟨x0, x1, x2, x3, x4, x5, x6, x7⟩ := HX.out _ _ J0.out
  clear x0 x1 x2 x3
  have hn1 := hp_new u1 (.cells #[.string ⟨#[101, 110, 99, 111, 100, 105, 110, 103]⟩, .func (.func 48) #[] #[], .pointer (some ⟨g, 2, none⟩), .bool true] 93)
  have JA1 := Lib.hid (J0.out.kept ((Below.refl _ u1).alloc (Nat.le_refl _) (.cells #[.string ⟨#[101, 110, 99, 111, 100, 105, 110, 103]⟩, .func (.func 48) #[] #[], .pointer (some ⟨g, 2, none⟩), .bool true] 93)))
  go_wp2_with fail
  clear x4 x5 x6 x7
  refine (P1.out _ JA1.out).mono ?_
  rintro e u2 ⟨rfl, hb2⟩
  have J1 := Lib.hid (JA1.out.kept hb2)
  clear hb2 hn1 JA1
  go_wp2
  (try rw [Exit.noGoto_ret])
  go_ret2
  exact ⟨rfl, J1.out⟩
set_option maxRecDepth 100000 in
set_option maxHeartbeats 8000000 in
theorem xdRead_t_same_found_yes (g P B : Nat) (A : Option Addr) (n cap : Nat) (l : List UInt8) (k : Nat) (w : World) (h : Byt w B A n cap l) (hm : n ≤ 40000) (hk : k + 5 ≤ n) (hBg : B ≤ g) (hT : FoldT w) (hTB : 0 < B) (hg : w.heap[g]? = some (.cells #[.bool false, .string ⟨#[]⟩, .string ⟨#[]⟩, .string ⟨#[]⟩] 53)) (hgP : g < P)
    (hP : w.heap[P]? = some (.cells #[.string ⟨#[118, 101, 114, 115, 105, 111, 110]⟩, .func (.func 47) #[] #[], .pointer (some ⟨g, 1, none⟩), .bool false, .string ⟨#[101, 110, 99, 111, 100, 105, 110, 103]⟩, .func (.func 48) #[] #[], .pointer (some ⟨g, 2, none⟩), .bool true] 93)) (ho0 : partOut verW verB l (k + 5) = some ([], (k + 5))) (s1 : List UInt8) (j1 : Nat) (ho1 : partOut encW encB l (k + 5) = some (s1, j1)) (hlt1 : (k + 5) < j1) (hle1 : j1 ≤ n) (ht : [63, 62].isPrefixOf (l.drop (blankTo l j1)) = true) :
    Calls Tryd.prog 65 #[.slice A n cap, .int .i64 k, .pointer (some ⟨g, 0, none⟩), .slice (some ⟨P, 0, none⟩) 2 2] w fun e w' => e = .returned (.tuple #[.int .i64 ((blankTo l j1 : Int) + 2), .int .i64 0]) ∧ RJ g #[.bool false, .string ⟨#[]⟩, .string ⟨s1.toArray⟩, .string ⟨#[]⟩] w w' := by
  have kc := fun (w : World) (C : Array Value) (n c : Nat) => Lib.run_convert_bytes_const (P := Tryd.prog) w 22 5 C n c Tryd.underlying22 Tryd.underlying5
  have hln := h.length
  have hgl := lt_of hg
  have hPl := lt_of hP
  have HJ : Hid (RJ g #[.bool false, .string ⟨#[]⟩, .string ⟨#[]⟩, .string ⟨#[]⟩] w w) := Lib.hid ⟨Fr.refl _ _ _, hg⟩
  have HX : Hid (∀ vs W, RJ g vs w W → W.cell? ⟨P, 0, none⟩ = some (.string ⟨#[118, 101, 114, 115, 105, 111, 110]⟩) ∧ W.cell? ⟨P, 1, none⟩ = some (.func (.func 47) #[] #[]) ∧ W.cell? ⟨P, 2, none⟩ = some (.pointer (some ⟨g, 1, none⟩)) ∧ W.cell? ⟨P, 3, none⟩ = some (.bool false) ∧ W.cell? ⟨P, 4, none⟩ = some (.string ⟨#[101, 110, 99, 111, 100, 105, 110, 103]⟩) ∧ W.cell? ⟨P, 5, none⟩ = some (.func (.func 48) #[] #[]) ∧ W.cell? ⟨P, 6, none⟩ = some (.pointer (some ⟨g, 2, none⟩)) ∧ W.cell? ⟨P, 7, none⟩ = some (.bool true)) := Lib.hid fun vs W hJ => by
    have hne : P ≠ g := by omega
    refine ⟨?_, ?_, ?_, ?_, ?_, ?_, ?_, ?_⟩ <;> (rw [hJ.cell hPl hne, cell_of _ hP]; rfl)
  have HB : Hid (∀ vs W, RJ g vs w W → Byt W B A n cap l ∧ B ≤ W.heap.size ∧ FoldT W) := Lib.hid fun vs W hJ => ⟨hJ.byt h hBg (by omega), by have := hJ.1.size; omega, hT.below (hJ.1.below (B := B) (by omega) hBg) hTB⟩
  have P0 : Hid (∀ W, RJ g #[.bool false, .string ⟨#[]⟩, .string ⟨#[]⟩, .string ⟨#[]⟩] w W → Calls Tryd.prog 85 #[.agg #[.string ⟨#[118, 101, 114, 115, 105, 111, 110]⟩, .func (.func 47) #[] #[], .pointer (some ⟨g, 1, none⟩), .bool false], .slice A n cap, .int .i64 ((k + 5) : Nat)] W fun e w' => e = .returned (.tuple #[.int .i64 ((k + 5) : Nat), .int .i64 0]) ∧ Below W.heap.size W w') := Lib.hid fun W hJ => by
    obtain ⟨hb1, hb2, hb3⟩ := HB.out _ W hJ
    exact (partRead_out (some ([], (k + 5))) verW 47 verB false g 1 #[.bool false, .string ⟨#[]⟩, .string ⟨#[]⟩, .string ⟨#[]⟩] 53 A n cap l (k + 5) W (hb1.more hb2) hm (by omega) (by decide) (by decide) hJ.2 (by show (1 : Nat) < 4; decide) (enters_of Tryd.func47 (by kernel_rfl) rfl) (fun s hs W' hb => version_c s W' (by omega)) ho0).mono fun e w' hp => hp.same
  rw [show ((k + 5 : Nat) : Int) = (k : Int) + 5 by omega] at P0
  have P1 : Hid (∀ W, RJ g #[.bool false, .string ⟨#[]⟩, .string ⟨#[]⟩, .string ⟨#[]⟩] w W → Calls Tryd.prog 85 #[.agg #[.string ⟨#[101, 110, 99, 111, 100, 105, 110, 103]⟩, .func (.func 48) #[] #[], .pointer (some ⟨g, 2, none⟩), .bool true], .slice A n cap, .int .i64 ((k + 5) : Nat)] W fun e w' => e = .returned (.tuple #[.int .i64 (j1 : Int), .int .i64 0]) ∧ ∃ w1, Below W.heap.size W w1 ∧ w' = w1.setCell ⟨g, 2, none⟩ (.string ⟨s1.toArray⟩)) := Lib.hid fun W hJ => by
    obtain ⟨hb1, hb2, hb3⟩ := HB.out _ W hJ
    exact (partRead_out (some (s1, j1)) encW 48 encB true g 2 #[.bool false, .string ⟨#[]⟩, .string ⟨#[]⟩, .string ⟨#[]⟩] 53 A n cap l (k + 5) W (hb1.more hb2) hm (by omega) (by decide) (by decide) hJ.2 (by show (2 : Nat) < 4; decide) (enters_of Tryd.func48 (by kernel_rfl) rfl) (fun s hs W' hb => encoding_c s W' (hb3.below hb hb3.lt)) ho1).mono fun e w' hp => hp.found hlt1
  rw [show ((k + 5 : Nat) : Int) = (k : Int) + 5 by omega] at P1
  have CB : Hid (∀ W, RJ g #[.bool false, .string ⟨#[]⟩, .string ⟨s1.toArray⟩, .string ⟨#[]⟩] w W → Calls Tryd.prog 31 #[.slice A n cap, .int .i64 (j1 : Nat)] W fun e w' => e = .returned (.int .i64 (blankTo l j1)) ∧ W = w') := Lib.hid fun W hJ => blanks_c A n cap l j1 _ W (HB.out _ W hJ).1 (by omega) (by omega)
  have hbl := blankTo_le l j1 (by omega)
  have CH : Hid (∀ W, RJ g #[.bool false, .string ⟨#[]⟩, .string ⟨s1.toArray⟩, .string ⟨#[]⟩] w W → Calls Tryd.prog 69 #[.slice (cutA A cap (blankTo l j1)) (n - blankTo l j1) (cap - blankTo l j1), .slice (some ⟨W.heap.size, 0, none⟩) 2 2] (W.alloc (.cells #[.int .u8 63, .int .u8 62] 5 (2, 3))) fun e w' => e = .returned (.bool true) ∧ Hid (RJ g #[.bool false, .string ⟨#[]⟩, .string ⟨s1.toArray⟩, .string ⟨#[]⟩] w w')) := Lib.hid fun W hJ => by
    have ka := alloc_const W [63, 62] (2, 3) (by decide)
    obtain ⟨hb1, hb2, _⟩ := HB.out _ W hJ
    have := hasPrefix_c _ _ _ _ _ _ _ _ (W.alloc (.cells #[.int .u8 63, .int .u8 62] 5 (2, 3))) _ _ (((hb1.more hb2).below ka.1).drop (k := blankTo l j1) (by omega)) ka.2
    rw [ht] at this
    exact this.mono fun e w' ⟨he, hw⟩ => ⟨he, Lib.hid (hw ▸ hJ.kept ka.1)⟩
  have hrb : ∀ W : World, (Instr.slice 22 (.slice A n cap) (some (.int .i64 (blankTo l j1 : Nat))) none none).run Tryd.prog W = .ok (.slice (cutA A cap (blankTo l j1)) (n - blankTo l j1) (cap - blankTo l j1)) W := fun W => run_from A n cap (blankTo l j1) (by omega)
  have hbi : (blankTo l j1 : Int) ≤ 40000 := by omega
  generalize hbt : blankTo l j1 = bt at *
  have hk0 : (0 : Int) ≤ (k : Int) := by omega
  have hk1 : (k : Int) ≤ 40000 := by omega
  have e1 : ((j1 : Int) == (k : Int) + 5) = false := by simp; omega
  clear h hT hTB hg hP hln hBg HB hk hm hPl hgP ho0 ho1 hlt1 hle1 ht hbl hbt
  go_enter Tryd.func65, Tryd.ntmps65
  go_wp2_with fail
  go_step3
  go_wp2_with fail
  go_step3
  go_wp2_with fail
  refine wp_loop_rounds 3 ?_
  rw [rounds_succ]
  obtain ⟨x0, x1, x2, x3, x4, x5, x6, x7⟩ := HX.out _ _ HJ.out
  clear x4 x5 x6 x7
  have hn0 := hp_new w (.cells #[.string ⟨#[118, 101, 114, 115, 105, 111, 110]⟩, .func (.func 47) #[] #[], .pointer (some ⟨g, 1, none⟩), .bool false] 93)
  have JA0 := Lib.hid (HJ.out.kept ((Below.refl _ w).alloc (Nat.le_refl _) (.cells #[.string ⟨#[118, 101, 114, 115, 105, 111, 110]⟩, .func (.func 47) #[] #[], .pointer (some ⟨g, 1, none⟩), .bool false] 93)))
  go_wp2_with fail
  clear x0 x1 x2 x3
  refine (P0.out _ JA0.out).mono ?_
  rintro e u1 ⟨rfl, hb1⟩
  have J0 := Lib.hid (JA0.out.kept hb1)
  have m0 : u1.cell? ⟨w.heap.size, 3, none⟩ = some (.bool false) := by rw [hb1.cell (p := ⟨w.heap.size, 3, none⟩) (by simp), cell_of 3 hn0]; rfl
  clear hb1 hn0 JA0
  go_wp2
  clear m0
  rw [rounds_succ]
  obtain ⟨x0, x1, x2, x3, x4, x5, x6, x7⟩ := HX.out _ _ J0.out
  clear x0 x1 x2 x3
  have hn1 := hp_new u1 (.cells #[.string ⟨#[101, 110, 99, 111, 100, 105, 110, 103]⟩, .func (.func 48) #[] #[], .pointer (some ⟨g, 2, none⟩), .bool true] 93)
  have JA1 := Lib.hid (J0.out.kept ((Below.refl _ u1).alloc (Nat.le_refl _) (.cells #[.string ⟨#[101, 110, 99, 111, 100, 105, 110, 103]⟩, .func (.func 48) #[] #[], .pointer (some ⟨g, 2, none⟩), .bool true] 93)))
  go_wp2_with fail
  clear x4 x5 x6 x7
  refine (P1.out _ JA1.out).mono ?_
  rintro e w2 ⟨rfl, v2, hb2, rfl⟩
  have J1 : Hid (RJ g #[.bool false, .string ⟨#[]⟩, .string ⟨s1.toArray⟩, .string ⟨#[]⟩] w (v2.setCell ⟨g, 2, none⟩ (.string ⟨s1.toArray⟩))) := Lib.hid ((JA1.out.kept hb2).set 2 (.string ⟨s1.toArray⟩))
  clear hb2 hn1 JA1
  generalize v2.setCell ⟨g, 2, none⟩ (.string ⟨s1.toArray⟩) = u2 at *
  go_wp2
  rw [rounds_succ]
  go_wp2_with fail
  refine (CB.out _ J1.out).mono ?_
  rintro e wq ⟨rfl, rfl⟩
  go_wp2_with fail
  refine (CH.out _ J1.out).mono ?_
  rintro e wz ⟨rfl, JZ⟩
  clear kc
  go_wp2
  (try rw [Exit.noGoto_ret])
  go_ret2
  exact ⟨rfl, JZ.out⟩
set_option maxRecDepth 100000 in
set_option maxHeartbeats 8000000 in
theorem xdRead_t_same_found_no (g P B : Nat) (A : Option Addr) (n cap : Nat) (l : List UInt8) (k : Nat) (w : World) (h : Byt w B A n cap l) (hm : n ≤ 40000) (hk : k + 5 ≤ n) (hBg : B ≤ g) (hT : FoldT w) (hTB : 0 < B) (hg : w.heap[g]? = some (.cells #[.bool false, .string ⟨#[]⟩, .string ⟨#[]⟩, .string ⟨#[]⟩] 53)) (hgP : g < P)
    (hP : w.heap[P]? = some (.cells #[.string ⟨#[118, 101, 114, 115, 105, 111, 110]⟩, .func (.func 47) #[] #[], .pointer (some ⟨g, 1, none⟩), .bool false, .string ⟨#[101, 110, 99, 111, 100, 105, 110, 103]⟩, .func (.func 48) #[] #[], .pointer (some ⟨g, 2, none⟩), .bool true] 93)) (ho0 : partOut verW verB l (k + 5) = some ([], (k + 5))) (s1 : List UInt8) (j1 : Nat) (ho1 : partOut encW encB l (k + 5) = some (s1, j1)) (hlt1 : (k + 5) < j1) (hle1 : j1 ≤ n) (ht : [63, 62].isPrefixOf (l.drop (blankTo l j1)) = false) :
    Calls Tryd.prog 65 #[.slice A n cap, .int .i64 k, .pointer (some ⟨g, 0, none⟩), .slice (some ⟨P, 0, none⟩) 2 2] w fun e w' => e = .returned (.tuple #[.int .i64 0, .int .i64 7]) ∧ RJ g #[.bool false, .string ⟨#[]⟩, .string ⟨s1.toArray⟩, .string ⟨#[]⟩] w w' := by
  have kc := fun (w : World) (C : Array Value) (n c : Nat) => Lib.run_convert_bytes_const (P := Tryd.prog) w 22 5 C n c Tryd.underlying22 Tryd.underlying5
  have hln := h.length
  have hgl := lt_of hg
  have hPl := lt_of hP
  have HJ : Hid (RJ g #[.bool false, .string ⟨#[]⟩, .string ⟨#[]⟩, .string ⟨#[]⟩] w w) := Lib.hid ⟨Fr.refl _ _ _, hg⟩
  have HX : Hid (∀ vs W, RJ g vs w W → W.cell? ⟨P, 0, none⟩ = some (.string ⟨#[118, 101, 114, 115, 105, 111, 110]⟩) ∧ W.cell? ⟨P, 1, none⟩ = some (.func (.func 47) #[] #[]) ∧ W.cell? ⟨P, 2, none⟩ = some (.pointer (some ⟨g, 1, none⟩)) ∧ W.cell? ⟨P, 3, none⟩ = some (.bool false) ∧ W.cell? ⟨P, 4, none⟩ = some (.string ⟨#[101, 110, 99, 111, 100, 105, 110, 103]⟩) ∧ W.cell? ⟨P, 5, none⟩ = some (.func (.func 48) #[] #[]) ∧ W.cell? ⟨P, 6, none⟩ = some (.pointer (some ⟨g, 2, none⟩)) ∧ W.cell? ⟨P, 7, none⟩ = some (.bool true)) := Lib.hid fun vs W hJ => by
    have hne : P ≠ g := by omega
    refine ⟨?_, ?_, ?_, ?_, ?_, ?_, ?_, ?_⟩ <;> (rw [hJ.cell hPl hne, cell_of _ hP]; rfl)
  have HB : Hid (∀ vs W, RJ g vs w W → Byt W B A n cap l ∧ B ≤ W.heap.size ∧ FoldT W) := Lib.hid fun vs W hJ => ⟨hJ.byt h hBg (by omega), by have := hJ.1.size; omega, hT.below (hJ.1.below (B := B) (by omega) hBg) hTB⟩
  have P0 : Hid (∀ W, RJ g #[.bool false, .string ⟨#[]⟩, .string ⟨#[]⟩, .string ⟨#[]⟩] w W → Calls Tryd.prog 85 #[.agg #[.string ⟨#[118, 101, 114, 115, 105, 111, 110]⟩, .func (.func 47) #[] #[], .pointer (some ⟨g, 1, none⟩), .bool false], .slice A n cap, .int .i64 ((k + 5) : Nat)] W fun e w' => e = .returned (.tuple #[.int .i64 ((k + 5) : Nat), .int .i64 0]) ∧ Below W.heap.size W w') := Lib.hid fun W hJ => by
    obtain ⟨hb1, hb2, hb3⟩ := HB.out _ W hJ
    exact (partRead_out (some ([], (k + 5))) verW 47 verB false g 1 #[.bool false, .string ⟨#[]⟩, .string ⟨#[]⟩, .string ⟨#[]⟩] 53 A n cap l (k + 5) W (hb1.more hb2) hm (by omega) (by decide) (by decide) hJ.2 (by show (1 : Nat) < 4; decide) (enters_of Tryd.func47 (by kernel_rfl) rfl) (fun s hs W' hb => version_c s W' (by omega)) ho0).mono fun e w' hp => hp.same
  rw [show ((k + 5 : Nat) : Int) = (k : Int) + 5 by omega] at P0
  have P1 : Hid (∀ W, RJ g #[.bool false, .string ⟨#[]⟩, .string ⟨#[]⟩, .string ⟨#[]⟩] w W → Calls Tryd.prog 85 #[.agg #[.string ⟨#[101, 110, 99, 111, 100, 105, 110, 103]⟩, .func (.func 48) #[] #[], .pointer (some ⟨g, 2, none⟩), .bool true], .slice A n cap, .int .i64 ((k + 5) : Nat)] W fun e w' => e = .returned (.tuple #[.int .i64 (j1 : Int), .int .i64 0]) ∧ ∃ w1, Below W.heap.size W w1 ∧ w' = w1.setCell ⟨g, 2, none⟩ (.string ⟨s1.toArray⟩)) := Lib.hid fun W hJ => by
    obtain ⟨hb1, hb2, hb3⟩ := HB.out _ W hJ
    exact (partRead_out (some (s1, j1)) encW 48 encB true g 2 #[.bool false, .string ⟨#[]⟩, .string ⟨#[]⟩, .string ⟨#[]⟩] 53 A n cap l (k + 5) W (hb1.more hb2) hm (by omega) (by decide) (by decide) hJ.2 (by show (2 : Nat) < 4; decide) (enters_of Tryd.func48 (by kernel_rfl) rfl) (fun s hs W' hb => encoding_c s W' (hb3.below hb hb3.lt)) ho1).mono fun e w' hp => hp.found hlt1
  rw [show ((k + 5 : Nat) : Int) = (k : Int) + 5 by omega] at P1
  have CB : Hid (∀ W, RJ g #[.bool false, .string ⟨#[]⟩, .string ⟨s1.toArray⟩, .string ⟨#[]⟩] w W → Calls Tryd.prog 31 #[.slice A n cap, .int .i64 (j1 : Nat)] W fun e w' => e = .returned (.int .i64 (blankTo l j1)) ∧ W = w') := Lib.hid fun W hJ => blanks_c A n cap l j1 _ W (HB.out _ W hJ).1 (by omega) (by omega)
  have hbl := blankTo_le l j1 (by omega)
  have CH : Hid (∀ W, RJ g #[.bool false, .string ⟨#[]⟩, .string ⟨s1.toArray⟩, .string ⟨#[]⟩] w W → Calls Tryd.prog 69 #[.slice (cutA A cap (blankTo l j1)) (n - blankTo l j1) (cap - blankTo l j1), .slice (some ⟨W.heap.size, 0, none⟩) 2 2] (W.alloc (.cells #[.int .u8 63, .int .u8 62] 5 (2, 3))) fun e w' => e = .returned (.bool false) ∧ Hid (RJ g #[.bool false, .string ⟨#[]⟩, .string ⟨s1.toArray⟩, .string ⟨#[]⟩] w w')) := Lib.hid fun W hJ => by
    have ka := alloc_const W [63, 62] (2, 3) (by decide)
    obtain ⟨hb1, hb2, _⟩ := HB.out _ W hJ
    have := hasPrefix_c _ _ _ _ _ _ _ _ (W.alloc (.cells #[.int .u8 63, .int .u8 62] 5 (2, 3))) _ _ (((hb1.more hb2).below ka.1).drop (k := blankTo l j1) (by omega)) ka.2
    rw [ht] at this
    exact this.mono fun e w' ⟨he, hw⟩ => ⟨he, Lib.hid (hw ▸ hJ.kept ka.1)⟩
  have hrb : ∀ W : World, (Instr.slice 22 (.slice A n cap) (some (.int .i64 (blankTo l j1 : Nat))) none none).run Tryd.prog W = .ok (.slice (cutA A cap (blankTo l j1)) (n - blankTo l j1) (cap - blankTo l j1)) W := fun W => run_from A n cap (blankTo l j1) (by omega)
  have hbi : (blankTo l j1 : Int) ≤ 40000 := by omega
  generalize hbt : blankTo l j1 = bt at *
  have hk0 : (0 : Int) ≤ (k : Int) := by omega
  have hk1 : (k : Int) ≤ 40000 := by omega
  have e1 : ((j1 : Int) == (k : Int) + 5) = false := by simp; omega
  clear h hT hTB hg hP hln hBg HB hk hm hPl hgP ho0 ho1 hlt1 hle1 ht hbl hbt
  go_enter Tryd.func65, Tryd.ntmps65
  go_wp2_with fail
  go_step3
  go_wp2_with fail
  go_step3
  go_wp2_with fail
  refine wp_loop_rounds 3 ?_
  rw [rounds_succ]
  obtain ⟨x0, x1, x2, x3, x4, x5, x6, x7⟩ := HX.out _ _ HJ.out
  clear x4 x5 x6 x7
  have hn0 := hp_new w (.cells #[.string ⟨#[118, 101, 114, 115, 105, 111, 110]⟩, .func (.func 47) #[] #[], .pointer (some ⟨g, 1, none⟩), .bool false] 93)
  have JA0 := Lib.hid (HJ.out.kept ((Below.refl _ w).alloc (Nat.le_refl _) (.cells #[.string ⟨#[118, 101, 114, 115, 105, 111, 110]⟩, .func (.func 47) #[] #[], .pointer (some ⟨g, 1, none⟩), .bool false] 93)))
  go_wp2_with fail
  clear x0 x1 x2 x3
  refine (P0.out _ JA0.out).mono ?_
  rintro e u1 ⟨rfl, hb1⟩
  have J0 := Lib.hid (JA0.out.kept hb1)
  have m0 : u1.cell? ⟨w.heap.size, 3, none⟩ = some (.bool false) := by rw [hb1.cell (p := ⟨w.heap.size, 3, none⟩) (by simp), cell_of 3 hn0]; rfl
  clear hb1 hn0 JA0
  go_wp2
  clear m0
  rw [rounds_succ]
  obtain ⟨x0, x1, x2, x3, x4, x5, x6, x7⟩ := HX.out _ _ J0.out
  clear x0 x1 x2 x3
  have hn1 := hp_new u1 (.cells #[.string ⟨#[101, 110, 99, 111, 100, 105, 110, 103]⟩, .func (.func 48) #[] #[], .pointer (some ⟨g, 2, none⟩), .bool true] 93)
  have JA1 := Lib.hid (J0.out.kept ((Below.refl _ u1).alloc (Nat.le_refl _) (.cells #[.string ⟨#[101, 110, 99, 111, 100, 105, 110, 103]⟩, .func (.func 48) #[] #[], .pointer (some ⟨g, 2, none⟩), .bool true] 93)))
  go_wp2_with fail
  clear x4 x5 x6 x7
  refine (P1.out _ JA1.out).mono ?_
  rintro e w2 ⟨rfl, v2, hb2, rfl⟩
  have J1 : Hid (RJ g #[.bool false, .string ⟨#[]⟩, .string ⟨s1.toArray⟩, .string ⟨#[]⟩] w (v2.setCell ⟨g, 2, none⟩ (.string ⟨s1.toArray⟩))) := Lib.hid ((JA1.out.kept hb2).set 2 (.string ⟨s1.toArray⟩))
  clear hb2 hn1 JA1
  generalize v2.setCell ⟨g, 2, none⟩ (.string ⟨s1.toArray⟩) = u2 at *
  go_wp2
  rw [rounds_succ]
  go_wp2_with fail
  refine (CB.out _ J1.out).mono ?_
  rintro e wq ⟨rfl, rfl⟩
  go_wp2_with fail
  refine (CH.out _ J1.out).mono ?_
  rintro e wz ⟨rfl, JZ⟩
  clear kc
  go_wp2
  (try rw [Exit.noGoto_ret])
  go_ret2
  exact ⟨rfl, JZ.out⟩
set_option maxRecDepth 100000 in
set_option maxHeartbeats 8000000 in
theorem xdRead_t_found_none (g P B : Nat) (A : Option Addr) (n cap : Nat) (l : List UInt8) (k : Nat) (w : World) (h : Byt w B A n cap l) (hm : n ≤ 40000) (hk : k + 5 ≤ n) (hBg : B ≤ g) (hT : FoldT w) (hTB : 0 < B) (hg : w.heap[g]? = some (.cells #[.bool false, .string ⟨#[]⟩, .string ⟨#[]⟩, .string ⟨#[]⟩] 53)) (hgP : g < P)
    (hP : w.heap[P]? = some (.cells #[.string ⟨#[118, 101, 114, 115, 105, 111, 110]⟩, .func (.func 47) #[] #[], .pointer (some ⟨g, 1, none⟩), .bool false, .string ⟨#[101, 110, 99, 111, 100, 105, 110, 103]⟩, .func (.func 48) #[] #[], .pointer (some ⟨g, 2, none⟩), .bool true] 93)) (s0 : List UInt8) (j0 : Nat) (ho0 : partOut verW verB l (k + 5) = some (s0, j0)) (hlt0 : (k + 5) < j0) (hle0 : j0 ≤ n) (ho1 : partOut encW encB l j0 = none) :
    Calls Tryd.prog 65 #[.slice A n cap, .int .i64 k, .pointer (some ⟨g, 0, none⟩), .slice (some ⟨P, 0, none⟩) 2 2] w fun e w' => e = .returned (.tuple #[.int .i64 0, .int .i64 7]) ∧ RJ g #[.bool false, .string ⟨s0.toArray⟩, .string ⟨#[]⟩, .string ⟨#[]⟩] w w' := by
  have hln := h.length
  have hgl := lt_of hg
  have hPl := lt_of hP
  have HJ : Hid (RJ g #[.bool false, .string ⟨#[]⟩, .string ⟨#[]⟩, .string ⟨#[]⟩] w w) := Lib.hid ⟨Fr.refl _ _ _, hg⟩
  have HX : Hid (∀ vs W, RJ g vs w W → W.cell? ⟨P, 0, none⟩ = some (.string ⟨#[118, 101, 114, 115, 105, 111, 110]⟩) ∧ W.cell? ⟨P, 1, none⟩ = some (.func (.func 47) #[] #[]) ∧ W.cell? ⟨P, 2, none⟩ = some (.pointer (some ⟨g, 1, none⟩)) ∧ W.cell? ⟨P, 3, none⟩ = some (.bool false) ∧ W.cell? ⟨P, 4, none⟩ = some (.string ⟨#[101, 110, 99, 111, 100, 105, 110, 103]⟩) ∧ W.cell? ⟨P, 5, none⟩ = some (.func (.func 48) #[] #[]) ∧ W.cell? ⟨P, 6, none⟩ = some (.pointer (some ⟨g, 2, none⟩)) ∧ W.cell? ⟨P, 7, none⟩ = some (.bool true)) := Lib.hid fun vs W hJ => by
    have hne : P ≠ g := by omega
    refine ⟨?_, ?_, ?_, ?_, ?_, ?_, ?_, ?_⟩ <;> (rw [hJ.cell hPl hne, cell_of _ hP]; rfl)
  have HB : Hid (∀ vs W, RJ g vs w W → Byt W B A n cap l ∧ B ≤ W.heap.size ∧ FoldT W) := Lib.hid fun vs W hJ => ⟨hJ.byt h hBg (by omega), by have := hJ.1.size; omega, hT.below (hJ.1.below (B := B) (by omega) hBg) hTB⟩
  have P0 : Hid (∀ W, RJ g #[.bool false, .string ⟨#[]⟩, .string ⟨#[]⟩, .string ⟨#[]⟩] w W → Calls Tryd.prog 85 #[.agg #[.string ⟨#[118, 101, 114, 115, 105, 111, 110]⟩, .func (.func 47) #[] #[], .pointer (some ⟨g, 1, none⟩), .bool false], .slice A n cap, .int .i64 ((k + 5) : Nat)] W fun e w' => e = .returned (.tuple #[.int .i64 (j0 : Int), .int .i64 0]) ∧ ∃ w1, Below W.heap.size W w1 ∧ w' = w1.setCell ⟨g, 1, none⟩ (.string ⟨s0.toArray⟩)) := Lib.hid fun W hJ => by
    obtain ⟨hb1, hb2, hb3⟩ := HB.out _ W hJ
    exact (partRead_out (some (s0, j0)) verW 47 verB false g 1 #[.bool false, .string ⟨#[]⟩, .string ⟨#[]⟩, .string ⟨#[]⟩] 53 A n cap l (k + 5) W (hb1.more hb2) hm (by omega) (by decide) (by decide) hJ.2 (by show (1 : Nat) < 4; decide) (enters_of Tryd.func47 (by kernel_rfl) rfl) (fun s hs W' hb => version_c s W' (by omega)) ho0).mono fun e w' hp => hp.found hlt0
  rw [show ((k + 5 : Nat) : Int) = (k : Int) + 5 by omega] at P0
  have P1 : Hid (∀ W, RJ g #[.bool false, .string ⟨s0.toArray⟩, .string ⟨#[]⟩, .string ⟨#[]⟩] w W → Calls Tryd.prog 85 #[.agg #[.string ⟨#[101, 110, 99, 111, 100, 105, 110, 103]⟩, .func (.func 48) #[] #[], .pointer (some ⟨g, 2, none⟩), .bool true], .slice A n cap, .int .i64 (j0 : Nat)] W fun e w' => e = .returned (.tuple #[.int .i64 0, .int .i64 7]) ∧ Below W.heap.size W w') := Lib.hid fun W hJ => by
    obtain ⟨hb1, hb2, hb3⟩ := HB.out _ W hJ
    exact (partRead_out (none) encW 48 encB true g 2 #[.bool false, .string ⟨s0.toArray⟩, .string ⟨#[]⟩, .string ⟨#[]⟩] 53 A n cap l j0 W (hb1.more hb2) hm (by omega) (by decide) (by decide) hJ.2 (by show (2 : Nat) < 4; decide) (enters_of Tryd.func48 (by kernel_rfl) rfl) (fun s hs W' hb => encoding_c s W' (hb3.below hb hb3.lt)) ho1).mono fun e w' hp => hp
  have hk0 : (0 : Int) ≤ (k : Int) := by omega
  have hk1 : (k : Int) ≤ 40000 := by omega
  have e0 : ((j0 : Int) == (k : Int) + 5) = false := by simp; omega
  clear h hT hTB hg hP hln hBg HB hk hm hPl hgP ho0 ho1 hlt0 hle0
  go_enter Tryd.func65, Tryd.ntmps65
  go_wp2_with fail
  go_step3
  go_wp2_with fail
  go_step3
  go_wp2_with fail
  refine wp_loop_rounds 3 ?_
  rw [rounds_succ]
  obtain ⟨x0, x1, x2, x3, x4, x5, x6, x7⟩ := HX.out _ _ HJ.out
  clear x4 x5 x6 x7
  have hn0 := hp_new w (.cells #[.string ⟨#[118, 101, 114, 115, 105, 111, 110]⟩, .func (.func 47) #[] #[], .pointer (some ⟨g, 1, none⟩), .bool false] 93)
  have JA0 := Lib.hid (HJ.out.kept ((Below.refl _ w).alloc (Nat.le_refl _) (.cells #[.string ⟨#[118, 101, 114, 115, 105, 111, 110]⟩, .func (.func 47) #[] #[], .pointer (some ⟨g, 1, none⟩), .bool false] 93)))
  go_wp2_with fail
  clear x0 x1 x2 x3
  refine (P0.out _ JA0.out).mono ?_
  rintro e w1 ⟨rfl, v1, hb1, rfl⟩
  have J0 : Hid (RJ g #[.bool false, .string ⟨s0.toArray⟩, .string ⟨#[]⟩, .string ⟨#[]⟩] w (v1.setCell ⟨g, 1, none⟩ (.string ⟨s0.toArray⟩))) := Lib.hid ((JA0.out.kept hb1).set 1 (.string ⟨s0.toArray⟩))
  clear hb1 hn0 JA0
  generalize v1.setCell ⟨g, 1, none⟩ (.string ⟨s0.toArray⟩) = u1 at *
  go_wp2
  rw [rounds_succ]
  obtain ⟨x0, x1, x2, x3, x4, x5, x6, x7⟩ := HX.out _ _ J0.out
  clear x0 x1 x2 x3
  have hn1 := hp_new u1 (.cells #[.string ⟨#[101, 110, 99, 111, 100, 105, 110, 103]⟩, .func (.func 48) #[] #[], .pointer (some ⟨g, 2, none⟩), .bool true] 93)
  have JA1 := Lib.hid (J0.out.kept ((Below.refl _ u1).alloc (Nat.le_refl _) (.cells #[.string ⟨#[101, 110, 99, 111, 100, 105, 110, 103]⟩, .func (.func 48) #[] #[], .pointer (some ⟨g, 2, none⟩), .bool true] 93)))
  go_wp2_with fail
  clear x4 x5 x6 x7
  refine (P1.out _ JA1.out).mono ?_
  rintro e u2 ⟨rfl, hb2⟩
  have J1 := Lib.hid (JA1.out.kept hb2)
  clear hb2 hn1 JA1
  go_wp2
  (try rw [Exit.noGoto_ret])
  go_ret2
  exact ⟨rfl, J1.out⟩
set_option maxRecDepth 100000 in
set_option maxHeartbeats 8000000 in
theorem xdRead_t_found_found_yes (g P B : Nat) (A : Option Addr) (n cap : Nat) (l : List UInt8) (k : Nat) (w : World) (h : Byt w B A n cap l) (hm : n ≤ 40000) (hk : k + 5 ≤ n) (hBg : B ≤ g) (hT : FoldT w) (hTB : 0 < B) (hg : w.heap[g]? = some (.cells #[.bool false, .string ⟨#[]⟩, .string ⟨#[]⟩, .string ⟨#[]⟩] 53)) (hgP : g < P)
    (hP : w.heap[P]? = some (.cells #[.string ⟨#[118, 101, 114, 115, 105, 111, 110]⟩, .func (.func 47) #[] #[], .pointer (some ⟨g, 1, none⟩), .bool false, .string ⟨#[101, 110, 99, 111, 100, 105, 110, 103]⟩, .func (.func 48) #[] #[], .pointer (some ⟨g, 2, none⟩), .bool true] 93)) (s0 : List UInt8) (j0 : Nat) (ho0 : partOut verW verB l (k + 5) = some (s0, j0)) (hlt0 : (k + 5) < j0) (hle0 : j0 ≤ n) (s1 : List UInt8) (j1 : Nat) (ho1 : partOut encW encB l j0 = some (s1, j1)) (hlt1 : j0 < j1) (hle1 : j1 ≤ n) (ht : [63, 62].isPrefixOf (l.drop (blankTo l j1)) = true) :
    Calls Tryd.prog 65 #[.slice A n cap, .int .i64 k, .pointer (some ⟨g, 0, none⟩), .slice (some ⟨P, 0, none⟩) 2 2] w fun e w' => e = .returned (.tuple #[.int .i64 ((blankTo l j1 : Int) + 2), .int .i64 0]) ∧ RJ g #[.bool false, .string ⟨s0.toArray⟩, .string ⟨s1.toArray⟩, .string ⟨#[]⟩] w w' := by
  have kc := fun (w : World) (C : Array Value) (n c : Nat) => Lib.run_convert_bytes_const (P := Tryd.prog) w 22 5 C n c Tryd.underlying22 Tryd.underlying5
  have hln := h.length
  have hgl := lt_of hg
  have hPl := lt_of hP
  have HJ : Hid (RJ g #[.bool false, .string ⟨#[]⟩, .string ⟨#[]⟩, .string ⟨#[]⟩] w w) := Lib.hid ⟨Fr.refl _ _ _, hg⟩
  have HX : Hid (∀ vs W, RJ g vs w W → W.cell? ⟨P, 0, none⟩ = some (.string ⟨#[118, 101, 114, 115, 105, 111, 110]⟩) ∧ W.cell? ⟨P, 1, none⟩ = some (.func (.func 47) #[] #[]) ∧ W.cell? ⟨P, 2, none⟩ = some (.pointer (some ⟨g, 1, none⟩)) ∧ W.cell? ⟨P, 3, none⟩ = some (.bool false) ∧ W.cell? ⟨P, 4, none⟩ = some (.string ⟨#[101, 110, 99, 111, 100, 105, 110, 103]⟩) ∧ W.cell? ⟨P, 5, none⟩ = some (.func (.func 48) #[] #[]) ∧ W.cell? ⟨P, 6, none⟩ = some (.pointer (some ⟨g, 2, none⟩)) ∧ W.cell? ⟨P, 7, none⟩ = some (.bool true)) := Lib.hid fun vs W hJ => by
    have hne : P ≠ g := by omega
    refine ⟨?_, ?_, ?_, ?_, ?_, ?_, ?_, ?_⟩ <;> (rw [hJ.cell hPl hne, cell_of _ hP]; rfl)
  have HB : Hid (∀ vs W, RJ g vs w W → Byt W B A n cap l ∧ B ≤ W.heap.size ∧ FoldT W) := Lib.hid fun vs W hJ => ⟨hJ.byt h hBg (by omega), by have := hJ.1.size; omega, hT.below (hJ.1.below (B := B) (by omega) hBg) hTB⟩
  have P0 : Hid (∀ W, RJ g #[.bool false, .string ⟨#[]⟩, .string ⟨#[]⟩, .string ⟨#[]⟩] w W → Calls Tryd.prog 85 #[.agg #[.string ⟨#[118, 101, 114, 115, 105, 111, 110]⟩, .func (.func 47) #[] #[], .pointer (some ⟨g, 1, none⟩), .bool false], .slice A n cap, .int .i64 ((k + 5) : Nat)] W fun e w' => e = .returned (.tuple #[.int .i64 (j0 : Int), .int .i64 0]) ∧ ∃ w1, Below W.heap.size W w1 ∧ w' = w1.setCell ⟨g, 1, none⟩ (.string ⟨s0.toArray⟩)) := Lib.hid fun W hJ => by
    obtain ⟨hb1, hb2, hb3⟩ := HB.out _ W hJ
    exact (partRead_out (some (s0, j0)) verW 47 verB false g 1 #[.bool false, .string ⟨#[]⟩, .string ⟨#[]⟩, .string ⟨#[]⟩] 53 A n cap l (k + 5) W (hb1.more hb2) hm (by omega) (by decide) (by decide) hJ.2 (by show (1 : Nat) < 4; decide) (enters_of Tryd.func47 (by kernel_rfl) rfl) (fun s hs W' hb => version_c s W' (by omega)) ho0).mono fun e w' hp => hp.found hlt0
  rw [show ((k + 5 : Nat) : Int) = (k : Int) + 5 by omega] at P0
  have P1 : Hid (∀ W, RJ g #[.bool false, .string ⟨s0.toArray⟩, .string ⟨#[]⟩, .string ⟨#[]⟩] w W → Calls Tryd.prog 85 #[.agg #[.string ⟨#[101, 110, 99, 111, 100, 105, 110, 103]⟩, .func (.func 48) #[] #[], .pointer (some ⟨g, 2, none⟩), .bool true], .slice A n cap, .int .i64 (j0 : Nat)] W fun e w' => e = .returned (.tuple #[.int .i64 (j1 : Int), .int .i64 0]) ∧ ∃ w1, Below W.heap.size W w1 ∧ w' = w1.setCell ⟨g, 2, none⟩ (.string ⟨s1.toArray⟩)) := Lib.hid fun W hJ => by
    obtain ⟨hb1, hb2, hb3⟩ := HB.out _ W hJ
    exact (partRead_out (some (s1, j1)) encW 48 encB true g 2 #[.bool false, .string ⟨s0.toArray⟩, .string ⟨#[]⟩, .string ⟨#[]⟩] 53 A n cap l j0 W (hb1.more hb2) hm (by omega) (by decide) (by decide) hJ.2 (by show (2 : Nat) < 4; decide) (enters_of Tryd.func48 (by kernel_rfl) rfl) (fun s hs W' hb => encoding_c s W' (hb3.below hb hb3.lt)) ho1).mono fun e w' hp => hp.found hlt1
  have CB : Hid (∀ W, RJ g #[.bool false, .string ⟨s0.toArray⟩, .string ⟨s1.toArray⟩, .string ⟨#[]⟩] w W → Calls Tryd.prog 31 #[.slice A n cap, .int .i64 (j1 : Nat)] W fun e w' => e = .returned (.int .i64 (blankTo l j1)) ∧ W = w') := Lib.hid fun W hJ => blanks_c A n cap l j1 _ W (HB.out _ W hJ).1 (by omega) (by omega)
  have hbl := blankTo_le l j1 (by omega)
  have CH : Hid (∀ W, RJ g #[.bool false, .string ⟨s0.toArray⟩, .string ⟨s1.toArray⟩, .string ⟨#[]⟩] w W → Calls Tryd.prog 69 #[.slice (cutA A cap (blankTo l j1)) (n - blankTo l j1) (cap - blankTo l j1), .slice (some ⟨W.heap.size, 0, none⟩) 2 2] (W.alloc (.cells #[.int .u8 63, .int .u8 62] 5 (2, 3))) fun e w' => e = .returned (.bool true) ∧ Hid (RJ g #[.bool false, .string ⟨s0.toArray⟩, .string ⟨s1.toArray⟩, .string ⟨#[]⟩] w w')) := Lib.hid fun W hJ => by
    have ka := alloc_const W [63, 62] (2, 3) (by decide)
    obtain ⟨hb1, hb2, _⟩ := HB.out _ W hJ
    have := hasPrefix_c _ _ _ _ _ _ _ _ (W.alloc (.cells #[.int .u8 63, .int .u8 62] 5 (2, 3))) _ _ (((hb1.more hb2).below ka.1).drop (k := blankTo l j1) (by omega)) ka.2
    rw [ht] at this
    exact this.mono fun e w' ⟨he, hw⟩ => ⟨he, Lib.hid (hw ▸ hJ.kept ka.1)⟩
  have hrb : ∀ W : World, (Instr.slice 22 (.slice A n cap) (some (.int .i64 (blankTo l j1 : Nat))) none none).run Tryd.prog W = .ok (.slice (cutA A cap (blankTo l j1)) (n - blankTo l j1) (cap - blankTo l j1)) W := fun W => run_from A n cap (blankTo l j1) (by omega)
  have hbi : (blankTo l j1 : Int) ≤ 40000 := by omega
  generalize hbt : blankTo l j1 = bt at *
  have hk0 : (0 : Int) ≤ (k : Int) := by omega
  have hk1 : (k : Int) ≤ 40000 := by omega
  have e0 : ((j0 : Int) == (k : Int) + 5) = false := by simp; omega
  have e1 : ((j1 : Int) == (j0 : Int)) = false := by simp; omega
  clear h hT hTB hg hP hln hBg HB hk hm hPl hgP ho0 ho1 hlt0 hle0 hlt1 hle1 ht hbl hbt
  go_enter Tryd.func65, Tryd.ntmps65
  go_wp2_with fail
  go_step3
  go_wp2_with fail
  go_step3
  go_wp2_with fail
  refine wp_loop_rounds 3 ?_
  rw [rounds_succ]
  obtain ⟨x0, x1, x2, x3, x4, x5, x6, x7⟩ := HX.out _ _ HJ.out
  clear x4 x5 x6 x7
  have hn0 := hp_new w (.cells #[.string ⟨#[118, 101, 114, 115, 105, 111, 110]⟩, .func (.func 47) #[] #[], .pointer (some ⟨g, 1, none⟩), .bool false] 93)
  have JA0 := Lib.hid (HJ.out.kept ((Below.refl _ w).alloc (Nat.le_refl _) (.cells #[.string ⟨#[118, 101, 114, 115, 105, 111, 110]⟩, .func (.func 47) #[] #[], .pointer (some ⟨g, 1, none⟩), .bool false] 93)))
  go_wp2_with fail
  clear x0 x1 x2 x3
  refine (P0.out _ JA0.out).mono ?_
  rintro e w1 ⟨rfl, v1, hb1, rfl⟩
  have J0 : Hid (RJ g #[.bool false, .string ⟨s0.toArray⟩, .string ⟨#[]⟩, .string ⟨#[]⟩] w (v1.setCell ⟨g, 1, none⟩ (.string ⟨s0.toArray⟩))) := Lib.hid ((JA0.out.kept hb1).set 1 (.string ⟨s0.toArray⟩))
  clear hb1 hn0 JA0
  generalize v1.setCell ⟨g, 1, none⟩ (.string ⟨s0.toArray⟩) = u1 at *
  go_wp2
  rw [rounds_succ]
  obtain ⟨x0, x1, x2, x3, x4, x5, x6, x7⟩ := HX.out _ _ J0.out
  clear x0 x1 x2 x3
  have hn1 := hp_new u1 (.cells #[.string ⟨#[101, 110, 99, 111, 100, 105, 110, 103]⟩, .func (.func 48) #[] #[], .pointer (some ⟨g, 2, none⟩), .bool true] 93)
  have JA1 := Lib.hid (J0.out.kept ((Below.refl _ u1).alloc (Nat.le_refl _) (.cells #[.string ⟨#[101, 110, 99, 111, 100, 105, 110, 103]⟩, .func (.func 48) #[] #[], .pointer (some ⟨g, 2, none⟩), .bool true] 93)))
  go_wp2_with fail
  clear x4 x5 x6 x7
  refine (P1.out _ JA1.out).mono ?_
  rintro e w2 ⟨rfl, v2, hb2, rfl⟩
  have J1 : Hid (RJ g #[.bool false, .string ⟨s0.toArray⟩, .string ⟨s1.toArray⟩, .string ⟨#[]⟩] w (v2.setCell ⟨g, 2, none⟩ (.string ⟨s1.toArray⟩))) := Lib.hid ((JA1.out.kept hb2).set 2 (.string ⟨s1.toArray⟩))
  clear hb2 hn1 JA1
  generalize v2.setCell ⟨g, 2, none⟩ (.string ⟨s1.toArray⟩) = u2 at *
  go_wp2
  rw [rounds_succ]
  go_wp2_with fail
  refine (CB.out _ J1.out).mono ?_
  rintro e wq ⟨rfl, rfl⟩
  go_wp2_with fail
  refine (CH.out _ J1.out).mono ?_
  rintro e wz ⟨rfl, JZ⟩
  clear kc
  go_wp2
  (try rw [Exit.noGoto_ret])
  go_ret2
  exact ⟨rfl, JZ.out⟩
set_option maxRecDepth 100000 in
set_option maxHeartbeats 8000000 in
theorem xdRead_t_found_found_no (g P B : Nat) (A : Option Addr) (n cap : Nat) (l : List UInt8) (k : Nat) (w : World) (h : Byt w B A n cap l) (hm : n ≤ 40000) (hk : k + 5 ≤ n) (hBg : B ≤ g) (hT : FoldT w) (hTB : 0 < B) (hg : w.heap[g]? = some (.cells #[.bool false, .string ⟨#[]⟩, .string ⟨#[]⟩, .string ⟨#[]⟩] 53)) (hgP : g < P)
    (hP : w.heap[P]? = some (.cells #[.string ⟨#[118, 101, 114, 115, 105, 111, 110]⟩, .func (.func 47) #[] #[], .pointer (some ⟨g, 1, none⟩), .bool false, .string ⟨#[101, 110, 99, 111, 100, 105, 110, 103]⟩, .func (.func 48) #[] #[], .pointer (some ⟨g, 2, none⟩), .bool true] 93)) (s0 : List UInt8) (j0 : Nat) (ho0 : partOut verW verB l (k + 5) = some (s0, j0)) (hlt0 : (k + 5) < j0) (hle0 : j0 ≤ n) (s1 : List UInt8) (j1 : Nat) (ho1 : partOut encW encB l j0 = some (s1, j1)) (hlt1 : j0 < j1) (hle1 : j1 ≤ n) (ht : [63, 62].isPrefixOf (l.drop (blankTo l j1)) = false) :
    Calls Tryd.prog 65 #[.slice A n cap, .int .i64 k, .pointer (some ⟨g, 0, none⟩), .slice (some ⟨P, 0, none⟩) 2 2] w fun e w' => e = .returned (.tuple #[.int .i64 0, .int .i64 7]) ∧ RJ g #[.bool false, .string ⟨s0.toArray⟩, .string ⟨s1.toArray⟩, .string ⟨#[]⟩] w w' := by
  have kc := fun (w : World) (C : Array Value) (n c : Nat) => Lib.run_convert_bytes_const (P := Tryd.prog) w 22 5 C n c Tryd.underlying22 Tryd.underlying5
  have hln := h.length
  have hgl := lt_of hg
  have hPl := lt_of hP
  have HJ : Hid (RJ g #[.bool false, .string ⟨#[]⟩, .string ⟨#[]⟩, .string ⟨#[]⟩] w w) := Lib.hid ⟨Fr.refl _ _ _, hg⟩
  have HX : Hid (∀ vs W, RJ g vs w W → W.cell? ⟨P, 0, none⟩ = some (.string ⟨#[118, 101, 114, 115, 105, 111, 110]⟩) ∧ W.cell? ⟨P, 1, none⟩ = some (.func (.func 47) #[] #[]) ∧ W.cell? ⟨P, 2, none⟩ = some (.pointer (some ⟨g, 1, none⟩)) ∧ W.cell? ⟨P, 3, none⟩ = some (.bool false) ∧ W.cell? ⟨P, 4, none⟩ = some (.string ⟨#[101, 110, 99, 111, 100, 105, 110, 103]⟩) ∧ W.cell? ⟨P, 5, none⟩ = some (.func (.func 48) #[] #[]) ∧ W.cell? ⟨P, 6, none⟩ = some (.pointer (some ⟨g, 2, none⟩)) ∧ W.cell? ⟨P, 7, none⟩ = some (.bool true)) := Lib.hid fun vs W hJ => by
    have hne : P ≠ g := by omega
    refine ⟨?_, ?_, ?_, ?_, ?_, ?_, ?_, ?_⟩ <;> (rw [hJ.cell hPl hne, cell_of _ hP]; rfl)
  have HB : Hid (∀ vs W, RJ g vs w W → Byt W B A n cap l ∧ B ≤ W.heap.size ∧ FoldT W) := Lib.hid fun vs W hJ => ⟨hJ.byt h hBg (by omega), by have := hJ.1.size; omega, hT.below (hJ.1.below (B := B) (by omega) hBg) hTB⟩
  have P0 : Hid (∀ W, RJ g #[.bool false, .string ⟨#[]⟩, .string ⟨#[]⟩, .string ⟨#[]⟩] w W → Calls Tryd.prog 85 #[.agg #[.string ⟨#[118, 101, 114, 115, 105, 111, 110]⟩, .func (.func 47) #[] #[], .pointer (some ⟨g, 1, none⟩), .bool false], .slice A n cap, .int .i64 ((k + 5) : Nat)] W fun e w' => e = .returned (.tuple #[.int .i64 (j0 : Int), .int .i64 0]) ∧ ∃ w1, Below W.heap.size W w1 ∧ w' = w1.setCell ⟨g, 1, none⟩ (.string ⟨s0.toArray⟩)) := Lib.hid fun W hJ => by
    obtain ⟨hb1, hb2, hb3⟩ := HB.out _ W hJ
    exact (partRead_out (some (s0, j0)) verW 47 verB false g 1 #[.bool false, .string ⟨#[]⟩, .string ⟨#[]⟩, .string ⟨#[]⟩] 53 A n cap l (k + 5) W (hb1.more hb2) hm (by omega) (by decide) (by decide) hJ.2 (by show (1 : Nat) < 4; decide) (enters_of Tryd.func47 (by kernel_rfl) rfl) (fun s hs W' hb => version_c s W' (by omega)) ho0).mono fun e w' hp => hp.found hlt0
  rw [show ((k + 5 : Nat) : Int) = (k : Int) + 5 by omega] at P0
  have P1 : Hid (∀ W, RJ g #[.bool false, .string ⟨s0.toArray⟩, .string ⟨#[]⟩, .string ⟨#[]⟩] w W → Calls Tryd.prog 85 #[.agg #[.string ⟨#[101, 110, 99, 111, 100, 105, 110, 103]⟩, .func (.func 48) #[] #[], .pointer (some ⟨g, 2, none⟩), .bool true], .slice A n cap, .int .i64 (j0 : Nat)] W fun e w' => e = .returned (.tuple #[.int .i64 (j1 : Int), .int .i64 0]) ∧ ∃ w1, Below W.heap.size W w1 ∧ w' = w1.setCell ⟨g, 2, none⟩ (.string ⟨s1.toArray⟩)) := Lib.hid fun W hJ => by
    obtain ⟨hb1, hb2, hb3⟩ := HB.out _ W hJ
    exact (partRead_out (some (s1, j1)) encW 48 encB true g 2 #[.bool false, .string ⟨s0.toArray⟩, .string ⟨#[]⟩, .string ⟨#[]⟩] 53 A n cap l j0 W (hb1.more hb2) hm (by omega) (by decide) (by decide) hJ.2 (by show (2 : Nat) < 4; decide) (enters_of Tryd.func48 (by kernel_rfl) rfl) (fun s hs W' hb => encoding_c s W' (hb3.below hb hb3.lt)) ho1).mono fun e w' hp => hp.found hlt1
  have CB : Hid (∀ W, RJ g #[.bool false, .string ⟨s0.toArray⟩, .string ⟨s1.toArray⟩, .string ⟨#[]⟩] w W → Calls Tryd.prog 31 #[.slice A n cap, .int .i64 (j1 : Nat)] W fun e w' => e = .returned (.int .i64 (blankTo l j1)) ∧ W = w') := Lib.hid fun W hJ => blanks_c A n cap l j1 _ W (HB.out _ W hJ).1 (by omega) (by omega)
  have hbl := blankTo_le l j1 (by omega)
  have CH : Hid (∀ W, RJ g #[.bool false, .string ⟨s0.toArray⟩, .string ⟨s1.toArray⟩, .string ⟨#[]⟩] w W → Calls Tryd.prog 69 #[.slice (cutA A cap (blankTo l j1)) (n - blankTo l j1) (cap - blankTo l j1), .slice (some ⟨W.heap.size, 0, none⟩) 2 2] (W.alloc (.cells #[.int .u8 63, .int .u8 62] 5 (2, 3))) fun e w' => e = .returned (.bool false) ∧ Hid (RJ g #[.bool false, .string ⟨s0.toArray⟩, .string ⟨s1.toArray⟩, .string ⟨#[]⟩] w w')) := Lib.hid fun W hJ => by
    have ka := alloc_const W [63, 62] (2, 3) (by decide)
    obtain ⟨hb1, hb2, _⟩ := HB.out _ W hJ
    have := hasPrefix_c _ _ _ _ _ _ _ _ (W.alloc (.cells #[.int .u8 63, .int .u8 62] 5 (2, 3))) _ _ (((hb1.more hb2).below ka.1).drop (k := blankTo l j1) (by omega)) ka.2
    rw [ht] at this
    exact this.mono fun e w' ⟨he, hw⟩ => ⟨he, Lib.hid (hw ▸ hJ.kept ka.1)⟩
  have hrb : ∀ W : World, (Instr.slice 22 (.slice A n cap) (some (.int .i64 (blankTo l j1 : Nat))) none none).run Tryd.prog W = .ok (.slice (cutA A cap (blankTo l j1)) (n - blankTo l j1) (cap - blankTo l j1)) W := fun W => run_from A n cap (blankTo l j1) (by omega)
  have hbi : (blankTo l j1 : Int) ≤ 40000 := by omega
  generalize hbt : blankTo l j1 = bt at *
  have hk0 : (0 : Int) ≤ (k : Int) := by omega
  have hk1 : (k : Int) ≤ 40000 := by omega
  have e0 : ((j0 : Int) == (k : Int) + 5) = false := by simp; omega
  have e1 : ((j1 : Int) == (j0 : Int)) = false := by simp; omega
  clear h hT hTB hg hP hln hBg HB hk hm hPl hgP ho0 ho1 hlt0 hle0 hlt1 hle1 ht hbl hbt
  go_enter Tryd.func65, Tryd.ntmps65
  go_wp2_with fail
  go_step3
  go_wp2_with fail
  go_step3
  go_wp2_with fail
  refine wp_loop_rounds 3 ?_
  rw [rounds_succ]
  obtain ⟨x0, x1, x2, x3, x4, x5, x6, x7⟩ := HX.out _ _ HJ.out
  clear x4 x5 x6 x7
  have hn0 := hp_new w (.cells #[.string ⟨#[118, 101, 114, 115, 105, 111, 110]⟩, .func (.func 47) #[] #[], .pointer (some ⟨g, 1, none⟩), .bool false] 93)
  have JA0 := Lib.hid (HJ.out.kept ((Below.refl _ w).alloc (Nat.le_refl _) (.cells #[.string ⟨#[118, 101, 114, 115, 105, 111, 110]⟩, .func (.func 47) #[] #[], .pointer (some ⟨g, 1, none⟩), .bool false] 93)))
  go_wp2_with fail
  clear x0 x1 x2 x3
  refine (P0.out _ JA0.out).mono ?_
  rintro e w1 ⟨rfl, v1, hb1, rfl⟩
  have J0 : Hid (RJ g #[.bool false, .string ⟨s0.toArray⟩, .string ⟨#[]⟩, .string ⟨#[]⟩] w (v1.setCell ⟨g, 1, none⟩ (.string ⟨s0.toArray⟩))) := Lib.hid ((JA0.out.kept hb1).set 1 (.string ⟨s0.toArray⟩))
  clear hb1 hn0 JA0
  generalize v1.setCell ⟨g, 1, none⟩ (.string ⟨s0.toArray⟩) = u1 at *
  go_wp2
  rw [rounds_succ]
  obtain ⟨x0, x1, x2, x3, x4, x5, x6, x7⟩ := HX.out _ _ J0.out
  clear x0 x1 x2 x3
  have hn1 := hp_new u1 (.cells #[.string ⟨#[101, 110, 99, 111, 100, 105, 110, 103]⟩, .func (.func 48) #[] #[], .pointer (some ⟨g, 2, none⟩), .bool true] 93)
  have JA1 := Lib.hid (J0.out.kept ((Below.refl _ u1).alloc (Nat.le_refl _) (.cells #[.string ⟨#[101, 110, 99, 111, 100, 105, 110, 103]⟩, .func (.func 48) #[] #[], .pointer (some ⟨g, 2, none⟩), .bool true] 93)))
  go_wp2_with fail
  clear x4 x5 x6 x7
  refine (P1.out _ JA1.out).mono ?_
  rintro e w2 ⟨rfl, v2, hb2, rfl⟩
  have J1 : Hid (RJ g #[.bool false, .string ⟨s0.toArray⟩, .string ⟨s1.toArray⟩, .string ⟨#[]⟩] w (v2.setCell ⟨g, 2, none⟩ (.string ⟨s1.toArray⟩))) := Lib.hid ((JA1.out.kept hb2).set 2 (.string ⟨s1.toArray⟩))
  clear hb2 hn1 JA1
  generalize v2.setCell ⟨g, 2, none⟩ (.string ⟨s1.toArray⟩) = u2 at *
  go_wp2
  rw [rounds_succ]
  go_wp2_with fail
  refine (CB.out _ J1.out).mono ?_
  rintro e wq ⟨rfl, rfl⟩
  go_wp2_with fail
  refine (CH.out _ J1.out).mono ?_
  rintro e wz ⟨rfl, JZ⟩
  clear kc
  go_wp2
  (try rw [Exit.noGoto_ret])
  go_ret2
  exact ⟨rfl, JZ.out⟩
end Go.Proofs.YtcpljjajobfkkaaDoor
