/- Bars read: a buffer of the call's own. -/
import Derived.Test.YtbllodeanfdebaaGreatDoorRows
import Derived.WalkKit
import Derived.ProofKit
import Derived.OpenShut
import Derived.ShutString
import Derived.ChangeOld
import Derived.Below
import Derived.BigQuiet
import Derived.Deep.QuietTactic
import Derived.Lib.Hide
import Derived.Deep.RegionHeld3
import Derived.Lib.SlBytesConst
import Derived.Laws.CopyOwn
import Derived.Laws.CopyRow
import Derived.Lib.Bytes
import Derived.Deep.LoopGhost
import Derived.Deep.DeepFit
import Derived.Deep.DeepMust
import Derived.WalkSpells
import Derived.WalkLawsBesides
import Derived.Laws.EntriesVeiled
import Derived.Laws.Rows
import Derived.Lib.Replace
import Derived.Lib.Split
import Derived.Lib.ItoaNum
import Derived.Lib.AtoiAllCases
import Derived.Lib.AtoiErrMem
import Derived.Lib.AppendIntMem
import Derived.Test.YtbllodeanfdebaaGreatDoorShelf
import Derived.Test.YtbllodeanfdebaaGreatDoorBase
import Derived.Test.YtbllodeanfdebaaGreatDoorCsE
import Derived.Test.YtbllodeanfdebaaGreatDoorCsG
import Derived.Test.YtbllodeanfdebaaGreatDoorCsH
import Derived.Test.YtbllodeanfdebaaGreatDoorCsI
import Derived.Test.YtbllodeanfdebaaGreatDoorCsJ
import Derived.Test.YtbllodeanfdebaaGreatDoorCalm
import Derived.Test.YtbllodeanfdebaaGreatDoorCsL
import Derived.Test.YtbllodeanfdebaaGreatDoorRowS
import Derived.Test.YtbllodeanfdebaaGreatDoorCsM
import Derived.Test.YtbllodeanfdebaaGreatDoorCsN2
import Derived.Test.YtbllodeanfdebaaGreatDoorStL
import Derived.Test.YtbllodeanfdebaaGreatDoorCsO2
import Derived.Test.YtbllodeanfdebaaGreatDoorCsQ
import Derived.Test.YtbllodeanfdebaaGreatDoorStr
namespace Go.Proofs.YtbllodeanfdebaaGreatDoor
open Go.ChangeShapes Go.WideShapes Go.ChangeAt Go.RowKit
set_option linter.unusedVariables false
theorem isBuffer_keep {T e : TypeId} {B b : Nat} {bs : List Value} {w w' : World} (h : Lib.IsBuffer T e B b bs w) (hk : ∀ g, B ≤ g → g < w.heap.size → w'.heap[g]? = w.heap[g]?) : Lib.IsBuffer T e B b bs w' := by
  obtain ⟨hB, v, lr, hb, ho, hne⟩ := h
  exact ⟨hB, v, lr, (hk b hB (lt_of hb)).trans hb, ownsRow_keep ho hk, hne⟩
theorem own_base {w : World} {base : Nat} {e : TypeId} {k n c m : Nat} {A : Option Addr} {xs : List Value} (h : w.ownsRow base e k (.slice A n c) m xs) : ∀ p, A = some p → base ≤ p.block ∧ p.block < w.heap.size := by
  intro p hp
  obtain ⟨hl, ⟨hv, h0⟩ | ⟨g, cap, cur, hv, hg, hh, r⟩⟩ := h
  · injection hv with h1 _ _
    rw [h1] at hp
    cases hp
  · injection hv with h1 _ _
    rw [h1] at hp
    cases hp
    exact ⟨hg, lt_of hh⟩
set_option maxRecDepth 100000 in
set_option maxHeartbeats 4000000 in
theorem bufBytes_c (B b : Nat) (l : List UInt8) (w : World) (h : Lib.IsBuffer 102 5 B b (Lib.byteCells l) w) (hm : l.length ≤ 1000000) :
    Calls Tryz.prog 51 #[.pointer (some ⟨b, 0, none⟩)] w fun e w' => (∃ A cap, e = .returned (.slice A l.length cap) ∧ Byt w w.heap.size A l.length cap l ∧ ∀ p, A = some p → B ≤ p.block ∧ p.block < w.heap.size) ∧ ∃ n, w' = w.drewN n := by
  obtain ⟨hB, v, lr, hb, ho, hne⟩ := h
  obtain ⟨A, c, rfl, hR⟩ := own_form ho
  have hlo := own_base ho
  rw [Lib.byteCells_length] at hR hb
  have hbyt : Byt w w.heap.size A l.length c l := hR
  have c0 : w.cell? ⟨b, 0, none⟩ = some (.slice A l.length c) := by rw [cell_of 0 hb]; rfl
  have c1 : w.cell? ⟨b, 1, none⟩ = some (.int .i64 0) := by rw [cell_of 1 hb]; rfl
  have hsl := fun W => run_from (w := W) A l.length c 0 (Nat.zero_le _)
  have e0 : (if c = 0 then A else A.map (fun x => x.add 0)) = A := by split <;> simp [Addr.add]
  have hsl2 : ∀ W, (Instr.slice 23 (.slice A l.length c) (some (.int .i64 0)) none none).run Tryz.prog W = .ok (.slice A l.length c) W := fun W => by
    have h9 := hsl W
    unfold cutA at h9
    rw [e0] at h9
    exact h9
  have HB := Lib.hid (And.intro hbyt hlo)
  clear hb ho hR hbyt hsl e0 hlo
  go_enter Tryz.func51, Tryz.ntmps51
  go_wp2
  go_quiet (fail)
  go_wp2
  go_ret
  exact ⟨⟨A, c, rfl, HB.out⟩, _, rfl⟩
theorem run_catC {w : World} (a b : List UInt8) (h : a.length + b.length ≤ 9223372036854775807) : (binOp .add 9 (.string ⟨a.toArray⟩) (.string ⟨b.toArray⟩)).run Tryz.prog w = .ok (.string ⟨(a ++ b).toArray⟩) w := run_cat a b h
theorem byteCells_app (a b : List UInt8) : Lib.byteCells a ++ Lib.byteCells b = Lib.byteCells (a ++ b) := by simp [Lib.byteCells]
theorem byteCells_one (a : List UInt8) : ∀ v ∈ Lib.byteCells a, v.oneCell' = true := by
  intro v hv
  obtain ⟨x, _, rfl⟩ := List.mem_map.1 hv
  rfl
/-- A buffer's writing, in lists of bytes. -/
theorem bufWrite_c (B b : Nat) (l s : List UInt8) (w : World) (h : Lib.IsBuffer 102 5 B b (Lib.byteCells l) w) (hB : B ≤ w.heap.size) (hm : l.length + s.length ≤ 1000000) :
    Calls Tryz.prog 50 #[.pointer (some ⟨b, 0, none⟩), .string ⟨s.toArray⟩] w fun e w' => e = .returned (.tuple #[.int .i64 (s.length : Int), .nilIface]) ∧ Lib.IsBuffer 102 5 B b (Lib.byteCells (l ++ s)) w' ∧ Below B w w' := by
  refine (Tryz.Buffer_WriteString_k B b (Lib.byteCells l) ⟨s.toArray⟩ w h hB (byteCells_one l) (by rw [sz_of, Lib.byteCells_length]; omega)).mono fun e w' ⟨he, hb, hbl, _⟩ => ⟨?_, ?_, hbl⟩
  · rw [he, sz_of]
  · rw [← byteCells_app]
    exact hb
theorem barsG_len : ∀ (ls : List (List UInt8)) (acc d : List UInt8) (r : List (List UInt8)), barsG acc ls = (d, r) → r.length ≤ ls.length := by
  intro ls acc d r h
  obtain ⟨ys, _, h2⟩ := barsG_text ls acc
  rw [h] at h2
  have := congrArg List.length h2
  rw [List.length_append] at this
  simp only at this
  omega
theorem take_bar {l : List (List UInt8)} : (∃ z q, l = (124 :: z) :: q) ∨ takeP [124] l = none ∧ ∀ x, l.head? = some x → x.head? ≠ some 124 := by
  cases l with
  | nil => exact .inr ⟨rfl, fun x hx => by cases hx⟩
  | cons y q =>
    cases y with
    | nil => exact .inr ⟨rfl, fun x hx => by simp at hx; subst hx; simp⟩
    | cons c z =>
      by_cases h : c = 124
      · subst h
        exact .inl ⟨z, q, rfl⟩
      · refine .inr ⟨?_, fun x hx => by simp at hx; subst hx; simpa using h⟩
        simp [takeP, List.isPrefixOf]
        exact fun e => absurd e.symm h
/-- The reading of bars, at a round. -/
structure BrJ (B lb b N : Nat) (d : List UInt8) (r ls : List (List UInt8)) (tl acc : List UInt8) (t : Nat) (w W : World) : Prop where
  ln : LnAt W lb (unl ls tl) t
  bf : Lib.IsBuffer 102 5 w.heap.size b (Lib.byteCells acc) W
  gr : w.grownBy W (some lb)
  wc : WC B W
  no : (∀ x ∈ ls, (10 : UInt8) ∉ x)
  fin : barsG acc ls = (d, r)
  len : acc.length + (unl ls tl).length ≤ 100000
  at_ : t + ls.length = N
theorem unl_len (y : List UInt8) (ls : List (List UInt8)) (tl : List UInt8) : (unl (y :: ls) tl).length = y.length + 1 + (unl ls tl).length := by
  rw [unl_cons]
  simp
  omega
set_option maxRecDepth 100000 in
set_option maxHeartbeats 8000000 in
theorem lnBars_yes (B lb t : Nat) (ls r : List (List UInt8)) (tl d : List UInt8) (w : World) (h : LnAt w lb (unl ls tl) t) (hw : WC B w) (hBl : B ≤ lb) (hn : ∀ x ∈ ls, (10 : UInt8) ∉ x) (hn2 : (10 : UInt8) ∉ tl) (hb : barsP ls = some (d, r)) (hm : (unl ls tl).length ≤ 100000) (ht : t + ls.length ≤ 100000) :
    Calls Tryz.prog 22 #[.pointer (some ⟨lb, 0, none⟩)] w fun e w' => (∃ A cap, e = .returned (.slice A d.length cap) ∧ Byt w' w'.heap.size A d.length cap d ∧ ∀ p, A = some p → w.heap.size ≤ p.block ∧ p.block < w'.heap.size) ∧ LnAt w' lb (unl r tl) (t + (ls.length - r.length)) ∧ w.grownBy w' (some lb) := by
  obtain ⟨x, q, rfl, hG⟩ : ∃ x q, ls = (124 :: x) :: q ∧ barsG x q = (d, r) := by
    unfold barsP at hb
    split at hb
    · injection hb with hb
      exact ⟨_, _, rfl, hb⟩
    · cases hb
  rw [unl_len] at hm
  simp only [List.length_cons] at hm ht
  have hll := h.lt
  have hL1 : LnAt (w.alloc (.cells #[.slice none 0 0, .int .i64 0, .int .i8 0] 102)) lb (unl ((124 :: x) :: q) tl) t := hp_old h
  have hB1 : Below w.heap.size w (w.alloc (.cells #[.slice none 0 0, .int .i64 0, .int .i8 0] 102)) := (Below.refl _ _).alloc (Nat.le_refl _) _
  have hF1 := Lib.fresh_isBuffer 102 5 w
  have MU := Lib.hid (fun W (hL : LnAt W lb (unl ((124 :: x) :: q) tl) t) (hW : WC B W) => must_yes B lb t [124] (124 :: x) q tl W hL hW (hn _ (by simp)) (by simp [List.isPrefixOf]) (by rw [unl_len]; simp; omega) (by omega))
  have HW1 := Lib.hid (hw.up hB1)
  have H1 := Lib.hid (And.intro hL1 (And.intro hB1 hF1))
  have HNO := Lib.hid (fun z (hz : z ∈ q) => hn z (List.mem_cons_of_mem _ hz))
  have HNT := Lib.hid hn2
  have HM := Lib.hid (And.intro hm ht)
  have HG := Lib.hid hG
  have HLL := Lib.hid hll
  have HBS := Lib.hid hw.size
  clear h hw hb hL1 hB1 hF1 hn hn2 hm ht hG hll
  go_enter Tryz.func22, Tryz.ntmps22
  go_wp2_with fail
  refine (MU.out _ H1.out.1 HW1.out).mono ?_
  rintro e w1 ⟨rfl, hL2, hg2⟩
  have hg02 : w.grownBy w1 (some lb) := (H1.out.2.1.gr _).trans' hg2
  have hbf2 : Lib.IsBuffer 102 5 w.heap.size w.heap.size (Lib.byteCells []) w1 := isBuffer_keep (bs := []) H1.out.2.2 fun g hg1 hg3 => hg2.block g hg3 fun e => by have := Option.some.inj e; have := HLL.out; omega
  have BW := Lib.hid (bufWrite_c w.heap.size w.heap.size [] x w1 hbf2 hg02.size (by have := HM.out.1; simp at this ⊢; omega))
  have H2 := Lib.hid (And.intro hL2 (And.intro hg02 (HW1.out.gr hBl hg2)))
  clear hL2 hg2 hg02 hbf2 MU H1
  go_wp2_with fail
  refine BW.out.mono ?_
  rintro e w2 ⟨rfl, hbf, hb2⟩
  have HJ0 : Hid (BrJ B lb w.heap.size (t + (q.length + 1)) d r q tl x (t + 1) w w2) := Lib.hid
    ⟨(hb2.block lb HLL.out).trans H2.out.1, hbf, ⟨hb2.os.trans H2.out.2.1.os, hb2.tape.trans H2.out.2.1.tape, hb2.output.trans H2.out.2.1.output, Nat.le_trans H2.out.2.1.size hb2.size, fun k hk hne => (hb2.block k hk).trans (H2.out.2.1.block k hk hne)⟩, H2.out.2.2.below (hb2.mono HBS.out), HNO.out, HG.out, by have := HM.out.1; simp at this ⊢; omega, by omega⟩
  have HQ : Hid (t + (q.length + 1) ≤ 100000) := Lib.hid (by have := HM.out.2; omega)
  have HRL := Lib.hid (barsG_len _ _ _ _ HG.out)
  have HTT : Hid (t ≤ 100000) := Lib.hid (by have := HM.out.2; omega)
  clear H2 hbf hb2 BW HW1 HM HG HNO
  go_wp2_with fail
  go_loopg [] (q.length + 1) (fun g wr => ∃ (l2 : List (List UInt8)) (acc : List UInt8) (t2 : Nat), Hid (g = l2.length + 1) ∧ Hid (BrJ B lb w.heap.size (t + (q.length + 1)) d r l2 tl acc t2 w wr))
  case atStart => exact ⟨q, x, t + 1, Lib.hid rfl, HJ0⟩
  case round =>
    obtain ⟨l2, acc, t2, hg, HJ⟩ := hrel
    have HT2 : Hid (t2 ≤ 120000 ∧ t2 + l2.length = t + (q.length + 1)) := Lib.hid (by have := HJ.out.at_; have := HTT.out; have := HQ.out; omega)
    rcases take_bar (l := l2) with ⟨z, q2, rfl⟩ | ⟨hno, hst⟩
    · have hlen := HJ.out.len
      rw [unl_len] at hlen
      simp only [List.length_cons] at hlen
      have TK := Lib.hid (take_yes B lb t2 [124] (124 :: z) q2 tl wr HJ.out.ln HJ.out.wc (HJ.out.no _ (by simp)) (by simp [List.isPrefixOf]) (by rw [unl_len]; simp; omega) (by have := HT2.out.1; have := HT2.out.2; have := HQ.out; have := HTT.out; simp only [List.length_cons] at *; omega))
      have hzl : z.length ≤ 100000 := by omega
      have hcat : ∀ W, (binOp .add 9 (.string ⟨#[10]⟩) (.string ⟨z.toArray⟩)).run Tryz.prog W = .ok (.string ⟨([10] ++ z).toArray⟩) W := fun W => run_catC [10] z (by simp; omega)
      have hsop : ∀ W, (Op.stringOp .add ⟨#[10]⟩ ⟨z.toArray⟩).run Tryz.prog W = .ok (.string ⟨([10] ++ z).toArray⟩) W := fun W => run_sop [10] z (by simp; omega)
      have HLEN := Lib.hid hlen
      clear hlen
      go_wp2_with fail
      refine TK.out.mono ?_
      rintro e w3 ⟨rfl, hL3, hg3⟩
      have hgr3 := HJ.out.gr.trans' hg3
      have hbf3 := isBuffer_keep HJ.out.bf (w' := w3) fun g hg1 hg2 => hg3.block g hg2 fun e => by have := Option.some.inj e; have := HLL.out; omega
      have BW := Lib.hid (bufWrite_c w.heap.size w.heap.size acc ([10] ++ z) w3 hbf3 hgr3.size (by have := HLEN.out; simp at this ⊢; omega))
      have H3 := Lib.hid (And.intro hL3 (And.intro hgr3 (HJ.out.wc.gr hBl hg3)))
      clear hL3 hg3 hgr3 hbf3 TK
      go_wp2_with fail
      refine BW.out.mono ?_
      rintro e w4 ⟨rfl, hbf4, hb4⟩
      have HJ4 : Hid (BrJ B lb w.heap.size (t + (q.length + 1)) d r q2 tl (acc ++ ([10] ++ z)) (t2 + 1) w w4) := Lib.hid
        ⟨(hb4.block lb HLL.out).trans H3.out.1, hbf4, ⟨hb4.os.trans H3.out.2.1.os, hb4.tape.trans H3.out.2.1.tape, hb4.output.trans H3.out.2.1.output, Nat.le_trans H3.out.2.1.size hb4.size, fun k hk hne => (hb4.block k hk).trans (H3.out.2.1.block k hk hne)⟩, H3.out.2.2.below (hb4.mono HBS.out), fun x hx => HJ.out.no x (List.mem_cons_of_mem _ hx), HJ.out.fin, by have := HLEN.out; simp at this ⊢; omega, by have := HT2.out.2; simp only [List.length_cons] at this; omega⟩
      clear hbf4 hb4 BW H3
      go_wp2
      go_roundg (q2.length + 1)
      case measure => have := hg.out; simp at this; omega
      case rel => exact ⟨q2, acc ++ ([10] ++ z), t2 + 1, Lib.hid rfl, HJ4⟩
    · have TK := Lib.hid (take_no B lb t2 [124] l2 tl wr HJ.out.ln HJ.out.wc HJ.out.no HNT.out hno (by have := HJ.out.len; omega))
      have hfin := HJ.out.fin
      rw [barsG_stop acc l2 hst] at hfin
      cases hfin
      have BB := Lib.hid (fun n => bufBytes_c w.heap.size w.heap.size d (wr.drewN n) HJ.out.bf (by have := HJ.out.len; omega))
      have HF := Lib.hid (And.intro HJ.out.ln (And.intro HJ.out.gr HJ.out.at_))
      clear hst hno
      go_wp2_with fail
      refine TK.out.mono ?_
      rintro e w3 ⟨rfl, n, rfl⟩
      go_wp2_with fail
      refine (BB.out n).mono ?_
      rintro e w4 ⟨⟨A, cap, rfl, hA, hlo⟩, n2, rfl⟩
      have HE : Hid ((Byt (wr.drewN (n + n2)) (wr.drewN (n + n2)).heap.size A d.length cap d ∧ ∀ p, A = some p → w.heap.size ≤ p.block ∧ p.block < (wr.drewN (n + n2)).heap.size) ∧ LnAt (wr.drewN (n + n2)) lb (unl r tl) (t + (q.length + 1 - r.length)) ∧ w.grownBy (wr.drewN (n + n2)) (some lb)) := Lib.hid
        ⟨⟨Rd.keep hA (w' := wr.drewN (n + n2)) fun _ _ => rfl, hlo⟩, by have h9 := HF.out.1; have h8 := HF.out.2.2; have h7 := HRL.out; rw [show t + (q.length + 1 - r.length) = t2 by omega]; exact h9, HF.out.2.1.drewN⟩
      clear hA hlo TK BB
      go_wp2
      go_ret
      exact ⟨⟨A, cap, rfl, HE.out.1⟩, HE.out.2⟩
set_option maxRecDepth 100000 in
set_option maxHeartbeats 8000000 in
theorem lnBars_no (B lb t : Nat) (ls : List (List UInt8)) (tl : List UInt8) (w : World) (h : LnAt w lb (unl ls tl) t) (hw : WC B w) (hn : ∀ x ∈ ls, (10 : UInt8) ∉ x) (hn2 : (10 : UInt8) ∉ tl) (hb : barsP ls = none) (hm : (unl ls tl).length ≤ 100000) (ht : t ≤ 100000) :
    Calls Tryz.prog 22 #[.pointer (some ⟨lb, 0, none⟩)] w fun e w' => e = .panicked (lineV (t + 1)) ∧ Below w.heap.size w w' := by
  have hno : takeP [124] ls = none := by
    rcases take_bar (l := ls) with ⟨z, q, rfl⟩ | ⟨h1, _⟩
    · cases hb
    · exact h1
  have hL1 : LnAt (w.alloc (.cells #[.slice none 0 0, .int .i64 0, .int .i8 0] 102)) lb (unl ls tl) t := hp_old h
  have hB1 : Below w.heap.size w (w.alloc (.cells #[.slice none 0 0, .int .i64 0, .int .i8 0] 102)) := (Below.refl _ _).alloc (Nat.le_refl _) _
  have MU := Lib.hid (must_no B lb t [124] ls tl _ hL1 (hw.up hB1) hn hn2 hno hm ht)
  have HB := Lib.hid hB1
  clear h hw hb hL1 hB1 hn hn2 hm ht hno
  go_enter Tryz.func22, Tryz.ntmps22
  go_wp2_with fail
  refine MU.out.mono ?_
  rintro e w1 ⟨rfl, n, rfl⟩
  go_wp2
  exact bodyPost_pan rfl ⟨rfl, below_drewN' HB.out⟩
end Go.Proofs.YtbllodeanfdebaaGreatDoor
