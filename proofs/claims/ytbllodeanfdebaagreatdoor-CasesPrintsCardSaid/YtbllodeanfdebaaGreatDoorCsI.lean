/- The reader of lines: take, must, named. -/
import Derived.Test.YtbllodeanfdebaaGreatDoorRows
import Derived.WalkKit
import Derived.ProofKit
import Derived.OpenShut
import Derived.ShutString
import Derived.ChangeOld
import Derived.Below
import Derived.BigQuiet
import Derived.Deep.QuietTactic
import Derived.Lib.Hide
import Derived.Deep.RegionHeld3
import Derived.Lib.SlBytesConst
import Derived.Laws.CopyOwn
import Derived.Laws.CopyRow
import Derived.Lib.Bytes
import Derived.Deep.LoopGhost
import Derived.Deep.DeepFit
import Derived.Deep.DeepMust
import Derived.WalkSpells
import Derived.WalkLawsBesides
import Derived.Laws.EntriesVeiled
import Derived.Laws.Rows
import Derived.Lib.Replace
import Derived.Lib.Split
import Derived.Lib.ItoaNum
import Derived.Lib.AtoiAllCases
import Derived.Test.YtbllodeanfdebaaGreatDoorShelf
import Derived.Test.YtbllodeanfdebaaGreatDoorBase
import Derived.Test.YtbllodeanfdebaaGreatDoorCsE
import Derived.Test.YtbllodeanfdebaaGreatDoorCsG
import Derived.Test.YtbllodeanfdebaaGreatDoorCsH
namespace Go.Proofs.YtbllodeanfdebaaGreatDoor
open Go.ChangeShapes Go.WideShapes Go.ChangeAt Go.RowKit
set_option linter.unusedVariables false
theorem str_bneC {a b : List UInt8} (h : a ≠ b) : ((⟨a.toArray⟩ : ByteArray).toList == (⟨b.toArray⟩ : ByteArray).toList) = false := by
  rw [Lib.toList_data, Lib.toList_data]
  simpa using h
theorem str_beqC (a : List UInt8) : ((⟨a.toArray⟩ : ByteArray).toList == (⟨a.toArray⟩ : ByteArray).toList) = true := by
  rw [Lib.toList_data]
  simp
theorem run_sFrom (l : List UInt8) (i : Nat) (h : i ≤ l.length) (w : World) :
    (Instr.slice 9 (.string ⟨l.toArray⟩) (some (.int .i64 (i : Int))) none none).run Tryz.prog w = .ok (.string ⟨(l.drop i).toArray⟩) w := by
  have hsz : (⟨l.toArray⟩ : ByteArray).size = l.length := by simp [ByteArray.size]
  rw [run_slice_string_l (P := Tryz.prog) (w := w) (t := 9) (s := ⟨l.toArray⟩) Tryz.underlying9 .i64 (i : Int) (by omega) (by rw [hsz]; omega)]
  congr 2
  refine ByteArray.ext (Array.toList_inj.1 ?_)
  rw [Lib.extract_data]
  rw [hsz]
  exact List.take_of_length_le (by simp)
theorem sz_of (l : List UInt8) : (⟨l.toArray⟩ : ByteArray).size = l.length := by simp [ByteArray.size]
set_option maxRecDepth 100000 in
set_option maxHeartbeats 4000000 in
theorem take_yes (B lb t : Nat) (b y : List UInt8) (ls : List (List UInt8)) (tl : List UInt8) (w : World) (h : LnAt w lb (unl (y :: ls) tl) t) (hw : WC B w) (hn : (10 : UInt8) ∉ y) (hp : b.isPrefixOf y = true) (hm : (unl (y :: ls) tl).length ≤ 100000) (ht : t ≤ 100000) :
    Calls Tryz.prog 49 #[.pointer (some ⟨lb, 0, none⟩), .string ⟨b.toArray⟩] w fun e w' => e = .returned (.tuple #[.string ⟨(y.drop b.length).toArray⟩, .bool true]) ∧ LnAt w' lb (unl ls tl) (t + 1) ∧ w.grownBy w' (some lb) := by
  have PK := Lib.hid (peek_c B lb t _ w h hw (by omega))
  have ec := cut_unl y ls tl hn
  rw [ec] at PK
  clear ec
  have hyl : y.length + 1 + (unl ls tl).length ≤ 100000 := by rw [unl_cons] at hm; simp at hm; omega
  have hbl : b.length ≤ y.length := (List.isPrefixOf_iff_prefix.1 hp).length_le
  have HF := Lib.hid (pfx_c y b)
  rw [hp] at HF
  have s1 : ∀ W, (Instr.slice 9 (.string ⟨(unl (y :: ls) tl).toArray⟩) (some (.int .i64 ((y.length : Int) + 1))) none none).run Tryz.prog W = .ok (.string ⟨(unl ls tl).toArray⟩) W := fun W => by
    have := run_sFrom (unl (y :: ls) tl) (y.length + 1) (by rw [unl_cons]; simp) W
    rw [show (unl (y :: ls) tl).drop (y.length + 1) = unl ls tl by rw [unl_cons, ← List.drop_drop, List.drop_left]; rfl] at this
    exact this
  have s2 : ∀ W, (Instr.slice 9 (.string ⟨y.toArray⟩) (some (.int .i64 (b.length : Int))) none none).run Tryz.prog W = .ok (.string ⟨(y.drop b.length).toArray⟩) W := fun W => run_sFrom y b.length hbl W
  have hy1 : (y.length : Int) ≤ 100000 := by omega
  have ht1 : (t : Int) ≤ 100000 := by omega
  have HL := Lib.hid h
  clear h hw hm hyl
  go_enter Tryz.func49, Tryz.ntmps49
  go_wp2_with fail
  refine (PK.out).mono ?_
  rintro e w1 ⟨rfl, n, rfl⟩
  have hL : LnAt (w.drewN n) lb (unl (y :: ls) tl) t := HL.out
  have hg : w.grownBy (w.drewN n) (some lb) := (gr_refl w _).drewN
  clear PK HL
  generalize w.drewN n = w1 at *
  generalize unl (y :: ls) tl = r0 at *
  have c0 : w1.cell? ⟨lb, 0, none⟩ = some (.string ⟨r0.toArray⟩) := by rw [cell_of 0 hL]; rfl
  have c1 : w1.cell? ⟨lb, 1, none⟩ = some (.int .i64 (t : Int)) := by rw [cell_of 1 hL]; rfl
  have f0 := free_of 0 hL
  have f1 := free_of 1 hL
  have HR := Lib.hid (show LnAt ((w1.setCell ⟨lb, 0, none⟩ (.string ⟨(unl ls tl).toArray⟩)).setCell ⟨lb, 1, none⟩ (.int .i64 ((t : Int) + 1))) lb (unl ls tl) (t + 1) ∧ w.grownBy ((w1.setCell ⟨lb, 0, none⟩ (.string ⟨(unl ls tl).toArray⟩)).setCell ⟨lb, 1, none⟩ (.int .i64 ((t : Int) + 1))) (some lb) from ⟨hp_set (hp_set hL), (hg.setCell 0 _).setCell 1 _⟩)
  clear hL hg
  go_wp2_with fail
  refine (HF.out _).mono ?_
  rintro e w2 ⟨rfl, rfl⟩
  go_wp2
  go_ret2
  exact ⟨rfl, HR.out⟩
set_option maxRecDepth 100000 in
set_option maxHeartbeats 4000000 in
theorem take_no (B lb t : Nat) (b : List UInt8) (ls : List (List UInt8)) (tl : List UInt8) (w : World) (h : LnAt w lb (unl ls tl) t) (hw : WC B w) (hn : ∀ x ∈ ls, (10 : UInt8) ∉ x) (hn2 : (10 : UInt8) ∉ tl) (hp : takeP b ls = none) (hm : (unl ls tl).length ≤ 100000) :
    Calls Tryz.prog 49 #[.pointer (some ⟨lb, 0, none⟩), .string ⟨b.toArray⟩] w fun e w' => e = .returned (.tuple #[.string ⟨#[]⟩, .bool false]) ∧ ∃ n, w' = w.drewN n := by
  have PK := Lib.hid (peek_c B lb t _ w h hw (by omega))
  clear h hw
  cases ls with
  | nil =>
    rw [cut_tail tl hn2] at PK
    go_enter Tryz.func49, Tryz.ntmps49
    go_wp2_with fail
    refine (PK.out).mono ?_
    rintro e w1 ⟨rfl, n, rfl⟩
    go_wp2
    go_ret2
    exact ⟨rfl, n, rfl⟩
  | cons y ls =>
    rw [cut_unl y ls tl (hn y (by simp))] at PK
    have hp2 : b.isPrefixOf y = false := by
      unfold takeP at hp
      cases hb : b.isPrefixOf y with
      | false => rfl
      | true => simp [hb] at hp
    have HF := Lib.hid (pfx_c y b)
    rw [hp2] at HF
    clear hp hn hp2
    go_enter Tryz.func49, Tryz.ntmps49
    go_wp2_with fail
    refine (PK.out).mono ?_
    rintro e w1 ⟨rfl, n, rfl⟩
    go_wp2_with fail
    refine (HF.out _).mono ?_
    rintro e w2 ⟨rfl, rfl⟩
    go_wp2
    go_ret2
    exact ⟨rfl, n, rfl⟩
set_option maxRecDepth 100000 in
set_option maxHeartbeats 4000000 in
theorem must_yes (B lb t : Nat) (b y : List UInt8) (ls : List (List UInt8)) (tl : List UInt8) (w : World) (h : LnAt w lb (unl (y :: ls) tl) t) (hw : WC B w) (hn : (10 : UInt8) ∉ y) (hp : b.isPrefixOf y = true) (hm : (unl (y :: ls) tl).length ≤ 100000) (ht : t ≤ 100000) :
    Calls Tryz.prog 20 #[.pointer (some ⟨lb, 0, none⟩), .string ⟨b.toArray⟩] w fun e w' => e = .returned (.string ⟨(y.drop b.length).toArray⟩) ∧ LnAt w' lb (unl ls tl) (t + 1) ∧ w.grownBy w' (some lb) := by
  have TK := Lib.hid (take_yes B lb t b y ls tl w h hw hn hp hm ht)
  clear h hw hm
  go_enter Tryz.func20, Tryz.ntmps20
  go_wp2_with fail
  refine TK.out.mono ?_
  rintro e w1 ⟨rfl, hr⟩
  have HR := Lib.hid hr
  clear hr TK
  go_wp2
  go_ret
  exact ⟨rfl, HR.out⟩
set_option maxRecDepth 100000 in
set_option maxHeartbeats 4000000 in
theorem must_no (B lb t : Nat) (b : List UInt8) (ls : List (List UInt8)) (tl : List UInt8) (w : World) (h : LnAt w lb (unl ls tl) t) (hw : WC B w) (hn : ∀ x ∈ ls, (10 : UInt8) ∉ x) (hn2 : (10 : UInt8) ∉ tl) (hp : takeP b ls = none) (hm : (unl ls tl).length ≤ 100000) (ht : t ≤ 100000) :
    Calls Tryz.prog 20 #[.pointer (some ⟨lb, 0, none⟩), .string ⟨b.toArray⟩] w fun e w' => e = .panicked (lineV (t + 1)) ∧ ∃ n, w' = w.drewN n := by
  have TK := Lib.hid (take_no B lb t b ls tl w h hw hn hn2 hp hm)
  have FL := Lib.hid (fun n => fail_c lb t _ (w.drewN n) h.drewN (by omega))
  clear h hw hm
  go_enter Tryz.func20, Tryz.ntmps20
  go_wp2_with fail
  refine TK.out.mono ?_
  rintro e w1 ⟨rfl, n, rfl⟩
  go_wp2_with fail
  refine (FL.out n).mono ?_
  rintro e w2 ⟨rfl, rfl⟩
  go_wp2
  exact bodyPost_pan rfl ⟨rfl, n, rfl⟩
theorem begins_pre {b y : List UInt8} (h : beginsL b y = true) : b.isPrefixOf y = true ∧ y ≠ b := by
  unfold beginsL at h
  rw [Bool.and_eq_true, decide_eq_true_eq] at h
  exact ⟨h.1, fun e => by rw [e] at h; omega⟩
theorem begins_not {b y : List UInt8} (h : beginsL b y = false) (hp : b.isPrefixOf y = true) : y = b := by
  unfold beginsL at h
  rw [hp, Bool.true_and, decide_eq_false_iff_not] at h
  obtain ⟨t, rfl⟩ := List.isPrefixOf_iff_prefix.1 hp
  rw [List.length_append] at h
  have : t.length = 0 := by omega
  rw [List.length_eq_zero_iff.1 this, List.append_nil]
set_option maxRecDepth 100000 in
set_option maxHeartbeats 4000000 in
theorem named_yes (B lb t : Nat) (b y : List UInt8) (ls : List (List UInt8)) (tl : List UInt8) (w : World) (h : LnAt w lb (unl (y :: ls) tl) t) (hw : WC B w) (hn : (10 : UInt8) ∉ y) (hp : beginsL b y = true) (hm : (unl (y :: ls) tl).length ≤ 100000) (ht : t ≤ 100000) :
    Calls Tryz.prog 18 #[.pointer (some ⟨lb, 0, none⟩), .string ⟨b.toArray⟩] w fun e w' => e = .returned (.tuple #[.string ⟨(y.drop b.length).toArray⟩, .bool true]) ∧ LnAt w' lb (unl ls tl) (t + 1) ∧ w.grownBy w' (some lb) := by
  obtain ⟨hp1, hp2⟩ := begins_pre hp
  have TK := Lib.hid (fun n => take_yes B lb t b y ls tl (w.drewN n) h.drewN hw.drewN hn hp1 hm ht)
  have PK := Lib.hid (peek_c B lb t _ w h hw (by omega))
  have ec := cut_unl y ls tl hn
  rw [ec] at PK
  have HF := Lib.hid (pfx_c y b)
  rw [hp1] at HF
  have hne : (y == b) = false := by simpa using hp2
  have hne2 := str_bneC hp2
  clear h hw hm ec hp hp2
  go_enter Tryz.func18, Tryz.ntmps18
  go_wp2_with fail
  refine (PK.out).mono ?_
  rintro e w1 ⟨rfl, n, rfl⟩
  go_wp2_with fail
  refine (HF.out _).mono ?_
  rintro e w2 ⟨rfl, rfl⟩
  go_wp2_with fail
  refine (TK.out n).mono ?_
  rintro e w3 ⟨rfl, hr⟩
  have HR := Lib.hid (And.intro hr.1 (((gr_refl w (some lb)).drewN (n := n)).trans' hr.2))
  clear hr TK
  go_wp2
  go_ret2
  exact ⟨rfl, HR.out⟩
set_option maxRecDepth 100000 in
set_option maxHeartbeats 4000000 in
theorem named_no (B lb t : Nat) (b : List UInt8) (ls : List (List UInt8)) (tl : List UInt8) (w : World) (h : LnAt w lb (unl ls tl) t) (hw : WC B w) (hn : ∀ x ∈ ls, (10 : UInt8) ∉ x) (hn2 : (10 : UInt8) ∉ tl) (hp : namedP b ls = none) (hm : (unl ls tl).length ≤ 100000) :
    Calls Tryz.prog 18 #[.pointer (some ⟨lb, 0, none⟩), .string ⟨b.toArray⟩] w fun e w' => e = .returned (.tuple #[.string ⟨#[]⟩, .bool false]) ∧ ∃ n, w' = w.drewN n := by
  have PK := Lib.hid (peek_c B lb t _ w h hw (by omega))
  clear h hw
  cases ls with
  | nil =>
    rw [cut_tail tl hn2] at PK
    go_enter Tryz.func18, Tryz.ntmps18
    go_wp2_with fail
    refine (PK.out).mono ?_
    rintro e w1 ⟨rfl, n, rfl⟩
    go_wp2
    go_ret2
    exact ⟨rfl, n, rfl⟩
  | cons y ls =>
    rw [cut_unl y ls tl (hn y (by simp))] at PK
    have hp2 : beginsL b y = false := by
      unfold namedP at hp
      cases hb : beginsL b y with
      | false => rfl
      | true => simp [hb] at hp
    have HF := Lib.hid (pfx_c y b)
    cases hpre : b.isPrefixOf y with
    | false =>
      rw [hpre] at HF
      clear hp hn hp2 hpre
      go_enter Tryz.func18, Tryz.ntmps18
      go_wp2_with fail
      refine (PK.out).mono ?_
      rintro e w1 ⟨rfl, n, rfl⟩
      go_wp2_with fail
      refine (HF.out _).mono ?_
      rintro e w2 ⟨rfl, rfl⟩
      go_wp2
      go_ret2
      exact ⟨rfl, n, rfl⟩
    | true =>
      rw [hpre] at HF
      obtain rfl := begins_not hp2 hpre
      clear hp hn hp2 hpre
      go_enter Tryz.func18, Tryz.ntmps18
      go_wp2_with fail
      refine (PK.out).mono ?_
      rintro e w1 ⟨rfl, n, rfl⟩
      go_wp2_with fail
      refine (HF.out _).mono ?_
      rintro e w2 ⟨rfl, rfl⟩
      go_wp2
      go_ret2
      exact ⟨rfl, n, rfl⟩
end Go.Proofs.YtbllodeanfdebaaGreatDoor
