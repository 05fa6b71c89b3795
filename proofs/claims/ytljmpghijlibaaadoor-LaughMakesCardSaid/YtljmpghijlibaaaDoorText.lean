/- cref.Text. -/
import Derived.Test.YtljmpghijlibaaaDoorRows
import Derived.WalkKit
import Derived.ProofKit
import Derived.OpenShut
import Derived.ShutString
import Derived.ChangeOld
import Derived.Below
import Derived.BigQuiet
import Derived.Deep.QuietTactic
import Derived.Lib.Hide
import Derived.Deep.RegionHeld3
import Derived.Lib.SlBytesConst
import Derived.Laws.CopyOwn
import Derived.Laws.CopyRow
import Derived.Lib.Bytes
import Derived.Deep.LoopGhost
import Derived.Deep.DeepFit
import Derived.Deep.DeepMust
import Derived.WalkSpells
import Derived.WalkLawsBesides
import Derived.Laws.EntriesVeiled
import Derived.Laws.Rows
import Derived.Lib.AppendIntMem
import Derived.Test.YtljmpghijlibaaaDoorBase
import Derived.Test.YtljmpghijlibaaaDoorShelf
import Derived.Test.YtljmpghijlibaaaDoorCharPlain
import Derived.Test.YtljmpghijlibaaaDoorUtf1
import Derived.Test.YtljmpghijlibaaaDoorUtf2
import Derived.Test.YtljmpghijlibaaaDoorUtf3
import Derived.Test.YtljmpghijlibaaaDoorChars1
import Derived.Test.YtljmpghijlibaaaDoorName1
import Derived.Test.YtljmpghijlibaaaDoorName2
import Derived.Test.YtljmpghijlibaaaDoorName3
import Derived.Test.YtljmpghijlibaaaDoorCref1
import Derived.Test.YtljmpghijlibaaaDoorY2
import Derived.Test.YtljmpghijlibaaaDoorRef1
import Derived.Test.YtljmpghijlibaaaDoorRef3
import Derived.Test.YtljmpghijlibaaaDoorY3
import Derived.Test.YtljmpghijlibaaaDoorKnown
import Derived.Test.YtljmpghijlibaaaDoorStr
import Derived.Test.YtljmpghijlibaaaDoorEscP
namespace Go.Proofs.YtljmpghijlibaaaDoor
open Go.ChangeShapes Go.WideShapes Go.ChangeAt Go.RowKit
set_option linter.unusedVariables false
theorem TabIs_below {w w' : World} {B : Nat} {name : String} {k : IntKind} {zs : List Int} (h : Lib.TabIs Tryd.prog w name k zs) (hb : Below w.heap.size w w') : Lib.TabIs Tryd.prog w' name k zs := by
  unfold Lib.TabIs World.var? at *
  obtain ⟨g, hg, h⟩ := Option.bind_eq_some_iff.1 h
  rw [hg, Option.bind_some]
  cases ho : w.heap[g]? with
  | none => rw [ho] at h; cases h
  | some o =>
    rw [hb.block g (lt_of ho), ho]
    rw [ho] at h
    exact h
theorem grow_below {w w' : World} (h : ∃ k os, w' = Sort.grow (w.drewN k) os) : Below w.heap.size w w' := by
  obtain ⟨k, os, rfl⟩ := h
  exact Lib.below_grow _ w (Nat.le_refl _) k os
theorem itoa_c (n : Nat) (hn : n ≤ 2000000) (w : World) (hp : Lib.TabIs Tryd.prog w "internal/strconv.uint64pow10" .u64 Lib.pow10Tab) : Calls Tryd.prog 57 #[.int .i64 n] w fun e w' => e = .returned (.string ⟨(Lib.decDigits n).toArray⟩) ∧ Below w.heap.size w w' := by
  refine (Tryd.strconv_Itoa n (by omega) (by omega) w hp).mono fun e w' ⟨he, hw⟩ => ⟨?_, grow_below hw⟩
  rw [he]
  unfold Lib.itoa
  rw [if_neg (by omega)]
  simp
def textOut (r : Int) : List UInt8 := if isDoc r = true then 38 :: 35 :: (Lib.decDigits r.toNat ++ [59]) else []
set_option maxRecDepth 100000 in
set_option maxHeartbeats 2000000 in
theorem text_c (r : Int) (w : World) (hT : Tabs w) (hp : Lib.TabIs Tryd.prog w "internal/strconv.uint64pow10" .u64 Lib.pow10Tab) :
    Calls Tryd.prog 65 #[.int .i64 r] w fun e w' => e = .returned (.tuple #[.string ⟨(textOut r).toArray⟩, .int .i64 (if isDoc r = true then 0 else 6)]) ∧ Below w.heap.size w w' := by
  have c1 := char_c r w hT
  unfold textOut
  cases hd : isDoc r with
  | false =>
    rw [hd] at c1
    rw [if_neg (by decide), if_neg (by decide)]
    clear hd hT hp
    go_enter Tryd.func65, Tryd.ntmps65
    go_wp2_with fail
    refine c1.mono ?_
    rintro e w1 ⟨rfl, hb⟩
    have B1 := Lib.hid hb
    clear hb c1
    go_wp2
    go_ret2
    exact ⟨rfl, B1.out⟩
  | true =>
    have hr := (isDoc_iff r).1 hd
    rw [hd] at c1
    rw [if_pos rfl, if_pos rfl]
    obtain ⟨n, rfl⟩ : ∃ n : Nat, r = (n : Int) := ⟨r.toNat, by omega⟩
    have hn : n ≤ 2000000 := by omega
    rw [Int.toNat_natCast]
    have C2 : Hid (∀ w1, Below w.heap.size w w1 → Calls Tryd.prog 57 #[.int .i64 n] w1 fun e w' => e = .returned (.string ⟨(Lib.decDigits n).toArray⟩) ∧ Below w1.heap.size w1 w') := Lib.hid fun w1 hb => itoa_c n hn w1 (TabIs_below (B := 0) hp hb)
    have hle := decDigits_le n hn
    have hsp : ∀ w : World, (Op.stringOp .add ⟨#[38, 35]⟩ ⟨(Lib.decDigits n).toArray⟩).run Tryd.prog w = .ok (.string ⟨([38, 35] ++ Lib.decDigits n).toArray⟩) w := fun w => run_sop (w := w) [38, 35] (Lib.decDigits n) (by simp; omega)
    have hsp2 : ∀ w : World, (Op.stringOp .add ⟨([38, 35] ++ Lib.decDigits n).toArray⟩ ⟨#[59]⟩).run Tryd.prog w = .ok (.string ⟨([38, 35] ++ Lib.decDigits n ++ [59]).toArray⟩) w := fun w => run_sop (w := w) ([38, 35] ++ Lib.decDigits n) [59] (by simp; omega)
    have HE : Hid ([38, 35] ++ Lib.decDigits n ++ [59] = 38 :: 35 :: (Lib.decDigits n ++ [59])) := Lib.hid (by simp)
    rw [← HE.out]
    clear hd hT hp hr hle
    generalize [38, 35] ++ Lib.decDigits n ++ [59] = T2 at *
    generalize [38, 35] ++ Lib.decDigits n = T1 at *
    generalize Lib.decDigits n = T0 at *
    go_enter Tryd.func65, Tryd.ntmps65
    go_wp2_with fail
    refine c1.mono ?_
    rintro e w1 ⟨rfl, hb⟩
    have B1 := Lib.hid hb
    clear hb c1
    go_wp2_with fail
    refine (C2.out _ B1.out).mono ?_
    rintro e w2 ⟨rfl, hb⟩
    have B2 := Lib.hid (B1.out.trans (hb.mono B1.out.size))
    clear hb
    go_wp2
    go_ret2
    exact ⟨rfl, B2.out⟩
/-- A reference to a character that may stand in a document is read as it. -/
theorem text_read (r : Int) (h : isDoc r = true) : charAt (textOut r) 0 = (r, (textOut r).length, 0) := by
  have hr := (isDoc_iff r).1 h
  obtain ⟨n, rfl⟩ : ∃ n : Nat, r = (n : Int) := ⟨r.toNat, by omega⟩
  obtain ⟨h1, h2, h3⟩ := dec_digits n
  have e : textOut (n : Int) = 38 :: 35 :: (Lib.decDigits n ++ [59]) := by unfold textOut; rw [if_pos h, Int.toNat_natCast]
  have := char_num (Lib.decDigits n) [] (textOut n) 0 (by rw [e]; rfl) h3 h1
  unfold charAt
  rw [if_neg (by omega)]
  show charOut (textOut n) 0 = _
  rw [this, h2, if_pos h, e]
  simp
end Go.Proofs.YtljmpghijlibaaaDoor
