/- A case as the document has it; the example of the page. -/
import Derived.Test.YtbllodeanfdebaaGreatDoorRows
import Derived.WalkKit
import Derived.ProofKit
import Derived.OpenShut
import Derived.ShutString
import Derived.ChangeOld
import Derived.Below
import Derived.BigQuiet
import Derived.Deep.QuietTactic
import Derived.Lib.Hide
import Derived.Deep.RegionHeld3
import Derived.Lib.SlBytesConst
import Derived.Laws.CopyOwn
import Derived.Laws.CopyRow
import Derived.Lib.Bytes
import Derived.Deep.LoopGhost
import Derived.Deep.DeepFit
import Derived.Deep.DeepMust
import Derived.WalkSpells
import Derived.WalkLawsBesides
import Derived.Laws.EntriesVeiled
import Derived.Lib.IndexBytes
import Derived.Deep.RegionWith
import Derived.Tactics2
import Derived.Laws.Rows
import Derived.Lib.Replace
import Derived.Lib.Split
import Derived.Lib.ItoaNum
import Derived.Lib.AtoiAllCases
import Derived.Lib.AtoiErrMem
import Derived.Lib.AppendIntMem
import Derived.Maps.OwnOps
import Derived.Maps.OwnSet
import Derived.Maps.Views
import Derived.Maps.AppendAt
import Derived.Deep.AppendLies
import Derived.Defers
import Derived.Recover
import Derived.Laws.Pointers
import Derived.Test.YtbllodeanfdebaaGreatDoorShelf
import Derived.Test.YtbllodeanfdebaaGreatDoorBase
import Derived.Test.YtbllodeanfdebaaGreatDoorCsE
import Derived.Test.YtbllodeanfdebaaGreatDoorCsG
import Derived.Test.YtbllodeanfdebaaGreatDoorCsH
import Derived.Test.YtbllodeanfdebaaGreatDoorCsI
import Derived.Test.YtbllodeanfdebaaGreatDoorCsJ
import Derived.Test.YtbllodeanfdebaaGreatDoorCalm
import Derived.Test.YtbllodeanfdebaaGreatDoorCsL
import Derived.Test.YtbllodeanfdebaaGreatDoorRowS
import Derived.Test.YtbllodeanfdebaaGreatDoorRowG
import Derived.Test.YtbllodeanfdebaaGreatDoorCsO
import Derived.Test.YtbllodeanfdebaaGreatDoorCsM
import Derived.Test.YtbllodeanfdebaaGreatDoorCsN2
import Derived.Test.YtbllodeanfdebaaGreatDoorStL
import Derived.Test.YtbllodeanfdebaaGreatDoorCsO2
import Derived.Test.YtbllodeanfdebaaGreatDoorCsQ
import Derived.Test.YtbllodeanfdebaaGreatDoorStr
import Derived.Test.YtbllodeanfdebaaGreatDoorCsR
import Derived.Test.YtbllodeanfdebaaGreatDoorCsS
import Derived.Test.YtbllodeanfdebaaGreatDoorCsT
import Derived.Test.YtbllodeanfdebaaGreatDoorCsU
import Derived.Test.YtbllodeanfdebaaGreatDoorCsV
import Derived.Test.YtbllodeanfdebaaGreatDoorCsW
import Derived.Test.YtbllodeanfdebaaGreatDoorCsY
import Derived.Test.YtbllodeanfdebaaGreatDoorCsZ
import Derived.Test.YtbllodeanfdebaaGreatDoorCsPa
import Derived.Test.YtbllodeanfdebaaGreatDoorRpC
import Derived.Test.YtbllodeanfdebaaGreatDoorCtD
import Derived.Test.YtbllodeanfdebaaGreatDoorCtE
import Derived.Test.YtbllodeanfdebaaGreatDoorCsB2
import Derived.Test.YtbllodeanfdebaaGreatDoorBuild
import Derived.Test.YtbllodeanfdebaaGreatDoorCsPb
namespace Go.Proofs.YtbllodeanfdebaaGreatDoor
open Go.ChangeShapes Go.WideShapes Go.ChangeAt Go.RowKit
set_option linter.unusedVariables false
theorem rcaseInfo : (Tryz.prog.info? 34).map (·.size) = some 9 := by kernel_rfl
set_option linter.unusedSimpArgs false in
set_option maxRecDepth 100000 in
set_option maxHeartbeats 8000000 in
theorem like_c (w : World) (c : CaseC) (A1 A2 A3 : Option Addr) (c1 c2 c3 : Nat) (ys : List AnV) (h : CIn w c A1 A2 A3 c1 c2 c3 ys) :
    Calls Tryz.prog 9 #[caseW c A1 A2 A3 c1 c2 c3] w fun e w' => e = .returned (rcaseW c A2 A3 c2 c3) ∧ Below w.heap.size w w' := by
  obtain ⟨m0, m1, m2, m3, m4, m5, HCV⟩ := caseV_ints c.lim
  unfold caseW rcaseW
  rw [HCV, HCV]
  obtain ⟨d9, hu⟩ := isStruct_ofC (P := Tryz.prog) (t := 34) (by kernel_rfl)
  obtain ⟨N, hN⟩ : ∃ N, w.heap.size = N := ⟨_, rfl⟩
  obtain ⟨w1, hw1⟩ : ∃ w1, w.alloc (.cells #[.slice A1 c.doc.length c1, .int .i64 m0, .int .i64 m1, .int .i64 m2, .int .i64 m3, .int .i64 m4, .int .i64 m5, .slice A2 c.allow.length c2, .slice A3 c.script.length c3] 29) = w1 := ⟨_, rfl⟩
  obtain ⟨N2, hN2⟩ : ∃ N, w1.heap.size = N := ⟨_, rfl⟩
  obtain ⟨w2, hw2⟩ : ∃ w2, w1.alloc (.cells #[.string ⟨#[]⟩, .int .i64 0, .int .i64 0, .int .i64 0, .int .i64 0, .int .i64 0, .int .i64 0, .slice none 0 0, .slice none 0 0] 34) = w2 := ⟨_, rfl⟩
  have k1 : w2.heap[N]? = some (.cells #[.slice A1 c.doc.length c1, .int .i64 m0, .int .i64 m1, .int .i64 m2, .int .i64 m3, .int .i64 m4, .int .i64 m5, .slice A2 c.allow.length c2, .slice A3 c.script.length c3] 29) := by rw [← hw2, ← hw1, ← hN]; exact hp_old (hp_new _ _)
  have k2 : w2.heap[N2]? = some (.cells #[.string ⟨#[]⟩, .int .i64 0, .int .i64 0, .int .i64 0, .int .i64 0, .int .i64 0, .int .i64 0, .slice none 0 0, .slice none 0 0] 34) := by rw [← hw2, ← hN2]; exact hp_new _ _
  have hsz : w.heap.size ≤ w1.heap.size := by rw [← hw1]; simp
  have hb2 : Below w.heap.size w w2 := by
    rw [← hw2]
    refine Below.alloc (by rw [← hw1]; exact (Below.refl _ _).alloc (Nat.le_refl _) _) hsz _
  have hst := (h.doc.below hb2).str
  have q0 : w2.cell? ⟨N, 0, none⟩ = some (.slice A1 c.doc.length c1) := by rw [cell_of 0 k1]; rfl
  have q1 : w2.cell? ⟨N, 1, none⟩ = some (.int .i64 m0) := by rw [cell_of 1 k1]; rfl
  have q2 : w2.cell? ⟨N, 2, none⟩ = some (.int .i64 m1) := by rw [cell_of 2 k1]; rfl
  have q3 : w2.cell? ⟨N, 3, none⟩ = some (.int .i64 m2) := by rw [cell_of 3 k1]; rfl
  have q4 : w2.cell? ⟨N, 4, none⟩ = some (.int .i64 m3) := by rw [cell_of 4 k1]; rfl
  have q5 : w2.cell? ⟨N, 5, none⟩ = some (.int .i64 m4) := by rw [cell_of 5 k1]; rfl
  have q6 : w2.cell? ⟨N, 6, none⟩ = some (.int .i64 m5) := by rw [cell_of 6 k1]; rfl
  have q7 : w2.cell? ⟨N, 7, none⟩ = some (.slice A2 c.allow.length c2) := by rw [cell_of 7 k1]; rfl
  have q8 : w2.cell? ⟨N, 8, none⟩ = some (.slice A3 c.script.length c3) := by rw [cell_of 8 k1]; rfl
  have HF := Lib.hid (And.intro (setRow_heap _ _ _ #[.string ⟨c.doc.toArray⟩, .int .i64 m0, .int .i64 m1, .int .i64 m2, .int .i64 m3, .int .i64 m4, .int .i64 m5, .slice A2 c.allow.length c2, .slice A3 c.script.length c3] _ _ k2) (below_setRow hb2 (show w.heap.size ≤ N2 by omega) #[.string ⟨c.doc.toArray⟩, .int .i64 m0, .int .i64 m1, .int .i64 m2, .int .i64 m3, .int .i64 m4, .int .i64 m5, .slice A2 c.allow.length c2, .slice A3 c.script.length c3]))
  clear h k1 hb2 hsz
  go_enter Tryz.func9, Tryz.ntmps9
  go_wp2_with (first | (refine wpList_store_row rfl _ _ _ rfl N2 #[.string ⟨c.doc.toArray⟩, .int .i64 m0, .int .i64 m1, .int .i64 m2, .int .i64 m3, .int .i64 m4, .int .i64 m5, .slice A2 c.allow.length c2, .slice A3 c.script.length c3] rfl rfl _ _ k2 (by kernel_rfl) rfl (by kernel_rfl) ?_))
  exact bodyPost_ret (results_cell_row rfl _ _ N2 _ _ _ (.struct d9) rfl HF.out.1 hu rfl rcaseInfo) rfl ⟨rfl, HF.out.2⟩
def case0 : CaseC := ⟨[60, 97, 47, 62], [0, 0, 0, 0, 0, 0], [], []⟩
def text0 : List UInt8 := [108, 105, 109, 105, 116, 115, 32, 48, 32, 48, 32, 48, 32, 48, 32, 48, 32, 48, 10, 100, 111, 99, 10, 124, 60, 97, 47, 62, 10]
theorem print0 : printC Lib.decDigits case0 = text0 := by
  have h0 : Lib.decDigits 0 = [48] := by rw [Lib.decDigits]; rfl
  unfold printC linesC case0 limT
  simp only [List.map_cons, List.map_nil, h0]
  rfl
theorem good0 : CGood case0 where
  six := rfl
  nums := by intro n hn; simp [case0] at hn; omega
  allow := by intro p hp; cases hp
  script := by intro a ha; cases ha
  na := by decide
  ns := by decide
  sum := by decide
  len := by rw [print0]; decide
set_option linter.unusedSimpArgs false in
set_option maxRecDepth 100000 in
set_option maxHeartbeats 8000000 in
theorem live43_c (B : Nat) (w : World) (hw : WC B w) : Calls Tryz.prog 5 #[] w fun e w' => e = .returned (.bool true) ∧ Below w.heap.size w w' := by
  obtain ⟨N, hN⟩ : ∃ N, w.heap.size = N := ⟨_, rfl⟩
  have kc := Lib.run_convert_bytes_const (P := Tryz.prog) w 23 5 #[.int .u8 60, .int .u8 97, .int .u8 47, .int .u8 62] 4 4 Tryz.underlying23 Tryz.underlying5
  obtain ⟨w0, hw0⟩ : ∃ w0, w.alloc (.cells #[.int .u8 60, .int .u8 97, .int .u8 47, .int .u8 62] 5) = w0 := ⟨_, rfl⟩
  obtain ⟨w1, hw1⟩ : ∃ w1, w.alloc (.cells #[.int .u8 60, .int .u8 97, .int .u8 47, .int .u8 62] 5 (4, 5)) = w1 := ⟨_, rfl⟩
  have kc1 : (convert 23 23 (.slice (some ⟨N, 0, none⟩) 4 4)).run Tryz.prog w0 = .ok (.slice (some ⟨N, 0, none⟩) 4 4) w1 := by rw [← hw0, ← hw1, ← hN]; exact kc
  have hb1 : Below w.heap.size w w1 := by rw [← hw1]; exact (Below.refl _ _).alloc (Nat.le_refl _) _
  have hby : Byt w1 w1.heap.size (some ⟨N, 0, none⟩) 4 4 [60, 97, 47, 62] := by
    rw [← hw1, ← hN]
    have := Byt.const w [60, 97, 47, 62] (4, 5) (by decide)
    rw [World.size_alloc]
    exact this
  have hin : CIn w1 case0 (some ⟨N, 0, none⟩) none none 4 0 0 [] := ⟨hby, RRd.nilR _ _ _ _, rfl, RRd.nilR _ _ _ _, fun y hy => by cases hy⟩
  have PC : Hid (Calls Tryz.prog 10 #[.agg #[.slice (some ⟨N, 0, none⟩) 4 4, .int .i64 0, .int .i64 0, .int .i64 0, .int .i64 0, .int .i64 0, .int .i64 0, .slice none 0 0, .slice none 0 0]] w1 fun e w' => e = .returned (.tuple #[.string ⟨text0.toArray⟩, .int .i64 0]) ∧ Below w1.heap.size w1 w') := Lib.hid (by
    have h9 := print_c B w1 case0 _ _ _ _ _ _ _ hin good0 (hw.up hb1)
    rw [print0] at h9
    exact h9)
  have HB := Lib.hid hb1
  have hse := str_beqC text0
  clear hin hby hw hb1 kc hw1
  go_enter Tryz.func5, Tryz.ntmps5
  go_wp2_with fail
  refine PC.out.mono ?_
  rintro e w2 ⟨rfl, hb2⟩
  have HB2 := Lib.hid (HB.out.trans (hb2.mono HB.out.size))
  clear hb2
  unfold text0 at *
  go_wp2
  go_ret
  exact ⟨rfl, HB2.out⟩
end Go.Proofs.YtbllodeanfdebaaGreatDoor
