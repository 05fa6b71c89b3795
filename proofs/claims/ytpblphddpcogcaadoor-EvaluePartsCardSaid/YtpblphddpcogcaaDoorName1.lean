/- Names. -/
import Derived.Test.YtpblphddpcogcaaDoorRows
import Derived.WalkKit
import Derived.ProofKit
import Derived.OpenShut
import Derived.ShutString
import Derived.ChangeOld
import Derived.Below
import Derived.BigQuiet
import Derived.Deep.QuietTactic
import Derived.Lib.Hide
import Derived.Deep.RegionHeld3
import Derived.Lib.SlBytesConst
import Derived.Laws.CopyOwn
import Derived.Laws.CopyRow
import Derived.Lib.Bytes
import Derived.Deep.LoopGhost
import Derived.Deep.DeepFit
import Derived.Deep.DeepMust
import Derived.WalkSpells
import Derived.WalkLawsBesides
import Derived.Laws.EntriesVeiled
import Derived.Laws.Rows
import Derived.Test.YtpblphddpcogcaaDoorBase
import Derived.Test.YtpblphddpcogcaaDoorShelf
import Derived.Test.YtpblphddpcogcaaDoorCharPlain
import Derived.Test.YtpblphddpcogcaaDoorUtf1
import Derived.Test.YtpblphddpcogcaaDoorUtf2
import Derived.Test.YtpblphddpcogcaaDoorChars1
namespace Go.Proofs.YtpblphddpcogcaaDoor
open Go.ChangeShapes Go.WideShapes Go.ChangeAt Go.RowKit
set_option linter.unusedVariables false
/-- What a function of a number says, whatever has come behind block B since. -/
def Says (fn : Nat) (cb : Array Value) (B : Nat) (w0 : World) (f : Int → Bool) : Prop :=
  ∀ (w1 : World) (r : Int), Below B w0 w1 → Calls Tryd.prog fn (#[.int .i64 r] ++ cb) w1 fun e w' => e = .returned (.bool (f r)) ∧ Below w1.heap.size w1 w'
theorem Says.below {fn : Nat} {cb : Array Value} {B : Nat} {w0 w1 : World} {f : Int → Bool} (h : Says fn cb B w0 f) (hb : Below B w0 w1) : Says fn cb B w1 f := fun w2 r h2 => h w2 r (hb.trans h2)
theorem Says.more {fn : Nat} {cb : Array Value} {B B' : Nat} {w0 : World} {f : Int → Bool} (h : Says fn cb B w0 f) (hB : B ≤ B') : Says fn cb B' w0 f := fun w2 r h2 => h w2 r (h2.mono hB)
/-- But for a colon. -/
def noColon (f : Int → Bool) (r : Int) : Bool := decide (r ≠ 58) && f r
theorem is1_c (fn : Nat) (f : Int → Bool) (a : Nat) (B : Nat) (w0 : World) (hfn : ∀ args w, (callFunc fn args).run Tryd.prog w = .ok (.enter fn args) w) (ha : w0.cell? ⟨a, 0, none⟩ = some (.func (.func fn) #[] #[])) (haB : a < B) (hs : Says fn #[] B w0 f) :
    Says 139 #[.pointer (some ⟨a, 0, none⟩)] B w0 (noColon f) := by
  intro w1 r hb
  have hc : w1.cell? ⟨a, 0, none⟩ = some (.func (.func fn) #[] #[]) := by rw [hb.cell haB]; exact ha
  have hcall := hs w1 r hb
  clear hs ha hb
  unfold noColon
  show Calls Tryd.prog 139 #[.int .i64 r, .pointer (some ⟨a, 0, none⟩)] w1 _
  by_cases h58 : r = 58
  · subst h58
    clear hcall
    go_enter Tryd.func139, Tryd.ntmps139
    go_wp2
    go_ret
    exact ⟨rfl, Below.refl _ _⟩
  · have hne : (r != 58) = true := by simpa using h58
    have hd : decide (r ≠ 58) = true := by simpa using h58
    rw [hd]
    clear hd
    go_enter Tryd.func139, Tryd.ntmps139
    go_wp2_with fail
    refine hcall.mono ?_
    rintro e w2 ⟨rfl, hb2⟩
    go_wp2
    go_ret
    exact ⟨rfl, hb2⟩
theorem isF_c (fn : Nat) (w : World) : Calls Tryd.prog 138 #[.func (.func fn) #[] #[]] w fun e w' => e = .returned (.func (.func 139) #[] #[.pointer (some ⟨w.heap.size, 0, none⟩)]) ∧ w' = w.alloc (.cells #[.func (.func fn) #[] #[]] 71) := by
  go_enter Tryd.func138, Tryd.ntmps138
  go_wp2
  go_ret
  exact ⟨rfl, rfl⟩
/-- The sort of names without a colon, as its two functions. -/
def plainsV (a b : Nat) : Value := .agg #[.func (.func 139) #[] #[.pointer (some ⟨a, 0, none⟩)], .func (.func 139) #[] #[.pointer (some ⟨b, 0, none⟩)]]
def isStructB (P : Program) (t : TypeId) : Bool := match P.underlying t with | some (.struct _) => true | _ => false
theorem isStruct_of {P : Program} {t : TypeId} (h : isStructB P t = true) : ∃ d, P.underlying t = some (.struct d) := by
  unfold isStructB at h
  split at h
  · exact ⟨_, by assumption⟩
  · cases h
theorem plains_c (w : World) (h : TabN w) (hL : LowN w.heap.size) : Calls Tryd.prog 135 #[] w fun e w' => ∃ a b, e = .returned (plainsV a b) ∧ Below w.heap.size w w' ∧
    Says 139 #[.pointer (some ⟨a, 0, none⟩)] w'.heap.size w' (noColon isStart) ∧ Says 139 #[.pointer (some ⟨b, 0, none⟩)] w'.heap.size w' (noColon isMore) := by
  have HH := Lib.hid (And.intro h hL)
  clear h hL
  go_enter Tryd.func135, Tryd.ntmps135
  go_wp2_with fail
  refine (isF_c 99 _).mono ?_
  rintro e w1 ⟨rfl, rfl⟩
  go_wp2_with fail
  refine (isF_c 100 _).mono ?_
  rintro e w2 ⟨rfl, rfl⟩
  have f0 : (((w.alloc (.cells #[.nilFunc, .nilFunc] 122)).alloc (.cells #[.func (.func 99) #[] #[]] 71)).alloc (.cells #[.func (.func 100) #[] #[]] 71)).heap[w.heap.size]? = some (.cells #[.nilFunc, .nilFunc] 122) := hp_old (hp_old (hp_new _ _))
  have f1 : (((w.alloc (.cells #[.nilFunc, .nilFunc] 122)).alloc (.cells #[.func (.func 99) #[] #[]] 71)).alloc (.cells #[.func (.func 100) #[] #[]] 71)).heap[w.heap.size + 1]? = some (.cells #[.func (.func 99) #[] #[]] 71) := by
    have := hp_new (w.alloc (.cells #[.nilFunc, .nilFunc] 122)) (.cells #[.func (.func 99) #[] #[]] 71)
    rw [World.size_alloc] at this
    exact hp_old this
  have f2 : (((w.alloc (.cells #[.nilFunc, .nilFunc] 122)).alloc (.cells #[.func (.func 99) #[] #[]] 71)).alloc (.cells #[.func (.func 100) #[] #[]] 71)).heap[w.heap.size + 1 + 1]? = some (.cells #[.func (.func 100) #[] #[]] 71) := by
    have := hp_new ((w.alloc (.cells #[.nilFunc, .nilFunc] 122)).alloc (.cells #[.func (.func 99) #[] #[]] 71)) (.cells #[.func (.func 100) #[] #[]] 71)
    rw [World.size_alloc, World.size_alloc] at this
    exact this
  have hb : Below w.heap.size w (((w.alloc (.cells #[.nilFunc, .nilFunc] 122)).alloc (.cells #[.func (.func 99) #[] #[]] 71)).alloc (.cells #[.func (.func 100) #[] #[]] 71)) := Below.alloc (Below.alloc (Below.alloc (Below.refl _ _) (Nat.le_refl _) _) (by simp) _) (by simp; omega) _
  have hsz : (((w.alloc (.cells #[.nilFunc, .nilFunc] 122)).alloc (.cells #[.func (.func 99) #[] #[]] 71)).alloc (.cells #[.func (.func 100) #[] #[]] 71)).heap.size = w.heap.size + 3 := by simp
  rw [World.size_alloc, World.size_alloc]
  generalize ((w.alloc (.cells #[.nilFunc, .nilFunc] 122)).alloc (.cells #[.func (.func 99) #[] #[]] 71)).alloc (.cells #[.func (.func 100) #[] #[]] 71) = w3 at *
  have HB := Lib.hid (And.intro hb hsz)
  have F1 := Lib.hid f1
  have F2 := Lib.hid f2
  clear hb hsz f1 f2
  have z0 : w3.cell? ⟨w.heap.size, 0, none⟩ = some .nilFunc := by rw [cell_of 0 f0]; rfl
  have z1 : w3.cell? ⟨w.heap.size, 1, none⟩ = some .nilFunc := by rw [cell_of 1 f0]; rfl
  have y0 : w3.frozen? ⟨w.heap.size, 0, none⟩ = false := free_of 0 f0
  have y1 : w3.frozen? ⟨w.heap.size, 1, none⟩ = false := free_of 1 f0
  go_wp2
  have hF := hp_set (i := 1) (v := .func (.func 139) #[] #[.pointer (some ⟨w.heap.size + 1 + 1, 0, none⟩)]) (hp_set (i := 0) (v := .func (.func 139) #[] #[.pointer (some ⟨w.heap.size + 1, 0, none⟩)]) f0)
  have hi : (Tryd.prog.info? 122).map (·.size) = some 2 := by kernel_rfl
  obtain ⟨d, hu⟩ := isStruct_of (P := Tryd.prog) (t := 122) (by kernel_rfl)
  (try simp only [Exit.inBlock, Exit.then])
  refine bodyPost_ret (results_cell_row rfl _ _ w.heap.size _ _ _ _ rfl hF hu rfl hi) rfl ?_
  have hbb := Below.setCell (p := ⟨w.heap.size, 1, none⟩) (Below.setCell (p := ⟨w.heap.size, 0, none⟩) HB.out.1 (Nat.le_refl _) (.func (.func 139) #[] #[.pointer (some ⟨w.heap.size + 1, 0, none⟩)])) (Nat.le_refl _) (.func (.func 139) #[] #[.pointer (some ⟨w.heap.size + 1 + 1, 0, none⟩)])
  have h1 := F1.out
  have h2 := F2.out
  have hs3 := HB.out.2
  rw [← hp_other (w := w3) (b := w.heap.size) (i := 0) (v := .func (.func 139) #[] #[.pointer (some ⟨w.heap.size + 1, 0, none⟩)]) (by omega), ← hp_other (b := w.heap.size) (i := 1) (v := .func (.func 139) #[] #[.pointer (some ⟨w.heap.size + 1 + 1, 0, none⟩)]) (by omega)] at h1 h2
  have hsz : ((w3.setCell ⟨w.heap.size, 0, none⟩ (.func (.func 139) #[] #[.pointer (some ⟨w.heap.size + 1, 0, none⟩)])).setCell ⟨w.heap.size, 1, none⟩ (.func (.func 139) #[] #[.pointer (some ⟨w.heap.size + 1 + 1, 0, none⟩)])).heap.size = w.heap.size + 3 := by simp [hs3]
  generalize ((w3.setCell ⟨w.heap.size, 0, none⟩ (.func (.func 139) #[] #[.pointer (some ⟨w.heap.size + 1, 0, none⟩)])).setCell ⟨w.heap.size, 1, none⟩ (.func (.func 139) #[] #[.pointer (some ⟨w.heap.size + 1 + 1, 0, none⟩)])) = w4 at *
  have hT := HH.out.1.below hbb HH.out.2
  have hL : LowN w4.heap.size := by have := HH.out.2; unfold LowN at *; omega
  refine ⟨w.heap.size + 1, w.heap.size + 1 + 1, rfl, hbb, ?_, ?_⟩
  · exact is1_c 99 isStart _ _ w4 (enters_of Tryd.func99 (by kernel_rfl) rfl) (by rw [cell_of _ h1]; rfl) (by omega) fun w5 r hb => nameStart_c r w5 (hT.below hb hL)
  · exact is1_c 100 isMore _ _ w4 (enters_of Tryd.func100 (by kernel_rfl) rfl) (by rw [cell_of _ h2]; rfl) (by omega) fun w5 r hb => nameChar_c r w5 (hT.below hb hL) (by have := hb.size; unfold LowN at *; omega)
end Go.Proofs.YtpblphddpcogcaaDoor
