/- A builder that keeps what stands beside it. -/
import Derived.Test.YtbllodeanfdebaaGreatDoorRows
import Derived.WalkKit
import Derived.ProofKit
import Derived.OpenShut
import Derived.ShutString
import Derived.ChangeOld
import Derived.Below
import Derived.BigQuiet
import Derived.Deep.QuietTactic
import Derived.Lib.Hide
import Derived.Deep.RegionHeld3
import Derived.Lib.SlBytesConst
import Derived.Laws.CopyOwn
import Derived.Laws.CopyRow
import Derived.Lib.Bytes
import Derived.Deep.LoopGhost
import Derived.Deep.DeepFit
import Derived.Deep.DeepMust
import Derived.WalkSpells
import Derived.WalkLawsBesides
import Derived.Shelf.Strings.Builder1
import Derived.Laws.EntriesVeiled
import Derived.Laws.Rows
import Derived.Test.YtbllodeanfdebaaGreatDoorBase
import Derived.Test.YtbllodeanfdebaaGreatDoorShelf
import Derived.Test.YtbllodeanfdebaaGreatDoorBuild
namespace Go.Proofs.YtbllodeanfdebaaGreatDoor
open Go.ChangeShapes Go.WideShapes Go.ChangeAt Go.RowKit
set_option linter.unusedVariables false
/-- Every block but b that holds no bytes stands. -/
def Kp (b : Nat) (w w' : World) : Prop := ∀ k vs T f, k ≠ b → T ≠ 5 → w.heap[k]? = some (.cells vs T f) → w'.heap[k]? = some (.cells vs T f)
theorem Kp.trans {b : Nat} {x y z : World} (h : Kp b x y) (k : Kp b y z) : Kp b x z := fun j vs T f h1 h2 h3 => k j vs T f h1 h2 (h j vs T f h1 h2 h3)
/-- copyCheck, and what stands behind it. -/
theorem copyCheck_k (b : Nat) (l : List UInt8) (w : World) (h : Bld (b + 1) b l w) :
    Calls Tryz.prog 55 #[.pointer (some ⟨b, 0, none⟩)] w fun e w' => e = .returned (.tuple #[]) ∧ BldP (.pointer (some ⟨b, 0, none⟩)) (b + 1) b l w' ∧ Fr (b + 1) b w w' ∧ Kp b w w' := by
  rcases h with ⟨hb, v, hh, ho⟩ | h
  · refine (copyCheck_fresh b w (by rw [cell_of 0 hh]; rfl) (by simp [World.shape?, hh]) (free_of 0 hh)).mono ?_
    rintro e w' ⟨rfl, rfl⟩
    refine ⟨rfl, ⟨hb, v, ?_, ?_⟩, (Fr.refl (b + 1) b w).set 0 _, fun k vs T f h1 _ h3 => by rw [hp_other h1]; exact h3⟩
    · rw [hp_set hh]; rfl
    · refine ho.kept (row := some b) ((gr_refl w (some b)).setCell 0 _) (Or.inr ?_)
      intro e
      have := (ho.lt b e).1
      omega
  · obtain ⟨hb, v, hh, ho⟩ := h
    refine (copyCheck_used b w (by rw [cell_of 0 hh]; rfl)).mono ?_
    rintro e w' ⟨rfl, rfl⟩
    exact ⟨rfl, ⟨hb, v, hh, ho⟩, Fr.refl _ b _, fun k vs T f _ _ h3 => h3⟩
theorem ownsRow_typeB {w : World} {B : Nat} {e : TypeId} {c n : Nat} {v : Value} {xs : List Value} (h : w.ownsRow B e c v n xs) {k : Nat} {vs : Array Value} {T : TypeId} {f : Nat × Nat} (hk : w.heap[k]? = some (.cells vs T f)) (hT : T ≠ e) : some k ≠ v.ownBlock := by
  obtain ⟨hl, ⟨hv, _⟩ | ⟨g, cap, cur, hv, hg, hh, r⟩⟩ := h
  · rw [hv]; simp [Value.ownBlock]
  · rw [hv]
    intro e'
    simp [Value.ownBlock] at e'
    subst e'
    rw [hh] at hk
    cases hk
    exact hT rfl
set_option maxRecDepth 100000 in
set_option maxHeartbeats 4000000 in
/-- (*strings.Builder).WriteString, and what stands behind it. -/
theorem writeString_k (b : Nat) (l s : List UInt8) (w : World) (h : Bld (b + 1) b l w) (hlen : l.length + s.length ≤ 140737488355328) :
    Calls Tryz.prog 33 #[.pointer (some ⟨b, 0, none⟩), .string ⟨s.toArray⟩] w fun e w' => e = .returned (.tuple #[.int .i64 s.length, .nilIface]) ∧ Bld (b + 1) b (l ++ s) w' ∧ Fr (b + 1) b w w' ∧ Kp b w w' := by
  obtain ⟨i0, hi, hz0, hz1, hz2⟩ := info_parts (show (Tryz.prog.info? 5).map (fun i => (i.zero, i.size, i.bytes)) = some (some (.int .u8 0), 1, 1) by kernel_rfl)
  have hRw : b + 1 ≤ w.heap.size := h.lt
  have hss : (⟨s.toArray⟩ : ByteArray).size = s.length := by simp [ByteArray.size]
  have HSS := Lib.hid hss
  have hsc : Lib.strCells ⟨s.toArray⟩ = Lib.byteCells s := by simp [Lib.strCells, Lib.byteCells]
  have HSC := Lib.hid hsc
  have hle : (⟨s.toArray⟩ : ByteArray).size + l.length ≤ 140737488355328 := by omega
  have hsn : Lib.byteCells l ++ Lib.byteCells s = Lib.byteCells (l ++ s) := by simp [Lib.byteCells]
  have HSN := Lib.hid hsn
  rw [← hss]
  clear hss hsn hsc hlen
  generalize (⟨s.toArray⟩ : ByteArray) = sa at *
  go_enter Tryz.func33, Tryz.ntmps33
  go_wp2_with fail
  refine (copyCheck_k b l _ h).mono ?_
  rintro e w1 ⟨rfl, ⟨hbR, v, hbk, hown⟩, hf1, hk1⟩
  have c0 : w1.cell? ⟨b, 0, none⟩ = some (.pointer (some ⟨b, 0, none⟩)) := by rw [cell_of 0 hbk]; rfl
  have c1 : w1.cell? ⟨b, 1, none⟩ = some v := by rw [cell_of 1 hbk]; rfl
  have hs1 := hf1.size
  go_wp2_with (at_builtin; refine Lib.wpList_append_own_string _ rfl _ _ 23 9 rfl (b + 1) 5 i0 Tryz.underlying23 Tryz.underlying9 hi hz0 hz1 hz2 _ _ _ rfl hown sa rfl ?c3 ?c4 ?c5 ?_)
  case c3 => unfold maxLen; omega
  case c4 => omega
  case c5 => omega
  intro v' w2 hown' hgrow _
  have hlt : b < w1.heap.size := lt_of hbk
  have hne : some b ≠ v.ownBlock := by
    intro e
    have := (hown.lt b e.symm).1
    omega
  have hb2 : w2.heap[b]? = some (.cells #[.pointer (some ⟨b, 0, none⟩), v] 81 (0, 0)) := by
    rw [hgrow.block b hlt hne]
    exact hbk
  have d0 : w2.cell? ⟨b, 0, none⟩ = some (.pointer (some ⟨b, 0, none⟩)) := by rw [cell_of 0 hb2]; rfl
  have d1 : w2.cell? ⟨b, 1, none⟩ = some v := by rw [cell_of 1 hb2]; rfl
  have f1 : w2.frozen? ⟨b, 1, none⟩ = false := free_of 1 hb2
  have hF2 : Fr (b + 1) b w w2 := hf1.trans ⟨hgrow.os, hgrow.tape, hgrow.output, hgrow.size, fun k hk hkb => hgrow.block k (by omega) (fun e => by have := (hown.lt k e.symm).1; omega)⟩
  have hK2 : Kp b w w2 := hk1.trans fun k vs T f _ h2 h3 => by rw [hgrow.block k (lt_of h3) (ownsRow_typeB hown h3 h2)]; exact h3
  obtain ⟨ao, n', cap, rfl⟩ : ∃ ao n' cap, v' = .slice ao n' cap := by
    rcases hown'.2 with ⟨hv, _⟩ | ⟨g, cap, cur, hv, _⟩
    · exact ⟨_, _, _, hv⟩
    · exact ⟨_, _, _, hv⟩
  have HF2 := Lib.hid hF2
  have HK2 := Lib.hid hK2
  have HO := Lib.hid hown'
  clear hF2 hK2 hown' hgrow hown h hf1 hk1 hbk
  go_wp2
  go_ret2
  refine ⟨rfl, Or.inr ⟨hbR, _, by rw [hp_set hb2]; rfl, ?_⟩, HF2.out.set 1 _, fun k vs T f h1 h2 h3 => by rw [hp_other h1]; exact HK2.out k vs T f h1 h2 h3⟩
  have ho2 := HO.out
  rw [HSC.out, HSN.out, HSS.out] at ho2
  rw [List.length_append]
  refine ho2.kept (row := some b) ((gr_refl w2 (some b)).setCell 1 _) (Or.inr ?_)
  intro e
  have := (ho2.lt b e).1
  omega
end Go.Proofs.YtbllodeanfdebaaGreatDoor
