/- A builder's writes, and all that stands behind them. -/
import Derived.Test.YtljmpghijlibaaaDoorRows
import Derived.WalkKit
import Derived.ProofKit
import Derived.OpenShut
import Derived.ShutString
import Derived.ChangeOld
import Derived.Below
import Derived.BigQuiet
import Derived.Deep.QuietTactic
import Derived.Lib.Hide
import Derived.Deep.RegionHeld3
import Derived.Lib.SlBytesConst
import Derived.Laws.CopyOwn
import Derived.Laws.CopyRow
import Derived.Lib.Bytes
import Derived.Deep.LoopGhost
import Derived.Deep.DeepFit
import Derived.Deep.DeepMust
import Derived.WalkSpells
import Derived.WalkLawsBesides
import Derived.Shelf.Strings.Builder1
import Derived.Laws.EntriesVeiled
import Derived.Laws.Rows
import Derived.Laws.AppendOwn
import Derived.Test.YtljmpghijlibaaaDoorShelf
import Derived.Test.YtljmpghijlibaaaDoorBase
import Derived.Test.YtljmpghijlibaaaDoorY3
import Derived.Test.YtljmpghijlibaaaDoorBuild2
import Derived.Test.YtljmpghijlibaaaDoorEvB
namespace Go.Proofs.YtljmpghijlibaaaDoor
open Go.ChangeShapes Go.WideShapes Go.ChangeAt Go.RowKit
set_option linter.unusedVariables false
/-- Everything but block b that is no row of bytes stands. -/
def Ko (b : Nat) (w w' : World) : Prop := ∀ k o, k ≠ b → (∀ vs f, o ≠ .cells vs 5 f) → w.heap[k]? = some o → w'.heap[k]? = some o
theorem Ko.trans {b : Nat} {x y z : World} (h : Ko b x y) (k : Ko b y z) : Ko b x z := fun j o h1 h2 h3 => k j o h1 h2 (h j o h1 h2 h3)
theorem Ko.ofBelow {b : Nat} {x y : World} (h : Below x.heap.size x y) : Ko b x y := fun k _ _ _ h3 => (h.block k (lt_of h3)).trans h3
theorem lt_ofO {w : World} {k : Nat} {o : Obj} (h : w.heap[k]? = some o) : k < w.heap.size := (Array.getElem?_eq_some_iff.1 h).1
theorem ownsRow_typeO {w : World} {B : Nat} {c n : Nat} {v : Value} {xs : List Value} (h : w.ownsRow B 5 c v n xs) {k : Nat} {o : Obj} (hk : w.heap[k]? = some o) (hT : ∀ vs f, o ≠ .cells vs 5 f) : some k ≠ v.ownBlock := by
  obtain ⟨hl, ⟨hv, _⟩ | ⟨g, cap, cur, hv, hg, hh, r⟩⟩ := h
  · rw [hv]; simp [Value.ownBlock]
  · rw [hv]
    intro e'
    simp [Value.ownBlock] at e'
    subst e'
    rw [hh] at hk
    cases hk
    exact hT _ _ rfl
/-- copyCheck writes the builder's own block alone. -/
theorem copyCheck_r (R b : Nat) (l : List UInt8) (w : World) (h : Bld R b l w) :
    Calls Tryd.prog 54 #[.pointer (some ⟨b, 0, none⟩)] w fun e w' => e = .returned (.tuple #[]) ∧ BldP (.pointer (some ⟨b, 0, none⟩)) R b l w' ∧ (Fr R b w w' ∧ Ko b w w') ∧ ∀ k, k ≠ b → w'.heap[k]? = w.heap[k]? := by
  rcases h with ⟨hb, v, hh, ho⟩ | h
  · refine (copyCheck_fresh b w (by rw [cell_of 0 hh]; rfl) (by simp [World.shape?, hh]) (free_of 0 hh)).mono ?_
    rintro e w' ⟨rfl, rfl⟩
    refine ⟨rfl, ⟨hb, v, ?_, ?_⟩, ⟨(Fr.refl R b w).set 0 _, fun k o h1 _ h3 => by rw [hp_other h1]; exact h3⟩, fun k hk => hp_other hk⟩
    · rw [hp_set hh]; rfl
    · refine ho.kept (row := some b) ((gr_refl w (some b)).setCell 0 _) (Or.inr ?_)
      intro e
      have := (ho.lt b e).1
      omega
  · obtain ⟨hb, v, hh, ho⟩ := h
    refine (copyCheck_used b w (by rw [cell_of 0 hh]; rfl)).mono ?_
    rintro e w' ⟨rfl, rfl⟩
    exact ⟨rfl, ⟨hb, v, hh, ho⟩, ⟨Fr.refl _ b _, fun k o _ _ h3 => h3⟩, fun _ _ => rfl⟩
set_option maxRecDepth 100000 in
set_option maxHeartbeats 4000000 in
/-- (*strings.Builder).WriteString, and what stands behind it. -/
theorem writeString_r (R b : Nat) (l s : List UInt8) (w : World) (h : Bld R b l w) (hlen : l.length + s.length ≤ 140737488355328) (hRw : R ≤ w.heap.size) :
    Calls Tryd.prog 25 #[.pointer (some ⟨b, 0, none⟩), .string ⟨s.toArray⟩] w fun e w' => e = .returned (.tuple #[.int .i64 s.length, .nilIface]) ∧ Bld R b (l ++ s) w' ∧ Fr R b w w' ∧ Ko b w w' := by
  obtain ⟨i0, hi, hz0, hz1, hz2⟩ := info_parts (show (Tryd.prog.info? 5).map (fun i => (i.zero, i.size, i.bytes)) = some (some (.int .u8 0), 1, 1) by kernel_rfl)
  have hss : (⟨s.toArray⟩ : ByteArray).size = s.length := by simp [ByteArray.size]
  have HSS := Lib.hid hss
  have hsc : Lib.strCells ⟨s.toArray⟩ = Lib.byteCells s := by simp [Lib.strCells, Lib.byteCells]
  have HSC := Lib.hid hsc
  have hle : (⟨s.toArray⟩ : ByteArray).size + l.length ≤ 140737488355328 := by omega
  have hsn : Lib.byteCells l ++ Lib.byteCells s = Lib.byteCells (l ++ s) := by simp [Lib.byteCells]
  have HSN := Lib.hid hsn
  rw [← hss]
  clear hss hsn hsc hlen
  generalize (⟨s.toArray⟩ : ByteArray) = sa at *
  go_enter Tryd.func25, Tryd.ntmps25
  go_wp2_with fail
  refine (copyCheck_r R b l _ h).mono ?_
  rintro e w1 ⟨rfl, ⟨hbR, v, hbk, hown⟩, ⟨hf1, hk1⟩, hoth⟩
  have c0 : w1.cell? ⟨b, 0, none⟩ = some (.pointer (some ⟨b, 0, none⟩)) := by rw [cell_of 0 hbk]; rfl
  have c1 : w1.cell? ⟨b, 1, none⟩ = some v := by rw [cell_of 1 hbk]; rfl
  have hs1 := hf1.size
  clear hoth
  go_wp2_with (at_builtin; refine Lib.wpList_append_own_string _ rfl _ _ 35 9 rfl R 5 i0 Tryd.underlying35 Tryd.underlying9 hi hz0 hz1 hz2 _ _ _ rfl hown sa rfl ?c3 ?c4 ?c5 ?_)
  case c3 => unfold maxLen; omega
  case c4 => omega
  case c5 => omega
  intro v' w2 hown' hgrow _
  have hlt : b < w1.heap.size := lt_of hbk
  have hne : some b ≠ v.ownBlock := by
    intro e
    have := (hown.lt b e.symm).1
    omega
  have hb2 : w2.heap[b]? = some (.cells #[.pointer (some ⟨b, 0, none⟩), v] 44 (0, 0)) := by
    rw [hgrow.block b hlt hne]
    exact hbk
  have d0 : w2.cell? ⟨b, 0, none⟩ = some (.pointer (some ⟨b, 0, none⟩)) := by rw [cell_of 0 hb2]; rfl
  have d1 : w2.cell? ⟨b, 1, none⟩ = some v := by rw [cell_of 1 hb2]; rfl
  have f1 : w2.frozen? ⟨b, 1, none⟩ = false := free_of 1 hb2
  have hF2 : Fr R b w w2 := hf1.trans ⟨hgrow.os, hgrow.tape, hgrow.output, hgrow.size, fun k hk hkb => hgrow.block k (by omega) (fun e => by have := (hown.lt k e.symm).1; omega)⟩
  have hK2 : Ko b w w2 := hk1.trans fun k o _ h2 h3 => by rw [hgrow.block k (lt_ofO h3) (ownsRow_typeO hown h3 h2)]; exact h3
  obtain ⟨ao, n', cap, rfl⟩ : ∃ ao n' cap, v' = .slice ao n' cap := by
    rcases hown'.2 with ⟨hv, _⟩ | ⟨g, cap, cur, hv, _⟩
    · exact ⟨_, _, _, hv⟩
    · exact ⟨_, _, _, hv⟩
  have HF2 := Lib.hid hF2
  have HK2 := Lib.hid hK2
  have HO := Lib.hid hown'
  clear hF2 hK2 hown' hgrow hown h hf1 hk1 hbk
  go_wp2
  go_ret2
  refine ⟨rfl, Or.inr ⟨hbR, _, by rw [hp_set hb2]; rfl, ?_⟩, HF2.out.set 1 _, fun k o h1 h2 h3 => by rw [hp_other h1]; exact HK2.out k o h1 h2 h3⟩
  have ho2 := HO.out
  rw [HSC.out, HSN.out, HSS.out] at ho2
  rw [List.length_append]
  refine ho2.kept (row := some b) ((gr_refl w2 (some b)).setCell 1 _) (Or.inr ?_)
  intro e
  have := (ho2.lt b e).1
  omega
end Go.Proofs.YtljmpghijlibaaaDoor
