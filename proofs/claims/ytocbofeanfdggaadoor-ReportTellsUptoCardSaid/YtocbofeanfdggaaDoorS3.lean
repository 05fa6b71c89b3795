/- Texts of ours, joined: Esc, MiscP, Tag0, RowG, Utf1. -/
import Derived.Test.YtocbofeanfdggaaDoorRows
import Derived.WalkKit
import Derived.ProofKit
import Derived.OpenShut
import Derived.ShutString
import Derived.ChangeOld
import Derived.Below
import Derived.BigQuiet
import Derived.Deep.QuietTactic
import Derived.Lib.Hide
import Derived.Deep.RegionHeld3
import Derived.Lib.SlBytesConst
import Derived.Laws.CopyOwn
import Derived.Laws.CopyRow
import Derived.Lib.Bytes
import Derived.Deep.LoopGhost
import Derived.Deep.DeepFit
import Derived.Deep.DeepMust
import Derived.WalkSpells
import Derived.WalkLawsBesides
import Derived.Laws.EntriesVeiled
import Derived.Laws.Rows
import Derived.Lib.ConvBytes
import Derived.Lib.AtoiErrMem
import Derived.Test.YtocbofeanfdggaaDoorS1
import Derived.Test.YtocbofeanfdggaaDoorS2
import Derived.Lib.IndexMore
import Derived.Lib.IndexLaws
import Derived.Maps.OwnOps
import Derived.Maps.Views
/- cref.Escape. -/
namespace Go.Proofs.YtocbofeanfdggaaDoor
open Go.ChangeShapes Go.WideShapes Go.ChangeAt Go.RowKit
set_option linter.unusedVariables false
/-- '[]byte(s)'. -/
theorem toBytes (w : World) (l : List UInt8) (hl : l.length ≤ 1000000) : ∃ c w', (convert 9 55 (.string ⟨l.toArray⟩)).run Tryd.prog w = .ok (.slice (some ⟨w.heap.size, 0, none⟩) l.length c) w' ∧ Below w.heap.size w w' ∧ w'.heap.size = w.heap.size + 1 ∧ Byt w' (w.heap.size + 1) (some ⟨w.heap.size, 0, none⟩) l.length c l := by
  have hsz : (⟨l.toArray⟩ : ByteArray).size = l.length := by simp [ByteArray.size]
  refine ⟨_, _, (by have := Lib.run_convert_string_bytes (P := Tryd.prog) w 9 55 5 ⟨l.toArray⟩ Tryd.underlying9 Tryd.underlying55 Tryd.underlying5; rw [hsz] at this; exact this), Lib.bytesWorld_below _ _ _, Lib.bytesWorld_size _ _ _, ⟨by simp, grownCap_ge _ _ _ _, grownCap_le_maxLen _ _ _ _ (by unfold maxLen; omega), (fun e => by cases e), fun _ => ⟨_, _, rfl, by omega, fun i u hu => ?_⟩⟩⟩
  have hi : i < l.length := by
    rcases Nat.lt_or_ge i l.length with h' | h'
    · exact h'
    · rw [List.getElem?_eq_none (by simpa using h')] at hu; cases hu
  rw [Nat.zero_add, Lib.bytesWorld_cell _ _ _ _ (by rw [hsz]; exact hi)]
  rw [List.getElem?_map, List.getElem?_eq_getElem hi] at hu
  simp only [Option.map_some, Option.some.injEq] at hu
  rw [← hu]
  simp [bv, hi]
/-- One byte, escaped. -/
def escB (c : UInt8) : List UInt8 :=
  if c = 38 then [38, 97, 109, 112, 59] else if c = 60 then [38, 108, 116, 59] else if c = 62 then [38, 103, 116, 59] else if c = 34 then [38, 113, 117, 111, 116, 59]
  else if c = 13 then [38, 35, 49, 51, 59] else if c = 10 then [38, 35, 49, 48, 59] else if c = 9 then [38, 35, 57, 59] else [c]
def esc (l : List UInt8) : List UInt8 := l.flatMap escB
theorem escB_le (c : UInt8) : (escB c).length ≤ 6 ∧ 1 ≤ (escB c).length := by unfold escB; (repeat' split) <;> simp
theorem esc_le (l : List UInt8) : (esc l).length ≤ 6 * l.length := by
  induction l with
  | nil => simp [esc]
  | cons c t ih =>
    have := (escB_le c).1
    simp only [esc, List.flatMap_cons, List.length_append, List.length_cons] at *
    omega
theorem esc_snoc (l : List UInt8) (c : UInt8) : esc (l ++ [c]) = esc l ++ escB c := by simp [esc]
theorem ne_byte (c n : UInt8) (z : Int) (hz : z = (n.toNat : Int)) (h : ¬ c = n) : ((c.toNat : Int) == z) = false := by rw [hz, toNat_eq]; simp [h]
theorem itoa_small (i : Nat) (hi : i < 100) (w : World) : Calls Tryd.prog 31 #[.int .i64 i] w fun e w' => e = .returned (.string ⟨(Lib.decDigits i).toArray⟩) ∧ w = w' :=
  (Tryd.strconv_Itoa_small i hi w).mono fun e w' ⟨he, hw⟩ => ⟨he, hw.symm⟩
set_option maxRecDepth 100000 in
set_option maxHeartbeats 16000000 in
theorem escape_c (l : List UInt8) (w : World) (hm : l.length ≤ 1000000) :
    Calls Tryd.prog 26 #[.string ⟨l.toArray⟩] w fun e w' => e = .returned (.string ⟨(esc l).toArray⟩) ∧ Below w.heap.size w w' := by
  have hB := Bld.fresh (w.heap.size + 2) w (by omega)
  have hb0 : Below w.heap.size w (w.alloc (.cells #[.pointer none, .slice none 0 0] 57)) := (Below.refl _ _).alloc (Nat.le_refl _) _
  have hs0 : (w.alloc (.cells #[.pointer none, .slice none 0 0] 57)).heap.size = w.heap.size + 1 := by simp
  obtain ⟨c, w2, hcv, hb2, hs2, hby⟩ := toBytes (w.alloc (.cells #[.pointer none, .slice none 0 0] 57)) l hm
  rw [hs0] at hcv hb2 hs2 hby
  have hB2 := hB.kept (by rw [hs0]; exact hb2)
  have hbw := hb0.trans (hb2.mono (by omega))
  have hcell : ∀ (wr : World), Fr (w.heap.size + 2) w.heap.size w2 wr → ∀ k, k < l.length → wr.cell? ⟨w.heap.size + 1, k, none⟩ = some (.int .u8 (UInt8.toNat (l.getD k 0) : Int)) := fun wr hf k hk => by
    obtain ⟨b, o, c, e, hb, hc, hcl⟩ := hby.cell hk
    cases e
    rw [World.cell?_of_block (w := w2) (a := ⟨w.heap.size + 1, k, none⟩) (hf.block (w.heap.size + 1) (by omega) (by omega))]
    rw [Nat.zero_add] at hcl
    rw [hcl, List.getD_eq_getElem?_getD, hc]
    rfl
  have HC := Lib.hid hcell
  have HB2 := Lib.hid (And.intro hB2 hbw)
  have HS2 := Lib.hid hs2
  clear hB hb0 hs0 hB2 hb2 hs2 hby hbw hcell
  generalize hwS : w.heap.size = S at *
  go_enter Tryd.func26, Tryd.ntmps26
  go_wp2
  go_loopw [9] (fun i wr => ∃ k : Nat, k ≤ l.length ∧ i = .int .i64 k ∧ Hid (Bld (S + 2) S (esc (l.take k)) wr ∧ Fr (S + 2) S w2 wr)) (fun i _ => l.length - (intOf i).toNat)
  case atStart => exact ⟨0, Nat.zero_le _, rfl, Lib.hid ⟨HB2.out.1, Fr.refl _ _ _⟩⟩
  case round =>
    obtain ⟨k, hk, rfl, I⟩ := hrel
    by_cases hlt : k < l.length
    · have hcl := HC.out _ I.out.2 k hlt
      have HSN : Hid (esc (l.take (k + 1)) = esc (l.take k) ++ escB (l.getD k 0)) := Lib.hid (by
        rw [take_snoc l k (l.getD k 0) (by simp [hlt]), esc_snoc])
      have HLE : Hid ((esc (l.take k)).length + 6 ≤ 140737488355328) := Lib.hid (by have := esc_le (l.take k); rw [List.length_take] at this; omega)
      have HSZ : Hid (S + 2 ≤ wr.heap.size) := Lib.hid (by have := I.out.2.size; have := HS2.out; omega)
      generalize l.getD k 0 = d at *
      by_cases h0 : d = 38
      · have HEB : Hid (escB d = [38, 97, 109, 112, 59]) := Lib.hid (by subst h0; rfl)
        have hdn : (d.toNat : Int) = 38 := by subst h0; rfl
        rw [hdn] at hcl
        clear hdn
        go_wp2_with fail
        refine (writeString_b (S + 2) S (esc (l.take k)) [38, 97, 109, 112, 59] _ I.out.1 (by have := HLE.out; simp; omega) HSZ.out).mono ?_
        rintro e w3 ⟨rfl, hb3, hf3⟩
        have HN : Hid (Bld (S + 2) S (esc (l.take (k + 1))) w3 ∧ Fr (S + 2) S w2 w3) := Lib.hid ⟨by rw [HSN.out, HEB.out]; exact hb3, I.out.2.trans hf3⟩
        clear hb3 hf3
        go_wp2
        go_roundw
        case rel => exact ⟨k + 1, by omega, by go_num, HN⟩
        case measure => simp [intOf]; omega
      · have e0 : ((d.toNat : Int) == 38) = false := ne_byte d 38 38 rfl h0
        by_cases h1 : d = 60
        · have HEB : Hid (escB d = [38, 108, 116, 59]) := Lib.hid (by subst h1; rfl)
          have hdn : (d.toNat : Int) = 60 := by subst h1; rfl
          rw [hdn] at hcl
          clear hdn
          go_wp2_with fail
          refine (writeString_b (S + 2) S (esc (l.take k)) [38, 108, 116, 59] _ I.out.1 (by have := HLE.out; simp; omega) HSZ.out).mono ?_
          rintro e w3 ⟨rfl, hb3, hf3⟩
          have HN : Hid (Bld (S + 2) S (esc (l.take (k + 1))) w3 ∧ Fr (S + 2) S w2 w3) := Lib.hid ⟨by rw [HSN.out, HEB.out]; exact hb3, I.out.2.trans hf3⟩
          clear hb3 hf3
          go_wp2
          go_roundw
          case rel => exact ⟨k + 1, by omega, by go_num, HN⟩
          case measure => simp [intOf]; omega
        · have e1 : ((d.toNat : Int) == 60) = false := ne_byte d 60 60 rfl h1
          by_cases h2 : d = 62
          · have HEB : Hid (escB d = [38, 103, 116, 59]) := Lib.hid (by subst h2; rfl)
            have hdn : (d.toNat : Int) = 62 := by subst h2; rfl
            rw [hdn] at hcl
            clear hdn
            go_wp2_with fail
            refine (writeString_b (S + 2) S (esc (l.take k)) [38, 103, 116, 59] _ I.out.1 (by have := HLE.out; simp; omega) HSZ.out).mono ?_
            rintro e w3 ⟨rfl, hb3, hf3⟩
            have HN : Hid (Bld (S + 2) S (esc (l.take (k + 1))) w3 ∧ Fr (S + 2) S w2 w3) := Lib.hid ⟨by rw [HSN.out, HEB.out]; exact hb3, I.out.2.trans hf3⟩
            clear hb3 hf3
            go_wp2
            go_roundw
            case rel => exact ⟨k + 1, by omega, by go_num, HN⟩
            case measure => simp [intOf]; omega
          · have e2 : ((d.toNat : Int) == 62) = false := ne_byte d 62 62 rfl h2
            by_cases h3 : d = 34
            · have HEB : Hid (escB d = [38, 113, 117, 111, 116, 59]) := Lib.hid (by subst h3; rfl)
              have hdn : (d.toNat : Int) = 34 := by subst h3; rfl
              rw [hdn] at hcl
              clear hdn
              go_wp2_with fail
              refine (writeString_b (S + 2) S (esc (l.take k)) [38, 113, 117, 111, 116, 59] _ I.out.1 (by have := HLE.out; simp; omega) HSZ.out).mono ?_
              rintro e w3 ⟨rfl, hb3, hf3⟩
              have HN : Hid (Bld (S + 2) S (esc (l.take (k + 1))) w3 ∧ Fr (S + 2) S w2 w3) := Lib.hid ⟨by rw [HSN.out, HEB.out]; exact hb3, I.out.2.trans hf3⟩
              clear hb3 hf3
              go_wp2
              go_roundw
              case rel => exact ⟨k + 1, by omega, by go_num, HN⟩
              case measure => simp [intOf]; omega
            · have e3 : ((d.toNat : Int) == 34) = false := ne_byte d 34 34 rfl h3
              by_cases h4 : d = 13
              · have HEB : Hid (escB d = [38, 35, 49, 51, 59]) := Lib.hid (by subst h4; rfl)
                have hdn : (d.toNat : Int) = 13 := by subst h4; rfl
                rw [hdn] at hcl
                clear hdn
                go_wp2_with fail
                have hit := itoa_small 13 (by decide) wr
                rw [show Lib.decDigits 13 = [49, 51] by decide +kernel] at hit
                refine hit.mono ?_
                rintro e w4 ⟨rfl, rfl⟩
                clear hit
                go_wp2_with fail
                refine (writeString_b (S + 2) S (esc (l.take k)) [38, 35, 49, 51, 59] _ I.out.1 (by have := HLE.out; simp; omega) HSZ.out).mono ?_
                rintro e w3 ⟨rfl, hb3, hf3⟩
                have HN : Hid (Bld (S + 2) S (esc (l.take (k + 1))) w3 ∧ Fr (S + 2) S w2 w3) := Lib.hid ⟨by rw [HSN.out, HEB.out]; exact hb3, I.out.2.trans hf3⟩
                clear hb3 hf3
                go_wp2
                go_roundw
                case rel => exact ⟨k + 1, by omega, by go_num, HN⟩
                case measure => simp [intOf]; omega
              · have e4 : ((d.toNat : Int) == 13) = false := ne_byte d 13 13 rfl h4
                by_cases h5 : d = 10
                · have HEB : Hid (escB d = [38, 35, 49, 48, 59]) := Lib.hid (by subst h5; rfl)
                  have hdn : (d.toNat : Int) = 10 := by subst h5; rfl
                  rw [hdn] at hcl
                  clear hdn
                  go_wp2_with fail
                  have hit := itoa_small 10 (by decide) wr
                  rw [show Lib.decDigits 10 = [49, 48] by decide +kernel] at hit
                  refine hit.mono ?_
                  rintro e w4 ⟨rfl, rfl⟩
                  clear hit
                  go_wp2_with fail
                  refine (writeString_b (S + 2) S (esc (l.take k)) [38, 35, 49, 48, 59] _ I.out.1 (by have := HLE.out; simp; omega) HSZ.out).mono ?_
                  rintro e w3 ⟨rfl, hb3, hf3⟩
                  have HN : Hid (Bld (S + 2) S (esc (l.take (k + 1))) w3 ∧ Fr (S + 2) S w2 w3) := Lib.hid ⟨by rw [HSN.out, HEB.out]; exact hb3, I.out.2.trans hf3⟩
                  clear hb3 hf3
                  go_wp2
                  go_roundw
                  case rel => exact ⟨k + 1, by omega, by go_num, HN⟩
                  case measure => simp [intOf]; omega
                · have e5 : ((d.toNat : Int) == 10) = false := ne_byte d 10 10 rfl h5
                  by_cases h6 : d = 9
                  · have HEB : Hid (escB d = [38, 35, 57, 59]) := Lib.hid (by subst h6; rfl)
                    have hdn : (d.toNat : Int) = 9 := by subst h6; rfl
                    rw [hdn] at hcl
                    clear hdn
                    go_wp2_with fail
                    have hit := itoa_small 9 (by decide) wr
                    rw [show Lib.decDigits 9 = [57] by decide +kernel] at hit
                    refine hit.mono ?_
                    rintro e w4 ⟨rfl, rfl⟩
                    clear hit
                    go_wp2_with fail
                    refine (writeString_b (S + 2) S (esc (l.take k)) [38, 35, 57, 59] _ I.out.1 (by have := HLE.out; simp; omega) HSZ.out).mono ?_
                    rintro e w3 ⟨rfl, hb3, hf3⟩
                    have HN : Hid (Bld (S + 2) S (esc (l.take (k + 1))) w3 ∧ Fr (S + 2) S w2 w3) := Lib.hid ⟨by rw [HSN.out, HEB.out]; exact hb3, I.out.2.trans hf3⟩
                    clear hb3 hf3
                    go_wp2
                    go_roundw
                    case rel => exact ⟨k + 1, by omega, by go_num, HN⟩
                    case measure => simp [intOf]; omega
                  · have e6 : ((d.toNat : Int) == 9) = false := ne_byte d 9 9 rfl h6
                    have HEB : Hid (escB d = [d]) := Lib.hid (by unfold escB; simp [h0, h1, h2, h3, h4, h5, h6])
                    go_wp2_with fail
                    refine (writeByte_b (S + 2) S (esc (l.take k)) d _ I.out.1 (by have := HLE.out; omega) HSZ.out).mono ?_
                    rintro e w3 ⟨rfl, hb3, hf3⟩
                    have HN : Hid (Bld (S + 2) S (esc (l.take (k + 1))) w3 ∧ Fr (S + 2) S w2 w3) := Lib.hid ⟨by rw [HSN.out, HEB.out]; exact hb3, I.out.2.trans hf3⟩
                    clear hb3 hf3
                    go_wp2
                    go_roundw
                    case rel => exact ⟨k + 1, by omega, by go_num, HN⟩
                    case measure => simp [intOf]; omega
    · obtain rfl : k = l.length := by omega
      have hst := string_b (S + 2) S (esc l) wr (by have := I.out.1; rwa [List.take_length] at this)
      go_wp2_with fail
      refine hst.mono ?_
      rintro e w3 ⟨rfl, hb3⟩
      have HN : Hid (Below S w w3) := Lib.hid (HB2.out.2.trans ((I.out.2.below (by omega) (Nat.le_refl _)).trans hb3))
      clear hb3 hst
      go_wp2
      go_ret
      exact ⟨rfl, HN.out⟩
end Go.Proofs.YtocbofeanfdggaaDoor
/- Plain law of texts between marks. -/
namespace Go.Proofs.YtocbofeanfdggaaDoor
open Go.ChangeShapes Go.WideShapes Go.ChangeAt Go.RowKit
set_option linter.unusedVariables false
end Go.Proofs.YtocbofeanfdggaaDoor
/- A result in a block of its own. -/
namespace Go.Proofs.YtocbofeanfdggaaDoor
open Go.ChangeShapes Go.WideShapes Go.ChangeAt Go.RowKit
set_option linter.unusedVariables false
/-- While a result lies in a block of its own: below w all as it was, and that block. -/
def CJ (T : TypeId) (w W : World) (rs : Array Value) : Prop := Below w.heap.size w W ∧ W.heap[w.heap.size]? = some (.cells rs T)
theorem CJ.start (T : TypeId) (w : World) (rs : Array Value) : CJ T w (w.alloc (.cells rs T)) rs := ⟨(Below.refl _ _).alloc (Nat.le_refl _) _, hp_new _ _⟩
theorem CJ.kept {T : TypeId} {w W W' : World} {rs : Array Value} (h : CJ T w W rs) (hb : Below W.heap.size W W') : CJ T w W' rs :=
  ⟨h.1.trans (hb.mono h.1.size), by rw [hb.block _ (lt_of h.2)]; exact h.2⟩
theorem CJ.row {T : TypeId} {w W : World} {rs : Array Value} (h : CJ T w W rs) (cs : Array Value) : CJ T w (W.setRow w.heap.size cs) cs := by
  refine ⟨⟨h.1.os, h.1.tape, h.1.output, ?_, fun k hk => ?_⟩, setRow_heap _ _ _ _ _ _ h.2⟩
  · have := h.1.size; simpa [World.setRow] using this
  · rw [setRow_other _ _ _ _ (by omega)]; exact h.1.block k hk
end Go.Proofs.YtocbofeanfdggaaDoor
/- Rows of elements of so many cells, whatever they are. -/
namespace Go.Proofs.YtocbofeanfdggaaDoor
open Go.ChangeShapes Go.WideShapes Go.ChangeAt Go.RowKit
set_option linter.unusedVariables false
/-- A row whose elements take k cells each, that can be read (whatever the elements are). -/
structure RRd {α : Type} (c : α → List Value) (k : Nat) (w : World) (B : Nat) (A : Option Addr) (n cap : Nat) (xs : List α) : Prop where
  len : xs.length = n
  le : n ≤ cap
  fit : cap ≤ maxLen
  nil : A = none → cap = 0
  at_ : 0 < cap → ∃ b o, A = some ⟨b, o, none⟩ ∧ b < B ∧ ∀ i x, xs[i]? = some x → ∀ (j : Nat) u, (c x)[j]? = some u → w.cell? ⟨b, o + (i * k + j), none⟩ = some u
theorem RRd.keep {α : Type} {c : α → List Value} {k : Nat} {w w' : World} {B n cap : Nat} {A : Option Addr} {xs : List α} (h : RRd c k w B A n cap xs) (hk : ∀ p : Addr, p.block < B → w'.cell? p = w.cell? p) : RRd c k w' B A n cap xs :=
  ⟨h.len, h.le, h.fit, h.nil, fun h0 => by
    obtain ⟨b, o, e, hb, hc⟩ := h.at_ h0
    exact ⟨b, o, e, hb, fun i x hx j u hu => (hk ⟨b, _, none⟩ hb).trans (hc i x hx j u hu)⟩⟩
theorem RRd.more {α : Type} {c : α → List Value} {k : Nat} {w : World} {B B' n cap : Nat} {A : Option Addr} {xs : List α} (h : RRd c k w B A n cap xs) (hB : B ≤ B') : RRd c k w B' A n cap xs :=
  ⟨h.len, h.le, h.fit, h.nil, fun h0 => by
    obtain ⟨b, o, e, hb, hc⟩ := h.at_ h0
    exact ⟨b, o, e, by omega, hc⟩⟩
theorem RRd.below {α : Type} {c : α → List Value} {k : Nat} {w w' : World} {B n cap : Nat} {A : Option Addr} {xs : List α} (h : RRd c k w B A n cap xs) (hb : Below B w w') : RRd c k w' B A n cap xs := h.keep fun p hp => hb.cell hp
theorem RRd.up {α : Type} {c : α → List Value} {k : Nat} {w w' : World} {n cap : Nat} {A : Option Addr} {xs : List α} (h : RRd c k w w.heap.size A n cap xs) (hb : Below w.heap.size w w') : RRd c k w' w'.heap.size A n cap xs := (h.below hb).more hb.size
theorem RRd.drewN {α : Type} {c : α → List Value} {k : Nat} {w : World} {B n cap m : Nat} {A : Option Addr} {xs : List α} (h : RRd c k w B A n cap xs) : RRd c k (w.drewN m) B A n cap xs := h.keep (w' := w.drewN m) fun _ _ => rfl
theorem RRd.nilR {α : Type} (c : α → List Value) (k : Nat) (w : World) (B : Nat) : RRd c k w B none 0 0 [] := ⟨rfl, Nat.le_refl _, Nat.zero_le _, fun _ => rfl, fun h => absurd h (by omega)⟩
theorem RRd.cell {α : Type} {c : α → List Value} {k : Nat} {w : World} {B n cap : Nat} {A : Option Addr} {xs : List α} {i : Nat} (h : RRd c k w B A n cap xs) (hi : i < n) :
    ∃ b o x, A = some ⟨b, o, none⟩ ∧ b < B ∧ xs[i]? = some x ∧ ∀ (j : Nat) u, (c x)[j]? = some u → w.cell? ⟨b, o + (i * k + j), none⟩ = some u := by
  obtain ⟨b, o, e, hb, hc⟩ := h.at_ (by have := h.le; omega)
  have hl : i < xs.length := by rw [h.len]; exact hi
  exact ⟨b, o, xs[i], e, hb, List.getElem?_eq_getElem hl, hc i _ (List.getElem?_eq_getElem hl)⟩
end Go.Proofs.YtocbofeanfdggaaDoor
/- The first byte of a character, and whether a number is one: the walks. -/
namespace Go.Proofs.YtocbofeanfdggaaDoor
open Go.ChangeShapes Go.WideShapes Go.ChangeAt Go.RowKit
set_option linter.unusedVariables false
end Go.Proofs.YtocbofeanfdggaaDoor
