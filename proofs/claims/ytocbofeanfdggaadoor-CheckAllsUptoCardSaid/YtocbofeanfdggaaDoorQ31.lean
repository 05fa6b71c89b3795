/- Texts of ours, joined: CkD, CkJ. -/
import Derived.Test.YtocbofeanfdggaaDoorRows
import Derived.WalkKit
import Derived.ProofKit
import Derived.OpenShut
import Derived.ShutString
import Derived.ChangeOld
import Derived.Below
import Derived.BigQuiet
import Derived.Deep.QuietTactic
import Derived.Lib.Hide
import Derived.Deep.RegionHeld3
import Derived.Lib.SlBytesConst
import Derived.Laws.CopyOwn
import Derived.Laws.CopyRow
import Derived.Lib.Bytes
import Derived.Deep.LoopGhost
import Derived.Deep.DeepFit
import Derived.Deep.DeepMust
import Derived.WalkSpells
import Derived.WalkLawsBesides
import Derived.Maps.OwnOps
import Derived.Maps.OwnSet
import Derived.Maps.Views
import Derived.Laws.EntriesVeiled
import Derived.Laws.Rows
import Derived.Maps.AppendAt
import Derived.Lib.SmallJoins
import Derived.Deep.AppendLies
import Derived.Deep.RegionLaw
import Derived.Deep.RegionWith
import Derived.Lib.IndexAny
import Derived.Test.YtocbofeanfdggaaDoorQ1
import Derived.Test.YtocbofeanfdggaaDoorQ2
import Derived.Test.YtocbofeanfdggaaDoorQ3
import Derived.Test.YtocbofeanfdggaaDoorQ4
import Derived.Test.YtocbofeanfdggaaDoorQ5
import Derived.Test.YtocbofeanfdggaaDoorQ6
import Derived.Test.YtocbofeanfdggaaDoorQ11
import Derived.Test.YtocbofeanfdggaaDoorQ12
import Derived.Test.YtocbofeanfdggaaDoorQ13
import Derived.Test.YtocbofeanfdggaaDoorQ14
import Derived.Test.YtocbofeanfdggaaDoorQ17
import Derived.Test.YtocbofeanfdggaaDoorQ18
import Derived.Test.YtocbofeanfdggaaDoorQ20
import Derived.Test.YtocbofeanfdggaaDoorQ21
import Derived.Test.YtocbofeanfdggaaDoorQ22
import Derived.Test.YtocbofeanfdggaaDoorQ23
import Derived.Test.YtocbofeanfdggaaDoorQ24
import Derived.Test.YtocbofeanfdggaaDoorQ29
import Derived.Test.YtocbofeanfdggaaDoorQ30
/- The document's One (of layer 40). -/
namespace Go.Proofs.YtocbofeanfdggaaDoor
open Go.ChangeShapes Go.WideShapes Go.ChangeAt Go.RowKit
set_option linter.unusedVariables false
set_option maxRecDepth 100000 in
set_option maxHeartbeats 16000000 in
theorem refOneBad_c (k : Int) (sp lo tx : List UInt8) (A : Option Addr) (n cap : Nat) (ats : List (List UInt8 × List UInt8 × List UInt8)) (w : World) (hn : ats.length = n) (hm : n ≤ 100000) (hp : partsB ⟨k, sp, lo, ats, tx⟩ = false) :
    Calls Tryd.prog 14 #[.agg #[.int .i64 k, .string ⟨sp.toArray⟩, .string ⟨lo.toArray⟩, .slice A n cap, .string ⟨tx.toArray⟩]] w fun e w' => e = .returned (.int .i64 2) ∧ Below w.heap.size w w' := by
  have hlt : k < 1 ∨ 5 < k ∨ k = 1 ∨ k = 2 ∨ k = 3 ∨ k = 4 ∨ k = 5 := by omega
  have hn0 : n = 0 ∨ (0 : Int) < (n : Int) := by omega
  have hn9 : (n : Int) ≤ 100000 := by omega
  have hae : ats.isEmpty = decide (n = 0) := by cases ats with | nil => simp at hn; simp [← hn] | cons a t => simp at hn; simp; omega
  have htx : tx = [] ∨ ∃ a t, tx = a :: t := by cases tx <;> simp
  have hsp : sp = [] ∨ ∃ a t, sp = a :: t := by cases sp <;> simp
  have hlo : lo = [] ∨ ∃ a t, lo = a :: t := by cases lo <;> simp
  unfold partsB at hp
  simp only [hae] at hp
  clear hn hae hm
  have J0 := Lib.hid (CJ.start 40 w #[.int .i64 k, .string ⟨sp.toArray⟩, .string ⟨lo.toArray⟩, .slice A n cap, .string ⟨tx.toArray⟩])
  have z0 := cell_of 0 J0.out.2
  have z1 := cell_of 1 J0.out.2
  have z2 := cell_of 2 J0.out.2
  have z3 := cell_of 3 J0.out.2
  have z4 := cell_of 4 J0.out.2
  rcases hlt with hk | hk | rfl | rfl | rfl | rfl | rfl
  · clear hp hn0 htx hsp hlo
    go_enter Tryd.func14, Tryd.ntmps14
    go_wp2
    go_ret
    exact ⟨rfl, J0.out.1⟩
  · clear hp hn0 htx hsp hlo
    have h1 : ¬ k < 1 := by omega
    go_enter Tryd.func14, Tryd.ntmps14
    go_wp2
    go_ret
    exact ⟨rfl, J0.out.1⟩
  · rcases htx with rfl | ⟨a3, t3, rfl⟩
    all_goals (first | (exfalso; revert hp; simp; done) | skip)
    all_goals clear hp hn0 hsp hlo
    all_goals
      go_enter Tryd.func14, Tryd.ntmps14
      go_wp2
      go_ret
      exact ⟨rfl, J0.out.1⟩
  · rcases hn0 with rfl | hn1 <;> rcases htx with rfl | ⟨a3, t3, rfl⟩
    all_goals (first | (exfalso; revert hp; simp; done) | skip)
    all_goals clear hp hsp hlo
    all_goals
      go_enter Tryd.func14, Tryd.ntmps14
      go_wp2
      go_ret
      exact ⟨rfl, J0.out.1⟩
  · rcases hn0 with rfl | hn1 <;> rcases hsp with rfl | ⟨a1, t1, rfl⟩ <;> rcases hlo with rfl | ⟨a2, t2, rfl⟩
    all_goals (first | (exfalso; revert hp; simp; done) | skip)
    all_goals clear hp htx
    all_goals
      go_enter Tryd.func14, Tryd.ntmps14
      go_wp2
      go_ret
      exact ⟨rfl, J0.out.1⟩
  · rcases hn0 with rfl | hn1 <;> rcases hsp with rfl | ⟨a1, t1, rfl⟩
    all_goals (first | (exfalso; revert hp; simp; done) | skip)
    all_goals clear hp htx hlo
    all_goals
      go_enter Tryd.func14, Tryd.ntmps14
      go_wp2
      go_ret
      exact ⟨rfl, J0.out.1⟩
  · rcases hn0 with rfl | hn1 <;> rcases hsp with rfl | ⟨a1, t1, rfl⟩ <;> rcases hlo with rfl | ⟨a2, t2, rfl⟩
    all_goals (first | (exfalso; revert hp; simp; done) | skip)
    all_goals clear hp htx
    all_goals
      go_enter Tryd.func14, Tryd.ntmps14
      go_wp2
      go_ret
      exact ⟨rfl, J0.out.1⟩
end Go.Proofs.YtocbofeanfdggaaDoor
/- The document's Check (of layer 40). -/
namespace Go.Proofs.YtocbofeanfdggaaDoor
open Go.ChangeShapes Go.WideShapes Go.ChangeAt Go.RowKit
set_option linter.unusedVariables false
/-- The document's One, of an event whose parts are short. -/
theorem refOne5_c (k : Int) (sp lo tx : List UInt8) (A : Option Addr) (n cap : Nat) (ats : List (List UInt8 × List UInt8 × List UInt8)) (w : World) (h : RRd cA 3 w w.heap.size A n cap ats) (hle : EvLe 5000 ⟨⟨k, sp, lo, ats, tx⟩, A, n, cap⟩) :
    Calls Tryd.prog 14 #[.agg #[.int .i64 k, .string ⟨sp.toArray⟩, .string ⟨lo.toArray⟩, .slice A n cap, .string ⟨tx.toArray⟩]] w fun e w' => e = .returned (.int .i64 (oneE ⟨k, sp, lo, ats, tx⟩ : Nat)) ∧ Below w.heap.size w w' := by
  cases hp : partsB ⟨k, sp, lo, ats, tx⟩ with
  | true => exact refOneOk_c k sp lo tx A n cap ats w h hle hp
  | false =>
    have h2 : oneE ⟨k, sp, lo, ats, tx⟩ = 2 := by unfold oneE; rw [if_pos hp]
    rw [h2]
    exact refOneBad_c k sp lo tx A n cap ats w h.len (by have : n ≤ 5000 := hle.n; omega) hp
def kindAt (vs : List EvV) (i : Nat) : Int := (vs[i]?.map fun v => v.e.kind).getD 0
def textAt (vs : List EvV) (t : Nat) : Bool := decide (0 < t) && decide (kindAt vs (t - 1) = 3)
theorem textAt_succ {vs : List EvV} {t : Nat} {v : EvV} (h : vs[t]? = some v) : textAt vs (t + 1) = decide (v.e.kind = 3) := by
  unfold textAt kindAt
  rw [Nat.add_sub_cancel, h]
  simp
set_option maxRecDepth 100000 in
set_option maxHeartbeats 16000000 in
theorem refCheck_c (A : Option Addr) (n cap : Nat) (vs : List EvV) (w : World) (h : ERd w w.heap.size A n cap vs) (hm : n ≤ 100) (hle : ∀ v ∈ vs, EvLe 5000 v) :
    Calls Tryd.prog 16 #[.slice A n cap] w fun e w' => e = .returned (.tuple #[.int .i64 ((checkE (vs.map EvV.e)).1 : Nat), .int .i64 ((checkE (vs.map EvV.e)).2 : Nat)]) ∧ Below w.heap.size w w' := by
  have HP : Hid (∀ W, Below w.heap.size w W → ERd W W.heap.size A n cap vs) := Lib.hid fun W hb => (h.below hb).more hb.size
  have HLN : Hid (vs.length = n) := Lib.hid h.row.len
  have HE := Lib.hid hle
  obtain ⟨R1, R2, hR⟩ : ∃ a b, checkE (vs.map EvV.e) = (a, b) := ⟨_, _, rfl⟩
  rw [hR]
  have HR0 : Hid ((R1, R2) = checkR [] false (textAt vs 0) ((vs.drop 0).map EvV.e) 0) := Lib.hid hR.symm
  clear h hle hR
  go_enter Tryd.func16, Tryd.ntmps16
  go_wp2
  go_loopg [4, 5, 6] (n) (fun g v r i wr => ∃ (t : Nat) (op : List (List UInt8 × List UInt8)) (root : Bool), i = .int .i64 (t : Int) ∧ r = .bool root ∧ t ≤ n ∧ Hid (g + t = n) ∧ Hid ((R1, R2) = checkR op root (textAt vs t) ((vs.drop t).map EvV.e) t) ∧ Hid (Below w.heap.size w wr) ∧ Hid (OwnN wr w.heap.size v op) ∧ Hid (op.length ≤ t))
  case atStart => exact ⟨0, [], false, rfl, rfl, Nat.zero_le _, Lib.hid rfl, HR0, Lib.hid (Below.refl _ _), Lib.hid (OwnN.start _ _), Lib.hid (Nat.zero_le _)⟩
  case round =>
    clear HR0
    obtain ⟨t, op, root, rfl, rfl, ht, hg, HA, HB, HO, HOL⟩ := hrel
    have ht0 : (0 : Int) ≤ (t : Int) := by omega
    have ht9 : (t : Int) ≤ 100 := by omega
    obtain ⟨AV, cV, rfl⟩ := HO.out.form
    by_cases htn : t < n
    · have hti : (t : Int) < (n : Int) := by omega
      obtain ⟨b1, o1, x, rfl, hb1, hx, hc1⟩ := (HP.out _ HB.out).row.cell htn
      have hmem := List.mem_of_getElem? hx
      have hex := HE.out x hmem
      have hrx := (HP.out _ HB.out).ats x hmem
      have HTS := Lib.hid (textAt_succ hx)
      have HX := Lib.hid hx
      have hA := HA.out
      rw [dropN_cons hx, List.map_cons, checkR] at hA
      obtain ⟨⟨k, sp, lo, ats, tx⟩, XA, xn, xc⟩ := x
      have y0 : wr.cell? ⟨b1, o1 + t * 5, none⟩ = some (.int .i64 k) := by rw [show o1 + t * 5 = o1 + (t * 5 + 0) by omega]; exact hc1 0 _ rfl
      have y1 : wr.cell? ⟨b1, o1 + t * 5 + 1, none⟩ = some (.string ⟨sp.toArray⟩) := by rw [show o1 + t * 5 + 1 = o1 + (t * 5 + 1) by omega]; exact hc1 1 _ rfl
      have y2 : wr.cell? ⟨b1, o1 + t * 5 + 2, none⟩ = some (.string ⟨lo.toArray⟩) := by rw [show o1 + t * 5 + 2 = o1 + (t * 5 + 2) by omega]; exact hc1 2 _ rfl
      have y3 : wr.cell? ⟨b1, o1 + t * 5 + 3, none⟩ = some (.slice XA xn xc) := by rw [show o1 + t * 5 + 3 = o1 + (t * 5 + 3) by omega]; exact hc1 3 _ rfl
      have y4 : wr.cell? ⟨b1, o1 + t * 5 + 4, none⟩ = some (.string ⟨tx.toArray⟩) := by rw [show o1 + t * 5 + 4 = o1 + (t * 5 + 4) by omega]; exact hc1 4 _ rfl
      have C1 := Lib.hid (refOne5_c k sp lo tx XA xn xc ats wr hrx hex)
      have HA2 := Lib.hid hA
      clear hx hc1 hA HA hmem hex hrx
      simp only at HA2 HTS
      obtain ⟨er, her⟩ : ∃ q, oneE ⟨k, sp, lo, ats, tx⟩ = q := ⟨_, rfl⟩
      rw [her] at C1 HA2
      clear her
      go_wp2_with fail
      refine C1.out.mono ?_
      rintro e w2 ⟨rfl, hb2⟩
      have HBW := Lib.hid (HB.out.trans (hb2.mono HB.out.size))
      have HO2 := Lib.hid (HO.out.kept hb2)
      have v0 := (hb2.cell (p := ⟨b1, o1 + t * 5, none⟩) hb1).trans y0
      have v1 := (hb2.cell (p := ⟨b1, o1 + t * 5 + 1, none⟩) hb1).trans y1
      have v2 := (hb2.cell (p := ⟨b1, o1 + t * 5 + 2, none⟩) hb1).trans y2
      clear hb2 C1 y0 y1 y2 y3 y4 hb1 HO
      by_cases h0 : er = 0
      · subst h0
        have HA3 := Lib.hid (HA2.out.trans (if_neg (by simp)))
        clear HA2
        have hol : (op.length : Int) ≤ 100 := by have := HOL.out; omega
        by_cases h1 : k = 1
        · subst h1
          have HA3 : Hid ((R1, R2) = match (if (op.isEmpty && root) = true then none else some (op ++ [(sp, lo)], true, false)) with | none => (t, 7) | some (op', root', text') => checkR op' root' text' ((vs.drop (t + 1)).map EvV.e) (t + 1)) := Lib.hid HA3.out
          have HZ : ((op.length : Int) == 0) = false ∧ (op.isEmpty && root) = false ∨ ((op.length : Int) == 0) = true ∧ root = false ∨ ((op.length : Int) == 0) = true ∧ root = true := by
            cases op with
            | nil => cases root <;> simp
            | cons a t => left; simp; omega
          rcases HZ with ⟨hz, hb⟩ | ⟨hz, rfl⟩ | ⟨hz, rfl⟩
          · rw [hb] at HA3
            have HA4 : Hid ((R1, R2) = checkR (op ++ [(sp, lo)]) true false ((vs.drop (t + 1)).map EvV.e) (t + 1)) := Lib.hid HA3.out
            clear HA3 hb
            have hown : w2.ownsRow w.heap.size 37 2 (.slice AV op.length cV) op.length (op.flatMap cN) := HO2.out
            have hlen : op.length ≤ 1000000000 := by omega
            have hba := HBW.out.size
            go_wp2_with (first
              | (at_builtin; refine wpList_appK rfl (.tmp 39) (.tmp 45) 71 37 rfl (.agg #[.string ⟨#[]⟩, .string ⟨#[]⟩]) 2 32 Tryd.underlying71 info_name rfl (by decide) _ _ _ _ rfl hown (cN (sp, lo)) _ rfl rfl rfl (by simp [cN, Value.oneCell']) hlen (by decide) hba ?_))
            intro v6 w6 hown6 hg6 hat6
            have O6 := Lib.hid (OwnN.snoc (l := op) (x := (sp, lo)) hown6)
            have kb := (Below.refl w2.heap.size w2).alloc (Nat.le_refl _) (.cells (cN (sp, lo)).toArray 37)
            have HB6 := Lib.hid ((HBW.out.trans (kb.mono hba)).grown hg6 (by rw [World.size_alloc w2]; omega) (fun j hj => OwnN.ge (l := op) hown hj))
            clear hown6 hg6 hat6 kb hown v0 v1 v2
            go_wp2
            go_roundg (n - (t + 1))
            case measure => have := hg.out; omega
            case rel => exact ⟨t + 1, _, _, by go_num, rfl, by omega, Lib.hid (by have := hg.out; omega), Lib.hid (by rw [HTS.out]; exact HA4.out), HB6, O6, Lib.hid (by have := HOL.out; rw [List.length_append]; simp; omega)⟩
          · rw [Bool.and_false] at HA3
            have HA4 : Hid ((R1, R2) = checkR (op ++ [(sp, lo)]) true false ((vs.drop (t + 1)).map EvV.e) (t + 1)) := Lib.hid HA3.out
            clear HA3
            have hown : w2.ownsRow w.heap.size 37 2 (.slice AV op.length cV) op.length (op.flatMap cN) := HO2.out
            have hlen : op.length ≤ 1000000000 := by omega
            have hba := HBW.out.size
            go_wp2_with (first
              | (at_builtin; refine wpList_appK rfl (.tmp 39) (.tmp 45) 71 37 rfl (.agg #[.string ⟨#[]⟩, .string ⟨#[]⟩]) 2 32 Tryd.underlying71 info_name rfl (by decide) _ _ _ _ rfl hown (cN (sp, lo)) _ rfl rfl rfl (by simp [cN, Value.oneCell']) hlen (by decide) hba ?_))
            intro v6 w6 hown6 hg6 hat6
            have O6 := Lib.hid (OwnN.snoc (l := op) (x := (sp, lo)) hown6)
            have kb := (Below.refl w2.heap.size w2).alloc (Nat.le_refl _) (.cells (cN (sp, lo)).toArray 37)
            have HB6 := Lib.hid ((HBW.out.trans (kb.mono hba)).grown hg6 (by rw [World.size_alloc w2]; omega) (fun j hj => OwnN.ge (l := op) hown hj))
            clear hown6 hg6 hat6 kb hown v0 v1 v2
            go_wp2
            go_roundg (n - (t + 1))
            case measure => have := hg.out; omega
            case rel => exact ⟨t + 1, _, _, by go_num, rfl, by omega, Lib.hid (by have := hg.out; omega), Lib.hid (by rw [HTS.out]; exact HA4.out), HB6, O6, Lib.hid (by have := HOL.out; rw [List.length_append]; simp; omega)⟩
          · have he : op = [] := by cases op with | nil => rfl | cons a t => simp at hz; omega
            have HA4 : Hid ((R1, R2) = (t, 7)) := Lib.hid (by rw [HA3.out, he]; rfl)
            clear HA3 he
            go_wp2
            go_ret2
            have he := HA4.out
            cases he
            exact ⟨rfl, HBW.out⟩
        · by_cases h2 : k = 2
          · subst h2
            have HA3 : Hid ((R1, R2) = match (if op.getLast? = some (sp, lo) then some (op.dropLast, root, false) else none) with | none => (t, 7) | some (op', root', text') => checkR op' root' text' ((vs.drop (t + 1)).map EvV.e) (t + 1)) := Lib.hid HA3.out
            clear h1
            rcases List.eq_nil_or_concat op with he | ⟨op2, s, he⟩
            · have hz : ((op.length : Int) == 0) = true := by rw [he]; rfl
              have HA4 : Hid ((R1, R2) = (t, 7)) := Lib.hid (by rw [HA3.out, he]; rfl)
              clear HA3 he
              go_wp2_with fail
              go_quiet (fail)
              go_wp2
              go_ret2
              have he := HA4.out
              cases he
              exact ⟨rfl, below_drewN' HBW.out⟩
            · rw [List.concat_eq_append] at he
              have HO3 := HO2.out
              rw [he] at HO3
              obtain ⟨g1, c1, e9, hc9, hg9, hgl9, u0, u1, ho9⟩ := HO3.last
              have hlen : op.length = op2.length + 1 := by rw [he, List.length_append]; rfl
              injection e9 with e9 _ e7
              subst e9 e7
              have HO9 := Lib.hid ho9
              have hz : ((op.length : Int) == 0) = false := by rw [hlen]; simp; omega
              have hi : (op.length : Int) - 1 = (op2.length : Int) := by omega
              have l0 : (0 : Int) ≤ (op2.length : Int) := by omega
              have l1 : (op2.length : Int) < (op.length : Int) := by omega
              have l4 : ¬ (op2.length : Int) < 0 := by omega
              have l9 : (op2.length : Int) ≤ 1000 := by omega
              have l2 : IntKind.i64.wrap (op2.length : Int) = (op2.length : Int) := by rw [IntKind.wrap_i64]; omega
              have hcut := fun (X : World) => run_cutN (w := X) (some ⟨g1, 0, none⟩) op.length cV op2.length (by omega)
              have HL2 := Lib.hid hlen
              have HE2 := Lib.hid he
              obtain ⟨s1, s2⟩ := s
              simp only at u0 u1
              clear HO3 hc9 ho9 hlen
              by_cases hc1 : s1 = sp
              · by_cases hc2 : s2 = lo
                · subst hc1 hc2
                  have HA4 : Hid ((R1, R2) = checkR op2 root false ((vs.drop (t + 1)).map EvV.e) (t + 1)) := Lib.hid (by rw [HA3.out, HE2.out, if_pos (by simp), List.dropLast_concat])
                  clear HA3 he HO2
                  go_wp2_with fail
                  go_quiet (fail)
                  have HO8 : Hid (OwnN (w2.drewN nq) w.heap.size (.slice (some ⟨g1, 0, none⟩) op2.length cV) op2) := Lib.hid HO9.out
                  have HB8 : Hid (Below w.heap.size w (w2.drewN nq)) := Lib.hid (below_drewN' HBW.out)
                  clear v0 v1 v2 u0 u1
                  generalize w2.drewN nq = wq at *
                  go_wp2
                  go_roundg (n - (t + 1))
                  case measure => have := hg.out; omega
                  case rel => exact ⟨t + 1, _, _, by go_num, rfl, by omega, Lib.hid (by have := hg.out; omega), Lib.hid (by rw [HTS.out]; exact HA4.out), HB8, HO8, Lib.hid (by have := HOL.out; have := HL2.out; omega)⟩
                · have hcmp : (s2 == lo) = false := by simpa using hc2
                  have HA4 : Hid ((R1, R2) = (t, 7)) := Lib.hid (by rw [HA3.out, HE2.out, if_neg (by simp; intro _; exact hc2)])
                  subst hc1
                  clear HA3 he hc2
                  go_wp2_with fail
                  go_quiet (fail)
                  go_wp2
                  go_ret2
                  have he := HA4.out
                  cases he
                  exact ⟨rfl, below_drewN' HBW.out⟩
              · have hcmp : (s1 == sp) = false := by simpa using hc1
                have HA4 : Hid ((R1, R2) = (t, 7)) := Lib.hid (by rw [HA3.out, HE2.out, if_neg (by simp; intro h; exact absurd h hc1)])
                clear HA3 he hc1
                go_wp2_with fail
                go_quiet (fail)
                go_wp2
                go_ret2
                have he := HA4.out
                cases he
                exact ⟨rfl, below_drewN' HBW.out⟩
          · by_cases h3 : k = 3
            · subst h3
              have HA3 : Hid ((R1, R2) = match (if (op.isEmpty || textAt vs t) = true then none else some (op, root, true)) with | none => (t, 7) | some (op', root', text') => checkR op' root' text' ((vs.drop (t + 1)).map EvV.e) (t + 1)) := Lib.hid HA3.out
              clear h1 h2
              by_cases hop : op = []
              · have hz : ((op.length : Int) == 0) = true := by rw [hop]; rfl
                have HA4 : Hid ((R1, R2) = (t, 7)) := Lib.hid (by rw [HA3.out, hop]; rfl)
                clear HA3 hop
                go_wp2
                go_ret2
                have he := HA4.out
                cases he
                exact ⟨rfl, HBW.out⟩
              · have hz : ((op.length : Int) == 0) = false := by
                  cases op with
                  | nil => exact absurd rfl hop
                  | cons a t => simp; omega
                have hie : op.isEmpty = false := by simpa using hop
                rw [hie, Bool.false_or] at HA3
                clear hie hop
                rcases Nat.eq_zero_or_pos t with ht00 | htp
                · have hneg : ¬ (0 : Int) < (t : Int) := by omega
                  have HA4 : Hid ((R1, R2) = checkR op root true ((vs.drop (t + 1)).map EvV.e) (t + 1)) := Lib.hid (by rw [HA3.out, ht00]; rfl)
                  clear HA3 ht00
                  go_wp2
                  go_roundg (n - (t + 1))
                  case measure => have := hg.out; omega
                  case rel => exact ⟨t + 1, _, _, by go_num, rfl, by omega, Lib.hid (by have := hg.out; omega), Lib.hid (by rw [HTS.out]; exact HA4.out), HBW, HO2, Lib.hid (by have := HOL.out; omega)⟩
                · obtain ⟨t', ht'⟩ : ∃ t', t = t' + 1 := ⟨t - 1, by omega⟩
                  have hi : (t : Int) - 1 = (t' : Int) := by omega
                  have hpos : (0 : Int) < (t : Int) := by omega
                  have i0 : (0 : Int) ≤ (t' : Int) := by omega
                  have i1 : (t' : Int) < (n : Int) := by omega
                  have i9 : (t' : Int) ≤ 100 := by omega
                  obtain ⟨b2, o2, y, e2, _, hy, hc2⟩ := (HP.out _ HBW.out).row.cell (show t' < n by omega)
                  cases e2
                  have u0 : w2.cell? ⟨b1, o1 + t' * 5, none⟩ = some (.int .i64 y.e.kind) := by rw [show o1 + t' * 5 = o1 + (t' * 5 + 0) by omega]; exact hc2 0 _ rfl
                  have hta : textAt vs t = decide (y.e.kind = 3) := by rw [ht']; exact textAt_succ hy
                  rw [hta] at HA3
                  clear hc2 hy hta
                  generalize y.e.kind = kk at *
                  have HT9 := Lib.hid ht'
                  clear ht' htp
                  by_cases hk : kk = 3
                  · subst hk
                    have HA4 : Hid ((R1, R2) = (t, 7)) := Lib.hid HA3.out
                    clear HA3
                    go_wp2
                    go_ret2
                    have he := HA4.out
                    cases he
                    exact ⟨rfl, HBW.out⟩
                  · have hkb : (kk == 3) = false := by simpa using hk
                    have HA4 : Hid ((R1, R2) = checkR op root true ((vs.drop (t + 1)).map EvV.e) (t + 1)) := Lib.hid (by rw [HA3.out, decide_eq_false hk]; rfl)
                    clear HA3 hk
                    go_wp2
                    go_roundg (n - (t + 1))
                    case measure => have := hg.out; omega
                    case rel => exact ⟨t + 1, _, _, by go_num, rfl, by omega, Lib.hid (by have := hg.out; omega), Lib.hid (by rw [HTS.out]; exact HA4.out), HBW, HO2, Lib.hid (by have := HOL.out; omega)⟩
            · have g1 : (k == 1) = false := by simpa using h1
              have g2 : (k == 2) = false := by simpa using h2
              have g3 : (k == 3) = false := by simpa using h3
              have HA4 : Hid ((R1, R2) = checkR op root false ((vs.drop (t + 1)).map EvV.e) (t + 1)) := Lib.hid (by rw [HA3.out, nextE, if_neg h1, if_neg h2, if_neg h3])
              have HTS : Hid (textAt vs (t + 1) = false) := Lib.hid (by rw [HTS.out, decide_eq_false h3])
              clear HA3 h1 h2 h3
              go_wp2
              go_roundg (n - (t + 1))
              case measure => have := hg.out; omega
              case rel => exact ⟨t + 1, _, _, by go_num, rfl, by omega, Lib.hid (by have := hg.out; omega), Lib.hid (by rw [HTS.out]; exact HA4.out), HBW, HO2, Lib.hid (by have := HOL.out; omega)⟩
      · have hne : ((er : Int) != 0) = true := by simp; omega
        have HA3 := Lib.hid (HA2.out.trans (if_pos (by simpa using h0)))
        clear HA2 h0
        go_wp2
        go_ret2
        have he := HA3.out
        cases he
        exact ⟨rfl, HBW.out⟩
    · have hti : ¬ (t : Int) < (n : Int) := by omega
      have hA := HA.out
      rw [List.drop_of_length_le (by rw [HLN.out]; omega), List.map_nil, checkR] at hA
      have HA2 := Lib.hid hA
      obtain rfl : t = n := by omega
      clear hA HA HO
      cases op with
      | nil =>
        cases root
        all_goals
          go_wp2
          go_ret2
          have he := HA2.out
          cases he
          exact ⟨rfl, HB.out⟩
      | cons a tl =>
        have hp : (0 : Int) < (((a :: tl).length : Nat) : Int) := by simp only [List.length_cons]; omega
        have HA3 : Hid ((R1, R2) = (t, 7)) := Lib.hid (by rw [HA2.out]; rfl)
        clear HA2 HOL
        generalize (a :: tl).length = m at *
        go_wp2
        go_ret2
        have he := HA3.out
        cases he
        exact ⟨rfl, HB.out⟩
end Go.Proofs.YtocbofeanfdggaaDoor
