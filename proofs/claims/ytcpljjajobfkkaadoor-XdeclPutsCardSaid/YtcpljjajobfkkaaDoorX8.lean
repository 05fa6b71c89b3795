/- The law XdeclPuts. -/
import Derived.Test.YtcpljjajobfkkaaDoorRows
import Derived.WalkKit
import Derived.ProofKit
import Derived.OpenShut
import Derived.ShutString
import Derived.ChangeOld
import Derived.Below
import Derived.BigQuiet
import Derived.Deep.QuietTactic
import Derived.Lib.Hide
import Derived.Deep.RegionHeld3
import Derived.Lib.SlBytesConst
import Derived.Laws.CopyOwn
import Derived.Laws.CopyRow
import Derived.Lib.Bytes
import Derived.Deep.LoopGhost
import Derived.Deep.DeepFit
import Derived.Deep.DeepMust
import Derived.WalkSpells
import Derived.WalkLawsBesides
import Derived.Laws.EntriesVeiled
import Derived.Laws.Rows
import Derived.Deep.CutRange
import Derived.Test.YtcpljjajobfkkaaDoorBase
import Derived.Test.YtcpljjajobfkkaaDoorShelf
import Derived.Test.YtcpljjajobfkkaaDoorCharPlain
import Derived.Test.YtcpljjajobfkkaaDoorBuild
import Derived.Test.YtcpljjajobfkkaaDoorX5
import Derived.Test.YtcpljjajobfkkaaDoorStr
import Derived.Test.YtcpljjajobfkkaaDoorPfx
import Derived.Test.YtcpljjajobfkkaaDoorLitP
import Derived.Test.YtcpljjajobfkkaaDoorLit1
import Derived.Test.YtcpljjajobfkkaaDoorPub
import Derived.Test.YtcpljjajobfkkaaDoorBlank
import Derived.Test.YtcpljjajobfkkaaDoorLibB
import Derived.Test.YtcpljjajobfkkaaDoorMiscP
import Derived.Test.YtcpljjajobfkkaaDoorMisc1
import Derived.Test.YtcpljjajobfkkaaDoorX1
import Derived.Test.YtcpljjajobfkkaaDoorBits
import Derived.Test.YtcpljjajobfkkaaDoorX2
import Derived.Test.YtcpljjajobfkkaaDoorX6
import Derived.Test.YtcpljjajobfkkaaDoorX7
namespace Go.Proofs.YtcpljjajobfkkaaDoor
open Go.ChangeShapes Go.WideShapes Go.ChangeAt Go.RowKit
set_option linter.unusedVariables false
/-- A law's own block, and behind it the program's answer. -/
def QJ (vs : Array Value) (w W : World) : Prop := Below w.heap.size w W ∧ W.heap[w.heap.size]? = some (.cells vs 56)
theorem QJ.kept {vs : Array Value} {w W W' : World} (h : QJ vs w W) (hb : Below W.heap.size W W') : QJ vs w W' :=
  ⟨h.1.trans (hb.mono h.1.size), by rw [hb.block _ (lt_of h.2)]; exact h.2⟩
def QK (a : Nat) (va vs : Array Value) (w W : World) : Prop := QJ vs w W ∧ W.heap[a]? = some (.cells va 53) ∧ w.heap.size < a
theorem QK.kept {a : Nat} {va vs : Array Value} {w W W' : World} (h : QK a va vs w W) (hb : Below W.heap.size W W') : QK a va vs w W' :=
  ⟨h.1.kept hb, by rw [hb.block _ (lt_of h.2.1)]; exact h.2.1, h.2.2⟩
theorem QK.row {a : Nat} {va vs : Array Value} {w W : World} (h : QK a va vs w W) (cs : Array Value) : QK a cs vs w (W.setRow a cs) :=
  ⟨⟨below_row h.1.1 a (by have := h.2.2; omega) cs, by rw [setRow_other _ _ _ _ (by have := h.2.2; omega)]; exact h.1.2⟩, setRow_heap _ _ _ _ _ _ h.2.1, h.2.2⟩
theorem xdPut_not (dv de da : List UInt8) (w : World) :
    Calls Tryd.prog 29 #[.agg #[.bool false, .string ⟨dv.toArray⟩, .string ⟨de.toArray⟩, .string ⟨da.toArray⟩]] w fun e w' => PP (putDeclOut ⟨false, dv, de, da⟩) w e w' := by
  have B1 := Lib.hid ((Below.refl w.heap.size w).alloc (Nat.le_refl _) (.cells #[.bool false, .string ⟨dv.toArray⟩, .string ⟨de.toArray⟩, .string ⟨da.toArray⟩] 53))
  have HP : Hid (putDeclOut ⟨false, dv, de, da⟩ = ([], 7)) := Lib.hid (putDecl_bad (fun h => by cases h.1))
  go_enter Tryd.func29, Tryd.ntmps29
  go_wp2
  go_ret2
  exact PP.bad HP.out rfl B1.out
set_option maxRecDepth 100000 in
set_option maxHeartbeats 4000000 in
theorem xdPut_none (da : List UInt8) (w : World) :
    Calls Tryd.prog 29 #[.agg #[.bool true, .string ⟨#[]⟩, .string ⟨#[]⟩, .string ⟨da.toArray⟩]] w fun e w' => PP (putDeclOut ⟨true, [], [], da⟩) w e w' := by
  have B1 := Lib.hid ((Below.refl w.heap.size w).alloc (Nat.le_refl _) (.cells #[.bool true, .string ⟨#[]⟩, .string ⟨#[]⟩, .string ⟨da.toArray⟩] 53))
  have HP : Hid (putDeclOut ⟨true, [], [], da⟩ = ([], 7)) := Lib.hid (putDecl_bad (fun h => h.2.1 ⟨rfl, rfl⟩))
  have hi : (Tryd.prog.info? 53).map (·.size) = some 4 := by kernel_rfl
  obtain ⟨d, hu⟩ := isStruct_of (P := Tryd.prog) (t := 53) (by kernel_rfl)
  have HU := Lib.hid (And.intro hi hu)
  clear hi hu
  have HD := Lib.hid (hp_new w (.cells #[.bool true, .string ⟨#[]⟩, .string ⟨#[]⟩, .string ⟨da.toArray⟩] 53))
  go_enter Tryd.func29, Tryd.ntmps29
  go_wp2_with (refine wpList_load_row rfl _ _ rfl w.heap.size rfl _ _ _ _ HD.out HU.out.2 rfl HU.out.1 ?_)
  go_ret2
  exact PP.bad HP.out rfl B1.out
/-- narthex/xdecl.Put of any declaration. -/
theorem xdPut_c (dh : Bool) (dv de da : List UInt8) (w : World) (hT : FoldT w) (h1 : dv.length ≤ 1000) (h2 : de.length ≤ 1000) (h3 : da.length ≤ 1000) :
    Calls Tryd.prog 29 #[.agg #[.bool dh, .string ⟨dv.toArray⟩, .string ⟨de.toArray⟩, .string ⟨da.toArray⟩]] w fun e w' => PP (putDeclOut ⟨dh, dv, de, da⟩) w e w' := by
  cases dh with
  | false => exact xdPut_not dv de da w
  | true =>
    by_cases hv : dv = []
    · subst hv
      by_cases he : de = []
      · subst he
        exact xdPut_none da w
      · exact xdPut_hasE de da w hT h2 h3 he
    · exact xdPut_has dv de da w hT h1 h2 h3 hv
theorem putDecl_cases (dh : Bool) (dv de da : List UInt8) : ((refPutOut ⟨dh, dv, de, da⟩).2 = false ∧ putDeclOut ⟨dh, dv, de, da⟩ = ([], 7)) ∨ (dh = true ∧ ¬ (dv = [] ∧ de = []) ∧ mayPut ⟨dh, dv, de, da⟩ = true ∧ refPutOut ⟨dh, dv, de, da⟩ = (declT ⟨dh, dv, de, da⟩, true) ∧ putDeclOut ⟨dh, dv, de, da⟩ = (declT ⟨dh, dv, de, da⟩, 0)) := by
  cases hm : mayPut ⟨dh, dv, de, da⟩ with
  | false => exact Or.inl ⟨by rw [refPut_bad hm], putDecl_bad (fun h => by rw [hm] at h; cases h.2.2)⟩
  | true =>
    cases dh with
    | false => exact Or.inl ⟨by rw [refPut_good hm]; rfl, putDecl_bad (fun h => by cases h.1)⟩
    | true =>
      by_cases hne : dv = [] ∧ de = []
      · exact Or.inl ⟨by rw [refPut_good hm]; simp [hne.1, hne.2], putDecl_bad (fun h => h.2.1 hne)⟩
      · refine Or.inr ⟨rfl, hne, rfl, ?_, putDecl_good ⟨rfl, hne, hm⟩⟩
        rw [refPut_good hm]
        have : (!dv.isEmpty || !de.isEmpty) = true := by
          cases dv with
          | nil => cases de with
            | nil => exact absurd ⟨rfl, rfl⟩ hne
            | cons a t => rfl
          | cons a t => rfl
        simp only [this, Bool.and_true]
theorem declT_len (d : DeclL) (h1 : d.ver.length ≤ 1000) (h2 : d.enc.length ≤ 1000) (h3 : d.alone.length ≤ 1000) : (declT d).length ≤ 4000 := by
  have hp : ∀ word v : List UInt8, word.length ≤ 100 → v.length ≤ 1000 → (partsT word v).length ≤ 1200 := fun word v hw hv => by
    unfold partsT partT
    split
    · simp
    · simp; omega
  have q1 := hp verW d.ver (by decide) h1
  have q2 := hp encW d.enc (by decide) h2
  have q3 := hp aloneW d.alone (by decide) h3
  unfold declT
  simp only [List.length_append, List.length_cons, List.length_nil]
  omega
set_option maxRecDepth 100000 in
set_option maxHeartbeats 16000000 in
theorem xdeclPuts_walk (dh : Bool) (vb eb ab : ByteArray) (w : World) (hT : FoldT w) :
    Calls Tryd.prog 8 #[.agg #[.bool dh, .string vb, .string eb, .string ab]] w fun e w' => e = .returned (.bool true) ∧ Below w.heap.size w w' := by
  obtain ⟨dv, rfl⟩ : ∃ s : List UInt8, vb = ⟨s.toArray⟩ := ⟨vb.data.toList, by simp⟩
  obtain ⟨de, rfl⟩ : ∃ s : List UInt8, eb = ⟨s.toArray⟩ := ⟨eb.data.toList, by simp⟩
  obtain ⟨da, rfl⟩ : ∃ s : List UInt8, ab = ⟨s.toArray⟩ := ⟨ab.data.toList, by simp⟩
  have LV : Hid (∀ W, Below w.heap.size w W → Calls Tryd.prog 22 #[] W fun e w' => e = .returned (.bool true) ∧ Below W.heap.size W w') := Lib.hid fun W hb => live9_c W (hT.below hb hT.lt)
  have J0 : Hid (QJ #[.bool dh, .string ⟨dv.toArray⟩, .string ⟨de.toArray⟩, .string ⟨da.toArray⟩] w (w.alloc (.cells #[.bool dh, .string ⟨dv.toArray⟩, .string ⟨de.toArray⟩, .string ⟨da.toArray⟩] 56))) := Lib.hid ⟨(Below.refl _ _).alloc (Nat.le_refl _) _, hp_new _ _⟩
  by_cases h1 : dv.length ≤ 100
  · have h1' : ¬ (100 : Int) < (dv.length : Int) := by omega
    by_cases h2 : de.length ≤ 100
    · have h2' : ¬ (100 : Int) < (de.length : Int) := by omega
      by_cases h3 : da.length ≤ 100
      · have h3' : ¬ (100 : Int) < (da.length : Int) := by omega
        have C1 : Hid (∀ W, QJ #[.bool dh, .string ⟨dv.toArray⟩, .string ⟨de.toArray⟩, .string ⟨da.toArray⟩] w W → Calls Tryd.prog 29 #[.agg #[.bool dh, .string ⟨dv.toArray⟩, .string ⟨de.toArray⟩, .string ⟨da.toArray⟩]] W fun e w' => PP (putDeclOut ⟨dh, dv, de, da⟩) W e w') := Lib.hid fun W hJ => xdPut_c dh dv de da W (hT.below hJ.1 hT.lt) (by omega) (by omega) (by omega)
        have C2 : Hid (∀ W, QJ #[.bool dh, .string ⟨dv.toArray⟩, .string ⟨de.toArray⟩, .string ⟨da.toArray⟩] w W → Calls Tryd.prog 30 #[.agg #[.bool dh, .string ⟨dv.toArray⟩, .string ⟨de.toArray⟩, .string ⟨da.toArray⟩]] W fun e w' => e = .returned (.tuple #[.string ⟨(refPutOut ⟨dh, dv, de, da⟩).1.toArray⟩, .bool (refPutOut ⟨dh, dv, de, da⟩).2]) ∧ Below W.heap.size W w') := Lib.hid fun W hJ => refPut_c dh dv de da W (by omega) (by omega) (by omega)
        have hi : (Tryd.prog.info? 53).map (·.size) = some 4 := by kernel_rfl
        obtain ⟨d, hu⟩ := isStruct_of (P := Tryd.prog) (t := 53) (by kernel_rfl)
        have HU := Lib.hid (And.intro hi hu)
        have hi2 : (Tryd.prog.info? 56).map (·.size) = some 4 := by kernel_rfl
        obtain ⟨d2, hu2⟩ := isStruct_of (P := Tryd.prog) (t := 56) (by kernel_rfl)
        have HU2 := Lib.hid (And.intro hi2 hu2)
        have htl := declT_len ⟨dh, dv, de, da⟩ (by show dv.length ≤ 1000; omega) (by show de.length ≤ 1000; omega) (by show da.length ≤ 1000; omega)
        have CX : Hid (∀ (text : Bool) (t : List UInt8), t.length ≤ 4000 → ∀ W N, QJ #[.bool dh, .string ⟨dv.toArray⟩, .string ⟨de.toArray⟩, .string ⟨da.toArray⟩] w W → N = W.heap.size → Calls Tryd.prog (if text then 28 else 23) #[.slice (some ⟨N, 0, none⟩) t.length (grownCap W t.length 0 5), .int .i64 0] (Lib.bytesWorld W 5 ⟨t.toArray⟩) fun e w' => e = .returned (declV (declOut text t 0)) ∧ Below W.heap.size W w') := Lib.hid fun text t ht W N hJ hN => by
          subst hN
          have k1 := Lib.bytesWorld_below W 5 ⟨t.toArray⟩
          have hb1 := hJ.1.trans (k1.mono hJ.1.size)
          have hby := (byt_new W t (by omega)).more (Nat.le_of_eq (Lib.bytesWorld_size W 5 ⟨t.toArray⟩).symm)
          have hm4 : t.length ≤ 40000 := Nat.le_trans ht (by decide)
          have hF : FoldT (Lib.bytesWorld W 5 ⟨t.toArray⟩) := hT.below hb1 hT.lt
          have h0 : declAt text t 0 = declOut text t 0 := by unfold declAt; rw [if_neg (by omega)]; rfl
          cases text with
          | true =>
            have := xdText_c _ _ _ _ 0 _ hby hm4 hF
            rw [h0] at this
            exact this.mono fun e w' ⟨he, hb2⟩ => ⟨he, k1.trans (hb2.mono k1.size)⟩
          | false =>
            have := xdXml_c _ _ _ _ 0 _ hby hm4 hF
            rw [h0] at this
            exact this.mono fun e w' ⟨he, hb2⟩ => ⟨he, k1.trans (hb2.mono k1.size)⟩
        clear hT hi hu hi2 hu2
        rcases putDecl_cases dh dv de da with ⟨hr, hp⟩ | ⟨rfl, hne, hmp, hr, hp⟩
        · rw [hp] at C1
          rw [hr] at C2
          generalize (refPutOut ⟨dh, dv, de, da⟩).1 = rt at *
          clear hr hp CX htl h1 h2 h3
          unfold PP at C1
          simp only at C1
          go_enter Tryd.func8, Tryd.ntmps8
          go_wp2_with fail
          refine (C1.out _ J0.out).mono ?_
          rintro e w1 ⟨rfl, hb⟩
          have J1 := Lib.hid (J0.out.kept hb)
          clear hb
          go_wp2_with (refine wpList_load_row rfl _ _ rfl w.heap.size rfl _ _ _ _ J1.out.2 HU2.out.2 rfl HU2.out.1 ?_)
          refine (C2.out _ J1.out).mono ?_
          rintro e w2 ⟨rfl, hb⟩
          have J2 := Lib.hid (J1.out.kept hb)
          clear hb
          go_wp2_with fail
          refine (LV.out _ J2.out.1).mono ?_
          rintro e w3 ⟨rfl, hb⟩
          have B3 := Lib.hid (J2.out.kept hb).1
          clear hb
          go_wp2
          go_ret
          exact ⟨rfl, B3.out⟩
        · rw [hp] at C1
          rw [hr] at C2
          have X1 := Lib.hid (CX.out false (declT ⟨true, dv, de, da⟩) htl)
          have X2 := Lib.hid (CX.out true (declT ⟨true, dv, de, da⟩) htl)
          have D1 : Hid (dv ≠ [] → declOut false (declT ⟨true, dv, de, da⟩) 0 = (⟨true, dv, de, da⟩, (declT ⟨true, dv, de, da⟩).length, 0)) := Lib.hid fun h => decl_back _ rfl hmp h
          have D2 : Hid (de ≠ [] → da = [] → declOut true (declT ⟨true, dv, de, da⟩) 0 = (⟨true, dv, de, da⟩, (declT ⟨true, dv, de, da⟩).length, 0)) := Lib.hid fun h h' => decl_back_text _ rfl hmp h h'
          have cv := fun W => run_toBytes W (declT ⟨true, dv, de, da⟩)
          simp only [if_true, Bool.false_eq_true, if_false] at X1 X2
          have htl0 : ((declT ⟨true, dv, de, da⟩).length : Int) ≤ 4000 := by omega
          generalize declT ⟨true, dv, de, da⟩ = t at *
          generalize declOut false t 0 = o1 at *
          generalize declOut true t 0 = o2 at *
          obtain ⟨⟨o1h, o1v, o1e, o1a⟩, i1, x1⟩ := o1
          obtain ⟨⟨o2h, o2v, o2e, o2a⟩, i2, x2⟩ := o2
          clear hr hp CX h1 h2 h3 hmp
          unfold PP at C1
          unfold declV DeclL.cells at X1 X2
          simp only at C1 C2 X1 X2
          have hcs : (dv.isEmpty = false ∧ de.isEmpty = false ∧ da.isEmpty = true) ∨ (dv.isEmpty = false ∧ de.isEmpty = true) ∨ (dv.isEmpty = false ∧ de.isEmpty = false ∧ da.isEmpty = false) ∨ (dv.isEmpty = true ∧ de.isEmpty = false ∧ da.isEmpty = true) ∨ (dv.isEmpty = true ∧ de.isEmpty = false ∧ da.isEmpty = false) := by
            cases dv with
            | nil => cases de with
              | nil => exact absurd ⟨rfl, rfl⟩ hne
              | cons a b => cases da <;> simp
            | cons a b => cases de <;> cases da <;> simp
          clear hne
          rcases hcs with ⟨hV, hE, hA⟩ | ⟨hV, hE⟩ | ⟨hV, hE, hA⟩ | ⟨hV, hE, hA⟩ | ⟨hV, hE, hA⟩
          · have hdummy := True.intro
            have hd1 := D1.out (fun h => by rw [h] at hV; cases hV)
            simp only [Prod.mk.injEq, DeclL.mk.injEq] at hd1
            obtain ⟨⟨e1, e2, e3, e4⟩, e5, e6⟩ := hd1
            have f2 := e2.symm
            have f3 := e3.symm
            have f4 := e4.symm
            subst e1 f2 f3 f4 e5 e6
            clear e2 e3 e4
            have hd2 := D2.out (fun h => by rw [h] at hE; cases hE) (by cases da with
              | nil => rfl
              | cons a b => cases hA)
            simp only [Prod.mk.injEq, DeclL.mk.injEq] at hd2
            obtain ⟨⟨e1, e2, e3, e4⟩, e5, e6⟩ := hd2
            have f2 := e2.symm
            have f3 := e3.symm
            have f4 := e4.symm
            subst e1 f2 f3 f4 e5 e6
            clear e2 e3 e4
            clear D1 D2 hdummy
            go_enter Tryd.func8, Tryd.ntmps8
            go_wp2_with fail
            refine (C1.out _ J0.out).mono ?_
            rintro e w1 ⟨rfl, hb⟩
            have J1 := Lib.hid (J0.out.kept hb)
            clear hb
            go_wp2_with (refine wpList_load_row rfl _ _ rfl w.heap.size rfl _ _ _ _ J1.out.2 HU2.out.2 rfl HU2.out.1 ?_)
            refine (C2.out _ J1.out).mono ?_
            rintro e w2 ⟨rfl, hb⟩
            have J2 := Lib.hid (J1.out.kept hb)
            clear hb
            go_wp2_with fail
            refine (X1.out _ _ J2.out (by simp)).mono ?_
            rintro e w3 ⟨rfl, hb⟩
            have J3 := J2.out.kept hb
            have hq := hp_new w3 (.cells #[.bool true, .string ⟨dv.toArray⟩, .string ⟨de.toArray⟩, .string ⟨da.toArray⟩] 53)
            have J4 : Hid (QK w3.heap.size #[.bool true, .string ⟨dv.toArray⟩, .string ⟨de.toArray⟩, .string ⟨da.toArray⟩] #[.bool true, .string ⟨dv.toArray⟩, .string ⟨de.toArray⟩, .string ⟨da.toArray⟩] w (w3.alloc (.cells #[.bool true, .string ⟨dv.toArray⟩, .string ⟨de.toArray⟩, .string ⟨da.toArray⟩] 53))) := Lib.hid ⟨J3.kept ((Below.refl _ w3).alloc (Nat.le_refl _) _), hq, lt_of J3.2⟩
            clear hb J3 hq
            have z0 := cell_of 0 J4.out.1.2
            have z1 := cell_of 1 J4.out.1.2
            have z2 := cell_of 2 J4.out.1.2
            have z3 := cell_of 3 J4.out.1.2
            have x0 := cell_of 0 J4.out.2.1
            have x1 := cell_of 1 J4.out.2.1
            have x2 := cell_of 2 J4.out.2.1
            have x3 := cell_of 3 J4.out.2.1
            go_wp2_with fail
            refine (same9_c true dv de da _).mono ?_
            rintro e w4 ⟨rfl, hb⟩
            have J5 := Lib.hid (J4.out.kept hb)
            clear hb z0 z1 z2 z3 x0 x1 x2 x3
            go_wp2_with fail
            refine (X2.out _ _ J5.out.1 (by simp)).mono ?_
            rintro e w6 ⟨rfl, hb⟩
            have J6 := Lib.hid (J5.out.kept hb)
            clear hb cv
            have J7 := Lib.hid (J6.out.row #[.bool true, .string ⟨dv.toArray⟩, .string ⟨de.toArray⟩, .string ⟨da.toArray⟩])
            have z0 := cell_of 0 J7.out.1.2
            have z1 := cell_of 1 J7.out.1.2
            have z2 := cell_of 2 J7.out.1.2
            have z3 := cell_of 3 J7.out.1.2
            have x0 := cell_of 0 J7.out.2.1
            have x1 := cell_of 1 J7.out.2.1
            have x2 := cell_of 2 J7.out.2.1
            have x3 := cell_of 3 J7.out.2.1
            go_upto_region 13 with (refine wpList_store_row rfl _ _ _ rfl w3.heap.size #[.bool true, .string ⟨dv.toArray⟩, .string ⟨de.toArray⟩, .string ⟨da.toArray⟩] rfl rfl _ _ J6.out.2.1 (by kernel_rfl) rfl (by kernel_rfl) ?_)
            go_wp2_with fail
            refine (same9_c true dv de da _).mono ?_
            rintro e w8 ⟨rfl, hb⟩
            have J8 := Lib.hid (J7.out.kept hb)
            clear hb z0 z1 z2 z3 x0 x1 x2 x3
            go_wp2_with fail
            refine (LV.out _ J8.out.1.1).mono ?_
            rintro e w9 ⟨rfl, hb⟩
            have B9 := Lib.hid (J8.out.kept hb).1.1
            clear hb
            go_wp2
            go_ret
            exact ⟨rfl, B9.out⟩
          · have hdummy := True.intro
            have hd1 := D1.out (fun h => by rw [h] at hV; cases hV)
            simp only [Prod.mk.injEq, DeclL.mk.injEq] at hd1
            obtain ⟨⟨e1, e2, e3, e4⟩, e5, e6⟩ := hd1
            have f2 := e2.symm
            have f3 := e3.symm
            have f4 := e4.symm
            subst e1 f2 f3 f4 e5 e6
            clear e2 e3 e4
            clear D1 D2 hdummy
            go_enter Tryd.func8, Tryd.ntmps8
            go_wp2_with fail
            refine (C1.out _ J0.out).mono ?_
            rintro e w1 ⟨rfl, hb⟩
            have J1 := Lib.hid (J0.out.kept hb)
            clear hb
            go_wp2_with (refine wpList_load_row rfl _ _ rfl w.heap.size rfl _ _ _ _ J1.out.2 HU2.out.2 rfl HU2.out.1 ?_)
            refine (C2.out _ J1.out).mono ?_
            rintro e w2 ⟨rfl, hb⟩
            have J2 := Lib.hid (J1.out.kept hb)
            clear hb
            go_wp2_with fail
            refine (X1.out _ _ J2.out (by simp)).mono ?_
            rintro e w3 ⟨rfl, hb⟩
            have J3 := J2.out.kept hb
            have hq := hp_new w3 (.cells #[.bool true, .string ⟨dv.toArray⟩, .string ⟨de.toArray⟩, .string ⟨da.toArray⟩] 53)
            have J4 : Hid (QK w3.heap.size #[.bool true, .string ⟨dv.toArray⟩, .string ⟨de.toArray⟩, .string ⟨da.toArray⟩] #[.bool true, .string ⟨dv.toArray⟩, .string ⟨de.toArray⟩, .string ⟨da.toArray⟩] w (w3.alloc (.cells #[.bool true, .string ⟨dv.toArray⟩, .string ⟨de.toArray⟩, .string ⟨da.toArray⟩] 53))) := Lib.hid ⟨J3.kept ((Below.refl _ w3).alloc (Nat.le_refl _) _), hq, lt_of J3.2⟩
            clear hb J3 hq
            have z0 := cell_of 0 J4.out.1.2
            have z1 := cell_of 1 J4.out.1.2
            have z2 := cell_of 2 J4.out.1.2
            have z3 := cell_of 3 J4.out.1.2
            have x0 := cell_of 0 J4.out.2.1
            have x1 := cell_of 1 J4.out.2.1
            have x2 := cell_of 2 J4.out.2.1
            have x3 := cell_of 3 J4.out.2.1
            go_wp2_with fail
            refine (same9_c true dv de da _).mono ?_
            rintro e w4 ⟨rfl, hb⟩
            have J5 := Lib.hid (J4.out.kept hb)
            clear hb z0 z1 z2 z3 x0 x1 x2 x3
            go_wp2_with fail
            refine (X2.out _ _ J5.out.1 (by simp)).mono ?_
            rintro e w6 ⟨rfl, hb⟩
            have J6 := Lib.hid (J5.out.kept hb)
            clear hb cv
            have J7 := Lib.hid (J6.out.row #[.bool o2h, .string ⟨o2v.toArray⟩, .string ⟨o2e.toArray⟩, .string ⟨o2a.toArray⟩])
            have z0 := cell_of 0 J7.out.1.2
            have z1 := cell_of 1 J7.out.1.2
            have z2 := cell_of 2 J7.out.1.2
            have z3 := cell_of 3 J7.out.1.2
            have x0 := cell_of 0 J7.out.2.1
            have x1 := cell_of 1 J7.out.2.1
            have x2 := cell_of 2 J7.out.2.1
            have x3 := cell_of 3 J7.out.2.1
            go_upto_region 13 with (refine wpList_store_row rfl _ _ _ rfl w3.heap.size #[.bool o2h, .string ⟨o2v.toArray⟩, .string ⟨o2e.toArray⟩, .string ⟨o2a.toArray⟩] rfl rfl _ _ J6.out.2.1 (by kernel_rfl) rfl (by kernel_rfl) ?_)
            go_wp2_with fail
            refine (LV.out _ J7.out.1.1).mono ?_
            rintro e w9 ⟨rfl, hb⟩
            have B9 := Lib.hid (J7.out.kept hb).1.1
            clear hb
            clear z0 z1 z2 z3 x0 x1 x2 x3
            go_wp2
            go_ret
            exact ⟨rfl, B9.out⟩
          · have hdummy := True.intro
            have hd1 := D1.out (fun h => by rw [h] at hV; cases hV)
            simp only [Prod.mk.injEq, DeclL.mk.injEq] at hd1
            obtain ⟨⟨e1, e2, e3, e4⟩, e5, e6⟩ := hd1
            have f2 := e2.symm
            have f3 := e3.symm
            have f4 := e4.symm
            subst e1 f2 f3 f4 e5 e6
            clear e2 e3 e4
            clear D1 D2 hdummy
            go_enter Tryd.func8, Tryd.ntmps8
            go_wp2_with fail
            refine (C1.out _ J0.out).mono ?_
            rintro e w1 ⟨rfl, hb⟩
            have J1 := Lib.hid (J0.out.kept hb)
            clear hb
            go_wp2_with (refine wpList_load_row rfl _ _ rfl w.heap.size rfl _ _ _ _ J1.out.2 HU2.out.2 rfl HU2.out.1 ?_)
            refine (C2.out _ J1.out).mono ?_
            rintro e w2 ⟨rfl, hb⟩
            have J2 := Lib.hid (J1.out.kept hb)
            clear hb
            go_wp2_with fail
            refine (X1.out _ _ J2.out (by simp)).mono ?_
            rintro e w3 ⟨rfl, hb⟩
            have J3 := J2.out.kept hb
            have hq := hp_new w3 (.cells #[.bool true, .string ⟨dv.toArray⟩, .string ⟨de.toArray⟩, .string ⟨da.toArray⟩] 53)
            have J4 : Hid (QK w3.heap.size #[.bool true, .string ⟨dv.toArray⟩, .string ⟨de.toArray⟩, .string ⟨da.toArray⟩] #[.bool true, .string ⟨dv.toArray⟩, .string ⟨de.toArray⟩, .string ⟨da.toArray⟩] w (w3.alloc (.cells #[.bool true, .string ⟨dv.toArray⟩, .string ⟨de.toArray⟩, .string ⟨da.toArray⟩] 53))) := Lib.hid ⟨J3.kept ((Below.refl _ w3).alloc (Nat.le_refl _) _), hq, lt_of J3.2⟩
            clear hb J3 hq
            have z0 := cell_of 0 J4.out.1.2
            have z1 := cell_of 1 J4.out.1.2
            have z2 := cell_of 2 J4.out.1.2
            have z3 := cell_of 3 J4.out.1.2
            have x0 := cell_of 0 J4.out.2.1
            have x1 := cell_of 1 J4.out.2.1
            have x2 := cell_of 2 J4.out.2.1
            have x3 := cell_of 3 J4.out.2.1
            go_wp2_with fail
            refine (same9_c true dv de da _).mono ?_
            rintro e w4 ⟨rfl, hb⟩
            have J5 := Lib.hid (J4.out.kept hb)
            clear hb z0 z1 z2 z3 x0 x1 x2 x3
            go_wp2_with fail
            refine (X2.out _ _ J5.out.1 (by simp)).mono ?_
            rintro e w6 ⟨rfl, hb⟩
            have J6 := Lib.hid (J5.out.kept hb)
            clear hb cv
            have J7 := Lib.hid (J6.out.row #[.bool o2h, .string ⟨o2v.toArray⟩, .string ⟨o2e.toArray⟩, .string ⟨o2a.toArray⟩])
            have z0 := cell_of 0 J7.out.1.2
            have z1 := cell_of 1 J7.out.1.2
            have z2 := cell_of 2 J7.out.1.2
            have z3 := cell_of 3 J7.out.1.2
            have x0 := cell_of 0 J7.out.2.1
            have x1 := cell_of 1 J7.out.2.1
            have x2 := cell_of 2 J7.out.2.1
            have x3 := cell_of 3 J7.out.2.1
            go_upto_region 13 with (refine wpList_store_row rfl _ _ _ rfl w3.heap.size #[.bool o2h, .string ⟨o2v.toArray⟩, .string ⟨o2e.toArray⟩, .string ⟨o2a.toArray⟩] rfl rfl _ _ J6.out.2.1 (by kernel_rfl) rfl (by kernel_rfl) ?_)
            go_wp2_with fail
            refine (LV.out _ J7.out.1.1).mono ?_
            rintro e w9 ⟨rfl, hb⟩
            have B9 := Lib.hid (J7.out.kept hb).1.1
            clear hb
            clear z0 z1 z2 z3 x0 x1 x2 x3
            go_wp2
            go_ret
            exact ⟨rfl, B9.out⟩
          · have hdummy := True.intro
            have hd2 := D2.out (fun h => by rw [h] at hE; cases hE) (by cases da with
              | nil => rfl
              | cons a b => cases hA)
            simp only [Prod.mk.injEq, DeclL.mk.injEq] at hd2
            obtain ⟨⟨e1, e2, e3, e4⟩, e5, e6⟩ := hd2
            have f2 := e2.symm
            have f3 := e3.symm
            have f4 := e4.symm
            subst e1 f2 f3 f4 e5 e6
            clear e2 e3 e4
            clear D1 D2 hdummy
            go_enter Tryd.func8, Tryd.ntmps8
            go_wp2_with fail
            refine (C1.out _ J0.out).mono ?_
            rintro e w1 ⟨rfl, hb⟩
            have J1 := Lib.hid (J0.out.kept hb)
            clear hb
            go_wp2_with (refine wpList_load_row rfl _ _ rfl w.heap.size rfl _ _ _ _ J1.out.2 HU2.out.2 rfl HU2.out.1 ?_)
            refine (C2.out _ J1.out).mono ?_
            rintro e w2 ⟨rfl, hb⟩
            have J2 := Lib.hid (J1.out.kept hb)
            clear hb
            go_wp2_with fail
            refine (X1.out _ _ J2.out (by simp)).mono ?_
            rintro e w3 ⟨rfl, hb⟩
            have J3 := J2.out.kept hb
            have hq := hp_new w3 (.cells #[.bool o1h, .string ⟨o1v.toArray⟩, .string ⟨o1e.toArray⟩, .string ⟨o1a.toArray⟩] 53)
            have J4 : Hid (QK w3.heap.size #[.bool o1h, .string ⟨o1v.toArray⟩, .string ⟨o1e.toArray⟩, .string ⟨o1a.toArray⟩] #[.bool true, .string ⟨dv.toArray⟩, .string ⟨de.toArray⟩, .string ⟨da.toArray⟩] w (w3.alloc (.cells #[.bool o1h, .string ⟨o1v.toArray⟩, .string ⟨o1e.toArray⟩, .string ⟨o1a.toArray⟩] 53))) := Lib.hid ⟨J3.kept ((Below.refl _ w3).alloc (Nat.le_refl _) _), hq, lt_of J3.2⟩
            clear hb J3 hq
            have z0 := cell_of 0 J4.out.1.2
            have z1 := cell_of 1 J4.out.1.2
            have z2 := cell_of 2 J4.out.1.2
            have z3 := cell_of 3 J4.out.1.2
            have x0 := cell_of 0 J4.out.2.1
            have x1 := cell_of 1 J4.out.2.1
            have x2 := cell_of 2 J4.out.2.1
            have x3 := cell_of 3 J4.out.2.1
            go_wp2_with fail
            clear z0 z1 z2 z3 x0 x1 x2 x3
            refine (X2.out _ _ J4.out.1 (by simp)).mono ?_
            rintro e w6 ⟨rfl, hb⟩
            have J6 := Lib.hid (J4.out.kept hb)
            clear hb cv
            have J7 := Lib.hid (J6.out.row #[.bool true, .string ⟨dv.toArray⟩, .string ⟨de.toArray⟩, .string ⟨da.toArray⟩])
            have z0 := cell_of 0 J7.out.1.2
            have z1 := cell_of 1 J7.out.1.2
            have z2 := cell_of 2 J7.out.1.2
            have z3 := cell_of 3 J7.out.1.2
            have x0 := cell_of 0 J7.out.2.1
            have x1 := cell_of 1 J7.out.2.1
            have x2 := cell_of 2 J7.out.2.1
            have x3 := cell_of 3 J7.out.2.1
            go_upto_region 13 with (refine wpList_store_row rfl _ _ _ rfl w3.heap.size #[.bool true, .string ⟨dv.toArray⟩, .string ⟨de.toArray⟩, .string ⟨da.toArray⟩] rfl rfl _ _ J6.out.2.1 (by kernel_rfl) rfl (by kernel_rfl) ?_)
            go_wp2_with fail
            refine (same9_c true dv de da _).mono ?_
            rintro e w8 ⟨rfl, hb⟩
            have J8 := Lib.hid (J7.out.kept hb)
            clear hb z0 z1 z2 z3 x0 x1 x2 x3
            go_wp2_with fail
            refine (LV.out _ J8.out.1.1).mono ?_
            rintro e w9 ⟨rfl, hb⟩
            have B9 := Lib.hid (J8.out.kept hb).1.1
            clear hb
            go_wp2
            go_ret
            exact ⟨rfl, B9.out⟩
          · have hdummy := True.intro
            clear D1 D2 hdummy
            go_enter Tryd.func8, Tryd.ntmps8
            go_wp2_with fail
            refine (C1.out _ J0.out).mono ?_
            rintro e w1 ⟨rfl, hb⟩
            have J1 := Lib.hid (J0.out.kept hb)
            clear hb
            go_wp2_with (refine wpList_load_row rfl _ _ rfl w.heap.size rfl _ _ _ _ J1.out.2 HU2.out.2 rfl HU2.out.1 ?_)
            refine (C2.out _ J1.out).mono ?_
            rintro e w2 ⟨rfl, hb⟩
            have J2 := Lib.hid (J1.out.kept hb)
            clear hb
            go_wp2_with fail
            refine (X1.out _ _ J2.out (by simp)).mono ?_
            rintro e w3 ⟨rfl, hb⟩
            have J3 := J2.out.kept hb
            have hq := hp_new w3 (.cells #[.bool o1h, .string ⟨o1v.toArray⟩, .string ⟨o1e.toArray⟩, .string ⟨o1a.toArray⟩] 53)
            have J4 : Hid (QK w3.heap.size #[.bool o1h, .string ⟨o1v.toArray⟩, .string ⟨o1e.toArray⟩, .string ⟨o1a.toArray⟩] #[.bool true, .string ⟨dv.toArray⟩, .string ⟨de.toArray⟩, .string ⟨da.toArray⟩] w (w3.alloc (.cells #[.bool o1h, .string ⟨o1v.toArray⟩, .string ⟨o1e.toArray⟩, .string ⟨o1a.toArray⟩] 53))) := Lib.hid ⟨J3.kept ((Below.refl _ w3).alloc (Nat.le_refl _) _), hq, lt_of J3.2⟩
            clear hb J3 hq
            have z0 := cell_of 0 J4.out.1.2
            have z1 := cell_of 1 J4.out.1.2
            have z2 := cell_of 2 J4.out.1.2
            have z3 := cell_of 3 J4.out.1.2
            have x0 := cell_of 0 J4.out.2.1
            have x1 := cell_of 1 J4.out.2.1
            have x2 := cell_of 2 J4.out.2.1
            have x3 := cell_of 3 J4.out.2.1
            go_wp2_with fail
            clear z0 z1 z2 z3 x0 x1 x2 x3
            refine (X2.out _ _ J4.out.1 (by simp)).mono ?_
            rintro e w6 ⟨rfl, hb⟩
            have J6 := Lib.hid (J4.out.kept hb)
            clear hb cv
            have J7 := Lib.hid (J6.out.row #[.bool o2h, .string ⟨o2v.toArray⟩, .string ⟨o2e.toArray⟩, .string ⟨o2a.toArray⟩])
            have z0 := cell_of 0 J7.out.1.2
            have z1 := cell_of 1 J7.out.1.2
            have z2 := cell_of 2 J7.out.1.2
            have z3 := cell_of 3 J7.out.1.2
            have x0 := cell_of 0 J7.out.2.1
            have x1 := cell_of 1 J7.out.2.1
            have x2 := cell_of 2 J7.out.2.1
            have x3 := cell_of 3 J7.out.2.1
            go_upto_region 13 with (refine wpList_store_row rfl _ _ _ rfl w3.heap.size #[.bool o2h, .string ⟨o2v.toArray⟩, .string ⟨o2e.toArray⟩, .string ⟨o2a.toArray⟩] rfl rfl _ _ J6.out.2.1 (by kernel_rfl) rfl (by kernel_rfl) ?_)
            go_wp2_with fail
            refine (LV.out _ J7.out.1.1).mono ?_
            rintro e w9 ⟨rfl, hb⟩
            have B9 := Lib.hid (J7.out.kept hb).1.1
            clear hb
            clear z0 z1 z2 z3 x0 x1 x2 x3
            go_wp2
            go_ret
            exact ⟨rfl, B9.out⟩
      · have h3' : (100 : Int) < (da.length : Int) := by omega
        clear hT
        go_enter Tryd.func8, Tryd.ntmps8
        go_wp2_with fail
        refine (LV.out _ J0.out.1).mono ?_
        rintro e w3 ⟨rfl, hb⟩
        have B3 := Lib.hid (J0.out.kept hb).1
        clear hb
        go_wp2
        go_ret
        exact ⟨rfl, B3.out⟩
    · have h2' : (100 : Int) < (de.length : Int) := by omega
      clear hT
      go_enter Tryd.func8, Tryd.ntmps8
      go_wp2_with fail
      refine (LV.out _ J0.out.1).mono ?_
      rintro e w3 ⟨rfl, hb⟩
      have B3 := Lib.hid (J0.out.kept hb).1
      clear hb
      go_wp2
      go_ret
      exact ⟨rfl, B3.out⟩
  · have h1' : (100 : Int) < (dv.length : Int) := by omega
    clear hT
    go_enter Tryd.func8, Tryd.ntmps8
    go_wp2_with fail
    refine (LV.out _ J0.out.1).mono ?_
    rintro e w3 ⟨rfl, hb⟩
    have B3 := Lib.hid (J0.out.kept hb).1
    clear hb
    go_wp2
    go_ret
    exact ⟨rfl, B3.out⟩
end Go.Proofs.YtcpljjajobfkkaaDoor
