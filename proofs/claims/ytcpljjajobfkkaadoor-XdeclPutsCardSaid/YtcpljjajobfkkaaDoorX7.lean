/- narthex/xdecl.Put of what has no version. -/
import Derived.Test.YtcpljjajobfkkaaDoorRows
import Derived.WalkKit
import Derived.ProofKit
import Derived.OpenShut
import Derived.ShutString
import Derived.ChangeOld
import Derived.Below
import Derived.BigQuiet
import Derived.Deep.QuietTactic
import Derived.Lib.Hide
import Derived.Deep.RegionHeld3
import Derived.Lib.SlBytesConst
import Derived.Laws.CopyOwn
import Derived.Laws.CopyRow
import Derived.Lib.Bytes
import Derived.Deep.LoopGhost
import Derived.Deep.DeepFit
import Derived.Deep.DeepMust
import Derived.WalkSpells
import Derived.WalkLawsBesides
import Derived.Laws.EntriesVeiled
import Derived.Laws.Rows
import Derived.Deep.RegionWith
import Derived.Deep.CutRange
import Derived.Test.YtcpljjajobfkkaaDoorBase
import Derived.Test.YtcpljjajobfkkaaDoorShelf
import Derived.Test.YtcpljjajobfkkaaDoorCharPlain
import Derived.Test.YtcpljjajobfkkaaDoorBuild
import Derived.Test.YtcpljjajobfkkaaDoorX5
import Derived.Test.YtcpljjajobfkkaaDoorStr
import Derived.Test.YtcpljjajobfkkaaDoorPfx
import Derived.Test.YtcpljjajobfkkaaDoorLitP
import Derived.Test.YtcpljjajobfkkaaDoorLit1
import Derived.Test.YtcpljjajobfkkaaDoorPub
import Derived.Test.YtcpljjajobfkkaaDoorBlank
import Derived.Test.YtcpljjajobfkkaaDoorLibB
import Derived.Test.YtcpljjajobfkkaaDoorMiscP
import Derived.Test.YtcpljjajobfkkaaDoorMisc1
import Derived.Test.YtcpljjajobfkkaaDoorX1
import Derived.Test.YtcpljjajobfkkaaDoorBits
namespace Go.Proofs.YtcpljjajobfkkaaDoor
open Go.ChangeShapes Go.WideShapes Go.ChangeAt Go.RowKit
set_option linter.unusedVariables false
set_option maxRecDepth 100000 in
set_option maxHeartbeats 16000000 in
theorem xdPut_hasE (de da : List UInt8) (w : World) (hT : FoldT w) (h2 : de.length ≤ 1000) (h3 : da.length ≤ 1000) (hcs : ¬ de = []) :
    Calls Tryd.prog 29 #[.agg #[.bool true, .string ⟨#[]⟩, .string ⟨de.toArray⟩, .string ⟨da.toArray⟩]] w fun e w' => PP (putDeclOut ⟨true, [], de, da⟩) w e w' := by
  have hi : (Tryd.prog.info? 53).map (·.size) = some 4 := by kernel_rfl
  obtain ⟨d, hu⟩ := isStruct_of (P := Tryd.prog) (t := 53) (by kernel_rfl)
  have HU := Lib.hid (And.intro hi hu)
  clear hi hu
  have HD := Lib.hid (hp_new w (.cells #[.bool true, .string ⟨#[]⟩, .string ⟨de.toArray⟩, .string ⟨da.toArray⟩] 53))
  have h1 : ([] : List UInt8).length ≤ 1000 := by simp
  have hLn := Lib.hid (And.intro h2 h3)
  have HTW : Hid (∀ W, (∃ vs pa pb T, PU vs pa pb T w W) → FoldT W) := Lib.hid fun W ⟨_, _, _, _, h⟩ => hT.below h.1 hT.lt
  have HNE : Hid (¬ ((⟨true, [], de, da⟩ : DeclL).ver = [] ∧ (⟨true, [], de, da⟩ : DeclL).enc = [])) := Lib.hid (fun h => hcs h.2)
  generalize hT0 : ([60, 63, 120, 109, 108] : List UInt8) = T0
  generalize hT1 : T0 ++ partsT verW [] = T1
  generalize hT2 : T1 ++ partsT encW de = T2
  generalize hT3 : T2 ++ partsT aloneW da = T3
  have HT1 := Lib.hid hT1.symm
  have HT2 := Lib.hid hT2.symm
  have HT3 := Lib.hid hT3.symm
  have HGd : Hid (mayPut ⟨true, [], de, da⟩ = true → putDeclOut ⟨true, [], de, da⟩ = (T3 ++ [63, 62], 0)) := Lib.hid fun hmp => by
    rw [putDecl_good ⟨rfl, HNE.out, hmp⟩, ← hT3, ← hT2, ← hT1, ← hT0]; rfl
  have HTd : Hid (declT ⟨true, [], de, da⟩ = T3 ++ [63, 62]) := Lib.hid (by rw [← hT3, ← hT2, ← hT1, ← hT0]; rfl)
  have hp : ∀ word v : List UInt8, word.length ≤ 100 → v.length ≤ 1000 → (partsT word v).length ≤ 1200 := fun word v hw hv => by
    unfold partsT partT
    split
    · simp
    · simp; omega
  have a0 : T0.length = 5 := by rw [← hT0]; rfl
  have a1 : T1.length ≤ 1300 := by rw [← hT1, List.length_append]; have := hp verW [] (by decide) h1; omega
  have a2 : T2.length ≤ 2600 := by rw [← hT2, List.length_append]; have := hp encW de (by decide) h2; omega
  have a3 : T3.length ≤ 3900 := by rw [← hT3, List.length_append]; have := hp aloneW da (by decide) h3; omega
  have HL0 := Lib.hid a0
  have HL1 := Lib.hid a1
  have HL2 := Lib.hid a2
  have HL3 := Lib.hid a3
  have pE : ∀ w : World, (Op.stringOp .add ⟨T3.toArray⟩ ⟨#[63, 62]⟩).run Tryd.prog w = .ok (.string ⟨(T3 ++ [63, 62]).toArray⟩) w := fun w => run_sop (w := w) T3 [63, 62] (by simp only [List.length_cons, List.length_nil]; omega)
  have C0 : Hid (Calls Tryd.prog 41 #[.pointer (some ⟨w.heap.size + 1, 0, none⟩), .string ⟨#[60, 63, 120, 109, 108]⟩] ((w.alloc (.cells #[.bool true, .string ⟨#[]⟩, .string ⟨de.toArray⟩, .string ⟨da.toArray⟩] 53)).alloc (.cells #[.pointer none, .slice none 0 0] 78)) fun e w' => (∃ k : Nat, e = .returned (.tuple #[.int .i64 (k : Int), .nilIface])) ∧ Below w.heap.size w w' ∧ w'.heap[w.heap.size]? = some (.cells #[.bool true, .string ⟨#[]⟩, .string ⟨de.toArray⟩, .string ⟨da.toArray⟩] 53) ∧ Bld (w.heap.size + 1 + 1) (w.heap.size + 1) T0 w') := Lib.hid (by
    have b1 := (Below.refl w.heap.size w).alloc (Nat.le_refl _) (.cells #[.bool true, .string ⟨#[]⟩, .string ⟨de.toArray⟩, .string ⟨da.toArray⟩] 53)
    have b2 := b1.alloc b1.size (.cells #[.pointer none, .slice none 0 0] 78)
    have hf := Bld.fresh (w.heap.size + 1 + 1) (w.alloc (.cells #[.bool true, .string ⟨#[]⟩, .string ⟨de.toArray⟩, .string ⟨da.toArray⟩] 53)) (by simp)
    rw [World.size_alloc] at hf
    have hd : ((w.alloc (.cells #[.bool true, .string ⟨#[]⟩, .string ⟨de.toArray⟩, .string ⟨da.toArray⟩] 53)).alloc (.cells #[.pointer none, .slice none 0 0] 78)).heap[w.heap.size]? = some (.cells #[.bool true, .string ⟨#[]⟩, .string ⟨de.toArray⟩, .string ⟨da.toArray⟩] 53) := hp_old HD.out
    refine (writeString_k (w.heap.size + 1) [] [60, 63, 120, 109, 108] _ hf (by simp)).mono fun e w' ⟨he, k1, k2, k3⟩ => ⟨⟨_, he⟩, b2.trans (k2.below (by omega) (by omega)), ?_, ?_⟩
    · rw [k2.block _ (by omega) (by omega)]; exact hd
    · rw [← hT0]; exact k1)
  clear hT hT0 hT1 hT2 hT3 hp a0 a1 a2 a3 h1 h2 h3
  have HDo := HD.out
  go_enter Tryd.func29, Tryd.ntmps29
  go_wp2_with (refine wpList_load_row rfl _ _ rfl w.heap.size rfl _ _ _ _ HD.out HU.out.2 rfl HU.out.1 ?_)
  refine C0.out.mono ?_
  rintro e w2 ⟨⟨k0, rfl⟩, q1, q2, q3⟩
  clear hcs
  clear HDo
  have HPB := Lib.hid (show w.heap.size + 1 < w2.heap.size from q3.lt)
  obtain ⟨pb, hpbe⟩ : ∃ pb, pb = w2.heap.size := ⟨_, rfl⟩
  have J0 : Hid (PU #[.bool true, .string ⟨#[]⟩, .string ⟨de.toArray⟩, .string ⟨da.toArray⟩] #[.string ⟨#[118, 101, 114, 115, 105, 111, 110]⟩, .func (.func 47) #[] #[], .pointer (some ⟨w.heap.size, 1, none⟩), .bool true, .string ⟨#[101, 110, 99, 111, 100, 105, 110, 103]⟩, .func (.func 48) #[] #[], .pointer (some ⟨w.heap.size, 2, none⟩), .bool true, .string ⟨#[115, 116, 97, 110, 100, 97, 108, 111, 110, 101]⟩, .func (.func 49) #[] #[], .pointer (some ⟨w.heap.size, 3, none⟩), .bool true] pb T0 w (w2.alloc (.cells #[.string ⟨#[118, 101, 114, 115, 105, 111, 110]⟩, .func (.func 47) #[] #[], .pointer (some ⟨w.heap.size, 1, none⟩), .bool true, .string ⟨#[101, 110, 99, 111, 100, 105, 110, 103]⟩, .func (.func 48) #[] #[], .pointer (some ⟨w.heap.size, 2, none⟩), .bool true, .string ⟨#[115, 116, 97, 110, 100, 97, 108, 111, 110, 101]⟩, .func (.func 49) #[] #[], .pointer (some ⟨w.heap.size, 3, none⟩), .bool true] 93))) := Lib.hid (by
    have hh : PU #[.bool true, .string ⟨#[]⟩, .string ⟨de.toArray⟩, .string ⟨da.toArray⟩] #[.string ⟨#[118, 101, 114, 115, 105, 111, 110]⟩, .func (.func 47) #[] #[], .pointer (some ⟨w.heap.size, 1, none⟩), .bool true, .string ⟨#[101, 110, 99, 111, 100, 105, 110, 103]⟩, .func (.func 48) #[] #[], .pointer (some ⟨w.heap.size, 2, none⟩), .bool true, .string ⟨#[115, 116, 97, 110, 100, 97, 108, 111, 110, 101]⟩, .func (.func 49) #[] #[], .pointer (some ⟨w.heap.size, 3, none⟩), .bool true] w2.heap.size T0 w (w2.alloc (.cells #[.string ⟨#[118, 101, 114, 115, 105, 111, 110]⟩, .func (.func 47) #[] #[], .pointer (some ⟨w.heap.size, 1, none⟩), .bool true, .string ⟨#[101, 110, 99, 111, 100, 105, 110, 103]⟩, .func (.func 48) #[] #[], .pointer (some ⟨w.heap.size, 2, none⟩), .bool true, .string ⟨#[115, 116, 97, 110, 100, 97, 108, 111, 110, 101]⟩, .func (.func 49) #[] #[], .pointer (some ⟨w.heap.size, 3, none⟩), .bool true] 93)) := ⟨q1.alloc q1.size _, hp_old q2, q3.alloc _, hp_new _ _⟩
    rw [hpbe]; exact hh)
  clear q1 q2 q3
  rw [← hpbe] at HPB
  go_wp2_with fail
  rw [← hpbe]
  clear hpbe
  generalize w2.alloc (.cells #[.string ⟨#[118, 101, 114, 115, 105, 111, 110]⟩, .func (.func 47) #[] #[], .pointer (some ⟨w.heap.size, 1, none⟩), .bool true, .string ⟨#[101, 110, 99, 111, 100, 105, 110, 103]⟩, .func (.func 48) #[] #[], .pointer (some ⟨w.heap.size, 2, none⟩), .bool true, .string ⟨#[115, 116, 97, 110, 100, 97, 108, 111, 110, 101]⟩, .func (.func 49) #[] #[], .pointer (some ⟨w.heap.size, 3, none⟩), .bool true] 93) = w3 at *
  go_loopg [26] (3) (fun g i wr => (Hid (g = 3) ∧ i = .int .i64 0 ∧ Hid (PU #[.bool true, .string ⟨#[]⟩, .string ⟨de.toArray⟩, .string ⟨da.toArray⟩] #[.string ⟨#[118, 101, 114, 115, 105, 111, 110]⟩, .func (.func 47) #[] #[], .pointer (some ⟨w.heap.size, 1, none⟩), .bool true, .string ⟨#[101, 110, 99, 111, 100, 105, 110, 103]⟩, .func (.func 48) #[] #[], .pointer (some ⟨w.heap.size, 2, none⟩), .bool true, .string ⟨#[115, 116, 97, 110, 100, 97, 108, 111, 110, 101]⟩, .func (.func 49) #[] #[], .pointer (some ⟨w.heap.size, 3, none⟩), .bool true] pb T0 w wr)) ∨ (Hid (g = 2) ∧ i = .int .i64 1 ∧ Hid (mayV verB [] = true) ∧ Hid (PU #[.bool true, .string ⟨#[]⟩, .string ⟨de.toArray⟩, .string ⟨da.toArray⟩] #[.string ⟨#[118, 101, 114, 115, 105, 111, 110]⟩, .func (.func 47) #[] #[], .pointer (some ⟨w.heap.size, 1, none⟩), .bool true, .string ⟨#[101, 110, 99, 111, 100, 105, 110, 103]⟩, .func (.func 48) #[] #[], .pointer (some ⟨w.heap.size, 2, none⟩), .bool true, .string ⟨#[115, 116, 97, 110, 100, 97, 108, 111, 110, 101]⟩, .func (.func 49) #[] #[], .pointer (some ⟨w.heap.size, 3, none⟩), .bool true] pb T1 w wr)) ∨ (Hid (g = 1) ∧ i = .int .i64 2 ∧ Hid (mayV verB [] = true ∧ mayV encB de = true) ∧ Hid (PU #[.bool true, .string ⟨#[]⟩, .string ⟨de.toArray⟩, .string ⟨da.toArray⟩] #[.string ⟨#[118, 101, 114, 115, 105, 111, 110]⟩, .func (.func 47) #[] #[], .pointer (some ⟨w.heap.size, 1, none⟩), .bool true, .string ⟨#[101, 110, 99, 111, 100, 105, 110, 103]⟩, .func (.func 48) #[] #[], .pointer (some ⟨w.heap.size, 2, none⟩), .bool true, .string ⟨#[115, 116, 97, 110, 100, 97, 108, 111, 110, 101]⟩, .func (.func 49) #[] #[], .pointer (some ⟨w.heap.size, 3, none⟩), .bool true] pb T2 w wr)) ∨ (Hid (g = 0) ∧ i = .int .i64 3 ∧ Hid (mayV verB [] = true ∧ mayV encB de = true ∧ mayV aloneB da = true) ∧ Hid (PU #[.bool true, .string ⟨#[]⟩, .string ⟨de.toArray⟩, .string ⟨da.toArray⟩] #[.string ⟨#[118, 101, 114, 115, 105, 111, 110]⟩, .func (.func 47) #[] #[], .pointer (some ⟨w.heap.size, 1, none⟩), .bool true, .string ⟨#[101, 110, 99, 111, 100, 105, 110, 103]⟩, .func (.func 48) #[] #[], .pointer (some ⟨w.heap.size, 2, none⟩), .bool true, .string ⟨#[115, 116, 97, 110, 100, 97, 108, 111, 110, 101]⟩, .func (.func 49) #[] #[], .pointer (some ⟨w.heap.size, 3, none⟩), .bool true] pb T3 w wr)))
  case atStart => exact Or.inl ⟨Lib.hid rfl, rfl, J0⟩
  case round =>
    rcases hrel with ⟨hg, rfl, HJ⟩ | ⟨hg, rfl, HO, HJ⟩ | ⟨hg, rfl, HO, HJ⟩ | ⟨hg, rfl, HO, HJ⟩
    · have hpb := HJ.out.2.2.2
      have x0 := cell_of 0 hpb
      have x1 := cell_of 1 hpb
      have x2 := cell_of 2 hpb
      have x3 := cell_of 3 hpb
      have hq := hp_new wr (.cells #[.string ⟨#[118, 101, 114, 115, 105, 111, 110]⟩, .func (.func 47) #[] #[], .pointer (some ⟨w.heap.size, 1, none⟩), .bool true] 93)
      have J2 : Hid (PV #[.bool true, .string ⟨#[]⟩, .string ⟨de.toArray⟩, .string ⟨da.toArray⟩] #[.string ⟨#[118, 101, 114, 115, 105, 111, 110]⟩, .func (.func 47) #[] #[], .pointer (some ⟨w.heap.size, 1, none⟩), .bool true, .string ⟨#[101, 110, 99, 111, 100, 105, 110, 103]⟩, .func (.func 48) #[] #[], .pointer (some ⟨w.heap.size, 2, none⟩), .bool true, .string ⟨#[115, 116, 97, 110, 100, 97, 108, 111, 110, 101]⟩, .func (.func 49) #[] #[], .pointer (some ⟨w.heap.size, 3, none⟩), .bool true] #[.string ⟨#[118, 101, 114, 115, 105, 111, 110]⟩, .func (.func 47) #[] #[], .pointer (some ⟨w.heap.size, 1, none⟩), .bool true] pb wr.heap.size T0 w (wr.alloc (.cells #[.string ⟨#[118, 101, 114, 115, 105, 111, 110]⟩, .func (.func 47) #[] #[], .pointer (some ⟨w.heap.size, 1, none⟩), .bool true] 93))) := Lib.hid ⟨HJ.out.kept ((Below.refl _ wr).alloc (Nat.le_refl _) _), hq⟩
      have zv := cell_of 1 J2.out.1.2.1
      clear hpb hq
      have HT : Hid (T0 = T1) := Lib.hid (by rw [HT1.out, partsT_nil verW rfl, List.append_nil])
      have J3 := Lib.hid J2.out.1
      clear J2
      go_wp2
      go_roundg (3 - 1)
      case measure => have := hg.out; omega
      case rel => exact Or.inr (Or.inl ⟨Lib.hid rfl, rfl, Lib.hid (mayV_nil verB rfl), HT.out ▸ J3⟩)
    · have hpb := HJ.out.2.2.2
      have x0 := cell_of 4 hpb
      have x1 := cell_of 5 hpb
      have x2 := cell_of 6 hpb
      have x3 := cell_of 7 hpb
      have hq := hp_new wr (.cells #[.string ⟨#[101, 110, 99, 111, 100, 105, 110, 103]⟩, .func (.func 48) #[] #[], .pointer (some ⟨w.heap.size, 2, none⟩), .bool true] 93)
      have J2 : Hid (PV #[.bool true, .string ⟨#[]⟩, .string ⟨de.toArray⟩, .string ⟨da.toArray⟩] #[.string ⟨#[118, 101, 114, 115, 105, 111, 110]⟩, .func (.func 47) #[] #[], .pointer (some ⟨w.heap.size, 1, none⟩), .bool true, .string ⟨#[101, 110, 99, 111, 100, 105, 110, 103]⟩, .func (.func 48) #[] #[], .pointer (some ⟨w.heap.size, 2, none⟩), .bool true, .string ⟨#[115, 116, 97, 110, 100, 97, 108, 111, 110, 101]⟩, .func (.func 49) #[] #[], .pointer (some ⟨w.heap.size, 3, none⟩), .bool true] #[.string ⟨#[101, 110, 99, 111, 100, 105, 110, 103]⟩, .func (.func 48) #[] #[], .pointer (some ⟨w.heap.size, 2, none⟩), .bool true] pb wr.heap.size T1 w (wr.alloc (.cells #[.string ⟨#[101, 110, 99, 111, 100, 105, 110, 103]⟩, .func (.func 48) #[] #[], .pointer (some ⟨w.heap.size, 2, none⟩), .bool true] 93))) := Lib.hid ⟨HJ.out.kept ((Below.refl _ wr).alloc (Nat.le_refl _) _), hq⟩
      have zv := cell_of 2 J2.out.1.2.1
      clear hpb hq
      by_cases hv : de = []
      · have HT : Hid (T1 = T2) := Lib.hid (by rw [HT2.out, partsT_nil encW hv, List.append_nil])
        have hE : de.isEmpty = true := by rw [hv]; rfl
        have HV := Lib.hid hv
        clear hv
        have J3 := Lib.hid J2.out.1
        clear J2
        go_wp2
        go_roundg (3 - 2)
        case measure => have := hg.out; omega
        case rel => exact Or.inr (Or.inr (Or.inl ⟨Lib.hid rfl, rfl, Lib.hid ⟨HO.out, mayV_nil encB HV.out⟩, HT.out ▸ J3⟩))
      · have hE : de.isEmpty = false := by cases de with
          | nil => exact absurd rfl hv
          | cons a t => rfl
        have ec : ∀ args w, (callFunc 48 args).run Tryd.prog w = .ok (.enter 48 args) w := enters_of Tryd.func48 (by kernel_rfl) rfl
        have CM : Hid (∀ W, PV #[.bool true, .string ⟨#[]⟩, .string ⟨de.toArray⟩, .string ⟨da.toArray⟩] #[.string ⟨#[118, 101, 114, 115, 105, 111, 110]⟩, .func (.func 47) #[] #[], .pointer (some ⟨w.heap.size, 1, none⟩), .bool true, .string ⟨#[101, 110, 99, 111, 100, 105, 110, 103]⟩, .func (.func 48) #[] #[], .pointer (some ⟨w.heap.size, 2, none⟩), .bool true, .string ⟨#[115, 116, 97, 110, 100, 97, 108, 111, 110, 101]⟩, .func (.func 49) #[] #[], .pointer (some ⟨w.heap.size, 3, none⟩), .bool true] #[.string ⟨#[101, 110, 99, 111, 100, 105, 110, 103]⟩, .func (.func 48) #[] #[], .pointer (some ⟨w.heap.size, 2, none⟩), .bool true] pb wr.heap.size T1 w W → Calls Tryd.prog 48 #[.string ⟨de.toArray⟩] W fun e w' => e = .returned (.bool (encB de)) ∧ w'.cell? ⟨wr.heap.size, 0, none⟩ = some (.string ⟨#[101, 110, 99, 111, 100, 105, 110, 103]⟩) ∧ w'.cell? ⟨wr.heap.size, 2, none⟩ = some (.pointer (some ⟨w.heap.size, 2, none⟩)) ∧ w'.cell? ⟨w.heap.size, 2, none⟩ = some (.string ⟨de.toArray⟩) ∧ Hid (PV #[.bool true, .string ⟨#[]⟩, .string ⟨de.toArray⟩, .string ⟨da.toArray⟩] #[.string ⟨#[118, 101, 114, 115, 105, 111, 110]⟩, .func (.func 47) #[] #[], .pointer (some ⟨w.heap.size, 1, none⟩), .bool true, .string ⟨#[101, 110, 99, 111, 100, 105, 110, 103]⟩, .func (.func 48) #[] #[], .pointer (some ⟨w.heap.size, 2, none⟩), .bool true, .string ⟨#[115, 116, 97, 110, 100, 97, 108, 111, 110, 101]⟩, .func (.func 49) #[] #[], .pointer (some ⟨w.heap.size, 3, none⟩), .bool true] #[.string ⟨#[101, 110, 99, 111, 100, 105, 110, 103]⟩, .func (.func 48) #[] #[], .pointer (some ⟨w.heap.size, 2, none⟩), .bool true] pb wr.heap.size T1 w w')) := Lib.hid fun W hJ => by
          have hh : Calls Tryd.prog 48 #[.string ⟨de.toArray⟩] W fun e w' => e = .returned (.bool (encB de)) ∧ PV #[.bool true, .string ⟨#[]⟩, .string ⟨de.toArray⟩, .string ⟨da.toArray⟩] #[.string ⟨#[118, 101, 114, 115, 105, 111, 110]⟩, .func (.func 47) #[] #[], .pointer (some ⟨w.heap.size, 1, none⟩), .bool true, .string ⟨#[101, 110, 99, 111, 100, 105, 110, 103]⟩, .func (.func 48) #[] #[], .pointer (some ⟨w.heap.size, 2, none⟩), .bool true, .string ⟨#[115, 116, 97, 110, 100, 97, 108, 111, 110, 101]⟩, .func (.func 49) #[] #[], .pointer (some ⟨w.heap.size, 3, none⟩), .bool true] #[.string ⟨#[101, 110, 99, 111, 100, 105, 110, 103]⟩, .func (.func 48) #[] #[], .pointer (some ⟨w.heap.size, 2, none⟩), .bool true] pb wr.heap.size T1 w w' := (encoding_c de W (HTW.out W ⟨_, _, _, _, hJ.1⟩)).mono fun e w' ⟨he, hb⟩ => ⟨he, hJ.kept hb⟩
          exact hh.mono fun e w' ⟨he, hp⟩ => ⟨he, by rw [cell_of 0 hp.2]; rfl, by rw [cell_of 2 hp.2]; rfl, by rw [cell_of 2 hp.1.2.1]; rfl, Lib.hid hp⟩
        cases hmy : encB de with
        | false =>
          rw [hmy] at CM
          have HB : Hid (putDeclOut ⟨true, [], de, da⟩ = ([], 7)) := Lib.hid (putDecl_bad (fun h => by have := h.2.2; unfold mayPut at this; rw [show mayV encB de = false from mayV_no hmy hv, Bool.and_false, Bool.false_and] at this; cases this))
          clear hmy hv
          go_upto_region 10 with fail
          go_cut [26, 47] from 26 to 56 (fun i c wx => i = .int .i64 1 ∧ c = .bool true ∧ Hid (PV #[.bool true, .string ⟨#[]⟩, .string ⟨de.toArray⟩, .string ⟨da.toArray⟩] #[.string ⟨#[118, 101, 114, 115, 105, 111, 110]⟩, .func (.func 47) #[] #[], .pointer (some ⟨w.heap.size, 1, none⟩), .bool true, .string ⟨#[101, 110, 99, 111, 100, 105, 110, 103]⟩, .func (.func 48) #[] #[], .pointer (some ⟨w.heap.size, 2, none⟩), .bool true, .string ⟨#[115, 116, 97, 110, 100, 97, 108, 111, 110, 101]⟩, .func (.func 49) #[] #[], .pointer (some ⟨w.heap.size, 3, none⟩), .bool true] #[.string ⟨#[101, 110, 99, 111, 100, 105, 110, 103]⟩, .func (.func 48) #[] #[], .pointer (some ⟨w.heap.size, 2, none⟩), .bool true] pb wr.heap.size T1 w wx))
          case first =>
            go_region_with (first | (go_at_call 48; refine (CM.out _ (by first | exact J2.out | exact J2.out.drew | exact J2.out.drew.drew | exact J2.out.drew.drew.drew | exact J2.out.drew.drew.drew.drew | exact J2.out.drew.drew.drew.drew.drew)).mono ?_; rintro e w4 ⟨rfl, y0, y2, y3, J4⟩))
            all_goals
              go_wp2_with fail
              go_meet
              exact ⟨rfl, rfl, J4⟩
          case rest =>
            obtain ⟨rfl, rfl, J4⟩ := hcut
            clear x0 x1 x2 x3 zv
            go_wp2
            go_ret2
            exact PP.bad HB.out rfl J4.out.1.1
        | true =>
          rw [hmy] at CM
          have HT : Hid (T1 ++ ([32, 101, 110, 99, 111, 100, 105, 110, 103, 61, 34] ++ de ++ [34]) = T2) := Lib.hid (by rw [HT2.out, partsT_some encW hv]; rfl)
          have HO2 : Hid (mayV verB [] = true ∧ mayV encB de = true) := Lib.hid ⟨HO.out, mayV_of hmy⟩
          have p1 : ∀ w : World, (Op.stringOp .add ⟨#[32]⟩ ⟨#[101, 110, 99, 111, 100, 105, 110, 103]⟩).run Tryd.prog w = .ok (.string ⟨#[32, 101, 110, 99, 111, 100, 105, 110, 103]⟩) w := fun w => run_sop (w := w) [32] [101, 110, 99, 111, 100, 105, 110, 103] (by decide)
          have p2 : ∀ w : World, (Op.stringOp .add ⟨#[32, 101, 110, 99, 111, 100, 105, 110, 103]⟩ ⟨#[61, 34]⟩).run Tryd.prog w = .ok (.string ⟨#[32, 101, 110, 99, 111, 100, 105, 110, 103, 61, 34]⟩) w := fun w => run_sop (w := w) [32, 101, 110, 99, 111, 100, 105, 110, 103] [61, 34] (by decide)
          have p3 : ∀ w : World, (Op.stringOp .add ⟨#[32, 101, 110, 99, 111, 100, 105, 110, 103, 61, 34]⟩ ⟨de.toArray⟩).run Tryd.prog w = .ok (.string ⟨([32, 101, 110, 99, 111, 100, 105, 110, 103, 61, 34] ++ de).toArray⟩) w := fun w => run_sop (w := w) [32, 101, 110, 99, 111, 100, 105, 110, 103, 61, 34] de (by simp only [List.length_cons, List.length_nil]; have := hLn.out; omega)
          have p4 : ∀ w : World, (Op.stringOp .add ⟨([32, 101, 110, 99, 111, 100, 105, 110, 103, 61, 34] ++ de).toArray⟩ ⟨#[34]⟩).run Tryd.prog w = .ok (.string ⟨([32, 101, 110, 99, 111, 100, 105, 110, 103, 61, 34] ++ de ++ [34]).toArray⟩) w := fun w => run_sop (w := w) ([32, 101, 110, 99, 111, 100, 105, 110, 103, 61, 34] ++ de) [34] (by simp only [List.length_append, List.length_cons, List.length_nil]; have := hLn.out; omega)
          have WS : Hid (∀ W, PV #[.bool true, .string ⟨#[]⟩, .string ⟨de.toArray⟩, .string ⟨da.toArray⟩] #[.string ⟨#[118, 101, 114, 115, 105, 111, 110]⟩, .func (.func 47) #[] #[], .pointer (some ⟨w.heap.size, 1, none⟩), .bool true, .string ⟨#[101, 110, 99, 111, 100, 105, 110, 103]⟩, .func (.func 48) #[] #[], .pointer (some ⟨w.heap.size, 2, none⟩), .bool true, .string ⟨#[115, 116, 97, 110, 100, 97, 108, 111, 110, 101]⟩, .func (.func 49) #[] #[], .pointer (some ⟨w.heap.size, 3, none⟩), .bool true] #[.string ⟨#[101, 110, 99, 111, 100, 105, 110, 103]⟩, .func (.func 48) #[] #[], .pointer (some ⟨w.heap.size, 2, none⟩), .bool true] pb wr.heap.size T1 w W → Calls Tryd.prog 41 #[.pointer (some ⟨w.heap.size + 1, 0, none⟩), .string ⟨([32, 101, 110, 99, 111, 100, 105, 110, 103, 61, 34] ++ de ++ [34]).toArray⟩] W fun e w' => (∃ k : Nat, e = .returned (.tuple #[.int .i64 (k : Int), .nilIface])) ∧ Hid (PU #[.bool true, .string ⟨#[]⟩, .string ⟨de.toArray⟩, .string ⟨da.toArray⟩] #[.string ⟨#[118, 101, 114, 115, 105, 111, 110]⟩, .func (.func 47) #[] #[], .pointer (some ⟨w.heap.size, 1, none⟩), .bool true, .string ⟨#[101, 110, 99, 111, 100, 105, 110, 103]⟩, .func (.func 48) #[] #[], .pointer (some ⟨w.heap.size, 2, none⟩), .bool true, .string ⟨#[115, 116, 97, 110, 100, 97, 108, 111, 110, 101]⟩, .func (.func 49) #[] #[], .pointer (some ⟨w.heap.size, 3, none⟩), .bool true] pb T2 w w')) := Lib.hid fun W hJ => by
            refine (writeString_k (w.heap.size + 1) T1 ([32, 101, 110, 99, 111, 100, 105, 110, 103, 61, 34] ++ de ++ [34]) W hJ.1.2.2.1 (by simp only [List.length_append, List.length_cons, List.length_nil]; have := hLn.out; have := HL1.out; omega)).mono fun e w' ⟨he, h1, h2, h3⟩ => ⟨⟨_, he⟩, Lib.hid (hJ.1.wrote HPB.out (HT.out ▸ h1) h2 h3)⟩
          generalize [32, 101, 110, 99, 111, 100, 105, 110, 103, 61, 34] ++ de ++ [34] = s4 at *
          generalize [32, 101, 110, 99, 111, 100, 105, 110, 103, 61, 34] ++ de = s3 at *
          clear hmy hv
          go_upto_region 10 with fail
          go_cut [26, 47] from 26 to 56 (fun i c wx => i = .int .i64 1 ∧ c = .bool false ∧ Hid (PV #[.bool true, .string ⟨#[]⟩, .string ⟨de.toArray⟩, .string ⟨da.toArray⟩] #[.string ⟨#[118, 101, 114, 115, 105, 111, 110]⟩, .func (.func 47) #[] #[], .pointer (some ⟨w.heap.size, 1, none⟩), .bool true, .string ⟨#[101, 110, 99, 111, 100, 105, 110, 103]⟩, .func (.func 48) #[] #[], .pointer (some ⟨w.heap.size, 2, none⟩), .bool true, .string ⟨#[115, 116, 97, 110, 100, 97, 108, 111, 110, 101]⟩, .func (.func 49) #[] #[], .pointer (some ⟨w.heap.size, 3, none⟩), .bool true] #[.string ⟨#[101, 110, 99, 111, 100, 105, 110, 103]⟩, .func (.func 48) #[] #[], .pointer (some ⟨w.heap.size, 2, none⟩), .bool true] pb wr.heap.size T1 w wx))
          case first =>
            go_region_with (first | (go_at_call 48; refine (CM.out _ (by first | exact J2.out | exact J2.out.drew | exact J2.out.drew.drew | exact J2.out.drew.drew.drew | exact J2.out.drew.drew.drew.drew | exact J2.out.drew.drew.drew.drew.drew)).mono ?_; rintro e w4 ⟨rfl, y0, y2, y3, J4⟩))
            all_goals
              go_wp2_with fail
              go_meet
              exact ⟨rfl, rfl, J4⟩
          case rest =>
            obtain ⟨rfl, rfl, J4⟩ := hcut
            clear x0 x1 x2 x3 zv CM
            have y0 := cell_of 0 J4.out.2
            have y2 := cell_of 2 J4.out.2
            have y3 := cell_of 2 J4.out.1.2.1
            go_upto_region 8 with fail
            go_region_with (first | (go_at_call 41; refine (WS.out _ (by first | exact J4.out | exact J4.out.drew | exact J4.out.drew.drew | exact J4.out.drew.drew.drew | exact J4.out.drew.drew.drew.drew | exact J4.out.drew.drew.drew.drew.drew)).mono ?_; rintro e w5 ⟨⟨k5, rfl⟩, J5⟩))
            all_goals
              clear y0 y2 y3
              go_wp2
              go_roundg (3 - 2)
              case measure => have := hg.out; omega
              case rel => exact Or.inr (Or.inr (Or.inl ⟨Lib.hid rfl, rfl, HO2, J5⟩))
    · have hpb := HJ.out.2.2.2
      have x0 := cell_of 8 hpb
      have x1 := cell_of 9 hpb
      have x2 := cell_of 10 hpb
      have x3 := cell_of 11 hpb
      have hq := hp_new wr (.cells #[.string ⟨#[115, 116, 97, 110, 100, 97, 108, 111, 110, 101]⟩, .func (.func 49) #[] #[], .pointer (some ⟨w.heap.size, 3, none⟩), .bool true] 93)
      have J2 : Hid (PV #[.bool true, .string ⟨#[]⟩, .string ⟨de.toArray⟩, .string ⟨da.toArray⟩] #[.string ⟨#[118, 101, 114, 115, 105, 111, 110]⟩, .func (.func 47) #[] #[], .pointer (some ⟨w.heap.size, 1, none⟩), .bool true, .string ⟨#[101, 110, 99, 111, 100, 105, 110, 103]⟩, .func (.func 48) #[] #[], .pointer (some ⟨w.heap.size, 2, none⟩), .bool true, .string ⟨#[115, 116, 97, 110, 100, 97, 108, 111, 110, 101]⟩, .func (.func 49) #[] #[], .pointer (some ⟨w.heap.size, 3, none⟩), .bool true] #[.string ⟨#[115, 116, 97, 110, 100, 97, 108, 111, 110, 101]⟩, .func (.func 49) #[] #[], .pointer (some ⟨w.heap.size, 3, none⟩), .bool true] pb wr.heap.size T2 w (wr.alloc (.cells #[.string ⟨#[115, 116, 97, 110, 100, 97, 108, 111, 110, 101]⟩, .func (.func 49) #[] #[], .pointer (some ⟨w.heap.size, 3, none⟩), .bool true] 93))) := Lib.hid ⟨HJ.out.kept ((Below.refl _ wr).alloc (Nat.le_refl _) _), hq⟩
      have zv := cell_of 3 J2.out.1.2.1
      clear hpb hq
      by_cases hv : da = []
      · have HT : Hid (T2 = T3) := Lib.hid (by rw [HT3.out, partsT_nil aloneW hv, List.append_nil])
        have hE : da.isEmpty = true := by rw [hv]; rfl
        have HV := Lib.hid hv
        clear hv
        have J3 := Lib.hid J2.out.1
        clear J2
        go_wp2
        go_roundg (3 - 3)
        case measure => have := hg.out; omega
        case rel => exact Or.inr (Or.inr (Or.inr ⟨Lib.hid rfl, rfl, Lib.hid ⟨HO.out.1, HO.out.2, mayV_nil aloneB HV.out⟩, HT.out ▸ J3⟩))
      · have hE : da.isEmpty = false := by cases da with
          | nil => exact absurd rfl hv
          | cons a t => rfl
        have ec : ∀ args w, (callFunc 49 args).run Tryd.prog w = .ok (.enter 49 args) w := enters_of Tryd.func49 (by kernel_rfl) rfl
        have CM : Hid (∀ W, PV #[.bool true, .string ⟨#[]⟩, .string ⟨de.toArray⟩, .string ⟨da.toArray⟩] #[.string ⟨#[118, 101, 114, 115, 105, 111, 110]⟩, .func (.func 47) #[] #[], .pointer (some ⟨w.heap.size, 1, none⟩), .bool true, .string ⟨#[101, 110, 99, 111, 100, 105, 110, 103]⟩, .func (.func 48) #[] #[], .pointer (some ⟨w.heap.size, 2, none⟩), .bool true, .string ⟨#[115, 116, 97, 110, 100, 97, 108, 111, 110, 101]⟩, .func (.func 49) #[] #[], .pointer (some ⟨w.heap.size, 3, none⟩), .bool true] #[.string ⟨#[115, 116, 97, 110, 100, 97, 108, 111, 110, 101]⟩, .func (.func 49) #[] #[], .pointer (some ⟨w.heap.size, 3, none⟩), .bool true] pb wr.heap.size T2 w W → Calls Tryd.prog 49 #[.string ⟨da.toArray⟩] W fun e w' => e = .returned (.bool (aloneB da)) ∧ w'.cell? ⟨wr.heap.size, 0, none⟩ = some (.string ⟨#[115, 116, 97, 110, 100, 97, 108, 111, 110, 101]⟩) ∧ w'.cell? ⟨wr.heap.size, 2, none⟩ = some (.pointer (some ⟨w.heap.size, 3, none⟩)) ∧ w'.cell? ⟨w.heap.size, 3, none⟩ = some (.string ⟨da.toArray⟩) ∧ Hid (PV #[.bool true, .string ⟨#[]⟩, .string ⟨de.toArray⟩, .string ⟨da.toArray⟩] #[.string ⟨#[118, 101, 114, 115, 105, 111, 110]⟩, .func (.func 47) #[] #[], .pointer (some ⟨w.heap.size, 1, none⟩), .bool true, .string ⟨#[101, 110, 99, 111, 100, 105, 110, 103]⟩, .func (.func 48) #[] #[], .pointer (some ⟨w.heap.size, 2, none⟩), .bool true, .string ⟨#[115, 116, 97, 110, 100, 97, 108, 111, 110, 101]⟩, .func (.func 49) #[] #[], .pointer (some ⟨w.heap.size, 3, none⟩), .bool true] #[.string ⟨#[115, 116, 97, 110, 100, 97, 108, 111, 110, 101]⟩, .func (.func 49) #[] #[], .pointer (some ⟨w.heap.size, 3, none⟩), .bool true] pb wr.heap.size T2 w w')) := Lib.hid fun W hJ => by
          have hh : Calls Tryd.prog 49 #[.string ⟨da.toArray⟩] W fun e w' => e = .returned (.bool (aloneB da)) ∧ PV #[.bool true, .string ⟨#[]⟩, .string ⟨de.toArray⟩, .string ⟨da.toArray⟩] #[.string ⟨#[118, 101, 114, 115, 105, 111, 110]⟩, .func (.func 47) #[] #[], .pointer (some ⟨w.heap.size, 1, none⟩), .bool true, .string ⟨#[101, 110, 99, 111, 100, 105, 110, 103]⟩, .func (.func 48) #[] #[], .pointer (some ⟨w.heap.size, 2, none⟩), .bool true, .string ⟨#[115, 116, 97, 110, 100, 97, 108, 111, 110, 101]⟩, .func (.func 49) #[] #[], .pointer (some ⟨w.heap.size, 3, none⟩), .bool true] #[.string ⟨#[115, 116, 97, 110, 100, 97, 108, 111, 110, 101]⟩, .func (.func 49) #[] #[], .pointer (some ⟨w.heap.size, 3, none⟩), .bool true] pb wr.heap.size T2 w w' := (alone_c da W).mono fun e w' ⟨he, hw⟩ => ⟨he, hw ▸ hJ⟩
          exact hh.mono fun e w' ⟨he, hp⟩ => ⟨he, by rw [cell_of 0 hp.2]; rfl, by rw [cell_of 2 hp.2]; rfl, by rw [cell_of 3 hp.1.2.1]; rfl, Lib.hid hp⟩
        cases hmy : aloneB da with
        | false =>
          rw [hmy] at CM
          have HB : Hid (putDeclOut ⟨true, [], de, da⟩ = ([], 7)) := Lib.hid (putDecl_bad (fun h => by have := h.2.2; unfold mayPut at this; rw [show mayV aloneB da = false from mayV_no hmy hv, Bool.and_false] at this; cases this))
          clear hmy hv
          go_upto_region 10 with fail
          go_cut [26, 47] from 26 to 56 (fun i c wx => i = .int .i64 2 ∧ c = .bool true ∧ Hid (PV #[.bool true, .string ⟨#[]⟩, .string ⟨de.toArray⟩, .string ⟨da.toArray⟩] #[.string ⟨#[118, 101, 114, 115, 105, 111, 110]⟩, .func (.func 47) #[] #[], .pointer (some ⟨w.heap.size, 1, none⟩), .bool true, .string ⟨#[101, 110, 99, 111, 100, 105, 110, 103]⟩, .func (.func 48) #[] #[], .pointer (some ⟨w.heap.size, 2, none⟩), .bool true, .string ⟨#[115, 116, 97, 110, 100, 97, 108, 111, 110, 101]⟩, .func (.func 49) #[] #[], .pointer (some ⟨w.heap.size, 3, none⟩), .bool true] #[.string ⟨#[115, 116, 97, 110, 100, 97, 108, 111, 110, 101]⟩, .func (.func 49) #[] #[], .pointer (some ⟨w.heap.size, 3, none⟩), .bool true] pb wr.heap.size T2 w wx))
          case first =>
            go_region_with (first | (go_at_call 49; refine (CM.out _ (by first | exact J2.out | exact J2.out.drew | exact J2.out.drew.drew | exact J2.out.drew.drew.drew | exact J2.out.drew.drew.drew.drew | exact J2.out.drew.drew.drew.drew.drew)).mono ?_; rintro e w4 ⟨rfl, y0, y2, y3, J4⟩))
            all_goals
              go_wp2_with fail
              go_meet
              exact ⟨rfl, rfl, J4⟩
          case rest =>
            obtain ⟨rfl, rfl, J4⟩ := hcut
            clear x0 x1 x2 x3 zv
            go_wp2
            go_ret2
            exact PP.bad HB.out rfl J4.out.1.1
        | true =>
          rw [hmy] at CM
          have HT : Hid (T2 ++ ([32, 115, 116, 97, 110, 100, 97, 108, 111, 110, 101, 61, 34] ++ da ++ [34]) = T3) := Lib.hid (by rw [HT3.out, partsT_some aloneW hv]; rfl)
          have HO2 : Hid (mayV verB [] = true ∧ mayV encB de = true ∧ mayV aloneB da = true) := Lib.hid ⟨HO.out.1, HO.out.2, mayV_of hmy⟩
          have p1 : ∀ w : World, (Op.stringOp .add ⟨#[32]⟩ ⟨#[115, 116, 97, 110, 100, 97, 108, 111, 110, 101]⟩).run Tryd.prog w = .ok (.string ⟨#[32, 115, 116, 97, 110, 100, 97, 108, 111, 110, 101]⟩) w := fun w => run_sop (w := w) [32] [115, 116, 97, 110, 100, 97, 108, 111, 110, 101] (by decide)
          have p2 : ∀ w : World, (Op.stringOp .add ⟨#[32, 115, 116, 97, 110, 100, 97, 108, 111, 110, 101]⟩ ⟨#[61, 34]⟩).run Tryd.prog w = .ok (.string ⟨#[32, 115, 116, 97, 110, 100, 97, 108, 111, 110, 101, 61, 34]⟩) w := fun w => run_sop (w := w) [32, 115, 116, 97, 110, 100, 97, 108, 111, 110, 101] [61, 34] (by decide)
          have p3 : ∀ w : World, (Op.stringOp .add ⟨#[32, 115, 116, 97, 110, 100, 97, 108, 111, 110, 101, 61, 34]⟩ ⟨da.toArray⟩).run Tryd.prog w = .ok (.string ⟨([32, 115, 116, 97, 110, 100, 97, 108, 111, 110, 101, 61, 34] ++ da).toArray⟩) w := fun w => run_sop (w := w) [32, 115, 116, 97, 110, 100, 97, 108, 111, 110, 101, 61, 34] da (by simp only [List.length_cons, List.length_nil]; have := hLn.out; omega)
          have p4 : ∀ w : World, (Op.stringOp .add ⟨([32, 115, 116, 97, 110, 100, 97, 108, 111, 110, 101, 61, 34] ++ da).toArray⟩ ⟨#[34]⟩).run Tryd.prog w = .ok (.string ⟨([32, 115, 116, 97, 110, 100, 97, 108, 111, 110, 101, 61, 34] ++ da ++ [34]).toArray⟩) w := fun w => run_sop (w := w) ([32, 115, 116, 97, 110, 100, 97, 108, 111, 110, 101, 61, 34] ++ da) [34] (by simp only [List.length_append, List.length_cons, List.length_nil]; have := hLn.out; omega)
          have WS : Hid (∀ W, PV #[.bool true, .string ⟨#[]⟩, .string ⟨de.toArray⟩, .string ⟨da.toArray⟩] #[.string ⟨#[118, 101, 114, 115, 105, 111, 110]⟩, .func (.func 47) #[] #[], .pointer (some ⟨w.heap.size, 1, none⟩), .bool true, .string ⟨#[101, 110, 99, 111, 100, 105, 110, 103]⟩, .func (.func 48) #[] #[], .pointer (some ⟨w.heap.size, 2, none⟩), .bool true, .string ⟨#[115, 116, 97, 110, 100, 97, 108, 111, 110, 101]⟩, .func (.func 49) #[] #[], .pointer (some ⟨w.heap.size, 3, none⟩), .bool true] #[.string ⟨#[115, 116, 97, 110, 100, 97, 108, 111, 110, 101]⟩, .func (.func 49) #[] #[], .pointer (some ⟨w.heap.size, 3, none⟩), .bool true] pb wr.heap.size T2 w W → Calls Tryd.prog 41 #[.pointer (some ⟨w.heap.size + 1, 0, none⟩), .string ⟨([32, 115, 116, 97, 110, 100, 97, 108, 111, 110, 101, 61, 34] ++ da ++ [34]).toArray⟩] W fun e w' => (∃ k : Nat, e = .returned (.tuple #[.int .i64 (k : Int), .nilIface])) ∧ Hid (PU #[.bool true, .string ⟨#[]⟩, .string ⟨de.toArray⟩, .string ⟨da.toArray⟩] #[.string ⟨#[118, 101, 114, 115, 105, 111, 110]⟩, .func (.func 47) #[] #[], .pointer (some ⟨w.heap.size, 1, none⟩), .bool true, .string ⟨#[101, 110, 99, 111, 100, 105, 110, 103]⟩, .func (.func 48) #[] #[], .pointer (some ⟨w.heap.size, 2, none⟩), .bool true, .string ⟨#[115, 116, 97, 110, 100, 97, 108, 111, 110, 101]⟩, .func (.func 49) #[] #[], .pointer (some ⟨w.heap.size, 3, none⟩), .bool true] pb T3 w w')) := Lib.hid fun W hJ => by
            refine (writeString_k (w.heap.size + 1) T2 ([32, 115, 116, 97, 110, 100, 97, 108, 111, 110, 101, 61, 34] ++ da ++ [34]) W hJ.1.2.2.1 (by simp only [List.length_append, List.length_cons, List.length_nil]; have := hLn.out; have := HL2.out; omega)).mono fun e w' ⟨he, h1, h2, h3⟩ => ⟨⟨_, he⟩, Lib.hid (hJ.1.wrote HPB.out (HT.out ▸ h1) h2 h3)⟩
          generalize [32, 115, 116, 97, 110, 100, 97, 108, 111, 110, 101, 61, 34] ++ da ++ [34] = s4 at *
          generalize [32, 115, 116, 97, 110, 100, 97, 108, 111, 110, 101, 61, 34] ++ da = s3 at *
          clear hmy hv
          go_upto_region 10 with fail
          go_cut [26, 47] from 26 to 56 (fun i c wx => i = .int .i64 2 ∧ c = .bool false ∧ Hid (PV #[.bool true, .string ⟨#[]⟩, .string ⟨de.toArray⟩, .string ⟨da.toArray⟩] #[.string ⟨#[118, 101, 114, 115, 105, 111, 110]⟩, .func (.func 47) #[] #[], .pointer (some ⟨w.heap.size, 1, none⟩), .bool true, .string ⟨#[101, 110, 99, 111, 100, 105, 110, 103]⟩, .func (.func 48) #[] #[], .pointer (some ⟨w.heap.size, 2, none⟩), .bool true, .string ⟨#[115, 116, 97, 110, 100, 97, 108, 111, 110, 101]⟩, .func (.func 49) #[] #[], .pointer (some ⟨w.heap.size, 3, none⟩), .bool true] #[.string ⟨#[115, 116, 97, 110, 100, 97, 108, 111, 110, 101]⟩, .func (.func 49) #[] #[], .pointer (some ⟨w.heap.size, 3, none⟩), .bool true] pb wr.heap.size T2 w wx))
          case first =>
            go_region_with (first | (go_at_call 49; refine (CM.out _ (by first | exact J2.out | exact J2.out.drew | exact J2.out.drew.drew | exact J2.out.drew.drew.drew | exact J2.out.drew.drew.drew.drew | exact J2.out.drew.drew.drew.drew.drew)).mono ?_; rintro e w4 ⟨rfl, y0, y2, y3, J4⟩))
            all_goals
              go_wp2_with fail
              go_meet
              exact ⟨rfl, rfl, J4⟩
          case rest =>
            obtain ⟨rfl, rfl, J4⟩ := hcut
            clear x0 x1 x2 x3 zv CM
            have y0 := cell_of 0 J4.out.2
            have y2 := cell_of 2 J4.out.2
            have y3 := cell_of 3 J4.out.1.2.1
            go_upto_region 8 with fail
            go_region_with (first | (go_at_call 41; refine (WS.out _ (by first | exact J4.out | exact J4.out.drew | exact J4.out.drew.drew | exact J4.out.drew.drew.drew | exact J4.out.drew.drew.drew.drew | exact J4.out.drew.drew.drew.drew.drew)).mono ?_; rintro e w5 ⟨⟨k5, rfl⟩, J5⟩))
            all_goals
              clear y0 y2 y3
              go_wp2
              go_roundg (3 - 3)
              case measure => have := hg.out; omega
              case rel => exact Or.inr (Or.inr (Or.inr ⟨Lib.hid rfl, rfl, HO2, J5⟩))
    · go_wp2_with fail
      refine (string_b _ _ _ wr HJ.out.2.2.1).mono ?_
      rintro e w5 ⟨rfl, hb⟩
      have HB := Lib.hid (HJ.out.1.trans (hb.mono (by omega)))
      clear hb
      go_wp2
      go_ret2
      refine PP.good (HGd.out ?_) rfl HB.out
      unfold mayPut
      rw [show mayV verB [] = true from HO.out.1, show mayV encB de = true from HO.out.2.1, show mayV aloneB da = true from HO.out.2.2]
      rfl
end Go.Proofs.YtcpljjajobfkkaaDoor
