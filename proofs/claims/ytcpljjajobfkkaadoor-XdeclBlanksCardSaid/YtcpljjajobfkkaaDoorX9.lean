/- Declarations with blanks of many kinds: the law XdeclBlanks. -/
import Derived.Test.YtcpljjajobfkkaaDoorRows
import Derived.WalkKit
import Derived.ProofKit
import Derived.OpenShut
import Derived.ShutString
import Derived.ChangeOld
import Derived.Below
import Derived.BigQuiet
import Derived.Deep.QuietTactic
import Derived.Lib.Hide
import Derived.Deep.RegionHeld3
import Derived.Lib.SlBytesConst
import Derived.Laws.CopyOwn
import Derived.Laws.CopyRow
import Derived.Lib.Bytes
import Derived.Deep.LoopGhost
import Derived.Deep.DeepFit
import Derived.Deep.DeepMust
import Derived.WalkSpells
import Derived.WalkLawsBesides
import Derived.Laws.EntriesVeiled
import Derived.Laws.Rows
import Derived.Test.YtcpljjajobfkkaaDoorBase
import Derived.Test.YtcpljjajobfkkaaDoorCharPlain
import Derived.Test.YtcpljjajobfkkaaDoorLitP
import Derived.Test.YtcpljjajobfkkaaDoorPub
import Derived.Test.YtcpljjajobfkkaaDoorBlank
import Derived.Test.YtcpljjajobfkkaaDoorMiscP
import Derived.Test.YtcpljjajobfkkaaDoorX1
import Derived.Test.YtcpljjajobfkkaaDoorShelf
import Derived.Test.YtcpljjajobfkkaaDoorBuild
import Derived.Test.YtcpljjajobfkkaaDoorStr
import Derived.Test.YtcpljjajobfkkaaDoorPfx
import Derived.Test.YtcpljjajobfkkaaDoorLit1
import Derived.Test.YtcpljjajobfkkaaDoorLibB
import Derived.Test.YtcpljjajobfkkaaDoorMisc1
import Derived.Test.YtcpljjajobfkkaaDoorBits
import Derived.Test.YtcpljjajobfkkaaDoorX4
namespace Go.Proofs.YtcpljjajobfkkaaDoor
open Go.ChangeShapes Go.WideShapes Go.ChangeAt Go.RowKit
set_option linter.unusedVariables false
def blB : Nat → List UInt8
  | 0 => [32]
  | 1 => [9]
  | 2 => [10, 32]
  | _ => [32, 32]
def qtB : Nat → List UInt8
  | 0 => [34]
  | _ => [39]
/-- The page's texts with blanks of many kinds. -/
def txtB (m : Nat) : List UInt8 := [60, 63, 120, 109, 108] ++ blB (m % 4) ++ [118, 101, 114, 115, 105, 111, 110] ++ blB (m / 4 % 4) ++ [61] ++ blB (m / 16 % 4) ++ qtB (m % 2) ++ [49, 46, 49] ++ qtB (m % 2)
def txtA (m : Nat) : List UInt8 := txtB m ++ blB (m / 2 % 4) ++ [115, 116, 97, 110, 100, 97, 108, 111, 110, 101, 61] ++ qtB (m / 2 % 2) ++ [110, 111] ++ qtB (m / 2 % 2) ++ blB (m / 8 % 4)
def isDecl (o : DeclL × Nat × Nat) (h : Bool) (v e a : List UInt8) (i x : Nat) : Bool := (o.1.has == h) && (o.1.ver == v) && (o.1.enc == e) && (o.1.alone == a) && (o.2.1 == i) && (o.2.2 == x)
theorem isDecl_eq {o : DeclL × Nat × Nat} {h : Bool} {v e a : List UInt8} {i x : Nat} (hh : isDecl o h v e a i x = true) : o = (⟨h, v, e, a⟩, i, x) := by
  unfold isDecl at hh
  simp only [Bool.and_eq_true, beq_iff_eq] at hh
  obtain ⟨⟨⟨⟨⟨h1, h2⟩, h3⟩, h4⟩, h5⟩, h6⟩ := hh
  obtain ⟨⟨a1, a2, a3, a4⟩, b, c⟩ := o
  simp only at h1 h2 h3 h4 h5 h6
  subst h1 h2 h3 h4 h5 h6
  rfl
def chkB (m : Nat) : Bool := isDecl (declOut false (txtB m ++ [63, 62, 120]) 0) true [49, 46, 49] [] [] ((txtB m).length + 2) 0 && isDecl (declOut true (txtB m ++ [63, 62, 120]) 0) false [] [] [] 0 7
def chkA (m : Nat) : Bool := isDecl (declOut false (txtA m ++ [63, 62, 120]) 0) true [49, 46, 49] [] [110, 111] ((txtA m).length + 2) 0 && isDecl (declOut true (txtA m ++ [63, 62, 120]) 0) false [] [] [] 0 7
theorem chkB_all : (List.range 256).all chkB = true := by kernel_rfl
theorem chkA_all : (List.range 256).all chkA = true := by kernel_rfl
theorem bl_get (i : Nat) (h : i < 4) : (#[.string ⟨#[32]⟩, .string ⟨#[9]⟩, .string ⟨#[10, 32]⟩, .string ⟨#[32, 32]⟩] : Array Value)[i]? = some (.string ⟨(blB i).toArray⟩) := by
  match i, h with
  | 0, _ => rfl
  | 1, _ => rfl
  | 2, _ => rfl
  | 3, _ => rfl
theorem qt_get (i : Nat) (h : i < 2) : (#[.string ⟨#[34]⟩, .string ⟨#[39]⟩] : Array Value)[i]? = some (.string ⟨(qtB i).toArray⟩) := by
  match i, h with
  | 0, _ => rfl
  | 1, _ => rfl
/-- While the texts are made: below w all as it was; the two rows. -/
def BJ (w W : World) : Prop := Below w.heap.size w W ∧ W.heap[w.heap.size]? = some (.cells #[.string ⟨#[32]⟩, .string ⟨#[9]⟩, .string ⟨#[10, 32]⟩, .string ⟨#[32, 32]⟩] 9) ∧ W.heap[w.heap.size + 1]? = some (.cells #[.string ⟨#[34]⟩, .string ⟨#[39]⟩] 9)
theorem BJ.kept {w W W' : World} (h : BJ w W) (hb : Below W.heap.size W W') : BJ w W' :=
  ⟨h.1.trans (hb.mono h.1.size), by rw [hb.block _ (lt_of h.2.1)]; exact h.2.1, by rw [hb.block _ (lt_of h.2.2)]; exact h.2.2⟩
theorem BJ.start (w : World) : BJ w ((w.alloc (.cells #[.string ⟨#[32]⟩, .string ⟨#[9]⟩, .string ⟨#[10, 32]⟩, .string ⟨#[32, 32]⟩] 9)).alloc (.cells #[.string ⟨#[34]⟩, .string ⟨#[39]⟩] 9)) := by
  have a1 := (Below.refl w.heap.size w).alloc (Nat.le_refl _) (.cells #[.string ⟨#[32]⟩, .string ⟨#[9]⟩, .string ⟨#[10, 32]⟩, .string ⟨#[32, 32]⟩] 9)
  refine ⟨a1.alloc a1.size _, hp_old (hp_new _ _), ?_⟩
  have := hp_new (w.alloc (.cells #[.string ⟨#[32]⟩, .string ⟨#[9]⟩, .string ⟨#[10, 32]⟩, .string ⟨#[32, 32]⟩] 9)) (.cells #[.string ⟨#[34]⟩, .string ⟨#[39]⟩] 9)
  rwa [World.size_alloc] at this
theorem BJ.b {w W : World} (h : BJ w W) (i : Nat) (hi : i < 4) : W.cell? ⟨w.heap.size, i, none⟩ = some (.string ⟨(blB i).toArray⟩) := by rw [cell_of i h.2.1]; exact bl_get i hi
theorem BJ.q {w W : World} (h : BJ w W) (i : Nat) (hi : i < 2) : W.cell? ⟨w.heap.size + 1, i, none⟩ = some (.string ⟨(qtB i).toArray⟩) := by rw [cell_of i h.2.2]; exact qt_get i hi
theorem bl_len (i : Nat) : (blB i).length ≤ 2 := by unfold blB; split <;> simp
theorem qt_len (i : Nat) : (qtB i).length ≤ 2 := by unfold qtB; split <;> simp
theorem txtB_len (m : Nat) : (txtB m).length ≤ 40 := by
  have := bl_len (m % 4); have := bl_len (m / 4 % 4); have := bl_len (m / 16 % 4); have := qt_len (m % 2)
  unfold txtB
  simp only [List.length_append, List.length_cons, List.length_nil]
  omega
theorem txtA_len (m : Nat) : (txtA m).length ≤ 100 := by
  have := bl_len (m / 2 % 4); have := bl_len (m / 8 % 4); have := qt_len (m / 2 % 2); have := txtB_len m
  unfold txtA
  simp only [List.length_append, List.length_cons, List.length_nil]
  omega
set_option maxRecDepth 100000 in
set_option maxHeartbeats 16000000 in
theorem blanks_B (m : Nat) (hm : m < 256) (w : World) (hT : FoldT w) :
    Calls Tryd.prog 7 #[.int .u8 (m : Int), .bool false] w fun e w' => e = .returned (.bool true) ∧ Below w.heap.size w w' := by
  have hm0 : (0 : Int) ≤ (m : Int) := by omega
  have hm1 : (m : Int) ≤ 255 := by omega
  have HK := (List.all_eq_true.1 chkB_all) m (List.mem_range.2 hm)
  unfold chkB at HK
  rw [Bool.and_eq_true] at HK
  have HK1 := isDecl_eq HK.1
  have HK2 := isDecl_eq HK.2
  have htl := txtB_len m
  have HS1 : Hid (txtB m = [60, 63, 120, 109, 108] ++ blB (m % 4) ++ [118, 101, 114, 115, 105, 111, 110] ++ blB (m / 4 % 4) ++ [61] ++ blB (m / 16 % 4) ++ qtB (m % 2) ++ [49, 46, 49] ++ qtB (m % 2)) := Lib.hid rfl
  generalize txtB m = S at *
  have hv1 : declV (⟨true, [49, 46, 49], [], []⟩, S.length + 2, 0) = .tuple #[.agg #[.bool true, .string ⟨#[49, 46, 49]⟩, .string ⟨#[]⟩, .string ⟨#[]⟩], .int .i64 ((S.length : Int) + 2), .int .i64 0] := by
    show Value.tuple #[.agg #[.bool true, .string ⟨#[49, 46, 49]⟩, .string ⟨#[]⟩, .string ⟨#[]⟩], .int .i64 ((S.length + 2 : Nat) : Int), .int .i64 0] = _
    rw [show ((S.length + 2 : Nat) : Int) = (S.length : Int) + 2 by omega]
  have hv2 : declV (⟨false, [], [], []⟩, 0, 7) = .tuple #[.agg #[.bool false, .string ⟨#[]⟩, .string ⟨#[]⟩, .string ⟨#[]⟩], .int .i64 0, .int .i64 7] := rfl
  have LV : Hid (∀ W, BJ w W → Calls Tryd.prog 22 #[] W fun e w' => e = .returned (.bool true) ∧ Below W.heap.size W w') := Lib.hid fun W hb => live9_c W (hT.below hb.1 hT.lt)
  have C1 : Hid (∀ W N, BJ w W → N = W.heap.size → Calls Tryd.prog 23 #[.slice (some ⟨N, 0, none⟩) (S ++ [63, 62, 120]).length (grownCap W (S ++ [63, 62, 120]).length 0 5), .int .i64 0] (Lib.bytesWorld W 5 ⟨(S ++ [63, 62, 120]).toArray⟩) fun e w' => e = .returned (.tuple #[.agg #[.bool true, .string ⟨#[49, 46, 49]⟩, .string ⟨#[]⟩, .string ⟨#[]⟩], .int .i64 (((S).length : Int) + 2), .int .i64 0]) ∧ Below W.heap.size W w') := Lib.hid fun W N hJ hN => by
    subst hN
    have k1 := Lib.bytesWorld_below W 5 ⟨(S ++ [63, 62, 120]).toArray⟩
    have hl : (S ++ [63, 62, 120]).length ≤ 200 := by simp only [List.length_append, List.length_cons, List.length_nil]; omega
    have hby := (byt_new W (S ++ [63, 62, 120]) (by omega)).more (Nat.le_of_eq (Lib.bytesWorld_size W 5 ⟨(S ++ [63, 62, 120]).toArray⟩).symm)
    have hm4 : (S ++ [63, 62, 120]).length ≤ 40000 := Nat.le_trans hl (by decide)
    have hF : FoldT (Lib.bytesWorld W 5 ⟨(S ++ [63, 62, 120]).toArray⟩) := hT.below (hJ.1.trans (k1.mono hJ.1.size)) hT.lt
    have := xdXml_c _ _ _ _ 0 _ hby hm4 hF
    rw [show declAt false (S ++ [63, 62, 120]) 0 = declOut false (S ++ [63, 62, 120]) 0 by unfold declAt; rw [if_neg (by omega)]; rfl, HK1, hv1] at this
    exact this.mono fun e w' ⟨he, hb2⟩ => ⟨he, k1.trans (hb2.mono k1.size)⟩
  have C2 : Hid (∀ W N, BJ w W → N = W.heap.size → Calls Tryd.prog 28 #[.slice (some ⟨N, 0, none⟩) (S ++ [63, 62, 120]).length (grownCap W (S ++ [63, 62, 120]).length 0 5), .int .i64 0] (Lib.bytesWorld W 5 ⟨(S ++ [63, 62, 120]).toArray⟩) fun e w' => e = .returned (.tuple #[.agg #[.bool false, .string ⟨#[]⟩, .string ⟨#[]⟩, .string ⟨#[]⟩], .int .i64 0, .int .i64 7]) ∧ Below W.heap.size W w') := Lib.hid fun W N hJ hN => by
    subst hN
    have k1 := Lib.bytesWorld_below W 5 ⟨(S ++ [63, 62, 120]).toArray⟩
    have hl : (S ++ [63, 62, 120]).length ≤ 200 := by simp only [List.length_append, List.length_cons, List.length_nil]; omega
    have hby := (byt_new W (S ++ [63, 62, 120]) (by omega)).more (Nat.le_of_eq (Lib.bytesWorld_size W 5 ⟨(S ++ [63, 62, 120]).toArray⟩).symm)
    have hm4 : (S ++ [63, 62, 120]).length ≤ 40000 := Nat.le_trans hl (by decide)
    have hF : FoldT (Lib.bytesWorld W 5 ⟨(S ++ [63, 62, 120]).toArray⟩) := hT.below (hJ.1.trans (k1.mono hJ.1.size)) hT.lt
    have := xdText_c _ _ _ _ 0 _ hby hm4 hF
    rw [show declAt true (S ++ [63, 62, 120]) 0 = declOut true (S ++ [63, 62, 120]) 0 by unfold declAt; rw [if_neg (by omega)]; rfl, HK2, hv2] at this
    exact this.mono fun e w' ⟨he, hb2⟩ => ⟨he, k1.trans (hb2.mono k1.size)⟩
  have cv := fun W => run_toBytes W (S ++ [63, 62, 120])
  have pz : ∀ w : World, (Op.stringOp .add ⟨(S).toArray⟩ ⟨#[63, 62, 120]⟩).run Tryd.prog w = .ok (.string ⟨(S ++ [63, 62, 120]).toArray⟩) w := fun w => run_sop (w := w) (S) [63, 62, 120] (by simp only [List.length_cons, List.length_nil]; omega)
  have p0 : ∀ w : World, (Op.stringOp .add ⟨#[60, 63, 120, 109, 108]⟩ ⟨(blB (m % 4)).toArray⟩).run Tryd.prog w = .ok (.string ⟨([60, 63, 120, 109, 108] ++ blB (m % 4)).toArray⟩) w := fun w => run_sop (w := w) ([60, 63, 120, 109, 108]) (blB (m % 4)) (by have := bl_len (m % 4); have := bl_len (m / 4 % 4); have := bl_len (m / 16 % 4); have := qt_len (m % 2); simp only [List.length_cons, List.length_nil]; omega)
  have p1 : ∀ w : World, (Op.stringOp .add ⟨([60, 63, 120, 109, 108] ++ blB (m % 4)).toArray⟩ ⟨#[118, 101, 114, 115, 105, 111, 110]⟩).run Tryd.prog w = .ok (.string ⟨([60, 63, 120, 109, 108] ++ blB (m % 4) ++ [118, 101, 114, 115, 105, 111, 110]).toArray⟩) w := fun w => run_sop (w := w) ([60, 63, 120, 109, 108] ++ blB (m % 4)) ([118, 101, 114, 115, 105, 111, 110]) (by have := bl_len (m % 4); have := bl_len (m / 4 % 4); have := bl_len (m / 16 % 4); have := qt_len (m % 2); simp only [List.length_append, List.length_cons, List.length_nil]; omega)
  have p2 : ∀ w : World, (Op.stringOp .add ⟨([60, 63, 120, 109, 108] ++ blB (m % 4) ++ [118, 101, 114, 115, 105, 111, 110]).toArray⟩ ⟨(blB (m / 4 % 4)).toArray⟩).run Tryd.prog w = .ok (.string ⟨([60, 63, 120, 109, 108] ++ blB (m % 4) ++ [118, 101, 114, 115, 105, 111, 110] ++ blB (m / 4 % 4)).toArray⟩) w := fun w => run_sop (w := w) ([60, 63, 120, 109, 108] ++ blB (m % 4) ++ [118, 101, 114, 115, 105, 111, 110]) (blB (m / 4 % 4)) (by have := bl_len (m % 4); have := bl_len (m / 4 % 4); have := bl_len (m / 16 % 4); have := qt_len (m % 2); simp only [List.length_append, List.length_cons, List.length_nil]; omega)
  have p3 : ∀ w : World, (Op.stringOp .add ⟨([60, 63, 120, 109, 108] ++ blB (m % 4) ++ [118, 101, 114, 115, 105, 111, 110] ++ blB (m / 4 % 4)).toArray⟩ ⟨#[61]⟩).run Tryd.prog w = .ok (.string ⟨([60, 63, 120, 109, 108] ++ blB (m % 4) ++ [118, 101, 114, 115, 105, 111, 110] ++ blB (m / 4 % 4) ++ [61]).toArray⟩) w := fun w => run_sop (w := w) ([60, 63, 120, 109, 108] ++ blB (m % 4) ++ [118, 101, 114, 115, 105, 111, 110] ++ blB (m / 4 % 4)) ([61]) (by have := bl_len (m % 4); have := bl_len (m / 4 % 4); have := bl_len (m / 16 % 4); have := qt_len (m % 2); simp only [List.length_append, List.length_cons, List.length_nil]; omega)
  have p4 : ∀ w : World, (Op.stringOp .add ⟨([60, 63, 120, 109, 108] ++ blB (m % 4) ++ [118, 101, 114, 115, 105, 111, 110] ++ blB (m / 4 % 4) ++ [61]).toArray⟩ ⟨(blB (m / 16 % 4)).toArray⟩).run Tryd.prog w = .ok (.string ⟨([60, 63, 120, 109, 108] ++ blB (m % 4) ++ [118, 101, 114, 115, 105, 111, 110] ++ blB (m / 4 % 4) ++ [61] ++ blB (m / 16 % 4)).toArray⟩) w := fun w => run_sop (w := w) ([60, 63, 120, 109, 108] ++ blB (m % 4) ++ [118, 101, 114, 115, 105, 111, 110] ++ blB (m / 4 % 4) ++ [61]) (blB (m / 16 % 4)) (by have := bl_len (m % 4); have := bl_len (m / 4 % 4); have := bl_len (m / 16 % 4); have := qt_len (m % 2); simp only [List.length_append, List.length_cons, List.length_nil]; omega)
  have p5 : ∀ w : World, (Op.stringOp .add ⟨([60, 63, 120, 109, 108] ++ blB (m % 4) ++ [118, 101, 114, 115, 105, 111, 110] ++ blB (m / 4 % 4) ++ [61] ++ blB (m / 16 % 4)).toArray⟩ ⟨(qtB (m % 2)).toArray⟩).run Tryd.prog w = .ok (.string ⟨([60, 63, 120, 109, 108] ++ blB (m % 4) ++ [118, 101, 114, 115, 105, 111, 110] ++ blB (m / 4 % 4) ++ [61] ++ blB (m / 16 % 4) ++ qtB (m % 2)).toArray⟩) w := fun w => run_sop (w := w) ([60, 63, 120, 109, 108] ++ blB (m % 4) ++ [118, 101, 114, 115, 105, 111, 110] ++ blB (m / 4 % 4) ++ [61] ++ blB (m / 16 % 4)) (qtB (m % 2)) (by have := bl_len (m % 4); have := bl_len (m / 4 % 4); have := bl_len (m / 16 % 4); have := qt_len (m % 2); simp only [List.length_append, List.length_cons, List.length_nil]; omega)
  have p6 : ∀ w : World, (Op.stringOp .add ⟨([60, 63, 120, 109, 108] ++ blB (m % 4) ++ [118, 101, 114, 115, 105, 111, 110] ++ blB (m / 4 % 4) ++ [61] ++ blB (m / 16 % 4) ++ qtB (m % 2)).toArray⟩ ⟨#[49, 46, 49]⟩).run Tryd.prog w = .ok (.string ⟨([60, 63, 120, 109, 108] ++ blB (m % 4) ++ [118, 101, 114, 115, 105, 111, 110] ++ blB (m / 4 % 4) ++ [61] ++ blB (m / 16 % 4) ++ qtB (m % 2) ++ [49, 46, 49]).toArray⟩) w := fun w => run_sop (w := w) ([60, 63, 120, 109, 108] ++ blB (m % 4) ++ [118, 101, 114, 115, 105, 111, 110] ++ blB (m / 4 % 4) ++ [61] ++ blB (m / 16 % 4) ++ qtB (m % 2)) ([49, 46, 49]) (by have := bl_len (m % 4); have := bl_len (m / 4 % 4); have := bl_len (m / 16 % 4); have := qt_len (m % 2); simp only [List.length_append, List.length_cons, List.length_nil]; omega)
  have p7 : ∀ w : World, (Op.stringOp .add ⟨([60, 63, 120, 109, 108] ++ blB (m % 4) ++ [118, 101, 114, 115, 105, 111, 110] ++ blB (m / 4 % 4) ++ [61] ++ blB (m / 16 % 4) ++ qtB (m % 2) ++ [49, 46, 49]).toArray⟩ ⟨(qtB (m % 2)).toArray⟩).run Tryd.prog w = .ok (.string ⟨([60, 63, 120, 109, 108] ++ blB (m % 4) ++ [118, 101, 114, 115, 105, 111, 110] ++ blB (m / 4 % 4) ++ [61] ++ blB (m / 16 % 4) ++ qtB (m % 2) ++ [49, 46, 49] ++ qtB (m % 2)).toArray⟩) w := fun w => run_sop (w := w) ([60, 63, 120, 109, 108] ++ blB (m % 4) ++ [118, 101, 114, 115, 105, 111, 110] ++ blB (m / 4 % 4) ++ [61] ++ blB (m / 16 % 4) ++ qtB (m % 2) ++ [49, 46, 49]) (qtB (m % 2)) (by have := bl_len (m % 4); have := bl_len (m / 4 % 4); have := bl_len (m / 16 % 4); have := qt_len (m % 2); simp only [List.length_append, List.length_cons, List.length_nil]; omega)
  rw [← HS1.out] at p7
  clear hT HK HK1 HK2 hv1 hv2
  have hlen : ((S ++ [63, 62, 120]).length : Int) ≤ 200 := by simp only [List.length_append, List.length_cons, List.length_nil]; omega
  have hl1 : ((S).length : Int) ≤ 100 := by omega
  clear HS1 htl
  generalize S ++ [63, 62, 120] = t at *
  generalize [60, 63, 120, 109, 108] ++ blB (m % 4) ++ [118, 101, 114, 115, 105, 111, 110] ++ blB (m / 4 % 4) ++ [61] ++ blB (m / 16 % 4) ++ qtB (m % 2) ++ [49, 46, 49] = s6 at *
  generalize [60, 63, 120, 109, 108] ++ blB (m % 4) ++ [118, 101, 114, 115, 105, 111, 110] ++ blB (m / 4 % 4) ++ [61] ++ blB (m / 16 % 4) ++ qtB (m % 2) = s5 at *
  generalize [60, 63, 120, 109, 108] ++ blB (m % 4) ++ [118, 101, 114, 115, 105, 111, 110] ++ blB (m / 4 % 4) ++ [61] ++ blB (m / 16 % 4) = s4 at *
  generalize [60, 63, 120, 109, 108] ++ blB (m % 4) ++ [118, 101, 114, 115, 105, 111, 110] ++ blB (m / 4 % 4) ++ [61] = s3 at *
  generalize [60, 63, 120, 109, 108] ++ blB (m % 4) ++ [118, 101, 114, 115, 105, 111, 110] ++ blB (m / 4 % 4) = s2 at *
  generalize [60, 63, 120, 109, 108] ++ blB (m % 4) ++ [118, 101, 114, 115, 105, 111, 110] = s1 at *
  generalize [60, 63, 120, 109, 108] ++ blB (m % 4) = s0 at *
  have i0 : m % 4 < 4 := by omega
  have i1 : m / 4 % 4 < 4 := by omega
  have i2 : m / 16 % 4 < 4 := by omega
  have i3 : m % 2 < 2 := by omega
  have i4 : m / 2 % 4 < 4 := by omega
  have i5 : m / 2 % 2 < 2 := by omega
  have i6 : m / 8 % 4 < 4 := by omega
  have J0 := Lib.hid (BJ.start w)
  have z0 := J0.out.b (m % 4) i0
  have z1 := J0.out.b (m / 4 % 4) i1
  have z2 := J0.out.b (m / 16 % 4) i2
  have z3 := J0.out.q (m % 2) i3
  generalize blB (m % 4) = B0 at *
  generalize blB (m / 4 % 4) = B1 at *
  generalize blB (m / 16 % 4) = B2 at *
  generalize qtB (m % 2) = Q0 at *
  have hi : (Tryd.prog.info? 53).map (·.size) = some 4 := by kernel_rfl
  obtain ⟨d, hu⟩ := isStruct_of (P := Tryd.prog) (t := 53) (by kernel_rfl)
  have HU := Lib.hid (And.intro hi hu)
  clear hi hu
  go_enter Tryd.func7, Tryd.ntmps7
  go_wp2
  go_quiet (fail)
  have J1 := Lib.hid (J0.out.kept (below_drewN' (n := nq) (Below.refl _ _)))
  clear z0 z1 z2 z3
  generalize ((w.alloc (.cells #[.string ⟨#[32]⟩, .string ⟨#[9]⟩, .string ⟨#[10, 32]⟩, .string ⟨#[32, 32]⟩] 9)).alloc (.cells #[.string ⟨#[34]⟩, .string ⟨#[39]⟩] 9)).drewN nq = w2 at *
  have hq4 : Hid ((w2.alloc (.cells #[.bool true, .string ⟨#[49, 46, 49]⟩, .string ⟨#[]⟩, .string ⟨#[]⟩] 53)).heap[w2.heap.size]? = some (.cells #[.bool true, .string ⟨#[49, 46, 49]⟩, .string ⟨#[]⟩, .string ⟨#[]⟩] 53)) := Lib.hid (hp_new w2 _)
  have J4 := Lib.hid (J1.out.kept ((Below.refl _ w2).alloc (Nat.le_refl _) (.cells #[.bool true, .string ⟨#[49, 46, 49]⟩, .string ⟨#[]⟩, .string ⟨#[]⟩] 53)))
  go_wp2_with fail
  refine (C1.out _ _ J4.out (by simp)).mono ?_
  rintro e w5 ⟨rfl, hb⟩
  have J5 := Lib.hid (J4.out.kept hb)
  have hq5 := Lib.hid ((hb.block w2.heap.size (lt_of hq4.out)).trans hq4.out)
  clear hb
  have J6 := Lib.hid (J5.out.kept ((Below.refl _ w5).alloc (Nat.le_refl _) (.cells #[.bool true, .string ⟨#[49, 46, 49]⟩, .string ⟨#[]⟩, .string ⟨#[]⟩] 53)))
  have hq6 : Hid ((w5.alloc (.cells #[.bool true, .string ⟨#[49, 46, 49]⟩, .string ⟨#[]⟩, .string ⟨#[]⟩] 53)).heap[w2.heap.size]? = some (.cells #[.bool true, .string ⟨#[49, 46, 49]⟩, .string ⟨#[]⟩, .string ⟨#[]⟩] 53)) := Lib.hid (hp_old hq5.out)
  have hr6 := Lib.hid (hp_new w5 (.cells #[.bool true, .string ⟨#[49, 46, 49]⟩, .string ⟨#[]⟩, .string ⟨#[]⟩] 53))
  go_wp2_with fail
  refine (C2.out _ _ J6.out (by simp)).mono ?_
  rintro e w7 ⟨rfl, hb⟩
  have J7 := J6.out.kept hb
  have J8 := Lib.hid (J7.kept ((Below.refl _ w7).alloc (Nat.le_refl _) (.cells #[.bool false, .string ⟨#[]⟩, .string ⟨#[]⟩, .string ⟨#[]⟩] 53)))
  have hq8 : Hid ((w7.alloc (.cells #[.bool false, .string ⟨#[]⟩, .string ⟨#[]⟩, .string ⟨#[]⟩] 53)).heap[w2.heap.size]? = some (.cells #[.bool true, .string ⟨#[49, 46, 49]⟩, .string ⟨#[]⟩, .string ⟨#[]⟩] 53)) := Lib.hid (hp_old ((hb.block w2.heap.size (lt_of hq6.out)).trans hq6.out))
  have hr8 : Hid ((w7.alloc (.cells #[.bool false, .string ⟨#[]⟩, .string ⟨#[]⟩, .string ⟨#[]⟩] 53)).heap[w5.heap.size]? = some (.cells #[.bool true, .string ⟨#[49, 46, 49]⟩, .string ⟨#[]⟩, .string ⟨#[]⟩] 53)) := Lib.hid (hp_old ((hb.block w5.heap.size (lt_of hr6.out)).trans hr6.out))
  clear hb J7 cv pz
  go_wp2_with (first | (refine wpList_load_row rfl _ _ rfl w5.heap.size rfl _ _ _ _ hr8.out HU.out.2 rfl HU.out.1 ?_) | (refine wpList_load_row rfl _ _ rfl w2.heap.size rfl _ _ _ _ hq8.out HU.out.2 rfl HU.out.1 ?_))
  refine (LV.out _ J8.out).mono ?_
  rintro e w9 ⟨rfl, hb⟩
  have B9 := Lib.hid (J8.out.kept hb).1
  clear hb
  go_wp2
  go_ret
  exact ⟨rfl, B9.out⟩
set_option maxRecDepth 100000 in
set_option maxHeartbeats 16000000 in
theorem blanks_A (m : Nat) (hm : m < 256) (w : World) (hT : FoldT w) :
    Calls Tryd.prog 7 #[.int .u8 (m : Int), .bool true] w fun e w' => e = .returned (.bool true) ∧ Below w.heap.size w w' := by
  have hm0 : (0 : Int) ≤ (m : Int) := by omega
  have hm1 : (m : Int) ≤ 255 := by omega
  have HK := (List.all_eq_true.1 chkA_all) m (List.mem_range.2 hm)
  unfold chkA at HK
  rw [Bool.and_eq_true] at HK
  have HK1 := isDecl_eq HK.1
  have HK2 := isDecl_eq HK.2
  have htl := txtA_len m
  have htlb := txtB_len m
  have HS1 : Hid (txtB m = [60, 63, 120, 109, 108] ++ blB (m % 4) ++ [118, 101, 114, 115, 105, 111, 110] ++ blB (m / 4 % 4) ++ [61] ++ blB (m / 16 % 4) ++ qtB (m % 2) ++ [49, 46, 49] ++ qtB (m % 2)) := Lib.hid rfl
  have HS2 : Hid (txtA m = txtB m ++ blB (m / 2 % 4) ++ [115, 116, 97, 110, 100, 97, 108, 111, 110, 101, 61] ++ qtB (m / 2 % 2) ++ [110, 111] ++ qtB (m / 2 % 2) ++ blB (m / 8 % 4)) := Lib.hid rfl
  generalize txtA m = S at *
  generalize txtB m = S1 at *
  have hv1 : declV (⟨true, [49, 46, 49], [], [110, 111]⟩, S.length + 2, 0) = .tuple #[.agg #[.bool true, .string ⟨#[49, 46, 49]⟩, .string ⟨#[]⟩, .string ⟨#[110, 111]⟩], .int .i64 ((S.length : Int) + 2), .int .i64 0] := by
    show Value.tuple #[.agg #[.bool true, .string ⟨#[49, 46, 49]⟩, .string ⟨#[]⟩, .string ⟨#[110, 111]⟩], .int .i64 ((S.length + 2 : Nat) : Int), .int .i64 0] = _
    rw [show ((S.length + 2 : Nat) : Int) = (S.length : Int) + 2 by omega]
  have hv2 : declV (⟨false, [], [], []⟩, 0, 7) = .tuple #[.agg #[.bool false, .string ⟨#[]⟩, .string ⟨#[]⟩, .string ⟨#[]⟩], .int .i64 0, .int .i64 7] := rfl
  have LV : Hid (∀ W, BJ w W → Calls Tryd.prog 22 #[] W fun e w' => e = .returned (.bool true) ∧ Below W.heap.size W w') := Lib.hid fun W hb => live9_c W (hT.below hb.1 hT.lt)
  have C1 : Hid (∀ W N, BJ w W → N = W.heap.size → Calls Tryd.prog 23 #[.slice (some ⟨N, 0, none⟩) (S ++ [63, 62, 120]).length (grownCap W (S ++ [63, 62, 120]).length 0 5), .int .i64 0] (Lib.bytesWorld W 5 ⟨(S ++ [63, 62, 120]).toArray⟩) fun e w' => e = .returned (.tuple #[.agg #[.bool true, .string ⟨#[49, 46, 49]⟩, .string ⟨#[]⟩, .string ⟨#[110, 111]⟩], .int .i64 (((S).length : Int) + 2), .int .i64 0]) ∧ Below W.heap.size W w') := Lib.hid fun W N hJ hN => by
    subst hN
    have k1 := Lib.bytesWorld_below W 5 ⟨(S ++ [63, 62, 120]).toArray⟩
    have hl : (S ++ [63, 62, 120]).length ≤ 200 := by simp only [List.length_append, List.length_cons, List.length_nil]; omega
    have hby := (byt_new W (S ++ [63, 62, 120]) (by omega)).more (Nat.le_of_eq (Lib.bytesWorld_size W 5 ⟨(S ++ [63, 62, 120]).toArray⟩).symm)
    have hm4 : (S ++ [63, 62, 120]).length ≤ 40000 := Nat.le_trans hl (by decide)
    have hF : FoldT (Lib.bytesWorld W 5 ⟨(S ++ [63, 62, 120]).toArray⟩) := hT.below (hJ.1.trans (k1.mono hJ.1.size)) hT.lt
    have := xdXml_c _ _ _ _ 0 _ hby hm4 hF
    rw [show declAt false (S ++ [63, 62, 120]) 0 = declOut false (S ++ [63, 62, 120]) 0 by unfold declAt; rw [if_neg (by omega)]; rfl, HK1, hv1] at this
    exact this.mono fun e w' ⟨he, hb2⟩ => ⟨he, k1.trans (hb2.mono k1.size)⟩
  have C2 : Hid (∀ W N, BJ w W → N = W.heap.size → Calls Tryd.prog 28 #[.slice (some ⟨N, 0, none⟩) (S ++ [63, 62, 120]).length (grownCap W (S ++ [63, 62, 120]).length 0 5), .int .i64 0] (Lib.bytesWorld W 5 ⟨(S ++ [63, 62, 120]).toArray⟩) fun e w' => e = .returned (.tuple #[.agg #[.bool false, .string ⟨#[]⟩, .string ⟨#[]⟩, .string ⟨#[]⟩], .int .i64 0, .int .i64 7]) ∧ Below W.heap.size W w') := Lib.hid fun W N hJ hN => by
    subst hN
    have k1 := Lib.bytesWorld_below W 5 ⟨(S ++ [63, 62, 120]).toArray⟩
    have hl : (S ++ [63, 62, 120]).length ≤ 200 := by simp only [List.length_append, List.length_cons, List.length_nil]; omega
    have hby := (byt_new W (S ++ [63, 62, 120]) (by omega)).more (Nat.le_of_eq (Lib.bytesWorld_size W 5 ⟨(S ++ [63, 62, 120]).toArray⟩).symm)
    have hm4 : (S ++ [63, 62, 120]).length ≤ 40000 := Nat.le_trans hl (by decide)
    have hF : FoldT (Lib.bytesWorld W 5 ⟨(S ++ [63, 62, 120]).toArray⟩) := hT.below (hJ.1.trans (k1.mono hJ.1.size)) hT.lt
    have := xdText_c _ _ _ _ 0 _ hby hm4 hF
    rw [show declAt true (S ++ [63, 62, 120]) 0 = declOut true (S ++ [63, 62, 120]) 0 by unfold declAt; rw [if_neg (by omega)]; rfl, HK2, hv2] at this
    exact this.mono fun e w' ⟨he, hb2⟩ => ⟨he, k1.trans (hb2.mono k1.size)⟩
  have cv := fun W => run_toBytes W (S ++ [63, 62, 120])
  have pz : ∀ w : World, (Op.stringOp .add ⟨(S).toArray⟩ ⟨#[63, 62, 120]⟩).run Tryd.prog w = .ok (.string ⟨(S ++ [63, 62, 120]).toArray⟩) w := fun w => run_sop (w := w) (S) [63, 62, 120] (by simp only [List.length_cons, List.length_nil]; omega)
  have p0 : ∀ w : World, (Op.stringOp .add ⟨#[60, 63, 120, 109, 108]⟩ ⟨(blB (m % 4)).toArray⟩).run Tryd.prog w = .ok (.string ⟨([60, 63, 120, 109, 108] ++ blB (m % 4)).toArray⟩) w := fun w => run_sop (w := w) ([60, 63, 120, 109, 108]) (blB (m % 4)) (by have := bl_len (m % 4); have := bl_len (m / 4 % 4); have := bl_len (m / 16 % 4); have := qt_len (m % 2); simp only [List.length_cons, List.length_nil]; omega)
  have p1 : ∀ w : World, (Op.stringOp .add ⟨([60, 63, 120, 109, 108] ++ blB (m % 4)).toArray⟩ ⟨#[118, 101, 114, 115, 105, 111, 110]⟩).run Tryd.prog w = .ok (.string ⟨([60, 63, 120, 109, 108] ++ blB (m % 4) ++ [118, 101, 114, 115, 105, 111, 110]).toArray⟩) w := fun w => run_sop (w := w) ([60, 63, 120, 109, 108] ++ blB (m % 4)) ([118, 101, 114, 115, 105, 111, 110]) (by have := bl_len (m % 4); have := bl_len (m / 4 % 4); have := bl_len (m / 16 % 4); have := qt_len (m % 2); simp only [List.length_append, List.length_cons, List.length_nil]; omega)
  have p2 : ∀ w : World, (Op.stringOp .add ⟨([60, 63, 120, 109, 108] ++ blB (m % 4) ++ [118, 101, 114, 115, 105, 111, 110]).toArray⟩ ⟨(blB (m / 4 % 4)).toArray⟩).run Tryd.prog w = .ok (.string ⟨([60, 63, 120, 109, 108] ++ blB (m % 4) ++ [118, 101, 114, 115, 105, 111, 110] ++ blB (m / 4 % 4)).toArray⟩) w := fun w => run_sop (w := w) ([60, 63, 120, 109, 108] ++ blB (m % 4) ++ [118, 101, 114, 115, 105, 111, 110]) (blB (m / 4 % 4)) (by have := bl_len (m % 4); have := bl_len (m / 4 % 4); have := bl_len (m / 16 % 4); have := qt_len (m % 2); simp only [List.length_append, List.length_cons, List.length_nil]; omega)
  have p3 : ∀ w : World, (Op.stringOp .add ⟨([60, 63, 120, 109, 108] ++ blB (m % 4) ++ [118, 101, 114, 115, 105, 111, 110] ++ blB (m / 4 % 4)).toArray⟩ ⟨#[61]⟩).run Tryd.prog w = .ok (.string ⟨([60, 63, 120, 109, 108] ++ blB (m % 4) ++ [118, 101, 114, 115, 105, 111, 110] ++ blB (m / 4 % 4) ++ [61]).toArray⟩) w := fun w => run_sop (w := w) ([60, 63, 120, 109, 108] ++ blB (m % 4) ++ [118, 101, 114, 115, 105, 111, 110] ++ blB (m / 4 % 4)) ([61]) (by have := bl_len (m % 4); have := bl_len (m / 4 % 4); have := bl_len (m / 16 % 4); have := qt_len (m % 2); simp only [List.length_append, List.length_cons, List.length_nil]; omega)
  have p4 : ∀ w : World, (Op.stringOp .add ⟨([60, 63, 120, 109, 108] ++ blB (m % 4) ++ [118, 101, 114, 115, 105, 111, 110] ++ blB (m / 4 % 4) ++ [61]).toArray⟩ ⟨(blB (m / 16 % 4)).toArray⟩).run Tryd.prog w = .ok (.string ⟨([60, 63, 120, 109, 108] ++ blB (m % 4) ++ [118, 101, 114, 115, 105, 111, 110] ++ blB (m / 4 % 4) ++ [61] ++ blB (m / 16 % 4)).toArray⟩) w := fun w => run_sop (w := w) ([60, 63, 120, 109, 108] ++ blB (m % 4) ++ [118, 101, 114, 115, 105, 111, 110] ++ blB (m / 4 % 4) ++ [61]) (blB (m / 16 % 4)) (by have := bl_len (m % 4); have := bl_len (m / 4 % 4); have := bl_len (m / 16 % 4); have := qt_len (m % 2); simp only [List.length_append, List.length_cons, List.length_nil]; omega)
  have p5 : ∀ w : World, (Op.stringOp .add ⟨([60, 63, 120, 109, 108] ++ blB (m % 4) ++ [118, 101, 114, 115, 105, 111, 110] ++ blB (m / 4 % 4) ++ [61] ++ blB (m / 16 % 4)).toArray⟩ ⟨(qtB (m % 2)).toArray⟩).run Tryd.prog w = .ok (.string ⟨([60, 63, 120, 109, 108] ++ blB (m % 4) ++ [118, 101, 114, 115, 105, 111, 110] ++ blB (m / 4 % 4) ++ [61] ++ blB (m / 16 % 4) ++ qtB (m % 2)).toArray⟩) w := fun w => run_sop (w := w) ([60, 63, 120, 109, 108] ++ blB (m % 4) ++ [118, 101, 114, 115, 105, 111, 110] ++ blB (m / 4 % 4) ++ [61] ++ blB (m / 16 % 4)) (qtB (m % 2)) (by have := bl_len (m % 4); have := bl_len (m / 4 % 4); have := bl_len (m / 16 % 4); have := qt_len (m % 2); simp only [List.length_append, List.length_cons, List.length_nil]; omega)
  have p6 : ∀ w : World, (Op.stringOp .add ⟨([60, 63, 120, 109, 108] ++ blB (m % 4) ++ [118, 101, 114, 115, 105, 111, 110] ++ blB (m / 4 % 4) ++ [61] ++ blB (m / 16 % 4) ++ qtB (m % 2)).toArray⟩ ⟨#[49, 46, 49]⟩).run Tryd.prog w = .ok (.string ⟨([60, 63, 120, 109, 108] ++ blB (m % 4) ++ [118, 101, 114, 115, 105, 111, 110] ++ blB (m / 4 % 4) ++ [61] ++ blB (m / 16 % 4) ++ qtB (m % 2) ++ [49, 46, 49]).toArray⟩) w := fun w => run_sop (w := w) ([60, 63, 120, 109, 108] ++ blB (m % 4) ++ [118, 101, 114, 115, 105, 111, 110] ++ blB (m / 4 % 4) ++ [61] ++ blB (m / 16 % 4) ++ qtB (m % 2)) ([49, 46, 49]) (by have := bl_len (m % 4); have := bl_len (m / 4 % 4); have := bl_len (m / 16 % 4); have := qt_len (m % 2); simp only [List.length_append, List.length_cons, List.length_nil]; omega)
  have p7 : ∀ w : World, (Op.stringOp .add ⟨([60, 63, 120, 109, 108] ++ blB (m % 4) ++ [118, 101, 114, 115, 105, 111, 110] ++ blB (m / 4 % 4) ++ [61] ++ blB (m / 16 % 4) ++ qtB (m % 2) ++ [49, 46, 49]).toArray⟩ ⟨(qtB (m % 2)).toArray⟩).run Tryd.prog w = .ok (.string ⟨([60, 63, 120, 109, 108] ++ blB (m % 4) ++ [118, 101, 114, 115, 105, 111, 110] ++ blB (m / 4 % 4) ++ [61] ++ blB (m / 16 % 4) ++ qtB (m % 2) ++ [49, 46, 49] ++ qtB (m % 2)).toArray⟩) w := fun w => run_sop (w := w) ([60, 63, 120, 109, 108] ++ blB (m % 4) ++ [118, 101, 114, 115, 105, 111, 110] ++ blB (m / 4 % 4) ++ [61] ++ blB (m / 16 % 4) ++ qtB (m % 2) ++ [49, 46, 49]) (qtB (m % 2)) (by have := bl_len (m % 4); have := bl_len (m / 4 % 4); have := bl_len (m / 16 % 4); have := qt_len (m % 2); simp only [List.length_append, List.length_cons, List.length_nil]; omega)
  have r0 : ∀ w : World, (Op.stringOp .add ⟨(S1).toArray⟩ ⟨(blB (m / 2 % 4)).toArray⟩).run Tryd.prog w = .ok (.string ⟨(S1 ++ blB (m / 2 % 4)).toArray⟩) w := fun w => run_sop (w := w) (S1) (blB (m / 2 % 4)) (by have := bl_len (m / 2 % 4); have := bl_len (m / 8 % 4); have := qt_len (m / 2 % 2); have := htlb; omega)
  have r1 : ∀ w : World, (Op.stringOp .add ⟨(S1 ++ blB (m / 2 % 4)).toArray⟩ ⟨#[115, 116, 97, 110, 100, 97, 108, 111, 110, 101, 61]⟩).run Tryd.prog w = .ok (.string ⟨(S1 ++ blB (m / 2 % 4) ++ [115, 116, 97, 110, 100, 97, 108, 111, 110, 101, 61]).toArray⟩) w := fun w => run_sop (w := w) (S1 ++ blB (m / 2 % 4)) ([115, 116, 97, 110, 100, 97, 108, 111, 110, 101, 61]) (by have := bl_len (m / 2 % 4); have := bl_len (m / 8 % 4); have := qt_len (m / 2 % 2); have := htlb; simp only [List.length_append, List.length_cons, List.length_nil]; omega)
  have r2 : ∀ w : World, (Op.stringOp .add ⟨(S1 ++ blB (m / 2 % 4) ++ [115, 116, 97, 110, 100, 97, 108, 111, 110, 101, 61]).toArray⟩ ⟨(qtB (m / 2 % 2)).toArray⟩).run Tryd.prog w = .ok (.string ⟨(S1 ++ blB (m / 2 % 4) ++ [115, 116, 97, 110, 100, 97, 108, 111, 110, 101, 61] ++ qtB (m / 2 % 2)).toArray⟩) w := fun w => run_sop (w := w) (S1 ++ blB (m / 2 % 4) ++ [115, 116, 97, 110, 100, 97, 108, 111, 110, 101, 61]) (qtB (m / 2 % 2)) (by have := bl_len (m / 2 % 4); have := bl_len (m / 8 % 4); have := qt_len (m / 2 % 2); have := htlb; simp only [List.length_append, List.length_cons, List.length_nil]; omega)
  have r3 : ∀ w : World, (Op.stringOp .add ⟨(S1 ++ blB (m / 2 % 4) ++ [115, 116, 97, 110, 100, 97, 108, 111, 110, 101, 61] ++ qtB (m / 2 % 2)).toArray⟩ ⟨#[110, 111]⟩).run Tryd.prog w = .ok (.string ⟨(S1 ++ blB (m / 2 % 4) ++ [115, 116, 97, 110, 100, 97, 108, 111, 110, 101, 61] ++ qtB (m / 2 % 2) ++ [110, 111]).toArray⟩) w := fun w => run_sop (w := w) (S1 ++ blB (m / 2 % 4) ++ [115, 116, 97, 110, 100, 97, 108, 111, 110, 101, 61] ++ qtB (m / 2 % 2)) ([110, 111]) (by have := bl_len (m / 2 % 4); have := bl_len (m / 8 % 4); have := qt_len (m / 2 % 2); have := htlb; simp only [List.length_append, List.length_cons, List.length_nil]; omega)
  have r4 : ∀ w : World, (Op.stringOp .add ⟨(S1 ++ blB (m / 2 % 4) ++ [115, 116, 97, 110, 100, 97, 108, 111, 110, 101, 61] ++ qtB (m / 2 % 2) ++ [110, 111]).toArray⟩ ⟨(qtB (m / 2 % 2)).toArray⟩).run Tryd.prog w = .ok (.string ⟨(S1 ++ blB (m / 2 % 4) ++ [115, 116, 97, 110, 100, 97, 108, 111, 110, 101, 61] ++ qtB (m / 2 % 2) ++ [110, 111] ++ qtB (m / 2 % 2)).toArray⟩) w := fun w => run_sop (w := w) (S1 ++ blB (m / 2 % 4) ++ [115, 116, 97, 110, 100, 97, 108, 111, 110, 101, 61] ++ qtB (m / 2 % 2) ++ [110, 111]) (qtB (m / 2 % 2)) (by have := bl_len (m / 2 % 4); have := bl_len (m / 8 % 4); have := qt_len (m / 2 % 2); have := htlb; simp only [List.length_append, List.length_cons, List.length_nil]; omega)
  have r5 : ∀ w : World, (Op.stringOp .add ⟨(S1 ++ blB (m / 2 % 4) ++ [115, 116, 97, 110, 100, 97, 108, 111, 110, 101, 61] ++ qtB (m / 2 % 2) ++ [110, 111] ++ qtB (m / 2 % 2)).toArray⟩ ⟨(blB (m / 8 % 4)).toArray⟩).run Tryd.prog w = .ok (.string ⟨(S1 ++ blB (m / 2 % 4) ++ [115, 116, 97, 110, 100, 97, 108, 111, 110, 101, 61] ++ qtB (m / 2 % 2) ++ [110, 111] ++ qtB (m / 2 % 2) ++ blB (m / 8 % 4)).toArray⟩) w := fun w => run_sop (w := w) (S1 ++ blB (m / 2 % 4) ++ [115, 116, 97, 110, 100, 97, 108, 111, 110, 101, 61] ++ qtB (m / 2 % 2) ++ [110, 111] ++ qtB (m / 2 % 2)) (blB (m / 8 % 4)) (by have := bl_len (m / 2 % 4); have := bl_len (m / 8 % 4); have := qt_len (m / 2 % 2); have := htlb; simp only [List.length_append, List.length_cons, List.length_nil]; omega)
  rw [← HS1.out] at p7
  rw [← HS2.out] at r5
  clear hT HK HK1 HK2 hv1 hv2
  have hlen : ((S ++ [63, 62, 120]).length : Int) ≤ 200 := by simp only [List.length_append, List.length_cons, List.length_nil]; omega
  have hl1 : ((S).length : Int) ≤ 100 := by omega
  clear HS1 HS2 htl
  generalize S ++ [63, 62, 120] = t at *
  generalize S1 ++ blB (m / 2 % 4) ++ [115, 116, 97, 110, 100, 97, 108, 111, 110, 101, 61] ++ qtB (m / 2 % 2) ++ [110, 111] ++ qtB (m / 2 % 2) = u4x at *
  generalize S1 ++ blB (m / 2 % 4) ++ [115, 116, 97, 110, 100, 97, 108, 111, 110, 101, 61] ++ qtB (m / 2 % 2) ++ [110, 111] = u3x at *
  generalize S1 ++ blB (m / 2 % 4) ++ [115, 116, 97, 110, 100, 97, 108, 111, 110, 101, 61] ++ qtB (m / 2 % 2) = u2x at *
  generalize S1 ++ blB (m / 2 % 4) ++ [115, 116, 97, 110, 100, 97, 108, 111, 110, 101, 61] = u1x at *
  generalize S1 ++ blB (m / 2 % 4) = u0x at *
  generalize [60, 63, 120, 109, 108] ++ blB (m % 4) ++ [118, 101, 114, 115, 105, 111, 110] ++ blB (m / 4 % 4) ++ [61] ++ blB (m / 16 % 4) ++ qtB (m % 2) ++ [49, 46, 49] = s6 at *
  generalize [60, 63, 120, 109, 108] ++ blB (m % 4) ++ [118, 101, 114, 115, 105, 111, 110] ++ blB (m / 4 % 4) ++ [61] ++ blB (m / 16 % 4) ++ qtB (m % 2) = s5 at *
  generalize [60, 63, 120, 109, 108] ++ blB (m % 4) ++ [118, 101, 114, 115, 105, 111, 110] ++ blB (m / 4 % 4) ++ [61] ++ blB (m / 16 % 4) = s4 at *
  generalize [60, 63, 120, 109, 108] ++ blB (m % 4) ++ [118, 101, 114, 115, 105, 111, 110] ++ blB (m / 4 % 4) ++ [61] = s3 at *
  generalize [60, 63, 120, 109, 108] ++ blB (m % 4) ++ [118, 101, 114, 115, 105, 111, 110] ++ blB (m / 4 % 4) = s2 at *
  generalize [60, 63, 120, 109, 108] ++ blB (m % 4) ++ [118, 101, 114, 115, 105, 111, 110] = s1 at *
  generalize [60, 63, 120, 109, 108] ++ blB (m % 4) = s0 at *
  have i0 : m % 4 < 4 := by omega
  have i1 : m / 4 % 4 < 4 := by omega
  have i2 : m / 16 % 4 < 4 := by omega
  have i3 : m % 2 < 2 := by omega
  have i4 : m / 2 % 4 < 4 := by omega
  have i5 : m / 2 % 2 < 2 := by omega
  have i6 : m / 8 % 4 < 4 := by omega
  have J0 := Lib.hid (BJ.start w)
  have z0 := J0.out.b (m % 4) i0
  have z1 := J0.out.b (m / 4 % 4) i1
  have z2 := J0.out.b (m / 16 % 4) i2
  have z3 := J0.out.q (m % 2) i3
  have hB3 := fun W (h : BJ w W) => h.b (m / 2 % 4) i4
  have hB4 := fun W (h : BJ w W) => h.b (m / 8 % 4) i6
  have hQ1 := fun W (h : BJ w W) => h.q (m / 2 % 2) i5
  generalize blB (m % 4) = B0 at *
  generalize blB (m / 4 % 4) = B1 at *
  generalize blB (m / 16 % 4) = B2 at *
  generalize qtB (m % 2) = Q0 at *
  generalize blB (m / 2 % 4) = B3 at *
  generalize blB (m / 8 % 4) = B4 at *
  generalize qtB (m / 2 % 2) = Q1 at *
  have HB3 := Lib.hid hB3
  have HB4 := Lib.hid hB4
  have HQ1 := Lib.hid hQ1
  clear hB3 hB4 hQ1
  have hi : (Tryd.prog.info? 53).map (·.size) = some 4 := by kernel_rfl
  obtain ⟨d, hu⟩ := isStruct_of (P := Tryd.prog) (t := 53) (by kernel_rfl)
  have HU := Lib.hid (And.intro hi hu)
  clear hi hu
  go_enter Tryd.func7, Tryd.ntmps7
  go_wp2
  go_quiet (fail)
  have J1 := Lib.hid (J0.out.kept (below_drewN' (n := nq) (Below.refl _ _)))
  clear z0 z1 z2 z3
  generalize ((w.alloc (.cells #[.string ⟨#[32]⟩, .string ⟨#[9]⟩, .string ⟨#[10, 32]⟩, .string ⟨#[32, 32]⟩] 9)).alloc (.cells #[.string ⟨#[34]⟩, .string ⟨#[39]⟩] 9)).drewN nq = w2 at *
  have J2 := Lib.hid (J1.out.kept ((Below.refl _ w2).alloc (Nat.le_refl _) (.cells #[.bool true, .string ⟨#[49, 46, 49]⟩, .string ⟨#[]⟩, .string ⟨#[]⟩] 53)))
  have z4 := HB3.out _ J2.out
  have z5 := HB4.out _ J2.out
  have z6 := HQ1.out _ J2.out
  go_wp2
  go_quiet (fail)
  have J3 := Lib.hid (J2.out.kept (below_drewN' (n := nq) (Below.refl _ _)))
  have hq0 : ((w2.alloc (.cells #[.bool true, .string ⟨#[49, 46, 49]⟩, .string ⟨#[]⟩, .string ⟨#[]⟩] 53)).drewN nq).heap[w2.heap.size]? = some (.cells #[.bool true, .string ⟨#[49, 46, 49]⟩, .string ⟨#[]⟩, .string ⟨#[]⟩] 53) := hp_new w2 _
  have hsz0 : ((w2.alloc (.cells #[.bool true, .string ⟨#[49, 46, 49]⟩, .string ⟨#[]⟩, .string ⟨#[]⟩] 53)).drewN nq).heap.size = w2.heap.size + 1 := by simp
  have hwl : w.heap.size + 2 ≤ w2.heap.size := lt_of J1.out.2.2
  obtain ⟨tb, htb⟩ : ∃ tb, tb = w2.heap.size := ⟨_, rfl⟩
  rw [← htb] at hq0 hwl
  clear z4 z5 z6
  generalize (w2.alloc (.cells #[.bool true, .string ⟨#[49, 46, 49]⟩, .string ⟨#[]⟩, .string ⟨#[]⟩] 53)).drewN nq = w3 at *
  rw [← htb]
  clear htb
  have z7 := cell_of 3 hq0
  have y7 := free_of 3 hq0
  have hq4 : Hid ((w3.setCell ⟨tb, 3, none⟩ (.string ⟨#[110, 111]⟩)).heap[tb]? = some (.cells #[.bool true, .string ⟨#[49, 46, 49]⟩, .string ⟨#[]⟩, .string ⟨#[110, 111]⟩] 53)) := Lib.hid (hp_set (i := 3) (v := .string ⟨#[110, 111]⟩) hq0)
  have J4 : Hid (BJ w (w3.setCell ⟨tb, 3, none⟩ (.string ⟨#[110, 111]⟩))) := Lib.hid ⟨J3.out.1.setCell (p := ⟨tb, 3, none⟩) (by show w.heap.size ≤ tb; omega) _, by rw [hp_other (by omega)]; exact J3.out.2.1, by rw [hp_other (by omega)]; exact J3.out.2.2⟩
  go_wp2_with fail
  refine (C1.out _ _ J4.out (by simp [hsz0])).mono ?_
  rintro e w5 ⟨rfl, hb⟩
  have J5 := Lib.hid (J4.out.kept hb)
  have hq5 := Lib.hid ((hb.block tb (lt_of hq4.out)).trans hq4.out)
  clear hb
  have J6 := Lib.hid (J5.out.kept ((Below.refl _ w5).alloc (Nat.le_refl _) (.cells #[.bool true, .string ⟨#[49, 46, 49]⟩, .string ⟨#[]⟩, .string ⟨#[110, 111]⟩] 53)))
  have hq6 : Hid ((w5.alloc (.cells #[.bool true, .string ⟨#[49, 46, 49]⟩, .string ⟨#[]⟩, .string ⟨#[110, 111]⟩] 53)).heap[tb]? = some (.cells #[.bool true, .string ⟨#[49, 46, 49]⟩, .string ⟨#[]⟩, .string ⟨#[110, 111]⟩] 53)) := Lib.hid (hp_old hq5.out)
  have hr6 := Lib.hid (hp_new w5 (.cells #[.bool true, .string ⟨#[49, 46, 49]⟩, .string ⟨#[]⟩, .string ⟨#[110, 111]⟩] 53))
  go_wp2_with fail
  refine (C2.out _ _ J6.out (by simp)).mono ?_
  rintro e w7 ⟨rfl, hb⟩
  have J7 := J6.out.kept hb
  have J8 := Lib.hid (J7.kept ((Below.refl _ w7).alloc (Nat.le_refl _) (.cells #[.bool false, .string ⟨#[]⟩, .string ⟨#[]⟩, .string ⟨#[]⟩] 53)))
  have hq8 : Hid ((w7.alloc (.cells #[.bool false, .string ⟨#[]⟩, .string ⟨#[]⟩, .string ⟨#[]⟩] 53)).heap[tb]? = some (.cells #[.bool true, .string ⟨#[49, 46, 49]⟩, .string ⟨#[]⟩, .string ⟨#[110, 111]⟩] 53)) := Lib.hid (hp_old ((hb.block tb (lt_of hq6.out)).trans hq6.out))
  have hr8 : Hid ((w7.alloc (.cells #[.bool false, .string ⟨#[]⟩, .string ⟨#[]⟩, .string ⟨#[]⟩] 53)).heap[w5.heap.size]? = some (.cells #[.bool true, .string ⟨#[49, 46, 49]⟩, .string ⟨#[]⟩, .string ⟨#[110, 111]⟩] 53)) := Lib.hid (hp_old ((hb.block w5.heap.size (lt_of hr6.out)).trans hr6.out))
  clear hb J7 cv pz
  go_wp2_with (first | (refine wpList_load_row rfl _ _ rfl w5.heap.size rfl _ _ _ _ hr8.out HU.out.2 rfl HU.out.1 ?_) | (refine wpList_load_row rfl _ _ rfl tb rfl _ _ _ _ hq8.out HU.out.2 rfl HU.out.1 ?_))
  refine (LV.out _ J8.out).mono ?_
  rintro e w9 ⟨rfl, hb⟩
  have B9 := Lib.hid (J8.out.kept hb).1
  clear hb
  go_wp2
  go_ret
  exact ⟨rfl, B9.out⟩
theorem xdeclBlanks_walk (z : Int) (b : Bool) (w : World) (hwf : (Lit.int .u8 z).wf = true) (hT : FoldT w) :
    Calls Tryd.prog 7 #[.int .u8 z, .bool b] w fun e w' => e = .returned (.bool true) ∧ Below w.heap.size w w' := by
  have hb := bounds_u8 hwf
  obtain ⟨m, rfl⟩ : ∃ m : Nat, z = (m : Int) := ⟨z.toNat, by omega⟩
  cases b with
  | false => exact blanks_B m (by omega) w hT
  | true => exact blanks_A m (by omega) w hT
end Go.Proofs.YtcpljjajobfkkaaDoor
