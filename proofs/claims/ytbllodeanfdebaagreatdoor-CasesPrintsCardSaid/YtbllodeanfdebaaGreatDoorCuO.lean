/- The parameter of CasesPrints read. -/
import Derived.Test.YtbllodeanfdebaaGreatDoorRows
import Derived.WalkKit
import Derived.ProofKit
import Derived.OpenShut
import Derived.ShutString
import Derived.ChangeOld
import Derived.Below
import Derived.BigQuiet
import Derived.Deep.QuietTactic
import Derived.Lib.Hide
import Derived.Deep.RegionHeld3
import Derived.Lib.SlBytesConst
import Derived.Laws.CopyOwn
import Derived.Laws.CopyRow
import Derived.Lib.Bytes
import Derived.Deep.LoopGhost
import Derived.Deep.DeepFit
import Derived.Deep.DeepMust
import Derived.WalkSpells
import Derived.WalkLawsBesides
import Derived.Laws.EntriesVeiled
import Derived.Lib.IndexBytes
import Derived.Deep.RegionWith
import Derived.Tactics2
import Derived.Laws.Rows
import Derived.Lib.Replace
import Derived.Lib.Split
import Derived.Lib.ItoaNum
import Derived.Lib.AtoiAllCases
import Derived.Lib.AtoiErrMem
import Derived.Lib.AppendIntMem
import Derived.Maps.OwnOps
import Derived.Maps.OwnSet
import Derived.Maps.Views
import Derived.Maps.AppendAt
import Derived.Deep.AppendLies
import Derived.Defers
import Derived.Recover
import Derived.Laws.Pointers
import Derived.ArgAppend
import Derived.Deep.AppendSrc
import Derived.Deep.Upon
import Derived.Deep.Slices
import Derived.Deep.Fields
import Derived.Lib.SmallJoins
import Derived.ChangeArms
import Derived.DataReads
import Derived.OpenShut
import Derived.Test.YtbllodeanfdebaaGreatDoorRows
import Derived.Test.YtbllodeanfdebaaGreatDoorShelf
import Derived.Test.YtbllodeanfdebaaGreatDoorBase
import Derived.Test.YtbllodeanfdebaaGreatDoorCsE
import Derived.Test.YtbllodeanfdebaaGreatDoorCsG
import Derived.Test.YtbllodeanfdebaaGreatDoorCsH
import Derived.Test.YtbllodeanfdebaaGreatDoorCsI
import Derived.Test.YtbllodeanfdebaaGreatDoorCsJ
import Derived.Test.YtbllodeanfdebaaGreatDoorCalm
import Derived.Test.YtbllodeanfdebaaGreatDoorCsL
import Derived.Test.YtbllodeanfdebaaGreatDoorRowS
import Derived.Test.YtbllodeanfdebaaGreatDoorRowG
import Derived.Test.YtbllodeanfdebaaGreatDoorCsO
import Derived.Test.YtbllodeanfdebaaGreatDoorCsM
import Derived.Test.YtbllodeanfdebaaGreatDoorCsN2
import Derived.Test.YtbllodeanfdebaaGreatDoorStL
import Derived.Test.YtbllodeanfdebaaGreatDoorCsO2
import Derived.Test.YtbllodeanfdebaaGreatDoorCsQ
import Derived.Test.YtbllodeanfdebaaGreatDoorStr
import Derived.Test.YtbllodeanfdebaaGreatDoorCsR
import Derived.Test.YtbllodeanfdebaaGreatDoorCsS
import Derived.Test.YtbllodeanfdebaaGreatDoorCsT
import Derived.Test.YtbllodeanfdebaaGreatDoorCsU
import Derived.Test.YtbllodeanfdebaaGreatDoorCsV
import Derived.Test.YtbllodeanfdebaaGreatDoorCsW
import Derived.Test.YtbllodeanfdebaaGreatDoorCsY
import Derived.Test.YtbllodeanfdebaaGreatDoorCsZ
import Derived.Test.YtbllodeanfdebaaGreatDoorCsPa
import Derived.Test.YtbllodeanfdebaaGreatDoorRpC
import Derived.Test.YtbllodeanfdebaaGreatDoorCtD
import Derived.Test.YtbllodeanfdebaaGreatDoorCtE
import Derived.Test.YtbllodeanfdebaaGreatDoorCsB2
import Derived.Test.YtbllodeanfdebaaGreatDoorBuild
import Derived.Test.YtbllodeanfdebaaGreatDoorCsPb
import Derived.Test.YtbllodeanfdebaaGreatDoorCtF
import Derived.Test.YtbllodeanfdebaaGreatDoorCuA
import Derived.Test.YtbllodeanfdebaaGreatDoorCuB
import Derived.Test.YtbllodeanfdebaaGreatDoorCuE
import Derived.Test.YtbllodeanfdebaaGreatDoorBits
import Derived.Test.YtbllodeanfdebaaGreatDoorCuC
import Derived.Test.YtbllodeanfdebaaGreatDoorCuF
import Derived.Test.YtbllodeanfdebaaGreatDoorCuJ
import Derived.Test.YtbllodeanfdebaaGreatDoorCsX
import Derived.Test.YtbllodeanfdebaaGreatDoorCuI
namespace Go.Proofs.YtbllodeanfdebaaGreatDoor
open Go.ChangeShapes Go.WideShapes Go.ChangeAt Go.RowKit
set_option linter.unusedVariables false
theorem cellsStrO : Tryz.prog.cellsOf 9 = 1 := by kernel_rfl
theorem cellsBoolO : Tryz.prog.cellsOf 4 = 1 := by kernel_rfl
theorem cellsIntO : Tryz.prog.cellsOf 3 = 1 := by kernel_rfl
theorem cellsU8O : Tryz.prog.cellsOf 5 = 1 := by kernel_rfl
theorem cellsBytesO : Tryz.prog.cellsOf 23 = 1 := by kernel_rfl
theorem cellsStrsO : Tryz.prog.cellsOf 24 = 1 := by kernel_rfl
theorem cellsAnssO : Tryz.prog.cellsOf 27 = 1 := by kernel_rfl
theorem cellsAnsO : Tryz.prog.cellsOf 71 = 3 := by kernel_rfl
theorem cellsCfgO : Tryz.prog.cellsOf 26 = 7 := by kernel_rfl
theorem cellsCase28 : Tryz.prog.cellsOf 43 = 8 := by kernel_rfl
section
variable {H : Type} {enc : TypeId × Value → H} {W : World} {held : Bool}
open Go.Deep in
/-- A row read, whatever its elements are. -/
theorem rowO_open {t e : TypeId} {k : Nat} {α : Type} {c : α → List Value} (Good : α → Prop) (ht : Tryz.prog.underlying t = some (.slice e)) (ce : Tryz.prog.cellsOf e = k) (hk0 : 0 < k) (hk : ∀ a, (c a).length = k)
    (ho : ∀ {n : Nat} {cs : List Value} {x : DataW H × List MemPlace}, DataW.trod enc Tryz.prog W 0 (fun _ => true) held n e cs = some x → ∃ a, cs = c a ∧ Good a)
    {n : Nat} {v : Value} {x : DataW H × List MemPlace} (h : DataW.trod enc Tryz.prog W 0 (fun _ => true) held n t [v] = some x) :
    ∃ A len cap xs, v = .slice A len cap ∧ RRd c k W W.heap.size A len cap xs ∧ ∀ a ∈ xs, Good a := by
  rcases open_slice ht h with ⟨hc, _⟩ | ⟨a, len, cap, m, k', D, Pl, hc, _, hl, hm, hmm, hx, hi⟩
  · simp at hc
    subst hc
    exact ⟨none, 0, 0, [], rfl, RRd.nilR c k W _, fun a ha => by cases ha⟩
  · simp at hc
    subst hc
    have hmc : m = cap := by simpa using hmm
    subst hmc
    have key : ∀ i, i < m → ∃ z : α, (∀ (j : Nat) u, (c z)[j]? = some u → W.cell? (a.add (i * k + j)) = some u) ∧ Good z := by
      intro i hil
      obtain ⟨cs', h1, h2⟩ := hi i hil
      rw [ce] at h1
      obtain ⟨_, hlen, hcell⟩ := World.cells?_some h1
      obtain ⟨z, e0, b0⟩ := ho h2
      refine ⟨z, fun j u hu => ?_, b0⟩
      have hj : j < k := by rw [← hk z]; exact (List.getElem?_eq_some_iff.1 hu).1
      have := hcell j hj
      rw [e0, hu, add_add] at this
      exact this
    rcases Nat.eq_zero_or_pos m with h00 | h00
    · subst h00
      obtain rfl : len = 0 := by omega
      exact ⟨some a, 0, 0, [], rfl, ⟨rfl, Nat.le_refl _, Nat.zero_le _, fun _ => rfl, fun h => absurd h (by omega)⟩, fun a ha => by cases ha⟩
    · obtain ⟨z0, _⟩ := key 0 h00
      have : Inhabited α := ⟨z0⟩
      obtain ⟨f, hf⟩ := choose_lt key
      refine ⟨some a, len, m, (List.range len).map f, rfl, ⟨by simp, hl, hm, (fun e => by cases e), fun h0 => ?_⟩, ?_⟩
      · obtain ⟨b, o, s⟩ := a
        have hz0 : ∃ u, (c (f 0))[0]? = some u := ⟨_, List.getElem?_eq_getElem (by rw [hk]; exact hk0)⟩
        obtain ⟨u0, hu0⟩ := hz0
        have h1 := (hf 0 h00).1 0 _ hu0
        have hs : s = none := by simpa [Addr.add] using World.cell?_spot h1
        subst hs
        refine ⟨b, o, rfl, by simpa [Addr.add] using World.block_lt_of_cell? W _ h1, fun i p hp j u hu => ?_⟩
        rw [List.getElem?_map] at hp
        have hil : i < len := by
          rcases Nat.lt_or_ge i len with h' | h'
          · exact h'
          · rw [List.getElem?_eq_none (by simp; omega)] at hp; cases hp
        rw [List.getElem?_range hil] at hp
        simp at hp
        subst hp
        have h2 := (hf i (by omega)).1 j u hu
        rwa [addr_add] at h2
      · intro p hp
        obtain ⟨i, hi', rfl⟩ := List.mem_map.1 hp
        exact (hf i (by have := List.mem_range.1 hi'; omega)).2
theorem u8_open {n : Nat} {cs : List Value} {x : DataW H × List MemPlace} (h : DataW.trod enc Tryz.prog W 0 (fun _ => true) held n 5 cs = some x) : ∃ b : UInt8, cs = [bv b] ∧ True := by
  obtain ⟨z, e0, _, hz⟩ := DataW.trod_int Tryz.underlying5 h
  have h2 := bounds_u8 hz
  refine ⟨UInt8.ofNat z.toNat, ?_, trivial⟩
  rw [e0]
  unfold bv
  rw [UInt8.toNat_ofNat', Nat.mod_eq_of_lt (by omega)]
  rw [Int.toNat_of_nonneg h2.1]
theorem strO_open {n : Nat} {cs : List Value} {x : DataW H × List MemPlace} (h : DataW.trod enc Tryz.prog W 0 (fun _ => true) held n 9 cs = some x) : ∃ s : List UInt8, cs = cS1 s ∧ True := by
  obtain ⟨s0, e0, e1, z0⟩ := DataW.trod_string Tryz.underlying9 h
  exact ⟨s0.data.toList, by rw [e0]; rfl, trivial⟩
theorem bytesO_open {n : Nat} {v : Value} {x : DataW H × List MemPlace} (h : DataW.trod enc Tryz.prog W 0 (fun _ => true) held n 23 [v] = some x) :
    ∃ A len cap l, v = .slice A len cap ∧ Byt W W.heap.size A len cap l := by
  obtain ⟨A, len, cap, l, e, hr, _⟩ := rowO_open (c := fun b : UInt8 => [bv b]) (k := 1) (fun _ => True) Tryz.underlying23 cellsU8O (by decide) (fun _ => rfl) (fun h => u8_open h) h
  refine ⟨A, len, cap, l, e, ⟨by rw [List.length_map]; exact hr.len, hr.le, hr.fit, hr.nil, fun h0 => ?_⟩⟩
  obtain ⟨b, o, e2, hb, hc⟩ := hr.at_ h0
  refine ⟨b, o, e2, hb, fun i u hu => ?_⟩
  rw [List.getElem?_map] at hu
  cases hl : l[i]? with
  | none => rw [hl] at hu; cases hu
  | some y =>
    rw [hl] at hu
    have := hc i y hl 0 (bv y) rfl
    rw [Nat.mul_one, Nat.add_zero] at this
    cases hu
    exact this
set_option maxRecDepth 100000 in
set_option maxHeartbeats 4000000 in
theorem ansO_open {n : Nat} {cs : List Value} {x : DataW H × List MemPlace} (h : DataW.trod enc Tryz.prog W 0 (fun _ => true) held n 71 cs = some x) : ∃ y : AnV, cs = cAn y ∧ Byt W W.heap.size y.A y.a.data.length y.cap y.a.data := by
  obtain ⟨xs, k, _, hx, hl, hlen, hF⟩ := DataW.trod_struct Tryz.underlying71 h
  rw [cellsAnsO] at hl
  match xs, hlen, cs, hl with
  | [y0, y1, y2], _, [d0, d1, d2], _ =>
    have g0 := hF 0 _ rfl
    have g1 := hF 1 _ rfl
    have g2 := hF 2 _ rfl
    simp [cellsStrO, cellsBoolO, cellsBytesO] at g0 g1 g2
    obtain ⟨s, e0, _⟩ := strO_open g0
    obtain ⟨b, e1, _⟩ := DataW.trod_bool Tryz.underlying4 g1
    obtain ⟨A, len, cap, l, e2, hb⟩ := bytesO_open g2
    simp [cS1] at e0 e1
    subst e0 e1 e2
    obtain rfl : l.length = len := hb.length
    exact ⟨⟨⟨s, b, l⟩, A, cap⟩, rfl, hb⟩
theorem anssO_open {n : Nat} {v : Value} {x : DataW H × List MemPlace} (h : DataW.trod enc Tryz.prog W 0 (fun _ => true) held n 27 [v] = some x) :
    ∃ A len cap ys, v = .slice A len cap ∧ RRd cAn 3 W W.heap.size A len cap ys ∧ ∀ y ∈ ys, Byt W W.heap.size y.A y.a.data.length y.cap y.a.data :=
  rowO_open (c := cAn) (k := 3) (fun y => Byt W W.heap.size y.A y.a.data.length y.cap y.a.data) Tryz.underlying27 cellsAnsO (by decide) (fun _ => rfl) (fun h => ansO_open h) h
theorem strsO_open {n : Nat} {v : Value} {x : DataW H × List MemPlace} (h : DataW.trod enc Tryz.prog W 0 (fun _ => true) held n 24 [v] = some x) :
    ∃ A len cap al, v = .slice A len cap ∧ RRd cS1 1 W W.heap.size A len cap al ∧ ∀ a ∈ al, True :=
  rowO_open (c := cS1) (k := 1) (fun _ => True) Tryz.underlying24 cellsStrO (by decide) (fun _ => rfl) (fun h => strO_open h) h
set_option maxRecDepth 100000 in
set_option maxHeartbeats 4000000 in
theorem cfgO_open {n : Nat} {cs : List Value} {x : DataW H × List MemPlace} (h : DataW.trod enc Tryz.prog W 0 (fun _ => true) held n 26 cs = some x) :
    ∃ (m0 m1 m2 m3 m4 m5 : Int) (A2 : Option Addr) (n2 c2 : Nat) (al : List (List UInt8)), cs = [.int .i64 m0, .int .i64 m1, .int .i64 m2, .int .i64 m3, .int .i64 m4, .int .i64 m5, .slice A2 n2 c2] ∧ RRd cS1 1 W W.heap.size A2 n2 c2 al := by
  obtain ⟨xs, k, _, hx, hl, hlen, hF⟩ := DataW.trod_struct Tryz.underlying26 h
  rw [cellsCfgO] at hl
  match xs, hlen, cs, hl with
  | [y0, y1, y2, y3, y4, y5, y6], _, [d0, d1, d2, d3, d4, d5, d6], _ =>
    have g0 := hF 0 _ rfl
    have g1 := hF 1 _ rfl
    have g2 := hF 2 _ rfl
    have g3 := hF 3 _ rfl
    have g4 := hF 4 _ rfl
    have g5 := hF 5 _ rfl
    have g6 := hF 6 _ rfl
    simp [cellsIntO, cellsStrsO] at g0 g1 g2 g3 g4 g5 g6
    obtain ⟨m0, e0, _⟩ := DataW.trod_int Tryz.underlying3 g0
    obtain ⟨m1, e1, _⟩ := DataW.trod_int Tryz.underlying3 g1
    obtain ⟨m2, e2, _⟩ := DataW.trod_int Tryz.underlying3 g2
    obtain ⟨m3, e3, _⟩ := DataW.trod_int Tryz.underlying3 g3
    obtain ⟨m4, e4, _⟩ := DataW.trod_int Tryz.underlying3 g4
    obtain ⟨m5, e5, _⟩ := DataW.trod_int Tryz.underlying3 g5
    obtain ⟨A, len, cap, al, e6, hr, _⟩ := strsO_open g6
    simp at e0 e1 e2 e3 e4 e5
    subst e0 e1 e2 e3 e4 e5 e6
    exact ⟨m0, m1, m2, m3, m4, m5, A, len, cap, al, rfl, hr⟩
set_option maxRecDepth 100000 in
set_option maxHeartbeats 4000000 in
theorem case28_open {n : Nat} {cs : List Value} {x : DataW H × List MemPlace} (h : DataW.trod enc Tryz.prog W 0 (fun _ => true) held n 43 cs = some x) :
    ∃ (m0 m1 m2 m3 m4 m5 : Int) (A2 : Option Addr) (n2 c2 : Nat) (al : List (List UInt8)) (A3 : Option Addr) (n3 c3 : Nat) (ys : List AnV), cs = [.int .i64 m0, .int .i64 m1, .int .i64 m2, .int .i64 m3, .int .i64 m4, .int .i64 m5, .slice A2 n2 c2, .slice A3 n3 c3] ∧ RRd cS1 1 W W.heap.size A2 n2 c2 al ∧ RRd cAn 3 W W.heap.size A3 n3 c3 ys ∧ ∀ y ∈ ys, Byt W W.heap.size y.A y.a.data.length y.cap y.a.data := by
  obtain ⟨xs, k, _, hx, hl, hlen, hF⟩ := DataW.trod_struct Tryz.underlying43 h
  rw [cellsCase28] at hl
  match xs, hlen, cs, hl with
  | [y0, y1], _, [d0, d1, d2, d3, d4, d5, d6, d7], _ =>
    have g0 := hF 0 _ rfl
    have g1 := hF 1 _ rfl
    simp [cellsCfgO, cellsAnssO] at g0 g1
    obtain ⟨m0, m1, m2, m3, m4, m5, A2, n2, c2, al, e0, hr⟩ := cfgO_open g0
    obtain ⟨A3, n3, c3, ys, e1, h3, h4⟩ := anssO_open g1
    simp at e0
    obtain ⟨rfl, rfl, rfl, rfl, rfl, rfl, rfl⟩ := e0
    subst e1
    exact ⟨m0, m1, m2, m3, m4, m5, A2, n2, c2, al, A3, n3, c3, ys, rfl, hr, h3, h4⟩
end
theorem casesPrints_card (A1 : Option Addr) (n1 c1 : Nat) (doc : List UInt8) (m0 m1 m2 m3 m4 m5 : Int) (A2 : Option Addr) (n2 c2 : Nat) (al : List (List UInt8)) (A3 : Option Addr) (n3 c3 : Nat) (ys : List AnV) (W : World) (h1 : Byt W W.heap.size A1 n1 c1 doc) (h2 : RRd cS1 1 W W.heap.size A2 n2 c2 al) (h3 : RRd cAn 3 W W.heap.size A3 n3 c3 ys) (h4 : ∀ y ∈ ys, Byt W W.heap.size y.A y.a.data.length y.cap y.a.data) (hw : WC W.heap.size W) :
    Calls Tryz.prog 4 #[.slice A1 n1 c1, .agg #[.int .i64 m0, .int .i64 m1, .int .i64 m2, .int .i64 m3, .int .i64 m4, .int .i64 m5, .slice A2 n2 c2, .slice A3 n3 c3]] W fun e w' => e = .returned (.bool true) ∧ Below W.heap.size W w' :=
  casesPrints_law W doc al A1 A2 A3 c1 c2 c3 n1 n2 n3 ys m0 m1 m2 m3 m4 m5 hw h1 h2 h3 h4
end Go.Proofs.YtbllodeanfdebaaGreatDoor
