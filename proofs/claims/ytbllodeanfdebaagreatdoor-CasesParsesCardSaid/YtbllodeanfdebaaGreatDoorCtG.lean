/- The document reading a case. -/
import Derived.Test.YtbllodeanfdebaaGreatDoorRows
import Derived.WalkKit
import Derived.ProofKit
import Derived.OpenShut
import Derived.ShutString
import Derived.ChangeOld
import Derived.Below
import Derived.BigQuiet
import Derived.Deep.QuietTactic
import Derived.Lib.Hide
import Derived.Deep.RegionHeld3
import Derived.Lib.SlBytesConst
import Derived.Laws.CopyOwn
import Derived.Laws.CopyRow
import Derived.Lib.Bytes
import Derived.Deep.LoopGhost
import Derived.Deep.DeepFit
import Derived.Deep.DeepMust
import Derived.WalkSpells
import Derived.WalkLawsBesides
import Derived.Laws.EntriesVeiled
import Derived.Lib.IndexBytes
import Derived.Deep.RegionWith
import Derived.Tactics2
import Derived.Laws.Rows
import Derived.Lib.Replace
import Derived.Lib.Split
import Derived.Lib.ItoaNum
import Derived.Lib.AtoiAllCases
import Derived.Lib.AtoiErrMem
import Derived.Lib.AppendIntMem
import Derived.Maps.OwnOps
import Derived.Maps.OwnSet
import Derived.Maps.Views
import Derived.Maps.AppendAt
import Derived.Deep.AppendLies
import Derived.Defers
import Derived.Recover
import Derived.Laws.Pointers
import Derived.Test.YtbllodeanfdebaaGreatDoorShelf
import Derived.Test.YtbllodeanfdebaaGreatDoorBase
import Derived.Test.YtbllodeanfdebaaGreatDoorCsP
import Derived.Test.YtbllodeanfdebaaGreatDoorCsK
import Derived.Test.YtbllodeanfdebaaGreatDoorCsN
import Derived.Test.YtbllodeanfdebaaGreatDoorCsA
import Derived.Test.YtbllodeanfdebaaGreatDoorCsD
import Derived.Test.YtbllodeanfdebaaGreatDoorCsE
import Derived.Test.YtbllodeanfdebaaGreatDoorCsG
import Derived.Test.YtbllodeanfdebaaGreatDoorCsH
import Derived.Test.YtbllodeanfdebaaGreatDoorCsI
import Derived.Test.YtbllodeanfdebaaGreatDoorCsJ
import Derived.Test.YtbllodeanfdebaaGreatDoorCalm
import Derived.Test.YtbllodeanfdebaaGreatDoorCsL
import Derived.Test.YtbllodeanfdebaaGreatDoorRowS
import Derived.Test.YtbllodeanfdebaaGreatDoorRowG
import Derived.Test.YtbllodeanfdebaaGreatDoorCsO
import Derived.Test.YtbllodeanfdebaaGreatDoorCsM
import Derived.Test.YtbllodeanfdebaaGreatDoorCsN2
import Derived.Test.YtbllodeanfdebaaGreatDoorStL
import Derived.Test.YtbllodeanfdebaaGreatDoorCsO2
import Derived.Test.YtbllodeanfdebaaGreatDoorCsQ
import Derived.Test.YtbllodeanfdebaaGreatDoorStr
import Derived.Test.YtbllodeanfdebaaGreatDoorCsR
import Derived.Test.YtbllodeanfdebaaGreatDoorCsS
import Derived.Test.YtbllodeanfdebaaGreatDoorCsT
import Derived.Test.YtbllodeanfdebaaGreatDoorCsU
import Derived.Test.YtbllodeanfdebaaGreatDoorCsV
import Derived.Test.YtbllodeanfdebaaGreatDoorCsW
import Derived.Test.YtbllodeanfdebaaGreatDoorCsY
import Derived.Test.YtbllodeanfdebaaGreatDoorCsZ
import Derived.Test.YtbllodeanfdebaaGreatDoorCsPa
import Derived.Test.YtbllodeanfdebaaGreatDoorRpC
import Derived.Test.YtbllodeanfdebaaGreatDoorCtA
import Derived.Test.YtbllodeanfdebaaGreatDoorCtB
import Derived.Test.YtbllodeanfdebaaGreatDoorCtC
import Derived.Test.YtbllodeanfdebaaGreatDoorCtD
import Derived.Test.YtbllodeanfdebaaGreatDoorCtE
import Derived.Test.YtbllodeanfdebaaGreatDoorCtF
namespace Go.Proofs.YtbllodeanfdebaaGreatDoor
open Go.ChangeShapes Go.WideShapes Go.ChangeAt Go.RowKit
set_option linter.unusedVariables false
def ZR : Array Value := #[.string ⟨#[]⟩, .int .i64 0, .int .i64 0, .int .i64 0, .int .i64 0, .int .i64 0, .int .i64 0, .slice none 0 0, .slice none 0 0]
def RPost (R : PrsC) (w : World) (e : Ending) (w' : World) : Prop :=
  Below w.heap.size w w' ∧
  ((∃ n, R = .bad n ∧ e = .returned (.tuple #[.agg ZR, .int .i64 (n : Int), .int .i64 15])) ∨
   (R = .big ∧ e = .returned (.tuple #[.agg ZR, .int .i64 0, .int .i64 13])) ∨
   (∃ c A2 A3 c2 c3 ys, R = .ok c ∧ e = .returned (.tuple #[rcaseW c A2 A3 c2 c3, .int .i64 0, .int .i64 0]) ∧ RIn w' c A2 A3 c2 c3 ys))
theorem results_cell3q {P : Program} {fn : Func} {p u v : Tmp} {ty : TypeId} (h : fn.results = #[.cell p ty, .tmp u, .tmp v]) (tmps : Array Value) (w : World) (g : Nat) (t : TypeId) (cs : Array Value) (fr : Nat × Nat) (d : TypeDesc)
    (hp : tmps.getD p undef = .pointer (some ⟨g, 0, none⟩)) (hg : w.heap[g]? = some (.cells cs t fr))
    (hu : P.underlying ty = some d) (hd : (match d with | .struct _ | .array _ _ => true | _ => false) = true) (hi : (P.info? ty).map (·.size) = some cs.size) :
    (results fn tmps).run P w = .ok (.tuple #[.agg cs, tmps.getD u undef, tmps.getD v undef]) w := by
  have hp' : tmps[p]?.getD undef = .pointer (some ⟨g, 0, none⟩) := by simpa using hp
  simp [results, h, hp', asAddr, run_loadVar_row w g t ty cs fr d hg hu hd hi]
theorem own_rrdS {w : World} {base : Nat} {v : Value} {l : List (List UInt8)} (h : OwnS w base v l) : ∃ A c, v = .slice A l.length c ∧ RRd cS1 1 w w.heap.size A l.length c l := by
  unfold OwnS at h
  rw [map_flat_str] at h
  exact RRd.ofOwn (c := cS1) (fun _ => rfl) (by decide) h
theorem parse_first {text y : List UInt8} {r : List (List UInt8)} (hl : (linesP text).1 = y :: r) (h : firstD y = none) : parseC numD bigS text = .bad 1 := parse_none fun y' r' e => by
  rw [hl] at e
  injection e with e1 _
  rw [← e1, ← first_lim]
  exact h
/-- The document's reading on its way: the case so far. -/
structure RpJ (C : Nat) (wB : World) (lim : List Nat) (al : List (List UInt8)) (va vs : Value) (sc : List AnV) (W : World) : Prop where
  bb : Below C wB W
  cs : W.heap[C]? = some (.cells (caseV (.string ⟨#[]⟩) lim va vs) 34)
  al : OwnS W (C + 1) va al
  sc : OwnA W (C + 1) vs sc
  sz : C + 1 ≤ W.heap.size
theorem RpJ.kept {C : Nat} {wB : World} {lim : List Nat} {al : List (List UInt8)} {va vs : Value} {sc : List AnV} {W W' : World} (h : RpJ C wB lim al va vs sc W) (hb : Below W.heap.size W W') : RpJ C wB lim al va vs sc W' :=
  ⟨h.bb.trans (hb.mono (by have := h.sz; omega)), (hb.block _ (lt_of h.cs)).trans h.cs, h.al.kept hb, h.sc.kept hb, Nat.le_trans h.sz hb.size⟩
theorem RpJ.drew {C : Nat} {wB : World} {lim : List Nat} {al : List (List UInt8)} {va vs : Value} {sc : List AnV} {W : World} (h : RpJ C wB lim al va vs sc W) : RpJ C wB lim al va vs sc W.drew := h.kept (Below.refl _ _).drew
theorem RpJ.app {C : Nat} {wB : World} {lim : List Nat} {al : List (List UInt8)} {va v7 : Value} {W W7 : World} {z : List UInt8} (h : RpJ C wB lim al va (.slice none 0 0) [] W) (ho : OwnS W7 (C + 1) v7 (al ++ [z])) (hg : W.grownBy W7 va.ownBlock) :
    W7.heap[C]? = some (.cells (caseV (.string ⟨#[]⟩) lim va (.slice none 0 0)) 34) ∧ RpJ C wB lim (al ++ [z]) v7 (.slice none 0 0) [] (W7.setCell ⟨C, 7, none⟩ v7) := by
  have hsz := h.sz
  have hC : W7.heap[C]? = some (.cells (caseV (.string ⟨#[]⟩) lim va (.slice none 0 0)) 34) := (hg.block C (by omega) fun e => by have := own_geS h.al e.symm; omega).trans h.cs
  have hb : Below (C + 1) W W7 := (Below.refl (C + 1) W).grown hg hsz fun k e => own_geS h.al e
  refine ⟨hC, ⟨(h.bb.trans (hb.mono (by omega))).setCell (p := ⟨C, 7, none⟩) (Nat.le_refl _) _, hp_set hC, ownsRow_keep ho fun g h1 _ => hp_other (show g ≠ C by omega), OwnA.start _ _, ?_⟩⟩
  have := hb.size
  simp only [World.setCell, Array.size_modify]
  omega
/-- One more answer. -/
theorem RpJ.ans {C : Nat} {wB : World} {lim : List Nat} {al : List (List UInt8)} {va vs v7 : Value} {sc : List AnV} {W W7 : World} {x : AnV} {o : Obj} (h : RpJ C wB lim al va vs sc W) (hx : Byt W W.heap.size x.A x.a.data.length x.cap x.a.data) (hxl : ∀ p, x.A = some p → C + 1 ≤ p.block) (hxa : ∀ p, x.A = some p → some p.block ≠ vs.ownBlock) (hxn : ∀ p, x.A = some p → p.block < W.heap.size)
    (ho : W7.ownsRow (C + 1) 71 3 v7 (sc.length + 1) (sc.flatMap cAn ++ cAn x)) (hg : (W.alloc o).grownBy W7 vs.ownBlock) (hat : v7.ownBlock = vs.ownBlock ∨ v7.ownBlock = some (W.heap.size + 1)) :
    W7.heap[C]? = some (.cells (caseV (.string ⟨#[]⟩) lim va vs) 34) ∧ RpJ C wB lim al va v7 (sc ++ [x]) (W7.setCell ⟨C, 8, none⟩ v7) := by
  have hsz := h.sz
  have hge : ∀ k, vs.ownBlock = some k → k < W.heap.size ∧ C + 1 ≤ k := fun k e => OwnC.ge h.sc.own e
  have hC : W7.heap[C]? = some (.cells (caseV (.string ⟨#[]⟩) lim va vs) 34) := by
    rw [hg.block C (by rw [World.size_alloc]; omega) fun e => by have := (hge _ e.symm).2; omega]
    exact hp_old h.cs
  have hb : Below (C + 1) W W7 := ((Below.refl (C + 1) W).alloc hsz o).grown hg (by rw [World.size_alloc]; omega) fun k e => (hge k e).2
  have hsc := h.sc.snoc hx hxl hxa ho hg hat hxn
  refine ⟨hC, ⟨(h.bb.trans (hb.mono (by omega))).setCell (p := ⟨C, 8, none⟩) (Nat.le_refl _) _, hp_set hC, ?_, hsc.set (by omega), ?_⟩⟩
  · refine ownsRow_keep (w := W7) ?_ fun g h1 _ => hp_other (show g ≠ C by omega)
    obtain ⟨hl, h3 | ⟨g, cap, cur, hv, hgb, hh, r⟩⟩ := h.al
    · exact ⟨hl, .inl h3⟩
    · refine ⟨hl, .inr ⟨g, cap, cur, hv, hgb, ?_, r⟩⟩
      rw [hg.block g (by rw [World.size_alloc]; have := lt_of hh; omega) (ownsRow_type h.sc.own hh fun vs f e' => by injection e' with _ e3 _; exact absurd e3 (by decide))]
      exact hp_old hh
  · have := hb.size
    simp only [World.setCell, Array.size_modify]
    omega
/-- What comes behind the answers, or the line at fault. -/
def afterA (M : Nat) (lim : List Nat) (al : List (List UInt8)) (tl : List UInt8) : Sum (List AnsC × List (List UInt8)) (List (List UInt8)) → PrsC
  | .inr q => .bad (M - q.length + 1)
  | .inl (sc, q) => tailP M lim al sc tl q
theorem parse_head2 {text y : List UInt8} {r : List (List UInt8)} {lim : List Nat} (hl : (linesP text).1 = y :: r) (h : limP numD y = some lim) :
    parseC numD bigS text = afterA (y :: r).length lim (allowP r).1 (linesP text).2 (scriptP ((allowP r).2.length + 1) (allowP r).2 []) := by
  rw [parse_head hl h]
  rcases scriptP ((allowP r).2.length + 1) (allowP r).2 [] with ⟨sc, q⟩ | q <;> rfl
theorem barsP_drop {ls r : List (List UInt8)} {d : List UInt8} (hn : ∀ x ∈ ls, (10 : UInt8) ∉ x) (h : barsP ls = some (d, r)) : ls.drop (ls.length - r.length) = r := by
  have e := barsP_text hn h
  have h2 : ls.length = (barLines d).length + r.length := by
    conv => lhs; rw [e]
    rw [List.length_append]
  rw [h2, show (barLines d).length + r.length - r.length = (barLines d).length by omega]
  conv => lhs; rw [e]
  rw [List.drop_left]
theorem bw_below (w : World) (e : TypeId) (s : ByteArray) : Below w.heap.size w (Lib.bytesWorld w e s) := Lib.bytesWorld_below w e s
theorem bw_size (w : World) (e : TypeId) (s : ByteArray) : w.heap.size + 1 ≤ (Lib.bytesWorld w e s).heap.size := by
  unfold Lib.bytesWorld World.freeze
  split <;> simp
theorem ref_in {W : World} {N C : Nat} {A2 A3 : Option Addr} {c2 c3 : Nat} {d : List UInt8} {lim : List Nat} {al : List (List UInt8)} {sc : List AnV} (hN : N < C) (hal : OwnS W (C + 1) (.slice A2 al.length c2) al) (hO : OwnA W (C + 1) (.slice A3 sc.length c3) sc) (row : Array Value) : RIn (W.setRow N row) ⟨d, lim, al, sc.map AnV.a⟩ A2 A3 c2 c3 sc := by
  have hk : ∀ g, C + 1 ≤ g → g < W.heap.size → (W.setRow N row).heap[g]? = W.heap[g]? := fun g h1 _ => setRow_other _ _ _ _ (by omega)
  have hs : W.heap.size ≤ (W.setRow N row).heap.size := by simp [World.setRow]
  have hal2 : (W.setRow N row).ownsRow (C + 1) 9 1 (.slice A2 al.length c2) al.length (al.flatMap cS1) := by
    rw [← map_flat_str]
    exact ownsRow_keep hal hk
  have hO2 := hO.keep hs hk
  obtain ⟨A, cp, e, hR⟩ := RRd.ofOwn (c := cS1) (fun _ => rfl) (by decide) hal2
  cases e
  obtain ⟨A, cp, e, hR3⟩ := hO2.own.rrd cAn_len (by decide)
  cases e
  refine ⟨hR, rfl, ?_, hO2.ok⟩
  show RRd cAn 3 _ _ A3 (sc.map AnV.a).length c3 sc
  rw [List.length_map]
  exact hR3
end Go.Proofs.YtbllodeanfdebaaGreatDoor
