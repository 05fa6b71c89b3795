/- Texts of ours, joined: PrR, FtA, FtB, FtC. -/
import Derived.Test.YtgenpgfhjhcahaaGreatDoorRows
import Derived.WalkKit
import Derived.ProofKit
import Derived.OpenShut
import Derived.ShutString
import Derived.ChangeOld
import Derived.Below
import Derived.BigQuiet
import Derived.Deep.QuietTactic
import Derived.Lib.Hide
import Derived.Deep.RegionHeld3
import Derived.Lib.SlBytesConst
import Derived.Laws.CopyOwn
import Derived.Laws.CopyRow
import Derived.Lib.Bytes
import Derived.Deep.LoopGhost
import Derived.Deep.DeepFit
import Derived.Deep.DeepMust
import Derived.WalkSpells
import Derived.WalkLawsBesides
import Derived.Laws.EntriesVeiled
import Derived.Laws.Rows
import Derived.Maps.OwnOps
import Derived.Maps.OwnSet
import Derived.Maps.Views
import Derived.Maps.AppendAt
import Derived.Deep.AppendLies
import Derived.DeepKeys4
import Derived.MapViews
import Derived.Maps.Keyed
import Derived.Deep.RegionLaw
import Derived.Deep.RegionWith
import Derived.StillTailTactics
import Derived.Deep.CutRange
import Derived.IntWalk
import Derived.Laws.MakeOwn
import Derived.Laws.OwnMore
import Derived.Deep.MidRow
import Derived.Test.YtgenpgfhjhcahaaGreatDoorQ1
import Derived.Test.YtgenpgfhjhcahaaGreatDoorQ2
import Derived.Test.YtgenpgfhjhcahaaGreatDoorQ7
import Derived.Test.YtgenpgfhjhcahaaGreatDoorQ8
import Derived.Test.YtgenpgfhjhcahaaGreatDoorQ4
import Derived.Test.YtgenpgfhjhcahaaGreatDoorQ3
import Derived.Test.YtgenpgfhjhcahaaGreatDoorQ5
import Derived.Test.YtgenpgfhjhcahaaGreatDoorQ9
import Derived.Test.YtgenpgfhjhcahaaGreatDoorQ10
import Derived.Test.YtgenpgfhjhcahaaGreatDoorQ11
import Derived.Test.YtgenpgfhjhcahaaGreatDoorQ12
import Derived.Test.YtgenpgfhjhcahaaGreatDoorQ14
import Derived.Test.YtgenpgfhjhcahaaGreatDoorQ15
import Derived.Test.YtgenpgfhjhcahaaGreatDoorQ16
import Derived.Test.YtgenpgfhjhcahaaGreatDoorQ17
import Derived.Test.YtgenpgfhjhcahaaGreatDoorQ18
import Derived.Test.YtgenpgfhjhcahaaGreatDoorQ20
import Derived.Test.YtgenpgfhjhcahaaGreatDoorQ21
import Derived.Test.YtgenpgfhjhcahaaGreatDoorQ22
import Derived.Test.YtgenpgfhjhcahaaGreatDoorQ25
import Derived.Test.YtgenpgfhjhcahaaGreatDoorQ26
import Derived.Test.YtgenpgfhjhcahaaGreatDoorQ27
import Derived.Lib.SmallJoins
/- prolog.Read. -/
namespace Go.Proofs.YtgenpgfhjhcahaaGreatDoor
open Go.ChangeShapes Go.WideShapes Go.ChangeAt Go.RowKit
set_option linter.unusedVariables false
theorem results_cell2p {P : Program} {fn : Func} {p u : Tmp} {ty : TypeId} (h : fn.results = #[.cell p ty, .tmp u]) (tmps : Array Value) (w : World) (g : Nat) (t : TypeId) (cs : Array Value) (fr : Nat × Nat) (d : TypeDesc)
    (hp : tmps.getD p undef = .pointer (some ⟨g, 0, none⟩)) (hg : w.heap[g]? = some (.cells cs t fr))
    (hu : P.underlying ty = some d) (hd : (match d with | .struct _ | .array _ _ => true | _ => false) = true) (hi : (P.info? ty).map (·.size) = some cs.size) :
    (results fn tmps).run P w = .ok (.tuple #[.agg cs, tmps.getD u undef]) w := by
  have hp' : tmps[p]?.getD undef = .pointer (some ⟨g, 0, none⟩) := by simpa using hp
  simp [results, h, hp', asAddr, run_loadVar_row w g t ty cs fr d hg hu hd hi]
/-- A part, kept in the reader. -/
theorem part_c {w0 W0 w : World} {D F : Nat} {b1 b2 : Array Value} {A : Option Addr} {n cap : Nat} {d : DeclL} {hs : Bool} {nm : List UInt8} {op : Bool} {at_ nx : Int} {evs : List MisT} (h0 : w0.heap.size ≤ D) (c13 : w.cell? ⟨D, 13, none⟩ = some (.int .i64 0)) (eF : ∀ args w, (callFunc F args).run Tryz.prog w = .ok (.enter F args) w)
    (C : Calls Tryz.prog F (b1 ++ b2) w fun e w' => e = .returned (.tuple #[.int .i64 nx, .int .i64 0]) ∧ ∃ v, PrJ w0 W0 D (rdC A n cap d hs nm op v at_ 0) v evs w') :
    Calls Tryz.prog 21 #[.pointer (some ⟨D, 0, none⟩), .func (.func F) b1 b2] w fun e w' => (∃ v, e = .returned v) ∧ ∃ v, PrJ w0 W0 D (rdC A n cap d hs nm op v nx 0) v evs w' :=
  (rdPart_c D F b1 b2 nx 0 (fun w' => ∃ v, PrJ w0 W0 D (rdC A n cap d hs nm op v at_ 0) v evs w') w c13 eF C (fun w' ⟨v, hJ⟩ => ⟨_, at_, hJ.2.2.2.1, rfl, rfl⟩)).mono fun e w' ⟨he, w1, ⟨v, hJ⟩, hw⟩ => ⟨he, v, by rw [hw]; exact (hJ.set h0 12 (.int .i64 nx)).set h0 13 (.int .i64 0)⟩
/-- What a prolog is, where it has a document type with brackets. -/
structure RdAt (l : List UInt8) (d : DeclL) (t0 : Nat) (ev1 : List MisT) (t1 ta tb tc : Nat) (s : List UInt8) (t3 t4 : Nat) (ev2 : List MisT) (t5 : Nat) : Prop where
  decl : declAt false l 0 = (d, t0, 0)
  dle : t0 ≤ l.length
  m1 : miscOut l t0 = (ev1, t1, 0)
  dt : DtAt l t1 ta tb tc s
  m2 : (miscOut l (tc + 1)).2 = (t3, 0)
  br : l[t3]? = some 93
  bl : blankTo l (t3 + 1) = t4
  gt : l[t4]? = some 62
  m3 : miscOut l (t4 + 1) = (ev2, t5, 0)
  nodt : [60, 33, 68, 79, 67, 84, 89, 80, 69].isPrefixOf (l.drop t5) = false
/-- The cells of a prolog. -/
def prC (d : DeclL) (s : List UInt8) (ev : Value) (at_ : Int) : Array Value := #[.bool d.has, .string ⟨d.ver.toArray⟩, .string ⟨d.enc.toArray⟩, .string ⟨d.alone.toArray⟩, .bool true, .string ⟨s.toArray⟩, .string ⟨#[]⟩, .string ⟨#[]⟩, .bool false, .bool true, ev, .int .i64 at_]
def prZ : Array Value := #[.bool false, .string ⟨#[]⟩, .string ⟨#[]⟩, .string ⟨#[]⟩, .bool false, .string ⟨#[]⟩, .string ⟨#[]⟩, .string ⟨#[]⟩, .bool false, .bool false, .slice none 0 0, .int .i64 0]
set_option linter.unusedSimpArgs false in
set_option maxRecDepth 100000 in
set_option maxHeartbeats 8000000 in
theorem prRead_c (A : Option Addr) (n cap : Nat) (l : List UInt8) (d : DeclL) (t0 : Nat) (ev1 : List MisT) (t1 ta tb tc : Nat) (s : List UInt8) (t3 t4 : Nat) (ev2 : List MisT) (t5 xb gb mb : Nat) (w : World) (h : Byt w w.heap.size A n cap l) (hW : W29 w) (hWd : WordsD w) (hm : n ≤ 40000) (hR : RdAt l d t0 ev1 t1 ta tb tc s t3 t4 ev2 t5) :
    Calls Tryz.prog 10 #[.slice A n cap, .pointer (some ⟨xb, 0, none⟩), .pointer (some ⟨gb, 0, none⟩), .pointer (some ⟨mb, 0, none⟩)] w fun e w' => ∃ OA oc, e = .returned (.tuple #[.agg (prC d s (.slice OA (ev1 ++ ev2).length oc) (t5 : Nat)), .int .i64 0]) ∧ OwnC cMis 5 54 w' w.heap.size (.slice OA (ev1 ++ ev2).length oc) (ev1 ++ ev2) ∧ Below w.heap.size w w' := by
  have hl := h.length
  have HB := Lib.hid (And.intro h (And.intro hW hWd))
  have HRD := Lib.hid hR
  clear h hW hWd
  go_enter Tryz.func10, Tryz.ntmps10
  go_wp2_with fail
  have hb := hp_old (o := .cells #[.pointer (some ⟨w.heap.size + 1 + 1 + 1 + 1 + 1, 0, none⟩)] 74) (hp_old (o := .cells #[.slice A n cap, .bool false, .string ⟨#[]⟩, .string ⟨#[]⟩, .string ⟨#[]⟩, .bool false, .string ⟨#[]⟩, .string ⟨#[]⟩, .string ⟨#[]⟩, .bool false, .bool false, .slice none 0 0, .int .i64 0, .int .i64 0] 76) (hp_old (o := .cells #[.bool false, .string ⟨#[]⟩, .string ⟨#[]⟩, .string ⟨#[]⟩, .bool false, .string ⟨#[]⟩, .string ⟨#[]⟩, .string ⟨#[]⟩, .bool false, .bool false, .slice none 0 0, .int .i64 0] 47) (hp_old (o := .cells #[.pointer (some ⟨mb, 0, none⟩)] 34) (hp_old (o := .cells #[.pointer (some ⟨gb, 0, none⟩)] 33) (hp_old (o := .cells #[.pointer (some ⟨xb, 0, none⟩)] 32) (hp_new w (.cells #[.slice A n cap] 22)))))))
  have hbt := hp_old (o := .cells #[.pointer (some ⟨w.heap.size + 1 + 1 + 1 + 1 + 1, 0, none⟩)] 74) (hp_old (o := .cells #[.slice A n cap, .bool false, .string ⟨#[]⟩, .string ⟨#[]⟩, .string ⟨#[]⟩, .bool false, .string ⟨#[]⟩, .string ⟨#[]⟩, .string ⟨#[]⟩, .bool false, .bool false, .slice none 0 0, .int .i64 0, .int .i64 0] 76) (hp_old (o := .cells #[.bool false, .string ⟨#[]⟩, .string ⟨#[]⟩, .string ⟨#[]⟩, .bool false, .string ⟨#[]⟩, .string ⟨#[]⟩, .string ⟨#[]⟩, .bool false, .bool false, .slice none 0 0, .int .i64 0] 47) (hp_old (o := .cells #[.pointer (some ⟨mb, 0, none⟩)] 34) (hp_old (o := .cells #[.pointer (some ⟨gb, 0, none⟩)] 33) (hp_at (w.alloc (.cells #[.slice A n cap] 22)) (.cells #[.pointer (some ⟨xb, 0, none⟩)] 32) (g := w.heap.size + 1) (by simp))))))
  have hbg := hp_old (o := .cells #[.pointer (some ⟨w.heap.size + 1 + 1 + 1 + 1 + 1, 0, none⟩)] 74) (hp_old (o := .cells #[.slice A n cap, .bool false, .string ⟨#[]⟩, .string ⟨#[]⟩, .string ⟨#[]⟩, .bool false, .string ⟨#[]⟩, .string ⟨#[]⟩, .string ⟨#[]⟩, .bool false, .bool false, .slice none 0 0, .int .i64 0, .int .i64 0] 76) (hp_old (o := .cells #[.bool false, .string ⟨#[]⟩, .string ⟨#[]⟩, .string ⟨#[]⟩, .bool false, .string ⟨#[]⟩, .string ⟨#[]⟩, .string ⟨#[]⟩, .bool false, .bool false, .slice none 0 0, .int .i64 0] 47) (hp_old (o := .cells #[.pointer (some ⟨mb, 0, none⟩)] 34) (hp_at ((w.alloc (.cells #[.slice A n cap] 22)).alloc (.cells #[.pointer (some ⟨xb, 0, none⟩)] 32)) (.cells #[.pointer (some ⟨gb, 0, none⟩)] 33) (g := w.heap.size + 1 + 1) (by simp)))))
  have hbm := hp_old (o := .cells #[.pointer (some ⟨w.heap.size + 1 + 1 + 1 + 1 + 1, 0, none⟩)] 74) (hp_old (o := .cells #[.slice A n cap, .bool false, .string ⟨#[]⟩, .string ⟨#[]⟩, .string ⟨#[]⟩, .bool false, .string ⟨#[]⟩, .string ⟨#[]⟩, .string ⟨#[]⟩, .bool false, .bool false, .slice none 0 0, .int .i64 0, .int .i64 0] 76) (hp_old (o := .cells #[.bool false, .string ⟨#[]⟩, .string ⟨#[]⟩, .string ⟨#[]⟩, .bool false, .string ⟨#[]⟩, .string ⟨#[]⟩, .string ⟨#[]⟩, .bool false, .bool false, .slice none 0 0, .int .i64 0] 47) (hp_at (((w.alloc (.cells #[.slice A n cap] 22)).alloc (.cells #[.pointer (some ⟨xb, 0, none⟩)] 32)).alloc (.cells #[.pointer (some ⟨gb, 0, none⟩)] 33)) (.cells #[.pointer (some ⟨mb, 0, none⟩)] 34) (g := w.heap.size + 1 + 1 + 1) (by simp))))
  have hpz := hp_old (o := .cells #[.pointer (some ⟨w.heap.size + 1 + 1 + 1 + 1 + 1, 0, none⟩)] 74) (hp_old (o := .cells #[.slice A n cap, .bool false, .string ⟨#[]⟩, .string ⟨#[]⟩, .string ⟨#[]⟩, .bool false, .string ⟨#[]⟩, .string ⟨#[]⟩, .string ⟨#[]⟩, .bool false, .bool false, .slice none 0 0, .int .i64 0, .int .i64 0] 76) (hp_at ((((w.alloc (.cells #[.slice A n cap] 22)).alloc (.cells #[.pointer (some ⟨xb, 0, none⟩)] 32)).alloc (.cells #[.pointer (some ⟨gb, 0, none⟩)] 33)).alloc (.cells #[.pointer (some ⟨mb, 0, none⟩)] 34)) (.cells #[.bool false, .string ⟨#[]⟩, .string ⟨#[]⟩, .string ⟨#[]⟩, .bool false, .string ⟨#[]⟩, .string ⟨#[]⟩, .string ⟨#[]⟩, .bool false, .bool false, .slice none 0 0, .int .i64 0] 47) (g := w.heap.size + 1 + 1 + 1 + 1) (by simp)))
  have hrd := hp_old (o := .cells #[.pointer (some ⟨w.heap.size + 1 + 1 + 1 + 1 + 1, 0, none⟩)] 74) (hp_at (((((w.alloc (.cells #[.slice A n cap] 22)).alloc (.cells #[.pointer (some ⟨xb, 0, none⟩)] 32)).alloc (.cells #[.pointer (some ⟨gb, 0, none⟩)] 33)).alloc (.cells #[.pointer (some ⟨mb, 0, none⟩)] 34)).alloc (.cells #[.bool false, .string ⟨#[]⟩, .string ⟨#[]⟩, .string ⟨#[]⟩, .bool false, .string ⟨#[]⟩, .string ⟨#[]⟩, .string ⟨#[]⟩, .bool false, .bool false, .slice none 0 0, .int .i64 0] 47)) (.cells #[.slice A n cap, .bool false, .string ⟨#[]⟩, .string ⟨#[]⟩, .string ⟨#[]⟩, .bool false, .string ⟨#[]⟩, .string ⟨#[]⟩, .string ⟨#[]⟩, .bool false, .bool false, .slice none 0 0, .int .i64 0, .int .i64 0] 76) (g := w.heap.size + 1 + 1 + 1 + 1 + 1) (by simp))
  have hr := hp_at ((((((w.alloc (.cells #[.slice A n cap] 22)).alloc (.cells #[.pointer (some ⟨xb, 0, none⟩)] 32)).alloc (.cells #[.pointer (some ⟨gb, 0, none⟩)] 33)).alloc (.cells #[.pointer (some ⟨mb, 0, none⟩)] 34)).alloc (.cells #[.bool false, .string ⟨#[]⟩, .string ⟨#[]⟩, .string ⟨#[]⟩, .bool false, .string ⟨#[]⟩, .string ⟨#[]⟩, .string ⟨#[]⟩, .bool false, .bool false, .slice none 0 0, .int .i64 0] 47)).alloc (.cells #[.slice A n cap, .bool false, .string ⟨#[]⟩, .string ⟨#[]⟩, .string ⟨#[]⟩, .bool false, .string ⟨#[]⟩, .string ⟨#[]⟩, .string ⟨#[]⟩, .bool false, .bool false, .slice none 0 0, .int .i64 0, .int .i64 0] 76)) (.cells #[.pointer (some ⟨w.heap.size + 1 + 1 + 1 + 1 + 1, 0, none⟩)] 74) (g := w.heap.size + 1 + 1 + 1 + 1 + 1 + 1) (by simp)
  have hB0 : Below w.heap.size w (((((((w.alloc (.cells #[.slice A n cap] 22)).alloc (.cells #[.pointer (some ⟨xb, 0, none⟩)] 32)).alloc (.cells #[.pointer (some ⟨gb, 0, none⟩)] 33)).alloc (.cells #[.pointer (some ⟨mb, 0, none⟩)] 34)).alloc (.cells #[.bool false, .string ⟨#[]⟩, .string ⟨#[]⟩, .string ⟨#[]⟩, .bool false, .string ⟨#[]⟩, .string ⟨#[]⟩, .string ⟨#[]⟩, .bool false, .bool false, .slice none 0 0, .int .i64 0] 47)).alloc (.cells #[.slice A n cap, .bool false, .string ⟨#[]⟩, .string ⟨#[]⟩, .string ⟨#[]⟩, .bool false, .string ⟨#[]⟩, .string ⟨#[]⟩, .string ⟨#[]⟩, .bool false, .bool false, .slice none 0 0, .int .i64 0, .int .i64 0] 76)).alloc (.cells #[.pointer (some ⟨w.heap.size + 1 + 1 + 1 + 1 + 1, 0, none⟩)] 74)) := (((((((Below.refl w.heap.size w).alloc (by simp) _).alloc (by simp) _).alloc (by simp; omega) _).alloc (by simp; omega) _).alloc (by simp; omega) _).alloc (by simp; omega) _).alloc (by simp; omega) _
  have hsz : (((((((w.alloc (.cells #[.slice A n cap] 22)).alloc (.cells #[.pointer (some ⟨xb, 0, none⟩)] 32)).alloc (.cells #[.pointer (some ⟨gb, 0, none⟩)] 33)).alloc (.cells #[.pointer (some ⟨mb, 0, none⟩)] 34)).alloc (.cells #[.bool false, .string ⟨#[]⟩, .string ⟨#[]⟩, .string ⟨#[]⟩, .bool false, .string ⟨#[]⟩, .string ⟨#[]⟩, .string ⟨#[]⟩, .bool false, .bool false, .slice none 0 0, .int .i64 0] 47)).alloc (.cells #[.slice A n cap, .bool false, .string ⟨#[]⟩, .string ⟨#[]⟩, .string ⟨#[]⟩, .bool false, .string ⟨#[]⟩, .string ⟨#[]⟩, .string ⟨#[]⟩, .bool false, .bool false, .slice none 0 0, .int .i64 0, .int .i64 0] 76)).alloc (.cells #[.pointer (some ⟨w.heap.size + 1 + 1 + 1 + 1 + 1, 0, none⟩)] 74)).heap.size = w.heap.size + 7 := by simp
  generalize hW0 : (((((((w.alloc (.cells #[.slice A n cap] 22)).alloc (.cells #[.pointer (some ⟨xb, 0, none⟩)] 32)).alloc (.cells #[.pointer (some ⟨gb, 0, none⟩)] 33)).alloc (.cells #[.pointer (some ⟨mb, 0, none⟩)] 34)).alloc (.cells #[.bool false, .string ⟨#[]⟩, .string ⟨#[]⟩, .string ⟨#[]⟩, .bool false, .string ⟨#[]⟩, .string ⟨#[]⟩, .string ⟨#[]⟩, .bool false, .bool false, .slice none 0 0, .int .i64 0] 47)).alloc (.cells #[.slice A n cap, .bool false, .string ⟨#[]⟩, .string ⟨#[]⟩, .string ⟨#[]⟩, .bool false, .string ⟨#[]⟩, .string ⟨#[]⟩, .string ⟨#[]⟩, .bool false, .bool false, .slice none 0 0, .int .i64 0, .int .i64 0] 76)).alloc (.cells #[.pointer (some ⟨w.heap.size + 1 + 1 + 1 + 1 + 1, 0, none⟩)] 74)) = W0 at *
  clear hW0
  generalize hD : w.heap.size + 1 + 1 + 1 + 1 + 1 = D at *
  generalize hP0 : w.heap.size + 1 + 1 + 1 + 1 = P0 at *
  generalize hBm : w.heap.size + 1 + 1 + 1 = Bm at *
  generalize hBg : w.heap.size + 1 + 1 = Bg at *
  generalize hBt : w.heap.size + 1 = Bt at *
  have hDw : w.heap.size ≤ D := by omega
  have hD2 : D + 2 ≤ W0.heap.size := by omega
  have HD := Lib.hid (And.intro hDw (And.intro hD2 (And.intro (show w.heap.size < D by omega) (And.intro (show Bt < D by omega) (And.intro (show Bg < D by omega) (And.intro (show Bm < D by omega) (And.intro (show P0 < D by omega) (show w.heap.size ≤ P0 by omega))))))))
  have HW := Lib.hid (And.intro hb (And.intro hbt (And.intro hbg (And.intro hbm (And.intro hpz hr)))))
  have J0 : Hid (PrJ w W0 D (rdC A n cap noDecl false [] false (.slice none 0 0) 0 0) (.slice none 0 0) [] W0) := Lib.hid ⟨hB0, Nat.le_refl _, fun q _ _ => rfl, hrd, OwnC.start _ _ _ _ _⟩
  have FR : Hid (∀ (cs : Array Value) (v : Value) (evs : List MisT) W, PrJ w W0 D cs v evs W → W.cell? ⟨D + 1, 0, none⟩ = some (.pointer (some ⟨D, 0, none⟩)) ∧ W.cell? ⟨w.heap.size, 0, none⟩ = some (.slice A n cap)) := Lib.hid fun cs v evs W hJ => ⟨by rw [cell_of 0 ((hJ.2.2.1 (D + 1) (by omega) (by omega)).trans hr)]; rfl, by rw [cell_of 0 ((hJ.2.2.1 w.heap.size (by omega) (by omega)).trans hb)]; rfl⟩
  have h13 : Hid (∀ {d : DeclL} {hs : Bool} {nm : List UInt8} {op : Bool} {v v2 : Value} {at_ : Int} {evs : List MisT} {W : World}, PrJ w W0 D (rdC A n cap d hs nm op v at_ 0) v2 evs W → W.cell? ⟨D, 13, none⟩ = some (.int .i64 0) ∧ W.cell? ⟨D, 12, none⟩ = some (.int .i64 at_) ∧ W.cell? ⟨D, 10, none⟩ = some (.bool op)) := Lib.hid fun hJ => ⟨by rw [cell_of 13 hJ.2.2.2.1]; rfl, by rw [cell_of 12 hJ.2.2.2.1]; rfl, by rw [cell_of 10 hJ.2.2.2.1]; rfl⟩
  have hlen1 := miscOut_le l t0 HRD.out.dle HRD.out.m1
  have htc : tc + 1 ≤ n := by have := (List.getElem?_eq_some_iff.1 HRD.out.dt.brack).1; omega
  have ht3 : t3 + 1 ≤ n := by have := (List.getElem?_eq_some_iff.1 HRD.out.br).1; omega
  have ht4 : t4 + 1 ≤ n := by have := (List.getElem?_eq_some_iff.1 HRD.out.gt).1; omega
  have hlen2 := miscOut_le l (t4 + 1) (by omega) HRD.out.m3
  rw [hl] at hlen1 hlen2
  have HLN := Lib.hid (And.intro hlen1 (And.intro htc (And.intro ht3 (And.intro ht4 hlen2))))
  have P1 : Hid (Calls Tryz.prog 21 #[.pointer (some ⟨D, 0, none⟩), .func (.func 22) #[] #[.pointer (some ⟨w.heap.size, 0, none⟩), .pointer (some ⟨D + 1, 0, none⟩)]] W0 fun e w' => (∃ v, e = .returned v) ∧ ∃ v, PrJ w W0 D (rdC A n cap d false [] false v (t0 : Nat) 0) v [] w') := Lib.hid (part_c HD.out.1 (h13.out J0.out).1 (enters_of Tryz.func22 (by kernel_rfl) rfl)
    ((rd1_c D w.heap.size A n cap l d t0 w W0 W0 HB.out.1 HB.out.2.1 hm HD.out.1 HD.out.2.1 HD.out.2.2.1 hb hr J0.out HRD.out.decl).mono fun e w' ⟨he, hj⟩ => ⟨he, _, hj⟩))
  have PM : Hid (∀ (t t2 : Nat) (ev2 evs : List MisT) (d : DeclL) (hs : Bool) (nm : List UInt8) (op : Bool) (v : Value) (W : World), PrJ w W0 D (rdC A n cap d hs nm op v (t : Nat) 0) v evs W → t ≤ n → miscOut l t = (ev2, t2, 0) → evs.length + ev2.length ≤ 1000000 →
      Calls Tryz.prog 21 #[.pointer (some ⟨D, 0, none⟩), .func (.func 24) #[.pointer (some ⟨D, 0, none⟩)] #[]] W fun e w' => (∃ v, e = .returned v) ∧ ∃ v, PrJ w W0 D (rdC A n cap d hs nm op v (t2 : Nat) 0) v (evs ++ ev2) w') := Lib.hid fun t t2 ev2 evs d hs nm op v W hJ ht hx hlen =>
    part_c HD.out.1 (h13.out hJ).1 (enters_of Tryz.func24 (by kernel_rfl) rfl) ((rdMisc_c D A n cap l d hs nm op t t2 ev2 v evs w W0 W HB.out.1 HB.out.2.1 hm HD.out.1 HD.out.2.1 hJ ht hx hlen).mono fun e w' ⟨he, hj⟩ => ⟨he, hj⟩)
  have PH : Hid (∀ (evs : List MisT) (v : Value) (W : World), PrJ w W0 D (rdC A n cap d false [] false v (t1 : Nat) 0) v evs W → Calls Tryz.prog 21 #[.pointer (some ⟨D, 0, none⟩), .func (.func 25) #[.pointer (some ⟨D, 0, none⟩)] #[]] W fun e w' => (∃ v, e = .returned v) ∧ ∃ v, PrJ w W0 D (rdC A n cap d true s true v ((tc : Int) + 1) 0) v evs w') := Lib.hid fun evs v W hJ =>
    part_c HD.out.1 (h13.out hJ).1 (enters_of Tryz.func25 (by kernel_rfl) rfl) ((rdHead_c D A n cap l d t1 ta tb tc s v evs w W0 W HB.out.1 HB.out.2.1 hm HD.out.1 HD.out.2.1 hJ HRD.out.dt).mono fun e w' ⟨he, hj⟩ => ⟨he, _, hj⟩)
  have P2 : Hid (∀ (evs : List MisT) (v : Value) (W : World), PrJ w W0 D (rdC A n cap d true s true v ((tc : Int) + 1) 0) v evs W → Calls Tryz.prog 21 #[.pointer (some ⟨D, 0, none⟩), .func (.func 26) #[] #[.pointer (some ⟨w.heap.size, 0, none⟩), .pointer (some ⟨D + 1, 0, none⟩), .pointer (some ⟨Bt, 0, none⟩), .pointer (some ⟨Bg, 0, none⟩), .pointer (some ⟨Bm, 0, none⟩)]] W fun e w' => (∃ v, e = .returned v) ∧ ∃ v, PrJ w W0 D (rdC A n cap d true s true v ((t3 : Int) + 1) 0) v evs w') := Lib.hid fun evs v W hJ =>
    part_c HD.out.1 (h13.out hJ).1 (enters_of Tryz.func26 (by kernel_rfl) rfl) ((rd2_c D w.heap.size Bt Bg Bm xb gb mb A n cap l d s (tc + 1) t3 v evs w W0 W HB.out.1 HB.out.2.1 HB.out.2.2 hm HD.out.1 HD.out.2.1 HD.out.2.2.1 HD.out.2.2.2.1 HD.out.2.2.2.2.1 HD.out.2.2.2.2.2.1 hb hbt hbg hbm hr hJ htc HRD.out.m2 HRD.out.br).mono fun e w' ⟨he, hj⟩ => ⟨he, _, hj⟩)
  have PE : Hid (∀ (evs : List MisT) (v : Value) (W : World), PrJ w W0 D (rdC A n cap d true s true v ((t3 : Int) + 1) 0) v evs W → Calls Tryz.prog 21 #[.pointer (some ⟨D, 0, none⟩), .func (.func 28) #[.pointer (some ⟨D, 0, none⟩)] #[]] W fun e w' => (∃ v, e = .returned v) ∧ ∃ v, PrJ w W0 D (rdC A n cap d true s true v ((t4 : Int) + 1) 0) v evs w') := Lib.hid fun evs v W hJ =>
    part_c HD.out.1 (h13.out hJ).1 (enters_of Tryz.func28 (by kernel_rfl) rfl) ((rdEnd_c D A n cap l (t3 + 1) t4 w W HB.out.1 hJ.1 (by omega) ht3 (lt_of hJ.2.2.2.1) (by rw [cell_of 0 hJ.2.2.2.1]; rfl) (h13.out hJ).2.1 HRD.out.bl HRD.out.gt).mono fun e w' ⟨he, hb⟩ => ⟨he, _, hJ.kept HD.out.2.1 hb⟩)
  clear hb hbt hbg hbm hpz hrd hr hB0 hsz hD hP0 hBm hBg hBt hDw hD2 hlen1 hlen2 htc ht3 ht4
  refine P1.out.mono ?_
  rintro e w1 ⟨⟨v9, rfl⟩, v1, J1⟩
  obtain ⟨r1, _⟩ := FR.out _ _ _ _ J1
  have C2 := Lib.hid (PM.out t0 t1 ev1 [] d false [] false v1 w1 J1 (by have := HRD.out.dle; omega) HRD.out.m1 (by have := HLN.out.1.2; simp; omega))
  clear J0 J1 P1
  go_wp2_with fail
  refine C2.out.mono ?_
  rintro e w2 ⟨⟨v9, rfl⟩, v2, J2⟩
  obtain ⟨r2, _⟩ := FR.out _ _ _ _ J2
  have C3 := Lib.hid (PH.out _ v2 w2 J2)
  clear r1 C2 J2 PH
  go_wp2_with fail
  refine C3.out.mono ?_
  rintro e w3 ⟨⟨v9, rfl⟩, v3, J3⟩
  obtain ⟨r3, _⟩ := FR.out _ _ _ _ J3
  have o3 := (h13.out J3).2.2
  have C4 := Lib.hid (P2.out _ v3 w3 J3)
  clear r2 C3 J3 P2
  go_wp2_with fail
  refine C4.out.mono ?_
  rintro e w4 ⟨⟨v9, rfl⟩, v4, J4⟩
  obtain ⟨r4, _⟩ := FR.out _ _ _ _ J4
  have C5 := Lib.hid (PE.out _ v4 w4 J4)
  clear r3 o3 C4 J4 PE
  go_wp2_with fail
  refine C5.out.mono ?_
  rintro e w5 ⟨⟨v9, rfl⟩, v5, J5⟩
  obtain ⟨r5, _⟩ := FR.out _ _ _ _ J5
  have C6 := Lib.hid (PM.out (t4 + 1) t5 ev2 ([] ++ ev1) d true s true v5 w5 J5 HLN.out.2.2.2.1 HRD.out.m3 (by have := HLN.out.1.2; have := HLN.out.2.2.2.2.2; simp; omega))
  clear r4 C5 J5 PM
  go_wp2_with fail
  refine C6.out.mono ?_
  rintro e w6 ⟨⟨v9, rfl⟩, v6, J6⟩
  have HJ6 := Lib.hid J6
  clear r5 C6 J6
  go_wp2_with fail
  obtain ⟨EV, hEV⟩ : ∃ EV, [] ++ ev1 ++ ev2 = EV := ⟨_, rfl⟩
  rw [hEV] at HJ6
  have HEV := Lib.hid hEV
  have JG : Hid (PrJ w W0 D (rdC A n cap d true s true v6 (t5 : Nat) 0) v6 EV w6.drew) := Lib.hid (HJ6.out.kept HD.out.2.1 ((Below.refl w6.heap.size w6).drew))
  have AT : Hid (∀ W, PrJ w W0 D (rdC A n cap d true s true v6 (t5 : Nat) 0) v6 EV W → W.cell? ⟨D + 1, 0, none⟩ = some (.pointer (some ⟨D, 0, none⟩)) ∧ W.cell? ⟨w.heap.size, 0, none⟩ = some (.slice A n cap) ∧ W.cell? ⟨D, 13, none⟩ = some (.int .i64 0) ∧ W.cell? ⟨D, 12, none⟩ = some (.int .i64 (t5 : Nat))) := Lib.hid fun W hJ => ⟨(FR.out _ _ _ _ hJ).1, (FR.out _ _ _ _ hJ).2, (h13.out hJ).1, (h13.out hJ).2.1⟩
  have S1 : Hid (∀ W, Hid (PrJ w W0 D (rdC A n cap d true s true v6 (t5 : Nat) 0) v6 EV W) → Calls Tryz.prog 29 #[.slice A n cap, .int .i64 (t5 : Nat), .string ⟨#[60, 33, 68, 79, 67, 84, 89, 80, 69]⟩] W fun e w' => e = .returned (.bool false) ∧ Hid (PrJ w W0 D (rdC A n cap d true s true v6 (t5 : Nat) 0) v6 EV w')) := Lib.hid fun W hJ => by
    have := pgStands_c A n cap l t5 [60, 33, 68, 79, 67, 84, 89, 80, 69] W ((HB.out.1.below hJ.out.1).more hJ.out.1.size) HLN.out.2.2.2.2.1 (by decide)
    rw [HRD.out.nodt] at this
    exact this.mono fun e w' ⟨he, hb⟩ => ⟨he, Lib.hid (hJ.out.kept HD.out.2.1 hb)⟩
  clear hEV FR hl
  refine wp_region_calm0 (fun W => Hid (PrJ w W0 D (rdC A n cap d true s true v6 (t5 : Nat) 0) v6 EV W)) (by kernel_rfl) (by kernel_rfl) JG ?_
  repeat
    refine wpQuiet_step (fun K hK => ?_)
    go_simp
    first
      | (refine hK _ ?_; clear hK K)
      | (apply Exists.intro
         refine ⟨fun W hW => ?_, hK _ ?_⟩
         · first
             | exact rfl
             | (with_reducible exact S1.out W hW)
             | (obtain ⟨a0, a1, a2, a3⟩ := AT.out W hW.out; go_simp; done)
             | (obtain ⟨a0, a1, a2, a3⟩ := AT.out W hW.out; go_simp; exact rfl)
         clear hK K)
  refine wpQuiet_nil ?_
  intro w9 hw9
  obtain ⟨a0, a1, a2, a3⟩ := AT.out w9 hw9.out
  obtain ⟨A9, c9, hv9⟩ := hw9.out.2.2.2.2.form
  obtain ⟨m9, hm9⟩ : ∃ p, EV.length = p := ⟨_, rfl⟩
  rw [hm9] at hv9
  subst hv9
  have hpz9 : w9.heap[P0]? = some (.cells prZ 47) := (hw9.out.2.2.1 P0 (by have := HD.out.2.2.2.2.2.2.1; omega) (by have := HD.out.2.2.2.2.2.2.1; omega)).trans HW.out.2.2.2.2.1
  have rg : Hid (w9.rangeAt D 1 (prC d s (.slice A9 m9 c9) (t5 : Nat)).toList) := Lib.hid (rangeAt_of hw9.out.2.2.2.1 1 12 (by show 13 ≤ 14; decide))
  obtain ⟨d9, hu⟩ := isStruct_of (P := Tryz.prog) (t := 47) (by kernel_rfl)
  have hi : (Tryz.prog.info? 47).map (·.size) = some 12 := by kernel_rfl
  have hst9 : (w9.setRow P0 (prC d s (.slice A9 m9 c9) (t5 : Nat))).heap[P0]? = some (.cells (prC d s (.slice A9 m9 c9) (t5 : Nat)) 47 (0, 0)) := setRow_heap _ _ _ _ _ _ hpz9
  have hBF := below_setRow hw9.out.1 HD.out.2.2.2.2.2.2.2 (prC d s (.slice A9 m9 c9) (t5 : Nat))
  have hO : OwnC cMis 5 54 (w9.setRow P0 (prC d s (.slice A9 m9 c9) (t5 : Nat))) (D + 2) (.slice A9 m9 c9) EV := hw9.out.2.2.2.2.keep fun g hg1 _ => setRow_other _ _ _ _ (by have := HD.out.2.2.2.2.2.2.1; omega)
  have HU := Lib.hid (And.intro hi hu)
  have HF := Lib.hid (And.intro hst9 (And.intro hBF (And.intro hO (And.intro hm9 hpz9))))
  clear hst9 hBF hO hi hu hm9 S1 AT JG hw9 hpz9
  (try simp only [Exit.inBlock, Exit.then])
  go_wp2_with (first | (refine wpList_load_mid rfl _ _ rfl D 1 rfl _ _ rg.out HU.out.2 rfl (HU.out.1.trans rfl) ?_) | (refine wpList_store_row rfl _ _ _ rfl P0 (prC d s (.slice A9 m9 c9) (t5 : Nat)) rfl rfl _ _ HF.out.2.2.2.2 (HU.out.1.trans rfl) rfl (by kernel_rfl) ?_))
  (try simp only [Exit.inBlock, Exit.then])
  refine bodyPost_ret (results_cell2p rfl _ _ P0 _ _ _ _ rfl HF.out.1 HU.out.2 rfl (HU.out.1.trans rfl)) rfl ?_
  have hE : ev1 ++ ev2 = EV := by rw [← HEV.out]; simp
  rw [hE, HF.out.2.2.2.1]
  exact ⟨A9, c9, rfl, ownC_base HF.out.2.2.1 (by have := HD.out.1; omega), HF.out.2.1⟩
end Go.Proofs.YtgenpgfhjhcahaaGreatDoor
/- meter.Check, allow.Check, fetch.limit of small configurations. -/
namespace Go.Proofs.YtgenpgfhjhcahaaGreatDoor
open Go.ChangeShapes Go.WideShapes Go.ChangeAt Go.RowKit
set_option linter.unusedVariables false
def cIf (x : Int) : List Value := [.int .i64 x]
set_option maxRecDepth 100000 in
set_option maxHeartbeats 4000000 in
/-- No number of a row is so. -/
theorem intIndex_no (fid : FuncId) (cap9 : Array Value) (A : Option Addr) (n cap : Nat) (l : List Int) (w : World) (h : RRd cIf 1 w w.heap.size A n cap l) (hm : n ≤ 1000000)
    (ec : ∀ args w, (callFunc fid args).run Tryz.prog w = .ok (.enter fid args) w) (HM : ∀ x ∈ l, ∀ W, Below w.heap.size w W → Calls Tryz.prog fid #[.int .i64 x] W fun e w' => e = .returned (.bool false) ∧ Below W.heap.size W w') :
    Calls Tryz.prog 90 #[.slice A n cap, .func (.func fid) #[] #[]] w fun e w' => e = .returned (.int .i64 (-1)) ∧ Below w.heap.size w w' := by
  have HP : Hid (∀ W, Below w.heap.size w W → RRd cIf 1 W W.heap.size A n cap l) := Lib.hid fun W hb => (h.below hb).more hb.size
  have HMM := Lib.hid HM
  clear h HM
  go_enter Tryz.func90, Tryz.ntmps90
  go_wp2
  go_loopg [8] (n) (fun g i wr => ∃ t : Nat, i = .int .i64 (t : Int) ∧ t ≤ n ∧ Hid (g + t = n) ∧ Hid (Below w.heap.size w wr))
  case atStart => exact ⟨0, rfl, Nat.zero_le _, Lib.hid rfl, Lib.hid (Below.refl _ _)⟩
  case round =>
    obtain ⟨t, rfl, ht, hg, HB⟩ := hrel
    have ht0 : (0 : Int) ≤ (t : Int) := by omega
    have ht9 : (t : Int) ≤ 1000000 := by omega
    by_cases htn : t < n
    · have hti : (t : Int) < (n : Int) := by omega
      obtain ⟨b1, o1, x, rfl, hb1, hx, hc1⟩ := (HP.out _ HB.out).cell htn
      have HC := Lib.hid (HMM.out x (List.mem_of_getElem? hx) wr HB.out)
      have y0 : wr.cell? ⟨b1, o1 + t, none⟩ = some (.int .i64 x) := by rw [show o1 + t = o1 + (t * 1 + 0) by omega]; exact hc1 0 _ rfl
      clear hb1 hx hc1
      go_wp2_with fail
      refine HC.out.mono ?_
      rintro e w2 ⟨rfl, hb2⟩
      have HB2 := Lib.hid (HB.out.trans (hb2.mono HB.out.size))
      clear hb2
      go_wp2
      go_roundg (n - (t + 1))
      case measure => have := hg.out; omega
      case rel => exact ⟨t + 1, by go_num, by omega, Lib.hid (by have := hg.out; omega), HB2⟩
    · have hti : ¬ (t : Int) < (n : Int) := by omega
      go_wp2
      go_ret
      exact ⟨rfl, HB.out⟩
set_option maxRecDepth 100000 in
set_option maxHeartbeats 4000000 in
theorem intContains_no (fid : FuncId) (A : Option Addr) (n cap : Nat) (l : List Int) (w : World) (h : RRd cIf 1 w w.heap.size A n cap l) (hm : n ≤ 1000000)
    (ec : ∀ args w, (callFunc fid args).run Tryz.prog w = .ok (.enter fid args) w) (HM : ∀ x ∈ l, ∀ W, Below w.heap.size w W → Calls Tryz.prog fid #[.int .i64 x] W fun e w' => e = .returned (.bool false) ∧ Below W.heap.size W w') :
    Calls Tryz.prog 63 #[.slice A n cap, .func (.func fid) #[] #[]] w fun e w' => e = .returned (.bool false) ∧ Below w.heap.size w w' := by
  have C1 := Lib.hid (intIndex_no fid #[] A n cap l w h hm ec HM)
  clear h hm HM
  go_enter Tryz.func63, Tryz.ntmps63
  go_wp2_with fail
  refine C1.out.mono ?_
  rintro e w1 ⟨rfl, hb⟩
  have HB := Lib.hid hb
  clear hb
  go_wp2
  go_ret
  exact ⟨rfl, HB.out⟩
set_option maxRecDepth 100000 in
set_option maxHeartbeats 4000000 in
theorem strContains_nil (fid : FuncId) (w : World) : Calls Tryz.prog 57 #[.slice none 0 0, .func (.func fid) #[] #[]] w fun e w' => e = .returned (.bool false) ∧ Below w.heap.size w w' := by
  have C1 : Hid (Calls Tryz.prog 86 #[.slice none 0 0, .func (.func fid) #[] #[]] w fun e w' => e = .returned (.int .i64 (-1)) ∧ Below w.heap.size w w') := by
    refine Lib.hid ?_
    go_enter Tryz.func86, Tryz.ntmps86
    go_wp2
    go_loopg [8] (0) (fun g i wr => i = .int .i64 0 ∧ Hid (Below w.heap.size w wr))
    case atStart => exact ⟨rfl, Lib.hid (Below.refl _ _)⟩
    case round =>
      obtain ⟨rfl, HB⟩ := hrel
      go_wp2
      go_ret
      exact ⟨rfl, HB.out⟩
  go_enter Tryz.func57, Tryz.ntmps57
  go_wp2_with fail
  refine C1.out.mono ?_
  rintro e w1 ⟨rfl, hb⟩
  have HB := Lib.hid hb
  clear hb
  go_wp2
  go_ret
  exact ⟨rfl, HB.out⟩
set_option maxRecDepth 100000 in
set_option maxHeartbeats 4000000 in
theorem allowCheck_nil (w : World) : Calls Tryz.prog 41 #[.slice none 0 0] w fun e w' => e = .returned (.int .i64 0) ∧ Below w.heap.size w w' := by
  have C1 := Lib.hid (strContains_nil 58 w)
  go_enter Tryz.func41, Tryz.ntmps41
  go_wp2_with fail
  refine C1.out.mono ?_
  rintro e w1 ⟨rfl, hb⟩
  have HB := Lib.hid hb
  clear hb
  go_wp2
  go_ret
  exact ⟨rfl, HB.out⟩
set_option maxRecDepth 100000 in
set_option maxHeartbeats 4000000 in
theorem limit_ok (n : Int) (h0 : 0 ≤ n) (h1 : n ≤ 1099511627776) (w : World) : Calls Tryz.prog 40 #[.int .i64 n] w fun e w' => e = .returned (.bool true) ∧ w = w' := by
  go_enter Tryz.func40, Tryz.ntmps40
  go_wp2
  go_ret
  exact ⟨rfl, rfl⟩
end Go.Proofs.YtgenpgfhjhcahaaGreatDoor
/- meter.Check, allow.Check, fetch.limit of small configurations, two. -/
namespace Go.Proofs.YtgenpgfhjhcahaaGreatDoor
open Go.ChangeShapes Go.WideShapes Go.ChangeAt Go.RowKit
set_option linter.unusedVariables false
theorem rrd_ints {w : World} {b : Nat} {l : List Int} {T : TypeId} {f : Nat × Nat} (hl : l.length ≤ 1000000) (h : w.heap[b]? = some (.cells (l.map fun x => Value.int .i64 x).toArray T f)) {B : Nat} (hB : b < B) : RRd cIf 1 w B (some ⟨b, 0, none⟩) l.length l.length l :=
  ⟨rfl, Nat.le_refl _, (by unfold maxLen; omega), fun e => (by cases e), fun _ => ⟨b, 0, rfl, hB, fun i x hx j u hu => by
    obtain rfl : j = 0 := by
      have := (List.getElem?_eq_some_iff.1 hu).1
      simp [cIf] at this
      exact this
    rw [cell_of (0 + (i * 1 + 0)) h]
    simp [cIf] at hu
    subst hu
    simp [hx]⟩⟩
set_option maxRecDepth 100000 in
set_option maxHeartbeats 4000000 in
theorem metOdd_c (n : Int) (h0 : 0 ≤ n) (h1 : n ≤ 1099511627776) (w : World) : Calls Tryz.prog 62 #[.int .i64 n] w fun e w' => e = .returned (.bool false) ∧ Below w.heap.size w w' := by
  have d0 : ¬ n < 0 := by omega
  have d1 : ¬ 1099511627776 < n := by omega
  have d2 : (decide (n < 0) || decide (1099511627776 < n)) = false := by simp; omega
  go_enter Tryz.func62, Tryz.ntmps62
  go_wp2
  go_ret
  exact ⟨by simp, Below.refl _ _⟩
/-- A small configuration, of nothing allowed. -/
def cfgV (s o d a f b : Int) : Value := .agg #[.int .i64 s, .int .i64 o, .int .i64 d, .int .i64 a, .int .i64 f, .int .i64 b, .slice none 0 0]
def Lims (l : List Int) : Prop := ∀ x ∈ l, 0 ≤ x ∧ x ≤ 1099511627776
set_option maxRecDepth 100000 in
set_option maxHeartbeats 4000000 in
theorem metCheck_c (s o d a f b : Int) (h : Lims [s, o, d, a, f, b]) (w : World) : Calls Tryz.prog 44 #[cfgV s o d a f b] w fun e w' => e = .returned (.int .i64 0) ∧ Below w.heap.size w w' := by
  have CC : Hid (∀ (W : World) (g : Nat) (f9 : Nat × Nat), W.heap[g]? = some (.cells #[.int .i64 s, .int .i64 o, .int .i64 d, .int .i64 a, .int .i64 f, .int .i64 b] 3 f9) → Calls Tryz.prog 63 #[.slice (some ⟨g, 0, none⟩) 6 6, .func (.func 62) #[] #[]] W fun e w' => e = .returned (.bool false) ∧ Below W.heap.size W w') := Lib.hid fun W g f9 hg =>
    intContains_no 62 _ 6 6 [s, o, d, a, f, b] W (rrd_ints (l := [s, o, d, a, f, b]) (by simp) hg (lt_of hg)) (by omega) (enters_of Tryz.func62 (by kernel_rfl) rfl) fun x hx W2 _ => metOdd_c x (h x hx).1 (h x hx).2 W2
  have CA : Hid (∀ W, Calls Tryz.prog 41 #[.slice none 0 0] W fun e w' => e = .returned (.int .i64 0) ∧ Below W.heap.size W w') := Lib.hid fun W => allowCheck_nil W
  clear h
  unfold cfgV
  have hx := hp_new w (.cells #[.int .i64 s, .int .i64 o, .int .i64 d, .int .i64 a, .int .i64 f, .int .i64 b, .slice none 0 0] 39)
  have hb0 := (Below.refl w.heap.size w).alloc (Nat.le_refl _) (.cells #[.int .i64 s, .int .i64 o, .int .i64 d, .int .i64 a, .int .i64 f, .int .i64 b, .slice none 0 0] 39)
  obtain ⟨w0, hw0⟩ : ∃ w0, w.alloc (.cells #[.int .i64 s, .int .i64 o, .int .i64 d, .int .i64 a, .int .i64 f, .int .i64 b, .slice none 0 0] 39) = w0 := ⟨_, rfl⟩
  rw [hw0] at hx hb0
  have q0 := cell_of 0 hx
  have q1 := cell_of 1 hx
  have q2 := cell_of 2 hx
  have q3 := cell_of 3 hx
  have q4 := cell_of 4 hx
  have q5 := cell_of 5 hx
  simp only [List.getElem?_toArray, List.getElem?_cons_zero, List.getElem?_cons_succ] at q0 q1 q2 q3 q4 q5
  have HX := Lib.hid (And.intro hx hb0)
  clear hx hb0
  go_enter Tryz.func44, Tryz.ntmps44
  go_wp2_with fail
  refine (CC.out _ _ _ (hp_new _ _)).mono ?_
  rintro e w2 ⟨rfl, hb2⟩
  have hb3 : Below w0.heap.size w0 w2 := ((Below.refl _ w0).alloc (Nat.le_refl _) _).trans (hb2.mono (by simp))
  have q6 : w2.cell? ⟨w.heap.size, 6, none⟩ = some (.slice none 0 0) := by rw [cell_of 6 ((hb3.block _ (lt_of HX.out.1)).trans HX.out.1)]; rfl
  have HB3 := Lib.hid (HX.out.2.trans (hb3.mono HX.out.2.size))
  clear hb2 hb3 CC q0 q1 q2 q3 q4 q5
  go_wp2_with fail
  refine (CA.out _).mono ?_
  rintro e w3 ⟨rfl, hb4⟩
  have HB4 := Lib.hid (HB3.out.trans (hb4.mono HB3.out.size))
  clear hb4
  go_wp2
  go_ret
  exact ⟨rfl, HB4.out⟩
end Go.Proofs.YtgenpgfhjhcahaaGreatDoor
/- meter.Check, allow.Check, fetch.limit of small configurations, three. -/
namespace Go.Proofs.YtgenpgfhjhcahaaGreatDoor
open Go.ChangeShapes Go.WideShapes Go.ChangeAt Go.RowKit
set_option linter.unusedVariables false
set_option maxRecDepth 100000 in
set_option maxHeartbeats 4000000 in
theorem metNew_c (s o d a f b : Int) (h : Lims [s, o, d, a, f, b]) (w : World) : Calls Tryz.prog 20 #[cfgV s o d a f b] w fun e w' => (∃ m, e = .returned (.tuple #[.pointer (some ⟨m, 0, none⟩), .int .i64 0])) ∧ Below w.heap.size w w' := by
  have CC : Hid (∀ W, Calls Tryz.prog 44 #[cfgV s o d a f b] W fun e w' => e = .returned (.int .i64 0) ∧ Below W.heap.size W w') := Lib.hid fun W => metCheck_c s o d a f b h W
  clear h
  unfold cfgV at CC ⊢
  have hx := hp_new w (.cells #[.int .i64 s, .int .i64 o, .int .i64 d, .int .i64 a, .int .i64 f, .int .i64 b, .slice none 0 0] 39)
  have hb0 := (Below.refl w.heap.size w).alloc (Nat.le_refl _) (.cells #[.int .i64 s, .int .i64 o, .int .i64 d, .int .i64 a, .int .i64 f, .int .i64 b, .slice none 0 0] 39)
  obtain ⟨w0, hw0⟩ : ∃ w0, w.alloc (.cells #[.int .i64 s, .int .i64 o, .int .i64 d, .int .i64 a, .int .i64 f, .int .i64 b, .slice none 0 0] 39) = w0 := ⟨_, rfl⟩
  rw [hw0] at hx hb0
  have q0 := cell_of 0 hx
  have q1 := cell_of 1 hx
  have q2 := cell_of 2 hx
  have q3 := cell_of 3 hx
  have q4 := cell_of 4 hx
  have q5 := cell_of 5 hx
  have q6 := cell_of 6 hx
  simp only [List.getElem?_toArray, List.getElem?_cons_zero, List.getElem?_cons_succ] at q0 q1 q2 q3 q4 q5 q6
  have HX := Lib.hid (And.intro hx hb0)
  clear hx hb0
  go_enter Tryz.func20, Tryz.ntmps20
  go_wp2_with fail
  refine (CC.out _).mono ?_
  rintro e w2 ⟨rfl, hb2⟩
  have hc := (hb2.block _ (lt_of HX.out.1)).trans HX.out.1
  have q0 := cell_of 0 hc
  have q1 := cell_of 1 hc
  have q2 := cell_of 2 hc
  have q3 := cell_of 3 hc
  simp only [List.getElem?_toArray, List.getElem?_cons_zero, List.getElem?_cons_succ] at q0 q1 q2 q3
  have HB := Lib.hid (HX.out.2.trans (hb2.mono HX.out.2.size))
  clear hc hb2 CC
  go_wp2
  exact bodyPost_ret (results_tmp2 rfl _ _ _) rfl ⟨⟨_, rfl⟩, HB.out.alloc HB.out.size _⟩
set_option maxRecDepth 100000 in
set_option maxHeartbeats 4000000 in
theorem dtdNew_c (w : World) : Calls Tryz.prog 18 #[] w fun e w' => (∃ t, e = .returned (.pointer (some ⟨t, 0, none⟩))) ∧ Below w.heap.size w w' := by
  have hmm := @run_makeMap Tryz.prog
  have C1 : Hid (∀ W, Calls Tryz.prog 37 #[] W fun e w' => (∃ t, e = .returned (.pointer (some ⟨t, 0, none⟩))) ∧ Below W.heap.size W w') := Lib.hid fun W => by
    go_enter Tryz.func37, Tryz.ntmps37
    go_wp2
    go_ret
    exact ⟨⟨_, rfl⟩, ((Below.refl _ _).alloc (Nat.le_refl _) _).alloc (by simp) _⟩
  have C2 : Hid (∀ W, Calls Tryz.prog 38 #[] W fun e w' => (∃ t, e = .returned (.pointer (some ⟨t, 0, none⟩))) ∧ Below W.heap.size W w') := Lib.hid fun W => by
    go_enter Tryz.func38, Tryz.ntmps38
    go_wp2
    go_ret
    exact ⟨⟨_, rfl⟩, ((Below.refl _ _).alloc (Nat.le_refl _) _).alloc (by simp) _⟩
  have C3 : Hid (∀ W, Calls Tryz.prog 39 #[] W fun e w' => (∃ t, e = .returned (.pointer (some ⟨t, 0, none⟩))) ∧ Below W.heap.size W w') := Lib.hid fun W => by
    go_enter Tryz.func39, Tryz.ntmps39
    go_wp2
    go_ret
    exact ⟨⟨_, rfl⟩, ((Below.refl _ _).alloc (Nat.le_refl _) _).alloc (by simp) _⟩
  clear hmm
  go_enter Tryz.func18, Tryz.ntmps18
  go_wp2_with fail
  refine (C1.out _).mono ?_
  rintro e w1 ⟨⟨t1, rfl⟩, hb1⟩
  have HB1 := Lib.hid hb1
  clear hb1
  go_wp2_with fail
  refine (C1.out _).mono ?_
  rintro e w2 ⟨⟨t2, rfl⟩, hb2⟩
  have HB2 := Lib.hid (HB1.out.trans (hb2.mono HB1.out.size))
  clear hb2
  go_wp2_with fail
  refine (C2.out _).mono ?_
  rintro e w3 ⟨⟨t3, rfl⟩, hb3⟩
  have HB3 := Lib.hid (HB2.out.trans (hb3.mono HB2.out.size))
  clear hb3
  go_wp2_with fail
  refine (C3.out _).mono ?_
  rintro e w4 ⟨⟨t4, rfl⟩, hb4⟩
  have HB4 := Lib.hid (HB3.out.trans (hb4.mono HB3.out.size))
  clear hb4
  go_wp2
  go_ret
  exact ⟨⟨_, rfl⟩, HB4.out.alloc HB4.out.size _⟩
set_option maxRecDepth 100000 in
set_option maxHeartbeats 4000000 in
theorem clone_nil (w : World) : Calls Tryz.prog 42 #[.slice none 0 0] w fun e w' => e = .returned (.slice none 0 0) ∧ Below w.heap.size w w' := by
  have he : (binOp .eql 37 (.slice none 0 0) (.slice none 0 0)).run Tryz.prog w = .ok (.bool true) w := by kernel_rfl
  go_enter Tryz.func42, Tryz.ntmps42
  go_wp2
  go_ret
  exact ⟨rfl, Below.refl _ _⟩
set_option maxRecDepth 100000 in
set_option maxHeartbeats 4000000 in
theorem oraclePut_nil (w : World) : Calls Tryz.prog 43 #[.slice none 0 0] w fun e w' => e = .returned (.slice none 0 0) ∧ Below w.heap.size w w' := by
  have hmm := @run_makeMap Tryz.prog
  go_enter Tryz.func43, Tryz.ntmps43
  go_wp2
  go_loopg [3, 12] (0) (fun g o i wr => o = .slice none 0 0 ∧ i = .int .i64 0 ∧ Hid (Below w.heap.size w wr))
  case atStart => exact ⟨rfl, rfl, Lib.hid ((Below.refl _ _).alloc (Nat.le_refl _) _)⟩
  case round =>
    obtain ⟨rfl, rfl, HB⟩ := hrel
    go_wp2
    go_ret
    exact ⟨rfl, HB.out⟩
end Go.Proofs.YtgenpgfhjhcahaaGreatDoor
