/- Texts of ours, joined: Ev2, CkH, Dig2, CChar, CChar2, RefC, Lit1, Lit2, Lit3, Lit4, Lit5, RPutPi, CkB, CkE, CkM, CkT, CkR. -/
import Derived.Test.YthihkbcdihochaaGreatDoorRows
import Derived.WalkKit
import Derived.ProofKit
import Derived.OpenShut
import Derived.ShutString
import Derived.ChangeOld
import Derived.Below
import Derived.BigQuiet
import Derived.Deep.QuietTactic
import Derived.Lib.Hide
import Derived.Deep.RegionHeld3
import Derived.Lib.SlBytesConst
import Derived.Laws.CopyOwn
import Derived.Laws.CopyRow
import Derived.Lib.Bytes
import Derived.Deep.LoopGhost
import Derived.Deep.DeepFit
import Derived.Deep.DeepMust
import Derived.WalkSpells
import Derived.WalkLawsBesides
import Derived.Test.YthihkbcdihochaaGreatDoorC1
import Derived.Test.YthihkbcdihochaaGreatDoorC4
import Derived.Test.YthihkbcdihochaaGreatDoorC2
import Derived.Test.YthihkbcdihochaaGreatDoorC3
import Derived.Test.YthihkbcdihochaaGreatDoorC10
import Derived.Maps.OwnOps
import Derived.Maps.OwnSet
import Derived.Maps.Views
import Derived.Laws.EntriesVeiled
import Derived.Laws.Rows
import Derived.Maps.AppendAt
import Derived.Lib.SmallJoins
import Derived.Deep.AppendLies
import Derived.Deep.RegionLaw
import Derived.Deep.RegionWith
import Derived.Test.YthihkbcdihochaaGreatDoorC5
import Derived.Lib.IndexAny
import Derived.DeepKeys4
import Derived.MapViews
import Derived.Maps.Keyed
import Derived.WideKeyEntry
/- Are all characters of bytes such as a document may hold? Of the program, and of the document. -/
namespace Go.Proofs.YthihkbcdihochaaGreatDoor
open Go.ChangeShapes Go.WideShapes Go.ChangeAt Go.RowKit
set_option linter.unusedVariables false
set_option maxRecDepth 100000 in
set_option maxHeartbeats 4000000 in
theorem charsAllD_c (A : Option Addr) (n cap : Nat) (l : List UInt8) (w : World) (h : Byt w w.heap.size A n cap l) (hF : Forms w) (hT : Tabs w) (hm : n ≤ 1100000) :
    Calls Tryz.prog 259 #[.slice A n cap, .func (.func 173) #[] #[]] w fun e w' => e = .returned (.bool (allOut isDoc l)) ∧ Below w.heap.size w w' := by
  have HR := Lib.hid (utfRunes_c A n cap l w h hF hm)
  have hrl := runesL_le l.length l
  rw [h.length] at hrl
  have HRL : Hid ((runesOut l).1.length ≤ n) := Lib.hid (by unfold runesOut; rw [← h.length] at *; exact hrl.2)
  have HA : Hid (allOut isDoc l = ((runesOut l).2 && (runesOut l).1.all fun r => isDoc (r : Int))) := Lib.hid rfl
  have hnil : ∀ w : World, (binOp .eql 117 (.func (.func 173) #[] #[]) .nilFunc).run Tryz.prog w = .ok (.bool false) w := fun w => by kernel_rfl
  have ec : ∀ args w, (callFunc 173 args).run Tryz.prog w = .ok (.enter 173 args) w := enters_of Tryz.func173 (by kernel_rfl) rfl
  have HT := Lib.hid hT
  have HTL := Lib.hid (hT.low hF)
  clear h hrl hF hT
  generalize allOut isDoc l = res at *
  unfold RunesP at HR
  generalize runesOut l = ro at *
  obtain ⟨rs, ok⟩ := ro
  simp only at HR HRL HA
  go_enter Tryz.func259, Tryz.ntmps259
  go_wp2_with fail
  refine HR.out.mono ?_
  rintro e w1 ⟨hb, ⟨hok, A', c', rfl, hrd⟩ | ⟨hok, z, hz, rfl⟩⟩
  · have B1 := Lib.hid hb
    have HOK := Lib.hid hok
    have HRD := Lib.hid hrd
    clear hb hok hrd
    go_wp2
    go_loopg [22] (rs.length) (fun g i wr => ∃ t : Nat, t ≤ rs.length ∧ Hid (g + t = rs.length) ∧ i = .int .i64 (t : Int) ∧ Hid (Below w1.heap.size w1 wr) ∧ Hid ((rs.take t).all (fun r => isDoc (r : Int)) = true))
    case atStart => exact ⟨0, Nat.zero_le _, Lib.hid rfl, rfl, Lib.hid (Below.refl _ _), Lib.hid rfl⟩
    case round =>
      obtain ⟨t, ht, hg, rfl, HBW, HN⟩ := hrel
      have HBA := Lib.hid (B1.out.trans (HBW.out.mono B1.out.size))
      have ht0 : (0 : Int) ≤ (t : Int) := by omega
      have htb : (t : Int) ≤ 1100000 := by have := HRL.out; omega
      by_cases htn : t < rs.length
      · have htni : (t : Int) < (rs.length : Int) := by omega
        have hrt : rs[t]? = some (rs.getD t 0) := by rw [List.getElem?_eq_getElem htn]; simp [htn]
        obtain ⟨b, o, e, hbb, hcl⟩ := (HRD.out.below HBW.out).at_ (by have := HRD.out.le; omega)
        subst e
        have hcell := hcl t (iv (rs.getD t 0)) (by rw [List.getElem?_map, hrt]; rfl)
        have HAT := Lib.hid (all_take isDoc rs t _ hrt)
        have HAL : Hid (isDoc (rs.getD t 0 : Int) = false → (rs.all fun r => isDoc (r : Int)) = false) := Lib.hid (fun h => by
          rw [List.all_eq_false]
          exact ⟨_, List.mem_of_getElem? hrt, by rw [h]; simp⟩)
        unfold iv at hcell
        clear hcl hrt hbb
        generalize rs.getD t 0 = r at *
        have HII := Lib.hid (char_c (r : Int) wr (HT.out.below HBA.out HTL.out))
        cases hp : isDoc (r : Int) with
        | true =>
          have HN2 : Hid ((rs.take (t + 1)).all (fun r => isDoc (r : Int)) = true) := Lib.hid (by rw [HAT.out, HN.out, hp]; rfl)
          rw [hp] at HII
          clear hp
          go_wp2_with fail
          refine HII.out.mono ?_
          rintro e w2 ⟨rfl, hb2⟩
          have HBW2 := Lib.hid (HBW.out.trans (hb2.mono HBW.out.size))
          clear hb2
          go_wp2
          go_roundg (rs.length - (t + 1))
          case measure => have := hg.out; omega
          case rel => exact ⟨t + 1, by omega, Lib.hid (by omega), by go_num, HBW2, HN2⟩
        | false =>
          have HE : Hid (res = false) := Lib.hid (by rw [HA.out, HAL.out hp]; simp)
          rw [hp] at HII
          clear hp
          go_wp2_with fail
          refine HII.out.mono ?_
          rintro e w2 ⟨rfl, hb2⟩
          have HBE := Lib.hid (HBA.out.trans (hb2.mono HBA.out.size))
          clear hb2
          go_wp2
          go_ret
          rw [HE.out]
          exact ⟨rfl, HBE.out⟩
      · have htni : ¬ (t : Int) < (rs.length : Int) := by omega
        have HE : Hid (res = true) := Lib.hid (by
          have := HN.out
          rw [List.take_of_length_le (by omega)] at this
          rw [HA.out, HOK.out, this]; rfl)
        go_wp2
        go_ret
        rw [HE.out]
        exact ⟨rfl, HBA.out⟩
  · have B1 := Lib.hid hb
    have HE : Hid (res = false) := Lib.hid (by rw [HA.out, hok]; rfl)
    subst hz
    clear hb hok
    go_wp2
    go_ret
    rw [HE.out]
    exact ⟨rfl, B1.out⟩
end Go.Proofs.YthihkbcdihochaaGreatDoor
/- check.may, a closure of spaced. -/
namespace Go.Proofs.YthihkbcdihochaaGreatDoor
open Go.ChangeShapes Go.WideShapes Go.ChangeAt Go.RowKit
set_option linter.unusedVariables false
set_option maxRecDepth 100000 in
set_option maxHeartbeats 4000000 in
theorem may_c (s : List UInt8) (w : World) (hT : Tabs w) (hF : Forms w) (hm : s.length ≤ 1000000) : Calls Tryz.prog 238 #[.string ⟨s.toArray⟩] w fun e w' => e = .returned (.bool (allOut isDoc s)) ∧ Below w.heap.size w w' := by
  have cv := run_toBytes w s
  have hb1 := Lib.bytesWorld_below w 5 ⟨s.toArray⟩
  have C1 := Lib.hid (charsAllD_c _ _ _ s (Lib.bytesWorld w 5 ⟨s.toArray⟩) ((byt_new w s (by omega)).more (Nat.le_of_eq (Lib.bytesWorld_size _ _ _).symm)) (hF.below hb1 hF.lt) (hT.below hb1 (hT.low hF)) (by omega))
  have HB := Lib.hid hb1
  clear hT hF hb1
  generalize allOut isDoc s = b at *
  go_enter Tryz.func238, Tryz.ntmps238
  go_wp2_with fail
  refine C1.out.mono ?_
  rintro e w1 ⟨rfl, hb⟩
  have HB2 := Lib.hid (HB.out.trans (hb.mono HB.out.size))
  clear hb
  go_wp2
  go_ret
  exact ⟨rfl, HB2.out⟩
theorem xmlns_eq (sp : List UInt8) : (sp == xmlnsS) = decide (sp = xmlnsS) := by
  rw [Bool.eq_iff_iff, beq_iff_eq, decide_eq_true_eq]
set_option maxRecDepth 100000 in
set_option maxHeartbeats 4000000 in
theorem spaced1_c (sp lo : List UInt8) (w : World) : Calls Tryz.prog 242 #[.agg #[.string ⟨sp.toArray⟩, .string ⟨lo.toArray⟩]] w fun e w' => e = .returned (.bool (decide (sp = xmlnsS))) ∧ Below w.heap.size w w' := by
  have J0 := Lib.hid (CJ.start 38 w #[.string ⟨sp.toArray⟩, .string ⟨lo.toArray⟩])
  have z0 := cell_of 0 J0.out.2
  have he := xmlns_eq sp
  unfold xmlnsS at *
  generalize decide (sp = [104, 116, 116, 112, 58, 47, 47, 119, 119, 119, 46, 119, 51, 46, 111, 114, 103, 47, 50, 48, 48, 48, 47, 120, 109, 108, 110, 115, 47]) = b at *
  go_enter Tryz.func242, Tryz.ntmps242
  go_wp2
  go_ret
  exact ⟨by first | rfl | simp [he] | (rw [he]; rfl), J0.out.1⟩
end Go.Proofs.YthihkbcdihochaaGreatDoor
/- The document's digits. -/
namespace Go.Proofs.YthihkbcdihochaaGreatDoor
open Go.ChangeShapes Go.WideShapes Go.ChangeAt Go.RowKit
set_option linter.unusedVariables false
end Go.Proofs.YthihkbcdihochaaGreatDoor
/- cref.Char. -/
namespace Go.Proofs.YthihkbcdihochaaGreatDoor
open Go.ChangeShapes Go.WideShapes Go.ChangeAt Go.RowKit
set_option linter.unusedVariables false
end Go.Proofs.YthihkbcdihochaaGreatDoor
/- cref.Char. -/
namespace Go.Proofs.YthihkbcdihochaaGreatDoor
open Go.ChangeShapes Go.WideShapes Go.ChangeAt Go.RowKit
set_option linter.unusedVariables false
end Go.Proofs.YthihkbcdihochaaGreatDoor
/- narthexref06.Char. -/
namespace Go.Proofs.YthihkbcdihochaaGreatDoor
open Go.ChangeShapes Go.WideShapes Go.ChangeAt Go.RowKit
set_option linter.unusedVariables false
end Go.Proofs.YthihkbcdihochaaGreatDoor
/- lit.Quoted. -/
namespace Go.Proofs.YthihkbcdihochaaGreatDoor
open Go.ChangeShapes Go.WideShapes Go.ChangeAt Go.RowKit
set_option linter.unusedVariables false
end Go.Proofs.YthihkbcdihochaaGreatDoor
/- lit.Refs. -/
namespace Go.Proofs.YthihkbcdihochaaGreatDoor
open Go.ChangeShapes Go.WideShapes Go.ChangeAt Go.RowKit
set_option linter.unusedVariables false
end Go.Proofs.YthihkbcdihochaaGreatDoor
/- narthexref07.Refs. -/
namespace Go.Proofs.YthihkbcdihochaaGreatDoor
open Go.ChangeShapes Go.WideShapes Go.ChangeAt Go.RowKit
set_option linter.unusedVariables false
end Go.Proofs.YthihkbcdihochaaGreatDoor
/- lit.read, Value. -/
namespace Go.Proofs.YthihkbcdihochaaGreatDoor
open Go.ChangeShapes Go.WideShapes Go.ChangeAt Go.RowKit
set_option linter.unusedVariables false
end Go.Proofs.YthihkbcdihochaaGreatDoor
/- narthexref07.Quoted, Has, Strict; lit.Entity. -/
namespace Go.Proofs.YthihkbcdihochaaGreatDoor
open Go.ChangeShapes Go.WideShapes Go.ChangeAt Go.RowKit
set_option linter.unusedVariables false
end Go.Proofs.YthihkbcdihochaaGreatDoor
/- narthexref08.PutPi. -/
namespace Go.Proofs.YthihkbcdihochaaGreatDoor
open Go.ChangeShapes Go.WideShapes Go.ChangeAt Go.RowKit
set_option linter.unusedVariables false
end Go.Proofs.YthihkbcdihochaaGreatDoor
/- The document's text (of layer 40). -/
namespace Go.Proofs.YthihkbcdihochaaGreatDoor
open Go.ChangeShapes Go.WideShapes Go.ChangeAt Go.RowKit
set_option linter.unusedVariables false
end Go.Proofs.YthihkbcdihochaaGreatDoor
/- An entry of a map of the call's own, laid and stored. -/
namespace Go.Proofs.YthihkbcdihochaaGreatDoor
open Go.ChangeShapes Go.WideShapes Go.ChangeAt Go.RowKit
set_option linter.unusedVariables false
section
open Go.MapKept Go.ChangeMaps Go.WideElems
variable {H : Type} {P : Program} {w : World} {t k e : TypeId} {b n : Nat} {D : DataW H}
/-- 'm[k]++' on a map of integers that the call made: what the entry's laying and its store give, at whatever world that holds the block. -/
theorem entry_own (KL : WideMaps.KeyLaw P k) (ht : P.underlying t = some (.map k e)) (he : P.underlying e = some (.int .i64)) (hz : ∀ u : World, (zeroValue e).run P u = .ok (.int .i64 0) u) (hn : n < maxLen)
    (hown : w.ownsMap P k (Go.plainElem P e) b n D) {key : Value} {kl : Lit} (hkey : keyOf P k key = some kl) :
    ∃ (c : Int) (st : Nat) (es1 : Array MapEntry) (clock1 : Nat), D.atKey kl (.lit (.int .i64 0)) = .lit (.int .i64 c) ∧
      (∀ W : World, W.heap[b]? = w.heap[b]? → (Instr.lookup t (.map (some b)) key false).run P W = .ok (.int .i64 c) W) ∧
      (∀ W : World, W.heap[b]? = w.heap[b]? → (Instr.mapEntry t (.map (some b)) key).run P W = .ok (.tuple #[.int .i64 c, .int .i64 (st : Int)]) (setBlock W b (.map es1 clock1))) ∧
      (∀ W : World, W.heap[b]? = some (.map es1 clock1) → (Instr.lookup t (.map (some b)) key false).run P W = .ok (.int .i64 c) W) ∧
      ∀ (val : Value) (d : DataW H) (ps : List MemPlace), Go.plainElem P e val = some (d, ps) → ∃ (es2 : Array MapEntry) (clock2 : Nat),
        (∀ W : World, W.heap[b]? = some (.map es1 clock1) → (Instr.entryStore t (.map (some b)) (.int .i64 (st : Int)) val).run P W = .ok () (setBlock W b (.map es2 clock2))) ∧
        ∀ W : World, W.heap[b]? = some (.map es2 clock2) → W.ownsMap P k (Go.plainElem P e) b (n + 1) (D.put kl d) := by
  have K := Go.Maps.Keyed.of_law KL
  have hlook : ∀ (W : World) (n' : Nat) (D' : DataW H), W.ownsMap P k (Go.plainElem P e) b n' D' → ∃ c, (Instr.lookup t (.map (some b)) key false).run P W = .ok (.int .i64 c) W ∧ D'.atKey kl (.lit (.int .i64 0)) = .lit (.int .i64 c) ∧ (Lit.int .i64 c).wf = true := fun W n' D' h => h.lookup_int K ht he (hz W) hkey
  obtain ⟨c, hrun, hat, hwf⟩ := hlook w n D hown
  have hown0 := hown
  obtain ⟨es, clock, hb, F, hs, hD⟩ := hown
  have hat0 : ∀ W : World, W.heap[b]? = w.heap[b]? → (Instr.lookup t (.map (some b)) key false).run P W = .ok (.int .i64 c) W := fun W hW => by
    obtain ⟨c', h1, h2, _⟩ := hlook W n D ⟨es, clock, hW.trans hb, F, hs, hD⟩
    rw [hat] at h2
    cases h2
    exact h1
  have hfin : ∀ (val : Value) (d : DataW H) (ps : List MemPlace), Go.plainElem P e val = some (d, ps) → ∃ (es2 : Array MapEntry) (clock2 : Nat), (Instr.mapUpdate t (.map (some b)) key val).run P w = .ok () (setBlock w b (.map es2 clock2)) ∧
      ∀ W : World, W.heap[b]? = some (.map es2 clock2) → W.ownsMap P k (Go.plainElem P e) b (n + 1) (D.put kl d) := fun val d ps hv => by
    obtain ⟨es', clock', hr, F', hput, _⟩ := Go.Maps.fit_store (R' := Go.plainElem P e) K ht hb F (Nat.lt_of_le_of_lt hs hn) (fun _ _ _ _ hz => hz) hkey hv
    refine ⟨es', clock', hr, fun W hW => ⟨es', clock', hW, F', ?_, ?_⟩⟩
    · obtain ⟨w', hr2, ⟨es'', clock'', hb'', _, hs'', _⟩, _⟩ := hown0.update K ht hn hkey hv
      rw [hr] at hr2
      cases hr2
      rw [heap_setBlock_same hb] at hb''
      cases hb''
      exact hs''
    · rw [hD, DataW.put_eq, hput]
  have hset : ∀ (x y : Obj), setBlock w b x = setBlock w b y → x = y := fun x y h => by
    have h1 := heap_setBlock_same hb x
    rw [h, heap_setBlock_same hb y] at h1
    exact (Option.some.inj h1).symm
  have hs1 := F.stamped.1
  have hs2 := F.stamped.2.1
  rcases KL.find w hkey es.toList F.keys with ⟨h1, h2⟩ | ⟨j, e0, h1, h2, h3⟩
  · have hf1 : ∀ W : World, (Instr.findKey k key es.toList).run P W = .ok none W := fun W => by
      rcases KL.find W hkey es.toList F.keys with ⟨g1, _⟩ | ⟨j, e0, _, g2, g3⟩
      · exact g1
      · exact absurd g3 (h2 _ (List.mem_of_getElem? g2))
    have hc0 : c = 0 := by
      have : (Instr.lookup t (.map (some b)) key false).run P w = .ok (.int .i64 0) w := by simp [Instr.lookup, run_underlying ht, MapKept.run_getObj_map hb, K.check w _ hkey, h1, hz, Result.andThen]
      rw [this] at hrun
      cases hrun
      rfl
    subst hc0
    have hw0 : Go.plainElem (H := H) P e (.int .i64 0) = some (.lit (.int .i64 0), []) := Go.plainElem_int he (by decide)
    have hu : ∀ val, (Instr.mapUpdate t (.map (some b)) key val).run P w = .ok () (setBlock w b (.map (es.push ⟨key, val, clock⟩) (clock + 1))) := fun val => by
      simp [Instr.mapUpdate, run_underlying ht, MapKept.run_getObj_map hb, K.check w false hkey, h1, MapKept.run_setObj_map _ hb, Result.andThen, setBlock]
    refine ⟨0, clock, es.push ⟨key, .int .i64 0, clock⟩, clock + 1, hat, hat0, fun W hW => ?_, fun W hW => ?_, fun val d ps hv => ?_⟩
    · have hbW := hW.trans hb
      simp [Instr.mapEntry, run_underlying ht, MapKept.run_getObj_map hbW, K.check W false hkey, hf1, hz, MapKept.run_setObj_map _ hbW, Result.andThen, setBlock, goInt]
    · obtain ⟨es2, clock2, g1, g2⟩ := hfin _ _ _ hw0
      rw [hu] at g1
      injection g1 with _ g1
      have g3 := hset _ _ g1
      cases g3
      obtain ⟨c', k1, k2, _⟩ := hlook W _ _ (g2 W hW)
      rw [Go.Maps.atKey_put_same ⟨_, hD⟩ (K.key hkey)] at k2
      cases k2
      exact k1
    · obtain ⟨es2, clock2, g1, g2⟩ := hfin _ _ _ hv
      rw [hu] at g1
      injection g1 with _ g1
      have g3 := hset _ _ g1
      cases g3
      refine ⟨_, _, fun W hW => ?_, g2⟩
      have hidx : (es.push ⟨key, .int .i64 0, clock⟩).findIdx? (fun e => ((e.born : Nat) : Int) == ((clock : Nat) : Int)) = some es.size := by
        rw [findIdx_arr]
        have := findIdx_born (l := (es.push ⟨key, .int .i64 0, clock⟩).toList) (j := es.size) (e0 := ⟨key, .int .i64 0, clock⟩) (by
          simp only [Array.toList_push, List.map_append, List.map_cons, List.map_nil]
          refine List.nodup_append.2 ⟨hs2, by simp, fun a ha c hc e1 => ?_⟩
          simp only [List.mem_singleton] at hc
          obtain ⟨x, hx, rfl⟩ := List.mem_map.1 ha
          have := hs1 x hx
          omega) (by simp)
        exact this
      have hmod : (es.push ⟨key, .int .i64 0, clock⟩).modify es.size (fun e => { e with val := val }) = es.push ⟨key, val, clock⟩ := by
        apply Array.ext'
        rw [Array.toList_modify, Array.toList_push, Array.toList_push, ← Array.length_toList, modify_last]
      simp [Instr.entryStore, MapKept.run_getObj_map hW, asInt, asIntOf, hidx, hmod, MapKept.run_setObj_map _ hW, Result.andThen, setBlock]
  · have hf1 : ∀ W : World, (Instr.findKey k key es.toList).run P W = .ok (some (j, e0.val)) W := fun W => by
      rcases KL.find W hkey es.toList F.keys with ⟨_, g1⟩ | ⟨j', e0', g1, g2, g3⟩
      · exact absurd h3 (g1 _ (List.mem_of_getElem? h2))
      · have hlt : j < (es.toList.map (·.key)).length := by rw [List.length_map]; exact (List.getElem?_eq_some_iff.1 h2).1
        have hj : j = j' := (List.getElem?_inj hlt F.stamped.2.2).1 (by rw [List.getElem?_map, List.getElem?_map, h2, g2]; simp [h3, g3])
        subst hj
        rw [h2] at g2
        cases g2
        exact g1
    have hj : es[j]? = some e0 := by simpa using h2
    have hsame : es.modify j (fun e => { e with key := key }) = es := by
      apply Array.ext'
      rw [Array.toList_modify, modify_eq_set _ _ _ _ h2]
      have : ({ e0 with key := key } : MapEntry) = e0 := by rw [← h3]
      rw [this]
      exact set_self _ _ _ h2
    have hv0 : e0.val = .int .i64 c := by
      have : (Instr.lookup t (.map (some b)) key false).run P w = .ok e0.val w := by simp [Instr.lookup, run_underlying ht, MapKept.run_getObj_map hb, K.check w _ hkey, h1, Result.andThen]
      rw [this] at hrun
      injection hrun
    refine ⟨c, e0.born, es, clock, hat, hat0, fun W hW => ?_, fun W hW => hat0 W (hW.trans hb.symm), fun val d ps hv => ?_⟩
    · have hbW := hW.trans hb
      rw [← hv0]
      simp [Instr.mapEntry, run_underlying ht, MapKept.run_getObj_map hbW, K.check W false hkey, hf1, hj, h3, KL.stays W hkey, hsame, MapKept.run_setObj_map _ hbW, Result.andThen, setBlock, goInt]
    · obtain ⟨es2, clock2, g1, g2⟩ := hfin _ _ _ hv
      have hu : (Instr.mapUpdate t (.map (some b)) key val).run P w = .ok () (setBlock w b (.map (es.modify j (fun e' => { e' with key := key, val := val })) clock)) := by
        simp [Instr.mapUpdate, run_underlying ht, MapKept.run_getObj_map hb, K.check w false hkey, h1, hj, h3, KL.stays w hkey, MapKept.run_setObj_map _ hb, Result.andThen, setBlock]
      rw [hu] at g1
      injection g1 with _ g1
      have g3 := hset _ _ g1
      cases g3
      refine ⟨_, _, fun W hW => ?_, g2⟩
      have hidx : es.findIdx? (fun e => ((e.born : Nat) : Int) == ((e0.born : Nat) : Int)) = some j := by
        rw [findIdx_arr]
        exact findIdx_born hs2 h2
      have hmod : es.modify j (fun e => { e with val := val }) = es.modify j (fun e' => { e' with key := key, val := val }) := by
        apply Array.ext'
        rw [Array.toList_modify, Array.toList_modify, modify_eq_set _ _ _ _ h2, modify_eq_set _ _ _ _ h2, ← h3]
      simp [Instr.entryStore, MapKept.run_getObj_map hW, asInt, asIntOf, hidx, hmod, MapKept.run_setObj_map _ hW, Result.andThen, setBlock]
end
end Go.Proofs.YthihkbcdihochaaGreatDoor
/- A map that counts names (its key is a struct). -/
namespace Go.Proofs.YthihkbcdihochaaGreatDoor
open Go.ChangeShapes Go.WideShapes Go.ChangeAt Go.RowKit
set_option linter.unusedVariables false
theorem laidOutP : laidOutB Tryz.prog = true := by kernel_rfl
theorem nmCells : Tryz.prog.cellsOf 38 = 2 := by kernel_rfl
theorem nmWide : (match Tryz.prog.underlying 38 with | some (.array _ _) | some (.struct _) => true | _ => false) = true := by kernel_rfl
theorem nmDeep : Tryz.prog.keyTypeAt (Tryz.prog.types.size + 1) 38 = true := by kernel_rfl
set_option maxRecDepth 100000 in
set_option maxHeartbeats 4000000 in
theorem lawNm : Go.Maps.Keyed Tryz.prog 38 := Go.Maps.Keyed.of_law (deep_law_laid laidOutP (m := 2) (by omega) (of_decide_eq_true (by kernel_rfl)) (by kernel_rfl) nmWide)
/-- A name as a map's key. -/
def keyNm (x : List UInt8 × List UInt8) : Lit := .string (keyBytes [.string x.1, .string x.2])
def shortNm (x : List UInt8 × List UInt8) : Prop := x.1.length ≤ 1000000 ∧ x.2.length ≤ 1000000
set_option maxRecDepth 100000 in
set_option maxHeartbeats 4000000 in
theorem keyNm_inj {x y : List UInt8 × List UInt8} (hx : shortNm x) (hy : shortNm y) (h : keyNm x = keyNm y) : x = y := by
  unfold keyNm at h
  injection h with h
  have b1 := hx.1
  have b2 := hx.2
  have b3 := hy.1
  have b4 := hy.2
  have := keyBytes_inj (l := [.string x.1, .string x.2]) (l' := [.string y.1, .string y.2]) ⟨trivial, trivial, trivial⟩
    (fun a ha => by
      simp only [List.mem_cons, List.not_mem_nil, or_false] at ha
      rcases ha with rfl | rfl <;> (show _ ≤ maxLen; unfold maxLen; omega))
    (fun a ha => by
      simp only [List.mem_cons, List.not_mem_nil, or_false] at ha
      rcases ha with rfl | rfl <;> (show _ ≤ maxLen; unfold maxLen; omega)) h
  simp only [List.cons.injEq, Lit.string.injEq, and_true] at this
  exact Prod.ext this.1 this.2
set_option maxRecDepth 100000 in
set_option maxHeartbeats 4000000 in
theorem keyNm_of {sp lo : List UInt8} (h : shortNm (sp, lo)) : keyOf Tryz.prog 38 (.agg #[.string ⟨sp.toArray⟩, .string ⟨lo.toArray⟩]) = some (keyNm (sp, lo)) := by
  have b1 : sp.length ≤ 1000000 := h.1
  have b2 : lo.length ≤ 1000000 := h.2
  have s1 : (⟨sp.toArray⟩ : ByteArray).size ≤ maxLen := by simp [ByteArray.size]; unfold maxLen; omega
  have s2 : (⟨lo.toArray⟩ : ByteArray).size ≤ maxLen := by simp [ByteArray.size]; unfold maxLen; omega
  have hT : DataW.Trod (H := Unit) (fun _ => ()) Tryz.prog (World.settled Tryz.prog default) 0 (fun _ => true) true 38 (.agg #[.string ⟨sp.toArray⟩, .string ⟨lo.toArray⟩]) (.agg [.lit (.string sp), .lit (.string lo)]) [] :=
    Go.Joins.shut_agg2 (y0 := (.lit (.string sp), [])) (y1 := (.lit (.string lo), [])) Tryz.underlying38 (by kernel_rfl) nmCells ⟨1, by simp [DataW.trod, Tryz.underlying9, s1]⟩ ⟨1, by simp [DataW.trod, Tryz.underlying9, s2]⟩
  have hf : (Value.agg #[.string ⟨sp.toArray⟩, .string ⟨lo.toArray⟩]).formed Tryz.prog 38 = true := by simp [Value.formed, Tryz.underlying38, nmCells]
  exact (keyOf_asKey nmDeep nmWide hf hT).1
/-- The names so far, in a map that counts them. -/
def CntN (w : World) (b : Nat) (acc : List (List UInt8 × List UInt8)) : Prop := ∃ D : DataW Unit, w.ownsMap Tryz.prog 38 (Go.plainElem Tryz.prog 3) b acc.length D ∧
  ∀ x, shortNm x → ∃ c : Nat, c ≤ acc.length ∧ D.atKey (keyNm x) (.lit (.int .i64 0)) = .lit (.int .i64 (c : Int)) ∧ hasNm acc x = decide (0 < c)
theorem CntN.start (w : World) : CntN (w.alloc (.map #[] 0)) w.heap.size [] := ⟨.map [], World.ownsMap_made _ _ _ _, fun x _ => ⟨0, Nat.le_refl _, rfl, rfl⟩⟩
set_option maxRecDepth 100000 in
set_option maxHeartbeats 4000000 in
theorem lawNmK : WideMaps.KeyLaw Tryz.prog 38 := deep_law_laid laidOutP (m := 2) (by omega) (of_decide_eq_true (by kernel_rfl)) (by kernel_rfl) nmWide
theorem nmMap_keep {H : Type} {w w' : World} {k : TypeId} {R : Value → Option (DataW H × List MemPlace)} {b n : Nat} {D : DataW H} (h : w.ownsMap Tryz.prog k R b n D) (hk : w'.heap[b]? = w.heap[b]?) : w'.ownsMap Tryz.prog k R b n D := by
  obtain ⟨es, clock, hb, r⟩ := h
  exact ⟨es, clock, hk.trans hb, r⟩
theorem nmMap_at {H : Type} {w : World} {k : TypeId} {R : Value → Option (DataW H × List MemPlace)} {b n : Nat} {D : DataW H} (h : w.ownsMap Tryz.prog k R b n D) : b < w.heap.size := by
  obtain ⟨es, clock, hb, r⟩ := h
  exact lt_of hb
theorem nmMap_is {H : Type} {w : World} {k : TypeId} {R : Value → Option (DataW H × List MemPlace)} {b n : Nat} {D : DataW H} (h : w.ownsMap Tryz.prog k R b n D) : Go.Maps.IsMap D := by
  obtain ⟨es, clock, hb, _, _, rfl⟩ := h
  exact ⟨_, rfl⟩
theorem nmZero (w : World) : (zeroValue 3).run Tryz.prog w = .ok (.int .i64 0) w := by kernel_rfl
theorem cntN_snoc {D : DataW Unit} {acc : List (List UInt8 × List UInt8)} {p : List UInt8 × List UInt8} {c : Nat} (hp : shortNm p) (hm : Go.Maps.IsMap D)
    (hc : ∀ x, shortNm x → ∃ c : Nat, c ≤ acc.length ∧ D.atKey (keyNm x) (.lit (.int .i64 0)) = .lit (.int .i64 (c : Int)) ∧ hasNm acc x = decide (0 < c)) (hcl : c ≤ acc.length) :
    ∀ x, shortNm x → ∃ c' : Nat, c' ≤ (acc ++ [p]).length ∧ (D.put (keyNm p) (.lit (.int .i64 ((c : Int) + 1)))).atKey (keyNm x) (.lit (.int .i64 0)) = .lit (.int .i64 (c' : Int)) ∧ hasNm (acc ++ [p]) x = decide (0 < c') := by
  intro x hx
  have hh : hasNm (acc ++ [p]) x = (hasNm acc x || decide (p = x)) := by unfold hasNm; rw [List.any_append]; simp
  by_cases e : p = x
  · subst e
    refine ⟨c + 1, by simp; omega, ?_, by rw [hh]; simp⟩
    rw [Go.Maps.atKey_put_same hm (by simp [WideAt.IsKeyLit, keyNm])]
    simp
  · obtain ⟨c', h1, h2, h3⟩ := hc x hx
    refine ⟨c', by simp; omega, ?_, by rw [hh, h3]; simp [e]⟩
    rw [Go.Maps.atKey_put_other (fun h => e (keyNm_inj hp hx h.symm)), h2]
theorem wf_smallN (c : Nat) (h : c ≤ 1000000) : (Lit.int .i64 ((c : Int) + 1)).wf = true := by
  simp only [Lit.wf, IntKind.min, IntKind.max, Bool.and_eq_true]
  constructor <;> (simp [IntKind.bits, IntKind.signed]; omega)
end Go.Proofs.YthihkbcdihochaaGreatDoor
/- check.texts. -/
namespace Go.Proofs.YthihkbcdihochaaGreatDoor
open Go.ChangeShapes Go.WideShapes Go.ChangeAt Go.RowKit
set_option linter.unusedVariables false
/-- What is asked of the world. -/
structure WC (w : World) : Prop where
  put : W8F w
  tabs : Tabs w
theorem WC.below {w w' : World} (h : WC w) (hb : Below w.heap.size w w') : WC w' := ⟨h.put.below hb, h.tabs.below hb (h.tabs.low h.put.forms)⟩
set_option maxRecDepth 100000 in
set_option maxHeartbeats 8000000 in
theorem texts_c (k : Int) (sp lo tx : List UInt8) (A : Option Addr) (n cap : Nat) (ats : List (List UInt8 × List UInt8 × List UInt8)) (w : World) (h : RRd cA 3 w w.heap.size A n cap ats) (hm : n ≤ 100000) (hW : WC w) (htx : tx.length ≤ 5000) (hlo : lo.length ≤ 5000) (hl : ∀ x ∈ namesE ⟨k, sp, lo, ats, tx⟩, x.1.length ≤ 1000000) (hv : ∀ x ∈ ats, x.2.2.length ≤ 1000000) :
    Calls Tryz.prog 209 #[.agg #[.int .i64 k, .string ⟨sp.toArray⟩, .string ⟨lo.toArray⟩, .slice A n cap, .string ⟨tx.toArray⟩]] w fun e w' => e = .returned (.bool (textsB ⟨k, sp, lo, ats, tx⟩)) ∧ Below w.heap.size w w' := by
  have J0 := Lib.hid (CJ.start 41 w #[.int .i64 k, .string ⟨sp.toArray⟩, .string ⟨lo.toArray⟩, .slice A n cap, .string ⟨tx.toArray⟩])
  have z0 := cell_of 0 J0.out.2
  have z1 := cell_of 1 J0.out.2
  have z2 := cell_of 2 J0.out.2
  have z3 := cell_of 3 J0.out.2
  have z4 := cell_of 4 J0.out.2
  have hnl : (namesE ⟨k, sp, lo, ats, tx⟩).length ≤ n + 1 := by
    have := h.len
    unfold namesE namesA
    split <;> simp <;> omega
  have C1 := Lib.hid (ckNames_c k sp lo tx A n cap ats _ ((h.below J0.out.1).more J0.out.1.size) hm)
  have HP : Hid (∀ W, Below w.heap.size w W → RRd cA 3 W W.heap.size A n cap ats) := Lib.hid fun W hb => (h.below hb).more hb.size
  have HLN : Hid (ats.length = n) := Lib.hid h.len
  have HM : Hid (∀ (s : List UInt8) (W : World), Below w.heap.size w W → s.length ≤ 1000000 → Calls Tryz.prog 238 #[.string ⟨s.toArray⟩] W fun e w' => e = .returned (.bool (allOut isDoc s)) ∧ Below W.heap.size W w') := Lib.hid fun s W hb hs => may_c s W (hW.below hb).tabs (hW.below hb).put.forms hs
  have HV : Hid (∀ x ∈ ats, x.2.2.length ≤ 1000000) := Lib.hid hv
  have HS : Hid (∀ x ∈ namesE ⟨k, sp, lo, ats, tx⟩, x.1.length ≤ 1000000) := Lib.hid hl
  have HW : Hid (∀ W, Below w.heap.size w W → WC W) := Lib.hid fun W hb => hW.below hb
  have HTX := Lib.hid htx
  have HLO := Lib.hid hlo
  have HR0 : Hid (textsB ⟨k, sp, lo, ats, tx⟩ = (spacesB ((namesE ⟨k, sp, lo, ats, tx⟩).drop 0) && (valuesB (ats.drop 0) && ownB ⟨k, sp, lo, ats, tx⟩))) := Lib.hid (by rw [textsB, Bool.and_assoc]; rfl)
  clear h hW htx hlo hl hv
  generalize textsB ⟨k, sp, lo, ats, tx⟩ = R at *
  obtain ⟨own, hown⟩ : ∃ x, ownB ⟨k, sp, lo, ats, tx⟩ = x := ⟨_, rfl⟩
  rw [hown] at HR0
  have HOWN := Lib.hid hown
  clear hown
  generalize namesE ⟨k, sp, lo, ats, tx⟩ = l at *
  obtain ⟨m, hll⟩ : ∃ m, l.length = m := ⟨_, rfl⟩
  have HLL := Lib.hid hll
  rw [hll] at C1 hnl
  clear hll
  go_enter Tryz.func209, Tryz.ntmps209
  go_wp2_with fail
  refine C1.out.mono ?_
  rintro e w1 ⟨A2, c2, rfl, hr, hb⟩
  have HB1 := Lib.hid (J0.out.1.trans (hb.mono J0.out.1.size))
  have HBJ := Lib.hid hb
  have HQ : Hid (∀ W, Below w1.heap.size w1 W → RRd cN 2 W W.heap.size A2 m c2 l) := Lib.hid fun W hb => (hr.below hb).more hb.size
  clear hr hb C1
  go_wp2
  go_loopg [11] (m) (fun g i wr => ∃ t : Nat, i = .int .i64 (t : Int) ∧ t ≤ m ∧ Hid (g + t = m) ∧ Hid (R = (spacesB (l.drop t) && (valuesB (ats.drop 0) && own))) ∧ Hid (Below w1.heap.size w1 wr))
  case atStart => exact ⟨0, rfl, Nat.zero_le _, Lib.hid rfl, HR0, Lib.hid (Below.refl _ _)⟩
  case round =>
    obtain ⟨t, rfl, ht, hg, HA, HB⟩ := hrel
    have ht0 : (0 : Int) ≤ (t : Int) := by omega
    have ht9 : (t : Int) ≤ 100001 := by omega
    by_cases htn : t < m
    · have hti : (t : Int) < (m : Int) := by omega
      obtain ⟨b1, o1, x, rfl, hb1, hx, hc1⟩ := (HQ.out _ HB.out).cell htn
      have hsx := HS.out x (List.mem_of_getElem? hx)
      have hdr : l.drop t = x :: l.drop (t + 1) := by
        have hl := (List.getElem?_eq_some_iff.1 hx).1
        have he : l[t] = x := by rw [List.getElem?_eq_getElem hl] at hx; exact Option.some.inj hx
        rw [List.drop_eq_getElem_cons hl, he]
      have hA := HA.out
      rw [hdr, spacesB, List.all_cons, ← spacesB] at hA
      obtain ⟨xs, xl⟩ := x
      have y0 : wr.cell? ⟨b1, o1 + t * 2, none⟩ = some (.string ⟨xs.toArray⟩) := by rw [show o1 + t * 2 = o1 + (t * 2 + 0) by omega]; exact hc1 0 _ rfl
      have y1 : wr.cell? ⟨b1, o1 + t * 2 + 1, none⟩ = some (.string ⟨xl.toArray⟩) := by rw [show o1 + t * 2 + 1 = o1 + (t * 2 + 1) by omega]; exact hc1 1 _ rfl
      have ka := (Below.refl wr.heap.size wr).alloc (Nat.le_refl _) (.cells #[.string ⟨xs.toArray⟩, .string ⟨xl.toArray⟩] 38)
      have HBa := Lib.hid (HB.out.trans (ka.mono HB.out.size))
      have C3 := Lib.hid (HM.out xs _ (HB1.out.trans (HBa.out.mono HB1.out.size)) hsx)
      clear hb1 hx hc1 hdr ka hsx
      generalize allOut isDoc xs = q at *
      have HA2 := Lib.hid hA
      clear hA HA
      go_wp2_with fail
      refine C3.out.mono ?_
      rintro e w2 ⟨rfl, hb2⟩
      have HB2 := Lib.hid (HBa.out.trans (hb2.mono HBa.out.size))
      clear hb2
      cases q with
      | false =>
        go_wp2
        go_ret
        exact ⟨by rw [HA2.out]; rfl, HB1.out.trans (HB2.out.mono HB1.out.size)⟩
      | true =>
        go_wp2
        go_roundg (m - (t + 1))
        case measure => have := hg.out; omega
        case rel => exact ⟨t + 1, by go_num, by omega, Lib.hid (by have := hg.out; omega), Lib.hid (by rw [HA2.out, Bool.true_and]), HB2⟩
    · have hti : ¬ (t : Int) < (m : Int) := by omega
      have HA2 : Hid (R = (valuesB (ats.drop 0) && own)) := Lib.hid (by rw [HA.out, List.drop_of_length_le (by rw [HLL.out]; omega)]; rfl)
      have HB2 := Lib.hid (HB1.out.trans (HB.out.mono HB1.out.size))
      clear HA hti HQ HS
      have J2 := Lib.hid (J0.out.kept (HBJ.out.trans (HB.out.mono HBJ.out.size)))
      have z3 := cell_of 3 J2.out.2
      go_wp2
      have HB0 : Hid (Below (w.alloc (.cells #[.int .i64 k, .string ⟨sp.toArray⟩, .string ⟨lo.toArray⟩, .slice A n cap, .string ⟨tx.toArray⟩] 41)).heap.size (w.alloc (.cells #[.int .i64 k, .string ⟨sp.toArray⟩, .string ⟨lo.toArray⟩, .slice A n cap, .string ⟨tx.toArray⟩] 41)) wr) := Lib.hid (HBJ.out.trans (HB.out.mono HBJ.out.size))
      clear HB HB2 HB1 HBJ hg ht0 ht9 htn ht z0 z1 z2 z3 z4
      go_loopg [23] (n) (fun g i wr => ∃ t : Nat, i = .int .i64 (t : Int) ∧ t ≤ n ∧ Hid (g + t = n) ∧ Hid (R = (valuesB (ats.drop t) && own)) ∧ Hid (Below (w.alloc (.cells #[.int .i64 k, .string ⟨sp.toArray⟩, .string ⟨lo.toArray⟩, .slice A n cap, .string ⟨tx.toArray⟩] 41)).heap.size (w.alloc (.cells #[.int .i64 k, .string ⟨sp.toArray⟩, .string ⟨lo.toArray⟩, .slice A n cap, .string ⟨tx.toArray⟩] 41)) wr))
      case atStart => exact ⟨0, rfl, Nat.zero_le _, Lib.hid rfl, HA2, HB0⟩
      case round =>
        clear HB0 HA2 J2
        obtain ⟨t, rfl, ht, hg, HA, HB⟩ := hrel
        have ht0 : (0 : Int) ≤ (t : Int) := by omega
        have ht9 : (t : Int) ≤ 100000 := by omega
        have HBW := Lib.hid (J0.out.1.trans (HB.out.mono J0.out.1.size))
        by_cases htn : t < n
        · have hti : (t : Int) < (n : Int) := by omega
          obtain ⟨b1, o1, x, rfl, hb1, hx, hc1⟩ := (HP.out _ HBW.out).cell htn
          have hsx := HV.out x (List.mem_of_getElem? hx)
          have hdr : ats.drop t = x :: ats.drop (t + 1) := by
            have hl := (List.getElem?_eq_some_iff.1 hx).1
            have he : ats[t] = x := by rw [List.getElem?_eq_getElem hl] at hx; exact Option.some.inj hx
            rw [List.drop_eq_getElem_cons hl, he]
          have hA := HA.out
          rw [hdr, valuesB, List.all_cons, ← valuesB] at hA
          obtain ⟨xs, xl, xv⟩ := x
          have y0 : wr.cell? ⟨b1, o1 + t * 3, none⟩ = some (.string ⟨xs.toArray⟩) := by rw [show o1 + t * 3 = o1 + (t * 3 + 0) by omega]; exact hc1 0 _ rfl
          have y1 : wr.cell? ⟨b1, o1 + t * 3 + 1, none⟩ = some (.string ⟨xl.toArray⟩) := by rw [show o1 + t * 3 + 1 = o1 + (t * 3 + 1) by omega]; exact hc1 1 _ rfl
          have y2 : wr.cell? ⟨b1, o1 + t * 3 + 2, none⟩ = some (.string ⟨xv.toArray⟩) := by rw [show o1 + t * 3 + 2 = o1 + (t * 3 + 2) by omega]; exact hc1 2 _ rfl
          have ka := (Below.refl wr.heap.size wr).alloc (Nat.le_refl _) (.cells #[.string ⟨xs.toArray⟩, .string ⟨xl.toArray⟩, .string ⟨xv.toArray⟩] 112)
          have HBa := Lib.hid (HB.out.trans (ka.mono HB.out.size))
          have C3 := Lib.hid (HM.out xv _ (J0.out.1.trans (HBa.out.mono J0.out.1.size)) hsx)
          clear hb1 hx hc1 hdr ka hsx
          generalize allOut isDoc xv = q at *
          have HA2 := Lib.hid hA
          clear hA HA
          go_wp2_with fail
          refine C3.out.mono ?_
          rintro e w2 ⟨rfl, hb2⟩
          have HB2 := Lib.hid (HBa.out.trans (hb2.mono HBa.out.size))
          clear hb2
          cases q with
          | false =>
            go_wp2
            go_ret
            exact ⟨by rw [HA2.out]; rfl, J0.out.1.trans (HB2.out.mono J0.out.1.size)⟩
          | true =>
            go_wp2
            go_roundg (n - (t + 1))
            case measure => have := hg.out; omega
            case rel => exact ⟨t + 1, by go_num, by omega, Lib.hid (by have := hg.out; omega), Lib.hid (by rw [HA2.out, Bool.true_and]), HB2⟩
        · have hti : ¬ (t : Int) < (n : Int) := by omega
          have HA2 : Hid (R = own) := Lib.hid (by rw [HA.out, List.drop_of_length_le (by rw [HLN.out]; omega)]; rfl)
          have J2 := Lib.hid (J0.out.kept HB.out)
          have HBW := Lib.hid (J0.out.1.trans (HB.out.mono J0.out.1.size))
          clear HA HP HV HB HLN HLL hg J0
          have z0 := cell_of 0 J2.out.2
          have z2 := cell_of 2 J2.out.2
          have z4 := cell_of 4 J2.out.2
          by_cases h3 : k = 3
          · subst h3
            cases tx with
            | nil =>
              go_wp2
              go_ret
              exact ⟨by rw [HA2.out, ← HOWN.out]; rfl, HBW.out⟩
            | cons a tl =>
              have C1 := Lib.hid (HM.out (a :: tl) wr HBW.out (by have := HTX.out; omega))
              have HO2 : Hid (allOut isDoc (a :: tl) = own) := Lib.hid HOWN.out
              clear HOWN HM
              generalize allOut isDoc (a :: tl) = q at *
              have hne : (⟨(a :: tl).toArray⟩ : ByteArray) ≠ ⟨#[]⟩ := by simp
              go_wp2_with fail
              refine C1.out.mono ?_
              rintro e w2 ⟨rfl, hb2⟩
              go_wp2
              go_ret
              exact ⟨by rw [HA2.out, HO2.out]; rfl, HBW.out.trans (hb2.mono HBW.out.size)⟩
          · by_cases h5 : k = 5
            · subst h5
              have C1 := Lib.hid (miscPutComment_c tx wr (HW.out _ HBW.out).put.maxl (by have := HTX.out; omega))
              have hF : mayComment tx = false → (((putCommentOut tx).2 : Int) != 7) = false := fun h => by unfold putCommentOut; rw [if_neg (by rw [h]; decide)]; rfl
              have hT : mayComment tx = true → (((putCommentOut tx).2 : Int) != 7) = true := fun h => by unfold putCommentOut; rw [if_pos h]; rfl
              have HF := Lib.hid hF
              have HT := Lib.hid hT
              clear hF hT
              have hO : (allOut isDoc tx && mayComment tx && !Lib.contains tx [13]) = own := HOWN.out
              generalize mayComment tx = d at *
              generalize putCommentOut tx = c at *
              obtain ⟨c1, c2⟩ := c
              go_wp2_with fail
              refine C1.out.mono ?_
              rintro e w2 ⟨rfl, hb2⟩
              have HB2 := Lib.hid (HBW.out.trans (hb2.mono HBW.out.size))
              have J3 := Lib.hid (J2.out.kept hb2)
              clear hb2 z4
              have z4 := cell_of 4 J3.out.2
              have C2 := Lib.hid (HM.out tx w2 HB2.out (by have := HTX.out; omega))

              have HO2 := Lib.hid hO
              clear hO HOWN HM
              generalize allOut isDoc tx = q at *
              go_wp2_with fail
              refine C2.out.mono ?_
              rintro e w3 ⟨rfl, hb3⟩
              have HB3 := Lib.hid (HB2.out.trans (hb3.mono HB2.out.size))
              have J4 := Lib.hid (J3.out.kept hb3)
              clear hb3 z4
              have z4 := cell_of 4 J4.out.2
              have C4 := Lib.hid (contains_c tx [13] w3 (HW.out _ HB3.out).put.maxl (by have := HTX.out; omega))
              generalize Lib.contains tx [13] = ct at *
              cases q with
              | false =>
                go_wp2
                go_ret
                exact ⟨by rw [HA2.out, ← HO2.out]; rfl, HB3.out⟩
              | true =>
                cases d with
                | false =>
                  have hdd : ((c2 : Int) != 7) = false := HF.out rfl
                  go_wp2
                  go_ret
                  exact ⟨by rw [HA2.out, ← HO2.out]; rfl, HB3.out⟩
                | true =>
                  have hdd : ((c2 : Int) != 7) = true := HT.out rfl
                  go_wp2_with fail
                  refine C4.out.mono ?_
                  rintro e w4 ⟨rfl, rfl⟩
                  go_wp2
                  go_ret
                  exact ⟨by rw [HA2.out, ← HO2.out]; rfl, HB3.out⟩
            · by_cases h4 : k = 4
              · subst h4
                have C1 := Lib.hid (putPi_c lo tx wr (HW.out _ HBW.out).put HLO.out HTX.out)
                have hF : (!decide ((putPiOut lo tx).2 = 7)) = false → (((putPiOut lo tx).2 : Int) != 7) = false := fun h => by simp at h; rw [h]; rfl
                have hT : (!decide ((putPiOut lo tx).2 = 7)) = true → (((putPiOut lo tx).2 : Int) != 7) = true := fun h => by simp at h; simp; omega
                have HF := Lib.hid hF
                have HT := Lib.hid hT
                clear hF hT
                have hO : (allOut isDoc tx && !decide ((putPiOut lo tx).2 = 7) && !Lib.contains tx [13]) = own := HOWN.out
                generalize (!decide ((putPiOut lo tx).2 = 7)) = d at *
                unfold out2V at C1
                generalize putPiOut lo tx = c at *
                obtain ⟨c1, c2⟩ := c
                go_wp2_with fail
                refine C1.out.mono ?_
                rintro e w2 ⟨rfl, hb2⟩
                have HB2 := Lib.hid (HBW.out.trans (hb2.mono HBW.out.size))
                have J3 := Lib.hid (J2.out.kept hb2)
                clear hb2 z4
                have z4 := cell_of 4 J3.out.2
                have C2 := Lib.hid (HM.out tx w2 HB2.out (by have := HTX.out; omega))

                have HO2 := Lib.hid hO
                clear hO HOWN HM
                generalize allOut isDoc tx = q at *
                go_wp2_with fail
                refine C2.out.mono ?_
                rintro e w3 ⟨rfl, hb3⟩
                have HB3 := Lib.hid (HB2.out.trans (hb3.mono HB2.out.size))
                have J4 := Lib.hid (J3.out.kept hb3)
                clear hb3 z4
                have z4 := cell_of 4 J4.out.2
                have C4 := Lib.hid (contains_c tx [13] w3 (HW.out _ HB3.out).put.maxl (by have := HTX.out; omega))
                generalize Lib.contains tx [13] = ct at *
                cases q with
                | false =>
                  go_wp2
                  go_ret
                  exact ⟨by rw [HA2.out, ← HO2.out]; rfl, HB3.out⟩
                | true =>
                  cases d with
                  | false =>
                    have hdd : ((c2 : Int) != 7) = false := HF.out rfl
                    go_wp2
                    go_ret
                    exact ⟨by rw [HA2.out, ← HO2.out]; rfl, HB3.out⟩
                  | true =>
                    have hdd : ((c2 : Int) != 7) = true := HT.out rfl
                    go_wp2_with fail
                    refine C4.out.mono ?_
                    rintro e w4 ⟨rfl, rfl⟩
                    go_wp2
                    go_ret
                    exact ⟨by rw [HA2.out, ← HO2.out]; rfl, HB3.out⟩
              · have e3 : (k == 3) = false := by simpa using h3
                have e4 : (k == 4) = false := by simpa using h4
                have e5 : (k == 5) = false := by simpa using h5
                have hO : (allOut isDoc tx && !Lib.contains tx [13]) = own := by
                  have := HOWN.out
                  rw [ownB, if_neg h3, if_neg h5, if_neg h4] at this
                  exact this
                clear h3 h4 h5
                have C2 := Lib.hid (HM.out tx wr HBW.out (by have := HTX.out; omega))

                have HO2 := Lib.hid hO
                clear hO HOWN HM
                generalize allOut isDoc tx = q at *
                go_wp2_with fail
                refine C2.out.mono ?_
                rintro e w3 ⟨rfl, hb3⟩
                have HB3 := Lib.hid (HBW.out.trans (hb3.mono HBW.out.size))
                have J4 := Lib.hid (J2.out.kept hb3)
                clear hb3 z4
                have z4 := cell_of 4 J4.out.2
                have C4 := Lib.hid (contains_c tx [13] w3 (HW.out _ HB3.out).put.maxl (by have := HTX.out; omega))
                generalize Lib.contains tx [13] = ct at *
                cases q with
                | false =>
                  go_wp2
                  go_ret
                  exact ⟨by rw [HA2.out, ← HO2.out]; rfl, HB3.out⟩
                | true =>
                  go_wp2_with fail
                  refine C4.out.mono ?_
                  rintro e w4 ⟨rfl, rfl⟩
                  go_wp2
                  go_ret
                  exact ⟨by rw [HA2.out, ← HO2.out]; rfl, HB3.out⟩
end Go.Proofs.YthihkbcdihochaaGreatDoor
/- check.rules, One. -/
namespace Go.Proofs.YthihkbcdihochaaGreatDoor
open Go.ChangeShapes Go.WideShapes Go.ChangeAt Go.RowKit
set_option linter.unusedVariables false
/-- The rules' table: a function value and its error, five times. -/
def rulesC : Array Value := #[.func (.func 207) #[] #[], .int .i64 2, .func (.func 208) #[] #[], .int .i64 7, .func (.func 209) #[] #[], .int .i64 7, .func (.func 210) #[] #[], .int .i64 11, .func (.func 211) #[] #[], .int .i64 9]
set_option maxRecDepth 100000 in
set_option maxHeartbeats 4000000 in
theorem rules_c (w : World) : Calls Tryz.prog 183 #[] w fun e w' => e = .returned (.slice (some ⟨w.heap.size, 0, none⟩) 5 5) ∧ CJ 271 w w' rulesC := by
  go_enter Tryz.func183, Tryz.ntmps183
  go_wp2
  go_ret
  exact ⟨rfl, CJ.start _ _ _⟩
/-- The error from a rule on. -/
def ruleFrom (b0 b1 b2 b3 b4 : Bool) : Nat → Nat
  | 0 => (if b0 = false then 2 else (if b1 = false then 7 else (if b2 = false then 7 else (if b3 = false then 11 else (if b4 = false then 9 else 0)))))
  | 1 => (if b1 = false then 7 else (if b2 = false then 7 else (if b3 = false then 11 else (if b4 = false then 9 else 0))))
  | 2 => (if b2 = false then 7 else (if b3 = false then 11 else (if b4 = false then 9 else 0)))
  | 3 => (if b3 = false then 11 else (if b4 = false then 9 else 0))
  | 4 => (if b4 = false then 9 else 0)
  | _ => 0
set_option maxRecDepth 100000 in
set_option maxHeartbeats 8000000 in
theorem ckOne_c (k : Int) (sp lo tx : List UInt8) (A : Option Addr) (n cap : Nat) (b0 b1 b2 b3 b4 : Bool) (w : World)
    (h0 : ∀ W, Below w.heap.size w W → Calls Tryz.prog 207 #[.agg #[.int .i64 k, .string ⟨sp.toArray⟩, .string ⟨lo.toArray⟩, .slice A n cap, .string ⟨tx.toArray⟩]] W fun e w' => e = .returned (.bool b0) ∧ Below W.heap.size W w')
    (h1 : ∀ W, Below w.heap.size w W → Calls Tryz.prog 208 #[.agg #[.int .i64 k, .string ⟨sp.toArray⟩, .string ⟨lo.toArray⟩, .slice A n cap, .string ⟨tx.toArray⟩]] W fun e w' => e = .returned (.bool b1) ∧ Below W.heap.size W w')
    (h2 : ∀ W, Below w.heap.size w W → Calls Tryz.prog 209 #[.agg #[.int .i64 k, .string ⟨sp.toArray⟩, .string ⟨lo.toArray⟩, .slice A n cap, .string ⟨tx.toArray⟩]] W fun e w' => e = .returned (.bool b2) ∧ Below W.heap.size W w')
    (h3 : ∀ W, Below w.heap.size w W → Calls Tryz.prog 210 #[.agg #[.int .i64 k, .string ⟨sp.toArray⟩, .string ⟨lo.toArray⟩, .slice A n cap, .string ⟨tx.toArray⟩]] W fun e w' => e = .returned (.bool b3) ∧ Below W.heap.size W w')
    (h4 : ∀ W, Below w.heap.size w W → Calls Tryz.prog 211 #[.agg #[.int .i64 k, .string ⟨sp.toArray⟩, .string ⟨lo.toArray⟩, .slice A n cap, .string ⟨tx.toArray⟩]] W fun e w' => e = .returned (.bool b4) ∧ Below W.heap.size W w') :
    Calls Tryz.prog 155 #[.agg #[.int .i64 k, .string ⟨sp.toArray⟩, .string ⟨lo.toArray⟩, .slice A n cap, .string ⟨tx.toArray⟩]] w fun e w' => e = .returned (.int .i64 (ruleFrom b0 b1 b2 b3 b4 0 : Nat)) ∧ Below w.heap.size w w' := by
  have J0 := Lib.hid (CJ.start 41 w #[.int .i64 k, .string ⟨sp.toArray⟩, .string ⟨lo.toArray⟩, .slice A n cap, .string ⟨tx.toArray⟩])
  have H0 := Lib.hid h0
  have H1 := Lib.hid h1
  have H2 := Lib.hid h2
  have H3 := Lib.hid h3
  have H4 := Lib.hid h4
  clear h0 h1 h2 h3 h4
  have C1 := Lib.hid (rules_c (w.alloc (.cells #[.int .i64 k, .string ⟨sp.toArray⟩, .string ⟨lo.toArray⟩, .slice A n cap, .string ⟨tx.toArray⟩] 41)))
  have HR0 : Hid (ruleFrom b0 b1 b2 b3 b4 0 = ruleFrom b0 b1 b2 b3 b4 0) := Lib.hid rfl
  generalize hR : ruleFrom b0 b1 b2 b3 b4 0 = R at HR0 ⊢
  have HR := Lib.hid hR.symm
  clear hR HR0
  go_enter Tryz.func155, Tryz.ntmps155
  go_wp2_with fail
  refine C1.out.mono ?_
  rintro e w1 ⟨rfl, hj⟩
  have K0 := Lib.hid hj
  clear hj C1
  go_wp2
  go_loopg [7] (5) (fun g i wr => ∃ t : Nat, i = .int .i64 (t : Int) ∧ t ≤ 5 ∧ Hid (g + t = 5) ∧ Hid (R = ruleFrom b0 b1 b2 b3 b4 t) ∧ Hid (Below w1.heap.size w1 wr))
  case atStart => exact ⟨0, rfl, Nat.zero_le _, Lib.hid rfl, HR, Lib.hid (Below.refl _ _)⟩
  case round =>
    obtain ⟨t, rfl, ht, hg, HA, HB⟩ := hrel
    have K1 := Lib.hid (K0.out.kept HB.out)
    have HBJ := Lib.hid (K0.out.1.trans (HB.out.mono K0.out.1.size))
    have J1 := Lib.hid (J0.out.kept HBJ.out)
    have z0 := cell_of 0 J1.out.2
    have z1 := cell_of 1 J1.out.2
    have z2 := cell_of 2 J1.out.2
    have z3 := cell_of 3 J1.out.2
    have z4 := cell_of 4 J1.out.2
    obtain rfl | rfl | rfl | rfl | rfl | rfl : t = 0 ∨ t = 1 ∨ t = 2 ∨ t = 3 ∨ t = 4 ∨ t = 5 := by omega
    · have y0 : wr.cell? ⟨w.heap.size + 1, 0, none⟩ = some (.func (.func 207) #[] #[]) := by
        have := cell_of 0 K1.out.2
        rw [World.size_alloc] at this
        exact this
      have y1 : wr.cell? ⟨w.heap.size + 1, 1, none⟩ = some (.int .i64 2) := by
        have := cell_of 1 K1.out.2
        rw [World.size_alloc] at this
        exact this
      have ka := (Below.refl wr.heap.size wr).alloc (Nat.le_refl _) (.cells #[.func (.func 207) #[] #[], .int .i64 2] 271)
      have HBa := Lib.hid (HB.out.trans (ka.mono HB.out.size))
      have HBw := Lib.hid (J0.out.1.trans ((K0.out.1.trans (HBa.out.mono K0.out.1.size)).mono J0.out.1.size))
      have C3 := Lib.hid (H0.out _ HBw.out)
      have J1a := Lib.hid (J1.out.kept ka)
      have v0 := cell_of 0 J1a.out.2
      have v1 := cell_of 1 J1a.out.2
      have v2 := cell_of 2 J1a.out.2
      have v3 := cell_of 3 J1a.out.2
      have v4 := cell_of 4 J1a.out.2
      clear ka z0 z1 z2 z3 z4
      go_wp2_with fail
      refine C3.out.mono ?_
      rintro e w2 ⟨rfl, hb2⟩
      have JR := (CJ.start 271 wr #[.func (.func 207) #[] #[], .int .i64 2]).kept hb2
      have r1 := cell_of 1 JR.2
      clear JR
      have HB2 := Lib.hid (HBa.out.trans (hb2.mono HBa.out.size))
      have HBe := Lib.hid (HBw.out.trans (hb2.mono HBw.out.size))
      clear hb2
      cases b0 with
      | false =>
        go_wp2
        go_ret
        exact ⟨by rw [HA.out]; rfl, HBe.out⟩
      | true =>
        go_wp2
        go_roundg (4 - 0)
        case measure => have := hg.out; omega
        case rel => exact ⟨1, by go_num, by omega, Lib.hid rfl, Lib.hid (by rw [HA.out]; simp [ruleFrom]), HB2⟩
    · have y0 : wr.cell? ⟨w.heap.size + 1, 2, none⟩ = some (.func (.func 208) #[] #[]) := by
        have := cell_of 2 K1.out.2
        rw [World.size_alloc] at this
        exact this
      have y1 : wr.cell? ⟨w.heap.size + 1, 3, none⟩ = some (.int .i64 7) := by
        have := cell_of 3 K1.out.2
        rw [World.size_alloc] at this
        exact this
      have ka := (Below.refl wr.heap.size wr).alloc (Nat.le_refl _) (.cells #[.func (.func 208) #[] #[], .int .i64 7] 271)
      have HBa := Lib.hid (HB.out.trans (ka.mono HB.out.size))
      have HBw := Lib.hid (J0.out.1.trans ((K0.out.1.trans (HBa.out.mono K0.out.1.size)).mono J0.out.1.size))
      have C3 := Lib.hid (H1.out _ HBw.out)
      have J1a := Lib.hid (J1.out.kept ka)
      have v0 := cell_of 0 J1a.out.2
      have v1 := cell_of 1 J1a.out.2
      have v2 := cell_of 2 J1a.out.2
      have v3 := cell_of 3 J1a.out.2
      have v4 := cell_of 4 J1a.out.2
      clear ka z0 z1 z2 z3 z4
      go_wp2_with fail
      refine C3.out.mono ?_
      rintro e w2 ⟨rfl, hb2⟩
      have JR := (CJ.start 271 wr #[.func (.func 208) #[] #[], .int .i64 7]).kept hb2
      have r1 := cell_of 1 JR.2
      clear JR
      have HB2 := Lib.hid (HBa.out.trans (hb2.mono HBa.out.size))
      have HBe := Lib.hid (HBw.out.trans (hb2.mono HBw.out.size))
      clear hb2
      cases b1 with
      | false =>
        go_wp2
        go_ret
        exact ⟨by rw [HA.out]; rfl, HBe.out⟩
      | true =>
        go_wp2
        go_roundg (4 - 1)
        case measure => have := hg.out; omega
        case rel => exact ⟨2, by go_num, by omega, Lib.hid rfl, Lib.hid (by rw [HA.out]; simp [ruleFrom]), HB2⟩
    · have y0 : wr.cell? ⟨w.heap.size + 1, 4, none⟩ = some (.func (.func 209) #[] #[]) := by
        have := cell_of 4 K1.out.2
        rw [World.size_alloc] at this
        exact this
      have y1 : wr.cell? ⟨w.heap.size + 1, 5, none⟩ = some (.int .i64 7) := by
        have := cell_of 5 K1.out.2
        rw [World.size_alloc] at this
        exact this
      have ka := (Below.refl wr.heap.size wr).alloc (Nat.le_refl _) (.cells #[.func (.func 209) #[] #[], .int .i64 7] 271)
      have HBa := Lib.hid (HB.out.trans (ka.mono HB.out.size))
      have HBw := Lib.hid (J0.out.1.trans ((K0.out.1.trans (HBa.out.mono K0.out.1.size)).mono J0.out.1.size))
      have C3 := Lib.hid (H2.out _ HBw.out)
      have J1a := Lib.hid (J1.out.kept ka)
      have v0 := cell_of 0 J1a.out.2
      have v1 := cell_of 1 J1a.out.2
      have v2 := cell_of 2 J1a.out.2
      have v3 := cell_of 3 J1a.out.2
      have v4 := cell_of 4 J1a.out.2
      clear ka z0 z1 z2 z3 z4
      go_wp2_with fail
      refine C3.out.mono ?_
      rintro e w2 ⟨rfl, hb2⟩
      have JR := (CJ.start 271 wr #[.func (.func 209) #[] #[], .int .i64 7]).kept hb2
      have r1 := cell_of 1 JR.2
      clear JR
      have HB2 := Lib.hid (HBa.out.trans (hb2.mono HBa.out.size))
      have HBe := Lib.hid (HBw.out.trans (hb2.mono HBw.out.size))
      clear hb2
      cases b2 with
      | false =>
        go_wp2
        go_ret
        exact ⟨by rw [HA.out]; rfl, HBe.out⟩
      | true =>
        go_wp2
        go_roundg (4 - 2)
        case measure => have := hg.out; omega
        case rel => exact ⟨3, by go_num, by omega, Lib.hid rfl, Lib.hid (by rw [HA.out]; simp [ruleFrom]), HB2⟩
    · have y0 : wr.cell? ⟨w.heap.size + 1, 6, none⟩ = some (.func (.func 210) #[] #[]) := by
        have := cell_of 6 K1.out.2
        rw [World.size_alloc] at this
        exact this
      have y1 : wr.cell? ⟨w.heap.size + 1, 7, none⟩ = some (.int .i64 11) := by
        have := cell_of 7 K1.out.2
        rw [World.size_alloc] at this
        exact this
      have ka := (Below.refl wr.heap.size wr).alloc (Nat.le_refl _) (.cells #[.func (.func 210) #[] #[], .int .i64 11] 271)
      have HBa := Lib.hid (HB.out.trans (ka.mono HB.out.size))
      have HBw := Lib.hid (J0.out.1.trans ((K0.out.1.trans (HBa.out.mono K0.out.1.size)).mono J0.out.1.size))
      have C3 := Lib.hid (H3.out _ HBw.out)
      have J1a := Lib.hid (J1.out.kept ka)
      have v0 := cell_of 0 J1a.out.2
      have v1 := cell_of 1 J1a.out.2
      have v2 := cell_of 2 J1a.out.2
      have v3 := cell_of 3 J1a.out.2
      have v4 := cell_of 4 J1a.out.2
      clear ka z0 z1 z2 z3 z4
      go_wp2_with fail
      refine C3.out.mono ?_
      rintro e w2 ⟨rfl, hb2⟩
      have JR := (CJ.start 271 wr #[.func (.func 210) #[] #[], .int .i64 11]).kept hb2
      have r1 := cell_of 1 JR.2
      clear JR
      have HB2 := Lib.hid (HBa.out.trans (hb2.mono HBa.out.size))
      have HBe := Lib.hid (HBw.out.trans (hb2.mono HBw.out.size))
      clear hb2
      cases b3 with
      | false =>
        go_wp2
        go_ret
        exact ⟨by rw [HA.out]; rfl, HBe.out⟩
      | true =>
        go_wp2
        go_roundg (4 - 3)
        case measure => have := hg.out; omega
        case rel => exact ⟨4, by go_num, by omega, Lib.hid rfl, Lib.hid (by rw [HA.out]; simp [ruleFrom]), HB2⟩
    · have y0 : wr.cell? ⟨w.heap.size + 1, 8, none⟩ = some (.func (.func 211) #[] #[]) := by
        have := cell_of 8 K1.out.2
        rw [World.size_alloc] at this
        exact this
      have y1 : wr.cell? ⟨w.heap.size + 1, 9, none⟩ = some (.int .i64 9) := by
        have := cell_of 9 K1.out.2
        rw [World.size_alloc] at this
        exact this
      have ka := (Below.refl wr.heap.size wr).alloc (Nat.le_refl _) (.cells #[.func (.func 211) #[] #[], .int .i64 9] 271)
      have HBa := Lib.hid (HB.out.trans (ka.mono HB.out.size))
      have HBw := Lib.hid (J0.out.1.trans ((K0.out.1.trans (HBa.out.mono K0.out.1.size)).mono J0.out.1.size))
      have C3 := Lib.hid (H4.out _ HBw.out)
      have J1a := Lib.hid (J1.out.kept ka)
      have v0 := cell_of 0 J1a.out.2
      have v1 := cell_of 1 J1a.out.2
      have v2 := cell_of 2 J1a.out.2
      have v3 := cell_of 3 J1a.out.2
      have v4 := cell_of 4 J1a.out.2
      clear ka z0 z1 z2 z3 z4
      go_wp2_with fail
      refine C3.out.mono ?_
      rintro e w2 ⟨rfl, hb2⟩
      have JR := (CJ.start 271 wr #[.func (.func 211) #[] #[], .int .i64 9]).kept hb2
      have r1 := cell_of 1 JR.2
      clear JR
      have HB2 := Lib.hid (HBa.out.trans (hb2.mono HBa.out.size))
      have HBe := Lib.hid (HBw.out.trans (hb2.mono HBw.out.size))
      clear hb2
      cases b4 with
      | false =>
        go_wp2
        go_ret
        exact ⟨by rw [HA.out]; rfl, HBe.out⟩
      | true =>
        go_wp2
        go_roundg (4 - 4)
        case measure => have := hg.out; omega
        case rel => exact ⟨5, by go_num, by omega, Lib.hid rfl, Lib.hid (by rw [HA.out]; simp [ruleFrom]), HB2⟩
    · go_wp2
      go_ret
      exact ⟨by rw [HA.out]; rfl, J0.out.1.trans (HBJ.out.mono J0.out.1.size)⟩
end Go.Proofs.YthihkbcdihochaaGreatDoor
