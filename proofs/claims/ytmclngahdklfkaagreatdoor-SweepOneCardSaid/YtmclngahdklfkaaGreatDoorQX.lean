/- What stands beside. -/
import Derived.Test.YtmclngahdklfkaaGreatDoorQ1
import Derived.Test.YtmclngahdklfkaaGreatDoorQ2
import Derived.Test.YtmclngahdklfkaaGreatDoorQ3
import Derived.Test.YtmclngahdklfkaaGreatDoorQ4
import Derived.Test.YtmclngahdklfkaaGreatDoorQ5
import Derived.Test.YtmclngahdklfkaaGreatDoorQ6
import Derived.Test.YtmclngahdklfkaaGreatDoorQ7
import Derived.Test.YtmclngahdklfkaaGreatDoorQ8
import Derived.Test.YtmclngahdklfkaaGreatDoorQ9
import Derived.Test.YtmclngahdklfkaaGreatDoorQ10
import Derived.Test.YtmclngahdklfkaaGreatDoorQ11
import Derived.Test.YtmclngahdklfkaaGreatDoorQ12
import Derived.Test.YtmclngahdklfkaaGreatDoorQ13
import Derived.Test.YtmclngahdklfkaaGreatDoorQ14
import Derived.Test.YtmclngahdklfkaaGreatDoorQ15
import Derived.Test.YtmclngahdklfkaaGreatDoorQ16
import Derived.Test.YtmclngahdklfkaaGreatDoorQ17
import Derived.Test.YtmclngahdklfkaaGreatDoorQ18
import Derived.Test.YtmclngahdklfkaaGreatDoorQ19
import Derived.Test.YtmclngahdklfkaaGreatDoorQ20
import Derived.Test.YtmclngahdklfkaaGreatDoorQ21
import Derived.Test.YtmclngahdklfkaaGreatDoorQ22
import Derived.Test.YtmclngahdklfkaaGreatDoorQ23
import Derived.Test.YtmclngahdklfkaaGreatDoorQ24
import Derived.Test.YtmclngahdklfkaaGreatDoorQ25
import Derived.Test.YtmclngahdklfkaaGreatDoorQ26
import Derived.Shelf.Strings.Builder1
import Derived.Shelf.Small.Utf8
import Derived.Shelf.Small.Strs
import Derived.Shelf.Strconv.Itoa0
import Derived.Shelf.Strconv.Itoa1
import Derived.Shelf.LaysM
import Derived.Shelf.Strconv.Itoa2
import Derived.Shelf.Strconv.Itoa3
import Derived.Shelf.Strings.Search1
import Derived.Shelf.Strings.Search2
import Derived.Shelf.Strings.Search3
import Derived.Shelf.Strings.Shaped
import Derived.Shelf.Strings.Prefix
import Derived.Shelf.Strings.Fold
import Derived.Shelf.Unicode.Decode
import Derived.Shelf.Strings.Runes
import Derived.Shelf.Strings.IndexAny
import Derived.Shelf.Strings.AsciiSet
import Derived.Shelf.Strings.IndexAnyAll
import Derived.Shelf.Unicode.DecodeSlow
import Derived.Shelf.Unicode.CaseLookup
import Derived.Shelf.Unicode.CaseConvert
import Derived.Shelf.Bytes.SlIndexSmall
import Derived.Shelf.Bytes.SlIndexAt
import Derived.Shelf.Bytes.SlSmallAll
import Derived.Shelf.Bytes.SlEqualAll
import Derived.Shelf.Bytes.Small
import Derived.Shelf.Bytes.IndexByte
import Derived.WalkKit
import Derived.ProofKit
import Derived.OpenShut
import Derived.ShutString
import Derived.ChangeOld
import Derived.Below
import Derived.BigQuiet
import Derived.Deep.QuietTactic
import Derived.Lib.Hide
import Derived.Deep.RegionHeld3
import Derived.Lib.SlBytesConst
import Derived.Laws.CopyOwn
import Derived.Laws.CopyRow
import Derived.Lib.Bytes
import Derived.Deep.LoopGhost
import Derived.Deep.DeepFit
import Derived.Deep.DeepMust
import Derived.WalkSpells
import Derived.WalkLawsBesides
import Derived.Lib.ItoaNum
import Derived.Lib.ConvBytes
import Derived.Shelf.Unicode.DecodeAny
import Derived.Shelf.Bytes.SlSearch0
import Derived.Shelf.Bytes.SlSearch1
import Derived.Shelf.Bytes.SlSearch2
import Derived.Shelf.Bytes.SlIndexWhole
import Derived.Laws.EntriesVeiled
import Derived.Laws.Rows
import Derived.Lib.Fold
import Derived.ScopeJumps
import Derived.Outline
import Derived.WalkMore
import Derived.Laws.RangeAny
import Derived.Lib.FieldsLaws
import Derived.Lib.Walk
import Derived.Lib.Strings
import Derived.Laws.Strings3
import Derived.Laws.BitsAllLaws
import Derived.Lib.Builder
import Derived.Lib.AppendStr
import Derived.Lib.UnsafeStr
import Derived.Laws.Externs
import Derived.Lib.AtoiErrMem
import Derived.Lib.IndexMore
import Derived.Lib.IndexLaws
import Derived.StillTailTactics
import Derived.Deep.RegionWith
import Derived.Maps.OwnOps
import Derived.Maps.Views
import Derived.Maps.OwnSet
import Derived.Maps.AppendAt
import Derived.Laws.RangeString
import Derived.Laws.Runes
import Derived.LoopN
import Derived.Lib.AsciiSet
import Derived.Deep.WholeRow
import Derived.Laws.ResultCell
import Derived.Lib.IndexAny
import Derived.Lib.IndexBytes
import Derived.Lib.Bytealg
import Derived.Lib.IndexEntry
import Derived.Lib.SmallJoins
import Derived.Deep.AppendLies
import Derived.Deep.RegionLaw
import Derived.Lib.LaidCaseMet
import Derived.Deep.DeepLaidRun
namespace Go.Proofs.YtmclngahdklfkaaGreatDoor
open Go.ChangeShapes Go.WideShapes Go.ChangeAt Go.RowKit
set_option linter.unusedVariables false
theorem Fr.ofBelow {R b : Nat} {w w' : World} (h : Below R w w') : Fr R b w w' := ⟨h.os, h.tape, h.output, h.size, fun k hk _ => h.block k hk⟩
theorem CJ.other {T : TypeId} {w W : World} {rs : Array Value} (h : CJ T w W rs) (b i : Nat) (hb : w.heap.size < b) (v : Value) : CJ T w (W.setCell ⟨b, i, none⟩ v) rs :=
  ⟨h.1.setCell (p := ⟨b, i, none⟩) (Nat.le_of_lt hb) v, by rw [hp_other (by omega)]; exact h.2⟩
/-- Do tags match? From the i-th token on, within the elements that are open. -/
def matchR : List (List UInt8) → List TokL → Nat → Nat × Bool
  | op, [], i => (i, op.isEmpty)
  | op, t :: ts, i =>
    if t.kind = 7 then matchR (op ++ [t.name]) ts (i + 1)
    else if t.kind = 9 then (if op.getLast? = some t.name then matchR op.dropLast ts (i + 1) else (i, false))
    else matchR op ts (i + 1)
def matchOut (l : List TokL) : Nat × Bool := matchR [] l 0
/-- 'out = append(out, u)' onto a row of the call's own, the element's cells lying in a block just made. -/
theorem wpList_appK {P : Program} {ops : Array Oper} {rest : List Oper} {o : Oper} {a : Act} {Q : Exit → Act → World → Prop} {w : World} (hgd : o.guard = none) (s x : Operand) (t e : TypeId)
    (ho : o.op = .call { callee := .builtin .append, args := #[s, x], argTypes := #[t, t] }) (z : Value) (k bytes : Nat) (ht : P.underlying t = some (.slice e))
    (hi : ∃ i, P.info? e = some i ∧ i.zero = some z ∧ i.size = k ∧ i.bytes = bytes) (hzs : z.cells.size = k) (hk : 0 < k)
    (base : Nat) (v : Value) (n : Nat) (xs : List Value) (hs : a.eval s = v) (hown : w.ownsRow base e k v n xs) (us : List Value) (us' : Array Value) (hus : us' = us.toArray) (hx : a.eval x = .slice (some ⟨w.heap.size, 0, none⟩) 1 1)
    (hl : us.length = k) (h1 : ∀ u ∈ us, u.oneCell' = true) (hn : n ≤ 1000000000) (hby : bytes ≤ 1000) (hbase : base ≤ w.heap.size)
    (h : ∀ v' w', w'.ownsRow base e k v' (n + 1) (xs ++ us) → (w.alloc (.cells us' e)).grownBy w' v.ownBlock → (v'.ownBlock = v.ownBlock ∨ v'.ownBlock = some (w.heap.size + 1)) → wpList P ops Q rest (a.put o.dst v') w') : wpList P ops Q (o :: rest) a (w.alloc (.cells us' e)) := by
  subst hus
  obtain ⟨i, hi, hz, hsz, hbt⟩ := hi
  refine wpList_append_own_at _ hgd s x t ho base e i z k bytes ht hi hz hsz hbt hzs hk v n xs hs (hown.alloc _) ⟨w.heap.size, 0, none⟩ 1 1 us hx (by omega) (cell_newN w us e) h1 (by unfold maxLen; omega) ?_ (by simp; omega) fun v' w' hown' hgrow _ hat => h v' w' hown' hgrow (by rw [World.size_alloc] at hat; exact hat)
  have : (n + 1) * bytes ≤ 1000000001 * 1000 := Nat.mul_le_mul (by omega) hby
  omega
theorem wpList_appH {P : Program} {ops : Array Oper} {rest : List Oper} {o : Oper} {a : Act} {Q : Exit → Act → World → Prop} {w : World} (hgd : o.guard = none) (s x : Operand) (t e : TypeId)
    (ho : o.op = .call { callee := .builtin .append, args := #[s, x], argTypes := #[t, t] }) (z : Value) (k bytes : Nat) (ht : P.underlying t = some (.slice e))
    (hi : ∃ i, P.info? e = some i ∧ i.zero = some z ∧ i.size = k ∧ i.bytes = bytes) (hzs : z.cells.size = k) (hk : 0 < k)
    (base : Nat) (v : Value) (n : Nat) (xs : List Value) (hs : a.eval s = v) (hown : w.ownsRow base e k v n xs) (us : List Value) (us' : Array Value) (hus : us' = us.toArray) (H : Nat) (hH : w.heap.size = H) (hx : a.eval x = .slice (some ⟨H, 0, none⟩) 1 1)
    (hl : us.length = k) (h1 : ∀ u ∈ us, u.oneCell' = true) (hn : n ≤ 1000000000) (hby : bytes ≤ 1000) (hbase : base ≤ w.heap.size)
    (h : ∀ v' w', w'.ownsRow base e k v' (n + 1) (xs ++ us) → (w.alloc (.cells us' e)).grownBy w' v.ownBlock → (v'.ownBlock = v.ownBlock ∨ v'.ownBlock = some (w.heap.size + 1)) → wpList P ops Q rest (a.put o.dst v') w') : wpList P ops Q (o :: rest) a (w.alloc (.cells us' e)) := by
  subst hH
  exact wpList_appK hgd s x t e ho z k bytes ht hi hzs hk base v n xs hs hown us us' hus hx hl h1 hn hby hbase h
theorem info_rtok : ∃ i, Tryz.prog.info? 30 = some i ∧ i.zero = some (.agg #[.int .i64 0, .int .i64 0, .int .i64 0, .string ⟨#[]⟩, .string ⟨#[]⟩, .slice none 0 0, .int .i64 0]) ∧ i.size = 7 ∧ i.bytes = 88 := by
  obtain ⟨i, h1, h2, h3, h4⟩ := info_parts (show (Tryz.prog.info? 30).map (fun i => (i.zero, i.size, i.bytes)) = some (some (.agg #[.int .i64 0, .int .i64 0, .int .i64 0, .string ⟨#[]⟩, .string ⟨#[]⟩, .slice none 0 0, .int .i64 0]), 7, 88) by kernel_rfl)
  exact ⟨i, h1, h2, h3, h4⟩
set_option maxRecDepth 100000 in
set_option maxHeartbeats 8000000 in
theorem refAll_c (A : Option Addr) (n cap : Nat) (l : List UInt8) (w : World) (h : Byt w w.heap.size A n cap l) (hm : n ≤ 40000) :
    Calls Tryz.prog 15 #[.slice A n cap] w fun e w' => AllPost (allOut l) w e w' := by
  have hln := h.length
  have CN : Hid (∀ t : Nat, t < n → ∀ W v vs, GrowT 30 w W w.heap.size v vs → Calls Tryz.prog 11 #[.slice A n cap, .int .i64 (t : Int)] W fun e w' => TokPost (nextOut l t) W e w') := Lib.hid fun t ht W v vs hG => by
    have := refNext_c A n cap l t W ((h.below hG.below).more hG.below.size) hm
    rwa [nextAt_in l t (by omega)] at this
  have HLn := Lib.hid hln
  have hi : (Tryz.prog.info? 30).map (·.size) = some 7 := by kernel_rfl
  obtain ⟨sd, hu⟩ := isStruct_of (P := Tryz.prog) (t := 30) (by kernel_rfl)
  have HU := Lib.hid (And.intro hi hu)
  have HM := Lib.hid hm
  clear h hln hi hu
  go_enter Tryz.func15, Tryz.ntmps15
  go_wp2_with fail
  go_loopg [5, 6] (n) (fun g v i wr => ∃ (t : Nat) (vs : List TokV) (f : Nat), i = .int .i64 (t : Int) ∧ t ≤ n ∧ Hid (g = f) ∧ Hid (n ≤ f + t) ∧ Hid (vs.length ≤ t) ∧ Hid (allOut l = allR l (f + 1) (vs.map TokV.t) t) ∧ Hid (GrowT 30 w wr w.heap.size v vs))
  case atStart => exact ⟨0, [], n, rfl, Nat.zero_le _, Lib.hid rfl, Lib.hid (by omega), Lib.hid (Nat.zero_le _), Lib.hid (by unfold allOut; rw [HLn.out]; rfl), Lib.hid (GrowT.start _ w)⟩
  case round =>
    obtain ⟨t, vs, f, rfl, ht, hgf, hg, hal, HE, HG⟩ := hrel
    have hm := HM.out
    have ht0 : (0 : Int) ≤ (t : Int) := by omega
    have ht9 : (t : Int) ≤ 40000 := by omega
    by_cases htn : t < n
    · have hti : (t : Int) < (n : Int) := by omega
      have htl : t < l.length := by rw [HLn.out]; exact htn
      have C1 := CN.out t htn _ _ _ HG.out
      have hok := nextOut_ok l t htl
      have hbad := fun e (h1 : (nextOut l t).2 = e) h2 => HE.out.trans (all_bad (f := f) (acc := vs.map TokV.t) htl h1 h2)
      have hmore := fun k u (h1 : nextOut l t = (k, 0)) (h2 : k.to_ = ((u : Nat) : Int)) => HE.out.trans (all_more (f := f) (acc := vs.map TokV.t) htl h1 h2)
      generalize nextOut l t = o at *
      obtain ⟨k, e⟩ := o
      simp only at hok hbad
      have C2 := Lib.hid C1
      clear C1
      by_cases he : e = 0
      · subst he
        obtain ⟨hfro, u, hu, htu, hun⟩ := hok rfl
        clear hfro
        rw [HLn.out] at hun
        have HA := Lib.hid (hmore k u rfl hu)
        have HUu := Lib.hid hu
        clear hok hbad hmore htl hu
        go_wp2_with fail
        refine C2.out.mono ?_
        intro e0 w2 hp
        obtain ⟨PA, pn, pc, rfl, hpr, hb, hlo⟩ := hp.out
        simp only at hpr
        have ka := (Below.refl _ w2).alloc (Nat.le_refl _) (.cells #[.int .i64 k.kind, .int .i64 k.fro, .int .i64 k.to_, .string ⟨k.name.toArray⟩, .string ⟨k.text.toArray⟩, .slice PA pn pc, .int .i64 k.r] 30)
        have G1 := Lib.hid (HG.out.kept hb)
        have G2 := Lib.hid (G1.out.kept ka)
        have HQ := Lib.hid (hp_new w2 (.cells #[.int .i64 k.kind, .int .i64 k.fro, .int .i64 k.to_, .string ⟨k.name.toArray⟩, .string ⟨k.text.toArray⟩, .slice PA pn pc, .int .i64 k.r] 30))
        have HX := Lib.hid (And.intro ((hpr.below ka).more ka.size) (fun (_ : 0 < pc) b i (hA : PA = some ⟨b, i, none⟩) => HG.out.fresh (hlo b i hA)))
        have z2 := cell_of 2 HQ.out
        have hvl : vs.length ≤ 1000000000 := by have := hal.out; omega
        have hba : w.heap.size ≤ (w2.alloc (.cells #[.int .i64 k.kind, .int .i64 k.fro, .int .i64 k.to_, .string ⟨k.name.toArray⟩, .string ⟨k.text.toArray⟩, .slice PA pn pc, .int .i64 k.r] 30)).heap.size := G2.out.base1
        clear hpr hb hlo ka hp
        go_wp2_with (first
          | (refine wpList_load_row rfl _ _ rfl w2.heap.size rfl _ _ _ _ HQ.out HU.out.2 rfl HU.out.1 ?_)
          | (at_builtin; refine wpList_appH rfl (.tmp 23) (.tmp 25) 39 30 rfl (.agg #[.int .i64 0, .int .i64 0, .int .i64 0, .string ⟨#[]⟩, .string ⟨#[]⟩, .slice none 0 0, .int .i64 0]) 7 88 Tryz.underlying39 info_rtok rfl (by decide) w.heap.size _ vs.length (cellsK vs) rfl G2.out.own (TokV.cells ⟨k, PA, pn, pc⟩) _ rfl (w2.heap.size + 1) (by simp) rfl rfl (by simp [TokV.cells, Value.oneCell']) hvl (by decide) hba ?_))
        intro v4 w4 hown4 hg4 hat4
        have w4s := hg4.size
        rw [World.size_alloc, World.size_alloc] at w4s
        have G4 := Lib.hid (G2.out.appended (x := ⟨k, PA, pn, pc⟩) HX.out.1 HX.out.2 hown4 hg4 (by rw [World.size_alloc]; exact hat4))
        have z4 : w4.cell? ⟨w2.heap.size, 2, none⟩ = some (.int .i64 k.to_) := cell_of 2 ((hg4.block w2.heap.size (by simp; omega) (G1.out.fresh (Nat.le_refl _))).trans ((Below.heap_alloc _ _ _ (by simp)).trans HQ.out))
        clear hown4 hg4 hat4 z2
        go_wp2
        go_roundg (f - 1)
        case measure => have := hg.out; have := hgf.out; omega
        case rel => exact ⟨u, vs ++ [⟨k, PA, pn, pc⟩], f - 1, by rw [HUu.out], by omega, Lib.hid rfl, Lib.hid (by have := hg.out; omega), Lib.hid (by have := hal.out; simp; omega), Lib.hid (by rw [HA.out, List.map_append, show f - 1 + 1 = f by have := hg.out; omega]; rfl), G4⟩
      · have HA := Lib.hid (hbad e rfl he)
        have hei : ((e : Int) == 0) = false := by simp; omega
        clear hok hbad hmore htl
        go_wp2_with fail
        refine C2.out.mono ?_
        intro e0 w2 hp
        obtain ⟨PA, pn, pc, rfl, hpr, hb, hlo⟩ := hp.out
        have B := Lib.hid ((HG.out.kept hb).below.alloc (HG.out.kept hb).below.size (.cells #[.int .i64 k.kind, .int .i64 k.fro, .int .i64 k.to_, .string ⟨k.name.toArray⟩, .string ⟨k.text.toArray⟩, .slice PA pn pc, .int .i64 k.r] 30))
        clear hpr hb hlo hp
        go_wp2
        go_ret3
        rw [HA.out]
        exact AllPost.bad rfl B.out
    · have hti : ¬ (t : Int) < (n : Int) := by omega
      have HA := Lib.hid (HE.out.trans (all_end (by rw [HLn.out]; exact htn)))
      obtain rfl : t = n := by omega
      go_wp2
      go_ret3
      rw [HA.out]
      exact AllPost.good HG.out rfl
end Go.Proofs.YtmclngahdklfkaaGreatDoor
