/- Tags: the document's side. -/
import Derived.Test.YtpblphddpcogcaaDoorRows
import Derived.WalkKit
import Derived.ProofKit
import Derived.OpenShut
import Derived.ShutString
import Derived.ChangeOld
import Derived.Below
import Derived.BigQuiet
import Derived.Deep.QuietTactic
import Derived.Lib.Hide
import Derived.Deep.RegionHeld3
import Derived.Lib.SlBytesConst
import Derived.Laws.CopyOwn
import Derived.Laws.CopyRow
import Derived.Lib.Bytes
import Derived.Deep.LoopGhost
import Derived.Deep.DeepFit
import Derived.Deep.DeepMust
import Derived.WalkSpells
import Derived.WalkLawsBesides
import Derived.Deep.SlicePairs
import Derived.Deep.DeepHandedRow
import Derived.ChangeArms
import Derived.Maps.OwnOps
import Derived.Maps.OwnSet
import Derived.Maps.Views
import Derived.Laws.EntriesVeiled
import Derived.Laws.Rows
import Derived.Test.YtpblphddpcogcaaDoorShelf
import Derived.Test.YtpblphddpcogcaaDoorBase
import Derived.Test.YtpblphddpcogcaaDoorCharPlain
import Derived.Test.YtpblphddpcogcaaDoorChars1
import Derived.Test.YtpblphddpcogcaaDoorName2
import Derived.Test.YtpblphddpcogcaaDoorNameA
import Derived.Test.YtpblphddpcogcaaDoorLitP
import Derived.Test.YtpblphddpcogcaaDoorLit4
import Derived.Test.YtpblphddpcogcaaDoorBlank
import Derived.Test.YtpblphddpcogcaaDoorPub
import Derived.Test.YtpblphddpcogcaaDoorMiscP
import Derived.Test.YtpblphddpcogcaaDoorNum
import Derived.Test.YtpblphddpcogcaaDoorTagM
import Derived.Test.YtpblphddpcogcaaDoorStr
import Derived.Test.YtpblphddpcogcaaDoorBits
import Derived.Test.YtpblphddpcogcaaDoorUtf1
import Derived.Test.YtpblphddpcogcaaDoorUtf2
import Derived.Test.YtpblphddpcogcaaDoorUtf3
import Derived.Test.YtpblphddpcogcaaDoorName1
import Derived.Test.YtpblphddpcogcaaDoorName3
import Derived.Test.YtpblphddpcogcaaDoorRef1
import Derived.Test.YtpblphddpcogcaaDoorRef7
import Derived.Test.YtpblphddpcogcaaDoorRef8
import Derived.Test.YtpblphddpcogcaaDoorCref1
import Derived.Test.YtpblphddpcogcaaDoorLit3
import Derived.Test.YtpblphddpcogcaaDoorLit5
import Derived.Test.YtpblphddpcogcaaDoorPlainP
import Derived.Test.YtpblphddpcogcaaDoorWhole
import Derived.Test.YtpblphddpcogcaaDoorBuild
import Derived.Test.YtpblphddpcogcaaDoorBuild2
namespace Go.Proofs.YtpblphddpcogcaaDoor
open Go.ChangeShapes Go.WideShapes Go.ChangeAt Go.RowKit
set_option linter.unusedVariables false
open Go.Deep in
/-- A reading of a row of attributes is a row that can be read. -/
theorem prd_of_trod {H : Type} {enc : TypeId × Value → H} {W : World} {n : Nat} {v : Value} {x : DataW H × List MemPlace} (h : DataW.trod enc Tryd.prog W 0 (fun _ => true) true n 24 [v] = some x) :
    ∃ A len cap ps, v = .slice A len cap ∧ PRd W W.heap.size A len cap ps ∧ ∀ p ∈ ps, p.1.length ≤ maxLen ∧ p.2.length ≤ maxLen := by
  rcases open_slice_pairs Tryd.underlying24 Tryd.underlying31 (by kernel_rfl) rfl rfl (by kernel_rfl) (by kernel_rfl) h with ⟨hc, _⟩ | ⟨a, len, cap, m, k, V0, V1, D0, D1, P0, P1, hc, hb, hl, hm, hmm, hx, hi⟩
  · simp at hc
    subst hc
    exact ⟨none, 0, 0, [], rfl, PRd.nilR W _, fun p hp => by cases hp⟩
  · simp at hc
    subst hc
    have hmc : m = cap := by simpa using hmm
    subst hmc
    have key : ∀ i, i < m → ∃ p : PairL, W.cell? (a.add (i * 2)) = some (.string ⟨p.1.toArray⟩) ∧ W.cell? (a.add (i * 2 + 1)) = some (.string ⟨p.2.toArray⟩) ∧ p.1.length ≤ maxLen ∧ p.2.length ≤ maxLen := by
      intro i hi'
      obtain ⟨c0, c1, t0, t1⟩ := hi i hi'
      obtain ⟨s0, e0, _, z0⟩ := DataW.trod_string Tryd.underlying9 t0
      obtain ⟨s1, e1, _, z1⟩ := DataW.trod_string Tryd.underlying9 t1
      simp at e0 e1
      refine ⟨(s0.data.toList, s1.data.toList), by rw [c0, e0], by rw [c1, e1], by rw [Array.length_toList]; exact z0, by rw [Array.length_toList]; exact z1⟩
    obtain ⟨f, hf⟩ := choose_lt key
    refine ⟨some a, len, m, (List.range len).map f, rfl, ⟨by simp, hl, hm, (fun e => by cases e), fun h0 => ?_⟩, ?_⟩
    · obtain ⟨b, o, s⟩ := a
      have h1 := (hf 0 h0).1
      have hs : s = none := by simpa [Addr.add] using World.cell?_spot h1
      subst hs
      refine ⟨b, o, rfl, by simpa [Addr.add] using World.block_lt_of_cell? W _ h1, fun i p hp => ?_⟩
      rw [List.getElem?_map] at hp
      have hil : i < len := by
        rcases Nat.lt_or_ge i len with h' | h'
        · exact h'
        · rw [List.getElem?_eq_none (by simp; omega)] at hp; cases hp
      rw [List.getElem?_range hil] at hp
      simp at hp
      subst hp
      have h2 := hf i (by omega)
      rw [addr_add, addr_add] at h2
      exact ⟨h2.1, h2.2.1⟩
    · intro p hp
      obtain ⟨i, hi', rfl⟩ := List.mem_map.1 hp
      have := hf i (by have := List.mem_range.1 hi'; omega)
      exact this.2.2
theorem size_pair (w : World) : (sizeOf (Tryd.prog.elem 24)).run Tryd.prog w = .ok 2 w := by kernel_rfl
theorem run_upToP {w : World} (A : Option Addr) (n cap t : Nat) (ht : t ≤ cap) : (Instr.slice 24 (.slice A n cap) none (some (.int .i64 (t : Int))) none).run Tryd.prog w = .ok (.slice A t cap) w := by
  rw [run_slice_h (P := Tryd.prog) (w := w) 24 A n cap (by kernel_rfl) .i64 (t : Int) (by omega) (by omega), size_pair]
  simp [sliced]
  intro _
  cases A with
  | none => rfl
  | some a => simp [Addr.add]
theorem info_str : ∃ i, Tryd.prog.info? 9 = some i ∧ i.zero = some (.string ⟨#[]⟩) ∧ i.size = 1 ∧ i.bytes = 16 := by
  obtain ⟨i, h1, h2, h3, h4⟩ := info_parts (show (Tryd.prog.info? 9).map (fun i => (i.zero, i.size, i.bytes)) = some (some (.string ⟨#[]⟩), 1, 16) by kernel_rfl)
  exact ⟨i, h1, h2, h3, h4⟩
def sv (s : List UInt8) : Value := .string ⟨s.toArray⟩
def nmL (s : List UInt8) (ps : List PairL) : List (List UInt8) := s :: ps.map (·.1)
theorem nmL_snoc (s : List UInt8) (ps : List PairL) (p : PairL) : (nmL s (ps ++ [p])).map sv = (nmL s ps).map sv ++ [sv p.1] := by simp [nmL]
theorem nmL_len (s : List UInt8) (ps : List PairL) : (nmL s ps).length = ps.length + 1 := by simp [nmL]
theorem own_one (w : World) (s : List UInt8) : (w.alloc (.cells #[.string ⟨s.toArray⟩] 9)).ownsRow w.heap.size 9 1 (.slice (some ⟨w.heap.size, 0, none⟩) 1 1) 1 ((nmL s []).map sv) :=
  ⟨rfl, Or.inr ⟨w.heap.size, 1, _, rfl, Nat.le_refl _, hp_new _ _, Nat.le_refl _, by unfold maxLen; omega, rfl, rfl⟩⟩
def d12 (b : Bool) : Nat := if b then 12 else 0
def d11 (b : Bool) (e : Nat) : Nat := if b then 11 else e
theorem checkT_eq (s : List UInt8) (ps : List PairL) : checkT s ps = if ((nmL s ps).all nameB && (ps.all fun p => valOk p.2)) = true then d11 ((nmL s ps).any fun x => decide (1024 < x.length)) (d12 (dupR [] ps)) else 7 := by
  have e1 : (nmL s ps).all nameB = (nameB s && ps.all fun p => nameB p.1) := by simp [nmL, List.all_map]; rfl
  have e2 : ((nmL s ps).any fun x => decide (1024 < x.length)) = (decide (1024 < s.length) || longP ps) := by simp [nmL, List.any_map, longP]; rfl
  have e3 : formP ps = ((ps.all fun p => nameB p.1) && (ps.all fun p => valOk p.2)) := by
    induction ps with
    | nil => rfl
    | cons p t ih =>
      have h1 : formP (p :: t) = (nameB p.1 && valOk p.2 && formP t) := by simp [formP]
      rw [h1, List.all_cons, List.all_cons]
      have h2 : formP t = ((t.all fun p => nameB p.1) && (t.all fun p => valOk p.2)) := by
        clear ih e1 e2 h1
        induction t with
        | nil => rfl
        | cons q u ih2 =>
          have h3 : formP (q :: u) = (nameB q.1 && valOk q.2 && formP u) := by simp [formP]
          rw [h3, ih2, List.all_cons, List.all_cons]
          cases nameB q.1 <;> cases valOk q.2 <;> simp
      rw [h2]
      cases nameB p.1 <;> cases valOk p.2 <;> simp
  unfold checkT d11 d12
  rw [e1, e2, e3, Bool.and_assoc]
def hasI (v : List UInt8) (c : UInt8) : Bool := decide (0 ≤ Lib.indexByte v c)
theorem all_ne (v : List UInt8) (c : UInt8) : (v.all fun x => decide (x ≠ c)) = !hasI v c := by
  unfold hasI
  rw [← Lib.contains_iff_indexByte]
  induction v with
  | nil => rfl
  | cons x t ih =>
    rw [List.all_cons, ih, List.contains_cons]
    have : decide (x ≠ c) = !(c == x) := by
      by_cases h : x = c
      · subst h; simp
      · have h2 : ¬ c = x := fun e => h e.symm
        simp [h, h2]
    rw [this, Bool.not_or]
theorem valOk_has (v : List UInt8) : valOk v = (decide ((refsOut v).2 = 0) && (!hasI v 60 && !hasI v 34)) := by
  unfold valOk
  rw [all_ne, all_ne, Bool.and_assoc]
/-- While the document looks at a tag. -/
def RkJ (w wr : World) (cs : Array Value) : Prop := Below w.heap.size w wr ∧ wr.heap[w.heap.size]? = some (.cells cs 36)
theorem RkJ.kept {w wr w' : World} {cs : Array Value} (h : RkJ w wr cs) (hb : Below wr.heap.size wr w') : RkJ w w' cs :=
  ⟨h.1.trans (hb.mono h.1.size), by rw [hb.block _ (lt_of h.2)]; exact h.2⟩
theorem RkJ.mono {w wr w' : World} {cs : Array Value} (h : RkJ w wr cs) (hb : Below (w.heap.size + 1) wr w') : RkJ w w' cs :=
  ⟨h.1.trans (hb.mono (Nat.le_succ _)), by rw [hb.block _ (Nat.lt_succ_self _)]; exact h.2⟩
theorem RkJ.start (w : World) (cs : Array Value) : RkJ w (w.alloc (.cells cs 36)) cs := ⟨(Below.refl _ w).alloc (Nat.le_refl _) _, hp_new _ _⟩
theorem RkJ.drewN {w wr : World} {cs : Array Value} (h : RkJ w wr cs) (q : Nat) : RkJ w (wr.drewN q) cs := ⟨below_drewN' h.1, h.2⟩
theorem take_snoc' {α : Type} {l : List α} {t : Nat} {p : α} (h : l[t]? = some p) : l.take (t + 1) = l.take t ++ [p] := by rw [List.take_add_one, h]; rfl
set_option maxRecDepth 100000 in
set_option maxHeartbeats 16000000 in
theorem refCheck10_c (s : List UInt8) (A : Option Addr) (n cap : Nat) (ps : List PairL) (em : Bool) (w : World) (h : PRd w w.heap.size A n cap ps) (hs : s.length ≤ 40000) (hn : n ≤ 40000) (hp : ∀ p ∈ ps, p.1.length ≤ 40000 ∧ p.2.length ≤ 40000) :
    Calls Tryd.prog 14 #[.agg #[.string ⟨s.toArray⟩, .slice A n cap, .bool em]] w fun e w' => e = .returned (.int .i64 (checkT s ps)) ∧ Below w.heap.size w w' := by
  have CN : Hid (∀ (q : List UInt8) W, q.length ≤ 40000 → Calls Tryd.prog 33 #[.string ⟨q.toArray⟩, .bool false] W fun e w' => e = .returned (.bool (nameB q)) ∧ Below W.heap.size W w') := Lib.hid fun q W h1 => by
    have := refIs_c5 false q W (by omega)
    rwa [okFalse, okFalse] at this
  have CR : Hid (∀ (q : List UInt8) W, q.length ≤ 40000 → Calls Tryd.prog 34 #[.string ⟨q.toArray⟩] W fun e w' => e = .returned (.tuple #[.int .i64 (refsOut q).1, .int .i64 (refsOut q).2]) ∧ Below W.heap.size W w') := Lib.hid fun q W h1 => refRefs_c q W h1
  have CH : Hid (∀ (q : List UInt8) (c : UInt8) W, q.length ≤ 40000 → Calls Tryd.prog 21 #[.string ⟨q.toArray⟩, .int .u8 (c.toNat : Int)] W fun e w' => e = .returned (.bool (hasI q c)) ∧ W = w') := Lib.hid fun q c W h1 => has_c q c W (by omega)
  have HP := Lib.hid h
  have HS := Lib.hid hs
  have HQ := Lib.hid hp
  have HLN : Hid (ps.length = n) := Lib.hid h.len
  have HCk := Lib.hid (checkT_eq s ps)
  obtain ⟨R, hR⟩ : ∃ k : Nat, checkT s ps = k := ⟨_, rfl⟩
  have HR : Hid ((if ((nmL s ps).all nameB && (ps.all fun p => valOk p.2)) = true then d11 ((nmL s ps).any fun x => decide (1024 < x.length)) (d12 (dupR [] ps)) else 7) = R) := Lib.hid (by rw [← HCk.out, hR])
  rw [hR]
  clear hR
  have J0 := Lib.hid (RkJ.start w #[.string ⟨s.toArray⟩, .slice A n cap, .bool em])
  have HSZ0 : Hid ((w.alloc (.cells #[.string ⟨s.toArray⟩, .slice A n cap, .bool em] 36)).heap.size = w.heap.size + 1) := Lib.hid (by simp)
  have z1 := cell_of 1 J0.out.2
  clear h hs hp HCk
  go_enter Tryd.func14, Tryd.ntmps14
  go_wp2
  go_loopg [3, 4] (n) (fun g e i wr => ∃ t : Nat, t ≤ n ∧ Hid (g + t = n) ∧ i = .int .i64 (t : Int) ∧ e = .int .i64 (d12 (dupR [] (ps.take t)) : Int) ∧ Hid (RkJ w wr #[.string ⟨s.toArray⟩, .slice A n cap, .bool em]) ∧ Hid (wr.heap.size = w.heap.size + 1))
  case atStart => exact ⟨0, Nat.zero_le _, Lib.hid (by omega), rfl, rfl, J0, HSZ0⟩
  case round =>
    obtain ⟨t, ht, hg, rfl, rfl, HJ, HSZ⟩ := hrel
    have z1 := cell_of 1 HJ.out.2
    have ht0 : (0 : Int) ≤ (t : Int) := by omega
    have htb : (t : Int) ≤ 40000 := by omega
    by_cases htn : t < n
    · have htni : (t : Int) < (n : Int) := by omega
      have hPR := HP.out.below HJ.out.1
      have CX : ∀ q, Calls Tryd.prog 32 #[.slice A t cap, .string ⟨((ps[t]?.getD ([], [])).1).toArray⟩] (wr.drewN q) fun e w' => e = .returned (.bool (hasN (ps.take t) (ps[t]?.getD ([], [])).1)) ∧ w' = wr.drewN q := fun q => (refHas10_c A t cap (ps.take t) ((ps[t]?.getD ([], [])).1) _ (wr.drewN q) (hPR.drewN.take (k := t) (by omega)) (by omega)).mono fun e w' ⟨he, hw⟩ => ⟨he, hw.symm⟩
      obtain ⟨b, o, p, rfl, hb, hp, hc0, hc1⟩ := hPR.cell htn
      have hle := hPR.le
      have hup := fun W : World => run_upToP (w := W) (some ⟨b, o, none⟩) n cap t (by omega)
      have htk := take_snoc' hp
      have HDS : Hid (dupR [] (ps.take (t + 1)) = (dupR [] (ps.take t) || hasN (ps.take t) p.1)) := Lib.hid (by rw [htk, dupR_snoc, List.nil_append])
      rw [hp] at CX
      simp only [Option.getD_some] at CX
      clear hb hp htk hPR hc1
      obtain ⟨pn, pv⟩ := p
      simp only at hc0 CX HDS
      have CXX := Lib.hid CX
      clear CX
      go_wp2
      go_quiet ((go_at_call 32; exact Calls.quiet_of_same (CXX.out _)))
      have HJ2 := Lib.hid (HJ.out.drewN nq)
      have HSZ2 : Hid ((wr.drewN nq).heap.size = w.heap.size + 1) := Lib.hid HSZ.out
      clear hc0 z1 hup
      generalize wr.drewN nq = wq at *
      cases hh : hasN (ps.take t) pn with
      | true =>
        have HE : Hid (d12 (dupR [] (ps.take (t + 1))) = 12) := Lib.hid (by rw [HDS.out, hh, Bool.or_true]; rfl)
        clear hh
        go_wp2
        go_roundg (n - (t + 1))
        case measure => have := hg.out; omega
        case rel => exact ⟨t + 1, by omega, Lib.hid (by omega), by go_num, by rw [HE.out]; rfl, HJ2, HSZ2⟩
      | false =>
        have HE : Hid (dupR [] (ps.take (t + 1)) = dupR [] (ps.take t)) := Lib.hid (by rw [HDS.out, hh, Bool.or_false])
        clear hh
        go_wp2
        go_roundg (n - (t + 1))
        case measure => have := hg.out; omega
        case rel => exact ⟨t + 1, by omega, Lib.hid (by omega), by go_num, by rw [HE.out], HJ2, HSZ2⟩
    · have htni : ¬ (t : Int) < (n : Int) := by omega
      have hall : ps.take t = ps := List.take_of_length_le (by rw [HLN.out]; omega)
      rw [hall]
      obtain ⟨e12, he12⟩ : ∃ k : Nat, d12 (dupR [] ps) = k := ⟨_, rfl⟩
      rw [he12]
      have HE12 := Lib.hid he12
      have z0 := cell_of 0 HJ.out.2
      have HJ1 := Lib.hid (HJ.out.kept ((Below.refl _ wr).alloc (Nat.le_refl _) (.cells #[.string ⟨s.toArray⟩] 9)))
      have HO1 := Lib.hid (ownsRow_base (own_one wr s) (show w.heap.size + 1 ≤ wr.heap.size by have := HSZ.out; omega))
      have HLT1 : Hid (w.heap.size + 1 ≤ (wr.alloc (.cells #[.string ⟨s.toArray⟩] 9)).heap.size) := Lib.hid (by have := HSZ.out; simp; omega)
      have y1 := cell_of 1 HJ1.out.2
      clear he12 hall
      go_wp2
      go_loopg [5, 6] (n) (fun g v i wr2 => ∃ t2 : Nat, t2 ≤ n ∧ Hid (g + t2 = n) ∧ i = .int .i64 (t2 : Int) ∧ Hid (wr2.ownsRow (w.heap.size + 1) 9 1 v (t2 + 1) ((nmL s (ps.take t2)).map sv)) ∧ Hid (RkJ w wr2 #[.string ⟨s.toArray⟩, .slice A n cap, .bool em]) ∧ Hid (w.heap.size + 1 ≤ wr2.heap.size))
      case atStart => exact ⟨0, Nat.zero_le _, Lib.hid (by omega), rfl, HO1, HJ1, HLT1⟩
      case round =>
        clear z0 z1 y1 HO1 HJ1 HLT1
        obtain ⟨t, ht, hg, rfl, HOW, HJ, HLT⟩ := hrel
        have z1 := cell_of 1 HJ.out.2
        have ht0 : (0 : Int) ≤ (t : Int) := by omega
        have htb : (t : Int) ≤ 40000 := by omega
        by_cases htn : t < n
        · have htni : (t : Int) < (n : Int) := by omega
          obtain ⟨b, o, p, rfl, hb, hp, hc0, hc1⟩ := (HP.out.below HJ.out.1).cell htn
          have htk := take_snoc' hp
          have HN : Hid ((nmL s (ps.take (t + 1))).map sv = (nmL s (ps.take t)).map sv ++ [sv p.1]) := Lib.hid (by rw [htk, nmL_snoc])
          clear hb hp htk hc1
          obtain ⟨pn, pv⟩ := p
          simp only at hc0 HN
          go_wp2_with (at_builtin; refine wpList_app1 rfl (.tmp 41) (.tmp 48) 64 9 rfl (.string ⟨#[]⟩) 16 Tryd.underlying64 info_str rfl (w.heap.size + 1) _ (t + 1) _ rfl HOW.out (.string ⟨pn.toArray⟩) rfl rfl ?c1 (by decide) HLT.out wr (w.heap.size + 1) (Below.refl _ _) (Nat.le_refl _) ?c2)
          case c1 => omega
          case c2 =>
            intro v' w' hown' hb' hsz'
            have HJ2 := Lib.hid (HJ.out.mono hb')
            have HO2 := Lib.hid hown'
            have HLT2 : Hid (w.heap.size + 1 ≤ w'.heap.size) := Lib.hid (Nat.le_trans HLT.out hsz')
            clear hown' hb' hsz' hc0 z1
            go_wp2
            go_roundg (n - (t + 1))
            case measure => have := hg.out; omega
            case rel => exact ⟨t + 1, by omega, Lib.hid (by omega), by go_num, Lib.hid (by rw [HN.out]; exact HO2.out), HJ2, HLT2⟩
        · have htni : ¬ (t : Int) < (n : Int) := by omega
          obtain rfl : t = n := by omega
          rw [List.take_of_length_le (by rw [HLN.out]; exact Nat.le_refl _)] at HOW
          obtain ⟨A5, c5, rfl, hrd⟩ := own_form HOW.out
          have HRD := Lib.hid hrd
          obtain ⟨nm, hnm⟩ : ∃ l, nmL s ps = l := ⟨_, rfl⟩
          have hnl : nm.length = t + 1 := by rw [← hnm, nmL_len, HLN.out]
          have HNB : Hid (∀ x ∈ nm, x.length ≤ 40000) := Lib.hid fun x hx => by
            rw [← hnm] at hx
            simp only [nmL, List.mem_cons, List.mem_map] at hx
            rcases hx with rfl | ⟨p, hp, rfl⟩
            · exact HS.out
            · exact (HQ.out p hp).1
          rw [hnm] at HRD
          have HNM := Lib.hid hnm
          have HNL := Lib.hid hnl
          have HJW := Lib.hid (And.intro HJ.out (Below.refl wr.heap.size wr))
          clear hrd hnm hnl HOW HLT
          go_wp2
          go_loopg [3, 7] (t + 1) (fun g e i wr2 => ∃ u : Nat, u ≤ t + 1 ∧ Hid (g + u = t + 1) ∧ i = .int .i64 (u : Int) ∧ e = .int .i64 (d11 ((nm.take u).any fun x => decide (1024 < x.length)) e12 : Int) ∧ wr = wr2)
          case atStart => exact ⟨0, Nat.zero_le _, Lib.hid (by omega), rfl, rfl, rfl⟩
          case round =>
            obtain ⟨u, hu, hgu, rfl, rfl, rfl⟩ := hrel
            have hu0 : (0 : Int) ≤ (u : Int) := by omega
            have hub : (u : Int) ≤ 40001 := by omega
            by_cases hun : u < t + 1
            · have huni : (u : Int) < (t : Int) + 1 := by omega
              have hx : nm[u]? = some (nm.getD u []) := by rw [List.getElem?_eq_getElem (by rw [HNL.out]; exact hun)]; simp [show u < nm.length by rw [HNL.out]; exact hun]
              obtain ⟨b, o, e, hbb, hcl⟩ := HRD.out.at_ (by have := HRD.out.le; omega)
              subst e
              have hcell := hcl u (sv (nm.getD u [])) (by rw [List.getElem?_map, hx]; rfl)
              have htk := take_snoc' hx
              have HAN : Hid (((nm.take (u + 1)).any fun x => decide (1024 < x.length)) = (((nm.take u).any fun x => decide (1024 < x.length)) || decide (1024 < (nm.getD u []).length))) := Lib.hid (by rw [htk, List.any_append]; simp)
              have hxl := HNB.out _ (List.mem_of_getElem? hx)
              unfold sv at hcell
              clear hcl hx htk hbb
              generalize nm.getD u [] = x at *
              have hxi : (x.length : Int) ≤ 40000 := by omega
              by_cases hlx : 1024 < x.length
              · have hlxi : (1024 : Int) < (x.length : Int) := by omega
                have HE : Hid (d11 ((nm.take (u + 1)).any fun x => decide (1024 < x.length)) e12 = 11) := Lib.hid (by rw [HAN.out, decide_eq_true hlx, Bool.or_true]; rfl)
                go_wp2
                go_roundg (t + 1 - (u + 1))
                case measure => have := hgu.out; omega
                case rel => exact ⟨u + 1, by omega, Lib.hid (by omega), by go_num, by rw [HE.out]; rfl, rfl⟩
              · have hlxi : ¬ (1024 : Int) < (x.length : Int) := by omega
                have HE : Hid (((nm.take (u + 1)).any fun x => decide (1024 < x.length)) = ((nm.take u).any fun x => decide (1024 < x.length))) := Lib.hid (by rw [HAN.out, decide_eq_false hlx, Bool.or_false])
                go_wp2
                go_roundg (t + 1 - (u + 1))
                case measure => have := hgu.out; omega
                case rel => exact ⟨u + 1, by omega, Lib.hid (by omega), by go_num, by rw [HE.out], rfl⟩
            · have huni : ¬ (u : Int) < (t : Int) + 1 := by omega
              rw [List.take_of_length_le (by rw [HNL.out]; omega)]
              obtain ⟨ee, hee⟩ : ∃ k : Nat, d11 (nm.any fun x => decide (1024 < x.length)) e12 = k := ⟨_, rfl⟩
              rw [hee]
              have HEE := Lib.hid hee
              clear hee
              rename World => wz
              go_wp2
              go_loopg [8] (t + 1) (fun g i wr2 => ∃ u : Nat, u ≤ t + 1 ∧ Hid (g + u = t + 1) ∧ i = .int .i64 (u : Int) ∧ Hid (RkJ w wr2 #[.string ⟨s.toArray⟩, .slice A t cap, .bool em] ∧ Below wz.heap.size wz wr2) ∧ Hid ((nm.take u).all nameB = true))
              case atStart => exact ⟨0, Nat.zero_le _, Lib.hid (by omega), rfl, HJW, Lib.hid rfl⟩
              case round =>
                obtain ⟨v, hv, hgv, rfl, HJ4, HAL⟩ := hrel
                have hv0 : (0 : Int) ≤ (v : Int) := by omega
                have hvb : (v : Int) ≤ 40001 := by omega
                by_cases hvn : v < t + 1
                · have hvni : (v : Int) < (t : Int) + 1 := by omega
                  have hx : nm[v]? = some (nm.getD v []) := by rw [List.getElem?_eq_getElem (by rw [HNL.out]; exact hvn)]; simp [show v < nm.length by rw [HNL.out]; exact hvn]
                  obtain ⟨b, o, e, hbb, hcl⟩ := (HRD.out.below HJ4.out.2).at_ (by have := HRD.out.le; omega)
                  subst e
                  have hcell := hcl v (sv (nm.getD v [])) (by rw [List.getElem?_map, hx]; rfl)
                  have htk := take_snoc' hx
                  have HAN : Hid ((nm.take (v + 1)).all nameB = ((nm.take v).all nameB && nameB (nm.getD v []))) := Lib.hid (by rw [htk, List.all_append]; simp)
                  have hxl := HNB.out _ (List.mem_of_getElem? hx)
                  have HMEM := Lib.hid (List.mem_of_getElem? hx)
                  unfold sv at hcell
                  clear hcl hx htk hbb
                  generalize nm.getD v [] = x at *
                  have CN1 := Lib.hid (CN.out x wr hxl)
                  go_wp2_with fail
                  refine CN1.out.mono ?_
                  rintro e w8 ⟨rfl, hb8⟩
                  have HJ5 : Hid (RkJ w w8 #[.string ⟨s.toArray⟩, .slice A t cap, .bool em] ∧ Below wz.heap.size wz w8) := Lib.hid ⟨HJ4.out.1.kept hb8, HJ4.out.2.trans (hb8.mono HJ4.out.2.size)⟩
                  clear hb8 hcell
                  cases hnb : nameB x with
                  | true =>
                    have HE : Hid ((nm.take (v + 1)).all nameB = true) := Lib.hid (by rw [HAN.out, HAL.out, hnb]; rfl)
                    clear hnb
                    go_wp2
                    go_roundg (t + 1 - (v + 1))
                    case measure => have := hgv.out; omega
                    case rel => exact ⟨v + 1, by omega, Lib.hid (by omega), by go_num, HJ5, HE⟩
                  | false =>
                    have hF : (nm.all nameB && (ps.all fun p => valOk p.2)) = false := by
                      rw [List.all_eq_false.2 ⟨x, HMEM.out, by rw [hnb]; simp⟩]; rfl
                    rw [← HNM.out] at hF
                    have HF := Lib.hid hF
                    clear hF hnb
                    go_wp2
                    go_ret
                    have hR7 : R = 7 := by rw [← HR.out, HF.out]; rfl
                    exact ⟨by subst hR7; rfl, HJ5.out.1.1⟩
                · have hvni : ¬ (v : Int) < (t : Int) + 1 := by omega
                  have HALL : Hid (nm.all nameB = true) := Lib.hid (by have := HAL.out; rwa [List.take_of_length_le (by rw [HNL.out]; omega)] at this)
                  have HJ6 := Lib.hid HJ4.out.1
                  have z1 := cell_of 1 HJ6.out.2
                  rename World => wy
                  go_wp2
                  go_loopg [9] (t) (fun g i wr2 => ∃ u : Nat, u ≤ t ∧ Hid (g + u = t) ∧ i = .int .i64 (u : Int) ∧ Hid (RkJ w wr2 #[.string ⟨s.toArray⟩, .slice A t cap, .bool em]) ∧ Hid (((ps.take u).all fun p => valOk p.2) = true))
                  case atStart => exact ⟨0, Nat.zero_le _, Lib.hid (by omega), rfl, HJ6, Lib.hid rfl⟩
                  case round =>
                    clear z1 HJ4 HJ6
                    obtain ⟨r, hr, hgr, rfl, HJ7, HAV⟩ := hrel
                    have z1 := cell_of 1 HJ7.out.2
                    have hr0 : (0 : Int) ≤ (r : Int) := by omega
                    have hrb : (r : Int) ≤ 40000 := by omega
                    by_cases hrn : r < t
                    · have hrni : (r : Int) < (t : Int) := by omega
                      obtain ⟨b, o, p, rfl, hb, hp, hc0, hc1⟩ := (HP.out.below HJ7.out.1).cell hrn
                      have htk := take_snoc' hp
                      have HAN : Hid (((ps.take (r + 1)).all fun p => valOk p.2) = (((ps.take r).all fun p => valOk p.2) && valOk p.2)) := Lib.hid (by rw [htk, List.all_append]; simp)
                      have HMEM := Lib.hid (List.mem_of_getElem? hp)
                      have hpl := (HQ.out p HMEM.out).2
                      have HVK := Lib.hid (valOk_has p.2)
                      have CR1 := Lib.hid fun W => CR.out p.2 W hpl
                      have CH1 := Lib.hid fun W => CH.out p.2 60 W hpl
                      have CH2 := Lib.hid fun W => CH.out p.2 34 W hpl
                      have HF : Hid (valOk p.2 = false → ((nmL s ps).all nameB && (ps.all fun p => valOk p.2)) = false) := Lib.hid fun h0 => by
                        rw [show (ps.all fun p => valOk p.2) = false from List.all_eq_false.2 ⟨p, HMEM.out, by rw [h0]; simp⟩, Bool.and_false]
                      clear hb hp htk hc0 HMEM hpl
                      obtain ⟨pn, pv⟩ := p
                      simp only at hc1 HAN HVK CR1 CH1 CH2 HF
                      generalize refsOut pv = ro at *
                      obtain ⟨ri, re⟩ := ro
                      go_wp2_with fail
                      refine (CR1.out _).mono ?_
                      rintro e w8 ⟨rfl, hb8⟩
                      have HJ8 := Lib.hid (HJ7.out.kept hb8)
                      clear hb8 hc1 z1
                      by_cases hre : re = 0
                      · subst hre
                        cases h60 : hasI pv 60 with
                        | true =>
                          have HE := Lib.hid (HF.out (by rw [HVK.out, h60]; simp))
                          rw [h60] at CH1
                          clear h60
                          go_wp2_with fail
                          refine (CH1.out _).mono ?_
                          rintro e w9 ⟨rfl, rfl⟩
                          go_wp2
                          go_ret
                          have hR7 : R = 7 := by rw [← HR.out, HE.out]; rfl
                          exact ⟨by subst hR7; rfl, HJ8.out.1⟩
                        | false =>
                          rw [h60] at CH1
                          cases h34 : hasI pv 34 with
                          | true =>
                            have HE := Lib.hid (HF.out (by rw [HVK.out, h34]; simp))
                            rw [h34] at CH2
                            clear h60 h34
                            go_wp2_with fail
                            refine (CH1.out _).mono ?_
                            rintro e w9 ⟨rfl, rfl⟩
                            go_wp2_with fail
                            refine (CH2.out _).mono ?_
                            rintro e w9 ⟨rfl, rfl⟩
                            go_wp2
                            go_ret
                            have hR7 : R = 7 := by rw [← HR.out, HE.out]; rfl
                            exact ⟨by subst hR7; rfl, HJ8.out.1⟩
                          | false =>
                            have HE : Hid (((ps.take (r + 1)).all fun p => valOk p.2) = true) := Lib.hid (by rw [HAN.out, HAV.out, HVK.out, h60, h34]; rfl)
                            rw [h34] at CH2
                            clear h60 h34
                            go_wp2_with fail
                            refine (CH1.out _).mono ?_
                            rintro e w9 ⟨rfl, rfl⟩
                            go_wp2_with fail
                            refine (CH2.out _).mono ?_
                            rintro e w9 ⟨rfl, rfl⟩
                            go_wp2
                            go_roundg (t - (r + 1))
                            case measure => have := hgr.out; omega
                            case rel => exact ⟨r + 1, by omega, Lib.hid (by omega), by go_num, HJ8, HE⟩
                      · have hrei : ((re : Int) != 0) = true := by simp; omega
                        have hrej : ¬ (re : Int) = 0 := by omega
                        have HE := Lib.hid (HF.out (by rw [HVK.out]; simp [hre]))
                        clear hre
                        go_wp2
                        go_ret
                        have hR7 : R = 7 := by rw [← HR.out, HE.out]; rfl
                        exact ⟨by subst hR7; rfl, HJ8.out.1⟩
                    · have hrni : ¬ (r : Int) < (t : Int) := by omega
                      have HE : Hid (((nmL s ps).all nameB && (ps.all fun p => valOk p.2)) = true) := Lib.hid (by
                        have := HAV.out
                        rw [List.take_of_length_le (by rw [HLN.out]; omega)] at this
                        rw [HNM.out, HALL.out, this]; rfl)
                      have HE2 : Hid (d11 ((nmL s ps).any fun x => decide (1024 < x.length)) (d12 (dupR [] ps)) = ee) := Lib.hid (by rw [HNM.out, HE12.out, HEE.out])
                      go_wp2
                      go_ret
                      have hR7 : R = ee := by rw [← HR.out, HE.out, if_pos rfl, HE2.out]
                      exact ⟨by subst hR7; rfl, HJ7.out.1⟩
set_option maxRecDepth 100000 in
set_option maxHeartbeats 8000000 in
theorem refPut10_c (s : List UInt8) (A : Option Addr) (n cap : Nat) (ps : List PairL) (em : Bool) (w : World) (h : PRd w w.heap.size A n cap ps) (hs : s.length ≤ 40000) (hn : n ≤ 40000) (hp : ∀ p ∈ ps, p.1.length ≤ 40000 ∧ p.2.length ≤ 40000) :
    Calls Tryd.prog 15 #[.agg #[.string ⟨s.toArray⟩, .slice A n cap, .bool em]] w fun e w' => e = .returned (.string ⟨(tagT ⟨s, ps, em⟩).toArray⟩) ∧ Below w.heap.size w w' := by
  have HP := Lib.hid h
  have HQ := Lib.hid hp
  have HLN : Hid (ps.length = n) := Lib.hid h.len
  obtain ⟨T, hT⟩ : ∃ T, tagT ⟨s, ps, em⟩ = T := ⟨_, rfl⟩
  have HT : Hid ((([60] ++ s) ++ pairsT ps ++ endT em) = T) := Lib.hid (by rw [← hT]; cases em <;> simp [tagT, endT])
  rw [hT]
  have J0 := Lib.hid (RkJ.start w #[.string ⟨s.toArray⟩, .slice A n cap, .bool em])
  have z0 := cell_of 0 J0.out.2
  have sp0 : ∀ w : World, (Op.stringOp .add ⟨#[60]⟩ ⟨s.toArray⟩).run Tryd.prog w = .ok (.string ⟨([60] ++ s).toArray⟩) w := fun w => run_sop (w := w) [60] s (by simp; omega)
  have HSL : Hid (([60] ++ s).length ≤ 40001) := Lib.hid (by simp; omega)
  clear h hp hT
  generalize [60] ++ s = s1 at *
  go_enter Tryd.func15, Tryd.ntmps15
  go_wp2
  clear z0
  go_loopg [3, 4] (n) (fun g v i wr => ∃ t : Nat, t ≤ n ∧ Hid (g + t = n) ∧ i = .int .i64 (t : Int) ∧ v = .string ⟨(s1 ++ pairsT (ps.take t)).toArray⟩ ∧ Hid (RkJ w wr #[.string ⟨s.toArray⟩, .slice A n cap, .bool em]))
  case atStart => exact ⟨0, Nat.zero_le _, Lib.hid (by omega), rfl, by simp [pairsT], J0⟩
  case round =>
    obtain ⟨t, ht, hg, rfl, rfl, HJ⟩ := hrel
    have z1 := cell_of 1 HJ.out.2
    have ht0 : (0 : Int) ≤ (t : Int) := by omega
    have htb : (t : Int) ≤ 40000 := by omega
    by_cases htn : t < n
    · have htni : (t : Int) < (n : Int) := by omega
      obtain ⟨b, o, p, rfl, hb, hp, hc0, hc1⟩ := (HP.out.below HJ.out.1).cell htn
      have htk := take_snoc' hp
      obtain ⟨hq1, hq2⟩ := HQ.out p (List.mem_of_getElem? hp)
      have hbt := pairsT_bound (ps.take t) fun q hq => HQ.out q (List.mem_of_mem_take hq)
      have hal : (s1 ++ pairsT (ps.take t)).length ≤ 4000000000 := by
        have := HSL.out
        have hl : (ps.take t).length ≤ 40000 := by rw [List.length_take]; omega
        have hm : (ps.take t).length * 80004 ≤ 40000 * 80004 := Nat.mul_le_mul_right _ hl
        rw [List.length_append]
        omega
      have HNX : Hid (s1 ++ pairsT (ps.take (t + 1)) = (s1 ++ pairsT (ps.take t)) ++ [32] ++ p.1 ++ [61, 34] ++ p.2 ++ [34]) := Lib.hid (by rw [htk, pairsT_snoc]; simp [pairT])
      clear hp htk hb hbt
      obtain ⟨pn, pv⟩ := p
      simp only at hc0 hc1 HNX hq1 hq2
      generalize s1 ++ pairsT (ps.take t) = acc at *
      have s1' : ∀ w : World, (Op.stringOp .add ⟨acc.toArray⟩ ⟨#[32]⟩).run Tryd.prog w = .ok (.string ⟨(acc ++ [32]).toArray⟩) w := fun w => run_sop (w := w) acc [32] (by simp; omega)
      have s2' : ∀ w : World, (Op.stringOp .add ⟨(acc ++ [32]).toArray⟩ ⟨pn.toArray⟩).run Tryd.prog w = .ok (.string ⟨(acc ++ [32] ++ pn).toArray⟩) w := fun w => run_sop (w := w) (acc ++ [32]) pn (by simp; omega)
      have s3' : ∀ w : World, (Op.stringOp .add ⟨(acc ++ [32] ++ pn).toArray⟩ ⟨#[61, 34]⟩).run Tryd.prog w = .ok (.string ⟨(acc ++ [32] ++ pn ++ [61, 34]).toArray⟩) w := fun w => run_sop (w := w) (acc ++ [32] ++ pn) [61, 34] (by simp; omega)
      have s4' : ∀ w : World, (Op.stringOp .add ⟨(acc ++ [32] ++ pn ++ [61, 34]).toArray⟩ ⟨pv.toArray⟩).run Tryd.prog w = .ok (.string ⟨(acc ++ [32] ++ pn ++ [61, 34] ++ pv).toArray⟩) w := fun w => run_sop (w := w) (acc ++ [32] ++ pn ++ [61, 34]) pv (by simp; omega)
      have s5' : ∀ w : World, (Op.stringOp .add ⟨(acc ++ [32] ++ pn ++ [61, 34] ++ pv).toArray⟩ ⟨#[34]⟩).run Tryd.prog w = .ok (.string ⟨(acc ++ [32] ++ pn ++ [61, 34] ++ pv ++ [34]).toArray⟩) w := fun w => run_sop (w := w) (acc ++ [32] ++ pn ++ [61, 34] ++ pv) [34] (by simp; omega)
      clear hal hq1 hq2
      generalize acc ++ [32] ++ pn ++ [61, 34] ++ pv ++ [34] = t5 at *
      generalize acc ++ [32] ++ pn ++ [61, 34] ++ pv = t4 at *
      generalize acc ++ [32] ++ pn ++ [61, 34] = t3 at *
      generalize acc ++ [32] ++ pn = t2 at *
      generalize acc ++ [32] = t1 at *
      go_wp2
      go_quiet (fail)
      have HJ2 := Lib.hid (HJ.out.drewN nq)
      clear hc0 hc1 z1 s1' s2' s3' s4' s5'
      generalize wr.drewN nq = wq at *
      go_wp2
      go_roundg (n - (t + 1))
      case measure => have := hg.out; omega
      case rel => exact ⟨t + 1, by omega, Lib.hid (by omega), by go_num, by rw [HNX.out], HJ2⟩
    · have htni : ¬ (t : Int) < (n : Int) := by omega
      have hbp := pairsT_bound ps HQ.out
      have hal : (s1 ++ pairsT ps).length ≤ 4000000000 := by
        have := HSL.out
        have hm : ps.length * 80004 ≤ 40000 * 80004 := Nat.mul_le_mul_right _ (by rw [HLN.out]; exact hn)
        rw [List.length_append]
        omega
      rw [List.take_of_length_le (by rw [HLN.out]; omega)]
      have z2 := cell_of 2 HJ.out.2
      clear hbp
      obtain ⟨acc, hacc⟩ : ∃ a, s1 ++ pairsT ps = a := ⟨_, rfl⟩
      rw [hacc] at HT hal ⊢
      clear hacc
      cases em with
      | true =>
        have sp : ∀ w : World, (Op.stringOp .add ⟨acc.toArray⟩ ⟨#[47, 62]⟩).run Tryd.prog w = .ok (.string ⟨(acc ++ [47, 62]).toArray⟩) w := fun w => run_sop (w := w) acc [47, 62] (by simp; omega)
        have HT2 : Hid (acc ++ [47, 62] = T) := HT
        rw [HT2.out] at sp
        clear hal
        go_wp2
        go_ret
        exact ⟨rfl, HJ.out.1⟩
      | false =>
        have sp : ∀ w : World, (Op.stringOp .add ⟨acc.toArray⟩ ⟨#[62]⟩).run Tryd.prog w = .ok (.string ⟨(acc ++ [62]).toArray⟩) w := fun w => run_sop (w := w) acc [62] (by simp; omega)
        have HT2 : Hid (acc ++ [62] = T) := HT
        rw [HT2.out] at sp
        clear hal
        go_wp2
        go_ret
        exact ⟨rfl, HJ.out.1⟩
def closeT (s : List UInt8) : List UInt8 := 60 :: 47 :: (s ++ [62])
theorem close_back (s : List UInt8) (h : nameOk s = true) : closeOut (closeT s) 0 = (s, (closeT s).length, 0) := by
  have hn : nameOut (closeT s) 2 = (s, 2 + s.length, 0) := name_mid [60, 47] s [] 62 h (by decide) (by decide +kernel)
  have hd : (closeT s).drop (2 + s.length) = [62] := by
    have hl : 2 + s.length = (60 :: 47 :: s).length := by simp; omega
    rw [hl, show closeT s = (60 :: 47 :: s) ++ [62] by simp [closeT], List.drop_left]
  have hb : blankTo (closeT s) (2 + s.length) = 2 + s.length := by
    unfold blankTo
    rw [hd]
    rfl
  unfold closeOut
  rw [if_pos (by rfl), show 0 + 2 = 2 by rfl, hn]
  simp only
  rw [if_neg (by simp), hb, hd, if_pos (by rfl)]
  simp [closeT]
  omega
theorem check_none {s : List UInt8} {ps : List PairL} (h : checkT s ps = 0) : checkT s [] = 0 := checkT_of (checkT_ok h).1 rfl
def greatP (p : PairL) : Bool := decide (300 < p.2.length) || decide (1200 < p.1.length)
def greatT (s : List UInt8) (ps : List PairL) : Bool := ((ps.take 40).any greatP) || (decide (1200 < s.length) || decide (20 < ps.length))
theorem great_no {s : List UInt8} {ps : List PairL} (h : greatT s ps = false) : s.length ≤ 1200 ∧ ps.length ≤ 20 ∧ ∀ p ∈ ps, p.1.length ≤ 1200 ∧ p.2.length ≤ 300 := by
  unfold greatT at h
  simp only [Bool.or_eq_false_iff, decide_eq_false_iff_not] at h
  have hl : ps.length ≤ 20 := by omega
  rw [List.take_of_length_le (by omega)] at h
  refine ⟨by omega, hl, fun p hp => ?_⟩
  have := List.any_eq_false.1 h.1 p hp
  simp only [greatP, Bool.or_eq_true, decide_eq_true_eq, not_or] at this
  omega
set_option maxRecDepth 100000 in
set_option maxHeartbeats 8000000 in
theorem great10_c (s : List UInt8) (A : Option Addr) (n cap : Nat) (ps : List PairL) (em : Bool) (w : World) (h : PRd w w.heap.size A n cap ps) :
    Calls Tryd.prog 12 #[.agg #[.string ⟨s.toArray⟩, .slice A n cap, .bool em]] w fun e w' => e = .returned (.bool (greatT s ps)) ∧ Below w.heap.size w w' := by
  have J0 := Lib.hid (RkJ.start w #[.string ⟨s.toArray⟩, .slice A n cap, .bool em])
  have HP := Lib.hid (h.below J0.out.1)
  have HLN : Hid (ps.length = n) := Lib.hid h.len
  have z0 := cell_of 0 J0.out.2
  have z1 := cell_of 1 J0.out.2
  have HG : Hid (greatT s ps = (((ps.take 40).any greatP) || (decide (1200 < s.length) || decide (20 < ps.length)))) := Lib.hid rfl
  obtain ⟨G, hG⟩ : ∃ b, greatT s ps = b := ⟨_, rfl⟩
  rw [hG] at HG ⊢
  clear h hG
  go_enter Tryd.func12, Tryd.ntmps12
  go_wp2
  generalize w.alloc (.cells #[.string ⟨s.toArray⟩, .slice A n cap, .bool em] 36) = wa at *
  go_loopg [3] (n) (fun g i wr => ∃ t : Nat, t ≤ n ∧ t ≤ 40 ∧ Hid (g + t = n) ∧ i = .int .i64 (t : Int) ∧ wa = wr ∧ Hid ((ps.take t).any greatP = false))
  case atStart => exact ⟨0, Nat.zero_le _, Nat.zero_le _, Lib.hid (by omega), rfl, rfl, Lib.hid rfl⟩
  case round =>
    obtain ⟨t, ht, ht4, hg, rfl, rfl, HN⟩ := hrel
    have ht0 : (0 : Int) ≤ (t : Int) := by omega
    have htb : (t : Int) ≤ 40 := by omega
    by_cases htn : t < n ∧ t < 40
    · have htni : (t : Int) < (n : Int) := by omega
      have htn4 : (t : Int) < 40 := by omega
      obtain ⟨b, o, p, rfl, hb, hp, hc0, hc1⟩ := HP.out.cell htn.1
      have htk := take_snoc' hp
      have HAN : Hid ((ps.take (t + 1)).any greatP = ((ps.take t).any greatP || greatP p)) := Lib.hid (by rw [htk, List.any_append]; simp)
      have HT : Hid (greatP p = true → G = true) := Lib.hid fun h0 => by
        rw [HG.out]
        have : (ps.take 40).any greatP = true := List.any_eq_true.2 ⟨p, by
          have h1 : (ps.take 40)[t]? = some p := by rw [List.getElem?_take_of_lt htn.2]; exact hp
          exact List.mem_of_getElem? h1, h0⟩
        rw [this]; rfl
      clear hb hp htk
      obtain ⟨pn, pv⟩ := p
      simp only at hc0 hc1
      by_cases h1 : 300 < pv.length
      · have h1i : (300 : Int) < (pv.length : Int) := by omega
        have HE := HT.out (by unfold greatP; simp [h1])
        subst HE
        go_wp2
        go_ret
        exact ⟨rfl, J0.out.1⟩
      · have h1i : ¬ (300 : Int) < (pv.length : Int) := by omega
        by_cases h2 : 1200 < pn.length
        · have h2i : (1200 : Int) < (pn.length : Int) := by omega
          have HE := HT.out (by unfold greatP; simp [h2])
          subst HE
          go_wp2
          go_ret
          exact ⟨rfl, J0.out.1⟩
        · have h2i : ¬ (1200 : Int) < (pn.length : Int) := by omega
          have HN2 : Hid ((ps.take (t + 1)).any greatP = false) := Lib.hid (by rw [HAN.out, HN.out]; unfold greatP; simp [h1, h2])
          go_wp2
          go_roundg (n - (t + 1))
          case measure => have := hg.out; omega
          case rel => exact ⟨t + 1, by omega, by omega, Lib.hid (by have := hg.out; omega), by go_num, rfl, HN2⟩
    · have HF : Hid (G = (decide (1200 < s.length) || decide (20 < n))) := Lib.hid (by
        rw [HG.out, HLN.out]
        have h0 : (ps.take 40).any greatP = false := by
          have := HN.out
          by_cases h4 : t = 40
          · rwa [h4] at this
          · have hn : n ≤ t := by omega
            rw [List.take_of_length_le (by rw [HLN.out]; exact hn)] at this
            rw [List.take_of_length_le (by rw [HLN.out]; omega)]
            exact this
        rw [h0, Bool.false_or])
      by_cases h1 : 1200 < s.length
      · have h1i : (1200 : Int) < (s.length : Int) := by omega
        have hGG : G = true := by rw [HF.out, decide_eq_true h1]; rfl
        subst hGG
        by_cases hc : t < n
        · have hci : (t : Int) < (n : Int) := by omega
          have h4i : ¬ (t : Int) < 40 := by omega
          clear htn
          go_wp2
          go_ret
          exact ⟨rfl, J0.out.1⟩
        · have hci : ¬ (t : Int) < (n : Int) := by omega
          clear htn
          go_wp2
          go_ret
          exact ⟨rfl, J0.out.1⟩
      · have h1i : ¬ (1200 : Int) < (s.length : Int) := by omega
        have hGG : G = decide (20 < n) := by rw [HF.out, decide_eq_false h1]; rfl
        by_cases hc : t < n
        · have hci : (t : Int) < (n : Int) := by omega
          have h4i : ¬ (t : Int) < 40 := by omega
          have hni : (20 : Int) < (n : Int) := by omega
          rw [show decide (20 < n) = true by rw [decide_eq_true_eq]; omega] at hGG
          subst hGG
          clear htn
          go_wp2
          go_ret
          exact ⟨rfl, J0.out.1⟩
        · have hci : ¬ (t : Int) < (n : Int) := by omega
          clear htn
          by_cases h20 : 20 < n
          · have hni : (20 : Int) < (n : Int) := by omega
            rw [decide_eq_true h20] at hGG
            subst hGG
            go_wp2
            go_ret
            exact ⟨rfl, J0.out.1⟩
          · have hni : ¬ (20 : Int) < (n : Int) := by omega
            rw [decide_eq_false h20] at hGG
            subst hGG
            go_wp2
            go_ret
            exact ⟨rfl, J0.out.1⟩
end Go.Proofs.YtpblphddpcogcaaDoor
