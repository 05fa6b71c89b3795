/- Texts of ours, joined: Tag16, Tag17, Tag18, TokP, TokR, XrB, IxB, TagU, DcB. -/
import Derived.Test.YtmclngahdklfkaaGreatDoorRows
import Derived.WalkKit
import Derived.ProofKit
import Derived.OpenShut
import Derived.ShutString
import Derived.ChangeOld
import Derived.Below
import Derived.BigQuiet
import Derived.Deep.QuietTactic
import Derived.Lib.Hide
import Derived.Deep.RegionHeld3
import Derived.Lib.SlBytesConst
import Derived.Laws.CopyOwn
import Derived.Laws.CopyRow
import Derived.Lib.Bytes
import Derived.Deep.LoopGhost
import Derived.Deep.DeepFit
import Derived.Deep.DeepMust
import Derived.WalkSpells
import Derived.WalkLawsBesides
import Derived.Maps.OwnOps
import Derived.Maps.OwnSet
import Derived.Maps.Views
import Derived.Laws.EntriesVeiled
import Derived.Laws.Rows
import Derived.Test.YtmclngahdklfkaaGreatDoorT1
import Derived.Test.YtmclngahdklfkaaGreatDoorT2
import Derived.Test.YtmclngahdklfkaaGreatDoorT4
import Derived.Test.YtmclngahdklfkaaGreatDoorT6
import Derived.Test.YtmclngahdklfkaaGreatDoorT5
import Derived.Test.YtmclngahdklfkaaGreatDoorT8
import Derived.Test.YtmclngahdklfkaaGreatDoorT10
import Derived.Test.YtmclngahdklfkaaGreatDoorT9
import Derived.Test.YtmclngahdklfkaaGreatDoorT11
import Derived.Test.YtmclngahdklfkaaGreatDoorT7
import Derived.Maps.AppendAt
import Derived.Laws.RangeString
import Derived.Laws.Runes
import Derived.LoopN
import Derived.Lib.AsciiSet
import Derived.Deep.WholeRow
import Derived.Laws.ResultCell
import Derived.Laws.RangeAny
import Derived.Lib.IndexAny
import Derived.Lib.IndexBytes
import Derived.Shelf.Unicode.DecodeSlow
/- What the document answers of a tag to be written. -/
namespace Go.Proofs.YtmclngahdklfkaaGreatDoor
open Go.ChangeShapes Go.WideShapes Go.ChangeAt Go.RowKit
set_option linter.unusedVariables false
theorem size_pair (w : World) : (sizeOf (Tryz.prog.elem 24)).run Tryz.prog w = .ok 2 w := by kernel_rfl
theorem run_upToP {w : World} (A : Option Addr) (n cap t : Nat) (ht : t ≤ cap) : (Instr.slice 24 (.slice A n cap) none (some (.int .i64 (t : Int))) none).run Tryz.prog w = .ok (.slice A t cap) w := by
  rw [run_slice_h (P := Tryz.prog) (w := w) 24 A n cap (by kernel_rfl) .i64 (t : Int) (by omega) (by omega), size_pair]
  simp [sliced]
  intro _
  cases A with
  | none => rfl
  | some a => simp [Addr.add]
theorem info_str : ∃ i, Tryz.prog.info? 9 = some i ∧ i.zero = some (.string ⟨#[]⟩) ∧ i.size = 1 ∧ i.bytes = 16 := by
  obtain ⟨i, h1, h2, h3, h4⟩ := info_parts (show (Tryz.prog.info? 9).map (fun i => (i.zero, i.size, i.bytes)) = some (some (.string ⟨#[]⟩), 1, 16) by kernel_rfl)
  exact ⟨i, h1, h2, h3, h4⟩
def sv (s : List UInt8) : Value := .string ⟨s.toArray⟩
def nmL (s : List UInt8) (ps : List PairL) : List (List UInt8) := s :: ps.map (·.1)
theorem nmL_snoc (s : List UInt8) (ps : List PairL) (p : PairL) : (nmL s (ps ++ [p])).map sv = (nmL s ps).map sv ++ [sv p.1] := by simp [nmL]
theorem nmL_len (s : List UInt8) (ps : List PairL) : (nmL s ps).length = ps.length + 1 := by simp [nmL]
theorem own_one (w : World) (s : List UInt8) : (w.alloc (.cells #[.string ⟨s.toArray⟩] 9)).ownsRow w.heap.size 9 1 (.slice (some ⟨w.heap.size, 0, none⟩) 1 1) 1 ((nmL s []).map sv) :=
  ⟨rfl, Or.inr ⟨w.heap.size, 1, _, rfl, Nat.le_refl _, hp_new _ _, Nat.le_refl _, by unfold maxLen; omega, rfl, rfl⟩⟩
def d12 (b : Bool) : Nat := if b then 12 else 0
def d11 (b : Bool) (e : Nat) : Nat := if b then 11 else e
theorem checkT_eq (s : List UInt8) (ps : List PairL) : checkT s ps = if ((nmL s ps).all nameB && (ps.all fun p => valOk p.2)) = true then d11 ((nmL s ps).any fun x => decide (1024 < x.length)) (d12 (dupR [] ps)) else 7 := by
  have e1 : (nmL s ps).all nameB = (nameB s && ps.all fun p => nameB p.1) := by simp [nmL, List.all_map]; rfl
  have e2 : ((nmL s ps).any fun x => decide (1024 < x.length)) = (decide (1024 < s.length) || longP ps) := by simp [nmL, List.any_map, longP]; rfl
  have e3 : formP ps = ((ps.all fun p => nameB p.1) && (ps.all fun p => valOk p.2)) := by
    induction ps with
    | nil => rfl
    | cons p t ih =>
      have h1 : formP (p :: t) = (nameB p.1 && valOk p.2 && formP t) := by simp [formP]
      rw [h1, List.all_cons, List.all_cons]
      have h2 : formP t = ((t.all fun p => nameB p.1) && (t.all fun p => valOk p.2)) := by
        clear ih e1 e2 h1
        induction t with
        | nil => rfl
        | cons q u ih2 =>
          have h3 : formP (q :: u) = (nameB q.1 && valOk q.2 && formP u) := by simp [formP]
          rw [h3, ih2, List.all_cons, List.all_cons]
          cases nameB q.1 <;> cases valOk q.2 <;> simp
      rw [h2]
      cases nameB p.1 <;> cases valOk p.2 <;> simp
  unfold checkT d11 d12
  rw [e1, e2, e3, Bool.and_assoc]
def hasI (v : List UInt8) (c : UInt8) : Bool := decide (0 ≤ Lib.indexByte v c)
theorem all_ne (v : List UInt8) (c : UInt8) : (v.all fun x => decide (x ≠ c)) = !hasI v c := by
  unfold hasI
  rw [← Lib.contains_iff_indexByte]
  induction v with
  | nil => rfl
  | cons x t ih =>
    rw [List.all_cons, ih, List.contains_cons]
    have : decide (x ≠ c) = !(c == x) := by
      by_cases h : x = c
      · subst h; simp
      · have h2 : ¬ c = x := fun e => h e.symm
        simp [h, h2]
    rw [this, Bool.not_or]
theorem valOk_has (v : List UInt8) : valOk v = (decide ((refsOut v).2 = 0) && (!hasI v 60 && !hasI v 34)) := by
  unfold valOk
  rw [all_ne, all_ne, Bool.and_assoc]
/-- While the document looks at a tag. -/
def RkJ (w wr : World) (cs : Array Value) : Prop := Below w.heap.size w wr ∧ wr.heap[w.heap.size]? = some (.cells cs 63)
theorem RkJ.kept {w wr w' : World} {cs : Array Value} (h : RkJ w wr cs) (hb : Below wr.heap.size wr w') : RkJ w w' cs :=
  ⟨h.1.trans (hb.mono h.1.size), by rw [hb.block _ (lt_of h.2)]; exact h.2⟩
theorem RkJ.mono {w wr w' : World} {cs : Array Value} (h : RkJ w wr cs) (hb : Below (w.heap.size + 1) wr w') : RkJ w w' cs :=
  ⟨h.1.trans (hb.mono (Nat.le_succ _)), by rw [hb.block _ (Nat.lt_succ_self _)]; exact h.2⟩
theorem RkJ.start (w : World) (cs : Array Value) : RkJ w (w.alloc (.cells cs 63)) cs := ⟨(Below.refl _ w).alloc (Nat.le_refl _) _, hp_new _ _⟩
theorem RkJ.drewN {w wr : World} {cs : Array Value} (h : RkJ w wr cs) (q : Nat) : RkJ w (wr.drewN q) cs := ⟨below_drewN' h.1, h.2⟩
theorem take_snoc' {α : Type} {l : List α} {t : Nat} {p : α} (h : l[t]? = some p) : l.take (t + 1) = l.take t ++ [p] := by rw [List.take_add_one, h]; rfl
set_option maxRecDepth 100000 in
set_option maxHeartbeats 16000000 in
theorem refCheck10_c (s : List UInt8) (A : Option Addr) (n cap : Nat) (ps : List PairL) (em : Bool) (w : World) (h : PRd w w.heap.size A n cap ps) (hs : s.length ≤ 40000) (hn : n ≤ 40000) (hp : ∀ p ∈ ps, p.1.length ≤ 40000 ∧ p.2.length ≤ 40000) :
    Calls Tryz.prog 57 #[.agg #[.string ⟨s.toArray⟩, .slice A n cap, .bool em]] w fun e w' => e = .returned (.int .i64 (checkT s ps)) ∧ Below w.heap.size w w' := by
  have CN : Hid (∀ (q : List UInt8) W, q.length ≤ 40000 → Calls Tryz.prog 55 #[.string ⟨q.toArray⟩, .bool false] W fun e w' => e = .returned (.bool (nameB q)) ∧ Below W.heap.size W w') := Lib.hid fun q W h1 => by
    have := refIs_c5 false q W (by omega)
    rwa [okFalse, okFalse] at this
  have CR : Hid (∀ (q : List UInt8) W, q.length ≤ 40000 → Calls Tryz.prog 91 #[.string ⟨q.toArray⟩] W fun e w' => e = .returned (.tuple #[.int .i64 (refsOut q).1, .int .i64 (refsOut q).2]) ∧ Below W.heap.size W w') := Lib.hid fun q W h1 => refRefs_c q W h1
  have CH : Hid (∀ (q : List UInt8) (c : UInt8) W, q.length ≤ 40000 → Calls Tryz.prog 92 #[.string ⟨q.toArray⟩, .int .u8 (c.toNat : Int)] W fun e w' => e = .returned (.bool (hasI q c)) ∧ W = w') := Lib.hid fun q c W h1 => has_c q c W (by omega)
  have HP := Lib.hid h
  have HS := Lib.hid hs
  have HQ := Lib.hid hp
  have HLN : Hid (ps.length = n) := Lib.hid h.len
  have HCk := Lib.hid (checkT_eq s ps)
  obtain ⟨R, hR⟩ : ∃ k : Nat, checkT s ps = k := ⟨_, rfl⟩
  have HR : Hid ((if ((nmL s ps).all nameB && (ps.all fun p => valOk p.2)) = true then d11 ((nmL s ps).any fun x => decide (1024 < x.length)) (d12 (dupR [] ps)) else 7) = R) := Lib.hid (by rw [← HCk.out, hR])
  rw [hR]
  clear hR
  have J0 := Lib.hid (RkJ.start w #[.string ⟨s.toArray⟩, .slice A n cap, .bool em])
  have HSZ0 : Hid ((w.alloc (.cells #[.string ⟨s.toArray⟩, .slice A n cap, .bool em] 63)).heap.size = w.heap.size + 1) := Lib.hid (by simp)
  have z1 := cell_of 1 J0.out.2
  clear h hs hp HCk
  go_enter Tryz.func57, Tryz.ntmps57
  go_wp2
  go_loopg [3, 4] (n) (fun g e i wr => ∃ t : Nat, t ≤ n ∧ Hid (g + t = n) ∧ i = .int .i64 (t : Int) ∧ e = .int .i64 (d12 (dupR [] (ps.take t)) : Int) ∧ Hid (RkJ w wr #[.string ⟨s.toArray⟩, .slice A n cap, .bool em]) ∧ Hid (wr.heap.size = w.heap.size + 1))
  case atStart => exact ⟨0, Nat.zero_le _, Lib.hid (by omega), rfl, rfl, J0, HSZ0⟩
  case round =>
    obtain ⟨t, ht, hg, rfl, rfl, HJ, HSZ⟩ := hrel
    have z1 := cell_of 1 HJ.out.2
    have ht0 : (0 : Int) ≤ (t : Int) := by omega
    have htb : (t : Int) ≤ 40000 := by omega
    by_cases htn : t < n
    · have htni : (t : Int) < (n : Int) := by omega
      have hPR := HP.out.below HJ.out.1
      have CX : ∀ q, Calls Tryz.prog 90 #[.slice A t cap, .string ⟨((ps[t]?.getD ([], [])).1).toArray⟩] (wr.drewN q) fun e w' => e = .returned (.bool (hasN (ps.take t) (ps[t]?.getD ([], [])).1)) ∧ w' = wr.drewN q := fun q => (refHas10_c A t cap (ps.take t) ((ps[t]?.getD ([], [])).1) _ (wr.drewN q) (hPR.drewN.take (k := t) (by omega)) (by omega)).mono fun e w' ⟨he, hw⟩ => ⟨he, hw.symm⟩
      obtain ⟨b, o, p, rfl, hb, hp, hc0, hc1⟩ := hPR.cell htn
      have hle := hPR.le
      have hup := fun W : World => run_upToP (w := W) (some ⟨b, o, none⟩) n cap t (by omega)
      have htk := take_snoc' hp
      have HDS : Hid (dupR [] (ps.take (t + 1)) = (dupR [] (ps.take t) || hasN (ps.take t) p.1)) := Lib.hid (by rw [htk, dupR_snoc, List.nil_append])
      rw [hp] at CX
      simp only [Option.getD_some] at CX
      clear hb hp htk hPR hc1
      obtain ⟨pn, pv⟩ := p
      simp only at hc0 CX HDS
      have CXX := Lib.hid CX
      clear CX
      go_wp2
      go_quiet ((go_at_call 90; exact Calls.quiet_of_same (CXX.out _)))
      have HJ2 := Lib.hid (HJ.out.drewN nq)
      have HSZ2 : Hid ((wr.drewN nq).heap.size = w.heap.size + 1) := Lib.hid HSZ.out
      clear hc0 z1 hup
      generalize wr.drewN nq = wq at *
      cases hh : hasN (ps.take t) pn with
      | true =>
        have HE : Hid (d12 (dupR [] (ps.take (t + 1))) = 12) := Lib.hid (by rw [HDS.out, hh, Bool.or_true]; rfl)
        clear hh
        go_wp2
        go_roundg (n - (t + 1))
        case measure => have := hg.out; omega
        case rel => exact ⟨t + 1, by omega, Lib.hid (by omega), by go_num, by rw [HE.out]; rfl, HJ2, HSZ2⟩
      | false =>
        have HE : Hid (dupR [] (ps.take (t + 1)) = dupR [] (ps.take t)) := Lib.hid (by rw [HDS.out, hh, Bool.or_false])
        clear hh
        go_wp2
        go_roundg (n - (t + 1))
        case measure => have := hg.out; omega
        case rel => exact ⟨t + 1, by omega, Lib.hid (by omega), by go_num, by rw [HE.out], HJ2, HSZ2⟩
    · have htni : ¬ (t : Int) < (n : Int) := by omega
      have hall : ps.take t = ps := List.take_of_length_le (by rw [HLN.out]; omega)
      rw [hall]
      obtain ⟨e12, he12⟩ : ∃ k : Nat, d12 (dupR [] ps) = k := ⟨_, rfl⟩
      rw [he12]
      have HE12 := Lib.hid he12
      have z0 := cell_of 0 HJ.out.2
      have HJ1 := Lib.hid (HJ.out.kept ((Below.refl _ wr).alloc (Nat.le_refl _) (.cells #[.string ⟨s.toArray⟩] 9)))
      have HO1 := Lib.hid (ownsRow_base (own_one wr s) (show w.heap.size + 1 ≤ wr.heap.size by have := HSZ.out; omega))
      have HLT1 : Hid (w.heap.size + 1 ≤ (wr.alloc (.cells #[.string ⟨s.toArray⟩] 9)).heap.size) := Lib.hid (by have := HSZ.out; simp; omega)
      have y1 := cell_of 1 HJ1.out.2
      clear he12 hall
      go_wp2
      go_loopg [5, 6] (n) (fun g v i wr2 => ∃ t2 : Nat, t2 ≤ n ∧ Hid (g + t2 = n) ∧ i = .int .i64 (t2 : Int) ∧ Hid (wr2.ownsRow (w.heap.size + 1) 9 1 v (t2 + 1) ((nmL s (ps.take t2)).map sv)) ∧ Hid (RkJ w wr2 #[.string ⟨s.toArray⟩, .slice A n cap, .bool em]) ∧ Hid (w.heap.size + 1 ≤ wr2.heap.size))
      case atStart => exact ⟨0, Nat.zero_le _, Lib.hid (by omega), rfl, HO1, HJ1, HLT1⟩
      case round =>
        clear z0 z1 y1 HO1 HJ1 HLT1
        obtain ⟨t, ht, hg, rfl, HOW, HJ, HLT⟩ := hrel
        have z1 := cell_of 1 HJ.out.2
        have ht0 : (0 : Int) ≤ (t : Int) := by omega
        have htb : (t : Int) ≤ 40000 := by omega
        by_cases htn : t < n
        · have htni : (t : Int) < (n : Int) := by omega
          obtain ⟨b, o, p, rfl, hb, hp, hc0, hc1⟩ := (HP.out.below HJ.out.1).cell htn
          have htk := take_snoc' hp
          have HN : Hid ((nmL s (ps.take (t + 1))).map sv = (nmL s (ps.take t)).map sv ++ [sv p.1]) := Lib.hid (by rw [htk, nmL_snoc])
          clear hb hp htk hc1
          obtain ⟨pn, pv⟩ := p
          simp only at hc0 HN
          go_wp2_with (at_builtin; refine wpList_app1 rfl (.tmp 41) (.tmp 48) 71 9 rfl (.string ⟨#[]⟩) 16 Tryz.underlying71 info_str rfl (w.heap.size + 1) _ (t + 1) _ rfl HOW.out (.string ⟨pn.toArray⟩) rfl rfl ?c1 (by decide) HLT.out wr (w.heap.size + 1) (Below.refl _ _) (Nat.le_refl _) ?c2)
          case c1 => omega
          case c2 =>
            intro v' w' hown' hb' hsz'
            have HJ2 := Lib.hid (HJ.out.mono hb')
            have HO2 := Lib.hid hown'
            have HLT2 : Hid (w.heap.size + 1 ≤ w'.heap.size) := Lib.hid (Nat.le_trans HLT.out hsz')
            clear hown' hb' hsz' hc0 z1
            go_wp2
            go_roundg (n - (t + 1))
            case measure => have := hg.out; omega
            case rel => exact ⟨t + 1, by omega, Lib.hid (by omega), by go_num, Lib.hid (by rw [HN.out]; exact HO2.out), HJ2, HLT2⟩
        · have htni : ¬ (t : Int) < (n : Int) := by omega
          obtain rfl : t = n := by omega
          rw [List.take_of_length_le (by rw [HLN.out]; exact Nat.le_refl _)] at HOW
          obtain ⟨A5, c5, rfl, hrd⟩ := own_form HOW.out
          have HRD := Lib.hid hrd
          obtain ⟨nm, hnm⟩ : ∃ l, nmL s ps = l := ⟨_, rfl⟩
          have hnl : nm.length = t + 1 := by rw [← hnm, nmL_len, HLN.out]
          have HNB : Hid (∀ x ∈ nm, x.length ≤ 40000) := Lib.hid fun x hx => by
            rw [← hnm] at hx
            simp only [nmL, List.mem_cons, List.mem_map] at hx
            rcases hx with rfl | ⟨p, hp, rfl⟩
            · exact HS.out
            · exact (HQ.out p hp).1
          rw [hnm] at HRD
          have HNM := Lib.hid hnm
          have HNL := Lib.hid hnl
          have HJW := Lib.hid (And.intro HJ.out (Below.refl wr.heap.size wr))
          clear hrd hnm hnl HOW HLT
          go_wp2
          go_loopg [3, 7] (t + 1) (fun g e i wr2 => ∃ u : Nat, u ≤ t + 1 ∧ Hid (g + u = t + 1) ∧ i = .int .i64 (u : Int) ∧ e = .int .i64 (d11 ((nm.take u).any fun x => decide (1024 < x.length)) e12 : Int) ∧ wr = wr2)
          case atStart => exact ⟨0, Nat.zero_le _, Lib.hid (by omega), rfl, rfl, rfl⟩
          case round =>
            obtain ⟨u, hu, hgu, rfl, rfl, rfl⟩ := hrel
            have hu0 : (0 : Int) ≤ (u : Int) := by omega
            have hub : (u : Int) ≤ 40001 := by omega
            by_cases hun : u < t + 1
            · have huni : (u : Int) < (t : Int) + 1 := by omega
              have hx : nm[u]? = some (nm.getD u []) := by rw [List.getElem?_eq_getElem (by rw [HNL.out]; exact hun)]; simp [show u < nm.length by rw [HNL.out]; exact hun]
              obtain ⟨b, o, e, hbb, hcl⟩ := HRD.out.at_ (by have := HRD.out.le; omega)
              subst e
              have hcell := hcl u (sv (nm.getD u [])) (by rw [List.getElem?_map, hx]; rfl)
              have htk := take_snoc' hx
              have HAN : Hid (((nm.take (u + 1)).any fun x => decide (1024 < x.length)) = (((nm.take u).any fun x => decide (1024 < x.length)) || decide (1024 < (nm.getD u []).length))) := Lib.hid (by rw [htk, List.any_append]; simp)
              have hxl := HNB.out _ (List.mem_of_getElem? hx)
              unfold sv at hcell
              clear hcl hx htk hbb
              generalize nm.getD u [] = x at *
              have hxi : (x.length : Int) ≤ 40000 := by omega
              by_cases hlx : 1024 < x.length
              · have hlxi : (1024 : Int) < (x.length : Int) := by omega
                have HE : Hid (d11 ((nm.take (u + 1)).any fun x => decide (1024 < x.length)) e12 = 11) := Lib.hid (by rw [HAN.out, decide_eq_true hlx, Bool.or_true]; rfl)
                go_wp2
                go_roundg (t + 1 - (u + 1))
                case measure => have := hgu.out; omega
                case rel => exact ⟨u + 1, by omega, Lib.hid (by omega), by go_num, by rw [HE.out]; rfl, rfl⟩
              · have hlxi : ¬ (1024 : Int) < (x.length : Int) := by omega
                have HE : Hid (((nm.take (u + 1)).any fun x => decide (1024 < x.length)) = ((nm.take u).any fun x => decide (1024 < x.length))) := Lib.hid (by rw [HAN.out, decide_eq_false hlx, Bool.or_false])
                go_wp2
                go_roundg (t + 1 - (u + 1))
                case measure => have := hgu.out; omega
                case rel => exact ⟨u + 1, by omega, Lib.hid (by omega), by go_num, by rw [HE.out], rfl⟩
            · have huni : ¬ (u : Int) < (t : Int) + 1 := by omega
              rw [List.take_of_length_le (by rw [HNL.out]; omega)]
              obtain ⟨ee, hee⟩ : ∃ k : Nat, d11 (nm.any fun x => decide (1024 < x.length)) e12 = k := ⟨_, rfl⟩
              rw [hee]
              have HEE := Lib.hid hee
              clear hee
              rename World => wz
              go_wp2
              go_loopg [8] (t + 1) (fun g i wr2 => ∃ u : Nat, u ≤ t + 1 ∧ Hid (g + u = t + 1) ∧ i = .int .i64 (u : Int) ∧ Hid (RkJ w wr2 #[.string ⟨s.toArray⟩, .slice A t cap, .bool em] ∧ Below wz.heap.size wz wr2) ∧ Hid ((nm.take u).all nameB = true))
              case atStart => exact ⟨0, Nat.zero_le _, Lib.hid (by omega), rfl, HJW, Lib.hid rfl⟩
              case round =>
                obtain ⟨v, hv, hgv, rfl, HJ4, HAL⟩ := hrel
                have hv0 : (0 : Int) ≤ (v : Int) := by omega
                have hvb : (v : Int) ≤ 40001 := by omega
                by_cases hvn : v < t + 1
                · have hvni : (v : Int) < (t : Int) + 1 := by omega
                  have hx : nm[v]? = some (nm.getD v []) := by rw [List.getElem?_eq_getElem (by rw [HNL.out]; exact hvn)]; simp [show v < nm.length by rw [HNL.out]; exact hvn]
                  obtain ⟨b, o, e, hbb, hcl⟩ := (HRD.out.below HJ4.out.2).at_ (by have := HRD.out.le; omega)
                  subst e
                  have hcell := hcl v (sv (nm.getD v [])) (by rw [List.getElem?_map, hx]; rfl)
                  have htk := take_snoc' hx
                  have HAN : Hid ((nm.take (v + 1)).all nameB = ((nm.take v).all nameB && nameB (nm.getD v []))) := Lib.hid (by rw [htk, List.all_append]; simp)
                  have hxl := HNB.out _ (List.mem_of_getElem? hx)
                  have HMEM := Lib.hid (List.mem_of_getElem? hx)
                  unfold sv at hcell
                  clear hcl hx htk hbb
                  generalize nm.getD v [] = x at *
                  have CN1 := Lib.hid (CN.out x wr hxl)
                  go_wp2_with fail
                  refine CN1.out.mono ?_
                  rintro e w8 ⟨rfl, hb8⟩
                  have HJ5 : Hid (RkJ w w8 #[.string ⟨s.toArray⟩, .slice A t cap, .bool em] ∧ Below wz.heap.size wz w8) := Lib.hid ⟨HJ4.out.1.kept hb8, HJ4.out.2.trans (hb8.mono HJ4.out.2.size)⟩
                  clear hb8 hcell
                  cases hnb : nameB x with
                  | true =>
                    have HE : Hid ((nm.take (v + 1)).all nameB = true) := Lib.hid (by rw [HAN.out, HAL.out, hnb]; rfl)
                    clear hnb
                    go_wp2
                    go_roundg (t + 1 - (v + 1))
                    case measure => have := hgv.out; omega
                    case rel => exact ⟨v + 1, by omega, Lib.hid (by omega), by go_num, HJ5, HE⟩
                  | false =>
                    have hF : (nm.all nameB && (ps.all fun p => valOk p.2)) = false := by
                      rw [List.all_eq_false.2 ⟨x, HMEM.out, by rw [hnb]; simp⟩]; rfl
                    rw [← HNM.out] at hF
                    have HF := Lib.hid hF
                    clear hF hnb
                    go_wp2
                    go_ret
                    have hR7 : R = 7 := by rw [← HR.out, HF.out]; rfl
                    exact ⟨by subst hR7; rfl, HJ5.out.1.1⟩
                · have hvni : ¬ (v : Int) < (t : Int) + 1 := by omega
                  have HALL : Hid (nm.all nameB = true) := Lib.hid (by have := HAL.out; rwa [List.take_of_length_le (by rw [HNL.out]; omega)] at this)
                  have HJ6 := Lib.hid HJ4.out.1
                  have z1 := cell_of 1 HJ6.out.2
                  rename World => wy
                  go_wp2
                  go_loopg [9] (t) (fun g i wr2 => ∃ u : Nat, u ≤ t ∧ Hid (g + u = t) ∧ i = .int .i64 (u : Int) ∧ Hid (RkJ w wr2 #[.string ⟨s.toArray⟩, .slice A t cap, .bool em]) ∧ Hid (((ps.take u).all fun p => valOk p.2) = true))
                  case atStart => exact ⟨0, Nat.zero_le _, Lib.hid (by omega), rfl, HJ6, Lib.hid rfl⟩
                  case round =>
                    clear z1 HJ4 HJ6
                    obtain ⟨r, hr, hgr, rfl, HJ7, HAV⟩ := hrel
                    have z1 := cell_of 1 HJ7.out.2
                    have hr0 : (0 : Int) ≤ (r : Int) := by omega
                    have hrb : (r : Int) ≤ 40000 := by omega
                    by_cases hrn : r < t
                    · have hrni : (r : Int) < (t : Int) := by omega
                      obtain ⟨b, o, p, rfl, hb, hp, hc0, hc1⟩ := (HP.out.below HJ7.out.1).cell hrn
                      have htk := take_snoc' hp
                      have HAN : Hid (((ps.take (r + 1)).all fun p => valOk p.2) = (((ps.take r).all fun p => valOk p.2) && valOk p.2)) := Lib.hid (by rw [htk, List.all_append]; simp)
                      have HMEM := Lib.hid (List.mem_of_getElem? hp)
                      have hpl := (HQ.out p HMEM.out).2
                      have HVK := Lib.hid (valOk_has p.2)
                      have CR1 := Lib.hid fun W => CR.out p.2 W hpl
                      have CH1 := Lib.hid fun W => CH.out p.2 60 W hpl
                      have CH2 := Lib.hid fun W => CH.out p.2 34 W hpl
                      have HF : Hid (valOk p.2 = false → ((nmL s ps).all nameB && (ps.all fun p => valOk p.2)) = false) := Lib.hid fun h0 => by
                        rw [show (ps.all fun p => valOk p.2) = false from List.all_eq_false.2 ⟨p, HMEM.out, by rw [h0]; simp⟩, Bool.and_false]
                      clear hb hp htk hc0 HMEM hpl
                      obtain ⟨pn, pv⟩ := p
                      simp only at hc1 HAN HVK CR1 CH1 CH2 HF
                      generalize refsOut pv = ro at *
                      obtain ⟨ri, re⟩ := ro
                      go_wp2_with fail
                      refine (CR1.out _).mono ?_
                      rintro e w8 ⟨rfl, hb8⟩
                      have HJ8 := Lib.hid (HJ7.out.kept hb8)
                      clear hb8 hc1 z1
                      by_cases hre : re = 0
                      · subst hre
                        cases h60 : hasI pv 60 with
                        | true =>
                          have HE := Lib.hid (HF.out (by rw [HVK.out, h60]; simp))
                          rw [h60] at CH1
                          clear h60
                          go_wp2_with fail
                          refine (CH1.out _).mono ?_
                          rintro e w9 ⟨rfl, rfl⟩
                          go_wp2
                          go_ret
                          have hR7 : R = 7 := by rw [← HR.out, HE.out]; rfl
                          exact ⟨by subst hR7; rfl, HJ8.out.1⟩
                        | false =>
                          rw [h60] at CH1
                          cases h34 : hasI pv 34 with
                          | true =>
                            have HE := Lib.hid (HF.out (by rw [HVK.out, h34]; simp))
                            rw [h34] at CH2
                            clear h60 h34
                            go_wp2_with fail
                            refine (CH1.out _).mono ?_
                            rintro e w9 ⟨rfl, rfl⟩
                            go_wp2_with fail
                            refine (CH2.out _).mono ?_
                            rintro e w9 ⟨rfl, rfl⟩
                            go_wp2
                            go_ret
                            have hR7 : R = 7 := by rw [← HR.out, HE.out]; rfl
                            exact ⟨by subst hR7; rfl, HJ8.out.1⟩
                          | false =>
                            have HE : Hid (((ps.take (r + 1)).all fun p => valOk p.2) = true) := Lib.hid (by rw [HAN.out, HAV.out, HVK.out, h60, h34]; rfl)
                            rw [h34] at CH2
                            clear h60 h34
                            go_wp2_with fail
                            refine (CH1.out _).mono ?_
                            rintro e w9 ⟨rfl, rfl⟩
                            go_wp2_with fail
                            refine (CH2.out _).mono ?_
                            rintro e w9 ⟨rfl, rfl⟩
                            go_wp2
                            go_roundg (t - (r + 1))
                            case measure => have := hgr.out; omega
                            case rel => exact ⟨r + 1, by omega, Lib.hid (by omega), by go_num, HJ8, HE⟩
                      · have hrei : ((re : Int) != 0) = true := by simp; omega
                        have hrej : ¬ (re : Int) = 0 := by omega
                        have HE := Lib.hid (HF.out (by rw [HVK.out]; simp [hre]))
                        clear hre
                        go_wp2
                        go_ret
                        have hR7 : R = 7 := by rw [← HR.out, HE.out]; rfl
                        exact ⟨by subst hR7; rfl, HJ8.out.1⟩
                    · have hrni : ¬ (r : Int) < (t : Int) := by omega
                      have HE : Hid (((nmL s ps).all nameB && (ps.all fun p => valOk p.2)) = true) := Lib.hid (by
                        have := HAV.out
                        rw [List.take_of_length_le (by rw [HLN.out]; omega)] at this
                        rw [HNM.out, HALL.out, this]; rfl)
                      have HE2 : Hid (d11 ((nmL s ps).any fun x => decide (1024 < x.length)) (d12 (dupR [] ps)) = ee) := Lib.hid (by rw [HNM.out, HE12.out, HEE.out])
                      go_wp2
                      go_ret
                      have hR7 : R = ee := by rw [← HR.out, HE.out, if_pos rfl, HE2.out]
                      exact ⟨by subst hR7; rfl, HJ7.out.1⟩
end Go.Proofs.YtmclngahdklfkaaGreatDoor
/- What the document writes of a tag. -/
namespace Go.Proofs.YtmclngahdklfkaaGreatDoor
open Go.ChangeShapes Go.WideShapes Go.ChangeAt Go.RowKit
set_option linter.unusedVariables false
set_option maxRecDepth 100000 in
set_option maxHeartbeats 8000000 in
theorem refPut10_c (s : List UInt8) (A : Option Addr) (n cap : Nat) (ps : List PairL) (em : Bool) (w : World) (h : PRd w w.heap.size A n cap ps) (hs : s.length ≤ 40000) (hn : n ≤ 40000) (hp : ∀ p ∈ ps, p.1.length ≤ 40000 ∧ p.2.length ≤ 40000) :
    Calls Tryz.prog 58 #[.agg #[.string ⟨s.toArray⟩, .slice A n cap, .bool em]] w fun e w' => e = .returned (.string ⟨(tagT ⟨s, ps, em⟩).toArray⟩) ∧ Below w.heap.size w w' := by
  have HP := Lib.hid h
  have HQ := Lib.hid hp
  have HLN : Hid (ps.length = n) := Lib.hid h.len
  obtain ⟨T, hT⟩ : ∃ T, tagT ⟨s, ps, em⟩ = T := ⟨_, rfl⟩
  have HT : Hid ((([60] ++ s) ++ pairsT ps ++ endT em) = T) := Lib.hid (by rw [← hT]; cases em <;> simp [tagT, endT])
  rw [hT]
  have J0 := Lib.hid (RkJ.start w #[.string ⟨s.toArray⟩, .slice A n cap, .bool em])
  have z0 := cell_of 0 J0.out.2
  have sp0 : ∀ w : World, (Op.stringOp .add ⟨#[60]⟩ ⟨s.toArray⟩).run Tryz.prog w = .ok (.string ⟨([60] ++ s).toArray⟩) w := fun w => run_sop (w := w) [60] s (by simp; omega)
  have HSL : Hid (([60] ++ s).length ≤ 40001) := Lib.hid (by simp; omega)
  clear h hp hT
  generalize [60] ++ s = s1 at *
  go_enter Tryz.func58, Tryz.ntmps58
  go_wp2
  clear z0
  go_loopg [3, 4] (n) (fun g v i wr => ∃ t : Nat, t ≤ n ∧ Hid (g + t = n) ∧ i = .int .i64 (t : Int) ∧ v = .string ⟨(s1 ++ pairsT (ps.take t)).toArray⟩ ∧ Hid (RkJ w wr #[.string ⟨s.toArray⟩, .slice A n cap, .bool em]))
  case atStart => exact ⟨0, Nat.zero_le _, Lib.hid (by omega), rfl, by simp [pairsT], J0⟩
  case round =>
    obtain ⟨t, ht, hg, rfl, rfl, HJ⟩ := hrel
    have z1 := cell_of 1 HJ.out.2
    have ht0 : (0 : Int) ≤ (t : Int) := by omega
    have htb : (t : Int) ≤ 40000 := by omega
    by_cases htn : t < n
    · have htni : (t : Int) < (n : Int) := by omega
      obtain ⟨b, o, p, rfl, hb, hp, hc0, hc1⟩ := (HP.out.below HJ.out.1).cell htn
      have htk := take_snoc' hp
      obtain ⟨hq1, hq2⟩ := HQ.out p (List.mem_of_getElem? hp)
      have hbt := pairsT_bound (ps.take t) fun q hq => HQ.out q (List.mem_of_mem_take hq)
      have hal : (s1 ++ pairsT (ps.take t)).length ≤ 4000000000 := by
        have := HSL.out
        have hl : (ps.take t).length ≤ 40000 := by rw [List.length_take]; omega
        have hm : (ps.take t).length * 80004 ≤ 40000 * 80004 := Nat.mul_le_mul_right _ hl
        rw [List.length_append]
        omega
      have HNX : Hid (s1 ++ pairsT (ps.take (t + 1)) = (s1 ++ pairsT (ps.take t)) ++ [32] ++ p.1 ++ [61, 34] ++ p.2 ++ [34]) := Lib.hid (by rw [htk, pairsT_snoc]; simp [pairT])
      clear hp htk hb hbt
      obtain ⟨pn, pv⟩ := p
      simp only at hc0 hc1 HNX hq1 hq2
      generalize s1 ++ pairsT (ps.take t) = acc at *
      have s1' : ∀ w : World, (Op.stringOp .add ⟨acc.toArray⟩ ⟨#[32]⟩).run Tryz.prog w = .ok (.string ⟨(acc ++ [32]).toArray⟩) w := fun w => run_sop (w := w) acc [32] (by simp; omega)
      have s2' : ∀ w : World, (Op.stringOp .add ⟨(acc ++ [32]).toArray⟩ ⟨pn.toArray⟩).run Tryz.prog w = .ok (.string ⟨(acc ++ [32] ++ pn).toArray⟩) w := fun w => run_sop (w := w) (acc ++ [32]) pn (by simp; omega)
      have s3' : ∀ w : World, (Op.stringOp .add ⟨(acc ++ [32] ++ pn).toArray⟩ ⟨#[61, 34]⟩).run Tryz.prog w = .ok (.string ⟨(acc ++ [32] ++ pn ++ [61, 34]).toArray⟩) w := fun w => run_sop (w := w) (acc ++ [32] ++ pn) [61, 34] (by simp; omega)
      have s4' : ∀ w : World, (Op.stringOp .add ⟨(acc ++ [32] ++ pn ++ [61, 34]).toArray⟩ ⟨pv.toArray⟩).run Tryz.prog w = .ok (.string ⟨(acc ++ [32] ++ pn ++ [61, 34] ++ pv).toArray⟩) w := fun w => run_sop (w := w) (acc ++ [32] ++ pn ++ [61, 34]) pv (by simp; omega)
      have s5' : ∀ w : World, (Op.stringOp .add ⟨(acc ++ [32] ++ pn ++ [61, 34] ++ pv).toArray⟩ ⟨#[34]⟩).run Tryz.prog w = .ok (.string ⟨(acc ++ [32] ++ pn ++ [61, 34] ++ pv ++ [34]).toArray⟩) w := fun w => run_sop (w := w) (acc ++ [32] ++ pn ++ [61, 34] ++ pv) [34] (by simp; omega)
      clear hal hq1 hq2
      generalize acc ++ [32] ++ pn ++ [61, 34] ++ pv ++ [34] = t5 at *
      generalize acc ++ [32] ++ pn ++ [61, 34] ++ pv = t4 at *
      generalize acc ++ [32] ++ pn ++ [61, 34] = t3 at *
      generalize acc ++ [32] ++ pn = t2 at *
      generalize acc ++ [32] = t1 at *
      go_wp2
      go_quiet (fail)
      have HJ2 := Lib.hid (HJ.out.drewN nq)
      clear hc0 hc1 z1 s1' s2' s3' s4' s5'
      generalize wr.drewN nq = wq at *
      go_wp2
      go_roundg (n - (t + 1))
      case measure => have := hg.out; omega
      case rel => exact ⟨t + 1, by omega, Lib.hid (by omega), by go_num, by rw [HNX.out], HJ2⟩
    · have htni : ¬ (t : Int) < (n : Int) := by omega
      have hbp := pairsT_bound ps HQ.out
      have hal : (s1 ++ pairsT ps).length ≤ 4000000000 := by
        have := HSL.out
        have hm : ps.length * 80004 ≤ 40000 * 80004 := Nat.mul_le_mul_right _ (by rw [HLN.out]; exact hn)
        rw [List.length_append]
        omega
      rw [List.take_of_length_le (by rw [HLN.out]; omega)]
      have z2 := cell_of 2 HJ.out.2
      clear hbp
      obtain ⟨acc, hacc⟩ : ∃ a, s1 ++ pairsT ps = a := ⟨_, rfl⟩
      rw [hacc] at HT hal ⊢
      clear hacc
      cases em with
      | true =>
        have sp : ∀ w : World, (Op.stringOp .add ⟨acc.toArray⟩ ⟨#[47, 62]⟩).run Tryz.prog w = .ok (.string ⟨(acc ++ [47, 62]).toArray⟩) w := fun w => run_sop (w := w) acc [47, 62] (by simp; omega)
        have HT2 : Hid (acc ++ [47, 62] = T) := HT
        rw [HT2.out] at sp
        clear hal
        go_wp2
        go_ret
        exact ⟨rfl, HJ.out.1⟩
      | false =>
        have sp : ∀ w : World, (Op.stringOp .add ⟨acc.toArray⟩ ⟨#[62]⟩).run Tryz.prog w = .ok (.string ⟨(acc ++ [62]).toArray⟩) w := fun w => run_sop (w := w) acc [62] (by simp; omega)
        have HT2 : Hid (acc ++ [62] = T) := HT
        rw [HT2.out] at sp
        clear hal
        go_wp2
        go_ret
        exact ⟨rfl, HJ.out.1⟩
end Go.Proofs.YtmclngahdklfkaaGreatDoor
/- How great a tag is, and an element's end read as it was written. -/
namespace Go.Proofs.YtmclngahdklfkaaGreatDoor
open Go.ChangeShapes Go.WideShapes Go.ChangeAt Go.RowKit
set_option linter.unusedVariables false
def closeT (s : List UInt8) : List UInt8 := 60 :: 47 :: (s ++ [62])
theorem close_back (s : List UInt8) (h : nameOk s = true) : closeOut (closeT s) 0 = (s, (closeT s).length, 0) := by
  have hn : nameOut (closeT s) 2 = (s, 2 + s.length, 0) := name_mid [60, 47] s [] 62 h (by decide) (by decide +kernel)
  have hd : (closeT s).drop (2 + s.length) = [62] := by
    have hl : 2 + s.length = (60 :: 47 :: s).length := by simp; omega
    rw [hl, show closeT s = (60 :: 47 :: s) ++ [62] by simp [closeT], List.drop_left]
  have hb : blankTo (closeT s) (2 + s.length) = 2 + s.length := by
    unfold blankTo
    rw [hd]
    rfl
  unfold closeOut
  rw [if_pos (by rfl), show 0 + 2 = 2 by rfl, hn]
  simp only
  rw [if_neg (by simp), hb, hd, if_pos (by rfl)]
  simp [closeT]
  omega
def greatP (p : PairL) : Bool := decide (300 < p.2.length) || decide (1200 < p.1.length)
end Go.Proofs.YtmclngahdklfkaaGreatDoor
/- Tokens, in plain Lean. -/
namespace Go.Proofs.YtmclngahdklfkaaGreatDoor
open Go.ChangeShapes Go.WideShapes Go.ChangeAt Go.RowKit
set_option linter.unusedVariables false
/-- A token, as both sides hold it. -/
structure TokL where
  kind : Int
  fro : Int
  to_ : Int
  name : List UInt8
  text : List UInt8
  pairs : List PairL
  r : Int
def noTok : TokL := ⟨0, 0, 0, [], [], [], 0⟩
def inTx (c : UInt8) : Bool := !(decide (c = 60) || decide (c = 38))
/-- The text that stands ahead of a '<' or an '&'. -/
def txt (l : List UInt8) : List UInt8 := l.takeWhile inTx
def textTok (l : List UInt8) (k : Nat) : TokL × Nat := if Lib.contains (txt (l.drop k)) [93, 93, 62] = true then (noTok, 7) else (⟨1, 0, ((k + (txt (l.drop k)).length : Nat) : Int), [], txt (l.drop k), [], 0⟩, 0)
/-- What is read at a place that holds a byte. -/
def readTok (l : List UInt8) (k : Nat) : TokL × Nat :=
  if [60, 33, 45, 45].isPrefixOf (l.drop k) = true then (⟨5, 0, ((commentOut l k).2.1 : Int), [], (commentOut l k).1, [], 0⟩, (commentOut l k).2.2)
  else if [60, 33, 91, 67, 68, 65, 84, 65, 91].isPrefixOf (l.drop k) = true then (⟨4, 0, ((cdataOut l k).2.1 : Int), [], (cdataOut l k).1, [], 0⟩, (cdataOut l k).2.2)
  else if [60, 63].isPrefixOf (l.drop k) = true then (⟨6, 0, ((piOut l k).2.2.1 : Int), (piOut l k).1, (piOut l k).2.1, [], 0⟩, (piOut l k).2.2.2)
  else if [60, 47].isPrefixOf (l.drop k) = true then (⟨9, 0, ((closeOut l k).2.1 : Int), (closeOut l k).1, [], [], 0⟩, (closeOut l k).2.2)
  else if [60].isPrefixOf (l.drop k) = true then (⟨if (openOut l k).1.empty = true then 8 else 7, 0, ((openOut l k).2.1 : Int), (openOut l k).1.name, [], (openOut l k).1.pairs, 0⟩, (openOut l k).2.2)
  else if [38, 35].isPrefixOf (l.drop k) = true then (⟨2, 0, ((charOut l k).2.1 : Int), [], [], [], (charOut l k).1⟩, (charOut l k).2.2)
  else if [38].isPrefixOf (l.drop k) = true then (⟨3, 0, ((refOut 38 l k).2.1 : Int), (refOut 38 l k).1, [], [], 0⟩, (refOut 38 l k).2.2)
  else textTok l k
def nextOut (l : List UInt8) (k : Nat) : TokL × Nat := if (readTok l k).2 = 0 then ({ (readTok l k).1 with fro := (k : Int) }, 0) else (noTok, (readTok l k).2)
/-- The token at any place. -/
def nextAt (l : List UInt8) (at_ : Int) : TokL × Nat := if at_ < 0 ∨ (l.length : Int) < at_ then (noTok, 3) else if at_ = (l.length : Int) then (noTok, 4) else nextOut l at_.toNat
theorem plain_ok (l : List UInt8) (k : Nat) (hk : k ≤ l.length) (h : (plainOut l k).2.2 = 0) : k < (plainOut l k).2.1 ∧ (plainOut l k).2.1 ≤ l.length := by
  have hle := endL_le l.length (noColon isStart) (noColon isMore) (l.drop k)
  rw [List.length_drop] at hle
  unfold plainOut at h ⊢
  simp only at h ⊢
  split
  · rename_i h0; rw [if_pos h0] at h; cases h
  · rename_i h0
    rw [if_neg h0] at h
    split
    · rename_i h1; rw [if_pos h1] at h; cases h
    · exact ⟨by simp only; omega, by simp only; omega⟩
theorem comment_ok (l : List UInt8) (k : Nat) (h : (commentOut l k).2.2 = 0) : k < (commentOut l k).2.1 ∧ (commentOut l k).2.1 ≤ l.length := by
  unfold commentOut at h ⊢
  split
  · rename_i h1; rw [if_pos h1] at h; cases h
  · rename_i h1
    rw [if_neg h1] at h
    split
    · rename_i h2; rw [if_pos h2] at h; cases h
    · rename_i h2
      rw [if_neg h2] at h
      split
      · rename_i h3
        have hk : k + 4 ≤ l.length := by
          have h1' : [60, 33, 45, 45].isPrefixOf (l.drop k) = true := by simpa using h1
          rcases pre_len h1' with e | e
          · cases e
          · simpa using e
        rcases findI_spec l [45, 45] (k + 4) hk with ⟨h', _⟩ | ⟨i, h', hki, _, _, _⟩
        · omega
        · rw [h'] at h3 ⊢
          rw [Int.toNat_natCast] at h3 ⊢
          rcases pre_len h3 with e | e
          · cases e
          · simp only [List.length_cons, List.length_nil] at e
            exact ⟨by show k < i + 3; omega, e⟩
      · rename_i h3; rw [if_neg h3] at h; cases h
theorem cdata_ok (l : List UInt8) (k : Nat) (h : (cdataOut l k).2.2 = 0) : k < (cdataOut l k).2.1 ∧ (cdataOut l k).2.1 ≤ l.length := by
  unfold cdataOut at h ⊢
  split
  · rename_i h1; rw [if_pos h1] at h; cases h
  · rename_i h1
    rw [if_neg h1] at h
    split
    · rename_i h2; rw [if_pos h2] at h; cases h
    · rename_i h2
      have hk : k + 9 ≤ l.length := by
        have h1' : [60, 33, 91, 67, 68, 65, 84, 65, 91].isPrefixOf (l.drop k) = true := by simpa using h1
        rcases pre_len h1' with e | e
        · cases e
        · simpa using e
      rcases findI_spec l [93, 93, 62] (k + 9) hk with ⟨h', _⟩ | ⟨i, h', hki, hil, _, _⟩
      · omega
      · rw [h', Int.toNat_natCast]
        exact ⟨by show k < i + 3; omega, by simpa using hil⟩
theorem pi_ok (l : List UInt8) (k : Nat) (hk : k ≤ l.length) (h : (piOut l k).2.2.2 = 0) : k < (piOut l k).2.2.1 ∧ (piOut l k).2.2.1 ≤ l.length := by
  unfold piOut at h ⊢
  split
  · rename_i h1; rw [if_pos h1] at h; cases h
  · rename_i h1
    rw [if_neg h1] at h
    have hk2 : k + 2 ≤ l.length := by
      have h1' : [60, 63].isPrefixOf (l.drop k) = true := by simpa using h1
      rcases pre_len h1' with e | e
      · cases e
      · simpa using e
    unfold piRest at h ⊢
    split
    · rename_i h2; rw [if_pos h2] at h; exact absurd h h2
    · rename_i h2
      rw [if_neg h2] at h
      split
      · rename_i h3; rw [if_pos h3] at h; cases h
      · rename_i h3
        rw [if_neg h3] at h
        split
        · rename_i h4; rw [if_pos h4] at h; cases h
        · rename_i h4
          have hp := plain_ok l (k + 2) hk2 (by simpa using h2)
          have hb := blankTo_le l _ hp.2
          rcases findI_spec l [63, 62] (blankTo l (plainOut l (k + 2)).2.1) hb.2 with ⟨h', _⟩ | ⟨i, h', hki, hil, _, _⟩
          · omega
          · rw [h', Int.toNat_natCast]
            exact ⟨by show k < i + 2; omega, by simpa using hil⟩
theorem close_ok (l : List UInt8) (k : Nat) (h : (closeOut l k).2.2 = 0) : k < (closeOut l k).2.1 ∧ (closeOut l k).2.1 ≤ l.length := by
  unfold closeOut at h ⊢
  split
  · rename_i h1
    rw [if_pos h1] at h
    have hk : k + 2 ≤ l.length := by
      rcases pre_len h1 with e | e
      · cases e
      · simpa using e
    split
    · rename_i h2; rw [if_pos h2] at h; exact absurd h h2
    · rename_i h2
      rw [if_neg h2] at h
      have hn := nameOut_ok l (k + 2) hk (by simpa using h2)
      split
      · rename_i h3
        have hb := blankTo_le l _ hn.2.1
        rcases pre_len h3 with e | e
        · cases e
        · simp only [List.length_cons, List.length_nil] at e
          exact ⟨by show k < blankTo l _ + 1; omega, e⟩
      · rename_i h3; rw [if_neg h3] at h; cases h
  · rename_i h1; rw [if_neg h1] at h; cases h
theorem pairsR_ge (l : List UInt8) : ∀ (f : Nat) (acc : List PairL) (t : Nat), t ≤ l.length → l.length + 1 ≤ f + t → (pairsR l f acc t).2.2 = 0 → t ≤ (pairsR l f acc t).2.1
  | 0, acc, t, ht, hf, _ => by omega
  | f + 1, acc, t, ht, hf, h => by
    cases hs : stopB l (blankTo l t) t with
    | true => rw [pairs_stop hs]; exact Nat.le_refl _
    | false =>
      by_cases he : (pairOut l (blankTo l t)).2.2 = 0
      · cases hh : hasN acc (pairOut l (blankTo l t)).1.1 with
        | true => rw [pairs_twice hs he hh] at h; cases h
        | false =>
          rw [pairs_more hs he hh] at h ⊢
          have hb := blankTo_le l t ht
          have hp := pairOut_ok l (blankTo l t) hb.2 he
          have := pairsR_ge l f (acc ++ [(pairOut l (blankTo l t)).1]) (pairOut l (blankTo l t)).2.1 hp.2.1 (by omega) h
          omega
      · rw [pairs_bad hs rfl he] at h
        exact absurd h he
theorem open_ok (l : List UInt8) (k : Nat) (h : (openOut l k).2.2 = 0) : k < (openOut l k).2.1 ∧ (openOut l k).2.1 ≤ l.length := by
  unfold openOut at h ⊢
  split
  · rename_i h1
    rw [if_pos h1] at h
    have hk : k + 1 ≤ l.length := (List.getElem?_eq_some_iff.1 h1).1
    split
    · rename_i h2; rw [if_pos h2] at h; exact absurd h h2
    · rename_i h2
      rw [if_neg h2] at h
      have hn := nameOut_ok l (k + 1) hk (by simpa using h2)
      split
      · rename_i h3; rw [if_pos h3] at h; exact absurd h h3
      · rename_i h3
        rw [if_neg h3] at h
        have hp1 := pairsOut_le l _ hn.2.1
        have hp2 := pairsR_ge l (l.length + 1) [] _ hn.2.1 (by omega) (by simpa [pairsOut] using h3)
        have hp3 : (nameOut l (k + 1)).2.1 ≤ (pairsOut l (nameOut l (k + 1)).2.1).2.1 := hp2
        have hb := blankTo_le l _ hp1
        split
        · rename_i h4
          rcases pre_len h4 with e | e
          · cases e
          · simp only [List.length_cons, List.length_nil] at e
            exact ⟨by show k < blankTo l _ + 2; omega, e⟩
        · rename_i h4
          rw [if_neg h4] at h
          split
          · rename_i h5
            rcases pre_len h5 with e | e
            · cases e
            · simp only [List.length_cons, List.length_nil] at e
              exact ⟨by show k < blankTo l _ + 1; omega, e⟩
          · rename_i h5; rw [if_neg h5] at h; cases h
  · rename_i h1; rw [if_neg h1] at h; cases h
theorem charBody_ok (b cap : Int) (l : List UInt8) (k : Nat) (h : (charBody b cap l k).2.2 = 0) : k < (charBody b cap l k).2.1 ∧ (charBody b cap l k).2.1 ≤ l.length := by
  unfold charBody at h ⊢
  simp only at h ⊢
  split
  · rename_i h1; rw [if_pos h1] at h; cases h
  · rename_i h1
    rw [if_neg h1] at h
    split
    · rw [not_or] at h1
      have h2 : l[k + (digs b (l.drop k)).length]? = some 59 := by simpa using h1.2
      have := (List.getElem?_eq_some_iff.1 h2).1
      exact ⟨by simp only; omega, by simp only; omega⟩
    · rename_i h2; rw [if_neg h2] at h; cases h
theorem char_ok (l : List UInt8) (k : Nat) (h : (charOut l k).2.2 = 0) : k < (charOut l k).2.1 ∧ (charOut l k).2.1 ≤ l.length := by
  unfold charOut at h ⊢
  split
  · rename_i h1
    rw [if_pos h1] at h
    split
    · rename_i h2
      rw [if_pos h2] at h
      have := charBody_ok _ _ _ _ h
      omega
    · rename_i h2
      rw [if_neg h2] at h
      have := charBody_ok _ _ _ _ h
      omega
  · rename_i h1; rw [if_neg h1] at h; cases h
theorem ref_ok (m : UInt8) (l : List UInt8) (k : Nat) (h : (refOut m l k).2.2 = 0) : k < (refOut m l k).2.1 ∧ (refOut m l k).2.1 ≤ l.length := by
  unfold refOut at h ⊢
  cases hc : l[k]? with
  | none => rw [hc] at h; cases h
  | some c =>
    rw [hc] at h
    simp only at h ⊢
    have hk := (List.getElem?_eq_some_iff.1 hc).1
    split
    · rename_i h1
      rw [if_pos h1] at h
      split
      · rename_i h2; rw [if_pos h2] at h; exact absurd h h2
      · rename_i h2
        rw [if_neg h2] at h
        have hp := plain_ok l (k + 1) hk (by simpa using h2)
        cases hd : l[(plainOut l (k + 1)).2.1]? with
        | none => rw [hd] at h; cases h
        | some d =>
          rw [hd] at h
          simp only at h ⊢
          have hl := (List.getElem?_eq_some_iff.1 hd).1
          split
          · exact ⟨by simp only; omega, by simp only; omega⟩
          · rename_i h3; rw [if_neg h3] at h; cases h
    · rename_i h1; rw [if_neg h1] at h; cases h
theorem txt_le (l : List UInt8) : (txt l).length ≤ l.length := (List.takeWhile_prefix (p := inTx) (l := l)).length_le
theorem txt_cons {c : UInt8} {t : List UInt8} (h : inTx c = true) : txt (c :: t) = c :: txt t := by simp [txt, h]
theorem txt_stop {c : UInt8} {t : List UInt8} (h : inTx c = false) : txt (c :: t) = [] := by simp [txt, h]
/-- A token that is read goes on from its place, and lies within. -/
theorem readTok_ok (l : List UInt8) (k : Nat) (hk : k < l.length) (h : (readTok l k).2 = 0) : ∃ t : Nat, (readTok l k).1.to_ = (t : Int) ∧ k < t ∧ t ≤ l.length := by
  unfold readTok at h ⊢
  split
  · rename_i h1; rw [if_pos h1] at h; exact ⟨_, rfl, comment_ok l k h⟩
  · rename_i h1
    rw [if_neg h1] at h
    split
    · rename_i h1; rw [if_pos h1] at h; exact ⟨_, rfl, cdata_ok l k h⟩
    · rename_i h1
      rw [if_neg h1] at h
      split
      · rename_i h1; rw [if_pos h1] at h; exact ⟨_, rfl, pi_ok l k (Nat.le_of_lt hk) h⟩
      · rename_i h1
        rw [if_neg h1] at h
        split
        · rename_i h1; rw [if_pos h1] at h; exact ⟨_, rfl, close_ok l k h⟩
        · rename_i h1
          rw [if_neg h1] at h
          split
          · rename_i h1; rw [if_pos h1] at h; exact ⟨_, rfl, open_ok l k h⟩
          · rename_i h60
            rw [if_neg h60] at h
            split
            · rename_i h1; rw [if_pos h1] at h; exact ⟨_, rfl, char_ok l k h⟩
            · rename_i h1
              rw [if_neg h1] at h
              split
              · rename_i h1; rw [if_pos h1] at h; exact ⟨_, rfl, ref_ok 38 l k h⟩
              · rename_i h38
                rw [if_neg h38] at h
                unfold textTok at h ⊢
                split
                · rename_i h1; rw [if_pos h1] at h; cases h
                · have hd : l.drop k = l[k] :: l.drop (k + 1) := List.drop_eq_getElem_cons hk
                  have hin : inTx l[k] = true := by
                    rw [pre_one, List.getElem?_eq_getElem hk] at h60 h38
                    have n60 : l[k] ≠ 60 := by simpa using h60
                    have n38 : l[k] ≠ 38 := by simpa using h38
                    simp [inTx, n60, n38]
                  have h1 : 0 < (txt (l.drop k)).length := by rw [hd, txt_cons hin]; simp
                  have h2 := txt_le (l.drop k)
                  rw [List.length_drop] at h2
                  exact ⟨_, rfl, by omega, by omega⟩
theorem nextOut_ok (l : List UInt8) (k : Nat) (hk : k < l.length) (h : (nextOut l k).2 = 0) : (nextOut l k).1.fro = (k : Int) ∧ ∃ t : Nat, (nextOut l k).1.to_ = (t : Int) ∧ k < t ∧ t ≤ l.length := by
  unfold nextOut at h ⊢
  split
  · rename_i h1; exact ⟨rfl, readTok_ok l k hk h1⟩
  · rename_i h1; rw [if_neg h1] at h; exact absurd h h1
/-- All tokens from a place on, behind those read so far. -/
def allR (l : List UInt8) : Nat → List TokL → Nat → List TokL × Nat × Nat
  | 0, _, _ => ([], 0, 0)
  | f + 1, acc, t => if t < l.length then (if (nextOut l t).2 = 0 then allR l f (acc ++ [(nextOut l t).1]) (nextOut l t).1.to_.toNat else ([], t, (nextOut l t).2)) else (acc, t, 0)
def allOut (l : List UInt8) : List TokL × Nat × Nat := allR l (l.length + 1) [] 0
theorem all_end {l : List UInt8} {f t : Nat} {acc : List TokL} (h : ¬ t < l.length) : allR l (f + 1) acc t = (acc, t, 0) := by rw [allR, if_neg h]
theorem all_bad {l : List UInt8} {f t : Nat} {acc : List TokL} (h : t < l.length) {e : Nat} (he : (nextOut l t).2 = e) (h0 : e ≠ 0) : allR l (f + 1) acc t = ([], t, e) := by
  rw [allR, if_pos h, if_neg (by rw [he]; exact h0), he]
theorem all_more {l : List UInt8} {f t u : Nat} {acc : List TokL} {k : TokL} (h : t < l.length) (he : nextOut l t = (k, 0)) (hu : k.to_ = (u : Int)) : allR l (f + 1) acc t = allR l f (acc ++ [k]) u := by
  rw [allR, if_pos h, if_pos (by rw [he]), he, hu, Int.toNat_natCast]
end Go.Proofs.YtmclngahdklfkaaGreatDoor
/- Rows of tokens where they lie. -/
namespace Go.Proofs.YtmclngahdklfkaaGreatDoor
open Go.ChangeShapes Go.WideShapes Go.ChangeAt Go.RowKit
set_option linter.unusedVariables false
/-- A token where it lies, its row of attributes with it. -/
structure TokV where
  t : TokL
  A : Option Addr
  n : Nat
  c : Nat
def TokV.cells (v : TokV) : List Value := [.int .i64 v.t.kind, .int .i64 v.t.fro, .int .i64 v.t.to_, .string ⟨v.t.name.toArray⟩, .string ⟨v.t.text.toArray⟩, .slice v.A v.n v.c, .int .i64 v.t.r]
def cellsK (vs : List TokV) : List Value := vs.flatMap TokV.cells
theorem cellsK_length (vs : List TokV) : (cellsK vs).length = vs.length * 7 := by
  induction vs with
  | nil => rfl
  | cons v vs ih =>
    have : cellsK (v :: vs) = v.cells ++ cellsK vs := rfl
    rw [this, List.length_append, ih]
    simp [TokV.cells]
    omega
theorem cellsK_snoc (vs : List TokV) (v : TokV) : cellsK (vs ++ [v]) = cellsK vs ++ v.cells := by simp [cellsK]
theorem cellsK_get : ∀ (vs : List TokV) (i : Nat) (v : TokV), vs[i]? = some v → ∀ (j : Nat) u, v.cells[j]? = some u → (cellsK vs)[i * 7 + j]? = some u
  | [], i, v, h, j, u, hu => by simp at h
  | x :: vs, 0, v, h, j, u, hu => by
    simp at h
    subst h
    have e : cellsK (x :: vs) = x.cells ++ cellsK vs := rfl
    have hj : j < x.cells.length := (List.getElem?_eq_some_iff.1 hu).1
    rw [e, Nat.zero_mul, Nat.zero_add, List.getElem?_append_left hj]
    exact hu
  | x :: vs, i + 1, v, h, j, u, hu => by
    have e : cellsK (x :: vs) = x.cells ++ cellsK vs := rfl
    have hx : x.cells.length = 7 := rfl
    rw [e, List.getElem?_append_right (by rw [hx]; omega), hx, show (i + 1) * 7 + j - 7 = i * 7 + j by omega]
    exact cellsK_get vs i v (by simpa using h) j u hu
/-- A row of tokens that can be read. -/
structure TRd (w : World) (B : Nat) (A : Option Addr) (n cap : Nat) (vs : List TokV) : Prop where
  len : vs.length = n
  le : n ≤ cap
  fit : cap ≤ maxLen
  nil : A = none → cap = 0
  at_ : 0 < cap → ∃ b o, A = some ⟨b, o, none⟩ ∧ b < B ∧ ∀ i v, vs[i]? = some v → ∀ (j : Nat) u, v.cells[j]? = some u → w.cell? ⟨b, o + (i * 7 + j), none⟩ = some u
  prs : ∀ v ∈ vs, PRd w B v.A v.n v.c v.t.pairs
theorem TRd.keep {w w' : World} {B n cap : Nat} {A : Option Addr} {vs : List TokV} (h : TRd w B A n cap vs) (hk : ∀ p : Addr, p.block < B → w'.cell? p = w.cell? p) : TRd w' B A n cap vs :=
  ⟨h.len, h.le, h.fit, h.nil, fun h0 => by
    obtain ⟨b, o, e, hb, hc⟩ := h.at_ h0
    exact ⟨b, o, e, hb, fun i v hv j u hu => (hk ⟨b, _, none⟩ hb).trans (hc i v hv j u hu)⟩, fun v hv => (h.prs v hv).keep hk⟩
theorem TRd.more {w : World} {B B' n cap : Nat} {A : Option Addr} {vs : List TokV} (h : TRd w B A n cap vs) (hB : B ≤ B') : TRd w B' A n cap vs :=
  ⟨h.len, h.le, h.fit, h.nil, fun h0 => by
    obtain ⟨b, o, e, hb, hc⟩ := h.at_ h0
    exact ⟨b, o, e, by omega, hc⟩, fun v hv => (h.prs v hv).more hB⟩
theorem TRd.below {w w' : World} {B n cap : Nat} {A : Option Addr} {vs : List TokV} (h : TRd w B A n cap vs) (hb : Below B w w') : TRd w' B A n cap vs := h.keep fun p hp => hb.cell hp
theorem TRd.up {w w' : World} {n cap : Nat} {A : Option Addr} {vs : List TokV} (h : TRd w w.heap.size A n cap vs) (hb : Below w.heap.size w w') : TRd w' w'.heap.size A n cap vs := (h.below hb).more hb.size
theorem TRd.drewN {w : World} {B n cap k : Nat} {A : Option Addr} {vs : List TokV} (h : TRd w B A n cap vs) : TRd (w.drewN k) B A n cap vs := h.keep (w' := w.drewN k) fun _ _ => rfl
theorem TRd.nilR (w : World) (B : Nat) : TRd w B none 0 0 [] := ⟨rfl, Nat.le_refl _, Nat.zero_le _, fun _ => rfl, fun h => absurd h (by omega), fun v hv => by cases hv⟩
theorem TRd.ofOwn {w : World} {base : Nat} {e : TypeId} {v : Value} {n : Nat} {vs : List TokV} (h : w.ownsRow base e 7 v n (cellsK vs)) (hp : ∀ v ∈ vs, PRd w w.heap.size v.A v.n v.c v.t.pairs) : ∃ A c, v = .slice A n c ∧ TRd w w.heap.size A n c vs := by
  obtain ⟨hl, h2 | ⟨g, cap, cur, hv, hg, hh, hn, hc, hs, ht⟩⟩ := h
  · obtain ⟨hv, hn⟩ := h2
    subst hn
    rw [cellsK_length] at hl
    have : vs = [] := List.length_eq_zero_iff.1 (by omega)
    subst this
    exact ⟨none, 0, hv, TRd.nilR w _⟩
  · rw [cellsK_length] at hl
    refine ⟨_, cap, hv, by omega, hn, hc, (fun e => by cases e), fun _ => ⟨g, 0, rfl, lt_of hh, fun i p hp j u hu => ?_⟩, hp⟩
    have hi : i < vs.length := (List.getElem?_eq_some_iff.1 hp).1
    have hj : j < 7 := (List.getElem?_eq_some_iff.1 hu).1
    have hcp := cellsK_get vs i p hp j u hu
    rw [← ht, List.getElem?_take_of_lt (by omega)] at hcp
    rw [cell_of _ hh, Nat.zero_add]
    simpa using hcp
/-- The token at a place of a row: its seven cells, its attributes. -/
theorem TRd.cell {w : World} {B n cap : Nat} {A : Option Addr} {vs : List TokV} {i : Nat} (h : TRd w B A n cap vs) (hi : i < n) :
    ∃ b o v, A = some ⟨b, o, none⟩ ∧ b < B ∧ vs[i]? = some v ∧ (∀ (j : Nat) u, v.cells[j]? = some u → w.cell? ⟨b, o + (i * 7 + j), none⟩ = some u) ∧ PRd w B v.A v.n v.c v.t.pairs := by
  obtain ⟨b, o, e, hb, hc⟩ := h.at_ (by have := h.le; omega)
  have hl : i < vs.length := by rw [h.len]; exact hi
  have hp := List.getElem?_eq_getElem hl
  exact ⟨b, o, vs[i], e, hb, hp, hc i _ hp, h.prs _ (List.mem_of_getElem? hp)⟩
theorem cell_newN (w : World) (us : List Value) (T : TypeId) : ∀ (j : Nat) (v : Value), us[j]? = some v → (w.alloc (.cells us.toArray T)).cell? ((⟨w.heap.size, 0, none⟩ : Addr).add j) = some v := by
  intro j v hv
  rw [addr_add, cell_of _ (hp_new _ _)]
  simpa using hv
/-- While a row of tokens grows: below w all as it was; the row's own block from base on; the tokens' attributes elsewhere. -/
structure GrowT (T : TypeId) (w wr : World) (base : Nat) (v : Value) (vs : List TokV) : Prop where
  below : Below w.heap.size w wr
  base0 : w.heap.size ≤ base
  base1 : base ≤ wr.heap.size
  own : wr.ownsRow base T 7 v vs.length (cellsK vs)
  prs : ∀ x ∈ vs, PRd wr wr.heap.size x.A x.n x.c x.t.pairs
  off : ∀ x ∈ vs, 0 < x.c → ∀ b i, x.A = some ⟨b, i, none⟩ → some b ≠ v.ownBlock
theorem GrowT.start (T : TypeId) (w : World) : GrowT T w w w.heap.size (.slice none 0 0) [] :=
  ⟨Below.refl _ _, Nat.le_refl _, Nat.le_refl _, ⟨rfl, .inl ⟨rfl, rfl⟩⟩, fun x hx => (by cases hx), fun x hx => (by cases hx)⟩
theorem ownBlock_lt {w : World} {base : Nat} {e : TypeId} {c n : Nat} {v : Value} {xs : List Value} (h : w.ownsRow base e c v n xs) {b : Nat} (hb : v.ownBlock = some b) : b < w.heap.size ∧ base ≤ b := by
  obtain ⟨hl, ⟨hv, _⟩ | ⟨g, cap, cur, hv, hg, hh, r⟩⟩ := h
  · rw [hv] at hb; simp [Value.ownBlock] at hb
  · rw [hv] at hb; simp [Value.ownBlock] at hb; subst hb; exact ⟨lt_of hh, hg⟩
theorem GrowT.kept {T : TypeId} {w wr w' : World} {base : Nat} {v : Value} {vs : List TokV} (h : GrowT T w wr base v vs) (hb : Below wr.heap.size wr w') : GrowT T w w' base v vs :=
  ⟨h.below.trans (hb.mono h.below.size), h.base0, by have := h.base1; have := hb.size; omega, ownsRow_keep h.own fun g _ hg => hb.block g hg, fun x hx => ((h.prs x hx).below hb).more hb.size, h.off⟩
theorem PRd.moveC {w w' : World} {B B' n cap : Nat} {A : Option Addr} {ps : List PairL} (h : PRd w B A n cap ps) (hB : B ≤ B') (hk : 0 < cap → ∀ b i, A = some ⟨b, i, none⟩ → b < B → w'.heap[b]? = w.heap[b]?) : PRd w' B' A n cap ps := by
  by_cases h0 : 0 < cap
  · exact h.move hB (hk h0)
  · exact ⟨h.len, h.le, h.fit, h.nil, fun h1 => absurd h1 h0⟩
/-- One token more: its attributes lie in no block of the row's. -/
theorem GrowT.appended {T : TypeId} {w wr w' : World} {base : Nat} {v v' : Value} {vs : List TokV} {x : TokV} {us : Array Value} (h : GrowT T w wr base v vs) (hx : PRd wr wr.heap.size x.A x.n x.c x.t.pairs) (hoff : 0 < x.c → ∀ b i, x.A = some ⟨b, i, none⟩ → some b ≠ v.ownBlock)
    (hown : w'.ownsRow base T 7 v' (vs.length + 1) (cellsK vs ++ x.cells)) (hg : (wr.alloc (.cells us T)).grownBy w' v.ownBlock) (hat : v'.ownBlock = v.ownBlock ∨ v'.ownBlock = some (wr.heap.size + 1)) : GrowT T w w' base v' (vs ++ [x]) := by
  have hsz := hg.size
  rw [World.size_alloc] at hsz
  have hbl : ∀ b, b < wr.heap.size → some b ≠ v.ownBlock → w'.heap[b]? = wr.heap[b]? := fun b hb hne => by
    rw [hg.block b (by rw [World.size_alloc]; omega) hne, Below.heap_alloc _ _ _ hb]
  have hpr : ∀ y : TokV, PRd wr wr.heap.size y.A y.n y.c y.t.pairs → (0 < y.c → ∀ b i, y.A = some ⟨b, i, none⟩ → some b ≠ v.ownBlock) → PRd w' w'.heap.size y.A y.n y.c y.t.pairs := fun y hy ho =>
    hy.moveC (by omega) fun h0 b i hA hb => hbl b hb (ho h0 b i hA)
  have hof : ∀ y : TokV, PRd wr wr.heap.size y.A y.n y.c y.t.pairs → (0 < y.c → ∀ b i, y.A = some ⟨b, i, none⟩ → some b ≠ v.ownBlock) → 0 < y.c → ∀ b i, y.A = some ⟨b, i, none⟩ → some b ≠ v'.ownBlock := fun y hy ho h0 b i hA => by
    rcases hat with e | e
    · rw [e]; exact ho h0 b i hA
    · rw [e]
      intro hh
      obtain ⟨b2, o, e2, hb2, _⟩ := hy.at_ h0
      rw [hA] at e2
      cases e2
      cases hh
      omega
  refine ⟨(h.below.alloc h.below.size (.cells us T)).grown hg (by rw [World.size_alloc]; have := h.below.size; omega) fun k hk => ?_, h.base0, by have := h.base1; omega, by rw [List.length_append, cellsK_snoc]; exact hown, ?_, ?_⟩
  · exact Nat.le_trans h.base0 (ownBlock_lt h.own hk).2
  · intro y hy
    rcases List.mem_append.1 hy with hy | hy
    · exact hpr y (h.prs y hy) (h.off y hy)
    · rw [List.mem_singleton] at hy; subst hy; exact hpr y hx hoff
  · intro y hy
    rcases List.mem_append.1 hy with hy | hy
    · exact hof y (h.prs y hy) (h.off y hy)
    · rw [List.mem_singleton] at hy; subst hy; exact hof y hx hoff
end Go.Proofs.YtmclngahdklfkaaGreatDoor
/- strings.IndexRune of '<' and '&', at any character that is not ASCII. -/
namespace Go.Proofs.YtmclngahdklfkaaGreatDoor
open Go.ChangeShapes Go.WideShapes Go.ChangeAt Go.RowKit
set_option linter.unusedVariables false
set_option maxRecDepth 100000 in
set_option maxHeartbeats 1000000 in
theorem indexRune_wideA (r : Int) (w : World) (h0 : 128 ≤ r) (h1 : r ≤ 1114111) :
    Calls Tryz.prog 106 #[.string ⟨#[60, 38]⟩, .int .i32 r] w fun e w' => e = .returned (.int .i64 (-1)) ∧ Below w.heap.size w w' := by
  have H1 := Lib.hid h1
  clear h1
  by_cases hE : r = 65533
  · subst hE
    clear H1 h0
    go_enter Tryz.func106, Tryz.ntmps106
    go_wp2_with fail
    go_loopg [5, 6] 2 (fun g _ _ wx => ∃ i : Nat, i + g = 2 ∧ wx = w.iter ⟨#[60, 38]⟩ i)
    case atStart => exact ⟨0, by omega, rfl⟩
    case round =>
      obtain ⟨i, hig, rfl⟩ := hrel
      cases gk with
      | zero =>
        obtain rfl : i = 2 := by omega
        have hnx := fun ty => run_next_end (P := Tryz.prog) w ⟨#[60, 38]⟩ 2 ty (by decide)
        go_wp2
        go_ret
        exact ⟨rfl, (Below.refl _ _).alloc (Nat.le_refl _) _⟩
      | succ g =>
        have hi : i = 0 ∨ i = 1 := by omega
        rcases hi with rfl | rfl
        · have hnx := fun ty => run_next_ascii (P := Tryz.prog) w ⟨#[60, 38]⟩ 0 ty (by decide) (by decide)
          rw [show ((⟨#[60, 38]⟩ : ByteArray)[0]'(by decide)).toNat = 60 by rfl] at hnx
          go_wp2
          go_roundg g
          case measure => omega
          case rel => exact ⟨1, by omega, rfl⟩
        · have hnx := fun ty => run_next_ascii (P := Tryz.prog) w ⟨#[60, 38]⟩ 1 ty (by decide) (by decide)
          rw [show ((⟨#[60, 38]⟩ : ByteArray)[1]'(by decide)).toNat = 38 by rfl] at hnx
          go_wp2
          go_roundg g
          case measure => omega
          case rel => exact ⟨2, by omega, rfl⟩
  · have hE' : (r == 65533) = false := by simp [hE]
    have HE := Lib.hid hE
    clear hE
    have cV := fun W => Tryz.utf8_ValidRune r W
    cases hv : Lib.validRune r
    · go_enter Tryz.func106, Tryz.ntmps106
      go_wp2_with fail
      refine (cV _).mono ?_
      rintro e w1 ⟨rfl, rfl⟩
      rw [hv]
      go_wp2
      go_ret
      exact ⟨rfl, Below.refl _ _⟩
    · go_enter Tryz.func106, Tryz.ntmps106
      go_wp2_with fail
      refine (cV _).mono ?_
      rintro e w1 ⟨rfl, rfl⟩
      rw [hv]
      have kv := fun W => run_convert_int_string (P := Tryz.prog) W 21 9 .i32 r (by kernel_rfl) (by kernel_rfl)
      have he := enc_cases r h0
      generalize Utf8.encode r = z at *
      clear h0 H1 HE hE' cV hv
      rcases he with ⟨a, b, rfl, hb⟩ | ⟨a, b, c, rfl⟩ | ⟨a, b, c, d, rfl⟩
      · have h38 : ¬ (38 : Int) = (b.toNat : Int) := by omega
        have h38' : ((38 : Int) == (b.toNat : Int)) = false := by simp; omega
        have hz : (⟨#[a, b]⟩ : ByteArray).size = 2 := rfl
        go_wp2_with fail
        go_step3
        go_wp2_with fail
        refine wp_loop_rounds 1 ?_
        rw [rounds_succ]
        go_wp2_with fail
        go_step3
        have i1 : ((⟨#[60, 38]⟩ : ByteArray)[1]'(by decide)).toNat = 38 := rfl
        have i2 : ((⟨#[a, b]⟩ : ByteArray)[1]'(by show 1 < 2; omega)).toNat = b.toNat := rfl
        go_wp2_with fail
        go_quiet (fail)
        have hB : Below w1.heap.size w1 (w1.drewN nq) := below_drewN' (Below.refl _ _)
        generalize w1.drewN nq = wq at *
        go_wp2_with fail
        go_quiet ((go_at_call 143; exact Calls.quiet_of_same (Tryz.strings_IndexByte _ _ _)))
        have hB2 : Below w1.heap.size w1 (wq.drewN nq) := below_drewN' hB
        generalize wq.drewN nq = wr at *
        go_wp2_with fail
        simp only [Exit.inBlock, Exit.then, Exit.noGoto_ret]
        go_ret
        exact ⟨rfl, hB2⟩
      · go_wp2_with fail
        go_step3
        go_wp2_with fail
        refine wp_loop_rounds 1 ?_
        rw [rounds_succ]
        go_wp2_with fail
        rw [Exit.noGoto_ret]
        go_ret
        exact ⟨rfl, Below.refl _ _⟩
      · go_wp2_with fail
        go_step3
        go_wp2_with fail
        refine wp_loop_rounds 1 ?_
        rw [rounds_succ]
        go_wp2_with fail
        rw [Exit.noGoto_ret]
        go_ret
        exact ⟨rfl, Below.refl _ _⟩
end Go.Proofs.YtmclngahdklfkaaGreatDoor
/- bytes.IndexAny of '<' and '&': the set. -/
namespace Go.Proofs.YtmclngahdklfkaaGreatDoor
open Go.ChangeShapes Go.WideShapes Go.ChangeAt Go.RowKit
set_option linter.unusedVariables false
/-- '<' and '&'. -/
def amL : List UInt8 := [60, 38]
theorem am_no (b : UInt8) (h : 128 ≤ b.toNat) : amL.contains b = false := by
  have h1 : b ≠ 60 := fun e => by subst e; simp at h
  have h2 : b ≠ 38 := fun e => by subst e; simp at h
  simp [amL, h1, h2]
theorem noAny_am {s : List UInt8} {i m : Nat} (h : Lib.NoAny s amL i) (hm : ∀ j b, i ≤ j → j < m → s[j]? = some b → 128 ≤ b.toNat) : Lib.NoAny s amL m := fun j b hj hb => by
  by_cases e : j < i
  · exact h j b e hb
  · exact am_no b (hm j b (by omega) hj hb)
theorem inTx_am (c : UInt8) : inTx c = !amL.contains c := by
  unfold inTx
  simp only [amL, List.contains_cons, List.contains_nil, Bool.or_false]
  by_cases h1 : c = 60 <;> by_cases h2 : c = 38 <;> simp [h1, h2]
theorem ix_txt : ∀ l : List UInt8, Lib.indexAny l amL = if (txt l).length < l.length then ((txt l).length : Int) else -1
  | [] => by simp [Lib.indexAny, txt]
  | c :: t => by
    unfold Lib.indexAny
    cases h : amL.contains c with
    | true =>
      rw [if_pos rfl, txt_stop (by rw [inTx_am, h]; rfl)]
      simp
    | false =>
      rw [if_neg (by simp), txt_cons (by rw [inTx_am, h]; rfl), ix_txt t]
      have hle := txt_le t
      simp only [List.length_cons]
      by_cases h1 : (txt t).length < t.length
      · have h2 : (txt t).length + 1 < t.length + 1 := by omega
        rw [if_pos h1, if_pos h2]
        split
        · rename_i h3
          have := eq_of_beq h3
          omega
        · omega
      · have h2 : ¬ (txt t).length + 1 < t.length + 1 := by omega
        rw [if_neg h1, if_neg h2]
        rfl
set_option maxRecDepth 100000 in
set_option maxHeartbeats 1000000 in
theorem useSet_c (n : Int) (w : World) : Calls Tryz.prog 137 #[.int .i64 n] w fun e w' => e = .returned (.bool (decide (8 < n))) ∧ w' = w := by
  go_enter Tryz.func137, Tryz.ntmps137
  go_wp2
  go_ret
  exact ⟨rfl, rfl⟩
theorem results_cell2 {P : Program} {fn : Func} {p u : Tmp} {ty : TypeId} (h : fn.results = #[.cell p ty, .tmp u]) (tmps : Array Value) (w : World) (g : Nat) (t : TypeId) (cs : Array Value) (fr : Nat × Nat) (d : TypeDesc)
    (hp : tmps.getD p undef = .pointer (some ⟨g, 0, none⟩)) (hg : w.heap[g]? = some (.cells cs t fr))
    (hu : P.underlying ty = some d) (hd : (match d with | .struct _ | .array _ _ => true | _ => false) = true) (hi : (P.info? ty).map (·.size) = some cs.size) :
    (results fn tmps).run P w = .ok (.tuple #[.agg cs, tmps.getD u undef]) w := by
  have hp' : tmps[p]?.getD undef = .pointer (some ⟨g, 0, none⟩) := by simpa using hp
  simp [results, h, hp', asAddr, run_loadVar_row w g t ty cs fr d hg hu hd hi]
theorem set_info : (Tryz.prog.info? 157).map (fun i => (i.zero, i.size)) = some (some (.agg (Array.replicate 256 (.bool false))), 256) := by kernel_rfl
set_option maxRecDepth 100000 in
set_option maxHeartbeats 8000000 in
theorem amSet_c (w : World) : Calls Tryz.prog 138 #[.string ⟨#[60, 38]⟩] w fun e w' => e = .returned (.tuple #[.agg (Lib.setCells amL), .bool true]) ∧ w' = w.alloc (.cells (Lib.setCells amL) 157) := by
  have hv := (zero_of_info (P := Tryz.prog) set_info).1
  have hi := (zero_of_info (P := Tryz.prog) set_info).2
  have hu := Tryz.underlying157
  have g0 : (⟨#[60, 38]⟩ : ByteArray)[0].toNat = 60 := rfl
  have g1 : (⟨#[60, 38]⟩ : ByteArray)[1].toNat = 38 := rfl
  go_enter Tryz.func138, Tryz.ntmps138
  go_wp2
  rw [← Lib.setCells_nil]
  go_loopg [4] 2 (fun g s4 wx => ∃ i : Nat, i + g = 2 ∧ s4 = .int .i64 i ∧ wx = w.alloc (.cells (Lib.setCells (amL.take i)) 157))
  case atStart => exact ⟨0, by omega, rfl, rfl⟩
  case round =>
    obtain ⟨i, hig, rfl, rfl⟩ := hrel
    cases gk with
    | zero =>
      obtain rfl : i = 2 := by omega
      rw [show amL.take 2 = amL from rfl]
      have hld := run_loadVar_new (P := Tryz.prog) w 157 (Lib.setCells amL) 256 _ hu (by rw [Lib.setCells_size]; exact hi)
      have hsz := Lib.setCells_size amL
      have hlc := run_loadCellsFrom_new (P := Tryz.prog) w 157 (Lib.setCells amL) 256 hsz
      have hsc := run_storeCells_new (P := Tryz.prog) w 157 (Lib.setCells amL) (Lib.setCells amL) (by rw [hsz]; exact hi) rfl (Lib.setCells_one _)
      have hW := hp_new w (.cells (Lib.setCells amL) 157)
      obtain ⟨S, hS⟩ : ∃ S, Lib.setCells amL = S := ⟨_, rfl⟩
      rw [hS] at hld hlc hsc hsz hW ⊢
      have HS := Lib.hid hS
      clear hS
      go_wp2_with (first | (refine wpList_load_row rfl _ _ rfl w.heap.size rfl _ _ _ _ hW hu rfl (by rw [hi, hsz]) ?_) | (refine wpList_store_row rfl _ _ _ rfl w.heap.size S rfl rfl _ _ hW hsz.symm rfl (by rw [hi, hsz]) ?_))
      (try simp only [Exit.inBlock, Exit.then])
      exact bodyPost_ret (results_cell2 rfl _ _ w.heap.size _ _ _ _ rfl hW hu rfl (by rw [hi, hsz])) rfl ⟨by rw [HS.out]; rfl, by rw [HS.out]⟩
    | succ g =>
      have hi2 : i = 0 ∨ i = 1 := by omega
      rcases hi2 with rfl | rfl
      · have hcell := Lib.setCells_at [] 60
        go_wp2
        go_roundg g
        case measure => omega
        case rel => exact ⟨1, by omega, rfl, by rw [show amL.take 1 = [] ++ [60] from rfl, Lib.setCells_snoc]; rfl⟩
      · have hcell := Lib.setCells_at [60] 38
        go_wp2
        go_roundg g
        case measure => omega
        case rel => exact ⟨2, by omega, rfl, by rw [show amL.take 2 = [60] ++ [38] from rfl, Lib.setCells_snoc]; rfl⟩
set_option maxRecDepth 100000 in
set_option maxHeartbeats 1000000 in
theorem setHas_c (b : Nat) (x : UInt8) (v : Bool) (w : World) (hc : w.cell? ⟨b, x.toNat, none⟩ = some (.bool v)) :
    Calls Tryz.prog 139 #[.pointer (some ⟨b, 0, none⟩), .int .u8 x.toNat] w fun e w' => e = .returned (.bool v) ∧ w' = w := by
  have hx256 : (x.toNat : Int) < 256 := by have := UInt8.toNat_lt x; omega
  go_enter Tryz.func139, Tryz.ntmps139
  go_wp2
  go_ret
  exact ⟨rfl, rfl⟩
end Go.Proofs.YtmclngahdklfkaaGreatDoor
/- strings.ContainsAny of '<' and '&', at any string. -/
namespace Go.Proofs.YtmclngahdklfkaaGreatDoor
open Go.ChangeShapes Go.WideShapes Go.ChangeAt Go.RowKit
set_option linter.unusedVariables false
theorem containsAny_am_all (s : List UInt8) : Lib.containsAny s amL = (s.any fun c => amL.contains c) := by
  rw [Bool.eq_iff_iff]
  unfold Lib.containsAny
  rw [decide_eq_true_eq, List.any_eq_true]
  constructor
  · intro h
    false_or_by_contra
    rename_i hn
    have : Lib.NoAny s amL s.length := fun j b _ hb => by
      cases hc : amL.contains b with
      | false => rfl
      | true => exact absurd ⟨b, List.mem_of_getElem? hb, hc⟩ hn
    rw [Lib.indexAny_none this] at h
    omega
  · rintro ⟨c, hc, hq⟩
    false_or_by_contra
    rename_i hn
    have key : ∀ s : List UInt8, c ∈ s → 0 ≤ Lib.indexAny s amL := by
      intro s
      induction s with
      | nil => intro h; cases h
      | cons b l ih =>
        intro h
        unfold Lib.indexAny
        split
        · omega
        · rename_i hb
          have hcl : c ∈ l := by
            cases h with
            | head => exact absurd hq hb
            | tail _ h => exact h
          have := ih hcl
          split
          · rename_i h2; have := eq_of_beq h2; omega
          · omega
    exact hn (key s hc)
set_option maxRecDepth 100000 in
set_option maxHeartbeats 4000000 in
theorem indexAny_am (s : List UInt8) (w : World) (hm : s.length ≤ 1000000) :
    Calls Tryz.prog 76 #[.string ⟨s.toArray⟩, .string ⟨#[60, 38]⟩] w fun e w' => e = .returned (.int .i64 (Lib.indexAny s amL)) ∧ Below w.heap.size w w' := by
  have hss : (⟨s.toArray⟩ : ByteArray).size = s.length := by simp [ByteArray.size]
  by_cases h8 : s.length ≤ 8
  · have h8z : decide ((8 : Int) < (s.length : Int)) = false := decide_eq_false (by omega)
    have HSS := Lib.hid hss
    have HG : Hid (∀ (i : Nat) (hi : i < s.length), (⟨s.toArray⟩ : ByteArray)[i]'(by rw [HSS.out]; exact hi) = s[i]) := Lib.hid fun i hi => rfl
    have CW : Hid (∀ (r : Int) W, 128 ≤ r → r ≤ 1114111 → Calls Tryz.prog 106 #[.string ⟨#[60, 38]⟩, .int .i32 r] W fun e w' => e = .returned (.int .i64 (-1)) ∧ Below W.heap.size W w') := Lib.hid fun r W h0 h1 => indexRune_wideA r W h0 h1
    have CA : Hid (∀ (r : Int) W, 0 ≤ r → r < 128 → Calls Tryz.prog 106 #[.string ⟨#[60, 38]⟩, .int .i32 r] W fun e w' => e = .returned (.int .i64 (Lib.indexByte [60, 38] r.toNat.toUInt8)) ∧ w' = W) := Lib.hid fun r W h0 h1 => Tryz.strings_IndexRune_ascii ⟨#[60, 38]⟩ r W h0 h1
    have CS := Lib.hid fun (W : World) => Tryz.strings_shouldUseASCIISet (s.length : Int) W
    clear hss
    go_enter Tryz.func76, Tryz.ntmps76
    go_wp2_with fail
    refine (CS.out _).mono ?_
    rintro e w1 ⟨rfl, hw⟩
    rw [hw, h8z]
    clear hw w1
    go_wp2
    go_loopg [9, 10] s.length (fun g _ _ wx => ∃ i : Nat, i ≤ s.length ∧ Hid (g = s.length - i) ∧ wx.heap[w.heap.size]? = some (.stringIter ⟨s.toArray⟩ i) ∧ Hid (Below w.heap.size w wx) ∧ Hid (Lib.NoAny s amL i))
    case atStart => exact ⟨0, Nat.zero_le _, Lib.hid rfl, World.iter_heap _ _ _, Lib.hid ((Below.refl _ _).alloc (Nat.le_refl _) _), Lib.hid (Lib.NoAny.zero _ _)⟩
    case round =>
      obtain ⟨i, hi, hg, hit, HB, HN⟩ := hrel
      by_cases hil : i < s.length
      · have hnx := fun ty => run_next_at wr w.heap.size ⟨s.toArray⟩ i ty hit (by rw [HSS.out]; exact hil)
        have hc : (⟨s.toArray⟩ : ByteArray)[i]'(by rw [HSS.out]; exact hil) = s[i] := HG.out i hil
        have hx : s[i]? = some s[i] := List.getElem?_eq_getElem hil
        have hsp := decode_span ⟨s.toArray⟩ i (by rw [HSS.out]; exact hil)
        have hdh := decode_high ⟨s.toArray⟩ i (by rw [HSS.out]; exact hil)
        have hda := decode_ascii ⟨s.toArray⟩ i (by rw [HSS.out]; exact hil)
        have hdl := decode_uni ⟨s.toArray⟩ i
        rw [hc] at hsp hdh hda
        generalize s[i] = c at *
        by_cases hc128 : c.toNat < 128
        · rw [hda hc128] at hnx
          have CA1 := Lib.hid fun W => CA.out (c.toNat : Int) W (by omega) (by omega)
          have hct : ((c.toNat : Int)).toNat.toUInt8 = c := by simp
          rw [hct] at CA1
          have HX := Lib.hid hx
          have hat := itW_at (p := i + 1) hit
          have HB1 := Lib.hid (HB.out.trans (itW_below (W := wr) (b := w.heap.size) (p := i + 1) (s := ⟨s.toArray⟩)))
          clear hsp hdh hda hx hit hdl hc hct
          simp only at hnx
          generalize itW wr w.heap.size ⟨s.toArray⟩ (i + 1) = wi at *
          cases hq : amL.contains c with
          | true =>
            have HI := Lib.hid (Lib.indexAny_hit HN.out HX.out hq)
            have hge : (0 : Int) ≤ Lib.indexByte [60, 38] c := by
              have h1 : c = 60 ∨ c = 38 := by simpa [amL] using hq
              rcases h1 with rfl | rfl <;> decide
            go_wp2_with fail
            refine (CA1.out _).mono ?_
            rintro e w2 ⟨rfl, rfl⟩
            go_wp2
            go_ret
            rw [HI.out]
            exact ⟨rfl, HB1.out⟩
          | false =>
            have HN2 := Lib.hid (HN.out.succ HX.out hq)
            have hlt : ¬ ((0 : Int) ≤ Lib.indexByte [60, 38] c) := by
              have := Lib.contains_iff_indexByte amL c
              rw [hq] at this
              exact of_decide_eq_false this.symm
            go_wp2_with fail
            refine (CA1.out _).mono ?_
            rintro e w2 ⟨rfl, rfl⟩
            go_wp2
            go_roundg (s.length - (i + 1))
            case measure => have := hg.out; omega
            case rel => exact ⟨i + 1, by omega, Lib.hid rfl, hat, HB1, HN2⟩
        · have hc1 : 128 ≤ c.toNat := by omega
          have hs1 := hsp hc1
          have hd1 := hdh hc1
          generalize Utf8.decode ⟨s.toArray⟩ i = dc at *
          obtain ⟨r, m⟩ := dc
          simp only at hs1 hd1 hnx hdl
          have hr : r ≤ 1114111 := hdl
          have CW1 := Lib.hid fun W => CW.out (r : Int) W (by omega) (by omega)
          have HN2 : Hid (Lib.NoAny s amL (i + m)) := Lib.hid (noAny_am HN.out fun j b h1 h2 h3 => by
            obtain ⟨hj, hb⟩ := hs1.2 j h1 h2
            have hj' : j < s.length := by rw [← HSS.out]; exact hj
            rw [HG.out j hj'] at hb
            rw [List.getElem?_eq_getElem hj'] at h3
            cases h3
            exact hb)
          have him : i + m ≤ s.length := by rw [← HSS.out]; exact hs1.1
          have hat := itW_at (p := i + m) hit
          have HB1 := Lib.hid (HB.out.trans (itW_below (W := wr) (b := w.heap.size) (p := i + m) (s := ⟨s.toArray⟩)))
          have hm1 := hd1.2
          clear hsp hdh hda hx hit hdl hc hs1 hd1
          generalize itW wr w.heap.size ⟨s.toArray⟩ (i + m) = wi at *
          go_wp2_with fail
          refine (CW1.out _).mono ?_
          rintro e w2 ⟨rfl, hb2⟩
          have hat2 : w2.heap[w.heap.size]? = some (.stringIter ⟨s.toArray⟩ (i + m)) := (hb2.block _ (lt_of_it hat)).trans hat
          have HB2 := Lib.hid (HB1.out.trans (hb2.mono HB1.out.size))
          clear hat hb2
          go_wp2
          go_roundg (s.length - (i + m))
          case measure => have := hg.out; omega
          case rel => exact ⟨i + m, him, Lib.hid rfl, hat2, HB2, HN2⟩
      · have hnx := fun ty => run_next_end_at wr w.heap.size ⟨s.toArray⟩ i ty hit (by rw [HSS.out]; exact hil)
        have HI : Hid (Lib.indexAny s amL = -1) := Lib.hid (Lib.indexAny_none (by have := HN.out; rwa [show i = s.length by omega] at this))
        go_wp2
        go_ret
        rw [HI.out]
        exact ⟨rfl, HB.out⟩
  · have h2 : 2 ≤ (⟨#[60, 38]⟩ : ByteArray).size := by decide
    refine (Tryz.strings_IndexAny_long (zero_of_info (show (Tryz.prog.info? _).map (fun i => (i.zero, i.size)) = some (some (.agg (Array.replicate 256 (.bool false))), 256) by kernel_rfl)).1 ⟨s.toArray⟩ ⟨#[60, 38]⟩ w h2 (by rw [hss]; omega) (by rw [hss]; omega) (by decide) ?_).mono ?_
    · intro j b hb
      match j with
      | 0 => simp at hb; subst hb; decide
      | 1 => simp at hb; subst hb; decide
      | j + 2 => simp at hb
    · rintro e w' ⟨rfl, rfl⟩
      exact ⟨rfl, ((Below.refl _ _).alloc (Nat.le_refl _) _).alloc (by simp) _⟩
set_option maxRecDepth 100000 in
set_option maxHeartbeats 4000000 in
theorem containsAny_am (s : List UInt8) (w : World) (hm : s.length ≤ 1000000) :
    Calls Tryz.prog 44 #[.string ⟨s.toArray⟩, .string ⟨#[60, 38]⟩] w fun e w' => e = .returned (.bool (Lib.containsAny s amL)) ∧ Below w.heap.size w w' := by
  have C1 := Lib.hid (indexAny_am s w hm)
  have HC : Hid (Lib.containsAny s amL = decide (0 ≤ Lib.indexAny s amL)) := Lib.hid rfl
  rw [HC.out]
  clear hm
  generalize Lib.indexAny s amL = k at *
  go_enter Tryz.func44, Tryz.ntmps44
  go_wp2_with fail
  refine C1.out.mono ?_
  rintro e w1 ⟨rfl, hb⟩
  have B1 := Lib.hid hb
  clear hb
  go_wp2
  go_ret
  exact ⟨rfl, B1.out⟩
end Go.Proofs.YtmclngahdklfkaaGreatDoor
/- unicode/utf8.decodeRuneSlow of bytes that begin a character of more than one byte, or none. -/
namespace Go.Proofs.YtmclngahdklfkaaGreatDoor
open Go.ChangeShapes Go.WideShapes Go.ChangeAt Go.RowKit
set_option linter.unusedVariables false
theorem getB {l : List UInt8} {k : Nat} {c : UInt8} (h : l[k]? = some c) : (⟨l.toArray⟩ : ByteArray).get! k = c := by
  have hk := (List.getElem?_eq_some_iff.1 h).1
  have hs : (⟨l.toArray⟩ : ByteArray).size = l.length := by simp [ByteArray.size]
  rw [get_plus _ _ (by rw [hs]; exact hk)]
  have : (⟨l.toArray⟩ : ByteArray)[k]'(by rw [hs]; exact hk) = l[k] := rfl
  rw [this]
  rw [List.getElem?_eq_getElem hk] at h
  exact Option.some.inj h
/-- The bytes of a character of more than one byte. -/
def decU (l : List UInt8) : Nat × Nat := Utf8.decode ⟨l.toArray⟩ 0
set_option maxRecDepth 100000 in
set_option maxHeartbeats 8000000 in
theorem decSlow_c (b o n cap : Nat) (l : List UInt8) (w : World) (h : Byt w w.heap.size (some ⟨b, o, none⟩) n cap l) (hn : 0 < n) (hm : n ≤ 1000000) (hT : Lib.Utf8Tabs 8 9 w) (c0 : UInt8) (hc : l[0]? = some c0) (h128 : 128 ≤ c0.toNat) :
    Calls Tryz.prog 165 #[.slice (some ⟨b, o, none⟩) n cap] w fun e w' => e = .returned (.tuple #[.int .i32 (decU l).1, .int .i64 (decU l).2]) ∧ Below w.heap.size w w' := by
  have hln := h.length
  have hs : (⟨l.toArray⟩ : ByteArray).size = l.length := by simp [ByteArray.size]
  obtain ⟨x0, hx0⟩ : ∃ x0, (⟨l.toArray⟩ : ByteArray).get! 0 = x0 := ⟨_, rfl⟩
  obtain ⟨x1, hx1⟩ : ∃ x1, (⟨l.toArray⟩ : ByteArray).get! 1 = x1 := ⟨_, rfl⟩
  obtain ⟨x2, hx2⟩ : ∃ x2, (⟨l.toArray⟩ : ByteArray).get! 2 = x2 := ⟨_, rfl⟩
  obtain ⟨x3, hx3⟩ : ∃ x3, (⟨l.toArray⟩ : ByteArray).get! 3 = x3 := ⟨_, rfl⟩
  obtain rfl : x0 = c0 := hx0.symm.trans (getB hc)
  have l0 := x0.toNat_lt; have l1 := x1.toNat_lt; have l2 := x2.toNat_lt; have l3 := x3.toNat_lt
  have hbB : b < w.heap.size := by
    obtain ⟨b', o', c', e, hb, _⟩ := h.cell hn
    cases e
    exact hb
  have hcell : ∀ k, k < n → w.cell? ⟨b, o + k, none⟩ = some (.int .u8 ((⟨l.toArray⟩ : ByteArray).get! k).toNat) := fun k hk => by
    obtain ⟨b', o', c', e, hb, h1, h2⟩ := h.cell hk
    cases e
    rw [getB h1]
    exact h2
  have hdec : decU l = Lib.decodeN n x0.toNat x1.toNat x2.toNat x3.toNat := by
    unfold decU
    rw [Lib.decode_at, Nat.sub_zero, Nat.zero_add, Nat.zero_add, Nat.zero_add, hx0, hx1, hx2, hx3, hs, hln]
  rw [hdec]
  have hc0 := hT.1 x0.toNat (by omega)
  have hf0 := hcell 0 hn
  rw [hx0, Nat.add_zero] at hf0
  have hres : Lib.firstT x0.toNat < 240 → Lib.decodeN n x0.toNat x1.toNat x2.toNat x3.toNat = Lib.slowN n x0.toNat x1.toNat x2.toNat x3.toNat (Lib.firstT x0.toNat % 8) (Lib.accLo (Lib.firstT x0.toNat / 16)) (Lib.accHi (Lib.firstT x0.toNat / 16)) :=
    fun h => (Lib.slow_eq _ _ _ _ _ (by omega) (by omega) (by omega) (by omega) h).symm
  have hn0 : ¬ ((n : Int) < 1) := by omega
  have hn00 : (0 : Int) < (n : Int) := by omega
  have hf1 : 1 < n → w.cell? ⟨b, o + 1, none⟩ = some (.int .u8 x1.toNat) := fun h1 => by rw [hcell 1 h1, hx1]
  have hf2 : 2 < n → w.cell? ⟨b, o + 2, none⟩ = some (.int .u8 x2.toNat) := fun h1 => by rw [hcell 2 h1, hx2]
  have hf3 : 3 < n → w.cell? ⟨b, o + 3, none⟩ = some (.int .u8 x3.toNat) := fun h1 => by rw [hcell 3 h1, hx3]
  clear hcell hdec hx0 hx1 hx2 hx3 hc h hs hln
  rcases Lib.firstT_cases x0.toNat with hX | hX | hX | hX | hX | hX | hX | hX | hX
  · exfalso
    unfold Lib.firstT at hX
    rw [if_neg (by omega)] at hX
    repeat' split at hX
    all_goals omega
  · rw [Lib.bad_eq _ _ _ _ _ (by omega) hX]
    rw [hX] at hc0
    clear hres hT hX hf1 hf2 hf3
    go_enter Tryz.func165, Tryz.ntmps165
    go_wp2
    rw [Utf8W.mask241, Utf8W.drop_byte ⟨x0.toNat, l0⟩]
    go_ret2
    exact ⟨rfl, Below.refl _ _⟩
  all_goals replace hres := hres (by omega)
  · rw [hX] at hc0 hres
    have ha0 := (hT.2 0 (by omega)).1
    have ha1 := (hT.2 0 (by omega)).2
    simp only [Lib.accLo, Lib.accHi, Nat.reduceMul, Nat.reduceAdd, Nat.reduceEqDiff, if_true, if_false, Nat.reduceMod, Nat.reduceDiv] at ha0 ha1 hres
    rw [hres]
    clear hres hT hX
    by_cases hn : n < 2
    · have hnz : (n : Int) < 2 := by omega
      clear hf1 hf2 hf3
      go_enter Tryz.func165, Tryz.ntmps165
      go_wp2
      all_goals (go_ret2; refine ⟨?_, (Below.refl _ _).alloc (Nat.le_refl _) _⟩; utf8_leaf)
    · have hnz : ¬ ((n : Int) < 2) := by omega
      have hz1 : (1 : Int) < (n : Int) := by omega
      replace hf1 := hf1 (by omega)
      clear hf2 hf3
      go_enter Tryz.func165, Tryz.ntmps165
      go_wp2
      all_goals (go_ret2; refine ⟨?_, (Below.refl _ _).alloc (Nat.le_refl _) _⟩; utf8_leaf)
  · rw [hX] at hc0 hres
    have ha0 := (hT.2 1 (by omega)).1
    have ha1 := (hT.2 1 (by omega)).2
    simp only [Lib.accLo, Lib.accHi, Nat.reduceMul, Nat.reduceAdd, Nat.reduceEqDiff, if_true, if_false, Nat.reduceMod, Nat.reduceDiv] at ha0 ha1 hres
    rw [hres]
    clear hres hT hX
    by_cases hn : n < 3
    · have hnz : (n : Int) < 3 := by omega
      clear hf1 hf2 hf3
      go_enter Tryz.func165, Tryz.ntmps165
      go_wp2
      all_goals (go_ret2; refine ⟨?_, (Below.refl _ _).alloc (Nat.le_refl _) _⟩; utf8_leaf)
    · have hnz : ¬ ((n : Int) < 3) := by omega
      have hz1 : (1 : Int) < (n : Int) := by omega
      replace hf1 := hf1 (by omega)
      have hz2 : (2 : Int) < (n : Int) := by omega
      replace hf2 := hf2 (by omega)
      clear hf3
      go_enter Tryz.func165, Tryz.ntmps165
      go_wp2
      all_goals (go_ret2; refine ⟨?_, (Below.refl _ _).alloc (Nat.le_refl _) _⟩; utf8_leaf)
  · rw [hX] at hc0 hres
    have ha0 := (hT.2 0 (by omega)).1
    have ha1 := (hT.2 0 (by omega)).2
    simp only [Lib.accLo, Lib.accHi, Nat.reduceMul, Nat.reduceAdd, Nat.reduceEqDiff, if_true, if_false, Nat.reduceMod, Nat.reduceDiv] at ha0 ha1 hres
    rw [hres]
    clear hres hT hX
    by_cases hn : n < 3
    · have hnz : (n : Int) < 3 := by omega
      clear hf1 hf2 hf3
      go_enter Tryz.func165, Tryz.ntmps165
      go_wp2
      all_goals (go_ret2; refine ⟨?_, (Below.refl _ _).alloc (Nat.le_refl _) _⟩; utf8_leaf)
    · have hnz : ¬ ((n : Int) < 3) := by omega
      have hz1 : (1 : Int) < (n : Int) := by omega
      replace hf1 := hf1 (by omega)
      have hz2 : (2 : Int) < (n : Int) := by omega
      replace hf2 := hf2 (by omega)
      clear hf3
      go_enter Tryz.func165, Tryz.ntmps165
      go_wp2
      all_goals (go_ret2; refine ⟨?_, (Below.refl _ _).alloc (Nat.le_refl _) _⟩; utf8_leaf)
  · rw [hX] at hc0 hres
    have ha0 := (hT.2 2 (by omega)).1
    have ha1 := (hT.2 2 (by omega)).2
    simp only [Lib.accLo, Lib.accHi, Nat.reduceMul, Nat.reduceAdd, Nat.reduceEqDiff, if_true, if_false, Nat.reduceMod, Nat.reduceDiv] at ha0 ha1 hres
    rw [hres]
    clear hres hT hX
    by_cases hn : n < 3
    · have hnz : (n : Int) < 3 := by omega
      clear hf1 hf2 hf3
      go_enter Tryz.func165, Tryz.ntmps165
      go_wp2
      all_goals (go_ret2; refine ⟨?_, (Below.refl _ _).alloc (Nat.le_refl _) _⟩; utf8_leaf)
    · have hnz : ¬ ((n : Int) < 3) := by omega
      have hz1 : (1 : Int) < (n : Int) := by omega
      replace hf1 := hf1 (by omega)
      have hz2 : (2 : Int) < (n : Int) := by omega
      replace hf2 := hf2 (by omega)
      clear hf3
      go_enter Tryz.func165, Tryz.ntmps165
      go_wp2
      all_goals (go_ret2; refine ⟨?_, (Below.refl _ _).alloc (Nat.le_refl _) _⟩; utf8_leaf)
  · rw [hX] at hc0 hres
    have ha0 := (hT.2 3 (by omega)).1
    have ha1 := (hT.2 3 (by omega)).2
    simp only [Lib.accLo, Lib.accHi, Nat.reduceMul, Nat.reduceAdd, Nat.reduceEqDiff, if_true, if_false, Nat.reduceMod, Nat.reduceDiv] at ha0 ha1 hres
    rw [hres]
    clear hres hT hX
    by_cases hn : n < 4
    · have hnz : (n : Int) < 4 := by omega
      clear hf1 hf2 hf3
      go_enter Tryz.func165, Tryz.ntmps165
      go_wp2
      all_goals (go_ret2; refine ⟨?_, (Below.refl _ _).alloc (Nat.le_refl _) _⟩; utf8_leaf)
    · have hnz : ¬ ((n : Int) < 4) := by omega
      have hz1 : (1 : Int) < (n : Int) := by omega
      replace hf1 := hf1 (by omega)
      have hz2 : (2 : Int) < (n : Int) := by omega
      replace hf2 := hf2 (by omega)
      have hz3 : (3 : Int) < (n : Int) := by omega
      replace hf3 := hf3 (by omega)
      go_enter Tryz.func165, Tryz.ntmps165
      go_wp2
      all_goals (go_ret2; refine ⟨?_, (Below.refl _ _).alloc (Nat.le_refl _) _⟩; utf8_leaf)
  · rw [hX] at hc0 hres
    have ha0 := (hT.2 0 (by omega)).1
    have ha1 := (hT.2 0 (by omega)).2
    simp only [Lib.accLo, Lib.accHi, Nat.reduceMul, Nat.reduceAdd, Nat.reduceEqDiff, if_true, if_false, Nat.reduceMod, Nat.reduceDiv] at ha0 ha1 hres
    rw [hres]
    clear hres hT hX
    by_cases hn : n < 4
    · have hnz : (n : Int) < 4 := by omega
      clear hf1 hf2 hf3
      go_enter Tryz.func165, Tryz.ntmps165
      go_wp2
      all_goals (go_ret2; refine ⟨?_, (Below.refl _ _).alloc (Nat.le_refl _) _⟩; utf8_leaf)
    · have hnz : ¬ ((n : Int) < 4) := by omega
      have hz1 : (1 : Int) < (n : Int) := by omega
      replace hf1 := hf1 (by omega)
      have hz2 : (2 : Int) < (n : Int) := by omega
      replace hf2 := hf2 (by omega)
      have hz3 : (3 : Int) < (n : Int) := by omega
      replace hf3 := hf3 (by omega)
      go_enter Tryz.func165, Tryz.ntmps165
      go_wp2
      all_goals (go_ret2; refine ⟨?_, (Below.refl _ _).alloc (Nat.le_refl _) _⟩; utf8_leaf)
  · rw [hX] at hc0 hres
    have ha0 := (hT.2 4 (by omega)).1
    have ha1 := (hT.2 4 (by omega)).2
    simp only [Lib.accLo, Lib.accHi, Nat.reduceMul, Nat.reduceAdd, Nat.reduceEqDiff, if_true, if_false, Nat.reduceMod, Nat.reduceDiv] at ha0 ha1 hres
    rw [hres]
    clear hres hT hX
    by_cases hn : n < 4
    · have hnz : (n : Int) < 4 := by omega
      clear hf1 hf2 hf3
      go_enter Tryz.func165, Tryz.ntmps165
      go_wp2
      all_goals (go_ret2; refine ⟨?_, (Below.refl _ _).alloc (Nat.le_refl _) _⟩; utf8_leaf)
    · have hnz : ¬ ((n : Int) < 4) := by omega
      have hz1 : (1 : Int) < (n : Int) := by omega
      replace hf1 := hf1 (by omega)
      have hz2 : (2 : Int) < (n : Int) := by omega
      replace hf2 := hf2 (by omega)
      have hz3 : (3 : Int) < (n : Int) := by omega
      replace hf3 := hf3 (by omega)
      go_enter Tryz.func165, Tryz.ntmps165
      go_wp2
      all_goals (go_ret2; refine ⟨?_, (Below.refl _ _).alloc (Nat.le_refl _) _⟩; utf8_leaf)
end Go.Proofs.YtmclngahdklfkaaGreatDoor
