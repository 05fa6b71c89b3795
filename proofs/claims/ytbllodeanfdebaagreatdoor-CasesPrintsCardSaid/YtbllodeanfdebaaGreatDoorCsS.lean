/- Answers: a row of the call's own. -/
import Derived.Test.YtbllodeanfdebaaGreatDoorRows
import Derived.WalkKit
import Derived.ProofKit
import Derived.OpenShut
import Derived.ShutString
import Derived.ChangeOld
import Derived.Below
import Derived.BigQuiet
import Derived.Deep.QuietTactic
import Derived.Lib.Hide
import Derived.Deep.RegionHeld3
import Derived.Lib.SlBytesConst
import Derived.Laws.CopyOwn
import Derived.Laws.CopyRow
import Derived.Lib.Bytes
import Derived.Deep.LoopGhost
import Derived.Deep.DeepFit
import Derived.Deep.DeepMust
import Derived.WalkSpells
import Derived.WalkLawsBesides
import Derived.Laws.EntriesVeiled
import Derived.Laws.Rows
import Derived.Lib.Replace
import Derived.Lib.Split
import Derived.Lib.ItoaNum
import Derived.Lib.AtoiAllCases
import Derived.Lib.AtoiErrMem
import Derived.Lib.AppendIntMem
import Derived.Maps.OwnOps
import Derived.Maps.OwnSet
import Derived.Maps.Views
import Derived.Maps.AppendAt
import Derived.Deep.AppendLies
import Derived.Test.YtbllodeanfdebaaGreatDoorShelf
import Derived.Test.YtbllodeanfdebaaGreatDoorBase
import Derived.Test.YtbllodeanfdebaaGreatDoorCsE
import Derived.Test.YtbllodeanfdebaaGreatDoorCsG
import Derived.Test.YtbllodeanfdebaaGreatDoorCsH
import Derived.Test.YtbllodeanfdebaaGreatDoorCsI
import Derived.Test.YtbllodeanfdebaaGreatDoorCsJ
import Derived.Test.YtbllodeanfdebaaGreatDoorCalm
import Derived.Test.YtbllodeanfdebaaGreatDoorCsL
import Derived.Test.YtbllodeanfdebaaGreatDoorRowS
import Derived.Test.YtbllodeanfdebaaGreatDoorRowG
import Derived.Test.YtbllodeanfdebaaGreatDoorCsO
import Derived.Test.YtbllodeanfdebaaGreatDoorCsM
import Derived.Test.YtbllodeanfdebaaGreatDoorCsN2
import Derived.Test.YtbllodeanfdebaaGreatDoorStL
import Derived.Test.YtbllodeanfdebaaGreatDoorCsO2
import Derived.Test.YtbllodeanfdebaaGreatDoorCsQ
import Derived.Test.YtbllodeanfdebaaGreatDoorStr
import Derived.Test.YtbllodeanfdebaaGreatDoorCsR
namespace Go.Proofs.YtbllodeanfdebaaGreatDoor
open Go.ChangeShapes Go.WideShapes Go.ChangeAt Go.RowKit
set_option linter.unusedVariables false
theorem rd_keepAt {w w' : World} {B B' n cap : Nat} {A : Option Addr} {us : List Value} (h : Rd w B A n cap us) (hB : B ≤ B') (hk : ∀ p, A = some p → p.block < B → w'.heap[p.block]? = w.heap[p.block]?) : Rd w' B' A n cap us :=
  ⟨h.len, h.le, h.fit, h.nil, fun h0 => by
    obtain ⟨b, o, e, hb, hc⟩ := h.at_ h0
    exact ⟨b, o, e, by omega, fun i u hu => by rw [← hc i u hu]; exact World.cell?_of_block (w := w) (w' := w') (hk ⟨b, o, none⟩ e hb)⟩⟩
/-- An answer, and where its bytes lie. -/
structure AnV where
  a : AnsC
  A : Option Addr
  cap : Nat
def cAn (x : AnV) : List Value := [.string ⟨x.a.id.toArray⟩, .bool x.a.ok, .slice x.A x.a.data.length x.cap]
theorem cAn_len (x : AnV) : (cAn x).length = 3 := rfl
/-- A row of answers of the call's own. -/
structure OwnA (w : World) (base : Nat) (v : Value) (l : List AnV) : Prop where
  own : OwnC cAn 3 71 w base v l
  ok : ∀ x ∈ l, Byt w w.heap.size x.A x.a.data.length x.cap x.a.data
  apart : ∀ x ∈ l, ∀ p, x.A = some p → some p.block ≠ v.ownBlock
  low : ∀ x ∈ l, ∀ p, x.A = some p → base ≤ p.block
  inb : ∀ x ∈ l, ∀ p, x.A = some p → p.block < w.heap.size
theorem OwnA.start (w : World) (base : Nat) : OwnA w base (.slice none 0 0) [] := ⟨OwnC.start _ _ _ _ _, fun x hx => (by cases hx), fun x hx => (by cases hx), fun x hx => (by cases hx), fun x hx => (by cases hx)⟩
theorem OwnA.keep {w w' : World} {base : Nat} {v : Value} {l : List AnV} (h : OwnA w base v l) (hs : w.heap.size ≤ w'.heap.size) (hk : ∀ g, base ≤ g → g < w.heap.size → w'.heap[g]? = w.heap[g]?) : OwnA w' base v l :=
  ⟨h.own.keep hk, fun x hx => rd_keepAt (h.ok x hx) hs fun p hp hb => hk _ (h.low x hx p hp) hb, h.apart, h.low, fun x hx p hp => Nat.lt_of_lt_of_le (h.inb x hx p hp) hs⟩
theorem OwnA.kept {w w' : World} {base : Nat} {v : Value} {l : List AnV} (h : OwnA w base v l) (hb : Below w.heap.size w w') : OwnA w' base v l := h.keep hb.size fun g _ hg => hb.block g hg
theorem OwnA.gr {w w' : World} {base b : Nat} {v : Value} {l : List AnV} (h : OwnA w base v l) (hb : b < base) (hg : w.grownBy w' (some b)) : OwnA w' base v l := h.keep hg.size fun g h1 h2 => hg.block g h2 fun e => by have := Option.some.inj e; omega
theorem OwnA.snoc {w w' : World} {base : Nat} {v v' : Value} {l : List AnV} {x : AnV} {o : Obj} (h : OwnA w base v l) (hx : Byt w w.heap.size x.A x.a.data.length x.cap x.a.data) (hxl : ∀ p, x.A = some p → base ≤ p.block) (hxa : ∀ p, x.A = some p → some p.block ≠ v.ownBlock)
    (ho : w'.ownsRow base 71 3 v' (l.length + 1) (l.flatMap cAn ++ cAn x)) (hg : (w.alloc o).grownBy w' v.ownBlock) (hat : v'.ownBlock = v.ownBlock ∨ v'.ownBlock = some (w.heap.size + 1)) (hxn : ∀ p, x.A = some p → p.block < w.heap.size) : OwnA w' base v' (l ++ [x]) := by
  have hsz : w.heap.size ≤ w'.heap.size := by have := hg.size; rw [World.size_alloc] at this; omega
  have hk : ∀ (k : Nat), k < w.heap.size → some k ≠ v.ownBlock → w'.heap[k]? = w.heap[k]? := fun k h1 h2 => by
    rw [hg.block k (by rw [World.size_alloc]; omega) h2]
    exact Below.heap_alloc _ _ _ h1
  have hne : ∀ (k : Nat), k < w.heap.size → some k ≠ v.ownBlock → some k ≠ v'.ownBlock := fun k h1 h2 => by
    rcases hat with e | e
    · rw [e]; exact h2
    · rw [e]; intro e2; have := Option.some.inj e2; omega
  refine ⟨OwnC.snoc ho, fun y hy => ?_, fun y hy p hp => ?_, fun y hy p hp => ?_, fun y hy p hp => ?_⟩
  · rcases List.mem_append.1 hy with hy | hy
    · exact rd_keepAt (h.ok y hy) hsz fun p hp hb => hk _ hb (h.apart y hy p hp)
    · rw [List.mem_singleton.1 hy]
      exact rd_keepAt hx hsz fun p hp hb => hk _ hb (hxa p hp)
  · rcases List.mem_append.1 hy with hy | hy
    · exact hne _ (h.inb y hy p hp) (h.apart y hy p hp)
    · rw [List.mem_singleton.1 hy] at hp
      exact hne _ (hxn p hp) (hxa p hp)
  · rcases List.mem_append.1 hy with hy | hy
    · exact h.low y hy p hp
    · rw [List.mem_singleton.1 hy] at hp
      exact hxl p hp
  · rcases List.mem_append.1 hy with hy | hy
    · exact Nat.lt_of_lt_of_le (h.inb y hy p hp) hsz
    · rw [List.mem_singleton.1 hy] at hp
      exact Nat.lt_of_lt_of_le (hxn p hp) hsz
/-- What answers leave: the row of them and the lines behind, or the line at fault. -/
def AnsPost (lb N : Nat) (R : Sum (List AnsC × List (List UInt8)) (List (List UInt8))) (tl : List UInt8) (w : World) (e : Ending) (w' : World) : Prop :=
  (∃ r v l, R = .inl (l.map AnV.a, r) ∧ e = .returned v ∧ OwnA w' w.heap.size v l ∧ LnAt w' lb (unl r tl) (N - r.length) ∧ w.grownBy w' (some lb) ∧ (∀ x ∈ r, (10 : UInt8) ∉ x) ∧ r.length ≤ N ∧ (unl r tl).length ≤ 100000 ∧ l.length ≤ N) ∨
  (∃ q, R = .inr q ∧ e = .panicked (lineV (N - q.length + 1)) ∧ w.grownBy w' (some lb))
structure AnJ (B lb N : Nat) (R : Sum (List AnsC × List (List UInt8)) (List (List UInt8))) (tl : List UInt8) (f : Nat) (ls : List (List UInt8)) (t : Nat) (v : Value) (l : List AnV) (w W : World) : Prop where
  own : OwnA W w.heap.size v l
  ln : LnAt W lb (unl ls tl) t
  gr : w.grownBy W (some lb)
  wc : WC B W
  no : ∀ x ∈ ls, (10 : UInt8) ∉ x
  len : (unl ls tl).length ≤ 100000
  at_ : t + ls.length = N
  cnt : l.length + ls.length ≤ N
  fu : ls.length < f
  fin : scriptP f ls (l.map AnV.a) = R
theorem infoA_ans : ∃ i, Tryz.prog.info? 71 = some i ∧ i.zero = some (.agg #[.string ⟨#[]⟩, .bool false, .slice none 0 0]) ∧ i.size = 3 ∧ i.bytes = 48 := by
  have h : (Tryz.prog.info? 71).map (fun i => (i.zero, i.size, i.bytes)) = some (some (.agg #[.string ⟨#[]⟩, .bool false, .slice none 0 0]), 3, 48) := by kernel_rfl
  obtain ⟨i, h1, h2, h3, h4⟩ := info_parts h
  exact ⟨i, h1, h2, h3, h4⟩
theorem barsP_len {ls r : List (List UInt8)} {d : List UInt8} (h : barsP ls = some (d, r)) : r.length < ls.length := by
  unfold barsP at h
  split at h
  · injection h with h
    have := barsG_len _ _ _ _ h
    simp
    omega
  · cases h
theorem unl_suf : ∀ (a b : List (List UInt8)) (tl : List UInt8), (unl b tl).length ≤ (unl (a ++ b) tl).length
  | [], b, tl => Nat.le_refl _
  | x :: a, b, tl => by
    rw [List.cons_append, unl_len]
    have := unl_suf a b tl
    omega
theorem barsP_suf {ls r : List (List UInt8)} {d : List UInt8} (hn : ∀ x ∈ ls, (10 : UInt8) ∉ x) (h : barsP ls = some (d, r)) : (∀ x ∈ r, (10 : UInt8) ∉ x) ∧ ∀ tl, (unl r tl).length ≤ (unl ls tl).length := by
  have e := barsP_text hn h
  exact ⟨fun x hx => hn x (by rw [e]; exact List.mem_append_right _ hx), fun tl => by rw [e]; exact unl_suf _ _ _⟩
theorem named_case (b : List UInt8) (ls : List (List UInt8)) : (∃ y q, ls = y :: q ∧ beginsL b y = true) ∨ namedP b ls = none := by
  cases ls with
  | nil => exact .inr rfl
  | cons y q =>
    cases h : beginsL b y with
    | true => exact .inl ⟨y, q, rfl, h⟩
    | false => exact .inr (by simp [namedP, h])
theorem named_not {b y : List UInt8} {q : List (List UInt8)} (h : namedP b (y :: q) = none) : beginsL b y = false := by
  unfold namedP at h
  cases hb : beginsL b y with
  | false => rfl
  | true => simp [hb] at h
set_option maxRecDepth 100000 in
set_option maxHeartbeats 110000000 in
theorem answers_c (B lb t : Nat) (ls : List (List UInt8)) (tl : List UInt8) (w : World) (h : LnAt w lb (unl ls tl) t) (hw : WC B w) (hBl : B ≤ lb) (hn : ∀ x ∈ ls, (10 : UInt8) ∉ x) (hn2 : (10 : UInt8) ∉ tl) (hm : (unl ls tl).length ≤ 100000) (ht : t + ls.length ≤ 100000) :
    Calls Tryz.prog 19 #[.pointer (some ⟨lb, 0, none⟩)] w fun e w' => Hid (AnsPost lb (t + ls.length) (scriptP (ls.length + 1) ls []) tl w e w') := by
  have HJ0 : Hid (AnJ B lb (t + ls.length) (scriptP (ls.length + 1) ls []) tl (ls.length + 1) ls t (.slice none 0 0) [] w w) := Lib.hid
    ⟨OwnA.start _ _, h, gr_refl _ _, hw, hn, hm, rfl, by simp, Nat.lt_succ_self _, rfl⟩
  have HLL := Lib.hid h.lt
  have HNT := Lib.hid hn2
  have HBS := Lib.hid hw.size
  have HN0 : Hid (t + ls.length ≤ 100000) := Lib.hid ht
  generalize scriptP (ls.length + 1) ls [] = R at *
  obtain ⟨N, hN⟩ : ∃ N, t + ls.length = N := ⟨_, rfl⟩
  rw [hN] at HJ0 HN0 ⊢
  obtain ⟨F, hF⟩ : ∃ F, ls.length + 1 = F := ⟨_, rfl⟩
  rw [hF] at HJ0
  clear h hw hn hn2 hm ht hN hF
  go_enter Tryz.func19, Tryz.ntmps19
  go_wp2_with fail
  go_loopg [3] (ls.length + 1) (fun g v wr => ∃ (f : Nat) (l2 : List (List UInt8)) (t2 : Nat) (l : List AnV) (v0 : Value), v0 = v ∧ Hid (g = l2.length + 1) ∧ Hid (AnJ B lb N R tl f l2 t2 v0 l w wr))
  case atStart => exact ⟨F, ls, t, [], _, rfl, Lib.hid rfl, HJ0⟩
  case round =>
    obtain ⟨f, l2, t2, l, v, rfl, hg, HJ⟩ := hrel
    have HT2 : Hid (t2 ≤ 100000) := Lib.hid (by have := HJ.out.at_; have := HN0.out; omega)
    rcases named_case wOk l2 with ⟨y, q, rfl, hy⟩ | hno
    · obtain ⟨f, rfl⟩ : ∃ f', f = f' + 1 := ⟨f - 1, by have := HJ.out.fu; omega⟩
      have NY := Lib.hid (named_yes B lb t2 wOk y q tl wr HJ.out.ln HJ.out.wc (HJ.out.no _ (by simp)) hy HJ.out.len HT2.out)
      have hlen := HJ.out.len
      rw [unl_len] at hlen
      have hnq : ∀ x ∈ q, (10 : UInt8) ∉ x := fun x hx => HJ.out.no x (List.mem_cons_of_mem _ hx)
      have hlq : (unl q tl).length ≤ 100000 := by omega
      have htq : t2 + 1 + q.length ≤ 100000 := by have := HJ.out.at_; have := HN0.out; simp only [List.length_cons] at *; omega
      have HQ := Lib.hid (And.intro hnq (And.intro hlq htq))
      have hst : scriptP (f + 1) (y :: q) (l.map AnV.a) = _ := HJ.out.fin
      rw [scriptP, if_pos hy] at hst
      clear hlen hnq hlq htq
      go_wp2_with fail
      refine NY.out.mono ?_
      rintro e w3 ⟨rfl, hL3, hg3⟩
      have HG3 := Lib.hid (HJ.out.gr.trans' hg3)
      have HGR := Lib.hid hg3
      have HW3 := Lib.hid (HJ.out.wc.gr hBl hg3)
      have HL3 := Lib.hid hL3
      have HO3 := Lib.hid (HJ.out.own.gr HLL.out hg3)
      clear hL3 hg3 NY
      cases hb : barsP q with
      | none =>
        have BN := Lib.hid (lnBars_no B lb (t2 + 1) q tl w3 HL3.out HW3.out HQ.out.1 HNT.out hb HQ.out.2.1 (by have := HQ.out.2.2; omega))
        rw [hb] at hst
        have HE : Hid (∀ w4, Below w3.heap.size w3 w4 → AnsPost lb N R tl w (.panicked (lineV (t2 + 1 + 1))) w4) := Lib.hid fun w4 hb4 => .inr ⟨q, hst.symm, by rw [show N - q.length = t2 + 1 by have := HJ.out.at_; simp only [List.length_cons] at this; omega], HG3.out.trans' (hb4.gr _)⟩
        clear hb hst
        go_wp2_with fail
        refine BN.out.mono ?_
        rintro e w4 ⟨rfl, hb4⟩
        have HE4 := Lib.hid (HE.out w4 hb4)
        clear hb4 HE
        go_wp2
        exact bodyPost_pan rfl HE4
      | some p =>
        obtain ⟨d, r⟩ := p
        have BY := Lib.hid (lnBars_yes B lb (t2 + 1) q r tl d w3 HL3.out HW3.out hBl HQ.out.1 HNT.out hb HQ.out.2.1 HQ.out.2.2)
        rw [hb] at hst
        have HSUF : Hid ((∀ x ∈ r, (10 : UInt8) ∉ x) ∧ (unl r tl).length ≤ 100000 ∧ r.length < q.length) := Lib.hid ⟨(barsP_suf HQ.out.1 hb).1, Nat.le_trans ((barsP_suf HQ.out.1 hb).2 tl) HQ.out.2.1, barsP_len hb⟩
        clear hb
        go_wp2_with fail
        refine BY.out.mono ?_
        rintro e w4 ⟨⟨A, cap, rfl, hA, hlo⟩, hL4, hg4⟩
        have HFIN : Hid (scriptP f r ((l ++ [(⟨⟨y.drop wOk.length, true, d⟩, A, cap⟩ : AnV)]).map AnV.a) = R) := Lib.hid (by rw [List.map_append]; exact hst)
        have HD := Lib.hid (And.intro hA hlo)
        have HL4 := Lib.hid hL4
        have HG4 := Lib.hid (HG3.out.trans' hg4)
        have HW4 := Lib.hid (HW3.out.gr hBl hg4)
        have HO4 := Lib.hid (HO3.out.gr HLL.out hg4)
        clear hA hlo hL4 hg4 hst BY
        have hown : w4.ownsRow w.heap.size 71 3 v l.length (l.flatMap cAn) := HO4.out.own
        have hpl : l.length ≤ 1000000000 := by have := HJ.out.cnt; have := HN0.out; omega
        have hba : w.heap.size ≤ w4.heap.size := HG4.out.size
        go_wp2_with (at_builtin; refine wpList_appK rfl (.tmp 14) (.tmp 19) 27 71 rfl (.agg #[.string ⟨#[]⟩, .bool false, .slice none 0 0]) 3 48 Tryz.underlying27 infoA_ans rfl (by decide) _ _ _ _ rfl hown (cAn ⟨⟨y.drop wOk.length, true, d⟩, A, cap⟩) _ rfl rfl rfl (by simp [cAn, Value.oneCell']) hpl (by decide) hba ?_)
        intro v6 w6 hown6 hg6 hat6
        have hge : ∀ b, v.ownBlock = some b → b < wr.heap.size ∧ w.heap.size ≤ b := fun b hb => HJ.out.own.own.ge hb
        have kb := (Below.refl w4.heap.size w4).alloc (Nat.le_refl _) (.cells (cAn ⟨⟨y.drop wOk.length, true, d⟩, A, cap⟩).toArray 71)
        have hb46 : Below w.heap.size w4 w6 := (kb.mono hba).grown hg6 (by rw [World.size_alloc]; omega) (fun j hj => (hge j hj).2)
        have HJ6 : Hid (AnJ B lb N R tl f r (t2 + 1 + (q.length - r.length)) v6 (l ++ [⟨⟨y.drop wOk.length, true, d⟩, A, cap⟩]) w w6) := Lib.hid
          ⟨OwnA.snoc HO4.out HD.out.1 (fun p hp => Nat.le_trans HG3.out.size (HD.out.2 p hp).1) (fun p hp e => by have h1 := (hge _ e.symm).1; have h2 := (HD.out.2 p hp).1; have h3 := HGR.out.size; omega) hown6 hg6 hat6 (fun p hp => (HD.out.2 p hp).2), (hb46.block lb HLL.out).trans HL4.out, ⟨hb46.os.trans HG4.out.os, hb46.tape.trans HG4.out.tape, hb46.output.trans HG4.out.output, Nat.le_trans HG4.out.size hb46.size, fun k hk hne => (hb46.block k hk).trans (HG4.out.block k hk hne)⟩, HW4.out.below (hb46.mono HBS.out), HSUF.out.1, HSUF.out.2.1, (by have := HJ.out.at_; have := HSUF.out.2.2; simp only [List.length_cons] at *; omega), (by have := HJ.out.cnt; have := HSUF.out.2.2; rw [List.length_append]; simp only [List.length_cons, List.length_nil] at *; omega), (by have := HJ.out.fu; have := HSUF.out.2.2; simp only [List.length_cons] at *; omega), HFIN.out⟩
        clear hown6 hg6 hat6 hown kb hba hb46
        go_wp2
        go_roundg (r.length + 1)
        case measure => have := hg.out; have := HSUF.out.2.2; simp only [List.length_cons] at *; omega
        case rel => exact ⟨f, r, (t2 + 1 + (q.length - r.length)), _, _, rfl, Lib.hid rfl, HJ6⟩
    rcases named_case wNo l2 with ⟨y, q, rfl, hy⟩ | hno2
    · obtain ⟨f, rfl⟩ : ∃ f', f = f' + 1 := ⟨f - 1, by have := HJ.out.fu; omega⟩
      have NN := Lib.hid (named_no B lb t2 wOk (y :: q) tl wr HJ.out.ln HJ.out.wc HJ.out.no HNT.out hno HJ.out.len)
      have NY := Lib.hid (fun n => named_yes B lb t2 wNo y q tl (wr.drewN n) HJ.out.ln HJ.out.wc.drewN (HJ.out.no _ (by simp)) hy HJ.out.len HT2.out)
      have hlen := HJ.out.len
      rw [unl_len] at hlen
      have HQ := Lib.hid (And.intro (fun x (hx : x ∈ q) => HJ.out.no x (List.mem_cons_of_mem _ hx)) (show (unl q tl).length ≤ 100000 by omega))
      have hst : scriptP (f + 1) (y :: q) (l.map AnV.a) = _ := HJ.out.fin
      rw [scriptP, if_neg (by rw [named_not hno]; simp), if_pos hy] at hst
      have HFIN : Hid (scriptP f q ((l ++ [(⟨⟨y.drop wNo.length, false, []⟩, none, 0⟩ : AnV)]).map AnV.a) = R) := Lib.hid (by rw [List.map_append]; exact hst)
      clear hlen hst hno
      go_wp2_with fail
      refine NN.out.mono ?_
      rintro e w3 ⟨rfl, n, rfl⟩
      go_wp2_with fail
      refine (NY.out n).mono ?_
      rintro e w4 ⟨rfl, hL4, hg4⟩
      have hg4' := ((gr_refl wr (some lb)).drewN (n := n)).trans' hg4
      have HL4 := Lib.hid hL4
      have HG4 := Lib.hid (HJ.out.gr.trans' hg4')
      have HW4 := Lib.hid (HJ.out.wc.gr hBl hg4')
      have HO4 := Lib.hid (HJ.out.own.gr HLL.out hg4')
      clear hL4 hg4 hg4' NN NY
      have hown : w4.ownsRow w.heap.size 71 3 v l.length (l.flatMap cAn) := HO4.out.own
      have hpl : l.length ≤ 1000000000 := by have := HJ.out.cnt; have := HN0.out; omega
      have hba : w.heap.size ≤ w4.heap.size := HG4.out.size
      go_wp2_with (at_builtin; refine wpList_appK rfl (.tmp 29) (.tmp 32) 27 71 rfl (.agg #[.string ⟨#[]⟩, .bool false, .slice none 0 0]) 3 48 Tryz.underlying27 infoA_ans rfl (by decide) _ _ _ _ rfl hown (cAn ⟨⟨y.drop wNo.length, false, []⟩, none, 0⟩) _ rfl rfl rfl (by simp [cAn, Value.oneCell']) hpl (by decide) hba ?_)
      intro v6 w6 hown6 hg6 hat6
      have hge : ∀ b, v.ownBlock = some b → b < wr.heap.size ∧ w.heap.size ≤ b := fun b hb => HJ.out.own.own.ge hb
      have kb := (Below.refl w4.heap.size w4).alloc (Nat.le_refl _) (.cells (cAn ⟨⟨y.drop wNo.length, false, []⟩, none, 0⟩).toArray 71)
      have hb46 : Below w.heap.size w4 w6 := (kb.mono hba).grown hg6 (by rw [World.size_alloc]; omega) (fun j hj => (hge j hj).2)
      have HJ6 : Hid (AnJ B lb N R tl f q (t2 + 1) v6 (l ++ [⟨⟨y.drop wNo.length, false, []⟩, none, 0⟩]) w w6) := Lib.hid
        ⟨OwnA.snoc HO4.out (Rd.nilR _ _) (fun p hp => by cases hp) (fun p hp => by cases hp) hown6 hg6 hat6 (fun p hp => by cases hp), (hb46.block lb HLL.out).trans HL4.out, ⟨hb46.os.trans HG4.out.os, hb46.tape.trans HG4.out.tape, hb46.output.trans HG4.out.output, Nat.le_trans HG4.out.size hb46.size, fun k hk hne => (hb46.block k hk).trans (HG4.out.block k hk hne)⟩, HW4.out.below (hb46.mono HBS.out), HQ.out.1, HQ.out.2, (by have := HJ.out.at_; simp only [List.length_cons] at *; omega), (by have := HJ.out.cnt; rw [List.length_append]; simp only [List.length_cons, List.length_nil] at *; omega), (by have := HJ.out.fu; simp only [List.length_cons] at *; omega), HFIN.out⟩
      clear hown6 hg6 hat6 hown kb hba hb46
      go_wp2
      go_roundg (q.length + 1)
      case measure => have := hg.out; simp only [List.length_cons] at *; omega
      case rel => exact ⟨f, q, (t2 + 1), _, _, rfl, Lib.hid rfl, HJ6⟩

    · have NN := Lib.hid (named_no B lb t2 wOk l2 tl wr HJ.out.ln HJ.out.wc HJ.out.no HNT.out hno HJ.out.len)
      have NN2 := Lib.hid (fun n => named_no B lb t2 wNo l2 tl (wr.drewN n) HJ.out.ln HJ.out.wc.drewN HJ.out.no HNT.out hno2 HJ.out.len)
      have hst : scriptP f l2 (l.map AnV.a) = R := HJ.out.fin
      have hst2 : scriptP f l2 (l.map AnV.a) = .inl (l.map AnV.a, l2) := by
        cases f with
        | zero => rfl
        | succ f =>
          cases l2 with
          | nil => rfl
          | cons y q => rw [scriptP, if_neg (by rw [named_not hno]; simp), if_neg (by rw [named_not hno2]; simp)]
      have HE : Hid (∀ n, AnsPost lb N R tl w (.returned v) (wr.drewN n)) := Lib.hid fun n => .inl ⟨l2, v, l, hst.symm.trans hst2, rfl, HJ.out.own.kept (below_drewN' (Below.refl _ _)), by rw [show N - l2.length = t2 by have := HJ.out.at_; omega]; exact HJ.out.ln, HJ.out.gr.drewN, HJ.out.no, by have := HJ.out.at_; omega, HJ.out.len, by have := HJ.out.cnt; omega⟩
      clear hst hst2 hno hno2
      go_wp2_with fail
      refine NN.out.mono ?_
      rintro e w3 ⟨rfl, n, rfl⟩
      go_wp2_with fail
      refine (NN2.out n).mono ?_
      rintro e w4 ⟨rfl, n2, rfl⟩
      have HE2 := Lib.hid (HE.out (n + n2))
      clear HE NN NN2
      go_wp2
      go_ret
      exact HE2
end Go.Proofs.YtbllodeanfdebaaGreatDoor
