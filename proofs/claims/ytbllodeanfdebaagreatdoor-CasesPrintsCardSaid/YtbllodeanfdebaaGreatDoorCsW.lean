/- Parse on its way: what is read so far; a fault. -/
import Derived.Test.YtbllodeanfdebaaGreatDoorRows
import Derived.WalkKit
import Derived.ProofKit
import Derived.OpenShut
import Derived.ShutString
import Derived.ChangeOld
import Derived.Below
import Derived.BigQuiet
import Derived.Deep.QuietTactic
import Derived.Lib.Hide
import Derived.Deep.RegionHeld3
import Derived.Lib.SlBytesConst
import Derived.Laws.CopyOwn
import Derived.Laws.CopyRow
import Derived.Lib.Bytes
import Derived.Deep.LoopGhost
import Derived.Deep.DeepFit
import Derived.Deep.DeepMust
import Derived.WalkSpells
import Derived.WalkLawsBesides
import Derived.Laws.EntriesVeiled
import Derived.Tactics2
import Derived.Laws.Rows
import Derived.Lib.Replace
import Derived.Lib.Split
import Derived.Lib.ItoaNum
import Derived.Lib.AtoiAllCases
import Derived.Lib.AtoiErrMem
import Derived.Lib.AppendIntMem
import Derived.Maps.OwnOps
import Derived.Maps.OwnSet
import Derived.Maps.Views
import Derived.Maps.AppendAt
import Derived.Deep.AppendLies
import Derived.Defers
import Derived.Recover
import Derived.Laws.Pointers
import Derived.Test.YtbllodeanfdebaaGreatDoorShelf
import Derived.Test.YtbllodeanfdebaaGreatDoorBase
import Derived.Test.YtbllodeanfdebaaGreatDoorCsE
import Derived.Test.YtbllodeanfdebaaGreatDoorCsG
import Derived.Test.YtbllodeanfdebaaGreatDoorCsH
import Derived.Test.YtbllodeanfdebaaGreatDoorCsI
import Derived.Test.YtbllodeanfdebaaGreatDoorCsJ
import Derived.Test.YtbllodeanfdebaaGreatDoorCalm
import Derived.Test.YtbllodeanfdebaaGreatDoorCsL
import Derived.Test.YtbllodeanfdebaaGreatDoorRowS
import Derived.Test.YtbllodeanfdebaaGreatDoorRowG
import Derived.Test.YtbllodeanfdebaaGreatDoorCsO
import Derived.Test.YtbllodeanfdebaaGreatDoorCsM
import Derived.Test.YtbllodeanfdebaaGreatDoorCsN2
import Derived.Test.YtbllodeanfdebaaGreatDoorStL
import Derived.Test.YtbllodeanfdebaaGreatDoorCsO2
import Derived.Test.YtbllodeanfdebaaGreatDoorCsQ
import Derived.Test.YtbllodeanfdebaaGreatDoorStr
import Derived.Test.YtbllodeanfdebaaGreatDoorCsR
import Derived.Test.YtbllodeanfdebaaGreatDoorCsS
import Derived.Test.YtbllodeanfdebaaGreatDoorCsT
import Derived.Test.YtbllodeanfdebaaGreatDoorCsU
import Derived.Test.YtbllodeanfdebaaGreatDoorCsV
namespace Go.Proofs.YtbllodeanfdebaaGreatDoor
open Go.ChangeShapes Go.WideShapes Go.ChangeAt Go.RowKit
set_option linter.unusedVariables false
/-- What stands behind the answers. -/
def tailP (M : Nat) (lim : List Nat) (al : List (List UInt8)) (sc : List AnsC) (tl : List UInt8) : List (List UInt8) → PrsC
  | [] => .bad (M + 1)
  | d :: q2 => if d = wDoc then (match barsP q2 with
      | none => .bad (M - q2.length + 1)
      | some (doc, q3) => if q3 ≠ [] ∨ tl ≠ [] then .bad (M - q3.length + 1) else if bigS ⟨doc, lim, al, sc⟩ = true then .big else .ok ⟨doc, lim, al, sc⟩)
    else .bad (M - (d :: q2).length + 1)
theorem parse_head {text y : List UInt8} {r : List (List UInt8)} {lim : List Nat} (hl : (linesP text).1 = y :: r) (h : limP numD y = some lim) :
    parseC numD bigS text = match scriptP ((allowP r).2.length + 1) (allowP r).2 [] with | .inr q => .bad ((y :: r).length - q.length + 1) | .inl (sc, q) => tailP (y :: r).length lim (allowP r).1 sc (linesP text).2 q := by
  unfold parseC parseL
  rw [hl]
  simp only
  rw [h]
  simp only
  cases scriptP ((allowP r).2.length + 1) (allowP r).2 [] with
  | inr q => rfl
  | inl p =>
    obtain ⟨sc, q⟩ := p
    cases q with
    | nil => rfl
    | cons d q2 => rfl
theorem parse_none {text : List UInt8} (h : ∀ y r, (linesP text).1 = y :: r → limP numD y = none) : parseC numD bigS text = .bad 1 := by
  unfold parseC parseL
  cases hl : (linesP text).1 with
  | nil => rfl
  | cons y r =>
    simp only
    rw [h y r hl]
/-- Parse on its way: the reader, what is read. -/
structure PsJ (N M : Nat) (ls : List (List UInt8)) (tl : List UInt8) (t : Nat) (lim : List Nat) (al : List (List UInt8)) (dv va vs : Value) (w W : World) : Prop where
  ln : LnAt W (N + 3) (unl ls tl) t
  cs : W.heap[N]? = some (.cells (caseV dv lim va vs) 29)
  n1 : W.heap[N + 1]? = some (.cells #[.int .i64 0] 3)
  n2 : W.heap[N + 2]? = some (.cells #[.int .i64 0] 30)
  kp : Below N w W
  wc : WC N W
  al : OwnS W (N + 4) va al
  sz : N + 4 ≤ W.heap.size
  no : ∀ x ∈ ls, (10 : UInt8) ∉ x
  len : (unl ls tl).length ≤ 100000
  at_ : t + ls.length = M
section
variable {N M t t' : Nat} {ls ls' : List (List UInt8)} {tl : List UInt8} {lim : List Nat} {al : List (List UInt8)} {dv va vs : Value} {w W W' : World}
theorem PsJ.gr (h : PsJ N M ls tl t lim al dv va vs w W) (hg : W.grownBy W' (some (N + 3))) (hl : LnAt W' (N + 3) (unl ls' tl) t') (hno : ∀ x ∈ ls', (10 : UInt8) ∉ x) (hlen : (unl ls' tl).length ≤ 100000) (hat : t' + ls'.length = M) : PsJ N M ls' tl t' lim al dv va vs w W' :=
  ⟨hl, (hg.block _ (lt_of h.cs) (by simp)).trans h.cs, (hg.block _ (lt_of h.n1) (by simp)).trans h.n1, (hg.block _ (lt_of h.n2) (by simp)).trans h.n2, h.kp.trans (hg.below (by have := h.sz; omega) (by omega)), h.wc.gr (by omega) hg,
    ownsRow_keep h.al fun g h1 h2 => hg.block g h2 (by simp; omega), Nat.le_trans h.sz hg.size, hno, hlen, hat⟩
theorem PsJ.kept (h : PsJ N M ls tl t lim al dv va vs w W) (hb : Below W.heap.size W W') : PsJ N M ls tl t lim al dv va vs w W' :=
  h.gr (hb.gr _) (h.ln.below hb) h.no h.len h.at_
end
/-- A fault on the way. -/
theorem parse_bad {N M t n : Nat} {ls : List (List UInt8)} {tl : List UInt8} {lim : List Nat} {al : List (List UInt8)} {dv va vs : Value} {w W W' : World} {tmps : Array Value} {R : PrsC} (h2 : tmps.getD 2 undef = .pointer (some ⟨N, 0, none⟩)) (h3 : tmps.getD 3 undef = .pointer (some ⟨N + 1, 0, none⟩)) (h4 : tmps.getD 4 undef = .pointer (some ⟨N + 2, 0, none⟩))
    (hN : w.heap.size = N) (h : PsJ N M ls tl t lim al dv va vs w W) (hg : W.grownBy W' (some (N + 3))) (hR : R = .bad n) : bodyPostD Tryz.prog Tryz.f6 (fun e w' => Hid (PsPost R w e w')) (Exit.panic (lineV n)) { tmps := tmps, defers := [catchV N] } W' :=
  parse_pan h2 h3 h4 ((hg.block _ (lt_of h.cs) (by simp)).trans h.cs) rfl ((hg.block _ (lt_of h.n1) (by simp)).trans h.n1) ((hg.block _ (lt_of h.n2) (by simp)).trans h.n2)
    fun W2 hb => Lib.hid ⟨by rw [hN]; exact (h.kp.trans (hg.below (by have := h.sz; omega) (by omega))).trans hb, .inl ⟨n, hR, rfl⟩⟩
theorem own_geS {W : World} {base : Nat} {v : Value} {l : List (List UInt8)} (h : OwnS W base v l) {b : Nat} (hb : v.ownBlock = some b) : base ≤ b := by
  obtain ⟨hl, ⟨hv, _⟩ | ⟨g, cap, cur, hv, hg, r⟩⟩ := h
  · rw [hv] at hb; simp [Value.ownBlock] at hb
  · rw [hv] at hb
    simp [Value.ownBlock] at hb
    subst hb
    exact hg
theorem PsJ.app {N M t : Nat} {ls : List (List UInt8)} {tl : List UInt8} {lim : List Nat} {al : List (List UInt8)} {dv va vs v7 : Value} {w W W7 : World} {z : List UInt8} {o : Obj} (h : PsJ N M ls tl t lim al dv va vs w W) (hown : W7.ownsRow (N + 4) 9 1 v7 (al.length + 1) (al.map strV ++ [strV z])) (hg : (W.alloc o).grownBy W7 va.ownBlock) :
    W7.heap[N]? = some (.cells (caseV dv lim va vs) 29) ∧ PsJ N M ls tl t lim (al ++ [z]) dv v7 vs w (W7.setCell ⟨N, 7, none⟩ v7) := by
  have hsz := h.sz
  have hk : ∀ k, k < N + 4 → W7.heap[k]? = W.heap[k]? := fun k hk => by
    rw [hg.block k (by rw [World.size_alloc]; omega) fun e => by have := own_geS h.al e.symm; omega]
    exact Below.heap_alloc _ _ _ (by omega)
  have hb : Below (N + 4) W W7 := ((Below.refl (N + 4) W).alloc hsz o).grown hg (by rw [World.size_alloc]; omega) fun k e => own_geS h.al e
  have c7 := (hk N (by omega)).trans h.cs
  have hB2 : Below N W (W7.setCell ⟨N, 7, none⟩ v7) := (hb.mono (show N ≤ N + 4 by omega)).setCell (p := ⟨N, 7, none⟩) (Nat.le_refl _) _
  refine ⟨c7, ⟨(hp_other (by omega)).trans ((hk _ (by omega)).trans h.ln), ?_, (hp_other (by omega)).trans ((hk _ (by omega)).trans h.n1), (hp_other (by omega)).trans ((hk _ (by omega)).trans h.n2), h.kp.trans hB2, h.wc.below hB2, ?_, ?_, h.no, h.len, h.at_⟩⟩
  · exact hp_set c7
  · refine ownsRow_keep (w := W7) ?_ fun g h1 _ => hp_other (show g ≠ N by omega)
    rw [List.length_append, List.map_append]
    exact hown
  · have := hb.size
    simp only [World.setCell, Array.size_modify]
    omega
theorem PsJ.put {N M t : Nat} {ls : List (List UInt8)} {tl : List UInt8} {lim : List Nat} {al : List (List UInt8)} {dv va vs dv' vs' v : Value} {w W : World} {i : Nat} (h : PsJ N M ls tl t lim al dv va vs w W) (he : (caseV dv lim va vs).setIfInBounds i v = caseV dv' lim va vs') : PsJ N M ls tl t lim al dv' va vs' w (W.setCell ⟨N, i, none⟩ v) := by
  have hB2 : Below N W (W.setCell ⟨N, i, none⟩ v) := (Below.refl N W).setCell (p := ⟨N, i, none⟩) (Nat.le_refl _) _
  refine ⟨(hp_other (by omega)).trans h.ln, by rw [← he]; exact hp_set h.cs, (hp_other (by omega)).trans h.n1, (hp_other (by omega)).trans h.n2, h.kp.trans hB2, h.wc.below hB2, ownsRow_keep h.al fun g h1 _ => hp_other (show g ≠ N by omega), ?_, h.no, h.len, h.at_⟩
  have := h.sz
  simp only [World.setCell, Array.size_modify]
  exact this
theorem allow_stop {ls : List (List UInt8)} (h : namedP wAllow ls = none) : allowP ls = ([], ls) := by
  cases ls with
  | nil => rfl
  | cons y q => rw [allowP, if_neg (by rw [named_not h]; simp)]
theorem allow_step {z : List UInt8} {q : List (List UInt8)} (h : beginsL wAllow z = true) : allowP (z :: q) = (z.drop wAllow.length :: (allowP q).1, (allowP q).2) := by
  rw [allowP, if_pos h]
  rfl
theorem tail_bad {M : Nat} {lim : List Nat} {al : List (List UInt8)} {sc : List AnsC} {tl : List UInt8} {q : List (List UInt8)} (h : ∀ q2, q ≠ wDoc :: q2) (hq : q.length ≤ M) : tailP M lim al sc tl q = .bad (M - q.length + 1) := by
  cases q with
  | nil => rfl
  | cons d q2 => rw [tailP, if_neg (fun e => h q2 (by rw [e]))]
theorem tail_doc {M : Nat} {lim : List Nat} {al : List (List UInt8)} {sc : List AnsC} {tl : List UInt8} {q2 : List (List UInt8)} : tailP M lim al sc tl (wDoc :: q2) = match barsP q2 with
      | none => .bad (M - q2.length + 1)
      | some (doc, q3) => if q3 ≠ [] ∨ tl ≠ [] then .bad (M - q3.length + 1) else if bigS ⟨doc, lim, al, sc⟩ = true then .big else .ok ⟨doc, lim, al, sc⟩ := by
  rw [tailP, if_pos rfl]
theorem unl_nil {q : List (List UInt8)} {tl : List UInt8} : unl q tl = [] ↔ ¬ (q ≠ [] ∨ tl ≠ []) := by
  constructor
  · intro h hc
    cases q with
    | nil =>
      rcases hc with hc | hc
      · exact hc rfl
      · exact hc h
    | cons x q =>
      have := congrArg List.length h
      rw [unl_len] at this
      simp at this
  · intro h
    have h1 : q = [] := Classical.byContradiction fun e => h (.inl e)
    have h2 : tl = [] := Classical.byContradiction fun e => h (.inr e)
    rw [h1, h2]
    rfl
theorem OwnA.base {w : World} {b b' : Nat} {v : Value} {l : List AnV} (h : OwnA w b v l) (hb : b' ≤ b) : OwnA w b' v l := by
  refine ⟨?_, h.ok, h.apart, fun x hx p hp => Nat.le_trans hb (h.low x hx p hp), h.inb⟩
  obtain ⟨hl, ⟨hv, h0⟩ | ⟨g, cap, cur, hv, hg, r⟩⟩ := h.own
  · exact ⟨hl, .inl ⟨hv, h0⟩⟩
  · exact ⟨hl, .inr ⟨g, cap, cur, hv, Nat.le_trans hb hg, r⟩⟩
theorem OwnA.set {w : World} {b N i : Nat} {v u : Value} {l : List AnV} (h : OwnA w b v l) (hb : N < b) : OwnA (w.setCell ⟨N, i, none⟩ u) b v l :=
  h.keep (by simp only [World.setCell, Array.size_modify]; exact Nat.le_refl _) fun g h1 _ => hp_other (show g ≠ N by omega)
theorem doc_case (q : List (List UInt8)) : (∃ q2, q = wDoc :: q2) ∨ (∃ d q2, q = d :: q2 ∧ wDoc.isPrefixOf d = true ∧ d ≠ wDoc) ∨ takeP wDoc q = none ∧ ∀ q2, q ≠ wDoc :: q2 := by
  cases q with
  | nil => exact .inr (.inr ⟨rfl, fun q2 e => by cases e⟩)
  | cons d q2 =>
    by_cases h : d = wDoc
    · exact .inl ⟨q2, by rw [h]⟩
    · cases hp : wDoc.isPrefixOf d with
      | true => exact .inr (.inl ⟨d, q2, rfl, hp, h⟩)
      | false => exact .inr (.inr ⟨by simp [takeP, hp], fun q3 e => h (by injection e)⟩)
theorem doc_drop {d : List UInt8} (h : wDoc.isPrefixOf d = true) (hn : d ≠ wDoc) : d.drop wDoc.length ≠ [] := by
  obtain ⟨t, rfl⟩ := List.isPrefixOf_iff_prefix.1 h
  rw [List.drop_left]
  rintro rfl
  exact hn (List.append_nil _)
theorem barsP_sum {ls r : List (List UInt8)} {d : List UInt8} (hn : ∀ x ∈ ls, (10 : UInt8) ∉ x) (h : barsP ls = some (d, r)) (tl : List UInt8) : d.length + (unl r tl).length ≤ (unl ls tl).length := by
  have e := barsP_text hn h
  have h1 : ∀ (a b : List (List UInt8)), (unl (a ++ b) tl).length = (unl a []).length + (unl b tl).length := fun a b => by simp [unl]
  rw [e, h1, ← barT_lines]
  have h2 : d.length ≤ (barT d).length := by
    unfold barT
    have : ∀ s : List UInt8, s.length ≤ (s.flatMap (fun c => if c = 10 then [10, 124] else [c])).length := fun s => by
      induction s with
      | nil => simp
      | cons c s ih =>
        rw [List.flatMap_cons, List.length_append, List.length_cons]
        have h9 : 1 ≤ (if c = 10 then ([10, 124] : List UInt8) else [c]).length := by split <;> simp
        omega
    have := this d
    simp only [List.cons_append, List.length_cons, List.length_append, List.length_nil]
    omega
  omega
theorem ansLines_sum (a : AnsC) (b : List (List UInt8)) (tl : List UInt8) (h : a.ok = false → a.data = []) : a.data.length + (unl b tl).length ≤ (unl (ansLines a ++ b) tl).length := by
  have h1 : ∀ (a b : List (List UInt8)), (unl (a ++ b) tl).length = (unl a []).length + (unl b tl).length := fun a b => by simp [unl]
  rw [h1]
  obtain ⟨id, ok, data⟩ := a
  cases ok with
  | true =>
    rw [ansLines_ok]
    have h2 := barsP_sum (ls := barLines data) (r := []) (d := data) (barLines_no data) (by have := barsP_back data [] (fun x hx => by cases hx); rwa [List.append_nil] at this) []
    rw [unl_len]
    simp only at h2 ⊢
    omega
  | false =>
    have := h rfl
    simp only at this
    rw [this]
    simp
theorem script_sum {f : Nat} {ls r : List (List UInt8)} {sc : List AnsC} (hn : ∀ x ∈ ls, (10 : UInt8) ∉ x) (h : scriptP f ls [] = .inl (sc, r)) (tl : List UInt8) : (sc.map (fun a => a.data.length)).sum + (unl r tl).length ≤ (unl ls tl).length := by
  obtain ⟨new, e1, e2, e3⟩ := scriptP_text f ls [] sc r hn h
  rw [List.nil_append] at e1
  subst e1
  rw [e2]
  clear e2 h
  induction sc with
  | nil => simp
  | cons a sc ih =>
    rw [List.flatMap_cons, List.append_assoc, List.map_cons, List.sum_cons]
    have h1 := ansLines_sum a (sc.flatMap ansLines ++ r) tl (e3 a (by simp)).2
    have h2 := ih (fun b hb => e3 b (by simp [hb]))
    omega
theorem caseV_ints (lim : List Nat) : ∃ m0 m1 m2 m3 m4 m5 : Int, ∀ dv va vs, caseV dv lim va vs = #[dv, .int .i64 m0, .int .i64 m1, .int .i64 m2, .int .i64 m3, .int .i64 m4, .int .i64 m5, va, vs] := ⟨_, _, _, _, _, _, fun _ _ _ => rfl⟩
/-- The three results laid down. -/
theorem three_laid {w : World} {N : Nat} {old cs : Array Value} {x y : Int} (hc : w.heap[N]? = some (.cells old 29)) (h1 : w.heap[N + 1]? = some (.cells #[.int .i64 0] 3)) (h2 : w.heap[N + 2]? = some (.cells #[.int .i64 0] 30)) :
    (w.setRow N cs).cell? ⟨N + 1, 0, none⟩ = some (.int .i64 0) ∧ (w.setRow N cs).frozen? ⟨N + 1, 0, none⟩ = false ∧ ((w.setRow N cs).setCell ⟨N + 1, 0, none⟩ (.int .i64 x)).cell? ⟨N + 2, 0, none⟩ = some (.int .i64 0) ∧ ((w.setRow N cs).setCell ⟨N + 1, 0, none⟩ (.int .i64 x)).frozen? ⟨N + 2, 0, none⟩ = false ∧
    Hid ((((w.setRow N cs).setCell ⟨N + 1, 0, none⟩ (.int .i64 x)).setCell ⟨N + 2, 0, none⟩ (.int .i64 y)).heap[N]? = some (.cells cs 29) ∧ (((w.setRow N cs).setCell ⟨N + 1, 0, none⟩ (.int .i64 x)).setCell ⟨N + 2, 0, none⟩ (.int .i64 y)).heap[N + 1]? = some (.cells #[.int .i64 x] 3) ∧ (((w.setRow N cs).setCell ⟨N + 1, 0, none⟩ (.int .i64 x)).setCell ⟨N + 2, 0, none⟩ (.int .i64 y)).heap[N + 2]? = some (.cells #[.int .i64 y] 30) ∧
      Below N w (((w.setRow N cs).setCell ⟨N + 1, 0, none⟩ (.int .i64 x)).setCell ⟨N + 2, 0, none⟩ (.int .i64 y)) ∧ (((w.setRow N cs).setCell ⟨N + 1, 0, none⟩ (.int .i64 x)).setCell ⟨N + 2, 0, none⟩ (.int .i64 y)).heap.size = w.heap.size ∧ ∀ k, N + 3 ≤ k → (((w.setRow N cs).setCell ⟨N + 1, 0, none⟩ (.int .i64 x)).setCell ⟨N + 2, 0, none⟩ (.int .i64 y)).heap[k]? = w.heap[k]?) := by
  have b1 : (w.setRow N cs).heap[N + 1]? = some (.cells #[.int .i64 0] 3) := (setRow_other _ _ _ _ (by omega)).trans h1
  have b2 : (w.setRow N cs).heap[N + 2]? = some (.cells #[.int .i64 0] 30) := (setRow_other _ _ _ _ (by omega)).trans h2
  have b0 : (w.setRow N cs).heap[N]? = some (.cells cs 29) := setRow_heap _ _ _ _ _ _ hc
  have b3 : ((w.setRow N cs).setCell ⟨N + 1, 0, none⟩ (.int .i64 x)).heap[N + 2]? = some (.cells #[.int .i64 0] 30) := (hp_other (by omega)).trans b2
  refine ⟨by rw [cell_of 0 b1]; rfl, free_of 0 b1, by rw [cell_of 0 b3]; rfl, free_of 0 b3, Lib.hid ⟨(hp_other (by omega)).trans ((hp_other (by omega)).trans b0), (hp_other (by omega)).trans (hp_set b1), hp_set b3, ?_, ?_, ?_⟩⟩
  · exact ((below_setRow (Below.refl N w) (Nat.le_refl _) cs).setCell (p := ⟨N + 1, 0, none⟩) (show N ≤ N + 1 by omega) _).setCell (p := ⟨N + 2, 0, none⟩) (show N ≤ N + 2 by omega) _
  · simp only [World.setCell, World.setRow, Array.size_modify]
  · intro k hk
    exact (hp_other (show k ≠ N + 2 by omega)).trans ((hp_other (show k ≠ N + 1 by omega)).trans (setRow_other _ _ _ _ (by omega)))
theorem map_flat_str (al : List (List UInt8)) : al.map strV = al.flatMap cS1 := by
  induction al with
  | nil => rfl
  | cons a al ih => rw [List.map_cons, List.flatMap_cons, ih]; rfl
/-- A case that lies in memory, as read. -/
theorem case_at {w W : World} {N : Nat} {A1 A2 A3 : Option Addr} {c1 c2 c3 : Nat} {doc : List UInt8} {lim : List Nat} {al : List (List UInt8)} {ys : List AnV} (hA : Byt w w.heap.size A1 doc.length c1 doc) (hlo : ∀ p, A1 = some p → N + 4 ≤ p.block) (hal : OwnS w (N + 4) (.slice A2 al.length c2) al) (hO : OwnA w (N + 4) (.slice A3 ys.length c3) ys)
    (hs : w.heap.size ≤ W.heap.size) (hk : ∀ k, N + 4 ≤ k → k < w.heap.size → W.heap[k]? = w.heap[k]?) : CaseAt W (.agg (caseV (.slice A1 doc.length c1) lim (.slice A2 al.length c2) (.slice A3 ys.length c3))) ⟨doc, lim, al, ys.map AnV.a⟩ := by
  have hal2 : W.ownsRow (N + 4) 9 1 (.slice A2 al.length c2) al.length (al.flatMap cS1) := by
    rw [← map_flat_str]
    exact ownsRow_keep hal hk
  have hO2 := hO.keep hs hk
  obtain ⟨A, cp, e, hR⟩ := RRd.ofOwn (c := cS1) (fun _ => rfl) (by decide) hal2
  cases e
  obtain ⟨A, cp, e, hR3⟩ := hO2.own.rrd cAn_len (by decide)
  cases e
  refine ⟨A1, A2, A3, c1, c2, c3, ys, ?_, rd_keepAt hA hs fun p hp hb => hk _ (hlo p hp) hb, hR, rfl, ?_, hO2.ok⟩
  · show Value.agg (caseV _ lim _ (.slice A3 ys.length c3)) = Value.agg (caseV _ lim _ (.slice A3 (ys.map AnV.a).length c3))
    rw [List.length_map]
  · show RRd cAn 3 W W.heap.size A3 (ys.map AnV.a).length c3 ys
    rw [List.length_map]
    exact hR3
end Go.Proofs.YtbllodeanfdebaaGreatDoor
