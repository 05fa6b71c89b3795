/- Texts of ours, joined: Tok6, Tok2, Tok2b, Tok3, Tok6b, Tok7, Tok9. -/
import Derived.Test.YtmclngahdklfkaaDoorRows
import Derived.WalkKit
import Derived.ProofKit
import Derived.OpenShut
import Derived.ShutString
import Derived.ChangeOld
import Derived.Below
import Derived.BigQuiet
import Derived.Deep.QuietTactic
import Derived.Lib.Hide
import Derived.Deep.RegionHeld3
import Derived.Lib.SlBytesConst
import Derived.Laws.CopyOwn
import Derived.Laws.CopyRow
import Derived.Lib.Bytes
import Derived.Deep.LoopGhost
import Derived.Deep.DeepFit
import Derived.Deep.DeepMust
import Derived.WalkSpells
import Derived.WalkLawsBesides
import Derived.Maps.OwnOps
import Derived.Maps.OwnSet
import Derived.Maps.Views
import Derived.Laws.EntriesVeiled
import Derived.Laws.Rows
import Derived.Maps.AppendAt
import Derived.Lib.SmallJoins
import Derived.Test.YtmclngahdklfkaaDoorM1
import Derived.Test.YtmclngahdklfkaaDoorM4
import Derived.Test.YtmclngahdklfkaaDoorM3
import Derived.Test.YtmclngahdklfkaaDoorM2
import Derived.Test.YtmclngahdklfkaaDoorM5
import Derived.Test.YtmclngahdklfkaaDoorM6
import Derived.Test.YtmclngahdklfkaaDoorM7
import Derived.Deep.AppendLies
import Derived.Deep.RegionLaw
/- narthexref11.All. -/
namespace Go.Proofs.YtmclngahdklfkaaDoor
open Go.ChangeShapes Go.WideShapes Go.ChangeAt Go.RowKit
set_option linter.unusedVariables false
/-- What the reading of tokens leaves: the row, the place reached, the error. -/
def AllPost (o : List TokL × Nat × Nat) (w : World) (e : Ending) (w' : World) : Prop :=
  ∃ A n c vs, e = .returned (.tuple #[.slice A n c, .int .i64 (o.2.1 : Int), .int .i64 (o.2.2 : Int)]) ∧ vs.map TokV.t = o.1 ∧ TRd w' w'.heap.size A n c vs ∧ Below w.heap.size w w'
theorem AllPost.bad {t x : Nat} {w w' : World} {e : Ending} (he : e = .returned (.tuple #[.slice none 0 0, .int .i64 (t : Int), .int .i64 (x : Int)])) (hb : Below w.heap.size w w') : AllPost ([], t, x) w e w' :=
  ⟨none, 0, 0, [], he, rfl, TRd.nilR _ _, hb⟩
theorem AllPost.good {T : TypeId} {w w' : World} {e : Ending} {vs : List TokV} {base t : Nat} {v : Value} (hG : GrowT T w w' base v vs) (he : e = .returned (.tuple #[v, .int .i64 (t : Int), .int .i64 0])) : AllPost (vs.map TokV.t, t, 0) w e w' := by
  obtain ⟨A, c, rfl, hr⟩ := TRd.ofOwn hG.own hG.prs
  exact ⟨A, vs.length, c, vs, he, rfl, hr, hG.below⟩
theorem nextAt_in (l : List UInt8) (t : Nat) (h : t < l.length) : nextAt l t = nextOut l t := by
  unfold nextAt
  rw [if_neg (by omega), if_neg (by omega), Int.toNat_natCast]
theorem GrowT.fresh {T : TypeId} {w wr : World} {base : Nat} {v : Value} {vs : List TokV} (h : GrowT T w wr base v vs) {b : Nat} (hb : wr.heap.size ≤ b) : some b ≠ v.ownBlock := fun e => by
  have := (ownBlock_lt h.own e.symm).1
  omega
theorem wpList_appH {P : Program} {ops : Array Oper} {rest : List Oper} {o : Oper} {a : Act} {Q : Exit → Act → World → Prop} {w : World} (hgd : o.guard = none) (s x : Operand) (t e : TypeId)
    (ho : o.op = .call { callee := .builtin .append, args := #[s, x], argTypes := #[t, t] }) (z : Value) (k bytes : Nat) (ht : P.underlying t = some (.slice e))
    (hi : ∃ i, P.info? e = some i ∧ i.zero = some z ∧ i.size = k ∧ i.bytes = bytes) (hzs : z.cells.size = k) (hk : 0 < k)
    (base : Nat) (v : Value) (n : Nat) (xs : List Value) (hs : a.eval s = v) (hown : w.ownsRow base e k v n xs) (us : List Value) (us' : Array Value) (hus : us' = us.toArray) (H : Nat) (hH : w.heap.size = H) (hx : a.eval x = .slice (some ⟨H, 0, none⟩) 1 1)
    (hl : us.length = k) (h1 : ∀ u ∈ us, u.oneCell' = true) (hn : n ≤ 1000000000) (hby : bytes ≤ 1000) (hbase : base ≤ w.heap.size)
    (h : ∀ v' w', w'.ownsRow base e k v' (n + 1) (xs ++ us) → (w.alloc (.cells us' e)).grownBy w' v.ownBlock → (v'.ownBlock = v.ownBlock ∨ v'.ownBlock = some (w.heap.size + 1)) → wpList P ops Q rest (a.put o.dst v') w') : wpList P ops Q (o :: rest) a (w.alloc (.cells us' e)) := by
  subst hH
  exact wpList_appK hgd s x t e ho z k bytes ht hi hzs hk base v n xs hs hown us us' hus hx hl h1 hn hby hbase h
theorem info_tok : ∃ i, Tryd.prog.info? 27 = some i ∧ i.zero = some (.agg #[.int .i64 0, .int .i64 0, .int .i64 0, .string ⟨#[]⟩, .string ⟨#[]⟩, .slice none 0 0, .int .i64 0]) ∧ i.size = 7 ∧ i.bytes = 88 := by
  obtain ⟨i, h1, h2, h3, h4⟩ := info_parts (show (Tryd.prog.info? 27).map (fun i => (i.zero, i.size, i.bytes)) = some (some (.agg #[.int .i64 0, .int .i64 0, .int .i64 0, .string ⟨#[]⟩, .string ⟨#[]⟩, .slice none 0 0, .int .i64 0]), 7, 88) by kernel_rfl)
  exact ⟨i, h1, h2, h3, h4⟩
end Go.Proofs.YtmclngahdklfkaaDoor
/- tok.read, arm by arm. -/
namespace Go.Proofs.YtmclngahdklfkaaDoor
open Go.ChangeShapes Go.WideShapes Go.ChangeAt Go.RowKit
set_option linter.unusedVariables false
/-- While a token is read: the boxes of the bytes and of the place, the token's own block. -/
structure RJ (A : Option Addr) (n cap k : Nat) (w W : World) (rs : Array Value) : Prop where
  below : Below w.heap.size w W
  size : w.heap.size + 1 + 1 < W.heap.size
  bs : W.heap[w.heap.size]? = some (.cells #[.slice A n cap] 37)
  at_ : W.heap[w.heap.size + 1]? = some (.cells #[.int .i64 (k : Int)] 3)
  tok : W.heap[w.heap.size + 1 + 1]? = some (.cells rs 27)
theorem RJ.start (A : Option Addr) (n cap k : Nat) (w : World) : RJ A n cap k w (((w.alloc (.cells #[.slice A n cap] 37)).alloc (.cells #[.int .i64 (k : Int)] 3)).alloc (.cells #[.int .i64 0, .int .i64 0, .int .i64 0, .string ⟨#[]⟩, .string ⟨#[]⟩, .slice none 0 0, .int .i64 0] 27)) #[.int .i64 0, .int .i64 0, .int .i64 0, .string ⟨#[]⟩, .string ⟨#[]⟩, .slice none 0 0, .int .i64 0] := by
  have b1 := (Below.refl w.heap.size w).alloc (Nat.le_refl _) (.cells #[.slice A n cap] 37)
  have b2 := b1.alloc (by simp) (.cells #[.int .i64 (k : Int)] 3)
  refine ⟨b2.alloc (by simp; omega) (.cells #[.int .i64 0, .int .i64 0, .int .i64 0, .string ⟨#[]⟩, .string ⟨#[]⟩, .slice none 0 0, .int .i64 0] 27), by simp, ?_, ?_, ?_⟩
  · rw [Below.heap_alloc _ _ _ (by simp; omega), Below.heap_alloc _ _ _ (by simp)]; exact hp_new _ _
  · rw [Below.heap_alloc _ _ _ (by simp)]
    have := hp_new (w.alloc (.cells #[.slice A n cap] 37)) (.cells #[.int .i64 (k : Int)] 3)
    rwa [World.size_alloc] at this
  · have := hp_new ((w.alloc (.cells #[.slice A n cap] 37)).alloc (.cells #[.int .i64 (k : Int)] 3)) (.cells #[.int .i64 0, .int .i64 0, .int .i64 0, .string ⟨#[]⟩, .string ⟨#[]⟩, .slice none 0 0, .int .i64 0] 27)
    rwa [World.size_alloc, World.size_alloc] at this
theorem RJ.kept {A : Option Addr} {n cap k : Nat} {w W W' : World} {rs : Array Value} (h : RJ A n cap k w W rs) (hb : Below W.heap.size W W') : RJ A n cap k w W' rs :=
  ⟨h.below.trans (hb.mono h.below.size), by have := hb.size; have := h.size; omega, by rw [hb.block _ (by have := h.size; omega)]; exact h.bs, by rw [hb.block _ (by have := h.size; omega)]; exact h.at_, by rw [hb.block _ h.size]; exact h.tok⟩
theorem RJ.set {A : Option Addr} {n cap k : Nat} {w W : World} {rs : Array Value} (h : RJ A n cap k w W rs) (i : Nat) (v : Value) : RJ A n cap k w (W.setCell ⟨w.heap.size + 1 + 1, i, none⟩ v) (rs.setIfInBounds i v) :=
  ⟨h.below.setCell (p := ⟨w.heap.size + 1 + 1, i, none⟩) (by show w.heap.size ≤ w.heap.size + 1 + 1; omega) v, by simpa using h.size, by rw [hp_other (by omega)]; exact h.bs, by rw [hp_other (by omega)]; exact h.at_, hp_set h.tok⟩
theorem RJ.row {A : Option Addr} {n cap k : Nat} {w W : World} {rs : Array Value} (h : RJ A n cap k w W rs) (cs : Array Value) : RJ A n cap k w (W.setRow (w.heap.size + 1 + 1) cs) cs := by
  refine ⟨⟨h.below.os, h.below.tape, h.below.output, ?_, fun j hj => ?_⟩, ?_, ?_, ?_, setRow_heap _ _ _ _ _ _ h.tok⟩
  · have := h.below.size; simpa [World.setRow] using this
  · rw [setRow_other _ _ _ _ (by omega)]; exact h.below.block j hj
  · simpa [World.setRow] using h.size
  · rw [setRow_other _ _ _ _ (by omega)]; exact h.bs
  · rw [setRow_other _ _ _ _ (by omega)]; exact h.at_
/-- What the reading of a token leaves, of a token without attributes. -/
theorem TokPost.plain {t : TokL} {x : Nat} {w w' : World} {e : Ending} (hp : t.pairs = []) (he : e = .returned (.tuple #[.agg (TokV.cells ⟨t, none, 0, 0⟩).toArray, .int .i64 (x : Int)])) (hb : Below w.heap.size w w') : TokPost (t, x) w e w' :=
  ⟨⟨t, none, 0, 0⟩, rfl, he, by rw [hp]; exact PRd.nilR _ _, hb, fun b i h => by cases h⟩
set_option maxRecDepth 100000 in
set_option maxHeartbeats 8000000 in
theorem tokRead_comment (A : Option Addr) (n cap : Nat) (l : List UInt8) (k : Nat) (w : World) (h : Byt w w.heap.size A n cap l) (hW : W11 w) (hm : n ≤ 40000) (hk : k ≤ n) (h0 : [60, 33, 45, 45].isPrefixOf (l.drop k) = true) :
    Calls Tryd.prog 11 #[.slice A n cap, .int .i64 (k : Int)] w fun e w' => TokPost (readTok l k) w e w' := by
  have hln := h.length
  have HK : Hid (∀ W rs, RJ A n cap k w W rs → Byt W W.heap.size A n cap l ∧ W11 W) := Lib.hid fun W rs hJ => ⟨(h.below hJ.below).more hJ.below.size, hW.below hJ.below⟩
  have S0 : Hid (∀ W rs, RJ A n cap k w W rs → Calls Tryd.prog 12 #[.string ⟨#[60, 33, 45, 45]⟩, .pointer (some ⟨w.heap.size, 0, none⟩), .pointer (some ⟨w.heap.size + 1, 0, none⟩)] W fun e w' => e = .returned (.bool true) ∧ Below W.heap.size W w') := Lib.hid fun W rs hJ => by
    have := stands1_c A n cap l k w.heap.size (w.heap.size + 1) [60, 33, 45, 45] W (HK.out W rs hJ).1 hk (by decide) (cell_of 0 hJ.bs) (cell_of 0 hJ.at_)
    rwa [h0] at this
  have C : Hid (∀ W rs, RJ A n cap k w W rs → Calls Tryd.prog 14 #[.slice A n cap, .int .i64 (k : Int)] W fun e w' => e = .returned (outV (commentOut l k)) ∧ Below W.heap.size W w') := Lib.hid fun W rs hJ => by
    have hB := (HK.out W rs hJ).1
    have hW := (HK.out W rs hJ).2
    have := miscComment_c A n cap l k W hB hW.maxl (by omega)
    have he : anyAt commentOut l k = commentOut l k := by
      unfold anyAt
      rw [hln, if_neg (by omega), Int.toNat_natCast]
    rwa [he] at this
  unfold readTok
  rw [if_pos h0]
  generalize commentOut l k = o at *
  obtain ⟨s, t, e⟩ := o
  unfold outV at C
  simp only at C ⊢
  have J0 := Lib.hid (RJ.start A n cap k w)
  have hi : (Tryd.prog.info? 27).map (·.size) = some 7 := by kernel_rfl
  obtain ⟨sd, hu⟩ := isStruct_of (P := Tryd.prog) (t := 27) (by kernel_rfl)
  have HU := Lib.hid (And.intro hi hu)
  have hk0 : (0 : Int) ≤ (k : Int) := by omega
  have hk1 : (k : Int) ≤ 40000 := by omega
  clear h hW hln HK hi hu h0
  go_enter Tryd.func11, Tryd.ntmps11
  go_wp2_with fail
  refine (S0.out _ _ J0.out).mono ?_
  rintro e0 w1 ⟨rfl, hb⟩
  have J1 := Lib.hid (J0.out.kept hb)
  clear hb
  have z0 := cell_of 0 J1.out.tok
  have y0 := free_of 0 J1.out.tok
  have JA : Hid (RJ A n cap k w (w1.setCell ⟨w.heap.size + 1 + 1, 0, none⟩ (.int .i64 5)) #[.int .i64 5, .int .i64 0, .int .i64 0, .string ⟨#[]⟩, .string ⟨#[]⟩, .slice none 0 0, .int .i64 0]) := Lib.hid (J1.out.set 0 (.int .i64 5))
  have zb := cell_of 0 JA.out.bs
  have za := cell_of 0 JA.out.at_
  go_wp2_with fail
  clear z0 y0
  generalize w1.setCell ⟨w.heap.size + 1 + 1, 0, none⟩ (.int .i64 5) = v1 at *
  refine (C.out _ _ JA.out).mono ?_
  rintro e0 u0 ⟨rfl, hb⟩
  have K0 := Lib.hid (JA.out.kept hb)
  clear hb zb za
  have z1 := cell_of 4 K0.out.tok
  have y1 := free_of 4 K0.out.tok
  have K1 : Hid (RJ A n cap k w (u0.setCell ⟨w.heap.size + 1 + 1, 4, none⟩ (.string ⟨s.toArray⟩)) #[.int .i64 5, .int .i64 0, .int .i64 0, .string ⟨#[]⟩, .string ⟨s.toArray⟩, .slice none 0 0, .int .i64 0]) := Lib.hid (K0.out.set 4 (.string ⟨s.toArray⟩))
  have z2 := cell_of 2 K1.out.tok
  have y2 := free_of 2 K1.out.tok
  have K2 : Hid (RJ A n cap k w ((u0.setCell ⟨w.heap.size + 1 + 1, 4, none⟩ (.string ⟨s.toArray⟩)).setCell ⟨w.heap.size + 1 + 1, 2, none⟩ (.int .i64 (t : Int))) #[.int .i64 5, .int .i64 0, .int .i64 (t : Int), .string ⟨#[]⟩, .string ⟨s.toArray⟩, .slice none 0 0, .int .i64 0]) := Lib.hid (K1.out.set 2 (.int .i64 (t : Int)))
  have JF := Lib.hid (K2.out.row #[.int .i64 5, .int .i64 0, .int .i64 (t : Int), .string ⟨#[]⟩, .string ⟨s.toArray⟩, .slice none 0 0, .int .i64 0])
  go_wp2_with (first | (refine wpList_load_row rfl _ _ rfl (w.heap.size + 1 + 1) rfl _ _ _ _ K2.out.tok HU.out.2 rfl HU.out.1 ?_) | (refine wpList_store_row rfl _ _ _ rfl (w.heap.size + 1 + 1) #[.int .i64 5, .int .i64 0, .int .i64 (t : Int), .string ⟨#[]⟩, .string ⟨s.toArray⟩, .slice none 0 0, .int .i64 0] rfl rfl _ _ K2.out.tok (by kernel_rfl) rfl (by kernel_rfl) ?_))
  (try simp only [Exit.inBlock, Exit.then])
  exact bodyPost_ret (results_cell2 rfl _ _ (w.heap.size + 1 + 1) _ _ _ _ rfl JF.out.tok HU.out.2 rfl HU.out.1) rfl (TokPost.plain rfl rfl JF.out.below)
set_option maxRecDepth 100000 in
set_option maxHeartbeats 8000000 in
theorem tokRead_cdata (A : Option Addr) (n cap : Nat) (l : List UInt8) (k : Nat) (w : World) (h : Byt w w.heap.size A n cap l) (hW : W11 w) (hm : n ≤ 40000) (hk : k ≤ n) (h0 : [60, 33, 45, 45].isPrefixOf (l.drop k) = false) (h1 : [60, 33, 91, 67, 68, 65, 84, 65, 91].isPrefixOf (l.drop k) = true) :
    Calls Tryd.prog 11 #[.slice A n cap, .int .i64 (k : Int)] w fun e w' => TokPost (readTok l k) w e w' := by
  have hln := h.length
  have HK : Hid (∀ W rs, RJ A n cap k w W rs → Byt W W.heap.size A n cap l ∧ W11 W) := Lib.hid fun W rs hJ => ⟨(h.below hJ.below).more hJ.below.size, hW.below hJ.below⟩
  have S0 : Hid (∀ W rs, RJ A n cap k w W rs → Calls Tryd.prog 12 #[.string ⟨#[60, 33, 45, 45]⟩, .pointer (some ⟨w.heap.size, 0, none⟩), .pointer (some ⟨w.heap.size + 1, 0, none⟩)] W fun e w' => e = .returned (.bool false) ∧ Below W.heap.size W w') := Lib.hid fun W rs hJ => by
    have := stands1_c A n cap l k w.heap.size (w.heap.size + 1) [60, 33, 45, 45] W (HK.out W rs hJ).1 hk (by decide) (cell_of 0 hJ.bs) (cell_of 0 hJ.at_)
    rwa [h0] at this
  have S1 : Hid (∀ W rs, RJ A n cap k w W rs → Calls Tryd.prog 12 #[.string ⟨#[60, 33, 91, 67, 68, 65, 84, 65, 91]⟩, .pointer (some ⟨w.heap.size, 0, none⟩), .pointer (some ⟨w.heap.size + 1, 0, none⟩)] W fun e w' => e = .returned (.bool true) ∧ Below W.heap.size W w') := Lib.hid fun W rs hJ => by
    have := stands1_c A n cap l k w.heap.size (w.heap.size + 1) [60, 33, 91, 67, 68, 65, 84, 65, 91] W (HK.out W rs hJ).1 hk (by decide) (cell_of 0 hJ.bs) (cell_of 0 hJ.at_)
    rwa [h1] at this
  have C : Hid (∀ W rs, RJ A n cap k w W rs → Calls Tryd.prog 15 #[.slice A n cap, .int .i64 (k : Int)] W fun e w' => e = .returned (outV (cdataOut l k)) ∧ Below W.heap.size W w') := Lib.hid fun W rs hJ => by
    have hB := (HK.out W rs hJ).1
    have hW := (HK.out W rs hJ).2
    have := miscCData_c A n cap l k W hB hW.maxl (by omega)
    have he : anyAt cdataOut l k = cdataOut l k := by
      unfold anyAt
      rw [hln, if_neg (by omega), Int.toNat_natCast]
    rwa [he] at this
  unfold readTok
  rw [if_neg (by rw [h0]; simp), if_pos h1]
  generalize cdataOut l k = o at *
  obtain ⟨s, t, e⟩ := o
  unfold outV at C
  simp only at C ⊢
  have J0 := Lib.hid (RJ.start A n cap k w)
  have hi : (Tryd.prog.info? 27).map (·.size) = some 7 := by kernel_rfl
  obtain ⟨sd, hu⟩ := isStruct_of (P := Tryd.prog) (t := 27) (by kernel_rfl)
  have HU := Lib.hid (And.intro hi hu)
  have hk0 : (0 : Int) ≤ (k : Int) := by omega
  have hk1 : (k : Int) ≤ 40000 := by omega
  clear h hW hln HK hi hu h0 h1
  go_enter Tryd.func11, Tryd.ntmps11
  go_wp2_with fail
  refine (S0.out _ _ J0.out).mono ?_
  rintro e0 w1 ⟨rfl, hb⟩
  have J1 := Lib.hid (J0.out.kept hb)
  clear hb
  go_wp2_with fail
  refine (S1.out _ _ J1.out).mono ?_
  rintro e0 w2 ⟨rfl, hb⟩
  have J2 := Lib.hid (J1.out.kept hb)
  clear hb
  have z0 := cell_of 0 J2.out.tok
  have y0 := free_of 0 J2.out.tok
  have JA : Hid (RJ A n cap k w (w2.setCell ⟨w.heap.size + 1 + 1, 0, none⟩ (.int .i64 4)) #[.int .i64 4, .int .i64 0, .int .i64 0, .string ⟨#[]⟩, .string ⟨#[]⟩, .slice none 0 0, .int .i64 0]) := Lib.hid (J2.out.set 0 (.int .i64 4))
  have zb := cell_of 0 JA.out.bs
  have za := cell_of 0 JA.out.at_
  go_wp2_with fail
  clear z0 y0
  generalize w2.setCell ⟨w.heap.size + 1 + 1, 0, none⟩ (.int .i64 4) = v1 at *
  refine (C.out _ _ JA.out).mono ?_
  rintro e0 u0 ⟨rfl, hb⟩
  have K0 := Lib.hid (JA.out.kept hb)
  clear hb zb za
  have z1 := cell_of 4 K0.out.tok
  have y1 := free_of 4 K0.out.tok
  have K1 : Hid (RJ A n cap k w (u0.setCell ⟨w.heap.size + 1 + 1, 4, none⟩ (.string ⟨s.toArray⟩)) #[.int .i64 4, .int .i64 0, .int .i64 0, .string ⟨#[]⟩, .string ⟨s.toArray⟩, .slice none 0 0, .int .i64 0]) := Lib.hid (K0.out.set 4 (.string ⟨s.toArray⟩))
  have z2 := cell_of 2 K1.out.tok
  have y2 := free_of 2 K1.out.tok
  have K2 : Hid (RJ A n cap k w ((u0.setCell ⟨w.heap.size + 1 + 1, 4, none⟩ (.string ⟨s.toArray⟩)).setCell ⟨w.heap.size + 1 + 1, 2, none⟩ (.int .i64 (t : Int))) #[.int .i64 4, .int .i64 0, .int .i64 (t : Int), .string ⟨#[]⟩, .string ⟨s.toArray⟩, .slice none 0 0, .int .i64 0]) := Lib.hid (K1.out.set 2 (.int .i64 (t : Int)))
  have JF := Lib.hid (K2.out.row #[.int .i64 4, .int .i64 0, .int .i64 (t : Int), .string ⟨#[]⟩, .string ⟨s.toArray⟩, .slice none 0 0, .int .i64 0])
  go_wp2_with (first | (refine wpList_load_row rfl _ _ rfl (w.heap.size + 1 + 1) rfl _ _ _ _ K2.out.tok HU.out.2 rfl HU.out.1 ?_) | (refine wpList_store_row rfl _ _ _ rfl (w.heap.size + 1 + 1) #[.int .i64 4, .int .i64 0, .int .i64 (t : Int), .string ⟨#[]⟩, .string ⟨s.toArray⟩, .slice none 0 0, .int .i64 0] rfl rfl _ _ K2.out.tok (by kernel_rfl) rfl (by kernel_rfl) ?_))
  (try simp only [Exit.inBlock, Exit.then])
  exact bodyPost_ret (results_cell2 rfl _ _ (w.heap.size + 1 + 1) _ _ _ _ rfl JF.out.tok HU.out.2 rfl HU.out.1) rfl (TokPost.plain rfl rfl JF.out.below)
set_option maxRecDepth 100000 in
set_option maxHeartbeats 8000000 in
theorem tokRead_pi (A : Option Addr) (n cap : Nat) (l : List UInt8) (k : Nat) (w : World) (h : Byt w w.heap.size A n cap l) (hW : W11 w) (hm : n ≤ 40000) (hk : k ≤ n) (h0 : [60, 33, 45, 45].isPrefixOf (l.drop k) = false) (h1 : [60, 33, 91, 67, 68, 65, 84, 65, 91].isPrefixOf (l.drop k) = false) (h2 : [60, 63].isPrefixOf (l.drop k) = true) :
    Calls Tryd.prog 11 #[.slice A n cap, .int .i64 (k : Int)] w fun e w' => TokPost (readTok l k) w e w' := by
  have hln := h.length
  have HK : Hid (∀ W rs, RJ A n cap k w W rs → Byt W W.heap.size A n cap l ∧ W11 W) := Lib.hid fun W rs hJ => ⟨(h.below hJ.below).more hJ.below.size, hW.below hJ.below⟩
  have S0 : Hid (∀ W rs, RJ A n cap k w W rs → Calls Tryd.prog 12 #[.string ⟨#[60, 33, 45, 45]⟩, .pointer (some ⟨w.heap.size, 0, none⟩), .pointer (some ⟨w.heap.size + 1, 0, none⟩)] W fun e w' => e = .returned (.bool false) ∧ Below W.heap.size W w') := Lib.hid fun W rs hJ => by
    have := stands1_c A n cap l k w.heap.size (w.heap.size + 1) [60, 33, 45, 45] W (HK.out W rs hJ).1 hk (by decide) (cell_of 0 hJ.bs) (cell_of 0 hJ.at_)
    rwa [h0] at this
  have S1 : Hid (∀ W rs, RJ A n cap k w W rs → Calls Tryd.prog 12 #[.string ⟨#[60, 33, 91, 67, 68, 65, 84, 65, 91]⟩, .pointer (some ⟨w.heap.size, 0, none⟩), .pointer (some ⟨w.heap.size + 1, 0, none⟩)] W fun e w' => e = .returned (.bool false) ∧ Below W.heap.size W w') := Lib.hid fun W rs hJ => by
    have := stands1_c A n cap l k w.heap.size (w.heap.size + 1) [60, 33, 91, 67, 68, 65, 84, 65, 91] W (HK.out W rs hJ).1 hk (by decide) (cell_of 0 hJ.bs) (cell_of 0 hJ.at_)
    rwa [h1] at this
  have S2 : Hid (∀ W rs, RJ A n cap k w W rs → Calls Tryd.prog 12 #[.string ⟨#[60, 63]⟩, .pointer (some ⟨w.heap.size, 0, none⟩), .pointer (some ⟨w.heap.size + 1, 0, none⟩)] W fun e w' => e = .returned (.bool true) ∧ Below W.heap.size W w') := Lib.hid fun W rs hJ => by
    have := stands1_c A n cap l k w.heap.size (w.heap.size + 1) [60, 63] W (HK.out W rs hJ).1 hk (by decide) (cell_of 0 hJ.bs) (cell_of 0 hJ.at_)
    rwa [h2] at this
  have C : Hid (∀ W rs, RJ A n cap k w W rs → Calls Tryd.prog 16 #[.slice A n cap, .int .i64 (k : Int)] W fun e w' => e = .returned (out4V (piOut l k)) ∧ Below W.heap.size W w') := Lib.hid fun W rs hJ => by
    have hB := (HK.out W rs hJ).1
    have hW := (HK.out W rs hJ).2
    have := miscPiAt_c A n cap l k W hB hW.w8f (by omega)
    have he : piAt l k = piOut l k := by
      unfold piAt
      rw [hln, if_neg (by omega), Int.toNat_natCast]
    rwa [he] at this
  unfold readTok
  rw [if_neg (by rw [h0]; simp), if_neg (by rw [h1]; simp), if_pos h2]
  generalize piOut l k = o at *
  obtain ⟨s, d, t, e⟩ := o
  unfold out4V at C
  simp only at C ⊢
  have J0 := Lib.hid (RJ.start A n cap k w)
  have hi : (Tryd.prog.info? 27).map (·.size) = some 7 := by kernel_rfl
  obtain ⟨sd, hu⟩ := isStruct_of (P := Tryd.prog) (t := 27) (by kernel_rfl)
  have HU := Lib.hid (And.intro hi hu)
  have hk0 : (0 : Int) ≤ (k : Int) := by omega
  have hk1 : (k : Int) ≤ 40000 := by omega
  clear h hW hln HK hi hu h0 h1 h2
  go_enter Tryd.func11, Tryd.ntmps11
  go_wp2_with fail
  refine (S0.out _ _ J0.out).mono ?_
  rintro e0 w1 ⟨rfl, hb⟩
  have J1 := Lib.hid (J0.out.kept hb)
  clear hb
  go_wp2_with fail
  refine (S1.out _ _ J1.out).mono ?_
  rintro e0 w2 ⟨rfl, hb⟩
  have J2 := Lib.hid (J1.out.kept hb)
  clear hb
  go_wp2_with fail
  refine (S2.out _ _ J2.out).mono ?_
  rintro e0 w3 ⟨rfl, hb⟩
  have J3 := Lib.hid (J2.out.kept hb)
  clear hb
  have z0 := cell_of 0 J3.out.tok
  have y0 := free_of 0 J3.out.tok
  have JA : Hid (RJ A n cap k w (w3.setCell ⟨w.heap.size + 1 + 1, 0, none⟩ (.int .i64 6)) #[.int .i64 6, .int .i64 0, .int .i64 0, .string ⟨#[]⟩, .string ⟨#[]⟩, .slice none 0 0, .int .i64 0]) := Lib.hid (J3.out.set 0 (.int .i64 6))
  have zb := cell_of 0 JA.out.bs
  have za := cell_of 0 JA.out.at_
  go_wp2_with fail
  clear z0 y0
  generalize w3.setCell ⟨w.heap.size + 1 + 1, 0, none⟩ (.int .i64 6) = v1 at *
  refine (C.out _ _ JA.out).mono ?_
  rintro e0 u0 ⟨rfl, hb⟩
  have K0 := Lib.hid (JA.out.kept hb)
  clear hb zb za
  have z1 := cell_of 3 K0.out.tok
  have y1 := free_of 3 K0.out.tok
  have K1 : Hid (RJ A n cap k w (u0.setCell ⟨w.heap.size + 1 + 1, 3, none⟩ (.string ⟨s.toArray⟩)) #[.int .i64 6, .int .i64 0, .int .i64 0, .string ⟨s.toArray⟩, .string ⟨#[]⟩, .slice none 0 0, .int .i64 0]) := Lib.hid (K0.out.set 3 (.string ⟨s.toArray⟩))
  have z2 := cell_of 4 K1.out.tok
  have y2 := free_of 4 K1.out.tok
  have K2 : Hid (RJ A n cap k w ((u0.setCell ⟨w.heap.size + 1 + 1, 3, none⟩ (.string ⟨s.toArray⟩)).setCell ⟨w.heap.size + 1 + 1, 4, none⟩ (.string ⟨d.toArray⟩)) #[.int .i64 6, .int .i64 0, .int .i64 0, .string ⟨s.toArray⟩, .string ⟨d.toArray⟩, .slice none 0 0, .int .i64 0]) := Lib.hid (K1.out.set 4 (.string ⟨d.toArray⟩))
  have z3 := cell_of 2 K2.out.tok
  have y3 := free_of 2 K2.out.tok
  have K3 : Hid (RJ A n cap k w (((u0.setCell ⟨w.heap.size + 1 + 1, 3, none⟩ (.string ⟨s.toArray⟩)).setCell ⟨w.heap.size + 1 + 1, 4, none⟩ (.string ⟨d.toArray⟩)).setCell ⟨w.heap.size + 1 + 1, 2, none⟩ (.int .i64 (t : Int))) #[.int .i64 6, .int .i64 0, .int .i64 (t : Int), .string ⟨s.toArray⟩, .string ⟨d.toArray⟩, .slice none 0 0, .int .i64 0]) := Lib.hid (K2.out.set 2 (.int .i64 (t : Int)))
  have JF := Lib.hid (K3.out.row #[.int .i64 6, .int .i64 0, .int .i64 (t : Int), .string ⟨s.toArray⟩, .string ⟨d.toArray⟩, .slice none 0 0, .int .i64 0])
  go_wp2_with (first | (refine wpList_load_row rfl _ _ rfl (w.heap.size + 1 + 1) rfl _ _ _ _ K3.out.tok HU.out.2 rfl HU.out.1 ?_) | (refine wpList_store_row rfl _ _ _ rfl (w.heap.size + 1 + 1) #[.int .i64 6, .int .i64 0, .int .i64 (t : Int), .string ⟨s.toArray⟩, .string ⟨d.toArray⟩, .slice none 0 0, .int .i64 0] rfl rfl _ _ K3.out.tok (by kernel_rfl) rfl (by kernel_rfl) ?_))
  (try simp only [Exit.inBlock, Exit.then])
  exact bodyPost_ret (results_cell2 rfl _ _ (w.heap.size + 1 + 1) _ _ _ _ rfl JF.out.tok HU.out.2 rfl HU.out.1) rfl (TokPost.plain rfl rfl JF.out.below)
set_option maxRecDepth 100000 in
set_option maxHeartbeats 8000000 in
theorem tokRead_close (A : Option Addr) (n cap : Nat) (l : List UInt8) (k : Nat) (w : World) (h : Byt w w.heap.size A n cap l) (hW : W11 w) (hm : n ≤ 40000) (hk : k ≤ n) (h0 : [60, 33, 45, 45].isPrefixOf (l.drop k) = false) (h1 : [60, 33, 91, 67, 68, 65, 84, 65, 91].isPrefixOf (l.drop k) = false) (h2 : [60, 63].isPrefixOf (l.drop k) = false) (h3 : [60, 47].isPrefixOf (l.drop k) = true) :
    Calls Tryd.prog 11 #[.slice A n cap, .int .i64 (k : Int)] w fun e w' => TokPost (readTok l k) w e w' := by
  have hln := h.length
  have HK : Hid (∀ W rs, RJ A n cap k w W rs → Byt W W.heap.size A n cap l ∧ W11 W) := Lib.hid fun W rs hJ => ⟨(h.below hJ.below).more hJ.below.size, hW.below hJ.below⟩
  have S0 : Hid (∀ W rs, RJ A n cap k w W rs → Calls Tryd.prog 12 #[.string ⟨#[60, 33, 45, 45]⟩, .pointer (some ⟨w.heap.size, 0, none⟩), .pointer (some ⟨w.heap.size + 1, 0, none⟩)] W fun e w' => e = .returned (.bool false) ∧ Below W.heap.size W w') := Lib.hid fun W rs hJ => by
    have := stands1_c A n cap l k w.heap.size (w.heap.size + 1) [60, 33, 45, 45] W (HK.out W rs hJ).1 hk (by decide) (cell_of 0 hJ.bs) (cell_of 0 hJ.at_)
    rwa [h0] at this
  have S1 : Hid (∀ W rs, RJ A n cap k w W rs → Calls Tryd.prog 12 #[.string ⟨#[60, 33, 91, 67, 68, 65, 84, 65, 91]⟩, .pointer (some ⟨w.heap.size, 0, none⟩), .pointer (some ⟨w.heap.size + 1, 0, none⟩)] W fun e w' => e = .returned (.bool false) ∧ Below W.heap.size W w') := Lib.hid fun W rs hJ => by
    have := stands1_c A n cap l k w.heap.size (w.heap.size + 1) [60, 33, 91, 67, 68, 65, 84, 65, 91] W (HK.out W rs hJ).1 hk (by decide) (cell_of 0 hJ.bs) (cell_of 0 hJ.at_)
    rwa [h1] at this
  have S2 : Hid (∀ W rs, RJ A n cap k w W rs → Calls Tryd.prog 12 #[.string ⟨#[60, 63]⟩, .pointer (some ⟨w.heap.size, 0, none⟩), .pointer (some ⟨w.heap.size + 1, 0, none⟩)] W fun e w' => e = .returned (.bool false) ∧ Below W.heap.size W w') := Lib.hid fun W rs hJ => by
    have := stands1_c A n cap l k w.heap.size (w.heap.size + 1) [60, 63] W (HK.out W rs hJ).1 hk (by decide) (cell_of 0 hJ.bs) (cell_of 0 hJ.at_)
    rwa [h2] at this
  have S3 : Hid (∀ W rs, RJ A n cap k w W rs → Calls Tryd.prog 12 #[.string ⟨#[60, 47]⟩, .pointer (some ⟨w.heap.size, 0, none⟩), .pointer (some ⟨w.heap.size + 1, 0, none⟩)] W fun e w' => e = .returned (.bool true) ∧ Below W.heap.size W w') := Lib.hid fun W rs hJ => by
    have := stands1_c A n cap l k w.heap.size (w.heap.size + 1) [60, 47] W (HK.out W rs hJ).1 hk (by decide) (cell_of 0 hJ.bs) (cell_of 0 hJ.at_)
    rwa [h3] at this
  have C : Hid (∀ W rs, RJ A n cap k w W rs → Calls Tryd.prog 17 #[.slice A n cap, .int .i64 (k : Int)] W fun e w' => e = .returned (outV (closeOut l k)) ∧ Below W.heap.size W w') := Lib.hid fun W rs hJ => by
    have hB := (HK.out W rs hJ).1
    have hW := (HK.out W rs hJ).2
    have := tagClose_in A n cap l k W hB hW.w10 hm hk
    exact this
  unfold readTok
  rw [if_neg (by rw [h0]; simp), if_neg (by rw [h1]; simp), if_neg (by rw [h2]; simp), if_pos h3]
  generalize closeOut l k = o at *
  obtain ⟨s, t, e⟩ := o
  unfold outV at C
  simp only at C ⊢
  have J0 := Lib.hid (RJ.start A n cap k w)
  have hi : (Tryd.prog.info? 27).map (·.size) = some 7 := by kernel_rfl
  obtain ⟨sd, hu⟩ := isStruct_of (P := Tryd.prog) (t := 27) (by kernel_rfl)
  have HU := Lib.hid (And.intro hi hu)
  have hk0 : (0 : Int) ≤ (k : Int) := by omega
  have hk1 : (k : Int) ≤ 40000 := by omega
  clear h hW hln HK hi hu h0 h1 h2 h3
  go_enter Tryd.func11, Tryd.ntmps11
  go_wp2_with fail
  refine (S0.out _ _ J0.out).mono ?_
  rintro e0 w1 ⟨rfl, hb⟩
  have J1 := Lib.hid (J0.out.kept hb)
  clear hb
  go_wp2_with fail
  refine (S1.out _ _ J1.out).mono ?_
  rintro e0 w2 ⟨rfl, hb⟩
  have J2 := Lib.hid (J1.out.kept hb)
  clear hb
  go_wp2_with fail
  refine (S2.out _ _ J2.out).mono ?_
  rintro e0 w3 ⟨rfl, hb⟩
  have J3 := Lib.hid (J2.out.kept hb)
  clear hb
  go_wp2_with fail
  refine (S3.out _ _ J3.out).mono ?_
  rintro e0 w4 ⟨rfl, hb⟩
  have J4 := Lib.hid (J3.out.kept hb)
  clear hb
  have z0 := cell_of 0 J4.out.tok
  have y0 := free_of 0 J4.out.tok
  have JA : Hid (RJ A n cap k w (w4.setCell ⟨w.heap.size + 1 + 1, 0, none⟩ (.int .i64 9)) #[.int .i64 9, .int .i64 0, .int .i64 0, .string ⟨#[]⟩, .string ⟨#[]⟩, .slice none 0 0, .int .i64 0]) := Lib.hid (J4.out.set 0 (.int .i64 9))
  have zb := cell_of 0 JA.out.bs
  have za := cell_of 0 JA.out.at_
  go_wp2_with fail
  clear z0 y0
  generalize w4.setCell ⟨w.heap.size + 1 + 1, 0, none⟩ (.int .i64 9) = v1 at *
  refine (C.out _ _ JA.out).mono ?_
  rintro e0 u0 ⟨rfl, hb⟩
  have K0 := Lib.hid (JA.out.kept hb)
  clear hb zb za
  have z1 := cell_of 3 K0.out.tok
  have y1 := free_of 3 K0.out.tok
  have K1 : Hid (RJ A n cap k w (u0.setCell ⟨w.heap.size + 1 + 1, 3, none⟩ (.string ⟨s.toArray⟩)) #[.int .i64 9, .int .i64 0, .int .i64 0, .string ⟨s.toArray⟩, .string ⟨#[]⟩, .slice none 0 0, .int .i64 0]) := Lib.hid (K0.out.set 3 (.string ⟨s.toArray⟩))
  have z2 := cell_of 2 K1.out.tok
  have y2 := free_of 2 K1.out.tok
  have K2 : Hid (RJ A n cap k w ((u0.setCell ⟨w.heap.size + 1 + 1, 3, none⟩ (.string ⟨s.toArray⟩)).setCell ⟨w.heap.size + 1 + 1, 2, none⟩ (.int .i64 (t : Int))) #[.int .i64 9, .int .i64 0, .int .i64 (t : Int), .string ⟨s.toArray⟩, .string ⟨#[]⟩, .slice none 0 0, .int .i64 0]) := Lib.hid (K1.out.set 2 (.int .i64 (t : Int)))
  have JF := Lib.hid (K2.out.row #[.int .i64 9, .int .i64 0, .int .i64 (t : Int), .string ⟨s.toArray⟩, .string ⟨#[]⟩, .slice none 0 0, .int .i64 0])
  go_wp2_with (first | (refine wpList_load_row rfl _ _ rfl (w.heap.size + 1 + 1) rfl _ _ _ _ K2.out.tok HU.out.2 rfl HU.out.1 ?_) | (refine wpList_store_row rfl _ _ _ rfl (w.heap.size + 1 + 1) #[.int .i64 9, .int .i64 0, .int .i64 (t : Int), .string ⟨s.toArray⟩, .string ⟨#[]⟩, .slice none 0 0, .int .i64 0] rfl rfl _ _ K2.out.tok (by kernel_rfl) rfl (by kernel_rfl) ?_))
  (try simp only [Exit.inBlock, Exit.then])
  exact bodyPost_ret (results_cell2 rfl _ _ (w.heap.size + 1 + 1) _ _ _ _ rfl JF.out.tok HU.out.2 rfl HU.out.1) rfl (TokPost.plain rfl rfl JF.out.below)
end Go.Proofs.YtmclngahdklfkaaDoor
/- tok.read, arm by arm: the rest. -/
namespace Go.Proofs.YtmclngahdklfkaaDoor
open Go.ChangeShapes Go.WideShapes Go.ChangeAt Go.RowKit
set_option linter.unusedVariables false
set_option maxRecDepth 100000 in
set_option maxHeartbeats 8000000 in
theorem tokRead_open (A : Option Addr) (n cap : Nat) (l : List UInt8) (k : Nat) (w : World) (h : Byt w w.heap.size A n cap l) (hW : W11 w) (hm : n ≤ 40000) (hk : k ≤ n) (h0 : [60, 33, 45, 45].isPrefixOf (l.drop k) = false) (h1 : [60, 33, 91, 67, 68, 65, 84, 65, 91].isPrefixOf (l.drop k) = false) (h2 : [60, 63].isPrefixOf (l.drop k) = false) (h3 : [60, 47].isPrefixOf (l.drop k) = false) (h4 : [60].isPrefixOf (l.drop k) = true) :
    Calls Tryd.prog 11 #[.slice A n cap, .int .i64 (k : Int)] w fun e w' => TokPost (readTok l k) w e w' := by
  have hln := h.length
  have HK : Hid (∀ W rs, RJ A n cap k w W rs → Byt W W.heap.size A n cap l ∧ W11 W) := Lib.hid fun W rs hJ => ⟨(h.below hJ.below).more hJ.below.size, hW.below hJ.below⟩
  have S0 : Hid (∀ W rs, RJ A n cap k w W rs → Calls Tryd.prog 12 #[.string ⟨#[60, 33, 45, 45]⟩, .pointer (some ⟨w.heap.size, 0, none⟩), .pointer (some ⟨w.heap.size + 1, 0, none⟩)] W fun e w' => e = .returned (.bool false) ∧ Below W.heap.size W w') := Lib.hid fun W rs hJ => by
    have := stands1_c A n cap l k w.heap.size (w.heap.size + 1) [60, 33, 45, 45] W (HK.out W rs hJ).1 hk (by decide) (cell_of 0 hJ.bs) (cell_of 0 hJ.at_)
    rwa [h0] at this
  have S1 : Hid (∀ W rs, RJ A n cap k w W rs → Calls Tryd.prog 12 #[.string ⟨#[60, 33, 91, 67, 68, 65, 84, 65, 91]⟩, .pointer (some ⟨w.heap.size, 0, none⟩), .pointer (some ⟨w.heap.size + 1, 0, none⟩)] W fun e w' => e = .returned (.bool false) ∧ Below W.heap.size W w') := Lib.hid fun W rs hJ => by
    have := stands1_c A n cap l k w.heap.size (w.heap.size + 1) [60, 33, 91, 67, 68, 65, 84, 65, 91] W (HK.out W rs hJ).1 hk (by decide) (cell_of 0 hJ.bs) (cell_of 0 hJ.at_)
    rwa [h1] at this
  have S2 : Hid (∀ W rs, RJ A n cap k w W rs → Calls Tryd.prog 12 #[.string ⟨#[60, 63]⟩, .pointer (some ⟨w.heap.size, 0, none⟩), .pointer (some ⟨w.heap.size + 1, 0, none⟩)] W fun e w' => e = .returned (.bool false) ∧ Below W.heap.size W w') := Lib.hid fun W rs hJ => by
    have := stands1_c A n cap l k w.heap.size (w.heap.size + 1) [60, 63] W (HK.out W rs hJ).1 hk (by decide) (cell_of 0 hJ.bs) (cell_of 0 hJ.at_)
    rwa [h2] at this
  have S3 : Hid (∀ W rs, RJ A n cap k w W rs → Calls Tryd.prog 12 #[.string ⟨#[60, 47]⟩, .pointer (some ⟨w.heap.size, 0, none⟩), .pointer (some ⟨w.heap.size + 1, 0, none⟩)] W fun e w' => e = .returned (.bool false) ∧ Below W.heap.size W w') := Lib.hid fun W rs hJ => by
    have := stands1_c A n cap l k w.heap.size (w.heap.size + 1) [60, 47] W (HK.out W rs hJ).1 hk (by decide) (cell_of 0 hJ.bs) (cell_of 0 hJ.at_)
    rwa [h3] at this
  have S4 : Hid (∀ W rs, RJ A n cap k w W rs → Calls Tryd.prog 12 #[.string ⟨#[60]⟩, .pointer (some ⟨w.heap.size, 0, none⟩), .pointer (some ⟨w.heap.size + 1, 0, none⟩)] W fun e w' => e = .returned (.bool true) ∧ Below W.heap.size W w') := Lib.hid fun W rs hJ => by
    have := stands1_c A n cap l k w.heap.size (w.heap.size + 1) [60] W (HK.out W rs hJ).1 hk (by decide) (cell_of 0 hJ.bs) (cell_of 0 hJ.at_)
    rwa [h4] at this
  have C : Hid (∀ W rs, RJ A n cap k w W rs → Calls Tryd.prog 18 #[.slice A n cap, .int .i64 (k : Int)] W fun e w' => TokPost (openTok l k) W e w') := Lib.hid fun W rs hJ => tokOpened_c A n cap l k W (HK.out W rs hJ).1 (HK.out W rs hJ).2 hm hk
  have hR : readTok l k = openTok l k := by
    unfold readTok
    rw [if_neg (by rw [h0]; simp), if_neg (by rw [h1]; simp), if_neg (by rw [h2]; simp), if_neg (by rw [h3]; simp), if_pos h4]
    rfl
  rw [hR]
  generalize openTok l k = o at *
  obtain ⟨o, oe⟩ := o
  have J0 := Lib.hid (RJ.start A n cap k w)
  have hi : (Tryd.prog.info? 27).map (·.size) = some 7 := by kernel_rfl
  obtain ⟨sd, hu⟩ := isStruct_of (P := Tryd.prog) (t := 27) (by kernel_rfl)
  have HU := Lib.hid (And.intro hi hu)
  have hk0 : (0 : Int) ≤ (k : Int) := by omega
  have hk1 : (k : Int) ≤ 40000 := by omega
  clear h hW hln HK hi hu h0 h1 h2 h3 h4
  go_enter Tryd.func11, Tryd.ntmps11
  go_wp2_with fail
  refine (S0.out _ _ J0.out).mono ?_
  rintro e0 w1 ⟨rfl, hb⟩
  have J1 := Lib.hid (J0.out.kept hb)
  clear hb
  go_wp2_with fail
  refine (S1.out _ _ J1.out).mono ?_
  rintro e0 w2 ⟨rfl, hb⟩
  have J2 := Lib.hid (J1.out.kept hb)
  clear hb
  go_wp2_with fail
  refine (S2.out _ _ J2.out).mono ?_
  rintro e0 w3 ⟨rfl, hb⟩
  have J3 := Lib.hid (J2.out.kept hb)
  clear hb
  go_wp2_with fail
  refine (S3.out _ _ J3.out).mono ?_
  rintro e0 w4 ⟨rfl, hb⟩
  have J4 := Lib.hid (J3.out.kept hb)
  clear hb
  go_wp2_with fail
  refine (S4.out _ _ J4.out).mono ?_
  rintro e0 w5 ⟨rfl, hb⟩
  have J5 := Lib.hid (J4.out.kept hb)
  clear hb
  have zb := cell_of 0 J5.out.bs
  have za := cell_of 0 J5.out.at_
  go_wp2_with fail
  refine (C.out _ _ J5.out).mono ?_
  rintro e0 u0 ⟨v, hv, rfl, hp, hb, hlo⟩
  have K0 := Lib.hid (J5.out.kept hb)
  have JF := Lib.hid (K0.out.row v.cells.toArray)
  have HP := Lib.hid (And.intro hp (fun b i h => Nat.lt_of_lt_of_le J5.out.size (hlo b i h)))
  clear hb hp hlo za zb
  go_wp2_with (refine wpList_store_row rfl _ _ _ rfl (w.heap.size + 1 + 1) v.cells.toArray rfl rfl _ _ K0.out.tok (by kernel_rfl) rfl (by kernel_rfl) ?_)
  (try simp only [Exit.inBlock, Exit.then])
  refine bodyPost_ret (results_cell2 rfl _ _ (w.heap.size + 1 + 1) _ _ _ _ rfl JF.out.tok HU.out.2 rfl HU.out.1) rfl ⟨v, hv, rfl, HP.out.1.move ?_ ?_, JF.out.below, fun b i h => by have := HP.out.2 b i h; omega⟩
  · simp [World.setRow]
  · intro b' i' hA hb'
    have hlt := HP.out.2 b' i' hA
    rw [setRow_at _ _ _ _ (by omega)]
set_option maxRecDepth 100000 in
set_option maxHeartbeats 8000000 in
theorem tokRead_char (A : Option Addr) (n cap : Nat) (l : List UInt8) (k : Nat) (w : World) (h : Byt w w.heap.size A n cap l) (hW : W11 w) (hm : n ≤ 40000) (hk : k ≤ n) (h0 : [60, 33, 45, 45].isPrefixOf (l.drop k) = false) (h1 : [60, 33, 91, 67, 68, 65, 84, 65, 91].isPrefixOf (l.drop k) = false) (h2 : [60, 63].isPrefixOf (l.drop k) = false) (h3 : [60, 47].isPrefixOf (l.drop k) = false) (h4 : [60].isPrefixOf (l.drop k) = false) (h5 : [38, 35].isPrefixOf (l.drop k) = true) :
    Calls Tryd.prog 11 #[.slice A n cap, .int .i64 (k : Int)] w fun e w' => TokPost (readTok l k) w e w' := by
  have hln := h.length
  have HK : Hid (∀ W rs, RJ A n cap k w W rs → Byt W W.heap.size A n cap l ∧ W11 W) := Lib.hid fun W rs hJ => ⟨(h.below hJ.below).more hJ.below.size, hW.below hJ.below⟩
  have S0 : Hid (∀ W rs, RJ A n cap k w W rs → Calls Tryd.prog 12 #[.string ⟨#[60, 33, 45, 45]⟩, .pointer (some ⟨w.heap.size, 0, none⟩), .pointer (some ⟨w.heap.size + 1, 0, none⟩)] W fun e w' => e = .returned (.bool false) ∧ Below W.heap.size W w') := Lib.hid fun W rs hJ => by
    have := stands1_c A n cap l k w.heap.size (w.heap.size + 1) [60, 33, 45, 45] W (HK.out W rs hJ).1 hk (by decide) (cell_of 0 hJ.bs) (cell_of 0 hJ.at_)
    rwa [h0] at this
  have S1 : Hid (∀ W rs, RJ A n cap k w W rs → Calls Tryd.prog 12 #[.string ⟨#[60, 33, 91, 67, 68, 65, 84, 65, 91]⟩, .pointer (some ⟨w.heap.size, 0, none⟩), .pointer (some ⟨w.heap.size + 1, 0, none⟩)] W fun e w' => e = .returned (.bool false) ∧ Below W.heap.size W w') := Lib.hid fun W rs hJ => by
    have := stands1_c A n cap l k w.heap.size (w.heap.size + 1) [60, 33, 91, 67, 68, 65, 84, 65, 91] W (HK.out W rs hJ).1 hk (by decide) (cell_of 0 hJ.bs) (cell_of 0 hJ.at_)
    rwa [h1] at this
  have S2 : Hid (∀ W rs, RJ A n cap k w W rs → Calls Tryd.prog 12 #[.string ⟨#[60, 63]⟩, .pointer (some ⟨w.heap.size, 0, none⟩), .pointer (some ⟨w.heap.size + 1, 0, none⟩)] W fun e w' => e = .returned (.bool false) ∧ Below W.heap.size W w') := Lib.hid fun W rs hJ => by
    have := stands1_c A n cap l k w.heap.size (w.heap.size + 1) [60, 63] W (HK.out W rs hJ).1 hk (by decide) (cell_of 0 hJ.bs) (cell_of 0 hJ.at_)
    rwa [h2] at this
  have S3 : Hid (∀ W rs, RJ A n cap k w W rs → Calls Tryd.prog 12 #[.string ⟨#[60, 47]⟩, .pointer (some ⟨w.heap.size, 0, none⟩), .pointer (some ⟨w.heap.size + 1, 0, none⟩)] W fun e w' => e = .returned (.bool false) ∧ Below W.heap.size W w') := Lib.hid fun W rs hJ => by
    have := stands1_c A n cap l k w.heap.size (w.heap.size + 1) [60, 47] W (HK.out W rs hJ).1 hk (by decide) (cell_of 0 hJ.bs) (cell_of 0 hJ.at_)
    rwa [h3] at this
  have S4 : Hid (∀ W rs, RJ A n cap k w W rs → Calls Tryd.prog 12 #[.string ⟨#[60]⟩, .pointer (some ⟨w.heap.size, 0, none⟩), .pointer (some ⟨w.heap.size + 1, 0, none⟩)] W fun e w' => e = .returned (.bool false) ∧ Below W.heap.size W w') := Lib.hid fun W rs hJ => by
    have := stands1_c A n cap l k w.heap.size (w.heap.size + 1) [60] W (HK.out W rs hJ).1 hk (by decide) (cell_of 0 hJ.bs) (cell_of 0 hJ.at_)
    rwa [h4] at this
  have S5 : Hid (∀ W rs, RJ A n cap k w W rs → Calls Tryd.prog 12 #[.string ⟨#[38, 35]⟩, .pointer (some ⟨w.heap.size, 0, none⟩), .pointer (some ⟨w.heap.size + 1, 0, none⟩)] W fun e w' => e = .returned (.bool true) ∧ Below W.heap.size W w') := Lib.hid fun W rs hJ => by
    have := stands1_c A n cap l k w.heap.size (w.heap.size + 1) [38, 35] W (HK.out W rs hJ).1 hk (by decide) (cell_of 0 hJ.bs) (cell_of 0 hJ.at_)
    rwa [h5] at this
  have C : Hid (∀ W rs, RJ A n cap k w W rs → Calls Tryd.prog 19 #[.slice A n cap, .int .i64 (k : Int)] W fun e w' => e = .returned (numV (charOut l k)) ∧ Below W.heap.size W w') := Lib.hid fun W rs hJ => by
    have hB := (HK.out W rs hJ).1
    have hW := (HK.out W rs hJ).2
    have := crefChar_c A n cap l k W hB hW.forms hW.tabs (by omega)
    have he : charAt l k = charOut l k := by
      unfold charAt
      rw [hln, if_neg (by omega), Int.toNat_natCast]
    rwa [he] at this
  unfold readTok
  rw [if_neg (by rw [h0]; simp), if_neg (by rw [h1]; simp), if_neg (by rw [h2]; simp), if_neg (by rw [h3]; simp), if_neg (by rw [h4]; simp), if_pos h5]
  generalize charOut l k = o at *
  obtain ⟨r, t, e⟩ := o
  unfold numV at C
  simp only at C ⊢
  have J0 := Lib.hid (RJ.start A n cap k w)
  have hi : (Tryd.prog.info? 27).map (·.size) = some 7 := by kernel_rfl
  obtain ⟨sd, hu⟩ := isStruct_of (P := Tryd.prog) (t := 27) (by kernel_rfl)
  have HU := Lib.hid (And.intro hi hu)
  have hk0 : (0 : Int) ≤ (k : Int) := by omega
  have hk1 : (k : Int) ≤ 40000 := by omega
  clear h hW hln HK hi hu h0 h1 h2 h3 h4 h5
  go_enter Tryd.func11, Tryd.ntmps11
  go_wp2_with fail
  refine (S0.out _ _ J0.out).mono ?_
  rintro e0 w1 ⟨rfl, hb⟩
  have J1 := Lib.hid (J0.out.kept hb)
  clear hb
  go_wp2_with fail
  refine (S1.out _ _ J1.out).mono ?_
  rintro e0 w2 ⟨rfl, hb⟩
  have J2 := Lib.hid (J1.out.kept hb)
  clear hb
  go_wp2_with fail
  refine (S2.out _ _ J2.out).mono ?_
  rintro e0 w3 ⟨rfl, hb⟩
  have J3 := Lib.hid (J2.out.kept hb)
  clear hb
  go_wp2_with fail
  refine (S3.out _ _ J3.out).mono ?_
  rintro e0 w4 ⟨rfl, hb⟩
  have J4 := Lib.hid (J3.out.kept hb)
  clear hb
  go_wp2_with fail
  refine (S4.out _ _ J4.out).mono ?_
  rintro e0 w5 ⟨rfl, hb⟩
  have J5 := Lib.hid (J4.out.kept hb)
  clear hb
  go_wp2_with fail
  refine (S5.out _ _ J5.out).mono ?_
  rintro e0 w6 ⟨rfl, hb⟩
  have J6 := Lib.hid (J5.out.kept hb)
  clear hb
  have z0 := cell_of 0 J6.out.tok
  have y0 := free_of 0 J6.out.tok
  have JA : Hid (RJ A n cap k w (w6.setCell ⟨w.heap.size + 1 + 1, 0, none⟩ (.int .i64 2)) #[.int .i64 2, .int .i64 0, .int .i64 0, .string ⟨#[]⟩, .string ⟨#[]⟩, .slice none 0 0, .int .i64 0]) := Lib.hid (J6.out.set 0 (.int .i64 2))
  have zb := cell_of 0 JA.out.bs
  have za := cell_of 0 JA.out.at_
  go_wp2_with fail
  clear z0 y0
  generalize w6.setCell ⟨w.heap.size + 1 + 1, 0, none⟩ (.int .i64 2) = v1 at *
  refine (C.out _ _ JA.out).mono ?_
  rintro e0 u0 ⟨rfl, hb⟩
  have K0 := Lib.hid (JA.out.kept hb)
  clear hb zb za
  have z1 := cell_of 6 K0.out.tok
  have y1 := free_of 6 K0.out.tok
  have K1 : Hid (RJ A n cap k w (u0.setCell ⟨w.heap.size + 1 + 1, 6, none⟩ (.int .i64 r)) #[.int .i64 2, .int .i64 0, .int .i64 0, .string ⟨#[]⟩, .string ⟨#[]⟩, .slice none 0 0, .int .i64 r]) := Lib.hid (K0.out.set 6 (.int .i64 r))
  have z2 := cell_of 2 K1.out.tok
  have y2 := free_of 2 K1.out.tok
  have K2 : Hid (RJ A n cap k w ((u0.setCell ⟨w.heap.size + 1 + 1, 6, none⟩ (.int .i64 r)).setCell ⟨w.heap.size + 1 + 1, 2, none⟩ (.int .i64 (t : Int))) #[.int .i64 2, .int .i64 0, .int .i64 (t : Int), .string ⟨#[]⟩, .string ⟨#[]⟩, .slice none 0 0, .int .i64 r]) := Lib.hid (K1.out.set 2 (.int .i64 (t : Int)))
  have JF := Lib.hid (K2.out.row #[.int .i64 2, .int .i64 0, .int .i64 (t : Int), .string ⟨#[]⟩, .string ⟨#[]⟩, .slice none 0 0, .int .i64 r])
  go_wp2_with (first | (refine wpList_load_row rfl _ _ rfl (w.heap.size + 1 + 1) rfl _ _ _ _ K2.out.tok HU.out.2 rfl HU.out.1 ?_) | (refine wpList_store_row rfl _ _ _ rfl (w.heap.size + 1 + 1) #[.int .i64 2, .int .i64 0, .int .i64 (t : Int), .string ⟨#[]⟩, .string ⟨#[]⟩, .slice none 0 0, .int .i64 r] rfl rfl _ _ K2.out.tok (by kernel_rfl) rfl (by kernel_rfl) ?_))
  (try simp only [Exit.inBlock, Exit.then])
  exact bodyPost_ret (results_cell2 rfl _ _ (w.heap.size + 1 + 1) _ _ _ _ rfl JF.out.tok HU.out.2 rfl HU.out.1) rfl (TokPost.plain rfl rfl JF.out.below)
set_option maxRecDepth 100000 in
set_option maxHeartbeats 8000000 in
theorem tokRead_ref (A : Option Addr) (n cap : Nat) (l : List UInt8) (k : Nat) (w : World) (h : Byt w w.heap.size A n cap l) (hW : W11 w) (hm : n ≤ 40000) (hk : k ≤ n) (h0 : [60, 33, 45, 45].isPrefixOf (l.drop k) = false) (h1 : [60, 33, 91, 67, 68, 65, 84, 65, 91].isPrefixOf (l.drop k) = false) (h2 : [60, 63].isPrefixOf (l.drop k) = false) (h3 : [60, 47].isPrefixOf (l.drop k) = false) (h4 : [60].isPrefixOf (l.drop k) = false) (h5 : [38, 35].isPrefixOf (l.drop k) = false) (h6 : [38].isPrefixOf (l.drop k) = true) :
    Calls Tryd.prog 11 #[.slice A n cap, .int .i64 (k : Int)] w fun e w' => TokPost (readTok l k) w e w' := by
  have hln := h.length
  have HK : Hid (∀ W rs, RJ A n cap k w W rs → Byt W W.heap.size A n cap l ∧ W11 W) := Lib.hid fun W rs hJ => ⟨(h.below hJ.below).more hJ.below.size, hW.below hJ.below⟩
  have S0 : Hid (∀ W rs, RJ A n cap k w W rs → Calls Tryd.prog 12 #[.string ⟨#[60, 33, 45, 45]⟩, .pointer (some ⟨w.heap.size, 0, none⟩), .pointer (some ⟨w.heap.size + 1, 0, none⟩)] W fun e w' => e = .returned (.bool false) ∧ Below W.heap.size W w') := Lib.hid fun W rs hJ => by
    have := stands1_c A n cap l k w.heap.size (w.heap.size + 1) [60, 33, 45, 45] W (HK.out W rs hJ).1 hk (by decide) (cell_of 0 hJ.bs) (cell_of 0 hJ.at_)
    rwa [h0] at this
  have S1 : Hid (∀ W rs, RJ A n cap k w W rs → Calls Tryd.prog 12 #[.string ⟨#[60, 33, 91, 67, 68, 65, 84, 65, 91]⟩, .pointer (some ⟨w.heap.size, 0, none⟩), .pointer (some ⟨w.heap.size + 1, 0, none⟩)] W fun e w' => e = .returned (.bool false) ∧ Below W.heap.size W w') := Lib.hid fun W rs hJ => by
    have := stands1_c A n cap l k w.heap.size (w.heap.size + 1) [60, 33, 91, 67, 68, 65, 84, 65, 91] W (HK.out W rs hJ).1 hk (by decide) (cell_of 0 hJ.bs) (cell_of 0 hJ.at_)
    rwa [h1] at this
  have S2 : Hid (∀ W rs, RJ A n cap k w W rs → Calls Tryd.prog 12 #[.string ⟨#[60, 63]⟩, .pointer (some ⟨w.heap.size, 0, none⟩), .pointer (some ⟨w.heap.size + 1, 0, none⟩)] W fun e w' => e = .returned (.bool false) ∧ Below W.heap.size W w') := Lib.hid fun W rs hJ => by
    have := stands1_c A n cap l k w.heap.size (w.heap.size + 1) [60, 63] W (HK.out W rs hJ).1 hk (by decide) (cell_of 0 hJ.bs) (cell_of 0 hJ.at_)
    rwa [h2] at this
  have S3 : Hid (∀ W rs, RJ A n cap k w W rs → Calls Tryd.prog 12 #[.string ⟨#[60, 47]⟩, .pointer (some ⟨w.heap.size, 0, none⟩), .pointer (some ⟨w.heap.size + 1, 0, none⟩)] W fun e w' => e = .returned (.bool false) ∧ Below W.heap.size W w') := Lib.hid fun W rs hJ => by
    have := stands1_c A n cap l k w.heap.size (w.heap.size + 1) [60, 47] W (HK.out W rs hJ).1 hk (by decide) (cell_of 0 hJ.bs) (cell_of 0 hJ.at_)
    rwa [h3] at this
  have S4 : Hid (∀ W rs, RJ A n cap k w W rs → Calls Tryd.prog 12 #[.string ⟨#[60]⟩, .pointer (some ⟨w.heap.size, 0, none⟩), .pointer (some ⟨w.heap.size + 1, 0, none⟩)] W fun e w' => e = .returned (.bool false) ∧ Below W.heap.size W w') := Lib.hid fun W rs hJ => by
    have := stands1_c A n cap l k w.heap.size (w.heap.size + 1) [60] W (HK.out W rs hJ).1 hk (by decide) (cell_of 0 hJ.bs) (cell_of 0 hJ.at_)
    rwa [h4] at this
  have S5 : Hid (∀ W rs, RJ A n cap k w W rs → Calls Tryd.prog 12 #[.string ⟨#[38, 35]⟩, .pointer (some ⟨w.heap.size, 0, none⟩), .pointer (some ⟨w.heap.size + 1, 0, none⟩)] W fun e w' => e = .returned (.bool false) ∧ Below W.heap.size W w') := Lib.hid fun W rs hJ => by
    have := stands1_c A n cap l k w.heap.size (w.heap.size + 1) [38, 35] W (HK.out W rs hJ).1 hk (by decide) (cell_of 0 hJ.bs) (cell_of 0 hJ.at_)
    rwa [h5] at this
  have S6 : Hid (∀ W rs, RJ A n cap k w W rs → Calls Tryd.prog 12 #[.string ⟨#[38]⟩, .pointer (some ⟨w.heap.size, 0, none⟩), .pointer (some ⟨w.heap.size + 1, 0, none⟩)] W fun e w' => e = .returned (.bool true) ∧ Below W.heap.size W w') := Lib.hid fun W rs hJ => by
    have := stands1_c A n cap l k w.heap.size (w.heap.size + 1) [38] W (HK.out W rs hJ).1 hk (by decide) (cell_of 0 hJ.bs) (cell_of 0 hJ.at_)
    rwa [h6] at this
  have C : Hid (∀ W rs, RJ A n cap k w W rs → Calls Tryd.prog 20 #[.slice A n cap, .int .i64 (k : Int)] W fun e w' => e = .returned (outV (refOut 38 l k)) ∧ Below W.heap.size W w') := Lib.hid fun W rs hJ => by
    have hB := (HK.out W rs hJ).1
    have hW := (HK.out W rs hJ).2
    have := crefEntity_c A n cap l k W hB hW.forms hW.tabs (by omega)
    have he : refAt 38 l k = refOut 38 l k := by
      unfold refAt
      rw [hln, if_neg (by omega), Int.toNat_natCast]
    rwa [he] at this
  unfold readTok
  rw [if_neg (by rw [h0]; simp), if_neg (by rw [h1]; simp), if_neg (by rw [h2]; simp), if_neg (by rw [h3]; simp), if_neg (by rw [h4]; simp), if_neg (by rw [h5]; simp), if_pos h6]
  generalize refOut 38 l k = o at *
  obtain ⟨s, t, e⟩ := o
  unfold outV at C
  simp only at C ⊢
  have J0 := Lib.hid (RJ.start A n cap k w)
  have hi : (Tryd.prog.info? 27).map (·.size) = some 7 := by kernel_rfl
  obtain ⟨sd, hu⟩ := isStruct_of (P := Tryd.prog) (t := 27) (by kernel_rfl)
  have HU := Lib.hid (And.intro hi hu)
  have hk0 : (0 : Int) ≤ (k : Int) := by omega
  have hk1 : (k : Int) ≤ 40000 := by omega
  clear h hW hln HK hi hu h0 h1 h2 h3 h4 h5 h6
  go_enter Tryd.func11, Tryd.ntmps11
  go_wp2_with fail
  refine (S0.out _ _ J0.out).mono ?_
  rintro e0 w1 ⟨rfl, hb⟩
  have J1 := Lib.hid (J0.out.kept hb)
  clear hb
  go_wp2_with fail
  refine (S1.out _ _ J1.out).mono ?_
  rintro e0 w2 ⟨rfl, hb⟩
  have J2 := Lib.hid (J1.out.kept hb)
  clear hb
  go_wp2_with fail
  refine (S2.out _ _ J2.out).mono ?_
  rintro e0 w3 ⟨rfl, hb⟩
  have J3 := Lib.hid (J2.out.kept hb)
  clear hb
  go_wp2_with fail
  refine (S3.out _ _ J3.out).mono ?_
  rintro e0 w4 ⟨rfl, hb⟩
  have J4 := Lib.hid (J3.out.kept hb)
  clear hb
  go_wp2_with fail
  refine (S4.out _ _ J4.out).mono ?_
  rintro e0 w5 ⟨rfl, hb⟩
  have J5 := Lib.hid (J4.out.kept hb)
  clear hb
  go_wp2_with fail
  refine (S5.out _ _ J5.out).mono ?_
  rintro e0 w6 ⟨rfl, hb⟩
  have J6 := Lib.hid (J5.out.kept hb)
  clear hb
  go_wp2_with fail
  refine (S6.out _ _ J6.out).mono ?_
  rintro e0 w7 ⟨rfl, hb⟩
  have J7 := Lib.hid (J6.out.kept hb)
  clear hb
  have z0 := cell_of 0 J7.out.tok
  have y0 := free_of 0 J7.out.tok
  have JA : Hid (RJ A n cap k w (w7.setCell ⟨w.heap.size + 1 + 1, 0, none⟩ (.int .i64 3)) #[.int .i64 3, .int .i64 0, .int .i64 0, .string ⟨#[]⟩, .string ⟨#[]⟩, .slice none 0 0, .int .i64 0]) := Lib.hid (J7.out.set 0 (.int .i64 3))
  have zb := cell_of 0 JA.out.bs
  have za := cell_of 0 JA.out.at_
  go_wp2_with fail
  clear z0 y0
  generalize w7.setCell ⟨w.heap.size + 1 + 1, 0, none⟩ (.int .i64 3) = v1 at *
  refine (C.out _ _ JA.out).mono ?_
  rintro e0 u0 ⟨rfl, hb⟩
  have K0 := Lib.hid (JA.out.kept hb)
  clear hb zb za
  have z1 := cell_of 3 K0.out.tok
  have y1 := free_of 3 K0.out.tok
  have K1 : Hid (RJ A n cap k w (u0.setCell ⟨w.heap.size + 1 + 1, 3, none⟩ (.string ⟨s.toArray⟩)) #[.int .i64 3, .int .i64 0, .int .i64 0, .string ⟨s.toArray⟩, .string ⟨#[]⟩, .slice none 0 0, .int .i64 0]) := Lib.hid (K0.out.set 3 (.string ⟨s.toArray⟩))
  have z2 := cell_of 2 K1.out.tok
  have y2 := free_of 2 K1.out.tok
  have K2 : Hid (RJ A n cap k w ((u0.setCell ⟨w.heap.size + 1 + 1, 3, none⟩ (.string ⟨s.toArray⟩)).setCell ⟨w.heap.size + 1 + 1, 2, none⟩ (.int .i64 (t : Int))) #[.int .i64 3, .int .i64 0, .int .i64 (t : Int), .string ⟨s.toArray⟩, .string ⟨#[]⟩, .slice none 0 0, .int .i64 0]) := Lib.hid (K1.out.set 2 (.int .i64 (t : Int)))
  have JF := Lib.hid (K2.out.row #[.int .i64 3, .int .i64 0, .int .i64 (t : Int), .string ⟨s.toArray⟩, .string ⟨#[]⟩, .slice none 0 0, .int .i64 0])
  go_wp2_with (first | (refine wpList_load_row rfl _ _ rfl (w.heap.size + 1 + 1) rfl _ _ _ _ K2.out.tok HU.out.2 rfl HU.out.1 ?_) | (refine wpList_store_row rfl _ _ _ rfl (w.heap.size + 1 + 1) #[.int .i64 3, .int .i64 0, .int .i64 (t : Int), .string ⟨s.toArray⟩, .string ⟨#[]⟩, .slice none 0 0, .int .i64 0] rfl rfl _ _ K2.out.tok (by kernel_rfl) rfl (by kernel_rfl) ?_))
  (try simp only [Exit.inBlock, Exit.then])
  exact bodyPost_ret (results_cell2 rfl _ _ (w.heap.size + 1 + 1) _ _ _ _ rfl JF.out.tok HU.out.2 rfl HU.out.1) rfl (TokPost.plain rfl rfl JF.out.below)
set_option maxRecDepth 100000 in
set_option maxHeartbeats 8000000 in
theorem tokRead_text (A : Option Addr) (n cap : Nat) (l : List UInt8) (k : Nat) (w : World) (h : Byt w w.heap.size A n cap l) (hW : W11 w) (hm : n ≤ 40000) (hk : k ≤ n) (h0 : [60, 33, 45, 45].isPrefixOf (l.drop k) = false) (h1 : [60, 33, 91, 67, 68, 65, 84, 65, 91].isPrefixOf (l.drop k) = false) (h2 : [60, 63].isPrefixOf (l.drop k) = false) (h3 : [60, 47].isPrefixOf (l.drop k) = false) (h4 : [60].isPrefixOf (l.drop k) = false) (h5 : [38, 35].isPrefixOf (l.drop k) = false) (h6 : [38].isPrefixOf (l.drop k) = false) :
    Calls Tryd.prog 11 #[.slice A n cap, .int .i64 (k : Int)] w fun e w' => TokPost (readTok l k) w e w' := by
  have hln := h.length
  have HK : Hid (∀ W rs, RJ A n cap k w W rs → Byt W W.heap.size A n cap l ∧ W11 W) := Lib.hid fun W rs hJ => ⟨(h.below hJ.below).more hJ.below.size, hW.below hJ.below⟩
  have S0 : Hid (∀ W rs, RJ A n cap k w W rs → Calls Tryd.prog 12 #[.string ⟨#[60, 33, 45, 45]⟩, .pointer (some ⟨w.heap.size, 0, none⟩), .pointer (some ⟨w.heap.size + 1, 0, none⟩)] W fun e w' => e = .returned (.bool false) ∧ Below W.heap.size W w') := Lib.hid fun W rs hJ => by
    have := stands1_c A n cap l k w.heap.size (w.heap.size + 1) [60, 33, 45, 45] W (HK.out W rs hJ).1 hk (by decide) (cell_of 0 hJ.bs) (cell_of 0 hJ.at_)
    rwa [h0] at this
  have S1 : Hid (∀ W rs, RJ A n cap k w W rs → Calls Tryd.prog 12 #[.string ⟨#[60, 33, 91, 67, 68, 65, 84, 65, 91]⟩, .pointer (some ⟨w.heap.size, 0, none⟩), .pointer (some ⟨w.heap.size + 1, 0, none⟩)] W fun e w' => e = .returned (.bool false) ∧ Below W.heap.size W w') := Lib.hid fun W rs hJ => by
    have := stands1_c A n cap l k w.heap.size (w.heap.size + 1) [60, 33, 91, 67, 68, 65, 84, 65, 91] W (HK.out W rs hJ).1 hk (by decide) (cell_of 0 hJ.bs) (cell_of 0 hJ.at_)
    rwa [h1] at this
  have S2 : Hid (∀ W rs, RJ A n cap k w W rs → Calls Tryd.prog 12 #[.string ⟨#[60, 63]⟩, .pointer (some ⟨w.heap.size, 0, none⟩), .pointer (some ⟨w.heap.size + 1, 0, none⟩)] W fun e w' => e = .returned (.bool false) ∧ Below W.heap.size W w') := Lib.hid fun W rs hJ => by
    have := stands1_c A n cap l k w.heap.size (w.heap.size + 1) [60, 63] W (HK.out W rs hJ).1 hk (by decide) (cell_of 0 hJ.bs) (cell_of 0 hJ.at_)
    rwa [h2] at this
  have S3 : Hid (∀ W rs, RJ A n cap k w W rs → Calls Tryd.prog 12 #[.string ⟨#[60, 47]⟩, .pointer (some ⟨w.heap.size, 0, none⟩), .pointer (some ⟨w.heap.size + 1, 0, none⟩)] W fun e w' => e = .returned (.bool false) ∧ Below W.heap.size W w') := Lib.hid fun W rs hJ => by
    have := stands1_c A n cap l k w.heap.size (w.heap.size + 1) [60, 47] W (HK.out W rs hJ).1 hk (by decide) (cell_of 0 hJ.bs) (cell_of 0 hJ.at_)
    rwa [h3] at this
  have S4 : Hid (∀ W rs, RJ A n cap k w W rs → Calls Tryd.prog 12 #[.string ⟨#[60]⟩, .pointer (some ⟨w.heap.size, 0, none⟩), .pointer (some ⟨w.heap.size + 1, 0, none⟩)] W fun e w' => e = .returned (.bool false) ∧ Below W.heap.size W w') := Lib.hid fun W rs hJ => by
    have := stands1_c A n cap l k w.heap.size (w.heap.size + 1) [60] W (HK.out W rs hJ).1 hk (by decide) (cell_of 0 hJ.bs) (cell_of 0 hJ.at_)
    rwa [h4] at this
  have S5 : Hid (∀ W rs, RJ A n cap k w W rs → Calls Tryd.prog 12 #[.string ⟨#[38, 35]⟩, .pointer (some ⟨w.heap.size, 0, none⟩), .pointer (some ⟨w.heap.size + 1, 0, none⟩)] W fun e w' => e = .returned (.bool false) ∧ Below W.heap.size W w') := Lib.hid fun W rs hJ => by
    have := stands1_c A n cap l k w.heap.size (w.heap.size + 1) [38, 35] W (HK.out W rs hJ).1 hk (by decide) (cell_of 0 hJ.bs) (cell_of 0 hJ.at_)
    rwa [h5] at this
  have S6 : Hid (∀ W rs, RJ A n cap k w W rs → Calls Tryd.prog 12 #[.string ⟨#[38]⟩, .pointer (some ⟨w.heap.size, 0, none⟩), .pointer (some ⟨w.heap.size + 1, 0, none⟩)] W fun e w' => e = .returned (.bool false) ∧ Below W.heap.size W w') := Lib.hid fun W rs hJ => by
    have := stands1_c A n cap l k w.heap.size (w.heap.size + 1) [38] W (HK.out W rs hJ).1 hk (by decide) (cell_of 0 hJ.bs) (cell_of 0 hJ.at_)
    rwa [h6] at this
  have C : Hid (∀ W rs, RJ A n cap k w W rs → Calls Tryd.prog 21 #[.slice A n cap, .int .i64 (k : Int)] W fun e w' => TokPost (textTok l k) W e w') := Lib.hid fun W rs hJ => tokText_c A n cap l k W (HK.out W rs hJ).1 (HK.out W rs hJ).2 hm hk
  have hR : readTok l k = textTok l k := by
    unfold readTok
    rw [if_neg (by rw [h0]; simp), if_neg (by rw [h1]; simp), if_neg (by rw [h2]; simp), if_neg (by rw [h3]; simp), if_neg (by rw [h4]; simp), if_neg (by rw [h5]; simp), if_neg (by rw [h6]; simp)]
  rw [hR]
  generalize textTok l k = o at *
  obtain ⟨o, oe⟩ := o
  have J0 := Lib.hid (RJ.start A n cap k w)
  have hi : (Tryd.prog.info? 27).map (·.size) = some 7 := by kernel_rfl
  obtain ⟨sd, hu⟩ := isStruct_of (P := Tryd.prog) (t := 27) (by kernel_rfl)
  have HU := Lib.hid (And.intro hi hu)
  have hk0 : (0 : Int) ≤ (k : Int) := by omega
  have hk1 : (k : Int) ≤ 40000 := by omega
  clear h hW hln HK hi hu h0 h1 h2 h3 h4 h5 h6
  go_enter Tryd.func11, Tryd.ntmps11
  go_wp2_with fail
  refine (S0.out _ _ J0.out).mono ?_
  rintro e0 w1 ⟨rfl, hb⟩
  have J1 := Lib.hid (J0.out.kept hb)
  clear hb
  go_wp2_with fail
  refine (S1.out _ _ J1.out).mono ?_
  rintro e0 w2 ⟨rfl, hb⟩
  have J2 := Lib.hid (J1.out.kept hb)
  clear hb
  go_wp2_with fail
  refine (S2.out _ _ J2.out).mono ?_
  rintro e0 w3 ⟨rfl, hb⟩
  have J3 := Lib.hid (J2.out.kept hb)
  clear hb
  go_wp2_with fail
  refine (S3.out _ _ J3.out).mono ?_
  rintro e0 w4 ⟨rfl, hb⟩
  have J4 := Lib.hid (J3.out.kept hb)
  clear hb
  go_wp2_with fail
  refine (S4.out _ _ J4.out).mono ?_
  rintro e0 w5 ⟨rfl, hb⟩
  have J5 := Lib.hid (J4.out.kept hb)
  clear hb
  go_wp2_with fail
  refine (S5.out _ _ J5.out).mono ?_
  rintro e0 w6 ⟨rfl, hb⟩
  have J6 := Lib.hid (J5.out.kept hb)
  clear hb
  go_wp2_with fail
  refine (S6.out _ _ J6.out).mono ?_
  rintro e0 w7 ⟨rfl, hb⟩
  have J7 := Lib.hid (J6.out.kept hb)
  clear hb
  have zb := cell_of 0 J7.out.bs
  have za := cell_of 0 J7.out.at_
  go_wp2_with fail
  refine (C.out _ _ J7.out).mono ?_
  rintro e0 u0 ⟨v, hv, rfl, hp, hb, hlo⟩
  have K0 := Lib.hid (J7.out.kept hb)
  have JF := Lib.hid (K0.out.row v.cells.toArray)
  have HP := Lib.hid (And.intro hp (fun b i h => Nat.lt_of_lt_of_le J7.out.size (hlo b i h)))
  clear hb hp hlo za zb
  go_wp2_with (refine wpList_store_row rfl _ _ _ rfl (w.heap.size + 1 + 1) v.cells.toArray rfl rfl _ _ K0.out.tok (by kernel_rfl) rfl (by kernel_rfl) ?_)
  (try simp only [Exit.inBlock, Exit.then])
  refine bodyPost_ret (results_cell2 rfl _ _ (w.heap.size + 1 + 1) _ _ _ _ rfl JF.out.tok HU.out.2 rfl HU.out.1) rfl ⟨v, hv, rfl, HP.out.1.move ?_ ?_, JF.out.below, fun b i h => by have := HP.out.2 b i h; omega⟩
  · simp [World.setRow]
  · intro b' i' hA hb'
    have hlt := HP.out.2 b' i' hA
    rw [setRow_at _ _ _ _ (by omega)]
/-- narthex/tok.read at a place within. -/
theorem tokRead_c (A : Option Addr) (n cap : Nat) (l : List UInt8) (k : Nat) (w : World) (h : Byt w w.heap.size A n cap l) (hW : W11 w) (hm : n ≤ 40000) (hk : k ≤ n) :
    Calls Tryd.prog 11 #[.slice A n cap, .int .i64 (k : Int)] w fun e w' => TokPost (readTok l k) w e w' := by
  cases h0 : [60, 33, 45, 45].isPrefixOf (l.drop k) with
  | true => exact tokRead_comment A n cap l k w h hW hm hk h0
  | false =>
    cases h1 : [60, 33, 91, 67, 68, 65, 84, 65, 91].isPrefixOf (l.drop k) with
    | true => exact tokRead_cdata A n cap l k w h hW hm hk h0 h1
    | false =>
      cases h2 : [60, 63].isPrefixOf (l.drop k) with
      | true => exact tokRead_pi A n cap l k w h hW hm hk h0 h1 h2
      | false =>
        cases h3 : [60, 47].isPrefixOf (l.drop k) with
        | true => exact tokRead_close A n cap l k w h hW hm hk h0 h1 h2 h3
        | false =>
          cases h4 : [60].isPrefixOf (l.drop k) with
          | true => exact tokRead_open A n cap l k w h hW hm hk h0 h1 h2 h3 h4
          | false =>
            cases h5 : [38, 35].isPrefixOf (l.drop k) with
            | true => exact tokRead_char A n cap l k w h hW hm hk h0 h1 h2 h3 h4 h5
            | false =>
              cases h6 : [38].isPrefixOf (l.drop k) with
              | true => exact tokRead_ref A n cap l k w h hW hm hk h0 h1 h2 h3 h4 h5 h6
              | false =>
                exact tokRead_text A n cap l k w h hW hm hk h0 h1 h2 h3 h4 h5 h6
end Go.Proofs.YtmclngahdklfkaaDoor
/- tok.Next. -/
namespace Go.Proofs.YtmclngahdklfkaaDoor
open Go.ChangeShapes Go.WideShapes Go.ChangeAt Go.RowKit
set_option linter.unusedVariables false
set_option maxRecDepth 100000 in
set_option maxHeartbeats 4000000 in
theorem tokNext_c (A : Option Addr) (n cap : Nat) (l : List UInt8) (at_ : Int) (w : World) (h : Byt w w.heap.size A n cap l) (hW : W11 w) (hm : n ≤ 40000) :
    Calls Tryd.prog 10 #[.slice A n cap, .int .i64 at_] w fun e w' => TokPost (nextAt l at_) w e w' := by
  have hln := h.length
  have hJ := CJ.start 27 w #[.int .i64 0, .int .i64 0, .int .i64 0, .string ⟨#[]⟩, .string ⟨#[]⟩, .slice none 0 0, .int .i64 0]
  have hi : (Tryd.prog.info? 27).map (·.size) = some 7 := by kernel_rfl
  obtain ⟨sd, hu⟩ := isStruct_of (P := Tryd.prog) (t := 27) (by kernel_rfl)
  have HU := Lib.hid (And.intro hi hu)
  have J0 := Lib.hid hJ
  have C : Hid (∀ k : Nat, k < n → ∀ W, Below w.heap.size w W → Calls Tryd.prog 11 #[.slice A n cap, .int .i64 (k : Int)] W fun e w' => TokPost (readTok l k) W e w') := Lib.hid fun k hk W hb => tokRead_c A n cap l k W ((h.below hb).more hb.size) (hW.below hb) hm (by omega)
  unfold nextAt
  rw [hln]
  have JZ := Lib.hid (J0.out.row #[.int .i64 0, .int .i64 0, .int .i64 0, .string ⟨#[]⟩, .string ⟨#[]⟩, .slice none 0 0, .int .i64 0])
  clear h hW hi hu hJ hln
  by_cases ha : at_ < 0 ∨ (n : Int) < at_
  · rw [if_pos ha]
    clear C
    by_cases h0 : at_ < 0
    · have hd : decide (at_ < 0) = true := by simpa using h0
      clear ha
      go_enter Tryd.func10, Tryd.ntmps10
      go_wp2_with (refine wpList_store_row rfl _ _ _ rfl w.heap.size #[.int .i64 0, .int .i64 0, .int .i64 0, .string ⟨#[]⟩, .string ⟨#[]⟩, .slice none 0 0, .int .i64 0] rfl rfl _ _ J0.out.2 (by kernel_rfl) rfl (by kernel_rfl) ?_)
      (try simp only [Exit.inBlock, Exit.then])
      exact bodyPost_ret (results_cell2 rfl _ _ w.heap.size _ _ _ _ rfl JZ.out.2 HU.out.2 rfl HU.out.1) rfl (TokPost.no rfl JZ.out.1)
    · have h1 : (n : Int) < at_ := by omega
      clear ha
      go_enter Tryd.func10, Tryd.ntmps10
      go_wp2_with (refine wpList_store_row rfl _ _ _ rfl w.heap.size #[.int .i64 0, .int .i64 0, .int .i64 0, .string ⟨#[]⟩, .string ⟨#[]⟩, .slice none 0 0, .int .i64 0] rfl rfl _ _ J0.out.2 (by kernel_rfl) rfl (by kernel_rfl) ?_)
      (try simp only [Exit.inBlock, Exit.then])
      exact bodyPost_ret (results_cell2 rfl _ _ w.heap.size _ _ _ _ rfl JZ.out.2 HU.out.2 rfl HU.out.1) rfl (TokPost.no rfl JZ.out.1)
  · rw [if_neg ha]
    by_cases hn : at_ = (n : Int)
    · rw [if_pos hn]
      subst hn
      clear ha C
      have hn0 : ¬ (n : Int) < 0 := by omega
      go_enter Tryd.func10, Tryd.ntmps10
      go_wp2_with (refine wpList_store_row rfl _ _ _ rfl w.heap.size #[.int .i64 0, .int .i64 0, .int .i64 0, .string ⟨#[]⟩, .string ⟨#[]⟩, .slice none 0 0, .int .i64 0] rfl rfl _ _ J0.out.2 (by kernel_rfl) rfl (by kernel_rfl) ?_)
      (try simp only [Exit.inBlock, Exit.then])
      exact bodyPost_ret (results_cell2 rfl _ _ w.heap.size _ _ _ _ rfl JZ.out.2 HU.out.2 rfl HU.out.1) rfl (TokPost.no rfl JZ.out.1)
    · rw [if_neg hn]
      obtain ⟨k, rfl⟩ : ∃ k : Nat, at_ = (k : Int) := ⟨at_.toNat, by omega⟩
      rw [Int.toNat_natCast]
      have hk : k < n := by omega
      have C1 := Lib.hid (C.out k hk _ J0.out.1)
      unfold nextOut
      generalize readTok l k = ro at *
      obtain ⟨o, e⟩ := ro
      have hk0 : ¬ (k : Int) < 0 := by omega
      have hk1 : ¬ (n : Int) < (k : Int) := by omega
      have hk2 : ((k : Int) == (n : Int)) = false := by simp; omega
      clear ha hn hk C
      by_cases he : e = 0
      · subst he
        rw [if_pos rfl]
        go_enter Tryd.func10, Tryd.ntmps10
        go_wp2_with fail
        refine C1.out.mono ?_
        intro e0 w1 hp
        obtain ⟨PA, pn, pc, rfl, hpr, hb, hlo⟩ := hp.out
        simp only at hpr ⊢
        have J1 := J0.out.kept hb
        have HP := Lib.hid (And.intro hpr (fun b i h => Nat.lt_of_lt_of_le (lt_of J0.out.2) (hlo b i h)))
        have J4 := Lib.hid (J1.kept ((Below.refl _ w1).alloc (Nat.le_refl _) (.cells #[.int .i64 o.kind, .int .i64 (k : Int), .int .i64 o.to_, .string ⟨o.name.toArray⟩, .string ⟨o.text.toArray⟩, .slice PA pn pc, .int .i64 o.r] 27)))
        have HQ := Lib.hid (hp_new w1 (.cells #[.int .i64 o.kind, .int .i64 (k : Int), .int .i64 o.to_, .string ⟨o.name.toArray⟩, .string ⟨o.text.toArray⟩, .slice PA pn pc, .int .i64 o.r] 27))
        have JF := Lib.hid (J4.out.row #[.int .i64 o.kind, .int .i64 (k : Int), .int .i64 o.to_, .string ⟨o.name.toArray⟩, .string ⟨o.text.toArray⟩, .slice PA pn pc, .int .i64 o.r])
        clear hpr hb hlo J1 hp
        go_wp2_with (first | (refine wpList_load_row rfl _ _ rfl w1.heap.size rfl _ _ _ _ HQ.out HU.out.2 rfl HU.out.1 ?_) | (refine wpList_store_row rfl _ _ _ rfl w.heap.size #[.int .i64 o.kind, .int .i64 (k : Int), .int .i64 o.to_, .string ⟨o.name.toArray⟩, .string ⟨o.text.toArray⟩, .slice PA pn pc, .int .i64 o.r] rfl rfl _ _ J4.out.2 (by kernel_rfl) rfl (by kernel_rfl) ?_))
        (try simp only [Exit.inBlock, Exit.then])
        refine bodyPost_ret (results_cell2 rfl _ _ w.heap.size _ _ _ _ rfl JF.out.2 HU.out.2 rfl HU.out.1) rfl (TokPost.of PA pn pc rfl (HP.out.1.move ?_ ?_) JF.out.1 fun b i h => Nat.le_of_lt (HP.out.2 b i h))
        · simp [World.setRow]
        · intro b' i' hA hb'
          have hlt := HP.out.2 b' i' hA
          rw [setRow_at _ _ _ _ (by omega), Below.heap_alloc _ _ _ hb']
      · rw [if_neg he]
        have hei : ((e : Int) == 0) = false := by simp; omega
        go_enter Tryd.func10, Tryd.ntmps10
        go_wp2_with fail
        refine C1.out.mono ?_
        intro e0 w1 hp
        obtain ⟨PA, pn, pc, rfl, hpr, hb, hlo⟩ := hp.out
        simp only at hpr ⊢
        have J1 := J0.out.kept hb
        have J4 := Lib.hid (J1.kept ((Below.refl _ w1).alloc (Nat.le_refl _) (.cells #[.int .i64 o.kind, .int .i64 o.fro, .int .i64 o.to_, .string ⟨o.name.toArray⟩, .string ⟨o.text.toArray⟩, .slice PA pn pc, .int .i64 o.r] 27)))
        have JF := Lib.hid (J4.out.row #[.int .i64 0, .int .i64 0, .int .i64 0, .string ⟨#[]⟩, .string ⟨#[]⟩, .slice none 0 0, .int .i64 0])
        clear hpr hb hlo J1 hp
        go_wp2_with (refine wpList_store_row rfl _ _ _ rfl w.heap.size #[.int .i64 0, .int .i64 0, .int .i64 0, .string ⟨#[]⟩, .string ⟨#[]⟩, .slice none 0 0, .int .i64 0] rfl rfl _ _ J4.out.2 (by kernel_rfl) rfl (by kernel_rfl) ?_)
        (try simp only [Exit.inBlock, Exit.then])
        exact bodyPost_ret (results_cell2 rfl _ _ w.heap.size _ _ _ _ rfl JF.out.2 HU.out.2 rfl HU.out.1) rfl (TokPost.no rfl JF.out.1)
end Go.Proofs.YtmclngahdklfkaaDoor
/- tok.All. -/
namespace Go.Proofs.YtmclngahdklfkaaDoor
open Go.ChangeShapes Go.WideShapes Go.ChangeAt Go.RowKit
set_option linter.unusedVariables false
theorem cells_one (v : TokV) : ∀ u ∈ v.cells, u.oneCell' = true := by
  simp [TokV.cells, Value.oneCell']
/-- 'out = append(out, u)' as one step of a statement that draws its order; the element's cells lie in a block just made. -/
theorem stepAppT {P : Program} {ops : Array Oper} {o : Oper} {a : Act} {K : Act → World → Prop} {Q : Exit → Act → World → Prop} {E : Prop} {w : World} {us' : Array Value} (hgd : o.guard = none) (s x : Operand) (t e : TypeId)
    (ho : o.op = .call { callee := .builtin .append, args := #[s, x], argTypes := #[t, t] }) (z : Value) (k bytes : Nat) (ht : P.underlying t = some (.slice e))
    (hi : ∃ i, P.info? e = some i ∧ i.zero = some z ∧ i.size = k ∧ i.bytes = bytes) (hzs : z.cells.size = k) (hk : 0 < k)
    (base : Nat) (v : Value) (n : Nat) (xs : List Value) (hs : a.eval s = v) (W : World) (hw : w = W.alloc (.cells us' e)) (hown : W.ownsRow base e k v n xs) (us : List Value) (hus : us' = us.toArray) (H : Nat) (hH : W.heap.size = H) (hx : a.eval x = .slice (some ⟨H, 0, none⟩) 1 1)
    (hl : us.length = k) (h1 : ∀ u ∈ us, u.oneCell' = true) (hn : n ≤ 1000000000) (hby : bytes ≤ 1000) (hbase : base ≤ W.heap.size)
    (h : ∀ v' w', w'.ownsRow base e k v' (n + 1) (xs ++ us) → (W.alloc (.cells us' e)).grownBy w' v.ownBlock → (v'.ownBlock = v.ownBlock ∨ v'.ownBlock = some (H + 1)) → K (a.put o.dst v') w') :
    if Region.wanted o (yielded ops a.tmps) = true then Oper.wp P o a w K Q else E := by
  subst hH hus hw
  obtain ⟨i, hi, hz, hsz, hbt⟩ := hi
  refine step_append_lies (w := W.alloc (.cells us.toArray e)) hgd s x t ho base e i z k bytes ht hi hz hsz hbt hzs hk v n xs hs (hown.alloc _) ⟨W.heap.size, 0, none⟩ 1 1 us hx (by omega) (cell_newN W us e) h1 (by omega) (by unfold maxLen; omega) ?_ (by rw [World.size_alloc]; omega) (W.heap.size + 1) (by rw [World.size_alloc]) fun g cap w' hown' hgrow hat hlt => h _ w' hown' hgrow ?_
  · have : (n + 1) * bytes ≤ 1000000001 * 1000 := Nat.mul_le_mul (by omega) hby
    omega
  · rcases hat with hat | hat
    · exact .inl hat.symm
    · exact .inr (by rw [hat]; rfl)
set_option maxRecDepth 100000 in
set_option maxHeartbeats 8000000 in
theorem tokAll_c (A : Option Addr) (n cap : Nat) (l : List UInt8) (w : World) (h : Byt w w.heap.size A n cap l) (hW : W11 w) (hm : n ≤ 40000) :
    Calls Tryd.prog 8 #[.slice A n cap] w fun e w' => AllPost (allOut l) w e w' := by
  have hln := h.length
  have CN : Hid (∀ t : Nat, t < n → ∀ W v vs, GrowT 27 w W w.heap.size v vs → Calls Tryd.prog 10 #[.slice A n cap, .int .i64 (t : Int)] W fun e w' => TokPost (nextOut l t) W e w') := Lib.hid fun t ht W v vs hG => by
    have := tokNext_c A n cap l t W ((h.below hG.below).more hG.below.size) (hW.below hG.below) hm
    rwa [nextAt_in l t (by omega)] at this
  have HLn := Lib.hid hln
  have hi : (Tryd.prog.info? 27).map (·.size) = some 7 := by kernel_rfl
  obtain ⟨sd, hu⟩ := isStruct_of (P := Tryd.prog) (t := 27) (by kernel_rfl)
  have HU := Lib.hid (And.intro hi hu)
  have HM := Lib.hid hm
  clear h hln hi hu hW
  go_enter Tryd.func8, Tryd.ntmps8
  go_wp2_with fail
  go_loopg [5, 6] (n) (fun g v i wr => ∃ (t : Nat) (vs : List TokV) (f : Nat), i = .int .i64 (t : Int) ∧ t ≤ n ∧ Hid (g = f) ∧ Hid (n ≤ f + t) ∧ Hid (vs.length ≤ t) ∧ Hid (allOut l = allR l (f + 1) (vs.map TokV.t) t) ∧ Hid (GrowT 27 w wr w.heap.size v vs))
  case atStart => exact ⟨0, [], n, rfl, Nat.zero_le _, Lib.hid rfl, Lib.hid (by omega), Lib.hid (Nat.zero_le _), Lib.hid (by unfold allOut; rw [HLn.out]; rfl), Lib.hid (GrowT.start _ w)⟩
  case round =>
    obtain ⟨t, vs, f, rfl, ht, hgf, hg, hal, HE, HG⟩ := hrel
    have hm := HM.out
    have ht0 : (0 : Int) ≤ (t : Int) := by omega
    have ht9 : (t : Int) ≤ 40000 := by omega
    by_cases htn : t < n
    · have hti : (t : Int) < (n : Int) := by omega
      have htl : t < l.length := by rw [HLn.out]; exact htn
      have C1 := CN.out t htn _ _ _ HG.out
      have hok := nextOut_ok l t htl
      have hbad := fun e (h1 : (nextOut l t).2 = e) h2 => HE.out.trans (all_bad (f := f) (acc := vs.map TokV.t) htl h1 h2)
      have hmore := fun k u (h1 : nextOut l t = (k, 0)) (h2 : k.to_ = ((u : Nat) : Int)) => HE.out.trans (all_more (f := f) (acc := vs.map TokV.t) htl h1 h2)
      generalize nextOut l t = o at *
      obtain ⟨k, e⟩ := o
      simp only at hok hbad
      have C2 := Lib.hid C1
      clear C1
      by_cases he : e = 0
      · subst he
        obtain ⟨hfro, u, hu, htu, hun⟩ := hok rfl
        clear hfro
        rw [HLn.out] at hun
        have HA := Lib.hid (hmore k u rfl hu)
        have HUu := Lib.hid hu
        clear hok hbad hmore htl hu
        go_wp2_with fail
        refine C2.out.mono ?_
        intro e0 w2 hp
        obtain ⟨PA, pn, pc, rfl, hpr, hb, hlo⟩ := hp.out
        simp only at hpr
        have ka := (Below.refl _ w2).alloc (Nat.le_refl _) (.cells #[.int .i64 k.kind, .int .i64 k.fro, .int .i64 k.to_, .string ⟨k.name.toArray⟩, .string ⟨k.text.toArray⟩, .slice PA pn pc, .int .i64 k.r] 27)
        have G1 := Lib.hid (HG.out.kept hb)
        have G2 := Lib.hid (G1.out.kept ka)
        have HQ := Lib.hid (hp_new w2 (.cells #[.int .i64 k.kind, .int .i64 k.fro, .int .i64 k.to_, .string ⟨k.name.toArray⟩, .string ⟨k.text.toArray⟩, .slice PA pn pc, .int .i64 k.r] 27))
        have HX := Lib.hid (And.intro ((hpr.below ka).more ka.size) (fun (_ : 0 < pc) b i (hA : PA = some ⟨b, i, none⟩) => HG.out.fresh (hlo b i hA)))
        have z2 := cell_of 2 HQ.out
        have hvl : vs.length ≤ 1000000000 := by have := hal.out; omega
        have hba : w.heap.size ≤ (w2.alloc (.cells #[.int .i64 k.kind, .int .i64 k.fro, .int .i64 k.to_, .string ⟨k.name.toArray⟩, .string ⟨k.text.toArray⟩, .slice PA pn pc, .int .i64 k.r] 27)).heap.size := G2.out.base1
        clear hpr hb hlo ka hp
        go_wp2_with fail
        have HLD := Lib.hid (fun (W : World) (hW : W.heap[w2.heap.size]? = some (.cells #[.int .i64 k.kind, .int .i64 k.fro, .int .i64 k.to_, .string ⟨k.name.toArray⟩, .string ⟨k.text.toArray⟩, .slice PA pn pc, .int .i64 k.r] 27)) => run_loadVar_row (P := Tryd.prog) W w2.heap.size _ 27 _ _ _ hW HU.out.2 rfl HU.out.1)
        have G3 := Lib.hid (G2.out.kept (below_drewN' (n := 1) (Below.refl _ _)))
        have hsz3 : (w2.alloc (.cells #[.int .i64 k.kind, .int .i64 k.fro, .int .i64 k.to_, .string ⟨k.name.toArray⟩, .string ⟨k.text.toArray⟩, .slice PA pn pc, .int .i64 k.r] 27)).heap.size = w2.heap.size + 1 := by simp
        have HX3 := Lib.hid (And.intro (HX.out.1.drewN (k := 1)) HX.out.2)
        generalize hv3 : w2.alloc (.cells #[.int .i64 k.kind, .int .i64 k.fro, .int .i64 k.to_, .string ⟨k.name.toArray⟩, .string ⟨k.text.toArray⟩, .slice PA pn pc, .int .i64 k.r] 27) = v3 at *
        clear hv3
        have HQd : v3.drew.heap[w2.heap.size]? = some (.cells #[.int .i64 k.kind, .int .i64 k.fro, .int .i64 k.to_, .string ⟨k.name.toArray⟩, .string ⟨k.text.toArray⟩, .slice PA pn pc, .int .i64 k.r] 27) := HQ.out
        have x0 := cell_of 0 HQd
        have x1 := cell_of 1 HQd
        have x2 := cell_of 2 HQd
        have x3 := cell_of 3 HQd
        have x4 := cell_of 4 HQd
        have x5 := cell_of 5 HQd
        have x6 := cell_of 6 HQd
        go_region_law (refine stepAppT rfl (.tmp 23) (.tmp 25) 24 27 rfl (.agg #[.int .i64 0, .int .i64 0, .int .i64 0, .string ⟨#[]⟩, .string ⟨#[]⟩, .slice none 0 0, .int .i64 0]) 7 88 Tryd.underlying24 info_tok rfl (by decide) w.heap.size _ vs.length (cellsK vs) rfl v3.drew rfl G3.out.own (TokV.cells ⟨k, PA, pn, pc⟩) rfl (w2.heap.size + 1) (by show v3.heap.size = _; omega) rfl rfl (cells_one _) hvl (by decide) G3.out.base1 ?_; intro v4 w4 hown4 hg4 hat4; have G4 := Lib.hid (G3.out.appended (x := ⟨k, PA, pn, pc⟩) HX3.out.1 HX3.out.2 hown4 hg4 (by rw [show (v3.drewN 1).heap.size = w2.heap.size + 1 from hsz3]; exact hat4)); have z4 : w4.cell? ⟨w2.heap.size, 2, none⟩ = some (.int .i64 k.to_) := cell_of 2 ((hg4.block w2.heap.size (by rw [World.size_alloc]; show w2.heap.size < v3.heap.size + 1; omega) (G1.out.fresh (Nat.le_refl _))).trans ((Below.heap_alloc _ _ _ (by show w2.heap.size < v3.heap.size; omega)).trans HQ.out)); clear hown4 hg4 hat4)
        all_goals
          go_wp2
          go_roundg (f - 1)
          case measure => have := hg.out; have := hgf.out; omega
          case rel => exact ⟨u, vs ++ [⟨k, PA, pn, pc⟩], f - 1, by rw [HUu.out], by omega, Lib.hid rfl, Lib.hid (by have := hg.out; omega), Lib.hid (by have := hal.out; simp; omega), Lib.hid (by rw [HA.out, List.map_append, show f - 1 + 1 = f by have := hg.out; omega]; rfl), G4⟩
      · have HA := Lib.hid (hbad e rfl he)
        have hei : ((e : Int) == 0) = false := by simp; omega
        clear hok hbad hmore htl
        go_wp2_with fail
        refine C2.out.mono ?_
        intro e0 w2 hp
        obtain ⟨PA, pn, pc, rfl, hpr, hb, hlo⟩ := hp.out
        have B := Lib.hid ((HG.out.kept hb).below.alloc (HG.out.kept hb).below.size (.cells #[.int .i64 k.kind, .int .i64 k.fro, .int .i64 k.to_, .string ⟨k.name.toArray⟩, .string ⟨k.text.toArray⟩, .slice PA pn pc, .int .i64 k.r] 27))
        clear hpr hb hlo hp
        go_wp2
        go_ret3
        rw [HA.out]
        exact AllPost.bad rfl B.out
    · have hti : ¬ (t : Int) < (n : Int) := by omega
      have HA := Lib.hid (HE.out.trans (all_end (by rw [HLn.out]; exact htn)))
      obtain rfl : t = n := by omega
      go_wp2
      go_ret3
      rw [HA.out]
      exact AllPost.good HG.out rfl
end Go.Proofs.YtmclngahdklfkaaDoor
/- The law TokNexts: the page's example, the walk. -/
namespace Go.Proofs.YtmclngahdklfkaaDoor
open Go.ChangeShapes Go.WideShapes Go.ChangeAt Go.RowKit
set_option linter.unusedVariables false
set_option maxRecDepth 100000 in
set_option maxHeartbeats 8000000 in
theorem live11_c (w : World) (hW : W11 w) : Calls Tryd.prog 4 #[] w fun e w' => e = .returned (.bool true) ∧ Below w.heap.size w w' := by
  have C1 : Hid (Calls Tryd.prog 8 #[.slice (some ⟨w.heap.size, 0, none⟩) 8 8] (w.alloc (.cells #[.int .u8 97, .int .u8 38, .int .u8 98, .int .u8 59, .int .u8 60, .int .u8 99, .int .u8 47, .int .u8 62] 5 (8, 9))) fun e w' => ∃ b o c, e = .returned (.tuple #[.slice (some ⟨b, o, none⟩) 3 c, .int .i64 8, .int .i64 0]) ∧ w'.cell? ⟨b, o, none⟩ = some (.int .i64 1) ∧ w'.cell? ⟨b, o + 10, none⟩ = some (.string ⟨#[98]⟩) ∧ w'.cell? ⟨b, o + 14, none⟩ = some (.int .i64 8) ∧ Hid (Below w.heap.size w w')) := Lib.hid (by
    have k1 := alloc_const w [97, 38, 98, 59, 60, 99, 47, 62] (8, 9) (by decide)
    have := tokAll_c _ _ _ _ _ (k1.2.more (by simp)) (hW.below k1.1) (by decide)
    rw [show allOut [97, 38, 98, 59, 60, 99, 47, 62] = ([⟨1, 0, 1, [], [97], [], 0⟩, ⟨3, 1, 4, [98], [], [], 0⟩, ⟨8, 4, 8, [99], [], [], 0⟩], 8, 0) by kernel_rfl] at this
    refine this.mono fun e w' ⟨A, n, c, vs, he, hv, hr, hb⟩ => ?_
    have hn : n = 3 := by
      have := congrArg List.length hv
      rw [List.length_map, hr.len] at this
      exact this
    subst hn
    obtain ⟨b, o, v0, rfl, _, h0, c0, _⟩ := hr.cell (i := 0) (by decide)
    obtain ⟨b1, o1, v1, e1, _, h1, c1, _⟩ := hr.cell (i := 1) (by decide)
    obtain ⟨b2, o2, v2, e2, _, h2, c2, _⟩ := hr.cell (i := 2) (by decide)
    cases e1
    cases e2
    have hm : ∀ (i : Nat) (v : TokV), vs[i]? = some v → (vs.map TokV.t)[i]? = some v.t := fun i v h => by rw [List.getElem?_map, h]; rfl
    have t0 := hm 0 _ h0
    have t1 := hm 1 _ h1
    have t2 := hm 2 _ h2
    rw [hv] at t0 t1 t2
    simp at t0 t1 t2
    refine ⟨b, o, c, he, ?_, ?_, ?_, Lib.hid (k1.1.trans (hb.mono k1.1.size))⟩
    · have := c0 0 (.int .i64 v0.t.kind) rfl
      rw [← t0] at this
      exact this
    · have := c1 3 (.string ⟨v1.t.name.toArray⟩) rfl
      rw [← t1] at this
      exact this
    · have := c2 0 (.int .i64 v2.t.kind) rfl
      rw [← t2] at this
      exact this)
  have kc := fun (C : Array Value) (n c : Nat) => Lib.run_convert_bytes_const (P := Tryd.prog) w 37 5 C n c Tryd.underlying37 Tryd.underlying5
  clear hW
  go_enter Tryd.func4, Tryd.ntmps4
  go_wp2_with fail
  refine C1.out.mono ?_
  rintro e w1 ⟨b, o, c, rfl, z0, z1, z2, B⟩
  clear kc
  go_wp2
  go_ret
  exact ⟨rfl, B.out⟩
end Go.Proofs.YtmclngahdklfkaaDoor
/- Rows of strings; the last one. -/
namespace Go.Proofs.YtmclngahdklfkaaDoor
open Go.ChangeShapes Go.WideShapes Go.ChangeAt Go.RowKit
set_option linter.unusedVariables false
def strV (s : List UInt8) : Value := .string ⟨s.toArray⟩
/-- A row of strings of the call's own. -/
def OwnS (w : World) (base : Nat) (v : Value) (op : List (List UInt8)) : Prop := w.ownsRow base 9 1 v op.length (op.map strV)
theorem OwnS.start (w : World) (base : Nat) : OwnS w base (.slice none 0 0) [] := ⟨rfl, .inl ⟨rfl, rfl⟩⟩
theorem OwnS.kept {w w' : World} {base : Nat} {v : Value} {op : List (List UInt8)} (h : OwnS w base v op) (hb : Below w.heap.size w w') : OwnS w' base v op := ownsRow_keep h fun g _ hg => hb.block g hg
theorem OwnS.form {w : World} {base : Nat} {v : Value} {op : List (List UInt8)} (h : OwnS w base v op) : ∃ A c, v = .slice A op.length c := by
  obtain ⟨hl, ⟨hv, h0⟩ | ⟨g, cap, cur, hv, r⟩⟩ := h
  · exact ⟨none, 0, by rw [hv, h0]⟩
  · exact ⟨_, cap, hv⟩
/-- The last one of a row that holds one: where it lies; the row without it. -/
theorem OwnS.last {w : World} {base : Nat} {v : Value} {op : List (List UInt8)} {s : List UInt8} (h : OwnS w base v (op ++ [s])) :
    ∃ g c, v = .slice (some ⟨g, 0, none⟩) (op.length + 1) c ∧ op.length + 1 ≤ c ∧ base ≤ g ∧ g < w.heap.size ∧ w.cell? ⟨g, op.length, none⟩ = some (strV s) ∧ OwnS w base (.slice (some ⟨g, 0, none⟩) op.length c) op := by
  obtain ⟨hl, ⟨hv, h0⟩ | ⟨g, cap, cur, hv, hg, hh, hn, hc, hs, ht⟩⟩ := h
  · simp at h0
  · rw [List.length_append, List.length_singleton] at hv hn ht
    refine ⟨g, cap, hv, hn, hg, lt_of hh, ?_, by simp, .inr ⟨g, cap, cur, rfl, hg, hh, by omega, hc, hs, ?_⟩⟩
    · rw [cell_of _ hh]
      have : (cur.toList.take ((op.length + 1) * 1))[op.length]? = some (strV s) := by rw [ht, List.map_append, List.getElem?_append_right (by simp)]; simp
      rw [List.getElem?_take_of_lt (by omega)] at this
      simpa using this
    · have := congrArg (List.take (op.length * 1)) ht
      rw [List.take_take, show min (op.length * 1) ((op.length + 1) * 1) = op.length * 1 by omega] at this
      rw [this, List.map_append, List.take_left' (by simp)]
theorem OwnS.cap {w : World} {base : Nat} {A : Option Addr} {c : Nat} {op : List (List UInt8)} (h : OwnS w base (.slice A op.length c) op) : op.length ≤ c ∧ c ≤ maxLen := by
  obtain ⟨hl, ⟨hv, h0⟩ | ⟨g, cap, cur, hv, hg, hh, hn, hc, hs, ht⟩⟩ := h
  · injection hv with h1 h2 h3
    exact ⟨by omega, by omega⟩
  · injection hv with h1 h2 h3
    exact ⟨by omega, by omega⟩
set_option maxRecDepth 100000 in
set_option maxHeartbeats 4000000 in
theorem last_no (base : Nat) (v : Value) (w : World) (h : OwnS w base v []) : Calls Tryd.prog 9 #[v] w fun e w' => e = .returned (.tuple #[.string ⟨#[]⟩, .slice none 0 0, .bool false]) ∧ w = w' := by
  obtain ⟨A, c, rfl⟩ := h.form
  clear h
  simp only [List.length_nil]
  go_enter Tryd.func9, Tryd.ntmps9
  go_wp2
  go_ret3
  exact ⟨rfl, rfl⟩
theorem run_cutS {w : World} (A : Option Addr) (n cap t : Nat) (ht : t ≤ cap) : (Instr.slice 38 (.slice A n cap) none (some (.int .i64 (t : Int))) none).run Tryd.prog w = .ok (.slice A t cap) w := by
  rw [run_slice_h (P := Tryd.prog) (w := w) 38 A n cap (by kernel_rfl) .i64 (t : Int) (by omega) (by omega), show (sizeOf (Tryd.prog.elem 38)).run Tryd.prog w = .ok 1 w by kernel_rfl]
  simp [sliced]
  intro _
  cases A with
  | none => rfl
  | some a => simp [Addr.add]
set_option maxRecDepth 100000 in
set_option maxHeartbeats 4000000 in
theorem last_yes (base : Nat) (v : Value) (w : World) (op : List (List UInt8)) (s : List UInt8) (h : OwnS w base v (op ++ [s])) (hm : op.length ≤ 1000000) : Calls Tryd.prog 9 #[v] w fun e w' => ∃ g c q, e = .returned (.tuple #[strV s, .slice (some ⟨g, 0, none⟩) op.length c, .bool true]) ∧ OwnS w base (.slice (some ⟨g, 0, none⟩) op.length c) op ∧ w' = w.drewN q := by
  obtain ⟨g, c, rfl, hc, hg, hgl, hz, ho⟩ := h.last
  have hcut := fun (W : World) => run_cutS (w := W) (some ⟨g, 0, none⟩) (op.length + 1) c op.length (by omega)
  have HO := Lib.hid ho
  have hi : ((op.length + 1 : Nat) : Int) - 1 = (op.length : Int) := by omega
  have n0 : (((op.length + 1 : Nat) : Int) == 0) = false := by simp; omega
  have h0 : (0 : Int) ≤ (op.length : Int) := by omega
  have h1 : (op.length : Int) < ((op.length + 1 : Nat) : Int) := by omega
  unfold strV at *
  clear h ho
  generalize op.length = m at *
  go_enter Tryd.func9, Tryd.ntmps9
  go_wp2_with fail
  go_quiet (fail)
  go_wp2
  go_ret3
  exact ⟨g, c, _, rfl, HO.out, rfl⟩
end Go.Proofs.YtmclngahdklfkaaDoor
