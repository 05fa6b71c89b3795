/- Texts of ours, joined: Tok3, Tok6b, Tok7. -/
import Derived.Test.YtmclngahdklfkaaGreatDoorRows
import Derived.WalkKit
import Derived.ProofKit
import Derived.OpenShut
import Derived.ShutString
import Derived.ChangeOld
import Derived.Below
import Derived.BigQuiet
import Derived.Deep.QuietTactic
import Derived.Lib.Hide
import Derived.Deep.RegionHeld3
import Derived.Lib.SlBytesConst
import Derived.Laws.CopyOwn
import Derived.Laws.CopyRow
import Derived.Lib.Bytes
import Derived.Deep.LoopGhost
import Derived.Deep.DeepFit
import Derived.Deep.DeepMust
import Derived.WalkSpells
import Derived.WalkLawsBesides
import Derived.Maps.OwnOps
import Derived.Maps.OwnSet
import Derived.Maps.Views
import Derived.Laws.EntriesVeiled
import Derived.Laws.Rows
import Derived.Maps.AppendAt
import Derived.Lib.SmallJoins
import Derived.Test.YtmclngahdklfkaaGreatDoorQ1
import Derived.Test.YtmclngahdklfkaaGreatDoorQ6
import Derived.Test.YtmclngahdklfkaaGreatDoorQ2
import Derived.Test.YtmclngahdklfkaaGreatDoorQ4
import Derived.Test.YtmclngahdklfkaaGreatDoorQ5
import Derived.Test.YtmclngahdklfkaaGreatDoorQ8
import Derived.Test.YtmclngahdklfkaaGreatDoorQ9
import Derived.Test.YtmclngahdklfkaaGreatDoorQ10
import Derived.Test.YtmclngahdklfkaaGreatDoorQ11
import Derived.Test.YtmclngahdklfkaaGreatDoorQ13
import Derived.Test.YtmclngahdklfkaaGreatDoorQ14
import Derived.Test.YtmclngahdklfkaaGreatDoorQ15
import Derived.Test.YtmclngahdklfkaaGreatDoorQ16
import Derived.Test.YtmclngahdklfkaaGreatDoorQ17
import Derived.Test.YtmclngahdklfkaaGreatDoorQ22
import Derived.Test.YtmclngahdklfkaaGreatDoorQ23
import Derived.Test.YtmclngahdklfkaaGreatDoorQ7
import Derived.Deep.AppendLies
import Derived.Deep.RegionLaw
import Derived.Test.YtmclngahdklfkaaGreatDoorQ12
import Derived.Test.YtmclngahdklfkaaGreatDoorQ18
import Derived.Test.YtmclngahdklfkaaGreatDoorQ19
import Derived.Test.YtmclngahdklfkaaGreatDoorQ20
import Derived.Test.YtmclngahdklfkaaGreatDoorQ21
/- tok.Next. -/
namespace Go.Proofs.YtmclngahdklfkaaGreatDoor
open Go.ChangeShapes Go.WideShapes Go.ChangeAt Go.RowKit
set_option linter.unusedVariables false
set_option maxRecDepth 100000 in
set_option maxHeartbeats 4000000 in
theorem tokNext_c (A : Option Addr) (n cap : Nat) (l : List UInt8) (at_ : Int) (w : World) (h : Byt w w.heap.size A n cap l) (hW : W11 w) (hm : n ≤ 40000) :
    Calls Tryz.prog 10 #[.slice A n cap, .int .i64 at_] w fun e w' => TokPost (nextAt l at_) w e w' := by
  have hln := h.length
  have hJ := CJ.start 26 w #[.int .i64 0, .int .i64 0, .int .i64 0, .string ⟨#[]⟩, .string ⟨#[]⟩, .slice none 0 0, .int .i64 0]
  have hi : (Tryz.prog.info? 26).map (·.size) = some 7 := by kernel_rfl
  obtain ⟨sd, hu⟩ := isStruct_of (P := Tryz.prog) (t := 26) (by kernel_rfl)
  have HU := Lib.hid (And.intro hi hu)
  have J0 := Lib.hid hJ
  have C : Hid (∀ k : Nat, k < n → ∀ W, Below w.heap.size w W → Calls Tryz.prog 29 #[.slice A n cap, .int .i64 (k : Int)] W fun e w' => TokPost (readTok l k) W e w') := Lib.hid fun k hk W hb => tokRead_c A n cap l k W ((h.below hb).more hb.size) (hW.below hb) hm (by omega)
  unfold nextAt
  rw [hln]
  have JZ := Lib.hid (J0.out.row #[.int .i64 0, .int .i64 0, .int .i64 0, .string ⟨#[]⟩, .string ⟨#[]⟩, .slice none 0 0, .int .i64 0])
  clear h hW hi hu hJ hln
  by_cases ha : at_ < 0 ∨ (n : Int) < at_
  · rw [if_pos ha]
    clear C
    by_cases h0 : at_ < 0
    · have hd : decide (at_ < 0) = true := by simpa using h0
      clear ha
      go_enter Tryz.func10, Tryz.ntmps10
      go_wp2_with (refine wpList_store_row rfl _ _ _ rfl w.heap.size #[.int .i64 0, .int .i64 0, .int .i64 0, .string ⟨#[]⟩, .string ⟨#[]⟩, .slice none 0 0, .int .i64 0] rfl rfl _ _ J0.out.2 (by kernel_rfl) rfl (by kernel_rfl) ?_)
      (try simp only [Exit.inBlock, Exit.then])
      exact bodyPost_ret (results_cell2 rfl _ _ w.heap.size _ _ _ _ rfl JZ.out.2 HU.out.2 rfl HU.out.1) rfl (TokPost.no rfl JZ.out.1)
    · have h1 : (n : Int) < at_ := by omega
      clear ha
      go_enter Tryz.func10, Tryz.ntmps10
      go_wp2_with (refine wpList_store_row rfl _ _ _ rfl w.heap.size #[.int .i64 0, .int .i64 0, .int .i64 0, .string ⟨#[]⟩, .string ⟨#[]⟩, .slice none 0 0, .int .i64 0] rfl rfl _ _ J0.out.2 (by kernel_rfl) rfl (by kernel_rfl) ?_)
      (try simp only [Exit.inBlock, Exit.then])
      exact bodyPost_ret (results_cell2 rfl _ _ w.heap.size _ _ _ _ rfl JZ.out.2 HU.out.2 rfl HU.out.1) rfl (TokPost.no rfl JZ.out.1)
  · rw [if_neg ha]
    by_cases hn : at_ = (n : Int)
    · rw [if_pos hn]
      subst hn
      clear ha C
      have hn0 : ¬ (n : Int) < 0 := by omega
      go_enter Tryz.func10, Tryz.ntmps10
      go_wp2_with (refine wpList_store_row rfl _ _ _ rfl w.heap.size #[.int .i64 0, .int .i64 0, .int .i64 0, .string ⟨#[]⟩, .string ⟨#[]⟩, .slice none 0 0, .int .i64 0] rfl rfl _ _ J0.out.2 (by kernel_rfl) rfl (by kernel_rfl) ?_)
      (try simp only [Exit.inBlock, Exit.then])
      exact bodyPost_ret (results_cell2 rfl _ _ w.heap.size _ _ _ _ rfl JZ.out.2 HU.out.2 rfl HU.out.1) rfl (TokPost.no rfl JZ.out.1)
    · rw [if_neg hn]
      obtain ⟨k, rfl⟩ : ∃ k : Nat, at_ = (k : Int) := ⟨at_.toNat, by omega⟩
      rw [Int.toNat_natCast]
      have hk : k < n := by omega
      have C1 := Lib.hid (C.out k hk _ J0.out.1)
      unfold nextOut
      generalize readTok l k = ro at *
      obtain ⟨o, e⟩ := ro
      have hk0 : ¬ (k : Int) < 0 := by omega
      have hk1 : ¬ (n : Int) < (k : Int) := by omega
      have hk2 : ((k : Int) == (n : Int)) = false := by simp; omega
      clear ha hn hk C
      by_cases he : e = 0
      · subst he
        rw [if_pos rfl]
        go_enter Tryz.func10, Tryz.ntmps10
        go_wp2_with fail
        refine C1.out.mono ?_
        intro e0 w1 hp
        obtain ⟨PA, pn, pc, rfl, hpr, hb, hlo⟩ := hp.out
        simp only at hpr ⊢
        have J1 := J0.out.kept hb
        have HP := Lib.hid (And.intro hpr (fun b i h => Nat.lt_of_lt_of_le (lt_of J0.out.2) (hlo b i h)))
        have J4 := Lib.hid (J1.kept ((Below.refl _ w1).alloc (Nat.le_refl _) (.cells #[.int .i64 o.kind, .int .i64 (k : Int), .int .i64 o.to_, .string ⟨o.name.toArray⟩, .string ⟨o.text.toArray⟩, .slice PA pn pc, .int .i64 o.r] 26)))
        have HQ := Lib.hid (hp_new w1 (.cells #[.int .i64 o.kind, .int .i64 (k : Int), .int .i64 o.to_, .string ⟨o.name.toArray⟩, .string ⟨o.text.toArray⟩, .slice PA pn pc, .int .i64 o.r] 26))
        have JF := Lib.hid (J4.out.row #[.int .i64 o.kind, .int .i64 (k : Int), .int .i64 o.to_, .string ⟨o.name.toArray⟩, .string ⟨o.text.toArray⟩, .slice PA pn pc, .int .i64 o.r])
        clear hpr hb hlo J1 hp
        go_wp2_with (first | (refine wpList_load_row rfl _ _ rfl w1.heap.size rfl _ _ _ _ HQ.out HU.out.2 rfl HU.out.1 ?_) | (refine wpList_store_row rfl _ _ _ rfl w.heap.size #[.int .i64 o.kind, .int .i64 (k : Int), .int .i64 o.to_, .string ⟨o.name.toArray⟩, .string ⟨o.text.toArray⟩, .slice PA pn pc, .int .i64 o.r] rfl rfl _ _ J4.out.2 (by kernel_rfl) rfl (by kernel_rfl) ?_))
        (try simp only [Exit.inBlock, Exit.then])
        refine bodyPost_ret (results_cell2 rfl _ _ w.heap.size _ _ _ _ rfl JF.out.2 HU.out.2 rfl HU.out.1) rfl (TokPost.of PA pn pc rfl (HP.out.1.move ?_ ?_) JF.out.1 fun b i h => Nat.le_of_lt (HP.out.2 b i h))
        · simp [World.setRow]
        · intro b' i' hA hb'
          have hlt := HP.out.2 b' i' hA
          rw [setRow_at _ _ _ _ (by omega), Below.heap_alloc _ _ _ hb']
      · rw [if_neg he]
        have hei : ((e : Int) == 0) = false := by simp; omega
        go_enter Tryz.func10, Tryz.ntmps10
        go_wp2_with fail
        refine C1.out.mono ?_
        intro e0 w1 hp
        obtain ⟨PA, pn, pc, rfl, hpr, hb, hlo⟩ := hp.out
        simp only at hpr ⊢
        have J1 := J0.out.kept hb
        have J4 := Lib.hid (J1.kept ((Below.refl _ w1).alloc (Nat.le_refl _) (.cells #[.int .i64 o.kind, .int .i64 o.fro, .int .i64 o.to_, .string ⟨o.name.toArray⟩, .string ⟨o.text.toArray⟩, .slice PA pn pc, .int .i64 o.r] 26)))
        have JF := Lib.hid (J4.out.row #[.int .i64 0, .int .i64 0, .int .i64 0, .string ⟨#[]⟩, .string ⟨#[]⟩, .slice none 0 0, .int .i64 0])
        clear hpr hb hlo J1 hp
        go_wp2_with (refine wpList_store_row rfl _ _ _ rfl w.heap.size #[.int .i64 0, .int .i64 0, .int .i64 0, .string ⟨#[]⟩, .string ⟨#[]⟩, .slice none 0 0, .int .i64 0] rfl rfl _ _ J4.out.2 (by kernel_rfl) rfl (by kernel_rfl) ?_)
        (try simp only [Exit.inBlock, Exit.then])
        exact bodyPost_ret (results_cell2 rfl _ _ w.heap.size _ _ _ _ rfl JF.out.2 HU.out.2 rfl HU.out.1) rfl (TokPost.no rfl JF.out.1)
end Go.Proofs.YtmclngahdklfkaaGreatDoor
/- tok.All. -/
namespace Go.Proofs.YtmclngahdklfkaaGreatDoor
open Go.ChangeShapes Go.WideShapes Go.ChangeAt Go.RowKit
set_option linter.unusedVariables false
theorem cells_one (v : TokV) : ∀ u ∈ v.cells, u.oneCell' = true := by
  simp [TokV.cells, Value.oneCell']
/-- 'out = append(out, u)' as one step of a statement that draws its order; the element's cells lie in a block just made. -/
theorem stepAppT {P : Program} {ops : Array Oper} {o : Oper} {a : Act} {K : Act → World → Prop} {Q : Exit → Act → World → Prop} {E : Prop} {w : World} {us' : Array Value} (hgd : o.guard = none) (s x : Operand) (t e : TypeId)
    (ho : o.op = .call { callee := .builtin .append, args := #[s, x], argTypes := #[t, t] }) (z : Value) (k bytes : Nat) (ht : P.underlying t = some (.slice e))
    (hi : ∃ i, P.info? e = some i ∧ i.zero = some z ∧ i.size = k ∧ i.bytes = bytes) (hzs : z.cells.size = k) (hk : 0 < k)
    (base : Nat) (v : Value) (n : Nat) (xs : List Value) (hs : a.eval s = v) (W : World) (hw : w = W.alloc (.cells us' e)) (hown : W.ownsRow base e k v n xs) (us : List Value) (hus : us' = us.toArray) (H : Nat) (hH : W.heap.size = H) (hx : a.eval x = .slice (some ⟨H, 0, none⟩) 1 1)
    (hl : us.length = k) (h1 : ∀ u ∈ us, u.oneCell' = true) (hn : n ≤ 1000000000) (hby : bytes ≤ 1000) (hbase : base ≤ W.heap.size)
    (h : ∀ v' w', w'.ownsRow base e k v' (n + 1) (xs ++ us) → (W.alloc (.cells us' e)).grownBy w' v.ownBlock → (v'.ownBlock = v.ownBlock ∨ v'.ownBlock = some (H + 1)) → K (a.put o.dst v') w') :
    if Region.wanted o (yielded ops a.tmps) = true then Oper.wp P o a w K Q else E := by
  subst hH hus hw
  obtain ⟨i, hi, hz, hsz, hbt⟩ := hi
  refine step_append_lies (w := W.alloc (.cells us.toArray e)) hgd s x t ho base e i z k bytes ht hi hz hsz hbt hzs hk v n xs hs (hown.alloc _) ⟨W.heap.size, 0, none⟩ 1 1 us hx (by omega) (cell_newN W us e) h1 (by omega) (by unfold maxLen; omega) ?_ (by rw [World.size_alloc]; omega) (W.heap.size + 1) (by rw [World.size_alloc]) fun g cap w' hown' hgrow hat hlt => h _ w' hown' hgrow ?_
  · have : (n + 1) * bytes ≤ 1000000001 * 1000 := Nat.mul_le_mul (by omega) hby
    omega
  · rcases hat with hat | hat
    · exact .inl hat.symm
    · exact .inr (by rw [hat]; rfl)
set_option maxRecDepth 100000 in
set_option maxHeartbeats 8000000 in
theorem tokAll_c (A : Option Addr) (n cap : Nat) (l : List UInt8) (w : World) (h : Byt w w.heap.size A n cap l) (hW : W11 w) (hm : n ≤ 40000) :
    Calls Tryz.prog 14 #[.slice A n cap] w fun e w' => AllPost (allOut l) w e w' := by
  have hln := h.length
  have CN : Hid (∀ t : Nat, t < n → ∀ W v vs, GrowT 26 w W w.heap.size v vs → Calls Tryz.prog 10 #[.slice A n cap, .int .i64 (t : Int)] W fun e w' => TokPost (nextOut l t) W e w') := Lib.hid fun t ht W v vs hG => by
    have := tokNext_c A n cap l t W ((h.below hG.below).more hG.below.size) (hW.below hG.below) hm
    rwa [nextAt_in l t (by omega)] at this
  have HLn := Lib.hid hln
  have hi : (Tryz.prog.info? 26).map (·.size) = some 7 := by kernel_rfl
  obtain ⟨sd, hu⟩ := isStruct_of (P := Tryz.prog) (t := 26) (by kernel_rfl)
  have HU := Lib.hid (And.intro hi hu)
  have HM := Lib.hid hm
  clear h hln hi hu hW
  go_enter Tryz.func14, Tryz.ntmps14
  go_wp2_with fail
  go_loopg [5, 6] (n) (fun g v i wr => ∃ (t : Nat) (vs : List TokV) (f : Nat), i = .int .i64 (t : Int) ∧ t ≤ n ∧ Hid (g = f) ∧ Hid (n ≤ f + t) ∧ Hid (vs.length ≤ t) ∧ Hid (allOut l = allR l (f + 1) (vs.map TokV.t) t) ∧ Hid (GrowT 26 w wr w.heap.size v vs))
  case atStart => exact ⟨0, [], n, rfl, Nat.zero_le _, Lib.hid rfl, Lib.hid (by omega), Lib.hid (Nat.zero_le _), Lib.hid (by unfold allOut; rw [HLn.out]; rfl), Lib.hid (GrowT.start _ w)⟩
  case round =>
    obtain ⟨t, vs, f, rfl, ht, hgf, hg, hal, HE, HG⟩ := hrel
    have hm := HM.out
    have ht0 : (0 : Int) ≤ (t : Int) := by omega
    have ht9 : (t : Int) ≤ 40000 := by omega
    by_cases htn : t < n
    · have hti : (t : Int) < (n : Int) := by omega
      have htl : t < l.length := by rw [HLn.out]; exact htn
      have C1 := CN.out t htn _ _ _ HG.out
      have hok := nextOut_ok l t htl
      have hbad := fun e (h1 : (nextOut l t).2 = e) h2 => HE.out.trans (all_bad (f := f) (acc := vs.map TokV.t) htl h1 h2)
      have hmore := fun k u (h1 : nextOut l t = (k, 0)) (h2 : k.to_ = ((u : Nat) : Int)) => HE.out.trans (all_more (f := f) (acc := vs.map TokV.t) htl h1 h2)
      generalize nextOut l t = o at *
      obtain ⟨k, e⟩ := o
      simp only at hok hbad
      have C2 := Lib.hid C1
      clear C1
      by_cases he : e = 0
      · subst he
        obtain ⟨hfro, u, hu, htu, hun⟩ := hok rfl
        clear hfro
        rw [HLn.out] at hun
        have HA := Lib.hid (hmore k u rfl hu)
        have HUu := Lib.hid hu
        clear hok hbad hmore htl hu
        go_wp2_with fail
        refine C2.out.mono ?_
        intro e0 w2 hp
        obtain ⟨PA, pn, pc, rfl, hpr, hb, hlo⟩ := hp.out
        simp only at hpr
        have ka := (Below.refl _ w2).alloc (Nat.le_refl _) (.cells #[.int .i64 k.kind, .int .i64 k.fro, .int .i64 k.to_, .string ⟨k.name.toArray⟩, .string ⟨k.text.toArray⟩, .slice PA pn pc, .int .i64 k.r] 26)
        have G1 := Lib.hid (HG.out.kept hb)
        have G2 := Lib.hid (G1.out.kept ka)
        have HQ := Lib.hid (hp_new w2 (.cells #[.int .i64 k.kind, .int .i64 k.fro, .int .i64 k.to_, .string ⟨k.name.toArray⟩, .string ⟨k.text.toArray⟩, .slice PA pn pc, .int .i64 k.r] 26))
        have HX := Lib.hid (And.intro ((hpr.below ka).more ka.size) (fun (_ : 0 < pc) b i (hA : PA = some ⟨b, i, none⟩) => HG.out.fresh (hlo b i hA)))
        have z2 := cell_of 2 HQ.out
        have hvl : vs.length ≤ 1000000000 := by have := hal.out; omega
        have hba : w.heap.size ≤ (w2.alloc (.cells #[.int .i64 k.kind, .int .i64 k.fro, .int .i64 k.to_, .string ⟨k.name.toArray⟩, .string ⟨k.text.toArray⟩, .slice PA pn pc, .int .i64 k.r] 26)).heap.size := G2.out.base1
        clear hpr hb hlo ka hp
        go_wp2_with fail
        have HLD := Lib.hid (fun (W : World) (hW : W.heap[w2.heap.size]? = some (.cells #[.int .i64 k.kind, .int .i64 k.fro, .int .i64 k.to_, .string ⟨k.name.toArray⟩, .string ⟨k.text.toArray⟩, .slice PA pn pc, .int .i64 k.r] 26)) => run_loadVar_row (P := Tryz.prog) W w2.heap.size _ 26 _ _ _ hW HU.out.2 rfl HU.out.1)
        have G3 := Lib.hid (G2.out.kept (below_drewN' (n := 1) (Below.refl _ _)))
        have hsz3 : (w2.alloc (.cells #[.int .i64 k.kind, .int .i64 k.fro, .int .i64 k.to_, .string ⟨k.name.toArray⟩, .string ⟨k.text.toArray⟩, .slice PA pn pc, .int .i64 k.r] 26)).heap.size = w2.heap.size + 1 := by simp
        have HX3 := Lib.hid (And.intro (HX.out.1.drewN (k := 1)) HX.out.2)
        generalize hv3 : w2.alloc (.cells #[.int .i64 k.kind, .int .i64 k.fro, .int .i64 k.to_, .string ⟨k.name.toArray⟩, .string ⟨k.text.toArray⟩, .slice PA pn pc, .int .i64 k.r] 26) = v3 at *
        clear hv3
        have HQd : v3.drew.heap[w2.heap.size]? = some (.cells #[.int .i64 k.kind, .int .i64 k.fro, .int .i64 k.to_, .string ⟨k.name.toArray⟩, .string ⟨k.text.toArray⟩, .slice PA pn pc, .int .i64 k.r] 26) := HQ.out
        have x0 := cell_of 0 HQd
        have x1 := cell_of 1 HQd
        have x2 := cell_of 2 HQd
        have x3 := cell_of 3 HQd
        have x4 := cell_of 4 HQd
        have x5 := cell_of 5 HQd
        have x6 := cell_of 6 HQd
        go_region_law (refine stepAppT rfl (.tmp 23) (.tmp 25) 36 26 rfl (.agg #[.int .i64 0, .int .i64 0, .int .i64 0, .string ⟨#[]⟩, .string ⟨#[]⟩, .slice none 0 0, .int .i64 0]) 7 88 Tryz.underlying36 info_tok rfl (by decide) w.heap.size _ vs.length (cellsK vs) rfl v3.drew rfl G3.out.own (TokV.cells ⟨k, PA, pn, pc⟩) rfl (w2.heap.size + 1) (by show v3.heap.size = _; omega) rfl rfl (cells_one _) hvl (by decide) G3.out.base1 ?_; intro v4 w4 hown4 hg4 hat4; have G4 := Lib.hid (G3.out.appended (x := ⟨k, PA, pn, pc⟩) HX3.out.1 HX3.out.2 hown4 hg4 (by rw [show (v3.drewN 1).heap.size = w2.heap.size + 1 from hsz3]; exact hat4)); have z4 : w4.cell? ⟨w2.heap.size, 2, none⟩ = some (.int .i64 k.to_) := cell_of 2 ((hg4.block w2.heap.size (by rw [World.size_alloc]; show w2.heap.size < v3.heap.size + 1; omega) (G1.out.fresh (Nat.le_refl _))).trans ((Below.heap_alloc _ _ _ (by show w2.heap.size < v3.heap.size; omega)).trans HQ.out)); clear hown4 hg4 hat4)
        all_goals
          go_wp2
          go_roundg (f - 1)
          case measure => have := hg.out; have := hgf.out; omega
          case rel => exact ⟨u, vs ++ [⟨k, PA, pn, pc⟩], f - 1, by rw [HUu.out], by omega, Lib.hid rfl, Lib.hid (by have := hg.out; omega), Lib.hid (by have := hal.out; simp; omega), Lib.hid (by rw [HA.out, List.map_append, show f - 1 + 1 = f by have := hg.out; omega]; rfl), G4⟩
      · have HA := Lib.hid (hbad e rfl he)
        have hei : ((e : Int) == 0) = false := by simp; omega
        clear hok hbad hmore htl
        go_wp2_with fail
        refine C2.out.mono ?_
        intro e0 w2 hp
        obtain ⟨PA, pn, pc, rfl, hpr, hb, hlo⟩ := hp.out
        have B := Lib.hid ((HG.out.kept hb).below.alloc (HG.out.kept hb).below.size (.cells #[.int .i64 k.kind, .int .i64 k.fro, .int .i64 k.to_, .string ⟨k.name.toArray⟩, .string ⟨k.text.toArray⟩, .slice PA pn pc, .int .i64 k.r] 26))
        clear hpr hb hlo hp
        go_wp2
        go_ret3
        rw [HA.out]
        exact AllPost.bad rfl B.out
    · have hti : ¬ (t : Int) < (n : Int) := by omega
      have HA := Lib.hid (HE.out.trans (all_end (by rw [HLn.out]; exact htn)))
      obtain rfl : t = n := by omega
      go_wp2
      go_ret3
      rw [HA.out]
      exact AllPost.good HG.out rfl
end Go.Proofs.YtmclngahdklfkaaGreatDoor
/- The law TokNexts: the page's example, the walk. -/
namespace Go.Proofs.YtmclngahdklfkaaGreatDoor
open Go.ChangeShapes Go.WideShapes Go.ChangeAt Go.RowKit
set_option linter.unusedVariables false
set_option maxRecDepth 100000 in
set_option maxHeartbeats 8000000 in
theorem live11_c (w : World) (hW : W11 w) : Calls Tryz.prog 9 #[] w fun e w' => e = .returned (.bool true) ∧ Below w.heap.size w w' := by
  have C1 : Hid (Calls Tryz.prog 14 #[.slice (some ⟨w.heap.size, 0, none⟩) 8 8] (w.alloc (.cells #[.int .u8 97, .int .u8 38, .int .u8 98, .int .u8 59, .int .u8 60, .int .u8 99, .int .u8 47, .int .u8 62] 5 (8, 9))) fun e w' => ∃ b o c, e = .returned (.tuple #[.slice (some ⟨b, o, none⟩) 3 c, .int .i64 8, .int .i64 0]) ∧ w'.cell? ⟨b, o, none⟩ = some (.int .i64 1) ∧ w'.cell? ⟨b, o + 10, none⟩ = some (.string ⟨#[98]⟩) ∧ w'.cell? ⟨b, o + 14, none⟩ = some (.int .i64 8) ∧ Hid (Below w.heap.size w w')) := Lib.hid (by
    have k1 := alloc_const w [97, 38, 98, 59, 60, 99, 47, 62] (8, 9) (by decide)
    have := tokAll_c _ _ _ _ _ (k1.2.more (by simp)) (hW.below k1.1) (by decide)
    rw [show allOut [97, 38, 98, 59, 60, 99, 47, 62] = ([⟨1, 0, 1, [], [97], [], 0⟩, ⟨3, 1, 4, [98], [], [], 0⟩, ⟨8, 4, 8, [99], [], [], 0⟩], 8, 0) by kernel_rfl] at this
    refine this.mono fun e w' ⟨A, n, c, vs, he, hv, hr, hb⟩ => ?_
    have hn : n = 3 := by
      have := congrArg List.length hv
      rw [List.length_map, hr.len] at this
      exact this
    subst hn
    obtain ⟨b, o, v0, rfl, _, h0, c0, _⟩ := hr.cell (i := 0) (by decide)
    obtain ⟨b1, o1, v1, e1, _, h1, c1, _⟩ := hr.cell (i := 1) (by decide)
    obtain ⟨b2, o2, v2, e2, _, h2, c2, _⟩ := hr.cell (i := 2) (by decide)
    cases e1
    cases e2
    have hm : ∀ (i : Nat) (v : TokV), vs[i]? = some v → (vs.map TokV.t)[i]? = some v.t := fun i v h => by rw [List.getElem?_map, h]; rfl
    have t0 := hm 0 _ h0
    have t1 := hm 1 _ h1
    have t2 := hm 2 _ h2
    rw [hv] at t0 t1 t2
    simp at t0 t1 t2
    refine ⟨b, o, c, he, ?_, ?_, ?_, Lib.hid (k1.1.trans (hb.mono k1.1.size))⟩
    · have := c0 0 (.int .i64 v0.t.kind) rfl
      rw [← t0] at this
      exact this
    · have := c1 3 (.string ⟨v1.t.name.toArray⟩) rfl
      rw [← t1] at this
      exact this
    · have := c2 0 (.int .i64 v2.t.kind) rfl
      rw [← t2] at this
      exact this)
  have kc := fun (C : Array Value) (n c : Nat) => Lib.run_convert_bytes_const (P := Tryz.prog) w 22 5 C n c Tryz.underlying22 Tryz.underlying5
  clear hW
  go_enter Tryz.func9, Tryz.ntmps9
  go_wp2_with fail
  refine C1.out.mono ?_
  rintro e w1 ⟨b, o, c, rfl, z0, z1, z2, B⟩
  clear kc
  go_wp2
  go_ret
  exact ⟨rfl, B.out⟩
end Go.Proofs.YtmclngahdklfkaaGreatDoor
