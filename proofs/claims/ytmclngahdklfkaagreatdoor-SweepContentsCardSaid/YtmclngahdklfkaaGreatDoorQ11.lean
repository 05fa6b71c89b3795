/- Texts of ours, joined: Tag4, Tag5, Tag6, Tag7, Lit5, Tag8. -/
import Derived.Test.YtmclngahdklfkaaGreatDoorRows
import Derived.WalkKit
import Derived.ProofKit
import Derived.OpenShut
import Derived.ShutString
import Derived.ChangeOld
import Derived.Below
import Derived.BigQuiet
import Derived.Deep.QuietTactic
import Derived.Lib.Hide
import Derived.Deep.RegionHeld3
import Derived.Lib.SlBytesConst
import Derived.Laws.CopyOwn
import Derived.Laws.CopyRow
import Derived.Lib.Bytes
import Derived.Deep.LoopGhost
import Derived.Deep.DeepFit
import Derived.Deep.DeepMust
import Derived.WalkSpells
import Derived.WalkLawsBesides
import Derived.Laws.EntriesVeiled
import Derived.Laws.Rows
import Derived.Maps.OwnOps
import Derived.Maps.Views
import Derived.Test.YtmclngahdklfkaaGreatDoorQ1
import Derived.Test.YtmclngahdklfkaaGreatDoorQ3
import Derived.Test.YtmclngahdklfkaaGreatDoorQ2
import Derived.Test.YtmclngahdklfkaaGreatDoorQ5
import Derived.Test.YtmclngahdklfkaaGreatDoorQ7
import Derived.Test.YtmclngahdklfkaaGreatDoorQ9
import Derived.Test.YtmclngahdklfkaaGreatDoorQ6
import Derived.Test.YtmclngahdklfkaaGreatDoorQ10
import Derived.Test.YtmclngahdklfkaaGreatDoorQ8
/- narthex/tag.Pairs -/
namespace Go.Proofs.YtmclngahdklfkaaGreatDoor
open Go.ChangeShapes Go.WideShapes Go.ChangeAt Go.RowKit
set_option linter.unusedVariables false
/-- What attributes' reading leaves: the row, the place behind, the error. -/
def PairsPost (o : List PairL × Nat × Nat) (w : World) (e : Ending) (w' : World) : Prop :=
  ∃ A n c, e = .returned (.tuple #[.slice A n c, .int .i64 (o.2.1 : Int), .int .i64 (o.2.2 : Int)]) ∧ PRd w' w'.heap.size A n c o.1 ∧ Below w.heap.size w w' ∧ ∀ b i, A = some ⟨b, i, none⟩ → w.heap.size ≤ b
theorem PairsPost.bad {w w' : World} {e : Ending} {x : Nat} (he : e = .returned (.tuple #[.slice none 0 0, .int .i64 0, .int .i64 (x : Int)])) (hb : Below w.heap.size w w') : PairsPost ([], 0, x) w e w' :=
  ⟨none, 0, 0, he, PRd.nilR _ _, hb, fun b i h => by cases h⟩
theorem PairsPost.good {w w' : World} {e : Ending} {acc : List PairL} {t : Nat} {v : Value} {n base : Nat} (hown : w'.ownsRow base 81 2 v n (cellsP acc)) (he : e = .returned (.tuple #[v, .int .i64 (t : Int), .int .i64 0])) (hb : Below w.heap.size w w') (hbase : w.heap.size ≤ base) : PairsPost (acc, t, 0) w e w' := by
  have hl := fun b hb => ownsRow_lt hown b hb
  obtain ⟨A, c, rfl, hr⟩ := PRd.ofOwn hown
  refine ⟨A, n, c, he, hr, hb, fun b i h => ?_⟩
  subst h
  rcases Nat.lt_or_ge b base with h' | h'
  · exact absurd rfl (hl b h')
  · omega
theorem PRd.move {w w' : World} {B B' n cap : Nat} {A : Option Addr} {ps : List PairL} (h : PRd w B A n cap ps) (hB : B ≤ B') (hk : ∀ b i, A = some ⟨b, i, none⟩ → b < B → w'.heap[b]? = w.heap[b]?) : PRd w' B' A n cap ps :=
  ⟨h.len, h.le, h.fit, h.nil, fun h0 => by
    obtain ⟨b, o, e, hb, hc⟩ := h.at_ h0
    have hh := hk b o e hb
    have hcell : ∀ j, w'.cell? ⟨b, j, none⟩ = w.cell? ⟨b, j, none⟩ := fun j => by unfold World.cell?; rw [hh]
    exact ⟨b, o, e, by omega, fun i p hp => ⟨(hcell _).trans (hc i p hp).1, (hcell _).trans (hc i p hp).2⟩⟩⟩
theorem stop_eq {l : List UInt8} {i t : Nat} (h : i = t) : stopB l i t = true := by unfold stopB; simp [h]
theorem stop_end {l : List UInt8} {i t : Nat} (h : l[i]? = none) : stopB l i t = true := by unfold stopB; rw [h]; simp
theorem stop_at {l : List UInt8} {i t : Nat} {c : UInt8} (h : l[i]? = some c) (hc : c = 47 ∨ c = 62) : stopB l i t = true := by unfold stopB; rw [h]; rcases hc with rfl | rfl <;> simp
theorem stop_no {l : List UInt8} {i t : Nat} {c : UInt8} (h : l[i]? = some c) (h0 : i ≠ t) (h1 : c ≠ 47) (h2 : c ≠ 62) : stopB l i t = false := by unfold stopB; rw [h]; simp [h0, h1, h2]
/-- While attributes are read: below w all as it was; the map of names at w's end; the row behind it. -/
def PgJ (w wr : World) (v : Value) (acc : List PairL) : Prop :=
  Below w.heap.size w wr ∧ w.heap.size < wr.heap.size ∧ Seen wr w.heap.size acc.length acc ∧ wr.ownsRow (w.heap.size + 1) 81 2 v acc.length (cellsP acc)
theorem PgJ.kept {w wr w' : World} {v : Value} {acc : List PairL} (h : PgJ w wr v acc) (hb : Below wr.heap.size wr w') : PgJ w w' v acc := by
  obtain ⟨h1, h2, ⟨D, h3, h3'⟩, h4⟩ := h
  exact ⟨h1.trans (hb.mono h1.size), by have := hb.size; omega, ⟨D, ownsMap_keep h3 (hb.block _ h2), h3'⟩, ownsRow_keep h4 fun g _ hg => hb.block g hg⟩
theorem PgJ.start (w : World) : PgJ w (w.alloc (.map #[] 0)) (.slice none 0 0) [] :=
  ⟨(Below.refl _ _).alloc (Nat.le_refl _) _, by simp, Seen.start w, rfl, Or.inl ⟨rfl, rfl⟩⟩
/-- A name counted. -/
theorem PgJ.count {w wr w' : World} {v : Value} {acc : List PairL} (h : PgJ w wr v acc) (hb : wr.grownBy w' (some w.heap.size)) : Below w.heap.size w w' ∧ w.heap.size < w'.heap.size ∧ w'.ownsRow (w.heap.size + 1) 81 2 v acc.length (cellsP acc) :=
  ⟨h.1.grown hb h.1.size (fun j hj => by cases hj; exact Nat.le_refl _), by have := hb.size; have := h.2.1; omega, ownsRow_keep h.2.2.2 fun g hg hl => hb.block g hl (by simp; omega)⟩
theorem PgJ.appended {w w3 w4 : World} {v v4 : Value} {acc : List PairL} {p : PairL} {cs : Array Value} {T : TypeId} (h1 : Below w.heap.size w w3) (h2 : w.heap.size < w3.heap.size) (hs : Seen w3 w.heap.size (acc ++ [p]).length (acc ++ [p])) (ho : w3.ownsRow (w.heap.size + 1) 81 2 v acc.length (cellsP acc))
    (hn : w4.ownsRow (w.heap.size + 1) 81 2 v4 (acc ++ [p]).length (cellsP (acc ++ [p]))) (hg : (w3.alloc (.cells cs T)).grownBy w4 v.ownBlock) : PgJ w w4 v4 (acc ++ [p]) := by
  have hsz := hg.size
  simp at hsz
  obtain ⟨D, hm, hD⟩ := hs
  refine ⟨(h1.alloc h1.size (.cells cs T)).grown hg (by simp; omega) fun k hk => ?_, by omega, ⟨D, ownsMap_keep hm ?_, hD⟩, hn⟩
  · have := (ho.lt k hk).1
    omega
  · rw [hg.block w.heap.size (by simp; omega) (ownsRow_lt ho w.heap.size (by omega)), Below.heap_alloc _ _ _ h2]
set_option maxRecDepth 100000 in
set_option maxHeartbeats 8000000 in
theorem tagPairs_in (A : Option Addr) (n cap : Nat) (l : List UInt8) (k : Nat) (w : World) (h : Byt w w.heap.size A n cap l) (hW : W10 w) (hm : n ≤ 40000) (hk : k ≤ n) :
    Calls Tryz.prog 134 #[.slice A n cap, .int .i64 k] w fun e w' => PairsPost (pairsOut l k) w e w' := by
  have hln := h.length
  have HK : Hid (∀ W v acc, PgJ w W v acc → Byt W W.heap.size A n cap l ∧ W10 W) := Lib.hid fun W v acc hJ => ⟨(h.below hJ.1).more hJ.1.size, hW.below hJ.1⟩
  have CB : Hid (∀ t, t ≤ n → ∀ W v acc, PgJ w W v acc → Calls Tryz.prog 43 #[.slice A n cap, .int .i64 (t : Int)] W fun e w' => e = .returned (.int .i64 (blankTo l t)) ∧ W = w') := Lib.hid fun t ht W v acc hb => blanks_c A n cap l t _ W (HK.out W v acc hb).1 (by omega) ht
  have CP : Hid (∀ t : Nat, t ≤ n → ∀ W v acc, PgJ w W v acc → Calls Tryz.prog 163 #[.slice A n cap, .int .i64 (t : Int)] W fun e w' => e = .returned (tpairV (pairOut l t)) ∧ Below W.heap.size W w') := Lib.hid fun t ht W v acc hb => tagPair_c A n cap l t W (HK.out W v acc hb).1 (HK.out W v acc hb).2 hm ht
  have HLn := Lib.hid hln
  have HKn := Lib.hid (And.intro hm hk)
  have HBy : Hid (Byt w w.heap.size A n cap l) := Lib.hid h
  have hk' : ¬ (n : Int) < (k : Int) := by omega
  have hk0 : ¬ (k : Int) < 0 := by omega
  have hmm := @run_makeMap Tryz.prog
  have hkn : ¬ n < k := by omega
  clear h hW hln hk hm HK
  go_enter Tryz.func134, Tryz.ntmps134
  go_wp2_with fail
  go_step3
  go_wp2_with fail
  go_step3
  go_wp2_with fail
  go_loopg [1, 7] (n) (fun g i v wr => ∃ (t : Nat) (acc : List PairL) (f : Nat), i = .int .i64 (t : Int) ∧ t ≤ n ∧ Hid (g = f) ∧ Hid (n ≤ f + t) ∧ Hid (acc.length ≤ t) ∧ Hid (pairsOut l k = pairsR l (f + 1) acc t) ∧ Hid (PgJ w wr v acc))
  case atStart => exact ⟨k, [], n, rfl, HKn.out.2, Lib.hid rfl, Lib.hid (by omega), Lib.hid (Nat.zero_le _), Lib.hid (by unfold pairsOut; rw [HLn.out]), Lib.hid (PgJ.start w)⟩
  case round =>
    obtain ⟨t, acc, f, rfl, ht, hgf, hg, hal, HE, HJ⟩ := hrel
    have hm := HKn.out.1
    have ht0 : (0 : Int) ≤ (t : Int) := by omega
    have htb : (t : Int) ≤ 40000 := by omega
    have c1 := CB.out t ht _ _ _ HJ.out
    have hbl := blankTo_le l t (by rw [HLn.out]; exact ht)
    rw [HLn.out] at hbl
    have hst := fun (h : stopB l (blankTo l t) t = true) => HE.out.trans (pairs_stop (f := _) (acc := acc) h)
    have hbd := fun (h : stopB l (blankTo l t) t = false) (e : Nat) (he : (pairOut l (blankTo l t)).2.2 = e) (h0 : e ≠ 0) => HE.out.trans (pairs_bad (f := _) (acc := acc) h he h0)
    have htw := fun (h : stopB l (blankTo l t) t = false) he h0 => HE.out.trans (pairs_twice (f := _) (acc := acc) h he h0)
    have hmo := fun (h : stopB l (blankTo l t) t = false) he h0 => HE.out.trans (pairs_more (f := _) (acc := acc) h he h0)
    generalize blankTo l t = b at *
    have hb0 : (0 : Int) ≤ (b : Int) := by omega
    have hb1 : (b : Int) ≤ 40000 := by omega
    have C1 := Lib.hid c1
    clear c1
    by_cases hbt : b = t
    · have hE := Lib.hid (hst (stop_eq hbt))
      have hbe : ((b : Int) == (t : Int)) = true := by simp; omega
      clear hst hbd htw hmo hmm hbt
      go_wp2_with fail
      refine (C1.out).mono ?_
      rintro e wq ⟨rfl, rfl⟩
      go_wp2
      go_ret3
      rw [hE.out]
      exact PairsPost.good HJ.out.2.2.2 rfl HJ.out.1 (Nat.le_succ _)
    · have hbe : ((b : Int) == (t : Int)) = false := by simp; omega
      by_cases hbn : b < n
      · obtain ⟨bb, o, c, rfl, hbB, hc, hcell⟩ := (HBy.out.below HJ.out.1).cell hbn
        have hbne : ((b : Int) == (n : Int)) = false := by simp; omega
        have c0 : (0 : Int) ≤ (c.toNat : Int) := by omega
        have c9 : (c.toNat : Int) ≤ 255 := by have := c.toNat_lt; omega
        by_cases h47 : c = 47
        · have hE := Lib.hid (hst (stop_at hc (Or.inl h47)))
          subst h47
          have hcell' : wr.cell? ⟨bb, o + b, none⟩ = some (.int .u8 47) := hcell
          clear hst hbd htw hmo hmm hbt hc hcell
          go_wp2_with fail
          refine (C1.out).mono ?_
          rintro e wq ⟨rfl, rfl⟩
          go_wp2
          go_ret3
          rw [hE.out]
          exact PairsPost.good HJ.out.2.2.2 rfl HJ.out.1 (Nat.le_succ _)
        · by_cases h62 : c = 62
          · have hE := Lib.hid (hst (stop_at hc (Or.inr h62)))
            subst h62
            have hcell' : wr.cell? ⟨bb, o + b, none⟩ = some (.int .u8 62) := hcell
            clear hst hbd htw hmo hmm hbt hc hcell
            go_wp2_with fail
            refine (C1.out).mono ?_
            rintro e wq ⟨rfl, rfl⟩
            go_wp2
            go_ret3
            rw [hE.out]
            exact PairsPost.good HJ.out.2.2.2 rfl HJ.out.1 (Nat.le_succ _)
          · have hsn := stop_no (t := t) hc hbt h47 h62
            have n47 : ((c.toNat : Int) == 47) = false := by
              have : c.toNat ≠ 47 := fun e => h47 (UInt8.toNat_inj.1 e)
              simp; omega
            have n62 : ((c.toNat : Int) == 62) = false := by
              have : c.toNat ≠ 62 := fun e => h62 (UInt8.toNat_inj.1 e)
              simp; omega
            have c2 := CP.out b (by omega) _ _ _ HJ.out
            have hpo := pairOut_ok l b (by rw [HLn.out]; omega)
            rw [HLn.out] at hpo
            clear hst hc h47 h62 hbt
            generalize pairOut l b = p at *
            obtain ⟨⟨s, pv⟩, nx, e⟩ := p
            unfold tpairV at c2
            simp only at c2 hpo hbd htw hmo
            have C2 := Lib.hid c2
            clear c2
            by_cases he : e = 0
            · subst he
              obtain ⟨hp1, hp2, hp3, hp4⟩ := hpo rfl
              have htx : t < nx := by omega
              have hkey : keyOf Tryz.prog 9 (.string ⟨s.toArray⟩) = some (.string s) := by
                have := Go.WideMaps.keyOf_string_mk (P := Tryz.prog) Tryz.underlying9 (s := ⟨s.toArray⟩) (by simp [ByteArray.size]; unfold maxLen; omega)
                simpa using this
              have HKEY := Lib.hid hkey
              cases hh : hasN acc s with
              | true =>
                have hE := Lib.hid (htw hsn rfl hh)
                clear hbd htw hmo hmm hsn
                go_wp2_with fail
                refine (C1.out).mono ?_
                rintro e wq ⟨rfl, rfl⟩
                go_wp2_with fail
                refine C2.out.mono ?_
                rintro e1 w1 ⟨rfl, hb⟩
                have J1 := Lib.hid (HJ.out.kept hb)
                clear hb
                have J2 := Lib.hid (J1.out.kept ((Below.refl _ w1).alloc (Nat.le_refl _) (.cells #[.string ⟨s.toArray⟩, .string ⟨pv.toArray⟩] 81)))
                have hq := hp_new w1 (.cells #[.string ⟨s.toArray⟩, .string ⟨pv.toArray⟩] 81)
                have z0 : (w1.alloc (.cells #[.string ⟨s.toArray⟩, .string ⟨pv.toArray⟩] 81)).cell? ⟨w1.heap.size, 0, none⟩ = some (.string ⟨s.toArray⟩) := cell_of 0 hq
                obtain ⟨D, hown, hD⟩ := J2.out.2.2.1
                have HD : Hid (∀ c : Int, D.atKey (.string s) (.lit (.int .i64 0)) = .lit (.int .i64 c) → c = 1) := Lib.hid fun c hc => by
                  rw [hD s, hh] at hc
                  simp at hc
                  exact hc.symm
                have HI := Lib.hid (ownsMap_is hown)
                clear hD hh
                go_wp2_with (first
                  | (at_lookup; refine wpList_lookup_own_int _ rfl _ _ 145 rfl 9 3 .i64 lawS Tryz.underlying145 Tryz.underlying3 (zeroI _) w.heap.size acc.length _ rfl hown _ _ rfl HKEY.out ?_; intro c hat hwc; obtain rfl := HD.out c hat)
                  | (at_mapUpdate; refine wpList_mapUpdate_own _ rfl _ _ _ 145 rfl 9 3 lawS Tryz.underlying145 _ w.heap.size acc.length _ rfl hown (by have := hal.out; unfold maxLen; omega) _ _ _ rfl rfl HKEY.out _ [] (plainElem_int Tryz.underlying3 (by decide)) ?_))
                intro w3 hown3 hgrow3
                have J3 := Lib.hid (J2.out.count hgrow3)
                have z3 : w3.cell? ⟨w1.heap.size, 0, none⟩ = some (.string ⟨s.toArray⟩) := by
                  have := J1.out.2.1
                  rw [cell_of 0 ((hgrow3.block w1.heap.size (by simp) (by simp; omega)).trans hq)]; rfl
                have HD3 : Hid (∀ c : Int, (D.put (.string s) (.lit (.int .i64 2))).atKey (.string s) (.lit (.int .i64 0)) = .lit (.int .i64 c) → c = 2) := Lib.hid fun c hc => by
                  rw [Go.Maps.atKey_put_same HI.out (by simp [WideAt.IsKeyLit])] at hc
                  simp at hc
                  exact hc.symm
                clear hown hgrow3 z0 hq
                go_wp2_with (at_lookup; refine wpList_lookup_own_int _ rfl _ _ 145 rfl 9 3 .i64 lawS Tryz.underlying145 Tryz.underlying3 (zeroI _) w.heap.size (acc.length + 1) _ rfl hown3 _ _ rfl HKEY.out ?_; intro c hat hwc; obtain rfl := HD3.out c hat)
                go_ret3
                rw [hE.out]
                exact PairsPost.bad rfl J3.out.1
              | false =>
                have hE := Lib.hid (hmo hsn rfl hh)
                clear hbd htw hmo hmm hsn
                go_wp2_with fail
                refine (C1.out).mono ?_
                rintro e wq ⟨rfl, rfl⟩
                go_wp2_with fail
                refine C2.out.mono ?_
                rintro e1 w1 ⟨rfl, hb⟩
                have J1 := Lib.hid (HJ.out.kept hb)
                clear hb
                have J2 := Lib.hid (J1.out.kept ((Below.refl _ w1).alloc (Nat.le_refl _) (.cells #[.string ⟨s.toArray⟩, .string ⟨pv.toArray⟩] 81)))
                have hq := hp_new w1 (.cells #[.string ⟨s.toArray⟩, .string ⟨pv.toArray⟩] 81)
                have z0 : (w1.alloc (.cells #[.string ⟨s.toArray⟩, .string ⟨pv.toArray⟩] 81)).cell? ⟨w1.heap.size, 0, none⟩ = some (.string ⟨s.toArray⟩) := cell_of 0 hq
                obtain ⟨D, hown, hD⟩ := J2.out.2.2.1
                have HD : Hid (∀ c : Int, D.atKey (.string s) (.lit (.int .i64 0)) = .lit (.int .i64 c) → c = 0) := Lib.hid fun c hc => by
                  rw [hD s, hh] at hc
                  simp at hc
                  exact hc.symm
                have HI := Lib.hid (ownsMap_is hown)
                have HS := Lib.hid (seen_snoc (p := (s, pv)) HI.out hD hh)
                clear hD hh
                go_wp2_with (first
                  | (at_lookup; refine wpList_lookup_own_int _ rfl _ _ 145 rfl 9 3 .i64 lawS Tryz.underlying145 Tryz.underlying3 (zeroI _) w.heap.size acc.length _ rfl hown _ _ rfl HKEY.out ?_; intro c hat hwc; obtain rfl := HD.out c hat)
                  | (at_mapUpdate; refine wpList_mapUpdate_own _ rfl _ _ _ 145 rfl 9 3 lawS Tryz.underlying145 _ w.heap.size acc.length _ rfl hown (by have := hal.out; unfold maxLen; omega) _ _ _ rfl rfl HKEY.out _ [] (plainElem_int Tryz.underlying3 (by decide)) ?_))
                intro w3 hown3 hgrow3
                have J3 := Lib.hid (J2.out.count hgrow3)
                have hq3 : w3.heap[w1.heap.size]? = some (.cells #[.string ⟨s.toArray⟩, .string ⟨pv.toArray⟩] 81) := by
                  have := J1.out.2.1
                  exact (hgrow3.block w1.heap.size (by simp) (by simp; omega)).trans hq
                have z3 : w3.cell? ⟨w1.heap.size, 0, none⟩ = some (.string ⟨s.toArray⟩) := cell_of 0 hq3
                have z4 : w3.cell? ⟨w1.heap.size, 1, none⟩ = some (.string ⟨pv.toArray⟩) := cell_of 1 hq3
                have HD3 : Hid (∀ c : Int, (D.put (.string s) (.lit (.int .i64 1))).atKey (.string s) (.lit (.int .i64 0)) = .lit (.int .i64 c) → c = 1) := Lib.hid fun c hc => by
                  rw [Go.Maps.atKey_put_same HI.out (by simp [WideAt.IsKeyLit])] at hc
                  simp at hc
                  exact hc.symm
                have HSe : Hid (Seen w3 w.heap.size (acc ++ [(s, pv)]).length (acc ++ [(s, pv)])) := Lib.hid ⟨_, by rw [List.length_append]; exact hown3, HS.out⟩
                have hacc : acc.length ≤ 1000000000 := by have := hal.out; omega
                have hbase : w.heap.size + 1 ≤ w3.heap.size := J3.out.2.1
                clear hgrow3 z0 hq hown
                go_wp2_with (first
                  | (at_lookup; refine wpList_lookup_own_int _ rfl _ _ 145 rfl 9 3 .i64 lawS Tryz.underlying145 Tryz.underlying3 (zeroI _) w.heap.size (acc.length + 1) _ rfl hown3 _ _ rfl HKEY.out ?_; intro c hat hwc; obtain rfl := HD3.out c hat)
                  | (at_builtin; refine wpList_app2 rfl (.tmp 68) (.tmp 70) 24 81 rfl (.agg #[.string ⟨#[]⟩, .string ⟨#[]⟩]) 32 Tryz.underlying24 info_pair rfl (w.heap.size + 1) _ acc.length (cellsP acc) rfl J3.out.2.2 (.string ⟨s.toArray⟩) (.string ⟨pv.toArray⟩) rfl rfl rfl hacc (by decide) hbase ?_))
                intro v4 w4 hown4 hgrow4
                have J4 : Hid (PgJ w w4 v4 (acc ++ [(s, pv)])) := Lib.hid (PgJ.appended J3.out.1 J3.out.2.1 HSe.out J3.out.2.2 (by rw [cellsP_snoc, List.length_append]; exact hown4) hgrow4)
                clear hgrow4 hown4 HSe z3 z4 hq3
                go_wp2
                go_roundg (f - 1)
                case measure => have := hg.out; have := hgf.out; omega
                case rel => exact ⟨nx, acc ++ [(s, pv)], f - 1, rfl, by omega, Lib.hid rfl, Lib.hid (by have := hg.out; omega), Lib.hid (by have := hal.out; simp; omega), Lib.hid (by rw [hE.out, show f - 1 + 1 = f by have := hg.out; omega]), J4⟩
            · have hE := Lib.hid (hbd hsn e rfl he)
              have hei : ((e : Int) == 0) = false := by simp; omega
              clear hbd htw hmo hmm hsn hpo
              go_wp2_with fail
              refine (C1.out).mono ?_
              rintro e wq ⟨rfl, rfl⟩
              go_wp2_with fail
              refine C2.out.mono ?_
              rintro e1 w1 ⟨rfl, hb⟩
              have J1 := Lib.hid (HJ.out.kept hb)
              clear hb
              have J2 := Lib.hid (J1.out.kept ((Below.refl _ w1).alloc (Nat.le_refl _) (.cells #[.string ⟨s.toArray⟩, .string ⟨pv.toArray⟩] 81)))
              go_wp2
              go_ret3
              rw [hE.out]
              exact PairsPost.bad rfl J2.out.1
      · obtain rfl : b = n := by omega
        have hE := Lib.hid (hst (stop_end (by rw [List.getElem?_eq_none]; rw [HLn.out]; exact Nat.le_refl _)))
        have hbne : ((b : Int) == (b : Int)) = true := by simp
        clear hst hbd htw hmo hmm hbt
        go_wp2_with fail
        refine (C1.out).mono ?_
        rintro e wq ⟨rfl, rfl⟩
        go_wp2
        go_ret3
        rw [hE.out]
        exact PairsPost.good HJ.out.2.2.2 rfl HJ.out.1 (Nat.le_succ _)
end Go.Proofs.YtmclngahdklfkaaGreatDoor
/- narthex/tag.begin, Close -/
namespace Go.Proofs.YtmclngahdklfkaaGreatDoor
open Go.ChangeShapes Go.WideShapes Go.ChangeAt Go.RowKit
set_option linter.unusedVariables false
/-- What 'begin' reads: a mark and a name behind it. -/
def beginOut (p : List UInt8) (l : List UInt8) (k : Nat) : List UInt8 × Nat × Nat := if p.isPrefixOf (l.drop k) = true then nameOut l (k + p.length) else ([], 0, 7)
set_option maxRecDepth 100000 in
set_option maxHeartbeats 4000000 in
theorem tagBegin_in (A : Option Addr) (n cap : Nat) (l : List UInt8) (k : Nat) (p : List UInt8) (w : World) (h : Byt w w.heap.size A n cap l) (hW : W10 w) (hm : n ≤ 40000) (hk : k ≤ n) (hp0 : 0 < p.length) (hpl : p.length ≤ 100) :
    Calls Tryz.prog 97 #[.slice A n cap, .int .i64 k, .string ⟨p.toArray⟩] w fun e w' => e = .returned (outV (beginOut p l k)) ∧ Below w.heap.size w w' := by
  have hln := h.length
  have hk' : ¬ (n : Int) < (k : Int) := by omega
  have hk0 : (0 : Int) ≤ (k : Int) := by omega
  have hk1 : (k : Int) ≤ 40000 := by omega
  have hp1 : (p.length : Int) ≤ 100 := by omega
  have c1 := stands_c A n cap l k p _ w h (by omega) (by omega) hk
  unfold beginOut
  cases hp : p.isPrefixOf (l.drop k) with
  | true =>
    rw [if_pos rfl]
    rw [hp] at c1
    have hkp : k + p.length ≤ n := by
      rcases pre_len hp with e | e
      · rw [e] at hp0; cases hp0
      · omega
    have c2 := name_c A n cap l (k + p.length) w h hW.forms hW.tabs.n (by omega) hkp
    rw [show ((k + p.length : Nat) : Int) = (k : Int) + (p.length : Int) by omega] at c2
    generalize nameOut l (k + p.length) = m at *
    obtain ⟨s, nx, e⟩ := m
    have C1 := Lib.hid c1
    have C2 := Lib.hid c2
    clear c1 c2 h hW hln hp hkp
    unfold outV at *
    go_enter Tryz.func97, Tryz.ntmps97
    go_wp2_with fail
    refine (C1.out).mono ?_
    rintro e wq ⟨rfl, rfl⟩
    go_wp2_with fail
    refine C2.out.mono ?_
    rintro e w1 ⟨rfl, hb⟩
    have B1 := Lib.hid hb
    clear hb
    go_wp2
    go_ret3
    exact ⟨rfl, B1.out⟩
  | false =>
    rw [if_neg (by simp)]
    rw [hp] at c1
    have C1 := Lib.hid c1
    clear c1 h hW hln hp
    unfold outV
    go_enter Tryz.func97, Tryz.ntmps97
    go_wp2_with fail
    refine (C1.out).mono ?_
    rintro e wq ⟨rfl, rfl⟩
    go_wp2
    go_ret3
    exact ⟨rfl, Below.refl _ _⟩
theorem beginOut_e (p l : List UInt8) (k : Nat) : (beginOut p l k).2.2 = 0 → (beginOut p l k) = nameOut l (k + p.length) ∧ p.isPrefixOf (l.drop k) = true := by
  unfold beginOut
  split
  · rename_i h; exact fun _ => ⟨rfl, h⟩
  · intro h; cases h
set_option maxRecDepth 100000 in
set_option maxHeartbeats 4000000 in
theorem tagClose_in (A : Option Addr) (n cap : Nat) (l : List UInt8) (k : Nat) (w : World) (h : Byt w w.heap.size A n cap l) (hW : W10 w) (hm : n ≤ 40000) (hk : k ≤ n) :
    Calls Tryz.prog 64 #[.slice A n cap, .int .i64 k] w fun e w' => e = .returned (outV (closeOut l k)) ∧ Below w.heap.size w w' := by
  have hln := h.length
  have c1 := tagBegin_in A n cap l k [60, 47] w h hW hm hk (by simp) (by simp)
  have CB : Hid (∀ t, t ≤ n → ∀ W, Below w.heap.size w W → Calls Tryz.prog 43 #[.slice A n cap, .int .i64 (t : Int)] W fun e w' => e = .returned (.int .i64 (blankTo l t)) ∧ W = w') := Lib.hid fun t ht W hb => blanks_c A n cap l t _ W (h.below hb) (by omega) ht
  have CS : Hid (∀ t, t ≤ n → ∀ W, Below w.heap.size w W → Calls Tryz.prog 98 #[.slice A n cap, .int .i64 (t : Int), .string ⟨#[62]⟩] W fun e w' => e = .returned (.bool ([62].isPrefixOf (l.drop t))) ∧ W = w') := Lib.hid fun t ht W hb => stands_c A n cap l t [62] _ W (h.below hb) (by omega) (by simp) ht
  have hcl : closeOut l k = if (beginOut [60, 47] l k).2.2 ≠ 0 then ([], 0, (beginOut [60, 47] l k).2.2) else if [62].isPrefixOf (l.drop (blankTo l (beginOut [60, 47] l k).2.1)) = true then ((beginOut [60, 47] l k).1, blankTo l (beginOut [60, 47] l k).2.1 + 1, 0) else ([], 0, 7) := by
    unfold closeOut beginOut
    split <;> simp
  have hno : (beginOut [60, 47] l k).2.2 = 0 → (beginOut [60, 47] l k).2.1 ≤ n := fun h0 => by
    obtain ⟨h1, h2⟩ := beginOut_e [60, 47] l k h0
    rw [h1] at h0 ⊢
    have := pre_len h2
    simp only [List.length_cons, List.length_nil] at h0 ⊢ this
    rw [← hln]
    refine (nameOut_ok l (k + 2) ?_ h0).2.1
    rcases this with e | e
    · cases e
    · omega
  rw [hcl]
  clear hcl
  generalize beginOut [60, 47] l k = m at *
  obtain ⟨s, nx, e⟩ := m
  simp only at hno ⊢
  unfold outV at c1
  simp only at c1
  have C1 := Lib.hid c1
  clear c1
  by_cases he : e = 0
  · subst he
    have hnx := hno rfl
    rw [if_neg (by simp)]
    have c2 := CB.out nx hnx
    have hb := blankTo_le l nx (by omega)
    generalize blankTo l nx = b at *
    have c3 := CS.out b (by omega)
    have hb0 : (0 : Int) ≤ (b : Int) := by omega
    have hb1 : (b : Int) ≤ 40000 := by omega
    generalize [62].isPrefixOf (l.drop b) = r at *
    have C2 := Lib.hid c2
    have C3 := Lib.hid c3
    clear c2 c3 CB CS h hW hln hno hnx hb hm hk
    unfold outV
    cases r
    all_goals
      simp only [if_true, Bool.false_eq_true, if_false]
      go_enter Tryz.func64, Tryz.ntmps64
      go_wp2_with fail
      refine (C1.out).mono ?_
      rintro e w1 ⟨rfl, hb⟩
      have B1 := Lib.hid hb
      clear hb
      go_wp2_with fail
      refine (C2.out _ B1.out).mono ?_
      rintro e wq ⟨rfl, rfl⟩
      go_wp2_with fail
      refine (C3.out _ B1.out).mono ?_
      rintro e wq ⟨rfl, rfl⟩
      go_wp2
      go_ret3
      exact ⟨rfl, B1.out⟩
  · rw [if_pos he]
    have hei : ((e : Int) == 0) = false := by simp; omega
    clear CB CS h hW hln hno hm hk
    unfold outV
    go_enter Tryz.func64, Tryz.ntmps64
    go_wp2_with fail
    refine (C1.out).mono ?_
    rintro e w1 ⟨rfl, hb⟩
    have B1 := Lib.hid hb
    clear hb
    go_wp2
    go_ret3
    exact ⟨rfl, B1.out⟩
end Go.Proofs.YtmclngahdklfkaaGreatDoor
/- narthex/tag.Open -/
namespace Go.Proofs.YtmclngahdklfkaaGreatDoor
open Go.ChangeShapes Go.WideShapes Go.ChangeAt Go.RowKit
set_option linter.unusedVariables false
/-- .. and the attributes lie in memory made anew. -/
def OpenPostF (o : TagL × Nat × Nat) (w : World) (e : Ending) (w' : World) : Prop :=
  ∃ A n c, e = .returned (.tuple #[.agg #[.string ⟨o.1.name.toArray⟩, .slice A n c, .bool o.1.empty], .int .i64 (o.2.1 : Int), .int .i64 (o.2.2 : Int)]) ∧ PRd w' w'.heap.size A n c o.1.pairs ∧ Below w.heap.size w w' ∧ ∀ b i, A = some ⟨b, i, none⟩ → w.heap.size ≤ b
theorem CJ.other {T : TypeId} {w W : World} {rs : Array Value} (h : CJ T w W rs) (b i : Nat) (hb : w.heap.size < b) (v : Value) : CJ T w (W.setCell ⟨b, i, none⟩ v) rs :=
  ⟨h.1.setCell (p := ⟨b, i, none⟩) (Nat.le_of_lt hb) v, by rw [hp_other (by omega)]; exact h.2⟩
theorem setRow_at (w : World) (g k : Nat) (cs : Array Value) (h : k ≠ g) : (w.setRow g cs).heap[k]? = w.heap[k]? := setRow_other _ _ _ _ h
theorem open_eq (l : List UInt8) (k : Nat) : openOut l k = if (beginOut [60] l k).2.2 ≠ 0 then (noTag, 0, (beginOut [60] l k).2.2)
    else if (pairsOut l (beginOut [60] l k).2.1).2.2 ≠ 0 then (noTag, 0, (pairsOut l (beginOut [60] l k).2.1).2.2)
    else if [47, 62].isPrefixOf (l.drop (blankTo l (pairsOut l (beginOut [60] l k).2.1).2.1)) = true then
      (⟨(beginOut [60] l k).1, (pairsOut l (beginOut [60] l k).2.1).1, true⟩, blankTo l (pairsOut l (beginOut [60] l k).2.1).2.1 + 2, 0)
    else if [62].isPrefixOf (l.drop (blankTo l (pairsOut l (beginOut [60] l k).2.1).2.1)) = true then
      (⟨(beginOut [60] l k).1, (pairsOut l (beginOut [60] l k).2.1).1, false⟩, blankTo l (pairsOut l (beginOut [60] l k).2.1).2.1 + 1, 0)
    else (noTag, 0, 7) := by
  have hb : beginOut [60] l k = if l[k]? = some 60 then nameOut l (k + 1) else ([], 0, 7) := by
    unfold beginOut
    rw [pre_one]
    by_cases h : l[k]? = some 60 <;> simp [h]
  rw [hb]
  unfold openOut
  by_cases h : l[k]? = some 60
  · simp only [if_pos h]
  · simp only [if_neg h]
    simp
set_option maxRecDepth 100000 in
set_option maxHeartbeats 8000000 in
theorem tagOpenF_in (A : Option Addr) (n cap : Nat) (l : List UInt8) (k : Nat) (w : World) (h : Byt w w.heap.size A n cap l) (hW : W10 w) (hm : n ≤ 40000) (hk : k ≤ n) :
    Calls Tryz.prog 99 #[.slice A n cap, .int .i64 k] w fun e w' => OpenPostF (openOut l k) w e w' := by
  have hln := h.length
  have hJ := CJ.start 87 w #[.string ⟨#[]⟩, .slice none 0 0, .bool false]
  have hi : (Tryz.prog.info? 87).map (·.size) = some 3 := by kernel_rfl
  obtain ⟨d, hu⟩ := isStruct_of (P := Tryz.prog) (t := 87) (by kernel_rfl)
  have HU := Lib.hid (And.intro hi hu)
  have HK : Hid (∀ W rs, CJ 87 w W rs → Byt W W.heap.size A n cap l ∧ W10 W) := Lib.hid fun W rs hJ => ⟨(h.below hJ.1).more hJ.1.size, hW.below hJ.1⟩
  have c1 := tagBegin_in A n cap l k [60] _ (HK.out _ _ hJ).1 (HK.out _ _ hJ).2 hm hk (by simp) (by simp)
  have CP : Hid (∀ t : Nat, t ≤ n → ∀ W rs, CJ 87 w W rs → Calls Tryz.prog 134 #[.slice A n cap, .int .i64 (t : Int)] W fun e w' => PairsPost (pairsOut l t) W e w') := Lib.hid fun t ht W rs hb => tagPairs_in A n cap l t W (HK.out W rs hb).1 (HK.out W rs hb).2 hm ht
  have CB : Hid (∀ t, t ≤ n → ∀ W rs, CJ 87 w W rs → Calls Tryz.prog 43 #[.slice A n cap, .int .i64 (t : Int)] W fun e w' => e = .returned (.int .i64 (blankTo l t)) ∧ W = w') := Lib.hid fun t ht W rs hb => blanks_c A n cap l t _ W (HK.out W rs hb).1 (by omega) ht
  have CS : Hid (∀ t, t ≤ n → ∀ p : List UInt8, p.length ≤ 100 → ∀ W rs, CJ 87 w W rs → Calls Tryz.prog 98 #[.slice A n cap, .int .i64 (t : Int), .string ⟨p.toArray⟩] W fun e w' => e = .returned (.bool (p.isPrefixOf (l.drop t))) ∧ W = w') := Lib.hid fun t ht p hp W rs hb => stands_c A n cap l t p _ W (HK.out W rs hb).1 (by omega) (by omega) ht
  have hno : (beginOut [60] l k).2.2 = 0 → (beginOut [60] l k).2.1 ≤ n := fun h0 => by
    obtain ⟨h1, h2⟩ := beginOut_e [60] l k h0
    rw [h1] at h0 ⊢
    have := pre_len h2
    simp only [List.length_cons, List.length_nil] at h0 ⊢ this
    rw [← hln]
    refine (nameOut_ok l (k + 1) ?_ h0).2.1
    rcases this with e | e
    · cases e
    · omega
  have hpo := fun t (ht : t ≤ n) => pairsOut_le l t (by omega)
  rw [hln] at hpo
  rw [open_eq]
  have J0 := Lib.hid hJ
  clear hi hu hJ h hW
  generalize beginOut [60] l k = m at *
  obtain ⟨s, nx, e⟩ := m
  simp only at hno ⊢
  unfold outV at c1
  simp only at c1
  have C1 := Lib.hid c1
  clear c1
  by_cases he : e = 0
  · subst he
    have hnx := hno rfl
    rw [if_neg (by simp)]
    have C2 := Lib.hid (CP.out nx hnx)
    have hpn := hpo nx hnx
    generalize pairsOut l nx = ps at *
    obtain ⟨ps, px, pe⟩ := ps
    simp only at hpn ⊢
    by_cases hpe : pe = 0
    · subst hpe
      rw [if_neg (by simp)]
      have c3 := CB.out px hpn
      have hb := blankTo_le l px (by omega)
      generalize blankTo l px = b at *
      have c4 := CS.out b (by omega) [47, 62] (by simp)
      have c5 := CS.out b (by omega) [62] (by simp)
      have hb0 : (0 : Int) ≤ (b : Int) := by omega
      have hb1 : (b : Int) ≤ 40000 := by omega
      generalize [47, 62].isPrefixOf (l.drop b) = r1 at *
      generalize [62].isPrefixOf (l.drop b) = r2 at *
      have C3 := Lib.hid c3
      have C4 := Lib.hid c4
      have C5 := Lib.hid c5
      clear c3 c4 c5 CB CS CP HK hln hno hpo hnx hpn hb hm hk
      cases r1 with
      | true =>
        simp only [if_true]
        go_enter Tryz.func99, Tryz.ntmps99
        go_wp2_with fail
        refine C1.out.mono ?_
        rintro e w1 ⟨rfl, hb⟩
        have J1 := Lib.hid (J0.out.kept hb)
        clear hb
        go_wp2_with fail
        refine (C2.out _ _ J1.out).mono ?_
        rintro e w2 ⟨PA, pn, pc, rfl, hpr, hb, hlo⟩
        have J2 := J1.out.kept hb
        have HP := Lib.hid (And.intro hpr (fun b i h => Nat.lt_of_lt_of_le (lt_of J1.out.2) (hlo b i h)))
        have hq := hp_new w2 (.cells #[.string ⟨s.toArray⟩, .slice PA pn pc, .bool false] 87)
        have hwl := lt_of J2.2
        have hwl1 := lt_of J1.out.2
        have J3 := Lib.hid (J2.kept ((Below.refl _ w2).alloc (Nat.le_refl _) (.cells #[.string ⟨s.toArray⟩, .slice PA pn pc, .bool false] 87)))
        have J4 := Lib.hid (J2.kept ((Below.refl _ w2).alloc (Nat.le_refl _) (.cells #[.string ⟨s.toArray⟩, .slice PA pn pc, .bool true] 87)))
        have z2 : (w2.alloc (.cells #[.string ⟨s.toArray⟩, .slice PA pn pc, .bool false] 87)).cell? ⟨w2.heap.size, 2, none⟩ = some (.bool false) := cell_of 2 hq
        have y2 := free_of 2 hq
        have hq4 := Lib.hid (hp_new w2 (.cells #[.string ⟨s.toArray⟩, .slice PA pn pc, .bool true] 87))
        have JF := Lib.hid (J4.out.row #[.string ⟨s.toArray⟩, .slice PA pn pc, .bool true])
        clear hpr hb hlo J2 hq hwl1
        go_wp2_with fail
        refine (C3.out _ _ J3.out).mono ?_
        rintro e wq ⟨rfl, rfl⟩
        go_wp2_with fail
        refine (C4.out _ _ J3.out).mono ?_
        rintro e wq ⟨rfl, rfl⟩
        go_wp2_with (first | (refine wpList_load_row rfl _ _ rfl w2.heap.size rfl _ _ _ _ hq4.out HU.out.2 rfl HU.out.1 ?_) | (refine wpList_store_row rfl _ _ _ rfl w.heap.size #[.string ⟨s.toArray⟩, .slice PA pn pc, .bool true] rfl rfl _ _ J4.out.2 (by kernel_rfl) rfl (by kernel_rfl) ?_))
        (try simp only [Exit.inBlock, Exit.then])
        refine bodyPost_ret (results_c3 rfl _ _ w.heap.size _ _ _ _ rfl JF.out.2 HU.out.2 rfl HU.out.1) rfl ⟨PA, pn, pc, rfl, HP.out.1.move ?_ ?_, JF.out.1, fun b i h => Nat.le_of_lt (HP.out.2 b i h)⟩
        · simp [World.setRow]
        · intro b' i' hA hb'
          have hlt := HP.out.2 b' i' hA
          rw [setRow_at _ _ _ _ (by omega), Below.heap_alloc _ _ _ hb']
      | false =>
        simp only [Bool.false_eq_true, if_false]
        cases r2 with
        | true =>
          simp only [if_true]
          go_enter Tryz.func99, Tryz.ntmps99
          go_wp2_with fail
          refine C1.out.mono ?_
          rintro e w1 ⟨rfl, hb⟩
          have J1 := Lib.hid (J0.out.kept hb)
          clear hb
          go_wp2_with fail
          refine (C2.out _ _ J1.out).mono ?_
          rintro e w2 ⟨PA, pn, pc, rfl, hpr, hb, hlo⟩
          have J2 := J1.out.kept hb
          have HP := Lib.hid (And.intro hpr (fun b i h => Nat.lt_of_lt_of_le (lt_of J1.out.2) (hlo b i h)))
          have hq := hp_new w2 (.cells #[.string ⟨s.toArray⟩, .slice PA pn pc, .bool false] 87)
          have J3 := Lib.hid (J2.kept ((Below.refl _ w2).alloc (Nat.le_refl _) (.cells #[.string ⟨s.toArray⟩, .slice PA pn pc, .bool false] 87)))
          have hq4 := Lib.hid hq
          have JF := Lib.hid (J3.out.row #[.string ⟨s.toArray⟩, .slice PA pn pc, .bool false])
          clear hpr hb hlo J2 hq
          go_wp2_with fail
          refine (C3.out _ _ J3.out).mono ?_
          rintro e wq ⟨rfl, rfl⟩
          go_wp2_with fail
          refine (C4.out _ _ J3.out).mono ?_
          rintro e wq ⟨rfl, rfl⟩
          go_wp2_with fail
          refine (C5.out _ _ J3.out).mono ?_
          rintro e wq ⟨rfl, rfl⟩
          go_wp2_with (first | (refine wpList_load_row rfl _ _ rfl w2.heap.size rfl _ _ _ _ hq4.out HU.out.2 rfl HU.out.1 ?_) | (refine wpList_store_row rfl _ _ _ rfl w.heap.size #[.string ⟨s.toArray⟩, .slice PA pn pc, .bool false] rfl rfl _ _ J3.out.2 (by kernel_rfl) rfl (by kernel_rfl) ?_))
          (try simp only [Exit.inBlock, Exit.then])
          refine bodyPost_ret (results_c3 rfl _ _ w.heap.size _ _ _ _ rfl JF.out.2 HU.out.2 rfl HU.out.1) rfl ⟨PA, pn, pc, rfl, HP.out.1.move ?_ ?_, JF.out.1, fun b i h => Nat.le_of_lt (HP.out.2 b i h)⟩
          · simp [World.setRow]
          · intro b' i' hA hb'
            have hlt := HP.out.2 b' i' hA
            rw [setRow_at _ _ _ _ (by omega), Below.heap_alloc _ _ _ hb']
        | false =>
          simp only [Bool.false_eq_true, if_false]
          go_enter Tryz.func99, Tryz.ntmps99
          go_wp2_with fail
          refine C1.out.mono ?_
          rintro e w1 ⟨rfl, hb⟩
          have J1 := Lib.hid (J0.out.kept hb)
          clear hb
          go_wp2_with fail
          refine (C2.out _ _ J1.out).mono ?_
          rintro e w2 ⟨PA, pn, pc, rfl, hpr, hb, hlo⟩
          have J2 := J1.out.kept hb
          have J3 := Lib.hid (J2.kept ((Below.refl _ w2).alloc (Nat.le_refl _) (.cells #[.string ⟨s.toArray⟩, .slice PA pn pc, .bool false] 87)))
          have JF := Lib.hid (J3.out.row #[.string ⟨#[]⟩, .slice none 0 0, .bool false])
          clear hpr hb hlo J2
          go_wp2_with fail
          refine (C3.out _ _ J3.out).mono ?_
          rintro e wq ⟨rfl, rfl⟩
          go_wp2_with fail
          refine (C4.out _ _ J3.out).mono ?_
          rintro e wq ⟨rfl, rfl⟩
          go_wp2_with fail
          refine (C5.out _ _ J3.out).mono ?_
          rintro e wq ⟨rfl, rfl⟩
          go_wp2_with (refine wpList_store_row rfl _ _ _ rfl w.heap.size #[.string ⟨#[]⟩, .slice none 0 0, .bool false] rfl rfl _ _ J3.out.2 (by kernel_rfl) rfl (by kernel_rfl) ?_)
          (try simp only [Exit.inBlock, Exit.then])
          exact bodyPost_ret (results_c3 rfl _ _ w.heap.size _ _ _ _ rfl JF.out.2 HU.out.2 rfl HU.out.1) rfl ⟨none, 0, 0, rfl, PRd.nilR _ _, JF.out.1, fun b i h => (by cases h)⟩
    · rw [if_pos hpe]
      have hei : ((pe : Int) == 0) = false := by simp; omega
      clear CB CS CP HK hln hno hpo hnx hpn hm hk
      go_enter Tryz.func99, Tryz.ntmps99
      go_wp2_with fail
      refine C1.out.mono ?_
      rintro e w1 ⟨rfl, hb⟩
      have J1 := Lib.hid (J0.out.kept hb)
      clear hb
      go_wp2_with fail
      refine (C2.out _ _ J1.out).mono ?_
      rintro e w2 ⟨PA, pn, pc, rfl, hpr, hb, hlo⟩
      have J2 := Lib.hid (J1.out.kept hb)
      have JF := Lib.hid (J2.out.row #[.string ⟨#[]⟩, .slice none 0 0, .bool false])
      clear hpr hb hlo
      go_wp2_with (refine wpList_store_row rfl _ _ _ rfl w.heap.size #[.string ⟨#[]⟩, .slice none 0 0, .bool false] rfl rfl _ _ J2.out.2 (by kernel_rfl) rfl (by kernel_rfl) ?_)
      (try simp only [Exit.inBlock, Exit.then])
      exact bodyPost_ret (results_c3 rfl _ _ w.heap.size _ _ _ _ rfl JF.out.2 HU.out.2 rfl HU.out.1) rfl ⟨none, 0, 0, rfl, PRd.nilR _ _, JF.out.1, fun b i h => (by cases h)⟩
  · rw [if_pos he]
    have hei : ((e : Int) == 0) = false := by simp; omega
    clear CB CS CP HK hln hno hpo hm hk
    go_enter Tryz.func99, Tryz.ntmps99
    go_wp2_with fail
    refine C1.out.mono ?_
    rintro e w1 ⟨rfl, hb⟩
    have J1 := Lib.hid (J0.out.kept hb)
    clear hb
    have JF := Lib.hid (J1.out.row #[.string ⟨#[]⟩, .slice none 0 0, .bool false])
    go_wp2_with (refine wpList_store_row rfl _ _ _ rfl w.heap.size #[.string ⟨#[]⟩, .slice none 0 0, .bool false] rfl rfl _ _ J1.out.2 (by kernel_rfl) rfl (by kernel_rfl) ?_)
    (try simp only [Exit.inBlock, Exit.then])
    exact bodyPost_ret (results_c3 rfl _ _ w.heap.size _ _ _ _ rfl JF.out.2 HU.out.2 rfl HU.out.1) rfl ⟨none, 0, 0, rfl, PRd.nilR _ _, JF.out.1, fun b i h => (by cases h)⟩
end Go.Proofs.YtmclngahdklfkaaGreatDoor
/- narthexref10: Has; names with colons -/
namespace Go.Proofs.YtmclngahdklfkaaGreatDoor
open Go.ChangeShapes Go.WideShapes Go.ChangeAt Go.RowKit
set_option linter.unusedVariables false
theorem okFalse (f : Int → Bool) : okName false f = f := by funext r; simp [okName]
set_option maxRecDepth 100000 in
set_option maxHeartbeats 2000000 in
theorem refReadF_c (A : Option Addr) (n cap : Nat) (l : List UInt8) (at_ : Nat) (w : World) (h : Byt w w.heap.size A n cap l) (hm : n ≤ 50000) (hat : at_ ≤ n) :
    Calls Tryz.prog 69 #[.slice A n cap, .int .i64 at_, .bool false] w fun e w' => e = .returned (outV (nameOut l at_)) ∧ Below w.heap.size w w' := by
  have hln := h.length
  have hend := refEnd_c false A n cap l at_ w h hm hat
  rw [okFalse, okFalse] at hend
  have hkl : at_ + endL isStart isMore n (l.drop at_) ≤ n := by
    have := endL_le n isStart isMore (l.drop at_)
    rw [List.length_drop, hln] at this
    omega
  have HB := Lib.hid h
  have HE : Hid (endL isStart isMore l.length (l.drop at_) = endL isStart isMore n (l.drop at_)) := Lib.hid (by rw [hln])
  clear h hln
  unfold nameOut
  simp only [HE.out]
  generalize endL isStart isMore n (l.drop at_) = k at *
  have hat' : ¬ (n : Int) < (at_ : Int) := by omega
  have HM := Lib.hid (And.intro hm hat)
  have HN := Lib.hid hend
  clear hm hend
  generalize hres : (if k = 0 then ([], 0, 7) else if 1024 < k then ([], 0, 11) else ((l.drop at_).take k, at_ + k, 0)) = res
  have HR := Lib.hid hres
  clear hres
  go_enter Tryz.func69, Tryz.ntmps69
  go_wp2_with fail
  refine HN.out.mono ?_
  rintro e w1 ⟨rfl, hb1⟩
  have HB1 := Lib.hid hb1
  clear hb1
  rcases (show k = 0 ∨ 1024 < k ∨ (0 < k ∧ k ≤ 1024) by omega) with h0 | h0 | h0
  · subst h0
    have hre := HR.out
    simp only [if_true] at hre
    subst hre
    go_wp2
    go_ret3
    exact ⟨rfl, HB1.out⟩
  · have hre := HR.out
    rw [if_neg (by omega), if_pos h0] at hre
    subst hre
    have hne : (((at_ + k : Nat) : Int) == (at_ : Int)) = false := by simp; omega
    have hne2 : ((at_ : Int) + (k : Int) == (at_ : Int)) = false := by simp; omega
    have h0' : (1024 : Int) < (k : Int) := by omega
    have hsb : ((at_ : Int) + (k : Int)) - (at_ : Int) = (k : Int) := by omega
    have hw : IntKind.i64.wrap (k : Int) = (k : Int) := by rw [IntKind.wrap_i64]; have := HM.out; omega
    go_wp2
    go_ret3
    exact ⟨rfl, HB1.out⟩
  · have hre := HR.out
    rw [if_neg (by omega), if_neg (by omega)] at hre
    subst hre
    have hne : (((at_ + k : Nat) : Int) == (at_ : Int)) = false := by simp; omega
    have hne2 : ((at_ : Int) + (k : Int) == (at_ : Int)) = false := by simp; omega
    have h0' : ¬ (1024 : Int) < (k : Int) := by omega
    have hsb : ((at_ : Int) + (k : Int)) - (at_ : Int) = (k : Int) := by omega
    have hw : IntKind.i64.wrap (k : Int) = (k : Int) := by rw [IntKind.wrap_i64]; have := HM.out; omega
    have hy := ((HB.out.below HB1.out).drop hat).take (k := k) (by omega)
    have hstr := hy.str
    have hcap := HB.out.le
    have hrf : ∀ w2 : World, (Instr.slice 22 (.slice A n cap) (some (.int .i64 (at_ : Int))) (some (.int .i64 ((at_ : Int) + (k : Int)))) none).run Tryz.prog w2 = .ok (.slice (cutA A cap at_) k (cap - at_)) w2 := fun w2 => by
      have := run_fromTo (w := w2) A n cap at_ (at_ + k) (by omega) (by omega)
      rw [show at_ + k - at_ = k by omega, show ((at_ + k : Nat) : Int) = (at_ : Int) + (k : Int) by omega] at this
      exact this
    have HY := Lib.hid hy
    clear hy hcap h0
    go_wp2
    go_ret3
    exact ⟨rfl, HB1.out⟩

set_option maxRecDepth 100000 in
set_option maxHeartbeats 4000000 in
theorem refHas10_c (A : Option Addr) (n cap : Nat) (ps : List PairL) (s : List UInt8) (B : Nat) (w : World) (h : PRd w B A n cap ps) (hm : n ≤ 1000000) :
    Calls Tryz.prog 90 #[.slice A n cap, .string ⟨s.toArray⟩] w fun e w' => e = .returned (.bool (hasN ps s)) ∧ w = w' := by
  have HB := Lib.hid h
  have hln := Lib.hid h.len
  clear h
  go_enter Tryz.func90, Tryz.ntmps90
  go_wp2
  go_loopg [5] (n) (fun g i wr => ∃ t : Nat, t ≤ n ∧ Hid (g + t = n) ∧ i = .int .i64 (t : Int) ∧ w = wr ∧ Hid (hasN ps s = hasN (ps.drop t) s))
  case atStart => exact ⟨0, Nat.zero_le _, Lib.hid (by omega), rfl, rfl, Lib.hid rfl⟩
  case round =>
    obtain ⟨t, ht, hg, rfl, rfl, HN⟩ := hrel
    have ht0 : (0 : Int) ≤ (t : Int) := by omega
    have htb : (t : Int) ≤ 1000000 := by omega
    by_cases htn : t < n
    · have htni : (t : Int) < (n : Int) := by omega
      obtain ⟨b, o, p, rfl, hb, hp, hc0, hc1⟩ := HB.out.cell htn
      have hd : ps.drop t = p :: ps.drop (t + 1) := by
        obtain ⟨hk, hc⟩ := List.getElem?_eq_some_iff.1 hp
        rw [List.drop_eq_getElem_cons hk, hc]
      obtain ⟨pn, pv⟩ := p
      simp only at hc0
      by_cases hs : pn = s
      · subst hs
        have HE : Hid (hasN ps pn = true) := Lib.hid (by rw [HN.out, hd]; simp [hasN])
        clear hd hp hc1 hb
        go_wp2
        go_ret
        exact ⟨by rw [HE.out]; rfl, rfl⟩
      · have HE : Hid (hasN ps s = hasN (ps.drop (t + 1)) s) := Lib.hid (by rw [HN.out, hd]; simp [hasN, hs])
        have hne : (pn == s) = false := by simpa using hs
        clear hd hp hc1 hb
        go_wp2
        go_roundg (n - (t + 1))
        case measure => have := hg.out; omega
        case rel => exact ⟨t + 1, by omega, Lib.hid (by omega), by go_num, rfl, HE⟩
    · have htni : ¬ (t : Int) < (n : Int) := by omega
      have HE : Hid (hasN ps s = false) := Lib.hid (by rw [HN.out, List.drop_of_length_le (by rw [hln.out]; omega)]; rfl)
      go_wp2
      go_ret
      exact ⟨by rw [HE.out]; rfl, rfl⟩
/-- While attributes are read, on the document's side. -/
def PhJ (w wr : World) (v : Value) (acc : List PairL) : Prop := Below w.heap.size w wr ∧ wr.ownsRow w.heap.size 81 2 v acc.length (cellsP acc)
theorem PhJ.kept {w wr w' : World} {v : Value} {acc : List PairL} (h : PhJ w wr v acc) (hb : Below wr.heap.size wr w') : PhJ w w' v acc :=
  ⟨h.1.trans (hb.mono h.1.size), ownsRow_keep h.2 fun g _ hg => hb.block g hg⟩
theorem PhJ.start (w : World) : PhJ w w (.slice none 0 0) [] := ⟨Below.refl _ _, rfl, Or.inl ⟨rfl, rfl⟩⟩
theorem PhJ.appended {w w3 w4 : World} {v v4 : Value} {acc : List PairL} {p : PairL} {cs : Array Value} {T : TypeId} (h : PhJ w w3 v acc) (hn : w4.ownsRow w.heap.size 81 2 v4 (acc ++ [p]).length (cellsP (acc ++ [p]))) (hg : (w3.alloc (.cells cs T)).grownBy w4 v.ownBlock) : PhJ w w4 v4 (acc ++ [p]) := by
  have hs := h.1.size
  refine ⟨(h.1.alloc h.1.size (.cells cs T)).grown hg (by simp; omega) fun k hk => ?_, hn⟩
  exact (h.2.lt k hk).1
end Go.Proofs.YtmclngahdklfkaaGreatDoor
/- narthexref07.Quoted, Has, Strict; lit.Entity. -/
namespace Go.Proofs.YtmclngahdklfkaaGreatDoor
open Go.ChangeShapes Go.WideShapes Go.ChangeAt Go.RowKit
set_option linter.unusedVariables false
set_option maxRecDepth 100000 in
set_option maxHeartbeats 2000000 in
theorem refQuoted_range (A : Option Addr) (n cap : Nat) (at_ : Int) (w : World) (ha : at_ < 0 ∨ (n : Int) < at_) :
    Calls Tryz.prog 142 #[.slice A n cap, .int .i64 at_] w fun e w' => e = .returned (outV ([], 0, 3)) ∧ w = w' := by
  by_cases h0 : at_ < 0
  · have hd : decide (at_ < 0) = true := by simpa using h0
    clear ha
    go_enter Tryz.func142, Tryz.ntmps142
    go_wp2
    go_ret3
    exact ⟨rfl, rfl⟩
  · have h1 : (n : Int) < at_ := by omega
    clear ha
    go_enter Tryz.func142, Tryz.ntmps142
    go_wp2
    go_ret3
    exact ⟨rfl, rfl⟩
set_option maxRecDepth 100000 in
set_option maxHeartbeats 2000000 in
theorem refQuoted_no (A : Option Addr) (n cap : Nat) (l : List UInt8) (k : Nat) (w : World) (B : Nat) (h : Byt w B A n cap l) (hm : n ≤ 50000) (hk : k ≤ n) (hq : ∀ q, l[k]? = some q → ¬ (q = 34 ∨ q = 39)) :
    Calls Tryz.prog 142 #[.slice A n cap, .int .i64 k] w fun e w' => e = .returned (outV ([], 0, 7)) ∧ w = w' := by
  have hat' : ¬ (n : Int) < (k : Int) := by omega
  by_cases hkn : k = n
  · have hkn' : ((k : Int) == (n : Int)) = true := by simp; omega
    clear hq h hm hk hkn
    go_enter Tryz.func142, Tryz.ntmps142
    go_wp2
    go_ret3
    exact ⟨rfl, rfl⟩
  · have hkn' : ((k : Int) == (n : Int)) = false := by simp; omega
    obtain ⟨b, o, c, rfl, hb, hc, hcell⟩ := h.cell (i := k) (by omega)
    have hli : (k : Int) < (n : Int) := by omega
    have hq' := not_or.1 (hq c hc)
    have e1 : ((c.toNat : Int) != 34) = true := by have := ne_byte' c 34 34 rfl hq'.1; simp [bne, this]
    have e2 : ((c.toNat : Int) != 39) = true := by have := ne_byte' c 39 39 rfl hq'.2; simp [bne, this]
    clear hq hq' h hm hk hkn hc
    generalize (c.toNat : Int) = cn at *
    go_enter Tryz.func142, Tryz.ntmps142
    go_wp2
    go_ret3
    exact ⟨rfl, rfl⟩
set_option maxRecDepth 100000 in
set_option maxHeartbeats 2000000 in
theorem refQuoted_34 (A : Option Addr) (n cap : Nat) (l : List UInt8) (k : Nat) (w : World) (B : Nat) (h : Byt w B A n cap l) (hm : n ≤ 50000) (hq : l[k]? = some 34) :
    Calls Tryz.prog 142 #[.slice A n cap, .int .i64 k] w fun e w' => e = .returned (outV (quotedQ 34 l k)) ∧ ∃ m, w' = w.drewN m := by
  have hl := h.length
  have hkn : k < n := by
    rcases Nat.lt_or_ge k l.length with g | g
    · omega
    · rw [List.getElem?_eq_none g] at hq; cases hq
  have hat' : ¬ (n : Int) < (k : Int) := by omega
  have hne : ((k : Int) == (n : Int)) = false := by simp; omega
  obtain ⟨b, o, c, rfl, hb, hc, hcell⟩ := h.cell (i := k) hkn
  have hcq : c = 34 := by rw [hq] at hc; exact (Option.some.inj hc).symm
  have hcell' : w.cell? ⟨b, o + k, none⟩ = some (.int .u8 34) := by rw [hcell, hcq]; rfl
  have hli : (k : Int) < (n : Int) := by omega
  have hk0 : (0 : Int) ≤ (k : Int) := by omega
  have hk1 : (k : Int) ≤ 50000 := by omega
  have hap : IntKind.i64.wrap ((k : Int) + 1) = (k : Int) + 1 := by rw [IntKind.wrap_i64]; omega
  have hdr := h.drop (k := k + 1) (by omega)
  have hlo := ix_lo 34 (l.drop (k + 1))
  rw [List.length_drop, hl] at hlo
  have hcap := h.le
  have HQ : Hid (quotedQ 34 l k = if Lib.indexByte (l.drop (k + 1)) 34 < 0 then ([], 0, 7) else ((l.drop (k + 1)).take (Lib.indexByte (l.drop (k + 1)) 34).toNat, k + (Lib.indexByte (l.drop (k + 1)) 34).toNat + 2, 0)) := Lib.hid rfl
  have HB : Hid (∀ j w1, (∃ m, w1 = w.drewN m) → j ≤ n - (k + 1) → (convert 22 9 (.slice (cutA (some ⟨b, o, none⟩) cap (k + 1)) j (cap - (k + 1)))).run Tryz.prog w1 = .ok (.string ⟨((l.drop (k + 1)).take j).toArray⟩) w1) := Lib.hid (by
    rintro j w1 ⟨m, rfl⟩ hj
    exact (hdr.drewN.take hj).str)
  have HCELL : Hid (∀ i, i < n → ∀ w1, (∃ m, w1 = w.drewN m) → w1.cell? ⟨b, o + i, none⟩ = some (.int .u8 (UInt8.toNat (l.getD i 0) : Int))) := Lib.hid (by
    rintro i hi w1 ⟨m, rfl⟩
    obtain ⟨b', o', c', e, hb', hc', hcl⟩ := h.cell hi
    cases e
    show w.cell? _ = _
    rw [hcl, List.getD_eq_getElem?_getD, hc']
    rfl)
  have hcut : ∀ j : Nat, j ≤ n - (k + 1) → ∀ w2 : World, (Instr.slice 22 (.slice (some ⟨b, o, none⟩) n cap) (some (.int .i64 ((k : Int) + 1))) (some (.int .i64 ((k + 1 + j : Nat) : Int))) none).run Tryz.prog w2 = .ok (.slice (cutA (some ⟨b, o, none⟩) cap (k + 1)) j (cap - (k + 1))) w2 := fun j hj w2 => by
    have := run_fromTo (w := w2) (some ⟨b, o, none⟩) n cap (k + 1) (k + 1 + j) (by omega) (by omega)
    rw [show k + 1 + j - (k + 1) = j by omega] at this
    exact this
  have HCUT := Lib.hid hcut
  have HC0 : Hid (∀ w1, (∃ m, w1 = w.drewN m) → w1.cell? ⟨b, o + k, none⟩ = some (.int .u8 34)) := Lib.hid (by
    rintro w1 ⟨m, rfl⟩
    exact hcell')
  have HL := Lib.hid hl
  clear hc hcell hcq hdr hlo hcap hcut h hq hl
  generalize quotedQ 34 l k = res at *
  go_enter Tryz.func142, Tryz.ntmps142
  go_wp2
  clear hcell'
  go_loopg [7] (n - (k + 1)) (fun g i wr => ∃ t : Nat, k + 1 ≤ t ∧ t ≤ n ∧ Hid (g + t = n) ∧ i = .int .i64 (t : Int) ∧ Hid (∃ m, wr = w.drewN m) ∧ Hid (∀ j < t - (k + 1), (l.drop (k + 1))[j]? ≠ some 34))
  case atStart => exact ⟨k + 1, Nat.le_refl _, by omega, Lib.hid (by omega), rfl, Lib.hid ⟨0, rfl⟩, Lib.hid (fun j hj => absurd hj (by omega))⟩
  case round =>
    obtain ⟨t, ht1, ht2, hg, rfl, HW, HN⟩ := hrel
    have ht0 : (0 : Int) ≤ (t : Int) := by omega
    have htb : (t : Int) ≤ 50000 := by omega
    by_cases htn : t < n
    · have htni : (t : Int) < (n : Int) := by omega
      have h1 := HCELL.out t htn wr HW.out
      have h2 := HC0.out wr HW.out
      have hdt : (l.drop (k + 1))[t - (k + 1)]? = some (l.getD t 0) := by
        rw [List.getElem?_drop, show k + 1 + (t - (k + 1)) = t by omega, List.getElem?_eq_getElem (by rw [HL.out]; exact htn)]
        simp [HL.out ▸ htn]
      have HDT := Lib.hid hdt
      clear hdt
      generalize l.getD t 0 = d at *
      have hd0 : (0 : Int) ≤ (d.toNat : Int) := by omega
      have hd1 : (d.toNat : Int) ≤ 255 := by have := d.toNat_lt; omega
      by_cases hdq : d = 34
      · subst hdq
        have hix : Lib.indexByte (l.drop (k + 1)) 34 = ((t - (k + 1) : Nat) : Int) := ix_eq 34 _ _ HDT.out HN.out
        have HRES : Hid (res = ((l.drop (k + 1)).take (t - (k + 1)), t + 1, 0)) := Lib.hid (by
          rw [HQ.out, hix, if_neg (by omega), Int.toNat_natCast]
          congr 2
          omega)
        have hct := HCUT.out (t - (k + 1)) (by omega)
        rw [show k + 1 + (t - (k + 1)) = t by omega] at hct
        have hw1 : IntKind.i64.wrap ((t : Int) + 1) = (t : Int) + 1 := by rw [IntKind.wrap_i64]; omega
        clear hix hd0 hd1
        go_wp2
        go_quiet (fail)
        have HW2 : Hid (∃ m, wr.drewN nq = w.drewN m) := Lib.hid (by
          obtain ⟨m, rfl⟩ := HW.out
          exact ⟨m + nq, by rw [World.drewN_drewN]⟩)
        generalize wr.drewN nq = wq at *
        have hst := HB.out (t - (k + 1)) wq HW2.out (by omega)
        generalize (l.drop (k + 1)).take (t - (k + 1)) = T at *
        go_wp2
        go_ret3
        rw [HRES.out]
        exact ⟨rfl, HW2.out⟩
      · have e1 : ((d.toNat : Int) == 34) = false := ne_byte' d 34 34 rfl hdq
        have HN2 : Hid (∀ j < t + 1 - (k + 1), (l.drop (k + 1))[j]? ≠ some 34) := Lib.hid (fun j hj => by
          rcases (show j < t - (k + 1) ∨ j = t - (k + 1) by omega) with h | rfl
          · exact HN.out j h
          · rw [HDT.out]; simpa using hdq)
        clear hdq
        generalize (d.toNat : Int) = dn at *
        go_wp2
        go_quiet (fail)
        have HW2 : Hid (∃ m, wr.drewN nq = w.drewN m) := Lib.hid (by
          obtain ⟨m, rfl⟩ := HW.out
          exact ⟨m + nq, by rw [World.drewN_drewN]⟩)
        generalize wr.drewN nq = wq at *
        go_wp2
        go_roundg (n - (t + 1))
        case measure => have := hg.out; omega
        case rel => exact ⟨t + 1, by omega, by omega, Lib.hid (by omega), by go_num, HW2, HN2⟩
    · have htni : ¬ (t : Int) < (n : Int) := by omega
      have hix : Lib.indexByte (l.drop (k + 1)) 34 = -1 := ix_eq_none 34 _ (fun j => by
        rcases Nat.lt_or_ge j (t - (k + 1)) with h | h
        · exact HN.out j h
        · rw [List.getElem?_eq_none (by rw [List.length_drop, HL.out]; omega)]; simp)
      have HRES : Hid (res = ([], 0, 7)) := Lib.hid (by rw [HQ.out, hix, if_pos (by omega)])
      clear hix
      go_wp2
      go_ret3
      rw [HRES.out]
      exact ⟨rfl, HW.out⟩
set_option maxRecDepth 100000 in
set_option maxHeartbeats 2000000 in
theorem refQuoted_39 (A : Option Addr) (n cap : Nat) (l : List UInt8) (k : Nat) (w : World) (B : Nat) (h : Byt w B A n cap l) (hm : n ≤ 50000) (hq : l[k]? = some 39) :
    Calls Tryz.prog 142 #[.slice A n cap, .int .i64 k] w fun e w' => e = .returned (outV (quotedQ 39 l k)) ∧ ∃ m, w' = w.drewN m := by
  have hl := h.length
  have hkn : k < n := by
    rcases Nat.lt_or_ge k l.length with g | g
    · omega
    · rw [List.getElem?_eq_none g] at hq; cases hq
  have hat' : ¬ (n : Int) < (k : Int) := by omega
  have hne : ((k : Int) == (n : Int)) = false := by simp; omega
  obtain ⟨b, o, c, rfl, hb, hc, hcell⟩ := h.cell (i := k) hkn
  have hcq : c = 39 := by rw [hq] at hc; exact (Option.some.inj hc).symm
  have hcell' : w.cell? ⟨b, o + k, none⟩ = some (.int .u8 39) := by rw [hcell, hcq]; rfl
  have hli : (k : Int) < (n : Int) := by omega
  have hk0 : (0 : Int) ≤ (k : Int) := by omega
  have hk1 : (k : Int) ≤ 50000 := by omega
  have hap : IntKind.i64.wrap ((k : Int) + 1) = (k : Int) + 1 := by rw [IntKind.wrap_i64]; omega
  have hdr := h.drop (k := k + 1) (by omega)
  have hlo := ix_lo 39 (l.drop (k + 1))
  rw [List.length_drop, hl] at hlo
  have hcap := h.le
  have HQ : Hid (quotedQ 39 l k = if Lib.indexByte (l.drop (k + 1)) 39 < 0 then ([], 0, 7) else ((l.drop (k + 1)).take (Lib.indexByte (l.drop (k + 1)) 39).toNat, k + (Lib.indexByte (l.drop (k + 1)) 39).toNat + 2, 0)) := Lib.hid rfl
  have HB : Hid (∀ j w1, (∃ m, w1 = w.drewN m) → j ≤ n - (k + 1) → (convert 22 9 (.slice (cutA (some ⟨b, o, none⟩) cap (k + 1)) j (cap - (k + 1)))).run Tryz.prog w1 = .ok (.string ⟨((l.drop (k + 1)).take j).toArray⟩) w1) := Lib.hid (by
    rintro j w1 ⟨m, rfl⟩ hj
    exact (hdr.drewN.take hj).str)
  have HCELL : Hid (∀ i, i < n → ∀ w1, (∃ m, w1 = w.drewN m) → w1.cell? ⟨b, o + i, none⟩ = some (.int .u8 (UInt8.toNat (l.getD i 0) : Int))) := Lib.hid (by
    rintro i hi w1 ⟨m, rfl⟩
    obtain ⟨b', o', c', e, hb', hc', hcl⟩ := h.cell hi
    cases e
    show w.cell? _ = _
    rw [hcl, List.getD_eq_getElem?_getD, hc']
    rfl)
  have hcut : ∀ j : Nat, j ≤ n - (k + 1) → ∀ w2 : World, (Instr.slice 22 (.slice (some ⟨b, o, none⟩) n cap) (some (.int .i64 ((k : Int) + 1))) (some (.int .i64 ((k + 1 + j : Nat) : Int))) none).run Tryz.prog w2 = .ok (.slice (cutA (some ⟨b, o, none⟩) cap (k + 1)) j (cap - (k + 1))) w2 := fun j hj w2 => by
    have := run_fromTo (w := w2) (some ⟨b, o, none⟩) n cap (k + 1) (k + 1 + j) (by omega) (by omega)
    rw [show k + 1 + j - (k + 1) = j by omega] at this
    exact this
  have HCUT := Lib.hid hcut
  have HC0 : Hid (∀ w1, (∃ m, w1 = w.drewN m) → w1.cell? ⟨b, o + k, none⟩ = some (.int .u8 39)) := Lib.hid (by
    rintro w1 ⟨m, rfl⟩
    exact hcell')
  have HL := Lib.hid hl
  clear hc hcell hcq hdr hlo hcap hcut h hq hl
  generalize quotedQ 39 l k = res at *
  go_enter Tryz.func142, Tryz.ntmps142
  go_wp2
  clear hcell'
  go_loopg [7] (n - (k + 1)) (fun g i wr => ∃ t : Nat, k + 1 ≤ t ∧ t ≤ n ∧ Hid (g + t = n) ∧ i = .int .i64 (t : Int) ∧ Hid (∃ m, wr = w.drewN m) ∧ Hid (∀ j < t - (k + 1), (l.drop (k + 1))[j]? ≠ some 39))
  case atStart => exact ⟨k + 1, Nat.le_refl _, by omega, Lib.hid (by omega), rfl, Lib.hid ⟨0, rfl⟩, Lib.hid (fun j hj => absurd hj (by omega))⟩
  case round =>
    obtain ⟨t, ht1, ht2, hg, rfl, HW, HN⟩ := hrel
    have ht0 : (0 : Int) ≤ (t : Int) := by omega
    have htb : (t : Int) ≤ 50000 := by omega
    by_cases htn : t < n
    · have htni : (t : Int) < (n : Int) := by omega
      have h1 := HCELL.out t htn wr HW.out
      have h2 := HC0.out wr HW.out
      have hdt : (l.drop (k + 1))[t - (k + 1)]? = some (l.getD t 0) := by
        rw [List.getElem?_drop, show k + 1 + (t - (k + 1)) = t by omega, List.getElem?_eq_getElem (by rw [HL.out]; exact htn)]
        simp [HL.out ▸ htn]
      have HDT := Lib.hid hdt
      clear hdt
      generalize l.getD t 0 = d at *
      have hd0 : (0 : Int) ≤ (d.toNat : Int) := by omega
      have hd1 : (d.toNat : Int) ≤ 255 := by have := d.toNat_lt; omega
      by_cases hdq : d = 39
      · subst hdq
        have hix : Lib.indexByte (l.drop (k + 1)) 39 = ((t - (k + 1) : Nat) : Int) := ix_eq 39 _ _ HDT.out HN.out
        have HRES : Hid (res = ((l.drop (k + 1)).take (t - (k + 1)), t + 1, 0)) := Lib.hid (by
          rw [HQ.out, hix, if_neg (by omega), Int.toNat_natCast]
          congr 2
          omega)
        have hct := HCUT.out (t - (k + 1)) (by omega)
        rw [show k + 1 + (t - (k + 1)) = t by omega] at hct
        have hw1 : IntKind.i64.wrap ((t : Int) + 1) = (t : Int) + 1 := by rw [IntKind.wrap_i64]; omega
        clear hix hd0 hd1
        go_wp2
        go_quiet (fail)
        have HW2 : Hid (∃ m, wr.drewN nq = w.drewN m) := Lib.hid (by
          obtain ⟨m, rfl⟩ := HW.out
          exact ⟨m + nq, by rw [World.drewN_drewN]⟩)
        generalize wr.drewN nq = wq at *
        have hst := HB.out (t - (k + 1)) wq HW2.out (by omega)
        generalize (l.drop (k + 1)).take (t - (k + 1)) = T at *
        go_wp2
        go_ret3
        rw [HRES.out]
        exact ⟨rfl, HW2.out⟩
      · have e1 : ((d.toNat : Int) == 39) = false := ne_byte' d 39 39 rfl hdq
        have HN2 : Hid (∀ j < t + 1 - (k + 1), (l.drop (k + 1))[j]? ≠ some 39) := Lib.hid (fun j hj => by
          rcases (show j < t - (k + 1) ∨ j = t - (k + 1) by omega) with h | rfl
          · exact HN.out j h
          · rw [HDT.out]; simpa using hdq)
        clear hdq
        generalize (d.toNat : Int) = dn at *
        go_wp2
        go_quiet (fail)
        have HW2 : Hid (∃ m, wr.drewN nq = w.drewN m) := Lib.hid (by
          obtain ⟨m, rfl⟩ := HW.out
          exact ⟨m + nq, by rw [World.drewN_drewN]⟩)
        generalize wr.drewN nq = wq at *
        go_wp2
        go_roundg (n - (t + 1))
        case measure => have := hg.out; omega
        case rel => exact ⟨t + 1, by omega, by omega, Lib.hid (by omega), by go_num, HW2, HN2⟩
    · have htni : ¬ (t : Int) < (n : Int) := by omega
      have hix : Lib.indexByte (l.drop (k + 1)) 39 = -1 := ix_eq_none 39 _ (fun j => by
        rcases Nat.lt_or_ge j (t - (k + 1)) with h | h
        · exact HN.out j h
        · rw [List.getElem?_eq_none (by rw [List.length_drop, HL.out]; omega)]; simp)
      have HRES : Hid (res = ([], 0, 7)) := Lib.hid (by rw [HQ.out, hix, if_pos (by omega)])
      clear hix
      go_wp2
      go_ret3
      rw [HRES.out]
      exact ⟨rfl, HW.out⟩
/-- narthexref07.Quoted. -/
theorem refQuoted_c (A : Option Addr) (n cap : Nat) (l : List UInt8) (at_ : Int) (w : World) (B : Nat) (h : Byt w B A n cap l) (hm : n ≤ 50000) :
    Calls Tryz.prog 142 #[.slice A n cap, .int .i64 at_] w fun e w' => e = .returned (outV (quotedAt l at_)) ∧ ∃ m, w' = w.drewN m := by
  have hl := h.length
  unfold quotedAt
  rw [hl]
  by_cases ha : at_ < 0 ∨ (n : Int) < at_
  · rw [if_pos ha]; exact (refQuoted_range A n cap at_ w ha).mono fun e w' ⟨he, hw⟩ => ⟨he, 0, hw.symm⟩
  · rw [if_neg ha]
    obtain ⟨k, rfl⟩ : ∃ k : Nat, at_ = (k : Int) := ⟨at_.toNat, by omega⟩
    rw [Int.toNat_natCast]
    unfold quotedOut
    cases hq : l[k]? with
    | none => exact (refQuoted_no A n cap l k w B h hm (by omega) (fun q e => by rw [hq] at e; cases e)).mono fun e w' ⟨he, hw⟩ => ⟨he, 0, hw.symm⟩
    | some q =>
      simp only
      by_cases hqq : q = 34 ∨ q = 39
      · rw [if_pos hqq]
        rcases hqq with rfl | rfl
        · exact refQuoted_34 A n cap l k w B h hm hq
        · exact refQuoted_39 A n cap l k w B h hm hq
      · rw [if_neg hqq]; exact (refQuoted_no A n cap l k w B h hm (by omega) (fun q' e => by rw [hq] at e; cases e; exact hqq)).mono fun e w' ⟨he, hw⟩ => ⟨he, 0, hw.symm⟩
set_option maxRecDepth 100000 in
set_option maxHeartbeats 2000000 in
theorem has_c (l : List UInt8) (c : UInt8) (w : World) (hm : l.length ≤ 1000000) :
    Calls Tryz.prog 92 #[.string ⟨l.toArray⟩, .int .u8 c.toNat] w fun e w' => e = .returned (.bool (decide (0 ≤ Lib.indexByte l c))) ∧ w = w' := by
  have hsz : (⟨l.toArray⟩ : ByteArray).size = l.length := by simp [ByteArray.size]
  have hc0 : (0 : Int) ≤ (c.toNat : Int) := by omega
  go_enter Tryz.func92, Tryz.ntmps92
  go_wp2
  go_loopg [5] (l.length) (fun g i wr => ∃ t : Nat, t ≤ l.length ∧ Hid (g + t = l.length) ∧ i = .int .i64 (t : Int) ∧ w = wr ∧ Hid (∀ j < t, l[j]? ≠ some c))
  case atStart => exact ⟨0, Nat.zero_le _, Lib.hid rfl, rfl, rfl, Lib.hid (fun j hj => absurd hj (Nat.not_lt_zero _))⟩
  case round =>
    obtain ⟨t, ht, hg, rfl, rfl, HN⟩ := hrel
    have ht0 : (0 : Int) ≤ (t : Int) := by omega
    have htb : (t : Int) ≤ 1000000 := by omega
    by_cases htn : t < l.length
    · have htni : (t : Int) < (l.length : Int) := by omega
      have hix := run_strIndex l t htn w
      have HD : Hid (l[t]? = some (l.getD t 0)) := Lib.hid (by rw [List.getElem?_eq_getElem htn]; simp [htn])
      generalize l.getD t 0 = d at *
      by_cases hdc : d = c
      · have HE : Hid (decide (0 ≤ Lib.indexByte l c) = true) := Lib.hid (by
          rw [ix_eq c l t (by rw [HD.out, hdc]) HN.out]; simp)
        subst hdc
        go_wp2
        go_ret
        rw [HE.out]
        exact ⟨rfl, rfl⟩
      · have e1 : ((d.toNat : Int) == (c.toNat : Int)) = false := ne_byte' d c _ rfl hdc
        have HN2 : Hid (∀ j < t + 1, l[j]? ≠ some c) := Lib.hid (fun j hj => by
          rcases (show j < t ∨ j = t by omega) with h | rfl
          · exact HN.out j h
          · rw [HD.out]; simpa using hdc)
        clear hdc
        go_wp2
        go_roundg (l.length - (t + 1))
        case measure => have := hg.out; omega
        case rel => exact ⟨t + 1, by omega, Lib.hid (by omega), by go_num, rfl, HN2⟩
    · have HE : Hid (decide (0 ≤ Lib.indexByte l c) = false) := Lib.hid (by
        rw [ix_eq_none c l (fun j => by
          rcases Nat.lt_or_ge j t with h | h
          · exact HN.out j h
          · rw [List.getElem?_eq_none (by omega)]; simp)]
        simp)
      go_wp2
      go_ret
      rw [HE.out]
      exact ⟨rfl, rfl⟩
set_option maxRecDepth 100000 in
set_option maxHeartbeats 4000000 in
theorem refStrict_c (A : Option Addr) (n cap : Nat) (l : List UInt8) (at_ : Int) (but : UInt8) (w : World) (h : Byt w w.heap.size A n cap l) (hm : n ≤ 40000) :
    Calls Tryz.prog 103 #[.slice A n cap, .int .i64 at_, .int .u8 but.toNat] w fun e w' => e = .returned (outV (strictAt but l at_)) ∧ Below w.heap.size w w' := by
  have HQ := Lib.hid (refQuoted_c A n cap l at_ w _ h (by omega))
  have hql := quotedAt_le l at_
  rw [h.length] at hql
  have HS : Hid (strictAt but l at_ = if (quotedAt l at_).2.2 ≠ 0 then ([], 0, (quotedAt l at_).2.2) else if 0 ≤ Lib.indexByte (quotedAt l at_).1 but then ([], 0, 7) else if (refsOut (quotedAt l at_).1).2 ≠ 0 then ([], 0, (refsOut (quotedAt l at_).1).2) else ((quotedAt l at_).1, (quotedAt l at_).2.1, 0)) := Lib.hid rfl
  have HW : Hid (∀ w1, Calls Tryz.prog 92 #[.string ⟨(quotedAt l at_).1.toArray⟩, .int .u8 but.toNat] w1 fun e w' => e = .returned (.bool (decide (0 ≤ Lib.indexByte (quotedAt l at_).1 but))) ∧ w1 = w') := Lib.hid fun w1 => has_c _ but w1 (by omega)
  have HR : Hid (∀ w1, Calls Tryz.prog 91 #[.string ⟨(quotedAt l at_).1.toArray⟩] w1 fun e w' => e = .returned (.tuple #[.int .i64 (refsOut (quotedAt l at_).1).1, .int .i64 (refsOut (quotedAt l at_).1).2]) ∧ Below w1.heap.size w1 w') := Lib.hid fun w1 => refRefs_c _ w1 (by omega)
  clear h hql hm
  generalize strictAt but l at_ = res at *
  generalize quotedAt l at_ = q at *
  obtain ⟨s, k, f⟩ := q
  simp only at HS HW HR
  unfold outV at HQ
  generalize (but.toNat : Int) = bn at *
  by_cases hf : f = 0
  · subst hf
    by_cases hb : 0 ≤ Lib.indexByte s but
    · have HE : Hid (res = ([], 0, 7)) := Lib.hid (by rw [HS.out, if_neg (by simp), if_pos hb])
      have hdb : decide (0 ≤ Lib.indexByte s but) = true := by simpa using hb
      rw [hdb] at HW
      clear hb hdb
      go_enter Tryz.func103, Tryz.ntmps103
      go_wp2_with fail
      refine HQ.out.mono ?_
      rintro e w1 ⟨rfl, m, hw1⟩
      have B1 : Hid (Below w.heap.size w w1) := Lib.hid (by rw [hw1]; exact below_drewN' (Below.refl _ _))
      clear hw1
      go_wp2_with fail
      refine (HW.out w1).mono ?_
      rintro e w2 ⟨rfl, rfl⟩
      go_wp2
      go_ret3
      rw [HE.out]
      exact ⟨rfl, B1.out⟩
    · have hdb : decide (0 ≤ Lib.indexByte s but) = false := by simpa using hb
      rw [hdb] at HW
      generalize refsOut s = r at *
      obtain ⟨r1, r⟩ := r
      by_cases hr : r = 0
      · have HE : Hid (res = (s, k, 0)) := Lib.hid (by rw [HS.out, if_neg (by simp), if_neg hb, if_neg (by simpa using hr)])
        subst hr
        clear hb hdb
        go_enter Tryz.func103, Tryz.ntmps103
        go_wp2_with fail
        refine HQ.out.mono ?_
        rintro e w1 ⟨rfl, m, hw1⟩
        have B1 : Hid (Below w.heap.size w w1) := Lib.hid (by rw [hw1]; exact below_drewN' (Below.refl _ _))
        clear hw1
        go_wp2_with fail
        refine (HW.out w1).mono ?_
        rintro e w2 ⟨rfl, rfl⟩
        go_wp2_with fail
        refine (HR.out w1).mono ?_
        rintro e w2 ⟨rfl, hb⟩
        have B2 : Hid (Below w.heap.size w w2) := Lib.hid (B1.out.trans (hb.mono B1.out.size))
        clear hb
        go_wp2
        go_ret3
        rw [HE.out]
        exact ⟨rfl, B2.out⟩
      · have HE : Hid (res = ([], 0, r)) := Lib.hid (by rw [HS.out, if_neg (by simp), if_neg hb, if_pos (by simpa using hr)])
        have hrz : ((r : Int) != 0) = true := by simp; omega
        clear hb hdb hr
        go_enter Tryz.func103, Tryz.ntmps103
        go_wp2_with fail
        refine HQ.out.mono ?_
        rintro e w1 ⟨rfl, m, hw1⟩
        have B1 : Hid (Below w.heap.size w w1) := Lib.hid (by rw [hw1]; exact below_drewN' (Below.refl _ _))
        clear hw1
        go_wp2_with fail
        refine (HW.out w1).mono ?_
        rintro e w2 ⟨rfl, rfl⟩
        go_wp2_with fail
        refine (HR.out w1).mono ?_
        rintro e w2 ⟨rfl, hb⟩
        have B2 : Hid (Below w.heap.size w w2) := Lib.hid (B1.out.trans (hb.mono B1.out.size))
        clear hb
        go_wp2
        go_ret3
        rw [HE.out]
        exact ⟨rfl, B2.out⟩
  · have HE : Hid (res = ([], 0, f)) := Lib.hid (by rw [HS.out, if_pos hf])
    have hfz : ((f : Int) != 0) = true := by simp; omega
    clear hf
    go_enter Tryz.func103, Tryz.ntmps103
    go_wp2_with fail
    refine HQ.out.mono ?_
    rintro e w1 ⟨rfl, m, hw1⟩
    have B1 : Hid (Below w.heap.size w w1) := Lib.hid (by rw [hw1]; exact below_drewN' (Below.refl _ _))
    clear hw1
    go_wp2
    go_ret3
    rw [HE.out]
    exact ⟨rfl, B1.out⟩
end Go.Proofs.YtmclngahdklfkaaGreatDoor
/- narthexref10.Pairs -/
namespace Go.Proofs.YtmclngahdklfkaaGreatDoor
open Go.ChangeShapes Go.WideShapes Go.ChangeAt Go.RowKit
set_option linter.unusedVariables false
theorem pair_name {l : List UInt8} {i : Nat} (h : (nameOut l i).2.2 ≠ 0) : (pairOut l i).2.2 = (nameOut l i).2.2 := by unfold pairOut; rw [if_neg h]
theorem pair_eq {l : List UInt8} {i : Nat} (h : (nameOut l i).2.2 = 0) (h1 : l[blankTo l (nameOut l i).2.1]? ≠ some 61) : (pairOut l i).2.2 = 7 := by unfold pairOut; rw [if_pos h, if_neg h1]
theorem pair_val {l : List UInt8} {i : Nat} (h : (nameOut l i).2.2 = 0) (h1 : l[blankTo l (nameOut l i).2.1]? = some 61) :
    pairOut l i = (((nameOut l i).1, (strictAt 60 l (blankTo l (blankTo l (nameOut l i).2.1 + 1) : Nat)).1), (strictAt 60 l (blankTo l (blankTo l (nameOut l i).2.1 + 1) : Nat)).2.1, (strictAt 60 l (blankTo l (blankTo l (nameOut l i).2.1 + 1) : Nat)).2.2) := by
  unfold pairOut; rw [if_pos h, if_pos h1]
set_option maxRecDepth 100000 in
set_option maxHeartbeats 8000000 in
theorem refPairs_in (A : Option Addr) (n cap : Nat) (l : List UInt8) (k : Nat) (w : World) (h : Byt w w.heap.size A n cap l) (hm : n ≤ 40000) (hk : k ≤ n) :
    Calls Tryz.prog 71 #[.slice A n cap, .int .i64 k] w fun e w' => PairsPost (pairsOut l k) w e w' := by
  have hln := h.length
  have HK : Hid (∀ W v acc, PhJ w W v acc → Byt W W.heap.size A n cap l) := Lib.hid fun W v acc hJ => (h.below hJ.1).more hJ.1.size
  have CB : Hid (∀ t, t ≤ n → ∀ W v acc, PhJ w W v acc → Calls Tryz.prog 42 #[.slice A n cap, .int .i64 (t : Int)] W fun e w' => e = .returned (.int .i64 (blankTo l t)) ∧ W = w') := Lib.hid fun t ht W v acc hb => refBlanks_c A n cap l t _ W (HK.out W v acc hb) (by omega) ht
  have CR : Hid (∀ t : Nat, t ≤ n → ∀ W v acc, PhJ w W v acc → Calls Tryz.prog 69 #[.slice A n cap, .int .i64 (t : Int), .bool false] W fun e w' => e = .returned (outV (nameOut l t)) ∧ Below W.heap.size W w') := Lib.hid fun t ht W v acc hb => refReadF_c A n cap l t W (HK.out W v acc hb) (by omega) ht
  have CA : Hid (∀ t : Nat, t ≤ n → ∀ W v acc, PhJ w W v acc → Calls Tryz.prog 30 #[.slice A n cap, .int .i64 (t : Int), .string ⟨#[61]⟩] W fun e w' => e = .returned (.bool (decide (l[t]? = some 61))) ∧ W = w') := Lib.hid fun t ht W v acc hb => by
    have := refAt8_c A n cap l t [61] _ W (HK.out W v acc hb) (by simp) (by omega) (by simp) (by omega)
    rwa [pre_one] at this
  have CS : Hid (∀ t : Nat, ∀ W v acc, PhJ w W v acc → Calls Tryz.prog 103 #[.slice A n cap, .int .i64 (t : Int), .int .u8 60] W fun e w' => e = .returned (outV (strictAt 60 l (t : Int))) ∧ Below W.heap.size W w') := Lib.hid fun t W v acc hb => refStrict_c A n cap l t 60 W (HK.out W v acc hb) hm
  have HLn := Lib.hid hln
  have HKn := Lib.hid (And.intro hm hk)
  have HBy : Hid (Byt w w.heap.size A n cap l) := Lib.hid h
  have hk' : ¬ (n : Int) < (k : Int) := by omega
  have hk0 : ¬ (k : Int) < 0 := by omega
  have hkn : ¬ n < k := by omega
  clear h hln hk hm HK
  go_enter Tryz.func71, Tryz.ntmps71
  go_wp2
  go_loopg [1, 7] (n) (fun g i v wr => ∃ (t : Nat) (acc : List PairL) (f : Nat), i = .int .i64 (t : Int) ∧ t ≤ n ∧ Hid (g = f) ∧ Hid (n ≤ f + t) ∧ Hid (acc.length ≤ t) ∧ Hid (pairsOut l k = pairsR l (f + 1) acc t) ∧ Hid (PhJ w wr v acc))
  case atStart => exact ⟨k, [], n, rfl, HKn.out.2, Lib.hid rfl, Lib.hid (by omega), Lib.hid (Nat.zero_le _), Lib.hid (by unfold pairsOut; rw [HLn.out]), Lib.hid (PhJ.start w)⟩
  case round =>
    obtain ⟨t, acc, f, rfl, ht, hgf, hg, hal, HE, HJ⟩ := hrel
    have hm := HKn.out.1
    have ht0 : (0 : Int) ≤ (t : Int) := by omega
    have htb : (t : Int) ≤ 40000 := by omega
    obtain ⟨RA, rc, rfl, hrd⟩ := PRd.ofOwn HJ.out.2
    have HRd := Lib.hid hrd
    clear hrd
    have c1 := CB.out t ht _ _ _ HJ.out
    have hbl := blankTo_le l t (by rw [HLn.out]; exact ht)
    rw [HLn.out] at hbl
    have hst := fun (h : stopB l (blankTo l t) t = true) => HE.out.trans (pairs_stop (f := _) (acc := acc) h)
    have hbd := fun (h : stopB l (blankTo l t) t = false) (e : Nat) (he : (pairOut l (blankTo l t)).2.2 = e) (h0 : e ≠ 0) => HE.out.trans (pairs_bad (f := _) (acc := acc) h he h0)
    have htw := fun (h : stopB l (blankTo l t) t = false) he h0 => HE.out.trans (pairs_twice (f := _) (acc := acc) h he h0)
    have hmo := fun (h : stopB l (blankTo l t) t = false) he h0 => HE.out.trans (pairs_more (f := _) (acc := acc) h he h0)
    generalize blankTo l t = b at *
    have hb0 : (0 : Int) ≤ (b : Int) := by omega
    have hb1 : (b : Int) ≤ 40000 := by omega
    have C1 := Lib.hid c1
    clear c1
    by_cases hbt : b = t
    · have hE := Lib.hid (hst (stop_eq hbt))
      have hbe : ((b : Int) == (t : Int)) = true := by simp; omega
      clear hst hbd htw hmo hbt
      go_wp2_with fail
      refine (C1.out).mono ?_
      rintro e wq ⟨rfl, rfl⟩
      go_wp2
      go_ret3
      rw [hE.out]
      exact PairsPost.good HJ.out.2 rfl HJ.out.1 (Nat.le_refl _)
    · have hbe : ((b : Int) == (t : Int)) = false := by simp; omega
      by_cases hbn : b < n
      · obtain ⟨bb, o, c, rfl, hbB, hc, hcell⟩ := (HBy.out.below HJ.out.1).cell hbn
        have hbne : ((b : Int) == (n : Int)) = false := by simp; omega
        have c0 : (0 : Int) ≤ (c.toNat : Int) := by omega
        have c9 : (c.toNat : Int) ≤ 255 := by have := c.toNat_lt; omega
        by_cases h47 : c = 47
        · have hE := Lib.hid (hst (stop_at hc (Or.inl h47)))
          subst h47
          have hcell' : wr.cell? ⟨bb, o + b, none⟩ = some (.int .u8 47) := hcell
          clear hst hbd htw hmo hbt hc hcell
          go_wp2_with fail
          refine (C1.out).mono ?_
          rintro e wq ⟨rfl, rfl⟩
          go_wp2
          go_ret3
          rw [hE.out]
          exact PairsPost.good HJ.out.2 rfl HJ.out.1 (Nat.le_refl _)
        · by_cases h62 : c = 62
          · have hE := Lib.hid (hst (stop_at hc (Or.inr h62)))
            subst h62
            have hcell' : wr.cell? ⟨bb, o + b, none⟩ = some (.int .u8 62) := hcell
            clear hst hbd htw hmo hbt hc hcell
            go_wp2_with fail
            refine (C1.out).mono ?_
            rintro e wq ⟨rfl, rfl⟩
            go_wp2
            go_ret3
            rw [hE.out]
            exact PairsPost.good HJ.out.2 rfl HJ.out.1 (Nat.le_refl _)
          · have hsn := stop_no (t := t) hc hbt h47 h62
            have n47 : ((c.toNat : Int) == 47) = false := by
              have : c.toNat ≠ 47 := fun e => h47 (UInt8.toNat_inj.1 e)
              simp; omega
            have n62 : ((c.toNat : Int) == 62) = false := by
              have : c.toNat ≠ 62 := fun e => h62 (UInt8.toNat_inj.1 e)
              simp; omega
            have c2 := CR.out b (by omega) _ _ _ HJ.out
            have hno := nameOut_ok l b (by rw [HLn.out]; omega)
            rw [HLn.out] at hno
            have hpo := pairOut_ok l b (by rw [HLn.out]; omega)
            rw [HLn.out] at hpo
            have hpn := pair_name (l := l) (i := b)
            have hpe := pair_eq (l := l) (i := b)
            have hpv := pair_val (l := l) (i := b)
            generalize nameOut l b = m at *
            obtain ⟨s, nx, e⟩ := m
            unfold outV at c2
            simp only at c2 hno hpn hpe hpv
            have C2 := Lib.hid c2
            clear hst hc h47 h62 hbt c2
            by_cases he : e = 0
            · subst he
              obtain ⟨hn1, hn2, hn3⟩ := hno rfl
              have hb2 := blankTo_le l nx (by rw [HLn.out]; exact hn2)
              rw [HLn.out] at hb2
              have c3 := CB.out nx hn2
              generalize blankTo l nx = b2 at *
              have hb20 : (0 : Int) ≤ (b2 : Int) := by omega
              have hb21 : (b2 : Int) ≤ 40000 := by omega
              have c4 := CA.out b2 (by omega)
              have C3 := Lib.hid c3
              clear c3
              by_cases h61 : l[b2]? = some 61
              · have hlt := (List.getElem?_eq_some_iff.1 h61).1
                rw [HLn.out] at hlt
                have hd : decide (l[b2]? = some 61) = true := by simpa using h61
                rw [hd] at c4
                have hpv' := hpv rfl h61
                have c5 := CB.out (b2 + 1) (by omega)
                rw [show ((b2 + 1 : Nat) : Int) = (b2 : Int) + 1 by omega] at c5
                have C4 := Lib.hid c4
                have C5 := Lib.hid c5
                clear c4 c5 hd h61 hpn hpe hpv
                generalize blankTo l (b2 + 1) = b3 at *
                have c6 := CS.out b3
                generalize strictAt 60 l (b3 : Int) = q at *
                obtain ⟨pv, px, pe⟩ := q
                unfold outV at c6
                simp only at c6 hpv'
                rw [hpv'] at hpo hbd htw hmo
                simp only at hpo hbd htw hmo
                have C6 := Lib.hid c6
                clear c6 hpv'
                by_cases hpe0 : pe = 0
                · subst hpe0
                  obtain ⟨hp1, hp2, hp3, hp4⟩ := hpo rfl
                  have htx : t < px := by omega
                  have CH : Hid (∀ W, Below wr.heap.size wr W → Calls Tryz.prog 90 #[.slice RA acc.length rc, .string ⟨s.toArray⟩] W fun e w' => e = .returned (.bool (hasN acc s)) ∧ W = w') := Lib.hid fun W hb => refHas10_c RA acc.length rc acc s _ W (HRd.out.below hb) (by have := hal.out; omega)
                  cases hh : hasN acc s with
                  | true =>
                    have hE := Lib.hid (htw hsn rfl hh)
                    rw [hh] at CH
                    clear hbd htw hmo hsn hno hn3 hp3 hp4 hh
                    go_wp2_with fail
                    refine (C1.out).mono ?_
                    rintro e wq ⟨rfl, rfl⟩
                    go_wp2_with fail
                    refine C2.out.mono ?_
                    rintro e1 w1 ⟨rfl, hb⟩
                    have B1 := Lib.hid hb
                    have J1 := Lib.hid (HJ.out.kept hb)
                    clear hb
                    go_wp2_with fail
                    refine (C3.out _ _ _ J1.out).mono ?_
                    rintro e wq ⟨rfl, rfl⟩
                    go_wp2_with fail
                    refine (C4.out _ _ _ J1.out).mono ?_
                    rintro e wq ⟨rfl, rfl⟩
                    go_wp2_with fail
                    refine (C5.out _ _ _ J1.out).mono ?_
                    rintro e wq ⟨rfl, rfl⟩
                    go_wp2_with fail
                    refine (C6.out _ _ _ J1.out).mono ?_
                    rintro e1 w2 ⟨rfl, hb⟩
                    have B2 := Lib.hid (B1.out.trans (hb.mono B1.out.size))
                    have J2 := Lib.hid (J1.out.kept hb)
                    clear hb
                    go_wp2_with fail
                    refine (CH.out _ B2.out).mono ?_
                    rintro e wq ⟨rfl, rfl⟩
                    go_wp2
                    go_ret3
                    rw [hE.out]
                    exact PairsPost.bad rfl J2.out.1
                  | false =>
                    have hE := Lib.hid (hmo hsn rfl hh)
                    rw [hh] at CH
                    have hacc : acc.length ≤ 1000000000 := by have := hal.out; omega
                    clear hbd htw hmo hsn hno hn3 hp3 hp4 hh
                    go_wp2_with fail
                    refine (C1.out).mono ?_
                    rintro e wq ⟨rfl, rfl⟩
                    go_wp2_with fail
                    refine C2.out.mono ?_
                    rintro e1 w1 ⟨rfl, hb⟩
                    have B1 := Lib.hid hb
                    have J1 := Lib.hid (HJ.out.kept hb)
                    clear hb
                    go_wp2_with fail
                    refine (C3.out _ _ _ J1.out).mono ?_
                    rintro e wq ⟨rfl, rfl⟩
                    go_wp2_with fail
                    refine (C4.out _ _ _ J1.out).mono ?_
                    rintro e wq ⟨rfl, rfl⟩
                    go_wp2_with fail
                    refine (C5.out _ _ _ J1.out).mono ?_
                    rintro e wq ⟨rfl, rfl⟩
                    go_wp2_with fail
                    refine (C6.out _ _ _ J1.out).mono ?_
                    rintro e1 w2 ⟨rfl, hb⟩
                    have B2 := Lib.hid (B1.out.trans (hb.mono B1.out.size))
                    have J2 := Lib.hid (J1.out.kept hb)
                    clear hb
                    go_wp2_with fail
                    refine (CH.out _ B2.out).mono ?_
                    rintro e wq ⟨rfl, rfl⟩
                    have hbase : w.heap.size ≤ w2.heap.size := J2.out.1.size
                    go_wp2_with (at_builtin; refine wpList_app2 rfl (.tmp 84) (.tmp 88) 24 81 rfl (.agg #[.string ⟨#[]⟩, .string ⟨#[]⟩]) 32 Tryz.underlying24 info_pair rfl w.heap.size _ acc.length (cellsP acc) rfl J2.out.2 (.string ⟨s.toArray⟩) (.string ⟨pv.toArray⟩) rfl rfl rfl hacc (by decide) hbase ?_)
                    intro v4 w4 hown4 hgrow4
                    have J4 : Hid (PhJ w w4 v4 (acc ++ [(s, pv)])) := Lib.hid (PhJ.appended J2.out (by rw [cellsP_snoc, List.length_append]; exact hown4) hgrow4)
                    clear hgrow4 hown4
                    go_wp2
                    go_roundg (f - 1)
                    case measure => have := hg.out; have := hgf.out; omega
                    case rel => exact ⟨px, acc ++ [(s, pv)], f - 1, rfl, by omega, Lib.hid rfl, Lib.hid (by have := hg.out; omega), Lib.hid (by have := hal.out; simp; omega), Lib.hid (by rw [hE.out, show f - 1 + 1 = f by have := hg.out; omega]), J4⟩
                · have hE := Lib.hid (hbd hsn pe rfl hpe0)
                  have hei : ((pe : Int) == 0) = false := by simp; omega
                  clear hbd htw hmo hsn hno hpo
                  go_wp2_with fail
                  refine (C1.out).mono ?_
                  rintro e wq ⟨rfl, rfl⟩
                  go_wp2_with fail
                  refine C2.out.mono ?_
                  rintro e1 w1 ⟨rfl, hb⟩
                  have J1 := Lib.hid (HJ.out.kept hb)
                  clear hb
                  go_wp2_with fail
                  refine (C3.out _ _ _ J1.out).mono ?_
                  rintro e wq ⟨rfl, rfl⟩
                  go_wp2_with fail
                  refine (C4.out _ _ _ J1.out).mono ?_
                  rintro e wq ⟨rfl, rfl⟩
                  go_wp2_with fail
                  refine (C5.out _ _ _ J1.out).mono ?_
                  rintro e wq ⟨rfl, rfl⟩
                  go_wp2_with fail
                  refine (C6.out _ _ _ J1.out).mono ?_
                  rintro e1 w2 ⟨rfl, hb⟩
                  have J2 := Lib.hid (J1.out.kept hb)
                  clear hb
                  go_wp2
                  go_ret3
                  rw [hE.out]
                  exact PairsPost.bad rfl J2.out.1
              · have hd : decide (l[b2]? = some 61) = false := by simpa using h61
                rw [hd] at c4
                have hE := Lib.hid (hbd hsn 7 (hpe rfl h61) (by decide))
                have C4 := Lib.hid c4
                clear c4 hd h61 hpn hpe hpv hbd htw hmo hsn hno hpo
                go_wp2_with fail
                refine (C1.out).mono ?_
                rintro e wq ⟨rfl, rfl⟩
                go_wp2_with fail
                refine C2.out.mono ?_
                rintro e1 w1 ⟨rfl, hb⟩
                have J1 := Lib.hid (HJ.out.kept hb)
                clear hb
                go_wp2_with fail
                refine (C3.out _ _ _ J1.out).mono ?_
                rintro e wq ⟨rfl, rfl⟩
                go_wp2_with fail
                refine (C4.out _ _ _ J1.out).mono ?_
                rintro e wq ⟨rfl, rfl⟩
                go_wp2
                go_ret3
                rw [hE.out]
                exact PairsPost.bad rfl J1.out.1
            · have hE := Lib.hid (hbd hsn e (hpn he) he)
              have hei : ((e : Int) == 0) = false := by simp; omega
              clear hpn hpe hpv hbd htw hmo hsn hno hpo
              go_wp2_with fail
              refine (C1.out).mono ?_
              rintro e wq ⟨rfl, rfl⟩
              go_wp2_with fail
              refine C2.out.mono ?_
              rintro e1 w1 ⟨rfl, hb⟩
              have J1 := Lib.hid (HJ.out.kept hb)
              clear hb
              go_wp2
              go_ret3
              rw [hE.out]
              exact PairsPost.bad rfl J1.out.1
      · obtain rfl : b = n := by omega
        have hE := Lib.hid (hst (stop_end (by rw [List.getElem?_eq_none]; rw [HLn.out]; exact Nat.le_refl _)))
        have hbne : ((b : Int) == (b : Int)) = true := by simp
        clear hst hbd htw hmo hbt
        go_wp2_with fail
        refine (C1.out).mono ?_
        rintro e wq ⟨rfl, rfl⟩
        go_wp2
        go_ret3
        rw [hE.out]
        exact PairsPost.good HJ.out.2 rfl HJ.out.1 (Nat.le_refl _)
end Go.Proofs.YtmclngahdklfkaaGreatDoor
