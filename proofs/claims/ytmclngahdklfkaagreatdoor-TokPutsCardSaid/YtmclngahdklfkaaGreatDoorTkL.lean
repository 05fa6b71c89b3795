/- The law TokPuts, walked. -/
import Derived.Test.YtmclngahdklfkaaGreatDoorRows
import Derived.WalkKit
import Derived.ProofKit
import Derived.OpenShut
import Derived.ShutString
import Derived.ChangeOld
import Derived.Below
import Derived.BigQuiet
import Derived.Deep.QuietTactic
import Derived.Lib.Hide
import Derived.Deep.RegionHeld3
import Derived.Lib.SlBytesConst
import Derived.Laws.CopyOwn
import Derived.Laws.CopyRow
import Derived.Lib.Bytes
import Derived.Deep.LoopGhost
import Derived.Deep.DeepFit
import Derived.Deep.DeepMust
import Derived.WalkSpells
import Derived.WalkLawsBesides
import Derived.Maps.OwnOps
import Derived.Maps.OwnSet
import Derived.Maps.Views
import Derived.Laws.EntriesVeiled
import Derived.Laws.Rows
import Derived.Maps.AppendAt
import Derived.Lib.SmallJoins
import Derived.Deep.AppendLies
import Derived.Deep.RegionLaw
import Derived.Deep.RegionWith
import Derived.Test.YtmclngahdklfkaaGreatDoorT1
import Derived.Test.YtmclngahdklfkaaGreatDoorT6
import Derived.Test.YtmclngahdklfkaaGreatDoorT2
import Derived.Test.YtmclngahdklfkaaGreatDoorT4
import Derived.Test.YtmclngahdklfkaaGreatDoorT5
import Derived.Test.YtmclngahdklfkaaGreatDoorT7
import Derived.Test.YtmclngahdklfkaaGreatDoorT8
import Derived.Test.YtmclngahdklfkaaGreatDoorT9
import Derived.Test.YtmclngahdklfkaaGreatDoorT10
import Derived.Test.YtmclngahdklfkaaGreatDoorT11
import Derived.Test.YtmclngahdklfkaaGreatDoorT12
import Derived.Test.YtmclngahdklfkaaGreatDoorT13
import Derived.Test.YtmclngahdklfkaaGreatDoorT14
import Derived.Test.YtmclngahdklfkaaGreatDoorT15
namespace Go.Proofs.YtmclngahdklfkaaGreatDoor
open Go.ChangeShapes Go.WideShapes Go.ChangeAt Go.RowKit
set_option linter.unusedVariables false
theorem pairsT_bound2 (B : Nat) : ∀ ps : List PairL, (∀ p ∈ ps, p.1.length + p.2.length ≤ B) → (pairsT ps).length ≤ ps.length * (B + 4)
  | [], _ => Nat.zero_le _
  | p :: t, h => by
    have ih := pairsT_bound2 B t fun q hq => h q (List.mem_cons_of_mem _ hq)
    have hp := h p List.mem_cons_self
    have hl := pairT_len p
    have e : pairsT (p :: t) = pairT p ++ pairsT t := rfl
    rw [e, List.length_append, List.length_cons, Nat.add_mul]
    omega
theorem tagT_small (s : List UInt8) (ps : List PairL) (em : Bool) (h1 : s.length ≤ 1200) (h2 : ps.length ≤ 20) (h3 : ∀ p ∈ ps, p.1.length ≤ 1200 ∧ p.2.length ≤ 300) : (tagT ⟨s, ps, em⟩).length ≤ 39000 := by
  have hb := pairsT_bound2 1500 ps fun p hp => by have := h3 p hp; omega
  have hm : ps.length * (1500 + 4) ≤ 20 * (1500 + 4) := Nat.mul_le_mul_right _ h2
  have he : (endT em).length ≤ 2 := by cases em <;> simp [endT]
  simp only [tagT, List.length_cons, List.length_append]
  omega
set_option maxRecDepth 100000 in
set_option maxHeartbeats 4000000 in
theorem give_c (o : TokL) (A : Option Addr) (n c : Nat) (w : World) : Calls Tryz.prog 27 #[.agg #[.int .i64 o.kind, .int .i64 o.fro, .int .i64 o.to_, .string ⟨o.name.toArray⟩, .string ⟨o.text.toArray⟩, .slice A n c, .int .i64 o.r]] w fun e w' => e = .returned (.agg #[.int .i64 o.kind, .int .i64 o.fro, .int .i64 o.to_, .string ⟨o.name.toArray⟩, .string ⟨o.text.toArray⟩, .slice A n c, .int .i64 o.r]) ∧ Below w.heap.size w w' := by
  have hi : (Tryz.prog.info? 26).map (·.size) = some 7 := by kernel_rfl
  obtain ⟨sd, hu⟩ := isStruct_of (P := Tryz.prog) (t := 26) (by kernel_rfl)
  have hq : ((w.alloc (.cells #[.int .i64 o.kind, .int .i64 o.fro, .int .i64 o.to_, .string ⟨o.name.toArray⟩, .string ⟨o.text.toArray⟩, .slice A n c, .int .i64 o.r] 30)).alloc (.cells #[.int .i64 o.kind, .int .i64 o.fro, .int .i64 o.to_, .string ⟨o.name.toArray⟩, .string ⟨o.text.toArray⟩, .slice A n c, .int .i64 o.r] 26)).heap[w.heap.size + 1]? = some (.cells #[.int .i64 o.kind, .int .i64 o.fro, .int .i64 o.to_, .string ⟨o.name.toArray⟩, .string ⟨o.text.toArray⟩, .slice A n c, .int .i64 o.r] 26) := by
    have := hp_new (w.alloc (.cells #[.int .i64 o.kind, .int .i64 o.fro, .int .i64 o.to_, .string ⟨o.name.toArray⟩, .string ⟨o.text.toArray⟩, .slice A n c, .int .i64 o.r] 30)) (.cells #[.int .i64 o.kind, .int .i64 o.fro, .int .i64 o.to_, .string ⟨o.name.toArray⟩, .string ⟨o.text.toArray⟩, .slice A n c, .int .i64 o.r] 26)
    rwa [World.size_alloc] at this
  have HQ := Lib.hid hq
  have HB := Lib.hid (((Below.refl w.heap.size w).alloc (Nat.le_refl _) (.cells #[.int .i64 o.kind, .int .i64 o.fro, .int .i64 o.to_, .string ⟨o.name.toArray⟩, .string ⟨o.text.toArray⟩, .slice A n c, .int .i64 o.r] 30)).alloc (by simp) (.cells #[.int .i64 o.kind, .int .i64 o.fro, .int .i64 o.to_, .string ⟨o.name.toArray⟩, .string ⟨o.text.toArray⟩, .slice A n c, .int .i64 o.r] 26))
  have HU := Lib.hid (And.intro hi hu)
  clear hq hi hu
  go_enter Tryz.func27, Tryz.ntmps27
  go_wp2
  (try simp only [Exit.inBlock, Exit.then])
  exact bodyPost_ret (results_cell_row rfl _ _ (w.heap.size + 1) _ _ _ _ rfl HQ.out HU.out.2 rfl HU.out.1) rfl ⟨rfl, HB.out⟩
/-- What is put, if it is something, is read again as itself; or it is a reference with a name that is too long. -/
theorem back_all {k fro to_ r : Int} {name text : List UInt8} {ps : List PairL} {s : List UInt8} (hp : putTok ⟨k, fro, to_, name, text, ps, r⟩ = (s, 0)) (hs : s ≠ []) :
    (k = 3 ∧ 1024 < name.length ∧ nextOut s 0 = (noTok, 11)) ∨ ∃ ty tn tp tr, nextOut s 0 = (⟨k, 0, (s.length : Int), tn, ty, tp, tr⟩, 0) ∧
      ((k = 1 ∨ k = 4 ∨ k = 5) ∧ ty = text ∨ k = 2 ∧ tr = r ∨ k = 6 ∧ tn = name ∧ ty = text ∨ (k = 7 ∨ k = 8) ∧ tn = name ∧ tp = ps ∨ (k = 3 ∨ k = 9) ∧ tn = name) := by
  by_cases h1 : k = 1
  · subst h1; exact .inr ⟨_, _, _, _, (back1 rfl hp hs).2, .inl ⟨.inl rfl, rfl⟩⟩
  by_cases h2 : k = 2
  · subst h2; exact .inr ⟨_, _, _, _, back2 rfl hp, .inr (.inl ⟨rfl, rfl⟩)⟩
  by_cases h3 : k = 3
  · subst h3
    have := back3 rfl hp
    split at this
    · exact .inl ⟨rfl, by assumption, this⟩
    · exact .inr ⟨_, _, _, _, this, .inr (.inr (.inr (.inr ⟨.inl rfl, rfl⟩)))⟩
  by_cases h4 : k = 4
  · subst h4; exact .inr ⟨_, _, _, _, back4 rfl hp, .inl ⟨.inr (.inl rfl), rfl⟩⟩
  by_cases h5 : k = 5
  · subst h5; exact .inr ⟨_, _, _, _, back5 rfl hp, .inl ⟨.inr (.inr rfl), rfl⟩⟩
  by_cases h6 : k = 6
  · subst h6; exact .inr ⟨_, _, _, _, back6 rfl hp, .inr (.inr (.inl ⟨rfl, rfl, rfl⟩))⟩
  by_cases h7 : k = 7
  · subst h7; exact .inr ⟨_, _, _, _, back7 rfl hp, .inr (.inr (.inr (.inl ⟨.inl rfl, rfl, rfl⟩)))⟩
  by_cases h8 : k = 8
  · subst h8; exact .inr ⟨_, _, _, _, back8 rfl hp, .inr (.inr (.inr (.inl ⟨.inr rfl, rfl, rfl⟩)))⟩
  by_cases h9 : k = 9
  · subst h9; exact .inr ⟨_, _, _, _, back9 rfl hp, .inr (.inr (.inr (.inr ⟨.inr rfl, rfl⟩)))⟩
  rw [put_none (fun j hj1 hj2 => by simp only; omega)] at hp
  cases hp
theorem decDigits_len (n : Nat) (h : n ≤ 2000000) : (Lib.decDigits n).length ≤ 100 := by
  have := decDigits_le n h
  omega
theorem putTok_small {k fro to_ r : Int} {name text : List UInt8} {ps : List PairL} (h1 : name.length ≤ 1200) (h2 : text.length ≤ 300) (h3 : ps.length ≤ 20) (h4 : ∀ p ∈ ps, p.1.length ≤ 1200 ∧ p.2.length ≤ 300) : (putTok ⟨k, fro, to_, name, text, ps, r⟩).1.length ≤ 39000 := by
  have hT := fun em => tagT_small name ps em h1 h3 h4
  have hD : (textOut r).length ≤ 200 := by
    unfold textOut
    split
    · rename_i hd
      have hr := (isDoc_iff r).1 hd
      have := decDigits_len r.toNat (by omega)
      simp
      omega
    · exact Nat.zero_le _
  have hO : ∀ em, (putOut name ps em).1.length ≤ 39000 := fun em => by
    unfold putOut
    split
    · exact hT em
    · exact Nat.zero_le _
  have hX : (dataOf text).length ≤ 301 := by
    cases text with
    | nil => exact Nat.zero_le _
    | cons c t => simp [dataOf] at h2 ⊢; omega
  unfold putTok
  simp only
  repeat' split
  all_goals first
    | exact Nat.zero_le _
    | exact hO _
    | (simp only; omega)
    | (simp [closeT]; omega)
    | (unfold putCDataOut; split <;> simp; omega)
    | (unfold putCommentOut; split <;> simp; omega)
    | (unfold putPiOut; repeat' split) <;> (simp; try omega)
set_option maxRecDepth 100000 in
set_option maxHeartbeats 16000000 in
theorem tokPuts_walk (k fro to_ : Int) (sn st : ByteArray) (A : Option Addr) (n cap : Nat) (ps : List PairL) (r : Int) (w : World) (h : PRd w w.heap.size A n cap ps) (hg : ∀ p ∈ ps, p.1.length ≤ maxLen ∧ p.2.length ≤ maxLen) (hW : W11P w) :
    Calls Tryz.prog 8 #[.agg #[.int .i64 k, .int .i64 fro, .int .i64 to_, .string sn, .string st, .slice A n cap, .int .i64 r]] w fun e w' => e = .returned (.bool true) ∧ Below w.heap.size w w' := by
  obtain ⟨name, rfl⟩ : ∃ l : List UInt8, sn = ⟨l.toArray⟩ := ⟨sn.data.toList, by simp⟩
  obtain ⟨text, rfl⟩ : ∃ l : List UInt8, st = ⟨l.toArray⟩ := ⟨st.data.toList, by simp⟩
  have LV : Hid (∀ W, Below w.heap.size w W → Calls Tryz.prog 9 #[] W fun e w' => e = .returned (.bool true) ∧ Below W.heap.size W w') := Lib.hid fun W hb => live11_c W (hW.toW11.below hb)
  have HPR : Hid (∀ W, Below w.heap.size w W → PRd W W.heap.size A n cap ps) := Lib.hid fun W hb => (h.below hb).more hb.size
  have HWW : Hid (∀ W, Below w.heap.size w W → W11P W) := Lib.hid fun W hb => hW.up hb
  have J0 := Lib.hid (CJ.start 30 w #[.int .i64 k, .int .i64 fro, .int .i64 to_, .string ⟨name.toArray⟩, .string ⟨text.toArray⟩, .slice A n cap, .int .i64 r])
  have CG := Lib.hid (great11_c k fro to_ r name text A n cap ps _ (HPR.out _ J0.out.1))
  have z0 := cell_of 0 J0.out.2
  have z1 := cell_of 1 J0.out.2
  have z2 := cell_of 2 J0.out.2
  have z3 := cell_of 3 J0.out.2
  have z4 := cell_of 4 J0.out.2
  have z5 := cell_of 5 J0.out.2
  have z6 := cell_of 6 J0.out.2
  have HLN : Hid (ps.length = n) := Lib.hid h.len
  clear hg hW h
  cases hgr : greatK name text ps with
  | true =>
    rw [hgr] at CG
    clear hgr
    go_enter Tryz.func8, Tryz.ntmps8
    go_wp2_with fail
    refine CG.out.mono ?_
    rintro e w1 ⟨rfl, hb⟩
    have B1 := Lib.hid (J0.out.1.trans (hb.mono J0.out.1.size))
    clear hb
    go_wp2_with fail
    refine (LV.out _ B1.out).mono ?_
    rintro e w2 ⟨rfl, hb⟩
    have B2 := Lib.hid (B1.out.trans (hb.mono B1.out.size))
    clear hb
    go_wp2
    go_ret
    exact ⟨rfl, B2.out⟩
  | false =>
    rw [hgr] at CG
    obtain ⟨hs1, hs2, hs3, hs4⟩ := greatK_no hgr
    have hn' : n ≤ 20 := by rw [← HLN.out]; exact hs3
    have hp4 : ∀ p ∈ ps, p.1.length ≤ 40000 ∧ p.2.length ≤ 40000 := fun p hp' => by have := hs4 p hp'; omega
    have HSM := Lib.hid (putTok_small (k := k) (fro := fro) (to_ := to_) (r := r) hs1 hs2 hs3 hs4)
    have C0 : Hid (∀ W, Calls Tryz.prog 27 #[.agg #[.int .i64 k, .int .i64 fro, .int .i64 to_, .string ⟨name.toArray⟩, .string ⟨text.toArray⟩, .slice A n cap, .int .i64 r]] W fun e w' => e = .returned (.agg #[.int .i64 k, .int .i64 fro, .int .i64 to_, .string ⟨name.toArray⟩, .string ⟨text.toArray⟩, .slice A n cap, .int .i64 r]) ∧ Below W.heap.size W w') := Lib.hid fun W => give_c ⟨k, fro, to_, name, text, ps, r⟩ A n cap W
    have C1 : Hid (∀ W, Below w.heap.size w W → Calls Tryz.prog 26 #[.agg #[.int .i64 k, .int .i64 fro, .int .i64 to_, .string ⟨name.toArray⟩, .string ⟨text.toArray⟩, .slice A n cap, .int .i64 r]] W fun e w' => e = .returned (out2V (putTok ⟨k, fro, to_, name, text, ps, r⟩)) ∧ Below W.heap.size W w') := Lib.hid fun W hb => tokPut_c ⟨k, fro, to_, name, text, ps, r⟩ A n cap W (HWW.out W hb) (HPR.out W hb) (by simp only; omega) (by simp only; omega) (by omega) hp4
    have C2 : Hid (∀ W, Below w.heap.size w W → Calls Tryz.prog 28 #[.agg #[.int .i64 k, .int .i64 fro, .int .i64 to_, .string ⟨name.toArray⟩, .string ⟨text.toArray⟩, .slice A n cap, .int .i64 r]] W fun e w' => e = .returned (out2V (putTok ⟨k, fro, to_, name, text, ps, r⟩)) ∧ Below W.heap.size W w') := Lib.hid fun W hb => refPutTok_c ⟨k, fro, to_, name, text, ps, r⟩ A n cap W (HPR.out W hb) (by simp only; omega) (by simp only; omega) (by omega) hp4
    have HBA : Hid (∀ s : List UInt8, putTok ⟨k, fro, to_, name, text, ps, r⟩ = (s, 0) → s ≠ [] → _) := Lib.hid fun s h1 h2 => back_all h1 h2
    clear hgr hs1 hs2 hs3 hs4 hp4
    unfold out2V at C1 C2
    generalize putTok ⟨k, fro, to_, name, text, ps, r⟩ = P at *
    obtain ⟨s, f⟩ := P
    simp only at C1 C2 HSM
    by_cases hf : f = 0
    · subst hf
      by_cases hs : s = []
      · subst hs
        have hie : ([] : List UInt8).isEmpty = true := rfl
        clear HBA
        go_enter Tryz.func8, Tryz.ntmps8
        go_wp2_with fail
        refine CG.out.mono ?_
        rintro e w1 ⟨rfl, hb⟩
        have J1 := Lib.hid (J0.out.kept hb)
        clear hb z0 z1 z2 z3 z4 z5 z6
        have z0 := cell_of 0 J1.out.2
        have z1 := cell_of 1 J1.out.2
        have z2 := cell_of 2 J1.out.2
        have z3 := cell_of 3 J1.out.2
        have z4 := cell_of 4 J1.out.2
        have z5 := cell_of 5 J1.out.2
        have z6 := cell_of 6 J1.out.2
        go_wp2_with fail
        refine (C0.out _).mono ?_
        rintro e w2 ⟨rfl, hb⟩
        have J2 := Lib.hid (J1.out.kept hb)
        clear hb z0 z1 z2 z3 z4 z5 z6
        go_wp2_with fail
        refine (C1.out _ J2.out.1).mono ?_
        rintro e w3 ⟨rfl, hb⟩
        have J3 := Lib.hid (J2.out.kept hb)
        clear hb
        have z0 := cell_of 0 J3.out.2
        have z1 := cell_of 1 J3.out.2
        have z2 := cell_of 2 J3.out.2
        have z3 := cell_of 3 J3.out.2
        have z4 := cell_of 4 J3.out.2
        have z5 := cell_of 5 J3.out.2
        have z6 := cell_of 6 J3.out.2
        go_wp2_with fail
        refine (C2.out _ J3.out.1).mono ?_
        rintro e w4 ⟨rfl, hb⟩
        have J4 := Lib.hid (J3.out.kept hb)
        clear hb z0 z1 z2 z3 z4 z5 z6
        have B4 := Lib.hid J4.out.1
        go_wp2_with fail
        refine (LV.out _ B4.out).mono ?_
        rintro e w9 ⟨rfl, hb⟩
        have B9 := Lib.hid (B4.out.trans (hb.mono B4.out.size))
        clear hb
        go_wp2
        go_ret
        exact ⟨rfl, B9.out⟩
      · have hie : s.isEmpty = false := by cases s with | nil => exact absurd rfl hs | cons a b => rfl
        have hsl : 0 < s.length := List.length_pos_iff.2 hs
        have HB := HBA.out s rfl hs
        clear HBA hs
        rcases HB with ⟨rfl, hnl, hN⟩ | ⟨ty, tn, tp, tr, hN, hR⟩
        · have hnl' : (1024 : Int) < (name.length : Int) := by omega
          go_enter Tryz.func8, Tryz.ntmps8
          go_wp2_with fail
          refine CG.out.mono ?_
          rintro e w1 ⟨rfl, hb⟩
          have J1 := Lib.hid (J0.out.kept hb)
          clear hb z0 z1 z2 z3 z4 z5 z6
          have z0 := cell_of 0 J1.out.2
          have z1 := cell_of 1 J1.out.2
          have z2 := cell_of 2 J1.out.2
          have z3 := cell_of 3 J1.out.2
          have z4 := cell_of 4 J1.out.2
          have z5 := cell_of 5 J1.out.2
          have z6 := cell_of 6 J1.out.2
          go_wp2_with fail
          refine (C0.out _).mono ?_
          rintro e w2 ⟨rfl, hb⟩
          have J2 := Lib.hid (J1.out.kept hb)
          clear hb z0 z1 z2 z3 z4 z5 z6
          go_wp2_with fail
          refine (C1.out _ J2.out.1).mono ?_
          rintro e w3 ⟨rfl, hb⟩
          have J3 := Lib.hid (J2.out.kept hb)
          clear hb
          have z0 := cell_of 0 J3.out.2
          have z1 := cell_of 1 J3.out.2
          have z2 := cell_of 2 J3.out.2
          have z3 := cell_of 3 J3.out.2
          have z4 := cell_of 4 J3.out.2
          have z5 := cell_of 5 J3.out.2
          have z6 := cell_of 6 J3.out.2
          go_wp2_with fail
          refine (C2.out _ J3.out.1).mono ?_
          rintro e w4 ⟨rfl, hb⟩
          have J4 := Lib.hid (J3.out.kept hb)
          clear hb z0 z1 z2 z3 z4 z5 z6
          have hby := byt_new w4 s (by have := HSM.out; omega)
          have hcv := run_toBytes w4 s
          have hb3 := Lib.bytesWorld_below w4 5 ⟨s.toArray⟩
          have hJ5 := J4.out.kept hb3
          have c5 := tokNext_c _ _ _ s 0 _ (hby.more (Nat.le_of_eq (Lib.bytesWorld_size _ _ _).symm)) (HWW.out _ hJ5.1).toW11 (by have := HSM.out; omega)
          rw [show (0 : Int) = ((0 : Nat) : Int) by rfl, nextAt_in s 0 hsl, hN] at c5
          have CN := Lib.hid c5
          have J5 := Lib.hid hJ5
          clear hby hb3 hJ5 c5 hN hsl
          go_wp2_with fail
          refine CN.out.mono ?_
          intro e0 w6 hp
          obtain ⟨A8, n8, c8, rfl, hr8, b8, _⟩ := hp.out
          simp only [noTok] at hr8
          have ka := (Below.refl _ w6).alloc (Nat.le_refl _) (.cells #[.int .i64 noTok.kind, .int .i64 noTok.fro, .int .i64 noTok.to_, .string ⟨noTok.name.toArray⟩, .string ⟨noTok.text.toArray⟩, .slice A8 n8 c8, .int .i64 noTok.r] 26)
          have J6 := Lib.hid (J5.out.kept (b8.trans (ka.mono b8.size)))
          clear b8 ka hp hr8 hcv
          have z0 := cell_of 0 J6.out.2
          have z3 := cell_of 3 J6.out.2
          go_wp2_with fail
          refine (LV.out _ J6.out.1).mono ?_
          rintro e w9 ⟨rfl, hb⟩
          have B9 := Lib.hid (J6.out.1.trans (hb.mono J6.out.1.size))
          clear hb
          go_wp2
          go_ret
          exact ⟨rfl, B9.out⟩
        · go_enter Tryz.func8, Tryz.ntmps8
          go_wp2_with fail
          refine CG.out.mono ?_
          rintro e w1 ⟨rfl, hb⟩
          have J1 := Lib.hid (J0.out.kept hb)
          clear hb z0 z1 z2 z3 z4 z5 z6
          have z0 := cell_of 0 J1.out.2
          have z1 := cell_of 1 J1.out.2
          have z2 := cell_of 2 J1.out.2
          have z3 := cell_of 3 J1.out.2
          have z4 := cell_of 4 J1.out.2
          have z5 := cell_of 5 J1.out.2
          have z6 := cell_of 6 J1.out.2
          go_wp2_with fail
          refine (C0.out _).mono ?_
          rintro e w2 ⟨rfl, hb⟩
          have J2 := Lib.hid (J1.out.kept hb)
          clear hb z0 z1 z2 z3 z4 z5 z6
          go_wp2_with fail
          refine (C1.out _ J2.out.1).mono ?_
          rintro e w3 ⟨rfl, hb⟩
          have J3 := Lib.hid (J2.out.kept hb)
          clear hb
          have z0 := cell_of 0 J3.out.2
          have z1 := cell_of 1 J3.out.2
          have z2 := cell_of 2 J3.out.2
          have z3 := cell_of 3 J3.out.2
          have z4 := cell_of 4 J3.out.2
          have z5 := cell_of 5 J3.out.2
          have z6 := cell_of 6 J3.out.2
          go_wp2_with fail
          refine (C2.out _ J3.out.1).mono ?_
          rintro e w4 ⟨rfl, hb⟩
          have J4 := Lib.hid (J3.out.kept hb)
          clear hb z0 z1 z2 z3 z4 z5 z6
          have hby := byt_new w4 s (by have := HSM.out; omega)
          have hcv := run_toBytes w4 s
          have hb3 := Lib.bytesWorld_below w4 5 ⟨s.toArray⟩
          have hJ5 := J4.out.kept hb3
          have c5 := tokNext_c _ _ _ s 0 _ (hby.more (Nat.le_of_eq (Lib.bytesWorld_size _ _ _).symm)) (HWW.out _ hJ5.1).toW11 (by have := HSM.out; omega)
          rw [show (0 : Int) = ((0 : Nat) : Int) by rfl, nextAt_in s 0 hsl, hN] at c5
          have CN := Lib.hid c5
          have J5 := Lib.hid hJ5
          clear hby hb3 hJ5 c5 hN hsl
          have hlen : ((s.length : Int) != (s.length : Int)) = false := by simp
          go_wp2_with fail
          refine CN.out.mono ?_
          intro e0 w6 hp
          obtain ⟨A8, n8, c8, rfl, hr8, b8, _⟩ := hp.out
          simp only at hr8
          have ka := (Below.refl _ w6).alloc (Nat.le_refl _) (.cells #[.int .i64 k, .int .i64 0, .int .i64 (s.length : Int), .string ⟨tn.toArray⟩, .string ⟨ty.toArray⟩, .slice A8 n8 c8, .int .i64 tr] 26)
          have hq := hp_new w6 (.cells #[.int .i64 k, .int .i64 0, .int .i64 (s.length : Int), .string ⟨tn.toArray⟩, .string ⟨ty.toArray⟩, .slice A8 n8 c8, .int .i64 tr] 26)
          have J6 := Lib.hid (J5.out.kept (b8.trans (ka.mono b8.size)))
          have HR6 := Lib.hid ((hr8.below ka).more ka.size)
          have x0 := cell_of 0 hq
          have x1 := cell_of 1 hq
          have x2 := cell_of 2 hq
          have x3 := cell_of 3 hq
          have x4 := cell_of 4 hq
          have x5 := cell_of 5 hq
          have x6 := cell_of 6 hq
          have CL := Lib.hid (like_c ⟨k, 0, (s.length : Int), tn, ty, tp, tr⟩ A8 n8 c8 (w6.alloc (.cells #[.int .i64 k, .int .i64 0, .int .i64 (s.length : Int), .string ⟨tn.toArray⟩, .string ⟨ty.toArray⟩, .slice A8 n8 c8, .int .i64 tr] 26)))
          clear b8 ka hp hr8 hcv hq CN
          go_wp2_with fail
          refine CL.out.mono ?_
          rintro e w7 ⟨rfl, hb⟩
          have J7 := Lib.hid (J6.out.kept hb)
          have kb := (Below.refl _ w7).alloc (Nat.le_refl _) (.cells #[.int .i64 k, .int .i64 0, .int .i64 (s.length : Int), .string ⟨tn.toArray⟩, .string ⟨ty.toArray⟩, .slice A8 n8 c8, .int .i64 tr] 30)
          have hq := hp_new w7 (.cells #[.int .i64 k, .int .i64 0, .int .i64 (s.length : Int), .string ⟨tn.toArray⟩, .string ⟨ty.toArray⟩, .slice A8 n8 c8, .int .i64 tr] 30)
          have J8 := Lib.hid (J7.out.kept kb)
          have HR8 := Lib.hid ((((HR6.out.below hb).more hb.size).below kb).more kb.size)
          clear hb kb x0 x1 x2 x3 x4 x5 x6
          have y0 := cell_of 0 hq
          have y1 := cell_of 1 hq
          have y2 := cell_of 2 hq
          have y3 := cell_of 3 hq
          have y4 := cell_of 4 hq
          have y5 := cell_of 5 hq
          have y6 := cell_of 6 hq
          have z0 := cell_of 0 J8.out.2
          have z1 := cell_of 1 J8.out.2
          have z2 := cell_of 2 J8.out.2
          have z3 := cell_of 3 J8.out.2
          have z4 := cell_of 4 J8.out.2
          have z5 := cell_of 5 J8.out.2
          have z6 := cell_of 6 J8.out.2
          clear hq CL
          (try simp only at HR8)
          rcases hR with ⟨rfl | rfl | rfl, rfl⟩ | ⟨rfl, rfl⟩ | ⟨rfl, rfl, rfl⟩ | ⟨rfl | rfl, rfl, rfl⟩ | ⟨rfl | rfl, rfl⟩
          · have B4 := Lib.hid J8.out.1
            go_wp2_with fail
            refine (LV.out _ B4.out).mono ?_
            rintro e w9 ⟨rfl, hb⟩
            have B9 := Lib.hid (B4.out.trans (hb.mono B4.out.size))
            clear hb
            go_wp2
            go_ret
            exact ⟨rfl, B9.out⟩
          · have B4 := Lib.hid J8.out.1
            go_wp2_with fail
            refine (LV.out _ B4.out).mono ?_
            rintro e w9 ⟨rfl, hb⟩
            have B9 := Lib.hid (B4.out.trans (hb.mono B4.out.size))
            clear hb
            go_wp2
            go_ret
            exact ⟨rfl, B9.out⟩
          · have B4 := Lib.hid J8.out.1
            go_wp2_with fail
            refine (LV.out _ B4.out).mono ?_
            rintro e w9 ⟨rfl, hb⟩
            have B9 := Lib.hid (B4.out.trans (hb.mono B4.out.size))
            clear hb
            go_wp2
            go_ret
            exact ⟨rfl, B9.out⟩
          · have B4 := Lib.hid J8.out.1
            go_wp2_with fail
            refine (LV.out _ B4.out).mono ?_
            rintro e w9 ⟨rfl, hb⟩
            have B9 := Lib.hid (B4.out.trans (hb.mono B4.out.size))
            clear hb
            go_wp2
            go_ret
            exact ⟨rfl, B9.out⟩
          · have B4 := Lib.hid J8.out.1
            go_wp2_with fail
            refine (LV.out _ B4.out).mono ?_
            rintro e w9 ⟨rfl, hb⟩
            have B9 := Lib.hid (B4.out.trans (hb.mono B4.out.size))
            clear hb
            go_wp2
            go_ret
            exact ⟨rfl, B9.out⟩
          · obtain rfl : n = n8 := HLN.out.symm.trans HR8.out.len
            have CS := Lib.hid (same11_c ⟨0, 0, 0, tn, [], tp, 0⟩ A8 A n c8 cap (w7.alloc (.cells #[.int .i64 7, .int .i64 0, .int .i64 (s.length : Int), .string ⟨tn.toArray⟩, .string ⟨ty.toArray⟩, .slice A8 n c8, .int .i64 tr] 30)) HR8.out (HPR.out _ J8.out.1) (by omega))
            go_wp2_with fail
            refine CS.out.mono ?_
            rintro e w8 ⟨rfl, hb⟩
            have J9 := Lib.hid (J8.out.kept hb)
            clear hb z0 y0 z1 y1 z2 y2 z3 y3 z4 y4 z5 y5 z6 y6
            have B4 := Lib.hid J9.out.1
            go_wp2_with fail
            refine (LV.out _ B4.out).mono ?_
            rintro e w9 ⟨rfl, hb⟩
            have B9 := Lib.hid (B4.out.trans (hb.mono B4.out.size))
            clear hb
            go_wp2
            go_ret
            exact ⟨rfl, B9.out⟩
          · obtain rfl : n = n8 := HLN.out.symm.trans HR8.out.len
            have CS := Lib.hid (same11_c ⟨0, 0, 0, tn, [], tp, 0⟩ A8 A n c8 cap (w7.alloc (.cells #[.int .i64 8, .int .i64 0, .int .i64 (s.length : Int), .string ⟨tn.toArray⟩, .string ⟨ty.toArray⟩, .slice A8 n c8, .int .i64 tr] 30)) HR8.out (HPR.out _ J8.out.1) (by omega))
            go_wp2_with fail
            refine CS.out.mono ?_
            rintro e w8 ⟨rfl, hb⟩
            have J9 := Lib.hid (J8.out.kept hb)
            clear hb z0 y0 z1 y1 z2 y2 z3 y3 z4 y4 z5 y5 z6 y6
            have B4 := Lib.hid J9.out.1
            go_wp2_with fail
            refine (LV.out _ B4.out).mono ?_
            rintro e w9 ⟨rfl, hb⟩
            have B9 := Lib.hid (B4.out.trans (hb.mono B4.out.size))
            clear hb
            go_wp2
            go_ret
            exact ⟨rfl, B9.out⟩
          · have B4 := Lib.hid J8.out.1
            go_wp2_with fail
            refine (LV.out _ B4.out).mono ?_
            rintro e w9 ⟨rfl, hb⟩
            have B9 := Lib.hid (B4.out.trans (hb.mono B4.out.size))
            clear hb
            go_wp2
            go_ret
            exact ⟨rfl, B9.out⟩
          · have B4 := Lib.hid J8.out.1
            go_wp2_with fail
            refine (LV.out _ B4.out).mono ?_
            rintro e w9 ⟨rfl, hb⟩
            have B9 := Lib.hid (B4.out.trans (hb.mono B4.out.size))
            clear hb
            go_wp2
            go_ret
            exact ⟨rfl, B9.out⟩
    · have hfi : ((f : Int) != 0) = true := by simp; omega
      have hfj : ¬ (f : Int) = 0 := by omega
      have hff : ((f : Int) != (f : Int)) = false := by simp
      clear hf HBA
      go_enter Tryz.func8, Tryz.ntmps8
      go_wp2_with fail
      refine CG.out.mono ?_
      rintro e w1 ⟨rfl, hb⟩
      have J1 := Lib.hid (J0.out.kept hb)
      clear hb z0 z1 z2 z3 z4 z5 z6
      have z0 := cell_of 0 J1.out.2
      have z1 := cell_of 1 J1.out.2
      have z2 := cell_of 2 J1.out.2
      have z3 := cell_of 3 J1.out.2
      have z4 := cell_of 4 J1.out.2
      have z5 := cell_of 5 J1.out.2
      have z6 := cell_of 6 J1.out.2
      go_wp2_with fail
      refine (C0.out _).mono ?_
      rintro e w2 ⟨rfl, hb⟩
      have J2 := Lib.hid (J1.out.kept hb)
      clear hb z0 z1 z2 z3 z4 z5 z6
      go_wp2_with fail
      refine (C1.out _ J2.out.1).mono ?_
      rintro e w3 ⟨rfl, hb⟩
      have J3 := Lib.hid (J2.out.kept hb)
      clear hb
      have z0 := cell_of 0 J3.out.2
      have z1 := cell_of 1 J3.out.2
      have z2 := cell_of 2 J3.out.2
      have z3 := cell_of 3 J3.out.2
      have z4 := cell_of 4 J3.out.2
      have z5 := cell_of 5 J3.out.2
      have z6 := cell_of 6 J3.out.2
      go_wp2_with fail
      refine (C2.out _ J3.out.1).mono ?_
      rintro e w4 ⟨rfl, hb⟩
      have J4 := Lib.hid (J3.out.kept hb)
      clear hb z0 z1 z2 z3 z4 z5 z6
      have B4 := Lib.hid J4.out.1
      go_wp2_with fail
      refine (LV.out _ B4.out).mono ?_
      rintro e w9 ⟨rfl, hb⟩
      have B9 := Lib.hid (B4.out.trans (hb.mono B4.out.size))
      clear hb
      go_wp2
      go_ret
      exact ⟨rfl, B9.out⟩
end Go.Proofs.YtmclngahdklfkaaGreatDoor
