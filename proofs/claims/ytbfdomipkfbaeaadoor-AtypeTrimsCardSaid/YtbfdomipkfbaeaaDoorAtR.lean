/- The law AtypeTrims, walked. -/
import Derived.Test.YtbfdomipkfbaeaaDoorRows
import Derived.WalkKit
import Derived.ProofKit
import Derived.OpenShut
import Derived.ShutString
import Derived.ChangeOld
import Derived.Below
import Derived.BigQuiet
import Derived.Deep.QuietTactic
import Derived.Lib.Hide
import Derived.Deep.RegionHeld3
import Derived.Lib.SlBytesConst
import Derived.Laws.CopyOwn
import Derived.Laws.CopyRow
import Derived.Lib.Bytes
import Derived.Deep.LoopGhost
import Derived.Deep.DeepFit
import Derived.Deep.DeepMust
import Derived.WalkSpells
import Derived.WalkLawsBesides
import Derived.Laws.EntriesVeiled
import Derived.Laws.Rows
import Derived.Laws.World
import Derived.Maps.OwnOps
import Derived.Maps.AppendAt
import Derived.Deep.AppendLies
import Derived.Deep.RegionLaw
import Derived.Test.YtbfdomipkfbaeaaDoorA1
import Derived.Test.YtbfdomipkfbaeaaDoorA2
import Derived.Test.YtbfdomipkfbaeaaDoorA3
import Derived.Test.YtbfdomipkfbaeaaDoorA4
import Derived.Test.YtbfdomipkfbaeaaDoorA6
import Derived.Test.YtbfdomipkfbaeaaDoorA7
import Derived.Test.YtbfdomipkfbaeaaDoorA8
namespace Go.Proofs.YtbfdomipkfbaeaaDoor
open Go.ChangeShapes Go.WideShapes Go.ChangeAt Go.RowKit
set_option linter.unusedVariables false
theorem wpAppS {ops : Array Oper} {rest : List Oper} {o : Oper} {a : Act} {Q : Exit → Act → World → Prop} {w : World} (hgd : o.guard = none) (s x : Operand)
    (ho : o.op = .call { callee := .builtin .append, args := #[s, x], argTypes := #[23, 23] }) (base : Nat) (v : Value) (op : List (List UInt8)) (hs : a.eval s = v) (hown : OwnS w base v op)
    (x' : Option Addr) (m c : Nat) (hx : a.eval x = .slice x' m c) (news : List (List UInt8)) (hm : news.length = m) (hcell : ∀ ad, x' = some ad → ∀ (j : Nat) u, (news.map strV)[j]? = some u → w.cell? (ad.add j) = some u) (hnil : x' = none → m = 0 ∧ c = 0)
    (hb : op.length + m ≤ 1000000) (hbase : base ≤ w.heap.size)
    (h : ∀ v' w', OwnS w' base v' (op ++ news) → w.grownBy w' v.ownBlock → (v'.ownBlock = v.ownBlock ∨ v'.ownBlock = some w.heap.size) → wpList Tryd.prog ops Q rest (a.put o.dst v') w') :
    wpList Tryd.prog ops Q (o :: rest) a w := by
  refine wpList_plain hgd fun K hK => ?_
  obtain ⟨i, hi, hz, hsz, hbt⟩ := info_str
  cases x' with
  | none =>
    obtain ⟨rfl, rfl⟩ := hnil rfl
    have hnews : news = [] := List.length_eq_zero_iff.1 hm
    subst hnews
    have hr := run_append_owned_none (P := Tryd.prog) (w := w) base 23 o.type 9 i 1 Tryd.underlying23 hi v op.length (op.map strV) hown
    unfold Oper.wp execOp
    simp only [ho, resolve, invoke, builtin, Sem.run_bind, Sem.run_pure, Result.andThen_ok, List.map_toArray, List.map_cons, List.map_nil, hs, hx, hr]
    exact hK _ _ (h v w (by rw [List.append_nil]; exact hown) ⟨rfl, rfl, rfl, Nat.le_refl _, fun _ _ _ => rfl⟩ (.inl rfl))
  | some ad =>
    obtain ⟨v', w', hr, h2, h3, _, h5⟩ := run_append_own_at (P := Tryd.prog) w base 23 o.type 9 i (.string ⟨#[]⟩) 1 16 Tryd.underlying23 hi hz hsz hbt rfl (by decide) v op.length (op.map strV) hown ad m c (news.map strV) (by rw [List.length_map]; omega) (hcell ad rfl) (fun u hu => by
      obtain ⟨z, _, rfl⟩ := List.mem_map.1 hu
      rfl) (by unfold maxLen; omega) (by omega) hbase
    unfold Oper.wp execOp
    simp only [ho, resolve, invoke, builtin, Sem.run_bind, Sem.run_pure, Result.andThen_ok, List.map_toArray, List.map_cons, List.map_nil, hs, hx, hr]
    refine hK _ _ (h v' w' ?_ h3 h5)
    unfold OwnS
    rw [List.length_append, List.map_append, hm]
    exact h2
theorem wrap_ne (m : Int) : m ≠ IntKind.i64.wrap (m + 1) := by
  rw [IntKind.wrap_i64]
  omega
/-- While the law's last statement is gone through: the three attributes, the row of words. -/
structure JA (w W : World) (b8 b9 : Nat) (k m m2 : Int) (name val : List UInt8) (A A9 : Option Addr) (n cap n9 c9 : Nat) (ws : List (List UInt8)) : Prop where
  below : Below w.heap.size w W
  q5 : W.heap[w.heap.size]? = some (.cells #[.string ⟨name.toArray⟩, .int .i64 k, .slice A n cap, .int .i64 m, .string ⟨val.toArray⟩] 51)
  q8 : W.heap[b8]? = some (.cells #[.string ⟨name.toArray⟩, .int .i64 k, .slice A n cap, .int .i64 m2, .string ⟨val.toArray⟩] 51)
  q9 : W.heap[b9]? = some (.cells #[.string ⟨name.toArray⟩, .int .i64 k, .slice A9 n9 c9, .int .i64 m, .string ⟨val.toArray⟩] 51)
  row : RRd cS 1 W W.heap.size A n cap ws
theorem JA.kept {w W W' : World} {b8 b9 : Nat} {k m m2 : Int} {name val : List UInt8} {A A9 : Option Addr} {n cap n9 c9 : Nat} {ws : List (List UInt8)} (h : JA w W b8 b9 k m m2 name val A A9 n cap n9 c9 ws) (hb : Below W.heap.size W W') : JA w W' b8 b9 k m m2 name val A A9 n cap n9 c9 ws :=
  ⟨h.below.trans (hb.mono h.below.size), (hb.block _ (lt_of h.q5)).trans h.q5, (hb.block _ (lt_of h.q8)).trans h.q8, (hb.block _ (lt_of h.q9)).trans h.q9, h.row.up hb⟩
set_option maxRecDepth 100000 in
set_option maxHeartbeats 16000000 in
theorem atypeTrims_walk (k0 : Int) (sb : ByteArray) (nb : ByteArray) (k : Int) (A : Option Addr) (n cap : Nat) (ws : List (List UInt8)) (m : Int) (vb : ByteArray) (w : World) (h : RRd cS 1 w w.heap.size A n cap ws) (hg : ∀ s ∈ ws, s.length ≤ maxLen) (hW : W15 w) :
    Calls Tryd.prog 6 #[.int .i64 k0, .string sb, .agg #[.string nb, .int .i64 k, .slice A n cap, .int .i64 m, .string vb]] w fun e w' => e = .returned (.bool true) ∧ Below w.heap.size w w' := by
  obtain ⟨s, rfl⟩ : ∃ l : List UInt8, sb = ⟨l.toArray⟩ := ⟨sb.data.toList, by simp⟩
  obtain ⟨name, rfl⟩ : ∃ l : List UInt8, nb = ⟨l.toArray⟩ := ⟨nb.data.toList, by simp⟩
  obtain ⟨val, rfl⟩ : ∃ l : List UInt8, vb = ⟨l.toArray⟩ := ⟨vb.data.toList, by simp⟩
  have LV : Hid (∀ W, Below w.heap.size w W → Calls Tryd.prog 20 #[] W fun e w' => e = .returned (.bool true) ∧ Below W.heap.size W w') := Lib.hid fun W hb => live15_c W (hW.below hb)
  have HPR : Hid (∀ W, Below w.heap.size w W → RRd cS 1 W W.heap.size A n cap ws) := Lib.hid fun W hb => (h.below hb).more hb.size
  have HLN : Hid (ws.length = n) := Lib.hid h.len
  have HNL : Hid (A = none → n = 0 ∧ cap = 0) := Lib.hid fun e => by
    have h1 := h.nil e
    have h2 := h.le
    exact ⟨by omega, h1⟩
  have J0 := Lib.hid (CJ.start 51 w #[.string ⟨name.toArray⟩, .int .i64 k, .slice A n cap, .int .i64 m, .string ⟨val.toArray⟩])
  have CG := Lib.hid (great15_c k m name val A n cap ws _ (HPR.out _ J0.out.1))
  have z0 := cell_of 0 J0.out.2
  have z1 := cell_of 1 J0.out.2
  have z2 := cell_of 2 J0.out.2
  have z3 := cell_of 3 J0.out.2
  have z4 := cell_of 4 J0.out.2
  clear hW h hg
  have hsz : (⟨s.toArray⟩ : ByteArray).size = s.length := by simp [ByteArray.size]
  by_cases hs3 : 300 < s.length
  · have hs3i : (300 : Int) < (s.length : Int) := by omega
    clear CG
    go_enter Tryd.func6, Tryd.ntmps6
    go_wp2_with fail
    refine (LV.out _ J0.out.1).mono ?_
    rintro e w2 ⟨rfl, hb⟩
    have HB2 := Lib.hid (J0.out.1.trans (hb.mono J0.out.1.size))
    clear hb
    go_wp2
    go_ret
    exact ⟨rfl, HB2.out⟩
  · have hs3i : ¬ (300 : Int) < (s.length : Int) := by omega
    cases hgr : greatD name val ws with
    | true =>
      rw [hgr] at CG
      clear hgr
      go_enter Tryd.func6, Tryd.ntmps6
      go_wp2_with fail
      refine CG.out.mono ?_
      rintro e w1 ⟨rfl, hb⟩
      have B1 := Lib.hid (J0.out.1.trans (hb.mono J0.out.1.size))
      clear hb
      go_wp2_with fail
      refine (LV.out _ B1.out).mono ?_
      rintro e w2 ⟨rfl, hb⟩
      have B2 := Lib.hid (B1.out.trans (hb.mono B1.out.size))
      clear hb
      go_wp2
      go_ret
      exact ⟨rfl, B2.out⟩
    | false =>
      rw [hgr] at CG
      obtain ⟨hd1, hd2, hd3, hd4⟩ := greatD_no hgr
      have hn12 : n ≤ 12 := by rw [← HLN.out]; exact hd2
      have CT : Hid (∀ W, Calls Tryd.prog 21 #[.int .i64 k0, .string ⟨s.toArray⟩] W fun e w' => e = .returned (.string ⟨(trimK k0 s).toArray⟩) ∧ Below W.heap.size W w') := Lib.hid fun W => atTrim_c k0 s W (by omega)
      have CR0 : Hid (∀ W, Calls Tryd.prog 22 #[.int .i64 k0, .string ⟨s.toArray⟩] W fun e w' => e = .returned (.string ⟨(trimK k0 s).toArray⟩) ∧ W = w') := Lib.hid fun W => refTrim_c k0 s W (by omega)
      have htl : (trimK k0 s).length ≤ 300 := by
        unfold trimK
        split
        · omega
        · have h1 := comp_len s true
          unfold trimT dropT
          split
          · rw [List.length_dropLast]; omega
          · omega
      have htt : trimK k0 (trimK k0 s) = trimK k0 s := by
        unfold trimK
        split
        · rfl
        · exact trim_again s
      have CT2 : Hid (∀ W, Calls Tryd.prog 21 #[.int .i64 k0, .string ⟨(trimK k0 s).toArray⟩] W fun e w' => e = .returned (.string ⟨(trimK k0 s).toArray⟩) ∧ Below W.heap.size W w') := Lib.hid fun W => by
        have := atTrim_c k0 (trimK k0 s) W (by omega)
        rwa [htt] at this
      have HM2 : Hid (m ≠ IntKind.i64.wrap (m + 1)) := Lib.hid (wrap_ne m)
      have HMM : ∀ W : World, True := fun _ => trivial
      clear hgr hd1 hd2 hd3 hd4 htl htt HMM
      generalize trimK k0 s = T at *
      obtain ⟨m2, hm2⟩ : ∃ m2, IntKind.i64.wrap (m + 1) = m2 := ⟨_, rfl⟩
      rw [hm2] at HM2
      go_enter Tryd.func6, Tryd.ntmps6
      go_wp2_with fail
      refine CG.out.mono ?_
      rintro e w1 ⟨rfl, hb⟩
      have J1 := Lib.hid (J0.out.kept hb)
      clear hb z0 z1 z2 z3 z4
      go_wp2_with fail
      refine (CT.out _).mono ?_
      rintro e w2 ⟨rfl, hb⟩
      have J2 := Lib.hid (J1.out.kept hb)
      clear hb
      have z0 := cell_of 0 J2.out.2
      have z1 := cell_of 1 J2.out.2
      have z2 := cell_of 2 J2.out.2
      have z3 := cell_of 3 J2.out.2
      have z4 := cell_of 4 J2.out.2
      have ka := (Below.refl w2.heap.size w2).alloc (Nat.le_refl _) (.cells #[.string ⟨name.toArray⟩, .int .i64 k, .slice A n cap, .int .i64 m2, .string ⟨val.toArray⟩] 51)
      have kb := ka.alloc (by simp) (.cells #[.string ⟨name.toArray⟩, .int .i64 k, .slice A n cap, .int .i64 m, .string ⟨val.toArray⟩] 51)
      have kc := kb.alloc (by simp; omega) (.cells #[.string ⟨#[120]⟩] 9)
      have JK := Lib.hid (J2.out.kept kc)
      have q8 : (((w2.alloc (.cells #[.string ⟨name.toArray⟩, .int .i64 k, .slice A n cap, .int .i64 m2, .string ⟨val.toArray⟩] 51)).alloc (.cells #[.string ⟨name.toArray⟩, .int .i64 k, .slice A n cap, .int .i64 m, .string ⟨val.toArray⟩] 51)).alloc (.cells #[.string ⟨#[120]⟩] 9)).heap[w2.heap.size]? = some (.cells #[.string ⟨name.toArray⟩, .int .i64 k, .slice A n cap, .int .i64 m2, .string ⟨val.toArray⟩] 51) := by
        rw [Below.heap_alloc _ _ _ (by simp; omega), Below.heap_alloc _ _ _ (by simp)]; exact hp_new _ _
      have q9 : (((w2.alloc (.cells #[.string ⟨name.toArray⟩, .int .i64 k, .slice A n cap, .int .i64 m2, .string ⟨val.toArray⟩] 51)).alloc (.cells #[.string ⟨name.toArray⟩, .int .i64 k, .slice A n cap, .int .i64 m, .string ⟨val.toArray⟩] 51)).alloc (.cells #[.string ⟨#[120]⟩] 9)).heap[w2.heap.size + 1]? = some (.cells #[.string ⟨name.toArray⟩, .int .i64 k, .slice A n cap, .int .i64 m, .string ⟨val.toArray⟩] 51) := by
        rw [Below.heap_alloc _ _ _ (by simp)]
        have := hp_new (w2.alloc (.cells #[.string ⟨name.toArray⟩, .int .i64 k, .slice A n cap, .int .i64 m2, .string ⟨val.toArray⟩] 51)) (.cells #[.string ⟨name.toArray⟩, .int .i64 k, .slice A n cap, .int .i64 m, .string ⟨val.toArray⟩] 51)
        rwa [World.size_alloc] at this
      have q10 : (((w2.alloc (.cells #[.string ⟨name.toArray⟩, .int .i64 k, .slice A n cap, .int .i64 m2, .string ⟨val.toArray⟩] 51)).alloc (.cells #[.string ⟨name.toArray⟩, .int .i64 k, .slice A n cap, .int .i64 m, .string ⟨val.toArray⟩] 51)).alloc (.cells #[.string ⟨#[120]⟩] 9)).heap[w2.heap.size + 1 + 1]? = some (.cells #[.string ⟨#[120]⟩] 9) := by
        have := hp_new ((w2.alloc (.cells #[.string ⟨name.toArray⟩, .int .i64 k, .slice A n cap, .int .i64 m2, .string ⟨val.toArray⟩] 51)).alloc (.cells #[.string ⟨name.toArray⟩, .int .i64 k, .slice A n cap, .int .i64 m, .string ⟨val.toArray⟩] 51)) (.cells #[.string ⟨#[120]⟩] 9)
        rwa [World.size_alloc, World.size_alloc] at this
      have hszk : (((w2.alloc (.cells #[.string ⟨name.toArray⟩, .int .i64 k, .slice A n cap, .int .i64 m2, .string ⟨val.toArray⟩] 51)).alloc (.cells #[.string ⟨name.toArray⟩, .int .i64 k, .slice A n cap, .int .i64 m, .string ⟨val.toArray⟩] 51)).alloc (.cells #[.string ⟨#[120]⟩] 9)).heap.size = w2.heap.size + 3 := by simp
      have own0 : OwnS (((w2.alloc (.cells #[.string ⟨name.toArray⟩, .int .i64 k, .slice A n cap, .int .i64 m2, .string ⟨val.toArray⟩] 51)).alloc (.cells #[.string ⟨name.toArray⟩, .int .i64 k, .slice A n cap, .int .i64 m, .string ⟨val.toArray⟩] 51)).alloc (.cells #[.string ⟨#[120]⟩] 9)) (w2.heap.size + 1 + 1) (.slice (some ⟨w2.heap.size + 1 + 1, 0, none⟩) 1 1) [[120]] := ⟨rfl, .inr ⟨w2.heap.size + 1 + 1, 1, #[.string ⟨#[120]⟩], rfl, Nat.le_refl _, q10, Nat.le_refl _, by decide, rfl, rfl⟩⟩
      have HR0 := Lib.hid (HPR.out _ JK.out.1)
      have hcell : ∀ ad, A = some ad → ∀ (j : Nat) u, (ws.map strV)[j]? = some u → (((w2.alloc (.cells #[.string ⟨name.toArray⟩, .int .i64 k, .slice A n cap, .int .i64 m2, .string ⟨val.toArray⟩] 51)).alloc (.cells #[.string ⟨name.toArray⟩, .int .i64 k, .slice A n cap, .int .i64 m, .string ⟨val.toArray⟩] 51)).alloc (.cells #[.string ⟨#[120]⟩] 9)).cell? (ad.add j) = some u := fun ad hA j u hu => by
        rw [List.getElem?_map] at hu
        obtain ⟨x, hx, rfl⟩ := Option.map_eq_some_iff.1 hu
        have hj : j < n := by rw [← HLN.out]; exact (List.getElem?_eq_some_iff.1 hx).1
        obtain ⟨b, o, s', hA2, _, hs', hz⟩ := rrd_get HR0.out hj
        rw [hA] at hA2
        cases hA2
        rw [hx] at hs'
        cases hs'
        rw [addr_add]
        exact hz
      have hbd : ([[120]] : List (List UInt8)).length + n ≤ 1000000 := by show 1 + n ≤ 1000000; omega
      have hbs : w2.heap.size + 1 + 1 ≤ (((w2.alloc (.cells #[.string ⟨name.toArray⟩, .int .i64 k, .slice A n cap, .int .i64 m2, .string ⟨val.toArray⟩] 51)).alloc (.cells #[.string ⟨name.toArray⟩, .int .i64 k, .slice A n cap, .int .i64 m, .string ⟨val.toArray⟩] 51)).alloc (.cells #[.string ⟨#[120]⟩] 9)).heap.size := by rw [hszk]; omega
      have HQ := Lib.hid (And.intro q8 (And.intro q9 hszk))
      have JA1 := J2.out.kept ka
      have y0 := cell_of 0 JA1.2
      have y1 := cell_of 1 JA1.2
      have y2 := cell_of 2 JA1.2
      have y3 := cell_of 3 JA1.2
      have y4 := cell_of 4 JA1.2
      clear ka kb kc q8 q9 q10 hszk CG CT JA1
      go_wp2_with (first
        | (at_builtin; refine wpAppS rfl (.tmp 27) (.tmp 29) rfl (w2.heap.size + 1 + 1) _ [[120]] rfl own0 A n cap rfl ws HLN.out hcell HNL.out hbd hbs ?_))
      intro v9 w4 hown4 hg4 hat4
      obtain ⟨A9, c9, hv⟩ := hown4.form
      have hl9 : ([120] :: ws : List (List UInt8)).length = n + 1 := by rw [List.length_cons, HLN.out]
      have hv2 : v9 = .slice A9 ([120] :: ws : List (List UInt8)).length c9 := hv
      clear hv
      rw [hl9] at hv2
      subst hv2
      clear hl9
      have hbk : ∀ b, b < w2.heap.size + 1 + 1 → w4.heap[b]? = (((w2.alloc (.cells #[.string ⟨name.toArray⟩, .int .i64 k, .slice A n cap, .int .i64 m2, .string ⟨val.toArray⟩] 51)).alloc (.cells #[.string ⟨name.toArray⟩, .int .i64 k, .slice A n cap, .int .i64 m, .string ⟨val.toArray⟩] 51)).alloc (.cells #[.string ⟨#[120]⟩] 9)).heap[b]? := fun b hb => hg4.block b (by rw [HQ.out.2.2]; omega) (fun e => by have e' : b = w2.heap.size + 1 + 1 := Option.some.inj e; omega)
      have j5 := (hbk w.heap.size (by have := lt_of J2.out.2; omega)).trans JK.out.2
      have j8 := (hbk w2.heap.size (by omega)).trans HQ.out.1
      have j9 := (hbk (w2.heap.size + 1) (by omega)).trans HQ.out.2.1
      have B4 : Below w.heap.size w w4 := JK.out.1.grown hg4 JK.out.1.size (fun k hk => by have e' : w2.heap.size + 1 + 1 = k := Option.some.inj hk; have := lt_of J2.out.2; omega)
      have t2 := cell_of 2 j9
      have u2 := free_of 2 j9
      have hw2 : w.heap.size < w2.heap.size := lt_of J2.out.2
      have J5 : Hid (JA w (w4.setCell ⟨w2.heap.size + 1, 2, none⟩ (.slice A9 (n + 1) c9)) w2.heap.size (w2.heap.size + 1) k m m2 name val A A9 n cap (n + 1) c9 ws) := Lib.hid ⟨B4.setCell (by show w.heap.size ≤ w2.heap.size + 1; omega) _, (Below.heap_setCell _ _ _ _ (by show w.heap.size ≠ w2.heap.size + 1; omega)).trans j5, (Below.heap_setCell _ _ _ _ (by show w2.heap.size ≠ w2.heap.size + 1; omega)).trans j8, Go.Joins.block_setCell j9 _, HPR.out _ (B4.setCell (by show w.heap.size ≤ w2.heap.size + 1; omega) _)⟩
      clear hown4 hg4 hat4 hbk j5 j8 j9 B4 hbd hbs hcell own0 z0 y0 z1 y1 z2 y2 z3 y3 z4 y4
      go_wp2_with fail
      generalize w4.setCell ⟨w2.heap.size + 1, 2, none⟩ (.slice A9 (n + 1) c9) = w5 at *
      have J6 : Hid (JA w w5.drew w2.heap.size (w2.heap.size + 1) k m m2 name val A A9 n cap (n + 1) c9 ws) := Lib.hid (J5.out.kept (below_drewN' (n := 1) (Below.refl _ _)))
      have x0_0 := cell_of 0 J6.out.q5
      have x0_1 := cell_of 1 J6.out.q5
      have x0_2 := cell_of 2 J6.out.q5
      have x0_3 := cell_of 3 J6.out.q5
      have x0_4 := cell_of 4 J6.out.q5
      have x1_0 := cell_of 0 J6.out.q8
      have x1_1 := cell_of 1 J6.out.q8
      have x1_2 := cell_of 2 J6.out.q8
      have x1_3 := cell_of 3 J6.out.q8
      have x1_4 := cell_of 4 J6.out.q8
      have x2_0 := cell_of 0 J6.out.q9
      have x2_1 := cell_of 1 J6.out.q9
      have x2_2 := cell_of 2 J6.out.q9
      have x2_3 := cell_of 3 J6.out.q9
      have x2_4 := cell_of 4 J6.out.q9
      have HSC : Hid (∀ W, JA w W w2.heap.size (w2.heap.size + 1) k m m2 name val A A9 n cap (n + 1) c9 ws → W.cell? ⟨w.heap.size, 0, none⟩ = some (.string ⟨name.toArray⟩) ∧ W.cell? ⟨w.heap.size, 1, none⟩ = some (.int .i64 k) ∧ W.cell? ⟨w.heap.size, 2, none⟩ = some (.slice A n cap) ∧ W.cell? ⟨w.heap.size, 3, none⟩ = some (.int .i64 m) ∧ W.cell? ⟨w.heap.size, 4, none⟩ = some (.string ⟨val.toArray⟩) ∧ W.cell? ⟨w2.heap.size, 0, none⟩ = some (.string ⟨name.toArray⟩) ∧ W.cell? ⟨w2.heap.size, 1, none⟩ = some (.int .i64 k) ∧ W.cell? ⟨w2.heap.size, 2, none⟩ = some (.slice A n cap) ∧ W.cell? ⟨w2.heap.size, 3, none⟩ = some (.int .i64 m2) ∧ W.cell? ⟨w2.heap.size, 4, none⟩ = some (.string ⟨val.toArray⟩) ∧ W.cell? ⟨w2.heap.size + 1, 0, none⟩ = some (.string ⟨name.toArray⟩) ∧ W.cell? ⟨w2.heap.size + 1, 1, none⟩ = some (.int .i64 k) ∧ W.cell? ⟨w2.heap.size + 1, 2, none⟩ = some (.slice A9 (n + 1) c9) ∧ W.cell? ⟨w2.heap.size + 1, 3, none⟩ = some (.int .i64 m) ∧ W.cell? ⟨w2.heap.size + 1, 4, none⟩ = some (.string ⟨val.toArray⟩)) := Lib.hid fun W J => ⟨cell_of 0 J.q5, cell_of 1 J.q5, cell_of 2 J.q5, cell_of 3 J.q5, cell_of 4 J.q5, cell_of 0 J.q8, cell_of 1 J.q8, cell_of 2 J.q8, cell_of 3 J.q8, cell_of 4 J.q8, cell_of 0 J.q9, cell_of 1 J.q9, cell_of 2 J.q9, cell_of 3 J.q9, cell_of 4 J.q9⟩
      have CG1 : Hid (∀ W, Hid (JA w W w2.heap.size (w2.heap.size + 1) k m m2 name val A A9 n cap (n + 1) c9 ws) → Calls Tryd.prog 24 #[.agg #[.string ⟨name.toArray⟩, .int .i64 k, .slice A n cap, .int .i64 m, .string ⟨val.toArray⟩]] W fun e w' => e = .returned (.agg #[.string ⟨name.toArray⟩, .int .i64 k, .slice A n cap, .int .i64 m, .string ⟨val.toArray⟩]) ∧ Hid (JA w w' w2.heap.size (w2.heap.size + 1) k m m2 name val A A9 n cap (n + 1) c9 ws) ∧ w'.cell? ⟨w.heap.size, 0, none⟩ = some (.string ⟨name.toArray⟩) ∧ w'.cell? ⟨w.heap.size, 1, none⟩ = some (.int .i64 k) ∧ w'.cell? ⟨w.heap.size, 2, none⟩ = some (.slice A n cap) ∧ w'.cell? ⟨w.heap.size, 3, none⟩ = some (.int .i64 m) ∧ w'.cell? ⟨w.heap.size, 4, none⟩ = some (.string ⟨val.toArray⟩) ∧ w'.cell? ⟨w2.heap.size, 0, none⟩ = some (.string ⟨name.toArray⟩) ∧ w'.cell? ⟨w2.heap.size, 1, none⟩ = some (.int .i64 k) ∧ w'.cell? ⟨w2.heap.size, 2, none⟩ = some (.slice A n cap) ∧ w'.cell? ⟨w2.heap.size, 3, none⟩ = some (.int .i64 m2) ∧ w'.cell? ⟨w2.heap.size, 4, none⟩ = some (.string ⟨val.toArray⟩) ∧ w'.cell? ⟨w2.heap.size + 1, 0, none⟩ = some (.string ⟨name.toArray⟩) ∧ w'.cell? ⟨w2.heap.size + 1, 1, none⟩ = some (.int .i64 k) ∧ w'.cell? ⟨w2.heap.size + 1, 2, none⟩ = some (.slice A9 (n + 1) c9) ∧ w'.cell? ⟨w2.heap.size + 1, 3, none⟩ = some (.int .i64 m) ∧ w'.cell? ⟨w2.heap.size + 1, 4, none⟩ = some (.string ⟨val.toArray⟩)) := Lib.hid fun W hJ => (give15_c k m name val A n cap W).mono fun e w' ⟨he, hb⟩ => ⟨he, Lib.hid (hJ.out.kept hb), HSC.out w' (hJ.out.kept hb)⟩
      have CG2 : Hid (∀ W, Hid (JA w W w2.heap.size (w2.heap.size + 1) k m m2 name val A A9 n cap (n + 1) c9 ws) → Calls Tryd.prog 24 #[.agg #[.string ⟨name.toArray⟩, .int .i64 k, .slice A n cap, .int .i64 m2, .string ⟨val.toArray⟩]] W fun e w' => e = .returned (.agg #[.string ⟨name.toArray⟩, .int .i64 k, .slice A n cap, .int .i64 m2, .string ⟨val.toArray⟩]) ∧ Hid (JA w w' w2.heap.size (w2.heap.size + 1) k m m2 name val A A9 n cap (n + 1) c9 ws) ∧ w'.cell? ⟨w.heap.size, 0, none⟩ = some (.string ⟨name.toArray⟩) ∧ w'.cell? ⟨w.heap.size, 1, none⟩ = some (.int .i64 k) ∧ w'.cell? ⟨w.heap.size, 2, none⟩ = some (.slice A n cap) ∧ w'.cell? ⟨w.heap.size, 3, none⟩ = some (.int .i64 m) ∧ w'.cell? ⟨w.heap.size, 4, none⟩ = some (.string ⟨val.toArray⟩) ∧ w'.cell? ⟨w2.heap.size, 0, none⟩ = some (.string ⟨name.toArray⟩) ∧ w'.cell? ⟨w2.heap.size, 1, none⟩ = some (.int .i64 k) ∧ w'.cell? ⟨w2.heap.size, 2, none⟩ = some (.slice A n cap) ∧ w'.cell? ⟨w2.heap.size, 3, none⟩ = some (.int .i64 m2) ∧ w'.cell? ⟨w2.heap.size, 4, none⟩ = some (.string ⟨val.toArray⟩) ∧ w'.cell? ⟨w2.heap.size + 1, 0, none⟩ = some (.string ⟨name.toArray⟩) ∧ w'.cell? ⟨w2.heap.size + 1, 1, none⟩ = some (.int .i64 k) ∧ w'.cell? ⟨w2.heap.size + 1, 2, none⟩ = some (.slice A9 (n + 1) c9) ∧ w'.cell? ⟨w2.heap.size + 1, 3, none⟩ = some (.int .i64 m) ∧ w'.cell? ⟨w2.heap.size + 1, 4, none⟩ = some (.string ⟨val.toArray⟩)) := Lib.hid fun W hJ => (give15_c k m2 name val A n cap W).mono fun e w' ⟨he, hb⟩ => ⟨he, Lib.hid (hJ.out.kept hb), HSC.out w' (hJ.out.kept hb)⟩
      have CG3 : Hid (∀ W, Hid (JA w W w2.heap.size (w2.heap.size + 1) k m m2 name val A A9 n cap (n + 1) c9 ws) → Calls Tryd.prog 24 #[.agg #[.string ⟨name.toArray⟩, .int .i64 k, .slice A9 (n + 1) c9, .int .i64 m, .string ⟨val.toArray⟩]] W fun e w' => e = .returned (.agg #[.string ⟨name.toArray⟩, .int .i64 k, .slice A9 (n + 1) c9, .int .i64 m, .string ⟨val.toArray⟩]) ∧ Hid (JA w w' w2.heap.size (w2.heap.size + 1) k m m2 name val A A9 n cap (n + 1) c9 ws) ∧ w'.cell? ⟨w.heap.size, 0, none⟩ = some (.string ⟨name.toArray⟩) ∧ w'.cell? ⟨w.heap.size, 1, none⟩ = some (.int .i64 k) ∧ w'.cell? ⟨w.heap.size, 2, none⟩ = some (.slice A n cap) ∧ w'.cell? ⟨w.heap.size, 3, none⟩ = some (.int .i64 m) ∧ w'.cell? ⟨w.heap.size, 4, none⟩ = some (.string ⟨val.toArray⟩) ∧ w'.cell? ⟨w2.heap.size, 0, none⟩ = some (.string ⟨name.toArray⟩) ∧ w'.cell? ⟨w2.heap.size, 1, none⟩ = some (.int .i64 k) ∧ w'.cell? ⟨w2.heap.size, 2, none⟩ = some (.slice A n cap) ∧ w'.cell? ⟨w2.heap.size, 3, none⟩ = some (.int .i64 m2) ∧ w'.cell? ⟨w2.heap.size, 4, none⟩ = some (.string ⟨val.toArray⟩) ∧ w'.cell? ⟨w2.heap.size + 1, 0, none⟩ = some (.string ⟨name.toArray⟩) ∧ w'.cell? ⟨w2.heap.size + 1, 1, none⟩ = some (.int .i64 k) ∧ w'.cell? ⟨w2.heap.size + 1, 2, none⟩ = some (.slice A9 (n + 1) c9) ∧ w'.cell? ⟨w2.heap.size + 1, 3, none⟩ = some (.int .i64 m) ∧ w'.cell? ⟨w2.heap.size + 1, 4, none⟩ = some (.string ⟨val.toArray⟩)) := Lib.hid fun W hJ => (give15_c k m name val A9 (n + 1) c9 W).mono fun e w' ⟨he, hb⟩ => ⟨he, Lib.hid (hJ.out.kept hb), HSC.out w' (hJ.out.kept hb)⟩
      have CS1 : Hid (∀ W, Hid (JA w W w2.heap.size (w2.heap.size + 1) k m m2 name val A A9 n cap (n + 1) c9 ws) → Calls Tryd.prog 23 #[.agg #[.string ⟨name.toArray⟩, .int .i64 k, .slice A n cap, .int .i64 m, .string ⟨val.toArray⟩], .agg #[.string ⟨name.toArray⟩, .int .i64 k, .slice A n cap, .int .i64 m, .string ⟨val.toArray⟩]] W fun e w' => e = .returned (.bool true) ∧ Hid (JA w w' w2.heap.size (w2.heap.size + 1) k m m2 name val A A9 n cap (n + 1) c9 ws) ∧ w'.cell? ⟨w.heap.size, 0, none⟩ = some (.string ⟨name.toArray⟩) ∧ w'.cell? ⟨w.heap.size, 1, none⟩ = some (.int .i64 k) ∧ w'.cell? ⟨w.heap.size, 2, none⟩ = some (.slice A n cap) ∧ w'.cell? ⟨w.heap.size, 3, none⟩ = some (.int .i64 m) ∧ w'.cell? ⟨w.heap.size, 4, none⟩ = some (.string ⟨val.toArray⟩) ∧ w'.cell? ⟨w2.heap.size, 0, none⟩ = some (.string ⟨name.toArray⟩) ∧ w'.cell? ⟨w2.heap.size, 1, none⟩ = some (.int .i64 k) ∧ w'.cell? ⟨w2.heap.size, 2, none⟩ = some (.slice A n cap) ∧ w'.cell? ⟨w2.heap.size, 3, none⟩ = some (.int .i64 m2) ∧ w'.cell? ⟨w2.heap.size, 4, none⟩ = some (.string ⟨val.toArray⟩) ∧ w'.cell? ⟨w2.heap.size + 1, 0, none⟩ = some (.string ⟨name.toArray⟩) ∧ w'.cell? ⟨w2.heap.size + 1, 1, none⟩ = some (.int .i64 k) ∧ w'.cell? ⟨w2.heap.size + 1, 2, none⟩ = some (.slice A9 (n + 1) c9) ∧ w'.cell? ⟨w2.heap.size + 1, 3, none⟩ = some (.int .i64 m) ∧ w'.cell? ⟨w2.heap.size + 1, 4, none⟩ = some (.string ⟨val.toArray⟩)) := Lib.hid fun W hJ => (atSame_yes k m name val A A n cap cap ws W hJ.out.row hJ.out.row).mono fun e w' ⟨he, hb⟩ => ⟨he, Lib.hid (hJ.out.kept hb), HSC.out w' (hJ.out.kept hb)⟩
      have CS2 : Hid (∀ W, Hid (JA w W w2.heap.size (w2.heap.size + 1) k m m2 name val A A9 n cap (n + 1) c9 ws) → Calls Tryd.prog 23 #[.agg #[.string ⟨name.toArray⟩, .int .i64 k, .slice A n cap, .int .i64 m, .string ⟨val.toArray⟩], .agg #[.string ⟨name.toArray⟩, .int .i64 k, .slice A n cap, .int .i64 m2, .string ⟨val.toArray⟩]] W fun e w' => e = .returned (.bool false) ∧ Hid (JA w w' w2.heap.size (w2.heap.size + 1) k m m2 name val A A9 n cap (n + 1) c9 ws) ∧ w'.cell? ⟨w.heap.size, 0, none⟩ = some (.string ⟨name.toArray⟩) ∧ w'.cell? ⟨w.heap.size, 1, none⟩ = some (.int .i64 k) ∧ w'.cell? ⟨w.heap.size, 2, none⟩ = some (.slice A n cap) ∧ w'.cell? ⟨w.heap.size, 3, none⟩ = some (.int .i64 m) ∧ w'.cell? ⟨w.heap.size, 4, none⟩ = some (.string ⟨val.toArray⟩) ∧ w'.cell? ⟨w2.heap.size, 0, none⟩ = some (.string ⟨name.toArray⟩) ∧ w'.cell? ⟨w2.heap.size, 1, none⟩ = some (.int .i64 k) ∧ w'.cell? ⟨w2.heap.size, 2, none⟩ = some (.slice A n cap) ∧ w'.cell? ⟨w2.heap.size, 3, none⟩ = some (.int .i64 m2) ∧ w'.cell? ⟨w2.heap.size, 4, none⟩ = some (.string ⟨val.toArray⟩) ∧ w'.cell? ⟨w2.heap.size + 1, 0, none⟩ = some (.string ⟨name.toArray⟩) ∧ w'.cell? ⟨w2.heap.size + 1, 1, none⟩ = some (.int .i64 k) ∧ w'.cell? ⟨w2.heap.size + 1, 2, none⟩ = some (.slice A9 (n + 1) c9) ∧ w'.cell? ⟨w2.heap.size + 1, 3, none⟩ = some (.int .i64 m) ∧ w'.cell? ⟨w2.heap.size + 1, 4, none⟩ = some (.string ⟨val.toArray⟩)) := Lib.hid fun W hJ => (atSame_mode k m name val A A n cap cap n m2 W HM2.out).mono fun e w' ⟨he, hb⟩ => ⟨he, Lib.hid (hJ.out.kept hb), HSC.out w' (hJ.out.kept hb)⟩
      have CS3 : Hid (∀ W, Hid (JA w W w2.heap.size (w2.heap.size + 1) k m m2 name val A A9 n cap (n + 1) c9 ws) → Calls Tryd.prog 23 #[.agg #[.string ⟨name.toArray⟩, .int .i64 k, .slice A9 (n + 1) c9, .int .i64 m, .string ⟨val.toArray⟩], .agg #[.string ⟨name.toArray⟩, .int .i64 k, .slice A n cap, .int .i64 m, .string ⟨val.toArray⟩]] W fun e w' => e = .returned (.bool false) ∧ Hid (JA w w' w2.heap.size (w2.heap.size + 1) k m m2 name val A A9 n cap (n + 1) c9 ws) ∧ w'.cell? ⟨w.heap.size, 0, none⟩ = some (.string ⟨name.toArray⟩) ∧ w'.cell? ⟨w.heap.size, 1, none⟩ = some (.int .i64 k) ∧ w'.cell? ⟨w.heap.size, 2, none⟩ = some (.slice A n cap) ∧ w'.cell? ⟨w.heap.size, 3, none⟩ = some (.int .i64 m) ∧ w'.cell? ⟨w.heap.size, 4, none⟩ = some (.string ⟨val.toArray⟩) ∧ w'.cell? ⟨w2.heap.size, 0, none⟩ = some (.string ⟨name.toArray⟩) ∧ w'.cell? ⟨w2.heap.size, 1, none⟩ = some (.int .i64 k) ∧ w'.cell? ⟨w2.heap.size, 2, none⟩ = some (.slice A n cap) ∧ w'.cell? ⟨w2.heap.size, 3, none⟩ = some (.int .i64 m2) ∧ w'.cell? ⟨w2.heap.size, 4, none⟩ = some (.string ⟨val.toArray⟩) ∧ w'.cell? ⟨w2.heap.size + 1, 0, none⟩ = some (.string ⟨name.toArray⟩) ∧ w'.cell? ⟨w2.heap.size + 1, 1, none⟩ = some (.int .i64 k) ∧ w'.cell? ⟨w2.heap.size + 1, 2, none⟩ = some (.slice A9 (n + 1) c9) ∧ w'.cell? ⟨w2.heap.size + 1, 3, none⟩ = some (.int .i64 m) ∧ w'.cell? ⟨w2.heap.size + 1, 4, none⟩ = some (.string ⟨val.toArray⟩)) := Lib.hid fun W hJ => (atSame_len k m name val A9 A (n + 1) c9 cap n W (by omega)).mono fun e w' ⟨he, hb⟩ => ⟨he, Lib.hid (hJ.out.kept hb), HSC.out w' (hJ.out.kept hb)⟩
      have CR1 : Hid (∀ W, Hid (JA w W w2.heap.size (w2.heap.size + 1) k m m2 name val A A9 n cap (n + 1) c9 ws) → Calls Tryd.prog 22 #[.int .i64 k0, .string ⟨s.toArray⟩] W fun e w' => e = .returned (.string ⟨T.toArray⟩) ∧ Hid (JA w w' w2.heap.size (w2.heap.size + 1) k m m2 name val A A9 n cap (n + 1) c9 ws) ∧ w'.cell? ⟨w.heap.size, 0, none⟩ = some (.string ⟨name.toArray⟩) ∧ w'.cell? ⟨w.heap.size, 1, none⟩ = some (.int .i64 k) ∧ w'.cell? ⟨w.heap.size, 2, none⟩ = some (.slice A n cap) ∧ w'.cell? ⟨w.heap.size, 3, none⟩ = some (.int .i64 m) ∧ w'.cell? ⟨w.heap.size, 4, none⟩ = some (.string ⟨val.toArray⟩) ∧ w'.cell? ⟨w2.heap.size, 0, none⟩ = some (.string ⟨name.toArray⟩) ∧ w'.cell? ⟨w2.heap.size, 1, none⟩ = some (.int .i64 k) ∧ w'.cell? ⟨w2.heap.size, 2, none⟩ = some (.slice A n cap) ∧ w'.cell? ⟨w2.heap.size, 3, none⟩ = some (.int .i64 m2) ∧ w'.cell? ⟨w2.heap.size, 4, none⟩ = some (.string ⟨val.toArray⟩) ∧ w'.cell? ⟨w2.heap.size + 1, 0, none⟩ = some (.string ⟨name.toArray⟩) ∧ w'.cell? ⟨w2.heap.size + 1, 1, none⟩ = some (.int .i64 k) ∧ w'.cell? ⟨w2.heap.size + 1, 2, none⟩ = some (.slice A9 (n + 1) c9) ∧ w'.cell? ⟨w2.heap.size + 1, 3, none⟩ = some (.int .i64 m) ∧ w'.cell? ⟨w2.heap.size + 1, 4, none⟩ = some (.string ⟨val.toArray⟩)) := Lib.hid fun W hJ => (CR0.out W).mono fun e w' ⟨he, hb⟩ => by
        subst hb
        exact ⟨he, hJ, HSC.out _ hJ.out⟩
      have CT1 : Hid (∀ W, Hid (JA w W w2.heap.size (w2.heap.size + 1) k m m2 name val A A9 n cap (n + 1) c9 ws) → Calls Tryd.prog 21 #[.int .i64 k0, .string ⟨T.toArray⟩] W fun e w' => e = .returned (.string ⟨T.toArray⟩) ∧ Hid (JA w w' w2.heap.size (w2.heap.size + 1) k m m2 name val A A9 n cap (n + 1) c9 ws) ∧ w'.cell? ⟨w.heap.size, 0, none⟩ = some (.string ⟨name.toArray⟩) ∧ w'.cell? ⟨w.heap.size, 1, none⟩ = some (.int .i64 k) ∧ w'.cell? ⟨w.heap.size, 2, none⟩ = some (.slice A n cap) ∧ w'.cell? ⟨w.heap.size, 3, none⟩ = some (.int .i64 m) ∧ w'.cell? ⟨w.heap.size, 4, none⟩ = some (.string ⟨val.toArray⟩) ∧ w'.cell? ⟨w2.heap.size, 0, none⟩ = some (.string ⟨name.toArray⟩) ∧ w'.cell? ⟨w2.heap.size, 1, none⟩ = some (.int .i64 k) ∧ w'.cell? ⟨w2.heap.size, 2, none⟩ = some (.slice A n cap) ∧ w'.cell? ⟨w2.heap.size, 3, none⟩ = some (.int .i64 m2) ∧ w'.cell? ⟨w2.heap.size, 4, none⟩ = some (.string ⟨val.toArray⟩) ∧ w'.cell? ⟨w2.heap.size + 1, 0, none⟩ = some (.string ⟨name.toArray⟩) ∧ w'.cell? ⟨w2.heap.size + 1, 1, none⟩ = some (.int .i64 k) ∧ w'.cell? ⟨w2.heap.size + 1, 2, none⟩ = some (.slice A9 (n + 1) c9) ∧ w'.cell? ⟨w2.heap.size + 1, 3, none⟩ = some (.int .i64 m) ∧ w'.cell? ⟨w2.heap.size + 1, 4, none⟩ = some (.string ⟨val.toArray⟩)) := Lib.hid fun W hJ => (CT2.out W).mono fun e w' ⟨he, hb⟩ => ⟨he, Lib.hid (hJ.out.kept hb), HSC.out w' (hJ.out.kept hb)⟩
      have CV1 : Hid (∀ W, Hid (JA w W w2.heap.size (w2.heap.size + 1) k m m2 name val A A9 n cap (n + 1) c9 ws) → Calls Tryd.prog 20 #[] W fun e w' => e = .returned (.bool true) ∧ Hid (JA w w' w2.heap.size (w2.heap.size + 1) k m m2 name val A A9 n cap (n + 1) c9 ws) ∧ w'.cell? ⟨w.heap.size, 0, none⟩ = some (.string ⟨name.toArray⟩) ∧ w'.cell? ⟨w.heap.size, 1, none⟩ = some (.int .i64 k) ∧ w'.cell? ⟨w.heap.size, 2, none⟩ = some (.slice A n cap) ∧ w'.cell? ⟨w.heap.size, 3, none⟩ = some (.int .i64 m) ∧ w'.cell? ⟨w.heap.size, 4, none⟩ = some (.string ⟨val.toArray⟩) ∧ w'.cell? ⟨w2.heap.size, 0, none⟩ = some (.string ⟨name.toArray⟩) ∧ w'.cell? ⟨w2.heap.size, 1, none⟩ = some (.int .i64 k) ∧ w'.cell? ⟨w2.heap.size, 2, none⟩ = some (.slice A n cap) ∧ w'.cell? ⟨w2.heap.size, 3, none⟩ = some (.int .i64 m2) ∧ w'.cell? ⟨w2.heap.size, 4, none⟩ = some (.string ⟨val.toArray⟩) ∧ w'.cell? ⟨w2.heap.size + 1, 0, none⟩ = some (.string ⟨name.toArray⟩) ∧ w'.cell? ⟨w2.heap.size + 1, 1, none⟩ = some (.int .i64 k) ∧ w'.cell? ⟨w2.heap.size + 1, 2, none⟩ = some (.slice A9 (n + 1) c9) ∧ w'.cell? ⟨w2.heap.size + 1, 3, none⟩ = some (.int .i64 m) ∧ w'.cell? ⟨w2.heap.size + 1, 4, none⟩ = some (.string ⟨val.toArray⟩)) := Lib.hid fun W hJ => (LV.out W hJ.out.below).mono fun e w' ⟨he, hb⟩ => ⟨he, Lib.hid (hJ.out.kept hb), HSC.out w' (hJ.out.kept hb)⟩
      have HFB : ∀ W, Hid (JA w W w2.heap.size (w2.heap.size + 1) k m m2 name val A A9 n cap (n + 1) c9 ws) → Below w.heap.size w W := fun W h => h.out.below
      clear CR0 CT2 LV HPR
      go_region_held3 (fun w' => w'.cell? ⟨w.heap.size, 0, none⟩ = some (.string ⟨name.toArray⟩) ∧ w'.cell? ⟨w.heap.size, 1, none⟩ = some (.int .i64 k) ∧ w'.cell? ⟨w.heap.size, 2, none⟩ = some (.slice A n cap) ∧ w'.cell? ⟨w.heap.size, 3, none⟩ = some (.int .i64 m) ∧ w'.cell? ⟨w.heap.size, 4, none⟩ = some (.string ⟨val.toArray⟩) ∧ w'.cell? ⟨w2.heap.size, 0, none⟩ = some (.string ⟨name.toArray⟩) ∧ w'.cell? ⟨w2.heap.size, 1, none⟩ = some (.int .i64 k) ∧ w'.cell? ⟨w2.heap.size, 2, none⟩ = some (.slice A n cap) ∧ w'.cell? ⟨w2.heap.size, 3, none⟩ = some (.int .i64 m2) ∧ w'.cell? ⟨w2.heap.size, 4, none⟩ = some (.string ⟨val.toArray⟩) ∧ w'.cell? ⟨w2.heap.size + 1, 0, none⟩ = some (.string ⟨name.toArray⟩) ∧ w'.cell? ⟨w2.heap.size + 1, 1, none⟩ = some (.int .i64 k) ∧ w'.cell? ⟨w2.heap.size + 1, 2, none⟩ = some (.slice A9 (n + 1) c9) ∧ w'.cell? ⟨w2.heap.size + 1, 3, none⟩ = some (.int .i64 m) ∧ w'.cell? ⟨w2.heap.size + 1, 4, none⟩ = some (.string ⟨val.toArray⟩) ∧ Hid (JA w w' w2.heap.size (w2.heap.size + 1) k m m2 name val A A9 n cap (n + 1) c9 ws)) (first | exact ⟨by assumption, by assumption, by assumption, by assumption, by assumption, by assumption, by assumption, by assumption, by assumption, by assumption, by assumption, by assumption, by assumption, by assumption, by assumption, by assumption⟩) (first
        | (go_at_call 24; (first | (with_reducible refine (CG1.out _ (by assumption)).mono ?_) | (with_reducible refine (CG2.out _ (by assumption)).mono ?_) | (with_reducible refine (CG3.out _ (by assumption)).mono ?_)); rintro e W2 ⟨rfl, HQ2, g0, g1, g2, g3, g4, g5, g6, g7, g8, g9, g10, g11, g12, g13, g14⟩)
        | (go_at_call 23; (first | (with_reducible refine (CS1.out _ (by assumption)).mono ?_) | (with_reducible refine (CS2.out _ (by assumption)).mono ?_) | (with_reducible refine (CS3.out _ (by assumption)).mono ?_)); rintro e W2 ⟨rfl, HQ2, g0, g1, g2, g3, g4, g5, g6, g7, g8, g9, g10, g11, g12, g13, g14⟩)
        | (go_at_call 22; refine (CR1.out _ (by assumption)).mono ?_; rintro e W2 ⟨rfl, HQ2, g0, g1, g2, g3, g4, g5, g6, g7, g8, g9, g10, g11, g12, g13, g14⟩)
        | (go_at_call 21; refine (CT1.out _ (by assumption)).mono ?_; rintro e W2 ⟨rfl, HQ2, g0, g1, g2, g3, g4, g5, g6, g7, g8, g9, g10, g11, g12, g13, g14⟩)
        | (go_at_call 20; refine (CV1.out _ (by assumption)).mono ?_; rintro e W2 ⟨rfl, HQ2, g0, g1, g2, g3, g4, g5, g6, g7, g8, g9, g10, g11, g12, g13, g14⟩))
      go_wp2
      go_ret
      exact ⟨rfl, HFB _ (by assumption)⟩
end Go.Proofs.YtbfdomipkfbaeaaDoor
