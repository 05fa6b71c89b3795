/- sweep.over: what it keeps. -/
import Derived.Test.YtmclngahdklfkaaGreatDoorRows
import Derived.Test.YtmclngahdklfkaaGreatDoorQX
import Derived.WalkKit
import Derived.ProofKit
import Derived.OpenShut
import Derived.ShutString
import Derived.ChangeOld
import Derived.Below
import Derived.BigQuiet
import Derived.Deep.QuietTactic
import Derived.Lib.Hide
import Derived.Deep.RegionHeld3
import Derived.Lib.SlBytesConst
import Derived.Laws.CopyOwn
import Derived.Laws.CopyRow
import Derived.Lib.Bytes
import Derived.Deep.LoopGhost
import Derived.Deep.DeepFit
import Derived.Deep.DeepMust
import Derived.WalkSpells
import Derived.WalkLawsBesides
import Derived.Maps.OwnOps
import Derived.Maps.OwnSet
import Derived.Maps.Views
import Derived.Laws.EntriesVeiled
import Derived.Laws.Rows
import Derived.Maps.AppendAt
import Derived.Lib.SmallJoins
import Derived.Deep.AppendLies
import Derived.Deep.RegionLaw
import Derived.Deep.RegionWith
import Derived.Deep.RegionWith
import Derived.Test.YtmclngahdklfkaaGreatDoorQ1
import Derived.Test.YtmclngahdklfkaaGreatDoorQ6
import Derived.Test.YtmclngahdklfkaaGreatDoorQ2
import Derived.Test.YtmclngahdklfkaaGreatDoorQ4
import Derived.Test.YtmclngahdklfkaaGreatDoorQ5
import Derived.Test.YtmclngahdklfkaaGreatDoorQ8
import Derived.Test.YtmclngahdklfkaaGreatDoorQ9
import Derived.Test.YtmclngahdklfkaaGreatDoorQ10
import Derived.Test.YtmclngahdklfkaaGreatDoorQ11
import Derived.Test.YtmclngahdklfkaaGreatDoorQ12
import Derived.Test.YtmclngahdklfkaaGreatDoorQ13
import Derived.Test.YtmclngahdklfkaaGreatDoorQ14
import Derived.Test.YtmclngahdklfkaaGreatDoorQ15
import Derived.Test.YtmclngahdklfkaaGreatDoorQ16
import Derived.Test.YtmclngahdklfkaaGreatDoorQ17
import Derived.Test.YtmclngahdklfkaaGreatDoorQ18
import Derived.Test.YtmclngahdklfkaaGreatDoorQ19
import Derived.Test.YtmclngahdklfkaaGreatDoorQ20
import Derived.Test.YtmclngahdklfkaaGreatDoorQ21
import Derived.Test.YtmclngahdklfkaaGreatDoorQ24
import Derived.Test.YtmclngahdklfkaaGreatDoorQ22
import Derived.Test.YtmclngahdklfkaaGreatDoorQ23
import Derived.Test.YtmclngahdklfkaaGreatDoorQ7
import Derived.Test.YtmclngahdklfkaaGreatDoorQ25
import Derived.Test.YtmclngahdklfkaaGreatDoorTok9
import Derived.Test.YtmclngahdklfkaaGreatDoorTok10
import Derived.Test.YtmclngahdklfkaaGreatDoorTok10b
import Derived.Test.YtmclngahdklfkaaGreatDoorTokQ
import Derived.Test.YtmclngahdklfkaaGreatDoorSwP
import Derived.Test.YtmclngahdklfkaaGreatDoorSw1
import Derived.Test.YtmclngahdklfkaaGreatDoorSw2
import Derived.Test.YtmclngahdklfkaaGreatDoorSw3
import Derived.Test.YtmclngahdklfkaaGreatDoorSw4
import Derived.Test.YtmclngahdklfkaaGreatDoorSw5
namespace Go.Proofs.YtmclngahdklfkaaGreatDoor
open Go.ChangeShapes Go.WideShapes Go.ChangeAt Go.RowKit
set_option linter.unusedVariables false
theorem text_le (l : List UInt8) (t : Nat) (h : (nextOut l t).1.kind = 1) : (nextOut l t).1.text.length ≤ l.length := by
  unfold nextOut at h ⊢
  split
  · rename_i h0
    rw [if_pos h0] at h
    simp only at h ⊢
    unfold readTok at h ⊢
    split
    · rename_i g; rw [if_pos g] at h; simp at h
    · rename_i g; rw [if_neg g] at h
      split
      · rename_i g; rw [if_pos g] at h; simp at h
      · rename_i g; rw [if_neg g] at h
        split
        · rename_i g; rw [if_pos g] at h; simp at h
        · rename_i g; rw [if_neg g] at h
          split
          · rename_i g; rw [if_pos g] at h; simp at h
          · rename_i g; rw [if_neg g] at h
            split
            · rename_i g; rw [if_pos g] at h; simp only at h; split at h <;> omega
            · rename_i g; rw [if_neg g] at h
              split
              · rename_i g; rw [if_pos g] at h; simp at h
              · rename_i g; rw [if_neg g] at h
                split
                · rename_i g; rw [if_pos g] at h; simp at h
                · unfold textTok
                  split
                  · exact Nat.zero_le _
                  · have := txt_le (l.drop t)
                    rw [List.length_drop] at this
                    show (txt (l.drop t)).length ≤ _
                    omega
  · rename_i h0; rw [if_neg h0] at h; simp [noTok] at h
theorem may_all (sb base : Nat) (whole : Bool) (W : World) (sv : Value) (op : List (List UInt8)) (root : Bool) (k : TokL) (PA : Option Addr) (pn pc : Nat) (hJ : SwJ sb base whole W sv op root) (hop : op.length ≤ 1000000) (hk : 1 ≤ k.kind ∧ k.kind ≤ 9) (htx : k.kind = 1 → k.text.length ≤ 500000) :
    Calls Tryz.prog 73 #[.pointer (some ⟨sb, 0, none⟩), .agg #[.int .i64 k.kind, .int .i64 k.fro, .int .i64 k.to_, .string ⟨k.name.toArray⟩, .string ⟨k.text.toArray⟩, .slice PA pn pc, .int .i64 k.r]] W fun e w' => MayPost sb base whole W sv (mayS whole op root k) e w' := by
  obtain ⟨kind, fro, to_, name, text, ps, rr⟩ := k
  simp only at hk htx ⊢
  have h9 : kind = 1 ∨ kind = 2 ∨ kind = 3 ∨ kind = 4 ∨ kind = 5 ∨ kind = 6 ∨ kind = 7 ∨ kind = 8 ∨ kind = 9 := by omega
  rcases h9 with rfl | rfl | rfl | rfl | rfl | rfl | rfl | rfl | rfl
  · exact may_k1 sb base whole W sv op root fro to_ rr name text ps PA pn pc hJ hop (htx rfl)
  · exact may_k2 sb base whole W sv op root fro to_ rr name text ps PA pn pc hJ hop
  · exact may_k3 sb base whole W sv op root fro to_ rr name text ps PA pn pc hJ hop
  · exact may_k4 sb base whole W sv op root fro to_ rr name text ps PA pn pc hJ hop
  · exact may_k5 sb base whole W sv op root fro to_ rr name text ps PA pn pc hJ hop
  · exact may_k6 sb base whole W sv op root fro to_ rr name text ps PA pn pc hJ hop
  · exact may_k7 sb base whole W sv op root fro to_ rr name text ps PA pn pc hJ hop
  · exact may_k8 sb base whole W sv op root fro to_ rr name text ps PA pn pc hJ hop
  · exact may_k9 sb base whole W sv op root fro to_ rr name text ps PA pn pc hJ hop
theorem own_type {w : World} {B B' : Nat} {e e' : TypeId} {c c' n n' : Nat} {v v' : Value} {xs xs' : List Value} (h : w.ownsRow B e c v n xs) (h' : w.ownsRow B' e' c' v' n' xs') (hT : e ≠ e') {b : Nat} (hb : v.ownBlock = some b) : some b ≠ v'.ownBlock := by
  intro hb'
  obtain ⟨_, ⟨hv, _⟩ | ⟨g, cap, cur, hv, _, hh, _⟩⟩ := h
  · rw [hv] at hb; simp [Value.ownBlock] at hb
  · obtain ⟨_, ⟨hv', _⟩ | ⟨g', cap', cur', hv', _, hh', _⟩⟩ := h'
    · rw [hv'] at hb'; simp [Value.ownBlock] at hb'
    · rw [hv] at hb
      rw [hv'] at hb'
      simp [Value.ownBlock] at hb hb'
      subst hb
      subst hb'
      rw [hh] at hh'
      cases hh'
      exact hT rfl
theorem Byt.moveA {w w' : World} {B B' n cap : Nat} {A : Option Addr} {l : List UInt8} (h : Byt w B A n cap l) (hB : B ≤ B') (hk : 0 < cap → ∀ b i, A = some ⟨b, i, none⟩ → b < B → w'.heap[b]? = w.heap[b]?) : Byt w' B' A n cap l := by
  obtain ⟨h1, h2, h3, h4, h5⟩ := h
  refine ⟨h1, h2, h3, h4, fun h0 => ?_⟩
  obtain ⟨b, o, e, hb, hc⟩ := h5 h0
  refine ⟨b, o, e, by omega, fun i u hu => ?_⟩
  rw [← hc i u hu]
  unfold World.cell?
  rw [hk h0 b o e hb]
/-- While tokens are swept: their row, what is open, the bytes. -/
structure OJ (w0 wr : World) (sb base : Nat) (whole : Bool) (A : Option Addr) (n cap : Nat) (l : List UInt8) (v : Value) (vs : List TokV) (sv : Value) (op : List (List UInt8)) (root : Bool) : Prop where
  gro : GrowT 26 w0 wr base v vs
  sw : SwJ sb base whole wr sv op root
  byt : Byt wr wr.heap.size A n cap l
  off2 : ∀ x ∈ vs, 0 < x.c → ∀ b i, x.A = some ⟨b, i, none⟩ → b ≠ sb ∧ some b ≠ sv.ownBlock
theorem OJ.kept {w0 wr w' : World} {sb base : Nat} {whole : Bool} {A : Option Addr} {n cap : Nat} {l : List UInt8} {v : Value} {vs : List TokV} {sv : Value} {op : List (List UInt8)} {root : Bool} (h : OJ w0 wr sb base whole A n cap l v vs sv op root) (hb : Below wr.heap.size wr w') : OJ w0 w' sb base whole A n cap l v vs sv op root :=
  ⟨h.gro.kept hb, h.sw.kept hb, (h.byt.below hb).more hb.size, h.off2⟩
/-- Behind 'may'. -/
theorem OJ.may {w0 wr w' : World} {sb base : Nat} {whole : Bool} {A : Option Addr} {n cap : Nat} {l : List UInt8} {v : Value} {vs : List TokV} {sv sv' : Value} {op op' : List (List UInt8)} {root root' : Bool} (h : OJ w0 wr sb base whole A n cap l v vs sv op root) (h0 : sb = w0.heap.size) (hA : 0 < cap → ∀ b i, A = some ⟨b, i, none⟩ → b ≠ sb ∧ b < base)
    (hJ : SwJ sb base whole w' sv' op' root') (hM : MF sb wr w' sv sv') : OJ w0 w' sb base whole A n cap l v vs sv' op' root' := by
  have hown : ∀ g, v.ownBlock = some g → w'.heap[g]? = wr.heap[g]? := fun g hg => by
    have hl := ownBlock_lt h.gro.own hg
    exact hM.blk g hl.1 (by have := h.sw.lt; omega) (own_type h.gro.own h.sw.own (by decide) hg)
  refine ⟨⟨h.gro.below.trans (by rw [← h0]; exact hM.below), h.gro.base0, Nat.le_trans h.gro.base1 hM.below.size, ?_, fun x hx => hM.keep (h.gro.prs x hx) (h.off2 x hx), h.gro.off⟩, hJ, h.byt.moveA hM.below.size fun h9 b i hAA hb => hM.blk b hb (hA h9 b i hAA).1 (ownS_ne h.sw.own (hA h9 b i hAA).2), fun x hx hc b i hxA => ⟨(h.off2 x hx hc b i hxA).1, ?_⟩⟩
  · obtain ⟨hl, h2 | ⟨g, cp, cur, hv, hg, hh, r⟩⟩ := h.gro.own
    · exact ⟨hl, .inl h2⟩
    · exact ⟨hl, .inr ⟨g, cp, cur, hv, hg, (hown g (by rw [hv]; rfl)).trans hh, r⟩⟩
  · rcases hM.own with e | ⟨g, e, hg⟩
    · rw [e]; exact (h.off2 x hx hc b i hxA).2
    · rw [e]
      intro hh
      obtain ⟨b2, o2, e2, hb2, _⟩ := (h.gro.prs x hx).at_ hc
      rw [hxA] at e2
      cases e2
      cases hh
      omega
/-- One token more. -/
theorem OJ.appended {w0 wr w' : World} {sb base : Nat} {whole : Bool} {A : Option Addr} {n cap : Nat} {l : List UInt8} {v v' : Value} {vs : List TokV} {sv : Value} {op : List (List UInt8)} {root : Bool} {x : TokV} {us : Array Value} (h : OJ w0 wr sb base whole A n cap l v vs sv op root) (hA : 0 < cap → ∀ b i, A = some ⟨b, i, none⟩ → b ≠ sb ∧ b < base)
    (hx : PRd wr wr.heap.size x.A x.n x.c x.t.pairs) (hoff : 0 < x.c → ∀ b i, x.A = some ⟨b, i, none⟩ → some b ≠ v.ownBlock) (hoff2 : 0 < x.c → ∀ b i, x.A = some ⟨b, i, none⟩ → b ≠ sb ∧ some b ≠ sv.ownBlock)
    (hown : w'.ownsRow base 26 7 v' (vs.length + 1) (cellsK vs ++ x.cells)) (hg : (wr.alloc (.cells us 26)).grownBy w' v.ownBlock) (hat : v'.ownBlock = v.ownBlock ∨ v'.ownBlock = some (wr.heap.size + 1)) : OJ w0 w' sb base whole A n cap l v' (vs ++ [x]) sv op root := by
  have hs := hg.size
  rw [World.size_alloc] at hs
  have hbl : ∀ b, b < wr.heap.size → some b ≠ v.ownBlock → w'.heap[b]? = wr.heap[b]? := fun b hb hne => by
    rw [hg.block b (by rw [World.size_alloc]; omega) hne, Below.heap_alloc _ _ _ hb]
  refine ⟨h.gro.appended hx hoff hown hg hat, ⟨?_, ?_, h.sw.lt, by have := h.sw.le; omega, h.sw.inv⟩, h.byt.moveA (by omega) fun h9 b i hAA hb => hbl b hb (fun e => by have := (ownBlock_lt h.gro.own e.symm).2; have := (hA h9 b i hAA).2; omega), ?_⟩
  · rw [hbl sb (lt_of h.sw.sw) (fun e => by have := (ownBlock_lt h.gro.own e.symm).2; have := h.sw.lt; omega)]
    exact h.sw.sw
  · obtain ⟨hl, h2 | ⟨g, cp, cur, hv, hgb, hh, r⟩⟩ := h.sw.own
    · exact ⟨hl, .inl h2⟩
    · refine ⟨hl, .inr ⟨g, cp, cur, hv, hgb, (hbl g (lt_of hh) ?_).trans hh, r⟩⟩
      exact own_type h.sw.own h.gro.own (by decide) (by rw [hv]; rfl)
  · intro y hy
    rcases List.mem_append.1 hy with hy | hy
    · exact h.off2 y hy
    · rw [List.mem_singleton] at hy; subst hy; exact hoff2
end Go.Proofs.YtmclngahdklfkaaGreatDoor
