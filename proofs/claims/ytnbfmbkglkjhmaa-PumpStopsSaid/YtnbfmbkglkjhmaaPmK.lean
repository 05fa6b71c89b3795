import Derived.Test.YtnbfmbkglkjhmaaPmJ
import Derived.Conc.Walk
import Derived.Conc.WalkWords
import Derived.Conc.Own5
import Derived.Conc.CompanyDraw
import Derived.Conc.TokenWords
set_option linter.unusedSimpArgs false
set_option linter.unusedVariables false
set_option linter.unusedSectionVars false
namespace Go.Pmp
open Go.Conc

/-! The laws of a walk whose steps are not counted. -/
structure Quiet (R : World → World → Prop) (D : World → World → Array Event → Prop) (Ok : Event → Prop) : Prop where
  trans : ∀ a b c, R a b → R b c → R a c
  refl : ∀ a, R a a
  read : ∀ w es, (∀ e ∈ es, Ok e) → D w w es
theorem Quiet.idle {R : World → World → Prop} {D : World → World → Array Event → Prop} {Ok : Event → Prop} (T : Quiet R D Ok) (w : World) : D w w #[] := T.read w #[] (by simp)

theorem Env.Ok.quietM {E : Env} (O : E.Ok) : Quiet E.RM (DM E) (EvM E.Own E.Still) := ⟨O.rmT, O.rmR, fun w es h => ⟨h, rfl, rfl, rfl, O.rpR w⟩⟩
theorem Env.Ok.quietP {E : Env} (O : E.Ok) : Quiet E.RP (DP E) (EvP E.Own E.Still) := ⟨O.rpT, O.rpR, fun w es h => ⟨h, rfl, rfl, rfl, O.rmR w⟩⟩
/-- Alone, or beside leavers. -/
def D1 (w w' : World) (es : Array Event) : Prop := ∀ e ∈ es, Ev1 e
theorem quiet1 : Quiet AtRel D1 Ev1 := ⟨atRel_trans, atRel_refl, fun _ _ h => h⟩

theorem Ev.mono {P : Program} {main : Bool} {R : World → World → Prop} {D : World → World → Array Event → Prop} {Stop Stop' : GW} {g : Goroutine} {w : World} (h : Ev P main R D Stop g w) (hS : ∀ g w, Stop g w → Stop' g w) : Ev P main R D Stop' g w := by
  induction h with
  | stop h => exact .stop fun w₁ h₁ => hS _ _ (h w₁ h₁)
  | step hs h hn ih => exact .step hs h ih
theorem PS.more {E : Env} : ∀ (k i : Nat) (st X : Bool) (g : Goroutine) (w : World), PS E k i st X g w → PS E (k + 1) i st X g w
  | 0, _, _, _, _, _, h => h.elim
  | k + 1, i, st, X, g, w, h => Ev.mono h fun g w hs => by
    rcases hs with ⟨e, h1, es, h2, h3, h4, h5⟩ | ⟨e, h1, hQ, es, h2, h3, h4, h5⟩ | ⟨e, h1, h2, g', h3, h4, h5⟩ | h
    · exact .inl ⟨e, h1, es, h2, h3, fun w₁ h => PS.more k _ _ _ _ _ (h4 w₁ h), fun w₁ h => PS.more k _ _ _ _ _ (h5 w₁ h)⟩
    · exact .inr (.inl ⟨e, h1, hQ, es, h2, h3, fun w₁ h hb => PS.more k _ _ _ _ _ (h4 w₁ h hb), fun w₁ h => PS.more k _ _ _ _ _ (h5 w₁ h)⟩)
    · exact .inr (.inr (.inl ⟨e, h1, h2, g', h3, h4, fun w₁ h => PS.more k _ _ _ _ _ (h5 w₁ h)⟩))
    · exact .inr (.inr (.inr h))
theorem PS.le {E : Env} {k k' i : Nat} {st X : Bool} {g : Goroutine} {w : World} (h : PS E k i st X g w) (hk : k ≤ k') : PS E k' i st X g w := by
  induction hk with
  | refl => exact h
  | step _ ih => exact PS.more _ _ _ _ _ _ ih
theorem MS.more {E : Env} {Fin : GW} : ∀ (k r : Nat) (X S : Bool) (g : Goroutine) (w : World), MS E Fin k r X S g w → MS E Fin (k + 1) r X S g w
  | 0, _, _, _, _, _, h => h.elim
  | k + 1, r, X, S, g, w, h => Ev.mono h fun g w hs => by
    rcases hs with ⟨e, e', h1, h0, es, h2, h3, h4, h5⟩ | ⟨e, e', h1, h2, g', h3, h4, h5⟩ | h
    · exact .inl ⟨e, e', h1, h0, es, h2, h3, fun w₁ h hq => MS.more k _ _ _ _ _ (h4 w₁ h hq), fun w₁ h => MS.more k _ _ _ _ _ (h5 w₁ h)⟩
    · exact .inr (.inl ⟨e, e', h1, h2, g', h3, h4, MS.more k _ _ _ _ _ h5⟩)
    · exact .inr (.inr h)
theorem MS.le {E : Env} {Fin : GW} {k k' r : Nat} {X S : Bool} {g : Goroutine} {w : World} (h : MS E Fin k r X S g w) (hk : k ≤ k') : MS E Fin k' r X S g w := by
  induction hk with
  | refl => exact h
  | step _ ih => exact MS.more _ _ _ _ _ _ ih

section
variable {P : Program} {main : Bool} {R : World → World → Prop} {D : World → World → Array Event → Prop} {Ok : Event → Prop} {Stop : GW} (T : Quiet R D Ok)
variable {b : Frame} {a : Act} {k : List Item} {cs : List Frame} {w : World}

include T in
theorem Ev.ctl {g g' : Goroutine} (hs : g.status = .running) (h : ∀ w, stepG P main g w = .go g' w) (hn : Ev P main R D Stop g' w) : Ev P main R D Stop g w :=
  .go hs fun w₁ h₁ => by rw [h]; exact ⟨T.idle _, hn.rely T.trans h₁⟩
include T in
theorem Ev.skip (hn : Ev P main R D Stop (G (b.at a k) cs) w) : Ev P main R D Stop (G (b.at a (.code .skip :: k)) cs) w := .ctl T rfl (fun _ => stepG_skip) hn
include T in
theorem Ev.inBlock {id : Nat} (hn : Ev P main R D Stop (G (b.at a k) cs) w) : Ev P main R D Stop (G (b.at a (.inBlock id :: k)) cs) w := .ctl T rfl (fun _ => stepG_inBlock) hn
include T in
theorem Ev.seq {x y : Code} (hn : Ev P main R D Stop (G (b.at a (.code x :: .code y :: k)) cs) w) : Ev P main R D Stop (G (b.at a (.code (.seq x y) :: k)) cs) w := .ctl T rfl (fun _ => stepG_seq) hn
include T in
theorem Ev.block {id : Nat} {c : Code} (hn : Ev P main R D Stop (G (b.at a (.code c :: .inBlock id :: k)) cs) w) : Ev P main R D Stop (G (b.at a (.code (.block id c) :: k)) cs) w := .ctl T rfl (fun _ => stepG_block) hn
include T in
theorem Ev.loop {c : Code} (hn : Ev P main R D Stop (G (b.at a (.code c :: .inLoop c :: k)) cs) w) : Ev P main R D Stop (G (b.at a (.code (.loop c) :: k)) cs) w := .ctl T rfl (fun _ => stepG_loop) hn
include T in
theorem Ev.inLoop {c : Code} (hn : Ev P main R D Stop (G (b.at a (.code c :: .inLoop c :: k)) cs) w) : Ev P main R D Stop (G (b.at a (.inLoop c :: k)) cs) w := .ctl T rfl (fun _ => stepG_inLoop) hn
include T in
theorem Ev.cond {c : Operand} {x y : Code} (t : Bool) (h : a.eval c = .bool t) (hn : Ev P main R D Stop (G (b.at a (.code (if t then x else y) :: k)) cs) w) : Ev P main R D Stop (G (b.at a (.code (.cond c x y) :: k)) cs) w := .ctl T rfl (fun _ => stepG_cond h) hn
include T in
theorem Ev.exit {id : Nat} {k' : List Item} (h : exitTo id k = some k') (hn : Ev P main R D Stop (G (b.at a k') cs) w) : Ev P main R D Stop (G (b.at a (.code (.exit id) :: k)) cs) w := .ctl T rfl (fun _ => stepG_exit h) hn
include T in
theorem Ev.region {id : Nat} {ops : Array Oper} (hn : Ev P main R D Stop (G (b.at a (.inRegion ops (List.range ops.size) :: k)) cs) w) : Ev P main R D Stop (G (b.at a (.code (.region id ops false) :: k)) cs) w := .ctl T rfl (fun _ => stepG_region) hn
include T in
theorem Ev.regionEnd {ops : Array Oper} (hn : Ev P main R D Stop (G (b.at a k) cs) w) : Ev P main R D Stop (G (b.at a (.inRegion ops [] :: k)) cs) w := .ctl T rfl (fun _ => stepG_region_end) hn
include T in
theorem Ev.ret (hn : Ev P main R D Stop (G { b.at a (.code .ret :: k) with mode := .returning } cs) w) : Ev P main R D Stop (G (b.at a (.code .ret :: k)) cs) w := .ctl T rfl (fun _ => stepG_ret') hn
include T in
theorem Ev.fin (hn : Ev P main R D Stop (G { b.at a [] with mode := .returning } cs) w) : Ev P main R D Stop (G (b.at a []) cs) w := .ctl T rfl (fun _ => stepG_end) hn

section
variable {ops : Array Oper} {i : Nat} {rest : List Nat} {o : Oper}
include T in
theorem Ev.unwanted (ho : ops[i]? = some o) (hw : Region.wanted o (yielded ops a.tmps) = false) (hn : Ev P main R D Stop (G (b.at (a.put o.dst undef) (.inRegion ops rest :: k)) cs) w) :
    Ev P main R D Stop (G (b.at a (.inRegion ops (i :: rest) :: k)) cs) w := .ctl T rfl (fun _ => stepG_unwanted ho hw) hn
include T in
/-- An operation that touches no memory. -/
theorem Ev.op {v : Value} (ho : ops[i]? = some o) (hw : Region.wanted o (yielded ops a.tmps) = true) (hk : b.kind ≠ .early) (hr : ∀ w, (execOp a.eval o).run P w = .ok (.value v) w) (he : ∀ w, (execOp a.eval o).events P w #[] = #[])
    (hn : Ev P main R D Stop (G (b.at (a.put o.dst v) (.inRegion ops rest :: k)) cs) w) : Ev P main R D Stop (G (b.at a (.inRegion ops (i :: rest) :: k)) cs) w :=
  .ctl T rfl (fun w => by rw [stepG_value ho hw hk (hr w)]; unfold listed; rw [he w, seen_none]) hn
include T in
/-- An operation that reads what stands still. -/
theorem Ev.load {v : Value} (ho : ops[i]? = some o) (hw : Region.wanted o (yielded ops a.tmps) = true) (hk : b.kind ≠ .early) (hr : ∀ w₁, R w w₁ → (execOp a.eval o).run P w₁ = .ok (.value v) w₁ ∧ D w₁ w₁ (listed P b.fn a o w₁))
    (hn : Ev P main R D Stop (G (b.at (a.put o.dst v) (.inRegion ops rest :: k)) cs) w) : Ev P main R D Stop (G (b.at a (.inRegion ops (i :: rest) :: k)) cs) w :=
  .go rfl fun w₁ h₁ => by rw [stepG_value ho hw hk (hr w₁ h₁).1]; exact ⟨(hr w₁ h₁).2, hn.rely T.trans h₁⟩
/-- An operation that turns memory and yields a value. -/
theorem Ev.make (ho : ops[i]? = some o) (hw : Region.wanted o (yielded ops a.tmps) = true) (hk : b.kind ≠ .early)
    (hr : ∀ w₁, R w w₁ → ∃ v w', (execOp a.eval o).run P w₁ = .ok (.value v) w' ∧ D w₁ w' (listed P b.fn a o w₁) ∧ Ev P main R D Stop (G (b.at (a.put o.dst v) (.inRegion ops rest :: k)) cs) w') : Ev P main R D Stop (G (b.at a (.inRegion ops (i :: rest) :: k)) cs) w :=
  .go rfl fun w₁ h₁ => by
    obtain ⟨v, w', h1, h2, h3⟩ := hr w₁ h₁
    rw [stepG_value ho hw hk h1]
    exact ⟨h2, h3⟩
/-- An operation that turns memory and yields nothing. -/
theorem Ev.store (ho : ops[i]? = some o) (hw : Region.wanted o (yielded ops a.tmps) = true) (hk : b.kind ≠ .early)
    (hr : ∀ w₁, R w w₁ → ∃ w', (execOp a.eval o).run P w₁ = .ok .skip w' ∧ D w₁ w' (listed P b.fn a o w₁) ∧ Ev P main R D Stop (G (b.at (a.put o.dst undef) (.inRegion ops rest :: k)) cs) w') : Ev P main R D Stop (G (b.at a (.inRegion ops (i :: rest) :: k)) cs) w :=
  .go rfl fun w₁ h₁ => by
    obtain ⟨w', h1, h2, h3⟩ := hr w₁ h₁
    rw [stepG_none ho hw hk h1]
    exact ⟨h2, h3⟩
include T in
/-- An operation that leaves memory as it is. -/
theorem Ev.still (ho : ops[i]? = some o) (hw : Region.wanted o (yielded ops a.tmps) = true) (hk : b.kind ≠ .early)
    (h : ∀ w₁, R w w₁ → ∀ K' : Act → World → Prop, (∀ a', D w₁ w₁ (listed P b.fn a o w₁) → Ev P main R D Stop (G (b.at a' (.inRegion ops rest :: k)) cs) w → K' a' w₁) → uponK o a K' ((execOp a.eval o).run P w₁)) :
    Ev P main R D Stop (G (b.at a (.inRegion ops (i :: rest) :: k)) cs) w :=
  .go rfl fun w₁ h₁ => goes_oper_k ho hw hk fun K' hK' => h w₁ h₁ K' fun a' hd he => hK' a' w₁ ⟨hd, he.rely T.trans h₁⟩
/-- An operation that turns memory. -/
theorem Ev.turn (ho : ops[i]? = some o) (hw : Region.wanted o (yielded ops a.tmps) = true) (hk : b.kind ≠ .early)
    (h : ∀ w₁, R w w₁ → ∀ K' : Act → World → Prop, (∀ a' w', D w₁ w' (listed P b.fn a o w₁) → Ev P main R D Stop (G (b.at a' (.inRegion ops rest :: k)) cs) w' → K' a' w') → uponK o a K' ((execOp a.eval o).run P w₁)) :
    Ev P main R D Stop (G (b.at a (.inRegion ops (i :: rest) :: k)) cs) w :=
  .go rfl fun w₁ h₁ => goes_oper_k ho hw hk fun K' hK' => h w₁ h₁ K' fun a' w' hd he => hK' a' w' ⟨hd, he⟩
include T in
/-- A call of a function by its number. -/
theorem Ev.call {f : FuncId} {fn : Func} {c : Code} {args : Array Operand} {ats : Array TypeId} (ho : ops[i]? = some o) (hw : Region.wanted o (yielded ops a.tmps) = true) (hk : b.kind ≠ .early) (hop : o.op = .call { callee := .value (.func f), args, argTypes := ats })
    (hf : P.funcs[f]? = some fn) (hname : (fn.name == "runtime.NumGoroutine") = false) (hb : fn.body = some c)
    (hn : Ev P main R D Stop (G ((base f).at { tmps := args.map a.eval ++ Array.replicate (fn.ntmps - (args.map a.eval).size) undef, defers := [] } [.code c]) (b.at a (.inRegion ops (i :: rest) :: k) :: cs)) w) :
    Ev P main R D Stop (G (b.at a (.inRegion ops (i :: rest) :: k)) cs) w :=
  .go rfl fun w₁ h₁ => goes_call ho hw hk hop hf hname hb ⟨T.idle _, hn.rely T.trans h₁⟩
include T in
/-- A call of a function value. -/
theorem Ev.callv {f : FuncId} {fn : Func} {c : Code} {vs : Array Value} (ho : ops[i]? = some o) (hw : Region.wanted o (yielded ops a.tmps) = true) (hk : b.kind ≠ .early) (hr : ∀ w, (execOp a.eval o).run P w = .ok (.enter f vs) w) (he : ∀ w, (execOp a.eval o).events P w #[] = #[])
    (hf : P.funcs[f]? = some fn) (hb : fn.body = some c) (hn : Ev P main R D Stop (G ((base f).at { tmps := vs ++ Array.replicate (fn.ntmps - vs.size) undef, defers := [] } [.code c]) (b.at a (.inRegion ops (i :: rest) :: k) :: cs)) w) :
    Ev P main R D Stop (G (b.at a (.inRegion ops (i :: rest) :: k)) cs) w :=
  .ctl T rfl (fun w => by rw [stepG_enter ho hw hk (hr w), enter_at _ hf hb]; unfold listed; rw [he w, seen_none]) hn

variable {fn : Func} {todo : List Item} {b₀ : Frame} {a₀ : Act}
include T in
theorem Ev.leave1 {t : Tmp} (hn : b.kind = .normal) (hd : a.defers = []) (hf : P.funcs[b.fn]? = some fn) (hr : fn.results = #[.tmp t])
    (h : Ev P main R D Stop (G (b₀.at (a₀.put ((ops[i]?).bind (·.dst)) (a.tmps.getD t undef)) (.inRegion ops rest :: k)) cs) w) :
    Ev P main R D Stop (G { b.at a todo with mode := .returning } (b₀.at a₀ (.inRegion ops (i :: rest) :: k) :: cs)) w :=
  .go rfl fun w₁ h₁ => goes_leave1 hn hd hf hr ⟨T.idle _, h.rely T.trans h₁⟩
include T in
theorem Ev.leave0 (hn : b.kind = .normal) (hd : a.defers = []) (hf : P.funcs[b.fn]? = some fn) (hr : fn.results = #[])
    (h : Ev P main R D Stop (G (b₀.at (a₀.put ((ops[i]?).bind (·.dst)) (.tuple #[])) (.inRegion ops rest :: k)) cs) w) :
    Ev P main R D Stop (G { b.at a todo with mode := .returning } (b₀.at a₀ (.inRegion ops (i :: rest) :: k) :: cs)) w :=
  .go rfl fun w₁ h₁ => goes_leave0 hn hd hf hr ⟨T.idle _, h.rely T.trans h₁⟩
include T in
theorem Ev.leave2 {t u : Tmp} (hn : b.kind = .normal) (hd : a.defers = []) (hf : P.funcs[b.fn]? = some fn) (hr : fn.results = #[.tmp t, .tmp u])
    (h : Ev P main R D Stop (G (b₀.at (a₀.put ((ops[i]?).bind (·.dst)) (.tuple #[a.tmps.getD t undef, a.tmps.getD u undef])) (.inRegion ops rest :: k)) cs) w) :
    Ev P main R D Stop (G { b.at a todo with mode := .returning } (b₀.at a₀ (.inRegion ops (i :: rest) :: k) :: cs)) w :=
  .go rfl fun w₁ h₁ => goes_leave2 hn hd hf hr ⟨T.idle _, h.rely T.trans h₁⟩
end
end

theorem step_comm {P : Program} {main : Bool} {b : Frame} {a : Act} {k : List Item} {cs : List Frame} {ops : Array Oper} {i : Nat} {rest : List Nat} {o : Oper} {cases : Array CommCase} {blocking : Bool} {shape : CommShape} (ho : ops[i]? = some o) (hw : Region.wanted o (yielded ops a.tmps) = true) (hk : b.kind ≠ .early)
    (hr : ∀ w, (execOp a.eval o).run P w = .ok (.comm cases blocking shape) w) (he : ∀ w, (execOp a.eval o).events P w #[] = #[]) (w : World) :
    stepG P main (G (b.at a (.inRegion ops (i :: rest) :: k)) cs) w = .comm (core (G (b.at a (.inRegion ops (i :: rest) :: k)) cs)) cases blocking shape w #[] := by
  rw [stepG_comm ho hw hk (hr w)]
  unfold listed
  rw [he w, seen_none]
  rfl
theorem served_core (fr : Frame) (cs : List Frame) (v : Value) : Conc.served (core (G fr cs)) v = G (fr.finish v) cs := rfl
theorem res_poll (c : Nat) (z v : Value) : commResult #[rcase c z] .select ((0 : Nat) : Int) v false = .tuple #[goInt 0, .bool false, v] := by
  simp [commResult, rcase, List.zipIdx_cons]
theorem res_none (c : Nat) (z v : Value) : commResult #[rcase c z] .select (-1) v false = .tuple #[goInt (-1), .bool false, z] := by
  simp [commResult, rcase, List.zipIdx_cons]
theorem res_put (c c' : Nat) (u z z' v : Value) : commResult #[scase c u z, rcase c' z'] .select ((0 : Nat) : Int) v false = .tuple #[goInt 0, .bool false, z'] := by
  simp [commResult, rcase, scase, List.zipIdx_cons]
theorem res_stop (c c' : Nat) (u z z' v : Value) : commResult #[scase c u z, rcase c' z'] .select ((1 : Nat) : Int) v false = .tuple #[goInt 1, .bool false, v] := by
  simp [commResult, rcase, scase, List.zipIdx_cons]
#print axioms Ev.callv
end Go.Pmp
