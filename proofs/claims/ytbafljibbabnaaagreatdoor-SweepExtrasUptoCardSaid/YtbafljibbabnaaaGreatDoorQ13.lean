/- Texts of ours, joined: GsK, Run, RunU, RunV, Dig2, Pfx, CChar. -/
import Derived.RangeFuncNested
import Derived.RangeFuncBound
import Derived.RangeFuncCalls
import Derived.RangeFuncLeaves
import Derived.RangeFuncBox
import Derived.Shelf.Abstract
import Derived.Shelf.RegionOpen
import Derived.OwnWalkIn
import Derived.TacticsInMore
import Derived.LoopNIn
import Derived.LoopIn
import Derived.Test.YtbafljibbabnaaaGreatDoorQ12
namespace Go.Proofs.YtbafljibbabnaaaGreatDoor
open Go.ChangeShapes Go.WideShapes Go.ChangeAt Go.RowKit
set_option linter.unusedVariables false
set_option maxRecDepth 100000
set_option maxHeartbeats 32000000
def zeroZ:Nat × Nat × Nat:=(0,0,0)
theorem zeros_flat (n:Nat):(List.replicate n zeroZ).flatMap cZ=List.replicate (n*3) (.int .i64 0):=by
 induction n with
 |zero=>rfl
 |succ n ih =>
  rw[List.replicate_succ,List.flatMap_cons,ih,show(n+1)*3=n*3+1+1+1 by omega,List.replicate_succ,List.replicate_succ,List.replicate_succ]
  rfl
theorem made3 (k:Nat)(x:Value):madeCells #[x,x,x] k=(List.replicate k x).toArray:=by
 apply Array.ext
 · simp[madeCells]
 · intro i h1 h2
   have h3:i % 3<3:=Nat.mod_lt _ (by decide)
   simp only[madeCells,Array.getElem_map,Array.getElem_range,List.getElem_toArray,List.getElem_replicate]
   rcases(show i % 3=0∨i % 3=1∨i % 3=2 by omega)with h|h|h <;> simp[h]
theorem mk_size (w:World)(n:Nat)(hn:n≤100000):(Instr.makeSlice 72 (.int .i64 (n:Int)) (.int .i64 (n:Int))).run Tryz.prog w= .ok (.slice (some ⟨w.heap.size,0,none⟩) n n) (w.alloc (.cells ((List.replicate n zeroZ).flatMap cZ).toArray 37)):=by
 have h:(Tryz.prog.info? 37).map (fun i=>(i.zero,i.size,i.bytes))=some (some (.agg #[.int .i64 0,.int .i64 0,.int .i64 0]),3,24):=by kernel_rfl
 obtain⟨i,h1,h2,h3,h4⟩:=info_parts h
 have:=run_make (P:=Tryz.prog) w 72 37 i (.agg #[.int .i64 0,.int .i64 0,.int .i64 0]) Tryz.underlying72 h1 h2 .i64 .i64 (n:Int) (n:Int) (by omega) (by omega) (by rw[h4];omega) (by omega)
 rw[h3,Int.toNat_natCast,show(Value.agg #[.int .i64 0,.int .i64 0,.int .i64 0]).cells= #[.int .i64 0,.int .i64 0,.int .i64 0] from rfl,made3,← zeros_flat]at this
 exact this
def ZJ (Z:Nat)(zs:List (Nat × Nat × Nat))(w W:World):Prop:=Below Z w W∧W.heap[Z]? =some (.cells (zs.flatMap cZ).toArray 37 (0,0))
theorem ZJ.kept {Z:Nat}{zs:List (Nat × Nat × Nat)}{w W W':World}(h:ZJ Z zs w W)(hb:Below W.heap.size W W'):ZJ Z zs w W':=⟨h.1.trans (hb.mono (Nat.le_of_lt (lt_of h.2))),(hb.block _ (lt_of h.2)).trans h.2⟩
theorem ZJ.row {Z n:Nat}{zs:List (Nat × Nat × Nat)}{w W:World}(h:ZJ Z zs w W)(hn:zs.length=n)(hm:n≤100000):RRd cZ 3 W W.heap.size (some ⟨Z,0,none⟩) n n zs :=
 ⟨hn,Nat.le_refl _,by unfold maxLen;omega,(fun e=>by cases e),fun _=>⟨Z,0,rfl,lt_of h.2,fun i x hx j u hu=>by
   have h1:=flat_get (c:=cZ) (k:=3) (fun _=>rfl) zs i x hx j u hu
   rw[cell_of _ h.2,Nat.zero_add,List.getElem?_toArray]
   exact h1⟩⟩
theorem flat_set3: ∀ (zs:List (Nat × Nat × Nat)) (k:Nat) (z:Nat × Nat × Nat),k<zs.length→(((zs.flatMap cZ).set (k*3) (.int .i64 (z.1:Nat))).set (k*3+1) (.int .i64 (z.2.1:Nat))).set (k*3+2) (.int .i64 (z.2.2:Nat))=(zs.set k z).flatMap cZ
 | [],k,z,h=>by simp at h
 |y :: zs,0,z,h=>by simp[cZ]
 |y :: zs,k+1,z,h=>by
  have ih:=flat_set3 zs k z (by simpa using h)
  rw[List.flatMap_cons,List.set_cons_succ,List.flatMap_cons,← ih]
  have e:(k+1)*3=k*3+1+1+1:=by omega
  rw[e]
  simp only[cZ,List.cons_append,List.nil_append,List.set_cons_succ]
theorem ZJ.put {Z k:Nat}{zs:List (Nat × Nat × Nat)}{w W:World}(h:ZJ Z zs w W)(hk:k<zs.length)(a b c:Nat):ZJ Z (zs.set k (a,b,c)) w (((W.setCell ⟨Z,k*3,none⟩ (.int .i64 (a:Nat))).setCell ⟨Z,k*3+1,none⟩ (.int .i64 (b:Nat))).setCell ⟨Z,k*3+2,none⟩ (.int .i64 (c:Nat))):=by
 refine⟨((h.1.setCell (p:=⟨Z,_,none⟩) (Nat.le_refl _) _).setCell (p:=⟨Z,_,none⟩) (Nat.le_refl _) _).setCell (p:=⟨Z,_,none⟩) (Nat.le_refl _) _,?_⟩
 rw[hp_set (hp_set (hp_set h.2)),List.setIfInBounds_toArray,List.setIfInBounds_toArray,List.setIfInBounds_toArray]
 rw[← flat_set3 zs k (a,b,c) hk]
theorem ZJ.cells {Z k:Nat}{zs:List (Nat × Nat × Nat)}{w W:World}(h:ZJ Z zs w W)(hk:k<zs.length): ∃ a b c:Nat,W.cell? ⟨Z,k*3,none⟩=some (.int .i64 (a:Nat))∧W.cell? ⟨Z,k*3+1,none⟩=some (.int .i64 (b:Nat))∧W.cell? ⟨Z,k*3+2,none⟩=some (.int .i64 (c:Nat)):=by
 have hx:=List.getElem?_eq_getElem hk
 have h1:=fun j u hu=>flat_get (c:=cZ) (k:=3) (fun _=>rfl) zs k _ hx j u hu
 refine⟨zs[k].1,zs[k].2.1,zs[k].2.2,?_,?_,?_⟩
 · rw[cell_of _ h.2,List.getElem?_toArray];have:=h1 0 _ rfl;simpa using this
 · rw[cell_of _ h.2,List.getElem?_toArray];have:=h1 1 _ rfl;simpa using this
 · rw[cell_of _ h.2,List.getElem?_toArray];have:=h1 2 _ rfl;simpa using this
def iv (r:Nat):Value:= .int .i64 (r:Int)
attribute [local go_sem] Oper.semAt_some
def KpB (S Bn:Nat)(W W':World):Prop:=Below S W W'∧W'.heap[Bn]? =W.heap[Bn]?
theorem KpB.trans {S Bn:Nat}{X Y Z:World}(h:KpB S Bn X Y)(k:KpB S Bn Y Z):KpB S Bn X Z:=⟨h.1.trans k.1,k.2.trans h.2⟩
attribute [local go_sem] Oper.semAt_some
theorem refDigit10_c (r:Int)(w:World):Calls Tryz.prog 62 #[.int .i64 r,.int .i64 10] w fun e w'=>e= .returned (.int .i64 (digit 10 r))∧w=w':=by
 have HDG:Hid (∀ i:Int,0≤i→i<10→(digit 10 r=i ↔ ((i≤9∧r=i+48)∨(10≤i∧(r=i+87∨r=i+55))))):=Hd (by
  intro i h0 h1
  unfold digit
  constructor
  · intro h
    (repeat' split at h) <;> omega
  · intro h
    (repeat' split) <;> omega)
 have HLT:Hid (digit 10 r<10∧ -1≤digit 10 r):=Hd (by unfold digit;(repeat' split) <;> omega)
 go_enter Tryz.func62,Tryz.ntmps62
 go_wp2
 go_loopg [7] 10 (fun kx s7 wr=> ∃ (i:Nat),s7= .int .i64 i∧i≤10∧kx=10 - i∧Hid (digit 10 r<0∨(i:Int)≤digit 10 r)∧w=wr)
 case atStart=>exact⟨0,rfl,Nat.zero_le _,rfl,Hd (by omega),rfl⟩
 case round =>
  obtain⟨i,rfl,hi,hk,HI,rfl⟩:=hrel
  rcases(show i=0∨i=1∨i=2∨i=3∨i=4∨i=5∨i=6∨i=7∨i=8∨i=9∨i=10 by omega)with rfl|rfl|rfl|rfl|rfl|rfl|rfl|rfl|rfl|rfl|rfl
  · have xs:(⟨#[48,49,50,51,52,53,54,55,56,57,97,98,99,100,101,102]⟩:ByteArray)[0].toNat=48:=rfl
    have xt:(⟨#[48,49,50,51,52,53,54,55,56,57,65,66,67,68,69,70]⟩:ByteArray)[0].toNat=48:=rfl
    by_cases h1:r=48
    · have hd:Hid (digit 10 r=0):=Hd ((HDG.out 0 (by omega) (by omega)).2 (by omega))
      have a1:((48:Int)==r)=true:=by simp;omega
      clear h1
      go_wp2
      go_ret
      exact⟨by rw[hd.out];rfl,rfl⟩
    · have hn:Hid (digit 10 r<0∨((0+1:Nat):Int)≤digit 10 r):=Hd (by
       have:=mt (HDG.out 0 (by omega) (by omega)).1 (by omega)
       have:=HI.out
       omega)
      have a1:((48:Int)==r)=false:=by simp;omega
      clear h1
      go_wp2
      go_roundg (10 - (0+1))
      case measure=>omega
      case rel=>exact⟨0+1,rfl,by omega,rfl,hn,rfl⟩
  · have xs:(⟨#[48,49,50,51,52,53,54,55,56,57,97,98,99,100,101,102]⟩:ByteArray)[1].toNat=49:=rfl
    have xt:(⟨#[48,49,50,51,52,53,54,55,56,57,65,66,67,68,69,70]⟩:ByteArray)[1].toNat=49:=rfl
    by_cases h1:r=49
    · have hd:Hid (digit 10 r=1):=Hd ((HDG.out 1 (by omega) (by omega)).2 (by omega))
      have a1:((49:Int)==r)=true:=by simp;omega
      clear h1
      go_wp2
      go_ret
      exact⟨by rw[hd.out];rfl,rfl⟩
    · have hn:Hid (digit 10 r<0∨((1+1:Nat):Int)≤digit 10 r):=Hd (by
       have:=mt (HDG.out 1 (by omega) (by omega)).1 (by omega)
       have:=HI.out
       omega)
      have a1:((49:Int)==r)=false:=by simp;omega
      clear h1
      go_wp2
      go_roundg (10 - (1+1))
      case measure=>omega
      case rel=>exact⟨1+1,rfl,by omega,rfl,hn,rfl⟩
  · have xs:(⟨#[48,49,50,51,52,53,54,55,56,57,97,98,99,100,101,102]⟩:ByteArray)[2].toNat=50:=rfl
    have xt:(⟨#[48,49,50,51,52,53,54,55,56,57,65,66,67,68,69,70]⟩:ByteArray)[2].toNat=50:=rfl
    by_cases h1:r=50
    · have hd:Hid (digit 10 r=2):=Hd ((HDG.out 2 (by omega) (by omega)).2 (by omega))
      have a1:((50:Int)==r)=true:=by simp;omega
      clear h1
      go_wp2
      go_ret
      exact⟨by rw[hd.out];rfl,rfl⟩
    · have hn:Hid (digit 10 r<0∨((2+1:Nat):Int)≤digit 10 r):=Hd (by
       have:=mt (HDG.out 2 (by omega) (by omega)).1 (by omega)
       have:=HI.out
       omega)
      have a1:((50:Int)==r)=false:=by simp;omega
      clear h1
      go_wp2
      go_roundg (10 - (2+1))
      case measure=>omega
      case rel=>exact⟨2+1,rfl,by omega,rfl,hn,rfl⟩
  · have xs:(⟨#[48,49,50,51,52,53,54,55,56,57,97,98,99,100,101,102]⟩:ByteArray)[3].toNat=51:=rfl
    have xt:(⟨#[48,49,50,51,52,53,54,55,56,57,65,66,67,68,69,70]⟩:ByteArray)[3].toNat=51:=rfl
    by_cases h1:r=51
    · have hd:Hid (digit 10 r=3):=Hd ((HDG.out 3 (by omega) (by omega)).2 (by omega))
      have a1:((51:Int)==r)=true:=by simp;omega
      clear h1
      go_wp2
      go_ret
      exact⟨by rw[hd.out];rfl,rfl⟩
    · have hn:Hid (digit 10 r<0∨((3+1:Nat):Int)≤digit 10 r):=Hd (by
       have:=mt (HDG.out 3 (by omega) (by omega)).1 (by omega)
       have:=HI.out
       omega)
      have a1:((51:Int)==r)=false:=by simp;omega
      clear h1
      go_wp2
      go_roundg (10 - (3+1))
      case measure=>omega
      case rel=>exact⟨3+1,rfl,by omega,rfl,hn,rfl⟩
  · have xs:(⟨#[48,49,50,51,52,53,54,55,56,57,97,98,99,100,101,102]⟩:ByteArray)[4].toNat=52:=rfl
    have xt:(⟨#[48,49,50,51,52,53,54,55,56,57,65,66,67,68,69,70]⟩:ByteArray)[4].toNat=52:=rfl
    by_cases h1:r=52
    · have hd:Hid (digit 10 r=4):=Hd ((HDG.out 4 (by omega) (by omega)).2 (by omega))
      have a1:((52:Int)==r)=true:=by simp;omega
      clear h1
      go_wp2
      go_ret
      exact⟨by rw[hd.out];rfl,rfl⟩
    · have hn:Hid (digit 10 r<0∨((4+1:Nat):Int)≤digit 10 r):=Hd (by
       have:=mt (HDG.out 4 (by omega) (by omega)).1 (by omega)
       have:=HI.out
       omega)
      have a1:((52:Int)==r)=false:=by simp;omega
      clear h1
      go_wp2
      go_roundg (10 - (4+1))
      case measure=>omega
      case rel=>exact⟨4+1,rfl,by omega,rfl,hn,rfl⟩
  · have xs:(⟨#[48,49,50,51,52,53,54,55,56,57,97,98,99,100,101,102]⟩:ByteArray)[5].toNat=53:=rfl
    have xt:(⟨#[48,49,50,51,52,53,54,55,56,57,65,66,67,68,69,70]⟩:ByteArray)[5].toNat=53:=rfl
    by_cases h1:r=53
    · have hd:Hid (digit 10 r=5):=Hd ((HDG.out 5 (by omega) (by omega)).2 (by omega))
      have a1:((53:Int)==r)=true:=by simp;omega
      clear h1
      go_wp2
      go_ret
      exact⟨by rw[hd.out];rfl,rfl⟩
    · have hn:Hid (digit 10 r<0∨((5+1:Nat):Int)≤digit 10 r):=Hd (by
       have:=mt (HDG.out 5 (by omega) (by omega)).1 (by omega)
       have:=HI.out
       omega)
      have a1:((53:Int)==r)=false:=by simp;omega
      clear h1
      go_wp2
      go_roundg (10 - (5+1))
      case measure=>omega
      case rel=>exact⟨5+1,rfl,by omega,rfl,hn,rfl⟩
  · have xs:(⟨#[48,49,50,51,52,53,54,55,56,57,97,98,99,100,101,102]⟩:ByteArray)[6].toNat=54:=rfl
    have xt:(⟨#[48,49,50,51,52,53,54,55,56,57,65,66,67,68,69,70]⟩:ByteArray)[6].toNat=54:=rfl
    by_cases h1:r=54
    · have hd:Hid (digit 10 r=6):=Hd ((HDG.out 6 (by omega) (by omega)).2 (by omega))
      have a1:((54:Int)==r)=true:=by simp;omega
      clear h1
      go_wp2
      go_ret
      exact⟨by rw[hd.out];rfl,rfl⟩
    · have hn:Hid (digit 10 r<0∨((6+1:Nat):Int)≤digit 10 r):=Hd (by
       have:=mt (HDG.out 6 (by omega) (by omega)).1 (by omega)
       have:=HI.out
       omega)
      have a1:((54:Int)==r)=false:=by simp;omega
      clear h1
      go_wp2
      go_roundg (10 - (6+1))
      case measure=>omega
      case rel=>exact⟨6+1,rfl,by omega,rfl,hn,rfl⟩
  · have xs:(⟨#[48,49,50,51,52,53,54,55,56,57,97,98,99,100,101,102]⟩:ByteArray)[7].toNat=55:=rfl
    have xt:(⟨#[48,49,50,51,52,53,54,55,56,57,65,66,67,68,69,70]⟩:ByteArray)[7].toNat=55:=rfl
    by_cases h1:r=55
    · have hd:Hid (digit 10 r=7):=Hd ((HDG.out 7 (by omega) (by omega)).2 (by omega))
      have a1:((55:Int)==r)=true:=by simp;omega
      clear h1
      go_wp2
      go_ret
      exact⟨by rw[hd.out];rfl,rfl⟩
    · have hn:Hid (digit 10 r<0∨((7+1:Nat):Int)≤digit 10 r):=Hd (by
       have:=mt (HDG.out 7 (by omega) (by omega)).1 (by omega)
       have:=HI.out
       omega)
      have a1:((55:Int)==r)=false:=by simp;omega
      clear h1
      go_wp2
      go_roundg (10 - (7+1))
      case measure=>omega
      case rel=>exact⟨7+1,rfl,by omega,rfl,hn,rfl⟩
  · have xs:(⟨#[48,49,50,51,52,53,54,55,56,57,97,98,99,100,101,102]⟩:ByteArray)[8].toNat=56:=rfl
    have xt:(⟨#[48,49,50,51,52,53,54,55,56,57,65,66,67,68,69,70]⟩:ByteArray)[8].toNat=56:=rfl
    by_cases h1:r=56
    · have hd:Hid (digit 10 r=8):=Hd ((HDG.out 8 (by omega) (by omega)).2 (by omega))
      have a1:((56:Int)==r)=true:=by simp;omega
      clear h1
      go_wp2
      go_ret
      exact⟨by rw[hd.out];rfl,rfl⟩
    · have hn:Hid (digit 10 r<0∨((8+1:Nat):Int)≤digit 10 r):=Hd (by
       have:=mt (HDG.out 8 (by omega) (by omega)).1 (by omega)
       have:=HI.out
       omega)
      have a1:((56:Int)==r)=false:=by simp;omega
      clear h1
      go_wp2
      go_roundg (10 - (8+1))
      case measure=>omega
      case rel=>exact⟨8+1,rfl,by omega,rfl,hn,rfl⟩
  · have xs:(⟨#[48,49,50,51,52,53,54,55,56,57,97,98,99,100,101,102]⟩:ByteArray)[9].toNat=57:=rfl
    have xt:(⟨#[48,49,50,51,52,53,54,55,56,57,65,66,67,68,69,70]⟩:ByteArray)[9].toNat=57:=rfl
    by_cases h1:r=57
    · have hd:Hid (digit 10 r=9):=Hd ((HDG.out 9 (by omega) (by omega)).2 (by omega))
      have a1:((57:Int)==r)=true:=by simp;omega
      clear h1
      go_wp2
      go_ret
      exact⟨by rw[hd.out];rfl,rfl⟩
    · have hn:Hid (digit 10 r<0∨((9+1:Nat):Int)≤digit 10 r):=Hd (by
       have:=mt (HDG.out 9 (by omega) (by omega)).1 (by omega)
       have:=HI.out
       omega)
      have a1:((57:Int)==r)=false:=by simp;omega
      clear h1
      go_wp2
      go_roundg (10 - (9+1))
      case measure=>omega
      case rel=>exact⟨9+1,rfl,by omega,rfl,hn,rfl⟩
  · have hd:Hid (digit 10 r= -1):=Hd (by have:=HI.out;have:=HLT.out;omega)
    go_wp2
    go_ret
    exact⟨by rw[hd.out];rfl,rfl⟩
theorem refDigit16_c (r:Int)(w:World):Calls Tryz.prog 62 #[.int .i64 r,.int .i64 16] w fun e w'=>e= .returned (.int .i64 (digit 16 r))∧w=w':=by
 have HDG:Hid (∀ i:Int,0≤i→i<16→(digit 16 r=i ↔ ((i≤9∧r=i+48)∨(10≤i∧(r=i+87∨r=i+55))))):=Hd (by
  intro i h0 h1
  unfold digit
  constructor
  · intro h
    (repeat' split at h) <;> omega
  · intro h
    (repeat' split) <;> omega)
 have HLT:Hid (digit 16 r<16∧ -1≤digit 16 r):=Hd (by unfold digit;(repeat' split) <;> omega)
 go_enter Tryz.func62,Tryz.ntmps62
 go_wp2
 go_loopg [7] 16 (fun kx s7 wr=> ∃ (i:Nat),s7= .int .i64 i∧i≤16∧kx=16 - i∧Hid (digit 16 r<0∨(i:Int)≤digit 16 r)∧w=wr)
 case atStart=>exact⟨0,rfl,Nat.zero_le _,rfl,Hd (by omega),rfl⟩
 case round =>
  obtain⟨i,rfl,hi,hk,HI,rfl⟩:=hrel
  rcases(show i=0∨i=1∨i=2∨i=3∨i=4∨i=5∨i=6∨i=7∨i=8∨i=9∨i=10∨i=11∨i=12∨i=13∨i=14∨i=15∨i=16 by omega)with rfl|rfl|rfl|rfl|rfl|rfl|rfl|rfl|rfl|rfl|rfl|rfl|rfl|rfl|rfl|rfl|rfl
  · have xs:(⟨#[48,49,50,51,52,53,54,55,56,57,97,98,99,100,101,102]⟩:ByteArray)[0].toNat=48:=rfl
    have xt:(⟨#[48,49,50,51,52,53,54,55,56,57,65,66,67,68,69,70]⟩:ByteArray)[0].toNat=48:=rfl
    by_cases h1:r=48
    · have hd:Hid (digit 16 r=0):=Hd ((HDG.out 0 (by omega) (by omega)).2 (by omega))
      have a1:((48:Int)==r)=true:=by simp;omega
      clear h1
      go_wp2
      go_ret
      exact⟨by rw[hd.out];rfl,rfl⟩
    · have hn:Hid (digit 16 r<0∨((0+1:Nat):Int)≤digit 16 r):=Hd (by
       have:=mt (HDG.out 0 (by omega) (by omega)).1 (by omega)
       have:=HI.out
       omega)
      have a1:((48:Int)==r)=false:=by simp;omega
      clear h1
      go_wp2
      go_roundg (16 - (0+1))
      case measure=>omega
      case rel=>exact⟨0+1,rfl,by omega,rfl,hn,rfl⟩
  · have xs:(⟨#[48,49,50,51,52,53,54,55,56,57,97,98,99,100,101,102]⟩:ByteArray)[1].toNat=49:=rfl
    have xt:(⟨#[48,49,50,51,52,53,54,55,56,57,65,66,67,68,69,70]⟩:ByteArray)[1].toNat=49:=rfl
    by_cases h1:r=49
    · have hd:Hid (digit 16 r=1):=Hd ((HDG.out 1 (by omega) (by omega)).2 (by omega))
      have a1:((49:Int)==r)=true:=by simp;omega
      clear h1
      go_wp2
      go_ret
      exact⟨by rw[hd.out];rfl,rfl⟩
    · have hn:Hid (digit 16 r<0∨((1+1:Nat):Int)≤digit 16 r):=Hd (by
       have:=mt (HDG.out 1 (by omega) (by omega)).1 (by omega)
       have:=HI.out
       omega)
      have a1:((49:Int)==r)=false:=by simp;omega
      clear h1
      go_wp2
      go_roundg (16 - (1+1))
      case measure=>omega
      case rel=>exact⟨1+1,rfl,by omega,rfl,hn,rfl⟩
  · have xs:(⟨#[48,49,50,51,52,53,54,55,56,57,97,98,99,100,101,102]⟩:ByteArray)[2].toNat=50:=rfl
    have xt:(⟨#[48,49,50,51,52,53,54,55,56,57,65,66,67,68,69,70]⟩:ByteArray)[2].toNat=50:=rfl
    by_cases h1:r=50
    · have hd:Hid (digit 16 r=2):=Hd ((HDG.out 2 (by omega) (by omega)).2 (by omega))
      have a1:((50:Int)==r)=true:=by simp;omega
      clear h1
      go_wp2
      go_ret
      exact⟨by rw[hd.out];rfl,rfl⟩
    · have hn:Hid (digit 16 r<0∨((2+1:Nat):Int)≤digit 16 r):=Hd (by
       have:=mt (HDG.out 2 (by omega) (by omega)).1 (by omega)
       have:=HI.out
       omega)
      have a1:((50:Int)==r)=false:=by simp;omega
      clear h1
      go_wp2
      go_roundg (16 - (2+1))
      case measure=>omega
      case rel=>exact⟨2+1,rfl,by omega,rfl,hn,rfl⟩
  · have xs:(⟨#[48,49,50,51,52,53,54,55,56,57,97,98,99,100,101,102]⟩:ByteArray)[3].toNat=51:=rfl
    have xt:(⟨#[48,49,50,51,52,53,54,55,56,57,65,66,67,68,69,70]⟩:ByteArray)[3].toNat=51:=rfl
    by_cases h1:r=51
    · have hd:Hid (digit 16 r=3):=Hd ((HDG.out 3 (by omega) (by omega)).2 (by omega))
      have a1:((51:Int)==r)=true:=by simp;omega
      clear h1
      go_wp2
      go_ret
      exact⟨by rw[hd.out];rfl,rfl⟩
    · have hn:Hid (digit 16 r<0∨((3+1:Nat):Int)≤digit 16 r):=Hd (by
       have:=mt (HDG.out 3 (by omega) (by omega)).1 (by omega)
       have:=HI.out
       omega)
      have a1:((51:Int)==r)=false:=by simp;omega
      clear h1
      go_wp2
      go_roundg (16 - (3+1))
      case measure=>omega
      case rel=>exact⟨3+1,rfl,by omega,rfl,hn,rfl⟩
  · have xs:(⟨#[48,49,50,51,52,53,54,55,56,57,97,98,99,100,101,102]⟩:ByteArray)[4].toNat=52:=rfl
    have xt:(⟨#[48,49,50,51,52,53,54,55,56,57,65,66,67,68,69,70]⟩:ByteArray)[4].toNat=52:=rfl
    by_cases h1:r=52
    · have hd:Hid (digit 16 r=4):=Hd ((HDG.out 4 (by omega) (by omega)).2 (by omega))
      have a1:((52:Int)==r)=true:=by simp;omega
      clear h1
      go_wp2
      go_ret
      exact⟨by rw[hd.out];rfl,rfl⟩
    · have hn:Hid (digit 16 r<0∨((4+1:Nat):Int)≤digit 16 r):=Hd (by
       have:=mt (HDG.out 4 (by omega) (by omega)).1 (by omega)
       have:=HI.out
       omega)
      have a1:((52:Int)==r)=false:=by simp;omega
      clear h1
      go_wp2
      go_roundg (16 - (4+1))
      case measure=>omega
      case rel=>exact⟨4+1,rfl,by omega,rfl,hn,rfl⟩
  · have xs:(⟨#[48,49,50,51,52,53,54,55,56,57,97,98,99,100,101,102]⟩:ByteArray)[5].toNat=53:=rfl
    have xt:(⟨#[48,49,50,51,52,53,54,55,56,57,65,66,67,68,69,70]⟩:ByteArray)[5].toNat=53:=rfl
    by_cases h1:r=53
    · have hd:Hid (digit 16 r=5):=Hd ((HDG.out 5 (by omega) (by omega)).2 (by omega))
      have a1:((53:Int)==r)=true:=by simp;omega
      clear h1
      go_wp2
      go_ret
      exact⟨by rw[hd.out];rfl,rfl⟩
    · have hn:Hid (digit 16 r<0∨((5+1:Nat):Int)≤digit 16 r):=Hd (by
       have:=mt (HDG.out 5 (by omega) (by omega)).1 (by omega)
       have:=HI.out
       omega)
      have a1:((53:Int)==r)=false:=by simp;omega
      clear h1
      go_wp2
      go_roundg (16 - (5+1))
      case measure=>omega
      case rel=>exact⟨5+1,rfl,by omega,rfl,hn,rfl⟩
  · have xs:(⟨#[48,49,50,51,52,53,54,55,56,57,97,98,99,100,101,102]⟩:ByteArray)[6].toNat=54:=rfl
    have xt:(⟨#[48,49,50,51,52,53,54,55,56,57,65,66,67,68,69,70]⟩:ByteArray)[6].toNat=54:=rfl
    by_cases h1:r=54
    · have hd:Hid (digit 16 r=6):=Hd ((HDG.out 6 (by omega) (by omega)).2 (by omega))
      have a1:((54:Int)==r)=true:=by simp;omega
      clear h1
      go_wp2
      go_ret
      exact⟨by rw[hd.out];rfl,rfl⟩
    · have hn:Hid (digit 16 r<0∨((6+1:Nat):Int)≤digit 16 r):=Hd (by
       have:=mt (HDG.out 6 (by omega) (by omega)).1 (by omega)
       have:=HI.out
       omega)
      have a1:((54:Int)==r)=false:=by simp;omega
      clear h1
      go_wp2
      go_roundg (16 - (6+1))
      case measure=>omega
      case rel=>exact⟨6+1,rfl,by omega,rfl,hn,rfl⟩
  · have xs:(⟨#[48,49,50,51,52,53,54,55,56,57,97,98,99,100,101,102]⟩:ByteArray)[7].toNat=55:=rfl
    have xt:(⟨#[48,49,50,51,52,53,54,55,56,57,65,66,67,68,69,70]⟩:ByteArray)[7].toNat=55:=rfl
    by_cases h1:r=55
    · have hd:Hid (digit 16 r=7):=Hd ((HDG.out 7 (by omega) (by omega)).2 (by omega))
      have a1:((55:Int)==r)=true:=by simp;omega
      clear h1
      go_wp2
      go_ret
      exact⟨by rw[hd.out];rfl,rfl⟩
    · have hn:Hid (digit 16 r<0∨((7+1:Nat):Int)≤digit 16 r):=Hd (by
       have:=mt (HDG.out 7 (by omega) (by omega)).1 (by omega)
       have:=HI.out
       omega)
      have a1:((55:Int)==r)=false:=by simp;omega
      clear h1
      go_wp2
      go_roundg (16 - (7+1))
      case measure=>omega
      case rel=>exact⟨7+1,rfl,by omega,rfl,hn,rfl⟩
  · have xs:(⟨#[48,49,50,51,52,53,54,55,56,57,97,98,99,100,101,102]⟩:ByteArray)[8].toNat=56:=rfl
    have xt:(⟨#[48,49,50,51,52,53,54,55,56,57,65,66,67,68,69,70]⟩:ByteArray)[8].toNat=56:=rfl
    by_cases h1:r=56
    · have hd:Hid (digit 16 r=8):=Hd ((HDG.out 8 (by omega) (by omega)).2 (by omega))
      have a1:((56:Int)==r)=true:=by simp;omega
      clear h1
      go_wp2
      go_ret
      exact⟨by rw[hd.out];rfl,rfl⟩
    · have hn:Hid (digit 16 r<0∨((8+1:Nat):Int)≤digit 16 r):=Hd (by
       have:=mt (HDG.out 8 (by omega) (by omega)).1 (by omega)
       have:=HI.out
       omega)
      have a1:((56:Int)==r)=false:=by simp;omega
      clear h1
      go_wp2
      go_roundg (16 - (8+1))
      case measure=>omega
      case rel=>exact⟨8+1,rfl,by omega,rfl,hn,rfl⟩
  · have xs:(⟨#[48,49,50,51,52,53,54,55,56,57,97,98,99,100,101,102]⟩:ByteArray)[9].toNat=57:=rfl
    have xt:(⟨#[48,49,50,51,52,53,54,55,56,57,65,66,67,68,69,70]⟩:ByteArray)[9].toNat=57:=rfl
    by_cases h1:r=57
    · have hd:Hid (digit 16 r=9):=Hd ((HDG.out 9 (by omega) (by omega)).2 (by omega))
      have a1:((57:Int)==r)=true:=by simp;omega
      clear h1
      go_wp2
      go_ret
      exact⟨by rw[hd.out];rfl,rfl⟩
    · have hn:Hid (digit 16 r<0∨((9+1:Nat):Int)≤digit 16 r):=Hd (by
       have:=mt (HDG.out 9 (by omega) (by omega)).1 (by omega)
       have:=HI.out
       omega)
      have a1:((57:Int)==r)=false:=by simp;omega
      clear h1
      go_wp2
      go_roundg (16 - (9+1))
      case measure=>omega
      case rel=>exact⟨9+1,rfl,by omega,rfl,hn,rfl⟩
  · have xs:(⟨#[48,49,50,51,52,53,54,55,56,57,97,98,99,100,101,102]⟩:ByteArray)[10].toNat=97:=rfl
    have xt:(⟨#[48,49,50,51,52,53,54,55,56,57,65,66,67,68,69,70]⟩:ByteArray)[10].toNat=65:=rfl
    by_cases h1:r=97
    · have hd:Hid (digit 16 r=10):=Hd ((HDG.out 10 (by omega) (by omega)).2 (by omega))
      have a1:((97:Int)==r)=true:=by simp;omega
      clear h1
      go_wp2
      go_ret
      exact⟨by rw[hd.out];rfl,rfl⟩
    · by_cases h2:r=65
      · have hd:Hid (digit 16 r=10):=Hd ((HDG.out 10 (by omega) (by omega)).2 (by omega))
        have a1:((97:Int)==r)=false:=by simp;omega
        have a2:((65:Int)==r)=true:=by simp;omega
        clear h1 h2
        go_wp2
        go_ret
        exact⟨by rw[hd.out];rfl,rfl⟩
      · have hn:Hid (digit 16 r<0∨((10+1:Nat):Int)≤digit 16 r):=Hd (by
         have:=mt (HDG.out 10 (by omega) (by omega)).1 (by omega)
         have:=HI.out
         omega)
        have a1:((97:Int)==r)=false:=by simp;omega
        have a2:((65:Int)==r)=false:=by simp;omega
        clear h1 h2
        go_wp2
        go_roundg (16 - (10+1))
        case measure=>omega
        case rel=>exact⟨10+1,rfl,by omega,rfl,hn,rfl⟩
  · have xs:(⟨#[48,49,50,51,52,53,54,55,56,57,97,98,99,100,101,102]⟩:ByteArray)[11].toNat=98:=rfl
    have xt:(⟨#[48,49,50,51,52,53,54,55,56,57,65,66,67,68,69,70]⟩:ByteArray)[11].toNat=66:=rfl
    by_cases h1:r=98
    · have hd:Hid (digit 16 r=11):=Hd ((HDG.out 11 (by omega) (by omega)).2 (by omega))
      have a1:((98:Int)==r)=true:=by simp;omega
      clear h1
      go_wp2
      go_ret
      exact⟨by rw[hd.out];rfl,rfl⟩
    · by_cases h2:r=66
      · have hd:Hid (digit 16 r=11):=Hd ((HDG.out 11 (by omega) (by omega)).2 (by omega))
        have a1:((98:Int)==r)=false:=by simp;omega
        have a2:((66:Int)==r)=true:=by simp;omega
        clear h1 h2
        go_wp2
        go_ret
        exact⟨by rw[hd.out];rfl,rfl⟩
      · have hn:Hid (digit 16 r<0∨((11+1:Nat):Int)≤digit 16 r):=Hd (by
         have:=mt (HDG.out 11 (by omega) (by omega)).1 (by omega)
         have:=HI.out
         omega)
        have a1:((98:Int)==r)=false:=by simp;omega
        have a2:((66:Int)==r)=false:=by simp;omega
        clear h1 h2
        go_wp2
        go_roundg (16 - (11+1))
        case measure=>omega
        case rel=>exact⟨11+1,rfl,by omega,rfl,hn,rfl⟩
  · have xs:(⟨#[48,49,50,51,52,53,54,55,56,57,97,98,99,100,101,102]⟩:ByteArray)[12].toNat=99:=rfl
    have xt:(⟨#[48,49,50,51,52,53,54,55,56,57,65,66,67,68,69,70]⟩:ByteArray)[12].toNat=67:=rfl
    by_cases h1:r=99
    · have hd:Hid (digit 16 r=12):=Hd ((HDG.out 12 (by omega) (by omega)).2 (by omega))
      have a1:((99:Int)==r)=true:=by simp;omega
      clear h1
      go_wp2
      go_ret
      exact⟨by rw[hd.out];rfl,rfl⟩
    · by_cases h2:r=67
      · have hd:Hid (digit 16 r=12):=Hd ((HDG.out 12 (by omega) (by omega)).2 (by omega))
        have a1:((99:Int)==r)=false:=by simp;omega
        have a2:((67:Int)==r)=true:=by simp;omega
        clear h1 h2
        go_wp2
        go_ret
        exact⟨by rw[hd.out];rfl,rfl⟩
      · have hn:Hid (digit 16 r<0∨((12+1:Nat):Int)≤digit 16 r):=Hd (by
         have:=mt (HDG.out 12 (by omega) (by omega)).1 (by omega)
         have:=HI.out
         omega)
        have a1:((99:Int)==r)=false:=by simp;omega
        have a2:((67:Int)==r)=false:=by simp;omega
        clear h1 h2
        go_wp2
        go_roundg (16 - (12+1))
        case measure=>omega
        case rel=>exact⟨12+1,rfl,by omega,rfl,hn,rfl⟩
  · have xs:(⟨#[48,49,50,51,52,53,54,55,56,57,97,98,99,100,101,102]⟩:ByteArray)[13].toNat=100:=rfl
    have xt:(⟨#[48,49,50,51,52,53,54,55,56,57,65,66,67,68,69,70]⟩:ByteArray)[13].toNat=68:=rfl
    by_cases h1:r=100
    · have hd:Hid (digit 16 r=13):=Hd ((HDG.out 13 (by omega) (by omega)).2 (by omega))
      have a1:((100:Int)==r)=true:=by simp;omega
      clear h1
      go_wp2
      go_ret
      exact⟨by rw[hd.out];rfl,rfl⟩
    · by_cases h2:r=68
      · have hd:Hid (digit 16 r=13):=Hd ((HDG.out 13 (by omega) (by omega)).2 (by omega))
        have a1:((100:Int)==r)=false:=by simp;omega
        have a2:((68:Int)==r)=true:=by simp;omega
        clear h1 h2
        go_wp2
        go_ret
        exact⟨by rw[hd.out];rfl,rfl⟩
      · have hn:Hid (digit 16 r<0∨((13+1:Nat):Int)≤digit 16 r):=Hd (by
         have:=mt (HDG.out 13 (by omega) (by omega)).1 (by omega)
         have:=HI.out
         omega)
        have a1:((100:Int)==r)=false:=by simp;omega
        have a2:((68:Int)==r)=false:=by simp;omega
        clear h1 h2
        go_wp2
        go_roundg (16 - (13+1))
        case measure=>omega
        case rel=>exact⟨13+1,rfl,by omega,rfl,hn,rfl⟩
  · have xs:(⟨#[48,49,50,51,52,53,54,55,56,57,97,98,99,100,101,102]⟩:ByteArray)[14].toNat=101:=rfl
    have xt:(⟨#[48,49,50,51,52,53,54,55,56,57,65,66,67,68,69,70]⟩:ByteArray)[14].toNat=69:=rfl
    by_cases h1:r=101
    · have hd:Hid (digit 16 r=14):=Hd ((HDG.out 14 (by omega) (by omega)).2 (by omega))
      have a1:((101:Int)==r)=true:=by simp;omega
      clear h1
      go_wp2
      go_ret
      exact⟨by rw[hd.out];rfl,rfl⟩
    · by_cases h2:r=69
      · have hd:Hid (digit 16 r=14):=Hd ((HDG.out 14 (by omega) (by omega)).2 (by omega))
        have a1:((101:Int)==r)=false:=by simp;omega
        have a2:((69:Int)==r)=true:=by simp;omega
        clear h1 h2
        go_wp2
        go_ret
        exact⟨by rw[hd.out];rfl,rfl⟩
      · have hn:Hid (digit 16 r<0∨((14+1:Nat):Int)≤digit 16 r):=Hd (by
         have:=mt (HDG.out 14 (by omega) (by omega)).1 (by omega)
         have:=HI.out
         omega)
        have a1:((101:Int)==r)=false:=by simp;omega
        have a2:((69:Int)==r)=false:=by simp;omega
        clear h1 h2
        go_wp2
        go_roundg (16 - (14+1))
        case measure=>omega
        case rel=>exact⟨14+1,rfl,by omega,rfl,hn,rfl⟩
  · have xs:(⟨#[48,49,50,51,52,53,54,55,56,57,97,98,99,100,101,102]⟩:ByteArray)[15].toNat=102:=rfl
    have xt:(⟨#[48,49,50,51,52,53,54,55,56,57,65,66,67,68,69,70]⟩:ByteArray)[15].toNat=70:=rfl
    by_cases h1:r=102
    · have hd:Hid (digit 16 r=15):=Hd ((HDG.out 15 (by omega) (by omega)).2 (by omega))
      have a1:((102:Int)==r)=true:=by simp;omega
      clear h1
      go_wp2
      go_ret
      exact⟨by rw[hd.out];rfl,rfl⟩
    · by_cases h2:r=70
      · have hd:Hid (digit 16 r=15):=Hd ((HDG.out 15 (by omega) (by omega)).2 (by omega))
        have a1:((102:Int)==r)=false:=by simp;omega
        have a2:((70:Int)==r)=true:=by simp;omega
        clear h1 h2
        go_wp2
        go_ret
        exact⟨by rw[hd.out];rfl,rfl⟩
      · have hn:Hid (digit 16 r<0∨((15+1:Nat):Int)≤digit 16 r):=Hd (by
         have:=mt (HDG.out 15 (by omega) (by omega)).1 (by omega)
         have:=HI.out
         omega)
        have a1:((102:Int)==r)=false:=by simp;omega
        have a2:((70:Int)==r)=false:=by simp;omega
        clear h1 h2
        go_wp2
        go_roundg (16 - (15+1))
        case measure=>omega
        case rel=>exact⟨15+1,rfl,by omega,rfl,hn,rfl⟩
  · have hd:Hid (digit 16 r= -1):=Hd (by have:=HI.out;have:=HLT.out;omega)
    go_wp2
    go_ret
    exact⟨by rw[hd.out];rfl,rfl⟩
theorem Byt.bytesIn {w:World}{B n cap:Nat}{A:Option Addr}{l:List UInt8}(h:Byt w B A n cap l):Lib.BytesIn w A n (nums l):=fun hn=>by
 obtain⟨b,o,e,hc⟩:=h.cells (by have:=h.le;omega)
 exact⟨b,o,e,hc⟩
theorem hasPrefix_c (A1 A2:Option Addr)(n1 c1 n2 c2:Nat)(l1 l2:List UInt8)(w:World)(B1 B2:Nat)(h1:Byt w B1 A1 n1 c1 l1)(h2:Byt w B2 A2 n2 c2 l2) :
 Calls Tryz.prog 49 #[.slice A1 n1 c1,.slice A2 n2 c2] w fun e w'=>e= .returned (.bool (l2.isPrefixOf l1))∧w=w':=by
 refine(Tryz.bytes_HasPrefix_all A1 A2 n1 c1 n2 c2 (nums l1) (nums l2) w (by rw[nums_length,h1.length]) (by rw[nums_length,h2.length]) h1.le h1.bytesIn h2.bytesIn).mono fun e w' ⟨he,hw⟩=>⟨?_,hw.symm⟩
 rw[he,bytesOf_nums,bytesOf_nums]
 rfl
theorem digitB_c (b:Int)(hb:b=10∨b=16)(r:Int)(w:World):Calls Tryz.prog 84 #[.int .i64 r,.int .i64 b] w fun e w'=>e= .returned (.int .i64 (digit b r))∧w=w':=by
 rcases hb with rfl|rfl
 · exact digit10_c r w
 · exact digit16_c r w
theorem refDigitB_c (b:Int)(hb:b=10∨b=16)(r:Int)(w:World):Calls Tryz.prog 62 #[.int .i64 r,.int .i64 b] w fun e w'=>e= .returned (.int .i64 (digit b r))∧w=w':=by
 rcases hb with rfl|rfl
 · exact refDigit10_c r w
 · exact refDigit16_c r w
def numV (o:Int × Nat × Nat):Value:= .tuple #[.int .i64 o.1,.int .i64 (o.2.1:Int),.int .i64 (o.2.2:Int)]
theorem pre2 (a b:UInt8)(l:List UInt8): [a,b].isPrefixOf l=decide (l[0]? =some a∧l[1]? =some b):=by
 match l with
 | []=>simp
 | [x]=>simp [List.isPrefixOf]
 |x :: y :: t =>
  simp[List.isPrefixOf];rw[Bool.eq_iff_iff];simp
  exact⟨fun⟨p,q⟩=>⟨p.symm,q.symm⟩,fun⟨p,q⟩=>⟨p.symm,q.symm⟩⟩
theorem pre3 (a b c:UInt8)(l:List UInt8): [a,b,c].isPrefixOf l=decide (l[0]? =some a∧l[1]? =some b∧l[2]? =some c):=by
 match l with
 | []=>simp
 | [x]=>simp [List.isPrefixOf]
 | [x,y]=>simp [List.isPrefixOf]
 |x :: y :: z :: t =>
  simp[List.isPrefixOf];rw[Bool.eq_iff_iff];simp
  exact⟨fun⟨p,q,r⟩=>⟨p.symm,q.symm,r.symm⟩,fun⟨p,q,r⟩=>⟨p.symm,q.symm,r.symm⟩⟩
theorem crefChar_range (A:Option Addr)(n cap:Nat)(at_:Int)(w:World)(ha:at_<0∨(n:Int)<at_) :
 Calls Tryz.prog 55 #[.slice A n cap,.int .i64 at_] w fun e w'=>e= .returned (numV (0,0,3))∧Below w.heap.size w w':=by
 by_cases h0:at_<0
 · have hd:decide (at_<0)=true:=by simpa using h0
   clear ha
   go_enter Tryz.func55,Tryz.ntmps55
   go_wp2_with fail
   go_step3
   go_wp2
   rw[Exit.noGoto_ret]
   go_ret3
   exact⟨rfl,Below.refl _ _⟩
 · have h1:(n:Int)<at_:=by omega
   clear ha
   go_enter Tryz.func55,Tryz.ntmps55
   go_wp2_with fail
   go_step3
   go_wp2
   rw[Exit.noGoto_ret]
   go_ret3
   exact⟨rfl,Below.refl _ _⟩
theorem crefChar_no (A:Option Addr)(n cap:Nat)(l:List UInt8)(at_:Nat)(w:World)(h:Byt w w.heap.size A n cap l)(hm:n≤50000)(hat:at_≤n)(hp: [38,35].isPrefixOf (l.drop at_)=false) :
 Calls Tryz.prog 55 #[.slice A n cap,.int .i64 at_] w fun e w'=>e= .returned (numV (0,0,7))∧Below w.heap.size w w':=by
 have hp3: [38,35,120].isPrefixOf (l.drop at_)=false:=by
  rw[pre2]at hp
  rw[pre3]
  simp only[decide_eq_false_iff_not]at hp ⊢
  exact fun h=>hp ⟨h.1,h.2.1⟩
 have hat': ¬ (n:Int)<(at_:Int):=by omega
 have hrf: ∀ w2:World,(Instr.slice 29 (.slice A n cap) (some (.int .i64 (at_:Int))) none none).run Tryz.prog w2= .ok (.slice (cutA A cap at_) (n - at_) (cap - at_)) w2:=fun w2=>run_from (w:=w2) A n cap at_ hat
 have hap:IntKind.i64.wrap ((at_:Int)+2)=(at_:Int)+2:=by rw[IntKind.wrap_i64];omega
 have kc:=fun (w:World) (C:Array Value) (n c:Nat)=>Lib.run_convert_bytes_const (P:=Tryz.prog) w 29 5 C n c Tryz.underlying29 Tryz.underlying5
 have kc2:=kc (w.alloc (.cells #[bv 38,bv 35,bv 120] 5 (3,4))) #[.int .u8 38,.int .u8 35] 2 2
 rw[show (w.alloc (.cells #[bv 38,bv 35,bv 120] 5 (3,4))).heap.size=w.heap.size+1 by simp]at kc2
 have k1:=Byt.const w [38,35,120] (3,4) (by decide)
 have b1:Below w.heap.size w (w.alloc (.cells ([38,35,120].map bv).toArray 5 (3,4))):=(Below.refl _ _).alloc (Nat.le_refl _) _
 have c1:=hasPrefix_c _ _ _ _ _ _ _ _ _ _ _ ((h.below b1).drop hat) k1
 have k2:=Byt.const (w.alloc (.cells ([38,35,120].map bv).toArray 5 (3,4))) [38,35] (2,3) (by decide)
 have b2:Below w.heap.size w ((w.alloc (.cells ([38,35,120].map bv).toArray 5 (3,4))).alloc (.cells ([38,35].map bv).toArray 5 (2,3))):=b1.alloc (by simp) _
 have c2:=hasPrefix_c _ _ _ _ _ _ _ _ _ _ _ ((h.below b2).drop hat) k2
 rw[hp3]at c1
 rw[hp]at c2
 rw[show (w.alloc (.cells ([38,35,120].map bv).toArray 5 (3,4))).heap.size=w.heap.size+1 by simp]at c2
 have HC2:=Hd c2
 clear c2
 have HB:=Hd b2
 clear b2 b1 k1 k2 h hp hp3 hm
 go_enter Tryz.func55,Tryz.ntmps55
 go_wp2_with fail
 go_step3
 go_wp2_with fail
 refine c1.mono ?_
 rintro e w1 ⟨rfl,rfl⟩
 clear kc c1
 go_wp2_with fail
 refine HC2.out.mono ?_
 rintro e w1 ⟨rfl,rfl⟩
 go_wp2
 rw[Exit.noGoto_ret]
 go_ret3
 exact⟨rfl,HB.out⟩
end Go.Proofs.YtbafljibbabnaaaGreatDoor
