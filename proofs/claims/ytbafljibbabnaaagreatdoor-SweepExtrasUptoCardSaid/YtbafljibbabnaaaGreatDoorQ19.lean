/- Texts of ours, joined: Known2, SzR. -/
import Derived.IntWalk
import Derived.Test.YtbafljibbabnaaaGreatDoorQ18
namespace Go.Proofs.YtbafljibbabnaaaGreatDoor
open Go.ChangeShapes Go.WideShapes Go.ChangeAt Go.RowKit
set_option linter.unusedVariables false
set_option maxRecDepth 100000
set_option maxHeartbeats 32000000
def KnownT (w:World):Prop:= ∃ T f,w.heap[2]? =some (.cells #[.string ⟨#[108,116]⟩,.int .i64 60,.string ⟨#[103,116]⟩,.int .i64 62,.string ⟨#[97,109,112]⟩,.int .i64 38,.string ⟨#[97,112,111,115]⟩,.int .i64 39,.string ⟨#[113,117,111,116]⟩,.int .i64 34] T f)
theorem KnownT.lt {w:World}(h:KnownT w):2<w.heap.size:=by
 obtain⟨T,f,h⟩:=h
 exact lt_of h
theorem KnownT.below {w w':World}(h:KnownT w)(hb:Below w.heap.size w w'):KnownT w':=by
 have hl:=h.lt
 obtain⟨T,f,h⟩:=h
 exact⟨T,f,(hb.block _ hl).trans h⟩
def knownV (n:Nat):Value:= .tuple #[.int .i64 n,.bool (decide (0<n))]
theorem crefKnown_c (s:ByteArray)(w:World)(h:KnownT w):Calls Tryz.prog 129 #[.string s] w fun e w'=>e= .returned (knownV (knownOf s))∧Below w.heap.size w w':=by
 obtain⟨T,f,hb⟩:=h
 have hi:(Tryz.prog.info? 202).map (·.size)=some 10:=by kernel_rfl
 have hu:=Tryz.underlying202
 have hld:=run_loadVar_row (P:=Tryz.prog) w 2 T 202 #[.string ⟨#[108,116]⟩,.int .i64 60,.string ⟨#[103,116]⟩,.int .i64 62,.string ⟨#[97,109,112]⟩,.int .i64 38,.string ⟨#[97,112,111,115]⟩,.int .i64 39,.string ⟨#[113,117,111,116]⟩,.int .i64 34] f _ hb hu rfl hi
 have hu1: ∃ d1,Tryz.prog.underlying 201=some (.struct d1):=isStruct_of (by kernel_rfl)
 have c0:w.cell? ⟨2,0,none⟩=some (.string ⟨#[108,116]⟩):=by rw[cell_of 0 hb];rfl
 have c1:w.cell? ⟨2,1,none⟩=some (.int .i64 60):=by rw[cell_of 1 hb];rfl
 have c2:w.cell? ⟨2,2,none⟩=some (.string ⟨#[103,116]⟩):=by rw[cell_of 2 hb];rfl
 have c3:w.cell? ⟨2,3,none⟩=some (.int .i64 62):=by rw[cell_of 3 hb];rfl
 have c4:w.cell? ⟨2,4,none⟩=some (.string ⟨#[97,109,112]⟩):=by rw[cell_of 4 hb];rfl
 have c5:w.cell? ⟨2,5,none⟩=some (.int .i64 38):=by rw[cell_of 5 hb];rfl
 have c6:w.cell? ⟨2,6,none⟩=some (.string ⟨#[97,112,111,115]⟩):=by rw[cell_of 6 hb];rfl
 have c7:w.cell? ⟨2,7,none⟩=some (.int .i64 39):=by rw[cell_of 7 hb];rfl
 have c8:w.cell? ⟨2,8,none⟩=some (.string ⟨#[113,117,111,116]⟩):=by rw[cell_of 8 hb];rfl
 have c9:w.cell? ⟨2,9,none⟩=some (.int .i64 34):=by rw[cell_of 9 hb];rfl
 have ix0: ∀ w:World,(Instr.index 202 (.agg #[.string ⟨#[108,116]⟩,.int .i64 60,.string ⟨#[103,116]⟩,.int .i64 62,.string ⟨#[97,109,112]⟩,.int .i64 38,.string ⟨#[97,112,111,115]⟩,.int .i64 39,.string ⟨#[113,117,111,116]⟩,.int .i64 34]) (.int .i64 0)).run Tryz.prog w= .ok (.agg #[.string ⟨#[108,116]⟩,.int .i64 60]) w:=fun _=>by kernel_rfl
 have ix1: ∀ w:World,(Instr.index 202 (.agg #[.string ⟨#[108,116]⟩,.int .i64 60,.string ⟨#[103,116]⟩,.int .i64 62,.string ⟨#[97,109,112]⟩,.int .i64 38,.string ⟨#[97,112,111,115]⟩,.int .i64 39,.string ⟨#[113,117,111,116]⟩,.int .i64 34]) (.int .i64 1)).run Tryz.prog w= .ok (.agg #[.string ⟨#[103,116]⟩,.int .i64 62]) w:=fun _=>by kernel_rfl
 have ix2: ∀ w:World,(Instr.index 202 (.agg #[.string ⟨#[108,116]⟩,.int .i64 60,.string ⟨#[103,116]⟩,.int .i64 62,.string ⟨#[97,109,112]⟩,.int .i64 38,.string ⟨#[97,112,111,115]⟩,.int .i64 39,.string ⟨#[113,117,111,116]⟩,.int .i64 34]) (.int .i64 2)).run Tryz.prog w= .ok (.agg #[.string ⟨#[97,109,112]⟩,.int .i64 38]) w:=fun _=>by kernel_rfl
 have ix3: ∀ w:World,(Instr.index 202 (.agg #[.string ⟨#[108,116]⟩,.int .i64 60,.string ⟨#[103,116]⟩,.int .i64 62,.string ⟨#[97,109,112]⟩,.int .i64 38,.string ⟨#[97,112,111,115]⟩,.int .i64 39,.string ⟨#[113,117,111,116]⟩,.int .i64 34]) (.int .i64 3)).run Tryz.prog w= .ok (.agg #[.string ⟨#[97,112,111,115]⟩,.int .i64 39]) w:=fun _=>by kernel_rfl
 have ix4: ∀ w:World,(Instr.index 202 (.agg #[.string ⟨#[108,116]⟩,.int .i64 60,.string ⟨#[103,116]⟩,.int .i64 62,.string ⟨#[97,109,112]⟩,.int .i64 38,.string ⟨#[97,112,111,115]⟩,.int .i64 39,.string ⟨#[113,117,111,116]⟩,.int .i64 34]) (.int .i64 4)).run Tryz.prog w= .ok (.agg #[.string ⟨#[113,117,111,116]⟩,.int .i64 34]) w:=fun _=>by kernel_rfl
 clear hb hu hi hu1 hld
 go_enter Tryz.func129,Tryz.ntmps129
 go_wp2
 go_loopg [7] (5) (fun g i wr=> ∃ k:Nat,k≤5∧Hid (g+k=5)∧i= .int .i64 k∧Hid (Below w.heap.size w wr)∧Hid (∀ j<k,∀ x,[(⟨#[108,116]⟩:ByteArray),⟨#[103,116]⟩,⟨#[97,109,112]⟩,⟨#[97,112,111,115]⟩,⟨#[113,117,111,116]⟩][j]? =some x→s≠x))
 case atStart=>exact⟨0,by omega,Hd rfl,rfl,Hd (Below.refl _ _),Hd (fun j hj=>absurd hj (Nat.not_lt_zero _))⟩
 case round =>
  obtain⟨k,hk,hg,rfl,HB,HN⟩:=hrel
  have hfz: ∀ o b i,wr.heap.size=b→(wr.alloc o).frozen? ⟨b,i,none⟩=(wr.alloc o).frozen? ⟨wr.heap.size,i,none⟩:=fun o b i e=>by rw[e]
  clear hfz
  rcases(show k=0∨k=1∨k=2∨k=3∨k=4∨k=5 by omega)with rfl|rfl|rfl|rfl|rfl|rfl
  · by_cases hs:s=⟨#[108,116]⟩
    · have HE:Hid (knownOf s=60):=Hd (by rw[hs];decide +kernel)
      have HBA:Hid (Below w.heap.size w (wr.alloc (.cells #[.string ⟨#[108,116]⟩,.int .i64 60] 201))):=Hd (HB.out.alloc (by have:=HB.out.size;omega) _)
      subst hs
      go_wp2
      go_ret2
      rw[HE.out]
      exact⟨rfl,HBA.out⟩
    · have a0:(s.toList== [108,116])=false:=ba_ne2 s [108,116] hs
      have a0':([108,116]==s.toList)=false:=by rw[← a0];exact Bool.beq_comm
      have HBA:Hid (Below w.heap.size w (wr.alloc (.cells #[.string ⟨#[108,116]⟩,.int .i64 60] 201))):=Hd (HB.out.alloc (by have:=HB.out.size;omega) _)
      have HS:=Hd hs
      clear hs
      go_wp2
      go_roundg (4)
      case measure=>have:=hg.out;omega
      case rel=>exact⟨1,by omega,Hd (by omega),rfl,HBA,Hd (fun j hj x hx=>by
       rcases(show j<0∨j=0 by omega)with h|rfl
       · exact HN.out j h x hx
       · simp at hx;rw[← hx];exact HS.out)⟩
  · by_cases hs:s=⟨#[103,116]⟩
    · have HE:Hid (knownOf s=62):=Hd (by rw[hs];decide +kernel)
      have HBA:Hid (Below w.heap.size w (wr.alloc (.cells #[.string ⟨#[103,116]⟩,.int .i64 62] 201))):=Hd (HB.out.alloc (by have:=HB.out.size;omega) _)
      subst hs
      go_wp2
      go_ret2
      rw[HE.out]
      exact⟨rfl,HBA.out⟩
    · have a1:(s.toList== [103,116])=false:=ba_ne2 s [103,116] hs
      have a1':([103,116]==s.toList)=false:=by rw[← a1];exact Bool.beq_comm
      have HBA:Hid (Below w.heap.size w (wr.alloc (.cells #[.string ⟨#[103,116]⟩,.int .i64 62] 201))):=Hd (HB.out.alloc (by have:=HB.out.size;omega) _)
      have HS:=Hd hs
      clear hs
      go_wp2
      go_roundg (3)
      case measure=>have:=hg.out;omega
      case rel=>exact⟨2,by omega,Hd (by omega),rfl,HBA,Hd (fun j hj x hx=>by
       rcases(show j<1∨j=1 by omega)with h|rfl
       · exact HN.out j h x hx
       · simp at hx;rw[← hx];exact HS.out)⟩
  · by_cases hs:s=⟨#[97,109,112]⟩
    · have HE:Hid (knownOf s=38):=Hd (by rw[hs];decide +kernel)
      have HBA:Hid (Below w.heap.size w (wr.alloc (.cells #[.string ⟨#[97,109,112]⟩,.int .i64 38] 201))):=Hd (HB.out.alloc (by have:=HB.out.size;omega) _)
      subst hs
      go_wp2
      go_ret2
      rw[HE.out]
      exact⟨rfl,HBA.out⟩
    · have a2:(s.toList== [97,109,112])=false:=ba_ne2 s [97,109,112] hs
      have a2':([97,109,112]==s.toList)=false:=by rw[← a2];exact Bool.beq_comm
      have HBA:Hid (Below w.heap.size w (wr.alloc (.cells #[.string ⟨#[97,109,112]⟩,.int .i64 38] 201))):=Hd (HB.out.alloc (by have:=HB.out.size;omega) _)
      have HS:=Hd hs
      clear hs
      go_wp2
      go_roundg (2)
      case measure=>have:=hg.out;omega
      case rel=>exact⟨3,by omega,Hd (by omega),rfl,HBA,Hd (fun j hj x hx=>by
       rcases(show j<2∨j=2 by omega)with h|rfl
       · exact HN.out j h x hx
       · simp at hx;rw[← hx];exact HS.out)⟩
  · by_cases hs:s=⟨#[97,112,111,115]⟩
    · have HE:Hid (knownOf s=39):=Hd (by rw[hs];decide +kernel)
      have HBA:Hid (Below w.heap.size w (wr.alloc (.cells #[.string ⟨#[97,112,111,115]⟩,.int .i64 39] 201))):=Hd (HB.out.alloc (by have:=HB.out.size;omega) _)
      subst hs
      go_wp2
      go_ret2
      rw[HE.out]
      exact⟨rfl,HBA.out⟩
    · have a3:(s.toList== [97,112,111,115])=false:=ba_ne2 s [97,112,111,115] hs
      have a3':([97,112,111,115]==s.toList)=false:=by rw[← a3];exact Bool.beq_comm
      have HBA:Hid (Below w.heap.size w (wr.alloc (.cells #[.string ⟨#[97,112,111,115]⟩,.int .i64 39] 201))):=Hd (HB.out.alloc (by have:=HB.out.size;omega) _)
      have HS:=Hd hs
      clear hs
      go_wp2
      go_roundg (1)
      case measure=>have:=hg.out;omega
      case rel=>exact⟨4,by omega,Hd (by omega),rfl,HBA,Hd (fun j hj x hx=>by
       rcases(show j<3∨j=3 by omega)with h|rfl
       · exact HN.out j h x hx
       · simp at hx;rw[← hx];exact HS.out)⟩
  · by_cases hs:s=⟨#[113,117,111,116]⟩
    · have HE:Hid (knownOf s=34):=Hd (by rw[hs];decide +kernel)
      have HBA:Hid (Below w.heap.size w (wr.alloc (.cells #[.string ⟨#[113,117,111,116]⟩,.int .i64 34] 201))):=Hd (HB.out.alloc (by have:=HB.out.size;omega) _)
      subst hs
      go_wp2
      go_ret2
      rw[HE.out]
      exact⟨rfl,HBA.out⟩
    · have a4:(s.toList== [113,117,111,116])=false:=ba_ne2 s [113,117,111,116] hs
      have a4':([113,117,111,116]==s.toList)=false:=by rw[← a4];exact Bool.beq_comm
      have HBA:Hid (Below w.heap.size w (wr.alloc (.cells #[.string ⟨#[113,117,111,116]⟩,.int .i64 34] 201))):=Hd (HB.out.alloc (by have:=HB.out.size;omega) _)
      have HS:=Hd hs
      clear hs
      go_wp2
      go_roundg (0)
      case measure=>have:=hg.out;omega
      case rel=>exact⟨5,by omega,Hd (by omega),rfl,HBA,Hd (fun j hj x hx=>by
       rcases(show j<4∨j=4 by omega)with h|rfl
       · exact HN.out j h x hx
       · simp at hx;rw[← hx];exact HS.out)⟩
  · have HE:Hid (knownOf s=0):=Hd (by
      have n0:=HN.out 0 (by omega) _ rfl
      have n1:=HN.out 1 (by omega) _ rfl
      have n2:=HN.out 2 (by omega) _ rfl
      have n3:=HN.out 3 (by omega) _ rfl
      have n4:=HN.out 4 (by omega) _ rfl
      unfold knownOf
      rw[if_neg n0,if_neg n1,if_neg n2,if_neg n3,if_neg n4])
    go_wp2
    go_ret2
    rw[HE.out]
    exact⟨rfl,HB.out⟩
theorem szRef_other (Z M TM n:Nat)(vl:Value)(look:List UInt8→Option (Nat × Nat × Nat))(f t:Nat)(nm:List UInt8)(w:World)(hz:w.heap[Z]? =some (.cells #[.map (some M),.map (some TM),vl] 129 (0,0)))(hM:LkI w M n look)(hK:KnownT w)(hft:f≤t)(ht:t≤1000000)(hs:nm.length≤1000000)(hn:look nm=none)(hk:knownOf ⟨nm.toArray⟩=0) :
 Calls Tryz.prog 95 #[.pointer (some ⟨Z,0,none⟩),.agg #[.int .i64 (f:Nat),.int .i64 (t:Nat),.string ⟨nm.toArray⟩]] w fun e w'=>e= .returned (.agg #[.int .i64 ((t - f:Nat):Int),.int .i64 ((t - f:Nat):Int),.int .i64 0])∧Below w.heap.size w w':=by
 have c0:w.cell? ⟨Z,0,none⟩=some (.map (some M)):=cell_of 0 hz
 have hzl:=lt_of hz
 have h1:(look nm).getD (0,0,0)=(0,0,0):=by rw[hn];rfl
 have h2:(look nm).isSome=false:=by rw[hn];rfl
 clear hn
 have hs2:nm.length≤9000000000000000000:=by omega
 have hsub:(t:Int) - (f:Int)=((t - f:Nat):Int):=by omega
 have CK:=Hd fun W hW=>crefKnown_c ⟨nm.toArray⟩ W hW
 have HK:=Hd hK
 have HM:=Hd hM
 have HZ:=Hd hz
 clear hz hM hK
 go_enter Tryz.func95,Tryz.ntmps95
 go_wp2_with fail
 have WA:=hp_old (o:=(.cells #[.int .i64 0,.int .i64 0,.int .i64 0] 34)) (hp_new w (.cells #[.int .i64 (f:Nat),.int .i64 (t:Nat),.string ⟨nm.toArray⟩] 107))
 have WC:=hp_new (w.alloc (.cells #[.int .i64 (f:Nat),.int .i64 (t:Nat),.string ⟨nm.toArray⟩] 107)) (.cells #[.int .i64 0,.int .i64 0,.int .i64 0] 34)
 have BW:=((Below.refl w.heap.size w).alloc (Nat.le_refl _) (.cells #[.int .i64 (f:Nat),.int .i64 (t:Nat),.string ⟨nm.toArray⟩] 107)).alloc (by simp) (.cells #[.int .i64 0,.int .i64 0,.int .i64 0] 34)
 rw[show (w.alloc (.cells #[.int .i64 (f:Nat),.int .i64 (t:Nat),.string ⟨nm.toArray⟩] 107)).heap.size=w.heap.size+1 by simp]at WC
 generalize (w.alloc (.cells #[.int .i64 (f:Nat),.int .i64 (t:Nat),.string ⟨nm.toArray⟩] 107)).alloc (.cells #[.int .i64 0,.int .i64 0,.int .i64 0] 34)=W0 at *
 have hM2:LkI W0 M n look:=HM.out.kept (BW.block _ HM.out.lt)
 have d0:W0.cell? ⟨Z,0,none⟩=some (.map (some M)):=cell_of 0 ((BW.block _ hzl).trans HZ.out)
 have a2:W0.cell? ⟨w.heap.size,2,none⟩=some (.string ⟨nm.toArray⟩):=cell_of 2 WA
 have a1:W0.cell? ⟨w.heap.size,1,none⟩=some (.int .i64 (t:Nat)):=cell_of 1 WA
 have a0:W0.cell? ⟨w.heap.size,0,none⟩=some (.int .i64 (f:Nat)):=cell_of 0 WA
 have lk:=run_lookup_sz (w:=W0.drew) (hM2.kept rfl) nm hs2 _ false h1 h2
 have hM3:LkI (W0.alloc (.cells #[.int .i64 0,.int .i64 0,.int .i64 0] 34)).drew M n look:=hM2.kept (show(W0.alloc (.cells #[.int .i64 0,.int .i64 0,.int .i64 0] 34)).heap[M]? =W0.heap[M]? from(((Below.refl W0.heap.size W0).alloc (Nat.le_refl _) (.cells #[.int .i64 0,.int .i64 0,.int .i64 0] 34)).block _ hM2.lt))
 have lk3:=run_lookup_sz (w:=(W0.alloc (.cells #[.int .i64 0,.int .i64 0,.int .i64 0] 34)).drew) hM3 nm hs2 _ false h1 h2
 have e0:(W0.alloc (.cells #[.int .i64 0,.int .i64 0,.int .i64 0] 34)).drew.cell? ⟨Z,0,none⟩=some (.map (some M)):=cell_of 0 (show(W0.alloc (.cells #[.int .i64 0,.int .i64 0,.int .i64 0] 34)).heap[Z]? =_ from hp_old ((BW.block _ hzl).trans HZ.out))
 have e2:(W0.alloc (.cells #[.int .i64 0,.int .i64 0,.int .i64 0] 34)).drew.cell? ⟨w.heap.size,2,none⟩=some (.string ⟨nm.toArray⟩):=cell_of 2 (show(W0.alloc (.cells #[.int .i64 0,.int .i64 0,.int .i64 0] 34)).heap[w.heap.size]? =_ from hp_old WA)
 have HBW:=Hd (And.intro BW (And.intro WA WC))
 clear hs2 hs WA WC BW
 go_region
 all_goals
  have BW9:Below w.heap.size w (W0.alloc (.cells #[.int .i64 0,.int .i64 0,.int .i64 0] 34)).drew:=Below.drew (HBW.out.1.alloc (HBW.out.1.size) _)
  have WA9:(W0.alloc (.cells #[.int .i64 0,.int .i64 0,.int .i64 0] 34)).drew.heap[w.heap.size]? =_:=hp_old HBW.out.2.1
  have WC9:(W0.alloc (.cells #[.int .i64 0,.int .i64 0,.int .i64 0] 34)).drew.heap[w.heap.size+1]? =_:=hp_old HBW.out.2.2
  have WS9:(W0.alloc (.cells #[.int .i64 0,.int .i64 0,.int .i64 0] 34)).drew.heap[W0.heap.size]? =_:=hp_new W0 _
  have HF9:=Hd (And.intro BW9 (And.intro WA9 (And.intro WC9 WS9)))
  clear BW9 WA9 WC9 WS9 lk lk3 e0 e2 hM3 hM2 d0 a0 a1 a2 HBW h1 h2 c0
  generalize (W0.alloc (.cells #[.int .i64 0,.int .i64 0,.int .i64 0] 34)).drew=W9 at *
  generalize W0.heap.size=N at *
  have b2:W9.cell? ⟨w.heap.size,2,none⟩=some (.string ⟨nm.toArray⟩):=cell_of 2 HF9.out.2.1
  go_wp2_with fail
  refine(CK.out W9 (HK.out.below HF9.out.1)).mono ?_
  rintro e w5 ⟨rfl,hb5⟩
  have HB5:Hid (Below w.heap.size w w5):=Hd (HF9.out.1.trans (hb5.mono HF9.out.1.size))
  have wc:w5.heap[w.heap.size+1]? =_:=(hb5.block _ (lt_of HF9.out.2.2.1)).trans HF9.out.2.2.1
  clear hb5 b2
  rw[hk]
  simp only[knownV]
  have hi:(Tryz.prog.info? 34).map (·.size)=some 3:=by kernel_rfl
  obtain⟨dd,hu⟩:=isStruct_of (P:=Tryz.prog) (t:=34) (by kernel_rfl)
  have HU:=Hd (And.intro hi hu)
  have HQ4:Hid ((w5.setRow (w.heap.size+1) #[.int .i64 ((t - f:Nat):Int),.int .i64 ((t - f:Nat):Int),.int .i64 0]).heap[w.heap.size+1]? =some (.cells #[.int .i64 ((t - f:Nat):Int),.int .i64 ((t - f:Nat):Int),.int .i64 0] 34 (0,0))):=Hd (setRow_heap _ _ _ _ _ _ wc)
  have HBF:Hid (Below w.heap.size w (w5.setRow (w.heap.size+1) #[.int .i64 ((t - f:Nat):Int),.int .i64 ((t - f:Nat):Int),.int .i64 0])):=Hd (by
   have hb9:=HB5.out
   refine⟨hb9.os,hb9.tape,hb9.output,?_,fun k hk=> ?_⟩
   · have:=hb9.size
     simpa [World.setRow] using this
   · rw[setRow_other _ _ _ _ (by omega)]
     exact hb9.block k hk)
  clear hi hu HB5 hk
  go_wp2_with (first|(refine wpList_store_row rfl _ _ _ rfl (w.heap.size+1) #[.int .i64 ((t - f:Nat):Int),.int .i64 ((t - f:Nat):Int),.int .i64 0] rfl rfl _ _ wc (by kernel_rfl) rfl (by kernel_rfl) ?_))
  (try simp only[Exit.inBlock,Exit.then])
  exact bodyPost_ret (results_cell_row rfl _ _ (w.heap.size+1) _ _ _ _ rfl HQ4.out HU.out.2 rfl HU.out.1) rfl ⟨rfl,HBF.out⟩
theorem szRef_known (Z M TM n:Nat)(vl:Value)(look:List UInt8→Option (Nat × Nat × Nat))(f t:Nat)(nm:List UInt8)(w:World)(hz:w.heap[Z]? =some (.cells #[.map (some M),.map (some TM),vl] 129 (0,0)))(hM:LkI w M n look)(hK:KnownT w)(hft:f≤t)(ht:t≤1000000)(hs:nm.length≤1000000)(q:Nat)(hn:look nm=none)(hk:knownOf ⟨nm.toArray⟩=q+1) :
 Calls Tryz.prog 95 #[.pointer (some ⟨Z,0,none⟩),.agg #[.int .i64 (f:Nat),.int .i64 (t:Nat),.string ⟨nm.toArray⟩]] w fun e w'=>e= .returned (.agg #[.int .i64 ((t - f:Nat):Int),.int .i64 1,.int .i64 0])∧Below w.heap.size w w':=by
 have c0:w.cell? ⟨Z,0,none⟩=some (.map (some M)):=cell_of 0 hz
 have hzl:=lt_of hz
 have h1:(look nm).getD (0,0,0)=(0,0,0):=by rw[hn];rfl
 have h2:(look nm).isSome=false:=by rw[hn];rfl
 clear hn
 have hs2:nm.length≤9000000000000000000:=by omega
 have hsub:(t:Int) - (f:Int)=((t - f:Nat):Int):=by omega
 have CK:=Hd fun W hW=>crefKnown_c ⟨nm.toArray⟩ W hW
 have HK:=Hd hK
 have HM:=Hd hM
 have HZ:=Hd hz
 clear hz hM hK
 go_enter Tryz.func95,Tryz.ntmps95
 go_wp2_with fail
 have WA:=hp_old (o:=(.cells #[.int .i64 0,.int .i64 0,.int .i64 0] 34)) (hp_new w (.cells #[.int .i64 (f:Nat),.int .i64 (t:Nat),.string ⟨nm.toArray⟩] 107))
 have WC:=hp_new (w.alloc (.cells #[.int .i64 (f:Nat),.int .i64 (t:Nat),.string ⟨nm.toArray⟩] 107)) (.cells #[.int .i64 0,.int .i64 0,.int .i64 0] 34)
 have BW:=((Below.refl w.heap.size w).alloc (Nat.le_refl _) (.cells #[.int .i64 (f:Nat),.int .i64 (t:Nat),.string ⟨nm.toArray⟩] 107)).alloc (by simp) (.cells #[.int .i64 0,.int .i64 0,.int .i64 0] 34)
 rw[show (w.alloc (.cells #[.int .i64 (f:Nat),.int .i64 (t:Nat),.string ⟨nm.toArray⟩] 107)).heap.size=w.heap.size+1 by simp]at WC
 generalize (w.alloc (.cells #[.int .i64 (f:Nat),.int .i64 (t:Nat),.string ⟨nm.toArray⟩] 107)).alloc (.cells #[.int .i64 0,.int .i64 0,.int .i64 0] 34)=W0 at *
 have hM2:LkI W0 M n look:=HM.out.kept (BW.block _ HM.out.lt)
 have d0:W0.cell? ⟨Z,0,none⟩=some (.map (some M)):=cell_of 0 ((BW.block _ hzl).trans HZ.out)
 have a2:W0.cell? ⟨w.heap.size,2,none⟩=some (.string ⟨nm.toArray⟩):=cell_of 2 WA
 have a1:W0.cell? ⟨w.heap.size,1,none⟩=some (.int .i64 (t:Nat)):=cell_of 1 WA
 have a0:W0.cell? ⟨w.heap.size,0,none⟩=some (.int .i64 (f:Nat)):=cell_of 0 WA
 have lk:=run_lookup_sz (w:=W0.drew) (hM2.kept rfl) nm hs2 _ false h1 h2
 have hM3:LkI (W0.alloc (.cells #[.int .i64 0,.int .i64 0,.int .i64 0] 34)).drew M n look:=hM2.kept (show(W0.alloc (.cells #[.int .i64 0,.int .i64 0,.int .i64 0] 34)).heap[M]? =W0.heap[M]? from(((Below.refl W0.heap.size W0).alloc (Nat.le_refl _) (.cells #[.int .i64 0,.int .i64 0,.int .i64 0] 34)).block _ hM2.lt))
 have lk3:=run_lookup_sz (w:=(W0.alloc (.cells #[.int .i64 0,.int .i64 0,.int .i64 0] 34)).drew) hM3 nm hs2 _ false h1 h2
 have e0:(W0.alloc (.cells #[.int .i64 0,.int .i64 0,.int .i64 0] 34)).drew.cell? ⟨Z,0,none⟩=some (.map (some M)):=cell_of 0 (show(W0.alloc (.cells #[.int .i64 0,.int .i64 0,.int .i64 0] 34)).heap[Z]? =_ from hp_old ((BW.block _ hzl).trans HZ.out))
 have e2:(W0.alloc (.cells #[.int .i64 0,.int .i64 0,.int .i64 0] 34)).drew.cell? ⟨w.heap.size,2,none⟩=some (.string ⟨nm.toArray⟩):=cell_of 2 (show(W0.alloc (.cells #[.int .i64 0,.int .i64 0,.int .i64 0] 34)).heap[w.heap.size]? =_ from hp_old WA)
 have HBW:=Hd (And.intro BW (And.intro WA WC))
 clear hs2 hs WA WC BW
 go_region
 all_goals
  have BW9:Below w.heap.size w (W0.alloc (.cells #[.int .i64 0,.int .i64 0,.int .i64 0] 34)).drew:=Below.drew (HBW.out.1.alloc (HBW.out.1.size) _)
  have WA9:(W0.alloc (.cells #[.int .i64 0,.int .i64 0,.int .i64 0] 34)).drew.heap[w.heap.size]? =_:=hp_old HBW.out.2.1
  have WC9:(W0.alloc (.cells #[.int .i64 0,.int .i64 0,.int .i64 0] 34)).drew.heap[w.heap.size+1]? =_:=hp_old HBW.out.2.2
  have WS9:(W0.alloc (.cells #[.int .i64 0,.int .i64 0,.int .i64 0] 34)).drew.heap[W0.heap.size]? =_:=hp_new W0 _
  have HF9:=Hd (And.intro BW9 (And.intro WA9 (And.intro WC9 WS9)))
  clear BW9 WA9 WC9 WS9 lk lk3 e0 e2 hM3 hM2 d0 a0 a1 a2 HBW h1 h2 c0
  generalize (W0.alloc (.cells #[.int .i64 0,.int .i64 0,.int .i64 0] 34)).drew=W9 at *
  generalize W0.heap.size=N at *
  have b2:W9.cell? ⟨w.heap.size,2,none⟩=some (.string ⟨nm.toArray⟩):=cell_of 2 HF9.out.2.1
  go_wp2_with fail
  refine(CK.out W9 (HK.out.below HF9.out.1)).mono ?_
  rintro e w5 ⟨rfl,hb5⟩
  have HB5:Hid (Below w.heap.size w w5):=Hd (HF9.out.1.trans (hb5.mono HF9.out.1.size))
  have wc:w5.heap[w.heap.size+1]? =_:=(hb5.block _ (lt_of HF9.out.2.2.1)).trans HF9.out.2.2.1
  clear hb5 b2
  rw[hk]
  simp only[knownV]
  have hi:(Tryz.prog.info? 34).map (·.size)=some 3:=by kernel_rfl
  obtain⟨dd,hu⟩:=isStruct_of (P:=Tryz.prog) (t:=34) (by kernel_rfl)
  have HU:=Hd (And.intro hi hu)
  have HQ4:Hid ((w5.setRow (w.heap.size+1) #[.int .i64 ((t - f:Nat):Int),.int .i64 1,.int .i64 0]).heap[w.heap.size+1]? =some (.cells #[.int .i64 ((t - f:Nat):Int),.int .i64 1,.int .i64 0] 34 (0,0))):=Hd (setRow_heap _ _ _ _ _ _ wc)
  have HBF:Hid (Below w.heap.size w (w5.setRow (w.heap.size+1) #[.int .i64 ((t - f:Nat):Int),.int .i64 1,.int .i64 0])):=Hd (by
   have hb9:=HB5.out
   refine⟨hb9.os,hb9.tape,hb9.output,?_,fun k hk=> ?_⟩
   · have:=hb9.size
     simpa [World.setRow] using this
   · rw[setRow_other _ _ _ _ (by omega)]
     exact hb9.block k hk)
  clear hi hu HB5 hk
  go_wp2_with (first|(refine wpList_store_row rfl _ _ _ rfl (w.heap.size+1) #[.int .i64 ((t - f:Nat):Int),.int .i64 1,.int .i64 0] rfl rfl _ _ wc (by kernel_rfl) rfl (by kernel_rfl) ?_))
  (try simp only[Exit.inBlock,Exit.then])
  exact bodyPost_ret (results_cell_row rfl _ _ (w.heap.size+1) _ _ _ _ rfl HQ4.out HU.out.2 rfl HU.out.1) rfl ⟨rfl,HBF.out⟩
theorem szRef_ent (Z M TM n:Nat)(vl:Value)(look:List UInt8→Option (Nat × Nat × Nat))(f t:Nat)(nm:List UInt8)(w:World)(hz:w.heap[Z]? =some (.cells #[.map (some M),.map (some TM),vl] 129 (0,0)))(hM:LkI w M n look)(hK:KnownT w)(hft:f≤t)(ht:t≤1000000)(hs:nm.length≤1000000)(yc yl yd:Nat)(hn:look nm=some (yc,yl,yd))(hyc:yc≤9223372036854775807)(hyd:yd≤1000000) :
 Calls Tryz.prog 95 #[.pointer (some ⟨Z,0,none⟩),.agg #[.int .i64 (f:Nat),.int .i64 (t:Nat),.string ⟨nm.toArray⟩]] w fun e w'=>e= .returned (.agg #[.int .i64 (satN (t - f+yc):Nat),.int .i64 (yl:Nat),.int .i64 ((yd:Int)+1)])∧Below w.heap.size w w':=by
 have c0:w.cell? ⟨Z,0,none⟩=some (.map (some M)):=cell_of 0 hz
 have hzl:=lt_of hz
 have h1:(look nm).getD (0,0,0)=(yc,yl,yd):=by rw[hn];rfl
 have h2:(look nm).isSome=true:=by rw[hn];rfl
 clear hn
 have hs2:nm.length≤9000000000000000000:=by omega
 have hsub:(t:Int) - (f:Int)=((t - f:Nat):Int):=by omega
 have CK:=Hd fun W hW=>crefKnown_c ⟨nm.toArray⟩ W hW
 have HK:=Hd hK
 have HM:=Hd hM
 have HZ:=Hd hz
 clear hz hM hK
 go_enter Tryz.func95,Tryz.ntmps95
 go_wp2_with fail
 have WA:=hp_old (o:=(.cells #[.int .i64 0,.int .i64 0,.int .i64 0] 34)) (hp_new w (.cells #[.int .i64 (f:Nat),.int .i64 (t:Nat),.string ⟨nm.toArray⟩] 107))
 have WC:=hp_new (w.alloc (.cells #[.int .i64 (f:Nat),.int .i64 (t:Nat),.string ⟨nm.toArray⟩] 107)) (.cells #[.int .i64 0,.int .i64 0,.int .i64 0] 34)
 have BW:=((Below.refl w.heap.size w).alloc (Nat.le_refl _) (.cells #[.int .i64 (f:Nat),.int .i64 (t:Nat),.string ⟨nm.toArray⟩] 107)).alloc (by simp) (.cells #[.int .i64 0,.int .i64 0,.int .i64 0] 34)
 rw[show (w.alloc (.cells #[.int .i64 (f:Nat),.int .i64 (t:Nat),.string ⟨nm.toArray⟩] 107)).heap.size=w.heap.size+1 by simp]at WC
 generalize (w.alloc (.cells #[.int .i64 (f:Nat),.int .i64 (t:Nat),.string ⟨nm.toArray⟩] 107)).alloc (.cells #[.int .i64 0,.int .i64 0,.int .i64 0] 34)=W0 at *
 have hM2:LkI W0 M n look:=HM.out.kept (BW.block _ HM.out.lt)
 have d0:W0.cell? ⟨Z,0,none⟩=some (.map (some M)):=cell_of 0 ((BW.block _ hzl).trans HZ.out)
 have a2:W0.cell? ⟨w.heap.size,2,none⟩=some (.string ⟨nm.toArray⟩):=cell_of 2 WA
 have a1:W0.cell? ⟨w.heap.size,1,none⟩=some (.int .i64 (t:Nat)):=cell_of 1 WA
 have a0:W0.cell? ⟨w.heap.size,0,none⟩=some (.int .i64 (f:Nat)):=cell_of 0 WA
 have lk:=run_lookup_sz (w:=W0.drew) (hM2.kept rfl) nm hs2 _ true h1 h2
 have hM3:LkI (W0.alloc (.cells #[.int .i64 0,.int .i64 0,.int .i64 0] 34)).drew M n look:=hM2.kept (show(W0.alloc (.cells #[.int .i64 0,.int .i64 0,.int .i64 0] 34)).heap[M]? =W0.heap[M]? from(((Below.refl W0.heap.size W0).alloc (Nat.le_refl _) (.cells #[.int .i64 0,.int .i64 0,.int .i64 0] 34)).block _ hM2.lt))
 have lk3:=run_lookup_sz (w:=(W0.alloc (.cells #[.int .i64 0,.int .i64 0,.int .i64 0] 34)).drew) hM3 nm hs2 _ true h1 h2
 have e0:(W0.alloc (.cells #[.int .i64 0,.int .i64 0,.int .i64 0] 34)).drew.cell? ⟨Z,0,none⟩=some (.map (some M)):=cell_of 0 (show(W0.alloc (.cells #[.int .i64 0,.int .i64 0,.int .i64 0] 34)).heap[Z]? =_ from hp_old ((BW.block _ hzl).trans HZ.out))
 have e2:(W0.alloc (.cells #[.int .i64 0,.int .i64 0,.int .i64 0] 34)).drew.cell? ⟨w.heap.size,2,none⟩=some (.string ⟨nm.toArray⟩):=cell_of 2 (show(W0.alloc (.cells #[.int .i64 0,.int .i64 0,.int .i64 0] 34)).heap[w.heap.size]? =_ from hp_old WA)
 have HBW:=Hd (And.intro BW (And.intro WA WC))
 clear hs2 hs WA WC BW
 go_region
 all_goals
  have BW9:Below w.heap.size w (W0.alloc (.cells #[.int .i64 (yc:Nat),.int .i64 (yl:Nat),.int .i64 (yd:Nat)] 34)).drew:=Below.drew (HBW.out.1.alloc (HBW.out.1.size) _)
  have WA9:(W0.alloc (.cells #[.int .i64 (yc:Nat),.int .i64 (yl:Nat),.int .i64 (yd:Nat)] 34)).drew.heap[w.heap.size]? =_:=hp_old HBW.out.2.1
  have WC9:(W0.alloc (.cells #[.int .i64 (yc:Nat),.int .i64 (yl:Nat),.int .i64 (yd:Nat)] 34)).drew.heap[w.heap.size+1]? =_:=hp_old HBW.out.2.2
  have WS9:(W0.alloc (.cells #[.int .i64 (yc:Nat),.int .i64 (yl:Nat),.int .i64 (yd:Nat)] 34)).drew.heap[W0.heap.size]? =_:=hp_new W0 _
  have HF9:=Hd (And.intro BW9 (And.intro WA9 (And.intro WC9 WS9)))
  clear BW9 WA9 WC9 WS9 lk lk3 e0 e2 hM3 hM2 d0 a0 a1 a2 HBW h1 h2 c0
  generalize (W0.alloc (.cells #[.int .i64 (yc:Nat),.int .i64 (yl:Nat),.int .i64 (yd:Nat)] 34)).drew=W9 at *
  generalize W0.heap.size=N at *
  have s0:W9.drew.cell? ⟨N,0,none⟩=some (.int .i64 (yc:Nat)):=cell_of 0 HF9.out.2.2.2
  have s1:W9.drew.cell? ⟨N,1,none⟩=some (.int .i64 (yl:Nat)):=cell_of 1 HF9.out.2.2.2
  have s2:W9.drew.cell? ⟨N,2,none⟩=some (.int .i64 (yd:Nat)):=cell_of 2 HF9.out.2.2.2
  have CX:Hid (∀ W,Calls Tryz.prog 41 #[.int .i64 ((t - f:Nat):Int),.int .i64 (yc:Nat)] W fun e w'=>e= .returned (.int .i64 (satN (t - f+yc):Nat))∧W=w'):=Hd fun W=>satAdd_c (t - f) yc (by omega) hyc W
  have hy1:(0:Int)≤(yd:Int):=by omega
  have hy2:(yd:Int)≤1000000:=by omega
  have hw1:IntKind.i64.wrap ((yd:Int)+1)=(yd:Int)+1:=IntWalk.i64_in _ (by omega)
  have HC9:Hid (W9.drew.heap[w.heap.size+1]? =_):=Hd HF9.out.2.2.1
  have HB9:Hid (Below w.heap.size w W9.drew):=Hd (Below.drew HF9.out.1)
  clear hyc hyd hy1 hy2
  go_wp2_with fail
  refine wp_region_still_tail 10 (by kernel_rfl) (by kernel_rfl) ?_
  simp only[List.take_succ_cons,List.take_zero,List.drop_succ_cons,List.drop_zero]
  repeat still_step
  still_call ((CX.out _).mono fun e w' ⟨he,hw⟩=>⟨he,hw.symm⟩)
  repeat still_step
  refine wpStill_nil ?_
  change wpList _ _ _ _ _ W9.drew
  have hi:(Tryz.prog.info? 34).map (·.size)=some 3:=by kernel_rfl
  obtain⟨dd,hu⟩:=isStruct_of (P:=Tryz.prog) (t:=34) (by kernel_rfl)
  have HU:=Hd (And.intro hi hu)
  have wc:=HC9.out
  clear hi hu s0 s1 s2
  generalize W9.drew=w5 at *
  have HQ4:Hid ((w5.setRow (w.heap.size+1) #[.int .i64 (satN (t - f+yc):Nat),.int .i64 (yl:Nat),.int .i64 ((yd:Int)+1)]).heap[w.heap.size+1]? =some (.cells #[.int .i64 (satN (t - f+yc):Nat),.int .i64 (yl:Nat),.int .i64 ((yd:Int)+1)] 34 (0,0))):=Hd (setRow_heap _ _ _ _ _ _ wc)
  have HBF:Hid (Below w.heap.size w (w5.setRow (w.heap.size+1) #[.int .i64 (satN (t - f+yc):Nat),.int .i64 (yl:Nat),.int .i64 ((yd:Int)+1)])):=Hd (by
   have hb9:=HB9.out
   refine⟨hb9.os,hb9.tape,hb9.output,?_,fun k hk=> ?_⟩
   · have:=hb9.size
     simpa [World.setRow] using this
   · rw[setRow_other _ _ _ _ (by omega)]
     exact hb9.block k hk)
  clear HB9
  try rw[hw1]
  go_wp2_with (first|(refine wpList_store_row rfl _ _ _ rfl (w.heap.size+1) #[.int .i64 (satN (t - f+yc):Nat),.int .i64 (yl:Nat),.int .i64 ((yd:Int)+1)] rfl rfl _ _ wc (by kernel_rfl) rfl (by kernel_rfl) ?_))
  (try simp only[Exit.inBlock,Exit.then])
  exact bodyPost_ret (results_cell_row rfl _ _ (w.heap.size+1) _ _ _ _ rfl HQ4.out HU.out.2 rfl HU.out.1) rfl ⟨rfl,HBF.out⟩
theorem szRef_c (Z M TM n:Nat)(vl:Value)(look:List UInt8→Option (Nat × Nat × Nat))(f t:Nat)(nm:List UInt8)(w:World)(hz:w.heap[Z]? =some (.cells #[.map (some M),.map (some TM),vl] 129 (0,0)))(hM:LkI w M n look)(hK:KnownT w)(hft:f≤t)(ht:t≤1000000)(hs:nm.length≤1000000)(hl: ∀ nm z,look nm=some z→z.1≤9223372036854775807∧z.2.1≤9223372036854775807∧z.2.2≤1000000) :
 Calls Tryz.prog 95 #[.pointer (some ⟨Z,0,none⟩),.agg #[.int .i64 (f:Nat),.int .i64 (t:Nat),.string ⟨nm.toArray⟩]] w fun e w'=>e= .returned (aggZ (refV look (f,t,nm)))∧Below w.heap.size w w':=by
 unfold refV aggZ
 simp only
 cases hn:look nm with
 |some y =>
  obtain⟨yc,yl,yd⟩:=y
  have h3:=hl _ _ hn
  exact szRef_ent Z M TM n vl look f t nm w hz hM hK hft ht hs yc yl yd hn h3.1 h3.2.2
 |none =>
  by_cases hk:0<knownOf ⟨nm.toArray⟩
  · simp only[hk,if_true]
    exact szRef_known Z M TM n vl look f t nm w hz hM hK hft ht hs (knownOf ⟨nm.toArray⟩ - 1) hn (by omega)
  · simp only[hk,if_false]
    exact szRef_other Z M TM n vl look f t nm w hz hM hK hft ht hs hn (by omega)
end Go.Proofs.YtbafljibbabnaaaGreatDoor
