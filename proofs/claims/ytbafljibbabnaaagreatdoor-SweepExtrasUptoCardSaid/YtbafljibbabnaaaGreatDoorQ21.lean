/- Texts of ours, joined: SzX, GoA. -/
import Derived.Test.YtbafljibbabnaaaGreatDoorQ19
import Derived.Test.YtbafljibbabnaaaGreatDoorQ20
namespace Go.Proofs.YtbafljibbabnaaaGreatDoor
open Go.ChangeShapes Go.WideShapes Go.ChangeAt Go.RowKit
set_option linter.unusedVariables false
set_option maxRecDepth 100000
set_option maxHeartbeats 32000000
def sz3 (z:Nat × Nat × Nat):Array Value:= #[.int .i64 (z.1:Nat),.int .i64 (z.2.1:Nat),.int .i64 (z.2.2:Nat)]
def TxJ (w W1:World)(zz:Nat × Nat × Nat)(W:World):Prop :=
 Below w.heap.size w W∧W.heap[w.heap.size]? =some (.cells #[.int .i64 0,.int .i64 0,.int .i64 0] 34 (0,0))∧W.heap[w.heap.size+1]? =some (.cells (sz3 zz) 34 (0,0))∧W1.heap.size≤W.heap.size∧ ∀ g,w.heap.size+2≤g→g<W1.heap.size→W.heap[g]? =W1.heap[g]?
theorem TxJ.kept {w W1 W W':World}{zz:Nat × Nat × Nat}(h:TxJ w W1 zz W)(hb:Below W.heap.size W W'):TxJ w W1 zz W' :=
 ⟨h.1.trans (hb.mono (Nat.le_of_lt (lt_of h.2.1))),(hb.block _ (lt_of h.2.1)).trans h.2.1,(hb.block _ (lt_of h.2.2.1)).trans h.2.2.1,Nat.le_trans h.2.2.2.1 hb.size,fun g h1 h2=>(hb.block g (Nat.lt_of_lt_of_le h2 h.2.2.2.1)).trans (h.2.2.2.2 g h1 h2)⟩
theorem TxJ.put {w W1 W:World}{zz:Nat × Nat × Nat}(h:TxJ w W1 zz W)(yy:Nat × Nat × Nat):TxJ w W1 yy (W.setRow (w.heap.size+1) (sz3 yy)):=by
 refine⟨?_,?_,setRow_heap _ _ _ _ _ _ h.2.2.1,?_,fun g h1 h2=> ?_⟩
 · refine⟨h.1.os,h.1.tape,h.1.output,?_,fun k hk=> ?_⟩
   · have:=h.1.size
     simpa [World.setRow] using this
   · rw[setRow_other _ _ _ _ (by omega)]
     exact h.1.block k hk
 · rw[setRow_other _ _ _ _ (by omega)]
   exact h.2.1
 · have:=h.2.2.2.1
   simpa [World.setRow] using this
 · rw[setRow_other _ _ _ _ (by omega)]
   exact h.2.2.2.2 g h1 h2
theorem TxJ.at_ {w W1 W:World}{zz:Nat × Nat × Nat}(h:TxJ w W1 zz W):W.cell? ⟨w.heap.size+1,0,none⟩=some (.int .i64 (zz.1:Nat))∧W.cell? ⟨w.heap.size+1,1,none⟩=some (.int .i64 (zz.2.1:Nat))∧W.cell? ⟨w.heap.size+1,2,none⟩=some (.int .i64 (zz.2.2:Nat)):=⟨cell_of 0 h.2.2.1,cell_of 1 h.2.2.1,cell_of 2 h.2.2.1⟩
def RfG (R:Nat)(r:Nat × Nat × List UInt8)(W:World):Prop:=W.heap[R]? =some (.cells #[.int .i64 (r.1:Nat),.int .i64 (r.2.1:Nat),.string ⟨r.2.2.toArray⟩] 107 (0,0))
theorem sumK_le (look:List UInt8→Option (Nat × Nat × Nat))(rs:List (Nat × Nat × List UInt8))(k:Nat):(prgK look rs k).1≤9223372036854775807∧(prgK look rs k).2.1≤9223372036854775807:=⟨satN_le _,satN_le _⟩
theorem sumZ_le (x y:Nat × Nat × Nat):(sumZ x y).1≤9223372036854775807∧(sumZ x y).2.1≤9223372036854775807:=⟨satN_le _,satN_le _⟩
theorem szText_c (Z M TM n:Nat)(vl:Value)(look:List UInt8→Option (Nat × Nat × Nat))(s:List UInt8)(w:World)(hz:w.heap[Z]? =some (.cells #[.map (some M),.map (some TM),vl] 129 (0,0)))(hM:LkI w M n look)(hK:KnownT w)(hF:Forms w)(hT:Tabs w)(hl: ∀ nm z,look nm=some z→z.1≤9223372036854775807∧z.2.1≤9223372036854775807∧z.2.2≤1000000)(hs:s.length≤20000) :
 Calls Tryz.prog 65 #[.pointer (some ⟨Z,0,none⟩),.string ⟨s.toArray⟩] w fun e w'=>e= .returned (aggZ (sizeT look s))∧Below w.heap.size w w':=by
 have kb0:Below w.heap.size w ((w.alloc (.cells #[.int .i64 0,.int .i64 0,.int .i64 0] 34)).alloc (.cells #[.int .i64 0,.int .i64 0,.int .i64 0] 34)):=((Below.refl w.heap.size w).alloc (Nat.le_refl _) _).alloc (by simp) _
 have CA:=Hd (refsAllP_c s ((w.alloc (.cells #[.int .i64 0,.int .i64 0,.int .i64 0] 34)).alloc (.cells #[.int .i64 0,.int .i64 0,.int .i64 0] 34)) (hF.below kb0 hF.lt) (hT.below kb0 (hT.low hF)) hs)
 have e0:=hp_old (o:= .cells #[.int .i64 0,.int .i64 0,.int .i64 0] 34) (hp_new w (.cells #[.int .i64 0,.int .i64 0,.int .i64 0] 34))
 have e1:=hp_new (w.alloc (.cells #[.int .i64 0,.int .i64 0,.int .i64 0] 34)) (.cells #[.int .i64 0,.int .i64 0,.int .i64 0] 34)
 rw[show (w.alloc (.cells #[.int .i64 0,.int .i64 0,.int .i64 0] 34)).heap.size=w.heap.size+1 by simp]at e1
 have hsz:((w.alloc (.cells #[.int .i64 0,.int .i64 0,.int .i64 0] 34)).alloc (.cells #[.int .i64 0,.int .i64 0,.int .i64 0] 34)).heap.size=w.heap.size+2:=by simp
 rw[hsz]at CA
 have E01:=Hd (And.intro e0 (And.intro e1 kb0))
 have HW:=Hd (And.intro hz (And.intro hM (And.intro hK hl)))
 have HS:=Hd hs
 have CR:Hid (∀ W,Below w.heap.size w W→ ∀ r∈rfsA s 0,Calls Tryz.prog 95 #[.pointer (some ⟨Z,0,none⟩),.agg #[.int .i64 (r.1:Nat),.int .i64 (r.2.1:Nat),.string ⟨r.2.2.toArray⟩]] W fun e w'=>e= .returned (aggZ (refV look r))∧Below W.heap.size W w'):=Hd fun W hb r hr=>by
  obtain⟨k,hk⟩:=List.getElem?_of_mem hr
  obtain⟨_,h2,h3⟩:=rfs_ord hk
  exact szRef_c Z M TM n vl look r.1 r.2.1 r.2.2 W ((hb.block _ (lt_of hz)).trans hz) (hM.kept (hb.block _ hM.lt)) (hK.below hb) (by omega) (by omega) (by have:=rfsF_len s _ _ r hr;omega) hl
 have hrl:=rfsA_len s s.length 0 (by omega)
 clear hz hM hK hF hT hl e0 e1 kb0
 go_enter Tryz.func65,Tryz.ntmps65
 go_wp2_with fail
 refine CA.out.mono ?_
 rintro e W1 ⟨OA,oc,rfl,hown,hb1⟩
 have hJ1:TxJ w W1 (0,0,0) W1:=⟨E01.out.2.2.trans (hb1.mono (by omega)),(hb1.block _ (by omega)).trans E01.out.1,(hb1.block _ (by omega)).trans E01.out.2.1,Nat.le_refl _,fun g _ _=>rfl⟩
 obtain⟨m,hm⟩: ∃ m,(rfsA s 0).length=m:=⟨_,rfl⟩
 have HM:=Hd hm
 have HR:Hid (∀ zz W,TxJ w W1 zz W→RRd cRf 3 W W.heap.size OA m oc (rfsA s 0)):=Hd fun zz W h=>by
  obtain⟨A,cp,e,hr⟩:=OwnC.rrd (c:=cRf) (k:=3) (fun _=>rfl) (by decide) (hown.keep (fun g h1 h2=>h.2.2.2.2 g h1 h2))
  cases e
  rw[hm]at hr
  exact hr
 have J0:Hid (TxJ w W1 (prgK look (rfsA s 0) 0) W1):=Hd (by rw[prg_zero];exact hJ1)
 rw[hm]at hrl ⊢
 clear CA hown hb1 hJ1 hm E01
 go_wp2_with fail
 go_loopg [6,15] (m) (fun gg av iv wr=> ∃ k:Nat,iv= .int .i64 (k:Int)∧k≤m∧Hid (gg+k=m)∧av= .int .i64 (atK (rfsA s 0) k:Nat)∧Hid (TxJ w W1 (prgK look (rfsA s 0) k) wr))
 case atStart=>exact⟨0,rfl,Nat.zero_le _,Hd rfl,by rw[atK];rfl,J0⟩
 case round =>
  clear J0
  obtain⟨k,rfl,hk,hg,rfl,HJ⟩:=hrel
  have hk0:(0:Int)≤(k:Int):=by omega
  have hk9:(k:Int)≤20000:=by omega
  by_cases hkm:k<m
  · have hki:(k:Int)<(m:Int):=by omega
    obtain⟨b1,o1,r,rfl,hb1,hr,hc1⟩:=(HR.out _ wr HJ.out).cell hkm
    have HR9:=Hd hr
    obtain⟨ho1,ho2,ho3⟩:=rfs_ord hr
    have hmem:=List.mem_of_getElem? hr
    have HST:=Hd (prg_step (look:=look) hr)
    have HAT:=Hd (atK_succ hr)
    have hpk:=sumK_le look (rfsA s 0) k
    have CRr:Hid (∀ W,Below w.heap.size w W→_):=Hd fun W hb=>CR.out W hb r hmem
    have hrv:(refV look r).1≤9223372036854775807∧(refV look r).2.1≤9223372036854775807:=by
     unfold refV
     split
     · rename_i z hz
       exact⟨satN_le _,(HW.out.2.2.2 _ _ hz).2.1⟩
     · have:=HS.out
       split <;> (simp only;omega)
    obtain⟨f,t,nm⟩:=r
    simp only at *
    generalize atK (rfsA s 0) k=a at *
    have hda:(f:Int) - (a:Int)=((f - a:Nat):Int):=by omega
    have hs9:=HS.out
    have hwr:IntKind.i64.wrap ((f:Int) - (a:Int))=((f - a:Nat):Int):=by rw[hda];exact IntWalk.i64_in _ (by omega)
    have hdb:f - a≤20000:=by omega
    obtain⟨d,hd⟩: ∃ d,f - a=d:=⟨_,rfl⟩
    rw[hd]at hwr hdb HST
    generalize prgK look (rfsA s 0) k=P at *
    generalize refV look (f,t,nm)=V at *
    have y0:wr.cell? ⟨b1,o1+k*3,none⟩=some (.int .i64 (f:Nat)):=by rw[show o1+k*3=o1+(k*3+0)by omega];exact hc1 0 _ rfl
    have y1:wr.cell? ⟨b1,o1+k*3+1,none⟩=some (.int .i64 (t:Nat)):=by rw[show o1+k*3+1=o1+(k*3+1)by omega];exact hc1 1 _ rfl
    have y2:wr.cell? ⟨b1,o1+k*3+2,none⟩=some (.string ⟨nm.toArray⟩):=by rw[show o1+k*3+2=o1+(k*3+2)by omega];exact hc1 2 _ rfl
    have J2:TxJ w W1 P (wr.alloc (.cells #[.int .i64 (f:Nat),.int .i64 (t:Nat),.string ⟨nm.toArray⟩] 107)):=HJ.out.kept ((Below.refl _ _).alloc (Nat.le_refl _) _)
    have G2:RfG wr.heap.size (f,t,nm) (wr.alloc (.cells #[.int .i64 (f:Nat),.int .i64 (t:Nat),.string ⟨nm.toArray⟩] 107)):=hp_new wr _
    have JG:Hid (TxJ w W1 P (wr.alloc (.cells #[.int .i64 (f:Nat),.int .i64 (t:Nat),.string ⟨nm.toArray⟩] 107)).drew∧RfG wr.heap.size (f,t,nm) (wr.alloc (.cells #[.int .i64 (f:Nat),.int .i64 (t:Nat),.string ⟨nm.toArray⟩] 107)).drew):=Hd ⟨J2.kept (Below.drew (Below.refl _ _)),G2⟩
    obtain⟨R,hR⟩: ∃ R,wr.heap.size=R:=⟨_,rfl⟩
    rw[hR]at JG
    have HRN:Hid (R≠w.heap.size+1):=Hd (by have:=lt_of HJ.out.2.2.1;omega)
    have AT:Hid (∀ W,TxJ w W1 P W∧RfG R (f,t,nm) W→(W.cell? ⟨w.heap.size+1,0,none⟩=some (.int .i64 (P.1:Nat))∧W.cell? ⟨w.heap.size+1,1,none⟩=some (.int .i64 (P.2.1:Nat))∧W.cell? ⟨w.heap.size+1,2,none⟩=some (.int .i64 (P.2.2:Nat)))∧W.cell? ⟨R,0,none⟩=some (.int .i64 (f:Nat))∧W.cell? ⟨R,1,none⟩=some (.int .i64 (t:Nat))∧W.cell? ⟨R,2,none⟩=some (.string ⟨nm.toArray⟩)):=Hd fun W h=>⟨h.1.at_,cell_of 0 h.2,cell_of 1 h.2,cell_of 2 h.2⟩
    have KP: ∀ W W',TxJ w W1 P W∧RfG R (f,t,nm) W→Below W.heap.size W W'→TxJ w W1 P W'∧RfG R (f,t,nm) W':=fun W W' h hb=>⟨h.1.kept hb,(hb.block _ (lt_of h.2)).trans h.2⟩
    have S1:Hid (∀ W,Hid (TxJ w W1 P W∧RfG R (f,t,nm) W)→Calls Tryz.prog 17 #[.agg #[.int .i64 (P.1:Nat),.int .i64 (P.2.1:Nat),.int .i64 (P.2.2:Nat)],.agg #[.int .i64 (d:Nat),.int .i64 (d:Nat),.int .i64 0]] W fun e w'=>e= .returned (aggZ (sumZ P (d,d,0)))∧Hid (TxJ w W1 P w'∧RfG R (f,t,nm) w')):=Hd fun W h =>
     (sumZ_c P (d,d,0) hpk ⟨by simp only;omega,by simp only;omega⟩ W).mono fun e w' ⟨he,hb⟩=>⟨he,Hd (KP W w' h.out hb)⟩
    have S2:Hid (∀ W,Hid (TxJ w W1 P W∧RfG R (f,t,nm) W)→Calls Tryz.prog 17 #[aggZ (sumZ P (d,d,0)),aggZ V] W fun e w'=>e= .returned (.agg #[.int .i64 ((sumZ (sumZ P (d,d,0)) V).1:Nat),.int .i64 ((sumZ (sumZ P (d,d,0)) V).2.1:Nat),.int .i64 ((sumZ (sumZ P (d,d,0)) V).2.2:Nat)])∧Hid (TxJ w W1 P w'∧RfG R (f,t,nm) w')):=Hd fun W h =>
     (sumZ_c (sumZ P (d,d,0)) V (sumZ_le _ _) hrv W).mono fun e w' ⟨he,hb⟩=>⟨he,Hd (KP W w' h.out hb)⟩
    have S3:Hid (∀ W,Hid (TxJ w W1 P W∧RfG R (f,t,nm) W)→Calls Tryz.prog 95 #[.pointer (some ⟨Z,0,none⟩),.agg #[.int .i64 (f:Nat),.int .i64 (t:Nat),.string ⟨nm.toArray⟩]] W fun e w'=>e= .returned (aggZ V)∧Hid (TxJ w W1 P w'∧RfG R (f,t,nm) w')):=Hd fun W h =>
     (CRr.out W h.out.1.1).mono fun e w' ⟨he,hb⟩=>⟨he,Hd (KP W w' h.out hb)⟩
    have HD:=Hd hd
    obtain⟨Q,hQ⟩: ∃ Q,sumZ P (d,d,0)=Q:=⟨_,rfl⟩
    rw[hQ]at S1 S2 HST
    obtain⟨U,hU⟩: ∃ U,sumZ Q V=U:=⟨_,rfl⟩
    rw[hU]at S2 HST
    have HKB:=Hd hki
    clear J2 G2 KP CR hc1 hb1 hr hmem hpk hrv hda hs9 hdb hd hQ hU ho1 ho2 ho3 CRr
    go_wp2_with fail
    (try rw[hR])
    clear hR y0 y1 y2
    generalize (wr.alloc (.cells #[.int .i64 (f:Nat),.int .i64 (t:Nat),.string ⟨nm.toArray⟩] 107))=wa at *
    refine wp_region_calm (fun W=>Hid (TxJ w W1 P W∧RfG R (f,t,nm) W)) 15 (by kernel_rfl) (by kernel_rfl) JG ?_
    simp only[List.take_succ_cons,List.take_zero,List.drop_succ_cons,List.drop_zero]
    repeat
     refine wpQuiet_step (fun K hK=> ?_)
     go_simp
     first
       |(refine hK _ ?_;clear hK K)
       |(apply Exists.intro
         refine⟨fun W hW=> ?_,hK _ ?_⟩
         · first
            |exact rfl
            |(with_reducible exact S1.out W hW)
            |(with_reducible exact S2.out W hW)
            |(with_reducible exact S3.out W hW)
            |(obtain⟨⟨a0,a1,a2⟩,r0,r1,r2⟩:=AT.out W hW.out;go_simp;done)
            |(obtain⟨⟨a0,a1,a2⟩,r0,r1,r2⟩:=AT.out W hW.out;go_simp;exact rfl)
         clear hK K)
    refine wpQuiet_nil ?_
    intro w9 hw9
    have wc:=hw9.out.1.2.2.1
    have J9:=Hd (hw9.out.1.put U)
    have g9:(w9.setRow (w.heap.size+1) (sz3 U)).cell? ⟨R,1,none⟩=some (.int .i64 (t:Nat)):=cell_of 1 (show(w9.setRow (w.heap.size+1) (sz3 U)).heap[R]? =_ from(setRow_other _ _ _ _ HRN.out).trans hw9.out.2)
    unfold sz3 at J9 g9 wc
    clear S1 S2 S3 AT JG hw9
    go_wp2_with (first|(refine wpList_store_row rfl _ _ _ rfl (w.heap.size+1) #[.int .i64 (U.1:Nat),.int .i64 (U.2.1:Nat),.int .i64 (U.2.2:Nat)] rfl rfl _ _ wc (by kernel_rfl) rfl (by kernel_rfl) ?_))
    go_roundg (m - (k+1))
    case measure=>have:=hg.out;omega
    case rel=>exact⟨k+1,by go_num,by omega,Hd (by have:=hg.out;omega),by rw[HAT.out],Hd (by rw[← HST.out];exact J9.out)⟩
  · obtain rfl:k=m:=by omega
    have hki: ¬ (k:Int)<(k:Int):=by omega
    have hpk:=sumK_le look (rfsA s 0) k
    have hat:=atK_le s k (by rw[HM.out];exact Nat.le_refl _)
    have HEND:=Hd (prg_end look s)
    rw[HM.out]at HEND
    have hs9:=HS.out
    generalize atK (rfsA s 0) k=a at *
    obtain⟨d,hd⟩: ∃ d,s.length - a=d:=⟨_,rfl⟩
    have hda:(s.length:Int) - (a:Int)=(d:Int):=by omega
    have hwr:IntKind.i64.wrap ((s.length:Int) - (a:Int))=(d:Int):=by rw[hda];exact IntWalk.i64_in _ (by omega)
    rw[hd]at HEND
    have hd9:d≤20000:=by omega
    generalize prgK look (rfsA s 0) k=P at *
    have S1:=Hd (sumZ_c P (d,d,0) hpk ⟨by simp only;omega,by simp only;omega⟩ wr)
    unfold aggZ at S1
    simp only at S1
    obtain⟨a0,a1,a2⟩:=HJ.out.at_
    obtain⟨L,hL⟩: ∃ L,s.length=L:=⟨_,rfl⟩
    rw[hL]at hda hwr
    have HL:=Hd hL
    have hd0:(0:Int)≤(d:Int):=by omega
    have hd8:(d:Int)≤20000:=by omega
    clear hs hs9 hpk hat hd hd9 HR CR
    go_wp2_with fail
    refine S1.out.mono ?_
    rintro e w5 ⟨rfl,hb5⟩
    have HB5:=Hd (HJ.out.1.trans (hb5.mono HJ.out.1.size))
    have wc:w5.heap[w.heap.size]? =_:=(hb5.block _ (lt_of HJ.out.2.1)).trans HJ.out.2.1
    have HE:Hid (sumZ P (d,d,0)=sizeT look s):=HEND
    clear S1 a0 a1 a2 hb5 HJ HEND
    have hi:(Tryz.prog.info? 34).map (·.size)=some 3:=by kernel_rfl
    obtain⟨dd,hu⟩:=isStruct_of (P:=Tryz.prog) (t:=34) (by kernel_rfl)
    have HU:=Hd (And.intro hi hu)
    generalize sumZ P (d,d,0)=U at *
    have HQ4:Hid ((w5.setRow (w.heap.size) #[.int .i64 (U.1:Nat),.int .i64 (U.2.1:Nat),.int .i64 (U.2.2:Nat)]).heap[w.heap.size]? =some (.cells #[.int .i64 (U.1:Nat),.int .i64 (U.2.1:Nat),.int .i64 (U.2.2:Nat)] 34 (0,0))):=Hd (setRow_heap _ _ _ _ _ _ wc)
    have HBF:Hid (Below w.heap.size w (w5.setRow (w.heap.size) #[.int .i64 (U.1:Nat),.int .i64 (U.2.1:Nat),.int .i64 (U.2.2:Nat)])):=Hd (by
     have hb9:=HB5.out
     refine⟨hb9.os,hb9.tape,hb9.output,?_,fun k hk=> ?_⟩
     · have:=hb9.size
       simpa [World.setRow] using this
     · rw[setRow_other _ _ _ _ (by omega)]
       exact hb9.block k hk)
    clear hi hu HB5
    go_wp2_with (first|(refine wpList_store_row rfl _ _ _ rfl (w.heap.size) #[.int .i64 (U.1:Nat),.int .i64 (U.2.1:Nat),.int .i64 (U.2.2:Nat)] rfl rfl _ _ wc (by kernel_rfl) rfl (by kernel_rfl) ?_))
    (try simp only[Exit.inBlock,Exit.then])
    exact bodyPost_ret (results_cell_row rfl _ _ (w.heap.size) _ _ _ _ rfl HQ4.out HU.out.2 rfl HU.out.1) rfl ⟨by rw[← HE.out];rfl,HBF.out⟩
def AtI (w:World)(b:Nat)(acc:List (List UInt8)):Prop:= ∃ D:DataW Unit,w.ownsMap Tryz.prog 9 (Go.plainElem Tryz.prog 3) b acc.length D∧(∀ s:List UInt8,Go.Maps.has D (.string s)=acc.contains s)∧ ∀ s:List UInt8,s∈acc→D.atKey (.string s) (.lit (.int .i64 0))= .lit (.int .i64 (acc.idxOf s:Nat))
theorem AtI.start (w:World):AtI (w.alloc (.map #[] 0)) w.heap.size []:=⟨.map [],World.ownsMap_made _ _ _ _,fun s=>rfl,fun s h=>by cases h⟩
theorem atI_snoc {D:DataW Unit}{acc:List (List UInt8)}{x:List UInt8}(hi:Go.Maps.IsMap D)(hx:acc.contains x=false)(hh: ∀ s:List UInt8,Go.Maps.has D (.string s)=acc.contains s)(ha: ∀ s:List UInt8,s∈acc→D.atKey (.string s) (.lit (.int .i64 0))= .lit (.int .i64 (acc.idxOf s:Nat))) :
 (∀ s:List UInt8,Go.Maps.has (D.put (.string x) (.lit (.int .i64 (acc.length:Nat)))) (.string s)=(acc++ [x]).contains s)∧ ∀ s:List UInt8,s∈acc++ [x]→(D.put (.string x) (.lit (.int .i64 (acc.length:Nat)))).atKey (.string s) (.lit (.int .i64 0))= .lit (.int .i64 ((acc++ [x]).idxOf s:Nat)):=by
 have hxn:x ∉ acc:=by simpa using hx
 refine⟨fun s=> ?_,fun s hs=> ?_⟩
 · by_cases e:s=x
   · subst e
     rw[Go.Maps.has_put_same hi (by simp[WideAt.IsKeyLit])]
     simp
   · rw[Go.Maps.has_put_other (by simpa using e),hh]
     simp[e]
 · by_cases e:s=x
   · subst e
     rw[Go.Maps.atKey_put_same hi (by simp[WideAt.IsKeyLit]),List.idxOf_append,if_neg hxn]
     simp
   · have hs':s∈acc:=by
      rcases List.mem_append.1 hs with h|h
      · exact h
      · rw[List.mem_singleton]at h;exact absurd h e
     rw[Go.Maps.atKey_put_other (by simpa using e),ha s hs',List.idxOf_append,if_pos hs']
theorem AtI.kept {w w':World}{b:Nat}{acc:List (List UInt8)}(h:AtI w b acc)(hb:w'.heap[b]? =w.heap[b]?):AtI w' b acc:=by
 obtain⟨D,h1,h2,h3⟩:=h
 obtain⟨es,clock,hq,r⟩:=h1
 exact⟨D,⟨es,clock,hb.trans hq,r⟩,h2,h3⟩
theorem AtI.lt {w:World}{b:Nat}{acc:List (List UInt8)}(h:AtI w b acc):b<w.heap.size:=by
 obtain⟨D,h1,_⟩:=h
 exact h1.lt
structure OgP (G q:Nat) (xs:Array Value) (vG vN vT:Value) (accM names texts:List (List UInt8)) (w W:World):Prop where
 below:Below G w W
 graph:W.heap[G]? =some (.cells #[vG,.slice none 0 0] 60 (0,0))
 nms:OwnC cS1 1 9 W (G+2) vN names
 txs:OwnC cS1 1 9 W (G+2) vT texts
 apart: ∀ b,vN.ownBlock=some b→vT.ownBlock≠some b
 map:AtI W (G+1) accM
 ent:W.heap[q]? =some (.cells xs 43 (0,0))
 hq:G+2≤q
theorem OgP.kept {G q:Nat}{xs:Array Value}{vG vN vT:Value}{accM names texts:List (List UInt8)}{w W W':World}(h:OgP G q xs vG vN vT accM names texts w W)(hb:Below W.heap.size W W'):OgP G q xs vG vN vT accM names texts w W' :=
 ⟨h.below.trans (hb.mono (Nat.le_of_lt (lt_of h.graph))),(hb.block _ (lt_of h.graph)).trans h.graph,h.nms.kept hb,h.txs.kept hb,h.apart,h.map.kept (hb.block _ h.map.lt),(hb.block _ (lt_of h.ent)).trans h.ent,h.hq⟩
theorem OgP.alloc {G q:Nat}{xs:Array Value}{vG vN vT:Value}{accM names texts:List (List UInt8)}{w W:World}(h:OgP G q xs vG vN vT accM names texts w W)(o:Obj):OgP G q xs vG vN vT accM names texts w (W.alloc o):=h.kept ((Below.refl _ W).alloc (Nat.le_refl _) _)
theorem OgP.drew {G q:Nat}{xs:Array Value}{vG vN vT:Value}{accM names texts:List (List UInt8)}{w W:World}(h:OgP G q xs vG vN vT accM names texts w W):OgP G q xs vG vN vT accM names texts w W.drew:=h.kept (Below.refl _ W).drew
theorem OgP.setG {G q:Nat}{xs:Array Value}{vG vN vT:Value}{accM names texts:List (List UInt8)}{w W:World}(h:OgP G q xs vG vN vT accM names texts w W)(v:Value):OgP G q xs v vN vT accM names texts w (W.setCell ⟨G,0,none⟩ v):=by
 have:=h.hq
 exact⟨h.below.setCell (p:=⟨G,0,none⟩) (Nat.le_refl _) _,hp_set h.graph,h.nms.keep fun g h1 _=>hp_other (by omega),h.txs.keep fun g h1 _=>hp_other (by omega),h.apart,h.map.kept (hp_other (by omega)),(hp_other (by omega)).trans h.ent,h.hq⟩
theorem OgP.at_ {G q:Nat}{xs:Array Value}{vG vN vT:Value}{accM names texts:List (List UInt8)}{w W:World}(h:OgP G q xs vG vN vT accM names texts w W):W.cell? ⟨G,0,none⟩=some vG∧W.frozen? ⟨G,0,none⟩=false:=⟨by rw[cell_of 0 h.graph];rfl,free_of 0 h.graph⟩
theorem OgP.other {G q:Nat}{xs:Array Value}{vG vN vT:Value}{accM names texts:List (List UInt8)}{w W W':World}(h:OgP G q xs vG vN vT accM names texts w W){v:Value}{l:List (List UInt8)}(hv:OwnC cS1 1 9 W (G+2) v l)(hg:W.grownBy W' v.ownBlock) :
 Below G w W'∧W'.heap[G]? =some (.cells #[vG,.slice none 0 0] 60 (0,0))∧AtI W' (G+1) accM∧W'.heap[q]? =some (.cells xs 43 (0,0)):=by
 have hne: ∀ k,k<G+2→some k≠v.ownBlock:=fun k hk e=>by have:=(hv.ge e.symm).2;omega
 refine⟨h.below.grown hg (Nat.le_of_lt (lt_of h.graph)) (fun k hk=>by have:=(hv.ge hk).2;omega),(hg.block _ (lt_of h.graph) (hne _ (by omega))).trans h.graph,h.map.kept (hg.block _ h.map.lt (hne _ (by omega))),?_⟩
 rw[hg.block q (lt_of h.ent) (ownsRow_type hv h.ent fun vs f e=>by injection e with _ e2 _;exact absurd e2 (by decide))]
 exact h.ent
theorem OwnC.off {α:Type}{c:α→List Value}{k:Nat}{e:TypeId}{w w':World}{base:Nat}{v:Value}{l:List α}(h:OwnC c k e w base v l){row:Option Nat}(hg:w.grownBy w' row)(hr: ∀ b,v.ownBlock=some b→row≠some b):OwnC c k e w' base v l:=by
 obtain⟨hl,h2|⟨g,cap,cur,hv,hgb,hh,r⟩⟩:=h
 · exact⟨hl,.inl h2⟩
 · exact⟨hl,.inr ⟨g,cap,cur,hv,hgb,(hg.block g (lt_of hh) (fun e=>hr g (by rw[hv];rfl) e.symm)).trans hh,r⟩⟩
theorem OgP.appN {G q:Nat}{xs:Array Value}{vG vN vT:Value}{accM names texts:List (List UInt8)}{w W W':World}{v':Value}{x:List UInt8}(h:OgP G q xs vG vN vT accM names texts w W)(h6:OwnC cS1 1 9 W' (G+2) v' (names++ [x]))(hg:W.grownBy W' vN.ownBlock)(hat:v'.ownBlock=vN.ownBlock∨v'.ownBlock=some W.heap.size):OgP G q xs vG v' vT accM (names++ [x]) texts w W':=by
 obtain⟨h1,h2,h3,h4⟩:=h.other h.nms hg
 refine⟨h1,h2,h6,h.txs.off hg (fun b hb e=>h.apart b e hb),fun b hb e=> ?_,h3,h4,h.hq⟩
 rcases hat with h7|h7
 · exact h.apart b (by rw[← h7];exact hb) e
 · rw[h7]at hb
   cases hb
   have:=(h.txs.ge e).1
   omega
theorem OgP.appT {G q:Nat}{xs:Array Value}{vG vN vT:Value}{accM names texts:List (List UInt8)}{w W W':World}{v':Value}{x:List UInt8}(h:OgP G q xs vG vN vT accM names texts w W)(h6:OwnC cS1 1 9 W' (G+2) v' (texts++ [x]))(hg:W.grownBy W' vT.ownBlock)(hat:v'.ownBlock=vT.ownBlock∨v'.ownBlock=some W.heap.size):OgP G q xs vG vN v' accM names (texts++ [x]) w W':=by
 obtain⟨h1,h2,h3,h4⟩:=h.other h.txs hg
 refine⟨h1,h2,h.nms.off hg (fun b hb e=>h.apart b hb e),h6,fun b hb e=> ?_,h3,h4,h.hq⟩
 rcases hat with h7|h7
 · exact h.apart b hb (by rw[← h7];exact e)
 · rw[h7]at e
   cases e
   have:=(h.nms.ge hb).1
   omega
end Go.Proofs.YtbafljibbabnaaaGreatDoor
