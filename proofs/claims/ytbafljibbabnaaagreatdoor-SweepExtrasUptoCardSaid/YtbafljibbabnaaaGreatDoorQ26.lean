/- Texts of ours, joined: Lit2, Lit3, Lit4. -/
import Derived.Test.YtbafljibbabnaaaGreatDoorQ25
namespace Go.Proofs.YtbafljibbabnaaaGreatDoor
open Go.ChangeShapes Go.WideShapes Go.ChangeAt Go.RowKit
set_option linter.unusedVariables false
set_option maxRecDepth 100000
set_option maxHeartbeats 32000000
theorem refAt_in (m:UInt8)(l:List UInt8)(k:Nat)(h:k≤l.length):refAt m l (k:Int)=refOut m l k:=by
 unfold refAt;rw[if_neg (by omega),Int.toNat_natCast]
theorem charAt_in (l:List UInt8)(k:Nat)(h:k≤l.length):charAt l (k:Int)=charOut l k:=by
 unfold charAt;rw[if_neg (by omega),Int.toNat_natCast]
theorem refs_c (l:List UInt8)(w:World)(hT:Tabs w)(hF:Forms w)(hm:l.length≤40000) :
 Calls Tryz.prog 170 #[.string ⟨l.toArray⟩] w fun e w'=>e= .returned (.tuple #[.int .i64 (refsOut l).1,.int .i64 (refsOut l).2])∧Below w.heap.size w w':=by
 have hsz:(⟨l.toArray⟩:ByteArray).size=l.length:=by simp[ByteArray.size]
 obtain⟨cp,w1,hcv,hb1,hs1,hby⟩:=toBytes w l (by omega)
 rw[show w.heap.size+1=w1.heap.size by omega]at hby
 have hL:=hT.low hF
 have kc:=fun (w:World) (C:Array Value) (n c:Nat)=>Lib.run_convert_bytes_const (P:=Tryz.prog) w 29 5 C n c Tryz.underlying29 Tryz.underlying5
 have HT1:=Hd (hT.below hb1 hL)
 have HF1:=Hd (hF.below hb1 hF.lt)
 have HL1:=Hd (Tabs.low HT1.out HF1.out)
 have HBY:=Hd hby
 have HB1:=Hd hb1
 have hcap:=hby.le
 have HRES:=Hd (refsOut_eq l)
 clear hT hF hL hb1 hs1 hby
 generalize refsOut l=res at *
 go_enter Tryz.func170,Tryz.ntmps170
 go_wp2
 go_loopg [5] (l.length+1) (fun g a wr=> ∃ k:Nat,k≤l.length∧Hid (g+k=l.length+1)∧a= .int .i64 (k:Int)∧Hid (refsFrom l k=res)∧Hid (Below w1.heap.size w1 wr))
 case atStart=>exact⟨0,Nat.zero_le _,Hd (by omega),rfl,Hd HRES.out.symm,Hd (Below.refl _ _)⟩
 case round =>
  obtain⟨k,hk,hg,rfl,HR,BR⟩:=hrel
  have hk0:(0:Int)≤(k:Int):=by omega
  have hk1:(k:Int)≤40000:=by omega
  have hrf: ∀ w2:World,(Instr.slice 29 (.slice (some ⟨w.heap.size,0,none⟩) l.length cp) (some (.int .i64 (k:Int))) none none).run Tryz.prog w2= .ok (.slice (cutA (some ⟨w.heap.size,0,none⟩) cp k) (l.length - k) (cp - k)) w2:=fun w2=>run_from (w:=w2) _ l.length cp k hk
  have HI:Hid (Calls Tryz.prog 67 #[.slice (cutA (some ⟨w.heap.size,0,none⟩) cp k) (l.length - k) (cp - k),.int .u8 38] wr fun e w'=>e= .returned (.int .i64 (Lib.indexByte (l.drop k) 38))∧w'=wr):=Hd (indexByte_c _ _ _ (l.drop k) 38 wr _ ((HBY.out.below BR.out).drop hk))
  have hlo:=ix_lo 38 (l.drop k)
  rw[List.length_drop]at hlo
  by_cases hx:Lib.indexByte (l.drop k) 38<0
  · have hno:=ix_none 38 (l.drop k) hx
    have HE:Hid (res=(0,0)):=Hd (by
     rw[← HR.out,refsFrom_skips l k (l.length - k) (by omega) (fun j hj=>by have:=hno j;rwa [List.getElem?_drop]at this),refsFrom_end l _ (by omega)])
    have hd:decide (Lib.indexByte (l.drop k) 38<0)=true:=by simpa using hx
    clear hlo hno hx
    generalize Lib.indexByte (l.drop k) 38=ix at *
    go_wp2_with fail
    refine HI.out.mono ?_
    rintro e w2 ⟨rfl,rfl⟩
    clear hcv kc
    go_wp2
    go_ret2
    rw[HE.out]
    exact⟨rfl,HB1.out.trans (BR.out.mono HB1.out.size)⟩
  · obtain⟨hat,hno⟩:=ix_at 38 (l.drop k) (by omega)
    obtain⟨j,hj⟩: ∃ j:Nat,Lib.indexByte (l.drop k) 38=(j:Int):=⟨(Lib.indexByte (l.drop k) 38).toNat,by omega⟩
    rw[hj]at HI hlo hat hno
    rw[Int.toNat_natCast,List.getElem?_drop]at hat
    have hpl:k+j<l.length:=by omega
    have HSK:Hid (refsFrom l (k+j)=res):=Hd (by
     rw[← HR.out,refsFrom_skips l k j (by omega) (fun i hi=>by have:=hno i (by omega);rwa [List.getElem?_drop]at this)])
    have HAT:=Hd hat
    have hjj:decide ((j:Int)<0)=false:=by simp
    have hj0:(0:Int)≤(j:Int):=by omega
    have hjl:=hlo.2
    clear hlo hno hx hj hat
    have hw1:IntKind.i64.wrap ((k:Int)+(j:Int))=((k+j:Nat):Int):=by rw[IntKind.wrap_i64];omega
    have hw2:(k:Int)+(j:Int)=((k+j:Nat):Int):=by omega
    have hw3:(((k+j:Nat):Int))=(k:Int)+(j:Int):=by omega
    have hrf2: ∀ w2:World,(Instr.slice 29 (.slice (some ⟨w.heap.size,0,none⟩) l.length cp) (some (.int .i64 ((k:Int)+(j:Int)))) none none).run Tryz.prog w2= .ok (.slice (cutA (some ⟨w.heap.size,0,none⟩) cp (k+j)) (l.length - (k+j)) (cp - (k+j))) w2:=fun w2=>by
     have:=run_from (w:=w2) (some ⟨w.heap.size,0,none⟩) l.length cp (k+j) (by omega)
     rwa [hw3]at this
    have CE:Hid (Calls Tryz.prog 56 #[.slice (some ⟨w.heap.size,0,none⟩) l.length cp,.int .i64 ((k:Int)+(j:Int))] wr fun e w'=>e= .returned (outV (refOut 38 l (k+j)))∧Below wr.heap.size wr w'):=Hd (by
     have:=crefEntity_c _ _ _ l ((k+j:Nat):Int) wr ((HBY.out.below BR.out).more BR.out.size) (HF1.out.below BR.out HF1.out.lt) (HT1.out.below BR.out HL1.out) (by omega)
     rwa [refAt_in 38 l (k+j) (by omega),hw3]at this)
    have CC:Hid (∀ w4,Below w1.heap.size w1 w4→Calls Tryz.prog 55 #[.slice (some ⟨w.heap.size,0,none⟩) l.length cp,.int .i64 ((k:Int)+(j:Int))] w4 fun e w'=>e= .returned (numV (charOut l (k+j)))∧Below w4.heap.size w4 w'):=Hd (fun w4 hb4=>by
     have:=crefChar_c _ _ _ l ((k+j:Nat):Int) w4 ((HBY.out.below hb4).more hb4.size) (HF1.out.below hb4 HF1.out.lt) (HT1.out.below hb4 HL1.out) (by omega)
     rwa [charAt_in l (k+j) (by omega),hw3]at this)
    have HP:Hid (∀ w3,Below w1.heap.size w1 w3→Calls Tryz.prog 49 #[.slice (cutA (some ⟨w.heap.size,0,none⟩) cp (k+j)) (l.length - (k+j)) (cp - (k+j)),.slice (some ⟨w3.heap.size,0,none⟩) 2 2] (w3.alloc (.cells #[.int .u8 38,.int .u8 35] 5 (2,3))) fun e w'=>e= .returned (.bool (decide (l[k+j+1]? =some 35)))∧w3.alloc (.cells #[.int .u8 38,.int .u8 35] 5 (2,3))=w'):=Hd (fun w3 hb3=>by
     have hb4:Below w1.heap.size w1 (w3.alloc (.cells #[.int .u8 38,.int .u8 35] 5 (2,3))):=hb3.alloc hb3.size _
     have:=hasPrefix_c _ _ _ _ _ _ _ [38,35] _ _ _ ((HBY.out.below hb4).drop (k:=k+j) (by omega)) (Byt.const w3 [38,35] (2,3) (by decide))
     rw[pre2,List.getElem?_drop,List.getElem?_drop,show k+j+0=k+j by omega,HAT.out]at this
     simpa using this)
    have HM:Hid (markOut l (k+j)=if l[k+j+1]? =some 35 then (charOut l (k+j)).2 else (refOut 38 l (k+j)).2):=Hd rfl
    clear hw1 hw2 hw3
    have hwk:IntKind.i64.wrap ((k:Int)+(j:Int))=(k:Int)+(j:Int):=by rw[IntKind.wrap_i64];omega
    by_cases h35:l[k+j+1]? =some 35
    · have HMC:Hid (markOut l (k+j)=(charOut l (k+j)).2):=Hd (by rw[HM.out,if_pos h35])
      have hd35:decide (l[k+j+1]? =some 35)=true:=decide_eq_true h35
      rw[hd35]at HP
      clear hd35 h35
      generalize charOut l (k+j)=co at *
      generalize refOut 38 l (k+j)=ro at *
      obtain⟨cv,cn,ce⟩:=co
      obtain⟨rv,rn,re⟩:=ro
      unfold numV at CC
      unfold outV at CE
      by_cases hce:ce=0
      · have HNX:=Hd (markOut_next l (k+j) (by rw[HMC.out];exact hce))
        rw[HMC.out]at HNX
        have HS2:Hid (refsFrom l cn=res):=Hd (by rw[← HSK.out,refsFrom_next l (k+j) HAT.out (by rw[HMC.out];exact hce),HMC.out])
        subst hce
        go_wp2_with fail
        refine HI.out.mono ?_
        rintro e w2 ⟨rfl,rfl⟩
        go_wp2_with fail
        refine CE.out.mono ?_
        rintro e w3 ⟨rfl,hb⟩
        have B3:Hid (Below w1.heap.size w1 w3):=Hd (BR.out.trans (hb.mono BR.out.size))
        clear hb
        go_wp2_with fail
        refine(HP.out w3 B3.out).mono ?_
        rintro e w4 ⟨rfl,hw4⟩
        have B4:Hid (Below w1.heap.size w1 w4):=Hd (by rw[← hw4];exact B3.out.alloc B3.out.size _)
        clear hw4
        go_wp2_with fail
        refine(CC.out w4 B4.out).mono ?_
        rintro e w5 ⟨rfl,hb⟩
        have B5:Hid (Below w1.heap.size w1 w5):=Hd (B4.out.trans (hb.mono B4.out.size))
        clear hb
        go_wp2
        go_roundg (l.length+1 - cn)
        case measure=>have:=hg.out;have:=HNX.out;omega
        case rel=>exact⟨cn,HNX.out.2,Hd (by have:=HNX.out.2;omega),rfl,HS2,B5⟩
      · have HE:Hid (res=(k+j,ce)):=Hd (by rw[← HSK.out,refsFrom_bad l (k+j) HAT.out (by rw[HMC.out];exact hce),HMC.out])
        have hcz:((ce:Int) != 0)=true:=by simp;omega
        go_wp2_with fail
        refine HI.out.mono ?_
        rintro e w2 ⟨rfl,rfl⟩
        go_wp2_with fail
        refine CE.out.mono ?_
        rintro e w3 ⟨rfl,hb⟩
        have B3:Hid (Below w1.heap.size w1 w3):=Hd (BR.out.trans (hb.mono BR.out.size))
        clear hb
        go_wp2_with fail
        refine(HP.out w3 B3.out).mono ?_
        rintro e w4 ⟨rfl,hw4⟩
        have B4:Hid (Below w1.heap.size w1 w4):=Hd (by rw[← hw4];exact B3.out.alloc B3.out.size _)
        clear hw4
        go_wp2_with fail
        refine(CC.out w4 B4.out).mono ?_
        rintro e w5 ⟨rfl,hb⟩
        have B5:Hid (Below w1.heap.size w1 w5):=Hd (B4.out.trans (hb.mono B4.out.size))
        clear hb
        go_wp2
        go_ret2
        rw[HE.out]
        exact⟨rfl,HB1.out.trans (B5.out.mono HB1.out.size)⟩
    · have HMC:Hid (markOut l (k+j)=(refOut 38 l (k+j)).2):=Hd (by rw[HM.out,if_neg h35])
      have hd35:decide (l[k+j+1]? =some 35)=false:=decide_eq_false h35
      rw[hd35]at HP
      clear hd35 h35
      generalize refOut 38 l (k+j)=ro at *
      obtain⟨rv,rn,re⟩:=ro
      unfold outV at CE
      by_cases hce:re=0
      · have HNX:=Hd (markOut_next l (k+j) (by rw[HMC.out];exact hce))
        rw[HMC.out]at HNX
        have HS2:Hid (refsFrom l rn=res):=Hd (by rw[← HSK.out,refsFrom_next l (k+j) HAT.out (by rw[HMC.out];exact hce),HMC.out])
        subst hce
        go_wp2_with fail
        refine HI.out.mono ?_
        rintro e w2 ⟨rfl,rfl⟩
        go_wp2_with fail
        refine CE.out.mono ?_
        rintro e w3 ⟨rfl,hb⟩
        have B3:Hid (Below w1.heap.size w1 w3):=Hd (BR.out.trans (hb.mono BR.out.size))
        clear hb
        go_wp2_with fail
        refine(HP.out w3 B3.out).mono ?_
        rintro e w4 ⟨rfl,hw4⟩
        have B4:Hid (Below w1.heap.size w1 w4):=Hd (by rw[← hw4];exact B3.out.alloc B3.out.size _)
        clear hw4
        go_wp2
        go_roundg (l.length+1 - rn)
        case measure=>have:=hg.out;have:=HNX.out;omega
        case rel=>exact⟨rn,HNX.out.2,Hd (by have:=HNX.out.2;omega),rfl,HS2,B4⟩
      · have HE:Hid (res=(k+j,re)):=Hd (by rw[← HSK.out,refsFrom_bad l (k+j) HAT.out (by rw[HMC.out];exact hce),HMC.out])
        have hcz:((re:Int) != 0)=true:=by simp;omega
        go_wp2_with fail
        refine HI.out.mono ?_
        rintro e w2 ⟨rfl,rfl⟩
        go_wp2_with fail
        refine CE.out.mono ?_
        rintro e w3 ⟨rfl,hb⟩
        have B3:Hid (Below w1.heap.size w1 w3):=Hd (BR.out.trans (hb.mono BR.out.size))
        clear hb
        go_wp2_with fail
        refine(HP.out w3 B3.out).mono ?_
        rintro e w4 ⟨rfl,hw4⟩
        have B4:Hid (Below w1.heap.size w1 w4):=Hd (by rw[← hw4];exact B3.out.alloc B3.out.size _)
        clear hw4
        go_wp2
        go_ret2
        rw[HE.out]
        exact⟨rfl,HB1.out.trans (B4.out.mono HB1.out.size)⟩
theorem refRefs_c (l:List UInt8)(w:World)(hm:l.length≤40000) :
 Calls Tryz.prog 125 #[.string ⟨l.toArray⟩] w fun e w'=>e= .returned (.tuple #[.int .i64 (refsOut l).1,.int .i64 (refsOut l).2])∧Below w.heap.size w w':=by
 have hsz:(⟨l.toArray⟩:ByteArray).size=l.length:=by simp[ByteArray.size]
 obtain⟨cp,w1,hcv,hb1,hs1,hby⟩:=toBytes w l (by omega)
 rw[show w.heap.size+1=w1.heap.size by omega]at hby
 have HBY:=Hd hby
 have HB1:=Hd hb1
 have hcap:=hby.le
 have HRES:=Hd (refsOut_eq l)
 clear hb1 hs1 hby
 generalize refsOut l=res at *
 go_enter Tryz.func125,Tryz.ntmps125
 go_wp2
 go_loopg [5] (l.length+1) (fun g a wr=> ∃ k:Nat,k≤l.length∧Hid (g+k=l.length+1)∧a= .int .i64 (k:Int)∧Hid (refsFrom l k=res)∧Hid (Below w1.heap.size w1 wr))
 case atStart=>exact⟨0,Nat.zero_le _,Hd (by omega),rfl,Hd HRES.out.symm,Hd (Below.refl _ _)⟩
 case round =>
  obtain⟨k,hk,hg,rfl,HR,BR⟩:=hrel
  have hk0:(0:Int)≤(k:Int):=by omega
  have hk1:(k:Int)≤40000:=by omega
  by_cases hkn:k<l.length
  · have hkni:(k:Int)<(l.length:Int):=by omega
    obtain⟨b,o,c,e,hb,hc,hcell⟩:=(HBY.out.below BR.out).cell hkn
    cases e
    rw[Nat.zero_add]at hcell
    by_cases h38:c=38
    · have hcell':wr.cell? ⟨w.heap.size,k,none⟩=some (.int .u8 38):=by rw[hcell,h38];rfl
      have HAT:Hid (l[k]? =some 38):=Hd (by rw[hc,h38])
      have CE:Hid (Calls Tryz.prog 35 #[.slice (some ⟨w.heap.size,0,none⟩) l.length cp,.int .i64 (k:Int),.int .u8 38] wr fun e w'=>e= .returned (outV (refOut 38 l k))∧Below wr.heap.size wr w'):=Hd (by
       have:=refEntityAt_c _ _ _ l (k:Int) 38 wr ((HBY.out.below BR.out).more BR.out.size) (by omega)
       rwa [refAt_in 38 l k hk]at this)
      have CC:Hid (Calls Tryz.prog 34 #[.slice (some ⟨w.heap.size,0,none⟩) l.length cp,.int .i64 (k:Int)] wr fun e w'=>e= .returned (numV (charOut l k))∧wr=w'):=Hd (by
       have:=refCharR_c _ _ _ l (k:Int) wr _ (HBY.out.below BR.out) (by omega)
       rwa [charAt_in l k hk]at this)
      have HM:Hid (markOut l k=if l[k+1]? =some 35 then (charOut l k).2 else (refOut 38 l k).2):=Hd rfl
      have hwk:IntKind.i64.wrap ((k:Int)+1)=(k:Int)+1:=by rw[IntKind.wrap_i64];omega
      clear hcell hc h38 hb
      by_cases h35:l[k+1]? =some 35
      · have hk1n:k+1<l.length:=by
         rcases Nat.lt_or_ge (k+1) l.length with g|g
         · exact g
         · rw[List.getElem?_eq_none g]at h35;cases h35
        obtain⟨b,o,c1,e,hb,hc1,hcell1⟩:=(HBY.out.below BR.out).cell hk1n
        cases e
        rw[Nat.zero_add]at hcell1
        have hcell1':wr.cell? ⟨w.heap.size,k+1,none⟩=some (.int .u8 35):=by rw[hcell1,show c1=35 by rw[h35]at hc1;exact(Option.some.inj hc1).symm];rfl
        have hl1:(k:Int)+1<(l.length:Int):=by omega
        have hp1:(0:Int)≤(k:Int)+1:=by omega
        have htn:((k:Int)+1).toNat=k+1:=by omega
        have HMC:Hid (markOut l k=(charOut l k).2):=Hd (by rw[HM.out,if_pos h35])
        clear hcell1 hc1 h35 hb
        generalize charOut l k=co at *
        obtain⟨cv,cn,ce⟩:=co
        unfold numV at CC
        by_cases hce:ce=0
        · have HNX:=Hd (markOut_next l k (by rw[HMC.out];exact hce))
          rw[HMC.out]at HNX
          have HS2:Hid (refsFrom l cn=res):=Hd (by rw[← HR.out,refsFrom_next l k HAT.out (by rw[HMC.out];exact hce),HMC.out])
          subst hce
          go_wp2_with fail
          refine CC.out.mono ?_
          rintro e w2 ⟨rfl,rfl⟩
          go_wp2
          go_roundg (l.length+1 - cn)
          case measure=>have:=hg.out;have:=HNX.out;omega
          case rel=>exact⟨cn,HNX.out.2,Hd (by have:=HNX.out.2;omega),rfl,HS2,BR⟩
        · have HE:Hid (res=(k,ce)):=Hd (by rw[← HR.out,refsFrom_bad l k HAT.out (by rw[HMC.out];exact hce),HMC.out])
          have hcz:((ce:Int) != 0)=true:=by simp;omega
          go_wp2_with fail
          refine CC.out.mono ?_
          rintro e w2 ⟨rfl,rfl⟩
          clear hcv
          go_wp2
          go_ret2
          rw[HE.out]
          exact⟨rfl,HB1.out.trans (BR.out.mono HB1.out.size)⟩
      · have HMC:Hid (markOut l k=(refOut 38 l k).2):=Hd (by rw[HM.out,if_neg h35])
        generalize refOut 38 l k=ro at *
        obtain⟨rv,rn,re⟩:=ro
        unfold outV at CE
        by_cases hk1n:k+1<l.length
        · obtain⟨b,o,c1,e,hb,hc1,hcell1⟩:=(HBY.out.below BR.out).cell hk1n
          cases e
          rw[Nat.zero_add]at hcell1
          have e35:((c1.toNat:Int)==35)=false:=ne_byte' c1 35 35 rfl fun e=>h35 (by rw[hc1,e])
          have hl1:(k:Int)+1<(l.length:Int):=by omega
          have hp1:(0:Int)≤(k:Int)+1:=by omega
          have htn:((k:Int)+1).toNat=k+1:=by omega
          clear hc1 h35 hb
          generalize (c1.toNat:Int)=d1 at *
          by_cases hce:re=0
          · have HNX:=Hd (markOut_next l k (by rw[HMC.out];exact hce))
            rw[HMC.out]at HNX
            have HS2:Hid (refsFrom l rn=res):=Hd (by rw[← HR.out,refsFrom_next l k HAT.out (by rw[HMC.out];exact hce),HMC.out])
            subst hce
            go_wp2_with fail
            refine CE.out.mono ?_
            rintro e w2 ⟨rfl,hb⟩
            have B2:Hid (Below w1.heap.size w1 w2):=Hd (BR.out.trans (hb.mono BR.out.size))
            clear hb
            go_wp2
            go_roundg (l.length+1 - rn)
            case measure=>have:=hg.out;have:=HNX.out;omega
            case rel=>exact⟨rn,HNX.out.2,Hd (by have:=HNX.out.2;omega),rfl,HS2,B2⟩
          · have HE:Hid (res=(k,re)):=Hd (by rw[← HR.out,refsFrom_bad l k HAT.out (by rw[HMC.out];exact hce),HMC.out])
            have hcz:((re:Int) != 0)=true:=by simp;omega
            go_wp2_with fail
            refine CE.out.mono ?_
            rintro e w2 ⟨rfl,hb⟩
            have B2:Hid (Below w1.heap.size w1 w2):=Hd (BR.out.trans (hb.mono BR.out.size))
            clear hb hcv
            go_wp2
            go_ret2
            rw[HE.out]
            exact⟨rfl,HB1.out.trans (B2.out.mono HB1.out.size)⟩
        · have hl1: ¬ (k:Int)+1<(l.length:Int):=by omega
          clear h35
          by_cases hce:re=0
          · have HNX:=Hd (markOut_next l k (by rw[HMC.out];exact hce))
            rw[HMC.out]at HNX
            have HS2:Hid (refsFrom l rn=res):=Hd (by rw[← HR.out,refsFrom_next l k HAT.out (by rw[HMC.out];exact hce),HMC.out])
            subst hce
            go_wp2_with fail
            refine CE.out.mono ?_
            rintro e w2 ⟨rfl,hb⟩
            have B2:Hid (Below w1.heap.size w1 w2):=Hd (BR.out.trans (hb.mono BR.out.size))
            clear hb
            go_wp2
            go_roundg (l.length+1 - rn)
            case measure=>have:=hg.out;have:=HNX.out;omega
            case rel=>exact⟨rn,HNX.out.2,Hd (by have:=HNX.out.2;omega),rfl,HS2,B2⟩
          · have HE:Hid (res=(k,re)):=Hd (by rw[← HR.out,refsFrom_bad l k HAT.out (by rw[HMC.out];exact hce),HMC.out])
            have hcz:((re:Int) != 0)=true:=by simp;omega
            go_wp2_with fail
            refine CE.out.mono ?_
            rintro e w2 ⟨rfl,hb⟩
            have B2:Hid (Below w1.heap.size w1 w2):=Hd (BR.out.trans (hb.mono BR.out.size))
            clear hb hcv
            go_wp2
            go_ret2
            rw[HE.out]
            exact⟨rfl,HB1.out.trans (B2.out.mono HB1.out.size)⟩
    · have e38:((c.toNat:Int) != 38)=true:=by have:=ne_byte' c 38 38 rfl h38;simp[bne,this]
      have HS2:Hid (refsFrom l (k+1)=res):=Hd (by rw[← HR.out,refsFrom_skip l k hkn (by rw[hc];simpa using h38)])
      clear hc h38 hb
      generalize (c.toNat:Int)=d1 at *
      go_wp2
      go_roundg (l.length+1 - (k+1))
      case measure=>have:=hg.out;omega
      case rel=>exact⟨k+1,by omega,Hd (by omega),by go_num,HS2,BR⟩
  · have hkni: ¬ (k:Int)<(l.length:Int):=by omega
    have HE:Hid (res=(0,0)):=Hd (by rw[← HR.out,refsFrom_end l k (by omega)])
    clear hcv
    go_wp2
    go_ret2
    rw[HE.out]
    exact⟨rfl,HB1.out.trans (BR.out.mono HB1.out.size)⟩
theorem without1_c (c:UInt8)(l:List UInt8)(a:Nat)(w:World)(ha:w.cell? ⟨a,0,none⟩=some (.int .u8 c.toNat)) :
 Calls Tryz.prog 168 #[.string ⟨l.toArray⟩,.pointer (some ⟨a,0,none⟩)] w fun e w'=>e= .returned (.int .i64 (if 0≤Lib.indexByte l c then 7 else 0))∧w=w':=by
 have hi:=Tryz.strings_IndexByte ⟨l.toArray⟩ (c.toNat:Int) w
 rw[show ((c.toNat:Int).toNat.toUInt8)=c by simp]at hi
 have hi':Calls Tryz.prog 169 #[.string ⟨l.toArray⟩,.int .u8 (c.toNat:Int)] w fun e w'=>e= .returned (.int .i64 (Lib.indexByte l c))∧w'=w:=hi
 have HI:=Hd hi'
 clear hi hi'
 generalize Lib.indexByte l c=ix at *
 generalize (c.toNat:Int)=cn at *
 by_cases h0:0≤ix
 · have hd:decide (0≤ix)=true:=by simpa using h0
   rw[if_pos h0]
   go_enter Tryz.func168,Tryz.ntmps168
   go_wp2_with fail
   refine HI.out.mono ?_
   rintro e w1 ⟨rfl,rfl⟩
   go_wp2
   go_ret
   exact⟨rfl,rfl⟩
 · have hd:decide (0≤ix)=false:=by simpa using h0
   rw[if_neg h0]
   go_enter Tryz.func168,Tryz.ntmps168
   go_wp2_with fail
   refine HI.out.mono ?_
   rintro e w1 ⟨rfl,rfl⟩
   go_wp2
   go_ret
   exact⟨rfl,rfl⟩
theorem refsR_c (l:List UInt8)(w:World)(hT:Tabs w)(hF:Forms w)(hm:l.length≤40000) :
 Calls Tryz.prog 165 #[.string ⟨l.toArray⟩] w fun e w'=>e= .returned (.int .i64 (refsOut l).2)∧Below w.heap.size w w':=by
 have HR:=Hd (refs_c l w hT hF hm)
 clear hT hF
 generalize refsOut l=r at *
 obtain⟨r1,r2⟩:=r
 go_enter Tryz.func165,Tryz.ntmps165
 go_wp2_with fail
 refine HR.out.mono ?_
 rintro e w1 ⟨rfl,hb⟩
 have HB:=Hd hb
 clear hb
 go_wp2
 go_ret
 exact⟨rfl,HB.out⟩
def wV (a:Nat):Value:= .func (.func 168) #[] #[.pointer (some ⟨a,0,none⟩)]
theorem without_c (c:Int)(w:World):Calls Tryz.prog 164 #[.int .u8 c] w fun e w'=>e= .returned (wV w.heap.size)∧w.alloc (.cells #[.int .u8 c] 5)=w':=by
 unfold wV
 go_enter Tryz.func164,Tryz.ntmps164
 go_wp2
 go_ret
 exact⟨rfl,rfl⟩
def strictAt (but:UInt8)(l:List UInt8)(at_:Int):List UInt8 × Nat × Nat :=
 if (quotedAt l at_).2.2≠0 then ([],0,(quotedAt l at_).2.2)
 else if 0≤Lib.indexByte (quotedAt l at_).1 but then ([],0,7)
 else if (refsOut (quotedAt l at_).1).2≠0 then ([],0,(refsOut (quotedAt l at_).1).2)
 else ((quotedAt l at_).1,(quotedAt l at_).2.1,0)
theorem quotedAt_le (l:List UInt8)(at_:Int):(quotedAt l at_).1.length≤l.length:=by
 unfold quotedAt quotedOut quotedQ
 split
 · simp
 · split
   · simp
   · split
     · split
       · simp
       · simp only[List.length_take,List.length_drop];omega
     · simp
theorem litRead_c (A:Option Addr)(n cap:Nat)(l:List UInt8)(at_:Int)(but:UInt8)(a g:Nat)(w:World)(h:Byt w w.heap.size A n cap l)(hT:Tabs w)(hF:Forms w)(hm:n≤40000)
 (ha:w.cell? ⟨a,0,none⟩=some (.int .u8 but.toNat)) (hal:a<w.heap.size) (hg:w.heap[g]? =some (.cells #[wV a,.func (.func 165) #[] #[]] 228)) :
 Calls Tryz.prog 163 #[.slice A n cap,.int .i64 at_,.slice (some ⟨g,0,none⟩) 2 2] w fun e w'=>e= .returned (outV (strictAt but l at_))∧Below w.heap.size w w':=by
 have hL:=hT.low hF
 have hgl:=lt_of hg
 have HQ:=Hd (quoted_c A n cap l at_ w _ h (by omega))
 have hql:=quotedAt_le l at_
 rw[h.length]at hql
 have HS:Hid (strictAt but l at_=if (quotedAt l at_).2.2≠0 then ([],0,(quotedAt l at_).2.2) else if 0≤Lib.indexByte (quotedAt l at_).1 but then ([],0,7) else if (refsOut (quotedAt l at_).1).2≠0 then ([],0,(refsOut (quotedAt l at_).1).2) else ((quotedAt l at_).1,(quotedAt l at_).2.1,0)):=Hd rfl
 have HW:Hid (∀ w1,Below w.heap.size w w1→Calls Tryz.prog 168 #[.string ⟨(quotedAt l at_).1.toArray⟩,.pointer (some ⟨a,0,none⟩)] w1 fun e w'=>e= .returned (.int .i64 (if 0≤Lib.indexByte (quotedAt l at_).1 but then 7 else 0))∧w1=w'):=Hd fun w1 hb=>without1_c but _ a w1 (by rw[hb.cell hal];exact ha)
 have HR:Hid (∀ w1,Below w.heap.size w w1→Calls Tryz.prog 165 #[.string ⟨(quotedAt l at_).1.toArray⟩] w1 fun e w'=>e= .returned (.int .i64 (refsOut (quotedAt l at_).1).2)∧Below w1.heap.size w1 w'):=Hd fun w1 hb=>refsR_c _ w1 (hT.below hb hL) (hF.below hb hF.lt) (by omega)
 have HG:Hid (∀ w1,Below w.heap.size w w1→w1.cell? ⟨g,0,none⟩=some (wV a)∧w1.cell? ⟨g,1,none⟩=some (.func (.func 165) #[] #[])):=Hd fun w1 hb=>by
  have:=(hb.block g hgl).trans hg
  exact⟨by rw[cell_of 0 this];rfl,by rw[cell_of 1 this];rfl⟩
 clear h hT hF hL ha hg hql hm hal
 generalize strictAt but l at_=res at *
 generalize quotedAt l at_=q at *
 obtain⟨s,k,f⟩:=q
 simp only at HS HW HR
 unfold outV at HQ
 unfold wV at HG
 by_cases hf:f=0
 · subst hf
   go_enter Tryz.func163,Tryz.ntmps163
   go_wp2_with fail
   refine HQ.out.mono ?_
   rintro e w1 ⟨rfl,m,hw1⟩
   have B1:Hid (Below w.heap.size w w1):=Hd (by rw[hw1];exact below_drewN' (Below.refl _ _))
   clear hw1
   go_wp2_with fail
   go_loopg [27] (3) (fun g i wr=> ∃ j:Nat,j≤2∧Hid (g+j=3)∧i= .int .i64 (j:Int)∧Hid (Below w.heap.size w wr)∧Hid ((1≤j→ ¬ 0≤Lib.indexByte s but)∧(2≤j→(refsOut s).2=0)))
   case atStart=>exact⟨0,by omega,Hd rfl,rfl,B1,Hd ⟨fun h=>absurd h (by omega),fun h=>absurd h (by omega)⟩⟩
   case round =>
    obtain⟨j,hj,hg,rfl,BR,HJ⟩:=hrel
    have hg0:=(HG.out wr BR.out).1
    have hg1:=(HG.out wr BR.out).2
    rcases(show j=0∨j=1∨j=2 by omega)with rfl|rfl|rfl
    · have HWW:=Hd (HW.out wr BR.out)
      by_cases hb:0≤Lib.indexByte s but
      · rw[if_pos hb]at HWW
        have HE:Hid (res=([],0,7)):=Hd (by rw[HS.out,if_neg (by simp),if_pos hb])
        go_wp2_with fail
        refine HWW.out.mono ?_
        rintro e w2 ⟨rfl,rfl⟩
        go_wp2
        go_ret3
        rw[HE.out]
        exact⟨rfl,BR.out⟩
      · rw[if_neg hb]at HWW
        have HB:=Hd hb
        clear hb
        go_wp2_with fail
        refine HWW.out.mono ?_
        rintro e w2 ⟨rfl,rfl⟩
        go_wp2
        go_roundg (2)
        case measure=>have:=hg.out;omega
        case rel=>exact⟨1,by omega,Hd (by omega),rfl,BR,Hd ⟨fun _=>HB.out,fun h=>absurd h (by omega)⟩⟩
    · have HRR:=Hd (HR.out wr BR.out)
      generalize hr:(refsOut s).2=r at *
      by_cases hb:r=0
      · have HB:=Hd hb
        subst hb
        go_wp2_with fail
        refine HRR.out.mono ?_
        rintro e w2 ⟨rfl,hb⟩
        have B2:Hid (Below w.heap.size w w2):=Hd (BR.out.trans (hb.mono BR.out.size))
        clear hb
        go_wp2
        go_roundg (1)
        case measure=>have:=hg.out;omega
        case rel=>exact⟨2,by omega,Hd (by omega),rfl,B2,Hd ⟨fun _=>HJ.out.1 (by omega),fun _=>by trivial⟩⟩
      · have HE:Hid (res=([],0,r)):=Hd (by rw[HS.out,if_neg (by simp),if_neg (HJ.out.1 (by omega)),if_pos hb])
        have hrz:((r:Int) != 0)=true:=by simp;omega
        clear hb hr
        go_wp2_with fail
        refine HRR.out.mono ?_
        rintro e w2 ⟨rfl,hb⟩
        have B2:Hid (Below w.heap.size w w2):=Hd (BR.out.trans (hb.mono BR.out.size))
        clear hb
        go_wp2
        go_ret3
        rw[HE.out]
        exact⟨rfl,B2.out⟩
    · have HE:Hid (res=(s,k,0)):=Hd (by rw[HS.out,if_neg (by simp),if_neg (HJ.out.1 (by omega)),if_neg (by rw[HJ.out.2 (by omega)];simp)])
      go_wp2
      go_ret3
      rw[HE.out]
      exact⟨rfl,BR.out⟩
 · have HE:Hid (res=([],0,f)):=Hd (by rw[HS.out,if_pos hf])
   have hfz:((f:Int) != 0)=true:=by simp;omega
   clear hf
   go_enter Tryz.func163,Tryz.ntmps163
   go_wp2_with fail
   refine HQ.out.mono ?_
   rintro e w1 ⟨rfl,m,hw1⟩
   have B1:Hid (Below w.heap.size w w1):=Hd (by rw[hw1];exact below_drewN' (Below.refl _ _))
   clear hw1
   go_wp2
   go_ret3
   rw[HE.out]
   exact⟨rfl,B1.out⟩
theorem litValue_c (A:Option Addr)(n cap:Nat)(l:List UInt8)(at_:Int)(w:World)(h:Byt w w.heap.size A n cap l)(hT:Tabs w)(hF:Forms w)(hm:n≤40000) :
 Calls Tryz.prog 157 #[.slice A n cap,.int .i64 at_] w fun e w'=>e= .returned (outV (strictAt 60 l at_))∧Below w.heap.size w w':=by
 have hL:=hT.low hF
 have b1:Below w.heap.size w (w.alloc (.cells #[.int .u8 60] 5)):=(Below.refl _ _).alloc (Nat.le_refl _) _
 have b2:Below w.heap.size w ((w.alloc (.cells #[.int .u8 60] 5)).alloc (.cells #[wV w.heap.size,.func (.func 165) #[] #[]] 228)):=b1.alloc (by simp) _
 have hg:=hp_new (w.alloc (.cells #[.int .u8 60] 5)) (.cells #[wV w.heap.size,.func (.func 165) #[] #[]] 228)
 have ha:((w.alloc (.cells #[.int .u8 60] 5)).alloc (.cells #[wV w.heap.size,.func (.func 165) #[] #[]] 228)).cell? ⟨w.heap.size,0,none⟩=some (.int .u8 (60:UInt8).toNat):=by
  rw[cell_of 0 (hp_old (hp_new w _))];rfl
 have c1:=litRead_c A n cap l at_ 60 w.heap.size _ _ ((h.below b2).more b2.size) (hT.below b2 hL) (hF.below b2 hF.lt) hm ha (by simp;omega) hg
 rw[show (w.alloc (.cells #[.int .u8 60] 5)).heap.size=w.heap.size+1 by simp]at c1
 have hs2:((w.alloc (.cells #[.int .u8 60] 5)).alloc (.cells #[wV w.heap.size,.func (.func 165) #[] #[]] 228)).heap.size=w.heap.size+2:=by simp
 have C1:=Hd c1
 have HB2:=Hd b2
 have HS2:=Hd hs2
 clear c1 b1 b2 hg ha hs2 h hT hF hL
 generalize strictAt 60 l at_=res at *
 obtain⟨s,k,f⟩:=res
 unfold outV wV at *
 go_enter Tryz.func157,Tryz.ntmps157
 go_wp2_with fail
 refine(without_c 60 w).mono ?_
 rintro e w1 ⟨rfl,rfl⟩
 unfold wV
 go_wp2_with fail
 refine C1.out.mono ?_
 rintro e w2 ⟨rfl,hb⟩
 have B2:Hid (Below w.heap.size w w2):=Hd (HB2.out.trans (hb.mono (by rw[HS2.out];omega)))
 clear hb
 go_wp2
 go_ret3
 exact⟨rfl,B2.out⟩
end Go.Proofs.YtbafljibbabnaaaGreatDoor
