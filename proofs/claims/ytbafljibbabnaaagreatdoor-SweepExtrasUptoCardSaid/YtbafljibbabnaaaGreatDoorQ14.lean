/- Texts of ours, joined: CChar2, Lit1. -/
import Derived.Test.YtbafljibbabnaaaGreatDoorQ13
namespace Go.Proofs.YtbafljibbabnaaaGreatDoor
open Go.ChangeShapes Go.WideShapes Go.ChangeAt Go.RowKit
set_option linter.unusedVariables false
set_option maxRecDepth 100000
set_option maxHeartbeats 32000000
theorem ne_byte' (c n:UInt8)(z:Int)(hz:z=(n.toNat:Int))(h: ¬ c=n):((c.toNat:Int)==z)=false:=by rw[hz,toNat_eq];simp[h]
theorem crefChar_16 (A:Option Addr)(n cap:Nat)(l:List UInt8)(at_:Nat)(w:World)(h:Byt w w.heap.size A n cap l)(hT:Tabs w)(hF:Forms w)(hm:n≤50000)(hat:at_≤n)(hp: [38,35,120].isPrefixOf (l.drop at_)=true) :
 Calls Tryz.prog 55 #[.slice A n cap,.int .i64 at_] w fun e w'=>e= .returned (numV (charBody 16 2097152 l (at_+3)))∧Below w.heap.size w w':=by
 have hln:=h.length
 have hlen:at_+3≤n:=by
  rw[pre3]at hp
  have h2:=(of_decide_eq_true hp).2.2
  rw[List.getElem?_drop]at h2
  rcases Nat.lt_or_ge (at_+2) l.length with g|g
  · omega
  · rw[List.getElem?_eq_none g]at h2;cases h2
 obtain⟨b,o,c,rfl,hb,hc,hcell⟩:=h.cell (i:=at_) (by omega)
 clear hb hc hcell
 have hat': ¬ (n:Int)<(at_:Int):=by omega
 have hrf: ∀ w2:World,(Instr.slice 29 (.slice (some ⟨b,o,none⟩) n cap) (some (.int .i64 (at_:Int))) none none).run Tryz.prog w2= .ok (.slice (cutA (some ⟨b,o,none⟩) cap at_) (n - at_) (cap - at_)) w2:=fun w2=>run_from (w:=w2) (some ⟨b,o,none⟩) n cap at_ hat
 have hap:IntKind.i64.wrap ((at_:Int)+2)=(at_:Int)+2:=by rw[IntKind.wrap_i64];omega
 have hap3:IntKind.i64.wrap ((at_:Int)+3)=(at_:Int)+3:=by rw[IntKind.wrap_i64];omega
 have hL:=hT.low hF
 have kc:=fun (w:World) (C:Array Value) (n c:Nat)=>Lib.run_convert_bytes_const (P:=Tryz.prog) w 29 5 C n c Tryz.underlying29 Tryz.underlying5
 have kc2:=kc (w.alloc (.cells #[bv 38,bv 35,bv 120] 5 (3,4))) #[.int .u8 38,.int .u8 35] 2 2
 rw[show (w.alloc (.cells #[bv 38,bv 35,bv 120] 5 (3,4))).heap.size=w.heap.size+1 by simp]at kc2
 have k1:=Byt.const w [38,35,120] (3,4) (by decide)
 have b1:Below w.heap.size w (w.alloc (.cells ([38,35,120].map bv).toArray 5 (3,4))):=(Below.refl _ _).alloc (Nat.le_refl _) _
 have c1:=hasPrefix_c _ _ _ _ _ _ _ _ _ _ _ ((h.below b1).drop hat) k1
 rw[hp]at c1
 have HB:=Hd b1
 clear b1 k1 hp
 have HFR:Hid ((at_:Int)+3=((at_+3:Nat):Int)):=Hd (by omega)
 have hfn:at_+3≤n:=hlen
 have hds:=digs_le 16 (l.drop (at_+3))
 have hda:=digs_at 16 (l.drop (at_+3))
 have hdt:=digs_take 16 (l.drop (at_+3))
 have hdm:=digs_mem 16 (l.drop (at_+3))
 rw[List.length_drop,hln]at hds
 have hk59:l[(at_+3)+(digs 16 (l.drop (at_+3))).length]? =l[(at_+3)+(digs 16 (l.drop (at_+3))).length]? :=rfl
 have HLN:=Hd hln
 have HC:Hid (charBody 16 2097152 l (at_+3)=if (digs 16 (l.drop (at_+3))).length=0∨l[(at_+3)+(digs 16 (l.drop (at_+3))).length]? ≠some 59 then (0,0,7) else if isDoc (numC 16 2097152 (digs 16 (l.drop (at_+3))))=true then (numC 16 2097152 (digs 16 (l.drop (at_+3))),(at_+3)+(digs 16 (l.drop (at_+3))).length+1,0) else (0,0,6)):=Hd rfl
 generalize hdd:digs 16 (l.drop (at_+3))=ds at *
 have hnb: ∀ k,0≤numC 16 2097152 (ds.take k)∧numC 16 2097152 (ds.take k)≤2097152:=fun k=>⟨numC_nonneg 16 2097152 (by omega) (by omega) _ fun c hc=>hdm c (List.mem_of_mem_take hc),numC_le _ _ (by omega) _⟩
 have HD:=Hd (And.intro hda (And.intro hdt hnb))
 have HS:=Hd hds
 have HH:=Hd (And.intro h (And.intro hT hL))
 clear hk59 hdm hda hdt hnb hdd h hT hF hL hds
 generalize charBody 16 2097152 l (at_+3)=res at *
 go_enter Tryz.func55,Tryz.ntmps55
 go_wp2_with fail
 go_step3
 go_wp2_with fail
 refine c1.mono ?_
 rintro e w1 ⟨rfl,rfl⟩
 clear kc c1
 go_wp2_with fail
 generalize hwq:(w.alloc (.cells #[bv 38,bv 35,bv 120] 5 (3,4)))=wq
 have HQ:Hid (Below w.heap.size w wq):=Hd (by rw[← hwq];exact HB.out)
 clear hwq
 have HCELL:Hid (∀ k,k<n→wq.cell? ⟨b,o+k,none⟩=some (.int .u8 (UInt8.toNat (l.getD k 0):Int))):=Hd fun k hk=>by
  obtain⟨b',o',c',e,hb',hc',hcl⟩:=(HH.out.1.below HQ.out).cell hk
  cases e
  rw[hcl,List.getD_eq_getElem?_getD,hc']
  rfl
 go_step3
 go_wp2_with fail
 go_loopg [4,5] (n+1 - (at_+3)) (fun g r i wr=> ∃ j:Nat,at_+3≤j∧j≤at_+3+ds.length∧Hid (g+j=n+1)∧i= .int .i64 (j:Int)∧r= .int .i64 (numC 16 2097152 (ds.take (j - (at_+3))))∧wq=wr)
 case atStart=>exact⟨at_+3,Nat.le_refl _,Nat.le_add_right _ _,Hd (by omega),rfl,by rw[Nat.sub_self];rfl,rfl⟩
 case round =>
  obtain⟨j,hj1,hj2,hg,rfl,rfl,rfl⟩:=hrel
  have hbn:=(HD.out.2.2 (j - (at_+3)))
  have hb0:=hbn.1
  have hb1:=hbn.2
  have hj0:(0:Int)≤(j:Int):=by omega
  have hjb:(j:Int)≤50000:=by have:=HS.out;omega
  clear hbn
  by_cases hjn:j<n
  · have hcl:=HCELL.out j hjn
    have hgd:(l.drop (at_+3))[j - (at_+3)]? =some (l.getD j 0):=by
     rw[List.getElem?_drop,show(at_+3)+(j - (at_+3))=j by omega,List.getElem?_eq_getElem (by omega)];simp[List.getD_eq_getElem?_getD,hln ▸ hjn]
    have hat59:=HD.out.1 (j - (at_+3)) (l.getD j 0) (by omega) hgd
    have hdl:=digit_lt 16 (by omega) (UInt8.toNat (l.getD j 0):Int)
    have hjin:(j:Int)<(n:Int):=by omega
    by_cases hjm:j<(at_+3)+ds.length
    · have hD0:0≤digit 16 (UInt8.toNat (l.getD j 0):Int):=hat59.1 (by omega)
      have HN:Hid (numC 16 2097152 (ds.take (j+1 - (at_+3)))=min (numC 16 2097152 (ds.take (j - (at_+3)))*16+digit 16 (UInt8.toNat (l.getD j 0):Int)) 2097152):=Hd (by
       rw[show j+1 - (at_+3)=(j - (at_+3))+1 by omega,take_snoc ds (j - (at_+3)) (l.getD j 0),numC_snoc]
       rw[HD.out.2.1,List.getElem?_take_of_lt (by omega)];exact hgd)
      have HDC:Hid (Calls Tryz.prog 84 #[.int .i64 (UInt8.toNat (l.getD j 0):Int),.int .i64 16] wq fun e w'=>e= .returned (.int .i64 (digit 16 (UInt8.toNat (l.getD j 0):Int)))∧wq=w'):=Hd (digitB_c 16 (by omega) _ wq)
      have hdl1:=hdl.1
      have hlx:0≤(UInt8.toNat (l.getD j 0):Int):=by omega
      have hly:(UInt8.toNat (l.getD j 0):Int)≤255:=by have:=(l.getD j 0).toNat_lt;omega
      clear hat59 hgd hdl
      generalize (UInt8.toNat (l.getD j 0):Int)=dn at *
      generalize digit 16 dn=D at *
      generalize numC 16 2097152 (ds.take (j - (at_+3)))=r at *
      have hdn:decide (D<0)=false:=by simp;omega
      go_wp2_with fail
      refine HDC.out.mono ?_
      rintro e w1 ⟨rfl,rfl⟩
      go_wp2
      go_roundg (n - j)
      case measure=>have:=hg.out;omega
      case rel=>exact⟨j+1,by omega,by omega,Hd (by omega),by go_num,by rw[HN.out],rfl⟩
    · obtain rfl:j=(at_+3)+ds.length:=by omega
      have hD0:digit 16 (UInt8.toNat (l.getD ((at_+3)+ds.length) 0):Int)<0:=by
       rcases Int.lt_or_le (digit 16 (UInt8.toNat (l.getD ((at_+3)+ds.length) 0):Int)) 0 with h|h
       · exact h
       · have:=hat59.2 h;omega
      have h59:l[(at_+3)+ds.length]? =some (l.getD ((at_+3)+ds.length) 0):=by
       rw[List.getElem?_eq_getElem (by omega)];simp[List.getD_eq_getElem?_getD,hln ▸ hjn]
      have htk:ds.take ((at_+3)+ds.length - (at_+3))=ds:=by rw[show (at_+3)+ds.length - (at_+3)=ds.length by omega,List.take_length]
      rw[htk]at hb0 hb1 ⊢
      have HDC:Hid (Calls Tryz.prog 84 #[.int .i64 (UInt8.toNat (l.getD ((at_+3)+ds.length) 0):Int),.int .i64 16] wq fun e w'=>e= .returned (.int .i64 (digit 16 (UInt8.toNat (l.getD ((at_+3)+ds.length) 0):Int)))∧wq=w'):=Hd (digitB_c 16 (by omega) _ wq)
      have hdn:decide (digit 16 (UInt8.toNat (l.getD ((at_+3)+ds.length) 0):Int)<0)=true:=decide_eq_true hD0
      have hcc:=HC.out
      rw[h59]at hcc
      have HT1:=Hd (char_c (numC 16 2097152 ds) wq (HH.out.2.1.below HQ.out HH.out.2.2))
      clear hat59 hgd hdl htk h59
      generalize hdd:l.getD ((at_+3)+ds.length) 0=d at *
      have hlx:0≤(d.toNat:Int):=by omega
      have hly:(d.toNat:Int)≤255:=by have:=d.toNat_lt;omega
      have hne59: ¬ d=59→((d.toNat:Int) != 59)=true:=fun h=>by have:=ne_byte' d 59 59 rfl h;simp[bne,this]
      generalize digit 16 (d.toNat:Int)=D at *
      generalize numC 16 2097152 ds=r at *
      generalize hJ:(at_+3)+ds.length=J at *
      by_cases hm0:ds.length=0
      · have HRES:Hid (res=(0,0,7)):=Hd (by rw[hcc,if_pos (Or.inl hm0)])
        have hJ0:((J:Int)==(at_:Int)+3)=true:=by simp;omega
        have HJ:=Hd hJ
        clear hcc hm0 hJ hdd hne59
        go_wp2_with fail
        refine HDC.out.mono ?_
        rintro e w1 ⟨rfl,rfl⟩
        go_wp2
        try rw[Exit.noGoto_ret]
        go_ret3
        rw[HRES.out]
        exact⟨rfl,HQ.out⟩
      · have hJ0:((J:Int)==(at_:Int)+3)=false:=by simp;omega
        have hJn:((J:Int)==(n:Int))=false:=by simp;omega
        by_cases hd59:d=59
        · have hcl':wq.cell? ⟨b,o+J,none⟩=some (.int .u8 59):=by rw[hcl,hd59];rfl
          have hDd:d.toNat=59:=by rw[hd59];rfl
          cases hdoc:isDoc r with
          |true =>
           have HRES:Hid (res=(r,J+1,0)):=Hd (by rw[hcc,if_neg (by rw[hd59];simp;exact List.ne_nil_of_length_pos (by omega)),if_pos hdoc])
           rw[hdoc]at HT1
           have HJ:=Hd hJ
           have hm0':0<ds.length:=by omega
           rw[hDd]at HDC hcl
           clear hcc hm0 hJ hdd hne59 hd59 hDd hdoc hcl'
           go_wp2_with fail
           refine HDC.out.mono ?_
           rintro e w1 ⟨rfl,rfl⟩
           go_wp2_with fail
           refine HT1.out.mono ?_
           rintro e w1 ⟨rfl,hb⟩
           have HE:Hid (Below w.heap.size w w1):=Hd (HQ.out.trans (hb.mono HQ.out.size))
           clear hb
           go_wp2
           try rw[Exit.noGoto_ret]
           go_ret3
           rw[HRES.out]
           exact⟨rfl,HE.out⟩
          |false =>
           have HRES:Hid (res=(0,0,6)):=Hd (by rw[hcc,if_neg (by rw[hd59];simp;exact List.ne_nil_of_length_pos (by omega)),if_neg (by rw[hdoc];decide)])
           rw[hdoc]at HT1
           have HJ:=Hd hJ
           have hm0':0<ds.length:=by omega
           rw[hDd]at HDC hcl
           clear hcc hm0 hJ hdd hne59 hd59 hDd hdoc hcl'
           go_wp2_with fail
           refine HDC.out.mono ?_
           rintro e w1 ⟨rfl,rfl⟩
           go_wp2_with fail
           refine HT1.out.mono ?_
           rintro e w1 ⟨rfl,hb⟩
           have HE:Hid (Below w.heap.size w w1):=Hd (HQ.out.trans (hb.mono HQ.out.size))
           clear hb
           go_wp2
           try rw[Exit.noGoto_ret]
           go_ret3
           rw[HRES.out]
           exact⟨rfl,HE.out⟩
        · have HRES:Hid (res=(0,0,7)):=Hd (by rw[hcc,if_pos (Or.inr (by simpa using hd59))])
          have hdn59:=hne59 hd59
          have HJ:=Hd hJ
          have hm0':0<ds.length:=by omega
          clear hcc hm0 hJ hdd hne59 hd59
          generalize (d.toNat:Int)=dn at *
          go_wp2_with fail
          refine HDC.out.mono ?_
          rintro e w1 ⟨rfl,rfl⟩
          go_wp2
          try rw[Exit.noGoto_ret]
          go_ret3
          rw[HRES.out]
          exact⟨rfl,HQ.out⟩
  · have hjm:j=(at_+3)+ds.length:=by have:=HS.out;omega
    have hjnn:j=n:=by have:=HS.out;omega
    have HRES:Hid (res=(0,0,7)):=Hd (by rw[HC.out,if_pos (Or.inr (by rw[← hjm,List.getElem?_eq_none (by omega)];simp))])
    have hjin: ¬ (j:Int)<(n:Int):=by omega
    have hjin2:((j:Int)==(n:Int))=true:=by simp;omega
    have HJ:=Hd (And.intro hjm hjnn)
    clear hjm hjnn
    generalize hz:((j:Int)==(at_:Int)+3)=z at *
    cases z with
    |true =>
     go_wp2
     try rw[Exit.noGoto_ret]
     go_ret3
     rw[HRES.out]
     exact⟨rfl,HQ.out⟩
    |false =>
     go_wp2
     try rw[Exit.noGoto_ret]
     go_ret3
     rw[HRES.out]
     exact⟨rfl,HQ.out⟩
theorem crefChar_10 (A:Option Addr)(n cap:Nat)(l:List UInt8)(at_:Nat)(w:World)(h:Byt w w.heap.size A n cap l)(hT:Tabs w)(hF:Forms w)(hm:n≤50000)(hat:at_≤n)(hp3: [38,35,120].isPrefixOf (l.drop at_)=false)(hp: [38,35].isPrefixOf (l.drop at_)=true) :
 Calls Tryz.prog 55 #[.slice A n cap,.int .i64 at_] w fun e w'=>e= .returned (numV (charBody 10 2097152 l (at_+2)))∧Below w.heap.size w w':=by
 have hln:=h.length
 have hlen:at_+2≤n:=by
  rw[pre2]at hp
  have h2:=(of_decide_eq_true hp).2
  rw[List.getElem?_drop]at h2
  rcases Nat.lt_or_ge (at_+1) l.length with g|g
  · omega
  · rw[List.getElem?_eq_none g]at h2;cases h2
 obtain⟨b,o,c,rfl,hb,hc,hcell⟩:=h.cell (i:=at_) (by omega)
 clear hb hc hcell
 have hat': ¬ (n:Int)<(at_:Int):=by omega
 have hrf: ∀ w2:World,(Instr.slice 29 (.slice (some ⟨b,o,none⟩) n cap) (some (.int .i64 (at_:Int))) none none).run Tryz.prog w2= .ok (.slice (cutA (some ⟨b,o,none⟩) cap at_) (n - at_) (cap - at_)) w2:=fun w2=>run_from (w:=w2) (some ⟨b,o,none⟩) n cap at_ hat
 have hap:IntKind.i64.wrap ((at_:Int)+2)=(at_:Int)+2:=by rw[IntKind.wrap_i64];omega
 have hap3:IntKind.i64.wrap ((at_:Int)+3)=(at_:Int)+3:=by rw[IntKind.wrap_i64];omega
 have hL:=hT.low hF
 have kc:=fun (w:World) (C:Array Value) (n c:Nat)=>Lib.run_convert_bytes_const (P:=Tryz.prog) w 29 5 C n c Tryz.underlying29 Tryz.underlying5
 have kc2:=kc (w.alloc (.cells #[bv 38,bv 35,bv 120] 5 (3,4))) #[.int .u8 38,.int .u8 35] 2 2
 rw[show (w.alloc (.cells #[bv 38,bv 35,bv 120] 5 (3,4))).heap.size=w.heap.size+1 by simp]at kc2
 have k1:=Byt.const w [38,35,120] (3,4) (by decide)
 have b1:Below w.heap.size w (w.alloc (.cells ([38,35,120].map bv).toArray 5 (3,4))):=(Below.refl _ _).alloc (Nat.le_refl _) _
 have c1:=hasPrefix_c _ _ _ _ _ _ _ _ _ _ _ ((h.below b1).drop hat) k1
 have k2:=Byt.const (w.alloc (.cells ([38,35,120].map bv).toArray 5 (3,4))) [38,35] (2,3) (by decide)
 have b2:Below w.heap.size w ((w.alloc (.cells ([38,35,120].map bv).toArray 5 (3,4))).alloc (.cells ([38,35].map bv).toArray 5 (2,3))):=b1.alloc (by simp) _
 have c2:=hasPrefix_c _ _ _ _ _ _ _ _ _ _ _ ((h.below b2).drop hat) k2
 rw[hp3]at c1
 rw[hp]at c2
 rw[show (w.alloc (.cells ([38,35,120].map bv).toArray 5 (3,4))).heap.size=w.heap.size+1 by simp]at c2
 have HC2:=Hd c2
 clear c2
 have HB:=Hd b2
 clear b1 b2 k1 k2 hp hp3
 have HFR:Hid ((at_:Int)+2=((at_+2:Nat):Int)):=Hd (by omega)
 have hfn:at_+2≤n:=hlen
 have hds:=digs_le 10 (l.drop (at_+2))
 have hda:=digs_at 10 (l.drop (at_+2))
 have hdt:=digs_take 10 (l.drop (at_+2))
 have hdm:=digs_mem 10 (l.drop (at_+2))
 rw[List.length_drop,hln]at hds
 have hk59:l[(at_+2)+(digs 10 (l.drop (at_+2))).length]? =l[(at_+2)+(digs 10 (l.drop (at_+2))).length]? :=rfl
 have HLN:=Hd hln
 have HC:Hid (charBody 10 2097152 l (at_+2)=if (digs 10 (l.drop (at_+2))).length=0∨l[(at_+2)+(digs 10 (l.drop (at_+2))).length]? ≠some 59 then (0,0,7) else if isDoc (numC 10 2097152 (digs 10 (l.drop (at_+2))))=true then (numC 10 2097152 (digs 10 (l.drop (at_+2))),(at_+2)+(digs 10 (l.drop (at_+2))).length+1,0) else (0,0,6)):=Hd rfl
 generalize hdd:digs 10 (l.drop (at_+2))=ds at *
 have hnb: ∀ k,0≤numC 10 2097152 (ds.take k)∧numC 10 2097152 (ds.take k)≤2097152:=fun k=>⟨numC_nonneg 10 2097152 (by omega) (by omega) _ fun c hc=>hdm c (List.mem_of_mem_take hc),numC_le _ _ (by omega) _⟩
 have HD:=Hd (And.intro hda (And.intro hdt hnb))
 have HS:=Hd hds
 have HH:=Hd (And.intro h (And.intro hT hL))
 clear hk59 hdm hda hdt hnb hdd h hT hF hL hds
 generalize charBody 10 2097152 l (at_+2)=res at *
 go_enter Tryz.func55,Tryz.ntmps55
 go_wp2_with fail
 go_step3
 go_wp2_with fail
 refine c1.mono ?_
 rintro e w1 ⟨rfl,rfl⟩
 clear kc c1
 go_wp2_with fail
 refine HC2.out.mono ?_
 rintro e w1 ⟨rfl,rfl⟩
 go_wp2_with fail
 generalize hwq:((w.alloc (.cells #[bv 38,bv 35,bv 120] 5 (3,4))).alloc (.cells #[bv 38,bv 35] 5 (2,3)))=wq
 have HQ:Hid (Below w.heap.size w wq):=Hd (by rw[← hwq];exact HB.out)
 clear hwq
 have HCELL:Hid (∀ k,k<n→wq.cell? ⟨b,o+k,none⟩=some (.int .u8 (UInt8.toNat (l.getD k 0):Int))):=Hd fun k hk=>by
  obtain⟨b',o',c',e,hb',hc',hcl⟩:=(HH.out.1.below HQ.out).cell hk
  cases e
  rw[hcl,List.getD_eq_getElem?_getD,hc']
  rfl
 go_step3
 go_wp2_with fail
 go_loopg [4,5] (n+1 - (at_+2)) (fun g r i wr=> ∃ j:Nat,at_+2≤j∧j≤at_+2+ds.length∧Hid (g+j=n+1)∧i= .int .i64 (j:Int)∧r= .int .i64 (numC 10 2097152 (ds.take (j - (at_+2))))∧wq=wr)
 case atStart=>exact⟨at_+2,Nat.le_refl _,Nat.le_add_right _ _,Hd (by omega),rfl,by rw[Nat.sub_self];rfl,rfl⟩
 case round =>
  obtain⟨j,hj1,hj2,hg,rfl,rfl,rfl⟩:=hrel
  have hbn:=(HD.out.2.2 (j - (at_+2)))
  have hb0:=hbn.1
  have hb1:=hbn.2
  have hj0:(0:Int)≤(j:Int):=by omega
  have hjb:(j:Int)≤50000:=by have:=HS.out;omega
  clear hbn
  by_cases hjn:j<n
  · have hcl:=HCELL.out j hjn
    have hgd:(l.drop (at_+2))[j - (at_+2)]? =some (l.getD j 0):=by
     rw[List.getElem?_drop,show(at_+2)+(j - (at_+2))=j by omega,List.getElem?_eq_getElem (by omega)];simp[List.getD_eq_getElem?_getD,hln ▸ hjn]
    have hat59:=HD.out.1 (j - (at_+2)) (l.getD j 0) (by omega) hgd
    have hdl:=digit_lt 10 (by omega) (UInt8.toNat (l.getD j 0):Int)
    have hjin:(j:Int)<(n:Int):=by omega
    by_cases hjm:j<(at_+2)+ds.length
    · have hD0:0≤digit 10 (UInt8.toNat (l.getD j 0):Int):=hat59.1 (by omega)
      have HN:Hid (numC 10 2097152 (ds.take (j+1 - (at_+2)))=min (numC 10 2097152 (ds.take (j - (at_+2)))*10+digit 10 (UInt8.toNat (l.getD j 0):Int)) 2097152):=Hd (by
       rw[show j+1 - (at_+2)=(j - (at_+2))+1 by omega,take_snoc ds (j - (at_+2)) (l.getD j 0),numC_snoc]
       rw[HD.out.2.1,List.getElem?_take_of_lt (by omega)];exact hgd)
      have HDC:Hid (Calls Tryz.prog 84 #[.int .i64 (UInt8.toNat (l.getD j 0):Int),.int .i64 10] wq fun e w'=>e= .returned (.int .i64 (digit 10 (UInt8.toNat (l.getD j 0):Int)))∧wq=w'):=Hd (digitB_c 10 (by omega) _ wq)
      have hdl1:=hdl.1
      have hlx:0≤(UInt8.toNat (l.getD j 0):Int):=by omega
      have hly:(UInt8.toNat (l.getD j 0):Int)≤255:=by have:=(l.getD j 0).toNat_lt;omega
      clear hat59 hgd hdl
      generalize (UInt8.toNat (l.getD j 0):Int)=dn at *
      generalize digit 10 dn=D at *
      generalize numC 10 2097152 (ds.take (j - (at_+2)))=r at *
      have hdn:decide (D<0)=false:=by simp;omega
      go_wp2_with fail
      refine HDC.out.mono ?_
      rintro e w1 ⟨rfl,rfl⟩
      go_wp2
      go_roundg (n - j)
      case measure=>have:=hg.out;omega
      case rel=>exact⟨j+1,by omega,by omega,Hd (by omega),by go_num,by rw[HN.out],rfl⟩
    · obtain rfl:j=(at_+2)+ds.length:=by omega
      have hD0:digit 10 (UInt8.toNat (l.getD ((at_+2)+ds.length) 0):Int)<0:=by
       rcases Int.lt_or_le (digit 10 (UInt8.toNat (l.getD ((at_+2)+ds.length) 0):Int)) 0 with h|h
       · exact h
       · have:=hat59.2 h;omega
      have h59:l[(at_+2)+ds.length]? =some (l.getD ((at_+2)+ds.length) 0):=by
       rw[List.getElem?_eq_getElem (by omega)];simp[List.getD_eq_getElem?_getD,hln ▸ hjn]
      have htk:ds.take ((at_+2)+ds.length - (at_+2))=ds:=by rw[show (at_+2)+ds.length - (at_+2)=ds.length by omega,List.take_length]
      rw[htk]at hb0 hb1 ⊢
      have HDC:Hid (Calls Tryz.prog 84 #[.int .i64 (UInt8.toNat (l.getD ((at_+2)+ds.length) 0):Int),.int .i64 10] wq fun e w'=>e= .returned (.int .i64 (digit 10 (UInt8.toNat (l.getD ((at_+2)+ds.length) 0):Int)))∧wq=w'):=Hd (digitB_c 10 (by omega) _ wq)
      have hdn:decide (digit 10 (UInt8.toNat (l.getD ((at_+2)+ds.length) 0):Int)<0)=true:=decide_eq_true hD0
      have hcc:=HC.out
      rw[h59]at hcc
      have HT1:=Hd (char_c (numC 10 2097152 ds) wq (HH.out.2.1.below HQ.out HH.out.2.2))
      clear hat59 hgd hdl htk h59
      generalize hdd:l.getD ((at_+2)+ds.length) 0=d at *
      have hlx:0≤(d.toNat:Int):=by omega
      have hly:(d.toNat:Int)≤255:=by have:=d.toNat_lt;omega
      have hne59: ¬ d=59→((d.toNat:Int) != 59)=true:=fun h=>by have:=ne_byte' d 59 59 rfl h;simp[bne,this]
      generalize digit 10 (d.toNat:Int)=D at *
      generalize numC 10 2097152 ds=r at *
      generalize hJ:(at_+2)+ds.length=J at *
      by_cases hm0:ds.length=0
      · have HRES:Hid (res=(0,0,7)):=Hd (by rw[hcc,if_pos (Or.inl hm0)])
        have hJ0:((J:Int)==(at_:Int)+2)=true:=by simp;omega
        have HJ:=Hd hJ
        clear hcc hm0 hJ hdd hne59
        go_wp2_with fail
        refine HDC.out.mono ?_
        rintro e w1 ⟨rfl,rfl⟩
        go_wp2
        try rw[Exit.noGoto_ret]
        go_ret3
        rw[HRES.out]
        exact⟨rfl,HQ.out⟩
      · have hJ0:((J:Int)==(at_:Int)+2)=false:=by simp;omega
        have hJn:((J:Int)==(n:Int))=false:=by simp;omega
        by_cases hd59:d=59
        · have hcl':wq.cell? ⟨b,o+J,none⟩=some (.int .u8 59):=by rw[hcl,hd59];rfl
          have hDd:d.toNat=59:=by rw[hd59];rfl
          cases hdoc:isDoc r with
          |true =>
           have HRES:Hid (res=(r,J+1,0)):=Hd (by rw[hcc,if_neg (by rw[hd59];simp;exact List.ne_nil_of_length_pos (by omega)),if_pos hdoc])
           rw[hdoc]at HT1
           have HJ:=Hd hJ
           have hm0':0<ds.length:=by omega
           rw[hDd]at HDC hcl
           clear hcc hm0 hJ hdd hne59 hd59 hDd hdoc hcl'
           go_wp2_with fail
           refine HDC.out.mono ?_
           rintro e w1 ⟨rfl,rfl⟩
           go_wp2_with fail
           refine HT1.out.mono ?_
           rintro e w1 ⟨rfl,hb⟩
           have HE:Hid (Below w.heap.size w w1):=Hd (HQ.out.trans (hb.mono HQ.out.size))
           clear hb
           go_wp2
           try rw[Exit.noGoto_ret]
           go_ret3
           rw[HRES.out]
           exact⟨rfl,HE.out⟩
          |false =>
           have HRES:Hid (res=(0,0,6)):=Hd (by rw[hcc,if_neg (by rw[hd59];simp;exact List.ne_nil_of_length_pos (by omega)),if_neg (by rw[hdoc];decide)])
           rw[hdoc]at HT1
           have HJ:=Hd hJ
           have hm0':0<ds.length:=by omega
           rw[hDd]at HDC hcl
           clear hcc hm0 hJ hdd hne59 hd59 hDd hdoc hcl'
           go_wp2_with fail
           refine HDC.out.mono ?_
           rintro e w1 ⟨rfl,rfl⟩
           go_wp2_with fail
           refine HT1.out.mono ?_
           rintro e w1 ⟨rfl,hb⟩
           have HE:Hid (Below w.heap.size w w1):=Hd (HQ.out.trans (hb.mono HQ.out.size))
           clear hb
           go_wp2
           try rw[Exit.noGoto_ret]
           go_ret3
           rw[HRES.out]
           exact⟨rfl,HE.out⟩
        · have HRES:Hid (res=(0,0,7)):=Hd (by rw[hcc,if_pos (Or.inr (by simpa using hd59))])
          have hdn59:=hne59 hd59
          have HJ:=Hd hJ
          have hm0':0<ds.length:=by omega
          clear hcc hm0 hJ hdd hne59 hd59
          generalize (d.toNat:Int)=dn at *
          go_wp2_with fail
          refine HDC.out.mono ?_
          rintro e w1 ⟨rfl,rfl⟩
          go_wp2
          try rw[Exit.noGoto_ret]
          go_ret3
          rw[HRES.out]
          exact⟨rfl,HQ.out⟩
  · have hjm:j=(at_+2)+ds.length:=by have:=HS.out;omega
    have hjnn:j=n:=by have:=HS.out;omega
    have HRES:Hid (res=(0,0,7)):=Hd (by rw[HC.out,if_pos (Or.inr (by rw[← hjm,List.getElem?_eq_none (by omega)];simp))])
    have hjin: ¬ (j:Int)<(n:Int):=by omega
    have hjin2:((j:Int)==(n:Int))=true:=by simp;omega
    have HJ:=Hd (And.intro hjm hjnn)
    clear hjm hjnn
    generalize hz:((j:Int)==(at_:Int)+2)=z at *
    cases z with
    |true =>
     go_wp2
     try rw[Exit.noGoto_ret]
     go_ret3
     rw[HRES.out]
     exact⟨rfl,HQ.out⟩
    |false =>
     go_wp2
     try rw[Exit.noGoto_ret]
     go_ret3
     rw[HRES.out]
     exact⟨rfl,HQ.out⟩
def charAt (l:List UInt8)(at_:Int):Int × Nat × Nat:=if at_<0∨(l.length:Int)<at_ then (0,0,3) else charOut l at_.toNat
theorem crefChar_c (A:Option Addr)(n cap:Nat)(l:List UInt8)(at_:Int)(w:World)(h:Byt w w.heap.size A n cap l)(hF:Forms w)(hT:Tabs w)(hm:n≤50000) :
 Calls Tryz.prog 55 #[.slice A n cap,.int .i64 at_] w fun e w'=>e= .returned (numV (charAt l at_))∧Below w.heap.size w w':=by
 have hl:=h.length
 unfold charAt
 rw[hl]
 by_cases ha:at_<0∨(n:Int)<at_
 · rw[if_pos ha];exact crefChar_range A n cap at_ w ha
 · rw[if_neg ha]
   obtain⟨k,rfl⟩: ∃ k:Nat,at_=(k:Int):=⟨at_.toNat,by omega⟩
   rw[Int.toNat_natCast]
   have hk:k≤n:=by omega
   have hd0:(l.drop k)[0]? =l[k]? :=by simp
   have hd1:(l.drop k)[1]? =l[k+1]? :=by simp
   have hd2:(l.drop k)[2]? =l[k+2]? :=by simp
   unfold charOut
   by_cases h2:l[k]? =some 38∧l[k+1]? =some 35
   · rw[if_pos h2]
     have p2: [38,35].isPrefixOf (l.drop k)=true:=by rw[pre2,hd0,hd1];exact decide_eq_true h2
     by_cases h3:l[k+2]? =some 120
     · rw[if_pos h3]
       exact crefChar_16 A n cap l k w h hT hF hm hk (by rw[pre3,hd0,hd1,hd2];exact decide_eq_true ⟨h2.1,h2.2,h3⟩)
     · rw[if_neg h3]
       exact crefChar_10 A n cap l k w h hT hF hm hk (by rw[pre3,hd0,hd1,hd2];exact decide_eq_false fun h=>h3 h.2.2) p2
   · rw[if_neg h2]
     exact crefChar_no A n cap l k w h hm hk (by rw[pre2,hd0,hd1];exact decide_eq_false h2)
theorem indexByte_c (A:Option Addr)(n cap:Nat)(l:List UInt8)(c:UInt8)(w:World)(B:Nat)(h:Byt w B A n cap l) :
 Calls Tryz.prog 67 #[.slice A n cap,.int .u8 c.toNat] w fun e w'=>e= .returned (.int .i64 (Lib.indexByte l c))∧w'=w:=by
 have hcc:((c.toNat:Int).toNat.toUInt8)=c:=by simp
 cases A with
 |none =>
  have hc:=h.nil rfl
  have hn:=h.le
  have hl:=h.length
  obtain rfl:cap=0:=hc
  obtain rfl:n=0:=by omega
  obtain rfl:l= []:=List.length_eq_zero_iff.1 hl
  exact(Tryz.bytes_IndexByte_nil (c.toNat:Int) w)
 |some a =>
  refine(Tryz.bytes_IndexByte_at a n cap (nums l) (c.toNat:Int) w (by rw[nums_length,h.length]) fun i hi=> ?_).mono fun e w' ⟨he,hw⟩=>⟨by rw[he,bytesOf_nums,hcc],hw⟩
  obtain⟨b,o,e,hc⟩:=h.cells (by have:=h.le;omega)
  cases e
  have:=hc i hi
  unfold Addr.add
  split
  · rename_i h0;subst h0;rw[Nat.add_zero]at this;exact this
  · exact this
theorem quoted_range (A:Option Addr)(n cap:Nat)(at_:Int)(w:World)(ha:at_<0∨(n:Int)<at_) :
 Calls Tryz.prog 167 #[.slice A n cap,.int .i64 at_] w fun e w'=>e= .returned (outV ([],0,3))∧w=w':=by
 by_cases h0:at_<0
 · have hd:decide (at_<0)=true:=by simpa using h0
   clear ha
   go_enter Tryz.func167,Tryz.ntmps167
   go_wp2
   go_ret3
   exact⟨rfl,rfl⟩
 · have h1:(n:Int)<at_:=by omega
   clear ha
   go_enter Tryz.func167,Tryz.ntmps167
   go_wp2
   go_ret3
   exact⟨rfl,rfl⟩
theorem quoted_no (A:Option Addr)(n cap:Nat)(l:List UInt8)(k:Nat)(w:World)(B:Nat)(h:Byt w B A n cap l)(hm:n≤50000)(hk:k≤n)(hq: ∀ q,l[k]? =some q→ ¬ (q=34∨q=39)) :
 Calls Tryz.prog 167 #[.slice A n cap,.int .i64 k] w fun e w'=>e= .returned (outV ([],0,7))∧w=w':=by
 have hat': ¬ (n:Int)<(k:Int):=by omega
 by_cases hkn:k=n
 · have hkn':((k:Int)==(n:Int))=true:=by simp;omega
   clear hq h hm hk hkn
   go_enter Tryz.func167,Tryz.ntmps167
   go_wp2
   go_ret3
   exact⟨rfl,rfl⟩
 · have hkn':((k:Int)==(n:Int))=false:=by simp;omega
   obtain⟨b,o,c,rfl,hb,hc,hcell⟩:=h.cell (i:=k) (by omega)
   have hli:(k:Int)<(n:Int):=by omega
   have hq':=not_or.1 (hq c hc)
   have e1:((c.toNat:Int) != 34)=true:=by have:=ne_byte' c 34 34 rfl hq'.1;simp[bne,this]
   have e2:((c.toNat:Int) != 39)=true:=by have:=ne_byte' c 39 39 rfl hq'.2;simp[bne,this]
   clear hq hq' h hm hk hkn hc
   generalize (c.toNat:Int)=cn at *
   go_enter Tryz.func167,Tryz.ntmps167
   go_wp2
   go_ret3
   exact⟨rfl,rfl⟩
theorem quoted_34 (A:Option Addr)(n cap:Nat)(l:List UInt8)(k:Nat)(w:World)(B:Nat)(h:Byt w B A n cap l)(hm:n≤50000)(hq:l[k]? =some 34) :
 Calls Tryz.prog 167 #[.slice A n cap,.int .i64 k] w fun e w'=>e= .returned (outV (quotedQ 34 l k))∧ ∃ m,w'=w.drewN m:=by
 have hl:=h.length
 have hkn:k<n:=by
  rcases Nat.lt_or_ge k l.length with g|g
  · omega
  · rw[List.getElem?_eq_none g]at hq;cases hq
 have hat': ¬ (n:Int)<(k:Int):=by omega
 have hne:((k:Int)==(n:Int))=false:=by simp;omega
 obtain⟨b,o,c,rfl,hb,hc,hcell⟩:=h.cell (i:=k) hkn
 have hcq:c=34:=by rw[hq]at hc;exact(Option.some.inj hc).symm
 have hcell':w.cell? ⟨b,o+k,none⟩=some (.int .u8 34):=by rw[hcell,hcq];rfl
 have hli:(k:Int)<(n:Int):=by omega
 have hk0:(0:Int)≤(k:Int):=by omega
 have hk1:(k:Int)≤50000:=by omega
 have hk2:(0:Int)≤(k:Int)+1:=by omega
 have hk3:(k:Int)+1≤(n:Int):=by omega
 have hap:IntKind.i64.wrap ((k:Int)+1)=(k:Int)+1:=by rw[IntKind.wrap_i64];omega
 have hrf: ∀ w2:World,(Instr.slice 29 (.slice (some ⟨b,o,none⟩) n cap) (some (.int .i64 ((k:Int)+1))) none none).run Tryz.prog w2= .ok (.slice (cutA (some ⟨b,o,none⟩) cap (k+1)) (n - (k+1)) (cap - (k+1))) w2:=fun w2=>run_from (w:=w2) (some ⟨b,o,none⟩) n cap (k+1) (by omega)
 have hdr:=h.drop (k:=k+1) (by omega)
 have HI:Hid (∀ m,Calls Tryz.prog 67 #[.slice (cutA (some ⟨b,o,none⟩) cap (k+1)) (n - (k+1)) (cap - (k+1)),.int .u8 34] (w.drewN m) fun e w'=>e= .returned (.int .i64 (Lib.indexByte (l.drop (k+1)) 34))∧w'=w.drewN m):=Hd fun m=>indexByte_c _ _ _ (l.drop (k+1)) 34 (w.drewN m) _ hdr.drewN
 have hlo:=ix_lo 34 (l.drop (k+1))
 rw[List.length_drop,hl]at hlo
 have hcap:=h.le
 have HQ:Hid (quotedQ 34 l k=if Lib.indexByte (l.drop (k+1)) 34<0 then ([],0,7) else ((l.drop (k+1)).take (Lib.indexByte (l.drop (k+1)) 34).toNat,k+(Lib.indexByte (l.drop (k+1)) 34).toNat+2,0)):=Hd rfl
 have HB:Hid (∀ j m,j≤n - (k+1)→(convert 29 9 (.slice (cutA (some ⟨b,o,none⟩) cap (k+1)) j (cap - (k+1)))).run Tryz.prog (w.drewN m)= .ok (.string ⟨((l.drop (k+1)).take j).toArray⟩) (w.drewN m)):=Hd fun j m hj=>(hdr.drewN.take hj).str
 have hlo1:=hlo.1
 have hlo2:=hlo.2
 clear h hc hcell hcq hdr hq hl hlo
 generalize Lib.indexByte (l.drop (k+1)) 34=ix at *
 generalize quotedQ 34 l k=res at *
 have hcut: ∀ j:Nat,j≤n - (k+1)→ ∀ w2:World,(Instr.slice 29 (.slice (some ⟨b,o,none⟩) n cap) (some (.int .i64 ((k:Int)+1))) (some (.int .i64 ((k:Int)+1+(j:Int)))) none).run Tryz.prog w2= .ok (.slice (cutA (some ⟨b,o,none⟩) cap (k+1)) j (cap - (k+1))) w2:=fun j hj w2=>by
  have:=run_fromTo (w:=w2) (some ⟨b,o,none⟩) n cap (k+1) (k+1+j) (by omega) (by omega)
  rw[show k+1+j - (k+1)=j by omega,show((k+1+j:Nat):Int)=(k:Int)+1+(j:Int)by omega]at this
  exact this
 have HCUT:=Hd hcut
 clear hcut hcap
 go_enter Tryz.func167,Tryz.ntmps167
 go_wp2
 go_quiet ((go_at_call 67;exact Calls.quiet_of_same (HI.out _)))
 clear HI
 generalize hwq:w.drewN nq=wq at *
 have HWQ:=Hd hwq
 clear hwq
 by_cases hx:ix<0
 · have hd:decide (ix<0)=true:=by simpa using hx
   have HRES:Hid (res=([],0,7)):=Hd (by rw[HQ.out,if_pos hx])
   go_wp2
   go_ret3
   rw[HRES.out]
   exact⟨rfl,_,HWQ.out.symm⟩
 · obtain⟨j,rfl⟩: ∃ j:Nat,ix=(j:Int):=⟨ix.toNat,by omega⟩
   have hd:decide ((j:Int)<0)=false:=by simp
   have hjn:j≤n - (k+1):=by omega
   have HRES:Hid (res=((l.drop (k+1)).take j,k+j+2,0)):=Hd (by rw[HQ.out,if_neg hx,Int.toNat_natCast])
   have hct:=HCUT.out j hjn
   have hst:(convert 29 9 (.slice (cutA (some ⟨b,o,none⟩) cap (k+1)) j (cap - (k+1)))).run Tryz.prog wq= .ok (.string ⟨((l.drop (k+1)).take j).toArray⟩) wq:=by rw[← HWQ.out];exact HB.out j _ hjn
   have hjb:(j:Int)≤50000:=by omega
   generalize (l.drop (k+1)).take j=T at *
   have hw1:IntKind.i64.wrap ((k:Int)+1+(j:Int))=(k:Int)+1+(j:Int):=by rw[IntKind.wrap_i64];omega
   have hw2:IntKind.i64.wrap ((k:Int)+(j:Int))=(k:Int)+(j:Int):=by rw[IntKind.wrap_i64];omega
   have hw3:IntKind.i64.wrap ((k:Int)+(j:Int)+2)=(k:Int)+(j:Int)+2:=by rw[IntKind.wrap_i64];omega
   clear hx hlo1 hlo2
   go_wp2
   go_ret3
   rw[HRES.out]
   exact⟨rfl,_,HWQ.out.symm⟩
theorem quoted_39 (A:Option Addr)(n cap:Nat)(l:List UInt8)(k:Nat)(w:World)(B:Nat)(h:Byt w B A n cap l)(hm:n≤50000)(hq:l[k]? =some 39) :
 Calls Tryz.prog 167 #[.slice A n cap,.int .i64 k] w fun e w'=>e= .returned (outV (quotedQ 39 l k))∧ ∃ m,w'=w.drewN m:=by
 have hl:=h.length
 have hkn:k<n:=by
  rcases Nat.lt_or_ge k l.length with g|g
  · omega
  · rw[List.getElem?_eq_none g]at hq;cases hq
 have hat': ¬ (n:Int)<(k:Int):=by omega
 have hne:((k:Int)==(n:Int))=false:=by simp;omega
 obtain⟨b,o,c,rfl,hb,hc,hcell⟩:=h.cell (i:=k) hkn
 have hcq:c=39:=by rw[hq]at hc;exact(Option.some.inj hc).symm
 have hcell':w.cell? ⟨b,o+k,none⟩=some (.int .u8 39):=by rw[hcell,hcq];rfl
 have hli:(k:Int)<(n:Int):=by omega
 have hk0:(0:Int)≤(k:Int):=by omega
 have hk1:(k:Int)≤50000:=by omega
 have hk2:(0:Int)≤(k:Int)+1:=by omega
 have hk3:(k:Int)+1≤(n:Int):=by omega
 have hap:IntKind.i64.wrap ((k:Int)+1)=(k:Int)+1:=by rw[IntKind.wrap_i64];omega
 have hrf: ∀ w2:World,(Instr.slice 29 (.slice (some ⟨b,o,none⟩) n cap) (some (.int .i64 ((k:Int)+1))) none none).run Tryz.prog w2= .ok (.slice (cutA (some ⟨b,o,none⟩) cap (k+1)) (n - (k+1)) (cap - (k+1))) w2:=fun w2=>run_from (w:=w2) (some ⟨b,o,none⟩) n cap (k+1) (by omega)
 have hdr:=h.drop (k:=k+1) (by omega)
 have HI:Hid (∀ m,Calls Tryz.prog 67 #[.slice (cutA (some ⟨b,o,none⟩) cap (k+1)) (n - (k+1)) (cap - (k+1)),.int .u8 39] (w.drewN m) fun e w'=>e= .returned (.int .i64 (Lib.indexByte (l.drop (k+1)) 39))∧w'=w.drewN m):=Hd fun m=>indexByte_c _ _ _ (l.drop (k+1)) 39 (w.drewN m) _ hdr.drewN
 have hlo:=ix_lo 39 (l.drop (k+1))
 rw[List.length_drop,hl]at hlo
 have hcap:=h.le
 have HQ:Hid (quotedQ 39 l k=if Lib.indexByte (l.drop (k+1)) 39<0 then ([],0,7) else ((l.drop (k+1)).take (Lib.indexByte (l.drop (k+1)) 39).toNat,k+(Lib.indexByte (l.drop (k+1)) 39).toNat+2,0)):=Hd rfl
 have HB:Hid (∀ j m,j≤n - (k+1)→(convert 29 9 (.slice (cutA (some ⟨b,o,none⟩) cap (k+1)) j (cap - (k+1)))).run Tryz.prog (w.drewN m)= .ok (.string ⟨((l.drop (k+1)).take j).toArray⟩) (w.drewN m)):=Hd fun j m hj=>(hdr.drewN.take hj).str
 have hlo1:=hlo.1
 have hlo2:=hlo.2
 clear h hc hcell hcq hdr hq hl hlo
 generalize Lib.indexByte (l.drop (k+1)) 39=ix at *
 generalize quotedQ 39 l k=res at *
 have hcut: ∀ j:Nat,j≤n - (k+1)→ ∀ w2:World,(Instr.slice 29 (.slice (some ⟨b,o,none⟩) n cap) (some (.int .i64 ((k:Int)+1))) (some (.int .i64 ((k:Int)+1+(j:Int)))) none).run Tryz.prog w2= .ok (.slice (cutA (some ⟨b,o,none⟩) cap (k+1)) j (cap - (k+1))) w2:=fun j hj w2=>by
  have:=run_fromTo (w:=w2) (some ⟨b,o,none⟩) n cap (k+1) (k+1+j) (by omega) (by omega)
  rw[show k+1+j - (k+1)=j by omega,show((k+1+j:Nat):Int)=(k:Int)+1+(j:Int)by omega]at this
  exact this
 have HCUT:=Hd hcut
 clear hcut hcap
 go_enter Tryz.func167,Tryz.ntmps167
 go_wp2
 go_quiet ((go_at_call 67;exact Calls.quiet_of_same (HI.out _)))
 clear HI
 generalize hwq:w.drewN nq=wq at *
 have HWQ:=Hd hwq
 clear hwq
 by_cases hx:ix<0
 · have hd:decide (ix<0)=true:=by simpa using hx
   have HRES:Hid (res=([],0,7)):=Hd (by rw[HQ.out,if_pos hx])
   go_wp2
   go_ret3
   rw[HRES.out]
   exact⟨rfl,_,HWQ.out.symm⟩
 · obtain⟨j,rfl⟩: ∃ j:Nat,ix=(j:Int):=⟨ix.toNat,by omega⟩
   have hd:decide ((j:Int)<0)=false:=by simp
   have hjn:j≤n - (k+1):=by omega
   have HRES:Hid (res=((l.drop (k+1)).take j,k+j+2,0)):=Hd (by rw[HQ.out,if_neg hx,Int.toNat_natCast])
   have hct:=HCUT.out j hjn
   have hst:(convert 29 9 (.slice (cutA (some ⟨b,o,none⟩) cap (k+1)) j (cap - (k+1)))).run Tryz.prog wq= .ok (.string ⟨((l.drop (k+1)).take j).toArray⟩) wq:=by rw[← HWQ.out];exact HB.out j _ hjn
   have hjb:(j:Int)≤50000:=by omega
   generalize (l.drop (k+1)).take j=T at *
   have hw1:IntKind.i64.wrap ((k:Int)+1+(j:Int))=(k:Int)+1+(j:Int):=by rw[IntKind.wrap_i64];omega
   have hw2:IntKind.i64.wrap ((k:Int)+(j:Int))=(k:Int)+(j:Int):=by rw[IntKind.wrap_i64];omega
   have hw3:IntKind.i64.wrap ((k:Int)+(j:Int)+2)=(k:Int)+(j:Int)+2:=by rw[IntKind.wrap_i64];omega
   clear hx hlo1 hlo2
   go_wp2
   go_ret3
   rw[HRES.out]
   exact⟨rfl,_,HWQ.out.symm⟩
theorem quoted_c (A:Option Addr)(n cap:Nat)(l:List UInt8)(at_:Int)(w:World)(B:Nat)(h:Byt w B A n cap l)(hm:n≤50000) :
 Calls Tryz.prog 167 #[.slice A n cap,.int .i64 at_] w fun e w'=>e= .returned (outV (quotedAt l at_))∧ ∃ m,w'=w.drewN m:=by
 have hl:=h.length
 unfold quotedAt
 rw[hl]
 by_cases ha:at_<0∨(n:Int)<at_
 · rw[if_pos ha];exact(quoted_range A n cap at_ w ha).mono fun e w' ⟨he,hw⟩=>⟨he,0,hw.symm⟩
 · rw[if_neg ha]
   obtain⟨k,rfl⟩: ∃ k:Nat,at_=(k:Int):=⟨at_.toNat,by omega⟩
   rw[Int.toNat_natCast]
   unfold quotedOut
   cases hq:l[k]? with
   |none=>exact(quoted_no A n cap l k w B h hm (by omega) (fun q e=>by rw[hq]at e;cases e)).mono fun e w' ⟨he,hw⟩=>⟨he,0,hw.symm⟩
   |some q =>
    simp only
    by_cases hqq:q=34∨q=39
    · rw[if_pos hqq]
      rcases hqq with rfl|rfl
      · exact quoted_34 A n cap l k w B h hm hq
      · exact quoted_39 A n cap l k w B h hm hq
    · rw[if_neg hqq];exact(quoted_no A n cap l k w B h hm (by omega) (fun q' e=>by rw[hq]at e;cases e;exact hqq)).mono fun e w' ⟨he,hw⟩=>⟨he,0,hw.symm⟩
end Go.Proofs.YtbafljibbabnaaaGreatDoor
