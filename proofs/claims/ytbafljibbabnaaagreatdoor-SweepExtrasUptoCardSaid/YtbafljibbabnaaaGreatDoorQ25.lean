/- Texts of ours, joined: NameA, RefC. -/
import Derived.Test.YtbafljibbabnaaaGreatDoorQ14
namespace Go.Proofs.YtbafljibbabnaaaGreatDoor
open Go.ChangeShapes Go.WideShapes Go.ChangeAt Go.RowKit
set_option linter.unusedVariables false
set_option maxRecDepth 100000
set_option maxHeartbeats 32000000
def namesV:Value:= .agg #[.func (.func 132) #[] #[],.func (.func 133) #[] #[]]
theorem names_c (w:World):Calls Tryz.prog 138 #[] w fun e w'=>e= .returned namesV∧Below w.heap.size w w':=by
 have hF:=Hd (hp_new w (.cells #[.func (.func 132) #[] #[],.func (.func 133) #[] #[]] 160))
 have hb:=Hd (Below.alloc (Below.refl w.heap.size w) (Nat.le_refl _) (.cells #[.func (.func 132) #[] #[],.func (.func 133) #[] #[]] 160))
 go_enter Tryz.func138,Tryz.ntmps138
 go_wp2
 have hi:(Tryz.prog.info? 160).map (·.size)=some 2:=by kernel_rfl
 obtain⟨d,hu⟩:=isStruct_of (P:=Tryz.prog) (t:=160) (by kernel_rfl)
 (try simp only[Exit.inBlock,Exit.then])
 refine bodyPost_ret (results_cell_row rfl _ _ w.heap.size _ _ _ _ rfl hF.out hu rfl hi) rfl ⟨rfl,hb.out⟩
theorem endA_c (A:Option Addr)(n cap:Nat)(l:List UInt8)(at_:Nat)(w:World)(h:Byt w w.heap.size A n cap l)(hF:Forms w)(hm:n≤100000)(hat:at_≤n)(hT:TabN w) :
 Calls Tryz.prog 134 #[namesV,.slice A n cap,.int .i64 at_] w fun e w'=>e= .returned (.int .i64 ((at_+endL isStart isMore n (l.drop at_):Nat)))∧Below w.heap.size w w':=by
 have HB0:=Hd (And.intro h (And.intro hF hF.lt))
 have HS:Hid (Says 132 #[] w.heap.size w isStart∧Says 133 #[] w.heap.size w isMore):=Hd ⟨fun w1 r hb=>nameStart_c r w1 (hT.below hb (hT.low hF)),fun w1 r hb=>nameChar_c r w1 (hT.below hb (hT.low hF)) (by have:=hb.size;have:=hT.low hF;unfold LowN at *;omega)⟩
 have hln:=Hd h.length
 clear h hF hT
 unfold namesV
 go_enter Tryz.func134,Tryz.ntmps134
 have f0:=hp_new w (.cells #[.func (.func 132) #[] #[],.func (.func 133) #[] #[]] 160)
 have z0:=cell_of 0 f0
 have z1:=cell_of 1 f0
 have hb0:Hid (Below w.heap.size w (w.alloc (.cells #[.func (.func 132) #[] #[],.func (.func 133) #[] #[]] 160))):=Hd (Below.alloc (Below.refl _ _) (Nat.le_refl _) _)
 have hsz:(w.alloc (.cells #[.func (.func 132) #[] #[],.func (.func 133) #[] #[]] 160)).heap.size=w.heap.size+1:=by simp
 have z1':Hid ((w.alloc (.cells #[.func (.func 132) #[] #[],.func (.func 133) #[] #[]] 160)).cell? ⟨w.heap.size,1,none⟩=some (.func (.func 133) #[] #[])):=Hd z1
 clear f0 z1
 go_wp2
 generalize hw0:w.alloc (.cells #[.func (.func 132) #[] #[],.func (.func 133) #[] #[]] 160)=w0 at *
 clear hw0 z0
 go_loopg [2,7] (n - at_) (fun kx s2 s7 wr=> ∃ (p K fid:Nat) (fc:Int→Bool),s2= .int .i64 p∧s7= .func (.func fid) #[] #[]∧Hid (fid=132∨fid=133)∧p≤n∧kx=n - p∧n - p≤K ∧
  Hid (at_+endL isStart isMore n (l.drop at_)=p+endL fc isMore K (l.drop p))∧Hid (Says fid #[] w.heap.size w fc)∧Hid (Below w.heap.size w wr)∧w.heap.size<wr.heap.size ∧
  Hid (wr.cell? ⟨w.heap.size,1,none⟩=some (.func (.func 133) #[] #[])))
 case atStart=>exact⟨at_,n,132,isStart,rfl,rfl,Hd (.inl rfl),hat,rfl,by omega,Hd rfl,Hd HS.out.1,hb0,by omega,z1'⟩
 case round =>
  obtain⟨p,K,fid,fc,rfl,rfl,HFID,hp,hk,hK,HE,HC,HB,hsr,HZ⟩:=hrel
  have hfid:=HFID.out
  clear HFID
  rcases hfid with rfl|rfl
  all_goals
   by_cases hlt:p<n
   · have hlt':(p:Int)<(n:Int):=by omega
     have hd:=decode_c A n cap l p wr w.heap.size (HB0.out.1.below HB.out) (HB0.out.2.1.below HB.out HB0.out.2.2) hlt (by omega)
     cases hdec:dec (l.drop p)with
     |none =>
      rw[hdec]at hd
      have HD:=Hd hdec
      clear hdec
      go_wp2_with fail
      refine hd.mono ?_
      rintro e w1 ⟨rfl,q,rfl⟩
      simp only[decOut]
      go_wp2
      go_ret
      exact⟨by rw[HE.out,endL_none _ _ _ _ HD.out];rfl,below_drewN' HB.out⟩
     |some v =>
      obtain⟨r,m⟩:=v
      rw[hdec]at hd
      have HD:=Hd hdec
      have hle:=dec_le _ r m hdec
      rw[List.length_drop,hln.out]at hle
      have hcall:=HC.out (wr.drewN 0) r (below_drewN' HB.out)
      clear hdec
      have HX:=Hd HC.out
      clear hcall
      cases hfr:fc r with
      |false =>
       go_wp2_with fail
       refine hd.mono ?_
       rintro e w1 ⟨rfl,q,rfl⟩
       simp only[decOut]
       have hcall:=HC.out (wr.drewN q) r (below_drewN' HB.out)
       rw[hfr]at hcall
       have HR:=Hd hfr
       clear hfr
       go_wp2_with fail
       refine hcall.mono ?_
       rintro e w2 ⟨rfl,hb2⟩
       go_wp2
       go_ret
       exact⟨by rw[HE.out,endL_no _ _ _ _ _ _ HD.out HR.out];rfl,(below_drewN' HB.out).trans (hb2.mono (by show w.heap.size≤wr.heap.size;omega))⟩
      |true =>
       go_wp2_with fail
       refine hd.mono ?_
       rintro e w1 ⟨rfl,q,rfl⟩
       simp only[decOut]
       have hcall:=HC.out (wr.drewN q) r (below_drewN' HB.out)
       rw[hfr]at hcall
       have HR:=Hd hfr
       clear hfr
       go_wp2_with fail
       refine hcall.mono ?_
       rintro e w2 ⟨rfl,hb2⟩
       have hz2:w2.cell? ⟨w.heap.size,1,none⟩=some (.func (.func 133) #[] #[]):=by rw[hb2.cell (by show w.heap.size<wr.heap.size;omega)];exact HZ.out
       have HB2:=Hd ((below_drewN' (n:=q) HB.out).trans (hb2.mono (by show w.heap.size≤wr.heap.size;omega)))
       have hs2:w.heap.size<w2.heap.size:=by have:=hb2.size;have:wr.heap.size≤w2.heap.size:=this;omega
       clear hb2
       go_wp2
       go_quiet (fail)
       have hz3:Hid ((w2.drewN nq).cell? ⟨w.heap.size,1,none⟩=some (.func (.func 133) #[] #[])):=Hd hz2
       go_wp2
       go_roundg (n - (p+m))
       case measure=>omega
       case rel =>
        refine⟨p+m,K - 1,133,isMore,rfl,rfl,Hd (.inr rfl),by omega,rfl,by omega,Hd ?_,Hd HS.out.2,Hd (below_drewN' HB2.out),hs2,hz3⟩
        have:=endL_yes fc isMore (K - 1) _ r m HD.out HR.out
        rw[show K - 1+1=K by omega,List.drop_drop]at this
        rw[HE.out,this]
        omega
   · obtain rfl:p=n:=by omega
     go_wp2
     go_ret
     refine⟨?_,HB.out⟩
     rw[HE.out,List.drop_of_length_le (by rw[hln.out];exact Nat.le_refl _),endL_none _ _ _ _ (by rfl)]
     rfl
def nameOut (l:List UInt8)(at_:Nat):List UInt8 × Nat × Nat :=
 let k:=endL isStart isMore l.length (l.drop at_)
 if k=0 then ([],0,7) else if 1024<k then ([],0,11) else ((l.drop at_).take k,at_+k,0)
theorem readA_c (A:Option Addr)(n cap:Nat)(l:List UInt8)(at_:Nat)(w:World)(h:Byt w w.heap.size A n cap l)(hF:Forms w)(hm:n≤100000)(hat:at_≤n)(hT:TabN w) :
 Calls Tryz.prog 102 #[namesV,.slice A n cap,.int .i64 at_] w fun e w'=>e= .returned (outV (nameOut l at_))∧Below w.heap.size w w':=by
 have hb:Below w.heap.size w (w.alloc (.cells #[.func (.func 132) #[] #[],.func (.func 133) #[] #[]] 160)):=Below.alloc (Below.refl w.heap.size w) (Nat.le_refl _) _
 have hln:=h.length
 have hend:=endA_c A n cap l at_ _ ((h.below hb).more hb.size) (hF.below hb hF.lt) hm hat (hT.below hb (hT.low hF))
 have hkl:at_+endL isStart isMore n (l.drop at_)≤n:=by
  have:=endL_le n isStart isMore (l.drop at_)
  rw[List.length_drop,hln]at this
  omega
 have HB:=Hd (And.intro h hb)
 have f0:=hp_new w (.cells #[.func (.func 132) #[] #[],.func (.func 133) #[] #[]] 160)
 have hi:(Tryz.prog.info? 160).map (·.size)=some 2:=by kernel_rfl
 obtain⟨d,hu⟩:=isStruct_of (P:=Tryz.prog) (t:=160) (by kernel_rfl)
 have hld:=run_loadVar_row _ _ _ _ _ _ _ f0 hu rfl hi
 have HE:Hid (endL isStart isMore l.length (l.drop at_)=endL isStart isMore n (l.drop at_)):=Hd (by rw[hln])
 clear h hF hT hb f0 hu hi hln
 unfold namesV at *
 unfold nameOut
 simp only[HE.out]
 generalize endL isStart isMore n (l.drop at_)=k at *
 have hat': ¬ (n:Int)<(at_:Int):=by omega
 have HM:=Hd (And.intro hm hat)
 have HN:=Hd hend
 clear hm hend
 generalize hres:(if k=0 then ([],0,7) else if 1024<k then ([],0,11) else ((l.drop at_).take k,at_+k,0))=res
 have HR:=Hd hres
 clear hres
 go_enter Tryz.func102,Tryz.ntmps102
 go_wp2_with fail
 refine HN.out.mono ?_
 rintro e w1 ⟨rfl,hb1⟩
 have HB1:=Hd ((HB.out.2).trans (hb1.mono HB.out.2.size))
 clear hb1 hld
 rcases(show k=0∨1024<k∨(0<k∧k≤1024)by omega)with h0|h0|h0
 · subst h0
   have hre:=HR.out
   simp only[if_true]at hre
   subst hre
   have hn:=Int.natCast_nonneg at_
   go_wp2
   go_ret3
   exact⟨rfl,HB1.out⟩
 · have hre:=HR.out
   rw[if_neg (by omega),if_pos h0]at hre
   subst hre
   have hne:(((at_+k:Nat):Int)==(at_:Int))=false:=by simp;omega
   have hne2:((at_:Int)+(k:Int)==(at_:Int))=false:=by simp;omega
   have h0':(1024:Int)<(k:Int):=by omega
   have hsb:((at_:Int)+(k:Int)) - (at_:Int)=(k:Int):=by omega
   have hw:IntKind.i64.wrap (k:Int)=(k:Int):=by rw[IntKind.wrap_i64];have:=HM.out;omega
   go_wp2
   go_ret3
   exact⟨rfl,HB1.out⟩
 · have hre:=HR.out
   rw[if_neg (by omega),if_neg (by omega)]at hre
   subst hre
   have hne:(((at_+k:Nat):Int)==(at_:Int))=false:=by simp;omega
   have hne2:((at_:Int)+(k:Int)==(at_:Int))=false:=by simp;omega
   have h0': ¬ (1024:Int)<(k:Int):=by omega
   have hsb:((at_:Int)+(k:Int)) - (at_:Int)=(k:Int):=by omega
   have hw:IntKind.i64.wrap (k:Int)=(k:Int):=by rw[IntKind.wrap_i64];have:=HM.out;omega
   have hy:=((HB.out.1.below HB1.out).drop hat).take (k:=k) (by omega)
   have hstr:=hy.str
   have hcap:=HB.out.1.le
   have hrf: ∀ w2:World,(Instr.slice 29 (.slice A n cap) (some (.int .i64 (at_:Int))) (some (.int .i64 ((at_:Int)+(k:Int)))) none).run Tryz.prog w2= .ok (.slice (cutA A cap at_) k (cap - at_)) w2:=fun w2=>by
    have:=run_fromTo (w:=w2) A n cap at_ (at_+k) (by omega) (by omega)
    rw[show at_+k - at_=k by omega,show((at_+k:Nat):Int)=(at_:Int)+(k:Int)by omega]at this
    exact this
   have HY:=Hd hy
   clear hy hcap h0
   go_wp2
   go_ret3
   exact⟨rfl,HB1.out⟩
theorem name_c (A:Option Addr)(n cap:Nat)(l:List UInt8)(at_:Nat)(w:World)(h:Byt w w.heap.size A n cap l)(hF:Forms w)(hT:TabN w)(hm:n≤100000)(hat:at_≤n) :
 Calls Tryz.prog 108 #[.slice A n cap,.int .i64 at_] w fun e w'=>e= .returned (outV (nameOut l at_))∧Below w.heap.size w w':=by
 have hp:=names_c w
 have hL:=hT.low hF
 have HH:=Hd (And.intro h (And.intro hF (And.intro hm (And.intro hat (And.intro hT hL)))))
 clear h hF hT hm hat hL
 go_enter Tryz.func108,Tryz.ntmps108
 go_wp2_with fail
 refine hp.mono ?_
 rintro e w1 ⟨rfl,hb⟩
 have hr:=readA_c A n cap l at_ w1 ((HH.out.1.below hb).more hb.size) (HH.out.2.1.below hb HH.out.2.1.lt) HH.out.2.2.1 HH.out.2.2.2.1 (HH.out.2.2.2.2.1.below hb HH.out.2.2.2.2.2)
 have HB:=Hd hb
 clear hb hp
 unfold outV at *
 go_wp2_with fail
 refine hr.mono ?_
 rintro e w2 ⟨rfl,hb2⟩
 have HB2:=Hd (HB.out.trans (hb2.mono HB.out.size))
 clear hr hb2
 go_wp2
 go_ret3
 exact⟨rfl,HB2.out⟩
theorem refCharR_range (A:Option Addr)(n cap:Nat)(at_:Int)(w:World)(ha:at_<0∨(n:Int)<at_) :
 Calls Tryz.prog 34 #[.slice A n cap,.int .i64 at_] w fun e w'=>e= .returned (numV (0,0,3))∧w=w':=by
 by_cases h0:at_<0
 · have hd:decide (at_<0)=true:=by simpa using h0
   clear ha
   go_enter Tryz.func34,Tryz.ntmps34
   go_wp2
   go_ret3
   exact⟨rfl,rfl⟩
 · have h1:(n:Int)<at_:=by omega
   clear ha
   go_enter Tryz.func34,Tryz.ntmps34
   go_wp2
   go_ret3
   exact⟨rfl,rfl⟩
theorem refCharR_short (A:Option Addr)(n cap:Nat)(at_:Nat)(w:World)(hm:n≤50000)(hat:at_≤n)(hs:n<at_+3) :
 Calls Tryz.prog 34 #[.slice A n cap,.int .i64 at_] w fun e w'=>e= .returned (numV (0,0,7))∧w=w':=by
 have hat': ¬ (n:Int)<(at_:Int):=by omega
 have hap:IntKind.i64.wrap ((at_:Int)+2)=(at_:Int)+2:=by rw[IntKind.wrap_i64];omega
 have hsb:IntKind.i64.wrap ((n:Int) - (at_:Int))=(n:Int) - (at_:Int):=by rw[IntKind.wrap_i64];omega
 have hd:decide ((n:Int) - (at_:Int)<3)=true:=by simp;omega
 clear hm hat hs
 go_enter Tryz.func34,Tryz.ntmps34
 go_wp2
 go_ret3
 exact⟨rfl,rfl⟩
theorem refCharR_no (b o:Nat)(n cap:Nat)(l:List UInt8)(at_:Nat)(w:World)(B:Nat)(h:Byt w B (some ⟨b,o,none⟩) n cap l)(hm:n≤50000)(hs:at_+3≤n)(hno: ¬ (l[at_]? =some 38∧l[at_+1]? =some 35)) :
 Calls Tryz.prog 34 #[.slice (some ⟨b,o,none⟩) n cap,.int .i64 at_] w fun e w'=>e= .returned (numV (0,0,7))∧w=w':=by
 have hat': ¬ (n:Int)<(at_:Int):=by omega
 have hap:IntKind.i64.wrap ((at_:Int)+2)=(at_:Int)+2:=by rw[IntKind.wrap_i64];omega
 have hap1:IntKind.i64.wrap ((at_:Int)+1)=(at_:Int)+1:=by rw[IntKind.wrap_i64];omega
 have hsb:IntKind.i64.wrap ((n:Int) - (at_:Int))=(n:Int) - (at_:Int):=by rw[IntKind.wrap_i64];omega
 have hd:decide ((n:Int) - (at_:Int)<3)=false:=by simp;omega
 obtain⟨b',o',c0,e,hb,hc0,hcell0⟩:=h.cell (i:=at_) (by omega)
 cases e
 obtain⟨b',o',c1,e,hb',hc1,hcell1⟩:=h.cell (i:=at_+1) (by omega)
 cases e
 have hli:(at_:Int)<(n:Int):=by omega
 have hli1:(at_:Int)+1<(n:Int):=by omega
 have hp1:(0:Int)≤(at_:Int)+1:=by omega
 have htn:((at_:Int)+1).toNat=at_+1:=by omega
 rw[hc0,hc1]at hno
 by_cases h38:c0=38
 · have h35: ¬ c1=35:=fun e=>hno ⟨by rw[h38],by rw[e]⟩
   have e1:((c1.toNat:Int) != 35)=true:=by have:=ne_byte' c1 35 35 rfl h35;simp[bne,this]
   have hcell0':w.cell? ⟨b,o+at_,none⟩=some (.int .u8 38):=by rw[hcell0,h38];rfl
   clear hno h38 h35 hcell0 hc0 hc1 h hm hs
   generalize (c1.toNat:Int)=d1 at *
   go_enter Tryz.func34,Tryz.ntmps34
   go_wp2
   go_ret3
   exact⟨rfl,rfl⟩
 · have e1:((c0.toNat:Int) != 38)=true:=by have:=ne_byte' c0 38 38 rfl h38;simp[bne,this]
   clear hno h38 hc0 hc1 h hm hs hcell1
   generalize (c0.toNat:Int)=d1 at *
   go_enter Tryz.func34,Tryz.ntmps34
   go_wp2
   go_ret3
   exact⟨rfl,rfl⟩
theorem refCharR_16 (b o:Nat)(n cap:Nat)(l:List UInt8)(at_:Nat)(w:World)(B:Nat)(h:Byt w B (some ⟨b,o,none⟩) n cap l)(hm:n≤50000)(hs:at_+3≤n)(h0:l[at_]? =some 38)(h1:l[at_+1]? =some 35)(h2:l[at_+2]? =some 120) :
 Calls Tryz.prog 34 #[.slice (some ⟨b,o,none⟩) n cap,.int .i64 at_] w fun e w'=>e= .returned (numV (charBody 16 2000000 l (at_+3)))∧w=w':=by
 have hln:=h.length
 have hat': ¬ (n:Int)<(at_:Int):=by omega
 have hap:IntKind.i64.wrap ((at_:Int)+2)=(at_:Int)+2:=by rw[IntKind.wrap_i64];omega
 have hap1:IntKind.i64.wrap ((at_:Int)+1)=(at_:Int)+1:=by rw[IntKind.wrap_i64];omega
 have hap3:IntKind.i64.wrap ((at_:Int)+3)=(at_:Int)+3:=by rw[IntKind.wrap_i64];omega
 have hsb:IntKind.i64.wrap ((n:Int) - (at_:Int))=(n:Int) - (at_:Int):=by rw[IntKind.wrap_i64];omega
 have hd:decide ((n:Int) - (at_:Int)<3)=false:=by simp;omega
 obtain⟨b',o',c0,e,hb,hc0,hcell0⟩:=h.cell (i:=at_) (by omega)
 cases e
 obtain⟨b',o',c1,e,hb',hc1,hcell1⟩:=h.cell (i:=at_+1) (by omega)
 cases e
 obtain⟨b',o',c2,e,hb',hc2,hcell2⟩:=h.cell (i:=at_+2) (by omega)
 cases e
 have hli:(at_:Int)<(n:Int):=by omega
 have hli1:(at_:Int)+1<(n:Int):=by omega
 have hp1:(0:Int)≤(at_:Int)+1:=by omega
 have htn:((at_:Int)+1).toNat=at_+1:=by omega
 have hli2:(at_:Int)+2<(n:Int):=by omega
 have hp2:(0:Int)≤(at_:Int)+2:=by omega
 have htn2:((at_:Int)+2).toNat=at_+2:=by omega
 have hcell0':w.cell? ⟨b,o+at_,none⟩=some (.int .u8 38):=by rw[hcell0,show c0=38 by rw[hc0]at h0;exact Option.some.inj h0];rfl
 have hcell1':w.cell? ⟨b,o+(at_+1),none⟩=some (.int .u8 35):=by rw[hcell1,show c1=35 by rw[hc1]at h1;exact Option.some.inj h1];rfl
 clear hcell0 hcell1
 have hcell2':w.cell? ⟨b,o+(at_+2),none⟩=some (.int .u8 120):=by rw[hcell2,show c2=120 by rw[hc2]at h2;exact Option.some.inj h2];rfl
 clear hcell2
 clear h0 h1 h2 hc0 hc1 hc2
 have hds:=digs_le 16 (l.drop (at_+3))
 have hda:=digs_at 16 (l.drop (at_+3))
 have hdt:=digs_take 16 (l.drop (at_+3))
 have hdm:=digs_mem 16 (l.drop (at_+3))
 rw[List.length_drop,hln]at hds
 have HC:Hid (charBody 16 2000000 l (at_+3)=if (digs 16 (l.drop (at_+3))).length=0∨l[(at_+3)+(digs 16 (l.drop (at_+3))).length]? ≠some 59 then (0,0,7) else if isDoc (numC 16 2000000 (digs 16 (l.drop (at_+3))))=true then (numC 16 2000000 (digs 16 (l.drop (at_+3))),(at_+3)+(digs 16 (l.drop (at_+3))).length+1,0) else (0,0,6)):=Hd rfl
 generalize hdd:digs 16 (l.drop (at_+3))=ds at *
 have hnb: ∀ k,0≤numC 16 2000000 (ds.take k)∧numC 16 2000000 (ds.take k)≤2000000:=fun k=>⟨numC_nonneg 16 2000000 (by omega) (by omega) _ fun c hc=>hdm c (List.mem_of_mem_take hc),numC_le _ _ (by omega) _⟩
 have HD:=Hd (And.intro hda (And.intro hdt hnb))
 have HS:=Hd hds
 have HCELL:Hid (∀ k,k<n→w.cell? ⟨b,o+k,none⟩=some (.int .u8 (UInt8.toNat (l.getD k 0):Int))):=Hd fun k hk=>by
  obtain⟨b',o',c',e,hb',hc',hcl⟩:=h.cell hk
  cases e
  rw[hcl,List.getD_eq_getElem?_getD,hc']
  rfl
 clear hdm hda hdt hnb hdd h hds
 generalize charBody 16 2000000 l (at_+3)=res at *
 go_enter Tryz.func34,Tryz.ntmps34
 go_wp2
 go_loopg [9,10] (n+1 - (at_+3)) (fun g r i wr=> ∃ j:Nat,(at_+3)≤j∧j≤(at_+3)+ds.length∧Hid (g+j=n+1)∧i= .int .i64 (j:Int)∧r= .int .i64 (numC 16 2000000 (ds.take (j - (at_+3))))∧w=wr)
 case atStart=>exact⟨(at_+3),Nat.le_refl _,Nat.le_add_right _ _,Hd (by omega),rfl,by rw[Nat.sub_self];rfl,rfl⟩
 case round =>
  obtain⟨j,hj1,hj2,hg,rfl,rfl,rfl⟩:=hrel
  have hbn:=(HD.out.2.2 (j - (at_+3)))
  have hb0:=hbn.1
  have hb1:=hbn.2
  have hj0:(0:Int)≤(j:Int):=by omega
  have hjb:(j:Int)≤50000:=by have:=HS.out;omega
  clear hbn
  by_cases hjn:j<n
  · have hcl:=HCELL.out j hjn
    have hgd:(l.drop (at_+3))[j - (at_+3)]? =some (l.getD j 0):=by
     rw[List.getElem?_drop,show(at_+3)+(j - (at_+3))=j by omega,List.getElem?_eq_getElem (by omega)];simp[List.getD_eq_getElem?_getD,hln ▸ hjn]
    have hat59:=HD.out.1 (j - (at_+3)) (l.getD j 0) (by omega) hgd
    have hdl:=digit_lt 16 (by omega) (UInt8.toNat (l.getD j 0):Int)
    have hjin:(j:Int)<(n:Int):=by omega
    by_cases hjm:j<(at_+3)+ds.length
    · have hD0:0≤digit 16 (UInt8.toNat (l.getD j 0):Int):=hat59.1 (by omega)
      have HN:Hid (numC 16 2000000 (ds.take (j+1 - (at_+3)))=min (numC 16 2000000 (ds.take (j - (at_+3)))*16+digit 16 (UInt8.toNat (l.getD j 0):Int)) 2000000):=Hd (by
       rw[show j+1 - (at_+3)=(j - (at_+3))+1 by omega,take_snoc ds (j - (at_+3)) (l.getD j 0),numC_snoc]
       rw[HD.out.2.1,List.getElem?_take_of_lt (by omega)];exact hgd)
      have HDC:Hid (Calls Tryz.prog 62 #[.int .i64 (UInt8.toNat (l.getD j 0):Int),.int .i64 16] w fun e w'=>e= .returned (.int .i64 (digit 16 (UInt8.toNat (l.getD j 0):Int)))∧w=w'):=Hd (refDigitB_c 16 (by omega) _ w)
      have hdl1:=hdl.1
      have hlx:0≤(UInt8.toNat (l.getD j 0):Int):=by omega
      have hly:(UInt8.toNat (l.getD j 0):Int)≤255:=by have:=(l.getD j 0).toNat_lt;omega
      clear hat59 hgd hdl
      generalize (UInt8.toNat (l.getD j 0):Int)=dn at *
      generalize digit 16 dn=D at *
      generalize numC 16 2000000 (ds.take (j - (at_+3)))=r at *
      have hdn:decide (0≤D)=true:=by simp;omega
      by_cases hc:2000000<r*16+D
      · have HN':Hid (numC 16 2000000 (ds.take (j+1 - (at_+3)))=2000000):=Hd (by rw[HN.out,Int.min_eq_right (by omega)])
        go_wp2_with fail
        refine HDC.out.mono ?_
        rintro e w1 ⟨rfl,rfl⟩
        go_wp2_with fail
        refine HDC.out.mono ?_
        rintro e w1 ⟨rfl,rfl⟩
        go_wp2
        go_roundg (n - j)
        case measure=>have:=hg.out;omega
        case rel=>exact⟨j+1,by omega,by omega,Hd (by omega),by go_num,by rw[HN'.out],rfl⟩
      · have HN':Hid (numC 16 2000000 (ds.take (j+1 - (at_+3)))=r*16+D):=Hd (by rw[HN.out,Int.min_eq_left (by omega)])
        go_wp2_with fail
        refine HDC.out.mono ?_
        rintro e w1 ⟨rfl,rfl⟩
        go_wp2_with fail
        refine HDC.out.mono ?_
        rintro e w1 ⟨rfl,rfl⟩
        go_wp2
        go_roundg (n - j)
        case measure=>have:=hg.out;omega
        case rel=>exact⟨j+1,by omega,by omega,Hd (by omega),by go_num,by rw[HN'.out],rfl⟩
    · obtain rfl:j=(at_+3)+ds.length:=by omega
      have hD0:digit 16 (UInt8.toNat (l.getD ((at_+3)+ds.length) 0):Int)<0:=by
        rcases Int.lt_or_le (digit 16 (UInt8.toNat (l.getD ((at_+3)+ds.length) 0):Int)) 0 with h|h
        · exact h
        · have:=hat59.2 h;omega
      have h59:l[(at_+3)+ds.length]? =some (l.getD ((at_+3)+ds.length) 0):=by
        rw[List.getElem?_eq_getElem (by omega)];simp[List.getD_eq_getElem?_getD,hln ▸ hjn]
      have htk:ds.take ((at_+3)+ds.length - (at_+3))=ds:=by rw[show (at_+3)+ds.length - (at_+3)=ds.length by omega,List.take_length]
      rw[htk]at hb0 hb1 ⊢
      have HDC:Hid (Calls Tryz.prog 62 #[.int .i64 (UInt8.toNat (l.getD ((at_+3)+ds.length) 0):Int),.int .i64 16] w fun e w'=>e= .returned (.int .i64 (digit 16 (UInt8.toNat (l.getD ((at_+3)+ds.length) 0):Int)))∧w=w'):=Hd (refDigitB_c 16 (by omega) _ w)
      have hdn:decide (0≤digit 16 (UInt8.toNat (l.getD ((at_+3)+ds.length) 0):Int))=false:=decide_eq_false (by omega)
      have hcc:=HC.out
      rw[h59]at hcc
      have HT1:=Hd (refChar_c (numC 16 2000000 ds) w)
      clear hat59 hgd hdl htk h59
      generalize hdd:l.getD ((at_+3)+ds.length) 0=d at *
      have hlx:0≤(d.toNat:Int):=by omega
      have hly:(d.toNat:Int)≤255:=by have:=d.toNat_lt;omega
      have hne59: ¬ d=59→((d.toNat:Int) != 59)=true:=fun h=>by have:=ne_byte' d 59 59 rfl h;simp[bne,this]
      generalize digit 16 (d.toNat:Int)=D at *
      generalize numC 16 2000000 ds=r at *
      generalize hJ:(at_+3)+ds.length=J at *
      by_cases hm0:ds.length=0
      · have HRES:Hid (res=(0,0,7)):=Hd (by rw[hcc,if_pos (Or.inl hm0)])
        have hJ0:((J:Int)==(at_:Int)+3)=true:=by simp;omega
        have HJ:=Hd hJ
        clear hcc hm0 hJ hdd hne59
        go_wp2_with fail
        refine HDC.out.mono ?_
        rintro e w1 ⟨rfl,rfl⟩
        go_wp2
        go_ret3
        rw[HRES.out]
        exact⟨rfl,rfl⟩
      · have hJ0:((J:Int)==(at_:Int)+3)=false:=by simp;omega
        have hJn:((J:Int)==(n:Int))=false:=by simp;omega
        by_cases hd59:d=59
        · have hDd:d.toNat=59:=by rw[hd59];rfl
          have HJ:=Hd hJ
          cases hdoc:isDoc r with
          |true =>
           have HRES:Hid (res=(r,J+1,0)):=Hd (by rw[hcc,if_neg (by rw[hd59];simp;exact List.ne_nil_of_length_pos (by omega)),if_pos hdoc])
           rw[hdoc]at HT1
           have hm0':0<ds.length:=by omega
           rw[hDd]at HDC hcl
           clear hcc hm0 hJ hdd hne59 hd59 hDd hdoc
           go_wp2_with fail
           refine HDC.out.mono ?_
           rintro e w1 ⟨rfl,rfl⟩
           go_wp2_with fail
           refine HT1.out.mono ?_
           rintro e w1 ⟨rfl,rfl⟩
           go_wp2
           go_ret3
           rw[HRES.out]
           exact⟨rfl,rfl⟩
          |false =>
           have HRES:Hid (res=(0,0,6)):=Hd (by rw[hcc,if_neg (by rw[hd59];simp;exact List.ne_nil_of_length_pos (by omega)),if_neg (by rw[hdoc];decide)])
           rw[hdoc]at HT1
           have hm0':0<ds.length:=by omega
           rw[hDd]at HDC hcl
           clear hcc hm0 hJ hdd hne59 hd59 hDd hdoc
           go_wp2_with fail
           refine HDC.out.mono ?_
           rintro e w1 ⟨rfl,rfl⟩
           go_wp2_with fail
           refine HT1.out.mono ?_
           rintro e w1 ⟨rfl,rfl⟩
           go_wp2
           go_ret3
           rw[HRES.out]
           exact⟨rfl,rfl⟩
        · have HRES:Hid (res=(0,0,7)):=Hd (by rw[hcc,if_pos (Or.inr (by simpa using hd59))])
          have hdn59:=hne59 hd59
          have HJ:=Hd hJ
          have hm0':0<ds.length:=by omega
          clear hcc hm0 hJ hdd hne59 hd59
          generalize (d.toNat:Int)=dn at *
          go_wp2_with fail
          refine HDC.out.mono ?_
          rintro e w1 ⟨rfl,rfl⟩
          go_wp2
          go_ret3
          rw[HRES.out]
          exact⟨rfl,rfl⟩
  · have hjm:j=(at_+3)+ds.length:=by have:=HS.out;omega
    have hjnn:j=n:=by have:=HS.out;omega
    have HRES:Hid (res=(0,0,7)):=Hd (by rw[HC.out,if_pos (Or.inr (by rw[← hjm,List.getElem?_eq_none (by omega)];simp))])
    have hjin: ¬ (j:Int)<(n:Int):=by omega
    have hjin2:((j:Int)==(n:Int))=true:=by simp;omega
    have HJ:=Hd (And.intro hjm hjnn)
    clear hjm hjnn
    generalize hz:((j:Int)==(at_:Int)+3)=z at *
    cases z with
    |true =>
     go_wp2
     go_ret3
     rw[HRES.out]
     exact⟨rfl,rfl⟩
    |false =>
     go_wp2
     go_ret3
     rw[HRES.out]
     exact⟨rfl,rfl⟩
theorem refCharR_10 (b o:Nat)(n cap:Nat)(l:List UInt8)(at_:Nat)(w:World)(B:Nat)(h:Byt w B (some ⟨b,o,none⟩) n cap l)(hm:n≤50000)(hs:at_+3≤n)(h0:l[at_]? =some 38)(h1:l[at_+1]? =some 35)(h2: ¬ l[at_+2]? =some 120) :
 Calls Tryz.prog 34 #[.slice (some ⟨b,o,none⟩) n cap,.int .i64 at_] w fun e w'=>e= .returned (numV (charBody 10 2000000 l (at_+2)))∧w=w':=by
 have hln:=h.length
 have hat': ¬ (n:Int)<(at_:Int):=by omega
 have hap:IntKind.i64.wrap ((at_:Int)+2)=(at_:Int)+2:=by rw[IntKind.wrap_i64];omega
 have hap1:IntKind.i64.wrap ((at_:Int)+1)=(at_:Int)+1:=by rw[IntKind.wrap_i64];omega
 have hap3:IntKind.i64.wrap ((at_:Int)+3)=(at_:Int)+3:=by rw[IntKind.wrap_i64];omega
 have hsb:IntKind.i64.wrap ((n:Int) - (at_:Int))=(n:Int) - (at_:Int):=by rw[IntKind.wrap_i64];omega
 have hd:decide ((n:Int) - (at_:Int)<3)=false:=by simp;omega
 obtain⟨b',o',c0,e,hb,hc0,hcell0⟩:=h.cell (i:=at_) (by omega)
 cases e
 obtain⟨b',o',c1,e,hb',hc1,hcell1⟩:=h.cell (i:=at_+1) (by omega)
 cases e
 obtain⟨b',o',c2,e,hb',hc2,hcell2⟩:=h.cell (i:=at_+2) (by omega)
 cases e
 have hli:(at_:Int)<(n:Int):=by omega
 have hli1:(at_:Int)+1<(n:Int):=by omega
 have hp1:(0:Int)≤(at_:Int)+1:=by omega
 have htn:((at_:Int)+1).toNat=at_+1:=by omega
 have hli2:(at_:Int)+2<(n:Int):=by omega
 have hp2:(0:Int)≤(at_:Int)+2:=by omega
 have htn2:((at_:Int)+2).toNat=at_+2:=by omega
 have hcell0':w.cell? ⟨b,o+at_,none⟩=some (.int .u8 38):=by rw[hcell0,show c0=38 by rw[hc0]at h0;exact Option.some.inj h0];rfl
 have hcell1':w.cell? ⟨b,o+(at_+1),none⟩=some (.int .u8 35):=by rw[hcell1,show c1=35 by rw[hc1]at h1;exact Option.some.inj h1];rfl
 clear hcell0 hcell1
 have e2:((c2.toNat:Int)==120)=false:=ne_byte' c2 120 120 rfl fun e=>h2 (by rw[hc2,e])
 generalize (c2.toNat:Int)=d2 at *
 clear h0 h1 h2 hc0 hc1 hc2
 have hds:=digs_le 10 (l.drop (at_+2))
 have hda:=digs_at 10 (l.drop (at_+2))
 have hdt:=digs_take 10 (l.drop (at_+2))
 have hdm:=digs_mem 10 (l.drop (at_+2))
 rw[List.length_drop,hln]at hds
 have HC:Hid (charBody 10 2000000 l (at_+2)=if (digs 10 (l.drop (at_+2))).length=0∨l[(at_+2)+(digs 10 (l.drop (at_+2))).length]? ≠some 59 then (0,0,7) else if isDoc (numC 10 2000000 (digs 10 (l.drop (at_+2))))=true then (numC 10 2000000 (digs 10 (l.drop (at_+2))),(at_+2)+(digs 10 (l.drop (at_+2))).length+1,0) else (0,0,6)):=Hd rfl
 generalize hdd:digs 10 (l.drop (at_+2))=ds at *
 have hnb: ∀ k,0≤numC 10 2000000 (ds.take k)∧numC 10 2000000 (ds.take k)≤2000000:=fun k=>⟨numC_nonneg 10 2000000 (by omega) (by omega) _ fun c hc=>hdm c (List.mem_of_mem_take hc),numC_le _ _ (by omega) _⟩
 have HD:=Hd (And.intro hda (And.intro hdt hnb))
 have HS:=Hd hds
 have HCELL:Hid (∀ k,k<n→w.cell? ⟨b,o+k,none⟩=some (.int .u8 (UInt8.toNat (l.getD k 0):Int))):=Hd fun k hk=>by
  obtain⟨b',o',c',e,hb',hc',hcl⟩:=h.cell hk
  cases e
  rw[hcl,List.getD_eq_getElem?_getD,hc']
  rfl
 clear hdm hda hdt hnb hdd h hds
 generalize charBody 10 2000000 l (at_+2)=res at *
 go_enter Tryz.func34,Tryz.ntmps34
 go_wp2
 go_loopg [9,10] (n+1 - (at_+2)) (fun g r i wr=> ∃ j:Nat,(at_+2)≤j∧j≤(at_+2)+ds.length∧Hid (g+j=n+1)∧i= .int .i64 (j:Int)∧r= .int .i64 (numC 10 2000000 (ds.take (j - (at_+2))))∧w=wr)
 case atStart=>exact⟨(at_+2),Nat.le_refl _,Nat.le_add_right _ _,Hd (by omega),rfl,by rw[Nat.sub_self];rfl,rfl⟩
 case round =>
  obtain⟨j,hj1,hj2,hg,rfl,rfl,rfl⟩:=hrel
  have hbn:=(HD.out.2.2 (j - (at_+2)))
  have hb0:=hbn.1
  have hb1:=hbn.2
  have hj0:(0:Int)≤(j:Int):=by omega
  have hjb:(j:Int)≤50000:=by have:=HS.out;omega
  clear hbn
  by_cases hjn:j<n
  · have hcl:=HCELL.out j hjn
    have hgd:(l.drop (at_+2))[j - (at_+2)]? =some (l.getD j 0):=by
     rw[List.getElem?_drop,show(at_+2)+(j - (at_+2))=j by omega,List.getElem?_eq_getElem (by omega)];simp[List.getD_eq_getElem?_getD,hln ▸ hjn]
    have hat59:=HD.out.1 (j - (at_+2)) (l.getD j 0) (by omega) hgd
    have hdl:=digit_lt 10 (by omega) (UInt8.toNat (l.getD j 0):Int)
    have hjin:(j:Int)<(n:Int):=by omega
    by_cases hjm:j<(at_+2)+ds.length
    · have hD0:0≤digit 10 (UInt8.toNat (l.getD j 0):Int):=hat59.1 (by omega)
      have HN:Hid (numC 10 2000000 (ds.take (j+1 - (at_+2)))=min (numC 10 2000000 (ds.take (j - (at_+2)))*10+digit 10 (UInt8.toNat (l.getD j 0):Int)) 2000000):=Hd (by
       rw[show j+1 - (at_+2)=(j - (at_+2))+1 by omega,take_snoc ds (j - (at_+2)) (l.getD j 0),numC_snoc]
       rw[HD.out.2.1,List.getElem?_take_of_lt (by omega)];exact hgd)
      have HDC:Hid (Calls Tryz.prog 62 #[.int .i64 (UInt8.toNat (l.getD j 0):Int),.int .i64 10] w fun e w'=>e= .returned (.int .i64 (digit 10 (UInt8.toNat (l.getD j 0):Int)))∧w=w'):=Hd (refDigitB_c 10 (by omega) _ w)
      have hdl1:=hdl.1
      have hlx:0≤(UInt8.toNat (l.getD j 0):Int):=by omega
      have hly:(UInt8.toNat (l.getD j 0):Int)≤255:=by have:=(l.getD j 0).toNat_lt;omega
      clear hat59 hgd hdl
      generalize (UInt8.toNat (l.getD j 0):Int)=dn at *
      generalize digit 10 dn=D at *
      generalize numC 10 2000000 (ds.take (j - (at_+2)))=r at *
      have hdn:decide (0≤D)=true:=by simp;omega
      by_cases hc:2000000<r*10+D
      · have HN':Hid (numC 10 2000000 (ds.take (j+1 - (at_+2)))=2000000):=Hd (by rw[HN.out,Int.min_eq_right (by omega)])
        go_wp2_with fail
        refine HDC.out.mono ?_
        rintro e w1 ⟨rfl,rfl⟩
        go_wp2_with fail
        refine HDC.out.mono ?_
        rintro e w1 ⟨rfl,rfl⟩
        go_wp2
        go_roundg (n - j)
        case measure=>have:=hg.out;omega
        case rel=>exact⟨j+1,by omega,by omega,Hd (by omega),by go_num,by rw[HN'.out],rfl⟩
      · have HN':Hid (numC 10 2000000 (ds.take (j+1 - (at_+2)))=r*10+D):=Hd (by rw[HN.out,Int.min_eq_left (by omega)])
        go_wp2_with fail
        refine HDC.out.mono ?_
        rintro e w1 ⟨rfl,rfl⟩
        go_wp2_with fail
        refine HDC.out.mono ?_
        rintro e w1 ⟨rfl,rfl⟩
        go_wp2
        go_roundg (n - j)
        case measure=>have:=hg.out;omega
        case rel=>exact⟨j+1,by omega,by omega,Hd (by omega),by go_num,by rw[HN'.out],rfl⟩
    · obtain rfl:j=(at_+2)+ds.length:=by omega
      have hD0:digit 10 (UInt8.toNat (l.getD ((at_+2)+ds.length) 0):Int)<0:=by
        rcases Int.lt_or_le (digit 10 (UInt8.toNat (l.getD ((at_+2)+ds.length) 0):Int)) 0 with h|h
        · exact h
        · have:=hat59.2 h;omega
      have h59:l[(at_+2)+ds.length]? =some (l.getD ((at_+2)+ds.length) 0):=by
        rw[List.getElem?_eq_getElem (by omega)];simp[List.getD_eq_getElem?_getD,hln ▸ hjn]
      have htk:ds.take ((at_+2)+ds.length - (at_+2))=ds:=by rw[show (at_+2)+ds.length - (at_+2)=ds.length by omega,List.take_length]
      rw[htk]at hb0 hb1 ⊢
      have HDC:Hid (Calls Tryz.prog 62 #[.int .i64 (UInt8.toNat (l.getD ((at_+2)+ds.length) 0):Int),.int .i64 10] w fun e w'=>e= .returned (.int .i64 (digit 10 (UInt8.toNat (l.getD ((at_+2)+ds.length) 0):Int)))∧w=w'):=Hd (refDigitB_c 10 (by omega) _ w)
      have hdn:decide (0≤digit 10 (UInt8.toNat (l.getD ((at_+2)+ds.length) 0):Int))=false:=decide_eq_false (by omega)
      have hcc:=HC.out
      rw[h59]at hcc
      have HT1:=Hd (refChar_c (numC 10 2000000 ds) w)
      clear hat59 hgd hdl htk h59
      generalize hdd:l.getD ((at_+2)+ds.length) 0=d at *
      have hlx:0≤(d.toNat:Int):=by omega
      have hly:(d.toNat:Int)≤255:=by have:=d.toNat_lt;omega
      have hne59: ¬ d=59→((d.toNat:Int) != 59)=true:=fun h=>by have:=ne_byte' d 59 59 rfl h;simp[bne,this]
      generalize digit 10 (d.toNat:Int)=D at *
      generalize numC 10 2000000 ds=r at *
      generalize hJ:(at_+2)+ds.length=J at *
      by_cases hm0:ds.length=0
      · have HRES:Hid (res=(0,0,7)):=Hd (by rw[hcc,if_pos (Or.inl hm0)])
        have hJ0:((J:Int)==(at_:Int)+2)=true:=by simp;omega
        have HJ:=Hd hJ
        clear hcc hm0 hJ hdd hne59
        go_wp2_with fail
        refine HDC.out.mono ?_
        rintro e w1 ⟨rfl,rfl⟩
        go_wp2
        go_ret3
        rw[HRES.out]
        exact⟨rfl,rfl⟩
      · have hJ0:((J:Int)==(at_:Int)+2)=false:=by simp;omega
        have hJn:((J:Int)==(n:Int))=false:=by simp;omega
        by_cases hd59:d=59
        · have hDd:d.toNat=59:=by rw[hd59];rfl
          have HJ:=Hd hJ
          cases hdoc:isDoc r with
          |true =>
           have HRES:Hid (res=(r,J+1,0)):=Hd (by rw[hcc,if_neg (by rw[hd59];simp;exact List.ne_nil_of_length_pos (by omega)),if_pos hdoc])
           rw[hdoc]at HT1
           have hm0':0<ds.length:=by omega
           rw[hDd]at HDC hcl
           clear hcc hm0 hJ hdd hne59 hd59 hDd hdoc
           go_wp2_with fail
           refine HDC.out.mono ?_
           rintro e w1 ⟨rfl,rfl⟩
           go_wp2_with fail
           refine HT1.out.mono ?_
           rintro e w1 ⟨rfl,rfl⟩
           go_wp2
           go_ret3
           rw[HRES.out]
           exact⟨rfl,rfl⟩
          |false =>
           have HRES:Hid (res=(0,0,6)):=Hd (by rw[hcc,if_neg (by rw[hd59];simp;exact List.ne_nil_of_length_pos (by omega)),if_neg (by rw[hdoc];decide)])
           rw[hdoc]at HT1
           have hm0':0<ds.length:=by omega
           rw[hDd]at HDC hcl
           clear hcc hm0 hJ hdd hne59 hd59 hDd hdoc
           go_wp2_with fail
           refine HDC.out.mono ?_
           rintro e w1 ⟨rfl,rfl⟩
           go_wp2_with fail
           refine HT1.out.mono ?_
           rintro e w1 ⟨rfl,rfl⟩
           go_wp2
           go_ret3
           rw[HRES.out]
           exact⟨rfl,rfl⟩
        · have HRES:Hid (res=(0,0,7)):=Hd (by rw[hcc,if_pos (Or.inr (by simpa using hd59))])
          have hdn59:=hne59 hd59
          have HJ:=Hd hJ
          have hm0':0<ds.length:=by omega
          clear hcc hm0 hJ hdd hne59 hd59
          generalize (d.toNat:Int)=dn at *
          go_wp2_with fail
          refine HDC.out.mono ?_
          rintro e w1 ⟨rfl,rfl⟩
          go_wp2
          go_ret3
          rw[HRES.out]
          exact⟨rfl,rfl⟩
  · have hjm:j=(at_+2)+ds.length:=by have:=HS.out;omega
    have hjnn:j=n:=by have:=HS.out;omega
    have HRES:Hid (res=(0,0,7)):=Hd (by rw[HC.out,if_pos (Or.inr (by rw[← hjm,List.getElem?_eq_none (by omega)];simp))])
    have hjin: ¬ (j:Int)<(n:Int):=by omega
    have hjin2:((j:Int)==(n:Int))=true:=by simp;omega
    have HJ:=Hd (And.intro hjm hjnn)
    clear hjm hjnn
    generalize hz:((j:Int)==(at_:Int)+2)=z at *
    cases z with
    |true =>
     go_wp2
     go_ret3
     rw[HRES.out]
     exact⟨rfl,rfl⟩
    |false =>
     go_wp2
     go_ret3
     rw[HRES.out]
     exact⟨rfl,rfl⟩
theorem refCharR_c (A:Option Addr)(n cap:Nat)(l:List UInt8)(at_:Int)(w:World)(B:Nat)(h:Byt w B A n cap l)(hm:n≤50000) :
 Calls Tryz.prog 34 #[.slice A n cap,.int .i64 at_] w fun e w'=>e= .returned (numV (charAt l at_))∧w=w':=by
 have hl:=h.length
 unfold charAt
 rw[hl]
 by_cases ha:at_<0∨(n:Int)<at_
 · rw[if_pos ha];exact refCharR_range A n cap at_ w ha
 · rw[if_neg ha]
   obtain⟨k,rfl⟩: ∃ k:Nat,at_=(k:Int):=⟨at_.toNat,by omega⟩
   rw[Int.toNat_natCast]
   have hk:k≤n:=by omega
   unfold charOut
   by_cases h2:l[k]? =some 38∧l[k+1]? =some 35
   · rw[if_pos h2]
     by_cases hs:n<k+3
     · have h3: ¬ l[k+2]? =some 120:=by rw[List.getElem?_eq_none (by omega)];simp
       rw[if_neg h3]
       have e:charBody 10 2097152 l (k+2)=(0,0,7):=by
        unfold charBody
        have:(digs 10 (l.drop (k+2))).length=0:=by have:=digs_le 10 (l.drop (k+2));rw[List.length_drop]at this;omega
        rw[if_pos (Or.inl this)]
       rw[e]
       exact refCharR_short A n cap k w hm hk hs
     · obtain⟨b,o,c,rfl,hb,hc,hcell⟩:=h.cell (i:=k) (by omega)
       by_cases h3:l[k+2]? =some 120
       · rw[if_pos h3,charBody_cap 16 (Or.inr rfl) 2097152 2000000 (by omega) (by omega)]
         exact refCharR_16 b o n cap l k w B h hm (by omega) h2.1 h2.2 h3
       · rw[if_neg h3,charBody_cap 10 (Or.inl rfl) 2097152 2000000 (by omega) (by omega)]
         exact refCharR_10 b o n cap l k w B h hm (by omega) h2.1 h2.2 h3
   · rw[if_neg h2]
     by_cases hs:n<k+3
     · exact refCharR_short A n cap k w hm hk hs
     · obtain⟨b,o,c,rfl,hb,hc,hcell⟩:=h.cell (i:=k) (by omega)
       exact refCharR_no b o n cap l k w B h hm (by omega) h2
end Go.Proofs.YtbafljibbabnaaaGreatDoor
