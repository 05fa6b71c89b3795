/- Texts of ours, joined: Sw7, Sw8, SxL. -/
import Derived.Test.YtbafljibbabnaaaGreatDoorQ48
import Derived.Test.YtbafljibbabnaaaGreatDoorQ45
namespace Go.Proofs.YtbafljibbabnaaaGreatDoor
open Go.ChangeShapes Go.WideShapes Go.ChangeAt Go.RowKit
set_option linter.unusedVariables false
set_option maxRecDepth 100000
set_option maxHeartbeats 32000000
theorem may_len {whole:Bool}{op op':List (List UInt8)}{root root':Bool}{k:TokL}(h:mayS whole op root k=some (op',root')):op'.length≤op.length+1:=by
 unfold mayS at h
 repeat' split at h
 all_goals first|(cases h;done)|(cases h;simp;done)|(cases h;omega)|(cases h;rw[List.length_dropLast];omega)
theorem may_same {op op':List (List UInt8)}{root root' whole:Bool}{k:TokL}(h1:k.kind=1)(h:mayS whole op root k=some (op',root')):op'=op:=by
 unfold mayS at h
 rw[if_neg (by omega),if_neg (by omega),if_neg (by omega),if_pos h1]at h
 split at h
 · cases h
 · cases h;rfl
theorem prs_far {w0 wr w2 w3 w4:World}{sb base:Nat}{whole:Bool}{A:Option Addr}{n cap:Nat}{l:List UInt8}{v:Value}{vs:List TokV}{sv sv':Value}{op:List (List UInt8)}{root:Bool}{PA:Option Addr}{pn pc:Nat}{ps:List PairL}
 (h3:PRd w3 w3.heap.size PA pn pc ps) (h2:PRd w2 w2.heap.size PA pn pc ps) (hlo: ∀ b i,PA=some ⟨b,i,none⟩→wr.heap.size≤b) (hJ:OJ w0 wr sb base whole A n cap l v vs sv op root) (h23:w2.heap.size<w3.heap.size) (hw2:wr.heap.size≤w2.heap.size) (hM:MF sb w3 w4 sv sv') :
 PRd w4 w4.heap.size PA pn pc ps∧(0<pc→ ∀ b i,PA=some ⟨b,i,none⟩→some b≠v.ownBlock)∧(0<pc→ ∀ b i,PA=some ⟨b,i,none⟩→b≠sb∧some b≠sv'.ownBlock):=by
 have hs: ∀ b i,PA=some ⟨b,i,none⟩→b≠sb∧some b≠sv.ownBlock:=fun b i h=>by
  have h1:=hlo b i h
  have:=hJ.sw.lt
  have:=hJ.sw.le
  exact⟨by omega,fun e=>by have:=(ownS_lt hJ.sw.own e.symm).1;omega⟩
 refine⟨hM.keep h3 fun _=>hs,fun _ b i h=>hJ.gro.fresh (hlo b i h),fun h0 b i h=>⟨(hs b i h).1,?_⟩⟩
 rcases hM.own with e|⟨g,e,hg⟩
 · rw[e];exact(hs b i h).2
 · rw[e]
   intro hh
   obtain⟨b2,o2,e2,hb2,_⟩:=h2.at_ h0
   rw[h]at e2
   cases e2
   cases hh
   omega
theorem over_c (sb:Nat)(whole:Bool)(A:Option Addr)(n cap:Nat)(l:List UInt8)(k:Nat)(w0 w:World)(h0:sb=w0.heap.size)(hb0:Below w0.heap.size w0 w)(hsw:w.heap[sb]? =some (.cells #[.slice none 0 0,.int .i64 0,.bool whole] 81))(h:Byt w w.heap.size A n cap l)(hA:0<cap→ ∀ b i,A=some ⟨b,i,none⟩→b≠sb∧b<w.heap.size)(hW:W11 w0)(hm:n≤40000)(hk:k≤n) :
 Calls Tryz.prog 26 #[.pointer (some ⟨sb,0,none⟩),.slice A n cap,.int .i64 (k:Int)] w fun e w'=>AllPostK (overR l whole (l.length+1) [] [] false k) w0 e w':=by
 have hln:=h.length
 have HA:=Hd hA
 have H0:=Hd h0
 have CN:Hid (∀ t:Nat,t<n→ ∀ W v vs sv op root,OJ w0 W sb w.heap.size whole A n cap l v vs sv op root→Calls Tryz.prog 12 #[.slice A n cap,.int .i64 (t:Int)] W fun e w'=>TokPost (nextOut l t) W e w'):=Hd fun t ht W v vs sv op root hG=>by
  have:=tokNext_c A n cap l t W hG.byt (hW.below hG.gro.below) hm
  rwa [nextAt_in l t (by omega)]at this
 have HLn:=Hd hln
 have hi:(Tryz.prog.info? 47).map (·.size)=some 7:=by kernel_rfl
 obtain⟨sd,hu⟩:=isStruct_of (P:=Tryz.prog) (t:=47) (by kernel_rfl)
 have HU:=Hd (And.intro hi hu)
 have HM:=Hd hm
 have J0:OJ w0 w sb w.heap.size whole A n cap l (.slice none 0 0) [] (.slice none 0 0) [] false :=
  ⟨⟨hb0,hb0.size,Nat.le_refl _,⟨rfl,.inl ⟨rfl,rfl⟩⟩,fun x hx=>(by cases hx),fun x hx=>(by cases hx)⟩,⟨by rw[hsw];cases whole <;> rfl,OwnS.start _ _,lt_of hsw,Nat.le_refl _,fun _ h=>absurd rfl h⟩,h,fun x hx=>(by cases hx)⟩
 have HJ0:=Hd J0
 have HK:=Hd hk
 generalize hR:overR l whole (l.length+1) [] [] false k=R at *
 have HR:Hid (R=overR l whole (n+1) [] [] false k):=Hd (by rw[← hR,HLn.out])
 clear h hln hi hu hW hb0 hsw hA h0 J0 hR hm hk
 go_enter Tryz.func26,Tryz.ntmps26
 go_wp2_with fail
 go_loopg [2,9] (n) (fun g i v wr=> ∃ (t:Nat) (vs:List TokV) (f:Nat) (sv:Value) (op:List (List UInt8)) (root:Bool),i= .int .i64 (t:Int)∧t≤n∧Hid (g=f)∧Hid (n≤f+t)∧Hid (vs.length≤t)∧Hid (op.length≤t)∧Hid (R=overR l whole (f+1) (vs.map TokV.t) op root t)∧Hid (OJ w0 wr sb w.heap.size whole A n cap l v vs sv op root))
 case atStart=>exact⟨k,[],n,_,[],false,rfl,HK.out,Hd rfl,Hd (by omega),Hd (Nat.zero_le _),Hd (Nat.zero_le _),HR,HJ0⟩
 case round =>
  obtain⟨t,vs,f,sv,op,root,rfl,ht,hgf,hg,hal,hopl,HE,HJ⟩:=hrel
  have hm:=HM.out
  have ht0:(0:Int)≤(t:Int):=by omega
  have ht9:(t:Int)≤40000:=by omega
  by_cases htn:t<n
  · have hti:(t:Int)<(n:Int):=by omega
    have htl:t<l.length:=by rw[HLn.out];exact htn
    have C1:=CN.out t htn _ _ _ _ _ _ HJ.out
    have hok:=nextOut_ok l t htl
    have hkd:=kind_of l t
    have htx:=text_le l t
    have hbad:=fun e (h1:(nextOut l t).2=e) h2=>HE.out.trans (over_bad (f:=f) (acc:=vs.map TokV.t) htl h1 h2)
    have hno:=fun k (h1:nextOut l t=(k,0)) h2=>HE.out.trans (over_no (f:=f) (acc:=vs.map TokV.t) htl h1 h2)
    have hmore:=fun k u op' root' (h1:nextOut l t=(k,0)) (h2:mayS whole op root k=some (op',root')) (h3:k.to_=((u:Nat):Int))=>HE.out.trans (over_more (f:=f) (acc:=vs.map TokV.t) htl h1 h2 h3)
    generalize nextOut l t=no at *
    obtain⟨k,e⟩:=no
    simp only at hok hbad hkd htx
    have C2:=Hd C1
    clear C1
    by_cases he:e=0
    · subst he
      obtain⟨hfro,u,hu,htu,hun⟩:=hok rfl
      clear hfro
      rw[HLn.out]at hun htx
      have HUu:=Hd hu
      have HKD:=Hd (hkd rfl)
      have HTX:=Hd (fun h=>Nat.le_trans (htx h) (show n≤500000 by omega))
      have HNO:=Hd (fun h2=>hno k rfl h2)
      have HMO:=Hd (fun op' root' h2=>hmore k u op' root' rfl h2 hu)
      clear hok hbad hno hmore htl hu hkd htx
      go_wp2_with fail
      refine C2.out.mono ?_
      intro e0 w2 hp
      obtain⟨PA,pn,pc,rfl,hpr,hb,hlo⟩:=hp.out
      simp only at hpr
      have ka:=(Below.refl _ w2).alloc (Nat.le_refl _) (.cells #[.int .i64 k.kind,.int .i64 k.fro,.int .i64 k.to_,.string ⟨k.name.toArray⟩,.string ⟨k.text.toArray⟩,.slice PA pn pc,.int .i64 k.r] 47)
      have J1:=HJ.out.kept hb
      have J2:=Hd (J1.kept ka)
      have HQ:=Hd (hp_new w2 (.cells #[.int .i64 k.kind,.int .i64 k.fro,.int .i64 k.to_,.string ⟨k.name.toArray⟩,.string ⟨k.text.toArray⟩,.slice PA pn pc,.int .i64 k.r] 47))
      have HX:=Hd (And.intro ((hpr.below ka).more ka.size) (And.intro hpr hlo))
      have CM:=Hd (may_all sb w.heap.size whole (w2.alloc (.cells #[.int .i64 k.kind,.int .i64 k.fro,.int .i64 k.to_,.string ⟨k.name.toArray⟩,.string ⟨k.text.toArray⟩,.slice PA pn pc,.int .i64 k.r] 47)) sv op root k PA pn pc J2.out.sw (by have:=hopl.out;omega) HKD.out HTX.out)
      have hw2:wr.heap.size≤w2.heap.size:=hb.size
      clear hpr hb hlo ka hp J1
      cases hms:mayS whole op root k with
      |none =>
       have HA2:=Hd (HNO.out hms)
       rw[hms]at CM
       clear HMO HNO hms
       go_wp2_with (refine wpList_load_row rfl _ _ rfl w2.heap.size rfl _ _ _ _ HQ.out HU.out.2 rfl HU.out.1 ?_)
       refine CM.out.mono ?_
       rintro e0 w4 ⟨rfl,sv4,hM4⟩
       have B4:Hid (Below w0.heap.size w0 w4):=Hd (J2.out.gro.below.trans (by rw[← H0.out];exact hM4.below))
       clear hM4
       go_wp2
       go_ret3
       rw[HA2.out]
       exact AllPostK.bad rfl B4.out
      |some x =>
       obtain⟨op',root'⟩:=x
       have HA2:=Hd (HMO.out op' root' hms)
       have HMS:=Hd hms
       have HOL:=Hd (may_len hms)
       rw[hms]at CM
       clear HMO HNO hms
       go_wp2_with (refine wpList_load_row rfl _ _ rfl w2.heap.size rfl _ _ _ _ HQ.out HU.out.2 rfl HU.out.1 ?_)
       refine CM.out.mono ?_
       rintro e0 w4 ⟨rfl,sv4,hJ4,hM4⟩
       have J4:=Hd (J2.out.may H0.out HA.out hJ4 hM4)
       have hq4:w4.heap[w2.heap.size]? =some (.cells #[.int .i64 k.kind,.int .i64 k.fro,.int .i64 k.to_,.string ⟨k.name.toArray⟩,.string ⟨k.text.toArray⟩,.slice PA pn pc,.int .i64 k.r] 47):=by
        rw[hM4.blk w2.heap.size (by simp) (by have:=HJ.out.sw.lt;have:=HJ.out.sw.le;omega) (fun e=>by have:=(ownS_lt HJ.out.sw.own e.symm).1;omega)]
        exact HQ.out
       have HQ4:=Hd hq4
       have x0:=cell_of 0 hq4
       have x2:=cell_of 2 hq4
       have hsw4:=hJ4.sw
       have HX4:=Hd (prs_far HX.out.1 HX.out.2.1 HX.out.2.2 HJ.out (by simp) hw2 hM4)
       obtain⟨SA,SN,SC,hsv4,hSN⟩: ∃ SA SN SC,sv4= .slice SA SN SC∧SN=op'.length:=by
        obtain⟨a,b,h⟩:=hJ4.own.form
        exact⟨a,_,b,h,rfl⟩
       subst hsv4
       have u0:=cell_of 0 hsw4
       have u2:=cell_of 2 hsw4
       have hvl:vs.length≤1000000000:=by have:=hal.out;omega
       have hba:w.heap.size≤w4.heap.size:=J4.out.gro.base1
       clear hM4 hJ4 hq4 hsw4
       by_cases hk1:k.kind=1
       · have kd:(k.kind != 1)=false:=by simp[hk1]
         have HK1:=Hd hk1
         clear hk1
         cases whole with
         |false =>
          have hleft:leftOut false op k=false:=by simp[leftOut]
          clear hSN
          have HA3:Hid (R=overR l false f ((vs++ [(⟨k,PA,pn,pc⟩:TokV)]).map TokV.t) op' root' u):=Hd (by rw[HA2.out,if_neg (by rw[hleft];simp),List.map_append];rfl)
          clear hleft HA2 HMS
          go_wp2_with (first
           |(refine wpList_load_row rfl _ _ rfl w2.heap.size rfl _ _ _ _ HQ4.out HU.out.2 rfl HU.out.1 ?_)
           |(at_builtin;refine wpList_appK rfl (.tmp 55) (.tmp 57) 25 47 rfl (.agg #[.int .i64 0,.int .i64 0,.int .i64 0,.string ⟨#[]⟩,.string ⟨#[]⟩,.slice none 0 0,.int .i64 0]) 7 88 Tryz.underlying25 info_tok rfl (by decide) w.heap.size _ vs.length (cellsK vs) rfl J4.out.gro.own (TokV.cells ⟨k,PA,pn,pc⟩) _ rfl rfl rfl (cells_one _) hvl (by decide) hba ?_))
          intro v5 w5 hown5 hg5 hat5
          have J5:=Hd (J4.out.appended HA.out (x:=⟨k,PA,pn,pc⟩) HX4.out.1 HX4.out.2.1 HX4.out.2.2 hown5 hg5 hat5)
          clear hown5 hg5 hat5 x0 x2 u0 u2
          go_wp2
          go_roundg (f - 1)
          case measure=>have:=hg.out;have:=hgf.out;omega
          case rel=>exact⟨u,vs++ [⟨k,PA,pn,pc⟩],f - 1,_,op',root',by rw[HUu.out],by omega,Hd rfl,Hd (by have:=hg.out;omega),Hd (by have:=hal.out;simp;omega),Hd (by have:=hopl.out;have:=HOL.out;omega),Hd (by rw[HA3.out,show f - 1+1=f by have:=hg.out;omega]),J5⟩
         |true =>
          have hop:op'=op:=may_same HK1.out HMS.out
          cases op' with
          |nil =>
           have hs0:SN=0:=by simpa using hSN
           clear hSN
           subst hs0
           have hleft:leftOut true op k=true:=by rw[← hop];simp[leftOut,HK1.out]
           clear hop
           have HA3:Hid (R=overR l true f (vs.map TokV.t) [] root' u):=Hd (by rw[HA2.out,if_pos hleft])
           clear hleft HA2 HMS
           go_wp2
           go_roundg (f - 1)
           case measure=>have:=hg.out;have:=hgf.out;omega
           case rel=>exact⟨u,vs,f - 1,_,[],root',by rw[HUu.out],by omega,Hd rfl,Hd (by have:=hg.out;omega),Hd (by have:=hal.out;omega),Hd (Nat.zero_le _),Hd (by rw[HA3.out,show f - 1+1=f by have:=hg.out;omega]),J4⟩
          |cons a op2 =>
           have hleft:leftOut true op k=false:=by rw[← hop];simp[leftOut]
           have hsn:(0:Int)<(SN:Int):=by rw[hSN,List.length_cons];omega
           clear hSN hop
           have HA3:Hid (R=overR l true f ((vs++ [(⟨k,PA,pn,pc⟩:TokV)]).map TokV.t) (a :: op2) root' u):=Hd (by rw[HA2.out,if_neg (by rw[hleft];simp),List.map_append];rfl)
           clear hleft HA2 HMS
           go_wp2_with (first
            |(refine wpList_load_row rfl _ _ rfl w2.heap.size rfl _ _ _ _ HQ4.out HU.out.2 rfl HU.out.1 ?_)
            |(at_builtin;refine wpList_appK rfl (.tmp 55) (.tmp 57) 25 47 rfl (.agg #[.int .i64 0,.int .i64 0,.int .i64 0,.string ⟨#[]⟩,.string ⟨#[]⟩,.slice none 0 0,.int .i64 0]) 7 88 Tryz.underlying25 info_tok rfl (by decide) w.heap.size _ vs.length (cellsK vs) rfl J4.out.gro.own (TokV.cells ⟨k,PA,pn,pc⟩) _ rfl rfl rfl (cells_one _) hvl (by decide) hba ?_))
           intro v5 w5 hown5 hg5 hat5
           have J5:=Hd (J4.out.appended HA.out (x:=⟨k,PA,pn,pc⟩) HX4.out.1 HX4.out.2.1 HX4.out.2.2 hown5 hg5 hat5)
           clear hown5 hg5 hat5 x0 x2 u0 u2
           go_wp2
           go_roundg (f - 1)
           case measure=>have:=hg.out;have:=hgf.out;omega
           case rel=>exact⟨u,vs++ [⟨k,PA,pn,pc⟩],f - 1,_,a :: op2,root',by rw[HUu.out],by omega,Hd rfl,Hd (by have:=hg.out;omega),Hd (by have:=hal.out;simp;omega),Hd (by have:=hopl.out;have:=HOL.out;omega),Hd (by rw[HA3.out,show f - 1+1=f by have:=hg.out;omega]),J5⟩
       · have kd:(k.kind != 1)=true:=by simp[hk1]
         have hleft:leftOut whole op k=false:=by simp[leftOut,hk1]
         clear hk1 hSN
         have HA3:Hid (R=overR l whole f ((vs++ [(⟨k,PA,pn,pc⟩:TokV)]).map TokV.t) op' root' u):=Hd (by rw[HA2.out,if_neg (by rw[hleft];simp),List.map_append];rfl)
         clear hleft HA2 HMS
         go_wp2_with (first
          |(refine wpList_load_row rfl _ _ rfl w2.heap.size rfl _ _ _ _ HQ4.out HU.out.2 rfl HU.out.1 ?_)
          |(at_builtin;refine wpList_appK rfl (.tmp 55) (.tmp 57) 25 47 rfl (.agg #[.int .i64 0,.int .i64 0,.int .i64 0,.string ⟨#[]⟩,.string ⟨#[]⟩,.slice none 0 0,.int .i64 0]) 7 88 Tryz.underlying25 info_tok rfl (by decide) w.heap.size _ vs.length (cellsK vs) rfl J4.out.gro.own (TokV.cells ⟨k,PA,pn,pc⟩) _ rfl rfl rfl (cells_one _) hvl (by decide) hba ?_))
         intro v5 w5 hown5 hg5 hat5
         have J5:=Hd (J4.out.appended HA.out (x:=⟨k,PA,pn,pc⟩) HX4.out.1 HX4.out.2.1 HX4.out.2.2 hown5 hg5 hat5)
         clear hown5 hg5 hat5 x0 x2 u0 u2
         go_wp2
         go_roundg (f - 1)
         case measure=>have:=hg.out;have:=hgf.out;omega
         case rel=>exact⟨u,vs++ [⟨k,PA,pn,pc⟩],f - 1,_,op',root',by rw[HUu.out],by omega,Hd rfl,Hd (by have:=hg.out;omega),Hd (by have:=hal.out;simp;omega),Hd (by have:=hopl.out;have:=HOL.out;omega),Hd (by rw[HA3.out,show f - 1+1=f by have:=hg.out;omega]),J5⟩
    · have HA2:=Hd (hbad e rfl he)
      have hei:((e:Int)==0)=false:=by simp;omega
      clear hok hbad hno hmore htl hkd htx
      go_wp2_with fail
      refine C2.out.mono ?_
      intro e0 w2 hp
      obtain⟨PA,pn,pc,rfl,hpr,hb,hlo⟩:=hp.out
      have B:=Hd ((HJ.out.kept hb).gro.below.alloc (HJ.out.kept hb).gro.below.size (.cells #[.int .i64 k.kind,.int .i64 k.fro,.int .i64 k.to_,.string ⟨k.name.toArray⟩,.string ⟨k.text.toArray⟩,.slice PA pn pc,.int .i64 k.r] 47))
      clear hpr hb hlo hp
      go_wp2
      go_ret3
      rw[HA2.out]
      exact AllPostK.bad rfl B.out
  · have hti: ¬ (t:Int)<(n:Int):=by omega
    obtain rfl:t=n:=by omega
    have htl: ¬ t<l.length:=by rw[HLn.out];exact htn
    have hsw:=HJ.out.sw.sw
    obtain⟨SA,SN,SC,hsv,hSN⟩: ∃ SA SN SC,sv= .slice SA SN SC∧SN=op.length:=by
      obtain⟨a,b,h⟩:=HJ.out.sw.own.form
      exact⟨a,_,b,h,rfl⟩
    subst hsv
    have z0:=cell_of 0 hsw
    have z1:=cell_of 1 hsw
    have z2:=cell_of 2 hsw
    cases op with
    |cons a op =>
     have hsn:(0:Int)<(SN:Int):=by rw[hSN,List.length_cons];omega
     have HA2:=Hd (HE.out.trans (over_open htl (by simp)))
     clear hSN htl hsw
     go_wp2
     go_ret3
     rw[HA2.out]
     exact AllPostK.bad rfl HJ.out.gro.below
    |nil =>
     have hs0:SN=0:=by simpa using hSN
     clear hSN
     subst hs0
     cases whole with
     |false =>
      have HA2:=Hd (HE.out.trans (over_end htl (by simp)))
      clear htl hsw
      go_wp2
      go_ret3
      rw[HA2.out]
      exact AllPostK.good HJ.out.gro rfl
     |true =>
      cases root with
      |false =>
       have HA2:=Hd (HE.out.trans (over_open htl (by simp)))
       have z1':wr.cell? ⟨sb,1,none⟩=some (.int .i64 0):=by simpa using z1
       clear htl hsw z1
       go_wp2
       go_ret3
       rw[HA2.out]
       exact AllPostK.bad rfl HJ.out.gro.below
      |true =>
       have HA2:=Hd (HE.out.trans (over_end htl (by simp)))
       have z1':wr.cell? ⟨sb,1,none⟩=some (.int .i64 1):=by simpa using z1
       clear htl hsw z1
       go_wp2
       go_ret3
       rw[HA2.out]
       exact AllPostK.good HJ.out.gro rfl
theorem document_c (A:Option Addr)(n cap:Nat)(l:List UInt8)(at_:Int)(w:World)(h:Byt w w.heap.size A n cap l)(hW:W11 w)(hm:n≤40000) :
 Calls Tryz.prog 11 #[.slice A n cap,.int .i64 at_] w fun e w'=>AllPostK (overAt l at_ true) w e w':=by
 unfold overAt
 rw[h.length]
 by_cases ha:at_<0∨(n:Int)<at_
 · rw[if_pos ha]
   clear h hW
   by_cases h0:at_<0
   · have hd:decide (at_<0)=true:=by simpa using h0
     clear ha
     go_enter Tryz.func11,Tryz.ntmps11
     go_wp2
     go_ret3
     exact AllPostK.bad rfl (Below.refl _ _)
   · have h1:(n:Int)<at_:=by omega
     clear ha
     go_enter Tryz.func11,Tryz.ntmps11
     go_wp2
     go_ret3
     exact AllPostK.bad rfl (Below.refl _ _)
 · rw[if_neg ha]
   obtain⟨k,rfl⟩: ∃ k:Nat,at_=(k:Int):=⟨at_.toNat,by omega⟩
   rw[Int.toNat_natCast]
   have ka:=(Below.refl w.heap.size w).alloc (Nat.le_refl _) (.cells #[.slice none 0 0,.int .i64 0,.bool true] 81)
   have C:=over_c w.heap.size true A n cap l k w (w.alloc (.cells #[.slice none 0 0,.int .i64 0,.bool true] 81)) rfl ka (hp_new _ _) ((h.below ka).more ka.size) (fun h0 b i hA=>by
     obtain⟨b',o,e,hb,_⟩:=h.at_ h0
     rw[hA]at e
     cases e
     exact⟨by omega,by rw[World.size_alloc];omega⟩) hW hm (by omega)
   rw[h.length]at C
   have hk0: ¬ (k:Int)<0:=by omega
   have hk1: ¬ (n:Int)<(k:Int):=by omega
   have CC:=Hd C
   generalize overR l true (n+1) [] [] false k=R at *
   obtain⟨L,t,x⟩:=R
   clear h hW ka C ha
   go_enter Tryz.func11,Tryz.ntmps11
   go_wp2_with fail
   refine CC.out.mono ?_
   rintro e w1 ⟨A1,n1,c1,vs,rfl,hv,hr,hb⟩
   have HF:=Hd (And.intro hv (And.intro hr hb))
   clear hv hr hb
   go_wp2
   go_ret3
   exact⟨A1,n1,c1,vs,rfl,HF.out.1,HF.out.2.1,HF.out.2.2⟩
theorem live30_c (w:World)(hW:W11 w):Calls Tryz.prog 5 #[] w fun e w'=>e= .returned (.bool true)∧Below w.heap.size w w':=by
 have kc:=fun (w:World) (C:Array Value) (n c:Nat)=>Lib.run_convert_bytes_const (P:=Tryz.prog) w 29 5 C n c Tryz.underlying29 Tryz.underlying5
 have C1:Hid (Calls Tryz.prog 11 #[.slice (some ⟨w.heap.size,0,none⟩) 8 8,.int .i64 0] (w.alloc (.cells #[.int .u8 60,.int .u8 97,.int .u8 62,.int .u8 120,.int .u8 60,.int .u8 47,.int .u8 97,.int .u8 62] 5 (8,9))) fun e w'=> ∃ A c,e= .returned (.tuple #[.slice A 3 c,.int .i64 8,.int .i64 0])∧Below w.heap.size w w'):=Hd (by
  have k1:=alloc_const w [60,97,62,120,60,47,97,62] (8,9) (by decide)
  have:=document_c _ _ _ _ 0 _ (k1.2.more (by simp)) (hW.below k1.1) (by decide)
  rw[show overAt [60,97,62,120,60,47,97,62] 0 true=([⟨7,0,3,[97],[],[],0⟩,⟨1,3,4,[],[120],[],0⟩,⟨9,4,8,[97],[],[],0⟩],8,0)by kernel_rfl]at this
  refine this.mono fun e w' ⟨A,n,c,vs,he,hv,hr,hb⟩=> ?_
  have hn:n=3:=by
   have:=congrArg List.length hv
   rw[List.length_map,hr.len]at this
   exact this
  subst hn
  exact⟨A,c,he,k1.1.trans (hb.mono k1.1.size)⟩)
 have C2:Hid (∀ W,Below w.heap.size w W→Calls Tryz.prog 11 #[.slice (some ⟨W.heap.size,0,none⟩) 8 8,.int .i64 0] (W.alloc (.cells #[.int .u8 60,.int .u8 97,.int .u8 47,.int .u8 62,.int .u8 60,.int .u8 98,.int .u8 47,.int .u8 62] 5 (8,9))) fun e w'=> ∃ A n c,e= .returned (.tuple #[.slice A n c,.int .i64 4,.int .i64 7])∧Below W.heap.size W w'):=Hd fun W hb=>by
  have k1:=alloc_const W [60,97,47,62,60,98,47,62] (8,9) (by decide)
  have:=document_c _ _ _ _ 0 _ (k1.2.more (by simp)) (hW.below (hb.trans (k1.1.mono hb.size))) (by decide)
  rw[show overAt [60,97,47,62,60,98,47,62] 0 true=([],4,7)by kernel_rfl]at this
  exact this.mono fun e w' ⟨A,n,c,vs,he,hv,hr,hb⟩=>⟨A,n,c,he,k1.1.trans (hb.mono k1.1.size)⟩
 clear hW
 go_enter Tryz.func5,Tryz.ntmps5
 go_wp2_with fail
 refine C1.out.mono ?_
 rintro e w1 ⟨A1,c1,rfl,B1⟩
 have HB1:=Hd B1
 go_wp2_with fail
 clear kc
 refine(C2.out _ B1).mono ?_
 rintro e w2 ⟨A2,n2,c2,rfl,b2⟩
 have HB2:=Hd (HB1.out.trans (b2.mono HB1.out.size))
 clear b2 B1
 go_wp2
 go_ret
 exact⟨rfl,HB2.out⟩
theorem le_sum_mem2 {n:Nat}: ∀ {l:List Nat},n∈l→n≤l.sum
 | [],h=>by cases h
 |m :: l,h=>by
  rcases List.mem_cons.1 h with rfl|h
  · simp
  · have:=le_sum_mem2 h
    simp only[List.sum_cons]
    omega
theorem much_small2 {l:List EntT}(h:muchE l=false):l.length≤24∧(l.map fun y=>y.tx.length).sum≤1500∧ ∀ x∈l,x.tx.length≤1500:=by
 unfold muchE at h
 simp only[Bool.or_eq_false_iff,decide_eq_false_iff_not]at h
 have h1:l.length≤24:=by omega
 have h2:(l.map fun y=>y.tx.length).sum≤1500:=by
  have h3:=h.2
  rw[List.take_of_length_le (by omega)]at h3
  unfold sumT at h3
  omega
 refine⟨h1,h2,fun x hx=>Nat.le_trans ?_ h2⟩
 exact le_sum_mem2 (List.mem_map.2 ⟨x,hx,rfl⟩)
theorem all_none (l:List UInt8): ∀ (f:Nat) (acc:List TokL) (t:Nat),(allR l f acc t).2.2≠0→(allR l f acc t).1= []
 |0,acc,t,h=>rfl
 |f+1,acc,t,h=>by
  unfold allR at h ⊢
  split
  · rename_i h1
    rw[if_pos h1]at h
    split
    · rename_i h2
      rw[if_pos h2]at h
      exact all_none l f _ _ h
    · rfl
  · rename_i h1
    rw[if_neg h1]at h
    exact absurd rfl h
theorem extra_same {l:List EntT}(hnl: ¬ loopsE l)(ns:List (List UInt8)):extraL (lookE (innerE l) (fun j=>(roundsG (sizeF (innerE l)) (0,0,0) (innerE l).length ((innerE l).length+1)).getD j (0,0,0))) ns=extraL (lookE (innerE l) (sizesE l)) ns:=by
 have e:lookE (innerE l) (fun j=>(roundsG (sizeF (innerE l)) (0,0,0) (innerE l).length ((innerE l).length+1)).getD j (0,0,0))=lookE (innerE l) (sizesE l):=by
  funext nm
  unfold lookE
  by_cases hn:nm∈(innerE l).map EntT.nm
  · have hi:((innerE l).map EntT.nm).idxOf nm<(innerE l).length:=by have:=List.idxOf_lt_length_iff.2 hn;simpa using this
    rw[if_pos hn,if_pos hn]
    exact congrArg some (sizes_rounds hnl _ hi)
  · rw[if_neg hn,if_neg hn]
 rw[e]
theorem sweepExtras_walk (A:Option Addr)(n cap:Nat)(l:List EntT)(s:List UInt8)(w:World)(h:RRd cE 6 w w.heap.size A n cap l)(hx: ∀ x∈l,x.tx.length≤281474976710656)(hnm: ∀ x∈l,x.nm.length≤1000000000000000)(hW:W11 w)(hK:KnownT w) :
 Calls Tryz.prog 3 #[.slice A n cap,.string ⟨s.toArray⟩] w fun e w'=>e= .returned (.bool true)∧Below w.heap.size w w':=by
 have CM:=Hd (rfMuch_c A n cap l w h hx)
 have LV:Hid (∀ W,Below w.heap.size w W→Calls Tryz.prog 5 #[] W fun e w'=>e= .returned (.bool true)∧Below W.heap.size W w'):=Hd fun W hb=>live30_c W (hW.below hb)
 have hsz:(⟨s.toArray⟩:ByteArray).size=s.length:=by simp[ByteArray.size]
 cases hmu:muchE l with
 |true =>
  rw[hmu]at CM
  clear h hx hnm hW hK hmu
  go_enter Tryz.func3,Tryz.ntmps3
  go_wp2_with fail
  refine(CM.out).mono ?_
  rintro e w1 ⟨rfl,hb⟩
  have B1:=Hd hb
  clear hb
  go_wp2_with fail
  refine(LV.out _ B1.out).mono ?_
  rintro e w2 ⟨rfl,hb⟩
  have B2:=Hd (B1.out.trans (hb.mono B1.out.size))
  clear hb
  go_wp2
  go_ret
  exact⟨rfl,B2.out⟩
 |false =>
  rw[hmu]at CM
  by_cases hn:s.length≤400
  · have hn': ¬ (400:Int)<(s.length:Int):=by omega
    obtain⟨hl24,_,hxs⟩:=much_small2 hmu
    have hln:l.length=n:=h.len
    have cv:=fun W=>run_toBytes W s
    have C1:Hid (∀ W,Below w.heap.size w W→Calls Tryz.prog 6 #[.slice (some ⟨W.heap.size,0,none⟩) s.length (grownCap W s.length 0 5)] (Lib.bytesWorld W 5 ⟨s.toArray⟩) fun e w'=>AllPostK (allOutK s) W e w'):=Hd fun W hb=>by
     have hbW:=Lib.bytesWorld_below W 5 ⟨s.toArray⟩
     have:=tokAll_c _ _ _ s (Lib.bytesWorld W 5 ⟨s.toArray⟩) ((byt_new W s (by omega)).more (Nat.le_of_eq (Lib.bytesWorld_size _ _ _).symm)) (hW.below (hb.trans (hbW.mono hb.size))) (by omega)
     exact this.mono fun e w' ⟨A,n,c,vs,he,hv,hr,hb2⟩=>⟨A,n,c,vs,he,hv,hr,hbW.trans (hb2.mono hbW.size)⟩
    have C2:Hid (∀ W,Calls Tryz.prog 7 #[.slice (some ⟨W.heap.size,0,none⟩) s.length (grownCap W s.length 0 5)] (Lib.bytesWorld W 5 ⟨s.toArray⟩) fun e w'=>AllPostK (allOutK s) W e w'):=Hd fun W=>by
     have hbW:=Lib.bytesWorld_below W 5 ⟨s.toArray⟩
     have:=refAllK_c _ _ _ s (Lib.bytesWorld W 5 ⟨s.toArray⟩) ((byt_new W s (by omega)).more (Nat.le_of_eq (Lib.bytesWorld_size _ _ _).symm)) (by omega)
     exact this.mono fun e w' ⟨A,n,c,vs,he,hv,hr,hb2⟩=>⟨A,n,c,vs,he,hv,hr,hbW.trans (hb2.mono hbW.size)⟩
    have CE:Hid (∀ W TA tn tc vs,Below w.heap.size w W→TRd W W.heap.size TA tn tc vs→tn≤400→(∀ v∈vs,okTk 400 v.t)→Calls Tryz.prog 8 #[.slice A n cap,.slice TA tn tc] W fun e w'=>(loopsE l→e= .returned (.tuple #[.agg #[.int .i64 0,.int .i64 0,.int .i64 0],.int .i64 8]))∧(¬ loopsE l→e= .returned (.tuple #[.agg (sz3 (accT (lookE (innerE l) (sizesE l)) (vs.map TokV.t))),.int .i64 0]))∧Below W.heap.size W w'):=Hd fun W TA tn tc vs hb ht h4 hok =>
     swExtra_c A n cap l TA tn tc vs W ((h.below hb).more hb.size) (by omega) (fun x hx2=>by have:=hxs x hx2;omega) hnm ht (by omega) (fun v hv=>by have:=hok v hv;exact⟨this.1,by have:=this.2.1;omega,fun p hp=>by have:=this.2.2 p hp;omega⟩) (hW.forms.below hb hW.forms.lt) (hW.tabs.below hb (hW.tabs.low hW.forms)) (hK.below hb)
    have CZ:Hid (∀ W TA tn tc vs,Below w.heap.size w W→TRd W W.heap.size TA tn tc vs→tn≤400→(∀ v∈vs,okTk 400 v.t)→ ¬ loopsE l→Calls Tryz.prog 10 #[.slice A n cap,.slice TA tn tc] W fun e w'=>e= .returned (.agg (sz3 (accT (lookE (innerE l) (sizesE l)) (vs.map TokV.t))))∧Below W.heap.size W w'):=Hd fun W TA tn tc vs hb ht h4 hok hnl =>
     (znExtra_c A n cap l TA tn tc vs W ((h.below hb).more hb.size) (by omega) (fun x hx2=>by have:=hxs x hx2;omega) ht h4 hok).mono fun e w' ⟨he,hb2⟩=>⟨by rw[he,extra_same hnl];rfl,hb2⟩
    have CL:Hid (∀ W,Below w.heap.size w W→Calls Tryz.prog 9 #[.slice A n cap] W fun e w'=> ∃ b:Bool,e= .returned (.bool b)∧(b=true ↔ loopsE l)∧Below W.heap.size W w'):=Hd fun W hb=>rfLoops_c A n cap l W ((h.below hb).more hb.size) (by omega) (fun x hx2=>by have:=hxs x hx2;omega)
    have hsm:=allOut_small s
    have hno:=all_none s (s.length+1) [] 0
    have HSM:Hid ((allOutK s).1.length≤400∧ ∀ x∈(allOutK s).1,okTk 400 x):=Hd ⟨by omega,fun x hx2=>by
     have:=hsm.2 x hx2
     exact⟨this.1,by have:=this.2.1;omega,fun p hp=>by have:=this.2.2 p hp;omega⟩⟩
    have HNO:Hid ((allOutK s).2.2≠0→(allOutK s).1= []):=Hd hno
    generalize allOutK s=R at *
    obtain⟨L,p,x⟩:=R
    simp only at HSM HNO
    clear h hx hnm hW hK hmu hn hl24 hxs hln hsm hno
    go_enter Tryz.func3,Tryz.ntmps3
    go_wp2_with fail
    refine(CM.out).mono ?_
    rintro e w0 ⟨rfl,hb⟩
    have B0:=Hd hb
    clear hb
    have cv1:=cv w0
    clear CM
    go_wp2_with fail
    refine(C1.out _ B0.out).mono ?_
    rintro e0 w1 ⟨A1,m,c1,vs1,rfl,hv1,hr1,b1⟩
    have B1:=Hd (B0.out.trans (b1.mono B0.out.size))
    have cv2:=cv w1
    clear cv1 cv C1
    go_wp2_with fail
    refine(C2.out w1).mono ?_
    rintro e0 w2 ⟨A2,m2,c2,vs2,rfl,hv2,hr2,b2⟩
    simp only at hv1 hv2
    have hm1:L.length=m:=by rw[← hv1,List.length_map];exact hr1.len
    obtain rfl:m=m2:=by rw[← hm1,← hv2,List.length_map];exact hr2.len
    have HR1:=Hd (hr1.up b2)
    have HR2:=Hd hr2
    have B2:=Hd (B1.out.trans (b2.mono B1.out.size))
    have hm4:m≤400:=by have:=HSM.out.1;omega
    have HV1:Hid (∀ v∈vs1,okTk 400 v.t):=Hd fun v hv=>HSM.out.2 _ (by rw[← hv1];exact List.mem_map.2 ⟨v,hv,rfl⟩)
    have HV2:Hid (∀ v∈vs2,okTk 400 v.t):=Hd fun v hv=>HSM.out.2 _ (by rw[← hv2];exact List.mem_map.2 ⟨v,hv,rfl⟩)
    have HVE:=Hd (And.intro hv1 (And.intro hv2 hm1))
    clear cv2 C2 hr1 hr2 b1 b2 hv1 hv2 hm1
    by_cases hx0:x=0
    · subst hx0
      clear HNO
      go_wp2_with fail
      refine(CE.out w2 A1 m c1 vs1 B2.out HR1.out hm4 HV1.out).mono ?_
      rintro e w3 ⟨hl1,hl2,hb3⟩
      have B3:=Hd (B2.out.trans (hb3.mono B2.out.size))
      have HR3:=Hd (HR2.out.up hb3)
      clear hb3 CE
      by_cases hl:loopsE l
      · obtain rfl:=hl1 hl
        have HL:=Hd hl
        clear hl1 hl2 hl CZ
        go_wp2_with fail
        have B4:Hid (Below w.heap.size w (w3.alloc (.cells #[.int .i64 0,.int .i64 0,.int .i64 0] 34))):=Hd (B3.out.alloc B3.out.size _)
        have Z4:=Hd (hp_new w3 (.cells #[.int .i64 0,.int .i64 0,.int .i64 0] 34))
        obtain⟨zb,hzb⟩: ∃ p,w3.heap.size=p:=⟨_,rfl⟩
        rw[hzb]at Z4
        (try rw[hzb])
        generalize w3.alloc (.cells #[.int .i64 0,.int .i64 0,.int .i64 0] 34)=w4 at *
        clear hzb
        refine(CL.out w4 B4.out).mono ?_
        rintro e w5 ⟨b,rfl,hbl,hb5⟩
        obtain rfl:=hbl.2 HL.out
        have B5:=Hd (B4.out.trans (hb5.mono B4.out.size))
        have q5:=(hb5.block _ (lt_of Z4.out)).trans Z4.out
        have z0:=cell_of 0 q5
        have z1:=cell_of 1 q5
        have z2:=cell_of 2 q5
        clear hbl hb5 CL q5
        go_wp2_with fail
        refine(LV.out _ B5.out).mono ?_
        rintro e w6 ⟨rfl,hb⟩
        have B6:=Hd (B5.out.trans (hb.mono B5.out.size))
        clear hb
        go_wp2
        go_ret
        exact⟨rfl,B6.out⟩
      · obtain rfl:=hl2 hl
        have HL:=Hd hl
        have CZ2:=Hd fun W (hb:Below w.heap.size w W) (ht:TRd W W.heap.size A2 m c2 vs2)=>CZ.out W A2 m c2 vs2 hb ht hm4 HV2.out hl
        rw[HVE.out.1]
        rw[HVE.out.2.1]at CZ2
        obtain⟨U,hU⟩: ∃ U,accT (lookE (innerE l) (sizesE l)) L=U:=⟨_,rfl⟩
        rw[hU]at CZ2 ⊢
        clear hl1 hl2 hl hU CZ
        unfold sz3 at CZ2 ⊢
        go_wp2_with fail
        have B4:Hid (Below w.heap.size w (w3.alloc (.cells #[.int .i64 (U.1:Nat),.int .i64 (U.2.1:Nat),.int .i64 (U.2.2:Nat)] 34))):=Hd (B3.out.alloc B3.out.size _)
        have Z4:=Hd (hp_new w3 (.cells #[.int .i64 (U.1:Nat),.int .i64 (U.2.1:Nat),.int .i64 (U.2.2:Nat)] 34))
        have R4:=Hd (HR3.out.up ((Below.refl w3.heap.size w3).alloc (Nat.le_refl _) (.cells #[.int .i64 (U.1:Nat),.int .i64 (U.2.1:Nat),.int .i64 (U.2.2:Nat)] 34)))
        obtain⟨zb,hzb⟩: ∃ p,w3.heap.size=p:=⟨_,rfl⟩
        rw[hzb]at Z4
        (try rw[hzb])
        generalize w3.alloc (.cells #[.int .i64 (U.1:Nat),.int .i64 (U.2.1:Nat),.int .i64 (U.2.2:Nat)] 34)=w4 at *
        clear hzb
        refine(CL.out w4 B4.out).mono ?_
        rintro e w5 ⟨b,rfl,hbl,hb5⟩
        have hbf:b=false:=by cases b with
         |false=>rfl
         |true=>exact absurd (hbl.1 rfl) HL.out
        subst hbf
        have B5:=Hd (B4.out.trans (hb5.mono B4.out.size))
        have R5:=Hd (R4.out.up hb5)
        have Z5:=Hd ((hb5.block _ (lt_of Z4.out)).trans Z4.out)
        clear hbl hb5 CL Z4 R4
        go_wp2_with fail
        refine(CZ2.out w5 B5.out R5.out).mono ?_
        rintro e w6 ⟨rfl,hb6⟩
        have B6:=Hd (B5.out.trans (hb6.mono B5.out.size))
        have q6:=hp_old (o:= .cells #[.int .i64 (U.1:Nat),.int .i64 (U.2.1:Nat),.int .i64 (U.2.2:Nat)] 37) ((hb6.block _ (lt_of Z5.out)).trans Z5.out)
        have z0:=cell_of 0 q6
        have z1:=cell_of 1 q6
        have z2:=cell_of 2 q6
        have B7:Hid (Below w.heap.size w (w6.alloc (.cells #[.int .i64 (U.1:Nat),.int .i64 (U.2.1:Nat),.int .i64 (U.2.2:Nat)] 37))):=Hd (B6.out.alloc B6.out.size _)
        clear hb6 CZ2 q6
        obtain⟨u0,u1,u2⟩:=U
        simp only at *
        go_wp2_with fail
        refine(LV.out _ B7.out).mono ?_
        rintro e w8 ⟨rfl,hb⟩
        have B8:=Hd (B7.out.trans (hb.mono B7.out.size))
        clear hb
        go_wp2
        go_ret
        exact⟨rfl,B8.out⟩
    · have hx1:((x:Int) != 0)=true:=by
        have: ¬ (x:Int)=0:=by omega
        simpa using this
      have hm0:m=0:=by
        have h9:=HNO.out hx0
        have h8:=HVE.out.2.2
        rw[h9]at h8
        exact h8.symm
      subst hm0
      clear hx0 CE CZ CL HNO
      go_wp2_with fail
      refine(LV.out _ B2.out).mono ?_
      rintro e w6 ⟨rfl,hb⟩
      have B6:=Hd (B2.out.trans (hb.mono B2.out.size))
      clear hb
      go_wp2
      go_ret
      exact⟨rfl,B6.out⟩
  · have hn':(400:Int)<(s.length:Int):=by omega
    clear h hx hnm hW hK hmu hn
    go_enter Tryz.func3,Tryz.ntmps3
    go_wp2_with fail
    refine(CM.out).mono ?_
    rintro e w1 ⟨rfl,hb⟩
    have B1:=Hd hb
    clear hb
    go_wp2_with fail
    refine(LV.out _ B1.out).mono ?_
    rintro e w2 ⟨rfl,hb⟩
    have B2:=Hd (B1.out.trans (hb.mono B1.out.size))
    clear hb
    go_wp2
    go_ret
    exact⟨rfl,B2.out⟩
end Go.Proofs.YtbafljibbabnaaaGreatDoor
