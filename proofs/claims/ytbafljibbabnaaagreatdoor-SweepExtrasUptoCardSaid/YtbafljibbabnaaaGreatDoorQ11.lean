/- Texts of ours, joined: RfN, GrB, GrC. -/
import Derived.Test.YtbafljibbabnaaaGreatDoorQ10
namespace Go.Proofs.YtbafljibbabnaaaGreatDoor
open Go.ChangeShapes Go.WideShapes Go.ChangeAt Go.RowKit
set_option linter.unusedVariables false
set_option maxRecDepth 100000
set_option maxHeartbeats 32000000
theorem onceL_take {l:List (Nat × Nat × List UInt8)}{t:Nat}{x:Nat × Nat × List UInt8}(h:l[t]? =some x):onceL ((l.take (t+1)).map (fun r=>r.2.2))=onceF (onceL ((l.take t).map (fun r=>r.2.2))) x.2.2:=by
 unfold onceL
 rw[List.take_add_one,h,List.map_append,List.foldl_append]
 rfl
theorem mem_take_succ {l:List (List UInt8)}{k:Nat}{y s:List UInt8}(h:l[k]? =some y):decide (s∈l.take (k+1))=(decide (s∈l.take k) || decide (y=s)):=by
 rw[List.take_add_one,h,Bool.eq_iff_iff]
 simp only[Option.toList_some,List.mem_append,List.mem_singleton,Bool.or_eq_true,decide_eq_true_eq]
 constructor
 · rintro(h|h)
   · exact .inl h
   · exact .inr h.symm
 · rintro(h|h)
   · exact .inl h
   · exact .inr h.symm
theorem rfNames_c (l:List UInt8)(w:World)(hm:l.length≤20000):Calls Tryz.prog 44 #[.string ⟨l.toArray⟩,.bool true] w fun e w'=> ∃ OA oc,e= .returned (.slice OA (eachL l).length oc)∧OwnC cS1 1 9 w' w.heap.size (.slice OA (eachL l).length oc) (eachL l)∧Below w.heap.size w w':=by
 have C1:=Hd (rfAll_c l w hm)
 have hle:(rfsA l 0).length≤20000:=by have:=rfsA_len l l.length 0 (by omega);omega
 go_enter Tryz.func44,Tryz.ntmps44
 go_wp2_with fail
 refine C1.out.mono ?_
 rintro e w1 ⟨OA,oc,rfl,ho,hb⟩
 obtain⟨A1,c1,hv1,hr1⟩:=OwnC.rrd (c:=cRf) (k:=3) (fun _=>rfl) (by decide) ho
 cases hv1
 have HB1:=Hd hb
 have HP:Hid (∀ W,Below w1.heap.size w1 W→RRd cRf 3 W W.heap.size OA (rfsA l 0).length oc (rfsA l 0)):=Hd fun W hb=>(hr1.below hb).more hb.size
 obtain⟨n,hn⟩: ∃ n,(rfsA l 0).length=n:=⟨_,rfl⟩
 rw[hn]at HP hle ⊢
 have HN:=Hd hn
 have hJ0:Hid (Below w1.heap.size w1 w1∧OwnC cS1 1 9 w1 w1.heap.size (.slice none 0 0) (onceL (((rfsA l 0).take 0).map (fun r=>r.2.2)))):=Hd ⟨Below.refl _ _,OwnC.start _ _ _ _ _⟩
 clear hn hr1 ho hb C1
 go_wp2
 go_loopg [6,7] (n) (fun g v i wr=> ∃ t:Nat,i= .int .i64 (t:Int)∧t≤n∧Hid (g+t=n)∧Hid (Below w1.heap.size w1 wr∧OwnC cS1 1 9 wr w1.heap.size v (onceL (((rfsA l 0).take t).map (fun r=>r.2.2)))))
 case atStart=>exact⟨0,rfl,Nat.zero_le _,Hd rfl,hJ0⟩
 case round =>
  clear hJ0
  obtain⟨t,rfl,ht,hg,HJ⟩:=hrel
  have ht0:(0:Int)≤(t:Int):=by omega
  have ht9:(t:Int)≤20000:=by omega
  by_cases htn:t<n
  · have hti:(t:Int)<(n:Int):=by omega
    obtain⟨x,hx0⟩: ∃ x,(rfsA l 0)[t]? =some x:=⟨_,List.getElem?_eq_getElem (by rw[HN.out];exact htn)⟩
    have HT:=Hd (onceL_take hx0)
    have hal:(onceL (((rfsA l 0).take t).map (fun r=>r.2.2))).length≤20000:=by
     have:=once_le (((rfsA l 0).take t).map (fun r=>r.2.2)) []
     unfold onceL
     simp only[List.length_nil,List.length_map,List.length_take]at this
     omega
    obtain⟨acc,hacc⟩: ∃ q,onceL (((rfsA l 0).take t).map (fun r=>r.2.2))=q:=⟨_,rfl⟩
    rw[hacc]at HT HJ hal
    obtain⟨A0,c0,hv0,hr0⟩:=OwnC.rrd (c:=cS1) (k:=1) (fun _=>rfl) (by decide) HJ.out.2
    subst hv0
    obtain⟨xk,xn,xs⟩:=x
    simp only at HT
    have HX:=Hd hx0
    have HR0:Hid (∀ W,Below wr.heap.size wr W→RRd cS1 1 W W.heap.size A0 acc.length c0 acc):=Hd fun W hb=>(hr0.below hb).more hb.size
    obtain⟨m,hml⟩: ∃ m,acc.length=m:=⟨_,rfl⟩
    have HM:=Hd hml
    rw[hml]at HR0 HJ hal ⊢
    clear hr0 hacc hml hx0
    generalize wr=wo at *
    go_wp2
    go_loopg [8,9] (m) (fun g b i wr=> ∃ k:Nat,i= .int .i64 (k:Int)∧k≤m∧Hid (g+k=m)∧b= .bool (decide (xs∈acc.take k))∧Hid (Below wo.heap.size wo wr))
    case atStart=>exact⟨0,rfl,Nat.zero_le _,Hd rfl,by simp,Hd (Below.refl _ _)⟩
    case round =>
     obtain⟨k,rfl,hk,hgk,hbk,HK⟩:=hrel
     have hk0:(0:Int)≤(k:Int):=by omega
     have hk9:(k:Int)≤20000:=by omega
     by_cases hkm:k<m
     · have hki:(k:Int)<(m:Int):=by omega
       obtain⟨b1,o1,y,rfl,hb1,hy,hc1⟩:=(HR0.out _ HK.out).cell hkm
       have y0:wr.cell? ⟨b1,o1+k,none⟩=some (.string ⟨y.toArray⟩):=by rw[show o1+k=o1+(k*1+0)by omega];exact hc1 0 _ rfl
       obtain⟨b2,o2,x2,rfl,hb2,hx2,hc2⟩:=(HP.out wr (HJ.out.1.trans (HK.out.mono HJ.out.1.size))).cell htn
       rw[HX.out]at hx2
       cases hx2
       have y2:wr.cell? ⟨b2,o2+t*3+2,none⟩=some (.string ⟨xs.toArray⟩):=by rw[show o2+t*3+2=o2+(t*3+2)by omega];exact hc2 2 _ rfl
       have he:=eqvL y xs
       have HS:=Hd (mem_take_succ (s:=xs) hy)
       obtain⟨bh,hbh⟩: ∃ q,decide (xs∈acc.take k)=q:=⟨_,rfl⟩
       obtain⟨by_,hby⟩: ∃ q,decide (y=xs)=q:=⟨_,rfl⟩
       rw[hbh]at hbk HS
       rw[hby]at HS he
       subst hbk
       clear hb1 hy hc1 hb2 hc2 hbh hby
       cases bh with
       |true =>
        go_wp2_with fail
        go_quiet (fail)
        have HK2:Hid (Below wo.heap.size wo (wr.drewN nq)):=Hd (below_drewN' HK.out)
        clear y0 y2
        generalize wr.drewN nq=wq at *
        go_wp2
        go_roundg (m - (k+1))
        case measure=>have:=hgk.out;omega
        case rel=>exact⟨k+1,by go_num,by omega,Hd (by have:=hgk.out;omega),by rw[HS.out];rfl,HK2⟩
       |false =>
        go_wp2_with fail
        go_quiet (fail)
        have HK2:Hid (Below wo.heap.size wo (wr.drewN nq)):=Hd (below_drewN' HK.out)
        clear y0 y2
        generalize wr.drewN nq=wq at *
        go_wp2
        go_roundg (m - (k+1))
        case measure=>have:=hgk.out;omega
        case rel=>exact⟨k+1,by go_num,by omega,Hd (by have:=hgk.out;omega),by rw[HS.out];rfl,HK2⟩
     · have hki: ¬ (k:Int)<(m:Int):=by omega
       have hbk2:decide (xs∈acc.take k)=decide (xs∈acc):=by rw[List.take_of_length_le (by rw[HM.out];omega)]
       rw[hbk2]at hbk
       obtain⟨bh,hbh⟩: ∃ q,decide (xs∈acc)=q:=⟨_,rfl⟩
       rw[hbh]at hbk
       subst hbk
       have HBW:=Hd (HJ.out.1.trans (HK.out.mono HJ.out.1.size))
       have HO:Hid (OwnC cS1 1 9 wr w1.heap.size (.slice A0 m c0) acc):=Hd (HJ.out.2.kept HK.out)
       clear hbk2
       cases bh with
       |true =>
        have HE:Hid (onceL (((rfsA l 0).take (t+1)).map (fun r=>r.2.2))=acc):=Hd (by rw[HT.out];unfold onceF;rw[if_pos (of_decide_eq_true hbh)])
        clear hbh
        go_wp2
        go_roundg (n - (t+1))
        case measure=>have:=hg.out;omega
        case rel=>exact⟨t+1,by go_num,by omega,Hd (by have:=hg.out;omega),Hd (by rw[HE.out];exact⟨HBW.out,HO.out⟩)⟩
       |false =>
        have HE:Hid (onceL (((rfsA l 0).take (t+1)).map (fun r=>r.2.2))=acc++ [xs]):=Hd (by rw[HT.out];unfold onceF;rw[if_neg (of_decide_eq_false hbh)])
        clear hbh
        obtain⟨b2,o2,x2,rfl,hb2,hx2,hc2⟩:=(HP.out wr HBW.out).cell htn
        rw[HX.out]at hx2
        cases hx2
        have y2:wr.cell? ⟨b2,o2+t*3+2,none⟩=some (.string ⟨xs.toArray⟩):=by rw[show o2+t*3+2=o2+(t*3+2)by omega];exact hc2 2 _ rfl
        have hown:wr.ownsRow w1.heap.size 9 1 (.slice A0 m c0) m (acc.flatMap cS1):=by have:=HO.out;unfold OwnC at this;rw[HM.out]at this;exact this
        have hba:w1.heap.size≤wr.heap.size:=HBW.out.size
        have hpl:m≤1000000000:=by omega
        clear hb2 hc2
        go_wp2_with (at_builtin;refine wpList_appK rfl (.tmp 42) (.tmp 48) 57 9 rfl (.string ⟨#[]⟩) 1 16 Tryz.underlying57 info_str rfl (by decide) _ _ _ _ rfl hown (cS1 xs) _ rfl rfl rfl (by simp[cS1,Value.oneCell']) hpl (by decide) hba ?_)
        intro v6 w6 hown6 hg6 hat6
        have O6:Hid (OwnC cS1 1 9 w6 w1.heap.size v6 (acc++ [xs])):=Hd (OwnC.snoc (by rw[HM.out];exact hown6))
        have kb:=(Below.refl wr.heap.size wr).alloc (Nat.le_refl _) (.cells (cS1 xs).toArray 9)
        have HB6:=Hd ((HBW.out.trans (kb.mono HBW.out.size)).grown hg6 (by rw[World.size_alloc wr];omega) (fun j hj=>(HO.out.ge hj).2))
        clear hown6 hg6 hat6 hown kb hba
        go_wp2
        go_roundg (n - (t+1))
        case measure=>have:=hg.out;omega
        case rel=>exact⟨t+1,by go_num,by omega,Hd (by have:=hg.out;omega),Hd (by rw[HE.out];exact⟨HB6.out,O6.out⟩)⟩
  · have hti: ¬ (t:Int)<(n:Int):=by omega
    have hJ:=HJ.out
    rw[List.take_of_length_le (by rw[HN.out];omega)]at hJ
    have hE:onceL ((rfsA l 0).map (fun r=>r.2.2))=eachL l:=rfl
    rw[hE]at hJ
    obtain⟨A2,c2,hv⟩:=hJ.2.form
    subst hv
    have HF:=Hd (And.intro (hJ.2.base (show w.heap.size≤w1.heap.size from HB1.out.size)) (HB1.out.trans (hJ.1.mono HB1.out.size)))
    clear hJ HJ hE
    go_wp2
    go_ret
    exact⟨A2,c2,rfl,HF.out⟩
theorem inner_take {l:List EntT}{t:Nat}{x:EntT}(h:l[t]? =some x):innerE (l.take (t+1))=innerF (innerE (l.take t)) x:=by
 unfold innerE
 rw[List.take_add_one,h,List.foldl_append]
 rfl
theorem fndN_neg (l:List (List UInt8))(s:List UInt8):decide (fndN l s<0)=decide (¬ s∈l):=by
 unfold fndN
 split
 · rename_i h
   simp[h]
 · rename_i h
   simp[h]
theorem rfInner_c (A:Option Addr)(n cap:Nat)(l:List EntT)(w:World)(h:RRd cE 6 w w.heap.size A n cap l)(hm:n≤1000) :
 Calls Tryz.prog 21 #[.slice A n cap] w fun e w'=> ∃ OA oc,e= .returned (.slice OA (innerE l).length oc)∧OwnC cE 6 43 w' w.heap.size (.slice OA (innerE l).length oc) (innerE l)∧Below w.heap.size w w':=by
 have HP:Hid (∀ W,Below w.heap.size w W→RRd cE 6 W W.heap.size A n cap l):=Hd fun W hb=>(h.below hb).more hb.size
 have HN:Hid (l.length=n):=Hd h.len
 have hJ0:Hid (Below w.heap.size w w∧OwnC cE 6 43 w w.heap.size (.slice none 0 0) (innerE (l.take 0))):=Hd ⟨Below.refl _ _,OwnC.start _ _ _ _ _⟩
 clear h
 go_enter Tryz.func21,Tryz.ntmps21
 go_wp2
 go_loopg [3,4] (n) (fun g v i wr=> ∃ t:Nat,i= .int .i64 (t:Int)∧t≤n∧Hid (g+t=n)∧Hid (Below w.heap.size w wr∧OwnC cE 6 43 wr w.heap.size v (innerE (l.take t))))
 case atStart=>exact⟨0,rfl,Nat.zero_le _,Hd rfl,hJ0⟩
 case round =>
  clear hJ0
  obtain⟨t,rfl,ht,hg,HJ⟩:=hrel
  have ht0:(0:Int)≤(t:Int):=by omega
  have ht9:(t:Int)≤1000:=by omega
  by_cases htn:t<n
  · have hti:(t:Int)<(n:Int):=by omega
    obtain⟨b1,o1,x,rfl,hb1,hx,hc1⟩:=(HP.out _ HJ.out.1).cell htn
    have HT:=Hd (inner_take hx)
    have hal:(innerE (l.take t)).length≤1000:=by
     have:=inner_len (l.take t) []
     unfold innerE
     simp only[List.length_nil,List.length_take]at this
     omega
    obtain⟨acc,hacc⟩: ∃ q,innerE (l.take t)=q:=⟨_,rfl⟩
    rw[hacc]at HT HJ hal
    obtain⟨A0,c0,hv0,hr0⟩:=OwnC.rrd (c:=cE) (k:=6) (fun _=>rfl) (by decide) HJ.out.2
    subst hv0
    have FD:=Hd (rfFindE_c A0 acc.length c0 acc x.nm wr hr0 (by omega))
    have HF:=Hd (fndN_neg (acc.map EntT.nm) x.nm)
    obtain⟨xn,xt,xo,xp,xq,xr⟩:=x
    simp only at FD HF
    have y0:wr.cell? ⟨b1,o1+t*6,none⟩=some (.string ⟨xn.toArray⟩):=by rw[show o1+t*6=o1+(t*6+0)by omega];exact hc1 0 _ rfl
    have y1:wr.cell? ⟨b1,o1+t*6+1,none⟩=some (.string ⟨xt.toArray⟩):=by rw[show o1+t*6+1=o1+(t*6+1)by omega];exact hc1 1 _ rfl
    have y2:wr.cell? ⟨b1,o1+t*6+2,none⟩=some (.bool xo):=by rw[show o1+t*6+2=o1+(t*6+2)by omega];exact hc1 2 _ rfl
    have y3:wr.cell? ⟨b1,o1+t*6+3,none⟩=some (.string ⟨xp.toArray⟩):=by rw[show o1+t*6+3=o1+(t*6+3)by omega];exact hc1 3 _ rfl
    have y4:wr.cell? ⟨b1,o1+t*6+4,none⟩=some (.string ⟨xq.toArray⟩):=by rw[show o1+t*6+4=o1+(t*6+4)by omega];exact hc1 4 _ rfl
    have y5:wr.cell? ⟨b1,o1+t*6+5,none⟩=some (.string ⟨xr.toArray⟩):=by rw[show o1+t*6+5=o1+(t*6+5)by omega];exact hc1 5 _ rfl
    obtain⟨F,hFe⟩: ∃ q,fndN (acc.map EntT.nm) xn=q:=⟨_,rfl⟩
    rw[hFe]at FD HF
    clear hb1 hx hc1 hr0 hacc hFe
    cases xo with
    |true =>
     have HE:Hid (innerE (l.take (t+1))=acc):=Hd (by rw[HT.out];unfold innerF;rw[if_pos (.inl rfl)])
     clear FD HF
     go_wp2
     go_roundg (n - (t+1))
     case measure=>have:=hg.out;omega
     case rel=>exact⟨t+1,by go_num,by omega,Hd (by have:=hg.out;omega),Hd (by rw[HE.out];exact HJ.out)⟩
    |false =>
     by_cases hm2:xn∈acc.map EntT.nm
     · have HE:Hid (innerE (l.take (t+1))=acc):=Hd (by rw[HT.out];unfold innerF;rw[if_pos (.inr hm2)])
       have hF: ¬ F<0:=of_decide_eq_false (by rw[HF.out];simp[hm2])
       clear hm2
       go_wp2_with fail
       refine FD.out.mono ?_
       rintro e w1 ⟨rfl,rfl⟩
       go_wp2
       go_roundg (n - (t+1))
       case measure=>have:=hg.out;omega
       case rel=>exact⟨t+1,by go_num,by omega,Hd (by have:=hg.out;omega),Hd (by rw[HE.out];exact HJ.out)⟩
     · have HE:Hid (innerE (l.take (t+1))=acc++ [⟨xn,xt,false,xp,xq,xr⟩]):=Hd (by rw[HT.out];unfold innerF;rw[if_neg (by simpa using hm2)])
       have hF:F<0:=of_decide_eq_true (by rw[HF.out];simp[hm2])
       have hown:wr.ownsRow w.heap.size 43 6 (.slice A0 acc.length c0) acc.length (acc.flatMap cE):=HJ.out.2
       have hpl:acc.length≤1000000000:=by omega
       have hba:w.heap.size≤wr.heap.size:=HJ.out.1.size
       clear hm2
       go_wp2_with fail
       refine FD.out.mono ?_
       rintro e w1 ⟨rfl,rfl⟩
       go_wp2_with (at_builtin;refine wpList_appK rfl (.tmp 27) (.tmp 32) 22 43 rfl (.agg #[.string ⟨#[]⟩,.string ⟨#[]⟩,.bool false,.string ⟨#[]⟩,.string ⟨#[]⟩,.string ⟨#[]⟩]) 6 88 Tryz.underlying22 infoC_ent rfl (by decide) _ _ _ _ rfl hown (cE ⟨xn,xt,false,xp,xq,xr⟩) _ rfl rfl rfl (by simp[cE,Value.oneCell']) hpl (by decide) hba ?_)
       intro v6 w6 hown6 hg6 hat6
       have O6:=Hd (OwnC.snoc (c:=cE) (x:=⟨xn,xt,false,xp,xq,xr⟩) hown6)
       have kb:=(Below.refl wr.heap.size wr).alloc (Nat.le_refl _) (.cells (cE ⟨xn,xt,false,xp,xq,xr⟩).toArray 43)
       have HB6:=Hd ((HJ.out.1.trans (kb.mono HJ.out.1.size)).grown hg6 (by rw[World.size_alloc wr];omega) (fun j hj=>(HJ.out.2.ge hj).2))
       clear hown6 hg6 hat6 hown kb hba
       go_wp2
       go_roundg (n - (t+1))
       case measure=>have:=hg.out;omega
       case rel=>exact⟨t+1,by go_num,by omega,Hd (by have:=hg.out;omega),Hd (by rw[HE.out];exact⟨HB6.out,O6.out⟩)⟩
  · have hti: ¬ (t:Int)<(n:Int):=by omega
    have hJ:=HJ.out
    rw[List.take_of_length_le (by rw[HN.out];omega)]at hJ
    obtain⟨A2,c2,hv⟩:=hJ.2.form
    subst hv
    have HF:=Hd (And.intro hJ.2 hJ.1)
    clear hJ HJ
    go_wp2
    go_ret
    exact⟨A2,c2,rfl,HF.out⟩
theorem stepAppC {α:Type}{c:α→List Value}{k bytes:Nat}{t e:TypeId}{z:Value}{ops:Array Oper}{o:Oper}{a:Act}{K:Act→World→Prop}{Q:Exit→Act→World→Prop}{E:Prop}{w:World}(hgd:o.guard=none)(s x:Operand)
 (ho:o.op= .call { callee:= .builtin .append,args:= #[s,x],argTypes:= #[t,t] }) (ht:Tryz.prog.underlying t=some (.slice e)) (hi: ∃ i,Tryz.prog.info? e=some i∧i.zero=some z∧i.size=k∧i.bytes=bytes) (hzs:z.cells.size=k) (hk:0<k) (hby:bytes≤1000)
 (base:Nat) (v:Value) (op:List α) (hs:a.eval s=v) (hown:OwnC c k e w base v op)
 (ad:Addr) (hx:a.eval x= .slice (some ad) 1 1) (new:α) (hl:(c new).length=k) (hone: ∀ u∈c new,u.oneCell'=true) (hcell: ∀ (j:Nat) u,(c new)[j]? =some u→w.cell? (ad.add j)=some u)
 (hb:op.length≤1000000) (hbase:base≤w.heap.size)
 (h: ∀ v' w',OwnC c k e w' base v' (op++ [new])→w.grownBy w' v.ownBlock→K (a.put o.dst v') w') :
 if Region.wanted o (yielded ops a.tmps)=true then Oper.wp Tryz.prog o a w K Q else E:=by
 have hw:Region.wanted o (yielded ops a.tmps)=true:=by simp[Region.wanted,hgd]
 rw[if_pos hw]
 obtain⟨i,hi,hz,hsz,hbt⟩:=hi
 have hmul:(op.length+1)*bytes≤1000001*1000:=Nat.mul_le_mul (by omega) hby
 obtain⟨v',w',hr,h2,h3,_,_⟩:=run_append_own_at (P:=Tryz.prog) w base t o.type e i z k bytes ht hi hz hsz hbt hzs hk v op.length (op.flatMap c) hown ad 1 1 (c new) (by omega) hcell hone (by unfold maxLen;omega) (by omega) hbase
 unfold Oper.wp execOp
 simp only[ho,resolve,invoke,builtin,Sem.run_bind,Sem.run_pure,Result.andThen_ok,List.map_toArray,List.map_cons,List.map_nil,hs,hx,hr]
 exact h v' w' (OwnC.snoc h2) h3
structure IRow where
 A:Option Addr
 n:Nat
 c:Nat
 l:List Nat
def cIR (r:IRow):List Value:= [.slice r.A r.n r.c]
structure GRd (w:World) (B:Nat) (A:Option Addr) (n cap:Nat) (rs:List IRow):Prop where
 row:RRd cIR 1 w B A n cap rs
 rows: ∀ r∈rs,RRd cI 1 w B r.A r.n r.c r.l
theorem GRd.below {w w':World}{B n cap:Nat}{A:Option Addr}{rs:List IRow}(h:GRd w B A n cap rs)(hb:Below B w w'):GRd w' B A n cap rs:=⟨h.row.below hb,fun r hr=>(h.rows r hr).below hb⟩
theorem GRd.more {w:World}{B B' n cap:Nat}{A:Option Addr}{rs:List IRow}(h:GRd w B A n cap rs)(hB:B≤B'):GRd w B' A n cap rs:=⟨h.row.more hB,fun r hr=>(h.rows r hr).more hB⟩
structure GOwn (w:World) (base:Nat) (v:Value) (rs:List IRow):Prop where
 row:OwnC cIR 1 100 w base v rs
 rows: ∀ r∈rs,OwnC cI 1 3 w base (.slice r.A r.n r.c) r.l∧r.n=r.l.length
theorem GOwn.start (w:World)(base:Nat):GOwn w base (.slice none 0 0) []:=⟨OwnC.start _ _ _ _ _,fun r hr=>by cases hr⟩
theorem GOwn.kept {w w':World}{base:Nat}{v:Value}{rs:List IRow}(h:GOwn w base v rs)(hb:Below w.heap.size w w'):GOwn w' base v rs:=⟨h.row.kept hb,fun r hr=>⟨(h.rows r hr).1.kept hb,(h.rows r hr).2⟩⟩
theorem GOwn.keep {w w':World}{base:Nat}{v:Value}{rs:List IRow}(h:GOwn w base v rs)(hk: ∀ g,base≤g→g<w.heap.size→w'.heap[g]? =w.heap[g]?):GOwn w' base v rs:=⟨h.row.keep hk,fun r hr=>⟨(h.rows r hr).1.keep hk,(h.rows r hr).2⟩⟩
theorem GOwn.other {w w':World}{base:Nat}{v:Value}{rs:List IRow}(h:GOwn w base v rs){v2:Value}{B2 c2 n2:Nat}{e2:TypeId}{xs2:List Value}(h2:w.ownsRow B2 e2 c2 v2 n2 xs2)(h3:100≠e2)(h4:3≠e2)(hg:w.grownBy w' v2.ownBlock):GOwn w' base v rs:=⟨h.row.grown h2 h3 hg,fun r hr=>⟨(h.rows r hr).1.grown h2 h4 hg,(h.rows r hr).2⟩⟩
theorem GOwn.rd {w:World}{base:Nat}{v:Value}{rs:List IRow}(h:GOwn w base v rs): ∃ A cp,v= .slice A rs.length cp∧GRd w w.heap.size A rs.length cp rs:=by
 obtain⟨A,cp,hv,hr⟩:=OwnC.rrd (c:=cIR) (k:=1) (fun _=>rfl) (by decide) h.row
 refine⟨A,cp,hv,hr,fun r hr2=> ?_⟩
 obtain⟨h1,h2⟩:=h.rows r hr2
 obtain⟨A3,c3,h3,h4⟩:=OwnC.rrd (c:=cI) (k:=1) (fun _=>rfl) (by decide) h1
 rw[← h2]at h3 h4
 cases h3
 exact h4
theorem GOwn.snoc {w w':World}{base:Nat}{v v':Value}{rs:List IRow}{r:IRow}(h:GOwn w base v rs)(hr:OwnC cI 1 3 w base (.slice r.A r.n r.c) r.l)(hn:r.n=r.l.length)(hg:w.grownBy w' v.ownBlock)(ho:OwnC cIR 1 100 w' base v' (rs++ [r])):GOwn w' base v' (rs++ [r]):=by
 refine⟨ho,fun x hx=> ?_⟩
 rcases List.mem_append.1 hx with hx|hx
 · exact⟨(h.rows x hx).1.grown h.row (by decide) hg,(h.rows x hx).2⟩
 · rw[List.mem_singleton.1 hx]
   exact⟨hr.grown h.row (by decide) hg,hn⟩
def OfJ (T:TypeId)(G:Nat)(names:List (List UInt8))(rs:List IRow)(w W:World):Prop :=
 Below G w W∧G<W.heap.size∧ ∃ vN vT,W.heap[G]? =some (.cells #[vN,vT] T (0,0))∧OwnC cS1 1 9 W (G+1) vN names∧GOwn W (G+1) vT rs
theorem OfJ.kept {T:TypeId}{G:Nat}{names:List (List UInt8)}{rs:List IRow}{w W W':World}(h:OfJ T G names rs w W)(hb:Below W.heap.size W W'):OfJ T G names rs w W':=by
 obtain⟨h1,h2,vN,vT,h3,h4,h5⟩:=h
 exact⟨h1.trans (hb.mono (by omega)),Nat.lt_of_lt_of_le h2 hb.size,vN,vT,(hb.block _ h2).trans h3,h4.kept hb,h5.kept hb⟩
end Go.Proofs.YtbafljibbabnaaaGreatDoor
