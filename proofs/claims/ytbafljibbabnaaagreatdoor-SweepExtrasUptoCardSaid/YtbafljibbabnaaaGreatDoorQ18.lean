/- Texts of ours, joined: SzK, SzS, GsR, SzM. -/
import Derived.Test.YtbafljibbabnaaaGreatDoorQ17
namespace Go.Proofs.YtbafljibbabnaaaGreatDoor
open Go.ChangeShapes Go.WideShapes Go.ChangeAt Go.RowKit
set_option linter.unusedVariables false
set_option maxRecDepth 100000
set_option maxHeartbeats 32000000
theorem rfSizesZ_c (A:Option Addr)(n cap:Nat)(l:List EntT)(w:World)(h:RRd cE 6 w w.heap.size A n cap l)(hm:n≤100)(hx: ∀ x∈l,x.tx.length≤20000) :
 Calls Tryz.prog 22 #[.slice A n cap] w fun e w'=> ∃ (Z:Nat),e= .returned (.slice (some ⟨Z,0,none⟩) (innerE l).length (innerE l).length)∧(∀ z∈roundsG (sizeF (innerE l)) (0,0,0) (innerE l).length ((innerE l).length+1),z.1≤9223372036854775807∧z.2.1≤9223372036854775807∧z.2.2≤20000)∧RRd cZ 3 w' w'.heap.size (some ⟨Z,0,none⟩) (innerE l).length (innerE l).length (roundsG (sizeF (innerE l)) (0,0,0) (innerE l).length ((innerE l).length+1))∧Below w.heap.size w w':=by
 have CI:=Hd (rfInner_c A n cap l w h (by omega))
 have hil:=inner_len l []
 have hln:=h.len
 have hin:(innerE l).length≤100:=by
  have:(innerE l).length≤l.length:=by simpa [innerE] using hil
  omega
 have HXS:Hid (∀ x∈innerE l,x.tx.length≤20000):=Hd fun x hx2=>hx x ((inner_sub l [] x (fun _ h=>h) hx2).resolve_right (fun h=>by cases h))
 clear h hx hil hln
 generalize innerE l=g at *
 obtain⟨m,hm9⟩: ∃ m,g.length=m:=⟨_,rfl⟩
 have HM:=Hd hm9
 rw[hm9]at CI hin
 rw[hm9]
 clear hm9
 go_enter Tryz.func22,Tryz.ntmps22
 go_wp2_with fail
 refine CI.out.mono ?_
 rintro e w1 ⟨OA,oc,rfl,ho,hb1⟩
 rw[← HM.out]at ho
 obtain⟨A1,c1,hv1,hr1⟩:=OwnC.rrd (c:=cE) (k:=6) (fun _=>rfl) (by decide) ho
 cases hv1
 have KB:=Hd hb1
 have HP:Hid (∀ W,Below w1.heap.size w1 W→RRd cE 6 W W.heap.size OA g.length oc g):=Hd fun W hb=>(hr1.below hb).more hb.size
 rw[HM.out]at HP
 have mk:=mk_size w1 m (by omega)
 have HZ0:Hid (ZJ w1.heap.size (List.replicate m zeroZ) w1 (w1.alloc (.cells ((List.replicate m zeroZ).flatMap cZ).toArray 37))):=Hd ⟨(Below.refl _ _).alloc (Nat.le_refl _) _,hp_new _ _⟩
 clear CI ho hb1 hr1
 obtain⟨Z,hZ⟩: ∃ Z,w1.heap.size=Z:=⟨_,rfl⟩
 rw[hZ]at mk HZ0
 go_wp2_with fail
 clear mk
 generalize ((List.replicate m zeroZ).flatMap cZ).toArray=C0 at *
 go_loopg [5] (m+1) (fun gg nv wr=> ∃ (t:Nat) (zs:List (Nat × Nat × Nat)),nv= .int .i64 (t:Int)∧t≤m+1∧Hid (gg+t=m+1)∧Hid (zs=roundsG (sizeF g) (0,0,0) m t)∧Hid (∀ z∈zs,z.1≤9223372036854775807∧z.2.1≤9223372036854775807∧z.2.2≤t*100)∧Hid (ZJ Z zs w1 wr))
 case atStart=>exact⟨0,_,rfl,Nat.zero_le _,Hd rfl,Hd rfl,Hd (fun z hz=>by rw[show roundsG (sizeF g) (0,0,0) m 0=List.replicate m (0,0,0) from rfl,List.mem_replicate]at hz;rw[hz.2];exact⟨Nat.zero_le _,Nat.zero_le _,Nat.zero_le _⟩),HZ0⟩
 case round =>
  clear HZ0
  obtain⟨t,zs,rfl,ht,hg,HZM,HZB,HZ⟩:=hrel
  have ht0:(0:Int)≤(t:Int):=by omega
  have ht9:(t:Int)≤101:=by omega
  by_cases htm:t≤m
  · have hti:(t:Int)≤(m:Int):=by omega
    have I0:Hid (zs=rowsG (sizeF g) (0,0,0) (roundsG (sizeF g) (0,0,0) m t) 0):=HZM
    have I1:Hid (∀ z∈zs,z.1≤9223372036854775807∧z.2.1≤9223372036854775807∧z.2.2≤t*100+0):=HZB
    go_wp2_with fail
    go_loopg [6] (m) (fun gg nv wr=> ∃ (k:Nat) (zs:List (Nat × Nat × Nat)),nv= .int .i64 (k:Int)∧k≤m∧Hid (gg+k=m)∧Hid (zs=rowsG (sizeF g) (0,0,0) (roundsG (sizeF g) (0,0,0) m t) k)∧Hid (∀ z∈zs,z.1≤9223372036854775807∧z.2.1≤9223372036854775807∧z.2.2≤t*100+k)∧Hid (ZJ Z zs w1 wr))
    case atStart=>exact⟨0,zs,rfl,Nat.zero_le _,Hd rfl,I0,I1,HZ⟩
    case round =>
     clear I0 I1 HZ HZM HZB
     obtain⟨k,zs,rfl,hk,hgk,HZM,HZB,HZ⟩:=hrel
     have hk0:(0:Int)≤(k:Int):=by omega
     have hk9:(k:Int)≤100:=by omega
     by_cases hkm:k<m
     · have hki:(k:Int)<(m:Int):=by omega
       have hzl:zs.length=m:=by
        have:=congrArg List.length HZM.out
        rw[rowsG_len,roundsG_len]at this
        exact this
       have hbw:Below w1.heap.size w1 wr:=by rw[hZ];exact HZ.out.1
       obtain⟨b1,o1,x,rfl,hb1,hx,hc1⟩:=(HP.out wr hbw).cell hkm
       have hxl:=HXS.out x (List.mem_of_getElem? hx)
       have u1:wr.cell? ⟨b1,o1+k*6+1,none⟩=some (.string ⟨x.tx.toArray⟩):=by rw[show o1+k*6+1=o1+(k*6+1)by omega];exact hc1 1 _ rfl
       have CT:=Hd (rfTextZ_c (some ⟨b1,o1,none⟩) m oc g (some ⟨Z,0,none⟩) m zs (t*100+k) x.tx wr (HP.out wr hbw) (HZ.out.row hzl (by omega)) (by omega) HZB.out (by omega) hxl)
       have HROW:Hid (rowsG (sizeF g) (0,0,0) (roundsG (sizeF g) (0,0,0) m t) (k+1)=zs.set k (sizeT (lookE g (fun j=>zs.getD j (0,0,0))) x.tx)):=Hd (by rw[rowsG,← HZM.out];unfold sizeF;rw[hx];rfl)
       have hsb:=sizeT_le (lookE g (fun j=>zs.getD j (0,0,0))) x.tx
       have hsd:(sizeT (lookE g (fun j=>zs.getD j (0,0,0))) x.tx).2.2≤t*100+k+1:=sizeT_deep fun nm z hz=>by
        unfold lookE at hz
        split at hz
        · cases hz
          simp only[List.getD_eq_getElem?_getD]
          cases hq:zs[(g.map EntT.nm).idxOf nm]? with
          |none=>exact Nat.zero_le _
          |some z=>exact(HZB.out z (List.mem_of_getElem? hq)).2.2
        · cases hz
       have HZL:=Hd hzl
       generalize sizeT (lookE g (fun j=>zs.getD j (0,0,0))) x.tx=sz at *
       obtain⟨ct,L,Dd⟩:=sz
       simp only at hsb hsd CT
       have HSB:=Hd (And.intro hsb hsd)
       generalize x.tx=xt at *
       clear hb1 hx hc1 hbw hzl hsb hsd
       go_wp2_with fail
       refine CT.out.mono ?_
       rintro e w5 ⟨rfl,hb5⟩
       have HZ5:=Hd (HZ.out.kept hb5)
       obtain⟨za,zb,zc,y0,y1,y2⟩:=HZ5.out.cells (k:=k) (by rw[HZL.out];exact hkm)
       have q0:=free_of (k*3) HZ5.out.2
       have q1:=free_of (k*3+1) HZ5.out.2
       have q2:=free_of (k*3+2) HZ5.out.2
       have HZ6:=Hd (HZ5.out.put (k:=k) (by rw[HZL.out];exact hkm) ct L Dd)
       have HZM6:Hid (zs.set k (ct,L,Dd)=rowsG (sizeF g) (0,0,0) (roundsG (sizeF g) (0,0,0) m t) (k+1)):=Hd HROW.out.symm
       have HZB6:Hid (∀ z∈zs.set k (ct,L,Dd),z.1≤9223372036854775807∧z.2.1≤9223372036854775807∧z.2.2≤t*100+(k+1)):=Hd fun z hz=>by
        rcases List.mem_or_eq_of_mem_set hz with h9|h9
        · have:=HZB.out z h9;omega
        · subst h9;have:=HSB.out;simp only;omega
       clear CT hb5 HZ u1 HZ5
       go_wp2
       go_roundg (m - (k+1))
       case measure=>have:=hgk.out;omega
       case rel=>exact⟨k+1,_,by go_num,by omega,Hd (by have:=hgk.out;omega),HZM6,HZB6,HZ6⟩
     · have hki: ¬ (k:Int)<(m:Int):=by omega
       obtain rfl:k=m:=by omega
       have HZM6:Hid (zs=roundsG (sizeF g) (0,0,0) k (t+1)):=Hd (by rw[HZM.out,roundsG])
       have HZB6:Hid (∀ z∈zs,z.1≤9223372036854775807∧z.2.1≤9223372036854775807∧z.2.2≤(t+1)*100):=Hd fun z hz=>by have:=HZB.out z hz;omega
       go_wp2
       go_roundg (k+1 - (t+1))
       case measure=>have:=hg.out;omega
       case rel=>exact⟨t+1,zs,by go_num,by omega,Hd (by have:=hg.out;omega),HZM6,HZB6,HZ⟩
  · have hti: ¬ (t:Int)≤(m:Int):=by omega
    obtain rfl:t=m+1:=by omega
    have hzl:zs.length=m:=by
     have:=congrArg List.length HZM.out
     rw[roundsG_len]at this
     exact this
    have HZR:=Hd (HZ.out.row hzl (by omega))
    have HBW:Hid (Below w.heap.size w wr):=Hd (KB.out.trans (HZ.out.1.mono (by rw[← hZ];exact KB.out.size)))
    have HZB6:Hid (∀ z∈zs,z.1≤9223372036854775807∧z.2.1≤9223372036854775807∧z.2.2≤20000):=Hd fun z hz=>by have:=HZB.out z hz;omega
    clear hzl HZ
    have HZM9:=HZM.out
    clear HZM
    subst HZM9
    go_wp2
    go_ret
    exact⟨Z,rfl,(fun a b c h=>HZB6.out (a,b,c) h),HZR.out,HBW.out⟩
def aggZ (z:Nat × Nat × Nat):Value:= .agg #[.int .i64 (z.1:Nat),.int .i64 (z.2.1:Nat),.int .i64 (z.2.2:Nat)]
theorem deep0_c (c l d:Nat)(w:World):Calls Tryz.prog 40 #[.agg #[.int .i64 (c:Nat),.int .i64 (l:Nat),.int .i64 (d:Nat)],.int .i64 0] w fun e w'=>e= .returned (.agg #[.int .i64 (c:Nat),.int .i64 (l:Nat),.int .i64 (d:Nat)])∧Below w.heap.size w w':=by
 have hmx:max (d:Int) 0=(d:Int):=by omega
 have ka:=(Below.refl w.heap.size w).alloc (Nat.le_refl _) (.cells #[.int .i64 (c:Nat),.int .i64 (l:Nat),.int .i64 (d:Nat)] 34)
 have kb:=ka.alloc (by simp) (.cells #[.int .i64 (c:Nat),.int .i64 (l:Nat),.int .i64 (d:Nat)] 34)
 have h2:=hp_new (w.alloc (.cells #[.int .i64 (c:Nat),.int .i64 (l:Nat),.int .i64 (d:Nat)] 34)) (.cells #[.int .i64 (c:Nat),.int .i64 (l:Nat),.int .i64 (d:Nat)] 34)
 rw[show (w.alloc (.cells #[.int .i64 (c:Nat),.int .i64 (l:Nat),.int .i64 (d:Nat)] 34)).heap.size=w.heap.size+1 by simp]at h2
 have hi:(Tryz.prog.info? 34).map (·.size)=some 3:=by kernel_rfl
 obtain⟨dd,hu⟩:=isStruct_of (P:=Tryz.prog) (t:=34) (by kernel_rfl)
 have HU:=Hd (And.intro hi hu)
 have HB:=Hd kb
 have H2:=Hd h2
 clear ka kb h2 hi hu
 go_enter Tryz.func40,Tryz.ntmps40
 go_wp2_with fail
 exact bodyPost_ret (results_cell_row rfl _ _ (w.heap.size+1) _ _ _ _ rfl H2.out HU.out.2 rfl HU.out.1) rfl ⟨rfl,HB.out⟩
theorem sumB_c (c l d c2 l2 d2:Nat)(hc:c≤9223372036854775807)(hl:l≤9223372036854775807)(hc2:c2≤9223372036854775807)(hl2:l2≤9223372036854775807)(h0: ¬ c2=0)(w:World) :
 Calls Tryz.prog 17 #[.agg #[.int .i64 (c:Nat),.int .i64 (l:Nat),.int .i64 (d:Nat)],.agg #[.int .i64 (c2:Nat),.int .i64 (l2:Nat),.int .i64 (d2:Nat)]] w fun e w'=>e= .returned (.agg #[.int .i64 (satN (c+c2):Nat),.int .i64 (satN (l+l2):Nat),.int .i64 ((max d d2:Nat):Int)])∧Below w.heap.size w w':=by
 have CX:Hid (∀ W,Calls Tryz.prog 41 #[.int .i64 (c:Nat),.int .i64 (c2:Nat)] W fun e w'=>e= .returned (.int .i64 (satN (c+c2):Nat))∧W=w'):=Hd fun W=>satAdd_c c c2 hc hc2 W
 have CY:Hid (∀ W,Calls Tryz.prog 41 #[.int .i64 (l:Nat),.int .i64 (l2:Nat)] W fun e w'=>e= .returned (.int .i64 (satN (l+l2):Nat))∧W=w'):=Hd fun W=>satAdd_c l l2 hl hl2 W
 have hmx:max (d:Int) (d2:Int)=((max d d2:Nat):Int):=by omega
 go_enter Tryz.func17,Tryz.ntmps17
 go_wp2_with fail
 have WA:=hp_new w (.cells #[.int .i64 (c:Nat),.int .i64 (l:Nat),.int .i64 (d:Nat)] 34)
 have WB:=hp_new (w.alloc (.cells #[.int .i64 (c:Nat),.int .i64 (l:Nat),.int .i64 (d:Nat)] 34)) (.cells #[.int .i64 (c2:Nat),.int .i64 (l2:Nat),.int .i64 (d2:Nat)] 34)
 have WC:=hp_new ((w.alloc (.cells #[.int .i64 (c:Nat),.int .i64 (l:Nat),.int .i64 (d:Nat)] 34)).alloc (.cells #[.int .i64 (c2:Nat),.int .i64 (l2:Nat),.int .i64 (d2:Nat)] 34)) (.cells #[.int .i64 0,.int .i64 0,.int .i64 0] 34)
 have WA:=hp_old (o:= .cells #[.int .i64 0,.int .i64 0,.int .i64 0] 34) (hp_old (o:= .cells #[.int .i64 (c2:Nat),.int .i64 (l2:Nat),.int .i64 (d2:Nat)] 34) WA)
 have WB:=hp_old (o:= .cells #[.int .i64 0,.int .i64 0,.int .i64 0] 34) WB
 have BW:=(((Below.refl w.heap.size w).alloc (Nat.le_refl _) (.cells #[.int .i64 (c:Nat),.int .i64 (l:Nat),.int .i64 (d:Nat)] 34)).alloc (by simp) (.cells #[.int .i64 (c2:Nat),.int .i64 (l2:Nat),.int .i64 (d2:Nat)] 34)).alloc (by simp;omega) (.cells #[.int .i64 0,.int .i64 0,.int .i64 0] 34)
 rw[show (w.alloc (.cells #[.int .i64 (c:Nat),.int .i64 (l:Nat),.int .i64 (d:Nat)] 34)).heap.size=w.heap.size+1 by simp]at WB
 rw[show ((w.alloc (.cells #[.int .i64 (c:Nat),.int .i64 (l:Nat),.int .i64 (d:Nat)] 34)).alloc (.cells #[.int .i64 (c2:Nat),.int .i64 (l2:Nat),.int .i64 (d2:Nat)] 34)).heap.size=w.heap.size+1+1 by simp]at WC
 generalize ((w.alloc (.cells #[.int .i64 (c:Nat),.int .i64 (l:Nat),.int .i64 (d:Nat)] 34)).alloc (.cells #[.int .i64 (c2:Nat),.int .i64 (l2:Nat),.int .i64 (d2:Nat)] 34)).alloc (.cells #[.int .i64 0,.int .i64 0,.int .i64 0] 34)=W0 at *
 have WC2:=Hd (show W0.drew.heap[w.heap.size+1+1]? =_ from WC)
 have HB:=Hd (Below.drew BW)
 have a0:W0.drew.cell? ⟨w.heap.size,0,none⟩=some (.int .i64 (c:Nat)):=cell_of 0 (show W0.drew.heap[w.heap.size]? =_ from WA)
 have a1:W0.drew.cell? ⟨w.heap.size,1,none⟩=some (.int .i64 (l:Nat)):=cell_of 1 (show W0.drew.heap[w.heap.size]? =_ from WA)
 have a2:W0.drew.cell? ⟨w.heap.size,2,none⟩=some (.int .i64 (d:Nat)):=cell_of 2 (show W0.drew.heap[w.heap.size]? =_ from WA)
 have b0:W0.drew.cell? ⟨w.heap.size+1,0,none⟩=some (.int .i64 (c2:Nat)):=cell_of 0 (show W0.drew.heap[w.heap.size+1]? =_ from WB)
 have b1:W0.drew.cell? ⟨w.heap.size+1,1,none⟩=some (.int .i64 (l2:Nat)):=cell_of 1 (show W0.drew.heap[w.heap.size+1]? =_ from WB)
 have b2:W0.drew.cell? ⟨w.heap.size+1,2,none⟩=some (.int .i64 (d2:Nat)):=cell_of 2 (show W0.drew.heap[w.heap.size+1]? =_ from WB)
 clear WA WB WC BW
 refine wp_region_still_tail 16 (by kernel_rfl) (by kernel_rfl) ?_
 simp only[List.take_succ_cons,List.take_zero,List.drop_succ_cons,List.drop_zero]
 repeat still_step
 still_call ((CX.out _).mono fun e w' ⟨he,hw⟩=>⟨he,hw.symm⟩)
 repeat still_step
 still_call ((CY.out _).mono fun e w' ⟨he,hw⟩=>⟨he,hw.symm⟩)
 repeat still_step
 refine wpStill_nil ?_
 change wpList _ _ _ _ _ W0.drew
 have hi:(Tryz.prog.info? 34).map (·.size)=some 3:=by kernel_rfl
 obtain⟨dd,hu⟩:=isStruct_of (P:=Tryz.prog) (t:=34) (by kernel_rfl)
 have HU:=Hd (And.intro hi hu)
 have wc:=WC2.out
 have HQ4:Hid ((W0.drew.setRow (w.heap.size+1+1) #[.int .i64 (satN (c+c2):Nat),.int .i64 (satN (l+l2):Nat),.int .i64 ((max d d2:Nat):Int)]).heap[w.heap.size+1+1]? =some (.cells #[.int .i64 (satN (c+c2):Nat),.int .i64 (satN (l+l2):Nat),.int .i64 ((max d d2:Nat):Int)] 34 (0,0))):=Hd (setRow_heap _ _ _ _ _ _ wc)
 have HBF:Hid (Below w.heap.size w (W0.drew.setRow (w.heap.size+1+1) #[.int .i64 (satN (c+c2):Nat),.int .i64 (satN (l+l2):Nat),.int .i64 ((max d d2:Nat):Int)])):=Hd (by
  have hb9:=HB.out
  refine⟨hb9.os,hb9.tape,hb9.output,?_,fun k hk=> ?_⟩
  · have:=hb9.size
    simpa [World.setRow] using this
  · rw[setRow_other _ _ _ _ (by omega)]
    exact hb9.block k hk)
 clear hi hu a0 a1 a2 b0 b1 b2 HB
 generalize W0.drew=W1 at *
 go_wp2_with (first|(refine wpList_store_row rfl _ _ _ rfl (w.heap.size+1+1) #[.int .i64 (satN (c+c2):Nat),.int .i64 (satN (l+l2):Nat),.int .i64 ((max d d2:Nat):Int)] rfl rfl _ _ wc (by kernel_rfl) rfl (by kernel_rfl) ?_))
 (try simp only[Exit.inBlock,Exit.then])
 exact bodyPost_ret (results_cell_row rfl _ _ (w.heap.size+1+1) _ _ _ _ rfl HQ4.out HU.out.2 rfl HU.out.1) rfl ⟨rfl,HBF.out⟩
theorem sumC_c (c l d l2 d2:Nat)(hc:c≤9223372036854775807)(hl:l≤9223372036854775807)(hl2:l2≤9223372036854775807)(h0: ¬ l2=0)(w:World) :
 Calls Tryz.prog 17 #[.agg #[.int .i64 (c:Nat),.int .i64 (l:Nat),.int .i64 (d:Nat)],.agg #[.int .i64 0,.int .i64 (l2:Nat),.int .i64 (d2:Nat)]] w fun e w'=>e= .returned (.agg #[.int .i64 (c:Nat),.int .i64 (satN (l+l2):Nat),.int .i64 ((max d d2:Nat):Int)])∧Below w.heap.size w w':=by
 have CX:Hid (∀ W,Calls Tryz.prog 41 #[.int .i64 (c:Nat),.int .i64 0] W fun e w'=>e= .returned (.int .i64 (c:Nat))∧W=w'):=Hd fun W=>by have:=satAdd_c c 0 hc (by omega) W;rw[Nat.add_zero,satN_id hc]at this;exact this
 have CY:Hid (∀ W,Calls Tryz.prog 41 #[.int .i64 (l:Nat),.int .i64 (l2:Nat)] W fun e w'=>e= .returned (.int .i64 (satN (l+l2):Nat))∧W=w'):=Hd fun W=>satAdd_c l l2 hl hl2 W
 have hmx:max (d:Int) (d2:Int)=((max d d2:Nat):Int):=by omega
 go_enter Tryz.func17,Tryz.ntmps17
 go_wp2_with fail
 have WA:=hp_new w (.cells #[.int .i64 (c:Nat),.int .i64 (l:Nat),.int .i64 (d:Nat)] 34)
 have WB:=hp_new (w.alloc (.cells #[.int .i64 (c:Nat),.int .i64 (l:Nat),.int .i64 (d:Nat)] 34)) (.cells #[.int .i64 0,.int .i64 (l2:Nat),.int .i64 (d2:Nat)] 34)
 have WC:=hp_new ((w.alloc (.cells #[.int .i64 (c:Nat),.int .i64 (l:Nat),.int .i64 (d:Nat)] 34)).alloc (.cells #[.int .i64 0,.int .i64 (l2:Nat),.int .i64 (d2:Nat)] 34)) (.cells #[.int .i64 0,.int .i64 0,.int .i64 0] 34)
 have WA:=hp_old (o:= .cells #[.int .i64 0,.int .i64 0,.int .i64 0] 34) (hp_old (o:= .cells #[.int .i64 0,.int .i64 (l2:Nat),.int .i64 (d2:Nat)] 34) WA)
 have WB:=hp_old (o:= .cells #[.int .i64 0,.int .i64 0,.int .i64 0] 34) WB
 have BW:=(((Below.refl w.heap.size w).alloc (Nat.le_refl _) (.cells #[.int .i64 (c:Nat),.int .i64 (l:Nat),.int .i64 (d:Nat)] 34)).alloc (by simp) (.cells #[.int .i64 0,.int .i64 (l2:Nat),.int .i64 (d2:Nat)] 34)).alloc (by simp;omega) (.cells #[.int .i64 0,.int .i64 0,.int .i64 0] 34)
 rw[show (w.alloc (.cells #[.int .i64 (c:Nat),.int .i64 (l:Nat),.int .i64 (d:Nat)] 34)).heap.size=w.heap.size+1 by simp]at WB
 rw[show ((w.alloc (.cells #[.int .i64 (c:Nat),.int .i64 (l:Nat),.int .i64 (d:Nat)] 34)).alloc (.cells #[.int .i64 0,.int .i64 (l2:Nat),.int .i64 (d2:Nat)] 34)).heap.size=w.heap.size+1+1 by simp]at WC
 generalize ((w.alloc (.cells #[.int .i64 (c:Nat),.int .i64 (l:Nat),.int .i64 (d:Nat)] 34)).alloc (.cells #[.int .i64 0,.int .i64 (l2:Nat),.int .i64 (d2:Nat)] 34)).alloc (.cells #[.int .i64 0,.int .i64 0,.int .i64 0] 34)=W0 at *
 have WC2:=Hd (show W0.drew.heap[w.heap.size+1+1]? =_ from WC)
 have HB:=Hd (Below.drew BW)
 have a0:W0.drew.cell? ⟨w.heap.size,0,none⟩=some (.int .i64 (c:Nat)):=cell_of 0 (show W0.drew.heap[w.heap.size]? =_ from WA)
 have a1:W0.drew.cell? ⟨w.heap.size,1,none⟩=some (.int .i64 (l:Nat)):=cell_of 1 (show W0.drew.heap[w.heap.size]? =_ from WA)
 have a2:W0.drew.cell? ⟨w.heap.size,2,none⟩=some (.int .i64 (d:Nat)):=cell_of 2 (show W0.drew.heap[w.heap.size]? =_ from WA)
 have b0:W0.drew.cell? ⟨w.heap.size+1,0,none⟩=some (.int .i64 0):=cell_of 0 (show W0.drew.heap[w.heap.size+1]? =_ from WB)
 have b1:W0.drew.cell? ⟨w.heap.size+1,1,none⟩=some (.int .i64 (l2:Nat)):=cell_of 1 (show W0.drew.heap[w.heap.size+1]? =_ from WB)
 have b2:W0.drew.cell? ⟨w.heap.size+1,2,none⟩=some (.int .i64 (d2:Nat)):=cell_of 2 (show W0.drew.heap[w.heap.size+1]? =_ from WB)
 clear WA WB WC BW
 refine wp_region_still_tail 16 (by kernel_rfl) (by kernel_rfl) ?_
 simp only[List.take_succ_cons,List.take_zero,List.drop_succ_cons,List.drop_zero]
 repeat still_step
 still_call ((CX.out _).mono fun e w' ⟨he,hw⟩=>⟨he,hw.symm⟩)
 repeat still_step
 still_call ((CY.out _).mono fun e w' ⟨he,hw⟩=>⟨he,hw.symm⟩)
 repeat still_step
 refine wpStill_nil ?_
 change wpList _ _ _ _ _ W0.drew
 have hi:(Tryz.prog.info? 34).map (·.size)=some 3:=by kernel_rfl
 obtain⟨dd,hu⟩:=isStruct_of (P:=Tryz.prog) (t:=34) (by kernel_rfl)
 have HU:=Hd (And.intro hi hu)
 have wc:=WC2.out
 have HQ4:Hid ((W0.drew.setRow (w.heap.size+1+1) #[.int .i64 (c:Nat),.int .i64 (satN (l+l2):Nat),.int .i64 ((max d d2:Nat):Int)]).heap[w.heap.size+1+1]? =some (.cells #[.int .i64 (c:Nat),.int .i64 (satN (l+l2):Nat),.int .i64 ((max d d2:Nat):Int)] 34 (0,0))):=Hd (setRow_heap _ _ _ _ _ _ wc)
 have HBF:Hid (Below w.heap.size w (W0.drew.setRow (w.heap.size+1+1) #[.int .i64 (c:Nat),.int .i64 (satN (l+l2):Nat),.int .i64 ((max d d2:Nat):Int)])):=Hd (by
  have hb9:=HB.out
  refine⟨hb9.os,hb9.tape,hb9.output,?_,fun k hk=> ?_⟩
  · have:=hb9.size
    simpa [World.setRow] using this
  · rw[setRow_other _ _ _ _ (by omega)]
    exact hb9.block k hk)
 clear hi hu a0 a1 a2 b0 b1 b2 HB
 generalize W0.drew=W1 at *
 go_wp2_with (first|(refine wpList_store_row rfl _ _ _ rfl (w.heap.size+1+1) #[.int .i64 (c:Nat),.int .i64 (satN (l+l2):Nat),.int .i64 ((max d d2:Nat):Int)] rfl rfl _ _ wc (by kernel_rfl) rfl (by kernel_rfl) ?_))
 (try simp only[Exit.inBlock,Exit.then])
 exact bodyPost_ret (results_cell_row rfl _ _ (w.heap.size+1+1) _ _ _ _ rfl HQ4.out HU.out.2 rfl HU.out.1) rfl ⟨rfl,HBF.out⟩
theorem sumD_c (c l d d2:Nat)(hc:c≤9223372036854775807)(hl:l≤9223372036854775807)(h0: ¬ d2=0)(w:World) :
 Calls Tryz.prog 17 #[.agg #[.int .i64 (c:Nat),.int .i64 (l:Nat),.int .i64 (d:Nat)],.agg #[.int .i64 0,.int .i64 0,.int .i64 (d2:Nat)]] w fun e w'=>e= .returned (.agg #[.int .i64 (c:Nat),.int .i64 (l:Nat),.int .i64 ((max d d2:Nat):Int)])∧Below w.heap.size w w':=by
 have CX:Hid (∀ W,Calls Tryz.prog 41 #[.int .i64 (c:Nat),.int .i64 0] W fun e w'=>e= .returned (.int .i64 (c:Nat))∧W=w'):=Hd fun W=>by have:=satAdd_c c 0 hc (by omega) W;rw[Nat.add_zero,satN_id hc]at this;exact this
 have CY:Hid (∀ W,Calls Tryz.prog 41 #[.int .i64 (l:Nat),.int .i64 0] W fun e w'=>e= .returned (.int .i64 (l:Nat))∧W=w'):=Hd fun W=>by have:=satAdd_c l 0 hl (by omega) W;rw[Nat.add_zero,satN_id hl]at this;exact this
 have hmx:max (d:Int) (d2:Int)=((max d d2:Nat):Int):=by omega
 go_enter Tryz.func17,Tryz.ntmps17
 go_wp2_with fail
 have WA:=hp_new w (.cells #[.int .i64 (c:Nat),.int .i64 (l:Nat),.int .i64 (d:Nat)] 34)
 have WB:=hp_new (w.alloc (.cells #[.int .i64 (c:Nat),.int .i64 (l:Nat),.int .i64 (d:Nat)] 34)) (.cells #[.int .i64 0,.int .i64 0,.int .i64 (d2:Nat)] 34)
 have WC:=hp_new ((w.alloc (.cells #[.int .i64 (c:Nat),.int .i64 (l:Nat),.int .i64 (d:Nat)] 34)).alloc (.cells #[.int .i64 0,.int .i64 0,.int .i64 (d2:Nat)] 34)) (.cells #[.int .i64 0,.int .i64 0,.int .i64 0] 34)
 have WA:=hp_old (o:= .cells #[.int .i64 0,.int .i64 0,.int .i64 0] 34) (hp_old (o:= .cells #[.int .i64 0,.int .i64 0,.int .i64 (d2:Nat)] 34) WA)
 have WB:=hp_old (o:= .cells #[.int .i64 0,.int .i64 0,.int .i64 0] 34) WB
 have BW:=(((Below.refl w.heap.size w).alloc (Nat.le_refl _) (.cells #[.int .i64 (c:Nat),.int .i64 (l:Nat),.int .i64 (d:Nat)] 34)).alloc (by simp) (.cells #[.int .i64 0,.int .i64 0,.int .i64 (d2:Nat)] 34)).alloc (by simp;omega) (.cells #[.int .i64 0,.int .i64 0,.int .i64 0] 34)
 rw[show (w.alloc (.cells #[.int .i64 (c:Nat),.int .i64 (l:Nat),.int .i64 (d:Nat)] 34)).heap.size=w.heap.size+1 by simp]at WB
 rw[show ((w.alloc (.cells #[.int .i64 (c:Nat),.int .i64 (l:Nat),.int .i64 (d:Nat)] 34)).alloc (.cells #[.int .i64 0,.int .i64 0,.int .i64 (d2:Nat)] 34)).heap.size=w.heap.size+1+1 by simp]at WC
 generalize ((w.alloc (.cells #[.int .i64 (c:Nat),.int .i64 (l:Nat),.int .i64 (d:Nat)] 34)).alloc (.cells #[.int .i64 0,.int .i64 0,.int .i64 (d2:Nat)] 34)).alloc (.cells #[.int .i64 0,.int .i64 0,.int .i64 0] 34)=W0 at *
 have WC2:=Hd (show W0.drew.heap[w.heap.size+1+1]? =_ from WC)
 have HB:=Hd (Below.drew BW)
 have a0:W0.drew.cell? ⟨w.heap.size,0,none⟩=some (.int .i64 (c:Nat)):=cell_of 0 (show W0.drew.heap[w.heap.size]? =_ from WA)
 have a1:W0.drew.cell? ⟨w.heap.size,1,none⟩=some (.int .i64 (l:Nat)):=cell_of 1 (show W0.drew.heap[w.heap.size]? =_ from WA)
 have a2:W0.drew.cell? ⟨w.heap.size,2,none⟩=some (.int .i64 (d:Nat)):=cell_of 2 (show W0.drew.heap[w.heap.size]? =_ from WA)
 have b0:W0.drew.cell? ⟨w.heap.size+1,0,none⟩=some (.int .i64 0):=cell_of 0 (show W0.drew.heap[w.heap.size+1]? =_ from WB)
 have b1:W0.drew.cell? ⟨w.heap.size+1,1,none⟩=some (.int .i64 0):=cell_of 1 (show W0.drew.heap[w.heap.size+1]? =_ from WB)
 have b2:W0.drew.cell? ⟨w.heap.size+1,2,none⟩=some (.int .i64 (d2:Nat)):=cell_of 2 (show W0.drew.heap[w.heap.size+1]? =_ from WB)
 clear WA WB WC BW
 refine wp_region_still_tail 16 (by kernel_rfl) (by kernel_rfl) ?_
 simp only[List.take_succ_cons,List.take_zero,List.drop_succ_cons,List.drop_zero]
 repeat still_step
 still_call ((CX.out _).mono fun e w' ⟨he,hw⟩=>⟨he,hw.symm⟩)
 repeat still_step
 still_call ((CY.out _).mono fun e w' ⟨he,hw⟩=>⟨he,hw.symm⟩)
 repeat still_step
 refine wpStill_nil ?_
 change wpList _ _ _ _ _ W0.drew
 have hi:(Tryz.prog.info? 34).map (·.size)=some 3:=by kernel_rfl
 obtain⟨dd,hu⟩:=isStruct_of (P:=Tryz.prog) (t:=34) (by kernel_rfl)
 have HU:=Hd (And.intro hi hu)
 have wc:=WC2.out
 have HQ4:Hid ((W0.drew.setRow (w.heap.size+1+1) #[.int .i64 (c:Nat),.int .i64 (l:Nat),.int .i64 ((max d d2:Nat):Int)]).heap[w.heap.size+1+1]? =some (.cells #[.int .i64 (c:Nat),.int .i64 (l:Nat),.int .i64 ((max d d2:Nat):Int)] 34 (0,0))):=Hd (setRow_heap _ _ _ _ _ _ wc)
 have HBF:Hid (Below w.heap.size w (W0.drew.setRow (w.heap.size+1+1) #[.int .i64 (c:Nat),.int .i64 (l:Nat),.int .i64 ((max d d2:Nat):Int)])):=Hd (by
  have hb9:=HB.out
  refine⟨hb9.os,hb9.tape,hb9.output,?_,fun k hk=> ?_⟩
  · have:=hb9.size
    simpa [World.setRow] using this
  · rw[setRow_other _ _ _ _ (by omega)]
    exact hb9.block k hk)
 clear hi hu a0 a1 a2 b0 b1 b2 HB
 generalize W0.drew=W1 at *
 go_wp2_with (first|(refine wpList_store_row rfl _ _ _ rfl (w.heap.size+1+1) #[.int .i64 (c:Nat),.int .i64 (l:Nat),.int .i64 ((max d d2:Nat):Int)] rfl rfl _ _ wc (by kernel_rfl) rfl (by kernel_rfl) ?_))
 (try simp only[Exit.inBlock,Exit.then])
 exact bodyPost_ret (results_cell_row rfl _ _ (w.heap.size+1+1) _ _ _ _ rfl HQ4.out HU.out.2 rfl HU.out.1) rfl ⟨rfl,HBF.out⟩
theorem sumA_c (c l d:Nat)(w:World) :
 Calls Tryz.prog 17 #[.agg #[.int .i64 (c:Nat),.int .i64 (l:Nat),.int .i64 (d:Nat)],.agg #[.int .i64 0,.int .i64 0,.int .i64 0]] w fun e w'=>e= .returned (.agg #[.int .i64 (c:Nat),.int .i64 (l:Nat),.int .i64 (d:Nat)])∧Below w.heap.size w w':=by
 have CX:Hid (∀ W,Calls Tryz.prog 39 #[.int .i64 (c:Nat)] W fun e w'=>e= .returned (.int .i64 (c:Nat))∧W=w'):=Hd fun W=>hold_c c W
 have CY:Hid (∀ W,Calls Tryz.prog 39 #[.int .i64 (l:Nat)] W fun e w'=>e= .returned (.int .i64 (l:Nat))∧W=w'):=Hd fun W=>hold_c l W
 go_enter Tryz.func17,Tryz.ntmps17
 go_wp2_with fail
 have WA:=hp_new w (.cells #[.int .i64 (c:Nat),.int .i64 (l:Nat),.int .i64 (d:Nat)] 34)
 have WB:=hp_new (w.alloc (.cells #[.int .i64 (c:Nat),.int .i64 (l:Nat),.int .i64 (d:Nat)] 34)) (.cells #[.int .i64 0,.int .i64 0,.int .i64 0] 34)
 have WC:=hp_new ((w.alloc (.cells #[.int .i64 (c:Nat),.int .i64 (l:Nat),.int .i64 (d:Nat)] 34)).alloc (.cells #[.int .i64 0,.int .i64 0,.int .i64 0] 34)) (.cells #[.int .i64 0,.int .i64 0,.int .i64 0] 34)
 have WA:=hp_old (o:= .cells #[.int .i64 0,.int .i64 0,.int .i64 0] 34) (hp_old (o:= .cells #[.int .i64 0,.int .i64 0,.int .i64 0] 34) WA)
 have WB:=hp_old (o:= .cells #[.int .i64 0,.int .i64 0,.int .i64 0] 34) WB
 have BW:=(((Below.refl w.heap.size w).alloc (Nat.le_refl _) (.cells #[.int .i64 (c:Nat),.int .i64 (l:Nat),.int .i64 (d:Nat)] 34)).alloc (by simp) (.cells #[.int .i64 0,.int .i64 0,.int .i64 0] 34)).alloc (by simp;omega) (.cells #[.int .i64 0,.int .i64 0,.int .i64 0] 34)
 rw[show (w.alloc (.cells #[.int .i64 (c:Nat),.int .i64 (l:Nat),.int .i64 (d:Nat)] 34)).heap.size=w.heap.size+1 by simp]at WB
 rw[show ((w.alloc (.cells #[.int .i64 (c:Nat),.int .i64 (l:Nat),.int .i64 (d:Nat)] 34)).alloc (.cells #[.int .i64 0,.int .i64 0,.int .i64 0] 34)).heap.size=w.heap.size+1+1 by simp]at WC
 generalize ((w.alloc (.cells #[.int .i64 (c:Nat),.int .i64 (l:Nat),.int .i64 (d:Nat)] 34)).alloc (.cells #[.int .i64 0,.int .i64 0,.int .i64 0] 34)).alloc (.cells #[.int .i64 0,.int .i64 0,.int .i64 0] 34)=W0 at *
 have WC2:=Hd (show W0.drew.heap[w.heap.size+1+1]? =_ from WC)
 have HB:=Hd (Below.drew BW)
 have a0:W0.drew.cell? ⟨w.heap.size,0,none⟩=some (.int .i64 (c:Nat)):=cell_of 0 (show W0.drew.heap[w.heap.size]? =_ from WA)
 have a1:W0.drew.cell? ⟨w.heap.size,1,none⟩=some (.int .i64 (l:Nat)):=cell_of 1 (show W0.drew.heap[w.heap.size]? =_ from WA)
 have a2:W0.drew.cell? ⟨w.heap.size,2,none⟩=some (.int .i64 (d:Nat)):=cell_of 2 (show W0.drew.heap[w.heap.size]? =_ from WA)
 clear WA WB WC BW
 refine wp_region_still_tail 9 (by kernel_rfl) (by kernel_rfl) ?_
 simp only[List.take_succ_cons,List.take_zero,List.drop_succ_cons,List.drop_zero]
 repeat still_step
 still_call ((CX.out _).mono fun e w' ⟨he,hw⟩=>⟨he,hw.symm⟩)
 repeat still_step
 still_call ((CY.out _).mono fun e w' ⟨he,hw⟩=>⟨he,hw.symm⟩)
 repeat still_step
 refine wpStill_nil ?_
 change wpList _ _ _ _ _ W0.drew
 clear a0 a1 a2
 generalize W0.drew=W2 at *
 go_wp2_with fail
 refine(deep0_c c l d W2).mono ?_
 rintro e W1 ⟨rfl,hb9⟩
 have hi:(Tryz.prog.info? 34).map (·.size)=some 3:=by kernel_rfl
 obtain⟨dd,hu⟩:=isStruct_of (P:=Tryz.prog) (t:=34) (by kernel_rfl)
 have HU:=Hd (And.intro hi hu)
 have WC3:=Hd ((hb9.block _ (lt_of WC2.out)).trans WC2.out)
 have HB3:=Hd (HB.out.trans (hb9.mono HB.out.size))
 clear WC2 HB hb9
 have wc:=WC3.out
 have HQ4:Hid ((W1.setRow (w.heap.size+1+1) #[.int .i64 (c:Nat),.int .i64 (l:Nat),.int .i64 (d:Nat)]).heap[w.heap.size+1+1]? =some (.cells #[.int .i64 (c:Nat),.int .i64 (l:Nat),.int .i64 (d:Nat)] 34 (0,0))):=Hd (setRow_heap _ _ _ _ _ _ wc)
 have HBF:Hid (Below w.heap.size w (W1.setRow (w.heap.size+1+1) #[.int .i64 (c:Nat),.int .i64 (l:Nat),.int .i64 (d:Nat)])):=Hd (by
  have hb9:=HB3.out
  refine⟨hb9.os,hb9.tape,hb9.output,?_,fun k hk=> ?_⟩
  · have:=hb9.size
    simpa [World.setRow] using this
  · rw[setRow_other _ _ _ _ (by omega)]
    exact hb9.block k hk)
 clear hi hu HB3
 go_wp2_with (first|(refine wpList_store_row rfl _ _ _ rfl (w.heap.size+1+1) #[.int .i64 (c:Nat),.int .i64 (l:Nat),.int .i64 (d:Nat)] rfl rfl _ _ wc (by kernel_rfl) rfl (by kernel_rfl) ?_))
 (try simp only[Exit.inBlock,Exit.then])
 exact bodyPost_ret (results_cell_row rfl _ _ (w.heap.size+1+1) _ _ _ _ rfl HQ4.out HU.out.2 rfl HU.out.1) rfl ⟨rfl,HBF.out⟩
theorem sumZ_c (x y:Nat × Nat × Nat)(hx:x.1≤9223372036854775807∧x.2.1≤9223372036854775807)(hy:y.1≤9223372036854775807∧y.2.1≤9223372036854775807)(w:World) :
 Calls Tryz.prog 17 #[aggZ x,aggZ y] w fun e w'=>e= .returned (aggZ (sumZ x y))∧Below w.heap.size w w':=by
 obtain⟨c,l,d⟩:=x
 obtain⟨c2,l2,d2⟩:=y
 simp only at hx hy
 unfold aggZ sumZ
 simp only
 by_cases h1:c2=0
 · by_cases h2:l2=0
   · by_cases h3:d2=0
     · subst h1 h2 h3
       have:=sumA_c c l d w
       rw[Nat.add_zero,Nat.add_zero,Nat.max_zero,satN_id hx.1,satN_id hx.2]
       exact this
     · subst h1 h2
       have:=sumD_c c l d d2 hx.1 hx.2 h3 w
       rw[Nat.add_zero,Nat.add_zero,satN_id hx.1,satN_id hx.2]
       exact this
   · subst h1
     have:=sumC_c c l d l2 d2 hx.1 hx.2 hy.2 h2 w
     rw[Nat.add_zero,satN_id hx.1]
     exact this
 · exact sumB_c c l d c2 l2 d2 hx.1 hx.2 hy.1 hy.2 h1 w
def heldElem (v:Value):Option (DataW Value × List MemPlace):=some (.held v,[])
def entV (x:EntT):Value:= .agg (cE x).toArray
def noE:EntT:=⟨[],[],false,[],[],[]⟩
def EnI (w:World)(b:Nat)(acc:List EntT):Prop:= ∃ D:DataW Value,w.ownsMap Tryz.prog 9 heldElem b acc.length D∧(∀ s:List UInt8,Go.Maps.has D (.string s)=(fndE acc s).isSome)∧ ∀ (s:List UInt8),D.atKey (.string s) (.held (entV noE))= .held (entV ((fndE acc s).getD noE))
theorem EnI.start (w:World):EnI (w.alloc (.map #[] 0)) w.heap.size []:=⟨.map [],World.ownsMap_made _ _ _ _,fun s=>rfl,fun s=>rfl⟩
theorem fndE_snoc (acc:List EntT)(x:EntT)(s:List UInt8):fndE (acc++ [x]) s=(fndE acc s).or (if x.nm=s then some x else none):=by
 unfold fndE
 rw[List.find?_append]
 congr 1
 by_cases h:x.nm=s <;> simp[h]
theorem fndE_old {acc:List EntT}{x:EntT}(hx:(fndE acc x.nm).isSome=true)(s:List UInt8):fndE (acc++ [x]) s=fndE acc s:=by
 rw[fndE_snoc]
 by_cases e:x.nm=s
 · subst e
   cases h:fndE acc x.nm with
   |none=>rw [h]at hx;cases hx
   |some y=>rfl
 · rw[if_neg e];simp
theorem EnI.same {w:World}{b:Nat}{acc:List EntT}{x:EntT}(h:EnI w b acc)(hx:(fndE acc x.nm).isSome=true):EnI w b (acc++ [x]):=by
 obtain⟨D,h1,h2,h3⟩:=h
 refine⟨D,h1.mono (by simp),fun s=>by rw[fndE_old hx];exact h2 s,fun s=>by rw[fndE_old hx];exact h3 s⟩
theorem EnI.kept {w w':World}{b:Nat}{acc:List EntT}(h:EnI w b acc)(hb:w'.heap[b]? =w.heap[b]?):EnI w' b acc:=by
 obtain⟨D,h1,h2,h3⟩:=h
 obtain⟨es,clock,hq,r⟩:=h1
 exact⟨D,⟨es,clock,hb.trans hq,r⟩,h2,h3⟩
theorem EnI.lt {w:World}{b:Nat}{acc:List EntT}(h:EnI w b acc):b<w.heap.size:=by
 obtain⟨D,h1,_⟩:=h
 exact h1.lt
theorem zeroSz (w:World):(zeroValue 34).run Tryz.prog w= .ok (aggZ (0,0,0)) w:=by kernel_rfl
def LkI (w:World)(b:Nat)(n:Nat)(look:List UInt8→Option (Nat × Nat × Nat)):Prop:= ∃ D:DataW Value,w.ownsMap Tryz.prog 9 heldElem b n D∧(∀ s:List UInt8,Go.Maps.has D (.string s)=(look s).isSome)∧ ∀ s:List UInt8,D.atKey (.string s) (.held (aggZ (0,0,0)))= .held (aggZ ((look s).getD (0,0,0)))
theorem LkI.start (w:World):LkI (w.alloc (.map #[] 0)) w.heap.size 0 (fun _=>none):=⟨.map [],World.ownsMap_made _ _ _ _,fun s=>rfl,fun s=>rfl⟩
def putL (look:List UInt8→Option (Nat × Nat × Nat))(nm:List UInt8)(z:Nat × Nat × Nat)(s:List UInt8):Option (Nat × Nat × Nat):=if s=nm then some z else look s
theorem lkI_put {D:DataW Value}{look:List UInt8→Option (Nat × Nat × Nat)}{nm:List UInt8}{z:Nat × Nat × Nat}(hi:Go.Maps.IsMap D)(hh: ∀ s:List UInt8,Go.Maps.has D (.string s)=(look s).isSome)(ha: ∀ s:List UInt8,D.atKey (.string s) (.held (aggZ (0,0,0)))= .held (aggZ ((look s).getD (0,0,0)))) :
 (∀ s:List UInt8,Go.Maps.has (D.put (.string nm) (.held (aggZ z))) (.string s)=(putL look nm z s).isSome)∧ ∀ s:List UInt8,(D.put (.string nm) (.held (aggZ z))).atKey (.string s) (.held (aggZ (0,0,0)))= .held (aggZ ((putL look nm z s).getD (0,0,0))):=by
 refine⟨fun s=> ?_,fun s=> ?_⟩
 · unfold putL
   by_cases e:s=nm
   · subst e
     rw[Go.Maps.has_put_same hi (by simp[WideAt.IsKeyLit]),if_pos rfl]
     rfl
   · rw[Go.Maps.has_put_other (by simpa using e),hh,if_neg e]
 · unfold putL
   by_cases e:s=nm
   · subst e
     rw[Go.Maps.atKey_put_same hi (by simp[WideAt.IsKeyLit]),if_pos rfl]
     rfl
   · rw[Go.Maps.atKey_put_other (by simpa using e),ha,if_neg e]
theorem LkI.kept {w w':World}{b n:Nat}{look:List UInt8→Option (Nat × Nat × Nat)}(h:LkI w b n look)(hb:w'.heap[b]? =w.heap[b]?):LkI w' b n look:=by
 obtain⟨D,h1,h2,h3⟩:=h
 obtain⟨es,clock,hq,r⟩:=h1
 exact⟨D,⟨es,clock,hb.trans hq,r⟩,h2,h3⟩
theorem LkI.lt {w:World}{b n:Nat}{look:List UInt8→Option (Nat × Nat × Nat)}(h:LkI w b n look):b<w.heap.size:=by
 obtain⟨D,h1,_⟩:=h
 exact h1.lt
theorem LkI.look {w:World}{b n:Nat}{f g:List UInt8→Option (Nat × Nat × Nat)}(h:LkI w b n f)(e: ∀ s,f s=g s):LkI w b n g:=by
 rw[← funext e]
 exact h
theorem wpList_lookup_sz {w:World}{ops:Array Oper}{rest:List Oper}{o:Oper}{a:Act}{Q:Exit→Act→World→Prop}
 (hg:o.guard=none) (m x:Operand) (hop:o.op=Op.lookup 56 m x true) (M n:Nat) (look:List UInt8→Option (Nat × Nat × Nat)) (hm:a.eval m= .map (some M)) (h:LkI w M n look) (s:List UInt8) (hx:a.eval x= .string ⟨s.toArray⟩) (hs:s.length≤9000000000000000000)
 (y:Nat × Nat × Nat) (b:Bool) (hy:(look s).getD (0,0,0)=y) (hb:(look s).isSome=b)
 (hK:wpList Tryz.prog ops Q rest (a.put o.dst (.tuple #[.agg #[.int .i64 (y.1:Nat),.int .i64 (y.2.1:Nat),.int .i64 (y.2.2:Nat)],.bool b])) w) :
 wpList Tryz.prog ops Q (o :: rest) a w:=by
 obtain⟨D,h1,h2,h3⟩:=h
 refine wpList_lookup_own_ok w hg m x 56 hop 9 34 lawSg Tryz.underlying56 heldElem (zeroSz w) (.held (aggZ (0,0,0))) [] rfl M n D hm h1 _ _ hx (keySg hs) (fun v ps hv=> ?_)
 rw[h3,hy]at hv
 unfold heldElem at hv
 simp only[Option.some.injEq,Prod.mk.injEq,DataW.held.injEq]at hv
 rw[hv.1,h2,hb]
 exact hK
theorem run_lookup_sz {w:World}{M n:Nat}{look:List UInt8→Option (Nat × Nat × Nat)}(h:LkI w M n look)(s:List UInt8)(hs:s.length≤9000000000000000000)(y:Nat × Nat × Nat)(b:Bool)(hy:(look s).getD (0,0,0)=y)(hb:(look s).isSome=b) :
 (Instr.lookup 56 (.map (some M)) (.string ⟨s.toArray⟩) true).run Tryz.prog w= .ok (.tuple #[.agg #[.int .i64 (y.1:Nat),.int .i64 (y.2.1:Nat),.int .i64 (y.2.2:Nat)],.bool b]) w:=by
 obtain⟨D,h1,h2,h3⟩:=h
 obtain⟨v,ps,hrun,hv⟩:=h1.look_ok lawSg Tryz.underlying56 (zeroSz w) (zd:= .held (aggZ (0,0,0))) (zp:= []) rfl (keySg hs)
 rw[h3,hy]at hv
 unfold heldElem at hv
 simp only[Option.some.injEq,Prod.mk.injEq,DataW.held.injEq]at hv
 rw[hrun,hv.1,h2,hb]
 rfl
end Go.Proofs.YtbafljibbabnaaaGreatDoor
