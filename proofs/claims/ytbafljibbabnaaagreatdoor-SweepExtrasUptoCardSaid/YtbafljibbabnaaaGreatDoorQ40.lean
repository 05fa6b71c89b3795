/- Texts of ours, joined: Tok4c, Tok4d, Tok6. -/
import Derived.Test.YtbafljibbabnaaaGreatDoorQ39
namespace Go.Proofs.YtbafljibbabnaaaGreatDoor
open Go.ChangeShapes Go.WideShapes Go.ChangeAt Go.RowKit
set_option linter.unusedVariables false
set_option maxRecDepth 100000
set_option maxHeartbeats 32000000
theorem txt_in: ∀ (s:List UInt8) (j:Nat),j<(txt s).length→ ∀ c,s[j]? =some c→c≠60∧c≠38
 | [],j,h,c,hc=>by simp at hc
 |a :: s,j,h,c,hc=>by
  cases ha:inTx a with
  |false=>rw [txt_stop ha]at h;cases h
  |true =>
   rw[txt_cons ha]at h
   cases j with
   |zero =>
    simp at hc
    subst hc
    unfold inTx at ha
    simpa using ha
   |succ j=>exact txt_in s j (by simpa using h) c (by simpa using hc)
theorem txt_end: ∀ (s:List UInt8) c,s[(txt s).length]? =some c→c=60∨c=38
 | [],c,hc=>by simp at hc
 |a :: s,c,hc=>by
  cases ha:inTx a with
  |false =>
   rw[txt_stop ha]at hc
   simp at hc
   subst hc
   unfold inTx at ha
   rw[Bool.not_eq_false']at ha
   simpa using ha
  |true =>
   rw[txt_cons ha]at hc
   exact txt_end s c (by simpa using hc)
theorem contains_findI (s p:List UInt8):Lib.contains s p=decide (0≤findI s 0 p):=by
 unfold findI Lib.contains
 rw[List.drop_zero]
 by_cases h:Lib.index s p<0
 · rw[if_pos h,decide_eq_false (by omega)]
   rfl
 · rw[if_neg h,decide_eq_true (by omega),decide_eq_true (by omega)]
theorem refNext_text (A:Option Addr)(n cap:Nat)(l:List UInt8)(k:Nat)(w:World)(h:Byt w w.heap.size A n cap l)(hm:n≤40000)(hk:k<n)(h0: [60,33,45,45].isPrefixOf (l.drop k)=false)(h1: [60,33,91,67,68,65,84,65,91].isPrefixOf (l.drop k)=false)(h2: [60,63].isPrefixOf (l.drop k)=false)(h3: [60,47].isPrefixOf (l.drop k)=false)(h4: [60].isPrefixOf (l.drop k)=false)(h5: [38,35].isPrefixOf (l.drop k)=false)(h6: [38].isPrefixOf (l.drop k)=false) :
 Calls Tryz.prog 13 #[.slice A n cap,.int .i64 (k:Int)] w fun e w'=>TokPost (nextOut l k) w e w':=by
 have hln:=h.length
 have HK:Hid (∀ W rs vs,RN w W rs vs→Byt W W.heap.size A n cap l):=Hd fun W rs vs hJ=>(h.below hJ.below).more hJ.below.size
 obtain⟨bb,oo,c,hA,hbB,hc,_⟩:=h.cell hk
 have HC:Hid (∀ W rs vs,RN w W rs vs→W.cell? ⟨bb,oo+k,none⟩=some (.int .u8 c.toNat)):=Hd fun W rs vs hJ=>by
  obtain⟨b2,o2,c2,e2,_,hc2,hz⟩:=(h.below hJ.below).cell hk
  rw[hA]at e2
  cases e2
  rw[hc]at hc2
  cases hc2
  exact hz
 have c0:(0:Int)≤(c.toNat:Int):=by omega
 have c9:(c.toNat:Int)≤255:=by have:=c.toNat_lt;omega
 have S0:Hid (∀ W rs vs,RN w W rs vs→Calls Tryz.prog 28 #[.slice A n cap,.int .i64 (k:Int),.string ⟨#[60,33,45,45]⟩] W fun e w'=>e= .returned (.bool false)∧W=w'):=Hd fun W rs vs hJ=>by
  have:=refAt8_c A n cap l k [60,33,45,45] W.heap.size W (HK.out W rs vs hJ) (by simp) (by omega) (by decide) (by omega)
  rwa [h0]at this
 have S1:Hid (∀ W rs vs,RN w W rs vs→Calls Tryz.prog 28 #[.slice A n cap,.int .i64 (k:Int),.string ⟨#[60,33,91,67,68,65,84,65,91]⟩] W fun e w'=>e= .returned (.bool false)∧W=w'):=Hd fun W rs vs hJ=>by
  have:=refAt8_c A n cap l k [60,33,91,67,68,65,84,65,91] W.heap.size W (HK.out W rs vs hJ) (by simp) (by omega) (by decide) (by omega)
  rwa [h1]at this
 have S2:Hid (∀ W rs vs,RN w W rs vs→Calls Tryz.prog 28 #[.slice A n cap,.int .i64 (k:Int),.string ⟨#[60,63]⟩] W fun e w'=>e= .returned (.bool false)∧W=w'):=Hd fun W rs vs hJ=>by
  have:=refAt8_c A n cap l k [60,63] W.heap.size W (HK.out W rs vs hJ) (by simp) (by omega) (by decide) (by omega)
  rwa [h2]at this
 have S3:Hid (∀ W rs vs,RN w W rs vs→Calls Tryz.prog 28 #[.slice A n cap,.int .i64 (k:Int),.string ⟨#[60,47]⟩] W fun e w'=>e= .returned (.bool false)∧W=w'):=Hd fun W rs vs hJ=>by
  have:=refAt8_c A n cap l k [60,47] W.heap.size W (HK.out W rs vs hJ) (by simp) (by omega) (by decide) (by omega)
  rwa [h3]at this
 have b60:((c.toNat:Int)==60)=false:=by
  rw[pre_one,hc]at h4
  have:c≠60:=by simpa using h4
  have h':c.toNat≠60:=fun e=>this (UInt8.toNat_inj.1 e)
  simp;omega
 have S5:Hid (∀ W rs vs,RN w W rs vs→Calls Tryz.prog 28 #[.slice A n cap,.int .i64 (k:Int),.string ⟨#[38,35]⟩] W fun e w'=>e= .returned (.bool false)∧W=w'):=Hd fun W rs vs hJ=>by
  have:=refAt8_c A n cap l k [38,35] W.heap.size W (HK.out W rs vs hJ) (by simp) (by omega) (by decide) (by omega)
  rwa [h5]at this
 have b38:((c.toNat:Int)==38)=false:=by
  rw[pre_one,hc]at h6
  have:c≠38:=by simpa using h6
  have h':c.toNat≠38:=fun e=>this (UInt8.toNat_inj.1 e)
  simp;omega
 have J0:=Hd (RN.start k w)
 have hi:(Tryz.prog.info? 50).map (·.size)=some 7:=by kernel_rfl
 obtain⟨sd,hu⟩:=isStruct_of (P:=Tryz.prog) (t:=50) (by kernel_rfl)
 have HU:=Hd (And.intro hi hu)
 have hk0: ¬ (k:Int)<0:=by omega
 have hk1: ¬ (n:Int)<(k:Int):=by omega
 have hk2:((k:Int)==(n:Int))=false:=by simp;omega
 have hk3:(k:Int)<(n:Int):=by omega
 have hk4:(k:Int)≤40000:=by omega
 have hld:(l.drop k).length=n - k:=by rw[List.length_drop,hln]
 have htl:=txt_le (l.drop k)
 rw[hld]at htl
 have hpre:txt (l.drop k)=(l.drop k).take (txt (l.drop k)).length:=List.prefix_iff_eq_take.1 (List.takeWhile_prefix _)
 have HTG:Hid (∀ t,k≤t→t<k+(txt (l.drop k)).length→ ∀ c,l[t]? =some c→c≠60∧c≠38):=Hd fun t h1 h2 c hc=>txt_in (l.drop k) (t - k) (by omega) c (by rw[List.getElem?_drop,show k+(t - k)=t by omega];exact hc)
 have HTE:Hid (∀ c,l[k+(txt (l.drop k)).length]? =some c→c=60∨c=38):=Hd fun c hc=>txt_end (l.drop k) c (by rw[List.getElem?_drop];exact hc)
 have HST:Hid (∀ W rs vs,RN w W rs vs→(convert 29 9 (.slice (cutA A cap k) (txt (l.drop k)).length (cap - k))).run Tryz.prog W= .ok (.string ⟨(txt (l.drop k)).toArray⟩) W):=Hd fun W rs vs hJ=>by
  have:=(((HK.out W rs vs hJ).drop (k:=k) (by omega)).take (k:=(txt (l.drop k)).length) (by omega)).str
  rwa [← hpre]at this
 have CF:Hid (∀ W rs vs,RN w W rs vs→Calls Tryz.prog 36 #[.slice (cutA A cap k) (txt (l.drop k)).length (cap - k),.int .i64 0,.string ⟨#[93,93,62]⟩] W fun e w'=>e= .returned (.int .i64 (findI (txt (l.drop k)) 0 [93,93,62]))∧W=w'):=Hd fun W rs vs hJ=>by
  have hb:=((HK.out W rs vs hJ).drop (k:=k) (by omega)).take (k:=(txt (l.drop k)).length) (by omega)
  rw[← hpre]at hb
  exact refFind_c _ _ _ _ 0 [93,93,62] _ W hb (by simp) (by omega) (by decide) (by omega)
 have hcap:=h.le
 have HFT:=Hd fun W:World=>run_fromTo (w:=W) A n cap k (k+(txt (l.drop k)).length) (by omega) (by omega)
 have hR:nextOut l k=(if (readTok l k).2=0 then ({ (readTok l k).1 with fro:=(k:Int) },0) else (noTok,(readTok l k).2)):=rfl
 have hRT:readTok l k=textTok l k:=by
  unfold readTok
  rw[if_neg (by rw[h0];simp),if_neg (by rw[h1];simp),if_neg (by rw[h2];simp),if_neg (by rw[h3];simp),if_neg (by rw[h4];simp),if_neg (by rw[h5];simp),if_neg (by rw[h6];simp)]
 rw[hR,hRT]
 clear hR hRT
 unfold textTok
 rw[contains_findI]
 have HKC:Hid (∀ W rs vs,RN w W rs vs→ ∀ t,t<n→ ∃ c,l[t]? =some c∧W.cell? ⟨bb,oo+t,none⟩=some (.int .u8 c.toNat)):=Hd fun W rs vs hJ t ht=>by
  obtain⟨b2,o2,c2,e2,_,hc2,hz⟩:=(HK.out W rs vs hJ).cell ht
  rw[hA]at e2
  cases e2
  exact⟨c2,hc2,hz⟩
 generalize txt (l.drop k)=s at *
 have hsl:(s.length:Int)≤40000:=by omega
 have HFT2:=HFT.out
 rw[show ((k+s.length:Nat):Int)=(k:Int)+(s.length:Int)by omega,show k+s.length - k=s.length by omega]at HFT2
 rw[show ((k+s.length:Nat):Int)=(k:Int)+(s.length:Int)by omega]
 generalize findI s 0 [93,93,62]=fi at *
 have htl2:=Hd htl
 by_cases hfi:0≤fi
 · simp only[decide_eq_true hfi,if_true]
   rw[if_neg (by decide)]
   clear h hln HK hi hu hbB hc hld hpre HFT htl h0 h1 h2 h3 h4 h5 h6
   subst hA
   go_enter Tryz.func13,Tryz.ntmps13
   have zc:=HC.out _ _ _ J0.out
   go_wp2_with fail
   refine(S0.out _ _ _ J0.out).mono ?_
   rintro e wq ⟨rfl,rfl⟩
   go_wp2_with fail
   refine(S1.out _ _ _ J0.out).mono ?_
   rintro e wq ⟨rfl,rfl⟩
   go_wp2_with fail
   refine(S2.out _ _ _ J0.out).mono ?_
   rintro e wq ⟨rfl,rfl⟩
   go_wp2_with fail
   refine(S3.out _ _ _ J0.out).mono ?_
   rintro e wq ⟨rfl,rfl⟩
   go_wp2_with fail
   refine(S5.out _ _ _ J0.out).mono ?_
   rintro e wq ⟨rfl,rfl⟩
   go_wp2_with fail
   have HJ0:=Hd J0.out
   generalize hv:((w.alloc (.cells #[.int .i64 0,.int .i64 0,.int .i64 0,.string ⟨#[]⟩,.string ⟨#[]⟩,.slice none 0 0,.int .i64 0] 50)).alloc (.cells #[.int .i64 0,.int .i64 (k:Int),.int .i64 0,.string ⟨#[]⟩,.string ⟨#[]⟩,.slice none 0 0,.int .i64 0] 50))=v0 at *
   have J:=Hd J0.out
   clear hv zc J0
   have z0:=cell_of 0 J.out.tok
   have y0:=free_of 0 J.out.tok
   have z4:=cell_of 4 J.out.tok
   have y4:=free_of 4 J.out.tok
   have z2:=cell_of 2 J.out.tok
   have y2:=free_of 2 J.out.tok
   go_loopg [11] (n - k) (fun g i wr=> ∃ t:Nat,i= .int .i64 (t:Int)∧k≤t∧t≤k+s.length∧Hid (g+t=n)∧wr=v0)
   case atStart=>exact⟨k,rfl,Nat.le_refl _,Nat.le_add_right _ _,Hd (by omega),rfl⟩
   case round =>
    obtain⟨t,rfl,hkt,ht,hg,rfl⟩:=hrel
    have htl:=htl2.out
    have ht0:(0:Int)≤(t:Int):=by omega
    have ht9:(t:Int)≤40000:=by omega
    by_cases htn:t<n
    · have htni:(t:Int)<(n:Int):=by omega
      obtain⟨c2,hc2,hz⟩:=HKC.out _ _ _ J.out t htn
      have d0:(0:Int)≤(c2.toNat:Int):=by omega
      have d9:(c2.toNat:Int)≤255:=by have:=c2.toNat_lt;omega
      by_cases hlt:t<k+s.length
      · obtain⟨n60,n38⟩:=HTG.out t hkt hlt c2 hc2
        have b60:((c2.toNat:Int)==60)=false:=by
         have:c2.toNat≠60:=fun e=>n60 (UInt8.toNat_inj.1 e)
         simp;omega
        have b38:((c2.toNat:Int)==38)=false:=by
         have:c2.toNat≠38:=fun e=>n38 (UInt8.toNat_inj.1 e)
         simp;omega
        have m60:((c2.toNat:Int) != 60)=true:=by simpa using b60
        have m38:((c2.toNat:Int) != 38)=true:=by simpa using b38
        clear hc2 n60 n38 htl
        go_wp2
        go_roundg (n - (t+1))
        case measure=>have:=hg.out;omega
        case rel=>exact⟨t+1,by go_num,by omega,by omega,Hd (by have:=hg.out;omega),rfl⟩
      · obtain rfl:t=k+s.length:=by omega
        rw[show ((k+s.length:Nat):Int)=(k:Int)+(s.length:Int)by omega]at *
        have hcc:=HTE.out c2 hc2
        clear hc2 htl hlt HTG HTE HKC
        rcases hcc with rfl|rfl
        · have hsv:=HST.out wr _ _ J.out
          have hsd:=HST.out wr.drew _ _ (J.out.drewN 1)
          have hse:=HST.out (wr.setCell ⟨w.heap.size+1,0,none⟩ (.int .i64 1)).drew _ _ ((J.out.set 0 (.int .i64 1)).drewN 1)
          have KU:Hid (RN w (((wr.setCell ⟨w.heap.size+1,0,none⟩ (.int .i64 1)).setCell ⟨w.heap.size+1,4,none⟩ (.string ⟨s.toArray⟩)).setCell ⟨w.heap.size+1,2,none⟩ (.int .i64 ((k:Int)+(s.length:Int)))).drew #[.int .i64 0,.int .i64 0,.int .i64 0,.string ⟨#[]⟩,.string ⟨#[]⟩,.slice none 0 0,.int .i64 0] #[.int .i64 1,.int .i64 (k:Int),.int .i64 ((k:Int)+(s.length:Int)),.string ⟨#[]⟩,.string ⟨s.toArray⟩,.slice none 0 0,.int .i64 0]):=Hd ((((J.out.set 0 (.int .i64 1)).set 4 (.string ⟨s.toArray⟩)).set 2 (.int .i64 ((k:Int)+(s.length:Int)))).drewN 1)
          go_wp2_with fail
          go_region
          clear z0 y0 z4 y4 z2 y2 hsv hsd hse
          generalize (((wr.setCell ⟨w.heap.size+1,0,none⟩ (.int .i64 1)).setCell ⟨w.heap.size+1,4,none⟩ (.string ⟨s.toArray⟩)).setCell ⟨w.heap.size+1,2,none⟩ (.int .i64 ((k:Int)+(s.length:Int)))).drew=U at *
          go_wp2_with fail
          refine(CF.out _ _ _ KU.out).mono ?_
          rintro e0 wq ⟨rfl,hwq⟩
          subst hwq
          have JF:=Hd (KU.out.row #[.int .i64 0,.int .i64 0,.int .i64 0,.string ⟨#[]⟩,.string ⟨#[]⟩,.slice none 0 0,.int .i64 0])
          go_wp2_with (refine wpList_store_row rfl _ _ _ rfl w.heap.size #[.int .i64 0,.int .i64 0,.int .i64 0,.string ⟨#[]⟩,.string ⟨#[]⟩,.slice none 0 0,.int .i64 0] rfl rfl _ _ KU.out.res (by kernel_rfl) rfl (by kernel_rfl) ?_)
          (try simp only[Exit.inBlock,Exit.then])
          exact bodyPost_ret (results_cell2 rfl _ _ w.heap.size _ _ _ _ rfl JF.out.res HU.out.2 rfl HU.out.1) rfl (TokPost.no rfl JF.out.below)
        · have hsv:=HST.out wr _ _ J.out
          have hsd:=HST.out wr.drew _ _ (J.out.drewN 1)
          have hse:=HST.out (wr.setCell ⟨w.heap.size+1,0,none⟩ (.int .i64 1)).drew _ _ ((J.out.set 0 (.int .i64 1)).drewN 1)
          have KU:Hid (RN w (((wr.setCell ⟨w.heap.size+1,0,none⟩ (.int .i64 1)).setCell ⟨w.heap.size+1,4,none⟩ (.string ⟨s.toArray⟩)).setCell ⟨w.heap.size+1,2,none⟩ (.int .i64 ((k:Int)+(s.length:Int)))).drew #[.int .i64 0,.int .i64 0,.int .i64 0,.string ⟨#[]⟩,.string ⟨#[]⟩,.slice none 0 0,.int .i64 0] #[.int .i64 1,.int .i64 (k:Int),.int .i64 ((k:Int)+(s.length:Int)),.string ⟨#[]⟩,.string ⟨s.toArray⟩,.slice none 0 0,.int .i64 0]):=Hd ((((J.out.set 0 (.int .i64 1)).set 4 (.string ⟨s.toArray⟩)).set 2 (.int .i64 ((k:Int)+(s.length:Int)))).drewN 1)
          go_wp2_with fail
          go_region
          clear z0 y0 z4 y4 z2 y2 hsv hsd hse
          generalize (((wr.setCell ⟨w.heap.size+1,0,none⟩ (.int .i64 1)).setCell ⟨w.heap.size+1,4,none⟩ (.string ⟨s.toArray⟩)).setCell ⟨w.heap.size+1,2,none⟩ (.int .i64 ((k:Int)+(s.length:Int)))).drew=U at *
          go_wp2_with fail
          refine(CF.out _ _ _ KU.out).mono ?_
          rintro e0 wq ⟨rfl,hwq⟩
          subst hwq
          have JF:=Hd (KU.out.row #[.int .i64 0,.int .i64 0,.int .i64 0,.string ⟨#[]⟩,.string ⟨#[]⟩,.slice none 0 0,.int .i64 0])
          go_wp2_with (refine wpList_store_row rfl _ _ _ rfl w.heap.size #[.int .i64 0,.int .i64 0,.int .i64 0,.string ⟨#[]⟩,.string ⟨#[]⟩,.slice none 0 0,.int .i64 0] rfl rfl _ _ KU.out.res (by kernel_rfl) rfl (by kernel_rfl) ?_)
          (try simp only[Exit.inBlock,Exit.then])
          exact bodyPost_ret (results_cell2 rfl _ _ w.heap.size _ _ _ _ rfl JF.out.res HU.out.2 rfl HU.out.1) rfl (TokPost.no rfl JF.out.below)
    · obtain rfl:t=k+s.length:=by have:=hg.out;omega
      rw[show ((k+s.length:Nat):Int)=(k:Int)+(s.length:Int)by omega]at *
      have htni: ¬ (k:Int)+(s.length:Int)<(n:Int):=by omega
      clear htl HTG HTE HKC
      have hsv:=HST.out wr _ _ J.out
      have hsd:=HST.out wr.drew _ _ (J.out.drewN 1)
      have hse:=HST.out (wr.setCell ⟨w.heap.size+1,0,none⟩ (.int .i64 1)).drew _ _ ((J.out.set 0 (.int .i64 1)).drewN 1)
      have KU:Hid (RN w (((wr.setCell ⟨w.heap.size+1,0,none⟩ (.int .i64 1)).setCell ⟨w.heap.size+1,4,none⟩ (.string ⟨s.toArray⟩)).setCell ⟨w.heap.size+1,2,none⟩ (.int .i64 ((k:Int)+(s.length:Int)))).drew #[.int .i64 0,.int .i64 0,.int .i64 0,.string ⟨#[]⟩,.string ⟨#[]⟩,.slice none 0 0,.int .i64 0] #[.int .i64 1,.int .i64 (k:Int),.int .i64 ((k:Int)+(s.length:Int)),.string ⟨#[]⟩,.string ⟨s.toArray⟩,.slice none 0 0,.int .i64 0]):=Hd ((((J.out.set 0 (.int .i64 1)).set 4 (.string ⟨s.toArray⟩)).set 2 (.int .i64 ((k:Int)+(s.length:Int)))).drewN 1)
      go_wp2_with fail
      go_region
      clear z0 y0 z4 y4 z2 y2 hsv hsd hse
      generalize (((wr.setCell ⟨w.heap.size+1,0,none⟩ (.int .i64 1)).setCell ⟨w.heap.size+1,4,none⟩ (.string ⟨s.toArray⟩)).setCell ⟨w.heap.size+1,2,none⟩ (.int .i64 ((k:Int)+(s.length:Int)))).drew=U at *
      go_wp2_with fail
      refine(CF.out _ _ _ KU.out).mono ?_
      rintro e0 wq ⟨rfl,hwq⟩
      subst hwq
      have JF:=Hd (KU.out.row #[.int .i64 0,.int .i64 0,.int .i64 0,.string ⟨#[]⟩,.string ⟨#[]⟩,.slice none 0 0,.int .i64 0])
      go_wp2_with (refine wpList_store_row rfl _ _ _ rfl w.heap.size #[.int .i64 0,.int .i64 0,.int .i64 0,.string ⟨#[]⟩,.string ⟨#[]⟩,.slice none 0 0,.int .i64 0] rfl rfl _ _ KU.out.res (by kernel_rfl) rfl (by kernel_rfl) ?_)
      (try simp only[Exit.inBlock,Exit.then])
      exact bodyPost_ret (results_cell2 rfl _ _ w.heap.size _ _ _ _ rfl JF.out.res HU.out.2 rfl HU.out.1) rfl (TokPost.no rfl JF.out.below)
 · simp only[decide_eq_false hfi,Bool.false_eq_true,if_false,if_true]
   clear h hln HK hi hu hbB hc hld hpre HFT htl h0 h1 h2 h3 h4 h5 h6
   subst hA
   go_enter Tryz.func13,Tryz.ntmps13
   have zc:=HC.out _ _ _ J0.out
   go_wp2_with fail
   refine(S0.out _ _ _ J0.out).mono ?_
   rintro e wq ⟨rfl,rfl⟩
   go_wp2_with fail
   refine(S1.out _ _ _ J0.out).mono ?_
   rintro e wq ⟨rfl,rfl⟩
   go_wp2_with fail
   refine(S2.out _ _ _ J0.out).mono ?_
   rintro e wq ⟨rfl,rfl⟩
   go_wp2_with fail
   refine(S3.out _ _ _ J0.out).mono ?_
   rintro e wq ⟨rfl,rfl⟩
   go_wp2_with fail
   refine(S5.out _ _ _ J0.out).mono ?_
   rintro e wq ⟨rfl,rfl⟩
   go_wp2_with fail
   have HJ0:=Hd J0.out
   generalize hv:((w.alloc (.cells #[.int .i64 0,.int .i64 0,.int .i64 0,.string ⟨#[]⟩,.string ⟨#[]⟩,.slice none 0 0,.int .i64 0] 50)).alloc (.cells #[.int .i64 0,.int .i64 (k:Int),.int .i64 0,.string ⟨#[]⟩,.string ⟨#[]⟩,.slice none 0 0,.int .i64 0] 50))=v0 at *
   have J:=Hd J0.out
   clear hv zc J0
   have z0:=cell_of 0 J.out.tok
   have y0:=free_of 0 J.out.tok
   have z4:=cell_of 4 J.out.tok
   have y4:=free_of 4 J.out.tok
   have z2:=cell_of 2 J.out.tok
   have y2:=free_of 2 J.out.tok
   go_loopg [11] (n - k) (fun g i wr=> ∃ t:Nat,i= .int .i64 (t:Int)∧k≤t∧t≤k+s.length∧Hid (g+t=n)∧wr=v0)
   case atStart=>exact⟨k,rfl,Nat.le_refl _,Nat.le_add_right _ _,Hd (by omega),rfl⟩
   case round =>
    obtain⟨t,rfl,hkt,ht,hg,rfl⟩:=hrel
    have htl:=htl2.out
    have ht0:(0:Int)≤(t:Int):=by omega
    have ht9:(t:Int)≤40000:=by omega
    by_cases htn:t<n
    · have htni:(t:Int)<(n:Int):=by omega
      obtain⟨c2,hc2,hz⟩:=HKC.out _ _ _ J.out t htn
      have d0:(0:Int)≤(c2.toNat:Int):=by omega
      have d9:(c2.toNat:Int)≤255:=by have:=c2.toNat_lt;omega
      by_cases hlt:t<k+s.length
      · obtain⟨n60,n38⟩:=HTG.out t hkt hlt c2 hc2
        have b60:((c2.toNat:Int)==60)=false:=by
          have:c2.toNat≠60:=fun e=>n60 (UInt8.toNat_inj.1 e)
          simp;omega
        have b38:((c2.toNat:Int)==38)=false:=by
          have:c2.toNat≠38:=fun e=>n38 (UInt8.toNat_inj.1 e)
          simp;omega
        have m60:((c2.toNat:Int) != 60)=true:=by simpa using b60
        have m38:((c2.toNat:Int) != 38)=true:=by simpa using b38
        clear hc2 n60 n38 htl
        go_wp2
        go_roundg (n - (t+1))
        case measure=>have:=hg.out;omega
        case rel=>exact⟨t+1,by go_num,by omega,by omega,Hd (by have:=hg.out;omega),rfl⟩
      · obtain rfl:t=k+s.length:=by omega
        rw[show ((k+s.length:Nat):Int)=(k:Int)+(s.length:Int)by omega]at *
        have hcc:=HTE.out c2 hc2
        clear hc2 htl hlt HTG HTE HKC
        rcases hcc with rfl|rfl
        · have hsv:=HST.out wr _ _ J.out
          have hsd:=HST.out wr.drew _ _ (J.out.drewN 1)
          have hse:=HST.out (wr.setCell ⟨w.heap.size+1,0,none⟩ (.int .i64 1)).drew _ _ ((J.out.set 0 (.int .i64 1)).drewN 1)
          have KU:Hid (RN w (((wr.setCell ⟨w.heap.size+1,0,none⟩ (.int .i64 1)).setCell ⟨w.heap.size+1,4,none⟩ (.string ⟨s.toArray⟩)).setCell ⟨w.heap.size+1,2,none⟩ (.int .i64 ((k:Int)+(s.length:Int)))).drew #[.int .i64 0,.int .i64 0,.int .i64 0,.string ⟨#[]⟩,.string ⟨#[]⟩,.slice none 0 0,.int .i64 0] #[.int .i64 1,.int .i64 (k:Int),.int .i64 ((k:Int)+(s.length:Int)),.string ⟨#[]⟩,.string ⟨s.toArray⟩,.slice none 0 0,.int .i64 0]):=Hd ((((J.out.set 0 (.int .i64 1)).set 4 (.string ⟨s.toArray⟩)).set 2 (.int .i64 ((k:Int)+(s.length:Int)))).drewN 1)
          go_wp2_with fail
          go_region
          clear z0 y0 z4 y4 z2 y2 hsv hsd hse
          generalize (((wr.setCell ⟨w.heap.size+1,0,none⟩ (.int .i64 1)).setCell ⟨w.heap.size+1,4,none⟩ (.string ⟨s.toArray⟩)).setCell ⟨w.heap.size+1,2,none⟩ (.int .i64 ((k:Int)+(s.length:Int)))).drew=U at *
          go_wp2_with fail
          refine(CF.out _ _ _ KU.out).mono ?_
          rintro e0 wq ⟨rfl,hwq⟩
          subst hwq
          have JF:=Hd (KU.out.row #[.int .i64 1,.int .i64 (k:Int),.int .i64 ((k:Int)+(s.length:Int)),.string ⟨#[]⟩,.string ⟨s.toArray⟩,.slice none 0 0,.int .i64 0])
          go_wp2_with (first|(refine wpList_load_row rfl _ _ rfl (w.heap.size+1) rfl _ _ _ _ KU.out.tok HU.out.2 rfl HU.out.1 ?_)|(refine wpList_store_row rfl _ _ _ rfl w.heap.size #[.int .i64 1,.int .i64 (k:Int),.int .i64 ((k:Int)+(s.length:Int)),.string ⟨#[]⟩,.string ⟨s.toArray⟩,.slice none 0 0,.int .i64 0] rfl rfl _ _ KU.out.res (by kernel_rfl) rfl (by kernel_rfl) ?_))
          (try simp only[Exit.inBlock,Exit.then])
          exact bodyPost_ret (results_cell2 rfl _ _ w.heap.size _ _ _ _ rfl JF.out.res HU.out.2 rfl HU.out.1) rfl (TokPost.of none 0 0 rfl (PRd.nilR _ _) JF.out.below fun b i h=>by cases h)
        · have hsv:=HST.out wr _ _ J.out
          have hsd:=HST.out wr.drew _ _ (J.out.drewN 1)
          have hse:=HST.out (wr.setCell ⟨w.heap.size+1,0,none⟩ (.int .i64 1)).drew _ _ ((J.out.set 0 (.int .i64 1)).drewN 1)
          have KU:Hid (RN w (((wr.setCell ⟨w.heap.size+1,0,none⟩ (.int .i64 1)).setCell ⟨w.heap.size+1,4,none⟩ (.string ⟨s.toArray⟩)).setCell ⟨w.heap.size+1,2,none⟩ (.int .i64 ((k:Int)+(s.length:Int)))).drew #[.int .i64 0,.int .i64 0,.int .i64 0,.string ⟨#[]⟩,.string ⟨#[]⟩,.slice none 0 0,.int .i64 0] #[.int .i64 1,.int .i64 (k:Int),.int .i64 ((k:Int)+(s.length:Int)),.string ⟨#[]⟩,.string ⟨s.toArray⟩,.slice none 0 0,.int .i64 0]):=Hd ((((J.out.set 0 (.int .i64 1)).set 4 (.string ⟨s.toArray⟩)).set 2 (.int .i64 ((k:Int)+(s.length:Int)))).drewN 1)
          go_wp2_with fail
          go_region
          clear z0 y0 z4 y4 z2 y2 hsv hsd hse
          generalize (((wr.setCell ⟨w.heap.size+1,0,none⟩ (.int .i64 1)).setCell ⟨w.heap.size+1,4,none⟩ (.string ⟨s.toArray⟩)).setCell ⟨w.heap.size+1,2,none⟩ (.int .i64 ((k:Int)+(s.length:Int)))).drew=U at *
          go_wp2_with fail
          refine(CF.out _ _ _ KU.out).mono ?_
          rintro e0 wq ⟨rfl,hwq⟩
          subst hwq
          have JF:=Hd (KU.out.row #[.int .i64 1,.int .i64 (k:Int),.int .i64 ((k:Int)+(s.length:Int)),.string ⟨#[]⟩,.string ⟨s.toArray⟩,.slice none 0 0,.int .i64 0])
          go_wp2_with (first|(refine wpList_load_row rfl _ _ rfl (w.heap.size+1) rfl _ _ _ _ KU.out.tok HU.out.2 rfl HU.out.1 ?_)|(refine wpList_store_row rfl _ _ _ rfl w.heap.size #[.int .i64 1,.int .i64 (k:Int),.int .i64 ((k:Int)+(s.length:Int)),.string ⟨#[]⟩,.string ⟨s.toArray⟩,.slice none 0 0,.int .i64 0] rfl rfl _ _ KU.out.res (by kernel_rfl) rfl (by kernel_rfl) ?_))
          (try simp only[Exit.inBlock,Exit.then])
          exact bodyPost_ret (results_cell2 rfl _ _ w.heap.size _ _ _ _ rfl JF.out.res HU.out.2 rfl HU.out.1) rfl (TokPost.of none 0 0 rfl (PRd.nilR _ _) JF.out.below fun b i h=>by cases h)
    · obtain rfl:t=k+s.length:=by have:=hg.out;omega
      rw[show ((k+s.length:Nat):Int)=(k:Int)+(s.length:Int)by omega]at *
      have htni: ¬ (k:Int)+(s.length:Int)<(n:Int):=by omega
      clear htl HTG HTE HKC
      have hsv:=HST.out wr _ _ J.out
      have hsd:=HST.out wr.drew _ _ (J.out.drewN 1)
      have hse:=HST.out (wr.setCell ⟨w.heap.size+1,0,none⟩ (.int .i64 1)).drew _ _ ((J.out.set 0 (.int .i64 1)).drewN 1)
      have KU:Hid (RN w (((wr.setCell ⟨w.heap.size+1,0,none⟩ (.int .i64 1)).setCell ⟨w.heap.size+1,4,none⟩ (.string ⟨s.toArray⟩)).setCell ⟨w.heap.size+1,2,none⟩ (.int .i64 ((k:Int)+(s.length:Int)))).drew #[.int .i64 0,.int .i64 0,.int .i64 0,.string ⟨#[]⟩,.string ⟨#[]⟩,.slice none 0 0,.int .i64 0] #[.int .i64 1,.int .i64 (k:Int),.int .i64 ((k:Int)+(s.length:Int)),.string ⟨#[]⟩,.string ⟨s.toArray⟩,.slice none 0 0,.int .i64 0]):=Hd ((((J.out.set 0 (.int .i64 1)).set 4 (.string ⟨s.toArray⟩)).set 2 (.int .i64 ((k:Int)+(s.length:Int)))).drewN 1)
      go_wp2_with fail
      go_region
      clear z0 y0 z4 y4 z2 y2 hsv hsd hse
      generalize (((wr.setCell ⟨w.heap.size+1,0,none⟩ (.int .i64 1)).setCell ⟨w.heap.size+1,4,none⟩ (.string ⟨s.toArray⟩)).setCell ⟨w.heap.size+1,2,none⟩ (.int .i64 ((k:Int)+(s.length:Int)))).drew=U at *
      go_wp2_with fail
      refine(CF.out _ _ _ KU.out).mono ?_
      rintro e0 wq ⟨rfl,hwq⟩
      subst hwq
      have JF:=Hd (KU.out.row #[.int .i64 1,.int .i64 (k:Int),.int .i64 ((k:Int)+(s.length:Int)),.string ⟨#[]⟩,.string ⟨s.toArray⟩,.slice none 0 0,.int .i64 0])
      go_wp2_with (first|(refine wpList_load_row rfl _ _ rfl (w.heap.size+1) rfl _ _ _ _ KU.out.tok HU.out.2 rfl HU.out.1 ?_)|(refine wpList_store_row rfl _ _ _ rfl w.heap.size #[.int .i64 1,.int .i64 (k:Int),.int .i64 ((k:Int)+(s.length:Int)),.string ⟨#[]⟩,.string ⟨s.toArray⟩,.slice none 0 0,.int .i64 0] rfl rfl _ _ KU.out.res (by kernel_rfl) rfl (by kernel_rfl) ?_))
      (try simp only[Exit.inBlock,Exit.then])
      exact bodyPost_ret (results_cell2 rfl _ _ w.heap.size _ _ _ _ rfl JF.out.res HU.out.2 rfl HU.out.1) rfl (TokPost.of none 0 0 rfl (PRd.nilR _ _) JF.out.below fun b i h=>by cases h)
theorem refNext_range (A:Option Addr)(n cap:Nat)(at_:Int)(w:World)(ha:at_<0∨(n:Int)<at_) :
 Calls Tryz.prog 13 #[.slice A n cap,.int .i64 at_] w fun e w'=>TokPost (noTok,3) w e w':=by
 have hJ:=CJ.start 50 w #[.int .i64 0,.int .i64 0,.int .i64 0,.string ⟨#[]⟩,.string ⟨#[]⟩,.slice none 0 0,.int .i64 0]
 have hi:(Tryz.prog.info? 50).map (·.size)=some 7:=by kernel_rfl
 obtain⟨sd,hu⟩:=isStruct_of (P:=Tryz.prog) (t:=50) (by kernel_rfl)
 have HU:=Hd (And.intro hi hu)
 have J0:=Hd hJ
 have JZ:=Hd (J0.out.row #[.int .i64 0,.int .i64 0,.int .i64 0,.string ⟨#[]⟩,.string ⟨#[]⟩,.slice none 0 0,.int .i64 0])
 clear hi hu hJ
 by_cases h0:at_<0
 · have hd:decide (at_<0)=true:=by simpa using h0
   clear ha
   go_enter Tryz.func13,Tryz.ntmps13
   go_wp2_with (refine wpList_store_row rfl _ _ _ rfl w.heap.size #[.int .i64 0,.int .i64 0,.int .i64 0,.string ⟨#[]⟩,.string ⟨#[]⟩,.slice none 0 0,.int .i64 0] rfl rfl _ _ J0.out.2 (by kernel_rfl) rfl (by kernel_rfl) ?_)
   (try simp only[Exit.inBlock,Exit.then])
   exact bodyPost_ret (results_cell2 rfl _ _ w.heap.size _ _ _ _ rfl JZ.out.2 HU.out.2 rfl HU.out.1) rfl (TokPost.no rfl JZ.out.1)
 · have h1:(n:Int)<at_:=by omega
   clear ha
   go_enter Tryz.func13,Tryz.ntmps13
   go_wp2_with (refine wpList_store_row rfl _ _ _ rfl w.heap.size #[.int .i64 0,.int .i64 0,.int .i64 0,.string ⟨#[]⟩,.string ⟨#[]⟩,.slice none 0 0,.int .i64 0] rfl rfl _ _ J0.out.2 (by kernel_rfl) rfl (by kernel_rfl) ?_)
   (try simp only[Exit.inBlock,Exit.then])
   exact bodyPost_ret (results_cell2 rfl _ _ w.heap.size _ _ _ _ rfl JZ.out.2 HU.out.2 rfl HU.out.1) rfl (TokPost.no rfl JZ.out.1)
theorem refNext_end (A:Option Addr)(n cap:Nat)(w:World)(hm:n≤40000) :
 Calls Tryz.prog 13 #[.slice A n cap,.int .i64 (n:Int)] w fun e w'=>TokPost (noTok,4) w e w':=by
 have hJ:=CJ.start 50 w #[.int .i64 0,.int .i64 0,.int .i64 0,.string ⟨#[]⟩,.string ⟨#[]⟩,.slice none 0 0,.int .i64 0]
 have hi:(Tryz.prog.info? 50).map (·.size)=some 7:=by kernel_rfl
 obtain⟨sd,hu⟩:=isStruct_of (P:=Tryz.prog) (t:=50) (by kernel_rfl)
 have HU:=Hd (And.intro hi hu)
 have J0:=Hd hJ
 have JZ:=Hd (J0.out.row #[.int .i64 0,.int .i64 0,.int .i64 0,.string ⟨#[]⟩,.string ⟨#[]⟩,.slice none 0 0,.int .i64 0])
 have hn0: ¬ (n:Int)<0:=by omega
 clear hi hu hJ
 go_enter Tryz.func13,Tryz.ntmps13
 go_wp2_with (refine wpList_store_row rfl _ _ _ rfl w.heap.size #[.int .i64 0,.int .i64 0,.int .i64 0,.string ⟨#[]⟩,.string ⟨#[]⟩,.slice none 0 0,.int .i64 0] rfl rfl _ _ J0.out.2 (by kernel_rfl) rfl (by kernel_rfl) ?_)
 (try simp only[Exit.inBlock,Exit.then])
 exact bodyPost_ret (results_cell2 rfl _ _ w.heap.size _ _ _ _ rfl JZ.out.2 HU.out.2 rfl HU.out.1) rfl (TokPost.no rfl JZ.out.1)
theorem refNext_c (A:Option Addr)(n cap:Nat)(l:List UInt8)(at_:Int)(w:World)(h:Byt w w.heap.size A n cap l)(hm:n≤40000) :
 Calls Tryz.prog 13 #[.slice A n cap,.int .i64 at_] w fun e w'=>TokPost (nextAt l at_) w e w':=by
 have hln:=h.length
 unfold nextAt
 rw[hln]
 by_cases ha:at_<0∨(n:Int)<at_
 · rw[if_pos ha];exact refNext_range A n cap at_ w ha
 · rw[if_neg ha]
   by_cases hn:at_=(n:Int)
   · rw[if_pos hn,hn];exact refNext_end A n cap w hm
   · rw[if_neg hn]
     obtain⟨k,rfl⟩: ∃ k:Nat,at_=(k:Int):=⟨at_.toNat,by omega⟩
     rw[Int.toNat_natCast]
     have hk:k<n:=by omega
     cases h0: [60,33,45,45].isPrefixOf (l.drop k)with
     |true=>exact refNext_comment A n cap l k w h hm hk h0
     |false =>
      cases h1: [60,33,91,67,68,65,84,65,91].isPrefixOf (l.drop k)with
      |true=>exact refNext_cdata A n cap l k w h hm hk h0 h1
      |false =>
       cases h2: [60,63].isPrefixOf (l.drop k)with
       |true=>exact refNext_pi A n cap l k w h hm hk h0 h1 h2
       |false =>
        cases h3: [60,47].isPrefixOf (l.drop k)with
        |true=>exact refNext_close A n cap l k w h hm hk h0 h1 h2 h3
        |false =>
         cases h4: [60].isPrefixOf (l.drop k)with
         |true=>exact refNext_open A n cap l k w h hm hk h0 h1 h2 h3 h4
         |false =>
          cases h5: [38,35].isPrefixOf (l.drop k)with
          |true=>exact refNext_char A n cap l k w h hm hk h0 h1 h2 h3 h4 h5
          |false =>
           cases h6: [38].isPrefixOf (l.drop k)with
           |true=>exact refNext_ref A n cap l k w h hm hk h0 h1 h2 h3 h4 h5 h6
           |false =>
            exact refNext_text A n cap l k w h hm hk h0 h1 h2 h3 h4 h5 h6
def AllPostK (o:List TokL × Nat × Nat)(w:World)(e:Ending)(w':World):Prop :=
 ∃ A n c vs,e= .returned (.tuple #[.slice A n c,.int .i64 (o.2.1:Int),.int .i64 (o.2.2:Int)])∧vs.map TokV.t=o.1∧TRd w' w'.heap.size A n c vs∧Below w.heap.size w w'
theorem AllPostK.bad {t x:Nat}{w w':World}{e:Ending}(he:e= .returned (.tuple #[.slice none 0 0,.int .i64 (t:Int),.int .i64 (x:Int)]))(hb:Below w.heap.size w w'):AllPostK ([],t,x) w e w' :=
 ⟨none,0,0,[],he,rfl,TRd.nilR _ _,hb⟩
theorem AllPostK.good {T:TypeId}{w w':World}{e:Ending}{vs:List TokV}{base t:Nat}{v:Value}(hG:GrowT T w w' base v vs)(he:e= .returned (.tuple #[v,.int .i64 (t:Int),.int .i64 0])):AllPostK (vs.map TokV.t,t,0) w e w':=by
 obtain⟨A,c,rfl,hr⟩:=TRd.ofOwn hG.own hG.prs
 exact⟨A,vs.length,c,vs,he,rfl,hr,hG.below⟩
theorem nextAt_in (l:List UInt8)(t:Nat)(h:t<l.length):nextAt l t=nextOut l t:=by
 unfold nextAt
 rw[if_neg (by omega),if_neg (by omega),Int.toNat_natCast]
theorem GrowT.fresh {T:TypeId}{w wr:World}{base:Nat}{v:Value}{vs:List TokV}(h:GrowT T w wr base v vs){b:Nat}(hb:wr.heap.size≤b):some b≠v.ownBlock:=fun e=>by
 have:=(ownBlock_lt h.own e.symm).1
 omega
theorem wpList_appH {P:Program}{ops:Array Oper}{rest:List Oper}{o:Oper}{a:Act}{Q:Exit→Act→World→Prop}{w:World}(hgd:o.guard=none)(s x:Operand)(t e:TypeId)
 (ho:o.op= .call { callee:= .builtin .append,args:= #[s,x],argTypes:= #[t,t] }) (z:Value) (k bytes:Nat) (ht:P.underlying t=some (.slice e))
 (hi: ∃ i,P.info? e=some i∧i.zero=some z∧i.size=k∧i.bytes=bytes) (hzs:z.cells.size=k) (hk:0<k)
 (base:Nat) (v:Value) (n:Nat) (xs:List Value) (hs:a.eval s=v) (hown:w.ownsRow base e k v n xs) (us:List Value) (us':Array Value) (hus:us'=us.toArray) (H:Nat) (hH:w.heap.size=H) (hx:a.eval x= .slice (some ⟨H,0,none⟩) 1 1)
 (hl:us.length=k) (h1: ∀ u∈us,u.oneCell'=true) (hn:n≤1000000000) (hby:bytes≤1000) (hbase:base≤w.heap.size)
 (h: ∀ v' w',w'.ownsRow base e k v' (n+1) (xs++us)→(w.alloc (.cells us' e)).grownBy w' v.ownBlock→(v'.ownBlock=v.ownBlock∨v'.ownBlock=some (w.heap.size+1))→wpList P ops Q rest (a.put o.dst v') w'):wpList P ops Q (o :: rest) a (w.alloc (.cells us' e)):=by
 subst hH
 exact wpList_appK hgd s x t e ho z k bytes ht hi hzs hk base v n xs hs hown us us' hus hx hl h1 hn hby hbase h
theorem info_tok: ∃ i,Tryz.prog.info? 47=some i∧i.zero=some (.agg #[.int .i64 0,.int .i64 0,.int .i64 0,.string ⟨#[]⟩,.string ⟨#[]⟩,.slice none 0 0,.int .i64 0])∧i.size=7∧i.bytes=88:=by
 obtain⟨i,h1,h2,h3,h4⟩:=info_parts (show(Tryz.prog.info? 47).map (fun i=>(i.zero,i.size,i.bytes))=some (some (.agg #[.int .i64 0,.int .i64 0,.int .i64 0,.string ⟨#[]⟩,.string ⟨#[]⟩,.slice none 0 0,.int .i64 0]),7,88)by kernel_rfl)
 exact⟨i,h1,h2,h3,h4⟩
theorem info_rtok: ∃ i,Tryz.prog.info? 50=some i∧i.zero=some (.agg #[.int .i64 0,.int .i64 0,.int .i64 0,.string ⟨#[]⟩,.string ⟨#[]⟩,.slice none 0 0,.int .i64 0])∧i.size=7∧i.bytes=88:=by
 obtain⟨i,h1,h2,h3,h4⟩:=info_parts (show(Tryz.prog.info? 50).map (fun i=>(i.zero,i.size,i.bytes))=some (some (.agg #[.int .i64 0,.int .i64 0,.int .i64 0,.string ⟨#[]⟩,.string ⟨#[]⟩,.slice none 0 0,.int .i64 0]),7,88)by kernel_rfl)
 exact⟨i,h1,h2,h3,h4⟩
theorem refAllK_c (A:Option Addr)(n cap:Nat)(l:List UInt8)(w:World)(h:Byt w w.heap.size A n cap l)(hm:n≤40000) :
 Calls Tryz.prog 7 #[.slice A n cap] w fun e w'=>AllPostK (allOutK l) w e w':=by
 have hln:=h.length
 have CN:Hid (∀ t:Nat,t<n→ ∀ W v vs,GrowT 50 w W w.heap.size v vs→Calls Tryz.prog 13 #[.slice A n cap,.int .i64 (t:Int)] W fun e w'=>TokPost (nextOut l t) W e w'):=Hd fun t ht W v vs hG=>by
  have:=refNext_c A n cap l t W ((h.below hG.below).more hG.below.size) hm
  rwa [nextAt_in l t (by omega)]at this
 have HLn:=Hd hln
 have hi:(Tryz.prog.info? 50).map (·.size)=some 7:=by kernel_rfl
 obtain⟨sd,hu⟩:=isStruct_of (P:=Tryz.prog) (t:=50) (by kernel_rfl)
 have HU:=Hd (And.intro hi hu)
 have HM:=Hd hm
 clear h hln hi hu
 go_enter Tryz.func7,Tryz.ntmps7
 go_wp2_with fail
 go_loopg [5,6] (n) (fun g v i wr=> ∃ (t:Nat) (vs:List TokV) (f:Nat),i= .int .i64 (t:Int)∧t≤n∧Hid (g=f)∧Hid (n≤f+t)∧Hid (vs.length≤t)∧Hid (allOutK l=allR l (f+1) (vs.map TokV.t) t)∧Hid (GrowT 50 w wr w.heap.size v vs))
 case atStart=>exact⟨0,[],n,rfl,Nat.zero_le _,Hd rfl,Hd (by omega),Hd (Nat.zero_le _),Hd (by unfold allOutK;rw[HLn.out];rfl),Hd (GrowT.start _ w)⟩
 case round =>
  obtain⟨t,vs,f,rfl,ht,hgf,hg,hal,HE,HG⟩:=hrel
  have hm:=HM.out
  have ht0:(0:Int)≤(t:Int):=by omega
  have ht9:(t:Int)≤40000:=by omega
  by_cases htn:t<n
  · have hti:(t:Int)<(n:Int):=by omega
    have htl:t<l.length:=by rw[HLn.out];exact htn
    have C1:=CN.out t htn _ _ _ HG.out
    have hok:=nextOut_ok l t htl
    have hbad:=fun e (h1:(nextOut l t).2=e) h2=>HE.out.trans (all_bad (f:=f) (acc:=vs.map TokV.t) htl h1 h2)
    have hmore:=fun k u (h1:nextOut l t=(k,0)) (h2:k.to_=((u:Nat):Int))=>HE.out.trans (all_more (f:=f) (acc:=vs.map TokV.t) htl h1 h2)
    generalize nextOut l t=o at *
    obtain⟨k,e⟩:=o
    simp only at hok hbad
    have C2:=Hd C1
    clear C1
    by_cases he:e=0
    · subst he
      obtain⟨hfro,u,hu,htu,hun⟩:=hok rfl
      clear hfro
      rw[HLn.out]at hun
      have HA:=Hd (hmore k u rfl hu)
      have HUu:=Hd hu
      clear hok hbad hmore htl hu
      go_wp2_with fail
      refine C2.out.mono ?_
      intro e0 w2 hp
      obtain⟨PA,pn,pc,rfl,hpr,hb,hlo⟩:=hp.out
      simp only at hpr
      have ka:=(Below.refl _ w2).alloc (Nat.le_refl _) (.cells #[.int .i64 k.kind,.int .i64 k.fro,.int .i64 k.to_,.string ⟨k.name.toArray⟩,.string ⟨k.text.toArray⟩,.slice PA pn pc,.int .i64 k.r] 50)
      have G1:=Hd (HG.out.kept hb)
      have G2:=Hd (G1.out.kept ka)
      have HQ:=Hd (hp_new w2 (.cells #[.int .i64 k.kind,.int .i64 k.fro,.int .i64 k.to_,.string ⟨k.name.toArray⟩,.string ⟨k.text.toArray⟩,.slice PA pn pc,.int .i64 k.r] 50))
      have HX:=Hd (And.intro ((hpr.below ka).more ka.size) (fun(_:0<pc) b i (hA:PA=some ⟨b,i,none⟩)=>HG.out.fresh (hlo b i hA)))
      have z2:=cell_of 2 HQ.out
      have hvl:vs.length≤1000000000:=by have:=hal.out;omega
      have hba:w.heap.size≤(w2.alloc (.cells #[.int .i64 k.kind,.int .i64 k.fro,.int .i64 k.to_,.string ⟨k.name.toArray⟩,.string ⟨k.text.toArray⟩,.slice PA pn pc,.int .i64 k.r] 50)).heap.size:=G2.out.base1
      clear hpr hb hlo ka hp
      go_wp2_with (first
       |(refine wpList_load_row rfl _ _ rfl w2.heap.size rfl _ _ _ _ HQ.out HU.out.2 rfl HU.out.1 ?_)
       |(at_builtin;refine wpList_appH rfl (.tmp 23) (.tmp 25) 30 50 rfl (.agg #[.int .i64 0,.int .i64 0,.int .i64 0,.string ⟨#[]⟩,.string ⟨#[]⟩,.slice none 0 0,.int .i64 0]) 7 88 Tryz.underlying30 info_rtok rfl (by decide) w.heap.size _ vs.length (cellsK vs) rfl G2.out.own (TokV.cells ⟨k,PA,pn,pc⟩) _ rfl (w2.heap.size+1) (by simp) rfl rfl (by simp[TokV.cells,Value.oneCell']) hvl (by decide) hba ?_))
      intro v4 w4 hown4 hg4 hat4
      have w4s:=hg4.size
      rw[World.size_alloc,World.size_alloc]at w4s
      have G4:=Hd (G2.out.appended (x:=⟨k,PA,pn,pc⟩) HX.out.1 HX.out.2 hown4 hg4 (by rw[World.size_alloc];exact hat4))
      have z4:w4.cell? ⟨w2.heap.size,2,none⟩=some (.int .i64 k.to_):=cell_of 2 ((hg4.block w2.heap.size (by simp;omega) (G1.out.fresh (Nat.le_refl _))).trans ((Below.heap_alloc _ _ _ (by simp)).trans HQ.out))
      clear hown4 hg4 hat4 z2
      go_wp2
      go_roundg (f - 1)
      case measure=>have:=hg.out;have:=hgf.out;omega
      case rel=>exact⟨u,vs++ [⟨k,PA,pn,pc⟩],f - 1,by rw[HUu.out],by omega,Hd rfl,Hd (by have:=hg.out;omega),Hd (by have:=hal.out;simp;omega),Hd (by rw[HA.out,List.map_append,show f - 1+1=f by have:=hg.out;omega];rfl),G4⟩
    · have HA:=Hd (hbad e rfl he)
      have hei:((e:Int)==0)=false:=by simp;omega
      clear hok hbad hmore htl
      go_wp2_with fail
      refine C2.out.mono ?_
      intro e0 w2 hp
      obtain⟨PA,pn,pc,rfl,hpr,hb,hlo⟩:=hp.out
      have B:=Hd ((HG.out.kept hb).below.alloc (HG.out.kept hb).below.size (.cells #[.int .i64 k.kind,.int .i64 k.fro,.int .i64 k.to_,.string ⟨k.name.toArray⟩,.string ⟨k.text.toArray⟩,.slice PA pn pc,.int .i64 k.r] 50))
      clear hpr hb hlo hp
      go_wp2
      go_ret3
      rw[HA.out]
      exact AllPostK.bad rfl B.out
  · have hti: ¬ (t:Int)<(n:Int):=by omega
    have HA:=Hd (HE.out.trans (all_end (by rw[HLn.out];exact htn)))
    obtain rfl:t=n:=by omega
    go_wp2
    go_ret3
    rw[HA.out]
    exact AllPostK.good HG.out rfl
end Go.Proofs.YtbafljibbabnaaaGreatDoor
