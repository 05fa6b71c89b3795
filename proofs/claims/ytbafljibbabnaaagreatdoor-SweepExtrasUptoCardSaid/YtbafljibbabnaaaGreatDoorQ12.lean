/- Texts of ours, joined: GrD, GsP, GsT, SatP, SatW, GrE, GcT. -/
import Derived.Laws.MakeOwn
import Derived.Laws.OwnMore
import Derived.StillTailTactics
import Derived.Deep.CutRange
import Derived.Test.YtbafljibbabnaaaGreatDoorQ11
namespace Go.Proofs.YtbafljibbabnaaaGreatDoor
open Go.ChangeShapes Go.WideShapes Go.ChangeAt Go.RowKit
set_option linter.unusedVariables false
set_option maxRecDepth 100000
set_option maxHeartbeats 32000000
theorem inner_sub (l:List EntT): ∀ (a:List EntT) (x:EntT),(∀ y∈a,y∈a)→x∈l.foldl innerF a→x∈l∨x∈a:=by
 induction l with
 |nil=>intro a x _ h;exact .inr h
 |cons y l ih =>
  intro a x _ h
  rcases ih (innerF a y) x (fun _ h=>h) h with h2|h2
  · exact .inl (List.mem_cons_of_mem _ h2)
  · unfold innerF at h2
    split at h2
    · exact .inr h2
    · rcases List.mem_append.1 h2 with h3|h3
      · exact .inr h3
      · exact .inl (List.mem_cons.2 (.inl (List.mem_singleton.1 h3)))
theorem toE_take {names ws:List (List UInt8)}{k:Nat}{y:List UInt8}(h:ws[k]? =some y):toE names (ws.take (k+1))=toE names (ws.take k)++(if y∈names then [names.idxOf y] else []):=by
 unfold toE
 rw[List.take_add_one,h,List.filterMap_append]
 congr 1
 simp only[Option.toList_some,List.filterMap_cons,List.filterMap_nil]
 split <;> rename_i h2 <;> split at h2 <;> simp_all
theorem graph_take {l:List EntT}{t:Nat}{x:EntT}(h:(innerE l)[t]? =some x):(graphE l).take (t+1)=(graphE l).take t++ [toE ((innerE l).map EntT.nm) (eachL x.tx)]:=by
 unfold graphE
 rw[List.take_add_one,List.getElem?_map,h]
 rfl
theorem rfOf_c (A:Option Addr)(n cap:Nat)(l:List EntT)(w:World)(h:RRd cE 6 w w.heap.size A n cap l)(hm:n≤1000)(hx: ∀ x∈l,x.tx.length≤20000) :
 Calls Tryz.prog 20 #[.slice A n cap] w fun e w'=> ∃ NA nc TA tc rs,e= .returned (.agg #[.slice NA (innerE l).length nc,.slice TA (innerE l).length tc])∧rs.map IRow.l=graphE l∧RRd cS1 1 w' w'.heap.size NA (innerE l).length nc ((innerE l).map EntT.nm)∧GRd w' w'.heap.size TA (innerE l).length tc rs∧Below w.heap.size w w':=by
 have kb0:=(Below.refl w.heap.size w).alloc (Nat.le_refl _) (.cells #[.slice none 0 0,.slice none 0 0] 69)
 have hq0:=hp_new w (.cells #[.slice none 0 0,.slice none 0 0] 69)
 have C1:=Hd (rfInner_c A n cap l (w.alloc (.cells #[.slice none 0 0,.slice none 0 0] 69)) ((h.below kb0).more kb0.size) hm)
 have hin:(innerE l).length≤1000:=by have:=inner_len l [];have:=h.len;unfold innerE;simp only[List.length_nil]at *;omega
 have hxs: ∀ x∈innerE l,x.tx.length≤20000:=fun x hx2=>hx x ((inner_sub l [] x (fun _ h=>h) hx2).resolve_right (fun h=>by cases h))
 have HXS:=Hd hxs
 have KB0:=Hd kb0
 have HQ0:=Hd hq0
 clear h hx kb0 hq0 hxs
 go_enter Tryz.func20,Tryz.ntmps20
 go_wp2_with fail
 refine C1.out.mono ?_
 rintro e w1 ⟨OA,oc,rfl,ho,hb⟩
 obtain⟨A1,c1,hv1,hr1⟩:=OwnC.rrd (c:=cE) (k:=6) (fun _=>rfl) (by decide) ho
 cases hv1
 have HB1:=Hd (KB0.out.trans (hb.mono KB0.out.size))
 have HQ1:Hid (w1.heap[w.heap.size]? =some (.cells #[.slice none 0 0,.slice none 0 0] 69 (0,0))):=Hd ((hb.block _ (by simp)).trans HQ0.out)
 have HP:Hid (∀ W,Below w1.heap.size w1 W→RRd cE 6 W W.heap.size OA (innerE l).length oc (innerE l)):=Hd fun W hb=>(hr1.below hb).more hb.size
 obtain⟨G,hG⟩: ∃ G,w1.heap.size=G:=⟨_,rfl⟩
 have P0:Hid (OfJ 69 G (((innerE l).take 0).map EntT.nm) [] w1 (w1.alloc (.cells #[.slice none 0 0,.slice none 0 0] 69))):=Hd (by
  have hq:=hp_new w1 (.cells #[.slice none 0 0,.slice none 0 0] 69)
  rw[hG]at hq
  exact⟨(Below.refl _ w1).alloc (by omega) _,by simp;omega,_,_,hq,OwnC.start _ _ _ _ _,GOwn.start _ _⟩)
 obtain⟨m,hml⟩: ∃ m,(innerE l).length=m:=⟨_,rfl⟩
 have HM:=Hd hml
 rw[hml]at HP hin ⊢
 rw[hG]at HP
 clear hr1 ho hb C1 KB0 HQ0 hml
 go_wp2_with fail
 go_loopg [5] (m) (fun g i wr=> ∃ (t:Nat) (rs:List IRow),i= .int .i64 (t:Int)∧t≤m∧Hid (g+t=m)∧Hid (rs.map IRow.l=(graphE l).take t)∧Hid (OfJ 69 G (((innerE l).take t).map EntT.nm) rs w1 wr))
 case atStart=>exact⟨0,[],rfl,Nat.zero_le _,Hd rfl,Hd rfl,P0⟩
 case round =>
  clear P0
  obtain⟨t,rs,rfl,ht,hg,HRS,HJ⟩:=hrel
  have ht0:(0:Int)≤(t:Int):=by omega
  have ht9:(t:Int)≤1000:=by omega
  by_cases htn:t<m
  · have hti:(t:Int)<(m:Int):=by omega
    obtain⟨x,hx0⟩: ∃ x,(innerE l)[t]? =some x:=⟨_,List.getElem?_eq_getElem (by rw[HM.out];exact htn)⟩
    have HX:=Hd hx0
    have HNT:Hid (((innerE l).take (t+1)).map EntT.nm=((innerE l).take t).map EntT.nm++ [x.nm]):=Hd (by rw[List.take_add_one,hx0];simp)
    have hlen:(((innerE l).take t).map EntT.nm).length≤1000000:=by simp;omega
    obtain⟨nms,hnms⟩: ∃ q,((innerE l).take t).map EntT.nm=q:=⟨_,rfl⟩
    rw[hnms]at HJ HNT hlen
    clear hnms
    obtain⟨jb,js,vN,vT,jq,jn,jt⟩:=HJ.out
    obtain⟨NA,nc,hvN⟩:=jn.form
    subst hvN
    have z0:=cell_of 0 jq
    have f0:=free_of 0 jq
    obtain⟨b1,o1,x',rfl,hb1,hx',hc1⟩:=(HP.out _ jb).cell htn
    rw[hx0]at hx'
    cases hx'
    have y0:wr.cell? ⟨b1,o1+t*6,none⟩=some (.string ⟨x.nm.toArray⟩):=by rw[show o1+t*6=o1+(t*6+0)by omega];exact hc1 0 _ rfl
    have HC:Hid (∀ (j:Nat) u,(cE x)[j]? =some u→wr.cell? ⟨b1,o1+(t*6+j),none⟩=some u):=Hd hc1
    clear hb1 hc1 hx0
    obtain⟨xn,hxn⟩: ∃ q,x.nm=q:=⟨_,rfl⟩
    rw[hxn]at y0
    have HXN:=Hd hxn
    clear hxn
    have ja:=hp_old (o:= .cells #[.string ⟨xn.toArray⟩] 9) jq
    have za:(wr.alloc (.cells #[.string ⟨xn.toArray⟩] 9)).cell? ⟨G,0,none⟩=some (.slice NA nms.length nc):=by rw[cell_of 0 ja];rfl
    have kb:Below wr.heap.size wr (wr.alloc (.cells #[.string ⟨xn.toArray⟩] 9)):=(Below.refl _ _).alloc (Nat.le_refl _) _
    have hown:OwnC cS1 1 9 (wr.alloc (.cells #[.string ⟨xn.toArray⟩] 9)).drew (G+1) (.slice NA nms.length nc) nms:=(jn.kept kb).keep fun _ _ _=>rfl
    have hba:G+1≤(wr.alloc (.cells #[.string ⟨xn.toArray⟩] 9)).drew.heap.size:=by show _≤(wr.alloc _).heap.size;rw[World.size_alloc];omega
    have hce: ∀ (j:Nat) u,(cS1 xn)[j]? =some u→(wr.alloc (.cells #[.string ⟨xn.toArray⟩] 9)).drew.cell? ((⟨wr.heap.size,0,none⟩:Addr).add j)=some u:=fun j u hu=>cell_newN wr (cS1 xn) 9 j u hu
    have HN: ∀ v6 w6,OwnC cS1 1 9 w6 (G+1) v6 (nms++ [xn])→(wr.alloc (.cells #[.string ⟨xn.toArray⟩] 9)).drew.grownBy w6 (Value.slice NA nms.length nc).ownBlock→ ∃ A6 n6 c6,v6= .slice A6 n6 c6∧Hid (OfJ 69 G (nms++ [xn]) rs w1 (w6.setCell ⟨G,0,none⟩ (.slice A6 n6 c6)))∧w6.heap[G]? =some (.cells #[.slice NA nms.length nc,vT] 69 (0,0)):=by
     intro v6 w6 h6 hg6
     obtain⟨A6,c6,e6⟩:=h6.form
     subst e6
     have hq6:w6.heap[G]? =some (.cells #[.slice NA nms.length nc,vT] 69 (0,0)):=by
      rw[hg6.block G (by show G<(wr.alloc _).heap.size;rw[World.size_alloc];omega) (fun e=>by have:=(hown.ge e.symm).2;omega)]
      exact ja
     refine⟨A6,_,c6,rfl,Hd ⟨?_,?_,.slice A6 (nms++ [xn]).length c6,vT,hp_set hq6,h6.keep fun g h _=>hp_other (by omega),?_⟩,hq6⟩
     · have h0:Below G w1 (wr.alloc (.cells #[.string ⟨xn.toArray⟩] 9)).drew:=below_drewN' (n:=1) (jb.trans (kb.mono (Nat.le_of_lt js)))
       exact(h0.grown hg6 (by show G≤(wr.alloc _).heap.size;rw[World.size_alloc];omega) (fun j hj=>by have:=(hown.ge hj).2;omega)).setCell (p:=⟨G,0,none⟩) (Nat.le_refl _) _
     · have:=hg6.size
       show G<(w6.setCell _ _).heap.size
       rw[World.size_setCell]
       have h7:(wr.alloc (.cells #[.string ⟨xn.toArray⟩] 9)).heap.size≤w6.heap.size:=this
       rw[World.size_alloc]at h7
       omega
     · exact(((jt.kept kb).keep (w':=(wr.alloc (.cells #[.string ⟨xn.toArray⟩] 9)).drew) fun _ _ _=>rfl).other hown (by decide) (by decide) hg6).keep fun g h _=>hp_other (by omega)
    go_wp2_with fail
    go_region_law (refine stepAppC rfl (.tmp 20) (.tmp 26) rfl Tryz.underlying57 info_str rfl (by decide) (by decide) (G+1) _ _ rfl hown ⟨wr.heap.size,0,none⟩ rfl xn rfl (by simp[cS1,Value.oneCell']) hce hlen hba ?_;intro v6 w6 h6 hg6;obtain⟨A6,n6,c6,rfl,K6,q6⟩:=HN v6 w6 h6 hg6;clear h6 hg6;have u0:=cell_of 0 q6;have g0:=free_of 0 q6)
    all_goals
     clear jn jt ja za kb hown hba hce z0 f0 y0 HN u0 g0 q6 jq jb js hlen
     generalize w6.setCell ⟨G,0,none⟩ (.slice A6 n6 c6)=wa at *
     obtain⟨b1',o1',x',hA',hb1',hx',hc1'⟩:=(HP.out _ K6.out.1).cell htn
     cases hA'
     rw[HX.out]at hx'
     cases hx'
     have y1:wa.cell? ⟨b1,o1+t*6+1,none⟩=some (.string ⟨x.tx.toArray⟩):=by rw[show o1+t*6+1=o1+(t*6+1)by omega];exact hc1' 1 _ rfl
     have hxl:=HXS.out x (List.mem_of_getElem? HX.out)
     have CN:=Hd (rfNames_c x.tx wa hxl)
     have HGT:=Hd (graph_take HX.out)
     obtain⟨xt,hxt⟩: ∃ q,x.tx=q:=⟨_,rfl⟩
     rw[hxt]at y1 hxl CN HGT
     clear hb1' hc1' hxt
     go_wp2_with fail
     refine CN.out.mono ?_
     rintro e w7 ⟨WA,wc,rfl,hwo,hwb⟩
     clear CN y1
     obtain⟨A7,c7,hv7,hr7⟩:=OwnC.rrd (c:=cS1) (k:=1) (fun _=>rfl) (by decide) hwo
     cases hv7
     have K7:=Hd (K6.out.kept hwb)
     have HW:Hid (∀ W,Below w7.heap.size w7 W→RRd cS1 1 W W.heap.size WA (eachL xt).length wc (eachL xt)):=Hd fun W hb=>(hr7.below hb).more hb.size
     have hel:(eachL xt).length≤20000:=by have:=eachL_len xt;omega
     obtain⟨ws,hws⟩: ∃ q,eachL xt=q:=⟨_,rfl⟩
     rw[hws]at HW hel HGT ⊢
     have hmt:Hid (ws.length=ws.length):=Hd rfl
     obtain⟨q,hq⟩: ∃ q,ws.length=q:=⟨_,rfl⟩
     have HQ:=Hd hq
     rw[hq]at HW hel ⊢
     clear hr7 hwo hwb hq hws hmt K6
     have T0:Hid (Below w7.heap.size w7 w7∧OwnC cI 1 3 w7 w7.heap.size (.slice none 0 0) (toE ((innerE l).map EntT.nm) (ws.take 0))):=Hd ⟨Below.refl _ _,OwnC.start _ _ _ _ _⟩
     go_wp2_with fail
     generalize wr=wq9 at *
     go_loopg [7,8] (q) (fun g v i wr=> ∃ k:Nat,i= .int .i64 (k:Int)∧k≤q∧Hid (g+k=q)∧Hid (Below w7.heap.size w7 wr∧OwnC cI 1 3 wr w7.heap.size v (toE ((innerE l).map EntT.nm) (ws.take k))))
     case atStart=>exact⟨0,rfl,Nat.zero_le _,Hd rfl,T0⟩
     case round =>
       clear T0
       obtain⟨k,rfl,hk,hgk,HK⟩:=hrel
       have hk0:(0:Int)≤(k:Int):=by omega
       have hk9:(k:Int)≤20000:=by omega
       obtain⟨TA,tc,hvt⟩:=HK.out.2.form
       subst hvt
       have HBG:Hid (Below G w1 wr):=Hd (K7.out.1.trans (HK.out.1.mono (Nat.le_of_lt K7.out.2.1)))
       by_cases hkq:k<q
       · have hki:(k:Int)<(q:Int):=by omega
         obtain⟨b2,o2,y,rfl,hb2,hy,hc2⟩:=(HW.out wr HK.out.1).cell hkq
         have u0:wr.cell? ⟨b2,o2+k,none⟩=some (.string ⟨y.toArray⟩):=by rw[show o2+k=o2+(k*1+0)by omega];exact hc2 0 _ rfl
         have FD:=Hd (rfFindE_c (some ⟨b1,o1,none⟩) m oc (innerE l) y wr (HP.out wr HBG.out) (by omega))
         have HT:=Hd (toE_take (names:=(innerE l).map EntT.nm) hy)
         have hal:(toE ((innerE l).map EntT.nm) (ws.take k)).length≤20000:=by
          have:=toE_len ((innerE l).map EntT.nm) (ws.take k)
          rw[List.length_take]at this
          omega
         obtain⟨acc,hacc⟩: ∃ p,toE ((innerE l).map EntT.nm) (ws.take k)=p:=⟨_,rfl⟩
         rw[hacc]at HT HK hal ⊢
         clear hb2 hy hc2 hacc
         by_cases hmem:y∈(innerE l).map EntT.nm
         · obtain⟨ix,hix⟩: ∃ p,((innerE l).map EntT.nm).idxOf y=p:=⟨_,rfl⟩
           have hfn:fndN ((innerE l).map EntT.nm) y=(ix:Int):=by unfold fndN;rw[if_pos hmem,hix]
           have HE:Hid (toE ((innerE l).map EntT.nm) (ws.take (k+1))=acc++ [ix]):=Hd (by rw[HT.out,if_pos hmem,hix])
           rw[hfn]at FD
           have hix0:(ix:Int)≥0:=by omega
           have hown:wr.ownsRow w7.heap.size 3 1 (.slice TA acc.length tc) acc.length (acc.flatMap cI):=HK.out.2
           have hpl:acc.length≤1000000000:=by omega
           have hba:w7.heap.size≤wr.heap.size:=HK.out.1.size
           clear hmem hix hfn HT
           go_wp2_with fail
           refine FD.out.mono ?_
           rintro e w9 ⟨rfl,rfl⟩
           go_wp2_with (at_builtin;refine wpList_appK rfl (.tmp 49) (.tmp 51) 100 3 rfl (.int .i64 0) 1 8 Tryz.underlying100 infoC_int rfl (by decide) _ _ _ _ rfl hown (cI ix) _ rfl rfl rfl (by simp[cI,Value.oneCell']) hpl (by decide) hba ?_)
           intro v6 w6 hown6 hg6 hat6
           have O6:=Hd (OwnC.snoc (c:=cI) (x:=ix) hown6)
           have kb:=(Below.refl wr.heap.size wr).alloc (Nat.le_refl _) (.cells (cI ix).toArray 3)
           have HB6:=Hd ((HK.out.1.trans (kb.mono HK.out.1.size)).grown hg6 (by rw[World.size_alloc wr];omega) (fun j hj=>(HK.out.2.ge hj).2))
           clear hown6 hg6 hat6 hown kb hba
           go_wp2
           go_roundg (q - (k+1))
           case measure=>have:=hgk.out;omega
           case rel=>exact⟨k+1,by go_num,by omega,Hd (by have:=hgk.out;omega),Hd (by rw[HE.out];exact⟨HB6.out,O6.out⟩)⟩
         · have hfn:fndN ((innerE l).map EntT.nm) y= -1:=by unfold fndN;rw[if_neg hmem]
           have HE:Hid (toE ((innerE l).map EntT.nm) (ws.take (k+1))=acc):=Hd (by rw[HT.out,if_neg hmem,List.append_nil])
           rw[hfn]at FD
           clear hmem hfn HT
           go_wp2_with fail
           refine FD.out.mono ?_
           rintro e w9 ⟨rfl,rfl⟩
           go_wp2
           go_roundg (q - (k+1))
           case measure=>have:=hgk.out;omega
           case rel=>exact⟨k+1,by go_num,by omega,Hd (by have:=hgk.out;omega),Hd (by rw[HE.out];exact HK.out)⟩
       · have hki: ¬ (k:Int)<(q:Int):=by omega
         have hJ:=HK.out
         have htk:ws.take k=ws:=List.take_of_length_le (by rw[HQ.out];omega)
         rw[htk]at hJ ⊢
         obtain⟨jb,js,vN,vT,jq,jn,jt⟩:=K7.out.kept HK.out.1
         obtain⟨acc,hacc⟩: ∃ p,toE ((innerE l).map EntT.nm) ws=p:=⟨_,rfl⟩
         rw[hacc]at hJ HGT ⊢
         have hrl:rs.length≤1000:=by
           have h9:=congrArg List.length HRS.out
           rw[List.length_map,List.length_take]at h9
           omega
         have HAC:Hid (OwnC cI 1 3 wr (G+1) (.slice TA acc.length tc) acc):=Hd (hJ.2.base K7.out.2.1)
         obtain⟨TA2,tc2,hvT⟩:=jt.row.form
         subst hvT
         have z1:=cell_of 1 jq
         have JJ:=Hd (And.intro jb (And.intro js (And.intro jq (And.intro jn jt))))
         have hown:wr.ownsRow (G+1) 100 1 (.slice TA2 rs.length tc2) rs.length (rs.flatMap cIR):=jt.row
         have hpl:rs.length≤1000000000:=by omega
         have hba:G+1≤wr.heap.size:=js
         clear htk hacc hJ jb js jq jn jt
         go_wp2_with (at_builtin;refine wpList_appK rfl (.tmp 54) (.tmp 56) 58 100 rfl (.slice none 0 0) 1 24 Tryz.underlying58 infoC_ints rfl (by decide) _ _ _ _ rfl hown (cIR ⟨TA,acc.length,tc,acc⟩) _ rfl rfl rfl (by simp[cIR,Value.oneCell']) hpl (by decide) hba ?_)
         intro v6 w6 hown6 hg6 hat6
         have hs6:=hg6.size
         rw[World.size_alloc]at hs6
         have kb:=(Below.refl wr.heap.size wr).alloc (Nat.le_refl _) (.cells (cIR ⟨TA,acc.length,tc,acc⟩).toArray 100)
         have O6:OwnC cIR 1 100 w6 (G+1) v6 (rs++ [⟨TA,acc.length,tc,acc⟩]):=OwnC.snoc (c:=cIR) (x:=⟨TA,acc.length,tc,acc⟩) hown6
         obtain⟨A6,c6,e6⟩:=O6.form
         subst e6
         have hq6:w6.heap[G]? =some (.cells #[vN,.slice TA2 rs.length tc2] 69 (0,0)):=by
           rw[hg6.block G (by rw[World.size_alloc];omega) (fun e=>by have:=(JJ.out.2.2.2.2.row.ge e.symm).2;omega)]
           exact hp_old JJ.out.2.2.1
         have x1:=cell_of 1 hq6
         have g1:=free_of 1 hq6
         have HNX:Hid (OfJ 69 G (nms++ [xn]) (rs++ [⟨TA,acc.length,tc,acc⟩]) w1 (w6.setCell ⟨G,1,none⟩ (.slice A6 (rs++ [(⟨TA,acc.length,tc,acc⟩:IRow)]).length c6))):=Hd (by
           refine⟨?_,by rw[World.size_setCell];omega,vN,_,hp_set hq6,?_,?_⟩
           · exact((JJ.out.1.trans (kb.mono (Nat.le_of_lt JJ.out.2.1))).grown hg6 (by rw[World.size_alloc];omega) (fun j hj=>by have:=(JJ.out.2.2.2.2.row.ge hj).2;omega)).setCell (p:=⟨G,1,none⟩) (Nat.le_refl _) _
           · exact((JJ.out.2.2.2.1.kept kb).grown (JJ.out.2.2.2.2.row.kept kb) (by decide) hg6).keep fun g h _=>hp_other (by omega)
           · exact(GOwn.snoc (JJ.out.2.2.2.2.kept kb) (HAC.out.kept kb) rfl hg6 O6).keep fun g h _=>hp_other (by omega))
         have HRN:Hid ((rs++ [(⟨TA,acc.length,tc,acc⟩:IRow)]).map IRow.l=(graphE l).take (t+1)):=Hd (by rw[HGT.out,← HRS.out,List.map_append];rfl)
         obtain⟨n6,hn6⟩: ∃ p,(rs++ [(⟨TA,acc.length,tc,acc⟩:IRow)]).length=p:=⟨_,rfl⟩
         rw[hn6]at HNX ⊢
         have HNA:=Hd (show((innerE l).take (t+1)).map EntT.nm=nms++ [xn]by rw[HNT.out,HXN.out])
         clear hown6 hg6 hat6 hown kb hba O6 JJ hq6 hn6 z1 hs6
         go_wp2
         go_roundg (m - (t+1))
         case measure=>have:=hg.out;omega
         case rel=>exact⟨t+1,_,by go_num,by omega,Hd (by have:=hg.out;omega),HRN,Hd (by rw[HNA.out];exact HNX.out)⟩
  · have hti: ¬ (t:Int)<(m:Int):=by omega
    have hJ:=HJ.out
    rw[List.take_of_length_le (by rw[HM.out];omega)]at hJ
    have hR:=HRS.out
    rw[List.take_of_length_le (by rw[graphE_len,HM.out];omega)]at hR
    obtain⟨jb,js,vN,vT,jq,jn,jt⟩:=hJ
    have hGS:w.heap.size<G:=by have:=HB1.out.size;have:=lt_of HQ1.out;omega
    obtain⟨NA,nc,hvN⟩:=jn.form
    obtain⟨TA,tc,hvT⟩:=jt.row.form
    have hl1:((innerE l).map EntT.nm).length=m:=by rw[List.length_map,HM.out]
    have hl2:rs.length=m:=by have:=congrArg List.length hR;rw[List.length_map,graphE_len,HM.out]at this;exact this
    rw[hl1]at hvN
    rw[hl2]at hvT
    subst hvN hvT
    have z0:=cell_of 0 jq
    have z1:=cell_of 1 jq
    have HQ2:Hid (wr.heap[w.heap.size]? =some (.cells #[.slice none 0 0,.slice none 0 0] 69 (0,0))):=Hd ((jb.block _ hGS).trans HQ1.out)
    have hi:(Tryz.prog.info? 69).map (·.size)=some 2:=by kernel_rfl
    obtain⟨d,hu⟩:=isStruct_of (P:=Tryz.prog) (t:=69) (by kernel_rfl)
    have HU:=Hd (And.intro hi hu)
    have HQ3:Hid ((wr.setRow w.heap.size #[.slice NA m nc,.slice TA m tc]).heap[w.heap.size]? =some (.cells #[.slice NA m nc,.slice TA m tc] 69 (0,0))):=Hd (setRow_heap _ _ _ _ _ _ HQ2.out)
    have on:=jn.keep (w':=wr.setRow w.heap.size #[.slice NA m nc,.slice TA m tc]) fun g h _=>setRow_other _ _ _ _ (by omega)
    have ot:=jt.keep (w':=wr.setRow w.heap.size #[.slice NA m nc,.slice TA m tc]) fun g h _=>setRow_other _ _ _ _ (by omega)
    obtain⟨NA2,nc2,hvN2,hrn⟩:=OwnC.rrd (c:=cS1) (k:=1) (fun _=>rfl) (by decide) on
    obtain⟨TA2,tc2,hvT2,hrt⟩:=ot.rd
    rw[hl1]at hvN2 hrn
    rw[hl2]at hvT2 hrt
    cases hvN2
    cases hvT2
    have HBF:Below w.heap.size w (wr.setRow w.heap.size #[.slice NA m nc,.slice TA m tc]):=by
     have hb9:Below w.heap.size w wr:=HB1.out.trans (jb.mono (by omega))
     refine⟨hb9.os,hb9.tape,hb9.output,?_,fun k hk=> ?_⟩
     · have:=hb9.size
       simpa [World.setRow] using this
     · rw[setRow_other _ _ _ _ (by omega)]
       exact hb9.block k hk
    have HF:=Hd (And.intro hR (And.intro hrn (And.intro hrt HBF)))
    clear hi hu jb js jn jt hR hl1 hl2 on ot hrn hrt HBF HJ HRS
    go_wp2_with (first|(refine wpList_load_row rfl _ _ rfl G rfl _ _ _ _ jq HU.out.2 rfl HU.out.1 ?_)|(refine wpList_store_row rfl _ _ _ rfl w.heap.size #[.slice NA m nc,.slice TA m tc] rfl rfl _ _ HQ2.out (by kernel_rfl) rfl (by kernel_rfl) ?_))
    (try simp only[Exit.inBlock,Exit.then])
    have e9:=HM.out
    subst e9
    exact bodyPost_ret (results_cell_row rfl _ _ w.heap.size _ _ _ _ rfl HQ3.out HU.out.2 rfl HU.out.1) rfl ⟨NA,nc,TA,tc,rfl,rs,HF.out.1,HF.out.2.1,HF.out.2.2.1,HF.out.2.2.2⟩
def fndE (l:List EntT)(s:List UInt8):Option EntT:=l.find? (fun x=>decide (x.nm=s))
theorem rfsA_sub (b:List UInt8): ∀ (m t:Nat),b.length - t≤m→ ∀ r∈rfsA b t,∃ k,t≤k∧rfsA b k=r :: rfsA b r.2.1∧r=(k,(refOut 38 b k).2.1,(refOut 38 b k).1)∧(refOut 38 b k).2.2=0:=by
 intro m
 induction m with
 |zero=>intro t h r hr;rw[rfsA_end b t (by omega)]at hr;cases hr
 |succ m ih =>
  intro t h r hr
  by_cases ht:t<b.length
  · by_cases h0:(refOut 38 b t).2.2=0
    · have hn:=refOut_nx b t h0
      have he:=rfsA_ref b t h0
      rw[he]at hr
      rcases List.mem_cons.1 hr with rfl|hr
      · exact⟨t,Nat.le_refl _,he,rfl,h0⟩
      · obtain⟨k,h1,h2⟩:=ih _ (by omega) r hr
        exact⟨k,by omega,h2⟩
    · rw[rfsA_no b t ht h0]at hr
      obtain⟨k,h1,h2⟩:=ih _ (by omega) r hr
      exact⟨k,by omega,h2⟩
  · rw[rfsA_end b t (by omega)]at hr;cases hr
def capN:Nat:=9223372036854775807
def satN (n:Nat):Nat:=min n capN
theorem satN_le (n:Nat):satN n≤9223372036854775807:=Nat.min_le_right _ _
theorem satN_id {n:Nat}(h:n≤9223372036854775807):satN n=n:=Nat.min_eq_left h
theorem hold_c (x:Nat)(w:World):Calls Tryz.prog 39 #[.int .i64 x] w fun e w'=>e= .returned (.int .i64 x)∧w=w':=by
 have h:max (x:Int) 0=x:=by omega
 go_enter Tryz.func39,Tryz.ntmps39
 go_wp2
 go_ret
 exact⟨by simp,rfl⟩
theorem rhold_c (x:Nat)(w:World):Calls Tryz.prog 46 #[.int .i64 x] w fun e w'=>e= .returned (.int .i64 x)∧w=w':=by
 have h: ¬ (x:Int)<0:=by omega
 go_enter Tryz.func46,Tryz.ntmps46
 go_wp2
 go_ret
 exact⟨by simp,rfl⟩
theorem satAdd_c (x y:Nat)(hx:x≤9223372036854775807)(hy:y≤9223372036854775807)(w:World):Calls Tryz.prog 41 #[.int .i64 x,.int .i64 y] w fun e w'=>e= .returned (.int .i64 (satN (x+y):Nat))∧w=w':=by
 have CX:Hid (∀ W,Calls Tryz.prog 39 #[.int .i64 x] W fun e w'=>e= .returned (.int .i64 x)∧W=w'):=Hd fun W=>hold_c x W
 have CY:Hid (∀ W,Calls Tryz.prog 39 #[.int .i64 y] W fun e w'=>e= .returned (.int .i64 y)∧W=w'):=Hd fun W=>hold_c y W
 have HS:Hid (((satN (x+y):Nat):Int)=min ((x:Int)+y) 9223372036854775807):=Hd (by unfold satN capN;omega)
 go_enter Tryz.func41,Tryz.ntmps41
 go_wp2_with fail
 refine(CX.out _).mono ?_
 rintro e wq ⟨rfl,rfl⟩
 go_wp2_with fail
 refine(CY.out _).mono ?_
 rintro e wq ⟨rfl,rfl⟩
 go_wp2
 go_ret
 exact⟨by rw[HS.out];rfl,rfl⟩
theorem rAdd_c (x y:Nat)(hx:x≤9223372036854775807)(hy:y≤9223372036854775807)(w:World):Calls Tryz.prog 25 #[.int .i64 x,.int .i64 y] w fun e w'=>e= .returned (.int .i64 (satN (x+y):Nat))∧w=w':=by
 have CX:Hid (∀ W,Calls Tryz.prog 46 #[.int .i64 x] W fun e w'=>e= .returned (.int .i64 x)∧W=w'):=Hd fun W=>rhold_c x W
 have CY:Hid (∀ W,Calls Tryz.prog 46 #[.int .i64 y] W fun e w'=>e= .returned (.int .i64 y)∧W=w'):=Hd fun W=>rhold_c y W
 by_cases hxy:9223372036854775807 - (y:Int)<(x:Int)
 · have HS:Hid (((satN (x+y):Nat):Int)=9223372036854775807):=Hd (by unfold satN capN;omega)
   go_enter Tryz.func25,Tryz.ntmps25
   go_wp2_with fail
   refine(CX.out _).mono ?_
   rintro e wq ⟨rfl,rfl⟩
   go_wp2_with fail
   refine(CY.out _).mono ?_
   rintro e wq ⟨rfl,rfl⟩
   go_wp2
   go_ret
   exact⟨by rw[HS.out];rfl,rfl⟩
 · have HS:Hid (((satN (x+y):Nat):Int)=(x:Int)+y):=Hd (by unfold satN capN;omega)
   go_enter Tryz.func25,Tryz.ntmps25
   go_wp2_with fail
   refine(CX.out _).mono ?_
   rintro e wq ⟨rfl,rfl⟩
   go_wp2_with fail
   refine(CY.out _).mono ?_
   rintro e wq ⟨rfl,rfl⟩
   go_wp2
   go_ret
   exact⟨by rw[HS.out];rfl,rfl⟩
def bsB (l:List Bool):Array Value:=(l.map Value.bool).toArray
def nsI (l:List Nat):Array Value:=(l.map fun n=>Value.int .i64 (n:Nat)).toArray
theorem bsB_get (l:List Bool)(i:Nat)(h:i<l.length):(bsB l)[i]? =some (.bool (l.getD i false)):=by
 unfold bsB
 rw[List.getElem?_toArray,List.getElem?_map,List.getD_eq_getElem?_getD,List.getElem?_eq_getElem h]
 rfl
theorem nsI_get (l:List Nat)(i:Nat)(h:i<l.length):(nsI l)[i]? =some (.int .i64 ((l.getD i 0:Nat):Int)):=by
 unfold nsI
 rw[List.getElem?_toArray,List.getElem?_map,List.getD_eq_getElem?_getD,List.getElem?_eq_getElem h]
 rfl
theorem bsB_set (l:List Bool)(i:Nat)(b:Bool):(bsB l).setIfInBounds i (.bool b)=bsB (l.set i b):=by
 unfold bsB
 rw[List.setIfInBounds_toArray,List.map_set]
theorem nsI_set (l:List Nat)(i n:Nat):(nsI l).setIfInBounds i (.int .i64 (n:Nat))=nsI (l.set i n):=by
 unfold nsI
 rw[List.setIfInBounds_toArray,List.map_set]
theorem mk_bool (w:World)(n:Nat)(hn:n≤100000):(Instr.makeSlice 108 (.int .i64 (n:Int)) (.int .i64 (n:Int))).run Tryz.prog w= .ok (.slice (some ⟨w.heap.size,0,none⟩) n n) (w.alloc (.cells (bsB (List.replicate n false)) 4)):=by
 obtain⟨i,h1,h2,h3,h4⟩:=info_parts (show(Tryz.prog.info? 4).map (fun i=>(i.zero,i.size,i.bytes))=some (some (.bool false),1,1)by kernel_rfl)
 have:=run_make (P:=Tryz.prog) w 108 4 i (.bool false) Tryz.underlying108 h1 h2 .i64 .i64 (n:Int) (n:Int) (by omega) (by omega) (by rw[h4];omega) (by omega)
 rw[h3,Nat.mul_one,Int.toNat_natCast,show(Value.bool false).cells= #[.bool false] from rfl]at this
 rw[this]
 have e:madeCells #[.bool false] n=bsB (List.replicate n false):=by
  apply Array.toList_inj.1
  rw[toList_madeCells_one]
  simp[bsB]
 rw[e]
theorem mk_int (w:World)(n:Nat)(hn:n≤100000):(Instr.makeSlice 100 (.int .i64 (n:Int)) (.int .i64 (n:Int))).run Tryz.prog w= .ok (.slice (some ⟨w.heap.size,0,none⟩) n n) (w.alloc (.cells (nsI (List.replicate n 0)) 3)):=by
 obtain⟨i,h1,h2,h3,h4⟩:=info_parts (show(Tryz.prog.info? 3).map (fun i=>(i.zero,i.size,i.bytes))=some (some (.int .i64 0),1,8)by kernel_rfl)
 have:=run_make (P:=Tryz.prog) w 100 3 i (.int .i64 0) Tryz.underlying100 h1 h2 .i64 .i64 (n:Int) (n:Int) (by omega) (by omega) (by rw[h4];omega) (by omega)
 rw[h3,Nat.mul_one,Int.toNat_natCast,show(Value.int .i64 0).cells= #[.int .i64 0] from rfl]at this
 rw[this]
 have e:madeCells #[.int .i64 0] n=nsI (List.replicate n 0):=by
  apply Array.toList_inj.1
  rw[toList_madeCells_one]
  simp[nsI]
 rw[e]
def LdJ (T:TypeId)(cs:Array Value)(tq:List Bool)(w W:World):Prop :=
 Below (w.heap.size+1) (w.alloc (.cells cs T)) W∧w.heap.size+1<W.heap.size∧W.heap[w.heap.size+1]? =some (.cells (bsB tq) 4 (0,0))
theorem LdJ.graph {T:TypeId}{cs:Array Value}{tq:List Bool}{w W:World}(h:LdJ T cs tq w W):W.heap[w.heap.size]? =some (.cells cs T (0,0)):=(h.1.block _ (by omega)).trans (hp_new w _)
theorem LdJ.old {T:TypeId}{cs:Array Value}{tq:List Bool}{w W:World}(h:LdJ T cs tq w W):Below w.heap.size w W:=((Below.refl _ w).alloc (Nat.le_refl _) _).trans (h.1.mono (by omega))
theorem LdJ.set {T:TypeId}{cs:Array Value}{tq:List Bool}{w W:World}(h:LdJ T cs tq w W)(j:Nat):LdJ T cs (tq.set j true) w (W.setCell ⟨w.heap.size+1,j,none⟩ (.bool true)) :=
 ⟨h.1.setCell (p:=⟨w.heap.size+1,j,none⟩) (Nat.le_refl _) _,by rw[World.size_setCell];exact h.2.1,by rw[hp_set h.2.2,bsB_set]⟩
theorem rfLeads_c (NA:Option Addr)(nc:Nat)(TA:Option Addr)(n tc src:Nat)(rs:List IRow)(g:List (List Nat))(w:World)(hrs:rs.map IRow.l=g)(h:GRd w w.heap.size TA n tc rs)(hok:okG g)(hm:n≤1000)(hs: ∀ t∈g,t.length≤100000)(hsrc:src≤1000000) :
 Calls Tryz.prog 43 #[.agg #[.slice NA n nc,.slice TA n tc],.int .i64 (src:Int)] w fun e w'=>e= .returned (.slice (some ⟨w.heap.size+1,0,none⟩) n n)∧w'.heap[w.heap.size+1]? =some (.cells (bsB (leadsL g src)) 4 (0,0))∧Below w.heap.size w w':=by
 have hln:g.length=n:=by rw[← hrs,List.length_map];exact h.row.len
 have HP:Hid (∀ W,Below w.heap.size w W→GRd W W.heap.size TA n tc rs):=Hd fun W hb=>(h.below hb).more hb.size
 have HS:=Hd hs
 have HOK:=Hd hok
 have HRS:=Hd hrs
 have HLN:=Hd hln
 have mk:=fun W=>mk_bool W n (by omega)
 have J0:Hid (LdJ 69 #[.slice NA n nc,.slice TA n tc] (roundsL g src (List.replicate n false) 0) w ((w.alloc (.cells #[.slice NA n nc,.slice TA n tc] 69)).alloc (.cells (bsB (List.replicate n false)) 4))):=Hd (by
  refine⟨(Below.refl _ _).alloc (by simp) _,by simp,?_⟩
  have:=hp_new (w.alloc (.cells #[.slice NA n nc,.slice TA n tc] 69)) (.cells (bsB (List.replicate n false)) 4)
  rw[World.size_alloc]at this
  exact this)
 have z1:(w.alloc (.cells #[.slice NA n nc,.slice TA n tc] 69)).cell? ⟨w.heap.size,1,none⟩=some (.slice TA n tc):=by rw[cell_of 1 (hp_new w _)];rfl
 clear h hs hok hrs hln
 go_enter Tryz.func43,Tryz.ntmps43
 go_wp2
 clear z1
 go_loopg [6] (n+1) (fun gq i wr=> ∃ r:Nat,i= .int .i64 (r:Int)∧r≤n+1∧Hid (gq+r=n+1)∧Hid (LdJ 69 #[.slice NA n nc,.slice TA n tc] (roundsL g src (List.replicate n false) r) w wr))
 case atStart=>exact⟨0,rfl,Nat.zero_le _,Hd rfl,J0⟩
 case round =>
  clear J0
  obtain⟨r,rfl,hr,hgr,HJ⟩:=hrel
  have hr0:(0:Int)≤(r:Int):=by omega
  have hr9:(r:Int)≤1001:=by omega
  have z1:=cell_of 1 HJ.out.graph
  by_cases hrn:r≤n
  · have hri:(r:Int)≤(n:Int):=by omega
    obtain⟨tq,hto⟩: ∃ q,roundsL g src (List.replicate n false) r=q:=⟨_,rfl⟩
    have HT:Hid (roundsL g src (List.replicate n false) (r+1)=rowsL g src tq n):=Hd (by rw[roundsL,hto,HLN.out])
    have htl:tq.length=n:=by rw[← hto,roundsL_len];simp
    have HTL:=Hd htl
    rw[hto]at HJ
    have J1:Hid (LdJ 69 #[.slice NA n nc,.slice TA n tc] (rowsL g src tq 0) w wr):=HJ
    clear hto htl
    go_wp2_with fail
    clear z1
    generalize wr=w9 at *
    go_loopg [7] (n) (fun gq i wr=> ∃ t:Nat,i= .int .i64 (t:Int)∧t≤n∧Hid (gq+t=n)∧Hid (LdJ 69 #[.slice NA n nc,.slice TA n tc] (rowsL g src tq t) w wr))
    case atStart=>exact⟨0,rfl,Nat.zero_le _,Hd rfl,J1⟩
    case round =>
     clear J1
     obtain⟨t,rfl,ht,hgt,HI⟩:=hrel
     have ht0:(0:Int)≤(t:Int):=by omega
     have ht9:(t:Int)≤1000:=by omega
     have z1:=cell_of 1 HI.out.graph
     by_cases htn:t<n
     · have hti:(t:Int)<(n:Int):=by omega
       obtain⟨b1,o1,ir,rfl,hb1,hir,hc1⟩:=(HP.out wr HI.out.old).row.cell htn
       have y1:wr.cell? ⟨b1,o1+t,none⟩=some (.slice ir.A ir.n ir.c):=by rw[show o1+t=o1+(t*1+0)by omega];exact hc1 0 _ rfl
       have HIR:=Hd hir
       have hmem:ir∈rs:=List.mem_of_getElem? hir
       have HRW:Hid (∀ W,Below w.heap.size w W→RRd cI 1 W W.heap.size ir.A ir.n ir.c ir.l):=Hd fun W hb=>(HP.out W hb).rows ir hmem
       have hgt2:g[t]? =some ir.l:=by rw[← HRS.out,List.getElem?_map,hir];rfl
       have HJL:=Hd (HOK.out t ir.l hgt2)
       have hil:=(HRW.out wr HI.out.old).len
       have hq9:ir.n≤100000:=by rw[← hil];exact HS.out _ (List.mem_of_getElem? hgt2)
       obtain⟨cur,hcur⟩: ∃ q,rowsL g src tq t=q:=⟨_,rfl⟩
       have HT2:Hid (rowsL g src tq (t+1)=(ir.l).foldl (edgeL src t) cur):=Hd (by rw[rowsL,hcur,List.getD_eq_getElem?_getD,hgt2];rfl)
       have hcl:cur.length=n:=by rw[← hcur,rowsL_len];exact HTL.out
       rw[hcur]at HI
       obtain⟨iA,q,iC,il⟩:=ir
       simp only at y1 HRW hil hq9 HT2 HJL
       have HCL:=Hd hcl
       have HIL:=Hd hil
       have J2:Hid (LdJ 69 #[.slice NA n nc,.slice (some ⟨b1,o1,none⟩) n tc] ((il.take 0).foldl (edgeL src t) cur) w wr):=HI
       clear hb1 hc1 hmem hgt2 hcur hcl hil hir
       go_wp2_with fail
       clear z1 y1
       generalize wr=w8 at *
       go_loopg [8] (q) (fun gq i wr=> ∃ k:Nat,i= .int .i64 (k:Int)∧k≤q∧Hid (gq+k=q)∧Hid (LdJ 69 #[.slice NA n nc,.slice (some ⟨b1,o1,none⟩) n tc] ((il.take k).foldl (edgeL src t) cur) w wr))
       case atStart=>exact⟨0,rfl,Nat.zero_le _,Hd rfl,J2⟩
       case round =>
        clear J2
        obtain⟨k,rfl,hk,hgk,HK⟩:=hrel
        have hk0:(0:Int)≤(k:Int):=by omega
        have hk9:(k:Int)≤100000:=by omega
        have z1:=cell_of 1 HK.out.graph
        obtain⟨b1',o1',ir',hA',_,hir',hc1'⟩:=(HP.out wr HK.out.old).row.cell htn
        cases hA'
        rw[HIR.out]at hir'
        cases hir'
        have y1:wr.cell? ⟨b1,o1+t,none⟩=some (.slice iA q iC):=by rw[show o1+t=o1+(t*1+0)by omega];exact hc1' 0 _ rfl
        clear hc1'
        by_cases hkq:k<q
        · have hki:(k:Int)<(q:Int):=by omega
          obtain⟨b3,o3,j,rfl,hb3,hj,hc3⟩:=(HRW.out wr HK.out.old).cell hkq
          have y2:wr.cell? ⟨b3,o3+k,none⟩=some (.int .i64 (j:Int)):=by rw[show o3+k=o3+(k*1+0)by omega];exact hc3 0 _ rfl
          have hjn:j<n:=by have:=HJL.out j (List.mem_of_getElem? hj);rw[HLN.out]at this;exact this
          have hj0:(0:Int)≤(j:Int):=by omega
          have hji:(j:Int)<(n:Int):=by omega
          have HFS:Hid ((il.take (k+1)).foldl (edgeL src t) cur=edgeL src t ((il.take k).foldl (edgeL src t) cur) j):=Hd (by rw[List.take_add_one,hj,List.foldl_append];rfl)
          have htkl:((il.take k).foldl (edgeL src t) cur).length=n:=by rw[edges_len];exact HCL.out
          obtain⟨tk,htk⟩: ∃ p,(il.take k).foldl (edgeL src t) cur=p:=⟨_,rfl⟩
          rw[htk]at HFS htkl HK
          have c1:wr.cell? ⟨w.heap.size+1,t,none⟩=some (.bool (tk.getD t false)):=by rw[cell_of t HK.out.2.2];exact bsB_get tk t (by omega)
          have c2:wr.cell? ⟨w.heap.size+1,j,none⟩=some (.bool (tk.getD j false)):=by rw[cell_of j HK.out.2.2];exact bsB_get tk j (by omega)
          have f2:wr.frozen? ⟨w.heap.size+1,j,none⟩=false:=free_of j HK.out.2.2
          have HSET:=Hd (HK.out.set j)
          obtain⟨bt,hbt⟩: ∃ p,tk.getD t false=p:=⟨_,rfl⟩
          obtain⟨bj,hbj⟩: ∃ p,tk.getD j false=p:=⟨_,rfl⟩
          rw[hbt]at c1
          rw[hbj]at c2
          have HED:Hid (edgeL src t tk j=if (decide (t=src) || bt)=true then tk.set j true else tk):=Hd (by unfold edgeL;rw[hbt])
          clear hb3 hj hc3 htk hbt hbj htkl
          by_cases hts:t=src
          · have hE:Hid ((il.take (k+1)).foldl (edgeL src t) cur=tk.set j true):=Hd (by rw[HFS.out,HED.out,if_pos (by simp[hts])])
            clear HED HFS
            subst hts
            go_wp2
            go_roundg (q - (k+1))
            case measure=>have:=hgk.out;omega
            case rel=>exact⟨k+1,by go_num,by omega,Hd (by have:=hgk.out;omega),Hd (by rw[hE.out];exact HSET.out)⟩
          · have htsi: ¬ (t:Int)=(src:Int):=by omega
            cases bt with
            |true =>
             have hE:Hid ((il.take (k+1)).foldl (edgeL src t) cur=tk.set j true):=Hd (by rw[HFS.out,HED.out,if_pos (by simp)])
             clear hts HED HFS
             go_wp2
             go_roundg (q - (k+1))
             case measure=>have:=hgk.out;omega
             case rel=>exact⟨k+1,by go_num,by omega,Hd (by have:=hgk.out;omega),Hd (by rw[hE.out];exact HSET.out)⟩
            |false =>
             have hE:Hid ((il.take (k+1)).foldl (edgeL src t) cur=tk):=Hd (by rw[HFS.out,HED.out,if_neg (by simp[hts])])
             clear hts HED HFS HSET
             go_wp2
             go_roundg (q - (k+1))
             case measure=>have:=hgk.out;omega
             case rel=>exact⟨k+1,by go_num,by omega,Hd (by have:=hgk.out;omega),Hd (by rw[hE.out];exact HK.out)⟩
        · have hki: ¬ (k:Int)<(q:Int):=by omega
          have hE:Hid (LdJ 69 #[.slice NA n nc,.slice (some ⟨b1,o1,none⟩) n tc] (rowsL g src tq (t+1)) w wr):=Hd (by
            have:=HK.out
            rw[List.take_of_length_le (by rw[HIL.out];omega)]at this
            rw[HT2.out]
            exact this)
          clear HK
          go_wp2
          go_roundg (n - (t+1))
          case measure=>have:=hgt.out;omega
          case rel=>exact⟨t+1,by go_num,by omega,Hd (by have:=hgt.out;omega),hE⟩
     · have hti: ¬ (t:Int)<(n:Int):=by omega
       obtain rfl:t=n:=by omega
       go_wp2
       go_roundg (t+1 - (r+1))
       case measure=>have:=hgr.out;omega
       case rel=>exact⟨r+1,by go_num,by omega,Hd (by have:=hgr.out;omega),Hd (by rw[HT.out];exact HI.out)⟩
  · have hri: ¬ (r:Int)≤(n:Int):=by omega
    have hrr:r=n+1:=by omega
    have HF:Hid (wr.heap[w.heap.size+1]? =some (.cells (bsB (leadsL g src)) 4 (0,0))∧Below w.heap.size w wr):=Hd (by
     refine⟨?_,HJ.out.old⟩
     have:=HJ.out.2.2
     rw[hrr]at this
     unfold leadsL
     rw[HLN.out]
     exact this)
    clear hrr
    go_wp2
    go_ret
    exact⟨rfl,HF.out⟩
theorem CJ.set {T:TypeId}{w W:World}{rs:Array Value}(h:CJ T w W rs)(i:Nat)(v:Value):CJ T w (W.setCell ⟨w.heap.size,i,none⟩ v) (rs.setIfInBounds i v) :=
 ⟨h.1.setCell (p:=⟨w.heap.size,i,none⟩) (Nat.le_refl _) _,hp_set h.2⟩
theorem CJ.drew {T:TypeId}{w W:World}{rs:Array Value}(h:CJ T w W rs):CJ T w W.drew rs:=h.kept (Below.drew (Below.refl _ _))
def cZ (z:Nat × Nat × Nat):List Value:= [.int .i64 (z.1:Nat),.int .i64 (z.2.1:Nat),.int .i64 (z.2.2:Nat)]
end Go.Proofs.YtbafljibbabnaaaGreatDoor
