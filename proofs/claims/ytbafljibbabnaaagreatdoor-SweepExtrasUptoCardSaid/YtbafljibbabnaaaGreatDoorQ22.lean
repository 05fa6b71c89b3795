/- Texts of ours, joined: GoB. -/
import Derived.Test.YtbafljibbabnaaaGreatDoorQ21
namespace Go.Proofs.YtbafljibbabnaaaGreatDoor
open Go.ChangeShapes Go.WideShapes Go.ChangeAt Go.RowKit
set_option linter.unusedVariables false
set_option maxRecDepth 100000
set_option maxHeartbeats 32000000
theorem stepAppCA {α:Type}{c:α→List Value}{k bytes:Nat}{t e:TypeId}{z:Value}{ops:Array Oper}{o:Oper}{a:Act}{K:Act→World→Prop}{Q:Exit→Act→World→Prop}{E:Prop}{w:World}(hgd:o.guard=none)(s x:Operand)
 (ho:o.op= .call { callee:= .builtin .append,args:= #[s,x],argTypes:= #[t,t] }) (ht:Tryz.prog.underlying t=some (.slice e)) (hi: ∃ i,Tryz.prog.info? e=some i∧i.zero=some z∧i.size=k∧i.bytes=bytes) (hzs:z.cells.size=k) (hk:0<k) (hby:bytes≤1000)
 (base:Nat) (v:Value) (op:List α) (hs:a.eval s=v) (hown:OwnC c k e w base v op)
 (ad:Addr) (hx:a.eval x= .slice (some ad) 1 1) (new:α) (hl:(c new).length=k) (hone: ∀ u∈c new,u.oneCell'=true) (hcell: ∀ (j:Nat) u,(c new)[j]? =some u→w.cell? (ad.add j)=some u)
 (hb:op.length≤1000000) (hbase:base≤w.heap.size)
 (h: ∀ v' w',OwnC c k e w' base v' (op++ [new])→w.grownBy w' v.ownBlock→(v'.ownBlock=v.ownBlock∨v'.ownBlock=some w.heap.size)→K (a.put o.dst v') w') :
 if Region.wanted o (yielded ops a.tmps)=true then Oper.wp Tryz.prog o a w K Q else E:=by
 have hw:Region.wanted o (yielded ops a.tmps)=true:=by simp[Region.wanted,hgd]
 rw[if_pos hw]
 obtain⟨i,hi,hz,hsz,hbt⟩:=hi
 have hmul:(op.length+1)*bytes≤1000001*1000:=Nat.mul_le_mul (by omega) hby
 obtain⟨v',w',hr,h2,h3,_,h5⟩:=run_append_own_at (P:=Tryz.prog) w base t o.type e i z k bytes ht hi hz hsz hbt hzs hk v op.length (op.flatMap c) hown ad 1 1 (c new) (by omega) hcell hone (by unfold maxLen;omega) (by omega) hbase
 unfold Oper.wp execOp
 simp only[ho,resolve,invoke,builtin,Sem.run_bind,Sem.run_pure,Result.andThen_ok,List.map_toArray,List.map_cons,List.map_nil,hs,hx,hr]
 exact h v' w' (OwnC.snoc h2) h3 h5
theorem OgP.cells {G q:Nat}{xn xt:List UInt8}{xo:Bool}{xp xq xr:List UInt8}{vG vN vT:Value}{accM names texts:List (List UInt8)}{w W:World}(h:OgP G q #[.string ⟨xn.toArray⟩,.string ⟨xt.toArray⟩,.bool xo,.string ⟨xp.toArray⟩,.string ⟨xq.toArray⟩,.string ⟨xr.toArray⟩] vG vN vT accM names texts w W) :
 W.cell? ⟨G,0,none⟩=some vG∧W.frozen? ⟨G,0,none⟩=false∧W.cell? ⟨q,0,none⟩=some (.string ⟨xn.toArray⟩)∧W.cell? ⟨q,1,none⟩=some (.string ⟨xt.toArray⟩) :=
 ⟨h.at_.1,h.at_.2,by rw[cell_of 0 h.ent];rfl,by rw[cell_of 1 h.ent];rfl⟩
structure OgL (G:Nat) (vN vT:Value) (names texts:List (List UInt8)) (w W:World):Prop where
 below:Below G w W
 graph:W.heap[G]? =some (.cells #[vN,.slice none 0 0] 60 (0,0))
 nms:OwnC cS1 1 9 W (G+2) vN names
 txs:OwnC cS1 1 9 W (G+2) vT texts
 apart: ∀ b,vN.ownBlock=some b→vT.ownBlock≠some b
 map:AtI W (G+1) names
 lt:G+2≤W.heap.size
theorem OgL.kept {G:Nat}{vN vT:Value}{names texts:List (List UInt8)}{w W W':World}(h:OgL G vN vT names texts w W)(hb:Below W.heap.size W W'):OgL G vN vT names texts w W' :=
 ⟨h.below.trans (hb.mono (Nat.le_of_lt (lt_of h.graph))),(hb.block _ (lt_of h.graph)).trans h.graph,h.nms.kept hb,h.txs.kept hb,h.apart,h.map.kept (hb.block _ h.map.lt),Nat.le_trans h.lt hb.size⟩
theorem OgL.toP {G:Nat}{vN vT:Value}{names texts:List (List UInt8)}{w W:World}(h:OgL G vN vT names texts w W)(xs:Array Value):OgP G W.heap.size xs vN vN vT names names texts w (W.alloc (.cells xs 43)):=by
 have h2:=h.kept ((Below.refl _ W).alloc (Nat.le_refl _) (.cells xs 43))
 exact⟨h2.below,h2.graph,h2.nms,h2.txs,h2.apart,h2.map,hp_new _ _,h.lt⟩
theorem OgP.toL {G q:Nat}{xs:Array Value}{vN vT:Value}{names texts:List (List UInt8)}{w W:World}(h:OgP G q xs vN vN vT names names texts w W):OgL G vN vT names texts w W:=⟨h.below,h.graph,h.nms,h.txs,h.apart,h.map,by have:=lt_of h.ent;have:=h.hq;omega⟩
theorem OgP.upd {G q:Nat}{xs:Array Value}{vG vN vT:Value}{accM accM' names texts:List (List UInt8)}{w W W':World}(h:OgP G q xs vG vN vT accM names texts w W)(hg:W.grownBy W' (some (G+1)))(hm:AtI W' (G+1) accM'):OgP G q xs vG vN vT accM' names texts w W':=by
 have:=h.hq
 exact⟨h.below.grown hg (Nat.le_of_lt (lt_of h.graph)) (fun k hk=>by have:=Option.some.inj hk;omega),(hg.block _ (lt_of h.graph) (fun e=>by have:=Option.some.inj e;omega)).trans h.graph,h.nms.keep fun g h1 h2=>hg.block g h2 (fun e=>by have:=Option.some.inj e;omega),h.txs.keep fun g h1 h2=>hg.block g h2 (fun e=>by have:=Option.some.inj e;omega),h.apart,hm,(hg.block _ (lt_of h.ent) (fun e=>by have:=Option.some.inj e;omega)).trans h.ent,h.hq⟩
structure OgK (G:Nat) (vT:Value) (names texts:List (List UInt8)) (rs:List IRow) (w W:World):Prop where
 below:Below G w W
 graph: ∃ vN vR,W.heap[G]? =some (.cells #[vN,vR] 60 (0,0))∧OwnC cS1 1 9 W (G+2) vN names∧GOwn W (G+2) vR rs
 txs:OwnC cS1 1 9 W (G+2) vT texts
 map:AtI W (G+1) names
 lt:G+2≤W.heap.size
theorem OgK.kept {G:Nat}{vT:Value}{names texts:List (List UInt8)}{rs:List IRow}{w W W':World}(h:OgK G vT names texts rs w W)(hb:Below W.heap.size W W'):OgK G vT names texts rs w W':=by
 obtain⟨h1,⟨vN,vR,h2,h3,h4⟩,h5,h6,h7⟩:=h
 exact⟨h1.trans (hb.mono (by omega)),⟨vN,vR,(hb.block _ (lt_of h2)).trans h2,h3.kept hb,h4.kept hb⟩,h5.kept hb,h6.kept (hb.block _ h6.lt),Nat.le_trans h7 hb.size⟩
theorem OgL.toK {G:Nat}{vN vT:Value}{names texts:List (List UInt8)}{w W:World}(h:OgL G vN vT names texts w W):OgK G vT names texts [] w W:=⟨h.below,⟨_,_,h.graph,h.nms,GOwn.start _ _⟩,h.txs,h.map,h.lt⟩
theorem rfs_sub (b:List UInt8): ∀ (m t:Nat),b.length - t≤m→ ∀ r∈rfsA b t,∃ k,t≤k∧rfsA b k=r :: rfsA b r.2.1∧r=(k,(refOut 38 b k).2.1,(refOut 38 b k).1)∧(refOut 38 b k).2.2=0:=by
 intro m
 induction m with
 |zero=>intro t h r hr;rw[rfsA_end b t (by omega)]at hr;cases hr
 |succ m ih =>
  intro t h r hr
  by_cases ht:t<b.length
  · by_cases h0:(refOut 38 b t).2.2=0
    · have hn:=refOut_nx b t h0
      have he:=rfsA_ref b t h0
      rw[he]at hr
      rcases List.mem_cons.1 hr with rfl|hr
      · exact⟨t,Nat.le_refl _,he,rfl,h0⟩
      · obtain⟨k,h1,h2⟩:=ih _ (by omega) r hr
        exact⟨k,by omega,h2⟩
    · rw[rfsA_no b t ht h0]at hr
      obtain⟨k,h1,h2⟩:=ih _ (by omega) r hr
      exact⟨k,by omega,h2⟩
  · rw[rfsA_end b t (by omega)]at hr;cases hr
theorem each_name (l:List UInt8): ∀ s∈eachL l,s.length≤1024:=fun s hs=>by
 have h1:=(mem_once (rnames l) s).1 hs
 unfold rnames at h1
 obtain⟨r,hr,rfl⟩:=List.mem_map.1 h1
 obtain⟨k,_,_,he,_⟩:=rfs_sub l l.length 0 (by omega) r hr
 rw[he]
 exact refOut_len l k
theorem graphOf_c (A:Option Addr)(n cap:Nat)(l:List EntT)(w:World)(h:RRd cE 6 w w.heap.size A n cap l)(hm:n≤1000)(hx: ∀ x∈l,x.tx.length≤20000)(hnm: ∀ x∈l,x.nm.length≤1000000000000000)(hF:Forms w)(hT:Tabs w) :
 Calls Tryz.prog 15 #[.slice A n cap] w fun e w'=> ∃ NA nc TA tc,e= .returned (.agg #[.slice NA (innerE l).length nc,.slice TA (innerE l).length tc])∧ ∃ rs,rs.map IRow.l=graphE l∧RRd cS1 1 w' w'.heap.size NA (innerE l).length nc ((innerE l).map EntT.nm)∧GRd w' w'.heap.size TA (innerE l).length tc rs∧Below w.heap.size w w':=by
 have kb0:=(Below.refl w.heap.size w).alloc (Nat.le_refl _) (.cells #[.slice none 0 0,.slice none 0 0] 60)
 have hq0:=hp_new w (.cells #[.slice none 0 0,.slice none 0 0] 60)
 have hmm:= @run_makeMap Tryz.prog
 have HP:Hid (∀ W,Below w.heap.size w W→RRd cE 6 W W.heap.size A n cap l):=Hd fun W hb=>(h.below hb).more hb.size
 have HLN:Hid (l.length=n):=Hd h.len
 have HX:=Hd (And.intro hx hnm)
 have HFT:=Hd (And.intro hF hT)
 have L0:Hid (OgL (w.heap.size+1) (.slice none 0 0) (.slice none 0 0) ((innerE (l.take 0)).map EntT.nm) ((innerE (l.take 0)).map EntT.tx) (w.alloc (.cells #[.slice none 0 0,.slice none 0 0] 60)) (((w.alloc (.cells #[.slice none 0 0,.slice none 0 0] 60)).alloc (.cells #[.slice none 0 0,.slice none 0 0] 60)).alloc (.map #[] 0))):=Hd (by
  have e1:=hp_new (w.alloc (.cells #[.slice none 0 0,.slice none 0 0] 60)) (.cells #[.slice none 0 0,.slice none 0 0] 60)
  have e2:=AtI.start ((w.alloc (.cells #[.slice none 0 0,.slice none 0 0] 60)).alloc (.cells #[.slice none 0 0,.slice none 0 0] 60))
  simp only[World.size_alloc]at e1 e2
  exact⟨((Below.refl _ _).alloc (by simp) _).alloc (by simp) _,hp_old e1,OwnC.start _ _ _ _ _,OwnC.start _ _ _ _ _,fun b h=>by simp[Value.ownBlock]at h,e2,by simp⟩)
 have KB0:=Hd kb0
 have HQ0:=Hd hq0
 clear h hx hnm hF hT kb0 hq0
 generalize hGG:w.heap.size+1=G at *
 go_enter Tryz.func15,Tryz.ntmps15
 go_wp2
 clear hmm
 go_loopg [5,20] (n) (fun g vT i wr=> ∃ (t:Nat) (vN:Value),i= .int .i64 (t:Int)∧t≤n∧Hid (g+t=n)∧Hid (OgL G vN vT ((innerE (l.take t)).map EntT.nm) ((innerE (l.take t)).map EntT.tx) (w.alloc (.cells #[.slice none 0 0,.slice none 0 0] 60)) wr))
 case atStart=>exact⟨0,_,rfl,Nat.zero_le _,Hd rfl,L0⟩
 case round =>
  clear L0
  obtain⟨t,vN,rfl,ht,hg,HJ⟩:=hrel
  obtain⟨TA,tc,hvT⟩:=HJ.out.txs.form
  subst hvT
  obtain⟨NA,nc,hvN⟩:=HJ.out.nms.form
  subst hvN
  have ht0:(0:Int)≤(t:Int):=by omega
  have ht9:(t:Int)≤1000:=by omega
  by_cases htn:t<n
  · have hti:(t:Int)<(n:Int):=by omega
    have hbw:Below w.heap.size w wr:=KB0.out.trans (HJ.out.below.mono (by omega))
    obtain⟨b1,o1,x,rfl,hb1,hx,hc1⟩:=(HP.out _ hbw).cell htn
    have HT:=Hd (inner_take hx)
    have hxl:=HX.out.2 x (List.mem_of_getElem? hx)
    obtain⟨acc,hacc⟩: ∃ p,innerE (l.take t)=p:=⟨_,rfl⟩
    have hal:acc.length≤1000:=by
     have:=inner_len (l.take t) []
     rw[← hacc]
     unfold innerE
     simp only[List.length_nil,List.length_take]at this
     omega
    rw[hacc]at HT HJ ⊢
    have hml:(acc.map EntT.nm).length=acc.length:=by simp
    have hml2:(acc.map EntT.tx).length=acc.length:=by simp
    obtain⟨nms,hnms⟩: ∃ p,acc.map EntT.nm=p:=⟨_,rfl⟩
    obtain⟨txs,htxs⟩: ∃ p,acc.map EntT.tx=p:=⟨_,rfl⟩
    rw[hnms]at HJ hml
    rw[htxs]at HJ hml2 ⊢
    have HNT:=Hd (And.intro hnms htxs)
    have hnl9:nms.length≤1000:=by omega
    have htl9:txs.length≤1000:=by omega
    clear hnms htxs hml hml2
    obtain⟨xn,xt,xo,xp,xq,xr⟩:=x
    simp only at hxl
    have y0:wr.cell? ⟨b1,o1+t*6,none⟩=some (.string ⟨xn.toArray⟩):=by rw[show o1+t*6=o1+(t*6+0)by omega];exact hc1 0 _ rfl
    have y1:wr.cell? ⟨b1,o1+t*6+1,none⟩=some (.string ⟨xt.toArray⟩):=by rw[show o1+t*6+1=o1+(t*6+1)by omega];exact hc1 1 _ rfl
    have y2:wr.cell? ⟨b1,o1+t*6+2,none⟩=some (.bool xo):=by rw[show o1+t*6+2=o1+(t*6+2)by omega];exact hc1 2 _ rfl
    have y3:wr.cell? ⟨b1,o1+t*6+3,none⟩=some (.string ⟨xp.toArray⟩):=by rw[show o1+t*6+3=o1+(t*6+3)by omega];exact hc1 3 _ rfl
    have y4:wr.cell? ⟨b1,o1+t*6+4,none⟩=some (.string ⟨xq.toArray⟩):=by rw[show o1+t*6+4=o1+(t*6+4)by omega];exact hc1 4 _ rfl
    have y5:wr.cell? ⟨b1,o1+t*6+5,none⟩=some (.string ⟨xr.toArray⟩):=by rw[show o1+t*6+5=o1+(t*6+5)by omega];exact hc1 5 _ rfl
    have HKEY:=Hd (keySg (s:=xn) (by omega))
    have HP1:Hid (OgP G wr.heap.size #[.string ⟨xn.toArray⟩,.string ⟨xt.toArray⟩,.bool xo,.string ⟨xp.toArray⟩,.string ⟨xq.toArray⟩,.string ⟨xr.toArray⟩] (.slice NA nms.length nc) (.slice NA nms.length nc) (.slice TA txs.length tc) nms nms txs (w.alloc (.cells #[.slice none 0 0,.slice none 0 0] 60)) (wr.alloc (.cells #[.string ⟨xn.toArray⟩,.string ⟨xt.toArray⟩,.bool xo,.string ⟨xp.toArray⟩,.string ⟨xq.toArray⟩,.string ⟨xr.toArray⟩] 43))):=Hd (HJ.out.toP _)
    obtain⟨D,hown,hhas,hat⟩:=HP1.out.map
    obtain⟨bh,hbh⟩: ∃ p,nms.contains xn=p:=⟨_,rfl⟩
    have hhx:Go.Maps.has D (.string xn)=bh:=(hhas xn).trans hbh
    have HBH:=Hd hbh
    have HIS:=Hd (by obtain⟨es,clock,hb,_,_,rfl⟩:=hown;exact⟨_,rfl⟩:Go.Maps.IsMap D)
    have HHA:=Hd (And.intro hhas hat)
    clear hb1 hx hc1 hacc hbh hhas hat hbw
    cases bh with
    |true =>
     have HE:Hid (innerE (l.take (t+1))=acc):=Hd (by rw[HT.out];unfold innerF;rw[if_pos (.inr (by rw[HNT.out.1];simpa using HBH.out))])
     go_wp2_with (first|(at_lookup;refine wpList_lookup_own_ok_int _ rfl _ _ 98 rfl 9 3 .i64 lawSg Tryz.underlying98 Tryz.underlying3 (zeroIg _) (G+1) _ D rfl hown _ _ rfl HKEY.out ?_;intro c' hat' hwc;rw[hhx]))
     go_roundg (n - (t+1))
     case measure=>have:=hg.out;omega
     case rel=>exact⟨t+1,_,by go_num,by omega,Hd (by have:=hg.out;omega),Hd (by rw[HE.out,HNT.out.1,HNT.out.2];exact HP1.out.toL)⟩
    |false =>
     cases xo with
     |true =>
      have HE:Hid (innerE (l.take (t+1))=acc):=Hd (by rw[HT.out];unfold innerF;rw[if_pos (.inl rfl)])
      go_wp2_with (first|(at_lookup;refine wpList_lookup_own_ok_int _ rfl _ _ 98 rfl 9 3 .i64 lawSg Tryz.underlying98 Tryz.underlying3 (zeroIg _) (G+1) _ D rfl hown _ _ rfl HKEY.out ?_;intro c' hat' hwc;rw[hhx]))
      go_roundg (n - (t+1))
      case measure=>have:=hg.out;omega
      case rel=>exact⟨t+1,_,by go_num,by omega,Hd (by have:=hg.out;omega),Hd (by rw[HE.out,HNT.out.1,HNT.out.2];exact HP1.out.toL)⟩
     |false =>
      have HE:Hid (innerE (l.take (t+1))=acc++ [⟨xn,xt,false,xp,xq,xr⟩]):=Hd (by rw[HT.out];unfold innerF;rw[if_neg (by rw[HNT.out.1];have:=HBH.out;simpa using this)])
      have hwf:(Lit.int .i64 ((nms.length:Nat):Int)).wf=true:=by
       simp only[Lit.wf,IntKind.min,IntKind.max,Bool.and_eq_true]
       constructor <;> (simp[IntKind.bits,IntKind.signed] <;> omega)
      have HAS:=Hd (atI_snoc HIS.out HBH.out HHA.out.1 HHA.out.2)
      have hmx:nms.length<maxLen:=by unfold maxLen;omega
      obtain⟨z0,zf,z1,z2⟩:=HP1.out.cells
      go_wp2_with (first|(at_lookup;refine wpList_lookup_own_ok_int _ rfl _ _ 98 rfl 9 3 .i64 lawSg Tryz.underlying98 Tryz.underlying3 (zeroIg _) (G+1) _ D rfl hown _ _ rfl HKEY.out ?_;intro c' hat' hwc;rw[hhx])|(at_mapUpdate;refine wpList_mapUpdate_own _ rfl _ _ _ 98 rfl 9 3 lawSg Tryz.underlying98 _ (G+1) _ D rfl hown hmx _ _ _ rfl rfl HKEY.out _ [] (plainElem_int Tryz.underlying3 hwf) ?_))
      intro w3 hown3 hg3
      have HP3:Hid (OgP G wr.heap.size #[.string ⟨xn.toArray⟩,.string ⟨xt.toArray⟩,.bool false,.string ⟨xp.toArray⟩,.string ⟨xq.toArray⟩,.string ⟨xr.toArray⟩] (.slice NA nms.length nc) (.slice NA nms.length nc) (.slice TA txs.length tc) (nms++ [xn]) nms txs (w.alloc (.cells #[.slice none 0 0,.slice none 0 0] 60)) w3):=Hd (HP1.out.upd hg3 ⟨_,by rw[List.length_append];exact hown3,HAS.out.1,HAS.out.2⟩)
      clear hown hown3 hg3 hwf hmx hhx y0 y1 y2 y3 y4 y5 z0 zf z1 z2 HP1 HJ HAS
      obtain⟨q,hq⟩: ∃ p,wr.heap.size=p:=⟨_,rfl⟩
      rw[hq]at HP3 ⊢
      have hP1:=HP3.out
      obtain⟨z0,zf,z1,z2⟩:=hP1.cells
      obtain⟨za0,zaf,za1,za2⟩:=(hP1.alloc (.cells #[.string ⟨xn.toArray⟩] 9)).cells
      obtain⟨zb0,zbf,zb1,zb2⟩:=(hP1.alloc (.cells #[.string ⟨xt.toArray⟩] 9)).cells
      obtain⟨zc0,zcf,zc1,zc2⟩:=((hP1.alloc (.cells #[.string ⟨xn.toArray⟩] 9)).alloc (.cells #[.string ⟨xt.toArray⟩] 9)).cells
      obtain⟨zd0,zdf,zd1,zd2⟩:=((hP1.alloc (.cells #[.string ⟨xt.toArray⟩] 9)).alloc (.cells #[.string ⟨xn.toArray⟩] 9)).cells
      have P1:=HP3
      have hsz3:G+2≤w3.heap.size:=by have:=lt_of hP1.ent;have:=hP1.hq;omega
      have N47:Hid (∀ W v6 w6,OgP G q #[.string ⟨xn.toArray⟩,.string ⟨xt.toArray⟩,.bool false,.string ⟨xp.toArray⟩,.string ⟨xq.toArray⟩,.string ⟨xr.toArray⟩] (.slice NA nms.length nc) (.slice NA nms.length nc) (.slice TA txs.length tc) (nms++ [xn]) nms txs (w.alloc (.cells #[.slice none 0 0,.slice none 0 0] 60)) W→OwnC cS1 1 9 w6 (G+2) v6 (nms++ [xn])→W.grownBy w6 (Value.slice NA nms.length nc).ownBlock→(v6.ownBlock=(Value.slice NA nms.length nc).ownBlock∨v6.ownBlock=some W.heap.size)→ ∃ A6 n6 c6,v6= .slice A6 n6 c6∧Hid (n6=(nms++ [xn]).length)∧Hid (OgP G q #[.string ⟨xn.toArray⟩,.string ⟨xt.toArray⟩,.bool false,.string ⟨xp.toArray⟩,.string ⟨xq.toArray⟩,.string ⟨xr.toArray⟩] (.slice NA nms.length nc) (.slice A6 n6 c6) (.slice TA txs.length tc) (nms++ [xn]) (nms++ [xn]) txs (w.alloc (.cells #[.slice none 0 0,.slice none 0 0] 60)) w6)∧ ∀ b o,w3.heap.size≤b→W.heap[b]? =some o→w6.heap[b]? =some o):=Hd fun W v6 w6 hW h6 hg hat=>by
       obtain⟨A6,c6,e6⟩:=h6.form
       refine⟨A6,_,c6,e6,Hd rfl,Hd (by rw[← e6];exact hW.appN h6 hg hat),fun b o hb ho=> ?_⟩
       rw[hg.block b (lt_of ho) (fun e=>by have:=(P1.out.nms.ge e.symm).1;omega)]
       exact ho
      have N52:Hid (∀ W v6 v8 vG w8,OgP G q #[.string ⟨xn.toArray⟩,.string ⟨xt.toArray⟩,.bool false,.string ⟨xp.toArray⟩,.string ⟨xq.toArray⟩,.string ⟨xr.toArray⟩] vG v6 (.slice TA txs.length tc) (nms++ [xn]) (nms++ [xn]) txs (w.alloc (.cells #[.slice none 0 0,.slice none 0 0] 60)) W→OwnC cS1 1 9 w8 (G+2) v8 (txs++ [xt])→W.grownBy w8 (Value.slice TA txs.length tc).ownBlock→(v8.ownBlock=(Value.slice TA txs.length tc).ownBlock∨v8.ownBlock=some W.heap.size)→ ∃ A8 n8 c8,v8= .slice A8 n8 c8∧Hid (n8=(txs++ [xt]).length)∧Hid (OgP G q #[.string ⟨xn.toArray⟩,.string ⟨xt.toArray⟩,.bool false,.string ⟨xp.toArray⟩,.string ⟨xq.toArray⟩,.string ⟨xr.toArray⟩] vG v6 (.slice A8 n8 c8) (nms++ [xn]) (nms++ [xn]) (txs++ [xt]) (w.alloc (.cells #[.slice none 0 0,.slice none 0 0] 60)) w8)∧w8.cell? ⟨G,0,none⟩=some vG∧w8.frozen? ⟨G,0,none⟩=false):=Hd fun W v6 v8 vG w8 hW h8 hg hat=>by
       obtain⟨A8,c8,e8⟩:=h8.form
       have h9:=hW.appT h8 hg hat
       refine⟨A8,_,c8,e8,Hd rfl,Hd (by rw[← e8];exact h9),h9.at_⟩
      have hone1: ∀ u∈cS1 xn,u.oneCell'=true:=by simp[cS1,Value.oneCell']
      have hone2: ∀ u∈cS1 xt,u.oneCell'=true:=by simp[cS1,Value.oneCell']
      clear hq hP1 HP3
      go_wp2_with fail
      have hnm1:nms.length≤1000000:=by omega
      have htx1:txs.length≤1000000:=by omega
      have hba:G+2≤(w3.alloc (.cells #[.string ⟨xn.toArray⟩] 9)).drew.heap.size:=by show _≤(w3.alloc _).heap.size;rw[World.size_alloc];omega
      have hbb: ∀ {o1 o2:Obj},G+2≤((w3.alloc o1).alloc o2).drew.heap.size:=by
       intro o1 o2
       show _≤((w3.alloc o1).alloc o2).heap.size
       rw[World.size_alloc,World.size_alloc]
       omega
      have hca: ∀ (j:Nat) u,(cS1 xn)[j]? =some u→(w3.alloc (.cells #[.string ⟨xn.toArray⟩] 9)).drew.cell? ((⟨w3.heap.size,0,none⟩:Addr).add j)=some u:=fun j u hu=>cell_newN w3 (cS1 xn) 9 j u hu
      have hcb: ∀ (j:Nat) u,(cS1 xn)[j]? =some u→((w3.alloc (.cells #[.string ⟨xt.toArray⟩] 9)).alloc (.cells #[.string ⟨xn.toArray⟩] 9)).drew.cell? ((⟨w3.heap.size+1,0,none⟩:Addr).add j)=some u:=fun j u hu=>by
       have h9:=cell_newN (w3.alloc (.cells #[.string ⟨xt.toArray⟩] 9)) (cS1 xn) 9 j u hu
       rw[World.size_alloc]at h9
       exact h9
      have hcc: ∀ (j:Nat) u,(cS1 xn)[j]? =some u→((w3.alloc (.cells #[.string ⟨xn.toArray⟩] 9)).alloc (.cells #[.string ⟨xt.toArray⟩] 9)).drew.cell? ((⟨w3.heap.size,0,none⟩:Addr).add j)=some u:=fun j u hu=>by
       have h9:=cell_newN w3 (cS1 xn) 9 j u hu
       rw[addr_add]at h9 ⊢
       exact(World.cell?_of_block (a:=⟨w3.heap.size,0+j,none⟩) (Below.heap_alloc (w3.alloc (.cells #[.string ⟨xn.toArray⟩] 9)) (.cells #[.string ⟨xt.toArray⟩] 9) _ (by rw[World.size_alloc];exact Nat.lt_succ_self _))).trans h9
      have hec:((w3.alloc (.cells #[.string ⟨xn.toArray⟩] 9)).alloc (.cells #[.string ⟨xt.toArray⟩] 9)).drew.heap[w3.heap.size+1]? =some (.cells #[.string ⟨xt.toArray⟩] 9 (0,0)):=by
       have h9:=hp_new (w3.alloc (.cells #[.string ⟨xn.toArray⟩] 9)) (.cells #[.string ⟨xt.toArray⟩] 9)
       rw[World.size_alloc]at h9
       exact h9
      go_region_law (first
       |((with_reducible refine stepAppCA (w:=(w3.alloc (.cells #[.string ⟨xn.toArray⟩] 9)).drew) (t:=57) (e:=9) (c:=cS1) (k:=1) ?_ (.tmp 43) (.tmp 46) ?_ Tryz.underlying57 info_str ?_ ?_ ?_ (G+2) (.slice NA nms.length nc) nms ?_ ?_ ⟨w3.heap.size,0,none⟩ ?_ xn ?_ hone1 hca hnm1 hba ?_);exact rfl;exact rfl;exact rfl;decide;decide;exact rfl;exact((P1.out.alloc (.cells #[.string ⟨xn.toArray⟩] 9)).drew).nms;exact rfl;exact rfl;intro v6 w6 h6 hg6 hat6;obtain⟨A6,n6,c6,rfl,hn6,P6,K6⟩:=N47.out (w3.alloc (.cells #[.string ⟨xn.toArray⟩] 9)).drew v6 w6 (P1.out.alloc (.cells #[.string ⟨xn.toArray⟩] 9)).drew h6 hg6 hat6;clear h6 hg6 hat6 K6;obtain⟨u0,uf,u1,u2⟩:=P6.out.cells;obtain⟨s0,sf,s1,s2⟩:=(P6.out.setG (.slice A6 n6 c6)).cells)
       |((with_reducible refine stepAppCA (w:=((w3.alloc (.cells #[.string ⟨xt.toArray⟩] 9)).alloc (.cells #[.string ⟨xn.toArray⟩] 9)).drew) (t:=57) (e:=9) (c:=cS1) (k:=1) ?_ (.tmp 43) (.tmp 46) ?_ Tryz.underlying57 info_str ?_ ?_ ?_ (G+2) (.slice NA nms.length nc) nms ?_ ?_ ⟨w3.heap.size+1,0,none⟩ ?_ xn ?_ hone1 hcb hnm1 hbb ?_);exact rfl;exact rfl;exact rfl;decide;decide;exact rfl;exact(((P1.out.alloc (.cells #[.string ⟨xt.toArray⟩] 9)).alloc (.cells #[.string ⟨xn.toArray⟩] 9)).drew).nms;exact rfl;exact rfl;intro v6 w6 h6 hg6 hat6;obtain⟨A6,n6,c6,rfl,hn6,P6,K6⟩:=N47.out ((w3.alloc (.cells #[.string ⟨xt.toArray⟩] 9)).alloc (.cells #[.string ⟨xn.toArray⟩] 9)).drew v6 w6 ((P1.out.alloc (.cells #[.string ⟨xt.toArray⟩] 9)).alloc (.cells #[.string ⟨xn.toArray⟩] 9)).drew h6 hg6 hat6;have e51:=K6 _ _ (Nat.le_refl _) (hp_old (hp_new w3 (.cells #[.string ⟨xt.toArray⟩] 9)));clear h6 hg6 hat6 K6;obtain⟨u0,uf,u1,u2⟩:=P6.out.cells;obtain⟨s0,sf,s1,s2⟩:=(P6.out.setG (.slice A6 n6 c6)).cells)
       |((with_reducible refine stepAppCA (w:=((w3.alloc (.cells #[.string ⟨xn.toArray⟩] 9)).alloc (.cells #[.string ⟨xt.toArray⟩] 9)).drew) (t:=57) (e:=9) (c:=cS1) (k:=1) ?_ (.tmp 43) (.tmp 46) ?_ Tryz.underlying57 info_str ?_ ?_ ?_ (G+2) (.slice NA nms.length nc) nms ?_ ?_ ⟨w3.heap.size,0,none⟩ ?_ xn ?_ hone1 hcc hnm1 hbb ?_);exact rfl;exact rfl;exact rfl;decide;decide;exact rfl;exact(((P1.out.alloc (.cells #[.string ⟨xn.toArray⟩] 9)).alloc (.cells #[.string ⟨xt.toArray⟩] 9)).drew).nms;exact rfl;exact rfl;intro v6 w6 h6 hg6 hat6;obtain⟨A6,n6,c6,rfl,hn6,P6,K6⟩:=N47.out ((w3.alloc (.cells #[.string ⟨xn.toArray⟩] 9)).alloc (.cells #[.string ⟨xt.toArray⟩] 9)).drew v6 w6 ((P1.out.alloc (.cells #[.string ⟨xn.toArray⟩] 9)).alloc (.cells #[.string ⟨xt.toArray⟩] 9)).drew h6 hg6 hat6;have e51:=K6 _ _ (Nat.le_succ _) hec;clear h6 hg6 hat6 K6;obtain⟨u0,uf,u1,u2⟩:=P6.out.cells;obtain⟨s0,sf,s1,s2⟩:=(P6.out.setG (.slice A6 n6 c6)).cells)
       |((with_reducible refine stepAppCA (w:=(w6.alloc (.cells #[.string ⟨xt.toArray⟩] 9))) (t:=57) (e:=9) (c:=cS1) (k:=1) ?_ (.tmp 48) (.tmp 51) ?_ Tryz.underlying57 info_str ?_ ?_ ?_ (G+2) (.slice TA txs.length tc) txs ?_ ?_ ⟨w6.heap.size,0,none⟩ ?_ xt ?_ hone2 ?_ htx1 ?_ ?_);exact rfl;exact rfl;exact rfl;decide;decide;exact rfl;exact((P6.out.alloc (.cells #[.string ⟨xt.toArray⟩] 9))).txs;exact rfl;exact rfl;exact(fun j u hu=>cell_newN w6 (cS1 xt) 9 j u hu);exact(by have h1:=lt_of P6.out.ent;have h2:=P6.out.hq;(try rw[World.size_alloc]);(try rw[World.size_setCell]);omega);intro v8 w8 h8 hg8 hat8;obtain⟨A8,n8,c8,rfl,hn8,P8,k8,f8⟩:=N52.out (w6.alloc (.cells #[.string ⟨xt.toArray⟩] 9)) (.slice A6 n6 c6) v8 (.slice NA nms.length nc) w8 (P6.out.alloc (.cells #[.string ⟨xt.toArray⟩] 9)) h8 hg8 hat8;clear h8 hg8 hat8)
       |((with_reducible refine stepAppCA (w:=((w6.setCell ⟨G,0,none⟩ (.slice A6 n6 c6)).alloc (.cells #[.string ⟨xt.toArray⟩] 9))) (t:=57) (e:=9) (c:=cS1) (k:=1) ?_ (.tmp 48) (.tmp 51) ?_ Tryz.underlying57 info_str ?_ ?_ ?_ (G+2) (.slice TA txs.length tc) txs ?_ ?_ ⟨w6.heap.size,0,none⟩ ?_ xt ?_ hone2 ?_ htx1 ?_ ?_);exact rfl;exact rfl;exact rfl;decide;decide;exact rfl;exact(((P6.out.setG (.slice A6 n6 c6)).alloc (.cells #[.string ⟨xt.toArray⟩] 9))).txs;exact rfl;exact rfl;exact(fun j u hu=>by have h9:=cell_newN (w6.setCell ⟨G,0,none⟩ (.slice A6 n6 c6)) (cS1 xt) 9 j u hu;rw[World.size_setCell]at h9;exact h9);exact(by have h1:=lt_of P6.out.ent;have h2:=P6.out.hq;(try rw[World.size_alloc]);(try rw[World.size_setCell]);omega);intro v8 w8 h8 hg8 hat8;obtain⟨A8,n8,c8,rfl,hn8,P8,k8,f8⟩:=N52.out ((w6.setCell ⟨G,0,none⟩ (.slice A6 n6 c6)).alloc (.cells #[.string ⟨xt.toArray⟩] 9)) (.slice A6 n6 c6) v8 (.slice A6 n6 c6) w8 ((P6.out.setG (.slice A6 n6 c6)).alloc (.cells #[.string ⟨xt.toArray⟩] 9)) h8 hg8 hat8;clear h8 hg8 hat8)
       |((with_reducible refine stepAppCA (w:=w6) (t:=57) (e:=9) (c:=cS1) (k:=1) ?_ (.tmp 48) (.tmp 51) ?_ Tryz.underlying57 info_str ?_ ?_ ?_ (G+2) (.slice TA txs.length tc) txs ?_ ?_ ⟨w3.heap.size,0,none⟩ ?_ xt ?_ hone2 ?_ htx1 ?_ ?_);exact rfl;exact rfl;exact rfl;decide;decide;exact rfl;exact(P6.out).txs;exact rfl;exact rfl;exact(fun j u hu=>by rw[addr_add,cell_of _ e51];simpa [cS1] using hu);exact(by have h1:=lt_of P6.out.ent;have h2:=P6.out.hq;(try rw[World.size_alloc]);(try rw[World.size_setCell]);omega);intro v8 w8 h8 hg8 hat8;obtain⟨A8,n8,c8,rfl,hn8,P8,k8,f8⟩:=N52.out w6 (.slice A6 n6 c6) v8 (.slice NA nms.length nc) w8 P6.out h8 hg8 hat8;clear h8 hg8 hat8)
       |((with_reducible refine stepAppCA (w:=(w6.setCell ⟨G,0,none⟩ (.slice A6 n6 c6))) (t:=57) (e:=9) (c:=cS1) (k:=1) ?_ (.tmp 48) (.tmp 51) ?_ Tryz.underlying57 info_str ?_ ?_ ?_ (G+2) (.slice TA txs.length tc) txs ?_ ?_ ⟨w3.heap.size,0,none⟩ ?_ xt ?_ hone2 ?_ htx1 ?_ ?_);exact rfl;exact rfl;exact rfl;decide;decide;exact rfl;exact((P6.out.setG (.slice A6 n6 c6))).txs;exact rfl;exact rfl;exact(fun j u hu=>by rw[addr_add,World.cell?_of_block (a:=⟨w3.heap.size,0+j,none⟩) (hp_other (by omega)),cell_of _ e51];simpa [cS1] using hu);exact(by have h1:=lt_of P6.out.ent;have h2:=P6.out.hq;(try rw[World.size_alloc]);(try rw[World.size_setCell]);omega);intro v8 w8 h8 hg8 hat8;obtain⟨A8,n8,c8,rfl,hn8,P8,k8,f8⟩:=N52.out (w6.setCell ⟨G,0,none⟩ (.slice A6 n6 c6)) (.slice A6 n6 c6) v8 (.slice A6 n6 c6) w8 (P6.out.setG (.slice A6 n6 c6)) h8 hg8 hat8;clear h8 hg8 hat8)
       |((with_reducible refine stepAppCA (w:=w6) (t:=57) (e:=9) (c:=cS1) (k:=1) ?_ (.tmp 48) (.tmp 51) ?_ Tryz.underlying57 info_str ?_ ?_ ?_ (G+2) (.slice TA txs.length tc) txs ?_ ?_ ⟨w3.heap.size+1,0,none⟩ ?_ xt ?_ hone2 ?_ htx1 ?_ ?_);exact rfl;exact rfl;exact rfl;decide;decide;exact rfl;exact(P6.out).txs;exact rfl;exact rfl;exact(fun j u hu=>by rw[addr_add,cell_of _ e51];simpa [cS1] using hu);exact(by have h1:=lt_of P6.out.ent;have h2:=P6.out.hq;(try rw[World.size_alloc]);(try rw[World.size_setCell]);omega);intro v8 w8 h8 hg8 hat8;obtain⟨A8,n8,c8,rfl,hn8,P8,k8,f8⟩:=N52.out w6 (.slice A6 n6 c6) v8 (.slice NA nms.length nc) w8 P6.out h8 hg8 hat8;clear h8 hg8 hat8)
       |((with_reducible refine stepAppCA (w:=(w6.setCell ⟨G,0,none⟩ (.slice A6 n6 c6))) (t:=57) (e:=9) (c:=cS1) (k:=1) ?_ (.tmp 48) (.tmp 51) ?_ Tryz.underlying57 info_str ?_ ?_ ?_ (G+2) (.slice TA txs.length tc) txs ?_ ?_ ⟨w3.heap.size+1,0,none⟩ ?_ xt ?_ hone2 ?_ htx1 ?_ ?_);exact rfl;exact rfl;exact rfl;decide;decide;exact rfl;exact((P6.out.setG (.slice A6 n6 c6))).txs;exact rfl;exact rfl;exact(fun j u hu=>by rw[addr_add,World.cell?_of_block (a:=⟨w3.heap.size+1,0+j,none⟩) (hp_other (by omega)),cell_of _ e51];simpa [cS1] using hu);exact(by have h1:=lt_of P6.out.ent;have h2:=P6.out.hq;(try rw[World.size_alloc]);(try rw[World.size_setCell]);omega);intro v8 w8 h8 hg8 hat8;obtain⟨A8,n8,c8,rfl,hn8,P8,k8,f8⟩:=N52.out (w6.setCell ⟨G,0,none⟩ (.slice A6 n6 c6)) (.slice A6 n6 c6) v8 (.slice A6 n6 c6) w8 (P6.out.setG (.slice A6 n6 c6)) h8 hg8 hat8;clear h8 hg8 hat8)
       |fail)
      all_goals
       have HEND:=Hd (show OgL G (.slice A6 n6 c6) (.slice A8 n8 c8) (nms++ [xn]) (txs++ [xt]) (w.alloc (.cells #[.slice none 0 0,.slice none 0 0] 60)) _ by first|exact P8.out.toL|exact(P8.out.setG (.slice A6 n6 c6)).toL)
       clear P8 P6 k8 f8 u0 uf u1 u2 s0 sf s1 s2 P1 N47 N52 hn6 hn8 z0 zf z1 z2 za0 zaf za1 za2 zb0 zbf zb1 zb2 zc0 zcf zc1 zc2 zd0 zdf zd1 zd2 hba hbb hca hcb hcc hec hone1 hone2 hnm1 htx1
       go_wp2
       go_roundg (n - (t+1))
       case measure=>have:=hg.out;omega
       case rel=>exact⟨t+1,_,by go_num,by omega,Hd (by have:=hg.out;omega),Hd (by rw[HE.out,List.map_append,List.map_append,HNT.out.1,HNT.out.2];exact HEND.out)⟩
  · have hti: ¬ (t:Int)<(n:Int):=by omega
    have hJ:=HJ.out
    rw[List.take_of_length_le (by rw[HLN.out];omega)]at hJ
    have hIL:(innerE l).length≤1000:=by have:=inner_len l [];have h9:=HLN.out;unfold innerE;simp only[List.length_nil]at *;omega
    have HXS:Hid (∀ x∈innerE l,x.tx.length≤20000):=Hd fun x hx2=>HX.out.1 x ((inner_sub l [] x (fun _ h=>h) hx2).resolve_right (fun h=>by cases h))
    have P0:=Hd hJ.toK
    have hl1:((innerE l).map EntT.tx).length=(innerE l).length:=List.length_map ..
    have hl2:((innerE (l.take t)).map EntT.tx).length=(innerE l).length:=by rw[List.take_of_length_le (by rw[HLN.out];omega)];exact hl1
    have HGB:Hid (Below w.heap.size w (w.alloc (.cells #[.slice none 0 0,.slice none 0 0] 60))):=KB0
    rw[hl1]at P0
    rw[hl2]
    obtain⟨m,hm9⟩: ∃ m,(innerE l).length=m:=⟨_,rfl⟩
    have HM:=Hd hm9
    have HNL:Hid (((innerE l).map EntT.nm).length=m):=Hd (by rw[List.length_map];exact hm9)
    rw[hm9]at P0 hIL
    rw[hm9]
    clear hJ HJ hm9 hl1 hl2
    go_wp2_with fail
    go_loopg [57] (m) (fun g i wr=> ∃ (t:Nat) (rs:List IRow),i= .int .i64 (t:Int)∧t≤m∧Hid (g+t=m)∧Hid (rs.map IRow.l=(graphE l).take t)∧Hid (OgK G (.slice TA m tc) ((innerE l).map EntT.nm) ((innerE l).map EntT.tx) rs (w.alloc (.cells #[.slice none 0 0,.slice none 0 0] 60)) wr))
    case atStart=>exact⟨0,[],rfl,Nat.zero_le _,Hd rfl,Hd rfl,P0⟩
    case round =>
     clear P0
     obtain⟨t2,rs,rfl,ht2,hg2,HRS,HJ⟩:=hrel
     have ht20:(0:Int)≤(t2:Int):=by omega
     have ht29:(t2:Int)≤1000:=by omega
     by_cases htm:t2<m
     · have hti2:(t2:Int)<(m:Int):=by omega
       obtain⟨x,hx0⟩: ∃ x,(innerE l)[t2]? =some x:=⟨_,List.getElem?_eq_getElem (by rw[HM.out];exact htm)⟩
       have HXT:=Hd hx0
       obtain⟨A8,c8,hv8,hr8⟩:=OwnC.rrd (c:=cS1) (k:=1) (fun _=>rfl) (by decide) HJ.out.txs
       rw[List.length_map,HM.out]at hv8 hr8
       cases hv8
       obtain⟨b1,o1,y,rfl,hb1,hy,hc1⟩:=hr8.cell htm
       rw[List.getElem?_map,hx0]at hy
       cases hy
       have y0:wr.cell? ⟨b1,o1+t2,none⟩=some (.string ⟨x.tx.toArray⟩):=by rw[show o1+t2=o1+(t2*1+0)by omega];exact hc1 0 _ rfl
       have hxl:=HXS.out x (List.mem_of_getElem? hx0)
       have HGT:=Hd (graph_take hx0)
       have CN:=Hd (refsEachL_c x.tx wr (HFT.out.1.below (HGB.out.trans (HJ.out.below.mono (by omega))) HFT.out.1.lt) (HFT.out.2.below (HGB.out.trans (HJ.out.below.mono (by omega))) (HFT.out.2.low HFT.out.1)) hxl)
       obtain⟨xt,hxt⟩: ∃ q,x.tx=q:=⟨_,rfl⟩
       rw[hxt]at y0 hxl CN HGT
       clear hr8 hb1 hc1 hxt hx0
       go_wp2_with fail
       refine CN.out.mono ?_
       rintro e w7 ⟨WA,wc,rfl,hwo,hwb⟩
       clear CN y0
       obtain⟨A7,c7,hv7,hr7⟩:=OwnC.rrd (c:=cS1) (k:=1) (fun _=>rfl) (by decide) hwo
       cases hv7
       have K7:=Hd (HJ.out.kept hwb)
       have HW:Hid (∀ W,Below w7.heap.size w7 W→RRd cS1 1 W W.heap.size WA (eachL xt).length wc (eachL xt)):=Hd fun W hb=>(hr7.below hb).more hb.size
       have hel:(eachL xt).length≤20000:=by have:=eachL_len xt;omega
       obtain⟨ws,hws⟩: ∃ q,eachL xt=q:=⟨_,rfl⟩
       have HWL:Hid (∀ s∈ws,s.length≤1024):=Hd (by rw[← hws];exact fun s hs=>each_name xt s hs)
       rw[hws]at HW hel HGT
       rw[hws]
       obtain⟨q,hq⟩: ∃ q,ws.length=q:=⟨_,rfl⟩
       have HQ:=Hd hq
       rw[hq]at HW hel
       rw[hq]
       clear hr7 hwo hwb hq hws
       have T0:Hid (Below w7.heap.size w7 w7∧OwnC cI 1 3 w7 w7.heap.size (.slice none 0 0) (toE ((innerE l).map EntT.nm) (ws.take 0))):=Hd ⟨Below.refl _ _,OwnC.start _ _ _ _ _⟩
       go_wp2_with fail
       generalize wr=wq9 at *
       go_loopg [12,64] (q) (fun g v i wr=> ∃ k:Nat,i= .int .i64 (k:Int)∧k≤q∧Hid (g+k=q)∧Hid (Below w7.heap.size w7 wr∧OwnC cI 1 3 wr w7.heap.size v (toE ((innerE l).map EntT.nm) (ws.take k))))
       case atStart=>exact⟨0,rfl,Nat.zero_le _,Hd rfl,T0⟩
       case round =>
        clear T0
        obtain⟨k,rfl,hk,hgk,HK⟩:=hrel
        have hk0:(0:Int)≤(k:Int):=by omega
        have hk9:(k:Int)≤20000:=by omega
        obtain⟨TB,tb,hvt⟩:=HK.out.2.form
        subst hvt
        have KR:=Hd (K7.out.kept HK.out.1)
        by_cases hkq:k<q
        · have hki:(k:Int)<(q:Int):=by omega
          obtain⟨b2,o2,y,rfl,hb2,hy,hc2⟩:=(HW.out wr HK.out.1).cell hkq
          have u0:wr.cell? ⟨b2,o2+k,none⟩=some (.string ⟨y.toArray⟩):=by rw[show o2+k=o2+(k*1+0)by omega];exact hc2 0 _ rfl
          have hyl:=HWL.out y (List.mem_of_getElem? hy)
          have HT:=Hd (toE_take (names:=(innerE l).map EntT.nm) hy)
          have hal:(toE ((innerE l).map EntT.nm) (ws.take k)).length≤20000:=by
           have:=toE_len ((innerE l).map EntT.nm) (ws.take k)
           rw[List.length_take]at this
           omega
          obtain⟨acc,hacc⟩: ∃ p,toE ((innerE l).map EntT.nm) (ws.take k)=p:=⟨_,rfl⟩
          rw[hacc]at HT HK hal
          rw[hacc]
          obtain⟨D,hown,hhas,hat⟩:=KR.out.map
          have HKEY:=Hd (keySg (s:=y) (by omega))
          have hhx:=hhas y
          have hby:=hat y
          clear hb2 hy hc2 hacc hhas hat
          by_cases hmem:y∈(innerE l).map EntT.nm
          · obtain⟨ix,hix⟩: ∃ p,((innerE l).map EntT.nm).idxOf y=p:=⟨_,rfl⟩
            have HE:Hid (toE ((innerE l).map EntT.nm) (ws.take (k+1))=acc++ [ix]):=Hd (by rw[HT.out,if_pos hmem,hix])
            have hh1:Go.Maps.has D (.string y)=true:=hhx.trans (by simpa using hmem)
            have HCI:Hid (∀ c:Int,D.atKey (.string y) (.lit (.int .i64 0))= .lit (.int .i64 c)→c=(ix:Int)):=Hd fun c hc=>by
             rw[hby hmem,hix]at hc
             cases hc
             rfl
            have hown2:wr.ownsRow w7.heap.size 3 1 (.slice TB acc.length tb) acc.length (acc.flatMap cI):=HK.out.2
            have hpl:acc.length≤1000000000:=by omega
            have hba:w7.heap.size≤wr.heap.size:=HK.out.1.size
            clear hmem hix HT hhx hby
            go_wp2_with (first|(at_lookup;refine wpList_lookup_own_ok_int _ rfl _ _ 98 rfl 9 3 .i64 lawSg Tryz.underlying98 Tryz.underlying3 (zeroIg _) (G+1) _ D rfl hown _ _ rfl HKEY.out ?_;intro c' hat' hwc;obtain rfl:=HCI.out c' hat';clear hat' hwc;rw[hh1])|(at_builtin;refine wpList_appK rfl (.tmp 75) (.tmp 77) 100 3 rfl (.int .i64 0) 1 8 Tryz.underlying100 infoC_int rfl (by decide) _ _ _ _ rfl hown2 (cI ix) _ rfl rfl rfl (by simp[cI,Value.oneCell']) hpl (by decide) hba ?_))
            intro v6 w6 hown6 hg6 hat6
            have O6:=Hd (OwnC.snoc (c:=cI) (x:=ix) hown6)
            have kb:=(Below.refl wr.heap.size wr).alloc (Nat.le_refl _) (.cells (cI ix).toArray 3)
            have HB6:=Hd ((HK.out.1.trans (kb.mono HK.out.1.size)).grown hg6 (by rw[World.size_alloc wr];omega) (fun j hj=>(HK.out.2.ge hj).2))
            clear hown6 hg6 hat6 hown hown2 kb hba
            go_wp2
            go_roundg (q - (k+1))
            case measure=>have:=hgk.out;omega
            case rel=>exact⟨k+1,by go_num,by omega,Hd (by have:=hgk.out;omega),Hd (by rw[HE.out];exact⟨HB6.out,O6.out⟩)⟩
          · have HE:Hid (toE ((innerE l).map EntT.nm) (ws.take (k+1))=acc):=Hd (by rw[HT.out,if_neg hmem,List.append_nil])
            have hh1:Go.Maps.has D (.string y)=false:=hhx.trans (by simpa using hmem)
            clear hmem HT hhx hby
            go_wp2_with (first|(at_lookup;refine wpList_lookup_own_ok_int _ rfl _ _ 98 rfl 9 3 .i64 lawSg Tryz.underlying98 Tryz.underlying3 (zeroIg _) (G+1) _ D rfl hown _ _ rfl HKEY.out ?_;intro c' hat' hwc;clear hat' hwc;rw[hh1]))
            go_roundg (q - (k+1))
            case measure=>have:=hgk.out;omega
            case rel=>exact⟨k+1,by go_num,by omega,Hd (by have:=hgk.out;omega),Hd (by rw[HE.out];exact HK.out)⟩
        · have hki: ¬ (k:Int)<(q:Int):=by omega
          have hJ:=HK.out
          have htk:ws.take k=ws:=List.take_of_length_le (by rw[HQ.out];omega)
          rw[htk]at hJ
          rw[htk]
          obtain⟨jb,⟨vN,vR,jq,jn,jt⟩,jx,jm,js⟩:=KR.out
          obtain⟨acc,hacc⟩: ∃ p,toE ((innerE l).map EntT.nm) ws=p:=⟨_,rfl⟩
          rw[hacc]at hJ HGT
          rw[hacc]
          have hrl:rs.length≤1000:=by
            have h9:=congrArg List.length HRS.out
            rw[List.length_map,List.length_take]at h9
            omega
          have HAC:Hid (OwnC cI 1 3 wr (G+2) (.slice TB acc.length tb) acc):=Hd (hJ.2.base (by have:=K7.out.lt;omega))
          obtain⟨TA2,tc2,hvT⟩:=jt.row.form
          subst hvT
          have z1:=cell_of 1 jq
          have JJ:=Hd (And.intro jb (And.intro js (And.intro jq (And.intro jn (And.intro jt (And.intro jx jm))))))
          have hown:wr.ownsRow (G+2) 100 1 (.slice TA2 rs.length tc2) rs.length (rs.flatMap cIR):=jt.row
          have hpl:rs.length≤1000000000:=by omega
          have hba:G+2≤wr.heap.size:=js
          clear htk hacc hJ jb js jq jn jt jx jm
          go_wp2_with (at_builtin;refine wpList_appK rfl (.tmp 81) (.tmp 83) 58 100 rfl (.slice none 0 0) 1 24 Tryz.underlying58 infoC_ints rfl (by decide) _ _ _ _ rfl hown (cIR ⟨TB,acc.length,tb,acc⟩) _ rfl rfl rfl (by simp[cIR,Value.oneCell']) hpl (by decide) hba ?_)
          intro v6 w6 hown6 hg6 hat6
          have hs6:=hg6.size
          rw[World.size_alloc]at hs6
          have kb:=(Below.refl wr.heap.size wr).alloc (Nat.le_refl _) (.cells (cIR ⟨TB,acc.length,tb,acc⟩).toArray 100)
          have O6:OwnC cIR 1 100 w6 (G+2) v6 (rs++ [⟨TB,acc.length,tb,acc⟩]):=OwnC.snoc (c:=cIR) (x:=⟨TB,acc.length,tb,acc⟩) hown6
          obtain⟨A6,c6,e6⟩:=O6.form
          subst e6
          have hnw: ∀ k,k<G+2→some k≠(Value.slice TA2 rs.length tc2).ownBlock:=fun k hk e=>by have:=(JJ.out.2.2.2.2.1.row.ge e.symm).2;omega
          have hq6:w6.heap[G]? =some (.cells #[vN,.slice TA2 rs.length tc2] 60 (0,0)):=by
            rw[hg6.block G (by rw[World.size_alloc];omega) (hnw _ (by omega))]
            exact hp_old JJ.out.2.2.1
          have x1:=cell_of 1 hq6
          have g1:=free_of 1 hq6
          have HNX:Hid (OgK G (.slice (some ⟨b1,o1,none⟩) m tc) ((innerE l).map EntT.nm) ((innerE l).map EntT.tx) (rs++ [⟨TB,acc.length,tb,acc⟩]) (w.alloc (.cells #[.slice none 0 0,.slice none 0 0] 60)) (w6.setCell ⟨G,1,none⟩ (.slice A6 (rs++ [(⟨TB,acc.length,tb,acc⟩:IRow)]).length c6))):=Hd (by
            refine⟨?_,⟨vN,_,hp_set hq6,?_,?_⟩,?_,?_,by rw[World.size_setCell];omega⟩
            · exact((JJ.out.1.trans (kb.mono (by omega))).grown hg6 (by rw[World.size_alloc];omega) (fun j hj=>by have:=(JJ.out.2.2.2.2.1.row.ge hj).2;omega)).setCell (p:=⟨G,1,none⟩) (Nat.le_refl _) _
            · exact((JJ.out.2.2.2.1.kept kb).grown (JJ.out.2.2.2.2.1.row.kept kb) (by decide) hg6).keep fun g h _=>hp_other (by omega)
            · exact(GOwn.snoc (JJ.out.2.2.2.2.1.kept kb) (HAC.out.kept kb) rfl hg6 O6).keep fun g h _=>hp_other (by omega)
            · exact((JJ.out.2.2.2.2.2.1.kept kb).grown (JJ.out.2.2.2.2.1.row.kept kb) (by decide) hg6).keep fun g h _=>hp_other (by omega)
            · refine JJ.out.2.2.2.2.2.2.kept ?_
              rw[hp_other (by omega),hg6.block _ (by rw[World.size_alloc];omega) (hnw _ (by omega))]
              exact kb.block _ (by omega))
          have HRN:Hid ((rs++ [(⟨TB,acc.length,tb,acc⟩:IRow)]).map IRow.l=(graphE l).take (t2+1)):=Hd (by rw[HGT.out,← HRS.out,List.map_append];rfl)
          obtain⟨n6,hn6⟩: ∃ p,(rs++ [(⟨TB,acc.length,tb,acc⟩:IRow)]).length=p:=⟨_,rfl⟩
          rw[hn6]at HNX
          rw[hn6]
          clear hown6 hg6 hat6 hown kb hba O6 JJ hq6 hn6 z1 hs6 hnw
          go_wp2
          go_roundg (m - (t2+1))
          case measure=>have:=hg2.out;omega
          case rel=>exact⟨t2+1,_,by go_num,by omega,Hd (by have:=hg2.out;omega),HRN,HNX⟩
     · have hti2: ¬ (t2:Int)<(m:Int):=by omega
       have hR:=HRS.out
       rw[List.take_of_length_le (by rw[graphE_len,HM.out];omega)]at hR
       obtain⟨jb,⟨vN,vR,jq,jn,jt⟩,jx,jm,js⟩:=HJ.out
       have hGS:w.heap.size<G:=by omega
       obtain⟨NA,nc,hvN⟩:=jn.form
       obtain⟨TA,tc9,hvT⟩:=jt.row.form
       have hl2:rs.length=m:=by have:=congrArg List.length hR;rw[List.length_map,graphE_len,HM.out]at this;exact this
       rw[HNL.out]at hvN
       rw[hl2]at hvT
       subst hvN hvT
       have z0:=cell_of 0 jq
       have z1:=cell_of 1 jq
       have HQ2:Hid (wr.heap[w.heap.size]? =some (.cells #[.slice none 0 0,.slice none 0 0] 60 (0,0))):=Hd ((jb.block _ hGS).trans HQ0.out)
       have hi:(Tryz.prog.info? 60).map (·.size)=some 2:=by kernel_rfl
       obtain⟨d,hu⟩:=isStruct_of (P:=Tryz.prog) (t:=60) (by kernel_rfl)
       have HU:=Hd (And.intro hi hu)
       have HQ3:Hid ((wr.setRow w.heap.size #[.slice NA m nc,.slice TA m tc9]).heap[w.heap.size]? =some (.cells #[.slice NA m nc,.slice TA m tc9] 60 (0,0))):=Hd (setRow_heap _ _ _ _ _ _ HQ2.out)
       have on:=jn.keep (w':=wr.setRow w.heap.size #[.slice NA m nc,.slice TA m tc9]) fun g h _=>setRow_other _ _ _ _ (by omega)
       have ot:=jt.keep (w':=wr.setRow w.heap.size #[.slice NA m nc,.slice TA m tc9]) fun g h _=>setRow_other _ _ _ _ (by omega)
       obtain⟨NA2,nc2,hvN2,hrn⟩:=OwnC.rrd (c:=cS1) (k:=1) (fun _=>rfl) (by decide) on
       obtain⟨TA2,tc2,hvT2,hrt⟩:=ot.rd
       rw[HNL.out]at hvN2 hrn
       rw[hl2]at hvT2 hrt
       cases hvN2
       cases hvT2
       have HBF:Below w.heap.size w (wr.setRow w.heap.size #[.slice NA m nc,.slice TA m tc9]):=by
        have hb9:Below w.heap.size w wr:=HGB.out.trans (jb.mono (by omega))
        refine⟨hb9.os,hb9.tape,hb9.output,?_,fun k hk=> ?_⟩
        · have:=hb9.size
          simpa [World.setRow] using this
        · rw[setRow_other _ _ _ _ (by omega)]
          exact hb9.block k hk
       have HF:=Hd (And.intro hR (And.intro hrn (And.intro hrt HBF)))
       clear hi hu jb js jn jt jx jm hR hl2 on ot hrn hrt HBF HJ HRS
       go_wp2_with (first|(refine wpList_load_row rfl _ _ rfl G rfl _ _ _ _ jq HU.out.2 rfl HU.out.1 ?_)|(refine wpList_store_row rfl _ _ _ rfl w.heap.size #[.slice NA m nc,.slice TA m tc9] rfl rfl _ _ HQ2.out (by kernel_rfl) rfl (by kernel_rfl) ?_))
       (try simp only[Exit.inBlock,Exit.then])
       have e9:=HM.out
       subst e9
       exact bodyPost_ret (results_cell_row rfl _ _ w.heap.size _ _ _ _ rfl HQ3.out HU.out.2 rfl HU.out.1) rfl ⟨NA,nc,TA,tc9,rfl,rs,HF.out.1,HF.out.2.1,HF.out.2.2.1,HF.out.2.2.2⟩
end Go.Proofs.YtbafljibbabnaaaGreatDoor
