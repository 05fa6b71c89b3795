/- Texts of ours, joined: Tok6b, SxP. -/
import Derived.Test.YtbafljibbabnaaaGreatDoorQ40
import Derived.Test.YtbafljibbabnaaaGreatDoorQ42
import Derived.Test.YtbafljibbabnaaaGreatDoorQ24
namespace Go.Proofs.YtbafljibbabnaaaGreatDoor
open Go.ChangeShapes Go.WideShapes Go.ChangeAt Go.RowKit
set_option linter.unusedVariables false
set_option maxRecDepth 100000
set_option maxHeartbeats 32000000
theorem cells_one (v:TokV): ∀ u∈v.cells,u.oneCell'=true:=by
 simp[TokV.cells,Value.oneCell']
theorem stepAppT {P:Program}{ops:Array Oper}{o:Oper}{a:Act}{K:Act→World→Prop}{Q:Exit→Act→World→Prop}{E:Prop}{w:World}{us':Array Value}(hgd:o.guard=none)(s x:Operand)(t e:TypeId)
 (ho:o.op= .call { callee:= .builtin .append,args:= #[s,x],argTypes:= #[t,t] }) (z:Value) (k bytes:Nat) (ht:P.underlying t=some (.slice e))
 (hi: ∃ i,P.info? e=some i∧i.zero=some z∧i.size=k∧i.bytes=bytes) (hzs:z.cells.size=k) (hk:0<k)
 (base:Nat) (v:Value) (n:Nat) (xs:List Value) (hs:a.eval s=v) (W:World) (hw:w=W.alloc (.cells us' e)) (hown:W.ownsRow base e k v n xs) (us:List Value) (hus:us'=us.toArray) (H:Nat) (hH:W.heap.size=H) (hx:a.eval x= .slice (some ⟨H,0,none⟩) 1 1)
 (hl:us.length=k) (h1: ∀ u∈us,u.oneCell'=true) (hn:n≤1000000000) (hby:bytes≤1000) (hbase:base≤W.heap.size)
 (h: ∀ v' w',w'.ownsRow base e k v' (n+1) (xs++us)→(W.alloc (.cells us' e)).grownBy w' v.ownBlock→(v'.ownBlock=v.ownBlock∨v'.ownBlock=some (H+1))→K (a.put o.dst v') w') :
 if Region.wanted o (yielded ops a.tmps)=true then Oper.wp P o a w K Q else E:=by
 subst hH hus hw
 obtain⟨i,hi,hz,hsz,hbt⟩:=hi
 refine step_append_lies (w:=W.alloc (.cells us.toArray e)) hgd s x t ho base e i z k bytes ht hi hz hsz hbt hzs hk v n xs hs (hown.alloc _) ⟨W.heap.size,0,none⟩ 1 1 us hx (by omega) (cell_newN W us e) h1 (by omega) (by unfold maxLen;omega) ?_ (by rw[World.size_alloc];omega) (W.heap.size+1) (by rw[World.size_alloc]) fun g cap w' hown' hgrow hat hlt=>h _ w' hown' hgrow ?_
 · have:(n+1)*bytes≤1000000001*1000:=Nat.mul_le_mul (by omega) hby
   omega
 · rcases hat with hat|hat
   · exact .inl hat.symm
   · exact .inr (by rw[hat];rfl)
theorem tokAll_c (A:Option Addr)(n cap:Nat)(l:List UInt8)(w:World)(h:Byt w w.heap.size A n cap l)(hW:W11 w)(hm:n≤40000) :
 Calls Tryz.prog 6 #[.slice A n cap] w fun e w'=>AllPostK (allOutK l) w e w':=by
 have hln:=h.length
 have CN:Hid (∀ t:Nat,t<n→ ∀ W v vs,GrowT 47 w W w.heap.size v vs→Calls Tryz.prog 12 #[.slice A n cap,.int .i64 (t:Int)] W fun e w'=>TokPost (nextOut l t) W e w'):=Hd fun t ht W v vs hG=>by
  have:=tokNext_c A n cap l t W ((h.below hG.below).more hG.below.size) (hW.below hG.below) hm
  rwa [nextAt_in l t (by omega)]at this
 have HLn:=Hd hln
 have hi:(Tryz.prog.info? 47).map (·.size)=some 7:=by kernel_rfl
 obtain⟨sd,hu⟩:=isStruct_of (P:=Tryz.prog) (t:=47) (by kernel_rfl)
 have HU:=Hd (And.intro hi hu)
 have HM:=Hd hm
 clear h hln hi hu hW
 go_enter Tryz.func6,Tryz.ntmps6
 go_wp2_with fail
 go_loopg [5,6] (n) (fun g v i wr=> ∃ (t:Nat) (vs:List TokV) (f:Nat),i= .int .i64 (t:Int)∧t≤n∧Hid (g=f)∧Hid (n≤f+t)∧Hid (vs.length≤t)∧Hid (allOutK l=allR l (f+1) (vs.map TokV.t) t)∧Hid (GrowT 47 w wr w.heap.size v vs))
 case atStart=>exact⟨0,[],n,rfl,Nat.zero_le _,Hd rfl,Hd (by omega),Hd (Nat.zero_le _),Hd (by unfold allOutK;rw[HLn.out];rfl),Hd (GrowT.start _ w)⟩
 case round =>
  obtain⟨t,vs,f,rfl,ht,hgf,hg,hal,HE,HG⟩:=hrel
  have hm:=HM.out
  have ht0:(0:Int)≤(t:Int):=by omega
  have ht9:(t:Int)≤40000:=by omega
  by_cases htn:t<n
  · have hti:(t:Int)<(n:Int):=by omega
    have htl:t<l.length:=by rw[HLn.out];exact htn
    have C1:=CN.out t htn _ _ _ HG.out
    have hok:=nextOut_ok l t htl
    have hbad:=fun e (h1:(nextOut l t).2=e) h2=>HE.out.trans (all_bad (f:=f) (acc:=vs.map TokV.t) htl h1 h2)
    have hmore:=fun k u (h1:nextOut l t=(k,0)) (h2:k.to_=((u:Nat):Int))=>HE.out.trans (all_more (f:=f) (acc:=vs.map TokV.t) htl h1 h2)
    generalize nextOut l t=o at *
    obtain⟨k,e⟩:=o
    simp only at hok hbad
    have C2:=Hd C1
    clear C1
    by_cases he:e=0
    · subst he
      obtain⟨hfro,u,hu,htu,hun⟩:=hok rfl
      clear hfro
      rw[HLn.out]at hun
      have HA:=Hd (hmore k u rfl hu)
      have HUu:=Hd hu
      clear hok hbad hmore htl hu
      go_wp2_with fail
      refine C2.out.mono ?_
      intro e0 w2 hp
      obtain⟨PA,pn,pc,rfl,hpr,hb,hlo⟩:=hp.out
      simp only at hpr
      have ka:=(Below.refl _ w2).alloc (Nat.le_refl _) (.cells #[.int .i64 k.kind,.int .i64 k.fro,.int .i64 k.to_,.string ⟨k.name.toArray⟩,.string ⟨k.text.toArray⟩,.slice PA pn pc,.int .i64 k.r] 47)
      have G1:=Hd (HG.out.kept hb)
      have G2:=Hd (G1.out.kept ka)
      have HQ:=Hd (hp_new w2 (.cells #[.int .i64 k.kind,.int .i64 k.fro,.int .i64 k.to_,.string ⟨k.name.toArray⟩,.string ⟨k.text.toArray⟩,.slice PA pn pc,.int .i64 k.r] 47))
      have HX:=Hd (And.intro ((hpr.below ka).more ka.size) (fun(_:0<pc) b i (hA:PA=some ⟨b,i,none⟩)=>HG.out.fresh (hlo b i hA)))
      have z2:=cell_of 2 HQ.out
      have hvl:vs.length≤1000000000:=by have:=hal.out;omega
      have hba:w.heap.size≤(w2.alloc (.cells #[.int .i64 k.kind,.int .i64 k.fro,.int .i64 k.to_,.string ⟨k.name.toArray⟩,.string ⟨k.text.toArray⟩,.slice PA pn pc,.int .i64 k.r] 47)).heap.size:=G2.out.base1
      clear hpr hb hlo ka hp
      go_wp2_with fail
      have HLD:=Hd (fun(W:World) (hW:W.heap[w2.heap.size]? =some (.cells #[.int .i64 k.kind,.int .i64 k.fro,.int .i64 k.to_,.string ⟨k.name.toArray⟩,.string ⟨k.text.toArray⟩,.slice PA pn pc,.int .i64 k.r] 47))=>run_loadVar_row (P:=Tryz.prog) W w2.heap.size _ 47 _ _ _ hW HU.out.2 rfl HU.out.1)
      have G3:=Hd (G2.out.kept (below_drewN' (n:=1) (Below.refl _ _)))
      have hsz3:(w2.alloc (.cells #[.int .i64 k.kind,.int .i64 k.fro,.int .i64 k.to_,.string ⟨k.name.toArray⟩,.string ⟨k.text.toArray⟩,.slice PA pn pc,.int .i64 k.r] 47)).heap.size=w2.heap.size+1:=by simp
      have HX3:=Hd (And.intro (HX.out.1.drewN (k:=1)) HX.out.2)
      generalize hv3:w2.alloc (.cells #[.int .i64 k.kind,.int .i64 k.fro,.int .i64 k.to_,.string ⟨k.name.toArray⟩,.string ⟨k.text.toArray⟩,.slice PA pn pc,.int .i64 k.r] 47)=v3 at *
      clear hv3
      have HQd:v3.drew.heap[w2.heap.size]? =some (.cells #[.int .i64 k.kind,.int .i64 k.fro,.int .i64 k.to_,.string ⟨k.name.toArray⟩,.string ⟨k.text.toArray⟩,.slice PA pn pc,.int .i64 k.r] 47):=HQ.out
      have x0:=cell_of 0 HQd
      have x1:=cell_of 1 HQd
      have x2:=cell_of 2 HQd
      have x3:=cell_of 3 HQd
      have x4:=cell_of 4 HQd
      have x5:=cell_of 5 HQd
      have x6:=cell_of 6 HQd
      go_region_law (refine stepAppT rfl (.tmp 23) (.tmp 25) 25 47 rfl (.agg #[.int .i64 0,.int .i64 0,.int .i64 0,.string ⟨#[]⟩,.string ⟨#[]⟩,.slice none 0 0,.int .i64 0]) 7 88 Tryz.underlying25 info_tok rfl (by decide) w.heap.size _ vs.length (cellsK vs) rfl v3.drew rfl G3.out.own (TokV.cells ⟨k,PA,pn,pc⟩) rfl (w2.heap.size+1) (by show v3.heap.size=_;omega) rfl rfl (cells_one _) hvl (by decide) G3.out.base1 ?_;intro v4 w4 hown4 hg4 hat4;have G4:=Hd (G3.out.appended (x:=⟨k,PA,pn,pc⟩) HX3.out.1 HX3.out.2 hown4 hg4 (by rw[show (v3.drewN 1).heap.size=w2.heap.size+1 from hsz3];exact hat4));have z4:w4.cell? ⟨w2.heap.size,2,none⟩=some (.int .i64 k.to_):=cell_of 2 ((hg4.block w2.heap.size (by rw[World.size_alloc];show w2.heap.size<v3.heap.size+1;omega) (G1.out.fresh (Nat.le_refl _))).trans ((Below.heap_alloc _ _ _ (by show w2.heap.size<v3.heap.size;omega)).trans HQ.out));clear hown4 hg4 hat4)
      all_goals
       go_wp2
       go_roundg (f - 1)
       case measure=>have:=hg.out;have:=hgf.out;omega
       case rel=>exact⟨u,vs++ [⟨k,PA,pn,pc⟩],f - 1,by rw[HUu.out],by omega,Hd rfl,Hd (by have:=hg.out;omega),Hd (by have:=hal.out;simp;omega),Hd (by rw[HA.out,List.map_append,show f - 1+1=f by have:=hg.out;omega];rfl),G4⟩
    · have HA:=Hd (hbad e rfl he)
      have hei:((e:Int)==0)=false:=by simp;omega
      clear hok hbad hmore htl
      go_wp2_with fail
      refine C2.out.mono ?_
      intro e0 w2 hp
      obtain⟨PA,pn,pc,rfl,hpr,hb,hlo⟩:=hp.out
      have B:=Hd ((HG.out.kept hb).below.alloc (HG.out.kept hb).below.size (.cells #[.int .i64 k.kind,.int .i64 k.fro,.int .i64 k.to_,.string ⟨k.name.toArray⟩,.string ⟨k.text.toArray⟩,.slice PA pn pc,.int .i64 k.r] 47))
      clear hpr hb hlo hp
      go_wp2
      go_ret3
      rw[HA.out]
      exact AllPostK.bad rfl B.out
  · have hti: ¬ (t:Int)<(n:Int):=by omega
    have HA:=Hd (HE.out.trans (all_end (by rw[HLn.out];exact htn)))
    obtain rfl:t=n:=by omega
    go_wp2
    go_ret3
    rw[HA.out]
    exact AllPostK.good HG.out rfl
theorem pairs_small (l:List UInt8): ∀ (f:Nat) (acc:List PairL) (t:Nat),t≤l.length→acc.length≤t→(∀ p∈acc,p.2.length≤l.length)→(pairsR l f acc t).1.length≤l.length∧ ∀ p∈(pairsR l f acc t).1,p.2.length≤l.length
 |0,acc,t,_,_,_=>⟨Nat.zero_le _,fun p hp=>by cases hp⟩
 |f+1,acc,t,ht,ha,hb=>by
  have hbl:=blankTo_le l t ht
  unfold pairsR
  split
  · exact⟨by simp only;omega,hb⟩
  · split
    · exact⟨Nat.zero_le _,fun p hp=>by cases hp⟩
    · rename_i h0
      have hp:=pairOut_ok l (blankTo l t) hbl.2 (by simpa using h0)
      split
      · exact⟨Nat.zero_le _,fun p hp=>by cases hp⟩
      · refine pairs_small l f _ _ hp.2.1 (by simp only[List.length_append,List.length_cons,List.length_nil];omega) fun p hq=> ?_
        rcases List.mem_append.1 hq with h|h
        · exact hb p h
        · rw[List.mem_singleton]at h
          subst h
          exact hp.2.2.2
theorem pairsOut_small (l:List UInt8)(k:Nat):(pairsOut l k).1.length≤l.length∧ ∀ p∈(pairsOut l k).1,p.2.length≤l.length:=by
 by_cases hk:k≤l.length
 · exact pairs_small l _ [] k hk (Nat.zero_le _) (fun p hp=>by cases hp)
 · have hb:=blankTo_end l k (by omega)
   unfold pairsOut
   rw[pairsR,if_pos (by unfold stopB;simp[hb])]
   exact⟨Nat.zero_le _,fun p hp=>by cases hp⟩
theorem open_small (l:List UInt8)(k:Nat):(openOut l k).1.pairs.length≤l.length∧ ∀ p∈(openOut l k).1.pairs,p.2.length≤l.length:=by
 have h0:(noTag.pairs.length≤l.length∧ ∀ p∈noTag.pairs,p.2.length≤l.length):=⟨Nat.zero_le _,fun p hp=>by cases hp⟩
 unfold openOut
 split
 · split
   · exact h0
   · split
     · exact h0
     · split
       · exact pairsOut_small l _
       · split
         · exact pairsOut_small l _
         · exact h0
 · exact h0
def okTk (n:Nat)(t:TokL):Prop:=(t.kind=3→t.name.length≤1024)∧t.pairs.length≤n∧ ∀ p∈t.pairs,p.2.length≤n
theorem okTk.zero {n:Nat}{t:TokL}(hp:t.pairs= [])(hk:t.kind≠3):okTk n t:=⟨fun h=>absurd h hk,by rw[hp];exact Nat.zero_le _,fun p h=>by rw[hp]at h;cases h⟩
theorem readTok_small (l:List UInt8)(k:Nat):okTk l.length (readTok l k).1:=by
 unfold readTok
 split
 · exact okTk.zero rfl (by first|(simp;done)|(simp[noTok];done))
 · split
   · exact okTk.zero rfl (by first|(simp;done)|(simp[noTok];done))
   · split
     · exact okTk.zero rfl (by first|(simp;done)|(simp[noTok];done))
     · split
       · exact okTk.zero rfl (by first|(simp;done)|(simp[noTok];done))
       · split
         · refine⟨fun h=> ?_,open_small l k⟩
           simp only at h
           split at h <;> cases h
         · split
           · exact okTk.zero rfl (by first|(simp;done)|(simp[noTok];done))
           · split
             · exact⟨fun _=>refOut_len l k,Nat.zero_le _,fun p hp=>by cases hp⟩
             · unfold textTok
               split
               · exact okTk.zero rfl (by first|(simp;done)|(simp[noTok];done))
               · exact okTk.zero rfl (by first|(simp;done)|(simp[noTok];done))
theorem nextOut_small (l:List UInt8)(k:Nat):okTk l.length (nextOut l k).1:=by
 unfold nextOut
 split
 · exact readTok_small l k
 · exact okTk.zero rfl (by first|(simp;done)|(simp[noTok];done))
theorem all_small (l:List UInt8): ∀ (f:Nat) (acc:List TokL) (t:Nat),t≤l.length→acc.length≤t→(∀ x∈acc,okTk l.length x)→(allR l f acc t).1.length≤l.length∧ ∀ x∈(allR l f acc t).1,okTk l.length x
 |0,acc,t,_,_,_=>⟨Nat.zero_le _,fun p hp=>by cases hp⟩
 |f+1,acc,t,ht,ha,hb=>by
  unfold allR
  split
  · rename_i hlt
    split
    · rename_i h0
      obtain⟨_,u,hu,h1,h2⟩:=nextOut_ok l t hlt h0
      rw[hu,Int.toNat_natCast]
      refine all_small l f _ _ h2 (by simp only[List.length_append,List.length_cons,List.length_nil];omega) fun p hq=> ?_
      rcases List.mem_append.1 hq with h|h
      · exact hb p h
      · rw[List.mem_singleton]at h
        subst h
        exact nextOut_small l t
    · exact⟨Nat.zero_le _,fun p hp=>by cases hp⟩
  · exact⟨by simp only;omega,hb⟩
theorem allOut_small (l:List UInt8):(allOutK l).1.length≤l.length∧ ∀ x∈(allOutK l).1,okTk l.length x:=all_small l _ [] 0 (Nat.zero_le _) (Nat.le_refl _) (fun x hx=>by cases hx)
def namesK (t:TokL):List (List UInt8):=(if t.kind=3 then [t.name] else [])++t.pairs.flatMap fun p=>rnames p.2
def namesT (ts:List TokL):List (List UInt8):=ts.flatMap namesK
def accT (look:List UInt8→Option (Nat × Nat × Nat))(ts:List TokL):Nat × Nat × Nat:=extraL look (namesT ts)
theorem accT_snoc (look:List UInt8→Option (Nat × Nat × Nat))(ts:List TokL)(t:TokL):accT look (ts++ [t])=(namesK t).foldl (extraF look) (accT look ts):=by
 unfold accT extraL namesT
 rw[List.flatMap_append,List.foldl_append,List.flatMap_cons,List.flatMap_nil,List.append_nil]
theorem accT_le (look:List UInt8→Option (Nat × Nat × Nat))(ts:List TokL):(accT look ts).1≤9223372036854775807∧(accT look ts).2.1≤9223372036854775807:=extra_le look _ _ ⟨by simp,by simp⟩
theorem lookP_range (l:List EntT)(s:List UInt8):lookP l (List.range (innerE l).length) s=lookE (innerE l) (sizesE l) s:=by
 unfold lookP lookE
 by_cases hs:s∈(innerE l).map EntT.nm
 · have hi:((innerE l).map EntT.nm).idxOf s<(innerE l).length:=by have:=List.idxOf_lt_length_iff.2 hs;simpa using this
   rw[if_pos ⟨hs,List.mem_range.2 hi⟩,if_pos hs]
 · rw[if_neg (fun h=>hs h.1),if_neg hs]
theorem lookE_bound {l:List EntT}(hnl: ¬ loopsE l)(s:List UInt8)(z:Nat × Nat × Nat)(h:lookE (innerE l) (sizesE l) s=some z):z.1≤9223372036854775807∧z.2.1≤9223372036854775807∧z.2.2≤(innerE l).length+1:=by
 rw[← lookP_range]at h
 exact lookP_bound hnl _ _ _ h
end Go.Proofs.YtbafljibbabnaaaGreatDoor
