/- Texts of ours, joined: RfM, ZnN, ZnE. -/
import Derived.Test.YtbafljibbabnaaaGreatDoorQ44
namespace Go.Proofs.YtbafljibbabnaaaGreatDoor
open Go.ChangeShapes Go.WideShapes Go.ChangeAt Go.RowKit
set_option linter.unusedVariables false
set_option maxRecDepth 100000
set_option maxHeartbeats 32000000
theorem wpList_appRowS {ops:Array Oper}{rest:List Oper}{o:Oper}{a:Act}{Q:Exit→Act→World→Prop}{w:World}(hgd:o.guard=none)(s x:Operand)
 (ho:o.op= .call { callee:= .builtin .append,args:= #[s,x],argTypes:= #[57,57] }) (base:Nat) (v:Value) (ws:List (List UInt8)) (hs:a.eval s=v) (hown:OwnC cS1 1 9 w base v ws)
 (A:Option Addr) (m c:Nat) (t:List (List UInt8)) (hx:a.eval x= .slice A m c) (hr:RRd cS1 1 w w.heap.size A m c t) (hb:ws.length+m≤1000000000) (hbase:base≤w.heap.size)
 (h: ∀ v' w',OwnC cS1 1 9 w' base v' (ws++t)→w.grownBy w' v.ownBlock→wpList Tryz.prog ops Q rest (a.put o.dst v') w'):wpList Tryz.prog ops Q (o :: rest) a w:=by
 obtain⟨i,h1,h2,h3,h4⟩:=info_str
 have hfl: ∀ l:List (List UInt8),(l.flatMap cS1).length=l.length:=fun l=>by rw[flat_len (k:=1) (fun _=>rfl)];omega
 have hl:=hr.len
 cases A with
 |none =>
  have hc:=hr.nil rfl
  have hn:=hr.le
  obtain rfl:t= []:=List.length_eq_zero_iff.1 (by omega)
  obtain rfl:c=0:=hc
  obtain rfl:m=0:=by omega
  have hrun:=run_append_owned_none (P:=Tryz.prog) (w:=w) base 57 o.type 9 i 1 Tryz.underlying57 h1 v ws.length (ws.flatMap cS1) hown
  refine wpList_plain hgd fun K hK=> ?_
  unfold Oper.wp execOp
  simp only[ho,resolve,invoke,builtin,Sem.run_bind,Sem.run_pure,Result.andThen_ok,List.map_toArray,List.map_cons,List.map_nil,hs,hx,hrun]
  exact hK _ _ (h v w (by rw[List.append_nil];exact hown) ⟨rfl,rfl,rfl,Nat.le_refl _,fun _ _ _=>rfl⟩)
 |some ad =>
  have hcc: ∀ (j:Nat) (u:List UInt8),t[j]? =some u→w.cell? (ad.add j)=some (.string ⟨u.toArray⟩):=fun j u hu=>by
   obtain⟨b,o2,e,_,hc⟩:=hr.at_ (by have:=(List.getElem?_eq_some_iff.1 hu).1;have:=hr.le;omega)
   cases e
   rw[addr_add,show o2+j=o2+(j*1+0)by omega]
   exact hc j u hu 0 _ rfl
  refine wpList_append_own_at _ hgd s x 57 ho base 9 i (.string ⟨#[]⟩) 1 16 Tryz.underlying57 h1 h2 h3 h4 rfl (by decide) v ws.length (ws.flatMap cS1) hs hown ad m c (t.flatMap cS1) hx (by rw[hfl];omega) (fun j u hu=> ?_) (fun u hu=> ?_) (by unfold maxLen;omega) (by omega) hbase fun v' w' ho hg _ _=>h v' w' ?_ hg
  · have hj:j<t.length:=by rw[← hfl t];exact(List.getElem?_eq_some_iff.1 hu).1
    have e:=flat_get (c:=cS1) (k:=1) (fun _=>rfl) t j t[j] (List.getElem?_eq_getElem hj) 0 _ rfl
    rw[Nat.mul_one,Nat.add_zero,hu]at e
    rw[Option.some.inj e]
    exact hcc j _ (List.getElem?_eq_getElem hj)
  · obtain⟨y,_,hy⟩:=List.mem_flatMap.1 hu
    simp only[cS1,List.mem_singleton]at hy
    subst hy
    rfl
  · unfold OwnC
    rw[List.length_append,List.flatMap_append,hl]
    exact ho
theorem rfNamesAll_c (l:List UInt8)(w:World)(hm:l.length≤20000):Calls Tryz.prog 44 #[.string ⟨l.toArray⟩,.bool false] w fun e w'=> ∃ OA oc,e= .returned (.slice OA (rnames l).length oc)∧OwnC cS1 1 9 w' w.heap.size (.slice OA (rnames l).length oc) (rnames l)∧Below w.heap.size w w':=by
 have C1:=Hd (rfAll_c l w hm)
 have hle:(rfsA l 0).length≤20000:=by have:=rfsA_len l l.length 0 (by omega);omega
 go_enter Tryz.func44,Tryz.ntmps44
 go_wp2_with fail
 refine C1.out.mono ?_
 rintro e w1 ⟨OA,oc,rfl,ho,hb⟩
 obtain⟨A1,c1,hv1,hr1⟩:=OwnC.rrd (c:=cRf) (k:=3) (fun _=>rfl) (by decide) ho
 cases hv1
 have HB1:=Hd hb
 have HP:Hid (∀ W,Below w1.heap.size w1 W→RRd cRf 3 W W.heap.size OA (rfsA l 0).length oc (rfsA l 0)):=Hd fun W hb=>(hr1.below hb).more hb.size
 obtain⟨n,hn⟩: ∃ n,(rfsA l 0).length=n:=⟨_,rfl⟩
 rw[hn]at HP hle ⊢
 have HN:=Hd hn
 have hJ0:Hid (Below w1.heap.size w1 w1∧OwnC cS1 1 9 w1 w1.heap.size (.slice none 0 0) (((rfsA l 0).take 0).map (fun r=>r.2.2))):=Hd ⟨Below.refl _ _,OwnC.start _ _ _ _ _⟩
 clear hn hr1 ho hb C1
 go_wp2
 go_loopg [6,7] (n) (fun g v i wr=> ∃ t:Nat,i= .int .i64 (t:Int)∧t≤n∧Hid (g+t=n)∧Hid (Below w1.heap.size w1 wr∧OwnC cS1 1 9 wr w1.heap.size v (((rfsA l 0).take t).map (fun r=>r.2.2))))
 case atStart=>exact⟨0,rfl,Nat.zero_le _,Hd rfl,hJ0⟩
 case round =>
  clear hJ0
  obtain⟨t,rfl,ht,hg,HJ⟩:=hrel
  have ht0:(0:Int)≤(t:Int):=by omega
  have ht9:(t:Int)≤20000:=by omega
  by_cases htn:t<n
  · have hti:(t:Int)<(n:Int):=by omega
    obtain⟨x,hx0⟩: ∃ x,(rfsA l 0)[t]? =some x:=⟨_,List.getElem?_eq_getElem (by rw[HN.out];exact htn)⟩
    have HT:Hid (((rfsA l 0).take (t+1)).map (fun r=>r.2.2)=((rfsA l 0).take t).map (fun r=>r.2.2)++ [x.2.2]):=Hd (by rw[List.take_add_one,hx0];simp)
    have hal:(((rfsA l 0).take t).map (fun r=>r.2.2)).length≤20000:=by
     simp only[List.length_map,List.length_take]
     omega
    obtain⟨acc,hacc⟩: ∃ q,((rfsA l 0).take t).map (fun r=>r.2.2)=q:=⟨_,rfl⟩
    rw[hacc]at HT HJ hal
    obtain⟨A0,c0,hv0,hr0⟩:=OwnC.rrd (c:=cS1) (k:=1) (fun _=>rfl) (by decide) HJ.out.2
    subst hv0
    obtain⟨xk,xn,xs⟩:=x
    simp only at HT
    have HX:=Hd hx0
    obtain⟨m,hml⟩: ∃ m,acc.length=m:=⟨_,rfl⟩
    have HM:=Hd hml
    rw[hml]at HJ hal ⊢
    clear hr0 hacc hml hx0
    obtain⟨b2,o2,x2,rfl,hb2,hx2,hc2⟩:=(HP.out wr HJ.out.1).cell htn
    rw[HX.out]at hx2
    cases hx2
    have y2:wr.cell? ⟨b2,o2+t*3+2,none⟩=some (.string ⟨xs.toArray⟩):=by rw[show o2+t*3+2=o2+(t*3+2)by omega];exact hc2 2 _ rfl
    have hown:wr.ownsRow w1.heap.size 9 1 (.slice A0 m c0) m (acc.flatMap cS1):=by have:=HJ.out.2;unfold OwnC at this;rw[HM.out]at this;exact this
    have hba:w1.heap.size≤wr.heap.size:=HJ.out.1.size
    have hpl:m≤1000000000:=by omega
    clear hb2 hc2
    by_cases hm0:(0:Int)<(m:Int)
    all_goals
     go_wp2_with fail
     go_loopg [8,9] (0) (fun g b j wq=>b= .bool false∧j= .int .i64 0∧Hid (wq=wr))
     case atStart=>exact⟨rfl,rfl,Hd rfl⟩
     case round =>
      obtain⟨rfl,rfl,HQ⟩:=hrel
      obtain rfl:=HQ.out
      go_wp2_with (at_builtin;refine wpList_appK rfl (.tmp 42) (.tmp 48) 57 9 rfl (.string ⟨#[]⟩) 1 16 Tryz.underlying57 info_str rfl (by decide) _ _ _ _ rfl hown (cS1 xs) _ rfl rfl rfl (by simp[cS1,Value.oneCell']) hpl (by decide) hba ?_)
      intro v6 w6 hown6 hg6 hat6
      have O6:Hid (OwnC cS1 1 9 w6 w1.heap.size v6 (acc++ [xs])):=Hd (OwnC.snoc (by rw[HM.out];exact hown6))
      have kb:=(Below.refl wr.heap.size wr).alloc (Nat.le_refl _) (.cells (cS1 xs).toArray 9)
      have HB6:=Hd ((HJ.out.1.trans (kb.mono HJ.out.1.size)).grown hg6 (by rw[World.size_alloc wr];omega) (fun j hj=>(HJ.out.2.ge hj).2))
      clear hown6 hg6 hat6 hown kb hba
      go_wp2
      go_roundg (n - (t+1))
      case measure=>have:=hg.out;omega
      case rel=>exact⟨t+1,by go_num,by omega,Hd (by have:=hg.out;omega),Hd (by rw[HT.out];exact⟨HB6.out,O6.out⟩)⟩
  · have hti: ¬ (t:Int)<(n:Int):=by omega
    have htn2:t=n:=by omega
    obtain⟨A0,c0,hv0⟩:=HJ.out.2.form
    subst hv0
    have HF:Hid (((rfsA l 0).take t).map (fun r=>r.2.2)=rnames l):=Hd (by rw[List.take_of_length_le (by rw[HN.out];omega)];rfl)
    rw[HF.out]at HJ ⊢
    have HBE:=Hd (HB1.out.trans (HJ.out.1.mono HB1.out.size))
    have HOE:=Hd (HJ.out.2.base HB1.out.size)
    clear htn2 HJ HF
    go_wp2
    go_ret
    exact⟨A0,c0,rfl,HOE.out,HBE.out⟩
theorem names_flat: ∀ (ps:List PairL) (b:Nat),(∀ p∈ps,p.2.length≤b)→(ps.flatMap fun p=>rnames p.2).length≤ps.length*b
 | [],b,_=>by simp
 |p :: ps,b,h=>by
  have ih:=names_flat ps b fun q hq=>h q (List.mem_cons_of_mem _ hq)
  have h1:=h p List.mem_cons_self
  have h2:=rfsA_len p.2 p.2.length 0 (by omega)
  rw[List.flatMap_cons,List.length_append,List.length_cons,Nat.add_mul]
  unfold rnames at ih ⊢
  rw[List.length_map]
  omega
theorem namesT_len: ∀ (ts:List TokL),(∀ t∈ts,okTk 400 t)→(namesT ts).length≤ts.length*160001
 | [],_=>by simp[namesT]
 |t :: ts,h=>by
  have ih:=namesT_len ts fun x hx=>h x (List.mem_cons_of_mem _ hx)
  have h1:=h t List.mem_cons_self
  have h2:=names_flat t.pairs 400 h1.2.2
  have h3:t.pairs.length*400≤400*400:=Nat.mul_le_mul_right _ h1.2.1
  have h4:(namesK t).length≤160001:=by
   unfold namesK
   rw[List.length_append]
   split
   · simp only[List.length_cons,List.length_nil];omega
   · simp only[List.length_nil];omega
  have e:namesT (t :: ts)=namesK t++namesT ts:=rfl
  rw[e,List.length_append,List.length_cons]
  omega
theorem znNames_c (A:Option Addr)(n cap:Nat)(vs:List TokV)(w:World)(h:TRd w w.heap.size A n cap vs)(hn:n≤400)(hts: ∀ v∈vs,okTk 400 v.t) :
 Calls Tryz.prog 23 #[.slice A n cap] w fun e w'=> ∃ OA oc,e= .returned (.slice OA (namesT (vs.map TokV.t)).length oc)∧OwnC cS1 1 9 w' w.heap.size (.slice OA (namesT (vs.map TokV.t)).length oc) (namesT (vs.map TokV.t))∧Below w.heap.size w w':=by
 have HT:=Hd (And.intro h hts)
 have J0:Hid (Below w.heap.size w w∧OwnC cS1 1 9 w w.heap.size (.slice none 0 0) (namesT ((vs.map TokV.t).take 0))):=Hd ⟨Below.refl _ _,OwnC.start _ _ _ _ _⟩
 have hvl:vs.length=n:=h.len
 have HVL:=Hd hvl
 clear h hts hvl
 go_enter Tryz.func23,Tryz.ntmps23
 go_wp2
 go_loopg [3,4] (n) (fun gg v iv wr=> ∃ i:Nat,iv= .int .i64 (i:Int)∧i≤n∧Hid (gg+i=n)∧Hid (Below w.heap.size w wr∧OwnC cS1 1 9 wr w.heap.size v (namesT ((vs.map TokV.t).take i))))
 case atStart=>exact⟨0,rfl,Nat.zero_le _,Hd rfl,J0⟩
 case round =>
  clear J0
  obtain⟨i,rfl,hi,hgi,HJ⟩:=hrel
  have hi0:(0:Int)≤(i:Int):=by omega
  have hi9:(i:Int)≤400:=by omega
  obtain⟨A0,c0,hv0⟩:=HJ.out.2.form
  subst hv0
  by_cases hin:i<n
  · have hii:(i:Int)<(n:Int):=by omega
    have hal0:=namesT_len ((vs.map TokV.t).take i) fun t ht=>by
     obtain⟨v,hv,rfl⟩:=List.mem_map.1 (List.mem_of_mem_take ht)
     exact HT.out.2 v hv
    rw[List.length_take]at hal0
    have hal1:min i (vs.map TokV.t).length*160001≤400*160001:=Nat.mul_le_mul_right _ (by omega)
    obtain⟨b1,o1,rfl,hb1,hc1⟩:=HT.out.1.at_ (by have:=HT.out.1.le;omega)
    have hv:=List.getElem?_eq_getElem (l:=vs) (i:=i) (by rw[HVL.out];exact hin)
    generalize vs[i]'(by rw[HVL.out];exact hin)=v at hv
    have HOK:=Hd (HT.out.2 v (List.mem_of_getElem? hv))
    have HPR:Hid (∀ W,Below w.heap.size w W→PRd W w.heap.size v.A v.n v.c v.t.pairs):=Hd fun W hb=>(HT.out.1.below hb).prs v (List.mem_of_getElem? hv)
    have HACC:Hid (namesT ((vs.map TokV.t).take (i+1))=namesT ((vs.map TokV.t).take i)++namesK v.t):=Hd (by
     rw[List.take_add_one,List.getElem?_map,hv]
     unfold namesT
     rw[List.flatMap_append]
     simp)
    have hc2:=hc1 i v hv
    have HTC:Hid (∀ W,Below w.heap.size w W→W.cell? ⟨b1,o1+i*7,none⟩=some (.int .i64 v.t.kind)∧W.cell? ⟨b1,o1+i*7+3,none⟩=some (.string ⟨v.t.name.toArray⟩)∧W.cell? ⟨b1,o1+i*7+5,none⟩=some (.slice v.A v.n v.c)):=Hd fun W hb =>
     ⟨(hb.cell (p:=⟨b1,_,none⟩) hb1).trans (by rw[show o1+i*7=o1+(i*7+0)by omega];exact hc2 0 _ rfl),(hb.cell (p:=⟨b1,_,none⟩) hb1).trans (by rw[show o1+i*7+3=o1+(i*7+3)by omega];exact hc2 3 _ rfl),(hb.cell (p:=⟨b1,_,none⟩) hb1).trans (by rw[show o1+i*7+5=o1+(i*7+5)by omega];exact hc2 5 _ rfl)⟩
    obtain⟨⟨kind,fro,to_,name,text,pairs,r⟩,PA,pn,pc⟩:=v
    simp only at HTC HPR HACC HOK
    obtain⟨t0,t3,t5⟩:=HTC.out wr HJ.out.1
    have hpn:pairs.length=pn:=(HPR.out w (Below.refl _ _)).len
    have hpn9:pn≤400:=by have h9:pairs.length≤400:=HOK.out.2.1;omega
    have HPL:=Hd hpn
    have hal:(namesT ((vs.map TokV.t).take i)).length≤400*160001:=Nat.le_trans hal0 hal1
    obtain⟨acc,hacc⟩: ∃ q,namesT ((vs.map TokV.t).take i)=q:=⟨_,rfl⟩
    rw[hacc]at HJ HACC hal
    (try rw[hacc])
    obtain⟨m0,hm0⟩: ∃ m,acc.length=m:=⟨_,rfl⟩
    have HM0:=Hd hm0
    rw[hm0]at HJ hal
    (try rw[hm0])
    clear hpn hb1 hc1 hc2 hv hacc hm0 hal0 hal1
    by_cases hk3:kind=3
    case' pos =>
     have hkb:(kind==3)=true:=by simpa using hk3
     have HEA:Hid (namesT ((vs.map TokV.t).take (i+1))=(acc++ [name])++pairs.flatMap fun p=>rnames p.2):=Hd (by rw[HACC.out];unfold namesK;rw[if_pos hk3,List.append_assoc])
     have hown:wr.ownsRow w.heap.size 9 1 (.slice A0 m0 c0) m0 (acc.flatMap cS1):=by have:=HJ.out.2;unfold OwnC at this;rw[HM0.out]at this;exact this
     have hba:w.heap.size≤wr.heap.size:=HJ.out.1.size
     have hpl:m0≤1000000000:=by omega
     clear hk3
     go_wp2_with (at_builtin;refine wpList_appK rfl (.tmp 18) (.tmp 24) 57 9 rfl (.string ⟨#[]⟩) 1 16 Tryz.underlying57 info_str rfl (by decide) _ _ _ _ rfl hown (cS1 name) _ rfl rfl rfl (by simp[cS1,Value.oneCell']) hpl (by decide) hba ?_)
     intro v6 w6 hown6 hg6 hat6
     have kb:=(Below.refl wr.heap.size wr).alloc (Nat.le_refl _) (.cells (cS1 name).toArray 9)
     have HJ5:Hid (Below w.heap.size w w6∧OwnC cS1 1 9 w6 w.heap.size v6 ((acc++ [name])++(pairs.take 0).flatMap fun p=>rnames p.2)):=Hd ⟨(HJ.out.1.trans (kb.mono HJ.out.1.size)).grown hg6 (by rw[World.size_alloc wr];omega) (fun j hj=>(HJ.out.2.ge hj).2),by
      have h9:OwnC cS1 1 9 w6 w.heap.size v6 (acc++ [name]):=OwnC.snoc (by rw[HM0.out];exact hown6)
      simpa using h9⟩
     have HA1:Hid ((acc++ [name]).length≤400*160001+1):=Hd (by rw[List.length_append,HM0.out];simp only[List.length_cons,List.length_nil];omega)
     obtain⟨acc1,hacc1⟩: ∃ q,acc++ [name]=q:=⟨_,rfl⟩
     rw[hacc1]at HEA HJ5 HA1
     clear hown6 hg6 hat6 kb hown hba hpl hacc1 HJ HACC hkb t0 t3 t5
     go_wp2
    case' neg =>
     have hkb:(kind==3)=false:=by simpa using hk3
     have HEA:Hid (namesT ((vs.map TokV.t).take (i+1))=acc++pairs.flatMap fun p=>rnames p.2):=Hd (by rw[HACC.out];unfold namesK;rw[if_neg hk3,List.nil_append])
     have HJ5:Hid (Below w.heap.size w wr∧OwnC cS1 1 9 wr w.heap.size (.slice A0 m0 c0) (acc++(pairs.take 0).flatMap fun p=>rnames p.2)):=Hd ⟨HJ.out.1,by simpa using HJ.out.2⟩
     have HA1:Hid (acc.length≤400*160001+1):=Hd (by rw[HM0.out];omega)
     obtain⟨acc1,hacc1⟩: ∃ q,acc=q:=⟨_,rfl⟩
     rw[hacc1]at HEA HJ5 HA1
     clear hk3 HACC hacc1 HJ
     go_wp2
     clear t0 t3 t5 hkb
    all_goals
     go_loopg [3,5] (pn) (fun gg v kv wr=> ∃ k:Nat,kv= .int .i64 (k:Int)∧k≤pn∧Hid (gg+k=pn)∧Hid (Below w.heap.size w wr∧OwnC cS1 1 9 wr w.heap.size v (acc1++(pairs.take k).flatMap fun p=>rnames p.2)))
     case atStart=>exact⟨0,rfl,Nat.zero_le _,Hd rfl,HJ5⟩
     case round =>
      clear HJ5
      obtain⟨k,rfl,hk,hgk,HJ⟩:=hrel
      have hk0:(0:Int)≤(k:Int):=by omega
      have hk9:(k:Int)≤400:=by omega
      have t5:=(HTC.out wr HJ.out.1).2.2
      by_cases hkp:k<pn
      · have hki:(k:Int)<(pn:Int):=by omega
        have hPR:=HPR.out wr HJ.out.1
        obtain⟨b2,o2,rfl,hb2,hc2⟩:=hPR.at_ (by have:=hPR.le;omega)
        have hp:=List.getElem?_eq_getElem (l:=pairs) (i:=k) (by rw[HPL.out];exact hkp)
        generalize pairs[k]'(by rw[HPL.out];exact hkp)=p at hp
        have hpv:=HOK.out.2.2 p (List.mem_of_getElem? hp)
        obtain⟨p0,p1⟩:=hc2 k p hp
        have HFO:Hid (acc1++((pairs.take (k+1)).flatMap fun p=>rnames p.2)=(acc1++(pairs.take k).flatMap fun p=>rnames p.2)++rnames p.2):=Hd (by rw[List.take_add_one,hp,List.flatMap_append,List.append_assoc];simp)
        have hal:(acc1++(pairs.take k).flatMap fun p=>rnames p.2).length≤900000000:=by
         have h1:=names_flat (pairs.take k) 400 (fun q hq=>HOK.out.2.2 q (List.mem_of_mem_take hq))
         rw[List.length_take]at h1
         have h2:min k pairs.length*400≤400*400:=Nat.mul_le_mul_right _ (by have:=HOK.out.2.1;omega)
         rw[List.length_append]
         have:=HA1.out
         omega
        obtain⟨acc2,hacc2⟩: ∃ p,(acc1++(pairs.take k).flatMap fun p=>rnames p.2)=p:=⟨_,rfl⟩
        rw[hacc2]at HFO HJ hal
        obtain⟨pa,pb⟩:=p
        simp only at p0 p1 hpv HFO
        have CN:=Hd (rfNamesAll_c pb wr (by omega))
        have hrl:=rfsA_len pb pb.length 0 (by omega)
        have hnl:(rnames pb).length≤400:=by unfold rnames;rw[List.length_map];omega
        obtain⟨ns,hns⟩: ∃ p,rnames pb=p:=⟨_,rfl⟩
        rw[hns]at hnl HFO CN
        clear hPR hb2 hc2 hp hacc2 hpv hns hrl
        go_wp2_with fail
        refine CN.out.mono ?_
        rintro e w6 ⟨OA,oc,rfl,hown,hb6⟩
        obtain⟨A9,c9,e9,hr⟩:=OwnC.rrd (c:=cS1) (k:=1) (fun _=>rfl) (by decide) hown
        cases e9
        have hown6:=HJ.out.2.kept hb6
        have HB6:=Hd (HJ.out.1.trans (hb6.mono HJ.out.1.size))
        have hba:w.heap.size≤w6.heap.size:=HB6.out.size
        have hbd:acc2.length+ns.length≤1000000000:=by omega
        clear hown hb6 CN p0 p1 t5
        go_wp2_with (at_builtin;refine wpList_appRowS rfl (.tmp 36) (.tmp 46) rfl w.heap.size _ acc2 rfl hown6 OA ns.length oc ns rfl hr hbd hba ?_)
        intro v7 w7 hown7 hg7
        have HE:Hid (Below w.heap.size w w7∧OwnC cS1 1 9 w7 w.heap.size v7 (acc1++(pairs.take (k+1)).flatMap fun p=>rnames p.2)):=Hd ⟨HB6.out.grown hg7 HB6.out.size (fun b hb=>(hown6.ge hb).2),by rw[HFO.out];exact hown7⟩
        clear hown6 hr hba hbd hown7 hg7 HB6 HJ HFO
        go_wp2
        go_roundg (pn - (k+1))
        case measure=>have:=hgk.out;omega
        case rel=>exact⟨k+1,by go_num,by omega,Hd (by have:=hgk.out;omega),HE⟩
      · have hki: ¬ (k:Int)<(pn:Int):=by omega
        have hkp2:k=pn:=by omega
        have HE:Hid (Below w.heap.size w wr∧OwnC cS1 1 9 wr w.heap.size _ (namesT ((vs.map TokV.t).take (i+1)))):=Hd ⟨HJ.out.1,by
         have h9:=HJ.out.2
         rw[List.take_of_length_le (by rw[HPL.out];omega)]at h9
         rw[HEA.out]
         exact h9⟩
        clear HJ hkp2
        go_wp2
        go_roundg (n - (i+1))
        case measure=>have:=hgi.out;omega
        case rel=>exact⟨i+1,by go_num,by omega,Hd (by have:=hgi.out;omega),HE⟩
  · have hii: ¬ (i:Int)<(n:Int):=by omega
    have hin2:i=n:=by omega
    have hE:=HJ.out
    rw[List.take_of_length_le (by rw[List.length_map,HVL.out];omega)]at hE
    rw[List.take_of_length_le (by rw[List.length_map,HVL.out];omega)]
    have HE:=Hd hE
    clear hE HJ hin2
    go_wp2
    go_ret
    exact⟨A0,c0,rfl,HE.out.2,HE.out.1⟩
theorem grownBy_setC (W:World)(b i:Nat)(v:Value):W.grownBy (W.setCell ⟨b,i,none⟩ v) (some b) :=
 ⟨rfl,rfl,rfl,by simp[World.setCell],fun k hk hne=>hp_other (fun e=>hne (by rw[e]))⟩
def QJ (q:Nat)(T:TypeId)(ws W:World)(vs:Array Value):Prop:=ws.grownBy W (some q)∧W.heap[q]? =some (.cells vs T (0,0))
theorem QJ.drew {q:Nat}{T:TypeId}{ws W:World}{vs:Array Value}(h:QJ q T ws W vs):QJ q T ws W.drew vs:=⟨grownBy_drew h.1,h.2⟩
theorem QJ.set {q:Nat}{T:TypeId}{ws W:World}{vs:Array Value}(h:QJ q T ws W vs)(i:Nat)(v:Value):QJ q T ws (W.setCell ⟨q,i,none⟩ v) (vs.setIfInBounds i v):=⟨h.1.trans (grownBy_setC _ _ _ _),hp_set h.2⟩
theorem znExtra_c (A:Option Addr)(n cap:Nat)(l:List EntT)(TA:Option Addr)(tn tc:Nat)(vs:List TokV)(w:World)(h:RRd cE 6 w w.heap.size A n cap l)(hm:n≤100)(hx: ∀ x∈l,x.tx.length≤20000)(ht:TRd w w.heap.size TA tn tc vs)(htn:tn≤400)(hts: ∀ v∈vs,okTk 400 v.t) :
 Calls Tryz.prog 10 #[.slice A n cap,.slice TA tn tc] w fun e w'=>e= .returned (.agg (sz3 (extraL (lookE (innerE l) (fun j=>(roundsG (sizeF (innerE l)) (0,0,0) (innerE l).length ((innerE l).length+1)).getD j (0,0,0))) (namesT (vs.map TokV.t)))))∧Below w.heap.size w w':=by
 have kb0:=(Below.refl w.heap.size w).alloc (Nat.le_refl _) (.cells #[.int .i64 0,.int .i64 0,.int .i64 0] 37)
 have hr0:=hp_new w (.cells #[.int .i64 0,.int .i64 0,.int .i64 0] 37)
 have hln:l.length=n:=h.len
 have hN:(innerE l).length≤n:=by have:=inner_len l [];simpa [innerE,hln] using this
 have CI:=Hd (rfInner_c A n cap l (w.alloc (.cells #[.int .i64 0,.int .i64 0,.int .i64 0] 37)) ((h.below kb0).more kb0.size) (by omega))
 have CZ:=Hd fun W (hb:Below w.heap.size w W)=>rfSizesZ_c A n cap l W ((h.below hb).more hb.size) hm hx
 have CN:=Hd fun W (hb:Below w.heap.size w W)=>znNames_c TA tn tc vs W ((ht.below hb).more hb.size) htn hts
 have hnl0:=namesT_len (vs.map TokV.t) fun t ht2=>by
  obtain⟨v,hv,rfl⟩:=List.mem_map.1 ht2
  exact hts v hv
 have htl:(vs.map TokV.t).length≤400:=by rw[List.length_map,ht.len];exact htn
 have hnl1:(vs.map TokV.t).length*160001≤400*160001:=Nat.mul_le_mul_right _ htl
 have HNL:=Hd (Nat.le_trans hnl0 hnl1)
 have H0:=Hd (And.intro kb0 hr0)
 obtain⟨N,hN2⟩: ∃ N,(innerE l).length=N:=⟨_,rfl⟩
 have HN:=Hd hN2
 obtain⟨zs,hzs⟩: ∃ zs,roundsG (sizeF (innerE l)) (0,0,0) (innerE l).length ((innerE l).length+1)=zs:=⟨_,rfl⟩
 rw[hzs]at CZ ⊢
 rw[hN2]at CI CZ hN
 obtain⟨ns,hns⟩: ∃ ns,namesT (vs.map TokV.t)=ns:=⟨_,rfl⟩
 rw[hns]at CN HNL ⊢
 clear h hx ht hts hln hN2 kb0 hr0 hnl0 htl hnl1 hzs hns
 go_enter Tryz.func10,Tryz.ntmps10
 go_wp2_with fail
 refine CI.out.mono ?_
 rintro e w1 ⟨IA,ic,rfl,hoI,hb1⟩
 obtain⟨A1,c1,hv1,hrI⟩:=OwnC.rrd (c:=cE) (k:=6) (fun _=>rfl) (by decide) hoI
 rw[HN.out]at hv1 hrI
 cases hv1
 have HB1:=Hd (H0.out.1.trans (hb1.mono H0.out.1.size))
 have HR1:Hid (w1.heap[w.heap.size]? =some (.cells #[.int .i64 0,.int .i64 0,.int .i64 0] 37 (0,0))):=Hd ((hb1.block _ (lt_of H0.out.2)).trans H0.out.2)
 have HRI:=Hd hrI
 clear hoI hb1 hrI CI H0
 go_wp2_with fail
 refine(CZ.out w1 HB1.out).mono ?_
 rintro e w2 ⟨ZB,rfl,hzb,hrz,hb2⟩
 have HB2:=Hd (HB1.out.trans (hb2.mono HB1.out.size))
 have HR2:Hid (w2.heap[w.heap.size]? =some (.cells #[.int .i64 0,.int .i64 0,.int .i64 0] 37 (0,0))):=Hd ((hb2.block _ (lt_of HR1.out)).trans HR1.out)
 have HRI2:=Hd ((HRI.out.below hb2).more hb2.size)
 have HRZ:=Hd (And.intro hrz hzb)
 clear hb2 hrz hzb HR1 HRI CZ HB1
 go_wp2_with fail
 refine(CN.out w2 HB2.out).mono ?_
 rintro e w3 ⟨NA,nc,rfl,hoN,hb3⟩
 obtain⟨A1,c1,hv1,hrN⟩:=OwnC.rrd (c:=cS1) (k:=1) (fun _=>rfl) (by decide) hoN
 cases hv1
 have HB3:=Hd (HB2.out.trans (hb3.mono HB2.out.size))
 have HR3:Hid (w3.heap[w.heap.size]? =some (.cells #[.int .i64 0,.int .i64 0,.int .i64 0] 37 (0,0))):=Hd ((hb3.block _ (lt_of HR2.out)).trans HR2.out)
 have HRI3:=Hd ((HRI2.out.below hb3).more hb3.size)
 have HRZ3:=Hd (And.intro ((HRZ.out.1.below hb3).more hb3.size) HRZ.out.2)
 have HRN3:=Hd hrN
 obtain⟨m,hm2⟩: ∃ m,ns.length=m:=⟨_,rfl⟩
 have HML:=Hd hm2
 rw[hm2]at HRN3 HNL
 (try rw[hm2])
 have hml9:m≤70000000:=Nat.le_trans HNL.out (by decide)
 have hml8:(m:Int)≤70000000:=by omega
 clear hb3 hoN hrN HR2 HRI2 HRZ CN HB2 hm2
 have HQ0:Hid (QJ w3.heap.size 37 (w3.alloc (.cells #[.int .i64 0,.int .i64 0,.int .i64 0] 37)) (w3.alloc (.cells #[.int .i64 0,.int .i64 0,.int .i64 0] 37)) #[.int .i64 0,.int .i64 0,.int .i64 0]):=Hd ⟨World.grownBy.refl _ _,hp_new w3 _⟩
 have HBQ:Hid (∀ W,(w3.alloc (.cells #[.int .i64 0,.int .i64 0,.int .i64 0] 37)).grownBy W (some w3.heap.size)→Below w3.heap.size w3 W):=Hd fun W hW=>((Below.refl w3.heap.size w3).alloc (Nat.le_refl _) _).grown hW (by simp) (fun b e=>by have:=Option.some.inj e;omega)
 obtain⟨q,hq⟩: ∃ p,w3.heap.size=p:=⟨_,rfl⟩
 have HQE:=Hd hq
 rw[hq]at HQ0 HBQ
 go_wp2_with fail
 generalize (w3.alloc (.cells #[.int .i64 0,.int .i64 0,.int .i64 0] 37))=ws at *
 clear hq
 obtain⟨lk,hlk⟩: ∃ p,lookE (innerE l) (fun j=>zs.getD j (0,0,0))=p:=⟨_,rfl⟩
 have HLK:=Hd hlk
 go_loopg [9] (m) (fun gg iv wr=> ∃ i:Nat,iv= .int .i64 (i:Int)∧i≤m∧Hid (gg+i=m)∧Hid (QJ q 37 ws wr (sz3 ((ns.take i).foldl (extraF lk) (0,0,0)))))
 case atStart=>exact⟨0,rfl,Nat.zero_le _,Hd rfl,HQ0⟩
 case round =>
  clear HQ0 hlk
  obtain⟨i,rfl,hi,hgi,HJ⟩:=hrel
  have hi0:(0:Int)≤(i:Int):=by omega
  have hi9:(i:Int)≤70000000:=by omega
  by_cases him:i<m
  · have hii:(i:Int)<(m:Int):=by omega
    obtain⟨b3,o3,nm,rfl,hb3,hn3,hc3⟩:=(HRN3.out.below (by rw[HQE.out];exact HBQ.out wr HJ.out.1)).cell him
    have z3:wr.cell? ⟨b3,o3+i,none⟩=some (.string ⟨nm.toArray⟩):=by rw[show o3+i=o3+(i*1+0)by omega];exact hc3 0 _ rfl
    have HFS:=Hd (fold_snoc (look:=lk) (acc:=(0,0,0)) hn3)
    have hbw:=HBQ.out wr HJ.out.1
    have FD:=Hd (rfFindE_c IA N ic (innerE l) nm wr ((HRI3.out.below (by rw[HQE.out];exact hbw)).more hbw.size) (by omega))
    have HC0:=Hd (extra_le lk (ns.take i) (0,0,0) ⟨by simp,by simp⟩)
    have HD0:Hid (((ns.take i).foldl (extraF lk) (0,0,0)).2.2≤20001):=Hd (extra_deep (D:=20000) (fun nm z hz=>by
     rw[← HLK.out]at hz
     unfold lookE at hz
     split at hz
     · cases hz
       simp only[List.getD_eq_getElem?_getD]
       cases hq2:zs[((innerE l).map EntT.nm).idxOf nm]? with
       |none=>exact Nat.zero_le _
       |some z=>exact(HRZ3.out.2 z (List.mem_of_getElem? hq2)).2.2
     · cases hz) _ _ (Nat.zero_le _))
    obtain⟨acc,hacc⟩: ∃ p,(ns.take i).foldl (extraF lk) (0,0,0)=p:=⟨_,rfl⟩
    rw[hacc]at HFS HC0 HD0 HJ
    clear hb3 hn3 hc3 hacc
    by_cases hmem:nm∈(innerE l).map EntT.nm
    · obtain⟨ix,hix⟩: ∃ i,((innerE l).map EntT.nm).idxOf nm=i:=⟨_,rfl⟩
      have hfn:fndN ((innerE l).map EntT.nm) nm=(ix:Int):=by unfold fndN;rw[if_pos hmem,hix]
      have hixn:ix<N:=by rw[← HN.out,← hix];have:=List.idxOf_lt_length_iff.2 hmem;simpa using this
      rw[hfn]at FD
      have hix0:(ix:Int)≥0:=by omega
      have hix1:(0:Int)≤(ix:Int):=by omega
      have hix2:(ix:Int)<(N:Int):=by omega
      obtain⟨zb,zo,z,hZA,hzb',hzi,hzc⟩:=HRZ3.out.1.cell hixn
      cases hZA
      have hzz:=HRZ3.out.2 z (List.mem_of_getElem? hzi)
      obtain⟨z0,z1,z2⟩:=z
      simp only at hzz
      have HZW:Hid (∀ W vs,QJ q 37 ws W vs→W.cell? ⟨ZB,ix*3,none⟩=some (.int .i64 (z0:Nat))∧W.cell? ⟨ZB,ix*3+1,none⟩=some (.int .i64 (z1:Nat))∧W.cell? ⟨ZB,ix*3+2,none⟩=some (.int .i64 (z2:Nat))):=Hd fun W vs hW=>by
       have hbW:=HBQ.out W hW.1
       have e:=fun (o:Nat)=>hbW.cell (p:=⟨ZB,o,none⟩) (by rw[← HQE.out];exact hzb')
       refine⟨(e _).trans ?_,(e _).trans ?_,(e _).trans ?_⟩
       · have:=hzc 0 _ rfl;simpa using this
       · have:=hzc 1 _ rfl;simpa using this
       · have:=hzc 2 _ rfl;simpa using this
      have hrz:lk nm=some (z0,z1,z2):=by
       rw[← HLK.out]
       unfold lookE
       rw[if_pos hmem,hix]
       show some (zs.getD ix (0,0,0))=some (z0,z1,z2)
       rw[List.getD_eq_getElem?_getD,hzi]
       rfl
      have HEX:Hid (extraF lk acc nm=(satN (acc.1+z0),satN (acc.2.1+z1),max acc.2.2 (z2+1))):=Hd (by unfold extraF;rw[hrz])
      have HADD:=Hd fun(x y:Nat) hx hy W=>rAdd_c x y hx hy W
      obtain⟨a0,a1,a2⟩:=acc
      simp only at HC0 HD0 HEX
      have hd9:=HD0.out
      have hz9:=hzz.2.2
      have hzy1:(0:Int)≤(z2:Int):=by omega
      have hzy2:(z2:Int)≤20000:=by omega
      have hw1:IntKind.i64.wrap ((z2:Int)+1)=(z2:Int)+1:=IntWalk.i64_in _ (by omega)
      have hmx:max (a2:Int) ((z2:Int)+1)=((max a2 (z2+1):Nat):Int):=by omega
      have HZZ:=Hd hzz
      clear hmem hix hfn hrz hzi hzc hzb' hzz hd9 hz9 hixn hbw
      go_wp2_with fail
      refine FD.out.mono ?_
      rintro e wq ⟨rfl,rfl⟩
      have K1:=Hd HJ.out.drew
      unfold sz3 at K1
      clear FD z3
      go_wp2_with fail
      obtain⟨u0,u1,u2⟩:=HZW.out _ _ K1.out
      have v0:wr.drew.cell? ⟨q,0,none⟩=some (.int .i64 (a0:Nat)):=cell_of 0 K1.out.2
      refine wp_region_still_tail 9 (by kernel_rfl) (by kernel_rfl) ?_
      simp only[List.take_succ_cons,List.take_zero,List.drop_succ_cons,List.drop_zero]
      repeat still_step
      still_call ((HADD.out a0 z0 HC0.out.1 HZZ.out.1 _).mono fun e w' ⟨he,hw⟩=>⟨he,hw.symm⟩)
      repeat still_step
      refine wpStill_nil ?_
      change wpList _ _ _ _ _ wr.drew
      have f0:=free_of 0 K1.out.2
      have K2a:=Hd (HJ.out.set 0 (.int .i64 (satN (a0+z0):Nat))).drew
      unfold sz3 at K2a
      simp only[List.setIfInBounds_toArray,List.set_cons_zero]at K2a
      clear u0 u1 u2 K1
      go_wp2_with fail
      clear v0 f0
      generalize (wr.setCell ⟨q,0,none⟩ (.int .i64 (satN (a0+z0):Nat))).drew=wx at *
      have K2:=Hd K2a.out.drew
      obtain⟨u0,u1,u2⟩:=HZW.out _ _ K2.out
      have v0:wx.drew.cell? ⟨q,1,none⟩=some (.int .i64 (a1:Nat)):=cell_of 1 K2.out.2
      refine wp_region_still_tail 9 (by kernel_rfl) (by kernel_rfl) ?_
      simp only[List.take_succ_cons,List.take_zero,List.drop_succ_cons,List.drop_zero]
      repeat still_step
      still_call ((HADD.out a1 z1 HC0.out.2 HZZ.out.2.1 _).mono fun e w' ⟨he,hw⟩=>⟨he,hw.symm⟩)
      repeat still_step
      refine wpStill_nil ?_
      change wpList _ _ _ _ _ wx.drew
      have f0:=free_of 1 K2.out.2
      have K3a:=Hd (K2a.out.set 1 (.int .i64 (satN (a1+z1):Nat))).drew
      simp only[List.setIfInBounds_toArray,List.set_cons_zero,List.set_cons_succ]at K3a
      clear u0 u1 u2 K2 K2a
      go_wp2_with fail
      clear v0 f0
      generalize (wx.setCell ⟨q,1,none⟩ (.int .i64 (satN (a1+z1):Nat))).drew=wy at *
      have K3:=Hd K3a.out.drew
      obtain⟨u0,u1,u2⟩:=HZW.out _ _ K3.out
      have v0:wy.drew.cell? ⟨q,2,none⟩=some (.int .i64 (a2:Nat)):=cell_of 2 K3.out.2
      refine wp_region_still_tail 10 (by kernel_rfl) (by kernel_rfl) ?_
      simp only[List.take_succ_cons,List.take_zero,List.drop_succ_cons,List.drop_zero]
      repeat still_step
      refine wpStill_nil ?_
      change wpList _ _ _ _ _ wy.drew
      have f0:=free_of 2 K3.out.2
      have K4:=Hd (K3a.out.set 2 (.int .i64 ((max a2 (z2+1):Nat):Int))).drew
      simp only[List.setIfInBounds_toArray,List.set_cons_zero,List.set_cons_succ]at K4
      clear u0 u1 u2 K3 K3a
      go_wp2_with fail
      clear v0 f0
      have HE:Hid (QJ q 37 ws (wy.setCell ⟨q,2,none⟩ (.int .i64 ((max a2 (z2+1):Nat):Int))).drew (sz3 ((ns.take (i+1)).foldl (extraF lk) (0,0,0)))):=Hd (by rw[HFS.out,HEX.out];exact K4.out)
      clear K4 HJ
      go_roundg (m - (i+1))
      case measure=>have:=hgi.out;omega
      case rel=>exact⟨i+1,by go_num,by omega,Hd (by have:=hgi.out;omega),HE⟩
    · have hfn:fndN ((innerE l).map EntT.nm) nm= -1:=by unfold fndN;rw[if_neg hmem]
      rw[hfn]at FD
      have HE:Hid (QJ q 37 ws wr (sz3 ((ns.take (i+1)).foldl (extraF lk) (0,0,0)))):=Hd (by
       rw[HFS.out]
       have hrz:lk nm=none:=by rw[← HLK.out];unfold lookE;rw[if_neg hmem]
       unfold extraF
       rw[hrz]
       exact HJ.out)
      clear hmem hfn HJ hbw
      go_wp2_with fail
      refine FD.out.mono ?_
      rintro e wq ⟨rfl,rfl⟩
      clear FD z3
      go_wp2
      go_roundg (m - (i+1))
      case measure=>have:=hgi.out;omega
      case rel=>exact⟨i+1,by go_num,by omega,Hd (by have:=hgi.out;omega),HE⟩
  · have hii: ¬ (i:Int)<(m:Int):=by omega
    have him2:i=m:=by omega
    have hA9:=HJ.out.2
    rw[List.take_of_length_le (by rw[HML.out];omega)]at hA9
    have hlkE:=HLK.out
    obtain⟨U,hU⟩: ∃ U,ns.foldl (extraF lk) (0,0,0)=U:=⟨_,rfl⟩
    have HUE:Hid (extraL (lookE (innerE l) (fun j=>zs.getD j (0,0,0))) ns=U):=Hd (by rw[hlkE];exact hU)
    rw[hU]at hA9
    have u0:wr.cell? ⟨q,0,none⟩=some (.int .i64 (U.1:Nat)):=cell_of 0 hA9
    have u1:wr.cell? ⟨q,1,none⟩=some (.int .i64 (U.2.1:Nat)):=cell_of 1 hA9
    have u2:wr.cell? ⟨q,2,none⟩=some (.int .i64 (U.2.2:Nat)):=cell_of 2 hA9
    have hb9:=HBQ.out wr HJ.out.1
    have wc:wr.heap[w.heap.size]? =some (.cells #[.int .i64 0,.int .i64 0,.int .i64 0] 37 (0,0)):=(hb9.block _ (by rw[← HQE.out];exact lt_of HR3.out)).trans HR3.out
    have hi3:(Tryz.prog.info? 37).map (·.size)=some 3:=by kernel_rfl
    obtain⟨dd,hu⟩:=isStruct_of (P:=Tryz.prog) (t:=37) (by kernel_rfl)
    have HU:=Hd (And.intro hi3 hu)
    have HQ4:Hid ((wr.setRow (w.heap.size) #[.int .i64 (U.1:Nat),.int .i64 (U.2.1:Nat),.int .i64 (U.2.2:Nat)]).heap[w.heap.size]? =some (.cells #[.int .i64 (U.1:Nat),.int .i64 (U.2.1:Nat),.int .i64 (U.2.2:Nat)] 37 (0,0))):=Hd (setRow_heap _ _ _ _ _ _ wc)
    have HBF:Hid (Below w.heap.size w (wr.setRow (w.heap.size) #[.int .i64 (U.1:Nat),.int .i64 (U.2.1:Nat),.int .i64 (U.2.2:Nat)])):=Hd (by
      have hb8:=HB3.out.trans (hb9.mono (by rw[← HQE.out];exact HB3.out.size))
      refine⟨hb8.os,hb8.tape,hb8.output,?_,fun k hk=> ?_⟩
      · have:=hb8.size
        simpa [World.setRow] using this
      · rw[setRow_other _ _ _ _ (by omega)]
        exact hb8.block k hk)
    clear hA9 hlkE hU hi3 hu HJ hb9 him2
    go_wp2_with (first|(refine wpList_store_row rfl _ _ _ rfl (w.heap.size) #[.int .i64 (U.1:Nat),.int .i64 (U.2.1:Nat),.int .i64 (U.2.2:Nat)] rfl rfl _ _ wc (by kernel_rfl) rfl (by kernel_rfl) ?_))
    (try simp only[Exit.inBlock,Exit.then])
    exact bodyPost_ret (results_cell_row rfl _ _ w.heap.size _ _ _ _ rfl HQ4.out HU.out.2 rfl HU.out.1) rfl ⟨by have h9:=HUE.out;simp only[List.getD_eq_getElem?_getD]at h9;rw[h9];rfl,HBF.out⟩
end Go.Proofs.YtbafljibbabnaaaGreatDoor
