/- Texts of ours, joined: Tag6, Tag7. -/
import Derived.Test.YtbafljibbabnaaaGreatDoorQ32
namespace Go.Proofs.YtbafljibbabnaaaGreatDoor
open Go.ChangeShapes Go.WideShapes Go.ChangeAt Go.RowKit
set_option linter.unusedVariables false
set_option maxRecDepth 100000
set_option maxHeartbeats 32000000
def OpenPost (o:TagL × Nat × Nat)(w:World)(e:Ending)(w':World):Prop :=
 ∃ A n c,e= .returned (.tuple #[.agg #[.string ⟨o.1.name.toArray⟩,.slice A n c,.bool o.1.empty],.int .i64 (o.2.1:Int),.int .i64 (o.2.2:Int)])∧PRd w' w'.heap.size A n c o.1.pairs∧Below w.heap.size w w'
def OpenPostF (o:TagL × Nat × Nat)(w:World)(e:Ending)(w':World):Prop :=
 ∃ A n c,e= .returned (.tuple #[.agg #[.string ⟨o.1.name.toArray⟩,.slice A n c,.bool o.1.empty],.int .i64 (o.2.1:Int),.int .i64 (o.2.2:Int)])∧PRd w' w'.heap.size A n c o.1.pairs∧Below w.heap.size w w'∧ ∀ b i,A=some ⟨b,i,none⟩→w.heap.size≤b
theorem OpenPostF.old {o:TagL × Nat × Nat}{w w':World}{e:Ending}(h:OpenPostF o w e w'):OpenPost o w e w':=by
 obtain⟨A,n,c,he,hp,hb,_⟩:=h
 exact⟨A,n,c,he,hp,hb⟩
theorem CJ.other {T:TypeId}{w W:World}{rs:Array Value}(h:CJ T w W rs)(b i:Nat)(hb:w.heap.size<b)(v:Value):CJ T w (W.setCell ⟨b,i,none⟩ v) rs :=
 ⟨h.1.setCell (p:=⟨b,i,none⟩) (Nat.le_of_lt hb) v,by rw[hp_other (by omega)];exact h.2⟩
theorem setRow_at (w:World)(g k:Nat)(cs:Array Value)(h:k≠g):(w.setRow g cs).heap[k]? =w.heap[k]? :=setRow_other _ _ _ _ h
theorem open_eq (l:List UInt8)(k:Nat):openOut l k=if (beginOut [60] l k).2.2≠0 then (noTag,0,(beginOut [60] l k).2.2)
 else if (pairsOut l (beginOut [60] l k).2.1).2.2≠0 then (noTag,0,(pairsOut l (beginOut [60] l k).2.1).2.2)
 else if [47,62].isPrefixOf (l.drop (blankTo l (pairsOut l (beginOut [60] l k).2.1).2.1))=true then
  (⟨(beginOut [60] l k).1,(pairsOut l (beginOut [60] l k).2.1).1,true⟩,blankTo l (pairsOut l (beginOut [60] l k).2.1).2.1+2,0)
 else if [62].isPrefixOf (l.drop (blankTo l (pairsOut l (beginOut [60] l k).2.1).2.1))=true then
  (⟨(beginOut [60] l k).1,(pairsOut l (beginOut [60] l k).2.1).1,false⟩,blankTo l (pairsOut l (beginOut [60] l k).2.1).2.1+1,0)
 else (noTag,0,7):=by
 have hb:beginOut [60] l k=if l[k]? =some 60 then nameOut l (k+1) else ([],0,7):=by
  unfold beginOut
  rw[pre_one]
  by_cases h:l[k]? =some 60 <;> simp[h]
 rw[hb]
 unfold openOut
 by_cases h:l[k]? =some 60
 · simp only[if_pos h]
 · simp only[if_neg h]
   simp
theorem tagOpenF_in (A:Option Addr)(n cap:Nat)(l:List UInt8)(k:Nat)(w:World)(h:Byt w w.heap.size A n cap l)(hW:W10 w)(hm:n≤40000)(hk:k≤n) :
 Calls Tryz.prog 83 #[.slice A n cap,.int .i64 k] w fun e w'=>OpenPostF (openOut l k) w e w':=by
 have hln:=h.length
 have hJ:=CJ.start 143 w #[.string ⟨#[]⟩,.slice none 0 0,.bool false]
 have hi:(Tryz.prog.info? 143).map (·.size)=some 3:=by kernel_rfl
 obtain⟨d,hu⟩:=isStruct_of (P:=Tryz.prog) (t:=143) (by kernel_rfl)
 have HU:=Hd (And.intro hi hu)
 have HK:Hid (∀ W rs,CJ 143 w W rs→Byt W W.heap.size A n cap l∧W10 W):=Hd fun W rs hJ=>⟨(h.below hJ.1).more hJ.1.size,hW.below hJ.1⟩
 have c1:=tagBegin_in A n cap l k [60] _ (HK.out _ _ hJ).1 (HK.out _ _ hJ).2 hm hk (by simp) (by simp)
 have CP:Hid (∀ t:Nat,t≤n→ ∀ W rs,CJ 143 w W rs→Calls Tryz.prog 110 #[.slice A n cap,.int .i64 (t:Int)] W fun e w'=>PairsPost (pairsOut l t) W e w'):=Hd fun t ht W rs hb=>tagPairs_in A n cap l t W (HK.out W rs hb).1 (HK.out W rs hb).2 hm ht
 have CB:Hid (∀ t,t≤n→ ∀ W rs,CJ 143 w W rs→Calls Tryz.prog 79 #[.slice A n cap,.int .i64 (t:Int)] W fun e w'=>e= .returned (.int .i64 (blankTo l t))∧W=w'):=Hd fun t ht W rs hb=>blanks_c A n cap l t _ W (HK.out W rs hb).1 (by omega) ht
 have CS:Hid (∀ t,t≤n→ ∀ p:List UInt8,p.length≤100→ ∀ W rs,CJ 143 w W rs→Calls Tryz.prog 82 #[.slice A n cap,.int .i64 (t:Int),.string ⟨p.toArray⟩] W fun e w'=>e= .returned (.bool (p.isPrefixOf (l.drop t)))∧W=w'):=Hd fun t ht p hp W rs hb=>stands_c A n cap l t p _ W (HK.out W rs hb).1 (by omega) (by omega) ht
 have hno:(beginOut [60] l k).2.2=0→(beginOut [60] l k).2.1≤n:=fun h0=>by
  obtain⟨h1,h2⟩:=beginOut_e [60] l k h0
  rw[h1]at h0 ⊢
  have:=pre_len h2
  simp only[List.length_cons,List.length_nil]at h0 ⊢ this
  rw[← hln]
  refine(nameOut_ok l (k+1) ?_ h0).2.1
  rcases this with e|e
  · cases e
  · omega
 have hpo:=fun t (ht:t≤n)=>pairsOut_le l t (by omega)
 rw[hln]at hpo
 rw[open_eq]
 have J0:=Hd hJ
 clear hi hu hJ h hW
 generalize beginOut [60] l k=m at *
 obtain⟨s,nx,e⟩:=m
 simp only at hno ⊢
 unfold outV at c1
 simp only at c1
 have C1:=Hd c1
 clear c1
 by_cases he:e=0
 · subst he
   have hnx:=hno rfl
   rw[if_neg (by simp)]
   have C2:=Hd (CP.out nx hnx)
   have hpn:=hpo nx hnx
   generalize pairsOut l nx=ps at *
   obtain⟨ps,px,pe⟩:=ps
   simp only at hpn ⊢
   by_cases hpe:pe=0
   · subst hpe
     rw[if_neg (by simp)]
     have c3:=CB.out px hpn
     have hb:=blankTo_le l px (by omega)
     generalize blankTo l px=b at *
     have c4:=CS.out b (by omega) [47,62] (by simp)
     have c5:=CS.out b (by omega) [62] (by simp)
     have hb0:(0:Int)≤(b:Int):=by omega
     have hb1:(b:Int)≤40000:=by omega
     generalize [47,62].isPrefixOf (l.drop b)=r1 at *
     generalize [62].isPrefixOf (l.drop b)=r2 at *
     have C3:=Hd c3
     have C4:=Hd c4
     have C5:=Hd c5
     clear c3 c4 c5 CB CS CP HK hln hno hpo hnx hpn hb hm hk
     cases r1 with
     |true =>
      simp only[if_true]
      go_enter Tryz.func83,Tryz.ntmps83
      go_wp2_with fail
      refine C1.out.mono ?_
      rintro e w1 ⟨rfl,hb⟩
      have J1:=Hd (J0.out.kept hb)
      clear hb
      go_wp2_with fail
      refine(C2.out _ _ J1.out).mono ?_
      rintro e w2 ⟨PA,pn,pc,rfl,hpr,hb,hlo⟩
      have J2:=J1.out.kept hb
      have HP:=Hd (And.intro hpr (fun b i h=>Nat.lt_of_lt_of_le (lt_of J1.out.2) (hlo b i h)))
      have hq:=hp_new w2 (.cells #[.string ⟨s.toArray⟩,.slice PA pn pc,.bool false] 143)
      have hwl:=lt_of J2.2
      have hwl1:=lt_of J1.out.2
      have J3:=Hd (J2.kept ((Below.refl _ w2).alloc (Nat.le_refl _) (.cells #[.string ⟨s.toArray⟩,.slice PA pn pc,.bool false] 143)))
      have J4:=Hd (J2.kept ((Below.refl _ w2).alloc (Nat.le_refl _) (.cells #[.string ⟨s.toArray⟩,.slice PA pn pc,.bool true] 143)))
      have z2:(w2.alloc (.cells #[.string ⟨s.toArray⟩,.slice PA pn pc,.bool false] 143)).cell? ⟨w2.heap.size,2,none⟩=some (.bool false):=cell_of 2 hq
      have y2:=free_of 2 hq
      have hq4:=Hd (hp_new w2 (.cells #[.string ⟨s.toArray⟩,.slice PA pn pc,.bool true] 143))
      have JF:=Hd (J4.out.row #[.string ⟨s.toArray⟩,.slice PA pn pc,.bool true])
      clear hpr hb hlo J2 hq hwl1
      go_wp2_with fail
      refine(C3.out _ _ J3.out).mono ?_
      rintro e wq ⟨rfl,rfl⟩
      go_wp2_with fail
      refine(C4.out _ _ J3.out).mono ?_
      rintro e wq ⟨rfl,rfl⟩
      go_wp2_with (first|(refine wpList_load_row rfl _ _ rfl w2.heap.size rfl _ _ _ _ hq4.out HU.out.2 rfl HU.out.1 ?_)|(refine wpList_store_row rfl _ _ _ rfl w.heap.size #[.string ⟨s.toArray⟩,.slice PA pn pc,.bool true] rfl rfl _ _ J4.out.2 (by kernel_rfl) rfl (by kernel_rfl) ?_))
      (try simp only[Exit.inBlock,Exit.then])
      refine bodyPost_ret (results_c3 rfl _ _ w.heap.size _ _ _ _ rfl JF.out.2 HU.out.2 rfl HU.out.1) rfl ⟨PA,pn,pc,rfl,HP.out.1.move ?_ ?_,JF.out.1,fun b i h=>Nat.le_of_lt (HP.out.2 b i h)⟩
      · simp[World.setRow]
      · intro b' i' hA hb'
        have hlt:=HP.out.2 b' i' hA
        rw[setRow_at _ _ _ _ (by omega),Below.heap_alloc _ _ _ hb']
     |false =>
      simp only[Bool.false_eq_true,if_false]
      cases r2 with
      |true =>
       simp only[if_true]
       go_enter Tryz.func83,Tryz.ntmps83
       go_wp2_with fail
       refine C1.out.mono ?_
       rintro e w1 ⟨rfl,hb⟩
       have J1:=Hd (J0.out.kept hb)
       clear hb
       go_wp2_with fail
       refine(C2.out _ _ J1.out).mono ?_
       rintro e w2 ⟨PA,pn,pc,rfl,hpr,hb,hlo⟩
       have J2:=J1.out.kept hb
       have HP:=Hd (And.intro hpr (fun b i h=>Nat.lt_of_lt_of_le (lt_of J1.out.2) (hlo b i h)))
       have hq:=hp_new w2 (.cells #[.string ⟨s.toArray⟩,.slice PA pn pc,.bool false] 143)
       have J3:=Hd (J2.kept ((Below.refl _ w2).alloc (Nat.le_refl _) (.cells #[.string ⟨s.toArray⟩,.slice PA pn pc,.bool false] 143)))
       have hq4:=Hd hq
       have JF:=Hd (J3.out.row #[.string ⟨s.toArray⟩,.slice PA pn pc,.bool false])
       clear hpr hb hlo J2 hq
       go_wp2_with fail
       refine(C3.out _ _ J3.out).mono ?_
       rintro e wq ⟨rfl,rfl⟩
       go_wp2_with fail
       refine(C4.out _ _ J3.out).mono ?_
       rintro e wq ⟨rfl,rfl⟩
       go_wp2_with fail
       refine(C5.out _ _ J3.out).mono ?_
       rintro e wq ⟨rfl,rfl⟩
       go_wp2_with (first|(refine wpList_load_row rfl _ _ rfl w2.heap.size rfl _ _ _ _ hq4.out HU.out.2 rfl HU.out.1 ?_)|(refine wpList_store_row rfl _ _ _ rfl w.heap.size #[.string ⟨s.toArray⟩,.slice PA pn pc,.bool false] rfl rfl _ _ J3.out.2 (by kernel_rfl) rfl (by kernel_rfl) ?_))
       (try simp only[Exit.inBlock,Exit.then])
       refine bodyPost_ret (results_c3 rfl _ _ w.heap.size _ _ _ _ rfl JF.out.2 HU.out.2 rfl HU.out.1) rfl ⟨PA,pn,pc,rfl,HP.out.1.move ?_ ?_,JF.out.1,fun b i h=>Nat.le_of_lt (HP.out.2 b i h)⟩
       · simp[World.setRow]
       · intro b' i' hA hb'
         have hlt:=HP.out.2 b' i' hA
         rw[setRow_at _ _ _ _ (by omega),Below.heap_alloc _ _ _ hb']
      |false =>
       simp only[Bool.false_eq_true,if_false]
       go_enter Tryz.func83,Tryz.ntmps83
       go_wp2_with fail
       refine C1.out.mono ?_
       rintro e w1 ⟨rfl,hb⟩
       have J1:=Hd (J0.out.kept hb)
       clear hb
       go_wp2_with fail
       refine(C2.out _ _ J1.out).mono ?_
       rintro e w2 ⟨PA,pn,pc,rfl,hpr,hb,hlo⟩
       have J2:=J1.out.kept hb
       have J3:=Hd (J2.kept ((Below.refl _ w2).alloc (Nat.le_refl _) (.cells #[.string ⟨s.toArray⟩,.slice PA pn pc,.bool false] 143)))
       have JF:=Hd (J3.out.row #[.string ⟨#[]⟩,.slice none 0 0,.bool false])
       clear hpr hb hlo J2
       go_wp2_with fail
       refine(C3.out _ _ J3.out).mono ?_
       rintro e wq ⟨rfl,rfl⟩
       go_wp2_with fail
       refine(C4.out _ _ J3.out).mono ?_
       rintro e wq ⟨rfl,rfl⟩
       go_wp2_with fail
       refine(C5.out _ _ J3.out).mono ?_
       rintro e wq ⟨rfl,rfl⟩
       go_wp2_with (refine wpList_store_row rfl _ _ _ rfl w.heap.size #[.string ⟨#[]⟩,.slice none 0 0,.bool false] rfl rfl _ _ J3.out.2 (by kernel_rfl) rfl (by kernel_rfl) ?_)
       (try simp only[Exit.inBlock,Exit.then])
       exact bodyPost_ret (results_c3 rfl _ _ w.heap.size _ _ _ _ rfl JF.out.2 HU.out.2 rfl HU.out.1) rfl ⟨none,0,0,rfl,PRd.nilR _ _,JF.out.1,fun b i h=>(by cases h)⟩
   · rw[if_pos hpe]
     have hei:((pe:Int)==0)=false:=by simp;omega
     clear CB CS CP HK hln hno hpo hnx hpn hm hk
     go_enter Tryz.func83,Tryz.ntmps83
     go_wp2_with fail
     refine C1.out.mono ?_
     rintro e w1 ⟨rfl,hb⟩
     have J1:=Hd (J0.out.kept hb)
     clear hb
     go_wp2_with fail
     refine(C2.out _ _ J1.out).mono ?_
     rintro e w2 ⟨PA,pn,pc,rfl,hpr,hb,hlo⟩
     have J2:=Hd (J1.out.kept hb)
     have JF:=Hd (J2.out.row #[.string ⟨#[]⟩,.slice none 0 0,.bool false])
     clear hpr hb hlo
     go_wp2_with (refine wpList_store_row rfl _ _ _ rfl w.heap.size #[.string ⟨#[]⟩,.slice none 0 0,.bool false] rfl rfl _ _ J2.out.2 (by kernel_rfl) rfl (by kernel_rfl) ?_)
     (try simp only[Exit.inBlock,Exit.then])
     exact bodyPost_ret (results_c3 rfl _ _ w.heap.size _ _ _ _ rfl JF.out.2 HU.out.2 rfl HU.out.1) rfl ⟨none,0,0,rfl,PRd.nilR _ _,JF.out.1,fun b i h=>(by cases h)⟩
 · rw[if_pos he]
   have hei:((e:Int)==0)=false:=by simp;omega
   clear CB CS CP HK hln hno hpo hm hk
   go_enter Tryz.func83,Tryz.ntmps83
   go_wp2_with fail
   refine C1.out.mono ?_
   rintro e w1 ⟨rfl,hb⟩
   have J1:=Hd (J0.out.kept hb)
   clear hb
   have JF:=Hd (J1.out.row #[.string ⟨#[]⟩,.slice none 0 0,.bool false])
   go_wp2_with (refine wpList_store_row rfl _ _ _ rfl w.heap.size #[.string ⟨#[]⟩,.slice none 0 0,.bool false] rfl rfl _ _ J1.out.2 (by kernel_rfl) rfl (by kernel_rfl) ?_)
   (try simp only[Exit.inBlock,Exit.then])
   exact bodyPost_ret (results_c3 rfl _ _ w.heap.size _ _ _ _ rfl JF.out.2 HU.out.2 rfl HU.out.1) rfl ⟨none,0,0,rfl,PRd.nilR _ _,JF.out.1,fun b i h=>(by cases h)⟩
theorem okFalse (f:Int→Bool):okName false f=f:=by funext r;simp[okName]
theorem refReadF_c (A:Option Addr)(n cap:Nat)(l:List UInt8)(at_:Nat)(w:World)(h:Byt w w.heap.size A n cap l)(hm:n≤50000)(hat:at_≤n) :
 Calls Tryz.prog 58 #[.slice A n cap,.int .i64 at_,.bool false] w fun e w'=>e= .returned (outV (nameOut l at_))∧Below w.heap.size w w':=by
 have hln:=h.length
 have hend:=refEnd_c false A n cap l at_ w h hm hat
 rw[okFalse,okFalse]at hend
 have hkl:at_+endL isStart isMore n (l.drop at_)≤n:=by
  have:=endL_le n isStart isMore (l.drop at_)
  rw[List.length_drop,hln]at this
  omega
 have HB:=Hd h
 have HE:Hid (endL isStart isMore l.length (l.drop at_)=endL isStart isMore n (l.drop at_)):=Hd (by rw[hln])
 clear h hln
 unfold nameOut
 simp only[HE.out]
 generalize endL isStart isMore n (l.drop at_)=k at *
 have hat': ¬ (n:Int)<(at_:Int):=by omega
 have HM:=Hd (And.intro hm hat)
 have HN:=Hd hend
 clear hm hend
 generalize hres:(if k=0 then ([],0,7) else if 1024<k then ([],0,11) else ((l.drop at_).take k,at_+k,0))=res
 have HR:=Hd hres
 clear hres
 go_enter Tryz.func58,Tryz.ntmps58
 go_wp2_with fail
 refine HN.out.mono ?_
 rintro e w1 ⟨rfl,hb1⟩
 have HB1:=Hd hb1
 clear hb1
 rcases(show k=0∨1024<k∨(0<k∧k≤1024)by omega)with h0|h0|h0
 · subst h0
   have hre:=HR.out
   simp only[if_true]at hre
   subst hre
   go_wp2
   go_ret3
   exact⟨rfl,HB1.out⟩
 · have hre:=HR.out
   rw[if_neg (by omega),if_pos h0]at hre
   subst hre
   have hne:(((at_+k:Nat):Int)==(at_:Int))=false:=by simp;omega
   have hne2:((at_:Int)+(k:Int)==(at_:Int))=false:=by simp;omega
   have h0':(1024:Int)<(k:Int):=by omega
   have hsb:((at_:Int)+(k:Int)) - (at_:Int)=(k:Int):=by omega
   have hw:IntKind.i64.wrap (k:Int)=(k:Int):=by rw[IntKind.wrap_i64];have:=HM.out;omega
   go_wp2
   go_ret3
   exact⟨rfl,HB1.out⟩
 · have hre:=HR.out
   rw[if_neg (by omega),if_neg (by omega)]at hre
   subst hre
   have hne:(((at_+k:Nat):Int)==(at_:Int))=false:=by simp;omega
   have hne2:((at_:Int)+(k:Int)==(at_:Int))=false:=by simp;omega
   have h0': ¬ (1024:Int)<(k:Int):=by omega
   have hsb:((at_:Int)+(k:Int)) - (at_:Int)=(k:Int):=by omega
   have hw:IntKind.i64.wrap (k:Int)=(k:Int):=by rw[IntKind.wrap_i64];have:=HM.out;omega
   have hy:=((HB.out.below HB1.out).drop hat).take (k:=k) (by omega)
   have hstr:=hy.str
   have hcap:=HB.out.le
   have hrf: ∀ w2:World,(Instr.slice 29 (.slice A n cap) (some (.int .i64 (at_:Int))) (some (.int .i64 ((at_:Int)+(k:Int)))) none).run Tryz.prog w2= .ok (.slice (cutA A cap at_) k (cap - at_)) w2:=fun w2=>by
    have:=run_fromTo (w:=w2) A n cap at_ (at_+k) (by omega) (by omega)
    rw[show at_+k - at_=k by omega,show((at_+k:Nat):Int)=(at_:Int)+(k:Int)by omega]at this
    exact this
   have HY:=Hd hy
   clear hy hcap h0
   go_wp2
   go_ret3
   exact⟨rfl,HB1.out⟩
theorem refHas10_c (A:Option Addr)(n cap:Nat)(ps:List PairL)(s:List UInt8)(B:Nat)(w:World)(h:PRd w B A n cap ps)(hm:n≤1000000) :
 Calls Tryz.prog 92 #[.slice A n cap,.string ⟨s.toArray⟩] w fun e w'=>e= .returned (.bool (hasN ps s))∧w=w':=by
 have HB:=Hd h
 have hln:=Hd h.len
 clear h
 go_enter Tryz.func92,Tryz.ntmps92
 go_wp2
 go_loopg [5] (n) (fun g i wr=> ∃ t:Nat,t≤n∧Hid (g+t=n)∧i= .int .i64 (t:Int)∧w=wr∧Hid (hasN ps s=hasN (ps.drop t) s))
 case atStart=>exact⟨0,Nat.zero_le _,Hd (by omega),rfl,rfl,Hd rfl⟩
 case round =>
  obtain⟨t,ht,hg,rfl,rfl,HN⟩:=hrel
  have ht0:(0:Int)≤(t:Int):=by omega
  have htb:(t:Int)≤1000000:=by omega
  by_cases htn:t<n
  · have htni:(t:Int)<(n:Int):=by omega
    obtain⟨b,o,p,rfl,hb,hp,hc0,hc1⟩:=HB.out.cell htn
    have hd:ps.drop t=p :: ps.drop (t+1):=by
     obtain⟨hk,hc⟩:=List.getElem?_eq_some_iff.1 hp
     rw[List.drop_eq_getElem_cons hk,hc]
    obtain⟨pn,pv⟩:=p
    simp only at hc0
    by_cases hs:pn=s
    · subst hs
      have HE:Hid (hasN ps pn=true):=Hd (by rw[HN.out,hd];simp[hasN])
      clear hd hp hc1 hb
      go_wp2
      go_ret
      exact⟨by rw[HE.out];rfl,rfl⟩
    · have HE:Hid (hasN ps s=hasN (ps.drop (t+1)) s):=Hd (by rw[HN.out,hd];simp[hasN,hs])
      have hne:(pn==s)=false:=by simpa using hs
      clear hd hp hc1 hb
      go_wp2
      go_roundg (n - (t+1))
      case measure=>have:=hg.out;omega
      case rel=>exact⟨t+1,by omega,Hd (by omega),by go_num,rfl,HE⟩
  · have htni: ¬ (t:Int)<(n:Int):=by omega
    have HE:Hid (hasN ps s=false):=Hd (by rw[HN.out,List.drop_of_length_le (by rw[hln.out];omega)];rfl)
    go_wp2
    go_ret
    exact⟨by rw[HE.out];rfl,rfl⟩
def PhJ (w wr:World)(v:Value)(acc:List PairL):Prop:=Below w.heap.size w wr∧wr.ownsRow w.heap.size 66 2 v acc.length (cellsP acc)
theorem PhJ.kept {w wr w':World}{v:Value}{acc:List PairL}(h:PhJ w wr v acc)(hb:Below wr.heap.size wr w'):PhJ w w' v acc :=
 ⟨h.1.trans (hb.mono h.1.size),ownsRow_keep h.2 fun g _ hg=>hb.block g hg⟩
theorem PhJ.start (w:World):PhJ w w (.slice none 0 0) []:=⟨Below.refl _ _,rfl,Or.inl ⟨rfl,rfl⟩⟩
theorem PhJ.appended {w w3 w4:World}{v v4:Value}{acc:List PairL}{p:PairL}{cs:Array Value}{T:TypeId}(h:PhJ w w3 v acc)(hn:w4.ownsRow w.heap.size 66 2 v4 (acc++ [p]).length (cellsP (acc++ [p])))(hg:(w3.alloc (.cells cs T)).grownBy w4 v.ownBlock):PhJ w w4 v4 (acc++ [p]):=by
 have hs:=h.1.size
 refine⟨(h.1.alloc h.1.size (.cells cs T)).grown hg (by simp;omega) fun k hk=> ?_,hn⟩
 exact(h.2.lt k hk).1
end Go.Proofs.YtbafljibbabnaaaGreatDoor
