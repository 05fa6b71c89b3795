/- Texts of ours, joined: Tag9, Tag10, XrA, TagS, DcB, IxB. -/
import Derived.Laws.RangeString
import Derived.Laws.Runes
import Derived.LoopN
import Derived.Lib.IndexAny
import Derived.Lib.AsciiSet
import Derived.Deep.WholeRow
import Derived.Laws.ResultCell
import Derived.Lib.IndexBytes
import Derived.Test.YtbafljibbabnaaaGreatDoorQ34
namespace Go.Proofs.YtbafljibbabnaaaGreatDoor
open Go.ChangeShapes Go.WideShapes Go.ChangeAt Go.RowKit
set_option linter.unusedVariables false
set_option maxRecDepth 100000
set_option maxHeartbeats 32000000
theorem refClose_range (A:Option Addr)(n cap:Nat)(at_:Int)(w:World)(ha:at_<0∨(n:Int)<at_) :
 Calls Tryz.prog 32 #[.slice A n cap,.int .i64 at_] w fun e w'=>e= .returned (outV ([],0,3))∧Below w.heap.size w w':=by
 unfold outV
 by_cases h0:at_<0
 · have hd:decide (at_<0)=true:=by simpa using h0
   clear ha
   go_enter Tryz.func32,Tryz.ntmps32
   go_wp2
   go_ret3
   exact⟨rfl,Below.refl _ _⟩
 · have h1:(n:Int)<at_:=by omega
   clear ha
   go_enter Tryz.func32,Tryz.ntmps32
   go_wp2
   go_ret3
   exact⟨rfl,Below.refl _ _⟩
theorem refClose_in (A:Option Addr)(n cap:Nat)(l:List UInt8)(k:Nat)(w:World)(h:Byt w w.heap.size A n cap l)(hm:n≤40000)(hk:k≤n) :
 Calls Tryz.prog 32 #[.slice A n cap,.int .i64 k] w fun e w'=>e= .returned (outV (closeOut l k))∧Below w.heap.size w w':=by
 have hln:=h.length
 have hk': ¬ (n:Int)<(k:Int):=by omega
 have hk0:(0:Int)≤(k:Int):=by omega
 have hk1:(k:Int)≤40000:=by omega
 have c1:=refAt8_c A n cap l k [60,47] _ w h (by simp) (by omega) (by simp) (by omega)
 have CB:Hid (∀ t,t≤n→ ∀ W,Below w.heap.size w W→Calls Tryz.prog 60 #[.slice A n cap,.int .i64 (t:Int)] W fun e w'=>e= .returned (.int .i64 (blankTo l t))∧W=w'):=Hd fun t ht W hb=>refBlanks_c A n cap l t _ W (h.below hb) (by omega) ht
 have CS:Hid (∀ t,t≤n→ ∀ W,Below w.heap.size w W→Calls Tryz.prog 28 #[.slice A n cap,.int .i64 (t:Int),.string ⟨#[62]⟩] W fun e w'=>e= .returned (.bool ([62].isPrefixOf (l.drop t)))∧W=w'):=Hd fun t ht W hb=>refAt8_c A n cap l t [62] _ W (h.below hb) (by simp) (by omega) (by simp) (by omega)
 unfold closeOut
 cases hp: [60,47].isPrefixOf (l.drop k)with
 |false =>
  rw[hp]at c1
  simp only[Bool.false_eq_true,if_false]
  have C1:=Hd c1
  clear c1 CB CS h hln hp hk
  unfold outV
  go_enter Tryz.func32,Tryz.ntmps32
  go_wp2_with fail
  refine(C1.out).mono ?_
  rintro e wq ⟨rfl,rfl⟩
  go_wp2
  go_ret3
  exact⟨rfl,Below.refl _ _⟩
 |true =>
  rw[hp]at c1
  simp only[if_true]
  have hkp:k+2≤n:=by
   rcases pre_len hp with e|e
   · cases e
   · simp at e;omega
  have c2:=refReadF_c A n cap l (k+2) w h (by omega) hkp
  rw[show ((k+2:Nat):Int)=(k:Int)+2 by omega]at c2
  have hno:=nameOut_ok l (k+2) (by omega)
  rw[hln]at hno
  generalize nameOut l (k+2)=m at *
  obtain⟨s,nx,e⟩:=m
  simp only at hno ⊢
  unfold outV at c2
  simp only at c2
  have C1:=Hd c1
  have C2:=Hd c2
  clear c1 c2
  by_cases he:e=0
  · subst he
    have hnx:=(hno rfl).2.1
    rw[if_neg (by simp)]
    have c3:=CB.out nx hnx
    have hb:=blankTo_le l nx (by omega)
    generalize blankTo l nx=b at *
    have c4:=CS.out b (by omega)
    have hb0:(0:Int)≤(b:Int):=by omega
    have hb1:(b:Int)≤40000:=by omega
    generalize [62].isPrefixOf (l.drop b)=r at *
    have C3:=Hd c3
    have C4:=Hd c4
    clear c3 c4 CB CS h hln hno hnx hb hm hk hp hkp
    unfold outV
    cases r
    all_goals
     simp only[if_true,Bool.false_eq_true,if_false]
     go_enter Tryz.func32,Tryz.ntmps32
     go_wp2_with fail
     refine(C1.out).mono ?_
     rintro e wq ⟨rfl,rfl⟩
     go_wp2_with fail
     refine(C2.out).mono ?_
     rintro e w1 ⟨rfl,hb⟩
     have B1:=Hd hb
     clear hb
     go_wp2_with fail
     refine(C3.out _ B1.out).mono ?_
     rintro e wq ⟨rfl,rfl⟩
     go_wp2_with fail
     refine(C4.out _ B1.out).mono ?_
     rintro e wq ⟨rfl,rfl⟩
     go_wp2
     go_ret3
     exact⟨rfl,B1.out⟩
  · rw[if_pos he]
    have hei:((e:Int)==0)=false:=by simp;omega
    clear CB CS h hln hno hm hk hp hkp
    unfold outV
    go_enter Tryz.func32,Tryz.ntmps32
    go_wp2_with fail
    refine(C1.out).mono ?_
    rintro e wq ⟨rfl,rfl⟩
    go_wp2_with fail
    refine(C2.out).mono ?_
    rintro e w1 ⟨rfl,hb⟩
    have B1:=Hd hb
    clear hb
    go_wp2
    go_ret3
    exact⟨rfl,B1.out⟩
theorem refClose_c (A:Option Addr)(n cap:Nat)(l:List UInt8)(at_:Int)(w:World)(h:Byt w w.heap.size A n cap l)(hm:n≤40000) :
 Calls Tryz.prog 32 #[.slice A n cap,.int .i64 at_] w fun e w'=>e= .returned (outV (tagAt [] closeOut l at_))∧Below w.heap.size w w':=by
 unfold tagAt
 rw[h.length]
 by_cases ha:at_<0∨(n:Int)<at_
 · rw[if_pos ha];exact refClose_range A n cap at_ w ha
 · rw[if_neg ha]
   obtain⟨k,rfl⟩: ∃ k:Nat,at_=(k:Int):=⟨at_.toNat,by omega⟩
   exact refClose_in A n cap l k w h hm (by omega)
theorem refOpenF_range (A:Option Addr)(n cap:Nat)(at_:Int)(w:World)(ha:at_<0∨(n:Int)<at_) :
 Calls Tryz.prog 33 #[.slice A n cap,.int .i64 at_] w fun e w'=>OpenPostF (noTag,0,3) w e w':=by
 have J0:=Hd (CJ.start 88 w #[.string ⟨#[]⟩,.slice none 0 0,.bool false])
 have hi:(Tryz.prog.info? 88).map (·.size)=some 3:=by kernel_rfl
 obtain⟨d,hu⟩:=isStruct_of (P:=Tryz.prog) (t:=88) (by kernel_rfl)
 have HU:=Hd (And.intro hi hu)
 have JF:=Hd (J0.out.row #[.string ⟨#[]⟩,.slice none 0 0,.bool false])
 clear hi hu
 by_cases h0:at_<0
 · have hd:decide (at_<0)=true:=by simpa using h0
   clear ha
   go_enter Tryz.func33,Tryz.ntmps33
   go_wp2_with (refine wpList_store_row rfl _ _ _ rfl w.heap.size #[.string ⟨#[]⟩,.slice none 0 0,.bool false] rfl rfl _ _ J0.out.2 (by kernel_rfl) rfl (by kernel_rfl) ?_)
   (try simp only[Exit.inBlock,Exit.then])
   exact bodyPost_ret (results_c3 rfl _ _ w.heap.size _ _ _ _ rfl JF.out.2 HU.out.2 rfl HU.out.1) rfl ⟨none,0,0,rfl,PRd.nilR _ _,JF.out.1,fun b i h=>(by cases h)⟩
 · have h1:(n:Int)<at_:=by omega
   clear ha
   go_enter Tryz.func33,Tryz.ntmps33
   go_wp2_with (refine wpList_store_row rfl _ _ _ rfl w.heap.size #[.string ⟨#[]⟩,.slice none 0 0,.bool false] rfl rfl _ _ J0.out.2 (by kernel_rfl) rfl (by kernel_rfl) ?_)
   (try simp only[Exit.inBlock,Exit.then])
   exact bodyPost_ret (results_c3 rfl _ _ w.heap.size _ _ _ _ rfl JF.out.2 HU.out.2 rfl HU.out.1) rfl ⟨none,0,0,rfl,PRd.nilR _ _,JF.out.1,fun b i h=>(by cases h)⟩
theorem refOpenF_in (A:Option Addr)(n cap:Nat)(l:List UInt8)(k:Nat)(w:World)(h:Byt w w.heap.size A n cap l)(hm:n≤40000)(hk:k≤n) :
 Calls Tryz.prog 33 #[.slice A n cap,.int .i64 k] w fun e w'=>OpenPostF (openOut l k) w e w':=by
 have hln:=h.length
 have hJ:=CJ.start 88 w #[.string ⟨#[]⟩,.slice none 0 0,.bool false]
 have hi:(Tryz.prog.info? 88).map (·.size)=some 3:=by kernel_rfl
 obtain⟨d,hu⟩:=isStruct_of (P:=Tryz.prog) (t:=88) (by kernel_rfl)
 have HU:=Hd (And.intro hi hu)
 have HK:Hid (∀ W rs,CJ 88 w W rs→Byt W W.heap.size A n cap l):=Hd fun W rs hJ=>(h.below hJ.1).more hJ.1.size
 have CR:Hid (∀ t:Nat,t≤n→ ∀ W rs,CJ 88 w W rs→Calls Tryz.prog 58 #[.slice A n cap,.int .i64 (t:Int),.bool false] W fun e w'=>e= .returned (outV (nameOut l t))∧Below W.heap.size W w'):=Hd fun t ht W rs hb=>refReadF_c A n cap l t W (HK.out W rs hb) (by omega) ht
 have CP:Hid (∀ t:Nat,t≤n→ ∀ W rs,CJ 88 w W rs→Calls Tryz.prog 61 #[.slice A n cap,.int .i64 (t:Int)] W fun e w'=>PairsPost (pairsOut l t) W e w'):=Hd fun t ht W rs hb=>refPairs_in A n cap l t W (HK.out W rs hb) hm ht
 have CB:Hid (∀ t,t≤n→ ∀ W rs,CJ 88 w W rs→Calls Tryz.prog 60 #[.slice A n cap,.int .i64 (t:Int)] W fun e w'=>e= .returned (.int .i64 (blankTo l t))∧W=w'):=Hd fun t ht W rs hb=>refBlanks_c A n cap l t _ W (HK.out W rs hb) (by omega) ht
 have CS:Hid (∀ t,t≤n→ ∀ p:List UInt8,p.length≤100→p≠ []→ ∀ W rs,CJ 88 w W rs→Calls Tryz.prog 28 #[.slice A n cap,.int .i64 (t:Int),.string ⟨p.toArray⟩] W fun e w'=>e= .returned (.bool (p.isPrefixOf (l.drop t)))∧W=w'):=Hd fun t ht p hp hp0 W rs hb=>refAt8_c A n cap l t p _ W (HK.out W rs hb) hp0 (by omega) (by omega) (by omega)
 have c0:=CS.out k hk [60] (by simp) (by simp) _ _ hJ
 rw[pre_one]at c0
 have hpo:=fun t (ht:t≤n)=>pairsOut_le l t (by omega)
 rw[hln]at hpo
 have hk': ¬ (n:Int)<(k:Int):=by omega
 have hk0:(0:Int)≤(k:Int):=by omega
 have hk1:(k:Int)≤40000:=by omega
 unfold openOut
 have J0:=Hd hJ
 by_cases h60:l[k]? =some 60
 · rw[if_pos h60]
   have hd:decide (l[k]? =some 60)=true:=by simpa using h60
   rw[hd]at c0
   have hkl:=(List.getElem?_eq_some_iff.1 h60).1
   have c1:=CR.out (k+1) (by omega) _ _ hJ
   rw[show ((k+1:Nat):Int)=(k:Int)+1 by omega]at c1
   have hno:=nameOut_ok l (k+1) (by omega)
   rw[hln]at hno
   have C0:=Hd c0
   clear hi hu hJ h c0 h60 hd hkl
   generalize nameOut l (k+1)=m at *
   obtain⟨s,nx,e⟩:=m
   simp only at hno ⊢
   unfold outV at c1
   simp only at c1
   have C1:=Hd c1
   clear c1
   by_cases he:e=0
   · subst he
     have hnx:=(hno rfl).2.1
     rw[if_neg (by simp)]
     have C2:=Hd (CP.out nx hnx)
     have hpn:=hpo nx hnx
     generalize pairsOut l nx=ps at *
     obtain⟨ps,px,pe⟩:=ps
     simp only at hpn ⊢
     by_cases hpe:pe=0
     · subst hpe
       rw[if_neg (by simp)]
       have c3:=CB.out px hpn
       have hb:=blankTo_le l px (by omega)
       generalize blankTo l px=b at *
       have c4:=CS.out b (by omega) [47,62] (by simp) (by simp)
       have c5:=CS.out b (by omega) [62] (by simp) (by simp)
       have hb0:(0:Int)≤(b:Int):=by omega
       have hb1:(b:Int)≤40000:=by omega
       generalize [47,62].isPrefixOf (l.drop b)=r1 at *
       generalize [62].isPrefixOf (l.drop b)=r2 at *
       have C3:=Hd c3
       have C4:=Hd c4
       have C5:=Hd c5
       clear c3 c4 c5 CB CS CP CR HK hln hno hpo hnx hpn hb hm hk
       cases r1 with
       |true =>
        simp only[if_true]
        go_enter Tryz.func33,Tryz.ntmps33
        go_wp2_with fail
        refine(C0.out).mono ?_
        rintro e wq ⟨rfl,rfl⟩
        go_wp2_with fail
        refine C1.out.mono ?_
        rintro e w1 ⟨rfl,hb⟩
        have J1:=Hd (J0.out.kept hb)
        clear hb
        go_wp2_with fail
        refine(C2.out _ _ J1.out).mono ?_
        rintro e w2 ⟨PA,pn,pc,rfl,hpr,hb,hlo⟩
        have J2:=Hd (J1.out.kept hb)
        have HP:=Hd (And.intro hpr (fun b i h=>Nat.lt_of_lt_of_le (lt_of J1.out.2) (hlo b i h)))
        have JF:=Hd (J2.out.row #[.string ⟨s.toArray⟩,.slice PA pn pc,.bool true])
        clear hpr hb hlo
        go_wp2_with fail
        refine(C3.out _ _ J2.out).mono ?_
        rintro e wq ⟨rfl,rfl⟩
        go_wp2_with fail
        refine(C4.out _ _ J2.out).mono ?_
        rintro e wq ⟨rfl,rfl⟩
        go_wp2_with (refine wpList_store_row rfl _ _ _ rfl w.heap.size #[.string ⟨s.toArray⟩,.slice PA pn pc,.bool true] rfl rfl _ _ J2.out.2 (by kernel_rfl) rfl (by kernel_rfl) ?_)
        (try simp only[Exit.inBlock,Exit.then])
        refine bodyPost_ret (results_c3 rfl _ _ w.heap.size _ _ _ _ rfl JF.out.2 HU.out.2 rfl HU.out.1) rfl ⟨PA,pn,pc,rfl,HP.out.1.move ?_ ?_,JF.out.1,fun b i h=>Nat.le_of_lt (HP.out.2 b i h)⟩
        · simp[World.setRow]
        · intro b' i' hA hb'
          have hlt:=HP.out.2 b' i' hA
          rw[setRow_at _ _ _ _ (by omega)]
       |false =>
        simp only[Bool.false_eq_true,if_false]
        cases r2 with
        |true =>
         simp only[if_true]
         go_enter Tryz.func33,Tryz.ntmps33
         go_wp2_with fail
         refine(C0.out).mono ?_
         rintro e wq ⟨rfl,rfl⟩
         go_wp2_with fail
         refine C1.out.mono ?_
         rintro e w1 ⟨rfl,hb⟩
         have J1:=Hd (J0.out.kept hb)
         clear hb
         go_wp2_with fail
         refine(C2.out _ _ J1.out).mono ?_
         rintro e w2 ⟨PA,pn,pc,rfl,hpr,hb,hlo⟩
         have J2:=Hd (J1.out.kept hb)
         have HP:=Hd (And.intro hpr (fun b i h=>Nat.lt_of_lt_of_le (lt_of J1.out.2) (hlo b i h)))
         have JF:=Hd (J2.out.row #[.string ⟨s.toArray⟩,.slice PA pn pc,.bool false])
         clear hpr hb hlo
         go_wp2_with fail
         refine(C3.out _ _ J2.out).mono ?_
         rintro e wq ⟨rfl,rfl⟩
         go_wp2_with fail
         refine(C4.out _ _ J2.out).mono ?_
         rintro e wq ⟨rfl,rfl⟩
         go_wp2_with fail
         refine(C5.out _ _ J2.out).mono ?_
         rintro e wq ⟨rfl,rfl⟩
         go_wp2_with (refine wpList_store_row rfl _ _ _ rfl w.heap.size #[.string ⟨s.toArray⟩,.slice PA pn pc,.bool false] rfl rfl _ _ J2.out.2 (by kernel_rfl) rfl (by kernel_rfl) ?_)
         (try simp only[Exit.inBlock,Exit.then])
         refine bodyPost_ret (results_c3 rfl _ _ w.heap.size _ _ _ _ rfl JF.out.2 HU.out.2 rfl HU.out.1) rfl ⟨PA,pn,pc,rfl,HP.out.1.move ?_ ?_,JF.out.1,fun b i h=>Nat.le_of_lt (HP.out.2 b i h)⟩
         · simp[World.setRow]
         · intro b' i' hA hb'
           have hlt:=HP.out.2 b' i' hA
           rw[setRow_at _ _ _ _ (by omega)]
        |false =>
         simp only[Bool.false_eq_true,if_false]
         go_enter Tryz.func33,Tryz.ntmps33
         go_wp2_with fail
         refine(C0.out).mono ?_
         rintro e wq ⟨rfl,rfl⟩
         go_wp2_with fail
         refine C1.out.mono ?_
         rintro e w1 ⟨rfl,hb⟩
         have J1:=Hd (J0.out.kept hb)
         clear hb
         go_wp2_with fail
         refine(C2.out _ _ J1.out).mono ?_
         rintro e w2 ⟨PA,pn,pc,rfl,hpr,hb,hlo⟩
         have J2:=Hd (J1.out.kept hb)
         have JF:=Hd (J2.out.row #[.string ⟨#[]⟩,.slice none 0 0,.bool false])
         clear hpr hb hlo
         go_wp2_with fail
         refine(C3.out _ _ J2.out).mono ?_
         rintro e wq ⟨rfl,rfl⟩
         go_wp2_with fail
         refine(C4.out _ _ J2.out).mono ?_
         rintro e wq ⟨rfl,rfl⟩
         go_wp2_with fail
         refine(C5.out _ _ J2.out).mono ?_
         rintro e wq ⟨rfl,rfl⟩
         go_wp2_with (refine wpList_store_row rfl _ _ _ rfl w.heap.size #[.string ⟨#[]⟩,.slice none 0 0,.bool false] rfl rfl _ _ J2.out.2 (by kernel_rfl) rfl (by kernel_rfl) ?_)
         (try simp only[Exit.inBlock,Exit.then])
         exact bodyPost_ret (results_c3 rfl _ _ w.heap.size _ _ _ _ rfl JF.out.2 HU.out.2 rfl HU.out.1) rfl ⟨none,0,0,rfl,PRd.nilR _ _,JF.out.1,fun b i h=>(by cases h)⟩
     · rw[if_pos hpe]
       have hei:((pe:Int)==0)=false:=by simp;omega
       clear CB CS CP CR HK hln hno hpo hnx hpn hm hk
       go_enter Tryz.func33,Tryz.ntmps33
       go_wp2_with fail
       refine(C0.out).mono ?_
       rintro e wq ⟨rfl,rfl⟩
       go_wp2_with fail
       refine C1.out.mono ?_
       rintro e w1 ⟨rfl,hb⟩
       have J1:=Hd (J0.out.kept hb)
       clear hb
       go_wp2_with fail
       refine(C2.out _ _ J1.out).mono ?_
       rintro e w2 ⟨PA,pn,pc,rfl,hpr,hb,hlo⟩
       have J2:=Hd (J1.out.kept hb)
       have JF:=Hd (J2.out.row #[.string ⟨#[]⟩,.slice none 0 0,.bool false])
       clear hpr hb hlo
       go_wp2_with (refine wpList_store_row rfl _ _ _ rfl w.heap.size #[.string ⟨#[]⟩,.slice none 0 0,.bool false] rfl rfl _ _ J2.out.2 (by kernel_rfl) rfl (by kernel_rfl) ?_)
       (try simp only[Exit.inBlock,Exit.then])
       exact bodyPost_ret (results_c3 rfl _ _ w.heap.size _ _ _ _ rfl JF.out.2 HU.out.2 rfl HU.out.1) rfl ⟨none,0,0,rfl,PRd.nilR _ _,JF.out.1,fun b i h=>(by cases h)⟩
   · rw[if_pos he]
     have hei:((e:Int)==0)=false:=by simp;omega
     clear CB CS CP CR HK hln hno hpo hm hk
     go_enter Tryz.func33,Tryz.ntmps33
     go_wp2_with fail
     refine(C0.out).mono ?_
     rintro e wq ⟨rfl,rfl⟩
     go_wp2_with fail
     refine C1.out.mono ?_
     rintro e w1 ⟨rfl,hb⟩
     have J1:=Hd (J0.out.kept hb)
     clear hb
     have JF:=Hd (J1.out.row #[.string ⟨#[]⟩,.slice none 0 0,.bool false])
     go_wp2_with (refine wpList_store_row rfl _ _ _ rfl w.heap.size #[.string ⟨#[]⟩,.slice none 0 0,.bool false] rfl rfl _ _ J1.out.2 (by kernel_rfl) rfl (by kernel_rfl) ?_)
     (try simp only[Exit.inBlock,Exit.then])
     exact bodyPost_ret (results_c3 rfl _ _ w.heap.size _ _ _ _ rfl JF.out.2 HU.out.2 rfl HU.out.1) rfl ⟨none,0,0,rfl,PRd.nilR _ _,JF.out.1,fun b i h=>(by cases h)⟩
 · rw[if_neg h60]
   have hd:decide (l[k]? =some 60)=false:=by simpa using h60
   rw[hd]at c0
   have C0:=Hd c0
   have JF:=Hd (J0.out.row #[.string ⟨#[]⟩,.slice none 0 0,.bool false])
   clear hi hu hJ h c0 h60 hd CB CS CP CR HK hln hpo hm hk
   go_enter Tryz.func33,Tryz.ntmps33
   go_wp2_with fail
   refine(C0.out).mono ?_
   rintro e wq ⟨rfl,rfl⟩
   go_wp2_with (refine wpList_store_row rfl _ _ _ rfl w.heap.size #[.string ⟨#[]⟩,.slice none 0 0,.bool false] rfl rfl _ _ J0.out.2 (by kernel_rfl) rfl (by kernel_rfl) ?_)
   (try simp only[Exit.inBlock,Exit.then])
   exact bodyPost_ret (results_c3 rfl _ _ w.heap.size _ _ _ _ rfl JF.out.2 HU.out.2 rfl HU.out.1) rfl ⟨none,0,0,rfl,PRd.nilR _ _,JF.out.1,fun b i h=>(by cases h)⟩
theorem refOpenF_c (A:Option Addr)(n cap:Nat)(l:List UInt8)(at_:Int)(w:World)(h:Byt w w.heap.size A n cap l)(hm:n≤40000) :
 Calls Tryz.prog 33 #[.slice A n cap,.int .i64 at_] w fun e w'=>OpenPostF (tagAt noTag openOut l at_) w e w':=by
 unfold tagAt
 rw[h.length]
 by_cases ha:at_<0∨(n:Int)<at_
 · rw[if_pos ha];exact refOpenF_range A n cap at_ w ha
 · rw[if_neg ha]
   obtain⟨k,rfl⟩: ∃ k:Nat,at_=(k:Int):=⟨at_.toNat,by omega⟩
   exact refOpenF_in A n cap l k w h hm (by omega)
theorem PRd.drewN {w:World}{B n cap k:Nat}{A:Option Addr}{ps:List PairL}(h:PRd w B A n cap ps):PRd (w.drewN k) B A n cap ps:=h.keep (w':=w.drewN k) fun _ _=>rfl
theorem enc_cases (r:Int)(h:128≤r):(∃ a b:UInt8,Utf8.encode r=⟨#[a,b]⟩∧128≤b.toNat)∨(∃ a b c:UInt8,Utf8.encode r=⟨#[a,b,c]⟩)∨ ∃ a b c d:UInt8,Utf8.encode r=⟨#[a,b,c,d]⟩:=by
 unfold Utf8.encode
 have hc:128≤(if Utf8.valid r=true then r.toNat else Utf8.runeError):=by
  split
  · omega
  · decide
 simp only
 generalize (if Utf8.valid r=true then r.toNat else Utf8.runeError)=c at *
 rw[if_neg (by omega)]
 split
 · refine Or.inl ⟨_,_,rfl,?_⟩
   simp
   omega
 · split
   · exact Or.inr (Or.inl ⟨_,_,_,rfl⟩)
   · exact Or.inr (Or.inr ⟨_,_,_,_,rfl⟩)
theorem get_plus (s:ByteArray)(p:Nat)(h:p<s.size):s.get! p=s[p]'h:=by
 simp[ByteArray.get!,getElem!_pos,h]
 rfl
theorem decode_span (s:ByteArray)(pos:Nat)(h:pos<s.size)(ha:128≤(s[pos]'h).toNat) :
 pos+(Utf8.decode s pos).2≤s.size∧ ∀ j,pos≤j→j<pos+(Utf8.decode s pos).2→ ∃ hj:j<s.size,128≤(s[j]'hj).toNat:=by
 have h0:(s.get! (pos+0)).toNat=(s[pos]'h).toNat:=by rw[Nat.add_zero,get_plus s pos h]
 have hc: ∀ k,(pos+k<s.size && (s.get! (pos+k)).toNat / 64==2)=true→ ∃ hj:pos+k<s.size,128≤(s[pos+k]'hj).toNat:=by
  intro k hk
  simp only[Bool.and_eq_true,decide_eq_true_eq,beq_iff_eq]at hk
  refine⟨hk.1,?_⟩
  have:=hk.2
  rw[get_plus s _ hk.1]at this
  omega
 have one:pos+1≤s.size∧ ∀ j,pos≤j→j<pos+1→ ∃ hj:j<s.size,128≤(s[j]'hj).toNat:=by
  refine⟨h,fun j h1 h2=> ?_⟩
  obtain rfl:j=pos:=by omega
  exact⟨h,ha⟩
 unfold Utf8.decode
 simp only
 rw[if_neg (by rw[h0];omega)]
 split
 · rename_i h1
   rw[Bool.and_eq_true]at h1
   obtain⟨a1,b1⟩:=hc 1 h1.2
   split
   · refine⟨by simp only;omega,fun j h2 h3=> ?_⟩
     simp only at h3
     rcases(by omega:j=pos∨j=pos+1)with rfl|rfl
     · exact⟨h,ha⟩
     · exact⟨a1,b1⟩
   · exact one
 · split
   · rename_i h1
     simp only[Bool.and_eq_true]at h1
     obtain⟨a1,b1⟩:=hc 1 (by simpa using h1.1.2)
     obtain⟨a2,b2⟩:=hc 2 (by simpa using h1.2)
     split
     · refine⟨by simp only;omega,fun j h2 h3=> ?_⟩
       simp only at h3
       rcases(by omega:j=pos∨j=pos+1∨j=pos+2)with rfl|rfl|rfl
       · exact⟨h,ha⟩
       · exact⟨a1,b1⟩
       · exact⟨a2,b2⟩
     · exact one
   · split
     · rename_i h1
       simp only[Bool.and_eq_true]at h1
       obtain⟨a1,b1⟩:=hc 1 (by simpa using h1.1.1.2)
       obtain⟨a2,b2⟩:=hc 2 (by simpa using h1.1.2)
       obtain⟨a3,b3⟩:=hc 3 (by simpa using h1.2)
       split
       · refine⟨by simp only;omega,fun j h2 h3=> ?_⟩
         simp only at h3
         rcases(by omega:j=pos∨j=pos+1∨j=pos+2∨j=pos+3)with rfl|rfl|rfl|rfl
         · exact⟨h,ha⟩
         · exact⟨a1,b1⟩
         · exact⟨a2,b2⟩
         · exact⟨a3,b3⟩
       · exact one
     · exact one
def itW (W:World)(b:Nat)(s:ByteArray)(p:Nat):World:= { W with heap:=W.heap.setIfInBounds b (.stringIter s p) }
theorem itW_at {W:World}{b p q:Nat}{s:ByteArray}(h:W.heap[b]? =some (.stringIter s q)):(itW W b s p).heap[b]? =some (.stringIter s p):=by
 have hb:b<W.heap.size:=(Array.getElem?_eq_some_iff.1 h).1
 simp[itW,hb]
theorem itW_below {W:World}{b p:Nat}{s:ByteArray}:Below b W (itW W b s p):=⟨rfl,rfl,rfl,by simp[itW],fun k hk=>by simp[itW,show ¬ b=k by omega]⟩
theorem run_next_at (W:World)(b:Nat)(s:ByteArray)(pos:Nat)(ty:TypeId)(hb:W.heap[b]? =some (.stringIter s pos))(h:pos<s.size) :
 (Instr.next (.pointer (some ⟨b,0,none⟩)) true ty).run Tryz.prog W= .ok (.tuple #[.bool true,.int .i64 pos,.int .i32 (Utf8.decode s pos).1]) (itW W b s (pos+(Utf8.decode s pos).2)):=by
 simp only[Instr.next,getObj,setObj,Sem.run_bind,Sem.run,hb,Result.andThen,h,if_true]
 simp[goInt,itW]
theorem run_next_end_at (W:World)(b:Nat)(s:ByteArray)(pos:Nat)(ty:TypeId)(hb:W.heap[b]? =some (.stringIter s pos))(h: ¬ pos<s.size) :
 (Instr.next (.pointer (some ⟨b,0,none⟩)) true ty).run Tryz.prog W= .ok (.tuple #[.bool false]) W:=by
 simp[Instr.next,getObj,Sem.run,hb,h]
theorem getB {l:List UInt8}{k:Nat}{c:UInt8}(h:l[k]? =some c):(⟨l.toArray⟩:ByteArray).get! k=c:=by
 have hk:=(List.getElem?_eq_some_iff.1 h).1
 have hs:(⟨l.toArray⟩:ByteArray).size=l.length:=by simp[ByteArray.size]
 rw[get_plus _ _ (by rw[hs];exact hk)]
 have:(⟨l.toArray⟩:ByteArray)[k]'(by rw[hs];exact hk)=l[k]:=rfl
 rw[this]
 rw[List.getElem?_eq_getElem hk]at h
 exact Option.some.inj h
def decU (l:List UInt8):Nat × Nat:=Utf8.decode ⟨l.toArray⟩ 0
theorem decSlow_c (b o n cap:Nat)(l:List UInt8)(w:World)(h:Byt w w.heap.size (some ⟨b,o,none⟩) n cap l)(hn:0<n)(hm:n≤1000000)(hT:Lib.Utf8Tabs 8 9 w)(c0:UInt8)(hc:l[0]? =some c0)(h128:128≤c0.toNat) :
 Calls Tryz.prog 145 #[.slice (some ⟨b,o,none⟩) n cap] w fun e w'=>e= .returned (.tuple #[.int .i32 (decU l).1,.int .i64 (decU l).2])∧Below w.heap.size w w':=by
 have hln:=h.length
 have hs:(⟨l.toArray⟩:ByteArray).size=l.length:=by simp[ByteArray.size]
 obtain⟨x0,hx0⟩: ∃ x0,(⟨l.toArray⟩:ByteArray).get! 0=x0:=⟨_,rfl⟩
 obtain⟨x1,hx1⟩: ∃ x1,(⟨l.toArray⟩:ByteArray).get! 1=x1:=⟨_,rfl⟩
 obtain⟨x2,hx2⟩: ∃ x2,(⟨l.toArray⟩:ByteArray).get! 2=x2:=⟨_,rfl⟩
 obtain⟨x3,hx3⟩: ∃ x3,(⟨l.toArray⟩:ByteArray).get! 3=x3:=⟨_,rfl⟩
 obtain rfl:x0=c0:=hx0.symm.trans (getB hc)
 have l0:=x0.toNat_lt;have l1:=x1.toNat_lt;have l2:=x2.toNat_lt;have l3:=x3.toNat_lt
 have hbB:b<w.heap.size:=by
  obtain⟨b',o',c',e,hb,_⟩:=h.cell hn
  cases e
  exact hb
 have hcell: ∀ k,k<n→w.cell? ⟨b,o+k,none⟩=some (.int .u8 ((⟨l.toArray⟩:ByteArray).get! k).toNat):=fun k hk=>by
  obtain⟨b',o',c',e,hb,h1,h2⟩:=h.cell hk
  cases e
  rw[getB h1]
  exact h2
 have hdec:decU l=Lib.decodeN n x0.toNat x1.toNat x2.toNat x3.toNat:=by
  unfold decU
  rw[Lib.decode_at,Nat.sub_zero,Nat.zero_add,Nat.zero_add,Nat.zero_add,hx0,hx1,hx2,hx3,hs,hln]
 rw[hdec]
 have hc0:=hT.1 x0.toNat (by omega)
 have hf0:=hcell 0 hn
 rw[hx0,Nat.add_zero]at hf0
 have hres:Lib.firstT x0.toNat<240→Lib.decodeN n x0.toNat x1.toNat x2.toNat x3.toNat=Lib.slowN n x0.toNat x1.toNat x2.toNat x3.toNat (Lib.firstT x0.toNat % 8) (Lib.accLo (Lib.firstT x0.toNat / 16)) (Lib.accHi (Lib.firstT x0.toNat / 16)) :=
  fun h=>(Lib.slow_eq _ _ _ _ _ (by omega) (by omega) (by omega) (by omega) h).symm
 have hn0: ¬ ((n:Int)<1):=by omega
 have hn00:(0:Int)<(n:Int):=by omega
 have hf1:1<n→w.cell? ⟨b,o+1,none⟩=some (.int .u8 x1.toNat):=fun h1=>by rw[hcell 1 h1,hx1]
 have hf2:2<n→w.cell? ⟨b,o+2,none⟩=some (.int .u8 x2.toNat):=fun h1=>by rw[hcell 2 h1,hx2]
 have hf3:3<n→w.cell? ⟨b,o+3,none⟩=some (.int .u8 x3.toNat):=fun h1=>by rw[hcell 3 h1,hx3]
 clear hcell hdec hx0 hx1 hx2 hx3 hc h hs hln
 rcases Lib.firstT_cases x0.toNat with hX|hX|hX|hX|hX|hX|hX|hX|hX
 · exfalso
   unfold Lib.firstT at hX
   rw[if_neg (by omega)]at hX
   repeat' split at hX
   all_goals omega
 · rw[Lib.bad_eq _ _ _ _ _ (by omega) hX]
   rw[hX]at hc0
   clear hres hT hX hf1 hf2 hf3
   go_enter Tryz.func145,Tryz.ntmps145
   go_wp2
   rw[Utf8W.mask241,Utf8W.drop_byte ⟨x0.toNat,l0⟩]
   go_ret2
   exact⟨rfl,Below.refl _ _⟩
 all_goals replace hres:=hres (by omega)
 · rw[hX]at hc0 hres
   have ha0:=(hT.2 0 (by omega)).1
   have ha1:=(hT.2 0 (by omega)).2
   simp only[Lib.accLo,Lib.accHi,Nat.reduceMul,Nat.reduceAdd,Nat.reduceEqDiff,if_true,if_false,Nat.reduceMod,Nat.reduceDiv]at ha0 ha1 hres
   rw[hres]
   clear hres hT hX
   by_cases hn:n<2
   · have hnz:(n:Int)<2:=by omega
     clear hf1 hf2 hf3
     go_enter Tryz.func145,Tryz.ntmps145
     go_wp2
     all_goals (go_ret2;refine⟨?_,(Below.refl _ _).alloc (Nat.le_refl _) _⟩;utf8_leaf)
   · have hnz: ¬ ((n:Int)<2):=by omega
     have hz1:(1:Int)<(n:Int):=by omega
     replace hf1:=hf1 (by omega)
     clear hf2 hf3
     go_enter Tryz.func145,Tryz.ntmps145
     go_wp2
     all_goals (go_ret2;refine⟨?_,(Below.refl _ _).alloc (Nat.le_refl _) _⟩;utf8_leaf)
 · rw[hX]at hc0 hres
   have ha0:=(hT.2 1 (by omega)).1
   have ha1:=(hT.2 1 (by omega)).2
   simp only[Lib.accLo,Lib.accHi,Nat.reduceMul,Nat.reduceAdd,Nat.reduceEqDiff,if_true,if_false,Nat.reduceMod,Nat.reduceDiv]at ha0 ha1 hres
   rw[hres]
   clear hres hT hX
   by_cases hn:n<3
   · have hnz:(n:Int)<3:=by omega
     clear hf1 hf2 hf3
     go_enter Tryz.func145,Tryz.ntmps145
     go_wp2
     all_goals (go_ret2;refine⟨?_,(Below.refl _ _).alloc (Nat.le_refl _) _⟩;utf8_leaf)
   · have hnz: ¬ ((n:Int)<3):=by omega
     have hz1:(1:Int)<(n:Int):=by omega
     replace hf1:=hf1 (by omega)
     have hz2:(2:Int)<(n:Int):=by omega
     replace hf2:=hf2 (by omega)
     clear hf3
     go_enter Tryz.func145,Tryz.ntmps145
     go_wp2
     all_goals (go_ret2;refine⟨?_,(Below.refl _ _).alloc (Nat.le_refl _) _⟩;utf8_leaf)
 · rw[hX]at hc0 hres
   have ha0:=(hT.2 0 (by omega)).1
   have ha1:=(hT.2 0 (by omega)).2
   simp only[Lib.accLo,Lib.accHi,Nat.reduceMul,Nat.reduceAdd,Nat.reduceEqDiff,if_true,if_false,Nat.reduceMod,Nat.reduceDiv]at ha0 ha1 hres
   rw[hres]
   clear hres hT hX
   by_cases hn:n<3
   · have hnz:(n:Int)<3:=by omega
     clear hf1 hf2 hf3
     go_enter Tryz.func145,Tryz.ntmps145
     go_wp2
     all_goals (go_ret2;refine⟨?_,(Below.refl _ _).alloc (Nat.le_refl _) _⟩;utf8_leaf)
   · have hnz: ¬ ((n:Int)<3):=by omega
     have hz1:(1:Int)<(n:Int):=by omega
     replace hf1:=hf1 (by omega)
     have hz2:(2:Int)<(n:Int):=by omega
     replace hf2:=hf2 (by omega)
     clear hf3
     go_enter Tryz.func145,Tryz.ntmps145
     go_wp2
     all_goals (go_ret2;refine⟨?_,(Below.refl _ _).alloc (Nat.le_refl _) _⟩;utf8_leaf)
 · rw[hX]at hc0 hres
   have ha0:=(hT.2 2 (by omega)).1
   have ha1:=(hT.2 2 (by omega)).2
   simp only[Lib.accLo,Lib.accHi,Nat.reduceMul,Nat.reduceAdd,Nat.reduceEqDiff,if_true,if_false,Nat.reduceMod,Nat.reduceDiv]at ha0 ha1 hres
   rw[hres]
   clear hres hT hX
   by_cases hn:n<3
   · have hnz:(n:Int)<3:=by omega
     clear hf1 hf2 hf3
     go_enter Tryz.func145,Tryz.ntmps145
     go_wp2
     all_goals (go_ret2;refine⟨?_,(Below.refl _ _).alloc (Nat.le_refl _) _⟩;utf8_leaf)
   · have hnz: ¬ ((n:Int)<3):=by omega
     have hz1:(1:Int)<(n:Int):=by omega
     replace hf1:=hf1 (by omega)
     have hz2:(2:Int)<(n:Int):=by omega
     replace hf2:=hf2 (by omega)
     clear hf3
     go_enter Tryz.func145,Tryz.ntmps145
     go_wp2
     all_goals (go_ret2;refine⟨?_,(Below.refl _ _).alloc (Nat.le_refl _) _⟩;utf8_leaf)
 · rw[hX]at hc0 hres
   have ha0:=(hT.2 3 (by omega)).1
   have ha1:=(hT.2 3 (by omega)).2
   simp only[Lib.accLo,Lib.accHi,Nat.reduceMul,Nat.reduceAdd,Nat.reduceEqDiff,if_true,if_false,Nat.reduceMod,Nat.reduceDiv]at ha0 ha1 hres
   rw[hres]
   clear hres hT hX
   by_cases hn:n<4
   · have hnz:(n:Int)<4:=by omega
     clear hf1 hf2 hf3
     go_enter Tryz.func145,Tryz.ntmps145
     go_wp2
     all_goals (go_ret2;refine⟨?_,(Below.refl _ _).alloc (Nat.le_refl _) _⟩;utf8_leaf)
   · have hnz: ¬ ((n:Int)<4):=by omega
     have hz1:(1:Int)<(n:Int):=by omega
     replace hf1:=hf1 (by omega)
     have hz2:(2:Int)<(n:Int):=by omega
     replace hf2:=hf2 (by omega)
     have hz3:(3:Int)<(n:Int):=by omega
     replace hf3:=hf3 (by omega)
     go_enter Tryz.func145,Tryz.ntmps145
     go_wp2
     all_goals (go_ret2;refine⟨?_,(Below.refl _ _).alloc (Nat.le_refl _) _⟩;utf8_leaf)
 · rw[hX]at hc0 hres
   have ha0:=(hT.2 0 (by omega)).1
   have ha1:=(hT.2 0 (by omega)).2
   simp only[Lib.accLo,Lib.accHi,Nat.reduceMul,Nat.reduceAdd,Nat.reduceEqDiff,if_true,if_false,Nat.reduceMod,Nat.reduceDiv]at ha0 ha1 hres
   rw[hres]
   clear hres hT hX
   by_cases hn:n<4
   · have hnz:(n:Int)<4:=by omega
     clear hf1 hf2 hf3
     go_enter Tryz.func145,Tryz.ntmps145
     go_wp2
     all_goals (go_ret2;refine⟨?_,(Below.refl _ _).alloc (Nat.le_refl _) _⟩;utf8_leaf)
   · have hnz: ¬ ((n:Int)<4):=by omega
     have hz1:(1:Int)<(n:Int):=by omega
     replace hf1:=hf1 (by omega)
     have hz2:(2:Int)<(n:Int):=by omega
     replace hf2:=hf2 (by omega)
     have hz3:(3:Int)<(n:Int):=by omega
     replace hf3:=hf3 (by omega)
     go_enter Tryz.func145,Tryz.ntmps145
     go_wp2
     all_goals (go_ret2;refine⟨?_,(Below.refl _ _).alloc (Nat.le_refl _) _⟩;utf8_leaf)
 · rw[hX]at hc0 hres
   have ha0:=(hT.2 4 (by omega)).1
   have ha1:=(hT.2 4 (by omega)).2
   simp only[Lib.accLo,Lib.accHi,Nat.reduceMul,Nat.reduceAdd,Nat.reduceEqDiff,if_true,if_false,Nat.reduceMod,Nat.reduceDiv]at ha0 ha1 hres
   rw[hres]
   clear hres hT hX
   by_cases hn:n<4
   · have hnz:(n:Int)<4:=by omega
     clear hf1 hf2 hf3
     go_enter Tryz.func145,Tryz.ntmps145
     go_wp2
     all_goals (go_ret2;refine⟨?_,(Below.refl _ _).alloc (Nat.le_refl _) _⟩;utf8_leaf)
   · have hnz: ¬ ((n:Int)<4):=by omega
     have hz1:(1:Int)<(n:Int):=by omega
     replace hf1:=hf1 (by omega)
     have hz2:(2:Int)<(n:Int):=by omega
     replace hf2:=hf2 (by omega)
     have hz3:(3:Int)<(n:Int):=by omega
     replace hf3:=hf3 (by omega)
     go_enter Tryz.func145,Tryz.ntmps145
     go_wp2
     all_goals (go_ret2;refine⟨?_,(Below.refl _ _).alloc (Nat.le_refl _) _⟩;utf8_leaf)
def amL:List UInt8:= [60,38]
theorem am_no (b:UInt8)(h:128≤b.toNat):amL.contains b=false:=by
 have h1:b≠60:=fun e=>by subst e;simp at h
 have h2:b≠38:=fun e=>by subst e;simp at h
 simp[amL,h1,h2]
theorem noAny_am {s:List UInt8}{i m:Nat}(h:Lib.NoAny s amL i)(hm: ∀ j b,i≤j→j<m→s[j]? =some b→128≤b.toNat):Lib.NoAny s amL m:=fun j b hj hb=>by
 by_cases e:j<i
 · exact h j b e hb
 · exact am_no b (hm j b (by omega) hj hb)
theorem inTx_am (c:UInt8):inTx c= !amL.contains c:=by
 unfold inTx
 simp only[amL,List.contains_cons,List.contains_nil,Bool.or_false]
 by_cases h1:c=60 <;> by_cases h2:c=38 <;> simp[h1,h2]
theorem ix_txt: ∀ l:List UInt8,Lib.indexAny l amL=if (txt l).length<l.length then ((txt l).length:Int) else -1
 | []=>by simp[Lib.indexAny,txt]
 |c :: t=>by
  unfold Lib.indexAny
  cases h:amL.contains c with
  |true =>
   rw[if_pos rfl,txt_stop (by rw[inTx_am,h];rfl)]
   simp
  |false =>
   rw[if_neg (by simp),txt_cons (by rw[inTx_am,h];rfl),ix_txt t]
   have hle:=txt_le t
   simp only[List.length_cons]
   by_cases h1:(txt t).length<t.length
   · have h2:(txt t).length+1<t.length+1:=by omega
     rw[if_pos h1,if_pos h2]
     split
     · rename_i h3
       have:=eq_of_beq h3
       omega
     · omega
   · have h2: ¬ (txt t).length+1<t.length+1:=by omega
     rw[if_neg h1,if_neg h2]
     rfl
theorem useSet_c (n:Int)(w:World):Calls Tryz.prog 114 #[.int .i64 n] w fun e w'=>e= .returned (.bool (decide (8<n)))∧w'=w:=by
 go_enter Tryz.func114,Tryz.ntmps114
 go_wp2
 go_ret
 exact⟨rfl,rfl⟩
theorem results_cell2 {P:Program}{fn:Func}{p u:Tmp}{ty:TypeId}(h:fn.results= #[.cell p ty,.tmp u])(tmps:Array Value)(w:World)(g:Nat)(t:TypeId)(cs:Array Value)(fr:Nat × Nat)(d:TypeDesc)
 (hp:tmps.getD p undef= .pointer (some ⟨g,0,none⟩)) (hg:w.heap[g]? =some (.cells cs t fr))
 (hu:P.underlying ty=some d) (hd:(match d with| .struct _| .array _ _=>true|_=>false)=true) (hi:(P.info? ty).map (·.size)=some cs.size) :
 (results fn tmps).run P w= .ok (.tuple #[.agg cs,tmps.getD u undef]) w:=by
 have hp':tmps[p]?.getD undef= .pointer (some ⟨g,0,none⟩):=by simpa using hp
 simp[results,h,hp',asAddr,run_loadVar_row w g t ty cs fr d hg hu hd hi]
theorem set_info:(Tryz.prog.info? 172).map (fun i=>(i.zero,i.size))=some (some (.agg (Array.replicate 256 (.bool false))),256):=by kernel_rfl
theorem amSet_c (w:World):Calls Tryz.prog 115 #[.string ⟨#[60,38]⟩] w fun e w'=>e= .returned (.tuple #[.agg (Lib.setCells amL),.bool true])∧w'=w.alloc (.cells (Lib.setCells amL) 172):=by
 have hv:=(zero_of_info (P:=Tryz.prog) set_info).1
 have hi:=(zero_of_info (P:=Tryz.prog) set_info).2
 have hu:=Tryz.underlying172
 have g0:(⟨#[60,38]⟩:ByteArray)[0].toNat=60:=rfl
 have g1:(⟨#[60,38]⟩:ByteArray)[1].toNat=38:=rfl
 go_enter Tryz.func115,Tryz.ntmps115
 go_wp2
 rw[← Lib.setCells_nil]
 go_loopg [4] 2 (fun g s4 wx=> ∃ i:Nat,i+g=2∧s4= .int .i64 i∧wx=w.alloc (.cells (Lib.setCells (amL.take i)) 172))
 case atStart=>exact⟨0,by omega,rfl,rfl⟩
 case round =>
  obtain⟨i,hig,rfl,rfl⟩:=hrel
  cases gk with
  |zero =>
   obtain rfl:i=2:=by omega
   rw[show amL.take 2=amL from rfl]
   have hld:=run_loadVar_new (P:=Tryz.prog) w 172 (Lib.setCells amL) 256 _ hu (by rw[Lib.setCells_size];exact hi)
   have hsz:=Lib.setCells_size amL
   have hlc:=run_loadCellsFrom_new (P:=Tryz.prog) w 172 (Lib.setCells amL) 256 hsz
   have hsc:=run_storeCells_new (P:=Tryz.prog) w 172 (Lib.setCells amL) (Lib.setCells amL) (by rw[hsz];exact hi) rfl (Lib.setCells_one _)
   have hW:=hp_new w (.cells (Lib.setCells amL) 172)
   obtain⟨S,hS⟩: ∃ S,Lib.setCells amL=S:=⟨_,rfl⟩
   rw[hS]at hld hlc hsc hsz hW ⊢
   have HS:=Hd hS
   clear hS
   go_wp2_with (first|(refine wpList_load_row rfl _ _ rfl w.heap.size rfl _ _ _ _ hW hu rfl (by rw[hi,hsz]) ?_)|(refine wpList_store_row rfl _ _ _ rfl w.heap.size S rfl rfl _ _ hW hsz.symm rfl (by rw[hi,hsz]) ?_))
   (try simp only[Exit.inBlock,Exit.then])
   exact bodyPost_ret (results_cell2 rfl _ _ w.heap.size _ _ _ _ rfl hW hu rfl (by rw[hi,hsz])) rfl ⟨by rw[HS.out];rfl,by rw[HS.out]⟩
  |succ g =>
   have hi2:i=0∨i=1:=by omega
   rcases hi2 with rfl|rfl
   · have hcell:=Lib.setCells_at [] 60
     go_wp2
     go_roundg g
     case measure=>omega
     case rel=>exact⟨1,by omega,rfl,by rw[show amL.take 1= []++ [60] from rfl,Lib.setCells_snoc];rfl⟩
   · have hcell:=Lib.setCells_at [60] 38
     go_wp2
     go_roundg g
     case measure=>omega
     case rel=>exact⟨2,by omega,rfl,by rw[show amL.take 2= [60]++ [38] from rfl,Lib.setCells_snoc];rfl⟩
theorem setHas_c (b:Nat)(x:UInt8)(v:Bool)(w:World)(hc:w.cell? ⟨b,x.toNat,none⟩=some (.bool v)) :
 Calls Tryz.prog 116 #[.pointer (some ⟨b,0,none⟩),.int .u8 x.toNat] w fun e w'=>e= .returned (.bool v)∧w'=w:=by
 have hx256:(x.toNat:Int)<256:=by have:=UInt8.toNat_lt x;omega
 go_enter Tryz.func116,Tryz.ntmps116
 go_wp2
 go_ret
 exact⟨rfl,rfl⟩
end Go.Proofs.YtbafljibbabnaaaGreatDoor
