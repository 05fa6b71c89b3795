/- Texts of ours, joined: Ref6, Ref7, Ref8, Ref9, Cref2, Dig. -/
import Derived.Test.YtbafljibbabnaaaGreatDoorQ6
namespace Go.Proofs.YtbafljibbabnaaaGreatDoor
open Go.ChangeShapes Go.WideShapes Go.ChangeAt Go.RowKit
set_option linter.unusedVariables false
set_option maxRecDepth 100000
set_option maxHeartbeats 32000000
theorem refMore_c (r:Int)(w:World):Calls Tryz.prog 121 #[.int .i64 r] w fun e w'=>e= .returned (.bool (isMore r))∧w=w':=by
 have hs:=refStart_c r w
 unfold isMore
 cases he:isStart r with
 |true =>
  rw[he]at hs
  have HE:=Hd he
  clear he
  go_enter Tryz.func121,Tryz.ntmps121
  go_wp2_with fail
  refine hs.mono ?_
  rintro e w1 ⟨rfl,rfl⟩
  go_wp2
  go_ret
  exact⟨rfl,rfl⟩
 |false =>
  rw[he]at hs
  have HE:=Hd he
  clear he
  show Calls _ _ _ _ fun e w'=>e= .returned (.bool (isMoreOnly r))∧w=w'
  rcases(show r≤44∨r=45∨r=46∨r=47∨(48≤r∧r≤57)∨(58≤r∧r≤182)∨r=183∨(184≤r∧r≤767)∨(768≤r∧r≤879)∨(880≤r∧r≤8254)∨r=8255∨r=8256∨8257≤r by omega)with h|h|h|h|h|h|h|h|h|h|h|h|h
  all_goals
   first
    |(have e:isMoreOnly r=false:=by rw[Bool.eq_false_iff,Ne,isMoreOnly_iff];omega
      rw[e])
    |(have e:isMoreOnly r=true:=by rw[isMoreOnly_iff];omega
      rw[e])
   first|(have a0:(r==45)=true:=beq_iff_eq.2 (by omega))|(have a0:(r==45)=false:=beq_eq_false_iff_ne.2 (by omega))
   first|(have a1:(r==46)=true:=beq_iff_eq.2 (by omega))|(have a1:(r==46)=false:=beq_eq_false_iff_ne.2 (by omega))
   first|(have a2:decide (48≤r)=true:=decide_eq_true (by omega))|(have a2:decide (48≤r)=false:=decide_eq_false (by omega))
   first|(have a3:decide (r≤57)=true:=decide_eq_true (by omega))|(have a3:decide (r≤57)=false:=decide_eq_false (by omega))
   first|(have a4:(r==183)=true:=beq_iff_eq.2 (by omega))|(have a4:(r==183)=false:=beq_eq_false_iff_ne.2 (by omega))
   first|(have a5:decide (768≤r)=true:=decide_eq_true (by omega))|(have a5:decide (768≤r)=false:=decide_eq_false (by omega))
   first|(have a6:decide (r≤879)=true:=decide_eq_true (by omega))|(have a6:decide (r≤879)=false:=decide_eq_false (by omega))
   first|(have a7:(r==8255)=true:=beq_iff_eq.2 (by omega))|(have a7:(r==8255)=false:=beq_eq_false_iff_ne.2 (by omega))
   first|(have a8:(r==8256)=true:=beq_iff_eq.2 (by omega))|(have a8:(r==8256)=false:=beq_eq_false_iff_ne.2 (by omega))
   clear e h
   go_enter Tryz.func121,Tryz.ntmps121
   go_wp2_with fail
   refine hs.mono ?_
   rintro e w1 ⟨rfl,rfl⟩
   go_wp2
   go_ret
   exact⟨rfl,rfl⟩
def okName (pl:Bool)(f:Int→Bool)(r:Int):Bool:=if pl then noColon f r else f r
theorem refEnd_c (pl:Bool)(A:Option Addr)(n cap:Nat)(l:List UInt8)(at_:Nat)(w:World)(h:Byt w w.heap.size A n cap l)(hm:n≤50000)(hat:at_≤n) :
 Calls Tryz.prog 89 #[.slice A n cap,.int .i64 at_,.bool pl] w fun e w'=>e= .returned (.int .i64 ((at_+endL (okName pl isStart) (okName pl isMore) n (l.drop at_):Nat)))∧Below w.heap.size w w':=by
 have HB0:=Hd h
 have hln:=Hd h.length
 have HM:=Hd hm
 clear h
 go_enter Tryz.func89,Tryz.ntmps89
 go_wp2
 go_loopg [1,7] (n - at_) (fun kx s1 s7 wr=> ∃ (p K:Nat) (first:Bool),s1= .int .i64 p∧s7= .bool first∧p≤n∧kx=n - p∧n - p≤K ∧
  Hid (at_+endL (okName pl isStart) (okName pl isMore) n (l.drop at_)=p+endL (okName pl (if first then isStart else isMore)) (okName pl isMore) K (l.drop p))∧Hid (Below w.heap.size w wr))
 case atStart=>exact⟨at_,n,true,rfl,rfl,hat,rfl,by omega,Hd rfl,Hd (Below.refl _ _)⟩
 case round =>
  obtain⟨p,K,first,rfl,rfl,hp,hk,hK,HE,HB⟩:=hrel
  by_cases hlt:p<n
  · have hlt':(p:Int)<(n:Int):=by omega
    have hd:=refDec_c A n cap l p wr w.heap.size (HB0.out.below HB.out) hlt hm
    cases hdec:dec (l.drop p)with
    |none =>
     rw[hdec]at hd
     have HD:=Hd hdec
     clear hdec
     cases first with
     |true =>
      go_wp2_with fail
      refine hd.mono ?_
      rintro e w1 ⟨rfl,hb1⟩
      have HB1:=Hd (HB.out.trans (hb1.mono HB.out.size))
      clear hb1
      simp only[pairV]
      go_wp2_with fail
      refine(refMore_c _ _).mono ?_
      rintro e w2 ⟨rfl,rfl⟩
      go_wp2_with fail
      refine(refStart_c _ _).mono ?_
      rintro e w2 ⟨rfl,rfl⟩
      go_wp2
      go_ret
      exact⟨by rw[HE.out,endL_none _ _ _ _ HD.out];rfl,HB1.out⟩
     |false =>
      go_wp2_with fail
      refine hd.mono ?_
      rintro e w1 ⟨rfl,hb1⟩
      have HB1:=Hd (HB.out.trans (hb1.mono HB.out.size))
      clear hb1
      simp only[pairV]
      go_wp2_with fail
      refine(refMore_c _ _).mono ?_
      rintro e w2 ⟨rfl,rfl⟩
      go_wp2
      go_ret
      exact⟨by rw[HE.out,endL_none _ _ _ _ HD.out];rfl,HB1.out⟩
    |some v =>
     obtain⟨r,m⟩:=v
     rw[hdec]at hd
     have hle:=dec_le _ r m hdec
     rw[List.length_drop,hln.out]at hle
     have HD:=Hd hdec
     clear hdec
     have hmz:((m:Int)==0)=false:=by simp;omega
     cases first with
     |true =>
      have HE2:Hid (at_+endL (okName pl isStart) (okName pl isMore) n (l.drop at_)=p+endL (okName pl isStart) (okName pl isMore) K (l.drop p)):=Hd (by simpa using HE.out)
      cases hf:isStart r with
      |false =>
       have HNO:Hid (okName pl isStart r=false):=Hd (by unfold okName noColon;rw[hf];simp)
       have hcs: ∀ w0:World,Calls Tryz.prog 122 #[.int .i64 (r:Int)] w0 fun e w'=>e= .returned (.bool false)∧w0=w':=fun w0=>by
        have:=refStart_c (r:Int) w0
        rwa [hf]at this
       clear hf
       go_wp2_with fail
       refine hd.mono ?_
       rintro e w1 ⟨rfl,hb1⟩
       have HB1:=Hd (HB.out.trans (hb1.mono HB.out.size))
       clear hb1
       simp only[pairV]
       go_wp2_with fail
       refine(refMore_c _ _).mono ?_
       rintro e w2 ⟨rfl,rfl⟩
       go_wp2_with fail
       refine(hcs _).mono ?_
       rintro e w2 ⟨rfl,rfl⟩
       go_wp2
       go_ret
       exact⟨by rw[HE2.out,endL_no _ _ _ _ _ _ HD.out HNO.out];rfl,HB1.out⟩
      |true =>
       have hcs: ∀ w0:World,Calls Tryz.prog 122 #[.int .i64 (r:Int)] w0 fun e w'=>e= .returned (.bool true)∧w0=w':=fun w0=>by
        have:=refStart_c (r:Int) w0
        rwa [hf]at this
       cases pl with
       |false =>
        have HNO:Hid (okName false isStart r=true):=Hd hf
        clear hf
        go_wp2_with fail
        refine hd.mono ?_
        rintro e w1 ⟨rfl,hb1⟩
        have HB1:=Hd (HB.out.trans (hb1.mono HB.out.size))
        clear hb1
        simp only[pairV]
        go_wp2_with fail
        refine(refMore_c _ _).mono ?_
        rintro e w2 ⟨rfl,rfl⟩
        go_wp2_with fail
        refine(hcs _).mono ?_
        rintro e w2 ⟨rfl,rfl⟩
        go_wp2
        go_roundg (n - (p+m))
        case measure=>omega
        case rel =>
         refine⟨p+m,K - 1,false,rfl,rfl,by omega,rfl,by omega,Hd ?_,HB1⟩
         have:=endL_yes (okName false isStart) (okName false isMore) (K - 1) _ r m HD.out HNO.out
         rw[show K - 1+1=K by omega,List.drop_drop]at this
         rw[HE2.out,this]
         show _=p+m+endL (okName false isMore) (okName false isMore) (K - 1) (l.drop (p+m))
         omega
       |true =>
        by_cases h58:r=58
        · subst h58
          have HNO:Hid (okName true isStart (58:Nat)=false):=Hd (by unfold okName noColon;simp)
          clear hf
          go_wp2_with fail
          refine hd.mono ?_
          rintro e w1 ⟨rfl,hb1⟩
          have HB1:=Hd (HB.out.trans (hb1.mono HB.out.size))
          clear hb1
          simp only[pairV]
          go_wp2_with fail
          refine(refMore_c _ _).mono ?_
          rintro e w2 ⟨rfl,rfl⟩
          go_wp2_with fail
          refine(hcs _).mono ?_
          rintro e w2 ⟨rfl,rfl⟩
          go_wp2
          go_ret
          exact⟨by rw[HE2.out,endL_no _ _ _ _ _ _ HD.out HNO.out];rfl,HB1.out⟩
        · have h5:((r:Int)==58)=false:=by simp;omega
          have HNO:Hid (okName true isStart r=true):=Hd (by unfold okName noColon;rw[hf];simp;omega)
          clear hf
          go_wp2_with fail
          refine hd.mono ?_
          rintro e w1 ⟨rfl,hb1⟩
          have HB1:=Hd (HB.out.trans (hb1.mono HB.out.size))
          clear hb1
          simp only[pairV]
          go_wp2_with fail
          refine(refMore_c _ _).mono ?_
          rintro e w2 ⟨rfl,rfl⟩
          go_wp2_with fail
          refine(hcs _).mono ?_
          rintro e w2 ⟨rfl,rfl⟩
          go_wp2
          go_roundg (n - (p+m))
          case measure=>omega
          case rel =>
           refine⟨p+m,K - 1,false,rfl,rfl,by omega,rfl,by omega,Hd ?_,HB1⟩
           have:=endL_yes (okName true isStart) (okName true isMore) (K - 1) _ r m HD.out HNO.out
           rw[show K - 1+1=K by omega,List.drop_drop]at this
           rw[HE2.out,this]
           show _=p+m+endL (okName true isMore) (okName true isMore) (K - 1) (l.drop (p+m))
           omega
     |false =>
      have HE2:Hid (at_+endL (okName pl isStart) (okName pl isMore) n (l.drop at_)=p+endL (okName pl isMore) (okName pl isMore) K (l.drop p)):=Hd (by simpa using HE.out)
      cases hf:isMore r with
      |false =>
       have HNO:Hid (okName pl isMore r=false):=Hd (by unfold okName noColon;rw[hf];simp)
       have hcs: ∀ w0:World,Calls Tryz.prog 121 #[.int .i64 (r:Int)] w0 fun e w'=>e= .returned (.bool false)∧w0=w':=fun w0=>by
        have:=refMore_c (r:Int) w0
        rwa [hf]at this
       clear hf
       go_wp2_with fail
       refine hd.mono ?_
       rintro e w1 ⟨rfl,hb1⟩
       have HB1:=Hd (HB.out.trans (hb1.mono HB.out.size))
       clear hb1
       simp only[pairV]
       go_wp2_with fail
       refine(hcs _).mono ?_
       rintro e w2 ⟨rfl,rfl⟩
       go_wp2
       go_ret
       exact⟨by rw[HE2.out,endL_no _ _ _ _ _ _ HD.out HNO.out];rfl,HB1.out⟩
      |true =>
       have hcs: ∀ w0:World,Calls Tryz.prog 121 #[.int .i64 (r:Int)] w0 fun e w'=>e= .returned (.bool true)∧w0=w':=fun w0=>by
        have:=refMore_c (r:Int) w0
        rwa [hf]at this
       cases pl with
       |false =>
        have HNO:Hid (okName false isMore r=true):=Hd hf
        clear hf
        go_wp2_with fail
        refine hd.mono ?_
        rintro e w1 ⟨rfl,hb1⟩
        have HB1:=Hd (HB.out.trans (hb1.mono HB.out.size))
        clear hb1
        simp only[pairV]
        go_wp2_with fail
        refine(hcs _).mono ?_
        rintro e w2 ⟨rfl,rfl⟩
        go_wp2
        go_roundg (n - (p+m))
        case measure=>omega
        case rel =>
          refine⟨p+m,K - 1,false,rfl,rfl,by omega,rfl,by omega,Hd ?_,HB1⟩
          have:=endL_yes (okName false isMore) (okName false isMore) (K - 1) _ r m HD.out HNO.out
          rw[show K - 1+1=K by omega,List.drop_drop]at this
          rw[HE2.out,this]
          show _=p+m+endL (okName false isMore) (okName false isMore) (K - 1) (l.drop (p+m))
          omega
       |true =>
        by_cases h58:r=58
        · subst h58
          have HNO:Hid (okName true isMore (58:Nat)=false):=Hd (by unfold okName noColon;simp)
          clear hf
          go_wp2_with fail
          refine hd.mono ?_
          rintro e w1 ⟨rfl,hb1⟩
          have HB1:=Hd (HB.out.trans (hb1.mono HB.out.size))
          clear hb1
          simp only[pairV]
          go_wp2_with fail
          refine(hcs _).mono ?_
          rintro e w2 ⟨rfl,rfl⟩
          go_wp2
          go_ret
          exact⟨by rw[HE2.out,endL_no _ _ _ _ _ _ HD.out HNO.out];rfl,HB1.out⟩
        · have h5:((r:Int)==58)=false:=by simp;omega
          have HNO:Hid (okName true isMore r=true):=Hd (by unfold okName noColon;rw[hf];simp;omega)
          clear hf
          go_wp2_with fail
          refine hd.mono ?_
          rintro e w1 ⟨rfl,hb1⟩
          have HB1:=Hd (HB.out.trans (hb1.mono HB.out.size))
          clear hb1
          simp only[pairV]
          go_wp2_with fail
          refine(hcs _).mono ?_
          rintro e w2 ⟨rfl,rfl⟩
          go_wp2
          go_roundg (n - (p+m))
          case measure=>omega
          case rel =>
           refine⟨p+m,K - 1,false,rfl,rfl,by omega,rfl,by omega,Hd ?_,HB1⟩
           have:=endL_yes (okName true isMore) (okName true isMore) (K - 1) _ r m HD.out HNO.out
           rw[show K - 1+1=K by omega,List.drop_drop]at this
           rw[HE2.out,this]
           show _=p+m+endL (okName true isMore) (okName true isMore) (K - 1) (l.drop (p+m))
           omega
  · obtain rfl:p=n:=by omega
    go_wp2
    go_ret
    refine⟨?_,HB.out⟩
    rw[HE.out,List.drop_of_length_le (by rw[hln.out];exact Nat.le_refl _),endL_none _ _ _ _ (by rfl)]
    rfl
theorem okTrue (f:Int→Bool):okName true f=noColon f:=by funext r;simp[okName]
theorem refRead_c (A:Option Addr)(n cap:Nat)(l:List UInt8)(at_:Nat)(w:World)(h:Byt w w.heap.size A n cap l)(hm:n≤50000)(hat:at_≤n) :
 Calls Tryz.prog 58 #[.slice A n cap,.int .i64 at_,.bool true] w fun e w'=>e= .returned (outV (plainOut l at_))∧Below w.heap.size w w':=by
 have hln:=h.length
 have hend:=refEnd_c true A n cap l at_ w h hm hat
 rw[okTrue,okTrue]at hend
 have hkl:at_+endL (noColon isStart) (noColon isMore) n (l.drop at_)≤n:=by
  have:=endL_le n (noColon isStart) (noColon isMore) (l.drop at_)
  rw[List.length_drop,hln]at this
  omega
 have HB:=Hd h
 have HE:Hid (endL (noColon isStart) (noColon isMore) l.length (l.drop at_)=endL (noColon isStart) (noColon isMore) n (l.drop at_)):=Hd (by rw[hln])
 clear h hln
 unfold plainOut
 simp only[HE.out]
 generalize endL (noColon isStart) (noColon isMore) n (l.drop at_)=k at *
 have hat': ¬ (n:Int)<(at_:Int):=by omega
 have HM:=Hd (And.intro hm hat)
 have HN:=Hd hend
 clear hm hend
 generalize hres:(if k=0 then ([],0,7) else if 1024<k then ([],0,11) else ((l.drop at_).take k,at_+k,0))=res
 have HR:=Hd hres
 clear hres
 go_enter Tryz.func58,Tryz.ntmps58
 go_wp2_with fail
 refine HN.out.mono ?_
 rintro e w1 ⟨rfl,hb1⟩
 have HB1:=Hd hb1
 clear hb1
 rcases(show k=0∨1024<k∨(0<k∧k≤1024)by omega)with h0|h0|h0
 · subst h0
   have hre:=HR.out
   simp only[if_true]at hre
   subst hre
   go_wp2
   go_ret3
   exact⟨rfl,HB1.out⟩
 · have hre:=HR.out
   rw[if_neg (by omega),if_pos h0]at hre
   subst hre
   have hne:(((at_+k:Nat):Int)==(at_:Int))=false:=by simp;omega
   have hne2:((at_:Int)+(k:Int)==(at_:Int))=false:=by simp;omega
   have h0':(1024:Int)<(k:Int):=by omega
   have hsb:((at_:Int)+(k:Int)) - (at_:Int)=(k:Int):=by omega
   have hw:IntKind.i64.wrap (k:Int)=(k:Int):=by rw[IntKind.wrap_i64];have:=HM.out;omega
   go_wp2
   go_ret3
   exact⟨rfl,HB1.out⟩
 · have hre:=HR.out
   rw[if_neg (by omega),if_neg (by omega)]at hre
   subst hre
   have hne:(((at_+k:Nat):Int)==(at_:Int))=false:=by simp;omega
   have hne2:((at_:Int)+(k:Int)==(at_:Int))=false:=by simp;omega
   have h0': ¬ (1024:Int)<(k:Int):=by omega
   have hsb:((at_:Int)+(k:Int)) - (at_:Int)=(k:Int):=by omega
   have hw:IntKind.i64.wrap (k:Int)=(k:Int):=by rw[IntKind.wrap_i64];have:=HM.out;omega
   have hy:=((HB.out.below HB1.out).drop hat).take (k:=k) (by omega)
   have hstr:=hy.str
   have hcap:=HB.out.le
   have hrf: ∀ w2:World,(Instr.slice 29 (.slice A n cap) (some (.int .i64 (at_:Int))) (some (.int .i64 ((at_:Int)+(k:Int)))) none).run Tryz.prog w2= .ok (.slice (cutA A cap at_) k (cap - at_)) w2:=fun w2=>by
    have:=run_fromTo (w:=w2) A n cap at_ (at_+k) (by omega) (by omega)
    rw[show at_+k - at_=k by omega,show((at_+k:Nat):Int)=(at_:Int)+(k:Int)by omega]at this
    exact this
   have HY:=Hd hy
   clear hy hcap h0
   go_wp2
   go_ret3
   exact⟨rfl,HB1.out⟩
theorem refEntity_range (A:Option Addr)(n cap:Nat)(at_:Int)(mark:Int)(w:World)(ha:at_<0∨(n:Int)<at_) :
 Calls Tryz.prog 35 #[.slice A n cap,.int .i64 at_,.int .u8 mark] w fun e w'=>e= .returned (outV ([],0,3))∧Below w.heap.size w w':=by
 by_cases h0:at_<0
 · have hd:decide (at_<0)=true:=by simpa using h0
   clear ha
   go_enter Tryz.func35,Tryz.ntmps35
   go_wp2
   go_ret3
   exact⟨rfl,Below.refl _ _⟩
 · have h1:(n:Int)<at_:=by omega
   clear ha
   go_enter Tryz.func35,Tryz.ntmps35
   go_wp2
   go_ret3
   exact⟨rfl,Below.refl _ _⟩
theorem refEntity_c (A:Option Addr)(n cap:Nat)(l:List UInt8)(at_:Nat)(mark:UInt8)(w:World)(h:Byt w w.heap.size A n cap l)(hm:n≤50000)(hat:at_≤n) :
 Calls Tryz.prog 35 #[.slice A n cap,.int .i64 at_,.int .u8 mark.toNat] w fun e w'=>e= .returned (outV (refOut mark l at_))∧Below w.heap.size w w':=by
 have hln:=h.length
 have hat': ¬ (n:Int)<(at_:Int):=by omega
 have hap:IntKind.i64.wrap ((at_:Int)+1)=(at_:Int)+1:=by rw[IntKind.wrap_i64];omega
 by_cases he:at_=n
 · subst he
   have hr:refOut mark l at_=([],0,7):=by unfold refOut;rw[List.getElem?_eq_none (by omega)]
   rw[hr]
   clear h hm hr hat hat'
   go_enter Tryz.func35,Tryz.ntmps35
   go_wp2
   go_ret3
   exact⟨rfl,Below.refl _ _⟩
 · have hlt:at_<n:=by omega
   obtain⟨b,o,c,rfl,hb,hc,hcell⟩:=h.cell hlt
   have hne:((at_:Int)==(n:Int))=false:=by simp;omega
   have hli:(at_:Int)<(n:Int):=by omega
   by_cases hcm:c=mark
   · subst hcm
     have hp:=refRead_c (some ⟨b,o,none⟩) n cap l (at_+1) w h (by omega) (by omega)
     rw[show ((at_+1:Nat):Int)=(at_:Int)+1 by omega]at hp
     have hle:=plainOut_le l (at_+1) (by omega)
     have HR:Hid (refOut c l at_=if (plainOut l (at_+1)).2.2≠0 then ([],0,(plainOut l (at_+1)).2.2)
      else match l[(plainOut l (at_+1)).2.1]? with
       |some d=>if d=59 then ((plainOut l (at_+1)).1,(plainOut l (at_+1)).2.1+1,0) else ([],0,7)
       |none=>([],0,7)):=Hd (by unfold refOut;rw[hc];exact if_pos rfl)
     have HH:=Hd (And.intro h (And.intro hm hln))
     clear hm hat hat' he hc hb
     generalize plainOut l (at_+1)=res at *
     obtain⟨s,k,f⟩:=res
     simp only at hle HR
     have HP:=Hd hp
     have hp':=hp
     unfold outV at hp' ⊢
     simp only at hp'
     clear hp
     have hcm:((c.toNat:Int) != (c.toNat:Int))=false:=by simp
     by_cases hf:f=0
     · subst hf
       have hle:=hle rfl
       by_cases hk:k=n
       · subst hk
         have hre:refOut c l at_=([],0,7):=by rw[HR.out,if_neg (by simp),List.getElem?_eq_none (by rw[HH.out.2.2];exact Nat.le_refl _)]
         rw[hre]
         clear hre h
         go_enter Tryz.func35,Tryz.ntmps35
         go_wp2_with fail
         refine hp'.mono ?_
         rintro e w1 ⟨rfl,hb1⟩
         have HB:=Hd hb1
         clear hb1 hcell hp'
         go_wp2
         go_ret3
         exact⟨rfl,HB.out⟩
       · obtain⟨b',o',d,e,hb',hd,hcd⟩:=h.cell (i:=k) (by omega)
         cases e
         have hkn:(k:Int)<(n:Int):=by omega
         have hkne:((k:Int)==(n:Int))=false:=by simp;omega
         have hre:refOut c l at_=if d=59 then (s,k+1,0) else ([],0,7):=by rw[HR.out,if_neg (by simp),hd]
         have hkp:IntKind.i64.wrap ((k:Int)+1)=(k:Int)+1:=by rw[IntKind.wrap_i64];have:=HH.out;omega
         by_cases hd59:d=59
         · subst hd59
           rw[hre,if_pos rfl]
           have hcd': ∀ w1,Below w.heap.size w w1→w1.cell? ⟨b,o+k,none⟩=some (.int .u8 59):=fun w1 hb1=>by rw[hb1.cell hb'];exact hcd
           have HCD:=Hd hcd'
           clear hre h hcd hcd' hd
           go_enter Tryz.func35,Tryz.ntmps35
           go_wp2_with fail
           refine hp'.mono ?_
           rintro e w1 ⟨rfl,hb1⟩
           have hcz:=HCD.out w1 hb1
           have HB:=Hd hb1
           clear hb1 hcell hp'
           go_wp2
           go_ret3
           exact⟨rfl,HB.out⟩
         · rw[hre,if_neg hd59]
           have hcd': ∀ w1,Below w.heap.size w w1→w1.cell? ⟨b,o+k,none⟩=some (.int .u8 d.toNat):=fun w1 hb1=>by rw[hb1.cell hb'];exact hcd
           have HCD:=Hd hcd'
           have hdn:((d.toNat:Int) != 59)=true:=by
            have:=toNat_eq d 59
            simp only[show ((59:UInt8).toNat:Int)=59 from rfl]at this
            simp[bne,this,hd59]
           generalize d.toNat=dn at *
           clear hre h hcd hcd' hd
           go_enter Tryz.func35,Tryz.ntmps35
           go_wp2_with fail
           refine hp'.mono ?_
           rintro e w1 ⟨rfl,hb1⟩
           have hcz:=HCD.out w1 hb1
           have HB:=Hd hb1
           clear hb1 hcell hp'
           go_wp2
           go_ret3
           exact⟨rfl,HB.out⟩
     · have hre:refOut c l at_=([],0,f):=by rw[HR.out,if_pos hf]
       rw[hre]
       have hfz:((f:Int) != 0)=true:=by simp;omega
       have hfz2:((f:Int)==0)=false:=by simp;omega
       clear hre h hle
       go_enter Tryz.func35,Tryz.ntmps35
       go_wp2_with fail
       refine hp'.mono ?_
       rintro e w1 ⟨rfl,hb1⟩
       have HB:=Hd hb1
       clear hb1 hcell hp'
       go_wp2
       go_ret3
       exact⟨rfl,HB.out⟩
   · have hr:refOut mark l at_=([],0,7):=by unfold refOut;rw[hc];simp[hcm]
     rw[hr]
     have hcm':((c.toNat:Int) != (mark.toNat:Int))=true:=by rw[bne,toNat_eq];simp[hcm]
     generalize c.toNat=cn at *
     generalize mark.toNat=mn at *
     clear h hm hr hat hat'
     go_enter Tryz.func35,Tryz.ntmps35
     go_wp2
     go_ret3
     exact⟨rfl,Below.refl _ _⟩
theorem crefEntity_call (A:Option Addr)(n cap:Nat)(at_:Int)(w:World)(v:List UInt8 × Nat × Nat)
 (h:Calls Tryz.prog 86 #[.slice A n cap,.int .i64 at_,.int .u8 38] w fun e w'=>e= .returned (outV v)∧Below w.heap.size w w') :
 Calls Tryz.prog 56 #[.slice A n cap,.int .i64 at_] w fun e w'=>e= .returned (outV v)∧Below w.heap.size w w':=by
 unfold outV at *
 go_enter Tryz.func56,Tryz.ntmps56
 go_wp2_with fail
 refine h.mono ?_
 rintro e w1 ⟨rfl,hb⟩
 have HB:=Hd hb
 clear hb h
 go_wp2
 go_ret3
 exact⟨rfl,HB.out⟩
def refAt (mark:UInt8)(l:List UInt8)(at_:Int):List UInt8 × Nat × Nat:=if at_<0∨(l.length:Int)<at_ then ([],0,3) else refOut mark l at_.toNat
theorem crefEntity_c (A:Option Addr)(n cap:Nat)(l:List UInt8)(at_:Int)(w:World)(h:Byt w w.heap.size A n cap l)(hF:Forms w)(hT:Tabs w)(hm:n≤50000) :
 Calls Tryz.prog 56 #[.slice A n cap,.int .i64 at_] w fun e w'=>e= .returned (outV (refAt 38 l at_))∧Below w.heap.size w w':=by
 refine crefEntity_call A n cap at_ w _ ?_
 have hl:=h.length
 unfold refAt
 rw[hl]
 by_cases ha:at_<0∨(n:Int)<at_
 · rw[if_pos ha];exact crefRead_range A n cap at_ 38 w ha
 · rw[if_neg ha]
   have:=crefRead_c A n cap l at_.toNat 38 w h hF hT hm (by omega)
   rwa [show ((at_.toNat:Nat):Int)=at_ by omega]at this
theorem refEntityAt_c (A:Option Addr)(n cap:Nat)(l:List UInt8)(at_:Int)(mark:UInt8)(w:World)(h:Byt w w.heap.size A n cap l)(hm:n≤50000) :
 Calls Tryz.prog 35 #[.slice A n cap,.int .i64 at_,.int .u8 mark.toNat] w fun e w'=>e= .returned (outV (refAt mark l at_))∧Below w.heap.size w w':=by
 have hl:=h.length
 unfold refAt
 rw[hl]
 by_cases ha:at_<0∨(n:Int)<at_
 · rw[if_pos ha];exact refEntity_range A n cap at_ mark.toNat w ha
 · rw[if_neg ha]
   have:=refEntity_c A n cap l at_.toNat mark w h hm (by omega)
   rwa [show ((at_.toNat:Nat):Int)=at_ by omega]at this
def digit (b:Int)(r:Int):Int :=
 if 48≤r∧r≤57 then r - 48 else if 97≤r∧r≤102 then (if b=16 then r - 87 else -1) else if 65≤r∧r≤70 then (if b=16 then r - 55 else -1) else -1
theorem digit10_c (r:Int)(w:World):Calls Tryz.prog 84 #[.int .i64 r,.int .i64 10] w fun e w'=>e= .returned (.int .i64 (digit 10 r))∧w=w':=by
 rcases(show r≤47∨(48≤r∧r≤57)∨(58≤r∧r≤64)∨(65≤r∧r≤70)∨(71≤r∧r≤96)∨(97≤r∧r≤102)∨103≤r by omega)with h|h|h|h|h|h|h
 · have e:digit 10 r= -1:=by unfold digit;(repeat' split) <;> omega
   rw[e]
   have a0:decide (48≤r)=false:=by simp;omega
   have a1:decide (r≤57)=true:=by simp;omega
   have a2:decide (97≤r)=false:=by simp;omega
   have a3:decide (r≤102)=true:=by simp;omega
   have a4:decide (65≤r)=false:=by simp;omega
   have a5:decide (r≤70)=true:=by simp;omega
   clear e h
   go_enter Tryz.func84,Tryz.ntmps84
   go_wp2
   go_ret
   exact⟨rfl,rfl⟩
 · have e:digit 10 r=r - 48:=by unfold digit;(repeat' split) <;> omega
   rw[e]
   have a0:decide (48≤r)=true:=by simp;omega
   have a1:decide (r≤57)=true:=by simp;omega
   have a2:decide (97≤r)=false:=by simp;omega
   have a3:decide (r≤102)=true:=by simp;omega
   have a4:decide (65≤r)=false:=by simp;omega
   have a5:decide (r≤70)=true:=by simp;omega
   have b0:decide (10≤r - 48)=false:=by simp;omega
   have c0: -1000≤r∧r≤1000:=by omega
   obtain⟨c1,c2⟩:=c0
   clear e h
   go_enter Tryz.func84,Tryz.ntmps84
   go_wp2
   go_ret
   exact⟨rfl,rfl⟩
 · have e:digit 10 r= -1:=by unfold digit;(repeat' split) <;> omega
   rw[e]
   have a0:decide (48≤r)=true:=by simp;omega
   have a1:decide (r≤57)=false:=by simp;omega
   have a2:decide (97≤r)=false:=by simp;omega
   have a3:decide (r≤102)=true:=by simp;omega
   have a4:decide (65≤r)=false:=by simp;omega
   have a5:decide (r≤70)=true:=by simp;omega
   clear e h
   go_enter Tryz.func84,Tryz.ntmps84
   go_wp2
   go_ret
   exact⟨rfl,rfl⟩
 · have e:digit 10 r= -1:=by unfold digit;(repeat' split) <;> omega
   rw[e]
   have a0:decide (48≤r)=true:=by simp;omega
   have a1:decide (r≤57)=false:=by simp;omega
   have a2:decide (97≤r)=false:=by simp;omega
   have a3:decide (r≤102)=true:=by simp;omega
   have a4:decide (65≤r)=true:=by simp;omega
   have a5:decide (r≤70)=true:=by simp;omega
   have b0:decide (10≤r - 65+10)=true:=by simp;omega
   have c0: -1000≤r∧r≤1000:=by omega
   obtain⟨c1,c2⟩:=c0
   clear e h
   go_enter Tryz.func84,Tryz.ntmps84
   go_wp2
   go_ret
   exact⟨rfl,rfl⟩
 · have e:digit 10 r= -1:=by unfold digit;(repeat' split) <;> omega
   rw[e]
   have a0:decide (48≤r)=true:=by simp;omega
   have a1:decide (r≤57)=false:=by simp;omega
   have a2:decide (97≤r)=false:=by simp;omega
   have a3:decide (r≤102)=true:=by simp;omega
   have a4:decide (65≤r)=true:=by simp;omega
   have a5:decide (r≤70)=false:=by simp;omega
   clear e h
   go_enter Tryz.func84,Tryz.ntmps84
   go_wp2
   go_ret
   exact⟨rfl,rfl⟩
 · have e:digit 10 r= -1:=by unfold digit;(repeat' split) <;> omega
   rw[e]
   have a0:decide (48≤r)=true:=by simp;omega
   have a1:decide (r≤57)=false:=by simp;omega
   have a2:decide (97≤r)=true:=by simp;omega
   have a3:decide (r≤102)=true:=by simp;omega
   have a4:decide (65≤r)=true:=by simp;omega
   have a5:decide (r≤70)=false:=by simp;omega
   have b0:decide (10≤r - 97+10)=true:=by simp;omega
   have c0: -1000≤r∧r≤1000:=by omega
   obtain⟨c1,c2⟩:=c0
   clear e h
   go_enter Tryz.func84,Tryz.ntmps84
   go_wp2
   go_ret
   exact⟨rfl,rfl⟩
 · have e:digit 10 r= -1:=by unfold digit;(repeat' split) <;> omega
   rw[e]
   have a0:decide (48≤r)=true:=by simp;omega
   have a1:decide (r≤57)=false:=by simp;omega
   have a2:decide (97≤r)=true:=by simp;omega
   have a3:decide (r≤102)=false:=by simp;omega
   have a4:decide (65≤r)=true:=by simp;omega
   have a5:decide (r≤70)=false:=by simp;omega
   clear e h
   go_enter Tryz.func84,Tryz.ntmps84
   go_wp2
   go_ret
   exact⟨rfl,rfl⟩
theorem digit16_c (r:Int)(w:World):Calls Tryz.prog 84 #[.int .i64 r,.int .i64 16] w fun e w'=>e= .returned (.int .i64 (digit 16 r))∧w=w':=by
 rcases(show r≤47∨(48≤r∧r≤57)∨(58≤r∧r≤64)∨(65≤r∧r≤70)∨(71≤r∧r≤96)∨(97≤r∧r≤102)∨103≤r by omega)with h|h|h|h|h|h|h
 · have e:digit 16 r= -1:=by unfold digit;(repeat' split) <;> omega
   rw[e]
   have a0:decide (48≤r)=false:=by simp;omega
   have a1:decide (r≤57)=true:=by simp;omega
   have a2:decide (97≤r)=false:=by simp;omega
   have a3:decide (r≤102)=true:=by simp;omega
   have a4:decide (65≤r)=false:=by simp;omega
   have a5:decide (r≤70)=true:=by simp;omega
   clear e h
   go_enter Tryz.func84,Tryz.ntmps84
   go_wp2
   go_ret
   exact⟨rfl,rfl⟩
 · have e:digit 16 r=r - 48:=by unfold digit;(repeat' split) <;> omega
   rw[e]
   have a0:decide (48≤r)=true:=by simp;omega
   have a1:decide (r≤57)=true:=by simp;omega
   have a2:decide (97≤r)=false:=by simp;omega
   have a3:decide (r≤102)=true:=by simp;omega
   have a4:decide (65≤r)=false:=by simp;omega
   have a5:decide (r≤70)=true:=by simp;omega
   have b0:decide (16≤r - 48)=false:=by simp;omega
   have c0: -1000≤r∧r≤1000:=by omega
   obtain⟨c1,c2⟩:=c0
   clear e h
   go_enter Tryz.func84,Tryz.ntmps84
   go_wp2
   go_ret
   exact⟨rfl,rfl⟩
 · have e:digit 16 r= -1:=by unfold digit;(repeat' split) <;> omega
   rw[e]
   have a0:decide (48≤r)=true:=by simp;omega
   have a1:decide (r≤57)=false:=by simp;omega
   have a2:decide (97≤r)=false:=by simp;omega
   have a3:decide (r≤102)=true:=by simp;omega
   have a4:decide (65≤r)=false:=by simp;omega
   have a5:decide (r≤70)=true:=by simp;omega
   clear e h
   go_enter Tryz.func84,Tryz.ntmps84
   go_wp2
   go_ret
   exact⟨rfl,rfl⟩
 · have e:digit 16 r=r - 55:=by unfold digit;(repeat' split) <;> omega
   rw[e]
   have a0:decide (48≤r)=true:=by simp;omega
   have a1:decide (r≤57)=false:=by simp;omega
   have a2:decide (97≤r)=false:=by simp;omega
   have a3:decide (r≤102)=true:=by simp;omega
   have a4:decide (65≤r)=true:=by simp;omega
   have a5:decide (r≤70)=true:=by simp;omega
   have b0:decide (16≤r - 65+10)=false:=by simp;omega
   have c0: -1000≤r∧r≤1000:=by omega
   obtain⟨c1,c2⟩:=c0
   clear e h
   go_enter Tryz.func84,Tryz.ntmps84
   go_wp2
   go_ret
   exact⟨by rw[show r - 55=r - 65+10 by omega];rfl,rfl⟩
 · have e:digit 16 r= -1:=by unfold digit;(repeat' split) <;> omega
   rw[e]
   have a0:decide (48≤r)=true:=by simp;omega
   have a1:decide (r≤57)=false:=by simp;omega
   have a2:decide (97≤r)=false:=by simp;omega
   have a3:decide (r≤102)=true:=by simp;omega
   have a4:decide (65≤r)=true:=by simp;omega
   have a5:decide (r≤70)=false:=by simp;omega
   clear e h
   go_enter Tryz.func84,Tryz.ntmps84
   go_wp2
   go_ret
   exact⟨rfl,rfl⟩
 · have e:digit 16 r=r - 87:=by unfold digit;(repeat' split) <;> omega
   rw[e]
   have a0:decide (48≤r)=true:=by simp;omega
   have a1:decide (r≤57)=false:=by simp;omega
   have a2:decide (97≤r)=true:=by simp;omega
   have a3:decide (r≤102)=true:=by simp;omega
   have a4:decide (65≤r)=true:=by simp;omega
   have a5:decide (r≤70)=false:=by simp;omega
   have b0:decide (16≤r - 97+10)=false:=by simp;omega
   have c0: -1000≤r∧r≤1000:=by omega
   obtain⟨c1,c2⟩:=c0
   clear e h
   go_enter Tryz.func84,Tryz.ntmps84
   go_wp2
   go_ret
   exact⟨by rw[show r - 87=r - 97+10 by omega];rfl,rfl⟩
 · have e:digit 16 r= -1:=by unfold digit;(repeat' split) <;> omega
   rw[e]
   have a0:decide (48≤r)=true:=by simp;omega
   have a1:decide (r≤57)=false:=by simp;omega
   have a2:decide (97≤r)=true:=by simp;omega
   have a3:decide (r≤102)=false:=by simp;omega
   have a4:decide (65≤r)=true:=by simp;omega
   have a5:decide (r≤70)=false:=by simp;omega
   clear e h
   go_enter Tryz.func84,Tryz.ntmps84
   go_wp2
   go_ret
   exact⟨rfl,rfl⟩
end Go.Proofs.YtbafljibbabnaaaGreatDoor
