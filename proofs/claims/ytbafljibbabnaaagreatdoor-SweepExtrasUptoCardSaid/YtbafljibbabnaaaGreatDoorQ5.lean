/- Texts of ours, joined: Cref1, Ref1, Ref2, Ref3, Ref4. -/
import Derived.Test.YtbafljibbabnaaaGreatDoorQ4
namespace Go.Proofs.YtbafljibbabnaaaGreatDoor
open Go.ChangeShapes Go.WideShapes Go.ChangeAt Go.RowKit
set_option linter.unusedVariables false
set_option maxRecDepth 100000
set_option maxHeartbeats 32000000
def refOut (mark:UInt8)(l:List UInt8)(at_:Nat):List UInt8 × Nat × Nat :=
 match l[at_]? with
 |none=>([],0,7)
 |some c=>if c=mark then
   (if (plainOut l (at_+1)).2.2≠0 then ([],0,(plainOut l (at_+1)).2.2)
    else match l[(plainOut l (at_+1)).2.1]? with
     |some d=>if d=59 then ((plainOut l (at_+1)).1,(plainOut l (at_+1)).2.1+1,0) else ([],0,7)
     |none=>([],0,7))
  else ([],0,7)
theorem plainOut_le (l:List UInt8)(k:Nat)(hk:k≤l.length)(h:(plainOut l k).2.2=0):k≤(plainOut l k).2.1∧(plainOut l k).2.1≤l.length:=by
 have:=endL_le l.length (noColon isStart) (noColon isMore) (l.drop k)
 rw[List.length_drop]at this
 unfold plainOut at *
 simp only at *
 split at h
 · simp at h
 · rename_i h0
   split at h
   · simp at h
   · rename_i h1
     rw[if_neg h0,if_neg h1]
     simp only
     omega
theorem crefRead_range (A:Option Addr)(n cap:Nat)(at_:Int)(mark:Int)(w:World)(ha:at_<0∨(n:Int)<at_) :
 Calls Tryz.prog 86 #[.slice A n cap,.int .i64 at_,.int .u8 mark] w fun e w'=>e= .returned (outV ([],0,3))∧Below w.heap.size w w':=by
 by_cases h0:at_<0
 · have hd:decide (at_<0)=true:=by simpa using h0
   clear ha
   go_enter Tryz.func86,Tryz.ntmps86
   go_wp2
   go_ret3
   exact⟨rfl,Below.refl _ _⟩
 · have h1:(n:Int)<at_:=by omega
   clear ha
   go_enter Tryz.func86,Tryz.ntmps86
   go_wp2
   go_ret3
   exact⟨rfl,Below.refl _ _⟩
theorem crefRead_c (A:Option Addr)(n cap:Nat)(l:List UInt8)(at_:Nat)(mark:UInt8)(w:World)(h:Byt w w.heap.size A n cap l)(hF:Forms w)(hT:Tabs w)(hm:n≤50000)(hat:at_≤n) :
 Calls Tryz.prog 86 #[.slice A n cap,.int .i64 at_,.int .u8 mark.toNat] w fun e w'=>e= .returned (outV (refOut mark l at_))∧Below w.heap.size w w':=by
 have hln:=h.length
 have hat': ¬ (n:Int)<(at_:Int):=by omega
 have hap:IntKind.i64.wrap ((at_:Int)+1)=(at_:Int)+1:=by rw[IntKind.wrap_i64];omega
 by_cases he:at_=n
 · subst he
   have hr:refOut mark l at_=([],0,7):=by unfold refOut;rw[List.getElem?_eq_none (by omega)]
   rw[hr]
   clear h hF hT hm hr hat hat'
   go_enter Tryz.func86,Tryz.ntmps86
   go_wp2
   go_ret3
   exact⟨rfl,Below.refl _ _⟩
 · have hlt:at_<n:=by omega
   obtain⟨b,o,c,rfl,hb,hc,hcell⟩:=h.cell hlt
   have hne:((at_:Int)==(n:Int))=false:=by simp;omega
   have hli:(at_:Int)<(n:Int):=by omega
   by_cases hcm:c=mark
   · subst hcm
     have hp:=plain_c (some ⟨b,o,none⟩) n cap l (at_+1) w h hF hT.n (by omega) (by omega)
     rw[show ((at_+1:Nat):Int)=(at_:Int)+1 by omega]at hp
     have hle:=plainOut_le l (at_+1) (by omega)
     have HR:Hid (refOut c l at_=if (plainOut l (at_+1)).2.2≠0 then ([],0,(plainOut l (at_+1)).2.2)
      else match l[(plainOut l (at_+1)).2.1]? with
       |some d=>if d=59 then ((plainOut l (at_+1)).1,(plainOut l (at_+1)).2.1+1,0) else ([],0,7)
       |none=>([],0,7)):=Hd (by unfold refOut;rw[hc];simp)
     have HH:=Hd (And.intro h (And.intro hm hln))
     clear hF hT hm hat hat' he hc hb
     generalize plainOut l (at_+1)=res at *
     obtain⟨s,k,f⟩:=res
     simp only at hle HR
     have HP:=Hd hp
     have hp':=hp
     unfold outV at hp' ⊢
     simp only at hp'
     clear hp
     have hcm:((c.toNat:Int) != (c.toNat:Int))=false:=by simp
     by_cases hf:f=0
     · subst hf
       have hle:=hle rfl
       by_cases hk:k=n
       · subst hk
         have hre:refOut c l at_=([],0,7):=by rw[HR.out,if_neg (by simp),List.getElem?_eq_none (by rw[HH.out.2.2];exact Nat.le_refl _)]
         rw[hre]
         clear hre h
         go_enter Tryz.func86,Tryz.ntmps86
         go_wp2_with fail
         refine hp'.mono ?_
         rintro e w1 ⟨rfl,hb1⟩
         have HB:=Hd hb1
         clear hb1 hcell hp'
         go_wp2
         go_ret3
         exact⟨rfl,HB.out⟩
       · obtain⟨b',o',d,e,hb',hd,hcd⟩:=h.cell (i:=k) (by omega)
         cases e
         have hkn:(k:Int)<(n:Int):=by omega
         have hkne:((k:Int)==(n:Int))=false:=by simp;omega
         have hre:refOut c l at_=if d=59 then (s,k+1,0) else ([],0,7):=by rw[HR.out,if_neg (by simp),hd]
         have hkp:IntKind.i64.wrap ((k:Int)+1)=(k:Int)+1:=by rw[IntKind.wrap_i64];have:=HH.out;omega
         by_cases hd59:d=59
         · subst hd59
           rw[hre,if_pos rfl]
           have hcd': ∀ w1,Below w.heap.size w w1→w1.cell? ⟨b,o+k,none⟩=some (.int .u8 59):=fun w1 hb1=>by rw[hb1.cell hb'];exact hcd
           have HCD:=Hd hcd'
           clear hre h hcd hcd' hd
           go_enter Tryz.func86,Tryz.ntmps86
           go_wp2_with fail
           refine hp'.mono ?_
           rintro e w1 ⟨rfl,hb1⟩
           have hcz:=HCD.out w1 hb1
           have HB:=Hd hb1
           clear hb1 hcell hp'
           go_wp2
           go_ret3
           exact⟨rfl,HB.out⟩
         · rw[hre,if_neg hd59]
           have hcd': ∀ w1,Below w.heap.size w w1→w1.cell? ⟨b,o+k,none⟩=some (.int .u8 d.toNat):=fun w1 hb1=>by rw[hb1.cell hb'];exact hcd
           have HCD:=Hd hcd'
           have hdn:((d.toNat:Int) != 59)=true:=by
            have:=toNat_eq d 59
            simp only[show ((59:UInt8).toNat:Int)=59 from rfl]at this
            simp[bne,this,hd59]
           generalize d.toNat=dn at *
           clear hre h hcd hcd' hd
           go_enter Tryz.func86,Tryz.ntmps86
           go_wp2_with fail
           refine hp'.mono ?_
           rintro e w1 ⟨rfl,hb1⟩
           have hcz:=HCD.out w1 hb1
           have HB:=Hd hb1
           clear hb1 hcell hp'
           go_wp2
           go_ret3
           exact⟨rfl,HB.out⟩
     · have hre:refOut c l at_=([],0,f):=by rw[HR.out,if_pos hf]
       rw[hre]
       have hfz:((f:Int) != 0)=true:=by simp;omega
       have hfz2:((f:Int)==0)=false:=by simp;omega
       clear hre h hle
       go_enter Tryz.func86,Tryz.ntmps86
       go_wp2_with fail
       refine hp'.mono ?_
       rintro e w1 ⟨rfl,hb1⟩
       have HB:=Hd hb1
       clear hb1 hcell hp'
       go_wp2
       go_ret3
       exact⟨rfl,HB.out⟩
   · have hr:refOut mark l at_=([],0,7):=by unfold refOut;rw[hc];simp[hcm]
     rw[hr]
     have hcm':((c.toNat:Int) != (mark.toNat:Int))=true:=by rw[bne,toNat_eq];simp[hcm]
     generalize c.toNat=cn at *
     generalize mark.toNat=mn at *
     clear h hF hT hm hr hat hat'
     go_enter Tryz.func86,Tryz.ntmps86
     go_wp2
     go_ret3
     exact⟨rfl,Below.refl _ _⟩
theorem isDoc_iff (r:Int):isDoc r=true ↔ ((9≤r∧r≤10)∨(13≤r∧r≤13)∨(32≤r∧r≤55295)∨(57344≤r∧r≤65533)∨(65536≤r∧r≤1114111)):=by
 simp[isDoc,inTab,tabDocs]
theorem isStart_iff (r:Int):isStart r=true ↔ ((58≤r∧r≤58)∨(65≤r∧r≤90)∨(95≤r∧r≤95)∨(97≤r∧r≤122)∨(192≤r∧r≤214)∨(216≤r∧r≤246)∨(248≤r∧r≤767)∨(880≤r∧r≤893)∨(895≤r∧r≤8191)∨(8204≤r∧r≤8205)∨(8304≤r∧r≤8591)∨(11264≤r∧r≤12271)∨(12289≤r∧r≤55295)∨(63744≤r∧r≤64975)∨(65008≤r∧r≤65533)∨(65536≤r∧r≤983039)):=by
 simp[isStart,inTab,tabStarts]
def isMoreOnly (r:Int):Bool:=inTab tabMore r
theorem isMoreOnly_iff (r:Int):isMoreOnly r=true ↔ ((45≤r∧r≤46)∨(48≤r∧r≤57)∨(183≤r∧r≤183)∨(768≤r∧r≤879)∨(8255≤r∧r≤8256)):=by
 simp[isMoreOnly,inTab,tabMore]
theorem refChar_c (r:Int)(w:World):Calls Tryz.prog 63 #[.int .i64 r] w fun e w'=>e= .returned (.bool (isDoc r))∧w=w':=by
 rcases(show r≤8∨r=9∨r=10∨(11≤r∧r≤12)∨r=13∨(14≤r∧r≤31)∨(32≤r∧r≤55295)∨(55296≤r∧r≤57343)∨(57344≤r∧r≤65533)∨(65534≤r∧r≤65535)∨(65536≤r∧r≤1114111)∨1114112≤r by omega)with h|h|h|h|h|h|h|h|h|h|h|h
 all_goals
  first
   |(have e:isDoc r=false:=by rw[Bool.eq_false_iff,Ne,isDoc_iff];omega
     rw[e])
   |(have e:isDoc r=true:=by rw[isDoc_iff];omega
     rw[e])
  first|(have a0:(r==9)=true:=beq_iff_eq.2 (by omega))|(have a0:(r==9)=false:=beq_eq_false_iff_ne.2 (by omega))
  first|(have a1:(r==10)=true:=beq_iff_eq.2 (by omega))|(have a1:(r==10)=false:=beq_eq_false_iff_ne.2 (by omega))
  first|(have a2:(r==13)=true:=beq_iff_eq.2 (by omega))|(have a2:(r==13)=false:=beq_eq_false_iff_ne.2 (by omega))
  first|(have a3:decide (32≤r)=true:=decide_eq_true (by omega))|(have a3:decide (32≤r)=false:=decide_eq_false (by omega))
  first|(have a4:decide (r≤55295)=true:=decide_eq_true (by omega))|(have a4:decide (r≤55295)=false:=decide_eq_false (by omega))
  first|(have a5:decide (57344≤r)=true:=decide_eq_true (by omega))|(have a5:decide (57344≤r)=false:=decide_eq_false (by omega))
  first|(have a6:decide (r≤65533)=true:=decide_eq_true (by omega))|(have a6:decide (r≤65533)=false:=decide_eq_false (by omega))
  first|(have a7:decide (65536≤r)=true:=decide_eq_true (by omega))|(have a7:decide (65536≤r)=false:=decide_eq_false (by omega))
  first|(have a8:decide (r≤1114111)=true:=decide_eq_true (by omega))|(have a8:decide (r≤1114111)=false:=decide_eq_false (by omega))
  clear e h
  go_enter Tryz.func63,Tryz.ntmps63
  go_wp2
  go_ret
  exact⟨rfl,rfl⟩
theorem refStart_c (r:Int)(w:World):Calls Tryz.prog 122 #[.int .i64 r] w fun e w'=>e= .returned (.bool (isStart r))∧w=w':=by
 rcases(show r≤57∨r=58∨(59≤r∧r≤64)∨(65≤r∧r≤90)∨(91≤r∧r≤94)∨r=95∨r=96∨(97≤r∧r≤122)∨(123≤r∧r≤127)∨(128≤r∧r≤191)∨(192≤r∧r≤214)∨r=215∨(216≤r∧r≤246)∨r=247∨(248≤r∧r≤767)∨(768≤r∧r≤879)∨(880≤r∧r≤893)∨r=894∨(895≤r∧r≤8191)∨(8192≤r∧r≤8203)∨r=8204∨r=8205∨(8206≤r∧r≤8303)∨(8304≤r∧r≤8591)∨(8592≤r∧r≤11263)∨(11264≤r∧r≤12271)∨(12272≤r∧r≤12288)∨(12289≤r∧r≤55295)∨(55296≤r∧r≤63743)∨(63744≤r∧r≤64975)∨(64976≤r∧r≤65007)∨(65008≤r∧r≤65533)∨(65534≤r∧r≤65535)∨(65536≤r∧r≤983039)∨983040≤r by omega)with h|h|h|h|h|h|h|h|h|h|h|h|h|h|h|h|h|h|h|h|h|h|h|h|h|h|h|h|h|h|h|h|h|h|h
 all_goals
  first
   |(have e:isStart r=false:=by rw[Bool.eq_false_iff,Ne,isStart_iff];omega
     rw[e])
   |(have e:isStart r=true:=by rw[isStart_iff];omega
     rw[e])
  first|(have a0:decide (r<128)=true:=decide_eq_true (by omega))|(have a0:decide (r<128)=false:=decide_eq_false (by omega))
  first|(have a1:(r==58)=true:=beq_iff_eq.2 (by omega))|(have a1:(r==58)=false:=beq_eq_false_iff_ne.2 (by omega))
  first|(have a2:decide (65≤r)=true:=decide_eq_true (by omega))|(have a2:decide (65≤r)=false:=decide_eq_false (by omega))
  first|(have a3:decide (r≤90)=true:=decide_eq_true (by omega))|(have a3:decide (r≤90)=false:=decide_eq_false (by omega))
  first|(have a4:(r==95)=true:=beq_iff_eq.2 (by omega))|(have a4:(r==95)=false:=beq_eq_false_iff_ne.2 (by omega))
  first|(have a5:decide (97≤r)=true:=decide_eq_true (by omega))|(have a5:decide (97≤r)=false:=decide_eq_false (by omega))
  first|(have a6:decide (r≤122)=true:=decide_eq_true (by omega))|(have a6:decide (r≤122)=false:=decide_eq_false (by omega))
  first|(have a7:decide (r<8192)=true:=decide_eq_true (by omega))|(have a7:decide (r<8192)=false:=decide_eq_false (by omega))
  first|(have a8:decide (192≤r)=true:=decide_eq_true (by omega))|(have a8:decide (192≤r)=false:=decide_eq_false (by omega))
  first|(have a9:(r != 215)=true:=bne_iff_ne.2 (by omega))|(have a9:(r != 215)=false:=by rw[bne_eq_false_iff_eq];omega)
  first|(have a10:(r != 247)=true:=bne_iff_ne.2 (by omega))|(have a10:(r != 247)=false:=by rw[bne_eq_false_iff_eq];omega)
  first|(have a11:decide (r≤767)=true:=decide_eq_true (by omega))|(have a11:decide (r≤767)=false:=decide_eq_false (by omega))
  first|(have a12:decide (880≤r)=true:=decide_eq_true (by omega))|(have a12:decide (880≤r)=false:=decide_eq_false (by omega))
  first|(have a13:(r != 894)=true:=bne_iff_ne.2 (by omega))|(have a13:(r != 894)=false:=by rw[bne_eq_false_iff_eq];omega)
  first|(have a14:(r==8204)=true:=beq_iff_eq.2 (by omega))|(have a14:(r==8204)=false:=beq_eq_false_iff_ne.2 (by omega))
  first|(have a15:(r==8205)=true:=beq_iff_eq.2 (by omega))|(have a15:(r==8205)=false:=beq_eq_false_iff_ne.2 (by omega))
  first|(have a16:decide (8304≤r)=true:=decide_eq_true (by omega))|(have a16:decide (8304≤r)=false:=decide_eq_false (by omega))
  first|(have a17:decide (r≤8591)=true:=decide_eq_true (by omega))|(have a17:decide (r≤8591)=false:=decide_eq_false (by omega))
  first|(have a18:decide (11264≤r)=true:=decide_eq_true (by omega))|(have a18:decide (11264≤r)=false:=decide_eq_false (by omega))
  first|(have a19:decide (r≤12271)=true:=decide_eq_true (by omega))|(have a19:decide (r≤12271)=false:=decide_eq_false (by omega))
  first|(have a20:decide (12289≤r)=true:=decide_eq_true (by omega))|(have a20:decide (12289≤r)=false:=decide_eq_false (by omega))
  first|(have a21:decide (r≤55295)=true:=decide_eq_true (by omega))|(have a21:decide (r≤55295)=false:=decide_eq_false (by omega))
  first|(have a22:decide (63744≤r)=true:=decide_eq_true (by omega))|(have a22:decide (63744≤r)=false:=decide_eq_false (by omega))
  first|(have a23:decide (r≤64975)=true:=decide_eq_true (by omega))|(have a23:decide (r≤64975)=false:=decide_eq_false (by omega))
  first|(have a24:decide (65008≤r)=true:=decide_eq_true (by omega))|(have a24:decide (65008≤r)=false:=decide_eq_false (by omega))
  first|(have a25:decide (r≤65533)=true:=decide_eq_true (by omega))|(have a25:decide (r≤65533)=false:=decide_eq_false (by omega))
  first|(have a26:decide (65536≤r)=true:=decide_eq_true (by omega))|(have a26:decide (65536≤r)=false:=decide_eq_false (by omega))
  first|(have a27:decide (r≤983039)=true:=decide_eq_true (by omega))|(have a27:decide (r≤983039)=false:=decide_eq_false (by omega))
  clear e h
  go_enter Tryz.func122,Tryz.ntmps122
  go_wp2
  go_ret
  exact⟨rfl,rfl⟩
def restOf (l:List UInt8)(k:Nat):Int:=match l[k]? with
 |some c=>if 128≤c.toNat∧c.toNat<192 then (c.toNat:Int) - 128 else -1
 |none=> -1
theorem rest_c (A:Option Addr)(n cap:Nat)(l:List UInt8)(k:Nat)(w:World)(B:Nat)(h:Byt w B A n cap l) :
 Calls Tryz.prog 147 #[.slice A n cap,.int .i64 k] w fun e w'=>e= .returned (.int .i64 (restOf l k))∧w=w':=by
 by_cases hk:k<n
 · obtain⟨b,o,c,rfl,hb,hc,hcell⟩:=h.cell hk
   have hkn:(k:Int)<(n:Int):=by omega
   have hkd:decide ((n:Int)≤(k:Int))=false:=by simp;omega
   have hcl:=c.toNat_lt
   unfold restOf
   rw[hc]
   simp only
   clear hc h hk
   generalize c.toNat=x at *
   rcases(show x<128∨(128≤x∧x<192)∨191<x by omega)with h1|h1|h1
   · rw[if_neg (by omega)]
     have a1:decide ((x:Int)<128)=true:=by simp;omega
     go_enter Tryz.func147,Tryz.ntmps147
     go_wp2
     go_ret
     exact⟨rfl,rfl⟩
   · rw[if_pos h1]
     have a1:decide ((x:Int)<128)=false:=by simp;omega
     have a2:decide (191<(x:Int))=false:=by simp;omega
     go_enter Tryz.func147,Tryz.ntmps147
     go_wp2
     go_ret
     exact⟨rfl,rfl⟩
   · rw[if_neg (by omega)]
     have a1:decide ((x:Int)<128)=false:=by simp;omega
     have a2:decide (191<(x:Int))=true:=by simp;omega
     go_enter Tryz.func147,Tryz.ntmps147
     go_wp2
     go_ret
     exact⟨rfl,rfl⟩
 · have hr:restOf l k= -1:=by unfold restOf;rw[List.getElem?_eq_none (by rw[h.length];omega)]
   have hkd:decide ((n:Int)≤(k:Int))=true:=by simp;omega
   have hkd2:decide (n≤k)=true:=by simp;omega
   have hkd3:n≤k:=by omega
   rw[hr]
   clear h hk hr
   go_enter Tryz.func147,Tryz.ntmps147
   go_wp2
   go_ret
   exact⟨rfl,rfl⟩
theorem isR_iff (r:Int):isR r=true ↔ ((0≤r∧r≤55295)∨(57344≤r∧r≤1114111)):=by
 simp[isR];omega
theorem ref02Is_c (r:Int)(w:World):Calls Tryz.prog 148 #[.int .i64 r] w fun e w'=>e= .returned (.bool (isR r))∧w=w':=by
 rcases(show r≤ -1∨(0≤r∧r≤55295)∨(55296≤r∧r≤57343)∨(57344≤r∧r≤1114111)∨1114112≤r by omega)with h|h|h|h|h
 · have e:isR r=false:=by
    rw[Bool.eq_false_iff,Ne,isR_iff];omega
   rw[e]
   have a0:decide (0≤r)=false:=by first|(simp;omega)|(simp[h];done)
   have a1:decide (r≤1114111)=true:=by first|(simp;omega)|(simp[h];done)
   have a2:decide (55296≤r)=false:=by first|(simp;omega)|(simp[h];done)
   have a3:decide (r≤57343)=true:=by first|(simp;omega)|(simp[h];done)
   clear e h
   go_enter Tryz.func148,Tryz.ntmps148
   go_wp2
   go_ret
   exact⟨rfl,rfl⟩
 · have e:isR r=true:=by
    rw[isR_iff];omega
   rw[e]
   have a0:decide (0≤r)=true:=by first|(simp;omega)|(simp[h];done)
   have a1:decide (r≤1114111)=true:=by first|(simp;omega)|(simp[h];done)
   have a2:decide (55296≤r)=false:=by first|(simp;omega)|(simp[h];done)
   have a3:decide (r≤57343)=true:=by first|(simp;omega)|(simp[h];done)
   clear e h
   go_enter Tryz.func148,Tryz.ntmps148
   go_wp2
   go_ret
   exact⟨rfl,rfl⟩
 · have e:isR r=false:=by
    rw[Bool.eq_false_iff,Ne,isR_iff];omega
   rw[e]
   have a0:decide (0≤r)=true:=by first|(simp;omega)|(simp[h];done)
   have a1:decide (r≤1114111)=true:=by first|(simp;omega)|(simp[h];done)
   have a2:decide (55296≤r)=true:=by first|(simp;omega)|(simp[h];done)
   have a3:decide (r≤57343)=true:=by first|(simp;omega)|(simp[h];done)
   clear e h
   go_enter Tryz.func148,Tryz.ntmps148
   go_wp2
   go_ret
   exact⟨rfl,rfl⟩
 · have e:isR r=true:=by
    rw[isR_iff];omega
   rw[e]
   have a0:decide (0≤r)=true:=by first|(simp;omega)|(simp[h];done)
   have a1:decide (r≤1114111)=true:=by first|(simp;omega)|(simp[h];done)
   have a2:decide (55296≤r)=true:=by first|(simp;omega)|(simp[h];done)
   have a3:decide (r≤57343)=false:=by first|(simp;omega)|(simp[h];done)
   clear e h
   go_enter Tryz.func148,Tryz.ntmps148
   go_wp2
   go_ret
   exact⟨rfl,rfl⟩
 · have e:isR r=false:=by
    rw[Bool.eq_false_iff,Ne,isR_iff];omega
   rw[e]
   have a0:decide (0≤r)=true:=by first|(simp;omega)|(simp[h];done)
   have a1:decide (r≤1114111)=false:=by first|(simp;omega)|(simp[h];done)
   have a2:decide (55296≤r)=true:=by first|(simp;omega)|(simp[h];done)
   have a3:decide (r≤57343)=false:=by first|(simp;omega)|(simp[h];done)
   clear e h
   go_enter Tryz.func148,Tryz.ntmps148
   go_wp2
   go_ret
   exact⟨rfl,rfl⟩
def bytesN (r:Int):Nat:=if r<128 then 1 else if r<2048 then 2 else if r<65536 then 3 else 4
theorem bytes_c (r:Int)(w:World)(h0:0≤r)(h1:r≤1114111):Calls Tryz.prog 149 #[.int .i64 r] w fun e w'=>(∃ a,e= .returned (.slice (some a) (bytesN r) (bytesN r)))∧Below w.heap.size w w':=by
 have hal: ∀ o:Obj,Hid (Below w.heap.size w (w.alloc o)):=fun o=>Hd (Below.alloc (Below.refl _ _) (Nat.le_refl _) o)
 rcases(show r≤127∨(128≤r∧r≤2047)∨(2048≤r∧r≤65535)∨65536≤r by omega)with h|h|h|h
 · have e:bytesN r=1:=by unfold bytesN;rw[if_pos (by omega)]
   have a1:decide (r<128)=true:=by simp;omega
   rw[e]
   go_enter Tryz.func149,Tryz.ntmps149
   go_wp2
   go_ret
   exact⟨⟨_,rfl⟩,(hal _).out⟩
 · have e:bytesN r=2:=by unfold bytesN;rw[if_neg (by omega),if_pos (by omega)]
   have a1:decide (r<128)=false:=by simp;omega
   have a2:decide (r<2048)=true:=by simp;omega
   rw[e]
   go_enter Tryz.func149,Tryz.ntmps149
   go_wp2
   go_ret
   exact⟨⟨_,rfl⟩,(hal _).out⟩
 · have e:bytesN r=3:=by unfold bytesN;rw[if_neg (by omega),if_neg (by omega),if_pos (by omega)]
   have a1:decide (r<128)=false:=by simp;omega
   have a2:decide (r<2048)=false:=by simp;omega
   have a3:decide (r<65536)=true:=by simp;omega
   rw[e]
   go_enter Tryz.func149,Tryz.ntmps149
   go_wp2
   go_ret
   exact⟨⟨_,rfl⟩,(hal _).out⟩
 · have e:bytesN r=4:=by unfold bytesN;rw[if_neg (by omega),if_neg (by omega),if_neg (by omega)]
   have a1:decide (r<128)=false:=by simp;omega
   have a2:decide (r<2048)=false:=by simp;omega
   have a3:decide (r<65536)=false:=by simp;omega
   rw[e]
   go_enter Tryz.func149,Tryz.ntmps149
   go_wp2
   go_ret
   exact⟨⟨_,rfl⟩,(hal _).out⟩
theorem restOf_some (l:List UInt8)(k:Nat)(h:0≤restOf l k): ∃ d,l[k]? =some d∧128≤d.toNat∧d.toNat<192∧restOf l k=(d.toNat:Int) - 128:=by
 unfold restOf at *
 split at h
 · rename_i c hc
   split at h
   · rename_i hh
     exact⟨c,hc,hh.1,hh.2,by rw[if_pos hh]⟩
   · omega
 · omega
theorem restOf_lt (l:List UInt8)(k:Nat):restOf l k<64∧ -1≤restOf l k:=by
 unfold restOf
 split
 · split <;> omega
 · omega
theorem cont_step (l:List UInt8)(k:Nat)(N m:Nat):cont m ((l.drop k).take (N+1))=if 0≤restOf l k then cont (m*64+(restOf l k).toNat) ((l.drop (k+1)).take N) else (if k<l.length then none else some m):=by
 by_cases hk:k<l.length
 · rw[List.drop_eq_getElem_cons hk,List.take_succ_cons]
   simp only[cont]
   have hr:restOf l k=if 128≤l[k].toNat∧l[k].toNat<192 then (l[k].toNat:Int) - 128 else -1:=by
    unfold restOf;rw[List.getElem?_eq_getElem hk]
   by_cases hc:128≤l[k].toNat∧l[k].toNat<192
   · rw[if_pos hc]at hr ⊢
     have e:((l[k].toNat:Int) - 128).toNat=l[k].toNat - 128:=by omega
     rw[if_pos (by omega),hr,e]
   · rw[if_neg hc]at hr ⊢
     rw[if_neg (by omega),if_pos hk]
 · have hr:restOf l k= -1:=by unfold restOf;rw[List.getElem?_eq_none (by omega)]
   rw[List.drop_of_length_le (by omega),hr]
   simp[cont,hk]
theorem cont_take0 (l:List UInt8)(k m:Nat):cont m ((l.drop k).take 0)=some m:=rfl
theorem rest_in (l:List UInt8)(k:Nat)(h:0≤restOf l k):k<l.length:=by
 obtain⟨d,hd,_⟩:=restOf_some l k h
 rcases Nat.lt_or_ge k l.length with h|h
 · exact h
 · rw[List.getElem?_eq_none h]at hd;cases hd
def mk (least N r:Nat):Option (Nat × Nat):=if least≤r∧isR r=true then some (r,N) else none
theorem dec_1 (l:List UInt8)(k:Nat)(c:UInt8)(hc:l[k]? =some c)(h:c.toNat<128):dec (l.drop k)=some (c.toNat,1):=by
 have hk:k<l.length:=by
  rcases Nat.lt_or_ge k l.length with h|h
  · exact h
  · rw[List.getElem?_eq_none h]at hc;cases hc
 rw[dec_at l k c hc 1 (by simp[lenB,h]) (by decide) (by omega)]
 have:msk 1 c.toNat=c.toNat:=by simp[msk];omega
 rw[this]
 simp only[Nat.sub_self,List.take_zero,cont]
 rw[if_pos ⟨Nat.zero_le _,by simp[isR];omega⟩]
theorem dec_0 (l:List UInt8)(k:Nat)(c:UInt8)(hc:l[k]? =some c)(h:(128≤c.toNat∧c.toNat<192)∨248≤c.toNat):dec (l.drop k)=none:=by
 refine dec_none l k c hc (.inl ?_)
 unfold lenB
 rcases h with h|h
 · rw[if_neg (by omega),if_pos (by omega)]
 · rw[if_neg (by omega),if_neg (by omega),if_neg (by omega),if_neg (by omega),if_neg (by omega)]
theorem dec_2 (l:List UInt8)(k:Nat)(c:UInt8)(hc:l[k]? =some c)(h:192≤c.toNat∧c.toNat<224) :
 dec (l.drop k)=if 0≤restOf l (k+1) then mk 128 2 ((c.toNat - 192)*64+(restOf l (k+1)).toNat) else none:=by
 have hL:lenB c.toNat=2:=by unfold lenB;rw[if_neg (by omega),if_neg (by omega),if_pos (by omega)]
 have hm:msk 2 c.toNat=c.toNat - 192:=by simp only[msk];simp;omega
 by_cases h1:0≤restOf l (k+1)
 · have:=rest_in _ _ h1
   rw[dec_at l k c hc 2 hL (by decide) (by omega),hm,cont_step,if_pos h1,if_pos h1,cont_take0]
   rfl
 · rw[if_neg h1]
   by_cases hs:k+2≤l.length
   · rw[dec_at l k c hc 2 hL (by decide) hs,hm,cont_step,if_neg h1,if_pos (by omega)]
   · exact dec_none l k c hc (.inr (by omega))
theorem dec_3 (l:List UInt8)(k:Nat)(c:UInt8)(hc:l[k]? =some c)(h:224≤c.toNat∧c.toNat<240) :
 dec (l.drop k)=if 0≤restOf l (k+1)∧0≤restOf l (k+2) then mk 2048 3 (((c.toNat - 224)*64+(restOf l (k+1)).toNat)*64+(restOf l (k+2)).toNat) else none:=by
 have hL:lenB c.toNat=3:=by unfold lenB;rw[if_neg (by omega),if_neg (by omega),if_neg (by omega),if_pos (by omega)]
 have hm:msk 3 c.toNat=c.toNat - 224:=by simp only[msk];simp;omega
 by_cases hs:k+3≤l.length
 · rw[dec_at l k c hc 3 hL (by decide) hs,hm,cont_step]
   by_cases h1:0≤restOf l (k+1)
   · rw[if_pos h1,cont_step]
     by_cases h2:0≤restOf l (k+2)
     · rw[if_pos h2,if_pos ⟨h1,h2⟩,cont_take0]
       rfl
     · rw[if_neg h2,if_pos (by omega:k+1+1<l.length),if_neg (fun h=>h2 h.2)]
   · rw[if_neg h1,if_pos (by omega:k+1<l.length),if_neg (fun h=>h1 h.1)]
 · rw[dec_none l k c hc (.inr (by omega)),if_neg (fun h=>by have:=rest_in _ _ h.2;omega)]
theorem dec_4 (l:List UInt8)(k:Nat)(c:UInt8)(hc:l[k]? =some c)(h:240≤c.toNat∧c.toNat<248) :
 dec (l.drop k)=if 0≤restOf l (k+1)∧0≤restOf l (k+2)∧0≤restOf l (k+3) then mk 65536 4 ((((c.toNat - 240)*64+(restOf l (k+1)).toNat)*64+(restOf l (k+2)).toNat)*64+(restOf l (k+3)).toNat) else none:=by
 have hL:lenB c.toNat=4:=by unfold lenB;rw[if_neg (by omega),if_neg (by omega),if_neg (by omega),if_neg (by omega),if_pos (by omega)]
 have hm:msk 4 c.toNat=c.toNat - 240:=by simp only[msk];simp;omega
 by_cases hs:k+4≤l.length
 · rw[dec_at l k c hc 4 hL (by decide) hs,hm,cont_step]
   by_cases h1:0≤restOf l (k+1)
   · rw[if_pos h1,cont_step]
     by_cases h2:0≤restOf l (k+2)
     · rw[if_pos h2,cont_step]
       by_cases h3:0≤restOf l (k+3)
       · rw[if_pos h3,if_pos ⟨h1,h2,h3⟩,cont_take0]
         rfl
       · rw[if_neg h3,if_pos (by omega:k+1+1+1<l.length),if_neg (fun h=>h3 h.2.2)]
     · rw[if_neg h2,if_pos (by omega:k+1+1<l.length),if_neg (fun h=>h2 h.2.1)]
   · rw[if_neg h1,if_pos (by omega:k+1<l.length),if_neg (fun h=>h1 h.1)]
 · rw[dec_none l k c hc (.inr (by omega)),if_neg (fun h=>by have:=rest_in _ _ h.2.2;omega)]
end Go.Proofs.YtbafljibbabnaaaGreatDoor
