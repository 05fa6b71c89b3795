/- Texts of ours, joined: Sw4, Sw5, Sw6. -/
import Derived.Test.YtbafljibbabnaaaGreatDoorQ47
namespace Go.Proofs.YtbafljibbabnaaaGreatDoor
open Go.ChangeShapes Go.WideShapes Go.ChangeAt Go.RowKit
set_option linter.unusedVariables false
set_option maxRecDepth 100000
set_option maxHeartbeats 32000000
theorem may_k7 (sb base:Nat)(whole:Bool)(W:World)(sv:Value)(op:List (List UInt8))(root:Bool)(fro to_ rr:Int)(name text:List UInt8)(ps:List PairL)(A:Option Addr)(n c:Nat)(hJ:SwJ sb base whole W sv op root)(hop:op.length≤1000000) :
 Calls Tryz.prog 47 #[.pointer (some ⟨sb,0,none⟩),.agg #[.int .i64 7,.int .i64 fro,.int .i64 to_,.string ⟨name.toArray⟩,.string ⟨text.toArray⟩,.slice A n c,.int .i64 rr]] W fun e w'=>MayPost sb base whole W sv (mayS whole op root ⟨7,fro,to_,name,text,ps,rr⟩) e w':=by
 have ka:=(Below.refl _ W).alloc (Nat.le_refl _) (.cells #[.int .i64 7,.int .i64 fro,.int .i64 to_,.string ⟨name.toArray⟩,.string ⟨text.toArray⟩,.slice A n c,.int .i64 rr] 47)
 have hJ1:=hJ.kept ka
 have hM1:MF sb W (W.alloc (.cells #[.int .i64 7,.int .i64 fro,.int .i64 to_,.string ⟨name.toArray⟩,.string ⟨text.toArray⟩,.slice A n c,.int .i64 rr] 47)) sv sv:=MF.ofBelow ka (by have:=hJ.lt;have:=hJ.le;omega)
 have q3:=hp_new W (.cells #[.int .i64 7,.int .i64 fro,.int .i64 to_,.string ⟨name.toArray⟩,.string ⟨text.toArray⟩,.slice A n c,.int .i64 rr] 47)
 have HInv:=Hd hJ.inv
 have hsW:sb<W.heap.size:=by have:=hJ.lt;have:=hJ.le;omega
 obtain⟨SA,SN,SC,hsv,hSN⟩: ∃ SA SN SC,sv= .slice SA SN SC∧SN=op.length:=by
  obtain⟨a,b,h⟩:=hJ.own.form
  exact⟨a,_,b,h,rfl⟩
 subst hsv
 have hSNb:(SN:Int)≤1000000:=by omega
 clear hJ ka
 obtain⟨V,hV⟩: ∃ V,W.alloc (.cells #[.int .i64 7,.int .i64 fro,.int .i64 to_,.string ⟨name.toArray⟩,.string ⟨text.toArray⟩,.slice A n c,.int .i64 rr] 47)=V:=⟨_,rfl⟩
 rw[hV]at hJ1 hM1 q3
 have HJ1:=Hd hJ1
 have HM1:=Hd hM1
 have HQ3:=Hd q3
 cases whole with
 |false =>
  have hsw:V.heap[sb]? =some (.cells #[.slice SA SN SC,.int .i64 0,.bool false] 81):=by have:=HJ1.out.sw;simpa using this
  have z0:=cell_of 0 hsw
  have z1:=cell_of 1 hsw
  have z2:=cell_of 2 hsw
  have y1:=free_of 1 hsw
  clear hSN
  clear hSNb
  have HOP:=Hd hop
  clear hop
  have x0:=cell_of 0 HQ3.out
  have x3:=cell_of 3 HQ3.out
  have x4:=cell_of 4 HQ3.out
  clear hJ1 hM1
  have hE:mayS false op root ⟨7,fro,to_,name,text,ps,rr⟩=some (op++ [name],true):=by simp[mayS]
  rw[hE]
  have hVd:Below V.heap.size V V.drew:=below_drewN' (n:=1) (Below.refl _ _)
  have J1d:=HJ1.out.kept hVd
  have CP:=Hd (push_c sb base (.slice SA SN SC) op name 0 false V.drew (by exact hsw) J1d.own J1d.lt J1d.le HOP.out)
  have HMd:=Hd (HM1.out.trans (MF.ofBelow (sv:= .slice SA SN SC) hVd (by have:=HJ1.out.lt;have:=HJ1.out.le;omega)))
  have HLE:=Hd J1d.le
  have HLT:=Hd HJ1.out.lt
  have xd3:V.drew.cell? ⟨W.heap.size,3,none⟩=some (.string ⟨name.toArray⟩):=x3
  clear hVd J1d
  go_enter Tryz.func47,Tryz.ntmps47
  go_wp2_with fail
  go_region_with (go_at_call 70;refine CP.out.mono ?_;rintro e w1 ⟨rfl,sv1,hq1,ho1,hM1⟩)
  all_goals
   have HM2:=Hd (HMd.out.trans hM1)
   have HJ2:Hid (SwJ sb base false w1 sv1 (op++ [name]) true):=Hd ⟨by simpa using hq1,ho1,HLT.out,by have:=hM1.below.size;have:=HLE.out;omega,fun _ _=>rfl⟩
   have u1:=cell_of 1 hq1
   clear hM1 ho1
   go_wp2
   go_ret
   exact⟨rfl,_,HJ2.out,HM2.out⟩
 |true =>
  cases op with
  |nil =>
   cases root with
   |false =>
    have hsw:V.heap[sb]? =some (.cells #[.slice SA SN SC,.int .i64 0,.bool true] 81):=by have:=HJ1.out.sw;simpa using this
    have z0:=cell_of 0 hsw
    have z1:=cell_of 1 hsw
    have z2:=cell_of 2 hsw
    have y1:=free_of 1 hsw
    have hs0:SN=0:=by simpa using hSN
    clear hSN
    subst hs0
    clear hSNb
    have HOP:=Hd hop
    clear hop
    have x0:=cell_of 0 HQ3.out
    have x3:=cell_of 3 HQ3.out
    have x4:=cell_of 4 HQ3.out
    clear hJ1 hM1
    have hE:mayS true [] false ⟨7,fro,to_,name,text,ps,rr⟩=some ([]++ [name],true):=by simp[mayS]
    rw[hE]
    have hVd:Below V.heap.size V V.drew:=below_drewN' (n:=1) (Below.refl _ _)
    have J1d:=HJ1.out.kept hVd
    have CP:=Hd (push_c sb base (.slice SA 0 SC) [] name 0 true V.drew (by exact hsw) J1d.own J1d.lt J1d.le HOP.out)
    have HMd:=Hd (HM1.out.trans (MF.ofBelow (sv:= .slice SA 0 SC) hVd (by have:=HJ1.out.lt;have:=HJ1.out.le;omega)))
    have HLE:=Hd J1d.le
    have HLT:=Hd HJ1.out.lt
    have xd3:V.drew.cell? ⟨W.heap.size,3,none⟩=some (.string ⟨name.toArray⟩):=x3
    clear hVd J1d
    go_enter Tryz.func47,Tryz.ntmps47
    go_wp2_with fail
    go_region_with (go_at_call 70;refine CP.out.mono ?_;rintro e w1 ⟨rfl,sv1,hq1,ho1,hM1⟩)
    all_goals
     have HM2:Hid (MF sb W (w1.setCell ⟨sb,1,none⟩ (.int .i64 1)) (.slice SA 0 SC) sv1):=Hd ((HMd.out.trans hM1).trans (MF.cell rfl))
     have HJ2:Hid (SwJ sb base true (w1.setCell ⟨sb,1,none⟩ (.int .i64 1)) sv1 ([]++ [name]) true):=Hd ⟨hp_set hq1,ownsRow_keep ho1 fun g hg _=>hp_other (by have:=HLT.out;omega),HLT.out,by have:=hM1.below.size;have:=HLE.out;simp;omega,fun _ _=>rfl⟩
     have u1:=cell_of 1 hq1
     have v1:=free_of 1 hq1
     clear hM1 ho1
     go_wp2
     go_ret
     exact⟨rfl,_,HJ2.out,HM2.out⟩
   |true =>
    have hsw:V.heap[sb]? =some (.cells #[.slice SA SN SC,.int .i64 1,.bool true] 81):=by have:=HJ1.out.sw;simpa using this
    have z0:=cell_of 0 hsw
    have z1:=cell_of 1 hsw
    have z2:=cell_of 2 hsw
    have y1:=free_of 1 hsw
    have hs0:SN=0:=by simpa using hSN
    clear hSN
    subst hs0
    clear hSNb
    have HOP:=Hd hop
    clear hop
    have x0:=cell_of 0 HQ3.out
    have x3:=cell_of 3 HQ3.out
    have x4:=cell_of 4 HQ3.out
    clear hJ1 hM1
    have hE:mayS true [] true ⟨7,fro,to_,name,text,ps,rr⟩=none:=by simp[mayS]
    rw[hE]
    have hVd:Below V.heap.size V V.drew:=below_drewN' (n:=1) (Below.refl _ _)
    have J1d:=HJ1.out.kept hVd
    have CP:=Hd (push_c sb base (.slice SA 0 SC) [] name 1 true V.drew (by exact hsw) J1d.own J1d.lt J1d.le HOP.out)
    have HMd:=Hd (HM1.out.trans (MF.ofBelow (sv:= .slice SA 0 SC) hVd (by have:=HJ1.out.lt;have:=HJ1.out.le;omega)))
    have HLE:=Hd J1d.le
    have HLT:=Hd HJ1.out.lt
    have xd3:V.drew.cell? ⟨W.heap.size,3,none⟩=some (.string ⟨name.toArray⟩):=x3
    clear hVd J1d
    go_enter Tryz.func47,Tryz.ntmps47
    go_wp2_with fail
    go_region_with (go_at_call 70;refine CP.out.mono ?_;rintro e w1 ⟨rfl,sv1,hq1,ho1,hM1⟩)
    all_goals
     have HM2:Hid (MF sb W (w1.setCell ⟨sb,1,none⟩ (.int .i64 2)) (.slice SA 0 SC) sv1):=Hd ((HMd.out.trans hM1).trans (MF.cell rfl))
     have u1:=cell_of 1 hq1
     have v1:=free_of 1 hq1
     go_wp2
     go_ret
     exact⟨rfl,_,HM2.out⟩
  |cons a op =>
   obtain rfl:root=true:=HInv.out rfl (by simp)
   have hsw:V.heap[sb]? =some (.cells #[.slice SA SN SC,.int .i64 1,.bool true] 81):=by have:=HJ1.out.sw;simpa using this
   have z0:=cell_of 0 hsw
   have z1:=cell_of 1 hsw
   have z2:=cell_of 2 hsw
   have y1:=free_of 1 hsw
   have hsn:((SN:Int)==0)=false:=by rw[hSN];simp;omega
   clear hSN
   clear hSNb
   have HOP:=Hd hop
   clear hop
   have x0:=cell_of 0 HQ3.out
   have x3:=cell_of 3 HQ3.out
   have x4:=cell_of 4 HQ3.out
   clear hJ1 hM1
   have hE:mayS true (a :: op) true ⟨7,fro,to_,name,text,ps,rr⟩=some ((a :: op)++ [name],true):=by simp[mayS]
   rw[hE]
   have hVd:Below V.heap.size V V.drew:=below_drewN' (n:=1) (Below.refl _ _)
   have J1d:=HJ1.out.kept hVd
   have CP:=Hd (push_c sb base (.slice SA SN SC) (a :: op) name 1 true V.drew (by exact hsw) J1d.own J1d.lt J1d.le HOP.out)
   have HMd:=Hd (HM1.out.trans (MF.ofBelow (sv:= .slice SA SN SC) hVd (by have:=HJ1.out.lt;have:=HJ1.out.le;omega)))
   have HLE:=Hd J1d.le
   have HLT:=Hd HJ1.out.lt
   have xd3:V.drew.cell? ⟨W.heap.size,3,none⟩=some (.string ⟨name.toArray⟩):=x3
   clear hVd J1d
   go_enter Tryz.func47,Tryz.ntmps47
   go_wp2_with fail
   go_region_with (go_at_call 70;refine CP.out.mono ?_;rintro e w1 ⟨rfl,sv1,hq1,ho1,hM1⟩)
   all_goals
    have HM2:=Hd (HMd.out.trans hM1)
    have HJ2:Hid (SwJ sb base true w1 sv1 ((a :: op)++ [name]) true):=Hd ⟨by simpa using hq1,ho1,HLT.out,by have:=hM1.below.size;have:=HLE.out;omega,fun _ _=>rfl⟩
    have u1:=cell_of 1 hq1
    clear hM1 ho1
    go_wp2
    go_ret
    exact⟨rfl,_,HJ2.out,HM2.out⟩
theorem may_k9 (sb base:Nat)(whole:Bool)(W:World)(sv:Value)(op:List (List UInt8))(root:Bool)(fro to_ rr:Int)(name text:List UInt8)(ps:List PairL)(A:Option Addr)(n c:Nat)(hJ:SwJ sb base whole W sv op root)(hop:op.length≤1000000) :
 Calls Tryz.prog 47 #[.pointer (some ⟨sb,0,none⟩),.agg #[.int .i64 9,.int .i64 fro,.int .i64 to_,.string ⟨name.toArray⟩,.string ⟨text.toArray⟩,.slice A n c,.int .i64 rr]] W fun e w'=>MayPost sb base whole W sv (mayS whole op root ⟨9,fro,to_,name,text,ps,rr⟩) e w':=by
 have ka:=(Below.refl _ W).alloc (Nat.le_refl _) (.cells #[.int .i64 9,.int .i64 fro,.int .i64 to_,.string ⟨name.toArray⟩,.string ⟨text.toArray⟩,.slice A n c,.int .i64 rr] 47)
 have hJ1:=hJ.kept ka
 have hM1:MF sb W (W.alloc (.cells #[.int .i64 9,.int .i64 fro,.int .i64 to_,.string ⟨name.toArray⟩,.string ⟨text.toArray⟩,.slice A n c,.int .i64 rr] 47)) sv sv:=MF.ofBelow ka (by have:=hJ.lt;have:=hJ.le;omega)
 have q3:=hp_new W (.cells #[.int .i64 9,.int .i64 fro,.int .i64 to_,.string ⟨name.toArray⟩,.string ⟨text.toArray⟩,.slice A n c,.int .i64 rr] 47)
 have HInv:=Hd hJ.inv
 have hsW:sb<W.heap.size:=by have:=hJ.lt;have:=hJ.le;omega
 obtain⟨SA,SN,SC,hsv,hSN⟩: ∃ SA SN SC,sv= .slice SA SN SC∧SN=op.length:=by
  obtain⟨a,b,h⟩:=hJ.own.form
  exact⟨a,_,b,h,rfl⟩
 subst hsv
 have hSNb:(SN:Int)≤1000000:=by omega
 clear hJ ka
 obtain⟨V,hV⟩: ∃ V,W.alloc (.cells #[.int .i64 9,.int .i64 fro,.int .i64 to_,.string ⟨name.toArray⟩,.string ⟨text.toArray⟩,.slice A n c,.int .i64 rr] 47)=V:=⟨_,rfl⟩
 rw[hV]at hJ1 hM1 q3
 have HJ1:=Hd hJ1
 have HM1:=Hd hM1
 have HQ3:=Hd q3
 cases whole with
 |false =>
  have hsw:V.heap[sb]? =some (.cells #[.slice SA SN SC,.int .i64 0,.bool false] 81):=by have:=HJ1.out.sw;simpa using this
  have z0:=cell_of 0 hsw
  have z1:=cell_of 1 hsw
  have z2:=cell_of 2 hsw
  have y1:=free_of 1 hsw
  clear hSN
  clear hSNb
  have HOP:=Hd hop
  clear hop
  have x0:=cell_of 0 HQ3.out
  have x3:=cell_of 3 HQ3.out
  have x4:=cell_of 4 HQ3.out
  clear hJ1 hM1
  by_cases hl:op.getLast? =some name
  · obtain⟨op2,hop2⟩: ∃ op2,op=op2++ [name]:=by
     rcases List.eq_nil_or_concat op with h|⟨o2,s2,h⟩
     · rw[h]at hl;simp at hl
     · rw[h]at hl
       simp at hl
       exact⟨o2,by rw[h,hl];simp⟩
    have hE:mayS false op root ⟨9,fro,to_,name,text,ps,rr⟩=some (op2,root):=by rw[hop2];simp[mayS]
    rw[hE]
    have hol:op2.length≤1000000:=by
     have:=HOP.out
     rw[hop2,List.length_append]at this
     omega
    have hVd:Below V.heap.size V V.drew:=below_drewN' (n:=1) (Below.refl _ _)
    have J1d:=HJ1.out.kept hVd
    have CP:=Hd (pop_yes sb base (.slice SA SN SC) op2 name 0 false V.drew (by exact hsw) (hop2 ▸ J1d.own) J1d.lt hol)
    have HMd:=Hd (HM1.out.trans (MF.ofBelow (sv:= .slice SA SN SC) hVd (by have:=HJ1.out.lt;have:=HJ1.out.le;omega)))
    have HLE:=Hd J1d.le
    have HLT:=Hd HJ1.out.lt
    clear hol hop2 hl
    have xd3:V.drew.cell? ⟨W.heap.size,3,none⟩=some (.string ⟨name.toArray⟩):=x3
    clear hVd J1d
    go_enter Tryz.func47,Tryz.ntmps47
    go_wp2_with fail
    go_region_with (go_at_call 71;refine CP.out.mono ?_;rintro e w1 ⟨rfl,sv1,hq1,ho1,hM1⟩)
    all_goals
     have HM2:=Hd (HMd.out.trans hM1)
     have HJ2:Hid (SwJ sb base false w1 sv1 op2 root):=Hd ⟨by simpa using hq1,ho1,HLT.out,by have:=hM1.below.size;have:=HLE.out;omega,fun h=>by cases h⟩
     clear hM1 ho1
     go_wp2
     go_ret
     exact⟨rfl,_,HJ2.out,HM2.out⟩
  · have hE:mayS false op root ⟨9,fro,to_,name,text,ps,rr⟩=none:=by unfold mayS;rw[if_neg (by show ¬ (9:Int)=7;decide),if_neg (by show ¬ (9:Int)=8;decide),if_pos rfl,if_neg hl]
    rw[hE]
    have hVd:Below V.heap.size V V.drew:=below_drewN' (n:=1) (Below.refl _ _)
    have J1d:=HJ1.out.kept hVd
    have CP:=Hd (pop_no sb base (.slice SA SN SC) op name 0 false V.drew (by exact hsw) J1d.own HOP.out (hl))
    have HMd:=Hd (HM1.out.trans (MF.ofBelow (sv:= .slice SA SN SC) hVd (by have:=HJ1.out.lt;have:=HJ1.out.le;omega)))
    have HLE:=Hd J1d.le
    have HLT:=Hd HJ1.out.lt
    clear hl
    have xd3:V.drew.cell? ⟨W.heap.size,3,none⟩=some (.string ⟨name.toArray⟩):=x3
    clear hVd J1d
    go_enter Tryz.func47,Tryz.ntmps47
    go_wp2_with fail
    go_region_with (go_at_call 71;refine CP.out.mono ?_;rintro e wq ⟨rfl,hwq⟩;subst hwq)
    all_goals
     go_wp2
     go_ret
     exact⟨rfl,_,HMd.out⟩
 |true =>
  cases op with
  |nil =>
   cases root with
   |false =>
    have hsw:V.heap[sb]? =some (.cells #[.slice SA SN SC,.int .i64 0,.bool true] 81):=by have:=HJ1.out.sw;simpa using this
    have z0:=cell_of 0 hsw
    have z1:=cell_of 1 hsw
    have z2:=cell_of 2 hsw
    have y1:=free_of 1 hsw
    have hs0:SN=0:=by simpa using hSN
    clear hSN
    subst hs0
    clear hSNb
    have HOP:=Hd hop
    clear hop
    have x0:=cell_of 0 HQ3.out
    have x3:=cell_of 3 HQ3.out
    have x4:=cell_of 4 HQ3.out
    clear hJ1 hM1
    have hE:mayS true [] false ⟨9,fro,to_,name,text,ps,rr⟩=none:=by simp[mayS]
    rw[hE]
    have hVd:Below V.heap.size V V.drew:=below_drewN' (n:=1) (Below.refl _ _)
    have J1d:=HJ1.out.kept hVd
    have CP:=Hd (pop_no sb base (.slice SA 0 SC) [] name 0 true V.drew (by exact hsw) J1d.own HOP.out (by simp))
    have HMd:=Hd (HM1.out.trans (MF.ofBelow (sv:= .slice SA 0 SC) hVd (by have:=HJ1.out.lt;have:=HJ1.out.le;omega)))
    have HLE:=Hd J1d.le
    have HLT:=Hd HJ1.out.lt
    have xd3:V.drew.cell? ⟨W.heap.size,3,none⟩=some (.string ⟨name.toArray⟩):=x3
    clear hVd J1d
    go_enter Tryz.func47,Tryz.ntmps47
    go_wp2_with fail
    go_region_with (go_at_call 71;refine CP.out.mono ?_;rintro e wq ⟨rfl,hwq⟩;subst hwq)
    all_goals
       go_wp2
       go_ret
       exact⟨rfl,_,HMd.out⟩
   |true =>
    have hsw:V.heap[sb]? =some (.cells #[.slice SA SN SC,.int .i64 1,.bool true] 81):=by have:=HJ1.out.sw;simpa using this
    have z0:=cell_of 0 hsw
    have z1:=cell_of 1 hsw
    have z2:=cell_of 2 hsw
    have y1:=free_of 1 hsw
    have hs0:SN=0:=by simpa using hSN
    clear hSN
    subst hs0
    clear hSNb
    have HOP:=Hd hop
    clear hop
    have x0:=cell_of 0 HQ3.out
    have x3:=cell_of 3 HQ3.out
    have x4:=cell_of 4 HQ3.out
    clear hJ1 hM1
    have hE:mayS true [] true ⟨9,fro,to_,name,text,ps,rr⟩=none:=by simp[mayS]
    rw[hE]
    have hVd:Below V.heap.size V V.drew:=below_drewN' (n:=1) (Below.refl _ _)
    have J1d:=HJ1.out.kept hVd
    have CP:=Hd (pop_no sb base (.slice SA 0 SC) [] name 1 true V.drew (by exact hsw) J1d.own HOP.out (by simp))
    have HMd:=Hd (HM1.out.trans (MF.ofBelow (sv:= .slice SA 0 SC) hVd (by have:=HJ1.out.lt;have:=HJ1.out.le;omega)))
    have HLE:=Hd J1d.le
    have HLT:=Hd HJ1.out.lt
    have xd3:V.drew.cell? ⟨W.heap.size,3,none⟩=some (.string ⟨name.toArray⟩):=x3
    clear hVd J1d
    go_enter Tryz.func47,Tryz.ntmps47
    go_wp2_with fail
    go_region_with (go_at_call 71;refine CP.out.mono ?_;rintro e wq ⟨rfl,hwq⟩;subst hwq)
    all_goals
       go_wp2
       go_ret
       exact⟨rfl,_,HMd.out⟩
  |cons a op =>
   obtain rfl:root=true:=HInv.out rfl (by simp)
   have hsw:V.heap[sb]? =some (.cells #[.slice SA SN SC,.int .i64 1,.bool true] 81):=by have:=HJ1.out.sw;simpa using this
   have z0:=cell_of 0 hsw
   have z1:=cell_of 1 hsw
   have z2:=cell_of 2 hsw
   have y1:=free_of 1 hsw
   have hsn:((SN:Int)==0)=false:=by rw[hSN];simp;omega
   clear hSN
   clear hSNb
   have HOP:=Hd hop
   clear hop
   have x0:=cell_of 0 HQ3.out
   have x3:=cell_of 3 HQ3.out
   have x4:=cell_of 4 HQ3.out
   clear hJ1 hM1
   by_cases hl:(a :: op).getLast? =some name
   · obtain⟨op2,hop2⟩: ∃ op2,(a :: op)=op2++ [name]:=by
       rcases List.eq_nil_or_concat (a :: op)with h|⟨o2,s2,h⟩
       · rw[h]at hl;simp at hl
       · rw[h]at hl
         simp at hl
         exact⟨o2,by rw[h,hl];simp⟩
     have hE:mayS true (a :: op) true ⟨9,fro,to_,name,text,ps,rr⟩=some (op2,true):=by rw[hop2];simp[mayS]
     rw[hE]
     have hol:op2.length≤1000000:=by
       have:=HOP.out
       rw[hop2,List.length_append]at this
       omega
     have hVd:Below V.heap.size V V.drew:=below_drewN' (n:=1) (Below.refl _ _)
     have J1d:=HJ1.out.kept hVd
     have CP:=Hd (pop_yes sb base (.slice SA SN SC) op2 name 1 true V.drew (by exact hsw) (hop2 ▸ J1d.own) J1d.lt hol)
     have HMd:=Hd (HM1.out.trans (MF.ofBelow (sv:= .slice SA SN SC) hVd (by have:=HJ1.out.lt;have:=HJ1.out.le;omega)))
     have HLE:=Hd J1d.le
     have HLT:=Hd HJ1.out.lt
     clear hol hop2 hl
     have xd3:V.drew.cell? ⟨W.heap.size,3,none⟩=some (.string ⟨name.toArray⟩):=x3
     clear hVd J1d
     go_enter Tryz.func47,Tryz.ntmps47
     go_wp2_with fail
     go_region_with (go_at_call 71;refine CP.out.mono ?_;rintro e w1 ⟨rfl,sv1,hq1,ho1,hM1⟩)
     all_goals
       have HM2:=Hd (HMd.out.trans hM1)
       have HJ2:Hid (SwJ sb base true w1 sv1 op2 true):=Hd ⟨by simpa using hq1,ho1,HLT.out,by have:=hM1.below.size;have:=HLE.out;omega,fun _ _=>rfl⟩
       clear hM1 ho1
       go_wp2
       go_ret
       exact⟨rfl,_,HJ2.out,HM2.out⟩
   · have hE:mayS true (a :: op) true ⟨9,fro,to_,name,text,ps,rr⟩=none:=by unfold mayS;rw[if_neg (by show ¬ (9:Int)=7;decide),if_neg (by show ¬ (9:Int)=8;decide),if_pos rfl,if_neg hl]
     rw[hE]
     have hVd:Below V.heap.size V V.drew:=below_drewN' (n:=1) (Below.refl _ _)
     have J1d:=HJ1.out.kept hVd
     have CP:=Hd (pop_no sb base (.slice SA SN SC) (a :: op) name 1 true V.drew (by exact hsw) J1d.own HOP.out (hl))
     have HMd:=Hd (HM1.out.trans (MF.ofBelow (sv:= .slice SA SN SC) hVd (by have:=HJ1.out.lt;have:=HJ1.out.le;omega)))
     have HLE:=Hd J1d.le
     have HLT:=Hd HJ1.out.lt
     clear hl
     have xd3:V.drew.cell? ⟨W.heap.size,3,none⟩=some (.string ⟨name.toArray⟩):=x3
     clear hVd J1d
     go_enter Tryz.func47,Tryz.ntmps47
     go_wp2_with fail
     go_region_with (go_at_call 71;refine CP.out.mono ?_;rintro e wq ⟨rfl,hwq⟩;subst hwq)
     all_goals
       go_wp2
       go_ret
       exact⟨rfl,_,HMd.out⟩
theorem text_le (l:List UInt8)(t:Nat)(h:(nextOut l t).1.kind=1):(nextOut l t).1.text.length≤l.length:=by
 unfold nextOut at h ⊢
 split
 · rename_i h0
   rw[if_pos h0]at h
   simp only at h ⊢
   unfold readTok at h ⊢
   split
   · rename_i g;rw[if_pos g]at h;simp at h
   · rename_i g;rw[if_neg g]at h
     split
     · rename_i g;rw[if_pos g]at h;simp at h
     · rename_i g;rw[if_neg g]at h
       split
       · rename_i g;rw[if_pos g]at h;simp at h
       · rename_i g;rw[if_neg g]at h
         split
         · rename_i g;rw[if_pos g]at h;simp at h
         · rename_i g;rw[if_neg g]at h
           split
           · rename_i g;rw[if_pos g]at h;simp only at h;split at h <;> omega
           · rename_i g;rw[if_neg g]at h
             split
             · rename_i g;rw[if_pos g]at h;simp at h
             · rename_i g;rw[if_neg g]at h
               split
               · rename_i g;rw[if_pos g]at h;simp at h
               · unfold textTok
                 split
                 · exact Nat.zero_le _
                 · have:=txt_le (l.drop t)
                   rw[List.length_drop]at this
                   show(txt (l.drop t)).length≤_
                   omega
 · rename_i h0;rw[if_neg h0]at h;simp[noTok]at h
theorem may_all (sb base:Nat)(whole:Bool)(W:World)(sv:Value)(op:List (List UInt8))(root:Bool)(k:TokL)(PA:Option Addr)(pn pc:Nat)(hJ:SwJ sb base whole W sv op root)(hop:op.length≤1000000)(hk:1≤k.kind∧k.kind≤9)(htx:k.kind=1→k.text.length≤500000) :
 Calls Tryz.prog 47 #[.pointer (some ⟨sb,0,none⟩),.agg #[.int .i64 k.kind,.int .i64 k.fro,.int .i64 k.to_,.string ⟨k.name.toArray⟩,.string ⟨k.text.toArray⟩,.slice PA pn pc,.int .i64 k.r]] W fun e w'=>MayPost sb base whole W sv (mayS whole op root k) e w':=by
 obtain⟨kind,fro,to_,name,text,ps,rr⟩:=k
 simp only at hk htx ⊢
 have h9:kind=1∨kind=2∨kind=3∨kind=4∨kind=5∨kind=6∨kind=7∨kind=8∨kind=9:=by omega
 rcases h9 with rfl|rfl|rfl|rfl|rfl|rfl|rfl|rfl|rfl
 · exact may_k1 sb base whole W sv op root fro to_ rr name text ps PA pn pc hJ hop (htx rfl)
 · exact may_k2 sb base whole W sv op root fro to_ rr name text ps PA pn pc hJ hop
 · exact may_k3 sb base whole W sv op root fro to_ rr name text ps PA pn pc hJ hop
 · exact may_k4 sb base whole W sv op root fro to_ rr name text ps PA pn pc hJ hop
 · exact may_k5 sb base whole W sv op root fro to_ rr name text ps PA pn pc hJ hop
 · exact may_k6 sb base whole W sv op root fro to_ rr name text ps PA pn pc hJ hop
 · exact may_k7 sb base whole W sv op root fro to_ rr name text ps PA pn pc hJ hop
 · exact may_k8 sb base whole W sv op root fro to_ rr name text ps PA pn pc hJ hop
 · exact may_k9 sb base whole W sv op root fro to_ rr name text ps PA pn pc hJ hop
theorem own_type {w:World}{B B':Nat}{e e':TypeId}{c c' n n':Nat}{v v':Value}{xs xs':List Value}(h:w.ownsRow B e c v n xs)(h':w.ownsRow B' e' c' v' n' xs')(hT:e≠e'){b:Nat}(hb:v.ownBlock=some b):some b≠v'.ownBlock:=by
 intro hb'
 obtain⟨_,⟨hv,_⟩|⟨g,cap,cur,hv,_,hh,_⟩⟩:=h
 · rw[hv]at hb;simp[Value.ownBlock]at hb
 · obtain⟨_,⟨hv',_⟩|⟨g',cap',cur',hv',_,hh',_⟩⟩:=h'
   · rw[hv']at hb';simp[Value.ownBlock]at hb'
   · rw[hv]at hb
     rw[hv']at hb'
     simp[Value.ownBlock]at hb hb'
     subst hb
     subst hb'
     rw[hh]at hh'
     cases hh'
     exact hT rfl
theorem Byt.moveA {w w':World}{B B' n cap:Nat}{A:Option Addr}{l:List UInt8}(h:Byt w B A n cap l)(hB:B≤B')(hk:0<cap→ ∀ b i,A=some ⟨b,i,none⟩→b<B→w'.heap[b]? =w.heap[b]?):Byt w' B' A n cap l:=by
 obtain⟨h1,h2,h3,h4,h5⟩:=h
 refine⟨h1,h2,h3,h4,fun h0=> ?_⟩
 obtain⟨b,o,e,hb,hc⟩:=h5 h0
 refine⟨b,o,e,by omega,fun i u hu=> ?_⟩
 rw[← hc i u hu]
 unfold World.cell?
 rw[hk h0 b o e hb]
structure OJ (w0 wr:World) (sb base:Nat) (whole:Bool) (A:Option Addr) (n cap:Nat) (l:List UInt8) (v:Value) (vs:List TokV) (sv:Value) (op:List (List UInt8)) (root:Bool):Prop where
 gro:GrowT 47 w0 wr base v vs
 sw:SwJ sb base whole wr sv op root
 byt:Byt wr wr.heap.size A n cap l
 off2: ∀ x∈vs,0<x.c→ ∀ b i,x.A=some ⟨b,i,none⟩→b≠sb∧some b≠sv.ownBlock
theorem OJ.kept {w0 wr w':World}{sb base:Nat}{whole:Bool}{A:Option Addr}{n cap:Nat}{l:List UInt8}{v:Value}{vs:List TokV}{sv:Value}{op:List (List UInt8)}{root:Bool}(h:OJ w0 wr sb base whole A n cap l v vs sv op root)(hb:Below wr.heap.size wr w'):OJ w0 w' sb base whole A n cap l v vs sv op root :=
 ⟨h.gro.kept hb,h.sw.kept hb,(h.byt.below hb).more hb.size,h.off2⟩
theorem OJ.may {w0 wr w':World}{sb base:Nat}{whole:Bool}{A:Option Addr}{n cap:Nat}{l:List UInt8}{v:Value}{vs:List TokV}{sv sv':Value}{op op':List (List UInt8)}{root root':Bool}(h:OJ w0 wr sb base whole A n cap l v vs sv op root)(h0:sb=w0.heap.size)(hA:0<cap→ ∀ b i,A=some ⟨b,i,none⟩→b≠sb∧b<base)
 (hJ:SwJ sb base whole w' sv' op' root') (hM:MF sb wr w' sv sv'):OJ w0 w' sb base whole A n cap l v vs sv' op' root':=by
 have hown: ∀ g,v.ownBlock=some g→w'.heap[g]? =wr.heap[g]? :=fun g hg=>by
  have hl:=ownBlock_lt h.gro.own hg
  exact hM.blk g hl.1 (by have:=h.sw.lt;omega) (own_type h.gro.own h.sw.own (by decide) hg)
 refine⟨⟨h.gro.below.trans (by rw[← h0];exact hM.below),h.gro.base0,Nat.le_trans h.gro.base1 hM.below.size,?_,fun x hx=>hM.keep (h.gro.prs x hx) (h.off2 x hx),h.gro.off⟩,hJ,h.byt.moveA hM.below.size fun h9 b i hAA hb=>hM.blk b hb (hA h9 b i hAA).1 (ownS_ne h.sw.own (hA h9 b i hAA).2),fun x hx hc b i hxA=>⟨(h.off2 x hx hc b i hxA).1,?_⟩⟩
 · obtain⟨hl,h2|⟨g,cp,cur,hv,hg,hh,r⟩⟩:=h.gro.own
   · exact⟨hl,.inl h2⟩
   · exact⟨hl,.inr ⟨g,cp,cur,hv,hg,(hown g (by rw[hv];rfl)).trans hh,r⟩⟩
 · rcases hM.own with e|⟨g,e,hg⟩
   · rw[e];exact(h.off2 x hx hc b i hxA).2
   · rw[e]
     intro hh
     obtain⟨b2,o2,e2,hb2,_⟩:=(h.gro.prs x hx).at_ hc
     rw[hxA]at e2
     cases e2
     cases hh
     omega
theorem OJ.appended {w0 wr w':World}{sb base:Nat}{whole:Bool}{A:Option Addr}{n cap:Nat}{l:List UInt8}{v v':Value}{vs:List TokV}{sv:Value}{op:List (List UInt8)}{root:Bool}{x:TokV}{us:Array Value}(h:OJ w0 wr sb base whole A n cap l v vs sv op root)(hA:0<cap→ ∀ b i,A=some ⟨b,i,none⟩→b≠sb∧b<base)
 (hx:PRd wr wr.heap.size x.A x.n x.c x.t.pairs) (hoff:0<x.c→ ∀ b i,x.A=some ⟨b,i,none⟩→some b≠v.ownBlock) (hoff2:0<x.c→ ∀ b i,x.A=some ⟨b,i,none⟩→b≠sb∧some b≠sv.ownBlock)
 (hown:w'.ownsRow base 47 7 v' (vs.length+1) (cellsK vs++x.cells)) (hg:(wr.alloc (.cells us 47)).grownBy w' v.ownBlock) (hat:v'.ownBlock=v.ownBlock∨v'.ownBlock=some (wr.heap.size+1)):OJ w0 w' sb base whole A n cap l v' (vs++ [x]) sv op root:=by
 have hs:=hg.size
 rw[World.size_alloc]at hs
 have hbl: ∀ b,b<wr.heap.size→some b≠v.ownBlock→w'.heap[b]? =wr.heap[b]? :=fun b hb hne=>by
  rw[hg.block b (by rw[World.size_alloc];omega) hne,Below.heap_alloc _ _ _ hb]
 refine⟨h.gro.appended hx hoff hown hg hat,⟨?_,?_,h.sw.lt,by have:=h.sw.le;omega,h.sw.inv⟩,h.byt.moveA (by omega) fun h9 b i hAA hb=>hbl b hb (fun e=>by have:=(ownBlock_lt h.gro.own e.symm).2;have:=(hA h9 b i hAA).2;omega),?_⟩
 · rw[hbl sb (lt_of h.sw.sw) (fun e=>by have:=(ownBlock_lt h.gro.own e.symm).2;have:=h.sw.lt;omega)]
   exact h.sw.sw
 · obtain⟨hl,h2|⟨g,cp,cur,hv,hgb,hh,r⟩⟩:=h.sw.own
   · exact⟨hl,.inl h2⟩
   · refine⟨hl,.inr ⟨g,cp,cur,hv,hgb,(hbl g (lt_of hh) ?_).trans hh,r⟩⟩
     exact own_type h.sw.own h.gro.own (by decide) (by rw[hv];rfl)
 · intro y hy
   rcases List.mem_append.1 hy with hy|hy
   · exact h.off2 y hy
   · rw[List.mem_singleton]at hy;subst hy;exact hoff2
end Go.Proofs.YtbafljibbabnaaaGreatDoor
