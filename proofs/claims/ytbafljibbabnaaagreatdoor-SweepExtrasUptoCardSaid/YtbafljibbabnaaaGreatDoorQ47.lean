/- Texts of ours, joined: Sw3. -/
import Derived.Test.YtbafljibbabnaaaGreatDoorQ46
namespace Go.Proofs.YtbafljibbabnaaaGreatDoor
open Go.ChangeShapes Go.WideShapes Go.ChangeAt Go.RowKit
set_option linter.unusedVariables false
set_option maxRecDepth 100000
set_option maxHeartbeats 32000000
theorem may_k5 (sb base:Nat)(whole:Bool)(W:World)(sv:Value)(op:List (List UInt8))(root:Bool)(fro to_ rr:Int)(name text:List UInt8)(ps:List PairL)(A:Option Addr)(n c:Nat)(hJ:SwJ sb base whole W sv op root)(hop:op.length≤1000000) :
 Calls Tryz.prog 47 #[.pointer (some ⟨sb,0,none⟩),.agg #[.int .i64 5,.int .i64 fro,.int .i64 to_,.string ⟨name.toArray⟩,.string ⟨text.toArray⟩,.slice A n c,.int .i64 rr]] W fun e w'=>MayPost sb base whole W sv (mayS whole op root ⟨5,fro,to_,name,text,ps,rr⟩) e w':=by
 have ka:=(Below.refl _ W).alloc (Nat.le_refl _) (.cells #[.int .i64 5,.int .i64 fro,.int .i64 to_,.string ⟨name.toArray⟩,.string ⟨text.toArray⟩,.slice A n c,.int .i64 rr] 47)
 have hJ1:=hJ.kept ka
 have hM1:MF sb W (W.alloc (.cells #[.int .i64 5,.int .i64 fro,.int .i64 to_,.string ⟨name.toArray⟩,.string ⟨text.toArray⟩,.slice A n c,.int .i64 rr] 47)) sv sv:=MF.ofBelow ka (by have:=hJ.lt;have:=hJ.le;omega)
 have q3:=hp_new W (.cells #[.int .i64 5,.int .i64 fro,.int .i64 to_,.string ⟨name.toArray⟩,.string ⟨text.toArray⟩,.slice A n c,.int .i64 rr] 47)
 have HInv:=Hd hJ.inv
 have hsW:sb<W.heap.size:=by have:=hJ.lt;have:=hJ.le;omega
 obtain⟨SA,SN,SC,hsv,hSN⟩: ∃ SA SN SC,sv= .slice SA SN SC∧SN=op.length:=by
  obtain⟨a,b,h⟩:=hJ.own.form
  exact⟨a,_,b,h,rfl⟩
 subst hsv
 have hSNb:(SN:Int)≤1000000:=by omega
 clear hJ ka
 obtain⟨V,hV⟩: ∃ V,W.alloc (.cells #[.int .i64 5,.int .i64 fro,.int .i64 to_,.string ⟨name.toArray⟩,.string ⟨text.toArray⟩,.slice A n c,.int .i64 rr] 47)=V:=⟨_,rfl⟩
 rw[hV]at hJ1 hM1 q3
 have HJ1:=Hd hJ1
 have HM1:=Hd hM1
 have HQ3:=Hd q3
 cases whole with
 |false =>
  have hsw:V.heap[sb]? =some (.cells #[.slice SA SN SC,.int .i64 0,.bool false] 81):=by have:=HJ1.out.sw;simpa using this
  have z0:=cell_of 0 hsw
  have z1:=cell_of 1 hsw
  have z2:=cell_of 2 hsw
  have y1:=free_of 1 hsw
  clear hSN
  clear hop hSNb
  have x0:=cell_of 0 HQ3.out
  have x3:=cell_of 3 HQ3.out
  have x4:=cell_of 4 HQ3.out
  clear hJ1 hM1
  have hE:mayS false op root ⟨5,fro,to_,name,text,ps,rr⟩=some (op,root):=by simp[mayS]
  rw[hE]
  go_enter Tryz.func47,Tryz.ntmps47
  go_wp2
  go_ret
  exact⟨rfl,_,HJ1.out,HM1.out⟩
 |true =>
  cases op with
  |nil =>
   cases root with
   |false =>
    have hsw:V.heap[sb]? =some (.cells #[.slice SA SN SC,.int .i64 0,.bool true] 81):=by have:=HJ1.out.sw;simpa using this
    have z0:=cell_of 0 hsw
    have z1:=cell_of 1 hsw
    have z2:=cell_of 2 hsw
    have y1:=free_of 1 hsw
    have hs0:SN=0:=by simpa using hSN
    clear hSN
    subst hs0
    clear hop hSNb
    have x0:=cell_of 0 HQ3.out
    have x3:=cell_of 3 HQ3.out
    have x4:=cell_of 4 HQ3.out
    clear hJ1 hM1
    have hE:mayS true [] false ⟨5,fro,to_,name,text,ps,rr⟩=some ([],false):=by simp[mayS]
    rw[hE]
    go_enter Tryz.func47,Tryz.ntmps47
    go_wp2
    go_ret
    exact⟨rfl,_,HJ1.out,HM1.out⟩
   |true =>
    have hsw:V.heap[sb]? =some (.cells #[.slice SA SN SC,.int .i64 1,.bool true] 81):=by have:=HJ1.out.sw;simpa using this
    have z0:=cell_of 0 hsw
    have z1:=cell_of 1 hsw
    have z2:=cell_of 2 hsw
    have y1:=free_of 1 hsw
    have hs0:SN=0:=by simpa using hSN
    clear hSN
    subst hs0
    clear hop hSNb
    have x0:=cell_of 0 HQ3.out
    have x3:=cell_of 3 HQ3.out
    have x4:=cell_of 4 HQ3.out
    clear hJ1 hM1
    have hE:mayS true [] true ⟨5,fro,to_,name,text,ps,rr⟩=some ([],true):=by simp[mayS]
    rw[hE]
    go_enter Tryz.func47,Tryz.ntmps47
    go_wp2
    go_ret
    exact⟨rfl,_,HJ1.out,HM1.out⟩
  |cons a op =>
   obtain rfl:root=true:=HInv.out rfl (by simp)
   have hsw:V.heap[sb]? =some (.cells #[.slice SA SN SC,.int .i64 1,.bool true] 81):=by have:=HJ1.out.sw;simpa using this
   have z0:=cell_of 0 hsw
   have z1:=cell_of 1 hsw
   have z2:=cell_of 2 hsw
   have y1:=free_of 1 hsw
   have hsn:((SN:Int)==0)=false:=by rw[hSN];simp;omega
   clear hSN
   clear hop hSNb
   have x0:=cell_of 0 HQ3.out
   have x3:=cell_of 3 HQ3.out
   have x4:=cell_of 4 HQ3.out
   clear hJ1 hM1
   have hE:mayS true (a :: op) true ⟨5,fro,to_,name,text,ps,rr⟩=some ((a :: op),true):=by simp[mayS]
   rw[hE]
   go_enter Tryz.func47,Tryz.ntmps47
   go_wp2
   go_ret
   exact⟨rfl,_,HJ1.out,HM1.out⟩
theorem may_k6 (sb base:Nat)(whole:Bool)(W:World)(sv:Value)(op:List (List UInt8))(root:Bool)(fro to_ rr:Int)(name text:List UInt8)(ps:List PairL)(A:Option Addr)(n c:Nat)(hJ:SwJ sb base whole W sv op root)(hop:op.length≤1000000) :
 Calls Tryz.prog 47 #[.pointer (some ⟨sb,0,none⟩),.agg #[.int .i64 6,.int .i64 fro,.int .i64 to_,.string ⟨name.toArray⟩,.string ⟨text.toArray⟩,.slice A n c,.int .i64 rr]] W fun e w'=>MayPost sb base whole W sv (mayS whole op root ⟨6,fro,to_,name,text,ps,rr⟩) e w':=by
 have ka:=(Below.refl _ W).alloc (Nat.le_refl _) (.cells #[.int .i64 6,.int .i64 fro,.int .i64 to_,.string ⟨name.toArray⟩,.string ⟨text.toArray⟩,.slice A n c,.int .i64 rr] 47)
 have hJ1:=hJ.kept ka
 have hM1:MF sb W (W.alloc (.cells #[.int .i64 6,.int .i64 fro,.int .i64 to_,.string ⟨name.toArray⟩,.string ⟨text.toArray⟩,.slice A n c,.int .i64 rr] 47)) sv sv:=MF.ofBelow ka (by have:=hJ.lt;have:=hJ.le;omega)
 have q3:=hp_new W (.cells #[.int .i64 6,.int .i64 fro,.int .i64 to_,.string ⟨name.toArray⟩,.string ⟨text.toArray⟩,.slice A n c,.int .i64 rr] 47)
 have HInv:=Hd hJ.inv
 have hsW:sb<W.heap.size:=by have:=hJ.lt;have:=hJ.le;omega
 obtain⟨SA,SN,SC,hsv,hSN⟩: ∃ SA SN SC,sv= .slice SA SN SC∧SN=op.length:=by
  obtain⟨a,b,h⟩:=hJ.own.form
  exact⟨a,_,b,h,rfl⟩
 subst hsv
 have hSNb:(SN:Int)≤1000000:=by omega
 clear hJ ka
 obtain⟨V,hV⟩: ∃ V,W.alloc (.cells #[.int .i64 6,.int .i64 fro,.int .i64 to_,.string ⟨name.toArray⟩,.string ⟨text.toArray⟩,.slice A n c,.int .i64 rr] 47)=V:=⟨_,rfl⟩
 rw[hV]at hJ1 hM1 q3
 have HJ1:=Hd hJ1
 have HM1:=Hd hM1
 have HQ3:=Hd q3
 cases whole with
 |false =>
  have hsw:V.heap[sb]? =some (.cells #[.slice SA SN SC,.int .i64 0,.bool false] 81):=by have:=HJ1.out.sw;simpa using this
  have z0:=cell_of 0 hsw
  have z1:=cell_of 1 hsw
  have z2:=cell_of 2 hsw
  have y1:=free_of 1 hsw
  clear hSN
  clear hop hSNb
  have x0:=cell_of 0 HQ3.out
  have x3:=cell_of 3 HQ3.out
  have x4:=cell_of 4 HQ3.out
  clear hJ1 hM1
  have hE:mayS false op root ⟨6,fro,to_,name,text,ps,rr⟩=some (op,root):=by simp[mayS]
  rw[hE]
  go_enter Tryz.func47,Tryz.ntmps47
  go_wp2
  go_ret
  exact⟨rfl,_,HJ1.out,HM1.out⟩
 |true =>
  cases op with
  |nil =>
   cases root with
   |false =>
    have hsw:V.heap[sb]? =some (.cells #[.slice SA SN SC,.int .i64 0,.bool true] 81):=by have:=HJ1.out.sw;simpa using this
    have z0:=cell_of 0 hsw
    have z1:=cell_of 1 hsw
    have z2:=cell_of 2 hsw
    have y1:=free_of 1 hsw
    have hs0:SN=0:=by simpa using hSN
    clear hSN
    subst hs0
    clear hop hSNb
    have x0:=cell_of 0 HQ3.out
    have x3:=cell_of 3 HQ3.out
    have x4:=cell_of 4 HQ3.out
    clear hJ1 hM1
    have hE:mayS true [] false ⟨6,fro,to_,name,text,ps,rr⟩=some ([],false):=by simp[mayS]
    rw[hE]
    go_enter Tryz.func47,Tryz.ntmps47
    go_wp2
    go_ret
    exact⟨rfl,_,HJ1.out,HM1.out⟩
   |true =>
    have hsw:V.heap[sb]? =some (.cells #[.slice SA SN SC,.int .i64 1,.bool true] 81):=by have:=HJ1.out.sw;simpa using this
    have z0:=cell_of 0 hsw
    have z1:=cell_of 1 hsw
    have z2:=cell_of 2 hsw
    have y1:=free_of 1 hsw
    have hs0:SN=0:=by simpa using hSN
    clear hSN
    subst hs0
    clear hop hSNb
    have x0:=cell_of 0 HQ3.out
    have x3:=cell_of 3 HQ3.out
    have x4:=cell_of 4 HQ3.out
    clear hJ1 hM1
    have hE:mayS true [] true ⟨6,fro,to_,name,text,ps,rr⟩=some ([],true):=by simp[mayS]
    rw[hE]
    go_enter Tryz.func47,Tryz.ntmps47
    go_wp2
    go_ret
    exact⟨rfl,_,HJ1.out,HM1.out⟩
  |cons a op =>
   obtain rfl:root=true:=HInv.out rfl (by simp)
   have hsw:V.heap[sb]? =some (.cells #[.slice SA SN SC,.int .i64 1,.bool true] 81):=by have:=HJ1.out.sw;simpa using this
   have z0:=cell_of 0 hsw
   have z1:=cell_of 1 hsw
   have z2:=cell_of 2 hsw
   have y1:=free_of 1 hsw
   have hsn:((SN:Int)==0)=false:=by rw[hSN];simp;omega
   clear hSN
   clear hop hSNb
   have x0:=cell_of 0 HQ3.out
   have x3:=cell_of 3 HQ3.out
   have x4:=cell_of 4 HQ3.out
   clear hJ1 hM1
   have hE:mayS true (a :: op) true ⟨6,fro,to_,name,text,ps,rr⟩=some ((a :: op),true):=by simp[mayS]
   rw[hE]
   go_enter Tryz.func47,Tryz.ntmps47
   go_wp2
   go_ret
   exact⟨rfl,_,HJ1.out,HM1.out⟩
theorem may_k2 (sb base:Nat)(whole:Bool)(W:World)(sv:Value)(op:List (List UInt8))(root:Bool)(fro to_ rr:Int)(name text:List UInt8)(ps:List PairL)(A:Option Addr)(n c:Nat)(hJ:SwJ sb base whole W sv op root)(hop:op.length≤1000000) :
 Calls Tryz.prog 47 #[.pointer (some ⟨sb,0,none⟩),.agg #[.int .i64 2,.int .i64 fro,.int .i64 to_,.string ⟨name.toArray⟩,.string ⟨text.toArray⟩,.slice A n c,.int .i64 rr]] W fun e w'=>MayPost sb base whole W sv (mayS whole op root ⟨2,fro,to_,name,text,ps,rr⟩) e w':=by
 have ka:=(Below.refl _ W).alloc (Nat.le_refl _) (.cells #[.int .i64 2,.int .i64 fro,.int .i64 to_,.string ⟨name.toArray⟩,.string ⟨text.toArray⟩,.slice A n c,.int .i64 rr] 47)
 have hJ1:=hJ.kept ka
 have hM1:MF sb W (W.alloc (.cells #[.int .i64 2,.int .i64 fro,.int .i64 to_,.string ⟨name.toArray⟩,.string ⟨text.toArray⟩,.slice A n c,.int .i64 rr] 47)) sv sv:=MF.ofBelow ka (by have:=hJ.lt;have:=hJ.le;omega)
 have q3:=hp_new W (.cells #[.int .i64 2,.int .i64 fro,.int .i64 to_,.string ⟨name.toArray⟩,.string ⟨text.toArray⟩,.slice A n c,.int .i64 rr] 47)
 have HInv:=Hd hJ.inv
 have hsW:sb<W.heap.size:=by have:=hJ.lt;have:=hJ.le;omega
 obtain⟨SA,SN,SC,hsv,hSN⟩: ∃ SA SN SC,sv= .slice SA SN SC∧SN=op.length:=by
  obtain⟨a,b,h⟩:=hJ.own.form
  exact⟨a,_,b,h,rfl⟩
 subst hsv
 have hSNb:(SN:Int)≤1000000:=by omega
 clear hJ ka
 obtain⟨V,hV⟩: ∃ V,W.alloc (.cells #[.int .i64 2,.int .i64 fro,.int .i64 to_,.string ⟨name.toArray⟩,.string ⟨text.toArray⟩,.slice A n c,.int .i64 rr] 47)=V:=⟨_,rfl⟩
 rw[hV]at hJ1 hM1 q3
 have HJ1:=Hd hJ1
 have HM1:=Hd hM1
 have HQ3:=Hd q3
 cases whole with
 |false =>
  have hsw:V.heap[sb]? =some (.cells #[.slice SA SN SC,.int .i64 0,.bool false] 81):=by have:=HJ1.out.sw;simpa using this
  have z0:=cell_of 0 hsw
  have z1:=cell_of 1 hsw
  have z2:=cell_of 2 hsw
  have y1:=free_of 1 hsw
  clear hSN
  clear hop hSNb
  have x0:=cell_of 0 HQ3.out
  have x3:=cell_of 3 HQ3.out
  have x4:=cell_of 4 HQ3.out
  clear hJ1 hM1
  have hE:mayS false op root ⟨2,fro,to_,name,text,ps,rr⟩=some (op,root):=by simp[mayS]
  rw[hE]
  go_enter Tryz.func47,Tryz.ntmps47
  go_wp2
  go_ret
  exact⟨rfl,_,HJ1.out,HM1.out⟩
 |true =>
  cases op with
  |nil =>
   cases root with
   |false =>
    have hsw:V.heap[sb]? =some (.cells #[.slice SA SN SC,.int .i64 0,.bool true] 81):=by have:=HJ1.out.sw;simpa using this
    have z0:=cell_of 0 hsw
    have z1:=cell_of 1 hsw
    have z2:=cell_of 2 hsw
    have y1:=free_of 1 hsw
    have hs0:SN=0:=by simpa using hSN
    clear hSN
    subst hs0
    clear hop hSNb
    have x0:=cell_of 0 HQ3.out
    have x3:=cell_of 3 HQ3.out
    have x4:=cell_of 4 HQ3.out
    clear hJ1 hM1
    have hE:mayS true [] false ⟨2,fro,to_,name,text,ps,rr⟩=none:=by simp[mayS]
    rw[hE]
    go_enter Tryz.func47,Tryz.ntmps47
    go_wp2
    go_ret
    exact⟨rfl,_,HM1.out⟩
   |true =>
    have hsw:V.heap[sb]? =some (.cells #[.slice SA SN SC,.int .i64 1,.bool true] 81):=by have:=HJ1.out.sw;simpa using this
    have z0:=cell_of 0 hsw
    have z1:=cell_of 1 hsw
    have z2:=cell_of 2 hsw
    have y1:=free_of 1 hsw
    have hs0:SN=0:=by simpa using hSN
    clear hSN
    subst hs0
    clear hop hSNb
    have x0:=cell_of 0 HQ3.out
    have x3:=cell_of 3 HQ3.out
    have x4:=cell_of 4 HQ3.out
    clear hJ1 hM1
    have hE:mayS true [] true ⟨2,fro,to_,name,text,ps,rr⟩=none:=by simp[mayS]
    rw[hE]
    go_enter Tryz.func47,Tryz.ntmps47
    go_wp2
    go_ret
    exact⟨rfl,_,HM1.out⟩
  |cons a op =>
   obtain rfl:root=true:=HInv.out rfl (by simp)
   have hsw:V.heap[sb]? =some (.cells #[.slice SA SN SC,.int .i64 1,.bool true] 81):=by have:=HJ1.out.sw;simpa using this
   have z0:=cell_of 0 hsw
   have z1:=cell_of 1 hsw
   have z2:=cell_of 2 hsw
   have y1:=free_of 1 hsw
   have hsn:((SN:Int)==0)=false:=by rw[hSN];simp;omega
   clear hSN
   clear hop hSNb
   have x0:=cell_of 0 HQ3.out
   have x3:=cell_of 3 HQ3.out
   have x4:=cell_of 4 HQ3.out
   clear hJ1 hM1
   have hE:mayS true (a :: op) true ⟨2,fro,to_,name,text,ps,rr⟩=some ((a :: op),true):=by simp[mayS]
   rw[hE]
   go_enter Tryz.func47,Tryz.ntmps47
   go_wp2
   go_ret
   exact⟨rfl,_,HJ1.out,HM1.out⟩
theorem may_k3 (sb base:Nat)(whole:Bool)(W:World)(sv:Value)(op:List (List UInt8))(root:Bool)(fro to_ rr:Int)(name text:List UInt8)(ps:List PairL)(A:Option Addr)(n c:Nat)(hJ:SwJ sb base whole W sv op root)(hop:op.length≤1000000) :
 Calls Tryz.prog 47 #[.pointer (some ⟨sb,0,none⟩),.agg #[.int .i64 3,.int .i64 fro,.int .i64 to_,.string ⟨name.toArray⟩,.string ⟨text.toArray⟩,.slice A n c,.int .i64 rr]] W fun e w'=>MayPost sb base whole W sv (mayS whole op root ⟨3,fro,to_,name,text,ps,rr⟩) e w':=by
 have ka:=(Below.refl _ W).alloc (Nat.le_refl _) (.cells #[.int .i64 3,.int .i64 fro,.int .i64 to_,.string ⟨name.toArray⟩,.string ⟨text.toArray⟩,.slice A n c,.int .i64 rr] 47)
 have hJ1:=hJ.kept ka
 have hM1:MF sb W (W.alloc (.cells #[.int .i64 3,.int .i64 fro,.int .i64 to_,.string ⟨name.toArray⟩,.string ⟨text.toArray⟩,.slice A n c,.int .i64 rr] 47)) sv sv:=MF.ofBelow ka (by have:=hJ.lt;have:=hJ.le;omega)
 have q3:=hp_new W (.cells #[.int .i64 3,.int .i64 fro,.int .i64 to_,.string ⟨name.toArray⟩,.string ⟨text.toArray⟩,.slice A n c,.int .i64 rr] 47)
 have HInv:=Hd hJ.inv
 have hsW:sb<W.heap.size:=by have:=hJ.lt;have:=hJ.le;omega
 obtain⟨SA,SN,SC,hsv,hSN⟩: ∃ SA SN SC,sv= .slice SA SN SC∧SN=op.length:=by
  obtain⟨a,b,h⟩:=hJ.own.form
  exact⟨a,_,b,h,rfl⟩
 subst hsv
 have hSNb:(SN:Int)≤1000000:=by omega
 clear hJ ka
 obtain⟨V,hV⟩: ∃ V,W.alloc (.cells #[.int .i64 3,.int .i64 fro,.int .i64 to_,.string ⟨name.toArray⟩,.string ⟨text.toArray⟩,.slice A n c,.int .i64 rr] 47)=V:=⟨_,rfl⟩
 rw[hV]at hJ1 hM1 q3
 have HJ1:=Hd hJ1
 have HM1:=Hd hM1
 have HQ3:=Hd q3
 cases whole with
 |false =>
  have hsw:V.heap[sb]? =some (.cells #[.slice SA SN SC,.int .i64 0,.bool false] 81):=by have:=HJ1.out.sw;simpa using this
  have z0:=cell_of 0 hsw
  have z1:=cell_of 1 hsw
  have z2:=cell_of 2 hsw
  have y1:=free_of 1 hsw
  clear hSN
  clear hop hSNb
  have x0:=cell_of 0 HQ3.out
  have x3:=cell_of 3 HQ3.out
  have x4:=cell_of 4 HQ3.out
  clear hJ1 hM1
  have hE:mayS false op root ⟨3,fro,to_,name,text,ps,rr⟩=some (op,root):=by simp[mayS]
  rw[hE]
  go_enter Tryz.func47,Tryz.ntmps47
  go_wp2
  go_ret
  exact⟨rfl,_,HJ1.out,HM1.out⟩
 |true =>
  cases op with
  |nil =>
   cases root with
   |false =>
    have hsw:V.heap[sb]? =some (.cells #[.slice SA SN SC,.int .i64 0,.bool true] 81):=by have:=HJ1.out.sw;simpa using this
    have z0:=cell_of 0 hsw
    have z1:=cell_of 1 hsw
    have z2:=cell_of 2 hsw
    have y1:=free_of 1 hsw
    have hs0:SN=0:=by simpa using hSN
    clear hSN
    subst hs0
    clear hop hSNb
    have x0:=cell_of 0 HQ3.out
    have x3:=cell_of 3 HQ3.out
    have x4:=cell_of 4 HQ3.out
    clear hJ1 hM1
    have hE:mayS true [] false ⟨3,fro,to_,name,text,ps,rr⟩=none:=by simp[mayS]
    rw[hE]
    go_enter Tryz.func47,Tryz.ntmps47
    go_wp2
    go_ret
    exact⟨rfl,_,HM1.out⟩
   |true =>
    have hsw:V.heap[sb]? =some (.cells #[.slice SA SN SC,.int .i64 1,.bool true] 81):=by have:=HJ1.out.sw;simpa using this
    have z0:=cell_of 0 hsw
    have z1:=cell_of 1 hsw
    have z2:=cell_of 2 hsw
    have y1:=free_of 1 hsw
    have hs0:SN=0:=by simpa using hSN
    clear hSN
    subst hs0
    clear hop hSNb
    have x0:=cell_of 0 HQ3.out
    have x3:=cell_of 3 HQ3.out
    have x4:=cell_of 4 HQ3.out
    clear hJ1 hM1
    have hE:mayS true [] true ⟨3,fro,to_,name,text,ps,rr⟩=none:=by simp[mayS]
    rw[hE]
    go_enter Tryz.func47,Tryz.ntmps47
    go_wp2
    go_ret
    exact⟨rfl,_,HM1.out⟩
  |cons a op =>
   obtain rfl:root=true:=HInv.out rfl (by simp)
   have hsw:V.heap[sb]? =some (.cells #[.slice SA SN SC,.int .i64 1,.bool true] 81):=by have:=HJ1.out.sw;simpa using this
   have z0:=cell_of 0 hsw
   have z1:=cell_of 1 hsw
   have z2:=cell_of 2 hsw
   have y1:=free_of 1 hsw
   have hsn:((SN:Int)==0)=false:=by rw[hSN];simp;omega
   clear hSN
   clear hop hSNb
   have x0:=cell_of 0 HQ3.out
   have x3:=cell_of 3 HQ3.out
   have x4:=cell_of 4 HQ3.out
   clear hJ1 hM1
   have hE:mayS true (a :: op) true ⟨3,fro,to_,name,text,ps,rr⟩=some ((a :: op),true):=by simp[mayS]
   rw[hE]
   go_enter Tryz.func47,Tryz.ntmps47
   go_wp2
   go_ret
   exact⟨rfl,_,HJ1.out,HM1.out⟩
theorem may_k4 (sb base:Nat)(whole:Bool)(W:World)(sv:Value)(op:List (List UInt8))(root:Bool)(fro to_ rr:Int)(name text:List UInt8)(ps:List PairL)(A:Option Addr)(n c:Nat)(hJ:SwJ sb base whole W sv op root)(hop:op.length≤1000000) :
 Calls Tryz.prog 47 #[.pointer (some ⟨sb,0,none⟩),.agg #[.int .i64 4,.int .i64 fro,.int .i64 to_,.string ⟨name.toArray⟩,.string ⟨text.toArray⟩,.slice A n c,.int .i64 rr]] W fun e w'=>MayPost sb base whole W sv (mayS whole op root ⟨4,fro,to_,name,text,ps,rr⟩) e w':=by
 have ka:=(Below.refl _ W).alloc (Nat.le_refl _) (.cells #[.int .i64 4,.int .i64 fro,.int .i64 to_,.string ⟨name.toArray⟩,.string ⟨text.toArray⟩,.slice A n c,.int .i64 rr] 47)
 have hJ1:=hJ.kept ka
 have hM1:MF sb W (W.alloc (.cells #[.int .i64 4,.int .i64 fro,.int .i64 to_,.string ⟨name.toArray⟩,.string ⟨text.toArray⟩,.slice A n c,.int .i64 rr] 47)) sv sv:=MF.ofBelow ka (by have:=hJ.lt;have:=hJ.le;omega)
 have q3:=hp_new W (.cells #[.int .i64 4,.int .i64 fro,.int .i64 to_,.string ⟨name.toArray⟩,.string ⟨text.toArray⟩,.slice A n c,.int .i64 rr] 47)
 have HInv:=Hd hJ.inv
 have hsW:sb<W.heap.size:=by have:=hJ.lt;have:=hJ.le;omega
 obtain⟨SA,SN,SC,hsv,hSN⟩: ∃ SA SN SC,sv= .slice SA SN SC∧SN=op.length:=by
  obtain⟨a,b,h⟩:=hJ.own.form
  exact⟨a,_,b,h,rfl⟩
 subst hsv
 have hSNb:(SN:Int)≤1000000:=by omega
 clear hJ ka
 obtain⟨V,hV⟩: ∃ V,W.alloc (.cells #[.int .i64 4,.int .i64 fro,.int .i64 to_,.string ⟨name.toArray⟩,.string ⟨text.toArray⟩,.slice A n c,.int .i64 rr] 47)=V:=⟨_,rfl⟩
 rw[hV]at hJ1 hM1 q3
 have HJ1:=Hd hJ1
 have HM1:=Hd hM1
 have HQ3:=Hd q3
 cases whole with
 |false =>
  have hsw:V.heap[sb]? =some (.cells #[.slice SA SN SC,.int .i64 0,.bool false] 81):=by have:=HJ1.out.sw;simpa using this
  have z0:=cell_of 0 hsw
  have z1:=cell_of 1 hsw
  have z2:=cell_of 2 hsw
  have y1:=free_of 1 hsw
  clear hSN
  clear hop hSNb
  have x0:=cell_of 0 HQ3.out
  have x3:=cell_of 3 HQ3.out
  have x4:=cell_of 4 HQ3.out
  clear hJ1 hM1
  have hE:mayS false op root ⟨4,fro,to_,name,text,ps,rr⟩=some (op,root):=by simp[mayS]
  rw[hE]
  go_enter Tryz.func47,Tryz.ntmps47
  go_wp2
  go_ret
  exact⟨rfl,_,HJ1.out,HM1.out⟩
 |true =>
  cases op with
  |nil =>
   cases root with
   |false =>
    have hsw:V.heap[sb]? =some (.cells #[.slice SA SN SC,.int .i64 0,.bool true] 81):=by have:=HJ1.out.sw;simpa using this
    have z0:=cell_of 0 hsw
    have z1:=cell_of 1 hsw
    have z2:=cell_of 2 hsw
    have y1:=free_of 1 hsw
    have hs0:SN=0:=by simpa using hSN
    clear hSN
    subst hs0
    clear hop hSNb
    have x0:=cell_of 0 HQ3.out
    have x3:=cell_of 3 HQ3.out
    have x4:=cell_of 4 HQ3.out
    clear hJ1 hM1
    have hE:mayS true [] false ⟨4,fro,to_,name,text,ps,rr⟩=none:=by simp[mayS]
    rw[hE]
    go_enter Tryz.func47,Tryz.ntmps47
    go_wp2
    go_ret
    exact⟨rfl,_,HM1.out⟩
   |true =>
    have hsw:V.heap[sb]? =some (.cells #[.slice SA SN SC,.int .i64 1,.bool true] 81):=by have:=HJ1.out.sw;simpa using this
    have z0:=cell_of 0 hsw
    have z1:=cell_of 1 hsw
    have z2:=cell_of 2 hsw
    have y1:=free_of 1 hsw
    have hs0:SN=0:=by simpa using hSN
    clear hSN
    subst hs0
    clear hop hSNb
    have x0:=cell_of 0 HQ3.out
    have x3:=cell_of 3 HQ3.out
    have x4:=cell_of 4 HQ3.out
    clear hJ1 hM1
    have hE:mayS true [] true ⟨4,fro,to_,name,text,ps,rr⟩=none:=by simp[mayS]
    rw[hE]
    go_enter Tryz.func47,Tryz.ntmps47
    go_wp2
    go_ret
    exact⟨rfl,_,HM1.out⟩
  |cons a op =>
   obtain rfl:root=true:=HInv.out rfl (by simp)
   have hsw:V.heap[sb]? =some (.cells #[.slice SA SN SC,.int .i64 1,.bool true] 81):=by have:=HJ1.out.sw;simpa using this
   have z0:=cell_of 0 hsw
   have z1:=cell_of 1 hsw
   have z2:=cell_of 2 hsw
   have y1:=free_of 1 hsw
   have hsn:((SN:Int)==0)=false:=by rw[hSN];simp;omega
   clear hSN
   clear hop hSNb
   have x0:=cell_of 0 HQ3.out
   have x3:=cell_of 3 HQ3.out
   have x4:=cell_of 4 HQ3.out
   clear hJ1 hM1
   have hE:mayS true (a :: op) true ⟨4,fro,to_,name,text,ps,rr⟩=some ((a :: op),true):=by simp[mayS]
   rw[hE]
   go_enter Tryz.func47,Tryz.ntmps47
   go_wp2
   go_ret
   exact⟨rfl,_,HJ1.out,HM1.out⟩
theorem may_k1 (sb base:Nat)(whole:Bool)(W:World)(sv:Value)(op:List (List UInt8))(root:Bool)(fro to_ rr:Int)(name text:List UInt8)(ps:List PairL)(A:Option Addr)(n c:Nat)(hJ:SwJ sb base whole W sv op root)(hop:op.length≤1000000)(htx:text.length≤500000) :
 Calls Tryz.prog 47 #[.pointer (some ⟨sb,0,none⟩),.agg #[.int .i64 1,.int .i64 fro,.int .i64 to_,.string ⟨name.toArray⟩,.string ⟨text.toArray⟩,.slice A n c,.int .i64 rr]] W fun e w'=>MayPost sb base whole W sv (mayS whole op root ⟨1,fro,to_,name,text,ps,rr⟩) e w':=by
 have ka:=(Below.refl _ W).alloc (Nat.le_refl _) (.cells #[.int .i64 1,.int .i64 fro,.int .i64 to_,.string ⟨name.toArray⟩,.string ⟨text.toArray⟩,.slice A n c,.int .i64 rr] 47)
 have hJ1:=hJ.kept ka
 have hM1:MF sb W (W.alloc (.cells #[.int .i64 1,.int .i64 fro,.int .i64 to_,.string ⟨name.toArray⟩,.string ⟨text.toArray⟩,.slice A n c,.int .i64 rr] 47)) sv sv:=MF.ofBelow ka (by have:=hJ.lt;have:=hJ.le;omega)
 have q3:=hp_new W (.cells #[.int .i64 1,.int .i64 fro,.int .i64 to_,.string ⟨name.toArray⟩,.string ⟨text.toArray⟩,.slice A n c,.int .i64 rr] 47)
 have HInv:=Hd hJ.inv
 have hsW:sb<W.heap.size:=by have:=hJ.lt;have:=hJ.le;omega
 obtain⟨SA,SN,SC,hsv,hSN⟩: ∃ SA SN SC,sv= .slice SA SN SC∧SN=op.length:=by
  obtain⟨a,b,h⟩:=hJ.own.form
  exact⟨a,_,b,h,rfl⟩
 subst hsv
 have hSNb:(SN:Int)≤1000000:=by omega
 clear hJ ka
 obtain⟨V,hV⟩: ∃ V,W.alloc (.cells #[.int .i64 1,.int .i64 fro,.int .i64 to_,.string ⟨name.toArray⟩,.string ⟨text.toArray⟩,.slice A n c,.int .i64 rr] 47)=V:=⟨_,rfl⟩
 rw[hV]at hJ1 hM1 q3
 have HJ1:=Hd hJ1
 have HM1:=Hd hM1
 have HQ3:=Hd q3
 cases whole with
 |false =>
  have hsw:V.heap[sb]? =some (.cells #[.slice SA SN SC,.int .i64 0,.bool false] 81):=by have:=HJ1.out.sw;simpa using this
  have z0:=cell_of 0 hsw
  have z1:=cell_of 1 hsw
  have z2:=cell_of 2 hsw
  have y1:=free_of 1 hsw
  clear hSN
  clear hop hSNb
  have x0:=cell_of 0 HQ3.out
  have x3:=cell_of 3 HQ3.out
  have x4:=cell_of 4 HQ3.out
  clear hJ1 hM1
  clear htx
  have hE:mayS false op root ⟨1,fro,to_,name,text,ps,rr⟩=some (op,root):=by simp[mayS]
  rw[hE]
  go_enter Tryz.func47,Tryz.ntmps47
  go_wp2
  go_ret
  exact⟨rfl,_,HJ1.out,HM1.out⟩
 |true =>
  cases op with
  |nil =>
   cases root with
   |false =>
    have hsw:V.heap[sb]? =some (.cells #[.slice SA SN SC,.int .i64 0,.bool true] 81):=by have:=HJ1.out.sw;simpa using this
    have z0:=cell_of 0 hsw
    have z1:=cell_of 1 hsw
    have z2:=cell_of 2 hsw
    have y1:=free_of 1 hsw
    have hs0:SN=0:=by simpa using hSN
    clear hSN
    subst hs0
    clear hop hSNb
    have x0:=cell_of 0 HQ3.out
    have x3:=cell_of 3 HQ3.out
    have x4:=cell_of 4 HQ3.out
    clear hJ1 hM1
    have CB:Hid (Calls Tryz.prog 72 #[.string ⟨text.toArray⟩] V fun e w'=>e= .returned (.bool (blankB text))∧Below V.heap.size V w'):=Hd (blankB_c text V htx)
    cases hb:blankB text
    · have hE:mayS true [] false ⟨1,fro,to_,name,text,ps,rr⟩=none:=by simp[mayS,hb]
      rw[hE]
      rw[hb]at CB
      go_enter Tryz.func47,Tryz.ntmps47
      go_wp2_with fail
      refine CB.out.mono ?_
      rintro e w1 ⟨rfl,hb1⟩
      have HM2:=Hd (HM1.out.trans (MF.ofBelow (sv:= .slice SA 0 SC) hb1 (by have:=HJ1.out.lt;have:=HJ1.out.le;omega)))
      clear hb1
      go_wp2
      go_ret
      exact⟨rfl,_,HM2.out⟩
    · have hE:mayS true [] false ⟨1,fro,to_,name,text,ps,rr⟩=some ([],false):=by simp[mayS,hb]
      rw[hE]
      rw[hb]at CB
      go_enter Tryz.func47,Tryz.ntmps47
      go_wp2_with fail
      refine CB.out.mono ?_
      rintro e w1 ⟨rfl,hb1⟩
      have HM2:=Hd (HM1.out.trans (MF.ofBelow (sv:= .slice SA 0 SC) hb1 (by have:=HJ1.out.lt;have:=HJ1.out.le;omega)))
      have HJ2:=Hd (HJ1.out.kept hb1)
      clear hb1
      go_wp2
      go_ret
      exact⟨rfl,_,HJ2.out,HM2.out⟩
   |true =>
    have hsw:V.heap[sb]? =some (.cells #[.slice SA SN SC,.int .i64 1,.bool true] 81):=by have:=HJ1.out.sw;simpa using this
    have z0:=cell_of 0 hsw
    have z1:=cell_of 1 hsw
    have z2:=cell_of 2 hsw
    have y1:=free_of 1 hsw
    have hs0:SN=0:=by simpa using hSN
    clear hSN
    subst hs0
    clear hop hSNb
    have x0:=cell_of 0 HQ3.out
    have x3:=cell_of 3 HQ3.out
    have x4:=cell_of 4 HQ3.out
    clear hJ1 hM1
    have CB:Hid (Calls Tryz.prog 72 #[.string ⟨text.toArray⟩] V fun e w'=>e= .returned (.bool (blankB text))∧Below V.heap.size V w'):=Hd (blankB_c text V htx)
    cases hb:blankB text
    · have hE:mayS true [] true ⟨1,fro,to_,name,text,ps,rr⟩=none:=by simp[mayS,hb]
      rw[hE]
      rw[hb]at CB
      go_enter Tryz.func47,Tryz.ntmps47
      go_wp2_with fail
      refine CB.out.mono ?_
      rintro e w1 ⟨rfl,hb1⟩
      have HM2:=Hd (HM1.out.trans (MF.ofBelow (sv:= .slice SA 0 SC) hb1 (by have:=HJ1.out.lt;have:=HJ1.out.le;omega)))
      clear hb1
      go_wp2
      go_ret
      exact⟨rfl,_,HM2.out⟩
    · have hE:mayS true [] true ⟨1,fro,to_,name,text,ps,rr⟩=some ([],true):=by simp[mayS,hb]
      rw[hE]
      rw[hb]at CB
      go_enter Tryz.func47,Tryz.ntmps47
      go_wp2_with fail
      refine CB.out.mono ?_
      rintro e w1 ⟨rfl,hb1⟩
      have HM2:=Hd (HM1.out.trans (MF.ofBelow (sv:= .slice SA 0 SC) hb1 (by have:=HJ1.out.lt;have:=HJ1.out.le;omega)))
      have HJ2:=Hd (HJ1.out.kept hb1)
      clear hb1
      go_wp2
      go_ret
      exact⟨rfl,_,HJ2.out,HM2.out⟩
  |cons a op =>
   obtain rfl:root=true:=HInv.out rfl (by simp)
   have hsw:V.heap[sb]? =some (.cells #[.slice SA SN SC,.int .i64 1,.bool true] 81):=by have:=HJ1.out.sw;simpa using this
   have z0:=cell_of 0 hsw
   have z1:=cell_of 1 hsw
   have z2:=cell_of 2 hsw
   have y1:=free_of 1 hsw
   have hsn:((SN:Int)==0)=false:=by rw[hSN];simp;omega
   clear hSN
   clear hop hSNb
   have x0:=cell_of 0 HQ3.out
   have x3:=cell_of 3 HQ3.out
   have x4:=cell_of 4 HQ3.out
   clear hJ1 hM1
   clear htx
   have hE:mayS true (a :: op) true ⟨1,fro,to_,name,text,ps,rr⟩=some ((a :: op),true):=by simp[mayS]
   rw[hE]
   go_enter Tryz.func47,Tryz.ntmps47
   go_wp2
   go_ret
   exact⟨rfl,_,HJ1.out,HM1.out⟩
theorem may_k8 (sb base:Nat)(whole:Bool)(W:World)(sv:Value)(op:List (List UInt8))(root:Bool)(fro to_ rr:Int)(name text:List UInt8)(ps:List PairL)(A:Option Addr)(n c:Nat)(hJ:SwJ sb base whole W sv op root)(hop:op.length≤1000000) :
 Calls Tryz.prog 47 #[.pointer (some ⟨sb,0,none⟩),.agg #[.int .i64 8,.int .i64 fro,.int .i64 to_,.string ⟨name.toArray⟩,.string ⟨text.toArray⟩,.slice A n c,.int .i64 rr]] W fun e w'=>MayPost sb base whole W sv (mayS whole op root ⟨8,fro,to_,name,text,ps,rr⟩) e w':=by
 have ka:=(Below.refl _ W).alloc (Nat.le_refl _) (.cells #[.int .i64 8,.int .i64 fro,.int .i64 to_,.string ⟨name.toArray⟩,.string ⟨text.toArray⟩,.slice A n c,.int .i64 rr] 47)
 have hJ1:=hJ.kept ka
 have hM1:MF sb W (W.alloc (.cells #[.int .i64 8,.int .i64 fro,.int .i64 to_,.string ⟨name.toArray⟩,.string ⟨text.toArray⟩,.slice A n c,.int .i64 rr] 47)) sv sv:=MF.ofBelow ka (by have:=hJ.lt;have:=hJ.le;omega)
 have q3:=hp_new W (.cells #[.int .i64 8,.int .i64 fro,.int .i64 to_,.string ⟨name.toArray⟩,.string ⟨text.toArray⟩,.slice A n c,.int .i64 rr] 47)
 have HInv:=Hd hJ.inv
 have hsW:sb<W.heap.size:=by have:=hJ.lt;have:=hJ.le;omega
 obtain⟨SA,SN,SC,hsv,hSN⟩: ∃ SA SN SC,sv= .slice SA SN SC∧SN=op.length:=by
  obtain⟨a,b,h⟩:=hJ.own.form
  exact⟨a,_,b,h,rfl⟩
 subst hsv
 have hSNb:(SN:Int)≤1000000:=by omega
 clear hJ ka
 obtain⟨V,hV⟩: ∃ V,W.alloc (.cells #[.int .i64 8,.int .i64 fro,.int .i64 to_,.string ⟨name.toArray⟩,.string ⟨text.toArray⟩,.slice A n c,.int .i64 rr] 47)=V:=⟨_,rfl⟩
 rw[hV]at hJ1 hM1 q3
 have HJ1:=Hd hJ1
 have HM1:=Hd hM1
 have HQ3:=Hd q3
 cases whole with
 |false =>
  have hsw:V.heap[sb]? =some (.cells #[.slice SA SN SC,.int .i64 0,.bool false] 81):=by have:=HJ1.out.sw;simpa using this
  have z0:=cell_of 0 hsw
  have z1:=cell_of 1 hsw
  have z2:=cell_of 2 hsw
  have y1:=free_of 1 hsw
  clear hSN
  clear hop hSNb
  have x0:=cell_of 0 HQ3.out
  have x3:=cell_of 3 HQ3.out
  have x4:=cell_of 4 HQ3.out
  clear hJ1 hM1
  have hE:mayS false op root ⟨8,fro,to_,name,text,ps,rr⟩=some (op,true):=by simp[mayS]
  rw[hE]
  have HJ2:Hid (SwJ sb base false V (.slice SA SN SC) op true):=Hd ⟨by simpa using hsw,HJ1.out.own,HJ1.out.lt,HJ1.out.le,fun h=>by cases h⟩
  go_enter Tryz.func47,Tryz.ntmps47
  go_wp2
  go_ret
  exact⟨rfl,_,HJ2.out,HM1.out⟩
 |true =>
  cases op with
  |nil =>
   cases root with
   |false =>
    have hsw:V.heap[sb]? =some (.cells #[.slice SA SN SC,.int .i64 0,.bool true] 81):=by have:=HJ1.out.sw;simpa using this
    have z0:=cell_of 0 hsw
    have z1:=cell_of 1 hsw
    have z2:=cell_of 2 hsw
    have y1:=free_of 1 hsw
    have hs0:SN=0:=by simpa using hSN
    clear hSN
    subst hs0
    clear hop hSNb
    have x0:=cell_of 0 HQ3.out
    have x3:=cell_of 3 HQ3.out
    have x4:=cell_of 4 HQ3.out
    clear hJ1 hM1
    have hE:mayS true [] false ⟨8,fro,to_,name,text,ps,rr⟩=some ([],true):=by simp[mayS]
    rw[hE]
    have HM2:Hid (MF sb W (V.setCell ⟨sb,1,none⟩ (.int .i64 1)) (.slice SA 0 SC) (.slice SA 0 SC)):=Hd (HM1.out.trans (MF.cell rfl))
    have HJ2:Hid (SwJ sb base true (V.setCell ⟨sb,1,none⟩ (.int .i64 1)) (.slice SA 0 SC) [] true):=Hd ⟨hp_set hsw,ownsRow_keep HJ1.out.own fun g hg _=>hp_other (by have:=HJ1.out.lt;omega),HJ1.out.lt,by simpa using HJ1.out.le,fun _ h=>absurd rfl h⟩
    go_enter Tryz.func47,Tryz.ntmps47
    go_wp2
    go_ret
    exact⟨rfl,_,HJ2.out,HM2.out⟩
   |true =>
    have hsw:V.heap[sb]? =some (.cells #[.slice SA SN SC,.int .i64 1,.bool true] 81):=by have:=HJ1.out.sw;simpa using this
    have z0:=cell_of 0 hsw
    have z1:=cell_of 1 hsw
    have z2:=cell_of 2 hsw
    have y1:=free_of 1 hsw
    have hs0:SN=0:=by simpa using hSN
    clear hSN
    subst hs0
    clear hop hSNb
    have x0:=cell_of 0 HQ3.out
    have x3:=cell_of 3 HQ3.out
    have x4:=cell_of 4 HQ3.out
    clear hJ1 hM1
    have hE:mayS true [] true ⟨8,fro,to_,name,text,ps,rr⟩=none:=by simp[mayS]
    rw[hE]
    have HM2:Hid (MF sb W (V.setCell ⟨sb,1,none⟩ (.int .i64 2)) (.slice SA 0 SC) (.slice SA 0 SC)):=Hd (HM1.out.trans (MF.cell rfl))
    go_enter Tryz.func47,Tryz.ntmps47
    go_wp2
    go_ret
    exact⟨rfl,_,HM2.out⟩
  |cons a op =>
   obtain rfl:root=true:=HInv.out rfl (by simp)
   have hsw:V.heap[sb]? =some (.cells #[.slice SA SN SC,.int .i64 1,.bool true] 81):=by have:=HJ1.out.sw;simpa using this
   have z0:=cell_of 0 hsw
   have z1:=cell_of 1 hsw
   have z2:=cell_of 2 hsw
   have y1:=free_of 1 hsw
   have hsn:((SN:Int)==0)=false:=by rw[hSN];simp;omega
   clear hSN
   clear hop hSNb
   have x0:=cell_of 0 HQ3.out
   have x3:=cell_of 3 HQ3.out
   have x4:=cell_of 4 HQ3.out
   clear hJ1 hM1
   have hE:mayS true (a :: op) true ⟨8,fro,to_,name,text,ps,rr⟩=some ((a :: op),true):=by simp[mayS]
   rw[hE]
   go_enter Tryz.func47,Tryz.ntmps47
   go_wp2
   go_ret
   exact⟨rfl,_,HJ1.out,HM1.out⟩
end Go.Proofs.YtbafljibbabnaaaGreatDoor
