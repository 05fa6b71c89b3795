/- Texts of ours, joined: GrF, RowT, Tok5, SwP, Sw1, Sw2. -/
import Derived.Test.YtbafljibbabnaaaGreatDoorQ43
namespace Go.Proofs.YtbafljibbabnaaaGreatDoor
open Go.ChangeShapes Go.WideShapes Go.ChangeAt Go.RowKit
set_option linter.unusedVariables false
set_option maxRecDepth 100000
set_option maxHeartbeats 32000000
theorem rfLoop_c (NA:Option Addr)(nc:Nat)(TA:Option Addr)(n tc:Nat)(rs:List IRow)(g:List (List Nat))(w:World)(hrs:rs.map IRow.l=g)(h:GRd w w.heap.size TA n tc rs)(hok:okG g)(hm:n≤1000)(hs: ∀ t∈g,t.length≤100000) :
 Calls Tryz.prog 19 #[.agg #[.slice NA n nc,.slice TA n tc]] w fun e w'=> ∃ r:Int,e= .returned (.int .i64 r)∧(0≤r ↔ ∃ i,Way g i i)∧Below w.heap.size w w':=by
 have hln:g.length=n:=by rw[← hrs,List.length_map];exact h.row.len
 have HP:Hid (∀ W,Below w.heap.size w W→GRd W W.heap.size TA n tc rs):=Hd fun W hb=>(h.below hb).more hb.size
 have CL:Hid (∀ W,Below w.heap.size w W→ ∀ t:Nat,t≤1000→Calls Tryz.prog 43 #[.agg #[.slice NA n nc,.slice TA n tc],.int .i64 (t:Int)] W fun e w'=>e= .returned (.slice (some ⟨W.heap.size+1,0,none⟩) n n)∧w'.heap[W.heap.size+1]? =some (.cells (bsB (leadsL g t)) 4 (0,0))∧Below W.heap.size W w'):=Hd fun W hb t ht=>rfLeads_c NA nc TA n tc t rs g W hrs (HP.out W hb) hok hm hs (by omega)
 have HLD:Hid (∀ t,(leadsL g t).getD t false=true ↔ Way g t t):=Hd fun t=>leads_iff hok t t
 have HLN:=Hd hln
 have J0:=Hd (CJ.start 69 w #[.slice NA n nc,.slice TA n tc])
 clear h hok hrs hln hs HP
 go_enter Tryz.func19,Tryz.ntmps19
 go_wp2_with fail
 go_loopg [3] (n) (fun gq i wr=> ∃ t:Nat,i= .int .i64 (t:Int)∧t≤n∧Hid (gq+t=n)∧Hid (CJ 69 w wr #[.slice NA n nc,.slice TA n tc])∧Hid (∀ i<t,¬ Way g i i))
 case atStart=>exact⟨0,rfl,Nat.zero_le _,Hd rfl,J0,Hd fun i hi=>absurd hi (by omega)⟩
 case round =>
  clear J0
  obtain⟨t,rfl,ht,hg,HJ,HN⟩:=hrel
  have ht0:(0:Int)≤(t:Int):=by omega
  have ht9:(t:Int)≤1000:=by omega
  have z0:=cell_of 0 HJ.out.2
  have z1:=cell_of 1 HJ.out.2
  by_cases htn:t<n
  · have hti:(t:Int)<(n:Int):=by omega
    have C1:=Hd (CL.out wr HJ.out.1 t (by omega))
    have htl:t<(leadsL g t).length:=by rw[leadsL_len,HLN.out];exact htn
    obtain⟨b,hb⟩: ∃ q,(leadsL g t).getD t false=q:=⟨_,rfl⟩
    have HB:=Hd hb
    clear hb
    go_wp2_with fail
    refine C1.out.mono ?_
    rintro e w1 ⟨rfl,hq,hb⟩
    have c1:w1.cell? ⟨wr.heap.size+1,t,none⟩=some (.bool b):=by rw[cell_of t hq,bsB_get _ t htl,HB.out]
    have HJ1:=Hd (HJ.out.kept hb)
    clear hq hb C1 z0 z1 htl
    cases b with
    |true =>
     have HW:Hid (0≤(t:Int) ↔ ∃ i,Way g i i):=Hd ⟨fun _=>⟨t,(HLD.out t).1 HB.out⟩,fun _=>by omega⟩
     go_wp2
     go_ret
     exact⟨_,rfl,HW.out,HJ1.out.1⟩
    |false =>
     have HN2:Hid (∀ i<t+1,¬ Way g i i):=Hd fun i hi hw=>by
      by_cases hit:i=t
      · subst hit
        have:=(HLD.out i).2 hw
        rw[HB.out]at this
        cases this
      · exact HN.out i (by omega) hw
     go_wp2
     go_roundg (n - (t+1))
     case measure=>have:=hg.out;omega
     case rel=>exact⟨t+1,by go_num,by omega,Hd (by have:=hg.out;omega),HJ1,HN2⟩
  · have hti: ¬ (t:Int)<(n:Int):=by omega
    have HW:Hid ((0:Int)≤ -1 ↔ ∃ i,Way g i i):=Hd ⟨fun h=>by omega,fun⟨i,hi⟩=>absurd hi (HN.out i (by have:=hi.lt;rw[HLN.out]at this;omega))⟩
    go_wp2
    go_ret
    exact⟨_,rfl,HW.out,HJ.out.1⟩
theorem graph_rows (l:List EntT)(hx: ∀ x∈l,x.tx.length≤20000): ∀ t∈graphE l,t.length≤100000:=by
 intro t ht
 unfold graphE at ht
 obtain⟨x,hx1,rfl⟩:=List.mem_map.1 ht
 have h1:=toE_len ((innerE l).map EntT.nm) (eachL x.tx)
 have h2:=eachL_len x.tx
 have h3:=hx x ((inner_sub l [] x (fun _ h=>h) hx1).resolve_right (fun h=>by cases h))
 omega
theorem rfLoops_c (A:Option Addr)(n cap:Nat)(l:List EntT)(w:World)(h:RRd cE 6 w w.heap.size A n cap l)(hm:n≤1000)(hx: ∀ x∈l,x.tx.length≤20000) :
 Calls Tryz.prog 9 #[.slice A n cap] w fun e w'=> ∃ b:Bool,e= .returned (.bool b)∧(b=true ↔ loopsE l)∧Below w.heap.size w w':=by
 have C1:=Hd (rfOf_c A n cap l w h hm hx)
 have hin:(innerE l).length≤1000:=by have:=inner_len l [];have:=h.len;unfold innerE;simp only[List.length_nil]at *;omega
 have HGR:=Hd (graph_rows l hx)
 clear h hx
 go_enter Tryz.func9,Tryz.ntmps9
 go_wp2_with fail
 refine C1.out.mono ?_
 rintro e w1 ⟨NA,nc,TA,tc,rs,rfl,hrs,_,hgr,hb⟩
 have C2:=Hd (rfLoop_c NA nc TA (innerE l).length tc rs (graphE l) w1 hrs hgr (graphE_ok l) hin HGR.out)
 have HB:=Hd hb
 clear hrs hgr hb C1
 go_wp2_with fail
 refine C2.out.mono ?_
 rintro e w2 ⟨r,rfl,hr,hb⟩
 have HB2:=Hd (HB.out.trans (hb.mono HB.out.size))
 have HR:=Hd hr
 clear hb hr C2
 go_wp2
 go_ret
 exact⟨decide (0≤r),rfl,by rw[decide_eq_true_eq];exact HR.out,HB2.out⟩
def sumT (l:List EntT):Nat:=(l.map (fun x=>x.tx.length)).sum
theorem sumT_take {l:List EntT}{t:Nat}{x:EntT}(h:l[t]? =some x):sumT (l.take (t+1))=sumT (l.take t)+x.tx.length:=by
 unfold sumT
 rw[List.take_add_one,h,List.map_append,List.sum_append]
 simp
theorem sumT_le (l:List EntT)(b:Nat)(h: ∀ x∈l,x.tx.length≤b):sumT l≤l.length*b:=by
 unfold sumT
 induction l with
 |nil=>simp
 |cons x l ih =>
  have h1:=ih fun y hy=>h y (List.mem_cons_of_mem _ hy)
  have h2:=h x List.mem_cons_self
  simp only[List.map_cons,List.sum_cons,List.length_cons,Nat.add_mul]
  omega
def muchE (l:List EntT):Bool:=decide (24<l.length) || decide (1500<sumT (l.take 50))
theorem rfMuch_c (A:Option Addr)(n cap:Nat)(l:List EntT)(w:World)(h:RRd cE 6 w w.heap.size A n cap l)(hx: ∀ x∈l,x.tx.length≤281474976710656) :
 Calls Tryz.prog 4 #[.slice A n cap] w fun e w'=>e= .returned (.bool (muchE l))∧Below w.heap.size w w':=by
 have HP:Hid (∀ W,Below w.heap.size w W→RRd cE 6 W W.heap.size A n cap l):=Hd fun W hb=>(h.below hb).more hb.size
 have HL:Hid (l.length=n):=Hd h.len
 have HX:Hid (∀ t,t≤50→sumT (l.take t)≤14073748835532800):=Hd fun t ht=>by
  have h1:=sumT_le (l.take t) 281474976710656 fun x hx2=>hx x (List.mem_of_mem_take hx2)
  have h2:(l.take t).length≤50:=by rw[List.length_take];omega
  have h3:(l.take t).length*281474976710656≤50*281474976710656:=Nat.mul_le_mul_right _ h2
  omega
 have hfit:n≤maxLen:=Nat.le_trans h.le h.fit
 have hfit2:n≤9223372036854775807:=by unfold maxLen at hfit;omega
 clear h hx hfit
 go_enter Tryz.func4,Tryz.ntmps4
 go_wp2
 go_loopg [3,4] (50) (fun g s i wr=> ∃ t:Nat,i= .int .i64 (t:Int)∧t≤n∧t≤50∧Hid (g+t=50)∧s= .int .i64 ((sumT (l.take t):Nat):Int)∧Hid (Below w.heap.size w wr))
 case atStart=>exact⟨0,rfl,Nat.zero_le _,Nat.zero_le _,Hd rfl,rfl,Hd (Below.refl _ _)⟩
 case round =>
  obtain⟨t,rfl,ht,ht5,hg,rfl,HB⟩:=hrel
  have ht0:(0:Int)≤(t:Int):=by omega
  by_cases htn:t<n∧t<50
  · obtain⟨htn,ht50⟩:=htn
    have hti:(t:Int)<(n:Int):=by omega
    have htj:(t:Int)<50:=by omega
    obtain⟨b1,o1,x,rfl,hb1,hx,hc1⟩:=(HP.out wr HB.out).cell htn
    have y1:wr.cell? ⟨b1,o1+t*6+1,none⟩=some (.string ⟨x.tx.toArray⟩):=by rw[show o1+t*6+1=o1+(t*6+1)by omega];exact hc1 1 _ rfl
    have HT:=Hd (sumT_take hx)
    have hs1:=HX.out (t+1) (by omega)
    rw[HT.out]at hs1
    obtain⟨s,hs⟩: ∃ q,sumT (l.take t)=q:=⟨_,rfl⟩
    obtain⟨xt,hxt⟩: ∃ q,x.tx=q:=⟨_,rfl⟩
    rw[hs,hxt]at HT hs1
    rw[hxt]at y1
    rw[hs]
    have hsz:(⟨xt.toArray⟩:ByteArray).size=xt.length:=by simp[ByteArray.size]
    have hwr:IntKind.i64.wrap ((s:Int)+(xt.length:Int))=((s+xt.length:Nat):Int):=by rw[IntKind.wrap_i64];omega
    clear hb1 hx hc1 hs hxt hs1
    go_wp2
    go_roundg (50 - (t+1))
    case measure=>have:=hg.out;omega
    case rel=>exact⟨t+1,by go_num,by omega,by omega,Hd (by have:=hg.out;omega),by rw[HT.out,Int.natCast_add],HB⟩
  · have hE:Hid (muchE l=(decide (24<n) || decide (1500<sumT (l.take t)))):=Hd (by
     unfold muchE
     rw[HL.out]
     by_cases h50:t=50
     · rw[h50]
     · have htn2:t=n:=by omega
       rw[List.take_of_length_le (by rw[HL.out];omega),List.take_of_length_le (by rw[HL.out];omega)])
    have hs1:=HX.out t ht5
    obtain⟨s,hs⟩: ∃ q,sumT (l.take t)=q:=⟨_,rfl⟩
    rw[hs]at hE hs1 ⊢
    have HEND:Hid (t<n→ ¬ t<50):=Hd fun h1 h2=>htn ⟨h1,h2⟩
    clear htn hs
    by_cases htn:t<n
    · have hti:(t:Int)<(n:Int):=by omega
      have htj: ¬ (t:Int)<50:=by have:=HEND.out htn;omega
      by_cases h24:24<n
      · have h24i:(n:Int)>24:=by omega
        have hE2:Hid (muchE l=true):=Hd (by rw[hE.out];simp[h24])
        clear hs1
        go_wp2
        go_ret
        exact⟨by rw[hE2.out];rfl,HB.out⟩
      · exfalso
        have:=HEND.out htn
        omega
    · have hti: ¬ (t:Int)<(n:Int):=by omega
      by_cases h24:24<n
      · have h24i:(n:Int)>24:=by omega
        have hE2:Hid (muchE l=true):=Hd (by rw[hE.out];simp[h24])
        clear hs1
        go_wp2
        go_ret
        exact⟨by rw[hE2.out];rfl,HB.out⟩
      · have h24i: ¬ (n:Int)>24:=by omega
        by_cases h15:1500<s
        · have h15i:(s:Int)>1500:=by omega
          have hE2:Hid (muchE l=true):=Hd (by rw[hE.out];simp[h15])
          clear hs1
          go_wp2
          go_ret
          exact⟨by rw[hE2.out];rfl,HB.out⟩
        · have h15i: ¬ (s:Int)>1500:=by omega
          have hE2:Hid (muchE l=false):=Hd (by rw[hE.out];simp[h24,h15])
          clear hs1
          go_wp2
          go_ret
          exact⟨by rw[hE2.out];rfl,HB.out⟩
theorem OwnS.last {w:World}{base:Nat}{v:Value}{op:List (List UInt8)}{s:List UInt8}(h:OwnS w base v (op++ [s])) :
 ∃ g c,v= .slice (some ⟨g,0,none⟩) (op.length+1) c∧op.length+1≤c∧base≤g∧g<w.heap.size∧w.cell? ⟨g,op.length,none⟩=some (strV s)∧OwnS w base (.slice (some ⟨g,0,none⟩) op.length c) op:=by
 obtain⟨hl,⟨hv,h0⟩|⟨g,cap,cur,hv,hg,hh,hn,hc,hs,ht⟩⟩:=h
 · simp at h0
 · rw[List.length_append,List.length_singleton]at hv hn ht
   refine⟨g,cap,hv,hn,hg,lt_of hh,?_,by simp,.inr ⟨g,cap,cur,rfl,hg,hh,by omega,hc,hs,?_⟩⟩
   · rw[cell_of _ hh]
     have:(cur.toList.take ((op.length+1)*1))[op.length]? =some (strV s):=by rw[ht,List.map_append,List.getElem?_append_right (by simp)];simp
     rw[List.getElem?_take_of_lt (by omega)]at this
     simpa using this
   · have:=congrArg (List.take (op.length*1)) ht
     rw[List.take_take,show min (op.length*1) ((op.length+1)*1)=op.length*1 by omega]at this
     rw[this,List.map_append,List.take_left' (by simp)]
theorem OwnS.cap {w:World}{base:Nat}{A:Option Addr}{c:Nat}{op:List (List UInt8)}(h:OwnS w base (.slice A op.length c) op):op.length≤c∧c≤maxLen:=by
 obtain⟨hl,⟨hv,h0⟩|⟨g,cap,cur,hv,hg,hh,hn,hc,hs,ht⟩⟩:=h
 · injection hv with h1 h2 h3
   exact⟨by omega,by omega⟩
 · injection hv with h1 h2 h3
   exact⟨by omega,by omega⟩
theorem run_cutS {w:World}(A:Option Addr)(n cap t:Nat)(ht:t≤cap):(Instr.slice 57 (.slice A n cap) none (some (.int .i64 (t:Int))) none).run Tryz.prog w= .ok (.slice A t cap) w:=by
 rw[run_slice_h (P:=Tryz.prog) (w:=w) 57 A n cap (by kernel_rfl) .i64 (t:Int) (by omega) (by omega),show(sizeOf (Tryz.prog.elem 57)).run Tryz.prog w= .ok 1 w by kernel_rfl]
 simp[sliced]
 intro _
 cases A with
 |none=>rfl
 |some a=>simp [Addr.add]
theorem OwnS.of {w:World}{base:Nat}{v:Value}{op:List (List UInt8)}{s:List UInt8}(h:w.ownsRow base 9 1 v (op.length+1) (op.map strV++ [strV s])):OwnS w base v (op++ [s]):=by
 unfold OwnS
 rw[List.length_append,List.length_singleton,List.map_append]
 exact h
def blankB (s:List UInt8):Bool:=decide (blankTo s 0=s.length)
def mayS (whole:Bool)(op:List (List UInt8))(root:Bool)(t:TokL):Option (List (List UInt8) × Bool) :=
 if t.kind=7 then (if (whole && op.isEmpty && root)=true then none else some (op++ [t.name],true))
 else if t.kind=8 then (if (whole && op.isEmpty && root)=true then none else some (op,true))
 else if t.kind=9 then (if op.getLast? =some t.name then some (op.dropLast,root) else none)
 else if t.kind=1 then (if (whole && op.isEmpty && !blankB t.text)=true then none else some (op,root))
 else if t.kind=2∨t.kind=3∨t.kind=4 then (if (whole && op.isEmpty)=true then none else some (op,root))
 else some (op,root)
def leftOut (whole:Bool)(op:List (List UInt8))(t:TokL):Bool:=whole && op.isEmpty && decide (t.kind=1)
def overR (l:List UInt8)(whole:Bool):Nat→List TokL→List (List UInt8)→Bool→Nat→List TokL × Nat × Nat
 |0,_,_,_,_=>([],0,0)
 |f+1,acc,op,root,t =>
  if t<l.length then
   (if (nextOut l t).2≠0 then ([],t,(nextOut l t).2)
    else match mayS whole op root (nextOut l t).1 with
     |none=>([],t,7)
     |some (op',root')=>overR l whole f (if leftOut whole op (nextOut l t).1=true then acc else acc++ [(nextOut l t).1]) op' root' (nextOut l t).1.to_.toNat)
  else if (!op.isEmpty || (whole && !root))=true then ([],t,7) else (acc,t,0)
def overAt (l:List UInt8)(at_:Int)(whole:Bool):List TokL × Nat × Nat:=if at_<0∨(l.length:Int)<at_ then ([],0,3) else overR l whole (l.length+1) [] [] false at_.toNat
theorem over_open {l:List UInt8}{whole:Bool}{f t:Nat}{acc:List TokL}{op:List (List UInt8)}{root:Bool}(h: ¬ t<l.length)(hb:(!op.isEmpty || (whole && !root))=true):overR l whole (f+1) acc op root t=([],t,7):=by rw[overR,if_neg h,if_pos hb]
theorem over_end {l:List UInt8}{whole:Bool}{f t:Nat}{acc:List TokL}{op:List (List UInt8)}{root:Bool}(h: ¬ t<l.length)(hb:(!op.isEmpty || (whole && !root))=false):overR l whole (f+1) acc op root t=(acc,t,0):=by rw[overR,if_neg h,if_neg (by rw[hb];simp)]
theorem over_bad {l:List UInt8}{whole:Bool}{f t:Nat}{acc:List TokL}{op:List (List UInt8)}{root:Bool}(h:t<l.length){e:Nat}(he:(nextOut l t).2=e)(h0:e≠0):overR l whole (f+1) acc op root t=([],t,e):=by
 rw[overR,if_pos h,if_pos (by rw[he];exact h0),he]
theorem over_no {l:List UInt8}{whole:Bool}{f t:Nat}{acc:List TokL}{op:List (List UInt8)}{root:Bool}{k:TokL}(h:t<l.length)(he:nextOut l t=(k,0))(hm:mayS whole op root k=none):overR l whole (f+1) acc op root t=([],t,7):=by
 rw[overR,if_pos h,if_neg (by rw[he];simp),he]
 simp only[hm]
theorem over_more {l:List UInt8}{whole:Bool}{f t u:Nat}{acc:List TokL}{op op':List (List UInt8)}{root root':Bool}{k:TokL}(h:t<l.length)(he:nextOut l t=(k,0))(hm:mayS whole op root k=some (op',root'))(hu:k.to_=(u:Int)) :
 overR l whole (f+1) acc op root t=overR l whole f (if leftOut whole op k=true then acc else acc++ [k]) op' root' u:=by
 rw[overR,if_pos h,if_neg (by rw[he];simp),he]
 simp only[hm,hu,Int.toNat_natCast]
theorem kind_of (l:List UInt8)(k:Nat)(h:(nextOut l k).2=0):1≤(nextOut l k).1.kind∧(nextOut l k).1.kind≤9:=by
 unfold nextOut at h ⊢
 split
 · rename_i h1
   simp only
   unfold readTok at h1 ⊢
   split
   · constructor <;> simp
   · rename_i g;rw[if_neg g]at h1
     split
     · constructor <;> simp
     · rename_i g;rw[if_neg g]at h1
       split
       · constructor <;> simp
       · rename_i g;rw[if_neg g]at h1
         split
         · constructor <;> simp
         · rename_i g;rw[if_neg g]at h1
           split
           · simp only;split <;> constructor <;> simp
           · rename_i g;rw[if_neg g]at h1
             split
             · constructor <;> simp
             · rename_i g;rw[if_neg g]at h1
               split
               · constructor <;> simp
               · rename_i g;rw[if_neg g]at h1
                 unfold textTok at h1 ⊢
                 split
                 · rename_i g;rw[if_pos g]at h1;cases h1
                 · constructor <;> simp
 · rename_i h1;rw[if_neg h1]at h;exact absurd h h1
structure MF (sb:Nat) (W X:World) (sv sv':Value):Prop where
 below:Below sb W X
 blk: ∀ k,k<W.heap.size→k≠sb→some k≠sv.ownBlock→X.heap[k]? =W.heap[k]?
 own:sv'.ownBlock=sv.ownBlock∨ ∃ g,sv'.ownBlock=some g∧W.heap.size≤g
theorem MF.ofBelow {sb:Nat}{W X:World}{sv:Value}(hb:Below W.heap.size W X)(hs:sb≤W.heap.size):MF sb W X sv sv:=⟨hb.mono hs,fun k hk _ _=>hb.block k hk,.inl rfl⟩
theorem MF.trans {sb:Nat}{W X Y:World}{a b c:Value}(h1:MF sb W X a b)(h2:MF sb X Y b c):MF sb W Y a c:=by
 have hs:=h1.below.size
 refine⟨h1.below.trans h2.below,fun k hk hne hown=> ?_,?_⟩
 · rw[h2.blk k (by omega) hne ?_]
   · exact h1.blk k hk hne hown
   · rcases h1.own with e|⟨g,e,hg⟩
     · rw[e];exact hown
     · rw[e];intro h;cases h;omega
 · rcases h2.own with e|⟨g,e,hg⟩
   · rw[e];exact h1.own
   · exact .inr ⟨g,e,by omega⟩
theorem MF.cell {sb i:Nat}{W:World}{a b v:Value}(he:b.ownBlock=a.ownBlock):MF sb W (W.setCell ⟨sb,i,none⟩ v) a b :=
 ⟨(Below.refl _ _).setCell (p:=⟨sb,i,none⟩) (Nat.le_refl _) v,fun k hk hne _=>hp_other hne,.inl he⟩
theorem MF.keep {sb:Nat}{W X:World}{sv sv':Value}(h:MF sb W X sv sv'){A:Option Addr}{n cap:Nat}{ps:List PairL}(hp:PRd W W.heap.size A n cap ps)(ho:0<cap→ ∀ b i,A=some ⟨b,i,none⟩→b≠sb∧some b≠sv.ownBlock):PRd X X.heap.size A n cap ps :=
 hp.moveC h.below.size fun h0 b i hA hb=>h.blk b hb (ho h0 b i hA).1 (ho h0 b i hA).2
theorem ownS_lt {w:World}{base:Nat}{v:Value}{op:List (List UInt8)}(h:OwnS w base v op){b:Nat}(hb:v.ownBlock=some b):b<w.heap.size∧base≤b:=ownBlock_lt h hb
theorem ownS_ne {w:World}{base:Nat}{v:Value}{op:List (List UInt8)}(h:OwnS w base v op){b:Nat}(hb:b<base):some b≠v.ownBlock:=fun e=>by
 have:=(ownS_lt h e.symm).2
 omega
theorem push_c (sb base:Nat)(sv:Value)(op:List (List UInt8))(s:List UInt8)(r:Int)(whole:Bool)(W:World)(hq:W.heap[sb]? =some (.cells #[sv,.int .i64 r,.bool whole] 81))(ho:OwnS W base sv op)(hsb:sb<base)(hbW:base≤W.heap.size)(hop:op.length≤1000000) :
 Calls Tryz.prog 70 #[.pointer (some ⟨sb,0,none⟩),.string ⟨s.toArray⟩] W fun e w'=>e= .returned (.tuple #[])∧ ∃ sv',w'.heap[sb]? =some (.cells #[sv',.int .i64 r,.bool whole] 81)∧OwnS w' base sv' (op++ [s])∧MF sb W w' sv sv':=by
 have z0:=cell_of 0 hq
 have hown2:=ho
 unfold OwnS at hown2
 have HQ:=Hd hq
 have HO:=Hd ho
 have hopn:op.length≤1000000000:=by omega
 have hsW:sb<W.heap.size:=by omega
 clear hq ho
 go_enter Tryz.func70,Tryz.ntmps70
 go_wp2_with (at_builtin;refine wpList_appK rfl (.tmp 8) (.tmp 10) 57 9 rfl (.string ⟨#[]⟩) 1 16 Tryz.underlying57 info_str rfl (by decide) base _ op.length (op.map strV) rfl hown2 [strV s] _ rfl rfl rfl (by simp[strV,Value.oneCell']) hopn (by decide) hbW ?_)
 intro v4 w4 hown4 hg4 hat4
 have hs4:=hg4.size
 rw[World.size_alloc]at hs4
 have HO4:=OwnS.of hown4
 obtain⟨A6,n6,c6,rfl⟩: ∃ A n c,v4= .slice A n c:=by
  obtain⟨A6,c6,h6⟩:=HO4.form
  exact⟨_,_,_,h6⟩
 have hq4:w4.heap[sb]? =some (.cells #[sv,.int .i64 r,.bool whole] 81):=by
  rw[hg4.block sb (by rw[World.size_alloc];omega) (ownS_ne HO.out hsb),Below.heap_alloc _ _ _ hsW]
  exact HQ.out
 have x0:=cell_of 0 hq4
 have y0:=free_of 0 hq4
 have hM:MF sb W w4 sv (.slice A6 n6 c6):=by
  refine⟨(((Below.refl sb W).alloc (Nat.le_of_lt hsW) _).grown hg4 (by rw[World.size_alloc];omega) fun k hk=> ?_),fun k hk hne hown=> ?_,?_⟩
  · have:=(ownS_lt HO.out hk).2
    omega
  · rw[hg4.block k (by rw[World.size_alloc];omega) hown,Below.heap_alloc _ _ _ hk]
  · rcases hat4 with e|e
    · exact .inl e
    · exact .inr ⟨_,e,by omega⟩
 have HF:Hid ((w4.setCell ⟨sb,0,none⟩ (.slice A6 n6 c6)).heap[sb]? =some (.cells #[.slice A6 n6 c6,.int .i64 r,.bool whole] 81)∧OwnS (w4.setCell ⟨sb,0,none⟩ (.slice A6 n6 c6)) base (.slice A6 n6 c6) (op++ [s])∧MF sb W (w4.setCell ⟨sb,0,none⟩ (.slice A6 n6 c6)) sv (.slice A6 n6 c6)):=Hd ⟨hp_set hq4,ownsRow_keep HO4 fun g hg _=>hp_other (by omega),hM.trans (MF.cell rfl)⟩
 clear hown4 hg4 hat4 HO4 hM hq4
 go_wp2
 go_end0
 exact⟨rfl,_,HF.out.1,HF.out.2.1,HF.out.2.2⟩
theorem pop_no (sb base:Nat)(sv:Value)(op:List (List UInt8))(s:List UInt8)(r:Int)(whole:Bool)(W:World)(hq:W.heap[sb]? =some (.cells #[sv,.int .i64 r,.bool whole] 81))(ho:OwnS W base sv op)(hop:op.length≤1000000)(hn:op.getLast? ≠some s) :
 Calls Tryz.prog 71 #[.pointer (some ⟨sb,0,none⟩),.string ⟨s.toArray⟩] W fun e w'=>e= .returned (.bool false)∧W=w':=by
 have z0:=cell_of 0 hq
 rcases List.eq_nil_or_concat op with rfl|⟨op2,s2,rfl⟩
 · obtain⟨A4,c4,rfl⟩:=ho.form
   clear hq ho
   simp only[List.length_nil]at z0
   go_enter Tryz.func71,Tryz.ntmps71
   go_wp2
   go_ret
   exact⟨rfl,rfl⟩
 · rw[List.concat_eq_append]at *
   obtain⟨g5,c5,rfl,hc5,hg5,hgl5,hz5,ho5⟩:=ho.last
   have hop2:op2.length≤1000000:=by rw[List.length_append]at hop;omega
   have hs:s2≠s:=by simpa using hn
   have hbn:(s2==s)=false:=by simpa using hs
   have l0:(0:Int)≤(op2.length:Int):=by omega
   have l1:(op2.length:Int)<(op2.length:Int)+1:=by omega
   have l4: ¬ (op2.length:Int)<0:=by omega
   have l9:(op2.length:Int)≤1000000:=by omega
   have l2:IntKind.i64.wrap (op2.length:Int)=(op2.length:Int):=by rw[IntKind.wrap_i64];omega
   unfold strV at hz5
   clear hq ho ho5 hop hn hs
   generalize op2.length=m5 at *
   go_enter Tryz.func71,Tryz.ntmps71
   go_wp2
   go_ret
   exact⟨rfl,rfl⟩
theorem pop_yes (sb base:Nat)(sv:Value)(op2:List (List UInt8))(s:List UInt8)(r:Int)(whole:Bool)(W:World)(hq:W.heap[sb]? =some (.cells #[sv,.int .i64 r,.bool whole] 81))(ho:OwnS W base sv (op2++ [s]))(hsb:sb<base)(hop:op2.length≤1000000) :
 Calls Tryz.prog 71 #[.pointer (some ⟨sb,0,none⟩),.string ⟨s.toArray⟩] W fun e w'=>e= .returned (.bool true)∧ ∃ sv',w'.heap[sb]? =some (.cells #[sv',.int .i64 r,.bool whole] 81)∧OwnS w' base sv' op2∧MF sb W w' sv sv':=by
 have z0:=cell_of 0 hq
 have y0:=free_of 0 hq
 obtain⟨g5,c5,rfl,hc5,hg5,hgl5,hz5,ho5⟩:=ho.last
 have hbn:(s==s)=true:=by simp
 have l0:(0:Int)≤(op2.length:Int):=by omega
 have l1:(op2.length:Int)<(op2.length:Int)+1:=by omega
 have l4: ¬ (op2.length:Int)<0:=by omega
 have l9:(op2.length:Int)≤1000000:=by omega
 have l2:IntKind.i64.wrap (op2.length:Int)=(op2.length:Int):=by rw[IntKind.wrap_i64];omega
 have hcut:=fun W=>run_cutS (w:=W) (some ⟨g5,0,none⟩) (op2.length+1) c5 op2.length (by omega)
 unfold strV at hz5
 have HF:Hid ((W.setCell ⟨sb,0,none⟩ (.slice (some ⟨g5,0,none⟩) op2.length c5)).heap[sb]? =some (.cells #[.slice (some ⟨g5,0,none⟩) op2.length c5,.int .i64 r,.bool whole] 81)∧OwnS (W.setCell ⟨sb,0,none⟩ (.slice (some ⟨g5,0,none⟩) op2.length c5)) base (.slice (some ⟨g5,0,none⟩) op2.length c5) op2∧MF sb W (W.setCell ⟨sb,0,none⟩ (.slice (some ⟨g5,0,none⟩) op2.length c5)) (.slice (some ⟨g5,0,none⟩) (op2.length+1) c5) (.slice (some ⟨g5,0,none⟩) op2.length c5)) :=
  Hd ⟨hp_set hq,ownsRow_keep ho5 fun g hg _=>hp_other (by omega),MF.cell rfl⟩
 clear hq ho ho5 hop
 generalize op2.length=m5 at *
 go_enter Tryz.func71,Tryz.ntmps71
 go_wp2
 go_ret
 exact⟨rfl,_,HF.out.1,HF.out.2.1,HF.out.2.2⟩
theorem blankB_c (s:List UInt8)(W:World)(hs:s.length≤500000):Calls Tryz.prog 72 #[.string ⟨s.toArray⟩] W fun e w'=>e= .returned (.bool (blankB s))∧Below W.heap.size W w':=by
 have cv:=run_toBytes W s
 have hb1:=Go.Joins.below_bytesWorld W.heap.size W 5 ⟨s.toArray⟩ (Nat.le_refl _)
 have C1:=Hd (blanks_c _ _ _ _ 0 _ _ (byt_new W s (by omega)) (by omega) (Nat.zero_le _))
 have HB:=Hd hb1
 have hE:((blankTo s 0:Int)==(s.length:Int))=blankB s:=by
  unfold blankB
  rw[Bool.eq_iff_iff]
  simp
  omega
 have HE:=Hd hE
 generalize blankTo s 0=b at *
 clear hb1 hE
 go_enter Tryz.func72,Tryz.ntmps72
 go_wp2_with fail
 refine C1.out.mono ?_
 rintro e wq ⟨rfl,hwq⟩
 subst hwq
 go_wp2
 go_ret
 exact⟨by simp[← HE.out],HB.out⟩
structure SwJ (sb base:Nat) (whole:Bool) (W:World) (sv:Value) (op:List (List UInt8)) (root:Bool):Prop where
 sw:W.heap[sb]? =some (.cells #[sv,.int .i64 (if (whole && root)=true then 1 else 0),.bool whole] 81)
 own:OwnS W base sv op
 lt:sb<base
 le:base≤W.heap.size
 inv:whole=true→op≠ []→root=true
theorem SwJ.kept {sb base:Nat}{whole:Bool}{W W':World}{sv:Value}{op:List (List UInt8)}{root:Bool}(h:SwJ sb base whole W sv op root)(hb:Below W.heap.size W W'):SwJ sb base whole W' sv op root :=
 ⟨by rw[hb.block _ (lt_of h.sw)];exact h.sw,h.own.kept hb,h.lt,Nat.le_trans h.le hb.size,h.inv⟩
def MayPost (sb base:Nat)(whole:Bool)(W:World)(sv:Value)(o:Option (List (List UInt8) × Bool))(e:Ending)(w':World):Prop :=
 match o with
 |some (op',root')=>e= .returned (.bool true)∧ ∃ sv',SwJ sb base whole w' sv' op' root'∧MF sb W w' sv sv'
 |none=>e= .returned (.bool false)∧ ∃ sv',MF sb W w' sv sv'
end Go.Proofs.YtbafljibbabnaaaGreatDoor
