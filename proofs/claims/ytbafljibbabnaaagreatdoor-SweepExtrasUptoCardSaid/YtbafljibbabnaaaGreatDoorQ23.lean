/- Texts of ours, joined: GoF, GoG, GoH, GoO, BgP. -/
import Derived.Test.YtbafljibbabnaaaGreatDoorQ22
namespace Go.Proofs.YtbafljibbabnaaaGreatDoor
open Go.ChangeShapes Go.WideShapes Go.ChangeAt Go.RowKit
set_option linter.unusedVariables false
set_option maxRecDepth 100000
set_option maxHeartbeats 32000000
theorem ixFuncI_c (fid:FuncId)(c0:Value)(f:Nat→Bool)(A:Option Addr)(n cap:Nat)(l:List Nat)(w:World)(h:RRd cI 1 w w.heap.size A n cap l)(hm:n≤1000000)
 (ec: ∀ args w,(callFunc fid args).run Tryz.prog w= .ok (.enter fid args) w) (HM: ∀ x∈l,∀ W,Below w.heap.size w W→Calls Tryz.prog fid #[.int .i64 (x:Int),c0] W fun e w'=>e= .returned (.bool (f x))∧Below W.heap.size W w') :
 Calls Tryz.prog 150 #[.slice A n cap,.func (.func fid) #[] #[c0]] w fun e w'=> ∃ r:Int,e= .returned (.int .i64 r)∧(0≤r ↔ l.any f=true)∧Below w.heap.size w w':=by
 have HP:Hid (∀ W,Below w.heap.size w W→RRd cI 1 W W.heap.size A n cap l):=Hd fun W hb=>(h.below hb).more hb.size
 have HL:Hid (l.length=n):=Hd h.len
 have HMM:=Hd HM
 clear h HM
 go_enter Tryz.func150,Tryz.ntmps150
 go_wp2
 go_loopg [8] (n) (fun g i wr=> ∃ t:Nat,i= .int .i64 (t:Int)∧t≤n∧Hid (g+t=n)∧Hid (Below w.heap.size w wr)∧Hid ((l.take t).any f=false))
 case atStart=>exact⟨0,rfl,Nat.zero_le _,Hd rfl,Hd (Below.refl _ _),Hd rfl⟩
 case round =>
  obtain⟨t,rfl,ht,hg,HB,HN⟩:=hrel
  have ht0:(0:Int)≤(t:Int):=by omega
  have ht9:(t:Int)≤1000000:=by omega
  by_cases htn:t<n
  · have hti:(t:Int)<(n:Int):=by omega
    obtain⟨b1,o1,x,rfl,hb1,hx,hc1⟩:=(HP.out _ HB.out).cell htn
    have HC:=Hd (HMM.out x (List.mem_of_getElem? hx) wr HB.out)
    have y0:wr.cell? ⟨b1,o1+t,none⟩=some (.int .i64 (x:Int)):=by rw[show o1+t=o1+(t*1+0)by omega];exact hc1 0 _ rfl
    have HTK:Hid ((l.take (t+1)).any f=f x):=Hd (by rw[List.take_add_one,hx,List.any_append,HN.out];simp)
    have HMEM:=Hd (List.mem_of_getElem? hx)
    obtain⟨b,hb⟩: ∃ q,f x=q:=⟨_,rfl⟩
    rw[hb]at HC HTK
    have HB9:=Hd hb
    clear hb1 hx hc1 hb
    go_wp2_with fail
    refine HC.out.mono ?_
    rintro e w2 ⟨rfl,hb2⟩
    have HB2:=Hd (HB.out.trans (hb2.mono HB.out.size))
    clear hb2 HC
    cases b with
    |true =>
     have HF:Hid (0≤(t:Int) ↔ l.any f=true):=Hd ⟨fun _=>List.any_eq_true.2 ⟨x,HMEM.out,HB9.out⟩,fun _=>by omega⟩
     go_wp2
     go_ret
     exact⟨_,rfl,HF.out,HB2.out⟩
    |false =>
     go_wp2
     go_roundg (n - (t+1))
     case measure=>have:=hg.out;omega
     case rel=>exact⟨t+1,by go_num,by omega,Hd (by have:=hg.out;omega),HB2,HTK⟩
  · have hti: ¬ (t:Int)<(n:Int):=by omega
    have HF:Hid ((0:Int)≤ -1 ↔ l.any f=true):=Hd ⟨fun h=>by omega,fun h=>by
     have:=HN.out
     rw[List.take_of_length_le (by rw[HL.out];omega),h]at this
     cases this⟩
    go_wp2
    go_ret
    exact⟨_,rfl,by first|exact HF.out|(have h9:=HF.out;rwa [List.any_eq_true]at h9),HB.out⟩
theorem hasFuncI_c (fid:FuncId)(c0:Value)(f:Nat→Bool)(A:Option Addr)(n cap:Nat)(l:List Nat)(w:World)(h:RRd cI 1 w w.heap.size A n cap l)(hm:n≤1000000)
 (ec: ∀ args w,(callFunc fid args).run Tryz.prog w= .ok (.enter fid args) w) (HM: ∀ x∈l,∀ W,Below w.heap.size w W→Calls Tryz.prog fid #[.int .i64 (x:Int),c0] W fun e w'=>e= .returned (.bool (f x))∧Below W.heap.size W w') :
 Calls Tryz.prog 127 #[.slice A n cap,.func (.func fid) #[] #[c0]] w fun e w'=>e= .returned (.bool (l.any f))∧Below w.heap.size w w':=by
 have C1:=Hd (ixFuncI_c fid c0 f A n cap l w h hm ec HM)
 clear h hm HM
 go_enter Tryz.func127,Tryz.ntmps127
 go_wp2_with fail
 refine C1.out.mono ?_
 rintro e w1 ⟨r,rfl,hr,hb⟩
 have HB:=Hd (And.intro hr hb)
 clear hb hr
 go_wp2
 go_ret
 refine⟨?_,HB.out.2⟩
 have:decide (0≤r)=l.any f:=by rw[Bool.eq_iff_iff,decide_eq_true_eq];exact HB.out.1
 rw[← this]
 rfl
def GB (T:TypeId)(NA:Option Addr)(nc:Nat)(TA:Option Addr)(n tc:Nat):Array Value:= #[.slice NA n nc,.slice TA n tc]
theorem rightOdd_c (S:Nat)(vT:Value)(NA:Option Addr)(nc n x:Nat)(w:World)(hq:w.heap[S]? =some (.cells #[.slice NA n nc,vT] 60 (0,0)))(hx:x≤1000000)(hn:n≤1000000) :
 Calls Tryz.prog 126 #[.int .i64 (x:Int),.pointer (some ⟨S,0,none⟩)] w fun e w'=>e= .returned (.bool (decide (n≤x)))∧Below w.heap.size w w':=by
 have z0:=cell_of 0 hq
 have hx0: ¬ (x:Int)<0:=by omega
 clear hq
 by_cases h:n≤x
 · have hge:(x:Int)≥(n:Int):=by omega
   have hd:decide (n≤x)=true:=by simpa using h
   rw[hd]
   clear h hd
   go_enter Tryz.func126,Tryz.ntmps126
   go_wp2
   go_ret
   exact⟨rfl,Below.refl _ _⟩
 · have hge: ¬ (x:Int)≥(n:Int):=by omega
   have hd:decide (n≤x)=false:=by simpa using h
   rw[hd]
   clear h hd
   go_enter Tryz.func126,Tryz.ntmps126
   go_wp2
   go_ret
   exact⟨rfl,Below.refl _ _⟩
theorem graphRight_c (NA:Option Addr)(nc:Nat)(TA:Option Addr)(n tc:Nat)(rs:List IRow)(g:List (List Nat))(w:World)(hrs:rs.map IRow.l=g)(h:GRd w w.heap.size TA n tc rs)(hok:okG g)(hm:n≤1000)(hs: ∀ t∈g,t.length≤100000) :
 Calls Tryz.prog 93 #[.agg #[.slice NA n nc,.slice TA n tc]] w fun e w'=>e= .returned (.bool true)∧Below w.heap.size w w':=by
 have hln:g.length=n:=by rw[← hrs,List.length_map];exact h.row.len
 have HP:Hid (∀ W,Below w.heap.size w W→GRd W W.heap.size TA n tc rs):=Hd fun W hb=>(h.below hb).more hb.size
 have HOK:=Hd (And.intro hok (And.intro hs (And.intro hrs hln)))
 have J0:=Hd (CJ.start 60 w #[.slice NA n nc,.slice TA n tc])
 clear h hok hs hrs hln
 go_enter Tryz.func93,Tryz.ntmps93
 go_wp2_with fail
 go_loopg [10] (n) (fun gq i wr=> ∃ t:Nat,i= .int .i64 (t:Int)∧t≤n∧Hid (gq+t=n)∧Hid (CJ 60 w wr #[.slice NA n nc,.slice TA n tc]))
 case atStart=>exact⟨0,rfl,Nat.zero_le _,Hd rfl,J0⟩
 case round =>
  clear J0
  obtain⟨t,rfl,ht,hg,HJ⟩:=hrel
  have ht0:(0:Int)≤(t:Int):=by omega
  have ht9:(t:Int)≤1000:=by omega
  have z0:=cell_of 0 HJ.out.2
  have z1:=cell_of 1 HJ.out.2
  by_cases htn:t<n
  · have hti:(t:Int)<(n:Int):=by omega
    obtain⟨b1,o1,ir,rfl,hb1,hir,hc1⟩:=(HP.out wr HJ.out.1).row.cell htn
    have y1:wr.cell? ⟨b1,o1+t,none⟩=some (.slice ir.A ir.n ir.c):=by rw[show o1+t=o1+(t*1+0)by omega];exact hc1 0 _ rfl
    have hrd:=(HP.out wr HJ.out.1).rows ir (List.mem_of_getElem? hir)
    have hgt2:g[t]? =some ir.l:=by rw[← HOK.out.2.2.1,List.getElem?_map,hir];rfl
    have hq9:ir.n≤1000000:=by have:=hrd.len;have:=HOK.out.2.1 _ (List.mem_of_getElem? hgt2);omega
    have hjl:=HOK.out.1 t ir.l hgt2
    have hany:ir.l.any (fun x=>decide (n≤x))=false:=by
     rw[List.any_eq_false]
     intro x hx
     have:=hjl x hx
     rw[HOK.out.2.2.2]at this
     simp
     omega
    have HC:=Hd (hasFuncI_c 126 (.pointer (some ⟨w.heap.size,0,none⟩)) (fun x=>decide (n≤x)) ir.A ir.n ir.c ir.l wr hrd hq9 (enters_of Tryz.func126 (by kernel_rfl) rfl) (fun x hx W hb=>rightOdd_c w.heap.size _ NA nc n x W ((HJ.out.kept hb).2) (by have:=hjl x hx;rw[HOK.out.2.2.2]at this;omega) (by omega)))
    rw[hany]at HC
    obtain⟨iA,q,iC,il⟩:=ir
    simp only at y1 HC
    clear hb1 hc1 hir hrd hgt2 hq9 hjl hany
    go_wp2_with fail
    refine HC.out.mono ?_
    rintro e w1 ⟨rfl,hb⟩
    have HJ1:=Hd (HJ.out.kept hb)
    clear hb HC
    go_wp2
    go_roundg (n - (t+1))
    case measure=>have:=hg.out;omega
    case rel=>exact⟨t+1,by go_num,by omega,Hd (by have:=hg.out;omega),HJ1⟩
  · have hti: ¬ (t:Int)<(n:Int):=by omega
    go_wp2
    go_ret
    exact⟨by simp,HJ.out.1⟩
theorem wpList_appH2 {P:Program}{ops:Array Oper}{rest:List Oper}{o:Oper}{a:Act}{Q:Exit→Act→World→Prop}{w:World}(hgd:o.guard=none)(s x:Operand)(t e:TypeId)
 (ho:o.op= .call { callee:= .builtin .append,args:= #[s,x],argTypes:= #[t,t] }) (z:Value) (k bytes:Nat) (ht:P.underlying t=some (.slice e))
 (hi: ∃ i,P.info? e=some i∧i.zero=some z∧i.size=k∧i.bytes=bytes) (hzs:z.cells.size=k) (hk:0<k)
 (base:Nat) (v:Value) (n:Nat) (xs:List Value) (hs:a.eval s=v) (hown:w.ownsRow base e k v n xs) (us:List Value) (us':Array Value) (hus:us'=us.toArray) (H:Nat) (hH:w.heap.size=H) (hx:a.eval x= .slice (some ⟨H,0,none⟩) 1 1)
 (hl:us.length=k) (h1: ∀ u∈us,u.oneCell'=true) (hn:n≤1000000000) (hby:bytes≤1000) (hbase:base≤w.heap.size)
 (h: ∀ v' w',w'.ownsRow base e k v' (n+1) (xs++us)→(w.alloc (.cells us' e)).grownBy w' v.ownBlock→(v'.ownBlock=v.ownBlock∨v'.ownBlock=some (w.heap.size+1))→wpList P ops Q rest (a.put o.dst v') w'):wpList P ops Q (o :: rest) a (w.alloc (.cells us' e)):=by
 subst hH
 exact wpList_appK hgd s x t e ho z k bytes ht hi hzs hk base v n xs hs hown us us' hus hx hl h1 hn hby hbase h
def OrJ (cs:Array Value)(n:Nat)(told:List Nat)(w W:World):Prop :=
 Below (w.heap.size+1) (w.alloc (.cells cs 60)) W∧w.heap.size+3≤W.heap.size∧W.heap[w.heap.size+1]? =some (.cells (nsI told) 3 (0,0))∧W.heap[w.heap.size+2]? =some (.cells #[.slice (some ⟨w.heap.size+1,0,none⟩) n n] 100 (0,0))
theorem OrJ.graph {cs:Array Value}{n:Nat}{told:List Nat}{w W:World}(h:OrJ cs n told w W):W.heap[w.heap.size]? =some (.cells cs 60 (0,0)):=(h.1.block _ (by omega)).trans (hp_new w _)
theorem OrJ.old {cs:Array Value}{n:Nat}{told:List Nat}{w W:World}(h:OrJ cs n told w W):Below w.heap.size w W:=((Below.refl _ w).alloc (Nat.le_refl _) _).trans (h.1.mono (by omega))
theorem OrJ.kept {cs:Array Value}{n:Nat}{told:List Nat}{w W W':World}(h:OrJ cs n told w W)(hb:Below W.heap.size W W'):OrJ cs n told w W':=by
 have h2:=h.2.1
 exact⟨h.1.trans (hb.mono (by omega)),Nat.le_trans h2 hb.size,(hb.block _ (by omega)).trans h.2.2.1,(hb.block _ (by omega)).trans h.2.2.2⟩
theorem OrJ.set {cs:Array Value}{n:Nat}{told:List Nat}{w W:World}(h:OrJ cs n told w W)(j:Nat):OrJ cs n (told.set j 1) w (W.setCell ⟨w.heap.size+1,j,none⟩ (.int .i64 1)) :=
 ⟨h.1.setCell (p:=⟨w.heap.size+1,j,none⟩) (Nat.le_refl _) _,by rw[World.size_setCell];exact h.2.1,by rw[hp_set h.2.2.1];rw[show (Value.int .i64 1)=Value.int .i64 ((1:Nat):Int) from rfl,nsI_set],(hp_other (by omega)).trans h.2.2.2⟩
theorem orderOpen_c (cs:Array Value)(n x:Nat)(told:List Nat)(w0 w:World)(h:OrJ cs n told w0 w)(hl:told.length=n)(hx:x<n)(hn:n≤1000000) :
 Calls Tryz.prog 128 #[.int .i64 (x:Int),.pointer (some ⟨w0.heap.size+1+1,0,none⟩)] w fun e w'=>e= .returned (.bool (decide (told.getD x 0=0)))∧Below w.heap.size w w':=by
 have z0:w.cell? ⟨w0.heap.size+1+1,0,none⟩=some (.slice (some ⟨w0.heap.size+1,0,none⟩) n n):=cell_of 0 h.2.2.2
 have z1:w.cell? ⟨w0.heap.size+1,x,none⟩=some (.int .i64 ((told.getD x 0:Nat):Int)):=by rw[cell_of x h.2.2.1,nsI_get _ _ (by omega)]
 have hx0:(0:Int)≤(x:Int):=by omega
 have hxi:(x:Int)<(n:Int):=by omega
 obtain⟨v,hv⟩: ∃ q,told.getD x 0=q:=⟨_,rfl⟩
 rw[hv]at z1 ⊢
 have hd:decide (v=0)=(((v:Nat):Int)==0):=by
  rw[Bool.eq_iff_iff,decide_eq_true_eq,beq_iff_eq]
  omega
 rw[hd]
 clear h hv hd
 go_enter Tryz.func128,Tryz.ntmps128
 go_wp2
 go_ret
 exact⟨rfl,Below.refl _ _⟩
def StuckO (g:List (List Nat))(told:List Nat)(i:Nat):Prop:=told.getD i 0≠0∨ ∃ t,g[i]? =some t∧ ∃ j∈t,told.getD j 0=0
theorem graphOrder_s (NA:Option Addr)(nc:Nat)(TA:Option Addr)(n tc:Nat)(rs:List IRow)(g:List (List Nat))(w:World)(hrs:rs.map IRow.l=g)(h:GRd w w.heap.size TA n tc rs)(hok:okG g)(hm:n≤1000)(hs: ∀ t∈g,t.length≤100000) :
 Calls Tryz.prog 94 #[.agg #[.slice NA n nc,.slice TA n tc]] w fun e w'=> ∃ OA oc l,e= .returned (.slice OA l.length oc)∧(∃ told,OInv g told l∧ ∀ i,i<n→StuckO g told i)∧OwnC cI 1 3 w' w.heap.size (.slice OA l.length oc) l∧Below w.heap.size w w':=by
 have hln:g.length=n:=by rw[← hrs,List.length_map];exact h.row.len
 have HP:Hid (∀ W,Below w.heap.size w W→GRd W W.heap.size TA n tc rs):=Hd fun W hb=>(h.below hb).more hb.size
 have HOK:=Hd (And.intro hok (And.intro hs (And.intro hrs hln)))
 have mk:=fun W=>mk_int W n (by omega)
 have O0:OInv g (List.replicate n 0) []:=by rw[← hln];exact OInv.begin g
 have J0:Hid (OrJ #[.slice NA n nc,.slice TA n tc] n (List.replicate n 0) w (((w.alloc (.cells #[.slice NA n nc,.slice TA n tc] 60)).alloc (.cells (nsI (List.replicate n 0)) 3)).alloc (.cells #[.slice (some ⟨w.heap.size+1,0,none⟩) n n] 100))∧OInv g (List.replicate n 0) []∧OwnC cI 1 3 (((w.alloc (.cells #[.slice NA n nc,.slice TA n tc] 60)).alloc (.cells (nsI (List.replicate n 0)) 3)).alloc (.cells #[.slice (some ⟨w.heap.size+1,0,none⟩) n n] 100)) (w.heap.size+3) (.slice none 0 0) []):=Hd (by
  have e1:=hp_new (w.alloc (.cells #[.slice NA n nc,.slice TA n tc] 60)) (.cells (nsI (List.replicate n 0)) 3)
  have e2:=hp_new ((w.alloc (.cells #[.slice NA n nc,.slice TA n tc] 60)).alloc (.cells (nsI (List.replicate n 0)) 3)) (.cells #[.slice (some ⟨w.heap.size+1,0,none⟩) n n] 100)
  simp only[World.size_alloc]at e1 e2
  exact⟨⟨((Below.refl _ _).alloc (by simp) _).alloc (by simp) _,by simp,hp_old e1,e2⟩,O0,OwnC.start _ _ _ _ _⟩)
 have z1:(w.alloc (.cells #[.slice NA n nc,.slice TA n tc] 60)).cell? ⟨w.heap.size,1,none⟩=some (.slice TA n tc):=by rw[cell_of 1 (hp_new w _)];rfl
 clear h hok hs hrs hln O0
 go_enter Tryz.func94,Tryz.ntmps94
 go_wp2_with fail
 go_step3
 go_wp2_with fail
 go_step3
 go_wp2_with fail
 clear z1 mk
 go_loopg [3] (n+1) (fun gq v wr=> ∃ (told l:List Nat),Hid (gq+l.length=n+1)∧Hid (OrJ #[.slice NA n nc,.slice TA n tc] n told w wr∧OInv g told l∧OwnC cI 1 3 wr (w.heap.size+3) v l))
 case atStart=>exact⟨_,[],Hd rfl,J0⟩
 case round =>
  clear J0
  obtain⟨told,l,hg,HJ⟩:=hrel
  obtain⟨LA,lc,hv⟩:=HJ.out.2.2.form
  subst hv
  have hll:l.length≤n:=by
   have h1:=HJ.out.2.1.cnt
   have h2:=HJ.out.2.1.len
   have h3:told.countP (fun n=>n != 0)≤told.length:=List.countP_le_length
   rw[HOK.out.2.2.2]at h2
   omega
  have htl:told.length=n:=by rw[HJ.out.2.1.len,HOK.out.2.2.2]
  have HTL:=Hd htl
  obtain⟨m,hml⟩: ∃ m,l.length=m:=⟨_,rfl⟩
  have HM:=Hd hml
  rw[hml]at hll ⊢
  have z1:=cell_of 1 HJ.out.1.graph
  have HJ0:=HJ
  clear hml htl
  go_wp2_with fail
  clear z1
  generalize wr=w9 at *
  go_loopg [3,16] (n) (fun gq v i wr=>v= .slice LA m lc∧ ∃ t:Nat,i= .int .i64 (t:Int)∧t≤n∧Hid (gq+t=n)∧Hid (OrJ #[.slice NA n nc,.slice TA n tc] n told w wr∧OwnC cI 1 3 wr (w.heap.size+3) (.slice LA m lc) l)∧Hid (∀ i,i<t→StuckO g told i))
  case atStart=>exact⟨rfl,0,rfl,Nat.zero_le _,Hd rfl,Hd ⟨HJ0.out.1,by have:=HJ0.out.2.2;rw[HM.out]at this;exact this⟩,Hd (fun i hi=>absurd hi (by omega))⟩
  case round =>
   obtain⟨rfl,t,rfl,ht,hgt,HI,HST⟩:=hrel
   have ht0:(0:Int)≤(t:Int):=by omega
   have ht9:(t:Int)≤1000:=by omega
   by_cases htn:t<n
   · have hti:(t:Int)<(n:Int):=by omega
     have z1:=cell_of 1 HI.out.1.graph
     obtain⟨b1,o1,ir,rfl,hb1,hir,hc1⟩:=(HP.out wr HI.out.1.old).row.cell htn
     have y1:wr.cell? ⟨b1,o1+t,none⟩=some (.slice ir.A ir.n ir.c):=by rw[show o1+t=o1+(t*1+0)by omega];exact hc1 0 _ rfl
     have hmem:ir∈rs:=List.mem_of_getElem? hir
     have hgt2:g[t]? =some ir.l:=by rw[← HOK.out.2.2.1,List.getElem?_map,hir];rfl
     have HGT:=Hd hgt2
     have hjl:=HOK.out.1 t ir.l hgt2
     have hq9:ir.n≤1000000:=by have:=((HP.out wr HI.out.1.old).rows ir hmem).len;have:=HOK.out.2.1 _ (List.mem_of_getElem? hgt2);omega
     have CO:=Hd (orderOpen_c _ n t told w wr HI.out.1 HTL.out htn (by omega))
     have CF:Hid (∀ W,Below wr.heap.size wr W→Calls Tryz.prog 127 #[.slice ir.A ir.n ir.c,.func (.func 128) #[] #[.pointer (some ⟨w.heap.size+1+1,0,none⟩)]] W fun e w'=>e= .returned (.bool (ir.l.any (fun x=>decide (told.getD x 0=0))))∧Below W.heap.size W w'):=Hd fun W hb =>
      hasFuncI_c 128 (.pointer (some ⟨w.heap.size+1+1,0,none⟩)) (fun x=>decide (told.getD x 0=0)) ir.A ir.n ir.c ir.l W ((HP.out W (HI.out.1.old.trans (hb.mono HI.out.1.old.size))).rows ir hmem) hq9 (enters_of Tryz.func128 (by kernel_rfl) rfl) (fun x hx W2 hb2=>orderOpen_c _ n x told w W2 ((HI.out.1.kept hb).kept hb2) HTL.out (by have:=hjl x hx;rw[HOK.out.2.2.2]at this;exact this) (by omega))
     obtain⟨ba,hba⟩: ∃ p,ir.l.any (fun x=>decide (told.getD x 0=0))=p:=⟨_,rfl⟩
     rw[hba]at CF
     obtain⟨bo,hbo⟩: ∃ p,decide (told.getD t 0=0)=p:=⟨_,rfl⟩
     rw[hbo]at CO
     have HBB:=Hd (And.intro hba hbo)
     obtain⟨iA,q,iC,il⟩:=ir
     simp only at y1 CF HBB HGT
     clear hb1 hc1 hmem hgt2 hjl hq9 hba hbo hir
     cases bo with
     |false =>
      go_wp2_with fail
      refine CO.out.mono ?_
      rintro e w2 ⟨rfl,hb⟩
      have HI2:=Hd (And.intro (HI.out.1.kept hb) (HI.out.2.kept hb))
      clear hb CO CF
      go_wp2
      go_roundg (n - (t+1))
      case measure=>have:=hgt.out;omega
      case rel=>exact⟨rfl,t+1,by go_num,by omega,Hd (by have:=hgt.out;omega),HI2,Hd (fun i hi=>(Nat.lt_or_ge i t).elim (HST.out i) fun h=>by
       obtain rfl:i=t:=by omega
       exact .inl (of_decide_eq_false HBB.out.2))⟩
     |true =>
      go_wp2_with fail
      refine CO.out.mono ?_
      rintro e w2 ⟨rfl,hb⟩
      have HI2:=Hd (And.intro (HI.out.1.kept hb) (HI.out.2.kept hb))
      have CF2:=Hd (CF.out w2 hb)
      clear hb CO CF
      go_wp2_with fail
      refine CF2.out.mono ?_
      rintro e w3 ⟨rfl,hb⟩
      have HI3:=Hd (And.intro (HI2.out.1.kept hb) (HI2.out.2.kept hb))
      clear hb CF2 HI2
      cases ba with
      |true =>
       go_wp2
       go_roundg (n - (t+1))
       case measure=>have:=hgt.out;omega
       case rel=>exact⟨rfl,t+1,by go_num,by omega,Hd (by have:=hgt.out;omega),HI3,Hd (fun i hi=>(Nat.lt_or_ge i t).elim (HST.out i) fun h=>by
        obtain rfl:i=t:=by omega
        obtain⟨j,hj,hd⟩:=List.any_eq_true.1 HBB.out.1
        exact .inr ⟨il,HGT.out,j,hj,of_decide_eq_true hd⟩)⟩
      |false =>
       have HON:Hid (OInv g (told.set t 1) (l++ [t])):=Hd (HJ0.out.2.1.next HGT.out (of_decide_eq_true HBB.out.2) (fun j hj=>by
        have h9:=List.any_eq_false.1 HBB.out.1 j hj
        simpa using h9))
       have hlm:m+1≤n:=by
        have h1:=HON.out.cnt
        have h2:=HON.out.len
        have h3:(told.set t 1).countP (fun n=>n != 0)≤(told.set t 1).length:=List.countP_le_length
        rw[HOK.out.2.2.2]at h2
        rw[List.length_append,HM.out]at h1
        simp only[List.length_cons,List.length_nil]at h1
        omega
       have c0:w3.cell? ⟨w.heap.size+1+1,0,none⟩=some (.slice (some ⟨w.heap.size+1,0,none⟩) n n):=cell_of 0 HI3.out.1.2.2.2
       have c1:w3.cell? ⟨w.heap.size+1,t,none⟩=some (.int .i64 ((told.getD t 0:Nat):Int)):=by rw[cell_of t HI3.out.1.2.2.1,nsI_get _ _ (by rw[HTL.out];exact htn)]
       have f1:w3.frozen? ⟨w.heap.size+1,t,none⟩=false:=free_of t HI3.out.1.2.2.1
       have J4:=Hd (HI3.out.1.set t)
       have O4:Hid (OwnC cI 1 3 (w3.setCell ⟨w.heap.size+1,t,none⟩ (.int .i64 1)) (w.heap.size+3) (.slice LA m lc) l):=Hd (HI3.out.2.keep fun p h1 h2=>hp_other (by omega))
       have hown:(w3.setCell ⟨w.heap.size+1,t,none⟩ (.int .i64 1)).ownsRow (w.heap.size+3) 3 1 (.slice LA m lc) m (l.flatMap cI):=by have h9:=O4.out;unfold OwnC at h9;rw[HM.out]at h9;exact h9
       have hba:w.heap.size+3≤(w3.setCell ⟨w.heap.size+1,t,none⟩ (.int .i64 1)).heap.size:=J4.out.2.1
       have hpl:m≤1000000000:=by omega
       generalize told.getD t 0=tv at *
       clear z1 y1 HI HI3 HJ HJ0
       go_wp2_with (at_builtin;refine wpList_appH2 rfl (.tmp 33) (.tmp 35) 100 3 rfl (.int .i64 0) 1 8 Tryz.underlying100 infoC_int rfl (by decide) _ _ _ _ rfl hown (cI t) _ rfl w3.heap.size (by rw[World.size_setCell]) rfl rfl (by simp[cI,Value.oneCell']) hpl (by decide) hba ?_)
       intro v6 w6 hown6 hg6 hat6
       have O6:OwnC cI 1 3 w6 (w.heap.size+3) v6 (l++ [t]):=OwnC.snoc (by rw[HM.out];exact hown6)
       have J6:OrJ #[.slice NA n nc,.slice (some ⟨b1,o1,none⟩) n tc] n (told.set t 1) w w6:=by
        have kb:=(Below.refl (w3.setCell ⟨w.heap.size+1,t,none⟩ (.int .i64 1)).heap.size (w3.setCell ⟨w.heap.size+1,t,none⟩ (.int .i64 1))).alloc (Nat.le_refl _) (.cells (cI t).toArray 3)
        have h1:=J4.out.kept kb
        have hne: ∀ k,k<w.heap.size+3→some k≠(Value.slice LA m lc).ownBlock:=fun k hk e=>by have:=(O4.out.ge e.symm).2;omega
        exact⟨h1.1.grown hg6 (Nat.le_trans (by omega) h1.2.1) (fun k hk=>by have:=(O4.out.ge hk).2;omega),Nat.le_trans h1.2.1 hg6.size,(hg6.block _ (Nat.lt_of_lt_of_le (by omega) h1.2.1) (hne _ (by omega))).trans h1.2.2.1,(hg6.block _ (Nat.lt_of_lt_of_le (by omega) h1.2.1) (hne _ (by omega))).trans h1.2.2.2⟩
       have HN6:=Hd (And.intro J6 (And.intro HON.out O6))
       clear hown6 hg6 hat6 hown hba O6 J6 c0 c1 f1
       go_wp2
       go_roundg (n+1 - (m+1))
       case measure=>have:=hg.out;have:=HM.out;omega
       case rel=>exact⟨told.set t 1,l++ [t],Hd (by have:=HM.out;rw[List.length_append];simp;omega),HN6⟩
   · have hti: ¬ (t:Int)<(n:Int):=by omega
     have htn2:t=n:=by omega
     have HF:Hid (OInv g told l∧Below w.heap.size w wr∧(∀ i,i<n→StuckO g told i)∧OwnC cI 1 3 wr w.heap.size (.slice LA l.length lc) l):=Hd ⟨HJ0.out.2.1,HI.out.1.old,fun i hi=>HST.out i (by omega),by have:=HI.out.2;rw[HM.out];exact this.base (by omega)⟩
     clear htn2
     have HM2:=HM.out
     clear HJ HJ0 HI
     subst HM2
     go_wp2
     (try simp only[Exit.inBlock,Exit.then,Exit.noGoto_ret])
     go_ret
     exact⟨LA,lc,l,rfl,⟨told,HF.out.1,HF.out.2.2.1⟩,HF.out.2.2.2,HF.out.2.1⟩
theorem graphOrd_c (NA:Option Addr)(nc:Nat)(TA:Option Addr)(n tc:Nat)(rs:List IRow)(g:List (List Nat))(w:World)(hrs:rs.map IRow.l=g)(h:GRd w w.heap.size TA n tc rs)(hok:okG g)(hm:n≤1000)(hs: ∀ t∈g,t.length≤100000) :
 Calls Tryz.prog 64 #[.agg #[.slice NA n nc,.slice TA n tc]] w fun e w'=> ∃ told l,Hid (OInv g told l∧ ∀ i,i<n→StuckO g told i)∧(l.length<n→e= .returned (.tuple #[.slice none 0 0,.int .i64 8]))∧(¬ l.length<n→ ∃ LA lc,e= .returned (.tuple #[.slice LA l.length lc,.int .i64 0])∧Hid (OwnC cI 1 3 w' w.heap.size (.slice LA l.length lc) l))∧Hid (Below w.heap.size w w'):=by
 have hln:g.length=n:=by rw[← hrs,List.length_map];exact h.row.len
 have HP:Hid (∀ W,Below w.heap.size w W→GRd W W.heap.size TA n tc rs):=Hd fun W hb=>(h.below hb).more hb.size
 have CR:Hid (∀ W,Below w.heap.size w W→Calls Tryz.prog 93 #[.agg #[.slice NA n nc,.slice TA n tc]] W fun e w'=>e= .returned (.bool true)∧Below W.heap.size W w'):=Hd fun W hb=>graphRight_c NA nc TA n tc rs g W hrs (HP.out W hb) hok hm hs
 have CO:Hid (∀ W,Below w.heap.size w W→Calls Tryz.prog 94 #[.agg #[.slice NA n nc,.slice TA n tc]] W fun e w'=> ∃ OA oc l,e= .returned (.slice OA l.length oc)∧(∃ told,OInv g told l∧ ∀ i,i<n→StuckO g told i)∧OwnC cI 1 3 w' W.heap.size (.slice OA l.length oc) l∧Below W.heap.size W w'):=Hd fun W hb=>graphOrder_s NA nc TA n tc rs g W hrs (HP.out W hb) hok hm hs
 have J0:=Hd (CJ.start 60 w #[.slice NA n nc,.slice TA n tc])
 have HLN:=Hd hln
 clear h hok hs hrs hln
 go_enter Tryz.func64,Tryz.ntmps64
 go_wp2_with fail
 refine(CR.out _ J0.out.1).mono ?_
 rintro e w1 ⟨rfl,hb1⟩
 have J1:=Hd (J0.out.kept hb1)
 have z0:=cell_of 0 J1.out.2
 have z1:=cell_of 1 J1.out.2
 clear hb1 J0 CR
 go_wp2_with fail
 refine(CO.out _ J1.out.1).mono ?_
 rintro e w2 ⟨OA,oc,l,rfl,⟨told,ho,hst⟩,hown,hb2⟩
 have HO:=Hd (And.intro ho hst)
 have HW:=Hd hown
 have J2:=Hd (J1.out.kept hb2)
 have HS1:=Hd J1.out.1.size
 have y0:=cell_of 0 J2.out.2
 have y1:=cell_of 1 J2.out.2
 have hll:l.length≤1000:=by
  have h1:=ho.cnt
  have h2:=ho.len
  have h3:told.countP (fun n=>n != 0)≤told.length:=List.countP_le_length
  have:=HLN.out
  omega
 obtain⟨m,hm2⟩: ∃ m,l.length=m:=⟨_,rfl⟩
 have HM:=Hd hm2
 rw[hm2]at hll HW ⊢
 clear hb2 CO z0 z1 ho hst hown J1 hm2
 by_cases hmn:m<n
 · have hmi:(m:Int)<(n:Int):=by omega
   go_wp2
   go_ret2
   exact⟨told,l,HO,fun _=>rfl,fun h=>absurd hmn (by rw[← HM.out];exact h),Hd J2.out.1⟩
 · have hmi: ¬ (m:Int)<(n:Int):=by omega
   go_wp2
   go_ret2
   refine⟨told,l,HO,fun h=>absurd h (by rw[HM.out];exact hmn),fun _=>⟨OA,oc,by rw[HM.out];rfl,Hd ?_⟩,Hd J2.out.1⟩
   rw[HM.out]
   exact HW.out.base HS1.out
def fstI (l:List EntT)(k:Nat)(s:List UInt8):Option Nat:=(l.take k).findIdx? (fun x=> !x.out && decide (x.nm=s))
theorem fstI_succ {l:List EntT}{k:Nat}{x:EntT}(h:l[k]? =some x)(s:List UInt8):fstI l (k+1) s=(fstI l k s).or (if x.out=false∧x.nm=s then some k else none):=by
 have hk:=(List.getElem?_eq_some_iff.1 h).1
 unfold fstI
 rw[List.take_add_one,h,Option.toList_some,List.findIdx?_append]
 congr 1
 rw[List.length_take,Nat.min_eq_left (Nat.le_of_lt hk)]
 cases ho:x.out with
 |true=>simp [List.findIdx?_cons,ho]
 |false =>
  by_cases e:x.nm=s
  · simp[List.findIdx?_cons,ho,e]
  · simp[List.findIdx?_cons,ho,e]
theorem fst_inner (l:List EntT): ∀ k,k≤l.length→(∀ s,(fstI l k s).isSome=true ↔ s∈(innerE (l.take k)).map EntT.nm)∧ ∀ x∈innerE (l.take k),∃ j,fstI l k x.nm=some j∧l[j]? =some x:=by
 intro k
 induction k with
 |zero=>intro _;exact⟨fun s=>by simp[fstI,innerE],fun x hx=>by simp[innerE]at hx⟩
 |succ k ih =>
  intro hk
  obtain⟨h1,h2⟩:=ih (by omega)
  have hx:=List.getElem?_eq_getElem (l:=l) (i:=k) (by omega)
  generalize l[k]=x at hx
  rw[inner_take hx]
  unfold innerF
  by_cases hc:x.out=true∨x.nm∈(innerE (l.take k)).map EntT.nm
  · rw[if_pos hc]
    have hs: ∀ s,fstI l (k+1) s=fstI l k s:=fun s=>by
     rw[fstI_succ hx]
     by_cases e:x.out=false∧x.nm=s
     · have h3:x.nm∈(innerE (l.take k)).map EntT.nm:=hc.resolve_left (by rw[e.1];simp)
       rw[e.2]at h3
       have h4:=(h1 s).2 h3
       cases h5:fstI l k s with
       |none=>rw [h5]at h4;cases h4
       |some j=>rfl
     · rw[if_neg e];simp
    exact⟨fun s=>by rw[hs];exact h1 s,fun y hy=>by rw[hs];exact h2 y hy⟩
  · rw[if_neg hc]
    have ho:x.out=false:=by cases h:x.out <;> simp_all
    have hn:x.nm ∉ (innerE (l.take k)).map EntT.nm:=fun h=>hc (.inr h)
    have hno:fstI l k x.nm=none:=by
     cases h5:fstI l k x.nm with
     |none=>rfl
     |some j=>exact absurd ((h1 x.nm).1 (by rw[h5];rfl)) hn
    refine⟨fun s=> ?_,fun y hy=> ?_⟩
    · rw[fstI_succ hx,List.map_append,List.mem_append,← h1 s]
      by_cases e:x.nm=s
      · simp[ho,e]
      · have e2: ¬ s=x.nm:=fun h=>e h.symm
        simp[e,e2]
    · rcases List.mem_append.1 hy with hy|hy
      · obtain⟨j,h3,h4⟩:=h2 y hy
        exact⟨j,by rw[fstI_succ hx,h3];rfl,h4⟩
      · rw[List.mem_singleton]at hy
        subst hy
        exact⟨k,by rw[fstI_succ hx,hno];simp[ho],hx⟩
theorem inner_nodup (l:List EntT):((innerE l).map EntT.nm).Nodup:=by
 have key: ∀ (l a:List EntT),(a.map EntT.nm).Nodup→((l.foldl innerF a).map EntT.nm).Nodup:=by
  intro l
  induction l with
  |nil=>intro a h;exact h
  |cons x l ih =>
   intro a h
   rw[List.foldl_cons]
   refine ih _ ?_
   unfold innerF
   split
   · exact h
   · rename_i hc
     rw[List.map_append,List.nodup_append]
     refine⟨h,by simp,fun y hy z hz e=> ?_⟩
     simp only[List.map_cons,List.map_nil,List.mem_singleton]at hz
     subst hz
     subst e
     exact hc (.inr hy)
 exact key l [] (by simp)
theorem nodup_idx {α:Type} [BEq α] [LawfulBEq α] {l:List α}(h:l.Nodup){i:Nat}{x:α}(hx:l[i]? =some x):l.idxOf x=i:=by
 have hm:=List.mem_of_getElem? hx
 have h1:=List.idxOf_lt_length_iff.2 hm
 have h2:l[l.idxOf x]=x:=List.getElem_idxOf h1
 obtain⟨hi,h3⟩:=List.getElem?_eq_some_iff.1 hx
 rw[List.nodup_iff_pairwise_ne,List.pairwise_iff_getElem]at h
 rcases Nat.lt_trichotomy (l.idxOf x) i with h4|h4|h4
 · exact absurd (h2.trans h3.symm) (h _ _ h1 hi h4)
 · exact h4
 · exact absurd (h3.trans h2.symm) (h _ _ hi h1 h4)
theorem inner_idx {l:List EntT}{i:Nat}{x:EntT}(h:(innerE l)[i]? =some x):((innerE l).map EntT.nm).idxOf x.nm=i :=
 nodup_idx (inner_nodup l) (by rw[List.getElem?_map,h];rfl)
theorem ord_full {l:List EntT}(hnl: ¬ loopsE l){told o:List Nat}(h:OInv (graphE l) told o)(hs: ∀ i,i<(innerE l).length→StuckO (graphE l) told i):o.length=(innerE l).length:=by
 have key: ∀ r i,i<(innerE l).length→rankW (graphE l) i≤r→told.getD i 0≠0:=by
  intro r
  induction r with
  |zero =>
   intro i hi hr
   rcases hs i hi with h|⟨t,ht,j,hj,hz⟩
   · exact h
   · have:=(edge_rank hnl i j ⟨t,ht,hj⟩).2
     omega
  |succ r ih =>
   intro i hi hr
   rcases hs i hi with h|⟨t,ht,j,hj,hz⟩
   · exact h
   · have e:=edge_rank hnl i j ⟨t,ht,hj⟩
     exact absurd hz (ih j e.1 (by omega))
 have hl:=h.len
 rw[graphE_len]at hl
 rw[← h.cnt,← hl,List.countP_eq_length]
 intro a ha
 obtain⟨i,hi,rfl⟩:=List.getElem_of_mem ha
 have:=key _ i (by omega) (Nat.le_refl _)
 rw[List.getD_eq_getElem?_getD,List.getElem?_eq_getElem hi]at this
 simpa using this
theorem ord_lt {l:List EntT}{told o:List Nat}(h:OInv (graphE l) told o){i:Nat}(hi:i∈o):i<(innerE l).length:=by
 have h1:=(h.t i).2 hi
 have hl:=h.len
 rw[graphE_len]at hl
 rcases Nat.lt_or_ge i told.length with h2|h2
 · omega
 · rw[List.getD_eq_getElem?_getD,List.getElem?_eq_none h2]at h1
   exact absurd rfl h1
theorem ord_all {l:List EntT}{told o:List Nat}(h:OInv (graphE l) told o)(hl:o.length=(innerE l).length){i:Nat}(hi:i<(innerE l).length):i∈o:=by
 have hc:=h.cnt
 have h2:=h.len
 rw[graphE_len]at h2
 rw[hl,← h2,List.countP_eq_length]at hc
 refine(h.t i).1 ?_
 have:=hc told[i] (List.getElem_mem (by omega))
 rw[List.getD_eq_getElem?_getD,List.getElem?_eq_getElem (by omega)]
 simpa using this
noncomputable def outZ (l:List EntT)(done:List Nat):List (Nat × Nat × Nat):=(List.range (innerE l).length).map fun i=>if i∈done then sizesE l i else (0,0,0)
theorem outZ_len (l:List EntT)(done:List Nat):(outZ l done).length=(innerE l).length:=by simp[outZ]
theorem outZ_nil (l:List EntT):outZ l []=List.replicate (innerE l).length (0,0,0):=by
 unfold outZ
 apply List.ext_getElem
 · simp
 · intro i h1 h2;simp
theorem outZ_snoc (l:List EntT)(done:List Nat)(i:Nat):outZ l (done++ [i])=(outZ l done).set i (sizesE l i):=by
 apply List.ext_getElem
 · simp[outZ]
 · intro j h1 h2
   rw[List.getElem_set]
   simp only[outZ,List.getElem_map,List.getElem_range]
   by_cases e:i=j
   · subst e;simp
   · rw[if_neg e]
     have e2: ¬ j=i:=fun h=>e h.symm
     simp[e2]
theorem outZ_all {l:List EntT}{o:List Nat}(h: ∀ i,i<(innerE l).length→i∈o):outZ l o=(List.range (innerE l).length).map (sizesE l):=by
 unfold outZ
 refine List.map_congr_left fun i hi=> ?_
 rw[if_pos (h i (List.mem_range.1 hi))]
theorem lookP_snoc {l:List EntT}{done:List Nat}{i:Nat}{x:EntT}(hx:(innerE l)[i]? =some x)(s:List UInt8):lookP l (done++ [i]) s=putL (lookP l done) x.nm (sizesE l i) s:=by
 unfold putL lookP
 have hi:=inner_idx hx
 have hm:x.nm∈(innerE l).map EntT.nm:=List.mem_map.2 ⟨x,List.mem_of_getElem? hx,rfl⟩
 by_cases e:s=x.nm
 · subst e
   rw[if_pos rfl,if_pos ⟨hm,by rw[hi];simp⟩,hi]
 · rw[if_neg e]
   by_cases hs:s∈(innerE l).map EntT.nm
   · have hne:((innerE l).map EntT.nm).idxOf s≠i:=fun h=>by
      have h1:=List.idxOf_lt_length_iff.2 hs
      have h2:((innerE l).map EntT.nm)[((innerE l).map EntT.nm).idxOf s]=s:=List.getElem_idxOf h1
      have h3:((innerE l).map EntT.nm)[i]? =some x.nm:=by rw[List.getElem?_map,hx];rfl
      have h4:((innerE l).map EntT.nm)[((innerE l).map EntT.nm).idxOf s]? =some s:=by rw[List.getElem?_eq_getElem h1,h2]
      rw[h,h3]at h4
      exact e (Option.some.inj h4).symm
     simp[hne]
   · rw[if_neg (fun h=>hs h.1),if_neg (fun h=>hs h.1)]
theorem lookP_bound {l:List EntT}(hnl: ¬ loopsE l)(done:List Nat)(s:List UInt8)(z:Nat × Nat × Nat)(h:lookP l done s=some z):z.1≤9223372036854775807∧z.2.1≤9223372036854775807∧z.2.2≤(innerE l).length+1:=by
 unfold lookP at h
 split at h
 · rename_i hs
   cases h
   exact sizes_bound hnl _ (by have:=List.idxOf_lt_length_iff.2 hs.1;simpa using this)
 · cases h
def TxI (w:World)(b:Nat)(l:List EntT)(k:Nat):Prop:= ∃ (n:Nat) (D:DataW Unit),n≤k∧w.ownsMap Tryz.prog 9 (Go.plainElem Tryz.prog 3) b n D∧(∀ s:List UInt8,Go.Maps.has D (.string s)=(fstI l k s).isSome)∧ ∀ s:List UInt8,D.atKey (.string s) (.lit (.int .i64 0))= .lit (.int .i64 ((fstI l k s).getD 0:Nat))
theorem TxI.start (w:World)(l:List EntT):TxI (w.alloc (.map #[] 0)) w.heap.size l 0:=⟨0,.map [],Nat.le_refl _,World.ownsMap_made _ _ _ _,fun s=>rfl,fun s=>rfl⟩
theorem TxI.kept {w w':World}{b:Nat}{l:List EntT}{k:Nat}(h:TxI w b l k)(hb:w'.heap[b]? =w.heap[b]?):TxI w' b l k:=by
 obtain⟨n,D,h0,h1,h2,h3⟩:=h
 obtain⟨es,clock,hq,r⟩:=h1
 exact⟨n,D,h0,⟨es,clock,hb.trans hq,r⟩,h2,h3⟩
theorem TxI.lt {w:World}{b:Nat}{l:List EntT}{k:Nat}(h:TxI w b l k):b<w.heap.size:=by
 obtain⟨n,D,_,h1,_⟩:=h
 exact h1.lt
theorem TxI.same {w:World}{b:Nat}{l:List EntT}{k:Nat}(h:TxI w b l k)(e: ∀ s,fstI l (k+1) s=fstI l k s):TxI w b l (k+1):=by
 obtain⟨n,D,h0,h1,h2,h3⟩:=h
 exact⟨n,D,by omega,h1,fun s=>by rw[e];exact h2 s,fun s=>by rw[e];exact h3 s⟩
theorem txI_put {D:DataW Unit}{l:List EntT}{k:Nat}{x:EntT}(hx:l[k]? =some x)(ho:x.out=false)(hno:fstI l k x.nm=none)(hi:Go.Maps.IsMap D)(hh: ∀ s:List UInt8,Go.Maps.has D (.string s)=(fstI l k s).isSome)(ha: ∀ s:List UInt8,D.atKey (.string s) (.lit (.int .i64 0))= .lit (.int .i64 ((fstI l k s).getD 0:Nat))) :
 (∀ s:List UInt8,Go.Maps.has (D.put (.string x.nm) (.lit (.int .i64 (k:Nat)))) (.string s)=(fstI l (k+1) s).isSome)∧ ∀ s:List UInt8,(D.put (.string x.nm) (.lit (.int .i64 (k:Nat)))).atKey (.string s) (.lit (.int .i64 0))= .lit (.int .i64 ((fstI l (k+1) s).getD 0:Nat)):=by
 refine⟨fun s=> ?_,fun s=> ?_⟩
 · rw[fstI_succ hx]
   by_cases e:s=x.nm
   · subst e
     rw[Go.Maps.has_put_same hi (by simp[WideAt.IsKeyLit]),hno]
     simp[ho]
   · rw[Go.Maps.has_put_other (by simpa using e),hh,if_neg (fun h=>e h.2.symm)]
     simp
 · rw[fstI_succ hx]
   by_cases e:s=x.nm
   · subst e
     rw[Go.Maps.atKey_put_same hi (by simp[WideAt.IsKeyLit]),hno]
     simp[ho]
   · rw[Go.Maps.atKey_put_other (by simpa using e),ha,if_neg (fun h=>e h.2.symm)]
     simp
theorem fst_same {l:List EntT}{k:Nat}{x:EntT}(hx:l[k]? =some x)(h:(fstI l k x.nm).isSome=true∨x.out=true)(s:List UInt8):fstI l (k+1) s=fstI l k s:=by
 rw[fstI_succ hx]
 by_cases e:x.out=false∧x.nm=s
 · rcases h with h|h
   · rw[e.2]at h
     cases h5:fstI l k s with
     |none=>rw [h5]at h;cases h
     |some j=>rfl
   · rw[e.1]at h;cases h
 · rw[if_neg e];simp
end Go.Proofs.YtbafljibbabnaaaGreatDoor
