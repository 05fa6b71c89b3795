/- Texts of ours, joined: RnA, Calm. -/
import Derived.StillTail
import Derived.Test.YtbafljibbabnaaaGreatDoorQ16
namespace Go.Proofs.YtbafljibbabnaaaGreatDoor
open Go.ChangeShapes Go.WideShapes Go.ChangeAt Go.RowKit
set_option linter.unusedVariables false
set_option maxRecDepth 100000
set_option maxHeartbeats 32000000
attribute [local go_sem] Oper.semAt_some
theorem infoC_prf: ∃ i,Tryz.prog.info? 107=some i∧i.zero=some (.agg #[.int .i64 0,.int .i64 0,.string ⟨#[]⟩])∧i.size=3∧i.bytes=32:=by
 have h:(Tryz.prog.info? 107).map (fun i=>(i.zero,i.size,i.bytes))=some (some (.agg #[.int .i64 0,.int .i64 0,.string ⟨#[]⟩]),3,32):=by kernel_rfl
 obtain⟨i,h1,h2,h3,h4⟩:=info_parts h
 exact⟨i,h1,h2,h3,h4⟩
def SqI {α:Type}(c:α→List Value)(k:Nat)(e T:TypeId)(f:List (Nat × Nat × List UInt8)→List α)(S0 S1 B1:Nat)(w0:World)(pre:List (Nat × Nat × List UInt8))(W:World):Prop :=
 (∃ v,Boxed W S1 T v∧OwnC c k e W B1 v (f pre))∧Below S0 w0 W∧B1≤W.heap.size
theorem SqI.grown {α:Type}{c:α→List Value}{k:Nat}{e T:TypeId}{f:List (Nat × Nat × List UInt8)→List α}{S0 S1 B1:Nat}{w0:World}{pre:List (Nat × Nat × List UInt8)}{W W':World}{row:Option Nat}{Bn:Nat}(h:SqI c k e T f S0 S1 B1 w0 pre W)(hS:S0≤w0.heap.size)(h1:S1<B1)(hb1:S0≤Bn)(hb2:Bn<B1)(hb3:Bn≠S1)(h0:S0≤B1)(hg:W.grownBy W' row)(hr: ∀ r,row=some r→r=Bn∨(B1≤r∧ ∃ o:Obj,W.heap[r]? =some o∧o.isCells=false)):SqI c k e T f S0 S1 B1 w0 pre W':=by
 obtain⟨⟨v,h2,h3⟩,h4,h5⟩:=h
 refine⟨⟨v,(hg.block S1 (by omega) (fun e=>by rcases hr S1 e.symm with h|h <;> omega)).trans h2,?_⟩,h4.grown hg (Nat.le_trans h0 h5) (fun k hk=>by rcases hr k hk with h|h <;> omega),Nat.le_trans h5 hg.size⟩
 obtain⟨hl,hv|⟨g,cap,cur,hv,hgb,hh,r⟩⟩:=h3
 · exact⟨hl,.inl hv⟩
 · refine⟨hl,.inr ⟨g,cap,cur,hv,hgb,(hg.block g (lt_of hh) (fun e=> ?_)).trans hh,r⟩⟩
   rcases hr g e.symm with h|⟨_,o,ho,hc⟩
   · omega
   · rw[hh]at ho
     cases ho
     simp[Obj.isCells]at hc
theorem sq_step {S0 S1 B Bn:Nat}{v:Value}{T e:TypeId}{W X:World}(hTu:T≠5)(heu:e≠5)(hS:S1<B)(h0:Boxed W S1 T v)(hB:Below S0 W X)(h3:X.heap[Bn]? =W.heap[Bn]?)(hR: ∀ (k:Nat) (o:Obj),W.heap[k]? =some o→k≠S1→(∀ vs f,o≠ .cells vs e f)→X.heap[k]? =some o):KeepsFrom B W X∧KpR S0 Bn W X:=by
 refine⟨⟨hB.size,fun k o hk ho hc=>hR k o ho (by omega) (fun vs f e=>by rw[e]at hc;simp[Obj.isCells]at hc)⟩,hB,h3,fun k vs f hk=> ?_⟩
 by_cases hk0:k=S1
 · subst hk0
   unfold Boxed at h0
   rw[h0]at hk
   injection hk with hk
   injection hk with _ h9 _
   exact absurd h9 hTu
 · exact hR k _ hk hk0 fun vs f e=>by injection e with _ h9 _;exact heu h9.symm
def nmsR (pre:List (Nat × Nat × List UInt8)):List (List UInt8):=pre.map (fun r=>r.2.2)
theorem refsNames_c (l:List UInt8)(w:World)(hF:Forms w)(hT:Tabs w)(hm:l.length≤20000):Calls Tryz.prog 18 #[.string ⟨l.toArray⟩] w fun e w'=> ∃ OA oc,e= .returned (.slice OA (rnames l).length oc)∧OwnC cS1 1 9 w' w.heap.size (.slice OA (rnames l).length oc) (rnames l)∧Below w.heap.size w w':=by
 have HFT:=Hd (And.intro hF hT)
 clear hF hT
 refine(callsIn_wide (n:=5)).1 ?_
 refine callsIn_of_wp_marks Tryz.func18 rfl trivial ?_ rfl
 simp only[Tryz.ntmps18,List.size_toArray,List.length_cons,List.length_nil,Nat.reduceAdd,Nat.reduceSub,Array.replicate_succ,Array.replicate_zero,List.push_toArray,List.append_toArray,List.nil_append,List.cons_append]
 gi_wp2_with fail
 refine⟨trivial,(callsIn_wide.2 (refsEach_c l _)).mono ?_⟩
 rintro e w2 ⟨rfl,rfl⟩
 gi_wp2_with fail
 have b0:=(Boxed.new w 57 (.slice none 0 0)).alloc (.cells #[.string ⟨l.toArray⟩] 9)
 have b3:=Boxed.new (w.alloc (.cells #[.slice none 0 0] 57)) 9 (.string ⟨l.toArray⟩)
 simp only[World.size_alloc]at b3
 have hB0:Below w.heap.size w ((w.alloc (.cells #[.slice none 0 0] 57)).alloc (.cells #[.string ⟨l.toArray⟩] 9)):=((Below.refl _ w).alloc (Nat.le_refl _) _).alloc (by simp) _
 have hsz:((w.alloc (.cells #[.slice none 0 0] 57)).alloc (.cells #[.string ⟨l.toArray⟩] 9)).heap.size=w.heap.size+2:=by simp
 generalize hS0:w.heap.size=S at *
 generalize hW0:((w.alloc (.cells #[.slice none 0 0] 57)).alloc (.cells #[.string ⟨l.toArray⟩] 9))=W0 at *
 have HI0:SqI cS1 1 9 57 nmsR S S (S+2) w [] W0:=⟨⟨_,b0,OwnC.start _ _ _ _ _⟩,hB0,by omega⟩
 have HSEQ:SeqBox Fence.wide (5 - 1) Tryz.prog 66 #[.pointer (some ⟨S+1,0,none⟩)] encR (S+1) (KpR S (S+1)) (fun ys=>ys=rfsA l 0) (fun ys=>ys <+: rfsA l 0) W0:=fun lr J W hW hJ hY h0 =>
  (each1_in 4 (by omega) lr (S+1) l J w W hJ (by rw[hS0];exact hY) ((hW.block _ (by omega)).trans b3) HFT.out.1 HFT.out.2 (by rw[hS0];exact hB0.trans (hW.mono (by omega))) hm h0).mono fun e W' ⟨hv,hj⟩=>⟨hv,_,rfl,hj⟩
 clear b0 b3
 refine wpIn_rangeFunc_box rfl (by omega) (gf:=66) (lb:= #[.pointer (some ⟨S+1,0,none⟩)]) rfl trivial (enters_of Tryz.func66 (by kernel_rfl) rfl) HSEQ (by rw[hsz];omega) KpR.trans
  (fun W l o o' hl ho hc _=>⟨(Below.refl S W).grown (grownBy_putObj' W l o') (by have:=lt_of ho;omega) (fun k e=>by cases e;omega),World.putObj_heap_other (by omega),fun k vs f hk=>by
    by_cases hkl:k=l
    · subst hkl
      rw[hk]at ho
      cases ho
      simp[Obj.isCells]at hc
    · rw[World.putObj_heap_other hkl]
      exact hk⟩) (Below.refl _ _) (fun _=>rfl)
  (SqI cS1 1 9 57 nmsR S S (S+2) w) (fun pre W W' row h hg hr=>SqI.grown (Bn:=S+1) h (by omega) (by omega) (by omega) (by omega) (by omega) (by omega) hg fun r e=> .inr ⟨by have:=(hr r e).1;omega,(hr r e).2⟩) (fun pre W W' row h hg hr=>SqI.grown (Bn:=S+1) h (by omega) (by omega) (by omega) (by omega) (by omega) (by omega) hg fun r e=> .inl (hr r e)) HI0
  (fun x a' W=> ∃ g,S+2≤g∧a'= { tmps:= #[.string ⟨l.toArray⟩,undef,.slice none 0 0,.pointer (some ⟨S,0,none⟩),.pointer (some ⟨g,0,none⟩),.string ⟨l.toArray⟩,.func (.func 66) #[] #[.pointer (some ⟨S+1,0,none⟩)],.agg #[.int .i64 (x.1:Nat),.int .i64 (x.2.1:Nat),.string ⟨x.2.2.toArray⟩],undef,undef,undef,undef,undef,undef],defers:= [] }∧W.heap[g]? =some (.cells #[.int .i64 (x.1:Nat),.int .i64 (x.2.1:Nat),.string ⟨x.2.2.toArray⟩] 107 (0,0)))
  ?hAx ?assign ?body ?done
 case hAx =>
  rintro x a' _ W W' row ⟨g,h1,h2,h3⟩ hg hr
  refine⟨g,h1,h2,(hg.block g (lt_of h3) fun e=> ?_).trans h3⟩
  obtain⟨_,o,h4,h5⟩:=hr g e.symm
  rw[h3]at h4
  cases h4
  simp[Obj.isCells]at h5
 case assign =>
  rintro lr pre x W hI hgd
  have hBs:=hI.2.2
  have hI2:SqI cS1 1 9 57 nmsR S S (S+2) w pre (W.alloc (.cells #[.int .i64 (x.1:Nat),.int .i64 (x.2.1:Nat),.string ⟨x.2.2.toArray⟩] 107)):=SqI.grown (Bn:=S+1) hI (by omega) (by omega) (by omega) (by omega) (by omega) (by omega) (World.grownBy_alloc W _ none) (fun r e=>by cases e)
  unfold encR
  gi_wp2
  exact⟨(KeepsOthers.alloc W _).from _,⟨(Below.refl _ W).alloc (by omega) _,Below.heap_alloc W _ _ (by omega),fun k vs f hk=>by rw[Below.heap_alloc W _ _ (lt_of hk)];exact hk⟩,hI2,W.heap.size,by omega,rfl,World.alloc_heap_new W _⟩
 case body =>
  rintro lr pre ⟨k,nx,s⟩ a' W hI ⟨g,hg,rfl,hcell⟩ hgd
  dsimp only at hcell ⊢
  have hplen:pre.length≤20000:=by
    have h1:=hgd.length_le
    have h2:=rfsA_len l l.length 0 (by omega)
    rw[List.length_append]at h1
    omega
  obtain⟨⟨v,h1,h2⟩,h5,h6⟩:=hI
  obtain⟨nms,hnms⟩: ∃ p,nmsR pre=p:=⟨_,rfl⟩
  have hnms2:nmsR (pre++ [(k,nx,s)])=nms++ [s]:=by rw[← hnms];simp[nmsR]
  have hnl:nms.length≤20000:=by rw[← hnms];simpa [nmsR] using hplen
  rw[hnms]at h2
  obtain⟨A0,c0,hv0⟩:=h2.form
  subst hv0
  obtain⟨m0,hm0⟩: ∃ p,nms.length=p:=⟨_,rfl⟩
  rw[hm0]at h1 h2 hnl
  have q0:=h1.cell
  have g2:W.cell? ⟨g,2,none⟩=some (.string ⟨s.toArray⟩):=by rw[cell_of 2 hcell];rfl
  obtain⟨i0,hi,hz0,hz1,hz2⟩:=info_str
  have hownA:(W.alloc (.cells #[.string ⟨s.toArray⟩] 9)).ownsRow (S+2) 9 1 (.slice A0 m0 c0) m0 (nms.flatMap cS1):=by
    have h9:OwnC cS1 1 9 (W.alloc (.cells #[.string ⟨s.toArray⟩] 9)) (S+2) (.slice A0 m0 c0) nms:=h2.kept ((Below.refl _ _).alloc (Nat.le_refl _) _)
    unfold OwnC at h9
    rw[hm0]at h9
    exact h9
  have hcA: ∀ (j:Nat) u,(cS1 s)[j]? =some u→(W.alloc (.cells #[.string ⟨s.toArray⟩] 9)).cell? ((⟨W.heap.size,0,none⟩:Addr).add j)=some u:=fun j u hu=>cell_newN W (cS1 s) 9 j u hu
  have h63:m0+1≤maxLen:=by unfold maxLen;omega
  have hby:(m0+1)*16≤140737488355328:=by omega
  have hbA:S+2≤(W.alloc (.cells #[.string ⟨s.toArray⟩] 9)).heap.size:=by rw[World.size_alloc];omega
  have HC:=Hd (And.intro hcell (And.intro h1 (And.intro h2 (And.intro h5 (And.intro h6 (And.intro hnms2 hm0))))))
  clear hplen hgd hcell hnms hnms2 h1 h2 h5 h6 hm0
  gi_wp2_with (gi_at_builtin;refine wpListIn_append_own_at _ rfl (.tmp 8) (.tmp 11) 57 rfl (S+2) 9 i0 (.string ⟨#[]⟩) 1 16 Tryz.underlying57 hi hz0 hz1 hz2 rfl (by decide) _ _ _ rfl hownA ⟨W.heap.size,0,none⟩ 1 1 (cS1 s) rfl rfl hcA (by simp[cS1,Value.oneCell']) h63 hby hbA ?_)
  intro v6 w6 hown6 hg6 _ _
  have hs6:=hg6.size
  rw[World.size_alloc]at hs6
  have h6:=HC.out.2.2.2.2.1
  have hne: ∀ k,k<S+2→some k≠(Value.slice A0 m0 c0).ownBlock:=fun k hk e=>by have:=(HC.out.2.2.1.ge e.symm).2;omega
  have b60:Boxed w6 S 57 (.slice A0 m0 c0):=(hg6.block S (by rw[World.size_alloc];omega) (hne S (by omega))).trans (hp_old HC.out.2.1)
  have O6:OwnC cS1 1 9 w6 (S+2) v6 (nms++ [s]):=OwnC.snoc (by rw[HC.out.2.2.2.2.2.2];exact hown6)
  obtain⟨A6,c6,hv6⟩:=O6.form
  obtain⟨n6,hn6⟩: ∃ p,(nms++ [s]).length=p:=⟨_,rfl⟩
  rw[hn6]at hv6
  subst hv6
  have q0:=b60.cell
  have q1:=b60.frozen
  have HW6:=Hd (And.intro hg6 (And.intro O6 b60))
  have HNE:=Hd hne
  clear hn6 hown6 hg6 hownA hcA h63 hby hbA hne b60 O6
  gi_wp2
  have hg6:=HW6.out.1
  have hX: ∀ (k:Nat) (o:Obj),W.heap[k]? =some o→k≠S→some k≠(Value.slice A0 m0 c0).ownBlock→(w6.setCell ⟨S,0,none⟩ (.slice A6 n6 c6)).heap[k]? =some o:=fun k o hk h0 h2=>by
    rw[hp_other h0,hg6.block k (by rw[World.size_alloc];have:=lt_of hk;omega) h2,Below.heap_alloc _ _ _ (lt_of hk)]
    exact hk
  have hBX:Below S W (w6.setCell ⟨S,0,none⟩ (.slice A6 n6 c6)):=(((Below.refl S W).alloc (by omega) _).grown hg6 (by rw[World.size_alloc];omega) (fun k hk=>by have:=(HC.out.2.2.1.ge hk).2;omega)).setCell (p:=⟨S,0,none⟩) (by show S≤S;omega) _
  have hstep:=sq_step (B:=S+2) (Bn:=S+1) (T:=57) (e:=9) (by decide) (by decide) (by omega) HC.out.2.1 hBX (by
    obtain⟨o3,ho3⟩: ∃ o,W.heap[S+1]? =some o:=⟨_,Array.getElem?_eq_getElem (by omega)⟩
    rw[ho3]
    exact hX _ _ ho3 (by omega) (HNE.out _ (by omega))) (fun k o hk h0 h2=>hX k o hk h0 (ownsRow_type HC.out.2.2.1 hk h2))
  refine⟨by first|exact hstep.1|(rw[hsz];exact hstep.1),hstep.2,⟨_,HW6.out.2.2.set _,?_⟩,HC.out.2.2.2.1.trans hBX,by have:=hBX.size;omega⟩
  rw[HC.out.2.2.2.2.2.1]
  exact HW6.out.2.1.keep fun q hq1 hq2=>hp_other (by omega)
 case done =>
  rintro D ys W hD rfl hI hK
  have hD4:S+2≤D:=by omega
  have hI2:SqI cS1 1 9 57 nmsR S S (S+2) w (rfsA l 0) (W.putObj D (.deferred none)):=SqI.grown (Bn:=S+1) hI (by omega) (by omega) (by omega) (by omega) (by omega) (by omega) (grownBy_putObj' W D (.deferred none)) (fun r e=>by cases e;exact .inr ⟨hD4,_,hK,rfl⟩)
  obtain⟨⟨v,h1,h2⟩,_,_⟩:=hI
  obtain⟨⟨v2,g1,g2⟩,g5,_⟩:=hI2
  have hvv:v2=v:=by
    have e:(W.putObj D (.deferred none)).heap[S]? =W.heap[S]? :=World.putObj_heap_other (by omega)
    unfold Boxed at h1 g1
    rw[e,h1]at g1
    cases g1
    rfl
  subst hvv
  obtain⟨OA,oc,hv⟩:=g2.form
  have hE:nmsR (rfsA l 0)=rnames l:=rfl
  rw[hE]at hv g2
  subst hv
  have c0:=h1.cell
  have HALL:=Hd (And.intro g2 (And.intro g5 hK))
  clear h1 h2 g1 g2 g5 hK hE
  gi_wp2
  refine⟨by simp,.inl ⟨_,_,rfl,run_takeDeferred HALL.out.2.2,?_⟩⟩
  refine⟨.slice OA (rnames l).length oc,?_,⟨OA,oc,rfl,by rw[hS0];exact HALL.out.1.base (by omega),by first|exact HALL.out.2.1|(rw[hS0];exact HALL.out.2.1)⟩⟩
  simp[results,Tryz.f18,go_sem]
theorem appendSeq_c (l:List UInt8)(Bn:Nat)(w0 w:World)(hbx:Boxed w Bn 9 (.string ⟨l.toArray⟩))(hB:Below w0.heap.size w0 w)(hBn:w0.heap.size≤Bn)(hF:Forms w0)(hT:Tabs w0)(hm:l.length≤20000):Calls Tryz.prog 151 #[.slice none 0 0,.func (.func 66) #[] #[.pointer (some ⟨Bn,0,none⟩)]] w fun e w'=> ∃ OA oc,e= .returned (.slice OA (rfsA l 0).length oc)∧OwnC cRf 3 107 w' w.heap.size (.slice OA (rfsA l 0).length oc) (rfsA l 0)∧Below w0.heap.size w0 w':=by
 have HFT:=Hd (And.intro hF hT)
 clear hF hT
 refine(callsIn_wide (n:=5)).1 ?_
 refine callsIn_of_wp_marks Tryz.func151 rfl trivial ?_ rfl
 simp only[Tryz.ntmps151,List.size_toArray,List.length_cons,List.length_nil,Nat.reduceAdd,Nat.reduceSub,Array.replicate_succ,Array.replicate_zero,List.push_toArray,List.append_toArray,List.nil_append,List.cons_append]
 have hBw:=lt_of hbx
 have hB9:=hB.size
 gi_wp2_with fail
 have b0:=Boxed.new w 154 (.slice none 0 0)
 have b3:Boxed (w.alloc (.cells #[.slice none 0 0] 154)) Bn 9 (.string ⟨l.toArray⟩):=hp_old hbx
 have hB0:Below w0.heap.size w0 (w.alloc (.cells #[.slice none 0 0] 154)):=hB.alloc (by omega) _
 have hsz:(w.alloc (.cells #[.slice none 0 0] 154)).heap.size=w.heap.size+1:=by simp
 generalize hS0:w.heap.size=S at *
 generalize hW0:(w.alloc (.cells #[.slice none 0 0] 154))=W0 at *
 have HI0:SqI cRf 3 107 154 id w0.heap.size S (S+1) w0 [] W0:=⟨⟨_,b0,OwnC.start _ _ _ _ _⟩,hB0,by omega⟩
 have HSEQ:SeqBox Fence.wide (5 - 1) Tryz.prog 66 #[.pointer (some ⟨Bn,0,none⟩)] encR Bn (KpR w0.heap.size Bn) (fun ys=>ys=rfsA l 0) (fun ys=>ys <+: rfsA l 0) W0:=fun lr J W hW hJ hY h0 =>
  (each1_in 4 (by omega) lr Bn l J w0 W hJ hY ((hW.block _ (by omega)).trans b3) HFT.out.1 HFT.out.2 (hB0.trans (hW.mono (by omega))) hm h0).mono fun e W' ⟨hv,hj⟩=>⟨hv,_,rfl,hj⟩
 clear b0 b3
 refine wpIn_rangeFunc_box rfl (by omega) (gf:=66) (lb:= #[.pointer (some ⟨Bn,0,none⟩)]) rfl trivial (enters_of Tryz.func66 (by kernel_rfl) rfl) HSEQ (by rw[hsz];omega) KpR.trans
  (fun W l o o' hl ho hc _=>⟨(Below.refl w0.heap.size W).grown (grownBy_putObj' W l o') (by have:=lt_of ho;omega) (fun k e=>by cases e;omega),World.putObj_heap_other (by omega),fun k vs f hk=>by
    by_cases hkl:k=l
    · subst hkl
      rw[hk]at ho
      cases ho
      simp[Obj.isCells]at hc
    · rw[World.putObj_heap_other hkl]
      exact hk⟩) (Below.refl _ _) (fun _=>rfl)
  (SqI cRf 3 107 154 id w0.heap.size S (S+1) w0) (fun pre W W' row h hg hr=>SqI.grown (Bn:=Bn) h (by omega) (by omega) (by omega) (by omega) (by omega) (by omega) hg fun r e=> .inr ⟨by have:=(hr r e).1;omega,(hr r e).2⟩) (fun pre W W' row h hg hr=>SqI.grown (Bn:=Bn) h (by omega) (by omega) (by omega) (by omega) (by omega) (by omega) hg fun r e=> .inl (hr r e)) HI0
  (fun x a' W=> ∃ g,S+1≤g∧a'= { tmps:= #[.slice none 0 0,.func (.func 66) #[] #[.pointer (some ⟨Bn,0,none⟩)],.pointer (some ⟨S,0,none⟩),undef,.slice none 0 0,.pointer (some ⟨g,0,none⟩),.func (.func 66) #[] #[.pointer (some ⟨Bn,0,none⟩)],.agg #[.int .i64 (x.1:Nat),.int .i64 (x.2.1:Nat),.string ⟨x.2.2.toArray⟩],undef,undef,undef,undef,undef],defers:= [] }∧W.heap[g]? =some (.cells #[.int .i64 (x.1:Nat),.int .i64 (x.2.1:Nat),.string ⟨x.2.2.toArray⟩] 107 (0,0)))
  ?hAx ?assign ?body ?done
 case hAx =>
  rintro x a' _ W W' row ⟨g,h1,h2,h3⟩ hg hr
  refine⟨g,h1,h2,(hg.block g (lt_of h3) fun e=> ?_).trans h3⟩
  obtain⟨_,o,h4,h5⟩:=hr g e.symm
  rw[h3]at h4
  cases h4
  simp[Obj.isCells]at h5
 case assign =>
  rintro lr pre x W hI hgd
  have hBs:=hI.2.2
  have hI2:SqI cRf 3 107 154 id w0.heap.size S (S+1) w0 pre (W.alloc (.cells #[.int .i64 (x.1:Nat),.int .i64 (x.2.1:Nat),.string ⟨x.2.2.toArray⟩] 107)):=SqI.grown (Bn:=Bn) hI (by omega) (by omega) (by omega) (by omega) (by omega) (by omega) (World.grownBy_alloc W _ none) (fun r e=>by cases e)
  unfold encR
  gi_wp2
  exact⟨(KeepsOthers.alloc W _).from _,⟨(Below.refl _ W).alloc (by omega) _,Below.heap_alloc W _ _ (by omega),fun k vs f hk=>by rw[Below.heap_alloc W _ _ (lt_of hk)];exact hk⟩,hI2,W.heap.size,by omega,rfl,World.alloc_heap_new W _⟩
 case body =>
  rintro lr pre ⟨k,nx,s⟩ a' W hI ⟨g,hg,rfl,hcell⟩ hgd
  dsimp only at hcell ⊢
  have hplen:pre.length≤20000:=by
    have h1:=hgd.length_le
    have h2:=rfsA_len l l.length 0 (by omega)
    rw[List.length_append]at h1
    omega
  obtain⟨⟨v,h1,h2⟩,h5,h6⟩:=hI
  obtain⟨nms,hnms⟩: ∃ p,id pre=p:=⟨_,rfl⟩
  have hnms2:id (pre++ [(k,nx,s)])=nms++ [(k,nx,s)]:=by rw[← hnms];simp[id]
  have hnl:nms.length≤20000:=by rw[← hnms];simpa [id] using hplen
  rw[hnms]at h2
  obtain⟨A0,c0,hv0⟩:=h2.form
  subst hv0
  obtain⟨m0,hm0⟩: ∃ p,nms.length=p:=⟨_,rfl⟩
  rw[hm0]at h1 h2 hnl
  have q0:=h1.cell
  have g0:W.cell? ⟨g,0,none⟩=some (.int .i64 (k:Nat)):=by rw[cell_of 0 hcell];rfl
  have g1:W.cell? ⟨g,1,none⟩=some (.int .i64 (nx:Nat)):=by rw[cell_of 1 hcell];rfl
  have g2:W.cell? ⟨g,2,none⟩=some (.string ⟨s.toArray⟩):=by rw[cell_of 2 hcell];rfl
  obtain⟨i0,hi,hz0,hz1,hz2⟩:=infoC_prf
  have hownA:(W.alloc (.cells #[.int .i64 (k:Nat),.int .i64 (nx:Nat),.string ⟨s.toArray⟩] 107)).ownsRow (S+1) 107 3 (.slice A0 m0 c0) m0 (nms.flatMap cRf):=by
    have h9:OwnC cRf 3 107 (W.alloc (.cells #[.int .i64 (k:Nat),.int .i64 (nx:Nat),.string ⟨s.toArray⟩] 107)) (S+1) (.slice A0 m0 c0) nms:=h2.kept ((Below.refl _ _).alloc (Nat.le_refl _) _)
    unfold OwnC at h9
    rw[hm0]at h9
    exact h9
  have hcA: ∀ (j:Nat) u,(cRf (k,nx,s))[j]? =some u→(W.alloc (.cells #[.int .i64 (k:Nat),.int .i64 (nx:Nat),.string ⟨s.toArray⟩] 107)).cell? ((⟨W.heap.size,0,none⟩:Addr).add j)=some u:=fun j u hu=>cell_newN W (cRf (k,nx,s)) 107 j u hu
  have h63:m0+1≤maxLen:=by unfold maxLen;omega
  have hby:(m0+1)*32≤140737488355328:=by omega
  have hbA:S+1≤(W.alloc (.cells #[.int .i64 (k:Nat),.int .i64 (nx:Nat),.string ⟨s.toArray⟩] 107)).heap.size:=by rw[World.size_alloc];omega
  have HC:=Hd (And.intro hcell (And.intro h1 (And.intro h2 (And.intro h5 (And.intro h6 (And.intro hnms2 hm0))))))
  clear hplen hgd hcell hnms hnms2 h1 h2 h5 h6 hm0
  gi_wp2_with (gi_at_builtin;refine wpListIn_append_own_at _ rfl (.tmp 8) (.tmp 10) 154 rfl (S+1) 107 i0 (.agg #[.int .i64 0,.int .i64 0,.string ⟨#[]⟩]) 3 32 Tryz.underlying154 hi hz0 hz1 hz2 rfl (by decide) _ _ _ rfl hownA ⟨W.heap.size,0,none⟩ 1 1 (cRf (k,nx,s)) rfl rfl hcA (by simp[cRf,Value.oneCell']) h63 hby hbA ?_)
  intro v6 w6 hown6 hg6 _ _
  have hs6:=hg6.size
  rw[World.size_alloc]at hs6
  have h6:=HC.out.2.2.2.2.1
  have hne: ∀ k,k<S+1→some k≠(Value.slice A0 m0 c0).ownBlock:=fun k hk e=>by have:=(HC.out.2.2.1.ge e.symm).2;omega
  have b60:Boxed w6 S 154 (.slice A0 m0 c0):=(hg6.block S (by rw[World.size_alloc];omega) (hne S (by omega))).trans (hp_old HC.out.2.1)
  have O6:OwnC cRf 3 107 w6 (S+1) v6 (nms++ [(k,nx,s)]):=OwnC.snoc (by rw[HC.out.2.2.2.2.2.2];exact hown6)
  obtain⟨A6,c6,hv6⟩:=O6.form
  obtain⟨n6,hn6⟩: ∃ p,(nms++ [(k,nx,s)]).length=p:=⟨_,rfl⟩
  rw[hn6]at hv6
  subst hv6
  have q0:=b60.cell
  have q1:=b60.frozen
  have HW6:=Hd (And.intro hg6 (And.intro O6 b60))
  have HNE:=Hd hne
  clear hn6 hown6 hg6 hownA hcA h63 hby hbA hne b60 O6
  gi_wp2
  have hg6:=HW6.out.1
  have hX: ∀ (k:Nat) (o:Obj),W.heap[k]? =some o→k≠S→some k≠(Value.slice A0 m0 c0).ownBlock→(w6.setCell ⟨S,0,none⟩ (.slice A6 n6 c6)).heap[k]? =some o:=fun k o hk h0 h2=>by
    rw[hp_other h0,hg6.block k (by rw[World.size_alloc];have:=lt_of hk;omega) h2,Below.heap_alloc _ _ _ (lt_of hk)]
    exact hk
  have hBX:Below w0.heap.size W (w6.setCell ⟨S,0,none⟩ (.slice A6 n6 c6)):=(((Below.refl w0.heap.size W).alloc (by omega) _).grown hg6 (by rw[World.size_alloc];omega) (fun k hk=>by have:=(HC.out.2.2.1.ge hk).2;omega)).setCell (p:=⟨S,0,none⟩) (by show w0.heap.size≤S;omega) _
  have hstep:=sq_step (B:=S+1) (Bn:=Bn) (T:=154) (e:=107) (by decide) (by decide) (by omega) HC.out.2.1 hBX (by
    obtain⟨o3,ho3⟩: ∃ o,W.heap[Bn]? =some o:=⟨_,Array.getElem?_eq_getElem (by omega)⟩
    rw[ho3]
    exact hX _ _ ho3 (by omega) (HNE.out _ (by omega))) (fun k o hk h0 h2=>hX k o hk h0 (ownsRow_type HC.out.2.2.1 hk h2))
  refine⟨by first|exact hstep.1|(rw[hsz];exact hstep.1),hstep.2,⟨_,HW6.out.2.2.set _,?_⟩,HC.out.2.2.2.1.trans hBX,by have:=hBX.size;omega⟩
  rw[HC.out.2.2.2.2.2.1]
  exact HW6.out.2.1.keep fun q hq1 hq2=>hp_other (by omega)
 case done =>
  rintro D ys W hD rfl hI hK
  have hD4:S+1≤D:=by omega
  have hI2:SqI cRf 3 107 154 id w0.heap.size S (S+1) w0 (rfsA l 0) (W.putObj D (.deferred none)):=SqI.grown (Bn:=Bn) hI (by omega) (by omega) (by omega) (by omega) (by omega) (by omega) (grownBy_putObj' W D (.deferred none)) (fun r e=>by cases e;exact .inr ⟨hD4,_,hK,rfl⟩)
  obtain⟨⟨v,h1,h2⟩,_,_⟩:=hI
  obtain⟨⟨v2,g1,g2⟩,g5,_⟩:=hI2
  have hvv:v2=v:=by
    have e:(W.putObj D (.deferred none)).heap[S]? =W.heap[S]? :=World.putObj_heap_other (by omega)
    unfold Boxed at h1 g1
    rw[e,h1]at g1
    cases g1
    rfl
  subst hvv
  obtain⟨OA,oc,hv⟩:=g2.form
  have hE:id (rfsA l 0)=rfsA l 0:=rfl
  rw[hE]at hv g2
  subst hv
  have c0:=h1.cell
  have HALL:=Hd (And.intro g2 (And.intro g5 hK))
  clear h1 h2 g1 g2 g5 hK hE
  gi_wp2
  refine⟨by simp,.inl ⟨_,_,rfl,run_takeDeferred HALL.out.2.2,?_⟩⟩
  refine⟨.slice OA (rfsA l 0).length oc,?_,⟨OA,oc,rfl,by rw[hS0];exact HALL.out.1.base (by omega),by first|exact HALL.out.2.1|(rw[hS0];exact HALL.out.2.1)⟩⟩
  simp[results,Tryz.f151,go_sem]
theorem collect_c (l:List UInt8)(Bn:Nat)(w0 w:World)(hbx:Boxed w Bn 9 (.string ⟨l.toArray⟩))(hB:Below w0.heap.size w0 w)(hBn:w0.heap.size≤Bn)(hF:Forms w0)(hT:Tabs w0)(hm:l.length≤20000):Calls Tryz.prog 130 #[.func (.func 66) #[] #[.pointer (some ⟨Bn,0,none⟩)]] w fun e w'=> ∃ OA oc,e= .returned (.slice OA (rfsA l 0).length oc)∧OwnC cRf 3 107 w' w.heap.size (.slice OA (rfsA l 0).length oc) (rfsA l 0)∧Below w0.heap.size w0 w':=by
 have C:=Hd (appendSeq_c l Bn w0 w hbx hB hBn hF hT hm)
 clear hbx hB hBn hF hT hm
 go_enter Tryz.func130,Tryz.ntmps130
 go_wp2_with fail
 refine C.out.mono ?_
 rintro e w2 ⟨OA,oc,rfl,h1,h2⟩
 have H:=Hd (And.intro h1 h2)
 clear h1 h2 C
 go_wp2
 go_ret
 exact⟨OA,oc,rfl,H.out.1,H.out.2⟩
theorem refsAllP_c (l:List UInt8)(w:World)(hF:Forms w)(hT:Tabs w)(hm:l.length≤20000):Calls Tryz.prog 96 #[.string ⟨l.toArray⟩] w fun e w'=> ∃ OA oc,e= .returned (.slice OA (rfsA l 0).length oc)∧OwnC cRf 3 107 w' w.heap.size (.slice OA (rfsA l 0).length oc) (rfsA l 0)∧Below w.heap.size w w':=by
 have CE:=Hd (refsEach_c l w)
 have C:=Hd (collect_c l w.heap.size w (w.alloc (.cells #[.string ⟨l.toArray⟩] 9)) (Boxed.new w _ _) ((Below.refl _ _).alloc (Nat.le_refl _) _) (Nat.le_refl _) hF hT hm)
 have H0:=Hd (show w.heap.size≤(w.alloc (.cells #[.string ⟨l.toArray⟩] 9)).heap.size by simp)
 clear hF hT hm
 go_enter Tryz.func96,Tryz.ntmps96
 go_wp2_with fail
 refine CE.out.mono ?_
 rintro e w2 ⟨rfl,rfl⟩
 go_wp2_with fail
 refine C.out.mono ?_
 rintro e w2 ⟨OA,oc,rfl,h1,h2⟩
 have H:=Hd (And.intro (h1.base H0.out) h2)
 clear h1 h2 C CE
 go_wp2
 go_ret
 exact⟨OA,oc,rfl,H.out.1,H.out.2⟩
section
variable {P:Program} {ops:Array Oper} {md:Region.Mode} {C:World→Prop}
def wpAnyT (P:Program)(md:Region.Mode)(ops:Array Oper)(C:World→Prop)(n:Nat)(L:Array Bool→Act→Prop):Nat→Array Bool→Act→Prop
 |0,listed,a=>L listed a
 |f+1,listed,a=>Region.ready md ops listed≠ []∧ ∀ i∈Region.ready md ops listed,i<n∧qOp P ops C i (wpAnyT P md ops C n L f (listed.setIfInBounds i true)) a
theorem wpAny_of_headT {n g:Nat}{L:Array Bool→Act→Prop}{Q':Exit→Act→World→Prop}(hL: ∀ listed a w,C w→L listed a→wpAny P md ops Q' g listed a w) :
 ∀ (f:Nat) (listed:Array Bool) (a:Act) (w:World),C w→wpAnyT P md ops C n L f listed a→wpAny P md ops Q' (f+g) listed a w
 |0,listed,a,w,hw,h=>by rw[Nat.zero_add];exact hL _ _ _ hw h
 |f+1,listed,a,w,hw,h=>by
  rw[show f+1+g=(f+g)+1 by omega]
  exact⟨fun h0=>absurd h0 h.1,fun i hi=>wpOp_of_qOp hw (fun a' w' hw' h'=>wpAny_of_headT hL f _ a' w' hw' h') (h.2 i hi).2⟩
theorem wpAnyT_first {n i:Nat}{oi:Oper}{v:Value}{L:Array Bool→Act→Prop}(hi:ops[i]? =some oi)(hsel: ∀ (j:Nat) (o:Oper) cs b,ops[j]? =some o→o.op≠ .select cs b)
 (hs:Region.sinkB md ops n=true) (hc:Region.chainB md ops n=true) (hn:n<ops.size) (hin:i<n)
 (hdone: ∀ listed a,L listed a→ ∀ j∈Region.ready md ops listed,n≤j) :
 ∀ (f:Nat) (listed:Array Bool) (a:Act),HeadInv md ops n listed →
   (∀ j oj,ops[j]? =some oj→j≠i→listed.getD j true=false→(∀ e∈oj.after,Region.binds md e=true→e.on≠i)→oi.apart ops oj=true) →
   i∈Region.ready md ops listed→YieldsIn P ops C oi v a →
   wpAnyT P md ops C n L f (listed.setIfInBounds i true) (a.put oi.dst v)→wpAnyT P md ops C n L (f+1) listed a:=by
 intro f
 induction f with
 |zero =>
  intro listed a inv _ hr hy H
  have hun:=(mem_ready.1 hr).1
  refine⟨fun h=>(by rw[h]at hr;cases hr),fun j hj=> ?_⟩
  have hjn:j<n:=by
   rcases Nat.lt_or_ge j n with h|h
   · exact h
   · exact absurd hj (tail_waits hs hc hn inv _ i rfl hin hun j h)
  refine⟨hjn,?_⟩
  by_cases hji:j=i
  · subst hji;exact hy.qOp hi H
  · have:=hdone _ _ H j (ready_mono hj hji)
    omega
 |succ f ih =>
  intro listed a inv hfree hr hy H
  have hun:=(mem_ready.1 hr).1
  refine⟨fun h=>(by rw[h]at hr;cases hr),fun j hj=> ?_⟩
  have hjn:j<n:=by
    rcases Nat.lt_or_ge j n with h|h
    · exact h
    · exact absurd hj (tail_waits hs hc hn inv _ i rfl hin hun j h)
  refine⟨hjn,?_⟩
  by_cases hji:j=i
  · subst hji;exact hy.qOp hi H
  · have h1:=(H.2 j (ready_mono hj hji)).2
    obtain⟨hjun,oj,hoj,hall⟩:=mem_ready.1 hj
    have hnot: ∀ e∈oj.after,Region.binds md e=true→e.on≠i:=fun e he hb heq=>by
     have h1:=hall e he hb
     rw[heq,getD_both hun]at h1
     cases h1
    have h2:=qOp_put hoj (hfree j oj hoj hji hjun hnot) (fun cs b=>hsel i oi cs b hi) (fun cs b=>hsel j oj cs b hoj) hy h1
    have hfree': ∀ k ok,ops[k]? =some ok→k≠i→(listed.setIfInBounds j true).getD k true=false →
     (∀ e∈ok.after,Region.binds md e=true→e.on≠i)→oi.apart ops ok=true:=fun k ok hk hki hun hno=>by
     refine hfree k ok hk hki ?_ hno
     by_cases hjk:j=k
     · subst hjk;exact hjun
     · rw[getD_set_ne true hjk]at hun;exact hun
    refine qOp_mono (fun a' h3=>ih (listed.setIfInBounds j true) a' (inv.set hj hjn) hfree' (ready_mono hr (Ne.symm hji)) h3.1 ?_) h2
    rw[Array.setIfInBounds_comm _ _ hji]
    exact h3.2
theorem wpAnyT_lex {n g:Nat}{Lq:Act→Prop}(hsel:Region.noSelect ops=true)(hs:Region.sinkB md ops n=true)(hc:Region.chainB md ops n=true)(hn:n<ops.size) :
 ∀ (l:List Oper) (k:Nat) (listed:Array Bool) (a:Act),(∀ j,j<l.length→l[j]? =ops[k+j]?)→k+l.length=n→HeadInv md ops n listed →
 Region.lexHead md ops g l.length k listed=true→wpQuiet P ops C Lq l a →
 wpAnyT P md ops C n (fun listed' a'=>Region.seqB md ops g n listed'=true∧Lq a') l.length listed a
 | [],k,listed,a,_,hk,_,hB,h=>by
   have:k=n:=by simpa using hk
   subst this
   exact⟨by simpa [Region.lexHead] using hB,h⟩
 |o :: l,k,listed,a,hl,hk,inv,hB,h=>by
  have h0:ops[k]? =some o:=by simpa using (hl 0 (by simp)).symm
  simp only[List.length_cons,Region.lexHead,Bool.and_eq_true]at hB
  obtain⟨⟨hr,hf⟩,hB'⟩:=hB
  have hkn:k<n:=by simp only[List.length_cons]at hk;omega
  have hr':k∈Region.ready md ops listed:=by simpa using hr
  have hst:qOp P ops C k (wpQuiet P ops C Lq l) a:=by unfold qOp;simp only[h0];exact h
  obtain⟨v,hy,hK⟩:=yieldsIn_of_qOp h0 hst
  exact wpAnyT_first h0 (Region.noSelect_spec hsel) hs hc hn hkn (fun listed' a' hL=>seqB_ready hL.1) l.length listed a inv (Region.free_spec h0 hf) hr' hy
   (wpAnyT_lex hsel hs hc hn l (k+1) _ _ (fun j hj=>by have:=hl (j+1) (by simp;omega);simpa [Nat.add_assoc,Nat.add_comm 1 j] using this) (by simp only[List.length_cons]at hk;omega) (inv.set hr' hkn) hB' hK)
theorem wp_region_calm {id:Nat}{Q:Exit→Act→World→Prop}{a:Act}{w:World}{l:List Oper}(C:World→Prop)(n:Nat)(hm:P.follows .mixedOrders=true)(hB:Region.lexTailB .any l.toArray n=true)(hC:C { w with drawn:=w.drawn+1 })
 (h:wpQuiet P l.toArray C (fun a'=> ∀ w',C w'→wpList P l.toArray Q (l.drop n) a' w') (l.take n) a):(Code.region id l.toArray true).wp P Q a w:=by
 simp only[Region.lexTailB,Bool.and_eq_true,decide_eq_true_eq]at hB
 obtain⟨⟨⟨⟨hsel,hn⟩,hs⟩,hc⟩,hlex⟩:=hB
 have hn':n<l.length:=by simpa using hn
 have htl:(l.take n).length=n:=by simp;omega
 have hdl:(l.drop n).length=l.toArray.size - n:=by simp
 have inv0:HeadInv .any l.toArray n (Array.replicate l.toArray.size false) :=
  ⟨by simp,fun j oj _ hl=>(by rw[getD_replicate_false]at hl;cases hl),fun t _ ht=>getD_in (by simpa using ht) (getD_replicate_false _ _)⟩
 have H:=wpAnyT_lex (md:= .any) (g:=l.toArray.size - n) hsel hs hc hn (l.take n) 0 _ a (fun j hj=>by
  have hj':j<n:=by rw[htl]at hj;exact hj
  simp[hj']) (by simpa using htl) inv0 (by rw[htl];exact hlex) h
 refine wp_region_any hm ?_
 have:=wpAny_of_headT (Q':=Q) (g:=l.toArray.size - n) (fun listed a' w' hw' hL=>by
  have:=wpAny_of_seq (md:= .any) (Q':=Q) (l.drop n) n listed a' w' (fun j=>by simp[List.getElem?_drop]) (by rw[hdl];exact hL.1) (hL.2 w' hw')
  rwa [hdl]at this) _ _ _ _ hC H
 rw[htl,show n+(l.toArray.size - n)=l.toArray.size by omega]at this
 exact this
theorem wp_region_calm0 {id:Nat}{Q:Exit→Act→World→Prop}{a:Act}{w:World}{l:List Oper}(C:World→Prop)(hm:P.follows .mixedOrders=true)(hB:Region.lexB .any l.toArray=true)(hC:C { w with drawn:=w.drawn+1 })
 (h:wpQuiet P l.toArray C (fun a'=> ∀ w',C w'→Q .normal a' w') l a):(Code.region id l.toArray true).wp P Q a w :=
 wp_region_quiet (C:=C) hm hB hC (by simpa using h)
end
end Go.Proofs.YtbafljibbabnaaaGreatDoor
