/- Texts of ours, joined: EaB, GsZ, FxP. -/
import Derived.Maps.OwnIn
import Derived.Test.YtbafljibbabnaaaGreatDoorQ15
namespace Go.Proofs.YtbafljibbabnaaaGreatDoor
open Go.ChangeShapes Go.WideShapes Go.ChangeAt Go.RowKit
set_option linter.unusedVariables false
set_option maxRecDepth 100000
set_option maxHeartbeats 32000000
attribute [local go_sem] Oper.semAt_some
theorem refsEach_c (l:List UInt8)(w:World):Calls Tryz.prog 42 #[.string ⟨l.toArray⟩] w fun e w'=>e= .returned (.func (.func 66) #[] #[.pointer (some ⟨w.heap.size,0,none⟩)])∧w'=w.alloc (.cells #[.string ⟨l.toArray⟩] 9):=by
 go_enter Tryz.func42,Tryz.ntmps42
 go_wp2
 go_ret
 exact⟨rfl,rfl⟩
theorem lawSg:Go.Maps.Keyed Tryz.prog 9:=Go.Maps.string_keyed Tryz.underlying9
theorem zeroIg (w:World):(zeroValue 3).run Tryz.prog w= .ok (.int .i64 0) w:=by kernel_rfl
theorem keySg {s:List UInt8}(h:s.length≤9000000000000000000):keyOf Tryz.prog 9 (.string ⟨s.toArray⟩)=some (.string s):=by
 have:=Go.WideMaps.keyOf_string_mk (P:=Tryz.prog) Tryz.underlying9 (s:=⟨s.toArray⟩) (by simp[ByteArray.size];unfold maxLen;omega)
 simpa using this
def CntS (w:World)(b:Nat)(acc:List (List UInt8)):Prop:= ∃ D:DataW Unit,w.ownsMap Tryz.prog 9 (Go.plainElem Tryz.prog 3) b acc.length D∧ ∀ s:List UInt8,D.atKey (.string s) (.lit (.int .i64 0))= .lit (.int .i64 (acc.count s:Nat))
theorem CntS.start (w:World):CntS (w.alloc (.map #[] 0)) w.heap.size []:=⟨.map [],World.ownsMap_made _ _ _ _,fun s=>rfl⟩
theorem CntS.kept {w w':World}{b:Nat}{acc:List (List UInt8)}(h:CntS w b acc)(hb:w'.heap[b]? =w.heap[b]?):CntS w' b acc:=by
 obtain⟨D,⟨es,clock,hq,r⟩,h2⟩:=h
 exact⟨D,⟨es,clock,hb.trans hq,r⟩,h2⟩
theorem CntS.lt {w:World}{b:Nat}{acc:List (List UInt8)}(h:CntS w b acc):b<w.heap.size:=by
 obtain⟨D,h1,_⟩:=h
 exact h1.lt
theorem cntS_snoc {D:DataW Unit}{acc:List (List UInt8)}{x:List UInt8}(hi:Go.Maps.IsMap D)(h: ∀ s:List UInt8,D.atKey (.string s) (.lit (.int .i64 0))= .lit (.int .i64 (acc.count s:Nat))) :
 ∀ s:List UInt8,(D.put (.string x) (.lit (.int .i64 ((acc.count x+1:Nat):Int)))).atKey (.string s) (.lit (.int .i64 0))= .lit (.int .i64 ((acc++ [x]).count s:Nat)):=by
 intro s
 rw[List.count_append]
 by_cases e:x=s
 · subst e
   rw[Go.Maps.atKey_put_same hi (by simp[WideAt.IsKeyLit])]
   simp
 · rw[Go.Maps.atKey_put_other (by simpa using fun h=>e h.symm),h]
   simp[e]
theorem plainOut_len (l:List UInt8)(k:Nat):(plainOut l k).1.length≤1024:=by
 unfold plainOut
 dsimp only
 split
 · simp
 · split
   · simp
   · rw[List.length_take]
     omega
theorem refOut_len (l:List UInt8)(k:Nat):(refOut 38 l k).1.length≤1024:=by
 have h:=plainOut_len l (k+1)
 unfold refOut
 split
 · simp
 · split
   · split
     · simp
     · split
       · split
         · exact h
         · simp
       · simp
   · simp
theorem rfsF_len (l:List UInt8): ∀ (f k:Nat),∀ x∈rfsF l f k,x.2.2.length≤1024:=by
 intro f
 induction f with
 |zero=>intro k x hx;cases hx
 |succ f ih =>
  intro k x hx
  unfold rfsF at hx
  split at hx
  · cases hx
  · split at hx
    · rcases List.mem_cons.1 hx with rfl|hx
      · exact refOut_len l k
      · exact ih _ x hx
    · exact ih _ x hx
theorem onceL_snoc (l:List (List UInt8))(s:List UInt8):onceL (l++ [s])=onceF (onceL l) s:=by
 unfold onceL
 rw[List.foldl_append]
 rfl
theorem mem_once (l:List (List UInt8))(s:List UInt8):s∈onceL l ↔ s∈l:=by
 have aux: ∀ (l a:List (List UInt8)),s∈l.foldl onceF a ↔ s∈a∨s∈l:=by
  intro l
  induction l with
  |nil=>intro a;simp
  |cons x l ih =>
   intro a
   rw[List.foldl_cons,ih,List.mem_cons]
   unfold onceF
   split
   · rename_i h
     constructor
     · rintro(h2|h2)
       · exact .inl h2
       · exact .inr (.inr h2)
     · rintro(h2|rfl|h2)
       · exact .inl h2
       · exact .inl h
       · exact .inr h2
   · rw[List.mem_append,List.mem_singleton]
     constructor
     · rintro((h2|h2)|h2)
       · exact .inl h2
       · exact .inr (.inl h2)
       · exact .inr (.inr h2)
     · rintro(h2|h2|h2)
       · exact .inl (.inl h2)
       · exact .inl (.inr h2)
       · exact .inr h2
 rw[show onceL l=l.foldl onceF [] from rfl,aux]
 simp
def EaI (S:Nat)(w:World)(pre:List (Nat × Nat × List UInt8))(W:World):Prop :=
 (∃ v,Boxed W S 57 v∧OwnC cS1 1 9 W (S+4) v (onceL (pre.map (fun r=>r.2.2))))∧CntS W (S+1) (pre.map (fun r=>r.2.2))∧Boxed W (S+2) 98 (.map (some (S+1)))∧Below S w W∧S+4≤W.heap.size
theorem EaI.grown {S:Nat}{w W W':World}{pre:List (Nat × Nat × List UInt8)}{row:Option Nat}(h:EaI S w pre W)(hS:S≤w.heap.size)(hg:W.grownBy W' row)(hr: ∀ r,row=some r→r=S+3∨(S+4≤r∧ ∃ o:Obj,W.heap[r]? =some o∧o.isCells=false)):EaI S w pre W':=by
 obtain⟨⟨v,h1,h2⟩,h3,h4,h5,h6⟩:=h
 have hne: ∀ k,k<S+3→row≠some k:=fun k hk e=>by
  rcases hr k e with h|h
  · omega
  · omega
 refine⟨⟨v,(hg.block S (by omega) (fun e=>hne S (by omega) e.symm)).trans h1,?_⟩,h3.kept (hg.block _ (by omega) (fun e=>hne _ (by omega) e.symm)),(hg.block _ (by omega) (fun e=>hne _ (by omega) e.symm)).trans h4,h5.grown hg (by omega) (fun k hk=>by rcases hr k hk with h|h <;> omega),Nat.le_trans h6 hg.size⟩
 obtain⟨hl,hv|⟨g,cap,cur,hv,hgb,hh,r⟩⟩:=h2
 · exact⟨hl,.inl hv⟩
 · refine⟨hl,.inr ⟨g,cap,cur,hv,hgb,(hg.block g (lt_of hh) (fun e=> ?_)).trans hh,r⟩⟩
   rcases hr g e.symm with h|⟨_,o,ho,hc⟩
   · omega
   · rw[hh]at ho
     cases ho
     simp[Obj.isCells]at hc
theorem ea_step {S B:Nat}{v:Value}{acc:List (List UInt8)}{W X:World}(hS:S+4≤B)(h0:Boxed W S 57 v)(h1:CntS W (S+1) acc)(hB:Below S W X)(h3:X.heap[S+3]? =W.heap[S+3]?)(hR: ∀ (k:Nat) (o:Obj),W.heap[k]? =some o→k≠S→k≠S+1→(∀ vs f,o≠ .cells vs 9 f)→X.heap[k]? =some o):KeepsFrom B W X∧KpR S (S+3) W X:=by
 refine⟨⟨hB.size,fun k o hk ho hc=>hR k o ho (by omega) (by omega) (fun vs f e=>by rw[e]at hc;simp[Obj.isCells]at hc)⟩,hB,h3,fun k vs f hk=> ?_⟩
 by_cases hk0:k=S
 · subst hk0
   unfold Boxed at h0
   rw[h0]at hk
   cases hk
 · by_cases hk1:k=S+1
   · subst hk1
     obtain⟨D,⟨es,clock,hq,r⟩,_⟩:=h1
     rw[hq]at hk
     cases hk
   · exact hR k _ hk hk0 hk1 fun vs f e=>by cases e
theorem refsEachL_c (l:List UInt8)(w:World)(hF:Forms w)(hT:Tabs w)(hm:l.length≤20000):Calls Tryz.prog 38 #[.string ⟨l.toArray⟩] w fun e w'=> ∃ OA oc,e= .returned (.slice OA (eachL l).length oc)∧OwnC cS1 1 9 w' w.heap.size (.slice OA (eachL l).length oc) (eachL l)∧Below w.heap.size w w':=by
 have HFT:=Hd (And.intro hF hT)
 have hmm:= @run_makeMap Tryz.prog
 clear hF hT
 refine(callsIn_wide (n:=5)).1 ?_
 refine callsIn_of_wp_marks Tryz.func38 rfl trivial ?_ rfl
 simp only[Tryz.ntmps38,List.size_toArray,List.length_cons,List.length_nil,Nat.reduceAdd,Nat.reduceSub,Array.replicate_succ,Array.replicate_zero,List.push_toArray,List.append_toArray,List.nil_append,List.cons_append]
 gi_wp2_with fail
 refine⟨trivial,(callsIn_wide.2 (refsEach_c l _)).mono ?_⟩
 rintro e w2 ⟨rfl,rfl⟩
 gi_wp2_with fail
 clear hmm
 have b0:=(((Boxed.new w 57 (.slice none 0 0)).alloc (.map #[] 0)).alloc (.cells #[.map (some (w.heap.size+1))] 98)).alloc (.cells #[.string ⟨l.toArray⟩] 9)
 have b1:=CntS.start (w.alloc (.cells #[.slice none 0 0] 57))
 have b2:=(Boxed.new ((w.alloc (.cells #[.slice none 0 0] 57)).alloc (.map #[] 0)) 98 (.map (some (w.heap.size+1)))).alloc (.cells #[.string ⟨l.toArray⟩] 9)
 have b3:=Boxed.new (((w.alloc (.cells #[.slice none 0 0] 57)).alloc (.map #[] 0)).alloc (.cells #[.map (some (w.heap.size+1))] 98)) 9 (.string ⟨l.toArray⟩)
 simp only[World.size_alloc]at b1 b2 b3
 have b1':CntS ((((w.alloc (.cells #[.slice none 0 0] 57)).alloc (.map #[] 0)).alloc (.cells #[.map (some (w.heap.size+1))] 98)).alloc (.cells #[.string ⟨l.toArray⟩] 9)) (w.heap.size+1) []:=b1.kept (by rw[Below.heap_alloc _ _ _ (by first|(simp;done)|(simp;omega)),Below.heap_alloc _ _ _ (by simp)])
 have hB0:Below w.heap.size w ((((w.alloc (.cells #[.slice none 0 0] 57)).alloc (.map #[] 0)).alloc (.cells #[.map (some (w.heap.size+1))] 98)).alloc (.cells #[.string ⟨l.toArray⟩] 9)):=((((Below.refl _ w).alloc (Nat.le_refl _) _).alloc (by simp) _).alloc (by first|(simp;done)|(simp;omega)) _).alloc (by first|(simp;done)|(simp;omega)) _
 have hsz:((((w.alloc (.cells #[.slice none 0 0] 57)).alloc (.map #[] 0)).alloc (.cells #[.map (some (w.heap.size+1))] 98)).alloc (.cells #[.string ⟨l.toArray⟩] 9)).heap.size=w.heap.size+4:=by simp
 clear b1
 generalize hS0:w.heap.size=S at *
 generalize hW0:((((w.alloc (.cells #[.slice none 0 0] 57)).alloc (.map #[] 0)).alloc (.cells #[.map (some (S+1))] 98)).alloc (.cells #[.string ⟨l.toArray⟩] 9))=W0 at *
 have HI0:EaI S w [] W0:=⟨⟨_,b0,OwnC.start _ _ _ _ _⟩,b1',b2,hB0,by omega⟩
 have HSEQ:SeqBox Fence.wide (5 - 1) Tryz.prog 66 #[.pointer (some ⟨S+1+1+1,0,none⟩)] encR (S+3) (KpR S (S+3)) (fun ys=>ys=rfsA l 0) (fun ys=>ys <+: rfsA l 0) W0:=fun lr J W hW hJ hY h0 =>
  (each1_in 4 (by omega) lr (S+3) l J w W hJ (by rw[hS0];exact hY) ((hW.block _ (by omega)).trans b3) HFT.out.1 HFT.out.2 (by rw[hS0];exact hB0.trans (hW.mono (by omega))) hm h0).mono fun e W' ⟨hv,hj⟩=>⟨hv,_,rfl,hj⟩
 clear b0 b1' b2 b3
 refine wpIn_rangeFunc_box rfl (by omega) (gf:=66) (lb:= #[.pointer (some ⟨S+1+1+1,0,none⟩)]) rfl trivial (enters_of Tryz.func66 (by kernel_rfl) rfl) HSEQ (by rw[hsz];omega) KpR.trans
  (fun W l o o' hl ho hc _=>⟨(Below.refl S W).grown (grownBy_putObj' W l o') (by have:=lt_of ho;omega) (fun k e=>by cases e;omega),World.putObj_heap_other (by omega),fun k vs f hk=>by
    by_cases hkl:k=l
    · subst hkl
      rw[hk]at ho
      cases ho
      simp[Obj.isCells]at hc
    · rw[World.putObj_heap_other hkl]
      exact hk⟩) (Below.refl _ _) (fun _=>rfl)
  (EaI S w) (fun pre W W' row h hg hr=>h.grown (by omega) hg fun r e=> .inr ⟨by have:=(hr r e).1;omega,(hr r e).2⟩) (fun pre W W' row h hg hr=>h.grown (by omega) hg fun r e=> .inl (hr r e)) HI0
  (fun x a' W=> ∃ g,S+4≤g∧a'= { tmps:= #[.string ⟨l.toArray⟩,undef,.slice none 0 0,.pointer (some ⟨S,0,none⟩),.pointer (some ⟨S+1+1,0,none⟩),.pointer (some ⟨g,0,none⟩),.map (some (S+1)),.string ⟨l.toArray⟩,.func (.func 66) #[] #[.pointer (some ⟨S+1+1+1,0,none⟩)],.agg #[.int .i64 (x.1:Nat),.int .i64 (x.2.1:Nat),.string ⟨x.2.2.toArray⟩],undef,undef,undef,undef,undef,undef,undef,undef,undef,undef,undef,undef,undef,undef,undef,undef],defers:= [] }∧W.heap[g]? =some (.cells #[.int .i64 (x.1:Nat),.int .i64 (x.2.1:Nat),.string ⟨x.2.2.toArray⟩] 107 (0,0)))
  ?hAx ?assign ?body ?done
 case hAx =>
  rintro x a' _ W W' row ⟨g,h1,h2,h3⟩ hg hr
  refine⟨g,h1,h2,(hg.block g (lt_of h3) fun e=> ?_).trans h3⟩
  obtain⟨_,o,h4,h5⟩:=hr g e.symm
  rw[h3]at h4
  cases h4
  simp[Obj.isCells]at h5
 case assign =>
  rintro lr pre x W hI hgd
  have hBs:=hI.2.2.2.2
  have hI2:EaI S w pre (W.alloc (.cells #[.int .i64 (x.1:Nat),.int .i64 (x.2.1:Nat),.string ⟨x.2.2.toArray⟩] 107)):=hI.grown (by omega) (World.grownBy_alloc W _ none) (fun r e=>by cases e)
  unfold encR
  gi_wp2
  exact⟨(KeepsOthers.alloc W _).from _,⟨(Below.refl _ W).alloc (by omega) _,Below.heap_alloc W _ _ (by omega),fun k vs f hk=>by rw[Below.heap_alloc W _ _ (lt_of hk)];exact hk⟩,hI2,W.heap.size,by omega,rfl,World.alloc_heap_new W _⟩
 case body =>
  rintro lr pre ⟨k,nx,s⟩ a' W hI ⟨g,hg,rfl,hcell⟩ hgd
  dsimp only at hcell ⊢
  have hmem:(k,nx,s)∈rfsA l 0:=hgd.subset (by simp)
  have hsl:s.length≤1024:=rfsF_len l _ _ _ hmem
  have hplen:pre.length≤20000:=by
    have h1:=hgd.length_le
    have h2:=rfsA_len l l.length 0 (by omega)
    rw[List.length_append]at h1
    omega
  have KEY:=Hd (keySg (s:=s) (by omega))
  have HI:=Hd hI
  obtain⟨⟨v,h1,h2⟩,h3,h4,h5,h6⟩:=hI
  obtain⟨D,hown,hat⟩:=h3
  have c4:W.cell? ⟨S+1+1,0,none⟩=some (.map (some (S+1))):=h4.cell
  have g2:W.cell? ⟨g,2,none⟩=some (.string ⟨s.toArray⟩):=by rw[cell_of 2 hcell];rfl
  obtain⟨nms,hnms⟩: ∃ p,pre.map (fun r=>r.2.2)=p:=⟨_,rfl⟩
  have hnms2:(pre++ [(k,nx,s)]).map (fun r=>r.2.2)=nms++ [s]:=by rw[List.map_append,hnms];rfl
  have hnl:nms.length=pre.length:=by rw[← hnms];simp
  rw[hnms]at h2 hown hat
  obtain⟨ct,hct⟩: ∃ p,nms.count s=p:=⟨_,rfl⟩
  have hcl:ct≤nms.length:=by rw[← hct];exact List.count_le_length
  have hc0:(0:Int)≤(ct:Int):=by omega
  have hc9:(ct:Int)≤20000:=by omega
  have HC1:Hid (∀ c':Int,D.atKey (.string s) (.lit (.int .i64 0))= .lit (.int .i64 c')→c'=(ct:Int)):=Hd fun c' h=>by
    have:=h.symm.trans (hat s)
    rw[hct]at this
    simpa using this
  have HIS:Go.Maps.IsMap D:=by obtain⟨es,clock,hb,_,_,rfl⟩:=hown;exact⟨_,rfl⟩
  have hsn:=cntS_snoc (x:=s) HIS hat
  rw[hct]at hsn
  have HC2:Hid (∀ c':Int,(D.put (.string s) (.lit (.int .i64 ((ct:Int)+1)))).atKey (.string s) (.lit (.int .i64 0))= .lit (.int .i64 c')→c'=(ct:Int)+1):=Hd fun c' h=>by
    have h9:=h.symm.trans (hsn s)
    rw[List.count_append,hct]at h9
    simpa using h9
  have HSN:=Hd hsn
  have HCNT:=Hd (And.intro hown hat)
  have hwf:(Lit.int .i64 ((ct:Int)+1)).wf=true:=by
    simp only[Lit.wf,IntKind.min,IntKind.max,Bool.and_eq_true]
    constructor <;> (simp[IntKind.bits,IntKind.signed] <;> omega)
  have hmx:nms.length<maxLen:=by unfold maxLen;omega
  have HNM:=Hd (And.intro hnms2 (And.intro hnl hct))
  have hnl9:nms.length≤20000:=by omega
  have HCELL:=Hd (And.intro hcell (And.intro h1 (And.intro h2 (And.intro h4 (And.intro h5 h6)))))
  clear hnl hplen hmem hgd hsn HIS hcell hnms hnms2 hct hat h1 h2 h4 h5 h6 HI
  have hW6:S+4≤W.heap.size:=HCELL.out.2.2.2.2.2
  by_cases hz:ct=0
  · have hb1:(((ct:Nat):Int)+1==1)=true:=by simp[hz]
    have hns:s ∉ nms:=by rw[← List.count_eq_zero,HNM.out.2.2];exact hz
    have HON:Hid (onceL (nms++ [s])=onceL nms++ [s]):=Hd (by rw[onceL_snoc];unfold onceF;rw[if_neg (by rw[mem_once];exact hns)])
    clear hz hns
    obtain⟨i0,hi,hz0,hz1,hz2⟩:=info_str
    gi_wp2_with (first|(gi_at_lookup;refine wpListIn_lookup_own_int _ rfl _ _ 98 rfl 9 3 .i64 lawSg Tryz.underlying98 Tryz.underlying3 (zeroIg _) (S+1) _ D rfl hown _ _ rfl KEY.out ?_;intro c' hat' hwc';obtain rfl:=HC1.out c' hat';clear hat' hwc')|(gi_at_mapUpdate;refine wpListIn_mapUpdate_own _ rfl _ _ _ 98 rfl 9 3 lawSg Tryz.underlying98 _ (S+1) _ D rfl hown hmx _ _ _ rfl rfl KEY.out _ [] (plainElem_int Tryz.underlying3 hwf) ?_))
    intro w3 hown3 hg3
    have hs3:=hg3.size
    have e34:w3.heap[S+1+1]? =W.heap[S+1+1]? :=hg3.block _ (by omega) (fun e=>by have:=Option.some.inj e;omega)
    have e30:w3.heap[S]? =W.heap[S]? :=hg3.block _ (by omega) (fun e=>by have:=Option.some.inj e;omega)
    have d4:w3.cell? ⟨S+1+1,0,none⟩=some (.map (some (S+1))):=(World.cell?_of_block (a:=⟨S+1+1,0,none⟩) e34).trans c4
    have e3g:w3.heap[g]? =W.heap[g]? :=hg3.block g (lt_of HCELL.out.1) (fun e=>by have:=Option.some.inj e;omega)
    have e2:w3.cell? ⟨g,2,none⟩=some (.string ⟨s.toArray⟩):=(World.cell?_of_block (a:=⟨g,2,none⟩) e3g).trans g2
    have b30:Boxed w3 S 57 v:=e30.trans HCELL.out.2.1
    have d0:=b30.cell
    have hB3:Below S W w3:=(Below.refl S W).grown hg3 (by omega) (fun k hk=>by have:=Option.some.inj hk;omega)
    have hO3:OwnC cS1 1 9 w3 (S+4) v (onceL nms):=HCELL.out.2.2.1.keep fun q hq1 hq2=>hg3.block q hq2 (fun e=>by have:=Option.some.inj e;omega)
    have HW3:=Hd (And.intro hg3 (And.intro hB3 (And.intro hO3 (And.intro hown3 (And.intro e34 b30)))))
    clear c4 g2 hown hwf hmx hg3 hB3 e34 e30 e3g
    have hol:(onceL nms).length≤20000:=by have:=once_le nms [];unfold onceL;simp only[List.length_nil]at this;omega
    have hownA:(w3.alloc (.cells #[.string ⟨s.toArray⟩] 9)).ownsRow (S+4) 9 1 v (onceL nms).length ((onceL nms).flatMap cS1):=hO3.kept ((Below.refl _ _).alloc (Nat.le_refl _) _)
    have hcA: ∀ (j:Nat) u,(cS1 s)[j]? =some u→(w3.alloc (.cells #[.string ⟨s.toArray⟩] 9)).cell? ((⟨w3.heap.size,0,none⟩:Addr).add j)=some u:=fun j u hu=>cell_newN w3 (cS1 s) 9 j u hu
    have h63:(onceL nms).length+1≤maxLen:=by unfold maxLen;omega
    have hby:((onceL nms).length+1)*16≤140737488355328:=by omega
    have hbA:S+4≤(w3.alloc (.cells #[.string ⟨s.toArray⟩] 9)).heap.size:=by rw[World.size_alloc];omega
    obtain⟨A0,c0,hv0⟩:=hO3.form
    subst hv0
    clear hO3
    gi_wp2_with (first|(gi_at_lookup;refine wpListIn_lookup_own_int _ rfl _ _ 98 rfl 9 3 .i64 lawSg Tryz.underlying98 Tryz.underlying3 (zeroIg _) (S+1) _ _ rfl hown3 _ _ rfl KEY.out ?_;intro c' hat' hwc';obtain rfl:=HC2.out c' hat';clear hat' hwc')|(gi_at_builtin;refine wpListIn_append_own_at _ rfl (.tmp 20) (.tmp 23) 57 rfl (S+4) 9 i0 (.string ⟨#[]⟩) 1 16 Tryz.underlying57 hi hz0 hz1 hz2 rfl (by decide) _ _ _ rfl hownA ⟨w3.heap.size,0,none⟩ 1 1 (cS1 s) rfl rfl hcA (by simp[cS1,Value.oneCell']) h63 hby hbA ?_))
    intro v6 w6 hown6 hg6 _ _
    have hs6:=hg6.size
    rw[World.size_alloc]at hs6
    have hne: ∀ k,k<S+4→some k≠(Value.slice A0 (onceL nms).length c0).ownBlock:=fun k hk e=>by have:=(HW3.out.2.2.1.ge e.symm).2;omega
    have b60:Boxed w6 S 57 (.slice A0 (onceL nms).length c0):=(hg6.block S (by rw[World.size_alloc];omega) (hne S (by omega))).trans (hp_old HW3.out.2.2.2.2.2)
    have O6:OwnC cS1 1 9 w6 (S+4) v6 (onceL nms++ [s]):=OwnC.snoc hown6
    obtain⟨A6,c6,hv6⟩:=O6.form
    obtain⟨n6,hn6⟩: ∃ p,(onceL nms++ [s]).length=p:=⟨_,rfl⟩
    rw[hn6]at hv6
    subst hv6
    have q0:=b60.cell
    have q1:=b60.frozen
    have HW6:=Hd (And.intro hg6 (And.intro O6 b60))
    have HNE:=Hd hne
    have HWN:=Hd hown3
    clear hn6 hown6 hg6 hownA hcA h63 hby hbA hne b60 O6 hown3 d4 e2 b30 d0
    gi_wp2
    have hg6:=HW6.out.1
    have hX: ∀ (k:Nat) (o:Obj),W.heap[k]? =some o→k≠S→k≠S+1→some k≠(Value.slice A0 (onceL nms).length c0).ownBlock→(w6.setCell ⟨S,0,none⟩ (.slice A6 n6 c6)).heap[k]? =some o:=fun k o hk h0 h1 h2=>by
      rw[hp_other h0,hg6.block k (by rw[World.size_alloc];have:=lt_of hk;omega) h2,Below.heap_alloc _ _ _ (by have:=lt_of hk;omega),HW3.out.1.block k (lt_of hk) (fun e=>h1 (Option.some.inj e))]
      exact hk
    have hBX:Below S W (w6.setCell ⟨S,0,none⟩ (.slice A6 n6 c6)):=((HW3.out.2.1.alloc (by omega) _).grown hg6 (by rw[World.size_alloc];omega) (fun k hk=>by have:=(HW3.out.2.2.1.ge hk).2;omega)).setCell (p:=⟨S,0,none⟩) (Nat.le_refl _) _
    have hstep:=ea_step (B:=S+4) (by omega) HCELL.out.2.1 ⟨D,HCNT.out⟩ hBX (by
      obtain⟨o3,ho3⟩: ∃ o,W.heap[S+3]? =some o:=⟨_,Array.getElem?_eq_getElem (by omega)⟩
      rw[ho3]
      exact hX _ _ ho3 (by omega) (by omega) (HNE.out _ (by omega))) (fun k o hk h0 h1 h2=>hX k o hk h0 h1 (ownsRow_type HCELL.out.2.2.1 hk h2))
    refine⟨by first|exact hstep.1|(rw[hsz];exact hstep.1),hstep.2,⟨_,HW6.out.2.2.set _,?_⟩,?_,?_,?_,?_⟩
    · rw[HNM.out.1,HON.out]
      exact HW6.out.2.1.keep fun q hq1 hq2=>hp_other (by omega)
    · rw[HNM.out.1]
      refine⟨_,?_,HSN.out⟩
      obtain⟨es,clock,hq,r⟩:=HWN.out
      rw[List.length_append]
      exact⟨es,clock,by rw[hp_other (by omega),hg6.block (S+1) (by rw[World.size_alloc];omega) (HNE.out _ (by omega)),Below.heap_alloc _ _ _ (by omega)];exact hq,r⟩
    · exact hX _ _ HCELL.out.2.2.2.1 (by omega) (by omega) (HNE.out _ (by omega))
    · exact HCELL.out.2.2.2.2.1.trans hBX
    · have:=hBX.size;omega
  · have hb1:(((ct:Nat):Int)+1==1)=false:=by
      have: ¬ (((ct:Nat):Int)+1=1):=by omega
      simpa using this
    have hns:s∈nms:=List.count_pos_iff.1 (by rw[HNM.out.2.2];omega)
    have HON:Hid (onceL (nms++ [s])=onceL nms):=Hd (by rw[onceL_snoc];unfold onceF;rw[if_pos ((mem_once nms s).2 hns)])
    clear hz hns
    gi_wp2_with (first|(gi_at_lookup;refine wpListIn_lookup_own_int _ rfl _ _ 98 rfl 9 3 .i64 lawSg Tryz.underlying98 Tryz.underlying3 (zeroIg _) (S+1) _ D rfl hown _ _ rfl KEY.out ?_;intro c' hat' hwc';obtain rfl:=HC1.out c' hat';clear hat' hwc')|(gi_at_mapUpdate;refine wpListIn_mapUpdate_own _ rfl _ _ _ 98 rfl 9 3 lawSg Tryz.underlying98 _ (S+1) _ D rfl hown hmx _ _ _ rfl rfl KEY.out _ [] (plainElem_int Tryz.underlying3 hwf) ?_))
    intro w3 hown3 hg3
    have hs3:=hg3.size
    have e34:w3.heap[S+1+1]? =W.heap[S+1+1]? :=hg3.block _ (by omega) (fun e=>by have:=Option.some.inj e;omega)
    have e30:w3.heap[S]? =W.heap[S]? :=hg3.block _ (by omega) (fun e=>by have:=Option.some.inj e;omega)
    have d4:w3.cell? ⟨S+1+1,0,none⟩=some (.map (some (S+1))):=(World.cell?_of_block (a:=⟨S+1+1,0,none⟩) e34).trans c4
    have e3g:w3.heap[g]? =W.heap[g]? :=hg3.block g (lt_of HCELL.out.1) (fun e=>by have:=Option.some.inj e;omega)
    have e2:w3.cell? ⟨g,2,none⟩=some (.string ⟨s.toArray⟩):=(World.cell?_of_block (a:=⟨g,2,none⟩) e3g).trans g2
    have b30:Boxed w3 S 57 v:=e30.trans HCELL.out.2.1
    have d0:=b30.cell
    have hB3:Below S W w3:=(Below.refl S W).grown hg3 (by omega) (fun k hk=>by have:=Option.some.inj hk;omega)
    have hO3:OwnC cS1 1 9 w3 (S+4) v (onceL nms):=HCELL.out.2.2.1.keep fun q hq1 hq2=>hg3.block q hq2 (fun e=>by have:=Option.some.inj e;omega)
    have HW3:=Hd (And.intro hg3 (And.intro hB3 (And.intro hO3 (And.intro hown3 (And.intro e34 b30)))))
    clear c4 g2 hown hwf hmx hg3 hB3 e34 e30 e3g
    have HWN:=Hd hown3
    clear hO3
    gi_wp2_with (first|(gi_at_lookup;refine wpListIn_lookup_own_int _ rfl _ _ 98 rfl 9 3 .i64 lawSg Tryz.underlying98 Tryz.underlying3 (zeroIg _) (S+1) _ _ rfl hown3 _ _ rfl KEY.out ?_;intro c' hat' hwc';obtain rfl:=HC2.out c' hat';clear hat' hwc'))
    have hg3:=HW3.out.1
    have hX: ∀ (k:Nat) (o:Obj),W.heap[k]? =some o→k≠S+1→w3.heap[k]? =some o:=fun k o hk h1=>by
      rw[hg3.block k (lt_of hk) (fun e=>h1 (Option.some.inj e))]
      exact hk
    have hstep:=ea_step (B:=S+4) (by omega) HCELL.out.2.1 ⟨D,HCNT.out⟩ HW3.out.2.1 (hg3.block _ (by omega) (fun e=>by have:=Option.some.inj e;omega)) (fun k o hk h0 h1 h2=>hX k o hk h1)
    refine⟨by first|exact hstep.1|(rw[hsz];exact hstep.1),hstep.2,⟨_,b30,?_⟩,?_,?_,?_,?_⟩
    · rw[HNM.out.1,HON.out]
      exact HW3.out.2.2.1
    · rw[HNM.out.1]
      refine⟨_,?_,HSN.out⟩
      rw[List.length_append]
      exact HWN.out
    · exact hX _ _ HCELL.out.2.2.2.1 (by omega)
    · exact HCELL.out.2.2.2.2.1.trans HW3.out.2.1
    · omega
 case done =>
  rintro D ys W hD rfl hI hK
  have hD4:S+4≤D:=by omega
  have hI2:EaI S w (rfsA l 0) (W.putObj D (.deferred none)):=hI.grown (by omega) (grownBy_putObj' W D (.deferred none)) (fun r e=>by cases e;exact .inr ⟨hD4,_,hK,rfl⟩)
  obtain⟨⟨v,h1,h2⟩,_,_,_,_⟩:=hI
  obtain⟨⟨v2,g1,g2⟩,_,_,g5,_⟩:=hI2
  have hvv:v2=v:=by
    have e:(W.putObj D (.deferred none)).heap[S]? =W.heap[S]? :=World.putObj_heap_other (by omega)
    unfold Boxed at h1 g1
    rw[e,h1]at g1
    cases g1
    rfl
  subst hvv
  obtain⟨OA,oc,hv⟩:=g2.form
  have hE:onceL ((rfsA l 0).map (fun r=>r.2.2))=eachL l:=rfl
  rw[hE]at hv g2
  subst hv
  have c0:=h1.cell
  have HALL:=Hd (And.intro g2 (And.intro g5 hK))
  clear h1 h2 g1 g2 g5 hK hE
  gi_wp2
  refine⟨by simp,.inl ⟨_,_,rfl,run_takeDeferred HALL.out.2.2,?_⟩⟩
  refine⟨.slice OA (eachL l).length oc,?_,⟨OA,oc,rfl,by rw[hS0];exact HALL.out.1.base (by omega),by rw[hS0];exact HALL.out.2.1⟩⟩
  simp[results,Tryz.f38,go_sem]
theorem Way.trans {g:List (List Nat)}{i j k:Nat}(h:Way g i j)(h2:Way g j k):Way g i k :=
 h2.closed (S:=fun m=>Way g i m) (fun _ ht _ hk=>h.more ht hk) (fun _ _ hm ht _ hk=>hm.more ht hk)
theorem countP_le' {α:Type}(p q:α→Bool): ∀ l:List α,(∀ x∈l,p x=true→q x=true)→l.countP p≤l.countP q
 | [],_=>Nat.le_refl _
 |x :: l,h=>by
  have h1:=countP_le' p q l fun y hy=>h y (List.mem_cons_of_mem _ hy)
  have h2:=h x List.mem_cons_self
  rw[List.countP_cons,List.countP_cons]
  cases hp:p x with
  |true=>rw [h2 hp];simp;omega
  |false=>cases q x <;> simp <;> omega
theorem countP_lt' {α:Type}(p q:α→Bool): ∀ l:List α,(∀ x∈l,p x=true→q x=true)→(∃ x∈l,q x=true∧p x=false)→l.countP p<l.countP q
 | [],_,⟨x,hx,_⟩=>by cases hx
 |x :: l,h,⟨y,hy,h1,h2⟩=>by
  have h3:=countP_le' p q l fun y hy=>h y (List.mem_cons_of_mem _ hy)
  have h4:=h x List.mem_cons_self
  rw[List.countP_cons,List.countP_cons]
  rcases List.mem_cons.1 hy with rfl|hy
  · rw[h1,h2];simp;omega
  · have h5:=countP_lt' p q l (fun y hy=>h y (List.mem_cons_of_mem _ hy)) ⟨y,hy,h1,h2⟩
    cases hp:p x with
    |true=>rw [h4 hp];simp;omega
    |false=>cases q x <;> simp <;> omega
open Classical in
noncomputable def rankW (g:List (List Nat))(i:Nat):Nat:=(List.range g.length).countP fun j=>decide (Way g i j)
section
variable {α:Type} {n:Nat} {F:(Nat→α)→Nat→α} {E:Nat→Nat→Prop} {rk:Nat→Nat}
def stepsV (F:(Nat→α)→Nat→α)(d:α):Nat→Nat→α
 |0=>fun _=>d
 |k+1=>F (stepsV F d k)
theorem steps_still (hdep: ∀ a b i,(∀ j,E i j→a j=b j)→F a i=F b i)(hE: ∀ i j,i<n→E i j→j<n∧rk j<rk i)(d:α): ∀ k i,i<n→rk i<k→stepsV F d k i=stepsV F d (k+1) i:=by
 intro k
 induction k with
 |zero=>intro i _ h;omega
 |succ k ih =>
  intro i hi hk
  show F (stepsV F d k) i=F (stepsV F d (k+1)) i
  refine hdep _ _ i fun j hj=> ?_
  obtain⟨h1,h2⟩:=hE i j hi hj
  exact ih j h1 (by omega)
def rowsG (F:(Nat→α)→Nat→α)(d:α)(zs:List α):Nat→List α
 |0=>zs
 |k+1=>(rowsG F d zs k).set k (F (fun j=>(rowsG F d zs k).getD j d) k)
def roundsG (F:(Nat→α)→Nat→α)(d:α)(n:Nat):Nat→List α
 |0=>List.replicate n d
 |m+1=>rowsG F d (roundsG F d n m) n
theorem rowsG_len (d:α)(zs:List α)(k:Nat):(rowsG F d zs k).length=zs.length:=by
 induction k with
 |zero=>rfl
 |succ k ih=>rw [rowsG,List.length_set,ih]
theorem roundsG_len (d:α)(m:Nat):(roundsG F d n m).length=n:=by
 induction m with
 |zero=>simp [roundsG]
 |succ m ih=>rw [roundsG,rowsG_len,ih]
theorem getD_setG (l:List α)(k i:Nat)(v d:α)(hk:k<l.length):(l.set k v).getD i d=if i=k then v else l.getD i d:=by
 rw[List.getD_eq_getElem?_getD,List.getElem?_set]
 by_cases h:k=i
 · subst h;simp[hk]
 · rw[if_neg h,if_neg (fun e=>h e.symm),← List.getD_eq_getElem?_getD]
theorem rowsG_val (hdep: ∀ a b i,(∀ j,E i j→a j=b j)→F a i=F b i)(hE: ∀ i j,i<n→E i j→j<n∧rk j<rk i)(d:α){v:Nat→α}(hv: ∀ i,i<n→v i=F v i){m:Nat}{zs:List α}(hl:zs.length=n)(hz: ∀ i,i<n→rk i<m→zs.getD i d=v i) :
 ∀ k,k≤n→(∀ i,i<n→rk i<m→(rowsG F d zs k).getD i d=v i)∧ ∀ i,i<k→rk i<m+1→(rowsG F d zs k).getD i d=v i:=by
 intro k
 induction k with
 |zero=>intro _;exact⟨hz,fun i h=>by omega⟩
 |succ k ih =>
  intro hk
  obtain⟨h1,h2⟩:=ih (by omega)
  have hlk:k<(rowsG F d zs k).length:=by rw[rowsG_len,hl];omega
  have hnew:rk k<m+1→F (fun j=>(rowsG F d zs k).getD j d) k=v k:=fun hr=>by
   rw[hv k (by omega)]
   refine hdep _ _ k fun j hj=> ?_
   obtain⟨q1,q2⟩:=hE k j (by omega) hj
   exact h1 j q1 (by omega)
  refine⟨fun i hi hr=> ?_,fun i hi hr=> ?_⟩
  · rw[rowsG,getD_setG _ _ _ _ _ hlk]
    by_cases e:i=k
    · subst e;rw[if_pos rfl];exact hnew (by omega)
    · rw[if_neg e];exact h1 i hi hr
  · rw[rowsG,getD_setG _ _ _ _ _ hlk]
    by_cases e:i=k
    · subst e;rw[if_pos rfl];exact hnew hr
    · rw[if_neg e];exact h2 i (by omega) hr
theorem rounds_val (hdep: ∀ a b i,(∀ j,E i j→a j=b j)→F a i=F b i)(hE: ∀ i j,i<n→E i j→j<n∧rk j<rk i)(d:α){v:Nat→α}(hv: ∀ i,i<n→v i=F v i): ∀ m i,i<n→rk i<m→(roundsG F d n m).getD i d=v i:=by
 intro m
 induction m with
 |zero=>intro i _ h;omega
 |succ m ih =>
  intro i hi hr
  exact(rowsG_val hdep hE d hv (roundsG_len d m) ih n (Nat.le_refl _)).2 i hi hr
end
end Go.Proofs.YtbafljibbabnaaaGreatDoor
