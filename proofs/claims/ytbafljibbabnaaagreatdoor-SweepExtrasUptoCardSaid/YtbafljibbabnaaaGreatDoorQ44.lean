/- Texts of ours, joined: SxE. -/
import Derived.Test.YtbafljibbabnaaaGreatDoorQ43
namespace Go.Proofs.YtbafljibbabnaaaGreatDoor
open Go.ChangeShapes Go.WideShapes Go.ChangeAt Go.RowKit
set_option linter.unusedVariables false
set_option maxRecDepth 100000
set_option maxHeartbeats 32000000
theorem results_c2 {P:Program}{fn:Func}{p u:Tmp}{ty:TypeId}(h:fn.results= #[.cell p ty,.tmp u])(tmps:Array Value)(w:World)(g:Nat)(t:TypeId)(cs:Array Value)(fr:Nat × Nat)(d:TypeDesc)
 (hp:tmps.getD p undef= .pointer (some ⟨g,0,none⟩)) (hg:w.heap[g]? =some (.cells cs t fr))
 (hu:P.underlying ty=some d) (hd:(match d with| .struct _| .array _ _=>true|_=>false)=true) (hi:(P.info? ty).map (·.size)=some cs.size) :
 (results fn tmps).run P w= .ok (.tuple #[.agg cs,tmps.getD u undef]) w:=by
 have hp':tmps[p]?.getD undef= .pointer (some ⟨g,0,none⟩):=by simpa using hp
 simp[results,h,hp',asAddr,run_loadVar_row w g t ty cs fr d hg hu hd hi]
theorem grownBy_drew {w w':World}{r:Option Nat}(h:w.grownBy w' r):w.grownBy w'.drew r:=⟨h.os,h.tape,h.output,h.size,h.block⟩
theorem grownBy_below {w w' w'':World}{r:Option Nat}(h:w.grownBy w' r)(hb:Below w'.heap.size w' w''):w.grownBy w'' r :=
 ⟨hb.os.trans h.os,hb.tape.trans h.tape,hb.output.trans h.output,Nat.le_trans h.size hb.size,fun b hb2 hne=>(hb.block b (Nat.lt_of_lt_of_le hb2 h.size)).trans (h.block b hb2 hne)⟩
def foldP (look:List UInt8→Option (Nat × Nat × Nat))(acc:Nat × Nat × Nat)(ps:List PairL):Nat × Nat × Nat:=(ps.flatMap fun p=>rnames p.2).foldl (extraF look) acc
theorem foldP_snoc (look:List UInt8→Option (Nat × Nat × Nat))(acc:Nat × Nat × Nat)(ps:List PairL)(p:PairL):foldP look acc (ps++ [p])=(rnames p.2).foldl (extraF look) (foldP look acc ps):=by
 unfold foldP
 rw[List.flatMap_append,List.foldl_append,List.flatMap_cons,List.flatMap_nil,List.append_nil]
theorem namesK_fold (look:List UInt8→Option (Nat × Nat × Nat))(acc:Nat × Nat × Nat)(t:TokL):(namesK t).foldl (extraF look) acc=foldP look (if t.kind=3 then extraF look acc t.name else acc) t.pairs:=by
 unfold namesK foldP
 rw[List.foldl_append]
 split <;> rfl
theorem fold_snoc {look:List UInt8→Option (Nat × Nat × Nat)}{acc:Nat × Nat × Nat}{ns:List (List UInt8)}{j:Nat}{nm:List UInt8}(h:ns[j]? =some nm):(ns.take (j+1)).foldl (extraF look) acc=extraF look ((ns.take j).foldl (extraF look) acc) nm:=by
 rw[List.take_add_one,h,List.foldl_append]
 rfl
def EntK (q:Nat)(v:TokV)(W:World):Prop:=W.heap[q]? =some (.cells #[.int .i64 v.t.kind,.int .i64 v.t.fro,.int .i64 v.t.to_,.string ⟨v.t.name.toArray⟩,.string ⟨v.t.text.toArray⟩,.slice v.A v.n v.c,.int .i64 v.t.r] 47 (0,0))
theorem LkI.noCell {w:World}{b n:Nat}{look:List UInt8→Option (Nat × Nat × Nat)}(h:LkI w b n look){o:Nat}{v:Value}(hc:w.cell? ⟨b,o,none⟩=some v):False:=by
 obtain⟨D,h1,_⟩:=h
 obtain⟨es,clock,hq,r⟩:=h1
 simp[World.cell?,hq]at hc
theorem swExtra_c (A:Option Addr)(n cap:Nat)(l:List EntT)(TA:Option Addr)(tn tc:Nat)(vs:List TokV)(w:World)(h:RRd cE 6 w w.heap.size A n cap l)(hm:n≤100)(hx: ∀ x∈l,x.tx.length≤20000)(hnm: ∀ x∈l,x.nm.length≤1000000000000000)(ht:TRd w w.heap.size TA tn tc vs)(htn:tn≤20000)(hts: ∀ v∈vs,okTk 20000 v.t)(hF:Forms w)(hT:Tabs w)(hK:KnownT w) :
 Calls Tryz.prog 8 #[.slice A n cap,.slice TA tn tc] w fun e w'=>(loopsE l→e= .returned (.tuple #[.agg #[.int .i64 0,.int .i64 0,.int .i64 0],.int .i64 8]))∧(¬ loopsE l→e= .returned (.tuple #[.agg (sz3 (accT (lookE (innerE l) (sizesE l)) (vs.map TokV.t))),.int .i64 0]))∧Below w.heap.size w w':=by
 have kb0:=(Below.refl w.heap.size w).alloc (Nat.le_refl _) (.cells #[.int .i64 0,.int .i64 0,.int .i64 0] 34)
 have hr0:=hp_new w (.cells #[.int .i64 0,.int .i64 0,.int .i64 0] 34)
 have hln:l.length=n:=h.len
 have hN:(innerE l).length≤n:=by have:=inner_len l [];simpa [innerE,hln] using this
 have CA:=Hd (costAll_c A n cap l (w.alloc (.cells #[.int .i64 0,.int .i64 0,.int .i64 0] 34)) ((h.below kb0).more kb0.size) hm hx hnm (hF.below kb0 hF.lt) (hT.below kb0 (hT.low hF)) (hK.below kb0))
 have CG:Hid (∀ W,Below w.heap.size w W→Calls Tryz.prog 15 #[.slice A n cap] W fun e w'=> ∃ NA nc TA tc,e= .returned (.agg #[.slice NA (innerE l).length nc,.slice TA (innerE l).length tc])∧ ∃ rs,rs.map IRow.l=graphE l∧RRd cS1 1 w' w'.heap.size NA (innerE l).length nc ((innerE l).map EntT.nm)∧GRd w' w'.heap.size TA (innerE l).length tc rs∧Below W.heap.size W w'):=Hd fun W hb=>graphOf_c A n cap l W ((h.below hb).more hb.size) (by omega) hx hnm (hF.below hb hF.lt) (hT.below hb (hT.low hF))
 have HW:=Hd (And.intro hF (And.intro hT hK))
 have HT:=Hd (And.intro ht hts)
 have HX:=Hd (And.intro hx hnm)
 obtain⟨N,hN2⟩: ∃ N,(innerE l).length=N:=⟨_,rfl⟩
 have HN:=Hd hN2
 have H0:=Hd (And.intro kb0 hr0)
 rw[hN2]at CA CG hN
 have hmm:= @run_makeMap Tryz.prog
 clear h hx hnm ht hts hF hT hK hln hN2 kb0 hr0
 go_enter Tryz.func8,Tryz.ntmps8
 go_wp2_with fail
 refine CA.out.mono ?_
 rintro e w1 ⟨hl1,hl2,hb1⟩
 have HB1:=Hd hb1
 clear hb1 CA
 have hR1:w1.heap[w.heap.size]? =some (.cells #[.int .i64 0,.int .i64 0,.int .i64 0] 34 (0,0)):=(HB1.out.block _ (by simp)).trans H0.out.2
 have hB01:Below w.heap.size w w1:=H0.out.1.trans (HB1.out.mono H0.out.1.size)
 by_cases hl:loopsE l
 · obtain rfl:=hl1 hl
   have HL:=Hd hl
   have wc:=hR1
   have hi:(Tryz.prog.info? 34).map (·.size)=some 3:=by kernel_rfl
   obtain⟨dd,hu⟩:=isStruct_of (P:=Tryz.prog) (t:=34) (by kernel_rfl)
   have HU:=Hd (And.intro hi hu)
   have HQ4:Hid ((w1.setRow (w.heap.size) #[.int .i64 0,.int .i64 0,.int .i64 0]).heap[w.heap.size]? =some (.cells #[.int .i64 0,.int .i64 0,.int .i64 0] 34 (0,0))):=Hd (setRow_heap _ _ _ _ _ _ wc)
   have HBF:Hid (Below w.heap.size w (w1.setRow (w.heap.size) #[.int .i64 0,.int .i64 0,.int .i64 0])):=Hd (by
    refine⟨hB01.os,hB01.tape,hB01.output,?_,fun k hk=> ?_⟩
    · have:=hB01.size
      simpa [World.setRow] using this
    · rw[setRow_other _ _ _ _ (by omega)]
      exact hB01.block k hk)
   clear hl1 hl2 hl hmm hi hu hB01 CG
   go_wp2_with (first|(refine wpList_store_row rfl _ _ _ rfl (w.heap.size) #[.int .i64 0,.int .i64 0,.int .i64 0] rfl rfl _ _ wc (by kernel_rfl) rfl (by kernel_rfl) ?_))
   (try simp only[Exit.inBlock,Exit.then])
   exact bodyPost_ret (results_c2 rfl _ _ w.heap.size _ _ _ _ rfl HQ4.out HU.out.2 rfl HU.out.1) rfl ⟨fun _=>rfl,fun h=>absurd HL.out h,HBF.out⟩
 · obtain⟨OZ,rfl,hrz⟩:=hl2 hl
   have HNL:=Hd hl
   have HRZ:=Hd hrz
   have HB01:=Hd hB01
   have HR1:=Hd hR1
   clear hl1 hl2 hl hrz hB01 hR1
   have LK0:LkI (w1.alloc (.map #[] 0)) w1.heap.size 0 (lookP l []):=(LkI.start w1).look fun s=>by unfold lookP;rw[if_neg (fun h=>by cases h.2)]
   have b2:=(((Below.refl w1.heap.size w1).alloc (Nat.le_refl _) (.map #[] 0)).alloc (by simp) (.cells #[.map (some w1.heap.size)] 56))
   have LK1:=LK0.kept (w':=(w1.alloc (.map #[] 0)).alloc (.cells #[.map (some w1.heap.size)] 56)) (by rw[Below.heap_alloc _ _ _ (by simp)])
   have OB1:=hp_new (w1.alloc (.map #[] 0)) (.cells #[.map (some w1.heap.size)] 56)
   rw[show (w1.alloc (.map #[] 0)).heap.size=w1.heap.size+1 by simp]at OB1
   have HM1:=Hd (And.intro b2 (And.intro LK1 OB1))
   obtain⟨M,hM⟩: ∃ p,w1.heap.size=p:=⟨_,rfl⟩
   have HM:=Hd hM
   have HWM:Hid (w.heap.size<M):=Hd (by rw[← hM];exact lt_of HR1.out)
   rw[hM]at HM1
   clear LK0 LK1 b2 OB1
   go_wp2_with fail
   generalize (w1.alloc (.map #[] 0)).alloc (.cells #[.map (some M)] 56)=wm at *
   clear hmm
   have HBm:Hid (Below w.heap.size w wm):=Hd (HB01.out.trans (HM1.out.1.mono (Nat.le_of_lt HWM.out)))
   refine(CG.out wm HBm.out).mono ?_
   rintro e w3 ⟨NA,nc,GA,gc,rfl,rs,hrs,hNr,hG,hb3⟩
   have HB3:=Hd (HBm.out.trans (hb3.mono HBm.out.size))
   have HLK3:Hid (LkI w3 M 0 (lookP l (List.range 0))):=Hd (HM1.out.2.1.kept (hb3.block _ HM1.out.2.1.lt))
   have HOB3:Hid (w3.heap[M+1]? =some (.cells #[.map (some M)] 56 (0,0))):=Hd ((hb3.block _ (lt_of HM1.out.2.2)).trans HM1.out.2.2)
   have HZ3:Hid (RRd cZ 3 w3 M (some ⟨OZ,0,none⟩) N N ((List.range N).map (sizesE l))):=Hd (by
    have h9:=HRZ.out
    rw[hM]at h9
    exact(h9.below HM1.out.1).below (hb3.mono (by have:=lt_of HM1.out.2.2;omega)))
   have HNR:=Hd hNr
   have HLM:Hid (M<w3.heap.size):=Hd HLK3.out.lt
   have HLN:Hid (∀ (o:Nat) (v:Value),w3.cell? ⟨M,o,none⟩=some v→False):=Hd (fun o v h=>HLK3.out.noCell h)
   have HR3:Hid (w3.heap[w.heap.size]? =some (.cells #[.int .i64 0,.int .i64 0,.int .i64 0] 34 (0,0))):=Hd ((hb3.block _ (by have:=lt_of HM1.out.2.2;have:=HWM.out;omega)).trans ((HM1.out.1.block _ HWM.out).trans HR1.out))
   clear hb3 hG hrs hNr hM
   have hfld: ∀ W,(Instr.field 60 (.agg #[.slice NA N nc,.slice GA N gc]) 0).run Tryz.prog W= .ok (.slice NA N nc) W:=fun W=>by kernel_rfl
   go_wp2_with fail
   clear hfld
   go_loopg [33] (N) (fun gg iv wr=> ∃ t:Nat,iv= .int .i64 (t:Int)∧t≤N∧Hid (gg+t=N)∧Hid (w3.grownBy wr (some M)∧ ∃ n9,n9≤t∧LkI wr M n9 (lookP l (List.range t))))
   case atStart=>exact⟨0,rfl,Nat.zero_le _,Hd rfl,Hd ⟨World.grownBy.refl _ _,0,Nat.le_refl _,HLK3.out⟩⟩
   case round =>
    clear HLK3
    obtain⟨t,rfl,ht,hg,HJ⟩:=hrel
    have ht0:(0:Int)≤(t:Int):=by omega
    have ht9:(t:Int)≤100:=by omega
    by_cases htN:t<N
    · have hti:(t:Int)<(N:Int):=by omega
      have hx:=List.getElem?_eq_getElem (l:=innerE l) (i:=t) (by rw[HN.out];exact htN)
      generalize (innerE l)[t]'(by rw[HN.out];exact htN)=x at hx
      have hmx:x∈l:=(inner_sub l [] x (fun _ h=>h) (List.mem_of_getElem? hx)).resolve_right (fun h=>by cases h)
      obtain⟨b3,o3,nm,rfl,hb3,hnm3,hc3⟩:=HNR.out.cell htN
      have hnx:nm=x.nm:=by
       rw[List.getElem?_map,hx]at hnm3
       exact(Option.some.inj hnm3).symm
      subst hnx
      have z3':w3.cell? ⟨b3,o3+t,none⟩=some (.string ⟨x.nm.toArray⟩):=by rw[show o3+t=o3+(t*1+0)by omega];exact hc3 0 _ rfl
      obtain⟨n8,hn8,hl8⟩:=HJ.out.2
      have hb3M:b3≠M:=fun e=>by
       subst e
       exact HLN.out _ _ z3'
      have z3:wr.cell? ⟨b3,o3+t,none⟩=some (.string ⟨x.nm.toArray⟩):=(World.cell?_of_block (a:=⟨b3,o3+t,none⟩) (HJ.out.1.block b3 hb3 (fun e=>hb3M (Option.some.inj e)))).trans z3'
      have HKEY:=Hd (keySg (s:=x.nm) (by have:=HX.out.2 x hmx;omega))
      have HLP:=Hd (lookP_snoc (done:=List.range t) hx)
      obtain⟨nm,tx,xo,xp,xq,xr⟩:=x
      simp only at *
      obtain⟨⟨ct,L,Dd⟩,hsz⟩: ∃ z,sizesE l t=z:=⟨_,rfl⟩
      rw[hsz]at HLP
      have JG:Hid (w3.grownBy wr.drew (some M)∧ ∃ n9,n9≤t∧LkI wr.drew M n9 (lookP l (List.range t))):=Hd ⟨grownBy_drew HJ.out.1,n8,hn8,hl8.kept rfl⟩
      have AT:Hid (∀ W,(w3.grownBy W (some M)∧ ∃ n9,n9≤t∧LkI W M n9 (lookP l (List.range t)))→W.cell? ⟨M+1,0,none⟩=some (.map (some M))∧W.cell? ⟨OZ,t*3,none⟩=some (.int .i64 (ct:Nat))∧W.cell? ⟨OZ,t*3+1,none⟩=some (.int .i64 (L:Nat))∧W.cell? ⟨OZ,t*3+2,none⟩=some (.int .i64 (Dd:Nat))):=Hd fun W hW=>by
       have hRW:RRd cZ 3 W M (some ⟨OZ,0,none⟩) N N ((List.range N).map (sizesE l)):=HZ3.out.keep fun p hp=>World.cell?_of_block (hW.1.block p.block (Nat.lt_trans hp HLM.out) (fun e=>by have:=Option.some.inj e;omega))
       obtain⟨b,o,z,e,hb,hz,hc⟩:=hRW.cell htN
       cases e
       have hz2:z=(ct,L,Dd):=by
        rw[List.getElem?_map,List.getElem?_range htN]at hz
        rw[← hsz]
        exact(Option.some.inj hz).symm
       subst hz2
       exact⟨cell_of 0 ((hW.1.block (M+1) (lt_of HOB3.out) (fun e=>by have:=Option.some.inj e;omega)).trans HOB3.out),by have:=hc 0 _ rfl;simpa using this,by have:=hc 1 _ rfl;simpa [Nat.add_comm] using this,by have:=hc 2 _ rfl;simpa [Nat.add_comm] using this⟩
      clear hb3 hnm3 hc3 z3' hx hmx hn8 hl8 hsz hb3M
      go_wp2_with fail
      refine wp_region_calm (fun W=>Hid (w3.grownBy W (some M)∧ ∃ n9,n9≤t∧LkI W M n9 (lookP l (List.range t)))) 6 (by kernel_rfl) (by kernel_rfl) JG ?_
      simp only[List.take_succ_cons,List.take_zero,List.drop_succ_cons,List.drop_zero]
      repeat
       refine wpQuiet_step (fun K hK=> ?_)
       go_simp
       first
        |(refine hK _ ?_;clear hK K)
        |(apply Exists.intro
          refine⟨fun W hW=> ?_,hK _ ?_⟩
          · first
             |exact rfl
             |(obtain⟨a0,a1,a2,a3⟩:=AT.out W hW.out;go_simp;done)
             |(obtain⟨a0,a1,a2,a3⟩:=AT.out W hW.out;go_simp;exact rfl)
          clear hK K)
      refine wpQuiet_nil ?_
      intro w10 hw10
      clear JG AT
      obtain⟨n9,hn9,D2,hown,hhas,hat⟩:=hw10.out.2
      have HIS:Go.Maps.IsMap D2:=by obtain⟨es,clock,hb,_,_,rfl⟩:=hown;exact⟨_,rfl⟩
      have HAS:=Hd (lkI_put (nm:=nm) (z:=(ct,L,Dd)) HIS hhas hat)
      have hmx:n9<maxLen:=by unfold maxLen;omega
      have HN9:=Hd hn9
      clear hn9 HIS hhas hat z3 HJ
      go_wp2_with (at_mapUpdate;refine wpList_mapUpdate_own _ rfl _ _ _ 56 rfl 9 34 lawSg Tryz.underlying56 heldElem M _ D2 rfl hown hmx _ _ _ rfl rfl HKEY.out _ [] rfl ?_)
      intro w9 hown3 hg3
      have HE:Hid (w3.grownBy w9 (some M)∧ ∃ n9,n9≤t+1∧LkI w9 M n9 (lookP l (List.range (t+1)))):=Hd (by
       refine⟨hw10.out.1.trans hg3,n9+1,by have:=HN9.out;omega,?_⟩
       rw[List.range_succ]
       exact LkI.look (f:=putL (lookP l (List.range t)) nm (ct,L,Dd)) ⟨_,hown3,HAS.out.1,HAS.out.2⟩ fun s=>(HLP.out s).symm)
      clear hown hown3 hg3 hmx hw10
      go_wp2
      go_roundg (N - (t+1))
      case measure=>have:=hg.out;omega
      case rel=>exact⟨t+1,by go_num,by omega,Hd (by have:=hg.out;omega),HE⟩
    · obtain rfl:t=N:=by omega
      have hti: ¬ (t:Int)<(t:Int):=by omega
      obtain⟨n9,hn9,hl9⟩:=HJ.out.2
      have hb9:Below w.heap.size w wr:=HB3.out.grown HJ.out.1 HB3.out.size (fun b e=>by have:=Option.some.inj e;have:=HWM.out;omega)
      have HBw:Hid (Below w.heap.size w (wr.alloc (.cells #[.int .i64 0,.int .i64 0,.int .i64 0] 34))):=Hd (hb9.alloc hb9.size _)
      have HLKw:Hid (LkI (wr.alloc (.cells #[.int .i64 0,.int .i64 0,.int .i64 0] 34)) M n9 (lookE (innerE l) (sizesE l))):=Hd ((hl9.look fun s=>by have:=lookP_range l s;rw[HN.out]at this;exact this).kept (Below.heap_alloc _ _ _ hl9.lt))
      have HOBw:Hid ((wr.alloc (.cells #[.int .i64 0,.int .i64 0,.int .i64 0] 34)).heap[M+1]? =some (.cells #[.map (some M)] 56 (0,0))):=Hd (hp_old ((HJ.out.1.block (M+1) (lt_of HOB3.out) (fun e=>by have:=Option.some.inj e;omega)).trans HOB3.out))
      have HRw:Hid ((wr.alloc (.cells #[.int .i64 0,.int .i64 0,.int .i64 0] 34)).heap[w.heap.size]? =some (.cells #[.int .i64 0,.int .i64 0,.int .i64 0] 34 (0,0))):=Hd (hp_old ((HJ.out.1.block _ (lt_of HR3.out) (fun e=>by have:=Option.some.inj e;have:=HWM.out;omega)).trans HR3.out))
      have HAw:Hid ((wr.alloc (.cells #[.int .i64 0,.int .i64 0,.int .i64 0] 34)).heap[wr.heap.size]? =some (.cells (sz3 (accT (lookE (innerE l) (sizesE l)) ((vs.map TokV.t).take 0))) 34 (0,0))):=Hd (hp_new wr _)
      have HAB:Hid (M<wr.heap.size∧M+1<wr.heap.size∧w.heap.size<wr.heap.size):=Hd ⟨hl9.lt,by have:=lt_of HOB3.out;have:=HJ.out.1.size;omega,by have:=hb9.size;have:=hl9.lt;have:=HWM.out;omega⟩
      have HLB:Hid (∀ nm z,lookE (innerE l) (sizesE l) nm=some z→z.1≤9223372036854775807∧z.2.1≤9223372036854775807∧z.2.2≤1000000):=Hd fun nm z hz=>by
       have:=lookE_bound HNL.out _ _ hz
       rw[HN.out]at this
       omega
      obtain⟨AB,hAB⟩: ∃ p,wr.heap.size=p:=⟨_,rfl⟩
      rw[hAB]at HAw HAB
      clear hn9 hl9 hb9 HJ HNR HZ3 HLN HLM HR3 HOB3
      obtain⟨lk,hlk⟩: ∃ p,lookE (innerE l) (sizesE l)=p:=⟨_,rfl⟩
      have HLKE:=Hd hlk
      rw[hlk]at HLKw HAw HLB
      clear hlk
      go_wp2_with fail
      generalize (wr.alloc (.cells #[.int .i64 0,.int .i64 0,.int .i64 0] 34))=wa at *
      clear hAB
      have HAT:Hid (∀ W,wa.grownBy W (some AB)→Below w.heap.size w W∧LkI W M n9 lk∧W.heap[M+1]? =some (.cells #[.map (some M)] 56 (0,0))∧W.heap[w.heap.size]? =some (.cells #[.int .i64 0,.int .i64 0,.int .i64 0] 34 (0,0))):=Hd fun W hW =>
       ⟨HBw.out.grown hW HBw.out.size (fun b e=>by have:=Option.some.inj e;have:=HAB.out.2.2;omega),HLKw.out.kept (hW.block _ HLKw.out.lt (fun e=>by have:=Option.some.inj e;have:=HAB.out.1;omega)),(hW.block _ (lt_of HOBw.out) (fun e=>by have:=Option.some.inj e;have:=HAB.out.2.1;omega)).trans HOBw.out,(hW.block _ (lt_of HRw.out) (fun e=>by have:=Option.some.inj e;have:=HAB.out.2.2;omega)).trans HRw.out⟩
      have CAD:Hid (∀ W acc nm,wa.grownBy W (some AB)→W.heap[AB]? =some (.cells (sz3 acc) 34 (0,0))→nm.length≤1000000→acc.1≤9223372036854775807∧acc.2.1≤9223372036854775807→Calls Tryz.prog 16 #[.string ⟨nm.toArray⟩,.pointer (some ⟨M+1,0,none⟩),.pointer (some ⟨AB,0,none⟩)] W fun e w'=>(∃ v,e= .returned v)∧w'.heap[AB]? =some (.cells (sz3 (extraF lk acc nm)) 34 (0,0))∧W.grownBy w' (some AB)):=Hd fun W acc nm hW hA hn hacc =>
       sxAdd_c (M+1) AB M n9 lk acc nm W (HAT.out W hW).2.2.1 (HAT.out W hW).2.1 hA hn hacc HLB.out
      have J0:Hid (wa.grownBy wa (some AB)∧wa.heap[AB]? =some (.cells (sz3 (accT lk ((vs.map TokV.t).take 0))) 34 (0,0))):=Hd ⟨World.grownBy.refl _ _,HAw.out⟩
      clear HBw HLKw HOBw HRw HAw
      go_loopg [48] (tn) (fun gg iv wr=> ∃ i:Nat,iv= .int .i64 (i:Int)∧i≤tn∧Hid (gg+i=tn)∧Hid (wa.grownBy wr (some AB)∧wr.heap[AB]? =some (.cells (sz3 (accT lk ((vs.map TokV.t).take i))) 34 (0,0))))
      case atStart=>exact⟨0,rfl,Nat.zero_le _,Hd rfl,J0⟩
      case round =>
       clear J0
       obtain⟨i,rfl,hi,hgi,HJ⟩:=hrel
       have hi0:(0:Int)≤(i:Int):=by omega
       have hi9:(i:Int)≤20000:=by omega
       by_cases hitn:i<tn
       · have hii:(i:Int)<(tn:Int):=by omega
         have hTR:=HT.out.1.below (HAT.out wr HJ.out.1).1
         obtain⟨b1,o1,rfl,hb1,hc1⟩:=hTR.at_ (by have:=hTR.le;omega)
         have hv:=List.getElem?_eq_getElem (l:=vs) (i:=i) (by rw[hTR.len];exact hitn)
         generalize vs[i]'(by rw[hTR.len];exact hitn)=v at hv
         have hok:=HT.out.2 v (List.mem_of_getElem? hv)
         have HOK:=Hd hok
         have HPR:Hid (∀ W,Below w.heap.size w W→PRd W w.heap.size v.A v.n v.c v.t.pairs):=Hd fun W hb=>(HT.out.1.below hb).prs v (List.mem_of_getElem? hv)
         have HACC:Hid (accT lk ((vs.map TokV.t).take (i+1))=foldP lk (if v.t.kind=3 then extraF lk (accT lk ((vs.map TokV.t).take i)) v.t.name else accT lk ((vs.map TokV.t).take i)) v.t.pairs):=Hd (by
          rw[List.take_add_one,List.getElem?_map,hv]
          exact(accT_snoc _ _ _).trans (namesK_fold _ _ _))
         have HC0:=Hd (accT_le lk ((vs.map TokV.t).take i))
         have hc2:=hc1 i v hv
         have t0:wr.cell? ⟨b1,o1+i*7,none⟩=some (.int .i64 v.t.kind):=by rw[show o1+i*7=o1+(i*7+0)by omega];exact hc2 0 _ rfl
         have t1:wr.cell? ⟨b1,o1+i*7+1,none⟩=some (.int .i64 v.t.fro):=by rw[show o1+i*7+1=o1+(i*7+1)by omega];exact hc2 1 _ rfl
         have t2:wr.cell? ⟨b1,o1+i*7+2,none⟩=some (.int .i64 v.t.to_):=by rw[show o1+i*7+2=o1+(i*7+2)by omega];exact hc2 2 _ rfl
         have t3:wr.cell? ⟨b1,o1+i*7+3,none⟩=some (.string ⟨v.t.name.toArray⟩):=by rw[show o1+i*7+3=o1+(i*7+3)by omega];exact hc2 3 _ rfl
         have t4:wr.cell? ⟨b1,o1+i*7+4,none⟩=some (.string ⟨v.t.text.toArray⟩):=by rw[show o1+i*7+4=o1+(i*7+4)by omega];exact hc2 4 _ rfl
         have t5:wr.cell? ⟨b1,o1+i*7+5,none⟩=some (.slice v.A v.n v.c):=by rw[show o1+i*7+5=o1+(i*7+5)by omega];exact hc2 5 _ rfl
         have t6:wr.cell? ⟨b1,o1+i*7+6,none⟩=some (.int .i64 v.t.r):=by rw[show o1+i*7+6=o1+(i*7+6)by omega];exact hc2 6 _ rfl
         obtain⟨⟨kind,fro,to_,name,text,pairs,r⟩,PA,pn,pc⟩:=v
         simp only at *
         obtain⟨acc,hacc⟩: ∃ p,accT lk ((vs.map TokV.t).take i)=p:=⟨_,rfl⟩
         rw[hacc]at HACC HC0 HJ
         have HK0:Hid (EntK wr.heap.size ⟨⟨kind,fro,to_,name,text,pairs,r⟩,PA,pn,pc⟩ (wr.alloc (.cells #[.int .i64 kind,.int .i64 fro,.int .i64 to_,.string ⟨name.toArray⟩,.string ⟨text.toArray⟩,.slice PA pn pc,.int .i64 r] 47))):=Hd (hp_new wr _)
         have HJ1:Hid (wa.grownBy (wr.alloc (.cells #[.int .i64 kind,.int .i64 fro,.int .i64 to_,.string ⟨name.toArray⟩,.string ⟨text.toArray⟩,.slice PA pn pc,.int .i64 r] 47)) (some AB)∧(wr.alloc (.cells #[.int .i64 kind,.int .i64 fro,.int .i64 to_,.string ⟨name.toArray⟩,.string ⟨text.toArray⟩,.slice PA pn pc,.int .i64 r] 47)).heap[AB]? =some (.cells (sz3 acc) 34 (0,0))):=Hd ⟨HJ.out.1.trans (World.grownBy_alloc _ _ _),hp_old HJ.out.2⟩
         obtain⟨q,hq⟩: ∃ p,wr.heap.size=p:=⟨_,rfl⟩
         have HQ:Hid (AB<q):=Hd (by rw[← hq];exact lt_of HJ.out.2)
         rw[hq]at HK0
         clear hTR hb1 hc1 hv hok hc2 hacc
         have hpn:pairs.length=pn:=(HPR.out w (Below.refl _ _)).len
         have hpn9:pn≤20000:=by have h9:pairs.length≤20000:=HOK.out.2.1;omega
         have HPL:=Hd hpn
         clear hpn
         by_cases hk3:kind=3
         case' pos =>
          have hkb:(kind==3)=true:=by simpa using hk3
          have HEA:Hid (accT lk ((vs.map TokV.t).take (i+1))=foldP lk (extraF lk acc name) pairs):=Hd (by rw[HACC.out,if_pos hk3])
          have hnl:name.length≤1024:=HOK.out.1 hk3
          have HNL9:=Hd hnl
          clear hk3 hnl
          go_wp2_with fail
          clear t0 t1 t2 t3 t4 t5 t6
          generalize (wr.alloc (.cells #[.int .i64 kind,.int .i64 fro,.int .i64 to_,.string ⟨name.toArray⟩,.string ⟨text.toArray⟩,.slice PA pn pc,.int .i64 r] 47))=wq at *
          refine(CAD.out wq acc name HJ1.out.1 HJ1.out.2 (by have:=HNL9.out;omega) HC0.out).mono ?_
          rintro e w5 ⟨⟨v5,rfl⟩,hA5,hg5⟩
          have HJ5:Hid (wa.grownBy w5 (some AB)∧w5.heap[AB]? =some (.cells (sz3 (extraF lk acc name)) 34 (0,0))):=Hd ⟨HJ1.out.1.trans hg5,hA5⟩
          have z5:w5.cell? ⟨q,5,none⟩=some (.slice PA pn pc):=cell_of 5 ((hg5.block q (lt_of HK0.out) (fun e=>by have:=Option.some.inj e;have:=HQ.out;omega)).trans HK0.out)
          have HC5:Hid ((extraF lk acc name).1≤9223372036854775807∧(extraF lk acc name).2.1≤9223372036854775807):=Hd (extra_le lk [name] acc HC0.out)
          obtain⟨acc1,hacc1⟩: ∃ p,extraF lk acc name=p:=⟨_,rfl⟩
          rw[hacc1]at HEA HJ5 HC5
          clear hA5 hg5 HJ1 HK0 hkb hacc1 HJ HACC HC0
          go_wp2_with fail
          clear z5
         case' neg =>
          have hkb:(kind==3)=false:=by simpa using hk3
          have HEA:Hid (accT lk ((vs.map TokV.t).take (i+1))=foldP lk acc pairs):=Hd (by rw[HACC.out,if_neg hk3])
          clear hk3
          go_wp2_with fail
          clear t0 t1 t2 t3 t4 t5 t6
          generalize (wr.alloc (.cells #[.int .i64 kind,.int .i64 fro,.int .i64 to_,.string ⟨name.toArray⟩,.string ⟨text.toArray⟩,.slice PA pn pc,.int .i64 r] 47))=w5 at *
          have HJ5:=HJ1
          have HC5:=HC0
          obtain⟨acc1,hacc1⟩: ∃ p,acc=p:=⟨_,rfl⟩
          rw[hacc1]at HEA HJ5 HC5
          clear HJ1 HK0 hkb hacc1 HJ HACC HC0
         all_goals
          go_loopg [62] (pn) (fun gg iv wr=> ∃ k:Nat,iv= .int .i64 (k:Int)∧k≤pn∧Hid (gg+k=pn)∧Hid (wa.grownBy wr (some AB)∧wr.heap[AB]? =some (.cells (sz3 (foldP lk acc1 (pairs.take k))) 34 (0,0))))
          case atStart=>exact⟨0,rfl,Nat.zero_le _,Hd rfl,HJ5⟩
          case round =>
           clear HJ5
           obtain⟨k,rfl,hk,hgk,HJ⟩:=hrel
           have hk0:(0:Int)≤(k:Int):=by omega
           have hk9:(k:Int)≤20000:=by omega
           by_cases hkp:k<pn
           · have hki:(k:Int)<(pn:Int):=by omega
             have hPR:=HPR.out wr (HAT.out wr HJ.out.1).1
             obtain⟨b2,o2,rfl,hb2,hc2⟩:=hPR.at_ (by have:=hPR.le;omega)
             have hp:=List.getElem?_eq_getElem (l:=pairs) (i:=k) (by rw[HPL.out];exact hkp)
             generalize pairs[k]'(by rw[HPL.out];exact hkp)=p at hp
             have hpv:=HOK.out.2.2 p (List.mem_of_getElem? hp)
             obtain⟨p0,p1⟩:=hc2 k p hp
             have HFO:Hid (foldP lk acc1 (pairs.take (k+1))=(rnames p.2).foldl (extraF lk) (foldP lk acc1 (pairs.take k))):=Hd (by rw[List.take_add_one,hp];exact foldP_snoc _ _ _ _)
             have HD0:Hid ((foldP lk acc1 (pairs.take k)).1≤9223372036854775807∧(foldP lk acc1 (pairs.take k)).2.1≤9223372036854775807):=Hd (extra_le lk _ acc1 HC5.out)
             obtain⟨acc2,hacc2⟩: ∃ p,foldP lk acc1 (pairs.take k)=p:=⟨_,rfl⟩
             rw[hacc2]at HFO HD0 HJ
             obtain⟨pa,pb⟩:=p
             simp only at p0 p1 hpv HFO
             have hb9:=(HAT.out wr HJ.out.1).1
             have hbq:Below w.heap.size w (wr.alloc (.cells #[.string ⟨pa.toArray⟩,.string ⟨pb.toArray⟩] 66)):=hb9.alloc hb9.size _
             have CN:=Hd (refsNames_c pb (wr.alloc (.cells #[.string ⟨pa.toArray⟩,.string ⟨pb.toArray⟩] 66)) (HW.out.1.below hbq HW.out.1.lt) (HW.out.2.1.below hbq (HW.out.2.1.low HW.out.1)) hpv)
             have HJ1:Hid (wa.grownBy (wr.alloc (.cells #[.string ⟨pa.toArray⟩,.string ⟨pb.toArray⟩] 66)) (some AB)∧(wr.alloc (.cells #[.string ⟨pa.toArray⟩,.string ⟨pb.toArray⟩] 66)).heap[AB]? =some (.cells (sz3 acc2) 34 (0,0))):=Hd ⟨HJ.out.1.trans (World.grownBy_alloc _ _ _),hp_old HJ.out.2⟩
             have HPV:=Hd hpv
             clear hPR hb2 hc2 hp hacc2 hb9 hbq HJ hpv
             go_wp2_with fail
             clear p0 p1
             generalize (wr.alloc (.cells #[.string ⟨pa.toArray⟩,.string ⟨pb.toArray⟩] 66))=wq2 at *
             refine CN.out.mono ?_
             rintro e w6 ⟨OA,oc,rfl,hown,hb6⟩
             have hnl:(rnames pb).length≤20000:=by have:=rfsA_len pb pb.length 0 (by omega);have:=HPV.out;unfold rnames;rw[List.length_map];omega
             have HNM:Hid (∀ nm∈rnames pb,nm.length≤1024):=Hd fun nm hnm=>by
              unfold rnames at hnm
              obtain⟨r,hr,rfl⟩:=List.mem_map.1 hnm
              exact rfsF_len pb _ _ r hr
             obtain⟨ns,hns⟩: ∃ p,rnames pb=p:=⟨_,rfl⟩
             rw[hns]at hnl HNM HFO hown
             (try rw[hns])
             obtain⟨m,hm2⟩: ∃ m,ns.length=m:=⟨_,rfl⟩
             rw[hm2]at hnl hown
             (try rw[hm2])
             have HML:=Hd hm2
             have HJ6:Hid (wa.grownBy w6 (some AB)∧w6.heap[AB]? =some (.cells (sz3 acc2) 34 (0,0))):=Hd ⟨grownBy_below HJ1.out.1 hb6,(hb6.block _ (lt_of HJ1.out.2)).trans HJ1.out.2⟩
             have HRW:Hid (∀ W,w6.grownBy W (some AB)→RRd cS1 1 W W.heap.size OA m oc ns):=Hd fun W hW=>by
              obtain⟨A9,c9,e9,hr⟩:=OwnC.rrd (c:=cS1) (k:=1) (fun _=>rfl) (by decide) (OwnC.keep hown fun g h1 h2=>hW.block g h2 (fun e=>by have:=Option.some.inj e;have:=lt_of HJ1.out.2;omega))
              rw[hm2]at e9 hr
              cases e9
              exact hr
             clear hown hb6 HJ1 CN hns hm2
             go_wp2_with fail
             go_loopg [70] (m) (fun gg iv wr=> ∃ j:Nat,iv= .int .i64 (j:Int)∧j≤m∧Hid (gg+j=m)∧Hid (w6.grownBy wr (some AB)∧wr.heap[AB]? =some (.cells (sz3 ((ns.take j).foldl (extraF lk) acc2)) 34 (0,0))))
             case atStart=>exact⟨0,rfl,Nat.zero_le _,Hd rfl,Hd ⟨World.grownBy.refl _ _,HJ6.out.2⟩⟩
             case round =>
              obtain⟨j,rfl,hj,hgj,HJ⟩:=hrel
              have hj0:(0:Int)≤(j:Int):=by omega
              have hj9:(j:Int)≤20000:=by omega
              by_cases hjm:j<m
              · have hji:(j:Int)<(m:Int):=by omega
                obtain⟨b3,o3,nm,rfl,hb3,hn3,hc3⟩:=(HRW.out wr HJ.out.1).cell hjm
                have z3:wr.cell? ⟨b3,o3+j,none⟩=some (.string ⟨nm.toArray⟩):=by rw[show o3+j=o3+(j*1+0)by omega];exact hc3 0 _ rfl
                have HFS:=Hd (fold_snoc (look:=lk) (acc:=acc2) hn3)
                have CA:=Hd (CAD.out wr _ nm (HJ6.out.1.trans HJ.out.1) HJ.out.2 (by have:=HNM.out nm (List.mem_of_getElem? hn3);omega) (extra_le lk _ acc2 HD0.out))
                clear hb3 hn3 hc3
                go_wp2_with fail
                refine CA.out.mono ?_
                rintro e w7 ⟨⟨v7,rfl⟩,hA7,hg7⟩
                have HE:Hid (w6.grownBy w7 (some AB)∧w7.heap[AB]? =some (.cells (sz3 ((ns.take (j+1)).foldl (extraF lk) acc2)) 34 (0,0))):=Hd ⟨HJ.out.1.trans hg7,by rw[HFS.out];exact hA7⟩
                clear CA hA7 hg7 z3 HJ HFS
                go_wp2
                go_roundg (m - (j+1))
                case measure=>have:=hgj.out;omega
                case rel=>exact⟨j+1,by go_num,by omega,Hd (by have:=hgj.out;omega),HE⟩
              · have hji: ¬ (j:Int)<(m:Int):=by omega
                have hjm2:j=m:=by omega
                have HE:Hid (wa.grownBy wr (some AB)∧wr.heap[AB]? =some (.cells (sz3 (foldP lk acc1 (pairs.take (k+1)))) 34 (0,0))):=Hd ⟨HJ6.out.1.trans HJ.out.1,by
                 have h9:=HJ.out.2
                 rw[List.take_of_length_le (by rw[HML.out];omega)]at h9
                 rw[HFO.out]
                 exact h9⟩
                clear HJ hjm2
                go_wp2
                go_roundg (pn - (k+1))
                case measure=>have:=hgk.out;omega
                case rel=>exact⟨k+1,by go_num,by omega,Hd (by have:=hgk.out;omega),HE⟩
           · have hki: ¬ (k:Int)<(pn:Int):=by omega
             have hkp2:k=pn:=by omega
             have HE:Hid (wa.grownBy wr (some AB)∧wr.heap[AB]? =some (.cells (sz3 (accT lk ((vs.map TokV.t).take (i+1)))) 34 (0,0))):=Hd ⟨HJ.out.1,by
              have h9:=HJ.out.2
              rw[List.take_of_length_le (by rw[HPL.out];omega)]at h9
              rw[HEA.out]
              exact h9⟩
             clear HJ hkp2
             go_wp2
             go_roundg (tn - (i+1))
             case measure=>have:=hgi.out;omega
             case rel=>exact⟨i+1,by go_num,by omega,Hd (by have:=hgi.out;omega),HE⟩
       · obtain rfl:i=tn:=by omega
         have hii: ¬ (i:Int)<(i:Int):=by omega
         have hA9:=HJ.out.2
         have hvl:vs.length=i:=HT.out.1.len
         rw[List.take_of_length_le (by rw[List.length_map,hvl];exact Nat.le_refl _)]at hA9
         have HLE:Hid (lookE (innerE l) (sizesE l)=lk):=HLKE
         obtain⟨U,hU⟩: ∃ U,accT lk (vs.map TokV.t)=U:=⟨_,rfl⟩
         have HUE:=Hd hU
         rw[hU]at hA9
         have u0:wr.cell? ⟨AB,0,none⟩=some (.int .i64 (U.1:Nat)):=cell_of 0 hA9
         have u1:wr.cell? ⟨AB,1,none⟩=some (.int .i64 (U.2.1:Nat)):=cell_of 1 hA9
         have u2:wr.cell? ⟨AB,2,none⟩=some (.int .i64 (U.2.2:Nat)):=cell_of 2 hA9
         have wc:=(HAT.out wr HJ.out.1).2.2.2
         have hi3:(Tryz.prog.info? 34).map (·.size)=some 3:=by kernel_rfl
         obtain⟨dd,hu⟩:=isStruct_of (P:=Tryz.prog) (t:=34) (by kernel_rfl)
         have HU:=Hd (And.intro hi3 hu)
         have HQ4:Hid ((wr.setRow (w.heap.size) #[.int .i64 (U.1:Nat),.int .i64 (U.2.1:Nat),.int .i64 (U.2.2:Nat)]).heap[w.heap.size]? =some (.cells #[.int .i64 (U.1:Nat),.int .i64 (U.2.1:Nat),.int .i64 (U.2.2:Nat)] 34 (0,0))):=Hd (setRow_heap _ _ _ _ _ _ wc)
         have HBF:Hid (Below w.heap.size w (wr.setRow (w.heap.size) #[.int .i64 (U.1:Nat),.int .i64 (U.2.1:Nat),.int .i64 (U.2.2:Nat)])):=Hd (by
          have hb9:=(HAT.out wr HJ.out.1).1
          refine⟨hb9.os,hb9.tape,hb9.output,?_,fun k hk=> ?_⟩
          · have:=hb9.size
            simpa [World.setRow] using this
          · rw[setRow_other _ _ _ _ (by omega)]
            exact hb9.block k hk)
         clear hA9 hvl hU hi3 hu HJ
         go_wp2_with (first|(refine wpList_store_row rfl _ _ _ rfl (w.heap.size) #[.int .i64 (U.1:Nat),.int .i64 (U.2.1:Nat),.int .i64 (U.2.2:Nat)] rfl rfl _ _ wc (by kernel_rfl) rfl (by kernel_rfl) ?_))
         (try simp only[Exit.inBlock,Exit.then])
         exact bodyPost_ret (results_c2 rfl _ _ w.heap.size _ _ _ _ rfl HQ4.out HU.out.2 rfl HU.out.1) rfl ⟨fun h=>absurd h HNL.out,fun _=>by rw[HLE.out,HUE.out];rfl,HBF.out⟩
end Go.Proofs.YtbafljibbabnaaaGreatDoor
