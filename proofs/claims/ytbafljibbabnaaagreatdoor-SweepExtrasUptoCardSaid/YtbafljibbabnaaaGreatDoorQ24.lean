/- Texts of ours, joined: BgW, BgA, SxA. -/
import Derived.Test.YtbafljibbabnaaaGreatDoorQ23
namespace Go.Proofs.YtbafljibbabnaaaGreatDoor
open Go.ChangeShapes Go.WideShapes Go.ChangeAt Go.RowKit
set_option linter.unusedVariables false
set_option maxRecDepth 100000
set_option maxHeartbeats 32000000
theorem run_lookup_tx {w:World}{TM k:Nat}{l:List EntT}(h:TxI w TM l k)(s:List UInt8)(hs:s.length≤9000000000000000000)(y:Nat)(b:Bool)(hy:(fstI l k s).getD 0=y)(hb:(fstI l k s).isSome=b) :
 (Instr.lookup 98 (.map (some TM)) (.string ⟨s.toArray⟩) true).run Tryz.prog w= .ok (.tuple #[.int .i64 (y:Nat),.bool b]) w:=by
 obtain⟨n,D,_,h1,h2,h3⟩:=h
 obtain⟨v,ps,hrun,hv⟩:=h1.look_ok lawSg Tryz.underlying98 (zeroIg w) (zd:= .lit (.int .i64 0)) (zp:= []) (plainElem_int Tryz.underlying3 (by decide)) (keySg hs)
 obtain⟨c,rfl,hc,_⟩:=plainElem_int_inv Tryz.underlying3 hv
 have h9:=(congrArg Prod.fst hc).symm.trans (h3 s)
 rw[hy]at h9
 obtain rfl:c=(y:Int):=by simpa using h9
 rw[hrun,h2,hb]
structure BgJ (w2:World) (M TM Z:Nat) (lv:Value) (l:List EntT) (k t:Nat) (o:List Nat) (W:World):Prop where
 below:Below w2.heap.size w2 W
 zb:W.heap[Z]? =some (.cells #[.map (some M),.map (some TM),lv] 129 (0,0))
 tx:TxI W TM l k
 lk: ∃ n,n≤t∧LkI W M n (lookP l (o.take t))
section
variable {w2 W W':World} {M TM Z:Nat} {lv:Value} {l:List EntT} {k t:Nat} {o:List Nat}
theorem BgJ.kept (h:BgJ w2 M TM Z lv l k t o W)(hb:Below W.heap.size W W'):BgJ w2 M TM Z lv l k t o W':=by
 obtain⟨n,hn,hl⟩:=h.lk
 exact⟨h.below.trans (hb.mono h.below.size),(hb.block _ (lt_of h.zb)).trans h.zb,h.tx.kept (hb.block _ h.tx.lt),n,hn,hl.kept (hb.block _ hl.lt)⟩
theorem BgJ.upT (h:BgJ w2 M TM Z lv l k t o W)(hg:W.grownBy W' (some TM))(hTM:w2.heap.size≤TM)(hne:TM≠M)(hz:TM≠Z)(htx:TxI W' TM l (k+1)):BgJ w2 M TM Z lv l (k+1) t o W':=by
 obtain⟨n,hn,hl⟩:=h.lk
 exact⟨h.below.grown hg h.below.size (fun b e=>by have:=Option.some.inj e;omega),(hg.block _ (lt_of h.zb) (fun e=>hz (Option.some.inj e).symm)).trans h.zb,htx,n,hn,hl.kept (hg.block _ hl.lt (fun e=>hne (Option.some.inj e).symm))⟩
theorem BgJ.upM (h:BgJ w2 M TM Z lv l k t o W)(hg:W.grownBy W' (some M))(hM:w2.heap.size≤M)(hne:TM≠M)(hz:M≠Z){n:Nat}(hn:n≤t+1)(hl:LkI W' M n (lookP l (o.take (t+1)))):BgJ w2 M TM Z lv l k (t+1) o W' :=
 ⟨h.below.grown hg h.below.size (fun b e=>by have:=Option.some.inj e;omega),(hg.block _ (lt_of h.zb) (fun e=>hz (Option.some.inj e).symm)).trans h.zb,h.tx.kept (hg.block _ h.tx.lt (fun e=>hne (Option.some.inj e))),n,hn,hl⟩
theorem BgJ.same (h:BgJ w2 M TM Z lv l k t o W)(e: ∀ s,fstI l (k+1) s=fstI l k s):BgJ w2 M TM Z lv l (k+1) t o W:=⟨h.below,h.zb,h.tx.same e,h.lk⟩
theorem BgJ.set {OZ:Nat}(h:BgJ w2 M TM Z lv l k t o W)(h0:w2.heap.size≤OZ)(h1:OZ≠M)(h2:OZ≠TM)(h3:OZ≠Z)(j:Nat)(v:Value):BgJ w2 M TM Z lv l k t o (W.setCell ⟨OZ,j,none⟩ v):=by
 obtain⟨n,hn,hl⟩:=h.lk
 exact⟨h.below.setCell (p:=⟨OZ,j,none⟩) h0 _,(hp_other (fun e=>h3 e.symm)).trans h.zb,h.tx.kept (hp_other (fun e=>h2 e.symm)),n,hn,hl.kept (hp_other (fun e=>h1 e.symm))⟩
end
def EntG (q:Nat)(x:EntT)(W:World):Prop:=W.heap[q]? =some (.cells #[.string ⟨x.nm.toArray⟩,.string ⟨x.tx.toArray⟩,.bool x.out,.string ⟨x.pub.toArray⟩,.string ⟨x.sys.toArray⟩,.string ⟨x.nt.toArray⟩] 43 (0,0))
def CzB (OZ:Nat)(zs:List (Nat × Nat × Nat))(W:World):Prop:=W.heap[OZ]? =some (.cells (zs.flatMap cZ).toArray 34 (0,0))
theorem CzB.put {OZ k:Nat}{zs:List (Nat × Nat × Nat)}{W:World}(h:CzB OZ zs W)(hk:k<zs.length)(a b c:Nat):CzB OZ (zs.set k (a,b,c)) (((W.setCell ⟨OZ,k*3,none⟩ (.int .i64 (a:Nat))).setCell ⟨OZ,k*3+1,none⟩ (.int .i64 (b:Nat))).setCell ⟨OZ,k*3+2,none⟩ (.int .i64 (c:Nat))):=by
 unfold CzB at *
 rw[hp_set (hp_set (hp_set h)),List.setIfInBounds_toArray,List.setIfInBounds_toArray,List.setIfInBounds_toArray,← flat_set3 zs k (a,b,c) hk]
theorem CzB.cells {OZ k:Nat}{zs:List (Nat × Nat × Nat)}{W:World}(h:CzB OZ zs W)(hk:k<zs.length): ∃ a b c:Nat,zs[k]? =some (a,b,c)∧W.cell? ⟨OZ,k*3,none⟩=some (.int .i64 (a:Nat))∧W.cell? ⟨OZ,k*3+1,none⟩=some (.int .i64 (b:Nat))∧W.cell? ⟨OZ,k*3+2,none⟩=some (.int .i64 (c:Nat)):=by
 have hx:=List.getElem?_eq_getElem hk
 have h1:=fun j u hu=>flat_get (c:=cZ) (k:=3) (fun _=>rfl) zs k _ hx j u hu
 refine⟨zs[k].1,zs[k].2.1,zs[k].2.2,hx,?_,?_,?_⟩
 · rw[cell_of _ h,List.getElem?_toArray];have:=h1 0 _ rfl;simpa using this
 · rw[cell_of _ h,List.getElem?_toArray];have:=h1 1 _ rfl;simpa using this
 · rw[cell_of _ h,List.getElem?_toArray];have:=h1 2 _ rfl;simpa using this
theorem CzB.row {OZ n:Nat}{zs:List (Nat × Nat × Nat)}{W:World}(h:CzB OZ zs W)(hn:zs.length=n)(hm:n≤100000):RRd cZ 3 W W.heap.size (some ⟨OZ,0,none⟩) n n zs :=
 ⟨hn,Nat.le_refl _,by unfold maxLen;omega,(fun e=>by cases e),fun _=>⟨OZ,0,rfl,lt_of h,fun i x hx j u hu=>by
   have h1:=flat_get (c:=cZ) (k:=3) (fun _=>rfl) zs i x hx j u hu
   rw[cell_of _ h,Nat.zero_add,List.getElem?_toArray]
   exact h1⟩⟩
theorem mk_csize (w:World)(n:Nat)(hn:n≤100000):(Instr.makeSlice 53 (.int .i64 (n:Int)) (.int .i64 (n:Int))).run Tryz.prog w= .ok (.slice (some ⟨w.heap.size,0,none⟩) n n) (w.alloc (.cells ((List.replicate n zeroZ).flatMap cZ).toArray 34)):=by
 have h:(Tryz.prog.info? 34).map (fun i=>(i.zero,i.size,i.bytes))=some (some (.agg #[.int .i64 0,.int .i64 0,.int .i64 0]),3,24):=by kernel_rfl
 obtain⟨i,h1,h2,h3,h4⟩:=info_parts h
 have:=run_make (P:=Tryz.prog) w 53 34 i (.agg #[.int .i64 0,.int .i64 0,.int .i64 0]) Tryz.underlying53 h1 h2 .i64 .i64 (n:Int) (n:Int) (by omega) (by omega) (by rw[h4];omega) (by omega)
 rw[h3,Int.toNat_natCast,show(Value.agg #[.int .i64 0,.int .i64 0,.int .i64 0]).cells= #[.int .i64 0,.int .i64 0,.int .i64 0] from rfl,made3,← zeros_flat]at this
 exact this
theorem costBegun_c (A:Option Addr)(n cap:Nat)(l:List EntT)(w:World)(h:RRd cE 6 w w.heap.size A n cap l)(hm:n≤100)(hx: ∀ x∈l,x.tx.length≤20000)(hnm: ∀ x∈l,x.nm.length≤1000000000000000)(hF:Forms w)(hT:Tabs w)(hK:KnownT w) :
 Calls Tryz.prog 37 #[.slice A n cap] w fun e w'=>(loopsE l→e= .returned (.tuple #[.pointer none,.slice none 0 0,.int .i64 8]))∧(¬ loopsE l→ ∃ Zp OZ,e= .returned (.tuple #[.pointer (some ⟨Zp,0,none⟩),.slice (some ⟨OZ,0,none⟩) (innerE l).length (innerE l).length,.int .i64 0])∧RRd cZ 3 w' w'.heap.size (some ⟨OZ,0,none⟩) (innerE l).length (innerE l).length ((List.range (innerE l).length).map (sizesE l)))∧Below w.heap.size w w':=by
 have HP:Hid (∀ W,Below w.heap.size w W→RRd cE 6 W W.heap.size A n cap l):=Hd fun W hb=>(h.below hb).more hb.size
 have hln:l.length=n:=h.len
 have hN:(innerE l).length≤n:=by have:=inner_len l [];simpa [innerE,hln] using this
 have CG:=Hd (graphOf_c A n cap l w h (by omega) hx hnm hF hT)
 have HX:=Hd (And.intro hx hnm)
 have HW:=Hd (And.intro hF (And.intro hT hK))
 have HGL:Hid (∀ t∈graphE l,t.length≤100000):=Hd fun t ht=>by
  obtain⟨x,hx2,rfl⟩:=List.mem_map.1 (show t∈(innerE l).map _ from ht)
  have h1:=toE_len ((innerE l).map EntT.nm) (eachL x.tx)
  have h2:=hx x ((inner_sub l [] x (fun _ h=>h) hx2).resolve_right (fun h=>by cases h))
  have h3:=eachL_len x.tx
  omega
 have HLN:=Hd hln
 obtain⟨N,hN2⟩: ∃ N,(innerE l).length=N:=⟨_,rfl⟩
 have HN:=Hd hN2
 rw[hN2]at CG hN ⊢
 have hmm:= @run_makeMap Tryz.prog
 clear h hx hnm hF hT hK hln hN2
 go_enter Tryz.func37,Tryz.ntmps37
 go_wp2_with fail
 refine CG.out.mono ?_
 rintro e w1 ⟨NA,nc,TA,tc,rfl,rs,hrs,hNr,hG,hb1⟩
 have kb:=(Below.refl w1.heap.size w1).alloc (Nat.le_refl _) (.cells #[.slice NA N nc,.slice TA N tc] 60)
 have HG0:=Hd (hp_new w1 (.cells #[.slice NA N nc,.slice TA N tc] 60))
 have HB1:=Hd (hb1.trans (kb.mono hb1.size))
 have CO:=Hd (graphOrd_c NA nc TA N tc rs (graphE l) (w1.alloc (.cells #[.slice NA N nc,.slice TA N tc] 60)) hrs ((hG.below kb).more kb.size) (graphE_ok l) (by omega) HGL.out)
 have HNR:=Hd ((hNr.below kb).more kb.size)
 obtain⟨GB,hGB⟩: ∃ p,w1.heap.size=p:=⟨_,rfl⟩
 rw[hGB]at HG0
 clear CG hb1 kb hG hNr hrs
 go_wp2_with fail
 generalize w1.alloc (.cells #[.slice NA N nc,.slice TA N tc] 60)=wg at *
 refine CO.out.mono ?_
 rintro e w2 ⟨told,o,HO,hlt,hge,HB2⟩
 have HGB:Hid (w2.heap[GB]? =some (.cells #[.slice NA N nc,.slice TA N tc] 60 (0,0))):=Hd ((HB2.out.block _ (lt_of HG0.out)).trans HG0.out)
 have HB3:Hid (Below w.heap.size w w2):=Hd (HB1.out.trans (HB2.out.mono HB1.out.size))
 have HNR2:Hid (RRd cS1 1 w2 w2.heap.size NA N nc ((innerE l).map EntT.nm)):=Hd ((HNR.out.below HB2.out).more HB2.out.size)
 clear CO HG0 HB1 HNR
 by_cases hol:o.length<N
 · obtain rfl:=hlt hol
   have HL:Hid (loopsE l):=Hd (Classical.byContradiction fun hnl=>by
    have:=ord_full hnl HO.out.1 (by rw[HN.out];exact HO.out.2)
    rw[HN.out]at this
    omega)
   clear hlt hge hmm
   go_wp2
   go_ret3
   exact⟨fun _=>rfl,fun h=>absurd HL.out h,HB3.out⟩
 · obtain⟨LA,lc,rfl,hown⟩:=hge hol
   have hon:o.length=N:=by
    have h1:=HO.out.1.cnt
    have h2:=HO.out.1.len
    rw[graphE_len,HN.out]at h2
    have h3:told.countP (fun n=>n != 0)≤told.length:=List.countP_le_length
    omega
   have HNL:Hid (¬ loopsE l):=Hd (fun⟨i,hi⟩=>HO.out.1.done (by rw[graphE_len,HN.out];exact hon) i hi)
   obtain⟨A1,c1,hv1,hr1⟩:=OwnC.rrd (c:=cI) (k:=1) (fun _=>rfl) (by decide) hown.out
   cases hv1
   have HOR:Hid (RRd cI 1 w2 w2.heap.size LA N lc o):=Hd (by rw[hon]at hr1;exact hr1)
   rw[hon]
   have HON:=Hd hon
   clear hlt hge hown hr1 hol hon HB2
   have LK0:LkI (w2.alloc (.map #[] 0)) w2.heap.size 0 (lookP l []):=(LkI.start w2).look fun s=>by unfold lookP;rw[if_neg (fun h=>by cases h.2)]
   have TX0:=TxI.start (w2.alloc (.map #[] 0)) l
   have Z0:=hp_new ((w2.alloc (.map #[] 0)).alloc (.map #[] 0)) (.cells #[.map (some w2.heap.size),.map (some (w2.heap.size+1)),.slice A n cap] 129)
   simp only[World.size_alloc]at TX0 Z0
   have J0:Hid (BgJ w2 w2.heap.size (w2.heap.size+1) (w2.heap.size+1+1) (.slice A n cap) l 0 0 o (((w2.alloc (.map #[] 0)).alloc (.map #[] 0)).alloc (.cells #[.map (some w2.heap.size),.map (some (w2.heap.size+1)),.slice A n cap] 129))):=Hd
    ⟨(((Below.refl _ _).alloc (Nat.le_refl _) _).alloc (by simp) _).alloc (by first|(simp;done)|(simp;omega)) _,Z0,TX0.kept (Below.heap_alloc _ _ _ (by simp)),0,Nat.le_refl _,LK0.kept (by rw[Below.heap_alloc _ _ _ (by first|(simp;done)|(simp;omega)),Below.heap_alloc _ _ _ (by simp)])⟩
   obtain⟨M,hM⟩: ∃ p,w2.heap.size=p:=⟨_,rfl⟩
   have HM:=Hd hM
   rw[hM]at J0
   clear LK0 TX0 Z0
   go_wp2_with fail
   clear hmm hM
   go_loopg [34] (n) (fun gg iv wr=> ∃ k:Nat,iv= .int .i64 (k:Int)∧k≤n∧Hid (gg+k=n)∧Hid (BgJ w2 M (M+1) (M+1+1) (.slice A n cap) l k 0 o wr))
   case atStart=>exact⟨0,rfl,Nat.zero_le _,Hd rfl,J0⟩
   case round =>
    clear J0
    obtain⟨k,rfl,hk,hg,HJ⟩:=hrel
    have hk0:(0:Int)≤(k:Int):=by omega
    have hk9:(k:Int)≤100:=by omega
    by_cases hkn:k<n
    · have hki:(k:Int)<(n:Int):=by omega
      obtain⟨b1,o1,x,rfl,hb1,hx,hc1⟩:=(HP.out wr (HB3.out.trans (HJ.out.below.mono HB3.out.size))).cell hkn
      have HXK:=Hd hx
      have hxn:=HX.out.2 x (List.mem_of_getElem? hx)
      have HXN:=Hd hxn
      obtain⟨xn,xt,xo,xp,xq,xr⟩:=x
      simp only at hxn
      have y0:wr.cell? ⟨b1,o1+k*6,none⟩=some (.string ⟨xn.toArray⟩):=by rw[show o1+k*6=o1+(k*6+0)by omega];exact hc1 0 _ rfl
      have y1:wr.cell? ⟨b1,o1+k*6+1,none⟩=some (.string ⟨xt.toArray⟩):=by rw[show o1+k*6+1=o1+(k*6+1)by omega];exact hc1 1 _ rfl
      have y2:wr.cell? ⟨b1,o1+k*6+2,none⟩=some (.bool xo):=by rw[show o1+k*6+2=o1+(k*6+2)by omega];exact hc1 2 _ rfl
      have y3:wr.cell? ⟨b1,o1+k*6+3,none⟩=some (.string ⟨xp.toArray⟩):=by rw[show o1+k*6+3=o1+(k*6+3)by omega];exact hc1 3 _ rfl
      have y4:wr.cell? ⟨b1,o1+k*6+4,none⟩=some (.string ⟨xq.toArray⟩):=by rw[show o1+k*6+4=o1+(k*6+4)by omega];exact hc1 4 _ rfl
      have y5:wr.cell? ⟨b1,o1+k*6+5,none⟩=some (.string ⟨xr.toArray⟩):=by rw[show o1+k*6+5=o1+(k*6+5)by omega];exact hc1 5 _ rfl
      have JG:Hid (BgJ w2 M (M+1) (M+1+1) (.slice (some ⟨b1,o1,none⟩) n cap) l k 0 o (wr.alloc (.cells #[.string ⟨xn.toArray⟩,.string ⟨xt.toArray⟩,.bool xo,.string ⟨xp.toArray⟩,.string ⟨xq.toArray⟩,.string ⟨xr.toArray⟩] 43)).drew∧EntG wr.heap.size ⟨xn,xt,xo,xp,xq,xr⟩ (wr.alloc (.cells #[.string ⟨xn.toArray⟩,.string ⟨xt.toArray⟩,.bool xo,.string ⟨xp.toArray⟩,.string ⟨xq.toArray⟩,.string ⟨xr.toArray⟩] 43)).drew):=Hd
       ⟨(HJ.out.kept ((Below.refl _ _).alloc (Nat.le_refl _) _)).kept (Below.drew (Below.refl _ _)),hp_new wr _⟩
      obtain⟨q,hq⟩: ∃ p,wr.heap.size=p:=⟨_,rfl⟩
      rw[hq]at JG
      obtain⟨fy,hfy⟩: ∃ p,(fstI l k xn).getD 0=p:=⟨_,rfl⟩
      obtain⟨fb,hfb⟩: ∃ p,(fstI l k xn).isSome=p:=⟨_,rfl⟩
      have HFB:=Hd hfb
      have AT:Hid (∀ W,BgJ w2 M (M+1) (M+1+1) (.slice (some ⟨b1,o1,none⟩) n cap) l k 0 o W∧EntG q ⟨xn,xt,xo,xp,xq,xr⟩ W→W.cell? ⟨M+1+1,1,none⟩=some (.map (some (M+1)))∧W.cell? ⟨q,0,none⟩=some (.string ⟨xn.toArray⟩)∧W.cell? ⟨q,2,none⟩=some (.bool xo)∧(Instr.lookup 98 (.map (some (M+1))) (.string ⟨xn.toArray⟩) true).run Tryz.prog W= .ok (.tuple #[.int .i64 (fy:Nat),.bool fb]) W):=Hd fun W hW =>
       ⟨cell_of 1 hW.1.zb,cell_of 0 hW.2,cell_of 2 hW.2,run_lookup_tx hW.1.tx xn (by omega) fy fb hfy hfb⟩
      clear hb1 hx hc1 hfy hfb hxn
      go_wp2_with fail
      clear y0 y1 y2 y3 y4 y5 hq
      generalize (wr.alloc (.cells #[.string ⟨xn.toArray⟩,.string ⟨xt.toArray⟩,.bool xo,.string ⟨xp.toArray⟩,.string ⟨xq.toArray⟩,.string ⟨xr.toArray⟩] 43))=wa at *
      refine wp_region_calm0 (fun W=>Hid (BgJ w2 M (M+1) (M+1+1) (.slice (some ⟨b1,o1,none⟩) n cap) l k 0 o W∧EntG q ⟨xn,xt,xo,xp,xq,xr⟩ W)) (by kernel_rfl) (by kernel_rfl) JG ?_
      repeat
       refine wpQuiet_step (fun K hK=> ?_)
       go_simp
       first
        |(refine hK _ ?_;clear hK K)
        |(apply Exists.intro
          refine⟨fun W hW=> ?_,hK _ ?_⟩
          · first
             |exact rfl
             |(obtain⟨a0,a1,a2,a3⟩:=AT.out W hW.out;go_simp;done)
             |(obtain⟨a0,a1,a2,a3⟩:=AT.out W hW.out;go_simp;exact rfl)
          clear hK K)
      refine wpQuiet_nil ?_
      intro w9 hw9
      clear JG
      have hxt:TxI w9 (M+1) l k:=hw9.out.1.tx
      cases fb with
      |true =>
       have HE:=Hd (hw9.out.1.same (fst_same HXK.out (.inl HFB.out)))
       clear hw9 AT
       go_wp2
       go_roundg (n - (k+1))
       case measure=>have:=hg.out;omega
       case rel=>exact⟨k+1,by go_num,by omega,Hd (by have:=hg.out;omega),HE⟩
      |false =>
       obtain⟨a0,a1,a2,a3⟩:=AT.out w9 hw9.out
       cases xo with
       |true =>
        have HE:=Hd (hw9.out.1.same (fst_same HXK.out (.inr rfl)))
        clear hw9 AT
        go_wp2
        go_roundg (n - (k+1))
        case measure=>have:=hg.out;omega
        case rel=>exact⟨k+1,by go_num,by omega,Hd (by have:=hg.out;omega),HE⟩
       |false =>
        have JH:Hid (BgJ w2 M (M+1) (M+1+1) (.slice (some ⟨b1,o1,none⟩) n cap) l k 0 o w9.drew∧EntG q ⟨xn,xt,false,xp,xq,xr⟩ w9.drew):=Hd ⟨hw9.out.1.kept (Below.drew (Below.refl _ _)),hw9.out.2⟩
        clear hw9 hxt
        go_wp2_with fail
        refine wp_region_calm (fun W=>Hid (BgJ w2 M (M+1) (M+1+1) (.slice (some ⟨b1,o1,none⟩) n cap) l k 0 o W∧EntG q ⟨xn,xt,false,xp,xq,xr⟩ W)) 7 (by kernel_rfl) (by kernel_rfl) JH ?_
        simp only[List.take_succ_cons,List.take_zero,List.drop_succ_cons,List.drop_zero]
        clear a0 a1 a2 a3
        repeat
         refine wpQuiet_step (fun K hK=> ?_)
         go_simp
         first
          |(refine hK _ ?_;clear hK K)
          |(apply Exists.intro
            refine⟨fun W hW=> ?_,hK _ ?_⟩
            · first
               |exact rfl
               |(obtain⟨a0,a1,a2,a3⟩:=AT.out W hW.out;go_simp;done)
               |(obtain⟨a0,a1,a2,a3⟩:=AT.out W hW.out;go_simp;exact rfl)
            clear hK K)
        refine wpQuiet_nil ?_
        intro w10 hw10
        clear JH AT
        obtain⟨nD,D,hnD,hown,hhas,hat⟩:=hw10.out.1.tx
        have hwf:(Lit.int .i64 ((k:Nat):Int)).wf=true:=by
         simp only[Lit.wf,IntKind.min,IntKind.max,Bool.and_eq_true]
         constructor <;> (simp[IntKind.bits,IntKind.signed] <;> omega)
        have hno:fstI l k xn=none:=by
         have:=HFB.out
         cases h5:fstI l k xn with
         |none=>rfl
         |some j=>rw [h5]at this;cases this
        have HIS:Go.Maps.IsMap D:=by obtain⟨es,clock,hb,_,_,rfl⟩:=hown;exact⟨_,rfl⟩
        have HAS:=Hd (txI_put HXK.out rfl hno HIS hhas hat)
        have hmx:nD<maxLen:=by unfold maxLen;omega
        have HKEY:=Hd (keySg (s:=xn) (by have:=HXN.out;omega))
        have HND:=Hd hnD
        clear hnD hno HIS hhas hat
        go_wp2_with (at_mapUpdate;refine wpList_mapUpdate_own _ rfl _ _ _ 98 rfl 9 3 lawSg Tryz.underlying98 _ (M+1) _ D rfl hown hmx _ _ _ rfl rfl HKEY.out _ [] (plainElem_int Tryz.underlying3 hwf) ?_)
        intro w3 hown3 hg3
        have HE:=Hd (hw10.out.1.upT hg3 (by have:=HM.out;omega) (by omega) (by omega) ⟨_,_,by have:=HND.out;omega,hown3,HAS.out.1,HAS.out.2⟩)
        clear hown hown3 hg3 hwf hmx hw10
        go_wp2
        go_roundg (n - (k+1))
        case measure=>have:=hg.out;omega
        case rel=>exact⟨k+1,by go_num,by omega,Hd (by have:=hg.out;omega),HE⟩
    · obtain rfl:k=n:=by omega
      have hki: ¬ (k:Int)<(k:Int):=by omega
      have HJ0:Hid (BgJ w2 M (M+1) (M+1+1) (.slice A k cap) l k 0 o wr):=HJ
      have g0:=cell_of 0 ((HJ.out.below.block _ (lt_of HGB.out)).trans HGB.out)
      have mk:=mk_csize wr N (by omega)
      have HJ1:=Hd (HJ.out.kept ((Below.refl _ _).alloc (Nat.le_refl _) (.cells ((List.replicate N zeroZ).flatMap cZ).toArray 34)))
      have HC1:Hid (CzB wr.heap.size (outZ l (o.take 0)) (wr.alloc (.cells ((List.replicate N zeroZ).flatMap cZ).toArray 34))):=Hd (by
       rw[List.take_zero,outZ_nil,HN.out]
       exact hp_new wr _)
      have HOZ:Hid (w2.heap.size≤wr.heap.size∧wr.heap.size≠M∧wr.heap.size≠M+1∧wr.heap.size≠M+1+1):=Hd (by
       obtain⟨n9,_,hl9⟩:=HJ.out.lk
       have h1:=hl9.lt
       have h2:=HJ.out.tx.lt
       have h3:=lt_of HJ.out.zb
       exact⟨HJ.out.below.size,by omega,by omega,by omega⟩)
      obtain⟨OZ,hOZ⟩: ∃ p,wr.heap.size=p:=⟨_,rfl⟩
      rw[hOZ]at mk HC1 HOZ
      clear HJ HJ0
      go_wp2_with fail
      generalize wr.alloc (.cells ((List.replicate N zeroZ).flatMap cZ).toArray 34)=wb at *
      clear mk g0 hOZ
      go_loopg [70] (N) (fun gg iv wr=> ∃ t:Nat,iv= .int .i64 (t:Int)∧t≤N∧Hid (gg+t=N)∧Hid (BgJ w2 M (M+1) (M+1+1) (.slice A k cap) l k t o wr)∧Hid (CzB OZ (outZ l (o.take t)) wr))
      case atStart=>exact⟨0,rfl,Nat.zero_le _,Hd rfl,HJ1,HC1⟩
      case round =>
       clear HJ1 HC1
       obtain⟨t,rfl,ht,hgt,HJ,HC⟩:=hrel
       have ht0:(0:Int)≤(t:Int):=by omega
       have ht9:(t:Int)≤100:=by omega
       by_cases htN:t<N
       · have hti:(t:Int)<(N:Int):=by omega
         obtain⟨b2,o2,i,rfl,hb2,hi,hc2⟩:=(HOR.out.below HJ.out.below).cell htN
         have z2:wr.cell? ⟨b2,o2+t,none⟩=some (.int .i64 (i:Nat)):=by rw[show o2+t=o2+(t*1+0)by omega];exact hc2 0 _ rfl
         have hiN:i<N:=by have:=ord_lt HO.out.1 (List.mem_of_getElem? hi);rw[HN.out]at this;exact this
         have hx:=List.getElem?_eq_getElem (l:=innerE l) (i:=i) (by rw[HN.out];exact hiN)
         generalize (innerE l)[i]'(by rw[HN.out];exact hiN)=x at hx
         obtain⟨b3,o3,nm,rfl,hb3,hnm3,hc3⟩:=(HNR2.out.below HJ.out.below).cell hiN
         have hnx:nm=x.nm:=by
          rw[List.getElem?_map,hx]at hnm3
          exact(Option.some.inj hnm3).symm
         subst hnx
         have z3:wr.cell? ⟨b3,o3+i,none⟩=some (.string ⟨x.nm.toArray⟩):=by rw[show o3+i=o3+(i*1+0)by omega];exact hc3 0 _ rfl
         have hfi:=(fst_inner l k (by rw[HLN.out];exact Nat.le_refl _)).2 x (by rw[List.take_of_length_le (by rw[HLN.out];exact Nat.le_refl _)];exact List.mem_of_getElem? hx)
         obtain⟨j,hj1,hj2⟩:=hfi
         have hjk:j<k:=by have:=(List.getElem?_eq_some_iff.1 hj2).1;rw[HLN.out]at this;exact this
         obtain⟨b1,o1,x',rfl,hb1,hx',hc1⟩:=(HP.out wr (HB3.out.trans (HJ.out.below.mono HB3.out.size))).cell hjk
         rw[hj2]at hx'
         obtain rfl:=Option.some.inj hx'
         have y1:wr.cell? ⟨b1,o1+j*6+1,none⟩=some (.string ⟨x.tx.toArray⟩):=by rw[show o1+j*6+1=o1+(j*6+1)by omega];exact hc1 1 _ rfl
         have HSZ:=Hd (ord_size HNL.out HO.out.1 hi hx)
         have HLP:=Hd (lookP_snoc (done:=o.take t) hx)
         have HTK:Hid (o.take (t+1)=o.take t++ [i]):=Hd (by rw[List.take_add_one,hi];rfl)
         have HOS:=Hd (outZ_snoc l (o.take t) i)
         have HOL:=Hd (outZ_len l (o.take t))
         have hxl:=HX.out.1 x (List.mem_of_getElem? hj2)
         have hxn:=HX.out.2 x (List.mem_of_getElem? hj2)
         have HLB:Hid (∀ nm z,lookP l (o.take t) nm=some z→z.1≤9223372036854775807∧z.2.1≤9223372036854775807∧z.2.2≤1000000):=Hd fun nm z hz=>by
          have:=lookP_bound HNL.out _ _ _ hz
          rw[HN.out]at this
          omega
         obtain⟨n9,hn9,hl9⟩:=HJ.out.lk
         have hb9:Below w.heap.size w wr:=HB3.out.trans (HJ.out.below.mono HB3.out.size)
         have CT:=Hd (szText_c (M+1+1) M (M+1) n9 _ (lookP l (o.take t)) x.tx wr HJ.out.zb hl9 (HW.out.2.2.below hb9) (HW.out.1.below hb9 HW.out.1.lt) (HW.out.2.1.below hb9 (HW.out.2.1.low HW.out.1)) HLB.out hxl)
         rw[HSZ.out]at CT
         obtain⟨nD,D,hnD,hown,hhas,hat⟩:=HJ.out.tx
         have HCI:Hid (∀ c':Int,D.atKey (.string x.nm) (.lit (.int .i64 0))= .lit (.int .i64 c')→c'=(j:Int)):=Hd fun c' h=>by
          have:=h.symm.trans (hat x.nm)
          rw[hj1]at this
          simpa using this
         have HKEY:=Hd (keySg (s:=x.nm) (by omega))
         have g0:=cell_of 0 ((HJ.out.below.block _ (lt_of HGB.out)).trans HGB.out)
         have x1:=cell_of 1 HJ.out.zb
         obtain⟨nm,tx,xo,xp,xq,xr⟩:=x
         simp only at *
         obtain⟨⟨ct,L,Dd⟩,hsz⟩: ∃ z,sizesE l i=z:=⟨_,rfl⟩
         rw[hsz]at CT HLP HOS
         unfold aggZ at CT
         simp only at CT
         have hi0:(0:Int)≤(i:Int):=by omega
         have hii:(i:Int)<(N:Int):=by omega
         have hj0:(0:Int)≤(j:Int):=by omega
         have hji:(j:Int)<(k:Int):=by omega
         have HIN:=Hd hiN
         clear hb1 hx' hc1 hb2 hi hc2 hb3 hnm3 hc3 hx hj1 hj2 hjk hxl hxn hn9 hl9 hb9 hnD hhas hat hsz hiN
         go_wp2_with (first|(at_lookup;refine wpList_lookup_own_int _ rfl _ _ 98 rfl 9 3 .i64 lawSg Tryz.underlying98 Tryz.underlying3 (zeroIg _) (M+1) _ D rfl hown _ _ rfl HKEY.out ?_;intro c' hat' hwc;obtain rfl:=HCI.out c' hat';clear hat' hwc))
         refine CT.out.mono ?_
         rintro e w5 ⟨rfl,hb5⟩
         have HJ5:=Hd (HJ.out.kept hb5)
         have HC5:Hid (CzB OZ (outZ l (o.take t)) w5):=Hd ((hb5.block _ (lt_of HC.out)).trans HC.out)
         have hiL:i<(outZ l (o.take t)).length:=by rw[HOL.out,HN.out];exact HIN.out
         obtain⟨za,zb,zc,_,y0,y2,y3⟩:=HC5.out.cells (k:=i) hiL
         have q0:=free_of (i*3) HC5.out
         have q1:=free_of (i*3+1) HC5.out
         have q2:=free_of (i*3+2) HC5.out
         have HC6:=Hd (HC5.out.put hiL ct L Dd)
         have HJ6:=Hd (((HJ5.out.set HOZ.out.1 HOZ.out.2.1 HOZ.out.2.2.1 HOZ.out.2.2.2 (i*3) (.int .i64 (ct:Nat))).set HOZ.out.1 HOZ.out.2.1 HOZ.out.2.2.1 HOZ.out.2.2.2 (i*3+1) (.int .i64 (L:Nat))).set HOZ.out.1 HOZ.out.2.1 HOZ.out.2.2.1 HOZ.out.2.2.2 (i*3+2) (.int .i64 (Dd:Nat)))
         rw[← HOS.out,← HTK.out]at HC6
         have HIL:Hid ((outZ l (o.take (t+1)))[i]? =some (ct,L,Dd)):=Hd (by rw[HTK.out,HOS.out,List.getElem?_set_self hiL])
         clear CT hb5 z2 z3 y1 g0 x1 HJ HC hown HJ5 HC5 hiL
         go_wp2_with fail
         clear y0 y2 y3 q0 q1 q2
         generalize (((w5.setCell ⟨OZ,i*3,none⟩ (.int .i64 (ct:Nat))).setCell ⟨OZ,i*3+1,none⟩ (.int .i64 (L:Nat))).setCell ⟨OZ,i*3+2,none⟩ (.int .i64 (Dd:Nat)))=w6 at *
         have JG:Hid (BgJ w2 M (M+1) (M+1+1) (.slice (some ⟨b1,o1,none⟩) k cap) l k t o w6.drew∧CzB OZ (outZ l (o.take (t+1))) w6.drew):=Hd ⟨HJ6.out.kept (Below.drew (Below.refl _ _)),HC6.out⟩
         have AT:Hid (∀ W,BgJ w2 M (M+1) (M+1+1) (.slice (some ⟨b1,o1,none⟩) k cap) l k t o W∧CzB OZ (outZ l (o.take (t+1))) W→W.cell? ⟨M+1+1,0,none⟩=some (.map (some M))∧W.cell? ⟨OZ,i*3,none⟩=some (.int .i64 (ct:Nat))∧W.cell? ⟨OZ,i*3+1,none⟩=some (.int .i64 (L:Nat))∧W.cell? ⟨OZ,i*3+2,none⟩=some (.int .i64 (Dd:Nat))):=Hd fun W hW=>by
          obtain⟨a,b,c,h1,h2,h3,h4⟩:=hW.2.cells (k:=i) (List.getElem?_eq_some_iff.1 HIL.out).1
          rw[HIL.out]at h1
          cases h1
          exact⟨cell_of 0 hW.1.zb,h2,h3,h4⟩
         clear HJ6 HC6
         refine wp_region_calm (fun W=>Hid (BgJ w2 M (M+1) (M+1+1) (.slice (some ⟨b1,o1,none⟩) k cap) l k t o W∧CzB OZ (outZ l (o.take (t+1))) W)) 9 (by kernel_rfl) (by kernel_rfl) JG ?_
         simp only[List.take_succ_cons,List.take_zero,List.drop_succ_cons,List.drop_zero]
         repeat
          refine wpQuiet_step (fun K hK=> ?_)
          go_simp
          first
           |(refine hK _ ?_;clear hK K)
           |(apply Exists.intro
             refine⟨fun W hW=> ?_,hK _ ?_⟩
             · first
                |exact rfl
                |(obtain⟨a0,a1,a2,a3⟩:=AT.out W hW.out;go_simp;done)
                |(obtain⟨a0,a1,a2,a3⟩:=AT.out W hW.out;go_simp;exact rfl)
             clear hK K)
         refine wpQuiet_nil ?_
         intro w10 hw10
         clear JG AT
         obtain⟨n9,hn9,D2,hown,hhas,hat⟩:=hw10.out.1.lk
         have HIS:Go.Maps.IsMap D2:=by obtain⟨es,clock,hb,_,_,rfl⟩:=hown;exact⟨_,rfl⟩
         have HAS:=Hd (lkI_put (nm:=nm) (z:=(ct,L,Dd)) HIS hhas hat)
         have hmx:n9<maxLen:=by unfold maxLen;omega
         have HN9:=Hd hn9
         clear hn9 HIS hhas hat
         go_wp2_with (at_mapUpdate;refine wpList_mapUpdate_own _ rfl _ _ _ 56 rfl 9 34 lawSg Tryz.underlying56 heldElem M _ D2 rfl hown hmx _ _ _ rfl rfl HKEY.out _ [] rfl ?_)
         intro w3 hown3 hg3
         have HLK:LkI w3 M (n9+1) (lookP l (o.take (t+1))):=by
          rw[HTK.out]
          exact LkI.look (f:=putL (lookP l (o.take t)) nm (ct,L,Dd)) ⟨_,hown3,HAS.out.1,HAS.out.2⟩ fun s=>(HLP.out s).symm
         have HE:=Hd (hw10.out.1.upM hg3 (by have:=HM.out;omega) (by omega) (by omega) (by have:=HN9.out;omega) HLK)
         have HCE:Hid (CzB OZ (outZ l (o.take (t+1))) w3):=Hd ((hg3.block _ (lt_of hw10.out.2) (fun e=>HOZ.out.2.1 (Option.some.inj e))).trans hw10.out.2)
         clear hown hown3 hg3 hmx hw10 HLK
         go_wp2
         go_roundg (N - (t+1))
         case measure=>have:=hgt.out;omega
         case rel=>exact⟨t+1,by go_num,by omega,Hd (by have:=hgt.out;omega),HE,HCE⟩
       · obtain rfl:t=N:=by omega
         have hti: ¬ (t:Int)<(t:Int):=by omega
         have HR:Hid (RRd cZ 3 wr wr.heap.size (some ⟨OZ,0,none⟩) t t ((List.range t).map (sizesE l))):=Hd (by
          have h9:=HC.out
          rw[List.take_of_length_le (by rw[HON.out];exact Nat.le_refl _),outZ_all (fun i hi=>ord_all HO.out.1 (by rw[HON.out,HN.out]) hi),HN.out]at h9
          exact h9.row (by simp) (by omega))
         have HB9:=Hd (HB3.out.trans (HJ.out.below.mono HB3.out.size))
         clear HC HJ
         go_wp2
         go_ret3
         exact⟨fun h=>absurd h HNL.out,fun _=>⟨M+1+1,OZ,rfl,HR.out⟩,HB9.out⟩
theorem costAll_c (A:Option Addr)(n cap:Nat)(l:List EntT)(w:World)(h:RRd cE 6 w w.heap.size A n cap l)(hm:n≤100)(hx: ∀ x∈l,x.tx.length≤20000)(hnm: ∀ x∈l,x.nm.length≤1000000000000000)(hF:Forms w)(hT:Tabs w)(hK:KnownT w) :
 Calls Tryz.prog 14 #[.slice A n cap] w fun e w'=>(loopsE l→e= .returned (.tuple #[.slice none 0 0,.int .i64 8]))∧(¬ loopsE l→ ∃ OZ,e= .returned (.tuple #[.slice (some ⟨OZ,0,none⟩) (innerE l).length (innerE l).length,.int .i64 0])∧RRd cZ 3 w' w'.heap.size (some ⟨OZ,0,none⟩) (innerE l).length (innerE l).length ((List.range (innerE l).length).map (sizesE l)))∧Below w.heap.size w w':=by
 have C:=Hd (costBegun_c A n cap l w h hm hx hnm hF hT hK)
 clear h hm hx hnm hF hT hK
 go_enter Tryz.func14,Tryz.ntmps14
 go_wp2_with fail
 refine C.out.mono ?_
 rintro e w1 ⟨h1,h2,hb⟩
 have HB:=Hd hb
 clear hb C
 by_cases hl:loopsE l
 · obtain rfl:=h1 hl
   have HL:=Hd hl
   clear h1 h2 hl
   go_wp2
   go_ret2
   exact⟨fun _=>rfl,fun h=>absurd HL.out h,HB.out⟩
 · obtain⟨Zp,OZ,rfl,hr⟩:=h2 hl
   have HL:=Hd hl
   have HR:=Hd hr
   clear h1 h2 hl hr
   go_wp2
   go_ret2
   exact⟨fun h=>absurd h HL.out,fun _=>⟨OZ,rfl,HR.out⟩,HB.out⟩
theorem grownBy_setRow' {w:World}{k:Nat}(vs:Array Value)(hk:k<w.heap.size):w.grownBy (w.setRow k vs) (some k):=by
 refine⟨rfl,rfl,rfl,by simp[World.setRow],fun b hb hne=> ?_⟩
 exact setRow_other _ _ _ _ (fun e=>hne (by rw[e]))
theorem sxAdd_none (OB AB M n:Nat)(look:List UInt8→Option (Nat × Nat × Nat))(acc:Nat × Nat × Nat)(nm:List UInt8)(w:World)(ho:w.heap[OB]? =some (.cells #[.map (some M)] 56 (0,0)))(hM:LkI w M n look)(ha:w.heap[AB]? =some (.cells (sz3 acc) 34 (0,0)))(hs:nm.length≤1000000)(hn:look nm=none) :
 Calls Tryz.prog 16 #[.string ⟨nm.toArray⟩,.pointer (some ⟨OB,0,none⟩),.pointer (some ⟨AB,0,none⟩)] w fun e w'=>(∃ v,e= .returned v)∧w'.heap[AB]? =some (.cells (sz3 acc) 34 (0,0))∧w.grownBy w' (some AB):=by
 have c0:w.cell? ⟨OB,0,none⟩=some (.map (some M)):=cell_of 0 ho
 have h1:(look nm).getD (0,0,0)=(0,0,0):=by rw[hn];rfl
 have h2:(look nm).isSome=false:=by rw[hn];rfl
 have HA:=Hd ha
 have hs2:nm.length≤9000000000000000000:=by omega
 clear ho ha hn
 go_enter Tryz.func16,Tryz.ntmps16
 go_wp2_with (first|(at_lookup;refine wpList_lookup_sz rfl _ _ rfl M n look rfl hM nm rfl hs2 _ false h1 h2 ?_))
 go_end0
 exact⟨⟨_,rfl⟩,hp_old HA.out,World.grownBy_alloc w _ _⟩
theorem sxAdd_some (OB AB M n:Nat)(look:List UInt8→Option (Nat × Nat × Nat))(acc:Nat × Nat × Nat)(nm:List UInt8)(w:World)(ho:w.heap[OB]? =some (.cells #[.map (some M)] 56 (0,0)))(hM:LkI w M n look)(ha:w.heap[AB]? =some (.cells (sz3 acc) 34 (0,0)))(hs:nm.length≤1000000)(yc yl yd:Nat)(hn:look nm=some (yc,yl,yd))(hacc:acc.1≤9223372036854775807∧acc.2.1≤9223372036854775807)(hy:yc≤9223372036854775807∧yl≤9223372036854775807)(hyd:yd≤1000000) :
 Calls Tryz.prog 16 #[.string ⟨nm.toArray⟩,.pointer (some ⟨OB,0,none⟩),.pointer (some ⟨AB,0,none⟩)] w fun e w'=>(∃ v,e= .returned v)∧w'.heap[AB]? =some (.cells (sz3 (sumZ acc (yc,yl,yd+1))) 34 (0,0))∧w.grownBy w' (some AB):=by
 have c0:w.cell? ⟨OB,0,none⟩=some (.map (some M)):=cell_of 0 ho
 have h1:(look nm).getD (0,0,0)=(yc,yl,yd):=by rw[hn];rfl
 have h2:(look nm).isSome=true:=by rw[hn];rfl
 have HA:=Hd ha
 have a0:(w.alloc (.cells #[.int .i64 (yc:Nat),.int .i64 (yl:Nat),.int .i64 ((yd:Int)+1)] 34)).cell? ⟨AB,0,none⟩=some (.int .i64 (acc.1:Nat)):=cell_of 0 (hp_old ha)
 have a1:(w.alloc (.cells #[.int .i64 (yc:Nat),.int .i64 (yl:Nat),.int .i64 ((yd:Int)+1)] 34)).cell? ⟨AB,1,none⟩=some (.int .i64 (acc.2.1:Nat)):=cell_of 1 (hp_old ha)
 have a2:(w.alloc (.cells #[.int .i64 (yc:Nat),.int .i64 (yl:Nat),.int .i64 ((yd:Int)+1)] 34)).cell? ⟨AB,2,none⟩=some (.int .i64 (acc.2.2:Nat)):=cell_of 2 (hp_old ha)
 have hab:=lt_of ha
 have hab2:AB≠w.heap.size:=by omega
 have hs2:nm.length≤9000000000000000000:=by omega
 have hd0:(0:Int)≤(yd:Int):=by omega
 have hd9:(yd:Int)≤1000000:=by omega
 have CS:=Hd fun W=>sumZ_c acc (yc,yl,yd+1) hacc hy W
 unfold aggZ at CS
 simp only at CS
 have e1:(((yd+1:Nat):Nat):Int)=(yd:Int)+1:=by omega
 rw[e1]at CS
 have HAB:=Hd hab
 clear ho ha hn hacc hy hyd e1 hab
 go_enter Tryz.func16,Tryz.ntmps16
 go_wp2_with (first|(at_lookup;refine wpList_lookup_sz rfl _ _ rfl M n look rfl hM nm rfl hs2 _ true h1 h2 ?_))
 refine(CS.out _).mono ?_
 rintro e w5 ⟨rfl,hb5⟩
 have wc:w5.heap[AB]? =some (.cells #[.int .i64 (acc.1:Nat),.int .i64 (acc.2.1:Nat),.int .i64 (acc.2.2:Nat)] 34 (0,0)):=(hb5.block _ (by simp;have:=HAB.out;omega)).trans (hp_old HA.out)
 have HG:Hid (w.grownBy w5 (some AB)):=Hd ((World.grownBy_alloc w _ _).trans ⟨hb5.os,hb5.tape,hb5.output,hb5.size,fun b hb _=>hb5.block b hb⟩)
 clear CS hb5 a0 a1 a2 hM c0
 obtain⟨U,hU⟩: ∃ U,sumZ acc (yc,yl,yd+1)=U:=⟨_,rfl⟩
 rw[hU]
 have HUE:=Hd hU
 have HQ4:Hid ((w5.setRow AB #[.int .i64 (U.1:Nat),.int .i64 (U.2.1:Nat),.int .i64 (U.2.2:Nat)]).heap[AB]? =some (.cells (sz3 U) 34 (0,0))):=Hd (setRow_heap _ _ _ _ _ _ wc)
 have HBF:=Hd (HG.out.trans (grownBy_setRow' #[.int .i64 (U.1:Nat),.int .i64 (U.2.1:Nat),.int .i64 (U.2.2:Nat)] (lt_of wc)))
 clear HG hU
 go_wp2_with (first|(refine wpList_store_row rfl _ _ _ rfl AB #[.int .i64 (U.1:Nat),.int .i64 (U.2.1:Nat),.int .i64 (U.2.2:Nat)] rfl rfl _ _ wc (by kernel_rfl) rfl (by kernel_rfl) ?_))
 go_end0
 exact⟨⟨_,rfl⟩,by rw[HUE.out];exact HQ4.out,HBF.out⟩
theorem sxAdd_c (OB AB M n:Nat)(look:List UInt8→Option (Nat × Nat × Nat))(acc:Nat × Nat × Nat)(nm:List UInt8)(w:World)(ho:w.heap[OB]? =some (.cells #[.map (some M)] 56 (0,0)))(hM:LkI w M n look)(ha:w.heap[AB]? =some (.cells (sz3 acc) 34 (0,0)))(hs:nm.length≤1000000)(hacc:acc.1≤9223372036854775807∧acc.2.1≤9223372036854775807)(hl: ∀ nm z,look nm=some z→z.1≤9223372036854775807∧z.2.1≤9223372036854775807∧z.2.2≤1000000) :
 Calls Tryz.prog 16 #[.string ⟨nm.toArray⟩,.pointer (some ⟨OB,0,none⟩),.pointer (some ⟨AB,0,none⟩)] w fun e w'=>(∃ v,e= .returned v)∧w'.heap[AB]? =some (.cells (sz3 (extraF look acc nm)) 34 (0,0))∧w.grownBy w' (some AB):=by
 unfold extraF
 cases hn:look nm with
 |some y =>
  obtain⟨yc,yl,yd⟩:=y
  have h3:=hl _ _ hn
  exact sxAdd_some OB AB M n look acc nm w ho hM ha hs yc yl yd hn hacc ⟨h3.1,h3.2.1⟩ h3.2.2
 |none=>exact sxAdd_none OB AB M n look acc nm w ho hM ha hs hn
end Go.Proofs.YtbafljibbabnaaaGreatDoor
