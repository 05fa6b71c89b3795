/- Texts of ours, joined: Tok4. -/
import Derived.Test.YtbafljibbabnaaaGreatDoorQ37
namespace Go.Proofs.YtbafljibbabnaaaGreatDoor
open Go.ChangeShapes Go.WideShapes Go.ChangeAt Go.RowKit
set_option linter.unusedVariables false
set_option maxRecDepth 100000
set_option maxHeartbeats 32000000
structure RN (w W:World) (rs vs:Array Value):Prop where
 below:Below w.heap.size w W
 size:w.heap.size+1<W.heap.size
 res:W.heap[w.heap.size]? =some (.cells rs 50)
 tok:W.heap[w.heap.size+1]? =some (.cells vs 50)
theorem RN.start (k:Nat)(w:World):RN w ((w.alloc (.cells #[.int .i64 0,.int .i64 0,.int .i64 0,.string ⟨#[]⟩,.string ⟨#[]⟩,.slice none 0 0,.int .i64 0] 50)).alloc (.cells #[.int .i64 0,.int .i64 (k:Int),.int .i64 0,.string ⟨#[]⟩,.string ⟨#[]⟩,.slice none 0 0,.int .i64 0] 50)) #[.int .i64 0,.int .i64 0,.int .i64 0,.string ⟨#[]⟩,.string ⟨#[]⟩,.slice none 0 0,.int .i64 0] #[.int .i64 0,.int .i64 (k:Int),.int .i64 0,.string ⟨#[]⟩,.string ⟨#[]⟩,.slice none 0 0,.int .i64 0]:=by
 have b1:=(Below.refl w.heap.size w).alloc (Nat.le_refl _) (.cells #[.int .i64 0,.int .i64 0,.int .i64 0,.string ⟨#[]⟩,.string ⟨#[]⟩,.slice none 0 0,.int .i64 0] 50)
 refine⟨b1.alloc (by simp) (.cells #[.int .i64 0,.int .i64 (k:Int),.int .i64 0,.string ⟨#[]⟩,.string ⟨#[]⟩,.slice none 0 0,.int .i64 0] 50),by simp,?_,?_⟩
 · rw[Below.heap_alloc _ _ _ (by simp)];exact hp_new _ _
 · have:=hp_new (w.alloc (.cells #[.int .i64 0,.int .i64 0,.int .i64 0,.string ⟨#[]⟩,.string ⟨#[]⟩,.slice none 0 0,.int .i64 0] 50)) (.cells #[.int .i64 0,.int .i64 (k:Int),.int .i64 0,.string ⟨#[]⟩,.string ⟨#[]⟩,.slice none 0 0,.int .i64 0] 50)
   rwa [World.size_alloc]at this
theorem RN.start' (w:World)(vs:Array Value):RN w ((w.alloc (.cells #[.int .i64 0,.int .i64 0,.int .i64 0,.string ⟨#[]⟩,.string ⟨#[]⟩,.slice none 0 0,.int .i64 0] 50)).alloc (.cells vs 50)) #[.int .i64 0,.int .i64 0,.int .i64 0,.string ⟨#[]⟩,.string ⟨#[]⟩,.slice none 0 0,.int .i64 0] vs:=by
 have b1:=(Below.refl w.heap.size w).alloc (Nat.le_refl _) (.cells #[.int .i64 0,.int .i64 0,.int .i64 0,.string ⟨#[]⟩,.string ⟨#[]⟩,.slice none 0 0,.int .i64 0] 50)
 refine⟨b1.alloc (by simp) (.cells vs 50),by simp,?_,?_⟩
 · rw[Below.heap_alloc _ _ _ (by simp)];exact hp_new _ _
 · have:=hp_new (w.alloc (.cells #[.int .i64 0,.int .i64 0,.int .i64 0,.string ⟨#[]⟩,.string ⟨#[]⟩,.slice none 0 0,.int .i64 0] 50)) (.cells vs 50)
   rwa [World.size_alloc]at this
theorem RN.kept {w W W':World}{rs vs:Array Value}(h:RN w W rs vs)(hb:Below W.heap.size W W'):RN w W' rs vs :=
 ⟨h.below.trans (hb.mono h.below.size),by have:=hb.size;have:=h.size;omega,by rw[hb.block _ (by have:=h.size;omega)];exact h.res,by rw[hb.block _ h.size];exact h.tok⟩
theorem RN.set {w W:World}{rs vs:Array Value}(h:RN w W rs vs)(i:Nat)(v:Value):RN w (W.setCell ⟨w.heap.size+1,i,none⟩ v) rs (vs.setIfInBounds i v) :=
 ⟨h.below.setCell (p:=⟨w.heap.size+1,i,none⟩) (Nat.le_succ _) v,by simpa using h.size,by rw[hp_other (by omega)];exact h.res,hp_set h.tok⟩
theorem RN.row {w W:World}{rs vs:Array Value}(h:RN w W rs vs)(cs:Array Value):RN w (W.setRow w.heap.size cs) cs vs:=by
 refine⟨⟨h.below.os,h.below.tape,h.below.output,?_,fun j hj=> ?_⟩,?_,setRow_heap _ _ _ _ _ _ h.res,?_⟩
 · have:=h.below.size;simpa [World.setRow] using this
 · rw[setRow_other _ _ _ _ (by omega)];exact h.below.block j hj
 · simpa [World.setRow] using h.size
 · rw[setRow_other _ _ _ _ (by omega)];exact h.tok
theorem RN.drewN {w W:World}{rs vs:Array Value}(h:RN w W rs vs)(q:Nat):RN w (W.drewN q) rs vs:=⟨below_drewN' h.below,h.size,h.res,h.tok⟩
theorem refNext_comment (A:Option Addr)(n cap:Nat)(l:List UInt8)(k:Nat)(w:World)(h:Byt w w.heap.size A n cap l)(hm:n≤40000)(hk:k<n)(h0: [60,33,45,45].isPrefixOf (l.drop k)=true) :
 Calls Tryz.prog 13 #[.slice A n cap,.int .i64 (k:Int)] w fun e w'=>TokPost (nextOut l k) w e w':=by
 have hln:=h.length
 have HK:Hid (∀ W rs vs,RN w W rs vs→Byt W W.heap.size A n cap l):=Hd fun W rs vs hJ=>(h.below hJ.below).more hJ.below.size
 obtain⟨bb,oo,c,hA,hbB,hc,_⟩:=h.cell hk
 have HC:Hid (∀ W rs vs,RN w W rs vs→W.cell? ⟨bb,oo+k,none⟩=some (.int .u8 c.toNat)):=Hd fun W rs vs hJ=>by
  obtain⟨b2,o2,c2,e2,_,hc2,hz⟩:=(h.below hJ.below).cell hk
  rw[hA]at e2
  cases e2
  rw[hc]at hc2
  cases hc2
  exact hz
 have c0:(0:Int)≤(c.toNat:Int):=by omega
 have c9:(c.toNat:Int)≤255:=by have:=c.toNat_lt;omega
 have S0:Hid (∀ W rs vs,RN w W rs vs→Calls Tryz.prog 28 #[.slice A n cap,.int .i64 (k:Int),.string ⟨#[60,33,45,45]⟩] W fun e w'=>e= .returned (.bool true)∧W=w'):=Hd fun W rs vs hJ=>by
  have:=refAt8_c A n cap l k [60,33,45,45] W.heap.size W (HK.out W rs vs hJ) (by simp) (by omega) (by decide) (by omega)
  rwa [h0]at this
 have C:Hid (∀ W rs vs,RN w W rs vs→Calls Tryz.prog 29 #[.slice A n cap,.int .i64 (k:Int)] W fun e w'=>e= .returned (outV (commentOut l k))∧W=w'):=Hd fun W rs vs hJ=>by
  have hB:=HK.out W rs vs hJ
  have:=refCommentAt_c A n cap l k W.heap.size W hB (by omega)
  have he:anyAt commentOut l k=commentOut l k:=by
   unfold anyAt
   rw[hln,if_neg (by omega),Int.toNat_natCast]
  rwa [he]at this
 have hR:nextOut l k=(if (readTok l k).2=0 then ({ (readTok l k).1 with fro:=(k:Int) },0) else (noTok,(readTok l k).2)):=rfl
 have hRT:readTok l k=(⟨5,0,((commentOut l k).2.1:Int),[],(commentOut l k).1,[],0⟩,(commentOut l k).2.2):=by
  unfold readTok
  rw[if_pos h0]
 rw[hR,hRT]
 clear hR hRT
 generalize commentOut l k=o at *
 obtain⟨s,t,e⟩:=o
 unfold outV at C
 simp only at C ⊢
 have J0:=Hd (RN.start k w)
 have hi:(Tryz.prog.info? 50).map (·.size)=some 7:=by kernel_rfl
 obtain⟨sd,hu⟩:=isStruct_of (P:=Tryz.prog) (t:=50) (by kernel_rfl)
 have HU:=Hd (And.intro hi hu)
 have hk0: ¬ (k:Int)<0:=by omega
 have hk1: ¬ (n:Int)<(k:Int):=by omega
 have hk2:((k:Int)==(n:Int))=false:=by simp;omega
 have hk3:(k:Int)<(n:Int):=by omega
 have hk4:(k:Int)≤40000:=by omega
 clear h hln HK hi hu hbB hc h0
 subst hA
 by_cases he:e=0
 · subst he
   rw[if_pos rfl]
   have KF:Hid (RN w ((w.alloc (.cells #[.int .i64 0,.int .i64 0,.int .i64 0,.string ⟨#[]⟩,.string ⟨#[]⟩,.slice none 0 0,.int .i64 0] 50)).alloc (.cells #[.int .i64 5,.int .i64 (k:Int),.int .i64 (t:Int),.string ⟨#[]⟩,.string ⟨s.toArray⟩,.slice none 0 0,.int .i64 0] 50)) #[.int .i64 0,.int .i64 0,.int .i64 0,.string ⟨#[]⟩,.string ⟨#[]⟩,.slice none 0 0,.int .i64 0] #[.int .i64 5,.int .i64 (k:Int),.int .i64 (t:Int),.string ⟨#[]⟩,.string ⟨s.toArray⟩,.slice none 0 0,.int .i64 0]):=Hd (RN.start' w #[.int .i64 5,.int .i64 (k:Int),.int .i64 (t:Int),.string ⟨#[]⟩,.string ⟨s.toArray⟩,.slice none 0 0,.int .i64 0])
   have JA:Hid (RN w ((w.alloc (.cells #[.int .i64 0,.int .i64 0,.int .i64 0,.string ⟨#[]⟩,.string ⟨#[]⟩,.slice none 0 0,.int .i64 0] 50)).alloc (.cells #[.int .i64 5,.int .i64 (k:Int),.int .i64 0,.string ⟨#[]⟩,.string ⟨#[]⟩,.slice none 0 0,.int .i64 0] 50)) #[.int .i64 0,.int .i64 0,.int .i64 0,.string ⟨#[]⟩,.string ⟨#[]⟩,.slice none 0 0,.int .i64 0] #[.int .i64 5,.int .i64 (k:Int),.int .i64 0,.string ⟨#[]⟩,.string ⟨#[]⟩,.slice none 0 0,.int .i64 0]):=Hd (RN.start' w #[.int .i64 5,.int .i64 (k:Int),.int .i64 0,.string ⟨#[]⟩,.string ⟨#[]⟩,.slice none 0 0,.int .i64 0])
   go_enter Tryz.func13,Tryz.ntmps13
   have zc:=HC.out _ _ _ J0.out
   go_wp2_with fail
   refine(S0.out _ _ _ J0.out).mono ?_
   rintro e wq ⟨rfl,rfl⟩
   go_wp2_with fail
   refine(C.out _ _ _ JA.out).mono ?_
   rintro e0 wq ⟨rfl,hwq⟩
   subst hwq
   clear zc
   have JF:=Hd (KF.out.row #[.int .i64 5,.int .i64 (k:Int),.int .i64 (t:Int),.string ⟨#[]⟩,.string ⟨s.toArray⟩,.slice none 0 0,.int .i64 0])
   go_wp2_with (first|(refine wpList_load_row rfl _ _ rfl (w.heap.size+1) rfl _ _ _ _ KF.out.tok HU.out.2 rfl HU.out.1 ?_)|(refine wpList_store_row rfl _ _ _ rfl w.heap.size #[.int .i64 5,.int .i64 (k:Int),.int .i64 (t:Int),.string ⟨#[]⟩,.string ⟨s.toArray⟩,.slice none 0 0,.int .i64 0] rfl rfl _ _ KF.out.res (by kernel_rfl) rfl (by kernel_rfl) ?_))
   (try simp only[Exit.inBlock,Exit.then])
   exact bodyPost_ret (results_cell2 rfl _ _ w.heap.size _ _ _ _ rfl JF.out.res HU.out.2 rfl HU.out.1) rfl (TokPost.of none 0 0 rfl (PRd.nilR _ _) JF.out.below fun b i h=>by cases h)
 · rw[if_neg he]
   have hei:((e:Int)==0)=false:=by simp;omega
   have KF:Hid (RN w ((w.alloc (.cells #[.int .i64 0,.int .i64 0,.int .i64 0,.string ⟨#[]⟩,.string ⟨#[]⟩,.slice none 0 0,.int .i64 0] 50)).alloc (.cells #[.int .i64 5,.int .i64 (k:Int),.int .i64 (t:Int),.string ⟨#[]⟩,.string ⟨s.toArray⟩,.slice none 0 0,.int .i64 0] 50)) #[.int .i64 0,.int .i64 0,.int .i64 0,.string ⟨#[]⟩,.string ⟨#[]⟩,.slice none 0 0,.int .i64 0] #[.int .i64 5,.int .i64 (k:Int),.int .i64 (t:Int),.string ⟨#[]⟩,.string ⟨s.toArray⟩,.slice none 0 0,.int .i64 0]):=Hd (RN.start' w #[.int .i64 5,.int .i64 (k:Int),.int .i64 (t:Int),.string ⟨#[]⟩,.string ⟨s.toArray⟩,.slice none 0 0,.int .i64 0])
   have JA:Hid (RN w ((w.alloc (.cells #[.int .i64 0,.int .i64 0,.int .i64 0,.string ⟨#[]⟩,.string ⟨#[]⟩,.slice none 0 0,.int .i64 0] 50)).alloc (.cells #[.int .i64 5,.int .i64 (k:Int),.int .i64 0,.string ⟨#[]⟩,.string ⟨#[]⟩,.slice none 0 0,.int .i64 0] 50)) #[.int .i64 0,.int .i64 0,.int .i64 0,.string ⟨#[]⟩,.string ⟨#[]⟩,.slice none 0 0,.int .i64 0] #[.int .i64 5,.int .i64 (k:Int),.int .i64 0,.string ⟨#[]⟩,.string ⟨#[]⟩,.slice none 0 0,.int .i64 0]):=Hd (RN.start' w #[.int .i64 5,.int .i64 (k:Int),.int .i64 0,.string ⟨#[]⟩,.string ⟨#[]⟩,.slice none 0 0,.int .i64 0])
   go_enter Tryz.func13,Tryz.ntmps13
   have zc:=HC.out _ _ _ J0.out
   go_wp2_with fail
   refine(S0.out _ _ _ J0.out).mono ?_
   rintro e wq ⟨rfl,rfl⟩
   go_wp2_with fail
   refine(C.out _ _ _ JA.out).mono ?_
   rintro e0 wq ⟨rfl,hwq⟩
   subst hwq
   clear zc
   have JF:=Hd (KF.out.row #[.int .i64 0,.int .i64 0,.int .i64 0,.string ⟨#[]⟩,.string ⟨#[]⟩,.slice none 0 0,.int .i64 0])
   go_wp2_with (refine wpList_store_row rfl _ _ _ rfl w.heap.size #[.int .i64 0,.int .i64 0,.int .i64 0,.string ⟨#[]⟩,.string ⟨#[]⟩,.slice none 0 0,.int .i64 0] rfl rfl _ _ KF.out.res (by kernel_rfl) rfl (by kernel_rfl) ?_)
   (try simp only[Exit.inBlock,Exit.then])
   exact bodyPost_ret (results_cell2 rfl _ _ w.heap.size _ _ _ _ rfl JF.out.res HU.out.2 rfl HU.out.1) rfl (TokPost.no rfl JF.out.below)
theorem refNext_cdata (A:Option Addr)(n cap:Nat)(l:List UInt8)(k:Nat)(w:World)(h:Byt w w.heap.size A n cap l)(hm:n≤40000)(hk:k<n)(h0: [60,33,45,45].isPrefixOf (l.drop k)=false)(h1: [60,33,91,67,68,65,84,65,91].isPrefixOf (l.drop k)=true) :
 Calls Tryz.prog 13 #[.slice A n cap,.int .i64 (k:Int)] w fun e w'=>TokPost (nextOut l k) w e w':=by
 have hln:=h.length
 have HK:Hid (∀ W rs vs,RN w W rs vs→Byt W W.heap.size A n cap l):=Hd fun W rs vs hJ=>(h.below hJ.below).more hJ.below.size
 obtain⟨bb,oo,c,hA,hbB,hc,_⟩:=h.cell hk
 have HC:Hid (∀ W rs vs,RN w W rs vs→W.cell? ⟨bb,oo+k,none⟩=some (.int .u8 c.toNat)):=Hd fun W rs vs hJ=>by
  obtain⟨b2,o2,c2,e2,_,hc2,hz⟩:=(h.below hJ.below).cell hk
  rw[hA]at e2
  cases e2
  rw[hc]at hc2
  cases hc2
  exact hz
 have c0:(0:Int)≤(c.toNat:Int):=by omega
 have c9:(c.toNat:Int)≤255:=by have:=c.toNat_lt;omega
 have S0:Hid (∀ W rs vs,RN w W rs vs→Calls Tryz.prog 28 #[.slice A n cap,.int .i64 (k:Int),.string ⟨#[60,33,45,45]⟩] W fun e w'=>e= .returned (.bool false)∧W=w'):=Hd fun W rs vs hJ=>by
  have:=refAt8_c A n cap l k [60,33,45,45] W.heap.size W (HK.out W rs vs hJ) (by simp) (by omega) (by decide) (by omega)
  rwa [h0]at this
 have S1:Hid (∀ W rs vs,RN w W rs vs→Calls Tryz.prog 28 #[.slice A n cap,.int .i64 (k:Int),.string ⟨#[60,33,91,67,68,65,84,65,91]⟩] W fun e w'=>e= .returned (.bool true)∧W=w'):=Hd fun W rs vs hJ=>by
  have:=refAt8_c A n cap l k [60,33,91,67,68,65,84,65,91] W.heap.size W (HK.out W rs vs hJ) (by simp) (by omega) (by decide) (by omega)
  rwa [h1]at this
 have C:Hid (∀ W rs vs,RN w W rs vs→Calls Tryz.prog 30 #[.slice A n cap,.int .i64 (k:Int)] W fun e w'=>e= .returned (outV (cdataOut l k))∧W=w'):=Hd fun W rs vs hJ=>by
  have hB:=HK.out W rs vs hJ
  have:=refCDataAt_c A n cap l k W.heap.size W hB (by omega)
  have he:anyAt cdataOut l k=cdataOut l k:=by
   unfold anyAt
   rw[hln,if_neg (by omega),Int.toNat_natCast]
  rwa [he]at this
 have hR:nextOut l k=(if (readTok l k).2=0 then ({ (readTok l k).1 with fro:=(k:Int) },0) else (noTok,(readTok l k).2)):=rfl
 have hRT:readTok l k=(⟨4,0,((cdataOut l k).2.1:Int),[],(cdataOut l k).1,[],0⟩,(cdataOut l k).2.2):=by
  unfold readTok
  rw[if_neg (by rw[h0];simp),if_pos h1]
 rw[hR,hRT]
 clear hR hRT
 generalize cdataOut l k=o at *
 obtain⟨s,t,e⟩:=o
 unfold outV at C
 simp only at C ⊢
 have J0:=Hd (RN.start k w)
 have hi:(Tryz.prog.info? 50).map (·.size)=some 7:=by kernel_rfl
 obtain⟨sd,hu⟩:=isStruct_of (P:=Tryz.prog) (t:=50) (by kernel_rfl)
 have HU:=Hd (And.intro hi hu)
 have hk0: ¬ (k:Int)<0:=by omega
 have hk1: ¬ (n:Int)<(k:Int):=by omega
 have hk2:((k:Int)==(n:Int))=false:=by simp;omega
 have hk3:(k:Int)<(n:Int):=by omega
 have hk4:(k:Int)≤40000:=by omega
 clear h hln HK hi hu hbB hc h0 h1
 subst hA
 by_cases he:e=0
 · subst he
   rw[if_pos rfl]
   have KF:Hid (RN w ((w.alloc (.cells #[.int .i64 0,.int .i64 0,.int .i64 0,.string ⟨#[]⟩,.string ⟨#[]⟩,.slice none 0 0,.int .i64 0] 50)).alloc (.cells #[.int .i64 4,.int .i64 (k:Int),.int .i64 (t:Int),.string ⟨#[]⟩,.string ⟨s.toArray⟩,.slice none 0 0,.int .i64 0] 50)) #[.int .i64 0,.int .i64 0,.int .i64 0,.string ⟨#[]⟩,.string ⟨#[]⟩,.slice none 0 0,.int .i64 0] #[.int .i64 4,.int .i64 (k:Int),.int .i64 (t:Int),.string ⟨#[]⟩,.string ⟨s.toArray⟩,.slice none 0 0,.int .i64 0]):=Hd (RN.start' w #[.int .i64 4,.int .i64 (k:Int),.int .i64 (t:Int),.string ⟨#[]⟩,.string ⟨s.toArray⟩,.slice none 0 0,.int .i64 0])
   have JA:Hid (RN w ((w.alloc (.cells #[.int .i64 0,.int .i64 0,.int .i64 0,.string ⟨#[]⟩,.string ⟨#[]⟩,.slice none 0 0,.int .i64 0] 50)).alloc (.cells #[.int .i64 4,.int .i64 (k:Int),.int .i64 0,.string ⟨#[]⟩,.string ⟨#[]⟩,.slice none 0 0,.int .i64 0] 50)) #[.int .i64 0,.int .i64 0,.int .i64 0,.string ⟨#[]⟩,.string ⟨#[]⟩,.slice none 0 0,.int .i64 0] #[.int .i64 4,.int .i64 (k:Int),.int .i64 0,.string ⟨#[]⟩,.string ⟨#[]⟩,.slice none 0 0,.int .i64 0]):=Hd (RN.start' w #[.int .i64 4,.int .i64 (k:Int),.int .i64 0,.string ⟨#[]⟩,.string ⟨#[]⟩,.slice none 0 0,.int .i64 0])
   go_enter Tryz.func13,Tryz.ntmps13
   have zc:=HC.out _ _ _ J0.out
   go_wp2_with fail
   refine(S0.out _ _ _ J0.out).mono ?_
   rintro e wq ⟨rfl,rfl⟩
   go_wp2_with fail
   refine(S1.out _ _ _ J0.out).mono ?_
   rintro e wq ⟨rfl,rfl⟩
   go_wp2_with fail
   refine(C.out _ _ _ JA.out).mono ?_
   rintro e0 wq ⟨rfl,hwq⟩
   subst hwq
   clear zc
   have JF:=Hd (KF.out.row #[.int .i64 4,.int .i64 (k:Int),.int .i64 (t:Int),.string ⟨#[]⟩,.string ⟨s.toArray⟩,.slice none 0 0,.int .i64 0])
   go_wp2_with (first|(refine wpList_load_row rfl _ _ rfl (w.heap.size+1) rfl _ _ _ _ KF.out.tok HU.out.2 rfl HU.out.1 ?_)|(refine wpList_store_row rfl _ _ _ rfl w.heap.size #[.int .i64 4,.int .i64 (k:Int),.int .i64 (t:Int),.string ⟨#[]⟩,.string ⟨s.toArray⟩,.slice none 0 0,.int .i64 0] rfl rfl _ _ KF.out.res (by kernel_rfl) rfl (by kernel_rfl) ?_))
   (try simp only[Exit.inBlock,Exit.then])
   exact bodyPost_ret (results_cell2 rfl _ _ w.heap.size _ _ _ _ rfl JF.out.res HU.out.2 rfl HU.out.1) rfl (TokPost.of none 0 0 rfl (PRd.nilR _ _) JF.out.below fun b i h=>by cases h)
 · rw[if_neg he]
   have hei:((e:Int)==0)=false:=by simp;omega
   have KF:Hid (RN w ((w.alloc (.cells #[.int .i64 0,.int .i64 0,.int .i64 0,.string ⟨#[]⟩,.string ⟨#[]⟩,.slice none 0 0,.int .i64 0] 50)).alloc (.cells #[.int .i64 4,.int .i64 (k:Int),.int .i64 (t:Int),.string ⟨#[]⟩,.string ⟨s.toArray⟩,.slice none 0 0,.int .i64 0] 50)) #[.int .i64 0,.int .i64 0,.int .i64 0,.string ⟨#[]⟩,.string ⟨#[]⟩,.slice none 0 0,.int .i64 0] #[.int .i64 4,.int .i64 (k:Int),.int .i64 (t:Int),.string ⟨#[]⟩,.string ⟨s.toArray⟩,.slice none 0 0,.int .i64 0]):=Hd (RN.start' w #[.int .i64 4,.int .i64 (k:Int),.int .i64 (t:Int),.string ⟨#[]⟩,.string ⟨s.toArray⟩,.slice none 0 0,.int .i64 0])
   have JA:Hid (RN w ((w.alloc (.cells #[.int .i64 0,.int .i64 0,.int .i64 0,.string ⟨#[]⟩,.string ⟨#[]⟩,.slice none 0 0,.int .i64 0] 50)).alloc (.cells #[.int .i64 4,.int .i64 (k:Int),.int .i64 0,.string ⟨#[]⟩,.string ⟨#[]⟩,.slice none 0 0,.int .i64 0] 50)) #[.int .i64 0,.int .i64 0,.int .i64 0,.string ⟨#[]⟩,.string ⟨#[]⟩,.slice none 0 0,.int .i64 0] #[.int .i64 4,.int .i64 (k:Int),.int .i64 0,.string ⟨#[]⟩,.string ⟨#[]⟩,.slice none 0 0,.int .i64 0]):=Hd (RN.start' w #[.int .i64 4,.int .i64 (k:Int),.int .i64 0,.string ⟨#[]⟩,.string ⟨#[]⟩,.slice none 0 0,.int .i64 0])
   go_enter Tryz.func13,Tryz.ntmps13
   have zc:=HC.out _ _ _ J0.out
   go_wp2_with fail
   refine(S0.out _ _ _ J0.out).mono ?_
   rintro e wq ⟨rfl,rfl⟩
   go_wp2_with fail
   refine(S1.out _ _ _ J0.out).mono ?_
   rintro e wq ⟨rfl,rfl⟩
   go_wp2_with fail
   refine(C.out _ _ _ JA.out).mono ?_
   rintro e0 wq ⟨rfl,hwq⟩
   subst hwq
   clear zc
   have JF:=Hd (KF.out.row #[.int .i64 0,.int .i64 0,.int .i64 0,.string ⟨#[]⟩,.string ⟨#[]⟩,.slice none 0 0,.int .i64 0])
   go_wp2_with (refine wpList_store_row rfl _ _ _ rfl w.heap.size #[.int .i64 0,.int .i64 0,.int .i64 0,.string ⟨#[]⟩,.string ⟨#[]⟩,.slice none 0 0,.int .i64 0] rfl rfl _ _ KF.out.res (by kernel_rfl) rfl (by kernel_rfl) ?_)
   (try simp only[Exit.inBlock,Exit.then])
   exact bodyPost_ret (results_cell2 rfl _ _ w.heap.size _ _ _ _ rfl JF.out.res HU.out.2 rfl HU.out.1) rfl (TokPost.no rfl JF.out.below)
theorem refNext_pi (A:Option Addr)(n cap:Nat)(l:List UInt8)(k:Nat)(w:World)(h:Byt w w.heap.size A n cap l)(hm:n≤40000)(hk:k<n)(h0: [60,33,45,45].isPrefixOf (l.drop k)=false)(h1: [60,33,91,67,68,65,84,65,91].isPrefixOf (l.drop k)=false)(h2: [60,63].isPrefixOf (l.drop k)=true) :
 Calls Tryz.prog 13 #[.slice A n cap,.int .i64 (k:Int)] w fun e w'=>TokPost (nextOut l k) w e w':=by
 have hln:=h.length
 have HK:Hid (∀ W rs vs,RN w W rs vs→Byt W W.heap.size A n cap l):=Hd fun W rs vs hJ=>(h.below hJ.below).more hJ.below.size
 obtain⟨bb,oo,c,hA,hbB,hc,_⟩:=h.cell hk
 have HC:Hid (∀ W rs vs,RN w W rs vs→W.cell? ⟨bb,oo+k,none⟩=some (.int .u8 c.toNat)):=Hd fun W rs vs hJ=>by
  obtain⟨b2,o2,c2,e2,_,hc2,hz⟩:=(h.below hJ.below).cell hk
  rw[hA]at e2
  cases e2
  rw[hc]at hc2
  cases hc2
  exact hz
 have c0:(0:Int)≤(c.toNat:Int):=by omega
 have c9:(c.toNat:Int)≤255:=by have:=c.toNat_lt;omega
 have S0:Hid (∀ W rs vs,RN w W rs vs→Calls Tryz.prog 28 #[.slice A n cap,.int .i64 (k:Int),.string ⟨#[60,33,45,45]⟩] W fun e w'=>e= .returned (.bool false)∧W=w'):=Hd fun W rs vs hJ=>by
  have:=refAt8_c A n cap l k [60,33,45,45] W.heap.size W (HK.out W rs vs hJ) (by simp) (by omega) (by decide) (by omega)
  rwa [h0]at this
 have S1:Hid (∀ W rs vs,RN w W rs vs→Calls Tryz.prog 28 #[.slice A n cap,.int .i64 (k:Int),.string ⟨#[60,33,91,67,68,65,84,65,91]⟩] W fun e w'=>e= .returned (.bool false)∧W=w'):=Hd fun W rs vs hJ=>by
  have:=refAt8_c A n cap l k [60,33,91,67,68,65,84,65,91] W.heap.size W (HK.out W rs vs hJ) (by simp) (by omega) (by decide) (by omega)
  rwa [h1]at this
 have S2:Hid (∀ W rs vs,RN w W rs vs→Calls Tryz.prog 28 #[.slice A n cap,.int .i64 (k:Int),.string ⟨#[60,63]⟩] W fun e w'=>e= .returned (.bool true)∧W=w'):=Hd fun W rs vs hJ=>by
  have:=refAt8_c A n cap l k [60,63] W.heap.size W (HK.out W rs vs hJ) (by simp) (by omega) (by decide) (by omega)
  rwa [h2]at this
 have C:Hid (∀ W rs vs,RN w W rs vs→Calls Tryz.prog 31 #[.slice A n cap,.int .i64 (k:Int)] W fun e w'=>e= .returned (out4V (piOut l k))∧Below W.heap.size W w'):=Hd fun W rs vs hJ=>by
  have hB:=HK.out W rs vs hJ
  have:=refPiAt_c A n cap l k W hB (by omega)
  have he:piAt l k=piOut l k:=by
   unfold piAt
   rw[hln,if_neg (by omega),Int.toNat_natCast]
  rwa [he]at this
 have hR:nextOut l k=(if (readTok l k).2=0 then ({ (readTok l k).1 with fro:=(k:Int) },0) else (noTok,(readTok l k).2)):=rfl
 have hRT:readTok l k=(⟨6,0,((piOut l k).2.2.1:Int),(piOut l k).1,(piOut l k).2.1,[],0⟩,(piOut l k).2.2.2):=by
  unfold readTok
  rw[if_neg (by rw[h0];simp),if_neg (by rw[h1];simp),if_pos h2]
 rw[hR,hRT]
 clear hR hRT
 generalize piOut l k=o at *
 obtain⟨s,d,t,e⟩:=o
 unfold out4V at C
 simp only at C ⊢
 have J0:=Hd (RN.start k w)
 have hi:(Tryz.prog.info? 50).map (·.size)=some 7:=by kernel_rfl
 obtain⟨sd,hu⟩:=isStruct_of (P:=Tryz.prog) (t:=50) (by kernel_rfl)
 have HU:=Hd (And.intro hi hu)
 have hk0: ¬ (k:Int)<0:=by omega
 have hk1: ¬ (n:Int)<(k:Int):=by omega
 have hk2:((k:Int)==(n:Int))=false:=by simp;omega
 have hk3:(k:Int)<(n:Int):=by omega
 have hk4:(k:Int)≤40000:=by omega
 clear h hln HK hi hu hbB hc h0 h1 h2
 subst hA
 by_cases he:e=0
 · subst he
   rw[if_pos rfl]
   have JA:Hid (RN w ((w.alloc (.cells #[.int .i64 0,.int .i64 0,.int .i64 0,.string ⟨#[]⟩,.string ⟨#[]⟩,.slice none 0 0,.int .i64 0] 50)).alloc (.cells #[.int .i64 6,.int .i64 (k:Int),.int .i64 0,.string ⟨#[]⟩,.string ⟨#[]⟩,.slice none 0 0,.int .i64 0] 50)) #[.int .i64 0,.int .i64 0,.int .i64 0,.string ⟨#[]⟩,.string ⟨#[]⟩,.slice none 0 0,.int .i64 0] #[.int .i64 6,.int .i64 (k:Int),.int .i64 0,.string ⟨#[]⟩,.string ⟨#[]⟩,.slice none 0 0,.int .i64 0]):=Hd (RN.start' w #[.int .i64 6,.int .i64 (k:Int),.int .i64 0,.string ⟨#[]⟩,.string ⟨#[]⟩,.slice none 0 0,.int .i64 0])
   go_enter Tryz.func13,Tryz.ntmps13
   have zc:=HC.out _ _ _ J0.out
   go_wp2_with fail
   refine(S0.out _ _ _ J0.out).mono ?_
   rintro e wq ⟨rfl,rfl⟩
   go_wp2_with fail
   refine(S1.out _ _ _ J0.out).mono ?_
   rintro e wq ⟨rfl,rfl⟩
   go_wp2_with fail
   refine(S2.out _ _ _ J0.out).mono ?_
   rintro e wq ⟨rfl,rfl⟩
   go_wp2_with fail
   refine(C.out _ _ _ JA.out).mono ?_
   rintro e0 u0 ⟨rfl,hb⟩
   have K0:=Hd (JA.out.kept hb)
   clear hb zc
   have z1:=cell_of 3 K0.out.tok
   have y1:=free_of 3 K0.out.tok
   have K1:Hid (RN w (u0.setCell ⟨w.heap.size+1,3,none⟩ (.string ⟨s.toArray⟩)) #[.int .i64 0,.int .i64 0,.int .i64 0,.string ⟨#[]⟩,.string ⟨#[]⟩,.slice none 0 0,.int .i64 0] #[.int .i64 6,.int .i64 (k:Int),.int .i64 0,.string ⟨s.toArray⟩,.string ⟨#[]⟩,.slice none 0 0,.int .i64 0]):=Hd (K0.out.set 3 (.string ⟨s.toArray⟩))
   have z2:=cell_of 4 K1.out.tok
   have y2:=free_of 4 K1.out.tok
   have K2:Hid (RN w ((u0.setCell ⟨w.heap.size+1,3,none⟩ (.string ⟨s.toArray⟩)).setCell ⟨w.heap.size+1,4,none⟩ (.string ⟨d.toArray⟩)) #[.int .i64 0,.int .i64 0,.int .i64 0,.string ⟨#[]⟩,.string ⟨#[]⟩,.slice none 0 0,.int .i64 0] #[.int .i64 6,.int .i64 (k:Int),.int .i64 0,.string ⟨s.toArray⟩,.string ⟨d.toArray⟩,.slice none 0 0,.int .i64 0]):=Hd (K1.out.set 4 (.string ⟨d.toArray⟩))
   have z3:=cell_of 2 K2.out.tok
   have y3:=free_of 2 K2.out.tok
   have K3:Hid (RN w (((u0.setCell ⟨w.heap.size+1,3,none⟩ (.string ⟨s.toArray⟩)).setCell ⟨w.heap.size+1,4,none⟩ (.string ⟨d.toArray⟩)).setCell ⟨w.heap.size+1,2,none⟩ (.int .i64 (t:Int))) #[.int .i64 0,.int .i64 0,.int .i64 0,.string ⟨#[]⟩,.string ⟨#[]⟩,.slice none 0 0,.int .i64 0] #[.int .i64 6,.int .i64 (k:Int),.int .i64 (t:Int),.string ⟨s.toArray⟩,.string ⟨d.toArray⟩,.slice none 0 0,.int .i64 0]):=Hd (K2.out.set 2 (.int .i64 (t:Int)))
   have JF:=Hd (K3.out.row #[.int .i64 6,.int .i64 (k:Int),.int .i64 (t:Int),.string ⟨s.toArray⟩,.string ⟨d.toArray⟩,.slice none 0 0,.int .i64 0])
   go_wp2_with (first|(refine wpList_load_row rfl _ _ rfl (w.heap.size+1) rfl _ _ _ _ K3.out.tok HU.out.2 rfl HU.out.1 ?_)|(refine wpList_store_row rfl _ _ _ rfl w.heap.size #[.int .i64 6,.int .i64 (k:Int),.int .i64 (t:Int),.string ⟨s.toArray⟩,.string ⟨d.toArray⟩,.slice none 0 0,.int .i64 0] rfl rfl _ _ K3.out.res (by kernel_rfl) rfl (by kernel_rfl) ?_))
   (try simp only[Exit.inBlock,Exit.then])
   exact bodyPost_ret (results_cell2 rfl _ _ w.heap.size _ _ _ _ rfl JF.out.res HU.out.2 rfl HU.out.1) rfl (TokPost.of none 0 0 rfl (PRd.nilR _ _) JF.out.below fun b i h=>by cases h)
 · rw[if_neg he]
   have hei:((e:Int)==0)=false:=by simp;omega
   have JA:Hid (RN w ((w.alloc (.cells #[.int .i64 0,.int .i64 0,.int .i64 0,.string ⟨#[]⟩,.string ⟨#[]⟩,.slice none 0 0,.int .i64 0] 50)).alloc (.cells #[.int .i64 6,.int .i64 (k:Int),.int .i64 0,.string ⟨#[]⟩,.string ⟨#[]⟩,.slice none 0 0,.int .i64 0] 50)) #[.int .i64 0,.int .i64 0,.int .i64 0,.string ⟨#[]⟩,.string ⟨#[]⟩,.slice none 0 0,.int .i64 0] #[.int .i64 6,.int .i64 (k:Int),.int .i64 0,.string ⟨#[]⟩,.string ⟨#[]⟩,.slice none 0 0,.int .i64 0]):=Hd (RN.start' w #[.int .i64 6,.int .i64 (k:Int),.int .i64 0,.string ⟨#[]⟩,.string ⟨#[]⟩,.slice none 0 0,.int .i64 0])
   go_enter Tryz.func13,Tryz.ntmps13
   have zc:=HC.out _ _ _ J0.out
   go_wp2_with fail
   refine(S0.out _ _ _ J0.out).mono ?_
   rintro e wq ⟨rfl,rfl⟩
   go_wp2_with fail
   refine(S1.out _ _ _ J0.out).mono ?_
   rintro e wq ⟨rfl,rfl⟩
   go_wp2_with fail
   refine(S2.out _ _ _ J0.out).mono ?_
   rintro e wq ⟨rfl,rfl⟩
   go_wp2_with fail
   refine(C.out _ _ _ JA.out).mono ?_
   rintro e0 u0 ⟨rfl,hb⟩
   have K0:=Hd (JA.out.kept hb)
   clear hb zc
   have z1:=cell_of 3 K0.out.tok
   have y1:=free_of 3 K0.out.tok
   have K1:Hid (RN w (u0.setCell ⟨w.heap.size+1,3,none⟩ (.string ⟨s.toArray⟩)) #[.int .i64 0,.int .i64 0,.int .i64 0,.string ⟨#[]⟩,.string ⟨#[]⟩,.slice none 0 0,.int .i64 0] #[.int .i64 6,.int .i64 (k:Int),.int .i64 0,.string ⟨s.toArray⟩,.string ⟨#[]⟩,.slice none 0 0,.int .i64 0]):=Hd (K0.out.set 3 (.string ⟨s.toArray⟩))
   have z2:=cell_of 4 K1.out.tok
   have y2:=free_of 4 K1.out.tok
   have K2:Hid (RN w ((u0.setCell ⟨w.heap.size+1,3,none⟩ (.string ⟨s.toArray⟩)).setCell ⟨w.heap.size+1,4,none⟩ (.string ⟨d.toArray⟩)) #[.int .i64 0,.int .i64 0,.int .i64 0,.string ⟨#[]⟩,.string ⟨#[]⟩,.slice none 0 0,.int .i64 0] #[.int .i64 6,.int .i64 (k:Int),.int .i64 0,.string ⟨s.toArray⟩,.string ⟨d.toArray⟩,.slice none 0 0,.int .i64 0]):=Hd (K1.out.set 4 (.string ⟨d.toArray⟩))
   have z3:=cell_of 2 K2.out.tok
   have y3:=free_of 2 K2.out.tok
   have K3:Hid (RN w (((u0.setCell ⟨w.heap.size+1,3,none⟩ (.string ⟨s.toArray⟩)).setCell ⟨w.heap.size+1,4,none⟩ (.string ⟨d.toArray⟩)).setCell ⟨w.heap.size+1,2,none⟩ (.int .i64 (t:Int))) #[.int .i64 0,.int .i64 0,.int .i64 0,.string ⟨#[]⟩,.string ⟨#[]⟩,.slice none 0 0,.int .i64 0] #[.int .i64 6,.int .i64 (k:Int),.int .i64 (t:Int),.string ⟨s.toArray⟩,.string ⟨d.toArray⟩,.slice none 0 0,.int .i64 0]):=Hd (K2.out.set 2 (.int .i64 (t:Int)))
   have JF:=Hd (K3.out.row #[.int .i64 0,.int .i64 0,.int .i64 0,.string ⟨#[]⟩,.string ⟨#[]⟩,.slice none 0 0,.int .i64 0])
   go_wp2_with (refine wpList_store_row rfl _ _ _ rfl w.heap.size #[.int .i64 0,.int .i64 0,.int .i64 0,.string ⟨#[]⟩,.string ⟨#[]⟩,.slice none 0 0,.int .i64 0] rfl rfl _ _ K3.out.res (by kernel_rfl) rfl (by kernel_rfl) ?_)
   (try simp only[Exit.inBlock,Exit.then])
   exact bodyPost_ret (results_cell2 rfl _ _ w.heap.size _ _ _ _ rfl JF.out.res HU.out.2 rfl HU.out.1) rfl (TokPost.no rfl JF.out.below)
theorem refNext_close (A:Option Addr)(n cap:Nat)(l:List UInt8)(k:Nat)(w:World)(h:Byt w w.heap.size A n cap l)(hm:n≤40000)(hk:k<n)(h0: [60,33,45,45].isPrefixOf (l.drop k)=false)(h1: [60,33,91,67,68,65,84,65,91].isPrefixOf (l.drop k)=false)(h2: [60,63].isPrefixOf (l.drop k)=false)(h3: [60,47].isPrefixOf (l.drop k)=true) :
 Calls Tryz.prog 13 #[.slice A n cap,.int .i64 (k:Int)] w fun e w'=>TokPost (nextOut l k) w e w':=by
 have hln:=h.length
 have HK:Hid (∀ W rs vs,RN w W rs vs→Byt W W.heap.size A n cap l):=Hd fun W rs vs hJ=>(h.below hJ.below).more hJ.below.size
 obtain⟨bb,oo,c,hA,hbB,hc,_⟩:=h.cell hk
 have HC:Hid (∀ W rs vs,RN w W rs vs→W.cell? ⟨bb,oo+k,none⟩=some (.int .u8 c.toNat)):=Hd fun W rs vs hJ=>by
  obtain⟨b2,o2,c2,e2,_,hc2,hz⟩:=(h.below hJ.below).cell hk
  rw[hA]at e2
  cases e2
  rw[hc]at hc2
  cases hc2
  exact hz
 have c0:(0:Int)≤(c.toNat:Int):=by omega
 have c9:(c.toNat:Int)≤255:=by have:=c.toNat_lt;omega
 have S0:Hid (∀ W rs vs,RN w W rs vs→Calls Tryz.prog 28 #[.slice A n cap,.int .i64 (k:Int),.string ⟨#[60,33,45,45]⟩] W fun e w'=>e= .returned (.bool false)∧W=w'):=Hd fun W rs vs hJ=>by
  have:=refAt8_c A n cap l k [60,33,45,45] W.heap.size W (HK.out W rs vs hJ) (by simp) (by omega) (by decide) (by omega)
  rwa [h0]at this
 have S1:Hid (∀ W rs vs,RN w W rs vs→Calls Tryz.prog 28 #[.slice A n cap,.int .i64 (k:Int),.string ⟨#[60,33,91,67,68,65,84,65,91]⟩] W fun e w'=>e= .returned (.bool false)∧W=w'):=Hd fun W rs vs hJ=>by
  have:=refAt8_c A n cap l k [60,33,91,67,68,65,84,65,91] W.heap.size W (HK.out W rs vs hJ) (by simp) (by omega) (by decide) (by omega)
  rwa [h1]at this
 have S2:Hid (∀ W rs vs,RN w W rs vs→Calls Tryz.prog 28 #[.slice A n cap,.int .i64 (k:Int),.string ⟨#[60,63]⟩] W fun e w'=>e= .returned (.bool false)∧W=w'):=Hd fun W rs vs hJ=>by
  have:=refAt8_c A n cap l k [60,63] W.heap.size W (HK.out W rs vs hJ) (by simp) (by omega) (by decide) (by omega)
  rwa [h2]at this
 have S3:Hid (∀ W rs vs,RN w W rs vs→Calls Tryz.prog 28 #[.slice A n cap,.int .i64 (k:Int),.string ⟨#[60,47]⟩] W fun e w'=>e= .returned (.bool true)∧W=w'):=Hd fun W rs vs hJ=>by
  have:=refAt8_c A n cap l k [60,47] W.heap.size W (HK.out W rs vs hJ) (by simp) (by omega) (by decide) (by omega)
  rwa [h3]at this
 have C:Hid (∀ W rs vs,RN w W rs vs→Calls Tryz.prog 32 #[.slice A n cap,.int .i64 (k:Int)] W fun e w'=>e= .returned (outV (closeOut l k))∧Below W.heap.size W w'):=Hd fun W rs vs hJ=>by
  have hB:=HK.out W rs vs hJ
  have:=refClose_c A n cap l k W hB hm
  have he:tagAt [] closeOut l k=closeOut l k:=by
   unfold tagAt
   rw[hln,if_neg (by omega),Int.toNat_natCast]
  rwa [he]at this
 have hR:nextOut l k=(if (readTok l k).2=0 then ({ (readTok l k).1 with fro:=(k:Int) },0) else (noTok,(readTok l k).2)):=rfl
 have hRT:readTok l k=(⟨9,0,((closeOut l k).2.1:Int),(closeOut l k).1,[],[],0⟩,(closeOut l k).2.2):=by
  unfold readTok
  rw[if_neg (by rw[h0];simp),if_neg (by rw[h1];simp),if_neg (by rw[h2];simp),if_pos h3]
 rw[hR,hRT]
 clear hR hRT
 generalize closeOut l k=o at *
 obtain⟨s,t,e⟩:=o
 unfold outV at C
 simp only at C ⊢
 have J0:=Hd (RN.start k w)
 have hi:(Tryz.prog.info? 50).map (·.size)=some 7:=by kernel_rfl
 obtain⟨sd,hu⟩:=isStruct_of (P:=Tryz.prog) (t:=50) (by kernel_rfl)
 have HU:=Hd (And.intro hi hu)
 have hk0: ¬ (k:Int)<0:=by omega
 have hk1: ¬ (n:Int)<(k:Int):=by omega
 have hk2:((k:Int)==(n:Int))=false:=by simp;omega
 have hk3:(k:Int)<(n:Int):=by omega
 have hk4:(k:Int)≤40000:=by omega
 clear h hln HK hi hu hbB hc h0 h1 h2 h3
 subst hA
 by_cases he:e=0
 · subst he
   rw[if_pos rfl]
   have JA:Hid (RN w ((w.alloc (.cells #[.int .i64 0,.int .i64 0,.int .i64 0,.string ⟨#[]⟩,.string ⟨#[]⟩,.slice none 0 0,.int .i64 0] 50)).alloc (.cells #[.int .i64 9,.int .i64 (k:Int),.int .i64 0,.string ⟨#[]⟩,.string ⟨#[]⟩,.slice none 0 0,.int .i64 0] 50)) #[.int .i64 0,.int .i64 0,.int .i64 0,.string ⟨#[]⟩,.string ⟨#[]⟩,.slice none 0 0,.int .i64 0] #[.int .i64 9,.int .i64 (k:Int),.int .i64 0,.string ⟨#[]⟩,.string ⟨#[]⟩,.slice none 0 0,.int .i64 0]):=Hd (RN.start' w #[.int .i64 9,.int .i64 (k:Int),.int .i64 0,.string ⟨#[]⟩,.string ⟨#[]⟩,.slice none 0 0,.int .i64 0])
   go_enter Tryz.func13,Tryz.ntmps13
   have zc:=HC.out _ _ _ J0.out
   go_wp2_with fail
   refine(S0.out _ _ _ J0.out).mono ?_
   rintro e wq ⟨rfl,rfl⟩
   go_wp2_with fail
   refine(S1.out _ _ _ J0.out).mono ?_
   rintro e wq ⟨rfl,rfl⟩
   go_wp2_with fail
   refine(S2.out _ _ _ J0.out).mono ?_
   rintro e wq ⟨rfl,rfl⟩
   go_wp2_with fail
   refine(S3.out _ _ _ J0.out).mono ?_
   rintro e wq ⟨rfl,rfl⟩
   go_wp2_with fail
   refine(C.out _ _ _ JA.out).mono ?_
   rintro e0 u0 ⟨rfl,hb⟩
   have K0:=Hd (JA.out.kept hb)
   clear hb zc
   have z1:=cell_of 3 K0.out.tok
   have y1:=free_of 3 K0.out.tok
   have K1:Hid (RN w (u0.setCell ⟨w.heap.size+1,3,none⟩ (.string ⟨s.toArray⟩)) #[.int .i64 0,.int .i64 0,.int .i64 0,.string ⟨#[]⟩,.string ⟨#[]⟩,.slice none 0 0,.int .i64 0] #[.int .i64 9,.int .i64 (k:Int),.int .i64 0,.string ⟨s.toArray⟩,.string ⟨#[]⟩,.slice none 0 0,.int .i64 0]):=Hd (K0.out.set 3 (.string ⟨s.toArray⟩))
   have z2:=cell_of 2 K1.out.tok
   have y2:=free_of 2 K1.out.tok
   have K2:Hid (RN w ((u0.setCell ⟨w.heap.size+1,3,none⟩ (.string ⟨s.toArray⟩)).setCell ⟨w.heap.size+1,2,none⟩ (.int .i64 (t:Int))) #[.int .i64 0,.int .i64 0,.int .i64 0,.string ⟨#[]⟩,.string ⟨#[]⟩,.slice none 0 0,.int .i64 0] #[.int .i64 9,.int .i64 (k:Int),.int .i64 (t:Int),.string ⟨s.toArray⟩,.string ⟨#[]⟩,.slice none 0 0,.int .i64 0]):=Hd (K1.out.set 2 (.int .i64 (t:Int)))
   have JF:=Hd (K2.out.row #[.int .i64 9,.int .i64 (k:Int),.int .i64 (t:Int),.string ⟨s.toArray⟩,.string ⟨#[]⟩,.slice none 0 0,.int .i64 0])
   go_wp2_with (first|(refine wpList_load_row rfl _ _ rfl (w.heap.size+1) rfl _ _ _ _ K2.out.tok HU.out.2 rfl HU.out.1 ?_)|(refine wpList_store_row rfl _ _ _ rfl w.heap.size #[.int .i64 9,.int .i64 (k:Int),.int .i64 (t:Int),.string ⟨s.toArray⟩,.string ⟨#[]⟩,.slice none 0 0,.int .i64 0] rfl rfl _ _ K2.out.res (by kernel_rfl) rfl (by kernel_rfl) ?_))
   (try simp only[Exit.inBlock,Exit.then])
   exact bodyPost_ret (results_cell2 rfl _ _ w.heap.size _ _ _ _ rfl JF.out.res HU.out.2 rfl HU.out.1) rfl (TokPost.of none 0 0 rfl (PRd.nilR _ _) JF.out.below fun b i h=>by cases h)
 · rw[if_neg he]
   have hei:((e:Int)==0)=false:=by simp;omega
   have JA:Hid (RN w ((w.alloc (.cells #[.int .i64 0,.int .i64 0,.int .i64 0,.string ⟨#[]⟩,.string ⟨#[]⟩,.slice none 0 0,.int .i64 0] 50)).alloc (.cells #[.int .i64 9,.int .i64 (k:Int),.int .i64 0,.string ⟨#[]⟩,.string ⟨#[]⟩,.slice none 0 0,.int .i64 0] 50)) #[.int .i64 0,.int .i64 0,.int .i64 0,.string ⟨#[]⟩,.string ⟨#[]⟩,.slice none 0 0,.int .i64 0] #[.int .i64 9,.int .i64 (k:Int),.int .i64 0,.string ⟨#[]⟩,.string ⟨#[]⟩,.slice none 0 0,.int .i64 0]):=Hd (RN.start' w #[.int .i64 9,.int .i64 (k:Int),.int .i64 0,.string ⟨#[]⟩,.string ⟨#[]⟩,.slice none 0 0,.int .i64 0])
   go_enter Tryz.func13,Tryz.ntmps13
   have zc:=HC.out _ _ _ J0.out
   go_wp2_with fail
   refine(S0.out _ _ _ J0.out).mono ?_
   rintro e wq ⟨rfl,rfl⟩
   go_wp2_with fail
   refine(S1.out _ _ _ J0.out).mono ?_
   rintro e wq ⟨rfl,rfl⟩
   go_wp2_with fail
   refine(S2.out _ _ _ J0.out).mono ?_
   rintro e wq ⟨rfl,rfl⟩
   go_wp2_with fail
   refine(S3.out _ _ _ J0.out).mono ?_
   rintro e wq ⟨rfl,rfl⟩
   go_wp2_with fail
   refine(C.out _ _ _ JA.out).mono ?_
   rintro e0 u0 ⟨rfl,hb⟩
   have K0:=Hd (JA.out.kept hb)
   clear hb zc
   have z1:=cell_of 3 K0.out.tok
   have y1:=free_of 3 K0.out.tok
   have K1:Hid (RN w (u0.setCell ⟨w.heap.size+1,3,none⟩ (.string ⟨s.toArray⟩)) #[.int .i64 0,.int .i64 0,.int .i64 0,.string ⟨#[]⟩,.string ⟨#[]⟩,.slice none 0 0,.int .i64 0] #[.int .i64 9,.int .i64 (k:Int),.int .i64 0,.string ⟨s.toArray⟩,.string ⟨#[]⟩,.slice none 0 0,.int .i64 0]):=Hd (K0.out.set 3 (.string ⟨s.toArray⟩))
   have z2:=cell_of 2 K1.out.tok
   have y2:=free_of 2 K1.out.tok
   have K2:Hid (RN w ((u0.setCell ⟨w.heap.size+1,3,none⟩ (.string ⟨s.toArray⟩)).setCell ⟨w.heap.size+1,2,none⟩ (.int .i64 (t:Int))) #[.int .i64 0,.int .i64 0,.int .i64 0,.string ⟨#[]⟩,.string ⟨#[]⟩,.slice none 0 0,.int .i64 0] #[.int .i64 9,.int .i64 (k:Int),.int .i64 (t:Int),.string ⟨s.toArray⟩,.string ⟨#[]⟩,.slice none 0 0,.int .i64 0]):=Hd (K1.out.set 2 (.int .i64 (t:Int)))
   have JF:=Hd (K2.out.row #[.int .i64 0,.int .i64 0,.int .i64 0,.string ⟨#[]⟩,.string ⟨#[]⟩,.slice none 0 0,.int .i64 0])
   go_wp2_with (refine wpList_store_row rfl _ _ _ rfl w.heap.size #[.int .i64 0,.int .i64 0,.int .i64 0,.string ⟨#[]⟩,.string ⟨#[]⟩,.slice none 0 0,.int .i64 0] rfl rfl _ _ K2.out.res (by kernel_rfl) rfl (by kernel_rfl) ?_)
   (try simp only[Exit.inBlock,Exit.then])
   exact bodyPost_ret (results_cell2 rfl _ _ w.heap.size _ _ _ _ rfl JF.out.res HU.out.2 rfl HU.out.1) rfl (TokPost.no rfl JF.out.below)
theorem refNext_char (A:Option Addr)(n cap:Nat)(l:List UInt8)(k:Nat)(w:World)(h:Byt w w.heap.size A n cap l)(hm:n≤40000)(hk:k<n)(h0: [60,33,45,45].isPrefixOf (l.drop k)=false)(h1: [60,33,91,67,68,65,84,65,91].isPrefixOf (l.drop k)=false)(h2: [60,63].isPrefixOf (l.drop k)=false)(h3: [60,47].isPrefixOf (l.drop k)=false)(h4: [60].isPrefixOf (l.drop k)=false)(h5: [38,35].isPrefixOf (l.drop k)=true) :
 Calls Tryz.prog 13 #[.slice A n cap,.int .i64 (k:Int)] w fun e w'=>TokPost (nextOut l k) w e w':=by
 have hln:=h.length
 have HK:Hid (∀ W rs vs,RN w W rs vs→Byt W W.heap.size A n cap l):=Hd fun W rs vs hJ=>(h.below hJ.below).more hJ.below.size
 obtain⟨bb,oo,c,hA,hbB,hc,_⟩:=h.cell hk
 have HC:Hid (∀ W rs vs,RN w W rs vs→W.cell? ⟨bb,oo+k,none⟩=some (.int .u8 c.toNat)):=Hd fun W rs vs hJ=>by
  obtain⟨b2,o2,c2,e2,_,hc2,hz⟩:=(h.below hJ.below).cell hk
  rw[hA]at e2
  cases e2
  rw[hc]at hc2
  cases hc2
  exact hz
 have c0:(0:Int)≤(c.toNat:Int):=by omega
 have c9:(c.toNat:Int)≤255:=by have:=c.toNat_lt;omega
 have S0:Hid (∀ W rs vs,RN w W rs vs→Calls Tryz.prog 28 #[.slice A n cap,.int .i64 (k:Int),.string ⟨#[60,33,45,45]⟩] W fun e w'=>e= .returned (.bool false)∧W=w'):=Hd fun W rs vs hJ=>by
  have:=refAt8_c A n cap l k [60,33,45,45] W.heap.size W (HK.out W rs vs hJ) (by simp) (by omega) (by decide) (by omega)
  rwa [h0]at this
 have S1:Hid (∀ W rs vs,RN w W rs vs→Calls Tryz.prog 28 #[.slice A n cap,.int .i64 (k:Int),.string ⟨#[60,33,91,67,68,65,84,65,91]⟩] W fun e w'=>e= .returned (.bool false)∧W=w'):=Hd fun W rs vs hJ=>by
  have:=refAt8_c A n cap l k [60,33,91,67,68,65,84,65,91] W.heap.size W (HK.out W rs vs hJ) (by simp) (by omega) (by decide) (by omega)
  rwa [h1]at this
 have S2:Hid (∀ W rs vs,RN w W rs vs→Calls Tryz.prog 28 #[.slice A n cap,.int .i64 (k:Int),.string ⟨#[60,63]⟩] W fun e w'=>e= .returned (.bool false)∧W=w'):=Hd fun W rs vs hJ=>by
  have:=refAt8_c A n cap l k [60,63] W.heap.size W (HK.out W rs vs hJ) (by simp) (by omega) (by decide) (by omega)
  rwa [h2]at this
 have S3:Hid (∀ W rs vs,RN w W rs vs→Calls Tryz.prog 28 #[.slice A n cap,.int .i64 (k:Int),.string ⟨#[60,47]⟩] W fun e w'=>e= .returned (.bool false)∧W=w'):=Hd fun W rs vs hJ=>by
  have:=refAt8_c A n cap l k [60,47] W.heap.size W (HK.out W rs vs hJ) (by simp) (by omega) (by decide) (by omega)
  rwa [h3]at this
 have b60:((c.toNat:Int)==60)=false:=by
  rw[pre_one,hc]at h4
  have:c≠60:=by simpa using h4
  have h':c.toNat≠60:=fun e=>this (UInt8.toNat_inj.1 e)
  simp;omega
 have S5:Hid (∀ W rs vs,RN w W rs vs→Calls Tryz.prog 28 #[.slice A n cap,.int .i64 (k:Int),.string ⟨#[38,35]⟩] W fun e w'=>e= .returned (.bool true)∧W=w'):=Hd fun W rs vs hJ=>by
  have:=refAt8_c A n cap l k [38,35] W.heap.size W (HK.out W rs vs hJ) (by simp) (by omega) (by decide) (by omega)
  rwa [h5]at this
 have C:Hid (∀ W rs vs,RN w W rs vs→Calls Tryz.prog 34 #[.slice A n cap,.int .i64 (k:Int)] W fun e w'=>e= .returned (numV (charOut l k))∧W=w'):=Hd fun W rs vs hJ=>by
  have hB:=HK.out W rs vs hJ
  have:=refCharR_c A n cap l k W W.heap.size hB (by omega)
  have he:charAt l k=charOut l k:=by
   unfold charAt
   rw[hln,if_neg (by omega),Int.toNat_natCast]
  rwa [he]at this
 have hR:nextOut l k=(if (readTok l k).2=0 then ({ (readTok l k).1 with fro:=(k:Int) },0) else (noTok,(readTok l k).2)):=rfl
 have hRT:readTok l k=(⟨2,0,((charOut l k).2.1:Int),[],[],[],(charOut l k).1⟩,(charOut l k).2.2):=by
  unfold readTok
  rw[if_neg (by rw[h0];simp),if_neg (by rw[h1];simp),if_neg (by rw[h2];simp),if_neg (by rw[h3];simp),if_neg (by rw[h4];simp),if_pos h5]
 rw[hR,hRT]
 clear hR hRT
 generalize charOut l k=o at *
 obtain⟨r,t,e⟩:=o
 unfold numV at C
 simp only at C ⊢
 have J0:=Hd (RN.start k w)
 have hi:(Tryz.prog.info? 50).map (·.size)=some 7:=by kernel_rfl
 obtain⟨sd,hu⟩:=isStruct_of (P:=Tryz.prog) (t:=50) (by kernel_rfl)
 have HU:=Hd (And.intro hi hu)
 have hk0: ¬ (k:Int)<0:=by omega
 have hk1: ¬ (n:Int)<(k:Int):=by omega
 have hk2:((k:Int)==(n:Int))=false:=by simp;omega
 have hk3:(k:Int)<(n:Int):=by omega
 have hk4:(k:Int)≤40000:=by omega
 clear h hln HK hi hu hbB hc h0 h1 h2 h3 h4 h5
 subst hA
 by_cases he:e=0
 · subst he
   rw[if_pos rfl]
   have KF:Hid (RN w ((w.alloc (.cells #[.int .i64 0,.int .i64 0,.int .i64 0,.string ⟨#[]⟩,.string ⟨#[]⟩,.slice none 0 0,.int .i64 0] 50)).alloc (.cells #[.int .i64 2,.int .i64 (k:Int),.int .i64 (t:Int),.string ⟨#[]⟩,.string ⟨#[]⟩,.slice none 0 0,.int .i64 r] 50)) #[.int .i64 0,.int .i64 0,.int .i64 0,.string ⟨#[]⟩,.string ⟨#[]⟩,.slice none 0 0,.int .i64 0] #[.int .i64 2,.int .i64 (k:Int),.int .i64 (t:Int),.string ⟨#[]⟩,.string ⟨#[]⟩,.slice none 0 0,.int .i64 r]):=Hd (RN.start' w #[.int .i64 2,.int .i64 (k:Int),.int .i64 (t:Int),.string ⟨#[]⟩,.string ⟨#[]⟩,.slice none 0 0,.int .i64 r])
   have JA:Hid (RN w ((w.alloc (.cells #[.int .i64 0,.int .i64 0,.int .i64 0,.string ⟨#[]⟩,.string ⟨#[]⟩,.slice none 0 0,.int .i64 0] 50)).alloc (.cells #[.int .i64 2,.int .i64 (k:Int),.int .i64 0,.string ⟨#[]⟩,.string ⟨#[]⟩,.slice none 0 0,.int .i64 0] 50)) #[.int .i64 0,.int .i64 0,.int .i64 0,.string ⟨#[]⟩,.string ⟨#[]⟩,.slice none 0 0,.int .i64 0] #[.int .i64 2,.int .i64 (k:Int),.int .i64 0,.string ⟨#[]⟩,.string ⟨#[]⟩,.slice none 0 0,.int .i64 0]):=Hd (RN.start' w #[.int .i64 2,.int .i64 (k:Int),.int .i64 0,.string ⟨#[]⟩,.string ⟨#[]⟩,.slice none 0 0,.int .i64 0])
   go_enter Tryz.func13,Tryz.ntmps13
   have zc:=HC.out _ _ _ J0.out
   go_wp2_with fail
   refine(S0.out _ _ _ J0.out).mono ?_
   rintro e wq ⟨rfl,rfl⟩
   go_wp2_with fail
   refine(S1.out _ _ _ J0.out).mono ?_
   rintro e wq ⟨rfl,rfl⟩
   go_wp2_with fail
   refine(S2.out _ _ _ J0.out).mono ?_
   rintro e wq ⟨rfl,rfl⟩
   go_wp2_with fail
   refine(S3.out _ _ _ J0.out).mono ?_
   rintro e wq ⟨rfl,rfl⟩
   go_wp2_with fail
   refine(S5.out _ _ _ J0.out).mono ?_
   rintro e wq ⟨rfl,rfl⟩
   go_wp2_with fail
   refine(C.out _ _ _ JA.out).mono ?_
   rintro e0 wq ⟨rfl,hwq⟩
   subst hwq
   clear zc
   have JF:=Hd (KF.out.row #[.int .i64 2,.int .i64 (k:Int),.int .i64 (t:Int),.string ⟨#[]⟩,.string ⟨#[]⟩,.slice none 0 0,.int .i64 r])
   go_wp2_with (first|(refine wpList_load_row rfl _ _ rfl (w.heap.size+1) rfl _ _ _ _ KF.out.tok HU.out.2 rfl HU.out.1 ?_)|(refine wpList_store_row rfl _ _ _ rfl w.heap.size #[.int .i64 2,.int .i64 (k:Int),.int .i64 (t:Int),.string ⟨#[]⟩,.string ⟨#[]⟩,.slice none 0 0,.int .i64 r] rfl rfl _ _ KF.out.res (by kernel_rfl) rfl (by kernel_rfl) ?_))
   (try simp only[Exit.inBlock,Exit.then])
   exact bodyPost_ret (results_cell2 rfl _ _ w.heap.size _ _ _ _ rfl JF.out.res HU.out.2 rfl HU.out.1) rfl (TokPost.of none 0 0 rfl (PRd.nilR _ _) JF.out.below fun b i h=>by cases h)
 · rw[if_neg he]
   have hei:((e:Int)==0)=false:=by simp;omega
   have KF:Hid (RN w ((w.alloc (.cells #[.int .i64 0,.int .i64 0,.int .i64 0,.string ⟨#[]⟩,.string ⟨#[]⟩,.slice none 0 0,.int .i64 0] 50)).alloc (.cells #[.int .i64 2,.int .i64 (k:Int),.int .i64 (t:Int),.string ⟨#[]⟩,.string ⟨#[]⟩,.slice none 0 0,.int .i64 r] 50)) #[.int .i64 0,.int .i64 0,.int .i64 0,.string ⟨#[]⟩,.string ⟨#[]⟩,.slice none 0 0,.int .i64 0] #[.int .i64 2,.int .i64 (k:Int),.int .i64 (t:Int),.string ⟨#[]⟩,.string ⟨#[]⟩,.slice none 0 0,.int .i64 r]):=Hd (RN.start' w #[.int .i64 2,.int .i64 (k:Int),.int .i64 (t:Int),.string ⟨#[]⟩,.string ⟨#[]⟩,.slice none 0 0,.int .i64 r])
   have JA:Hid (RN w ((w.alloc (.cells #[.int .i64 0,.int .i64 0,.int .i64 0,.string ⟨#[]⟩,.string ⟨#[]⟩,.slice none 0 0,.int .i64 0] 50)).alloc (.cells #[.int .i64 2,.int .i64 (k:Int),.int .i64 0,.string ⟨#[]⟩,.string ⟨#[]⟩,.slice none 0 0,.int .i64 0] 50)) #[.int .i64 0,.int .i64 0,.int .i64 0,.string ⟨#[]⟩,.string ⟨#[]⟩,.slice none 0 0,.int .i64 0] #[.int .i64 2,.int .i64 (k:Int),.int .i64 0,.string ⟨#[]⟩,.string ⟨#[]⟩,.slice none 0 0,.int .i64 0]):=Hd (RN.start' w #[.int .i64 2,.int .i64 (k:Int),.int .i64 0,.string ⟨#[]⟩,.string ⟨#[]⟩,.slice none 0 0,.int .i64 0])
   go_enter Tryz.func13,Tryz.ntmps13
   have zc:=HC.out _ _ _ J0.out
   go_wp2_with fail
   refine(S0.out _ _ _ J0.out).mono ?_
   rintro e wq ⟨rfl,rfl⟩
   go_wp2_with fail
   refine(S1.out _ _ _ J0.out).mono ?_
   rintro e wq ⟨rfl,rfl⟩
   go_wp2_with fail
   refine(S2.out _ _ _ J0.out).mono ?_
   rintro e wq ⟨rfl,rfl⟩
   go_wp2_with fail
   refine(S3.out _ _ _ J0.out).mono ?_
   rintro e wq ⟨rfl,rfl⟩
   go_wp2_with fail
   refine(S5.out _ _ _ J0.out).mono ?_
   rintro e wq ⟨rfl,rfl⟩
   go_wp2_with fail
   refine(C.out _ _ _ JA.out).mono ?_
   rintro e0 wq ⟨rfl,hwq⟩
   subst hwq
   clear zc
   have JF:=Hd (KF.out.row #[.int .i64 0,.int .i64 0,.int .i64 0,.string ⟨#[]⟩,.string ⟨#[]⟩,.slice none 0 0,.int .i64 0])
   go_wp2_with (refine wpList_store_row rfl _ _ _ rfl w.heap.size #[.int .i64 0,.int .i64 0,.int .i64 0,.string ⟨#[]⟩,.string ⟨#[]⟩,.slice none 0 0,.int .i64 0] rfl rfl _ _ KF.out.res (by kernel_rfl) rfl (by kernel_rfl) ?_)
   (try simp only[Exit.inBlock,Exit.then])
   exact bodyPost_ret (results_cell2 rfl _ _ w.heap.size _ _ _ _ rfl JF.out.res HU.out.2 rfl HU.out.1) rfl (TokPost.no rfl JF.out.below)
theorem refNext_ref (A:Option Addr)(n cap:Nat)(l:List UInt8)(k:Nat)(w:World)(h:Byt w w.heap.size A n cap l)(hm:n≤40000)(hk:k<n)(h0: [60,33,45,45].isPrefixOf (l.drop k)=false)(h1: [60,33,91,67,68,65,84,65,91].isPrefixOf (l.drop k)=false)(h2: [60,63].isPrefixOf (l.drop k)=false)(h3: [60,47].isPrefixOf (l.drop k)=false)(h4: [60].isPrefixOf (l.drop k)=false)(h5: [38,35].isPrefixOf (l.drop k)=false)(h6: [38].isPrefixOf (l.drop k)=true) :
 Calls Tryz.prog 13 #[.slice A n cap,.int .i64 (k:Int)] w fun e w'=>TokPost (nextOut l k) w e w':=by
 have hln:=h.length
 have HK:Hid (∀ W rs vs,RN w W rs vs→Byt W W.heap.size A n cap l):=Hd fun W rs vs hJ=>(h.below hJ.below).more hJ.below.size
 obtain⟨bb,oo,c,hA,hbB,hc,_⟩:=h.cell hk
 have HC:Hid (∀ W rs vs,RN w W rs vs→W.cell? ⟨bb,oo+k,none⟩=some (.int .u8 c.toNat)):=Hd fun W rs vs hJ=>by
  obtain⟨b2,o2,c2,e2,_,hc2,hz⟩:=(h.below hJ.below).cell hk
  rw[hA]at e2
  cases e2
  rw[hc]at hc2
  cases hc2
  exact hz
 have c0:(0:Int)≤(c.toNat:Int):=by omega
 have c9:(c.toNat:Int)≤255:=by have:=c.toNat_lt;omega
 have S0:Hid (∀ W rs vs,RN w W rs vs→Calls Tryz.prog 28 #[.slice A n cap,.int .i64 (k:Int),.string ⟨#[60,33,45,45]⟩] W fun e w'=>e= .returned (.bool false)∧W=w'):=Hd fun W rs vs hJ=>by
  have:=refAt8_c A n cap l k [60,33,45,45] W.heap.size W (HK.out W rs vs hJ) (by simp) (by omega) (by decide) (by omega)
  rwa [h0]at this
 have S1:Hid (∀ W rs vs,RN w W rs vs→Calls Tryz.prog 28 #[.slice A n cap,.int .i64 (k:Int),.string ⟨#[60,33,91,67,68,65,84,65,91]⟩] W fun e w'=>e= .returned (.bool false)∧W=w'):=Hd fun W rs vs hJ=>by
  have:=refAt8_c A n cap l k [60,33,91,67,68,65,84,65,91] W.heap.size W (HK.out W rs vs hJ) (by simp) (by omega) (by decide) (by omega)
  rwa [h1]at this
 have S2:Hid (∀ W rs vs,RN w W rs vs→Calls Tryz.prog 28 #[.slice A n cap,.int .i64 (k:Int),.string ⟨#[60,63]⟩] W fun e w'=>e= .returned (.bool false)∧W=w'):=Hd fun W rs vs hJ=>by
  have:=refAt8_c A n cap l k [60,63] W.heap.size W (HK.out W rs vs hJ) (by simp) (by omega) (by decide) (by omega)
  rwa [h2]at this
 have S3:Hid (∀ W rs vs,RN w W rs vs→Calls Tryz.prog 28 #[.slice A n cap,.int .i64 (k:Int),.string ⟨#[60,47]⟩] W fun e w'=>e= .returned (.bool false)∧W=w'):=Hd fun W rs vs hJ=>by
  have:=refAt8_c A n cap l k [60,47] W.heap.size W (HK.out W rs vs hJ) (by simp) (by omega) (by decide) (by omega)
  rwa [h3]at this
 have b60:((c.toNat:Int)==60)=false:=by
  rw[pre_one,hc]at h4
  have:c≠60:=by simpa using h4
  have h':c.toNat≠60:=fun e=>this (UInt8.toNat_inj.1 e)
  simp;omega
 have S5:Hid (∀ W rs vs,RN w W rs vs→Calls Tryz.prog 28 #[.slice A n cap,.int .i64 (k:Int),.string ⟨#[38,35]⟩] W fun e w'=>e= .returned (.bool false)∧W=w'):=Hd fun W rs vs hJ=>by
  have:=refAt8_c A n cap l k [38,35] W.heap.size W (HK.out W rs vs hJ) (by simp) (by omega) (by decide) (by omega)
  rwa [h5]at this
 have b38:((c.toNat:Int)==38)=true:=by
  rw[pre_one,hc]at h6
  have:c=38:=by simpa using h6
  subst this
  rfl
 have C:Hid (∀ W rs vs,RN w W rs vs→Calls Tryz.prog 35 #[.slice A n cap,.int .i64 (k:Int),.int .u8 38] W fun e w'=>e= .returned (outV (refOut 38 l k))∧Below W.heap.size W w'):=Hd fun W rs vs hJ=>by
  have hB:=HK.out W rs vs hJ
  have:=refEntityAt_c A n cap l k 38 W hB (by omega)
  have he:refAt 38 l k=refOut 38 l k:=by
   unfold refAt
   rw[hln,if_neg (by omega),Int.toNat_natCast]
  rwa [he]at this
 have hR:nextOut l k=(if (readTok l k).2=0 then ({ (readTok l k).1 with fro:=(k:Int) },0) else (noTok,(readTok l k).2)):=rfl
 have hRT:readTok l k=(⟨3,0,((refOut 38 l k).2.1:Int),(refOut 38 l k).1,[],[],0⟩,(refOut 38 l k).2.2):=by
  unfold readTok
  rw[if_neg (by rw[h0];simp),if_neg (by rw[h1];simp),if_neg (by rw[h2];simp),if_neg (by rw[h3];simp),if_neg (by rw[h4];simp),if_neg (by rw[h5];simp),if_pos h6]
 rw[hR,hRT]
 clear hR hRT
 generalize refOut 38 l k=o at *
 obtain⟨s,t,e⟩:=o
 unfold outV at C
 simp only at C ⊢
 have J0:=Hd (RN.start k w)
 have hi:(Tryz.prog.info? 50).map (·.size)=some 7:=by kernel_rfl
 obtain⟨sd,hu⟩:=isStruct_of (P:=Tryz.prog) (t:=50) (by kernel_rfl)
 have HU:=Hd (And.intro hi hu)
 have hk0: ¬ (k:Int)<0:=by omega
 have hk1: ¬ (n:Int)<(k:Int):=by omega
 have hk2:((k:Int)==(n:Int))=false:=by simp;omega
 have hk3:(k:Int)<(n:Int):=by omega
 have hk4:(k:Int)≤40000:=by omega
 clear h hln HK hi hu hbB hc h0 h1 h2 h3 h4 h5 h6
 subst hA
 by_cases he:e=0
 · subst he
   rw[if_pos rfl]
   have JA:Hid (RN w ((w.alloc (.cells #[.int .i64 0,.int .i64 0,.int .i64 0,.string ⟨#[]⟩,.string ⟨#[]⟩,.slice none 0 0,.int .i64 0] 50)).alloc (.cells #[.int .i64 3,.int .i64 (k:Int),.int .i64 0,.string ⟨#[]⟩,.string ⟨#[]⟩,.slice none 0 0,.int .i64 0] 50)) #[.int .i64 0,.int .i64 0,.int .i64 0,.string ⟨#[]⟩,.string ⟨#[]⟩,.slice none 0 0,.int .i64 0] #[.int .i64 3,.int .i64 (k:Int),.int .i64 0,.string ⟨#[]⟩,.string ⟨#[]⟩,.slice none 0 0,.int .i64 0]):=Hd (RN.start' w #[.int .i64 3,.int .i64 (k:Int),.int .i64 0,.string ⟨#[]⟩,.string ⟨#[]⟩,.slice none 0 0,.int .i64 0])
   go_enter Tryz.func13,Tryz.ntmps13
   have zc:=HC.out _ _ _ J0.out
   go_wp2_with fail
   refine(S0.out _ _ _ J0.out).mono ?_
   rintro e wq ⟨rfl,rfl⟩
   go_wp2_with fail
   refine(S1.out _ _ _ J0.out).mono ?_
   rintro e wq ⟨rfl,rfl⟩
   go_wp2_with fail
   refine(S2.out _ _ _ J0.out).mono ?_
   rintro e wq ⟨rfl,rfl⟩
   go_wp2_with fail
   refine(S3.out _ _ _ J0.out).mono ?_
   rintro e wq ⟨rfl,rfl⟩
   go_wp2_with fail
   refine(S5.out _ _ _ J0.out).mono ?_
   rintro e wq ⟨rfl,rfl⟩
   go_wp2_with fail
   refine(C.out _ _ _ JA.out).mono ?_
   rintro e0 u0 ⟨rfl,hb⟩
   have K0:=Hd (JA.out.kept hb)
   clear hb zc
   have z1:=cell_of 3 K0.out.tok
   have y1:=free_of 3 K0.out.tok
   have K1:Hid (RN w (u0.setCell ⟨w.heap.size+1,3,none⟩ (.string ⟨s.toArray⟩)) #[.int .i64 0,.int .i64 0,.int .i64 0,.string ⟨#[]⟩,.string ⟨#[]⟩,.slice none 0 0,.int .i64 0] #[.int .i64 3,.int .i64 (k:Int),.int .i64 0,.string ⟨s.toArray⟩,.string ⟨#[]⟩,.slice none 0 0,.int .i64 0]):=Hd (K0.out.set 3 (.string ⟨s.toArray⟩))
   have z2:=cell_of 2 K1.out.tok
   have y2:=free_of 2 K1.out.tok
   have K2:Hid (RN w ((u0.setCell ⟨w.heap.size+1,3,none⟩ (.string ⟨s.toArray⟩)).setCell ⟨w.heap.size+1,2,none⟩ (.int .i64 (t:Int))) #[.int .i64 0,.int .i64 0,.int .i64 0,.string ⟨#[]⟩,.string ⟨#[]⟩,.slice none 0 0,.int .i64 0] #[.int .i64 3,.int .i64 (k:Int),.int .i64 (t:Int),.string ⟨s.toArray⟩,.string ⟨#[]⟩,.slice none 0 0,.int .i64 0]):=Hd (K1.out.set 2 (.int .i64 (t:Int)))
   have JF:=Hd (K2.out.row #[.int .i64 3,.int .i64 (k:Int),.int .i64 (t:Int),.string ⟨s.toArray⟩,.string ⟨#[]⟩,.slice none 0 0,.int .i64 0])
   go_wp2_with (first|(refine wpList_load_row rfl _ _ rfl (w.heap.size+1) rfl _ _ _ _ K2.out.tok HU.out.2 rfl HU.out.1 ?_)|(refine wpList_store_row rfl _ _ _ rfl w.heap.size #[.int .i64 3,.int .i64 (k:Int),.int .i64 (t:Int),.string ⟨s.toArray⟩,.string ⟨#[]⟩,.slice none 0 0,.int .i64 0] rfl rfl _ _ K2.out.res (by kernel_rfl) rfl (by kernel_rfl) ?_))
   (try simp only[Exit.inBlock,Exit.then])
   exact bodyPost_ret (results_cell2 rfl _ _ w.heap.size _ _ _ _ rfl JF.out.res HU.out.2 rfl HU.out.1) rfl (TokPost.of none 0 0 rfl (PRd.nilR _ _) JF.out.below fun b i h=>by cases h)
 · rw[if_neg he]
   have hei:((e:Int)==0)=false:=by simp;omega
   have JA:Hid (RN w ((w.alloc (.cells #[.int .i64 0,.int .i64 0,.int .i64 0,.string ⟨#[]⟩,.string ⟨#[]⟩,.slice none 0 0,.int .i64 0] 50)).alloc (.cells #[.int .i64 3,.int .i64 (k:Int),.int .i64 0,.string ⟨#[]⟩,.string ⟨#[]⟩,.slice none 0 0,.int .i64 0] 50)) #[.int .i64 0,.int .i64 0,.int .i64 0,.string ⟨#[]⟩,.string ⟨#[]⟩,.slice none 0 0,.int .i64 0] #[.int .i64 3,.int .i64 (k:Int),.int .i64 0,.string ⟨#[]⟩,.string ⟨#[]⟩,.slice none 0 0,.int .i64 0]):=Hd (RN.start' w #[.int .i64 3,.int .i64 (k:Int),.int .i64 0,.string ⟨#[]⟩,.string ⟨#[]⟩,.slice none 0 0,.int .i64 0])
   go_enter Tryz.func13,Tryz.ntmps13
   have zc:=HC.out _ _ _ J0.out
   go_wp2_with fail
   refine(S0.out _ _ _ J0.out).mono ?_
   rintro e wq ⟨rfl,rfl⟩
   go_wp2_with fail
   refine(S1.out _ _ _ J0.out).mono ?_
   rintro e wq ⟨rfl,rfl⟩
   go_wp2_with fail
   refine(S2.out _ _ _ J0.out).mono ?_
   rintro e wq ⟨rfl,rfl⟩
   go_wp2_with fail
   refine(S3.out _ _ _ J0.out).mono ?_
   rintro e wq ⟨rfl,rfl⟩
   go_wp2_with fail
   refine(S5.out _ _ _ J0.out).mono ?_
   rintro e wq ⟨rfl,rfl⟩
   go_wp2_with fail
   refine(C.out _ _ _ JA.out).mono ?_
   rintro e0 u0 ⟨rfl,hb⟩
   have K0:=Hd (JA.out.kept hb)
   clear hb zc
   have z1:=cell_of 3 K0.out.tok
   have y1:=free_of 3 K0.out.tok
   have K1:Hid (RN w (u0.setCell ⟨w.heap.size+1,3,none⟩ (.string ⟨s.toArray⟩)) #[.int .i64 0,.int .i64 0,.int .i64 0,.string ⟨#[]⟩,.string ⟨#[]⟩,.slice none 0 0,.int .i64 0] #[.int .i64 3,.int .i64 (k:Int),.int .i64 0,.string ⟨s.toArray⟩,.string ⟨#[]⟩,.slice none 0 0,.int .i64 0]):=Hd (K0.out.set 3 (.string ⟨s.toArray⟩))
   have z2:=cell_of 2 K1.out.tok
   have y2:=free_of 2 K1.out.tok
   have K2:Hid (RN w ((u0.setCell ⟨w.heap.size+1,3,none⟩ (.string ⟨s.toArray⟩)).setCell ⟨w.heap.size+1,2,none⟩ (.int .i64 (t:Int))) #[.int .i64 0,.int .i64 0,.int .i64 0,.string ⟨#[]⟩,.string ⟨#[]⟩,.slice none 0 0,.int .i64 0] #[.int .i64 3,.int .i64 (k:Int),.int .i64 (t:Int),.string ⟨s.toArray⟩,.string ⟨#[]⟩,.slice none 0 0,.int .i64 0]):=Hd (K1.out.set 2 (.int .i64 (t:Int)))
   have JF:=Hd (K2.out.row #[.int .i64 0,.int .i64 0,.int .i64 0,.string ⟨#[]⟩,.string ⟨#[]⟩,.slice none 0 0,.int .i64 0])
   go_wp2_with (refine wpList_store_row rfl _ _ _ rfl w.heap.size #[.int .i64 0,.int .i64 0,.int .i64 0,.string ⟨#[]⟩,.string ⟨#[]⟩,.slice none 0 0,.int .i64 0] rfl rfl _ _ K2.out.res (by kernel_rfl) rfl (by kernel_rfl) ?_)
   (try simp only[Exit.inBlock,Exit.then])
   exact bodyPost_ret (results_cell2 rfl _ _ w.heap.size _ _ _ _ rfl JF.out.res HU.out.2 rfl HU.out.1) rfl (TokPost.no rfl JF.out.below)
end Go.Proofs.YtbafljibbabnaaaGreatDoor
