/- Texts of ours, joined: Tok4b. -/
import Derived.Test.YtbafljibbabnaaaGreatDoorQ38
namespace Go.Proofs.YtbafljibbabnaaaGreatDoor
open Go.ChangeShapes Go.WideShapes Go.ChangeAt Go.RowKit
set_option linter.unusedVariables false
set_option maxRecDepth 100000
set_option maxHeartbeats 32000000
theorem refNext_open (A:Option Addr)(n cap:Nat)(l:List UInt8)(k:Nat)(w:World)(h:Byt w w.heap.size A n cap l)(hm:n≤40000)(hk:k<n)(h0: [60,33,45,45].isPrefixOf (l.drop k)=false)(h1: [60,33,91,67,68,65,84,65,91].isPrefixOf (l.drop k)=false)(h2: [60,63].isPrefixOf (l.drop k)=false)(h3: [60,47].isPrefixOf (l.drop k)=false)(h4: [60].isPrefixOf (l.drop k)=true) :
 Calls Tryz.prog 13 #[.slice A n cap,.int .i64 (k:Int)] w fun e w'=>TokPost (nextOut l k) w e w':=by
 have hln:=h.length
 have HK:Hid (∀ W rs vs,RN w W rs vs→Byt W W.heap.size A n cap l):=Hd fun W rs vs hJ=>(h.below hJ.below).more hJ.below.size
 obtain⟨bb,oo,c,hA,hbB,hc,_⟩:=h.cell hk
 have HC:Hid (∀ W rs vs,RN w W rs vs→W.cell? ⟨bb,oo+k,none⟩=some (.int .u8 c.toNat)):=Hd fun W rs vs hJ=>by
  obtain⟨b2,o2,c2,e2,_,hc2,hz⟩:=(h.below hJ.below).cell hk
  rw[hA]at e2
  cases e2
  rw[hc]at hc2
  cases hc2
  exact hz
 have c0:(0:Int)≤(c.toNat:Int):=by omega
 have c9:(c.toNat:Int)≤255:=by have:=c.toNat_lt;omega
 have S0:Hid (∀ W rs vs,RN w W rs vs→Calls Tryz.prog 28 #[.slice A n cap,.int .i64 (k:Int),.string ⟨#[60,33,45,45]⟩] W fun e w'=>e= .returned (.bool false)∧W=w'):=Hd fun W rs vs hJ=>by
  have:=refAt8_c A n cap l k [60,33,45,45] W.heap.size W (HK.out W rs vs hJ) (by simp) (by omega) (by decide) (by omega)
  rwa [h0]at this
 have S1:Hid (∀ W rs vs,RN w W rs vs→Calls Tryz.prog 28 #[.slice A n cap,.int .i64 (k:Int),.string ⟨#[60,33,91,67,68,65,84,65,91]⟩] W fun e w'=>e= .returned (.bool false)∧W=w'):=Hd fun W rs vs hJ=>by
  have:=refAt8_c A n cap l k [60,33,91,67,68,65,84,65,91] W.heap.size W (HK.out W rs vs hJ) (by simp) (by omega) (by decide) (by omega)
  rwa [h1]at this
 have S2:Hid (∀ W rs vs,RN w W rs vs→Calls Tryz.prog 28 #[.slice A n cap,.int .i64 (k:Int),.string ⟨#[60,63]⟩] W fun e w'=>e= .returned (.bool false)∧W=w'):=Hd fun W rs vs hJ=>by
  have:=refAt8_c A n cap l k [60,63] W.heap.size W (HK.out W rs vs hJ) (by simp) (by omega) (by decide) (by omega)
  rwa [h2]at this
 have S3:Hid (∀ W rs vs,RN w W rs vs→Calls Tryz.prog 28 #[.slice A n cap,.int .i64 (k:Int),.string ⟨#[60,47]⟩] W fun e w'=>e= .returned (.bool false)∧W=w'):=Hd fun W rs vs hJ=>by
  have:=refAt8_c A n cap l k [60,47] W.heap.size W (HK.out W rs vs hJ) (by simp) (by omega) (by decide) (by omega)
  rwa [h3]at this
 have b60:((c.toNat:Int)==60)=true:=by
  rw[pre_one,hc]at h4
  have:c=60:=by simpa using h4
  subst this
  rfl
 have C:Hid (∀ W rs vs,RN w W rs vs→Calls Tryz.prog 33 #[.slice A n cap,.int .i64 (k:Int)] W fun e w'=>OpenPostF (openOut l k) W e w'):=Hd fun W rs vs hJ=>by
  have:=refOpenF_c A n cap l k W (HK.out W rs vs hJ) hm
  have he:tagAt noTag openOut l k=openOut l k:=by
   unfold tagAt
   rw[hln,if_neg (by omega),Int.toNat_natCast]
  rwa [he]at this
 have hR:nextOut l k=(if (readTok l k).2=0 then ({ (readTok l k).1 with fro:=(k:Int) },0) else (noTok,(readTok l k).2)):=rfl
 have hRT:readTok l k=(⟨if (openOut l k).1.empty=true then 8 else 7,0,((openOut l k).2.1:Int),(openOut l k).1.name,[],(openOut l k).1.pairs,0⟩,(openOut l k).2.2):=by
  unfold readTok
  rw[if_neg (by rw[h0];simp),if_neg (by rw[h1];simp),if_neg (by rw[h2];simp),if_neg (by rw[h3];simp),if_pos h4]
 rw[hR,hRT]
 clear hR hRT
 generalize openOut l k=o at *
 obtain⟨⟨s,ps,em⟩,t,e⟩:=o
 simp only at C ⊢
 have J0:=Hd (RN.start k w)
 have hi:(Tryz.prog.info? 50).map (·.size)=some 7:=by kernel_rfl
 obtain⟨sd,hu⟩:=isStruct_of (P:=Tryz.prog) (t:=50) (by kernel_rfl)
 have HU:=Hd (And.intro hi hu)
 have hk0: ¬ (k:Int)<0:=by omega
 have hk1: ¬ (n:Int)<(k:Int):=by omega
 have hk2:((k:Int)==(n:Int))=false:=by simp;omega
 have hk3:(k:Int)<(n:Int):=by omega
 have hk4:(k:Int)≤40000:=by omega
 clear h hln HK hi hu hbB hc h0 h1 h2 h3 h4
 subst hA
 cases em
 · by_cases he:e=0
   · subst he
     rw[if_pos rfl]
     simp only[Bool.false_eq_true,if_false]
     go_enter Tryz.func13,Tryz.ntmps13
     have zc:=HC.out _ _ _ J0.out
     go_wp2_with fail
     refine(S0.out _ _ _ J0.out).mono ?_
     rintro e wq ⟨rfl,rfl⟩
     go_wp2_with fail
     refine(S1.out _ _ _ J0.out).mono ?_
     rintro e wq ⟨rfl,rfl⟩
     go_wp2_with fail
     refine(S2.out _ _ _ J0.out).mono ?_
     rintro e wq ⟨rfl,rfl⟩
     go_wp2_with fail
     refine(S3.out _ _ _ J0.out).mono ?_
     rintro e wq ⟨rfl,rfl⟩
     go_wp2_with fail
     refine(C.out _ _ _ J0.out).mono ?_
     rintro e0 u0 ⟨PA,pn,pc,rfl,hpr,hb,hlo⟩
     have K0:=J0.out.kept hb
     have ka:=(Below.refl _ u0).alloc (Nat.le_refl _) (.cells #[.string ⟨s.toArray⟩,.slice PA pn pc,.bool false] 88)
     have K1:=Hd (K0.kept ka)
     have hq:=hp_new u0 (.cells #[.string ⟨s.toArray⟩,.slice PA pn pc,.bool false] 88)
     have HP:=Hd (And.intro (hpr.below ka) (fun b i h=>Nat.lt_of_lt_of_le J0.out.size (hlo b i h)))
     have hlt:=K0.size
     clear hpr hb hlo K0 ka zc
     go_wp2_with fail
     generalize hv:u0.alloc (.cells #[.string ⟨s.toArray⟩,.slice PA pn pc,.bool false] 88)=v0 at *
     have hvs:v0.heap.size=u0.heap.size+1:=by rw[← hv,World.size_alloc]
     clear hv
     have zt0:=cell_of 0 hq
     have zt1:=cell_of 1 hq
     have zt2:=cell_of 2 hq
     have z0:=cell_of 0 K1.out.tok
     have y0:=free_of 0 K1.out.tok
     have z3:=cell_of 3 K1.out.tok
     have y3:=free_of 3 K1.out.tok
     have z5:=cell_of 5 K1.out.tok
     have y5:=free_of 5 K1.out.tok
     have z2:=cell_of 2 K1.out.tok
     have y2:=free_of 2 K1.out.tok
     go_region
     have KU:Hid (RN w ((((v0.setCell ⟨w.heap.size+1,0,none⟩ (.int .i64 7)).setCell ⟨w.heap.size+1,3,none⟩ (.string ⟨s.toArray⟩)).setCell ⟨w.heap.size+1,5,none⟩ (.slice PA pn pc)).setCell ⟨w.heap.size+1,2,none⟩ (.int .i64 (t:Int))).drew #[.int .i64 0,.int .i64 0,.int .i64 0,.string ⟨#[]⟩,.string ⟨#[]⟩,.slice none 0 0,.int .i64 0] #[.int .i64 7,.int .i64 (k:Int),.int .i64 (t:Int),.string ⟨s.toArray⟩,.string ⟨#[]⟩,.slice PA pn pc,.int .i64 0]):=Hd (((((K1.out.set 0 (.int .i64 7)).set 3 (.string ⟨s.toArray⟩)).set 5 (.slice PA pn pc)).set 2 (.int .i64 (t:Int))).drewN 1)
     have hUo: ∀ b,b≠w.heap.size+1→(((((v0.setCell ⟨w.heap.size+1,0,none⟩ (.int .i64 7)).setCell ⟨w.heap.size+1,3,none⟩ (.string ⟨s.toArray⟩)).setCell ⟨w.heap.size+1,5,none⟩ (.slice PA pn pc)).setCell ⟨w.heap.size+1,2,none⟩ (.int .i64 (t:Int))).drew).heap[b]? =v0.heap[b]? :=fun b hb=>by
      show((((v0.setCell ⟨w.heap.size+1,0,none⟩ (.int .i64 7)).setCell ⟨w.heap.size+1,3,none⟩ (.string ⟨s.toArray⟩)).setCell ⟨w.heap.size+1,5,none⟩ (.slice PA pn pc)).setCell ⟨w.heap.size+1,2,none⟩ (.int .i64 (t:Int))).heap[b]? =v0.heap[b]?
      rw[hp_other (by omega),hp_other (by omega),hp_other (by omega),hp_other (by omega)]
     have hUs:(((((v0.setCell ⟨w.heap.size+1,0,none⟩ (.int .i64 7)).setCell ⟨w.heap.size+1,3,none⟩ (.string ⟨s.toArray⟩)).setCell ⟨w.heap.size+1,5,none⟩ (.slice PA pn pc)).setCell ⟨w.heap.size+1,2,none⟩ (.int .i64 (t:Int))).drew).heap.size=v0.heap.size:=by
      show((((v0.setCell ⟨w.heap.size+1,0,none⟩ (.int .i64 7)).setCell ⟨w.heap.size+1,3,none⟩ (.string ⟨s.toArray⟩)).setCell ⟨w.heap.size+1,5,none⟩ (.slice PA pn pc)).setCell ⟨w.heap.size+1,2,none⟩ (.int .i64 (t:Int))).heap.size=v0.heap.size
      simp
     clear zt0 zt1 zt2 z0 y0 z3 y3 z5 y5 z2 y2
     generalize ((((v0.setCell ⟨w.heap.size+1,0,none⟩ (.int .i64 7)).setCell ⟨w.heap.size+1,3,none⟩ (.string ⟨s.toArray⟩)).setCell ⟨w.heap.size+1,5,none⟩ (.slice PA pn pc)).setCell ⟨w.heap.size+1,2,none⟩ (.int .i64 (t:Int))).drew=U at *
     have zt2:=cell_of 2 ((hUo u0.heap.size (by omega)).trans hq)
     have KV:=KU
     have JF:=Hd (KV.out.row #[.int .i64 7,.int .i64 (k:Int),.int .i64 (t:Int),.string ⟨s.toArray⟩,.string ⟨#[]⟩,.slice PA pn pc,.int .i64 0])
     go_wp2_with (first|(refine wpList_load_row rfl _ _ rfl (w.heap.size+1) rfl _ _ _ _ KV.out.tok HU.out.2 rfl HU.out.1 ?_)|(refine wpList_store_row rfl _ _ _ rfl w.heap.size #[.int .i64 7,.int .i64 (k:Int),.int .i64 (t:Int),.string ⟨s.toArray⟩,.string ⟨#[]⟩,.slice PA pn pc,.int .i64 0] rfl rfl _ _ KV.out.res (by kernel_rfl) rfl (by kernel_rfl) ?_))
     (try simp only[Exit.inBlock,Exit.then])
     refine bodyPost_ret (results_cell2 rfl _ _ w.heap.size _ _ _ _ rfl JF.out.res HU.out.2 rfl HU.out.1) rfl (TokPost.of PA pn pc rfl (HP.out.1.move ?_ ?_) JF.out.below fun b i h=>Nat.le_of_lt (Nat.lt_of_succ_lt (HP.out.2 b i h)))
     · simp[World.setRow];omega
     · intro b' i' hA hb'
       have hlt:=HP.out.2 b' i' hA
       rw[setRow_at _ _ _ _ (by omega),hUo b' (by omega)]
   · rw[if_neg he]
     have hei:((e:Int)==0)=false:=by simp;omega
     go_enter Tryz.func13,Tryz.ntmps13
     have zc:=HC.out _ _ _ J0.out
     go_wp2_with fail
     refine(S0.out _ _ _ J0.out).mono ?_
     rintro e wq ⟨rfl,rfl⟩
     go_wp2_with fail
     refine(S1.out _ _ _ J0.out).mono ?_
     rintro e wq ⟨rfl,rfl⟩
     go_wp2_with fail
     refine(S2.out _ _ _ J0.out).mono ?_
     rintro e wq ⟨rfl,rfl⟩
     go_wp2_with fail
     refine(S3.out _ _ _ J0.out).mono ?_
     rintro e wq ⟨rfl,rfl⟩
     go_wp2_with fail
     refine(C.out _ _ _ J0.out).mono ?_
     rintro e0 u0 ⟨PA,pn,pc,rfl,hpr,hb,hlo⟩
     have K0:=J0.out.kept hb
     have ka:=(Below.refl _ u0).alloc (Nat.le_refl _) (.cells #[.string ⟨s.toArray⟩,.slice PA pn pc,.bool false] 88)
     have K1:=Hd (K0.kept ka)
     have hq:=hp_new u0 (.cells #[.string ⟨s.toArray⟩,.slice PA pn pc,.bool false] 88)
     have HP:=Hd (And.intro (hpr.below ka) (fun b i h=>Nat.lt_of_lt_of_le J0.out.size (hlo b i h)))
     have hlt:=K0.size
     clear hpr hb hlo K0 ka zc
     go_wp2_with fail
     generalize hv:u0.alloc (.cells #[.string ⟨s.toArray⟩,.slice PA pn pc,.bool false] 88)=v0 at *
     have hvs:v0.heap.size=u0.heap.size+1:=by rw[← hv,World.size_alloc]
     clear hv
     have zt0:=cell_of 0 hq
     have zt1:=cell_of 1 hq
     have zt2:=cell_of 2 hq
     have z0:=cell_of 0 K1.out.tok
     have y0:=free_of 0 K1.out.tok
     have z3:=cell_of 3 K1.out.tok
     have y3:=free_of 3 K1.out.tok
     have z5:=cell_of 5 K1.out.tok
     have y5:=free_of 5 K1.out.tok
     have z2:=cell_of 2 K1.out.tok
     have y2:=free_of 2 K1.out.tok
     go_region
     have KU:Hid (RN w ((((v0.setCell ⟨w.heap.size+1,0,none⟩ (.int .i64 7)).setCell ⟨w.heap.size+1,3,none⟩ (.string ⟨s.toArray⟩)).setCell ⟨w.heap.size+1,5,none⟩ (.slice PA pn pc)).setCell ⟨w.heap.size+1,2,none⟩ (.int .i64 (t:Int))).drew #[.int .i64 0,.int .i64 0,.int .i64 0,.string ⟨#[]⟩,.string ⟨#[]⟩,.slice none 0 0,.int .i64 0] #[.int .i64 7,.int .i64 (k:Int),.int .i64 (t:Int),.string ⟨s.toArray⟩,.string ⟨#[]⟩,.slice PA pn pc,.int .i64 0]):=Hd (((((K1.out.set 0 (.int .i64 7)).set 3 (.string ⟨s.toArray⟩)).set 5 (.slice PA pn pc)).set 2 (.int .i64 (t:Int))).drewN 1)
     have hUo: ∀ b,b≠w.heap.size+1→(((((v0.setCell ⟨w.heap.size+1,0,none⟩ (.int .i64 7)).setCell ⟨w.heap.size+1,3,none⟩ (.string ⟨s.toArray⟩)).setCell ⟨w.heap.size+1,5,none⟩ (.slice PA pn pc)).setCell ⟨w.heap.size+1,2,none⟩ (.int .i64 (t:Int))).drew).heap[b]? =v0.heap[b]? :=fun b hb=>by
       show((((v0.setCell ⟨w.heap.size+1,0,none⟩ (.int .i64 7)).setCell ⟨w.heap.size+1,3,none⟩ (.string ⟨s.toArray⟩)).setCell ⟨w.heap.size+1,5,none⟩ (.slice PA pn pc)).setCell ⟨w.heap.size+1,2,none⟩ (.int .i64 (t:Int))).heap[b]? =v0.heap[b]?
       rw[hp_other (by omega),hp_other (by omega),hp_other (by omega),hp_other (by omega)]
     have hUs:(((((v0.setCell ⟨w.heap.size+1,0,none⟩ (.int .i64 7)).setCell ⟨w.heap.size+1,3,none⟩ (.string ⟨s.toArray⟩)).setCell ⟨w.heap.size+1,5,none⟩ (.slice PA pn pc)).setCell ⟨w.heap.size+1,2,none⟩ (.int .i64 (t:Int))).drew).heap.size=v0.heap.size:=by
       show((((v0.setCell ⟨w.heap.size+1,0,none⟩ (.int .i64 7)).setCell ⟨w.heap.size+1,3,none⟩ (.string ⟨s.toArray⟩)).setCell ⟨w.heap.size+1,5,none⟩ (.slice PA pn pc)).setCell ⟨w.heap.size+1,2,none⟩ (.int .i64 (t:Int))).heap.size=v0.heap.size
       simp
     clear zt0 zt1 zt2 z0 y0 z3 y3 z5 y5 z2 y2
     generalize ((((v0.setCell ⟨w.heap.size+1,0,none⟩ (.int .i64 7)).setCell ⟨w.heap.size+1,3,none⟩ (.string ⟨s.toArray⟩)).setCell ⟨w.heap.size+1,5,none⟩ (.slice PA pn pc)).setCell ⟨w.heap.size+1,2,none⟩ (.int .i64 (t:Int))).drew=U at *
     have zt2:=cell_of 2 ((hUo u0.heap.size (by omega)).trans hq)
     have KV:=KU
     have JF:=Hd (KV.out.row #[.int .i64 0,.int .i64 0,.int .i64 0,.string ⟨#[]⟩,.string ⟨#[]⟩,.slice none 0 0,.int .i64 0])
     go_wp2_with (refine wpList_store_row rfl _ _ _ rfl w.heap.size #[.int .i64 0,.int .i64 0,.int .i64 0,.string ⟨#[]⟩,.string ⟨#[]⟩,.slice none 0 0,.int .i64 0] rfl rfl _ _ KV.out.res (by kernel_rfl) rfl (by kernel_rfl) ?_)
     (try simp only[Exit.inBlock,Exit.then])
     exact bodyPost_ret (results_cell2 rfl _ _ w.heap.size _ _ _ _ rfl JF.out.res HU.out.2 rfl HU.out.1) rfl (TokPost.no rfl JF.out.below)
 · by_cases he:e=0
   · subst he
     rw[if_pos rfl]
     simp only[if_true]
     go_enter Tryz.func13,Tryz.ntmps13
     have zc:=HC.out _ _ _ J0.out
     go_wp2_with fail
     refine(S0.out _ _ _ J0.out).mono ?_
     rintro e wq ⟨rfl,rfl⟩
     go_wp2_with fail
     refine(S1.out _ _ _ J0.out).mono ?_
     rintro e wq ⟨rfl,rfl⟩
     go_wp2_with fail
     refine(S2.out _ _ _ J0.out).mono ?_
     rintro e wq ⟨rfl,rfl⟩
     go_wp2_with fail
     refine(S3.out _ _ _ J0.out).mono ?_
     rintro e wq ⟨rfl,rfl⟩
     go_wp2_with fail
     refine(C.out _ _ _ J0.out).mono ?_
     rintro e0 u0 ⟨PA,pn,pc,rfl,hpr,hb,hlo⟩
     have K0:=J0.out.kept hb
     have ka:=(Below.refl _ u0).alloc (Nat.le_refl _) (.cells #[.string ⟨s.toArray⟩,.slice PA pn pc,.bool true] 88)
     have K1:=Hd (K0.kept ka)
     have hq:=hp_new u0 (.cells #[.string ⟨s.toArray⟩,.slice PA pn pc,.bool true] 88)
     have HP:=Hd (And.intro (hpr.below ka) (fun b i h=>Nat.lt_of_lt_of_le J0.out.size (hlo b i h)))
     have hlt:=K0.size
     clear hpr hb hlo K0 ka zc
     go_wp2_with fail
     generalize hv:u0.alloc (.cells #[.string ⟨s.toArray⟩,.slice PA pn pc,.bool true] 88)=v0 at *
     have hvs:v0.heap.size=u0.heap.size+1:=by rw[← hv,World.size_alloc]
     clear hv
     have zt0:=cell_of 0 hq
     have zt1:=cell_of 1 hq
     have zt2:=cell_of 2 hq
     have z0:=cell_of 0 K1.out.tok
     have y0:=free_of 0 K1.out.tok
     have z3:=cell_of 3 K1.out.tok
     have y3:=free_of 3 K1.out.tok
     have z5:=cell_of 5 K1.out.tok
     have y5:=free_of 5 K1.out.tok
     have z2:=cell_of 2 K1.out.tok
     have y2:=free_of 2 K1.out.tok
     go_region
     have KU:Hid (RN w ((((v0.setCell ⟨w.heap.size+1,0,none⟩ (.int .i64 7)).setCell ⟨w.heap.size+1,3,none⟩ (.string ⟨s.toArray⟩)).setCell ⟨w.heap.size+1,5,none⟩ (.slice PA pn pc)).setCell ⟨w.heap.size+1,2,none⟩ (.int .i64 (t:Int))).drew #[.int .i64 0,.int .i64 0,.int .i64 0,.string ⟨#[]⟩,.string ⟨#[]⟩,.slice none 0 0,.int .i64 0] #[.int .i64 7,.int .i64 (k:Int),.int .i64 (t:Int),.string ⟨s.toArray⟩,.string ⟨#[]⟩,.slice PA pn pc,.int .i64 0]):=Hd (((((K1.out.set 0 (.int .i64 7)).set 3 (.string ⟨s.toArray⟩)).set 5 (.slice PA pn pc)).set 2 (.int .i64 (t:Int))).drewN 1)
     have hUo: ∀ b,b≠w.heap.size+1→(((((v0.setCell ⟨w.heap.size+1,0,none⟩ (.int .i64 7)).setCell ⟨w.heap.size+1,3,none⟩ (.string ⟨s.toArray⟩)).setCell ⟨w.heap.size+1,5,none⟩ (.slice PA pn pc)).setCell ⟨w.heap.size+1,2,none⟩ (.int .i64 (t:Int))).drew).heap[b]? =v0.heap[b]? :=fun b hb=>by
       show((((v0.setCell ⟨w.heap.size+1,0,none⟩ (.int .i64 7)).setCell ⟨w.heap.size+1,3,none⟩ (.string ⟨s.toArray⟩)).setCell ⟨w.heap.size+1,5,none⟩ (.slice PA pn pc)).setCell ⟨w.heap.size+1,2,none⟩ (.int .i64 (t:Int))).heap[b]? =v0.heap[b]?
       rw[hp_other (by omega),hp_other (by omega),hp_other (by omega),hp_other (by omega)]
     have hUs:(((((v0.setCell ⟨w.heap.size+1,0,none⟩ (.int .i64 7)).setCell ⟨w.heap.size+1,3,none⟩ (.string ⟨s.toArray⟩)).setCell ⟨w.heap.size+1,5,none⟩ (.slice PA pn pc)).setCell ⟨w.heap.size+1,2,none⟩ (.int .i64 (t:Int))).drew).heap.size=v0.heap.size:=by
       show((((v0.setCell ⟨w.heap.size+1,0,none⟩ (.int .i64 7)).setCell ⟨w.heap.size+1,3,none⟩ (.string ⟨s.toArray⟩)).setCell ⟨w.heap.size+1,5,none⟩ (.slice PA pn pc)).setCell ⟨w.heap.size+1,2,none⟩ (.int .i64 (t:Int))).heap.size=v0.heap.size
       simp
     clear zt0 zt1 zt2 z0 y0 z3 y3 z5 y5 z2 y2
     generalize ((((v0.setCell ⟨w.heap.size+1,0,none⟩ (.int .i64 7)).setCell ⟨w.heap.size+1,3,none⟩ (.string ⟨s.toArray⟩)).setCell ⟨w.heap.size+1,5,none⟩ (.slice PA pn pc)).setCell ⟨w.heap.size+1,2,none⟩ (.int .i64 (t:Int))).drew=U at *
     have zt2:=cell_of 2 ((hUo u0.heap.size (by omega)).trans hq)
     have z0:=cell_of 0 KU.out.tok
     have y0:=free_of 0 KU.out.tok
     have KV:Hid (RN w (U.setCell ⟨w.heap.size+1,0,none⟩ (.int .i64 8)) #[.int .i64 0,.int .i64 0,.int .i64 0,.string ⟨#[]⟩,.string ⟨#[]⟩,.slice none 0 0,.int .i64 0] #[.int .i64 8,.int .i64 (k:Int),.int .i64 (t:Int),.string ⟨s.toArray⟩,.string ⟨#[]⟩,.slice PA pn pc,.int .i64 0]):=Hd (KU.out.set 0 (.int .i64 8))
     have JF:=Hd (KV.out.row #[.int .i64 8,.int .i64 (k:Int),.int .i64 (t:Int),.string ⟨s.toArray⟩,.string ⟨#[]⟩,.slice PA pn pc,.int .i64 0])
     go_wp2_with (first|(refine wpList_load_row rfl _ _ rfl (w.heap.size+1) rfl _ _ _ _ KV.out.tok HU.out.2 rfl HU.out.1 ?_)|(refine wpList_store_row rfl _ _ _ rfl w.heap.size #[.int .i64 8,.int .i64 (k:Int),.int .i64 (t:Int),.string ⟨s.toArray⟩,.string ⟨#[]⟩,.slice PA pn pc,.int .i64 0] rfl rfl _ _ KV.out.res (by kernel_rfl) rfl (by kernel_rfl) ?_))
     (try simp only[Exit.inBlock,Exit.then])
     refine bodyPost_ret (results_cell2 rfl _ _ w.heap.size _ _ _ _ rfl JF.out.res HU.out.2 rfl HU.out.1) rfl (TokPost.of PA pn pc rfl (HP.out.1.move ?_ ?_) JF.out.below fun b i h=>Nat.le_of_lt (Nat.lt_of_succ_lt (HP.out.2 b i h)))
     · simp[World.setRow];omega
     · intro b' i' hA hb'
       have hlt:=HP.out.2 b' i' hA
       rw[setRow_at _ _ _ _ (by omega),hp_other (by omega),hUo b' (by omega)]
   · rw[if_neg he]
     have hei:((e:Int)==0)=false:=by simp;omega
     go_enter Tryz.func13,Tryz.ntmps13
     have zc:=HC.out _ _ _ J0.out
     go_wp2_with fail
     refine(S0.out _ _ _ J0.out).mono ?_
     rintro e wq ⟨rfl,rfl⟩
     go_wp2_with fail
     refine(S1.out _ _ _ J0.out).mono ?_
     rintro e wq ⟨rfl,rfl⟩
     go_wp2_with fail
     refine(S2.out _ _ _ J0.out).mono ?_
     rintro e wq ⟨rfl,rfl⟩
     go_wp2_with fail
     refine(S3.out _ _ _ J0.out).mono ?_
     rintro e wq ⟨rfl,rfl⟩
     go_wp2_with fail
     refine(C.out _ _ _ J0.out).mono ?_
     rintro e0 u0 ⟨PA,pn,pc,rfl,hpr,hb,hlo⟩
     have K0:=J0.out.kept hb
     have ka:=(Below.refl _ u0).alloc (Nat.le_refl _) (.cells #[.string ⟨s.toArray⟩,.slice PA pn pc,.bool true] 88)
     have K1:=Hd (K0.kept ka)
     have hq:=hp_new u0 (.cells #[.string ⟨s.toArray⟩,.slice PA pn pc,.bool true] 88)
     have HP:=Hd (And.intro (hpr.below ka) (fun b i h=>Nat.lt_of_lt_of_le J0.out.size (hlo b i h)))
     have hlt:=K0.size
     clear hpr hb hlo K0 ka zc
     go_wp2_with fail
     generalize hv:u0.alloc (.cells #[.string ⟨s.toArray⟩,.slice PA pn pc,.bool true] 88)=v0 at *
     have hvs:v0.heap.size=u0.heap.size+1:=by rw[← hv,World.size_alloc]
     clear hv
     have zt0:=cell_of 0 hq
     have zt1:=cell_of 1 hq
     have zt2:=cell_of 2 hq
     have z0:=cell_of 0 K1.out.tok
     have y0:=free_of 0 K1.out.tok
     have z3:=cell_of 3 K1.out.tok
     have y3:=free_of 3 K1.out.tok
     have z5:=cell_of 5 K1.out.tok
     have y5:=free_of 5 K1.out.tok
     have z2:=cell_of 2 K1.out.tok
     have y2:=free_of 2 K1.out.tok
     go_region
     have KU:Hid (RN w ((((v0.setCell ⟨w.heap.size+1,0,none⟩ (.int .i64 7)).setCell ⟨w.heap.size+1,3,none⟩ (.string ⟨s.toArray⟩)).setCell ⟨w.heap.size+1,5,none⟩ (.slice PA pn pc)).setCell ⟨w.heap.size+1,2,none⟩ (.int .i64 (t:Int))).drew #[.int .i64 0,.int .i64 0,.int .i64 0,.string ⟨#[]⟩,.string ⟨#[]⟩,.slice none 0 0,.int .i64 0] #[.int .i64 7,.int .i64 (k:Int),.int .i64 (t:Int),.string ⟨s.toArray⟩,.string ⟨#[]⟩,.slice PA pn pc,.int .i64 0]):=Hd (((((K1.out.set 0 (.int .i64 7)).set 3 (.string ⟨s.toArray⟩)).set 5 (.slice PA pn pc)).set 2 (.int .i64 (t:Int))).drewN 1)
     have hUo: ∀ b,b≠w.heap.size+1→(((((v0.setCell ⟨w.heap.size+1,0,none⟩ (.int .i64 7)).setCell ⟨w.heap.size+1,3,none⟩ (.string ⟨s.toArray⟩)).setCell ⟨w.heap.size+1,5,none⟩ (.slice PA pn pc)).setCell ⟨w.heap.size+1,2,none⟩ (.int .i64 (t:Int))).drew).heap[b]? =v0.heap[b]? :=fun b hb=>by
       show((((v0.setCell ⟨w.heap.size+1,0,none⟩ (.int .i64 7)).setCell ⟨w.heap.size+1,3,none⟩ (.string ⟨s.toArray⟩)).setCell ⟨w.heap.size+1,5,none⟩ (.slice PA pn pc)).setCell ⟨w.heap.size+1,2,none⟩ (.int .i64 (t:Int))).heap[b]? =v0.heap[b]?
       rw[hp_other (by omega),hp_other (by omega),hp_other (by omega),hp_other (by omega)]
     have hUs:(((((v0.setCell ⟨w.heap.size+1,0,none⟩ (.int .i64 7)).setCell ⟨w.heap.size+1,3,none⟩ (.string ⟨s.toArray⟩)).setCell ⟨w.heap.size+1,5,none⟩ (.slice PA pn pc)).setCell ⟨w.heap.size+1,2,none⟩ (.int .i64 (t:Int))).drew).heap.size=v0.heap.size:=by
       show((((v0.setCell ⟨w.heap.size+1,0,none⟩ (.int .i64 7)).setCell ⟨w.heap.size+1,3,none⟩ (.string ⟨s.toArray⟩)).setCell ⟨w.heap.size+1,5,none⟩ (.slice PA pn pc)).setCell ⟨w.heap.size+1,2,none⟩ (.int .i64 (t:Int))).heap.size=v0.heap.size
       simp
     clear zt0 zt1 zt2 z0 y0 z3 y3 z5 y5 z2 y2
     generalize ((((v0.setCell ⟨w.heap.size+1,0,none⟩ (.int .i64 7)).setCell ⟨w.heap.size+1,3,none⟩ (.string ⟨s.toArray⟩)).setCell ⟨w.heap.size+1,5,none⟩ (.slice PA pn pc)).setCell ⟨w.heap.size+1,2,none⟩ (.int .i64 (t:Int))).drew=U at *
     have zt2:=cell_of 2 ((hUo u0.heap.size (by omega)).trans hq)
     have z0:=cell_of 0 KU.out.tok
     have y0:=free_of 0 KU.out.tok
     have KV:Hid (RN w (U.setCell ⟨w.heap.size+1,0,none⟩ (.int .i64 8)) #[.int .i64 0,.int .i64 0,.int .i64 0,.string ⟨#[]⟩,.string ⟨#[]⟩,.slice none 0 0,.int .i64 0] #[.int .i64 8,.int .i64 (k:Int),.int .i64 (t:Int),.string ⟨s.toArray⟩,.string ⟨#[]⟩,.slice PA pn pc,.int .i64 0]):=Hd (KU.out.set 0 (.int .i64 8))
     have JF:=Hd (KV.out.row #[.int .i64 0,.int .i64 0,.int .i64 0,.string ⟨#[]⟩,.string ⟨#[]⟩,.slice none 0 0,.int .i64 0])
     go_wp2_with (refine wpList_store_row rfl _ _ _ rfl w.heap.size #[.int .i64 0,.int .i64 0,.int .i64 0,.string ⟨#[]⟩,.string ⟨#[]⟩,.slice none 0 0,.int .i64 0] rfl rfl _ _ KV.out.res (by kernel_rfl) rfl (by kernel_rfl) ?_)
     (try simp only[Exit.inBlock,Exit.then])
     exact bodyPost_ret (results_cell2 rfl _ _ w.heap.size _ _ _ _ rfl JF.out.res HU.out.2 rfl HU.out.1) rfl (TokPost.no rfl JF.out.below)
end Go.Proofs.YtbafljibbabnaaaGreatDoor
