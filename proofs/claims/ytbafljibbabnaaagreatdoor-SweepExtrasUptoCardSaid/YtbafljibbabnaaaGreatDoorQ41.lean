/- Texts of ours, joined: Tok2. -/
import Derived.Test.YtbafljibbabnaaaGreatDoorQ37
namespace Go.Proofs.YtbafljibbabnaaaGreatDoor
open Go.ChangeShapes Go.WideShapes Go.ChangeAt Go.RowKit
set_option linter.unusedVariables false
set_option maxRecDepth 100000
set_option maxHeartbeats 32000000
structure RJ (A:Option Addr) (n cap k:Nat) (w W:World) (rs:Array Value):Prop where
 below:Below w.heap.size w W
 size:w.heap.size+1+1<W.heap.size
 bs:W.heap[w.heap.size]? =some (.cells #[.slice A n cap] 29)
 at_:W.heap[w.heap.size+1]? =some (.cells #[.int .i64 (k:Int)] 3)
 tok:W.heap[w.heap.size+1+1]? =some (.cells rs 47)
theorem RJ.start (A:Option Addr)(n cap k:Nat)(w:World):RJ A n cap k w (((w.alloc (.cells #[.slice A n cap] 29)).alloc (.cells #[.int .i64 (k:Int)] 3)).alloc (.cells #[.int .i64 0,.int .i64 0,.int .i64 0,.string ⟨#[]⟩,.string ⟨#[]⟩,.slice none 0 0,.int .i64 0] 47)) #[.int .i64 0,.int .i64 0,.int .i64 0,.string ⟨#[]⟩,.string ⟨#[]⟩,.slice none 0 0,.int .i64 0]:=by
 have b1:=(Below.refl w.heap.size w).alloc (Nat.le_refl _) (.cells #[.slice A n cap] 29)
 have b2:=b1.alloc (by simp) (.cells #[.int .i64 (k:Int)] 3)
 refine⟨b2.alloc (by simp;omega) (.cells #[.int .i64 0,.int .i64 0,.int .i64 0,.string ⟨#[]⟩,.string ⟨#[]⟩,.slice none 0 0,.int .i64 0] 47),by simp,?_,?_,?_⟩
 · rw[Below.heap_alloc _ _ _ (by simp;omega),Below.heap_alloc _ _ _ (by simp)];exact hp_new _ _
 · rw[Below.heap_alloc _ _ _ (by simp)]
   have:=hp_new (w.alloc (.cells #[.slice A n cap] 29)) (.cells #[.int .i64 (k:Int)] 3)
   rwa [World.size_alloc]at this
 · have:=hp_new ((w.alloc (.cells #[.slice A n cap] 29)).alloc (.cells #[.int .i64 (k:Int)] 3)) (.cells #[.int .i64 0,.int .i64 0,.int .i64 0,.string ⟨#[]⟩,.string ⟨#[]⟩,.slice none 0 0,.int .i64 0] 47)
   rwa [World.size_alloc,World.size_alloc]at this
theorem RJ.kept {A:Option Addr}{n cap k:Nat}{w W W':World}{rs:Array Value}(h:RJ A n cap k w W rs)(hb:Below W.heap.size W W'):RJ A n cap k w W' rs :=
 ⟨h.below.trans (hb.mono h.below.size),by have:=hb.size;have:=h.size;omega,by rw[hb.block _ (by have:=h.size;omega)];exact h.bs,by rw[hb.block _ (by have:=h.size;omega)];exact h.at_,by rw[hb.block _ h.size];exact h.tok⟩
theorem RJ.set {A:Option Addr}{n cap k:Nat}{w W:World}{rs:Array Value}(h:RJ A n cap k w W rs)(i:Nat)(v:Value):RJ A n cap k w (W.setCell ⟨w.heap.size+1+1,i,none⟩ v) (rs.setIfInBounds i v) :=
 ⟨h.below.setCell (p:=⟨w.heap.size+1+1,i,none⟩) (by show w.heap.size≤w.heap.size+1+1;omega) v,by simpa using h.size,by rw[hp_other (by omega)];exact h.bs,by rw[hp_other (by omega)];exact h.at_,hp_set h.tok⟩
theorem RJ.row {A:Option Addr}{n cap k:Nat}{w W:World}{rs:Array Value}(h:RJ A n cap k w W rs)(cs:Array Value):RJ A n cap k w (W.setRow (w.heap.size+1+1) cs) cs:=by
 refine⟨⟨h.below.os,h.below.tape,h.below.output,?_,fun j hj=> ?_⟩,?_,?_,?_,setRow_heap _ _ _ _ _ _ h.tok⟩
 · have:=h.below.size;simpa [World.setRow] using this
 · rw[setRow_other _ _ _ _ (by omega)];exact h.below.block j hj
 · simpa [World.setRow] using h.size
 · rw[setRow_other _ _ _ _ (by omega)];exact h.bs
 · rw[setRow_other _ _ _ _ (by omega)];exact h.at_
theorem TokPost.plain {t:TokL}{x:Nat}{w w':World}{e:Ending}(hp:t.pairs= [])(he:e= .returned (.tuple #[.agg (TokV.cells ⟨t,none,0,0⟩).toArray,.int .i64 (x:Int)]))(hb:Below w.heap.size w w'):TokPost (t,x) w e w' :=
 ⟨⟨t,none,0,0⟩,rfl,he,by rw[hp];exact PRd.nilR _ _,hb,fun b i h=>by cases h⟩
theorem tokRead_comment (A:Option Addr)(n cap:Nat)(l:List UInt8)(k:Nat)(w:World)(h:Byt w w.heap.size A n cap l)(hW:W11 w)(hm:n≤40000)(hk:k≤n)(h0: [60,33,45,45].isPrefixOf (l.drop k)=true) :
 Calls Tryz.prog 27 #[.slice A n cap,.int .i64 (k:Int)] w fun e w'=>TokPost (readTok l k) w e w':=by
 have hln:=h.length
 have HK:Hid (∀ W rs,RJ A n cap k w W rs→Byt W W.heap.size A n cap l∧W11 W):=Hd fun W rs hJ=>⟨(h.below hJ.below).more hJ.below.size,hW.below hJ.below⟩
 have S0:Hid (∀ W rs,RJ A n cap k w W rs→Calls Tryz.prog 48 #[.string ⟨#[60,33,45,45]⟩,.pointer (some ⟨w.heap.size,0,none⟩),.pointer (some ⟨w.heap.size+1,0,none⟩)] W fun e w'=>e= .returned (.bool true)∧Below W.heap.size W w'):=Hd fun W rs hJ=>by
  have:=stands1_c A n cap l k w.heap.size (w.heap.size+1) [60,33,45,45] W (HK.out W rs hJ).1 hk (by decide) (cell_of 0 hJ.bs) (cell_of 0 hJ.at_)
  rwa [h0]at this
 have C:Hid (∀ W rs,RJ A n cap k w W rs→Calls Tryz.prog 50 #[.slice A n cap,.int .i64 (k:Int)] W fun e w'=>e= .returned (outV (commentOut l k))∧Below W.heap.size W w'):=Hd fun W rs hJ=>by
  have hB:=(HK.out W rs hJ).1
  have hW:=(HK.out W rs hJ).2
  have:=miscComment_c A n cap l k W hB hW.maxl (by omega)
  have he:anyAt commentOut l k=commentOut l k:=by
   unfold anyAt
   rw[hln,if_neg (by omega),Int.toNat_natCast]
  rwa [he]at this
 unfold readTok
 rw[if_pos h0]
 generalize commentOut l k=o at *
 obtain⟨s,t,e⟩:=o
 unfold outV at C
 simp only at C ⊢
 have J0:=Hd (RJ.start A n cap k w)
 have hi:(Tryz.prog.info? 47).map (·.size)=some 7:=by kernel_rfl
 obtain⟨sd,hu⟩:=isStruct_of (P:=Tryz.prog) (t:=47) (by kernel_rfl)
 have HU:=Hd (And.intro hi hu)
 have hk0:(0:Int)≤(k:Int):=by omega
 have hk1:(k:Int)≤40000:=by omega
 clear h hW hln HK hi hu h0
 go_enter Tryz.func27,Tryz.ntmps27
 go_wp2_with fail
 refine(S0.out _ _ J0.out).mono ?_
 rintro e0 w1 ⟨rfl,hb⟩
 have J1:=Hd (J0.out.kept hb)
 clear hb
 have z0:=cell_of 0 J1.out.tok
 have y0:=free_of 0 J1.out.tok
 have JA:Hid (RJ A n cap k w (w1.setCell ⟨w.heap.size+1+1,0,none⟩ (.int .i64 5)) #[.int .i64 5,.int .i64 0,.int .i64 0,.string ⟨#[]⟩,.string ⟨#[]⟩,.slice none 0 0,.int .i64 0]):=Hd (J1.out.set 0 (.int .i64 5))
 have zb:=cell_of 0 JA.out.bs
 have za:=cell_of 0 JA.out.at_
 go_wp2_with fail
 clear z0 y0
 generalize w1.setCell ⟨w.heap.size+1+1,0,none⟩ (.int .i64 5)=v1 at *
 refine(C.out _ _ JA.out).mono ?_
 rintro e0 u0 ⟨rfl,hb⟩
 have K0:=Hd (JA.out.kept hb)
 clear hb zb za
 have z1:=cell_of 4 K0.out.tok
 have y1:=free_of 4 K0.out.tok
 have K1:Hid (RJ A n cap k w (u0.setCell ⟨w.heap.size+1+1,4,none⟩ (.string ⟨s.toArray⟩)) #[.int .i64 5,.int .i64 0,.int .i64 0,.string ⟨#[]⟩,.string ⟨s.toArray⟩,.slice none 0 0,.int .i64 0]):=Hd (K0.out.set 4 (.string ⟨s.toArray⟩))
 have z2:=cell_of 2 K1.out.tok
 have y2:=free_of 2 K1.out.tok
 have K2:Hid (RJ A n cap k w ((u0.setCell ⟨w.heap.size+1+1,4,none⟩ (.string ⟨s.toArray⟩)).setCell ⟨w.heap.size+1+1,2,none⟩ (.int .i64 (t:Int))) #[.int .i64 5,.int .i64 0,.int .i64 (t:Int),.string ⟨#[]⟩,.string ⟨s.toArray⟩,.slice none 0 0,.int .i64 0]):=Hd (K1.out.set 2 (.int .i64 (t:Int)))
 have JF:=Hd (K2.out.row #[.int .i64 5,.int .i64 0,.int .i64 (t:Int),.string ⟨#[]⟩,.string ⟨s.toArray⟩,.slice none 0 0,.int .i64 0])
 go_wp2_with (first|(refine wpList_load_row rfl _ _ rfl (w.heap.size+1+1) rfl _ _ _ _ K2.out.tok HU.out.2 rfl HU.out.1 ?_)|(refine wpList_store_row rfl _ _ _ rfl (w.heap.size+1+1) #[.int .i64 5,.int .i64 0,.int .i64 (t:Int),.string ⟨#[]⟩,.string ⟨s.toArray⟩,.slice none 0 0,.int .i64 0] rfl rfl _ _ K2.out.tok (by kernel_rfl) rfl (by kernel_rfl) ?_))
 (try simp only[Exit.inBlock,Exit.then])
 exact bodyPost_ret (results_cell2 rfl _ _ (w.heap.size+1+1) _ _ _ _ rfl JF.out.tok HU.out.2 rfl HU.out.1) rfl (TokPost.plain rfl rfl JF.out.below)
theorem tokRead_cdata (A:Option Addr)(n cap:Nat)(l:List UInt8)(k:Nat)(w:World)(h:Byt w w.heap.size A n cap l)(hW:W11 w)(hm:n≤40000)(hk:k≤n)(h0: [60,33,45,45].isPrefixOf (l.drop k)=false)(h1: [60,33,91,67,68,65,84,65,91].isPrefixOf (l.drop k)=true) :
 Calls Tryz.prog 27 #[.slice A n cap,.int .i64 (k:Int)] w fun e w'=>TokPost (readTok l k) w e w':=by
 have hln:=h.length
 have HK:Hid (∀ W rs,RJ A n cap k w W rs→Byt W W.heap.size A n cap l∧W11 W):=Hd fun W rs hJ=>⟨(h.below hJ.below).more hJ.below.size,hW.below hJ.below⟩
 have S0:Hid (∀ W rs,RJ A n cap k w W rs→Calls Tryz.prog 48 #[.string ⟨#[60,33,45,45]⟩,.pointer (some ⟨w.heap.size,0,none⟩),.pointer (some ⟨w.heap.size+1,0,none⟩)] W fun e w'=>e= .returned (.bool false)∧Below W.heap.size W w'):=Hd fun W rs hJ=>by
  have:=stands1_c A n cap l k w.heap.size (w.heap.size+1) [60,33,45,45] W (HK.out W rs hJ).1 hk (by decide) (cell_of 0 hJ.bs) (cell_of 0 hJ.at_)
  rwa [h0]at this
 have S1:Hid (∀ W rs,RJ A n cap k w W rs→Calls Tryz.prog 48 #[.string ⟨#[60,33,91,67,68,65,84,65,91]⟩,.pointer (some ⟨w.heap.size,0,none⟩),.pointer (some ⟨w.heap.size+1,0,none⟩)] W fun e w'=>e= .returned (.bool true)∧Below W.heap.size W w'):=Hd fun W rs hJ=>by
  have:=stands1_c A n cap l k w.heap.size (w.heap.size+1) [60,33,91,67,68,65,84,65,91] W (HK.out W rs hJ).1 hk (by decide) (cell_of 0 hJ.bs) (cell_of 0 hJ.at_)
  rwa [h1]at this
 have C:Hid (∀ W rs,RJ A n cap k w W rs→Calls Tryz.prog 51 #[.slice A n cap,.int .i64 (k:Int)] W fun e w'=>e= .returned (outV (cdataOut l k))∧Below W.heap.size W w'):=Hd fun W rs hJ=>by
  have hB:=(HK.out W rs hJ).1
  have hW:=(HK.out W rs hJ).2
  have:=miscCData_c A n cap l k W hB hW.maxl (by omega)
  have he:anyAt cdataOut l k=cdataOut l k:=by
   unfold anyAt
   rw[hln,if_neg (by omega),Int.toNat_natCast]
  rwa [he]at this
 unfold readTok
 rw[if_neg (by rw[h0];simp),if_pos h1]
 generalize cdataOut l k=o at *
 obtain⟨s,t,e⟩:=o
 unfold outV at C
 simp only at C ⊢
 have J0:=Hd (RJ.start A n cap k w)
 have hi:(Tryz.prog.info? 47).map (·.size)=some 7:=by kernel_rfl
 obtain⟨sd,hu⟩:=isStruct_of (P:=Tryz.prog) (t:=47) (by kernel_rfl)
 have HU:=Hd (And.intro hi hu)
 have hk0:(0:Int)≤(k:Int):=by omega
 have hk1:(k:Int)≤40000:=by omega
 clear h hW hln HK hi hu h0 h1
 go_enter Tryz.func27,Tryz.ntmps27
 go_wp2_with fail
 refine(S0.out _ _ J0.out).mono ?_
 rintro e0 w1 ⟨rfl,hb⟩
 have J1:=Hd (J0.out.kept hb)
 clear hb
 go_wp2_with fail
 refine(S1.out _ _ J1.out).mono ?_
 rintro e0 w2 ⟨rfl,hb⟩
 have J2:=Hd (J1.out.kept hb)
 clear hb
 have z0:=cell_of 0 J2.out.tok
 have y0:=free_of 0 J2.out.tok
 have JA:Hid (RJ A n cap k w (w2.setCell ⟨w.heap.size+1+1,0,none⟩ (.int .i64 4)) #[.int .i64 4,.int .i64 0,.int .i64 0,.string ⟨#[]⟩,.string ⟨#[]⟩,.slice none 0 0,.int .i64 0]):=Hd (J2.out.set 0 (.int .i64 4))
 have zb:=cell_of 0 JA.out.bs
 have za:=cell_of 0 JA.out.at_
 go_wp2_with fail
 clear z0 y0
 generalize w2.setCell ⟨w.heap.size+1+1,0,none⟩ (.int .i64 4)=v1 at *
 refine(C.out _ _ JA.out).mono ?_
 rintro e0 u0 ⟨rfl,hb⟩
 have K0:=Hd (JA.out.kept hb)
 clear hb zb za
 have z1:=cell_of 4 K0.out.tok
 have y1:=free_of 4 K0.out.tok
 have K1:Hid (RJ A n cap k w (u0.setCell ⟨w.heap.size+1+1,4,none⟩ (.string ⟨s.toArray⟩)) #[.int .i64 4,.int .i64 0,.int .i64 0,.string ⟨#[]⟩,.string ⟨s.toArray⟩,.slice none 0 0,.int .i64 0]):=Hd (K0.out.set 4 (.string ⟨s.toArray⟩))
 have z2:=cell_of 2 K1.out.tok
 have y2:=free_of 2 K1.out.tok
 have K2:Hid (RJ A n cap k w ((u0.setCell ⟨w.heap.size+1+1,4,none⟩ (.string ⟨s.toArray⟩)).setCell ⟨w.heap.size+1+1,2,none⟩ (.int .i64 (t:Int))) #[.int .i64 4,.int .i64 0,.int .i64 (t:Int),.string ⟨#[]⟩,.string ⟨s.toArray⟩,.slice none 0 0,.int .i64 0]):=Hd (K1.out.set 2 (.int .i64 (t:Int)))
 have JF:=Hd (K2.out.row #[.int .i64 4,.int .i64 0,.int .i64 (t:Int),.string ⟨#[]⟩,.string ⟨s.toArray⟩,.slice none 0 0,.int .i64 0])
 go_wp2_with (first|(refine wpList_load_row rfl _ _ rfl (w.heap.size+1+1) rfl _ _ _ _ K2.out.tok HU.out.2 rfl HU.out.1 ?_)|(refine wpList_store_row rfl _ _ _ rfl (w.heap.size+1+1) #[.int .i64 4,.int .i64 0,.int .i64 (t:Int),.string ⟨#[]⟩,.string ⟨s.toArray⟩,.slice none 0 0,.int .i64 0] rfl rfl _ _ K2.out.tok (by kernel_rfl) rfl (by kernel_rfl) ?_))
 (try simp only[Exit.inBlock,Exit.then])
 exact bodyPost_ret (results_cell2 rfl _ _ (w.heap.size+1+1) _ _ _ _ rfl JF.out.tok HU.out.2 rfl HU.out.1) rfl (TokPost.plain rfl rfl JF.out.below)
theorem tokRead_pi (A:Option Addr)(n cap:Nat)(l:List UInt8)(k:Nat)(w:World)(h:Byt w w.heap.size A n cap l)(hW:W11 w)(hm:n≤40000)(hk:k≤n)(h0: [60,33,45,45].isPrefixOf (l.drop k)=false)(h1: [60,33,91,67,68,65,84,65,91].isPrefixOf (l.drop k)=false)(h2: [60,63].isPrefixOf (l.drop k)=true) :
 Calls Tryz.prog 27 #[.slice A n cap,.int .i64 (k:Int)] w fun e w'=>TokPost (readTok l k) w e w':=by
 have hln:=h.length
 have HK:Hid (∀ W rs,RJ A n cap k w W rs→Byt W W.heap.size A n cap l∧W11 W):=Hd fun W rs hJ=>⟨(h.below hJ.below).more hJ.below.size,hW.below hJ.below⟩
 have S0:Hid (∀ W rs,RJ A n cap k w W rs→Calls Tryz.prog 48 #[.string ⟨#[60,33,45,45]⟩,.pointer (some ⟨w.heap.size,0,none⟩),.pointer (some ⟨w.heap.size+1,0,none⟩)] W fun e w'=>e= .returned (.bool false)∧Below W.heap.size W w'):=Hd fun W rs hJ=>by
  have:=stands1_c A n cap l k w.heap.size (w.heap.size+1) [60,33,45,45] W (HK.out W rs hJ).1 hk (by decide) (cell_of 0 hJ.bs) (cell_of 0 hJ.at_)
  rwa [h0]at this
 have S1:Hid (∀ W rs,RJ A n cap k w W rs→Calls Tryz.prog 48 #[.string ⟨#[60,33,91,67,68,65,84,65,91]⟩,.pointer (some ⟨w.heap.size,0,none⟩),.pointer (some ⟨w.heap.size+1,0,none⟩)] W fun e w'=>e= .returned (.bool false)∧Below W.heap.size W w'):=Hd fun W rs hJ=>by
  have:=stands1_c A n cap l k w.heap.size (w.heap.size+1) [60,33,91,67,68,65,84,65,91] W (HK.out W rs hJ).1 hk (by decide) (cell_of 0 hJ.bs) (cell_of 0 hJ.at_)
  rwa [h1]at this
 have S2:Hid (∀ W rs,RJ A n cap k w W rs→Calls Tryz.prog 48 #[.string ⟨#[60,63]⟩,.pointer (some ⟨w.heap.size,0,none⟩),.pointer (some ⟨w.heap.size+1,0,none⟩)] W fun e w'=>e= .returned (.bool true)∧Below W.heap.size W w'):=Hd fun W rs hJ=>by
  have:=stands1_c A n cap l k w.heap.size (w.heap.size+1) [60,63] W (HK.out W rs hJ).1 hk (by decide) (cell_of 0 hJ.bs) (cell_of 0 hJ.at_)
  rwa [h2]at this
 have C:Hid (∀ W rs,RJ A n cap k w W rs→Calls Tryz.prog 52 #[.slice A n cap,.int .i64 (k:Int)] W fun e w'=>e= .returned (out4V (piOut l k))∧Below W.heap.size W w'):=Hd fun W rs hJ=>by
  have hB:=(HK.out W rs hJ).1
  have hW:=(HK.out W rs hJ).2
  have:=miscPiAt_c A n cap l k W hB hW.w8f (by omega)
  have he:piAt l k=piOut l k:=by
   unfold piAt
   rw[hln,if_neg (by omega),Int.toNat_natCast]
  rwa [he]at this
 unfold readTok
 rw[if_neg (by rw[h0];simp),if_neg (by rw[h1];simp),if_pos h2]
 generalize piOut l k=o at *
 obtain⟨s,d,t,e⟩:=o
 unfold out4V at C
 simp only at C ⊢
 have J0:=Hd (RJ.start A n cap k w)
 have hi:(Tryz.prog.info? 47).map (·.size)=some 7:=by kernel_rfl
 obtain⟨sd,hu⟩:=isStruct_of (P:=Tryz.prog) (t:=47) (by kernel_rfl)
 have HU:=Hd (And.intro hi hu)
 have hk0:(0:Int)≤(k:Int):=by omega
 have hk1:(k:Int)≤40000:=by omega
 clear h hW hln HK hi hu h0 h1 h2
 go_enter Tryz.func27,Tryz.ntmps27
 go_wp2_with fail
 refine(S0.out _ _ J0.out).mono ?_
 rintro e0 w1 ⟨rfl,hb⟩
 have J1:=Hd (J0.out.kept hb)
 clear hb
 go_wp2_with fail
 refine(S1.out _ _ J1.out).mono ?_
 rintro e0 w2 ⟨rfl,hb⟩
 have J2:=Hd (J1.out.kept hb)
 clear hb
 go_wp2_with fail
 refine(S2.out _ _ J2.out).mono ?_
 rintro e0 w3 ⟨rfl,hb⟩
 have J3:=Hd (J2.out.kept hb)
 clear hb
 have z0:=cell_of 0 J3.out.tok
 have y0:=free_of 0 J3.out.tok
 have JA:Hid (RJ A n cap k w (w3.setCell ⟨w.heap.size+1+1,0,none⟩ (.int .i64 6)) #[.int .i64 6,.int .i64 0,.int .i64 0,.string ⟨#[]⟩,.string ⟨#[]⟩,.slice none 0 0,.int .i64 0]):=Hd (J3.out.set 0 (.int .i64 6))
 have zb:=cell_of 0 JA.out.bs
 have za:=cell_of 0 JA.out.at_
 go_wp2_with fail
 clear z0 y0
 generalize w3.setCell ⟨w.heap.size+1+1,0,none⟩ (.int .i64 6)=v1 at *
 refine(C.out _ _ JA.out).mono ?_
 rintro e0 u0 ⟨rfl,hb⟩
 have K0:=Hd (JA.out.kept hb)
 clear hb zb za
 have z1:=cell_of 3 K0.out.tok
 have y1:=free_of 3 K0.out.tok
 have K1:Hid (RJ A n cap k w (u0.setCell ⟨w.heap.size+1+1,3,none⟩ (.string ⟨s.toArray⟩)) #[.int .i64 6,.int .i64 0,.int .i64 0,.string ⟨s.toArray⟩,.string ⟨#[]⟩,.slice none 0 0,.int .i64 0]):=Hd (K0.out.set 3 (.string ⟨s.toArray⟩))
 have z2:=cell_of 4 K1.out.tok
 have y2:=free_of 4 K1.out.tok
 have K2:Hid (RJ A n cap k w ((u0.setCell ⟨w.heap.size+1+1,3,none⟩ (.string ⟨s.toArray⟩)).setCell ⟨w.heap.size+1+1,4,none⟩ (.string ⟨d.toArray⟩)) #[.int .i64 6,.int .i64 0,.int .i64 0,.string ⟨s.toArray⟩,.string ⟨d.toArray⟩,.slice none 0 0,.int .i64 0]):=Hd (K1.out.set 4 (.string ⟨d.toArray⟩))
 have z3:=cell_of 2 K2.out.tok
 have y3:=free_of 2 K2.out.tok
 have K3:Hid (RJ A n cap k w (((u0.setCell ⟨w.heap.size+1+1,3,none⟩ (.string ⟨s.toArray⟩)).setCell ⟨w.heap.size+1+1,4,none⟩ (.string ⟨d.toArray⟩)).setCell ⟨w.heap.size+1+1,2,none⟩ (.int .i64 (t:Int))) #[.int .i64 6,.int .i64 0,.int .i64 (t:Int),.string ⟨s.toArray⟩,.string ⟨d.toArray⟩,.slice none 0 0,.int .i64 0]):=Hd (K2.out.set 2 (.int .i64 (t:Int)))
 have JF:=Hd (K3.out.row #[.int .i64 6,.int .i64 0,.int .i64 (t:Int),.string ⟨s.toArray⟩,.string ⟨d.toArray⟩,.slice none 0 0,.int .i64 0])
 go_wp2_with (first|(refine wpList_load_row rfl _ _ rfl (w.heap.size+1+1) rfl _ _ _ _ K3.out.tok HU.out.2 rfl HU.out.1 ?_)|(refine wpList_store_row rfl _ _ _ rfl (w.heap.size+1+1) #[.int .i64 6,.int .i64 0,.int .i64 (t:Int),.string ⟨s.toArray⟩,.string ⟨d.toArray⟩,.slice none 0 0,.int .i64 0] rfl rfl _ _ K3.out.tok (by kernel_rfl) rfl (by kernel_rfl) ?_))
 (try simp only[Exit.inBlock,Exit.then])
 exact bodyPost_ret (results_cell2 rfl _ _ (w.heap.size+1+1) _ _ _ _ rfl JF.out.tok HU.out.2 rfl HU.out.1) rfl (TokPost.plain rfl rfl JF.out.below)
theorem tokRead_close (A:Option Addr)(n cap:Nat)(l:List UInt8)(k:Nat)(w:World)(h:Byt w w.heap.size A n cap l)(hW:W11 w)(hm:n≤40000)(hk:k≤n)(h0: [60,33,45,45].isPrefixOf (l.drop k)=false)(h1: [60,33,91,67,68,65,84,65,91].isPrefixOf (l.drop k)=false)(h2: [60,63].isPrefixOf (l.drop k)=false)(h3: [60,47].isPrefixOf (l.drop k)=true) :
 Calls Tryz.prog 27 #[.slice A n cap,.int .i64 (k:Int)] w fun e w'=>TokPost (readTok l k) w e w':=by
 have hln:=h.length
 have HK:Hid (∀ W rs,RJ A n cap k w W rs→Byt W W.heap.size A n cap l∧W11 W):=Hd fun W rs hJ=>⟨(h.below hJ.below).more hJ.below.size,hW.below hJ.below⟩
 have S0:Hid (∀ W rs,RJ A n cap k w W rs→Calls Tryz.prog 48 #[.string ⟨#[60,33,45,45]⟩,.pointer (some ⟨w.heap.size,0,none⟩),.pointer (some ⟨w.heap.size+1,0,none⟩)] W fun e w'=>e= .returned (.bool false)∧Below W.heap.size W w'):=Hd fun W rs hJ=>by
  have:=stands1_c A n cap l k w.heap.size (w.heap.size+1) [60,33,45,45] W (HK.out W rs hJ).1 hk (by decide) (cell_of 0 hJ.bs) (cell_of 0 hJ.at_)
  rwa [h0]at this
 have S1:Hid (∀ W rs,RJ A n cap k w W rs→Calls Tryz.prog 48 #[.string ⟨#[60,33,91,67,68,65,84,65,91]⟩,.pointer (some ⟨w.heap.size,0,none⟩),.pointer (some ⟨w.heap.size+1,0,none⟩)] W fun e w'=>e= .returned (.bool false)∧Below W.heap.size W w'):=Hd fun W rs hJ=>by
  have:=stands1_c A n cap l k w.heap.size (w.heap.size+1) [60,33,91,67,68,65,84,65,91] W (HK.out W rs hJ).1 hk (by decide) (cell_of 0 hJ.bs) (cell_of 0 hJ.at_)
  rwa [h1]at this
 have S2:Hid (∀ W rs,RJ A n cap k w W rs→Calls Tryz.prog 48 #[.string ⟨#[60,63]⟩,.pointer (some ⟨w.heap.size,0,none⟩),.pointer (some ⟨w.heap.size+1,0,none⟩)] W fun e w'=>e= .returned (.bool false)∧Below W.heap.size W w'):=Hd fun W rs hJ=>by
  have:=stands1_c A n cap l k w.heap.size (w.heap.size+1) [60,63] W (HK.out W rs hJ).1 hk (by decide) (cell_of 0 hJ.bs) (cell_of 0 hJ.at_)
  rwa [h2]at this
 have S3:Hid (∀ W rs,RJ A n cap k w W rs→Calls Tryz.prog 48 #[.string ⟨#[60,47]⟩,.pointer (some ⟨w.heap.size,0,none⟩),.pointer (some ⟨w.heap.size+1,0,none⟩)] W fun e w'=>e= .returned (.bool true)∧Below W.heap.size W w'):=Hd fun W rs hJ=>by
  have:=stands1_c A n cap l k w.heap.size (w.heap.size+1) [60,47] W (HK.out W rs hJ).1 hk (by decide) (cell_of 0 hJ.bs) (cell_of 0 hJ.at_)
  rwa [h3]at this
 have C:Hid (∀ W rs,RJ A n cap k w W rs→Calls Tryz.prog 53 #[.slice A n cap,.int .i64 (k:Int)] W fun e w'=>e= .returned (outV (closeOut l k))∧Below W.heap.size W w'):=Hd fun W rs hJ=>by
  have hB:=(HK.out W rs hJ).1
  have hW:=(HK.out W rs hJ).2
  have:=tagClose_in A n cap l k W hB hW.w10 hm hk
  exact this
 unfold readTok
 rw[if_neg (by rw[h0];simp),if_neg (by rw[h1];simp),if_neg (by rw[h2];simp),if_pos h3]
 generalize closeOut l k=o at *
 obtain⟨s,t,e⟩:=o
 unfold outV at C
 simp only at C ⊢
 have J0:=Hd (RJ.start A n cap k w)
 have hi:(Tryz.prog.info? 47).map (·.size)=some 7:=by kernel_rfl
 obtain⟨sd,hu⟩:=isStruct_of (P:=Tryz.prog) (t:=47) (by kernel_rfl)
 have HU:=Hd (And.intro hi hu)
 have hk0:(0:Int)≤(k:Int):=by omega
 have hk1:(k:Int)≤40000:=by omega
 clear h hW hln HK hi hu h0 h1 h2 h3
 go_enter Tryz.func27,Tryz.ntmps27
 go_wp2_with fail
 refine(S0.out _ _ J0.out).mono ?_
 rintro e0 w1 ⟨rfl,hb⟩
 have J1:=Hd (J0.out.kept hb)
 clear hb
 go_wp2_with fail
 refine(S1.out _ _ J1.out).mono ?_
 rintro e0 w2 ⟨rfl,hb⟩
 have J2:=Hd (J1.out.kept hb)
 clear hb
 go_wp2_with fail
 refine(S2.out _ _ J2.out).mono ?_
 rintro e0 w3 ⟨rfl,hb⟩
 have J3:=Hd (J2.out.kept hb)
 clear hb
 go_wp2_with fail
 refine(S3.out _ _ J3.out).mono ?_
 rintro e0 w4 ⟨rfl,hb⟩
 have J4:=Hd (J3.out.kept hb)
 clear hb
 have z0:=cell_of 0 J4.out.tok
 have y0:=free_of 0 J4.out.tok
 have JA:Hid (RJ A n cap k w (w4.setCell ⟨w.heap.size+1+1,0,none⟩ (.int .i64 9)) #[.int .i64 9,.int .i64 0,.int .i64 0,.string ⟨#[]⟩,.string ⟨#[]⟩,.slice none 0 0,.int .i64 0]):=Hd (J4.out.set 0 (.int .i64 9))
 have zb:=cell_of 0 JA.out.bs
 have za:=cell_of 0 JA.out.at_
 go_wp2_with fail
 clear z0 y0
 generalize w4.setCell ⟨w.heap.size+1+1,0,none⟩ (.int .i64 9)=v1 at *
 refine(C.out _ _ JA.out).mono ?_
 rintro e0 u0 ⟨rfl,hb⟩
 have K0:=Hd (JA.out.kept hb)
 clear hb zb za
 have z1:=cell_of 3 K0.out.tok
 have y1:=free_of 3 K0.out.tok
 have K1:Hid (RJ A n cap k w (u0.setCell ⟨w.heap.size+1+1,3,none⟩ (.string ⟨s.toArray⟩)) #[.int .i64 9,.int .i64 0,.int .i64 0,.string ⟨s.toArray⟩,.string ⟨#[]⟩,.slice none 0 0,.int .i64 0]):=Hd (K0.out.set 3 (.string ⟨s.toArray⟩))
 have z2:=cell_of 2 K1.out.tok
 have y2:=free_of 2 K1.out.tok
 have K2:Hid (RJ A n cap k w ((u0.setCell ⟨w.heap.size+1+1,3,none⟩ (.string ⟨s.toArray⟩)).setCell ⟨w.heap.size+1+1,2,none⟩ (.int .i64 (t:Int))) #[.int .i64 9,.int .i64 0,.int .i64 (t:Int),.string ⟨s.toArray⟩,.string ⟨#[]⟩,.slice none 0 0,.int .i64 0]):=Hd (K1.out.set 2 (.int .i64 (t:Int)))
 have JF:=Hd (K2.out.row #[.int .i64 9,.int .i64 0,.int .i64 (t:Int),.string ⟨s.toArray⟩,.string ⟨#[]⟩,.slice none 0 0,.int .i64 0])
 go_wp2_with (first|(refine wpList_load_row rfl _ _ rfl (w.heap.size+1+1) rfl _ _ _ _ K2.out.tok HU.out.2 rfl HU.out.1 ?_)|(refine wpList_store_row rfl _ _ _ rfl (w.heap.size+1+1) #[.int .i64 9,.int .i64 0,.int .i64 (t:Int),.string ⟨s.toArray⟩,.string ⟨#[]⟩,.slice none 0 0,.int .i64 0] rfl rfl _ _ K2.out.tok (by kernel_rfl) rfl (by kernel_rfl) ?_))
 (try simp only[Exit.inBlock,Exit.then])
 exact bodyPost_ret (results_cell2 rfl _ _ (w.heap.size+1+1) _ _ _ _ rfl JF.out.tok HU.out.2 rfl HU.out.1) rfl (TokPost.plain rfl rfl JF.out.below)
end Go.Proofs.YtbafljibbabnaaaGreatDoor
