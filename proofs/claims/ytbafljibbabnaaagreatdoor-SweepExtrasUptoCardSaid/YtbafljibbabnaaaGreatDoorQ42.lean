/- Texts of ours, joined: Tok2b, Tok3. -/
import Derived.Test.YtbafljibbabnaaaGreatDoorQ41
namespace Go.Proofs.YtbafljibbabnaaaGreatDoor
open Go.ChangeShapes Go.WideShapes Go.ChangeAt Go.RowKit
set_option linter.unusedVariables false
set_option maxRecDepth 100000
set_option maxHeartbeats 32000000
theorem tokRead_open (A:Option Addr)(n cap:Nat)(l:List UInt8)(k:Nat)(w:World)(h:Byt w w.heap.size A n cap l)(hW:W11 w)(hm:n≤40000)(hk:k≤n)(h0: [60,33,45,45].isPrefixOf (l.drop k)=false)(h1: [60,33,91,67,68,65,84,65,91].isPrefixOf (l.drop k)=false)(h2: [60,63].isPrefixOf (l.drop k)=false)(h3: [60,47].isPrefixOf (l.drop k)=false)(h4: [60].isPrefixOf (l.drop k)=true) :
 Calls Tryz.prog 27 #[.slice A n cap,.int .i64 (k:Int)] w fun e w'=>TokPost (readTok l k) w e w':=by
 have hln:=h.length
 have HK:Hid (∀ W rs,RJ A n cap k w W rs→Byt W W.heap.size A n cap l∧W11 W):=Hd fun W rs hJ=>⟨(h.below hJ.below).more hJ.below.size,hW.below hJ.below⟩
 have S0:Hid (∀ W rs,RJ A n cap k w W rs→Calls Tryz.prog 48 #[.string ⟨#[60,33,45,45]⟩,.pointer (some ⟨w.heap.size,0,none⟩),.pointer (some ⟨w.heap.size+1,0,none⟩)] W fun e w'=>e= .returned (.bool false)∧Below W.heap.size W w'):=Hd fun W rs hJ=>by
  have:=stands1_c A n cap l k w.heap.size (w.heap.size+1) [60,33,45,45] W (HK.out W rs hJ).1 hk (by decide) (cell_of 0 hJ.bs) (cell_of 0 hJ.at_)
  rwa [h0]at this
 have S1:Hid (∀ W rs,RJ A n cap k w W rs→Calls Tryz.prog 48 #[.string ⟨#[60,33,91,67,68,65,84,65,91]⟩,.pointer (some ⟨w.heap.size,0,none⟩),.pointer (some ⟨w.heap.size+1,0,none⟩)] W fun e w'=>e= .returned (.bool false)∧Below W.heap.size W w'):=Hd fun W rs hJ=>by
  have:=stands1_c A n cap l k w.heap.size (w.heap.size+1) [60,33,91,67,68,65,84,65,91] W (HK.out W rs hJ).1 hk (by decide) (cell_of 0 hJ.bs) (cell_of 0 hJ.at_)
  rwa [h1]at this
 have S2:Hid (∀ W rs,RJ A n cap k w W rs→Calls Tryz.prog 48 #[.string ⟨#[60,63]⟩,.pointer (some ⟨w.heap.size,0,none⟩),.pointer (some ⟨w.heap.size+1,0,none⟩)] W fun e w'=>e= .returned (.bool false)∧Below W.heap.size W w'):=Hd fun W rs hJ=>by
  have:=stands1_c A n cap l k w.heap.size (w.heap.size+1) [60,63] W (HK.out W rs hJ).1 hk (by decide) (cell_of 0 hJ.bs) (cell_of 0 hJ.at_)
  rwa [h2]at this
 have S3:Hid (∀ W rs,RJ A n cap k w W rs→Calls Tryz.prog 48 #[.string ⟨#[60,47]⟩,.pointer (some ⟨w.heap.size,0,none⟩),.pointer (some ⟨w.heap.size+1,0,none⟩)] W fun e w'=>e= .returned (.bool false)∧Below W.heap.size W w'):=Hd fun W rs hJ=>by
  have:=stands1_c A n cap l k w.heap.size (w.heap.size+1) [60,47] W (HK.out W rs hJ).1 hk (by decide) (cell_of 0 hJ.bs) (cell_of 0 hJ.at_)
  rwa [h3]at this
 have S4:Hid (∀ W rs,RJ A n cap k w W rs→Calls Tryz.prog 48 #[.string ⟨#[60]⟩,.pointer (some ⟨w.heap.size,0,none⟩),.pointer (some ⟨w.heap.size+1,0,none⟩)] W fun e w'=>e= .returned (.bool true)∧Below W.heap.size W w'):=Hd fun W rs hJ=>by
  have:=stands1_c A n cap l k w.heap.size (w.heap.size+1) [60] W (HK.out W rs hJ).1 hk (by decide) (cell_of 0 hJ.bs) (cell_of 0 hJ.at_)
  rwa [h4]at this
 have C:Hid (∀ W rs,RJ A n cap k w W rs→Calls Tryz.prog 54 #[.slice A n cap,.int .i64 (k:Int)] W fun e w'=>TokPost (openTok l k) W e w'):=Hd fun W rs hJ=>tokOpened_c A n cap l k W (HK.out W rs hJ).1 (HK.out W rs hJ).2 hm hk
 have hR:readTok l k=openTok l k:=by
  unfold readTok
  rw[if_neg (by rw[h0];simp),if_neg (by rw[h1];simp),if_neg (by rw[h2];simp),if_neg (by rw[h3];simp),if_pos h4]
  rfl
 rw[hR]
 generalize openTok l k=o at *
 obtain⟨o,oe⟩:=o
 have J0:=Hd (RJ.start A n cap k w)
 have hi:(Tryz.prog.info? 47).map (·.size)=some 7:=by kernel_rfl
 obtain⟨sd,hu⟩:=isStruct_of (P:=Tryz.prog) (t:=47) (by kernel_rfl)
 have HU:=Hd (And.intro hi hu)
 have hk0:(0:Int)≤(k:Int):=by omega
 have hk1:(k:Int)≤40000:=by omega
 clear h hW hln HK hi hu h0 h1 h2 h3 h4
 go_enter Tryz.func27,Tryz.ntmps27
 go_wp2_with fail
 refine(S0.out _ _ J0.out).mono ?_
 rintro e0 w1 ⟨rfl,hb⟩
 have J1:=Hd (J0.out.kept hb)
 clear hb
 go_wp2_with fail
 refine(S1.out _ _ J1.out).mono ?_
 rintro e0 w2 ⟨rfl,hb⟩
 have J2:=Hd (J1.out.kept hb)
 clear hb
 go_wp2_with fail
 refine(S2.out _ _ J2.out).mono ?_
 rintro e0 w3 ⟨rfl,hb⟩
 have J3:=Hd (J2.out.kept hb)
 clear hb
 go_wp2_with fail
 refine(S3.out _ _ J3.out).mono ?_
 rintro e0 w4 ⟨rfl,hb⟩
 have J4:=Hd (J3.out.kept hb)
 clear hb
 go_wp2_with fail
 refine(S4.out _ _ J4.out).mono ?_
 rintro e0 w5 ⟨rfl,hb⟩
 have J5:=Hd (J4.out.kept hb)
 clear hb
 have zb:=cell_of 0 J5.out.bs
 have za:=cell_of 0 J5.out.at_
 go_wp2_with fail
 refine(C.out _ _ J5.out).mono ?_
 rintro e0 u0 ⟨v,hv,rfl,hp,hb,hlo⟩
 have K0:=Hd (J5.out.kept hb)
 have JF:=Hd (K0.out.row v.cells.toArray)
 have HP:=Hd (And.intro hp (fun b i h=>Nat.lt_of_lt_of_le J5.out.size (hlo b i h)))
 clear hb hp hlo za zb
 go_wp2_with (refine wpList_store_row rfl _ _ _ rfl (w.heap.size+1+1) v.cells.toArray rfl rfl _ _ K0.out.tok (by kernel_rfl) rfl (by kernel_rfl) ?_)
 (try simp only[Exit.inBlock,Exit.then])
 refine bodyPost_ret (results_cell2 rfl _ _ (w.heap.size+1+1) _ _ _ _ rfl JF.out.tok HU.out.2 rfl HU.out.1) rfl ⟨v,hv,rfl,HP.out.1.move ?_ ?_,JF.out.below,fun b i h=>by have:=HP.out.2 b i h;omega⟩
 · simp[World.setRow]
 · intro b' i' hA hb'
   have hlt:=HP.out.2 b' i' hA
   rw[setRow_at _ _ _ _ (by omega)]
theorem tokRead_char (A:Option Addr)(n cap:Nat)(l:List UInt8)(k:Nat)(w:World)(h:Byt w w.heap.size A n cap l)(hW:W11 w)(hm:n≤40000)(hk:k≤n)(h0: [60,33,45,45].isPrefixOf (l.drop k)=false)(h1: [60,33,91,67,68,65,84,65,91].isPrefixOf (l.drop k)=false)(h2: [60,63].isPrefixOf (l.drop k)=false)(h3: [60,47].isPrefixOf (l.drop k)=false)(h4: [60].isPrefixOf (l.drop k)=false)(h5: [38,35].isPrefixOf (l.drop k)=true) :
 Calls Tryz.prog 27 #[.slice A n cap,.int .i64 (k:Int)] w fun e w'=>TokPost (readTok l k) w e w':=by
 have hln:=h.length
 have HK:Hid (∀ W rs,RJ A n cap k w W rs→Byt W W.heap.size A n cap l∧W11 W):=Hd fun W rs hJ=>⟨(h.below hJ.below).more hJ.below.size,hW.below hJ.below⟩
 have S0:Hid (∀ W rs,RJ A n cap k w W rs→Calls Tryz.prog 48 #[.string ⟨#[60,33,45,45]⟩,.pointer (some ⟨w.heap.size,0,none⟩),.pointer (some ⟨w.heap.size+1,0,none⟩)] W fun e w'=>e= .returned (.bool false)∧Below W.heap.size W w'):=Hd fun W rs hJ=>by
  have:=stands1_c A n cap l k w.heap.size (w.heap.size+1) [60,33,45,45] W (HK.out W rs hJ).1 hk (by decide) (cell_of 0 hJ.bs) (cell_of 0 hJ.at_)
  rwa [h0]at this
 have S1:Hid (∀ W rs,RJ A n cap k w W rs→Calls Tryz.prog 48 #[.string ⟨#[60,33,91,67,68,65,84,65,91]⟩,.pointer (some ⟨w.heap.size,0,none⟩),.pointer (some ⟨w.heap.size+1,0,none⟩)] W fun e w'=>e= .returned (.bool false)∧Below W.heap.size W w'):=Hd fun W rs hJ=>by
  have:=stands1_c A n cap l k w.heap.size (w.heap.size+1) [60,33,91,67,68,65,84,65,91] W (HK.out W rs hJ).1 hk (by decide) (cell_of 0 hJ.bs) (cell_of 0 hJ.at_)
  rwa [h1]at this
 have S2:Hid (∀ W rs,RJ A n cap k w W rs→Calls Tryz.prog 48 #[.string ⟨#[60,63]⟩,.pointer (some ⟨w.heap.size,0,none⟩),.pointer (some ⟨w.heap.size+1,0,none⟩)] W fun e w'=>e= .returned (.bool false)∧Below W.heap.size W w'):=Hd fun W rs hJ=>by
  have:=stands1_c A n cap l k w.heap.size (w.heap.size+1) [60,63] W (HK.out W rs hJ).1 hk (by decide) (cell_of 0 hJ.bs) (cell_of 0 hJ.at_)
  rwa [h2]at this
 have S3:Hid (∀ W rs,RJ A n cap k w W rs→Calls Tryz.prog 48 #[.string ⟨#[60,47]⟩,.pointer (some ⟨w.heap.size,0,none⟩),.pointer (some ⟨w.heap.size+1,0,none⟩)] W fun e w'=>e= .returned (.bool false)∧Below W.heap.size W w'):=Hd fun W rs hJ=>by
  have:=stands1_c A n cap l k w.heap.size (w.heap.size+1) [60,47] W (HK.out W rs hJ).1 hk (by decide) (cell_of 0 hJ.bs) (cell_of 0 hJ.at_)
  rwa [h3]at this
 have S4:Hid (∀ W rs,RJ A n cap k w W rs→Calls Tryz.prog 48 #[.string ⟨#[60]⟩,.pointer (some ⟨w.heap.size,0,none⟩),.pointer (some ⟨w.heap.size+1,0,none⟩)] W fun e w'=>e= .returned (.bool false)∧Below W.heap.size W w'):=Hd fun W rs hJ=>by
  have:=stands1_c A n cap l k w.heap.size (w.heap.size+1) [60] W (HK.out W rs hJ).1 hk (by decide) (cell_of 0 hJ.bs) (cell_of 0 hJ.at_)
  rwa [h4]at this
 have S5:Hid (∀ W rs,RJ A n cap k w W rs→Calls Tryz.prog 48 #[.string ⟨#[38,35]⟩,.pointer (some ⟨w.heap.size,0,none⟩),.pointer (some ⟨w.heap.size+1,0,none⟩)] W fun e w'=>e= .returned (.bool true)∧Below W.heap.size W w'):=Hd fun W rs hJ=>by
  have:=stands1_c A n cap l k w.heap.size (w.heap.size+1) [38,35] W (HK.out W rs hJ).1 hk (by decide) (cell_of 0 hJ.bs) (cell_of 0 hJ.at_)
  rwa [h5]at this
 have C:Hid (∀ W rs,RJ A n cap k w W rs→Calls Tryz.prog 55 #[.slice A n cap,.int .i64 (k:Int)] W fun e w'=>e= .returned (numV (charOut l k))∧Below W.heap.size W w'):=Hd fun W rs hJ=>by
  have hB:=(HK.out W rs hJ).1
  have hW:=(HK.out W rs hJ).2
  have:=crefChar_c A n cap l k W hB hW.forms hW.tabs (by omega)
  have he:charAt l k=charOut l k:=by
   unfold charAt
   rw[hln,if_neg (by omega),Int.toNat_natCast]
  rwa [he]at this
 unfold readTok
 rw[if_neg (by rw[h0];simp),if_neg (by rw[h1];simp),if_neg (by rw[h2];simp),if_neg (by rw[h3];simp),if_neg (by rw[h4];simp),if_pos h5]
 generalize charOut l k=o at *
 obtain⟨r,t,e⟩:=o
 unfold numV at C
 simp only at C ⊢
 have J0:=Hd (RJ.start A n cap k w)
 have hi:(Tryz.prog.info? 47).map (·.size)=some 7:=by kernel_rfl
 obtain⟨sd,hu⟩:=isStruct_of (P:=Tryz.prog) (t:=47) (by kernel_rfl)
 have HU:=Hd (And.intro hi hu)
 have hk0:(0:Int)≤(k:Int):=by omega
 have hk1:(k:Int)≤40000:=by omega
 clear h hW hln HK hi hu h0 h1 h2 h3 h4 h5
 go_enter Tryz.func27,Tryz.ntmps27
 go_wp2_with fail
 refine(S0.out _ _ J0.out).mono ?_
 rintro e0 w1 ⟨rfl,hb⟩
 have J1:=Hd (J0.out.kept hb)
 clear hb
 go_wp2_with fail
 refine(S1.out _ _ J1.out).mono ?_
 rintro e0 w2 ⟨rfl,hb⟩
 have J2:=Hd (J1.out.kept hb)
 clear hb
 go_wp2_with fail
 refine(S2.out _ _ J2.out).mono ?_
 rintro e0 w3 ⟨rfl,hb⟩
 have J3:=Hd (J2.out.kept hb)
 clear hb
 go_wp2_with fail
 refine(S3.out _ _ J3.out).mono ?_
 rintro e0 w4 ⟨rfl,hb⟩
 have J4:=Hd (J3.out.kept hb)
 clear hb
 go_wp2_with fail
 refine(S4.out _ _ J4.out).mono ?_
 rintro e0 w5 ⟨rfl,hb⟩
 have J5:=Hd (J4.out.kept hb)
 clear hb
 go_wp2_with fail
 refine(S5.out _ _ J5.out).mono ?_
 rintro e0 w6 ⟨rfl,hb⟩
 have J6:=Hd (J5.out.kept hb)
 clear hb
 have z0:=cell_of 0 J6.out.tok
 have y0:=free_of 0 J6.out.tok
 have JA:Hid (RJ A n cap k w (w6.setCell ⟨w.heap.size+1+1,0,none⟩ (.int .i64 2)) #[.int .i64 2,.int .i64 0,.int .i64 0,.string ⟨#[]⟩,.string ⟨#[]⟩,.slice none 0 0,.int .i64 0]):=Hd (J6.out.set 0 (.int .i64 2))
 have zb:=cell_of 0 JA.out.bs
 have za:=cell_of 0 JA.out.at_
 go_wp2_with fail
 clear z0 y0
 generalize w6.setCell ⟨w.heap.size+1+1,0,none⟩ (.int .i64 2)=v1 at *
 refine(C.out _ _ JA.out).mono ?_
 rintro e0 u0 ⟨rfl,hb⟩
 have K0:=Hd (JA.out.kept hb)
 clear hb zb za
 have z1:=cell_of 6 K0.out.tok
 have y1:=free_of 6 K0.out.tok
 have K1:Hid (RJ A n cap k w (u0.setCell ⟨w.heap.size+1+1,6,none⟩ (.int .i64 r)) #[.int .i64 2,.int .i64 0,.int .i64 0,.string ⟨#[]⟩,.string ⟨#[]⟩,.slice none 0 0,.int .i64 r]):=Hd (K0.out.set 6 (.int .i64 r))
 have z2:=cell_of 2 K1.out.tok
 have y2:=free_of 2 K1.out.tok
 have K2:Hid (RJ A n cap k w ((u0.setCell ⟨w.heap.size+1+1,6,none⟩ (.int .i64 r)).setCell ⟨w.heap.size+1+1,2,none⟩ (.int .i64 (t:Int))) #[.int .i64 2,.int .i64 0,.int .i64 (t:Int),.string ⟨#[]⟩,.string ⟨#[]⟩,.slice none 0 0,.int .i64 r]):=Hd (K1.out.set 2 (.int .i64 (t:Int)))
 have JF:=Hd (K2.out.row #[.int .i64 2,.int .i64 0,.int .i64 (t:Int),.string ⟨#[]⟩,.string ⟨#[]⟩,.slice none 0 0,.int .i64 r])
 go_wp2_with (first|(refine wpList_load_row rfl _ _ rfl (w.heap.size+1+1) rfl _ _ _ _ K2.out.tok HU.out.2 rfl HU.out.1 ?_)|(refine wpList_store_row rfl _ _ _ rfl (w.heap.size+1+1) #[.int .i64 2,.int .i64 0,.int .i64 (t:Int),.string ⟨#[]⟩,.string ⟨#[]⟩,.slice none 0 0,.int .i64 r] rfl rfl _ _ K2.out.tok (by kernel_rfl) rfl (by kernel_rfl) ?_))
 (try simp only[Exit.inBlock,Exit.then])
 exact bodyPost_ret (results_cell2 rfl _ _ (w.heap.size+1+1) _ _ _ _ rfl JF.out.tok HU.out.2 rfl HU.out.1) rfl (TokPost.plain rfl rfl JF.out.below)
theorem tokRead_ref (A:Option Addr)(n cap:Nat)(l:List UInt8)(k:Nat)(w:World)(h:Byt w w.heap.size A n cap l)(hW:W11 w)(hm:n≤40000)(hk:k≤n)(h0: [60,33,45,45].isPrefixOf (l.drop k)=false)(h1: [60,33,91,67,68,65,84,65,91].isPrefixOf (l.drop k)=false)(h2: [60,63].isPrefixOf (l.drop k)=false)(h3: [60,47].isPrefixOf (l.drop k)=false)(h4: [60].isPrefixOf (l.drop k)=false)(h5: [38,35].isPrefixOf (l.drop k)=false)(h6: [38].isPrefixOf (l.drop k)=true) :
 Calls Tryz.prog 27 #[.slice A n cap,.int .i64 (k:Int)] w fun e w'=>TokPost (readTok l k) w e w':=by
 have hln:=h.length
 have HK:Hid (∀ W rs,RJ A n cap k w W rs→Byt W W.heap.size A n cap l∧W11 W):=Hd fun W rs hJ=>⟨(h.below hJ.below).more hJ.below.size,hW.below hJ.below⟩
 have S0:Hid (∀ W rs,RJ A n cap k w W rs→Calls Tryz.prog 48 #[.string ⟨#[60,33,45,45]⟩,.pointer (some ⟨w.heap.size,0,none⟩),.pointer (some ⟨w.heap.size+1,0,none⟩)] W fun e w'=>e= .returned (.bool false)∧Below W.heap.size W w'):=Hd fun W rs hJ=>by
  have:=stands1_c A n cap l k w.heap.size (w.heap.size+1) [60,33,45,45] W (HK.out W rs hJ).1 hk (by decide) (cell_of 0 hJ.bs) (cell_of 0 hJ.at_)
  rwa [h0]at this
 have S1:Hid (∀ W rs,RJ A n cap k w W rs→Calls Tryz.prog 48 #[.string ⟨#[60,33,91,67,68,65,84,65,91]⟩,.pointer (some ⟨w.heap.size,0,none⟩),.pointer (some ⟨w.heap.size+1,0,none⟩)] W fun e w'=>e= .returned (.bool false)∧Below W.heap.size W w'):=Hd fun W rs hJ=>by
  have:=stands1_c A n cap l k w.heap.size (w.heap.size+1) [60,33,91,67,68,65,84,65,91] W (HK.out W rs hJ).1 hk (by decide) (cell_of 0 hJ.bs) (cell_of 0 hJ.at_)
  rwa [h1]at this
 have S2:Hid (∀ W rs,RJ A n cap k w W rs→Calls Tryz.prog 48 #[.string ⟨#[60,63]⟩,.pointer (some ⟨w.heap.size,0,none⟩),.pointer (some ⟨w.heap.size+1,0,none⟩)] W fun e w'=>e= .returned (.bool false)∧Below W.heap.size W w'):=Hd fun W rs hJ=>by
  have:=stands1_c A n cap l k w.heap.size (w.heap.size+1) [60,63] W (HK.out W rs hJ).1 hk (by decide) (cell_of 0 hJ.bs) (cell_of 0 hJ.at_)
  rwa [h2]at this
 have S3:Hid (∀ W rs,RJ A n cap k w W rs→Calls Tryz.prog 48 #[.string ⟨#[60,47]⟩,.pointer (some ⟨w.heap.size,0,none⟩),.pointer (some ⟨w.heap.size+1,0,none⟩)] W fun e w'=>e= .returned (.bool false)∧Below W.heap.size W w'):=Hd fun W rs hJ=>by
  have:=stands1_c A n cap l k w.heap.size (w.heap.size+1) [60,47] W (HK.out W rs hJ).1 hk (by decide) (cell_of 0 hJ.bs) (cell_of 0 hJ.at_)
  rwa [h3]at this
 have S4:Hid (∀ W rs,RJ A n cap k w W rs→Calls Tryz.prog 48 #[.string ⟨#[60]⟩,.pointer (some ⟨w.heap.size,0,none⟩),.pointer (some ⟨w.heap.size+1,0,none⟩)] W fun e w'=>e= .returned (.bool false)∧Below W.heap.size W w'):=Hd fun W rs hJ=>by
  have:=stands1_c A n cap l k w.heap.size (w.heap.size+1) [60] W (HK.out W rs hJ).1 hk (by decide) (cell_of 0 hJ.bs) (cell_of 0 hJ.at_)
  rwa [h4]at this
 have S5:Hid (∀ W rs,RJ A n cap k w W rs→Calls Tryz.prog 48 #[.string ⟨#[38,35]⟩,.pointer (some ⟨w.heap.size,0,none⟩),.pointer (some ⟨w.heap.size+1,0,none⟩)] W fun e w'=>e= .returned (.bool false)∧Below W.heap.size W w'):=Hd fun W rs hJ=>by
  have:=stands1_c A n cap l k w.heap.size (w.heap.size+1) [38,35] W (HK.out W rs hJ).1 hk (by decide) (cell_of 0 hJ.bs) (cell_of 0 hJ.at_)
  rwa [h5]at this
 have S6:Hid (∀ W rs,RJ A n cap k w W rs→Calls Tryz.prog 48 #[.string ⟨#[38]⟩,.pointer (some ⟨w.heap.size,0,none⟩),.pointer (some ⟨w.heap.size+1,0,none⟩)] W fun e w'=>e= .returned (.bool true)∧Below W.heap.size W w'):=Hd fun W rs hJ=>by
  have:=stands1_c A n cap l k w.heap.size (w.heap.size+1) [38] W (HK.out W rs hJ).1 hk (by decide) (cell_of 0 hJ.bs) (cell_of 0 hJ.at_)
  rwa [h6]at this
 have C:Hid (∀ W rs,RJ A n cap k w W rs→Calls Tryz.prog 56 #[.slice A n cap,.int .i64 (k:Int)] W fun e w'=>e= .returned (outV (refOut 38 l k))∧Below W.heap.size W w'):=Hd fun W rs hJ=>by
  have hB:=(HK.out W rs hJ).1
  have hW:=(HK.out W rs hJ).2
  have:=crefEntity_c A n cap l k W hB hW.forms hW.tabs (by omega)
  have he:refAt 38 l k=refOut 38 l k:=by
   unfold refAt
   rw[hln,if_neg (by omega),Int.toNat_natCast]
  rwa [he]at this
 unfold readTok
 rw[if_neg (by rw[h0];simp),if_neg (by rw[h1];simp),if_neg (by rw[h2];simp),if_neg (by rw[h3];simp),if_neg (by rw[h4];simp),if_neg (by rw[h5];simp),if_pos h6]
 generalize refOut 38 l k=o at *
 obtain⟨s,t,e⟩:=o
 unfold outV at C
 simp only at C ⊢
 have J0:=Hd (RJ.start A n cap k w)
 have hi:(Tryz.prog.info? 47).map (·.size)=some 7:=by kernel_rfl
 obtain⟨sd,hu⟩:=isStruct_of (P:=Tryz.prog) (t:=47) (by kernel_rfl)
 have HU:=Hd (And.intro hi hu)
 have hk0:(0:Int)≤(k:Int):=by omega
 have hk1:(k:Int)≤40000:=by omega
 clear h hW hln HK hi hu h0 h1 h2 h3 h4 h5 h6
 go_enter Tryz.func27,Tryz.ntmps27
 go_wp2_with fail
 refine(S0.out _ _ J0.out).mono ?_
 rintro e0 w1 ⟨rfl,hb⟩
 have J1:=Hd (J0.out.kept hb)
 clear hb
 go_wp2_with fail
 refine(S1.out _ _ J1.out).mono ?_
 rintro e0 w2 ⟨rfl,hb⟩
 have J2:=Hd (J1.out.kept hb)
 clear hb
 go_wp2_with fail
 refine(S2.out _ _ J2.out).mono ?_
 rintro e0 w3 ⟨rfl,hb⟩
 have J3:=Hd (J2.out.kept hb)
 clear hb
 go_wp2_with fail
 refine(S3.out _ _ J3.out).mono ?_
 rintro e0 w4 ⟨rfl,hb⟩
 have J4:=Hd (J3.out.kept hb)
 clear hb
 go_wp2_with fail
 refine(S4.out _ _ J4.out).mono ?_
 rintro e0 w5 ⟨rfl,hb⟩
 have J5:=Hd (J4.out.kept hb)
 clear hb
 go_wp2_with fail
 refine(S5.out _ _ J5.out).mono ?_
 rintro e0 w6 ⟨rfl,hb⟩
 have J6:=Hd (J5.out.kept hb)
 clear hb
 go_wp2_with fail
 refine(S6.out _ _ J6.out).mono ?_
 rintro e0 w7 ⟨rfl,hb⟩
 have J7:=Hd (J6.out.kept hb)
 clear hb
 have z0:=cell_of 0 J7.out.tok
 have y0:=free_of 0 J7.out.tok
 have JA:Hid (RJ A n cap k w (w7.setCell ⟨w.heap.size+1+1,0,none⟩ (.int .i64 3)) #[.int .i64 3,.int .i64 0,.int .i64 0,.string ⟨#[]⟩,.string ⟨#[]⟩,.slice none 0 0,.int .i64 0]):=Hd (J7.out.set 0 (.int .i64 3))
 have zb:=cell_of 0 JA.out.bs
 have za:=cell_of 0 JA.out.at_
 go_wp2_with fail
 clear z0 y0
 generalize w7.setCell ⟨w.heap.size+1+1,0,none⟩ (.int .i64 3)=v1 at *
 refine(C.out _ _ JA.out).mono ?_
 rintro e0 u0 ⟨rfl,hb⟩
 have K0:=Hd (JA.out.kept hb)
 clear hb zb za
 have z1:=cell_of 3 K0.out.tok
 have y1:=free_of 3 K0.out.tok
 have K1:Hid (RJ A n cap k w (u0.setCell ⟨w.heap.size+1+1,3,none⟩ (.string ⟨s.toArray⟩)) #[.int .i64 3,.int .i64 0,.int .i64 0,.string ⟨s.toArray⟩,.string ⟨#[]⟩,.slice none 0 0,.int .i64 0]):=Hd (K0.out.set 3 (.string ⟨s.toArray⟩))
 have z2:=cell_of 2 K1.out.tok
 have y2:=free_of 2 K1.out.tok
 have K2:Hid (RJ A n cap k w ((u0.setCell ⟨w.heap.size+1+1,3,none⟩ (.string ⟨s.toArray⟩)).setCell ⟨w.heap.size+1+1,2,none⟩ (.int .i64 (t:Int))) #[.int .i64 3,.int .i64 0,.int .i64 (t:Int),.string ⟨s.toArray⟩,.string ⟨#[]⟩,.slice none 0 0,.int .i64 0]):=Hd (K1.out.set 2 (.int .i64 (t:Int)))
 have JF:=Hd (K2.out.row #[.int .i64 3,.int .i64 0,.int .i64 (t:Int),.string ⟨s.toArray⟩,.string ⟨#[]⟩,.slice none 0 0,.int .i64 0])
 go_wp2_with (first|(refine wpList_load_row rfl _ _ rfl (w.heap.size+1+1) rfl _ _ _ _ K2.out.tok HU.out.2 rfl HU.out.1 ?_)|(refine wpList_store_row rfl _ _ _ rfl (w.heap.size+1+1) #[.int .i64 3,.int .i64 0,.int .i64 (t:Int),.string ⟨s.toArray⟩,.string ⟨#[]⟩,.slice none 0 0,.int .i64 0] rfl rfl _ _ K2.out.tok (by kernel_rfl) rfl (by kernel_rfl) ?_))
 (try simp only[Exit.inBlock,Exit.then])
 exact bodyPost_ret (results_cell2 rfl _ _ (w.heap.size+1+1) _ _ _ _ rfl JF.out.tok HU.out.2 rfl HU.out.1) rfl (TokPost.plain rfl rfl JF.out.below)
theorem tokRead_text (A:Option Addr)(n cap:Nat)(l:List UInt8)(k:Nat)(w:World)(h:Byt w w.heap.size A n cap l)(hW:W11 w)(hm:n≤40000)(hk:k≤n)(h0: [60,33,45,45].isPrefixOf (l.drop k)=false)(h1: [60,33,91,67,68,65,84,65,91].isPrefixOf (l.drop k)=false)(h2: [60,63].isPrefixOf (l.drop k)=false)(h3: [60,47].isPrefixOf (l.drop k)=false)(h4: [60].isPrefixOf (l.drop k)=false)(h5: [38,35].isPrefixOf (l.drop k)=false)(h6: [38].isPrefixOf (l.drop k)=false) :
 Calls Tryz.prog 27 #[.slice A n cap,.int .i64 (k:Int)] w fun e w'=>TokPost (readTok l k) w e w':=by
 have hln:=h.length
 have HK:Hid (∀ W rs,RJ A n cap k w W rs→Byt W W.heap.size A n cap l∧W11 W):=Hd fun W rs hJ=>⟨(h.below hJ.below).more hJ.below.size,hW.below hJ.below⟩
 have S0:Hid (∀ W rs,RJ A n cap k w W rs→Calls Tryz.prog 48 #[.string ⟨#[60,33,45,45]⟩,.pointer (some ⟨w.heap.size,0,none⟩),.pointer (some ⟨w.heap.size+1,0,none⟩)] W fun e w'=>e= .returned (.bool false)∧Below W.heap.size W w'):=Hd fun W rs hJ=>by
  have:=stands1_c A n cap l k w.heap.size (w.heap.size+1) [60,33,45,45] W (HK.out W rs hJ).1 hk (by decide) (cell_of 0 hJ.bs) (cell_of 0 hJ.at_)
  rwa [h0]at this
 have S1:Hid (∀ W rs,RJ A n cap k w W rs→Calls Tryz.prog 48 #[.string ⟨#[60,33,91,67,68,65,84,65,91]⟩,.pointer (some ⟨w.heap.size,0,none⟩),.pointer (some ⟨w.heap.size+1,0,none⟩)] W fun e w'=>e= .returned (.bool false)∧Below W.heap.size W w'):=Hd fun W rs hJ=>by
  have:=stands1_c A n cap l k w.heap.size (w.heap.size+1) [60,33,91,67,68,65,84,65,91] W (HK.out W rs hJ).1 hk (by decide) (cell_of 0 hJ.bs) (cell_of 0 hJ.at_)
  rwa [h1]at this
 have S2:Hid (∀ W rs,RJ A n cap k w W rs→Calls Tryz.prog 48 #[.string ⟨#[60,63]⟩,.pointer (some ⟨w.heap.size,0,none⟩),.pointer (some ⟨w.heap.size+1,0,none⟩)] W fun e w'=>e= .returned (.bool false)∧Below W.heap.size W w'):=Hd fun W rs hJ=>by
  have:=stands1_c A n cap l k w.heap.size (w.heap.size+1) [60,63] W (HK.out W rs hJ).1 hk (by decide) (cell_of 0 hJ.bs) (cell_of 0 hJ.at_)
  rwa [h2]at this
 have S3:Hid (∀ W rs,RJ A n cap k w W rs→Calls Tryz.prog 48 #[.string ⟨#[60,47]⟩,.pointer (some ⟨w.heap.size,0,none⟩),.pointer (some ⟨w.heap.size+1,0,none⟩)] W fun e w'=>e= .returned (.bool false)∧Below W.heap.size W w'):=Hd fun W rs hJ=>by
  have:=stands1_c A n cap l k w.heap.size (w.heap.size+1) [60,47] W (HK.out W rs hJ).1 hk (by decide) (cell_of 0 hJ.bs) (cell_of 0 hJ.at_)
  rwa [h3]at this
 have S4:Hid (∀ W rs,RJ A n cap k w W rs→Calls Tryz.prog 48 #[.string ⟨#[60]⟩,.pointer (some ⟨w.heap.size,0,none⟩),.pointer (some ⟨w.heap.size+1,0,none⟩)] W fun e w'=>e= .returned (.bool false)∧Below W.heap.size W w'):=Hd fun W rs hJ=>by
  have:=stands1_c A n cap l k w.heap.size (w.heap.size+1) [60] W (HK.out W rs hJ).1 hk (by decide) (cell_of 0 hJ.bs) (cell_of 0 hJ.at_)
  rwa [h4]at this
 have S5:Hid (∀ W rs,RJ A n cap k w W rs→Calls Tryz.prog 48 #[.string ⟨#[38,35]⟩,.pointer (some ⟨w.heap.size,0,none⟩),.pointer (some ⟨w.heap.size+1,0,none⟩)] W fun e w'=>e= .returned (.bool false)∧Below W.heap.size W w'):=Hd fun W rs hJ=>by
  have:=stands1_c A n cap l k w.heap.size (w.heap.size+1) [38,35] W (HK.out W rs hJ).1 hk (by decide) (cell_of 0 hJ.bs) (cell_of 0 hJ.at_)
  rwa [h5]at this
 have S6:Hid (∀ W rs,RJ A n cap k w W rs→Calls Tryz.prog 48 #[.string ⟨#[38]⟩,.pointer (some ⟨w.heap.size,0,none⟩),.pointer (some ⟨w.heap.size+1,0,none⟩)] W fun e w'=>e= .returned (.bool false)∧Below W.heap.size W w'):=Hd fun W rs hJ=>by
  have:=stands1_c A n cap l k w.heap.size (w.heap.size+1) [38] W (HK.out W rs hJ).1 hk (by decide) (cell_of 0 hJ.bs) (cell_of 0 hJ.at_)
  rwa [h6]at this
 have C:Hid (∀ W rs,RJ A n cap k w W rs→Calls Tryz.prog 57 #[.slice A n cap,.int .i64 (k:Int)] W fun e w'=>TokPost (textTok l k) W e w'):=Hd fun W rs hJ=>tokText_c A n cap l k W (HK.out W rs hJ).1 (HK.out W rs hJ).2 hm hk
 have hR:readTok l k=textTok l k:=by
  unfold readTok
  rw[if_neg (by rw[h0];simp),if_neg (by rw[h1];simp),if_neg (by rw[h2];simp),if_neg (by rw[h3];simp),if_neg (by rw[h4];simp),if_neg (by rw[h5];simp),if_neg (by rw[h6];simp)]
 rw[hR]
 generalize textTok l k=o at *
 obtain⟨o,oe⟩:=o
 have J0:=Hd (RJ.start A n cap k w)
 have hi:(Tryz.prog.info? 47).map (·.size)=some 7:=by kernel_rfl
 obtain⟨sd,hu⟩:=isStruct_of (P:=Tryz.prog) (t:=47) (by kernel_rfl)
 have HU:=Hd (And.intro hi hu)
 have hk0:(0:Int)≤(k:Int):=by omega
 have hk1:(k:Int)≤40000:=by omega
 clear h hW hln HK hi hu h0 h1 h2 h3 h4 h5 h6
 go_enter Tryz.func27,Tryz.ntmps27
 go_wp2_with fail
 refine(S0.out _ _ J0.out).mono ?_
 rintro e0 w1 ⟨rfl,hb⟩
 have J1:=Hd (J0.out.kept hb)
 clear hb
 go_wp2_with fail
 refine(S1.out _ _ J1.out).mono ?_
 rintro e0 w2 ⟨rfl,hb⟩
 have J2:=Hd (J1.out.kept hb)
 clear hb
 go_wp2_with fail
 refine(S2.out _ _ J2.out).mono ?_
 rintro e0 w3 ⟨rfl,hb⟩
 have J3:=Hd (J2.out.kept hb)
 clear hb
 go_wp2_with fail
 refine(S3.out _ _ J3.out).mono ?_
 rintro e0 w4 ⟨rfl,hb⟩
 have J4:=Hd (J3.out.kept hb)
 clear hb
 go_wp2_with fail
 refine(S4.out _ _ J4.out).mono ?_
 rintro e0 w5 ⟨rfl,hb⟩
 have J5:=Hd (J4.out.kept hb)
 clear hb
 go_wp2_with fail
 refine(S5.out _ _ J5.out).mono ?_
 rintro e0 w6 ⟨rfl,hb⟩
 have J6:=Hd (J5.out.kept hb)
 clear hb
 go_wp2_with fail
 refine(S6.out _ _ J6.out).mono ?_
 rintro e0 w7 ⟨rfl,hb⟩
 have J7:=Hd (J6.out.kept hb)
 clear hb
 have zb:=cell_of 0 J7.out.bs
 have za:=cell_of 0 J7.out.at_
 go_wp2_with fail
 refine(C.out _ _ J7.out).mono ?_
 rintro e0 u0 ⟨v,hv,rfl,hp,hb,hlo⟩
 have K0:=Hd (J7.out.kept hb)
 have JF:=Hd (K0.out.row v.cells.toArray)
 have HP:=Hd (And.intro hp (fun b i h=>Nat.lt_of_lt_of_le J7.out.size (hlo b i h)))
 clear hb hp hlo za zb
 go_wp2_with (refine wpList_store_row rfl _ _ _ rfl (w.heap.size+1+1) v.cells.toArray rfl rfl _ _ K0.out.tok (by kernel_rfl) rfl (by kernel_rfl) ?_)
 (try simp only[Exit.inBlock,Exit.then])
 refine bodyPost_ret (results_cell2 rfl _ _ (w.heap.size+1+1) _ _ _ _ rfl JF.out.tok HU.out.2 rfl HU.out.1) rfl ⟨v,hv,rfl,HP.out.1.move ?_ ?_,JF.out.below,fun b i h=>by have:=HP.out.2 b i h;omega⟩
 · simp[World.setRow]
 · intro b' i' hA hb'
   have hlt:=HP.out.2 b' i' hA
   rw[setRow_at _ _ _ _ (by omega)]
theorem tokRead_c (A:Option Addr)(n cap:Nat)(l:List UInt8)(k:Nat)(w:World)(h:Byt w w.heap.size A n cap l)(hW:W11 w)(hm:n≤40000)(hk:k≤n) :
 Calls Tryz.prog 27 #[.slice A n cap,.int .i64 (k:Int)] w fun e w'=>TokPost (readTok l k) w e w':=by
 cases h0: [60,33,45,45].isPrefixOf (l.drop k)with
 |true=>exact tokRead_comment A n cap l k w h hW hm hk h0
 |false =>
  cases h1: [60,33,91,67,68,65,84,65,91].isPrefixOf (l.drop k)with
  |true=>exact tokRead_cdata A n cap l k w h hW hm hk h0 h1
  |false =>
   cases h2: [60,63].isPrefixOf (l.drop k)with
   |true=>exact tokRead_pi A n cap l k w h hW hm hk h0 h1 h2
   |false =>
    cases h3: [60,47].isPrefixOf (l.drop k)with
    |true=>exact tokRead_close A n cap l k w h hW hm hk h0 h1 h2 h3
    |false =>
     cases h4: [60].isPrefixOf (l.drop k)with
     |true=>exact tokRead_open A n cap l k w h hW hm hk h0 h1 h2 h3 h4
     |false =>
      cases h5: [38,35].isPrefixOf (l.drop k)with
      |true=>exact tokRead_char A n cap l k w h hW hm hk h0 h1 h2 h3 h4 h5
      |false =>
       cases h6: [38].isPrefixOf (l.drop k)with
       |true=>exact tokRead_ref A n cap l k w h hW hm hk h0 h1 h2 h3 h4 h5 h6
       |false =>
        exact tokRead_text A n cap l k w h hW hm hk h0 h1 h2 h3 h4 h5 h6
theorem tokNext_c (A:Option Addr)(n cap:Nat)(l:List UInt8)(at_:Int)(w:World)(h:Byt w w.heap.size A n cap l)(hW:W11 w)(hm:n≤40000) :
 Calls Tryz.prog 12 #[.slice A n cap,.int .i64 at_] w fun e w'=>TokPost (nextAt l at_) w e w':=by
 have hln:=h.length
 have hJ:=CJ.start 47 w #[.int .i64 0,.int .i64 0,.int .i64 0,.string ⟨#[]⟩,.string ⟨#[]⟩,.slice none 0 0,.int .i64 0]
 have hi:(Tryz.prog.info? 47).map (·.size)=some 7:=by kernel_rfl
 obtain⟨sd,hu⟩:=isStruct_of (P:=Tryz.prog) (t:=47) (by kernel_rfl)
 have HU:=Hd (And.intro hi hu)
 have J0:=Hd hJ
 have C:Hid (∀ k:Nat,k<n→ ∀ W,Below w.heap.size w W→Calls Tryz.prog 27 #[.slice A n cap,.int .i64 (k:Int)] W fun e w'=>TokPost (readTok l k) W e w'):=Hd fun k hk W hb=>tokRead_c A n cap l k W ((h.below hb).more hb.size) (hW.below hb) hm (by omega)
 unfold nextAt
 rw[hln]
 have JZ:=Hd (J0.out.row #[.int .i64 0,.int .i64 0,.int .i64 0,.string ⟨#[]⟩,.string ⟨#[]⟩,.slice none 0 0,.int .i64 0])
 clear h hW hi hu hJ hln
 by_cases ha:at_<0∨(n:Int)<at_
 · rw[if_pos ha]
   clear C
   by_cases h0:at_<0
   · have hd:decide (at_<0)=true:=by simpa using h0
     clear ha
     go_enter Tryz.func12,Tryz.ntmps12
     go_wp2_with (refine wpList_store_row rfl _ _ _ rfl w.heap.size #[.int .i64 0,.int .i64 0,.int .i64 0,.string ⟨#[]⟩,.string ⟨#[]⟩,.slice none 0 0,.int .i64 0] rfl rfl _ _ J0.out.2 (by kernel_rfl) rfl (by kernel_rfl) ?_)
     (try simp only[Exit.inBlock,Exit.then])
     exact bodyPost_ret (results_cell2 rfl _ _ w.heap.size _ _ _ _ rfl JZ.out.2 HU.out.2 rfl HU.out.1) rfl (TokPost.no rfl JZ.out.1)
   · have h1:(n:Int)<at_:=by omega
     clear ha
     go_enter Tryz.func12,Tryz.ntmps12
     go_wp2_with (refine wpList_store_row rfl _ _ _ rfl w.heap.size #[.int .i64 0,.int .i64 0,.int .i64 0,.string ⟨#[]⟩,.string ⟨#[]⟩,.slice none 0 0,.int .i64 0] rfl rfl _ _ J0.out.2 (by kernel_rfl) rfl (by kernel_rfl) ?_)
     (try simp only[Exit.inBlock,Exit.then])
     exact bodyPost_ret (results_cell2 rfl _ _ w.heap.size _ _ _ _ rfl JZ.out.2 HU.out.2 rfl HU.out.1) rfl (TokPost.no rfl JZ.out.1)
 · rw[if_neg ha]
   by_cases hn:at_=(n:Int)
   · rw[if_pos hn]
     subst hn
     clear ha C
     have hn0: ¬ (n:Int)<0:=by omega
     go_enter Tryz.func12,Tryz.ntmps12
     go_wp2_with (refine wpList_store_row rfl _ _ _ rfl w.heap.size #[.int .i64 0,.int .i64 0,.int .i64 0,.string ⟨#[]⟩,.string ⟨#[]⟩,.slice none 0 0,.int .i64 0] rfl rfl _ _ J0.out.2 (by kernel_rfl) rfl (by kernel_rfl) ?_)
     (try simp only[Exit.inBlock,Exit.then])
     exact bodyPost_ret (results_cell2 rfl _ _ w.heap.size _ _ _ _ rfl JZ.out.2 HU.out.2 rfl HU.out.1) rfl (TokPost.no rfl JZ.out.1)
   · rw[if_neg hn]
     obtain⟨k,rfl⟩: ∃ k:Nat,at_=(k:Int):=⟨at_.toNat,by omega⟩
     rw[Int.toNat_natCast]
     have hk:k<n:=by omega
     have C1:=Hd (C.out k hk _ J0.out.1)
     unfold nextOut
     generalize readTok l k=ro at *
     obtain⟨o,e⟩:=ro
     have hk0: ¬ (k:Int)<0:=by omega
     have hk1: ¬ (n:Int)<(k:Int):=by omega
     have hk2:((k:Int)==(n:Int))=false:=by simp;omega
     clear ha hn hk C
     by_cases he:e=0
     · subst he
       rw[if_pos rfl]
       go_enter Tryz.func12,Tryz.ntmps12
       go_wp2_with fail
       refine C1.out.mono ?_
       intro e0 w1 hp
       obtain⟨PA,pn,pc,rfl,hpr,hb,hlo⟩:=hp.out
       simp only at hpr ⊢
       have J1:=J0.out.kept hb
       have HP:=Hd (And.intro hpr (fun b i h=>Nat.lt_of_lt_of_le (lt_of J0.out.2) (hlo b i h)))
       have J4:=Hd (J1.kept ((Below.refl _ w1).alloc (Nat.le_refl _) (.cells #[.int .i64 o.kind,.int .i64 (k:Int),.int .i64 o.to_,.string ⟨o.name.toArray⟩,.string ⟨o.text.toArray⟩,.slice PA pn pc,.int .i64 o.r] 47)))
       have HQ:=Hd (hp_new w1 (.cells #[.int .i64 o.kind,.int .i64 (k:Int),.int .i64 o.to_,.string ⟨o.name.toArray⟩,.string ⟨o.text.toArray⟩,.slice PA pn pc,.int .i64 o.r] 47))
       have JF:=Hd (J4.out.row #[.int .i64 o.kind,.int .i64 (k:Int),.int .i64 o.to_,.string ⟨o.name.toArray⟩,.string ⟨o.text.toArray⟩,.slice PA pn pc,.int .i64 o.r])
       clear hpr hb hlo J1 hp
       go_wp2_with (first|(refine wpList_load_row rfl _ _ rfl w1.heap.size rfl _ _ _ _ HQ.out HU.out.2 rfl HU.out.1 ?_)|(refine wpList_store_row rfl _ _ _ rfl w.heap.size #[.int .i64 o.kind,.int .i64 (k:Int),.int .i64 o.to_,.string ⟨o.name.toArray⟩,.string ⟨o.text.toArray⟩,.slice PA pn pc,.int .i64 o.r] rfl rfl _ _ J4.out.2 (by kernel_rfl) rfl (by kernel_rfl) ?_))
       (try simp only[Exit.inBlock,Exit.then])
       refine bodyPost_ret (results_cell2 rfl _ _ w.heap.size _ _ _ _ rfl JF.out.2 HU.out.2 rfl HU.out.1) rfl (TokPost.of PA pn pc rfl (HP.out.1.move ?_ ?_) JF.out.1 fun b i h=>Nat.le_of_lt (HP.out.2 b i h))
       · simp[World.setRow]
       · intro b' i' hA hb'
         have hlt:=HP.out.2 b' i' hA
         rw[setRow_at _ _ _ _ (by omega),Below.heap_alloc _ _ _ hb']
     · rw[if_neg he]
       have hei:((e:Int)==0)=false:=by simp;omega
       go_enter Tryz.func12,Tryz.ntmps12
       go_wp2_with fail
       refine C1.out.mono ?_
       intro e0 w1 hp
       obtain⟨PA,pn,pc,rfl,hpr,hb,hlo⟩:=hp.out
       simp only at hpr ⊢
       have J1:=J0.out.kept hb
       have J4:=Hd (J1.kept ((Below.refl _ w1).alloc (Nat.le_refl _) (.cells #[.int .i64 o.kind,.int .i64 o.fro,.int .i64 o.to_,.string ⟨o.name.toArray⟩,.string ⟨o.text.toArray⟩,.slice PA pn pc,.int .i64 o.r] 47)))
       have JF:=Hd (J4.out.row #[.int .i64 0,.int .i64 0,.int .i64 0,.string ⟨#[]⟩,.string ⟨#[]⟩,.slice none 0 0,.int .i64 0])
       clear hpr hb hlo J1 hp
       go_wp2_with (refine wpList_store_row rfl _ _ _ rfl w.heap.size #[.int .i64 0,.int .i64 0,.int .i64 0,.string ⟨#[]⟩,.string ⟨#[]⟩,.slice none 0 0,.int .i64 0] rfl rfl _ _ J4.out.2 (by kernel_rfl) rfl (by kernel_rfl) ?_)
       (try simp only[Exit.inBlock,Exit.then])
       exact bodyPost_ret (results_cell2 rfl _ _ w.heap.size _ _ _ _ rfl JF.out.2 HU.out.2 rfl HU.out.1) rfl (TokPost.no rfl JF.out.1)
end Go.Proofs.YtbafljibbabnaaaGreatDoor
