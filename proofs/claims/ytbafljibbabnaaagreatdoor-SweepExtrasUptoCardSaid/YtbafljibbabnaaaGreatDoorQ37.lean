/- Texts of ours, joined: Tok1, Tok3a. -/
import Derived.Test.YtbafljibbabnaaaGreatDoorQ36
namespace Go.Proofs.YtbafljibbabnaaaGreatDoor
open Go.ChangeShapes Go.WideShapes Go.ChangeAt Go.RowKit
set_option linter.unusedVariables false
set_option maxRecDepth 100000
set_option maxHeartbeats 32000000
structure W11 (w:World):Prop where
 tabs:Tabs w
 forms:Forms w
 maxl:MaxL w
 fold:FoldT w
 u8:Lib.Utf8Tabs 8 9 w
theorem W11.below {w w':World}(h:W11 w)(hb:Below w.heap.size w w'):W11 w' :=
 ⟨h.tabs.below hb (h.tabs.low h.forms),h.forms.below hb h.forms.lt,h.maxl.below hb h.maxl.lt,h.fold.below hb h.fold.lt,utf8_below h.u8 hb (utf8_lt h.u8).1 (utf8_lt h.u8).2⟩
theorem W11.w10 {w:World}(h:W11 w):W10 w:=⟨h.tabs,h.forms⟩
theorem W11.w8f {w:World}(h:W11 w):W8F w:=⟨⟨h.tabs.n,h.forms,h.maxl⟩,h.fold⟩
theorem stands1_c (A:Option Addr)(n cap:Nat)(l:List UInt8)(k bb ab:Nat)(p:List UInt8)(w:World)(h:Byt w w.heap.size A n cap l)(hk:k≤n)(hp:p.length≤100)(hzb:w.cell? ⟨bb,0,none⟩=some (.slice A n cap))(hza:w.cell? ⟨ab,0,none⟩=some (.int .i64 (k:Int))) :
 Calls Tryz.prog 48 #[.string ⟨p.toArray⟩,.pointer (some ⟨bb,0,none⟩),.pointer (some ⟨ab,0,none⟩)] w fun e w'=>e= .returned (.bool (p.isPrefixOf (l.drop k)))∧Below w.heap.size w w':=by
 have hrf:=run_from (w:=w) A n cap k hk
 have cv:=run_toBytes w p
 have hb1:=Go.Joins.below_bytesWorld w.heap.size w 5 ⟨p.toArray⟩ (Nat.le_refl _)
 have C1:=Hd (hasPrefix_c _ _ _ _ _ _ _ _ _ _ _ ((h.drop hk).below hb1) (byt_new w p (by omega)))
 have HB:=Hd hb1
 clear h hb1
 go_enter Tryz.func48,Tryz.ntmps48
 go_wp2_with fail
 refine C1.out.mono ?_
 rintro e wq ⟨rfl,hwq⟩
 subst hwq
 go_wp2
 go_ret
 exact⟨rfl,HB.out⟩
def TokPost (o:TokL × Nat)(w:World)(e:Ending)(w':World):Prop :=
 ∃ v:TokV,v.t=o.1∧e= .returned (.tuple #[.agg v.cells.toArray,.int .i64 (o.2:Int)])∧PRd w' w'.heap.size v.A v.n v.c v.t.pairs∧Below w.heap.size w w'∧ ∀ b i,v.A=some ⟨b,i,none⟩→w.heap.size≤b
def openTok (l:List UInt8)(k:Nat):TokL × Nat:=(⟨if (openOut l k).1.empty=true then 8 else 7,0,((openOut l k).2.1:Int),(openOut l k).1.name,[],(openOut l k).1.pairs,0⟩,(openOut l k).2.2)
theorem tokOpened_c (A:Option Addr)(n cap:Nat)(l:List UInt8)(k:Nat)(w:World)(h:Byt w w.heap.size A n cap l)(hW:W11 w)(hm:n≤40000)(hk:k≤n) :
 Calls Tryz.prog 54 #[.slice A n cap,.int .i64 (k:Int)] w fun e w'=>TokPost (openTok l k) w e w':=by
 have hJ:=CJ.start 47 w #[.int .i64 0,.int .i64 0,.int .i64 0,.string ⟨#[]⟩,.string ⟨#[]⟩,.slice none 0 0,.int .i64 0]
 have hi:(Tryz.prog.info? 47).map (·.size)=some 7:=by kernel_rfl
 obtain⟨d,hu⟩:=isStruct_of (P:=Tryz.prog) (t:=47) (by kernel_rfl)
 have HU:=Hd (And.intro hi hu)
 have C1:=Hd (tagOpenF_in A n cap l k _ ((h.below hJ.1).more hJ.1.size) (hW.below hJ.1).w10 hm hk)
 unfold openTok
 have J0:=Hd hJ
 clear h hW hJ hi hu
 generalize openOut l k=o at *
 obtain⟨⟨s,ps,em⟩,tq,e⟩:=o
 simp only
 cases em
 · simp only[Bool.false_eq_true,if_false]
   go_enter Tryz.func54,Tryz.ntmps54
   go_wp2_with fail
   refine C1.out.mono ?_
   rintro e0 w1 ⟨PA,pn,pc,rfl,hpr,hb,hlo⟩
   have J1:=J0.out.kept hb
   have HP:=Hd (And.intro hpr (fun b i h=>Nat.lt_of_lt_of_le (lt_of J0.out.2) (hlo b i h)))
   have hq:=hp_new w1 (.cells #[.string ⟨s.toArray⟩,.slice PA pn pc,.bool false] 143)
   have ka:=(Below.refl _ w1).alloc (Nat.le_refl _) (.cells #[.string ⟨s.toArray⟩,.slice PA pn pc,.bool false] 143)
   have kb:=ka.alloc (by simp) (.cells #[.int .i64 7,.int .i64 0,.int .i64 (tq:Int),.string ⟨s.toArray⟩,.string ⟨#[]⟩,.slice PA pn pc,.int .i64 0] 47)
   have z2:((w1.alloc (.cells #[.string ⟨s.toArray⟩,.slice PA pn pc,.bool false] 143)).alloc (.cells #[.int .i64 7,.int .i64 0,.int .i64 (tq:Int),.string ⟨s.toArray⟩,.string ⟨#[]⟩,.slice PA pn pc,.int .i64 0] 47)).cell? ⟨w1.heap.size,2,none⟩=some (.bool false):=by
    have:((w1.alloc (.cells #[.string ⟨s.toArray⟩,.slice PA pn pc,.bool false] 143)).alloc (.cells #[.int .i64 7,.int .i64 0,.int .i64 (tq:Int),.string ⟨s.toArray⟩,.string ⟨#[]⟩,.slice PA pn pc,.int .i64 0] 47)).heap[w1.heap.size]? =some (.cells #[.string ⟨s.toArray⟩,.slice PA pn pc,.bool false] 143):=by
     rw[Below.heap_alloc _ _ _ (by simp)]
     exact hq
    exact cell_of 2 this
   have hq4:((w1.alloc (.cells #[.string ⟨s.toArray⟩,.slice PA pn pc,.bool false] 143)).alloc (.cells #[.int .i64 7,.int .i64 0,.int .i64 (tq:Int),.string ⟨s.toArray⟩,.string ⟨#[]⟩,.slice PA pn pc,.int .i64 0] 47)).heap[w1.heap.size+1]? =some (.cells #[.int .i64 7,.int .i64 0,.int .i64 (tq:Int),.string ⟨s.toArray⟩,.string ⟨#[]⟩,.slice PA pn pc,.int .i64 0] 47):=by
    have:=hp_new (w1.alloc (.cells #[.string ⟨s.toArray⟩,.slice PA pn pc,.bool false] 143)) (.cells #[.int .i64 7,.int .i64 0,.int .i64 (tq:Int),.string ⟨s.toArray⟩,.string ⟨#[]⟩,.slice PA pn pc,.int .i64 0] 47)
    rwa [World.size_alloc]at this
   have J4:=Hd (J1.kept kb)
   have HQ4:=Hd hq4
   have JF:=Hd (J4.out.row #[.int .i64 7,.int .i64 0,.int .i64 (tq:Int),.string ⟨s.toArray⟩,.string ⟨#[]⟩,.slice PA pn pc,.int .i64 0])
   clear hpr hb hlo J1 ka kb hq hq4
   go_wp2_with (first|(refine wpList_load_row rfl _ _ rfl (w1.heap.size+1) rfl _ _ _ _ HQ4.out HU.out.2 rfl HU.out.1 ?_)|(refine wpList_store_row rfl _ _ _ rfl w.heap.size #[.int .i64 7,.int .i64 0,.int .i64 (tq:Int),.string ⟨s.toArray⟩,.string ⟨#[]⟩,.slice PA pn pc,.int .i64 0] rfl rfl _ _ J4.out.2 (by kernel_rfl) rfl (by kernel_rfl) ?_))
   (try simp only[Exit.inBlock,Exit.then])
   refine bodyPost_ret (results_cell2 rfl _ _ w.heap.size _ _ _ _ rfl JF.out.2 HU.out.2 rfl HU.out.1) rfl ⟨⟨⟨7,0,(tq:Int),s,[],ps,0⟩,PA,pn,pc⟩,rfl,rfl,HP.out.1.move ?_ ?_,JF.out.1,fun b i h=>Nat.le_of_lt (HP.out.2 b i h)⟩
   · simp[World.setRow];omega
   · intro b' i' hA hb'
     have hlt:=HP.out.2 b' i' hA
     rw[setRow_at _ _ _ _ (by omega),Below.heap_alloc _ _ _ (by simp;omega),Below.heap_alloc _ _ _ hb']
 · simp only[if_true]
   go_enter Tryz.func54,Tryz.ntmps54
   go_wp2_with fail
   refine C1.out.mono ?_
   rintro e0 w1 ⟨PA,pn,pc,rfl,hpr,hb,hlo⟩
   have J1:=J0.out.kept hb
   have HP:=Hd (And.intro hpr (fun b i h=>Nat.lt_of_lt_of_le (lt_of J0.out.2) (hlo b i h)))
   have hq:=hp_new w1 (.cells #[.string ⟨s.toArray⟩,.slice PA pn pc,.bool true] 143)
   have ka:=(Below.refl _ w1).alloc (Nat.le_refl _) (.cells #[.string ⟨s.toArray⟩,.slice PA pn pc,.bool true] 143)
   have kb:=ka.alloc (by simp) (.cells #[.int .i64 8,.int .i64 0,.int .i64 (tq:Int),.string ⟨s.toArray⟩,.string ⟨#[]⟩,.slice PA pn pc,.int .i64 0] 47)
   have z2:((w1.alloc (.cells #[.string ⟨s.toArray⟩,.slice PA pn pc,.bool true] 143)).alloc (.cells #[.int .i64 7,.int .i64 0,.int .i64 (tq:Int),.string ⟨s.toArray⟩,.string ⟨#[]⟩,.slice PA pn pc,.int .i64 0] 47)).cell? ⟨w1.heap.size,2,none⟩=some (.bool true):=by
     have:((w1.alloc (.cells #[.string ⟨s.toArray⟩,.slice PA pn pc,.bool true] 143)).alloc (.cells #[.int .i64 7,.int .i64 0,.int .i64 (tq:Int),.string ⟨s.toArray⟩,.string ⟨#[]⟩,.slice PA pn pc,.int .i64 0] 47)).heap[w1.heap.size]? =some (.cells #[.string ⟨s.toArray⟩,.slice PA pn pc,.bool true] 143):=by
      rw[Below.heap_alloc _ _ _ (by simp)]
      exact hq
     exact cell_of 2 this
   have hq4:((w1.alloc (.cells #[.string ⟨s.toArray⟩,.slice PA pn pc,.bool true] 143)).alloc (.cells #[.int .i64 8,.int .i64 0,.int .i64 (tq:Int),.string ⟨s.toArray⟩,.string ⟨#[]⟩,.slice PA pn pc,.int .i64 0] 47)).heap[w1.heap.size+1]? =some (.cells #[.int .i64 8,.int .i64 0,.int .i64 (tq:Int),.string ⟨s.toArray⟩,.string ⟨#[]⟩,.slice PA pn pc,.int .i64 0] 47):=by
     have:=hp_new (w1.alloc (.cells #[.string ⟨s.toArray⟩,.slice PA pn pc,.bool true] 143)) (.cells #[.int .i64 8,.int .i64 0,.int .i64 (tq:Int),.string ⟨s.toArray⟩,.string ⟨#[]⟩,.slice PA pn pc,.int .i64 0] 47)
     rwa [World.size_alloc]at this
   have J4:=Hd (J1.kept kb)
   have HQ4:=Hd hq4
   have JF:=Hd (J4.out.row #[.int .i64 8,.int .i64 0,.int .i64 (tq:Int),.string ⟨s.toArray⟩,.string ⟨#[]⟩,.slice PA pn pc,.int .i64 0])
   clear hpr hb hlo J1 ka kb hq hq4
   go_wp2_with (first|(refine wpList_load_row rfl _ _ rfl (w1.heap.size+1) rfl _ _ _ _ HQ4.out HU.out.2 rfl HU.out.1 ?_)|(refine wpList_store_row rfl _ _ _ rfl w.heap.size #[.int .i64 8,.int .i64 0,.int .i64 (tq:Int),.string ⟨s.toArray⟩,.string ⟨#[]⟩,.slice PA pn pc,.int .i64 0] rfl rfl _ _ J4.out.2 (by kernel_rfl) rfl (by kernel_rfl) ?_))
   (try simp only[Exit.inBlock,Exit.then])
   refine bodyPost_ret (results_cell2 rfl _ _ w.heap.size _ _ _ _ rfl JF.out.2 HU.out.2 rfl HU.out.1) rfl ⟨⟨⟨8,0,(tq:Int),s,[],ps,0⟩,PA,pn,pc⟩,rfl,rfl,HP.out.1.move ?_ ?_,JF.out.1,fun b i h=>Nat.le_of_lt (HP.out.2 b i h)⟩
   · simp[World.setRow];omega
   · intro b' i' hA hb'
     have hlt:=HP.out.2 b' i' hA
     rw[setRow_at _ _ _ _ (by omega),Below.heap_alloc _ _ _ (by simp;omega),Below.heap_alloc _ _ _ hb']
theorem tokText_c (A:Option Addr)(n cap:Nat)(l:List UInt8)(k:Nat)(w:World)(h:Byt w w.heap.size A n cap l)(hW:W11 w)(hm:n≤40000)(hk:k≤n) :
 Calls Tryz.prog 57 #[.slice A n cap,.int .i64 (k:Int)] w fun e w'=>TokPost (textTok l k) w e w':=by
 have hln:=h.length
 have hJ:=CJ.start 47 w #[.int .i64 0,.int .i64 0,.int .i64 0,.string ⟨#[]⟩,.string ⟨#[]⟩,.slice none 0 0,.int .i64 0]
 have hi:(Tryz.prog.info? 47).map (·.size)=some 7:=by kernel_rfl
 obtain⟨d,hu⟩:=isStruct_of (P:=Tryz.prog) (t:=47) (by kernel_rfl)
 have HU:=Hd (And.intro hi hu)
 have hB:=(h.below hJ.1).more hJ.1.size
 have hX:=ix_txt (l.drop k)
 have hld:(l.drop k).length=n - k:=by rw[List.length_drop,hln]
 have htl:=txt_le (l.drop k)
 have hpre:txt (l.drop k)=(l.drop k).take (txt (l.drop k)).length:=List.prefix_iff_eq_take.1 (List.takeWhile_prefix _)
 have C1:=Hd (indexAm_c _ _ _ _ _ (hB.drop hk) (hW.below hJ.1).u8 (hW.below hJ.1).maxl (by omega))
 have C2:Hid (∀ W,Below w.heap.size w W→Calls Tryz.prog 88 #[.string ⟨(txt (l.drop k)).toArray⟩,.string ⟨#[93,93,62]⟩] W fun e w'=>e= .returned (.bool (Lib.contains (txt (l.drop k)) [93,93,62]))∧W=w'):=Hd fun W hb=>contains_c (txt (l.drop k)) [93,93,62] W (hW.below hb).maxl (by omega)
 have hst: ∀ W,Below w.heap.size w W→(convert 29 9 (.slice (cutA A cap k) (txt (l.drop k)).length (cap - k))).run Tryz.prog W= .ok (.string ⟨(txt (l.drop k)).toArray⟩) W:=fun W hb=>by
  have:=(((h.below hb).drop hk).take (k:=(txt (l.drop k)).length) (by omega)).str
  rwa [← hpre]at this
 have hrf:=fun W:World=>run_from (w:=W) A n cap k hk
 have hcap:=h.le
 have hft:=fun W:World=>run_fromTo (w:=W) A n cap k (k+(txt (l.drop k)).length) (by omega) (by omega)
 unfold textTok
 rw[hX]at C1
 have J0:=Hd hJ
 clear h hW hJ hi hu hB hX hpre
 generalize txt (l.drop k)=s at *
 have hk0:(0:Int)≤(k:Int):=by omega
 have hk1:(k:Int)≤40000:=by omega
 have hs1:(s.length:Int)≤40000:=by omega
 rw[show ((k+s.length:Nat):Int)=(k:Int)+(s.length:Int)by omega,show k+s.length - k=s.length by omega]at hft
 rw[show ((k+s.length:Nat):Int)=(k:Int)+(s.length:Int)by omega]
 generalize Lib.contains s [93,93,62]=ct at *
 rw[hld]at C1
 by_cases hsl:s.length<n - k
 · rw[if_pos hsl]at C1
   have hs0: ¬ (s.length:Int)<0:=by omega
   have HST:=Hd hst
   cases ct
   · simp only[Bool.false_eq_true,if_false]
     go_enter Tryz.func57,Tryz.ntmps57
     go_wp2_with fail
     refine C1.out.mono ?_
     rintro e0 w1 ⟨rfl,hb⟩
     have J1:=Hd (J0.out.kept hb)
     have hst1:=HST.out w1 J1.out.1
     have JF:=Hd (J1.out.row #[.int .i64 1,.int .i64 0,.int .i64 ((k:Int)+(s.length:Int)),.string ⟨#[]⟩,.string ⟨s.toArray⟩,.slice none 0 0,.int .i64 0])
     clear hb
     go_wp2_with fail
     refine(C2.out _ J1.out.1).mono ?_
     rintro e0 wq ⟨rfl,hwq⟩
     subst hwq
     go_wp2_with (refine wpList_store_row rfl _ _ _ rfl w.heap.size #[.int .i64 1,.int .i64 0,.int .i64 ((k:Int)+(s.length:Int)),.string ⟨#[]⟩,.string ⟨s.toArray⟩,.slice none 0 0,.int .i64 0] rfl rfl _ _ J1.out.2 (by kernel_rfl) rfl (by kernel_rfl) ?_)
     (try simp only[Exit.inBlock,Exit.then])
     exact bodyPost_ret (results_cell2 rfl _ _ w.heap.size _ _ _ _ rfl JF.out.2 HU.out.2 rfl HU.out.1) rfl ⟨⟨⟨1,0,(k:Int)+(s.length:Int),[],s,[],0⟩,none,0,0⟩,rfl,rfl,PRd.nilR _ _,JF.out.1,fun b i h=>by cases h⟩
   · simp only[if_true]
     go_enter Tryz.func57,Tryz.ntmps57
     go_wp2_with fail
     refine C1.out.mono ?_
     rintro e0 w1 ⟨rfl,hb⟩
     have J1:=Hd (J0.out.kept hb)
     have hst1:=HST.out w1 J1.out.1
     have JF:=Hd (J1.out.row #[.int .i64 0,.int .i64 0,.int .i64 0,.string ⟨#[]⟩,.string ⟨#[]⟩,.slice none 0 0,.int .i64 0])
     clear hb
     go_wp2_with fail
     refine(C2.out _ J1.out.1).mono ?_
     rintro e0 wq ⟨rfl,hwq⟩
     subst hwq
     go_wp2_with (refine wpList_store_row rfl _ _ _ rfl w.heap.size #[.int .i64 0,.int .i64 0,.int .i64 0,.string ⟨#[]⟩,.string ⟨#[]⟩,.slice none 0 0,.int .i64 0] rfl rfl _ _ J1.out.2 (by kernel_rfl) rfl (by kernel_rfl) ?_)
     (try simp only[Exit.inBlock,Exit.then])
     exact bodyPost_ret (results_cell2 rfl _ _ w.heap.size _ _ _ _ rfl JF.out.2 HU.out.2 rfl HU.out.1) rfl ⟨⟨noTok,none,0,0⟩,rfl,rfl,PRd.nilR _ _,JF.out.1,fun b i h=>by cases h⟩
 · rw[if_neg hsl]at C1
   have hse:s.length=n - k:=by omega
   have hnk:(n:Int) - (k:Int)=(s.length:Int):=by omega
   clear hse hsl
   have HST:=Hd hst
   cases ct
   · simp only[Bool.false_eq_true,if_false]
     go_enter Tryz.func57,Tryz.ntmps57
     go_wp2_with fail
     refine C1.out.mono ?_
     rintro e0 w1 ⟨rfl,hb⟩
     have J1:=Hd (J0.out.kept hb)
     have hst1:=HST.out w1 J1.out.1
     have JF:=Hd (J1.out.row #[.int .i64 1,.int .i64 0,.int .i64 ((k:Int)+(s.length:Int)),.string ⟨#[]⟩,.string ⟨s.toArray⟩,.slice none 0 0,.int .i64 0])
     clear hb
     go_wp2_with fail
     refine(C2.out _ J1.out.1).mono ?_
     rintro e0 wq ⟨rfl,hwq⟩
     subst hwq
     go_wp2_with (refine wpList_store_row rfl _ _ _ rfl w.heap.size #[.int .i64 1,.int .i64 0,.int .i64 ((k:Int)+(s.length:Int)),.string ⟨#[]⟩,.string ⟨s.toArray⟩,.slice none 0 0,.int .i64 0] rfl rfl _ _ J1.out.2 (by kernel_rfl) rfl (by kernel_rfl) ?_)
     (try simp only[Exit.inBlock,Exit.then])
     exact bodyPost_ret (results_cell2 rfl _ _ w.heap.size _ _ _ _ rfl JF.out.2 HU.out.2 rfl HU.out.1) rfl ⟨⟨⟨1,0,(k:Int)+(s.length:Int),[],s,[],0⟩,none,0,0⟩,rfl,rfl,PRd.nilR _ _,JF.out.1,fun b i h=>by cases h⟩
   · simp only[if_true]
     go_enter Tryz.func57,Tryz.ntmps57
     go_wp2_with fail
     refine C1.out.mono ?_
     rintro e0 w1 ⟨rfl,hb⟩
     have J1:=Hd (J0.out.kept hb)
     have hst1:=HST.out w1 J1.out.1
     have JF:=Hd (J1.out.row #[.int .i64 0,.int .i64 0,.int .i64 0,.string ⟨#[]⟩,.string ⟨#[]⟩,.slice none 0 0,.int .i64 0])
     clear hb
     go_wp2_with fail
     refine(C2.out _ J1.out.1).mono ?_
     rintro e0 wq ⟨rfl,hwq⟩
     subst hwq
     go_wp2_with (refine wpList_store_row rfl _ _ _ rfl w.heap.size #[.int .i64 0,.int .i64 0,.int .i64 0,.string ⟨#[]⟩,.string ⟨#[]⟩,.slice none 0 0,.int .i64 0] rfl rfl _ _ J1.out.2 (by kernel_rfl) rfl (by kernel_rfl) ?_)
     (try simp only[Exit.inBlock,Exit.then])
     exact bodyPost_ret (results_cell2 rfl _ _ w.heap.size _ _ _ _ rfl JF.out.2 HU.out.2 rfl HU.out.1) rfl ⟨⟨noTok,none,0,0⟩,rfl,rfl,PRd.nilR _ _,JF.out.1,fun b i h=>by cases h⟩
theorem TokPost.out {o:TokL × Nat}{w w':World}{e:Ending}(h:TokPost o w e w'): ∃ PA pn pc,e= .returned (.tuple #[.agg #[.int .i64 o.1.kind,.int .i64 o.1.fro,.int .i64 o.1.to_,.string ⟨o.1.name.toArray⟩,.string ⟨o.1.text.toArray⟩,.slice PA pn pc,.int .i64 o.1.r],.int .i64 (o.2:Int)])∧PRd w' w'.heap.size PA pn pc o.1.pairs∧Below w.heap.size w w'∧ ∀ b i,PA=some ⟨b,i,none⟩→w.heap.size≤b:=by
 obtain⟨v,hv,he,hp,hb,hl⟩:=h
 refine⟨v.A,v.n,v.c,?_,by rw[← hv];exact hp,hb,hl⟩
 rw[he,← hv]
 rfl
theorem TokPost.of {o:TokL × Nat}{w w':World}{e:Ending}(PA:Option Addr)(pn pc:Nat)(he:e= .returned (.tuple #[.agg #[.int .i64 o.1.kind,.int .i64 o.1.fro,.int .i64 o.1.to_,.string ⟨o.1.name.toArray⟩,.string ⟨o.1.text.toArray⟩,.slice PA pn pc,.int .i64 o.1.r],.int .i64 (o.2:Int)]))(hp:PRd w' w'.heap.size PA pn pc o.1.pairs)(hb:Below w.heap.size w w')(hl: ∀ b i,PA=some ⟨b,i,none⟩→w.heap.size≤b):TokPost o w e w' :=
 ⟨⟨o.1,PA,pn,pc⟩,rfl,he,hp,hb,hl⟩
theorem TokPost.no {x:Nat}{w w':World}{e:Ending}(he:e= .returned (.tuple #[.agg #[.int .i64 0,.int .i64 0,.int .i64 0,.string ⟨#[]⟩,.string ⟨#[]⟩,.slice none 0 0,.int .i64 0],.int .i64 (x:Int)]))(hb:Below w.heap.size w w'):TokPost (noTok,x) w e w' :=
 TokPost.of none 0 0 he (PRd.nilR _ _) hb (fun b i h=>by cases h)
end Go.Proofs.YtbafljibbabnaaaGreatDoor
