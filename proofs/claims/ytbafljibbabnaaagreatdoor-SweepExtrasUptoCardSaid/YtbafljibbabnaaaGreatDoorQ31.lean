/- Texts of ours, joined: Misc3, Misc4, Misc5. -/
import Derived.Test.YtbafljibbabnaaaGreatDoorQ29
import Derived.Test.YtbafljibbabnaaaGreatDoorQ30
namespace Go.Proofs.YtbafljibbabnaaaGreatDoor
open Go.ChangeShapes Go.WideShapes Go.ChangeAt Go.RowKit
set_option linter.unusedVariables false
set_option maxRecDepth 100000
set_option maxHeartbeats 32000000
def MkJ (p q:List UInt8)(fid:Nat)(w W:World):Prop :=
 Below w.heap.size w W∧w.heap.size<W.heap.size∧W.cell? ⟨w.heap.size,0,none⟩=some (.string ⟨p.toArray⟩)∧W.cell? ⟨w.heap.size,1,none⟩=some (.string ⟨q.toArray⟩)∧W.cell? ⟨w.heap.size,2,none⟩=some (.func (.func fid) #[] #[])
theorem MkJ.kept {p q:List UInt8}{fid:Nat}{w W W':World}(h:MkJ p q fid w W)(hb:Below W.heap.size W W'):MkJ p q fid w W' :=
 ⟨h.1.trans (hb.mono h.1.size),by have:=hb.size;have:=h.2.1;omega,by rw[hb.cell h.2.1];exact h.2.2.1,by rw[hb.cell h.2.1];exact h.2.2.2.1,by rw[hb.cell h.2.1];exact h.2.2.2.2⟩
theorem MkJ.drewN {p q:List UInt8}{fid:Nat}{w W:World}(h:MkJ p q fid w W)(n:Nat):MkJ p q fid w (W.drewN n):=h.kept (below_drewN' (Below.refl _ _))
def commentsV:Value:= .agg #[.string ⟨#[60,33,45,45]⟩,.string ⟨#[45,45,62]⟩,.func (.func 98) #[] #[]]
theorem comments_c (w:World):Calls Tryz.prog 74 #[] w fun e w'=>e= .returned commentsV∧Below w.heap.size w w':=by
 have hF:=Hd (hp_new w (.cells #[.string ⟨#[60,33,45,45]⟩,.string ⟨#[45,45,62]⟩,.func (.func 98) #[] #[]] 139))
 have hb:=Hd (Below.alloc (Below.refl w.heap.size w) (Nat.le_refl _) (.cells #[.string ⟨#[60,33,45,45]⟩,.string ⟨#[45,45,62]⟩,.func (.func 98) #[] #[]] 139))
 go_enter Tryz.func74,Tryz.ntmps74
 go_wp2
 have hi:(Tryz.prog.info? 139).map (·.size)=some 3:=by kernel_rfl
 obtain⟨d,hu⟩:=isStruct_of (P:=Tryz.prog) (t:=139) (by kernel_rfl)
 (try simp only[Exit.inBlock,Exit.then])
 refine bodyPost_ret (results_cell_row rfl _ _ w.heap.size _ _ _ _ rfl hF.out hu rfl hi) rfl ⟨rfl,hb.out⟩
theorem commentsRead_range (A:Option Addr)(n cap:Nat)(at_:Int)(w:World)(ha:at_<0∨(n:Int)<at_) :
 Calls Tryz.prog 75 #[commentsV,.slice A n cap,.int .i64 at_] w fun e w'=>e= .returned (outV ([],0,3))∧Below w.heap.size w w':=by
 have hb:=Hd (Below.alloc (Below.refl w.heap.size w) (Nat.le_refl _) (.cells #[.string ⟨#[60,33,45,45]⟩,.string ⟨#[45,45,62]⟩,.func (.func 98) #[] #[]] 139))
 unfold commentsV
 by_cases h0:at_<0
 · have hd:decide (at_<0)=true:=by simpa using h0
   clear ha
   go_enter Tryz.func75,Tryz.ntmps75
   go_wp2
   go_ret3
   exact⟨rfl,hb.out⟩
 · have h1:(n:Int)<at_:=by omega
   clear ha
   go_enter Tryz.func75,Tryz.ntmps75
   go_wp2
   go_ret3
   exact⟨rfl,hb.out⟩
theorem comments1_c (s:List UInt8)(w:World)(hM:MaxL w)(hs:s.length≤500000) :
 Calls Tryz.prog 98 #[.string ⟨s.toArray⟩] w fun e w'=>e= .returned (.bool (mayComment s))∧w=w':=by
 have hct:(Op.stringOp .add ⟨s.toArray⟩ ⟨#[45]⟩).run Tryz.prog w= .ok (.string ⟨(s++ [45]).toArray⟩) w:=run_sop (w:=w) s [45] (by simp;omega)
 have C1:=Hd (contains_c (s++ [45]) [45,45] w hM (by simp;omega))
 unfold mayComment
 generalize Lib.contains (s++ [45]) [45,45]=r at *
 generalize s++ [45]=s2 at *
 clear hM hs
 cases r
 all_goals
  go_enter Tryz.func98,Tryz.ntmps98
  go_wp2_with fail
  refine(C1.out).mono ?_
  rintro e wq ⟨rfl,rfl⟩
  go_wp2
  go_ret
  exact⟨rfl,rfl⟩
theorem commentsRead_c (A:Option Addr)(n cap:Nat)(l:List UInt8)(k:Nat)(w:World)(h:Byt w w.heap.size A n cap l)(hM:MaxL w)(hm:n≤100000)(hk:k≤n) :
 Calls Tryz.prog 75 #[commentsV,.slice A n cap,.int .i64 k] w fun e w'=>e= .returned (outV (markedOut [60,33,45,45] [45,45,62] mayComment l k))∧Below w.heap.size w w':=by
 have hk': ¬ (n:Int)<(k:Int):=by omega
 have hk0:(0:Int)≤(k:Int):=by omega
 have hk1:(k:Int)≤100000:=by omega
 have f0:=hp_new w (.cells #[.string ⟨#[60,33,45,45]⟩,.string ⟨#[45,45,62]⟩,.func (.func 98) #[] #[]] 139)
 have z0:(w.alloc (.cells #[.string ⟨#[60,33,45,45]⟩,.string ⟨#[45,45,62]⟩,.func (.func 98) #[] #[]] 139)).cell? ⟨w.heap.size,0,none⟩=some (.string ⟨#[60,33,45,45]⟩):=cell_of 0 f0
 have z1:(w.alloc (.cells #[.string ⟨#[60,33,45,45]⟩,.string ⟨#[45,45,62]⟩,.func (.func 98) #[] #[]] 139)).cell? ⟨w.heap.size,1,none⟩=some (.string ⟨#[45,45,62]⟩):=cell_of 1 f0
 have z2:(w.alloc (.cells #[.string ⟨#[60,33,45,45]⟩,.string ⟨#[45,45,62]⟩,.func (.func 98) #[] #[]] 139)).cell? ⟨w.heap.size,2,none⟩=some (.func (.func 98) #[] #[]):=cell_of 2 f0
 have hb0:Below w.heap.size w (w.alloc (.cells #[.string ⟨#[60,33,45,45]⟩,.string ⟨#[45,45,62]⟩,.func (.func 98) #[] #[]] 139)):=Below.alloc (Below.refl _ _) (Nat.le_refl _) _
 have hJ0:MkJ [60,33,45,45] [45,45,62] 98 w (w.alloc (.cells #[.string ⟨#[60,33,45,45]⟩,.string ⟨#[45,45,62]⟩,.func (.func 98) #[] #[]] 139)):=⟨hb0,by simp,z0,z1,z2⟩
 have HH:=Hd (And.intro h hM)
 have hcap:=h.le
 have hln:=h.length
 have hrf: ∀ W:World,(Instr.slice 29 (.slice A n cap) (some (.int .i64 (k:Int))) none none).run Tryz.prog W= .ok (.slice (cutA A cap k) (n - k) (cap - k)) W:=fun W=>run_from A n cap k hk
 have hcv: ∀ W:World,(convert 9 29 (.string ⟨#[60,33,45,45]⟩)).run Tryz.prog W= .ok (.slice (some ⟨W.heap.size,0,none⟩) 4 (grownCap W 4 0 5)) (Lib.bytesWorld W 5 ⟨#[60,33,45,45]⟩):=fun W=>run_toBytes W [60,33,45,45]
 have hcq: ∀ W:World,(convert 9 29 (.string ⟨#[45,45,62]⟩)).run Tryz.prog W= .ok (.slice (some ⟨W.heap.size,0,none⟩) 3 (grownCap W 3 0 5)) (Lib.bytesWorld W 5 ⟨#[45,45,62]⟩):=fun W=>run_toBytes W [45,45,62]
 have hsize:(w.alloc (.cells #[.string ⟨#[60,33,45,45]⟩,.string ⟨#[45,45,62]⟩,.func (.func 98) #[] #[]] 139)).heap.size=w.heap.size+1:=by simp
 have HCI:Hid (∀ (R:Option Addr) (rn rc:Nat) (rl:List UInt8),(∀ W,MkJ [60,33,45,45] [45,45,62] 98 w W→Byt W w.heap.size R rn rc rl)→rn≤100000→ ∀ W:World,Hid (MkJ [60,33,45,45] [45,45,62] 98 w W)→Calls Tryz.prog 80 #[.slice R rn rc,.slice (some ⟨W.heap.size,0,none⟩) 3 (grownCap W 3 0 5)] (Lib.bytesWorld W 5 ⟨#[45,45,62]⟩) fun e w'=>e= .returned (.int .i64 (Lib.index rl [45,45,62]))∧Hid (MkJ [60,33,45,45] [45,45,62] 98 w w')):=Hd fun R rn rc rl hR hrn W HJ=>by
  have hJ1:=HJ.out.kept (Lib.bytesWorld_below W 5 ⟨#[45,45,62]⟩)
  exact(bindex_c R _ rn rc 3 _ rl [45,45,62] _ _ _ (hR _ hJ1) (byt_new W [45,45,62] (by simp)) (HH.out.2.below hJ1.1 HH.out.2.lt) (by omega) (by omega) (by omega)).mono fun e w' ⟨he,q,hq⟩=>⟨he,Hd (hq ▸ hJ1.drewN q)⟩
 have hA: ∀ W,MkJ [60,33,45,45] [45,45,62] 98 w W→Byt W w.heap.size A n cap l:=fun W hJ=>h.below hJ.1
 by_cases hp: [60,33,45,45].isPrefixOf (l.drop k)=true
 · have hkl:k+4≤n:=by have:=pre_len hp;simp at this;omega
   have CP:Hid (∀ W:World,Hid (∃ m,W=(w.alloc (.cells #[.string ⟨#[60,33,45,45]⟩,.string ⟨#[45,45,62]⟩,.func (.func 98) #[] #[]] 139)).drewN m)→Calls Tryz.prog 99 #[.slice (cutA A cap k) (n - k) (cap - k),.slice (some ⟨w.heap.size+1,0,none⟩) 4 (grownCap W 4 0 5)] (Lib.bytesWorld W 5 ⟨#[60,33,45,45]⟩) fun e w'=>e= .returned (.tuple #[.slice (cutA (cutA A cap k) (cap - k) 4) (n - k - 4) (cap - k - 4),.bool true])∧Hid (MkJ [60,33,45,45] [45,45,62] 98 w w')):=Hd fun W HW=>by
    obtain⟨m,rfl⟩:=HW.out
    have hJ1:=(hJ0.drewN m).kept (Lib.bytesWorld_below _ 5 ⟨#[60,33,45,45]⟩)
    have hn:=byt_new ((w.alloc (.cells #[.string ⟨#[60,33,45,45]⟩,.string ⟨#[45,45,62]⟩,.func (.func 98) #[] #[]] 139)).drewN m) [60,33,45,45] (by simp)
    rw[show ((w.alloc (.cells #[.string ⟨#[60,33,45,45]⟩,.string ⟨#[45,45,62]⟩,.func (.func 98) #[] #[]] 139)).drewN m).heap.size=w.heap.size+1 from hsize]at hn
    exact(cutPrefix_yes _ _ _ _ _ _ _ _ _ _ _ ((hA _ hJ1).drop hk) hn (by simp) hp).mono fun e w' ⟨he,hw⟩=>⟨he,Hd (hw ▸ hJ1)⟩
   have hR: ∀ W,MkJ [60,33,45,45] [45,45,62] 98 w W→Byt W w.heap.size (cutA (cutA A cap k) (cap - k) 4) (n - k - 4) (cap - k - 4) (l.drop (k+4)):=fun W hJ=>by
    have:=((hA W hJ).drop hk).drop (k:=4) (by omega)
    rwa [List.drop_drop]at this
   have CI:=Hd (HCI.out _ _ _ _ hR (by omega))
   have HR:=Hd hR
   have hix:=Lib.index_spec (l.drop (k+4)) [45,45,62]
   have hrc:n - k - 4≤cap - k - 4:=by omega
   have HRL:Hid ((l.drop (k+4)).length=n - k - 4):=Hd (by rw[List.length_drop];omega)
   rcases hix with ⟨hi,_⟩|⟨j,hi,hj,hoc,_⟩
   · have HE:Hid (markedOut [60,33,45,45] [45,45,62] mayComment l k=([],0,7)):=Hd (marked_no rfl fun _ j hj=>by
      have hj':Lib.index (l.drop (k+4)) [45,45,62]=(j:Int):=hj
      rw[hi]at hj';omega)
     rw[HE.out]
     rw[hi]at CI
     clear h hM hb0 f0 hJ0 hA hR hi HE HCI hln hsize HRL hkl hrc z1 z2 hp
     generalize cutA (cutA A cap k) (cap - k) 4=R at *
     generalize n - k - 4=rn at *
     generalize cap - k - 4=rc at *
     unfold commentsV
     go_enter Tryz.func75,Tryz.ntmps75
     go_wp2
     go_region_with (first
      |(go_at_call 99;refine(CP.out _ (by first|exact Hd ⟨0,rfl⟩|exact Hd ⟨1,rfl⟩|exact Hd ⟨2,rfl⟩|exact Hd ⟨3,rfl⟩)).mono ?_;rintro e w1 ⟨rfl,HJ1⟩))
     all_goals
      clear hcv z0
      have z1:=HJ1.out.2.2.2.1
      go_wp2_with fail
      refine(CI.out _ HJ1).mono ?_
      rintro e w2 ⟨rfl,HJ2⟩
      clear hcq z1
      go_wp2
      go_quiet (fail)
      have HJ3:=Hd (HJ2.out.drewN nq)
      generalize w2.drewN nq=w3 at *
      go_wp2
      go_ret3
      exact⟨rfl,HJ3.out.1⟩
   · have hjr:j≤n - k - 4:=by have:=HRL.out;omega
     have hj0:(0:Int)≤(j:Int):=by omega
     have hj1:(j:Int)≤100000:=by omega
     have hjd:decide ((j:Int)<0)=false:=by simp
     have hjc:j≤cap - k - 4:=by omega
     have hct: ∀ W:World,(Instr.slice 29 (.slice (cutA (cutA A cap k) (cap - k) 4) (n - k - 4) (cap - k - 4)) none (some (.int .i64 (j:Int))) none).run Tryz.prog W= .ok (.slice (cutA (cutA A cap k) (cap - k) 4) j (cap - k - 4)) W:=fun W=>run_upTo _ _ _ _ hjc
     have HST:Hid (∀ W,MkJ [60,33,45,45] [45,45,62] 98 w W→(convert 29 9 (.slice (cutA (cutA A cap k) (cap - k) 4) j (cap - k - 4))).run Tryz.prog W= .ok (.string ⟨((l.drop (k+4)).take j).toArray⟩) W):=Hd fun W hJ=>((hR W hJ).take hjr).str
     have CM:Hid (∀ W,MkJ [60,33,45,45] [45,45,62] 98 w W→Calls Tryz.prog 98 #[.string ⟨((l.drop (k+4)).take j).toArray⟩] W fun e w'=>e= .returned (.bool (mayComment ((l.drop (k+4)).take j)))∧w'=W):=Hd fun W hJ=>(comments1_c _ W (HH.out.2.below hJ.1 HH.out.2.lt) (by rw[List.length_take];omega)).mono fun e w' ⟨he,hw⟩=>⟨he,hw.symm⟩
     have HE:Hid (markedOut [60,33,45,45] [45,45,62] mayComment l k=if mayComment ((l.drop (k+4)).take j)=true then ((l.drop (k+4)).take j,k+4+j+3,0) else ([],0,7)):=Hd (by
      by_cases hmy:mayComment ((l.drop (k+4)).take j)=true
      · rw[if_pos hmy];exact marked_yes (a:=4) (b:=3) rfl rfl hp hi hmy
      · rw[if_neg hmy]
        refine marked_no rfl fun _ t ht=> ?_
        have ht':Lib.index (l.drop (k+4)) [45,45,62]=(t:Int):=ht
        obtain rfl:j=t:=by rw[hi]at ht';omega
        exact bfalse hmy)
     rw[HE.out]
     rw[hi]at CI
     clear h hM hb0 f0 hJ0 hA hR hi HE HCI hln hsize HRL hkl hrc z1 z2 hp hj hoc hjr hjc hcap
     generalize cutA (cutA A cap k) (cap - k) 4=R at *
     generalize n - k - 4=rn at *
     generalize cap - k - 4=rc at *
     generalize (l.drop (k+4)).take j=T at *
     generalize mayComment T=my at *
     unfold commentsV
     cases my
     all_goals
      simp only[if_true,Bool.false_eq_true,if_false]
      go_enter Tryz.func75,Tryz.ntmps75
      go_wp2
      go_region_with (first
        |(go_at_call 99;refine(CP.out _ (by first|exact Hd ⟨0,rfl⟩|exact Hd ⟨1,rfl⟩|exact Hd ⟨2,rfl⟩|exact Hd ⟨3,rfl⟩)).mono ?_;rintro e w1 ⟨rfl,HJ1⟩))
      all_goals
        clear hcv z0
        have z1:=HJ1.out.2.2.2.1
        go_wp2_with fail
        refine(CI.out _ HJ1).mono ?_
        rintro e w2 ⟨rfl,HJ2⟩
        clear hcq z1
        have z2:=HJ2.out.2.2.2.2
        have hst: ∀ m,(convert 29 9 (.slice R j rc)).run Tryz.prog (w2.drewN m)= .ok (.string ⟨T.toArray⟩) (w2.drewN m):=fun m=>HST.out _ (HJ2.out.drewN m)
        have CMm:=Hd (fun m=>CM.out _ (HJ2.out.drewN m))
        go_wp2
        go_quiet ((go_at_call 98;exact Calls.quiet_of_same (CMm.out _)))
        have HJ3:=Hd (HJ2.out.drewN nq)
        clear hst CMm z2
        generalize w2.drewN nq=w3 at *
        have z0:=HJ3.out.2.2.1
        have z1:=HJ3.out.2.2.2.1
        have hst: ∀ m,(convert 29 9 (.slice R j rc)).run Tryz.prog (w3.drewN m)= .ok (.string ⟨T.toArray⟩) (w3.drewN m):=fun m=>HST.out _ (HJ3.out.drewN m)
        have hs1:IntKind.i64.wrap ((k:Int)+4)=(k:Int)+4:=by rw[IntKind.wrap_i64];omega
        have hs2:IntKind.i64.wrap ((k:Int)+4+(j:Int))=(k:Int)+4+(j:Int):=by rw[IntKind.wrap_i64];omega
        have hs3:IntKind.i64.wrap ((k:Int)+4+(j:Int)+3)=(k:Int)+4+(j:Int)+3:=by rw[IntKind.wrap_i64];omega
        first
        |(go_wp2
          go_ret3
          exact⟨rfl,HJ3.out.1⟩)
        |(go_wp2
          go_quiet (fail)
          have HJ4:=Hd (HJ3.out.drewN nq)
          generalize w3.drewN nq=w4 at *
          go_wp2
          go_ret3
          exact⟨rfl,HJ4.out.1⟩)
 · have hp':=bfalse hp
   have CP:Hid (∀ W:World,Hid (∃ m,W=(w.alloc (.cells #[.string ⟨#[60,33,45,45]⟩,.string ⟨#[45,45,62]⟩,.func (.func 98) #[] #[]] 139)).drewN m)→Calls Tryz.prog 99 #[.slice (cutA A cap k) (n - k) (cap - k),.slice (some ⟨w.heap.size+1,0,none⟩) 4 (grownCap W 4 0 5)] (Lib.bytesWorld W 5 ⟨#[60,33,45,45]⟩) fun e w'=>e= .returned (.tuple #[.slice (cutA A cap k) (n - k) (cap - k),.bool false])∧Hid (MkJ [60,33,45,45] [45,45,62] 98 w w')):=Hd fun W HW=>by
     obtain⟨m,rfl⟩:=HW.out
     have hJ1:=(hJ0.drewN m).kept (Lib.bytesWorld_below _ 5 ⟨#[60,33,45,45]⟩)
     have hn:=byt_new ((w.alloc (.cells #[.string ⟨#[60,33,45,45]⟩,.string ⟨#[45,45,62]⟩,.func (.func 98) #[] #[]] 139)).drewN m) [60,33,45,45] (by simp)
     rw[show ((w.alloc (.cells #[.string ⟨#[60,33,45,45]⟩,.string ⟨#[45,45,62]⟩,.func (.func 98) #[] #[]] 139)).drewN m).heap.size=w.heap.size+1 from hsize]at hn
     exact(cutPrefix_no _ _ _ _ _ _ _ _ _ _ _ ((hA _ hJ1).drop hk) hn hp').mono fun e w' ⟨he,hw⟩=>⟨he,Hd (hw ▸ hJ1)⟩
   have CI:=Hd (HCI.out _ _ _ _ (fun W hJ=>(hA W hJ).drop hk) (by omega))
   have HE:Hid (markedOut [60,33,45,45] [45,45,62] mayComment l k=([],0,7)):=Hd (marked_no rfl fun h'=>absurd h' hp)
   rw[HE.out]
   clear h hM hb0 f0 hJ0 hA HE HCI hln hsize z1 z2 hp hp' hcap
   generalize Lib.index (l.drop k) [45,45,62]=ix at *
   unfold commentsV
   go_enter Tryz.func75,Tryz.ntmps75
   go_wp2
   go_region_with (first
     |(go_at_call 99;refine(CP.out _ (by first|exact Hd ⟨0,rfl⟩|exact Hd ⟨1,rfl⟩|exact Hd ⟨2,rfl⟩|exact Hd ⟨3,rfl⟩)).mono ?_;rintro e w1 ⟨rfl,HJ1⟩))
   all_goals
     clear hcv z0
     have z1:=HJ1.out.2.2.2.1
     go_wp2_with fail
     refine(CI.out _ HJ1).mono ?_
     rintro e w2 ⟨rfl,HJ2⟩
     clear hcq z1
     go_wp2
     go_quiet (fail)
     have HJ3:=Hd (HJ2.out.drewN nq)
     generalize w2.drewN nq=w3 at *
     go_wp2
     go_ret3
     exact⟨rfl,HJ3.out.1⟩
def cdatasV:Value:= .agg #[.string ⟨#[60,33,91,67,68,65,84,65,91]⟩,.string ⟨#[93,93,62]⟩,.func (.func 100) #[] #[]]
theorem cdatas_c (w:World):Calls Tryz.prog 76 #[] w fun e w'=>e= .returned cdatasV∧Below w.heap.size w w':=by
 have hF:=Hd (hp_new w (.cells #[.string ⟨#[60,33,91,67,68,65,84,65,91]⟩,.string ⟨#[93,93,62]⟩,.func (.func 100) #[] #[]] 139))
 have hb:=Hd (Below.alloc (Below.refl w.heap.size w) (Nat.le_refl _) (.cells #[.string ⟨#[60,33,91,67,68,65,84,65,91]⟩,.string ⟨#[93,93,62]⟩,.func (.func 100) #[] #[]] 139))
 go_enter Tryz.func76,Tryz.ntmps76
 go_wp2
 have hi:(Tryz.prog.info? 139).map (·.size)=some 3:=by kernel_rfl
 obtain⟨d,hu⟩:=isStruct_of (P:=Tryz.prog) (t:=139) (by kernel_rfl)
 (try simp only[Exit.inBlock,Exit.then])
 refine bodyPost_ret (results_cell_row rfl _ _ w.heap.size _ _ _ _ rfl hF.out hu rfl hi) rfl ⟨rfl,hb.out⟩
theorem cdatasRead_range (A:Option Addr)(n cap:Nat)(at_:Int)(w:World)(ha:at_<0∨(n:Int)<at_) :
 Calls Tryz.prog 75 #[cdatasV,.slice A n cap,.int .i64 at_] w fun e w'=>e= .returned (outV ([],0,3))∧Below w.heap.size w w':=by
 have hb:=Hd (Below.alloc (Below.refl w.heap.size w) (Nat.le_refl _) (.cells #[.string ⟨#[60,33,91,67,68,65,84,65,91]⟩,.string ⟨#[93,93,62]⟩,.func (.func 100) #[] #[]] 139))
 unfold cdatasV
 by_cases h0:at_<0
 · have hd:decide (at_<0)=true:=by simpa using h0
   clear ha
   go_enter Tryz.func75,Tryz.ntmps75
   go_wp2
   go_ret3
   exact⟨rfl,hb.out⟩
 · have h1:(n:Int)<at_:=by omega
   clear ha
   go_enter Tryz.func75,Tryz.ntmps75
   go_wp2
   go_ret3
   exact⟨rfl,hb.out⟩
theorem cdatas1_c (s:List UInt8)(w:World)(hM:MaxL w)(hs:s.length≤500000) :
 Calls Tryz.prog 100 #[.string ⟨s.toArray⟩] w fun e w'=>e= .returned (.bool (mayCData s))∧w=w':=by
 have C1:=Hd (contains_c s [93,93,62] w hM (by omega))
 unfold mayCData
 generalize Lib.contains s [93,93,62]=r at *
 clear hM hs
 cases r
 all_goals
  go_enter Tryz.func100,Tryz.ntmps100
  go_wp2_with fail
  refine(C1.out).mono ?_
  rintro e wq ⟨rfl,rfl⟩
  go_wp2
  go_ret
  exact⟨rfl,rfl⟩
theorem cdatasRead_c (A:Option Addr)(n cap:Nat)(l:List UInt8)(k:Nat)(w:World)(h:Byt w w.heap.size A n cap l)(hM:MaxL w)(hm:n≤100000)(hk:k≤n) :
 Calls Tryz.prog 75 #[cdatasV,.slice A n cap,.int .i64 k] w fun e w'=>e= .returned (outV (markedOut [60,33,91,67,68,65,84,65,91] [93,93,62] mayCData l k))∧Below w.heap.size w w':=by
 have hk': ¬ (n:Int)<(k:Int):=by omega
 have hk0:(0:Int)≤(k:Int):=by omega
 have hk1:(k:Int)≤100000:=by omega
 have f0:=hp_new w (.cells #[.string ⟨#[60,33,91,67,68,65,84,65,91]⟩,.string ⟨#[93,93,62]⟩,.func (.func 100) #[] #[]] 139)
 have z0:(w.alloc (.cells #[.string ⟨#[60,33,91,67,68,65,84,65,91]⟩,.string ⟨#[93,93,62]⟩,.func (.func 100) #[] #[]] 139)).cell? ⟨w.heap.size,0,none⟩=some (.string ⟨#[60,33,91,67,68,65,84,65,91]⟩):=cell_of 0 f0
 have z1:(w.alloc (.cells #[.string ⟨#[60,33,91,67,68,65,84,65,91]⟩,.string ⟨#[93,93,62]⟩,.func (.func 100) #[] #[]] 139)).cell? ⟨w.heap.size,1,none⟩=some (.string ⟨#[93,93,62]⟩):=cell_of 1 f0
 have z2:(w.alloc (.cells #[.string ⟨#[60,33,91,67,68,65,84,65,91]⟩,.string ⟨#[93,93,62]⟩,.func (.func 100) #[] #[]] 139)).cell? ⟨w.heap.size,2,none⟩=some (.func (.func 100) #[] #[]):=cell_of 2 f0
 have hb0:Below w.heap.size w (w.alloc (.cells #[.string ⟨#[60,33,91,67,68,65,84,65,91]⟩,.string ⟨#[93,93,62]⟩,.func (.func 100) #[] #[]] 139)):=Below.alloc (Below.refl _ _) (Nat.le_refl _) _
 have hJ0:MkJ [60,33,91,67,68,65,84,65,91] [93,93,62] 100 w (w.alloc (.cells #[.string ⟨#[60,33,91,67,68,65,84,65,91]⟩,.string ⟨#[93,93,62]⟩,.func (.func 100) #[] #[]] 139)):=⟨hb0,by simp,z0,z1,z2⟩
 have HH:=Hd (And.intro h hM)
 have hcap:=h.le
 have hln:=h.length
 have hrf: ∀ W:World,(Instr.slice 29 (.slice A n cap) (some (.int .i64 (k:Int))) none none).run Tryz.prog W= .ok (.slice (cutA A cap k) (n - k) (cap - k)) W:=fun W=>run_from A n cap k hk
 have hcv: ∀ W:World,(convert 9 29 (.string ⟨#[60,33,91,67,68,65,84,65,91]⟩)).run Tryz.prog W= .ok (.slice (some ⟨W.heap.size,0,none⟩) 9 (grownCap W 9 0 5)) (Lib.bytesWorld W 5 ⟨#[60,33,91,67,68,65,84,65,91]⟩):=fun W=>run_toBytes W [60,33,91,67,68,65,84,65,91]
 have hcq: ∀ W:World,(convert 9 29 (.string ⟨#[93,93,62]⟩)).run Tryz.prog W= .ok (.slice (some ⟨W.heap.size,0,none⟩) 3 (grownCap W 3 0 5)) (Lib.bytesWorld W 5 ⟨#[93,93,62]⟩):=fun W=>run_toBytes W [93,93,62]
 have hsize:(w.alloc (.cells #[.string ⟨#[60,33,91,67,68,65,84,65,91]⟩,.string ⟨#[93,93,62]⟩,.func (.func 100) #[] #[]] 139)).heap.size=w.heap.size+1:=by simp
 have HCI:Hid (∀ (R:Option Addr) (rn rc:Nat) (rl:List UInt8),(∀ W,MkJ [60,33,91,67,68,65,84,65,91] [93,93,62] 100 w W→Byt W w.heap.size R rn rc rl)→rn≤100000→ ∀ W:World,Hid (MkJ [60,33,91,67,68,65,84,65,91] [93,93,62] 100 w W)→Calls Tryz.prog 80 #[.slice R rn rc,.slice (some ⟨W.heap.size,0,none⟩) 3 (grownCap W 3 0 5)] (Lib.bytesWorld W 5 ⟨#[93,93,62]⟩) fun e w'=>e= .returned (.int .i64 (Lib.index rl [93,93,62]))∧Hid (MkJ [60,33,91,67,68,65,84,65,91] [93,93,62] 100 w w')):=Hd fun R rn rc rl hR hrn W HJ=>by
  have hJ1:=HJ.out.kept (Lib.bytesWorld_below W 5 ⟨#[93,93,62]⟩)
  exact(bindex_c R _ rn rc 3 _ rl [93,93,62] _ _ _ (hR _ hJ1) (byt_new W [93,93,62] (by simp)) (HH.out.2.below hJ1.1 HH.out.2.lt) (by omega) (by omega) (by omega)).mono fun e w' ⟨he,q,hq⟩=>⟨he,Hd (hq ▸ hJ1.drewN q)⟩
 have hA: ∀ W,MkJ [60,33,91,67,68,65,84,65,91] [93,93,62] 100 w W→Byt W w.heap.size A n cap l:=fun W hJ=>h.below hJ.1
 by_cases hp: [60,33,91,67,68,65,84,65,91].isPrefixOf (l.drop k)=true
 · have hkl:k+9≤n:=by have:=pre_len hp;simp at this;omega
   have CP:Hid (∀ W:World,Hid (∃ m,W=(w.alloc (.cells #[.string ⟨#[60,33,91,67,68,65,84,65,91]⟩,.string ⟨#[93,93,62]⟩,.func (.func 100) #[] #[]] 139)).drewN m)→Calls Tryz.prog 99 #[.slice (cutA A cap k) (n - k) (cap - k),.slice (some ⟨w.heap.size+1,0,none⟩) 9 (grownCap W 9 0 5)] (Lib.bytesWorld W 5 ⟨#[60,33,91,67,68,65,84,65,91]⟩) fun e w'=>e= .returned (.tuple #[.slice (cutA (cutA A cap k) (cap - k) 9) (n - k - 9) (cap - k - 9),.bool true])∧Hid (MkJ [60,33,91,67,68,65,84,65,91] [93,93,62] 100 w w')):=Hd fun W HW=>by
    obtain⟨m,rfl⟩:=HW.out
    have hJ1:=(hJ0.drewN m).kept (Lib.bytesWorld_below _ 5 ⟨#[60,33,91,67,68,65,84,65,91]⟩)
    have hn:=byt_new ((w.alloc (.cells #[.string ⟨#[60,33,91,67,68,65,84,65,91]⟩,.string ⟨#[93,93,62]⟩,.func (.func 100) #[] #[]] 139)).drewN m) [60,33,91,67,68,65,84,65,91] (by simp)
    rw[show ((w.alloc (.cells #[.string ⟨#[60,33,91,67,68,65,84,65,91]⟩,.string ⟨#[93,93,62]⟩,.func (.func 100) #[] #[]] 139)).drewN m).heap.size=w.heap.size+1 from hsize]at hn
    exact(cutPrefix_yes _ _ _ _ _ _ _ _ _ _ _ ((hA _ hJ1).drop hk) hn (by simp) hp).mono fun e w' ⟨he,hw⟩=>⟨he,Hd (hw ▸ hJ1)⟩
   have hR: ∀ W,MkJ [60,33,91,67,68,65,84,65,91] [93,93,62] 100 w W→Byt W w.heap.size (cutA (cutA A cap k) (cap - k) 9) (n - k - 9) (cap - k - 9) (l.drop (k+9)):=fun W hJ=>by
    have:=((hA W hJ).drop hk).drop (k:=9) (by omega)
    rwa [List.drop_drop]at this
   have CI:=Hd (HCI.out _ _ _ _ hR (by omega))
   have HR:=Hd hR
   have hix:=Lib.index_spec (l.drop (k+9)) [93,93,62]
   have hrc:n - k - 9≤cap - k - 9:=by omega
   have HRL:Hid ((l.drop (k+9)).length=n - k - 9):=Hd (by rw[List.length_drop];omega)
   rcases hix with ⟨hi,_⟩|⟨j,hi,hj,hoc,_⟩
   · have HE:Hid (markedOut [60,33,91,67,68,65,84,65,91] [93,93,62] mayCData l k=([],0,7)):=Hd (marked_no rfl fun _ j hj=>by
      have hj':Lib.index (l.drop (k+9)) [93,93,62]=(j:Int):=hj
      rw[hi]at hj';omega)
     rw[HE.out]
     rw[hi]at CI
     clear h hM hb0 f0 hJ0 hA hR hi HE HCI hln hsize HRL hkl hrc z1 z2 hp
     generalize cutA (cutA A cap k) (cap - k) 9=R at *
     generalize n - k - 9=rn at *
     generalize cap - k - 9=rc at *
     unfold cdatasV
     go_enter Tryz.func75,Tryz.ntmps75
     go_wp2
     go_region_with (first
      |(go_at_call 99;refine(CP.out _ (by first|exact Hd ⟨0,rfl⟩|exact Hd ⟨1,rfl⟩|exact Hd ⟨2,rfl⟩|exact Hd ⟨3,rfl⟩)).mono ?_;rintro e w1 ⟨rfl,HJ1⟩))
     all_goals
      clear hcv z0
      have z1:=HJ1.out.2.2.2.1
      go_wp2_with fail
      refine(CI.out _ HJ1).mono ?_
      rintro e w2 ⟨rfl,HJ2⟩
      clear hcq z1
      go_wp2
      go_quiet (fail)
      have HJ3:=Hd (HJ2.out.drewN nq)
      generalize w2.drewN nq=w3 at *
      go_wp2
      go_ret3
      exact⟨rfl,HJ3.out.1⟩
   · have hjr:j≤n - k - 9:=by have:=HRL.out;omega
     have hj0:(0:Int)≤(j:Int):=by omega
     have hj1:(j:Int)≤100000:=by omega
     have hjd:decide ((j:Int)<0)=false:=by simp
     have hjc:j≤cap - k - 9:=by omega
     have hct: ∀ W:World,(Instr.slice 29 (.slice (cutA (cutA A cap k) (cap - k) 9) (n - k - 9) (cap - k - 9)) none (some (.int .i64 (j:Int))) none).run Tryz.prog W= .ok (.slice (cutA (cutA A cap k) (cap - k) 9) j (cap - k - 9)) W:=fun W=>run_upTo _ _ _ _ hjc
     have HST:Hid (∀ W,MkJ [60,33,91,67,68,65,84,65,91] [93,93,62] 100 w W→(convert 29 9 (.slice (cutA (cutA A cap k) (cap - k) 9) j (cap - k - 9))).run Tryz.prog W= .ok (.string ⟨((l.drop (k+9)).take j).toArray⟩) W):=Hd fun W hJ=>((hR W hJ).take hjr).str
     have CM:Hid (∀ W,MkJ [60,33,91,67,68,65,84,65,91] [93,93,62] 100 w W→Calls Tryz.prog 100 #[.string ⟨((l.drop (k+9)).take j).toArray⟩] W fun e w'=>e= .returned (.bool (mayCData ((l.drop (k+9)).take j)))∧w'=W):=Hd fun W hJ=>(cdatas1_c _ W (HH.out.2.below hJ.1 HH.out.2.lt) (by rw[List.length_take];omega)).mono fun e w' ⟨he,hw⟩=>⟨he,hw.symm⟩
     have HE:Hid (markedOut [60,33,91,67,68,65,84,65,91] [93,93,62] mayCData l k=if mayCData ((l.drop (k+9)).take j)=true then ((l.drop (k+9)).take j,k+9+j+3,0) else ([],0,7)):=Hd (by
      by_cases hmy:mayCData ((l.drop (k+9)).take j)=true
      · rw[if_pos hmy];exact marked_yes (a:=9) (b:=3) rfl rfl hp hi hmy
      · rw[if_neg hmy]
        refine marked_no rfl fun _ t ht=> ?_
        have ht':Lib.index (l.drop (k+9)) [93,93,62]=(t:Int):=ht
        obtain rfl:j=t:=by rw[hi]at ht';omega
        exact bfalse hmy)
     rw[HE.out]
     rw[hi]at CI
     clear h hM hb0 f0 hJ0 hA hR hi HE HCI hln hsize HRL hkl hrc z1 z2 hp hj hoc hjr hjc hcap
     generalize cutA (cutA A cap k) (cap - k) 9=R at *
     generalize n - k - 9=rn at *
     generalize cap - k - 9=rc at *
     generalize (l.drop (k+9)).take j=T at *
     generalize mayCData T=my at *
     unfold cdatasV
     cases my
     all_goals
      simp only[if_true,Bool.false_eq_true,if_false]
      go_enter Tryz.func75,Tryz.ntmps75
      go_wp2
      go_region_with (first
        |(go_at_call 99;refine(CP.out _ (by first|exact Hd ⟨0,rfl⟩|exact Hd ⟨1,rfl⟩|exact Hd ⟨2,rfl⟩|exact Hd ⟨3,rfl⟩)).mono ?_;rintro e w1 ⟨rfl,HJ1⟩))
      all_goals
        clear hcv z0
        have z1:=HJ1.out.2.2.2.1
        go_wp2_with fail
        refine(CI.out _ HJ1).mono ?_
        rintro e w2 ⟨rfl,HJ2⟩
        clear hcq z1
        have z2:=HJ2.out.2.2.2.2
        have hst: ∀ m,(convert 29 9 (.slice R j rc)).run Tryz.prog (w2.drewN m)= .ok (.string ⟨T.toArray⟩) (w2.drewN m):=fun m=>HST.out _ (HJ2.out.drewN m)
        have CMm:=Hd (fun m=>CM.out _ (HJ2.out.drewN m))
        go_wp2
        go_quiet ((go_at_call 100;exact Calls.quiet_of_same (CMm.out _)))
        have HJ3:=Hd (HJ2.out.drewN nq)
        clear hst CMm z2
        generalize w2.drewN nq=w3 at *
        have z0:=HJ3.out.2.2.1
        have z1:=HJ3.out.2.2.2.1
        have hst: ∀ m,(convert 29 9 (.slice R j rc)).run Tryz.prog (w3.drewN m)= .ok (.string ⟨T.toArray⟩) (w3.drewN m):=fun m=>HST.out _ (HJ3.out.drewN m)
        have hs1:IntKind.i64.wrap ((k:Int)+9)=(k:Int)+9:=by rw[IntKind.wrap_i64];omega
        have hs2:IntKind.i64.wrap ((k:Int)+9+(j:Int))=(k:Int)+9+(j:Int):=by rw[IntKind.wrap_i64];omega
        have hs3:IntKind.i64.wrap ((k:Int)+9+(j:Int)+3)=(k:Int)+9+(j:Int)+3:=by rw[IntKind.wrap_i64];omega
        first
        |(go_wp2
          go_ret3
          exact⟨rfl,HJ3.out.1⟩)
        |(go_wp2
          go_quiet (fail)
          have HJ4:=Hd (HJ3.out.drewN nq)
          generalize w3.drewN nq=w4 at *
          go_wp2
          go_ret3
          exact⟨rfl,HJ4.out.1⟩)
 · have hp':=bfalse hp
   have CP:Hid (∀ W:World,Hid (∃ m,W=(w.alloc (.cells #[.string ⟨#[60,33,91,67,68,65,84,65,91]⟩,.string ⟨#[93,93,62]⟩,.func (.func 100) #[] #[]] 139)).drewN m)→Calls Tryz.prog 99 #[.slice (cutA A cap k) (n - k) (cap - k),.slice (some ⟨w.heap.size+1,0,none⟩) 9 (grownCap W 9 0 5)] (Lib.bytesWorld W 5 ⟨#[60,33,91,67,68,65,84,65,91]⟩) fun e w'=>e= .returned (.tuple #[.slice (cutA A cap k) (n - k) (cap - k),.bool false])∧Hid (MkJ [60,33,91,67,68,65,84,65,91] [93,93,62] 100 w w')):=Hd fun W HW=>by
     obtain⟨m,rfl⟩:=HW.out
     have hJ1:=(hJ0.drewN m).kept (Lib.bytesWorld_below _ 5 ⟨#[60,33,91,67,68,65,84,65,91]⟩)
     have hn:=byt_new ((w.alloc (.cells #[.string ⟨#[60,33,91,67,68,65,84,65,91]⟩,.string ⟨#[93,93,62]⟩,.func (.func 100) #[] #[]] 139)).drewN m) [60,33,91,67,68,65,84,65,91] (by simp)
     rw[show ((w.alloc (.cells #[.string ⟨#[60,33,91,67,68,65,84,65,91]⟩,.string ⟨#[93,93,62]⟩,.func (.func 100) #[] #[]] 139)).drewN m).heap.size=w.heap.size+1 from hsize]at hn
     exact(cutPrefix_no _ _ _ _ _ _ _ _ _ _ _ ((hA _ hJ1).drop hk) hn hp').mono fun e w' ⟨he,hw⟩=>⟨he,Hd (hw ▸ hJ1)⟩
   have CI:=Hd (HCI.out _ _ _ _ (fun W hJ=>(hA W hJ).drop hk) (by omega))
   have HE:Hid (markedOut [60,33,91,67,68,65,84,65,91] [93,93,62] mayCData l k=([],0,7)):=Hd (marked_no rfl fun h'=>absurd h' hp)
   rw[HE.out]
   clear h hM hb0 f0 hJ0 hA HE HCI hln hsize z1 z2 hp hp' hcap
   generalize Lib.index (l.drop k) [93,93,62]=ix at *
   unfold cdatasV
   go_enter Tryz.func75,Tryz.ntmps75
   go_wp2
   go_region_with (first
     |(go_at_call 99;refine(CP.out _ (by first|exact Hd ⟨0,rfl⟩|exact Hd ⟨1,rfl⟩|exact Hd ⟨2,rfl⟩|exact Hd ⟨3,rfl⟩)).mono ?_;rintro e w1 ⟨rfl,HJ1⟩))
   all_goals
     clear hcv z0
     have z1:=HJ1.out.2.2.2.1
     go_wp2_with fail
     refine(CI.out _ HJ1).mono ?_
     rintro e w2 ⟨rfl,HJ2⟩
     clear hcq z1
     go_wp2
     go_quiet (fail)
     have HJ3:=Hd (HJ2.out.drewN nq)
     generalize w2.drewN nq=w3 at *
     go_wp2
     go_ret3
     exact⟨rfl,HJ3.out.1⟩
def anyAt (f:List UInt8→Nat→List UInt8 × Nat × Nat)(l:List UInt8)(at_:Int):List UInt8 × Nat × Nat:=if at_<0∨(l.length:Int)<at_ then ([],0,3) else f l at_.toNat
theorem anyAt_in (f:List UInt8→Nat→List UInt8 × Nat × Nat)(l:List UInt8)(k:Nat)(h:k≤l.length):anyAt f l k=f l k:=by
 unfold anyAt
 rw[if_neg (by omega),Int.toNat_natCast]
theorem refCommentAt_c (A:Option Addr)(n cap:Nat)(l:List UInt8)(at_:Int)(B:Nat)(w:World)(h:Byt w B A n cap l)(hm:n≤100000) :
 Calls Tryz.prog 29 #[.slice A n cap,.int .i64 at_] w fun e w'=>e= .returned (outV (anyAt commentOut l at_))∧w=w':=by
 by_cases ha:at_<0∨(n:Int)<at_
 · have:anyAt commentOut l at_=([],0,3):=by unfold anyAt;rw[h.length,if_pos ha]
   rw[this]
   exact refComment_range A n cap at_ w ha
 · obtain⟨k,rfl⟩: ∃ k:Nat,at_=(k:Int):=⟨at_.toNat,by omega⟩
   rw[anyAt_in _ _ _ (by rw[h.length];omega)]
   exact refComment_c A n cap l k B w h hm (by omega)
theorem miscComment_c (A:Option Addr)(n cap:Nat)(l:List UInt8)(at_:Int)(w:World)(h:Byt w w.heap.size A n cap l)(hM:MaxL w)(hm:n≤100000) :
 Calls Tryz.prog 50 #[.slice A n cap,.int .i64 at_] w fun e w'=>e= .returned (outV (anyAt commentOut l at_))∧Below w.heap.size w w':=by
 have C1:=Hd (comments_c w)
 have C2:Hid (∀ W,Below w.heap.size w W→Calls Tryz.prog 75 #[commentsV,.slice A n cap,.int .i64 at_] W fun e w'=>e= .returned (outV (anyAt commentOut l at_))∧Below W.heap.size W w'):=Hd fun W hb=>by
  by_cases ha:at_<0∨(n:Int)<at_
  · have:anyAt commentOut l at_=([],0,3):=by unfold anyAt;rw[h.length,if_pos ha]
    rw[this]
    exact commentsRead_range A n cap at_ W ha
  · obtain⟨k,rfl⟩: ∃ k:Nat,at_=(k:Int):=⟨at_.toNat,by omega⟩
    rw[anyAt_in _ _ _ (by rw[h.length];omega),← marked_comment l k (by rw[h.length];omega)]
    exact commentsRead_c A n cap l k W ((h.below hb).more hb.size) (hM.below hb hM.lt) hm (by omega)
 clear h hM hm
 generalize anyAt commentOut l at_=r at *
 unfold outV at *
 go_enter Tryz.func50,Tryz.ntmps50
 go_wp2_with fail
 refine(C1.out).mono ?_
 rintro e w1 ⟨rfl,hb⟩
 have B1:=Hd hb
 clear hb
 go_wp2_with fail
 refine(C2.out _ B1.out).mono ?_
 rintro e w2 ⟨rfl,hb⟩
 have B2:=Hd (B1.out.trans (hb.mono B1.out.size))
 clear hb
 go_wp2
 go_ret3
 exact⟨rfl,B2.out⟩
theorem refCDataAt_c (A:Option Addr)(n cap:Nat)(l:List UInt8)(at_:Int)(B:Nat)(w:World)(h:Byt w B A n cap l)(hm:n≤100000) :
 Calls Tryz.prog 30 #[.slice A n cap,.int .i64 at_] w fun e w'=>e= .returned (outV (anyAt cdataOut l at_))∧w=w':=by
 by_cases ha:at_<0∨(n:Int)<at_
 · have:anyAt cdataOut l at_=([],0,3):=by unfold anyAt;rw[h.length,if_pos ha]
   rw[this]
   exact refCData_range A n cap at_ w ha
 · obtain⟨k,rfl⟩: ∃ k:Nat,at_=(k:Int):=⟨at_.toNat,by omega⟩
   rw[anyAt_in _ _ _ (by rw[h.length];omega)]
   exact refCData_c A n cap l k B w h hm (by omega)
theorem miscCData_c (A:Option Addr)(n cap:Nat)(l:List UInt8)(at_:Int)(w:World)(h:Byt w w.heap.size A n cap l)(hM:MaxL w)(hm:n≤100000) :
 Calls Tryz.prog 51 #[.slice A n cap,.int .i64 at_] w fun e w'=>e= .returned (outV (anyAt cdataOut l at_))∧Below w.heap.size w w':=by
 have C1:=Hd (cdatas_c w)
 have C2:Hid (∀ W,Below w.heap.size w W→Calls Tryz.prog 75 #[cdatasV,.slice A n cap,.int .i64 at_] W fun e w'=>e= .returned (outV (anyAt cdataOut l at_))∧Below W.heap.size W w'):=Hd fun W hb=>by
  by_cases ha:at_<0∨(n:Int)<at_
  · have:anyAt cdataOut l at_=([],0,3):=by unfold anyAt;rw[h.length,if_pos ha]
    rw[this]
    exact cdatasRead_range A n cap at_ W ha
  · obtain⟨k,rfl⟩: ∃ k:Nat,at_=(k:Int):=⟨at_.toNat,by omega⟩
    rw[anyAt_in _ _ _ (by rw[h.length];omega),← marked_cdata l k (by rw[h.length];omega)]
    exact cdatasRead_c A n cap l k W ((h.below hb).more hb.size) (hM.below hb hM.lt) hm (by omega)
 clear h hM hm
 generalize anyAt cdataOut l at_=r at *
 unfold outV at *
 go_enter Tryz.func51,Tryz.ntmps51
 go_wp2_with fail
 refine(C1.out).mono ?_
 rintro e w1 ⟨rfl,hb⟩
 have B1:=Hd hb
 clear hb
 go_wp2_with fail
 refine(C2.out _ B1.out).mono ?_
 rintro e w2 ⟨rfl,hb⟩
 have B2:=Hd (B1.out.trans (hb.mono B1.out.size))
 clear hb
 go_wp2
 go_ret3
 exact⟨rfl,B2.out⟩
end Go.Proofs.YtbafljibbabnaaaGreatDoor
