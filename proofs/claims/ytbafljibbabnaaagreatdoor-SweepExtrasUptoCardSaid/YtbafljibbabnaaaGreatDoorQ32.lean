/- Texts of ours, joined: Misc7, MiscP2, Law08, Misc8, Law08b, Tag5. -/
import Derived.Test.YtbafljibbabnaaaGreatDoorQ31
namespace Go.Proofs.YtbafljibbabnaaaGreatDoor
open Go.ChangeShapes Go.WideShapes Go.ChangeAt Go.RowKit
set_option linter.unusedVariables false
set_option maxRecDepth 100000
set_option maxHeartbeats 32000000
theorem findI_index (l p:List UInt8)(k:Nat):(Lib.index (l.drop k) p<0∧findI l k p= -1∧Lib.index (l.drop k) p= -1)∨ ∃ j:Nat,Lib.index (l.drop k) p=(j:Int)∧findI l k p=((k+j:Nat):Int):=by
 have hge:=Lib.index_ge (l.drop k) p
 by_cases h:Lib.index (l.drop k) p<0
 · refine .inl ⟨h,?_,by omega⟩
   unfold findI
   rw[if_pos h]
 · refine .inr ⟨(Lib.index (l.drop k) p).toNat,by omega,?_⟩
   unfold findI
   rw[if_neg h]
   omega
theorem miscPi_range (A:Option Addr)(n cap:Nat)(at_:Int)(w:World)(ha:at_<0∨(n:Int)<at_) :
 Calls Tryz.prog 52 #[.slice A n cap,.int .i64 at_] w fun e w'=>e= .returned (out4V ([],[],0,3))∧Below w.heap.size w w':=by
 by_cases h0:at_<0
 · have hd:decide (at_<0)=true:=by simpa using h0
   clear ha
   go_enter Tryz.func52,Tryz.ntmps52
   go_wp2
   (try simp only[Exit.inBlock,Exit.then])
   refine bodyPost_ret (results_tmp4 rfl _ _ _) rfl ?_
   exact⟨rfl,Below.refl _ _⟩
 · have h1:(n:Int)<at_:=by omega
   clear ha
   go_enter Tryz.func52,Tryz.ntmps52
   go_wp2
   (try simp only[Exit.inBlock,Exit.then])
   refine bodyPost_ret (results_tmp4 rfl _ _ _) rfl ?_
   exact⟨rfl,Below.refl _ _⟩
theorem miscPi_in (A:Option Addr)(n cap:Nat)(l:List UInt8)(k:Nat)(w:World)(h:Byt w w.heap.size A n cap l)(hF:Forms w)(hT:TabN w)(hM:MaxL w)(hm:n≤50000)(hk:k≤n)(hR:ResC 78 w (plainOut l (k+2)).1) :
 Calls Tryz.prog 52 #[.slice A n cap,.int .i64 k] w fun e w'=>e= .returned (out4V (piOut l k))∧Below w.heap.size w w':=by
 have kc:=fun (w:World) (C:Array Value) (n c:Nat)=>Lib.run_convert_bytes_const (P:=Tryz.prog) w 29 5 C n c Tryz.underlying29 Tryz.underlying5
 have hk': ¬ (n:Int)<(k:Int):=by omega
 have hk0:(0:Int)≤(k:Int):=by omega
 have hk1:(k:Int)≤50000:=by omega
 have hln:=h.length
 have hrk: ∀ W:World,(Instr.slice 29 (.slice A n cap) (some (.int .i64 (k:Int))) none none).run Tryz.prog W= .ok (.slice (cutA A cap k) (n - k) (cap - k)) W:=fun W=>run_from A n cap k hk
 have hL:=hT.low hF
 have hA0:=alloc_const w [60,63] (2,3) (by simp)
 have C1:=Hd (hasPrefix_c _ _ _ _ _ _ _ _ _ _ _ ((h.below hA0.1).drop hk) hA0.2)
 have B0:=Hd hA0.1
 have hcap:=h.le
 have HH:=Hd (And.intro h (And.intro hF (And.intro hT (And.intro hM hL))))
 clear hA0
 by_cases hp: [60,63].isPrefixOf (l.drop k)=true
 · have hkl:k+2≤n:=by have:=pre_len hp;simp at this;omega
   rw[hp]at C1
   have HO:Hid (piOut l k=piRest l (plainOut l (k+2))):=Hd (by unfold piOut;rw[if_neg (by rw[hp];simp)])
   rw[HO.out]
   have hle:=plainOut_le l (k+2) (by omega)
   have C2:Hid (∀ W,Below w.heap.size w W→Calls Tryz.prog 77 #[.slice A n cap,.int .i64 ((k:Int)+2)] W fun e w'=>e= .returned (outV (plainOut l (k+2)))∧Below W.heap.size W w'):=Hd fun W hb=>by
    have:=plain_c A n cap l (k+2) W ((h.below hb).more hb.size) (hF.below hb hF.lt) (hT.below hb hL) (by omega) hkl
    rwa [show ((k+2:Nat):Int)=(k:Int)+2 by omega]at this
   clear HO hp
   generalize plainOut l (k+2)=po at *
   obtain⟨s,t,f⟩:=po
   unfold outV at C2
   simp only at C2 hle hR
   have HR:=Hd hR
   clear hR
   by_cases hf:f=0
   · subst hf
     have htl:=hle rfl
     clear hle
     have CB:Hid (∀ W,Below w.heap.size w W→Calls Tryz.prog 79 #[.slice A n cap,.int .i64 t] W fun e w'=>e= .returned (.int .i64 (blankTo l t))∧W=w'):=Hd fun W hb=>blanks_c A n cap l t _ W (h.below hb) (by omega) (by omega)
     have hbt:=blankTo_le l t (by omega)
     cases hrs:resB s with
     |true =>
      rw[piRest_res l s t hrs]
      unfold ResC at HR
      rw[hrs]at HR
      clear h hF hT hM hL hln hrs hbt hcap
      go_enter Tryz.func52,Tryz.ntmps52
      go_wp2_with fail
      refine C1.out.mono ?_
      rintro e w1 ⟨rfl,rfl⟩
      clear kc
      go_wp2_with fail
      refine(C2.out _ B0.out).mono ?_
      rintro e w2 ⟨rfl,hb⟩
      have B1:=Hd (B0.out.trans (hb.mono B0.out.size))
      clear hb
      go_wp2_with fail
      refine(HR.out _ B1.out).mono ?_
      rintro e w3 ⟨rfl,hb⟩
      have B2:=Hd (B1.out.trans (hb.mono B1.out.size))
      clear hb
      go_wp2
      (try simp only[Exit.inBlock,Exit.then])
      refine bodyPost_ret (results_tmp4 rfl _ _ _) rfl ?_
      exact⟨rfl,B2.out⟩
     |false =>
      unfold ResC at HR
      rw[hrs]at HR
      have HRS:=Hd hrs
      clear hrs
      have hrb: ∀ W:World,(Instr.slice 29 (.slice A n cap) (some (.int .i64 (blankTo l t:Int))) none none).run Tryz.prog W= .ok (.slice (cutA A cap (blankTo l t)) (n - blankTo l t) (cap - blankTo l t)) W:=fun W=>run_from A n cap (blankTo l t) (by omega)
      have CI:Hid (∀ W,Below w.heap.size w W→Calls Tryz.prog 80 #[.slice (cutA A cap (blankTo l t)) (n - blankTo l t) (cap - blankTo l t),.slice (some ⟨W.heap.size,0,none⟩) 2 2] (W.alloc (.cells #[.int .u8 63,.int .u8 62] 5 (2,3))) fun e w'=>e= .returned (.int .i64 (Lib.index (l.drop (blankTo l t)) [63,62]))∧Hid (Below w.heap.size w w')):=Hd fun W hb=>by
       have hA1:=alloc_const W [63,62] (2,3) (by simp)
       have hb1:=hb.trans (hA1.1.mono hb.size)
       exact(bindex_c _ _ _ _ _ _ _ _ _ _ _ ((h.below hb1).drop (k:=blankTo l t) (by omega)) hA1.2 (hM.below hb1 hM.lt) (by simp) (by omega) (by simp)).mono fun e w' ⟨he,q,hq⟩=>⟨he,Hd (hq ▸ below_drewN' hb1)⟩
      rcases findI_index l [63,62] (blankTo l t)with ⟨_,hf,hx⟩|⟨j,hx,hf⟩
      · rw[piRest_no l s t _ HRS.out rfl (by rw[hf];omega)]
        rw[hx]at CI
        clear h hF hT hM hL hln hf hbt hcap hx
        generalize blankTo l t=b at *
        generalize n - b=nb at *
        generalize cap - b=cb at *
        go_enter Tryz.func52,Tryz.ntmps52
        go_wp2_with fail
        refine C1.out.mono ?_
        rintro e w1 ⟨rfl,rfl⟩
        go_wp2_with fail
        refine(C2.out _ B0.out).mono ?_
        rintro e w2 ⟨rfl,hb⟩
        have B1:=Hd (B0.out.trans (hb.mono B0.out.size))
        clear hb
        go_wp2_with fail
        refine(HR.out _ B1.out).mono ?_
        rintro e w3 ⟨rfl,hb⟩
        have B2:=Hd (B1.out.trans (hb.mono B1.out.size))
        clear hb
        go_wp2_with fail
        refine(CB.out _ B2.out).mono ?_
        rintro e wq ⟨rfl,rfl⟩
        go_wp2_with fail
        refine(CI.out _ B2.out).mono ?_
        rintro e w4 ⟨rfl,B3⟩
        clear kc
        go_wp2
        (try simp only[Exit.inBlock,Exit.then])
        refine bodyPost_ret (results_tmp4 rfl _ _ _) rfl ?_
        exact⟨rfl,B3.out⟩
      · have hjl:blankTo l t+j+2≤l.length:=by
         have:=Lib.index_room (l.drop (blankTo l t)) [63,62] (by rw[hx];omega)
         rw[hx,List.length_drop]at this
         simp at this
         omega
        rw[hx]at CI
        have hj0: ¬ (j:Int)<0:=by omega
        have hj1:(j:Int)≤50000:=by omega
        have ht1:(t:Int)≤50000:=by omega
        have hb1:(blankTo l t:Int)≤50000:=by omega
        by_cases hjt:blankTo l t=t∧0<j
        · have hres:piRest l (s,t,0)=([],[],0,7):=piRest_tight l s t (t+j) HRS.out hjt.1 (by rw[← hjt.1,hf,hjt.1]) (by omega)
          rw[hres]
          have hbe:((blankTo l t:Int)==(t:Int))=true:=by simp;omega
          have hjp:(0:Int)<(j:Int):=by omega
          clear h hF hT hM hL hln hf hbt hcap hx hres hjl hjt
          generalize blankTo l t=b at *
          generalize n - b=nb at *
          generalize cap - b=cb at *
          go_enter Tryz.func52,Tryz.ntmps52
          go_wp2_with fail
          refine C1.out.mono ?_
          rintro e w1 ⟨rfl,rfl⟩
          go_wp2_with fail
          refine(C2.out _ B0.out).mono ?_
          rintro e w2 ⟨rfl,hb⟩
          have B1:=Hd (B0.out.trans (hb.mono B0.out.size))
          clear hb
          go_wp2_with fail
          refine(HR.out _ B1.out).mono ?_
          rintro e w3 ⟨rfl,hb⟩
          have B2:=Hd (B1.out.trans (hb.mono B1.out.size))
          clear hb
          go_wp2_with fail
          refine(CB.out _ B2.out).mono ?_
          rintro e wq ⟨rfl,rfl⟩
          go_wp2_with fail
          refine(CI.out _ B2.out).mono ?_
          rintro e w4 ⟨rfl,B3⟩
          clear kc
          go_wp2
          (try simp only[Exit.inBlock,Exit.then])
          refine bodyPost_ret (results_tmp4 rfl _ _ _) rfl ?_
          exact⟨rfl,B3.out⟩
        · have hres:piRest l (s,t,0)=(s,(l.drop (blankTo l t)).take j,blankTo l t+j+2,0):=by
           have:=piRest_yes l s t (blankTo l t) (blankTo l t+j) HRS.out rfl hf (fun e=>by
            rcases Nat.eq_zero_or_pos j with g|g
            · omega
            · exact absurd ⟨e,g⟩ hjt)
           rw[this,show blankTo l t+j - blankTo l t=j by omega]
          rw[hres]
          have HST:Hid (∀ W,Below w.heap.size w W→(convert 29 9 (.slice (cutA A cap (blankTo l t)) j (cap - blankTo l t))).run Tryz.prog W= .ok (.string ⟨((l.drop (blankTo l t)).take j).toArray⟩) W):=Hd fun W hb=>(((h.below hb).drop (k:=blankTo l t) (by omega)).take (k:=j) (by omega)).str
          have hrf: ∀ w2:World,(Instr.slice 29 (.slice A n cap) (some (.int .i64 (blankTo l t:Int))) (some (.int .i64 ((blankTo l t:Int)+(j:Int)))) none).run Tryz.prog w2= .ok (.slice (cutA A cap (blankTo l t)) j (cap - blankTo l t)) w2:=fun w2=>by
           have:=run_fromTo (w:=w2) A n cap (blankTo l t) (blankTo l t+j) (by omega) (by omega)
           rwa [show blankTo l t+j - blankTo l t=j by omega,show((blankTo l t+j:Nat):Int)=(blankTo l t:Int)+(j:Int)by omega]at this
          rcases(show blankTo l t≠t∨(blankTo l t=t∧j=0)by omega)with hbne|⟨hbe,hj00⟩
          · have hbe:((blankTo l t:Int)==(t:Int))=false:=by simp;omega
            clear h hF hT hM hL hln hf hbt hcap hx hres hjl hjt hbne
            generalize (l.drop (blankTo l t)).take j=T at *
            generalize blankTo l t=b at *
            generalize n - b=nb at *
            generalize cap - b=cb at *
            go_enter Tryz.func52,Tryz.ntmps52
            go_wp2_with fail
            refine C1.out.mono ?_
            rintro e w1 ⟨rfl,rfl⟩
            go_wp2_with fail
            refine(C2.out _ B0.out).mono ?_
            rintro e w2 ⟨rfl,hb⟩
            have B1:=Hd (B0.out.trans (hb.mono B0.out.size))
            clear hb
            go_wp2_with fail
            refine(HR.out _ B1.out).mono ?_
            rintro e w3 ⟨rfl,hb⟩
            have B2:=Hd (B1.out.trans (hb.mono B1.out.size))
            clear hb
            go_wp2_with fail
            refine(CB.out _ B2.out).mono ?_
            rintro e wq ⟨rfl,rfl⟩
            go_wp2_with fail
            refine(CI.out _ B2.out).mono ?_
            rintro e w4 ⟨rfl,B3⟩
            clear kc
            have hst: ∀ m,(convert 29 9 (.slice (cutA A cap b) j cb)).run Tryz.prog (w4.drewN m)= .ok (.string ⟨T.toArray⟩) (w4.drewN m):=fun m=>HST.out _ (below_drewN' B3.out)
            have hs1:IntKind.i64.wrap ((b:Int)+(j:Int))=(b:Int)+(j:Int):=by rw[IntKind.wrap_i64];omega
            have hs2:IntKind.i64.wrap ((b:Int)+(j:Int)+2)=(b:Int)+(j:Int)+2:=by rw[IntKind.wrap_i64];omega
            go_wp2
            go_quiet (fail)
            have B4:=Hd (below_drewN' (n:=nq) B3.out)
            clear hst
            generalize w4.drewN nq=w5 at *
            go_wp2
            (try simp only[Exit.inBlock,Exit.then])
            refine bodyPost_ret (results_tmp4 rfl _ _ _) rfl ?_
            exact⟨rfl,B4.out⟩
          · subst hj00
            have hbe':((blankTo l t:Int)==(t:Int))=true:=by simp;omega
            clear h hF hT hM hL hln hf hbt hcap hx hres hjl hjt hbe
            generalize (l.drop (blankTo l t)).take 0=T at *
            generalize blankTo l t=b at *
            generalize n - b=nb at *
            generalize cap - b=cb at *
            go_enter Tryz.func52,Tryz.ntmps52
            go_wp2_with fail
            refine C1.out.mono ?_
            rintro e w1 ⟨rfl,rfl⟩
            go_wp2_with fail
            refine(C2.out _ B0.out).mono ?_
            rintro e w2 ⟨rfl,hb⟩
            have B1:=Hd (B0.out.trans (hb.mono B0.out.size))
            clear hb
            go_wp2_with fail
            refine(HR.out _ B1.out).mono ?_
            rintro e w3 ⟨rfl,hb⟩
            have B2:=Hd (B1.out.trans (hb.mono B1.out.size))
            clear hb
            go_wp2_with fail
            refine(CB.out _ B2.out).mono ?_
            rintro e wq ⟨rfl,rfl⟩
            go_wp2_with fail
            refine(CI.out _ B2.out).mono ?_
            rintro e w4 ⟨rfl,B3⟩
            clear kc
            have hst: ∀ m,(convert 29 9 (.slice (cutA A cap b) 0 cb)).run Tryz.prog (w4.drewN m)= .ok (.string ⟨T.toArray⟩) (w4.drewN m):=fun m=>HST.out _ (below_drewN' B3.out)
            have hrf2:=hrf
            simp only[Int.natCast_zero,Int.add_zero]at hrf2
            go_wp2
            go_quiet (fail)
            have B4:=Hd (below_drewN' (n:=nq) B3.out)
            clear hst
            generalize w4.drewN nq=w5 at *
            go_wp2
            (try simp only[Exit.inBlock,Exit.then])
            refine bodyPost_ret (results_tmp4 rfl _ _ _) rfl ?_
            exact⟨rfl,B4.out⟩
   · have hfz:((f:Int) != 0)=true:=by simp;omega
     rw[piRest_err l s t f hf]
     clear h hF hT hM hL hln hf hle HR hcap
     go_enter Tryz.func52,Tryz.ntmps52
     go_wp2_with fail
     refine C1.out.mono ?_
     rintro e w1 ⟨rfl,rfl⟩
     clear kc
     go_wp2_with fail
     refine(C2.out _ B0.out).mono ?_
     rintro e w2 ⟨rfl,hb⟩
     have B1:=Hd (B0.out.trans (hb.mono B0.out.size))
     clear hb
     go_wp2
     (try simp only[Exit.inBlock,Exit.then])
     refine bodyPost_ret (results_tmp4 rfl _ _ _) rfl ?_
     exact⟨rfl,B1.out⟩
 · have hp':=bfalse hp
   rw[hp']at C1
   have HO:Hid (piOut l k=([],[],0,7)):=Hd (by unfold piOut;rw[if_pos hp'])
   rw[HO.out]
   clear h hF hT hM hL hp hp' hln HO hR hcap
   go_enter Tryz.func52,Tryz.ntmps52
   go_wp2_with fail
   refine C1.out.mono ?_
   rintro e w1 ⟨rfl,rfl⟩
   clear kc
   go_wp2
   (try simp only[Exit.inBlock,Exit.then])
   refine bodyPost_ret (results_tmp4 rfl _ _ _) rfl ?_
   exact⟨rfl,B0.out⟩
theorem reserved_len (s:List UInt8)(w:World)(hs:s.length≠3):Calls Tryz.prog 78 #[.string ⟨s.toArray⟩] w fun e w'=>e= .returned (.bool false)∧w=w':=by
 have hl:((s.length:Int)==3)=false:=by simp;omega
 go_enter Tryz.func78,Tryz.ntmps78
 go_wp2
 go_ret
 exact⟨rfl,rfl⟩
structure W8 (w:World):Prop where
 tabs:TabN w
 forms:Forms w
 maxl:MaxL w
theorem W8.below {w w':World}(h:W8 w)(hb:Below w.heap.size w w'):W8 w':=⟨h.tabs.below hb (h.tabs.low h.forms),h.forms.below hb h.forms.lt,h.maxl.below hb h.maxl.lt⟩
theorem resB_len (s:List UInt8)(h:s.length≠3):resB s=false:=by
 unfold resB
 match s,h with
 | [],_=>rfl
 | [_],_=>simp [Lib.equalFold]
 | [_,_],_=>simp [Lib.equalFold]
 | [_,_,_],h=>simp at h
 |_ :: _ :: _ :: _ :: _,_=>simp [Lib.equalFold]
theorem resB_three (a b c:UInt8):resB [a,b,c]=(Lib.foldEq a 120 && (Lib.foldEq b 109 && Lib.foldEq c 108)):=by
 unfold resB
 simp[Lib.equalFold]
theorem fold_not (a u v:UInt8)(hu:97≤u.toNat)(hv:v.toNat+32=u.toNat)(h1: ¬ a=u)(h2: ¬ a=v):Lib.foldEq a u=false:=by
 unfold Lib.foldEq
 have n1: ¬ a.toNat=u.toNat:=fun e=>h1 (UInt8.toNat_inj.1 e)
 have n2: ¬ a.toNat=v.toNat:=fun e=>h2 (UInt8.toNat_inj.1 e)
 exact decide_eq_false (by omega)
theorem refReserved_len (s:List UInt8)(w:World)(hs:s.length≠3):Calls Tryz.prog 59 #[.string ⟨s.toArray⟩] w fun e w'=>e= .returned (.bool (resB s))∧w=w':=by
 rw[resB_len s hs]
 have hl:((s.length:Int) != 3)=true:=by simp;omega
 go_enter Tryz.func59,Tryz.ntmps59
 go_wp2
 go_ret
 exact⟨rfl,rfl⟩
theorem refReserved_three (a b c:UInt8)(w:World):Calls Tryz.prog 59 #[.string ⟨[a,b,c].toArray⟩] w fun e w'=>e= .returned (.bool (resB [a,b,c]))∧w=w':=by
 rw[resB_three]
 have i0:(Instr.index 9 (.string ⟨[a,b,c].toArray⟩) (.int .i64 0)).run Tryz.prog w= .ok (.int .u8 (a.toNat:Int)) w:=run_strIndex [a,b,c] 0 (by simp) w
 have i1:(Instr.index 9 (.string ⟨[a,b,c].toArray⟩) (.int .i64 1)).run Tryz.prog w= .ok (.int .u8 (b.toNat:Int)) w:=run_strIndex [a,b,c] 1 (by simp) w
 have i2:(Instr.index 9 (.string ⟨[a,b,c].toArray⟩) (.int .i64 2)).run Tryz.prog w= .ok (.int .u8 (c.toNat:Int)) w:=run_strIndex [a,b,c] 2 (by simp) w
 have hsz:(⟨[a,b,c].toArray⟩:ByteArray).size=3:=rfl
 generalize (⟨[a,b,c].toArray⟩:ByteArray)=S at *
 by_cases ha1:a=120
 · subst ha1
   have ea:Lib.foldEq 120 120=true:=by decide
   have ta:(UInt8.toNat 120:Int)=120:=rfl
   rw[ta]at i0
   by_cases hb1:b=109
   · subst hb1
     have eb:Lib.foldEq 109 109=true:=by decide
     have tb:(UInt8.toNat 109:Int)=109:=rfl
     rw[tb]at i1
     by_cases hc1:c=108
     · subst hc1
       have ec:Lib.foldEq 108 108=true:=by decide
       have tc:(UInt8.toNat 108:Int)=108:=rfl
       rw[tc]at i2
       rw[ea,eb,ec]
       clear ea ta eb tb ec tc
       go_enter Tryz.func59,Tryz.ntmps59
       go_wp2
       go_ret
       exact⟨rfl,rfl⟩
     · by_cases hc2:c=76
       · subst hc2
         have ec:Lib.foldEq 76 108=true:=by decide
         have tc:(UInt8.toNat 76:Int)=76:=rfl
         rw[tc]at i2
         rw[ea,eb,ec]
         clear ea ta eb tb ec tc hc1
         go_enter Tryz.func59,Tryz.ntmps59
         go_wp2
         go_ret
         exact⟨rfl,rfl⟩
       · have ec:Lib.foldEq c 108=false:=fold_not c 108 76 (by decide) (by decide) hc1 hc2
         have nc:((c.toNat:Int)==108)=false:=ne_byte c 108 108 rfl hc1
         have mc:((c.toNat:Int)==76)=false:=ne_byte c 76 76 rfl hc2
         rw[ea,eb,ec]
         clear ea ta eb tb ec hc1 hc2
         go_enter Tryz.func59,Tryz.ntmps59
         go_wp2
         go_ret
         exact⟨rfl,rfl⟩
   · by_cases hb2:b=77
     · subst hb2
       have eb:Lib.foldEq 77 109=true:=by decide
       have tb:(UInt8.toNat 77:Int)=77:=rfl
       rw[tb]at i1
       by_cases hc1:c=108
       · subst hc1
         have ec:Lib.foldEq 108 108=true:=by decide
         have tc:(UInt8.toNat 108:Int)=108:=rfl
         rw[tc]at i2
         rw[ea,eb,ec]
         clear ea ta eb tb hb1 ec tc
         go_enter Tryz.func59,Tryz.ntmps59
         go_wp2
         go_ret
         exact⟨rfl,rfl⟩
       · by_cases hc2:c=76
         · subst hc2
           have ec:Lib.foldEq 76 108=true:=by decide
           have tc:(UInt8.toNat 76:Int)=76:=rfl
           rw[tc]at i2
           rw[ea,eb,ec]
           clear ea ta eb tb hb1 ec tc hc1
           go_enter Tryz.func59,Tryz.ntmps59
           go_wp2
           go_ret
           exact⟨rfl,rfl⟩
         · have ec:Lib.foldEq c 108=false:=fold_not c 108 76 (by decide) (by decide) hc1 hc2
           have nc:((c.toNat:Int)==108)=false:=ne_byte c 108 108 rfl hc1
           have mc:((c.toNat:Int)==76)=false:=ne_byte c 76 76 rfl hc2
           rw[ea,eb,ec]
           clear ea ta eb tb hb1 ec hc1 hc2
           go_enter Tryz.func59,Tryz.ntmps59
           go_wp2
           go_ret
           exact⟨rfl,rfl⟩
     · have eb:Lib.foldEq b 109=false:=fold_not b 109 77 (by decide) (by decide) hb1 hb2
       have nb:((b.toNat:Int)==109)=false:=ne_byte b 109 109 rfl hb1
       have mb:((b.toNat:Int)==77)=false:=ne_byte b 77 77 rfl hb2
       rw[ea,eb]
       clear ea ta eb hb1 hb2
       go_enter Tryz.func59,Tryz.ntmps59
       go_wp2
       go_ret
       exact⟨rfl,rfl⟩
 · by_cases ha2:a=88
   · subst ha2
     have ea:Lib.foldEq 88 120=true:=by decide
     have ta:(UInt8.toNat 88:Int)=88:=rfl
     rw[ta]at i0
     by_cases hb1:b=109
     · subst hb1
       have eb:Lib.foldEq 109 109=true:=by decide
       have tb:(UInt8.toNat 109:Int)=109:=rfl
       rw[tb]at i1
       by_cases hc1:c=108
       · subst hc1
         have ec:Lib.foldEq 108 108=true:=by decide
         have tc:(UInt8.toNat 108:Int)=108:=rfl
         rw[tc]at i2
         rw[ea,eb,ec]
         clear ea ta ha1 eb tb ec tc
         go_enter Tryz.func59,Tryz.ntmps59
         go_wp2
         go_ret
         exact⟨rfl,rfl⟩
       · by_cases hc2:c=76
         · subst hc2
           have ec:Lib.foldEq 76 108=true:=by decide
           have tc:(UInt8.toNat 76:Int)=76:=rfl
           rw[tc]at i2
           rw[ea,eb,ec]
           clear ea ta ha1 eb tb ec tc hc1
           go_enter Tryz.func59,Tryz.ntmps59
           go_wp2
           go_ret
           exact⟨rfl,rfl⟩
         · have ec:Lib.foldEq c 108=false:=fold_not c 108 76 (by decide) (by decide) hc1 hc2
           have nc:((c.toNat:Int)==108)=false:=ne_byte c 108 108 rfl hc1
           have mc:((c.toNat:Int)==76)=false:=ne_byte c 76 76 rfl hc2
           rw[ea,eb,ec]
           clear ea ta ha1 eb tb ec hc1 hc2
           go_enter Tryz.func59,Tryz.ntmps59
           go_wp2
           go_ret
           exact⟨rfl,rfl⟩
     · by_cases hb2:b=77
       · subst hb2
         have eb:Lib.foldEq 77 109=true:=by decide
         have tb:(UInt8.toNat 77:Int)=77:=rfl
         rw[tb]at i1
         by_cases hc1:c=108
         · subst hc1
           have ec:Lib.foldEq 108 108=true:=by decide
           have tc:(UInt8.toNat 108:Int)=108:=rfl
           rw[tc]at i2
           rw[ea,eb,ec]
           clear ea ta ha1 eb tb hb1 ec tc
           go_enter Tryz.func59,Tryz.ntmps59
           go_wp2
           go_ret
           exact⟨rfl,rfl⟩
         · by_cases hc2:c=76
           · subst hc2
             have ec:Lib.foldEq 76 108=true:=by decide
             have tc:(UInt8.toNat 76:Int)=76:=rfl
             rw[tc]at i2
             rw[ea,eb,ec]
             clear ea ta ha1 eb tb hb1 ec tc hc1
             go_enter Tryz.func59,Tryz.ntmps59
             go_wp2
             go_ret
             exact⟨rfl,rfl⟩
           · have ec:Lib.foldEq c 108=false:=fold_not c 108 76 (by decide) (by decide) hc1 hc2
             have nc:((c.toNat:Int)==108)=false:=ne_byte c 108 108 rfl hc1
             have mc:((c.toNat:Int)==76)=false:=ne_byte c 76 76 rfl hc2
             rw[ea,eb,ec]
             clear ea ta ha1 eb tb hb1 ec hc1 hc2
             go_enter Tryz.func59,Tryz.ntmps59
             go_wp2
             go_ret
             exact⟨rfl,rfl⟩
       · have eb:Lib.foldEq b 109=false:=fold_not b 109 77 (by decide) (by decide) hb1 hb2
         have nb:((b.toNat:Int)==109)=false:=ne_byte b 109 109 rfl hb1
         have mb:((b.toNat:Int)==77)=false:=ne_byte b 77 77 rfl hb2
         rw[ea,eb]
         clear ea ta ha1 eb hb1 hb2
         go_enter Tryz.func59,Tryz.ntmps59
         go_wp2
         go_ret
         exact⟨rfl,rfl⟩
   · have ea:Lib.foldEq a 120=false:=fold_not a 120 88 (by decide) (by decide) ha1 ha2
     have na:((a.toNat:Int)==120)=false:=ne_byte a 120 120 rfl ha1
     have ma:((a.toNat:Int)==88)=false:=ne_byte a 88 88 rfl ha2
     rw[ea]
     clear ea ha1 ha2
     go_enter Tryz.func59,Tryz.ntmps59
     go_wp2
     go_ret
     exact⟨rfl,rfl⟩
theorem refReserved_c (s:List UInt8)(w:World):Calls Tryz.prog 59 #[.string ⟨s.toArray⟩] w fun e w'=>e= .returned (.bool (resB s))∧w=w':=by
 by_cases h:s.length=3
 · match s,h with
   | [a,b,c],_=>exact refReserved_three a b c w
 · exact refReserved_len s w h
theorem miscReserved_c (s:List UInt8)(w:World)(hT:FoldT w):Calls Tryz.prog 78 #[.string ⟨s.toArray⟩] w fun e w'=>e= .returned (.bool (resB s))∧Below w.heap.size w w':=by
 by_cases h:s.length=3
 · have C1:=Hd (equalFold_c s [120,109,108] w (by simp[h]) (by omega) xmlFold hT)
   have hl:((s.length:Int)==3)=true:=by simp;omega
   unfold resB
   clear h hT
   generalize Lib.equalFold s [120,109,108]=r at *
   go_enter Tryz.func78,Tryz.ntmps78
   go_wp2_with fail
   refine(C1.out).mono ?_
   rintro e w1 ⟨rfl,hb⟩
   have B1:=Hd hb
   clear hb
   go_wp2
   go_ret
   exact⟨rfl,B1.out⟩
 · rw[resB_len s h]
   exact(reserved_len s w h).mono fun e w' ⟨he,hw⟩=>⟨he,hw ▸ Below.refl _ _⟩
structure W8F (w:World):Prop extends W8 w where
 fold:FoldT w
theorem W8F.below {w w':World}(h:W8F w)(hb:Below w.heap.size w w'):W8F w':=⟨h.toW8.below hb,h.fold.below hb h.fold.lt⟩
theorem miscPiAt_c (A:Option Addr)(n cap:Nat)(l:List UInt8)(at_:Int)(w:World)(h:Byt w w.heap.size A n cap l)(hW:W8F w)(hm:n≤50000) :
 Calls Tryz.prog 52 #[.slice A n cap,.int .i64 at_] w fun e w'=>e= .returned (out4V (piAt l at_))∧Below w.heap.size w w':=by
 unfold piAt
 rw[h.length]
 by_cases ha:at_<0∨(n:Int)<at_
 · rw[if_pos ha]
   exact miscPi_range A n cap at_ w ha
 · rw[if_neg ha]
   obtain⟨k,rfl⟩: ∃ k:Nat,at_=(k:Int):=⟨at_.toNat,by omega⟩
   rw[Int.toNat_natCast]
   exact miscPi_in A n cap l k w h hW.forms hW.tabs hW.maxl hm (by omega) fun W hb=>miscReserved_c _ W (hW.below hb).fold
theorem refPiAt_c (A:Option Addr)(n cap:Nat)(l:List UInt8)(at_:Int)(w:World)(h:Byt w w.heap.size A n cap l)(hm:n≤50000) :
 Calls Tryz.prog 31 #[.slice A n cap,.int .i64 at_] w fun e w'=>e= .returned (out4V (piAt l at_))∧Below w.heap.size w w':=by
 unfold piAt
 rw[h.length]
 by_cases ha:at_<0∨(n:Int)<at_
 · rw[if_pos ha]
   exact refPi_range A n cap at_ w ha
 · rw[if_neg ha]
   obtain⟨k,rfl⟩: ∃ k:Nat,at_=(k:Int):=⟨at_.toNat,by omega⟩
   rw[Int.toNat_natCast]
   exact refPi_in A n cap l k w h hm (by omega) fun W hb=>(refReserved_c _ W).mono fun e w' ⟨he,hw⟩=>⟨he,hw ▸ Below.refl _ _⟩
def beginOut (p:List UInt8)(l:List UInt8)(k:Nat):List UInt8 × Nat × Nat:=if p.isPrefixOf (l.drop k)=true then nameOut l (k+p.length) else ([],0,7)
theorem tagBegin_in (A:Option Addr)(n cap:Nat)(l:List UInt8)(k:Nat)(p:List UInt8)(w:World)(h:Byt w w.heap.size A n cap l)(hW:W10 w)(hm:n≤40000)(hk:k≤n)(hp0:0<p.length)(hpl:p.length≤100) :
 Calls Tryz.prog 81 #[.slice A n cap,.int .i64 k,.string ⟨p.toArray⟩] w fun e w'=>e= .returned (outV (beginOut p l k))∧Below w.heap.size w w':=by
 have hln:=h.length
 have hk': ¬ (n:Int)<(k:Int):=by omega
 have hk0:(0:Int)≤(k:Int):=by omega
 have hk1:(k:Int)≤40000:=by omega
 have hp1:(p.length:Int)≤100:=by omega
 have c1:=stands_c A n cap l k p _ w h (by omega) (by omega) hk
 unfold beginOut
 cases hp:p.isPrefixOf (l.drop k)with
 |true =>
  rw[if_pos rfl]
  rw[hp]at c1
  have hkp:k+p.length≤n:=by
   rcases pre_len hp with e|e
   · rw[e]at hp0;cases hp0
   · omega
  have c2:=name_c A n cap l (k+p.length) w h hW.forms hW.tabs.n (by omega) hkp
  rw[show ((k+p.length:Nat):Int)=(k:Int)+(p.length:Int)by omega]at c2
  generalize nameOut l (k+p.length)=m at *
  obtain⟨s,nx,e⟩:=m
  have C1:=Hd c1
  have C2:=Hd c2
  clear c1 c2 h hW hln hp hkp
  unfold outV at *
  go_enter Tryz.func81,Tryz.ntmps81
  go_wp2_with fail
  refine(C1.out).mono ?_
  rintro e wq ⟨rfl,rfl⟩
  go_wp2_with fail
  refine C2.out.mono ?_
  rintro e w1 ⟨rfl,hb⟩
  have B1:=Hd hb
  clear hb
  go_wp2
  go_ret3
  exact⟨rfl,B1.out⟩
 |false =>
  rw[if_neg (by simp)]
  rw[hp]at c1
  have C1:=Hd c1
  clear c1 h hW hln hp
  unfold outV
  go_enter Tryz.func81,Tryz.ntmps81
  go_wp2_with fail
  refine(C1.out).mono ?_
  rintro e wq ⟨rfl,rfl⟩
  go_wp2
  go_ret3
  exact⟨rfl,Below.refl _ _⟩
theorem beginOut_e (p l:List UInt8)(k:Nat):(beginOut p l k).2.2=0→(beginOut p l k)=nameOut l (k+p.length)∧p.isPrefixOf (l.drop k)=true:=by
 unfold beginOut
 split
 · rename_i h;exact fun _=>⟨rfl,h⟩
 · intro h;cases h
theorem tagClose_in (A:Option Addr)(n cap:Nat)(l:List UInt8)(k:Nat)(w:World)(h:Byt w w.heap.size A n cap l)(hW:W10 w)(hm:n≤40000)(hk:k≤n) :
 Calls Tryz.prog 53 #[.slice A n cap,.int .i64 k] w fun e w'=>e= .returned (outV (closeOut l k))∧Below w.heap.size w w':=by
 have hln:=h.length
 have c1:=tagBegin_in A n cap l k [60,47] w h hW hm hk (by simp) (by simp)
 have CB:Hid (∀ t,t≤n→ ∀ W,Below w.heap.size w W→Calls Tryz.prog 79 #[.slice A n cap,.int .i64 (t:Int)] W fun e w'=>e= .returned (.int .i64 (blankTo l t))∧W=w'):=Hd fun t ht W hb=>blanks_c A n cap l t _ W (h.below hb) (by omega) ht
 have CS:Hid (∀ t,t≤n→ ∀ W,Below w.heap.size w W→Calls Tryz.prog 82 #[.slice A n cap,.int .i64 (t:Int),.string ⟨#[62]⟩] W fun e w'=>e= .returned (.bool ([62].isPrefixOf (l.drop t)))∧W=w'):=Hd fun t ht W hb=>stands_c A n cap l t [62] _ W (h.below hb) (by omega) (by simp) ht
 have hcl:closeOut l k=if (beginOut [60,47] l k).2.2≠0 then ([],0,(beginOut [60,47] l k).2.2) else if [62].isPrefixOf (l.drop (blankTo l (beginOut [60,47] l k).2.1))=true then ((beginOut [60,47] l k).1,blankTo l (beginOut [60,47] l k).2.1+1,0) else ([],0,7):=by
  unfold closeOut beginOut
  split <;> simp
 have hno:(beginOut [60,47] l k).2.2=0→(beginOut [60,47] l k).2.1≤n:=fun h0=>by
  obtain⟨h1,h2⟩:=beginOut_e [60,47] l k h0
  rw[h1]at h0 ⊢
  have:=pre_len h2
  simp only[List.length_cons,List.length_nil]at h0 ⊢ this
  rw[← hln]
  refine(nameOut_ok l (k+2) ?_ h0).2.1
  rcases this with e|e
  · cases e
  · omega
 rw[hcl]
 clear hcl
 generalize beginOut [60,47] l k=m at *
 obtain⟨s,nx,e⟩:=m
 simp only at hno ⊢
 unfold outV at c1
 simp only at c1
 have C1:=Hd c1
 clear c1
 by_cases he:e=0
 · subst he
   have hnx:=hno rfl
   rw[if_neg (by simp)]
   have c2:=CB.out nx hnx
   have hb:=blankTo_le l nx (by omega)
   generalize blankTo l nx=b at *
   have c3:=CS.out b (by omega)
   have hb0:(0:Int)≤(b:Int):=by omega
   have hb1:(b:Int)≤40000:=by omega
   generalize [62].isPrefixOf (l.drop b)=r at *
   have C2:=Hd c2
   have C3:=Hd c3
   clear c2 c3 CB CS h hW hln hno hnx hb hm hk
   unfold outV
   cases r
   all_goals
    simp only[if_true,Bool.false_eq_true,if_false]
    go_enter Tryz.func53,Tryz.ntmps53
    go_wp2_with fail
    refine(C1.out).mono ?_
    rintro e w1 ⟨rfl,hb⟩
    have B1:=Hd hb
    clear hb
    go_wp2_with fail
    refine(C2.out _ B1.out).mono ?_
    rintro e wq ⟨rfl,rfl⟩
    go_wp2_with fail
    refine(C3.out _ B1.out).mono ?_
    rintro e wq ⟨rfl,rfl⟩
    go_wp2
    go_ret3
    exact⟨rfl,B1.out⟩
 · rw[if_pos he]
   have hei:((e:Int)==0)=false:=by simp;omega
   clear CB CS h hW hln hno hm hk
   unfold outV
   go_enter Tryz.func53,Tryz.ntmps53
   go_wp2_with fail
   refine(C1.out).mono ?_
   rintro e w1 ⟨rfl,hb⟩
   have B1:=Hd hb
   clear hb
   go_wp2
   go_ret3
   exact⟨rfl,B1.out⟩
end Go.Proofs.YtbafljibbabnaaaGreatDoor
