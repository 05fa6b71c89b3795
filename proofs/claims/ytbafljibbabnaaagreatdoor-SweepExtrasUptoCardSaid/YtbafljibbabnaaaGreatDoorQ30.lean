/- Texts of ours, joined: Fold, Fold2, Misc2. -/
import Derived.ScopeJumps
import Derived.Outline
import Derived.WalkMore
import Derived.Laws.RangeAny
import Derived.Lib.FieldsLaws
import Derived.Lib.Walk
import Derived.Lib.Strings
import Derived.Laws.Strings3
import Derived.Laws.BitsAllLaws
import Derived.Test.YtbafljibbabnaaaGreatDoorQ27
namespace Go.Proofs.YtbafljibbabnaaaGreatDoor
open Go.ChangeShapes Go.WideShapes Go.ChangeAt Go.RowKit
set_option linter.unusedVariables false
set_option maxRecDepth 100000
set_option maxHeartbeats 32000000
theorem foldEq_hi (x y:UInt8)(hy:y.toNat<128)(hx:128≤x.toNat):Lib.foldEq x y=false:=by
 unfold Lib.foldEq
 exact decide_eq_false (by omega)
theorem equalFold_hi: ∀ (s t:List UInt8) (j:Nat) (b:UInt8),(∀ c∈t,c.toNat<128)→s[j]? =some b→128≤b.toNat→Lib.equalFold s t=false
 | [],_,_,_,_,h,_=>by simp at h
 |x :: s,[],_,_,_,_,_=>rfl
 |x :: s,y :: t,0,b,ht,h,hb=>by
  simp at h
  subst h
  exact Lib.equalFold_no _ _ _ _ (foldEq_hi _ _ (ht y (by simp)) hb)
 |x :: s,y :: t,j+1,b,ht,h,hb=>by
  have:=equalFold_hi s t j b (fun c hc=>ht c (by simp[hc])) (by simpa using h) hb
  simp[Lib.equalFold,this]
def foldPairs:List (Nat × Nat):= [(120,88),(88,120),(109,77),(77,109),(108,76),(76,108),(117,85),(85,117),(116,84),(84,116),(102,70),(70,102),(45,45),(56,56)]
def FoldT (w:World):Prop:= ∀ p∈foldPairs,w.cell? ⟨5,p.1,none⟩=some (.int .u16 (p.2:Int))
theorem FoldT.lt {w:World}(h:FoldT w):5<w.heap.size:=World.block_lt_of_cell? w _ (h (120,88) (by simp[foldPairs]))
theorem FoldT.below {w w':World}{B:Nat}(h:FoldT w)(hb:Below B w w')(hB:5<B):FoldT w':=fun p hp=>by rw[hb.cell hB];exact h p hp
theorem foldPairs_lt: ∀ p∈foldPairs,p.1<128∧p.2<128:=by decide
theorem simpleFold_c (r f:Nat)(w:World)(hr:r<128)(hf:f<128)(hc:w.cell? ⟨5,r,none⟩=some (.int .u16 (f:Int))) :
 Calls Tryz.prog 136 #[.int .i32 r] w fun e w'=>e= .returned (.int .i32 f)∧w=w':=by
 have h0: ¬ (r:Int)<0:=by omega
 have h1:(r:Int)<128:=by omega
 have h1':r<128:=hr
 have h2:(0:Int)≤(r:Int):=by omega
 have h3:(0:Int)≤(f:Int):=by omega
 have h4:(f:Int)<128:=by omega
 clear hr hf
 go_enter Tryz.func136,Tryz.ntmps136
 go_wp2
 go_ret
 exact⟨rfl,rfl⟩
theorem run_strFrom (l:List UInt8)(i:Nat)(h:i≤l.length)(w:World) :
 (Instr.slice 9 (.string ⟨l.toArray⟩) (some (.int .i64 (i:Int))) none none).run Tryz.prog w= .ok (.string ⟨(l.drop i).toArray⟩) w:=by
 have hsz:(⟨l.toArray⟩:ByteArray).size=l.length:=by simp[ByteArray.size]
 rw[run_slice_string_l (P:=Tryz.prog) (w:=w) (t:=9) (s:=⟨l.toArray⟩) Tryz.underlying9 .i64 (i:Int) (by omega) (by rw[hsz];omega)]
 congr 2
 refine ByteArray.ext (Array.toList_inj.1 ?_)
 rw[Lib.extract_data]
 rw[hsz]
 exact List.take_of_length_le (by simp)
def FoldJ (s t:List UInt8)(i0:Nat)(w:World)(a':Act)(w':World):Prop:=w'=w∧ ∃ u:Nat→Value,u 0= .string ⟨s.toArray⟩∧u 1= .string ⟨t.toArray⟩∧u 5= .int .i64 i0∧a'= { tmps:= #[u 0,u 1,u 2,u 3,u 4,u 5,u 6,u 7,u 8,u 9,u 10,u 11,u 12,u 13,u 14,u 15,u 16,u 17,u 18,u 19,u 20,u 21,u 22,u 23,u 24,u 25,u 26,u 27,u 28,u 29,u 30,u 31,u 32,u 33,u 34,u 35,u 36,u 37,u 38,u 39,u 40,u 41,u 42,u 43,u 44,u 45,u 46,u 47,u 48,u 49,u 50,u 51,u 52,u 53,u 54,u 55,u 56,u 57,u 58,u 59,u 60,u 61,u 62,u 63,u 64,u 65,u 66,u 67,u 68,u 69,u 70,u 71,u 72,u 73,u 74,u 75,u 76,u 77,u 78,u 79,u 80,u 81,u 82,u 83,u 84,u 85,u 86,u 87,u 88,u 89,u 90,u 91,u 92,u 93,u 94,u 95,u 96,u 97,u 98,u 99,u 100,u 101,u 102,u 103,u 104,u 105,u 106,u 107,u 108,u 109,u 110,u 111,u 112,u 113,u 114,u 115,u 116,u 117,u 118,u 119,u 120,u 121,u 122],defers:= [] }
theorem foldJ_of {s t:List UInt8}{i0:Nat}{w:World}(tm:Array Value)(h:tm= #[tm.getD 0 undef,tm.getD 1 undef,tm.getD 2 undef,tm.getD 3 undef,tm.getD 4 undef,tm.getD 5 undef,tm.getD 6 undef,tm.getD 7 undef,tm.getD 8 undef,tm.getD 9 undef,tm.getD 10 undef,tm.getD 11 undef,tm.getD 12 undef,tm.getD 13 undef,tm.getD 14 undef,tm.getD 15 undef,tm.getD 16 undef,tm.getD 17 undef,tm.getD 18 undef,tm.getD 19 undef,tm.getD 20 undef,tm.getD 21 undef,tm.getD 22 undef,tm.getD 23 undef,tm.getD 24 undef,tm.getD 25 undef,tm.getD 26 undef,tm.getD 27 undef,tm.getD 28 undef,tm.getD 29 undef,tm.getD 30 undef,tm.getD 31 undef,tm.getD 32 undef,tm.getD 33 undef,tm.getD 34 undef,tm.getD 35 undef,tm.getD 36 undef,tm.getD 37 undef,tm.getD 38 undef,tm.getD 39 undef,tm.getD 40 undef,tm.getD 41 undef,tm.getD 42 undef,tm.getD 43 undef,tm.getD 44 undef,tm.getD 45 undef,tm.getD 46 undef,tm.getD 47 undef,tm.getD 48 undef,tm.getD 49 undef,tm.getD 50 undef,tm.getD 51 undef,tm.getD 52 undef,tm.getD 53 undef,tm.getD 54 undef,tm.getD 55 undef,tm.getD 56 undef,tm.getD 57 undef,tm.getD 58 undef,tm.getD 59 undef,tm.getD 60 undef,tm.getD 61 undef,tm.getD 62 undef,tm.getD 63 undef,tm.getD 64 undef,tm.getD 65 undef,tm.getD 66 undef,tm.getD 67 undef,tm.getD 68 undef,tm.getD 69 undef,tm.getD 70 undef,tm.getD 71 undef,tm.getD 72 undef,tm.getD 73 undef,tm.getD 74 undef,tm.getD 75 undef,tm.getD 76 undef,tm.getD 77 undef,tm.getD 78 undef,tm.getD 79 undef,tm.getD 80 undef,tm.getD 81 undef,tm.getD 82 undef,tm.getD 83 undef,tm.getD 84 undef,tm.getD 85 undef,tm.getD 86 undef,tm.getD 87 undef,tm.getD 88 undef,tm.getD 89 undef,tm.getD 90 undef,tm.getD 91 undef,tm.getD 92 undef,tm.getD 93 undef,tm.getD 94 undef,tm.getD 95 undef,tm.getD 96 undef,tm.getD 97 undef,tm.getD 98 undef,tm.getD 99 undef,tm.getD 100 undef,tm.getD 101 undef,tm.getD 102 undef,tm.getD 103 undef,tm.getD 104 undef,tm.getD 105 undef,tm.getD 106 undef,tm.getD 107 undef,tm.getD 108 undef,tm.getD 109 undef,tm.getD 110 undef,tm.getD 111 undef,tm.getD 112 undef,tm.getD 113 undef,tm.getD 114 undef,tm.getD 115 undef,tm.getD 116 undef,tm.getD 117 undef,tm.getD 118 undef,tm.getD 119 undef,tm.getD 120 undef,tm.getD 121 undef,tm.getD 122 undef])(h0:tm.getD 0 undef= .string ⟨s.toArray⟩)(h1:tm.getD 1 undef= .string ⟨t.toArray⟩)(h5:tm.getD 5 undef= .int .i64 i0):FoldJ s t i0 w { tmps:=tm,defers:= [] } w :=
 ⟨rfl,fun i=>tm.getD i undef,h0,h1,h5,congrArg (fun x=>({ tmps:=x,defers:= [] }:Act)) h⟩
theorem equalFold_high (s t:List UInt8)(i0:Nat)(x c:UInt8)(f:Nat)(w:World)(hs:s.length=t.length)(hs1:s.length≤1000)(ht: ∀ (j:Nat) b,t[j]? =some b→b.toNat<128)(hlo: ∀ j b,j<i0→s[j]? =some b→b.toNat<128)(hx:s[i0]? =some x)(hx1:128≤x.toNat)(hc:t[i0]? =some c)
 (hp1:(c.toNat,f)∈foldPairs) (hp2:(f,c.toNat)∈foldPairs) (hT:FoldT w) :
 Calls Tryz.prog 103 #[.string ⟨s.toArray⟩,.string ⟨t.toArray⟩] w fun e w'=>e= .returned (.bool false)∧Below w.heap.size w w':=by
 have HS:=Hd (And.intro hs (And.intro ht (And.intro hlo (And.intro hx (And.intro hc (And.intro hp1 (And.intro hp2 hT)))))))
 have hsz:(⟨s.toArray⟩:ByteArray).size=s.length:=by simp[ByteArray.size]
 have htz:(⟨t.toArray⟩:ByteArray).size=s.length:=by simp[ByteArray.size,hs]
 have hi0:i0<s.length:=(List.getElem?_eq_some_iff.1 hx).1
 clear hs ht hlo hx hc hp1 hp2 hT
 go_enter Tryz.func103,Tryz.ntmps103
 go_wp2
 refine wp_scope_jumps 0 (FoldJ s t i0 w) (fun _ _=>0) rfl ?_ ?_
 · go_wp2
   go_loopg [5] i0 (fun g v wx=>w=wx∧ ∃ i:Nat,i≤i0∧Hid (g+i=i0)∧v= .int .i64 i)
   case atStart=>exact⟨rfl,0,Nat.zero_le _,Hd rfl,rfl⟩
   case round =>
    obtain⟨rfl,i,hi,hg,rfl⟩:=hrel
    have hi1:(i:Int)<(s.length:Int):=by omega
    have hi2:(0:Int)≤(i:Int):=by omega
    have hi3:(i:Int)≤1000:=by omega
    have hix:=run_strIndex s i (by omega) w
    have hit:=run_strIndex t i (by rw[← HS.out.1];omega) w
    have HX:Hid (s[i]? =some (s.getD i 0)):=Hd (by rw[List.getElem?_eq_getElem (by omega)];simp[show i<s.length by omega])
    have HC:Hid (t[i]? =some (t.getD i 0)):=Hd (by rw[List.getElem?_eq_getElem (by rw[← HS.out.1];omega)];simp[show i<t.length by rw[← HS.out.1];omega])
    generalize s.getD i 0=x' at *
    generalize t.getD i 0=c' at *
    have hc128:c'.toNat<128:=HS.out.2.1 i c' HC.out
    have hx256:x'.toNat<256:=x'.toNat_lt
    have hor:bits .or .u8 (x'.toNat:Int) (c'.toNat:Int)=((x'.toNat ||| c'.toNat:Nat):Int):=u8_or_nat _ _ (by omega) (by omega)
    by_cases he:i=i0
    · subst he
      have hxe:x'=x:=by have:=HX.out;rw[HS.out.2.2.2.1]at this;exact(Option.some.inj this).symm
      subst hxe
      have hor128:(128:Int)≤((x'.toNat ||| c'.toNat:Nat):Int):=by have:=Nat.left_le_or (n:=x'.toNat) (m:=c'.toNat);omega
      generalize ((x'.toNat ||| c'.toNat:Nat):Int)=orv at *
      go_wp2
      go_step3
      exact⟨rfl,foldJ_of _ rfl rfl rfl rfl⟩
    · have hx128:x'.toNat<128:=HS.out.2.2.1 i x' (by omega) HX.out
      have hor128: ¬ ((128:Int)≤((x'.toNat ||| c'.toNat:Nat):Int)):=by have:=Nat.or_lt_two_pow (n:=7) hx128 hc128;omega
      go_wp2
      all_goals first
       |(go_roundg (i0 - (i+1))
         case measure=>have:=hg.out;omega
         case rel=>exact⟨rfl,i+1,by omega,Hd (by omega),by go_num⟩)
       |((try simp only[Exit.jump])
         go_ret
         exact⟨rfl,Below.refl _ _⟩)
 · intro a' w' hJ
   obtain⟨rfl,u,h0,h1,h5,rfl⟩:=hJ
   rw[h0,h1,h5]
   clear h0 h1 h5
   have hsl:=run_strFrom s i0 (by omega)
   have htl:=run_strFrom t i0 (by rw[← HS.out.1];omega)
   obtain⟨T',hT'⟩: ∃ T',t.drop i0=c :: T':=⟨_,drop_cons t i0 c HS.out.2.2.2.2.1⟩
   obtain⟨S',hS'⟩: ∃ S',s.drop i0=x :: S':=⟨_,drop_cons s i0 x HS.out.2.2.2.1⟩
   rw[hT']at htl
   rw[hS']at hsl
   have htl1:=run_strFrom (c :: T') 1 (by simp)
   simp only[List.drop_succ_cons,List.drop_zero]at htl1
   have hSz:0<(⟨(x :: S').toArray⟩:ByteArray).size:=by simp[ByteArray.size]
   have hnx:=fun ty=>run_next_any (P:=Tryz.prog) w' ⟨(x :: S').toArray⟩ 0 ty hSz
   have hdh:=decode_high ⟨(x :: S').toArray⟩ 0 hSz hx1
   have hdl:=decode_le ⟨(x :: S').toArray⟩ 0
   have hr1:=hdh.1
   generalize Utf8.decode ⟨(x :: S').toArray⟩ 0=dc at *
   obtain⟨r,m⟩:=dc
   simp only[Nat.zero_add]at hr1 hdl hnx
   have hcf:=foldPairs_lt _ HS.out.2.2.2.2.2.1
   have hb:Below w'.heap.size w' (w'.iter ⟨(x :: S').toArray⟩ m):=(Below.refl _ _).alloc (Nat.le_refl _) _
   have HB:=Hd hb
   have CD:=Hd (Tryz.utf8_DecodeRuneInString_ascii ⟨(c :: T').toArray⟩ c (w'.iter ⟨(x :: S').toArray⟩ m) (by simp) hcf.1)
   have hT2:=HS.out.2.2.2.2.2.2.2.below hb HS.out.2.2.2.2.2.2.2.lt
   have CF:=Hd (simpleFold_c c.toNat f _ hcf.1 hcf.2 (hT2 _ HS.out.2.2.2.2.2.1))
   have CG:=Hd (simpleFold_c f c.toNat _ hcf.2 hcf.1 (hT2 _ HS.out.2.2.2.2.2.2.1))
   have hc0:(0:Int)≤(c.toNat:Int):=by omega
   have hc1:(c.toNat:Int)<128:=by omega
   have hf0:(0:Int)≤(f:Int):=by omega
   have hf1:(f:Int)<128:=by omega
   have hcr:(c.toNat:Int)<(r:Int):=by omega
   have hce:((c.toNat:Int)==(r:Int))=false:=by simp;omega
   have hr128: ¬ (r:Int)<128:=by omega
   have hfr:(f:Int)<(r:Int):=by omega
   have hl0:(((T'.length:Int)+1)==0)=false:=by simp;omega
   clear hT' hS' hdh hcf hb hT2
   by_cases hfc:f=c.toNat
   · subst hfc
     clear CG
     generalize (c.toNat:Int)=cn at *
     go_wp2
     refine wp_loop_rounds 1 ?_
     rw[rounds_succ]
     go_wp2_with fail
     refine(CD.out).mono ?_
     rintro e wq ⟨rfl,hwq⟩
     subst hwq
     go_wp2_with fail
     refine(CF.out).mono ?_
     rintro e wq ⟨rfl,rfl⟩
     go_wp2
     refine wp_loop_rounds 1 ?_
     rw[rounds_succ]
     go_wp2
     (try simp only[Exit.jump])
     go_ret
     exact⟨rfl,HB.out⟩
   · have hfne:((f:Int) != (c.toNat:Int))=true:=by simp;omega
     generalize (c.toNat:Int)=cn at *
     go_wp2
     refine wp_loop_rounds 1 ?_
     rw[rounds_succ]
     go_wp2_with fail
     refine(CD.out).mono ?_
     rintro e wq ⟨rfl,hwq⟩
     subst hwq
     go_wp2_with fail
     refine(CF.out).mono ?_
     rintro e wq ⟨rfl,rfl⟩
     go_wp2
     refine wp_loop_rounds 2 ?_
     rw[rounds_succ]
     go_wp2_with fail
     refine(CG.out).mono ?_
     rintro e wq ⟨rfl,rfl⟩
     go_wp2
     rw[rounds_succ]
     go_wp2
     (try simp only[Exit.jump])
     go_ret
     exact⟨rfl,HB.out⟩
theorem equalFold_c (s t:List UInt8)(w:World)(hs:s.length=t.length)(hs1:s.length≤1000)(ht: ∀ c∈t,∃ f,(c.toNat,f)∈foldPairs∧(f,c.toNat)∈foldPairs)(hT:FoldT w) :
 Calls Tryz.prog 103 #[.string ⟨s.toArray⟩,.string ⟨t.toArray⟩] w fun e w'=>e= .returned (.bool (Lib.equalFold s t))∧Below w.heap.size w w':=by
 have ht1: ∀ (j:Nat) b,t[j]? =some b→b.toNat<128:=fun j b hb=>by
  obtain⟨f,h1,_⟩:=ht b (List.mem_of_getElem? hb)
  exact(foldPairs_lt _ h1).1
 by_cases hall: ∀ (j:Nat) b,s[j]? =some b→b.toNat<128
 · exact(Tryz.strings_EqualFold ⟨s.toArray⟩ ⟨t.toArray⟩ w (by simp[ByteArray.size];omega) hall ht1).mono fun e w' ⟨he,hw⟩=>⟨he,by rw[hw];exact Below.refl _ _⟩
 · have hex: ∃ (i0:Nat) (x:UInt8),s[i0]? =some x∧128≤x.toNat∧ ∀ (j:Nat) (b:UInt8),j<i0→s[j]? =some b→b.toNat<128:=by
    have: ∃ n:Nat,∃ x:UInt8,s[n]? =some x∧128≤x.toNat:=by
     refine Classical.byContradiction fun hc=>hall fun j b hb=> ?_
     refine Classical.byContradiction fun h2=>hc ⟨j,b,hb,by omega⟩
    obtain⟨n,hn⟩:=this
    induction n using Nat.strongRecOn with
    |_ n ih =>
     by_cases hlow: ∀ (j:Nat) (b:UInt8),j<n→s[j]? =some b→b.toNat<128
     · obtain⟨x,h1,h2⟩:=hn
       exact⟨n,x,h1,h2,hlow⟩
     · have: ∃ m,m<n∧ ∃ x:UInt8,s[m]? =some x∧128≤x.toNat:=by
        refine Classical.byContradiction fun hc=>hlow fun j b hj hb=> ?_
        refine Classical.byContradiction fun h2=>hc ⟨j,hj,b,hb,by omega⟩
       obtain⟨m,hm,hm2⟩:=this
       exact ih m hm hm2
   obtain⟨i0,x,hx,hx1,hlo⟩:=hex
   have hi0:i0<t.length:=by rw[← hs];exact(List.getElem?_eq_some_iff.1 hx).1
   obtain⟨f,hp1,hp2⟩:=ht t[i0] (List.getElem_mem hi0)
   rw[equalFold_hi s t i0 x (fun c hc=>by
    obtain⟨j,hj⟩:=List.mem_iff_getElem?.1 hc
    exact ht1 j c hj) hx hx1]
   exact equalFold_high s t i0 x t[i0] f w hs hs1 ht1 hlo hx hx1 (List.getElem?_eq_getElem hi0) hp1 hp2 hT
theorem xmlFold: ∀ c∈([120,109,108]:List UInt8),∃ f,(c.toNat,f)∈foldPairs∧(f,c.toNat)∈foldPairs:=by
 intro c hc
 simp at hc
 rcases hc with rfl|rfl|rfl
 · exact⟨88,by decide,by decide⟩
 · exact⟨77,by decide,by decide⟩
 · exact⟨76,by decide,by decide⟩
theorem refComment_range (A:Option Addr)(n cap:Nat)(at_:Int)(w:World)(ha:at_<0∨(n:Int)<at_) :
 Calls Tryz.prog 29 #[.slice A n cap,.int .i64 at_] w fun e w'=>e= .returned (outV ([],0,3))∧w=w':=by
 by_cases h0:at_<0
 · have hd:decide (at_<0)=true:=by simpa using h0
   clear ha
   go_enter Tryz.func29,Tryz.ntmps29
   go_wp2
   go_ret3
   exact⟨rfl,rfl⟩
 · have h1:(n:Int)<at_:=by omega
   clear ha
   go_enter Tryz.func29,Tryz.ntmps29
   go_wp2
   go_ret3
   exact⟨rfl,rfl⟩
theorem refComment_c (A:Option Addr)(n cap:Nat)(l:List UInt8)(k:Nat)(B:Nat)(w:World)(h:Byt w B A n cap l)(hm:n≤100000)(hk:k≤n) :
 Calls Tryz.prog 29 #[.slice A n cap,.int .i64 k] w fun e w'=>e= .returned (outV (commentOut l k))∧w=w':=by
 have hk': ¬ (n:Int)<(k:Int):=by omega
 have hk0:(0:Int)≤(k:Int):=by omega
 have hk1:(k:Int)≤100000:=by omega
 have c1:=refAt8_c A n cap l k [60,33,45,45] B w h (by simp) (by omega) (by simp) (by omega)
 have hln:=h.length
 by_cases hp: [60,33,45,45].isPrefixOf (l.drop k)=true
 · have hkl:k+4≤n:=by have:=pre_len hp;simp at this;omega
   have c2:=refFind_c A n cap l (k+4) [45,45] B w h (by simp) (by omega) (by simp) hkl
   rw[show ((k+4:Nat):Int)=(k:Int)+4 by omega]at c2
   have hsp:=findI_spec l [45,45] (k+4) (by omega)
   rw[hp]at c1
   have C1:=Hd c1
   clear c1
   have HO:Hid (commentOut l k=if findI l (k+4) [45,45]<0 then ([],0,7) else
 if [45,45,62].isPrefixOf (l.drop (findI l (k+4) [45,45]).toNat)=true then ((l.drop (k+4)).take ((findI l (k+4) [45,45]).toNat - (k+4)),(findI l (k+4) [45,45]).toNat+3,0) else ([],0,7)):=Hd (by unfold commentOut;rw[if_neg (by rw[hp];simp)])
   rcases hsp with ⟨hf,_⟩|⟨i,hf,hki,hil,hpre,_⟩
   · rw[hf]at c2
     have C2:=Hd c2
     have HR:Hid (commentOut l k=([],0,7)):=Hd (by rw[HO.out,hf];rfl)
     rw[HR.out]
     clear c2 h hp hf hln HO HR
     go_enter Tryz.func29,Tryz.ntmps29
     go_wp2_with fail
     refine(C1.out).mono ?_
     rintro e wq ⟨rfl,rfl⟩
     go_wp2_with fail
     refine(C2.out).mono ?_
     rintro e wq ⟨rfl,rfl⟩
     go_wp2
     go_ret3
     exact⟨rfl,rfl⟩
   · simp at hil
     rw[hf]at c2
     have C2:=Hd c2
     have c3:=refAt8_c A n cap l i [45,45,62] B w h (by simp) (by omega) (by simp) (by omega)
     have hi0:(0:Int)≤(i:Int):=by omega
     have hi1:(i:Int)≤100000:=by omega
     have hlt: ¬ (i:Int)<0:=by omega
     by_cases h3: [45,45,62].isPrefixOf (l.drop i)=true
     · rw[h3]at c3
       have C3:=Hd c3
       have hcap:=h.le
       have hst:=((h.drop (k:=k+4) (by omega)).take (k:=i - (k+4)) (by omega)).str
       have hrf: ∀ w2:World,(Instr.slice 29 (.slice A n cap) (some (.int .i64 ((k:Int)+4))) (some (.int .i64 (i:Int))) none).run Tryz.prog w2= .ok (.slice (cutA A cap (k+4)) (i - (k+4)) (cap - (k+4))) w2:=fun w2=>by
        have:=run_fromTo (w:=w2) A n cap (k+4) i (by omega) (by omega)
        rw[show ((k+4:Nat):Int)=(k:Int)+4 by omega]at this
        exact this
       have HR:Hid (commentOut l k=((l.drop (k+4)).take (i - (k+4)),i+3,0)):=Hd (by
        rw[HO.out,hf,if_neg (by omega),Int.toNat_natCast,if_pos h3])
       rw[HR.out]
       clear c2 c3 h hp hf hln hcap hil hpre h3 HO HR hkl
       generalize (l.drop (k+4)).take (i - (k+4))=q at *
       unfold outV
       go_enter Tryz.func29,Tryz.ntmps29
       go_wp2_with fail
       refine(C1.out).mono ?_
       rintro e wq ⟨rfl,rfl⟩
       go_wp2_with fail
       refine(C2.out).mono ?_
       rintro e wq ⟨rfl,rfl⟩
       go_wp2_with fail
       refine(C3.out).mono ?_
       rintro e wq ⟨rfl,rfl⟩
       go_wp2
       go_ret3
       exact⟨rfl,rfl⟩
     · have h3': [45,45,62].isPrefixOf (l.drop i)=false:=bfalse h3
       rw[h3']at c3
       have C3:=Hd c3
       have HR:Hid (commentOut l k=([],0,7)):=Hd (by
        rw[HO.out,hf,if_neg (by omega),Int.toNat_natCast,if_neg h3])
       rw[HR.out]
       clear c2 c3 h hp hf hln hil hpre h3 h3' HO HR hkl
       go_enter Tryz.func29,Tryz.ntmps29
       go_wp2_with fail
       refine(C1.out).mono ?_
       rintro e wq ⟨rfl,rfl⟩
       go_wp2_with fail
       refine(C2.out).mono ?_
       rintro e wq ⟨rfl,rfl⟩
       go_wp2_with fail
       refine(C3.out).mono ?_
       rintro e wq ⟨rfl,rfl⟩
       go_wp2
       go_ret3
       exact⟨rfl,rfl⟩
 · have hp': [60,33,45,45].isPrefixOf (l.drop k)=false:=by
     cases hx: [60,33,45,45].isPrefixOf (l.drop k)with
     |false=>rfl
     |true=>exact absurd hx hp
   rw[hp']at c1
   have C1:=Hd c1
   have HR:Hid (commentOut l k=([],0,7)):=Hd (by unfold commentOut;rw[if_pos hp'])
   rw[HR.out]
   clear c1 h hp hp' hln HR
   go_enter Tryz.func29,Tryz.ntmps29
   go_wp2_with fail
   refine(C1.out).mono ?_
   rintro e wq ⟨rfl,rfl⟩
   go_wp2
   go_ret3
   exact⟨rfl,rfl⟩
theorem refCData_range (A:Option Addr)(n cap:Nat)(at_:Int)(w:World)(ha:at_<0∨(n:Int)<at_) :
 Calls Tryz.prog 30 #[.slice A n cap,.int .i64 at_] w fun e w'=>e= .returned (outV ([],0,3))∧w=w':=by
 by_cases h0:at_<0
 · have hd:decide (at_<0)=true:=by simpa using h0
   clear ha
   go_enter Tryz.func30,Tryz.ntmps30
   go_wp2
   go_ret3
   exact⟨rfl,rfl⟩
 · have h1:(n:Int)<at_:=by omega
   clear ha
   go_enter Tryz.func30,Tryz.ntmps30
   go_wp2
   go_ret3
   exact⟨rfl,rfl⟩
theorem refCData_c (A:Option Addr)(n cap:Nat)(l:List UInt8)(k:Nat)(B:Nat)(w:World)(h:Byt w B A n cap l)(hm:n≤100000)(hk:k≤n) :
 Calls Tryz.prog 30 #[.slice A n cap,.int .i64 k] w fun e w'=>e= .returned (outV (cdataOut l k))∧w=w':=by
 have hk': ¬ (n:Int)<(k:Int):=by omega
 have hk0:(0:Int)≤(k:Int):=by omega
 have hk1:(k:Int)≤100000:=by omega
 have c1:=refAt8_c A n cap l k [60,33,91,67,68,65,84,65,91] B w h (by simp) (by omega) (by simp) (by omega)
 have hln:=h.length
 by_cases hp: [60,33,91,67,68,65,84,65,91].isPrefixOf (l.drop k)=true
 · have hkl:k+9≤n:=by have:=pre_len hp;simp at this;omega
   have c2:=refFind_c A n cap l (k+9) [93,93,62] B w h (by simp) (by omega) (by simp) hkl
   rw[show ((k+9:Nat):Int)=(k:Int)+9 by omega]at c2
   have hsp:=findI_spec l [93,93,62] (k+9) (by omega)
   rw[hp]at c1
   have C1:=Hd c1
   clear c1
   have HO:Hid (cdataOut l k=if findI l (k+9) [93,93,62]<0 then ([],0,7) else
 ((l.drop (k+9)).take ((findI l (k+9) [93,93,62]).toNat - (k+9)),(findI l (k+9) [93,93,62]).toNat+3,0)):=Hd (by unfold cdataOut;rw[if_neg (by rw[hp];simp)])
   rcases hsp with ⟨hf,_⟩|⟨i,hf,hki,hil,hpre,_⟩
   · rw[hf]at c2
     have C2:=Hd c2
     have HR:Hid (cdataOut l k=([],0,7)):=Hd (by rw[HO.out,hf];rfl)
     rw[HR.out]
     clear c2 h hp hf hln HO HR
     go_enter Tryz.func30,Tryz.ntmps30
     go_wp2_with fail
     refine(C1.out).mono ?_
     rintro e wq ⟨rfl,rfl⟩
     go_wp2_with fail
     refine(C2.out).mono ?_
     rintro e wq ⟨rfl,rfl⟩
     go_wp2
     go_ret3
     exact⟨rfl,rfl⟩
   · simp at hil
     rw[hf]at c2
     have C2:=Hd c2
     have hi0:(0:Int)≤(i:Int):=by omega
     have hi1:(i:Int)≤100000:=by omega
     have hlt: ¬ (i:Int)<0:=by omega
     have hcap:=h.le
     have hst:=((h.drop (k:=k+9) (by omega)).take (k:=i - (k+9)) (by omega)).str
     have hrf: ∀ w2:World,(Instr.slice 29 (.slice A n cap) (some (.int .i64 ((k:Int)+9))) (some (.int .i64 (i:Int))) none).run Tryz.prog w2= .ok (.slice (cutA A cap (k+9)) (i - (k+9)) (cap - (k+9))) w2:=fun w2=>by
      have:=run_fromTo (w:=w2) A n cap (k+9) i (by omega) (by omega)
      rw[show ((k+9:Nat):Int)=(k:Int)+9 by omega]at this
      exact this
     have HR:Hid (cdataOut l k=((l.drop (k+9)).take (i - (k+9)),i+3,0)):=Hd (by
      rw[HO.out,hf,if_neg (by omega),Int.toNat_natCast])
     rw[HR.out]
     clear c2 h hp hf hln hcap hil hpre HO HR hkl
     generalize (l.drop (k+9)).take (i - (k+9))=q at *
     unfold outV
     go_enter Tryz.func30,Tryz.ntmps30
     go_wp2_with fail
     refine(C1.out).mono ?_
     rintro e wq ⟨rfl,rfl⟩
     go_wp2_with fail
     refine(C2.out).mono ?_
     rintro e wq ⟨rfl,rfl⟩
     go_wp2
     go_ret3
     exact⟨rfl,rfl⟩
 · have hp': [60,33,91,67,68,65,84,65,91].isPrefixOf (l.drop k)=false:=by
     cases hx: [60,33,91,67,68,65,84,65,91].isPrefixOf (l.drop k)with
     |false=>rfl
     |true=>exact absurd hx hp
   rw[hp']at c1
   have C1:=Hd c1
   have HR:Hid (cdataOut l k=([],0,7)):=Hd (by unfold cdataOut;rw[if_pos hp'])
   rw[HR.out]
   clear c1 h hp hp' hln HR
   go_enter Tryz.func30,Tryz.ntmps30
   go_wp2_with fail
   refine(C1.out).mono ?_
   rintro e wq ⟨rfl,rfl⟩
   go_wp2
   go_ret3
   exact⟨rfl,rfl⟩
end Go.Proofs.YtbafljibbabnaaaGreatDoor
