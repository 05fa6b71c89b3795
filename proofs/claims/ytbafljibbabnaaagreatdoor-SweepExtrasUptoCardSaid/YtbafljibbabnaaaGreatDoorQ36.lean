/- Texts of ours, joined: IxB2, IxB3, IxB4. -/
import Derived.Lib.Bytealg
import Derived.Lib.IndexEntry
import Derived.Test.YtbafljibbabnaaaGreatDoorQ35
namespace Go.Proofs.YtbafljibbabnaaaGreatDoor
open Go.ChangeShapes Go.WideShapes Go.ChangeAt Go.RowKit
set_option linter.unusedVariables false
set_option maxRecDepth 100000
set_option maxHeartbeats 32000000
theorem decN_cases (n b0 b1 b2 b3:Nat)(h0:128≤b0)(hb:b0<256):(Lib.decodeN n b0 b1 b2 b3=(65533,1)) ∨
 ((Lib.decodeN n b0 b1 b2 b3).2=2∧128≤(Lib.decodeN n b0 b1 b2 b3).1∧(Lib.decodeN n b0 b1 b2 b3).1<2048) ∨
 ((Lib.decodeN n b0 b1 b2 b3).2=3∧2048≤(Lib.decodeN n b0 b1 b2 b3).1∧(Lib.decodeN n b0 b1 b2 b3).1<65536∧((Lib.decodeN n b0 b1 b2 b3).1<55296∨57344≤(Lib.decodeN n b0 b1 b2 b3).1)) ∨
 ((Lib.decodeN n b0 b1 b2 b3).2=4∧65536≤(Lib.decodeN n b0 b1 b2 b3).1∧(Lib.decodeN n b0 b1 b2 b3).1≤1114111):=by
 unfold Lib.decodeN
 rw[if_neg (by omega)]
 repeat' split
 all_goals first|exact .inl rfl|exact .inr (.inl ⟨rfl,by show 128≤_;omega,by show _<2048;omega⟩)|exact .inr (.inr (.inl ⟨rfl,by show 2048≤_;omega,by show _<65536;omega,by show _<55296∨57344≤_;omega⟩))|exact .inr (.inr (.inr ⟨rfl,by show 65536≤_;omega,by show _≤1114111;omega⟩))
theorem enc2 (r:Nat)(h0:128≤r)(h1:r<2048): ∃ a b:UInt8,Utf8.encode (r:Int)=⟨#[a,b]⟩∧128≤b.toNat:=by
 rcases enc_cases (r:Int) (by omega)with h|⟨a,b,c,h⟩|⟨a,b,c,d,h⟩
 · exact h
 all_goals
  exfalso
  unfold Utf8.encode at h
  have hv:Utf8.valid (r:Int)=true:=by unfold Utf8.valid;simp;omega
  simp only[hv,if_true,Int.toNat_natCast]at h
  rw[if_neg (by omega),if_pos (by omega)]at h
  have:=congrArg ByteArray.size h
  simp[ByteArray.size]at this
theorem enc3 (r:Nat)(h0:2048≤r)(h1:r<65536)(h2:r<55296∨57344≤r): ∃ a b c:UInt8,Utf8.encode (r:Int)=⟨#[a,b,c]⟩:=by
 unfold Utf8.encode
 have hv:Utf8.valid (r:Int)=true:=by unfold Utf8.valid;simp;omega
 simp only[hv,if_true,Int.toNat_natCast]
 rw[if_neg (by omega),if_neg (by omega),if_pos (by omega)]
 exact⟨_,_,_,rfl⟩
theorem enc4 (r:Nat)(h0:65536≤r)(h1:r≤1114111): ∃ a b c d:UInt8,Utf8.encode (r:Int)=⟨#[a,b,c,d]⟩:=by
 unfold Utf8.encode
 have hv:Utf8.valid (r:Int)=true:=by unfold Utf8.valid;simp;omega
 simp only[hv,if_true,Int.toNat_natCast]
 rw[if_neg (by omega),if_neg (by omega),if_neg (by omega)]
 exact⟨_,_,_,_,rfl⟩
theorem decU_cases (l:List UInt8)(c:UInt8)(hc:l[0]? =some c)(h:128≤c.toNat):decU l=(65533,1)∨((decU l).2=2∧128≤(decU l).1∧(decU l).1<2048)∨((decU l).2=3∧2048≤(decU l).1∧(decU l).1<65536∧((decU l).1<55296∨57344≤(decU l).1))∨((decU l).2=4∧65536≤(decU l).1∧(decU l).1≤1114111):=by
 unfold decU
 rw[Lib.decode_at]
 have:(⟨l.toArray⟩:ByteArray).get! 0=c:=getB hc
 rw[this]
 exact decN_cases _ _ _ _ _ h c.toNat_lt
theorem decU_span (l:List UInt8)(c:UInt8)(hc:l[0]? =some c)(h:128≤c.toNat):1≤(decU l).2∧(decU l).2≤l.length∧ ∀ j b,j<(decU l).2→l[j]? =some b→128≤b.toNat:=by
 have hk:=(List.getElem?_eq_some_iff.1 hc).1
 have hs:(⟨l.toArray⟩:ByteArray).size=l.length:=by simp[ByteArray.size]
 have h0:128≤((⟨l.toArray⟩:ByteArray)[0]'(by rw[hs];exact hk)).toNat:=by
  have e:(⟨l.toArray⟩:ByteArray)[0]'(by rw[hs];exact hk)=l[0]:=rfl
  rw[List.getElem?_eq_getElem hk]at hc
  cases hc
  rw[e]
  exact h
 have h1:=decode_span ⟨l.toArray⟩ 0 (by rw[hs];exact hk) h0
 have h2:=decode_high ⟨l.toArray⟩ 0 (by rw[hs];exact hk) h0
 refine⟨h2.2,by have:=h1.1;rw[hs,Nat.zero_add]at this;exact this,fun j b hj hb=> ?_⟩
 obtain⟨hj',hh⟩:=h1.2 j (Nat.zero_le _) (by rw[Nat.zero_add];exact hj)
 have e:(⟨l.toArray⟩:ByteArray)[j]'hj'=l[j]'(by rw[← hs];exact hj'):=rfl
 rw[e]at hh
 rw[List.getElem?_eq_getElem (by rw[← hs];exact hj')]at hb
 cases hb
 exact hh
theorem decRune_c (b o n cap:Nat)(l:List UInt8)(w:World)(h:Byt w w.heap.size (some ⟨b,o,none⟩) n cap l)(hn:0<n)(hm:n≤1000000)(hT:Lib.Utf8Tabs 8 9 w)(c0:UInt8)(hc:l[0]? =some c0)(h128:128≤c0.toNat) :
 Calls Tryz.prog 117 #[.slice (some ⟨b,o,none⟩) n cap] w fun e w'=>e= .returned (.tuple #[.int .i32 (decU l).1,.int .i64 (decU l).2])∧Below w.heap.size w w':=by
 have C:=Hd (decSlow_c b o n cap l w h hn hm hT c0 hc h128)
 have hcell:w.cell? ⟨b,o,none⟩=some (.int .u8 c0.toNat):=by
  obtain⟨b',o',c',e,hb,h1,h2⟩:=h.cell hn
  cases e
  rw[hc]at h1
  cases h1
  exact h2
 have hn0:(0:Int)<(n:Int):=by omega
 have hc0: ¬ (c0.toNat:Int)<128:=by omega
 generalize decU l=dc at *
 clear h hT hc
 go_enter Tryz.func117,Tryz.ntmps117
 go_wp2_with fail
 go_loopg [8] 1 (fun g i wr=>i= .int .i64 0∧wr=w)
 case atStart=>exact⟨rfl,rfl⟩
 case round =>
  obtain⟨rfl,rfl⟩:=hrel
  go_wp2_with fail
  refine C.out.mono ?_
  rintro e w1 ⟨rfl,hb⟩
  have B:=Hd hb
  clear hb
  go_wp2
  go_ret2
  exact⟨rfl,B.out⟩
theorem ix_long (s sub:List UInt8)(h:s.length<sub.length):Lib.index s sub= -1:=by
 rcases Lib.index_spec s sub with ⟨h1,_⟩|⟨i,h1,hi,ho,_⟩
 · exact h1
 · exfalso
   unfold Lib.occAt at ho
   have:=(List.isPrefixOf_iff_prefix.1 ho).length_le
   rw[List.length_drop]at this
   omega
theorem run_ixByte (c:UInt8)(W:World):(callFunc 112 #[.string ⟨#[60,38]⟩,.int .u8 (c.toNat:Int)]).run Tryz.prog W= .ok (.value (.int .i64 (Lib.indexByte amL c))) W:=by
 rw[run_callFunc_extern Tryz.func112 (by kernel_rfl) (by kernel_rfl) (by kernel_rfl) (e:=Extern.BytealgIndexByte.indexByte) (by kernel_rfl),Lib.run_indexByteString]
 simp only[Result.andThen]
 have:((c.toNat:Int)).toNat.toUInt8=c:=by simp
 rw[this]
 rfl
theorem run_ixStr (z:ByteArray)(m:Int)(W:World)(hM:W.cell? ⟨0,0,none⟩=some (.int .i64 m))(h3:3≤z.size)(hm:(z.size:Int)≤m) :
 (callFunc 118 #[.string ⟨#[60,38]⟩,.string z]).run Tryz.prog W= .ok (.value (.int .i64 (-1))) W:=by
 rw[run_callFunc_extern Tryz.func118 (by kernel_rfl) (by kernel_rfl) (by kernel_rfl) (e:=Extern.BytealgIndex.index) (by kernel_rfl),Lib.run_indexString ⟨#[60,38]⟩ z W 0 m (by kernel_rfl) hM (by omega) hm (by decide)]
 simp only[Result.andThen]
 rw[ix_long _ _ (by rw[Lib.size_eq]at h3;show 2<_;omega)]
theorem ixAm_long (A:Option Addr)(n cap:Nat)(l:List UInt8)(w:World)(h:Byt w w.heap.size A n cap l)(hm:n≤1000000)(h8:8<n) :
 Calls Tryz.prog 87 #[.slice A n cap,.string ⟨#[60,38]⟩] w fun e w'=>e= .returned (.int .i64 (Lib.indexAny l amL))∧Below w.heap.size w w':=by
 have hln:=h.length
 have hi:=(zero_of_info (P:=Tryz.prog) set_info).2
 have h8z:decide ((8:Int)<(n:Int))=true:=decide_eq_true (by omega)
 have n1:((n:Int)==1)=false:=by simp;omega
 have CU:=Hd fun W=>useSet_c (n:Int) W
 have CM:=Hd (amSet_c w)
 obtain⟨S,hS⟩: ∃ S,Lib.setCells amL=S:=⟨_,rfl⟩
 have hsz:=Lib.setCells_size amL
 have h1:=Lib.setCells_one amL
 have hat:=fun x:UInt8=>Lib.setCells_at amL x
 rw[hS]at CM hsz hat h1
 have hsc:=run_storeCells_new (P:=Tryz.prog) (w.alloc (.cells S 172)) 172 Tryz.zeroCells172 S (by rw[hsz];exact hi) (by rw[hsz];rfl) h1
 rw[World.size_alloc]at hsc
 have HB:=Hd h
 have hW2:=hp_new (w.alloc (.cells S 172)) (.cells S 172)
 rw[World.size_alloc]at hW2
 have hB2:Below w.heap.size w ((w.alloc (.cells S 172)).alloc (.cells S 172)):=((Below.refl w.heap.size w).alloc (Nat.le_refl _) (.cells S 172)).alloc (by simp) (.cells S 172)
 have H2:=Hd (And.intro hW2 hB2)
 have HA:=Hd hat
 have HLn:=Hd hln
 clear h hi hat hS hW2 hB2 hln h1
 go_enter Tryz.func87,Tryz.ntmps87
 go_wp2_with fail
 refine(CU.out _).mono ?_
 rintro e w1 ⟨rfl,hw⟩
 rw[hw,h8z]
 clear hw w1
 go_wp2_with fail
 refine CM.out.mono ?_
 rintro e w1 ⟨rfl,hw⟩
 subst hw
 go_wp2_with fail
 clear hsc hsz
 have hsz2:w.heap.size+2=w.heap.size+1+1:=rfl
 generalize (w.alloc (.cells S 172)).alloc (.cells S 172)=w2 at *
 have CH:Hid (∀ x:UInt8,Calls Tryz.prog 116 #[.pointer (some ⟨w.heap.size+1,0,none⟩),.int .u8 x.toNat] w2 fun e w'=>e= .returned (.bool (amL.contains x))∧w'=w2):=Hd fun x=>setHas_c (w.heap.size+1) x _ w2 (by rw[cell_of _ H2.out.1];exact HA.out x)
 go_loopg [62] n (fun g i wr=> ∃ t:Nat,i= .int .i64 (t:Int)∧t≤n∧Hid (g+t=n)∧wr=w2∧Hid (Lib.NoAny l amL t))
 case atStart=>exact⟨0,rfl,Nat.zero_le _,Hd (by omega),rfl,Hd (Lib.NoAny.zero _ _)⟩
 case round =>
  obtain⟨t,rfl,ht,hg,rfl,HN⟩:=hrel
  by_cases htn:t<n
  · have hti:(t:Int)<(n:Int):=by omega
    obtain⟨b,o,c,rfl,hbB,hc,hcell⟩:=(HB.out.below H2.out.2).cell htn
    have HC:=Hd hc
    have CH1:=Hd (CH.out c)
    clear hc
    cases hq:amL.contains c with
    |true =>
     have HI:=Hd (Lib.indexAny_hit HN.out HC.out hq)
     rw[hq]at CH1
     go_wp2_with fail
     refine CH1.out.mono ?_
     rintro e w3 ⟨rfl,rfl⟩
     go_wp2
     go_ret
     rw[HI.out]
     exact⟨rfl,H2.out.2⟩
    |false =>
     have HN2:=Hd (HN.out.succ HC.out hq)
     rw[hq]at CH1
     go_wp2_with fail
     refine CH1.out.mono ?_
     rintro e w3 ⟨rfl,rfl⟩
     go_wp2
     go_roundg (n - (t+1))
     case measure=>have:=hg.out;omega
     case rel=>exact⟨t+1,by go_num,by omega,Hd (by omega),rfl,HN2⟩
  · have hti: ¬ (t:Int)<(n:Int):=by omega
    have HI:Hid (Lib.indexAny l amL= -1):=Hd (Lib.indexAny_none (by have:=HN.out;rwa [show t=l.length by rw[HLn.out];omega]at this))
    go_wp2
    go_ret
    rw[HI.out]
    exact⟨rfl,H2.out.2⟩
theorem utf8_below {a b B:Nat}{w w':World}(h:Lib.Utf8Tabs a b w)(hb:Below B w w')(ha:a<B)(hb':b<B):Lib.Utf8Tabs a b w' :=
 ⟨fun c hc=>(hb.cell (p:=⟨a,c,none⟩) ha).trans (h.1 c hc),fun i hi=>⟨(hb.cell (p:=⟨b,_,none⟩) hb').trans (h.2 i hi).1,(hb.cell (p:=⟨b,_,none⟩) hb').trans (h.2 i hi).2⟩⟩
theorem utf8_lt {a b:Nat}{w:World}(h:Lib.Utf8Tabs a b w):a<w.heap.size∧b<w.heap.size :=
 ⟨World.block_lt_of_cell? w _ (h.1 0 (by decide)),World.block_lt_of_cell? w _ (h.2 0 (by decide)).1⟩
theorem ixb_ge {c:UInt8}(h:amL.contains c=true):(0:Int)≤Lib.indexByte amL c:=by
 have:=Lib.contains_iff_indexByte amL c
 rw[h]at this
 exact of_decide_eq_true this.symm
theorem ixb_lt {c:UInt8}(h:amL.contains c=false): ¬ (0:Int)≤Lib.indexByte amL c:=by
 have:=Lib.contains_iff_indexByte amL c
 rw[h]at this
 exact of_decide_eq_false this.symm
theorem ixAm_one (A:Option Addr)(cap:Nat)(l:List UInt8)(w:World)(h:Byt w w.heap.size A 1 cap l) :
 Calls Tryz.prog 87 #[.slice A 1 cap,.string ⟨#[60,38]⟩] w fun e w'=>e= .returned (.int .i64 (Lib.indexAny l amL))∧Below w.heap.size w w':=by
 have hln:=h.length
 obtain⟨b,o,c,rfl,hbB,hc,hcell⟩:=h.cell (i:=0) (by decide)
 obtain rfl:l= [c]:=by
  match l,hln with
  | [x],_=>simp at hc;subst hc;rfl
 rw[Nat.add_zero]at hcell
 have hix:=fun W=>run_ixByte c W
 have c0:(0:Int)≤(c.toNat:Int):=by omega
 have c9:(c.toNat:Int)≤255:=by have:=c.toNat_lt;omega
 clear h hln hc
 by_cases h128:c.toNat<128
 · have hci: ¬ (128:Int)≤(c.toNat:Int):=by omega
   have hix1:Lib.indexAny [c] amL=if amL.contains c=true then 0 else -1:=by
    unfold Lib.indexAny
    split
    · rfl
    · rfl
   rw[hix1]
   clear hix1
   cases hq:amL.contains c with
   |true =>
    have hg:=ixb_ge hq
    generalize Lib.indexByte amL c=X at *
    go_enter Tryz.func87,Tryz.ntmps87
    go_wp2
    go_ret
    exact⟨rfl,Below.refl _ _⟩
   |false =>
    have hg:=ixb_lt hq
    generalize Lib.indexByte amL c=X at *
    go_enter Tryz.func87,Tryz.ntmps87
    go_wp2
    go_ret
    exact⟨rfl,Below.refl _ _⟩
 · have hci:(128:Int)≤(c.toNat:Int):=by omega
   have hix1:Lib.indexAny [c] amL= -1:=by
    unfold Lib.indexAny
    rw[am_no c (by omega)]
    rfl
   rw[hix1]
   clear hix1 hix
   go_enter Tryz.func87,Tryz.ntmps87
   go_wp2_with fail
   go_loopg [5] 2 (fun g _ wx=> ∃ i:Nat,i+g=2∧wx=w.iter ⟨#[60,38]⟩ i)
   case atStart=>exact⟨0,by omega,rfl⟩
   case round =>
    obtain⟨i,hig,rfl⟩:=hrel
    cases gk with
    |zero =>
     obtain rfl:i=2:=by omega
     have hnx:=fun ty=>run_next_end (P:=Tryz.prog) w ⟨#[60,38]⟩ 2 ty (by decide)
     go_wp2
     go_ret
     exact⟨rfl,(Below.refl _ _).alloc (Nat.le_refl _) _⟩
    |succ g =>
     have hi:i=0∨i=1:=by omega
     rcases hi with rfl|rfl
     · have hnx:=fun ty=>run_next_ascii (P:=Tryz.prog) w ⟨#[60,38]⟩ 0 ty (by decide) (by decide)
       rw[show ((⟨#[60,38]⟩:ByteArray)[0]'(by decide)).toNat=60 by rfl]at hnx
       go_wp2
       go_roundg g
       case measure=>omega
       case rel=>exact⟨1,by omega,rfl⟩
     · have hnx:=fun ty=>run_next_ascii (P:=Tryz.prog) w ⟨#[60,38]⟩ 1 ty (by decide) (by decide)
       rw[show ((⟨#[60,38]⟩:ByteArray)[1]'(by decide)).toNat=38 by rfl]at hnx
       go_wp2
       go_roundg g
       case measure=>omega
       case rel=>exact⟨2,by omega,rfl⟩
theorem dec60:Utf8.decode ⟨#[60,38]⟩ 0=(60,1):=by kernel_rfl
theorem dec38:Utf8.decode ⟨#[60,38]⟩ 1=(38,1):=by kernel_rfl
theorem ixAm_short (A:Option Addr)(n cap:Nat)(l:List UInt8)(w:World)(h:Byt w w.heap.size A n cap l)(hT:Lib.Utf8Tabs 8 9 w)(hM:MaxL w)(hm:n≤8)(hn1:n≠1) :
 Calls Tryz.prog 87 #[.slice A n cap,.string ⟨#[60,38]⟩] w fun e w'=>e= .returned (.int .i64 (Lib.indexAny l amL))∧Below w.heap.size w w':=by
 have hln:=h.length
 have h8z:decide ((8:Int)<(n:Int))=false:=decide_eq_false (by omega)
 have n1:((n:Int)==1)=false:=by simp;omega
 have CU:=Hd fun W=>useSet_c (n:Int) W
 have CD:Hid (∀ t,t<n→ ∀ W,Below w.heap.size w W→ ∀ c,l[t]? =some c→128≤c.toNat→Calls Tryz.prog 117 #[.slice (cutA A cap t) (n - t) (cap - t)] W fun e w'=>e= .returned (.tuple #[.int .i32 (decU (l.drop t)).1,.int .i64 (decU (l.drop t)).2])∧Below W.heap.size W w'):=Hd fun t ht W hb c hc h128=>by
  have hB:=((h.below hb).more hb.size).drop (k:=t) (by omega)
  have h0:(l.drop t)[0]? =some c:=by rw[List.getElem?_drop];exact hc
  obtain⟨b,o,_,e,_⟩:=hB.cell (i:=0) (by omega)
  rw[e]at hB ⊢
  exact decRune_c b o _ _ _ W hB (by omega) (by omega) (utf8_below hT hb (utf8_lt hT).1 (utf8_lt hT).2) c h0 h128
 have HM:Hid (∀ W,Below w.heap.size w W→MaxL W):=Hd fun W hb=>hM.below hb hM.lt
 have HB:=Hd h
 have HLn:=Hd hln
 have hrf:=fun (W:World) t (ht:t≤n)=>run_from (w:=W) A n cap t ht
 have HRF:=Hd hrf
 clear h hT hM hln hrf
 go_enter Tryz.func87,Tryz.ntmps87
 go_wp2_with fail
 refine(CU.out _).mono ?_
 rintro e w1 ⟨rfl,hw⟩
 rw[hw,h8z]
 clear hw w1 h8z
 go_wp2_with fail
 go_loopg [12] n (fun g i wr=> ∃ t:Nat,i= .int .i64 (t:Int)∧t≤n∧Hid (g=n - t)∧Hid (Below w.heap.size w wr)∧Hid (Lib.NoAny l amL t))
 case atStart=>exact⟨0,rfl,Nat.zero_le _,Hd rfl,Hd (Below.refl _ _),Hd (Lib.NoAny.zero _ _)⟩
 case round =>
  obtain⟨t,rfl,ht,hg,HN0,HN⟩:=hrel
  by_cases htn:t<n
  · have hti:(t:Int)<(n:Int):=by omega
    have htb:(t:Int)≤8:=by omega
    have ht0:(0:Int)≤(t:Int):=by omega
    obtain⟨b,o,c,e,hbB,hc,hcell⟩:=(HB.out.below HN0.out).cell htn
    have HC:=Hd hc
    have c0:(0:Int)≤(c.toNat:Int):=by omega
    have c9:(c.toNat:Int)≤255:=by have:=c.toNat_lt;omega
    by_cases h128:c.toNat<128
    · have hci:(c.toNat:Int)<128:=by omega
      have hix:=fun W=>run_ixByte c W
      clear hc
      subst e
      cases hq:amL.contains c with
      |true =>
       have HI:=Hd (Lib.indexAny_hit HN.out HC.out hq)
       have hg:=ixb_ge hq
       generalize Lib.indexByte amL c=X at *
       go_wp2
       go_ret
       rw[HI.out]
       exact⟨rfl,HN0.out⟩
      |false =>
       have HN2:=Hd (HN.out.succ HC.out hq)
       have hgl:=ixb_lt hq
       generalize Lib.indexByte amL c=X at *
       go_wp2
       go_roundg (n - (t+1))
       case measure=>have:=hg.out;omega
       case rel=>exact⟨t+1,by go_num,by omega,Hd rfl,HN0,HN2⟩
    · have hci: ¬ (c.toNat:Int)<128:=by omega
      have CD1:=Hd (CD.out t htn _ HN0.out c hc (by omega))
      have hsp:=decU_span (l.drop t) c (by rw[List.getElem?_drop];exact hc) (by omega)
      have hcs:=decU_cases (l.drop t) c (by rw[List.getElem?_drop];exact hc) (by omega)
      rw[List.length_drop,HLn.out]at hsp
      have hrf:=HRF.out wr t (by omega)
      generalize hdc:decU (l.drop t)=dc at *
      obtain⟨r,m⟩:=dc
      simp only at hsp hcs CD1
      have HN2:Hid (Lib.NoAny l amL (t+m)):=Hd (noAny_am HN.out fun j x h1 h2 h3=>hsp.2.2 (j - t) x (by omega) (by rw[List.getElem?_drop,show t+(j - t)=j by omega];exact h3))
      have hm0:(1:Int)≤(m:Int):=by omega
      have hm9:(m:Int)≤8:=by omega
      have hr0:(128:Int)≤(r:Int):=by
       rcases hcs with h|h|h|h
       · cases h;decide
       all_goals omega
      have hr9:(r:Int)≤1114111:=by
       rcases hcs with h|h|h|h
       · cases h;decide
       all_goals omega
      have htm:t+m≤n:=by omega
      clear hc hsp hdc h128
      subst e
      have B:=Hd HN0.out.size
      have r60:((r:Int)==60)=false:=by simp;omega
      have r38:((r:Int)==38)=false:=by simp;omega
      by_cases hE:r=65533
      · have hEi:((r:Int)==65533)=true:=by simp;omega
        clear hcs hE
        go_wp2_with fail
        refine CD1.out.mono ?_
        rintro e w2 ⟨rfl,hb2⟩
        have B2:=Hd (HN0.out.trans (hb2.mono HN0.out.size))
        clear hb2
        go_wp2_with fail
        go_loopg [15] 2 (fun g _ wx=> ∃ i:Nat,i+g=2∧wx.heap[w2.heap.size]? =some (.stringIter ⟨#[60,38]⟩ i)∧Hid (Below w.heap.size w wx))
        case atStart=>exact⟨0,by omega,hp_new _ _,Hd (B2.out.alloc B2.out.size _)⟩
        case round =>
         obtain⟨i,hig,hit,HX⟩:=hrel
         cases gk with
         |zero =>
          obtain rfl:i=2:=by omega
          have hnx:=fun ty=>run_next_end_at wr w2.heap.size ⟨#[60,38]⟩ 2 ty hit (by decide)
          go_wp2
          go_roundg (n - (t+m))
          case measure=>have:=hg.out;omega
          case rel=>exact⟨t+m,by go_num,htm,Hd rfl,HX,HN2⟩
         |succ g =>
          have hi:i=0∨i=1:=by omega
          rcases hi with rfl|rfl
          · have hnx:=fun ty=>run_next_at wr w2.heap.size ⟨#[60,38]⟩ 0 ty hit (by decide)
            rw[dec60]at hnx
            simp only at hnx
            have hat:=itW_at (p:=0+1) hit
            have HX1:=Hd (HX.out.trans ((itW_below (W:=wr) (b:=w2.heap.size) (p:=0+1) (s:=⟨#[60,38]⟩)).mono B2.out.size))
            clear hit
            generalize itW wr w2.heap.size ⟨#[60,38]⟩ (0+1)=wi at *
            go_wp2
            go_roundg g
            case measure=>omega
            case rel=>exact⟨1,by omega,hat,HX1⟩
          · have hnx:=fun ty=>run_next_at wr w2.heap.size ⟨#[60,38]⟩ 1 ty hit (by decide)
            rw[dec38]at hnx
            simp only at hnx
            have hat:=itW_at (p:=1+1) hit
            have HX1:=Hd (HX.out.trans ((itW_below (W:=wr) (b:=w2.heap.size) (p:=1+1) (s:=⟨#[60,38]⟩)).mono B2.out.size))
            clear hit
            generalize itW wr w2.heap.size ⟨#[60,38]⟩ (1+1)=wi at *
            go_wp2
            go_roundg g
            case measure=>omega
            case rel=>exact⟨2,by omega,hat,HX1⟩
      · have hEi:((r:Int)==65533)=false:=by simp;omega
        have kv:=fun W=>run_convert_int_string (P:=Tryz.prog) W 21 9 .i32 (r:Int) (by kernel_rfl) (by kernel_rfl)
        have hcs2:(m=2∧128≤r∧r<2048)∨(m=3∧2048≤r∧r<65536∧(r<55296∨57344≤r))∨(m=4∧65536≤r∧r≤1114111):=by
         rcases hcs with h|h|h|h
         · exact absurd (congrArg Prod.fst h) hE
         · exact .inl h
         · exact .inr (.inl h)
         · exact .inr (.inr h)
        clear hcs hE
        rcases hcs2 with ⟨rfl,h1,h2⟩|hcs3
        · obtain⟨x,y,he,hy⟩:=enc2 r h1 h2
          rw[he]at kv
          have h38:((38:UInt8)==y)=false:=by
           have hy38:(38:UInt8)≠y:=fun e=>by subst e;simp at hy
           simp[hy38]
          clear h1 h2 he hy
          go_wp2_with fail
          refine CD1.out.mono ?_
          rintro e w2 ⟨rfl,hb2⟩
          have B2:=Hd (HN0.out.trans (hb2.mono HN0.out.size))
          clear hb2
          go_wp2
          go_roundg (n - (t+2))
          case measure=>have:=hg.out;omega
          case rel=>exact⟨t+2,by go_num,htm,Hd rfl,B2,HN2⟩
        · have hz: ∃ z:ByteArray,Utf8.encode (r:Int)=z∧z.size=m:=by
           rcases hcs3 with ⟨rfl,h1,h2,h3⟩|⟨rfl,h1,h2⟩
           · obtain⟨a1,a2,a3,he⟩:=enc3 r h1 h2 h3
             exact⟨_,he,rfl⟩
           · obtain⟨a1,a2,a3,a4,he⟩:=enc4 r h1 h2
             exact⟨_,he,rfl⟩
          obtain⟨z,he,hzm⟩:=hz
          have hm3:3≤m:=by rcases hcs3 with h|h <;> omega
          rw[he]at kv
          have m2:((2:Int)==(m:Int))=false:=by simp;omega
          clear hcs3 he
          go_wp2_with fail
          refine CD1.out.mono ?_
          rintro e w2 ⟨rfl,hb2⟩
          have B2:=Hd (HN0.out.trans (hb2.mono HN0.out.size))
          clear hb2
          obtain⟨mx,hmx⟩:=HM.out w2 B2.out
          by_cases hmm:(m:Int)≤mx
          · have hxs:=run_ixStr z mx w2 hmx (by omega) (by omega)
            go_wp2
            go_roundg (n - (t+m))
            case measure=>have:=hg.out;omega
            case rel=>exact⟨t+m,by go_num,htm,Hd rfl,B2,HN2⟩
          · clear kv hzm
            go_wp2_with fail
            go_loopg [15] 2 (fun g _ wx=> ∃ i:Nat,i+g=2∧wx.heap[w2.heap.size]? =some (.stringIter ⟨#[60,38]⟩ i)∧Hid (Below w.heap.size w wx))
            case atStart=>exact⟨0,by omega,hp_new _ _,Hd (B2.out.alloc B2.out.size _)⟩
            case round =>
             obtain⟨i,hig,hit,HX⟩:=hrel
             cases gk with
             |zero =>
              obtain rfl:i=2:=by omega
              have hnx:=fun ty=>run_next_end_at wr w2.heap.size ⟨#[60,38]⟩ 2 ty hit (by decide)
              go_wp2
              go_roundg (n - (t+m))
              case measure=>have:=hg.out;omega
              case rel=>exact⟨t+m,by go_num,htm,Hd rfl,HX,HN2⟩
             |succ g =>
              have hi:i=0∨i=1:=by omega
              rcases hi with rfl|rfl
              · have hnx:=fun ty=>run_next_at wr w2.heap.size ⟨#[60,38]⟩ 0 ty hit (by decide)
                rw[dec60]at hnx
                simp only at hnx
                have hat:=itW_at (p:=0+1) hit
                have HX1:=Hd (HX.out.trans ((itW_below (W:=wr) (b:=w2.heap.size) (p:=0+1) (s:=⟨#[60,38]⟩)).mono B2.out.size))
                clear hit
                generalize itW wr w2.heap.size ⟨#[60,38]⟩ (0+1)=wi at *
                go_wp2
                go_roundg g
                case measure=>omega
                case rel=>exact⟨1,by omega,hat,HX1⟩
              · have hnx:=fun ty=>run_next_at wr w2.heap.size ⟨#[60,38]⟩ 1 ty hit (by decide)
                rw[dec38]at hnx
                simp only at hnx
                have hat:=itW_at (p:=1+1) hit
                have HX1:=Hd (HX.out.trans ((itW_below (W:=wr) (b:=w2.heap.size) (p:=1+1) (s:=⟨#[60,38]⟩)).mono B2.out.size))
                clear hit
                generalize itW wr w2.heap.size ⟨#[60,38]⟩ (1+1)=wi at *
                go_wp2
                go_roundg g
                case measure=>omega
                case rel=>exact⟨2,by omega,hat,HX1⟩
  · have hti: ¬ (t:Int)<(n:Int):=by omega
    have HI:Hid (Lib.indexAny l amL= -1):=Hd (Lib.indexAny_none (by have:=HN.out;rwa [show t=l.length by rw[HLn.out];omega]at this))
    go_wp2
    go_ret
    rw[HI.out]
    exact⟨rfl,HN0.out⟩
theorem indexAm_c (A:Option Addr)(n cap:Nat)(l:List UInt8)(w:World)(h:Byt w w.heap.size A n cap l)(hT:Lib.Utf8Tabs 8 9 w)(hM:MaxL w)(hm:n≤1000000) :
 Calls Tryz.prog 87 #[.slice A n cap,.string ⟨#[60,38]⟩] w fun e w'=>e= .returned (.int .i64 (Lib.indexAny l amL))∧Below w.heap.size w w':=by
 by_cases h1:n=1
 · subst h1
   exact ixAm_one A cap l w h
 · by_cases h8:8<n
   · exact ixAm_long A n cap l w h hm h8
   · exact ixAm_short A n cap l w h hT hM (by omega) h1
end Go.Proofs.YtbafljibbabnaaaGreatDoor
