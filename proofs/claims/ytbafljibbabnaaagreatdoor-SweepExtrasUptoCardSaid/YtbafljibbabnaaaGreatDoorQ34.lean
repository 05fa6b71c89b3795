/- Texts of ours, joined: Lit5, Tag8. -/
import Derived.Test.YtbafljibbabnaaaGreatDoorQ33
namespace Go.Proofs.YtbafljibbabnaaaGreatDoor
open Go.ChangeShapes Go.WideShapes Go.ChangeAt Go.RowKit
set_option linter.unusedVariables false
set_option maxRecDepth 100000
set_option maxHeartbeats 32000000
theorem refQuoted_range (A:Option Addr)(n cap:Nat)(at_:Int)(w:World)(ha:at_<0∨(n:Int)<at_) :
 Calls Tryz.prog 123 #[.slice A n cap,.int .i64 at_] w fun e w'=>e= .returned (outV ([],0,3))∧w=w':=by
 by_cases h0:at_<0
 · have hd:decide (at_<0)=true:=by simpa using h0
   clear ha
   go_enter Tryz.func123,Tryz.ntmps123
   go_wp2
   go_ret3
   exact⟨rfl,rfl⟩
 · have h1:(n:Int)<at_:=by omega
   clear ha
   go_enter Tryz.func123,Tryz.ntmps123
   go_wp2
   go_ret3
   exact⟨rfl,rfl⟩
theorem refQuoted_no (A:Option Addr)(n cap:Nat)(l:List UInt8)(k:Nat)(w:World)(B:Nat)(h:Byt w B A n cap l)(hm:n≤50000)(hk:k≤n)(hq: ∀ q,l[k]? =some q→ ¬ (q=34∨q=39)) :
 Calls Tryz.prog 123 #[.slice A n cap,.int .i64 k] w fun e w'=>e= .returned (outV ([],0,7))∧w=w':=by
 have hat': ¬ (n:Int)<(k:Int):=by omega
 by_cases hkn:k=n
 · have hkn':((k:Int)==(n:Int))=true:=by simp;omega
   clear hq h hm hk hkn
   go_enter Tryz.func123,Tryz.ntmps123
   go_wp2
   go_ret3
   exact⟨rfl,rfl⟩
 · have hkn':((k:Int)==(n:Int))=false:=by simp;omega
   obtain⟨b,o,c,rfl,hb,hc,hcell⟩:=h.cell (i:=k) (by omega)
   have hli:(k:Int)<(n:Int):=by omega
   have hq':=not_or.1 (hq c hc)
   have e1:((c.toNat:Int) != 34)=true:=by have:=ne_byte' c 34 34 rfl hq'.1;simp[bne,this]
   have e2:((c.toNat:Int) != 39)=true:=by have:=ne_byte' c 39 39 rfl hq'.2;simp[bne,this]
   clear hq hq' h hm hk hkn hc
   generalize (c.toNat:Int)=cn at *
   go_enter Tryz.func123,Tryz.ntmps123
   go_wp2
   go_ret3
   exact⟨rfl,rfl⟩
theorem refQuoted_34 (A:Option Addr)(n cap:Nat)(l:List UInt8)(k:Nat)(w:World)(B:Nat)(h:Byt w B A n cap l)(hm:n≤50000)(hq:l[k]? =some 34) :
 Calls Tryz.prog 123 #[.slice A n cap,.int .i64 k] w fun e w'=>e= .returned (outV (quotedQ 34 l k))∧ ∃ m,w'=w.drewN m:=by
 have hl:=h.length
 have hkn:k<n:=by
  rcases Nat.lt_or_ge k l.length with g|g
  · omega
  · rw[List.getElem?_eq_none g]at hq;cases hq
 have hat': ¬ (n:Int)<(k:Int):=by omega
 have hne:((k:Int)==(n:Int))=false:=by simp;omega
 obtain⟨b,o,c,rfl,hb,hc,hcell⟩:=h.cell (i:=k) hkn
 have hcq:c=34:=by rw[hq]at hc;exact(Option.some.inj hc).symm
 have hcell':w.cell? ⟨b,o+k,none⟩=some (.int .u8 34):=by rw[hcell,hcq];rfl
 have hli:(k:Int)<(n:Int):=by omega
 have hk0:(0:Int)≤(k:Int):=by omega
 have hk1:(k:Int)≤50000:=by omega
 have hap:IntKind.i64.wrap ((k:Int)+1)=(k:Int)+1:=by rw[IntKind.wrap_i64];omega
 have hdr:=h.drop (k:=k+1) (by omega)
 have hlo:=ix_lo 34 (l.drop (k+1))
 rw[List.length_drop,hl]at hlo
 have hcap:=h.le
 have HQ:Hid (quotedQ 34 l k=if Lib.indexByte (l.drop (k+1)) 34<0 then ([],0,7) else ((l.drop (k+1)).take (Lib.indexByte (l.drop (k+1)) 34).toNat,k+(Lib.indexByte (l.drop (k+1)) 34).toNat+2,0)):=Hd rfl
 have HB:Hid (∀ j w1,(∃ m,w1=w.drewN m)→j≤n - (k+1)→(convert 29 9 (.slice (cutA (some ⟨b,o,none⟩) cap (k+1)) j (cap - (k+1)))).run Tryz.prog w1= .ok (.string ⟨((l.drop (k+1)).take j).toArray⟩) w1):=Hd (by
  rintro j w1 ⟨m,rfl⟩ hj
  exact(hdr.drewN.take hj).str)
 have HCELL:Hid (∀ i,i<n→ ∀ w1,(∃ m,w1=w.drewN m)→w1.cell? ⟨b,o+i,none⟩=some (.int .u8 (UInt8.toNat (l.getD i 0):Int))):=Hd (by
  rintro i hi w1 ⟨m,rfl⟩
  obtain⟨b',o',c',e,hb',hc',hcl⟩:=h.cell hi
  cases e
  show w.cell? _=_
  rw[hcl,List.getD_eq_getElem?_getD,hc']
  rfl)
 have hcut: ∀ j:Nat,j≤n - (k+1)→ ∀ w2:World,(Instr.slice 29 (.slice (some ⟨b,o,none⟩) n cap) (some (.int .i64 ((k:Int)+1))) (some (.int .i64 ((k+1+j:Nat):Int))) none).run Tryz.prog w2= .ok (.slice (cutA (some ⟨b,o,none⟩) cap (k+1)) j (cap - (k+1))) w2:=fun j hj w2=>by
  have:=run_fromTo (w:=w2) (some ⟨b,o,none⟩) n cap (k+1) (k+1+j) (by omega) (by omega)
  rw[show k+1+j - (k+1)=j by omega]at this
  exact this
 have HCUT:=Hd hcut
 have HC0:Hid (∀ w1,(∃ m,w1=w.drewN m)→w1.cell? ⟨b,o+k,none⟩=some (.int .u8 34)):=Hd (by
  rintro w1 ⟨m,rfl⟩
  exact hcell')
 have HL:=Hd hl
 clear hc hcell hcq hdr hlo hcap hcut h hq hl
 generalize quotedQ 34 l k=res at *
 go_enter Tryz.func123,Tryz.ntmps123
 go_wp2
 clear hcell'
 go_loopg [7] (n - (k+1)) (fun g i wr=> ∃ t:Nat,k+1≤t∧t≤n∧Hid (g+t=n)∧i= .int .i64 (t:Int)∧Hid (∃ m,wr=w.drewN m)∧Hid (∀ j<t - (k+1),(l.drop (k+1))[j]? ≠some 34))
 case atStart=>exact⟨k+1,Nat.le_refl _,by omega,Hd (by omega),rfl,Hd ⟨0,rfl⟩,Hd (fun j hj=>absurd hj (by omega))⟩
 case round =>
  obtain⟨t,ht1,ht2,hg,rfl,HW,HN⟩:=hrel
  have ht0:(0:Int)≤(t:Int):=by omega
  have htb:(t:Int)≤50000:=by omega
  by_cases htn:t<n
  · have htni:(t:Int)<(n:Int):=by omega
    have h1:=HCELL.out t htn wr HW.out
    have h2:=HC0.out wr HW.out
    have hdt:(l.drop (k+1))[t - (k+1)]? =some (l.getD t 0):=by
     rw[List.getElem?_drop,show k+1+(t - (k+1))=t by omega,List.getElem?_eq_getElem (by rw[HL.out];exact htn)]
     simp[HL.out ▸ htn]
    have HDT:=Hd hdt
    clear hdt
    generalize l.getD t 0=d at *
    have hd0:(0:Int)≤(d.toNat:Int):=by omega
    have hd1:(d.toNat:Int)≤255:=by have:=d.toNat_lt;omega
    by_cases hdq:d=34
    · subst hdq
      have hix:Lib.indexByte (l.drop (k+1)) 34=((t - (k+1):Nat):Int):=ix_eq 34 _ _ HDT.out HN.out
      have HRES:Hid (res=((l.drop (k+1)).take (t - (k+1)),t+1,0)):=Hd (by
       rw[HQ.out,hix,if_neg (by omega),Int.toNat_natCast]
       congr 2
       omega)
      have hct:=HCUT.out (t - (k+1)) (by omega)
      rw[show k+1+(t - (k+1))=t by omega]at hct
      have hw1:IntKind.i64.wrap ((t:Int)+1)=(t:Int)+1:=by rw[IntKind.wrap_i64];omega
      clear hix hd0 hd1
      go_wp2
      go_quiet (fail)
      have HW2:Hid (∃ m,wr.drewN nq=w.drewN m):=Hd (by
       obtain⟨m,rfl⟩:=HW.out
       exact⟨m+nq,by rw[World.drewN_drewN]⟩)
      generalize wr.drewN nq=wq at *
      have hst:=HB.out (t - (k+1)) wq HW2.out (by omega)
      generalize (l.drop (k+1)).take (t - (k+1))=T at *
      go_wp2
      go_ret3
      rw[HRES.out]
      exact⟨rfl,HW2.out⟩
    · have e1:((d.toNat:Int)==34)=false:=ne_byte' d 34 34 rfl hdq
      have HN2:Hid (∀ j<t+1 - (k+1),(l.drop (k+1))[j]? ≠some 34):=Hd (fun j hj=>by
       rcases(show j<t - (k+1)∨j=t - (k+1)by omega)with h|rfl
       · exact HN.out j h
       · rw[HDT.out];simpa using hdq)
      clear hdq
      generalize (d.toNat:Int)=dn at *
      go_wp2
      go_quiet (fail)
      have HW2:Hid (∃ m,wr.drewN nq=w.drewN m):=Hd (by
       obtain⟨m,rfl⟩:=HW.out
       exact⟨m+nq,by rw[World.drewN_drewN]⟩)
      generalize wr.drewN nq=wq at *
      go_wp2
      go_roundg (n - (t+1))
      case measure=>have:=hg.out;omega
      case rel=>exact⟨t+1,by omega,by omega,Hd (by omega),by go_num,HW2,HN2⟩
  · have htni: ¬ (t:Int)<(n:Int):=by omega
    have hix:Lib.indexByte (l.drop (k+1)) 34= -1:=ix_eq_none 34 _ (fun j=>by
      rcases Nat.lt_or_ge j (t - (k+1))with h|h
      · exact HN.out j h
      · rw[List.getElem?_eq_none (by rw[List.length_drop,HL.out];omega)];simp)
    have HRES:Hid (res=([],0,7)):=Hd (by rw[HQ.out,hix,if_pos (by omega)])
    clear hix
    go_wp2
    go_ret3
    rw[HRES.out]
    exact⟨rfl,HW.out⟩
theorem refQuoted_39 (A:Option Addr)(n cap:Nat)(l:List UInt8)(k:Nat)(w:World)(B:Nat)(h:Byt w B A n cap l)(hm:n≤50000)(hq:l[k]? =some 39) :
 Calls Tryz.prog 123 #[.slice A n cap,.int .i64 k] w fun e w'=>e= .returned (outV (quotedQ 39 l k))∧ ∃ m,w'=w.drewN m:=by
 have hl:=h.length
 have hkn:k<n:=by
  rcases Nat.lt_or_ge k l.length with g|g
  · omega
  · rw[List.getElem?_eq_none g]at hq;cases hq
 have hat': ¬ (n:Int)<(k:Int):=by omega
 have hne:((k:Int)==(n:Int))=false:=by simp;omega
 obtain⟨b,o,c,rfl,hb,hc,hcell⟩:=h.cell (i:=k) hkn
 have hcq:c=39:=by rw[hq]at hc;exact(Option.some.inj hc).symm
 have hcell':w.cell? ⟨b,o+k,none⟩=some (.int .u8 39):=by rw[hcell,hcq];rfl
 have hli:(k:Int)<(n:Int):=by omega
 have hk0:(0:Int)≤(k:Int):=by omega
 have hk1:(k:Int)≤50000:=by omega
 have hap:IntKind.i64.wrap ((k:Int)+1)=(k:Int)+1:=by rw[IntKind.wrap_i64];omega
 have hdr:=h.drop (k:=k+1) (by omega)
 have hlo:=ix_lo 39 (l.drop (k+1))
 rw[List.length_drop,hl]at hlo
 have hcap:=h.le
 have HQ:Hid (quotedQ 39 l k=if Lib.indexByte (l.drop (k+1)) 39<0 then ([],0,7) else ((l.drop (k+1)).take (Lib.indexByte (l.drop (k+1)) 39).toNat,k+(Lib.indexByte (l.drop (k+1)) 39).toNat+2,0)):=Hd rfl
 have HB:Hid (∀ j w1,(∃ m,w1=w.drewN m)→j≤n - (k+1)→(convert 29 9 (.slice (cutA (some ⟨b,o,none⟩) cap (k+1)) j (cap - (k+1)))).run Tryz.prog w1= .ok (.string ⟨((l.drop (k+1)).take j).toArray⟩) w1):=Hd (by
  rintro j w1 ⟨m,rfl⟩ hj
  exact(hdr.drewN.take hj).str)
 have HCELL:Hid (∀ i,i<n→ ∀ w1,(∃ m,w1=w.drewN m)→w1.cell? ⟨b,o+i,none⟩=some (.int .u8 (UInt8.toNat (l.getD i 0):Int))):=Hd (by
  rintro i hi w1 ⟨m,rfl⟩
  obtain⟨b',o',c',e,hb',hc',hcl⟩:=h.cell hi
  cases e
  show w.cell? _=_
  rw[hcl,List.getD_eq_getElem?_getD,hc']
  rfl)
 have hcut: ∀ j:Nat,j≤n - (k+1)→ ∀ w2:World,(Instr.slice 29 (.slice (some ⟨b,o,none⟩) n cap) (some (.int .i64 ((k:Int)+1))) (some (.int .i64 ((k+1+j:Nat):Int))) none).run Tryz.prog w2= .ok (.slice (cutA (some ⟨b,o,none⟩) cap (k+1)) j (cap - (k+1))) w2:=fun j hj w2=>by
  have:=run_fromTo (w:=w2) (some ⟨b,o,none⟩) n cap (k+1) (k+1+j) (by omega) (by omega)
  rw[show k+1+j - (k+1)=j by omega]at this
  exact this
 have HCUT:=Hd hcut
 have HC0:Hid (∀ w1,(∃ m,w1=w.drewN m)→w1.cell? ⟨b,o+k,none⟩=some (.int .u8 39)):=Hd (by
  rintro w1 ⟨m,rfl⟩
  exact hcell')
 have HL:=Hd hl
 clear hc hcell hcq hdr hlo hcap hcut h hq hl
 generalize quotedQ 39 l k=res at *
 go_enter Tryz.func123,Tryz.ntmps123
 go_wp2
 clear hcell'
 go_loopg [7] (n - (k+1)) (fun g i wr=> ∃ t:Nat,k+1≤t∧t≤n∧Hid (g+t=n)∧i= .int .i64 (t:Int)∧Hid (∃ m,wr=w.drewN m)∧Hid (∀ j<t - (k+1),(l.drop (k+1))[j]? ≠some 39))
 case atStart=>exact⟨k+1,Nat.le_refl _,by omega,Hd (by omega),rfl,Hd ⟨0,rfl⟩,Hd (fun j hj=>absurd hj (by omega))⟩
 case round =>
  obtain⟨t,ht1,ht2,hg,rfl,HW,HN⟩:=hrel
  have ht0:(0:Int)≤(t:Int):=by omega
  have htb:(t:Int)≤50000:=by omega
  by_cases htn:t<n
  · have htni:(t:Int)<(n:Int):=by omega
    have h1:=HCELL.out t htn wr HW.out
    have h2:=HC0.out wr HW.out
    have hdt:(l.drop (k+1))[t - (k+1)]? =some (l.getD t 0):=by
     rw[List.getElem?_drop,show k+1+(t - (k+1))=t by omega,List.getElem?_eq_getElem (by rw[HL.out];exact htn)]
     simp[HL.out ▸ htn]
    have HDT:=Hd hdt
    clear hdt
    generalize l.getD t 0=d at *
    have hd0:(0:Int)≤(d.toNat:Int):=by omega
    have hd1:(d.toNat:Int)≤255:=by have:=d.toNat_lt;omega
    by_cases hdq:d=39
    · subst hdq
      have hix:Lib.indexByte (l.drop (k+1)) 39=((t - (k+1):Nat):Int):=ix_eq 39 _ _ HDT.out HN.out
      have HRES:Hid (res=((l.drop (k+1)).take (t - (k+1)),t+1,0)):=Hd (by
       rw[HQ.out,hix,if_neg (by omega),Int.toNat_natCast]
       congr 2
       omega)
      have hct:=HCUT.out (t - (k+1)) (by omega)
      rw[show k+1+(t - (k+1))=t by omega]at hct
      have hw1:IntKind.i64.wrap ((t:Int)+1)=(t:Int)+1:=by rw[IntKind.wrap_i64];omega
      clear hix hd0 hd1
      go_wp2
      go_quiet (fail)
      have HW2:Hid (∃ m,wr.drewN nq=w.drewN m):=Hd (by
       obtain⟨m,rfl⟩:=HW.out
       exact⟨m+nq,by rw[World.drewN_drewN]⟩)
      generalize wr.drewN nq=wq at *
      have hst:=HB.out (t - (k+1)) wq HW2.out (by omega)
      generalize (l.drop (k+1)).take (t - (k+1))=T at *
      go_wp2
      go_ret3
      rw[HRES.out]
      exact⟨rfl,HW2.out⟩
    · have e1:((d.toNat:Int)==39)=false:=ne_byte' d 39 39 rfl hdq
      have HN2:Hid (∀ j<t+1 - (k+1),(l.drop (k+1))[j]? ≠some 39):=Hd (fun j hj=>by
       rcases(show j<t - (k+1)∨j=t - (k+1)by omega)with h|rfl
       · exact HN.out j h
       · rw[HDT.out];simpa using hdq)
      clear hdq
      generalize (d.toNat:Int)=dn at *
      go_wp2
      go_quiet (fail)
      have HW2:Hid (∃ m,wr.drewN nq=w.drewN m):=Hd (by
       obtain⟨m,rfl⟩:=HW.out
       exact⟨m+nq,by rw[World.drewN_drewN]⟩)
      generalize wr.drewN nq=wq at *
      go_wp2
      go_roundg (n - (t+1))
      case measure=>have:=hg.out;omega
      case rel=>exact⟨t+1,by omega,by omega,Hd (by omega),by go_num,HW2,HN2⟩
  · have htni: ¬ (t:Int)<(n:Int):=by omega
    have hix:Lib.indexByte (l.drop (k+1)) 39= -1:=ix_eq_none 39 _ (fun j=>by
      rcases Nat.lt_or_ge j (t - (k+1))with h|h
      · exact HN.out j h
      · rw[List.getElem?_eq_none (by rw[List.length_drop,HL.out];omega)];simp)
    have HRES:Hid (res=([],0,7)):=Hd (by rw[HQ.out,hix,if_pos (by omega)])
    clear hix
    go_wp2
    go_ret3
    rw[HRES.out]
    exact⟨rfl,HW.out⟩
theorem refQuoted_c (A:Option Addr)(n cap:Nat)(l:List UInt8)(at_:Int)(w:World)(B:Nat)(h:Byt w B A n cap l)(hm:n≤50000) :
 Calls Tryz.prog 123 #[.slice A n cap,.int .i64 at_] w fun e w'=>e= .returned (outV (quotedAt l at_))∧ ∃ m,w'=w.drewN m:=by
 have hl:=h.length
 unfold quotedAt
 rw[hl]
 by_cases ha:at_<0∨(n:Int)<at_
 · rw[if_pos ha];exact(refQuoted_range A n cap at_ w ha).mono fun e w' ⟨he,hw⟩=>⟨he,0,hw.symm⟩
 · rw[if_neg ha]
   obtain⟨k,rfl⟩: ∃ k:Nat,at_=(k:Int):=⟨at_.toNat,by omega⟩
   rw[Int.toNat_natCast]
   unfold quotedOut
   cases hq:l[k]? with
   |none=>exact(refQuoted_no A n cap l k w B h hm (by omega) (fun q e=>by rw[hq]at e;cases e)).mono fun e w' ⟨he,hw⟩=>⟨he,0,hw.symm⟩
   |some q =>
    simp only
    by_cases hqq:q=34∨q=39
    · rw[if_pos hqq]
      rcases hqq with rfl|rfl
      · exact refQuoted_34 A n cap l k w B h hm hq
      · exact refQuoted_39 A n cap l k w B h hm hq
    · rw[if_neg hqq];exact(refQuoted_no A n cap l k w B h hm (by omega) (fun q' e=>by rw[hq]at e;cases e;exact hqq)).mono fun e w' ⟨he,hw⟩=>⟨he,0,hw.symm⟩
theorem has_c (l:List UInt8)(c:UInt8)(w:World)(hm:l.length≤1000000) :
 Calls Tryz.prog 124 #[.string ⟨l.toArray⟩,.int .u8 c.toNat] w fun e w'=>e= .returned (.bool (decide (0≤Lib.indexByte l c)))∧w=w':=by
 have hsz:(⟨l.toArray⟩:ByteArray).size=l.length:=by simp[ByteArray.size]
 have hc0:(0:Int)≤(c.toNat:Int):=by omega
 go_enter Tryz.func124,Tryz.ntmps124
 go_wp2
 go_loopg [5] (l.length) (fun g i wr=> ∃ t:Nat,t≤l.length∧Hid (g+t=l.length)∧i= .int .i64 (t:Int)∧w=wr∧Hid (∀ j<t,l[j]? ≠some c))
 case atStart=>exact⟨0,Nat.zero_le _,Hd rfl,rfl,rfl,Hd (fun j hj=>absurd hj (Nat.not_lt_zero _))⟩
 case round =>
  obtain⟨t,ht,hg,rfl,rfl,HN⟩:=hrel
  have ht0:(0:Int)≤(t:Int):=by omega
  have htb:(t:Int)≤1000000:=by omega
  by_cases htn:t<l.length
  · have htni:(t:Int)<(l.length:Int):=by omega
    have hix:=run_strIndex l t htn w
    have HD:Hid (l[t]? =some (l.getD t 0)):=Hd (by rw[List.getElem?_eq_getElem htn];simp[htn])
    generalize l.getD t 0=d at *
    by_cases hdc:d=c
    · have HE:Hid (decide (0≤Lib.indexByte l c)=true):=Hd (by
       rw[ix_eq c l t (by rw[HD.out,hdc]) HN.out];simp)
      subst hdc
      go_wp2
      go_ret
      rw[HE.out]
      exact⟨rfl,rfl⟩
    · have e1:((d.toNat:Int)==(c.toNat:Int))=false:=ne_byte' d c _ rfl hdc
      have HN2:Hid (∀ j<t+1,l[j]? ≠some c):=Hd (fun j hj=>by
       rcases(show j<t∨j=t by omega)with h|rfl
       · exact HN.out j h
       · rw[HD.out];simpa using hdc)
      clear hdc
      go_wp2
      go_roundg (l.length - (t+1))
      case measure=>have:=hg.out;omega
      case rel=>exact⟨t+1,by omega,Hd (by omega),by go_num,rfl,HN2⟩
  · have HE:Hid (decide (0≤Lib.indexByte l c)=false):=Hd (by
      rw[ix_eq_none c l (fun j=>by
       rcases Nat.lt_or_ge j t with h|h
       · exact HN.out j h
       · rw[List.getElem?_eq_none (by omega)];simp)]
      simp)
    go_wp2
    go_ret
    rw[HE.out]
    exact⟨rfl,rfl⟩
theorem refStrict_c (A:Option Addr)(n cap:Nat)(l:List UInt8)(at_:Int)(but:UInt8)(w:World)(h:Byt w w.heap.size A n cap l)(hm:n≤40000) :
 Calls Tryz.prog 91 #[.slice A n cap,.int .i64 at_,.int .u8 but.toNat] w fun e w'=>e= .returned (outV (strictAt but l at_))∧Below w.heap.size w w':=by
 have HQ:=Hd (refQuoted_c A n cap l at_ w _ h (by omega))
 have hql:=quotedAt_le l at_
 rw[h.length]at hql
 have HS:Hid (strictAt but l at_=if (quotedAt l at_).2.2≠0 then ([],0,(quotedAt l at_).2.2) else if 0≤Lib.indexByte (quotedAt l at_).1 but then ([],0,7) else if (refsOut (quotedAt l at_).1).2≠0 then ([],0,(refsOut (quotedAt l at_).1).2) else ((quotedAt l at_).1,(quotedAt l at_).2.1,0)):=Hd rfl
 have HW:Hid (∀ w1,Calls Tryz.prog 124 #[.string ⟨(quotedAt l at_).1.toArray⟩,.int .u8 but.toNat] w1 fun e w'=>e= .returned (.bool (decide (0≤Lib.indexByte (quotedAt l at_).1 but)))∧w1=w'):=Hd fun w1=>has_c _ but w1 (by omega)
 have HR:Hid (∀ w1,Calls Tryz.prog 125 #[.string ⟨(quotedAt l at_).1.toArray⟩] w1 fun e w'=>e= .returned (.tuple #[.int .i64 (refsOut (quotedAt l at_).1).1,.int .i64 (refsOut (quotedAt l at_).1).2])∧Below w1.heap.size w1 w'):=Hd fun w1=>refRefs_c _ w1 (by omega)
 clear h hql hm
 generalize strictAt but l at_=res at *
 generalize quotedAt l at_=q at *
 obtain⟨s,k,f⟩:=q
 simp only at HS HW HR
 unfold outV at HQ
 generalize (but.toNat:Int)=bn at *
 by_cases hf:f=0
 · subst hf
   by_cases hb:0≤Lib.indexByte s but
   · have HE:Hid (res=([],0,7)):=Hd (by rw[HS.out,if_neg (by simp),if_pos hb])
     have hdb:decide (0≤Lib.indexByte s but)=true:=by simpa using hb
     rw[hdb]at HW
     clear hb hdb
     go_enter Tryz.func91,Tryz.ntmps91
     go_wp2_with fail
     refine HQ.out.mono ?_
     rintro e w1 ⟨rfl,m,hw1⟩
     have B1:Hid (Below w.heap.size w w1):=Hd (by rw[hw1];exact below_drewN' (Below.refl _ _))
     clear hw1
     go_wp2_with fail
     refine(HW.out w1).mono ?_
     rintro e w2 ⟨rfl,rfl⟩
     go_wp2
     go_ret3
     rw[HE.out]
     exact⟨rfl,B1.out⟩
   · have hdb:decide (0≤Lib.indexByte s but)=false:=by simpa using hb
     rw[hdb]at HW
     generalize refsOut s=r at *
     obtain⟨r1,r⟩:=r
     by_cases hr:r=0
     · have HE:Hid (res=(s,k,0)):=Hd (by rw[HS.out,if_neg (by simp),if_neg hb,if_neg (by simpa using hr)])
       subst hr
       clear hb hdb
       go_enter Tryz.func91,Tryz.ntmps91
       go_wp2_with fail
       refine HQ.out.mono ?_
       rintro e w1 ⟨rfl,m,hw1⟩
       have B1:Hid (Below w.heap.size w w1):=Hd (by rw[hw1];exact below_drewN' (Below.refl _ _))
       clear hw1
       go_wp2_with fail
       refine(HW.out w1).mono ?_
       rintro e w2 ⟨rfl,rfl⟩
       go_wp2_with fail
       refine(HR.out w1).mono ?_
       rintro e w2 ⟨rfl,hb⟩
       have B2:Hid (Below w.heap.size w w2):=Hd (B1.out.trans (hb.mono B1.out.size))
       clear hb
       go_wp2
       go_ret3
       rw[HE.out]
       exact⟨rfl,B2.out⟩
     · have HE:Hid (res=([],0,r)):=Hd (by rw[HS.out,if_neg (by simp),if_neg hb,if_pos (by simpa using hr)])
       have hrz:((r:Int) != 0)=true:=by simp;omega
       clear hb hdb hr
       go_enter Tryz.func91,Tryz.ntmps91
       go_wp2_with fail
       refine HQ.out.mono ?_
       rintro e w1 ⟨rfl,m,hw1⟩
       have B1:Hid (Below w.heap.size w w1):=Hd (by rw[hw1];exact below_drewN' (Below.refl _ _))
       clear hw1
       go_wp2_with fail
       refine(HW.out w1).mono ?_
       rintro e w2 ⟨rfl,rfl⟩
       go_wp2_with fail
       refine(HR.out w1).mono ?_
       rintro e w2 ⟨rfl,hb⟩
       have B2:Hid (Below w.heap.size w w2):=Hd (B1.out.trans (hb.mono B1.out.size))
       clear hb
       go_wp2
       go_ret3
       rw[HE.out]
       exact⟨rfl,B2.out⟩
 · have HE:Hid (res=([],0,f)):=Hd (by rw[HS.out,if_pos hf])
   have hfz:((f:Int) != 0)=true:=by simp;omega
   clear hf
   go_enter Tryz.func91,Tryz.ntmps91
   go_wp2_with fail
   refine HQ.out.mono ?_
   rintro e w1 ⟨rfl,m,hw1⟩
   have B1:Hid (Below w.heap.size w w1):=Hd (by rw[hw1];exact below_drewN' (Below.refl _ _))
   clear hw1
   go_wp2
   go_ret3
   rw[HE.out]
   exact⟨rfl,B1.out⟩
theorem pair_name {l:List UInt8}{i:Nat}(h:(nameOut l i).2.2≠0):(pairOut l i).2.2=(nameOut l i).2.2:=by unfold pairOut;rw[if_neg h]
theorem pair_eq {l:List UInt8}{i:Nat}(h:(nameOut l i).2.2=0)(h1:l[blankTo l (nameOut l i).2.1]? ≠some 61):(pairOut l i).2.2=7:=by unfold pairOut;rw[if_pos h,if_neg h1]
theorem pair_val {l:List UInt8}{i:Nat}(h:(nameOut l i).2.2=0)(h1:l[blankTo l (nameOut l i).2.1]? =some 61) :
 pairOut l i=(((nameOut l i).1,(strictAt 60 l (blankTo l (blankTo l (nameOut l i).2.1+1):Nat)).1),(strictAt 60 l (blankTo l (blankTo l (nameOut l i).2.1+1):Nat)).2.1,(strictAt 60 l (blankTo l (blankTo l (nameOut l i).2.1+1):Nat)).2.2):=by
 unfold pairOut;rw[if_pos h,if_pos h1]
theorem refPairs_in (A:Option Addr)(n cap:Nat)(l:List UInt8)(k:Nat)(w:World)(h:Byt w w.heap.size A n cap l)(hm:n≤40000)(hk:k≤n) :
 Calls Tryz.prog 61 #[.slice A n cap,.int .i64 k] w fun e w'=>PairsPost (pairsOut l k) w e w':=by
 have hln:=h.length
 have HK:Hid (∀ W v acc,PhJ w W v acc→Byt W W.heap.size A n cap l):=Hd fun W v acc hJ=>(h.below hJ.1).more hJ.1.size
 have CB:Hid (∀ t,t≤n→ ∀ W v acc,PhJ w W v acc→Calls Tryz.prog 60 #[.slice A n cap,.int .i64 (t:Int)] W fun e w'=>e= .returned (.int .i64 (blankTo l t))∧W=w'):=Hd fun t ht W v acc hb=>refBlanks_c A n cap l t _ W (HK.out W v acc hb) (by omega) ht
 have CR:Hid (∀ t:Nat,t≤n→ ∀ W v acc,PhJ w W v acc→Calls Tryz.prog 58 #[.slice A n cap,.int .i64 (t:Int),.bool false] W fun e w'=>e= .returned (outV (nameOut l t))∧Below W.heap.size W w'):=Hd fun t ht W v acc hb=>refReadF_c A n cap l t W (HK.out W v acc hb) (by omega) ht
 have CA:Hid (∀ t:Nat,t≤n→ ∀ W v acc,PhJ w W v acc→Calls Tryz.prog 28 #[.slice A n cap,.int .i64 (t:Int),.string ⟨#[61]⟩] W fun e w'=>e= .returned (.bool (decide (l[t]? =some 61)))∧W=w'):=Hd fun t ht W v acc hb=>by
  have:=refAt8_c A n cap l t [61] _ W (HK.out W v acc hb) (by simp) (by omega) (by simp) (by omega)
  rwa [pre_one]at this
 have CS:Hid (∀ t:Nat,∀ W v acc,PhJ w W v acc→Calls Tryz.prog 91 #[.slice A n cap,.int .i64 (t:Int),.int .u8 60] W fun e w'=>e= .returned (outV (strictAt 60 l (t:Int)))∧Below W.heap.size W w'):=Hd fun t W v acc hb=>refStrict_c A n cap l t 60 W (HK.out W v acc hb) hm
 have HLn:=Hd hln
 have HKn:=Hd (And.intro hm hk)
 have HBy:Hid (Byt w w.heap.size A n cap l):=Hd h
 have hk': ¬ (n:Int)<(k:Int):=by omega
 have hk0: ¬ (k:Int)<0:=by omega
 have hkn: ¬ n<k:=by omega
 clear h hln hk hm HK
 go_enter Tryz.func61,Tryz.ntmps61
 go_wp2
 go_loopg [1,7] (n) (fun g i v wr=> ∃ (t:Nat) (acc:List PairL) (f:Nat),i= .int .i64 (t:Int)∧t≤n∧Hid (g=f)∧Hid (n≤f+t)∧Hid (acc.length≤t)∧Hid (pairsOut l k=pairsR l (f+1) acc t)∧Hid (PhJ w wr v acc))
 case atStart=>exact⟨k,[],n,rfl,HKn.out.2,Hd rfl,Hd (by omega),Hd (Nat.zero_le _),Hd (by unfold pairsOut;rw[HLn.out]),Hd (PhJ.start w)⟩
 case round =>
  obtain⟨t,acc,f,rfl,ht,hgf,hg,hal,HE,HJ⟩:=hrel
  have hm:=HKn.out.1
  have ht0:(0:Int)≤(t:Int):=by omega
  have htb:(t:Int)≤40000:=by omega
  obtain⟨RA,rc,rfl,hrd⟩:=PRd.ofOwn HJ.out.2
  have HRd:=Hd hrd
  clear hrd
  have c1:=CB.out t ht _ _ _ HJ.out
  have hbl:=blankTo_le l t (by rw[HLn.out];exact ht)
  rw[HLn.out]at hbl
  have hst:=fun (h:stopB l (blankTo l t) t=true)=>HE.out.trans (pairs_stop (f:=_) (acc:=acc) h)
  have hbd:=fun (h:stopB l (blankTo l t) t=false) (e:Nat) (he:(pairOut l (blankTo l t)).2.2=e) (h0:e≠0)=>HE.out.trans (pairs_bad (f:=_) (acc:=acc) h he h0)
  have htw:=fun (h:stopB l (blankTo l t) t=false) he h0=>HE.out.trans (pairs_twice (f:=_) (acc:=acc) h he h0)
  have hmo:=fun (h:stopB l (blankTo l t) t=false) he h0=>HE.out.trans (pairs_more (f:=_) (acc:=acc) h he h0)
  generalize blankTo l t=b at *
  have hb0:(0:Int)≤(b:Int):=by omega
  have hb1:(b:Int)≤40000:=by omega
  have C1:=Hd c1
  clear c1
  by_cases hbt:b=t
  · have hE:=Hd (hst (stop_eq hbt))
    have hbe:((b:Int)==(t:Int))=true:=by simp;omega
    clear hst hbd htw hmo hbt
    go_wp2_with fail
    refine(C1.out).mono ?_
    rintro e wq ⟨rfl,rfl⟩
    go_wp2
    go_ret3
    rw[hE.out]
    exact PairsPost.good HJ.out.2 rfl HJ.out.1 (Nat.le_refl _)
  · have hbe:((b:Int)==(t:Int))=false:=by simp;omega
    by_cases hbn:b<n
    · obtain⟨bb,o,c,rfl,hbB,hc,hcell⟩:=(HBy.out.below HJ.out.1).cell hbn
      have hbne:((b:Int)==(n:Int))=false:=by simp;omega
      have c0:(0:Int)≤(c.toNat:Int):=by omega
      have c9:(c.toNat:Int)≤255:=by have:=c.toNat_lt;omega
      by_cases h47:c=47
      · have hE:=Hd (hst (stop_at hc (Or.inl h47)))
        subst h47
        have hcell':wr.cell? ⟨bb,o+b,none⟩=some (.int .u8 47):=hcell
        clear hst hbd htw hmo hbt hc hcell
        go_wp2_with fail
        refine(C1.out).mono ?_
        rintro e wq ⟨rfl,rfl⟩
        go_wp2
        go_ret3
        rw[hE.out]
        exact PairsPost.good HJ.out.2 rfl HJ.out.1 (Nat.le_refl _)
      · by_cases h62:c=62
        · have hE:=Hd (hst (stop_at hc (Or.inr h62)))
          subst h62
          have hcell':wr.cell? ⟨bb,o+b,none⟩=some (.int .u8 62):=hcell
          clear hst hbd htw hmo hbt hc hcell
          go_wp2_with fail
          refine(C1.out).mono ?_
          rintro e wq ⟨rfl,rfl⟩
          go_wp2
          go_ret3
          rw[hE.out]
          exact PairsPost.good HJ.out.2 rfl HJ.out.1 (Nat.le_refl _)
        · have hsn:=stop_no (t:=t) hc hbt h47 h62
          have n47:((c.toNat:Int)==47)=false:=by
           have:c.toNat≠47:=fun e=>h47 (UInt8.toNat_inj.1 e)
           simp;omega
          have n62:((c.toNat:Int)==62)=false:=by
           have:c.toNat≠62:=fun e=>h62 (UInt8.toNat_inj.1 e)
           simp;omega
          have c2:=CR.out b (by omega) _ _ _ HJ.out
          have hno:=nameOut_ok l b (by rw[HLn.out];omega)
          rw[HLn.out]at hno
          have hpo:=pairOut_ok l b (by rw[HLn.out];omega)
          rw[HLn.out]at hpo
          have hpn:=pair_name (l:=l) (i:=b)
          have hpe:=pair_eq (l:=l) (i:=b)
          have hpv:=pair_val (l:=l) (i:=b)
          generalize nameOut l b=m at *
          obtain⟨s,nx,e⟩:=m
          unfold outV at c2
          simp only at c2 hno hpn hpe hpv
          have C2:=Hd c2
          clear hst hc h47 h62 hbt c2
          by_cases he:e=0
          · subst he
            obtain⟨hn1,hn2,hn3⟩:=hno rfl
            have hb2:=blankTo_le l nx (by rw[HLn.out];exact hn2)
            rw[HLn.out]at hb2
            have c3:=CB.out nx hn2
            generalize blankTo l nx=b2 at *
            have hb20:(0:Int)≤(b2:Int):=by omega
            have hb21:(b2:Int)≤40000:=by omega
            have c4:=CA.out b2 (by omega)
            have C3:=Hd c3
            clear c3
            by_cases h61:l[b2]? =some 61
            · have hlt:=(List.getElem?_eq_some_iff.1 h61).1
              rw[HLn.out]at hlt
              have hd:decide (l[b2]? =some 61)=true:=by simpa using h61
              rw[hd]at c4
              have hpv':=hpv rfl h61
              have c5:=CB.out (b2+1) (by omega)
              rw[show ((b2+1:Nat):Int)=(b2:Int)+1 by omega]at c5
              have C4:=Hd c4
              have C5:=Hd c5
              clear c4 c5 hd h61 hpn hpe hpv
              generalize blankTo l (b2+1)=b3 at *
              have c6:=CS.out b3
              generalize strictAt 60 l (b3:Int)=q at *
              obtain⟨pv,px,pe⟩:=q
              unfold outV at c6
              simp only at c6 hpv'
              rw[hpv']at hpo hbd htw hmo
              simp only at hpo hbd htw hmo
              have C6:=Hd c6
              clear c6 hpv'
              by_cases hpe0:pe=0
              · subst hpe0
                obtain⟨hp1,hp2,hp3,hp4⟩:=hpo rfl
                have htx:t<px:=by omega
                have CH:Hid (∀ W,Below wr.heap.size wr W→Calls Tryz.prog 92 #[.slice RA acc.length rc,.string ⟨s.toArray⟩] W fun e w'=>e= .returned (.bool (hasN acc s))∧W=w'):=Hd fun W hb=>refHas10_c RA acc.length rc acc s _ W (HRd.out.below hb) (by have:=hal.out;omega)
                cases hh:hasN acc s with
                |true =>
                 have hE:=Hd (htw hsn rfl hh)
                 rw[hh]at CH
                 clear hbd htw hmo hsn hno hn3 hp3 hp4 hh
                 go_wp2_with fail
                 refine(C1.out).mono ?_
                 rintro e wq ⟨rfl,rfl⟩
                 go_wp2_with fail
                 refine C2.out.mono ?_
                 rintro e1 w1 ⟨rfl,hb⟩
                 have B1:=Hd hb
                 have J1:=Hd (HJ.out.kept hb)
                 clear hb
                 go_wp2_with fail
                 refine(C3.out _ _ _ J1.out).mono ?_
                 rintro e wq ⟨rfl,rfl⟩
                 go_wp2_with fail
                 refine(C4.out _ _ _ J1.out).mono ?_
                 rintro e wq ⟨rfl,rfl⟩
                 go_wp2_with fail
                 refine(C5.out _ _ _ J1.out).mono ?_
                 rintro e wq ⟨rfl,rfl⟩
                 go_wp2_with fail
                 refine(C6.out _ _ _ J1.out).mono ?_
                 rintro e1 w2 ⟨rfl,hb⟩
                 have B2:=Hd (B1.out.trans (hb.mono B1.out.size))
                 have J2:=Hd (J1.out.kept hb)
                 clear hb
                 go_wp2_with fail
                 refine(CH.out _ B2.out).mono ?_
                 rintro e wq ⟨rfl,rfl⟩
                 go_wp2
                 go_ret3
                 rw[hE.out]
                 exact PairsPost.bad rfl J2.out.1
                |false =>
                 have hE:=Hd (hmo hsn rfl hh)
                 rw[hh]at CH
                 have hacc:acc.length≤1000000000:=by have:=hal.out;omega
                 clear hbd htw hmo hsn hno hn3 hp3 hp4 hh
                 go_wp2_with fail
                 refine(C1.out).mono ?_
                 rintro e wq ⟨rfl,rfl⟩
                 go_wp2_with fail
                 refine C2.out.mono ?_
                 rintro e1 w1 ⟨rfl,hb⟩
                 have B1:=Hd hb
                 have J1:=Hd (HJ.out.kept hb)
                 clear hb
                 go_wp2_with fail
                 refine(C3.out _ _ _ J1.out).mono ?_
                 rintro e wq ⟨rfl,rfl⟩
                 go_wp2_with fail
                 refine(C4.out _ _ _ J1.out).mono ?_
                 rintro e wq ⟨rfl,rfl⟩
                 go_wp2_with fail
                 refine(C5.out _ _ _ J1.out).mono ?_
                 rintro e wq ⟨rfl,rfl⟩
                 go_wp2_with fail
                 refine(C6.out _ _ _ J1.out).mono ?_
                 rintro e1 w2 ⟨rfl,hb⟩
                 have B2:=Hd (B1.out.trans (hb.mono B1.out.size))
                 have J2:=Hd (J1.out.kept hb)
                 clear hb
                 go_wp2_with fail
                 refine(CH.out _ B2.out).mono ?_
                 rintro e wq ⟨rfl,rfl⟩
                 have hbase:w.heap.size≤w2.heap.size:=J2.out.1.size
                 go_wp2_with (at_builtin;refine wpList_app2 rfl (.tmp 84) (.tmp 88) 45 66 rfl (.agg #[.string ⟨#[]⟩,.string ⟨#[]⟩]) 32 Tryz.underlying45 info_pair rfl w.heap.size _ acc.length (cellsP acc) rfl J2.out.2 (.string ⟨s.toArray⟩) (.string ⟨pv.toArray⟩) rfl rfl rfl hacc (by decide) hbase ?_)
                 intro v4 w4 hown4 hgrow4
                 have J4:Hid (PhJ w w4 v4 (acc++ [(s,pv)])):=Hd (PhJ.appended J2.out (by rw[cellsP_snoc,List.length_append];exact hown4) hgrow4)
                 clear hgrow4 hown4
                 go_wp2
                 go_roundg (f - 1)
                 case measure=>have:=hg.out;have:=hgf.out;omega
                 case rel=>exact⟨px,acc++ [(s,pv)],f - 1,rfl,by omega,Hd rfl,Hd (by have:=hg.out;omega),Hd (by have:=hal.out;simp;omega),Hd (by rw[hE.out,show f - 1+1=f by have:=hg.out;omega]),J4⟩
              · have hE:=Hd (hbd hsn pe rfl hpe0)
                have hei:((pe:Int)==0)=false:=by simp;omega
                clear hbd htw hmo hsn hno hpo
                go_wp2_with fail
                refine(C1.out).mono ?_
                rintro e wq ⟨rfl,rfl⟩
                go_wp2_with fail
                refine C2.out.mono ?_
                rintro e1 w1 ⟨rfl,hb⟩
                have J1:=Hd (HJ.out.kept hb)
                clear hb
                go_wp2_with fail
                refine(C3.out _ _ _ J1.out).mono ?_
                rintro e wq ⟨rfl,rfl⟩
                go_wp2_with fail
                refine(C4.out _ _ _ J1.out).mono ?_
                rintro e wq ⟨rfl,rfl⟩
                go_wp2_with fail
                refine(C5.out _ _ _ J1.out).mono ?_
                rintro e wq ⟨rfl,rfl⟩
                go_wp2_with fail
                refine(C6.out _ _ _ J1.out).mono ?_
                rintro e1 w2 ⟨rfl,hb⟩
                have J2:=Hd (J1.out.kept hb)
                clear hb
                go_wp2
                go_ret3
                rw[hE.out]
                exact PairsPost.bad rfl J2.out.1
            · have hd:decide (l[b2]? =some 61)=false:=by simpa using h61
              rw[hd]at c4
              have hE:=Hd (hbd hsn 7 (hpe rfl h61) (by decide))
              have C4:=Hd c4
              clear c4 hd h61 hpn hpe hpv hbd htw hmo hsn hno hpo
              go_wp2_with fail
              refine(C1.out).mono ?_
              rintro e wq ⟨rfl,rfl⟩
              go_wp2_with fail
              refine C2.out.mono ?_
              rintro e1 w1 ⟨rfl,hb⟩
              have J1:=Hd (HJ.out.kept hb)
              clear hb
              go_wp2_with fail
              refine(C3.out _ _ _ J1.out).mono ?_
              rintro e wq ⟨rfl,rfl⟩
              go_wp2_with fail
              refine(C4.out _ _ _ J1.out).mono ?_
              rintro e wq ⟨rfl,rfl⟩
              go_wp2
              go_ret3
              rw[hE.out]
              exact PairsPost.bad rfl J1.out.1
          · have hE:=Hd (hbd hsn e (hpn he) he)
            have hei:((e:Int)==0)=false:=by simp;omega
            clear hpn hpe hpv hbd htw hmo hsn hno hpo
            go_wp2_with fail
            refine(C1.out).mono ?_
            rintro e wq ⟨rfl,rfl⟩
            go_wp2_with fail
            refine C2.out.mono ?_
            rintro e1 w1 ⟨rfl,hb⟩
            have J1:=Hd (HJ.out.kept hb)
            clear hb
            go_wp2
            go_ret3
            rw[hE.out]
            exact PairsPost.bad rfl J1.out.1
    · obtain rfl:b=n:=by omega
      have hE:=Hd (hst (stop_end (by rw[List.getElem?_eq_none];rw[HLn.out];exact Nat.le_refl _)))
      have hbne:((b:Int)==(b:Int))=true:=by simp
      clear hst hbd htw hmo hbt
      go_wp2_with fail
      refine(C1.out).mono ?_
      rintro e wq ⟨rfl,rfl⟩
      go_wp2
      go_ret3
      rw[hE.out]
      exact PairsPost.good HJ.out.2 rfl HJ.out.1 (Nat.le_refl _)
end Go.Proofs.YtbafljibbabnaaaGreatDoor
