/- Texts of ours, joined: TagP, PlainP, Misc1, Misc6. -/
import Derived.Lib.Fold
import Derived.Test.YtbafljibbabnaaaGreatDoorQ26
namespace Go.Proofs.YtbafljibbabnaaaGreatDoor
open Go.ChangeShapes Go.WideShapes Go.ChangeAt Go.RowKit
set_option linter.unusedVariables false
set_option maxRecDepth 100000
set_option maxHeartbeats 32000000
abbrev PairL:=List UInt8 × List UInt8
def pairOut (l:List UInt8)(i:Nat):PairL × Nat × Nat :=
 if (nameOut l i).2.2=0 then
  if l[blankTo l (nameOut l i).2.1]? =some 61 then
   (((nameOut l i).1,(strictAt 60 l (blankTo l (blankTo l (nameOut l i).2.1+1):Nat)).1),(strictAt 60 l (blankTo l (blankTo l (nameOut l i).2.1+1):Nat)).2.1,(strictAt 60 l (blankTo l (blankTo l (nameOut l i).2.1+1):Nat)).2.2)
  else (([],[]),0,7)
 else (([],[]),0,(nameOut l i).2.2)
def hasN (acc:List PairL)(s:List UInt8):Bool:=acc.any fun p=>decide (p.1=s)
def stopB (l:List UInt8)(i t:Nat):Bool:=decide (i=t) || (match l[i]? with|none=>true|some c=>decide (c=47) || decide (c=62))
def pairsR (l:List UInt8):Nat→List PairL→Nat→List PairL × Nat × Nat
 |0,_,_=>([],0,0)
 |f+1,acc,t=>if stopB l (blankTo l t) t=true then (acc,t,0)
  else if (pairOut l (blankTo l t)).2.2≠0 then ([],0,(pairOut l (blankTo l t)).2.2)
  else if hasN acc (pairOut l (blankTo l t)).1.1=true then ([],0,12)
  else pairsR l f (acc++ [(pairOut l (blankTo l t)).1]) (pairOut l (blankTo l t)).2.1
def pairsOut (l:List UInt8)(k:Nat):List PairL × Nat × Nat:=pairsR l (l.length+1) [] k
theorem pairs_stop {l:List UInt8}{f t:Nat}{acc:List PairL}(h:stopB l (blankTo l t) t=true):pairsR l (f+1) acc t=(acc,t,0):=by rw[pairsR,if_pos h]
theorem pairs_bad {l:List UInt8}{f t:Nat}{acc:List PairL}(h:stopB l (blankTo l t) t=false){e:Nat}(he:(pairOut l (blankTo l t)).2.2=e)(h0:e≠0):pairsR l (f+1) acc t=([],0,e):=by
 rw[pairsR,if_neg (by simp[h]),if_pos (by rw[he];exact h0),he]
theorem pairs_twice {l:List UInt8}{f t:Nat}{acc:List PairL}(h:stopB l (blankTo l t) t=false)(he:(pairOut l (blankTo l t)).2.2=0)(h0:hasN acc (pairOut l (blankTo l t)).1.1=true):pairsR l (f+1) acc t=([],0,12):=by
 rw[pairsR,if_neg (by simp[h]),if_neg (by simp[he]),if_pos h0]
theorem pairs_more {l:List UInt8}{f t:Nat}{acc:List PairL}(h:stopB l (blankTo l t) t=false)(he:(pairOut l (blankTo l t)).2.2=0)(h0:hasN acc (pairOut l (blankTo l t)).1.1=false) :
 pairsR l (f+1) acc t=pairsR l f (acc++ [(pairOut l (blankTo l t)).1]) (pairOut l (blankTo l t)).2.1:=by
 rw[pairsR,if_neg (by simp[h]),if_neg (by simp[he]),if_neg (by simp[h0])]
theorem nameOut_ok (l:List UInt8)(k:Nat)(hk:k≤l.length)(h:(nameOut l k).2.2=0):k<(nameOut l k).2.1∧(nameOut l k).2.1≤l.length∧(nameOut l k).1.length≤1024:=by
 have hle:=endL_le l.length isStart isMore (l.drop k)
 rw[List.length_drop]at hle
 unfold nameOut at h ⊢
 simp only at h ⊢
 split
 · rename_i h0;rw[if_pos h0]at h;cases h
 · rename_i h0
   rw[if_neg h0]at h
   split
   · rename_i h1;rw[if_pos h1]at h;cases h
   · rename_i h1
     refine⟨by simp only;omega,by simp only;omega,?_⟩
     simp only[List.length_take]
     omega
theorem quotedAt_next2 (l:List UInt8)(p:Nat)(h:(quotedAt l (p:Int)).2.2=0):p<(quotedAt l (p:Int)).2.1∧(quotedAt l (p:Int)).2.1≤l.length:=by
 unfold quotedAt at h ⊢
 split
 · rename_i h'
   rw[if_pos h']at h
   cases h
 · rename_i h'
   rw[if_neg h']at h
   rw[Int.toNat_natCast]at h ⊢
   unfold quotedOut at h ⊢
   cases hq:l[p]? with
   |none=>rw [hq]at h;cases h
   |some q =>
    rw[hq]at h
    simp only at h ⊢
    have hpl:p<l.length:=(List.getElem?_eq_some_iff.1 hq).1
    split
    · rename_i h2
      rw[if_pos h2]at h
      unfold quotedQ at h ⊢
      split
      · rename_i h3
        rw[if_pos h3]at h
        cases h
      · rename_i h3
        have:=ix_lo q (l.drop (p+1))
        rw[List.length_drop]at this
        simp only
        omega
    · rename_i h2
      rw[if_neg h2]at h
      cases h
theorem strictAt_next (but:UInt8)(l:List UInt8)(p:Nat)(h:(strictAt but l (p:Int)).2.2=0):p<(strictAt but l (p:Int)).2.1∧(strictAt but l (p:Int)).2.1≤l.length:=by
 unfold strictAt at h ⊢
 split
 · rename_i h0;rw[if_pos h0]at h;exact absurd h h0
 · rename_i h0
   rw[if_neg h0]at h
   have h0':(quotedAt l (p:Int)).2.2=0:=by simpa using h0
   split
   · rename_i h1;rw[if_pos h1]at h;cases h
   · rename_i h1
     rw[if_neg h1]at h
     split
     · rename_i h2;rw[if_pos h2]at h;exact absurd h h2
     · exact quotedAt_next2 l p h0'
theorem strictAt_len (but:UInt8)(l:List UInt8)(p:Int):(strictAt but l p).1.length≤l.length:=by
 unfold strictAt
 split
 · simp
 · split
   · simp
   · split
     · simp
     · exact quotedAt_le l p
theorem pairOut_ok (l:List UInt8)(i:Nat)(hi:i≤l.length)(h:(pairOut l i).2.2=0):i<(pairOut l i).2.1∧(pairOut l i).2.1≤l.length∧(pairOut l i).1.1.length≤1024∧(pairOut l i).1.2.length≤l.length:=by
 unfold pairOut at h ⊢
 split
 · rename_i h0
   rw[if_pos h0]at h
   have hn:=nameOut_ok l i hi h0
   have hb:=blankTo_le l _ hn.2.1
   split
   · rename_i h1
     rw[if_pos h1]at h
     have hlt:=(List.getElem?_eq_some_iff.1 h1).1
     have hb2:=blankTo_le l (blankTo l (nameOut l i).2.1+1) (by omega)
     have hs:=strictAt_next 60 l _ h
     have hsl:=strictAt_len 60 l (blankTo l (blankTo l (nameOut l i).2.1+1):Nat)
     exact⟨by show i<(strictAt 60 l _).2.1;omega,hs.2,hn.2.2,hsl⟩
   · rename_i h1
     rw[if_neg h1]at h
     cases h
 · rename_i h0
   rw[if_neg h0]at h
   exact absurd h h0
theorem hasN_snoc (acc:List PairL)(p:PairL)(s:List UInt8):hasN (acc++ [p]) s=(hasN acc s || decide (p.1=s)):=by simp[hasN,List.any_append]
structure TagL where
 name:List UInt8
 pairs:List PairL
 empty:Bool
def noTag:TagL:=⟨[],[],false⟩
def openOut (l:List UInt8)(k:Nat):TagL × Nat × Nat :=
 if l[k]? =some 60 then
  if (nameOut l (k+1)).2.2≠0 then (noTag,0,(nameOut l (k+1)).2.2)
  else if (pairsOut l (nameOut l (k+1)).2.1).2.2≠0 then (noTag,0,(pairsOut l (nameOut l (k+1)).2.1).2.2)
  else if [47,62].isPrefixOf (l.drop (blankTo l (pairsOut l (nameOut l (k+1)).2.1).2.1))=true then
   (⟨(nameOut l (k+1)).1,(pairsOut l (nameOut l (k+1)).2.1).1,true⟩,blankTo l (pairsOut l (nameOut l (k+1)).2.1).2.1+2,0)
  else if [62].isPrefixOf (l.drop (blankTo l (pairsOut l (nameOut l (k+1)).2.1).2.1))=true then
   (⟨(nameOut l (k+1)).1,(pairsOut l (nameOut l (k+1)).2.1).1,false⟩,blankTo l (pairsOut l (nameOut l (k+1)).2.1).2.1+1,0)
  else (noTag,0,7)
 else (noTag,0,7)
def closeOut (l:List UInt8)(k:Nat):List UInt8 × Nat × Nat :=
 if [60,47].isPrefixOf (l.drop k)=true then
  if (nameOut l (k+2)).2.2≠0 then ([],0,(nameOut l (k+2)).2.2)
  else if [62].isPrefixOf (l.drop (blankTo l (nameOut l (k+2)).2.1))=true then ((nameOut l (k+2)).1,blankTo l (nameOut l (k+2)).2.1+1,0)
  else ([],0,7)
 else ([],0,7)
def tagAt {α:Type}(z:α)(f:List UInt8→Nat→α × Nat × Nat)(l:List UInt8)(at_:Int):α × Nat × Nat:=if at_<0∨(l.length:Int)<at_ then (z,0,3) else f l at_.toNat
theorem pairsR_le (l:List UInt8): ∀ (f:Nat) (acc:List PairL) (t:Nat),t≤l.length→(pairsR l f acc t).2.1≤l.length
 |0,acc,t,ht=>Nat.zero_le _
 |f+1,acc,t,ht=>by
  have hb:=blankTo_le l t ht
  cases hs:stopB l (blankTo l t) t with
  |true=>rw [pairs_stop hs];exact ht
  |false =>
   by_cases he:(pairOut l (blankTo l t)).2.2=0
   · cases hh:hasN acc (pairOut l (blankTo l t)).1.1 with
     |true=>rw [pairs_twice hs he hh];exact Nat.zero_le _
     |false =>
      rw[pairs_more hs he hh]
      exact pairsR_le l f _ _ (pairOut_ok l _ hb.2 he).2.1
   · rw[pairs_bad hs rfl he]
     exact Nat.zero_le _
theorem pairsOut_le (l:List UInt8)(k:Nat)(hk:k≤l.length):(pairsOut l k).2.1≤l.length:=pairsR_le l _ [] k hk
def cellsP (ps:List PairL):List Value:=ps.flatMap fun p=> [.string ⟨p.1.toArray⟩,.string ⟨p.2.toArray⟩]
theorem cellsP_length (ps:List PairL):(cellsP ps).length=ps.length*2:=by
 induction ps with
 |nil=>rfl
 |cons p t ih=>simp only[cellsP,List.flatMap_cons,List.length_append,List.length_cons,List.length_nil]at ih ⊢;omega
theorem cellsP_snoc (ps:List PairL)(p:PairL):cellsP (ps++ [p])=cellsP ps++ [.string ⟨p.1.toArray⟩,.string ⟨p.2.toArray⟩]:=by simp[cellsP]
theorem cellsP_get: ∀ (ps:List PairL) (i:Nat) (p:PairL),ps[i]? =some p→(cellsP ps)[i*2]? =some (.string ⟨p.1.toArray⟩)∧(cellsP ps)[i*2+1]? =some (.string ⟨p.2.toArray⟩)
 | [],i,p,h=>by cases h
 |q :: t,0,p,h=>by simp at h;subst h;exact⟨rfl,rfl⟩
 |q :: t,i+1,p,h=>by
  have ih:=cellsP_get t i p (by simpa using h)
  have e:cellsP (q :: t)= [.string ⟨q.1.toArray⟩,.string ⟨q.2.toArray⟩]++cellsP t:=rfl
  rw[e,List.getElem?_append_right (by simp;omega),List.getElem?_append_right (by simp;omega)]
  simp only[List.length_cons,List.length_nil]
  rw[show (i+1)*2 - 2=i*2 by omega,show(i+1)*2+1 - 2=i*2+1 by omega]
  exact ih
structure PRd (w:World) (B:Nat) (A:Option Addr) (n cap:Nat) (ps:List PairL):Prop where
 len:ps.length=n
 le:n≤cap
 fit:cap≤maxLen
 nil:A=none→cap=0
 at_:0<cap→ ∃ b o,A=some ⟨b,o,none⟩∧b<B∧ ∀ i p,ps[i]? =some p→w.cell? ⟨b,o+i*2,none⟩=some (.string ⟨p.1.toArray⟩)∧w.cell? ⟨b,o+i*2+1,none⟩=some (.string ⟨p.2.toArray⟩)
theorem PRd.keep {w w':World}{B n cap:Nat}{A:Option Addr}{ps:List PairL}(h:PRd w B A n cap ps)(hk: ∀ p:Addr,p.block<B→w'.cell? p=w.cell? p):PRd w' B A n cap ps :=
 ⟨h.len,h.le,h.fit,h.nil,fun h0=>by
   obtain⟨b,o,e,hb,hc⟩:=h.at_ h0
   exact⟨b,o,e,hb,fun i p hp=>⟨(hk ⟨b,_,none⟩ hb).trans (hc i p hp).1,(hk ⟨b,_,none⟩ hb).trans (hc i p hp).2⟩⟩⟩
theorem PRd.more {w:World}{B B' n cap:Nat}{A:Option Addr}{ps:List PairL}(h:PRd w B A n cap ps)(hB:B≤B'):PRd w B' A n cap ps :=
 ⟨h.len,h.le,h.fit,h.nil,fun h0=>by
   obtain⟨b,o,e,hb,hc⟩:=h.at_ h0
   exact⟨b,o,e,by omega,hc⟩⟩
theorem PRd.below {w w':World}{B n cap:Nat}{A:Option Addr}{ps:List PairL}(h:PRd w B A n cap ps)(hb:Below B w w'):PRd w' B A n cap ps:=h.keep fun p hp=>hb.cell hp
theorem PRd.nilR (w:World)(B:Nat):PRd w B none 0 0 []:=⟨rfl,Nat.le_refl _,Nat.zero_le _,fun _=>rfl,fun h=>absurd h (by omega)⟩
theorem PRd.ofOwn {w:World}{base:Nat}{e:TypeId}{v:Value}{n:Nat}{ps:List PairL}(h:w.ownsRow base e 2 v n (cellsP ps)): ∃ A c,v= .slice A n c∧PRd w w.heap.size A n c ps:=by
 obtain⟨hl,h2|⟨g,cap,cur,hv,hg,hh,hn,hc,hs,ht⟩⟩:=h
 · obtain⟨hv,hn⟩:=h2
   subst hn
   rw[cellsP_length]at hl
   have:ps= []:=List.length_eq_zero_iff.1 (by omega)
   subst this
   exact⟨none,0,hv,PRd.nilR w _⟩
 · rw[cellsP_length]at hl
   refine⟨_,cap,hv,by omega,hn,hc,(fun e=>by cases e),fun _=>⟨g,0,rfl,lt_of hh,fun i p hp=> ?_⟩⟩
   have hi:i<ps.length:=(List.getElem?_eq_some_iff.1 hp).1
   have hcp:=cellsP_get ps i p hp
   rw[← ht,List.getElem?_take_of_lt (by omega),List.getElem?_take_of_lt (by omega)]at hcp
   rw[cell_of _ hh,cell_of _ hh,Nat.zero_add]
   simpa using hcp
theorem PRd.cell {w:World}{B n cap:Nat}{A:Option Addr}{ps:List PairL}{i:Nat}(h:PRd w B A n cap ps)(hi:i<n) :
 ∃ b o p,A=some ⟨b,o,none⟩∧b<B∧ps[i]? =some p∧w.cell? ⟨b,o+i*2,none⟩=some (.string ⟨p.1.toArray⟩)∧w.cell? ⟨b,o+i*2+1,none⟩=some (.string ⟨p.2.toArray⟩):=by
 obtain⟨b,o,e,hb,hc⟩:=h.at_ (by have:=h.le;omega)
 have hl:i<ps.length:=by rw[h.len];exact hi
 have hp:=List.getElem?_eq_getElem hl
 exact⟨b,o,ps[i],e,hb,hp,(hc i _ hp).1,(hc i _ hp).2⟩
theorem PRd.take {w:World}{B n cap:Nat}{A:Option Addr}{ps:List PairL}{k:Nat}(h:PRd w B A n cap ps)(hk:k≤n):PRd w B A k cap (ps.take k) :=
 ⟨by rw[List.length_take,h.len];omega,by have:=h.le;omega,h.fit,h.nil,fun h0=>by
   obtain⟨b,o,e,hb,hc⟩:=h.at_ h0
   exact⟨b,o,e,hb,fun i p hp=>hc i p (by rw[List.getElem?_take]at hp;split at hp
                                         · exact hp
                                         · cases hp)⟩⟩
theorem pre_take (p l:List UInt8):p.isPrefixOf l=(l.take p.length==p):=by
 rw[Bool.eq_iff_iff,List.isPrefixOf_iff_prefix,beq_iff_eq,List.prefix_iff_eq_take]
 exact eq_comm
theorem refAt8_c (A:Option Addr)(n cap:Nat)(l:List UInt8)(k:Nat)(p:List UInt8)(B:Nat)(w:World)(h:Byt w B A n cap l)(hp:p≠ [])(hm:n≤1000000)(hpl:p.length≤1000000)(hk:k≤2000000) :
 Calls Tryz.prog 28 #[.slice A n cap,.int .i64 k,.string ⟨p.toArray⟩] w fun e w'=>e= .returned (.bool (p.isPrefixOf (l.drop k)))∧w=w':=by
 have hk0:(0:Int)≤(k:Int):=by omega
 have hk1:(k:Int)≤2000000:=by omega
 have hn1:(n:Int)≤1000000:=by omega
 have hp1:(p.length:Int)≤1000000:=by omega
 by_cases hkp:k+p.length≤n
 · have hle:(p.length:Int)≤(n:Int) - (k:Int):=by omega
   have hcap:=h.le
   have hst:=((h.drop (k:=k) (by omega)).take (k:=p.length) (by omega)).str
   have hrf: ∀ w2:World,(Instr.slice 29 (.slice A n cap) (some (.int .i64 (k:Int))) (some (.int .i64 ((k:Int)+(p.length:Int)))) none).run Tryz.prog w2= .ok (.slice (cutA A cap k) p.length (cap - k)) w2:=fun w2=>by
    have:=run_fromTo (w:=w2) A n cap k (k+p.length) (by omega) (by omega)
    rw[show k+p.length - k=p.length by omega,show((k+p.length:Nat):Int)=(k:Int)+(p.length:Int)by omega]at this
    exact this
   have HE:Hid (p.isPrefixOf (l.drop k)=((l.drop k).take p.length==p)):=Hd (pre_take _ _)
   clear hcap h hp hkp
   generalize (l.drop k).take p.length=q at *
   generalize p.isPrefixOf (l.drop k)=r at *
   go_enter Tryz.func28,Tryz.ntmps28
   go_wp2
   go_ret
   rw[HE.out]
   exact⟨rfl,rfl⟩
 · have hle: ¬ (p.length:Int)≤(n:Int) - (k:Int):=by omega
   have HE:Hid (p.isPrefixOf (l.drop k)=false):=Hd (by
    refine Classical.byContradiction fun hc=> ?_
    have:=pre_len (l:=l) (k:=k) (p:=p) (by simpa using hc)
    rw[h.length]at this
    rcases this with h'|h'
    · exact hp h'
    · exact hkp h')
   rw[HE.out]
   clear HE h hp hkp
   go_enter Tryz.func28,Tryz.ntmps28
   go_wp2
   go_ret
   exact⟨rfl,rfl⟩
theorem refFind_c (A:Option Addr)(n cap:Nat)(l:List UInt8)(k:Nat)(p:List UInt8)(B:Nat)(w:World)(h:Byt w B A n cap l)(hp:p≠ [])(hm:n≤1000000)(hpl:p.length≤1000000)(hk:k≤n) :
 Calls Tryz.prog 36 #[.slice A n cap,.int .i64 k,.string ⟨p.toArray⟩] w fun e w'=>e= .returned (.int .i64 (findI l k p))∧w=w':=by
 have hn1:(n:Int)≤1000000:=by omega
 have hn0:(0:Int)≤(n:Int):=by omega
 have CA:Hid (∀ t:Nat,t≤n→Calls Tryz.prog 28 #[.slice A n cap,.int .i64 t,.string ⟨p.toArray⟩] w fun e w'=>e= .returned (.bool (p.isPrefixOf (l.drop t)))∧w=w'):=Hd fun t ht=>refAt8_c A n cap l t p B w h hp hm hpl (by omega)
 have hln:=Hd h.length
 have HK:=Hd hk
 clear h hp hpl
 go_enter Tryz.func36,Tryz.ntmps36
 go_wp2
 go_loopg [7] (n+1 - k) (fun g i wr=> ∃ t:Nat,t≤n+1∧Hid (g+t=n+1)∧i= .int .i64 (t:Int)∧w=wr∧Hid (k≤t∧ ∀ j,k≤j→j<t→p.isPrefixOf (l.drop j)=false))
 case atStart=>exact⟨k,by omega,Hd (by omega),rfl,rfl,Hd ⟨Nat.le_refl _,fun j h1 h2=>absurd h1 (by omega)⟩⟩
 case round =>
  obtain⟨t,ht,hg,rfl,rfl,HN⟩:=hrel
  have ht0:(0:Int)≤(t:Int):=by omega
  have htb:(t:Int)≤1000001:=by omega
  by_cases htn:t≤n
  · have htni:(t:Int)≤(n:Int):=by omega
    have CT:=Hd (CA.out t htn)
    cases hpt:p.isPrefixOf (l.drop t)with
    |true =>
     rw[hpt]at CT
     have HE:Hid (findI l k p=(t:Int)):=Hd (findI_hit l p k t HN.out.1 (by rw[hln.out];exact htn) hpt HN.out.2)
     clear hpt
     go_wp2_with fail
     refine(CT.out).mono ?_
     rintro e wq ⟨rfl,rfl⟩
     go_wp2
     go_ret
     exact⟨by rw[HE.out];rfl,rfl⟩
    |false =>
     rw[hpt]at CT
     have HN2:Hid (k≤t+1∧ ∀ j,k≤j→j<t+1→p.isPrefixOf (l.drop j)=false):=Hd ⟨by have:=HN.out.1;omega,fun j h1 h2=>by
      rcases(show j<t∨j=t by omega)with h'|rfl
      · exact HN.out.2 j h1 h'
      · exact hpt⟩
     clear hpt
     go_wp2_with fail
     refine(CT.out).mono ?_
     rintro e wq ⟨rfl,rfl⟩
     go_wp2
     go_roundg (n+1 - (t+1))
     case measure=>have:=hg.out;omega
     case rel=>exact⟨t+1,by omega,Hd (by omega),by go_num,rfl,HN2⟩
  · have htni: ¬ (t:Int)≤(n:Int):=by omega
    have HE:Hid (findI l k p= -1):=Hd (findI_none l p k (by rw[hln.out];exact HK.out) (fun j h1 h2=>HN.out.2 j h1 (by rw[hln.out]at h2;omega)))
    go_wp2
    go_ret
    exact⟨by rw[HE.out];rfl,rfl⟩
theorem results_tmp4 {fn:Func}{t u v x:Tmp}(h:fn.results= #[.tmp t,.tmp u,.tmp v,.tmp x])(tmps:Array Value)(P:Program)(w:World) :
 (results fn tmps).run P w= .ok (.tuple #[tmps.getD t undef,tmps.getD u undef,tmps.getD v undef,tmps.getD x undef]) w:=by
 simp[results,h]
def resB (s:List UInt8):Bool:=Lib.equalFold s [120,109,108]
def out4V (o:List UInt8 × List UInt8 × Nat × Nat):Value:= .tuple #[.string ⟨o.1.toArray⟩,.string ⟨o.2.1.toArray⟩,.int .i64 (o.2.2.1:Int),.int .i64 (o.2.2.2:Int)]
def piRest (l:List UInt8)(p:List UInt8 × Nat × Nat):List UInt8 × List UInt8 × Nat × Nat :=
 if p.2.2≠0 then ([],[],0,p.2.2) else if resB p.1=true then ([],[],0,7) else
 if findI l (blankTo l p.2.1) [63,62]<0∨(blankTo l p.2.1=p.2.1∧findI l (blankTo l p.2.1) [63,62]≠p.2.1) then ([],[],0,7) else
 (p.1,(l.drop (blankTo l p.2.1)).take ((findI l (blankTo l p.2.1) [63,62]).toNat - blankTo l p.2.1),(findI l (blankTo l p.2.1) [63,62]).toNat+2,0)
def piOut (l:List UInt8)(k:Nat):List UInt8 × List UInt8 × Nat × Nat :=
 if [60,63].isPrefixOf (l.drop k)=false then ([],[],0,7) else piRest l (plainOut l (k+2))
def piAt (l:List UInt8)(at_:Int):List UInt8 × List UInt8 × Nat × Nat:=if at_<0∨(l.length:Int)<at_ then ([],[],0,3) else piOut l at_.toNat
theorem piRest_err (l:List UInt8)(s:List UInt8)(t e:Nat)(h:e≠0):piRest l (s,t,e)=([],[],0,e):=by unfold piRest;rw[if_pos h]
theorem piRest_res (l:List UInt8)(s:List UInt8)(t:Nat)(h:resB s=true):piRest l (s,t,0)=([],[],0,7):=by unfold piRest;rw[if_neg (by simp),if_pos h]
theorem piRest_no (l:List UInt8)(s:List UInt8)(t f:Nat)(h:resB s=false)(hf:blankTo l t=f)(hn:findI l f [63,62]<0):piRest l (s,t,0)=([],[],0,7):=by
 subst hf
 unfold piRest
 rw[if_neg (by simp),if_neg (by rw[h];simp),if_pos (.inl hn)]
theorem piRest_tight (l:List UInt8)(s:List UInt8)(t i:Nat)(h:resB s=false)(hf:blankTo l t=t)(hn:findI l t [63,62]=i)(hi:i≠t):piRest l (s,t,0)=([],[],0,7):=by
 unfold piRest
 simp only[hf]
 rw[if_neg (by simp),if_neg (by rw[h];simp),if_pos (.inr ⟨trivial,by omega⟩)]
theorem piRest_yes (l:List UInt8)(s:List UInt8)(t f i:Nat)(h:resB s=false)(hf:blankTo l t=f)(hn:findI l f [63,62]=i)(hi:f=t→i=t):piRest l (s,t,0)=(s,(l.drop f).take (i - f),i+2,0):=by
 subst hf
 unfold piRest
 rw[if_neg (by simp),if_neg (by rw[h];simp),hn,if_neg,Int.toNat_natCast]
 rintro(h'|⟨h1,h2⟩)
 · omega
 · exact h2 (by rw[hi h1])
theorem refPi_range (A:Option Addr)(n cap:Nat)(at_:Int)(w:World)(ha:at_<0∨(n:Int)<at_) :
 Calls Tryz.prog 31 #[.slice A n cap,.int .i64 at_] w fun e w'=>e= .returned (out4V ([],[],0,3))∧Below w.heap.size w w':=by
 by_cases h0:at_<0
 · have hd:decide (at_<0)=true:=by simpa using h0
   clear ha
   go_enter Tryz.func31,Tryz.ntmps31
   go_wp2
   (try simp only[Exit.inBlock,Exit.then])
   refine bodyPost_ret (results_tmp4 rfl _ _ _) rfl ?_
   exact⟨rfl,Below.refl _ _⟩
 · have h1:(n:Int)<at_:=by omega
   clear ha
   go_enter Tryz.func31,Tryz.ntmps31
   go_wp2
   (try simp only[Exit.inBlock,Exit.then])
   refine bodyPost_ret (results_tmp4 rfl _ _ _) rfl ?_
   exact⟨rfl,Below.refl _ _⟩
def ResC (fn:Nat)(w:World)(s:List UInt8):Prop:= ∀ W,Below w.heap.size w W→Calls Tryz.prog fn #[.string ⟨s.toArray⟩] W fun e w'=>e= .returned (.bool (resB s))∧Below W.heap.size W w'
theorem refPi_in (A:Option Addr)(n cap:Nat)(l:List UInt8)(k:Nat)(w:World)(h:Byt w w.heap.size A n cap l)(hm:n≤50000)(hk:k≤n)(hR:ResC 59 w (plainOut l (k+2)).1) :
 Calls Tryz.prog 31 #[.slice A n cap,.int .i64 k] w fun e w'=>e= .returned (out4V (piOut l k))∧Below w.heap.size w w':=by
 have hk': ¬ (n:Int)<(k:Int):=by omega
 have hk0:(0:Int)≤(k:Int):=by omega
 have hk1:(k:Int)≤50000:=by omega
 have c1:=refAt8_c A n cap l k [60,63] _ w h (by simp) (by omega) (by simp) (by omega)
 have hln:=h.length
 by_cases hp: [60,63].isPrefixOf (l.drop k)=true
 · have hkl:k+2≤n:=by have:=pre_len hp;simp at this;omega
   have c2:=refRead_c A n cap l (k+2) w h hm hkl
   rw[show ((k+2:Nat):Int)=(k:Int)+2 by omega]at c2
   rw[hp]at c1
   have C1:=Hd c1
   have HO:Hid (piOut l k=piRest l (plainOut l (k+2))):=Hd (by unfold piOut;rw[if_neg (by rw[hp];simp)])
   rw[HO.out]
   have hle:=plainOut_le l (k+2) (by omega)
   clear c1 HO hp
   generalize plainOut l (k+2)=po at *
   obtain⟨s,t,f⟩:=po
   unfold outV at c2
   simp only at c2 hle hR
   have C2:=Hd c2
   have HR:=Hd hR
   clear c2 hR
   by_cases hf:f=0
   · subst hf
     have htl:=hle rfl
     clear hle
     have CB:Hid (∀ W,Below w.heap.size w W→Calls Tryz.prog 60 #[.slice A n cap,.int .i64 t] W fun e w'=>e= .returned (.int .i64 (blankTo l t))∧W=w'):=Hd fun W hb=>refBlanks_c A n cap l t _ W (h.below hb) (by omega) (by omega)
     have hbt:=blankTo_le l t (by omega)
     have CF:Hid (∀ W,Below w.heap.size w W→Calls Tryz.prog 36 #[.slice A n cap,.int .i64 (blankTo l t),.string ⟨#[63,62]⟩] W fun e w'=>e= .returned (.int .i64 (findI l (blankTo l t) [63,62]))∧W=w'):=Hd fun W hb=>refFind_c A n cap l (blankTo l t) [63,62] _ W (h.below hb) (by simp) (by omega) (by simp) (by omega)
     have hsp:=findI_spec l [63,62] (blankTo l t) (by omega)
     have HH:=Hd h
     have hcap:=h.le
     cases hrs:resB s with
     |true =>
      rw[piRest_res l s t hrs]
      unfold ResC at HR
      rw[hrs]at HR
      clear h hln hrs hsp hbt
      go_enter Tryz.func31,Tryz.ntmps31
      go_wp2_with fail
      refine(C1.out).mono ?_
      rintro e wq ⟨rfl,rfl⟩
      go_wp2_with fail
      refine(C2.out).mono ?_
      rintro e w1 ⟨rfl,hb⟩
      have B1:=Hd hb
      clear hb
      go_wp2_with fail
      refine(HR.out _ B1.out).mono ?_
      rintro e w2 ⟨rfl,hb⟩
      have B2:=Hd (B1.out.trans (hb.mono B1.out.size))
      clear hb
      go_wp2
      (try simp only[Exit.inBlock,Exit.then])
      refine bodyPost_ret (results_tmp4 rfl _ _ _) rfl ?_
      exact⟨rfl,B2.out⟩
     |false =>
      unfold ResC at HR
      rw[hrs]at HR
      have HRS:=Hd hrs
      clear hrs
      rcases hsp with ⟨hf,_⟩|⟨i,hf,hki,hil,hpre,_⟩
      · rw[piRest_no l s t _ HRS.out rfl (by rw[hf];omega)]
        rw[hf]at CF
        clear h hln hf hbt
        generalize blankTo l t=b at *
        go_enter Tryz.func31,Tryz.ntmps31
        go_wp2_with fail
        refine(C1.out).mono ?_
        rintro e wq ⟨rfl,rfl⟩
        go_wp2_with fail
        refine(C2.out).mono ?_
        rintro e w1 ⟨rfl,hb⟩
        have B1:=Hd hb
        clear hb
        go_wp2_with fail
        refine(HR.out _ B1.out).mono ?_
        rintro e w2 ⟨rfl,hb⟩
        have B2:=Hd (B1.out.trans (hb.mono B1.out.size))
        clear hb
        go_wp2_with fail
        refine(CB.out _ B2.out).mono ?_
        rintro e wq ⟨rfl,rfl⟩
        go_wp2_with fail
        refine(CF.out _ B2.out).mono ?_
        rintro e wq ⟨rfl,rfl⟩
        go_wp2
        (try simp only[Exit.inBlock,Exit.then])
        refine bodyPost_ret (results_tmp4 rfl _ _ _) rfl ?_
        exact⟨rfl,B2.out⟩
      · simp at hil
        rw[hf]at CF
        have hi0: ¬ (i:Int)<0:=by omega
        have hi1:(i:Int)≤50000:=by omega
        have ht1:(t:Int)≤50000:=by omega
        by_cases hbe:blankTo l t=t
        · rw[hbe]at CF CB hf hki
          by_cases hit:i=t
          · subst hit
            rw[piRest_yes l s i i i HRS.out hbe hf (fun _=>rfl)]
            have HST:Hid (∀ W,Below w.heap.size w W→(convert 29 9 (.slice (cutA A cap i) (i - i) (cap - i))).run Tryz.prog W= .ok (.string ⟨((l.drop i).take (i - i)).toArray⟩) W):=Hd fun W hb=>(((h.below hb).drop (k:=i) (by omega)).take (k:=i - i) (by omega)).str
            have hrf: ∀ w2:World,(Instr.slice 29 (.slice A n cap) (some (.int .i64 (i:Int))) (some (.int .i64 (i:Int))) none).run Tryz.prog w2= .ok (.slice (cutA A cap i) (i - i) (cap - i)) w2:=fun w2=>run_fromTo (w:=w2) A n cap i i (by omega) (by omega)
            clear h hln hf hbt hbe hki hpre hil hcap
            generalize (l.drop i).take (i - i)=T at *
            generalize i - i=ii at *
            go_enter Tryz.func31,Tryz.ntmps31
            go_wp2_with fail
            refine(C1.out).mono ?_
            rintro e wq ⟨rfl,rfl⟩
            go_wp2_with fail
            refine(C2.out).mono ?_
            rintro e w1 ⟨rfl,hb⟩
            have B1:=Hd hb
            clear hb
            go_wp2_with fail
            refine(HR.out _ B1.out).mono ?_
            rintro e w2 ⟨rfl,hb⟩
            have B2:=Hd (B1.out.trans (hb.mono B1.out.size))
            clear hb
            go_wp2_with fail
            refine(CB.out _ B2.out).mono ?_
            rintro e wq ⟨rfl,rfl⟩
            go_wp2_with fail
            refine(CF.out _ B2.out).mono ?_
            rintro e wq ⟨rfl,rfl⟩
            have hst: ∀ m,(convert 29 9 (.slice (cutA A cap i) ii (cap - i))).run Tryz.prog (w2.drewN m)= .ok (.string ⟨T.toArray⟩) (w2.drewN m):=fun m=>HST.out _ (below_drewN' B2.out)
            go_wp2
            go_quiet (fail)
            have B3:=Hd (below_drewN' (n:=nq) B2.out)
            clear hst
            generalize w2.drewN nq=w3 at *
            go_wp2
            (try simp only[Exit.inBlock,Exit.then])
            refine bodyPost_ret (results_tmp4 rfl _ _ _) rfl ?_
            exact⟨rfl,B3.out⟩
          · have hitb:((i:Int) != (t:Int))=true:=by simp;omega
            rw[piRest_tight l s t i HRS.out hbe hf hit]
            clear h hln hf hbt hbe hki hpre hil hcap hit
            go_enter Tryz.func31,Tryz.ntmps31
            go_wp2_with fail
            refine(C1.out).mono ?_
            rintro e wq ⟨rfl,rfl⟩
            go_wp2_with fail
            refine(C2.out).mono ?_
            rintro e w1 ⟨rfl,hb⟩
            have B1:=Hd hb
            clear hb
            go_wp2_with fail
            refine(HR.out _ B1.out).mono ?_
            rintro e w2 ⟨rfl,hb⟩
            have B2:=Hd (B1.out.trans (hb.mono B1.out.size))
            clear hb
            go_wp2_with fail
            refine(CB.out _ B2.out).mono ?_
            rintro e wq ⟨rfl,rfl⟩
            go_wp2_with fail
            refine(CF.out _ B2.out).mono ?_
            rintro e wq ⟨rfl,rfl⟩
            go_wp2
            (try simp only[Exit.inBlock,Exit.then])
            refine bodyPost_ret (results_tmp4 rfl _ _ _) rfl ?_
            exact⟨rfl,B2.out⟩
        · rw[piRest_yes l s t _ i HRS.out rfl hf (fun e=>absurd e hbe)]
          have hbne:((blankTo l t:Int)==(t:Int))=false:=by simp;omega
          have HST:Hid (∀ W,Below w.heap.size w W→(convert 29 9 (.slice (cutA A cap (blankTo l t)) (i - blankTo l t) (cap - blankTo l t))).run Tryz.prog W= .ok (.string ⟨((l.drop (blankTo l t)).take (i - blankTo l t)).toArray⟩) W):=Hd fun W hb=>(((h.below hb).drop (k:=blankTo l t) (by omega)).take (k:=i - blankTo l t) (by omega)).str
          have hrf: ∀ w2:World,(Instr.slice 29 (.slice A n cap) (some (.int .i64 (blankTo l t:Int))) (some (.int .i64 (i:Int))) none).run Tryz.prog w2= .ok (.slice (cutA A cap (blankTo l t)) (i - blankTo l t) (cap - blankTo l t)) w2:=fun w2=>run_fromTo (w:=w2) A n cap (blankTo l t) i (by omega) (by omega)
          clear h hln hf hbt hbe hki hpre hil hcap
          generalize (l.drop (blankTo l t)).take (i - blankTo l t)=T at *
          generalize i - blankTo l t=ii at *
          generalize blankTo l t=b at *
          go_enter Tryz.func31,Tryz.ntmps31
          go_wp2_with fail
          refine(C1.out).mono ?_
          rintro e wq ⟨rfl,rfl⟩
          go_wp2_with fail
          refine(C2.out).mono ?_
          rintro e w1 ⟨rfl,hb⟩
          have B1:=Hd hb
          clear hb
          go_wp2_with fail
          refine(HR.out _ B1.out).mono ?_
          rintro e w2 ⟨rfl,hb⟩
          have B2:=Hd (B1.out.trans (hb.mono B1.out.size))
          clear hb
          go_wp2_with fail
          refine(CB.out _ B2.out).mono ?_
          rintro e wq ⟨rfl,rfl⟩
          go_wp2_with fail
          refine(CF.out _ B2.out).mono ?_
          rintro e wq ⟨rfl,rfl⟩
          have hst: ∀ m,(convert 29 9 (.slice (cutA A cap b) ii (cap - b))).run Tryz.prog (w2.drewN m)= .ok (.string ⟨T.toArray⟩) (w2.drewN m):=fun m=>HST.out _ (below_drewN' B2.out)
          go_wp2
          go_quiet (fail)
          have B3:=Hd (below_drewN' (n:=nq) B2.out)
          clear hst
          generalize w2.drewN nq=w3 at *
          go_wp2
          (try simp only[Exit.inBlock,Exit.then])
          refine bodyPost_ret (results_tmp4 rfl _ _ _) rfl ?_
          exact⟨rfl,B3.out⟩
   · have hfz:((f:Int) != 0)=true:=by simp;omega
     rw[piRest_err l s t f hf]
     clear h hln hf hle HR
     go_enter Tryz.func31,Tryz.ntmps31
     go_wp2_with fail
     refine(C1.out).mono ?_
     rintro e wq ⟨rfl,rfl⟩
     go_wp2_with fail
     refine(C2.out).mono ?_
     rintro e w1 ⟨rfl,hb⟩
     have B1:=Hd hb
     clear hb
     go_wp2
     (try simp only[Exit.inBlock,Exit.then])
     refine bodyPost_ret (results_tmp4 rfl _ _ _) rfl ?_
     exact⟨rfl,B1.out⟩
 · have hp':=bfalse hp
   rw[hp']at c1
   have C1:=Hd c1
   have HO:Hid (piOut l k=([],[],0,7)):=Hd (by unfold piOut;rw[if_pos hp'])
   rw[HO.out]
   clear c1 h hp hp' hln HO hR
   go_enter Tryz.func31,Tryz.ntmps31
   go_wp2_with fail
   refine(C1.out).mono ?_
   rintro e wq ⟨rfl,rfl⟩
   go_wp2
   (try simp only[Exit.inBlock,Exit.then])
   refine bodyPost_ret (results_tmp4 rfl _ _ _) rfl ?_
   exact⟨rfl,Below.refl _ _⟩
end Go.Proofs.YtbafljibbabnaaaGreatDoor
