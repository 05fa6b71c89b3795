/- Texts of ours, joined: TokP, Tag1, Tag2, Tag3. -/
import Derived.Test.YtbafljibbabnaaaGreatDoorQ27
namespace Go.Proofs.YtbafljibbabnaaaGreatDoor
open Go.ChangeShapes Go.WideShapes Go.ChangeAt Go.RowKit
set_option linter.unusedVariables false
set_option maxRecDepth 100000
set_option maxHeartbeats 32000000
structure TokL where
 kind:Int
 fro:Int
 to_:Int
 name:List UInt8
 text:List UInt8
 pairs:List PairL
 r:Int
def noTok:TokL:=⟨0,0,0,[],[],[],0⟩
def inTx (c:UInt8):Bool:= !(decide (c=60) || decide (c=38))
def txt (l:List UInt8):List UInt8:=l.takeWhile inTx
def textTok (l:List UInt8)(k:Nat):TokL × Nat:=if Lib.contains (txt (l.drop k)) [93,93,62]=true then (noTok,7) else (⟨1,0,((k+(txt (l.drop k)).length:Nat):Int),[],txt (l.drop k),[],0⟩,0)
def readTok (l:List UInt8)(k:Nat):TokL × Nat :=
 if [60,33,45,45].isPrefixOf (l.drop k)=true then (⟨5,0,((commentOut l k).2.1:Int),[],(commentOut l k).1,[],0⟩,(commentOut l k).2.2)
 else if [60,33,91,67,68,65,84,65,91].isPrefixOf (l.drop k)=true then (⟨4,0,((cdataOut l k).2.1:Int),[],(cdataOut l k).1,[],0⟩,(cdataOut l k).2.2)
 else if [60,63].isPrefixOf (l.drop k)=true then (⟨6,0,((piOut l k).2.2.1:Int),(piOut l k).1,(piOut l k).2.1,[],0⟩,(piOut l k).2.2.2)
 else if [60,47].isPrefixOf (l.drop k)=true then (⟨9,0,((closeOut l k).2.1:Int),(closeOut l k).1,[],[],0⟩,(closeOut l k).2.2)
 else if [60].isPrefixOf (l.drop k)=true then (⟨if (openOut l k).1.empty=true then 8 else 7,0,((openOut l k).2.1:Int),(openOut l k).1.name,[],(openOut l k).1.pairs,0⟩,(openOut l k).2.2)
 else if [38,35].isPrefixOf (l.drop k)=true then (⟨2,0,((charOut l k).2.1:Int),[],[],[],(charOut l k).1⟩,(charOut l k).2.2)
 else if [38].isPrefixOf (l.drop k)=true then (⟨3,0,((refOut 38 l k).2.1:Int),(refOut 38 l k).1,[],[],0⟩,(refOut 38 l k).2.2)
 else textTok l k
def nextOut (l:List UInt8)(k:Nat):TokL × Nat:=if (readTok l k).2=0 then ({ (readTok l k).1 with fro:=(k:Int) },0) else (noTok,(readTok l k).2)
def nextAt (l:List UInt8)(at_:Int):TokL × Nat:=if at_<0∨(l.length:Int)<at_ then (noTok,3) else if at_=(l.length:Int) then (noTok,4) else nextOut l at_.toNat
theorem plain_ok (l:List UInt8)(k:Nat)(hk:k≤l.length)(h:(plainOut l k).2.2=0):k<(plainOut l k).2.1∧(plainOut l k).2.1≤l.length:=by
 have hle:=endL_le l.length (noColon isStart) (noColon isMore) (l.drop k)
 rw[List.length_drop]at hle
 unfold plainOut at h ⊢
 simp only at h ⊢
 split
 · rename_i h0;rw[if_pos h0]at h;cases h
 · rename_i h0
   rw[if_neg h0]at h
   split
   · rename_i h1;rw[if_pos h1]at h;cases h
   · exact⟨by simp only;omega,by simp only;omega⟩
theorem comment_ok (l:List UInt8)(k:Nat)(h:(commentOut l k).2.2=0):k<(commentOut l k).2.1∧(commentOut l k).2.1≤l.length:=by
 unfold commentOut at h ⊢
 split
 · rename_i h1;rw[if_pos h1]at h;cases h
 · rename_i h1
   rw[if_neg h1]at h
   split
   · rename_i h2;rw[if_pos h2]at h;cases h
   · rename_i h2
     rw[if_neg h2]at h
     split
     · rename_i h3
       have hk:k+4≤l.length:=by
        have h1': [60,33,45,45].isPrefixOf (l.drop k)=true:=by simpa using h1
        rcases pre_len h1' with e|e
        · cases e
        · simpa using e
       rcases findI_spec l [45,45] (k+4) hk with ⟨h',_⟩|⟨i,h',hki,_,_,_⟩
       · omega
       · rw[h']at h3 ⊢
         rw[Int.toNat_natCast]at h3 ⊢
         rcases pre_len h3 with e|e
         · cases e
         · simp only[List.length_cons,List.length_nil]at e
           exact⟨by show k<i+3;omega,e⟩
     · rename_i h3;rw[if_neg h3]at h;cases h
theorem cdata_ok (l:List UInt8)(k:Nat)(h:(cdataOut l k).2.2=0):k<(cdataOut l k).2.1∧(cdataOut l k).2.1≤l.length:=by
 unfold cdataOut at h ⊢
 split
 · rename_i h1;rw[if_pos h1]at h;cases h
 · rename_i h1
   rw[if_neg h1]at h
   split
   · rename_i h2;rw[if_pos h2]at h;cases h
   · rename_i h2
     have hk:k+9≤l.length:=by
      have h1': [60,33,91,67,68,65,84,65,91].isPrefixOf (l.drop k)=true:=by simpa using h1
      rcases pre_len h1' with e|e
      · cases e
      · simpa using e
     rcases findI_spec l [93,93,62] (k+9) hk with ⟨h',_⟩|⟨i,h',hki,hil,_,_⟩
     · omega
     · rw[h',Int.toNat_natCast]
       exact⟨by show k<i+3;omega,by simpa using hil⟩
theorem pi_ok (l:List UInt8)(k:Nat)(hk:k≤l.length)(h:(piOut l k).2.2.2=0):k<(piOut l k).2.2.1∧(piOut l k).2.2.1≤l.length:=by
 unfold piOut at h ⊢
 split
 · rename_i h1;rw[if_pos h1]at h;cases h
 · rename_i h1
   rw[if_neg h1]at h
   have hk2:k+2≤l.length:=by
    have h1': [60,63].isPrefixOf (l.drop k)=true:=by simpa using h1
    rcases pre_len h1' with e|e
    · cases e
    · simpa using e
   unfold piRest at h ⊢
   split
   · rename_i h2;rw[if_pos h2]at h;exact absurd h h2
   · rename_i h2
     rw[if_neg h2]at h
     split
     · rename_i h3;rw[if_pos h3]at h;cases h
     · rename_i h3
       rw[if_neg h3]at h
       split
       · rename_i h4;rw[if_pos h4]at h;cases h
       · rename_i h4
         have hp:=plain_ok l (k+2) hk2 (by simpa using h2)
         have hb:=blankTo_le l _ hp.2
         rcases findI_spec l [63,62] (blankTo l (plainOut l (k+2)).2.1) hb.2 with ⟨h',_⟩|⟨i,h',hki,hil,_,_⟩
         · omega
         · rw[h',Int.toNat_natCast]
           exact⟨by show k<i+2;omega,by simpa using hil⟩
theorem close_ok (l:List UInt8)(k:Nat)(h:(closeOut l k).2.2=0):k<(closeOut l k).2.1∧(closeOut l k).2.1≤l.length:=by
 unfold closeOut at h ⊢
 split
 · rename_i h1
   rw[if_pos h1]at h
   have hk:k+2≤l.length:=by
    rcases pre_len h1 with e|e
    · cases e
    · simpa using e
   split
   · rename_i h2;rw[if_pos h2]at h;exact absurd h h2
   · rename_i h2
     rw[if_neg h2]at h
     have hn:=nameOut_ok l (k+2) hk (by simpa using h2)
     split
     · rename_i h3
       have hb:=blankTo_le l _ hn.2.1
       rcases pre_len h3 with e|e
       · cases e
       · simp only[List.length_cons,List.length_nil]at e
         exact⟨by show k<blankTo l _+1;omega,e⟩
     · rename_i h3;rw[if_neg h3]at h;cases h
 · rename_i h1;rw[if_neg h1]at h;cases h
theorem pairsR_ge (l:List UInt8): ∀ (f:Nat) (acc:List PairL) (t:Nat),t≤l.length→l.length+1≤f+t→(pairsR l f acc t).2.2=0→t≤(pairsR l f acc t).2.1
 |0,acc,t,ht,hf,_=>by omega
 |f+1,acc,t,ht,hf,h=>by
  cases hs:stopB l (blankTo l t) t with
  |true=>rw [pairs_stop hs];exact Nat.le_refl _
  |false =>
   by_cases he:(pairOut l (blankTo l t)).2.2=0
   · cases hh:hasN acc (pairOut l (blankTo l t)).1.1 with
     |true=>rw [pairs_twice hs he hh]at h;cases h
     |false =>
      rw[pairs_more hs he hh]at h ⊢
      have hb:=blankTo_le l t ht
      have hp:=pairOut_ok l (blankTo l t) hb.2 he
      have:=pairsR_ge l f (acc++ [(pairOut l (blankTo l t)).1]) (pairOut l (blankTo l t)).2.1 hp.2.1 (by omega) h
      omega
   · rw[pairs_bad hs rfl he]at h
     exact absurd h he
theorem open_ok (l:List UInt8)(k:Nat)(h:(openOut l k).2.2=0):k<(openOut l k).2.1∧(openOut l k).2.1≤l.length:=by
 unfold openOut at h ⊢
 split
 · rename_i h1
   rw[if_pos h1]at h
   have hk:k+1≤l.length:=(List.getElem?_eq_some_iff.1 h1).1
   split
   · rename_i h2;rw[if_pos h2]at h;exact absurd h h2
   · rename_i h2
     rw[if_neg h2]at h
     have hn:=nameOut_ok l (k+1) hk (by simpa using h2)
     split
     · rename_i h3;rw[if_pos h3]at h;exact absurd h h3
     · rename_i h3
       rw[if_neg h3]at h
       have hp1:=pairsOut_le l _ hn.2.1
       have hp2:=pairsR_ge l (l.length+1) [] _ hn.2.1 (by omega) (by simpa [pairsOut] using h3)
       have hp3:(nameOut l (k+1)).2.1≤(pairsOut l (nameOut l (k+1)).2.1).2.1:=hp2
       have hb:=blankTo_le l _ hp1
       split
       · rename_i h4
         rcases pre_len h4 with e|e
         · cases e
         · simp only[List.length_cons,List.length_nil]at e
           exact⟨by show k<blankTo l _+2;omega,e⟩
       · rename_i h4
         rw[if_neg h4]at h
         split
         · rename_i h5
           rcases pre_len h5 with e|e
           · cases e
           · simp only[List.length_cons,List.length_nil]at e
             exact⟨by show k<blankTo l _+1;omega,e⟩
         · rename_i h5;rw[if_neg h5]at h;cases h
 · rename_i h1;rw[if_neg h1]at h;cases h
theorem charBody_ok (b cap:Int)(l:List UInt8)(k:Nat)(h:(charBody b cap l k).2.2=0):k<(charBody b cap l k).2.1∧(charBody b cap l k).2.1≤l.length:=by
 unfold charBody at h ⊢
 simp only at h ⊢
 split
 · rename_i h1;rw[if_pos h1]at h;cases h
 · rename_i h1
   rw[if_neg h1]at h
   split
   · rw[not_or]at h1
     have h2:l[k+(digs b (l.drop k)).length]? =some 59:=by simpa using h1.2
     have:=(List.getElem?_eq_some_iff.1 h2).1
     exact⟨by simp only;omega,by simp only;omega⟩
   · rename_i h2;rw[if_neg h2]at h;cases h
theorem char_ok (l:List UInt8)(k:Nat)(h:(charOut l k).2.2=0):k<(charOut l k).2.1∧(charOut l k).2.1≤l.length:=by
 unfold charOut at h ⊢
 split
 · rename_i h1
   rw[if_pos h1]at h
   split
   · rename_i h2
     rw[if_pos h2]at h
     have:=charBody_ok _ _ _ _ h
     omega
   · rename_i h2
     rw[if_neg h2]at h
     have:=charBody_ok _ _ _ _ h
     omega
 · rename_i h1;rw[if_neg h1]at h;cases h
theorem ref_ok (m:UInt8)(l:List UInt8)(k:Nat)(h:(refOut m l k).2.2=0):k<(refOut m l k).2.1∧(refOut m l k).2.1≤l.length:=by
 unfold refOut at h ⊢
 cases hc:l[k]? with
 |none=>rw [hc]at h;cases h
 |some c =>
  rw[hc]at h
  simp only at h ⊢
  have hk:=(List.getElem?_eq_some_iff.1 hc).1
  split
  · rename_i h1
    rw[if_pos h1]at h
    split
    · rename_i h2;rw[if_pos h2]at h;exact absurd h h2
    · rename_i h2
      rw[if_neg h2]at h
      have hp:=plain_ok l (k+1) hk (by simpa using h2)
      cases hd:l[(plainOut l (k+1)).2.1]? with
      |none=>rw [hd]at h;cases h
      |some d =>
       rw[hd]at h
       simp only at h ⊢
       have hl:=(List.getElem?_eq_some_iff.1 hd).1
       split
       · exact⟨by simp only;omega,by simp only;omega⟩
       · rename_i h3;rw[if_neg h3]at h;cases h
  · rename_i h1;rw[if_neg h1]at h;cases h
theorem txt_le (l:List UInt8):(txt l).length≤l.length:=(List.takeWhile_prefix (p:=inTx) (l:=l)).length_le
theorem txt_cons {c:UInt8}{t:List UInt8}(h:inTx c=true):txt (c :: t)=c :: txt t:=by simp[txt,h]
theorem txt_stop {c:UInt8}{t:List UInt8}(h:inTx c=false):txt (c :: t)= []:=by simp[txt,h]
theorem readTok_ok (l:List UInt8)(k:Nat)(hk:k<l.length)(h:(readTok l k).2=0): ∃ t:Nat,(readTok l k).1.to_=(t:Int)∧k<t∧t≤l.length:=by
 unfold readTok at h ⊢
 split
 · rename_i h1;rw[if_pos h1]at h;exact⟨_,rfl,comment_ok l k h⟩
 · rename_i h1
   rw[if_neg h1]at h
   split
   · rename_i h1;rw[if_pos h1]at h;exact⟨_,rfl,cdata_ok l k h⟩
   · rename_i h1
     rw[if_neg h1]at h
     split
     · rename_i h1;rw[if_pos h1]at h;exact⟨_,rfl,pi_ok l k (Nat.le_of_lt hk) h⟩
     · rename_i h1
       rw[if_neg h1]at h
       split
       · rename_i h1;rw[if_pos h1]at h;exact⟨_,rfl,close_ok l k h⟩
       · rename_i h1
         rw[if_neg h1]at h
         split
         · rename_i h1;rw[if_pos h1]at h;exact⟨_,rfl,open_ok l k h⟩
         · rename_i h60
           rw[if_neg h60]at h
           split
           · rename_i h1;rw[if_pos h1]at h;exact⟨_,rfl,char_ok l k h⟩
           · rename_i h1
             rw[if_neg h1]at h
             split
             · rename_i h1;rw[if_pos h1]at h;exact⟨_,rfl,ref_ok 38 l k h⟩
             · rename_i h38
               rw[if_neg h38]at h
               unfold textTok at h ⊢
               split
               · rename_i h1;rw[if_pos h1]at h;cases h
               · have hd:l.drop k=l[k] :: l.drop (k+1):=List.drop_eq_getElem_cons hk
                 have hin:inTx l[k]=true:=by
                  rw[pre_one,List.getElem?_eq_getElem hk]at h60 h38
                  have n60:l[k]≠60:=by simpa using h60
                  have n38:l[k]≠38:=by simpa using h38
                  simp[inTx,n60,n38]
                 have h1:0<(txt (l.drop k)).length:=by rw[hd,txt_cons hin];simp
                 have h2:=txt_le (l.drop k)
                 rw[List.length_drop]at h2
                 exact⟨_,rfl,by omega,by omega⟩
theorem nextOut_ok (l:List UInt8)(k:Nat)(hk:k<l.length)(h:(nextOut l k).2=0):(nextOut l k).1.fro=(k:Int)∧ ∃ t:Nat,(nextOut l k).1.to_=(t:Int)∧k<t∧t≤l.length:=by
 unfold nextOut at h ⊢
 split
 · rename_i h1;exact⟨rfl,readTok_ok l k hk h1⟩
 · rename_i h1;rw[if_neg h1]at h;exact absurd h h1
def allR (l:List UInt8):Nat→List TokL→Nat→List TokL × Nat × Nat
 |0,_,_=>([],0,0)
 |f+1,acc,t=>if t<l.length then (if (nextOut l t).2=0 then allR l f (acc++ [(nextOut l t).1]) (nextOut l t).1.to_.toNat else ([],t,(nextOut l t).2)) else (acc,t,0)
def allOutK (l:List UInt8):List TokL × Nat × Nat:=allR l (l.length+1) [] 0
theorem all_end {l:List UInt8}{f t:Nat}{acc:List TokL}(h: ¬ t<l.length):allR l (f+1) acc t=(acc,t,0):=by rw[allR,if_neg h]
theorem all_bad {l:List UInt8}{f t:Nat}{acc:List TokL}(h:t<l.length){e:Nat}(he:(nextOut l t).2=e)(h0:e≠0):allR l (f+1) acc t=([],t,e):=by
 rw[allR,if_pos h,if_neg (by rw[he];exact h0),he]
theorem all_more {l:List UInt8}{f t u:Nat}{acc:List TokL}{k:TokL}(h:t<l.length)(he:nextOut l t=(k,0))(hu:k.to_=(u:Int)):allR l (f+1) acc t=allR l f (acc++ [k]) u:=by
 rw[allR,if_pos h,if_pos (by rw[he]),he,hu,Int.toNat_natCast]
theorem pre_short (p l:List UInt8)(k:Nat):p.isPrefixOf ((l.drop k).take (min l.length (k+p.length) - k))=p.isPrefixOf (l.drop k):=by
 rw[Bool.eq_iff_iff,List.isPrefixOf_iff_prefix,List.isPrefixOf_iff_prefix]
 constructor
 · intro h;exact h.trans (List.take_prefix _ _)
 · intro h
   have hl:=h.length_le
   rw[List.length_drop]at hl
   by_cases hp:p= []
   · subst hp;exact List.nil_prefix
   · have:0<p.length:=List.length_pos_iff.2 hp
     rw[List.prefix_iff_eq_take]at h ⊢
     rw[List.take_take,show min p.length (min l.length (k+p.length) - k)=p.length by omega]
     exact h
theorem stands_c (A:Option Addr)(n cap:Nat)(l:List UInt8)(k:Nat)(p:List UInt8)(B:Nat)(w:World)(h:Byt w B A n cap l)(hm:n≤1000000)(hpl:p.length≤1000000)(hk:k≤n) :
 Calls Tryz.prog 82 #[.slice A n cap,.int .i64 k,.string ⟨p.toArray⟩] w fun e w'=>e= .returned (.bool (p.isPrefixOf (l.drop k)))∧w=w':=by
 have hk0:(0:Int)≤(k:Int):=by omega
 have hk1:(k:Int)≤1000000:=by omega
 have hn1:(n:Int)≤1000000:=by omega
 have hp1:(p.length:Int)≤1000000:=by omega
 have hcap:=h.le
 have hln:=h.length
 have HP:=Hd (pre_short p l k)
 rw[hln]at HP
 have hst:=((h.drop (k:=k) hk).take (k:=min n (k+p.length) - k) (by omega)).str
 have hx: ∀ W,Calls Tryz.prog 109 #[.string ⟨((l.drop k).take (min n (k+p.length) - k)).toArray⟩,.string ⟨p.toArray⟩] W fun e w'=>e= .returned (.bool (p.isPrefixOf ((l.drop k).take (min n (k+p.length) - k))))∧w'=W:=fun W=>Tryz.strings_HasPrefix ⟨((l.drop k).take (min n (k+p.length) - k)).toArray⟩ ⟨p.toArray⟩ W
 rw[HP.out]at hx
 have CX:=Hd hx
 by_cases hc:k+p.length<n
 · have hci:(k:Int)+(p.length:Int)<(n:Int):=by omega
   have hmi:min (n:Int) ((k:Int)+(p.length:Int))=(k:Int)+(p.length:Int):=by omega
   have hmn:min n (k+p.length) - k=p.length:=by omega
   rw[hmn]at hst CX
   have hrf: ∀ w2:World,(Instr.slice 29 (.slice A n cap) (some (.int .i64 (k:Int))) (some (.int .i64 ((k:Int)+(p.length:Int)))) none).run Tryz.prog w2= .ok (.slice (cutA A cap k) p.length (cap - k)) w2:=fun w2=>by
    have:=run_fromTo (w:=w2) A n cap k (k+p.length) (by omega) (by omega)
    rw[show k+p.length - k=p.length by omega,show((k+p.length:Nat):Int)=(k:Int)+(p.length:Int)by omega]at this
    exact this
   clear h hcap hln HP hx hc hmn
   generalize (l.drop k).take p.length=q at *
   generalize p.isPrefixOf (l.drop k)=r at *
   go_enter Tryz.func82,Tryz.ntmps82
   go_wp2_with fail
   refine(CX.out _).mono ?_
   rintro e wq ⟨rfl,hwq⟩
   subst hwq
   go_wp2
   go_ret
   exact⟨rfl,rfl⟩
 · have hci: ¬ (k:Int)+(p.length:Int)<(n:Int):=by omega
   have hmi:min (n:Int) ((k:Int)+(p.length:Int))=(n:Int):=by omega
   have hmn:min n (k+p.length) - k=n - k:=by omega
   rw[hmn]at hst CX
   have hrf: ∀ w2:World,(Instr.slice 29 (.slice A n cap) (some (.int .i64 (k:Int))) (some (.int .i64 (n:Int))) none).run Tryz.prog w2= .ok (.slice (cutA A cap k) (n - k) (cap - k)) w2:=fun w2=>run_fromTo (w:=w2) A n cap k n (by omega) (by omega)
   clear h hcap hln HP hx hmn
   generalize (l.drop k).take (n - k)=q at *
   generalize p.isPrefixOf (l.drop k)=r at *
   generalize n - k=m at *
   go_enter Tryz.func82,Tryz.ntmps82
   go_wp2_with fail
   refine(CX.out _).mono ?_
   rintro e wq ⟨rfl,hwq⟩
   subst hwq
   go_wp2
   go_ret
   exact⟨rfl,rfl⟩
structure W10 (w:World):Prop where
 tabs:Tabs w
 forms:Forms w
theorem W10.below {w w':World}(h:W10 w)(hb:Below w.heap.size w w'):W10 w':=⟨h.tabs.below hb (h.tabs.low h.forms),h.forms.below hb h.forms.lt⟩
def tpairV (o:PairL × Nat × Nat):Value:= .tuple #[.agg #[.string ⟨o.1.1.toArray⟩,.string ⟨o.1.2.toArray⟩],.int .i64 (o.2.1:Int),.int .i64 (o.2.2:Int)]
theorem tagPair_c (A:Option Addr)(n cap:Nat)(l:List UInt8)(k:Nat)(w:World)(h:Byt w w.heap.size A n cap l)(hW:W10 w)(hm:n≤40000)(hk:k≤n) :
 Calls Tryz.prog 140 #[.slice A n cap,.int .i64 k] w fun e w'=>e= .returned (tpairV (pairOut l k))∧Below w.heap.size w w':=by
 have hln:=h.length
 have hJ:=CJ.start 66 w #[.string ⟨#[]⟩,.string ⟨#[]⟩]
 have hi:(Tryz.prog.info? 66).map (·.size)=some 2:=by kernel_rfl
 obtain⟨d,hu⟩:=isStruct_of (P:=Tryz.prog) (t:=66) (by kernel_rfl)
 have HU:=Hd (And.intro hi hu)
 have HK:Hid (∀ W rs,CJ 66 w W rs→Byt W W.heap.size A n cap l∧W10 W):=Hd fun W rs hJ=>⟨(h.below hJ.1).more hJ.1.size,hW.below hJ.1⟩
 have c1:=name_c A n cap l k _ (HK.out _ _ hJ).1 (HK.out _ _ hJ).2.forms (HK.out _ _ hJ).2.tabs.n (by omega) hk
 have CB:Hid (∀ t,t≤n→ ∀ W rs,CJ 66 w W rs→Calls Tryz.prog 79 #[.slice A n cap,.int .i64 (t:Int)] W fun e w'=>e= .returned (.int .i64 (blankTo l t))∧W=w'):=Hd fun t ht W rs hb=>blanks_c A n cap l t _ W (HK.out W rs hb).1 (by omega) ht
 have CS:Hid (∀ t,t≤n→ ∀ W rs,CJ 66 w W rs→Calls Tryz.prog 82 #[.slice A n cap,.int .i64 (t:Int),.string ⟨#[61]⟩] W fun e w'=>e= .returned (.bool (decide (l[t]? =some 61)))∧W=w'):=Hd fun t ht W rs hb=>by
  have:=stands_c A n cap l t [61] _ W (HK.out W rs hb).1 (by omega) (by simp) ht
  rwa [pre_one]at this
 have CV:Hid (∀ t:Nat,∀ W rs,CJ 66 w W rs→Calls Tryz.prog 157 #[.slice A n cap,.int .i64 (t:Int)] W fun e w'=>e= .returned (outV (strictAt 60 l (t:Int)))∧Below W.heap.size W w'):=Hd fun t W rs hb=>litValue_c A n cap l t W (HK.out W rs hb).1 (HK.out W rs hb).2.tabs (HK.out W rs hb).2.forms hm
 have hok:=nameOut_ok l k (by omega)
 have J0:=Hd hJ
 clear hi hu hJ
 unfold pairOut
 generalize nameOut l k=m at *
 obtain⟨s,nx,e⟩:=m
 simp only at hok ⊢
 unfold outV at c1
 simp only at c1
 have C1:=Hd c1
 clear c1
 by_cases he:e=0
 · subst he
   obtain⟨h1,h2,h3⟩:=hok rfl
   rw[if_pos rfl]
   have c2:=CB.out nx (by omega)
   have hb:=blankTo_le l nx h2
   generalize blankTo l nx=b at *
   have c3:=CS.out b (by omega)
   have C2:=Hd c2
   clear c2
   by_cases h61:l[b]? =some 61
   · rw[if_pos h61]
     have hd:decide (l[b]? =some 61)=true:=by simpa using h61
     rw[hd]at c3
     have hlt:=(List.getElem?_eq_some_iff.1 h61).1
     have c4:=CB.out (b+1) (by omega)
     rw[show ((b+1:Nat):Int)=(b:Int)+1 by omega]at c4
     have C3:=Hd c3
     have C4:=Hd c4
     have C5:=Hd (CV.out (blankTo l (b+1)))
     have hb0:(0:Int)≤(b:Int):=by omega
     have hb1:(b:Int)≤40000:=by omega
     clear c3 c4 CB CS CV HK h hW hln h61 hd hlt hok h1 h2 h3 hb
     generalize blankTo l (b+1)=d at *
     generalize strictAt 60 l (d:Int)=v at *
     obtain⟨vs,vn,ve⟩:=v
     unfold outV at C5
     simp only at C5
     go_enter Tryz.func140,Tryz.ntmps140
     go_wp2_with fail
     refine C1.out.mono ?_
     rintro e w1 ⟨rfl,hb⟩
     have J1:=Hd (J0.out.kept hb)
     clear hb
     go_wp2_with fail
     refine(C2.out _ _ J1.out).mono ?_
     rintro e wq ⟨rfl,rfl⟩
     go_wp2_with fail
     refine(C3.out _ _ J1.out).mono ?_
     rintro e wq ⟨rfl,rfl⟩
     go_wp2_with fail
     refine(C4.out _ _ J1.out).mono ?_
     rintro e wq ⟨rfl,rfl⟩
     go_wp2_with fail
     refine(C5.out _ _ J1.out).mono ?_
     rintro e w2 ⟨rfl,hb⟩
     have J2:=Hd (J1.out.kept hb)
     clear hb
     have JF:=Hd (J2.out.row #[.string ⟨s.toArray⟩,.string ⟨vs.toArray⟩])
     go_wp2_with (refine wpList_store_row rfl _ _ _ rfl w.heap.size #[.string ⟨s.toArray⟩,.string ⟨vs.toArray⟩] rfl rfl _ _ J2.out.2 (by kernel_rfl) rfl (by kernel_rfl) ?_)
     (try simp only[Exit.inBlock,Exit.then])
     exact bodyPost_ret (results_c3 rfl _ _ w.heap.size _ _ _ _ rfl JF.out.2 HU.out.2 rfl HU.out.1) rfl ⟨rfl,JF.out.1⟩
   · rw[if_neg h61]
     have hd:decide (l[b]? =some 61)=false:=by simpa using h61
     rw[hd]at c3
     have C3:=Hd c3
     clear c3 CB CS CV HK h hW hln h61 hd hok h1 h2 h3 hb
     go_enter Tryz.func140,Tryz.ntmps140
     go_wp2_with fail
     refine C1.out.mono ?_
     rintro e w1 ⟨rfl,hb⟩
     have J1:=Hd (J0.out.kept hb)
     clear hb
     go_wp2_with fail
     refine(C2.out _ _ J1.out).mono ?_
     rintro e wq ⟨rfl,rfl⟩
     go_wp2_with fail
     refine(C3.out _ _ J1.out).mono ?_
     rintro e wq ⟨rfl,rfl⟩
     have JF:=Hd (J1.out.row #[.string ⟨#[]⟩,.string ⟨#[]⟩])
     go_wp2_with (refine wpList_store_row rfl _ _ _ rfl w.heap.size #[.string ⟨#[]⟩,.string ⟨#[]⟩] rfl rfl _ _ J1.out.2 (by kernel_rfl) rfl (by kernel_rfl) ?_)
     (try simp only[Exit.inBlock,Exit.then])
     exact bodyPost_ret (results_c3 rfl _ _ w.heap.size _ _ _ _ rfl JF.out.2 HU.out.2 rfl HU.out.1) rfl ⟨rfl,JF.out.1⟩
 · rw[if_neg he]
   have hei:((e:Int)==0)=false:=by simp;omega
   clear CB CS CV HK h hW hln hok he
   go_enter Tryz.func140,Tryz.ntmps140
   go_wp2_with fail
   refine C1.out.mono ?_
   rintro e w1 ⟨rfl,hb⟩
   have J1:=Hd (J0.out.kept hb)
   clear hb
   have JF:=Hd (J1.out.row #[.string ⟨#[]⟩,.string ⟨#[]⟩])
   go_wp2_with (refine wpList_store_row rfl _ _ _ rfl w.heap.size #[.string ⟨#[]⟩,.string ⟨#[]⟩] rfl rfl _ _ J1.out.2 (by kernel_rfl) rfl (by kernel_rfl) ?_)
   (try simp only[Exit.inBlock,Exit.then])
   exact bodyPost_ret (results_c3 rfl _ _ w.heap.size _ _ _ _ rfl JF.out.2 HU.out.2 rfl HU.out.1) rfl ⟨rfl,JF.out.1⟩
theorem lawS:Go.Maps.Keyed Tryz.prog 9:=Go.Maps.string_keyed Tryz.underlying9
theorem zeroI (w:World):(zeroValue 3).run Tryz.prog w= .ok (.int .i64 0) w:=by kernel_rfl
theorem info_pair: ∃ i,Tryz.prog.info? 66=some i∧i.zero=some (.agg #[.string ⟨#[]⟩,.string ⟨#[]⟩])∧i.size=2∧i.bytes=32:=by
 obtain⟨i,h1,h2,h3,h4⟩:=info_parts (show(Tryz.prog.info? 66).map (fun i=>(i.zero,i.size,i.bytes))=some (some (.agg #[.string ⟨#[]⟩,.string ⟨#[]⟩]),2,32)by kernel_rfl)
 exact⟨i,h1,h2,h3,h4⟩
theorem cell_new2 (w:World)(u1 u2:Value)(T:TypeId): ∀ (j:Nat) (v:Value),[u1,u2][j]? =some v→(w.alloc (.cells #[u1,u2] T)).cell? ((⟨w.heap.size,0,none⟩:Addr).add j)=some v:=by
 intro j v hv
 match j with
 |0=>simp at hv;subst hv;simp[Addr.add]
 |1=>simp at hv;subst hv;rw[addr_add,cell_of _ (hp_new _ _)];rfl
 |j+2=>simp at hv
theorem wpList_app2 {P:Program}{ops:Array Oper}{rest:List Oper}{o:Oper}{a:Act}{Q:Exit→Act→World→Prop}{w:World}(hgd:o.guard=none)(s x:Operand)(t e:TypeId)
 (ho:o.op= .call { callee:= .builtin .append,args:= #[s,x],argTypes:= #[t,t] }) (z:Value) (bytes:Nat) (ht:P.underlying t=some (.slice e))
 (hi: ∃ i,P.info? e=some i∧i.zero=some z∧i.size=2∧i.bytes=bytes) (hzs:z.cells.size=2)
 (base:Nat) (v:Value) (n:Nat) (xs:List Value) (hs:a.eval s=v) (hown:w.ownsRow base e 2 v n xs) (u1 u2:Value) (hx:a.eval x= .slice (some ⟨w.heap.size,0,none⟩) 1 1)
 (h1:u1.oneCell'=true) (h2:u2.oneCell'=true) (hn:n≤1000000000) (hby:bytes≤1000) (hbase:base≤w.heap.size)
 (h: ∀ v' w',w'.ownsRow base e 2 v' (n+1) (xs++ [u1,u2])→(w.alloc (.cells #[u1,u2] e)).grownBy w' v.ownBlock→wpList P ops Q rest (a.put o.dst v') w'):wpList P ops Q (o :: rest) a (w.alloc (.cells #[u1,u2] e)):=by
 obtain⟨i,hi,hz,hsz,hbt⟩:=hi
 refine wpList_append_own _ hgd s x t ho base e i z 2 bytes ht hi hz hsz hbt hzs (by decide) v n xs hs (hown.alloc _) ⟨w.heap.size,0,none⟩ 1 1 [u1,u2] hx rfl (cell_new2 w u1 u2 e) (by intro u hu;simp at hu;rcases hu with rfl|rfl <;> assumption) (by unfold maxLen;omega) ?_ (by simp;omega) fun v' w' hown' hgrow _=>h v' w' hown' hgrow
 have:(n+1)*bytes≤1000000001*1000:=Nat.mul_le_mul (by omega) hby
 omega
theorem ownsRow_lt {w:World}{base:Nat}{e:TypeId}{c n:Nat}{v:Value}{xs:List Value}(h:w.ownsRow base e c v n xs)(b:Nat)(hb:b<base):some b≠v.ownBlock:=by
 obtain⟨hl,⟨hv,_⟩|⟨g,cap,cur,hv,hg,hh,r⟩⟩:=h
 · rw[hv];simp[Value.ownBlock]
 · rw[hv];simp[Value.ownBlock];omega
def Seen (w:World)(b n:Nat)(acc:List PairL):Prop:= ∃ D:DataW Unit,w.ownsMap Tryz.prog 9 (Go.plainElem Tryz.prog 3) b n D∧ ∀ s:List UInt8,D.atKey (.string s) (.lit (.int .i64 0))= .lit (.int .i64 (if hasN acc s then 1 else 0))
theorem ownsMap_keep {H:Type}{w w':World}{k:TypeId}{R:Value→Option (DataW H × List MemPlace)}{b n:Nat}{D:DataW H}(h:w.ownsMap Tryz.prog k R b n D)(hk:w'.heap[b]? =w.heap[b]?):w'.ownsMap Tryz.prog k R b n D:=by
 obtain⟨es,clock,hb,r⟩:=h
 exact⟨es,clock,hk.trans hb,r⟩
theorem ownsMap_is {H:Type}{w:World}{k:TypeId}{R:Value→Option (DataW H × List MemPlace)}{b n:Nat}{D:DataW H}(h:w.ownsMap Tryz.prog k R b n D):Go.Maps.IsMap D:=by
 obtain⟨es,clock,hb,_,_,rfl⟩:=h
 exact⟨_,rfl⟩
theorem Seen.start (w:World):Seen (w.alloc (.map #[] 0)) w.heap.size 0 []:=⟨.map [],World.ownsMap_made _ _ _ _,fun s=>rfl⟩
theorem seen_snoc {D:DataW Unit}{acc:List PairL}{p:PairL}(hi:Go.Maps.IsMap D)(h: ∀ s:List UInt8,D.atKey (.string s) (.lit (.int .i64 0))= .lit (.int .i64 (if hasN acc s then 1 else 0)))(hp:hasN acc p.1=false) :
 ∀ s:List UInt8,(D.put (.string p.1) (.lit (.int .i64 1))).atKey (.string s) (.lit (.int .i64 0))= .lit (.int .i64 (if hasN (acc++ [p]) s then 1 else 0)):=by
 intro s
 rw[hasN_snoc]
 by_cases hs:p.1=s
 · subst hs
   rw[Go.Maps.atKey_put_same hi (by simp[WideAt.IsKeyLit])]
   simp
 · rw[Go.Maps.atKey_put_other (by simpa using fun e=>hs e.symm),h]
   simp[hs]
end Go.Proofs.YtbafljibbabnaaaGreatDoor
