/- Texts of ours, joined: MiscP, Tag0, RowG, RowS. -/
import Derived.Lib.IndexMore
import Derived.Lib.IndexLaws
import Derived.Laws.EntriesVeiled
import Derived.Laws.Rows
import Derived.Maps.OwnOps
import Derived.Maps.Views
import Derived.Maps.OwnSet
import Derived.Maps.AppendAt
import Derived.Lib.SmallJoins
import Derived.Deep.AppendLies
import Derived.Deep.RegionLaw
import Derived.Deep.RegionWith
import Derived.Test.YtbafljibbabnaaaGreatDoorQ1
namespace Go.Proofs.YtbafljibbabnaaaGreatDoor
open Go.ChangeShapes Go.WideShapes Go.ChangeAt Go.RowKit
set_option linter.unusedVariables false
set_option maxRecDepth 100000
set_option maxHeartbeats 32000000
theorem bfalse {b:Bool}(h: ¬ b=true):b=false:=by
 cases b with
 |false=>rfl
 |true=>exact absurd rfl h
def findI (l:List UInt8)(k:Nat)(p:List UInt8):Int:=if Lib.index (l.drop k) p<0 then -1 else (k:Int)+Lib.index (l.drop k) p
theorem occ_drop (l p:List UInt8)(k j:Nat):Lib.occAt (l.drop k) p j=p.isPrefixOf (l.drop (k+j)):=by unfold Lib.occAt;rw[List.drop_drop]
theorem findI_hit (l p:List UInt8)(k i:Nat)(hk:k≤i)(hi:i≤l.length)(h:p.isPrefixOf (l.drop i)=true)(hn: ∀ j,k≤j→j<i→p.isPrefixOf (l.drop j)=false):findI l k p=i:=by
 have:=Lib.index_first (s:=l.drop k) (sub:=p) (i:=i - k) (by rw[List.length_drop];omega) (by rw[occ_drop,show k+(i - k)=i by omega];exact h) (fun j hj=>by rw[occ_drop];exact hn _ (by omega) (by omega))
 unfold findI
 rw[this,if_neg (by omega)]
 omega
theorem findI_none (l p:List UInt8)(k:Nat)(hk:k≤l.length)(hn: ∀ j,k≤j→j≤l.length→p.isPrefixOf (l.drop j)=false):findI l k p= -1:=by
 have:=Lib.index_none (s:=l.drop k) (sub:=p) (fun j hj=>by rw[occ_drop];rw[List.length_drop]at hj;exact hn _ (by omega) (by omega))
 unfold findI
 rw[this,if_pos (by omega)]
theorem findI_spec (l p:List UInt8)(k:Nat)(hk:k≤l.length):(findI l k p= -1∧ ∀ j,k≤j→j≤l.length→p.isPrefixOf (l.drop j)=false) ∨
 ∃ i:Nat,findI l k p=i∧k≤i∧i+p.length≤l.length∧p.isPrefixOf (l.drop i)=true∧ ∀ j,k≤j→j<i→p.isPrefixOf (l.drop j)=false:=by
 rcases Lib.index_spec (l.drop k) p with ⟨h,hn⟩|⟨i,h,hi,ho,hn⟩
 · refine .inl ⟨by unfold findI;rw[h,if_pos (by omega)],fun j hj hjl=> ?_⟩
   have:=hn (j - k) (by rw[List.length_drop];omega)
   rwa [occ_drop,show k+(j - k)=j by omega]at this
 · rw[occ_drop]at ho
   refine .inr ⟨k+i,by unfold findI;rw[h,if_neg (by omega)];omega,by omega,?_,ho,fun j hj hji=> ?_⟩
   · have:=(List.isPrefixOf_iff_prefix.1 ho).length_le
     rw[List.length_drop]at this
     rw[List.length_drop]at hi
     omega
   · have:=hn (j - k) (by omega)
     rwa [occ_drop,show k+(j - k)=j by omega]at this
theorem pre_get {p l:List UInt8}{k:Nat}(h:p.isPrefixOf (l.drop k)=true)(i:Nat)(hi:i<p.length):l[k+i]? =p[i]? :=by
 obtain⟨t,ht⟩:=List.isPrefixOf_iff_prefix.1 h
 have:(l.drop k)[i]? =p[i]? :=by rw[← ht,List.getElem?_append_left hi]
 rw[← this,List.getElem?_drop]
theorem pre_len {p l:List UInt8}{k:Nat}(h:p.isPrefixOf (l.drop k)=true):p= []∨k+p.length≤l.length:=by
 have:=(List.isPrefixOf_iff_prefix.1 h).length_le
 rw[List.length_drop]at this
 rcases p with _|⟨a,t⟩
 · exact .inl rfl
 · simp at this ⊢;omega
def commentOut (l:List UInt8)(k:Nat):List UInt8 × Nat × Nat :=
 if [60,33,45,45].isPrefixOf (l.drop k)=false then ([],0,7) else
 if findI l (k+4) [45,45]<0 then ([],0,7) else
 if [45,45,62].isPrefixOf (l.drop (findI l (k+4) [45,45]).toNat)=true then ((l.drop (k+4)).take ((findI l (k+4) [45,45]).toNat - (k+4)),(findI l (k+4) [45,45]).toNat+3,0) else ([],0,7)
def cdataOut (l:List UInt8)(k:Nat):List UInt8 × Nat × Nat :=
 if [60,33,91,67,68,65,84,65,91].isPrefixOf (l.drop k)=false then ([],0,7) else
 if findI l (k+9) [93,93,62]<0 then ([],0,7) else
 ((l.drop (k+9)).take ((findI l (k+9) [93,93,62]).toNat - (k+9)),(findI l (k+9) [93,93,62]).toNat+3,0)
def markedOut (p q:List UInt8)(may:List UInt8→Bool)(l:List UInt8)(k:Nat):List UInt8 × Nat × Nat :=
 if p.isPrefixOf (l.drop k)=true∧0≤Lib.index (l.drop (k+p.length)) q∧may ((l.drop (k+p.length)).take (Lib.index (l.drop (k+p.length)) q).toNat)=true then
  ((l.drop (k+p.length)).take (Lib.index (l.drop (k+p.length)) q).toNat,k+p.length+(Lib.index (l.drop (k+p.length)) q).toNat+q.length,0) else ([],0,7)
def mayComment (s:List UInt8):Bool:= !Lib.contains (s++ [45]) [45,45]
def mayCData (s:List UInt8):Bool:= !Lib.contains s [93,93,62]
theorem contains_false (s p:List UInt8)(h: ∀ j,j+p.length≤s.length→p.isPrefixOf (s.drop j)=false)(hp:p≠ []):Lib.contains s p=false:=by
 unfold Lib.contains
 rw[Lib.index_none]
 · rfl
 · intro j hj
   by_cases hjl:j+p.length≤s.length
   · exact h j hjl
   · unfold Lib.occAt
     refine Classical.byContradiction fun hc=> ?_
     have:=pre_len (l:=s) (k:=j) (by simpa using hc)
     rcases this with h'|h'
     · exact hp h'
     · omega
theorem contains_true (s p:List UInt8)(j:Nat)(hj:j≤s.length)(h:p.isPrefixOf (s.drop j)=true):Lib.contains s p=true:=by
 rcases Lib.index_spec s p with ⟨h',hn⟩|⟨i,h',_⟩
 · have:=hn j hj
   unfold Lib.occAt at this
   rw[h]at this;cases this
 · unfold Lib.contains
   rw[h']
   simp
theorem pre_of_get {p l:List UInt8}{k:Nat}(h: ∀ i,i<p.length→l[k+i]? =p[i]?):p.isPrefixOf (l.drop k)=true:=by
 refine List.isPrefixOf_iff_prefix.2 ?_
 refine List.prefix_iff_eq_take.2 (List.ext_getElem? fun i=> ?_)
 rw[List.getElem?_take]
 split
 · rename_i hi
   rw[List.getElem?_drop,h i hi]
 · rename_i hi
   rw[List.getElem?_eq_none (by omega)]
theorem marked_yes {p q:List UInt8}{may:List UInt8→Bool}{l:List UInt8}{k a b j:Nat}(ha:p.length=a)(hb:q.length=b)(hp:p.isPrefixOf (l.drop k)=true)(hx:Lib.index (l.drop (k+a)) q=(j:Int))(hm:may ((l.drop (k+a)).take j)=true) :
 markedOut p q may l k=((l.drop (k+a)).take j,k+a+j+b,0):=by
 subst ha hb
 unfold markedOut
 rw[hx,Int.toNat_natCast,if_pos ⟨hp,by omega,hm⟩]
theorem marked_no {p q:List UInt8}{may:List UInt8→Bool}{l:List UInt8}{k a:Nat}(ha:p.length=a)(h:p.isPrefixOf (l.drop k)=true→ ∀ j:Nat,Lib.index (l.drop (k+a)) q=(j:Int)→may ((l.drop (k+a)).take j)=false) :
 markedOut p q may l k=([],0,7):=by
 subst ha
 unfold markedOut
 rw[if_neg]
 rintro⟨hp,h0,hm⟩
 have:=h hp (Lib.index (l.drop (k+p.length)) q).toNat (by omega)
 rw[hm]at this
 cases this
theorem two_of_three {l:List UInt8}{k:Nat}{a b c:UInt8}(h: [a,b,c].isPrefixOf (l.drop k)=true): [a,b].isPrefixOf (l.drop k)=true:=by
 rw[List.isPrefixOf_iff_prefix]at *
 exact List.IsPrefix.trans ⟨[c],rfl⟩ h
theorem marked_comment (l:List UInt8)(k:Nat)(hk:k≤l.length):markedOut [60,33,45,45] [45,45,62] mayComment l k=commentOut l k:=by
 by_cases hp: [60,33,45,45].isPrefixOf (l.drop k)=true
 · have hkl:k+4≤l.length:=by have:=pre_len hp;simpa using this
   have hnp: ¬ [60,33,45,45].isPrefixOf (l.drop k)=false:=by rw[hp];simp
   rcases findI_spec l [45,45] (k+4) hkl with ⟨h,hn⟩|⟨i,h,hki,hil,ho,hn⟩
   · have e1:commentOut l k=([],0,7):=by unfold commentOut;rw[if_neg hnp,h,if_pos (by omega)]
     rw[e1]
     refine marked_no rfl fun _ j hj=> ?_
     exfalso
     replace hj:Lib.index (l.drop (k+4)) [45,45,62]=(j:Int):=hj
     rcases Lib.index_spec (l.drop (k+4)) [45,45,62]with ⟨h',_⟩|⟨t,h',ht,hot,_⟩
     · rw[h']at hj;omega
     · rw[occ_drop]at hot
       have hjl:=pre_len hot
       simp at hjl
       have:=hn (k+4+t) (by omega) (by omega)
       rw[two_of_three hot]at this
       cases this
   · have hil':i+2≤l.length:=by simpa using hil
     by_cases h3: [45,45,62].isPrefixOf (l.drop i)=true
     · have e1:commentOut l k=((l.drop (k+4)).take (i - (k+4)),i+3,0):=by
        unfold commentOut
        rw[if_neg hnp,h,if_neg (by omega),Int.toNat_natCast,if_pos h3]
       have hx:Lib.index (l.drop (k+4)) [45,45,62]=((i - (k+4):Nat):Int):=Lib.index_first (by rw[List.length_drop];omega) (by rw[occ_drop,show k+4+(i - (k+4))=i by omega];exact h3) (fun j hj=>by
        rw[occ_drop]
        refine Classical.byContradiction fun hc=> ?_
        have:=hn (k+4+j) (by omega) (by omega)
        rw[two_of_three (a:=45) (b:=45) (c:=62) (l:=l) (k:=k+4+j) (by simpa using hc)]at this
        cases this)
       have hmay:mayComment ((l.drop (k+4)).take (i - (k+4)))=true:=by
        unfold mayComment
        rw[contains_false _ _ _ (by simp)]
        · rfl
        · intro j hj
          refine Classical.byContradiction fun hc=> ?_
          have hoj: [45,45].isPrefixOf ((((l.drop (k+4)).take (i - (k+4)))++ [45]).drop j)=true:=by simpa using hc
          have hlen:((l.drop (k+4)).take (i - (k+4))).length=i - (k+4):=by rw[List.length_take,List.length_drop];omega
          simp only[List.length_append,hlen,List.length_cons,List.length_nil]at hj
          have g0:=pre_get hoj 0 (by simp)
          have g1:=pre_get hoj 1 (by simp)
          rw[Nat.add_zero,List.getElem?_append_left (by omega),List.getElem?_take_of_lt (by omega),List.getElem?_drop]at g0
          have g1':l[k+4+(j+1)]? =some 45:=by
           by_cases hj1:j+1<i - (k+4)
           · rw[List.getElem?_append_left (by omega),List.getElem?_take_of_lt (by omega),List.getElem?_drop]at g1
             exact g1
           · have hji:k+4+(j+1)=i+0:=by omega
             rw[hji,pre_get h3 0 (by simp)];rfl
          have:=hn (k+4+j) (by omega) (by omega)
          rw[pre_of_get (fun i hi=>by
           simp at hi
           rcases(show i=0∨i=1 by omega)with rfl|rfl
           · exact g0
           · rw[Nat.add_assoc];exact g1')]at this
          cases this
       rw[e1,marked_yes (a:=4) (b:=3) rfl rfl hp hx hmay]
       congr 2
       omega
     · have e1:commentOut l k=([],0,7):=by
        unfold commentOut
        rw[if_neg hnp,h,if_neg (by omega),Int.toNat_natCast,if_neg h3]
       rw[e1]
       refine marked_no rfl fun _ j hj=> ?_
       rcases Lib.index_spec (l.drop (k+4)) [45,45,62]with ⟨h',_⟩|⟨t,h',ht,hoj,hnj⟩
       · exfalso
         have hj':Lib.index (l.drop (k+4)) [45,45,62]=(j:Int):=hj
         rw[h']at hj';omega
       · obtain rfl:t=j:=by
          have hj':Lib.index (l.drop (k+4)) [45,45,62]=(j:Int):=hj
          rw[h']at hj';omega
         rw[occ_drop]at hoj
         have hjl:=pre_len hoj
         simp at hjl
         have hij:i<k+4+t:=by
          refine Classical.byContradiction fun hc=> ?_
          have h2:=two_of_three hoj
          rcases Nat.lt_or_ge (k+4+t) i with g|g
          · rw[hn _ (by omega) g]at h2;cases h2
          · obtain rfl:i=k+4+t:=by omega
            exact h3 hoj
         unfold mayComment
         have hc:Lib.contains (((l.drop (k+4)).take t)++ [45]) [45,45]=true:=by
          have hlen:((l.drop (k+4)).take t).length=t:=by rw[List.length_take,List.length_drop];omega
          refine contains_true _ _ (i - (k+4)) (by rw[List.length_append,hlen];simp;omega) (pre_of_get fun s hs=> ?_)
          simp at hs
          have gt:=pre_get ho s (by simpa using hs)
          rcases(show i - (k+4)+s<t∨i - (k+4)+s=t by omega)with g|g
          · rw[List.getElem?_append_left (by omega),List.getElem?_take_of_lt g,List.getElem?_drop,show k+4+(i - (k+4)+s)=i+s by omega]
            exact gt
          · rw[List.getElem?_append_right (by omega),hlen,g,Nat.sub_self]
            rcases(show s=0∨s=1 by omega)with rfl|rfl <;> rfl
         show(!Lib.contains (((l.drop (k+4)).take t)++ [45]) [45,45])=false
         rw[hc]
         rfl
 · have e1:commentOut l k=([],0,7):=by unfold commentOut;rw[if_pos (by cases h: [60,33,45,45].isPrefixOf (l.drop k) <;> simp_all)]
   rw[e1]
   exact marked_no rfl fun h=>absurd h hp
theorem marked_cdata (l:List UInt8)(k:Nat)(hk:k≤l.length):markedOut [60,33,91,67,68,65,84,65,91] [93,93,62] mayCData l k=cdataOut l k:=by
 by_cases hp: [60,33,91,67,68,65,84,65,91].isPrefixOf (l.drop k)=true
 · have hkl:k+9≤l.length:=by have:=pre_len hp;simpa using this
   have hnp: ¬ [60,33,91,67,68,65,84,65,91].isPrefixOf (l.drop k)=false:=by rw[hp];simp
   rcases Lib.index_spec (l.drop (k+9)) [93,93,62]with ⟨h',_⟩|⟨j,h',hj,hoj,hnj⟩
   · have e1:cdataOut l k=([],0,7):=by unfold cdataOut findI;rw[if_neg hnp,h',if_pos (by omega)]
     rw[e1]
     exact marked_no rfl fun _ j hj=>by
      have hj':Lib.index (l.drop (k+9)) [93,93,62]=(j:Int):=hj
      rw[h']at hj';omega
   · have hf:findI l (k+9) [93,93,62]=((k+9+j:Nat):Int):=by unfold findI;rw[h',if_neg (by omega)];omega
     have e1:cdataOut l k=((l.drop (k+9)).take j,k+9+j+3,0):=by
      unfold cdataOut
      rw[if_neg hnp,hf,if_neg (by omega),Int.toNat_natCast,show k+9+j - (k+9)=j by omega]
     have hmay:mayCData ((l.drop (k+9)).take j)=true:=by
      unfold mayCData
      rw[contains_false _ _ _ (by simp)]
      · rfl
      · intro t ht
        rw[List.length_drop]at hj
        have hlen:((l.drop (k+9)).take j).length=j:=by rw[List.length_take,List.length_drop];omega
        simp only[hlen,List.length_cons,List.length_nil]at ht
        refine Classical.byContradiction fun hc=> ?_
        have hot: [93,93,62].isPrefixOf (((l.drop (k+9)).take j).drop t)=true:=by simpa using hc
        have:=hnj t (by omega)
        unfold Lib.occAt at this
        rw[pre_of_get (fun i hi=>by
         rw[← pre_get hot i hi]
         simp at hi
         rw[List.getElem?_take_of_lt (by omega)])]at this
        cases this
     rw[e1,marked_yes (a:=9) (b:=3) rfl rfl hp h' hmay]
 · have e1:cdataOut l k=([],0,7):=by unfold cdataOut;rw[if_pos (by cases h: [60,33,91,67,68,65,84,65,91].isPrefixOf (l.drop k) <;> simp_all)]
   rw[e1]
   exact marked_no rfl fun h=>absurd h hp
theorem results_c3 {P:Program}{fn:Func}{p u v:Tmp}{ty:TypeId}(h:fn.results= #[.cell p ty,.tmp u,.tmp v])(tmps:Array Value)(w:World)(g:Nat)(t:TypeId)(cs:Array Value)(fr:Nat × Nat)(d:TypeDesc)
 (hp:tmps.getD p undef= .pointer (some ⟨g,0,none⟩)) (hg:w.heap[g]? =some (.cells cs t fr))
 (hu:P.underlying ty=some d) (hd:(match d with| .struct _| .array _ _=>true|_=>false)=true) (hi:(P.info? ty).map (·.size)=some cs.size) :
 (results fn tmps).run P w= .ok (.tuple #[.agg cs,tmps.getD u undef,tmps.getD v undef]) w:=by
 have hp':tmps[p]?.getD undef= .pointer (some ⟨g,0,none⟩):=by simpa using hp
 simp[results,h,hp',asAddr,run_loadVar_row w g t ty cs fr d hg hu hd hi]
def CJ (T:TypeId)(w W:World)(rs:Array Value):Prop:=Below w.heap.size w W∧W.heap[w.heap.size]? =some (.cells rs T)
theorem CJ.start (T:TypeId)(w:World)(rs:Array Value):CJ T w (w.alloc (.cells rs T)) rs:=⟨(Below.refl _ _).alloc (Nat.le_refl _) _,hp_new _ _⟩
theorem CJ.kept {T:TypeId}{w W W':World}{rs:Array Value}(h:CJ T w W rs)(hb:Below W.heap.size W W'):CJ T w W' rs :=
 ⟨h.1.trans (hb.mono h.1.size),by rw[hb.block _ (lt_of h.2)];exact h.2⟩
theorem CJ.row {T:TypeId}{w W:World}{rs:Array Value}(h:CJ T w W rs)(cs:Array Value):CJ T w (W.setRow w.heap.size cs) cs:=by
 refine⟨⟨h.1.os,h.1.tape,h.1.output,?_,fun k hk=> ?_⟩,setRow_heap _ _ _ _ _ _ h.2⟩
 · have:=h.1.size;simpa [World.setRow] using this
 · rw[setRow_other _ _ _ _ (by omega)];exact h.1.block k hk
theorem pre_one (a:UInt8)(l:List UInt8)(k:Nat): [a].isPrefixOf (l.drop k)=decide (l[k]? =some a):=by
 rw[Bool.eq_iff_iff,decide_eq_true_eq]
 constructor
 · intro h
   have:=pre_get h 0 (by simp)
   simpa using this
 · intro h
   exact pre_of_get fun i hi=>by
    simp at hi
    subst hi
    simpa using h
structure RRd {α:Type} (c:α→List Value) (k:Nat) (w:World) (B:Nat) (A:Option Addr) (n cap:Nat) (xs:List α):Prop where
 len:xs.length=n
 le:n≤cap
 fit:cap≤maxLen
 nil:A=none→cap=0
 at_:0<cap→ ∃ b o,A=some ⟨b,o,none⟩∧b<B∧ ∀ i x,xs[i]? =some x→ ∀ (j:Nat) u,(c x)[j]? =some u→w.cell? ⟨b,o+(i*k+j),none⟩=some u
theorem RRd.keep {α:Type}{c:α→List Value}{k:Nat}{w w':World}{B n cap:Nat}{A:Option Addr}{xs:List α}(h:RRd c k w B A n cap xs)(hk: ∀ p:Addr,p.block<B→w'.cell? p=w.cell? p):RRd c k w' B A n cap xs :=
 ⟨h.len,h.le,h.fit,h.nil,fun h0=>by
   obtain⟨b,o,e,hb,hc⟩:=h.at_ h0
   exact⟨b,o,e,hb,fun i x hx j u hu=>(hk ⟨b,_,none⟩ hb).trans (hc i x hx j u hu)⟩⟩
theorem RRd.more {α:Type}{c:α→List Value}{k:Nat}{w:World}{B B' n cap:Nat}{A:Option Addr}{xs:List α}(h:RRd c k w B A n cap xs)(hB:B≤B'):RRd c k w B' A n cap xs :=
 ⟨h.len,h.le,h.fit,h.nil,fun h0=>by
   obtain⟨b,o,e,hb,hc⟩:=h.at_ h0
   exact⟨b,o,e,by omega,hc⟩⟩
theorem RRd.below {α:Type}{c:α→List Value}{k:Nat}{w w':World}{B n cap:Nat}{A:Option Addr}{xs:List α}(h:RRd c k w B A n cap xs)(hb:Below B w w'):RRd c k w' B A n cap xs:=h.keep fun p hp=>hb.cell hp
theorem RRd.up {α:Type}{c:α→List Value}{k:Nat}{w w':World}{n cap:Nat}{A:Option Addr}{xs:List α}(h:RRd c k w w.heap.size A n cap xs)(hb:Below w.heap.size w w'):RRd c k w' w'.heap.size A n cap xs:=(h.below hb).more hb.size
theorem RRd.drewN {α:Type}{c:α→List Value}{k:Nat}{w:World}{B n cap m:Nat}{A:Option Addr}{xs:List α}(h:RRd c k w B A n cap xs):RRd c k (w.drewN m) B A n cap xs:=h.keep (w':=w.drewN m) fun _ _=>rfl
theorem RRd.nilR {α:Type}(c:α→List Value)(k:Nat)(w:World)(B:Nat):RRd c k w B none 0 0 []:=⟨rfl,Nat.le_refl _,Nat.zero_le _,fun _=>rfl,fun h=>absurd h (by omega)⟩
theorem RRd.cell {α:Type}{c:α→List Value}{k:Nat}{w:World}{B n cap:Nat}{A:Option Addr}{xs:List α}{i:Nat}(h:RRd c k w B A n cap xs)(hi:i<n) :
 ∃ b o x,A=some ⟨b,o,none⟩∧b<B∧xs[i]? =some x∧ ∀ (j:Nat) u,(c x)[j]? =some u→w.cell? ⟨b,o+(i*k+j),none⟩=some u:=by
 obtain⟨b,o,e,hb,hc⟩:=h.at_ (by have:=h.le;omega)
 have hl:i<xs.length:=by rw[h.len];exact hi
 exact⟨b,o,xs[i],e,hb,List.getElem?_eq_getElem hl,hc i _ (List.getElem?_eq_getElem hl)⟩
theorem flat_get {α:Type}{c:α→List Value}{k:Nat}(hk: ∀ x,(c x).length=k): ∀ (xs:List α) (i:Nat) (x:α),xs[i]? =some x→ ∀ (j:Nat) u,(c x)[j]? =some u→(xs.flatMap c)[i*k+j]? =some u
 | [],i,x,h,j,u,hu=>by simp at h
 |y :: xs,0,x,h,j,u,hu=>by
  simp at h
  subst h
  have hj:j<(c y).length:=(List.getElem?_eq_some_iff.1 hu).1
  rw[List.flatMap_cons,Nat.zero_mul,Nat.zero_add,List.getElem?_append_left hj]
  exact hu
 |y :: xs,i+1,x,h,j,u,hu=>by
  rw[List.flatMap_cons,List.getElem?_append_right (by rw[hk,Nat.add_mul];omega),hk,show(i+1)*k+j - k=i*k+j by rw[Nat.add_mul];omega]
  exact flat_get hk xs i x (by simpa using h) j u hu
theorem flat_len {α:Type}{c:α→List Value}{k:Nat}(hk: ∀ x,(c x).length=k): ∀ xs:List α,(xs.flatMap c).length=xs.length*k
 | []=>by simp
 |y :: xs=>by rw[List.flatMap_cons,List.length_append,hk,flat_len hk xs,List.length_cons,Nat.add_mul];omega
theorem RRd.ofOwn {α:Type}{c:α→List Value}{k:Nat}(hk: ∀ x,(c x).length=k)(h0:0<k){w:World}{base:Nat}{e:TypeId}{v:Value}{n:Nat}{xs:List α}(h:w.ownsRow base e k v n (xs.flatMap c)): ∃ A cp,v= .slice A n cp∧RRd c k w w.heap.size A n cp xs:=by
 obtain⟨hl,h2|⟨g,cap,cur,hv,hg,hh,hn,hc,hs,ht⟩⟩:=h
 · obtain⟨hv,hn⟩:=h2
   subst hn
   rw[flat_len hk]at hl
   have:xs= []:=List.length_eq_zero_iff.1 (by
    rcases Nat.eq_zero_or_pos xs.length with h|h
    · exact h
    · have:=Nat.mul_pos h h0
      omega)
   subst this
   exact⟨none,0,hv,RRd.nilR c k w _⟩
 · rw[flat_len hk]at hl
   have hnx:xs.length=n:=Nat.eq_of_mul_eq_mul_right h0 hl
   refine⟨_,cap,hv,hnx,hn,hc,(fun e=>by cases e),fun _=>⟨g,0,rfl,lt_of hh,fun i p hp j u hu=> ?_⟩⟩
   have hi:i<xs.length:=(List.getElem?_eq_some_iff.1 hp).1
   have hj:j<k:=by rw[← hk p];exact(List.getElem?_eq_some_iff.1 hu).1
   have hcp:=flat_get hk xs i p hp j u hu
   have hlt:i*k+j<n*k:=by
    have:(i+1)*k≤n*k:=Nat.mul_le_mul_right _ (by omega)
    rw[Nat.add_mul]at this
    omega
   rw[← ht,List.getElem?_take_of_lt hlt]at hcp
   rw[cell_of _ hh,Nat.zero_add]
   simpa using hcp
theorem ownsRow_keep {w w':World}{base:Nat}{e:TypeId}{c n:Nat}{v:Value}{xs:List Value}(h:w.ownsRow base e c v n xs)(hk: ∀ g,base≤g→g<w.heap.size→w'.heap[g]? =w.heap[g]?):w'.ownsRow base e c v n xs:=by
 obtain⟨hl,h2|⟨g,cap,cur,hv,hg,hh,r⟩⟩:=h
 · exact⟨hl,Or.inl h2⟩
 · exact⟨hl,Or.inr ⟨g,cap,cur,hv,hg,(hk g hg (lt_of hh)).trans hh,r⟩⟩
theorem cell_newN (w:World)(us:List Value)(T:TypeId): ∀ (j:Nat) (v:Value),us[j]? =some v→(w.alloc (.cells us.toArray T)).cell? ((⟨w.heap.size,0,none⟩:Addr).add j)=some v:=by
 intro j v hv
 rw[addr_add,cell_of _ (hp_new _ _)]
 simpa using hv
theorem wpList_appK {P:Program}{ops:Array Oper}{rest:List Oper}{o:Oper}{a:Act}{Q:Exit→Act→World→Prop}{w:World}(hgd:o.guard=none)(s x:Operand)(t e:TypeId)
 (ho:o.op= .call { callee:= .builtin .append,args:= #[s,x],argTypes:= #[t,t] }) (z:Value) (k bytes:Nat) (ht:P.underlying t=some (.slice e))
 (hi: ∃ i,P.info? e=some i∧i.zero=some z∧i.size=k∧i.bytes=bytes) (hzs:z.cells.size=k) (hk:0<k)
 (base:Nat) (v:Value) (n:Nat) (xs:List Value) (hs:a.eval s=v) (hown:w.ownsRow base e k v n xs) (us:List Value) (us':Array Value) (hus:us'=us.toArray) (hx:a.eval x= .slice (some ⟨w.heap.size,0,none⟩) 1 1)
 (hl:us.length=k) (h1: ∀ u∈us,u.oneCell'=true) (hn:n≤1000000000) (hby:bytes≤1000) (hbase:base≤w.heap.size)
 (h: ∀ v' w',w'.ownsRow base e k v' (n+1) (xs++us)→(w.alloc (.cells us' e)).grownBy w' v.ownBlock→(v'.ownBlock=v.ownBlock∨v'.ownBlock=some (w.heap.size+1))→wpList P ops Q rest (a.put o.dst v') w'):wpList P ops Q (o :: rest) a (w.alloc (.cells us' e)):=by
 subst hus
 obtain⟨i,hi,hz,hsz,hbt⟩:=hi
 refine wpList_append_own_at _ hgd s x t ho base e i z k bytes ht hi hz hsz hbt hzs hk v n xs hs (hown.alloc _) ⟨w.heap.size,0,none⟩ 1 1 us hx (by omega) (cell_newN w us e) h1 (by unfold maxLen;omega) ?_ (by simp;omega) fun v' w' hown' hgrow _ hat=>h v' w' hown' hgrow (by rw[World.size_alloc]at hat;exact hat)
 have:(n+1)*bytes≤1000000001*1000:=Nat.mul_le_mul (by omega) hby
 omega
theorem info_str: ∃ i,Tryz.prog.info? 9=some i∧i.zero=some (.string ⟨#[]⟩)∧i.size=1∧i.bytes=16:=by
 obtain⟨i,h1,h2,h3,h4⟩:=info_parts (show(Tryz.prog.info? 9).map (fun i=>(i.zero,i.size,i.bytes))=some (some (.string ⟨#[]⟩),1,16)by kernel_rfl)
 exact⟨i,h1,h2,h3,h4⟩
def strV (s:List UInt8):Value:= .string ⟨s.toArray⟩
def OwnS (w:World)(base:Nat)(v:Value)(op:List (List UInt8)):Prop:=w.ownsRow base 9 1 v op.length (op.map strV)
theorem OwnS.start (w:World)(base:Nat):OwnS w base (.slice none 0 0) []:=⟨rfl,.inl ⟨rfl,rfl⟩⟩
theorem OwnS.kept {w w':World}{base:Nat}{v:Value}{op:List (List UInt8)}(h:OwnS w base v op)(hb:Below w.heap.size w w'):OwnS w' base v op:=ownsRow_keep h fun g _ hg=>hb.block g hg
theorem OwnS.form {w:World}{base:Nat}{v:Value}{op:List (List UInt8)}(h:OwnS w base v op): ∃ A c,v= .slice A op.length c:=by
 obtain⟨hl,⟨hv,h0⟩|⟨g,cap,cur,hv,r⟩⟩:=h
 · exact⟨none,0,by rw[hv,h0]⟩
 · exact⟨_,cap,hv⟩
theorem OwnS.cells {w:World}{base:Nat}{ad:Addr}{n c:Nat}{op:List (List UInt8)}(h:OwnS w base (.slice (some ad) n c) op): ∀ (j:Nat) u,(op.map strV)[j]? =some u→w.cell? (ad.add j)=some u:=by
 obtain⟨hl,⟨hv,_⟩|⟨g,cap,cur,hv,hg,hh,hn,hc,hs,ht⟩⟩:=h
 · cases hv
 · injection hv with h1 h2 h3
   cases h1
   intro j u hu
   have hj:j<op.length:=by have:=(List.getElem?_eq_some_iff.1 hu).1;rwa [List.length_map]at this
   rw[addr_add,cell_of _ hh,Nat.zero_add]
   rw[← ht,List.getElem?_take_of_lt (by omega)]at hu
   simpa using hu
theorem OwnS.lit (w:World)(base:Nat)(hb:base≤w.heap.size):OwnS (w.alloc (.cells #[] 9)) base (.slice (some ⟨w.heap.size,0,none⟩) 0 0) [] :=
 ⟨rfl,.inr ⟨w.heap.size,0,#[],rfl,hb,hp_new _ _,Nat.le_refl _,Nat.zero_le _,rfl,rfl⟩⟩
end Go.Proofs.YtbafljibbabnaaaGreatDoor
