/- Texts of ours, joined: Tag4, TokR, LibB. -/
import Derived.Test.YtbafljibbabnaaaGreatDoorQ28
namespace Go.Proofs.YtbafljibbabnaaaGreatDoor
open Go.ChangeShapes Go.WideShapes Go.ChangeAt Go.RowKit
set_option linter.unusedVariables false
set_option maxRecDepth 100000
set_option maxHeartbeats 32000000
def PairsPost (o:List PairL × Nat × Nat)(w:World)(e:Ending)(w':World):Prop :=
 ∃ A n c,e= .returned (.tuple #[.slice A n c,.int .i64 (o.2.1:Int),.int .i64 (o.2.2:Int)])∧PRd w' w'.heap.size A n c o.1∧Below w.heap.size w w'∧ ∀ b i,A=some ⟨b,i,none⟩→w.heap.size≤b
theorem PairsPost.bad {w w':World}{e:Ending}{x:Nat}(he:e= .returned (.tuple #[.slice none 0 0,.int .i64 0,.int .i64 (x:Int)]))(hb:Below w.heap.size w w'):PairsPost ([],0,x) w e w' :=
 ⟨none,0,0,he,PRd.nilR _ _,hb,fun b i h=>by cases h⟩
theorem PairsPost.good {w w':World}{e:Ending}{acc:List PairL}{t:Nat}{v:Value}{n base:Nat}(hown:w'.ownsRow base 66 2 v n (cellsP acc))(he:e= .returned (.tuple #[v,.int .i64 (t:Int),.int .i64 0]))(hb:Below w.heap.size w w')(hbase:w.heap.size≤base):PairsPost (acc,t,0) w e w':=by
 have hl:=fun b hb=>ownsRow_lt hown b hb
 obtain⟨A,c,rfl,hr⟩:=PRd.ofOwn hown
 refine⟨A,n,c,he,hr,hb,fun b i h=> ?_⟩
 subst h
 rcases Nat.lt_or_ge b base with h'|h'
 · exact absurd rfl (hl b h')
 · omega
theorem PRd.move {w w':World}{B B' n cap:Nat}{A:Option Addr}{ps:List PairL}(h:PRd w B A n cap ps)(hB:B≤B')(hk: ∀ b i,A=some ⟨b,i,none⟩→b<B→w'.heap[b]? =w.heap[b]?):PRd w' B' A n cap ps :=
 ⟨h.len,h.le,h.fit,h.nil,fun h0=>by
   obtain⟨b,o,e,hb,hc⟩:=h.at_ h0
   have hh:=hk b o e hb
   have hcell: ∀ j,w'.cell? ⟨b,j,none⟩=w.cell? ⟨b,j,none⟩:=fun j=>by unfold World.cell?;rw[hh]
   exact⟨b,o,e,by omega,fun i p hp=>⟨(hcell _).trans (hc i p hp).1,(hcell _).trans (hc i p hp).2⟩⟩⟩
theorem stop_eq {l:List UInt8}{i t:Nat}(h:i=t):stopB l i t=true:=by unfold stopB;simp[h]
theorem stop_end {l:List UInt8}{i t:Nat}(h:l[i]? =none):stopB l i t=true:=by unfold stopB;rw[h];simp
theorem stop_at {l:List UInt8}{i t:Nat}{c:UInt8}(h:l[i]? =some c)(hc:c=47∨c=62):stopB l i t=true:=by unfold stopB;rw[h];rcases hc with rfl|rfl <;> simp
theorem stop_no {l:List UInt8}{i t:Nat}{c:UInt8}(h:l[i]? =some c)(h0:i≠t)(h1:c≠47)(h2:c≠62):stopB l i t=false:=by unfold stopB;rw[h];simp[h0,h1,h2]
def PgJ (w wr:World)(v:Value)(acc:List PairL):Prop :=
 Below w.heap.size w wr∧w.heap.size<wr.heap.size∧Seen wr w.heap.size acc.length acc∧wr.ownsRow (w.heap.size+1) 66 2 v acc.length (cellsP acc)
theorem PgJ.kept {w wr w':World}{v:Value}{acc:List PairL}(h:PgJ w wr v acc)(hb:Below wr.heap.size wr w'):PgJ w w' v acc:=by
 obtain⟨h1,h2,⟨D,h3,h3'⟩,h4⟩:=h
 exact⟨h1.trans (hb.mono h1.size),by have:=hb.size;omega,⟨D,ownsMap_keep h3 (hb.block _ h2),h3'⟩,ownsRow_keep h4 fun g _ hg=>hb.block g hg⟩
theorem PgJ.start (w:World):PgJ w (w.alloc (.map #[] 0)) (.slice none 0 0) [] :=
 ⟨(Below.refl _ _).alloc (Nat.le_refl _) _,by simp,Seen.start w,rfl,Or.inl ⟨rfl,rfl⟩⟩
theorem PgJ.count {w wr w':World}{v:Value}{acc:List PairL}(h:PgJ w wr v acc)(hb:wr.grownBy w' (some w.heap.size)):Below w.heap.size w w'∧w.heap.size<w'.heap.size∧w'.ownsRow (w.heap.size+1) 66 2 v acc.length (cellsP acc) :=
 ⟨h.1.grown hb h.1.size (fun j hj=>by cases hj;exact Nat.le_refl _),by have:=hb.size;have:=h.2.1;omega,ownsRow_keep h.2.2.2 fun g hg hl=>hb.block g hl (by simp;omega)⟩
theorem PgJ.appended {w w3 w4:World}{v v4:Value}{acc:List PairL}{p:PairL}{cs:Array Value}{T:TypeId}(h1:Below w.heap.size w w3)(h2:w.heap.size<w3.heap.size)(hs:Seen w3 w.heap.size (acc++ [p]).length (acc++ [p]))(ho:w3.ownsRow (w.heap.size+1) 66 2 v acc.length (cellsP acc))
 (hn:w4.ownsRow (w.heap.size+1) 66 2 v4 (acc++ [p]).length (cellsP (acc++ [p]))) (hg:(w3.alloc (.cells cs T)).grownBy w4 v.ownBlock):PgJ w w4 v4 (acc++ [p]):=by
 have hsz:=hg.size
 simp at hsz
 obtain⟨D,hm,hD⟩:=hs
 refine⟨(h1.alloc h1.size (.cells cs T)).grown hg (by simp;omega) fun k hk=> ?_,by omega,⟨D,ownsMap_keep hm ?_,hD⟩,hn⟩
 · have:=(ho.lt k hk).1
   omega
 · rw[hg.block w.heap.size (by simp;omega) (ownsRow_lt ho w.heap.size (by omega)),Below.heap_alloc _ _ _ h2]
theorem tagPairs_in (A:Option Addr)(n cap:Nat)(l:List UInt8)(k:Nat)(w:World)(h:Byt w w.heap.size A n cap l)(hW:W10 w)(hm:n≤40000)(hk:k≤n) :
 Calls Tryz.prog 110 #[.slice A n cap,.int .i64 k] w fun e w'=>PairsPost (pairsOut l k) w e w':=by
 have hln:=h.length
 have HK:Hid (∀ W v acc,PgJ w W v acc→Byt W W.heap.size A n cap l∧W10 W):=Hd fun W v acc hJ=>⟨(h.below hJ.1).more hJ.1.size,hW.below hJ.1⟩
 have CB:Hid (∀ t,t≤n→ ∀ W v acc,PgJ w W v acc→Calls Tryz.prog 79 #[.slice A n cap,.int .i64 (t:Int)] W fun e w'=>e= .returned (.int .i64 (blankTo l t))∧W=w'):=Hd fun t ht W v acc hb=>blanks_c A n cap l t _ W (HK.out W v acc hb).1 (by omega) ht
 have CP:Hid (∀ t:Nat,t≤n→ ∀ W v acc,PgJ w W v acc→Calls Tryz.prog 140 #[.slice A n cap,.int .i64 (t:Int)] W fun e w'=>e= .returned (tpairV (pairOut l t))∧Below W.heap.size W w'):=Hd fun t ht W v acc hb=>tagPair_c A n cap l t W (HK.out W v acc hb).1 (HK.out W v acc hb).2 hm ht
 have HLn:=Hd hln
 have HKn:=Hd (And.intro hm hk)
 have HBy:Hid (Byt w w.heap.size A n cap l):=Hd h
 have hk': ¬ (n:Int)<(k:Int):=by omega
 have hk0: ¬ (k:Int)<0:=by omega
 have hmm:= @run_makeMap Tryz.prog
 have hkn: ¬ n<k:=by omega
 clear h hW hln hk hm HK
 go_enter Tryz.func110,Tryz.ntmps110
 go_wp2_with fail
 go_step3
 go_wp2_with fail
 go_step3
 go_wp2_with fail
 go_loopg [1,7] (n) (fun g i v wr=> ∃ (t:Nat) (acc:List PairL) (f:Nat),i= .int .i64 (t:Int)∧t≤n∧Hid (g=f)∧Hid (n≤f+t)∧Hid (acc.length≤t)∧Hid (pairsOut l k=pairsR l (f+1) acc t)∧Hid (PgJ w wr v acc))
 case atStart=>exact⟨k,[],n,rfl,HKn.out.2,Hd rfl,Hd (by omega),Hd (Nat.zero_le _),Hd (by unfold pairsOut;rw[HLn.out]),Hd (PgJ.start w)⟩
 case round =>
  obtain⟨t,acc,f,rfl,ht,hgf,hg,hal,HE,HJ⟩:=hrel
  have hm:=HKn.out.1
  have ht0:(0:Int)≤(t:Int):=by omega
  have htb:(t:Int)≤40000:=by omega
  have c1:=CB.out t ht _ _ _ HJ.out
  have hbl:=blankTo_le l t (by rw[HLn.out];exact ht)
  rw[HLn.out]at hbl
  have hst:=fun (h:stopB l (blankTo l t) t=true)=>HE.out.trans (pairs_stop (f:=_) (acc:=acc) h)
  have hbd:=fun (h:stopB l (blankTo l t) t=false) (e:Nat) (he:(pairOut l (blankTo l t)).2.2=e) (h0:e≠0)=>HE.out.trans (pairs_bad (f:=_) (acc:=acc) h he h0)
  have htw:=fun (h:stopB l (blankTo l t) t=false) he h0=>HE.out.trans (pairs_twice (f:=_) (acc:=acc) h he h0)
  have hmo:=fun (h:stopB l (blankTo l t) t=false) he h0=>HE.out.trans (pairs_more (f:=_) (acc:=acc) h he h0)
  generalize blankTo l t=b at *
  have hb0:(0:Int)≤(b:Int):=by omega
  have hb1:(b:Int)≤40000:=by omega
  have C1:=Hd c1
  clear c1
  by_cases hbt:b=t
  · have hE:=Hd (hst (stop_eq hbt))
    have hbe:((b:Int)==(t:Int))=true:=by simp;omega
    clear hst hbd htw hmo hmm hbt
    go_wp2_with fail
    refine(C1.out).mono ?_
    rintro e wq ⟨rfl,rfl⟩
    go_wp2
    go_ret3
    rw[hE.out]
    exact PairsPost.good HJ.out.2.2.2 rfl HJ.out.1 (Nat.le_succ _)
  · have hbe:((b:Int)==(t:Int))=false:=by simp;omega
    by_cases hbn:b<n
    · obtain⟨bb,o,c,rfl,hbB,hc,hcell⟩:=(HBy.out.below HJ.out.1).cell hbn
      have hbne:((b:Int)==(n:Int))=false:=by simp;omega
      have c0:(0:Int)≤(c.toNat:Int):=by omega
      have c9:(c.toNat:Int)≤255:=by have:=c.toNat_lt;omega
      by_cases h47:c=47
      · have hE:=Hd (hst (stop_at hc (Or.inl h47)))
        subst h47
        have hcell':wr.cell? ⟨bb,o+b,none⟩=some (.int .u8 47):=hcell
        clear hst hbd htw hmo hmm hbt hc hcell
        go_wp2_with fail
        refine(C1.out).mono ?_
        rintro e wq ⟨rfl,rfl⟩
        go_wp2
        go_ret3
        rw[hE.out]
        exact PairsPost.good HJ.out.2.2.2 rfl HJ.out.1 (Nat.le_succ _)
      · by_cases h62:c=62
        · have hE:=Hd (hst (stop_at hc (Or.inr h62)))
          subst h62
          have hcell':wr.cell? ⟨bb,o+b,none⟩=some (.int .u8 62):=hcell
          clear hst hbd htw hmo hmm hbt hc hcell
          go_wp2_with fail
          refine(C1.out).mono ?_
          rintro e wq ⟨rfl,rfl⟩
          go_wp2
          go_ret3
          rw[hE.out]
          exact PairsPost.good HJ.out.2.2.2 rfl HJ.out.1 (Nat.le_succ _)
        · have hsn:=stop_no (t:=t) hc hbt h47 h62
          have n47:((c.toNat:Int)==47)=false:=by
           have:c.toNat≠47:=fun e=>h47 (UInt8.toNat_inj.1 e)
           simp;omega
          have n62:((c.toNat:Int)==62)=false:=by
           have:c.toNat≠62:=fun e=>h62 (UInt8.toNat_inj.1 e)
           simp;omega
          have c2:=CP.out b (by omega) _ _ _ HJ.out
          have hpo:=pairOut_ok l b (by rw[HLn.out];omega)
          rw[HLn.out]at hpo
          clear hst hc h47 h62 hbt
          generalize pairOut l b=p at *
          obtain⟨⟨s,pv⟩,nx,e⟩:=p
          unfold tpairV at c2
          simp only at c2 hpo hbd htw hmo
          have C2:=Hd c2
          clear c2
          by_cases he:e=0
          · subst he
            obtain⟨hp1,hp2,hp3,hp4⟩:=hpo rfl
            have htx:t<nx:=by omega
            have hkey:keyOf Tryz.prog 9 (.string ⟨s.toArray⟩)=some (.string s):=by
             have:=Go.WideMaps.keyOf_string_mk (P:=Tryz.prog) Tryz.underlying9 (s:=⟨s.toArray⟩) (by simp[ByteArray.size];unfold maxLen;omega)
             simpa using this
            have HKEY:=Hd hkey
            cases hh:hasN acc s with
            |true =>
             have hE:=Hd (htw hsn rfl hh)
             clear hbd htw hmo hmm hsn
             go_wp2_with fail
             refine(C1.out).mono ?_
             rintro e wq ⟨rfl,rfl⟩
             go_wp2_with fail
             refine C2.out.mono ?_
             rintro e1 w1 ⟨rfl,hb⟩
             have J1:=Hd (HJ.out.kept hb)
             clear hb
             have J2:=Hd (J1.out.kept ((Below.refl _ w1).alloc (Nat.le_refl _) (.cells #[.string ⟨s.toArray⟩,.string ⟨pv.toArray⟩] 66)))
             have hq:=hp_new w1 (.cells #[.string ⟨s.toArray⟩,.string ⟨pv.toArray⟩] 66)
             have z0:(w1.alloc (.cells #[.string ⟨s.toArray⟩,.string ⟨pv.toArray⟩] 66)).cell? ⟨w1.heap.size,0,none⟩=some (.string ⟨s.toArray⟩):=cell_of 0 hq
             obtain⟨D,hown,hD⟩:=J2.out.2.2.1
             have HD:Hid (∀ c:Int,D.atKey (.string s) (.lit (.int .i64 0))= .lit (.int .i64 c)→c=1):=Hd fun c hc=>by
              rw[hD s,hh]at hc
              simp at hc
              exact hc.symm
             have HI:=Hd (ownsMap_is hown)
             clear hD hh
             go_wp2_with (first
              |(at_lookup;refine wpList_lookup_own_int _ rfl _ _ 98 rfl 9 3 .i64 lawS Tryz.underlying98 Tryz.underlying3 (zeroI _) w.heap.size acc.length _ rfl hown _ _ rfl HKEY.out ?_;intro c hat hwc;obtain rfl:=HD.out c hat)
              |(at_mapUpdate;refine wpList_mapUpdate_own _ rfl _ _ _ 98 rfl 9 3 lawS Tryz.underlying98 _ w.heap.size acc.length _ rfl hown (by have:=hal.out;unfold maxLen;omega) _ _ _ rfl rfl HKEY.out _ [] (plainElem_int Tryz.underlying3 (by decide)) ?_))
             intro w3 hown3 hgrow3
             have J3:=Hd (J2.out.count hgrow3)
             have z3:w3.cell? ⟨w1.heap.size,0,none⟩=some (.string ⟨s.toArray⟩):=by
              have:=J1.out.2.1
              rw[cell_of 0 ((hgrow3.block w1.heap.size (by simp) (by simp;omega)).trans hq)];rfl
             have HD3:Hid (∀ c:Int,(D.put (.string s) (.lit (.int .i64 2))).atKey (.string s) (.lit (.int .i64 0))= .lit (.int .i64 c)→c=2):=Hd fun c hc=>by
              rw[Go.Maps.atKey_put_same HI.out (by simp[WideAt.IsKeyLit])]at hc
              simp at hc
              exact hc.symm
             clear hown hgrow3 z0 hq
             go_wp2_with (at_lookup;refine wpList_lookup_own_int _ rfl _ _ 98 rfl 9 3 .i64 lawS Tryz.underlying98 Tryz.underlying3 (zeroI _) w.heap.size (acc.length+1) _ rfl hown3 _ _ rfl HKEY.out ?_;intro c hat hwc;obtain rfl:=HD3.out c hat)
             go_ret3
             rw[hE.out]
             exact PairsPost.bad rfl J3.out.1
            |false =>
             have hE:=Hd (hmo hsn rfl hh)
             clear hbd htw hmo hmm hsn
             go_wp2_with fail
             refine(C1.out).mono ?_
             rintro e wq ⟨rfl,rfl⟩
             go_wp2_with fail
             refine C2.out.mono ?_
             rintro e1 w1 ⟨rfl,hb⟩
             have J1:=Hd (HJ.out.kept hb)
             clear hb
             have J2:=Hd (J1.out.kept ((Below.refl _ w1).alloc (Nat.le_refl _) (.cells #[.string ⟨s.toArray⟩,.string ⟨pv.toArray⟩] 66)))
             have hq:=hp_new w1 (.cells #[.string ⟨s.toArray⟩,.string ⟨pv.toArray⟩] 66)
             have z0:(w1.alloc (.cells #[.string ⟨s.toArray⟩,.string ⟨pv.toArray⟩] 66)).cell? ⟨w1.heap.size,0,none⟩=some (.string ⟨s.toArray⟩):=cell_of 0 hq
             obtain⟨D,hown,hD⟩:=J2.out.2.2.1
             have HD:Hid (∀ c:Int,D.atKey (.string s) (.lit (.int .i64 0))= .lit (.int .i64 c)→c=0):=Hd fun c hc=>by
              rw[hD s,hh]at hc
              simp at hc
              exact hc.symm
             have HI:=Hd (ownsMap_is hown)
             have HS:=Hd (seen_snoc (p:=(s,pv)) HI.out hD hh)
             clear hD hh
             go_wp2_with (first
              |(at_lookup;refine wpList_lookup_own_int _ rfl _ _ 98 rfl 9 3 .i64 lawS Tryz.underlying98 Tryz.underlying3 (zeroI _) w.heap.size acc.length _ rfl hown _ _ rfl HKEY.out ?_;intro c hat hwc;obtain rfl:=HD.out c hat)
              |(at_mapUpdate;refine wpList_mapUpdate_own _ rfl _ _ _ 98 rfl 9 3 lawS Tryz.underlying98 _ w.heap.size acc.length _ rfl hown (by have:=hal.out;unfold maxLen;omega) _ _ _ rfl rfl HKEY.out _ [] (plainElem_int Tryz.underlying3 (by decide)) ?_))
             intro w3 hown3 hgrow3
             have J3:=Hd (J2.out.count hgrow3)
             have hq3:w3.heap[w1.heap.size]? =some (.cells #[.string ⟨s.toArray⟩,.string ⟨pv.toArray⟩] 66):=by
              have:=J1.out.2.1
              exact(hgrow3.block w1.heap.size (by simp) (by simp;omega)).trans hq
             have z3:w3.cell? ⟨w1.heap.size,0,none⟩=some (.string ⟨s.toArray⟩):=cell_of 0 hq3
             have z4:w3.cell? ⟨w1.heap.size,1,none⟩=some (.string ⟨pv.toArray⟩):=cell_of 1 hq3
             have HD3:Hid (∀ c:Int,(D.put (.string s) (.lit (.int .i64 1))).atKey (.string s) (.lit (.int .i64 0))= .lit (.int .i64 c)→c=1):=Hd fun c hc=>by
              rw[Go.Maps.atKey_put_same HI.out (by simp[WideAt.IsKeyLit])]at hc
              simp at hc
              exact hc.symm
             have HSe:Hid (Seen w3 w.heap.size (acc++ [(s,pv)]).length (acc++ [(s,pv)])):=Hd ⟨_,by rw[List.length_append];exact hown3,HS.out⟩
             have hacc:acc.length≤1000000000:=by have:=hal.out;omega
             have hbase:w.heap.size+1≤w3.heap.size:=J3.out.2.1
             clear hgrow3 z0 hq hown
             go_wp2_with (first
              |(at_lookup;refine wpList_lookup_own_int _ rfl _ _ 98 rfl 9 3 .i64 lawS Tryz.underlying98 Tryz.underlying3 (zeroI _) w.heap.size (acc.length+1) _ rfl hown3 _ _ rfl HKEY.out ?_;intro c hat hwc;obtain rfl:=HD3.out c hat)
              |(at_builtin;refine wpList_app2 rfl (.tmp 68) (.tmp 70) 45 66 rfl (.agg #[.string ⟨#[]⟩,.string ⟨#[]⟩]) 32 Tryz.underlying45 info_pair rfl (w.heap.size+1) _ acc.length (cellsP acc) rfl J3.out.2.2 (.string ⟨s.toArray⟩) (.string ⟨pv.toArray⟩) rfl rfl rfl hacc (by decide) hbase ?_))
             intro v4 w4 hown4 hgrow4
             have J4:Hid (PgJ w w4 v4 (acc++ [(s,pv)])):=Hd (PgJ.appended J3.out.1 J3.out.2.1 HSe.out J3.out.2.2 (by rw[cellsP_snoc,List.length_append];exact hown4) hgrow4)
             clear hgrow4 hown4 HSe z3 z4 hq3
             go_wp2
             go_roundg (f - 1)
             case measure=>have:=hg.out;have:=hgf.out;omega
             case rel=>exact⟨nx,acc++ [(s,pv)],f - 1,rfl,by omega,Hd rfl,Hd (by have:=hg.out;omega),Hd (by have:=hal.out;simp;omega),Hd (by rw[hE.out,show f - 1+1=f by have:=hg.out;omega]),J4⟩
          · have hE:=Hd (hbd hsn e rfl he)
            have hei:((e:Int)==0)=false:=by simp;omega
            clear hbd htw hmo hmm hsn hpo
            go_wp2_with fail
            refine(C1.out).mono ?_
            rintro e wq ⟨rfl,rfl⟩
            go_wp2_with fail
            refine C2.out.mono ?_
            rintro e1 w1 ⟨rfl,hb⟩
            have J1:=Hd (HJ.out.kept hb)
            clear hb
            have J2:=Hd (J1.out.kept ((Below.refl _ w1).alloc (Nat.le_refl _) (.cells #[.string ⟨s.toArray⟩,.string ⟨pv.toArray⟩] 66)))
            go_wp2
            go_ret3
            rw[hE.out]
            exact PairsPost.bad rfl J2.out.1
    · obtain rfl:b=n:=by omega
      have hE:=Hd (hst (stop_end (by rw[List.getElem?_eq_none];rw[HLn.out];exact Nat.le_refl _)))
      have hbne:((b:Int)==(b:Int))=true:=by simp
      clear hst hbd htw hmo hmm hbt
      go_wp2_with fail
      refine(C1.out).mono ?_
      rintro e wq ⟨rfl,rfl⟩
      go_wp2
      go_ret3
      rw[hE.out]
      exact PairsPost.good HJ.out.2.2.2 rfl HJ.out.1 (Nat.le_succ _)
structure TokV where
 t:TokL
 A:Option Addr
 n:Nat
 c:Nat
def TokV.cells (v:TokV):List Value:= [.int .i64 v.t.kind,.int .i64 v.t.fro,.int .i64 v.t.to_,.string ⟨v.t.name.toArray⟩,.string ⟨v.t.text.toArray⟩,.slice v.A v.n v.c,.int .i64 v.t.r]
def cellsK (vs:List TokV):List Value:=vs.flatMap TokV.cells
theorem cellsK_length (vs:List TokV):(cellsK vs).length=vs.length*7:=by
 induction vs with
 |nil=>rfl
 |cons v vs ih =>
  have:cellsK (v :: vs)=v.cells++cellsK vs:=rfl
  rw[this,List.length_append,ih]
  simp[TokV.cells]
  omega
theorem cellsK_snoc (vs:List TokV)(v:TokV):cellsK (vs++ [v])=cellsK vs++v.cells:=by simp[cellsK]
theorem cellsK_get: ∀ (vs:List TokV) (i:Nat) (v:TokV),vs[i]? =some v→ ∀ (j:Nat) u,v.cells[j]? =some u→(cellsK vs)[i*7+j]? =some u
 | [],i,v,h,j,u,hu=>by simp at h
 |x :: vs,0,v,h,j,u,hu=>by
  simp at h
  subst h
  have e:cellsK (x :: vs)=x.cells++cellsK vs:=rfl
  have hj:j<x.cells.length:=(List.getElem?_eq_some_iff.1 hu).1
  rw[e,Nat.zero_mul,Nat.zero_add,List.getElem?_append_left hj]
  exact hu
 |x :: vs,i+1,v,h,j,u,hu=>by
  have e:cellsK (x :: vs)=x.cells++cellsK vs:=rfl
  have hx:x.cells.length=7:=rfl
  rw[e,List.getElem?_append_right (by rw[hx];omega),hx,show(i+1)*7+j - 7=i*7+j by omega]
  exact cellsK_get vs i v (by simpa using h) j u hu
structure TRd (w:World) (B:Nat) (A:Option Addr) (n cap:Nat) (vs:List TokV):Prop where
 len:vs.length=n
 le:n≤cap
 fit:cap≤maxLen
 nil:A=none→cap=0
 at_:0<cap→ ∃ b o,A=some ⟨b,o,none⟩∧b<B∧ ∀ i v,vs[i]? =some v→ ∀ (j:Nat) u,v.cells[j]? =some u→w.cell? ⟨b,o+(i*7+j),none⟩=some u
 prs: ∀ v∈vs,PRd w B v.A v.n v.c v.t.pairs
theorem TRd.keep {w w':World}{B n cap:Nat}{A:Option Addr}{vs:List TokV}(h:TRd w B A n cap vs)(hk: ∀ p:Addr,p.block<B→w'.cell? p=w.cell? p):TRd w' B A n cap vs :=
 ⟨h.len,h.le,h.fit,h.nil,fun h0=>by
   obtain⟨b,o,e,hb,hc⟩:=h.at_ h0
   exact⟨b,o,e,hb,fun i v hv j u hu=>(hk ⟨b,_,none⟩ hb).trans (hc i v hv j u hu)⟩,fun v hv=>(h.prs v hv).keep hk⟩
theorem TRd.more {w:World}{B B' n cap:Nat}{A:Option Addr}{vs:List TokV}(h:TRd w B A n cap vs)(hB:B≤B'):TRd w B' A n cap vs :=
 ⟨h.len,h.le,h.fit,h.nil,fun h0=>by
   obtain⟨b,o,e,hb,hc⟩:=h.at_ h0
   exact⟨b,o,e,by omega,hc⟩,fun v hv=>(h.prs v hv).more hB⟩
theorem TRd.below {w w':World}{B n cap:Nat}{A:Option Addr}{vs:List TokV}(h:TRd w B A n cap vs)(hb:Below B w w'):TRd w' B A n cap vs:=h.keep fun p hp=>hb.cell hp
theorem TRd.up {w w':World}{n cap:Nat}{A:Option Addr}{vs:List TokV}(h:TRd w w.heap.size A n cap vs)(hb:Below w.heap.size w w'):TRd w' w'.heap.size A n cap vs:=(h.below hb).more hb.size
theorem TRd.drewN {w:World}{B n cap k:Nat}{A:Option Addr}{vs:List TokV}(h:TRd w B A n cap vs):TRd (w.drewN k) B A n cap vs:=h.keep (w':=w.drewN k) fun _ _=>rfl
theorem TRd.nilR (w:World)(B:Nat):TRd w B none 0 0 []:=⟨rfl,Nat.le_refl _,Nat.zero_le _,fun _=>rfl,fun h=>absurd h (by omega),fun v hv=>by cases hv⟩
theorem TRd.ofOwn {w:World}{base:Nat}{e:TypeId}{v:Value}{n:Nat}{vs:List TokV}(h:w.ownsRow base e 7 v n (cellsK vs))(hp: ∀ v∈vs,PRd w w.heap.size v.A v.n v.c v.t.pairs): ∃ A c,v= .slice A n c∧TRd w w.heap.size A n c vs:=by
 obtain⟨hl,h2|⟨g,cap,cur,hv,hg,hh,hn,hc,hs,ht⟩⟩:=h
 · obtain⟨hv,hn⟩:=h2
   subst hn
   rw[cellsK_length]at hl
   have:vs= []:=List.length_eq_zero_iff.1 (by omega)
   subst this
   exact⟨none,0,hv,TRd.nilR w _⟩
 · rw[cellsK_length]at hl
   refine⟨_,cap,hv,by omega,hn,hc,(fun e=>by cases e),fun _=>⟨g,0,rfl,lt_of hh,fun i p hp j u hu=> ?_⟩,hp⟩
   have hi:i<vs.length:=(List.getElem?_eq_some_iff.1 hp).1
   have hj:j<7:=(List.getElem?_eq_some_iff.1 hu).1
   have hcp:=cellsK_get vs i p hp j u hu
   rw[← ht,List.getElem?_take_of_lt (by omega)]at hcp
   rw[cell_of _ hh,Nat.zero_add]
   simpa using hcp
theorem TRd.cell {w:World}{B n cap:Nat}{A:Option Addr}{vs:List TokV}{i:Nat}(h:TRd w B A n cap vs)(hi:i<n) :
 ∃ b o v,A=some ⟨b,o,none⟩∧b<B∧vs[i]? =some v∧(∀ (j:Nat) u,v.cells[j]? =some u→w.cell? ⟨b,o+(i*7+j),none⟩=some u)∧PRd w B v.A v.n v.c v.t.pairs:=by
 obtain⟨b,o,e,hb,hc⟩:=h.at_ (by have:=h.le;omega)
 have hl:i<vs.length:=by rw[h.len];exact hi
 have hp:=List.getElem?_eq_getElem hl
 exact⟨b,o,vs[i],e,hb,hp,hc i _ hp,h.prs _ (List.mem_of_getElem? hp)⟩
structure GrowT (T:TypeId) (w wr:World) (base:Nat) (v:Value) (vs:List TokV):Prop where
 below:Below w.heap.size w wr
 base0:w.heap.size≤base
 base1:base≤wr.heap.size
 own:wr.ownsRow base T 7 v vs.length (cellsK vs)
 prs: ∀ x∈vs,PRd wr wr.heap.size x.A x.n x.c x.t.pairs
 off: ∀ x∈vs,0<x.c→ ∀ b i,x.A=some ⟨b,i,none⟩→some b≠v.ownBlock
theorem GrowT.start (T:TypeId)(w:World):GrowT T w w w.heap.size (.slice none 0 0) [] :=
 ⟨Below.refl _ _,Nat.le_refl _,Nat.le_refl _,⟨rfl,.inl ⟨rfl,rfl⟩⟩,fun x hx=>(by cases hx),fun x hx=>(by cases hx)⟩
theorem ownBlock_lt {w:World}{base:Nat}{e:TypeId}{c n:Nat}{v:Value}{xs:List Value}(h:w.ownsRow base e c v n xs){b:Nat}(hb:v.ownBlock=some b):b<w.heap.size∧base≤b:=by
 obtain⟨hl,⟨hv,_⟩|⟨g,cap,cur,hv,hg,hh,r⟩⟩:=h
 · rw[hv]at hb;simp[Value.ownBlock]at hb
 · rw[hv]at hb;simp[Value.ownBlock]at hb;subst hb;exact⟨lt_of hh,hg⟩
theorem GrowT.kept {T:TypeId}{w wr w':World}{base:Nat}{v:Value}{vs:List TokV}(h:GrowT T w wr base v vs)(hb:Below wr.heap.size wr w'):GrowT T w w' base v vs :=
 ⟨h.below.trans (hb.mono h.below.size),h.base0,by have:=h.base1;have:=hb.size;omega,ownsRow_keep h.own fun g _ hg=>hb.block g hg,fun x hx=>((h.prs x hx).below hb).more hb.size,h.off⟩
theorem PRd.moveC {w w':World}{B B' n cap:Nat}{A:Option Addr}{ps:List PairL}(h:PRd w B A n cap ps)(hB:B≤B')(hk:0<cap→ ∀ b i,A=some ⟨b,i,none⟩→b<B→w'.heap[b]? =w.heap[b]?):PRd w' B' A n cap ps:=by
 by_cases h0:0<cap
 · exact h.move hB (hk h0)
 · exact⟨h.len,h.le,h.fit,h.nil,fun h1=>absurd h1 h0⟩
theorem GrowT.appended {T:TypeId}{w wr w':World}{base:Nat}{v v':Value}{vs:List TokV}{x:TokV}{us:Array Value}(h:GrowT T w wr base v vs)(hx:PRd wr wr.heap.size x.A x.n x.c x.t.pairs)(hoff:0<x.c→ ∀ b i,x.A=some ⟨b,i,none⟩→some b≠v.ownBlock)
 (hown:w'.ownsRow base T 7 v' (vs.length+1) (cellsK vs++x.cells)) (hg:(wr.alloc (.cells us T)).grownBy w' v.ownBlock) (hat:v'.ownBlock=v.ownBlock∨v'.ownBlock=some (wr.heap.size+1)):GrowT T w w' base v' (vs++ [x]):=by
 have hsz:=hg.size
 rw[World.size_alloc]at hsz
 have hbl: ∀ b,b<wr.heap.size→some b≠v.ownBlock→w'.heap[b]? =wr.heap[b]? :=fun b hb hne=>by
  rw[hg.block b (by rw[World.size_alloc];omega) hne,Below.heap_alloc _ _ _ hb]
 have hpr: ∀ y:TokV,PRd wr wr.heap.size y.A y.n y.c y.t.pairs→(0<y.c→ ∀ b i,y.A=some ⟨b,i,none⟩→some b≠v.ownBlock)→PRd w' w'.heap.size y.A y.n y.c y.t.pairs:=fun y hy ho =>
  hy.moveC (by omega) fun h0 b i hA hb=>hbl b hb (ho h0 b i hA)
 have hof: ∀ y:TokV,PRd wr wr.heap.size y.A y.n y.c y.t.pairs→(0<y.c→ ∀ b i,y.A=some ⟨b,i,none⟩→some b≠v.ownBlock)→0<y.c→ ∀ b i,y.A=some ⟨b,i,none⟩→some b≠v'.ownBlock:=fun y hy ho h0 b i hA=>by
  rcases hat with e|e
  · rw[e];exact ho h0 b i hA
  · rw[e]
    intro hh
    obtain⟨b2,o,e2,hb2,_⟩:=hy.at_ h0
    rw[hA]at e2
    cases e2
    cases hh
    omega
 refine⟨(h.below.alloc h.below.size (.cells us T)).grown hg (by rw[World.size_alloc];have:=h.below.size;omega) fun k hk=> ?_,h.base0,by have:=h.base1;omega,by rw[List.length_append,cellsK_snoc];exact hown,?_,?_⟩
 · exact Nat.le_trans h.base0 (ownBlock_lt h.own hk).2
 · intro y hy
   rcases List.mem_append.1 hy with hy|hy
   · exact hpr y (h.prs y hy) (h.off y hy)
   · rw[List.mem_singleton]at hy;subst hy;exact hpr y hx hoff
 · intro y hy
   rcases List.mem_append.1 hy with hy|hy
   · exact hof y (h.prs y hy) (h.off y hy)
   · rw[List.mem_singleton]at hy;subst hy;exact hof y hx hoff
def MaxL (w:World):Prop:= ∃ m:Int,w.cell? ⟨0,0,none⟩=some (.int .i64 m)
theorem MaxL.lt {w:World}(h:MaxL w):0<w.heap.size:=by
 obtain⟨m,hm⟩:=h
 exact World.block_lt_of_cell? w _ hm
theorem MaxL.below {w w':World}{B:Nat}(h:MaxL w)(hb:Below B w w')(hB:0<B):MaxL w':=by
 obtain⟨m,hm⟩:=h
 exact⟨m,by rw[hb.cell hB];exact hm⟩
theorem MaxL.drewN {w:World}(h:MaxL w)(n:Nat):MaxL (w.drewN n):=h
theorem lib_hasPrefix (a b:List UInt8):Lib.hasPrefix a b=b.isPrefixOf a:=rfl
theorem cutPrefix_yes (A1 A2:Option Addr)(n1 c1 n2 c2:Nat)(l1 l2:List UInt8)(w:World)(B1 B2:Nat)(h1:Byt w B1 A1 n1 c1 l1)(h2:Byt w B2 A2 n2 c2 l2)(hn:0<n2)(hp:l2.isPrefixOf l1=true) :
 Calls Tryz.prog 99 #[.slice A1 n1 c1,.slice A2 n2 c2] w fun e w'=>e= .returned (.tuple #[.slice (cutA A1 c1 n2) (n1 - n2) (c1 - n2),.bool true])∧w=w':=by
 refine(Tryz.bytes_CutPrefix_all A1 A2 n1 c1 n2 c2 (nums l1) (nums l2) w (by rw[nums_length,h1.length]) (by rw[nums_length,h2.length]) h1.le h1.bytesIn h2.bytesIn).mono fun e w' ⟨he,hw⟩=>⟨?_,hw.symm⟩
 have hln:n2≤n1:=by
  have:=(List.isPrefixOf_iff_prefix.1 hp).length_le
  rw[h1.length,h2.length]at this
  exact this
 obtain⟨b,o,rfl,_⟩:=h1.at_ (by have:=h1.le;omega)
 rw[he,bytesOf_nums,bytesOf_nums,lib_hasPrefix,hp]
 congr 3
 have key:Lib.trimPrefixV (some ⟨b,o,none⟩) n1 c1 (nums l1) (nums l2)=Lib.bytesTrimPrefix b o n1 c1 (nums l1) (nums l2):=by
  cases hy:nums l2 with
  |nil =>
   have:(nums l2).length=0:=by rw[hy];rfl
   rw[nums_length,h2.length]at this
   omega
  |cons y ys=>rfl
 rw[key]
 unfold Lib.bytesTrimPrefix
 rw[bytesOf_nums,bytesOf_nums,lib_hasPrefix,hp,if_pos rfl,nums_length,h2.length]
 unfold Lib.sliceFrom cutA
 rw[Option.map_some,addr_add]
theorem cutPrefix_no (A1 A2:Option Addr)(n1 c1 n2 c2:Nat)(l1 l2:List UInt8)(w:World)(B1 B2:Nat)(h1:Byt w B1 A1 n1 c1 l1)(h2:Byt w B2 A2 n2 c2 l2)(hp:l2.isPrefixOf l1=false) :
 Calls Tryz.prog 99 #[.slice A1 n1 c1,.slice A2 n2 c2] w fun e w'=>e= .returned (.tuple #[.slice A1 n1 c1,.bool false])∧w=w':=by
 refine(Tryz.bytes_CutPrefix_all A1 A2 n1 c1 n2 c2 (nums l1) (nums l2) w (by rw[nums_length,h1.length]) (by rw[nums_length,h2.length]) h1.le h1.bytesIn h2.bytesIn).mono fun e w' ⟨he,hw⟩=>⟨?_,hw.symm⟩
 rw[he,bytesOf_nums,bytesOf_nums,lib_hasPrefix,hp]
 congr 3
 unfold Lib.trimPrefixV
 split <;> simp[Lib.bytesTrimPrefix,bytesOf_nums,lib_hasPrefix,hp]
theorem bindex_c (A1 A2:Option Addr)(n1 c1 n2 c2:Nat)(l1 l2:List UInt8)(w:World)(B1 B2:Nat)(h1:Byt w B1 A1 n1 c1 l1)(h2:Byt w B2 A2 n2 c2 l2)(hM:MaxL w)(hn:0<n2)(hm1:n1≤1000000)(hm2:n2≤1000000) :
 Calls Tryz.prog 80 #[.slice A1 n1 c1,.slice A2 n2 c2] w fun e w'=>e= .returned (.int .i64 (Lib.index l1 l2))∧ ∃ q,w'=w.drewN q:=by
 obtain⟨b2,o2,rfl,_,hc2⟩:=h2.at_ (by have:=h2.le;omega)
 have hc2': ∀ i,i<n2→w.cell? ((⟨b2,o2,none⟩:Addr).add i)=some (.int .u8 ((nums l2).getD i 0)):=by
  obtain⟨b,o,e,hc⟩:=h2.cells (by have:=h2.le;omega)
  cases e
  intro i hi
  rw[addr_add]
  exact hc i hi
 cases A1 with
 |none =>
  have h0:=h1.nil rfl
  subst h0
  have h00:n1=0:=by have:=h1.le;omega
  subst h00
  have hl:l1= []:=List.length_eq_zero_iff.1 h1.length
  subst hl
  refine(Tryz.bytes_Index_nil _ n2 c2 w (by omega) (fun e1=>⟨b2,o2,_,rfl,by have:=hc2' 0 hn;rwa [addr_add]at this⟩)).mono fun e w' ⟨he,hw⟩=>⟨?_,0,hw⟩
  rw[he,if_neg (by omega)]
  have hl2:l2≠ []:=by intro e;subst e;have:=h2.length;simp at this;omega
  cases l2 with
  |nil=>exact absurd rfl hl2
  |cons a t=>rfl
 |some a =>
  obtain⟨m,hm⟩:=hM
  have hc1': ∀ i,i<n1→w.cell? (a.add i)=some (.int .u8 ((nums l1).getD i 0)):=by
   intro i hi
   obtain⟨b,o,e,hc⟩:=h1.cells (by have:=h1.le;omega)
   cases e
   rw[addr_add]
   exact hc i hi
  refine(Tryz.bytes_Index_at a ⟨b2,o2,none⟩ n1 c1 n2 c2 (nums l1) (nums l2) m w (by rw[nums_length,h1.length]) (by rw[nums_length,h2.length]) (nums_range l1) (nums_range l2) hc1' hc2' h1.le (by omega) (by omega) hm).mono fun e w' ⟨he,hw⟩=>⟨?_,hw⟩
  rw[he,bytesOf_nums,bytesOf_nums]
theorem contains_c (l1 l2:List UInt8)(w:World)(hM:MaxL w)(hm1:l1.length≤1000000) :
 Calls Tryz.prog 88 #[.string ⟨l1.toArray⟩,.string ⟨l2.toArray⟩] w fun e w'=>e= .returned (.bool (Lib.contains l1 l2))∧w=w':=by
 obtain⟨m,hm⟩:=hM
 exact(Tryz.strings_Contains ⟨l1.toArray⟩ ⟨l2.toArray⟩ m w (by simp[ByteArray.size];omega) hm).mono fun e w' ⟨he,hw⟩=>⟨he,hw.symm⟩
end Go.Proofs.YtbafljibbabnaaaGreatDoor
