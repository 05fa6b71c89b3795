/- Texts of ours, joined: Num, LitP, Enc, Pub, Blank, Shelf2, Build, Esc, Esc2, Known, EscP. -/
import Derived.Lib.VarintBits
import Derived.Lib.Builder
import Derived.Lib.AppendStr
import Derived.Lib.UnsafeStr
import Derived.Laws.Externs
import Derived.Lib.AtoiErrMem
import Derived.Test.YtbafljibbabnaaaGreatDoorQ7
namespace Go.Proofs.YtbafljibbabnaaaGreatDoor
open Go.ChangeShapes Go.WideShapes Go.ChangeAt Go.RowKit
set_option linter.unusedVariables false
set_option maxRecDepth 100000
set_option maxHeartbeats 32000000
theorem digit_lt (b:Int)(hb:b=10∨b=16)(r:Int):digit b r<b∧ -1≤digit b r:=by
 unfold digit
 rcases hb with rfl|rfl <;> (repeat' split) <;> omega
def digs (b:Int):List UInt8→List UInt8
 | []=> []
 |c :: t=>if 0≤digit b c.toNat then c :: digs b t else []
theorem digs_le (b:Int)(l:List UInt8):(digs b l).length≤l.length:=by
 induction l with
 |nil=>simp [digs]
 |cons c t ih=>unfold digs;split <;> simp <;> omega
theorem digs_mem (b:Int)(l:List UInt8): ∀ c∈digs b l,0≤digit b c.toNat:=by
 induction l with
 |nil=>simp [digs]
 |cons c t ih =>
  intro d hd
  unfold digs at hd
  split at hd
  · rcases List.mem_cons.1 hd with rfl|hd
    · assumption
    · exact ih d hd
  · simp at hd
theorem digs_at (b:Int)(l:List UInt8)(k:Nat)(c:UInt8)(hk:k≤(digs b l).length)(hc:l[k]? =some c):k<(digs b l).length ↔ 0≤digit b c.toNat:=by
 induction l generalizing k with
 |nil=>simp at hc
 |cons d t ih =>
  unfold digs at hk ⊢
  cases k with
  |zero =>
   simp at hc
   subst hc
   split <;> simp_all
  |succ k =>
   split at hk
   · rename_i h
     rw[if_pos h]
     simp only[List.length_cons,Nat.add_lt_add_iff_right]
     exact ih k (by simpa using hk) (by simpa using hc)
   · simp at hk
theorem digs_take (b:Int)(l:List UInt8):digs b l=l.take (digs b l).length:=by
 induction l with
 |nil=>simp [digs]
 |cons c t ih =>
  unfold digs
  split
  · simp only[List.length_cons,List.take_succ_cons];rw[← ih]
  · simp
def numC (b cap:Int)(l:List UInt8):Int:=l.foldl (fun r c=>min (r*b+digit b c.toNat) cap) 0
theorem numC_snoc (b cap:Int)(l:List UInt8)(c:UInt8):numC b cap (l++ [c])=min (numC b cap l*b+digit b c.toNat) cap:=by simp[numC]
def numU (b:Int)(l:List UInt8):Int:=l.foldl (fun r c=>r*b+digit b c.toNat) 0
theorem numU_snoc (b:Int)(l:List UInt8)(c:UInt8):numU b (l++ [c])=numU b l*b+digit b c.toNat:=by simp[numU]
theorem numU_nonneg (b:Int)(hb:1≤b)(l:List UInt8):(∀ c∈l,0≤digit b c.toNat)→0≤numU b l:=by
 refine snoc_induction (P:=fun l=>(∀ c∈l,0≤digit b c.toNat)→0≤numU b l) ?_ ?_ l
 · intro _;simp[numU]
 · intro l x ih h
   rw[numU_snoc]
   have h1:=ih fun c hc=>h c (List.mem_append_left _ hc)
   have h2:=h x (by simp)
   have h3:0≤numU b l*b:=Int.mul_nonneg h1 (by omega)
   omega
theorem numC_eq (b cap:Int)(hb:1≤b)(hc:0≤cap)(l:List UInt8):(∀ c∈l,0≤digit b c.toNat)→numC b cap l=min (numU b l) cap:=by
 refine snoc_induction (P:=fun l=>(∀ c∈l,0≤digit b c.toNat)→numC b cap l=min (numU b l) cap) ?_ ?_ l
 · intro _;simp only[numC,numU,List.foldl_nil];omega
 · intro l x ih h
   have h1:=ih fun c hc=>h c (List.mem_append_left _ hc)
   have h2:=h x (by simp)
   have h3:=numU_nonneg b hb l fun c hc=>h c (List.mem_append_left _ hc)
   rw[numC_snoc,numU_snoc,h1]
   by_cases hle:numU b l≤cap
   · rw[Int.min_eq_left hle]
   · rw[Int.min_eq_right (by omega:cap≤numU b l)]
     have e1:cap*1≤cap*b:=Int.mul_le_mul_of_nonneg_left hb hc
     have e2:numU b l*1≤numU b l*b:=Int.mul_le_mul_of_nonneg_left hb h3
     rw[Int.min_eq_right (by omega:cap≤cap*b+_),Int.min_eq_right (by omega:cap≤numU b l*b+_)]
theorem numC_le (b cap:Int)(hc:0≤cap)(l:List UInt8):numC b cap l≤cap:=by
 refine snoc_induction (P:=fun l=>numC b cap l≤cap) (by simpa [numC] using hc) (fun l x ih=> ?_) l
 rw[numC_snoc];exact Int.min_le_right _ _
theorem numC_nonneg (b cap:Int)(hb:1≤b)(hc:0≤cap)(l:List UInt8)(h: ∀ c∈l,0≤digit b c.toNat):0≤numC b cap l:=by
 rw[numC_eq b cap hb hc l h]
 have:=numU_nonneg b hb l h
 omega
theorem cap_doc (b cap:Int)(hb:1≤b)(hc:1114111<cap)(l:List UInt8)(h: ∀ c∈l,0≤digit b c.toNat):isDoc (numC b cap l)=isDoc (numU b l)∧(isDoc (numU b l)=true→numC b cap l=numU b l):=by
 rw[numC_eq b cap hb (by omega) l h]
 by_cases hle:numU b l≤cap
 · rw[Int.min_eq_left hle];exact⟨rfl,fun _=>rfl⟩
 · rw[Int.min_eq_right (by omega:cap≤numU b l)]
   have e1:isDoc cap=false:=by rw[Bool.eq_false_iff,Ne,isDoc_iff];omega
   have e2:isDoc (numU b l)=false:=by rw[Bool.eq_false_iff,Ne,isDoc_iff];omega
   exact⟨by rw[e1,e2],fun h=>by rw[e2]at h;cases h⟩
def charBody (b:Int)(cap:Int)(l:List UInt8)(from_:Nat):Int × Nat × Nat :=
 let ds:=digs b (l.drop from_)
 if ds.length=0∨l[from_+ds.length]? ≠some 59 then (0,0,7)
 else if isDoc (numC b cap ds)=true then (numC b cap ds,from_+ds.length+1,0) else (0,0,6)
def charOut (l:List UInt8)(at_:Nat):Int × Nat × Nat :=
 if l[at_]? =some 38∧l[at_+1]? =some 35 then
  (if l[at_+2]? =some 120 then charBody 16 2097152 l (at_+3) else charBody 10 2097152 l (at_+2))
 else (0,0,7)
theorem charBody_cap (b:Int)(hb:b=10∨b=16)(c1 c2:Int)(h1:1114111<c1)(h2:1114111<c2)(l:List UInt8)(k:Nat):charBody b c1 l k=charBody b c2 l k:=by
 unfold charBody
 have hm:=digs_mem b (l.drop k)
 have a1:=cap_doc b c1 (by omega) h1 _ hm
 have a2:=cap_doc b c2 (by omega) h2 _ hm
 simp only[a1.1,a2.1]
 split
 · rfl
 · split
   · rename_i hd;rw[a1.2 hd,a2.2 hd]
   · rfl
theorem ix_lo (c:UInt8): ∀ r:List UInt8, -1≤Lib.indexByte r c∧Lib.indexByte r c<r.length
 | []=>by simp[Lib.indexByte]
 |x :: r=>by
  have:=ix_lo c r
  simp only[Lib.indexByte,List.length_cons]
  split
  · omega
  · split <;> omega
theorem ix_at (c:UInt8): ∀ r:List UInt8,0≤Lib.indexByte r c→r[(Lib.indexByte r c).toNat]? =some c∧ ∀ j:Nat,(j:Int)<Lib.indexByte r c→r[j]? ≠some c
 | [],h=>by simp[Lib.indexByte]at h
 |x :: r,h=>by
  by_cases hx:x=c
  · subst hx
    simp[Lib.indexByte]
    intro j hj;omega
  · have e:Lib.indexByte (x :: r) c=if Lib.indexByte r c== -1 then -1 else Lib.indexByte r c+1:=by simp[Lib.indexByte,hx]
    rw[e]at h ⊢
    split at h
    · omega
    · rename_i h1
      rw[if_neg h1]at *
      have hlo:=(ix_lo c r).1
      have h2:0≤Lib.indexByte r c:=by
       have: ¬ Lib.indexByte r c= -1:=by simpa using h1
       omega
      obtain⟨a,b⟩:=ix_at c r h2
      refine⟨?_,?_⟩
      · rw[show (Lib.indexByte r c+1).toNat=(Lib.indexByte r c).toNat+1 by omega]
        simpa using a
      · intro j hj
        cases j with
        |zero=>simpa using hx
        |succ j=>simpa using b j (by omega)
theorem ix_none (c:UInt8): ∀ r:List UInt8,Lib.indexByte r c<0→ ∀ j:Nat,r[j]? ≠some c
 | [],_=>by simp
 |x :: r,h=>by
  by_cases hx:x=c
  · subst hx;simp[Lib.indexByte]at h
  · have e:Lib.indexByte (x :: r) c=if Lib.indexByte r c== -1 then -1 else Lib.indexByte r c+1:=by simp[Lib.indexByte,hx]
    rw[e]at h
    have hlo:=(ix_lo c r).1
    split at h
    · rename_i h1
      intro j
      cases j with
      |zero=>simpa using hx
      |succ j=>simpa using ix_none c r (by have:Lib.indexByte r c= -1:=by simpa using h1
                                           omega) j
    · rename_i h1
      have: ¬ Lib.indexByte r c= -1:=by simpa using h1
      omega
theorem ix_eq (c:UInt8)(r:List UInt8)(j:Nat)(h:r[j]? =some c)(hn: ∀ i<j,r[i]? ≠some c):Lib.indexByte r c=j:=by
 rcases Int.lt_or_le (Lib.indexByte r c) 0 with h0|h0
 · exact absurd h (ix_none c r h0 j)
 · obtain⟨a,b⟩:=ix_at c r h0
   rcases Nat.lt_trichotomy (Lib.indexByte r c).toNat j with h1|h1|h1
   · exact absurd a (hn _ h1)
   · omega
   · exact absurd h (b j (by omega))
theorem ix_eq_none (c:UInt8)(r:List UInt8)(hn: ∀ i:Nat,r[i]? ≠some c):Lib.indexByte r c= -1:=by
 rcases Int.lt_or_le (Lib.indexByte r c) 0 with h0|h0
 · have:=(ix_lo c r).1;omega
 · exact absurd (ix_at c r h0).1 (hn _)
def quotedQ (q:UInt8)(l:List UInt8)(k:Nat):List UInt8 × Nat × Nat :=
 if Lib.indexByte (l.drop (k+1)) q<0 then ([],0,7) else ((l.drop (k+1)).take (Lib.indexByte (l.drop (k+1)) q).toNat,k+(Lib.indexByte (l.drop (k+1)) q).toNat+2,0)
def quotedOut (l:List UInt8)(k:Nat):List UInt8 × Nat × Nat :=
 match l[k]? with
 |none=>([],0,7)
 |some q=>if q=34∨q=39 then quotedQ q l k else ([],0,7)
def quotedAt (l:List UInt8)(at_:Int):List UInt8 × Nat × Nat:=if at_<0∨(l.length:Int)<at_ then ([],0,3) else quotedOut l at_.toNat
def markOut (l:List UInt8)(k:Nat):Nat × Nat:=if l[k+1]? =some 35 then (charOut l k).2 else (refOut 38 l k).2
def refsF (l:List UInt8):Nat→Nat→Nat × Nat
 |0,_=>(0,0)
 |f+1,k=>if l.length≤k then (0,0) else if l[k]? ≠some 38 then refsF l f (k+1) else if (markOut l k).2≠0 then (k,(markOut l k).2) else refsF l f (markOut l k).1
def refsOut (l:List UInt8):Nat × Nat:=refsF l (l.length+1) 0
theorem charOut_next (l:List UInt8)(k:Nat)(h:(charOut l k).2.2=0):k<(charOut l k).2.1∧(charOut l k).2.1≤l.length:=by
 unfold charOut charBody at *
 simp only at *
 have key: ∀ (b:Int) (o:Nat),l[o+(digs b (l.drop o)).length]? =some 59→o+(digs b (l.drop o)).length+1≤l.length:=by
  intro b o h
  rcases Nat.lt_or_ge (o+(digs b (l.drop o)).length) l.length with g|g
  · omega
  · rw[List.getElem?_eq_none g]at h;cases h
 by_cases h1:l[k]? =some 38∧l[k+1]? =some 35
 · rw[if_pos h1]at h ⊢
   by_cases h2:l[k+2]? =some 120
   · rw[if_pos h2]at h ⊢
     by_cases h3:(digs 16 (l.drop (k+3))).length=0∨l[k+3+(digs 16 (l.drop (k+3))).length]? ≠some 59
     · rw[if_pos h3]at h;simp at h
     · rw[if_neg h3]at h ⊢
       have:=key 16 (k+3) (by simpa using (not_or.1 h3).2)
       by_cases h4:isDoc (numC 16 2097152 (digs 16 (l.drop (k+3))))=true
       · rw[if_pos h4];simp only;omega
       · rw[if_neg h4]at h;simp at h
   · rw[if_neg h2]at h ⊢
     by_cases h3:(digs 10 (l.drop (k+2))).length=0∨l[k+2+(digs 10 (l.drop (k+2))).length]? ≠some 59
     · rw[if_pos h3]at h;simp at h
     · rw[if_neg h3]at h ⊢
       have:=key 10 (k+2) (by simpa using (not_or.1 h3).2)
       by_cases h4:isDoc (numC 10 2097152 (digs 10 (l.drop (k+2))))=true
       · rw[if_pos h4];simp only;omega
       · rw[if_neg h4]at h;simp at h
 · rw[if_neg h1]at h;simp at h
theorem refOut_next (m:UInt8)(l:List UInt8)(k:Nat)(h:(refOut m l k).2.2=0):k<(refOut m l k).2.1∧(refOut m l k).2.1≤l.length:=by
 unfold refOut at *
 cases hc:l[k]? with
 |none=>rw [hc]at h;simp at h
 |some c =>
  rw[hc]at h
  simp only at h ⊢
  have hk:k<l.length:=by
   rcases Nat.lt_or_ge k l.length with g|g
   · exact g
   · rw[List.getElem?_eq_none g]at hc;cases hc
  by_cases h1:c=m
  · rw[if_pos h1]at h ⊢
    by_cases h2:(plainOut l (k+1)).2.2≠0
    · rw[if_pos h2]at h;exact absurd h h2
    · rw[if_neg h2]at h ⊢
      have hp:=plainOut_le l (k+1) (by omega) (by simpa using h2)
      cases hd:l[(plainOut l (k+1)).2.1]? with
      |none=>rw [hd]at h;simp at h
      |some d =>
       rw[hd]at h
       simp only at h ⊢
       have hk2:(plainOut l (k+1)).2.1<l.length:=by
        rcases Nat.lt_or_ge (plainOut l (k+1)).2.1 l.length with g|g
        · exact g
        · rw[List.getElem?_eq_none g]at hd;cases hd
       by_cases h3:d=59
       · rw[if_pos h3];simp only;omega
       · rw[if_neg h3]at h;simp at h
  · rw[if_neg h1]at h;simp at h
theorem markOut_next (l:List UInt8)(k:Nat)(h:(markOut l k).2=0):k<(markOut l k).1∧(markOut l k).1≤l.length:=by
 unfold markOut at *
 by_cases h1:l[k+1]? =some 35
 · rw[if_pos h1]at h ⊢;exact charOut_next l k h
 · rw[if_neg h1]at h ⊢;exact refOut_next 38 l k h
theorem refsF_end (l:List UInt8)(f k:Nat)(h:l.length≤k):refsF l f k=(0,0):=by
 cases f with
 |zero=>rfl
 |succ f=>unfold refsF;rw[if_pos h]
theorem refsF_skip (l:List UInt8)(f k:Nat)(hk:k<l.length)(h:l[k]? ≠some 38):refsF l (f+1) k=refsF l f (k+1):=by
 conv=>lhs;unfold refsF
 rw[if_neg (by omega),if_pos h]
theorem refsF_fuel (l:List UInt8): ∀ (f g k:Nat),l.length+1≤f+k→l.length+1≤g+k→refsF l f k=refsF l g k:=by
 intro f
 induction f with
 |zero=>intro g k hf hg;rw[refsF_end l 0 k (by omega),refsF_end l g k (by omega)]
 |succ f ih =>
  intro g k hf hg
  cases g with
  |zero=>rw [refsF_end l _ k (by omega),refsF_end l _ k (by omega)]
  |succ g =>
   unfold refsF
   by_cases h1:l.length≤k
   · rw[if_pos h1,if_pos h1]
   · rw[if_neg h1,if_neg h1]
     by_cases h2:l[k]? ≠some 38
     · rw[if_pos h2,if_pos h2];exact ih g (k+1) (by omega) (by omega)
     · rw[if_neg h2,if_neg h2]
       by_cases h3:(markOut l k).2≠0
       · rw[if_pos h3,if_pos h3]
       · rw[if_neg h3,if_neg h3]
         have:=markOut_next l k (by simpa using h3)
         exact ih g _ (by omega) (by omega)
def refsFrom (l:List UInt8)(k:Nat):Nat × Nat:=refsF l (l.length+1) k
theorem refsFrom_end (l:List UInt8)(k:Nat)(h:l.length≤k):refsFrom l k=(0,0):=refsF_end l _ k h
theorem refsFrom_skip (l:List UInt8)(k:Nat)(hk:k<l.length)(h:l[k]? ≠some 38):refsFrom l k=refsFrom l (k+1):=by
 unfold refsFrom
 rw[refsF_skip l l.length k hk h]
 exact refsF_fuel l _ _ _ (by omega) (by omega)
theorem refsFrom_skips (l:List UInt8)(k n:Nat)(hk:k+n≤l.length)(h: ∀ j<n,l[k+j]? ≠some 38):refsFrom l k=refsFrom l (k+n):=by
 induction n with
 |zero=>rfl
 |succ n ih =>
  rw[ih (by omega) fun j hj=>h j (by omega),refsFrom_skip l (k+n) (by omega) (h n (by omega))]
  rfl
theorem refsFrom_bad (l:List UInt8)(k:Nat)(h:l[k]? =some 38)(hb:(markOut l k).2≠0):refsFrom l k=(k,(markOut l k).2):=by
 have hk:k<l.length:=by
  rcases Nat.lt_or_ge k l.length with g|g
  · exact g
  · rw[List.getElem?_eq_none g]at h;cases h
 unfold refsFrom
 unfold refsF
 rw[if_neg (by omega),if_neg (by simp[h]),if_pos hb]
theorem refsFrom_next (l:List UInt8)(k:Nat)(h:l[k]? =some 38)(hb:(markOut l k).2=0):refsFrom l k=refsFrom l (markOut l k).1:=by
 have hk:k<l.length:=by
  rcases Nat.lt_or_ge k l.length with g|g
  · exact g
  · rw[List.getElem?_eq_none g]at h;cases h
 have:=markOut_next l k hb
 unfold refsFrom
 conv=>lhs;unfold refsF
 rw[if_neg (by omega),if_neg (by simp[h]),if_neg (by simp[hb])]
 exact refsF_fuel l _ _ _ (by omega) (by omega)
theorem refsOut_eq (l:List UInt8):refsOut l=refsFrom l 0:=rfl
def signs:List UInt8:= [45,39,40,41,43,44,46,47,58,61,63,59,33,42,35,64,36,95,37]
def isBlank (r:Int):Bool:=r==32 || r==9 || r==13 || r==10
theorem refBlank_c (r:Int)(w:World):Calls Tryz.prog 90 #[.int .i64 r] w fun e w'=>e= .returned (.bool (isBlank r))∧w=w':=by
 rcases(show(r=32)∨(r=9)∨(r=13)∨(r=10)∨(r≤8)∨(11≤r∧r≤12)∨(14≤r∧r≤31)∨(33≤r)by omega)with h|h|h|h|h|h|h|h
 · have a0:(r==32)=true:=by simp;omega
   have a1:(r==9)=false:=by simp;omega
   have a2:(r==13)=false:=by simp;omega
   have a3:(r==10)=false:=by simp;omega
   have e:isBlank r=true:=by unfold isBlank;rw[a0,a1,a2,a3];rfl
   rw[e]
   clear e h
   go_enter Tryz.func90,Tryz.ntmps90
   go_wp2
   go_ret
   exact⟨rfl,rfl⟩
 · have a0:(r==32)=false:=by simp;omega
   have a1:(r==9)=true:=by simp;omega
   have a2:(r==13)=false:=by simp;omega
   have a3:(r==10)=false:=by simp;omega
   have e:isBlank r=true:=by unfold isBlank;rw[a0,a1,a2,a3];rfl
   rw[e]
   clear e h
   go_enter Tryz.func90,Tryz.ntmps90
   go_wp2
   go_ret
   exact⟨rfl,rfl⟩
 · have a0:(r==32)=false:=by simp;omega
   have a1:(r==9)=false:=by simp;omega
   have a2:(r==13)=true:=by simp;omega
   have a3:(r==10)=false:=by simp;omega
   have e:isBlank r=true:=by unfold isBlank;rw[a0,a1,a2,a3];rfl
   rw[e]
   clear e h
   go_enter Tryz.func90,Tryz.ntmps90
   go_wp2
   go_ret
   exact⟨rfl,rfl⟩
 · have a0:(r==32)=false:=by simp;omega
   have a1:(r==9)=false:=by simp;omega
   have a2:(r==13)=false:=by simp;omega
   have a3:(r==10)=true:=by simp;omega
   have e:isBlank r=true:=by unfold isBlank;rw[a0,a1,a2,a3];rfl
   rw[e]
   clear e h
   go_enter Tryz.func90,Tryz.ntmps90
   go_wp2
   go_ret
   exact⟨rfl,rfl⟩
 · have a0:(r==32)=false:=by simp;omega
   have a1:(r==9)=false:=by simp;omega
   have a2:(r==13)=false:=by simp;omega
   have a3:(r==10)=false:=by simp;omega
   have e:isBlank r=false:=by unfold isBlank;rw[a0,a1,a2,a3];rfl
   rw[e]
   clear e h
   go_enter Tryz.func90,Tryz.ntmps90
   go_wp2
   go_ret
   exact⟨rfl,rfl⟩
 · have a0:(r==32)=false:=by simp;omega
   have a1:(r==9)=false:=by simp;omega
   have a2:(r==13)=false:=by simp;omega
   have a3:(r==10)=false:=by simp;omega
   have e:isBlank r=false:=by unfold isBlank;rw[a0,a1,a2,a3];rfl
   rw[e]
   clear e h
   go_enter Tryz.func90,Tryz.ntmps90
   go_wp2
   go_ret
   exact⟨rfl,rfl⟩
 · have a0:(r==32)=false:=by simp;omega
   have a1:(r==9)=false:=by simp;omega
   have a2:(r==13)=false:=by simp;omega
   have a3:(r==10)=false:=by simp;omega
   have e:isBlank r=false:=by unfold isBlank;rw[a0,a1,a2,a3];rfl
   rw[e]
   clear e h
   go_enter Tryz.func90,Tryz.ntmps90
   go_wp2
   go_ret
   exact⟨rfl,rfl⟩
 · have a0:(r==32)=false:=by simp;omega
   have a1:(r==9)=false:=by simp;omega
   have a2:(r==13)=false:=by simp;omega
   have a3:(r==10)=false:=by simp;omega
   have e:isBlank r=false:=by unfold isBlank;rw[a0,a1,a2,a3];rfl
   rw[e]
   clear e h
   go_enter Tryz.func90,Tryz.ntmps90
   go_wp2
   go_ret
   exact⟨rfl,rfl⟩
def isBl (c:UInt8):Bool:=isBlank (c.toNat:Int)
def blankTo (l:List UInt8)(k:Nat):Nat:=k+((l.drop k).takeWhile isBl).length
theorem blankTo_le (l:List UInt8)(k:Nat)(hk:k≤l.length):k≤blankTo l k∧blankTo l k≤l.length:=by
 unfold blankTo
 have:=(List.takeWhile_prefix (p:=isBl) (l:=l.drop k)).length_le
 rw[List.length_drop]at this
 omega
theorem blankTo_end (l:List UInt8)(k:Nat)(hk:l.length≤k):blankTo l k=k:=by
 unfold blankTo
 rw[List.drop_of_length_le hk]
 rfl
theorem drop_cons (l:List UInt8)(k:Nat)(c:UInt8)(h:l[k]? =some c):l.drop k=c :: l.drop (k+1):=by
 obtain⟨hk,hc⟩:=List.getElem?_eq_some_iff.1 h
 rw[List.drop_eq_getElem_cons hk,hc]
theorem blankTo_no (l:List UInt8)(k:Nat)(c:UInt8)(h:l[k]? =some c)(hc:isBl c=false):blankTo l k=k:=by
 unfold blankTo
 rw[drop_cons l k c h,List.takeWhile_cons,hc]
 rfl
theorem blankTo_yes (l:List UInt8)(k:Nat)(c:UInt8)(h:l[k]? =some c)(hc:isBl c=true):blankTo l k=blankTo l (k+1):=by
 unfold blankTo
 rw[drop_cons l k c h,List.takeWhile_cons,hc]
 simp
 omega
theorem blank_c (r:Int)(w:World):Calls Tryz.prog 104 #[.int .i64 r] w fun e w'=>e= .returned (.bool (isBlank r))∧w=w':=by
 rcases(show(r=32)∨(r=9)∨(r=13)∨(r=10)∨(r≠32∧r≠9∧r≠13∧r≠10)by omega)with h|h|h|h|h
 all_goals
  first
  |(subst h
    go_enter Tryz.func104,Tryz.ntmps104
    go_wp2
    go_ret
    exact⟨rfl,rfl⟩)
  |(have a0:(r==32)=false:=by simp;omega
    have a1:(r==9)=false:=by simp;omega
    have a2:(r==13)=false:=by simp;omega
    have a3:(r==10)=false:=by simp;omega
    have e:isBlank r=false:=by unfold isBlank;rw[a0,a1,a2,a3];rfl
    rw[e]
    clear e h
    go_enter Tryz.func104,Tryz.ntmps104
    go_wp2
    go_ret
    exact⟨rfl,rfl⟩)
theorem blanks_c (A:Option Addr)(n cap:Nat)(l:List UInt8)(at_:Nat)(B:Nat)(w:World)(h:Byt w B A n cap l)(hm:n≤1000000)(hat:at_≤n) :
 Calls Tryz.prog 79 #[.slice A n cap,.int .i64 at_] w fun e w'=>e= .returned (.int .i64 (blankTo l at_))∧w=w':=by
 have HB:=Hd h
 have hln:=Hd h.length
 clear h
 go_enter Tryz.func79,Tryz.ntmps79
 go_wp2
 go_loopg [1] (n - at_) (fun g i wr=> ∃ t:Nat,t≤n∧Hid (g+t=n)∧i= .int .i64 (t:Int)∧w=wr∧Hid (blankTo l at_=blankTo l t))
 case atStart=>exact⟨at_,hat,Hd (by omega),rfl,rfl,Hd rfl⟩
 case round =>
  obtain⟨t,ht,hg,rfl,rfl,HN⟩:=hrel
  have ht0:(0:Int)≤(t:Int):=by omega
  have htb:(t:Int)≤1000000:=by omega
  by_cases htn:t<n
  · have htni:(t:Int)<(n:Int):=by omega
    obtain⟨b,o,c,rfl,hb,hc,hcell⟩:=HB.out.cell htn
    have HC:=Hd hc
    have c0:(0:Int)≤(c.toNat:Int):=by omega
    have c1:(c.toNat:Int)≤255:=by have:=c.toNat_lt;omega
    clear hc hb
    cases hbl:isBl c with
    |false =>
     have HE:Hid (blankTo l at_=t):=Hd (by rw[HN.out,blankTo_no l t c HC.out hbl])
     have CB:=Hd (blank_c (c.toNat:Int) w)
     unfold isBl at hbl
     rw[hbl]at CB
     clear hbl
     generalize (c.toNat:Int)=cn at *
     go_wp2_with fail
     refine(CB.out).mono ?_
     rintro e wq ⟨rfl,rfl⟩
     go_wp2
     go_ret
     exact⟨by rw[HE.out];rfl,rfl⟩
    |true =>
     have HE:Hid (blankTo l at_=blankTo l (t+1)):=Hd (by rw[HN.out,blankTo_yes l t c HC.out hbl])
     have CB:=Hd (blank_c (c.toNat:Int) w)
     unfold isBl at hbl
     rw[hbl]at CB
     clear hbl
     generalize (c.toNat:Int)=cn at *
     go_wp2_with fail
     refine(CB.out).mono ?_
     rintro e wq ⟨rfl,rfl⟩
     go_wp2
     go_roundg (n - (t+1))
     case measure=>have:=hg.out;omega
     case rel=>exact⟨t+1,by omega,Hd (by omega),by go_num,rfl,HE⟩
  · have htni: ¬ (t:Int)<(n:Int):=by omega
    have HE:Hid (blankTo l at_=t):=Hd (by rw[HN.out,blankTo_end l t (by rw[hln.out];omega)])
    go_wp2
    go_ret
    exact⟨by rw[HE.out];rfl,rfl⟩
theorem refBlanks_c (A:Option Addr)(n cap:Nat)(l:List UInt8)(at_:Nat)(B:Nat)(w:World)(h:Byt w B A n cap l)(hm:n≤1000000)(hat:at_≤n) :
 Calls Tryz.prog 60 #[.slice A n cap,.int .i64 at_] w fun e w'=>e= .returned (.int .i64 (blankTo l at_))∧w=w':=by
 have HB:=Hd h
 have hln:=Hd h.length
 have hat': ¬ (n:Int)<(at_:Int):=by omega
 clear h
 go_enter Tryz.func60,Tryz.ntmps60
 go_wp2
 go_loopg [1] (n - at_) (fun g i wr=> ∃ t:Nat,t≤n∧Hid (g+t=n)∧i= .int .i64 (t:Int)∧w=wr∧Hid (blankTo l at_=blankTo l t))
 case atStart=>exact⟨at_,hat,Hd (by omega),rfl,rfl,Hd rfl⟩
 case round =>
  obtain⟨t,ht,hg,rfl,rfl,HN⟩:=hrel
  have ht0:(0:Int)≤(t:Int):=by omega
  have htb:(t:Int)≤1000000:=by omega
  by_cases htn:t<n
  · have htni:(t:Int)<(n:Int):=by omega
    obtain⟨b,o,c,rfl,hb,hc,hcell⟩:=HB.out.cell htn
    have HC:=Hd hc
    have c0:(0:Int)≤(c.toNat:Int):=by omega
    have c1:(c.toNat:Int)≤255:=by have:=c.toNat_lt;omega
    clear hc hb
    cases hbl:isBl c with
    |false =>
     have HE:Hid (blankTo l at_=t):=Hd (by rw[HN.out,blankTo_no l t c HC.out hbl])
     have CB:=Hd (refBlank_c (c.toNat:Int) w)
     unfold isBl at hbl
     rw[hbl]at CB
     clear hbl
     generalize (c.toNat:Int)=cn at *
     go_wp2_with fail
     refine(CB.out).mono ?_
     rintro e wq ⟨rfl,rfl⟩
     go_wp2
     go_ret
     exact⟨by rw[HE.out];rfl,rfl⟩
    |true =>
     have HE:Hid (blankTo l at_=blankTo l (t+1)):=Hd (by rw[HN.out,blankTo_yes l t c HC.out hbl])
     have CB:=Hd (refBlank_c (c.toNat:Int) w)
     unfold isBl at hbl
     rw[hbl]at CB
     clear hbl
     generalize (c.toNat:Int)=cn at *
     go_wp2_with fail
     refine(CB.out).mono ?_
     rintro e wq ⟨rfl,rfl⟩
     go_wp2
     go_roundg (n - (t+1))
     case measure=>have:=hg.out;omega
     case rel=>exact⟨t+1,by omega,Hd (by omega),by go_num,rfl,HE⟩
  · have htni: ¬ (t:Int)<(n:Int):=by omega
    have HE:Hid (blankTo l at_=t):=Hd (by rw[HN.out,blankTo_end l t (by rw[hln.out];omega)])
    go_wp2
    go_ret
    exact⟨by rw[HE.out];rfl,rfl⟩
structure Fr (R b:Nat) (w w':World):Prop where
 os:w'.os=w.os
 tape:w'.tape=w.tape
 output:w'.output=w.output
 size:w.heap.size≤w'.heap.size
 block: ∀ k,k<R→k≠b→w'.heap[k]? =w.heap[k]?
theorem Fr.refl (R b:Nat)(w:World):Fr R b w w:=⟨rfl,rfl,rfl,Nat.le_refl _,fun _ _ _=>rfl⟩
theorem Fr.trans {R b:Nat}{x y z:World}(h:Fr R b x y)(k:Fr R b y z):Fr R b x z :=
 ⟨k.os.trans h.os,k.tape.trans h.tape,k.output.trans h.output,Nat.le_trans h.size k.size,fun i hi hb=>(k.block i hi hb).trans (h.block i hi hb)⟩
theorem Fr.below {R b B:Nat}{w w':World}(h:Fr R b w w')(hR:B≤R)(hb:B≤b):Below B w w':=⟨h.os,h.tape,h.output,h.size,fun k hk=>h.block k (by omega) (by omega)⟩
theorem Fr.mono {R R' b:Nat}{w w':World}(h:Fr R b w w')(hR:R'≤R):Fr R' b w w':=⟨h.os,h.tape,h.output,h.size,fun k hk hb=>h.block k (by omega) hb⟩
theorem Fr.ofBelow {R b:Nat}{w w':World}(h:Below R w w'):Fr R b w w':=⟨h.os,h.tape,h.output,h.size,fun k hk _=>h.block k hk⟩
theorem Fr.set {R b:Nat}{w w':World}(h:Fr R b w w')(i:Nat)(v:Value):Fr R b w (w'.setCell ⟨b,i,none⟩ v) :=
 ⟨h.os,h.tape,h.output,by have:=h.size;simpa [World.setCell] using this,fun k hk hb=>by rw[hp_other hb];exact h.block k hk hb⟩
theorem ownsRow_base {w:World}{B B':Nat}{e:TypeId}{c:Nat}{v:Value}{n:Nat}{xs:List Value}(h:w.ownsRow B e c v n xs)(hB:B'≤B):w.ownsRow B' e c v n xs:=by
 obtain⟨hl,h2|⟨g,cap,cur,hv,hg,r⟩⟩:=h
 · exact⟨hl,Or.inl h2⟩
 · exact⟨hl,Or.inr ⟨g,cap,cur,hv,by omega,r⟩⟩
theorem toBytes (w:World)(l:List UInt8)(hl:l.length≤1000000): ∃ c w',(convert 9 29 (.string ⟨l.toArray⟩)).run Tryz.prog w= .ok (.slice (some ⟨w.heap.size,0,none⟩) l.length c) w'∧Below w.heap.size w w'∧w'.heap.size=w.heap.size+1∧Byt w' (w.heap.size+1) (some ⟨w.heap.size,0,none⟩) l.length c l:=by
 have hsz:(⟨l.toArray⟩:ByteArray).size=l.length:=by simp[ByteArray.size]
 refine⟨_,_,(by have:=Lib.run_convert_string_bytes (P:=Tryz.prog) w 9 29 5 ⟨l.toArray⟩ Tryz.underlying9 Tryz.underlying29 Tryz.underlying5;rw[hsz]at this;exact this),Lib.bytesWorld_below _ _ _,Lib.bytesWorld_size _ _ _,⟨by simp,grownCap_ge _ _ _ _,grownCap_le_maxLen _ _ _ _ (by unfold maxLen;omega),(fun e=>by cases e),fun _=>⟨_,_,rfl,by omega,fun i u hu=> ?_⟩⟩⟩
 have hi:i<l.length:=by
  rcases Nat.lt_or_ge i l.length with h'|h'
  · exact h'
  · rw[List.getElem?_eq_none (by simpa using h')]at hu;cases hu
 rw[Nat.zero_add,Lib.bytesWorld_cell _ _ _ _ (by rw[hsz];exact hi)]
 rw[List.getElem?_map,List.getElem?_eq_getElem hi]at hu
 simp only[Option.map_some,Option.some.injEq]at hu
 rw[← hu]
 simp[bv,hi]
theorem ne_byte (c n:UInt8)(z:Int)(hz:z=(n.toNat:Int))(h: ¬ c=n):((c.toNat:Int)==z)=false:=by rw[hz,toNat_eq];simp[h]
theorem ba_ne2 (s:ByteArray)(l:List UInt8)(h:s≠⟨l.toArray⟩):(s.toList==l)=false :=
 beq_false_of_ne fun e=>h (by rw[← e,Go.Lib.toList_data])
def knownOf (s:ByteArray):Nat:=if s=⟨#[108,116]⟩ then 60 else if s=⟨#[103,116]⟩ then 62 else if s=⟨#[97,109,112]⟩ then 38 else if s=⟨#[97,112,111,115]⟩ then 39 else if s=⟨#[113,117,111,116]⟩ then 34 else 0
theorem refKnown_c (s:ByteArray)(w:World):Calls Tryz.prog 69 #[.string s] w fun e w'=>e= .returned (.int .i64 (knownOf s))∧w=w':=by
 by_cases h0:s=⟨#[108,116]⟩
 · have e:knownOf s=60:=by rw[h0];decide +kernel
   rw[e]
   subst h0
   clear e
   go_enter Tryz.func69,Tryz.ntmps69
   go_wp2
   go_ret
   exact⟨rfl,rfl⟩
 · have a0:(s.toList== [108,116])=false:=ba_ne2 s [108,116] h0
   by_cases h1:s=⟨#[103,116]⟩
   · have e:knownOf s=62:=by rw[h1];decide +kernel
     rw[e]
     subst h1
     clear e
     go_enter Tryz.func69,Tryz.ntmps69
     go_wp2
     go_ret
     exact⟨rfl,rfl⟩
   · have a1:(s.toList== [103,116])=false:=ba_ne2 s [103,116] h1
     by_cases h2:s=⟨#[97,109,112]⟩
     · have e:knownOf s=38:=by rw[h2];decide +kernel
       rw[e]
       subst h2
       clear e
       go_enter Tryz.func69,Tryz.ntmps69
       go_wp2
       go_ret
       exact⟨rfl,rfl⟩
     · have a2:(s.toList== [97,109,112])=false:=ba_ne2 s [97,109,112] h2
       by_cases h3:s=⟨#[97,112,111,115]⟩
       · have e:knownOf s=39:=by rw[h3];decide +kernel
         rw[e]
         subst h3
         clear e
         go_enter Tryz.func69,Tryz.ntmps69
         go_wp2
         go_ret
         exact⟨rfl,rfl⟩
       · have a3:(s.toList== [97,112,111,115])=false:=ba_ne2 s [97,112,111,115] h3
         by_cases h4:s=⟨#[113,117,111,116]⟩
         · have e:knownOf s=34:=by rw[h4];decide +kernel
           rw[e]
           subst h4
           clear e
           go_enter Tryz.func69,Tryz.ntmps69
           go_wp2
           go_ret
           exact⟨rfl,rfl⟩
         · have a4:(s.toList== [113,117,111,116])=false:=ba_ne2 s [113,117,111,116] h4
           have e:knownOf s=0:=by unfold knownOf;rw[if_neg h0,if_neg h1,if_neg h2,if_neg h3,if_neg h4]
           rw[e]
           clear e
           go_enter Tryz.func69,Tryz.ntmps69
           go_wp2
           go_ret
           exact⟨rfl,rfl⟩
end Go.Proofs.YtbafljibbabnaaaGreatDoor
