/- Texts of ours, joined: EntO, Laid, Laid3. -/
import Derived.Deep.Slices
import Derived.Deep.Fields
import Derived.ChangeArms
import Derived.DataReads
import Derived.Lib.LaidCaseMet
import Derived.Deep.DeepLaidRun
import Derived.Test.YtbafljibbabnaaaGreatDoorQ10
namespace Go.Proofs.YtbafljibbabnaaaGreatDoor
open Go.ChangeShapes Go.WideShapes Go.ChangeAt Go.RowKit
set_option linter.unusedVariables false
set_option maxRecDepth 100000
set_option maxHeartbeats 32000000
def EntLe (b:Nat)(x:EntT):Prop:=x.nm.length≤b∧x.tx.length≤b
theorem bulk_part {H:Type}{d:DataW H}{l:List (DataW H)}(h:d∈l):Rows.uptoBulk d≤Rows.uptoBulkAll l:=by
 induction l with
 |nil=>cases h
 |cons x r ih =>
  simp only[Rows.uptoBulkAll]
  cases List.mem_cons.1 h with
  |inl e=>subst e;omega
  |inr e=>have:=ih e;omega
theorem bulk_pos {H:Type}(d:DataW H):1≤Rows.uptoBulk d:=by
 cases d with
 |lit l=>cases l <;> simp[Rows.uptoBulk]
 |_=>simp [Rows.uptoBulk]
theorem bulk_len {H:Type}(l:List (DataW H)):l.length≤Rows.uptoBulkAll l:=by
 induction l with
 |nil=>simp [Rows.uptoBulkAll]
 |cons x r ih=>have:=bulk_pos x;simp only[Rows.uptoBulkAll,List.length_cons];omega
theorem cellsStrE:Tryz.prog.cellsOf 9=1:=by kernel_rfl
theorem cellsBoolE:Tryz.prog.cellsOf 4=1:=by kernel_rfl
theorem cellsExtE:Tryz.prog.cellsOf 41=2:=by kernel_rfl
theorem cellsEntE:Tryz.prog.cellsOf 43=6:=by kernel_rfl
section
variable {H:Type} {enc:TypeId × Value→H} {W:World} {sp:Nat→Bool} {held:Bool}
theorem str_open {n:Nat}{cs:List Value}{x:DataW H × List MemPlace}(h:DataW.trod enc Tryz.prog W 0 sp held n 9 cs=some x): ∃ s:List UInt8,cs= [.string ⟨s.toArray⟩]∧s.length≤Rows.uptoBulk x.1:=by
 obtain⟨s0,e0,e1,z0⟩:=DataW.trod_string Tryz.underlying9 h
 refine⟨s0.data.toList,by rw[e0],?_⟩
 rw[e1]
 simp[Rows.uptoBulk]
theorem extE_open {n:Nat}{cs:List Value}{x:DataW H × List MemPlace}(h:DataW.trod enc Tryz.prog W 0 sp held n 41 cs=some x): ∃ s l:List UInt8,cs= [.string ⟨s.toArray⟩,.string ⟨l.toArray⟩]:=by
 obtain⟨xs,k,_,hx,hl,hlen,hF⟩:=DataW.trod_struct Tryz.underlying41 h
 rw[cellsExtE]at hl
 match xs,hlen,cs,hl with
 | [y0,y1],_,[c0,c1],_ =>
   have g0:=hF 0 _ rfl
   have g1:=hF 1 _ rfl
   simp[cellsStrE]at g0 g1
   obtain⟨s,e0,b0⟩:=str_open g0
   obtain⟨l,e1,b1⟩:=str_open g1
   simp at e0 e1
   subst e0 e1
   exact⟨s,l,rfl⟩
theorem entE_open {n:Nat}{cs:List Value}{x:DataW H × List MemPlace}(h:DataW.trod enc Tryz.prog W 0 sp held n 43 cs=some x): ∃ a:EntT,cs=cE a∧EntLe (Rows.uptoBulk x.1) a:=by
 obtain⟨xs,k,_,hx,hl,hlen,hF⟩:=DataW.trod_struct Tryz.underlying43 h
 rw[cellsEntE]at hl
 match xs,hlen,cs,hl with
 | [y0,y1,y2,y3,y4],_,[c0,c1,c2,c3,c4,c5],_ =>
   have g0:=hF 0 _ rfl
   have g1:=hF 1 _ rfl
   have g2:=hF 2 _ rfl
   have g3:=hF 3 _ rfl
   have g4:=hF 4 _ rfl
   simp[cellsStrE,cellsBoolE,cellsExtE]at g0 g1 g2 g3 g4
   obtain⟨z0,e0,b0⟩:=str_open g0
   obtain⟨z1,e1,b1⟩:=str_open g1
   obtain⟨z2,e2,_⟩:=DataW.trod_bool Tryz.underlying4 g2
   obtain⟨z3,z4,e3⟩:=extE_open g3
   obtain⟨z5,e5,b5⟩:=str_open g4
   simp at e0 e1 e2 e3 e5
   obtain⟨rfl,rfl⟩:=e3
   subst e0 e1 e2 e5
   refine⟨⟨z0,z1,z2,z3,z4,z5⟩,rfl,?_,?_⟩ <;> rw[hx] <;> simp[Rows.uptoBulk,Rows.uptoBulkAll] <;> omega
open Go.Deep in
theorem row_open {t e:TypeId}{k:Nat}{α:Type}{c:α→List Value}(Good:α→Nat→Prop)(hG: ∀ a b b',Good a b→b≤b'→Good a b')(ht:Tryz.prog.underlying t=some (.slice e))(ce:Tryz.prog.cellsOf e=k)(hk0:0<k)(hk: ∀ a,(c a).length=k)
 (ho: ∀ {n:Nat} {cs:List Value} {x:DataW H × List MemPlace},DataW.trod enc Tryz.prog W 0 (fun _=>true) held n e cs=some x→ ∃ a,cs=c a∧Good a (Rows.uptoBulk x.1))
 {n:Nat} {v:Value} {x:DataW H × List MemPlace} (h:DataW.trod enc Tryz.prog W 0 (fun _=>true) held n t [v]=some x) :
 ∃ A len cap xs,v= .slice A len cap∧RRd c k W W.heap.size A len cap xs∧len≤Rows.uptoBulk x.1∧ ∀ a∈xs,Good a (Rows.uptoBulk x.1):=by
 rcases open_slice ht h with ⟨hc,_⟩|⟨a,len,cap,m,k',D,Pl,hc,_,hl,hm,hmm,hx,hi⟩
 · simp at hc
   subst hc
   exact⟨none,0,0,[],rfl,RRd.nilR c k W _,Nat.zero_le _,fun a ha=>by cases ha⟩
 · simp at hc
   subst hc
   have hmc:m=cap:=by simpa using hmm
   subst hmc
   have hbl: ∀ i,i<m→Rows.uptoBulk (D i)≤Rows.uptoBulk x.1:=fun i hil=>by
    rw[hx]
    simp only[Rows.uptoBulk]
    by_cases hlt:i<len
    · have:=bulk_part (d:=D i) (l:=(List.range len).map D) (List.mem_map.2 ⟨i,List.mem_range.2 hlt,rfl⟩)
      omega
    · have:=bulk_part (d:=D i) (l:=(List.range (m - len)).map fun j=>D (len+j)) (List.mem_map.2 ⟨i - len,List.mem_range.2 (by omega),by rw[show len+(i - len)=i by omega]⟩)
      omega
   have key: ∀ i,i<m→ ∃ z:α,(∀ (j:Nat) u,(c z)[j]? =some u→W.cell? (a.add (i*k+j))=some u)∧Good z (Rows.uptoBulk x.1):=by
    intro i hil
    obtain⟨cs',h1,h2⟩:=hi i hil
    rw[ce]at h1
    obtain⟨_,hlen,hcell⟩:=World.cells?_some h1
    obtain⟨z,e0,b0⟩:=ho h2
    refine⟨z,fun j u hu=> ?_,hG _ _ _ b0 (hbl i hil)⟩
    have hj:j<k:=by rw[← hk z];exact(List.getElem?_eq_some_iff.1 hu).1
    have:=hcell j hj
    rw[e0,hu,add_add]at this
    exact this
   rcases Nat.eq_zero_or_pos m with h00|h00
   · subst h00
     obtain rfl:len=0:=by omega
     exact⟨some a,0,0,[],rfl,⟨rfl,Nat.le_refl _,Nat.zero_le _,fun _=>rfl,fun h=>absurd h (by omega)⟩,Nat.zero_le _,fun a ha=>by cases ha⟩
   · obtain⟨z0,_⟩:=key 0 h00
     have:Inhabited α:=⟨z0⟩
     obtain⟨f,hf⟩:=choose_lt key
     refine⟨some a,len,m,(List.range len).map f,rfl,⟨by simp,hl,hm,(fun e=>by cases e),fun h0=> ?_⟩,?_,?_⟩
     · obtain⟨b,o,s⟩:=a
       have hz0: ∃ u,(c (f 0))[0]? =some u:=⟨_,List.getElem?_eq_getElem (by rw[hk];exact hk0)⟩
       obtain⟨u0,hu0⟩:=hz0
       have h1:=(hf 0 h00).1 0 _ hu0
       have hs:s=none:=by simpa [Addr.add] using World.cell?_spot h1
       subst hs
       refine⟨b,o,rfl,by simpa [Addr.add] using World.block_lt_of_cell? W _ h1,fun i p hp j u hu=> ?_⟩
       rw[List.getElem?_map]at hp
       have hil:i<len:=by
        rcases Nat.lt_or_ge i len with h'|h'
        · exact h'
        · rw[List.getElem?_eq_none (by simp;omega)]at hp;cases hp
       rw[List.getElem?_range hil]at hp
       simp at hp
       subst hp
       have h2:=(hf i (by omega)).1 j u hu
       rwa [addr_add]at h2
     · rw[hx]
       simp only[Rows.uptoBulk]
       have:=bulk_len ((List.range len).map D)
       simp at this
       omega
     · intro p hp
       obtain⟨i,hi',rfl⟩:=List.mem_map.1 hp
       exact(hf i (by have:=List.mem_range.1 hi';omega)).2
theorem ents_open {n:Nat}{v:Value}{x:DataW H × List MemPlace}(h:DataW.trod enc Tryz.prog W 0 (fun _=>true) held n 22 [v]=some x) :
 ∃ A len cap vs,v= .slice A len cap∧RRd cE 6 W W.heap.size A len cap vs∧len≤Rows.uptoBulk x.1∧ ∀ a∈vs,EntLe (Rows.uptoBulk x.1) a :=
 row_open (c:=cE) (k:=6) (fun a b=>EntLe b a) (fun a b b' h hb=>⟨Nat.le_trans h.1 hb,Nat.le_trans h.2 hb⟩) Tryz.underlying22 cellsEntE (by decide) (fun _=>rfl) (fun h=>entE_open h) h
end
def flatL (P:Program)(fl:TypeId→DataW Unit→Option (List Value)):Nat→List (TypeId × Nat)→List (DataW Unit)→Option (List Value)
 |_,[],[]=>some []
 |off,(t,o) :: ts,d :: ds=>if o=off then (fl t d).bind fun v=>if v.length=P.cellsOf t then (flatL P fl (off+P.cellsOf t) ts ds).map (v++ ·) else none else none
 |_,_,_=>none
def flatD (P:Program):Nat→TypeId→DataW Unit→Option (List Value)
 |0,_,_=>none
 |f+1,t,d=>match P.underlying t,d with
  |some (.int k),.lit (.int k' n)=>if k'=k then some [.int k n] else none
  |some .string,.lit (.string l)=>some [.string ⟨l.toArray⟩]
  |some (.struct fs),.agg ds=>(flatL P (flatD P f) 0 (fs.toList.map fun f=>(f.type,f.offset)) ds).bind fun v=>if v.length=P.cellsOf t then some v else none
  |some (.array n e),.agg ds=>(flatL P (flatD P f) 0 ((List.range n).map fun i=>(e,i*P.cellsOf e)) ds).bind fun v=>if v.length=P.cellsOf t then some v else none
  |_,_=>none
theorem mapM_map {α β γ:Type}(g:α→β)(f:β→Option γ): ∀ l:List α,(l.map g).mapM f=l.mapM fun a=>f (g a)
 | []=>rfl
 |a :: l=>by simp[List.mapM_cons,mapM_map g f l]
theorem mapM_cons_some {α β:Type}{f:α→Option β}{a:α}{l:List α}{ys:List β}(h:(a :: l).mapM f=some ys): ∃ y ys',f a=some y∧l.mapM f=some ys'∧ys=y :: ys':=by
 rw[List.mapM_cons]at h
 obtain⟨y,hy,h⟩:=Option.bind_eq_some_iff.1 h
 obtain⟨ys',hys,h⟩:=Option.bind_eq_some_iff.1 h
 exact⟨y,ys',hy,hys,(Option.some.inj h).symm⟩
theorem flatL_mapM {P:Program}{w:World}{base:Nat}{sp:Nat→Bool}{held:Bool}{enc:TypeId × Value→Unit}{fuel f:Nat}{cs:List Value}
 (ih: ∀ t cs d p vs,DataW.trod enc P w base sp held fuel t cs=some (d,p)→flatD P f t d=some vs→cs=vs) :
 ∀ (ts:List (TypeId × Nat)) (xs:List (DataW Unit × List MemPlace)) (off:Nat) (vs:List Value),
   (ts.mapM fun x=>DataW.trod enc P w base sp held fuel x.1 ((cs.drop x.2).take (P.cellsOf x.1)))=some xs→flatL P (flatD P f) off ts (xs.map (·.1))=some vs→(cs.drop off).take vs.length=vs
 | [],xs,off,vs,hm,hf=>by
   have:xs= []:=by simpa using hm.symm
   subst this
   simp[flatL]at hf
   subst hf
   simp
 |(t,o) :: ts,xs,off,vs,hm,hf=>by
  obtain⟨⟨d,p⟩,xs',hx,hm',rfl⟩:=mapM_cons_some hm
  simp only[List.map_cons,flatL]at hf
  split at hf
  · rename_i ho
    subst ho
    obtain⟨v,hv,hf⟩:=Option.bind_eq_some_iff.1 hf
    split at hf
    · rename_i hl
      obtain⟨vs',hvs,rfl⟩:=Option.map_eq_some_iff.1 hf
      have h1:=ih t _ d p v hx hv
      have h2:=flatL_mapM ih ts xs' _ vs' hm' hvs
      simp only at h1
      rw[List.length_append,List.take_add,hl,h1,List.drop_drop,h2]
    · cases hf
  · cases hf
theorem flat_trod {P:Program}{w:World}{base:Nat}{sp:Nat→Bool}{held:Bool}{enc:TypeId × Value→Unit}: ∀ (fuel f:Nat) (t:TypeId) (cs:List Value) (d:DataW Unit) (p:List MemPlace) (vs:List Value),
 DataW.trod enc P w base sp held fuel t cs=some (d,p)→flatD P f t d=some vs→cs=vs:=by
 intro fuel
 induction fuel with
 |zero=>intro f t cs d p vs h;simp[DataW.trod]at h
 |succ fuel ih =>
  intro f t cs d p vs h hf
  cases f with
  |zero=>simp [flatD]at hf
  |succ f =>
   unfold flatD at hf
   split at hf
   · rename_i k k' n hu
     split at hf
     · rename_i hk
       subst hk
       obtain⟨m,hc,he,_⟩:=DataW.trod_int hu h
       cases he
       rw[hc]
       exact Option.some.inj hf
     · cases hf
   · rename_i l hu
     obtain⟨m,hc,he,_⟩:=DataW.trod_string hu h
     cases he
     rw[hc]
     exact Option.some.inj hf
   · rename_i fs ds hu
     simp only[DataW.trod,hu]at h
     split at h
     · rename_i hl
       obtain⟨xs,hm,hx⟩:=Option.map_eq_some_iff.1 h
       simp only[Prod.mk.injEq,DataW.agg.injEq]at hx
       obtain⟨rfl,_⟩:=hx
       obtain⟨v,hv,hf⟩:=Option.bind_eq_some_iff.1 hf
       split at hf
       · rename_i hvl
         have h2:=flatL_mapM (cs:=cs) (fun t cs d p vs=>ih f t cs d p vs) (fs.toList.map fun f=>(f.type,f.offset)) xs 0 v (by rw[mapM_map];exact hm) hv
         rw[List.drop_zero,hvl,← hl,List.take_length]at h2
         rw[h2]
         exact Option.some.inj hf
       · cases hf
     · cases h
   · rename_i n e ds hu
     simp only[DataW.trod,hu]at h
     split at h
     · rename_i hl
       obtain⟨xs,hm,hx⟩:=Option.map_eq_some_iff.1 h
       simp only[Prod.mk.injEq,DataW.agg.injEq]at hx
       obtain⟨rfl,_⟩:=hx
       obtain⟨v,hv,hf⟩:=Option.bind_eq_some_iff.1 hf
       split at hf
       · rename_i hvl
         have h2:=flatL_mapM (cs:=cs) (fun t cs d p vs=>ih f t cs d p vs) ((List.range n).map fun i=>(e,i*P.cellsOf e)) xs 0 v (by rw[mapM_map];exact hm) hv
         rw[List.drop_zero,hvl,← hl,List.take_length]at h2
         rw[h2]
         exact Option.some.inj hf
       · cases hf
     · cases h
   · cases hf
theorem laid_cells {P:Program}{w:World}: ∀ (laid:List (String × DataW Unit)) (ps:List MemPlace),DataW.LaidVars P w laid ps→ ∀ (name:String) (d:DataW Unit),(name,d)∈laid →
 ∀ (g t f:Nat) (vs:List Value),P.globalNamed name=some g→(P.globals[g]?).map (·.type)=some t→flatD P f t d=some vs→w.var? P name=some vs.toArray
 | [],_,_,_,_,hm,_,_,_,_,_,_,_=>by cases hm
 |(n,d0) :: r,ps,h,name,d,hm,g,t,f,vs,hg,ht,hf=>by
  obtain⟨g',t',cs,fuel,p,q,hg',ht',hv,htr,hr,_⟩:=h
  rcases List.mem_cons.1 hm with e|hm
  · cases e
    obtain rfl:=Option.some.inj (hg.symm.trans hg')
    obtain rfl:=Option.some.inj (ht.symm.trans ht')
    rw[hv,← flat_trod fuel f t cs.toList _ p vs htr hf]
  · exact laid_cells r q hr name d hm g t f vs hg ht hf
theorem block_of_var {P:Program}{w:World}{name:String}{g:Nat}{cs:Array Value}(hg:P.globalNamed name=some g)(h:w.var? P name=some cs): ∃ T f,w.heap[g]? =some (.cells cs T f):=by
 simp only[World.var?,hg,Option.bind_some]at h
 split at h
 · rename_i cs' T f hb
   cases h
   exact⟨T,f,hb⟩
 · cases h
theorem laid_var {P:Program}{w:World}{laid:List (String × DataW Unit)}(h:laidMet P laid w)(name:String)(d:DataW Unit)(hm:(name,d)∈laid)(g f:Nat)(vs:List Value)
 (hg:P.globalNamed name=some g) (hf:(((P.globals[g]?).map (·.type)).bind fun t=>flatD P f t d)=some vs):w.var? P name=some vs.toArray:=by
 obtain⟨ps,hl,_⟩:=h
 obtain⟨t,ht,hf⟩:=Option.bind_eq_some_iff.1 hf
 exact laid_cells laid ps hl name d hm g t f vs hg ht hf
theorem laid_block {P:Program}{w:World}{laid:List (String × DataW Unit)}(h:laidMet P laid w)(name:String)(d:DataW Unit)(hm:(name,d)∈laid)(g f:Nat)(vs:List Value)
 (hg:P.globalNamed name=some g) (hf:(((P.globals[g]?).map (·.type)).bind fun t=>flatD P f t d)=some vs): ∃ T fr,w.heap[g]? =some (.cells vs.toArray T fr) :=
 block_of_var hg (laid_var h name d hm g f vs hg hf)
theorem tab_of {w:World}{g:Nat}{T:TypeId}{fr:Nat × Nat}(t:List (Nat × Nat))(h:w.heap[g]? =some (.cells (t.flatMap fun p=> [Value.int .i64 p.1,Value.int .i64 p.2]).toArray T fr)):Tab w g t:=by
 intro i p hp
 have key: ∀ (t:List (Nat × Nat)) (i:Nat) (p:Nat × Nat),t[i]? =some p→(t.flatMap fun p=> [Value.int .i64 p.1,Value.int .i64 p.2])[i*2]? =some (.int .i64 p.1)∧(t.flatMap fun p=> [Value.int .i64 p.1,Value.int .i64 p.2])[i*2+1]? =some (.int .i64 p.2):=by
  intro t
  induction t with
  |nil=>intro i p h;simp at h
  |cons x t ih =>
   intro i p h
   cases i with
   |zero=>simp at h;subst h;exact⟨rfl,rfl⟩
   |succ i =>
    have:=ih i p (by simpa using h)
    rw[show (i+1)*2=i*2+2 by omega]
    simpa [List.flatMap_cons] using this
 have:=key t i p hp
 rw[cell_of _ h,cell_of _ h,List.getElem?_toArray,List.getElem?_toArray]
 exact this
def flatV:Nat→DataW Unit→List Value
 |f+1,.lit (.int k n)=> [.int k n]
 |f+1,.lit (.string l)=> [.string ⟨l.toArray⟩]
 |f+1,.agg ds=>ds.flatMap (flatV f)
 |_,_=> []
def layObj (vs:Array Value):Obj→Obj
 | .cells _ t frozen=> .cells vs t frozen
 |o=>o
def layHeap (l:List (Nat × DataW Unit))(h:Array Obj):Array Obj:=l.foldl (fun h x=>h.modify x.1 (layObj (flatV 8 x.2).toArray)) h
theorem LaidVars_split {P:Program}{w:World}: ∀ {l l':List (String × DataW Unit)} {ps:List MemPlace},DataW.LaidVars P w (l++l') ps→ ∃ p p',DataW.LaidVars P w l p∧DataW.LaidVars P w l' p'∧ps=p++p'
 | [],l',ps,h=>⟨[],ps,rfl,h,rfl⟩
 |(n,d) :: r,l',ps,h=>by
  obtain⟨g,t,cs,fuel,p,q,h1,h2,h3,h4,h5,rfl⟩:=h
  obtain⟨p1,p2,g1,g2,rfl⟩:=LaidVars_split h5
  exact⟨_,p2,⟨g,t,cs,fuel,p,p1,h1,h2,h3,h4,g1,rfl⟩,g2,by simp[List.append_assoc]⟩
theorem laidMet_move {P:Program}{w:World}{a b:List (String × DataW Unit)}{x:String × DataW Unit}(h:laidMet P (a++b++ [x]) w):laidMet P (a++x :: b) w:=by
 obtain⟨ps,hv,hn,hr⟩:=h
 obtain⟨p1,px,h1,hx,rfl⟩:=LaidVars_split hv
 obtain⟨pa,pb,ha,hb,rfl⟩:=LaidVars_split h1
 have hperm:(pa++pb++px).Perm (pa++(px++pb)):=by
  rw[List.append_assoc]
  exact List.Perm.append_left _ List.perm_append_comm
 refine⟨pa++(px++pb),?_,hperm.nodup_iff.1 hn,fun bb off hm=>hr bb off (hperm.mem_iff.2 hm)⟩
 exact Go.Proofs.LaidVars_append ha (Go.Proofs.LaidVars_append (l:= [x]) hx hb)
def putRows (N:Nat):Nat→List (Nat × TypeId × Array Value × Nat)→Array Obj→Array Obj
 |_,[],h=>h
 |i,(g,_,_,n) :: r,h=>putRows N (i+1) r (h.modify g (layObj #[.slice (some ⟨N+i,0,none⟩) n n]))
noncomputable def laidWorldC (l:List (Nat × DataW Unit))(sl:List (Nat × TypeId × Array Value × Nat))(os:Os):World :=
 { World.holding Tryz.prog os ⟨(sl.map fun x=>Obj.cells x.2.2.1 x.2.1).toArray,#[],[]⟩with heap:=putRows (World.settled Tryz.prog os).heap.size 0 sl (layHeap l (World.holding Tryz.prog os ⟨(sl.map fun x=>Obj.cells x.2.2.1 x.2.1).toArray,#[],[]⟩).heap) }
theorem case_same:Go.Pinned.caseRanges=Lib.caseData:=by kernel_rfl
theorem laidMet_case {w:World}{a b:List (String × DataW Unit)}(fuel:Nat)
 (h:(DataW.laidRun Tryz.prog w fuel ((a++b).map (·.1))).map (·.1)=some (a++b))
 (hn:(DataW.laidRun Tryz.prog w fuel ((a++b).map (·.1))).map (fun x=>nodupB (x.2.map MemPlace.codeOf))=some true)
 (hr:(DataW.laidRun Tryz.prog w fuel ((a++b).map (·.1))).map (fun x=>laidRowsB Tryz.prog w x.2)=some true)
 (R:Nat) (hgR:7≠R)
 (hoff:(DataW.laidRun Tryz.prog w fuel ((a++b).map (·.1))).map (fun x=>x.2.all fun p=>p.block != 7 && p.block != R)=some true)
 (hvar:w.heap[7]? =some (.cells #[.slice (some ⟨R,0,none⟩) 336 336] 212 (0,0)))
 (hblk:w.heap[R]? =some (.cells Lib.caseCells5 225 (0,0))) :
 laidMet Tryz.prog (a++("unicode.CaseRanges",Go.Pinned.caseRanges) :: b) w:=by
 rw[case_same]
 exact laidMet_move (laidMet_with_case (ρ:=⟨Tryz.lays274_ren.f,Tryz.lays274_ren.t,fun _=>7⟩) { Tryz.lays274 with } (by kernel_rfl) ⟨by kernel_rfl,by kernel_rfl,by kernel_rfl,by kernel_rfl,by kernel_rfl,by kernel_rfl⟩ fuel h hn hr R _ hgR hoff (by rw[show Lib.caseA.size=336 by kernel_rfl];exact hvar) hblk)
end Go.Proofs.YtbafljibbabnaaaGreatDoor
