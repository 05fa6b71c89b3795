/- Texts of ours, joined: EvL, EaA. -/
import Derived.RangeFuncWrites
import Derived.Test.YtbafljibbabnaaaGreatDoorQ14
namespace Go.Proofs.YtbafljibbabnaaaGreatDoor
open Go.ChangeShapes Go.WideShapes Go.ChangeAt Go.RowKit
set_option linter.unusedVariables false
set_option maxRecDepth 100000
set_option maxHeartbeats 32000000
def StandsBox {β:Type}(b:Nat)(J:β→World→Prop):Prop :=
 ∀ s W W' row,J s W→W.grownBy W' row→(∀ r,row=some r→r=b)→J s W'
def SeqBox {α:Type}(F:Fence)(n:Nat)(P:Program)(g:Nat)(lb:Array Value)(encs:α→Array Value)(b:Nat)(Kp:World→World→Prop)(Sx:List α→Prop)(Gd:List α→Prop)(w0:World):Prop :=
 ∀ (l:Nat) (J:List α→World→Prop) (W:World),Below w0.heap.size w0 W→StandsBox b J →
   (∀ pre x W1,J pre W1→Gd (pre++ [x])→YieldAt F (n - 1) P l (encs x) W1 fun e W'=>e= .returned (.bool true)∧J (pre++ [x]) W'∧Kp W1 W') →
   J [] W→CallsIn F n P g (#[.func (.yield l) #[] #[]]++lb) W fun e W'=>(∃ v,e= .returned v)∧ ∃ xs,Sx xs∧J xs W'
theorem grownBy_away {W W':World}{row:Option Nat}{b k:Nat}(hg:W.grownBy W' row)(hr: ∀ r,row=some r→r=b)(hk:k<W.heap.size)(h:k≠b):W'.heap[k]? =W.heap[k]? :=
 hg.block k hk (fun e=>h (hr k e.symm))
variable {F:Fence} {n:Nat} {P:Program}
def boxPost {α:Type}(B:Nat)(Kp:World→World→Prop)(I:List α→World→Prop)(xs:List α)(W:World):Exit→Act→World→Prop
 | .normal,_,W'=>KeepsFrom B W W'∧Kp W W'∧I xs W'
 |_,_,_=>False
theorem wpIn_rangeFunc_box {α:Type}{g:Operand}{ps:Array Tmp}{assign body:Code}{Q:Exit→Act→World→Prop}{a:Act}{w:World}
 (hro:F.round=none) (h1:1≤n) {gf:Nat} {lb:Array Value} (hg:a.eval g= .func (.func gf) #[] lb) (hFg:F.fn gf) (eg: ∀ args w,(callFunc gf args).run P w= .ok (.enter gf args) w)
 {encs:α→Array Value} {b:Nat} {Kp:World→World→Prop} {Sx:List α→Prop} {Gd:List α→Prop} {w0:World} (hseq:SeqBox F (n - 1) P gf lb encs b Kp Sx Gd w0) (hbw:b<w.heap.size)
 (hKt: ∀ {A B C:World},Kp A B→Kp B C→Kp A C) (hKb: ∀ (W:World) (l:Nat) (o o':Obj),w.heap.size≤l→W.heap[l]? =some o→o.isCells=false→o.isWalk=false→Kp W (W.putObj l o'))
 (hw0:Below w0.heap.size w0 w) (hps: ∀ x,(encs x).size=ps.size)
 (I:List α→World→Prop) (hI:OwnFrom w.heap.size I) (hIb:StandsBox b I) (h0:I [] w) (Ax:α→Act→World→Prop) (hAx: ∀ x a',OwnFrom w.heap.size fun(_:Unit) W=>Ax x a' W)
 (hassign: ∀ (l:Nat) (pre:List α) (x:α) (W:World),I pre W→Gd (pre++ [x]) →
   assign.wpIn (F.inRound l) (n - 1 - 1) P (Exit.then (fun a' W'=>KeepsFrom w.heap.size W W'∧Kp W W'∧I pre W'∧Ax x a' W') (fun _ _ _=>False)) { tmps:=(ps.zip (encs x)).foldl (fun t (p,v)=>t.setIfInBounds p v) a.tmps,defers:= [] } W)
 (hbody: ∀ (l:Nat) (pre:List α) (x:α) (a':Act) (W:World),I pre W→Ax x a' W→Gd (pre++ [x])→body.wpIn (F.inRound l) (n - 1 - 1) P (boxPost w.heap.size Kp I (pre++ [x]) W) a' W)
 (hdone: ∀ (D:Nat) (xs:List α) (W:World),w.heap.size≤D→Sx xs→I xs W→W.heap[D]? =some (.deferred (some []))→Q .normal { a with defers:= { target:= .collected D,args:= #[] } :: a.defers } W) :
 (Code.rangeFunc g ps assign body).wpIn F n P Q a w:=by
 refine wpIn_rangeFunc fun fn hfn=> ?_
 rw[hro]
 let rec':LoopState→Loop:=fun st=> { state:=st,pending:=none,fn,tmps:=a.tmps,params:=ps,assign,body,defers:=w.heap.size }
 let W1:World:=(w.alloc (.deferred (some []))).alloc (.loop (rec' .ready))
 have hsz:W1.heap.size=w.heap.size+2:=by simp[W1]
 have hL:W1.heap[w.heap.size+1]? =some (.loop (rec' .ready)):=by
  have h:=World.alloc_heap_new (w.alloc (.deferred (some []))) (.loop (rec' .ready))
  rwa [World.size_alloc]at h
 have hD:W1.heap[w.heap.size]? =some (.deferred (some [])):=(Below.heap_alloc (w.alloc (.deferred (some []))) _ _ (by simp)).trans (World.alloc_heap_new w _)
 have hB1:Below w0.heap.size w0 W1:=hw0.trans ((((Below.refl _ w).alloc (Nat.le_refl _) _).alloc (by simp) _).mono hw0.size)
 have hI1:I [] W1:=hI.alloc _ (hI.alloc _ h0)
 refine⟨w.heap.size+1,[{ target:= .collected w.heap.size,args:= #[] }],W1,{ target:= .fn (.func gf) lb,args:= #[.func (.yield (w.heap.size+1)) #[] #[]] },W1,gf,
  #[.func (.yield (w.heap.size+1)) #[] #[]]++lb,W1,run_enterLoop_outer _ _ _ _ _,?_,?_,?_,fun _=>h1,?_⟩
 · simp only[resolve,hg];simp[go_sem]
 · intro f' hf';simp[Target.leads]at hf';exact hf' ▸ hFg
 · simp[invoke,go_sem,eg]
 clear_value W1
 refine(hseq (w.heap.size+1) (fun pre W=>I pre W∧W.heap[w.heap.size+1]? =some (.loop (rec' .ready))∧W.heap[w.heap.size]? =some (.deferred (some []))) W1 hB1 ?_ ?_ ⟨hI1,hL,hD⟩).mono ?_
 · rintro s A B row ⟨i,x,y⟩ hgr hrow
   exact⟨hIb s A B row i hgr hrow,(grownBy_away hgr hrow (Array.getElem?_eq_some_iff.1 x).1 (by omega)).trans x,(grownBy_away hgr hrow (Array.getElem?_eq_some_iff.1 y).1 (by omega)).trans y⟩
 · rintro pre x W ⟨hi,hl,hk⟩ hlen
   refine⟨fn,_,assign,body,run_yield (P:=P) (args:=encs x) hl (hps x),roundIn_of_wpIn hfn (wpIn_mono (hassign _ pre x W hi hlen) ?_)⟩
   rintro e a' W' hp
   cases e with
   |ret=>exact hp.elim
   |exit id=>exact hp.elim
   |goto t=>exact hp.elim
   |panic ch=>exact hp.elim
   |outgrown=>exact hp.elim
   |normal =>
   obtain⟨hkf,hkp',hi',hax⟩:=hp
   have hl':=hkf.same _ _ (by omega) hl rfl
   have hk':=hkf.same _ _ (Nat.le_refl _) hk rfl
   have hlt:w.heap.size+1<W'.heap.size:=(Array.getElem?_eq_some_iff.1 hl').1
   refine⟨_,run_beginRound hl' rfl,?_⟩
   have hl2:(W'.putObj (w.heap.size+1) (.loop (rec' .busy))).heap[w.heap.size+1]? =some (.loop (rec' .busy)):=World.putObj_heap_same hlt
   have hk2:(W'.putObj (w.heap.size+1) (.loop (rec' .busy))).heap[w.heap.size]? =some (.deferred (some [])):=(World.putObj_heap_other (by omega)).trans hk'
   refine wpIn_mono (hbody _ pre x a' _ (hI.putObj _ hi' (by omega) hl' rfl) ((hAx x a').putObj (s:=()) _ hax (by omega) hl' rfl) hlen) ?_
   rintro e a3 W3 hp
   cases e with
   |normal =>
    obtain⟨hk3,hkp,hi3⟩:=hp
    have hl3:=hk3.same _ _ (by omega) hl2 rfl
    have hd3:=hk3.same _ _ (Nat.le_refl _) hk2 rfl
    exact⟨_,_,run_endRound (P:=P) none hl3,rfl,⟨hI.putObj _ hi3 (by omega) hl3 rfl,World.putObj_heap_same (Array.getElem?_eq_some_iff.1 hl3).1,(World.putObj_heap_other (by omega)).trans hd3⟩,
     hKt (hKt (hKt hkp' (hKb _ _ _ _ (by omega) hl' rfl rfl)) hkp) (hKb _ _ _ _ (by omega) hl3 rfl rfl)⟩
   |ret=>exact hp.elim
   |exit id=>exact hp.elim
   |goto t=>exact hp.elim
   |panic ch=>exact hp.elim
   |outgrown=>exact hp.elim
 · rintro e W2 ⟨⟨v,rfl⟩,xs,hS,hi,hl,hk⟩
   exact⟨none,_,run_endLoop (P:=P) hl (by simp[rec']),hdone _ xs _ (Nat.le_refl _) hS (hI.putObj _ hi (by omega) hl rfl) ((World.putObj_heap_other (by omega)).trans hk)⟩
attribute [local go_sem] Oper.semAt_some
def encR (x:Nat × Nat × List UInt8):Array Value:= #[.agg #[.int .i64 (x.1:Nat),.int .i64 (x.2.1:Nat),.string ⟨x.2.2.toArray⟩]]
def KpR (S Bn:Nat)(W W':World):Prop:=Below S W W'∧W'.heap[Bn]? =W.heap[Bn]? ∧ ∀ (k:Nat) (vs:Array Value) (f:Nat × Nat),W.heap[k]? =some (Obj.cells vs 5 f)→W'.heap[k]? =some (Obj.cells vs 5 f)
theorem KpR.trans {S Bn:Nat}{X Y Z:World}(h:KpR S Bn X Y)(k:KpR S Bn Y Z):KpR S Bn X Z:=⟨h.1.trans k.1,k.2.1.trans h.2.1,fun j vs f hj=>k.2.2 j vs f (h.2.2 j vs f hj)⟩
theorem Byt.blk {w w':World}{B B' b n cap:Nat}{l:List UInt8}(h:Byt w B (some ⟨b,0,none⟩) n cap l)(hb:w'.heap[b]? =w.heap[b]?)(hB:b<B'):Byt w' B' (some ⟨b,0,none⟩) n cap l :=
 ⟨h.len,h.le,h.fit,h.nil,fun h0=>by
   obtain⟨b2,o2,e,_,hc⟩:=h.at_ h0
   cases e
   exact⟨b,0,rfl,hB,fun i u hu=>(World.cell?_of_block (a:=⟨b,0+i,none⟩) hb).trans (hc i u hu)⟩⟩
theorem each1_in (m:Nat)(hm1:1≤m)(lr Bn:Nat)(l:List UInt8)(J:List (Nat × Nat × List UInt8)→World→Prop)(w0 W:World)(hJ:StandsBox Bn J)
 (hY: ∀ pre x W1,J pre W1→(pre++ [x] <+: rfsA l 0)→YieldAt Fence.wide (m - 1) Tryz.prog lr (encR x) W1 fun e W'=>e= .returned (.bool true)∧J (pre++ [x]) W'∧KpR w0.heap.size Bn W1 W')
 (hb:Boxed W Bn 9 (.string ⟨l.toArray⟩)) (hF:Forms w0) (hT:Tabs w0) (hB:Below w0.heap.size w0 W) (hm:l.length≤20000) (h0:J [] W) :
 CallsIn Fence.wide m Tryz.prog 66 #[.func (.yield lr) #[] #[],.pointer (some ⟨Bn,0,none⟩)] W fun e W'=>(∃ v,e= .returned v)∧J (rfsA l 0) W':=by
 have cv:=run_toBytes W l
 have hb1:=Lib.bytesWorld_below W 5 ⟨l.toArray⟩
 have hBy:Byt (Lib.bytesWorld W 5 ⟨l.toArray⟩) (Lib.bytesWorld W 5 ⟨l.toArray⟩).heap.size (some ⟨W.heap.size,0,none⟩) l.length (grownCap W l.length 0 5) l:=(byt_new W l (by omega)).more (Nat.le_of_eq (Lib.bytesWorld_size _ _ _).symm)
 obtain⟨vs,vf,hvs⟩: ∃ vs vf,(Lib.bytesWorld W 5 ⟨l.toArray⟩).heap[W.heap.size]? =some (.cells vs 5 vf):=⟨_,_,Lib.bytesWorld_at_new W 5 ⟨l.toArray⟩⟩
 have hJ1:J [] (Lib.bytesWorld W 5 ⟨l.toArray⟩):=hJ [] W _ none h0 (hb1.gr none) (fun r e=>by cases e)
 have c0:=hb.cell
 generalize Lib.bytesWorld W 5 ⟨l.toArray⟩=W1 at *
 generalize grownCap W l.length 0 5=cap at *
 obtain⟨Y,hYb⟩: ∃ Y,W.heap.size=Y:=⟨_,rfl⟩
 rw[hYb]at cv hBy hvs
 obtain⟨n,hn⟩: ∃ n,l.length=n:=⟨_,rfl⟩
 rw[hn]at cv hBy hm
 have HJ:=Hd hJ
 have HY:=Hd hY
 have HN:=Hd hn
 have HBy:=Hd (And.intro hBy hvs)
 have HFT:=Hd (And.intro hF hT)
 have hB1:Below w0.heap.size w0 W1:=hB.trans (hb1.mono hB.size)
 have J0:Hid (rfsA l 0= []++rfsA l 0∧J [] W1∧Below w0.heap.size w0 W1∧W1.heap[Y]? =some (.cells vs 5 vf)):=Hd ⟨rfl,hJ1,hB1,hvs⟩
 have hrf: ∀ (k:Nat) (w2:World),k≤n→(Instr.slice 29 (.slice (some ⟨Y,0,none⟩) n cap) (some (.int .i64 (k:Int))) none none).run Tryz.prog w2= .ok (.slice (cutA (some ⟨Y,0,none⟩) cap k) (n - k) (cap - k)) w2:=fun k w2 hk=>run_from (w:=w2) (some ⟨Y,0,none⟩) n cap k hk
 clear hJ hY hF hT hB hb hb1 hBy hvs h0 hJ1 hB1 hn
 refine callsIn_of_wp Tryz.func66 rfl trivial ?_ rfl
 simp only[Tryz.ntmps66,List.size_toArray,List.length_cons,List.length_nil,Nat.reduceAdd,Nat.reduceSub,Array.replicate_succ,Array.replicate_zero,List.push_toArray,List.append_toArray,List.nil_append,List.cons_append]
 gi_wp2
 gi_loopw [4] (fun i wr=> ∃ (k:Nat) (pre:List (Nat × Nat × List UInt8)),i= .int .i64 (k:Int)∧k≤n∧Hid (rfsA l 0=pre++rfsA l k∧J pre wr∧Below w0.heap.size w0 wr∧wr.heap[Y]? =some (.cells vs 5 vf)))
  (fun i _=>n+1 - (intOf i).toNat)
 case atStart=>exact⟨0,[],rfl,Nat.zero_le _,J0⟩
 case round =>
  clear J0 cv c0
  obtain⟨k,pre,rfl,hk,HI⟩:=hrel
  have hk0:(0:Int)≤(k:Int):=by omega
  have hk1:(k:Int)≤20000:=by omega
  have hrk:=hrf k
  have hby:Byt wr wr.heap.size (some ⟨Y,0,none⟩) n cap l:=HBy.out.1.blk (HI.out.2.2.2.trans HBy.out.2.symm) (lt_of HI.out.2.2.2)
  have CI:Hid (Calls Tryz.prog 67 #[.slice (cutA (some ⟨Y,0,none⟩) cap k) (n - k) (cap - k),.int .u8 38] wr fun e w'=>e= .returned (.int .i64 (Lib.indexByte (l.drop k) 38))∧w'=wr):=Hd (indexByte_c _ _ _ (l.drop k) 38 wr _ (hby.drop hk))
  have CE:Hid (∀ j:Nat,j≤n→Calls Tryz.prog 56 #[.slice (some ⟨Y,0,none⟩) n cap,.int .i64 (j:Int)] wr fun e w'=>e= .returned (.tuple #[.string ⟨(refOut 38 l j).1.toArray⟩,.int .i64 ((refOut 38 l j).2.1:Int),.int .i64 ((refOut 38 l j).2.2:Int)])∧Below wr.heap.size wr w'):=Hd fun j hj=>by
   have:=crefEntity_c (some ⟨Y,0,none⟩) n cap l (j:Int) wr hby (HFT.out.1.below HI.out.2.2.1 HFT.out.1.lt) (HFT.out.2.below HI.out.2.2.1 (HFT.out.2.low HFT.out.1)) (by omega)
   rw[refAt_inR l j (by rw[HN.out];exact hj)]at this
   exact this
  have hlo:=ix_lo 38 (l.drop k)
  rw[List.length_drop,HN.out]at hlo
  clear hby
  by_cases hx:Lib.indexByte (l.drop k) 38<0
  · have HE:Hid (rfsA l 0=pre):=Hd (by
     have hno:=ix_none 38 (l.drop k) hx
     rw[HI.out.1,rfsA_none l k (fun i hi=>by
      have:=hno (i - k)
      rwa [List.getElem?_drop,show k+(i - k)=i by omega]at this),List.append_nil])
    have hd:decide (Lib.indexByte (l.drop k) 38<0)=true:=by simpa using hx
    clear hlo hx CE
    generalize Lib.indexByte (l.drop k) 38=ix at *
    gi_wp2_with fail
    refine⟨trivial,(callsIn_wide.2 CI.out).mono ?_⟩
    rintro e w2 ⟨rfl,rfl⟩
    clear CI hrk
    gi_wp2
    exact bodyPost_ret (results_none (by rfl) _ _ _) rfl ⟨⟨_,rfl⟩,by rw[HE.out];exact HI.out.2.1⟩
  · obtain⟨hat,hno⟩:=ix_at 38 (l.drop k) (by omega)
    obtain⟨j,hj⟩: ∃ j:Nat,Lib.indexByte (l.drop k) 38=(j:Int):=⟨(Lib.indexByte (l.drop k) 38).toNat,by omega⟩
    rw[hj]at CI hlo hno
    have hpl:k+j<n:=by omega
    have HSK:Hid (rfsA l 0=pre++rfsA l (k+j)):=Hd (by
     rw[HI.out.1,rfsA_skip l k j (fun i h1 h2=>by
      have:=hno (i - k) (by omega)
      rwa [List.getElem?_drop,show k+(i - k)=i by omega]at this) (by rw[HN.out];omega)])
    have hjj:decide ((j:Int)<0)=false:=by simp
    have hj0:(0:Int)≤(j:Int):=by omega
    have hj9:(j:Int)≤20000:=by omega
    have CE2:=CE.out (k+j) (by omega)
    rw[Int.natCast_add]at CE2
    obtain⟨r,hr⟩: ∃ r,refOut 38 l (k+j)=r:=⟨_,rfl⟩
    rw[hr]at CE2
    have HR:=Hd hr
    obtain⟨s,nx,f⟩:=r
    simp only at CE2
    have CE3:=Hd CE2
    clear hlo hno hat hj hx CE CE2 hr
    by_cases hf:f=0
    · subst hf
      have hnx:=refOut_nx l (k+j) (by rw[HR.out])
      rw[HR.out]at hnx
      simp only at hnx
      have HNX:=Hd (And.intro hnx.1 (show nx≤n by rw[← HN.out];exact hnx.2.1))
      have HRS:Hid (rfsA l 0=(pre++ [(k+j,nx,s)])++rfsA l nx):=Hd (by
       rw[HSK.out,rfsA_ref l (k+j) (by rw[HR.out]),HR.out]
       simp)
      clear hnx
      gi_wp2_with fail
      refine⟨trivial,(callsIn_wide.2 CI.out).mono ?_⟩
      rintro e w2 ⟨rfl,rfl⟩
      clear CI hrk
      gi_wp2_with fail
      refine⟨trivial,(callsIn_wide.2 CE3.out).mono ?_⟩
      rintro e w3 ⟨rfl,hb3⟩
      have J3:J pre w3:=HJ.out pre _ w3 none HI.out.2.1 (hb3.gr none) (fun r e=>by cases e)
      have HB3:Hid (Below w0.heap.size w0 w3∧w3.heap[Y]? =some (.cells vs 5 vf)):=Hd ⟨HI.out.2.2.1.trans (hb3.mono HI.out.2.2.1.size),(hb3.block _ (lt_of HI.out.2.2.2)).trans HI.out.2.2.2⟩
      obtain⟨fn,tmps,assign,body,hy,hR⟩:=HY.out pre (k+j,nx,s) w3 J3 (by rw[HRS.out];exact List.prefix_append _ _)
      unfold encR at hy
      dsimp only at hy
      rw[Int.natCast_add]at hy
      have HRR:=Hd hR
      clear hR J3 hb3 CE3
      gi_wp2
      refine HRR.out.mono ?_
      rintro e W3 ⟨rfl,hJ3,hk3⟩
      have HJ3:Hid (rfsA l 0=(pre++ [(k+j,nx,s)])++rfsA l nx∧J (pre++ [(k+j,nx,s)]) W3∧Below w0.heap.size w0 W3∧W3.heap[Y]? =some (.cells vs 5 vf)):=Hd ⟨HRS.out,hJ3,HB3.out.1.trans hk3.1,hk3.2.2 _ _ _ HB3.out.2⟩
      clear hJ3 hk3 hy
      gi_wp2
      go_roundw
      case rel=>exact⟨nx,pre++ [(k+j,nx,s)],by first|rfl|go_num,HNX.out.2,HJ3⟩
      case measure=>have:=HNX.out;simp[intOf];omega
    · have hf2:((f:Int)==0)=false:=by simpa using hf
      have hf3: ¬ (f:Int)=0:=by omega
      have HRS:Hid (rfsA l 0=pre++rfsA l (k+j+1)):=Hd (by rw[HSK.out,rfsA_no l (k+j) (by rw[HN.out];exact hpl) (by rw[HR.out];exact hf)])
      clear hf
      gi_wp2_with fail
      refine⟨trivial,(callsIn_wide.2 CI.out).mono ?_⟩
      rintro e w2 ⟨rfl,rfl⟩
      clear CI hrk
      gi_wp2_with fail
      refine⟨trivial,(callsIn_wide.2 CE3.out).mono ?_⟩
      rintro e w3 ⟨rfl,hb3⟩
      have HJ3:Hid (rfsA l 0=pre++rfsA l (k+j+1)∧J pre w3∧Below w0.heap.size w0 w3∧w3.heap[Y]? =some (.cells vs 5 vf)):=Hd ⟨HRS.out,HJ.out pre _ w3 none HI.out.2.1 (hb3.gr none) (fun r e=>by cases e),HI.out.2.2.1.trans (hb3.mono HI.out.2.2.1.size),(hb3.block _ (lt_of HI.out.2.2.2)).trans HI.out.2.2.2⟩
      clear hb3 CE3
      gi_wp2
      go_roundw
      case rel=>exact⟨k+j+1,pre,by first|rfl|go_num,by omega,HJ3⟩
      case measure=>simp [intOf];omega
end Go.Proofs.YtbafljibbabnaaaGreatDoor
