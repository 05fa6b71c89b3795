/- Texts of ours, joined: Utf1. -/
import Derived.Test.YtbafljibbabnaaaGreatDoorQ1
namespace Go.Proofs.YtbafljibbabnaaaGreatDoor
open Go.ChangeShapes Go.WideShapes Go.ChangeAt Go.RowKit
set_option linter.unusedVariables false
set_option maxRecDepth 100000
set_option maxHeartbeats 32000000
theorem length_c (c:UInt8)(w:World):Calls Tryz.prog 161 #[.int .u8 c.toNat] w fun e w'=>e= .returned (.int .i64 (lenB c.toNat))∧w=w':=by
 have hc:=c.toNat_lt
 generalize c.toNat=x at *
 unfold lenB
 by_cases h1:x<128
 · have h1':(x:Int)<128:=by omega
   rw[if_pos h1]
   go_enter Tryz.func161,Tryz.ntmps161
   go_wp2
   go_ret
   exact⟨rfl,rfl⟩
 · have h1': ¬ (x:Int)<128:=by omega
   rw[if_neg h1]
   by_cases h2:x<192
   · have h2':(x:Int)<192:=by omega
     rw[if_pos h2]
     go_enter Tryz.func161,Tryz.ntmps161
     go_wp2
     go_ret
     exact⟨rfl,rfl⟩
   · have h2': ¬ (x:Int)<192:=by omega
     rw[if_neg h2]
     by_cases h3:x<224
     · have h3':(x:Int)<224:=by omega
       rw[if_pos h3]
       go_enter Tryz.func161,Tryz.ntmps161
       go_wp2
       go_ret
       exact⟨rfl,rfl⟩
     · have h3': ¬ (x:Int)<224:=by omega
       rw[if_neg h3]
       by_cases h4:x<240
       · have h4':(x:Int)<240:=by omega
         rw[if_pos h4]
         go_enter Tryz.func161,Tryz.ntmps161
         go_wp2
         go_ret
         exact⟨rfl,rfl⟩
       · have h4': ¬ (x:Int)<240:=by omega
         rw[if_neg h4]
         by_cases h5:x<248
         · have h5':(x:Int)<248:=by omega
           rw[if_pos h5]
           go_enter Tryz.func161,Tryz.ntmps161
           go_wp2
           go_ret
           exact⟨rfl,rfl⟩
         · have h5': ¬ (x:Int)<248:=by omega
           rw[if_neg h5]
           go_enter Tryz.func161,Tryz.ntmps161
           go_wp2
           go_ret
           exact⟨rfl,rfl⟩
theorem utfIs_c (r:Int)(w:World):Calls Tryz.prog 162 #[.int .i64 r] w fun e w'=>e= .returned (.bool (isR r))∧w=w':=by
 have hf:isR r=true∨isR r=false:=by cases isR r <;> simp
 by_cases h0:0≤r
 · by_cases h1:r≤1114111
   · by_cases h2:r<55296
     · have e:isR r=true:=by simp[isR,h0,h1,h2]
       rw[e]
       clear hf e
       go_enter Tryz.func162,Tryz.ntmps162
       go_wp2
       go_ret
       exact⟨rfl,rfl⟩
     · by_cases h3:57343<r
       · have e:isR r=true:=by simp[isR,h0,h1,h3]
         rw[e]
         clear hf e
         go_enter Tryz.func162,Tryz.ntmps162
         go_wp2
         go_ret
         exact⟨rfl,rfl⟩
       · have e:isR r=false:=by simp[isR,h2,h3]
         rw[e]
         clear hf e
         have h3':r≤57343:=by omega
         have h2':55296≤r:=by omega
         go_enter Tryz.func162,Tryz.ntmps162
         go_wp2
         go_ret
         exact⟨rfl,rfl⟩
   · have e:isR r=false:=by simp[isR,h1]
     rw[e]
     clear hf e
     have h1':1114111<r:=by omega
     have hd1:decide (r≤1114111)=false:=by simp;omega
     have hd0:decide (0≤r)=true:=by simpa using h0
     go_enter Tryz.func162,Tryz.ntmps162
     go_wp2
     go_ret
     exact⟨rfl,rfl⟩
 · have e:isR r=false:=by simp[isR,h0]
   rw[e]
   clear hf e
   have hd0:decide (0≤r)=false:=by simpa using h0
   have h0':r<0:=by omega
   go_enter Tryz.func162,Tryz.ntmps162
   go_wp2
   go_ret
   exact⟨rfl,rfl⟩
end Go.Proofs.YtbafljibbabnaaaGreatDoor
