/-
 PRINTED BY A PROGRAM OF THIS SESSION'S OWN (gen2.py): the Go functions as Lean functions over the abstract memory.
-/
import Derived.Test.YtjbledomkmdkmaaGreatP8
import Derived.Test.YtjbledomkmdkmaaGreatP9
set_option maxRecDepth 100000
set_option linter.unusedVariables false
set_option linter.unusedSimpArgs false
set_option linter.unusedSectionVars false
namespace Go.Proofs.YtjbledomkmdkmaaGreat
open Go Go.AX
abbrev As:TypeId:=3
abbrev Ahm:TypeId:=4
abbrev DC:TypeId:=27
abbrev Hd:TypeId:=28
abbrev HG:TypeId:=31
abbrev FM:TypeId:=32
abbrev HJ:TypeId:=33
abbrev MG:TypeId:=35
abbrev LM:TypeId:=43
abbrev FL:TypeId:=45
abbrev He:TypeId:=46
abbrev HH:TypeId:=47
abbrev BH:TypeId:=49
abbrev rz:TypeId:=52
abbrev AS:TypeId:=55
abbrev rA:TypeId:=61
abbrev Ag:TypeId:=97
abbrev WQ:TypeId:=101
abbrev Dk:TypeId:=107
abbrev Am:TypeId:=109
abbrev Ac:TypeId:=111
abbrev tQ:TypeId:=122
abbrev Of:TypeId:=136
abbrev FQ:TypeId:=139
abbrev Gc:TypeId:=173
abbrev D9:TypeId:=3
abbrev Dc:TypeId:=156
abbrev Rq:TypeId:=165
abbrev HS:TypeId:=171
abbrev AW:TypeId:=173
abbrev Rp:TypeId:=179
abbrev SE:TypeId:=223
abbrev Bt:TypeId:=242
abbrev Pj:TypeId:=224
abbrev Ab7:TypeId:=242
abbrev Ol:TypeId:=246
abbrev Wn:TypeId:=248
abbrev mR:TypeId:=251
abbrev pQ:TypeId:=256
abbrev BI:TypeId:=259
abbrev pZ:TypeId:=268
abbrev qT:TypeId:=269
abbrev qV:TypeId:=270
abbrev qU:TypeId:=271
abbrev qa:TypeId:=272
abbrev mf:TypeId:=290
def XK (b:Bool):Ext:=fun f=>if f=20 then (bif b then some sL else X f) else X f
class Kn where
 b:Bool
def Lg (i:Nat):Nat→List (Nat × Value)→AZ
 | 0,_=>[]
 | n+1,[]=>none::Lg (i+1) n []
 | n+1,(j,v)::l=>bif Nat.beq i j then some v::Lg (i+1) n l else none::Lg (i+1) n ((j,v)::l)
def H:FuncId→Hints
 | 3=>[(11,⟨[],[(.normal,[]),(.ret,[(8,.bool)])]⟩)]
 | 4=>[(10,⟨[1,5,7],[(.exit 0,[]),(.ret,[(4,.bool)])]⟩),(21,⟨[],[(.normal,[(9,.int .i64)])]⟩),(29,⟨[],[(.normal,[]),(.ret,[(4,.bool)])]⟩)]
 | 15=>[(8,⟨[0,1,5],[(.exit 0,[]),(.ret,[(4,.bool)])]⟩)]
 | 18=>[(8,⟨[0,1,5],[(.exit 0,[]),(.ret,[(4,.bool)])]⟩),(18,⟨[0,1,6],[(.exit 2,[]),(.ret,[(4,.bool)])]⟩)]
 | 19=>[(6,⟨[0,3,4],[(.exit 0,[])]⟩),(18,⟨[0,3,6,7],[(.exit 2,[])]⟩),(30,⟨[0,8,9],[(.exit 4,[])]⟩),(42,⟨[0,8,13],[(.exit 6,[])]⟩)]
 | 30=>[(6,⟨[0,1,5,6],[(.exit 0,[(5,.slice)])]⟩)]
 | 37=>[(14,⟨[0,3,5,6],[(.exit 0,[])]⟩)]
 | 38=>[(20,⟨[1,9,10],[(.exit 0,[]),(.ret,[(2,.ptr)])]⟩),(30,⟨[1,9,11],[(.exit 2,[]),(.ret,[(2,.ptr)])]⟩),(42,⟨[1,9,13],[(.exit 4,[]),(.ret,[(2,.ptr)])]⟩),(58,⟨[1,9,18],[(.exit 6,[]),(.ret,[(2,.ptr)])]⟩),(68,⟨[1,9,19],[(.exit 8,[]),(.ret,[(2,.ptr)])]⟩)]
 | 45=>[(12,⟨[0,16,17],[(.exit 0,[]),(.ret,[(4,.int .i64),(5,.int .i64)])]⟩)]
 | 62=>[(6,⟨[0,1,7,8],[(.exit 0,[(7,.slice)])]⟩),(14,⟨[0,2,7,9],[(.exit 2,[(7,.slice)])]⟩),(22,⟨[0,2,7,10,11],[(.exit 4,[(7,.slice)])]⟩),(30,⟨[0,7,12,13],[(.exit 6,[(7,.slice)])]⟩),(37,⟨[],[(.normal,[(7,.slice)])]⟩),(41,⟨[],[(.normal,[(7,.slice)])]⟩)]
 | 63=>[(8,⟨[0,3,4,5],[(.exit 0,[(3,.slice)])]⟩),(18,⟨[3,6,7,8],[(.exit 2,[(7,.bool)])]⟩),(27,⟨[],[(.normal,[(3,.slice)])]⟩)]
 | 66=>[(8,⟨[0,4],[(.exit 0,[(4,.int .i64)])]⟩)]
 | 71=>[(9,⟨[],[(.normal,[])]⟩),(13,⟨[],[(.normal,[])]⟩),(17,⟨[],[(.normal,[])]⟩),(21,⟨[],[(.normal,[])]⟩)]
 | 81=>[(6,⟨[0,2,7,8,9],[(.exit 0,[(7,.slice)])]⟩)]
 | 82=>[(4,⟨[0,1,5],[(.exit 0,[]),(.ret,[(4,.int .i64)])]⟩)]
 | 83=>[(8,⟨[0,1,5],[(.exit 0,[]),(.ret,[(4,.int .i64)])]⟩)]
 | 85=>[(10,⟨[2,5,19,20,21],[(.exit 0,[]),(.ret,[(4,.bool)])]⟩),(18,⟨[2,5,7,32,33],[(.exit 2,[]),(.ret,[(4,.bool)])]⟩)]
 | 90=>[(8,⟨[0,3,4,5],[(.exit 0,[(3,.slice)])]⟩),(15,⟨[],[(.normal,[(3,.slice)])]⟩)]
 | 92=>[(10,⟨[0,4,5],[(.exit 0,[])]⟩)]
 | 96=>[(12,⟨[3],[(.normal,[])]⟩)]
 | 100=>[(13,⟨[],[(.normal,[]),(.ret,[(6,.bool)])]⟩),(17,⟨[],[(.normal,[(10,.int .i64)])]⟩)]
 | 130=>[(2,⟨[0,8,9,10],[(.exit 0,[])]⟩)]
 | 131=>[(5,⟨[],[(.normal,[])]⟩),(9,⟨[],[(.normal,[])]⟩),(15,⟨[],[(.normal,[])]⟩),(16,⟨[0,48,49,50],[(.exit 1,[])]⟩)]
 | 137=>[(15,⟨[],[(.normal,[(12,.int .i64),(13,.int .i64)])]⟩)]
 | 139=>[(21,⟨[],[(.normal,[])]⟩)]
 | 143=>[(5,⟨[],[(.normal,[])]⟩)]
 | 159=>[(3,⟨[],[(.normal,[])]⟩)]
 | 160=>[(8,⟨[0,2,8],[(.exit 0,[]),(.ret,[(6,.int .i64),(7,.int .i64)])]⟩)]
 | 168=>[(12,⟨[3],[(.normal,[])]⟩),(15,⟨[],[(.normal,[])]⟩)]
 | 177=>[(14,⟨[0,1,6],[(.exit 0,[])]⟩)]
 | 179=>[(10,⟨[0,3,4],[(.exit 0,[(3,.slice)])]⟩),(16,⟨[3,4,5],[(.exit 2,[(3,.slice)])]⟩),(24,⟨[3,6],[(.exit 4,[(3,.slice)])]⟩),(32,⟨[0,3,7],[(.exit 6,[(3,.slice)])]⟩)]
 | 182=>[(9,⟨[],[(.normal,[])]⟩),(13,⟨[],[(.normal,[])]⟩)]
 | 190=>[(6,⟨[0,3,4],[(.exit 0,[(3,.int .i64)])]⟩),(13,⟨[],[(.normal,[(3,.int .i64)])]⟩)]
 | 215=>[(3,⟨[],[(.normal,[])]⟩)]
 | 216=>[(3,⟨[],[(.normal,[])]⟩),(8,⟨[0,31,32,33],[(.exit 0,[])]⟩),(15,⟨[],[(.normal,[])]⟩),(25,⟨[],[(.normal,[])]⟩)]
 | 217=>[(8,⟨[5,7,18,19,20],[(.exit 0,[(7,.slice)])]⟩),(15,⟨[],[(.normal,[(7,.slice)])]⟩)]
 | 219=>[(3,⟨[],[(.normal,[])]⟩),(10,⟨[0,24,25,26],[(.exit 0,[])]⟩),(17,⟨[],[(.normal,[])]⟩),(22,⟨[0,46,47],[(.exit 2,[])]⟩),(31,⟨[],[(.normal,[])]⟩)]
 | 225=>[(17,⟨[],[(.normal,[(7,.func)])]⟩),(31,⟨[],[(.normal,[(11,.int .i64)])]⟩)]
 | 227=>[(4,⟨[0,1,5],[(.exit 0,[(5,.int .i64)])]⟩)]
 | 237=>[(4,⟨[0,1,7,8],[(.exit 0,[]),(.ret,[(4,.int .i64)])]⟩)]
 | 243=>[(4,⟨[0,1,5],[(.exit 0,[(5,.int .i64)])]⟩)]
 | 244=>[(2,⟨[0,19,20,21],[(.exit 0,[]),(.ret,[])]⟩),(8,⟨[0,3,4,27,28],[(.exit 2,[]),(.ret,[])]⟩),(17,⟨[],[(.normal,[])]⟩)]
 | 245=>[(4,⟨[0,1,5],[(.exit 0,[]),(.ret,[(4,.int .i64)])]⟩),(10,⟨[0,1,5,6],[(.exit 2,[(6,.int .i64)])]⟩)]
 | 246=>[(12,⟨[0,1,2,9],[(.exit 0,[]),(.ret,[(8,.int .i64)])]⟩),(22,⟨[0,1,2,3,10],[(.exit 2,[])]⟩)]
 | 247=>[(4,⟨[0,2,4,8],[(.exit 0,[]),(.ret,[(6,.int .i64),(7,.bool)])]⟩),(14,⟨[4,9,10],[(.exit 2,[]),(.ret,[(6,.int .i64),(7,.bool)])]⟩)]
 | 250=>[(16,⟨[0,1,9,53,54],[(.exit 1,[])]⟩)]
 | 251=>[(11,⟨[],[(.normal,[]),(.ret,[(8,.int .i64)])]⟩),(20,⟨[0,1,3,6,10],[(.exit 0,[]),(.ret,[(8,.int .i64)])]⟩)]
 | 252=>[(4,⟨[0,3,4],[(.exit 0,[(4,.int .i64)])]⟩)]
 | 253=>[(11,⟨[],[(.normal,[]),(.ret,[(8,.int .i64)])]⟩),(20,⟨[0,1,2,3,10],[(.exit 0,[]),(.ret,[(8,.int .i64)])]⟩)]
 | 263=>[(14,⟨[0,1,3,31,32],[(.exit 0,[])]⟩)]
 | 264=>[(8,⟨[0,1,7,21,22],[(.exit 0,[(7,.slice)])]⟩)]
 | 265=>[(4,⟨[0,2,15,16,17],[(.exit 0,[(2,.slice)])]⟩),(15,⟨[],[(.normal,[(2,.slice)])]⟩),(22,⟨[0,60,61,62],[(.exit 2,[])]⟩)]
 | 269=>[(4,⟨[0,1,7,8],[(.exit 0,[]),(.ret,[(4,.int .i64)])]⟩)]
 | 272=>[(6,⟨[0,6,7],[(.exit 0,[]),(.ret,[(4,.int .i64),(5,.bool)])]⟩)]
 | 282=>[(14,⟨[0,5,6,7,8],[(.exit 0,[(5,.slice),(6,.int .i64)])]⟩),(21,⟨[],[(.normal,[(5,.slice)])]⟩),(29,⟨[],[(.normal,[(5,.slice)])]⟩)]
 | 286=>[(12,⟨[0,1,5],[(.exit 0,[(5,.int .i64)])]⟩)]
 | 292=>[(6,⟨[0,1,5,6],[(.exit 0,[(5,.slice)])]⟩),(13,⟨[],[(.normal,[(5,.slice)])]⟩)]
 | 296=>[(18,⟨[0,1,7,11,43,44],[(.exit 0,[(11,.int .i64)])]⟩),(27,⟨[],[(.normal,[(11,.int .i64)])]⟩)]
 | 297=>[(4,⟨[0,1,7,8],[(.exit 0,[]),(.ret,[(4,.int .i64)])]⟩)]
 | 298=>[(8,⟨[0,2,8],[(.exit 0,[]),(.ret,[(6,.int .i64),(7,.int .i64)])]⟩)]
 | 319=>[(6,⟨[0,1,2,7,14,15,16],[(.exit 0,[(7,.slice)])]⟩),(12,⟨[1,2,7,25,26,27],[(.exit 2,[(7,.slice)])]⟩),(21,⟨[],[(.normal,[])]⟩),(25,⟨[],[(.normal,[(7,.slice)])]⟩)]
 | 320=>[(4,⟨[0,2,4],[(.exit 0,[]),(.ret,[(3,.bool)])]⟩)]
 | 321=>[(6,⟨[0,3,9,10],[(.exit 0,[(3,.slice)])]⟩),(13,⟨[],[(.normal,[(3,.slice)])]⟩)]
 | 322=>[(14,⟨[0,6,7,19,20,21],[(.exit 0,[])]⟩)]
 | 324=>[(3,⟨[],[(.normal,[])]⟩)]
 | 328=>[(4,⟨[0,1,2,6,7,8],[(.exit 0,[(7,.int .i64)])]⟩),(14,⟨[0,1,2,6],[(.exit 2,[])]⟩),(18,⟨[0,1,2,6,7,8],[(.exit 4,[(7,.int .i64)])]⟩),(31,⟨[],[(.normal,[])]⟩)]
 | 329=>[(2,⟨[0,1,2,3,8],[(.exit 0,[])]⟩),(8,⟨[0,1,3,9],[(.exit 2,[])]⟩)]
 | 330=>[(6,⟨[0,1,4,10,11],[(.exit 0,[(10,.int .i64)])]⟩),(13,⟨[],[(.normal,[(10,.int .i64),(11,.int .i64)])]⟩),(18,⟨[0,10,13],[(.exit 2,[])]⟩),(30,⟨[0,2,4,14,15],[(.exit 4,[(14,.int .i64)])]⟩),(37,⟨[],[(.normal,[(14,.int .i64),(15,.int .i64)])]⟩),(42,⟨[0,14,17],[(.exit 6,[])]⟩),(57,⟨[],[(.normal,[(20,.int .i64),(21,.int .i64)])]⟩),(66,⟨[0,4,20,21,22],[(.exit 8,[(20,.int .i64)])]⟩),(73,⟨[],[(.normal,[(20,.int .i64),(21,.int .i64)])]⟩),(81,⟨[],[(.normal,[])]⟩),(85,⟨[],[(.normal,[])]⟩),(89,⟨[],[(.normal,[])]⟩)]
 | 331=>[(4,⟨[0,2,4,10,11],[(.exit 0,[(10,.int .i64)])]⟩),(9,⟨[],[(.normal,[(10,.int .i64),(11,.int .i64)])]⟩)]
 | 332=>[(2,⟨[0,1,2,3,10],[(.exit 0,[])]⟩)]
 | 333=>[(9,⟨[],[(.normal,[])]⟩)]
 | 335=>[(5,⟨[],[(.normal,[]),(.ret,[(6,.int .i64),(7,.bool)])]⟩)]
 | 339=>[(4,⟨[0,2,11,12,13],[(.exit 0,[]),(.ret,[(3,.bool)])]⟩),(12,⟨[0,2,5,6,7],[(.exit 2,[]),(.ret,[(3,.bool)])]⟩),(18,⟨[6,8],[(.exit 4,[(8,.int .i64)])]⟩)]
 | 340=>[(10,⟨[0,5,18,19,20],[(.exit 0,[])]⟩),(18,⟨[5,9,10],[(.exit 2,[])]⟩)]
 | _=>[]
section
variable [A9] [Kn]
noncomputable def lp (k f i:Nat) (c:Code) (n:Nat) (rs:AZ) (σ:Aa):Option Ax:=
 lP (fun regs σ K=>exec P (fn P (XK Kn.b) H k) f (H f) k (cB c) Ax regs σ K) (((H f).lookup i).getD default) n rs σ
def u_f {ρ:Type} (l:List Value) (K:Value→Option ρ):Option ρ:=l.head?.bind fun y0=>K y0
def mg {ρ:Type} (l:List Value) (K:Int→Option ρ):Option ρ:=l.head?.bind fun v=>(Ml .i64 v).bind fun y0=>K y0
theorem FR {ρ:Type} (y0:Int) (K:Int→Option ρ):mg [.int .i64 y0] K=K y0:=by simp[mg,Ml,Ez,toStr,NJ,H7,uv]
def yu {ρ:Type} (l:List Value) (K:Int→Int→Option ρ):Option ρ:=l.head?.bind fun v=>(Ml .i64 v).bind fun y0=>l.tail.head?.bind fun v=>(Ml .i64 v).bind fun y1=>K y0 y1
theorem j9 {ρ:Type} (y0:Int) (y1:Int) (K:Int→Int→Option ρ):yu [.int .i64 y0,.int .i64 y1] K=K y0 y1:=by simp[yu,Ml,Ez,toStr,NJ,H7,uv]
def Aii {ρ:Type} (l:List Value) (K:Int→Int→Int→Option ρ):Option ρ:=l.head?.bind fun v=>(Ml .i64 v).bind fun y0=>l.tail.head?.bind fun v=>(Ml .i64 v).bind fun y1=>l.tail.tail.head?.bind fun v=>(Ml .i64 v).bind fun y2=>K y0 y1 y2
def Ab9 {ρ:Type} (l:List Value) (K:Int→Bool→Option ρ):Option ρ:=l.head?.bind fun v=>(Ml .i64 v).bind fun y0=>l.tail.head?.bind fun v=>(Ez v).bind fun y1=>K y0 y1
theorem zF {ρ:Type} (y0:Int) (y1:Bool) (K:Int→Bool→Option ρ):Ab9 [.int .i64 y0,.bool y1] K=K y0 y1:=by simp[Ab9,Ml,Ez,toStr,NJ,H7,uv]
def uw {ρ:Type} (l:List Value) (K:Option Addr × Nat × Nat→Option ρ):Option ρ:=l.head?.bind fun v=>(H7 v).bind fun y0=>K y0
theorem Ps {ρ:Type} (y0:Option Addr × Nat × Nat) (K:Option Addr × Nat × Nat→Option ρ):uw [.slice y0.1 y0.2.1 y0.2.2] K=K y0:=by simp[uw,Ml,Ez,toStr,NJ,H7,uv]
def Ajq {ρ:Type} (l:List Value) (K:Option Addr × Nat × Nat→Int→Option ρ):Option ρ:=l.head?.bind fun v=>(H7 v).bind fun y0=>l.tail.head?.bind fun v=>(Ml .i64 v).bind fun y1=>K y0 y1
theorem zG {ρ:Type} (y0:Option Addr × Nat × Nat) (y1:Int) (K:Option Addr × Nat × Nat→Int→Option ρ):Ajq [.slice y0.1 y0.2.1 y0.2.2,.int .i64 y1] K=K y0 y1:=by simp[Ajq,Ml,Ez,toStr,NJ,H7,uv]
def u_p {ρ:Type} (l:List Value) (K:Option Addr→Option ρ):Option ρ:=l.head?.bind fun v=>(NJ v).bind fun y0=>K y0
def zH {ρ:Type} (l:List Value) (K:Bool→Option ρ):Option ρ:=l.head?.bind fun v=>(Ez v).bind fun y0=>K y0
theorem Ajr {ρ:Type} (y0:Bool) (K:Bool→Option ρ):zH [.bool y0] K=K y0:=by simp[zH,Ml,Ez,toStr,NJ,H7,uv]
def Agd {ρ:Type} (v:Value) (K:Int→Int→Option ρ):Option ρ:=(toA v).bind fun l=>if l.length=2 then yu l K else none
def W4 {ρ:Type} (v:Value) (K:Int→Int→Int→Option ρ):Option ρ:=(toA v).bind fun l=>if l.length=3 then Aii l K else none
theorem Lm {ρ:Type} (y0:Int) (y1:Int) (y2:Int) (K:Int→Int→Int→Option ρ):W4 (.agg #[.int .i64 y0,.int .i64 y1,.int .i64 y2]) K=K y0 y1 y2:=by simp[W4,Aii,toA,Ml,Ez,toStr,NJ,H7,uv]
def dL {ρ:Type} (v:Value) (K:Option ρ):Option ρ:=(qk v).bind fun l=>if l.length=0 then K else none
theorem M8 {ρ:Type}  (K:Option ρ):dL (.tuple #[]) K=K:=by simp[dL,qk,Ml,Ez,toStr,NJ,H7,uv]
def Lv {ρ:Type} (v:Value) (K:Int→Int→Option ρ):Option ρ:=(qk v).bind fun l=>if l.length=2 then l.head?.bind fun v=>(Ml .i64 v).bind fun y0=>l.tail.head?.bind fun v=>(Ml .i64 v).bind fun y1=>K y0 y1 else none
theorem Fs {ρ:Type} (y0:Int) (y1:Int) (K:Int→Int→Option ρ):Lv (.tuple #[.int .i64 y0,.int .i64 y1]) K=K y0 y1:=by simp[Lv,qk,Ml,Ez,toStr,NJ,H7,uv]
def qQ {ρ:Type} (v:Value) (K:Int→Bool→Option ρ):Option ρ:=(qk v).bind fun l=>if l.length=2 then l.head?.bind fun v=>(Ml .i64 v).bind fun y0=>l.tail.head?.bind fun v=>(Ez v).bind fun y1=>K y0 y1 else none
theorem ji {ρ:Type} (y0:Int) (y1:Bool) (K:Int→Bool→Option ρ):qQ (.tuple #[.int .i64 y0,.bool y1]) K=K y0 y1:=by simp[qQ,qk,Ml,Ez,toStr,NJ,H7,uv]
def eH {ρ:Type} (v:Value) (K:Option Addr→Int→Option ρ):Option ρ:=(qk v).bind fun l=>if l.length=2 then l.head?.bind fun v=>(NJ v).bind fun y0=>l.tail.head?.bind fun v=>(Ml .i64 v).bind fun y1=>K y0 y1 else none
theorem ZH {ρ:Type} (y0:Option Addr) (y1:Int) (K:Option Addr→Int→Option ρ):eH (.tuple #[.pointer y0,.int .i64 y1]) K=K y0 y1:=by simp[eH,qk,Ml,Ez,toStr,NJ,H7,uv]
end
noncomputable def Ap {α:Type} (x:α):α:=Classical.choose (⟨x,rfl⟩:∃ y,y=x)
theorem Ab {α:Type} (x:α):Ap x=x:=Classical.choose_spec (⟨x,rfl⟩:∃ y,y=x)
abbrev Bw:=Option (Value × Aa)
abbrev TV:=Value→List Value→Aa→Bw
section
variable [A9] [Kn]
abbrev nq:=Nat→Int→Int→Option Addr→Nat→Nat→Int→(Option Addr × Nat × Nat)→Int→Aa→Option Ax
abbrev Ahv:=Nat→Int→Nat→Int→Aa→Option Ax
abbrev Aci:=Nat→Nat→Int→Int→Int→Aa→Option Ax
abbrev eZ:=Nat→Nat→Nat→Int→Aa→Option Ax
abbrev Acj:=Nat→Nat→Nat→Int→Int→Aa→Option Ax
abbrev yC:=Nat→Nat→Option Addr→Nat→Nat→Int→Aa→Option Ax
abbrev uB:=Nat→Nat→Option Addr→Nat→Nat→Int→Int→Aa→Option Ax
abbrev qZ:=Nat→Nat→Option Addr→Nat→Nat→Int→(Option Addr × Nat × Nat)→Int→Aa→Option Ax
abbrev Aj9:=Nat→Option Addr→Int→Aa→Option Ax
abbrev Pv:=Nat→Option Addr→Int→Int→Aa→Option Ax
abbrev sO:=Nat→Option Addr→Int→Int→Int→Aa→Option Ax
abbrev du:=Nat→Option Addr→Int→Int→Int→Int→Aa→Option Ax
abbrev yD:=Nat→Option Addr→Int→Int→(Option Addr × Nat × Nat)→Int→Aa→Option Ax
abbrev yE:=Nat→Option Addr→Int→Int→Nat→Int→Aa→Option Ax
abbrev kX:=Nat→Option Addr→Int→Int→Option Addr→Nat→Nat→Int→(Option Addr × Nat × Nat)→Int→Aa→Option Ax
abbrev sP:=Nat→Option Addr→Int→(Option Addr × Nat × Nat)→Int→Aa→Option Ax
abbrev yF:=Nat→Option Addr→Int→(Option Addr × Nat × Nat)→Int→Int→Aa→Option Ax
abbrev Ack:=Nat→Option Addr→Int→Nat→Int→Aa→Option Ax
abbrev yG:=Nat→Option Addr→Int→Nat→Int→Int→Aa→Option Ax
abbrev uC:=Nat→Option Addr→Int→Nat→Int→Int→Int→Aa→Option Ax
abbrev fb:=Nat→Option Addr→Nat→Int→Aa→Option Ax
abbrev re:=Nat→Option Addr→Nat→Int→Option Addr→Nat→Nat→Int→Aa→Option Ax
abbrev Acl:=Nat→Option Addr→Nat→Nat→Int→Aa→Option Ax
abbrev uD:=Nat→Option Addr→Nat→Nat→Int→Int→Int→Aa→Option Ax
abbrev rf:=Nat→Option Addr→Nat→Nat→Int→Int→Value→Int→Aa→Option Ax
abbrev ic:=Nat→Option Addr→Nat→Nat→Int→Value→Int→Aa→Option Ax
abbrev rh:=Nat→Option Addr→Nat→Nat→Int→Value→Int→Int→Aa→Option Ax
abbrev nr:=Nat→Option Addr→Nat→Nat→Int→Value→Int→Int→Int→Aa→Option Ax
abbrev ri:=Nat→Option Addr→Nat→Nat→Option Addr→Nat→Nat→Int→Aa→Option Ax
abbrev Za:=Nat→Option Addr→Nat→Nat→Option Addr→Nat→Nat→Int→Int→Aa→Option Ax
abbrev ie:=Nat→Option Addr→Nat→Nat→Value→Int→Int→Aa→Option Ax
abbrev uE:=Nat→Option Addr→Nat→Option Addr→Nat→Nat→Int→Aa→Option Ax
abbrev rj:=Nat→Option Addr→Nat→Option Addr→Nat→Nat→Int→Int→Aa→Option Ax
abbrev yH:=Nat→Option Addr→Option Addr→Int→Aa→Option Ax
abbrev NL:=Nat→Option Addr→Option Addr→Nat→Nat→Int→Int→Aa→Option Ax
abbrev rk:=Nat→Option Addr→Option Addr→Nat→Nat→Int→(Option Addr × Nat × Nat)→Int→Aa→Option Ax
abbrev rm:=Nat→Option Addr→Option Addr→Nat→Nat→(Option Addr × Nat × Nat)→Int→Int→Aa→Option Ax
abbrev rp:=Nat→Value→Int→Option Addr→Nat→Nat→Int→Int→Aa→Option Ax
abbrev Acm:=Nat→Value→Nat→Int→Int→Aa→Option Ax
abbrev UW:=Int→Int→Option Addr→Nat→Nat→Int→(Option Addr × Nat × Nat)→Int→Aa→Option Ax
abbrev Akb:=Int→Nat→Int→Aa→Option Ax
abbrev nv:=Nat→Int→Int→Int→Aa→Option Ax
abbrev uH:=Nat→Nat→Int→Aa→Option Ax
abbrev nx:=Nat→Nat→Int→Int→Aa→Option Ax
abbrev Aft:=Nat→Option Addr→Nat→Nat→Int→Aa→Option Ax
abbrev bw:=Nat→Option Addr→Nat→Nat→Int→Int→Aa→Option Ax
abbrev XM:=Nat→Option Addr→Nat→Nat→Int→(Option Addr × Nat × Nat)→Int→Aa→Option Ax
abbrev Acn:=Option Addr→Int→Aa→Option Ax
abbrev Pw:=Option Addr→Int→Int→Aa→Option Ax
abbrev Aco:=Option Addr→Int→Int→Int→Aa→Option Ax
abbrev W1:=Option Addr→Int→Int→Int→Int→Aa→Option Ax
abbrev ij:=Option Addr→Int→Int→(Option Addr × Nat × Nat)→Int→Aa→Option Ax
abbrev Afu:=Option Addr→Int→Int→Nat→Int→Aa→Option Ax
abbrev SF:=Option Addr→Int→Int→Option Addr→Nat→Nat→Int→(Option Addr × Nat × Nat)→Int→Aa→Option Ax
abbrev jE:=Option Addr→Int→(Option Addr × Nat × Nat)→Int→Aa→Option Ax
abbrev ik:=Option Addr→Int→(Option Addr × Nat × Nat)→Int→Int→Aa→Option Ax
abbrev Ail:=Option Addr→Int→Nat→Int→Aa→Option Ax
abbrev il:=Option Addr→Int→Nat→Int→Int→Aa→Option Ax
abbrev bA:=Option Addr→Int→Nat→Int→Int→Int→Aa→Option Ax
abbrev im:=Option Addr→Nat→Int→Aa→Option Ax
abbrev XN:=Option Addr→Nat→Int→Option Addr→Nat→Nat→Int→Aa→Option Ax
abbrev ny:=Option Addr→Nat→Nat→Int→Aa→Option Ax
abbrev bB:=Option Addr→Nat→Nat→Int→Int→Int→Aa→Option Ax
abbrev XO:=Option Addr→Nat→Nat→Int→Int→Value→Int→Aa→Option Ax
abbrev UX:=Option Addr→Nat→Nat→Int→Value→Int→Aa→Option Ax
abbrev XP:=Option Addr→Nat→Nat→Int→Value→Int→Int→Aa→Option Ax
abbrev UY:=Option Addr→Nat→Nat→Int→Value→Int→Int→Int→Aa→Option Ax
abbrev XQ:=Option Addr→Nat→Nat→Option Addr→Nat→Nat→Int→Aa→Option Ax
abbrev OH:=Option Addr→Nat→Nat→Option Addr→Nat→Nat→Int→Int→Aa→Option Ax
abbrev UZ:=Option Addr→Nat→Nat→Value→Int→Int→Aa→Option Ax
abbrev Acp:=Option Addr→Nat→Option Addr→Nat→Nat→Int→Aa→Option Ax
abbrev XR:=Option Addr→Nat→Option Addr→Nat→Nat→Int→Int→Aa→Option Ax
abbrev Ahw:=Option Addr→Option Addr→Int→Aa→Option Ax
abbrev JY:=Option Addr→Option Addr→Nat→Nat→Int→Int→Aa→Option Ax
abbrev XS:=Option Addr→Option Addr→Nat→Nat→Int→(Option Addr × Nat × Nat)→Int→Aa→Option Ax
abbrev zM:=Option Addr→Option Addr→Nat→Nat→(Option Addr × Nat × Nat)→Int→Int→Aa→Option Ax
abbrev XT:=Value→Int→Option Addr→Nat→Nat→Int→Int→Aa→Option Ax
abbrev nz:=Value→Nat→Int→Int→Aa→Option Ax
abbrev T_:=Aa→Bw
abbrev lg:=Int→Aa→Bw
abbrev jG:=Int→Int→Aa→Bw
abbrev GS:=Int→Int→Int→Aa→Bw
abbrev gb:=Int→Int→Int→Int→Aa→Bw
abbrev dw:=Int→Int→(Option Addr × Nat × Nat)→(Option Addr × Nat × Nat)→(Option Addr × Nat × Nat)→(Option Addr × Nat × Nat)→(Option Addr × Nat × Nat)→Aa→Bw
abbrev sT:=Int→Int→(Option Addr × Nat × Nat)→(Option Addr × Nat × Nat)→(Option Addr × Nat × Nat)→(Option Addr × Nat × Nat)→(Option Addr × Nat × Nat)→Int→Int→Int→Aa→Bw
abbrev uM:=Int→Option Addr→Aa→Bw
abbrev nT:=Int→Option Addr→Option Addr→Aa→Bw
abbrev T_l:=(Option Addr × Nat × Nat)→Aa→Bw
abbrev qp:=(Option Addr × Nat × Nat)→Int→Aa→Bw
abbrev sU:=(Option Addr × Nat × Nat)→Int→Int→Int→Value→Aa→Bw
abbrev gf:=(Option Addr × Nat × Nat)→Int→Int→Value→Aa→Bw
abbrev ry:=(Option Addr × Nat × Nat)→Int→Value→Aa→Bw
abbrev uN:=(Option Addr × Nat × Nat)→(Option Addr × Nat × Nat)→Aa→Bw
abbrev zR:=(Option Addr × Nat × Nat)→Option Addr→Aa→Bw
abbrev Zf:=(Option Addr × Nat × Nat)→Value→Aa→Bw
abbrev Cz:=Option Addr→Aa→Bw
abbrev Az:=Option Addr→Int→Aa→Bw
abbrev lh:=Option Addr→Int→Bool→Aa→Bw
abbrev Cj:=Option Addr→Int→Int→Aa→Bw
abbrev bE:=Option Addr→Int→Int→Bool→Aa→Bw
abbrev Dp:=Option Addr→Int→Int→Int→Aa→Bw
abbrev DT:=Option Addr→Int→Int→Int→Int→Aa→Bw
abbrev uO:=Option Addr→Int→Int→Int→Int→Int→Aa→Bw
abbrev RB:=Option Addr→Int→Int→Int→Int→Int→Int→Aa→Bw
abbrev lk:=Option Addr→Int→Int→Int→Int→Int→(Option Addr × Nat × Nat)→(Option Addr × Nat × Nat)→Bool→Aa→Bw
abbrev nU:=Option Addr→Int→(Option Addr × Nat × Nat)→Aa→Bw
abbrev iq:=Option Addr→Int→Value→Aa→Bw
abbrev uP:=Option Addr→(Option Addr × Nat × Nat)→Aa→Bw
abbrev mw:=Option Addr→Option Addr→Aa→Bw
abbrev jH:=Option Addr→Option Addr→Bool→Int→Aa→Bw
abbrev nV:=Option Addr→Option Addr→Int→Aa→Bw
abbrev Ac0:=Value→Option Addr→Aa→Bw
noncomputable def Ju:Nat→sT:=Ap fun k x0_0 x0_1 x0_2 x0_3 x0_4 x0_5 x0_6 x1 x2 x3 σ=>fn P (XK Kn.b) H k 3 [.agg #[.int .u8 x0_0,.int .u8 x0_1,.slice x0_2.1 x0_2.2.1 x0_2.2.2,.slice x0_3.1 x0_3.2.1 x0_3.2.2,.slice x0_4.1 x0_4.2.1 x0_4.2.2,.slice x0_5.1 x0_5.2.1 x0_5.2.2,.slice x0_6.1 x0_6.2.1 x0_6.2.2],.int .u8 x1,.int .u8 x2,.int .u8 x3] σ
noncomputable def NV:Nat→dw:=Ap fun k x0_0 x0_1 x0_2 x0_3 x0_4 x0_5 x0_6 σ=>fn P (XK Kn.b) H k 11 [.agg #[.int .u8 x0_0,.int .u8 x0_1,.slice x0_2.1 x0_2.2.1 x0_2.2.2,.slice x0_3.1 x0_3.2.1 x0_3.2.2,.slice x0_4.1 x0_4.2.1 x0_4.2.2,.slice x0_5.1 x0_5.2.1 x0_5.2.2,.slice x0_6.1 x0_6.2.1 x0_6.2.2]] σ
noncomputable def BF:Nat→Cz:=Ap fun k x0 σ=>fn P (XK Kn.b) H k 12 [.pointer x0] σ
noncomputable def Bl:Nat→Az:=Ap fun k x0 x1 σ=>fn P (XK Kn.b) H k 13 [.pointer x0,.int .i64 x1] σ
noncomputable def BE:Nat→Cz:=Ap fun k x0 σ=>fn P (XK Kn.b) H k 14 [.pointer x0] σ
noncomputable def D6:Nat→uN:=Ap fun k x0 x1 σ=>fn P (XK Kn.b) H k 15 [.slice x0.1 x0.2.1 x0.2.2,.slice x1.1 x1.2.1 x1.2.2] σ
noncomputable def Ge:Nat→ri:=Ap fun k n p0 c1 c2 p3 c4 c5 x5 σ=>lp k 15 8 (cB (cR (cL (cR (cR (BM Tryz.f15)))))) n (Lg 0 26 [(0,.slice p0 c1 c2),(1,.slice p3 c4 c5),(5,.int .i64 x5)]) σ
noncomputable def BU:Nat→Cz:=Ap fun k x0 σ=>fn P (XK Kn.b) H k 16 [.pointer x0] σ
noncomputable def Fe:Nat→Cz:=Ap fun k x0 σ=>fn P (XK Kn.b) H k 17 [.pointer x0] σ
noncomputable def Kj:Nat→mw:=Ap fun k x0 x1 σ=>fn P (XK Kn.b) H k 18 [.pointer x0,.pointer x1] σ
noncomputable def FX:Nat→yH:=Ap fun k n p0 p1 x5 σ=>lp k 18 8 (cB (cR (cL (cR (cR (BM Tryz.f18)))))) n (Lg 0 133 [(0,.pointer p0),(1,.pointer p1),(5,.int .i64 x5)]) σ
noncomputable def FY:Nat→yH:=Ap fun k n p0 p1 x6 σ=>lp k 18 18 (cB (cR (cL (cR (cR (cR (BM Tryz.f18))))))) n (Lg 0 133 [(0,.pointer p0),(1,.pointer p1),(6,.int .i64 x6)]) σ
noncomputable def Q3:Nat→Cz:=Ap fun k x0 σ=>fn P (XK Kn.b) H k 19 [.pointer x0] σ
noncomputable def IZ:Nat→fb:=Ap fun k n p0 h1 x4 σ=>lp k 19 6 (cB (cR (cL (cR (cR (BM Tryz.f19)))))) n (Lg 0 136 [(0,.pointer p0),(3,.pointer (some ⟨h1,0,none⟩)),(4,.int .i64 x4)]) σ
noncomputable def Jb:Nat→fb:=Ap fun k n p0 h1 x9 σ=>lp k 19 30 (cB (cR (cL (cR (cR (cR (cB (cL (cR (cB (cB (cR (cL (cR (cR (cR (cR (BM Tryz.f19)))))))))))))))))) n (Lg 0 136 [(0,.pointer p0),(8,.pointer (some ⟨h1,0,none⟩)),(9,.int .i64 x9)]) σ
noncomputable def Jc:Nat→fb:=Ap fun k n p0 h1 x13 σ=>lp k 19 42 (cB (cR (cL (cR (cR (cR (cR (cB (cL (cR (cB (cB (cR (cL (cR (cR (cR (cR (BM Tryz.f19))))))))))))))))))) n (Lg 0 136 [(0,.pointer p0),(8,.pointer (some ⟨h1,0,none⟩)),(13,.int .i64 x13)]) σ
noncomputable def Ja:Nat→uE:=Ap fun k n p0 h1 p2 c3 c4 x7 σ=>lp k 19 18 (cB (cR (cL (cR (cR (cR (cR (BM Tryz.f19)))))))) n (Lg 0 136 [(0,.pointer p0),(3,.pointer (some ⟨h1,0,none⟩)),(6,.slice p2 c3 c4),(7,.int .i64 x7)]) σ
noncomputable def GN:Nat→T_:=Ap fun k  σ=>fn P (XK Kn.b) H k 20 [] σ
noncomputable def Du:Nat→DT:=Ap fun k x0 x1_0 x1_1 x1_2 x2 σ=>fn P (XK Kn.b) H k 23 [.pointer x0,.agg #[.int .i64 x1_0,.int .i64 x1_1,.int .i64 x1_2],.int .i64 x2] σ
noncomputable def Ga:Nat→Az:=Ap fun k x0 x1 σ=>fn P (XK Kn.b) H k 24 [.pointer x0,.int .i64 x1] σ
noncomputable def Ej:Nat→Cz:=Ap fun k x0 σ=>fn P (XK Kn.b) H k 25 [.pointer x0] σ
noncomputable def EG:Nat→Cz:=Ap fun k x0 σ=>fn P (XK Kn.b) H k 26 [.pointer x0] σ
noncomputable def Bv:Nat→Cz:=Ap fun k x0 σ=>fn P (XK Kn.b) H k 31 [.pointer x0] σ
noncomputable def Gy:Nat→Cz:=Ap fun k x0 σ=>fn P (XK Kn.b) H k 33 [.pointer x0] σ
noncomputable def Im:Nat→dw:=Ap fun k x0_0 x0_1 x0_2 x0_3 x0_4 x0_5 x0_6 σ=>fn P (XK Kn.b) H k 38 [.agg #[.int .u8 x0_0,.int .u8 x0_1,.slice x0_2.1 x0_2.2.1 x0_2.2.2,.slice x0_3.1 x0_3.2.1 x0_3.2.2,.slice x0_4.1 x0_4.2.1 x0_4.2.2,.slice x0_5.1 x0_5.2.1 x0_5.2.2,.slice x0_6.1 x0_6.2.1 x0_6.2.2]] σ
noncomputable def C0:Nat→eZ:=Ap fun k n h0 h1 x10 σ=>lp k 38 20 (cB (cR (cL (cR (cR (cR (cR (cR (cR (cR (cR (BM Tryz.f38)))))))))))) n (Lg 0 257 [(1,.pointer (some ⟨h0,0,none⟩)),(9,.pointer (some ⟨h1,0,none⟩)),(10,.int .i64 x10)]) σ
noncomputable def C5:Nat→eZ:=Ap fun k n h0 h1 x11 σ=>lp k 38 30 (cB (cR (cL (cR (cR (cR (cR (cR (cR (cR (cR (cR (BM Tryz.f38))))))))))))) n (Lg 0 257 [(1,.pointer (some ⟨h0,0,none⟩)),(9,.pointer (some ⟨h1,0,none⟩)),(11,.int .i64 x11)]) σ
noncomputable def BS:Nat→eZ:=Ap fun k n h0 h1 x13 σ=>lp k 38 42 (cB (cR (cL (cR (cR (cR (cR (cR (cR (cR (cR (cR (cR (BM Tryz.f38)))))))))))))) n (Lg 0 257 [(1,.pointer (some ⟨h0,0,none⟩)),(9,.pointer (some ⟨h1,0,none⟩)),(13,.int .i64 x13)]) σ
noncomputable def C6:Nat→eZ:=Ap fun k n h0 h1 x18 σ=>lp k 38 58 (cB (cR (cL (cR (cR (cR (cR (cR (cR (cR (cR (cR (cR (cR (BM Tryz.f38))))))))))))))) n (Lg 0 257 [(1,.pointer (some ⟨h0,0,none⟩)),(9,.pointer (some ⟨h1,0,none⟩)),(18,.int .i64 x18)]) σ
noncomputable def C7:Nat→eZ:=Ap fun k n h0 h1 x19 σ=>lp k 38 68 (cB (cR (cL (cR (cR (cR (cR (cR (cR (cR (cR (cR (cR (cR (cR (BM Tryz.f38)))))))))))))))) n (Lg 0 257 [(1,.pointer (some ⟨h0,0,none⟩)),(9,.pointer (some ⟨h1,0,none⟩)),(19,.int .i64 x19)]) σ
noncomputable def Lb:Nat→mw:=Ap fun k x0 x1 σ=>fn P (XK Kn.b) H k 39 [.pointer x0,.pointer x1] σ
noncomputable def Ao:Nat→Cz:=Ap fun k x0 σ=>fn P (XK Kn.b) H k 43 [.pointer x0] σ
noncomputable def GD:Nat→Cz:=Ap fun k x0 σ=>fn P (XK Kn.b) H k 44 [.pointer x0] σ
noncomputable def Hw:Nat→Az:=Ap fun k x0 x1 σ=>fn P (XK Kn.b) H k 45 [.pointer x0,.int .i64 x1] σ
noncomputable def Er:Nat→Pv:=Ap fun k n p0 i1 x17 σ=>lp k 45 12 (cB (cR (cL (cR (cR (cR (BM Tryz.f45))))))) n (Lg 0 30 [(0,.pointer p0),(16,.int .i64 i1),(17,.int .i64 x17)]) σ
noncomputable def GC:Nat→Cz:=Ap fun k x0 σ=>fn P (XK Kn.b) H k 46 [.pointer x0] σ
noncomputable def Hv:Nat→Cz:=Ap fun k x0 σ=>fn P (XK Kn.b) H k 47 [.pointer x0] σ
noncomputable def Lq:Nat→Cz:=Ap fun k x0 σ=>fn P (XK Kn.b) H k 48 [.pointer x0] σ
noncomputable def Av:Nat→Cz:=Ap fun k x0 σ=>fn P (XK Kn.b) H k 49 [.pointer x0] σ
noncomputable def AY:Nat→Az:=Ap fun k x0 x1 σ=>fn P (XK Kn.b) H k 50 [.pointer x0,.int .i64 x1] σ
noncomputable def BO:Nat→Az:=Ap fun k x0 x1 σ=>fn P (XK Kn.b) H k 51 [.pointer x0,.int .i64 x1] σ
noncomputable def G0:Nat→Az:=Ap fun k x0 x1 σ=>fn P (XK Kn.b) H k 52 [.pointer x0,.int .i64 x1] σ
noncomputable def FG:Nat→Az:=Ap fun k x0 x1 σ=>fn P (XK Kn.b) H k 53 [.pointer x0,.int .i64 x1] σ
noncomputable def AE:Nat→Az:=Ap fun k x0 x1 σ=>fn P (XK Kn.b) H k 54 [.pointer x0,.int .i64 x1] σ
noncomputable def AA:Nat→Cj:=Ap fun k x0 x1 x2 σ=>fn P (XK Kn.b) H k 55 [.pointer x0,.int .i64 x1,.int .i64 x2] σ
noncomputable def HT:Nat→Cj:=Ap fun k x0 x1 x2 σ=>fn P (XK Kn.b) H k 56 [.pointer x0,.int .i64 x1,.int .i64 x2] σ
noncomputable def JA:Nat→lg:=Ap fun k x0 σ=>fn P (XK Kn.b) H k 57 [.int .i64 x0] σ
noncomputable def HN:Nat→lg:=Ap fun k x0 σ=>fn P (XK Kn.b) H k 58 [.int .i64 x0] σ
noncomputable def EF:Nat→DT:=Ap fun k x0 x1_0 x1_1 x1_2 x2 σ=>fn P (XK Kn.b) H k 59 [.pointer x0,.agg #[.int .i64 x1_0,.int .i64 x1_1,.int .i64 x1_2],.int .i64 x2] σ
noncomputable def EH:Nat→Dp:=Ap fun k x0 x1 x2 x3 σ=>fn P (XK Kn.b) H k 60 [.pointer x0,.int .i64 x1,.int .i64 x2,.int .i64 x3] σ
noncomputable def Ei:Nat→Az:=Ap fun k x0 x1 σ=>fn P (XK Kn.b) H k 61 [.pointer x0,.int .i64 x1] σ
noncomputable def ET:Nat→Dp:=Ap fun k x0 x1_0 x1_1 x1_2 σ=>fn P (XK Kn.b) H k 64 [.pointer x0,.agg #[.int .i64 x1_0,.int .i64 x1_1,.int .i64 x1_2]] σ
noncomputable def EC:Nat→Cz:=Ap fun k x0 σ=>fn P (XK Kn.b) H k 65 [.pointer x0] σ
noncomputable def Hm:Nat→Cz:=Ap fun k x0 σ=>fn P (XK Kn.b) H k 66 [.pointer x0] σ
noncomputable def Ep:Nat→Aj9:=Ap fun k n p0 x4 σ=>lp k 66 8 (cB (cL (cR (cR (cR (BM Tryz.f66)))))) n (Lg 0 18 [(0,.pointer p0),(4,.int .i64 x4)]) σ
noncomputable def HY:Nat→Cz:=Ap fun k x0 σ=>fn P (XK Kn.b) H k 67 [.pointer x0] σ
noncomputable def NU:Nat→gb:=Ap fun k x0_0 x0_1 x0_2 x0_3 σ=>fn P (XK Kn.b) H k 71 [.agg #[.int .u8 x0_0,.int .u8 x0_1,.int .u8 x0_2,.int .u8 x0_3]] σ
noncomputable def A7:Nat→Cz:=Ap fun k x0 σ=>fn P (XK Kn.b) H k 80 [.pointer x0] σ
noncomputable def Dl:Nat→Cj:=Ap fun k x0 x1 x2 σ=>fn P (XK Kn.b) H k 81 [.pointer x0,.int .i64 x1,.int .i64 x2] σ
noncomputable def BB:Nat→yF:=Ap fun k n p0 i1 x7 x8 x9 σ=>lp k 81 6 (cB (cR (cL (cR (cR (BM Tryz.f81)))))) n (Lg 0 44 [(0,.pointer p0),(2,.int .i64 i1),(7,.slice x7.1 x7.2.1 x7.2.2),(8,.int .i64 x8),(9,.int .i64 x9)]) σ
noncomputable def AN:Nat→Az:=Ap fun k x0 x1 σ=>fn P (XK Kn.b) H k 83 [.pointer x0,.int .i64 x1] σ
noncomputable def Fc:Nat→Pv:=Ap fun k n p0 i1 x5 σ=>lp k 83 8 (cB (cR (cL (cR (cR (BM Tryz.f83)))))) n (Lg 0 29 [(0,.pointer p0),(1,.int .i64 i1),(5,.int .i64 x5)]) σ
noncomputable def Mx:Nat→mw:=Ap fun k x0 x1 σ=>fn P (XK Kn.b) H k 85 [.pointer x0,.pointer x1] σ
noncomputable def HQ:Nat→Aci:=Ap fun k n h0 i1 i2 x33 σ=>lp k 85 18 (cB (cR (cR (cR (cB (cL (cR (cR (cB (cB (cR (cL (cR (cR (cR (BM Tryz.f85)))))))))))))))) n (Lg 0 48 [(2,.pointer (some ⟨h0,0,none⟩)),(5,.func (.func 166) #[] #[.pointer (some ⟨h0,0,none⟩)]),(7,.int .i64 i1),(32,.int .i64 i2),(33,.int .i64 x33)]) σ
noncomputable def HP:Nat→uB:=Ap fun k n h0 p1 c2 c3 i4 x21 σ=>lp k 85 10 (cB (cR (cL (cR (cR (cR (BM Tryz.f85))))))) n (Lg 0 48 [(2,.pointer (some ⟨h0,0,none⟩)),(5,.func (.func 166) #[] #[.pointer (some ⟨h0,0,none⟩)]),(19,.slice p1 c2 c3),(20,.int .i64 i4),(21,.int .i64 x21)]) σ
noncomputable def PF:Nat→lg:=Ap fun k x0 σ=>fn P (XK Kn.b) H k 92 [.int .i64 x0] σ
noncomputable def Km:Nat→Ahv:=Ap fun k n i0 h1 x5 σ=>lp k 92 10 (cB (cR (cL (cR (cR (cR (BM Tryz.f92))))))) n (Lg 0 31 [(0,.int .i64 i0),(4,.pointer (some ⟨h1,0,none⟩)),(5,.int .i64 x5)]) σ
noncomputable def CY:Nat→Cz:=Ap fun k x0 σ=>fn P (XK Kn.b) H k 93 [.pointer x0] σ
noncomputable def Hj:Nat→DT:=Ap fun k x0 x1_0 x1_1 x1_2 x2 σ=>fn P (XK Kn.b) H k 98 [.pointer x0,.agg #[.int .i64 x1_0,.int .i64 x1_1,.int .i64 x1_2],.int .i64 x2] σ
noncomputable def PE:Nat→lg:=Ap fun k x0 σ=>fn P (XK Kn.b) H k 99 [.int .i64 x0] σ
noncomputable def H5:Nat→DT:=Ap fun k x0 x1_0 x1_1 x1_2 x2 σ=>fn P (XK Kn.b) H k 100 [.pointer x0,.agg #[.int .i64 x1_0,.int .i64 x1_1,.int .i64 x1_2],.int .i64 x2] σ
noncomputable def Bq:Nat→Az:=Ap fun k x0 x1 σ=>fn P (XK Kn.b) H k 101 [.pointer x0,.int .i64 x1] σ
noncomputable def FJ:Nat→Az:=Ap fun k x0 x1 σ=>fn P (XK Kn.b) H k 102 [.pointer x0,.int .i64 x1] σ
noncomputable def DK:Nat→Az:=Ap fun k x0 x1 σ=>fn P (XK Kn.b) H k 103 [.pointer x0,.int .i64 x1] σ
noncomputable def G6:Nat→Az:=Ap fun k x0 x1 σ=>fn P (XK Kn.b) H k 104 [.pointer x0,.int .i64 x1] σ
noncomputable def Io:Nat→Dp:=Ap fun k x0 x1 x2 x3 σ=>fn P (XK Kn.b) H k 105 [.pointer x0,.int .i64 x1,.int .i64 x2,.int .i64 x3] σ
noncomputable def Jt:Nat→Cj:=Ap fun k x0 x1 x2 σ=>fn P (XK Kn.b) H k 106 [.pointer x0,.int .i64 x1,.int .i64 x2] σ
noncomputable def G5:Nat→Az:=Ap fun k x0 x1 σ=>fn P (XK Kn.b) H k 107 [.pointer x0,.int .i64 x1] σ
noncomputable def IY:Nat→Az:=Ap fun k x0 x1 σ=>fn P (XK Kn.b) H k 108 [.pointer x0,.int .i64 x1] σ
noncomputable def PK:Nat→jH:=Ap fun k x0 x1 x2 x3 σ=>fn P (XK Kn.b) H k 109 [.pointer x0,.pointer x1,.bool x2,.int .i64 x3] σ
noncomputable def A8:Nat→Cz:=Ap fun k x0 σ=>fn P (XK Kn.b) H k 129 [.pointer x0] σ
noncomputable def Dv:Nat→Cz:=Ap fun k x0 σ=>fn P (XK Kn.b) H k 130 [.pointer x0] σ
noncomputable def D5:Nat→NL:=Ap fun k n p0 p1 c2 c3 i4 x10 σ=>lp k 130 2 (cB (cR (BM Tryz.f130))) n (Lg 0 18 [(0,.pointer p0),(8,.slice p1 c2 c3),(9,.int .i64 i4),(10,.int .i64 x10)]) σ
noncomputable def DF:Nat→Cz:=Ap fun k x0 σ=>fn P (XK Kn.b) H k 131 [.pointer x0] σ
noncomputable def Eu:Nat→NL:=Ap fun k n p0 p1 c2 c3 i4 x50 σ=>lp k 131 16 (cB (cR (cL (cT (cR (cR (cR (cT (cR (cE (cR (cB (BM Tryz.f131))))))))))))) n (Lg 0 61 [(0,.pointer p0),(48,.slice p1 c2 c3),(49,.int .i64 i4),(50,.int .i64 x50)]) σ
noncomputable def Be:Nat→T_l:=Ap fun k x0 σ=>fn P (XK Kn.b) H k 132 [.slice x0.1 x0.2.1 x0.2.2] σ
noncomputable def AJ:Nat→Az:=Ap fun k x0 x1 σ=>fn P (XK Kn.b) H k 133 [.pointer x0,.int .i64 x1] σ
noncomputable def CQ:Nat→Az:=Ap fun k x0 x1 σ=>fn P (XK Kn.b) H k 134 [.pointer x0,.int .i64 x1] σ
noncomputable def Bd:Nat→Az:=Ap fun k x0 x1 σ=>fn P (XK Kn.b) H k 135 [.pointer x0,.int .i64 x1] σ
noncomputable def FI:Nat→lg:=Ap fun k x0 σ=>fn P (XK Kn.b) H k 136 [.int .i64 x0] σ
noncomputable def CW:Nat→bE:=Ap fun k x0 x1 x2 x3 σ=>fn P (XK Kn.b) H k 137 [.pointer x0,.int .i64 x1,.int .i64 x2,.bool x3] σ
noncomputable def JE:Nat→jG:=Ap fun k x0 x1 σ=>fn P (XK Kn.b) H k 138 [.int .i64 x0,.int .i64 x1] σ
noncomputable def HX:Nat→DT:=Ap fun k x0 x1_0 x1_1 x1_2 x2 σ=>fn P (XK Kn.b) H k 139 [.pointer x0,.agg #[.int .i64 x1_0,.int .i64 x1_1,.int .i64 x1_2],.int .i64 x2] σ
noncomputable def Kr:Nat→Cj:=Ap fun k x0 x1 x2 σ=>fn P (XK Kn.b) H k 140 [.pointer x0,.int .i64 x1,.int .i64 x2] σ
noncomputable def Gg:Nat→Cz:=Ap fun k x0 σ=>fn P (XK Kn.b) H k 141 [.pointer x0] σ
noncomputable def Cv:Nat→Dp:=Ap fun k x0 x1 x2 x3 σ=>fn P (XK Kn.b) H k 142 [.pointer x0,.int .i64 x1,.int .i64 x2,.int .i64 x3] σ
noncomputable def CR:Nat→Dp:=Ap fun k x0 x1 x2 x3 σ=>fn P (XK Kn.b) H k 143 [.pointer x0,.int .i64 x1,.int .i64 x2,.int .i64 x3] σ
noncomputable def Hl:Nat→Az:=Ap fun k x0 x1 σ=>fn P (XK Kn.b) H k 144 [.pointer x0,.int .i64 x1] σ
noncomputable def Bo:Nat→Cz:=Ap fun k x0 σ=>fn P (XK Kn.b) H k 148 [.pointer x0] σ
noncomputable def GA:Nat→Dp:=Ap fun k x0 x1_0 x1_1 x1_2 σ=>fn P (XK Kn.b) H k 149 [.pointer x0,.agg #[.int .i64 x1_0,.int .i64 x1_1,.int .i64 x1_2]] σ
noncomputable def BZ:Nat→Cz:=Ap fun k x0 σ=>fn P (XK Kn.b) H k 150 [.pointer x0] σ
noncomputable def AF:Nat→Cz:=Ap fun k x0 σ=>fn P (XK Kn.b) H k 151 [.pointer x0] σ
noncomputable def GP:Nat→jG:=Ap fun k x0 x1 σ=>fn P (XK Kn.b) H k 157 [.int .i64 x0,.int .i64 x1] σ
noncomputable def GO:Nat→Az:=Ap fun k x0 x1 σ=>fn P (XK Kn.b) H k 158 [.pointer x0,.int .i64 x1] σ
noncomputable def Hn:Nat→Az:=Ap fun k x0 x1 σ=>fn P (XK Kn.b) H k 159 [.pointer x0,.int .i64 x1] σ
noncomputable def Da:Nat→Cj:=Ap fun k x0 x1 x2 σ=>fn P (XK Kn.b) H k 160 [.pointer x0,.int .i64 x1,.int .i64 x2] σ
noncomputable def D4:Nat→Pv:=Ap fun k n p0 i1 x8 σ=>lp k 160 8 (cB (cR (cL (cR (cR (BM Tryz.f160)))))) n (Lg 0 28 [(0,.pointer p0),(2,.int .i64 i1),(8,.int .i64 x8)]) σ
noncomputable def Ex:Nat→uM:=Ap fun k x0 c0 σ=>fn P (XK Kn.b) H k 166 [.int .i64 x0,.pointer c0] σ
noncomputable def B5:Nat→Zf:=Ap fun k x0 x1 σ=>fn P (XK Kn.b) H k 167 [.slice x0.1 x0.2.1 x0.2.2,x1] σ
noncomputable def Cc:Nat→Cz:=Ap fun k x0 σ=>fn P (XK Kn.b) H k 168 [.pointer x0] σ
noncomputable def Ba:Nat→Az:=Ap fun k x0 x1 σ=>fn P (XK Kn.b) H k 174 [.pointer x0,.int .i64 x1] σ
noncomputable def FH:Nat→GS:=Ap fun k x0_0 x0_1 x0_2 σ=>fn P (XK Kn.b) H k 176 [.agg #[.int .i64 x0_0,.int .i64 x0_1,.int .i64 x0_2]] σ
noncomputable def DM:Nat→Az:=Ap fun k x0 x1 σ=>fn P (XK Kn.b) H k 177 [.pointer x0,.int .i64 x1] σ
noncomputable def CU:Nat→Pv:=Ap fun k n p0 i1 x6 σ=>lp k 177 14 (cB (cR (cL (cR (cR (cR (BM Tryz.f177))))))) n (Lg 0 35 [(0,.pointer p0),(1,.int .i64 i1),(6,.int .i64 x6)]) σ
noncomputable def BP:Nat→Az:=Ap fun k x0 x1 σ=>fn P (XK Kn.b) H k 178 [.pointer x0,.int .i64 x1] σ
noncomputable def Jy:Nat→Dp:=Ap fun k x0 x1_0 x1_1 x1_2 σ=>fn P (XK Kn.b) H k 180 [.pointer x0,.agg #[.int .i64 x1_0,.int .i64 x1_1,.int .i64 x1_2]] σ
noncomputable def Hk:Nat→Cz:=Ap fun k x0 σ=>fn P (XK Kn.b) H k 181 [.pointer x0] σ
noncomputable def Jz:Nat→DT:=Ap fun k x0 x1_0 x1_1 x1_2 x2 σ=>fn P (XK Kn.b) H k 182 [.pointer x0,.agg #[.int .i64 x1_0,.int .i64 x1_1,.int .i64 x1_2],.int .i64 x2] σ
noncomputable def L6:Nat→DT:=Ap fun k x0 x1_0 x1_1 x1_2 x2 σ=>fn P (XK Kn.b) H k 183 [.pointer x0,.agg #[.int .i64 x1_0,.int .i64 x1_1,.int .i64 x1_2],.int .i64 x2] σ
noncomputable def Fk:Nat→GS:=Ap fun k x0_0 x0_1 x0_2 σ=>fn P (XK Kn.b) H k 184 [.agg #[.int .i64 x0_0,.int .i64 x0_1,.int .i64 x0_2]] σ
noncomputable def Bn:Nat→Dp:=Ap fun k x0 x1 x2 x3 σ=>fn P (XK Kn.b) H k 185 [.pointer x0,.int .i64 x1,.int .i64 x2,.int .i64 x3] σ
noncomputable def Fq:Nat→GS:=Ap fun k x0_0 x0_1 x0_2 σ=>fn P (XK Kn.b) H k 186 [.agg #[.int .i64 x0_0,.int .i64 x0_1,.int .i64 x0_2]] σ
noncomputable def CT:Nat→Cj:=Ap fun k x0 x1 x2 σ=>fn P (XK Kn.b) H k 187 [.pointer x0,.int .i64 x1,.int .i64 x2] σ
noncomputable def Ft:Nat→DT:=Ap fun k x0 x1 x2_0 x2_1 x2_2 σ=>fn P (XK Kn.b) H k 188 [.pointer x0,.int .i64 x1,.agg #[.int .i64 x2_0,.int .i64 x2_1,.int .i64 x2_2]] σ
noncomputable def DW:Nat→DT:=Ap fun k x0 x1 x2_0 x2_1 x2_2 σ=>fn P (XK Kn.b) H k 189 [.pointer x0,.int .i64 x1,.agg #[.int .i64 x2_0,.int .i64 x2_1,.int .i64 x2_2]] σ
noncomputable def Ua:Nat→Cz:=Ap fun k x0 σ=>fn P (XK Kn.b) H k 190 [.pointer x0] σ
noncomputable def BW:Nat→Az:=Ap fun k x0 x1 σ=>fn P (XK Kn.b) H k 191 [.pointer x0,.int .i64 x1] σ
noncomputable def Kk:Nat→Az:=Ap fun k x0 x1 σ=>fn P (XK Kn.b) H k 192 [.pointer x0,.int .i64 x1] σ
noncomputable def Br:Nat→Cj:=Ap fun k x0 x1 x2 σ=>fn P (XK Kn.b) H k 193 [.pointer x0,.int .i64 x1,.int .i64 x2] σ
noncomputable def G3:Nat→Cj:=Ap fun k x0 x1 x2 σ=>fn P (XK Kn.b) H k 194 [.pointer x0,.int .i64 x1,.int .i64 x2] σ
noncomputable def Gb:Nat→Dp:=Ap fun k x0 x1 x2 x3 σ=>fn P (XK Kn.b) H k 195 [.pointer x0,.int .i64 x1,.int .i64 x2,.int .i64 x3] σ
noncomputable def ER:Nat→Cz:=Ap fun k x0 σ=>fn P (XK Kn.b) H k 196 [.pointer x0] σ
noncomputable def G8:Nat→Az:=Ap fun k x0 x1 σ=>fn P (XK Kn.b) H k 197 [.pointer x0,.int .i64 x1] σ
noncomputable def G9:Nat→Az:=Ap fun k x0 x1 σ=>fn P (XK Kn.b) H k 198 [.pointer x0,.int .i64 x1] σ
noncomputable def Kl:Nat→lh:=Ap fun k x0 x1 x2 σ=>fn P (XK Kn.b) H k 199 [.pointer x0,.int .i64 x1,.bool x2] σ
noncomputable def Lp:Nat→Cj:=Ap fun k x0 x1 x2 σ=>fn P (XK Kn.b) H k 200 [.pointer x0,.int .i64 x1,.int .i64 x2] σ
noncomputable def CF:Nat→Cz:=Ap fun k x0 σ=>fn P (XK Kn.b) H k 201 [.pointer x0] σ
noncomputable def HV:Nat→Az:=Ap fun k x0 x1 σ=>fn P (XK Kn.b) H k 203 [.pointer x0,.int .i64 x1] σ
noncomputable def JC:Nat→GS:=Ap fun k x0_0 x0_1 x0_2 σ=>fn P (XK Kn.b) H k 204 [.agg #[.int .i64 x0_0,.int .i64 x0_1,.int .i64 x0_2]] σ
noncomputable def Bs:Nat→Az:=Ap fun k x0 x1 σ=>fn P (XK Kn.b) H k 215 [.pointer x0,.int .i64 x1] σ
noncomputable def GF:Nat→Cz:=Ap fun k x0 σ=>fn P (XK Kn.b) H k 216 [.pointer x0] σ
noncomputable def Dn:Nat→NL:=Ap fun k n p0 p1 c2 c3 i4 x33 σ=>lp k 216 8 (cB (cR (cL (cR (cR (cT (cR (cL (BM Tryz.f216))))))))) n (Lg 0 80 [(0,.pointer p0),(31,.slice p1 c2 c3),(32,.int .i64 i4),(33,.int .i64 x33)]) σ
noncomputable def GZ:Nat→Az:=Ap fun k x0 x1 σ=>fn P (XK Kn.b) H k 217 [.pointer x0,.int .i64 x1] σ
noncomputable def DY:Nat→qZ:=Ap fun k n h0 p1 c2 c3 i4 x7 x20 σ=>lp k 217 8 (cB (cR (cL (cR (cR (cR (BM Tryz.f217))))))) n (Lg 0 40 [(5,.pointer (some ⟨h0,0,none⟩)),(7,.slice x7.1 x7.2.1 x7.2.2),(18,.slice p1 c2 c3),(19,.int .i64 i4),(20,.int .i64 x20)]) σ
noncomputable def Cp:Nat→Cj:=Ap fun k x0 x1 x2 σ=>fn P (XK Kn.b) H k 218 [.pointer x0,.int .i64 x1,.int .i64 x2] σ
noncomputable def Gh:Nat→Cz:=Ap fun k x0 σ=>fn P (XK Kn.b) H k 219 [.pointer x0] σ
noncomputable def Es:Nat→NL:=Ap fun k n p0 p1 c2 c3 i4 x26 σ=>lp k 219 10 (cB (cR (cL (cR (cR (cR (BM Tryz.f219))))))) n (Lg 0 76 [(0,.pointer p0),(24,.slice p1 c2 c3),(25,.int .i64 i4),(26,.int .i64 x26)]) σ
noncomputable def Et:Nat→Pv:=Ap fun k n p0 i1 x47 σ=>lp k 219 22 (cB (cR (cL (cR (cR (cR (cR (BM Tryz.f219)))))))) n (Lg 0 76 [(0,.pointer p0),(46,.int .i64 i1),(47,.int .i64 x47)]) σ
noncomputable def D8:Nat→Az:=Ap fun k x0 x1 σ=>fn P (XK Kn.b) H k 220 [.pointer x0,.int .i64 x1] σ
noncomputable def Dr:Nat→Az:=Ap fun k x0 x1 σ=>fn P (XK Kn.b) H k 221 [.pointer x0,.int .i64 x1] σ
noncomputable def Bk:Nat→qp:=Ap fun k x0 x1 σ=>fn P (XK Kn.b) H k 222 [.slice x0.1 x0.2.1 x0.2.2,.int .i64 x1] σ
noncomputable def EB:Nat→GS:=Ap fun k x0_0 x0_1 x0_2 σ=>fn P (XK Kn.b) H k 223 [.agg #[.int .i64 x0_0,.int .i64 x0_1,.int .i64 x0_2]] σ
noncomputable def Pz:Nat→Cj:=Ap fun k x0 x1 x2 σ=>fn P (XK Kn.b) H k 224 [.pointer x0,.int .i64 x1,.int .i64 x2] σ
noncomputable def Ed:Nat→Dp:=Ap fun k x0 x1_0 x1_1 x1_2 σ=>fn P (XK Kn.b) H k 225 [.pointer x0,.agg #[.int .i64 x1_0,.int .i64 x1_1,.int .i64 x1_2]] σ
noncomputable def Cn:Nat→Az:=Ap fun k x0 x1 σ=>fn P (XK Kn.b) H k 226 [.pointer x0,.int .i64 x1] σ
noncomputable def ES:Nat→zR:=Ap fun k x0 c0 σ=>fn P (XK Kn.b) H k 228 [.slice x0.1 x0.2.1 x0.2.2,.pointer c0] σ
noncomputable def Bp:Nat→Cz:=Ap fun k x0 σ=>fn P (XK Kn.b) H k 231 [.pointer x0] σ
noncomputable def EE:Nat→Zf:=Ap fun k x0 x1 σ=>fn P (XK Kn.b) H k 237 [.slice x0.1 x0.2.1 x0.2.2,x1] σ
noncomputable def Cb:Nat→ie:=Ap fun k n p0 c1 c2 v3 i4 x8 σ=>lp k 237 4 (cB (cR (cL (cR (BM Tryz.f237))))) n (Lg 0 19 [(0,.slice p0 c1 c2),(1,v3),(7,.int .i64 i4),(8,.int .i64 x8)]) σ
noncomputable def CZ:Nat→Cz:=Ap fun k x0 σ=>fn P (XK Kn.b) H k 239 [.pointer x0] σ
noncomputable def G2:Nat→lh:=Ap fun k x0 x1 x2 σ=>fn P (XK Kn.b) H k 242 [.pointer x0,.int .i64 x1,.bool x2] σ
noncomputable def EA:Nat→Az:=Ap fun k x0 x1 σ=>fn P (XK Kn.b) H k 243 [.pointer x0,.int .i64 x1] σ
noncomputable def DN:Nat→Pv:=Ap fun k n p0 i1 x5 σ=>lp k 243 4 (cB (cL (cR (cR (BM Tryz.f243))))) n (Lg 0 42 [(0,.pointer p0),(1,.int .i64 i1),(5,.int .i64 x5)]) σ
noncomputable def D0:Nat→Ac0:=Ap fun k x0 c0 σ=>fn P (XK Kn.b) H k 244 [x0,.pointer c0] σ
noncomputable def CA:Nat→rp:=Ap fun k n v0 i1 p2 c3 c4 i5 x28 σ=>lp k 244 8 (cB (cR (cR (cB (cL (cR (cR (cB (cB (cR (BM Tryz.f244))))))))))) n (Lg 0 58 [(0,v0),(3,.int .i64 i1),(4,.slice p2 c3 c4),(27,.int .i64 i5),(28,.int .i64 x28)]) σ
noncomputable def C9:Nat→Acm:=Ap fun k n v0 h1 i2 x21 σ=>lp k 244 2 (cB (cR (BM Tryz.f244))) n (Lg 0 58 [(0,v0),(19,.slice (some ⟨h1,0,none⟩) 3 3),(20,.int .i64 i2),(21,.int .i64 x21)]) σ
noncomputable def La:Nat→Az:=Ap fun k x0 x1 σ=>fn P (XK Kn.b) H k 245 [.pointer x0,.int .i64 x1] σ
noncomputable def Je:Nat→sO:=Ap fun k n p0 i1 i2 x6 σ=>lp k 245 10 (cB (cL (cR (cB (cL (cR (cB (cB (cR (cL (cR (BM Tryz.f245)))))))))))) n (Lg 0 32 [(0,.pointer p0),(1,.int .i64 i1),(5,.int .i64 i2),(6,.int .i64 x6)]) σ
noncomputable def Jd:Nat→Pv:=Ap fun k n p0 i1 x5 σ=>lp k 245 4 (cB (cR (cL (cR (BM Tryz.f245))))) n (Lg 0 32 [(0,.pointer p0),(1,.int .i64 i1),(5,.int .i64 x5)]) σ
noncomputable def Eg:Nat→Dp:=Ap fun k x0 x1 x2 x3 σ=>fn P (XK Kn.b) H k 246 [.pointer x0,.int .i64 x1,.int .i64 x2,.int .i64 x3] σ
noncomputable def Cw:Nat→sO:=Ap fun k n p0 i1 i2 x9 σ=>lp k 246 12 (cB (cR (cL (cR (cR (cR (BM Tryz.f246))))))) n (Lg 0 78 [(0,.pointer p0),(1,.int .i64 i1),(2,.int .i64 i2),(9,.int .i64 x9)]) σ
noncomputable def Cx:Nat→du:=Ap fun k n p0 i1 i2 i3 x10 σ=>lp k 246 22 (cB (cR (cL (cR (cR (cR (cR (BM Tryz.f246)))))))) n (Lg 0 78 [(0,.pointer p0),(1,.int .i64 i1),(2,.int .i64 i2),(3,.int .i64 i3),(10,.int .i64 x10)]) σ
noncomputable def SS:Nat→DT:=Ap fun k x0 x1_0 x1_1 x1_2 x2 σ=>fn P (XK Kn.b) H k 247 [.pointer x0,.agg #[.int .i64 x1_0,.int .i64 x1_1,.int .i64 x1_2],.int .i64 x2] σ
noncomputable def Ko:Nat→yC:=Ap fun k n h0 p1 c2 c3 x10 σ=>lp k 247 14 (cB (cR (cR (cR (cB (cL (cR (cB (cB (cR (cL (cR (BM Tryz.f247))))))))))))) n (Lg 0 50 [(4,.pointer (some ⟨h0,0,none⟩)),(9,.slice p1 c2 c3),(10,.int .i64 x10)]) σ
noncomputable def Iq:Nat→Ack:=Ap fun k n p0 i1 h2 x8 σ=>lp k 247 4 (cB (cR (cL (cR (BM Tryz.f247))))) n (Lg 0 50 [(0,.pointer p0),(2,.int .i64 i1),(4,.pointer (some ⟨h2,0,none⟩)),(8,.int .i64 x8)]) σ
noncomputable def G4:Nat→Cj:=Ap fun k x0 x1 x2 σ=>fn P (XK Kn.b) H k 248 [.pointer x0,.int .i64 x1,.int .i64 x2] σ
noncomputable def CG:Nat→GS:=Ap fun k x0_0 x0_1 x0_2 σ=>fn P (XK Kn.b) H k 249 [.agg #[.int .i64 x0_0,.int .i64 x0_1,.int .i64 x0_2]] σ
noncomputable def DX:Nat→RB:=Ap fun k x0 x1 x2 x3_0 x3_1 x4_0 x4_1 σ=>fn P (XK Kn.b) H k 250 [.pointer x0,.int .i64 x1,.int .i64 x2,.agg #[.int .i64 x3_0,.int .i64 x3_1],.agg #[.int .i64 x4_0,.int .i64 x4_1]] σ
noncomputable def Dx:Nat→yG:=Ap fun k n p0 i1 h2 i3 x54 σ=>lp k 250 16 (cB (cR (cL (cR (cR (BM Tryz.f250)))))) n (Lg 0 74 [(0,.pointer p0),(1,.int .i64 i1),(9,.pointer (some ⟨h2,0,none⟩)),(53,.int .i64 i3),(54,.int .i64 x54)]) σ
noncomputable def Jx:Nat→uO:=Ap fun k x0 x1 x2_0 x2_1 x2_2 x3 σ=>fn P (XK Kn.b) H k 251 [.pointer x0,.int .i64 x1,.agg #[.int .i64 x2_0,.int .i64 x2_1,.int .i64 x2_2],.int .i64 x3] σ
noncomputable def Dz:Nat→yE:=Ap fun k n p0 i1 i2 h3 x10 σ=>lp k 251 20 (cB (cR (cL (cR (cR (cR (cR (BM Tryz.f251)))))))) n (Lg 0 113 [(0,.pointer p0),(1,.int .i64 i1),(3,.int .i64 i2),(6,.pointer (some ⟨h3,0,none⟩)),(10,.int .i64 x10)]) σ
noncomputable def HW:Nat→lk:=Ap fun k x0 x1_0 x1_1 x1_2 x1_3 x1_4 x1_5 x1_6 x1_7 σ=>fn P (XK Kn.b) H k 252 [.pointer x0,.agg #[.int .i64 x1_0,.int .i64 x1_1,.int .i64 x1_2,.int .i64 x1_3,.int .i64 x1_4,.slice x1_5.1 x1_5.2.1 x1_5.2.2,.slice x1_6.1 x1_6.2.1 x1_6.2.2,.bool x1_7]] σ
noncomputable def EP:Nat→fb:=Ap fun k n p0 h1 x4 σ=>lp k 252 4 (cB (cL (cR (cR (BM Tryz.f252))))) n (Lg 0 51 [(0,.pointer p0),(3,.pointer (some ⟨h1,0,none⟩)),(4,.int .i64 x4)]) σ
noncomputable def G1:Nat→Dp:=Ap fun k x0 x1 x2 x3 σ=>fn P (XK Kn.b) H k 253 [.pointer x0,.int .i64 x1,.int .i64 x2,.int .i64 x3] σ
noncomputable def Dm:Nat→du:=Ap fun k n p0 i1 i2 i3 x10 σ=>lp k 253 20 (cB (cR (cL (cR (cR (cR (cR (BM Tryz.f253)))))))) n (Lg 0 96 [(0,.pointer p0),(1,.int .i64 i1),(2,.int .i64 i2),(3,.int .i64 i3),(10,.int .i64 x10)]) σ
noncomputable def JB:Nat→GS:=Ap fun k x0_0 x0_1 x0_2 σ=>fn P (XK Kn.b) H k 254 [.agg #[.int .i64 x0_0,.int .i64 x0_1,.int .i64 x0_2]] σ
noncomputable def D7:Nat→nU:=Ap fun k x0 x1 x2 σ=>fn P (XK Kn.b) H k 255 [.pointer x0,.int .i64 x1,.slice x2.1 x2.2.1 x2.2.2] σ
noncomputable def ED:Nat→Cj:=Ap fun k x0 x1 x2 σ=>fn P (XK Kn.b) H k 256 [.pointer x0,.int .i64 x1,.int .i64 x2] σ
noncomputable def DZ:Nat→Dp:=Ap fun k x0 x1 x2 x3 σ=>fn P (XK Kn.b) H k 263 [.pointer x0,.int .i64 x1,.int .i64 x2,.int .i64 x3] σ
noncomputable def D2:Nat→du:=Ap fun k n p0 i1 i2 i3 x32 σ=>lp k 263 14 (cB (cR (cL (cR (cR (cR (BM Tryz.f263))))))) n (Lg 0 42 [(0,.pointer p0),(1,.int .i64 i1),(3,.int .i64 i2),(31,.int .i64 i3),(32,.int .i64 x32)]) σ
noncomputable def Jv:Nat→Az:=Ap fun k x0 x1 σ=>fn P (XK Kn.b) H k 264 [.pointer x0,.int .i64 x1] σ
noncomputable def Gf:Nat→yD:=Ap fun k n p0 i1 i2 x7 x22 σ=>lp k 264 8 (cB (cR (cL (cR (cR (cR (BM Tryz.f264))))))) n (Lg 0 38 [(0,.pointer p0),(1,.int .i64 i1),(7,.slice x7.1 x7.2.1 x7.2.2),(21,.int .i64 i2),(22,.int .i64 x22)]) σ
noncomputable def DS:Nat→Cz:=Ap fun k x0 σ=>fn P (XK Kn.b) H k 265 [.pointer x0] σ
noncomputable def BG:Nat→rk:=Ap fun k n p0 p1 c2 c3 i4 x2 x17 σ=>lp k 265 4 (cB (cR (cL (cR (BM Tryz.f265))))) n (Lg 0 70 [(0,.pointer p0),(2,.slice x2.1 x2.2.1 x2.2.2),(15,.slice p1 c2 c3),(16,.int .i64 i4),(17,.int .i64 x17)]) σ
noncomputable def Cm:Nat→NL:=Ap fun k n p0 p1 c2 c3 i4 x62 σ=>lp k 265 22 (cB (cR (cR (cR (BM Tryz.f265))))) n (Lg 0 70 [(0,.pointer p0),(60,.slice p1 c2 c3),(61,.int .i64 i4),(62,.int .i64 x62)]) σ
noncomputable def B8:Nat→Az:=Ap fun k x0 x1 σ=>fn P (XK Kn.b) H k 266 [.pointer x0,.int .i64 x1] σ
noncomputable def HL:Nat→iq:=Ap fun k x0 x1 x2 σ=>fn P (XK Kn.b) H k 267 [.pointer x0,.int .i64 x1,x2] σ
noncomputable def Db:Nat→Cz:=Ap fun k x0 σ=>fn P (XK Kn.b) H k 268 [.pointer x0] σ
noncomputable def GB:Nat→qp:=Ap fun k x0 x1 σ=>fn P (XK Kn.b) H k 269 [.slice x0.1 x0.2.1 x0.2.2,.int .i64 x1] σ
noncomputable def Di:Nat→uD:=Ap fun k n p0 c1 c2 i3 i4 x8 σ=>lp k 269 4 (cB (cR (cL (cR (BM Tryz.f269))))) n (Lg 0 19 [(0,.slice p0 c1 c2),(1,.int .i64 i3),(7,.int .i64 i4),(8,.int .i64 x8)]) σ
noncomputable def F5:Nat→T_:=Ap fun k  σ=>fn P (XK Kn.b) H k 270 [] σ
noncomputable def E9:Nat→Cz:=Ap fun k x0 σ=>fn P (XK Kn.b) H k 271 [.pointer x0] σ
noncomputable def Ee:Nat→Az:=Ap fun k x0 x1 σ=>fn P (XK Kn.b) H k 272 [.pointer x0,.int .i64 x1] σ
noncomputable def Cu:Nat→Pv:=Ap fun k n p0 i1 x7 σ=>lp k 272 6 (cB (cR (cL (cR (cR (BM Tryz.f272)))))) n (Lg 0 37 [(0,.pointer p0),(6,.int .i64 i1),(7,.int .i64 x7)]) σ
noncomputable def CX:Nat→Az:=Ap fun k x0 x1 σ=>fn P (XK Kn.b) H k 277 [.pointer x0,.int .i64 x1] σ
noncomputable def Cy:Nat→Az:=Ap fun k x0 x1 σ=>fn P (XK Kn.b) H k 278 [.pointer x0,.int .i64 x1] σ
noncomputable def Fv:Nat→Az:=Ap fun k x0 x1 σ=>fn P (XK Kn.b) H k 279 [.pointer x0,.int .i64 x1] σ
noncomputable def JD:Nat→lg:=Ap fun k x0 σ=>fn P (XK Kn.b) H k 280 [.int .i64 x0] σ
noncomputable def Fu:Nat→Az:=Ap fun k x0 x1 σ=>fn P (XK Kn.b) H k 281 [.pointer x0,.int .i64 x1] σ
noncomputable def Jw:Nat→Az:=Ap fun k x0 x1 σ=>fn P (XK Kn.b) H k 282 [.pointer x0,.int .i64 x1] σ
noncomputable def Dy:Nat→rm:=Ap fun k n p0 p1 c2 c3 x5 x6 x8 σ=>lp k 282 14 (cB (cR (cL (cR (cR (cR (cR (cR (BM Tryz.f282))))))))) n (Lg 0 77 [(0,.pointer p0),(5,.slice x5.1 x5.2.1 x5.2.2),(6,.int .i64 x6),(7,.slice p1 c2 c3),(8,.int .i64 x8)]) σ
noncomputable def KZ:Nat→lg:=Ap fun k x0 σ=>fn P (XK Kn.b) H k 283 [.int .i64 x0] σ
noncomputable def BQ:Nat→Zf:=Ap fun k x0 x1 σ=>fn P (XK Kn.b) H k 284 [.slice x0.1 x0.2.1 x0.2.2,x1] σ
noncomputable def CV:Nat→jG:=Ap fun k x0_0 x0_1 σ=>fn P (XK Kn.b) H k 285 [.agg #[.int .i64 x0_0,.int .i64 x0_1]] σ
noncomputable def G7:Nat→Az:=Ap fun k x0 x1 σ=>fn P (XK Kn.b) H k 286 [.pointer x0,.int .i64 x1] σ
noncomputable def DR:Nat→Pv:=Ap fun k n p0 i1 x5 σ=>lp k 286 12 (cB (cL (cR (cR (cR (cR (BM Tryz.f286))))))) n (Lg 0 49 [(0,.pointer p0),(1,.int .i64 i1),(5,.int .i64 x5)]) σ
noncomputable def Gz:Nat→Az:=Ap fun k x0 x1 σ=>fn P (XK Kn.b) H k 287 [.pointer x0,.int .i64 x1] σ
noncomputable def C8:Nat→uM:=Ap fun k x0 c0 σ=>fn P (XK Kn.b) H k 288 [.int .i64 x0,.pointer c0] σ
noncomputable def Fw:Nat→Az:=Ap fun k x0 x1 σ=>fn P (XK Kn.b) H k 289 [.pointer x0,.int .i64 x1] σ
noncomputable def Ha:Nat→Az:=Ap fun k x0 x1 σ=>fn P (XK Kn.b) H k 292 [.pointer x0,.int .i64 x1] σ
noncomputable def Eh:Nat→sP:=Ap fun k n p0 i1 x5 x6 σ=>lp k 292 6 (cB (cR (cL (cR (cR (BM Tryz.f292)))))) n (Lg 0 43 [(0,.pointer p0),(1,.int .i64 i1),(5,.slice x5.1 x5.2.1 x5.2.2),(6,.int .i64 x6)]) σ
noncomputable def Ht:Nat→iq:=Ap fun k x0 x1 x2 σ=>fn P (XK Kn.b) H k 296 [.pointer x0,.int .i64 x1,x2] σ
noncomputable def Df:Nat→uC:=Ap fun k n p0 i1 h2 i3 x11 x44 σ=>lp k 296 18 (cB (cR (cL (cR (cR (cR (cR (cR (BM Tryz.f296))))))))) n (Lg 0 70 [(0,.pointer p0),(1,.int .i64 i1),(7,.pointer (some ⟨h2,0,none⟩)),(11,.int .i64 x11),(43,.int .i64 i3),(44,.int .i64 x44)]) σ
noncomputable def CB:Nat→Zf:=Ap fun k x0 x1 σ=>fn P (XK Kn.b) H k 297 [.slice x0.1 x0.2.1 x0.2.2,x1] σ
noncomputable def Bc:Nat→ie:=Ap fun k n p0 c1 c2 v3 i4 x8 σ=>lp k 297 4 (cB (cR (cL (cR (BM Tryz.f297))))) n (Lg 0 19 [(0,.slice p0 c1 c2),(1,v3),(7,.int .i64 i4),(8,.int .i64 x8)]) σ
noncomputable def FK:Nat→Cj:=Ap fun k x0 x1 x2 σ=>fn P (XK Kn.b) H k 298 [.pointer x0,.int .i64 x1,.int .i64 x2] σ
noncomputable def D3:Nat→Pv:=Ap fun k n p0 i1 x8 σ=>lp k 298 8 (cB (cR (cL (cR (cR (BM Tryz.f298)))))) n (Lg 0 30 [(0,.pointer p0),(2,.int .i64 i1),(8,.int .i64 x8)]) σ
noncomputable def FU:Nat→Az:=Ap fun k x1 x2 σ=>fn P (XK Kn.b) H k 317 [.agg #[],.pointer x1,.int .i64 x2] σ
noncomputable def Bz:Nat→uP:=Ap fun k x0 x1 σ=>fn P (XK Kn.b) H k 318 [.pointer x0,.slice x1.1 x1.2.1 x1.2.2] σ
noncomputable def BA:Nat→Cj:=Ap fun k x0 x1 x2 σ=>fn P (XK Kn.b) H k 319 [.pointer x0,.int .i64 x1,.int .i64 x2] σ
noncomputable def CM:Nat→nq:=Ap fun k n i0 i1 p2 c3 c4 i5 x7 x27 σ=>lp k 319 12 (cB (cR (cR (cB (cL (cR (cR (cB (cB (cR (cL (cR (cR (BM Tryz.f319)))))))))))))) n (Lg 0 55 [(1,.int .i64 i0),(2,.int .i64 i1),(7,.slice x7.1 x7.2.1 x7.2.2),(25,.slice p2 c3 c4),(26,.int .i64 i5),(27,.int .i64 x27)]) σ
noncomputable def CL:Nat→kX:=Ap fun k n p0 i1 i2 p3 c4 c5 i6 x7 x16 σ=>lp k 319 6 (cB (cR (cL (cR (cR (BM Tryz.f319)))))) n (Lg 0 55 [(0,.pointer p0),(1,.int .i64 i1),(2,.int .i64 i2),(7,.slice x7.1 x7.2.1 x7.2.2),(14,.slice p3 c4 c5),(15,.int .i64 i6),(16,.int .i64 x16)]) σ
noncomputable def Bx:Nat→Cz:=Ap fun k x0 σ=>fn P (XK Kn.b) H k 320 [.pointer x0] σ
noncomputable def Ct:Nat→fb:=Ap fun k n p0 h1 x4 σ=>lp k 320 4 (cB (cR (cL (cR (BM Tryz.f320))))) n (Lg 0 32 [(0,.pointer p0),(2,.pointer (some ⟨h1,0,none⟩)),(4,.int .i64 x4)]) σ
noncomputable def Ck:Nat→Cz:=Ap fun k x0 σ=>fn P (XK Kn.b) H k 321 [.pointer x0] σ
noncomputable def Cg:Nat→sP:=Ap fun k n p0 i1 x3 x10 σ=>lp k 321 6 (cB (cR (cL (cR (cR (BM Tryz.f321)))))) n (Lg 0 39 [(0,.pointer p0),(3,.slice x3.1 x3.2.1 x3.2.2),(9,.int .i64 i1),(10,.int .i64 x10)]) σ
noncomputable def HU:Nat→Az:=Ap fun k x0 x1 σ=>fn P (XK Kn.b) H k 322 [.pointer x0,.int .i64 x1] σ
noncomputable def EO:Nat→Za:=Ap fun k n p0 h1 h2 p3 c4 c5 i6 x21 σ=>lp k 322 14 (cB (cR (cL (cR (cR (cR (cR (cR (BM Tryz.f322))))))))) n (Lg 0 40 [(0,.pointer p0),(6,.pointer (some ⟨h1,0,none⟩)),(7,.func (.func 324) #[] #[.pointer (some ⟨h1,0,none⟩),.pointer (some ⟨h2,0,none⟩)]),(19,.slice p3 c4 c5),(20,.int .i64 i6),(21,.int .i64 x21)]) σ
noncomputable def F7:Nat→Az:=Ap fun k x0 x1 σ=>fn P (XK Kn.b) H k 323 [.pointer x0,.int .i64 x1] σ
noncomputable def DL:Nat→nT:=Ap fun k x0 c0 c1 σ=>fn P (XK Kn.b) H k 324 [.int .i64 x0,.pointer c0,.pointer c1] σ
noncomputable def Gv:Nat→Az:=Ap fun k x1 x2 σ=>fn P (XK Kn.b) H k 325 [.agg #[],.pointer x1,.int .i64 x2] σ
noncomputable def Cd:Nat→Zf:=Ap fun k x0 x1 σ=>fn P (XK Kn.b) H k 326 [.slice x0.1 x0.2.1 x0.2.2,x1] σ
noncomputable def Fb:Nat→gb:=Ap fun k x0_0 x0_1 x1_0 x1_1 σ=>fn P (XK Kn.b) H k 327 [.agg #[.int .i64 x0_0,.int .i64 x0_1],.agg #[.int .i64 x1_0,.int .i64 x1_1]] σ
noncomputable def Co:Nat→ry:=Ap fun k x0 x1 x2 σ=>fn P (XK Kn.b) H k 328 [.slice x0.1 x0.2.1 x0.2.2,.int .i64 x1,x2] σ
noncomputable def Bh:Nat→rh:=Ap fun k n p0 c1 c2 i3 v4 x7 x8 σ=>lp k 328 4 (cB (cL (cR (cR (BM Tryz.f328))))) n (Lg 0 63 [(0,.slice p0 c1 c2),(1,.int .i64 i3),(2,v4),(6,.int .i64 (20:Int)),(7,.int .i64 x7),(8,.int .i64 x8)]) σ
noncomputable def Bj:Nat→nr:=Ap fun k n p0 c1 c2 i3 v4 i5 x7 x8 σ=>lp k 328 18 (cB (cL (cR (cB (cR (cB (cB (cR (cR (cR (cR (BM Tryz.f328)))))))))))) n (Lg 0 63 [(0,.slice p0 c1 c2),(1,.int .i64 i3),(2,v4),(6,.int .i64 i5),(7,.int .i64 x7),(8,.int .i64 x8)]) σ
noncomputable def Bi:Nat→ic:=Ap fun k n p0 c1 c2 i3 v4 x6 σ=>lp k 328 14 (cB (cR (cR (cR (cR (BM Tryz.f328)))))) n (Lg 0 63 [(0,.slice p0 c1 c2),(1,.int .i64 i3),(2,v4),(6,.int .i64 x6)]) σ
noncomputable def AP:Nat→gf:=Ap fun k x0 x1 x2 x3 σ=>fn P (XK Kn.b) H k 329 [.slice x0.1 x0.2.1 x0.2.2,.int .i64 x1,.int .i64 x2,x3] σ
noncomputable def AR:Nat→ic:=Ap fun k n p0 c1 c2 i3 v4 x9 σ=>lp k 329 8 (cB (cR (cB (cL (cR (cB (cB (cR (BM Tryz.f329))))))))) n (Lg 0 53 [(0,.slice p0 c1 c2),(1,.int .i64 i3),(3,v4),(9,.int .i64 x9)]) σ
noncomputable def AQ:Nat→rf:=Ap fun k n p0 c1 c2 i3 i4 v5 x8 σ=>lp k 329 2 (cB (cR (BM Tryz.f329))) n (Lg 0 53 [(0,.slice p0 c1 c2),(1,.int .i64 i3),(2,.int .i64 i4),(3,v5),(8,.int .i64 x8)]) σ
noncomputable def BR:Nat→sU:=Ap fun k x0 x1 x2 x3 x4 σ=>fn P (XK Kn.b) H k 330 [.slice x0.1 x0.2.1 x0.2.2,.int .i64 x1,.int .i64 x2,.int .i64 x3,x4] σ
noncomputable def Gx:Nat→Az:=Ap fun k x1 x2 σ=>fn P (XK Kn.b) H k 333 [.agg #[],.pointer x1,.int .i64 x2] σ
noncomputable def Gw:Nat→Az:=Ap fun k x1 x2 σ=>fn P (XK Kn.b) H k 334 [.agg #[],.pointer x1,.int .i64 x2] σ
noncomputable def Cl:Nat→nV:=Ap fun k x0 x1 x2 σ=>fn P (XK Kn.b) H k 335 [.pointer x0,.pointer x1,.int .i64 x2] σ
noncomputable def F4:Nat→Az:=Ap fun k x0 x1 σ=>fn P (XK Kn.b) H k 336 [.pointer x0,.int .i64 x1] σ
noncomputable def EW:Nat→Az:=Ap fun k x0 x1 σ=>fn P (XK Kn.b) H k 337 [.pointer x0,.int .i64 x1] σ
noncomputable def FV:Nat→Az:=Ap fun k x1 x2 σ=>fn P (XK Kn.b) H k 338 [.agg #[],.pointer x1,.int .i64 x2] σ
noncomputable def E8:Nat→Cz:=Ap fun k x0 σ=>fn P (XK Kn.b) H k 339 [.pointer x0] σ
noncomputable def CP:Nat→Acl:=Ap fun k n p0 c1 c2 x8 σ=>lp k 339 18 (cB (cL (cR (cB (cL (cR (cB (cB (cR (cR (cR (cB (cL (cR (cR (cB (cB (cR (cL (cR (BM Tryz.f339))))))))))))))))))))) n (Lg 0 75 [(6,.slice p0 c1 c2),(8,.int .i64 x8)]) σ
noncomputable def CO:Nat→re:=Ap fun k n p0 h1 i2 p3 c4 c5 x7 σ=>lp k 339 12 (cB (cR (cR (cR (cB (cL (cR (cR (cB (cB (cR (cL (cR (BM Tryz.f339)))))))))))))) n (Lg 0 75 [(0,.pointer p0),(2,.pointer (some ⟨h1,0,none⟩)),(5,.int .i64 i2),(6,.slice p3 c4 c5),(7,.int .i64 x7)]) σ
noncomputable def CN:Nat→rj:=Ap fun k n p0 h1 p2 c3 c4 i5 x13 σ=>lp k 339 4 (cB (cR (cL (cR (BM Tryz.f339))))) n (Lg 0 75 [(0,.pointer p0),(2,.pointer (some ⟨h1,0,none⟩)),(11,.slice p2 c3 c4),(12,.int .i64 i5),(13,.int .i64 x13)]) σ
noncomputable def Hi:Nat→Az:=Ap fun k x0 x1 σ=>fn P (XK Kn.b) H k 340 [.pointer x0,.int .i64 x1] σ
noncomputable def En:Nat→Acj:=Ap fun k n h0 c1 i2 x10 σ=>lp k 340 18 (cB (cR (cR (cR (cB (cL (cR (cR (cB (cB (cR (cL (cR (cR (cR (BM Tryz.f340)))))))))))))))) n (Lg 0 46 [(5,.slice (some ⟨h0,0,none⟩) c1 c1),(9,.int .i64 i2),(10,.int .i64 x10)]) σ
noncomputable def Em:Nat→Za:=Ap fun k n p0 h1 c2 p3 c4 c5 i6 x20 σ=>lp k 340 10 (cB (cR (cL (cR (cR (cR (BM Tryz.f340))))))) n (Lg 0 46 [(0,.pointer p0),(5,.slice (some ⟨h1,0,none⟩) c2 c2),(18,.slice p3 c4 c5),(19,.int .i64 i6),(20,.int .i64 x20)]) σ
noncomputable def PA:Nat→TV:=Ap fun k f args σ=>ID P (fn P (XK Kn.b) H k) f args σ
noncomputable def GY:Nat→TV:=Ap fun k f args σ=>ID P (fn P (XK Kn.b) H k) f args σ
noncomputable def S8:Nat→TV:=Ap fun k f args σ=>ID P (fn P (XK Kn.b) H k) f args σ
noncomputable def F6:Nat→TV:=Ap fun k f args σ=>ID P (fn P (XK Kn.b) H k) f args σ
noncomputable def Js:Nat→TV:=Ap fun k f args σ=>ID P (fn P (XK Kn.b) H k) f args σ
noncomputable def Qz:Nat→TV:=Ap fun k f args σ=>ID P (fn P (XK Kn.b) H k) f args σ
end
section
variable [A9]
end
end Go.Proofs.YtjbledomkmdkmaaGreat
