/-
 PRINTED BY A PROGRAM OF THIS SESSION'S OWN (gen2.py): the Go functions as Lean functions over the abstract memory.
-/
import Derived.Test.YtjbledomkmdkmaaGreatP9
import Derived.Test.YtjbledomkmdkmaaGreatP10
set_option linter.unusedVariables false
set_option linter.unusedSimpArgs false
set_option linter.unusedSectionVars false
namespace Go.Proofs.YtjbledomkmdkmaaGreat
open Go Go.AX
noncomputable section
set_option maxRecDepth 100000
abbrev Aj:TypeId:=3
abbrev Dc:TypeId:=27
abbrev Gj:TypeId:=28
abbrev G7:TypeId:=31
abbrev D4:TypeId:=32
abbrev Gt:TypeId:=33
abbrev AW:TypeId:=35
abbrev Jh:TypeId:=43
abbrev E7:TypeId:=45
abbrev Fk:TypeId:=46
abbrev G8:TypeId:=47
abbrev B6:TypeId:=49
abbrev ax:TypeId:=52
abbrev Am:TypeId:=55
abbrev ay:TypeId:=61
abbrev Ad:TypeId:=97
abbrev Ol:TypeId:=101
abbrev CH:TypeId:=107
abbrev An:TypeId:=109
abbrev Ab:TypeId:=111
abbrev cz:TypeId:=122
abbrev Kn:TypeId:=136
abbrev Fo:TypeId:=139
abbrev Fz:TypeId:=173
abbrev Da:TypeId:=3
abbrev IB:TypeId:=149
abbrev B7:TypeId:=156
abbrev H0:TypeId:=165
abbrev GD:TypeId:=171
abbrev AY:TypeId:=173
abbrev Lz:TypeId:=179
abbrev Mf:TypeId:=223
abbrev Bq:TypeId:=242
abbrev I7:TypeId:=224
abbrev nH:TypeId:=242
abbrev Me:TypeId:=246
abbrev Ci:TypeId:=248
abbrev Q5:TypeId:=251
abbrev Qr:TypeId:=256
abbrev Ay:TypeId:=259
abbrev Ik:TypeId:=268
abbrev ae:TypeId:=269
abbrev ai:TypeId:=270
abbrev ah:TypeId:=271
abbrev ZD:TypeId:=272
abbrev Xe:TypeId:=290
def GU (i:Nat):Nat->List (Nat × Value)->Bc
 | 0,_=>[]
 | n+1,[]=>none::GU (i+1) n []
 | n+1,(j,v)::l=>bif Nat.beq i j then some v::GU (i+1) n l else none::GU (i+1) n ((j,v)::l)
def H:FuncId->Hints
 | 4=>[(10,⟨[1,5,7],[(.exit 0,[]),(.ret,[(4,.bool)])]⟩),(21,⟨[],[(.normal,[(9,.int .i64)])]⟩),(29,⟨[],[(.normal,[]),(.ret,[(4,.bool)])]⟩)]
 | 15=>[(8,⟨[0,1,5],[(.exit 0,[]),(.ret,[(4,.bool)])]⟩)]
 | 18=>[(8,⟨[0,1,5],[(.exit 0,[]),(.ret,[(4,.bool)])]⟩),(18,⟨[0,1,6],[(.exit 2,[]),(.ret,[(4,.bool)])]⟩)]
 | 19=>[(6,⟨[0,3,4],[(.exit 0,[])]⟩),(18,⟨[0,3,6,7],[(.exit 2,[])]⟩),(30,⟨[0,8,9],[(.exit 4,[])]⟩),(42,⟨[0,8,13],[(.exit 6,[])]⟩)]
 | 30=>[(6,⟨[0,1,5,6],[(.exit 0,[(5,.slice)])]⟩)]
 | 37=>[(14,⟨[0,3,5,6],[(.exit 0,[])]⟩)]
 | 38=>[(20,⟨[1,9,10],[(.exit 0,[]),(.ret,[(2,.ptr)])]⟩),(30,⟨[1,9,11],[(.exit 2,[]),(.ret,[(2,.ptr)])]⟩),(42,⟨[1,9,13],[(.exit 4,[]),(.ret,[(2,.ptr)])]⟩),(58,⟨[1,9,18],[(.exit 6,[]),(.ret,[(2,.ptr)])]⟩),(68,⟨[1,9,19],[(.exit 8,[]),(.ret,[(2,.ptr)])]⟩)]
 | 45=>[(12,⟨[0,16,17],[(.exit 0,[]),(.ret,[(4,.int .i64),(5,.int .i64)])]⟩)]
 | 62=>[(6,⟨[0,1,7,8],[(.exit 0,[(7,.slice)])]⟩),(14,⟨[0,2,7,9],[(.exit 2,[(7,.slice)])]⟩),(22,⟨[0,2,7,10,11],[(.exit 4,[(7,.slice)])]⟩),(30,⟨[0,7,12,13],[(.exit 6,[(7,.slice)])]⟩),(37,⟨[],[(.normal,[(7,.slice)])]⟩),(41,⟨[],[(.normal,[(7,.slice)])]⟩)]
 | 63=>[(8,⟨[0,3,4,5],[(.exit 0,[(3,.slice)])]⟩),(18,⟨[3,6,7,8],[(.exit 2,[(7,.bool)])]⟩),(27,⟨[],[(.normal,[(3,.slice)])]⟩)]
 | 66=>[(8,⟨[0,4],[(.exit 0,[(4,.int .i64)])]⟩)]
 | 71=>[(9,⟨[],[(.normal,[])]⟩),(13,⟨[],[(.normal,[])]⟩),(17,⟨[],[(.normal,[])]⟩),(21,⟨[],[(.normal,[])]⟩)]
 | 81=>[(6,⟨[0,2,7,8,9],[(.exit 0,[(7,.slice)])]⟩)]
 | 82=>[(4,⟨[0,1,5],[(.exit 0,[]),(.ret,[(4,.int .i64)])]⟩)]
 | 83=>[(8,⟨[0,1,5],[(.exit 0,[]),(.ret,[(4,.int .i64)])]⟩)]
 | 85=>[(10,⟨[2,5,19,20,21],[(.exit 0,[]),(.ret,[(4,.bool)])]⟩),(18,⟨[2,5,7,32,33],[(.exit 2,[]),(.ret,[(4,.bool)])]⟩)]
 | 90=>[(8,⟨[0,3,4,5],[(.exit 0,[(3,.slice)])]⟩),(15,⟨[],[(.normal,[(3,.slice)])]⟩)]
 | 92=>[(10,⟨[0,4,5],[(.exit 0,[])]⟩)]
 | 96=>[(12,⟨[3],[(.normal,[])]⟩)]
 | 100=>[(13,⟨[],[(.normal,[]),(.ret,[(6,.bool)])]⟩),(17,⟨[],[(.normal,[(10,.int .i64)])]⟩)]
 | 130=>[(2,⟨[0,8,9,10],[(.exit 0,[])]⟩)]
 | 131=>[(5,⟨[],[(.normal,[])]⟩),(9,⟨[],[(.normal,[])]⟩),(15,⟨[],[(.normal,[])]⟩),(16,⟨[0,48,49,50],[(.exit 1,[])]⟩)]
 | 137=>[(15,⟨[],[(.normal,[(12,.int .i64),(13,.int .i64)])]⟩)]
 | 139=>[(21,⟨[],[(.normal,[])]⟩)]
 | 143=>[(5,⟨[],[(.normal,[])]⟩)]
 | 159=>[(3,⟨[],[(.normal,[])]⟩)]
 | 160=>[(8,⟨[0,2,8],[(.exit 0,[]),(.ret,[(6,.int .i64),(7,.int .i64)])]⟩)]
 | 168=>[(12,⟨[3],[(.normal,[])]⟩),(15,⟨[],[(.normal,[])]⟩)]
 | 177=>[(14,⟨[0,1,6],[(.exit 0,[])]⟩)]
 | 179=>[(10,⟨[0,3,4],[(.exit 0,[(3,.slice)])]⟩),(16,⟨[3,4,5],[(.exit 2,[(3,.slice)])]⟩),(24,⟨[3,6],[(.exit 4,[(3,.slice)])]⟩),(32,⟨[0,3,7],[(.exit 6,[(3,.slice)])]⟩)]
 | 182=>[(9,⟨[],[(.normal,[])]⟩),(13,⟨[],[(.normal,[])]⟩)]
 | 190=>[(6,⟨[0,3,4],[(.exit 0,[(3,.int .i64)])]⟩),(13,⟨[],[(.normal,[(3,.int .i64)])]⟩)]
 | 215=>[(3,⟨[],[(.normal,[])]⟩)]
 | 216=>[(3,⟨[],[(.normal,[])]⟩),(8,⟨[0,31,32,33],[(.exit 0,[])]⟩),(15,⟨[],[(.normal,[])]⟩),(25,⟨[],[(.normal,[])]⟩)]
 | 217=>[(8,⟨[5,7,18,19,20],[(.exit 0,[(7,.slice)])]⟩),(15,⟨[],[(.normal,[(7,.slice)])]⟩)]
 | 219=>[(3,⟨[],[(.normal,[])]⟩),(10,⟨[0,24,25,26],[(.exit 0,[])]⟩),(17,⟨[],[(.normal,[])]⟩),(22,⟨[0,46,47],[(.exit 2,[])]⟩),(31,⟨[],[(.normal,[])]⟩)]
 | 225=>[(17,⟨[],[(.normal,[(7,.func)])]⟩),(31,⟨[],[(.normal,[(11,.int .i64)])]⟩)]
 | 227=>[(4,⟨[0,1,5],[(.exit 0,[(5,.int .i64)])]⟩)]
 | 237=>[(4,⟨[0,1,7,8],[(.exit 0,[]),(.ret,[(4,.int .i64)])]⟩)]
 | 243=>[(4,⟨[0,1,5],[(.exit 0,[(5,.int .i64)])]⟩)]
 | 244=>[(2,⟨[0,19,20,21],[(.exit 0,[]),(.ret,[])]⟩),(8,⟨[0,3,4,27,28],[(.exit 2,[]),(.ret,[])]⟩),(17,⟨[],[(.normal,[])]⟩)]
 | 245=>[(4,⟨[0,1,5],[(.exit 0,[]),(.ret,[(4,.int .i64)])]⟩),(10,⟨[0,1,5,6],[(.exit 2,[(6,.int .i64)])]⟩)]
 | 246=>[(12,⟨[0,1,2,9],[(.exit 0,[]),(.ret,[(8,.int .i64)])]⟩),(22,⟨[0,1,2,3,10],[(.exit 2,[])]⟩)]
 | 247=>[(4,⟨[0,2,4,8],[(.exit 0,[]),(.ret,[(6,.int .i64),(7,.bool)])]⟩),(14,⟨[4,9,10],[(.exit 2,[]),(.ret,[(6,.int .i64),(7,.bool)])]⟩)]
 | 250=>[(16,⟨[0,1,9,53,54],[(.exit 1,[])]⟩)]
 | 251=>[(11,⟨[],[(.normal,[]),(.ret,[(8,.int .i64)])]⟩),(20,⟨[0,1,3,6,10],[(.exit 0,[]),(.ret,[(8,.int .i64)])]⟩)]
 | 252=>[(4,⟨[0,3,4],[(.exit 0,[(4,.int .i64)])]⟩)]
 | 253=>[(11,⟨[],[(.normal,[]),(.ret,[(8,.int .i64)])]⟩),(20,⟨[0,1,2,3,10],[(.exit 0,[]),(.ret,[(8,.int .i64)])]⟩)]
 | 263=>[(14,⟨[0,1,3,31,32],[(.exit 0,[])]⟩)]
 | 264=>[(8,⟨[0,1,7,21,22],[(.exit 0,[(7,.slice)])]⟩)]
 | 265=>[(4,⟨[0,2,15,16,17],[(.exit 0,[(2,.slice)])]⟩),(15,⟨[],[(.normal,[(2,.slice)])]⟩),(22,⟨[0,60,61,62],[(.exit 2,[])]⟩)]
 | 269=>[(4,⟨[0,1,7,8],[(.exit 0,[]),(.ret,[(4,.int .i64)])]⟩)]
 | 272=>[(6,⟨[0,6,7],[(.exit 0,[]),(.ret,[(4,.int .i64),(5,.bool)])]⟩)]
 | 282=>[(14,⟨[0,5,6,7,8],[(.exit 0,[(5,.slice),(6,.int .i64)])]⟩),(21,⟨[],[(.normal,[(5,.slice)])]⟩),(29,⟨[],[(.normal,[(5,.slice)])]⟩)]
 | 286=>[(12,⟨[0,1,5],[(.exit 0,[(5,.int .i64)])]⟩)]
 | 292=>[(6,⟨[0,1,5,6],[(.exit 0,[(5,.slice)])]⟩),(13,⟨[],[(.normal,[(5,.slice)])]⟩)]
 | 296=>[(18,⟨[0,1,7,11,43,44],[(.exit 0,[(11,.int .i64)])]⟩),(27,⟨[],[(.normal,[(11,.int .i64)])]⟩)]
 | 297=>[(4,⟨[0,1,7,8],[(.exit 0,[]),(.ret,[(4,.int .i64)])]⟩)]
 | 298=>[(8,⟨[0,2,8],[(.exit 0,[]),(.ret,[(6,.int .i64),(7,.int .i64)])]⟩)]
 | 319=>[(6,⟨[0,1,2,7,14,15,16],[(.exit 0,[(7,.slice)])]⟩),(12,⟨[1,2,7,25,26,27],[(.exit 2,[(7,.slice)])]⟩),(21,⟨[],[(.normal,[])]⟩),(25,⟨[],[(.normal,[(7,.slice)])]⟩)]
 | 320=>[(4,⟨[0,2,4],[(.exit 0,[]),(.ret,[(3,.bool)])]⟩)]
 | 321=>[(6,⟨[0,3,9,10],[(.exit 0,[(3,.slice)])]⟩),(13,⟨[],[(.normal,[(3,.slice)])]⟩)]
 | 322=>[(14,⟨[0,6,7,19,20,21],[(.exit 0,[])]⟩)]
 | 324=>[(3,⟨[],[(.normal,[])]⟩)]
 | 328=>[(4,⟨[0,1,2,6,7,8],[(.exit 0,[(7,.int .i64)])]⟩),(14,⟨[0,1,2,6],[(.exit 2,[])]⟩),(18,⟨[0,1,2,6,7,8],[(.exit 4,[(7,.int .i64)])]⟩),(31,⟨[],[(.normal,[])]⟩)]
 | 329=>[(2,⟨[0,1,2,3,8],[(.exit 0,[])]⟩),(8,⟨[0,1,3,9],[(.exit 2,[])]⟩)]
 | 330=>[(6,⟨[0,1,4,10,11],[(.exit 0,[(10,.int .i64)])]⟩),(13,⟨[],[(.normal,[(10,.int .i64),(11,.int .i64)])]⟩),(18,⟨[0,10,13],[(.exit 2,[])]⟩),(30,⟨[0,2,4,14,15],[(.exit 4,[(14,.int .i64)])]⟩),(37,⟨[],[(.normal,[(14,.int .i64),(15,.int .i64)])]⟩),(42,⟨[0,14,17],[(.exit 6,[])]⟩),(57,⟨[],[(.normal,[(20,.int .i64),(21,.int .i64)])]⟩),(66,⟨[0,4,20,21,22],[(.exit 8,[(20,.int .i64)])]⟩),(73,⟨[],[(.normal,[(20,.int .i64),(21,.int .i64)])]⟩),(81,⟨[],[(.normal,[])]⟩),(85,⟨[],[(.normal,[])]⟩),(89,⟨[],[(.normal,[])]⟩)]
 | 331=>[(4,⟨[0,2,4,10,11],[(.exit 0,[(10,.int .i64)])]⟩),(9,⟨[],[(.normal,[(10,.int .i64),(11,.int .i64)])]⟩)]
 | 332=>[(2,⟨[0,1,2,3,10],[(.exit 0,[])]⟩)]
 | 333=>[(9,⟨[],[(.normal,[])]⟩)]
 | 335=>[(5,⟨[],[(.normal,[]),(.ret,[(6,.int .i64),(7,.bool)])]⟩)]
 | 339=>[(4,⟨[0,2,11,12,13],[(.exit 0,[]),(.ret,[(3,.bool)])]⟩),(12,⟨[0,2,5,6,7],[(.exit 2,[]),(.ret,[(3,.bool)])]⟩),(18,⟨[6,8],[(.exit 4,[(8,.int .i64)])]⟩)]
 | 340=>[(10,⟨[0,5,18,19,20],[(.exit 0,[])]⟩),(18,⟨[5,9,10],[(.exit 2,[])]⟩)]
 | _=>[]
section
variable [AA]
def lp (k f i:Nat) (c:Code) (n:Nat) (rs:Bc) (J:Aa):Option Bl:=
 WQ (fun regs J K=>exec P (fn P X H k) f (H f) k (cB c) Bl regs J K) (((H f).lookup i).getD default) n rs J
def xc {ρ:Type} (l:List Value) (K:Value->Option ρ):Option ρ:=l.head?.bind fun y0=>K y0
theorem uP {ρ:Type} (y0:Value) (K:Value->Option ρ):xc [y0] K=K y0:=by simp[xc,Bn,DK,toStr,HD,ED,db]
def Xf {ρ:Type} (l:List Value) (K:Int->Option ρ):Option ρ:=l.head?.bind fun v=>(Bn .i64 v).bind fun y0=>K y0
theorem D7 {ρ:Type} (y0:Int) (K:Int->Option ρ):Xf [.int .i64 y0] K=K y0:=by simp[Xf,Bn,DK,toStr,HD,ED,db]
def gF {ρ:Type} (l:List Value) (K:Int->Int->Option ρ):Option ρ:=l.head?.bind fun v=>(Bn .i64 v).bind fun y0=>l.tail.head?.bind fun v=>(Bn .i64 v).bind fun y1=>K y0 y1
theorem Vv {ρ:Type} (y0:Int) (y1:Int) (K:Int->Int->Option ρ):gF [.int .i64 y0,.int .i64 y1] K=K y0 y1:=by simp[gF,Bn,DK,toStr,HD,ED,db]
def tJ {ρ:Type} (l:List Value) (K:Int->Int->Int->Option ρ):Option ρ:=l.head?.bind fun v=>(Bn .i64 v).bind fun y0=>l.tail.head?.bind fun v=>(Bn .i64 v).bind fun y1=>l.tail.tail.head?.bind fun v=>(Bn .i64 v).bind fun y2=>K y0 y1 y2
def qS {ρ:Type} (l:List Value) (K:Int->Bool->Option ρ):Option ρ:=l.head?.bind fun v=>(Bn .i64 v).bind fun y0=>l.tail.head?.bind fun v=>(DK v).bind fun y1=>K y0 y1
theorem dg {ρ:Type} (y0:Int) (y1:Bool) (K:Int->Bool->Option ρ):qS [.int .i64 y0,.bool y1] K=K y0 y1:=by simp[qS,Bn,DK,toStr,HD,ED,db]
def Tu {ρ:Type} (l:List Value) (K:Option Addr × Nat × Nat->Option ρ):Option ρ:=l.head?.bind fun v=>(ED v).bind fun y0=>K y0
theorem GZ {ρ:Type} (y0:Option Addr × Nat × Nat) (K:Option Addr × Nat × Nat->Option ρ):Tu [.slice y0.1 y0.2.1 y0.2.2] K=K y0:=by simp[Tu,Bn,DK,toStr,HD,ED,db]
def uQ {ρ:Type} (l:List Value) (K:Option Addr × Nat × Nat->Int->Option ρ):Option ρ:=l.head?.bind fun v=>(ED v).bind fun y0=>l.tail.head?.bind fun v=>(Bn .i64 v).bind fun y1=>K y0 y1
theorem kL {ρ:Type} (y0:Option Addr × Nat × Nat) (y1:Int) (K:Option Addr × Nat × Nat->Int->Option ρ):uQ [.slice y0.1 y0.2.1 y0.2.2,.int .i64 y1] K=K y0 y1:=by simp[uQ,Bn,DK,toStr,HD,ED,db]
def vT {ρ:Type} (l:List Value) (K:Option Addr->Option ρ):Option ρ:=l.head?.bind fun v=>(HD v).bind fun y0=>K y0
def kM {ρ:Type} (l:List Value) (K:Bool->Option ρ):Option ρ:=l.head?.bind fun v=>(DK v).bind fun y0=>K y0
theorem j4 {ρ:Type} (y0:Bool) (K:Bool->Option ρ):kM [.bool y0] K=K y0:=by simp[kM,Bn,DK,toStr,HD,ED,db]
def ud {ρ:Type} (v:Value) (K:Int->Int->Option ρ):Option ρ:=(vd v).bind fun l=>if l.length=2 then gF l K else none
theorem rS {ρ:Type} (y0:Int) (y1:Int) (K:Int->Int->Option ρ):ud (.agg #[.int .i64 y0,.int .i64 y1]) K=K y0 y1:=by simp[ud,gF,vd,Bn,DK,toStr,HD,ED,db]
def Ni {ρ:Type} (v:Value) (K:Int->Int->Int->Option ρ):Option ρ:=(vd v).bind fun l=>if l.length=3 then tJ l K else none
theorem HG {ρ:Type} (y0:Int) (y1:Int) (y2:Int) (K:Int->Int->Int->Option ρ):Ni (.agg #[.int .i64 y0,.int .i64 y1,.int .i64 y2]) K=K y0 y1 y2:=by simp[Ni,tJ,vd,Bn,DK,toStr,HD,ED,db]
def Vz {ρ:Type} (v:Value) (K:Option ρ):Option ρ:=(bH v).bind fun l=>if l.length=0 then K else none
theorem Gs {ρ:Type}  (K:Option ρ):Vz (.tuple #[]) K=K:=by simp[Vz,bH,Bn,DK,toStr,HD,ED,db]
def I8 {ρ:Type} (v:Value) (K:Int->Int->Option ρ):Option ρ:=(bH v).bind fun l=>if l.length=2 then l.head?.bind fun v=>(Bn .i64 v).bind fun y0=>l.tail.head?.bind fun v=>(Bn .i64 v).bind fun y1=>K y0 y1 else none
theorem Cp {ρ:Type} (y0:Int) (y1:Int) (K:Int->Int->Option ρ):I8 (.tuple #[.int .i64 y0,.int .i64 y1]) K=K y0 y1:=by simp[I8,bH,Bn,DK,toStr,HD,ED,db]
def ng {ρ:Type} (v:Value) (K:Int->Bool->Option ρ):Option ρ:=(bH v).bind fun l=>if l.length=2 then l.head?.bind fun v=>(Bn .i64 v).bind fun y0=>l.tail.head?.bind fun v=>(DK v).bind fun y1=>K y0 y1 else none
theorem Qo {ρ:Type} (y0:Int) (y1:Bool) (K:Int->Bool->Option ρ):ng (.tuple #[.int .i64 y0,.bool y1]) K=K y0 y1:=by simp[ng,bH,Bn,DK,toStr,HD,ED,db]
def Ra {ρ:Type} (v:Value) (K:Option Addr->Int->Option ρ):Option ρ:=(bH v).bind fun l=>if l.length=2 then l.head?.bind fun v=>(HD v).bind fun y0=>l.tail.head?.bind fun v=>(Bn .i64 v).bind fun y1=>K y0 y1 else none
theorem Ku {ρ:Type} (y0:Option Addr) (y1:Int) (K:Option Addr->Int->Option ρ):Ra (.tuple #[.pointer y0,.int .i64 y1]) K=K y0 y1:=by simp[Ra,bH,Bn,DK,toStr,HD,ED,db]
end
def As {α:Type} (x:α):α:=Classical.choose (⟨x,rfl⟩:∃ y,y=x)
theorem Ac {α:Type} (x:α):As x=x:=Classical.choose_spec (⟨x,rfl⟩:∃ y,y=x)
abbrev Rf:=Option (Value × Aa)
abbrev TV:=Value->List Value->Aa->Rf
section
variable [AA]
abbrev gO:=Nat->Int->Int->Option Addr->Nat->Nat->Int->(Option Addr × Nat × Nat)->Int->Aa->Option Bl
abbrev vj:=Nat->Int->(Option Addr × Nat × Nat)->Int->Aa->Option Bl
abbrev vk:=Nat->Int->Nat->Int->Aa->Option Bl
abbrev wz:=Nat->(Option Addr × Nat × Nat)->Int->Aa->Option Bl
abbrev tP:=Nat->Nat->Int->Int->Int->Aa->Option Bl
abbrev dy:=Nat->Nat->Nat->Int->Aa->Option Bl
abbrev rz:=Nat->Nat->Option Addr->Nat->Nat->Int->Aa->Option Bl
abbrev nX:=Nat->Nat->Option Addr->Nat->Nat->Int->Int->Aa->Option Bl
abbrev kR:=Nat->Nat->Option Addr->Nat->Nat->Int->(Option Addr × Nat × Nat)->Int->Aa->Option Bl
abbrev tQ:=Nat->Option Addr->Bool->(Option Addr × Nat × Nat)->Int->Aa->Option Bl
abbrev kS:=Nat->Option Addr->Bool->Option Addr->Nat->Nat->(Option Addr × Nat × Nat)->Int->Aa->Option Bl
abbrev w7:=Nat->Option Addr->Int->Aa->Option Bl
abbrev Tw:=Nat->Option Addr->Int->Int->Aa->Option Bl
abbrev nY:=Nat->Option Addr->Int->Int->Int->Aa->Option Bl
abbrev bQ:=Nat->Option Addr->Int->Int->Int->Int->Aa->Option Bl
abbrev rA:=Nat->Option Addr->Int->Int->(Option Addr × Nat × Nat)->Int->Aa->Option Bl
abbrev rB:=Nat->Option Addr->Int->Int->Nat->Int->Aa->Option Bl
abbrev dz:=Nat->Option Addr->Int->Int->Option Addr->Nat->Nat->Int->(Option Addr × Nat × Nat)->Int->Aa->Option Bl
abbrev nZ:=Nat->Option Addr->Int->(Option Addr × Nat × Nat)->Int->Aa->Option Bl
abbrev rC:=Nat->Option Addr->Int->(Option Addr × Nat × Nat)->Int->Int->Aa->Option Bl
abbrev tR:=Nat->Option Addr->Int->Nat->Int->Aa->Option Bl
abbrev rD:=Nat->Option Addr->Int->Nat->Int->Int->Aa->Option Bl
abbrev oa:=Nat->Option Addr->Int->Nat->Int->Int->Int->Aa->Option Bl
abbrev tj:=Nat->Option Addr->(Option Addr × Nat × Nat)->Int->Aa->Option Bl
abbrev dA:=Nat->Option Addr->Nat->Int->Aa->Option Bl
abbrev tS:=Nat->Option Addr->Nat->(Option Addr × Nat × Nat)->Int->Aa->Option Bl
abbrev od:=Nat->Option Addr->Nat->Nat->Int->Bool->Int->Aa->Option Bl
abbrev jC:=Nat->Option Addr->Nat->Nat->Int->Int->Aa->Option Bl
abbrev oe:=Nat->Option Addr->Nat->Nat->Int->Int->Int->Aa->Option Bl
abbrev rE:=Nat->Option Addr->Nat->Nat->Option Addr->Int->Aa->Option Bl
abbrev kT:=Nat->Option Addr->Nat->Nat->Option Addr->Nat->Nat->Int->Aa->Option Bl
abbrev gP:=Nat->Option Addr->Nat->Nat->Option Addr->Nat->Nat->Int->Int->Aa->Option Bl
abbrev dB:=Nat->Option Addr->Nat->Nat->Value->Int->Int->Aa->Option Bl
abbrev og:=Nat->Option Addr->Nat->Option Addr->Nat->Nat->Int->Aa->Option Bl
abbrev tm:=Nat->Option Addr->Option Addr->Int->Aa->Option Bl
abbrev Rc:=Nat->Option Addr->Option Addr->Nat->Nat->Int->Int->Aa->Option Bl
abbrev kU:=Nat->Option Addr->Option Addr->Nat->Nat->Int->(Option Addr × Nat × Nat)->Int->Aa->Option Bl
abbrev UH:=Nat->Option Addr->Option Addr->Nat->Nat->(Option Addr × Nat × Nat)->Int->Aa->Option Bl
abbrev kV:=Nat->Option Addr->Option Addr->Nat->Nat->(Option Addr × Nat × Nat)->Int->Int->Aa->Option Bl
abbrev oh:=Nat->Option Addr->Option Addr->Option Addr->Nat->Nat->Int->Aa->Option Bl
abbrev kW:=Nat->Value->Int->Option Addr->Nat->Nat->Int->Int->Aa->Option Bl
abbrev tT:=Nat->Value->Nat->Int->Int->Aa->Option Bl
abbrev T_:=Aa->Rf
abbrev tY:=Int->Aa->Rf
abbrev tZ:=Int->Int->Aa->Rf
abbrev Yl:=Int->Int->Int->Aa->Rf
abbrev oA:=Int->Int->Int->Int->Aa->Rf
abbrev aw:=Int->Int->(Option Addr × Nat × Nat)->(Option Addr × Nat × Nat)->(Option Addr × Nat × Nat)->(Option Addr × Nat × Nat)->(Option Addr × Nat × Nat)->Aa->Rf
abbrev gV:=Int->Int->(Option Addr × Nat × Nat)->(Option Addr × Nat × Nat)->(Option Addr × Nat × Nat)->(Option Addr × Nat × Nat)->(Option Addr × Nat × Nat)->(Option Addr × Nat × Nat)->Aa->Rf
abbrev vo:=Int->Option Addr->Aa->Rf
abbrev vp:=Int->Option Addr->Option Addr->Aa->Rf
abbrev xh:=(Option Addr × Nat × Nat)->Aa->Rf
abbrev lB:=(Option Addr × Nat × Nat)->Int->Aa->Rf
abbrev wC:=(Option Addr × Nat × Nat)->(Option Addr × Nat × Nat)->Aa->Rf
abbrev wD:=(Option Addr × Nat × Nat)->Option Addr->Aa->Rf
abbrev rQ:=(Option Addr × Nat × Nat)->Value->Aa->Rf
abbrev Nh:=Option Addr->Aa->Rf
abbrev Gl:=Option Addr->Int->Aa->Rf
abbrev tn:=Option Addr->Int->Bool->Aa->Rf
abbrev ME:=Option Addr->Int->Int->Aa->Rf
abbrev ua:=Option Addr->Int->Int->Bool->Aa->Rf
abbrev Ky:=Option Addr->Int->Int->Int->Aa->Rf
abbrev LZ:=Option Addr->Int->Int->Int->Int->Aa->Rf
abbrev oB:=Option Addr->Int->Int->Int->Int->Int->Aa->Rf
abbrev lG:=Option Addr->Int->Int->Int->Int->Int->Int->Aa->Rf
abbrev dI:=Option Addr->Int->Int->Int->Int->Int->(Option Addr × Nat × Nat)->(Option Addr × Nat × Nat)->Bool->Aa->Rf
abbrev vq:=Option Addr->Int->(Option Addr × Nat × Nat)->Aa->Rf
abbrev tp:=Option Addr->Int->Value->Aa->Rf
abbrev vr:=Option Addr->(Option Addr × Nat × Nat)->Aa->Rf
abbrev vt:=Option Addr->(Option Addr × Nat × Nat)->Bool->Aa->Rf
abbrev vu:=Option Addr->(Option Addr × Nat × Nat)->Int->Aa->Rf
abbrev ub:=Option Addr->Option Addr->Aa->Rf
abbrev uc:=Option Addr->Option Addr->Bool->Int->Aa->Rf
abbrev wE:=Value->Option Addr->Aa->Rf
def Hm:Nat->gV:=As fun k x0_0 x0_1 x0_2 x0_3 x0_4 x0_5 x0_6 x1 J=>fn P X H k 4 [.agg #[.int .u8 x0_0,.int .u8 x0_1,.slice x0_2.1 x0_2.2.1 x0_2.2.2,.slice x0_3.1 x0_3.2.1 x0_3.2.2,.slice x0_4.1 x0_4.2.1 x0_4.2.2,.slice x0_5.1 x0_5.2.1 x0_5.2.2,.slice x0_6.1 x0_6.2.1 x0_6.2.2],.slice x1.1 x1.2.1 x1.2.2] J
def CU:Nat->rE:=As fun k n p0 c1 c2 p3 x7 J=>lp k 4 10 (cB (cR (cL (cR (cR (cR (Br Tryz.f4))))))) n (GU 0 170 [(1,.slice p0 c1 c2),(5,.pointer p3),(7,.int .i64 x7)]) J
def IW:Nat->aw:=As fun k x0_0 x0_1 x0_2 x0_3 x0_4 x0_5 x0_6 J=>fn P X H k 11 [.agg #[.int .u8 x0_0,.int .u8 x0_1,.slice x0_2.1 x0_2.2.1 x0_2.2.2,.slice x0_3.1 x0_3.2.1 x0_3.2.2,.slice x0_4.1 x0_4.2.1 x0_4.2.2,.slice x0_5.1 x0_5.2.1 x0_5.2.2,.slice x0_6.1 x0_6.2.1 x0_6.2.2]] J
def B5:Nat->Nh:=As fun k x0 J=>fn P X H k 12 [.pointer x0] J
def BI:Nat->Gl:=As fun k x0 x1 J=>fn P X H k 13 [.pointer x0,.int .i64 x1] J
def DV:Nat->Nh:=As fun k x0 J=>fn P X H k 14 [.pointer x0] J
def DN:Nat->wC:=As fun k x0 x1 J=>fn P X H k 15 [.slice x0.1 x0.2.1 x0.2.2,.slice x1.1 x1.2.1 x1.2.2] J
def Hb:Nat->kT:=As fun k n p0 c1 c2 p3 c4 c5 x5 J=>lp k 15 8 (cB (cR (cL (cR (cR (Br Tryz.f15)))))) n (GU 0 26 [(0,.slice p0 c1 c2),(1,.slice p3 c4 c5),(5,.int .i64 x5)]) J
def CG:Nat->Nh:=As fun k x0 J=>fn P X H k 16 [.pointer x0] J
def HP:Nat->ub:=As fun k x0 x1 J=>fn P X H k 18 [.pointer x0,.pointer x1] J
def Fu:Nat->tm:=As fun k n p0 p1 x5 J=>lp k 18 8 (cB (cR (cL (cR (cR (Br Tryz.f18)))))) n (GU 0 133 [(0,.pointer p0),(1,.pointer p1),(5,.int .i64 x5)]) J
def Fv:Nat->tm:=As fun k n p0 p1 x6 J=>lp k 18 18 (cB (cR (cL (cR (cR (cR (Br Tryz.f18))))))) n (GU 0 133 [(0,.pointer p0),(1,.pointer p1),(6,.int .i64 x6)]) J
def G3:Nat->Nh:=As fun k x0 J=>fn P X H k 19 [.pointer x0] J
def Hc:Nat->dA:=As fun k n p0 h1 x4 J=>lp k 19 6 (cB (cR (cL (cR (cR (Br Tryz.f19)))))) n (GU 0 136 [(0,.pointer p0),(3,.pointer (some ⟨h1,0,none⟩)),(4,.int .i64 x4)]) J
def He:Nat->dA:=As fun k n p0 h1 x9 J=>lp k 19 30 (cB (cR (cL (cR (cR (cR (cB (cL (cR (cB (cB (cR (cL (cR (cR (cR (cR (Br Tryz.f19)))))))))))))))))) n (GU 0 136 [(0,.pointer p0),(8,.pointer (some ⟨h1,0,none⟩)),(9,.int .i64 x9)]) J
def Hf:Nat->dA:=As fun k n p0 h1 x13 J=>lp k 19 42 (cB (cR (cL (cR (cR (cR (cR (cB (cL (cR (cB (cB (cR (cL (cR (cR (cR (cR (Br Tryz.f19))))))))))))))))))) n (GU 0 136 [(0,.pointer p0),(8,.pointer (some ⟨h1,0,none⟩)),(13,.int .i64 x13)]) J
def Hd:Nat->og:=As fun k n p0 h1 p2 c3 c4 x7 J=>lp k 19 18 (cB (cR (cL (cR (cR (cR (cR (Br Tryz.f19)))))))) n (GU 0 136 [(0,.pointer p0),(3,.pointer (some ⟨h1,0,none⟩)),(6,.slice p2 c3 c4),(7,.int .i64 x7)]) J
def IV:Nat->T_:=As fun k  J=>fn P X H k 20 [] J
def Ei:Nat->Nh:=As fun k x0 J=>fn P X H k 21 [.pointer x0] J
def CE:Nat->Nh:=As fun k x0 J=>fn P X H k 22 [.pointer x0] J
def BA:Nat->LZ:=As fun k x0 x1_0 x1_1 x1_2 x2 J=>fn P X H k 23 [.pointer x0,.agg #[.int .i64 x1_0,.int .i64 x1_1,.int .i64 x1_2],.int .i64 x2] J
def Cs:Nat->Gl:=As fun k x0 x1 J=>fn P X H k 24 [.pointer x0,.int .i64 x1] J
def BF:Nat->Nh:=As fun k x0 J=>fn P X H k 25 [.pointer x0] J
def Bz:Nat->Nh:=As fun k x0 J=>fn P X H k 26 [.pointer x0] J
def Gp:Nat->vr:=As fun k x0 x1 J=>fn P X H k 30 [.pointer x0,.slice x1.1 x1.2.1 x1.2.2] J
def EL:Nat->UH:=As fun k n p0 p1 c2 c3 x5 x6 J=>lp k 30 6 (cB (cR (cL (cR (cR (Br Tryz.f30)))))) n (GU 0 36 [(0,.pointer p0),(1,.slice p1 c2 c3),(5,.slice x5.1 x5.2.1 x5.2.2),(6,.int .i64 x6)]) J
def BJ:Nat->Nh:=As fun k x0 J=>fn P X H k 31 [.pointer x0] J
def KH:Nat->lB:=As fun k x0 x1 J=>fn P X H k 32 [.slice x0.1 x0.2.1 x0.2.2,.int .i64 x1] J
def CY:Nat->Nh:=As fun k x0 J=>fn P X H k 33 [.pointer x0] J
def Gn:Nat->Nh:=As fun k x0 J=>fn P X H k 37 [.pointer x0] J
def DE:Nat->oh:=As fun k n p0 p1 p2 c3 c4 x6 J=>lp k 37 14 (cB (cR (cL (cR (cR (cR (cR (cR (Br Tryz.f37))))))))) n (GU 0 50 [(0,.pointer p0),(3,.pointer p1),(5,.slice p2 c3 c4),(6,.int .i64 x6)]) J
def GN:Nat->aw:=As fun k x0_0 x0_1 x0_2 x0_3 x0_4 x0_5 x0_6 J=>fn P X H k 38 [.agg #[.int .u8 x0_0,.int .u8 x0_1,.slice x0_2.1 x0_2.2.1 x0_2.2.2,.slice x0_3.1 x0_3.2.1 x0_3.2.2,.slice x0_4.1 x0_4.2.1 x0_4.2.2,.slice x0_5.1 x0_5.2.1 x0_5.2.2,.slice x0_6.1 x0_6.2.1 x0_6.2.2]] J
def Cj:Nat->dy:=As fun k n h0 h1 x10 J=>lp k 38 20 (cB (cR (cL (cR (cR (cR (cR (cR (cR (cR (cR (Br Tryz.f38)))))))))))) n (GU 0 257 [(1,.pointer (some ⟨h0,0,none⟩)),(9,.pointer (some ⟨h1,0,none⟩)),(10,.int .i64 x10)]) J
def Ck:Nat->dy:=As fun k n h0 h1 x11 J=>lp k 38 30 (cB (cR (cL (cR (cR (cR (cR (cR (cR (cR (cR (cR (Br Tryz.f38))))))))))))) n (GU 0 257 [(1,.pointer (some ⟨h0,0,none⟩)),(9,.pointer (some ⟨h1,0,none⟩)),(11,.int .i64 x11)]) J
def BH:Nat->dy:=As fun k n h0 h1 x13 J=>lp k 38 42 (cB (cR (cL (cR (cR (cR (cR (cR (cR (cR (cR (cR (cR (Br Tryz.f38)))))))))))))) n (GU 0 257 [(1,.pointer (some ⟨h0,0,none⟩)),(9,.pointer (some ⟨h1,0,none⟩)),(13,.int .i64 x13)]) J
def Cm:Nat->dy:=As fun k n h0 h1 x18 J=>lp k 38 58 (cB (cR (cL (cR (cR (cR (cR (cR (cR (cR (cR (cR (cR (cR (Br Tryz.f38))))))))))))))) n (GU 0 257 [(1,.pointer (some ⟨h0,0,none⟩)),(9,.pointer (some ⟨h1,0,none⟩)),(18,.int .i64 x18)]) J
def Cn:Nat->dy:=As fun k n h0 h1 x19 J=>lp k 38 68 (cB (cR (cL (cR (cR (cR (cR (cR (cR (cR (cR (cR (cR (cR (cR (Br Tryz.f38)))))))))))))))) n (GU 0 257 [(1,.pointer (some ⟨h0,0,none⟩)),(9,.pointer (some ⟨h1,0,none⟩)),(19,.int .i64 x19)]) J
def Jx:Nat->ub:=As fun k x0 x1 J=>fn P X H k 39 [.pointer x0,.pointer x1] J
def Al:Nat->Nh:=As fun k x0 J=>fn P X H k 43 [.pointer x0] J
def Ib:Nat->Nh:=As fun k x0 J=>fn P X H k 44 [.pointer x0] J
def IK:Nat->Gl:=As fun k x0 x1 J=>fn P X H k 45 [.pointer x0,.int .i64 x1] J
def FP:Nat->Tw:=As fun k n p0 i1 x17 J=>lp k 45 12 (cB (cR (cL (cR (cR (cR (Br Tryz.f45))))))) n (GU 0 30 [(0,.pointer p0),(16,.int .i64 i1),(17,.int .i64 x17)]) J
def Ia:Nat->Nh:=As fun k x0 J=>fn P X H k 46 [.pointer x0] J
def IJ:Nat->Nh:=As fun k x0 J=>fn P X H k 47 [.pointer x0] J
def Ax:Nat->Nh:=As fun k x0 J=>fn P X H k 49 [.pointer x0] J
def Bb:Nat->Gl:=As fun k x0 x1 J=>fn P X H k 50 [.pointer x0,.int .i64 x1] J
def Bt:Nat->Gl:=As fun k x0 x1 J=>fn P X H k 51 [.pointer x0,.int .i64 x1] J
def FE:Nat->Gl:=As fun k x0 x1 J=>fn P X H k 52 [.pointer x0,.int .i64 x1] J
def CS:Nat->Gl:=As fun k x0 x1 J=>fn P X H k 53 [.pointer x0,.int .i64 x1] J
def AN:Nat->Gl:=As fun k x0 x1 J=>fn P X H k 54 [.pointer x0,.int .i64 x1] J
def AG:Nat->ME:=As fun k x0 x1 x2 J=>fn P X H k 55 [.pointer x0,.int .i64 x1,.int .i64 x2] J
def GF:Nat->ME:=As fun k x0 x1 x2 J=>fn P X H k 56 [.pointer x0,.int .i64 x1,.int .i64 x2] J
def Ix:Nat->tY:=As fun k x0 J=>fn P X H k 57 [.int .i64 x0] J
def Hu:Nat->tY:=As fun k x0 J=>fn P X H k 58 [.int .i64 x0] J
def C7:Nat->LZ:=As fun k x0 x1_0 x1_1 x1_2 x2 J=>fn P X H k 59 [.pointer x0,.agg #[.int .i64 x1_0,.int .i64 x1_1,.int .i64 x1_2],.int .i64 x2] J
def DW:Nat->Ky:=As fun k x0 x1 x2 x3 J=>fn P X H k 60 [.pointer x0,.int .i64 x1,.int .i64 x2,.int .i64 x3] J
def DC:Nat->Gl:=As fun k x0 x1 J=>fn P X H k 61 [.pointer x0,.int .i64 x1] J
def Ja:Nat->vt:=As fun k x0 x1 x2 J=>fn P X H k 62 [.pointer x0,.slice x1.1 x1.2.1 x1.2.2,.bool x2] J
def FL:Nat->UH:=As fun k n p0 p1 c2 c3 x7 x8 J=>lp k 62 6 (cB (cR (cL (cR (cR (Br Tryz.f62)))))) n (GU 0 96 [(0,.pointer p0),(1,.slice p1 c2 c3),(7,.slice x7.1 x7.2.1 x7.2.2),(8,.int .i64 x8)]) J
def FM:Nat->tS:=As fun k n p0 h1 x7 x13 J=>lp k 62 30 (cB (cR (cL (cR (cB (cL (cR (cB (cB (cR (cR (cR (cB (cR (cB (cB (cR (cL (cR (cR (cR (Br Tryz.f62)))))))))))))))))))))) n (GU 0 96 [(0,.pointer p0),(7,.slice x7.1 x7.2.1 x7.2.2),(12,.pointer (some ⟨h1,0,none⟩)),(13,.int .i64 x13)]) J
def EN:Nat->kS:=As fun k n p0 b1 p2 c3 c4 x7 x11 J=>lp k 62 22 (cB (cR (cR (cR (cB (cR (cB (cB (cR (cL (cR (cR (cR (Br Tryz.f62)))))))))))))) n (GU 0 96 [(0,.pointer p0),(2,.bool b1),(7,.slice x7.1 x7.2.1 x7.2.2),(10,.slice p2 c3 c4),(11,.int .i64 x11)]) J
def GI:Nat->tQ:=As fun k n p0 b1 x7 x9 J=>lp k 62 14 (cB (cR (cL (cR (cR (cR (Br Tryz.f62))))))) n (GU 0 96 [(0,.pointer p0),(2,.bool b1),(7,.slice x7.1 x7.2.1 x7.2.2),(9,.int .i64 x9)]) J
def Fx:Nat->Nh:=As fun k x0 J=>fn P X H k 63 [.pointer x0] J
def DT:Nat->od:=As fun k n p0 c1 c2 i3 x7 x8 J=>lp k 63 18 (cB (cR (cL (cR (cR (cB (cL (cR (cB (cB (cR (cL (cR (cR (cR (Br Tryz.f63)))))))))))))))) n (GU 0 45 [(3,.slice p0 c1 c2),(6,.int .i64 i3),(7,.bool x7),(8,.int .i64 x8)]) J
def DS:Nat->UH:=As fun k n p0 p1 c2 c3 x3 x5 J=>lp k 63 8 (cB (cR (cL (cR (cR (cR (Br Tryz.f63))))))) n (GU 0 45 [(0,.pointer p0),(3,.slice x3.1 x3.2.1 x3.2.2),(4,.slice p1 c2 c3),(5,.int .i64 x5)]) J
def Ds:Nat->Ky:=As fun k x0 x1_0 x1_1 x1_2 J=>fn P X H k 64 [.pointer x0,.agg #[.int .i64 x1_0,.int .i64 x1_1,.int .i64 x1_2]] J
def CZ:Nat->Nh:=As fun k x0 J=>fn P X H k 65 [.pointer x0] J
def Gr:Nat->Nh:=As fun k x0 J=>fn P X H k 66 [.pointer x0] J
def ET:Nat->w7:=As fun k n p0 x4 J=>lp k 66 8 (cB (cL (cR (cR (cR (Br Tryz.f66)))))) n (GU 0 18 [(0,.pointer p0),(4,.int .i64 x4)]) J
def GJ:Nat->Nh:=As fun k x0 J=>fn P X H k 67 [.pointer x0] J
def Ke:Nat->oA:=As fun k x0_0 x0_1 x0_2 x0_3 J=>fn P X H k 71 [.agg #[.int .u8 x0_0,.int .u8 x0_1,.int .u8 x0_2,.int .u8 x0_3]] J
def AJ:Nat->Nh:=As fun k x0 J=>fn P X H k 80 [.pointer x0] J
def DZ:Nat->ME:=As fun k x0 x1 x2 J=>fn P X H k 81 [.pointer x0,.int .i64 x1,.int .i64 x2] J
def C6:Nat->rC:=As fun k n p0 i1 x7 x8 x9 J=>lp k 81 6 (cB (cR (cL (cR (cR (Br Tryz.f81)))))) n (GU 0 44 [(0,.pointer p0),(2,.int .i64 i1),(7,.slice x7.1 x7.2.1 x7.2.2),(8,.int .i64 x8),(9,.int .i64 x9)]) J
def PW:Nat->lB:=As fun k x0 x1 J=>fn P X H k 82 [.slice x0.1 x0.2.1 x0.2.2,.int .i64 x1] J
def IY:Nat->jC:=As fun k n p0 c1 c2 i3 x5 J=>lp k 82 4 (cB (cR (cL (cR (Br Tryz.f82))))) n (GU 0 19 [(0,.slice p0 c1 c2),(1,.int .i64 i3),(5,.int .i64 x5)]) J
def AH:Nat->Gl:=As fun k x0 x1 J=>fn P X H k 83 [.pointer x0,.int .i64 x1] J
def Er:Nat->Tw:=As fun k n p0 i1 x5 J=>lp k 83 8 (cB (cR (cL (cR (cR (Br Tryz.f83)))))) n (GU 0 29 [(0,.pointer p0),(1,.int .i64 i1),(5,.int .i64 x5)]) J
def LN:Nat->ub:=As fun k x0 x1 J=>fn P X H k 85 [.pointer x0,.pointer x1] J
def Jc:Nat->tP:=As fun k n h0 i1 i2 x33 J=>lp k 85 18 (cB (cR (cR (cR (cB (cL (cR (cR (cB (cB (cR (cL (cR (cR (cR (Br Tryz.f85)))))))))))))))) n (GU 0 48 [(2,.pointer (some ⟨h0,0,none⟩)),(5,.func (.func 166) #[] #[.pointer (some ⟨h0,0,none⟩)]),(7,.int .i64 i1),(32,.int .i64 i2),(33,.int .i64 x33)]) J
def Jb:Nat->nX:=As fun k n h0 p1 c2 c3 i4 x21 J=>lp k 85 10 (cB (cR (cL (cR (cR (cR (Br Tryz.f85))))))) n (GU 0 48 [(2,.pointer (some ⟨h0,0,none⟩)),(5,.func (.func 166) #[] #[.pointer (some ⟨h0,0,none⟩)]),(19,.slice p1 c2 c3),(20,.int .i64 i4),(21,.int .i64 x21)]) J
def Gg:Nat->Nh:=As fun k x0 J=>fn P X H k 90 [.pointer x0] J
def DB:Nat->UH:=As fun k n p0 p1 c2 c3 x3 x5 J=>lp k 90 8 (cB (cR (cL (cR (cR (cR (Br Tryz.f90))))))) n (GU 0 29 [(0,.pointer p0),(3,.slice x3.1 x3.2.1 x3.2.2),(4,.slice p1 c2 c3),(5,.int .i64 x5)]) J
def Hq:Nat->tY:=As fun k x0 J=>fn P X H k 92 [.int .i64 x0] J
def HT:Nat->vk:=As fun k n i0 h1 x5 J=>lp k 92 10 (cB (cR (cL (cR (cR (cR (Br Tryz.f92))))))) n (GU 0 31 [(0,.int .i64 i0),(4,.pointer (some ⟨h1,0,none⟩)),(5,.int .i64 x5)]) J
def BV:Nat->Nh:=As fun k x0 J=>fn P X H k 93 [.pointer x0] J
def G5:Nat->xh:=As fun k x0 J=>fn P X H k 94 [.slice x0.1 x0.2.1 x0.2.2] J
def Fy:Nat->Nh:=As fun k x0 J=>fn P X H k 95 [.pointer x0] J
def EO:Nat->Nh:=As fun k x0 J=>fn P X H k 96 [.pointer x0] J
def Hv:Nat->Ky:=As fun k x0 x1_0 x1_1 x1_2 J=>fn P X H k 97 [.pointer x0,.agg #[.int .i64 x1_0,.int .i64 x1_1,.int .i64 x1_2]] J
def Ej:Nat->LZ:=As fun k x0 x1_0 x1_1 x1_2 x2 J=>fn P X H k 98 [.pointer x0,.agg #[.int .i64 x1_0,.int .i64 x1_1,.int .i64 x1_2],.int .i64 x2] J
def KF:Nat->tY:=As fun k x0 J=>fn P X H k 99 [.int .i64 x0] J
def Gx:Nat->LZ:=As fun k x0 x1_0 x1_1 x1_2 x2 J=>fn P X H k 100 [.pointer x0,.agg #[.int .i64 x1_0,.int .i64 x1_1,.int .i64 x1_2],.int .i64 x2] J
def Bk:Nat->Gl:=As fun k x0 x1 J=>fn P X H k 101 [.pointer x0,.int .i64 x1] J
def Fe:Nat->Gl:=As fun k x0 x1 J=>fn P X H k 102 [.pointer x0,.int .i64 x1] J
def EI:Nat->Gl:=As fun k x0 x1 J=>fn P X H k 103 [.pointer x0,.int .i64 x1] J
def FI:Nat->Gl:=As fun k x0 x1 J=>fn P X H k 104 [.pointer x0,.int .i64 x1] J
def GO:Nat->Ky:=As fun k x0 x1 x2 x3 J=>fn P X H k 105 [.pointer x0,.int .i64 x1,.int .i64 x2,.int .i64 x3] J
def Hl:Nat->ME:=As fun k x0 x1 x2 J=>fn P X H k 106 [.pointer x0,.int .i64 x1,.int .i64 x2] J
def FH:Nat->Gl:=As fun k x0 x1 J=>fn P X H k 107 [.pointer x0,.int .i64 x1] J
def Ha:Nat->Gl:=As fun k x0 x1 J=>fn P X H k 108 [.pointer x0,.int .i64 x1] J
def LO:Nat->uc:=As fun k x0 x1 x2 x3 J=>fn P X H k 109 [.pointer x0,.pointer x1,.bool x2,.int .i64 x3] J
def AE:Nat->Nh:=As fun k x0 J=>fn P X H k 129 [.pointer x0] J
def En:Nat->Nh:=As fun k x0 J=>fn P X H k 130 [.pointer x0] J
def EU:Nat->Rc:=As fun k n p0 p1 c2 c3 i4 x10 J=>lp k 130 2 (cB (cR (Br Tryz.f130))) n (GU 0 18 [(0,.pointer p0),(8,.slice p1 c2 c3),(9,.int .i64 i4),(10,.int .i64 x10)]) J
def DJ:Nat->Nh:=As fun k x0 J=>fn P X H k 131 [.pointer x0] J
def FT:Nat->Rc:=As fun k n p0 p1 c2 c3 i4 x50 J=>lp k 131 16 (cB (cR (cL (cT (cR (cR (cR (cT (cR (cE (cR (cB (Br Tryz.f131))))))))))))) n (GU 0 61 [(0,.pointer p0),(48,.slice p1 c2 c3),(49,.int .i64 i4),(50,.int .i64 x50)]) J
def Bw:Nat->xh:=As fun k x0 J=>fn P X H k 132 [.slice x0.1 x0.2.1 x0.2.2] J
def AQ:Nat->Gl:=As fun k x0 x1 J=>fn P X H k 133 [.pointer x0,.int .i64 x1] J
def Dp:Nat->Gl:=As fun k x0 x1 J=>fn P X H k 134 [.pointer x0,.int .i64 x1] J
def Bu:Nat->Gl:=As fun k x0 x1 J=>fn P X H k 135 [.pointer x0,.int .i64 x1] J
def G2:Nat->tY:=As fun k x0 J=>fn P X H k 136 [.int .i64 x0] J
def Dx:Nat->ua:=As fun k x0 x1 x2 x3 J=>fn P X H k 137 [.pointer x0,.int .i64 x1,.int .i64 x2,.bool x3] J
def Iy:Nat->tZ:=As fun k x0 x1 J=>fn P X H k 138 [.int .i64 x0,.int .i64 x1] J
def HY:Nat->LZ:=As fun k x0 x1_0 x1_1 x1_2 x2 J=>fn P X H k 139 [.pointer x0,.agg #[.int .i64 x1_0,.int .i64 x1_1,.int .i64 x1_2],.int .i64 x2] J
def HZ:Nat->ME:=As fun k x0 x1 x2 J=>fn P X H k 140 [.pointer x0,.int .i64 x1,.int .i64 x2] J
def Dg:Nat->Nh:=As fun k x0 J=>fn P X H k 141 [.pointer x0] J
def CC:Nat->Ky:=As fun k x0 x1 x2 x3 J=>fn P X H k 142 [.pointer x0,.int .i64 x1,.int .i64 x2,.int .i64 x3] J
def Df:Nat->Ky:=As fun k x0 x1 x2 x3 J=>fn P X H k 143 [.pointer x0,.int .i64 x1,.int .i64 x2,.int .i64 x3] J
def Hy:Nat->Gl:=As fun k x0 x1 J=>fn P X H k 144 [.pointer x0,.int .i64 x1] J
def De:Nat->vu:=As fun k x0 x1 x2 J=>fn P X H k 145 [.pointer x0,.slice x1.1 x1.2.1 x1.2.2,.int .i64 x2] J
def HU:Nat->oA:=As fun k x0_0 x0_1 x0_2 x1 J=>fn P X H k 146 [.agg #[.int .i64 x0_0,.int .i64 x0_1,.int .i64 x0_2],.int .i64 x1] J
def Ff:Nat->Ky:=As fun k x0 x1_0 x1_1 x1_2 J=>fn P X H k 147 [.pointer x0,.agg #[.int .i64 x1_0,.int .i64 x1_1,.int .i64 x1_2]] J
def AV:Nat->Nh:=As fun k x0 J=>fn P X H k 148 [.pointer x0] J
def HX:Nat->Ky:=As fun k x0 x1_0 x1_1 x1_2 J=>fn P X H k 149 [.pointer x0,.agg #[.int .i64 x1_0,.int .i64 x1_1,.int .i64 x1_2]] J
def Bo:Nat->Nh:=As fun k x0 J=>fn P X H k 150 [.pointer x0] J
def AL:Nat->Nh:=As fun k x0 J=>fn P X H k 151 [.pointer x0] J
def Hn:Nat->tZ:=As fun k x0 x1 J=>fn P X H k 157 [.int .i64 x0,.int .i64 x1] J
def G4:Nat->Gl:=As fun k x0 x1 J=>fn P X H k 158 [.pointer x0,.int .i64 x1] J
def Em:Nat->Gl:=As fun k x0 x1 J=>fn P X H k 159 [.pointer x0,.int .i64 x1] J
def Dz:Nat->ME:=As fun k x0 x1 x2 J=>fn P X H k 160 [.pointer x0,.int .i64 x1,.int .i64 x2] J
def ES:Nat->Tw:=As fun k n p0 i1 x8 J=>lp k 160 8 (cB (cR (cL (cR (cR (Br Tryz.f160)))))) n (GU 0 28 [(0,.pointer p0),(2,.int .i64 i1),(8,.int .i64 x8)]) J
def GC:Nat->vo:=As fun k x0 c0 J=>fn P X H k 166 [.int .i64 x0,.pointer c0] J
def Cy:Nat->rQ:=As fun k x0 x1 J=>fn P X H k 167 [.slice x0.1 x0.2.1 x0.2.2,x1] J
def CJ:Nat->Nh:=As fun k x0 J=>fn P X H k 168 [.pointer x0] J
def BQ:Nat->Gl:=As fun k x0 x1 J=>fn P X H k 174 [.pointer x0,.int .i64 x1] J
def G1:Nat->Yl:=As fun k x0_0 x0_1 x0_2 J=>fn P X H k 176 [.agg #[.int .i64 x0_0,.int .i64 x0_1,.int .i64 x0_2]] J
def Fs:Nat->Gl:=As fun k x0 x1 J=>fn P X H k 177 [.pointer x0,.int .i64 x1] J
def DM:Nat->Tw:=As fun k n p0 i1 x6 J=>lp k 177 14 (cB (cR (cL (cR (cR (cR (Br Tryz.f177))))))) n (GU 0 35 [(0,.pointer p0),(1,.int .i64 i1),(6,.int .i64 x6)]) J
def Dn:Nat->Gl:=As fun k x0 x1 J=>fn P X H k 178 [.pointer x0,.int .i64 x1] J
def Gy:Nat->Nh:=As fun k x0 J=>fn P X H k 179 [.pointer x0] J
def DP:Nat->vj:=As fun k n i0 x3 x5 J=>lp k 179 16 (cB (cR (cB (cL (cR (cB (cB (cR (cL (cR (cR (cR (Br Tryz.f179))))))))))))) n (GU 0 55 [(3,.slice x3.1 x3.2.1 x3.2.2),(4,.int .i64 i0),(5,.int .i64 x5)]) J
def DO:Nat->tj:=As fun k n p0 x3 x4 J=>lp k 179 10 (cB (cR (cL (cR (cR (cR (Br Tryz.f179))))))) n (GU 0 55 [(0,.pointer p0),(3,.slice x3.1 x3.2.1 x3.2.2),(4,.int .i64 x4)]) J
def DQ:Nat->wz:=As fun k n x3 x6 J=>lp k 179 24 (cB (cR (cL (cR (cR (cR (cR (Br Tryz.f179)))))))) n (GU 0 55 [(3,.slice x3.1 x3.2.1 x3.2.2),(6,.int .i64 x6)]) J
def DR:Nat->tj:=As fun k n p0 x3 x7 J=>lp k 179 32 (cB (cR (cL (cR (cR (cR (cR (cR (Br Tryz.f179))))))))) n (GU 0 55 [(0,.pointer p0),(3,.slice x3.1 x3.2.1 x3.2.2),(7,.int .i64 x7)]) J
def Hr:Nat->Ky:=As fun k x0 x1_0 x1_1 x1_2 J=>fn P X H k 180 [.pointer x0,.agg #[.int .i64 x1_0,.int .i64 x1_1,.int .i64 x1_2]] J
def Gq:Nat->Nh:=As fun k x0 J=>fn P X H k 181 [.pointer x0] J
def Hs:Nat->LZ:=As fun k x0 x1_0 x1_1 x1_2 x2 J=>fn P X H k 182 [.pointer x0,.agg #[.int .i64 x1_0,.int .i64 x1_1,.int .i64 x1_2],.int .i64 x2] J
def IZ:Nat->LZ:=As fun k x0 x1_0 x1_1 x1_2 x2 J=>fn P X H k 183 [.pointer x0,.agg #[.int .i64 x1_0,.int .i64 x1_1,.int .i64 x1_2],.int .i64 x2] J
def Et:Nat->Yl:=As fun k x0_0 x0_1 x0_2 J=>fn P X H k 184 [.agg #[.int .i64 x0_0,.int .i64 x0_1,.int .i64 x0_2]] J
def BU:Nat->Ky:=As fun k x0 x1 x2 x3 J=>fn P X H k 185 [.pointer x0,.int .i64 x1,.int .i64 x2,.int .i64 x3] J
def Ey:Nat->Yl:=As fun k x0_0 x0_1 x0_2 J=>fn P X H k 186 [.agg #[.int .i64 x0_0,.int .i64 x0_1,.int .i64 x0_2]] J
def Dw:Nat->ME:=As fun k x0 x1 x2 J=>fn P X H k 187 [.pointer x0,.int .i64 x1,.int .i64 x2] J
def E8:Nat->LZ:=As fun k x0 x1 x2_0 x2_1 x2_2 J=>fn P X H k 188 [.pointer x0,.int .i64 x1,.agg #[.int .i64 x2_0,.int .i64 x2_1,.int .i64 x2_2]] J
def Fa:Nat->LZ:=As fun k x0 x1 x2_0 x2_1 x2_2 J=>fn P X H k 189 [.pointer x0,.int .i64 x1,.agg #[.int .i64 x2_0,.int .i64 x2_1,.int .i64 x2_2]] J
def MH:Nat->Nh:=As fun k x0 J=>fn P X H k 190 [.pointer x0] J
def BM:Nat->Gl:=As fun k x0 x1 J=>fn P X H k 191 [.pointer x0,.int .i64 x1] J
def HR:Nat->Gl:=As fun k x0 x1 J=>fn P X H k 192 [.pointer x0,.int .i64 x1] J
def Bv:Nat->ME:=As fun k x0 x1 x2 J=>fn P X H k 193 [.pointer x0,.int .i64 x1,.int .i64 x2] J
def HO:Nat->ME:=As fun k x0 x1 x2 J=>fn P X H k 194 [.pointer x0,.int .i64 x1,.int .i64 x2] J
def Fw:Nat->Ky:=As fun k x0 x1 x2 x3 J=>fn P X H k 195 [.pointer x0,.int .i64 x1,.int .i64 x2,.int .i64 x3] J
def Ec:Nat->Nh:=As fun k x0 J=>fn P X H k 196 [.pointer x0] J
def FK:Nat->Gl:=As fun k x0 x1 J=>fn P X H k 197 [.pointer x0,.int .i64 x1] J
def FN:Nat->Gl:=As fun k x0 x1 J=>fn P X H k 198 [.pointer x0,.int .i64 x1] J
def HS:Nat->tn:=As fun k x0 x1 x2 J=>fn P X H k 199 [.pointer x0,.int .i64 x1,.bool x2] J
def IG:Nat->ME:=As fun k x0 x1 x2 J=>fn P X H k 200 [.pointer x0,.int .i64 x1,.int .i64 x2] J
def Ct:Nat->Nh:=As fun k x0 J=>fn P X H k 201 [.pointer x0] J
def EM:Nat->Gl:=As fun k x0 x1 J=>fn P X H k 203 [.pointer x0,.int .i64 x1] J
def H5:Nat->Yl:=As fun k x0_0 x0_1 x0_2 J=>fn P X H k 204 [.agg #[.int .i64 x0_0,.int .i64 x0_1,.int .i64 x0_2]] J
def BG:Nat->Gl:=As fun k x0 x1 J=>fn P X H k 215 [.pointer x0,.int .i64 x1] J
def Ic:Nat->Nh:=As fun k x0 J=>fn P X H k 216 [.pointer x0] J
def Ee:Nat->Rc:=As fun k n p0 p1 c2 c3 i4 x33 J=>lp k 216 8 (cB (cR (cL (cR (cR (cT (cR (cL (Br Tryz.f216))))))))) n (GU 0 80 [(0,.pointer p0),(31,.slice p1 c2 c3),(32,.int .i64 i4),(33,.int .i64 x33)]) J
def HQ:Nat->Gl:=As fun k x0 x1 J=>fn P X H k 217 [.pointer x0,.int .i64 x1] J
def Fc:Nat->kR:=As fun k n h0 p1 c2 c3 i4 x7 x20 J=>lp k 217 8 (cB (cR (cL (cR (cR (cR (Br Tryz.f217))))))) n (GU 0 40 [(5,.pointer (some ⟨h0,0,none⟩)),(7,.slice x7.1 x7.2.1 x7.2.2),(18,.slice p1 c2 c3),(19,.int .i64 i4),(20,.int .i64 x20)]) J
def C0:Nat->ME:=As fun k x0 x1 x2 J=>fn P X H k 218 [.pointer x0,.int .i64 x1,.int .i64 x2] J
def Hj:Nat->Nh:=As fun k x0 J=>fn P X H k 219 [.pointer x0] J
def FQ:Nat->Rc:=As fun k n p0 p1 c2 c3 i4 x26 J=>lp k 219 10 (cB (cR (cL (cR (cR (cR (Br Tryz.f219))))))) n (GU 0 76 [(0,.pointer p0),(24,.slice p1 c2 c3),(25,.int .i64 i4),(26,.int .i64 x26)]) J
def FR:Nat->Tw:=As fun k n p0 i1 x47 J=>lp k 219 22 (cB (cR (cL (cR (cR (cR (cR (Br Tryz.f219)))))))) n (GU 0 76 [(0,.pointer p0),(46,.int .i64 i1),(47,.int .i64 x47)]) J
def EC:Nat->Gl:=As fun k x0 x1 J=>fn P X H k 220 [.pointer x0,.int .i64 x1] J
def DU:Nat->Gl:=As fun k x0 x1 J=>fn P X H k 221 [.pointer x0,.int .i64 x1] J
def Co:Nat->lB:=As fun k x0 x1 J=>fn P X H k 222 [.slice x0.1 x0.2.1 x0.2.2,.int .i64 x1] J
def Ex:Nat->Yl:=As fun k x0_0 x0_1 x0_2 J=>fn P X H k 223 [.agg #[.int .i64 x0_0,.int .i64 x0_1,.int .i64 x0_2]] J
def K8:Nat->ME:=As fun k x0 x1 x2 J=>fn P X H k 224 [.pointer x0,.int .i64 x1,.int .i64 x2] J
def CL:Nat->Ky:=As fun k x0 x1_0 x1_1 x1_2 J=>fn P X H k 225 [.pointer x0,.agg #[.int .i64 x1_0,.int .i64 x1_1,.int .i64 x1_2]] J
def Cu:Nat->Gl:=As fun k x0 x1 J=>fn P X H k 226 [.pointer x0,.int .i64 x1] J
def KI:Nat->lB:=As fun k x0 x1 J=>fn P X H k 227 [.slice x0.1 x0.2.1 x0.2.2,.int .i64 x1] J
def HW:Nat->jC:=As fun k n p0 c1 c2 i3 x5 J=>lp k 227 4 (cB (cL (cR (cR (Br Tryz.f227))))) n (GU 0 45 [(0,.slice p0 c1 c2),(1,.int .i64 i3),(5,.int .i64 x5)]) J
def Ed:Nat->wD:=As fun k x0 c0 J=>fn P X H k 228 [.slice x0.1 x0.2.1 x0.2.2,.pointer c0] J
def BB:Nat->Nh:=As fun k x0 J=>fn P X H k 231 [.pointer x0] J
def G6:Nat->rQ:=As fun k x0 x1 J=>fn P X H k 237 [.slice x0.1 x0.2.1 x0.2.2,x1] J
def CX:Nat->dB:=As fun k n p0 c1 c2 v3 i4 x8 J=>lp k 237 4 (cB (cR (cL (cR (Br Tryz.f237))))) n (GU 0 19 [(0,.slice p0 c1 c2),(1,v3),(7,.int .i64 i4),(8,.int .i64 x8)]) J
def DG:Nat->Nh:=As fun k x0 J=>fn P X H k 239 [.pointer x0] J
def HN:Nat->tn:=As fun k x0 x1 x2 J=>fn P X H k 242 [.pointer x0,.int .i64 x1,.bool x2] J
def FF:Nat->Gl:=As fun k x0 x1 J=>fn P X H k 243 [.pointer x0,.int .i64 x1] J
def Ft:Nat->Tw:=As fun k n p0 i1 x5 J=>lp k 243 4 (cB (cL (cR (cR (Br Tryz.f243))))) n (GU 0 42 [(0,.pointer p0),(1,.int .i64 i1),(5,.int .i64 x5)]) J
def Hw:Nat->wE:=As fun k x0 c0 J=>fn P X H k 244 [x0,.pointer c0] J
def CP:Nat->kW:=As fun k n v0 i1 p2 c3 c4 i5 x28 J=>lp k 244 8 (cB (cR (cR (cB (cL (cR (cR (cB (cB (cR (Br Tryz.f244))))))))))) n (GU 0 58 [(0,v0),(3,.int .i64 i1),(4,.slice p2 c3 c4),(27,.int .i64 i5),(28,.int .i64 x28)]) J
def CO:Nat->tT:=As fun k n v0 h1 i2 x21 J=>lp k 244 2 (cB (cR (Br Tryz.f244))) n (GU 0 58 [(0,v0),(19,.slice (some ⟨h1,0,none⟩) 3 3),(20,.int .i64 i2),(21,.int .i64 x21)]) J
def Ht:Nat->Gl:=As fun k x0 x1 J=>fn P X H k 245 [.pointer x0,.int .i64 x1] J
def Hi:Nat->nY:=As fun k n p0 i1 i2 x6 J=>lp k 245 10 (cB (cL (cR (cB (cL (cR (cB (cB (cR (cL (cR (Br Tryz.f245)))))))))))) n (GU 0 32 [(0,.pointer p0),(1,.int .i64 i1),(5,.int .i64 i2),(6,.int .i64 x6)]) J
def Hh:Nat->Tw:=As fun k n p0 i1 x5 J=>lp k 245 4 (cB (cR (cL (cR (Br Tryz.f245))))) n (GU 0 32 [(0,.pointer p0),(1,.int .i64 i1),(5,.int .i64 x5)]) J
def D9:Nat->Ky:=As fun k x0 x1 x2 x3 J=>fn P X H k 246 [.pointer x0,.int .i64 x1,.int .i64 x2,.int .i64 x3] J
def Ce:Nat->nY:=As fun k n p0 i1 i2 x9 J=>lp k 246 12 (cB (cR (cL (cR (cR (cR (Br Tryz.f246))))))) n (GU 0 78 [(0,.pointer p0),(1,.int .i64 i1),(2,.int .i64 i2),(9,.int .i64 x9)]) J
def Cf:Nat->bQ:=As fun k n p0 i1 i2 i3 x10 J=>lp k 246 22 (cB (cR (cL (cR (cR (cR (cR (Br Tryz.f246)))))))) n (GU 0 78 [(0,.pointer p0),(1,.int .i64 i1),(2,.int .i64 i2),(3,.int .i64 i3),(10,.int .i64 x10)]) J
def Mo:Nat->LZ:=As fun k x0 x1_0 x1_1 x1_2 x2 J=>fn P X H k 247 [.pointer x0,.agg #[.int .i64 x1_0,.int .i64 x1_1,.int .i64 x1_2],.int .i64 x2] J
def HV:Nat->rz:=As fun k n h0 p1 c2 c3 x10 J=>lp k 247 14 (cB (cR (cR (cR (cB (cL (cR (cB (cB (cR (cL (cR (Br Tryz.f247))))))))))))) n (GU 0 50 [(4,.pointer (some ⟨h0,0,none⟩)),(9,.slice p1 c2 c3),(10,.int .i64 x10)]) J
def Gh:Nat->tR:=As fun k n p0 i1 h2 x8 J=>lp k 247 4 (cB (cR (cL (cR (Br Tryz.f247))))) n (GU 0 50 [(0,.pointer p0),(2,.int .i64 i1),(4,.pointer (some ⟨h2,0,none⟩)),(8,.int .i64 x8)]) J
def FG:Nat->ME:=As fun k x0 x1 x2 J=>fn P X H k 248 [.pointer x0,.int .i64 x1,.int .i64 x2] J
def BW:Nat->Yl:=As fun k x0_0 x0_1 x0_2 J=>fn P X H k 249 [.agg #[.int .i64 x0_0,.int .i64 x0_1,.int .i64 x0_2]] J
def Fb:Nat->lG:=As fun k x0 x1 x2 x3_0 x3_1 x4_0 x4_1 J=>fn P X H k 250 [.pointer x0,.int .i64 x1,.int .i64 x2,.agg #[.int .i64 x3_0,.int .i64 x3_1],.agg #[.int .i64 x4_0,.int .i64 x4_1]] J
def EJ:Nat->rD:=As fun k n p0 i1 h2 i3 x54 J=>lp k 250 16 (cB (cR (cL (cR (cR (Br Tryz.f250)))))) n (GU 0 74 [(0,.pointer p0),(1,.int .i64 i1),(9,.pointer (some ⟨h2,0,none⟩)),(53,.int .i64 i3),(54,.int .i64 x54)]) J
def Hp:Nat->oB:=As fun k x0 x1 x2_0 x2_1 x2_2 x3 J=>fn P X H k 251 [.pointer x0,.int .i64 x1,.agg #[.int .i64 x2_0,.int .i64 x2_1,.int .i64 x2_2],.int .i64 x3] J
def CW:Nat->rB:=As fun k n p0 i1 i2 h3 x10 J=>lp k 251 20 (cB (cR (cL (cR (cR (cR (cR (Br Tryz.f251)))))))) n (GU 0 113 [(0,.pointer p0),(1,.int .i64 i1),(3,.int .i64 i2),(6,.pointer (some ⟨h3,0,none⟩)),(10,.int .i64 x10)]) J
def GH:Nat->dI:=As fun k x0 x1_0 x1_1 x1_2 x1_3 x1_4 x1_5 x1_6 x1_7 J=>fn P X H k 252 [.pointer x0,.agg #[.int .i64 x1_0,.int .i64 x1_1,.int .i64 x1_2,.int .i64 x1_3,.int .i64 x1_4,.slice x1_5.1 x1_5.2.1 x1_5.2.2,.slice x1_6.1 x1_6.2.1 x1_6.2.2,.bool x1_7]] J
def Eb:Nat->dA:=As fun k n p0 h1 x4 J=>lp k 252 4 (cB (cL (cR (cR (Br Tryz.f252))))) n (GU 0 51 [(0,.pointer p0),(3,.pointer (some ⟨h1,0,none⟩)),(4,.int .i64 x4)]) J
def HL:Nat->Ky:=As fun k x0 x1 x2 x3 J=>fn P X H k 253 [.pointer x0,.int .i64 x1,.int .i64 x2,.int .i64 x3] J
def Ea:Nat->bQ:=As fun k n p0 i1 i2 i3 x10 J=>lp k 253 20 (cB (cR (cL (cR (cR (cR (cR (Br Tryz.f253)))))))) n (GU 0 96 [(0,.pointer p0),(1,.int .i64 i1),(2,.int .i64 i2),(3,.int .i64 i3),(10,.int .i64 x10)]) J
def JX:Nat->Yl:=As fun k x0_0 x0_1 x0_2 J=>fn P X H k 254 [.agg #[.int .i64 x0_0,.int .i64 x0_1,.int .i64 x0_2]] J
def EB:Nat->vq:=As fun k x0 x1 x2 J=>fn P X H k 255 [.pointer x0,.int .i64 x1,.slice x2.1 x2.2.1 x2.2.2] J
def FO:Nat->ME:=As fun k x0 x1 x2 J=>fn P X H k 256 [.pointer x0,.int .i64 x1,.int .i64 x2] J
def Fh:Nat->Ky:=As fun k x0 x1 x2 x3 J=>fn P X H k 263 [.pointer x0,.int .i64 x1,.int .i64 x2,.int .i64 x3] J
def EP:Nat->bQ:=As fun k n p0 i1 i2 i3 x32 J=>lp k 263 14 (cB (cR (cL (cR (cR (cR (Br Tryz.f263))))))) n (GU 0 42 [(0,.pointer p0),(1,.int .i64 i1),(3,.int .i64 i2),(31,.int .i64 i3),(32,.int .i64 x32)]) J
def J8:Nat->Gl:=As fun k x0 x1 J=>fn P X H k 264 [.pointer x0,.int .i64 x1] J
def Hg:Nat->rA:=As fun k n p0 i1 i2 x7 x22 J=>lp k 264 8 (cB (cR (cL (cR (cR (cR (Br Tryz.f264))))))) n (GU 0 38 [(0,.pointer p0),(1,.int .i64 i1),(7,.slice x7.1 x7.2.1 x7.2.2),(21,.int .i64 i2),(22,.int .i64 x22)]) J
def FC:Nat->Nh:=As fun k x0 J=>fn P X H k 265 [.pointer x0] J
def BZ:Nat->kU:=As fun k n p0 p1 c2 c3 i4 x2 x17 J=>lp k 265 4 (cB (cR (cL (cR (Br Tryz.f265))))) n (GU 0 70 [(0,.pointer p0),(2,.slice x2.1 x2.2.1 x2.2.2),(15,.slice p1 c2 c3),(16,.int .i64 i4),(17,.int .i64 x17)]) J
def Dq:Nat->Rc:=As fun k n p0 p1 c2 c3 i4 x62 J=>lp k 265 22 (cB (cR (cR (cR (Br Tryz.f265))))) n (GU 0 70 [(0,.pointer p0),(60,.slice p1 c2 c3),(61,.int .i64 i4),(62,.int .i64 x62)]) J
def C5:Nat->Gl:=As fun k x0 x1 J=>fn P X H k 266 [.pointer x0,.int .i64 x1] J
def IX:Nat->tp:=As fun k x0 x1 x2 J=>fn P X H k 267 [.pointer x0,.int .i64 x1,x2] J
def D0:Nat->Nh:=As fun k x0 J=>fn P X H k 268 [.pointer x0] J
def Iz:Nat->lB:=As fun k x0 x1 J=>fn P X H k 269 [.slice x0.1 x0.2.1 x0.2.2,.int .i64 x1] J
def Es:Nat->oe:=As fun k n p0 c1 c2 i3 i4 x8 J=>lp k 269 4 (cB (cR (cL (cR (Br Tryz.f269))))) n (GU 0 19 [(0,.slice p0 c1 c2),(1,.int .i64 i3),(7,.int .i64 i4),(8,.int .i64 x8)]) J
def EH:Nat->T_:=As fun k  J=>fn P X H k 270 [] J
def EZ:Nat->Nh:=As fun k x0 J=>fn P X H k 271 [.pointer x0] J
def EG:Nat->Gl:=As fun k x0 x1 J=>fn P X H k 272 [.pointer x0,.int .i64 x1] J
def CN:Nat->Tw:=As fun k n p0 i1 x7 J=>lp k 272 6 (cB (cR (cL (cR (cR (Br Tryz.f272)))))) n (GU 0 37 [(0,.pointer p0),(6,.int .i64 i1),(7,.int .i64 x7)]) J
def Dy:Nat->Gl:=As fun k x0 x1 J=>fn P X H k 277 [.pointer x0,.int .i64 x1] J
def Cg:Nat->Gl:=As fun k x0 x1 J=>fn P X H k 278 [.pointer x0,.int .i64 x1] J
def EA:Nat->Gl:=As fun k x0 x1 J=>fn P X H k 279 [.pointer x0,.int .i64 x1] J
def H6:Nat->tY:=As fun k x0 J=>fn P X H k 280 [.int .i64 x0] J
def E9:Nat->Gl:=As fun k x0 x1 J=>fn P X H k 281 [.pointer x0,.int .i64 x1] J
def Ho:Nat->Gl:=As fun k x0 x1 J=>fn P X H k 282 [.pointer x0,.int .i64 x1] J
def CV:Nat->kV:=As fun k n p0 p1 c2 c3 x5 x6 x8 J=>lp k 282 14 (cB (cR (cL (cR (cR (cR (cR (cR (Br Tryz.f282))))))))) n (GU 0 77 [(0,.pointer p0),(5,.slice x5.1 x5.2.1 x5.2.2),(6,.int .i64 x6),(7,.slice p1 c2 c3),(8,.int .i64 x8)]) J
def Li:Nat->tY:=As fun k x0 J=>fn P X H k 283 [.int .i64 x0] J
def D2:Nat->rQ:=As fun k x0 x1 J=>fn P X H k 284 [.slice x0.1 x0.2.1 x0.2.2,x1] J
def Ge:Nat->tZ:=As fun k x0_0 x0_1 J=>fn P X H k 285 [.agg #[.int .i64 x0_0,.int .i64 x0_1]] J
def FJ:Nat->Gl:=As fun k x0 x1 J=>fn P X H k 286 [.pointer x0,.int .i64 x1] J
def Du:Nat->Tw:=As fun k n p0 i1 x5 J=>lp k 286 12 (cB (cL (cR (cR (cR (cR (Br Tryz.f286))))))) n (GU 0 49 [(0,.pointer p0),(1,.int .i64 i1),(5,.int .i64 x5)]) J
def HK:Nat->Gl:=As fun k x0 x1 J=>fn P X H k 287 [.pointer x0,.int .i64 x1] J
def FB:Nat->vo:=As fun k x0 c0 J=>fn P X H k 288 [.int .i64 x0,.pointer c0] J
def GQ:Nat->Gl:=As fun k x0 x1 J=>fn P X H k 289 [.pointer x0,.int .i64 x1] J
def Gf:Nat->Gl:=As fun k x0 x1 J=>fn P X H k 292 [.pointer x0,.int .i64 x1] J
def DA:Nat->nZ:=As fun k n p0 i1 x5 x6 J=>lp k 292 6 (cB (cR (cL (cR (cR (Br Tryz.f292)))))) n (GU 0 43 [(0,.pointer p0),(1,.int .i64 i1),(5,.slice x5.1 x5.2.1 x5.2.2),(6,.int .i64 x6)]) J
def IH:Nat->tp:=As fun k x0 x1 x2 J=>fn P X H k 296 [.pointer x0,.int .i64 x1,x2] J
def DF:Nat->oa:=As fun k n p0 i1 h2 i3 x11 x44 J=>lp k 296 18 (cB (cR (cL (cR (cR (cR (cR (cR (Br Tryz.f296))))))))) n (GU 0 70 [(0,.pointer p0),(1,.int .i64 i1),(7,.pointer (some ⟨h2,0,none⟩)),(11,.int .i64 x11),(43,.int .i64 i3),(44,.int .i64 x44)]) J
def Ek:Nat->rQ:=As fun k x0 x1 J=>fn P X H k 297 [.slice x0.1 x0.2.1 x0.2.2,x1] J
def BE:Nat->dB:=As fun k n p0 c1 c2 v3 i4 x8 J=>lp k 297 4 (cB (cR (cL (cR (Br Tryz.f297))))) n (GU 0 19 [(0,.slice p0 c1 c2),(1,v3),(7,.int .i64 i4),(8,.int .i64 x8)]) J
def Hx:Nat->ME:=As fun k x0 x1 x2 J=>fn P X H k 298 [.pointer x0,.int .i64 x1,.int .i64 x2] J
def ER:Nat->Tw:=As fun k n p0 i1 x8 J=>lp k 298 8 (cB (cR (cL (cR (cR (Br Tryz.f298)))))) n (GU 0 30 [(0,.pointer p0),(2,.int .i64 i1),(8,.int .i64 x8)]) J
def Gw:Nat->Gl:=As fun k x1 x2 J=>fn P X H k 317 [.agg #[],.pointer x1,.int .i64 x2] J
def D8:Nat->vr:=As fun k x0 x1 J=>fn P X H k 318 [.pointer x0,.slice x1.1 x1.2.1 x1.2.2] J
def DL:Nat->ME:=As fun k x0 x1 x2 J=>fn P X H k 319 [.pointer x0,.int .i64 x1,.int .i64 x2] J
def Cx:Nat->gO:=As fun k n i0 i1 p2 c3 c4 i5 x7 x27 J=>lp k 319 12 (cB (cR (cR (cB (cL (cR (cR (cB (cB (cR (cL (cR (cR (Br Tryz.f319)))))))))))))) n (GU 0 55 [(1,.int .i64 i0),(2,.int .i64 i1),(7,.slice x7.1 x7.2.1 x7.2.2),(25,.slice p2 c3 c4),(26,.int .i64 i5),(27,.int .i64 x27)]) J
def Cw:Nat->dz:=As fun k n p0 i1 i2 p3 c4 c5 i6 x7 x16 J=>lp k 319 6 (cB (cR (cL (cR (cR (Br Tryz.f319)))))) n (GU 0 55 [(0,.pointer p0),(1,.int .i64 i1),(2,.int .i64 i2),(7,.slice x7.1 x7.2.1 x7.2.2),(14,.slice p3 c4 c5),(15,.int .i64 i6),(16,.int .i64 x16)]) J
def EF:Nat->Nh:=As fun k x0 J=>fn P X H k 320 [.pointer x0] J
def CM:Nat->dA:=As fun k n p0 h1 x4 J=>lp k 320 4 (cB (cR (cL (cR (Br Tryz.f320))))) n (GU 0 32 [(0,.pointer p0),(2,.pointer (some ⟨h1,0,none⟩)),(4,.int .i64 x4)]) J
def Dm:Nat->Nh:=As fun k x0 J=>fn P X H k 321 [.pointer x0] J
def BS:Nat->nZ:=As fun k n p0 i1 x3 x10 J=>lp k 321 6 (cB (cR (cL (cR (cR (Br Tryz.f321)))))) n (GU 0 39 [(0,.pointer p0),(3,.slice x3.1 x3.2.1 x3.2.2),(9,.int .i64 i1),(10,.int .i64 x10)]) J
def GG:Nat->Gl:=As fun k x0 x1 J=>fn P X H k 322 [.pointer x0,.int .i64 x1] J
def DY:Nat->gP:=As fun k n p0 h1 h2 p3 c4 c5 i6 x21 J=>lp k 322 14 (cB (cR (cL (cR (cR (cR (cR (cR (Br Tryz.f322))))))))) n (GU 0 40 [(0,.pointer p0),(6,.pointer (some ⟨h1,0,none⟩)),(7,.func (.func 324) #[] #[.pointer (some ⟨h1,0,none⟩),.pointer (some ⟨h2,0,none⟩)]),(19,.slice p3 c4 c5),(20,.int .i64 i6),(21,.int .i64 x21)]) J
def EK:Nat->Gl:=As fun k x0 x1 J=>fn P X H k 323 [.pointer x0,.int .i64 x1] J
def Dr:Nat->vp:=As fun k x0 c0 c1 J=>fn P X H k 324 [.int .i64 x0,.pointer c0,.pointer c1] J
def K9:Nat->TV:=As fun k f args J=>Lc P (fn P X H k) f args J
def HJ:Nat->TV:=As fun k f args J=>Lc P (fn P X H k) f args J
def H4:Nat->TV:=As fun k f args J=>Lc P (fn P X H k) f args J
def Gd:Nat->TV:=As fun k f args J=>Lc P (fn P X H k) f args J
def J7:Nat->TV:=As fun k f args J=>Lc P (fn P X H k) f args J
end
section
variable [AA]
end
end
end Go.Proofs.YtjbledomkmdkmaaGreat
