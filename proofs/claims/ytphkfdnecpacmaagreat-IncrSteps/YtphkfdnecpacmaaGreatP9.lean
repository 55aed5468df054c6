/-
 PRINTED BY A PROGRAM OF THIS SESSION'S OWN (gen2.py): the Go functions as Lean functions over the abstract memory.
-/
import Derived.Test.YtphkfdnecpacmaaGreatP7
import Derived.Test.YtphkfdnecpacmaaGreatP8
set_option maxRecDepth 100000
set_option linter.unusedVariables false
set_option linter.unusedSimpArgs false
set_option linter.unusedSectionVars false
namespace Go.Proofs.YtphkfdnecpacmaaGreat
open Go Go.AX
abbrev As:TypeId:=3
abbrev Ag3:TypeId:=4
abbrev DA:TypeId:=27
abbrev GY:TypeId:=28
abbrev HA:TypeId:=31
abbrev FL:TypeId:=32
abbrev HD:TypeId:=33
abbrev MA:TypeId:=35
abbrev LD:TypeId:=43
abbrev FK:TypeId:=45
abbrev GZ:TypeId:=46
abbrev HB:TypeId:=47
abbrev BF:TypeId:=49
abbrev re:TypeId:=54
abbrev AS:TypeId:=76
abbrev Di:TypeId:=82
abbrev Ag:TypeId:=84
abbrev Ac:TypeId:=86
abbrev WC:TypeId:=110
abbrev Am:TypeId:=113
abbrev NY:TypeId:=133
abbrev FP:TypeId:=136
abbrev Gb:TypeId:=175
abbrev D7:TypeId:=3
abbrev tD:TypeId:=141
abbrev Db:TypeId:=158
abbrev qZ:TypeId:=161
abbrev Rj:TypeId:=167
abbrev HK:TypeId:=173
abbrev AW:TypeId:=175
abbrev Rk:TypeId:=180
abbrev Sy:TypeId:=220
abbrev Bt:TypeId:=238
abbrev Pc:TypeId:=221
abbrev Abn:TypeId:=238
abbrev Of:TypeId:=242
abbrev We:TypeId:=244
abbrev mF:TypeId:=247
abbrev pD:TypeId:=253
abbrev BG:TypeId:=256
abbrev pM:TypeId:=266
abbrev qI:TypeId:=267
abbrev qK:TypeId:=268
abbrev qJ:TypeId:=269
abbrev pN:TypeId:=270
abbrev lT:TypeId:=288
def XK (b:Bool):Ext:=fun f=>if f=19 then (bif b then some sA else X f) else X f
class Kn where
 b:Bool
def Lc (i:Nat):Nat→List (Nat × Value)→AZ
 | 0,_=>[]
 | n+1,[]=>none::Lc (i+1) n []
 | n+1,(j,v)::l=>bif Nat.beq i j then some v::Lc (i+1) n l else none::Lc (i+1) n ((j,v)::l)
def H:FuncId→Hints
 | 3=>[(11,⟨[],[(.normal,[]),(.ret,[(8,.bool)])]⟩)]
 | 14=>[(8,⟨[0,1,5],[(.exit 0,[]),(.ret,[(4,.bool)])]⟩)]
 | 17=>[(8,⟨[0,1,5],[(.exit 0,[]),(.ret,[(4,.bool)])]⟩),(18,⟨[0,1,6],[(.exit 2,[]),(.ret,[(4,.bool)])]⟩)]
 | 18=>[(6,⟨[0,3,4],[(.exit 0,[])]⟩),(18,⟨[0,3,6,7],[(.exit 2,[])]⟩),(30,⟨[0,8,9],[(.exit 4,[])]⟩),(42,⟨[0,8,13],[(.exit 6,[])]⟩)]
 | 38=>[(20,⟨[1,9,10],[(.exit 0,[]),(.ret,[(2,.ptr)])]⟩),(30,⟨[1,9,11],[(.exit 2,[]),(.ret,[(2,.ptr)])]⟩),(42,⟨[1,9,13],[(.exit 4,[]),(.ret,[(2,.ptr)])]⟩),(58,⟨[1,9,18],[(.exit 6,[]),(.ret,[(2,.ptr)])]⟩),(68,⟨[1,9,19],[(.exit 8,[]),(.ret,[(2,.ptr)])]⟩)]
 | 45=>[(12,⟨[0,16,17],[(.exit 0,[]),(.ret,[(4,.int .i64),(5,.int .i64)])]⟩)]
 | 67=>[(9,⟨[],[(.normal,[])]⟩),(13,⟨[],[(.normal,[])]⟩),(17,⟨[],[(.normal,[])]⟩),(21,⟨[],[(.normal,[])]⟩)]
 | 75=>[(6,⟨[0,2,7,8,9],[(.exit 0,[(7,.slice)])]⟩)]
 | 76=>[(8,⟨[0,4],[(.exit 0,[(4,.int .i64)])]⟩)]
 | 85=>[(10,⟨[2,5,19,20,21],[(.exit 0,[]),(.ret,[(4,.bool)])]⟩),(18,⟨[2,5,7,32,33],[(.exit 2,[]),(.ret,[(4,.bool)])]⟩)]
 | 94=>[(10,⟨[0,4,5],[(.exit 0,[])]⟩)]
 | 100=>[(13,⟨[],[(.normal,[]),(.ret,[(6,.bool)])]⟩),(17,⟨[],[(.normal,[(10,.int .i64)])]⟩)]
 | 131=>[(2,⟨[0,8,9,10],[(.exit 0,[])]⟩)]
 | 132=>[(5,⟨[],[(.normal,[])]⟩),(9,⟨[],[(.normal,[])]⟩),(15,⟨[],[(.normal,[])]⟩),(16,⟨[0,48,49,50],[(.exit 1,[])]⟩)]
 | 136=>[(15,⟨[],[(.normal,[(12,.int .i64),(13,.int .i64)])]⟩)]
 | 138=>[(21,⟨[],[(.normal,[])]⟩)]
 | 141=>[(3,⟨[],[(.normal,[])]⟩)]
 | 144=>[(8,⟨[0,1,5],[(.exit 0,[]),(.ret,[(4,.int .i64)])]⟩)]
 | 151=>[(8,⟨[0,2,8],[(.exit 0,[]),(.ret,[(6,.int .i64),(7,.int .i64)])]⟩)]
 | 152=>[(2,⟨[0,19,20,21],[(.exit 0,[]),(.ret,[])]⟩),(8,⟨[0,3,4,27,28],[(.exit 2,[]),(.ret,[])]⟩),(17,⟨[],[(.normal,[])]⟩)]
 | 162=>[(12,⟨[3],[(.normal,[])]⟩),(15,⟨[],[(.normal,[])]⟩)]
 | 171=>[(14,⟨[0,1,6],[(.exit 0,[])]⟩)]
 | 176=>[(9,⟨[],[(.normal,[])]⟩),(13,⟨[],[(.normal,[])]⟩)]
 | 184=>[(6,⟨[0,3,4],[(.exit 0,[(3,.int .i64)])]⟩),(13,⟨[],[(.normal,[(3,.int .i64)])]⟩)]
 | 208=>[(3,⟨[],[(.normal,[])]⟩)]
 | 209=>[(3,⟨[],[(.normal,[])]⟩),(8,⟨[0,31,32,33],[(.exit 0,[])]⟩),(15,⟨[],[(.normal,[])]⟩),(25,⟨[],[(.normal,[])]⟩)]
 | 210=>[(8,⟨[5,7,18,19,20],[(.exit 0,[(7,.slice)])]⟩),(15,⟨[],[(.normal,[(7,.slice)])]⟩)]
 | 212=>[(3,⟨[],[(.normal,[])]⟩),(10,⟨[0,24,25,26],[(.exit 0,[])]⟩),(17,⟨[],[(.normal,[])]⟩),(22,⟨[0,46,47],[(.exit 2,[])]⟩),(31,⟨[],[(.normal,[])]⟩)]
 | 218=>[(17,⟨[],[(.normal,[(7,.func)])]⟩),(31,⟨[],[(.normal,[(11,.int .i64)])]⟩)]
 | 229=>[(4,⟨[0,1,7,8],[(.exit 0,[]),(.ret,[(4,.int .i64)])]⟩)]
 | 235=>[(4,⟨[0,1,5],[(.exit 0,[(5,.int .i64)])]⟩)]
 | 236=>[(4,⟨[0,1,5],[(.exit 0,[]),(.ret,[(4,.int .i64)])]⟩),(10,⟨[0,1,5,6],[(.exit 2,[(6,.int .i64)])]⟩)]
 | 237=>[(12,⟨[0,1,2,9],[(.exit 0,[]),(.ret,[(8,.int .i64)])]⟩),(22,⟨[0,1,2,3,10],[(.exit 2,[])]⟩)]
 | 238=>[(4,⟨[0,2,4,8],[(.exit 0,[]),(.ret,[(6,.int .i64),(7,.bool)])]⟩),(14,⟨[4,9,10],[(.exit 2,[]),(.ret,[(6,.int .i64),(7,.bool)])]⟩)]
 | 241=>[(16,⟨[0,1,9,53,54],[(.exit 1,[])]⟩)]
 | 242=>[(11,⟨[],[(.normal,[]),(.ret,[(8,.int .i64)])]⟩),(20,⟨[0,1,3,6,10],[(.exit 0,[]),(.ret,[(8,.int .i64)])]⟩)]
 | 243=>[(4,⟨[0,3,4],[(.exit 0,[(4,.int .i64)])]⟩)]
 | 244=>[(11,⟨[],[(.normal,[]),(.ret,[(8,.int .i64)])]⟩),(20,⟨[0,1,2,3,10],[(.exit 0,[]),(.ret,[(8,.int .i64)])]⟩)]
 | 254=>[(14,⟨[0,1,3,31,32],[(.exit 0,[])]⟩)]
 | 255=>[(8,⟨[0,1,7,21,22],[(.exit 0,[(7,.slice)])]⟩)]
 | 257=>[(4,⟨[0,2,15,16,17],[(.exit 0,[(2,.slice)])]⟩),(15,⟨[],[(.normal,[(2,.slice)])]⟩),(22,⟨[0,60,61,62],[(.exit 2,[])]⟩)]
 | 261=>[(4,⟨[0,1,7,8],[(.exit 0,[]),(.ret,[(4,.int .i64)])]⟩)]
 | 264=>[(6,⟨[0,6,7],[(.exit 0,[]),(.ret,[(4,.int .i64),(5,.bool)])]⟩)]
 | 275=>[(14,⟨[0,5,6,7,8],[(.exit 0,[(5,.slice),(6,.int .i64)])]⟩),(21,⟨[],[(.normal,[(5,.slice)])]⟩),(29,⟨[],[(.normal,[(5,.slice)])]⟩)]
 | 279=>[(12,⟨[0,1,5],[(.exit 0,[(5,.int .i64)])]⟩)]
 | 286=>[(6,⟨[0,1,5,6],[(.exit 0,[(5,.slice)])]⟩),(13,⟨[],[(.normal,[(5,.slice)])]⟩)]
 | 291=>[(18,⟨[0,1,7,11,43,44],[(.exit 0,[(11,.int .i64)])]⟩),(27,⟨[],[(.normal,[(11,.int .i64)])]⟩)]
 | 292=>[(4,⟨[0,1,7,8],[(.exit 0,[]),(.ret,[(4,.int .i64)])]⟩)]
 | 293=>[(8,⟨[0,2,8],[(.exit 0,[]),(.ret,[(6,.int .i64),(7,.int .i64)])]⟩)]
 | 313=>[(6,⟨[0,1,2,7,14,15,16],[(.exit 0,[(7,.slice)])]⟩),(12,⟨[1,2,7,25,26,27],[(.exit 2,[(7,.slice)])]⟩),(21,⟨[],[(.normal,[])]⟩),(25,⟨[],[(.normal,[(7,.slice)])]⟩)]
 | 314=>[(4,⟨[0,2,4],[(.exit 0,[]),(.ret,[(3,.bool)])]⟩)]
 | 315=>[(6,⟨[0,3,9,10],[(.exit 0,[(3,.slice)])]⟩),(13,⟨[],[(.normal,[(3,.slice)])]⟩)]
 | 316=>[(14,⟨[0,6,7,19,20,21],[(.exit 0,[])]⟩)]
 | 318=>[(3,⟨[],[(.normal,[])]⟩)]
 | 322=>[(4,⟨[0,1,2,6,7,8],[(.exit 0,[(7,.int .i64)])]⟩),(14,⟨[0,1,2,6],[(.exit 2,[])]⟩),(18,⟨[0,1,2,6,7,8],[(.exit 4,[(7,.int .i64)])]⟩),(31,⟨[],[(.normal,[])]⟩)]
 | 323=>[(2,⟨[0,1,2,3,8],[(.exit 0,[])]⟩),(8,⟨[0,1,3,9],[(.exit 2,[])]⟩)]
 | 324=>[(6,⟨[0,1,4,10,11],[(.exit 0,[(10,.int .i64)])]⟩),(13,⟨[],[(.normal,[(10,.int .i64),(11,.int .i64)])]⟩),(18,⟨[0,10,13],[(.exit 2,[])]⟩),(30,⟨[0,2,4,14,15],[(.exit 4,[(14,.int .i64)])]⟩),(37,⟨[],[(.normal,[(14,.int .i64),(15,.int .i64)])]⟩),(42,⟨[0,14,17],[(.exit 6,[])]⟩),(57,⟨[],[(.normal,[(20,.int .i64),(21,.int .i64)])]⟩),(66,⟨[0,4,20,21,22],[(.exit 8,[(20,.int .i64)])]⟩),(73,⟨[],[(.normal,[(20,.int .i64),(21,.int .i64)])]⟩),(81,⟨[],[(.normal,[])]⟩),(85,⟨[],[(.normal,[])]⟩),(89,⟨[],[(.normal,[])]⟩)]
 | 325=>[(4,⟨[0,2,4,10,11],[(.exit 0,[(10,.int .i64)])]⟩),(9,⟨[],[(.normal,[(10,.int .i64),(11,.int .i64)])]⟩)]
 | 326=>[(2,⟨[0,1,2,3,10],[(.exit 0,[])]⟩)]
 | 327=>[(9,⟨[],[(.normal,[])]⟩)]
 | 329=>[(5,⟨[],[(.normal,[]),(.ret,[(6,.int .i64),(7,.bool)])]⟩)]
 | 333=>[(4,⟨[0,2,11,12,13],[(.exit 0,[]),(.ret,[(3,.bool)])]⟩),(12,⟨[0,2,5,6,7],[(.exit 2,[]),(.ret,[(3,.bool)])]⟩),(18,⟨[6,8],[(.exit 4,[(8,.int .i64)])]⟩)]
 | 334=>[(10,⟨[0,5,18,19,20],[(.exit 0,[])]⟩),(18,⟨[5,9,10],[(.exit 2,[])]⟩)]
 | _=>[]
section
variable [AA] [Kn]
noncomputable def lp (k f i:Nat) (c:Code) (n:Nat) (rs:AZ) (σ:Aa):Option Ax:=
 lu (fun regs σ K=>exec P (fn P (XK Kn.b) H k) f (H f) k (cB c) Ax regs σ K) (((H f).lookup i).getD default) n rs σ
def u_f {ρ:Type} (l:List Value) (K:Value→Option ρ):Option ρ:=l.head?.bind fun y0=>K y0
def lU {ρ:Type} (l:List Value) (K:Int→Option ρ):Option ρ:=l.head?.bind fun v=>(Md .i64 v).bind fun y0=>K y0
theorem FQ {ρ:Type} (y0:Int) (K:Int→Option ρ):lU [.int .i64 y0] K=K y0:=by simp[lU,Md,Ey,toStr,Oe,H0,ud]
def yc {ρ:Type} (l:List Value) (K:Int→Int→Option ρ):Option ρ:=l.head?.bind fun v=>(Md .i64 v).bind fun y0=>l.tail.head?.bind fun v=>(Md .i64 v).bind fun y1=>K y0 y1
theorem jt {ρ:Type} (y0:Int) (y1:Int) (K:Int→Int→Option ρ):yc [.int .i64 y0,.int .i64 y1] K=K y0 y1:=by simp[yc,Md,Ey,toStr,Oe,H0,ud]
def Ahy {ρ:Type} (l:List Value) (K:Int→Int→Int→Option ρ):Option ρ:=l.head?.bind fun v=>(Md .i64 v).bind fun y0=>l.tail.head?.bind fun v=>(Md .i64 v).bind fun y1=>l.tail.tail.head?.bind fun v=>(Md .i64 v).bind fun y2=>K y0 y1 y2
def Abp {ρ:Type} (l:List Value) (K:Int→Bool→Option ρ):Option ρ:=l.head?.bind fun v=>(Md .i64 v).bind fun y0=>l.tail.head?.bind fun v=>(Ey v).bind fun y1=>K y0 y1
theorem zo {ρ:Type} (y0:Int) (y1:Bool) (K:Int→Bool→Option ρ):Abp [.int .i64 y0,.bool y1] K=K y0 y1:=by simp[Abp,Md,Ey,toStr,Oe,H0,ud]
def ue {ρ:Type} (l:List Value) (K:Option Addr × Nat × Nat→Option ρ):Option ρ:=l.head?.bind fun v=>(H0 v).bind fun y0=>K y0
theorem Pm {ρ:Type} (y0:Option Addr × Nat × Nat) (K:Option Addr × Nat × Nat→Option ρ):ue [.slice y0.1 y0.2.1 y0.2.2] K=K y0:=by simp[ue,Md,Ey,toStr,Oe,H0,ud]
def Ai5 {ρ:Type} (l:List Value) (K:Option Addr × Nat × Nat→Int→Option ρ):Option ρ:=l.head?.bind fun v=>(H0 v).bind fun y0=>l.tail.head?.bind fun v=>(Md .i64 v).bind fun y1=>K y0 y1
theorem zp {ρ:Type} (y0:Option Addr × Nat × Nat) (y1:Int) (K:Option Addr × Nat × Nat→Int→Option ρ):Ai5 [.slice y0.1 y0.2.1 y0.2.2,.int .i64 y1] K=K y0 y1:=by simp[Ai5,Md,Ey,toStr,Oe,H0,ud]
def u_p {ρ:Type} (l:List Value) (K:Option Addr→Option ρ):Option ρ:=l.head?.bind fun v=>(Oe v).bind fun y0=>K y0
def zq {ρ:Type} (l:List Value) (K:Bool→Option ρ):Option ρ:=l.head?.bind fun v=>(Ey v).bind fun y0=>K y0
theorem Ai6 {ρ:Type} (y0:Bool) (K:Bool→Option ρ):zq [.bool y0] K=K y0:=by simp[zq,Md,Ey,toStr,Oe,H0,ud]
def Afs {ρ:Type} (v:Value) (K:Int→Int→Option ρ):Option ρ:=(toA v).bind fun l=>if l.length=2 then yc l K else none
def Wu {ρ:Type} (v:Value) (K:Int→Int→Int→Option ρ):Option ρ:=(toA v).bind fun l=>if l.length=3 then Ahy l K else none
theorem Li {ρ:Type} (y0:Int) (y1:Int) (y2:Int) (K:Int→Int→Int→Option ρ):Wu (.agg #[.int .i64 y0,.int .i64 y1,.int .i64 y2]) K=K y0 y1 y2:=by simp[Wu,Ahy,toA,Md,Ey,toStr,Oe,H0,ud]
def ff {ρ:Type} (v:Value) (K:Option ρ):Option ρ:=(pV v).bind fun l=>if l.length=0 then K else none
theorem Mt {ρ:Type}  (K:Option ρ):ff (.tuple #[]) K=K:=by simp[ff,pV,Md,Ey,toStr,Oe,H0,ud]
def Mw {ρ:Type} (v:Value) (K:Int→Int→Option ρ):Option ρ:=(pV v).bind fun l=>if l.length=2 then l.head?.bind fun v=>(Md .i64 v).bind fun y0=>l.tail.head?.bind fun v=>(Md .i64 v).bind fun y1=>K y0 y1 else none
theorem Fq {ρ:Type} (y0:Int) (y1:Int) (K:Int→Int→Option ρ):Mw (.tuple #[.int .i64 y0,.int .i64 y1]) K=K y0 y1:=by simp[Mw,pV,Md,Ey,toStr,Oe,H0,ud]
def qB {ρ:Type} (v:Value) (K:Int→Bool→Option ρ):Option ρ:=(pV v).bind fun l=>if l.length=2 then l.head?.bind fun v=>(Md .i64 v).bind fun y0=>l.tail.head?.bind fun v=>(Ey v).bind fun y1=>K y0 y1 else none
theorem iW {ρ:Type} (y0:Int) (y1:Bool) (K:Int→Bool→Option ρ):qB (.tuple #[.int .i64 y0,.bool y1]) K=K y0 y1:=by simp[qB,pV,Md,Ey,toStr,Oe,H0,ud]
def dX {ρ:Type} (v:Value) (K:Option Addr→Int→Option ρ):Option ρ:=(pV v).bind fun l=>if l.length=2 then l.head?.bind fun v=>(Oe v).bind fun y0=>l.tail.head?.bind fun v=>(Md .i64 v).bind fun y1=>K y0 y1 else none
theorem Z8 {ρ:Type} (y0:Option Addr) (y1:Int) (K:Option Addr→Int→Option ρ):dX (.tuple #[.pointer y0,.int .i64 y1]) K=K y0 y1:=by simp[dX,pV,Md,Ey,toStr,Oe,H0,ud]
end
noncomputable def Ap {α:Type} (x:α):α:=Classical.choose (⟨x,rfl⟩:∃ y,y=x)
theorem Ab {α:Type} (x:α):Ap x=x:=Classical.choose_spec (⟨x,rfl⟩:∃ y,y=x)
abbrev Bw:=Option (Value × Aa)
abbrev TV:=Value→List Value→Aa→Bw
section
variable [AA] [Kn]
abbrev mW:=Nat→Int→Int→Option Addr→Nat→Nat→Int→(Option Addr × Nat × Nat)→Int→Aa→Option Ax
abbrev Ahc:=Nat→Int→Nat→Int→Aa→Option Ax
abbrev Abw:=Nat→Nat→Int→Int→Int→Aa→Option Ax
abbrev eu:=Nat→Nat→Nat→Int→Aa→Option Ax
abbrev Abx:=Nat→Nat→Nat→Int→Int→Aa→Option Ax
abbrev yj:=Nat→Nat→Option Addr→Nat→Nat→Int→Aa→Option Ax
abbrev um:=Nat→Nat→Option Addr→Nat→Nat→Int→Int→Aa→Option Ax
abbrev qO:=Nat→Nat→Option Addr→Nat→Nat→Int→(Option Addr × Nat × Nat)→Int→Aa→Option Ax
abbrev Ajo:=Nat→Option Addr→Int→Aa→Option Ax
abbrev Pp:=Nat→Option Addr→Int→Int→Aa→Option Ax
abbrev sE:=Nat→Option Addr→Int→Int→Int→Aa→Option Ax
abbrev cY:=Nat→Option Addr→Int→Int→Int→Int→Aa→Option Ax
abbrev yk:=Nat→Option Addr→Int→Int→(Option Addr × Nat × Nat)→Int→Aa→Option Ax
abbrev yl:=Nat→Option Addr→Int→Int→Nat→Int→Aa→Option Ax
abbrev kN:=Nat→Option Addr→Int→Int→Option Addr→Nat→Nat→Int→(Option Addr × Nat × Nat)→Int→Aa→Option Ax
abbrev sF:=Nat→Option Addr→Int→(Option Addr × Nat × Nat)→Int→Aa→Option Ax
abbrev ym:=Nat→Option Addr→Int→(Option Addr × Nat × Nat)→Int→Int→Aa→Option Ax
abbrev Aby:=Nat→Option Addr→Int→Nat→Int→Aa→Option Ax
abbrev yn:=Nat→Option Addr→Int→Nat→Int→Int→Aa→Option Ax
abbrev uo:=Nat→Option Addr→Int→Nat→Int→Int→Int→Aa→Option Ax
abbrev ey:=Nat→Option Addr→Nat→Int→Aa→Option Ax
abbrev qP:=Nat→Option Addr→Nat→Int→Option Addr→Nat→Nat→Int→Aa→Option Ax
abbrev Abz:=Nat→Option Addr→Nat→Nat→Int→Aa→Option Ax
abbrev uq:=Nat→Option Addr→Nat→Nat→Int→Int→Int→Aa→Option Ax
abbrev qQ:=Nat→Option Addr→Nat→Nat→Int→Int→Value→Int→Aa→Option Ax
abbrev gV:=Nat→Option Addr→Nat→Nat→Int→Value→Int→Aa→Option Ax
abbrev qR:=Nat→Option Addr→Nat→Nat→Int→Value→Int→Int→Aa→Option Ax
abbrev mX:=Nat→Option Addr→Nat→Nat→Int→Value→Int→Int→Int→Aa→Option Ax
abbrev qS:=Nat→Option Addr→Nat→Nat→Option Addr→Nat→Nat→Int→Aa→Option Ax
abbrev YO:=Nat→Option Addr→Nat→Nat→Option Addr→Nat→Nat→Int→Int→Aa→Option Ax
abbrev gW:=Nat→Option Addr→Nat→Nat→Value→Int→Int→Aa→Option Ax
abbrev ur:=Nat→Option Addr→Nat→Option Addr→Nat→Nat→Int→Aa→Option Ax
abbrev qT:=Nat→Option Addr→Nat→Option Addr→Nat→Nat→Int→Int→Aa→Option Ax
abbrev yo:=Nat→Option Addr→Option Addr→Int→Aa→Option Ax
abbrev ND:=Nat→Option Addr→Option Addr→Nat→Nat→Int→Int→Aa→Option Ax
abbrev qU:=Nat→Option Addr→Option Addr→Nat→Nat→Int→(Option Addr × Nat × Nat)→Int→Aa→Option Ax
abbrev qV:=Nat→Option Addr→Option Addr→Nat→Nat→(Option Addr × Nat × Nat)→Int→Int→Aa→Option Ax
abbrev qW:=Nat→Value→Int→Option Addr→Nat→Nat→Int→Int→Aa→Option Ax
abbrev Ab0:=Nat→Value→Nat→Int→Int→Aa→Option Ax
abbrev UM:=Int→Int→Option Addr→Nat→Nat→Int→(Option Addr × Nat × Nat)→Int→Aa→Option Ax
abbrev Ajq:=Int→Nat→Int→Aa→Option Ax
abbrev nc:=Nat→Int→Int→Int→Aa→Option Ax
abbrev uw:=Nat→Nat→Int→Aa→Option Ax
abbrev nf:=Nat→Nat→Int→Int→Aa→Option Ax
abbrev Ae8:=Nat→Option Addr→Nat→Nat→Int→Aa→Option Ax
abbrev ba:=Nat→Option Addr→Nat→Nat→Int→Int→Aa→Option Ax
abbrev X7:=Nat→Option Addr→Nat→Nat→Int→(Option Addr × Nat × Nat)→Int→Aa→Option Ax
abbrev Ab1:=Option Addr→Int→Aa→Option Ax
abbrev Pq:=Option Addr→Int→Int→Aa→Option Ax
abbrev Ab2:=Option Addr→Int→Int→Int→Aa→Option Ax
abbrev Ws:=Option Addr→Int→Int→Int→Int→Aa→Option Ax
abbrev gX:=Option Addr→Int→Int→(Option Addr × Nat × Nat)→Int→Aa→Option Ax
abbrev Ae9:=Option Addr→Int→Int→Nat→Int→Aa→Option Ax
abbrev Sz:=Option Addr→Int→Int→Option Addr→Nat→Nat→Int→(Option Addr × Nat × Nat)→Int→Aa→Option Ax
abbrev jy:=Option Addr→Int→(Option Addr × Nat × Nat)→Int→Aa→Option Ax
abbrev gY:=Option Addr→Int→(Option Addr × Nat × Nat)→Int→Int→Aa→Option Ax
abbrev Ah1:=Option Addr→Int→Nat→Int→Aa→Option Ax
abbrev gZ:=Option Addr→Int→Nat→Int→Int→Aa→Option Ax
abbrev bd:=Option Addr→Int→Nat→Int→Int→Int→Aa→Option Ax
abbrev hJ:=Option Addr→Nat→Int→Aa→Option Ax
abbrev X8:=Option Addr→Nat→Int→Option Addr→Nat→Nat→Int→Aa→Option Ax
abbrev ng:=Option Addr→Nat→Nat→Int→Aa→Option Ax
abbrev bf:=Option Addr→Nat→Nat→Int→Int→Int→Aa→Option Ax
abbrev X9:=Option Addr→Nat→Nat→Int→Int→Value→Int→Aa→Option Ax
abbrev UN:=Option Addr→Nat→Nat→Int→Value→Int→Aa→Option Ax
abbrev XA:=Option Addr→Nat→Nat→Int→Value→Int→Int→Aa→Option Ax
abbrev UO:=Option Addr→Nat→Nat→Int→Value→Int→Int→Int→Aa→Option Ax
abbrev XB:=Option Addr→Nat→Nat→Option Addr→Nat→Nat→Int→Aa→Option Ax
abbrev OA:=Option Addr→Nat→Nat→Option Addr→Nat→Nat→Int→Int→Aa→Option Ax
abbrev UP:=Option Addr→Nat→Nat→Value→Int→Int→Aa→Option Ax
abbrev Ab3:=Option Addr→Nat→Option Addr→Nat→Nat→Int→Aa→Option Ax
abbrev XC:=Option Addr→Nat→Option Addr→Nat→Nat→Int→Int→Aa→Option Ax
abbrev Ahd:=Option Addr→Option Addr→Int→Aa→Option Ax
abbrev JU:=Option Addr→Option Addr→Nat→Nat→Int→Int→Aa→Option Ax
abbrev XD:=Option Addr→Option Addr→Nat→Nat→Int→(Option Addr × Nat × Nat)→Int→Aa→Option Ax
abbrev zv:=Option Addr→Option Addr→Nat→Nat→(Option Addr × Nat × Nat)→Int→Int→Aa→Option Ax
abbrev XE:=Value→Int→Option Addr→Nat→Nat→Int→Int→Aa→Option Ax
abbrev nh:=Value→Nat→Int→Int→Aa→Option Ax
abbrev T_:=Aa→Bw
abbrev kP:=Int→Aa→Bw
abbrev j4:=Int→Int→Aa→Bw
abbrev GM:=Int→Int→Int→Aa→Bw
abbrev fH:=Int→Int→Int→Int→Aa→Bw
abbrev db:=Int→Int→(Option Addr × Nat × Nat)→(Option Addr × Nat × Nat)→(Option Addr × Nat × Nat)→(Option Addr × Nat × Nat)→(Option Addr × Nat × Nat)→Aa→Bw
abbrev sI:=Int→Int→(Option Addr × Nat × Nat)→(Option Addr × Nat × Nat)→(Option Addr × Nat × Nat)→(Option Addr × Nat × Nat)→(Option Addr × Nat × Nat)→Int→Int→Int→Aa→Bw
abbrev u9:=Int→Option Addr→Aa→Bw
abbrev nI:=Int→Option Addr→Option Addr→Aa→Bw
abbrev T_l:=(Option Addr × Nat × Nat)→Aa→Bw
abbrev pZ:=(Option Addr × Nat × Nat)→Int→Aa→Bw
abbrev sJ:=(Option Addr × Nat × Nat)→Int→Int→Int→Value→Aa→Bw
abbrev fJ:=(Option Addr × Nat × Nat)→Int→Int→Value→Aa→Bw
abbrev qY:=(Option Addr × Nat × Nat)→Int→Value→Aa→Bw
abbrev uA:=(Option Addr × Nat × Nat)→(Option Addr × Nat × Nat)→Aa→Bw
abbrev z9:=(Option Addr × Nat × Nat)→Option Addr→Aa→Bw
abbrev YU:=(Option Addr × Nat × Nat)→Value→Aa→Bw
abbrev C7:=Option Addr→Aa→Bw
abbrev Az:=Option Addr→Int→Aa→Bw
abbrev kQ:=Option Addr→Int→Bool→Aa→Bw
abbrev CO:=Option Addr→Int→Int→Aa→Bw
abbrev bj:=Option Addr→Int→Int→Bool→Aa→Bw
abbrev DC:=Option Addr→Int→Int→Int→Aa→Bw
abbrev DS:=Option Addr→Int→Int→Int→Int→Aa→Bw
abbrev uB:=Option Addr→Int→Int→Int→Int→Int→Aa→Bw
abbrev R4:=Option Addr→Int→Int→Int→Int→Int→Int→Aa→Bw
abbrev kR:=Option Addr→Int→Int→Int→Int→Int→(Option Addr × Nat × Nat)→(Option Addr × Nat × Nat)→Bool→Aa→Bw
abbrev nJ:=Option Addr→Int→(Option Addr × Nat × Nat)→Aa→Bw
abbrev hO:=Option Addr→Int→Value→Aa→Bw
abbrev uC:=Option Addr→(Option Addr × Nat × Nat)→Aa→Bw
abbrev lZ:=Option Addr→Option Addr→Aa→Bw
abbrev j5:=Option Addr→Option Addr→Bool→Int→Aa→Bw
abbrev nK:=Option Addr→Option Addr→Int→Aa→Bw
abbrev Ace:=Value→Option Addr→Aa→Bw
noncomputable def Jp:Nat→sI:=Ap fun k x0_0 x0_1 x0_2 x0_3 x0_4 x0_5 x0_6 x1 x2 x3 σ=>fn P (XK Kn.b) H k 3 [.agg #[.int .u8 x0_0,.int .u8 x0_1,.slice x0_2.1 x0_2.2.1 x0_2.2.2,.slice x0_3.1 x0_3.2.1 x0_3.2.2,.slice x0_4.1 x0_4.2.1 x0_4.2.2,.slice x0_5.1 x0_5.2.1 x0_5.2.2,.slice x0_6.1 x0_6.2.1 x0_6.2.2],.int .u8 x1,.int .u8 x2,.int .u8 x3] σ
noncomputable def NR:Nat→db:=Ap fun k x0_0 x0_1 x0_2 x0_3 x0_4 x0_5 x0_6 σ=>fn P (XK Kn.b) H k 10 [.agg #[.int .u8 x0_0,.int .u8 x0_1,.slice x0_2.1 x0_2.2.1 x0_2.2.2,.slice x0_3.1 x0_3.2.1 x0_3.2.2,.slice x0_4.1 x0_4.2.1 x0_4.2.2,.slice x0_5.1 x0_5.2.1 x0_5.2.2,.slice x0_6.1 x0_6.2.1 x0_6.2.2]] σ
noncomputable def BB:Nat→C7:=Ap fun k x0 σ=>fn P (XK Kn.b) H k 11 [.pointer x0] σ
noncomputable def Bk:Nat→Az:=Ap fun k x0 x1 σ=>fn P (XK Kn.b) H k 12 [.pointer x0,.int .i64 x1] σ
noncomputable def BA:Nat→C7:=Ap fun k x0 σ=>fn P (XK Kn.b) H k 13 [.pointer x0] σ
noncomputable def D4:Nat→uA:=Ap fun k x0 x1 σ=>fn P (XK Kn.b) H k 14 [.slice x0.1 x0.2.1 x0.2.2,.slice x1.1 x1.2.1 x1.2.2] σ
noncomputable def Gd:Nat→qS:=Ap fun k n p0 c1 c2 p3 c4 c5 x5 σ=>lp k 14 8 (cB (cR (cL (cR (cR (BM Tryz.f14)))))) n (Lc 0 26 [(0,.slice p0 c1 c2),(1,.slice p3 c4 c5),(5,.int .i64 x5)]) σ
noncomputable def BS:Nat→C7:=Ap fun k x0 σ=>fn P (XK Kn.b) H k 15 [.pointer x0] σ
noncomputable def Fb:Nat→C7:=Ap fun k x0 σ=>fn P (XK Kn.b) H k 16 [.pointer x0] σ
noncomputable def Kf:Nat→lZ:=Ap fun k x0 x1 σ=>fn P (XK Kn.b) H k 17 [.pointer x0,.pointer x1] σ
noncomputable def FV:Nat→yo:=Ap fun k n p0 p1 x5 σ=>lp k 17 8 (cB (cR (cL (cR (cR (BM Tryz.f17)))))) n (Lc 0 133 [(0,.pointer p0),(1,.pointer p1),(5,.int .i64 x5)]) σ
noncomputable def FX:Nat→yo:=Ap fun k n p0 p1 x6 σ=>lp k 17 18 (cB (cR (cL (cR (cR (cR (BM Tryz.f17))))))) n (Lc 0 133 [(0,.pointer p0),(1,.pointer p1),(6,.int .i64 x6)]) σ
noncomputable def Qw:Nat→C7:=Ap fun k x0 σ=>fn P (XK Kn.b) H k 18 [.pointer x0] σ
noncomputable def IP:Nat→ey:=Ap fun k n p0 h1 x4 σ=>lp k 18 6 (cB (cR (cL (cR (cR (BM Tryz.f18)))))) n (Lc 0 136 [(0,.pointer p0),(3,.pointer (some ⟨h1,0,none⟩)),(4,.int .i64 x4)]) σ
noncomputable def IU:Nat→ey:=Ap fun k n p0 h1 x9 σ=>lp k 18 30 (cB (cR (cL (cR (cR (cR (cB (cL (cR (cB (cB (cR (cL (cR (cR (cR (cR (BM Tryz.f18)))))))))))))))))) n (Lc 0 136 [(0,.pointer p0),(8,.pointer (some ⟨h1,0,none⟩)),(9,.int .i64 x9)]) σ
noncomputable def IV:Nat→ey:=Ap fun k n p0 h1 x13 σ=>lp k 18 42 (cB (cR (cL (cR (cR (cR (cR (cB (cL (cR (cB (cB (cR (cL (cR (cR (cR (cR (BM Tryz.f18))))))))))))))))))) n (Lc 0 136 [(0,.pointer p0),(8,.pointer (some ⟨h1,0,none⟩)),(13,.int .i64 x13)]) σ
noncomputable def IQ:Nat→ur:=Ap fun k n p0 h1 p2 c3 c4 x7 σ=>lp k 18 18 (cB (cR (cL (cR (cR (cR (cR (BM Tryz.f18)))))))) n (Lc 0 136 [(0,.pointer p0),(3,.pointer (some ⟨h1,0,none⟩)),(6,.slice p2 c3 c4),(7,.int .i64 x7)]) σ
noncomputable def GG:Nat→T_:=Ap fun k  σ=>fn P (XK Kn.b) H k 19 [] σ
noncomputable def Bv:Nat→C7:=Ap fun k x0 σ=>fn P (XK Kn.b) H k 25 [.pointer x0] σ
noncomputable def Eg:Nat→C7:=Ap fun k x0 σ=>fn P (XK Kn.b) H k 27 [.pointer x0] σ
noncomputable def Ee:Nat→Az:=Ap fun k x0 x1 σ=>fn P (XK Kn.b) H k 31 [.pointer x0,.int .i64 x1] σ
noncomputable def Av:Nat→C7:=Ap fun k x0 σ=>fn P (XK Kn.b) H k 32 [.pointer x0] σ
noncomputable def A9:Nat→Az:=Ap fun k x0 x1 σ=>fn P (XK Kn.b) H k 33 [.pointer x0,.int .i64 x1] σ
noncomputable def EC:Nat→C7:=Ap fun k x0 σ=>fn P (XK Kn.b) H k 35 [.pointer x0] σ
noncomputable def Ie:Nat→db:=Ap fun k x0_0 x0_1 x0_2 x0_3 x0_4 x0_5 x0_6 σ=>fn P (XK Kn.b) H k 38 [.agg #[.int .u8 x0_0,.int .u8 x0_1,.slice x0_2.1 x0_2.2.1 x0_2.2.2,.slice x0_3.1 x0_3.2.1 x0_3.2.2,.slice x0_4.1 x0_4.2.1 x0_4.2.2,.slice x0_5.1 x0_5.2.1 x0_5.2.2,.slice x0_6.1 x0_6.2.1 x0_6.2.2]] σ
noncomputable def Cy:Nat→eu:=Ap fun k n h0 h1 x10 σ=>lp k 38 20 (cB (cR (cL (cR (cR (cR (cR (cR (cR (cR (cR (BM Tryz.f38)))))))))))) n (Lc 0 257 [(1,.pointer (some ⟨h0,0,none⟩)),(9,.pointer (some ⟨h1,0,none⟩)),(10,.int .i64 x10)]) σ
noncomputable def Cz:Nat→eu:=Ap fun k n h0 h1 x11 σ=>lp k 38 30 (cB (cR (cL (cR (cR (cR (cR (cR (cR (cR (cR (cR (BM Tryz.f38))))))))))))) n (Lc 0 257 [(1,.pointer (some ⟨h0,0,none⟩)),(9,.pointer (some ⟨h1,0,none⟩)),(11,.int .i64 x11)]) σ
noncomputable def BU:Nat→eu:=Ap fun k n h0 h1 x13 σ=>lp k 38 42 (cB (cR (cL (cR (cR (cR (cR (cR (cR (cR (cR (cR (cR (BM Tryz.f38)))))))))))))) n (Lc 0 257 [(1,.pointer (some ⟨h0,0,none⟩)),(9,.pointer (some ⟨h1,0,none⟩)),(13,.int .i64 x13)]) σ
noncomputable def C0:Nat→eu:=Ap fun k n h0 h1 x18 σ=>lp k 38 58 (cB (cR (cL (cR (cR (cR (cR (cR (cR (cR (cR (cR (cR (cR (BM Tryz.f38))))))))))))))) n (Lc 0 257 [(1,.pointer (some ⟨h0,0,none⟩)),(9,.pointer (some ⟨h1,0,none⟩)),(18,.int .i64 x18)]) σ
noncomputable def C5:Nat→eu:=Ap fun k n h0 h1 x19 σ=>lp k 38 68 (cB (cR (cL (cR (cR (cR (cR (cR (cR (cR (cR (cR (cR (cR (cR (BM Tryz.f38)))))))))))))))) n (Lc 0 257 [(1,.pointer (some ⟨h0,0,none⟩)),(9,.pointer (some ⟨h1,0,none⟩)),(19,.int .i64 x19)]) σ
noncomputable def KV:Nat→lZ:=Ap fun k x0 x1 σ=>fn P (XK Kn.b) H k 39 [.pointer x0,.pointer x1] σ
noncomputable def Ao:Nat→C7:=Ap fun k x0 σ=>fn P (XK Kn.b) H k 43 [.pointer x0] σ
noncomputable def G9:Nat→C7:=Ap fun k x0 σ=>fn P (XK Kn.b) H k 44 [.pointer x0] σ
noncomputable def Hq:Nat→Az:=Ap fun k x0 x1 σ=>fn P (XK Kn.b) H k 45 [.pointer x0,.int .i64 x1] σ
noncomputable def Ep:Nat→Pp:=Ap fun k n p0 i1 x17 σ=>lp k 45 12 (cB (cR (cL (cR (cR (cR (BM Tryz.f45))))))) n (Lc 0 30 [(0,.pointer p0),(16,.int .i64 i1),(17,.int .i64 x17)]) σ
noncomputable def G8:Nat→C7:=Ap fun k x0 σ=>fn P (XK Kn.b) H k 46 [.pointer x0] σ
noncomputable def Hp:Nat→C7:=Ap fun k x0 σ=>fn P (XK Kn.b) H k 47 [.pointer x0] σ
noncomputable def Lm:Nat→C7:=Ap fun k x0 σ=>fn P (XK Kn.b) H k 48 [.pointer x0] σ
noncomputable def Gu:Nat→C7:=Ap fun k x0 σ=>fn P (XK Kn.b) H k 49 [.pointer x0] σ
noncomputable def AY:Nat→Az:=Ap fun k x0 x1 σ=>fn P (XK Kn.b) H k 50 [.pointer x0,.int .i64 x1] σ
noncomputable def BO:Nat→Az:=Ap fun k x0 x1 σ=>fn P (XK Kn.b) H k 51 [.pointer x0,.int .i64 x1] σ
noncomputable def Gw:Nat→Az:=Ap fun k x0 x1 σ=>fn P (XK Kn.b) H k 52 [.pointer x0,.int .i64 x1] σ
noncomputable def FF:Nat→Az:=Ap fun k x0 x1 σ=>fn P (XK Kn.b) H k 53 [.pointer x0,.int .i64 x1] σ
noncomputable def AL:Nat→CO:=Ap fun k x0 x1 x2 σ=>fn P (XK Kn.b) H k 54 [.pointer x0,.int .i64 x1,.int .i64 x2] σ
noncomputable def HL:Nat→CO:=Ap fun k x0 x1 x2 σ=>fn P (XK Kn.b) H k 55 [.pointer x0,.int .i64 x1,.int .i64 x2] σ
noncomputable def J5:Nat→kP:=Ap fun k x0 σ=>fn P (XK Kn.b) H k 56 [.int .i64 x0] σ
noncomputable def HF:Nat→kP:=Ap fun k x0 σ=>fn P (XK Kn.b) H k 57 [.int .i64 x0] σ
noncomputable def EB:Nat→DS:=Ap fun k x0 x1_0 x1_1 x1_2 x2 σ=>fn P (XK Kn.b) H k 58 [.pointer x0,.agg #[.int .i64 x1_0,.int .i64 x1_1,.int .i64 x1_2],.int .i64 x2] σ
noncomputable def Ds:Nat→DS:=Ap fun k x0 x1_0 x1_1 x1_2 x2 σ=>fn P (XK Kn.b) H k 59 [.pointer x0,.agg #[.int .i64 x1_0,.int .i64 x1_1,.int .i64 x1_2],.int .i64 x2] σ
noncomputable def ED:Nat→DC:=Ap fun k x0 x1 x2 x3 σ=>fn P (XK Kn.b) H k 60 [.pointer x0,.int .i64 x1,.int .i64 x2,.int .i64 x3] σ
noncomputable def FY:Nat→Az:=Ap fun k x0 x1 σ=>fn P (XK Kn.b) H k 66 [.pointer x0,.int .i64 x1] σ
noncomputable def NQ:Nat→fH:=Ap fun k x0_0 x0_1 x0_2 x0_3 σ=>fn P (XK Kn.b) H k 67 [.agg #[.int .u8 x0_0,.int .u8 x0_1,.int .u8 x0_2,.int .u8 x0_3]] σ
noncomputable def A7:Nat→C7:=Ap fun k x0 σ=>fn P (XK Kn.b) H k 74 [.pointer x0] σ
noncomputable def Dk:Nat→CO:=Ap fun k x0 x1 x2 σ=>fn P (XK Kn.b) H k 75 [.pointer x0,.int .i64 x1,.int .i64 x2] σ
noncomputable def B9:Nat→ym:=Ap fun k n p0 i1 x7 x8 x9 σ=>lp k 75 6 (cB (cR (cL (cR (cR (BM Tryz.f75)))))) n (Lc 0 44 [(0,.pointer p0),(2,.int .i64 i1),(7,.slice x7.1 x7.2.1 x7.2.2),(8,.int .i64 x8),(9,.int .i64 x9)]) σ
noncomputable def Hh:Nat→C7:=Ap fun k x0 σ=>fn P (XK Kn.b) H k 76 [.pointer x0] σ
noncomputable def Eo:Nat→Ajo:=Ap fun k n p0 x4 σ=>lp k 76 8 (cB (cL (cR (cR (cR (BM Tryz.f76)))))) n (Lc 0 18 [(0,.pointer p0),(4,.int .i64 x4)]) σ
noncomputable def Bo:Nat→C7:=Ap fun k x0 σ=>fn P (XK Kn.b) H k 78 [.pointer x0] σ
noncomputable def Hf:Nat→C7:=Ap fun k x0 σ=>fn P (XK Kn.b) H k 79 [.pointer x0] σ
noncomputable def ES:Nat→DC:=Ap fun k x0 x1_0 x1_1 x1_2 σ=>fn P (XK Kn.b) H k 80 [.pointer x0,.agg #[.int .i64 x1_0,.int .i64 x1_1,.int .i64 x1_2]] σ
noncomputable def Hg:Nat→Az:=Ap fun k x0 x1 σ=>fn P (XK Kn.b) H k 81 [.pointer x0,.int .i64 x1] σ
noncomputable def Bd:Nat→Az:=Ap fun k x0 x1 σ=>fn P (XK Kn.b) H k 82 [.pointer x0,.int .i64 x1] σ
noncomputable def FH:Nat→kP:=Ap fun k x0 σ=>fn P (XK Kn.b) H k 83 [.int .i64 x0] σ
noncomputable def Mp:Nat→lZ:=Ap fun k x0 x1 σ=>fn P (XK Kn.b) H k 85 [.pointer x0,.pointer x1] σ
noncomputable def HI:Nat→Abw:=Ap fun k n h0 i1 i2 x33 σ=>lp k 85 18 (cB (cR (cR (cR (cB (cL (cR (cR (cB (cB (cR (cL (cR (cR (cR (BM Tryz.f85)))))))))))))))) n (Lc 0 48 [(2,.pointer (some ⟨h0,0,none⟩)),(5,.func (.func 160) #[] #[.pointer (some ⟨h0,0,none⟩)]),(7,.int .i64 i1),(32,.int .i64 i2),(33,.int .i64 x33)]) σ
noncomputable def HH:Nat→um:=Ap fun k n h0 p1 c2 c3 i4 x21 σ=>lp k 85 10 (cB (cR (cL (cR (cR (cR (BM Tryz.f85))))))) n (Lc 0 48 [(2,.pointer (some ⟨h0,0,none⟩)),(5,.func (.func 160) #[] #[.pointer (some ⟨h0,0,none⟩)]),(19,.slice p1 c2 c3),(20,.int .i64 i4),(21,.int .i64 x21)]) σ
noncomputable def HR:Nat→C7:=Ap fun k x0 σ=>fn P (XK Kn.b) H k 90 [.pointer x0] σ
noncomputable def EE:Nat→C7:=Ap fun k x0 σ=>fn P (XK Kn.b) H k 92 [.pointer x0] σ
noncomputable def PA:Nat→kP:=Ap fun k x0 σ=>fn P (XK Kn.b) H k 94 [.int .i64 x0] σ
noncomputable def Ki:Nat→Ahc:=Ap fun k n i0 h1 x5 σ=>lp k 94 10 (cB (cR (cL (cR (cR (cR (BM Tryz.f94))))))) n (Lc 0 31 [(0,.int .i64 i0),(4,.pointer (some ⟨h1,0,none⟩)),(5,.int .i64 x5)]) σ
noncomputable def CX:Nat→C7:=Ap fun k x0 σ=>fn P (XK Kn.b) H k 95 [.pointer x0] σ
noncomputable def He:Nat→DS:=Ap fun k x0 x1_0 x1_1 x1_2 x2 σ=>fn P (XK Kn.b) H k 98 [.pointer x0,.agg #[.int .i64 x1_0,.int .i64 x1_1,.int .i64 x1_2],.int .i64 x2] σ
noncomputable def Pz:Nat→kP:=Ap fun k x0 σ=>fn P (XK Kn.b) H k 99 [.int .i64 x0] σ
noncomputable def Hy:Nat→DS:=Ap fun k x0 x1_0 x1_1 x1_2 x2 σ=>fn P (XK Kn.b) H k 100 [.pointer x0,.agg #[.int .i64 x1_0,.int .i64 x1_1,.int .i64 x1_2],.int .i64 x2] σ
noncomputable def Bq:Nat→Az:=Ap fun k x0 x1 σ=>fn P (XK Kn.b) H k 101 [.pointer x0,.int .i64 x1] σ
noncomputable def FI:Nat→Az:=Ap fun k x0 x1 σ=>fn P (XK Kn.b) H k 102 [.pointer x0,.int .i64 x1] σ
noncomputable def DJ:Nat→Az:=Ap fun k x0 x1 σ=>fn P (XK Kn.b) H k 103 [.pointer x0,.int .i64 x1] σ
noncomputable def G2:Nat→Az:=Ap fun k x0 x1 σ=>fn P (XK Kn.b) H k 104 [.pointer x0,.int .i64 x1] σ
noncomputable def Ig:Nat→DC:=Ap fun k x0 x1 x2 x3 σ=>fn P (XK Kn.b) H k 105 [.pointer x0,.int .i64 x1,.int .i64 x2,.int .i64 x3] σ
noncomputable def Jo:Nat→CO:=Ap fun k x0 x1 x2 σ=>fn P (XK Kn.b) H k 106 [.pointer x0,.int .i64 x1,.int .i64 x2] σ
noncomputable def G1:Nat→Az:=Ap fun k x0 x1 σ=>fn P (XK Kn.b) H k 107 [.pointer x0,.int .i64 x1] σ
noncomputable def IM:Nat→Az:=Ap fun k x0 x1 σ=>fn P (XK Kn.b) H k 108 [.pointer x0,.int .i64 x1] σ
noncomputable def PE:Nat→j5:=Ap fun k x0 x1 x2 x3 σ=>fn P (XK Kn.b) H k 109 [.pointer x0,.pointer x1,.bool x2,.int .i64 x3] σ
noncomputable def AE:Nat→C7:=Ap fun k x0 σ=>fn P (XK Kn.b) H k 110 [.pointer x0] σ
noncomputable def BZ:Nat→C7:=Ap fun k x0 σ=>fn P (XK Kn.b) H k 111 [.pointer x0] σ
noncomputable def CE:Nat→C7:=Ap fun k x0 σ=>fn P (XK Kn.b) H k 112 [.pointer x0] σ
noncomputable def A8:Nat→C7:=Ap fun k x0 σ=>fn P (XK Kn.b) H k 130 [.pointer x0] σ
noncomputable def Dt:Nat→C7:=Ap fun k x0 σ=>fn P (XK Kn.b) H k 131 [.pointer x0] σ
noncomputable def D3:Nat→ND:=Ap fun k n p0 p1 c2 c3 i4 x10 σ=>lp k 131 2 (cB (cR (BM Tryz.f131))) n (Lc 0 18 [(0,.pointer p0),(8,.slice p1 c2 c3),(9,.int .i64 i4),(10,.int .i64 x10)]) σ
noncomputable def DE:Nat→C7:=Ap fun k x0 σ=>fn P (XK Kn.b) H k 132 [.pointer x0] σ
noncomputable def Et:Nat→ND:=Ap fun k n p0 p1 c2 c3 i4 x50 σ=>lp k 132 16 (cB (cR (cL (cT (cR (cR (cR (cT (cR (cE (cR (cB (BM Tryz.f132))))))))))))) n (Lc 0 61 [(0,.pointer p0),(48,.slice p1 c2 c3),(49,.int .i64 i4),(50,.int .i64 x50)]) σ
noncomputable def Be:Nat→T_l:=Ap fun k x0 σ=>fn P (XK Kn.b) H k 133 [.slice x0.1 x0.2.1 x0.2.2] σ
noncomputable def AH:Nat→Az:=Ap fun k x0 x1 σ=>fn P (XK Kn.b) H k 134 [.pointer x0,.int .i64 x1] σ
noncomputable def CP:Nat→Az:=Ap fun k x0 x1 σ=>fn P (XK Kn.b) H k 135 [.pointer x0,.int .i64 x1] σ
noncomputable def CV:Nat→bj:=Ap fun k x0 x1 x2 x3 σ=>fn P (XK Kn.b) H k 136 [.pointer x0,.int .i64 x1,.int .i64 x2,.bool x3] σ
noncomputable def J9:Nat→j4:=Ap fun k x0 x1 σ=>fn P (XK Kn.b) H k 137 [.int .i64 x0,.int .i64 x1] σ
noncomputable def HQ:Nat→DS:=Ap fun k x0 x1_0 x1_1 x1_2 x2 σ=>fn P (XK Kn.b) H k 138 [.pointer x0,.agg #[.int .i64 x1_0,.int .i64 x1_1,.int .i64 x1_2],.int .i64 x2] σ
noncomputable def IY:Nat→C7:=Ap fun k x0 σ=>fn P (XK Kn.b) H k 139 [.pointer x0] σ
noncomputable def Cu:Nat→DC:=Ap fun k x0 x1 x2 x3 σ=>fn P (XK Kn.b) H k 140 [.pointer x0,.int .i64 x1,.int .i64 x2,.int .i64 x3] σ
noncomputable def Hi:Nat→Az:=Ap fun k x0 x1 σ=>fn P (XK Kn.b) H k 141 [.pointer x0,.int .i64 x1] σ
noncomputable def AN:Nat→Az:=Ap fun k x0 x1 σ=>fn P (XK Kn.b) H k 144 [.pointer x0,.int .i64 x1] σ
noncomputable def Fc:Nat→Pp:=Ap fun k n p0 i1 x5 σ=>lp k 144 8 (cB (cR (cL (cR (cR (BM Tryz.f144)))))) n (Lc 0 29 [(0,.pointer p0),(1,.int .i64 i1),(5,.int .i64 x5)]) σ
noncomputable def CZ:Nat→CO:=Ap fun k x0 x1 x2 σ=>fn P (XK Kn.b) H k 151 [.pointer x0,.int .i64 x1,.int .i64 x2] σ
noncomputable def D2:Nat→Pp:=Ap fun k n p0 i1 x8 σ=>lp k 151 8 (cB (cR (cL (cR (cR (BM Tryz.f151)))))) n (Lc 0 28 [(0,.pointer p0),(2,.int .i64 i1),(8,.int .i64 x8)]) σ
noncomputable def Dy:Nat→Ace:=Ap fun k x0 c0 σ=>fn P (XK Kn.b) H k 152 [x0,.pointer c0] σ
noncomputable def C9:Nat→qW:=Ap fun k n v0 i1 p2 c3 c4 i5 x28 σ=>lp k 152 8 (cB (cR (cR (cB (cL (cR (cR (cB (cB (cR (BM Tryz.f152))))))))))) n (Lc 0 58 [(0,v0),(3,.int .i64 i1),(4,.slice p2 c3 c4),(27,.int .i64 i5),(28,.int .i64 x28)]) σ
noncomputable def C8:Nat→Ab0:=Ap fun k n v0 h1 i2 x21 σ=>lp k 152 2 (cB (cR (BM Tryz.f152))) n (Lc 0 58 [(0,v0),(19,.slice (some ⟨h1,0,none⟩) 3 3),(20,.int .i64 i2),(21,.int .i64 x21)]) σ
noncomputable def G6:Nat→DC:=Ap fun k x0 x1_0 x1_1 x1_2 σ=>fn P (XK Kn.b) H k 153 [.pointer x0,.agg #[.int .i64 x1_0,.int .i64 x1_1,.int .i64 x1_2]] σ
noncomputable def Cm:Nat→Az:=Ap fun k x0 x1 σ=>fn P (XK Kn.b) H k 154 [.pointer x0,.int .i64 x1] σ
noncomputable def Ew:Nat→u9:=Ap fun k x0 c0 σ=>fn P (XK Kn.b) H k 160 [.int .i64 x0,.pointer c0] σ
noncomputable def B5:Nat→YU:=Ap fun k x0 x1 σ=>fn P (XK Kn.b) H k 161 [.slice x0.1 x0.2.1 x0.2.2,x1] σ
noncomputable def Cc:Nat→C7:=Ap fun k x0 σ=>fn P (XK Kn.b) H k 162 [.pointer x0] σ
noncomputable def Ba:Nat→Az:=Ap fun k x0 x1 σ=>fn P (XK Kn.b) H k 168 [.pointer x0,.int .i64 x1] σ
noncomputable def FG:Nat→GM:=Ap fun k x0_0 x0_1 x0_2 σ=>fn P (XK Kn.b) H k 170 [.agg #[.int .i64 x0_0,.int .i64 x0_1,.int .i64 x0_2]] σ
noncomputable def DL:Nat→Az:=Ap fun k x0 x1 σ=>fn P (XK Kn.b) H k 171 [.pointer x0,.int .i64 x1] σ
noncomputable def CT:Nat→Pp:=Ap fun k n p0 i1 x6 σ=>lp k 171 14 (cB (cR (cL (cR (cR (cR (BM Tryz.f171))))))) n (Lc 0 35 [(0,.pointer p0),(1,.int .i64 i1),(6,.int .i64 x6)]) σ
noncomputable def BP:Nat→Az:=Ap fun k x0 x1 σ=>fn P (XK Kn.b) H k 172 [.pointer x0,.int .i64 x1] σ
noncomputable def Ju:Nat→DC:=Ap fun k x0 x1_0 x1_1 x1_2 σ=>fn P (XK Kn.b) H k 175 [.pointer x0,.agg #[.int .i64 x1_0,.int .i64 x1_1,.int .i64 x1_2]] σ
noncomputable def Jv:Nat→DS:=Ap fun k x0 x1_0 x1_1 x1_2 x2 σ=>fn P (XK Kn.b) H k 176 [.pointer x0,.agg #[.int .i64 x1_0,.int .i64 x1_1,.int .i64 x1_2],.int .i64 x2] σ
noncomputable def Lu:Nat→DS:=Ap fun k x0 x1_0 x1_1 x1_2 x2 σ=>fn P (XK Kn.b) H k 177 [.pointer x0,.agg #[.int .i64 x1_0,.int .i64 x1_1,.int .i64 x1_2],.int .i64 x2] σ
noncomputable def Fj:Nat→GM:=Ap fun k x0_0 x0_1 x0_2 σ=>fn P (XK Kn.b) H k 178 [.agg #[.int .i64 x0_0,.int .i64 x0_1,.int .i64 x0_2]] σ
noncomputable def Bn:Nat→DC:=Ap fun k x0 x1 x2 x3 σ=>fn P (XK Kn.b) H k 179 [.pointer x0,.int .i64 x1,.int .i64 x2,.int .i64 x3] σ
noncomputable def Fo:Nat→GM:=Ap fun k x0_0 x0_1 x0_2 σ=>fn P (XK Kn.b) H k 180 [.agg #[.int .i64 x0_0,.int .i64 x0_1,.int .i64 x0_2]] σ
noncomputable def CS:Nat→CO:=Ap fun k x0 x1 x2 σ=>fn P (XK Kn.b) H k 181 [.pointer x0,.int .i64 x1,.int .i64 x2] σ
noncomputable def Fs:Nat→DS:=Ap fun k x0 x1 x2_0 x2_1 x2_2 σ=>fn P (XK Kn.b) H k 182 [.pointer x0,.int .i64 x1,.agg #[.int .i64 x2_0,.int .i64 x2_1,.int .i64 x2_2]] σ
noncomputable def DV:Nat→DS:=Ap fun k x0 x1 x2_0 x2_1 x2_2 σ=>fn P (XK Kn.b) H k 183 [.pointer x0,.int .i64 x1,.agg #[.int .i64 x2_0,.int .i64 x2_1,.int .i64 x2_2]] σ
noncomputable def TR:Nat→C7:=Ap fun k x0 σ=>fn P (XK Kn.b) H k 184 [.pointer x0] σ
noncomputable def BW:Nat→Az:=Ap fun k x0 x1 σ=>fn P (XK Kn.b) H k 185 [.pointer x0,.int .i64 x1] σ
noncomputable def Kg:Nat→Az:=Ap fun k x0 x1 σ=>fn P (XK Kn.b) H k 186 [.pointer x0,.int .i64 x1] σ
noncomputable def Br:Nat→CO:=Ap fun k x0 x1 x2 σ=>fn P (XK Kn.b) H k 187 [.pointer x0,.int .i64 x1,.int .i64 x2] σ
noncomputable def Gz:Nat→CO:=Ap fun k x0 x1 x2 σ=>fn P (XK Kn.b) H k 188 [.pointer x0,.int .i64 x1,.int .i64 x2] σ
noncomputable def Ga:Nat→DC:=Ap fun k x0 x1 x2 x3 σ=>fn P (XK Kn.b) H k 189 [.pointer x0,.int .i64 x1,.int .i64 x2,.int .i64 x3] σ
noncomputable def EP:Nat→C7:=Ap fun k x0 σ=>fn P (XK Kn.b) H k 190 [.pointer x0] σ
noncomputable def G4:Nat→Az:=Ap fun k x0 x1 σ=>fn P (XK Kn.b) H k 191 [.pointer x0,.int .i64 x1] σ
noncomputable def G5:Nat→Az:=Ap fun k x0 x1 σ=>fn P (XK Kn.b) H k 192 [.pointer x0,.int .i64 x1] σ
noncomputable def Kh:Nat→kQ:=Ap fun k x0 x1 x2 σ=>fn P (XK Kn.b) H k 193 [.pointer x0,.int .i64 x1,.bool x2] σ
noncomputable def Ll:Nat→CO:=Ap fun k x0 x1 x2 σ=>fn P (XK Kn.b) H k 194 [.pointer x0,.int .i64 x1,.int .i64 x2] σ
noncomputable def HO:Nat→Az:=Ap fun k x0 x1 σ=>fn P (XK Kn.b) H k 196 [.pointer x0,.int .i64 x1] σ
noncomputable def J7:Nat→GM:=Ap fun k x0_0 x0_1 x0_2 σ=>fn P (XK Kn.b) H k 197 [.agg #[.int .i64 x0_0,.int .i64 x0_1,.int .i64 x0_2]] σ
noncomputable def Bs:Nat→Az:=Ap fun k x0 x1 σ=>fn P (XK Kn.b) H k 208 [.pointer x0,.int .i64 x1] σ
noncomputable def GA:Nat→C7:=Ap fun k x0 σ=>fn P (XK Kn.b) H k 209 [.pointer x0] σ
noncomputable def Dm:Nat→ND:=Ap fun k n p0 p1 c2 c3 i4 x33 σ=>lp k 209 8 (cB (cR (cL (cR (cR (cT (cR (cL (BM Tryz.f209))))))))) n (Lc 0 80 [(0,.pointer p0),(31,.slice p1 c2 c3),(32,.int .i64 i4),(33,.int .i64 x33)]) σ
noncomputable def GU:Nat→Az:=Ap fun k x0 x1 σ=>fn P (XK Kn.b) H k 210 [.pointer x0,.int .i64 x1] σ
noncomputable def DX:Nat→qO:=Ap fun k n h0 p1 c2 c3 i4 x7 x20 σ=>lp k 210 8 (cB (cR (cL (cR (cR (cR (BM Tryz.f210))))))) n (Lc 0 40 [(5,.pointer (some ⟨h0,0,none⟩)),(7,.slice x7.1 x7.2.1 x7.2.2),(18,.slice p1 c2 c3),(19,.int .i64 i4),(20,.int .i64 x20)]) σ
noncomputable def Co:Nat→CO:=Ap fun k x0 x1 x2 σ=>fn P (XK Kn.b) H k 211 [.pointer x0,.int .i64 x1,.int .i64 x2] σ
noncomputable def Gf:Nat→C7:=Ap fun k x0 σ=>fn P (XK Kn.b) H k 212 [.pointer x0] σ
noncomputable def Er:Nat→ND:=Ap fun k n p0 p1 c2 c3 i4 x26 σ=>lp k 212 10 (cB (cR (cL (cR (cR (cR (BM Tryz.f212))))))) n (Lc 0 76 [(0,.pointer p0),(24,.slice p1 c2 c3),(25,.int .i64 i4),(26,.int .i64 x26)]) σ
noncomputable def Es:Nat→Pp:=Ap fun k n p0 i1 x47 σ=>lp k 212 22 (cB (cR (cL (cR (cR (cR (cR (BM Tryz.f212)))))))) n (Lc 0 76 [(0,.pointer p0),(46,.int .i64 i1),(47,.int .i64 x47)]) σ
noncomputable def D6:Nat→Az:=Ap fun k x0 x1 σ=>fn P (XK Kn.b) H k 213 [.pointer x0,.int .i64 x1] σ
noncomputable def Dp:Nat→Az:=Ap fun k x0 x1 σ=>fn P (XK Kn.b) H k 214 [.pointer x0,.int .i64 x1] σ
noncomputable def Bl:Nat→pZ:=Ap fun k x0 x1 σ=>fn P (XK Kn.b) H k 215 [.slice x0.1 x0.2.1 x0.2.2,.int .i64 x1] σ
noncomputable def EA:Nat→GM:=Ap fun k x0_0 x0_1 x0_2 σ=>fn P (XK Kn.b) H k 216 [.agg #[.int .i64 x0_0,.int .i64 x0_1,.int .i64 x0_2]] σ
noncomputable def Ps:Nat→CO:=Ap fun k x0 x1 x2 σ=>fn P (XK Kn.b) H k 217 [.pointer x0,.int .i64 x1,.int .i64 x2] σ
noncomputable def Ec:Nat→DC:=Ap fun k x0 x1_0 x1_1 x1_2 σ=>fn P (XK Kn.b) H k 218 [.pointer x0,.agg #[.int .i64 x1_0,.int .i64 x1_1,.int .i64 x1_2]] σ
noncomputable def Bp:Nat→C7:=Ap fun k x0 σ=>fn P (XK Kn.b) H k 222 [.pointer x0] σ
noncomputable def ER:Nat→z9:=Ap fun k x0 c0 σ=>fn P (XK Kn.b) H k 223 [.slice x0.1 x0.2.1 x0.2.2,.pointer c0] σ
noncomputable def EG:Nat→YU:=Ap fun k x0 x1 σ=>fn P (XK Kn.b) H k 229 [.slice x0.1 x0.2.1 x0.2.2,x1] σ
noncomputable def Cb:Nat→gW:=Ap fun k n p0 c1 c2 v3 i4 x8 σ=>lp k 229 4 (cB (cR (cL (cR (BM Tryz.f229))))) n (Lc 0 19 [(0,.slice p0 c1 c2),(1,v3),(7,.int .i64 i4),(8,.int .i64 x8)]) σ
noncomputable def CY:Nat→C7:=Ap fun k x0 σ=>fn P (XK Kn.b) H k 231 [.pointer x0] σ
noncomputable def Gy:Nat→kQ:=Ap fun k x0 x1 x2 σ=>fn P (XK Kn.b) H k 234 [.pointer x0,.int .i64 x1,.bool x2] σ
noncomputable def E9:Nat→Az:=Ap fun k x0 x1 σ=>fn P (XK Kn.b) H k 235 [.pointer x0,.int .i64 x1] σ
noncomputable def DM:Nat→Pp:=Ap fun k n p0 i1 x5 σ=>lp k 235 4 (cB (cL (cR (cR (BM Tryz.f235))))) n (Lc 0 42 [(0,.pointer p0),(1,.int .i64 i1),(5,.int .i64 x5)]) σ
noncomputable def KW:Nat→Az:=Ap fun k x0 x1 σ=>fn P (XK Kn.b) H k 236 [.pointer x0,.int .i64 x1] σ
noncomputable def IX:Nat→sE:=Ap fun k n p0 i1 i2 x6 σ=>lp k 236 10 (cB (cL (cR (cB (cL (cR (cB (cB (cR (cL (cR (BM Tryz.f236)))))))))))) n (Lc 0 32 [(0,.pointer p0),(1,.int .i64 i1),(5,.int .i64 i2),(6,.int .i64 x6)]) σ
noncomputable def IW:Nat→Pp:=Ap fun k n p0 i1 x5 σ=>lp k 236 4 (cB (cR (cL (cR (BM Tryz.f236))))) n (Lc 0 32 [(0,.pointer p0),(1,.int .i64 i1),(5,.int .i64 x5)]) σ
noncomputable def Eh:Nat→DC:=Ap fun k x0 x1 x2 x3 σ=>fn P (XK Kn.b) H k 237 [.pointer x0,.int .i64 x1,.int .i64 x2,.int .i64 x3] σ
noncomputable def Cv:Nat→sE:=Ap fun k n p0 i1 i2 x9 σ=>lp k 237 12 (cB (cR (cL (cR (cR (cR (BM Tryz.f237))))))) n (Lc 0 78 [(0,.pointer p0),(1,.int .i64 i1),(2,.int .i64 i2),(9,.int .i64 x9)]) σ
noncomputable def Cw:Nat→cY:=Ap fun k n p0 i1 i2 i3 x10 σ=>lp k 237 22 (cB (cR (cL (cR (cR (cR (cR (BM Tryz.f237)))))))) n (Lc 0 78 [(0,.pointer p0),(1,.int .i64 i1),(2,.int .i64 i2),(3,.int .i64 i3),(10,.int .i64 x10)]) σ
noncomputable def SK:Nat→DS:=Ap fun k x0 x1_0 x1_1 x1_2 x2 σ=>fn P (XK Kn.b) H k 238 [.pointer x0,.agg #[.int .i64 x1_0,.int .i64 x1_1,.int .i64 x1_2],.int .i64 x2] σ
noncomputable def Kj:Nat→yj:=Ap fun k n h0 p1 c2 c3 x10 σ=>lp k 238 14 (cB (cR (cR (cR (cB (cL (cR (cB (cB (cR (cL (cR (BM Tryz.f238))))))))))))) n (Lc 0 50 [(4,.pointer (some ⟨h0,0,none⟩)),(9,.slice p1 c2 c3),(10,.int .i64 x10)]) σ
noncomputable def Ii:Nat→Aby:=Ap fun k n p0 i1 h2 x8 σ=>lp k 238 4 (cB (cR (cL (cR (BM Tryz.f238))))) n (Lc 0 50 [(0,.pointer p0),(2,.int .i64 i1),(4,.pointer (some ⟨h2,0,none⟩)),(8,.int .i64 x8)]) σ
noncomputable def G0:Nat→CO:=Ap fun k x0 x1 x2 σ=>fn P (XK Kn.b) H k 239 [.pointer x0,.int .i64 x1,.int .i64 x2] σ
noncomputable def CF:Nat→GM:=Ap fun k x0_0 x0_1 x0_2 σ=>fn P (XK Kn.b) H k 240 [.agg #[.int .i64 x0_0,.int .i64 x0_1,.int .i64 x0_2]] σ
noncomputable def DW:Nat→R4:=Ap fun k x0 x1 x2 x3_0 x3_1 x4_0 x4_1 σ=>fn P (XK Kn.b) H k 241 [.pointer x0,.int .i64 x1,.int .i64 x2,.agg #[.int .i64 x3_0,.int .i64 x3_1],.agg #[.int .i64 x4_0,.int .i64 x4_1]] σ
noncomputable def Dv:Nat→yn:=Ap fun k n p0 i1 h2 i3 x54 σ=>lp k 241 16 (cB (cR (cL (cR (cR (BM Tryz.f241)))))) n (Lc 0 74 [(0,.pointer p0),(1,.int .i64 i1),(9,.pointer (some ⟨h2,0,none⟩)),(53,.int .i64 i3),(54,.int .i64 x54)]) σ
noncomputable def Jt:Nat→uB:=Ap fun k x0 x1 x2_0 x2_1 x2_2 x3 σ=>fn P (XK Kn.b) H k 242 [.pointer x0,.int .i64 x1,.agg #[.int .i64 x2_0,.int .i64 x2_1,.int .i64 x2_2],.int .i64 x3] σ
noncomputable def Dx:Nat→yl:=Ap fun k n p0 i1 i2 h3 x10 σ=>lp k 242 20 (cB (cR (cL (cR (cR (cR (cR (BM Tryz.f242)))))))) n (Lc 0 113 [(0,.pointer p0),(1,.int .i64 i1),(3,.int .i64 i2),(6,.pointer (some ⟨h3,0,none⟩)),(10,.int .i64 x10)]) σ
noncomputable def HP:Nat→kR:=Ap fun k x0 x1_0 x1_1 x1_2 x1_3 x1_4 x1_5 x1_6 x1_7 σ=>fn P (XK Kn.b) H k 243 [.pointer x0,.agg #[.int .i64 x1_0,.int .i64 x1_1,.int .i64 x1_2,.int .i64 x1_3,.int .i64 x1_4,.slice x1_5.1 x1_5.2.1 x1_5.2.2,.slice x1_6.1 x1_6.2.1 x1_6.2.2,.bool x1_7]] σ
noncomputable def EO:Nat→ey:=Ap fun k n p0 h1 x4 σ=>lp k 243 4 (cB (cL (cR (cR (BM Tryz.f243))))) n (Lc 0 51 [(0,.pointer p0),(3,.pointer (some ⟨h1,0,none⟩)),(4,.int .i64 x4)]) σ
noncomputable def Gx:Nat→DC:=Ap fun k x0 x1 x2 x3 σ=>fn P (XK Kn.b) H k 244 [.pointer x0,.int .i64 x1,.int .i64 x2,.int .i64 x3] σ
noncomputable def Dl:Nat→cY:=Ap fun k n p0 i1 i2 i3 x10 σ=>lp k 244 20 (cB (cR (cL (cR (cR (cR (cR (BM Tryz.f244)))))))) n (Lc 0 96 [(0,.pointer p0),(1,.int .i64 i1),(2,.int .i64 i2),(3,.int .i64 i3),(10,.int .i64 x10)]) σ
noncomputable def J6:Nat→GM:=Ap fun k x0_0 x0_1 x0_2 σ=>fn P (XK Kn.b) H k 245 [.agg #[.int .i64 x0_0,.int .i64 x0_1,.int .i64 x0_2]] σ
noncomputable def D5:Nat→nJ:=Ap fun k x0 x1 x2 σ=>fn P (XK Kn.b) H k 246 [.pointer x0,.int .i64 x1,.slice x2.1 x2.2.1 x2.2.2] σ
noncomputable def EF:Nat→CO:=Ap fun k x0 x1 x2 σ=>fn P (XK Kn.b) H k 247 [.pointer x0,.int .i64 x1,.int .i64 x2] σ
noncomputable def DY:Nat→DC:=Ap fun k x0 x1 x2 x3 σ=>fn P (XK Kn.b) H k 254 [.pointer x0,.int .i64 x1,.int .i64 x2,.int .i64 x3] σ
noncomputable def Dz:Nat→cY:=Ap fun k n p0 i1 i2 i3 x32 σ=>lp k 254 14 (cB (cR (cL (cR (cR (cR (BM Tryz.f254))))))) n (Lc 0 42 [(0,.pointer p0),(1,.int .i64 i1),(3,.int .i64 i2),(31,.int .i64 i3),(32,.int .i64 x32)]) σ
noncomputable def Jr:Nat→Az:=Ap fun k x0 x1 σ=>fn P (XK Kn.b) H k 255 [.pointer x0,.int .i64 x1] σ
noncomputable def Ge:Nat→yk:=Ap fun k n p0 i1 i2 x7 x22 σ=>lp k 255 8 (cB (cR (cL (cR (cR (cR (BM Tryz.f255))))))) n (Lc 0 38 [(0,.pointer p0),(1,.int .i64 i1),(7,.slice x7.1 x7.2.1 x7.2.2),(21,.int .i64 i2),(22,.int .i64 x22)]) σ
noncomputable def GH:Nat→j4:=Ap fun k x0 x1 σ=>fn P (XK Kn.b) H k 256 [.int .i64 x0,.int .i64 x1] σ
noncomputable def DR:Nat→C7:=Ap fun k x0 σ=>fn P (XK Kn.b) H k 257 [.pointer x0] σ
noncomputable def BE:Nat→qU:=Ap fun k n p0 p1 c2 c3 i4 x2 x17 σ=>lp k 257 4 (cB (cR (cL (cR (BM Tryz.f257))))) n (Lc 0 70 [(0,.pointer p0),(2,.slice x2.1 x2.2.1 x2.2.2),(15,.slice p1 c2 c3),(16,.int .i64 i4),(17,.int .i64 x17)]) σ
noncomputable def Cl:Nat→ND:=Ap fun k n p0 p1 c2 c3 i4 x62 σ=>lp k 257 22 (cB (cR (cR (cR (BM Tryz.f257))))) n (Lc 0 70 [(0,.pointer p0),(60,.slice p1 c2 c3),(61,.int .i64 i4),(62,.int .i64 x62)]) σ
noncomputable def B7:Nat→Az:=Ap fun k x0 x1 σ=>fn P (XK Kn.b) H k 258 [.pointer x0,.int .i64 x1] σ
noncomputable def HE:Nat→hO:=Ap fun k x0 x1 x2 σ=>fn P (XK Kn.b) H k 259 [.pointer x0,.int .i64 x1,x2] σ
noncomputable def Da:Nat→C7:=Ap fun k x0 σ=>fn P (XK Kn.b) H k 260 [.pointer x0] σ
noncomputable def G7:Nat→pZ:=Ap fun k x0 x1 σ=>fn P (XK Kn.b) H k 261 [.slice x0.1 x0.2.1 x0.2.2,.int .i64 x1] σ
noncomputable def Dh:Nat→uq:=Ap fun k n p0 c1 c2 i3 i4 x8 σ=>lp k 261 4 (cB (cR (cL (cR (BM Tryz.f261))))) n (Lc 0 19 [(0,.slice p0 c1 c2),(1,.int .i64 i3),(7,.int .i64 i4),(8,.int .i64 x8)]) σ
noncomputable def F4:Nat→T_:=Ap fun k  σ=>fn P (XK Kn.b) H k 262 [] σ
noncomputable def E8:Nat→C7:=Ap fun k x0 σ=>fn P (XK Kn.b) H k 263 [.pointer x0] σ
noncomputable def Ed:Nat→Az:=Ap fun k x0 x1 σ=>fn P (XK Kn.b) H k 264 [.pointer x0,.int .i64 x1] σ
noncomputable def Ct:Nat→Pp:=Ap fun k n p0 i1 x7 σ=>lp k 264 6 (cB (cR (cL (cR (cR (BM Tryz.f264)))))) n (Lc 0 37 [(0,.pointer p0),(6,.int .i64 i1),(7,.int .i64 x7)]) σ
noncomputable def CW:Nat→Az:=Ap fun k x0 x1 σ=>fn P (XK Kn.b) H k 270 [.pointer x0,.int .i64 x1] σ
noncomputable def Cx:Nat→Az:=Ap fun k x0 x1 σ=>fn P (XK Kn.b) H k 271 [.pointer x0,.int .i64 x1] σ
noncomputable def Fu:Nat→Az:=Ap fun k x0 x1 σ=>fn P (XK Kn.b) H k 272 [.pointer x0,.int .i64 x1] σ
noncomputable def J8:Nat→kP:=Ap fun k x0 σ=>fn P (XK Kn.b) H k 273 [.int .i64 x0] σ
noncomputable def Ft:Nat→Az:=Ap fun k x0 x1 σ=>fn P (XK Kn.b) H k 274 [.pointer x0,.int .i64 x1] σ
noncomputable def Js:Nat→Az:=Ap fun k x0 x1 σ=>fn P (XK Kn.b) H k 275 [.pointer x0,.int .i64 x1] σ
noncomputable def Dw:Nat→qV:=Ap fun k n p0 p1 c2 c3 x5 x6 x8 σ=>lp k 275 14 (cB (cR (cL (cR (cR (cR (cR (cR (BM Tryz.f275))))))))) n (Lc 0 77 [(0,.pointer p0),(5,.slice x5.1 x5.2.1 x5.2.2),(6,.int .i64 x6),(7,.slice p1 c2 c3),(8,.int .i64 x8)]) σ
noncomputable def KU:Nat→kP:=Ap fun k x0 σ=>fn P (XK Kn.b) H k 276 [.int .i64 x0] σ
noncomputable def BQ:Nat→YU:=Ap fun k x0 x1 σ=>fn P (XK Kn.b) H k 277 [.slice x0.1 x0.2.1 x0.2.2,x1] σ
noncomputable def CU:Nat→j4:=Ap fun k x0_0 x0_1 σ=>fn P (XK Kn.b) H k 278 [.agg #[.int .i64 x0_0,.int .i64 x0_1]] σ
noncomputable def G3:Nat→Az:=Ap fun k x0 x1 σ=>fn P (XK Kn.b) H k 279 [.pointer x0,.int .i64 x1] σ
noncomputable def DQ:Nat→Pp:=Ap fun k n p0 i1 x5 σ=>lp k 279 12 (cB (cL (cR (cR (cR (cR (BM Tryz.f279))))))) n (Lc 0 49 [(0,.pointer p0),(1,.int .i64 i1),(5,.int .i64 x5)]) σ
noncomputable def Gv:Nat→Az:=Ap fun k x0 x1 σ=>fn P (XK Kn.b) H k 280 [.pointer x0,.int .i64 x1] σ
noncomputable def C6:Nat→u9:=Ap fun k x0 c0 σ=>fn P (XK Kn.b) H k 281 [.int .i64 x0,.pointer c0] σ
noncomputable def Fv:Nat→Az:=Ap fun k x0 x1 σ=>fn P (XK Kn.b) H k 282 [.pointer x0,.int .i64 x1] σ
noncomputable def GV:Nat→Az:=Ap fun k x0 x1 σ=>fn P (XK Kn.b) H k 286 [.pointer x0,.int .i64 x1] σ
noncomputable def Ei:Nat→sF:=Ap fun k n p0 i1 x5 x6 σ=>lp k 286 6 (cB (cR (cL (cR (cR (BM Tryz.f286)))))) n (Lc 0 43 [(0,.pointer p0),(1,.int .i64 i1),(5,.slice x5.1 x5.2.1 x5.2.2),(6,.int .i64 x6)]) σ
noncomputable def Jq:Nat→Az:=Ap fun k x0 x1 σ=>fn P (XK Kn.b) H k 290 [.pointer x0,.int .i64 x1] σ
noncomputable def Hn:Nat→hO:=Ap fun k x0 x1 x2 σ=>fn P (XK Kn.b) H k 291 [.pointer x0,.int .i64 x1,x2] σ
noncomputable def De:Nat→uo:=Ap fun k n p0 i1 h2 i3 x11 x44 σ=>lp k 291 18 (cB (cR (cL (cR (cR (cR (cR (cR (BM Tryz.f291))))))))) n (Lc 0 70 [(0,.pointer p0),(1,.int .i64 i1),(7,.pointer (some ⟨h2,0,none⟩)),(11,.int .i64 x11),(43,.int .i64 i3),(44,.int .i64 x44)]) σ
noncomputable def CA:Nat→YU:=Ap fun k x0 x1 σ=>fn P (XK Kn.b) H k 292 [.slice x0.1 x0.2.1 x0.2.2,x1] σ
noncomputable def Bb:Nat→gW:=Ap fun k n p0 c1 c2 v3 i4 x8 σ=>lp k 292 4 (cB (cR (cL (cR (BM Tryz.f292))))) n (Lc 0 19 [(0,.slice p0 c1 c2),(1,v3),(7,.int .i64 i4),(8,.int .i64 x8)]) σ
noncomputable def FJ:Nat→CO:=Ap fun k x0 x1 x2 σ=>fn P (XK Kn.b) H k 293 [.pointer x0,.int .i64 x1,.int .i64 x2] σ
noncomputable def D0:Nat→Pp:=Ap fun k n p0 i1 x8 σ=>lp k 293 8 (cB (cR (cL (cR (cR (BM Tryz.f293)))))) n (Lc 0 30 [(0,.pointer p0),(2,.int .i64 i1),(8,.int .i64 x8)]) σ
noncomputable def FT:Nat→Az:=Ap fun k x1 x2 σ=>fn P (XK Kn.b) H k 311 [.agg #[],.pointer x1,.int .i64 x2] σ
noncomputable def Bz:Nat→uC:=Ap fun k x0 x1 σ=>fn P (XK Kn.b) H k 312 [.pointer x0,.slice x1.1 x1.2.1 x1.2.2] σ
noncomputable def B8:Nat→CO:=Ap fun k x0 x1 x2 σ=>fn P (XK Kn.b) H k 313 [.pointer x0,.int .i64 x1,.int .i64 x2] σ
noncomputable def CK:Nat→mW:=Ap fun k n i0 i1 p2 c3 c4 i5 x7 x27 σ=>lp k 313 12 (cB (cR (cR (cB (cL (cR (cR (cB (cB (cR (cL (cR (cR (BM Tryz.f313)))))))))))))) n (Lc 0 55 [(1,.int .i64 i0),(2,.int .i64 i1),(7,.slice x7.1 x7.2.1 x7.2.2),(25,.slice p2 c3 c4),(26,.int .i64 i5),(27,.int .i64 x27)]) σ
noncomputable def CJ:Nat→kN:=Ap fun k n p0 i1 i2 p3 c4 c5 i6 x7 x16 σ=>lp k 313 6 (cB (cR (cL (cR (cR (BM Tryz.f313)))))) n (Lc 0 55 [(0,.pointer p0),(1,.int .i64 i1),(2,.int .i64 i2),(7,.slice x7.1 x7.2.1 x7.2.2),(14,.slice p3 c4 c5),(15,.int .i64 i6),(16,.int .i64 x16)]) σ
noncomputable def Bx:Nat→C7:=Ap fun k x0 σ=>fn P (XK Kn.b) H k 314 [.pointer x0] σ
noncomputable def Cs:Nat→ey:=Ap fun k n p0 h1 x4 σ=>lp k 314 4 (cB (cR (cL (cR (BM Tryz.f314))))) n (Lc 0 32 [(0,.pointer p0),(2,.pointer (some ⟨h1,0,none⟩)),(4,.int .i64 x4)]) σ
noncomputable def Cj:Nat→C7:=Ap fun k x0 σ=>fn P (XK Kn.b) H k 315 [.pointer x0] σ
noncomputable def Cf:Nat→sF:=Ap fun k n p0 i1 x3 x10 σ=>lp k 315 6 (cB (cR (cL (cR (cR (BM Tryz.f315)))))) n (Lc 0 39 [(0,.pointer p0),(3,.slice x3.1 x3.2.1 x3.2.2),(9,.int .i64 i1),(10,.int .i64 x10)]) σ
noncomputable def HN:Nat→Az:=Ap fun k x0 x1 σ=>fn P (XK Kn.b) H k 316 [.pointer x0,.int .i64 x1] σ
noncomputable def EN:Nat→YO:=Ap fun k n p0 h1 h2 p3 c4 c5 i6 x21 σ=>lp k 316 14 (cB (cR (cL (cR (cR (cR (cR (cR (BM Tryz.f316))))))))) n (Lc 0 40 [(0,.pointer p0),(6,.pointer (some ⟨h1,0,none⟩)),(7,.func (.func 318) #[] #[.pointer (some ⟨h1,0,none⟩),.pointer (some ⟨h2,0,none⟩)]),(19,.slice p3 c4 c5),(20,.int .i64 i6),(21,.int .i64 x21)]) σ
noncomputable def F6:Nat→Az:=Ap fun k x0 x1 σ=>fn P (XK Kn.b) H k 317 [.pointer x0,.int .i64 x1] σ
noncomputable def DK:Nat→nI:=Ap fun k x0 c0 c1 σ=>fn P (XK Kn.b) H k 318 [.int .i64 x0,.pointer c0,.pointer c1] σ
noncomputable def Gr:Nat→Az:=Ap fun k x1 x2 σ=>fn P (XK Kn.b) H k 319 [.agg #[],.pointer x1,.int .i64 x2] σ
noncomputable def Cd:Nat→YU:=Ap fun k x0 x1 σ=>fn P (XK Kn.b) H k 320 [.slice x0.1 x0.2.1 x0.2.2,x1] σ
noncomputable def Fa:Nat→fH:=Ap fun k x0_0 x0_1 x1_0 x1_1 σ=>fn P (XK Kn.b) H k 321 [.agg #[.int .i64 x0_0,.int .i64 x0_1],.agg #[.int .i64 x1_0,.int .i64 x1_1]] σ
noncomputable def Cn:Nat→qY:=Ap fun k x0 x1 x2 σ=>fn P (XK Kn.b) H k 322 [.slice x0.1 x0.2.1 x0.2.2,.int .i64 x1,x2] σ
noncomputable def Bh:Nat→qR:=Ap fun k n p0 c1 c2 i3 v4 x7 x8 σ=>lp k 322 4 (cB (cL (cR (cR (BM Tryz.f322))))) n (Lc 0 63 [(0,.slice p0 c1 c2),(1,.int .i64 i3),(2,v4),(6,.int .i64 (20:Int)),(7,.int .i64 x7),(8,.int .i64 x8)]) σ
noncomputable def Bj:Nat→mX:=Ap fun k n p0 c1 c2 i3 v4 i5 x7 x8 σ=>lp k 322 18 (cB (cL (cR (cB (cR (cB (cB (cR (cR (cR (cR (BM Tryz.f322)))))))))))) n (Lc 0 63 [(0,.slice p0 c1 c2),(1,.int .i64 i3),(2,v4),(6,.int .i64 i5),(7,.int .i64 x7),(8,.int .i64 x8)]) σ
noncomputable def Bi:Nat→gV:=Ap fun k n p0 c1 c2 i3 v4 x6 σ=>lp k 322 14 (cB (cR (cR (cR (cR (BM Tryz.f322)))))) n (Lc 0 63 [(0,.slice p0 c1 c2),(1,.int .i64 i3),(2,v4),(6,.int .i64 x6)]) σ
noncomputable def AO:Nat→fJ:=Ap fun k x0 x1 x2 x3 σ=>fn P (XK Kn.b) H k 323 [.slice x0.1 x0.2.1 x0.2.2,.int .i64 x1,.int .i64 x2,x3] σ
noncomputable def AR:Nat→gV:=Ap fun k n p0 c1 c2 i3 v4 x9 σ=>lp k 323 8 (cB (cR (cB (cL (cR (cB (cB (cR (BM Tryz.f323))))))))) n (Lc 0 53 [(0,.slice p0 c1 c2),(1,.int .i64 i3),(3,v4),(9,.int .i64 x9)]) σ
noncomputable def AQ:Nat→qQ:=Ap fun k n p0 c1 c2 i3 i4 v5 x8 σ=>lp k 323 2 (cB (cR (BM Tryz.f323))) n (Lc 0 53 [(0,.slice p0 c1 c2),(1,.int .i64 i3),(2,.int .i64 i4),(3,v5),(8,.int .i64 x8)]) σ
noncomputable def BR:Nat→sJ:=Ap fun k x0 x1 x2 x3 x4 σ=>fn P (XK Kn.b) H k 324 [.slice x0.1 x0.2.1 x0.2.2,.int .i64 x1,.int .i64 x2,.int .i64 x3,x4] σ
noncomputable def Gt:Nat→Az:=Ap fun k x1 x2 σ=>fn P (XK Kn.b) H k 327 [.agg #[],.pointer x1,.int .i64 x2] σ
noncomputable def Gs:Nat→Az:=Ap fun k x1 x2 σ=>fn P (XK Kn.b) H k 328 [.agg #[],.pointer x1,.int .i64 x2] σ
noncomputable def Ck:Nat→nK:=Ap fun k x0 x1 x2 σ=>fn P (XK Kn.b) H k 329 [.pointer x0,.pointer x1,.int .i64 x2] σ
noncomputable def Fz:Nat→Az:=Ap fun k x0 x1 σ=>fn P (XK Kn.b) H k 330 [.pointer x0,.int .i64 x1] σ
noncomputable def EV:Nat→Az:=Ap fun k x0 x1 σ=>fn P (XK Kn.b) H k 331 [.pointer x0,.int .i64 x1] σ
noncomputable def FU:Nat→Az:=Ap fun k x1 x2 σ=>fn P (XK Kn.b) H k 332 [.agg #[],.pointer x1,.int .i64 x2] σ
noncomputable def E7:Nat→C7:=Ap fun k x0 σ=>fn P (XK Kn.b) H k 333 [.pointer x0] σ
noncomputable def CN:Nat→Abz:=Ap fun k n p0 c1 c2 x8 σ=>lp k 333 18 (cB (cL (cR (cB (cL (cR (cB (cB (cR (cR (cR (cB (cL (cR (cR (cB (cB (cR (cL (cR (BM Tryz.f333))))))))))))))))))))) n (Lc 0 75 [(6,.slice p0 c1 c2),(8,.int .i64 x8)]) σ
noncomputable def CM:Nat→qP:=Ap fun k n p0 h1 i2 p3 c4 c5 x7 σ=>lp k 333 12 (cB (cR (cR (cR (cB (cL (cR (cR (cB (cB (cR (cL (cR (BM Tryz.f333)))))))))))))) n (Lc 0 75 [(0,.pointer p0),(2,.pointer (some ⟨h1,0,none⟩)),(5,.int .i64 i2),(6,.slice p3 c4 c5),(7,.int .i64 x7)]) σ
noncomputable def CL:Nat→qT:=Ap fun k n p0 h1 p2 c3 c4 i5 x13 σ=>lp k 333 4 (cB (cR (cL (cR (BM Tryz.f333))))) n (Lc 0 75 [(0,.pointer p0),(2,.pointer (some ⟨h1,0,none⟩)),(11,.slice p2 c3 c4),(12,.int .i64 i5),(13,.int .i64 x13)]) σ
noncomputable def Hd:Nat→Az:=Ap fun k x0 x1 σ=>fn P (XK Kn.b) H k 334 [.pointer x0,.int .i64 x1] σ
noncomputable def Em:Nat→Abx:=Ap fun k n h0 c1 i2 x10 σ=>lp k 334 18 (cB (cR (cR (cR (cB (cL (cR (cR (cB (cB (cR (cL (cR (cR (cR (BM Tryz.f334)))))))))))))))) n (Lc 0 46 [(5,.slice (some ⟨h0,0,none⟩) c1 c1),(9,.int .i64 i2),(10,.int .i64 x10)]) σ
noncomputable def Ek:Nat→YO:=Ap fun k n p0 h1 c2 p3 c4 c5 i6 x20 σ=>lp k 334 10 (cB (cR (cL (cR (cR (cR (BM Tryz.f334))))))) n (Lc 0 46 [(0,.pointer p0),(5,.slice (some ⟨h1,0,none⟩) c2 c2),(18,.slice p3 c4 c5),(19,.int .i64 i6),(20,.int .i64 x20)]) σ
noncomputable def GS:Nat→TV:=Ap fun k f args σ=>I6 P (fn P (XK Kn.b) H k) f args σ
noncomputable def Pt:Nat→TV:=Ap fun k f args σ=>I6 P (fn P (XK Kn.b) H k) f args σ
noncomputable def St:Nat→TV:=Ap fun k f args σ=>I6 P (fn P (XK Kn.b) H k) f args σ
noncomputable def F5:Nat→TV:=Ap fun k f args σ=>I6 P (fn P (XK Kn.b) H k) f args σ
noncomputable def Jn:Nat→TV:=Ap fun k f args σ=>I6 P (fn P (XK Kn.b) H k) f args σ
noncomputable def Qt:Nat→TV:=Ap fun k f args σ=>I6 P (fn P (XK Kn.b) H k) f args σ
end
section
variable [AA]
end
end Go.Proofs.YtphkfdnecpacmaaGreat
