/- THE ABSTRACT EXECUTOR: a deterministic executor of the model's code over an abstract memory (handles in the place of block numbers; no spare capacity, -/
import Derived.WalkKit
import Derived.KernelRfl
set_option linter.unusedVariables false
set_option linter.unusedSimpArgs false
set_option linter.unusedSectionVars false
section
namespace Go.AX
open Go
inductive Dg where
 | normal | exit (id:Nat) | ret
 deriving DecidableEq,Inhabited
inductive LSt where
 | ready | busy | done (x:Dg)
 deriving DecidableEq,Inhabited
inductive A6 where
 | cells (vs:List Value) (T:TypeId) (rw:Bool)
 | map (es:List (Int × Value))
 | loop (f:FuncId) (st:LSt) (regs:List (Option Value))
 | dead
 deriving Inhabited
abbrev Aa:=List A6
abbrev AZ:=List (Option Value)
inductive Kd where
 | int (k:IntKind) | bool | str | ptr | slice | map | func | any
 deriving DecidableEq,Inhabited
def Md (k:IntKind):Value→Option Int
 | .int k' n=>if k'=k then some n else none
 | _=>none
def Ey:Value→Option Bool
 | .bool b=>some b
 | _=>none
def toStr:Value→Option ByteArray
 | .string b=>some b
 | _=>none
def Oe:Value→Option (Option Addr)
 | .pointer a=>some a
 | _=>none
def H0:Value→Option (Option Addr × Nat × Nat)
 | .slice a l c=>some (a,l,c)
 | _=>none
def ud:Value→Option (Option Nat)
 | .map r=>some r
 | _=>none
def toA:Value→Option (List Value)
 | .agg vs=>some vs.toList
 | _=>none
def pV:Value→Option (List Value)
 | .tuple vs=>some vs.toList
 | _=>none
def Gg (σ:Aa) (b o:Nat):Option Value:=
 match σ[b]? with
 | some (.cells vs _ _)=>vs[o]?
 | _=>none
def Df (k:IntKind) (σ:Aa) (b o:Nat):Option Int:=(Gg σ b o).bind (Md k)
def lk (σ:Aa) (b o:Nat):Option Bool:=(Gg σ b o).bind Ey
def rH (σ:Aa) (b o:Nat):Option ByteArray:=(Gg σ b o).bind toStr
def Lw (σ:Aa) (b o:Nat):Option (Option Addr):=(Gg σ b o).bind Oe
def Hr (σ:Aa) (b o:Nat):Option (Option Addr × Nat × Nat):=(Gg σ b o).bind H0
def ldM (σ:Aa) (b o:Nat):Option (Option Nat):=(Gg σ b o).bind ud
section
variable {ρ:Type}
def asK (k:Kd) (v:Value) (K:Value→Option ρ):Option ρ:=
 match k with
 | .int k=>(Md k v).bind fun n=>K (.int k n)
 | .bool=>(Ey v).bind fun b=>K (.bool b)
 | .str=>(toStr v).bind fun s=>K (.string s)
 | .ptr=>(Oe v).bind fun a=>K (.pointer a)
 | .slice=>(H0 v).bind fun s=>K (.slice s.1 s.2.1 s.2.2)
 | .map=>(ud v).bind fun r=>K (.map r)
 | .func=>K v
 | .any=>K v
def tc:List Kd→List Value→(List Value→Option ρ)→Option ρ
 | [],_,K=>K []
 | k::ks,l,K=>l.head?.bind fun v=>asK k v fun v=>tc ks l.tail fun vs=>K (v::vs)
def ldK (k:Kd) (σ:Aa) (b o:Nat) (K:Value→Option ρ):Option ρ:=
 match k with
 | .int k=>(Df k σ b o).bind fun n=>K (.int k n)
 | .bool=>(lk σ b o).bind fun b=>K (.bool b)
 | .str=>(rH σ b o).bind fun s=>K (.string s)
 | .ptr=>(Lw σ b o).bind fun a=>K (.pointer a)
 | .slice=>(Hr σ b o).bind fun s=>K (.slice s.1 s.2.1 s.2.2)
 | .map=>(ldM σ b o).bind fun r=>K (.map r)
 | .func=>(Gg σ b o).bind K
 | .any=>(Gg σ b o).bind K
def oM:List Kd→Aa→Nat→Nat→(List Value→Option ρ)→Option ρ
 | [],_,_,_,K=>K []
 | k::ks,σ,b,o,K=>ldK k σ b o fun v=>oM ks σ b (o+1) fun vs=>K (v::vs)
end
def Adl:TypeDesc→Kd
 | .int k=>.int k
 | .bool=>.bool
 | .string=>.str
 | .pointer _=>.ptr
 | .slice _=>.slice
 | .map _ _=>.map
 | .func _ _ _=>.func
 | _=>.any
def flat (P:Program):Nat→TypeId→List Kd
 | 0,_=>[]
 | d+1,T=>match P.underlying T with
   | some (.struct fs)=>fs.toList.flatMap fun f=>flat P d f.type
   | some (.array n e)=>(List.range n).flatMap fun _=>flat P d e
   | some t=>[Adl t]
   | none=>[]
def N5 (P:Program) (T:TypeId):Bool:=
 match P.underlying T with
 | some (.struct _) | some (.array _ _)=>true
 | _=>false
def AK (cs:List Value) (o:Nat) (vs:List Value):List Value:=cs.take o++vs++cs.drop (o+vs.length)
def JC:Value→Bool
 | .bool _ | .int _ _ | .string _ | .pointer none | .slice none 0 0 | .map none | .nilFunc | .nilIface=>true
 | .func (.yield _) _ _=>false
 | .func _ a b=>a.toList.isEmpty && b.toList.isEmpty
 | _=>false
def JR:Value→Bool
 | .agg vs=>vs.toList.all JC
 | .tuple vs=>vs.toList.all JC
 | v=>JC v
def GW:Value→Bool
 | .tuple _=>true
 | _=>false
def Kx (σ:Aa) (b o:Nat) (v:Value):Option Aa:=
 match σ[b]? with
 | some (.cells cs T true)=>if o<cs.length then some (σ.set b (.cells (cs.set o v) T true)) else none
 | _=>none
def X5 (σ:Aa) (b o:Nat) (vs:List Value):Option Aa:=
 match σ[b]? with
 | some (.cells cs T true)=>if o+vs.length≤cs.length then some (σ.set b (.cells (AK cs o vs) T true)) else none
 | _=>none
def Jb (σ:Aa) (b:Nat):Bool:=
 match σ[b]? with
 | some (.cells _ _ rw)=>rw
 | some (.map _)=>true
 | _=>false
def Z1 (σ:Aa) (b o n:Nat):Option (List Value):=
 match σ[b]? with
 | some (.cells vs _ _)=>if o+n≤vs.length then some ((vs.drop o).take n) else none
 | _=>none
def Yn (σ:Aa) (r:Nat):Option (List (Int × Value)):=
 match σ[r]? with
 | some (.map es)=>some es
 | _=>none
def TF (es:List (Int × Value)) (k:Int):Option Value:=(es.find? fun e=>k == e.1).map (·.2)
def VC (k:Int) (v:Value):List (Int × Value)→List (Int × Value)
 | []=>[(k,v)]
 | e::es=>if k == e.1 then (k,v)::es else e::VC k v es
def RU (k:Int):List (Int × Value)→List (Int × Value)
 | []=>[]
 | e::es=>if k == e.1 then es else e::RU k es
section
variable {ρ:Type}
def Aig (op:BinOp) (k:IntKind) (a b:Int) (K:Value→Option ρ):Option ρ:=
 match op with
 | .add=>K (.int k (k.wrap (a+b)))
 | .sub=>K (.int k (k.wrap (a-b)))
 | .mul=>K (.int k (k.wrap (a*b)))
 | .quo=>if b=0 then none else K (.int k (k.wrap (a.tdiv b)))
 | .rem=>if b=0 then none else K (.int k (a.tmod b))
 | .and=>K (.int k (k.wrap (BitVec.ofInt k.bits a &&& BitVec.ofInt k.bits b).toNat))
 | .or=>K (.int k (k.wrap (BitVec.ofInt k.bits a ||| BitVec.ofInt k.bits b).toNat))
 | .xor=>K (.int k (k.wrap (BitVec.ofInt k.bits a ^^^ BitVec.ofInt k.bits b).toNat))
 | .andNot=>K (.int k (k.wrap (BitVec.ofInt k.bits a &&& ~~~ (BitVec.ofInt k.bits b)).toNat))
 | .eql=>K (.bool (a == b))
 | .neq=>K (.bool (a != b))
 | .lss=>K (.bool (decide (a<b)))
 | .leq=>K (.bool (decide (a≤b)))
 | .gtr=>K (.bool (decide (a>b)))
 | .geq=>K (.bool (decide (a≥b)))
 | .shl | .shr=>none
def tQ (op:BinOp) (k:IntKind) (a b:Int) (K:Value→Option ρ):Option ρ:=
 if b<0 then none else
 match op with
 | .shl=>K (.int k (k.wrap (a*2 ^ (min b.toNat k.bits))))
 | .shr=>K (.int k (a.fdiv (2 ^ (min b.toNat k.bits))))
 | _=>none
def xd (P:Program) (T:TypeId) (a b:Value):Option Bool:=
 match P.underlying T,a,b with
 | some (.int _),.int k x,.int k' y=>if k=k' then some (x == y) else none
 | some .bool,.bool x,.bool y=>some (x == y)
 | some .string,.string x,.string y=>some (x == y)
 | _,_,_=>none
def ox (P:Program):List Field→List Value→List Value→Option Bool
 | [],[],[]=>some true
 | [f],[a],[b]=>xd P f.type a b
 | f::fs,a::as,b::bs=>(xd P f.type a b).bind fun t=>bif t then ox P fs as bs else some false
 | _,_,_=>none
def bY (P:Program):Nat→List Field→Bool
 | _,[]=>true
 | i,f::fs=>f.name != "_" && f.offset == i && !N5 P f.type && bY P (i+1) fs
def NW (P:Program) (T:TypeId) (a b:Value):Option Bool:=
 match a,b with
 | .bool x,.bool y=>(match P.underlying T with | some .bool=>some (x == y) | _=>none)
 | .pointer none,.pointer y=>(match P.underlying T with | some (.pointer _)=>some y.isNone | _=>none)
 | .pointer x,.pointer none=>(match P.underlying T with | some (.pointer _)=>some x.isNone | _=>none)
 | .slice none _ _,.slice y _ _=>(match P.underlying T with | some (.slice _)=>some y.isNone | _=>none)
 | .slice x _ _,.slice none _ _=>(match P.underlying T with | some (.slice _)=>some x.isNone | _=>none)
 | .agg xs,.agg ys=>(match P.underlying T with
   | some (.struct fs)=>bif bY P 0 fs.toList && !P.stoodInHeld T && !P.eqGuardType P.depth T then ox P fs.toList xs.toList ys.toList else none
   | _=>none)
 | _,_=>none
def Aif (P:Program) (op:BinOp) (T:TypeId) (x y:Value) (K:Value→Option ρ):Option ρ:=
 match x,y with
 | .int k a,.int k' b=>match op with
   | .shl=>tQ .shl k a b K
   | .shr=>tQ .shr k a b K
   | _=>if k=k' then Aig op k a b K else none
 | x,y=>match op with
   | .eql=>(NW P T x y).bind fun t=>K (.bool t)
   | .neq=>(NW P T x y).bind fun t=>K (.bool (!t))
   | _=>none
def unA (op:UnOp) (x:Value) (K:Value→Option ρ):Option ρ:=
 match op,x with
 | .not,.bool b=>K (.bool !b)
 | .neg,.int k n=>K (.int k (k.wrap (0-n)))
 | _,_=>none
def iA (P:Program) (T:TypeId) (f:Nat):Option (Nat × TypeId):=
 match P.underlying T with
 | some (.struct fs)=>match fs.toList[f]? with
   | some x=>some (x.offset,x.type)
   | none=>none
 | _=>none
def Aam (P:Program) (T:TypeId):Bool:=
 match P.underlying T with
 | some (.int .i64)=>true
 | _=>false
def IK (P:Program) (T:TypeId):Option Nat:=(P.info? T).map (·.size)
def bytesOf (P:Program) (T:TypeId):Option Nat:=(P.info? T).map (·.bytes)
def elemAt (σ:Aa) (b:Nat):Option TypeId:=
 match σ[b]? with
 | some (.cells _ T _)=>some T
 | _=>none
def W4 (P:Program) (T:TypeId):Option TypeId:=
 match P.underlying T with
 | some (.slice e)=>some e
 | _=>none
def uJ (P:Program) (T:TypeId):Option (Nat × TypeId):=
 match P.underlying T with
 | some (.array n e)=>some (n,e)
 | _=>none
def FR (P:Program) (T:TypeId):Option Value:=(P.info? T).bind fun i=>i.zero.bind fun z=>if JR z then some z else none
def rep (n:Nat) (z:List Value):List Value:=(List.replicate n z).flatten
def bound (x:Option Value) (dflt top:Nat) (K:Nat→Option ρ):Option ρ:=
 match x with
 | none=>K dflt
 | some (.int _ i)=>if 0≤i∧i≤top then K i.toNat else none
 | some _=>none
def oV (P:Program) (T:TypeId):List (Nat × Value)→List Value→Option (List Value)
 | [],cs=>some cs
 | (i,v)::ps,cs=>match iA P T i with
   | some (o,t)=>if IK P t=some v.cells.size∧o+v.cells.size≤cs.length∧GW v=false then oV P T ps (AK cs o v.cells.toList) else none
   | none=>none
def jU (s:Nat):List (Nat × Value)→List Value→Option (List Value)
 | [],cs=>some cs
 | (i,v)::ps,cs=>if v.cells.size=s∧i*s+v.cells.size≤cs.length∧GW v=false then jU s ps (AK cs (i*s) v.cells.toList) else none
def evs (e:Operand→Option Value):List Operand→(List Value→Option ρ)→Option ρ
 | [],K=>K []
 | x::xs,K=>(e x).bind fun v=>evs e xs fun vs=>K (v::vs)
def evp (e:Operand→Option Value):List (Nat × Operand)→(List (Nat × Value)→Option ρ)→Option ρ
 | [],K=>K []
 | (i,x)::xs,K=>(e x).bind fun v=>evp e xs fun vs=>K ((i,v)::vs)
def evo (e:Operand→Option Value) (x:Option Operand) (K:Option Value→Option ρ):Option ρ:=
 match x with
 | none=>K none
 | some x=>(e x).bind fun v=>K (some v)
def Q9 (n bytes:Nat):Prop:=n*bytes≤2 ^ 40∧n≤2 ^ 40
instance (n bytes:Nat):Decidable (Q9 n bytes):=inferInstanceAs (Decidable (_∧_))
def Dq (σ:Aa) (s:Nat) (x:Option Addr) (n:Nat):Option (List Value):=
 match x with
 | some a=>Z1 σ a.block a.off (n*s)
 | none=>if n=0 then some [] else none
def Ik (a:Option Addr):Bool:=
 match a with
 | none=>true
 | some a=>a.spot.isSome
def PZ (P:Program) (E:TypeId) (dst src:Option Addr × Nat × Nat) (σ:Aa) (K:Value→Aa→Option ρ):Option ρ:=
 (IK P E).bind fun s=>(bytesOf P E).bind fun by_=>
 (Dq σ s src.1 src.2.1).bind fun new=>(FR P E).bind fun z=>
 if ¬ (GW z=false∧IK P E=some z.cells.size∧0<z.cells.size) then none else
 if dst.2.1+src.2.1≤dst.2.2 then
  bif Ik dst.1 then (if dst.2.1+src.2.1=0 then K (.slice dst.1 0 0) σ else none)
  else dst.1.bind fun a=>(X5 σ a.block (a.off+dst.2.1*s) new).bind fun σ'=>K (.slice (some a) (dst.2.1+src.2.1) dst.2.2) σ'
 else if Q9 (dst.2.1+src.2.1) by_∧0<by_ then
  bif Ik dst.1 then (if dst.2.1=0 then K (.slice (some ⟨σ.length,0,none⟩) src.2.1 src.2.1) (σ++[A6.cells new E true]) else none)
  else dst.1.bind fun a=>if elemAt σ a.block=some E then (Z1 σ a.block a.off (dst.2.1*s)).bind fun Rl=>
    bif Jb σ a.block then K (.slice (some ⟨σ.length,0,none⟩) (dst.2.1+src.2.1) (dst.2.1+src.2.1)) (σ.set a.block .dead++[A6.cells (Rl++new) E true])
    else none else none
 else none
abbrev Ci:=Option Addr × Nat × Nat
def slK (v:Value) (σ:Aa):Option (Ci × Aa):=
 match v with
 | .slice a l c=>some ((a,l,c),σ)
 | _=>none
def BH (P:Program) (E:TypeId) (dst src:Ci) (σ:Aa):Option (Ci × Aa):=PZ P E dst src σ slK
def JF (E:TypeId) (s:Nat) (v:Ci) (lo hi mx:Option Value) (σ:Aa):Option Ci:=
 bif !mx.isSome || hi.isSome then bound mx v.2.2 v.2.2 fun m=>bound hi v.2.1 m fun h=>bound lo 0 h fun l=>
  if m=l then (match v.1 with
   | none=>some (none,0,0)
   | some a=>bif mx.isSome then some (some ⟨a.block,a.off,some 0⟩,0,0) else if elemAt σ a.block=some E then some (some a,0,0) else none)
  else v.1.bind fun a=>if elemAt σ a.block=some E then some (some ⟨a.block,a.off+l*s,none⟩,h-l,m-l) else none
 else none
def stO (σ:Aa) (a:Option Addr) (vs:List Value):Option Aa:=
 match a with
 | some a=>X5 σ a.block a.off vs
 | none=>some σ
def qp (σ:Aa) (r:Option Nat):Option (List (Int × Value)):=
 match r with
 | none=>some []
 | some r=>Yn σ r
def Abg (σ:Aa) (r:Option Nat) (es:List (Int × Value)):Aa:=
 match r with
 | none=>σ
 | some r=>σ.set r (.map es)
def Adk (P:Program) (T:TypeId):Kd:=
 match P.underlying T with
 | some t=>Adl t
 | none=>.any
def asT (P:Program) (T:TypeId) (v:Value) (K:Value→Option ρ):Option ρ:=
 match P.underlying T with
 | some (.struct _)=>(toA v).bind fun l=>if l.length=(flat P 10 T).length then tc (flat P 10 T) l fun vs=>K (.agg vs.toArray) else none
 | some (.array _ _)=>none
 | some t=>asK (Adl t) v K
 | none=>none
def zL (P:Program):List TypeId→List Value→(List Value→Option ρ)→Option ρ
 | [],_,K=>K []
 | T::Ts,l,K=>l.head?.bind fun v=>asT P T v fun v=>zL P Ts l.tail fun vs=>K (v::vs)
def Acw (P:Program) (T:TypeId) (v:Value) (K:Value→Option ρ):Option ρ:=
 match (P.info? T).map (·.desc) with
 | some (TypeDesc.tuple ts)=>(pV v).bind fun l=>if l.length=ts.toList.length then zL P ts.toList l fun vs=>K (.tuple vs.toArray) else none
 | _=>asT P T v K
end
def YF:FuncId:=1000000000
abbrev GL:=FuncId→List Value→Aa→Option (Value × Aa)
def U8 (P:Program) (t:TypeId) (nm:String):Option FuncId:=
 match P.info? t with
 | none=>none
 | some i=>match i.methods.find? (·.name == nm) with
   | none=>none
   | some m=>match m.path.toList,m.func,P.underlying t with
     | [],some (f,false),some (.struct _)=>some f
     | [],some (f,true),some (.pointer _)=>some f
     | _,_,_=>none
def I6 (P:Program) (call:GL) (f:Value) (vs:List Value) (σ:Aa):Option (Value × Aa):=
 match f with
 | .func (.func f) first cap=>bif Nat.beq f YF then none else call f (first.toList++vs++cap.toList) σ
 | .func (.yield h) _ _=>call YF (.pointer (some ⟨h,0,none⟩)::vs) σ
 | .func (.method nm) first _=>(match first.toList++vs with
   | .iface t v::rest=>(U8 P t nm).bind fun f=>bif Nat.beq f YF then none else call f (v::rest) σ
   | _=>none)
 | _=>none
class AA where
 q:Aa→Aa→Bool
 ok:∀ {σ σ':Aa},q σ σ'=true→σ <+: σ'
 k:Aa→Aa→Nat→Bool
 kok:∀ {σ σ':Aa} {h:Nat},k σ σ' h=true→σ'[h]?=σ[h]?
def Q8 [AA] {ρ:Type} (σ σ':Aa) (m:Option ρ):Option ρ:=bif AA.q σ σ' then m else none
def NX [AA] {ρ:Type} (a:Option Addr) (σ σ':Aa) (m:Option ρ):Option ρ:=
 match a with
 | some a=>bif AA.k σ σ' a.block then m else none
 | none=>m
def SX [AA] {ρ:Type} (b:Bool) (σ σ':Aa) (m:Option ρ):Option ρ:=bif b then Q8 σ σ' m else m
section
variable {ρ:Type}
def Air (P:Program) (ts:List TypeId) (vs:List Value) (σ:Aa) (K:Value→Aa→Option ρ):Option ρ:=
 match ts,vs with
 | [t],[v]=>(match P.underlying t,v with
   | some (.slice _),.slice _ n _=>K (.int .i64 n) σ
   | some .string,.string s=>K (.int .i64 s.size) σ
   | some (.map _ _),.map r=>(qp σ r).bind fun es=>K (.int .i64 es.length) σ
   | _,_=>none)
 | _,_=>none
def Aj5 (vs:List Value) (σ:Aa) (K:Value→Aa→Option ρ):Option ρ:=
 match vs with
 | [.int k x,.int k' y]=>if k=k' then K (.int k (if y<x then y else x)) σ else none
 | _=>none
def Aj4 (vs:List Value) (σ:Aa) (K:Value→Aa→Option ρ):Option ρ:=
 match vs with
 | [.int k x,.int k' y]=>if k=k' then K (.int k (if y>x then y else x)) σ else none
 | _=>none
def yC [AA] (P:Program) (q:Bool) (ts:List TypeId) (vs:List Value) (σ:Aa) (K:Value→Aa→Option ρ):Option ρ:=
 match ts,vs with
 | [t,t'],[.slice a l c,.slice a' l' c']=>match P.underlying t' with
   | some (.slice _)=>(W4 P t).bind fun E=>(BH P E (a,l,c) (a',l',c') σ).bind fun r=>SX q σ r.2 (K (.slice r.1.1 r.1.2.1 r.1.2.2) r.2)
   | _=>none
 | _,_=>none
def Ahf (P:Program) (ts:List TypeId) (vs:List Value) (σ:Aa) (K:Value→Aa→Option ρ):Option ρ:=
 match ts,vs with
 | [t,_],[.slice a l _,.slice a' l' _]=>(W4 P t).bind fun E=>(IK P E).bind fun s=>
   (Dq σ s a' (Nat.min l' l)).bind fun vs=>
   (stO σ a vs).bind fun σ'=>K (.int .i64 (Nat.min l' l:Nat)) σ'
 | _,_=>none
def Ac3 (P:Program) (ts:List TypeId) (vs:List Value) (σ:Aa) (K:Value→Aa→Option ρ):Option ρ:=
 match ts,vs with
 | [t],[v]=>(match P.underlying t,v with
   | some (.map _ _),.map r=>(qp σ r).bind fun _=>K (.tuple #[]) (Abg σ r [])
   | some (.slice E),.slice a l _=>
     (FR P E).bind fun z=>if GW z=false∧0<z.cells.size then (if l=0 then some σ else a.bind fun a=>X5 σ a.block a.off (rep l z.cells.toList)).bind fun σ'=>K (.tuple #[]) σ' else none
   | _,_=>none)
 | _,_=>none
def yH (P:Program) (ts:List TypeId) (vs:List Value) (σ:Aa) (K:Value→Aa→Option ρ):Option ρ:=
 match ts,vs with
 | [t,_],[.map r,.int .i64 k]=>(match P.underlying t,r with
   | some (.map kt _),r=>if Aam P kt then (qp σ r).bind fun es=>K (.tuple #[]) (Abg σ r (RU k es)) else none
   | _,_=>none)
 | _,_=>none
def Vb [AA] (P:Program) (q:Bool) (b:Builtin) (ts:List TypeId) (vs:List Value) (σ:Aa) (K:Value→Aa→Option ρ):Option ρ:=
 match b with
 | .len=>Air P ts vs σ K
 | .min=>Aj5 vs σ K
 | .max=>Aj4 vs σ K
 | .append=>yC P q ts vs σ K
 | .copy=>Ahf P ts vs σ K
 | .clear=>Ac3 P ts vs σ K
 | .delete=>yH P ts vs σ K
 | _=>none
inductive Cls where
 | pure | ld | al | lo
 deriving DecidableEq
def qi:Builtin→Bool→Cls
 | .len,true=>.ld
 | .len,false=>.pure
 | .min,_ | .max,_=>.pure
 | _,_=>.lo
def cl (P:Program) (ts:List TypeId):Bool:=
 match ts with
 | t::_=>(match P.underlying t with | some (.map _ _)=>true | _=>false)
 | []=>false
def GR (P:Program) (o:Oper):Cls:=
 match o.op with
 | .load .. | .lookup .. | .slice ..=>.ld
 | .box .. | .alloc .. | .buildSlice .. | .makeMap .. | .makeSlice ..=>.al
 | .store .. | .mapUpdate ..=>.lo
 | .call c=>match c.callee with
   | .builtin b=>qi b (cl P c.argTypes.toList)
   | _=>.al
 | _=>.pure
def ki (P:Program) (S:FuncId→Bool) (o:Oper):Bool:=
 match o.op with
 | .call c=>match c.callee with
   | .value (.func f)=>S f
   | .builtin _=>(match GR P o with | .lo=>false | _=>true)
   | _=>false
 | _=>(match GR P o with | .lo=>false | _=>true)
def Wv (P:Program) (S:FuncId→Bool):Code→Bool
 | .skip=>true
 | .region _ ops _=>ops.toList.all (ki P S)
 | .seq a b=>Wv P S a && Wv P S b
 | .cond _ a b=>Wv P S a && Wv P S b
 | .block _ c=>Wv P S c
 | .loop c=>Wv P S c
 | .exit _=>true
 | .ret=>true
 | _=>false
def yA (P:Program):Nat→FuncId→Bool
 | 0,_=>false
 | d+1,f=>bif Nat.beq f YF then false else match P.funcs[f]? with
   | some F=>match F.body with
     | some c=>Wv P (yA P d) c
     | none=>false
   | none=>false
def uN (P:Program) (f:FuncId):Bool:=yA P 6 f
def yF (P:Program) (v:Value):Bool:=
 match v with
 | .func (.func f) _ _=>uN P f
 | _=>false
def Aaq (v:Value) (K:Value→Option ρ):Option ρ:=
 match v with
 | .pointer a=>a.bind fun a=>K (.pointer (some a))
 | .func (.func f) first cap=>K (.func (.func f) first cap)
 | .iface t u=>K (.iface t u)
 | _=>none
def La [AA] (P:Program) (call:GL) (quiet:Bool) (o:Op) (ty:TypeId) (e:Operand→Option Value) (σ:Aa) (K:Value→Aa→Option ρ):Option ρ:=
 match o with
 | .move x | .assign x=>(e x).bind fun v=>K v σ
 | .pick c a b=>(e c).bind fun c=>match c with
   | .bool true=>(e a).bind fun v=>K v σ
   | .bool false=>(e b).bind fun v=>K v σ
   | _=>none
 | .box T x=>(e x).bind fun v=>bif GW v then none else K (.pointer (some ⟨σ.length,0,none⟩)) (σ++[.cells v.cells.toList T true])
 | .alloc T=>(FR P T).bind fun z=>if GW z=false then K (.pointer (some ⟨σ.length,0,none⟩)) (σ++[.cells z.cells.toList T true]) else none
 | .build T parts=>(FR P T).bind fun z=>evp e parts.toList fun ps=>match P.underlying T with
   | some (.struct fs)=>if (fs.toList.all fun f=>(P.info? f.type).isSome)=true∧GW z=false then (oV P T ps z.cells.toList).bind fun cs=>K (.agg cs.toArray) σ else none
   | some (.array _ E)=>(IK P E).bind fun s=>if GW z=false then (jU s ps z.cells.toList).bind fun cs=>K (.agg cs.toArray) σ else none
   | _=>none
 | .buildSlice T n parts=>(W4 P T).bind fun E=>bif n == 0 then (bif parts.toList.isEmpty then (IK P E).bind fun _=>K (.slice (some ⟨σ.length,0,some 0⟩) 0 0) (σ++[.cells [] E true]) else none) else (FR P E).bind fun z=>evp e parts.toList fun ps=>
   if IK P E=some z.cells.size∧0<n∧0<z.cells.size∧n*z.cells.size≤2 ^ 24∧GW z=false then
    (jU z.cells.size ps (rep n z.cells.toList)).bind fun cs=>
     K (.slice (some ⟨σ.length,0,none⟩) n n) (σ++[.cells cs E true])
   else none
 | .load T x=>(e x).bind fun v=>match v with
   | .pointer a=>a.bind fun a=>
     bif N5 P T then (if IK P T=some (flat P 10 T).length then oM (flat P 10 T) σ a.block a.off fun vs=>K (.agg vs.toArray) σ else none)
     else (P.underlying T).bind fun _=>ldK (Adk P T) σ a.block a.off fun v=>K v σ
   | _=>none
 | .store T x y=>(e x).bind fun v=>(e y).bind fun u=>match v with
   | .pointer a=>a.bind fun a=>match u with
     | .agg vs=>if IK P T=some vs.size then (X5 σ a.block a.off vs.toList).bind fun σ'=>K undef σ' else none
     | .tuple _=>none
     | u=>if IK P T=some 1 then (Kx σ a.block a.off u).bind fun σ'=>K undef σ' else none
   | _=>none
 | .nilCheck x=>(e x).bind fun v=>Aaq v fun v=>K v σ
 | .binOp op T x y _=>(e x).bind fun a=>(e y).bind fun b=>Aif P op T a b fun v=>K v σ
 | .unOp op _ x=>(e x).bind fun a=>unA op a fun v=>K v σ
 | .convert s d x=>(e x).bind fun v=>match P.underlying s,P.underlying d,v with
   | some (.int _),some (.int k),.int _ n=>K (.int k (k.wrap n)) σ
   | _,_,_=>none
 | .makeInterface T x=>(e x).bind fun v=>match P.underlying T with
   | some (.interface _)=>none
   | some _=>K (.iface T v) σ
   | none=>none
 | .makeFunc fn first cap=>(match fn with
   | .yield _=>none
   | fn=>evs e first.toList fun vs=>evs e cap.toList fun us=>K (.func fn vs.toArray us.toArray) σ)
 | .makeMap _ none=>K (.map (some σ.length)) (σ++[.map []])
 | .makeSlice T l c=>(W4 P T).bind fun E=>(e l).bind fun l=>(e c).bind fun c=>match l,c with
   | .int .i64 l,.int .i64 c=>(bytesOf P E).bind fun by_=>if 0≤l∧l≤c∧c*by_≤2 ^ 40∧c≤2 ^ 40 then
     (FR P E).bind fun z=>if IK P E=some z.cells.size∧0<z.cells.size∧GW z=false then K (.slice (some ⟨σ.length,0,none⟩) l.toNat c.toNat) (σ++[.cells (rep c.toNat z.cells.toList) E true]) else none
     else none
   | _,_=>none
 | .slice T x lo hi mx=>(W4 P T).bind fun E=>(IK P E).bind fun s=>(e x).bind fun v=>evo e lo fun lo=>evo e hi fun hi=>evo e mx fun mx=>match v with
   | .slice a len cap=>(JF E s (a,len,cap) lo hi mx σ).bind fun r=>K (.slice r.1 r.2.1 r.2.2) σ
   | _=>none
 | .fieldAddr T x f=>(iA P T f).bind fun ot=>(e x).bind fun v=>match v with
   | .pointer a=>a.bind fun a=>(IK P ot.2).bind fun s=>if s=0 then none else K (.pointer (some ⟨a.block,a.off+ot.1,none⟩)) σ
   | _=>none
 | .field T x f=>(iA P T f).bind fun ot=>(e x).bind fun v=>match v with
   | .agg vs=>bif N5 P ot.2 then (IK P ot.2).bind fun s=>K (.agg ((vs.toList.drop ot.1).take s).toArray) σ
     else (P.underlying ot.2).bind fun _=>(vs.toList[ot.1]?).bind fun v=>K v σ
   | _=>none
 | .indexAddr T x i=>match uJ P T with
   | some (len,E)=>(IK P E).bind fun s=>(e x).bind fun v=>(e i).bind fun i=>match v,i with
     | .pointer a,.int _ n=>a.bind fun a=>if 0≤n∧n<len then K (.pointer (some ⟨a.block,a.off+n.toNat*s,none⟩)) σ else none
     | _,_=>none
   | none=>(W4 P T).bind fun E=>(IK P E).bind fun s=>(e x).bind fun v=>(e i).bind fun i=>match v,i with
     | .slice a len _,.int _ n=>if 0≤n∧n<len then a.bind fun a=>K (.pointer (some ⟨a.block,a.off+n.toNat*s,none⟩)) σ else none
     | _,_=>none
 | .index T x i=>(uJ P T).bind fun le=>(e x).bind fun v=>(e i).bind fun i=>match v,i with
   | .agg vs,.int _ n=>bif N5 P le.2 then none else if 0≤n∧n<le.1 then (P.underlying le.2).bind fun _=>(IK P le.2).bind fun s=>(vs.toList[n.toNat*s]?).bind fun v=>asK (Adk P le.2) v fun v=>K v σ else none
   | _,_=>none
 | .lookup T m i ok=>(e m).bind fun m=>(e i).bind fun i=>match P.underlying T,m,i with
   | some (.map kt E),.map r,.int .i64 k=>if Aam P kt then
     (qp σ r).bind fun es=>(FR P E).bind fun z=>
      asK (Adk P E) ((TF es k).getD z) fun v=>K (bif ok then .tuple #[v,.bool (TF es k).isSome] else v) σ else none
   | _,_,_=>none
 | .mapUpdate T m k v=>(e m).bind fun m=>(e k).bind fun k=>(e v).bind fun v=>match P.underlying T,m,k with
   | some (.map kt _),.map r,.int .i64 k=>if Aam P kt then r.bind fun r=>(Yn σ r).bind fun es=>K undef (σ.set r (.map (VC k v es))) else none
   | _,_,_=>none
 | .extract t i=>(e t).bind fun v=>match v with
   | .tuple vs=>(vs.toList[i]?).bind fun v=>K v σ
   | _=>none
 | .call c=>match c.callee with
   | .builtin b=>evs e c.args.toList fun vs=>Vb P quiet b c.argTypes.toList vs σ K
   | .value f=>(e f).bind fun fv=>evs e c.args.toList fun vs=>(I6 P call fv vs σ).bind fun p=>
      SX (quiet && !yF P fv) σ p.2 (Acw P ty p.1 fun v=>K v p.2)
   | .invoke _ _=>none
 | _=>none
end
def tm (regs:AZ):Operand→Option Value
 | .tmp t=>regs.getD t none
 | .const v=>if JR v then some v else none
 | .func f=>some (.func (.func f) #[] #[])
 | .global _=>none
def MW (regs:AZ) (d:Option Nat) (v:Option Value):AZ:=
 match d with
 | some d=>regs.set d v
 | none=>regs
def XZ (all:List Oper) (j:Nat):Option Nat:=(all[j]?).bind (·.dst)
def Uf (all:List Oper) (regs:AZ) (j:Nat):Option Value:=
 match XZ all j with
 | some d=>regs.getD d none
 | none=>none
def Adj (dj:Option Nat) (known:List (Nat × Bool)) (o:Oper):Bool:=
 match o.op with
 | .pick (.tmp c) _ _=>some c == dj && (match o.guard with | none=>true | some g=>known.contains g)
 | _=>false
def YJ (dj:Option Nat) (known:List (Nat × Bool)):List (Nat × Oper)→Option (List (Nat × Oper) × (Nat × Oper) × List (Nat × Oper))
 | []=>none
 | io::rest=>bif Adj dj known io.2 then some ([],io,rest) else (YJ dj known rest).map fun x=>(io::x.1,x.2.1,x.2.2)
def sel {α:Type} (want b:Bool) (x y:α):α:=
 match want with
 | true=>bif b then x else y
 | false=>bif b then y else x
def Sv (regs:AZ):List (Nat × Oper)→AZ
 | []=>regs
 | io::rest=>Sv (MW regs io.2.dst none) rest
def ZG (all:List Oper):List (Nat × Oper)→AZ→Option AZ
 | [],regs=>some regs
 | io::rest,regs=>match io.2.guard with
   | none=>none
   | some (j,want)=>match Uf all regs j with
     | some (.bool b)=>bif b == want then none else ZG all rest (MW regs io.2.dst (some undef))
     | some (.tuple vs)=>bif vs.toList.isEmpty then ZG all rest (MW regs io.2.dst (some undef)) else none
     | _=>none
abbrev QF:=Bool × List Nat
def gm [AA] {ρ:Type}:List Nat→AZ→Aa→Aa→Option ρ→Option ρ
 | [],_,_,_,m=>m
 | t::ts,regs,σ,σ',m=>match regs.getD t none with
   | some (.pointer a)=>NX a σ σ' (gm ts regs σ σ' m)
   | _=>none
def N7 [AA] (P:Program) (call:GL) (qf:Nat→QF) (all:List Oper):Nat→(ρ:Type)→List (Nat × Bool)→List (Nat × Oper)→AZ→Aa→(AZ→Aa→Option ρ)→Option ρ
 | 0,_,_,_,_,_,_=>none
 | fuel+1,ρ,known,ops,regs,σ,K=>match ops with
   | []=>K regs σ
   | io::rest=>match io.2.guard with
     | none=>La P call (qf io.1).1 io.2.op io.2.type (tm regs) σ fun v σ'=>gm (qf io.1).2 regs σ σ' (N7 P call qf all fuel ρ known rest (MW regs io.2.dst (some v)) σ' K)
     | some (j,want)=>
       bif known.contains (j,want) then
        match Uf all regs j with
        | some (.bool b)=>bif b == want then La P call (qf io.1).1 io.2.op io.2.type (tm regs) σ fun v σ'=>gm (qf io.1).2 regs σ σ' (N7 P call qf all fuel ρ known rest (MW regs io.2.dst (some v)) σ' K) else none
        | _=>none
       else match YJ (XZ all j) known rest with
        | none=>none
        | some (body,p,after)=>match Uf all regs j with
          | some (.bool b)=>
            (sel want b
              (N7 P call qf all fuel (Bool × Aa) ((j,want)::known) (io::(body++[p])) (MW regs (XZ all j) (some (.bool want))) σ
               (fun regs' σ'=>((p.2.dst.bind fun d=>regs'.getD d none).bind Ey).bind fun r=>some (r,σ')))
             ((ZG all (io::body) (MW regs (XZ all j) (some (.bool !want)))).bind fun regs'=>
               N7 P call qf all fuel (Bool × Aa) known [p] regs' σ
                (fun regs' σ'=>((p.2.dst.bind fun d=>regs'.getD d none).bind Ey).bind fun r=>some (r,σ')))).bind fun rσ=>
            N7 P call qf all fuel ρ known after (MW (Sv regs (io::body)) p.2.dst (some (.bool rσ.1))) rσ.2 K
          | _=>none
structure Hint where
 live:List Nat
 exits:List (Dg × List (Nat × Kd))
 deriving Inhabited
abbrev Hints:=List (Nat × Hint)
def W5:Code→Nat
 | .region id _ _=>id
 | .seq a _=>W5 a
 | .block _ b=>W5 b
 | .loop b=>W5 b
 | .scope b=>W5 b
 | .cond _ a _=>W5 a
 | _=>0
def Hints.at (H:Hints) (id:Nat):Option Hint:=H.lookup id
abbrev Ax:=Dg × List Value × Aa
def VD (live:List Nat):Nat→AZ→AZ
 | _,[]=>[]
 | i,r::rs=>(if live.contains i then r else none)::VD live (i+1) rs
def Z2 (live:List Nat) (regs:AZ):AZ:=VD live 0 regs
def oU (regs:AZ):List (Nat × Kd)→(List Value→Option Ax)→Option Ax
 | [],K=>K []
 | (t,_)::os,K=>(regs.getD t none).bind fun v=>oU regs os fun vs=>K (v::vs)
def tB (x:Dg):List (Dg × List (Nat × Kd))→Option (List (Nat × Kd))
 | []=>none
 | e::es=>if x=e.1 then some e.2 else tB x es
def pack (exits:List (Dg × List (Nat × Kd))) (x:Dg) (regs:AZ) (σ:Aa):Option Ax:=
 (tB x exits).bind fun outs=>oU regs outs fun vs=>some (x,vs,σ)
def gQ {ρ:Type} (x:Dg) (K:Dg→List (Nat × Kd)→Option ρ):List (Dg × List (Nat × Kd))→Option ρ
 | []=>none
 | e::es=>if x=e.1 then K e.1 e.2 else gQ x K es
def kC:List (Nat × Kd)→List Value→AZ→AZ
 | (t,_)::os,v::vs,regs=>kC os vs (regs.set t (some v))
 | _,_,regs=>regs
def mM:List Oper→List Nat
 | []=>[]
 | o::os=>o.dst.toList++mM os
def Wo:Code→List Nat
 | .region _ ops _=>mM ops.toList
 | .seq a b=>Wo a++Wo b
 | .cond _ a b=>Wo a++Wo b
 | .block _ b=>Wo b
 | .loop b=>Wo b
 | .scope b=>Wo b
 | _=>[]
def forget (c:Code) (regs:AZ):AZ:=go (Wo c) regs
where
 go:List Nat→AZ→AZ
  | [],regs=>regs
  | t::ts,regs=>go ts (regs.set t none)
def unpack {ρ:Type} (h:Hint) (c:Code) (regs:AZ) (r:Ax) (K:Dg→AZ→Aa→Option ρ):Option ρ:=
 gQ r.1 (fun x outs=>tc (outs.map (·.2)) r.2.1 fun vs=>K x (kC outs vs (forget c regs)) r.2.2) h.exits
def lu (B:AZ→Aa→(Dg→AZ→Aa→Option Ax)→Option Ax) (h:Hint):Nat→AZ→Aa→Option Ax
 | 0,_,_=>none
 | n+1,regs,σ=>B regs σ fun x regs' σ'=>match x with
   | .normal=>lu B h n (Z2 h.live regs') σ'
   | x=>pack h.exits x regs' σ'
def oQ (acc:List Nat) (o:Oper):Nat:=(o.after.toList.filter (Region.binds .any)).foldl (fun s e=>s ||| 2 ^ e.on ||| acc.getD e.on 0) 0
def RN:List Oper→List Nat→List Nat
 | [],acc=>acc
 | o::os,acc=>RN os (acc++[oQ acc o])
def ordered (b:List Nat) (i j:Nat):Bool:=(b.getD i 0).testBit j || (b.getD j 0).testBit i
def U7 (o:Oper):Bool:=
 match o.op with
 | .call c=>(match c.callee with | .builtin _=>false | _=>true)
 | _=>false
def isApp (o:Oper):Bool:=
 match o.op with
 | .call c=>(match c.callee with | .builtin .append=>true | _=>false)
 | _=>false
def lM (ops:List Oper):Nat→Nat→Nat→Option Nat
 | 0,_,_=>none
 | n+1,a,j=>match ops.zipIdx.filter fun p=>p.1.dst == some a with
   | []=>some a
   | [p]=>bif Nat.blt p.2 j then (match p.1.op with
     | .fieldAddr _ (.tmp b) _=>lM ops n b p.2
     | .move (.tmp b)=>lM ops n b p.2
     | .nilCheck (.tmp b)=>lM ops n b p.2
     | _=>none) else none
   | _=>none
def iy (ops:List Oper) (j:Nat):Option Nat:=
 match ops[j]? with
 | some o=>(match o.op with
   | .load _ (.tmp a)=>lM ops 8 a j
   | _=>none)
 | none=>none
def loose (P:Program) (ops:List Oper) (i:Nat):List (Oper × Nat):=ops.zipIdx.filter fun x=>!(i == x.2 || GR P x.1 == .pure || ordered (RN ops []) i x.2)
def Aju (P:Program) (o:Oper):Bool:=
 match o.op with
 | .call c=>(match c.callee with | .value (.func f)=>uN P f | _=>false)
 | _=>false
def VG (P:Program) (ops:List Oper) (draw:Bool) (i:Nat):QF:=
 bif draw then (match ops[i]? with
  | some o=>bif U7 o || isApp o then (bif (loose P ops i).isEmpty then (false,[]) else
    bif U7 o && !Aju P o && (loose P ops i).all (fun x=>(iy ops x.2).isSome) then (false,(loose P ops i).filterMap fun x=>iy ops x.2) else (true,[]))
    else (false,[])
  | none=>(false,[])) else (false,[])
def JI (P:Program) (ops:List Oper) (qf:Nat→QF) (i:Nat):Cls:=
 match ops[i]? with
 | some o=>bif U7 o && !(qf i).1 then .lo else bif isApp o && (qf i).1 then .al else GR P o
 | none=>.pure
def Af2 (ops:List Oper) (qf:Nat→QF) (i j:Nat):Bool:=
 match iy ops j with
 | some t=>(qf i).2.contains t
 | none=>false
def Aip (ops:List Oper) (j:Nat):Bool:=
 match ops[j]? with
 | some o=>(match o.op with
   | .load _ (.tmp _)=>true
   | _=>false)
 | none=>false
def Aj2 (o:Oper):Bool:=
 match o.op with
 | .alloc _=>true
 | _=>false
def Ad3 (ops:List Oper) (i j:Nat):Bool:=
 match ops[i]? with
 | some o=>(match o.op with
   | .store _ (.tmp a) _=>(match ops.zipIdx.filter fun p=>p.1.dst == some a with
     | [p]=>Aj2 p.1 && Nat.blt j p.2 && Nat.blt p.2 i
     | _=>false)
   | _=>false)
 | none=>false
def Vy (ops:List Oper) (qf:Nat→QF) (i j:Nat):Bool:=Af2 ops qf i j || (Aip ops j && Ad3 ops i j)
def xz (ops:List Oper) (o:Oper):List Nat:=
 (o.op.operands.toList.filterMap fun | .tmp t=>some t | _=>none)++(match o.guard with | some (g,_)=>(XZ ops g).toList | none=>[])
def gf (P:Program) (ops:List Oper) (qf:Nat→QF):Bool:=
 let b:=RN ops []
 ops.zipIdx.all fun x=>
  (x.1.after.toList.all fun e=>!Region.binds .any e || Nat.blt e.on x.2) &&
  ops.zipIdx.all fun y=>x.2 == y.2 ||
   ((match x.1.dst with | some t=>(!(xz ops y.1).contains t && y.1.dst != some t) || ordered b x.2 y.2 | none=>true) &&
    ((JI P ops qf x.2 != .lo || JI P ops qf y.2 == .pure) || ordered b x.2 y.2 || Vy ops qf x.2 y.2))
def CG:Code→Option (Array Tmp × Code × Code)
 | .seq a b=>match CG a with
   | some x=>some x
   | none=>CG b
 | .cond _ a b=>match CG a with
   | some x=>some x
   | none=>CG b
 | .block _ c=>CG c
 | .loop c=>CG c
 | .scope c=>CG c
 | .rangeFunc _ ps a b=>some (ps,a,b)
 | _=>none
def ranges:Code→Nat
 | .seq a b=>ranges a+ranges b
 | .cond _ a b=>ranges a+ranges b
 | .block _ c=>ranges c
 | .loop c=>ranges c
 | .scope c=>ranges c
 | .rangeFunc _ _ a b=>ranges a+ranges b+1
 | _=>0
def Aaj:Value→Bool
 | .func (.func _) _ _=>true
 | _=>false
def Vx {ρ:Type} (h:Nat) (σ:Aa) (K:Dg→Aa→Option ρ):Option ρ:=
 match σ[h]? with
 | some (.loop _ .ready _)=>K .normal (σ.set h .dead)
 | some (.loop _ (.done x) _)=>match x with
   | .normal=>none
   | x=>K x (σ.set h .dead)
 | _=>none
def Nb {ρ:Type} (h:Nat) (σ:Aa) (Rl new:LSt) (K:FuncId→AZ→Aa→Option ρ):Option ρ:=
 match σ[h]? with
 | some (.loop f st regs)=>if st=Rl then K f regs (σ.set h (.loop f new regs)) else none
 | _=>none
def pA:List Tmp→List Value→AZ→AZ
 | t::ts,v::vs,regs=>pA ts vs (regs.set t (some v))
 | _,_,regs=>regs
def exec [AA] (P:Program) (call:GL) (fid:FuncId) (H:Hints) (n:Nat):Code→(ρ:Type)→AZ→Aa→(Dg→AZ→Aa→Option ρ)→Option ρ
 | .skip,_,regs,σ,K=>K .normal regs σ
 | .region _ ops draw,_,regs,σ,K=>bif draw && !gf P ops.toList (VG P ops.toList draw) then none else
   N7 P call (VG P ops.toList draw) ops.toList (2*ops.toList.length+1) _ [] (ops.toList.zipIdx.map fun x=>(x.2,x.1)) regs σ fun regs σ=>K .normal regs σ
 | .seq a b,ρ,regs,σ,K=>exec P call fid H n a ρ regs σ fun x regs σ=>match x with
   | .normal=>exec P call fid H n b ρ regs σ K
   | .exit id=>K (.exit id) regs σ
   | .ret=>K .ret regs σ
 | .cond c t e,ρ,regs,σ,K=>match tm regs c with
   | some (.bool b)=>match H.at (2*W5 t+1) with
     | none=>bif b then exec P call fid H n t ρ regs σ K else exec P call fid H n e ρ regs σ K
     | some h=>(bif b then exec P call fid H n t Ax regs σ (pack h.exits) else exec P call fid H n e Ax regs σ (pack h.exits)).bind fun r=>unpack h (.seq t e) regs r K
   | _=>none
 | .block id c,ρ,regs,σ,K=>exec P call fid H n c ρ regs σ fun x regs σ=>match x with
   | .normal=>K .normal regs σ
   | .exit id'=>if id'=id then K .normal regs σ else K (.exit id') regs σ
   | .ret=>K .ret regs σ
 | .loop c,ρ,regs,σ,K=>match H.at (2*W5 c) with
   | none=>none
   | some h=>(lu (fun regs σ K=>exec P call fid H n c Ax regs σ K) h n (Z2 h.live regs) σ).bind fun r=>unpack h c regs r K
 | .exit id,_,regs,σ,K=>K (.exit id) regs σ
 | .ret,_,regs,σ,K=>K .ret regs σ
 | .scope c,ρ,regs,σ,K=>exec P call fid H n c ρ regs σ K
 | .label _,_,regs,σ,K=>K .normal regs σ
 | .rangeFunc g ps _ b,_,regs,σ,K=>match tm regs g,H.at (2*W5 b) with
   | some gv,some h=>bif Aaj gv then (I6 P call gv [.func (.yield σ.length) #[] #[]] (σ++[.loop fid .ready (Z2 h.live regs)])).bind fun r=>
     Vx σ.length r.2 fun x σ'=>gQ x (fun x _=>K x regs σ') h.exits else none
   | _,_=>none
 | _,_,_,_,_=>none
def tI (P:Program) (regs:AZ) (σ:Aa) (r:ResultVar):Option Value:=
 match r with
 | .tmp t=>regs.getD t none
 | .cell t T=>(regs.getD t none).bind fun v=>match v with
   | .pointer (some a)=>bif N5 P T then (IK P T).bind fun s=>(Z1 σ a.block a.off s).bind fun vs=>some (.agg vs.toArray) else (P.underlying T).bind fun _=>Gg σ a.block a.off
   | _=>none
def kp (P:Program) (regs:AZ) (σ:Aa):List ResultVar→Option (List Value)
 | []=>some []
 | r::rs=>(tI P regs σ r).bind fun v=>(kp P regs σ rs).bind fun vs=>some (v::vs)
def NZ:List Value→Value
 | [v]=>v
 | vs=>.tuple vs.toArray
def fin (P:Program) (f:Func) (x:Dg) (regs:AZ) (σ:Aa):Option (Value × Aa):=
 match x with
 | .exit _=>none
 | _=>(kp P regs σ f.results.toList).bind fun vs=>some (NZ vs,σ)
abbrev Ext:=FuncId→Option (List Value→Aa→Option (Value × Aa))
def Yz (h:Nat) (z:Dg) (σ:Aa):Option (Value × Aa):=
 match z with
 | .normal=>Nb h σ .busy .ready fun _ _ σ=>some (.bool true,σ)
 | .exit id=>Nb h σ .busy (.done (.exit id)) fun _ _ σ=>some (.bool false,σ)
 | .ret=>Nb h σ .busy (.done .ret) fun _ _ σ=>some (.bool false,σ)
def cG [AA] (P:Program) (call:GL) (f:FuncId) (H:Hints) (n:Nat) (h:Nat) (c:Code) (y:Dg) (regs:AZ) (σ:Aa):Option (Value × Aa):=
 match y with
 | .normal=>Nb h σ .ready .busy fun _ _ σ=>exec P call f H n c (Value × Aa) regs σ fun z _ σ=>Yz h z σ
 | _=>none
def tL [AA] (P:Program) (call:GL) (H:FuncId→Hints) (n:Nat) (args:List Value) (σ:Aa):Option (Value × Aa):=
 match args with
 | .pointer (some a)::vs=>Nb a.block σ .ready .ready fun f regs _=>
   (P.funcs[f]?).bind fun F=>F.body.bind fun c=>(CG c).bind fun x=>if ranges c=1∧vs.length=x.1.toList.length then
    exec P call f (H f) n x.2.1 (Value × Aa) (pA x.1.toList vs regs) σ fun y regs1 σ1=>cG P call f (H f) n a.block x.2.2 y regs1 σ1
    else none
 | _=>none
def fn [AA] (P:Program) (X:Ext) (H:FuncId→Hints):Nat→GL
 | 0,_,_,_=>none
 | k+1,f,args,σ=>match X f with
   | some g=>g args σ
   | none=>bif Nat.beq f YF then tL P (fn P X H k) H k args σ else match P.funcs[f]? with
     | none=>none
     | some F=>match F.body with
       | none=>none
       | some c=>if F.name = "runtime.NumGoroutine" ∨ 1<ranges c then none else
         exec P (fn P X H k) f (H f) k c (Value × Aa) (args.map some++List.replicate (F.ntmps-args.length) (some undef)) σ (fin P F)
def sj:Option Addr→Option Addr→Bool
 | none,none=>true
 | some a,some b=>a.block == b.block && (a.off == b.off && (match a.spot,b.spot with | none,none=>true | some x,some y=>x == y | _,_=>false))
 | _,_=>false
def za:Value→Value→Bool
 | .bool a,.bool b=>a == b
 | .int k a,.int k' b=>decide (k=k') && a == b
 | .pointer a,.pointer b=>sj a b
 | .slice a l c,.slice a' l' c'=>sj a a' && (l == l' && c == c')
 | .map none,.map none=>true
 | .map (some a),.map (some b)=>a == b
 | .nilFunc,.nilFunc=>true
 | .nilIface,.nilIface=>true
 | .agg a,.agg b=>a.toList.isEmpty && b.toList.isEmpty
 | .func (.func f) a b,.func (.func f') a' b'=>f == f' && (a.toList.isEmpty && (a'.toList.isEmpty && (b.toList.isEmpty && b'.toList.isEmpty)))
 | _,_=>false
def vR (v v':Value):Bool:=
 match v,v' with
 | .iface t x,.iface t' x'=>t == t' && za x x'
 | v,v'=>za v v'
def kA:List Value→List Value→Bool
 | [],[]=>true
 | x::xs,y::ys=>vR x y && kA xs ys
 | _,_=>false
def k9:List (Int × Value)→List (Int × Value)→Bool
 | [],[]=>true
 | x::xs,y::ys=>x.1 == y.1 && (vR x.2 y.2 && k9 xs ys)
 | _,_=>false
def fy:List (Option Value)→List (Option Value)→Bool
 | [],[]=>true
 | none::xs,none::ys=>fy xs ys
 | some x::xs,some y::ys=>vR x y && fy xs ys
 | _,_=>false
def zb:A6→A6→Bool
 | .cells vs T rw,.cells vs' T' rw'=>kA vs vs' && (T == T' && rw == rw')
 | .map es,.map es'=>k9 es es'
 | .loop f st r,.loop f' st' r'=>f == f' && (decide (st=st') && fy r r')
 | .dead,.dead=>true
 | _,_=>false
def vO:Aa→Aa→Bool
 | [],_=>true
 | x::xs,y::ys=>zb x y && vO xs ys
 | _,_=>false
theorem vM:∀ {a b:Option Addr},sj a b=true→a=b
 | none,none,_=>rfl
 | some ⟨b1,o1,s1⟩,some ⟨b2,o2,s2⟩,h=>by
   simp only[sj,Bool.and_eq_true,beq_iff_eq] at h
   obtain ⟨rfl,rfl,h⟩:=h
   cases s1 <;> cases s2 <;> simp at h <;> simp[h]
 | none,some _,h=>by simp[sj] at h
 | some _,none,h=>by simp[sj] at h
theorem isEmpty_eq {a:Array Value} (h:a.toList.isEmpty=true):a = #[]:=by
 apply Array.toList_inj.1; simpa using h
theorem vN {v v':Value} (h:za v v'=true):v=v':=by
 unfold za at h
 split at h
 ·simp at h; simp[h]
 ·simp at h; simp[h]
 ·rw[vM h]
 ·simp only[Bool.and_eq_true,beq_iff_eq] at h
  rw[vM h.1,h.2.1,h.2.2]
 ·rfl
 ·simp at h; simp[h]
 ·rfl
 ·rfl
 ·simp only[Bool.and_eq_true] at h
  rw[isEmpty_eq h.1,isEmpty_eq h.2]
 ·simp only[Bool.and_eq_true,beq_iff_eq] at h
  rw[h.1,isEmpty_eq h.2.1,isEmpty_eq h.2.2.1,isEmpty_eq h.2.2.2.1,isEmpty_eq h.2.2.2.2]
 ·cases h
theorem pz {v v':Value} (h:vR v v'=true):v=v':=by
 unfold vR at h
 split at h
 ·simp only[Bool.and_eq_true,beq_iff_eq] at h
  rw[h.1,vN h.2]
 ·exact vN h
theorem sm:∀ {v v':List Value},kA v v'=true→v=v'
 | [],[],_=>rfl
 | x::xs,y::ys,h=>by
   simp only[kA,Bool.and_eq_true] at h
   rw[pz h.1,sm h.2]
 | [],_::_,h=>by simp[kA] at h
 | _::_,[],h=>by simp[kA] at h
theorem sk:∀ {v v':List (Int × Value)},k9 v v'=true→v=v'
 | [],[],_=>rfl
 | (a,x)::xs,(b,y)::ys,h=>by
   simp only[k9,Bool.and_eq_true,beq_iff_eq] at h
   rw[h.1,pz h.2.1,sk h.2.2]
 | [],_::_,h=>by simp[k9] at h
 | _::_,[],h=>by simp[k9] at h
theorem py:∀ {v v':List (Option Value)},fy v v'=true→v=v'
 | [],[],_=>rfl
 | none::xs,none::ys,h=>by
   simp only[fy] at h
   rw[py h]
 | some x::xs,some y::ys,h=>by
   simp only[fy,Bool.and_eq_true] at h
   rw[pz h.1,py h.2]
 | [],_::_,h=>by simp[fy] at h
 | _::_,[],h=>by simp[fy] at h
 | none::_,some _::_,h=>by simp[fy] at h
 | some _::_,none::_,h=>by simp[fy] at h
theorem vQ {o o':A6} (h:zb o o'=true):o=o':=by
 unfold zb at h
 split at h
 ·simp only[Bool.and_eq_true,beq_iff_eq] at h
  rw[sm h.1,h.2.1,h.2.2]
 ·rw[sk h]
 ·simp only[Bool.and_eq_true,beq_iff_eq,decide_eq_true_eq] at h
  rw[h.1,h.2.1,py h.2.2]
 ·rfl
 ·cases h
theorem vP:∀ {σ σ':Aa},vO σ σ'=true→σ <+: σ'
 | [],_,_=>List.nil_prefix
 | x::xs,y::ys,h=>by
   simp only[vO,Bool.and_eq_true] at h
   obtain ⟨t,ht⟩:=vP h.2
   exact ⟨t,by rw[vQ h.1,← ht]; rfl⟩
 | _::_,[],h=>by simp[vO] at h
def sameAt (σ σ':Aa) (h:Nat):Bool:=
 match σ[h]?,σ'[h]? with
 | some o,some o'=>zb o o'
 | none,none=>true
 | _,_=>false
theorem Abd {σ σ':Aa} {h:Nat} (g:sameAt σ σ' h=true):σ'[h]?=σ[h]?:=by
 unfold sameAt at g
 split at g
 ·rename_i o o' h1 h2
  rw[h1,h2,vQ g]
 ·rename_i h1 h2
  rw[h1,h2]
 ·cases g
@[reducible] def RP:AA:=⟨vO,vP,sameAt,Abd⟩
open Classical in
@[reducible] noncomputable def Aw:AA:=⟨fun σ σ'=>decide (σ <+: σ'),fun h=>by simpa using h,fun σ σ' h=>decide (σ'[h]?=σ[h]?),fun h=>by simpa using h⟩
end Go.AX
end
section
namespace Go.AX
open Go
theorem tx {ρ:Type} {f:FuncId} {m:Option ρ} {r:ρ} (h:(bif Nat.beq f YF then none else m)=some r):f≠YF∧m=some r:=by
 cases hb:Nat.beq f YF with
 | true=>rw[hb] at h; cases h
 | false=>rw[hb] at h; exact ⟨fun he=>(by rw[he] at hb; cases hb),h⟩
structure kJ where
 b:Nat
 o:Nat
 s:Nat
 n:Nat
 m:Nat
abbrev Mu:=Nat→Option kJ
mutual
inductive RV (μ:Mu):Value→Value→Prop
 | bool (b:Bool):RV μ (.bool b) (.bool b)
 | int (k:IntKind) (n:Int):RV μ (.int k n) (.int k n)
 | string (s:ByteArray):RV μ (.string s) (.string s)
 | ptrNil:RV μ (.pointer none) (.pointer none)
 | ptr {a:Addr} {k:kJ} (h:μ a.block=some k) (hs:a.spot=none):RV μ (.pointer (some a)) (.pointer (some ⟨k.b,k.o+a.off,none⟩))
 | sliceNil:RV μ (.slice none 0 0) (.slice none 0 0)
 | sliceZ {a:Addr} {z:Nat} (x:Addr) (hz:a.spot=some z):RV μ (.slice (some a) 0 0) (.slice (some x) 0 0)
 | slice {a:Addr} {k:kJ} {l c c':Nat} (h:μ a.block=some k) (hs:a.spot=none) (hl:l≤c) (hc:c≤c') (hm:a.off+c'*k.s≤k.m):RV μ (.slice (some a) l c) (.slice (some ⟨k.b,k.o+a.off,none⟩) l c')
 | sliceEnd {a:Addr} {k:kJ} {o c':Nat} (h:μ a.block=some k) (hs:a.spot=none) (hm:o+c'*k.s≤k.m):
   RV μ (.slice (some a) 0 0) (.slice (some ⟨k.b,k.o+o,none⟩) 0 c')
 | mapNil:RV μ (.map none) (.map none)
 | map {r:Nat} {k:kJ} (h:μ r=some k):RV μ (.map (some r)) (.map (some k.b))
 | nilFunc:RV μ .nilFunc .nilFunc
 | nilIface:RV μ .nilIface .nilIface
 | func {f:Fn} {a a' b b':Array Value} (hf:∀ l,f ≠ .yield l) (ha:K9 μ a.toList a'.toList) (hb:K9 μ b.toList b'.toList):RV μ (.func f a b) (.func f a' b')
 | yield {h:Nat} {k:kJ} (hh:μ h=some k):RV μ (.func (.yield h) #[] #[]) (.func (.yield k.b) #[] #[])
 | iface {t:TypeId} {v v':Value} (h:RV μ v v'):RV μ (.iface t v) (.iface t v')
 | agg {a a':Array Value} (h:K9 μ a.toList a'.toList) (hl:∀ v ∈ a.toList,v.oneCell'=true):RV μ (.agg a) (.agg a')
 | tuple {a a':Array Value} (h:K9 μ a.toList a'.toList):RV μ (.tuple a) (.tuple a')
inductive K9 (μ:Mu):List Value→List Value→Prop
 | nil:K9 μ [] []
 | cons {v v':Value} {vs vs':List Value} (h:RV μ v v') (t:K9 μ vs vs'):K9 μ (v::vs) (v'::vs')
end
def Mu.le (μ μ':Mu):Prop:=∀ h k,μ h=some k→μ' h=some k
theorem Mu.le_refl (μ:Mu):μ.le μ:=fun _ _ h=>h
theorem Mu.le_trans {a b c:Mu} (h:a.le b) (g:b.le c):a.le c:=fun _ _ e=>g _ _ (h _ _ e)
mutual
theorem RV.mono {μ μ':Mu} (hm:μ.le μ'):∀ {v v':Value},RV μ v v'→RV μ' v v'
 | _,_,.bool b=>.bool b
 | _,_,.int k n=>.int k n
 | _,_,.string s=>.string s
 | _,_,.ptrNil=>.ptrNil
 | _,_,.ptr h hs=>.ptr (hm _ _ h) hs
 | _,_,.sliceNil=>.sliceNil
 | _,_,.sliceZ x hz=>.sliceZ x hz
 | _,_,.slice h hs hl hc hm'=>.slice (hm _ _ h) hs hl hc hm'
 | _,_,.sliceEnd h hs hm'=>.sliceEnd (hm _ _ h) hs hm'
 | _,_,.mapNil=>.mapNil
 | _,_,.map h=>.map (hm _ _ h)
 | _,_,.nilFunc=>.nilFunc
 | _,_,.nilIface=>.nilIface
 | _,_,.func hf ha hb=>.func hf (K9.mono hm ha) (K9.mono hm hb)
 | _,_,.yield hh=>.yield (hm _ _ hh)
 | _,_,.iface h=>.iface (RV.mono hm h)
 | _,_,.agg h hl=>.agg (K9.mono hm h) hl
 | _,_,.tuple h=>.tuple (K9.mono hm h)
theorem K9.mono {μ μ':Mu} (hm:μ.le μ'):∀ {v v':List Value},K9 μ v v'→K9 μ' v v'
 | _,_,.nil=>.nil
 | _,_,.cons h t=>.cons (RV.mono hm h) (K9.mono hm t)
end
theorem K9.length {μ:Mu}:∀ {v v':List Value},K9 μ v v'→v.length=v'.length
 | _,_,.nil=>rfl
 | _,_,.cons _ t=>by simp[K9.length t]
theorem K9.get {μ:Mu}:∀ {v v':List Value},K9 μ v v' → ∀ (i:Nat) (x:Value),v[i]?=some x → ∃ x',v'[i]?=some x'∧RV μ x x'
 | _,_,.nil,i,x,h=>by simp at h
 | _,_,.cons h t,0,x,hx=>by simp at hx; subst hx; exact ⟨_,by simp,h⟩
 | _,_,.cons h t,i+1,x,hx=>by simpa using K9.get t i x (by simpa using hx)
theorem K9.append {μ:Mu}:∀ {v v' u u':List Value},K9 μ v v'→K9 μ u u'→K9 μ (v++u) (v'++u')
 | _,_,_,_,.nil,h=>h
 | _,_,_,_,.cons h t,g=>.cons h (K9.append t g)
theorem K9.xB {μ:Mu}:∀ {v v':List Value},v.length=v'.length→(∀ (i:Nat) x x',v[i]?=some x→v'[i]?=some x'→RV μ x x')→K9 μ v v'
 | [],[],_,_=>.nil
 | [],_::_,h,_=>by simp at h
 | _::_,[],h,_=>by simp at h
 | x::xs,y::ys,h,g=>.cons (g 0 x y (by simp) (by simp)) (K9.xB (by simpa using h) fun i a b ha hb=>g (i+1) a b (by simpa using ha) (by simpa using hb))
theorem K9.take {μ:Mu}:∀ {v v':List Value} (n:Nat),K9 μ v v'→K9 μ (v.take n) (v'.take n)
 | _,_,_,.nil=>by simp; exact .nil
 | _,_,0,.cons _ _=>by simp; exact .nil
 | _,_,n+1,.cons h t=>by simp; exact .cons h (K9.take n t)
theorem K9.drop {μ:Mu}:∀ {v v':List Value} (n:Nat),K9 μ v v'→K9 μ (v.drop n) (v'.drop n)
 | _,_,_,.nil=>by simp; exact .nil
 | _,_,0,.cons h t=>by simp; exact .cons h t
 | _,_,n+1,.cons h t=>by simp; exact K9.drop n t
theorem K9.rep {μ:Mu} {z z':List Value} (h:K9 μ z z'):∀ n:Nat,K9 μ (rep n z) (rep n z')
 | 0=>by simp[AX.rep]; exact .nil
 | n+1=>by
   have e:∀ y:List Value,AX.rep (n+1) y=y++AX.rep n y:=fun y=>by simp[AX.rep,List.replicate_succ]
   rw[e,e]; exact h.append (K9.rep h n)
theorem RV.leaf {μ:Mu} {v v':Value} (h:RV μ v v'):v'.oneCell'=v.oneCell':=by cases h <;> rfl
theorem K9.leaf {μ:Mu}:∀ {v v':List Value},K9 μ v v'→(∀ x ∈ v,x.oneCell'=true) → ∀ x ∈ v',x.oneCell'=true
 | _,_,.nil,_,x,hx=>by simp at hx
 | _,_,.cons h t,g,x,hx=>by
   rcases List.mem_cons.1 hx with rfl | hx
   ·rw[h.leaf]; exact g _ (by simp)
   ·exact K9.leaf t (fun y hy=>g y (by simp[hy])) x hx
theorem RV.JC {μ:Mu} {v:Value} (h:JC v=true):RV μ v v:=by
 unfold AX.JC at h
 split at h
 ·exact .bool _
 ·exact .int _ _
 ·exact .string _
 ·exact .ptrNil
 ·exact .sliceNil
 ·exact .mapNil
 ·exact .nilFunc
 ·exact .nilIface
 ·cases h
 ·rename_i f a b hne
  simp at h
  obtain ⟨ha,hb⟩:=h
  refine .func (fun l hl=>hne l hl) ?_ ?_
  ·simp[ha]; exact .nil
  ·simp[hb]; exact .nil
 ·simp at h
theorem xy {v:Value} (h:JC v=true):v.oneCell'=true:=by
 cases v <;> first | rfl | simp[JC] at h
theorem K9.JC {μ:Mu}:∀ {vs:List Value},vs.all AX.JC=true→K9 μ vs vs
 | [],_=>.nil
 | v::vs,h=>by
   simp at h
   exact .cons (.JC h.1) (K9.JC (by simpa using h.2))
theorem RV.JR {μ:Mu} {v:Value} (h:JR v=true):RV μ v v:=by
 unfold AX.JR at h
 split at h
 ·exact .agg (.JC h) fun x hx=>xy (by simp only[List.all_eq_true] at h; exact h x hx)
 ·exact .tuple (.JC h)
 ·exact .JC h
inductive ez (μ:Mu):List (Int × Value)→List MapEntry→Prop
 | nil:ez μ [] []
 | cons {k:Int} {v:Value} {e:MapEntry} {es:List (Int × Value)} {es':List MapEntry} (hk:e.key = .int .i64 k) (hv:RV μ v e.val) (t:ez μ es es'):ez μ ((k,v)::es) (e::es')
theorem ez.mono {μ μ':Mu} (hm:μ.le μ'):∀ {v:List (Int × Value)} {v':List MapEntry},ez μ v v'→ez μ' v v'
 | _,_,.nil=>.nil
 | _,_,.cons hk hv t=>.cons hk (hv.mono hm) (ez.mono hm t)
def OC (μ:Mu) (regs:AZ) (tmps:Array Value):Prop:=
 regs.length≤tmps.size ∧ ∀ (t:Nat) (v:Value),regs.getD t none=some v → ∃ v',tmps[t]?=some v'∧RV μ v v'
theorem OC.mono {μ μ':Mu} {regs:AZ} {tmps:Array Value} (h:OC μ regs tmps) (hm:μ.le μ'):OC μ' regs tmps:=
 ⟨h.1,fun t v ht=>let ⟨v',h1,h2⟩:=h.2 t v ht; ⟨v',h1,h2.mono hm⟩⟩
def gk:Dg→Option Code
 | .normal=>none
 | .exit id=>some (.exit id)
 | .ret=>some .ret
def StR:LSt→Loop→Prop
 | .ready,r=>r.state = .ready∧r.pending=none
 | .busy,r=>r.state = .busy
 | .done x,r=>r.state = .done∧r.pending=gk x
def Ajp (P:Program) (μ:Mu) (f:FuncId) (st:LSt) (regs:AZ) (r:Loop):Prop:=
 (∃ F c,P.funcs[f]?=some F∧F.body=some c∧CG c=some (r.params,r.assign,r.body))∧OC μ regs r.tmps∧StR st r
def pX (P:Program) (μ:Mu) (o:A6) (k:kJ) (x:Option Obj):Prop:=
 match o with
 | .cells vs T rw=>∃ c T' fz,x=some (.cells c T' fz)∧vs.length=k.n∧k.n≤k.m∧k.o+k.m≤c.size∧k.s=P.cellsOf T∧(rw=true→fz=(0,0)) ∧
   (∀ v ∈ vs,v.oneCell'=true)∧K9 μ vs ((c.toList.drop k.o).take k.n)
 | .map es=>∃ entries clock,x=some (.map entries clock)∧ez μ es entries.toList
 | .loop f st regs=>∃ r,x=some (.loop r)∧Ajp P μ f st regs r
 | .dead=>True
def alive (σ:Aa) (h:Nat):Prop:=∃ o,σ[h]?=some o∧o ≠ .dead
def Ay (σ:Aa) (h:Nat):Prop:=
 match σ[h]? with
 | some (.cells _ _ true) | some (.map _) | some (.loop _ _ _)=>True
 | _=>False
structure R (P:Program) (μ:Mu) (σ:Aa) (w:World):Prop where
 obj:∀ h o k,σ[h]?=some o→μ h=some k→pX P μ o k w.heap[k.b]?
 lt:∀ h k,μ h=some k→k.b<w.heap.size
 inj:∀ h h' k k',μ h=some k→μ h'=some k'→alive σ h→alive σ h'→Ay σ h∨Ay σ h'→k.b=k'.b→h=h'
def HT (μ:Mu) (lo hi:Nat):Prop:=∀ h,lo≤h→h<hi→μ h=none
structure Step (μ:Mu) (σ:Aa) (w:World) (μ':Mu) (σ':Aa) (w':World):Prop where
 len:σ.length≤σ'.length
 mu:∀ h,(h<σ.length∨σ'.length≤h)→μ' h=μ h
 wr:∀ h,h<σ.length→Ay σ' h→Ay σ h
 new:∀ h k,σ.length≤h→h<σ'.length→μ' h=some k→w.heap.size≤k.b ∨ ∃ h0 k0,h0<σ.length∧μ h0=some k0∧k0.b=k.b∧Ay σ h0
 size:w.heap.size≤w'.heap.size
 tape:w'.tape=w.tape
 os:w'.os=w.os
 output:w'.output=w.output
 frame:∀ b,b<w.heap.size→(∀ h k,h<σ.length→μ h=some k→k.b=b→¬ Ay σ h)→w'.heap[b]?=w.heap[b]?
theorem Step.refl (μ:Mu) (σ:Aa) (w:World):Step μ σ w μ σ w:=
 ⟨Nat.le_refl _,fun _ _=>rfl,fun _ _ h=>h,fun h k h1 h2=>absurd h2 (by omega),Nat.le_refl _,rfl,rfl,rfl,fun _ _ _=>rfl⟩
theorem Step.le {μ μ':Mu} {σ σ':Aa} {w w':World} (s:Step μ σ w μ' σ' w') (f:HT μ σ.length σ'.length):μ.le μ':=by
 intro h k hk
 by_cases h1:h<σ.length∨σ'.length≤h
 ·rw[s.mu h h1]; exact hk
 ·rw[f h (by omega) (by omega)] at hk; cases hk
theorem HT.sub {μ:Mu} {a b c d:Nat} (h:HT μ a b) (h1:a≤c) (h2:d≤b):HT μ c d:=fun x hx hy=>h x (by omega) (by omega)
theorem HT.step {μ μ':Mu} {σ σ':Aa} {w w':World} {hi:Nat} (s:Step μ σ w μ' σ' w') (f:HT μ σ.length hi):HT μ' σ'.length hi:=by
 intro h h1 h2
 rw[s.mu h (.inr h1)]
 exact f h (Nat.le_trans s.len h1) h2
theorem Step.trans {μ μ' μ'':Mu} {σ σ' σ'':Aa} {w w' w'':World} (s:Step μ σ w μ' σ' w') (t:Step μ' σ' w' μ'' σ'' w''):Step μ σ w μ'' σ'' w'':=by
 refine ⟨Nat.le_trans s.len t.len, ?_, ?_, ?_,Nat.le_trans s.size t.size,t.tape.trans s.tape,t.os.trans s.os,t.output.trans s.output, ?_⟩
 ·intro h hh
  have l1:=s.len; have l2:=t.len
  rw[t.mu h (by omega),s.mu h (by omega)]
 ·intro h hh hw
  exact s.wr h hh (t.wr h (Nat.lt_of_lt_of_le hh s.len) hw)
 ·intro h k h1 h2 hk
  by_cases hlt:h<σ'.length
  ·rw[t.mu h (.inl hlt)] at hk
   exact s.new h k h1 hlt hk
  ·rcases t.new h k (by omega) h2 hk with hb | ⟨h0,k0,hh0,hk0,hb,hw⟩
   ·exact .inl (Nat.le_trans s.size hb)
   ·by_cases h0lt:h0<σ.length
    ·rw[s.mu h0 (.inl h0lt)] at hk0
     exact .inr ⟨h0,k0,h0lt,hk0,hb,s.wr h0 h0lt hw⟩
    ·rcases s.new h0 k0 (by omega) hh0 hk0 with hb' | ⟨h1',k1,hh1,hk1,hb1,hw1⟩
     ·exact .inl (by omega)
     ·exact .inr ⟨h1',k1,hh1,hk1,hb1.trans hb,hw1⟩
 ·intro b hb hn
  rw[t.frame b (Nat.lt_of_lt_of_le hb s.size) ?_,s.frame b hb hn]
  intro h k hh hk hkb hw
  by_cases hlt:h<σ.length
  ·rw[s.mu h (.inl hlt)] at hk
   exact hn h k hlt hk hkb (s.wr h hlt hw)
  ·rcases s.new h k (by omega) hh hk with hb' | ⟨h0,k0,hh0,hk0,hb0,hw0⟩
   ·omega
   ·exact hn h0 k0 hh0 hk0 (hb0.trans hkb) hw0
theorem R.drew {P:Program} {μ:Mu} {σ:Aa} {w:World} (h:R P μ σ w):R P μ σ w.drew:=⟨h.obj,h.lt,h.inj⟩
theorem Step.drew (μ:Mu) (σ:Aa) (w:World):Step μ σ w μ σ w.drew:=
 ⟨Nat.le_refl _,fun _ _=>rfl,fun _ _ h=>h,fun h k h1 h2=>absurd h2 (by omega),Nat.le_refl _,rfl,rfl,rfl,fun _ _ _=>rfl⟩
theorem pX.mono {P:Program} {μ μ':Mu} (hm:μ.le μ') {o:A6} {k:kJ} {x:Option Obj} (h:pX P μ o k x):pX P μ' o k x:=by
 cases o with
 | cells vs T rw=>
   obtain ⟨c,T',fz,hx,h1,h2,h3,h4,h5,h6,h7⟩:=h
   exact ⟨c,T',fz,hx,h1,h2,h3,h4,h5,h6,h7.mono hm⟩
 | map es=>
   obtain ⟨entries,clock,hx,h1⟩:=h
   exact ⟨entries,clock,hx,h1.mono hm⟩
 | loop f st regs=>
   obtain ⟨r,hx,h1,h2,h3⟩:=h
   exact ⟨r,hx,h1,h2.mono hm,h3⟩
 | dead=>trivial
def Mu.put (μ:Mu) (h:Nat) (k:kJ):Mu:=fun x=>if x=h then some k else μ x
theorem Mu.FM (μ:Mu) (h:Nat) (k:kJ):μ.put h k h=some k:=by simp[Mu.put]
theorem Mu.Gc (μ:Mu) {h x:Nat} (k:kJ) (hx:x≠h):μ.put h k x=μ x:=by simp[Mu.put,hx]
theorem Mu.Adu {μ:Mu} {h:Nat} {k:kJ} (hn:μ h=none):μ.le (μ.put h k):=by
 intro x y hx
 rw[Mu.Gc μ k (by rintro rfl; rw[hn] at hx; cases hx)]; exact hx
theorem Sm {σ:Aa} {o:A6} {h:Nat} (hh:h≠σ.length) (hw:Ay (σ++[o]) h):Ay σ h:=by
 unfold Ay at hw ⊢
 by_cases hlt:h<σ.length
 ·rwa [List.getElem?_append_left hlt] at hw
 ·rw[List.getElem?_eq_none (by simp; omega)] at hw; exact hw.elim
theorem ie {σ:Aa} {o:A6} {h:Nat} (hh:h≠σ.length) (ha:alive (σ++[o]) h):alive σ h:=by
 obtain ⟨x,hx,hd⟩:=ha
 have hlt:h<σ.length:=by
  have:=(List.getElem?_eq_some_iff.1 hx).1
  simp at this; omega
 exact ⟨x,by rwa [List.getElem?_append_left hlt] at hx,hd⟩
theorem heap_alloc_old {w:World} {x:Obj} {b:Nat} (hb:b<w.heap.size):(w.alloc x).heap[b]?=w.heap[b]?:=by
 show (w.heap.push x)[b]?=_
 rw[Array.getElem?_push,if_neg (by omega)]
theorem heap_alloc_new (w:World) (x:Obj):(w.alloc x).heap[w.heap.size]?=some x:=by
 show (w.heap.push x)[w.heap.size]?=_
 rw[Array.getElem?_push,if_pos rfl]
theorem R.alloc {P:Program} {μ:Mu} {σ:Aa} {w:World} {o:A6} {x:Obj} {k:kJ} (h:R P μ σ w) (hf:μ σ.length=none) (hb:k.b=w.heap.size)
  (ho:pX P μ o k (some x)):R P (μ.put σ.length k) (σ++[o]) (w.alloc x):=by
 have hle:μ.le (μ.put σ.length k):=Mu.Adu hf
 have hold:∀ b,b<w.heap.size→(w.alloc x).heap[b]?=w.heap[b]?:=fun b hb=>heap_alloc_old hb
 refine ⟨?_, ?_, ?_⟩
 ·intro h' o' k' ho' hk'
  by_cases he:h'=σ.length
  ·subst he
   rw[Mu.FM] at hk'
   cases hk'
   simp at ho'
   subst ho'
   have:(w.alloc x).heap[k.b]?=some x:=by rw[hb]; exact heap_alloc_new w x
   rw[this]
   exact ho.mono hle
  ·rw[Mu.Gc μ k he] at hk'
   have hlt:h'<σ.length:=by
    have:=(List.getElem?_eq_some_iff.1 ho').1
    simp at this; omega
   rw[List.getElem?_append_left hlt] at ho'
   rw[hold _ (h.lt _ _ hk')]
   exact (h.obj h' o' k' ho' hk').mono hle
 ·intro h' k' hk'
  by_cases he:h'=σ.length
  ·subst he; rw[Mu.FM] at hk'; cases hk'; simp[hb]
  ·rw[Mu.Gc μ k he] at hk'
   have:=h.lt _ _ hk'; simp; omega
 ·intro a b ka kb ha hb' haa hab hww hkk
  by_cases he:a=σ.length <;> by_cases he':b=σ.length
  ·omega
  ·subst he; rw[Mu.FM] at ha; cases ha
   rw[Mu.Gc μ k he'] at hb'
   have:=h.lt _ _ hb'; omega
  ·subst he'; rw[Mu.FM] at hb'; cases hb'
   rw[Mu.Gc μ k he] at ha
   have:=h.lt _ _ ha; omega
  ·rw[Mu.Gc μ k he] at ha
   rw[Mu.Gc μ k he'] at hb'
   exact h.inj a b ka kb ha hb' (ie he haa) (ie he' hab) (hww.imp (Sm he) (Sm he')) hkk
theorem mG {σ:Aa} {o:A6} {h:Nat} (hlt:h<σ.length):Ay (σ++[o]) h=Ay σ h:=by
 unfold Ay; rw[List.getElem?_append_left hlt]
theorem Step.alloc {μ:Mu} {σ:Aa} {w:World} {o:A6} {x:Obj} {k:kJ} (hb:k.b=w.heap.size):Step μ σ w (μ.put σ.length k) (σ++[o]) (w.alloc x):=by
 refine ⟨by simp, ?_, ?_, ?_,by simp,rfl,rfl,rfl, ?_⟩
 ·intro h hh; exact Mu.Gc μ k (by simp at hh; omega)
 ·intro h hh hw; rwa [mG hh] at hw
 ·intro h k' h1 h2 hk
  have:h=σ.length:=by simp at h2; omega
  subst this; rw[Mu.FM] at hk; cases hk; exact .inl (by omega)
 ·intro b hb _
  exact heap_alloc_old hb
end Go.AX
end
