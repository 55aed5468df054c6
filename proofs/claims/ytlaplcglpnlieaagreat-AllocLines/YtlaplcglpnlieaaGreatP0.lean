/- THE ABSTRACT EXECUTOR: a deterministic executor of the model's code over an abstract memory (handles in the place of block numbers; no spare capacity, -/
import Derived.WalkKit
import Derived.KernelRfl
set_option linter.unusedVariables false
set_option linter.unusedSimpArgs false
set_option linter.unusedSectionVars false
section
namespace Go.AX
open Go
inductive AP where
 | cells (vs:List Value) (T:TypeId) (rw:Bool)
 | map (es:List (Int × Value))
 | dead
 deriving Inhabited
abbrev Aa:=List AP
abbrev Bx:=List (Option Value)
inductive Kd where
 | int (k:IntKind) | bool | str | ptr | slice | map | func | any
 deriving DecidableEq,Inhabited
def BF (k:IntKind):Value→Option Int
 | .int k' n=>if k'=k then some n else none
 | _=>none
def DY:Value→Option Bool
 | .bool b=>some b
 | _=>none
def toStr:Value→Option ByteArray
 | .string b=>some b
 | _=>none
def VD:Value→Option (Option Addr)
 | .pointer a=>some a
 | _=>none
def Hm:Value→Option (Option Addr × Nat × Nat)
 | .slice a l c=>some (a,l,c)
 | _=>none
def Zx:Value→Option (Option Nat)
 | .map r=>some r
 | _=>none
def qZ:Value→Option (List Value)
 | .agg vs=>some vs.toList
 | _=>none
def Zg:Value→Option (List Value)
 | .tuple vs=>some vs.toList
 | _=>none
def Gs (σ:Aa) (b o:Nat):Option Value:=
 match σ[b]? with
 | some (.cells vs _ _)=>vs[o]?
 | _=>none
def Ai (k:IntKind) (σ:Aa) (b o:Nat):Option Int:=(Gs σ b o).bind (BF k)
def Wu (σ:Aa) (b o:Nat):Option Bool:=(Gs σ b o).bind DY
def nE (σ:Aa) (b o:Nat):Option ByteArray:=(Gs σ b o).bind toStr
def Jb (σ:Aa) (b o:Nat):Option (Option Addr):=(Gs σ b o).bind VD
def Ee (σ:Aa) (b o:Nat):Option (Option Addr × Nat × Nat):=(Gs σ b o).bind Hm
def lH (σ:Aa) (b o:Nat):Option (Option Nat):=(Gs σ b o).bind Zx
section
variable {ρ:Type}
def qW (k:Kd) (v:Value) (K:Value→Option ρ):Option ρ:=
 match k with
 | .int k=>(BF k v).bind fun n=>K (.int k n)
 | .bool=>(DY v).bind fun b=>K (.bool b)
 | .str=>(toStr v).bind fun s=>K (.string s)
 | .ptr=>(VD v).bind fun a=>K (.pointer a)
 | .slice=>(Hm v).bind fun s=>K (.slice s.1 s.2.1 s.2.2)
 | .map=>(Zx v).bind fun r=>K (.map r)
 | .func=>K v
 | .any=>K v
def dV:List Kd→List Value→(List Value→Option ρ)→Option ρ
 | [],_,K=>K []
 | k::ks,l,K=>l.head?.bind fun v=>qW k v fun v=>dV ks l.tail fun vs=>K (v::vs)
def oE (k:Kd) (σ:Aa) (b o:Nat) (K:Value→Option ρ):Option ρ:=
 match k with
 | .int k=>(Ai k σ b o).bind fun n=>K (.int k n)
 | .bool=>(Wu σ b o).bind fun b=>K (.bool b)
 | .str=>(nE σ b o).bind fun s=>K (.string s)
 | .ptr=>(Jb σ b o).bind fun a=>K (.pointer a)
 | .slice=>(Ee σ b o).bind fun s=>K (.slice s.1 s.2.1 s.2.2)
 | .map=>(lH σ b o).bind fun r=>K (.map r)
 | .func=>(Gs σ b o).bind K
 | .any=>(Gs σ b o).bind K
def aO:List Kd→Aa→Nat→Nat→(List Value→Option ρ)→Option ρ
 | [],_,_,_,K=>K []
 | k::ks,σ,b,o,K=>oE k σ b o fun v=>aO ks σ b (o+1) fun vs=>K (v::vs)
end
def nA:TypeDesc→Kd
 | .int k=>.int k
 | .bool=>.bool
 | .string=>.str
 | .pointer _=>.ptr
 | .slice _=>.slice
 | .map _ _=>.map
 | .func _ _ _=>.func
 | _=>.any
def flat (P:Program):Nat→TypeId→List Kd
 | 0,_=>[]
 | d+1,T=>match P.underlying T with
   | some (.struct fs)=>fs.toList.flatMap fun f=>flat P d f.type
   | some (.array n e)=>(List.range n).flatMap fun _=>flat P d e
   | some t=>[nA t]
   | none=>[]
def Lq (P:Program) (T:TypeId):Bool:=
 match P.underlying T with
 | some (.struct _) | some (.array _ _)=>true
 | _=>false
def AF (cs:List Value) (o:Nat) (vs:List Value):List Value:=cs.take o++vs++cs.drop (o+vs.length)
def Ih:Value→Bool
 | .bool _ | .int _ _ | .string _ | .pointer none | .slice none 0 0 | .map none | .nilFunc | .nilIface=>true
 | .func _ a b=>a.toList.isEmpty && b.toList.isEmpty
 | _=>false
def It:Value→Bool
 | .agg vs=>vs.toList.all Ih
 | .tuple vs=>vs.toList.all Ih
 | v=>Ih v
def IM:Value→Bool
 | .tuple _=>true
 | _=>false
def Gz (σ:Aa) (b o:Nat) (v:Value):Option Aa:=
 match σ[b]? with
 | some (.cells cs T true)=>if o<cs.length then some (σ.set b (.cells (cs.set o v) T true)) else none
 | _=>none
def Kj (σ:Aa) (b o:Nat) (vs:List Value):Option Aa:=
 match σ[b]? with
 | some (.cells cs T true)=>if o+vs.length≤cs.length then some (σ.set b (.cells (AF cs o vs) T true)) else none
 | _=>none
def IZ (σ:Aa) (b:Nat):Bool:=
 match σ[b]? with
 | some (.cells _ _ rw)=>rw
 | some (.map _)=>true
 | _=>false
def Ue (σ:Aa) (b o n:Nat):Option (List Value):=
 match σ[b]? with
 | some (.cells vs _ _)=>if o+n≤vs.length then some ((vs.drop o).take n) else none
 | _=>none
def Sp (σ:Aa) (r:Nat):Option (List (Int × Value)):=
 match σ[r]? with
 | some (.map es)=>some es
 | _=>none
def Ph (es:List (Int × Value)) (k:Int):Option Value:=(es.find? fun e=>k == e.1).map (·.2)
def Og (k:Int) (v:Value):List (Int × Value)→List (Int × Value)
 | []=>[(k,v)]
 | e::es=>if k == e.1 then (k,v)::es else e::Og k v es
def Ml (k:Int):List (Int × Value)→List (Int × Value)
 | []=>[]
 | e::es=>if k == e.1 then es else e::Ml k es
section
variable {ρ:Type}
def qt (op:BinOp) (k:IntKind) (a b:Int) (K:Value→Option ρ):Option ρ:=
 match op with
 | .add=>K (.int k (k.wrap (a+b)))
 | .sub=>K (.int k (k.wrap (a-b)))
 | .mul=>K (.int k (k.wrap (a*b)))
 | .quo=>if b=0 then none else K (.int k (k.wrap (a.tdiv b)))
 | .rem=>if b=0 then none else K (.int k (a.tmod b))
 | .and=>K (.int k (k.wrap (BitVec.ofInt k.bits a &&& BitVec.ofInt k.bits b).toNat))
 | .or=>K (.int k (k.wrap (BitVec.ofInt k.bits a ||| BitVec.ofInt k.bits b).toNat))
 | .xor=>K (.int k (k.wrap (BitVec.ofInt k.bits a ^^^ BitVec.ofInt k.bits b).toNat))
 | .andNot=>K (.int k (k.wrap (BitVec.ofInt k.bits a &&& ~~~ (BitVec.ofInt k.bits b)).toNat))
 | .eql=>K (.bool (a == b))
 | .neq=>K (.bool (a != b))
 | .lss=>K (.bool (decide (a<b)))
 | .leq=>K (.bool (decide (a≤b)))
 | .gtr=>K (.bool (decide (a>b)))
 | .geq=>K (.bool (decide (a≥b)))
 | .shl | .shr=>none
def eZ (op:BinOp) (k:IntKind) (a b:Int) (K:Value→Option ρ):Option ρ:=
 if b<0 then none else
 match op with
 | .shl=>K (.int k (k.wrap (a*2 ^ (min b.toNat k.bits))))
 | .shr=>K (.int k (a.fdiv (2 ^ (min b.toNat k.bits))))
 | _=>none
def jc (P:Program) (T:TypeId) (a b:Value):Option Bool:=
 match P.underlying T,a,b with
 | some (.int _),.int k x,.int k' y=>if k=k' then some (x == y) else none
 | some .bool,.bool x,.bool y=>some (x == y)
 | some .string,.string x,.string y=>some (x == y)
 | _,_,_=>none
def ao (P:Program):List Field→List Value→List Value→Option Bool
 | [],[],[]=>some true
 | [f],[a],[b]=>jc P f.type a b
 | f::fs,a::as,b::bs=>(jc P f.type a b).bind fun t=>bif t then ao P fs as bs else some false
 | _,_,_=>none
def UA (P:Program):Nat→List Field→Bool
 | _,[]=>true
 | i,f::fs=>f.name != "_" && f.offset == i && !Lq P f.type && UA P (i+1) fs
def SE (P:Program) (T:TypeId) (a b:Value):Option Bool:=
 match a,b with
 | .bool x,.bool y=>(match P.underlying T with | some .bool=>some (x == y) | _=>none)
 | .pointer none,.pointer y=>(match P.underlying T with | some (.pointer _)=>some y.isNone | _=>none)
 | .pointer x,.pointer none=>(match P.underlying T with | some (.pointer _)=>some x.isNone | _=>none)
 | .slice none _ _,.slice y _ _=>(match P.underlying T with | some (.slice _)=>some y.isNone | _=>none)
 | .slice x _ _,.slice none _ _=>(match P.underlying T with | some (.slice _)=>some x.isNone | _=>none)
 | .agg xs,.agg ys=>(match P.underlying T with
   | some (.struct fs)=>bif UA P 0 fs.toList && !P.stoodInHeld T && !P.eqGuardType P.depth T then ao P fs.toList xs.toList ys.toList else none
   | _=>none)
 | _,_=>none
def qs (P:Program) (op:BinOp) (T:TypeId) (x y:Value) (K:Value→Option ρ):Option ρ:=
 match x,y with
 | .int k a,.int k' b=>match op with
   | .shl=>eZ .shl k a b K
   | .shr=>eZ .shr k a b K
   | _=>if k=k' then qt op k a b K else none
 | x,y=>match op with
   | .eql=>(SE P T x y).bind fun t=>K (.bool t)
   | .neq=>(SE P T x y).bind fun t=>K (.bool (!t))
   | _=>none
def sv (op:UnOp) (x:Value) (K:Value→Option ρ):Option ρ:=
 match op,x with
 | .not,.bool b=>K (.bool !b)
 | .neg,.int k n=>K (.int k (k.wrap (0-n)))
 | _,_=>none
def WZ (P:Program) (T:TypeId) (f:Nat):Option (Nat × TypeId):=
 match P.underlying T with
 | some (.struct fs)=>match fs.toList[f]? with
   | some x=>some (x.offset,x.type)
   | none=>none
 | _=>none
def lF (P:Program) (T:TypeId):Bool:=
 match P.underlying T with
 | some (.int .i64)=>true
 | _=>false
def HX (P:Program) (T:TypeId):Option Nat:=(P.info? T).map (·.size)
def bytesOf (P:Program) (T:TypeId):Option Nat:=(P.info? T).map (·.bytes)
def elemAt (σ:Aa) (b:Nat):Option TypeId:=
 match σ[b]? with
 | some (.cells _ T _)=>some T
 | _=>none
def QZ (P:Program) (T:TypeId):Option TypeId:=
 match P.underlying T with
 | some (.slice e)=>some e
 | _=>none
def fH (P:Program) (T:TypeId):Option (Nat × TypeId):=
 match P.underlying T with
 | some (.array n e)=>some (n,e)
 | _=>none
def FL (P:Program) (T:TypeId):Option Value:=(P.info? T).bind fun i=>i.zero.bind fun z=>if It z then some z else none
def rep (n:Nat) (z:List Value):List Value:=(List.replicate n z).flatten
def bound (x:Option Value) (dflt top:Nat) (K:Nat→Option ρ):Option ρ:=
 match x with
 | none=>K dflt
 | some (.int _ i)=>if 0≤i∧i≤top then K i.toNat else none
 | some _=>none
def aZ (P:Program) (T:TypeId):List (Nat × Value)→List Value→Option (List Value)
 | [],cs=>some cs
 | (i,v)::ps,cs=>match WZ P T i with
   | some (o,t)=>if HX P t=some v.cells.size∧o+v.cells.size≤cs.length∧IM v=false then aZ P T ps (AF cs o v.cells.toList) else none
   | none=>none
def Yd (s:Nat):List (Nat × Value)→List Value→Option (List Value)
 | [],cs=>some cs
 | (i,v)::ps,cs=>if v.cells.size=s∧i*s+v.cells.size≤cs.length∧IM v=false then Yd s ps (AF cs (i*s) v.cells.toList) else none
def oD (e:Operand→Option Value):List Operand→(List Value→Option ρ)→Option ρ
 | [],K=>K []
 | x::xs,K=>(e x).bind fun v=>oD e xs fun vs=>K (v::vs)
def pX (e:Operand→Option Value):List (Nat × Operand)→(List (Nat × Value)→Option ρ)→Option ρ
 | [],K=>K []
 | (i,x)::xs,K=>(e x).bind fun v=>pX e xs fun vs=>K ((i,v)::vs)
def pW (e:Operand→Option Value) (x:Option Operand) (K:Option Value→Option ρ):Option ρ:=
 match x with
 | none=>K none
 | some x=>(e x).bind fun v=>K (some v)
def Q4 (n bytes:Nat):Prop:=n*bytes≤2 ^ 40∧n≤2 ^ 40
instance (n bytes:Nat):Decidable (Q4 n bytes):=inferInstanceAs (Decidable (_∧_))
def F5 (σ:Aa) (s:Nat) (x:Option Addr) (n:Nat):Option (List Value):=
 match x with
 | some a=>Ue σ a.block a.off (n*s)
 | none=>if n=0 then some [] else none
def Lp (a:Option Addr):Bool:=
 match a with
 | none=>true
 | some a=>a.spot.isSome
def SK (P:Program) (E:TypeId) (dst src:Option Addr × Nat × Nat) (σ:Aa) (K:Value→Aa→Option ρ):Option ρ:=
 (HX P E).bind fun s=>(bytesOf P E).bind fun by_=>
 (F5 σ s src.1 src.2.1).bind fun new=>(FL P E).bind fun z=>
 if ¬ (IM z=false∧HX P E=some z.cells.size∧0<z.cells.size) then none else
 if dst.2.1+src.2.1≤dst.2.2 then
  bif Lp dst.1 then (if dst.2.1+src.2.1=0 then K (.slice dst.1 0 0) σ else none)
  else dst.1.bind fun a=>(Kj σ a.block (a.off+dst.2.1*s) new).bind fun σ'=>K (.slice (some a) (dst.2.1+src.2.1) dst.2.2) σ'
 else if Q4 (dst.2.1+src.2.1) by_∧0<by_ then
  bif Lp dst.1 then (if dst.2.1=0 then K (.slice (some ⟨σ.length,0,none⟩) src.2.1 src.2.1) (σ++[AP.cells new E true]) else none)
  else dst.1.bind fun a=>if elemAt σ a.block=some E then (Ue σ a.block a.off (dst.2.1*s)).bind fun old=>
    bif IZ σ a.block then K (.slice (some ⟨σ.length,0,none⟩) (dst.2.1+src.2.1) (dst.2.1+src.2.1)) (σ.set a.block .dead++[AP.cells (old++new) E true])
    else none else none
 else none
abbrev EF:=Option Addr × Nat × Nat
def pC (v:Value) (σ:Aa):Option (EF × Aa):=
 match v with
 | .slice a l c=>some ((a,l,c),σ)
 | _=>none
def Bn (P:Program) (E:TypeId) (dst src:EF) (σ:Aa):Option (EF × Aa):=SK P E dst src σ pC
def KK (E:TypeId) (s:Nat) (v:EF) (lo hi mx:Option Value) (σ:Aa):Option EF:=
 bif !mx.isSome || hi.isSome then bound mx v.2.2 v.2.2 fun m=>bound hi v.2.1 m fun h=>bound lo 0 h fun l=>
  if m=l then (match v.1 with
   | none=>some (none,0,0)
   | some a=>bif mx.isSome then some (some ⟨a.block,a.off,some 0⟩,0,0) else if elemAt σ a.block=some E then some (some a,0,0) else none)
  else v.1.bind fun a=>if elemAt σ a.block=some E then some (some ⟨a.block,a.off+l*s,none⟩,h-l,m-l) else none
 else none
def sq (σ:Aa) (a:Option Addr) (vs:List Value):Option Aa:=
 match a with
 | some a=>Kj σ a.block a.off vs
 | none=>some σ
def eu (σ:Aa) (r:Option Nat):Option (List (Int × Value)):=
 match r with
 | none=>some []
 | some r=>Sp σ r
def ij (σ:Aa) (r:Option Nat) (es:List (Int × Value)):Aa:=
 match r with
 | none=>σ
 | some r=>σ.set r (.map es)
def nz (P:Program) (T:TypeId):Kd:=
 match P.underlying T with
 | some t=>nA t
 | none=>.any
def rR (P:Program) (T:TypeId) (v:Value) (K:Value→Option ρ):Option ρ:=
 match P.underlying T with
 | some (.struct _)=>(qZ v).bind fun l=>if l.length=(flat P 10 T).length then dV (flat P 10 T) l fun vs=>K (.agg vs.toArray) else none
 | some (.array _ _)=>none
 | some t=>qW (nA t) v K
 | none=>none
def kP (P:Program):List TypeId→List Value→(List Value→Option ρ)→Option ρ
 | [],_,K=>K []
 | T::Ts,l,K=>l.head?.bind fun v=>rR P T v fun v=>kP P Ts l.tail fun vs=>K (v::vs)
def mP (P:Program) (T:TypeId) (v:Value) (K:Value→Option ρ):Option ρ:=
 match (P.info? T).map (·.desc) with
 | some (TypeDesc.tuple ts)=>(Zg v).bind fun l=>if l.length=ts.toList.length then kP P ts.toList l fun vs=>K (.tuple vs.toArray) else none
 | _=>rR P T v K
end
abbrev Hn:=FuncId→List Value→Aa→Option (Value × Aa)
def Tg (P:Program) (t:TypeId) (nm:String):Option FuncId:=
 match P.info? t with
 | none=>none
 | some i=>match i.methods.find? (·.name == nm) with
   | none=>none
   | some m=>match m.path.toList,m.func,P.underlying t with
     | [],some (f,false),some (.struct _)=>some f
     | [],some (f,true),some (.pointer _)=>some f
     | _,_,_=>none
def Oz (P:Program) (call:Hn) (f:Value) (vs:List Value) (σ:Aa):Option (Value × Aa):=
 match f with
 | .func (.func f) first cap=>call f (first.toList++vs++cap.toList) σ
 | .func (.method nm) first _=>(match first.toList++vs with
   | .iface t v::rest=>(Tg P t nm).bind fun f=>call f (v::rest) σ
   | _=>none)
 | _=>none
class AK where
 q:Aa→Aa→Bool
 ok:∀ {σ σ':Aa},q σ σ'=true→σ <+: σ'
 k:Aa→Aa→Nat→Bool
 kok:∀ {σ σ':Aa} {h:Nat},k σ σ' h=true→σ'[h]?=σ[h]?
def FD [AK] {ρ:Type} (σ σ':Aa) (m:Option ρ):Option ρ:=bif AK.q σ σ' then m else none
def Sn [AK] {ρ:Type} (a:Option Addr) (σ σ':Aa) (m:Option ρ):Option ρ:=
 match a with
 | some a=>bif AK.k σ σ' a.block then m else none
 | none=>m
def OS [AK] {ρ:Type} (b:Bool) (σ σ':Aa) (m:Option ρ):Option ρ:=bif b then FD σ σ' m else m
section
variable {ρ:Type}
def qD (P:Program) (ts:List TypeId) (vs:List Value) (σ:Aa) (K:Value→Aa→Option ρ):Option ρ:=
 match ts,vs with
 | [t],[v]=>(match P.underlying t,v with
   | some (.slice _),.slice _ n _=>K (.int .i64 n) σ
   | some .string,.string s=>K (.int .i64 s.size) σ
   | some (.map _ _),.map r=>(eu σ r).bind fun es=>K (.int .i64 es.length) σ
   | _,_=>none)
 | _,_=>none
def rE (vs:List Value) (σ:Aa) (K:Value→Aa→Option ρ):Option ρ:=
 match vs with
 | [.int k x,.int k' y]=>if k=k' then K (.int k (if y<x then y else x)) σ else none
 | _=>none
def rD (vs:List Value) (σ:Aa) (K:Value→Aa→Option ρ):Option ρ:=
 match vs with
 | [.int k x,.int k' y]=>if k=k' then K (.int k (if y>x then y else x)) σ else none
 | _=>none
def kc [AK] (P:Program) (q:Bool) (ts:List TypeId) (vs:List Value) (σ:Aa) (K:Value→Aa→Option ρ):Option ρ:=
 match ts,vs with
 | [t,t'],[.slice a l c,.slice a' l' c']=>match P.underlying t' with
   | some (.slice _)=>(QZ P t).bind fun E=>(Bn P E (a,l,c) (a',l',c') σ).bind fun r=>OS q σ r.2 (K (.slice r.1.1 r.1.2.1 r.1.2.2) r.2)
   | _=>none
 | _,_=>none
def pV (P:Program) (ts:List TypeId) (vs:List Value) (σ:Aa) (K:Value→Aa→Option ρ):Option ρ:=
 match ts,vs with
 | [t,_],[.slice a l _,.slice a' l' _]=>(QZ P t).bind fun E=>(HX P E).bind fun s=>
   (F5 σ s a' (Nat.min l' l)).bind fun vs=>
   (sq σ a vs).bind fun σ'=>K (.int .i64 (Nat.min l' l:Nat)) σ'
 | _,_=>none
def mW (P:Program) (ts:List TypeId) (vs:List Value) (σ:Aa) (K:Value→Aa→Option ρ):Option ρ:=
 match ts,vs with
 | [t],[v]=>(match P.underlying t,v with
   | some (.map _ _),.map r=>(eu σ r).bind fun _=>K (.tuple #[]) (ij σ r [])
   | some (.slice E),.slice a l _=>
     (FL P E).bind fun z=>if IM z=false∧0<z.cells.size then (if l=0 then some σ else a.bind fun a=>Kj σ a.block a.off (rep l z.cells.toList)).bind fun σ'=>K (.tuple #[]) σ' else none
   | _,_=>none)
 | _,_=>none
def ki (P:Program) (ts:List TypeId) (vs:List Value) (σ:Aa) (K:Value→Aa→Option ρ):Option ρ:=
 match ts,vs with
 | [t,_],[.map r,.int .i64 k]=>(match P.underlying t,r with
   | some (.map kt _),r=>if lF P kt then (eu σ r).bind fun es=>K (.tuple #[]) (ij σ r (Ml k es)) else none
   | _,_=>none)
 | _,_=>none
def Qe [AK] (P:Program) (q:Bool) (b:Builtin) (ts:List TypeId) (vs:List Value) (σ:Aa) (K:Value→Aa→Option ρ):Option ρ:=
 match b with
 | .len=>qD P ts vs σ K
 | .min=>rE vs σ K
 | .max=>rD vs σ K
 | .append=>kc P q ts vs σ K
 | .copy=>pV P ts vs σ K
 | .clear=>mW P ts vs σ K
 | .delete=>ki P ts vs σ K
 | _=>none
inductive re where
 | pure | ld | al | lo
 deriving DecidableEq
def cd:Builtin→Bool→re
 | .len,true=>.ld
 | .len,false=>.pure
 | .min,_ | .max,_=>.pure
 | _,_=>.lo
def UJ (P:Program) (ts:List TypeId):Bool:=
 match ts with
 | t::_=>(match P.underlying t with | some (.map _ _)=>true | _=>false)
 | []=>false
def Io (P:Program) (o:Oper):re:=
 match o.op with
 | .load .. | .lookup .. | .slice ..=>.ld
 | .box .. | .alloc .. | .buildSlice .. | .makeMap .. | .makeSlice ..=>.al
 | .store .. | .mapUpdate ..=>.lo
 | .call c=>match c.callee with
   | .builtin b=>cd b (UJ P c.argTypes.toList)
   | _=>.al
 | _=>.pure
def Ym (P:Program) (S:FuncId→Bool) (o:Oper):Bool:=
 match o.op with
 | .call c=>match c.callee with
   | .value (.func f)=>S f
   | .builtin _=>(match Io P o with | .lo=>false | _=>true)
   | _=>false
 | _=>(match Io P o with | .lo=>false | _=>true)
def QO (P:Program) (S:FuncId→Bool):Code→Bool
 | .skip=>true
 | .region _ ops _=>ops.toList.all (Ym P S)
 | .seq a b=>QO P S a && QO P S b
 | .cond _ a b=>QO P S a && QO P S b
 | .block _ c=>QO P S c
 | .loop c=>QO P S c
 | .exit _=>true
 | .ret=>true
 | _=>false
def jY (P:Program):Nat→FuncId→Bool
 | 0,_=>false
 | d+1,f=>match P.funcs[f]? with
   | some F=>match F.body with
     | some c=>QO P (jY P d) c
     | none=>false
   | none=>false
def fX (P:Program) (f:FuncId):Bool:=jY P 6 f
def kh (P:Program) (v:Value):Bool:=
 match v with
 | .func (.func f) _ _=>fX P f
 | _=>false
def nM (v:Value) (K:Value→Option ρ):Option ρ:=
 match v with
 | .pointer a=>a.bind fun a=>K (.pointer (some a))
 | .func (.func f) first cap=>K (.func (.func f) first cap)
 | .iface t u=>K (.iface t u)
 | _=>none
def Le [AK] (P:Program) (call:Hn) (quiet:Bool) (o:Op) (ty:TypeId) (e:Operand→Option Value) (σ:Aa) (K:Value→Aa→Option ρ):Option ρ:=
 match o with
 | .move x | .assign x=>(e x).bind fun v=>K v σ
 | .pick c a b=>(e c).bind fun c=>match c with
   | .bool true=>(e a).bind fun v=>K v σ
   | .bool false=>(e b).bind fun v=>K v σ
   | _=>none
 | .box T x=>(e x).bind fun v=>bif IM v then none else K (.pointer (some ⟨σ.length,0,none⟩)) (σ++[.cells v.cells.toList T true])
 | .alloc T=>(FL P T).bind fun z=>if IM z=false then K (.pointer (some ⟨σ.length,0,none⟩)) (σ++[.cells z.cells.toList T true]) else none
 | .build T parts=>(FL P T).bind fun z=>pX e parts.toList fun ps=>match P.underlying T with
   | some (.struct fs)=>if (fs.toList.all fun f=>(P.info? f.type).isSome)=true∧IM z=false then (aZ P T ps z.cells.toList).bind fun cs=>K (.agg cs.toArray) σ else none
   | some (.array _ E)=>(HX P E).bind fun s=>if IM z=false then (Yd s ps z.cells.toList).bind fun cs=>K (.agg cs.toArray) σ else none
   | _=>none
 | .buildSlice T n parts=>(QZ P T).bind fun E=>bif n == 0 then (bif parts.toList.isEmpty then (HX P E).bind fun _=>K (.slice (some ⟨σ.length,0,some 0⟩) 0 0) (σ++[.cells [] E true]) else none) else (FL P E).bind fun z=>pX e parts.toList fun ps=>
   if HX P E=some z.cells.size∧0<n∧0<z.cells.size∧n*z.cells.size≤2 ^ 24∧IM z=false then
    (Yd z.cells.size ps (rep n z.cells.toList)).bind fun cs=>
     K (.slice (some ⟨σ.length,0,none⟩) n n) (σ++[.cells cs E true])
   else none
 | .load T x=>(e x).bind fun v=>match v with
   | .pointer a=>a.bind fun a=>
     bif Lq P T then (if HX P T=some (flat P 10 T).length then aO (flat P 10 T) σ a.block a.off fun vs=>K (.agg vs.toArray) σ else none)
     else (P.underlying T).bind fun _=>oE (nz P T) σ a.block a.off fun v=>K v σ
   | _=>none
 | .store T x y=>(e x).bind fun v=>(e y).bind fun u=>match v with
   | .pointer a=>a.bind fun a=>match u with
     | .agg vs=>if HX P T=some vs.size then (Kj σ a.block a.off vs.toList).bind fun σ'=>K undef σ' else none
     | .tuple _=>none
     | u=>if HX P T=some 1 then (Gz σ a.block a.off u).bind fun σ'=>K undef σ' else none
   | _=>none
 | .nilCheck x=>(e x).bind fun v=>nM v fun v=>K v σ
 | .binOp op T x y _=>(e x).bind fun a=>(e y).bind fun b=>qs P op T a b fun v=>K v σ
 | .unOp op _ x=>(e x).bind fun a=>sv op a fun v=>K v σ
 | .convert s d x=>(e x).bind fun v=>match P.underlying s,P.underlying d,v with
   | some (.int _),some (.int k),.int _ n=>K (.int k (k.wrap n)) σ
   | _,_,_=>none
 | .makeInterface T x=>(e x).bind fun v=>match P.underlying T with
   | some (.interface _)=>none
   | some _=>K (.iface T v) σ
   | none=>none
 | .makeFunc fn first cap=>oD e first.toList fun vs=>oD e cap.toList fun us=>K (.func fn vs.toArray us.toArray) σ
 | .makeMap _ none=>K (.map (some σ.length)) (σ++[.map []])
 | .makeSlice T l c=>(QZ P T).bind fun E=>(e l).bind fun l=>(e c).bind fun c=>match l,c with
   | .int .i64 l,.int .i64 c=>(bytesOf P E).bind fun by_=>if 0≤l∧l≤c∧c*by_≤2 ^ 40∧c≤2 ^ 40 then
     (FL P E).bind fun z=>if HX P E=some z.cells.size∧0<z.cells.size∧IM z=false then K (.slice (some ⟨σ.length,0,none⟩) l.toNat c.toNat) (σ++[.cells (rep c.toNat z.cells.toList) E true]) else none
     else none
   | _,_=>none
 | .slice T x lo hi mx=>(QZ P T).bind fun E=>(HX P E).bind fun s=>(e x).bind fun v=>pW e lo fun lo=>pW e hi fun hi=>pW e mx fun mx=>match v with
   | .slice a len cap=>(KK E s (a,len,cap) lo hi mx σ).bind fun r=>K (.slice r.1 r.2.1 r.2.2) σ
   | _=>none
 | .fieldAddr T x f=>(WZ P T f).bind fun ot=>(e x).bind fun v=>match v with
   | .pointer a=>a.bind fun a=>(HX P ot.2).bind fun s=>if s=0 then none else K (.pointer (some ⟨a.block,a.off+ot.1,none⟩)) σ
   | _=>none
 | .field T x f=>(WZ P T f).bind fun ot=>(e x).bind fun v=>match v with
   | .agg vs=>bif Lq P ot.2 then (HX P ot.2).bind fun s=>K (.agg ((vs.toList.drop ot.1).take s).toArray) σ
     else (P.underlying ot.2).bind fun _=>(vs.toList[ot.1]?).bind fun v=>K v σ
   | _=>none
 | .indexAddr T x i=>match fH P T with
   | some (len,E)=>(HX P E).bind fun s=>(e x).bind fun v=>(e i).bind fun i=>match v,i with
     | .pointer a,.int _ n=>a.bind fun a=>if 0≤n∧n<len then K (.pointer (some ⟨a.block,a.off+n.toNat*s,none⟩)) σ else none
     | _,_=>none
   | none=>(QZ P T).bind fun E=>(HX P E).bind fun s=>(e x).bind fun v=>(e i).bind fun i=>match v,i with
     | .slice a len _,.int _ n=>if 0≤n∧n<len then a.bind fun a=>K (.pointer (some ⟨a.block,a.off+n.toNat*s,none⟩)) σ else none
     | _,_=>none
 | .index T x i=>(fH P T).bind fun le=>(e x).bind fun v=>(e i).bind fun i=>match v,i with
   | .agg vs,.int _ n=>bif Lq P le.2 then none else if 0≤n∧n<le.1 then (P.underlying le.2).bind fun _=>(HX P le.2).bind fun s=>(vs.toList[n.toNat*s]?).bind fun v=>qW (nz P le.2) v fun v=>K v σ else none
   | _,_=>none
 | .lookup T m i ok=>(e m).bind fun m=>(e i).bind fun i=>match P.underlying T,m,i with
   | some (.map kt E),.map r,.int .i64 k=>if lF P kt then
     (eu σ r).bind fun es=>(FL P E).bind fun z=>
      qW (nz P E) ((Ph es k).getD z) fun v=>K (bif ok then .tuple #[v,.bool (Ph es k).isSome] else v) σ else none
   | _,_,_=>none
 | .mapUpdate T m k v=>(e m).bind fun m=>(e k).bind fun k=>(e v).bind fun v=>match P.underlying T,m,k with
   | some (.map kt _),.map r,.int .i64 k=>if lF P kt then r.bind fun r=>(Sp σ r).bind fun es=>K undef (σ.set r (.map (Og k v es))) else none
   | _,_,_=>none
 | .extract t i=>(e t).bind fun v=>match v with
   | .tuple vs=>(vs.toList[i]?).bind fun v=>K v σ
   | _=>none
 | .call c=>match c.callee with
   | .builtin b=>oD e c.args.toList fun vs=>Qe P quiet b c.argTypes.toList vs σ K
   | .value f=>(e f).bind fun fv=>oD e c.args.toList fun vs=>(Oz P call fv vs σ).bind fun p=>
      OS (quiet && !kh P fv) σ p.2 (mP P ty p.1 fun v=>K v p.2)
   | .invoke _ _=>none
 | _=>none
end
def ft (regs:Bx):Operand→Option Value
 | .tmp t=>regs.getD t none
 | .const v=>if It v then some v else none
 | .func f=>some (.func (.func f) #[] #[])
 | .global _=>none
def LN (regs:Bx) (d:Option Nat) (v:Option Value):Bx:=
 match d with
 | some d=>regs.set d v
 | none=>regs
def Sg (all:List Oper) (j:Nat):Option Nat:=(all[j]?).bind (·.dst)
def P4 (all:List Oper) (regs:Bx) (j:Nat):Option Value:=
 match Sg all j with
 | some d=>regs.getD d none
 | none=>none
def ny (dj:Option Nat) (known:List (Nat × Bool)) (o:Oper):Bool:=
 match o.op with
 | .pick (.tmp c) _ _=>some c == dj && (match o.guard with | none=>true | some g=>known.contains g)
 | _=>false
def SB (dj:Option Nat) (known:List (Nat × Bool)):List (Nat × Oper)→Option (List (Nat × Oper) × (Nat × Oper) × List (Nat × Oper))
 | []=>none
 | io::rest=>bif ny dj known io.2 then some ([],io,rest) else (SB dj known rest).map fun x=>(io::x.1,x.2.1,x.2.2)
def sG {α:Type} (want b:Bool) (x y:α):α:=
 match want with
 | true=>bif b then x else y
 | false=>bif b then y else x
def O0 (regs:Bx):List (Nat × Oper)→Bx
 | []=>regs
 | io::rest=>O0 (LN regs io.2.dst none) rest
def Tx (all:List Oper):List (Nat × Oper)→Bx→Option Bx
 | [],regs=>some regs
 | io::rest,regs=>match io.2.guard with
   | none=>none
   | some (j,want)=>match P4 all regs j with
     | some (.bool b)=>bif b == want then none else Tx all rest (LN regs io.2.dst (some undef))
     | some (.tuple vs)=>bif vs.toList.isEmpty then Tx all rest (LN regs io.2.dst (some undef)) else none
     | _=>none
abbrev QF:=Bool × List Nat
def Ws [AK] {ρ:Type}:List Nat→Bx→Aa→Aa→Option ρ→Option ρ
 | [],_,_,_,m=>m
 | t::ts,regs,σ,σ',m=>match regs.getD t none with
   | some (.pointer a)=>Sn a σ σ' (Ws ts regs σ σ' m)
   | _=>none
def Lr [AK] (P:Program) (call:Hn) (qf:Nat→QF) (all:List Oper):Nat→(ρ:Type)→List (Nat × Bool)→List (Nat × Oper)→Bx→Aa→(Bx→Aa→Option ρ)→Option ρ
 | 0,_,_,_,_,_,_=>none
 | fuel+1,ρ,known,ops,regs,σ,K=>match ops with
   | []=>K regs σ
   | io::rest=>match io.2.guard with
     | none=>Le P call (qf io.1).1 io.2.op io.2.type (ft regs) σ fun v σ'=>Ws (qf io.1).2 regs σ σ' (Lr P call qf all fuel ρ known rest (LN regs io.2.dst (some v)) σ' K)
     | some (j,want)=>
       bif known.contains (j,want) then
        match P4 all regs j with
        | some (.bool b)=>bif b == want then Le P call (qf io.1).1 io.2.op io.2.type (ft regs) σ fun v σ'=>Ws (qf io.1).2 regs σ σ' (Lr P call qf all fuel ρ known rest (LN regs io.2.dst (some v)) σ' K) else none
        | _=>none
       else match SB (Sg all j) known rest with
        | none=>none
        | some (body,p,after)=>match P4 all regs j with
          | some (.bool b)=>
            (sG want b
              (Lr P call qf all fuel (Bool × Aa) ((j,want)::known) (io::(body++[p])) (LN regs (Sg all j) (some (.bool want))) σ
               (fun regs' σ'=>((p.2.dst.bind fun d=>regs'.getD d none).bind DY).bind fun r=>some (r,σ')))
             ((Tx all (io::body) (LN regs (Sg all j) (some (.bool !want)))).bind fun regs'=>
               Lr P call qf all fuel (Bool × Aa) known [p] regs' σ
                (fun regs' σ'=>((p.2.dst.bind fun d=>regs'.getD d none).bind DY).bind fun r=>some (r,σ')))).bind fun rσ=>
            Lr P call qf all fuel ρ known after (LN (O0 regs (io::body)) p.2.dst (some (.bool rσ.1))) rσ.2 K
          | _=>none
inductive Bk where
 | normal | exit (id:Nat) | ret
 deriving DecidableEq,Inhabited
structure Hint where
 live:List Nat
 exits:List (Bk × List (Nat × Kd))
 deriving Inhabited
abbrev Hints:=List (Nat × Hint)
def Tc:Code→Nat
 | .region id _ _=>id
 | .seq a _=>Tc a
 | .block _ b=>Tc b
 | .loop b=>Tc b
 | .scope b=>Tc b
 | .cond _ a _=>Tc a
 | _=>0
def Hints.at (H:Hints) (id:Nat):Option Hint:=H.lookup id
abbrev Ay:=Bk × List Value × Aa
def Qx (live:List Nat):Nat→Bx→Bx
 | _,[]=>[]
 | i,r::rs=>(if live.contains i then r else none)::Qx live (i+1) rs
def aU (live:List Nat) (regs:Bx):Bx:=Qx live 0 regs
def aY (regs:Bx):List (Nat × Kd)→(List Value→Option Ay)→Option Ay
 | [],K=>K []
 | (t,_)::os,K=>(regs.getD t none).bind fun v=>aY regs os fun vs=>K (v::vs)
def eD (x:Bk):List (Bk × List (Nat × Kd))→Option (List (Nat × Kd))
 | []=>none
 | e::es=>if x=e.1 then some e.2 else eD x es
def pack (exits:List (Bk × List (Nat × Kd))) (x:Bk) (regs:Bx) (σ:Aa):Option Ay:=
 (eD x exits).bind fun outs=>aY regs outs fun vs=>some (x,vs,σ)
def Y4 {ρ:Type} (x:Bk) (K:Bk→List (Nat × Kd)→Option ρ):List (Bk × List (Nat × Kd))→Option ρ
 | []=>none
 | e::es=>if x=e.1 then K e.1 e.2 else Y4 x K es
def Yz:List (Nat × Kd)→List Value→Bx→Bx
 | (t,_)::os,v::vs,regs=>Yz os vs (regs.set t (some v))
 | _,_,regs=>regs
def Z5:List Oper→List Nat
 | []=>[]
 | o::os=>o.dst.toList++Z5 os
def QK:Code→List Nat
 | .region _ ops _=>Z5 ops.toList
 | .seq a b=>QK a++QK b
 | .cond _ a b=>QK a++QK b
 | .block _ b=>QK b
 | .loop b=>QK b
 | .scope b=>QK b
 | _=>[]
def forget (c:Code) (regs:Bx):Bx:=go (QK c) regs
where
 go:List Nat→Bx→Bx
  | [],regs=>regs
  | t::ts,regs=>go ts (regs.set t none)
def unpack {ρ:Type} (h:Hint) (c:Code) (regs:Bx) (r:Ay) (K:Bk→Bx→Aa→Option ρ):Option ρ:=
 Y4 r.1 (fun x outs=>dV (outs.map (·.2)) r.2.1 fun vs=>K x (Yz outs vs (forget c regs)) r.2.2) h.exits
def YP (B:Bx→Aa→(Bk→Bx→Aa→Option Ay)→Option Ay) (h:Hint):Nat→Bx→Aa→Option Ay
 | 0,_,_=>none
 | n+1,regs,σ=>B regs σ fun x regs' σ'=>match x with
   | .normal=>YP B h n (aU h.live regs') σ'
   | x=>pack h.exits x regs' σ'
def aT (acc:List Nat) (o:Oper):Nat:=(o.after.toList.filter (Region.binds .any)).foldl (fun s e=>s ||| 2 ^ e.on ||| acc.getD e.on 0) 0
def Oc:List Oper→List Nat→List Nat
 | [],acc=>acc
 | o::os,acc=>Oc os (acc++[aT acc o])
def ordered (b:List Nat) (i j:Nat):Bool:=(b.getD i 0).testBit j || (b.getD j 0).testBit i
def PD (o:Oper):Bool:=
 match o.op with
 | .call c=>(match c.callee with | .builtin _=>false | _=>true)
 | _=>false
def isApp (o:Oper):Bool:=
 match o.op with
 | .call c=>(match c.callee with | .builtin .append=>true | _=>false)
 | _=>false
def dy (ops:List Oper):Nat→Nat→Nat→Option Nat
 | 0,_,_=>none
 | n+1,a,j=>match ops.zipIdx.filter fun p=>p.1.dst == some a with
   | []=>some a
   | [p]=>bif Nat.blt p.2 j then (match p.1.op with
     | .fieldAddr _ (.tmp b) _=>dy ops n b p.2
     | _=>none) else none
   | _=>none
def LQ (ops:List Oper) (j:Nat):Option Nat:=
 match ops[j]? with
 | some o=>(match o.op with
   | .load _ (.tmp a)=>dy ops 8 a j
   | _=>none)
 | none=>none
def loose (P:Program) (ops:List Oper) (i:Nat):List (Oper × Nat):=ops.zipIdx.filter fun x=>!(i == x.2 || Io P x.1 == .pure || ordered (Oc ops []) i x.2)
def rk (P:Program) (o:Oper):Bool:=
 match o.op with
 | .call c=>(match c.callee with | .value (.func f)=>fX P f | _=>false)
 | _=>false
def Qz (P:Program) (ops:List Oper) (draw:Bool) (i:Nat):QF:=
 bif draw then (match ops[i]? with
  | some o=>bif PD o || isApp o then (bif (loose P ops i).isEmpty then (false,[]) else
    bif PD o && !rk P o && (loose P ops i).all (fun x=>(LQ ops x.2).isSome) then (false,(loose P ops i).filterMap fun x=>LQ ops x.2) else (true,[]))
    else (false,[])
  | none=>(false,[])) else (false,[])
def IC (P:Program) (ops:List Oper) (qf:Nat→QF) (i:Nat):re:=
 match ops[i]? with
 | some o=>bif PD o && !(qf i).1 then .lo else bif isApp o && (qf i).1 then .al else Io P o
 | none=>.pure
def cH (ops:List Oper) (qf:Nat→QF) (i j:Nat):Bool:=
 match LQ ops j with
 | some t=>(qf i).2.contains t
 | none=>false
def jw (ops:List Oper) (o:Oper):List Nat:=
 (o.op.operands.toList.filterMap fun | .tmp t=>some t | _=>none)++(match o.guard with | some (g,_)=>(Sg ops g).toList | none=>[])
def Wl (P:Program) (ops:List Oper) (qf:Nat→QF):Bool:=
 let b:=Oc ops []
 ops.zipIdx.all fun x=>
  (x.1.after.toList.all fun e=>!Region.binds .any e || Nat.blt e.on x.2) &&
  ops.zipIdx.all fun y=>x.2 == y.2 ||
   ((match x.1.dst with | some t=>(!(jw ops y.1).contains t && y.1.dst != some t) || ordered b x.2 y.2 | none=>true) &&
    ((IC P ops qf x.2 != .lo || IC P ops qf y.2 == .pure) || ordered b x.2 y.2 || cH ops qf x.2 y.2))
def exec [AK] (P:Program) (call:Hn) (H:Hints) (n:Nat):Code→(ρ:Type)→Bx→Aa→(Bk→Bx→Aa→Option ρ)→Option ρ
 | .skip,_,regs,σ,K=>K .normal regs σ
 | .region _ ops draw,_,regs,σ,K=>bif draw && !Wl P ops.toList (Qz P ops.toList draw) then none else
   Lr P call (Qz P ops.toList draw) ops.toList (2*ops.toList.length+1) _ [] (ops.toList.zipIdx.map fun x=>(x.2,x.1)) regs σ fun regs σ=>K .normal regs σ
 | .seq a b,ρ,regs,σ,K=>exec P call H n a ρ regs σ fun x regs σ=>match x with
   | .normal=>exec P call H n b ρ regs σ K
   | .exit id=>K (.exit id) regs σ
   | .ret=>K .ret regs σ
 | .cond c t e,ρ,regs,σ,K=>match ft regs c with
   | some (.bool b)=>match H.at (2*Tc t+1) with
     | none=>bif b then exec P call H n t ρ regs σ K else exec P call H n e ρ regs σ K
     | some h=>(bif b then exec P call H n t Ay regs σ (pack h.exits) else exec P call H n e Ay regs σ (pack h.exits)).bind fun r=>unpack h (.seq t e) regs r K
   | _=>none
 | .block id c,ρ,regs,σ,K=>exec P call H n c ρ regs σ fun x regs σ=>match x with
   | .normal=>K .normal regs σ
   | .exit id'=>if id'=id then K .normal regs σ else K (.exit id') regs σ
   | .ret=>K .ret regs σ
 | .loop c,ρ,regs,σ,K=>match H.at (2*Tc c) with
   | none=>none
   | some h=>(YP (fun regs σ K=>exec P call H n c Ay regs σ K) h n (aU h.live regs) σ).bind fun r=>unpack h c regs r K
 | .exit id,_,regs,σ,K=>K (.exit id) regs σ
 | .ret,_,regs,σ,K=>K .ret regs σ
 | _,_,_,_,_=>none
def eJ (P:Program) (regs:Bx) (σ:Aa) (r:ResultVar):Option Value:=
 match r with
 | .tmp t=>regs.getD t none
 | .cell t T=>(regs.getD t none).bind fun v=>match v with
   | .pointer (some a)=>bif Lq P T then (HX P T).bind fun s=>(Ue σ a.block a.off s).bind fun vs=>some (.agg vs.toArray) else (P.underlying T).bind fun _=>Gs σ a.block a.off
   | _=>none
def Yq (P:Program) (regs:Bx) (σ:Aa):List ResultVar→Option (List Value)
 | []=>some []
 | r::rs=>(eJ P regs σ r).bind fun v=>(Yq P regs σ rs).bind fun vs=>some (v::vs)
def Q3:List Value→Value
 | [v]=>v
 | vs=>.tuple vs.toArray
def fin (P:Program) (f:Func) (x:Bk) (regs:Bx) (σ:Aa):Option (Value × Aa):=
 match x with
 | .exit _=>none
 | _=>(Yq P regs σ f.results.toList).bind fun vs=>some (Q3 vs,σ)
abbrev Ext:=FuncId→Option (List Value→Aa→Option (Value × Aa))
def fn [AK] (P:Program) (X:Ext) (H:FuncId→Hints):Nat→Hn
 | 0,_,_,_=>none
 | k+1,f,args,σ=>match X f with
   | some g=>g args σ
   | none=>match P.funcs[f]? with
     | none=>none
     | some F=>match F.body with
       | none=>none
       | some c=>if F.name = "runtime.NumGoroutine" then none else
         exec P (fn P X H k) (H f) k c (Value × Aa) (args.map some++List.replicate (F.ntmps-args.length) (some undef)) σ (fin P F)
def VW:Option Addr→Option Addr→Bool
 | none,none=>true
 | some a,some b=>a.block == b.block && (a.off == b.off && (match a.spot,b.spot with | none,none=>true | some x,some y=>x == y | _,_=>false))
 | _,_=>false
def kE:Value→Value→Bool
 | .bool a,.bool b=>a == b
 | .int k a,.int k' b=>decide (k=k') && a == b
 | .pointer a,.pointer b=>VW a b
 | .slice a l c,.slice a' l' c'=>VW a a' && (l == l' && c == c')
 | .map none,.map none=>true
 | .map (some a),.map (some b)=>a == b
 | .nilFunc,.nilFunc=>true
 | .nilIface,.nilIface=>true
 | .agg a,.agg b=>a.toList.isEmpty && b.toList.isEmpty
 | .func (.func f) a b,.func (.func f') a' b'=>f == f' && (a.toList.isEmpty && (a'.toList.isEmpty && (b.toList.isEmpty && b'.toList.isEmpty)))
 | _,_=>false
def kF (v v':Value):Bool:=
 match v,v' with
 | .iface t x,.iface t' x'=>t == t' && kE x x'
 | v,v'=>kE v v'
def Yx:List Value→List Value→Bool
 | [],[]=>true
 | x::xs,y::ys=>kF x y && Yx xs ys
 | _,_=>false
def Yw:List (Int × Value)→List (Int × Value)→Bool
 | [],[]=>true
 | x::xs,y::ys=>x.1 == y.1 && (kF x.2 y.2 && Yw xs ys)
 | _,_=>false
def VX:AP→AP→Bool
 | .cells vs T rw,.cells vs' T' rw'=>Yx vs vs' && (T == T' && rw == rw')
 | .map es,.map es'=>Yw es es'
 | .dead,.dead=>true
 | _,_=>false
def gX:Aa→Aa→Bool
 | [],_=>true
 | x::xs,y::ys=>VX x y && gX xs ys
 | _,_=>false
theorem gV:∀ {a b:Option Addr},VW a b=true→a=b
 | none,none,_=>rfl
 | some ⟨b1,o1,s1⟩,some ⟨b2,o2,s2⟩,h=>by
   simp only[VW,Bool.and_eq_true,beq_iff_eq] at h
   obtain ⟨rfl,rfl,h⟩:=h
   cases s1 <;> cases s2 <;> simp at h <;> simp[h]
 | none,some _,h=>by simp[VW] at h
 | some _,none,h=>by simp[VW] at h
theorem isEmpty_eq {a:Array Value} (h:a.toList.isEmpty=true):a = #[]:=by
 apply Array.toList_inj.1; simpa using h
theorem gW {v v':Value} (h:kE v v'=true):v=v':=by
 unfold kE at h
 split at h
 ·simp at h; simp[h]
 ·simp at h; simp[h]
 ·rw[gV h]
 ·simp only[Bool.and_eq_true,beq_iff_eq] at h
  rw[gV h.1,h.2.1,h.2.2]
 ·rfl
 ·simp at h; simp[h]
 ·rfl
 ·rfl
 ·simp only[Bool.and_eq_true] at h
  rw[isEmpty_eq h.1,isEmpty_eq h.2]
 ·simp only[Bool.and_eq_true,beq_iff_eq] at h
  rw[h.1,isEmpty_eq h.2.1,isEmpty_eq h.2.2.1,isEmpty_eq h.2.2.2.1,isEmpty_eq h.2.2.2.2]
 ·cases h
theorem hJ {v v':Value} (h:kF v v'=true):v=v':=by
 unfold kF at h
 split at h
 ·simp only[Bool.and_eq_true,beq_iff_eq] at h
  rw[h.1,gW h.2]
 ·exact gW h
theorem dD:∀ {v v':List Value},Yx v v'=true→v=v'
 | [],[],_=>rfl
 | x::xs,y::ys,h=>by
   simp only[Yx,Bool.and_eq_true] at h
   rw[hJ h.1,dD h.2]
 | [],_::_,h=>by simp[Yx] at h
 | _::_,[],h=>by simp[Yx] at h
theorem dC:∀ {v v':List (Int × Value)},Yw v v'=true→v=v'
 | [],[],_=>rfl
 | (a,x)::xs,(b,y)::ys,h=>by
   simp only[Yw,Bool.and_eq_true,beq_iff_eq] at h
   rw[h.1,hJ h.2.1,dC h.2.2]
 | [],_::_,h=>by simp[Yw] at h
 | _::_,[],h=>by simp[Yw] at h
theorem gZ:∀ {o o':AP},VX o o'=true→o=o'
 | .cells _ _ _,.cells _ _ _,h=>by
   simp only[VX,Bool.and_eq_true,beq_iff_eq] at h
   rw[dD h.1,h.2.1,h.2.2]
 | .map _,.map _,h=>by rw[dC h]
 | .dead,.dead,_=>rfl
 | .cells _ _ _,.map _,h=>by simp[VX] at h
 | .cells _ _ _,.dead,h=>by simp[VX] at h
 | .map _,.cells _ _ _,h=>by simp[VX] at h
 | .map _,.dead,h=>by simp[VX] at h
 | .dead,.cells _ _ _,h=>by simp[VX] at h
 | .dead,.map _,h=>by simp[VX] at h
theorem gY:∀ {σ σ':Aa},gX σ σ'=true→σ <+: σ'
 | [],_,_=>List.nil_prefix
 | x::xs,y::ys,h=>by
   simp only[gX,Bool.and_eq_true] at h
   obtain ⟨t,ht⟩:=gY h.2
   exact ⟨t,by rw[gZ h.1,← ht]; rfl⟩
 | _::_,[],h=>by simp[gX] at h
def sameAt (σ σ':Aa) (h:Nat):Bool:=
 match σ[h]?,σ'[h]? with
 | some o,some o'=>VX o o'
 | none,none=>true
 | _,_=>false
theorem mo {σ σ':Aa} {h:Nat} (g:sameAt σ σ' h=true):σ'[h]?=σ[h]?:=by
 unfold sameAt at g
 split at g
 ·rename_i o o' h1 h2
  rw[h1,h2,gZ g]
 ·rename_i h1 h2
  rw[h1,h2]
 ·cases g
@[reducible] def Od:AK:=⟨gX,gY,sameAt,mo⟩
open Classical in
@[reducible] noncomputable def Au:AK:=⟨fun σ σ'=>decide (σ <+: σ'),fun h=>by simpa using h,fun σ σ' h=>decide (σ'[h]?=σ[h]?),fun h=>by simpa using h⟩
end Go.AX
end
section
namespace Go.AX
open Go
structure XA where
 b:Nat
 o:Nat
 s:Nat
 n:Nat
 m:Nat
abbrev Mu:=Nat→Option XA
mutual
inductive RV (μ:Mu):Value→Value→Prop
 | bool (b:Bool):RV μ (.bool b) (.bool b)
 | int (k:IntKind) (n:Int):RV μ (.int k n) (.int k n)
 | string (s:ByteArray):RV μ (.string s) (.string s)
 | ptrNil:RV μ (.pointer none) (.pointer none)
 | ptr {a:Addr} {k:XA} (h:μ a.block=some k) (hs:a.spot=none):RV μ (.pointer (some a)) (.pointer (some ⟨k.b,k.o+a.off,none⟩))
 | sliceNil:RV μ (.slice none 0 0) (.slice none 0 0)
 | sliceZ {a:Addr} {z:Nat} (x:Addr) (hz:a.spot=some z):RV μ (.slice (some a) 0 0) (.slice (some x) 0 0)
 | slice {a:Addr} {k:XA} {l c c':Nat} (h:μ a.block=some k) (hs:a.spot=none) (hl:l≤c) (hc:c≤c') (hm:a.off+c'*k.s≤k.m):RV μ (.slice (some a) l c) (.slice (some ⟨k.b,k.o+a.off,none⟩) l c')
 | sliceEnd {a:Addr} {k:XA} {o c':Nat} (h:μ a.block=some k) (hs:a.spot=none) (hm:o+c'*k.s≤k.m):
   RV μ (.slice (some a) 0 0) (.slice (some ⟨k.b,k.o+o,none⟩) 0 c')
 | mapNil:RV μ (.map none) (.map none)
 | map {r:Nat} {k:XA} (h:μ r=some k):RV μ (.map (some r)) (.map (some k.b))
 | nilFunc:RV μ .nilFunc .nilFunc
 | nilIface:RV μ .nilIface .nilIface
 | func {f:Fn} {a a' b b':Array Value} (ha:J9 μ a.toList a'.toList) (hb:J9 μ b.toList b'.toList):RV μ (.func f a b) (.func f a' b')
 | iface {t:TypeId} {v v':Value} (h:RV μ v v'):RV μ (.iface t v) (.iface t v')
 | agg {a a':Array Value} (h:J9 μ a.toList a'.toList) (hl:∀ v ∈ a.toList,v.oneCell'=true):RV μ (.agg a) (.agg a')
 | tuple {a a':Array Value} (h:J9 μ a.toList a'.toList):RV μ (.tuple a) (.tuple a')
inductive J9 (μ:Mu):List Value→List Value→Prop
 | nil:J9 μ [] []
 | cons {v v':Value} {vs vs':List Value} (h:RV μ v v') (t:J9 μ vs vs'):J9 μ (v::vs) (v'::vs')
end
def Mu.le (μ μ':Mu):Prop:=∀ h k,μ h=some k→μ' h=some k
theorem Mu.le_refl (μ:Mu):μ.le μ:=fun _ _ h=>h
theorem Mu.le_trans {a b c:Mu} (h:a.le b) (g:b.le c):a.le c:=fun _ _ e=>g _ _ (h _ _ e)
mutual
theorem RV.mono {μ μ':Mu} (hm:μ.le μ'):∀ {v v':Value},RV μ v v'→RV μ' v v'
 | _,_,.bool b=>.bool b
 | _,_,.int k n=>.int k n
 | _,_,.string s=>.string s
 | _,_,.ptrNil=>.ptrNil
 | _,_,.ptr h hs=>.ptr (hm _ _ h) hs
 | _,_,.sliceNil=>.sliceNil
 | _,_,.sliceZ x hz=>.sliceZ x hz
 | _,_,.slice h hs hl hc hm'=>.slice (hm _ _ h) hs hl hc hm'
 | _,_,.sliceEnd h hs hm'=>.sliceEnd (hm _ _ h) hs hm'
 | _,_,.mapNil=>.mapNil
 | _,_,.map h=>.map (hm _ _ h)
 | _,_,.nilFunc=>.nilFunc
 | _,_,.nilIface=>.nilIface
 | _,_,.func ha hb=>.func (J9.mono hm ha) (J9.mono hm hb)
 | _,_,.iface h=>.iface (RV.mono hm h)
 | _,_,.agg h hl=>.agg (J9.mono hm h) hl
 | _,_,.tuple h=>.tuple (J9.mono hm h)
theorem J9.mono {μ μ':Mu} (hm:μ.le μ'):∀ {v v':List Value},J9 μ v v'→J9 μ' v v'
 | _,_,.nil=>.nil
 | _,_,.cons h t=>.cons (RV.mono hm h) (J9.mono hm t)
end
theorem J9.length {μ:Mu}:∀ {v v':List Value},J9 μ v v'→v.length=v'.length
 | _,_,.nil=>rfl
 | _,_,.cons _ t=>by simp[J9.length t]
theorem J9.get {μ:Mu}:∀ {v v':List Value},J9 μ v v' → ∀ (i:Nat) (x:Value),v[i]?=some x → ∃ x',v'[i]?=some x'∧RV μ x x'
 | _,_,.nil,i,x,h=>by simp at h
 | _,_,.cons h t,0,x,hx=>by simp at hx; subst hx; exact ⟨_,by simp,h⟩
 | _,_,.cons h t,i+1,x,hx=>by simpa using J9.get t i x (by simpa using hx)
theorem J9.append {μ:Mu}:∀ {v v' u u':List Value},J9 μ v v'→J9 μ u u'→J9 μ (v++u) (v'++u')
 | _,_,_,_,.nil,h=>h
 | _,_,_,_,.cons h t,g=>.cons h (J9.append t g)
theorem J9.j0 {μ:Mu}:∀ {v v':List Value},v.length=v'.length→(∀ (i:Nat) x x',v[i]?=some x→v'[i]?=some x'→RV μ x x')→J9 μ v v'
 | [],[],_,_=>.nil
 | [],_::_,h,_=>by simp at h
 | _::_,[],h,_=>by simp at h
 | x::xs,y::ys,h,g=>.cons (g 0 x y (by simp) (by simp)) (J9.j0 (by simpa using h) fun i a b ha hb=>g (i+1) a b (by simpa using ha) (by simpa using hb))
theorem J9.take {μ:Mu}:∀ {v v':List Value} (n:Nat),J9 μ v v'→J9 μ (v.take n) (v'.take n)
 | _,_,_,.nil=>by simp; exact .nil
 | _,_,0,.cons _ _=>by simp; exact .nil
 | _,_,n+1,.cons h t=>by simp; exact .cons h (J9.take n t)
theorem J9.drop {μ:Mu}:∀ {v v':List Value} (n:Nat),J9 μ v v'→J9 μ (v.drop n) (v'.drop n)
 | _,_,_,.nil=>by simp; exact .nil
 | _,_,0,.cons h t=>by simp; exact .cons h t
 | _,_,n+1,.cons h t=>by simp; exact J9.drop n t
theorem J9.rep {μ:Mu} {z z':List Value} (h:J9 μ z z'):∀ n:Nat,J9 μ (rep n z) (rep n z')
 | 0=>by simp[AX.rep]; exact .nil
 | n+1=>by
   have e:∀ y:List Value,AX.rep (n+1) y=y++AX.rep n y:=fun y=>by simp[AX.rep,List.replicate_succ]
   rw[e,e]; exact h.append (J9.rep h n)
theorem RV.leaf {μ:Mu} {v v':Value} (h:RV μ v v'):v'.oneCell'=v.oneCell':=by cases h <;> rfl
theorem J9.leaf {μ:Mu}:∀ {v v':List Value},J9 μ v v'→(∀ x ∈ v,x.oneCell'=true) → ∀ x ∈ v',x.oneCell'=true
 | _,_,.nil,_,x,hx=>by simp at hx
 | _,_,.cons h t,g,x,hx=>by
   rcases List.mem_cons.1 hx with rfl | hx
   ·rw[h.leaf]; exact g _ (by simp)
   ·exact J9.leaf t (fun y hy=>g y (by simp[hy])) x hx
theorem RV.Ih {μ:Mu} {v:Value} (h:Ih v=true):RV μ v v:=by
 unfold AX.Ih at h
 split at h
 ·exact .bool _
 ·exact .int _ _
 ·exact .string _
 ·exact .ptrNil
 ·exact .sliceNil
 ·exact .mapNil
 ·exact .nilFunc
 ·exact .nilIface
 ·rename_i f a b
  simp at h
  obtain ⟨ha,hb⟩:=h
  refine .func ?_ ?_
  ·simp[ha]; exact .nil
  ·simp[hb]; exact .nil
 ·simp at h
theorem jt {v:Value} (h:Ih v=true):v.oneCell'=true:=by
 cases v <;> first | rfl | simp[Ih] at h
theorem J9.Ih {μ:Mu}:∀ {vs:List Value},vs.all AX.Ih=true→J9 μ vs vs
 | [],_=>.nil
 | v::vs,h=>by
   simp at h
   exact .cons (.Ih h.1) (J9.Ih (by simpa using h.2))
theorem RV.It {μ:Mu} {v:Value} (h:It v=true):RV μ v v:=by
 unfold AX.It at h
 split at h
 ·exact .agg (.Ih h) fun x hx=>jt (by simp only[List.all_eq_true] at h; exact h x hx)
 ·exact .tuple (.Ih h)
 ·exact .Ih h
inductive VE (μ:Mu):List (Int × Value)→List MapEntry→Prop
 | nil:VE μ [] []
 | cons {k:Int} {v:Value} {e:MapEntry} {es:List (Int × Value)} {es':List MapEntry} (hk:e.key = .int .i64 k) (hv:RV μ v e.val) (t:VE μ es es'):VE μ ((k,v)::es) (e::es')
theorem VE.mono {μ μ':Mu} (hm:μ.le μ'):∀ {v:List (Int × Value)} {v':List MapEntry},VE μ v v'→VE μ' v v'
 | _,_,.nil=>.nil
 | _,_,.cons hk hv t=>.cons hk (hv.mono hm) (VE.mono hm t)
def dS (P:Program) (μ:Mu) (o:AP) (k:XA) (x:Option Obj):Prop:=
 match o with
 | .cells vs T rw=>∃ c T' fz,x=some (.cells c T' fz)∧vs.length=k.n∧k.n≤k.m∧k.o+k.m≤c.size∧k.s=P.cellsOf T∧(rw=true→fz=(0,0)) ∧
   (∀ v ∈ vs,v.oneCell'=true)∧J9 μ vs ((c.toList.drop k.o).take k.n)
 | .map es=>∃ entries clock,x=some (.map entries clock)∧VE μ es entries.toList
 | .dead=>True
def alive (σ:Aa) (h:Nat):Prop:=∃ o,σ[h]?=some o∧o ≠ .dead
def Av (σ:Aa) (h:Nat):Prop:=
 match σ[h]? with
 | some (.cells _ _ true) | some (.map _)=>True
 | _=>False
structure R (P:Program) (μ:Mu) (σ:Aa) (w:World):Prop where
 obj:∀ h o k,σ[h]?=some o→μ h=some k→dS P μ o k w.heap[k.b]?
 lt:∀ h k,μ h=some k→k.b<w.heap.size
 inj:∀ h h' k k',μ h=some k→μ h'=some k'→alive σ h→alive σ h'→Av σ h∨Av σ h'→k.b=k'.b→h=h'
def Ij (μ:Mu) (lo hi:Nat):Prop:=∀ h,lo≤h→h<hi→μ h=none
structure Step (μ:Mu) (σ:Aa) (w:World) (μ':Mu) (σ':Aa) (w':World):Prop where
 len:σ.length≤σ'.length
 mu:∀ h,(h<σ.length∨σ'.length≤h)→μ' h=μ h
 wr:∀ h,h<σ.length→Av σ' h→Av σ h
 new:∀ h k,σ.length≤h→h<σ'.length→μ' h=some k→w.heap.size≤k.b ∨ ∃ h0 k0,h0<σ.length∧μ h0=some k0∧k0.b=k.b∧Av σ h0
 size:w.heap.size≤w'.heap.size
 tape:w'.tape=w.tape
 os:w'.os=w.os
 output:w'.output=w.output
 frame:∀ b,b<w.heap.size→(∀ h k,h<σ.length→μ h=some k→k.b=b→¬ Av σ h)→w'.heap[b]?=w.heap[b]?
theorem Step.refl (μ:Mu) (σ:Aa) (w:World):Step μ σ w μ σ w:=
 ⟨Nat.le_refl _,fun _ _=>rfl,fun _ _ h=>h,fun h k h1 h2=>absurd h2 (by omega),Nat.le_refl _,rfl,rfl,rfl,fun _ _ _=>rfl⟩
theorem Step.le {μ μ':Mu} {σ σ':Aa} {w w':World} (s:Step μ σ w μ' σ' w') (f:Ij μ σ.length σ'.length):μ.le μ':=by
 intro h k hk
 by_cases h1:h<σ.length∨σ'.length≤h
 ·rw[s.mu h h1]; exact hk
 ·rw[f h (by omega) (by omega)] at hk; cases hk
theorem Ij.sub {μ:Mu} {a b c d:Nat} (h:Ij μ a b) (h1:a≤c) (h2:d≤b):Ij μ c d:=fun x hx hy=>h x (by omega) (by omega)
theorem Ij.step {μ μ':Mu} {σ σ':Aa} {w w':World} {hi:Nat} (s:Step μ σ w μ' σ' w') (f:Ij μ σ.length hi):Ij μ' σ'.length hi:=by
 intro h h1 h2
 rw[s.mu h (.inr h1)]
 exact f h (Nat.le_trans s.len h1) h2
theorem Step.trans {μ μ' μ'':Mu} {σ σ' σ'':Aa} {w w' w'':World} (s:Step μ σ w μ' σ' w') (t:Step μ' σ' w' μ'' σ'' w''):Step μ σ w μ'' σ'' w'':=by
 refine ⟨Nat.le_trans s.len t.len, ?_, ?_, ?_,Nat.le_trans s.size t.size,t.tape.trans s.tape,t.os.trans s.os,t.output.trans s.output, ?_⟩
 ·intro h hh
  have l1:=s.len; have l2:=t.len
  rw[t.mu h (by omega),s.mu h (by omega)]
 ·intro h hh hw
  exact s.wr h hh (t.wr h (Nat.lt_of_lt_of_le hh s.len) hw)
 ·intro h k h1 h2 hk
  by_cases hlt:h<σ'.length
  ·rw[t.mu h (.inl hlt)] at hk
   exact s.new h k h1 hlt hk
  ·rcases t.new h k (by omega) h2 hk with hb | ⟨h0,k0,hh0,hk0,hb,hw⟩
   ·exact .inl (Nat.le_trans s.size hb)
   ·by_cases h0lt:h0<σ.length
    ·rw[s.mu h0 (.inl h0lt)] at hk0
     exact .inr ⟨h0,k0,h0lt,hk0,hb,s.wr h0 h0lt hw⟩
    ·rcases s.new h0 k0 (by omega) hh0 hk0 with hb' | ⟨h1',k1,hh1,hk1,hb1,hw1⟩
     ·exact .inl (by omega)
     ·exact .inr ⟨h1',k1,hh1,hk1,hb1.trans hb,hw1⟩
 ·intro b hb hn
  rw[t.frame b (Nat.lt_of_lt_of_le hb s.size) ?_,s.frame b hb hn]
  intro h k hh hk hkb hw
  by_cases hlt:h<σ.length
  ·rw[s.mu h (.inl hlt)] at hk
   exact hn h k hlt hk hkb (s.wr h hlt hw)
  ·rcases s.new h k (by omega) hh hk with hb' | ⟨h0,k0,hh0,hk0,hb0,hw0⟩
   ·omega
   ·exact hn h0 k0 hh0 hk0 (hb0.trans hkb) hw0
theorem R.drew {P:Program} {μ:Mu} {σ:Aa} {w:World} (h:R P μ σ w):R P μ σ w.drew:=⟨h.obj,h.lt,h.inj⟩
theorem Step.drew (μ:Mu) (σ:Aa) (w:World):Step μ σ w μ σ w.drew:=
 ⟨Nat.le_refl _,fun _ _=>rfl,fun _ _ h=>h,fun h k h1 h2=>absurd h2 (by omega),Nat.le_refl _,rfl,rfl,rfl,fun _ _ _=>rfl⟩
theorem dS.mono {P:Program} {μ μ':Mu} (hm:μ.le μ') {o:AP} {k:XA} {x:Option Obj} (h:dS P μ o k x):dS P μ' o k x:=by
 cases o with
 | cells vs T rw=>
   obtain ⟨c,T',fz,hx,h1,h2,h3,h4,h5,h6,h7⟩:=h
   exact ⟨c,T',fz,hx,h1,h2,h3,h4,h5,h6,h7.mono hm⟩
 | map es=>
   obtain ⟨entries,clock,hx,h1⟩:=h
   exact ⟨entries,clock,hx,h1.mono hm⟩
 | dead=>trivial
def Mu.put (μ:Mu) (h:Nat) (k:XA):Mu:=fun x=>if x=h then some k else μ x
theorem Mu.GC (μ:Mu) (h:Nat) (k:XA):μ.put h k h=some k:=by simp[Mu.put]
theorem Mu.FY (μ:Mu) {h x:Nat} (k:XA) (hx:x≠h):μ.put h k x=μ x:=by simp[Mu.put,hx]
theorem Mu.nG {μ:Mu} {h:Nat} {k:XA} (hn:μ h=none):μ.le (μ.put h k):=by
 intro x y hx
 rw[Mu.FY μ k (by rintro rfl; rw[hn] at hx; cases hx)]; exact hx
theorem Ox {σ:Aa} {o:AP} {h:Nat} (hh:h≠σ.length) (hw:Av (σ++[o]) h):Av σ h:=by
 unfold Av at hw ⊢
 by_cases hlt:h<σ.length
 ·rwa [List.getElem?_append_left hlt] at hw
 ·rw[List.getElem?_eq_none (by simp; omega)] at hw; exact hw.elim
theorem WL {σ:Aa} {o:AP} {h:Nat} (hh:h≠σ.length) (ha:alive (σ++[o]) h):alive σ h:=by
 obtain ⟨x,hx,hd⟩:=ha
 have hlt:h<σ.length:=by
  have:=(List.getElem?_eq_some_iff.1 hx).1
  simp at this; omega
 exact ⟨x,by rwa [List.getElem?_append_left hlt] at hx,hd⟩
theorem heap_alloc_old {w:World} {x:Obj} {b:Nat} (hb:b<w.heap.size):(w.alloc x).heap[b]?=w.heap[b]?:=by
 show (w.heap.push x)[b]?=_
 rw[Array.getElem?_push,if_neg (by omega)]
theorem heap_alloc_new (w:World) (x:Obj):(w.alloc x).heap[w.heap.size]?=some x:=by
 show (w.heap.push x)[w.heap.size]?=_
 rw[Array.getElem?_push,if_pos rfl]
theorem R.alloc {P:Program} {μ:Mu} {σ:Aa} {w:World} {o:AP} {x:Obj} {k:XA} (h:R P μ σ w) (hf:μ σ.length=none) (hb:k.b=w.heap.size)
  (ho:dS P μ o k (some x)):R P (μ.put σ.length k) (σ++[o]) (w.alloc x):=by
 have hle:μ.le (μ.put σ.length k):=Mu.nG hf
 have hold:∀ b,b<w.heap.size→(w.alloc x).heap[b]?=w.heap[b]?:=fun b hb=>heap_alloc_old hb
 refine ⟨?_, ?_, ?_⟩
 ·intro h' o' k' ho' hk'
  by_cases he:h'=σ.length
  ·subst he
   rw[Mu.GC] at hk'
   cases hk'
   simp at ho'
   subst ho'
   have:(w.alloc x).heap[k.b]?=some x:=by rw[hb]; exact heap_alloc_new w x
   rw[this]
   exact ho.mono hle
  ·rw[Mu.FY μ k he] at hk'
   have hlt:h'<σ.length:=by
    have:=(List.getElem?_eq_some_iff.1 ho').1
    simp at this; omega
   rw[List.getElem?_append_left hlt] at ho'
   rw[hold _ (h.lt _ _ hk')]
   exact (h.obj h' o' k' ho' hk').mono hle
 ·intro h' k' hk'
  by_cases he:h'=σ.length
  ·subst he; rw[Mu.GC] at hk'; cases hk'; simp[hb]
  ·rw[Mu.FY μ k he] at hk'
   have:=h.lt _ _ hk'; simp; omega
 ·intro a b ka kb ha hb' haa hab hww hkk
  by_cases he:a=σ.length <;> by_cases he':b=σ.length
  ·omega
  ·subst he; rw[Mu.GC] at ha; cases ha
   rw[Mu.FY μ k he'] at hb'
   have:=h.lt _ _ hb'; omega
  ·subst he'; rw[Mu.GC] at hb'; cases hb'
   rw[Mu.FY μ k he] at ha
   have:=h.lt _ _ ha; omega
  ·rw[Mu.FY μ k he] at ha
   rw[Mu.FY μ k he'] at hb'
   exact h.inj a b ka kb ha hb' (WL he haa) (WL he' hab) (hww.imp (Ox he) (Ox he')) hkk
theorem Zy {σ:Aa} {o:AP} {h:Nat} (hlt:h<σ.length):Av (σ++[o]) h=Av σ h:=by
 unfold Av; rw[List.getElem?_append_left hlt]
theorem Step.alloc {μ:Mu} {σ:Aa} {w:World} {o:AP} {x:Obj} {k:XA} (hb:k.b=w.heap.size):Step μ σ w (μ.put σ.length k) (σ++[o]) (w.alloc x):=by
 refine ⟨by simp, ?_, ?_, ?_,by simp,rfl,rfl,rfl, ?_⟩
 ·intro h hh; exact Mu.FY μ k (by simp at hh; omega)
 ·intro h hh hw; rwa [Zy hh] at hw
 ·intro h k' h1 h2 hk
  have:h=σ.length:=by simp at h2; omega
  subst this; rw[Mu.GC] at hk; cases hk; exact .inl (by omega)
 ·intro b hb _
  exact heap_alloc_old hb
end Go.AX
end
