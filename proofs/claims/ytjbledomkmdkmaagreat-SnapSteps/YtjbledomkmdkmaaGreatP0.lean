/-
 THE ABSTRACT EXECUTOR: a deterministic executor of the model's code over an abstract memory (handles in the place of block numbers; no spare capacity, no draws, text order).
-/
import Derived.WalkKit
import Derived.KernelRfl
set_option linter.unusedVariables false
namespace Go.AX
open Go
inductive Dh where
 | normal | exit (id:Nat) | ret
 deriving DecidableEq,Inhabited
inductive LSt where
 | ready | busy | done (x:Dh)
 deriving DecidableEq,Inhabited
inductive A6 where
 | cells (vs:List Value) (T:TypeId) (rw:Bool)
 | map (es:List (Int × Value))
 | loop (f:FuncId) (st:LSt) (regs:List (Option Value))
 | dead
 deriving Inhabited
abbrev Aa:=List A6
abbrev AZ:=List (Option Value)
inductive Kd where
 | int (k:IntKind) | bool | str | ptr | slice | map | func | any
 deriving DecidableEq,Inhabited
def Ml (k:IntKind):Value→Option Int
 | .int k' n=>if k'=k then some n else none
 | _=>none
def Ez:Value→Option Bool
 | .bool b=>some b
 | _=>none
def toStr:Value→Option ByteArray
 | .string b=>some b
 | _=>none
def NJ:Value→Option (Option Addr)
 | .pointer a=>some a
 | _=>none
def H7:Value→Option (Option Addr × Nat × Nat)
 | .slice a l c=>some (a,l,c)
 | _=>none
def uv:Value→Option (Option Nat)
 | .map r=>some r
 | _=>none
def toA:Value→Option (List Value)
 | .agg vs=>some vs.toList
 | _=>none
def qk:Value→Option (List Value)
 | .tuple vs=>some vs.toList
 | _=>none
def Gi (σ:Aa) (b o:Nat):Option Value:=
 match σ[b]? with
 | some (.cells vs _ _)=>vs[o]?
 | _=>none
def Dg (k:IntKind) (σ:Aa) (b o:Nat):Option Int:=(Gi σ b o).bind (Ml k)
def lO (σ:Aa) (b o:Nat):Option Bool:=(Gi σ b o).bind Ez
def rS (σ:Aa) (b o:Nat):Option ByteArray:=(Gi σ b o).bind toStr
def L8 (σ:Aa) (b o:Nat):Option (Option Addr):=(Gi σ b o).bind NJ
def Hx (σ:Aa) (b o:Nat):Option (Option Addr × Nat × Nat):=(Gi σ b o).bind H7
def ldM (σ:Aa) (b o:Nat):Option (Option Nat):=(Gi σ b o).bind uv
section
variable {ρ:Type}
def asK (k:Kd) (v:Value) (K:Value→Option ρ):Option ρ:=
 match k with
 | .int k=>(Ml k v).bind fun n=>K (.int k n)
 | .bool=>(Ez v).bind fun b=>K (.bool b)
 | .str=>(toStr v).bind fun s=>K (.string s)
 | .ptr=>(NJ v).bind fun a=>K (.pointer a)
 | .slice=>(H7 v).bind fun s=>K (.slice s.1 s.2.1 s.2.2)
 | .map=>(uv v).bind fun r=>K (.map r)
 | .func=>K v
 | .any=>K v
def tq:List Kd→List Value→(List Value→Option ρ)→Option ρ
 | [],_,K=>K []
 | k::ks,l,K=>l.head?.bind fun v=>asK k v fun v=>tq ks l.tail fun vs=>K (v::vs)
def ldK (k:Kd) (σ:Aa) (b o:Nat) (K:Value→Option ρ):Option ρ:=
 match k with
 | .int k=>(Dg k σ b o).bind fun n=>K (.int k n)
 | .bool=>(lO σ b o).bind fun b=>K (.bool b)
 | .str=>(rS σ b o).bind fun s=>K (.string s)
 | .ptr=>(L8 σ b o).bind fun a=>K (.pointer a)
 | .slice=>(Hx σ b o).bind fun s=>K (.slice s.1 s.2.1 s.2.2)
 | .map=>(ldM σ b o).bind fun r=>K (.map r)
 | .func=>(Gi σ b o).bind K
 | .any=>(Gi σ b o).bind K
def oW:List Kd→Aa→Nat→Nat→(List Value→Option ρ)→Option ρ
 | [],_,_,_,K=>K []
 | k::ks,σ,b,o,K=>ldK k σ b o fun v=>oW ks σ b (o+1) fun vs=>K (v::vs)
end
def Ad6:TypeDesc→Kd
 | .int k=>.int k
 | .bool=>.bool
 | .string=>.str
 | .pointer _=>.ptr
 | .slice _=>.slice
 | .map _ _=>.map
 | .func _ _ _=>.func
 | _=>.any
def flat (P:Program):Nat→TypeId→List Kd
 | 0,_=>[]
 | d+1,T=>match P.underlying T with
   | some (.struct fs)=>fs.toList.flatMap fun f=>flat P d f.type
   | some (.array n e)=>(List.range n).flatMap fun _=>flat P d e
   | some t=>[Ad6 t]
   | none=>[]
def NB (P:Program) (T:TypeId):Bool:=
 match P.underlying T with
 | some (.struct _) | some (.array _ _)=>true
 | _=>false
def AL (cs:List Value) (o:Nat) (vs:List Value):List Value:=cs.take o++vs++cs.drop (o+vs.length)
def JH:Value→Bool
 | .bool _ | .int _ _ | .string _ | .pointer none | .slice none 0 0 | .map none | .nilFunc | .nilIface=>true
 | .func (.yield _) _ _=>false
 | .func _ a b=>a.toList.isEmpty && b.toList.isEmpty
 | _=>false
def JU:Value→Bool
 | .agg vs=>vs.toList.all JH
 | .tuple vs=>vs.toList.all JH
 | v=>JH v
def Hb:Value→Bool
 | .tuple _=>true
 | _=>false
def K3 (σ:Aa) (b o:Nat) (v:Value):Option Aa:=
 match σ[b]? with
 | some (.cells cs T true)=>if o<cs.length then some (σ.set b (.cells (cs.set o v) T true)) else none
 | _=>none
def XJ (σ:Aa) (b o:Nat) (vs:List Value):Option Aa:=
 match σ[b]? with
 | some (.cells cs T true)=>if o+vs.length≤cs.length then some (σ.set b (.cells (AL cs o vs) T true)) else none
 | _=>none
def Jg (σ:Aa) (b:Nat):Bool:=
 match σ[b]? with
 | some (.cells _ _ rw)=>rw
 | some (.map _)=>true
 | _=>false
def ZA (σ:Aa) (b o n:Nat):Option (List Value):=
 match σ[b]? with
 | some (.cells vs _ _)=>if o+n≤vs.length then some ((vs.drop o).take n) else none
 | _=>none
def Yt (σ:Aa) (r:Nat):Option (List (Int × Value)):=
 match σ[r]? with
 | some (.map es)=>some es
 | _=>none
def TN (es:List (Int × Value)) (k:Int):Option Value:=(es.find? fun e=>k == e.1).map (·.2)
def VL (k:Int) (v:Value):List (Int × Value)→List (Int × Value)
 | []=>[(k,v)]
 | e::es=>if k == e.1 then (k,v)::es else e::VL k v es
def Sd (k:Int):List (Int × Value)→List (Int × Value)
 | []=>[]
 | e::es=>if k == e.1 then es else e::Sd k es
section
variable {ρ:Type}
def Ai1 (op:BinOp) (k:IntKind) (a b:Int) (K:Value→Option ρ):Option ρ:=
 match op with
 | .add=>K (.int k (k.wrap (a+b)))
 | .sub=>K (.int k (k.wrap (a-b)))
 | .mul=>K (.int k (k.wrap (a*b)))
 | .quo=>if b=0 then none else K (.int k (k.wrap (a.tdiv b)))
 | .rem=>if b=0 then none else K (.int k (a.tmod b))
 | .and=>K (.int k (k.wrap (BitVec.ofInt k.bits a &&& BitVec.ofInt k.bits b).toNat))
 | .or=>K (.int k (k.wrap (BitVec.ofInt k.bits a ||| BitVec.ofInt k.bits b).toNat))
 | .xor=>K (.int k (k.wrap (BitVec.ofInt k.bits a ^^^ BitVec.ofInt k.bits b).toNat))
 | .andNot=>K (.int k (k.wrap (BitVec.ofInt k.bits a &&& ~~~ (BitVec.ofInt k.bits b)).toNat))
 | .eql=>K (.bool (a == b))
 | .neq=>K (.bool (a != b))
 | .lss=>K (.bool (decide (a<b)))
 | .leq=>K (.bool (decide (a≤b)))
 | .gtr=>K (.bool (decide (a>b)))
 | .geq=>K (.bool (decide (a≥b)))
 | .shl | .shr=>none
def ud (op:BinOp) (k:IntKind) (a b:Int) (K:Value→Option ρ):Option ρ:=
 if b<0 then none else
 match op with
 | .shl=>K (.int k (k.wrap (a*2 ^ (min b.toNat k.bits))))
 | .shr=>K (.int k (a.fdiv (2 ^ (min b.toNat k.bits))))
 | _=>none
def xu (P:Program) (T:TypeId) (a b:Value):Option Bool:=
 match P.underlying T,a,b with
 | some (.int _),.int k x,.int k' y=>if k=k' then some (x == y) else none
 | some .bool,.bool x,.bool y=>some (x == y)
 | some .string,.string x,.string y=>some (x == y)
 | _,_,_=>none
def oD (P:Program):List Field→List Value→List Value→Option Bool
 | [],[],[]=>some true
 | [f],[a],[b]=>xu P f.type a b
 | f::fs,a::as,b::bs=>(xu P f.type a b).bind fun t=>bif t then oD P fs as bs else some false
 | _,_,_=>none
def cp (P:Program):Nat→List Field→Bool
 | _,[]=>true
 | i,f::fs=>f.name != "_" && f.offset == i && !NB P f.type && cp P (i+1) fs
def Od (P:Program) (T:TypeId) (a b:Value):Option Bool:=
 match a,b with
 | .bool x,.bool y=>(match P.underlying T with | some .bool=>some (x == y) | _=>none)
 | .pointer none,.pointer y=>(match P.underlying T with | some (.pointer _)=>some y.isNone | _=>none)
 | .pointer x,.pointer none=>(match P.underlying T with | some (.pointer _)=>some x.isNone | _=>none)
 | .slice none _ _,.slice y _ _=>(match P.underlying T with | some (.slice _)=>some y.isNone | _=>none)
 | .slice x _ _,.slice none _ _=>(match P.underlying T with | some (.slice _)=>some x.isNone | _=>none)
 | .agg xs,.agg ys=>(match P.underlying T with
   | some (.struct fs)=>bif cp P 0 fs.toList && !P.stoodInHeld T && !P.eqGuardType P.depth T then oD P fs.toList xs.toList ys.toList else none
   | _=>none)
 | _,_=>none
def Ai0 (P:Program) (op:BinOp) (T:TypeId) (x y:Value) (K:Value→Option ρ):Option ρ:=
 match x,y with
 | .int k a,.int k' b=>match op with
   | .shl=>ud .shl k a b K
   | .shr=>ud .shr k a b K
   | _=>if k=k' then Ai1 op k a b K else none
 | x,y=>match op with
   | .eql=>(Od P T x y).bind fun t=>K (.bool t)
   | .neq=>(Od P T x y).bind fun t=>K (.bool (!t))
   | _=>none
def unA (op:UnOp) (x:Value) (K:Value→Option ρ):Option ρ:=
 match op,x with
 | .not,.bool b=>K (.bool !b)
 | .neg,.int k n=>K (.int k (k.wrap (0-n)))
 | _,_=>none
def iN (P:Program) (T:TypeId) (f:Nat):Option (Nat × TypeId):=
 match P.underlying T with
 | some (.struct fs)=>match fs.toList[f]? with
   | some x=>some (x.offset,x.type)
   | none=>none
 | _=>none
def Aa5 (P:Program) (T:TypeId):Bool:=
 match P.underlying T with
 | some (.int .i64)=>true
 | _=>false
def IW (P:Program) (T:TypeId):Option Nat:=(P.info? T).map (·.size)
def bytesOf (P:Program) (T:TypeId):Option Nat:=(P.info? T).map (·.bytes)
def elemAt (σ:Aa) (b:Nat):Option TypeId:=
 match σ[b]? with
 | some (.cells _ T _)=>some T
 | _=>none
def WG (P:Program) (T:TypeId):Option TypeId:=
 match P.underlying T with
 | some (.slice e)=>some e
 | _=>none
def uW (P:Program) (T:TypeId):Option (Nat × TypeId):=
 match P.underlying T with
 | some (.array n e)=>some (n,e)
 | _=>none
def FT (P:Program) (T:TypeId):Option Value:=(P.info? T).bind fun i=>i.zero.bind fun z=>if JU z then some z else none
def rep (n:Nat) (z:List Value):List Value:=(List.replicate n z).flatten
def bound (x:Option Value) (dflt top:Nat) (K:Nat→Option ρ):Option ρ:=
 match x with
 | none=>K dflt
 | some (.int _ i)=>if 0≤i∧i≤top then K i.toNat else none
 | some _=>none
def pj (P:Program) (T:TypeId):List (Nat × Value)→List Value→Option (List Value)
 | [],cs=>some cs
 | (i,v)::ps,cs=>match iN P T i with
   | some (o,t)=>if IW P t=some v.cells.size∧o+v.cells.size≤cs.length∧Hb v=false then pj P T ps (AL cs o v.cells.toList) else none
   | none=>none
def kj (s:Nat):List (Nat × Value)→List Value→Option (List Value)
 | [],cs=>some cs
 | (i,v)::ps,cs=>if v.cells.size=s∧i*s+v.cells.size≤cs.length∧Hb v=false then kj s ps (AL cs (i*s) v.cells.toList) else none
def evs (e:Operand→Option Value):List Operand→(List Value→Option ρ)→Option ρ
 | [],K=>K []
 | x::xs,K=>(e x).bind fun v=>evs e xs fun vs=>K (v::vs)
def evp (e:Operand→Option Value):List (Nat × Operand)→(List (Nat × Value)→Option ρ)→Option ρ
 | [],K=>K []
 | (i,x)::xs,K=>(e x).bind fun v=>evp e xs fun vs=>K ((i,v)::vs)
def evo (e:Operand→Option Value) (x:Option Operand) (K:Option Value→Option ρ):Option ρ:=
 match x with
 | none=>K none
 | some x=>(e x).bind fun v=>K (some v)
def QG (n bytes:Nat):Prop:=n*bytes≤2 ^ 40∧n≤2 ^ 40
instance (n bytes:Nat):Decidable (QG n bytes):=inferInstanceAs (Decidable (_∧_))
def Ds (σ:Aa) (s:Nat) (x:Option Addr) (n:Nat):Option (List Value):=
 match x with
 | some a=>ZA σ a.block a.off (n*s)
 | none=>if n=0 then some [] else none
def Is (a:Option Addr):Bool:=
 match a with
 | none=>true
 | some a=>a.spot.isSome
def Qf (P:Program) (E:TypeId) (dst src:Option Addr × Nat × Nat) (σ:Aa) (K:Value→Aa→Option ρ):Option ρ:=
 (IW P E).bind fun s=>(bytesOf P E).bind fun by_=>
 (Ds σ s src.1 src.2.1).bind fun new=>(FT P E).bind fun z=>
 if ¬ (Hb z=false∧IW P E=some z.cells.size∧0<z.cells.size) then none else
 if dst.2.1+src.2.1≤dst.2.2 then
  bif Is dst.1 then (if dst.2.1+src.2.1=0 then K (.slice dst.1 0 0) σ else none)
  else dst.1.bind fun a=>(XJ σ a.block (a.off+dst.2.1*s) new).bind fun σ'=>K (.slice (some a) (dst.2.1+src.2.1) dst.2.2) σ'
 else if QG (dst.2.1+src.2.1) by_∧0<by_ then
  bif Is dst.1 then (if dst.2.1=0 then K (.slice (some ⟨σ.length,0,none⟩) src.2.1 src.2.1) (σ++[A6.cells new E true]) else none)
  else dst.1.bind fun a=>if elemAt σ a.block=some E then (ZA σ a.block a.off (dst.2.1*s)).bind fun SB=>
    bif Jg σ a.block then K (.slice (some ⟨σ.length,0,none⟩) (dst.2.1+src.2.1) (dst.2.1+src.2.1)) (σ.set a.block .dead++[A6.cells (SB++new) E true])
    else none else none
 else none
abbrev Ce:=Option Addr × Nat × Nat
def slK (v:Value) (σ:Aa):Option (Ce × Aa):=
 match v with
 | .slice a l c=>some ((a,l,c),σ)
 | _=>none
def B9 (P:Program) (E:TypeId) (dst src:Ce) (σ:Aa):Option (Ce × Aa):=Qf P E dst src σ slK
def HK (E:TypeId) (s:Nat) (v:Ce) (lo hi mx:Option Value) (σ:Aa):Option Ce:=
 bif !mx.isSome || hi.isSome then bound mx v.2.2 v.2.2 fun m=>bound hi v.2.1 m fun h=>bound lo 0 h fun l=>
  if m=l then (match v.1 with
   | none=>some (none,0,0)
   | some a=>bif mx.isSome then some (some ⟨a.block,a.off,some 0⟩,0,0) else if elemAt σ a.block=some E then some (some a,0,0) else none)
  else v.1.bind fun a=>if elemAt σ a.block=some E then some (some ⟨a.block,a.off+l*s,none⟩,h-l,m-l) else none
 else none
def stO (σ:Aa) (a:Option Addr) (vs:List Value):Option Aa:=
 match a with
 | some a=>XJ σ a.block a.off vs
 | none=>some σ
def qK (σ:Aa) (r:Option Nat):Option (List (Int × Value)):=
 match r with
 | none=>some []
 | some r=>Yt σ r
def Ab0 (σ:Aa) (r:Option Nat) (es:List (Int × Value)):Aa:=
 match r with
 | none=>σ
 | some r=>σ.set r (.map es)
def Ad4 (P:Program) (T:TypeId):Kd:=
 match P.underlying T with
 | some t=>Ad6 t
 | none=>.any
def asT (P:Program) (T:TypeId) (v:Value) (K:Value→Option ρ):Option ρ:=
 match P.underlying T with
 | some (.struct _)=>(toA v).bind fun l=>if l.length=(flat P 10 T).length then tq (flat P 10 T) l fun vs=>K (.agg vs.toArray) else none
 | some (.array _ _)=>none
 | some t=>asK (Ad6 t) v K
 | none=>none
def Aad (P:Program):List TypeId→List Value→(List Value→Option ρ)→Option ρ
 | [],_,K=>K []
 | T::Ts,l,K=>l.head?.bind fun v=>asT P T v fun v=>Aad P Ts l.tail fun vs=>K (v::vs)
def Adi (P:Program) (T:TypeId) (v:Value) (K:Value→Option ρ):Option ρ:=
 match (P.info? T).map (·.desc) with
 | some (TypeDesc.tuple ts)=>(qk v).bind fun l=>if l.length=ts.toList.length then Aad P ts.toList l fun vs=>K (.tuple vs.toArray) else none
 | _=>asT P T v K
end
def YF:FuncId:=1000000000
abbrev GM:=FuncId→List Value→Aa→Option (Value × Aa)
def UH (P:Program) (t:TypeId) (nm:String):Option FuncId:=
 match P.info? t with
 | none=>none
 | some i=>match i.methods.find? (·.name == nm) with
   | none=>none
   | some m=>match m.path.toList,m.func,P.underlying t with
     | [],some (f,false),some (.struct _)=>some f
     | [],some (f,true),some (.pointer _)=>some f
     | _,_,_=>none
def ID (P:Program) (call:GM) (f:Value) (vs:List Value) (σ:Aa):Option (Value × Aa):=
 match f with
 | .func (.func f) first cap=>bif Nat.beq f YF then none else call f (first.toList++vs++cap.toList) σ
 | .func (.yield h) _ _=>call YF (.pointer (some ⟨h,0,none⟩)::vs) σ
 | .func (.method nm) first _=>(match first.toList++vs with
   | .iface t v::rest=>(UH P t nm).bind fun f=>bif Nat.beq f YF then none else call f (v::rest) σ
   | _=>none)
 | _=>none
class A9 where
 q:Aa→Aa→Bool
 ok:∀ {σ σ':Aa},q σ σ'=true→σ <+: σ'
 k:Aa→Aa→Nat→Bool
 kok:∀ {σ σ':Aa} {h:Nat},k σ σ' h=true→σ'[h]?=σ[h]?
def QE [A9] {ρ:Type} (σ σ':Aa) (m:Option ρ):Option ρ:=bif A9.q σ σ' then m else none
def Oe [A9] {ρ:Type} (a:Option Addr) (σ σ':Aa) (m:Option ρ):Option ρ:=
 match a with
 | some a=>bif A9.k σ σ' a.block then m else none
 | none=>m
def Tf [A9] {ρ:Type} (b:Bool) (σ σ':Aa) (m:Option ρ):Option ρ:=bif b then QE σ σ' m else m
section
variable {ρ:Type}
def Ajc (P:Program) (ts:List TypeId) (vs:List Value) (σ:Aa) (K:Value→Aa→Option ρ):Option ρ:=
 match ts,vs with
 | [t],[v]=>(match P.underlying t,v with
   | some (.slice _),.slice _ n _=>K (.int .i64 n) σ
   | some .string,.string s=>K (.int .i64 s.size) σ
   | some (.map _ _),.map r=>(qK σ r).bind fun es=>K (.int .i64 es.length) σ
   | _,_=>none)
 | _,_=>none
def Akp (vs:List Value) (σ:Aa) (K:Value→Aa→Option ρ):Option ρ:=
 match vs with
 | [.int k x,.int k' y]=>if k=k' then K (.int k (if y<x then y else x)) σ else none
 | _=>none
def Ako (vs:List Value) (σ:Aa) (K:Value→Aa→Option ρ):Option ρ:=
 match vs with
 | [.int k x,.int k' y]=>if k=k' then K (.int k (if y>x then y else x)) σ else none
 | _=>none
def yV [A9] (P:Program) (q:Bool) (ts:List TypeId) (vs:List Value) (σ:Aa) (K:Value→Aa→Option ρ):Option ρ:=
 match ts,vs with
 | [t,t'],[.slice a l c,.slice a' l' c']=>match P.underlying t' with
   | some (.slice _)=>(WG P t).bind fun E=>(B9 P E (a,l,c) (a',l',c') σ).bind fun r=>Tf q σ r.2 (K (.slice r.1.1 r.1.2.1 r.1.2.2) r.2)
   | _=>none
 | _,_=>none
def Ahy (P:Program) (ts:List TypeId) (vs:List Value) (σ:Aa) (K:Value→Aa→Option ρ):Option ρ:=
 match ts,vs with
 | [t,_],[.slice a l _,.slice a' l' _]=>(WG P t).bind fun E=>(IW P E).bind fun s=>
   (Ds σ s a' (Nat.min l' l)).bind fun vs=>
   (stO σ a vs).bind fun σ'=>K (.int .i64 (Nat.min l' l:Nat)) σ'
 | _,_=>none
def Adp (P:Program) (ts:List TypeId) (vs:List Value) (σ:Aa) (K:Value→Aa→Option ρ):Option ρ:=
 match ts,vs with
 | [t],[v]=>(match P.underlying t,v with
   | some (.map _ _),.map r=>(qK σ r).bind fun _=>K (.tuple #[]) (Ab0 σ r [])
   | some (.slice E),.slice a l _=>
     (FT P E).bind fun z=>if Hb z=false∧0<z.cells.size then (if l=0 then some σ else a.bind fun a=>XJ σ a.block a.off (rep l z.cells.toList)).bind fun σ'=>K (.tuple #[]) σ' else none
   | _,_=>none)
 | _,_=>none
def za (P:Program) (ts:List TypeId) (vs:List Value) (σ:Aa) (K:Value→Aa→Option ρ):Option ρ:=
 match ts,vs with
 | [t,_],[.map r,.int .i64 k]=>(match P.underlying t,r with
   | some (.map kt _),r=>if Aa5 P kt then (qK σ r).bind fun es=>K (.tuple #[]) (Ab0 σ r (Sd k es)) else none
   | _,_=>none)
 | _,_=>none
def Vl [A9] (P:Program) (q:Bool) (b:Builtin) (ts:List TypeId) (vs:List Value) (σ:Aa) (K:Value→Aa→Option ρ):Option ρ:=
 match b with
 | .len=>Ajc P ts vs σ K
 | .min=>Akp vs σ K
 | .max=>Ako vs σ K
 | .append=>yV P q ts vs σ K
 | .copy=>Ahy P ts vs σ K
 | .clear=>Adp P ts vs σ K
 | .delete=>za P ts vs σ K
 | _=>none
inductive Cls where
 | pure | ld | al | lo
 deriving DecidableEq
def q8:Builtin→Bool→Cls
 | .len,true=>.ld
 | .len,false=>.pure
 | .min,_ | .max,_=>.pure
 | _,_=>.lo
def c8 (P:Program) (ts:List TypeId):Bool:=
 match ts with
 | t::_=>(match P.underlying t with | some (.map _ _)=>true | _=>false)
 | []=>false
def Gm (P:Program) (o:Oper):Cls:=
 match o.op with
 | .load .. | .lookup .. | .slice ..=>.ld
 | .box .. | .alloc .. | .buildSlice .. | .makeMap .. | .makeSlice ..=>.al
 | .store .. | .mapUpdate ..=>.lo
 | .call c=>match c.callee with
   | .builtin b=>q8 b (c8 P c.argTypes.toList)
   | _=>.al
 | _=>.pure
def kA (P:Program) (S:FuncId→Bool) (o:Oper):Bool:=
 match o.op with
 | .call c=>match c.callee with
   | .value (.func f)=>S f
   | .builtin _=>(match Gm P o with | .lo=>false | _=>true)
   | _=>false
 | _=>(match Gm P o with | .lo=>false | _=>true)
def W5 (P:Program) (S:FuncId→Bool):Code→Bool
 | .skip=>true
 | .region _ ops _=>ops.toList.all (kA P S)
 | .seq a b=>W5 P S a && W5 P S b
 | .cond _ a b=>W5 P S a && W5 P S b
 | .block _ c=>W5 P S c
 | .loop c=>W5 P S c
 | .exit _=>true
 | .ret=>true
 | _=>false
def yS (P:Program):Nat→FuncId→Bool
 | 0,_=>false
 | d+1,f=>bif Nat.beq f YF then false else match P.funcs[f]? with
   | some F=>match F.body with
     | some c=>W5 P (yS P d) c
     | none=>false
   | none=>false
def va (P:Program) (f:FuncId):Bool:=yS P 6 f
def yY (P:Program) (v:Value):Bool:=
 match v with
 | .func (.func f) _ _=>va P f
 | _=>false
def Aa9 (v:Value) (K:Value→Option ρ):Option ρ:=
 match v with
 | .pointer a=>a.bind fun a=>K (.pointer (some a))
 | .func (.func f) first cap=>K (.func (.func f) first cap)
 | .iface t u=>K (.iface t u)
 | _=>none
def Kx [A9] (P:Program) (call:GM) (quiet:Bool) (o:Op) (ty:TypeId) (e:Operand→Option Value) (σ:Aa) (K:Value→Aa→Option ρ):Option ρ:=
 match o with
 | .move x | .assign x=>(e x).bind fun v=>K v σ
 | .pick c a b=>(e c).bind fun c=>match c with
   | .bool true=>(e a).bind fun v=>K v σ
   | .bool false=>(e b).bind fun v=>K v σ
   | _=>none
 | .box T x=>(e x).bind fun v=>bif Hb v then none else K (.pointer (some ⟨σ.length,0,none⟩)) (σ++[.cells v.cells.toList T true])
 | .alloc T=>(FT P T).bind fun z=>if Hb z=false then K (.pointer (some ⟨σ.length,0,none⟩)) (σ++[.cells z.cells.toList T true]) else none
 | .build T parts=>(FT P T).bind fun z=>evp e parts.toList fun ps=>match P.underlying T with
   | some (.struct fs)=>if (fs.toList.all fun f=>(P.info? f.type).isSome)=true∧Hb z=false then (pj P T ps z.cells.toList).bind fun cs=>K (.agg cs.toArray) σ else none
   | some (.array _ E)=>(IW P E).bind fun s=>if Hb z=false then (kj s ps z.cells.toList).bind fun cs=>K (.agg cs.toArray) σ else none
   | _=>none
 | .buildSlice T n parts=>(WG P T).bind fun E=>bif n == 0 then (bif parts.toList.isEmpty then (IW P E).bind fun _=>K (.slice (some ⟨σ.length,0,some 0⟩) 0 0) (σ++[.cells [] E true]) else none) else (FT P E).bind fun z=>evp e parts.toList fun ps=>
   if IW P E=some z.cells.size∧0<n∧0<z.cells.size∧n*z.cells.size≤2 ^ 24∧Hb z=false then
    (kj z.cells.size ps (rep n z.cells.toList)).bind fun cs=>
     K (.slice (some ⟨σ.length,0,none⟩) n n) (σ++[.cells cs E true])
   else none
 | .load T x=>(e x).bind fun v=>match v with
   | .pointer a=>a.bind fun a=>
     bif NB P T then (if IW P T=some (flat P 10 T).length then oW (flat P 10 T) σ a.block a.off fun vs=>K (.agg vs.toArray) σ else none)
     else (P.underlying T).bind fun _=>ldK (Ad4 P T) σ a.block a.off fun v=>K v σ
   | _=>none
 | .store T x y=>(e x).bind fun v=>(e y).bind fun u=>match v with
   | .pointer a=>a.bind fun a=>match u with
     | .agg vs=>if IW P T=some vs.size then (XJ σ a.block a.off vs.toList).bind fun σ'=>K undef σ' else none
     | .tuple _=>none
     | u=>if IW P T=some 1 then (K3 σ a.block a.off u).bind fun σ'=>K undef σ' else none
   | _=>none
 | .nilCheck x=>(e x).bind fun v=>Aa9 v fun v=>K v σ
 | .binOp op T x y _=>(e x).bind fun a=>(e y).bind fun b=>Ai0 P op T a b fun v=>K v σ
 | .unOp op _ x=>(e x).bind fun a=>unA op a fun v=>K v σ
 | .convert s d x=>(e x).bind fun v=>match P.underlying s,P.underlying d,v with
   | some (.int _),some (.int k),.int _ n=>K (.int k (k.wrap n)) σ
   | _,_,_=>none
 | .makeInterface T x=>(e x).bind fun v=>match P.underlying T with
   | some (.interface _)=>none
   | some _=>K (.iface T v) σ
   | none=>none
 | .makeFunc fn first cap=>(match fn with
   | .yield _=>none
   | fn=>evs e first.toList fun vs=>evs e cap.toList fun us=>K (.func fn vs.toArray us.toArray) σ)
 | .makeMap _ none=>K (.map (some σ.length)) (σ++[.map []])
 | .makeSlice T l c=>(WG P T).bind fun E=>(e l).bind fun l=>(e c).bind fun c=>match l,c with
   | .int .i64 l,.int .i64 c=>(bytesOf P E).bind fun by_=>if 0≤l∧l≤c∧c*by_≤2 ^ 40∧c≤2 ^ 40 then
     (FT P E).bind fun z=>if IW P E=some z.cells.size∧0<z.cells.size∧Hb z=false then K (.slice (some ⟨σ.length,0,none⟩) l.toNat c.toNat) (σ++[.cells (rep c.toNat z.cells.toList) E true]) else none
     else none
   | _,_=>none
 | .slice T x lo hi mx=>(WG P T).bind fun E=>(IW P E).bind fun s=>(e x).bind fun v=>evo e lo fun lo=>evo e hi fun hi=>evo e mx fun mx=>match v with
   | .slice a len cap=>(HK E s (a,len,cap) lo hi mx σ).bind fun r=>K (.slice r.1 r.2.1 r.2.2) σ
   | _=>none
 | .fieldAddr T x f=>(iN P T f).bind fun ot=>(e x).bind fun v=>match v with
   | .pointer a=>a.bind fun a=>(IW P ot.2).bind fun s=>if s=0 then none else K (.pointer (some ⟨a.block,a.off+ot.1,none⟩)) σ
   | _=>none
 | .field T x f=>(iN P T f).bind fun ot=>(e x).bind fun v=>match v with
   | .agg vs=>bif NB P ot.2 then (IW P ot.2).bind fun s=>K (.agg ((vs.toList.drop ot.1).take s).toArray) σ
     else (P.underlying ot.2).bind fun _=>(vs.toList[ot.1]?).bind fun v=>K v σ
   | _=>none
 | .indexAddr T x i=>match uW P T with
   | some (len,E)=>(IW P E).bind fun s=>(e x).bind fun v=>(e i).bind fun i=>match v,i with
     | .pointer a,.int _ n=>a.bind fun a=>if 0≤n∧n<len then K (.pointer (some ⟨a.block,a.off+n.toNat*s,none⟩)) σ else none
     | _,_=>none
   | none=>(WG P T).bind fun E=>(IW P E).bind fun s=>(e x).bind fun v=>(e i).bind fun i=>match v,i with
     | .slice a len _,.int _ n=>if 0≤n∧n<len then a.bind fun a=>K (.pointer (some ⟨a.block,a.off+n.toNat*s,none⟩)) σ else none
     | _,_=>none
 | .index T x i=>(uW P T).bind fun le=>(e x).bind fun v=>(e i).bind fun i=>match v,i with
   | .agg vs,.int _ n=>bif NB P le.2 then none else if 0≤n∧n<le.1 then (P.underlying le.2).bind fun _=>(IW P le.2).bind fun s=>(vs.toList[n.toNat*s]?).bind fun v=>asK (Ad4 P le.2) v fun v=>K v σ else none
   | _,_=>none
 | .lookup T m i ok=>(e m).bind fun m=>(e i).bind fun i=>match P.underlying T,m,i with
   | some (.map kt E),.map r,.int .i64 k=>if Aa5 P kt then
     (qK σ r).bind fun es=>(FT P E).bind fun z=>
      asK (Ad4 P E) ((TN es k).getD z) fun v=>K (bif ok then .tuple #[v,.bool (TN es k).isSome] else v) σ else none
   | _,_,_=>none
 | .mapUpdate T m k v=>(e m).bind fun m=>(e k).bind fun k=>(e v).bind fun v=>match P.underlying T,m,k with
   | some (.map kt _),.map r,.int .i64 k=>if Aa5 P kt then r.bind fun r=>(Yt σ r).bind fun es=>K undef (σ.set r (.map (VL k v es))) else none
   | _,_,_=>none
 | .extract t i=>(e t).bind fun v=>match v with
   | .tuple vs=>(vs.toList[i]?).bind fun v=>K v σ
   | _=>none
 | .call c=>match c.callee with
   | .builtin b=>evs e c.args.toList fun vs=>Vl P quiet b c.argTypes.toList vs σ K
   | .value f=>(e f).bind fun fv=>evs e c.args.toList fun vs=>(ID P call fv vs σ).bind fun p=>
      Tf (quiet && !yY P fv) σ p.2 (Adi P ty p.1 fun v=>K v p.2)
   | .invoke _ _=>none
 | _=>none
end
def tB (regs:AZ):Operand→Option Value
 | .tmp t=>regs.getD t none
 | .const v=>if JU v then some v else none
 | .func f=>some (.func (.func f) #[] #[])
 | .global _=>none
def M7 (regs:AZ) (d:Option Nat) (v:Option Value):AZ:=
 match d with
 | some d=>regs.set d v
 | none=>regs
def Yk (all:List Oper) (j:Nat):Option Nat:=(all[j]?).bind (·.dst)
def Uo (all:List Oper) (regs:AZ) (j:Nat):Option Value:=
 match Yk all j with
 | some d=>regs.getD d none
 | none=>none
def Ad3 (dj:Option Nat) (known:List (Nat × Bool)) (o:Oper):Bool:=
 match o.op with
 | .pick (.tmp c) _ _=>some c == dj && (match o.guard with | none=>true | some g=>known.contains g)
 | _=>false
def YU (dj:Option Nat) (known:List (Nat × Bool)):List (Nat × Oper)→Option (List (Nat × Oper) × (Nat × Oper) × List (Nat × Oper))
 | []=>none
 | io::rest=>bif Ad3 dj known io.2 then some ([],io,rest) else (YU dj known rest).map fun x=>(io::x.1,x.2.1,x.2.2)
def sel {α:Type} (want b:Bool) (x y:α):α:=
 match want with
 | true=>bif b then x else y
 | false=>bif b then y else x
def SA (regs:AZ):List (Nat × Oper)→AZ
 | []=>regs
 | io::rest=>SA (M7 regs io.2.dst none) rest
def ZQ (all:List Oper):List (Nat × Oper)→AZ→Option AZ
 | [],regs=>some regs
 | io::rest,regs=>match io.2.guard with
   | none=>none
   | some (j,want)=>match Uo all regs j with
     | some (.bool b)=>bif b == want then none else ZQ all rest (M7 regs io.2.dst (some undef))
     | some (.tuple vs)=>bif vs.toList.isEmpty then ZQ all rest (M7 regs io.2.dst (some undef)) else none
     | _=>none
abbrev QF:=Bool × List Nat
def Ad5 [A9] {ρ:Type} (a:Option Addr) (σ σ':Aa) (m:Option ρ):Option ρ:=
 match a with
 | some a=>bif Nat.blt a.block σ.length && A9.k σ σ' a.block then m else none
 | none=>m
def c9 [A9] {ρ:Type}:List Nat→AZ→Aa→Aa→Option ρ→Option ρ
 | [],_,_,_,m=>m
 | t::ts,regs,σ,σ',m=>match regs.getD t none with
   | some (.pointer a)=>Oe a σ σ' (c9 ts regs σ σ' m)
   | some (.slice a _ _)=>Ad5 a σ σ' (c9 ts regs σ σ' m)
   | _=>none
def ND [A9] (P:Program) (call:GM) (qf:Nat→QF) (all:List Oper):Nat→(ρ:Type)→List (Nat × Bool)→List (Nat × Oper)→AZ→Aa→(AZ→Aa→Option ρ)→Option ρ
 | 0,_,_,_,_,_,_=>none
 | fuel+1,ρ,known,ops,regs,σ,K=>match ops with
   | []=>K regs σ
   | io::rest=>match io.2.guard with
     | none=>Kx P call (qf io.1).1 io.2.op io.2.type (tB regs) σ fun v σ'=>c9 (qf io.1).2 regs σ σ' (ND P call qf all fuel ρ known rest (M7 regs io.2.dst (some v)) σ' K)
     | some (j,want)=>
       bif known.contains (j,want) then
        match Uo all regs j with
        | some (.bool b)=>bif b == want then Kx P call (qf io.1).1 io.2.op io.2.type (tB regs) σ fun v σ'=>c9 (qf io.1).2 regs σ σ' (ND P call qf all fuel ρ known rest (M7 regs io.2.dst (some v)) σ' K) else none
        | _=>none
       else match YU (Yk all j) known rest with
        | none=>none
        | some (body,p,after)=>match Uo all regs j with
          | some (.bool b)=>
            (sel want b
              (ND P call qf all fuel (Bool × Aa) ((j,want)::known) (io::(body++[p])) (M7 regs (Yk all j) (some (.bool want))) σ
               (fun regs' σ'=>((p.2.dst.bind fun d=>regs'.getD d none).bind Ez).bind fun r=>some (r,σ')))
             ((ZQ all (io::body) (M7 regs (Yk all j) (some (.bool !want)))).bind fun regs'=>
               ND P call qf all fuel (Bool × Aa) known [p] regs' σ
                (fun regs' σ'=>((p.2.dst.bind fun d=>regs'.getD d none).bind Ez).bind fun r=>some (r,σ')))).bind fun rσ=>
            ND P call qf all fuel ρ known after (M7 (SA regs (io::body)) p.2.dst (some (.bool rσ.1))) rσ.2 K
          | _=>none
structure Hint where
 live:List Nat
 exits:List (Dh × List (Nat × Kd))
 deriving Inhabited
abbrev Hints:=List (Nat × Hint)
def WH:Code→Nat
 | .region id _ _=>id
 | .seq a _=>WH a
 | .block _ b=>WH b
 | .loop b=>WH b
 | .scope b=>WH b
 | .cond _ a _=>WH a
 | _=>0
def Hints.at (H:Hints) (id:Nat):Option Hint:=H.lookup id
abbrev Ax:=Dh × List Value × Aa
def VM (live:List Nat):Nat→AZ→AZ
 | _,[]=>[]
 | i,r::rs=>(if live.contains i then r else none)::VM live (i+1) rs
def ZB (live:List Nat) (regs:AZ):AZ:=VM live 0 regs
def pg (regs:AZ):List (Nat × Kd)→(List Value→Option Ax)→Option Ax
 | [],K=>K []
 | (t,_)::os,K=>(regs.getD t none).bind fun v=>pg regs os fun vs=>K (v::vs)
def tO (x:Dh):List (Dh × List (Nat × Kd))→Option (List (Nat × Kd))
 | []=>none
 | e::es=>if x=e.1 then some e.2 else tO x es
def pack (exits:List (Dh × List (Nat × Kd))) (x:Dh) (regs:AZ) (σ:Aa):Option Ax:=
 (tO x exits).bind fun outs=>pg regs outs fun vs=>some (x,vs,σ)
def hO {ρ:Type} (x:Dh) (K:Dh→List (Nat × Kd)→Option ρ):List (Dh × List (Nat × Kd))→Option ρ
 | []=>none
 | e::es=>if x=e.1 then K e.1 e.2 else hO x K es
def kN:List (Nat × Kd)→List Value→AZ→AZ
 | (t,_)::os,v::vs,regs=>kN os vs (regs.set t (some v))
 | _,_,regs=>regs
def mY:List Oper→List Nat
 | []=>[]
 | o::os=>o.dst.toList++mY os
def Wx:Code→List Nat
 | .region _ ops _=>mY ops.toList
 | .seq a b=>Wx a++Wx b
 | .cond _ a b=>Wx a++Wx b
 | .block _ b=>Wx b
 | .loop b=>Wx b
 | .scope b=>Wx b
 | _=>[]
def forget (c:Code) (regs:AZ):AZ:=go (Wx c) regs
where
 go:List Nat→AZ→AZ
  | [],regs=>regs
  | t::ts,regs=>go ts (regs.set t none)
def unpack {ρ:Type} (h:Hint) (c:Code) (regs:AZ) (r:Ax) (K:Dh→AZ→Aa→Option ρ):Option ρ:=
 hO r.1 (fun x outs=>tq (outs.map (·.2)) r.2.1 fun vs=>K x (kN outs vs (forget c regs)) r.2.2) h.exits
def lP (B:AZ→Aa→(Dh→AZ→Aa→Option Ax)→Option Ax) (h:Hint):Nat→AZ→Aa→Option Ax
 | 0,_,_=>none
 | n+1,regs,σ=>B regs σ fun x regs' σ'=>match x with
   | .normal=>lP B h n (ZB h.live regs') σ'
   | x=>pack h.exits x regs' σ'
def pb (acc:List Nat) (o:Oper):Nat:=(o.after.toList.filter (Region.binds .any)).foldl (fun s e=>s ||| 2 ^ e.on ||| acc.getD e.on 0) 0
def RX:List Oper→List Nat→List Nat
 | [],acc=>acc
 | o::os,acc=>RX os (acc++[pb acc o])
def ordered (b:List Nat) (i j:Nat):Bool:=(b.getD i 0).testBit j || (b.getD j 0).testBit i
def UG (o:Oper):Bool:=
 match o.op with
 | .call c=>(match c.callee with | .builtin _=>false | _=>true)
 | _=>false
def isApp (o:Oper):Bool:=
 match o.op with
 | .call c=>(match c.callee with | .builtin .append=>true | _=>false)
 | _=>false
def lY (ops:List Oper):Nat→Nat→Nat→Option Nat
 | 0,_,_=>none
 | n+1,a,j=>match ops.zipIdx.filter fun p=>p.1.dst == some a with
   | []=>some a
   | [p]=>bif Nat.blt p.2 j then (match p.1.op with
     | .fieldAddr _ (.tmp b) _=>lY ops n b p.2
     | .move (.tmp b)=>lY ops n b p.2
     | .nilCheck (.tmp b)=>lY ops n b p.2
     | _=>none) else none
   | _=>none
def vY (ops:List Oper):Nat→Nat→Nat→Option Nat
 | 0,_,_=>none
 | n+1,a,j=>match ops.zipIdx.filter fun p=>p.1.dst == some a with
   | []=>some a
   | [p]=>bif Nat.blt p.2 j then (match p.1.op with
     | .move (.tmp b)=>vY ops n b p.2
     | _=>none) else none
   | _=>none
def iL (ops:List Oper) (j:Nat):Option Nat:=
 match ops[j]? with
 | some o=>(match o.op with
   | .load _ (.tmp a)=>lY ops 8 a j
   | .slice _ (.tmp a) _ _ _=>vY ops 8 a j
   | _=>none)
 | none=>none
def xH (ops:List Oper) (j:Nat):Bool:=
 match ops[j]? with
 | some o=>(match o.op with
   | .load _ (.tmp _)=>true
   | _=>false)
 | none=>false
def bare (ops:List Oper) (i:Nat):Bool:=
 match ops[i]? with
 | some o=>o.guard.isNone
 | none=>false
def loose (P:Program) (ops:List Oper) (i:Nat):List (Oper × Nat):=ops.zipIdx.filter fun x=>!(i == x.2 || Gm P x.1 == .pure || ordered (RX ops []) i x.2)
def Akf (P:Program) (o:Oper):Bool:=
 match o.op with
 | .call c=>(match c.callee with | .value (.func f)=>va P f | _=>false)
 | _=>false
def VP (P:Program) (ops:List Oper) (draw:Bool) (i:Nat):QF:=
 bif draw then (match ops[i]? with
  | some o=>bif UG o || isApp o then (bif (loose P ops i).isEmpty then (false,[]) else
    bif (UG o && !Akf P o && (loose P ops i).all (fun x=>xH ops x.2 && (iL ops x.2).isSome)) || (isApp o && o.guard.isNone && (loose P ops i).all (fun x=>!xH ops x.2 && (iL ops x.2).isSome)) then (false,(loose P ops i).filterMap fun x=>iL ops x.2) else (true,[]))
    else (false,[])
  | none=>(false,[])) else (false,[])
def J9 (P:Program) (ops:List Oper) (qf:Nat→QF) (i:Nat):Cls:=
 match ops[i]? with
 | some o=>bif UG o && !(qf i).1 then .lo else bif isApp o && (qf i).1 then .al else Gm P o
 | none=>.pure
def Ai8 (ops:List Oper) (qf:Nat→QF) (i j:Nat):Bool:=
 match iL ops j with
 | some t=>(qf i).2.contains t && (xH ops j || bare ops i)
 | none=>false
def Akn (o:Oper):Bool:=
 match o.op with
 | .alloc _=>true
 | _=>false
def Aeo (ops:List Oper) (i j:Nat):Bool:=
 match ops[i]? with
 | some o=>(match o.op with
   | .store _ (.tmp a) _=>(match ops.zipIdx.filter fun p=>p.1.dst == some a with
     | [p]=>Akn p.1 && Nat.blt j p.2 && Nat.blt p.2 i
     | _=>false)
   | _=>false)
 | none=>false
def Ul (ops:List Oper) (qf:Nat→QF) (i j:Nat):Bool:=Ai8 ops qf i j || (xH ops j && Aeo ops i j)
def xR (ops:List Oper) (o:Oper):List Nat:=
 (o.op.operands.toList.filterMap fun | .tmp t=>some t | _=>none)++(match o.guard with | some (g,_)=>(Yk ops g).toList | none=>[])
def gw (P:Program) (ops:List Oper) (qf:Nat→QF):Bool:=
 let b:=RX ops []
 ops.zipIdx.all fun x=>
  (x.1.after.toList.all fun e=>!Region.binds .any e || Nat.blt e.on x.2) &&
  ops.zipIdx.all fun y=>x.2 == y.2 ||
   ((match x.1.dst with | some t=>(!(xR ops y.1).contains t && y.1.dst != some t) || ordered b x.2 y.2 | none=>true) &&
    ((J9 P ops qf x.2 != .lo || J9 P ops qf y.2 == .pure) || ordered b x.2 y.2 || Ul ops qf x.2 y.2))
def CH:Code→Option (Array Tmp × Code × Code)
 | .seq a b=>match CH a with
   | some x=>some x
   | none=>CH b
 | .cond _ a b=>match CH a with
   | some x=>some x
   | none=>CH b
 | .block _ c=>CH c
 | .loop c=>CH c
 | .scope c=>CH c
 | .rangeFunc _ ps a b=>some (ps,a,b)
 | _=>none
def ranges:Code→Nat
 | .seq a b=>ranges a+ranges b
 | .cond _ a b=>ranges a+ranges b
 | .block _ c=>ranges c
 | .loop c=>ranges c
 | .scope c=>ranges c
 | .rangeFunc _ _ a b=>ranges a+ranges b+1
 | _=>0
def Aa2:Value→Bool
 | .func (.func _) _ _=>true
 | _=>false
def VD {ρ:Type} (h:Nat) (σ:Aa) (K:Dh→Aa→Option ρ):Option ρ:=
 match σ[h]? with
 | some (.loop _ .ready _)=>K .normal (σ.set h .dead)
 | some (.loop _ (.done x) _)=>match x with
   | .normal=>none
   | x=>K x (σ.set h .dead)
 | _=>none
def Ni {ρ:Type} (h:Nat) (σ:Aa) (SB new:LSt) (K:FuncId→AZ→Aa→Option ρ):Option ρ:=
 match σ[h]? with
 | some (.loop f st regs)=>if st=SB then K f regs (σ.set h (.loop f new regs)) else none
 | _=>none
def pM:List Tmp→List Value→AZ→AZ
 | t::ts,v::vs,regs=>pM ts vs (regs.set t (some v))
 | _,_,regs=>regs
def exec [A9] (P:Program) (call:GM) (fid:FuncId) (H:Hints) (n:Nat):Code→(ρ:Type)→AZ→Aa→(Dh→AZ→Aa→Option ρ)→Option ρ
 | .skip,_,regs,σ,K=>K .normal regs σ
 | .region _ ops draw,_,regs,σ,K=>bif draw && !gw P ops.toList (VP P ops.toList draw) then none else
   ND P call (VP P ops.toList draw) ops.toList (2*ops.toList.length+1) _ [] (ops.toList.zipIdx.map fun x=>(x.2,x.1)) regs σ fun regs σ=>K .normal regs σ
 | .seq a b,ρ,regs,σ,K=>exec P call fid H n a ρ regs σ fun x regs σ=>match x with
   | .normal=>exec P call fid H n b ρ regs σ K
   | .exit id=>K (.exit id) regs σ
   | .ret=>K .ret regs σ
 | .cond c t e,ρ,regs,σ,K=>match tB regs c with
   | some (.bool b)=>match H.at (2*WH t+1) with
     | none=>bif b then exec P call fid H n t ρ regs σ K else exec P call fid H n e ρ regs σ K
     | some h=>(bif b then exec P call fid H n t Ax regs σ (pack h.exits) else exec P call fid H n e Ax regs σ (pack h.exits)).bind fun r=>unpack h (.seq t e) regs r K
   | _=>none
 | .block id c,ρ,regs,σ,K=>exec P call fid H n c ρ regs σ fun x regs σ=>match x with
   | .normal=>K .normal regs σ
   | .exit id'=>if id'=id then K .normal regs σ else K (.exit id') regs σ
   | .ret=>K .ret regs σ
 | .loop c,ρ,regs,σ,K=>match H.at (2*WH c) with
   | none=>none
   | some h=>(lP (fun regs σ K=>exec P call fid H n c Ax regs σ K) h n (ZB h.live regs) σ).bind fun r=>unpack h c regs r K
 | .exit id,_,regs,σ,K=>K (.exit id) regs σ
 | .ret,_,regs,σ,K=>K .ret regs σ
 | .scope c,ρ,regs,σ,K=>exec P call fid H n c ρ regs σ K
 | .label _,_,regs,σ,K=>K .normal regs σ
 | .rangeFunc g ps _ b,_,regs,σ,K=>match tB regs g,H.at (2*WH b) with
   | some gv,some h=>bif Aa2 gv then (ID P call gv [.func (.yield σ.length) #[] #[]] (σ++[.loop fid .ready (ZB h.live regs)])).bind fun r=>
     VD σ.length r.2 fun x σ'=>hO x (fun x _=>K x regs σ') h.exits else none
   | _,_=>none
 | _,_,_,_,_=>none
def tV (P:Program) (regs:AZ) (σ:Aa) (r:ResultVar):Option Value:=
 match r with
 | .tmp t=>regs.getD t none
 | .cell t T=>(regs.getD t none).bind fun v=>match v with
   | .pointer (some a)=>bif NB P T then (IW P T).bind fun s=>(ZA σ a.block a.off s).bind fun vs=>some (.agg vs.toArray) else (P.underlying T).bind fun _=>Gi σ a.block a.off
   | _=>none
def kG (P:Program) (regs:AZ) (σ:Aa):List ResultVar→Option (List Value)
 | []=>some []
 | r::rs=>(tV P regs σ r).bind fun v=>(kG P regs σ rs).bind fun vs=>some (v::vs)
def Og:List Value→Value
 | [v]=>v
 | vs=>.tuple vs.toArray
def fin (P:Program) (f:Func) (x:Dh) (regs:AZ) (σ:Aa):Option (Value × Aa):=
 match x with
 | .exit _=>none
 | _=>(kG P regs σ f.results.toList).bind fun vs=>some (Og vs,σ)
abbrev Ext:=FuncId→Option (List Value→Aa→Option (Value × Aa))
def Y5 (h:Nat) (z:Dh) (σ:Aa):Option (Value × Aa):=
 match z with
 | .normal=>Ni h σ .busy .ready fun _ _ σ=>some (.bool true,σ)
 | .exit id=>Ni h σ .busy (.done (.exit id)) fun _ _ σ=>some (.bool false,σ)
 | .ret=>Ni h σ .busy (.done .ret) fun _ _ σ=>some (.bool false,σ)
def cU [A9] (P:Program) (call:GM) (f:FuncId) (H:Hints) (n:Nat) (h:Nat) (c:Code) (y:Dh) (regs:AZ) (σ:Aa):Option (Value × Aa):=
 match y with
 | .normal=>Ni h σ .ready .busy fun _ _ σ=>exec P call f H n c (Value × Aa) regs σ fun z _ σ=>Y5 h z σ
 | _=>none
def tY [A9] (P:Program) (call:GM) (H:FuncId→Hints) (n:Nat) (args:List Value) (σ:Aa):Option (Value × Aa):=
 match args with
 | .pointer (some a)::vs=>Ni a.block σ .ready .ready fun f regs _=>
   (P.funcs[f]?).bind fun F=>F.body.bind fun c=>(CH c).bind fun x=>if ranges c=1∧vs.length=x.1.toList.length then
    exec P call f (H f) n x.2.1 (Value × Aa) (pM x.1.toList vs regs) σ fun y regs1 σ1=>cU P call f (H f) n a.block x.2.2 y regs1 σ1
    else none
 | _=>none
def fn [A9] (P:Program) (X:Ext) (H:FuncId→Hints):Nat→GM
 | 0,_,_,_=>none
 | k+1,f,args,σ=>match X f with
   | some g=>g args σ
   | none=>bif Nat.beq f YF then tY P (fn P X H k) H k args σ else match P.funcs[f]? with
     | none=>none
     | some F=>match F.body with
       | none=>none
       | some c=>if F.name = "runtime.NumGoroutine" ∨ 1<ranges c then none else
         exec P (fn P X H k) f (H f) k c (Value × Aa) (args.map some++List.replicate (F.ntmps-args.length) (some undef)) σ (fin P F)
def sD:Option Addr→Option Addr→Bool
 | none,none=>true
 | some a,some b=>a.block == b.block && (a.off == b.off && (match a.spot,b.spot with | none,none=>true | some x,some y=>x == y | _,_=>false))
 | _,_=>false
def zt:Value→Value→Bool
 | .bool a,.bool b=>a == b
 | .int k a,.int k' b=>decide (k=k') && a == b
 | .pointer a,.pointer b=>sD a b
 | .slice a l c,.slice a' l' c'=>sD a a' && (l == l' && c == c')
 | .map none,.map none=>true
 | .map (some a),.map (some b)=>a == b
 | .nilFunc,.nilFunc=>true
 | .nilIface,.nilIface=>true
 | .agg a,.agg b=>a.toList.isEmpty && b.toList.isEmpty
 | .func (.func f) a b,.func (.func f') a' b'=>f == f' && (a.toList.isEmpty && (a'.toList.isEmpty && (b.toList.isEmpty && b'.toList.isEmpty)))
 | _,_=>false
def wq (v v':Value):Bool:=
 match v,v' with
 | .iface t x,.iface t' x'=>t == t' && zt x x'
 | v,v'=>zt v v'
def kL:List Value→List Value→Bool
 | [],[]=>true
 | x::xs,y::ys=>wq x y && kL xs ys
 | _,_=>false
def kK:List (Int × Value)→List (Int × Value)→Bool
 | [],[]=>true
 | x::xs,y::ys=>x.1 == y.1 && (wq x.2 y.2 && kK xs ys)
 | _,_=>false
def fU:List (Option Value)→List (Option Value)→Bool
 | [],[]=>true
 | none::xs,none::ys=>fU xs ys
 | some x::xs,some y::ys=>wq x y && fU xs ys
 | _,_=>false
def zu:A6→A6→Bool
 | .cells vs T rw,.cells vs' T' rw'=>kL vs vs' && (T == T' && rw == rw')
 | .map es,.map es'=>kK es es'
 | .loop f st r,.loop f' st' r'=>f == f' && (decide (st=st') && fU r r')
 | .dead,.dead=>true
 | _,_=>false
def wh:Aa→Aa→Bool
 | [],_=>true
 | x::xs,y::ys=>zu x y && wh xs ys
 | _,_=>false
theorem we:∀ {a b:Option Addr},sD a b=true→a=b
 | none,none,_=>rfl
 | some ⟨b1,o1,s1⟩,some ⟨b2,o2,s2⟩,h=>by
   simp only[sD,Bool.and_eq_true,beq_iff_eq] at h
   obtain ⟨rfl,rfl,h⟩:=h
   cases s1 <;> cases s2 <;> simp at h <;> simp[h]
 | none,some _,h=>by simp[sD] at h
 | some _,none,h=>by simp[sD] at h
theorem isEmpty_eq {a:Array Value} (h:a.toList.isEmpty=true):a = #[]:=by
 apply Array.toList_inj.1; simpa using h
theorem wg {v v':Value} (h:zt v v'=true):v=v':=by
 unfold zt at h
 split at h
 ·simp at h; simp[h]
 ·simp at h; simp[h]
 ·rw[we h]
 ·simp only[Bool.and_eq_true,beq_iff_eq] at h
  rw[we h.1,h.2.1,h.2.2]
 ·rfl
 ·simp at h; simp[h]
 ·rfl
 ·rfl
 ·simp only[Bool.and_eq_true] at h
  rw[isEmpty_eq h.1,isEmpty_eq h.2]
 ·simp only[Bool.and_eq_true,beq_iff_eq] at h
  rw[h.1,isEmpty_eq h.2.1,isEmpty_eq h.2.2.1,isEmpty_eq h.2.2.2.1,isEmpty_eq h.2.2.2.2]
 ·cases h
theorem pL {v v':Value} (h:wq v v'=true):v=v':=by
 unfold wq at h
 split at h
 ·simp only[Bool.and_eq_true,beq_iff_eq] at h
  rw[h.1,wg h.2]
 ·exact wg h
theorem sF:∀ {v v':List Value},kL v v'=true→v=v'
 | [],[],_=>rfl
 | x::xs,y::ys,h=>by
   simp only[kL,Bool.and_eq_true] at h
   rw[pL h.1,sF h.2]
 | [],_::_,h=>by simp[kL] at h
 | _::_,[],h=>by simp[kL] at h
theorem sE:∀ {v v':List (Int × Value)},kK v v'=true→v=v'
 | [],[],_=>rfl
 | (a,x)::xs,(b,y)::ys,h=>by
   simp only[kK,Bool.and_eq_true,beq_iff_eq] at h
   rw[h.1,pL h.2.1,sE h.2.2]
 | [],_::_,h=>by simp[kK] at h
 | _::_,[],h=>by simp[kK] at h
theorem pK:∀ {v v':List (Option Value)},fU v v'=true→v=v'
 | [],[],_=>rfl
 | none::xs,none::ys,h=>by
   simp only[fU] at h
   rw[pK h]
 | some x::xs,some y::ys,h=>by
   simp only[fU,Bool.and_eq_true] at h
   rw[pL h.1,pK h.2]
 | [],_::_,h=>by simp[fU] at h
 | _::_,[],h=>by simp[fU] at h
 | none::_,some _::_,h=>by simp[fU] at h
 | some _::_,none::_,h=>by simp[fU] at h
theorem wk {o o':A6} (h:zu o o'=true):o=o':=by
 unfold zu at h
 split at h
 ·simp only[Bool.and_eq_true,beq_iff_eq] at h
  rw[sF h.1,h.2.1,h.2.2]
 ·rw[sE h]
 ·simp only[Bool.and_eq_true,beq_iff_eq,decide_eq_true_eq] at h
  rw[h.1,h.2.1,pK h.2.2]
 ·rfl
 ·cases h
theorem wj:∀ {σ σ':Aa},wh σ σ'=true→σ <+: σ'
 | [],_,_=>List.nil_prefix
 | x::xs,y::ys,h=>by
   simp only[wh,Bool.and_eq_true] at h
   obtain ⟨t,ht⟩:=wj h.2
   exact ⟨t,by rw[wk h.1,← ht]; rfl⟩
 | _::_,[],h=>by simp[wh] at h
def sameAt (σ σ':Aa) (h:Nat):Bool:=
 match σ[h]?,σ'[h]? with
 | some o,some o'=>zu o o'
 | none,none=>true
 | _,_=>false
theorem Abw {σ σ':Aa} {h:Nat} (g:sameAt σ σ' h=true):σ'[h]?=σ[h]?:=by
 unfold sameAt at g
 split at g
 ·rename_i o o' h1 h2
  rw[h1,h2,wk g]
 ·rename_i h1 h2
  rw[h1,h2]
 ·cases g
@[reducible] def RY:A9:=⟨wh,wj,sameAt,Abw⟩
open Classical in
@[reducible] noncomputable def Aw:A9:=⟨fun σ σ'=>decide (σ <+: σ'),fun h=>by simpa using h,fun σ σ' h=>decide (σ'[h]?=σ[h]?),fun h=>by simpa using h⟩
end Go.AX
