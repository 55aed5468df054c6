/- THE ABSTRACT EXECUTOR: a deterministic executor of the model's code over an abstract memory (handles in the place of block numbers; no spare capacity, -/
import Derived.WalkKit
import Derived.KernelRfl
set_option linter.unusedVariables false
set_option linter.unusedSimpArgs false
set_option linter.unusedSectionVars false
section
namespace Go.AX
open Go
inductive Bi where
 | cells (vs:List Value) (T:TypeId) (rw:Bool)
 | map (es:List (Int × Value))
 | dead
 deriving Inhabited
abbrev Aa:=List Bi
abbrev B4:=List (Option Value)
inductive Kd where
 | int (k:IntKind) | bool | str | ptr | slice | map | func | any
 deriving DecidableEq,Inhabited
def BA (k:IntKind):Value→Option Int
 | .int k' n=>if k'=k then some n else none
 | _=>none
def DF:Value→Option Bool
 | .bool b=>some b
 | _=>none
def toStr:Value→Option ByteArray
 | .string b=>some b
 | _=>none
def XP:Value→Option (Option Addr)
 | .pointer a=>some a
 | _=>none
def H7:Value→Option (Option Addr × Nat × Nat)
 | .slice a l c=>some (a,l,c)
 | _=>none
def cW:Value→Option (Option Nat)
 | .map r=>some r
 | _=>none
def sf:Value→Option (List Value)
 | .agg vs=>some vs.toList
 | _=>none
def Zq:Value→Option (List Value)
 | .tuple vs=>some vs.toList
 | _=>none
def Gy (σ:Aa) (b o:Nat):Option Value:=
 match σ[b]? with
 | some (.cells vs _ _)=>vs[o]?
 | _=>none
def Ai (k:IntKind) (σ:Aa) (b o:Nat):Option Int:=(Gy σ b o).bind (BA k)
def WS (σ:Aa) (b o:Nat):Option Bool:=(Gy σ b o).bind DF
def oA (σ:Aa) (b o:Nat):Option ByteArray:=(Gy σ b o).bind toStr
def Js (σ:Aa) (b o:Nat):Option (Option Addr):=(Gy σ b o).bind XP
def Ew (σ:Aa) (b o:Nat):Option (Option Addr × Nat × Nat):=(Gy σ b o).bind H7
def qg (σ:Aa) (b o:Nat):Option (Option Nat):=(Gy σ b o).bind cW
section
variable {ρ:Type}
def sb (k:Kd) (v:Value) (K:Value→Option ρ):Option ρ:=
 match k with
 | .int k=>(BA k v).bind fun n=>K (.int k n)
 | .bool=>(DF v).bind fun b=>K (.bool b)
 | .str=>(toStr v).bind fun s=>K (.string s)
 | .ptr=>(XP v).bind fun a=>K (.pointer a)
 | .slice=>(H7 v).bind fun s=>K (.slice s.1 s.2.1 s.2.2)
 | .map=>(cW v).bind fun r=>K (.map r)
 | .func=>K v
 | .any=>K v
def fe:List Kd→List Value→(List Value→Option ρ)→Option ρ
 | [],_,K=>K []
 | k::ks,l,K=>l.head?.bind fun v=>sb k v fun v=>fe ks l.tail fun vs=>K (v::vs)
def pA (k:Kd) (σ:Aa) (b o:Nat) (K:Value→Option ρ):Option ρ:=
 match k with
 | .int k=>(Ai k σ b o).bind fun n=>K (.int k n)
 | .bool=>(WS σ b o).bind fun b=>K (.bool b)
 | .str=>(oA σ b o).bind fun s=>K (.string s)
 | .ptr=>(Js σ b o).bind fun a=>K (.pointer a)
 | .slice=>(Ew σ b o).bind fun s=>K (.slice s.1 s.2.1 s.2.2)
 | .map=>(qg σ b o).bind fun r=>K (.map r)
 | .func=>(Gy σ b o).bind K
 | .any=>(Gy σ b o).bind K
def bm:List Kd→Aa→Nat→Nat→(List Value→Option ρ)→Option ρ
 | [],_,_,_,K=>K []
 | k::ks,σ,b,o,K=>pA k σ b o fun v=>bm ks σ b (o+1) fun vs=>K (v::vs)
end
def o6:TypeDesc→Kd
 | .int k=>.int k
 | .bool=>.bool
 | .string=>.str
 | .pointer _=>.ptr
 | .slice _=>.slice
 | .map _ _=>.map
 | .func _ _ _=>.func
 | _=>.any
def flat (P:Program):Nat→TypeId→List Kd
 | 0,_=>[]
 | d+1,T=>match P.underlying T with
   | some (.struct fs)=>fs.toList.flatMap fun f=>flat P d f.type
   | some (.array n e)=>(List.range n).flatMap fun _=>flat P d e
   | some t=>[o6 t]
   | none=>[]
def Lr (P:Program) (T:TypeId):Bool:=
 match P.underlying T with
 | some (.struct _) | some (.array _ _)=>true
 | _=>false
def AE (cs:List Value) (o:Nat) (vs:List Value):List Value:=cs.take o++vs++cs.drop (o+vs.length)
def Ig:Value→Bool
 | .bool _ | .int _ _ | .string _ | .pointer none | .slice none 0 0 | .map none | .nilFunc | .nilIface=>true
 | .func _ a b=>a.toList.isEmpty && b.toList.isEmpty
 | _=>false
def Iu:Value→Bool
 | .agg vs=>vs.toList.all Ig
 | .tuple vs=>vs.toList.all Ig
 | v=>Ig v
def J5:Value→Bool
 | .tuple _=>true
 | _=>false
def G0 (σ:Aa) (b o:Nat) (v:Value):Option Aa:=
 match σ[b]? with
 | some (.cells cs T true)=>if o<cs.length then some (σ.set b (.cells (cs.set o v) T true)) else none
 | _=>none
def Ki (σ:Aa) (b o:Nat) (vs:List Value):Option Aa:=
 match σ[b]? with
 | some (.cells cs T true)=>if o+vs.length≤cs.length then some (σ.set b (.cells (AE cs o vs) T true)) else none
 | _=>none
def KW (σ:Aa) (b:Nat):Bool:=
 match σ[b]? with
 | some (.cells _ _ rw)=>rw
 | some (.map _)=>true
 | _=>false
def VV (σ:Aa) (b o n:Nat):Option (List Value):=
 match σ[b]? with
 | some (.cells vs _ _)=>if o+n≤vs.length then some ((vs.drop o).take n) else none
 | _=>none
def TJ (σ:Aa) (r:Nat):Option (List (Int × Value)):=
 match σ[r]? with
 | some (.map es)=>some es
 | _=>none
def Pp (es:List (Int × Value)) (k:Int):Option Value:=(es.find? fun e=>k == e.1).map (·.2)
def Ol (k:Int) (v:Value):List (Int × Value)→List (Int × Value)
 | []=>[(k,v)]
 | e::es=>if k == e.1 then (k,v)::es else e::Ol k v es
def Mm (k:Int):List (Int × Value)→List (Int × Value)
 | []=>[]
 | e::es=>if k == e.1 then es else e::Mm k es
section
variable {ρ:Type}
def rp (op:BinOp) (k:IntKind) (a b:Int) (K:Value→Option ρ):Option ρ:=
 match op with
 | .add=>K (.int k (k.wrap (a+b)))
 | .sub=>K (.int k (k.wrap (a-b)))
 | .mul=>K (.int k (k.wrap (a*b)))
 | .quo=>if b=0 then none else K (.int k (k.wrap (a.tdiv b)))
 | .rem=>if b=0 then none else K (.int k (a.tmod b))
 | .and=>K (.int k (k.wrap (BitVec.ofInt k.bits a &&& BitVec.ofInt k.bits b).toNat))
 | .or=>K (.int k (k.wrap (BitVec.ofInt k.bits a ||| BitVec.ofInt k.bits b).toNat))
 | .xor=>K (.int k (k.wrap (BitVec.ofInt k.bits a ^^^ BitVec.ofInt k.bits b).toNat))
 | .andNot=>K (.int k (k.wrap (BitVec.ofInt k.bits a &&& ~~~ (BitVec.ofInt k.bits b)).toNat))
 | .eql=>K (.bool (a == b))
 | .neq=>K (.bool (a != b))
 | .lss=>K (.bool (decide (a<b)))
 | .leq=>K (.bool (decide (a≤b)))
 | .gtr=>K (.bool (decide (a>b)))
 | .geq=>K (.bool (decide (a≥b)))
 | .shl | .shr=>none
def fY (op:BinOp) (k:IntKind) (a b:Int) (K:Value→Option ρ):Option ρ:=
 if b<0 then none else
 match op with
 | .shl=>K (.int k (k.wrap (a*2 ^ (min b.toNat k.bits))))
 | .shr=>K (.int k (a.fdiv (2 ^ (min b.toNat k.bits))))
 | _=>none
def jH (P:Program) (T:TypeId) (a b:Value):Option Bool:=
 match P.underlying T,a,b with
 | some (.int _),.int k x,.int k' y=>if k=k' then some (x == y) else none
 | some .bool,.bool x,.bool y=>some (x == y)
 | some .string,.string x,.string y=>some (x == y)
 | _,_,_=>none
def aG (P:Program):List Field→List Value→List Value→Option Bool
 | [],[],[]=>some true
 | [f],[a],[b]=>jH P f.type a b
 | f::fs,a::as,b::bs=>(jH P f.type a b).bind fun t=>bif t then aG P fs as bs else some false
 | _,_,_=>none
def UA (P:Program):Nat→List Field→Bool
 | _,[]=>true
 | i,f::fs=>f.name != "_" && f.offset == i && !Lr P f.type && UA P (i+1) fs
def Vi (P:Program) (T:TypeId) (a b:Value):Option Bool:=
 match a,b with
 | .bool x,.bool y=>(match P.underlying T with | some .bool=>some (x == y) | _=>none)
 | .pointer none,.pointer y=>(match P.underlying T with | some (.pointer _)=>some y.isNone | _=>none)
 | .pointer x,.pointer none=>(match P.underlying T with | some (.pointer _)=>some x.isNone | _=>none)
 | .slice none _ _,.slice y _ _=>(match P.underlying T with | some (.slice _)=>some y.isNone | _=>none)
 | .slice x _ _,.slice none _ _=>(match P.underlying T with | some (.slice _)=>some x.isNone | _=>none)
 | .agg xs,.agg ys=>(match P.underlying T with
   | some (.struct fs)=>bif UA P 0 fs.toList && !P.stoodInHeld T && !P.eqGuardType P.depth T then aG P fs.toList xs.toList ys.toList else none
   | _=>none)
 | _,_=>none
def rm (P:Program) (op:BinOp) (T:TypeId) (x y:Value) (K:Value→Option ρ):Option ρ:=
 match x,y with
 | .int k a,.int k' b=>match op with
   | .shl=>fY .shl k a b K
   | .shr=>fY .shr k a b K
   | _=>if k=k' then rp op k a b K else none
 | x,y=>match op with
   | .eql=>(Vi P T x y).bind fun t=>K (.bool t)
   | .neq=>(Vi P T x y).bind fun t=>K (.bool (!t))
   | _=>none
def tw (op:UnOp) (x:Value) (K:Value→Option ρ):Option ρ:=
 match op,x with
 | .not,.bool b=>K (.bool !b)
 | .neg,.int k n=>K (.int k (k.wrap (0-n)))
 | _,_=>none
def Xm (P:Program) (T:TypeId) (f:Nat):Option (Nat × TypeId):=
 match P.underlying T with
 | some (.struct fs)=>match fs.toList[f]? with
   | some x=>some (x.offset,x.type)
   | none=>none
 | _=>none
def m7 (P:Program) (T:TypeId):Bool:=
 match P.underlying T with
 | some (.int .i64)=>true
 | _=>false
def IW (P:Program) (T:TypeId):Option Nat:=(P.info? T).map (·.size)
def bytesOf (P:Program) (T:TypeId):Option Nat:=(P.info? T).map (·.bytes)
def elemAt (σ:Aa) (b:Nat):Option TypeId:=
 match σ[b]? with
 | some (.cells _ T _)=>some T
 | _=>none
def Rf (P:Program) (T:TypeId):Option TypeId:=
 match P.underlying T with
 | some (.slice e)=>some e
 | _=>none
def gy (P:Program) (T:TypeId):Option (Nat × TypeId):=
 match P.underlying T with
 | some (.array n e)=>some (n,e)
 | _=>none
def GL (P:Program) (T:TypeId):Option Value:=(P.info? T).bind fun i=>i.zero.bind fun z=>if Iu z then some z else none
def rep (n:Nat) (z:List Value):List Value:=(List.replicate n z).flatten
def bound (x:Option Value) (dflt top:Nat) (K:Nat→Option ρ):Option ρ:=
 match x with
 | none=>K dflt
 | some (.int _ i)=>if 0≤i∧i≤top then K i.toNat else none
 | some _=>none
def bH (P:Program) (T:TypeId):List (Nat × Value)→List Value→Option (List Value)
 | [],cs=>some cs
 | (i,v)::ps,cs=>match Xm P T i with
   | some (o,t)=>if IW P t=some v.cells.size∧o+v.cells.size≤cs.length∧J5 v=false then bH P T ps (AE cs o v.cells.toList) else none
   | none=>none
def Yq (s:Nat):List (Nat × Value)→List Value→Option (List Value)
 | [],cs=>some cs
 | (i,v)::ps,cs=>if v.cells.size=s∧i*s+v.cells.size≤cs.length∧J5 v=false then Yq s ps (AE cs (i*s) v.cells.toList) else none
def p9 (e:Operand→Option Value):List Operand→(List Value→Option ρ)→Option ρ
 | [],K=>K []
 | x::xs,K=>(e x).bind fun v=>p9 e xs fun vs=>K (v::vs)
def qS (e:Operand→Option Value):List (Nat × Operand)→(List (Nat × Value)→Option ρ)→Option ρ
 | [],K=>K []
 | (i,x)::xs,K=>(e x).bind fun v=>qS e xs fun vs=>K ((i,v)::vs)
def qR (e:Operand→Option Value) (x:Option Operand) (K:Option Value→Option ρ):Option ρ:=
 match x with
 | none=>K none
 | some x=>(e x).bind fun v=>K (some v)
def Tu (n bytes:Nat):Prop:=n*bytes≤2 ^ 40∧n≤2 ^ 40
instance (n bytes:Nat):Decidable (Tu n bytes):=inferInstanceAs (Decidable (_∧_))
def GI (σ:Aa) (s:Nat) (x:Option Addr) (n:Nat):Option (List Value):=
 match x with
 | some a=>VV σ a.block a.off (n*s)
 | none=>if n=0 then some [] else none
def Mg (a:Option Addr):Bool:=
 match a with
 | none=>true
 | some a=>a.spot.isSome
def Vg (P:Program) (E:TypeId) (dst src:Option Addr × Nat × Nat) (σ:Aa) (K:Value→Aa→Option ρ):Option ρ:=
 (IW P E).bind fun s=>(bytesOf P E).bind fun by_=>
 (GI σ s src.1 src.2.1).bind fun new=>(GL P E).bind fun z=>
 if ¬ (J5 z=false∧IW P E=some z.cells.size∧0<z.cells.size) then none else
 if dst.2.1+src.2.1≤dst.2.2 then
  bif Mg dst.1 then (if dst.2.1+src.2.1=0 then K (.slice dst.1 0 0) σ else none)
  else dst.1.bind fun a=>(Ki σ a.block (a.off+dst.2.1*s) new).bind fun σ'=>K (.slice (some a) (dst.2.1+src.2.1) dst.2.2) σ'
 else if Tu (dst.2.1+src.2.1) by_∧0<by_ then
  bif Mg dst.1 then (if dst.2.1=0 then K (.slice (some ⟨σ.length,0,none⟩) src.2.1 src.2.1) (σ++[Bi.cells new E true]) else none)
  else dst.1.bind fun a=>if elemAt σ a.block=some E then (VV σ a.block a.off (dst.2.1*s)).bind fun old=>
    bif KW σ a.block then K (.slice (some ⟨σ.length,0,none⟩) (dst.2.1+src.2.1) (dst.2.1+src.2.1)) (σ.set a.block .dead++[Bi.cells (old++new) E true])
    else none else none
 else none
abbrev E8:=Option Addr × Nat × Nat
def qX (v:Value) (σ:Aa):Option (E8 × Aa):=
 match v with
 | .slice a l c=>some ((a,l,c),σ)
 | _=>none
def Bv (P:Program) (E:TypeId) (dst src:E8) (σ:Aa):Option (E8 × Aa):=Vg P E dst src σ qX
def KL (E:TypeId) (s:Nat) (v:E8) (lo hi mx:Option Value) (σ:Aa):Option E8:=
 bif !mx.isSome || hi.isSome then bound mx v.2.2 v.2.2 fun m=>bound hi v.2.1 m fun h=>bound lo 0 h fun l=>
  if m=l then (match v.1 with
   | none=>some (none,0,0)
   | some a=>bif mx.isSome then some (some ⟨a.block,a.off,some 0⟩,0,0) else if elemAt σ a.block=some E then some (some a,0,0) else none)
  else v.1.bind fun a=>if elemAt σ a.block=some E then some (some ⟨a.block,a.off+l*s,none⟩,h-l,m-l) else none
 else none
def tt (σ:Aa) (a:Option Addr) (vs:List Value):Option Aa:=
 match a with
 | some a=>Ki σ a.block a.off vs
 | none=>some σ
def fu (σ:Aa) (r:Option Nat):Option (List (Int × Value)):=
 match r with
 | none=>some []
 | some r=>TJ σ r
def iX (σ:Aa) (r:Option Nat) (es:List (Int × Value)):Aa:=
 match r with
 | none=>σ
 | some r=>σ.set r (.map es)
def oz (P:Program) (T:TypeId):Kd:=
 match P.underlying T with
 | some t=>o6 t
 | none=>.any
def sY (P:Program) (T:TypeId) (v:Value) (K:Value→Option ρ):Option ρ:=
 match P.underlying T with
 | some (.struct _)=>(sf v).bind fun l=>if l.length=(flat P 10 T).length then fe (flat P 10 T) l fun vs=>K (.agg vs.toArray) else none
 | some (.array _ _)=>none
 | some t=>sb (o6 t) v K
 | none=>none
def lV (P:Program):List TypeId→List Value→(List Value→Option ρ)→Option ρ
 | [],_,K=>K []
 | T::Ts,l,K=>l.head?.bind fun v=>sY P T v fun v=>lV P Ts l.tail fun vs=>K (v::vs)
def nI (P:Program) (T:TypeId) (v:Value) (K:Value→Option ρ):Option ρ:=
 match (P.info? T).map (·.desc) with
 | some (TypeDesc.tuple ts)=>(Zq v).bind fun l=>if l.length=ts.toList.length then lV P ts.toList l fun vs=>K (.tuple vs.toArray) else none
 | _=>sY P T v K
end
abbrev Ho:=FuncId→List Value→Aa→Option (Value × Aa)
def Tk (P:Program) (t:TypeId) (nm:String):Option FuncId:=
 match P.info? t with
 | none=>none
 | some i=>match i.methods.find? (·.name == nm) with
   | none=>none
   | some m=>match m.path.toList,m.func,P.underlying t with
     | [],some (f,false),some (.struct _)=>some f
     | [],some (f,true),some (.pointer _)=>some f
     | _,_,_=>none
def O2 (P:Program) (call:Ho) (f:Value) (vs:List Value) (σ:Aa):Option (Value × Aa):=
 match f with
 | .func (.func f) first cap=>call f (first.toList++vs++cap.toList) σ
 | .func (.method nm) first _=>(match first.toList++vs with
   | .iface t v::rest=>(Tk P t nm).bind fun f=>call f (v::rest) σ
   | _=>none)
 | _=>none
class AF where
 q:Aa→Aa→Bool
 ok:∀ {σ σ':Aa},q σ σ'=true→σ <+: σ'
 k:Aa→Aa→Nat→Bool
 kok:∀ {σ σ':Aa} {h:Nat},k σ σ' h=true→σ'[h]?=σ[h]?
def Vs [AF] {ρ:Type} (σ σ':Aa) (m:Option ρ):Option ρ:=bif AF.q σ σ' then m else none
def Q0 [AF] {ρ:Type} (a:Option Addr) (σ σ':Aa) (m:Option ρ):Option ρ:=
 match a with
 | some a=>bif AF.k σ σ' a.block then m else none
 | none=>m
def OY [AF] {ρ:Type} (b:Bool) (σ σ':Aa) (m:Option ρ):Option ρ:=bif b then Vs σ σ' m else m
section
variable {ρ:Type}
def rF (P:Program) (ts:List TypeId) (vs:List Value) (σ:Aa) (K:Value→Aa→Option ρ):Option ρ:=
 match ts,vs with
 | [t],[v]=>(match P.underlying t,v with
   | some (.slice _),.slice _ n _=>K (.int .i64 n) σ
   | some .string,.string s=>K (.int .i64 s.size) σ
   | some (.map _ _),.map r=>(fu σ r).bind fun es=>K (.int .i64 es.length) σ
   | _,_=>none)
 | _,_=>none
def sJ (vs:List Value) (σ:Aa) (K:Value→Aa→Option ρ):Option ρ:=
 match vs with
 | [.int k x,.int k' y]=>if k=k' then K (.int k (if y<x then y else x)) σ else none
 | _=>none
def sI (vs:List Value) (σ:Aa) (K:Value→Aa→Option ρ):Option ρ:=
 match vs with
 | [.int k x,.int k' y]=>if k=k' then K (.int k (if y>x then y else x)) σ else none
 | _=>none
def kS [AF] (P:Program) (q:Bool) (ts:List TypeId) (vs:List Value) (σ:Aa) (K:Value→Aa→Option ρ):Option ρ:=
 match ts,vs with
 | [t,t'],[.slice a l c,.slice a' l' c']=>match P.underlying t' with
   | some (.slice _)=>(Rf P t).bind fun E=>(Bv P E (a,l,c) (a',l',c') σ).bind fun r=>OY q σ r.2 (K (.slice r.1.1 r.1.2.1 r.1.2.2) r.2)
   | _=>none
 | _,_=>none
def qQ (P:Program) (ts:List TypeId) (vs:List Value) (σ:Aa) (K:Value→Aa→Option ρ):Option ρ:=
 match ts,vs with
 | [t,_],[.slice a l _,.slice a' l' _]=>(Rf P t).bind fun E=>(IW P E).bind fun s=>
   (GI σ s a' (Nat.min l' l)).bind fun vs=>
   (tt σ a vs).bind fun σ'=>K (.int .i64 (Nat.min l' l:Nat)) σ'
 | _,_=>none
def nP (P:Program) (ts:List TypeId) (vs:List Value) (σ:Aa) (K:Value→Aa→Option ρ):Option ρ:=
 match ts,vs with
 | [t],[v]=>(match P.underlying t,v with
   | some (.map _ _),.map r=>(fu σ r).bind fun _=>K (.tuple #[]) (iX σ r [])
   | some (.slice E),.slice a l _=>
     (GL P E).bind fun z=>if J5 z=false∧0<z.cells.size then (if l=0 then some σ else a.bind fun a=>Ki σ a.block a.off (rep l z.cells.toList)).bind fun σ'=>K (.tuple #[]) σ' else none
   | _,_=>none)
 | _,_=>none
def kZ (P:Program) (ts:List TypeId) (vs:List Value) (σ:Aa) (K:Value→Aa→Option ρ):Option ρ:=
 match ts,vs with
 | [t,_],[.map r,.int .i64 k]=>(match P.underlying t,r with
   | some (.map kt _),r=>if m7 P kt then (fu σ r).bind fun es=>K (.tuple #[]) (iX σ r (Mm k es)) else none
   | _,_=>none)
 | _,_=>none
def Qj [AF] (P:Program) (q:Bool) (b:Builtin) (ts:List TypeId) (vs:List Value) (σ:Aa) (K:Value→Aa→Option ρ):Option ρ:=
 match b with
 | .len=>rF P ts vs σ K
 | .min=>sJ vs σ K
 | .max=>sI vs σ K
 | .append=>kS P q ts vs σ K
 | .copy=>qQ P ts vs σ K
 | .clear=>nP P ts vs σ K
 | .delete=>kZ P ts vs σ K
 | _=>none
inductive si where
 | pure | ld | al | lo
 deriving DecidableEq
def cM:Builtin→Bool→si
 | .len,true=>.ld
 | .len,false=>.pure
 | .min,_ | .max,_=>.pure
 | _,_=>.lo
def UK (P:Program) (ts:List TypeId):Bool:=
 match ts with
 | t::_=>(match P.underlying t with | some (.map _ _)=>true | _=>false)
 | []=>false
def Io (P:Program) (o:Oper):si:=
 match o.op with
 | .load .. | .lookup .. | .slice ..=>.ld
 | .box .. | .alloc .. | .buildSlice .. | .makeMap .. | .makeSlice ..=>.al
 | .store .. | .mapUpdate ..=>.lo
 | .call c=>match c.callee with
   | .builtin b=>cM b (UK P c.argTypes.toList)
   | _=>.al
 | _=>.pure
def Yz (P:Program) (S:FuncId→Bool) (o:Oper):Bool:=
 match o.op with
 | .call c=>match c.callee with
   | .value (.func f)=>S f
   | .builtin _=>(match Io P o with | .lo=>false | _=>true)
   | _=>false
 | _=>(match Io P o with | .lo=>false | _=>true)
def QT (P:Program) (S:FuncId→Bool):Code→Bool
 | .skip=>true
 | .region _ ops _=>ops.toList.all (Yz P S)
 | .seq a b=>QT P S a && QT P S b
 | .cond _ a b=>QT P S a && QT P S b
 | .block _ c=>QT P S c
 | .loop c=>QT P S c
 | .exit _=>true
 | .ret=>true
 | _=>false
def kQ (P:Program):Nat→FuncId→Bool
 | 0,_=>false
 | d+1,f=>match P.funcs[f]? with
   | some F=>match F.body with
     | some c=>QT P (kQ P d) c
     | none=>false
   | none=>false
def gH (P:Program) (f:FuncId):Bool:=kQ P 6 f
def kX (P:Program) (v:Value):Bool:=
 match v with
 | .func (.func f) _ _=>gH P f
 | _=>false
def oI (v:Value) (K:Value→Option ρ):Option ρ:=
 match v with
 | .pointer a=>a.bind fun a=>K (.pointer (some a))
 | .func (.func f) first cap=>K (.func (.func f) first cap)
 | .iface t u=>K (.iface t u)
 | _=>none
def Lg [AF] (P:Program) (call:Ho) (quiet:Bool) (o:Op) (ty:TypeId) (e:Operand→Option Value) (σ:Aa) (K:Value→Aa→Option ρ):Option ρ:=
 match o with
 | .move x | .assign x=>(e x).bind fun v=>K v σ
 | .pick c a b=>(e c).bind fun c=>match c with
   | .bool true=>(e a).bind fun v=>K v σ
   | .bool false=>(e b).bind fun v=>K v σ
   | _=>none
 | .box T x=>(e x).bind fun v=>bif J5 v then none else K (.pointer (some ⟨σ.length,0,none⟩)) (σ++[.cells v.cells.toList T true])
 | .alloc T=>(GL P T).bind fun z=>if J5 z=false then K (.pointer (some ⟨σ.length,0,none⟩)) (σ++[.cells z.cells.toList T true]) else none
 | .build T parts=>(GL P T).bind fun z=>qS e parts.toList fun ps=>match P.underlying T with
   | some (.struct fs)=>if (fs.toList.all fun f=>(P.info? f.type).isSome)=true∧J5 z=false then (bH P T ps z.cells.toList).bind fun cs=>K (.agg cs.toArray) σ else none
   | some (.array _ E)=>(IW P E).bind fun s=>if J5 z=false then (Yq s ps z.cells.toList).bind fun cs=>K (.agg cs.toArray) σ else none
   | _=>none
 | .buildSlice T n parts=>(Rf P T).bind fun E=>bif n == 0 then (bif parts.toList.isEmpty then (IW P E).bind fun _=>K (.slice (some ⟨σ.length,0,some 0⟩) 0 0) (σ++[.cells [] E true]) else none) else (GL P E).bind fun z=>qS e parts.toList fun ps=>
   if IW P E=some z.cells.size∧0<n∧0<z.cells.size∧n*z.cells.size≤2 ^ 24∧J5 z=false then
    (Yq z.cells.size ps (rep n z.cells.toList)).bind fun cs=>
     K (.slice (some ⟨σ.length,0,none⟩) n n) (σ++[.cells cs E true])
   else none
 | .load T x=>(e x).bind fun v=>match v with
   | .pointer a=>a.bind fun a=>
     bif Lr P T then (if IW P T=some (flat P 10 T).length then bm (flat P 10 T) σ a.block a.off fun vs=>K (.agg vs.toArray) σ else none)
     else (P.underlying T).bind fun _=>pA (oz P T) σ a.block a.off fun v=>K v σ
   | _=>none
 | .store T x y=>(e x).bind fun v=>(e y).bind fun u=>match v with
   | .pointer a=>a.bind fun a=>match u with
     | .agg vs=>if IW P T=some vs.size then (Ki σ a.block a.off vs.toList).bind fun σ'=>K undef σ' else none
     | .tuple _=>none
     | u=>if IW P T=some 1 then (G0 σ a.block a.off u).bind fun σ'=>K undef σ' else none
   | _=>none
 | .nilCheck x=>(e x).bind fun v=>oI v fun v=>K v σ
 | .binOp op T x y _=>(e x).bind fun a=>(e y).bind fun b=>rm P op T a b fun v=>K v σ
 | .unOp op _ x=>(e x).bind fun a=>tw op a fun v=>K v σ
 | .convert s d x=>(e x).bind fun v=>match P.underlying s,P.underlying d,v with
   | some (.int _),some (.int k),.int _ n=>K (.int k (k.wrap n)) σ
   | _,_,_=>none
 | .makeInterface T x=>(e x).bind fun v=>match P.underlying T with
   | some (.interface _)=>none
   | some _=>K (.iface T v) σ
   | none=>none
 | .makeFunc fn first cap=>p9 e first.toList fun vs=>p9 e cap.toList fun us=>K (.func fn vs.toArray us.toArray) σ
 | .makeMap _ none=>K (.map (some σ.length)) (σ++[.map []])
 | .makeSlice T l c=>(Rf P T).bind fun E=>(e l).bind fun l=>(e c).bind fun c=>match l,c with
   | .int .i64 l,.int .i64 c=>(bytesOf P E).bind fun by_=>if 0≤l∧l≤c∧c*by_≤2 ^ 40∧c≤2 ^ 40 then
     (GL P E).bind fun z=>if IW P E=some z.cells.size∧0<z.cells.size∧J5 z=false then K (.slice (some ⟨σ.length,0,none⟩) l.toNat c.toNat) (σ++[.cells (rep c.toNat z.cells.toList) E true]) else none
     else none
   | _,_=>none
 | .slice T x lo hi mx=>(Rf P T).bind fun E=>(IW P E).bind fun s=>(e x).bind fun v=>qR e lo fun lo=>qR e hi fun hi=>qR e mx fun mx=>match v with
   | .slice a len cap=>(KL E s (a,len,cap) lo hi mx σ).bind fun r=>K (.slice r.1 r.2.1 r.2.2) σ
   | _=>none
 | .fieldAddr T x f=>(Xm P T f).bind fun ot=>(e x).bind fun v=>match v with
   | .pointer a=>a.bind fun a=>(IW P ot.2).bind fun s=>if s=0 then none else K (.pointer (some ⟨a.block,a.off+ot.1,none⟩)) σ
   | _=>none
 | .field T x f=>(Xm P T f).bind fun ot=>(e x).bind fun v=>match v with
   | .agg vs=>bif Lr P ot.2 then (IW P ot.2).bind fun s=>K (.agg ((vs.toList.drop ot.1).take s).toArray) σ
     else (P.underlying ot.2).bind fun _=>(vs.toList[ot.1]?).bind fun v=>K v σ
   | _=>none
 | .indexAddr T x i=>match gy P T with
   | some (len,E)=>(IW P E).bind fun s=>(e x).bind fun v=>(e i).bind fun i=>match v,i with
     | .pointer a,.int _ n=>a.bind fun a=>if 0≤n∧n<len then K (.pointer (some ⟨a.block,a.off+n.toNat*s,none⟩)) σ else none
     | _,_=>none
   | none=>(Rf P T).bind fun E=>(IW P E).bind fun s=>(e x).bind fun v=>(e i).bind fun i=>match v,i with
     | .slice a len _,.int _ n=>if 0≤n∧n<len then a.bind fun a=>K (.pointer (some ⟨a.block,a.off+n.toNat*s,none⟩)) σ else none
     | _,_=>none
 | .index T x i=>(gy P T).bind fun le=>(e x).bind fun v=>(e i).bind fun i=>match v,i with
   | .agg vs,.int _ n=>bif Lr P le.2 then none else if 0≤n∧n<le.1 then (P.underlying le.2).bind fun _=>(IW P le.2).bind fun s=>(vs.toList[n.toNat*s]?).bind fun v=>sb (oz P le.2) v fun v=>K v σ else none
   | _,_=>none
 | .lookup T m i ok=>(e m).bind fun m=>(e i).bind fun i=>match P.underlying T,m,i with
   | some (.map kt E),.map r,.int .i64 k=>if m7 P kt then
     (fu σ r).bind fun es=>(GL P E).bind fun z=>
      sb (oz P E) ((Pp es k).getD z) fun v=>K (bif ok then .tuple #[v,.bool (Pp es k).isSome] else v) σ else none
   | _,_,_=>none
 | .mapUpdate T m k v=>(e m).bind fun m=>(e k).bind fun k=>(e v).bind fun v=>match P.underlying T,m,k with
   | some (.map kt _),.map r,.int .i64 k=>if m7 P kt then r.bind fun r=>(TJ σ r).bind fun es=>K undef (σ.set r (.map (Ol k v es))) else none
   | _,_,_=>none
 | .extract t i=>(e t).bind fun v=>match v with
   | .tuple vs=>(vs.toList[i]?).bind fun v=>K v σ
   | _=>none
 | .call c=>match c.callee with
   | .builtin b=>p9 e c.args.toList fun vs=>Qj P quiet b c.argTypes.toList vs σ K
   | .value f=>(e f).bind fun fv=>p9 e c.args.toList fun vs=>(O2 P call fv vs σ).bind fun p=>
      OY (quiet && !kX P fv) σ p.2 (nI P ty p.1 fun v=>K v p.2)
   | .invoke _ _=>none
 | _=>none
end
def gn (regs:B4):Operand→Option Value
 | .tmp t=>regs.getD t none
 | .const v=>if Iu v then some v else none
 | .func f=>some (.func (.func f) #[] #[])
 | .global _=>none
def LL (regs:B4) (d:Option Nat) (v:Option Value):B4:=
 match d with
 | some d=>regs.set d v
 | none=>regs
def Sn (all:List Oper) (j:Nat):Option Nat:=(all[j]?).bind (·.dst)
def P9 (all:List Oper) (regs:B4) (j:Nat):Option Value:=
 match Sn all j with
 | some d=>regs.getD d none
 | none=>none
def oy (dj:Option Nat) (known:List (Nat × Bool)) (o:Oper):Bool:=
 match o.op with
 | .pick (.tmp c) _ _=>some c == dj && (match o.guard with | none=>true | some g=>known.contains g)
 | _=>false
def SG (dj:Option Nat) (known:List (Nat × Bool)):List (Nat × Oper)→Option (List (Nat × Oper) × (Nat × Oper) × List (Nat × Oper))
 | []=>none
 | io::rest=>bif oy dj known io.2 then some ([],io,rest) else (SG dj known rest).map fun x=>(io::x.1,x.2.1,x.2.2)
def tG {α:Type} (want b:Bool) (x y:α):α:=
 match want with
 | true=>bif b then x else y
 | false=>bif b then y else x
def O6 (regs:B4):List (Nat × Oper)→B4
 | []=>regs
 | io::rest=>O6 (LL regs io.2.dst none) rest
def T3 (all:List Oper):List (Nat × Oper)→B4→Option B4
 | [],regs=>some regs
 | io::rest,regs=>match io.2.guard with
   | none=>none
   | some (j,want)=>match P9 all regs j with
     | some (.bool b)=>bif b == want then none else T3 all rest (LL regs io.2.dst (some undef))
     | some (.tuple vs)=>bif vs.toList.isEmpty then T3 all rest (LL regs io.2.dst (some undef)) else none
     | _=>none
abbrev QF:=Bool × List Nat
def W8 [AF] {ρ:Type}:List Nat→B4→Aa→Aa→Option ρ→Option ρ
 | [],_,_,_,m=>m
 | t::ts,regs,σ,σ',m=>match regs.getD t none with
   | some (.pointer a)=>Q0 a σ σ' (W8 ts regs σ σ' m)
   | _=>none
def Lt [AF] (P:Program) (call:Ho) (qf:Nat→QF) (all:List Oper):Nat→(ρ:Type)→List (Nat × Bool)→List (Nat × Oper)→B4→Aa→(B4→Aa→Option ρ)→Option ρ
 | 0,_,_,_,_,_,_=>none
 | fuel+1,ρ,known,ops,regs,σ,K=>match ops with
   | []=>K regs σ
   | io::rest=>match io.2.guard with
     | none=>Lg P call (qf io.1).1 io.2.op io.2.type (gn regs) σ fun v σ'=>W8 (qf io.1).2 regs σ σ' (Lt P call qf all fuel ρ known rest (LL regs io.2.dst (some v)) σ' K)
     | some (j,want)=>
       bif known.contains (j,want) then
        match P9 all regs j with
        | some (.bool b)=>bif b == want then Lg P call (qf io.1).1 io.2.op io.2.type (gn regs) σ fun v σ'=>W8 (qf io.1).2 regs σ σ' (Lt P call qf all fuel ρ known rest (LL regs io.2.dst (some v)) σ' K) else none
        | _=>none
       else match SG (Sn all j) known rest with
        | none=>none
        | some (body,p,after)=>match P9 all regs j with
          | some (.bool b)=>
            (tG want b
              (Lt P call qf all fuel (Bool × Aa) ((j,want)::known) (io::(body++[p])) (LL regs (Sn all j) (some (.bool want))) σ
               (fun regs' σ'=>((p.2.dst.bind fun d=>regs'.getD d none).bind DF).bind fun r=>some (r,σ')))
             ((T3 all (io::body) (LL regs (Sn all j) (some (.bool !want)))).bind fun regs'=>
               Lt P call qf all fuel (Bool × Aa) known [p] regs' σ
                (fun regs' σ'=>((p.2.dst.bind fun d=>regs'.getD d none).bind DF).bind fun r=>some (r,σ')))).bind fun rσ=>
            Lt P call qf all fuel ρ known after (LL (O6 regs (io::body)) p.2.dst (some (.bool rσ.1))) rσ.2 K
          | _=>none
inductive Bm where
 | normal | exit (id:Nat) | ret
 deriving DecidableEq,Inhabited
structure Hint where
 live:List Nat
 exits:List (Bm × List (Nat × Kd))
 deriving Inhabited
abbrev Hints:=List (Nat × Hint)
def Te:Code→Nat
 | .region id _ _=>id
 | .seq a _=>Te a
 | .block _ b=>Te b
 | .loop b=>Te b
 | .scope b=>Te b
 | .cond _ a _=>Te a
 | _=>0
def Hints.at (H:Hints) (id:Nat):Option Hint:=H.lookup id
abbrev Ay:=Bm × List Value × Aa
def Q3 (live:List Nat):Nat→B4→B4
 | _,[]=>[]
 | i,r::rs=>(if live.contains i then r else none)::Q3 live (i+1) rs
def bA (live:List Nat) (regs:B4):B4:=Q3 live 0 regs
def bG (regs:B4):List (Nat × Kd)→(List Value→Option Ay)→Option Ay
 | [],K=>K []
 | (t,_)::os,K=>(regs.getD t none).bind fun v=>bG regs os fun vs=>K (v::vs)
def fF (x:Bm):List (Bm × List (Nat × Kd))→Option (List (Nat × Kd))
 | []=>none
 | e::es=>if x=e.1 then some e.2 else fF x es
def pack (exits:List (Bm × List (Nat × Kd))) (x:Bm) (regs:B4) (σ:Aa):Option Ay:=
 (fF x exits).bind fun outs=>bG regs outs fun vs=>some (x,vs,σ)
def YF {ρ:Type} (x:Bm) (K:Bm→List (Nat × Kd)→Option ρ):List (Bm × List (Nat × Kd))→Option ρ
 | []=>none
 | e::es=>if x=e.1 then K e.1 e.2 else YF x K es
def YC:List (Nat × Kd)→List Value→B4→B4
 | (t,_)::os,v::vs,regs=>YC os vs (regs.set t (some v))
 | _,_,regs=>regs
def ZF:List Oper→List Nat
 | []=>[]
 | o::os=>o.dst.toList++ZF os
def QP:Code→List Nat
 | .region _ ops _=>ZF ops.toList
 | .seq a b=>QP a++QP b
 | .cond _ a b=>QP a++QP b
 | .block _ b=>QP b
 | .loop b=>QP b
 | .scope b=>QP b
 | _=>[]
def forget (c:Code) (regs:B4):B4:=go (QP c) regs
where
 go:List Nat→B4→B4
  | [],regs=>regs
  | t::ts,regs=>go ts (regs.set t none)
def unpack {ρ:Type} (h:Hint) (c:Code) (regs:B4) (r:Ay) (K:Bm→B4→Aa→Option ρ):Option ρ:=
 YF r.1 (fun x outs=>fe (outs.map (·.2)) r.2.1 fun vs=>K x (YC outs vs (forget c regs)) r.2.2) h.exits
def Zb (B:B4→Aa→(Bm→B4→Aa→Option Ay)→Option Ay) (h:Hint):Nat→B4→Aa→Option Ay
 | 0,_,_=>none
 | n+1,regs,σ=>B regs σ fun x regs' σ'=>match x with
   | .normal=>Zb B h n (bA h.live regs') σ'
   | x=>pack h.exits x regs' σ'
def bz (acc:List Nat) (o:Oper):Nat:=(o.after.toList.filter (Region.binds .any)).foldl (fun s e=>s ||| 2 ^ e.on ||| acc.getD e.on 0) 0
def Oi:List Oper→List Nat→List Nat
 | [],acc=>acc
 | o::os,acc=>Oi os (acc++[bz acc o])
def ordered (b:List Nat) (i j:Nat):Bool:=(b.getD i 0).testBit j || (b.getD j 0).testBit i
def PJ (o:Oper):Bool:=
 match o.op with
 | .call c=>(match c.callee with | .builtin _=>false | _=>true)
 | _=>false
def isApp (o:Oper):Bool:=
 match o.op with
 | .call c=>(match c.callee with | .builtin .append=>true | _=>false)
 | _=>false
def eh (ops:List Oper):Nat→Nat→Nat→Option Nat
 | 0,_,_=>none
 | n+1,a,j=>match ops.zipIdx.filter fun p=>p.1.dst == some a with
   | []=>some a
   | [p]=>bif Nat.blt p.2 j then (match p.1.op with
     | .fieldAddr _ (.tmp b) _=>eh ops n b p.2
     | _=>none) else none
   | _=>none
def LP (ops:List Oper) (j:Nat):Option Nat:=
 match ops[j]? with
 | some o=>(match o.op with
   | .load _ (.tmp a)=>eh ops 8 a j
   | _=>none)
 | none=>none
def loose (P:Program) (ops:List Oper) (i:Nat):List (Oper × Nat):=ops.zipIdx.filter fun x=>!(i == x.2 || Io P x.1 == .pure || ordered (Oi ops []) i x.2)
def su (P:Program) (o:Oper):Bool:=
 match o.op with
 | .call c=>(match c.callee with | .value (.func f)=>gH P f | _=>false)
 | _=>false
def Q5 (P:Program) (ops:List Oper) (draw:Bool) (i:Nat):QF:=
 bif draw then (match ops[i]? with
  | some o=>bif PJ o || isApp o then (bif (loose P ops i).isEmpty then (false,[]) else
    bif PJ o && !su P o && (loose P ops i).all (fun x=>(LP ops x.2).isSome) then (false,(loose P ops i).filterMap fun x=>LP ops x.2) else (true,[]))
    else (false,[])
  | none=>(false,[])) else (false,[])
def ID (P:Program) (ops:List Oper) (qf:Nat→QF) (i:Nat):si:=
 match ops[i]? with
 | some o=>bif PJ o && !(qf i).1 then .lo else bif isApp o && (qf i).1 then .al else Io P o
 | none=>.pure
def dm (ops:List Oper) (qf:Nat→QF) (i j:Nat):Bool:=
 match LP ops j with
 | some t=>(qf i).2.contains t
 | none=>false
def ke (ops:List Oper) (o:Oper):List Nat:=
 (o.op.operands.toList.filterMap fun | .tmp t=>some t | _=>none)++(match o.guard with | some (g,_)=>(Sn ops g).toList | none=>[])
def Wr (P:Program) (ops:List Oper) (qf:Nat→QF):Bool:=
 let b:=Oi ops []
 ops.zipIdx.all fun x=>
  (x.1.after.toList.all fun e=>!Region.binds .any e || Nat.blt e.on x.2) &&
  ops.zipIdx.all fun y=>x.2 == y.2 ||
   ((match x.1.dst with | some t=>(!(ke ops y.1).contains t && y.1.dst != some t) || ordered b x.2 y.2 | none=>true) &&
    ((ID P ops qf x.2 != .lo || ID P ops qf y.2 == .pure) || ordered b x.2 y.2 || dm ops qf x.2 y.2))
def exec [AF] (P:Program) (call:Ho) (H:Hints) (n:Nat):Code→(ρ:Type)→B4→Aa→(Bm→B4→Aa→Option ρ)→Option ρ
 | .skip,_,regs,σ,K=>K .normal regs σ
 | .region _ ops draw,_,regs,σ,K=>bif draw && !Wr P ops.toList (Q5 P ops.toList draw) then none else
   Lt P call (Q5 P ops.toList draw) ops.toList (2*ops.toList.length+1) _ [] (ops.toList.zipIdx.map fun x=>(x.2,x.1)) regs σ fun regs σ=>K .normal regs σ
 | .seq a b,ρ,regs,σ,K=>exec P call H n a ρ regs σ fun x regs σ=>match x with
   | .normal=>exec P call H n b ρ regs σ K
   | .exit id=>K (.exit id) regs σ
   | .ret=>K .ret regs σ
 | .cond c t e,ρ,regs,σ,K=>match gn regs c with
   | some (.bool b)=>match H.at (2*Te t+1) with
     | none=>bif b then exec P call H n t ρ regs σ K else exec P call H n e ρ regs σ K
     | some h=>(bif b then exec P call H n t Ay regs σ (pack h.exits) else exec P call H n e Ay regs σ (pack h.exits)).bind fun r=>unpack h (.seq t e) regs r K
   | _=>none
 | .block id c,ρ,regs,σ,K=>exec P call H n c ρ regs σ fun x regs σ=>match x with
   | .normal=>K .normal regs σ
   | .exit id'=>if id'=id then K .normal regs σ else K (.exit id') regs σ
   | .ret=>K .ret regs σ
 | .loop c,ρ,regs,σ,K=>match H.at (2*Te c) with
   | none=>none
   | some h=>(Zb (fun regs σ K=>exec P call H n c Ay regs σ K) h n (bA h.live regs) σ).bind fun r=>unpack h c regs r K
 | .exit id,_,regs,σ,K=>K (.exit id) regs σ
 | .ret,_,regs,σ,K=>K .ret regs σ
 | _,_,_,_,_=>none
def fK (P:Program) (regs:B4) (σ:Aa) (r:ResultVar):Option Value:=
 match r with
 | .tmp t=>regs.getD t none
 | .cell t T=>(regs.getD t none).bind fun v=>match v with
   | .pointer (some a)=>bif Lr P T then (IW P T).bind fun s=>(VV σ a.block a.off s).bind fun vs=>some (.agg vs.toArray) else (P.underlying T).bind fun _=>Gy σ a.block a.off
   | _=>none
def Y3 (P:Program) (regs:B4) (σ:Aa):List ResultVar→Option (List Value)
 | []=>some []
 | r::rs=>(fK P regs σ r).bind fun v=>(Y3 P regs σ rs).bind fun vs=>some (v::vs)
def Q9:List Value→Value
 | [v]=>v
 | vs=>.tuple vs.toArray
def fin (P:Program) (f:Func) (x:Bm) (regs:B4) (σ:Aa):Option (Value × Aa):=
 match x with
 | .exit _=>none
 | _=>(Y3 P regs σ f.results.toList).bind fun vs=>some (Q9 vs,σ)
abbrev Ext:=FuncId→Option (List Value→Aa→Option (Value × Aa))
def fn [AF] (P:Program) (X:Ext) (H:FuncId→Hints):Nat→Ho
 | 0,_,_,_=>none
 | k+1,f,args,σ=>match X f with
   | some g=>g args σ
   | none=>match P.funcs[f]? with
     | none=>none
     | some F=>match F.body with
       | none=>none
       | some c=>if F.name = "runtime.NumGoroutine" then none else
         exec P (fn P X H k) (H f) k c (Value × Aa) (args.map some++List.replicate (F.ntmps-args.length) (some undef)) σ (fin P F)
def Wc:Option Addr→Option Addr→Bool
 | none,none=>true
 | some a,some b=>a.block == b.block && (a.off == b.off && (match a.spot,b.spot with | none,none=>true | some x,some y=>x == y | _,_=>false))
 | _,_=>false
def lH:Value→Value→Bool
 | .bool a,.bool b=>a == b
 | .int k a,.int k' b=>decide (k=k') && a == b
 | .pointer a,.pointer b=>Wc a b
 | .slice a l c,.slice a' l' c'=>Wc a a' && (l == l' && c == c')
 | .map none,.map none=>true
 | .map (some a),.map (some b)=>a == b
 | .nilFunc,.nilFunc=>true
 | .nilIface,.nilIface=>true
 | .agg a,.agg b=>a.toList.isEmpty && b.toList.isEmpty
 | .func (.func f) a b,.func (.func f') a' b'=>f == f' && (a.toList.isEmpty && (a'.toList.isEmpty && (b.toList.isEmpty && b'.toList.isEmpty)))
 | _,_=>false
def lI (v v':Value):Bool:=
 match v,v' with
 | .iface t x,.iface t' x'=>t == t' && lH x x'
 | v,v'=>lH v v'
def YA:List Value→List Value→Bool
 | [],[]=>true
 | x::xs,y::ys=>lI x y && YA xs ys
 | _,_=>false
def Y9:List (Int × Value)→List (Int × Value)→Bool
 | [],[]=>true
 | x::xs,y::ys=>x.1 == y.1 && (lI x.2 y.2 && Y9 xs ys)
 | _,_=>false
def Wd:Bi→Bi→Bool
 | .cells vs T rw,.cells vs' T' rw'=>YA vs vs' && (T == T' && rw == rw')
 | .map es,.map es'=>Y9 es es'
 | .dead,.dead=>true
 | _,_=>false
def iI:Aa→Aa→Bool
 | [],_=>true
 | x::xs,y::ys=>Wd x y && iI xs ys
 | _,_=>false
theorem iG:∀ {a b:Option Addr},Wc a b=true→a=b
 | none,none,_=>rfl
 | some ⟨b1,o1,s1⟩,some ⟨b2,o2,s2⟩,h=>by
   simp only[Wc,Bool.and_eq_true,beq_iff_eq] at h
   obtain ⟨rfl,rfl,h⟩:=h
   cases s1 <;> cases s2 <;> simp at h <;> simp[h]
 | none,some _,h=>by simp[Wc] at h
 | some _,none,h=>by simp[Wc] at h
theorem isEmpty_eq {a:Array Value} (h:a.toList.isEmpty=true):a = #[]:=by
 apply Array.toList_inj.1; simpa using h
theorem iH {v v':Value} (h:lH v v'=true):v=v':=by
 unfold lH at h
 split at h
 ·simp at h; simp[h]
 ·simp at h; simp[h]
 ·rw[iG h]
 ·simp only[Bool.and_eq_true,beq_iff_eq] at h
  rw[iG h.1,h.2.1,h.2.2]
 ·rfl
 ·simp at h; simp[h]
 ·rfl
 ·rfl
 ·simp only[Bool.and_eq_true] at h
  rw[isEmpty_eq h.1,isEmpty_eq h.2]
 ·simp only[Bool.and_eq_true,beq_iff_eq] at h
  rw[h.1,isEmpty_eq h.2.1,isEmpty_eq h.2.2.1,isEmpty_eq h.2.2.2.1,isEmpty_eq h.2.2.2.2]
 ·cases h
theorem iL {v v':Value} (h:lI v v'=true):v=v':=by
 unfold lI at h
 split at h
 ·simp only[Bool.and_eq_true,beq_iff_eq] at h
  rw[h.1,iH h.2]
 ·exact iH h
theorem ey:∀ {v v':List Value},YA v v'=true→v=v'
 | [],[],_=>rfl
 | x::xs,y::ys,h=>by
   simp only[YA,Bool.and_eq_true] at h
   rw[iL h.1,ey h.2]
 | [],_::_,h=>by simp[YA] at h
 | _::_,[],h=>by simp[YA] at h
theorem eu:∀ {v v':List (Int × Value)},Y9 v v'=true→v=v'
 | [],[],_=>rfl
 | (a,x)::xs,(b,y)::ys,h=>by
   simp only[Y9,Bool.and_eq_true,beq_iff_eq] at h
   rw[h.1,iL h.2.1,eu h.2.2]
 | [],_::_,h=>by simp[Y9] at h
 | _::_,[],h=>by simp[Y9] at h
theorem iK:∀ {o o':Bi},Wd o o'=true→o=o'
 | .cells _ _ _,.cells _ _ _,h=>by
   simp only[Wd,Bool.and_eq_true,beq_iff_eq] at h
   rw[ey h.1,h.2.1,h.2.2]
 | .map _,.map _,h=>by rw[eu h]
 | .dead,.dead,_=>rfl
 | .cells _ _ _,.map _,h=>by simp[Wd] at h
 | .cells _ _ _,.dead,h=>by simp[Wd] at h
 | .map _,.cells _ _ _,h=>by simp[Wd] at h
 | .map _,.dead,h=>by simp[Wd] at h
 | .dead,.cells _ _ _,h=>by simp[Wd] at h
 | .dead,.map _,h=>by simp[Wd] at h
theorem iJ:∀ {σ σ':Aa},iI σ σ'=true→σ <+: σ'
 | [],_,_=>List.nil_prefix
 | x::xs,y::ys,h=>by
   simp only[iI,Bool.and_eq_true] at h
   obtain ⟨t,ht⟩:=iJ h.2
   exact ⟨t,by rw[iK h.1,← ht]; rfl⟩
 | _::_,[],h=>by simp[iI] at h
def sameAt (σ σ':Aa) (h:Nat):Bool:=
 match σ[h]?,σ'[h]? with
 | some o,some o'=>Wd o o'
 | none,none=>true
 | _,_=>false
theorem ng {σ σ':Aa} {h:Nat} (g:sameAt σ σ' h=true):σ'[h]?=σ[h]?:=by
 unfold sameAt at g
 split at g
 ·rename_i o o' h1 h2
  rw[h1,h2,iK g]
 ·rename_i h1 h2
  rw[h1,h2]
 ·cases g
@[reducible] def Oj:AF:=⟨iI,iJ,sameAt,ng⟩
open Classical in
@[reducible] noncomputable def Au:AF:=⟨fun σ σ'=>decide (σ <+: σ'),fun h=>by simpa using h,fun σ σ' h=>decide (σ'[h]?=σ[h]?),fun h=>by simpa using h⟩
end Go.AX
end
section
namespace Go.AX
open Go
structure XQ where
 b:Nat
 o:Nat
 s:Nat
 n:Nat
 m:Nat
abbrev Mu:=Nat→Option XQ
mutual
inductive RV (μ:Mu):Value→Value→Prop
 | bool (b:Bool):RV μ (.bool b) (.bool b)
 | int (k:IntKind) (n:Int):RV μ (.int k n) (.int k n)
 | string (s:ByteArray):RV μ (.string s) (.string s)
 | ptrNil:RV μ (.pointer none) (.pointer none)
 | ptr {a:Addr} {k:XQ} (h:μ a.block=some k) (hs:a.spot=none):RV μ (.pointer (some a)) (.pointer (some ⟨k.b,k.o+a.off,none⟩))
 | sliceNil:RV μ (.slice none 0 0) (.slice none 0 0)
 | sliceZ {a:Addr} {z:Nat} (x:Addr) (hz:a.spot=some z):RV μ (.slice (some a) 0 0) (.slice (some x) 0 0)
 | slice {a:Addr} {k:XQ} {l c c':Nat} (h:μ a.block=some k) (hs:a.spot=none) (hl:l≤c) (hc:c≤c') (hm:a.off+c'*k.s≤k.m):RV μ (.slice (some a) l c) (.slice (some ⟨k.b,k.o+a.off,none⟩) l c')
 | sliceEnd {a:Addr} {k:XQ} {o c':Nat} (h:μ a.block=some k) (hs:a.spot=none) (hm:o+c'*k.s≤k.m):
   RV μ (.slice (some a) 0 0) (.slice (some ⟨k.b,k.o+o,none⟩) 0 c')
 | mapNil:RV μ (.map none) (.map none)
 | map {r:Nat} {k:XQ} (h:μ r=some k):RV μ (.map (some r)) (.map (some k.b))
 | nilFunc:RV μ .nilFunc .nilFunc
 | nilIface:RV μ .nilIface .nilIface
 | func {f:Fn} {a a' b b':Array Value} (ha:J7 μ a.toList a'.toList) (hb:J7 μ b.toList b'.toList):RV μ (.func f a b) (.func f a' b')
 | iface {t:TypeId} {v v':Value} (h:RV μ v v'):RV μ (.iface t v) (.iface t v')
 | agg {a a':Array Value} (h:J7 μ a.toList a'.toList) (hl:∀ v ∈ a.toList,v.oneCell'=true):RV μ (.agg a) (.agg a')
 | tuple {a a':Array Value} (h:J7 μ a.toList a'.toList):RV μ (.tuple a) (.tuple a')
inductive J7 (μ:Mu):List Value→List Value→Prop
 | nil:J7 μ [] []
 | cons {v v':Value} {vs vs':List Value} (h:RV μ v v') (t:J7 μ vs vs'):J7 μ (v::vs) (v'::vs')
end
def Mu.le (μ μ':Mu):Prop:=∀ h k,μ h=some k→μ' h=some k
theorem Mu.le_refl (μ:Mu):μ.le μ:=fun _ _ h=>h
theorem Mu.le_trans {a b c:Mu} (h:a.le b) (g:b.le c):a.le c:=fun _ _ e=>g _ _ (h _ _ e)
mutual
theorem RV.mono {μ μ':Mu} (hm:μ.le μ'):∀ {v v':Value},RV μ v v'→RV μ' v v'
 | _,_,.bool b=>.bool b
 | _,_,.int k n=>.int k n
 | _,_,.string s=>.string s
 | _,_,.ptrNil=>.ptrNil
 | _,_,.ptr h hs=>.ptr (hm _ _ h) hs
 | _,_,.sliceNil=>.sliceNil
 | _,_,.sliceZ x hz=>.sliceZ x hz
 | _,_,.slice h hs hl hc hm'=>.slice (hm _ _ h) hs hl hc hm'
 | _,_,.sliceEnd h hs hm'=>.sliceEnd (hm _ _ h) hs hm'
 | _,_,.mapNil=>.mapNil
 | _,_,.map h=>.map (hm _ _ h)
 | _,_,.nilFunc=>.nilFunc
 | _,_,.nilIface=>.nilIface
 | _,_,.func ha hb=>.func (J7.mono hm ha) (J7.mono hm hb)
 | _,_,.iface h=>.iface (RV.mono hm h)
 | _,_,.agg h hl=>.agg (J7.mono hm h) hl
 | _,_,.tuple h=>.tuple (J7.mono hm h)
theorem J7.mono {μ μ':Mu} (hm:μ.le μ'):∀ {v v':List Value},J7 μ v v'→J7 μ' v v'
 | _,_,.nil=>.nil
 | _,_,.cons h t=>.cons (RV.mono hm h) (J7.mono hm t)
end
theorem J7.length {μ:Mu}:∀ {v v':List Value},J7 μ v v'→v.length=v'.length
 | _,_,.nil=>rfl
 | _,_,.cons _ t=>by simp[J7.length t]
theorem J7.get {μ:Mu}:∀ {v v':List Value},J7 μ v v' → ∀ (i:Nat) (x:Value),v[i]?=some x → ∃ x',v'[i]?=some x'∧RV μ x x'
 | _,_,.nil,i,x,h=>by simp at h
 | _,_,.cons h t,0,x,hx=>by simp at hx; subst hx; exact ⟨_,by simp,h⟩
 | _,_,.cons h t,i+1,x,hx=>by simpa using J7.get t i x (by simpa using hx)
theorem J7.append {μ:Mu}:∀ {v v' u u':List Value},J7 μ v v'→J7 μ u u'→J7 μ (v++u) (v'++u')
 | _,_,_,_,.nil,h=>h
 | _,_,_,_,.cons h t,g=>.cons h (J7.append t g)
theorem J7.ki {μ:Mu}:∀ {v v':List Value},v.length=v'.length→(∀ (i:Nat) x x',v[i]?=some x→v'[i]?=some x'→RV μ x x')→J7 μ v v'
 | [],[],_,_=>.nil
 | [],_::_,h,_=>by simp at h
 | _::_,[],h,_=>by simp at h
 | x::xs,y::ys,h,g=>.cons (g 0 x y (by simp) (by simp)) (J7.ki (by simpa using h) fun i a b ha hb=>g (i+1) a b (by simpa using ha) (by simpa using hb))
theorem J7.take {μ:Mu}:∀ {v v':List Value} (n:Nat),J7 μ v v'→J7 μ (v.take n) (v'.take n)
 | _,_,_,.nil=>by simp; exact .nil
 | _,_,0,.cons _ _=>by simp; exact .nil
 | _,_,n+1,.cons h t=>by simp; exact .cons h (J7.take n t)
theorem J7.drop {μ:Mu}:∀ {v v':List Value} (n:Nat),J7 μ v v'→J7 μ (v.drop n) (v'.drop n)
 | _,_,_,.nil=>by simp; exact .nil
 | _,_,0,.cons h t=>by simp; exact .cons h t
 | _,_,n+1,.cons h t=>by simp; exact J7.drop n t
theorem J7.rep {μ:Mu} {z z':List Value} (h:J7 μ z z'):∀ n:Nat,J7 μ (rep n z) (rep n z')
 | 0=>by simp[AX.rep]; exact .nil
 | n+1=>by
   have e:∀ y:List Value,AX.rep (n+1) y=y++AX.rep n y:=fun y=>by simp[AX.rep,List.replicate_succ]
   rw[e,e]; exact h.append (J7.rep h n)
theorem RV.leaf {μ:Mu} {v v':Value} (h:RV μ v v'):v'.oneCell'=v.oneCell':=by cases h <;> rfl
theorem J7.leaf {μ:Mu}:∀ {v v':List Value},J7 μ v v'→(∀ x ∈ v,x.oneCell'=true) → ∀ x ∈ v',x.oneCell'=true
 | _,_,.nil,_,x,hx=>by simp at hx
 | _,_,.cons h t,g,x,hx=>by
   rcases List.mem_cons.1 hx with rfl | hx
   ·rw[h.leaf]; exact g _ (by simp)
   ·exact J7.leaf t (fun y hy=>g y (by simp[hy])) x hx
theorem RV.Ig {μ:Mu} {v:Value} (h:Ig v=true):RV μ v v:=by
 unfold AX.Ig at h
 split at h
 ·exact .bool _
 ·exact .int _ _
 ·exact .string _
 ·exact .ptrNil
 ·exact .sliceNil
 ·exact .mapNil
 ·exact .nilFunc
 ·exact .nilIface
 ·rename_i f a b
  simp at h
  obtain ⟨ha,hb⟩:=h
  refine .func ?_ ?_
  ·simp[ha]; exact .nil
  ·simp[hb]; exact .nil
 ·simp at h
theorem jY {v:Value} (h:Ig v=true):v.oneCell'=true:=by
 cases v <;> first | rfl | simp[Ig] at h
theorem J7.Ig {μ:Mu}:∀ {vs:List Value},vs.all AX.Ig=true→J7 μ vs vs
 | [],_=>.nil
 | v::vs,h=>by
   simp at h
   exact .cons (.Ig h.1) (J7.Ig (by simpa using h.2))
theorem RV.Iu {μ:Mu} {v:Value} (h:Iu v=true):RV μ v v:=by
 unfold AX.Iu at h
 split at h
 ·exact .agg (.Ig h) fun x hx=>jY (by simp only[List.all_eq_true] at h; exact h x hx)
 ·exact .tuple (.Ig h)
 ·exact .Ig h
inductive VI (μ:Mu):List (Int × Value)→List MapEntry→Prop
 | nil:VI μ [] []
 | cons {k:Int} {v:Value} {e:MapEntry} {es:List (Int × Value)} {es':List MapEntry} (hk:e.key = .int .i64 k) (hv:RV μ v e.val) (t:VI μ es es'):VI μ ((k,v)::es) (e::es')
theorem VI.mono {μ μ':Mu} (hm:μ.le μ'):∀ {v:List (Int × Value)} {v':List MapEntry},VI μ v v'→VI μ' v v'
 | _,_,.nil=>.nil
 | _,_,.cons hk hv t=>.cons hk (hv.mono hm) (VI.mono hm t)
def eZ (P:Program) (μ:Mu) (o:Bi) (k:XQ) (x:Option Obj):Prop:=
 match o with
 | .cells vs T rw=>∃ c T' fz,x=some (.cells c T' fz)∧vs.length=k.n∧k.n≤k.m∧k.o+k.m≤c.size∧k.s=P.cellsOf T∧(rw=true→fz=(0,0)) ∧
   (∀ v ∈ vs,v.oneCell'=true)∧J7 μ vs ((c.toList.drop k.o).take k.n)
 | .map es=>∃ entries clock,x=some (.map entries clock)∧VI μ es entries.toList
 | .dead=>True
def alive (σ:Aa) (h:Nat):Prop:=∃ o,σ[h]?=some o∧o ≠ .dead
def Av (σ:Aa) (h:Nat):Prop:=
 match σ[h]? with
 | some (.cells _ _ true) | some (.map _)=>True
 | _=>False
structure R (P:Program) (μ:Mu) (σ:Aa) (w:World):Prop where
 obj:∀ h o k,σ[h]?=some o→μ h=some k→eZ P μ o k w.heap[k.b]?
 lt:∀ h k,μ h=some k→k.b<w.heap.size
 inj:∀ h h' k k',μ h=some k→μ h'=some k'→alive σ h→alive σ h'→Av σ h∨Av σ h'→k.b=k'.b→h=h'
def Ii (μ:Mu) (lo hi:Nat):Prop:=∀ h,lo≤h→h<hi→μ h=none
structure Step (μ:Mu) (σ:Aa) (w:World) (μ':Mu) (σ':Aa) (w':World):Prop where
 len:σ.length≤σ'.length
 mu:∀ h,(h<σ.length∨σ'.length≤h)→μ' h=μ h
 wr:∀ h,h<σ.length→Av σ' h→Av σ h
 new:∀ h k,σ.length≤h→h<σ'.length→μ' h=some k→w.heap.size≤k.b ∨ ∃ h0 k0,h0<σ.length∧μ h0=some k0∧k0.b=k.b∧Av σ h0
 size:w.heap.size≤w'.heap.size
 tape:w'.tape=w.tape
 os:w'.os=w.os
 output:w'.output=w.output
 frame:∀ b,b<w.heap.size→(∀ h k,h<σ.length→μ h=some k→k.b=b→¬ Av σ h)→w'.heap[b]?=w.heap[b]?
theorem Step.refl (μ:Mu) (σ:Aa) (w:World):Step μ σ w μ σ w:=
 ⟨Nat.le_refl _,fun _ _=>rfl,fun _ _ h=>h,fun h k h1 h2=>absurd h2 (by omega),Nat.le_refl _,rfl,rfl,rfl,fun _ _ _=>rfl⟩
theorem Step.le {μ μ':Mu} {σ σ':Aa} {w w':World} (s:Step μ σ w μ' σ' w') (f:Ii μ σ.length σ'.length):μ.le μ':=by
 intro h k hk
 by_cases h1:h<σ.length∨σ'.length≤h
 ·rw[s.mu h h1]; exact hk
 ·rw[f h (by omega) (by omega)] at hk; cases hk
theorem Ii.sub {μ:Mu} {a b c d:Nat} (h:Ii μ a b) (h1:a≤c) (h2:d≤b):Ii μ c d:=fun x hx hy=>h x (by omega) (by omega)
theorem Ii.step {μ μ':Mu} {σ σ':Aa} {w w':World} {hi:Nat} (s:Step μ σ w μ' σ' w') (f:Ii μ σ.length hi):Ii μ' σ'.length hi:=by
 intro h h1 h2
 rw[s.mu h (.inr h1)]
 exact f h (Nat.le_trans s.len h1) h2
theorem Step.trans {μ μ' μ'':Mu} {σ σ' σ'':Aa} {w w' w'':World} (s:Step μ σ w μ' σ' w') (t:Step μ' σ' w' μ'' σ'' w''):Step μ σ w μ'' σ'' w'':=by
 refine ⟨Nat.le_trans s.len t.len, ?_, ?_, ?_,Nat.le_trans s.size t.size,t.tape.trans s.tape,t.os.trans s.os,t.output.trans s.output, ?_⟩
 ·intro h hh
  have l1:=s.len; have l2:=t.len
  rw[t.mu h (by omega),s.mu h (by omega)]
 ·intro h hh hw
  exact s.wr h hh (t.wr h (Nat.lt_of_lt_of_le hh s.len) hw)
 ·intro h k h1 h2 hk
  by_cases hlt:h<σ'.length
  ·rw[t.mu h (.inl hlt)] at hk
   exact s.new h k h1 hlt hk
  ·rcases t.new h k (by omega) h2 hk with hb | ⟨h0,k0,hh0,hk0,hb,hw⟩
   ·exact .inl (Nat.le_trans s.size hb)
   ·by_cases h0lt:h0<σ.length
    ·rw[s.mu h0 (.inl h0lt)] at hk0
     exact .inr ⟨h0,k0,h0lt,hk0,hb,s.wr h0 h0lt hw⟩
    ·rcases s.new h0 k0 (by omega) hh0 hk0 with hb' | ⟨h1',k1,hh1,hk1,hb1,hw1⟩
     ·exact .inl (by omega)
     ·exact .inr ⟨h1',k1,hh1,hk1,hb1.trans hb,hw1⟩
 ·intro b hb hn
  rw[t.frame b (Nat.lt_of_lt_of_le hb s.size) ?_,s.frame b hb hn]
  intro h k hh hk hkb hw
  by_cases hlt:h<σ.length
  ·rw[s.mu h (.inl hlt)] at hk
   exact hn h k hlt hk hkb (s.wr h hlt hw)
  ·rcases s.new h k (by omega) hh hk with hb' | ⟨h0,k0,hh0,hk0,hb0,hw0⟩
   ·omega
   ·exact hn h0 k0 hh0 hk0 (hb0.trans hkb) hw0
theorem R.drew {P:Program} {μ:Mu} {σ:Aa} {w:World} (h:R P μ σ w):R P μ σ w.drew:=⟨h.obj,h.lt,h.inj⟩
theorem Step.drew (μ:Mu) (σ:Aa) (w:World):Step μ σ w μ σ w.drew:=
 ⟨Nat.le_refl _,fun _ _=>rfl,fun _ _ h=>h,fun h k h1 h2=>absurd h2 (by omega),Nat.le_refl _,rfl,rfl,rfl,fun _ _ _=>rfl⟩
theorem eZ.mono {P:Program} {μ μ':Mu} (hm:μ.le μ') {o:Bi} {k:XQ} {x:Option Obj} (h:eZ P μ o k x):eZ P μ' o k x:=by
 cases o with
 | cells vs T rw=>
   obtain ⟨c,T',fz,hx,h1,h2,h3,h4,h5,h6,h7⟩:=h
   exact ⟨c,T',fz,hx,h1,h2,h3,h4,h5,h6,h7.mono hm⟩
 | map es=>
   obtain ⟨entries,clock,hx,h1⟩:=h
   exact ⟨entries,clock,hx,h1.mono hm⟩
 | dead=>trivial
def Mu.put (μ:Mu) (h:Nat) (k:XQ):Mu:=fun x=>if x=h then some k else μ x
theorem Mu.GC (μ:Mu) (h:Nat) (k:XQ):μ.put h k h=some k:=by simp[Mu.put]
theorem Mu.Gb (μ:Mu) {h x:Nat} (k:XQ) (hx:x≠h):μ.put h k x=μ x:=by simp[Mu.put,hx]
theorem Mu.oC {μ:Mu} {h:Nat} {k:XQ} (hn:μ h=none):μ.le (μ.put h k):=by
 intro x y hx
 rw[Mu.Gb μ k (by rintro rfl; rw[hn] at hx; cases hx)]; exact hx
theorem O0 {σ:Aa} {o:Bi} {h:Nat} (hh:h≠σ.length) (hw:Av (σ++[o]) h):Av σ h:=by
 unfold Av at hw ⊢
 by_cases hlt:h<σ.length
 ·rwa [List.getElem?_append_left hlt] at hw
 ·rw[List.getElem?_eq_none (by simp; omega)] at hw; exact hw.elim
theorem WZ {σ:Aa} {o:Bi} {h:Nat} (hh:h≠σ.length) (ha:alive (σ++[o]) h):alive σ h:=by
 obtain ⟨x,hx,hd⟩:=ha
 have hlt:h<σ.length:=by
  have:=(List.getElem?_eq_some_iff.1 hx).1
  simp at this; omega
 exact ⟨x,by rwa [List.getElem?_append_left hlt] at hx,hd⟩
theorem heap_alloc_old {w:World} {x:Obj} {b:Nat} (hb:b<w.heap.size):(w.alloc x).heap[b]?=w.heap[b]?:=by
 show (w.heap.push x)[b]?=_
 rw[Array.getElem?_push,if_neg (by omega)]
theorem heap_alloc_new (w:World) (x:Obj):(w.alloc x).heap[w.heap.size]?=some x:=by
 show (w.heap.push x)[w.heap.size]?=_
 rw[Array.getElem?_push,if_pos rfl]
theorem R.alloc {P:Program} {μ:Mu} {σ:Aa} {w:World} {o:Bi} {x:Obj} {k:XQ} (h:R P μ σ w) (hf:μ σ.length=none) (hb:k.b=w.heap.size)
  (ho:eZ P μ o k (some x)):R P (μ.put σ.length k) (σ++[o]) (w.alloc x):=by
 have hle:μ.le (μ.put σ.length k):=Mu.oC hf
 have hold:∀ b,b<w.heap.size→(w.alloc x).heap[b]?=w.heap[b]?:=fun b hb=>heap_alloc_old hb
 refine ⟨?_, ?_, ?_⟩
 ·intro h' o' k' ho' hk'
  by_cases he:h'=σ.length
  ·subst he
   rw[Mu.GC] at hk'
   cases hk'
   simp at ho'
   subst ho'
   have:(w.alloc x).heap[k.b]?=some x:=by rw[hb]; exact heap_alloc_new w x
   rw[this]
   exact ho.mono hle
  ·rw[Mu.Gb μ k he] at hk'
   have hlt:h'<σ.length:=by
    have:=(List.getElem?_eq_some_iff.1 ho').1
    simp at this; omega
   rw[List.getElem?_append_left hlt] at ho'
   rw[hold _ (h.lt _ _ hk')]
   exact (h.obj h' o' k' ho' hk').mono hle
 ·intro h' k' hk'
  by_cases he:h'=σ.length
  ·subst he; rw[Mu.GC] at hk'; cases hk'; simp[hb]
  ·rw[Mu.Gb μ k he] at hk'
   have:=h.lt _ _ hk'; simp; omega
 ·intro a b ka kb ha hb' haa hab hww hkk
  by_cases he:a=σ.length <;> by_cases he':b=σ.length
  ·omega
  ·subst he; rw[Mu.GC] at ha; cases ha
   rw[Mu.Gb μ k he'] at hb'
   have:=h.lt _ _ hb'; omega
  ·subst he'; rw[Mu.GC] at hb'; cases hb'
   rw[Mu.Gb μ k he] at ha
   have:=h.lt _ _ ha; omega
  ·rw[Mu.Gb μ k he] at ha
   rw[Mu.Gb μ k he'] at hb'
   exact h.inj a b ka kb ha hb' (WZ he haa) (WZ he' hab) (hww.imp (O0 he) (O0 he')) hkk
theorem Z9 {σ:Aa} {o:Bi} {h:Nat} (hlt:h<σ.length):Av (σ++[o]) h=Av σ h:=by
 unfold Av; rw[List.getElem?_append_left hlt]
theorem Step.alloc {μ:Mu} {σ:Aa} {w:World} {o:Bi} {x:Obj} {k:XQ} (hb:k.b=w.heap.size):Step μ σ w (μ.put σ.length k) (σ++[o]) (w.alloc x):=by
 refine ⟨by simp, ?_, ?_, ?_,by simp,rfl,rfl,rfl, ?_⟩
 ·intro h hh; exact Mu.Gb μ k (by simp at hh; omega)
 ·intro h hh hw; rwa [Z9 hh] at hw
 ·intro h k' h1 h2 hk
  have:h=σ.length:=by simp at h2; omega
  subst this; rw[Mu.GC] at hk; cases hk; exact .inl (by omega)
 ·intro b hb _
  exact heap_alloc_old hb
end Go.AX
end
