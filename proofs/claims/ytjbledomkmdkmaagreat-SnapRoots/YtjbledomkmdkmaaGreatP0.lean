/-
 THE ABSTRACT EXECUTOR: a deterministic executor of the model's code over an abstract memory (handles in the place of block numbers; no spare capacity, no draws, text order).
-/
import Derived.WalkKit
import Derived.KernelRfl
set_option linter.unusedVariables false
set_option linter.unusedSimpArgs false
set_option linter.unusedSectionVars false
namespace Go.AX
open Go
noncomputable section
abbrev AI:=@Option.bind_some
abbrev AT:=@List.getElem?_append_left
abbrev By:=@cond_false
abbrev IN:=@Nat.zero_add
abbrev IS:=@Option.bind_eq_some_iff
abbrev IT:=@cond_true
abbrev xQ:=@Int.toNat_natCast
abbrev xY:=@decide_eq_false
abbrev xZ:=@decide_eq_true
abbrev ya:=@List.append_assoc
abbrev yc:=@List.getElem?_set_ne
abbrev yd:=@List.getD_eq_getElem?_getD
abbrev ye:=@if_true
abbrev yf:=@List.mem_append
abbrev yg:=@List.getElem?_eq_getElem
abbrev yi:=@List.length_append
abbrev yj:=@Nat.le_refl
abbrev yk:=@if_pos
abbrev yl:=@Nat.add_zero
abbrev ym:=@if_neg
abbrev yo:=@List.getElem?_set_self
abbrev yp:=@Bool.not_true
abbrev yq:=@if_false
abbrev yr:=@bne_self_eq_false
abbrev yu:=@List.getElem?_eq_some_iff
abbrev yw:=@List.append_nil
abbrev yx:=@run_underlying
abbrev yy:=@List.getElem?_cons_zero
abbrev y8:=@Bool.false_eq_true
abbrev y9:=@Result.andThen_ok
abbrev yB:=@List.getElem?_cons_succ
abbrev yD:=@List.getElem?_append_right
abbrev yG:=@Nat.lt_of_lt_of_le
abbrev yH:=@Nat.mul_one
abbrev yJ:=@List.mem_cons_of_mem
abbrev yK:=@List.getElem?_concat_length
abbrev yL:=@List.mem_cons
abbrev yM:=@beq_eq_false_iff_ne
abbrev yO:=@List.drop_eq_getElem_cons
abbrev yP:=@List.mem_singleton
abbrev yS:=@List.drop_eq_nil_of_le
abbrev yU:=@List.getElem_mem
abbrev yV:=@List.drop_zero
abbrev yW:=@Ne.symm
abbrev yY:=@Bool.not_false
abbrev yZ:=@List.length_set
abbrev za:=@Sem.run_bind
abbrev zd:=@List.length_singleton
abbrev ze:=@List.length_cons
abbrev zf:=@Sem.run_pure
abbrev zg:=@List.getElem?_eq_none
abbrev zh:=@Nat.zero_le
abbrev zi:=@List.mem_cons_self
abbrev zj:=@Nat.le_trans
abbrev zk:=@Classical.byContradiction
abbrev zl:=@eq_true
abbrev zm:=@List.mem_flatten
abbrev zn:=@Bool.and_eq_true
abbrev zo:=@List.length_nil
abbrev zp:=@List.take_of_length_le
abbrev zr:=@bne_iff_ne
abbrev zs:=@List.getElem?_drop
abbrev zt:=@List.getElem?_take
abbrev zu:=@Nat.add_assoc
abbrev zv:=@List.nodup_append
abbrev zw:=@Nat.zero_mul
abbrev zx:=@List.length_take
abbrev zy:=@List.ext_getElem?
abbrev zz:=@List.length_drop
abbrev z8:=@List.getElem?_set
abbrev z9:=@beq_self_eq_true
abbrev zA:=@decide_eq_true_eq
abbrev zB:=@List.pairwise_cons
abbrev zC:=@congrArg
abbrev zD:=@List.map_cons
abbrev zE:=@List.not_mem_nil
abbrev zF:=@List.foldl_cons
abbrev zG:=@List.getElem?_map
abbrev zH:=@Option.some.inj
abbrev zI:=@List.length_map
abbrev zJ:=@beq_iff_eq
abbrev zK:=@List.mem_map
abbrev zL:=@Nat.lt_or_ge
abbrev zM:=@List.getElem?_replicate
abbrev zN:=@Array.length_toList
abbrev zO:=@List.mem_filter
abbrev zP:=@not_false_eq_true
abbrev zQ:=@Option.some.injEq
abbrev zR:=@Nat.mul_le_mul_right
abbrev zS:=@List.set_append_right
abbrev zT:=@List.length_replicate
abbrev zU:=@List.replicate_succ
abbrev zV:=@List.length_eq_zero_iff
abbrev zW:=@List.set_cons_succ
abbrev zX:=@List.set_cons_zero
abbrev zY:=@List.mem_zipIdx_iff_getElem?
abbrev zZ:=@List.filter_cons
abbrev Aaa:=@Nat.lt_trichotomy
abbrev Aab:=@Option.isSome_none
abbrev Aac:=@List.nil_append
abbrev Aad:=@Nat.lt_irrefl
abbrev Aae:=@List.map_append
abbrev Aaf:=@Nat.sub_self
abbrev Aag:=@List.getElem_append_right
abbrev Aah:=@not_true_eq_false
abbrev Aai:=@Array.getElem?_toList
abbrev Aaj:=@List.length_filter_le
abbrev Aak:=@List.take_append_drop
abbrev Aal:=@List.cons.inj
abbrev Aam:=@List.head?_cons
abbrev Aan:=@Array.getElem?_setIfInBounds
abbrev Aao:=@List.prefix_rfl
abbrev Aap:=@Bool.or_eq_true
abbrev Aaq:=@Nat.mod_lt
abbrev Aar:=@IntKind.wrap_i64
abbrev Aas:=@Int.le_refl
abbrev Aat:=@List.tail_cons
abbrev Aau:=@Int.toNat_zero
abbrev Aav:=@Int.tdiv_eq_ediv_of_nonneg
abbrev Aaw:=@List.getElem?_range
abbrev Aax:=@List.eraseIdx_eq_take_drop_succ
abbrev Aay:=@List.all_eq_true
abbrev Aaz:=@Option.getD_some
abbrev Aa0:=@Int.tmod_lt_of_pos
abbrev Aa1:=@List.mem_flatMap
abbrev Aa2:=@List.filter_append
abbrev Aa3:=@List.getElem_append_left
abbrev Aa4:=@List.mem_of_getElem?
abbrev Aa5:=@run_sliceBound
abbrev Aa6:=@List.foldl_append
abbrev Aa7:=@List.find?_cons
abbrev Aa8:=@Option.map_some
abbrev Aa9:=@List.nodup_cons
abbrev Aba:=@List.length_pos_iff
abbrev Abb:=@Array.getD_eq_getD_getElem?
abbrev Abc:=@List.getElem_cons_zero
abbrev Abd:=@Nat.add_mul
abbrev Abe:=@List.range'_succ
abbrev Abf:=@List.mem_replicate
abbrev Abg:=@and_self
abbrev Abh:=@List.length_eraseIdx_of_lt
abbrev Abi:=@List.pairwise_iff_getElem
abbrev Abj:=@List.mem_or_eq_of_mem_set
abbrev Abk:=@Nat.min_eq_left
abbrev Abl:=@List.mem_of_mem_drop
abbrev Abm:=@Bool.true_and
abbrev Abn:=@wpIn_mono
abbrev Abo:=@or_false
abbrev Abp:=@Nat.mul_comm
abbrev Abq:=@List.getElem_cons_succ
abbrev Abr:=@List.range_succ
abbrev Abs:=@Int.tmod_nonneg
abbrev Abt:=@List.singleton_append
abbrev Abu:=@BitVec.eq_of_toNat_eq
abbrev Abv:=@Bool.not_eq_true'
abbrev Abw:=@List.mem_range'_1
abbrev Abx:=@List.take_add_one
abbrev Aby:=@List.length_range
abbrev Abz:=@List.flatMap_cons
abbrev Ab0:=@List.mem_of_mem_take
abbrev Ab1:=@Array.getElem?_eq_some_iff
abbrev Ab2:=@Int.tmod_eq_emod_of_nonneg
abbrev Ab3:=@List.take_zero
abbrev Ab4:=@List.mem_iff_getElem
abbrev Ab5:=@List.prefix_refl
abbrev Ab6:=@List.cons_append
abbrev Ab7:=@List.drop_succ_cons
abbrev Ab8:=@Oper.upon_value
abbrev Ab9:=@Nat.div_add_mod
abbrev Aca:=@Classical.not_not
abbrev Acb:=@Option.bind_assoc
abbrev Acd:=@Bool.false_and
abbrev Ace:=@Bool.or_comm
abbrev Acf:=@Bool.true_or
abbrev Acg:=@List.getElem_take
abbrev Ach:=@List.getElem?_toArray
abbrev Aci:=@Array.toList_inj
abbrev Acj:=@run_newObj_alloc
abbrev Ack:=@Nat.not_lt
abbrev Acl:=@decide_eq_decide
abbrev Acm:=@Bool.false_or
abbrev Acn:=@List.eq_nil_of_length_eq_zero
abbrev Aco:=@List.take_append_of_le_length
abbrev Acp:=@decide_true
abbrev Acq:=@List.pairwise_append
abbrev Acr:=@not_or
abbrev Acs:=@Nat.two_pow_pos
abbrev Acu:=@Bool.eq_iff_iff
abbrev Acv:=@List.getElem_of_mem
abbrev Acw:=@List.take_succ_cons
abbrev Acx:=@List.map_congr_left
abbrev Acy:=@List.flatMap_append
abbrev Acz:=@Nat.sub_zero
abbrev Ac0:=@Nat.le_of_eq
abbrev Ac1:=@Array.toList_setIfInBounds
abbrev Ac2:=@Nat.blt_eq
abbrev Ac3:=@BitVec.toNat_ofNat
abbrev Ac4:=@Nat.eq_or_lt_of_le
abbrev Ac5:=@Prod.ext
abbrev Ac6:=@Option.isSome_some
abbrev Ac7:=@List.foldl_nil
abbrev Ac9:=@List.flatten_cons
abbrev Ada:=@World.cells?_some
abbrev Adb:=@List.all_cons
abbrev Ade:=@List.take_length
abbrev Adf:=@Nat.le_of_not_lt
abbrev Adg:=@false_or
abbrev Adh:=@Bool.cond_eq_ite
abbrev Adj:=@BEq.rfl
abbrev Adm:=@decide_false
abbrev Ado:=@List.nil_prefix
abbrev Adp:=@Int.natCast_mul
abbrev Ad0:=@eq_false
abbrev Ad2:=@Nat.one_mul
inductive Cc where
 | normal | exit (id:Nat) | ret
 deriving DecidableEq,Inhabited
inductive ti where
 | ready | busy | done (x:Cc)
 deriving DecidableEq,Inhabited
inductive Au where
 | cells (vs:List Value) (T:TypeId) (rw:Bool)
 | map (es:List (Int × Value))
 | loop (f:FuncId) (st:ti) (regs:List (Option Value))
 | dead
 deriving Inhabited
abbrev Aa:=List Au
abbrev Bc:=List (Option Value)
inductive Kd where
 | int (k:IntKind) | bool | str | ptr | slice | map | func | any
 deriving DecidableEq,Inhabited
def Bn (k:IntKind):Value->Option Int
 | .int k' n=>if k'=k then some n else none
 | _=>none
def DK:Value->Option Bool
 | .bool b=>some b
 | _=>none
def toStr:Value->Option ByteArray
 | .string b=>some b
 | _=>none
def HD:Value->Option (Option Addr)
 | .pointer a=>some a
 | _=>none
def ED:Value->Option (Option Addr × Nat × Nat)
 | .slice a l c=>some (a,l,c)
 | _=>none
def db:Value->Option (Option Nat)
 | .map r=>some r
 | _=>none
def vd:Value->Option (List Value)
 | .agg vs=>some vs.toList
 | _=>none
def bH:Value->Option (List Value)
 | .tuple vs=>some vs.toList
 | _=>none
def D5 (J:Aa) (b o:Nat):Option Value:=
 match J[b]? with
 | some (.cells vs _ _)=>vs[o]?
 | _=>none
def Ak (k:IntKind) (J:Aa) (b o:Nat):Option Int:=(D5 J b o).bind (Bn k)
def Tq (J:Aa) (b o:Nat):Option Bool:=(D5 J b o).bind DK
def pC (J:Aa) (b o:Nat):Option ByteArray:=(D5 J b o).bind toStr
def BR (J:Aa) (b o:Nat):Option (Option Addr):=(D5 J b o).bind HD
def AR (J:Aa) (b o:Nat):Option (Option Addr × Nat × Nat):=(D5 J b o).bind ED
def sx (J:Aa) (b o:Nat):Option (Option Nat):=(D5 J b o).bind db
section
variable {ρ:Type}
def uT (k:Kd) (v:Value) (K:Value->Option ρ):Option ρ:=
 match k with
 | .int k=>(Bn k v).bind fun n=>K (.int k n)
 | .bool=>(DK v).bind fun b=>K (.bool b)
 | .str=>(toStr v).bind fun s=>K (.string s)
 | .ptr=>(HD v).bind fun a=>K (.pointer a)
 | .slice=>(ED v).bind fun s=>K (.slice s.1 s.2.1 s.2.2)
 | .map=>(db v).bind fun r=>K (.map r)
 | .func=>K v
 | .any=>K v
def bW:List Kd->List Value->(List Value->Option ρ)->Option ρ
 | [],_,K=>K []
 | k::ks,l,K=>l.head?.bind fun v=>uT k v fun v=>bW ks l.tail fun vs=>K (v::vs)
def qZ (k:Kd) (J:Aa) (b o:Nat) (K:Value->Option ρ):Option ρ:=
 match k with
 | .int k=>(Ak k J b o).bind fun n=>K (.int k n)
 | .bool=>(Tq J b o).bind fun b=>K (.bool b)
 | .str=>(pC J b o).bind fun s=>K (.string s)
 | .ptr=>(BR J b o).bind fun a=>K (.pointer a)
 | .slice=>(AR J b o).bind fun s=>K (.slice s.1 s.2.1 s.2.2)
 | .map=>(sx J b o).bind fun r=>K (.map r)
 | .func=>(D5 J b o).bind K
 | .any=>(D5 J b o).bind K
def Za:List Kd->Aa->Nat->Nat->(List Value->Option ρ)->Option ρ
 | [],_,_,_,K=>K []
 | k::ks,J,b,o,K=>qZ k J b o fun v=>Za ks J b (o+1) fun vs=>K (v::vs)
end
def pv:TypeDesc->Kd
 | .int k=>.int k
 | .bool=>.bool
 | .string=>.str
 | .pointer _=>.ptr
 | .slice _=>.slice
 | .map _ _=>.map
 | .func _ _ _=>.func
 | _=>.any
def flat (P:Program):Nat->TypeId->List Kd
 | 0,_=>[]
 | d+1,T=>match P.underlying T with
   | some (.struct fs)=>fs.toList.flatMap fun f=>flat P d f.type
   | some (.array n e)=>(List.range n).flatMap fun _=>flat P d e
   | some t=>[pv t]
   | none=>[]
def JQ (P:Program) (T:TypeId):Bool:=
 match P.underlying T with
 | some (.struct _) | some (.array _ _)=>true
 | _=>false
def AP (cs:List Value) (o:Nat) (vs:List Value):List Value:=cs.take o++vs++cs.drop (o+vs.length)
def H9:Value->Bool
 | .bool _ | .int _ _ | .string _ | .pointer none | .slice none 0 0 | .map none | .nilFunc | .nilIface=>true
 | .func (.yield _) _ _=>false
 | .func _ a b=>a.toList.isEmpty && b.toList.isEmpty
 | _=>false
def HE:Value->Bool
 | .agg vs=>vs.toList.all H9
 | .tuple vs=>vs.toList.all H9
 | v=>H9 v
def Gi:Value->Bool
 | .tuple _=>true
 | _=>false
def CT (J:Aa) (b o:Nat) (v:Value):Option Aa:=
 match J[b]? with
 | some (.cells cs T true)=>if o<cs.length then some (J.set b (.cells (cs.set o v) T true)) else none
 | _=>none
def H2 (J:Aa) (b o:Nat) (vs:List Value):Option Aa:=
 match J[b]? with
 | some (.cells cs T true)=>if o+vs.length<=cs.length then some (J.set b (.cells (AP cs o vs) T true)) else none
 | _=>none
def Il (J:Aa) (b:Nat):Bool:=
 match J[b]? with
 | some (.cells _ _ rw)=>rw
 | some (.map _)=>true
 | _=>false
def M9 (J:Aa) (b o n:Nat):Option (List Value):=
 match J[b]? with
 | some (.cells vs _ _)=>if o+n<=vs.length then some ((vs.drop o).take n) else none
 | _=>none
def RS (J:Aa) (r:Nat):Option (List (Int × Value)):=
 match J[r]? with
 | some (.map es)=>some es
 | _=>none
def MA (es:List (Int × Value)) (k:Int):Option Value:=(es.find? fun e=>k == e.1).map (·.2)
def MB (k:Int) (v:Value):List (Int × Value)->List (Int × Value)
 | []=>[(k,v)]
 | e::es=>if k == e.1 then (k,v)::es else e::MB k v es
def Lu (k:Int):List (Int × Value)->List (Int × Value)
 | []=>[]
 | e::es=>if k == e.1 then es else e::Lu k es
section
variable {ρ:Type}
def uq (op:BinOp) (k:IntKind) (a b:Int) (K:Value->Option ρ):Option ρ:=
 match op with
 | .add=>K (.int k (k.wrap (a+b)))
 | .sub=>K (.int k (k.wrap (a-b)))
 | .mul=>K (.int k (k.wrap (a*b)))
 | .quo=>if b=0 then none else K (.int k (k.wrap (a.tdiv b)))
 | .rem=>if b=0 then none else K (.int k (a.tmod b))
 | .and=>K (.int k (k.wrap (BitVec.ofInt k.bits a &&& BitVec.ofInt k.bits b).toNat))
 | .or=>K (.int k (k.wrap (BitVec.ofInt k.bits a ||| BitVec.ofInt k.bits b).toNat))
 | .xor=>K (.int k (k.wrap (BitVec.ofInt k.bits a ^^^ BitVec.ofInt k.bits b).toNat))
 | .andNot=>K (.int k (k.wrap (BitVec.ofInt k.bits a &&& ~~~ (BitVec.ofInt k.bits b)).toNat))
 | .eql=>K (.bool (a == b))
 | .neq=>K (.bool (a != b))
 | .lss=>K (.bool (decide (a<b)))
 | .leq=>K (.bool (decide (a<=b)))
 | .gtr=>K (.bool (decide (a>b)))
 | .geq=>K (.bool (decide (a>=b)))
 | .shl | .shr=>none
def cU (op:BinOp) (k:IntKind) (a b:Int) (K:Value->Option ρ):Option ρ:=
 if b<0 then none else
 match op with
 | .shl=>K (.int k (k.wrap (a*2 ^ (min b.toNat k.bits))))
 | .shr=>K (.int k (a.fdiv (2 ^ (min b.toNat k.bits))))
 | _=>none
def il (P:Program) (T:TypeId) (a b:Value):Option Bool:=
 match P.underlying T,a,b with
 | some (.int _),.int k x,.int k' y=>if k=k' then some (x == y) else none
 | some .bool,.bool x,.bool y=>some (x == y)
 | some .string,.string x,.string y=>some (x == y)
 | _,_,_=>none
def YA (P:Program):List Field->List Value->List Value->Option Bool
 | [],[],[]=>some true
 | [f],[a],[b]=>il P f.type a b
 | f::fs,a::as,b::bs=>(il P f.type a b).bind fun t=>bif t then YA P fs as bs else some false
 | _,_,_=>none
def RK (P:Program):Nat->List Field->Bool
 | _,[]=>true
 | i,f::fs=>f.name != "_" && f.offset == i && !JQ P f.type && RK P (i+1) fs
def J9 (P:Program) (T:TypeId) (a b:Value):Option Bool:=
 match a,b with
 | .bool x,.bool y=>(match P.underlying T with | some .bool=>some (x == y) | _=>none)
 | .pointer none,.pointer y=>(match P.underlying T with | some (.pointer _)=>some y.isNone | _=>none)
 | .pointer x,.pointer none=>(match P.underlying T with | some (.pointer _)=>some x.isNone | _=>none)
 | .slice none _ _,.slice y _ _=>(match P.underlying T with | some (.slice _)=>some y.isNone | _=>none)
 | .slice x _ _,.slice none _ _=>(match P.underlying T with | some (.slice _)=>some x.isNone | _=>none)
 | .agg xs,.agg ys=>(match P.underlying T with
   | some (.struct fs)=>bif RK P 0 fs.toList && !P.stoodInHeld T && !P.eqGuardType P.depth T then YA P fs.toList xs.toList ys.toList else none
   | _=>none)
 | _,_=>none
def uo (P:Program) (op:BinOp) (T:TypeId) (x y:Value) (K:Value->Option ρ):Option ρ:=
 match x,y with
 | .int k a,.int k' b=>match op with
   | .shl=>cU .shl k a b K
   | .shr=>cU .shr k a b K
   | _=>if k=k' then uq op k a b K else none
 | x,y=>match op with
   | .eql=>(J9 P T x y).bind fun t=>K (.bool t)
   | .neq=>(J9 P T x y).bind fun t=>K (.bool (!t))
   | _=>none
def xd (op:UnOp) (x:Value) (K:Value->Option ρ):Option ρ:=
 match op,x with
 | .not,.bool b=>K (.bool !b)
 | .neg,.int k n=>K (.int k (k.wrap (0-n)))
 | _,_=>none
def UX (P:Program) (T:TypeId) (f:Nat):Option (Nat × TypeId):=
 match P.underlying T with
 | some (.struct fs)=>match fs.toList[f]? with
   | some x=>some (x.offset,x.type)
   | none=>none
 | _=>none
def mF (P:Program) (T:TypeId):Bool:=
 match P.underlying T with
 | some (.int .i64)=>true
 | _=>false
def GY (P:Program) (T:TypeId):Option Nat:=(P.info? T).map (·.size)
def bytesOf (P:Program) (T:TypeId):Option Nat:=(P.info? T).map (·.bytes)
def elemAt (J:Aa) (b:Nat):Option TypeId:=
 match J[b]? with
 | some (.cells _ T _)=>some T
 | _=>none
def Oc (P:Program) (T:TypeId):Option TypeId:=
 match P.underlying T with
 | some (.slice e)=>some e
 | _=>none
def dM (P:Program) (T:TypeId):Option (Nat × TypeId):=
 match P.underlying T with
 | some (.array n e)=>some (n,e)
 | _=>none
def Fq (P:Program) (T:TypeId):Option Value:=(P.info? T).bind fun i=>i.zero.bind fun z=>if HE z then some z else none
def rep (n:Nat) (z:List Value):List Value:=(List.replicate n z).flatten
def bound (x:Option Value) (dflt top:Nat) (K:Nat->Option ρ):Option ρ:=
 match x with
 | none=>K dflt
 | some (.int _ i)=>if 0<=i/\i<=top then K i.toNat else none
 | some _=>none
def Zl (P:Program) (T:TypeId):List (Nat × Value)->List Value->Option (List Value)
 | [],cs=>some cs
 | (i,v)::ps,cs=>match UX P T i with
   | some (o,t)=>if GY P t=some v.cells.size/\o+v.cells.size<=cs.length/\Gi v=false then Zl P T ps (AP cs o v.cells.toList) else none
   | none=>none
def VU (s:Nat):List (Nat × Value)->List Value->Option (List Value)
 | [],cs=>some cs
 | (i,v)::ps,cs=>if v.cells.size=s/\i*s+v.cells.size<=cs.length/\Gi v=false then VU s ps (AP cs (i*s) v.cells.toList) else none
def qY (e:Operand->Option Value):List Operand->(List Value->Option ρ)->Option ρ
 | [],K=>K []
 | x::xs,K=>(e x).bind fun v=>qY e xs fun vs=>K (v::vs)
def tt (e:Operand->Option Value):List (Nat × Operand)->(List (Nat × Value)->Option ρ)->Option ρ
 | [],K=>K []
 | (i,x)::xs,K=>(e x).bind fun v=>tt e xs fun vs=>K ((i,v)::vs)
def nQ (e:Operand->Option Value) (x:Option Operand) (K:Option Value->Option ρ):Option ρ:=
 match x with
 | none=>K none
 | some x=>(e x).bind fun v=>K (some v)
def LR (n bytes:Nat):Prop:=n*bytes<=2 ^ 40/\n<=2 ^ 40
instance (n bytes:Nat):Decidable (LR n bytes):=inferInstanceAs (Decidable (_/\_))
def CQ (J:Aa) (s:Nat) (x:Option Addr) (n:Nat):Option (List Value):=
 match x with
 | some a=>M9 J a.block a.off (n*s)
 | none=>if n=0 then some [] else none
def Ie (a:Option Addr):Bool:=
 match a with
 | none=>true
 | some a=>a.spot.isSome
def La (P:Program) (E:TypeId) (dst src:Option Addr × Nat × Nat) (J:Aa) (K:Value->Aa->Option ρ):Option ρ:=
 (GY P E).bind fun s=>(bytesOf P E).bind fun by_=>
 (CQ J s src.1 src.2.1).bind fun new=>(Fq P E).bind fun z=>
 if ¬ (Gi z=false/\GY P E=some z.cells.size/\0<z.cells.size) then none else
 if dst.2.1+src.2.1<=dst.2.2 then
  bif Ie dst.1 then (if dst.2.1+src.2.1=0 then K (.slice dst.1 0 0) J else none)
  else dst.1.bind fun a=>(H2 J a.block (a.off+dst.2.1*s) new).bind fun J'=>K (.slice (some a) (dst.2.1+src.2.1) dst.2.2) J'
 else if LR (dst.2.1+src.2.1) by_/\0<by_ then
  bif Ie dst.1 then (if dst.2.1=0 then K (.slice (some ⟨J.length,0,none⟩) src.2.1 src.2.1) (J++[Au.cells new E true]) else none)
  else dst.1.bind fun a=>if elemAt J a.block=some E then (M9 J a.block a.off (dst.2.1*s)).bind fun L5=>
    bif Il J a.block then K (.slice (some ⟨J.length,0,none⟩) (dst.2.1+src.2.1) (dst.2.1+src.2.1)) (J.set a.block .dead++[Au.cells (L5++new) E true])
    else none else none
 else none
abbrev Bp:=Option Addr × Nat × Nat
def nR (v:Value) (J:Aa):Option (Bp × Aa):=
 match v with
 | .slice a l c=>some ((a,l,c),J)
 | _=>none
def AF (P:Program) (E:TypeId) (dst src:Bp) (J:Aa):Option (Bp × Aa):=La P E dst src J nR
def F8 (E:TypeId) (s:Nat) (v:Bp) (lo hi mx:Option Value) (J:Aa):Option Bp:=
 bif !mx.isSome || hi.isSome then bound mx v.2.2 v.2.2 fun m=>bound hi v.2.1 m fun h=>bound lo 0 h fun l=>
  if m=l then (match v.1 with
   | none=>some (none,0,0)
   | some a=>bif mx.isSome then some (some ⟨a.block,a.off,some 0⟩,0,0) else if elemAt J a.block=some E then some (some a,0,0) else none)
  else v.1.bind fun a=>if elemAt J a.block=some E then some (some ⟨a.block,a.off+l*s,none⟩,h-l,m-l) else none
 else none
def wZ (J:Aa) (a:Option Addr) (vs:List Value):Option Aa:=
 match a with
 | some a=>H2 J a.block a.off vs
 | none=>some J
def fj (J:Aa) (r:Option Nat):Option (List (Int × Value)):=
 match r with
 | none=>some []
 | some r=>RS J r
def jt (J:Aa) (r:Option Nat) (es:List (Int × Value)):Aa:=
 match r with
 | none=>J
 | some r=>J.set r (.map es)
def pj (P:Program) (T:TypeId):Kd:=
 match P.underlying T with
 | some t=>pv t
 | none=>.any
def wg (P:Program) (T:TypeId) (v:Value) (K:Value->Option ρ):Option ρ:=
 match P.underlying T with
 | some (.struct _)=>(vd v).bind fun l=>if l.length=(flat P 10 T).length then bW (flat P 10 T) l fun vs=>K (.agg vs.toArray) else none
 | some (.array _ _)=>none
 | some t=>uT (pv t) v K
 | none=>none
def lJ (P:Program):List TypeId->List Value->(List Value->Option ρ)->Option ρ
 | [],_,K=>K []
 | T::Ts,l,K=>l.head?.bind fun v=>wg P T v fun v=>lJ P Ts l.tail fun vs=>K (v::vs)
def oH (P:Program) (T:TypeId) (v:Value) (K:Value->Option ρ):Option ρ:=
 match (P.info? T).map (·.desc) with
 | some (TypeDesc.tuple ts)=>(bH v).bind fun l=>if l.length=ts.toList.length then lJ P ts.toList l fun vs=>K (.tuple vs.toArray) else none
 | _=>wg P T v K
end
def YF:FuncId:=1000000000
abbrev Gc:=FuncId->List Value->Aa->Option (Value × Aa)
def cn (P:Program) (t:TypeId) (nm:String):Option FuncId:=
 match P.info? t with
 | none=>none
 | some i=>match i.methods.find? (·.name == nm) with
   | none=>none
   | some m=>match m.path.toList,m.func,P.underlying t with
     | [],some (f,false),some (.struct _)=>some f
     | [],some (f,true),some (.pointer _)=>some f
     | _,_,_=>none
def Lc (P:Program) (call:Gc) (f:Value) (vs:List Value) (J:Aa):Option (Value × Aa):=
 match f with
 | .func (.func f) first cap=>bif Nat.beq f YF then none else call f (first.toList++vs++cap.toList) J
 | .func (.yield h) _ _=>call YF (.pointer (some ⟨h,0,none⟩)::vs) J
 | .func (.method nm) first _=>(match first.toList++vs with
   | .iface t v::rest=>(cn P t nm).bind fun f=>bif Nat.beq f YF then none else call f (v::rest) J
   | _=>none)
 | _=>none
class AA where
 q:Aa->Aa->Bool
 ok:∀ {J J':Aa},q J J'=true->J <+: J'
 k:Aa->Aa->Nat->Bool
 kok:∀ {J J':Aa} {h:Nat},k J J' h=true->J'[h]?=J[h]?
def G9 [AA] {ρ:Type} (J J':Aa) (m:Option ρ):Option ρ:=bif AA.q J J' then m else none
def Km [AA] {ρ:Type} (a:Option Addr) (J J':Aa) (m:Option ρ):Option ρ:=
 match a with
 | some a=>bif AA.k J J' a.block then m else none
 | none=>m
def Mt [AA] {ρ:Type} (b:Bool) (J J':Aa) (m:Option ρ):Option ρ:=bif b then G9 J J' m else m
section
variable {ρ:Type}
def uA (P:Program) (ts:List TypeId) (vs:List Value) (J:Aa) (K:Value->Aa->Option ρ):Option ρ:=
 match ts,vs with
 | [t],[v]=>(match P.underlying t,v with
   | some (.slice _),.slice _ n _=>K (.int .i64 n) J
   | some .string,.string s=>K (.int .i64 s.size) J
   | some (.map _ _),.map r=>(fj J r).bind fun es=>K (.int .i64 es.length) J
   | _,_=>none)
 | _,_=>none
def vJ (vs:List Value) (J:Aa) (K:Value->Aa->Option ρ):Option ρ:=
 match vs with
 | [.int k x,.int k' y]=>if k=k' then K (.int k (if y<x then y else x)) J else none
 | _=>none
def vI (vs:List Value) (J:Aa) (K:Value->Aa->Option ρ):Option ρ:=
 match vs with
 | [.int k x,.int k' y]=>if k=k' then K (.int k (if y>x then y else x)) J else none
 | _=>none
def jL [AA] (P:Program) (q:Bool) (ts:List TypeId) (vs:List Value) (J:Aa) (K:Value->Aa->Option ρ):Option ρ:=
 match ts,vs with
 | [t,t'],[.slice a l c,.slice a' l' c']=>match P.underlying t' with
   | some (.slice _)=>(Oc P t).bind fun E=>(AF P E (a,l,c) (a',l',c') J).bind fun r=>Mt q J r.2 (K (.slice r.1.1 r.1.2.1 r.1.2.2) r.2)
   | _=>none
 | _,_=>none
def tr (P:Program) (ts:List TypeId) (vs:List Value) (J:Aa) (K:Value->Aa->Option ρ):Option ρ:=
 match ts,vs with
 | [t,_],[.slice a l _,.slice a' l' _]=>(Oc P t).bind fun E=>(GY P E).bind fun s=>
   (CQ J s a' (Nat.min l' l)).bind fun vs=>
   (wZ J a vs).bind fun J'=>K (.int .i64 (Nat.min l' l:Nat)) J'
 | _,_=>none
def oT (P:Program) (ts:List TypeId) (vs:List Value) (J:Aa) (K:Value->Aa->Option ρ):Option ρ:=
 match ts,vs with
 | [t],[v]=>(match P.underlying t,v with
   | some (.map _ _),.map r=>(fj J r).bind fun _=>K (.tuple #[]) (jt J r [])
   | some (.slice E),.slice a l _=>
     (Fq P E).bind fun z=>if Gi z=false/\0<z.cells.size then (if l=0 then some J else a.bind fun a=>H2 J a.block a.off (rep l z.cells.toList)).bind fun J'=>K (.tuple #[]) J' else none
   | _,_=>none)
 | _,_=>none
def jT (P:Program) (ts:List TypeId) (vs:List Value) (J:Aa) (K:Value->Aa->Option ρ):Option ρ:=
 match ts,vs with
 | [t,_],[.map r,.int .i64 k]=>(match P.underlying t,r with
   | some (.map kt _),r=>if mF P kt then (fj J r).bind fun es=>K (.tuple #[]) (jt J r (Lu k es)) else none
   | _,_=>none)
 | _,_=>none
def Nl [AA] (P:Program) (q:Bool) (b:Builtin) (ts:List TypeId) (vs:List Value) (J:Aa) (K:Value->Aa->Option ρ):Option ρ:=
 match b with
 | .len=>uA P ts vs J K
 | .min=>vJ vs J K
 | .max=>vI vs J K
 | .append=>jL P q ts vs J K
 | .copy=>tr P ts vs J K
 | .clear=>oT P ts vs J K
 | .delete=>jT P ts vs J K
 | _=>none
inductive vh where
 | pure | ld | al | lo
 deriving DecidableEq
def ZO:Builtin->Bool->vh
 | .len,true=>.ld
 | .len,false=>.pure
 | .min,_ | .max,_=>.pure
 | _,_=>.lo
def RQ (P:Program) (ts:List TypeId):Bool:=
 match ts with
 | t::_=>(match P.underlying t with | some (.map _ _)=>true | _=>false)
 | []=>false
def F6 (P:Program) (o:Oper):vh:=
 match o.op with
 | .load .. | .lookup .. | .slice ..=>.ld
 | .box .. | .alloc .. | .buildSlice .. | .makeMap .. | .makeSlice ..=>.al
 | .store .. | .mapUpdate ..=>.lo
 | .call c=>match c.callee with
   | .builtin b=>ZO b (RQ P c.argTypes.toList)
   | _=>.al
 | _=>.pure
def Wf (P:Program) (S:FuncId->Bool) (o:Oper):Bool:=
 match o.op with
 | .call c=>match c.callee with
   | .value (.func f)=>S f
   | .builtin _=>(match F6 P o with | .lo=>false | _=>true)
   | _=>false
 | _=>(match F6 P o with | .lo=>false | _=>true)
def NV (P:Program) (S:FuncId->Bool):Code->Bool
 | .skip=>true
 | .region _ ops _=>ops.toList.all (Wf P S)
 | .seq a b=>NV P S a && NV P S b
 | .cond _ a b=>NV P S a && NV P S b
 | .block _ c=>NV P S c
 | .loop c=>NV P S c
 | .exit _=>true
 | .ret=>true
 | _=>false
def jJ (P:Program):Nat->FuncId->Bool
 | 0,_=>false
 | d+1,f=>bif Nat.beq f YF then false else match P.funcs[f]? with
   | some F=>match F.body with
     | some c=>NV P (jJ P d) c
     | none=>false
   | none=>false
def dR (P:Program) (f:FuncId):Bool:=jJ P 6 f
def jP (P:Program) (v:Value):Bool:=
 match v with
 | .func (.func f) _ _=>dR P f
 | _=>false
def iP (v:Value) (K:Value->Option ρ):Option ρ:=
 match v with
 | .pointer a=>a.bind fun a=>K (.pointer (some a))
 | .func (.func f) first cap=>K (.func (.func f) first cap)
 | .iface t u=>K (.iface t u)
 | _=>none
def Ii [AA] (P:Program) (call:Gc) (quiet:Bool) (o:Op) (ty:TypeId) (e:Operand->Option Value) (J:Aa) (K:Value->Aa->Option ρ):Option ρ:=
 match o with
 | .move x | .assign x=>(e x).bind fun v=>K v J
 | .pick c a b=>(e c).bind fun c=>match c with
   | .bool true=>(e a).bind fun v=>K v J
   | .bool false=>(e b).bind fun v=>K v J
   | _=>none
 | .box T x=>(e x).bind fun v=>bif Gi v then none else K (.pointer (some ⟨J.length,0,none⟩)) (J++[.cells v.cells.toList T true])
 | .alloc T=>(Fq P T).bind fun z=>if Gi z=false then K (.pointer (some ⟨J.length,0,none⟩)) (J++[.cells z.cells.toList T true]) else none
 | .build T parts=>(Fq P T).bind fun z=>tt e parts.toList fun ps=>match P.underlying T with
   | some (.struct fs)=>if (fs.toList.all fun f=>(P.info? f.type).isSome)=true/\Gi z=false then (Zl P T ps z.cells.toList).bind fun cs=>K (.agg cs.toArray) J else none
   | some (.array _ E)=>(GY P E).bind fun s=>if Gi z=false then (VU s ps z.cells.toList).bind fun cs=>K (.agg cs.toArray) J else none
   | _=>none
 | .buildSlice T n parts=>(Oc P T).bind fun E=>bif n == 0 then (bif parts.toList.isEmpty then (GY P E).bind fun _=>K (.slice (some ⟨J.length,0,some 0⟩) 0 0) (J++[.cells [] E true]) else none) else (Fq P E).bind fun z=>tt e parts.toList fun ps=>
   if GY P E=some z.cells.size/\0<n/\0<z.cells.size/\n*z.cells.size<=2 ^ 24/\Gi z=false then
    (VU z.cells.size ps (rep n z.cells.toList)).bind fun cs=>
     K (.slice (some ⟨J.length,0,none⟩) n n) (J++[.cells cs E true])
   else none
 | .load T x=>(e x).bind fun v=>match v with
   | .pointer a=>a.bind fun a=>
     bif JQ P T then (if GY P T=some (flat P 10 T).length then Za (flat P 10 T) J a.block a.off fun vs=>K (.agg vs.toArray) J else none)
     else (P.underlying T).bind fun _=>qZ (pj P T) J a.block a.off fun v=>K v J
   | _=>none
 | .store T x y=>(e x).bind fun v=>(e y).bind fun u=>match v with
   | .pointer a=>a.bind fun a=>match u with
     | .agg vs=>if GY P T=some vs.size then (H2 J a.block a.off vs.toList).bind fun J'=>K undef J' else none
     | .tuple _=>none
     | u=>if GY P T=some 1 then (CT J a.block a.off u).bind fun J'=>K undef J' else none
   | _=>none
 | .nilCheck x=>(e x).bind fun v=>iP v fun v=>K v J
 | .binOp op T x y _=>(e x).bind fun a=>(e y).bind fun b=>uo P op T a b fun v=>K v J
 | .unOp op _ x=>(e x).bind fun a=>xd op a fun v=>K v J
 | .convert s d x=>(e x).bind fun v=>match P.underlying s,P.underlying d,v with
   | some (.int _),some (.int k),.int _ n=>K (.int k (k.wrap n)) J
   | _,_,_=>none
 | .makeInterface T x=>(e x).bind fun v=>match P.underlying T with
   | some (.interface _)=>none
   | some _=>K (.iface T v) J
   | none=>none
 | .makeFunc fn first cap=>(match fn with
   | .yield _=>none
   | fn=>qY e first.toList fun vs=>qY e cap.toList fun us=>K (.func fn vs.toArray us.toArray) J)
 | .makeMap _ none=>K (.map (some J.length)) (J++[.map []])
 | .makeSlice T l c=>(Oc P T).bind fun E=>(e l).bind fun l=>(e c).bind fun c=>match l,c with
   | .int .i64 l,.int .i64 c=>(bytesOf P E).bind fun by_=>if 0<=l/\l<=c/\c*by_<=2 ^ 40/\c<=2 ^ 40 then
     (Fq P E).bind fun z=>if GY P E=some z.cells.size/\0<z.cells.size/\Gi z=false then K (.slice (some ⟨J.length,0,none⟩) l.toNat c.toNat) (J++[.cells (rep c.toNat z.cells.toList) E true]) else none
     else none
   | _,_=>none
 | .slice T x lo hi mx=>(Oc P T).bind fun E=>(GY P E).bind fun s=>(e x).bind fun v=>nQ e lo fun lo=>nQ e hi fun hi=>nQ e mx fun mx=>match v with
   | .slice a len cap=>(F8 E s (a,len,cap) lo hi mx J).bind fun r=>K (.slice r.1 r.2.1 r.2.2) J
   | _=>none
 | .fieldAddr T x f=>(UX P T f).bind fun ot=>(e x).bind fun v=>match v with
   | .pointer a=>a.bind fun a=>(GY P ot.2).bind fun s=>if s=0 then none else K (.pointer (some ⟨a.block,a.off+ot.1,none⟩)) J
   | _=>none
 | .field T x f=>(UX P T f).bind fun ot=>(e x).bind fun v=>match v with
   | .agg vs=>bif JQ P ot.2 then (GY P ot.2).bind fun s=>K (.agg ((vs.toList.drop ot.1).take s).toArray) J
     else (P.underlying ot.2).bind fun _=>(vs.toList[ot.1]?).bind fun v=>K v J
   | _=>none
 | .indexAddr T x i=>match dM P T with
   | some (len,E)=>(GY P E).bind fun s=>(e x).bind fun v=>(e i).bind fun i=>match v,i with
     | .pointer a,.int _ n=>a.bind fun a=>if 0<=n/\n<len then K (.pointer (some ⟨a.block,a.off+n.toNat*s,none⟩)) J else none
     | _,_=>none
   | none=>(Oc P T).bind fun E=>(GY P E).bind fun s=>(e x).bind fun v=>(e i).bind fun i=>match v,i with
     | .slice a len _,.int _ n=>if 0<=n/\n<len then a.bind fun a=>K (.pointer (some ⟨a.block,a.off+n.toNat*s,none⟩)) J else none
     | _,_=>none
 | .index T x i=>(dM P T).bind fun le=>(e x).bind fun v=>(e i).bind fun i=>match v,i with
   | .agg vs,.int _ n=>bif JQ P le.2 then none else if 0<=n/\n<le.1 then (P.underlying le.2).bind fun _=>(GY P le.2).bind fun s=>(vs.toList[n.toNat*s]?).bind fun v=>uT (pj P le.2) v fun v=>K v J else none
   | _,_=>none
 | .lookup T m i ok=>(e m).bind fun m=>(e i).bind fun i=>match P.underlying T,m,i with
   | some (.map kt E),.map r,.int .i64 k=>if mF P kt then
     (fj J r).bind fun es=>(Fq P E).bind fun z=>
      uT (pj P E) ((MA es k).getD z) fun v=>K (bif ok then .tuple #[v,.bool (MA es k).isSome] else v) J else none
   | _,_,_=>none
 | .mapUpdate T m k v=>(e m).bind fun m=>(e k).bind fun k=>(e v).bind fun v=>match P.underlying T,m,k with
   | some (.map kt _),.map r,.int .i64 k=>if mF P kt then r.bind fun r=>(RS J r).bind fun es=>K undef (J.set r (.map (MB k v es))) else none
   | _,_,_=>none
 | .extract t i=>(e t).bind fun v=>match v with
   | .tuple vs=>(vs.toList[i]?).bind fun v=>K v J
   | _=>none
 | .call c=>match c.callee with
   | .builtin b=>qY e c.args.toList fun vs=>Nl P quiet b c.argTypes.toList vs J K
   | .value f=>(e f).bind fun fv=>qY e c.args.toList fun vs=>(Lc P call fv vs J).bind fun p=>
      Mt (quiet && !jP P fv) J p.2 (oH P ty p.1 fun v=>K v p.2)
   | .invoke _ _=>none
 | _=>none
end
def cf (regs:Bc):Operand->Option Value
 | .tmp t=>regs.getD t none
 | .const v=>if HE v then some v else none
 | .func f=>some (.func (.func f) #[] #[])
 | .global _=>none
def Jz (regs:Bc) (d:Option Nat) (v:Option Value):Bc:=
 match d with
 | some d=>regs.set d v
 | none=>regs
def Pc (all:List Oper) (j:Nat):Option Nat:=(all[j]?).bind (·.dst)
def MP (all:List Oper) (regs:Bc) (j:Nat):Option Value:=
 match Pc all j with
 | some d=>regs.getD d none
 | none=>none
def pf (dj:Option Nat) (known:List (Nat × Bool)) (o:Oper):Bool:=
 match o.op with
 | .pick (.tmp c) _ _=>some c == dj && (match o.guard with | none=>true | some g=>known.contains g)
 | _=>false
def P9 (dj:Option Nat) (known:List (Nat × Bool)):List (Nat × Oper)->Option (List (Nat × Oper) × (Nat × Oper) × List (Nat × Oper))
 | []=>none
 | io::rest=>bif pf dj known io.2 then some ([],io,rest) else (P9 dj known rest).map fun x=>(io::x.1,x.2.1,x.2.2)
def xr {α:Type} (want b:Bool) (x y:α):α:=
 match want with
 | true=>bif b then x else y
 | false=>bif b then y else x
def Mc (regs:Bc):List (Nat × Oper)->Bc
 | []=>regs
 | io::rest=>Mc (Jz regs io.2.dst none) rest
def Qq (all:List Oper):List (Nat × Oper)->Bc->Option Bc
 | [],regs=>some regs
 | io::rest,regs=>match io.2.guard with
   | none=>none
   | some (j,want)=>match MP all regs j with
     | some (.bool b)=>bif b == want then none else Qq all rest (Jz regs io.2.dst (some undef))
     | some (.tuple vs)=>bif vs.toList.isEmpty then Qq all rest (Jz regs io.2.dst (some undef)) else none
     | _=>none
abbrev QF:=Bool × List Nat
def aQ [AA] {ρ:Type} (a:Option Addr) (J J':Aa) (m:Option ρ):Option ρ:=
 match a with
 | some a=>bif Nat.blt a.block J.length && AA.k J J' a.block then m else none
 | none=>m
def RR [AA] {ρ:Type}:List Nat->Bc->Aa->Aa->Option ρ->Option ρ
 | [],_,_,_,m=>m
 | t::ts,regs,J,J',m=>match regs.getD t none with
   | some (.pointer a)=>Km a J J' (RR ts regs J J' m)
   | some (.slice a _ _)=>aQ a J J' (RR ts regs J J' m)
   | _=>none
def JR [AA] (P:Program) (call:Gc) (qf:Nat->QF) (all:List Oper):Nat->(ρ:Type)->List (Nat × Bool)->List (Nat × Oper)->Bc->Aa->(Bc->Aa->Option ρ)->Option ρ
 | 0,_,_,_,_,_,_=>none
 | fuel+1,ρ,known,ops,regs,J,K=>match ops with
   | []=>K regs J
   | io::rest=>match io.2.guard with
     | none=>Ii P call (qf io.1).1 io.2.op io.2.type (cf regs) J fun v J'=>RR (qf io.1).2 regs J J' (JR P call qf all fuel ρ known rest (Jz regs io.2.dst (some v)) J' K)
     | some (j,want)=>
       bif known.contains (j,want) then
        match MP all regs j with
        | some (.bool b)=>bif b == want then Ii P call (qf io.1).1 io.2.op io.2.type (cf regs) J fun v J'=>RR (qf io.1).2 regs J J' (JR P call qf all fuel ρ known rest (Jz regs io.2.dst (some v)) J' K) else none
        | _=>none
       else match P9 (Pc all j) known rest with
        | none=>none
        | some (body,p,after)=>match MP all regs j with
          | some (.bool b)=>
            (xr want b
              (JR P call qf all fuel (Bool × Aa) ((j,want)::known) (io::(body++[p])) (Jz regs (Pc all j) (some (.bool want))) J
               (fun regs' J'=>((p.2.dst.bind fun d=>regs'.getD d none).bind DK).bind fun r=>some (r,J')))
             ((Qq all (io::body) (Jz regs (Pc all j) (some (.bool !want)))).bind fun regs'=>
               JR P call qf all fuel (Bool × Aa) known [p] regs' J
                (fun regs' J'=>((p.2.dst.bind fun d=>regs'.getD d none).bind DK).bind fun r=>some (r,J')))).bind fun rσ=>
            JR P call qf all fuel ρ known after (Jz (Mc regs (io::body)) p.2.dst (some (.bool rσ.1))) rσ.2 K
          | _=>none
structure Hint where
 live:List Nat
 exits:List (Cc × List (Nat × Kd))
 deriving Inhabited
abbrev Hints:=List (Nat × Hint)
def Od:Code->Nat
 | .region id _ _=>id
 | .seq a _=>Od a
 | .block _ b=>Od b
 | .loop b=>Od b
 | .scope b=>Od b
 | .cond _ a _=>Od a
 | _=>0
def Hints.at (H:Hints) (id:Nat):Option Hint:=H.lookup id
abbrev Bl:=Cc × List Value × Aa
def N5 (live:List Nat):Nat->Bc->Bc
 | _,[]=>[]
 | i,r::rs=>(if live.contains i then r else none)::N5 live (i+1) rs
def Qi (live:List Nat) (regs:Bc):Bc:=N5 live 0 regs
def Zj (regs:Bc):List (Nat × Kd)->(List Value->Option Bl)->Option Bl
 | [],K=>K []
 | (t,_)::os,K=>(regs.getD t none).bind fun v=>Zj regs os fun vs=>K (v::vs)
def cx (x:Cc):List (Cc × List (Nat × Kd))->Option (List (Nat × Kd))
 | []=>none
 | e::es=>if x=e.1 then some e.2 else cx x es
def pack (exits:List (Cc × List (Nat × Kd))) (x:Cc) (regs:Bc) (J:Aa):Option Bl:=
 (cx x exits).bind fun outs=>Zj regs outs fun vs=>some (x,vs,J)
def UB {ρ:Type} (x:Cc) (K:Cc->List (Nat × Kd)->Option ρ):List (Cc × List (Nat × Kd))->Option ρ
 | []=>none
 | e::es=>if x=e.1 then K e.1 e.2 else UB x K es
def Wt:List (Nat × Kd)->List Value->Bc->Bc
 | (t,_)::os,v::vs,regs=>Wt os vs (regs.set t (some v))
 | _,_,regs=>regs
def XC:List Oper->List Nat
 | []=>[]
 | o::os=>o.dst.toList++XC os
def NQ:Code->List Nat
 | .region _ ops _=>XC ops.toList
 | .seq a b=>NQ a++NQ b
 | .cond _ a b=>NQ a++NQ b
 | .block _ b=>NQ b
 | .loop b=>NQ b
 | .scope b=>NQ b
 | _=>[]
def forget (c:Code) (regs:Bc):Bc:=go (NQ c) regs
where
 go:List Nat->Bc->Bc
  | [],regs=>regs
  | t::ts,regs=>go ts (regs.set t none)
def unpack {ρ:Type} (h:Hint) (c:Code) (regs:Bc) (r:Bl) (K:Cc->Bc->Aa->Option ρ):Option ρ:=
 UB r.1 (fun x outs=>bW (outs.map (·.2)) r.2.1 fun vs=>K x (Wt outs vs (forget c regs)) r.2.2) h.exits
def WQ (B:Bc->Aa->(Cc->Bc->Aa->Option Bl)->Option Bl) (h:Hint):Nat->Bc->Aa->Option Bl
 | 0,_,_=>none
 | n+1,regs,J=>B regs J fun x regs' J'=>match x with
   | .normal=>WQ B h n (Qi h.live regs') J'
   | x=>pack h.exits x regs' J'
def Zf (acc:List Nat) (o:Oper):Nat:=(o.after.toList.filter (Region.binds .any)).foldl (fun s e=>s ||| 2 ^ e.on ||| acc.getD e.on 0) 0
def LM:List Oper->List Nat->List Nat
 | [],acc=>acc
 | o::os,acc=>LM os (acc++[Zf acc o])
def ordered (b:List Nat) (i j:Nat):Bool:=(b.getD i 0).testBit j || (b.getD j 0).testBit i
def MT (o:Oper):Bool:=
 match o.op with
 | .call c=>(match c.callee with | .builtin _=>false | _=>true)
 | _=>false
def isApp (o:Oper):Bool:=
 match o.op with
 | .call c=>(match c.callee with | .builtin .append=>true | _=>false)
 | _=>false
def Xa (ops:List Oper):Nat->Nat->Nat->Option Nat
 | 0,_,_=>none
 | n+1,a,j=>match ops.zipIdx.filter fun p=>p.1.dst == some a with
   | []=>some a
   | [p]=>bif Nat.blt p.2 j then (match p.1.op with
     | .fieldAddr _ (.tmp b) _=>Xa ops n b p.2
     | .move (.tmp b)=>Xa ops n b p.2
     | .nilCheck (.tmp b)=>Xa ops n b p.2
     | _=>none) else none
   | _=>none
def fZ (ops:List Oper):Nat->Nat->Nat->Option Nat
 | 0,_,_=>none
 | n+1,a,j=>match ops.zipIdx.filter fun p=>p.1.dst == some a with
   | []=>some a
   | [p]=>bif Nat.blt p.2 j then (match p.1.op with
     | .move (.tmp b)=>fZ ops n b p.2
     | _=>none) else none
   | _=>none
def UU (ops:List Oper) (j:Nat):Option Nat:=
 match ops[j]? with
 | some o=>(match o.op with
   | .load _ (.tmp a)=>Xa ops 8 a j
   | .slice _ (.tmp a) _ _ _=>fZ ops 8 a j
   | _=>none)
 | none=>none
def my (ops:List Oper) (j:Nat):Bool:=
 match ops[j]? with
 | some o=>(match o.op with
   | .load _ (.tmp _)=>true
   | _=>false)
 | none=>false
def bare (ops:List Oper) (i:Nat):Bool:=
 match ops[i]? with
 | some o=>o.guard.isNone
 | none=>false
def loose (P:Program) (ops:List Oper) (i:Nat):List (Oper × Nat):=ops.zipIdx.filter fun x=>!(i == x.2 || F6 P x.1 == .pure || ordered (LM ops []) i x.2)
def vx (P:Program) (o:Oper):Bool:=
 match o.op with
 | .call c=>(match c.callee with | .value (.func f)=>dR P f | _=>false)
 | _=>false
def N7 (P:Program) (ops:List Oper) (draw:Bool) (i:Nat):QF:=
 bif draw then (match ops[i]? with
  | some o=>bif MT o || isApp o then (bif (loose P ops i).isEmpty then (false,[]) else
    bif (MT o && !vx P o && (loose P ops i).all (fun x=>my ops x.2 && (UU ops x.2).isSome)) || (isApp o && o.guard.isNone && (loose P ops i).all (fun x=>(UU ops x.2).isSome)) then (false,(loose P ops i).filterMap fun x=>UU ops x.2) else (true,[]))
    else (false,[])
  | none=>(false,[])) else (false,[])
def H3 (P:Program) (ops:List Oper) (qf:Nat->QF) (i:Nat):vh:=
 match ops[i]? with
 | some o=>bif MT o && !(qf i).1 then .lo else bif isApp o && (qf i).1 then .al else F6 P o
 | none=>.pure
def ux (ops:List Oper) (qf:Nat->QF) (i j:Nat):Bool:=
 match UU ops j with
 | some t=>(qf i).2.contains t && (my ops j || bare ops i)
 | none=>false
def vF (o:Oper):Bool:=
 match o.op with
 | .alloc _=>true
 | _=>false
def pT (ops:List Oper) (i j:Nat):Bool:=
 match ops[i]? with
 | some o=>(match o.op with
   | .store _ (.tmp a) _=>(match ops.zipIdx.filter fun p=>p.1.dst == some a with
     | [p]=>vF p.1 && Nat.blt j p.2 && Nat.blt p.2 i
     | _=>false)
   | _=>false)
 | none=>false
def MN (ops:List Oper) (qf:Nat->QF) (i j:Nat):Bool:=ux ops qf i j || (my ops j && pT ops i j)
def iN (ops:List Oper) (o:Oper):List Nat:=
 (o.op.operands.toList.filterMap fun | .tmp t=>some t | _=>none)++(match o.guard with | some (g,_)=>(Pc ops g).toList | none=>[])
def Um (P:Program) (ops:List Oper) (qf:Nat->QF):Bool:=
 let b:=LM ops []
 ops.zipIdx.all fun x=>
  (x.1.after.toList.all fun e=>!Region.binds .any e || Nat.blt e.on x.2) &&
  ops.zipIdx.all fun y=>x.2 == y.2 ||
   ((match x.1.dst with | some t=>(!(iN ops y.1).contains t && y.1.dst != some t) || ordered b x.2 y.2 | none=>true) &&
    ((H3 P ops qf x.2 != .lo || H3 P ops qf y.2 == .pure) || ordered b x.2 y.2 || MN ops qf x.2 y.2))
def Ch:Code->Option (Array Tmp × Code × Code)
 | .seq a b=>match Ch a with
   | some x=>some x
   | none=>Ch b
 | .cond _ a b=>match Ch a with
   | some x=>some x
   | none=>Ch b
 | .block _ c=>Ch c
 | .loop c=>Ch c
 | .scope c=>Ch c
 | .rangeFunc _ ps a b=>some (ps,a,b)
 | _=>none
def ranges:Code->Nat
 | .seq a b=>ranges a+ranges b
 | .cond _ a b=>ranges a+ranges b
 | .block _ c=>ranges c
 | .loop c=>ranges c
 | .scope c=>ranges c
 | .rangeFunc _ _ a b=>ranges a+ranges b+1
 | _=>0
def fc:Value->Bool
 | .func (.func _) _ _=>true
 | _=>false
def N1 {ρ:Type} (h:Nat) (J:Aa) (K:Cc->Aa->Option ρ):Option ρ:=
 match J[h]? with
 | some (.loop _ .ready _)=>K .normal (J.set h .dead)
 | some (.loop _ (.done x) _)=>match x with
   | .normal=>none
   | x=>K x (J.set h .dead)
 | _=>none
def Jo {ρ:Type} (h:Nat) (J:Aa) (L5 new:ti) (K:FuncId->Bc->Aa->Option ρ):Option ρ:=
 match J[h]? with
 | some (.loop f st regs)=>if st=L5 then K f regs (J.set h (.loop f new regs)) else none
 | _=>none
def Z3:List Tmp->List Value->Bc->Bc
 | t::ts,v::vs,regs=>Z3 ts vs (regs.set t (some v))
 | _,_,regs=>regs
def exec [AA] (P:Program) (call:Gc) (fid:FuncId) (H:Hints) (n:Nat):Code->(ρ:Type)->Bc->Aa->(Cc->Bc->Aa->Option ρ)->Option ρ
 | .skip,_,regs,J,K=>K .normal regs J
 | .region _ ops draw,_,regs,J,K=>bif draw && !Um P ops.toList (N7 P ops.toList draw) then none else
   JR P call (N7 P ops.toList draw) ops.toList (2*ops.toList.length+1) _ [] (ops.toList.zipIdx.map fun x=>(x.2,x.1)) regs J fun regs J=>K .normal regs J
 | .seq a b,ρ,regs,J,K=>exec P call fid H n a ρ regs J fun x regs J=>match x with
   | .normal=>exec P call fid H n b ρ regs J K
   | .exit id=>K (.exit id) regs J
   | .ret=>K .ret regs J
 | .cond c t e,ρ,regs,J,K=>match cf regs c with
   | some (.bool b)=>match H.at (2*Od t+1) with
     | none=>bif b then exec P call fid H n t ρ regs J K else exec P call fid H n e ρ regs J K
     | some h=>(bif b then exec P call fid H n t Bl regs J (pack h.exits) else exec P call fid H n e Bl regs J (pack h.exits)).bind fun r=>unpack h (.seq t e) regs r K
   | _=>none
 | .block id c,ρ,regs,J,K=>exec P call fid H n c ρ regs J fun x regs J=>match x with
   | .normal=>K .normal regs J
   | .exit id'=>if id'=id then K .normal regs J else K (.exit id') regs J
   | .ret=>K .ret regs J
 | .loop c,ρ,regs,J,K=>match H.at (2*Od c) with
   | none=>none
   | some h=>(WQ (fun regs J K=>exec P call fid H n c Bl regs J K) h n (Qi h.live regs) J).bind fun r=>unpack h c regs r K
 | .exit id,_,regs,J,K=>K (.exit id) regs J
 | .ret,_,regs,J,K=>K .ret regs J
 | .scope c,ρ,regs,J,K=>exec P call fid H n c ρ regs J K
 | .label _,_,regs,J,K=>K .normal regs J
 | .rangeFunc g ps _ b,_,regs,J,K=>match cf regs g,H.at (2*Od b) with
   | some gv,some h=>bif fc gv then (Lc P call gv [.func (.yield J.length) #[] #[]] (J++[.loop fid .ready (Qi h.live regs)])).bind fun r=>
     N1 J.length r.2 fun x J'=>UB x (fun x _=>K x regs J') h.exits else none
   | _,_=>none
 | _,_,_,_,_=>none
def cK (P:Program) (regs:Bc) (J:Aa) (r:ResultVar):Option Value:=
 match r with
 | .tmp t=>regs.getD t none
 | .cell t T=>(regs.getD t none).bind fun v=>match v with
   | .pointer (some a)=>bif JQ P T then (GY P T).bind fun s=>(M9 J a.block a.off s).bind fun vs=>some (.agg vs.toArray) else (P.underlying T).bind fun _=>D5 J a.block a.off
   | _=>none
def Wm (P:Program) (regs:Bc) (J:Aa):List ResultVar->Option (List Value)
 | []=>some []
 | r::rs=>(cK P regs J r).bind fun v=>(Wm P regs J rs).bind fun vs=>some (v::vs)
def KR:List Value->Value
 | [v]=>v
 | vs=>.tuple vs.toArray
def fin (P:Program) (f:Func) (x:Cc) (regs:Bc) (J:Aa):Option (Value × Aa):=
 match x with
 | .exit _=>none
 | _=>(Wm P regs J f.results.toList).bind fun vs=>some (KR vs,J)
abbrev Ext:=FuncId->Option (List Value->Aa->Option (Value × Aa))
def Ps (h:Nat) (z:Cc) (J:Aa):Option (Value × Aa):=
 match z with
 | .normal=>Jo h J .busy .ready fun _ _ J=>some (.bool true,J)
 | .exit id=>Jo h J .busy (.done (.exit id)) fun _ _ J=>some (.bool false,J)
 | .ret=>Jo h J .busy (.done .ret) fun _ _ J=>some (.bool false,J)
def Sj [AA] (P:Program) (call:Gc) (f:FuncId) (H:Hints) (n:Nat) (h:Nat) (c:Code) (y:Cc) (regs:Bc) (J:Aa):Option (Value × Aa):=
 match y with
 | .normal=>Jo h J .ready .busy fun _ _ J=>exec P call f H n c (Value × Aa) regs J fun z _ J=>Ps h z J
 | _=>none
def cN [AA] (P:Program) (call:Gc) (H:FuncId->Hints) (n:Nat) (args:List Value) (J:Aa):Option (Value × Aa):=
 match args with
 | .pointer (some a)::vs=>Jo a.block J .ready .ready fun f regs _=>
   (P.funcs[f]?).bind fun F=>F.body.bind fun c=>(Ch c).bind fun x=>if ranges c=1/\vs.length=x.1.toList.length then
    exec P call f (H f) n x.2.1 (Value × Aa) (Z3 x.1.toList vs regs) J fun y regs1 J1_=>Sj P call f (H f) n a.block x.2.2 y regs1 J1_
    else none
 | _=>none
def fn [AA] (P:Program) (X:Ext) (H:FuncId->Hints):Nat->Gc
 | 0,_,_,_=>none
 | k+1,f,args,J=>match X f with
   | some g=>g args J
   | none=>bif Nat.beq f YF then cN P (fn P X H k) H k args J else match P.funcs[f]? with
     | none=>none
     | some F=>match F.body with
       | none=>none
       | some c=>if F.name = "runtime.NumGoroutine" \/ 1<ranges c then none else
         exec P (fn P X H k) f (H f) k c (Value × Aa) (args.map some++List.replicate (F.ntmps-args.length) (some undef)) J (fin P F)
def TL:Option Addr->Option Addr->Bool
 | none,none=>true
 | some a,some b=>a.block == b.block && (a.off == b.off && (match a.spot,b.spot with | none,none=>true | some x,some y=>x == y | _,_=>false))
 | _,_=>false
def kD:Value->Value->Bool
 | .bool a,.bool b=>a == b
 | .int k a,.int k' b=>decide (k=k') && a == b
 | .pointer a,.pointer b=>TL a b
 | .slice a l c,.slice a' l' c'=>TL a a' && (l == l' && c == c')
 | .map none,.map none=>true
 | .map (some a),.map (some b)=>a == b
 | .nilFunc,.nilFunc=>true
 | .nilIface,.nilIface=>true
 | .agg a,.agg b=>a.toList.isEmpty && b.toList.isEmpty
 | .func (.func f) a b,.func (.func f') a' b'=>f == f' && (a.toList.isEmpty && (a'.toList.isEmpty && (b.toList.isEmpty && b'.toList.isEmpty)))
 | _,_=>false
def gk (v v':Value):Bool:=
 match v,v' with
 | .iface t x,.iface t' x'=>t == t' && kD x x'
 | v,v'=>kD v v'
def Wr:List Value->List Value->Bool
 | [],[]=>true
 | x::xs,y::ys=>gk x y && Wr xs ys
 | _,_=>false
def Wq:List (Int × Value)->List (Int × Value)->Bool
 | [],[]=>true
 | x::xs,y::ys=>x.1 == y.1 && (gk x.2 y.2 && Wq xs ys)
 | _,_=>false
def TM:List (Option Value)->List (Option Value)->Bool
 | [],[]=>true
 | none::xs,none::ys=>TM xs ys
 | some x::xs,some y::ys=>gk x y && TM xs ys
 | _,_=>false
def kE:Au->Au->Bool
 | .cells vs T rw,.cells vs' T' rw'=>Wr vs vs' && (T == T' && rw == rw')
 | .map es,.map es'=>Wq es es'
 | .loop f st r,.loop f' st' r'=>f == f' && (decide (st=st') && TM r r')
 | .dead,.dead=>true
 | _,_=>false
def gh:Aa->Aa->Bool
 | [],_=>true
 | x::xs,y::ys=>kE x y && gh xs ys
 | _,_=>false
theorem gf:∀ {a b:Option Addr},TL a b=true->a=b
 | none,none,_=>rfl
 | some ⟨b1,o1,s1⟩,some ⟨b2,o2,s2⟩,h=>by
   simp only[TL,zn,zJ] at h;obtain ⟨rfl,rfl,h⟩:=h;cases s1 <;> cases s2 <;> simp at h <;> simp[h]
 | none,some _,h=>by simp[TL] at h
 | some _,none,h=>by simp[TL] at h
theorem isEmpty_eq {a:Array Value} (h:a.toList.isEmpty=true):a = #[]:=by
 apply Aci.1; simpa using h
theorem gg {v v':Value} (h:kD v v'=true):v=v':=by
 unfold kD at h;split at h
 ·simp at h; simp[h]
 ·simp at h; simp[h]
 ·rw[gf h]
 ·simp only[zn,zJ] at h;rw[gf h.1,h.2.1,h.2.2]
 ·rfl
 ·simp at h; simp[h]
 ·rfl
 ·rfl
 ·simp only[zn] at h;rw[isEmpty_eq h.1,isEmpty_eq h.2]
 ·simp only[zn,zJ] at h;rw[h.1,isEmpty_eq h.2.1,isEmpty_eq h.2.2.1,isEmpty_eq h.2.2.2.1,isEmpty_eq h.2.2.2.2]
 ·cases h
theorem Z2 {v v':Value} (h:gk v v'=true):v=v':=by
 unfold gk at h;split at h
 ·simp only[zn,zJ] at h;rw[h.1,gg h.2]
 ·exact gg h
theorem bC:∀ {v v':List Value},Wr v v'=true->v=v'
 | [],[],_=>rfl
 | x::xs,y::ys,h=>by
   simp only[Wr,zn] at h;rw[Z2 h.1,bC h.2]
 | [],_::_,h=>by simp[Wr] at h
 | _::_,[],h=>by simp[Wr] at h
theorem bB:∀ {v v':List (Int × Value)},Wq v v'=true->v=v'
 | [],[],_=>rfl
 | (a,x)::xs,(b,y)::ys,h=>by
   simp only[Wq,zn,zJ] at h;rw[h.1,Z2 h.2.1,bB h.2.2]
 | [],_::_,h=>by simp[Wq] at h
 | _::_,[],h=>by simp[Wq] at h
theorem Z1:∀ {v v':List (Option Value)},TM v v'=true->v=v'
 | [],[],_=>rfl
 | none::xs,none::ys,h=>by
   simp only[TM] at h;rw[Z1 h]
 | some x::xs,some y::ys,h=>by
   simp only[TM,zn] at h;rw[Z2 h.1,Z1 h.2]
 | [],_::_,h=>by simp[TM] at h
 | _::_,[],h=>by simp[TM] at h
 | none::_,some _::_,h=>by simp[TM] at h
 | some _::_,none::_,h=>by simp[TM] at h
theorem gj {o o':Au} (h:kE o o'=true):o=o':=by
 unfold kE at h;split at h
 ·simp only[zn,zJ] at h;rw[bC h.1,h.2.1,h.2.2]
 ·rw[bB h]
 ·simp only[zn,zJ,zA] at h;rw[h.1,h.2.1,Z1 h.2.2]
 ·rfl
 ·cases h
theorem gi:∀ {J J':Aa},gh J J'=true->J <+: J'
 | [],_,_=>Ado
 | x::xs,y::ys,h=>by
   simp only[gh,zn] at h;obtain ⟨t,ht⟩:=gi h.2;exact ⟨t,by rw[gj h.1,<- ht]; rfl⟩
 | _::_,[],h=>by simp[gh] at h
def sameAt (J J':Aa) (h:Nat):Bool:=
 match J[h]?,J'[h]? with
 | some o,some o'=>kE o o'
 | none,none=>true
 | _,_=>false
theorem nv {J J':Aa} {h:Nat} (g:sameAt J J' h=true):J'[h]?=J[h]?:=by
 unfold sameAt at g;split at g
 ·rename_i o o' h1 h2;rw[h1,h2,gj g]
 ·rename_i h1 h2;rw[h1,h2]
 ·cases g
@[reducible] def uW:AA:=⟨gh,gi,sameAt,nv⟩
open Classical in
@[reducible] def Ap:AA:=⟨fun J J'=>decide (J <+: J'),fun h=>by simpa using h,fun J J' h=>decide (J'[h]?=J[h]?),fun h=>by simpa using h⟩
end
end Go.AX
