/- Part 0. -/
import Derived.WalkKit
import Derived.KernelRfl
set_option linter.unusedVariables false
set_option linter.unusedSimpArgs false
set_option linter.unusedSectionVars false
namespace Go.AX
open Go
noncomputable section
abbrev AI:=@Option.bind_some
abbrev AT:=@List.getElem?_append_left
abbrev By:=@cond_false
abbrev IN:=@Nat.zero_add
abbrev IS:=@cond_true
abbrev IT:=@Int.toNat_natCast
abbrev Aai:=@Option.bind_eq_some_iff
abbrev Aaj:=@decide_eq_false
abbrev Aak:=@decide_eq_true
abbrev Aaq:=@List.append_assoc
abbrev Aar:=@List.getElem?_set_ne
abbrev Aas:=@List.mem_append
abbrev Aat:=@if_true
abbrev Aau:=@List.getElem?_eq_getElem
abbrev Aaw:=@List.length_append
abbrev Aax:=@List.getD_eq_getElem?_getD
abbrev Aay:=@if_pos
abbrev Aaz:=@if_neg
abbrev Aa0:=@Nat.add_zero
abbrev Aa1:=@Nat.le_refl
abbrev Aa2:=@List.getElem?_set_self
abbrev Aa4:=@Bool.not_true
abbrev Aa5:=@if_false
abbrev Abx:=@bne_self_eq_false
abbrev Ab1:=@List.append_nil
abbrev Ab5:=@List.getElem?_concat_length
abbrev Ab6:=@List.getElem?_eq_some_iff
abbrev Ab7:=@List.mem_cons_of_mem
abbrev Ab8:=@Bool.false_eq_true
abbrev Ab9:=@run_underlying
abbrev Aca:=@List.getElem?_cons_zero
abbrev Acb:=@Result.andThen_ok
abbrev Acd:=@List.mem_cons
abbrev Ace:=@List.getElem?_cons_succ
abbrev Acf:=@List.getElem?_append_right
abbrev Acg:=@Nat.mul_one
abbrev Ach:=@beq_eq_false_iff_ne
abbrev Acj:=@List.mem_cons_self
abbrev Acp:=@Nat.lt_of_lt_of_le
abbrev Ac1:=@List.mem_singleton
abbrev Ac2:=@List.drop_eq_getElem_cons
abbrev Ac3:=@List.length_singleton
abbrev Adb:=@List.getElem_mem
abbrev Ade:=@List.drop_eq_nil_of_le
abbrev Adf:=@List.drop_zero
abbrev Adi:=@Bool.not_false
abbrev Adj:=@List.length_set
abbrev Adk:=@Ne.symm
abbrev Adl:=@List.length_cons
abbrev Adm:=@Sem.run_bind
abbrev Adn:=@List.length_take
abbrev Ado:=@Nat.zero_le
abbrev Adp:=@List.length_drop
abbrev Adq:=@Sem.run_pure
abbrev Adr:=@List.getElem?_eq_none
abbrev Ads:=@Bool.and_eq_true
abbrev Adt:=@Nat.le_trans
abbrev Adu:=@eq_true
abbrev Adv:=@Classical.byContradiction
abbrev Adw:=@List.mem_flatten
abbrev Adx:=@List.length_nil
abbrev Ady:=@List.take_of_length_le
abbrev Adz:=@bne_iff_ne
abbrev Ad0:=@List.getElem?_drop
abbrev Ad1:=@beq_self_eq_true
abbrev Ad2:=@List.getElem?_take
abbrev Ad3:=@Nat.add_assoc
abbrev Ad4:=@decide_eq_true_eq
abbrev Ad5:=@List.nodup_append
abbrev Ad6:=@Nat.zero_mul
abbrev Ad7:=@List.mem_iff_getElem
abbrev Ad8:=@List.ext_getElem?
abbrev Ad9:=@List.pairwise_cons
abbrev Aea:=@List.mem_filter
abbrev Aeb:=@List.mem_map
abbrev Aec:=@congrArg
abbrev Aed:=@List.getElem?_set
abbrev Aee:=@List.not_mem_nil
abbrev Aef:=@List.foldl_cons
abbrev Aeg:=@List.getElem?_map
abbrev Aeh:=@List.length_eq_zero_iff
abbrev Aei:=@beq_iff_eq
abbrev Aej:=@Option.some.inj
abbrev Aek:=@List.map_cons
abbrev Ael:=@Nat.lt_or_ge
abbrev Aem:=@List.getElem?_replicate
abbrev Aen:=@Array.length_toList
abbrev Aeo:=@List.length_map
abbrev Aep:=@not_false_eq_true
abbrev Aeq:=@Option.some.injEq
abbrev Aer:=@Nat.mul_le_mul_right
abbrev Aes:=@List.getElem_take
abbrev Aet:=@List.length_replicate
abbrev Aeu:=@List.replicate_succ
abbrev Aev:=@Nat.mod_lt
abbrev Aew:=@Option.isSome_none
abbrev Aex:=@List.set_cons_succ
abbrev Aey:=@List.head?_cons
abbrev Aez:=@List.mem_zipIdx_iff_getElem?
abbrev Ae0:=@List.filter_cons
abbrev Ae1:=@List.length_pos_iff
abbrev Ae2:=@Nat.lt_trichotomy
abbrev Ae3:=@List.getElem_drop
abbrev Ae4:=@List.tail_cons
abbrev Ae5:=@List.nil_append
abbrev Ae6:=@Nat.lt_irrefl
abbrev Ae7:=@List.map_append
abbrev Ae8:=@List.getElem_append_right
abbrev Ae9:=@not_true_eq_false
abbrev Afa:=@Array.getElem?_toList
abbrev Afb:=@List.set_append_right
abbrev Afc:=@List.length_filter_le
abbrev Afd:=@List.take_append_drop
abbrev Afe:=@List.cons.inj
abbrev Aff:=@Array.getElem?_setIfInBounds
abbrev Afg:=@List.prefix_rfl
abbrev Afh:=@Bool.or_eq_true
abbrev Afi:=@List.nodup_cons
abbrev Afj:=@List.set_cons_zero
abbrev Afk:=@IntKind.wrap_i64
abbrev Afl:=@Nat.sub_self
abbrev Afm:=@Int.toNat_zero
abbrev Afn:=@Int.tdiv_eq_ediv_of_nonneg
abbrev Afo:=@List.getElem?_range
abbrev Afp:=@Int.le_refl
abbrev Afq:=@List.eraseIdx_eq_take_drop_succ
abbrev Afr:=@List.all_eq_true
abbrev Afs:=@Option.getD_some
abbrev Aft:=@Int.tmod_lt_of_pos
abbrev Afu:=@List.mem_flatMap
abbrev Afv:=@List.filter_append
abbrev Afw:=@List.getElem_append_left
abbrev Afx:=@List.mem_of_getElem?
abbrev Afy:=@run_sliceBound
abbrev Afz:=@and_self
abbrev Af0:=@Classical.not_not
abbrev Af1:=@List.foldl_append
abbrev Af2:=@List.find?_cons
abbrev Af3:=@Option.map_some
abbrev Af4:=@Array.getD_eq_getD_getElem?
abbrev Af5:=@List.getElem_cons_zero
abbrev Af6:=@Nat.add_mul
abbrev Af7:=@Bool.true_and
abbrev Af8:=@List.range'_succ
abbrev Af9:=@List.mem_replicate
abbrev Aga:=@or_false
abbrev Agb:=@List.length_eraseIdx_of_lt
abbrev Agc:=@List.pairwise_iff_getElem
abbrev Agd:=@List.mem_or_eq_of_mem_set
abbrev Age:=@Nat.min_eq_left
abbrev Agf:=@Bool.not_eq_true'
abbrev Agg:=@List.mem_of_mem_drop
abbrev Agh:=@List.mem_range'_1
abbrev Agi:=@wpIn_mono
abbrev Agj:=@Nat.mul_comm
abbrev Agk:=@List.getElem_cons_succ
abbrev Agl:=@List.range_succ
abbrev Agm:=@Int.tmod_nonneg
abbrev Agn:=@BitVec.eq_of_toNat_eq
abbrev Ago:=@List.take_add_one
abbrev Agp:=@List.length_range
abbrev Agq:=@List.flatMap_cons
abbrev Agr:=@List.mem_of_mem_take
abbrev Ags:=@Array.getElem?_eq_some_iff
abbrev Agt:=@Int.tmod_eq_emod_of_nonneg
abbrev Agu:=@List.take_zero
abbrev Agv:=@List.prefix_refl
abbrev Agw:=@List.cons_append
abbrev Agx:=@List.drop_succ_cons
abbrev Agy:=@List.map_congr_left
abbrev Agz:=@Oper.upon_value
abbrev Ag0:=@Nat.div_add_mod
abbrev Ag1:=@Option.bind_assoc
abbrev Ag2:=@Bool.false_and
abbrev Ag3:=@Bool.or_comm
abbrev Ag4:=@Bool.true_or
abbrev Ag5:=@List.mem_range
abbrev Ag6:=@List.getElem?_toArray
abbrev Ag7:=@List.singleton_append
abbrev Ag8:=@Array.toList_inj
abbrev Ag9:=@run_newObj_alloc
abbrev Aha:=@Nat.not_lt
abbrev Ahb:=@decide_eq_decide
abbrev Ahc:=@Bool.false_or
abbrev Ahd:=@List.eq_nil_of_length_eq_zero
abbrev Ahe:=@List.take_append_of_le_length
abbrev Ahf:=@decide_true
abbrev Ahg:=@List.pairwise_append
abbrev Ahh:=@not_or
abbrev Ahi:=@Nat.two_pow_pos
abbrev Ahj:=@Bool.eq_iff_iff
abbrev Ahk:=@List.getElem_of_mem
abbrev Ahl:=@List.take_succ_cons
abbrev Ahm:=@List.flatMap_append
abbrev Ahn:=@Nat.sub_zero
abbrev Aho:=@Nat.le_of_eq
abbrev Ahp:=@Array.toList_setIfInBounds
abbrev Ahq:=@Nat.blt_eq
abbrev Ahr:=@BitVec.toNat_ofNat
abbrev Ahs:=@Nat.eq_or_lt_of_le
abbrev Aht:=@Prod.ext
abbrev Ahu:=@Option.isSome_some
abbrev Ahv:=@List.foldl_nil
abbrev Ahw:=@Nat.pos_of_ne_zero
abbrev Ahy:=@List.flatten_cons
abbrev Ahz:=@List.pairwise_map
abbrev Ah0:=@World.cells?_some
abbrev Ah1:=@DataW.trod_struct
abbrev Ah2:=@List.all_cons
abbrev Ah4:=@List.take_length
abbrev Ah5:=@Nat.le_of_not_lt
abbrev Ah6:=@false_or
abbrev Ah7:=@Bool.cond_eq_ite
abbrev Ah9:=@BEq.rfl
abbrev Aic:=@decide_false
abbrev Aif:=@List.nil_prefix
abbrev Aig:=@Int.natCast_mul
abbrev Air:=@eq_false
abbrev Ais:=@Nat.one_mul
section
inductive CA where
 | normal | exit (id:Nat) | ret
 deriving DecidableEq,Inhabited
inductive yw where
 | ready | busy | done (x:CA)
 deriving DecidableEq,Inhabited
inductive Au where
 | cells (vs:List Value) (T:TypeId) (rw:Bool)
 | map (es:List (Int × Value))
 | loop (f:FuncId) (st:yw) (regs:List (Option Value))
 | dead
 deriving Inhabited
abbrev Aa:=List Au
abbrev Bo:=List (Option Value)
inductive Kd where
 | int (k:IntKind) | bool | str | ptr | slice | map | func | any
 deriving DecidableEq,Inhabited
def Bk (k:IntKind):Value->Option Int
 | .int a n=>if a=k then some n else none
 | _=>none
def Dl:Value->Option Bool
 | .bool b=>some b
 | _=>none
def toStr:Value->Option ByteArray
 | .string b=>some b
 | _=>none
def HR:Value->Option (Option Addr)
 | .pointer a=>some a
 | _=>none
def Eo:Value->Option (Option Addr × Nat × Nat)
 | .slice a l c=>some (a,l,c)
 | _=>none
def fc:Value->Option (Option Nat)
 | .map r=>some r
 | _=>none
def yQ:Value->Option (List Value)
 | .agg a=>some a.toList
 | _=>none
def az:Value->Option (List Value)
 | .tuple a=>some a.toList
 | _=>none
def CW (J:Aa) (b o:Nat):Option Value:=
 match J[b]? with
 | some (.cells a _ _)=>a[o]?
 | _=>none
def Aj (k:IntKind) (J:Aa) (b o:Nat):Option Int:=(CW J b o).bind (Bk k)
def Vy (J:Aa) (b o:Nat):Option Bool:=(CW J b o).bind Dl
def uW (J:Aa) (b o:Nat):Option ByteArray:=(CW J b o).bind toStr
def B9 (J:Aa) (b o:Nat):Option (Option Addr):=(CW J b o).bind HR
def Be (J:Aa) (b o:Nat):Option (Option Addr × Nat × Nat):=(CW J b o).bind Eo
def xH (J:Aa) (b o:Nat):Option (Option Nat):=(CW J b o).bind fc
section
variable {ρ:Type}
def asK (k:Kd) (v:Value) (K:Value->Option ρ):Option ρ:=
 match k with
 | .int k=>(Bk k v).bind fun n=>K (.int k n)
 | .bool=>(Dl v).bind fun b=>K (.bool b)
 | .str=>(toStr v).bind fun s=>K (.string s)
 | .ptr=>(HR v).bind fun a=>K (.pointer a)
 | .slice=>(Eo v).bind fun s=>K (.slice s.1 s.2.1 s.2.2)
 | .map=>(fc v).bind fun r=>K (.map r)
 | .func=>K v
 | .any=>K v
def iz:List Kd->List Value->(List Value->Option ρ)->Option ρ
 | [],_,K=>K []
 | k::ks,l,K=>l.head?.bind fun v=>asK k v fun v=>iz ks l.tail fun a=>K (v::a)
def wC (k:Kd) (J:Aa) (b o:Nat) (K:Value->Option ρ):Option ρ:=
 match k with
 | .int k=>(Aj k J b o).bind fun n=>K (.int k n)
 | .bool=>(Vy J b o).bind fun b=>K (.bool b)
 | .str=>(uW J b o).bind fun s=>K (.string s)
 | .ptr=>(B9 J b o).bind fun a=>K (.pointer a)
 | .slice=>(Be J b o).bind fun s=>K (.slice s.1 s.2.1 s.2.2)
 | .map=>(xH J b o).bind fun r=>K (.map r)
 | .func=>(CW J b o).bind K
 | .any=>(CW J b o).bind K
def cI:List Kd->Aa->Nat->Nat->(List Value->Option ρ)->Option ρ
 | [],_,_,_,K=>K []
 | k::ks,J,b,o,K=>wC k J b o fun v=>cI ks J b (o+1) fun a=>K (v::a)
end
def uQ:TypeDesc->Kd
 | .int k=>.int k
 | .bool=>.bool
 | .string=>.str
 | .pointer _=>.ptr
 | .slice _=>.slice
 | .map _ _=>.map
 | .func _ _ _=>.func
 | _=>.any
def flat (P:Program):Nat->TypeId->List Kd
 | 0,_=>[]
 | d+1,T=>match P.underlying T with
   | some (.struct a)=>a.toList.flatMap fun f=>flat P d f.type
   | some (.array n e)=>(List.range n).flatMap fun _=>flat P d e
   | some t=>[uQ t]
   | none=>[]
def Lm (P:Program) (T:TypeId):Bool:=
 match P.underlying T with
 | some (.struct _) | some (.array _ _)=>true
 | _=>false
def Bb (cs:List Value) (o:Nat) (vs:List Value):List Value:=cs.take o++vs++cs.drop (o+vs.length)
def IQ:Value->Bool
 | .bool _ | .int _ _ | .string _ | .pointer none | .slice none 0 0 | .map none | .nilFunc | .nilIface=>true
 | .func (.yield _) _ _=>false
 | .func _ a b=>a.toList.isEmpty && b.toList.isEmpty
 | _=>false
def IX:Value->Bool
 | .agg a=>a.toList.all IQ
 | .tuple a=>a.toList.all IQ
 | v=>IQ v
def Gq:Value->Bool
 | .tuple _=>true
 | _=>false
def CY (J:Aa) (b o:Nat) (v:Value):Option Aa:=
 match J[b]? with
 | some (.cells cs T true)=>if o<cs.length then some (J.set b (.cells (cs.set o v) T true)) else none
 | _=>none
def H5 (J:Aa) (b o:Nat) (vs:List Value):Option Aa:=
 match J[b]? with
 | some (.cells cs T true)=>if o+vs.length<=cs.length then some (J.set b (.cells (Bb cs o vs) T true)) else none
 | _=>none
def H6 (J:Aa) (b:Nat):Bool:=
 match J[b]? with
 | some (.cells _ _ rw)=>rw
 | some (.map _)=>true
 | _=>false
def Nm (J:Aa) (b o n:Nat):Option (List Value):=
 match J[b]? with
 | some (.cells a _ _)=>if o+n<=a.length then some ((a.drop o).take n) else none
 | _=>none
def Un (J:Aa) (r:Nat):Option (List (Int × Value)):=
 match J[r]? with
 | some (.map es)=>some es
 | _=>none
def NX (es:List (Int × Value)) (k:Int):Option Value:=(es.find? fun e=>k == e.1).map (·.2)
def NY (k:Int) (v:Value):List (Int × Value)->List (Int × Value)
 | []=>[(k,v)]
 | e::es=>if k == e.1 then (k,v)::es else e::NY k v es
def ML (k:Int):List (Int × Value)->List (Int × Value)
 | []=>[]
 | e::es=>if k == e.1 then es else e::ML k es
section
variable {ρ:Type}
def zH (op:BinOp) (k:IntKind) (a b:Int) (K:Value->Option ρ):Option ρ:=
 match op with
 | .add=>K (.int k (k.wrap (a+b)))
 | .sub=>K (.int k (k.wrap (a-b)))
 | .mul=>K (.int k (k.wrap (a*b)))
 | .quo=>if b=0 then none else K (.int k (k.wrap (a.tdiv b)))
 | .rem=>if b=0 then none else K (.int k (a.tmod b))
 | .and=>K (.int k (k.wrap (BitVec.ofInt k.bits a &&& BitVec.ofInt k.bits b).toNat))
 | .or=>K (.int k (k.wrap (BitVec.ofInt k.bits a ||| BitVec.ofInt k.bits b).toNat))
 | .xor=>K (.int k (k.wrap (BitVec.ofInt k.bits a ^^^ BitVec.ofInt k.bits b).toNat))
 | .andNot=>K (.int k (k.wrap (BitVec.ofInt k.bits a &&& ~~~ (BitVec.ofInt k.bits b)).toNat))
 | .eql=>K (.bool (a == b))
 | .neq=>K (.bool (a != b))
 | .lss=>K (.bool (decide (a<b)))
 | .leq=>K (.bool (decide (a<=b)))
 | .gtr=>K (.bool (decide (a>b)))
 | .geq=>K (.bool (decide (a>=b)))
 | .shl | .shr=>none
def jh (op:BinOp) (k:IntKind) (a b:Int) (K:Value->Option ρ):Option ρ:=
 if b<0 then none else
 match op with
 | .shl=>K (.int k (k.wrap (a*2 ^ (min b.toNat k.bits))))
 | .shr=>K (.int k (a.fdiv (2 ^ (min b.toNat k.bits))))
 | _=>none
def nG (P:Program) (T:TypeId) (a b:Value):Option Bool:=
 match P.underlying T,a,b with
 | some (.int _),.int k x,.int c y=>if k=c then some (x == y) else none
 | some .bool,.bool x,.bool y=>some (x == y)
 | some .string,.string x,.string y=>some (x == y)
 | _,_,_=>none
def bU (P:Program):List Field->List Value->List Value->Option Bool
 | [],[],[]=>some true
 | [f],[a],[b]=>nG P f.type a b
 | f::fs,a::as,b::bs=>(nG P f.type a b).bind fun t=>bif t then bU P fs as bs else some false
 | _,_,_=>none
def Ug (P:Program):Nat->List Field->Bool
 | _,[]=>true
 | i,f::fs=>f.name != "_" && f.offset == i && !Lm P f.type && Ug P (i+1) fs
def Lq (P:Program) (T:TypeId) (a b:Value):Option Bool:=
 match a,b with
 | .bool x,.bool y=>(match P.underlying T with | some .bool=>some (x == y) | _=>none)
 | .pointer none,.pointer y=>(match P.underlying T with | some (.pointer _)=>some y.isNone | _=>none)
 | .pointer x,.pointer none=>(match P.underlying T with | some (.pointer _)=>some x.isNone | _=>none)
 | .slice none _ _,.slice y _ _=>(match P.underlying T with | some (.slice _)=>some y.isNone | _=>none)
 | .slice x _ _,.slice none _ _=>(match P.underlying T with | some (.slice _)=>some x.isNone | _=>none)
 | .agg xs,.agg d=>(match P.underlying T with
   | some (.struct c)=>bif Ug P 0 c.toList && !P.stoodInHeld T && !P.eqGuardType P.depth T then bU P c.toList xs.toList d.toList else none
   | _=>none)
 | _,_=>none
def zG (P:Program) (op:BinOp) (T:TypeId) (x y:Value) (K:Value->Option ρ):Option ρ:=
 match x,y with
 | .int k a,.int c b=>match op with
   | .shl=>jh .shl k a b K
   | .shr=>jh .shr k a b K
   | _=>if k=c then zH op k a b K else none
 | x,y=>match op with
   | .eql=>(Lq P T x y).bind fun t=>K (.bool t)
   | .neq=>(Lq P T x y).bind fun t=>K (.bool (!t))
   | _=>none
def unA (op:UnOp) (x:Value) (K:Value->Option ρ):Option ρ:=
 match op,x with
 | .not,.bool b=>K (.bool !b)
 | .neg,.int k n=>K (.int k (k.wrap (0-n)))
 | _,_=>none
def Xh (P:Program) (T:TypeId) (f:Nat):Option (Nat × TypeId):=
 match P.underlying T with
 | some (.struct a)=>match a.toList[f]? with
   | some x=>some (x.offset,x.type)
   | none=>none
 | _=>none
def sr (P:Program) (T:TypeId):Bool:=
 match P.underlying T with
 | some (.int .i64)=>true
 | _=>false
def HV (P:Program) (T:TypeId):Option Nat:=(P.info? T).map (·.size)
def bytesOf (P:Program) (T:TypeId):Option Nat:=(P.info? T).map (·.bytes)
def elemAt (J:Aa) (b:Nat):Option TypeId:=
 match J[b]? with
 | some (.cells _ T _)=>some T
 | _=>none
def PN (P:Program) (T:TypeId):Option TypeId:=
 match P.underlying T with
 | some (.slice e)=>some e
 | _=>none
def jU (P:Program) (T:TypeId):Option (Nat × TypeId):=
 match P.underlying T with
 | some (.array n e)=>some (n,e)
 | _=>none
def FV (P:Program) (T:TypeId):Option Value:=(P.info? T).bind fun i=>i.zero.bind fun z=>if IX z then some z else none
def rep (n:Nat) (z:List Value):List Value:=(List.replicate n z).flatten
def bound (x:Option Value) (a top:Nat) (K:Nat->Option ρ):Option ρ:=
 match x with
 | none=>K a
 | some (.int _ i)=>if 0<=i/\i<=top then K i.toNat else none
 | some _=>none
def cX (P:Program) (T:TypeId):List (Nat × Value)->List Value->Option (List Value)
 | [],cs=>some cs
 | (i,v)::ps,cs=>match Xh P T i with
   | some (o,t)=>if HV P t=some v.cells.size/\o+v.cells.size<=cs.length/\Gq v=false then cX P T ps (Bb cs o v.cells.toList) else none
   | none=>none
def Yq (s:Nat):List (Nat × Value)->List Value->Option (List Value)
 | [],cs=>some cs
 | (i,v)::ps,cs=>if v.cells.size=s/\i*s+v.cells.size<=cs.length/\Gq v=false then Yq s ps (Bb cs (i*s) v.cells.toList) else none
def wB (e:Operand->Option Value):List Operand->(List Value->Option ρ)->Option ρ
 | [],K=>K []
 | x::xs,K=>(e x).bind fun v=>wB e xs fun a=>K (v::a)
def yB (e:Operand->Option Value):List (Nat × Operand)->(List (Nat × Value)->Option ρ)->Option ρ
 | [],K=>K []
 | (i,x)::xs,K=>(e x).bind fun v=>yB e xs fun a=>K ((i,v)::a)
def tD (e:Operand->Option Value) (x:Option Operand) (K:Option Value->Option ρ):Option ρ:=
 match x with
 | none=>K none
 | some x=>(e x).bind fun v=>K (some v)
def KF (n bytes:Nat):Prop:=n*bytes<=2 ^ 40/\n<=2 ^ 40
instance (n bytes:Nat):Decidable (KF n bytes):=inferInstanceAs (Decidable (_/\_))
def Da (J:Aa) (s:Nat) (x:Option Addr) (n:Nat):Option (List Value):=
 match x with
 | some a=>Nm J a.block a.off (n*s)
 | none=>if n=0 then some [] else none
def HU (a:Option Addr):Bool:=
 match a with
 | none=>true
 | some a=>a.spot.isSome
def LH (P:Program) (E:TypeId) (dst src:Option Addr × Nat × Nat) (J:Aa) (K:Value->Aa->Option ρ):Option ρ:=
 (HV P E).bind fun s=>(bytesOf P E).bind fun by_=>
 (Da J s src.1 src.2.1).bind fun new=>(FV P E).bind fun z=>
 if ¬ (Gq z=false/\HV P E=some z.cells.size/\0<z.cells.size) then none else
 if dst.2.1+src.2.1<=dst.2.2 then
  bif HU dst.1 then (if dst.2.1+src.2.1=0 then K (.slice dst.1 0 0) J else none)
  else dst.1.bind fun a=>(H5 J a.block (a.off+dst.2.1*s) new).bind fun J'=>K (.slice (some a) (dst.2.1+src.2.1) dst.2.2) J'
 else if KF (dst.2.1+src.2.1) by_/\0<by_ then
  bif HU dst.1 then (if dst.2.1=0 then K (.slice (some ⟨J.length,0,none⟩) src.2.1 src.2.1) (J++[Au.cells new E true]) else none)
  else dst.1.bind fun a=>if elemAt J a.block=some E then (Nm J a.block a.off (dst.2.1*s)).bind fun IY=>
    bif H6 J a.block then K (.slice (some ⟨J.length,0,none⟩) (dst.2.1+src.2.1) (dst.2.1+src.2.1)) (J.set a.block .dead++[Au.cells (IY++new) E true])
    else none else none
 else none
abbrev Bx:=Option Addr × Nat × Nat
def qJ (v:Value) (J:Aa):Option (Bx × Aa):=
 match v with
 | .slice a l c=>some ((a,l,c),J)
 | _=>none
def AH (P:Program) (E:TypeId) (dst src:Bx) (J:Aa):Option (Bx × Aa):=LH P E dst src J qJ
def Gj (E:TypeId) (s:Nat) (v:Bx) (lo hi b:Option Value) (J:Aa):Option Bx:=
 bif !b.isSome || hi.isSome then bound b v.2.2 v.2.2 fun m=>bound hi v.2.1 m fun h=>bound lo 0 h fun l=>
  if m=l then (match v.1 with
   | none=>some (none,0,0)
   | some a=>bif b.isSome then some (some ⟨a.block,a.off,some 0⟩,0,0) else if elemAt J a.block=some E then some (some a,0,0) else none)
  else v.1.bind fun a=>if elemAt J a.block=some E then some (some ⟨a.block,a.off+l*s,none⟩,h-l,m-l) else none
 else none
def stO (J:Aa) (a:Option Addr) (vs:List Value):Option Aa:=
 match a with
 | some a=>H5 J a.block a.off vs
 | none=>some J
def kO (J:Aa) (r:Option Nat):Option (List (Int × Value)):=
 match r with
 | none=>some []
 | some r=>Un J r
def oN (J:Aa) (r:Option Nat) (es:List (Int × Value)):Aa:=
 match r with
 | none=>J
 | some r=>J.set r (.map es)
def uO (P:Program) (T:TypeId):Kd:=
 match P.underlying T with
 | some t=>uQ t
 | none=>.any
def asT (P:Program) (T:TypeId) (v:Value) (K:Value->Option ρ):Option ρ:=
 match P.underlying T with
 | some (.struct _)=>(yQ v).bind fun l=>if l.length=(flat P 10 T).length then iz (flat P 10 T) l fun a=>K (.agg a.toArray) else none
 | some (.array _ _)=>none
 | some t=>asK (uQ t) v K
 | none=>none
def rC (P:Program):List TypeId->List Value->(List Value->Option ρ)->Option ρ
 | [],_,K=>K []
 | T::Ts,l,K=>l.head?.bind fun v=>asT P T v fun v=>rC P Ts l.tail fun a=>K (v::a)
def ur (P:Program) (T:TypeId) (v:Value) (K:Value->Option ρ):Option ρ:=
 match (P.info? T).map (·.desc) with
 | some (TypeDesc.tuple a)=>(az v).bind fun l=>if l.length=a.toList.length then rC P a.toList l fun b=>K (.tuple b.toArray) else none
 | _=>asT P T v K
end
def YF:FuncId:=1000000000
abbrev GK:=FuncId->List Value->Aa->Option (Value × Aa)
def iK (P:Program) (t:TypeId) (a:String):Option FuncId:=
 match P.info? t with
 | none=>none
 | some i=>match i.methods.find? (·.name == a) with
   | none=>none
   | some m=>match m.path.toList,m.func,P.underlying t with
     | [],some (f,false),some (.struct _)=>some f
     | [],some (f,true),some (.pointer _)=>some f
     | _,_,_=>none
def IW (P:Program) (call:GK) (f:Value) (vs:List Value) (J:Aa):Option (Value × Aa):=
 match f with
 | .func (.func f) first cap=>bif Nat.beq f YF then none else call f (first.toList++vs++cap.toList) J
 | .func (.yield h) _ _=>call YF (.pointer (some ⟨h,0,none⟩)::vs) J
 | .func (.method a) first _=>(match first.toList++vs with
   | .iface t v::rest=>(iK P t a).bind fun f=>bif Nat.beq f YF then none else call f (v::rest) J
   | _=>none)
 | _=>none
class AJ where
 q:Aa->Aa->Bool
 ok:∀ {J J':Aa},q J J'=true->J <+: J'
 k:Aa->Aa->Nat->Bool
 kok:∀ {J J':Aa} {h:Nat},k J J' h=true->J'[h]?=J[h]?
def FQ [AJ] {ρ:Type} (J J':Aa) (m:Option ρ):Option ρ:=bif AJ.q J J' then m else none
def HH [AJ] {ρ:Type} (a:Option Addr) (J J':Aa) (m:Option ρ):Option ρ:=
 match a with
 | some a=>bif AJ.k J J' a.block then m else none
 | none=>m
def NO [AJ] {ρ:Type} (b:Bool) (J J':Aa) (m:Option ρ):Option ρ:=bif b then FQ J J' m else m
section
variable {ρ:Type}
def zR (P:Program) (ts:List TypeId) (vs:List Value) (J:Aa) (K:Value->Aa->Option ρ):Option ρ:=
 match ts,vs with
 | [t],[v]=>(match P.underlying t,v with
   | some (.slice _),.slice _ n _=>K (.int .i64 n) J
   | some .string,.string s=>K (.int .i64 s.size) J
   | some (.map _ _),.map r=>(kO J r).bind fun es=>K (.int .i64 es.length) J
   | _,_=>none)
 | _,_=>none
def Abt (vs:List Value) (J:Aa) (K:Value->Aa->Option ρ):Option ρ:=
 match vs with
 | [.int k x,.int a y]=>if k=a then K (.int k (if y<x then y else x)) J else none
 | _=>none
def Abs (vs:List Value) (J:Aa) (K:Value->Aa->Option ρ):Option ρ:=
 match vs with
 | [.int k x,.int a y]=>if k=a then K (.int k (if y>x then y else x)) J else none
 | _=>none
def py [AJ] (P:Program) (q:Bool) (ts:List TypeId) (vs:List Value) (J:Aa) (K:Value->Aa->Option ρ):Option ρ:=
 match ts,vs with
 | [t,t'],[.slice a l c,.slice b e d]=>match P.underlying t' with
   | some (.slice _)=>(PN P t).bind fun E=>(AH P E (a,l,c) (b,e,d) J).bind fun r=>NO q J r.2 (K (.slice r.1.1 r.1.2.1 r.1.2.2) r.2)
   | _=>none
 | _,_=>none
def yA (P:Program) (ts:List TypeId) (vs:List Value) (J:Aa) (K:Value->Aa->Option ρ):Option ρ:=
 match ts,vs with
 | [t,_],[.slice a l _,.slice c b _]=>(PN P t).bind fun E=>(HV P E).bind fun s=>
   (Da J s c (Nat.min b l)).bind fun vs=>
   (stO J a vs).bind fun J'=>K (.int .i64 (Nat.min b l:Nat)) J'
 | _,_=>none
def uD (P:Program) (ts:List TypeId) (vs:List Value) (J:Aa) (K:Value->Aa->Option ρ):Option ρ:=
 match ts,vs with
 | [t],[v]=>(match P.underlying t,v with
   | some (.map _ _),.map r=>(kO J r).bind fun _=>K (.tuple #[]) (oN J r [])
   | some (.slice E),.slice a l _=>
     (FV P E).bind fun z=>if Gq z=false/\0<z.cells.size then (if l=0 then some J else a.bind fun a=>H5 J a.block a.off (rep l z.cells.toList)).bind fun J'=>K (.tuple #[]) J' else none
   | _,_=>none)
 | _,_=>none
def pF (P:Program) (ts:List TypeId) (vs:List Value) (J:Aa) (K:Value->Aa->Option ρ):Option ρ:=
 match ts,vs with
 | [t,_],[.map r,.int .i64 k]=>(match P.underlying t,r with
   | some (.map a _),r=>if sr P a then (kO J r).bind fun es=>K (.tuple #[]) (oN J r (ML k es)) else none
   | _,_=>none)
 | _,_=>none
def OI [AJ] (P:Program) (q:Bool) (b:Builtin) (ts:List TypeId) (vs:List Value) (J:Aa) (K:Value->Aa->Option ρ):Option ρ:=
 match b with
 | .len=>zR P ts vs J K
 | .min=>Abt vs J K
 | .max=>Abs vs J K
 | .append=>py P q ts vs J K
 | .copy=>yA P ts vs J K
 | .clear=>uD P ts vs J K
 | .delete=>pF P ts vs J K
 | _=>none
inductive Cls where
 | pure | ld | al | lo
 deriving DecidableEq
def eu:Builtin->Bool->Cls
 | .len,true=>.ld
 | .len,false=>.pure
 | .min,_ | .max,_=>.pure
 | _,_=>.lo
def Ul (P:Program) (ts:List TypeId):Bool:=
 match ts with
 | t::_=>(match P.underlying t with | some (.map _ _)=>true | _=>false)
 | []=>false
def Gh (P:Program) (o:Oper):Cls:=
 match o.op with
 | .load .. | .lookup .. | .slice ..=>.ld
 | .box .. | .alloc .. | .buildSlice .. | .makeMap .. | .makeSlice ..=>.al
 | .store .. | .mapUpdate ..=>.lo
 | .call c=>match c.callee with
   | .builtin b=>eu b (Ul P c.argTypes.toList)
   | _=>.al
 | _=>.pure
def Y8 (P:Program) (S:FuncId->Bool) (o:Oper):Bool:=
 match o.op with
 | .call c=>match c.callee with
   | .value (.func f)=>S f
   | .builtin _=>(match Gh P o with | .lo=>false | _=>true)
   | _=>false
 | _=>(match Gh P o with | .lo=>false | _=>true)
def PF (P:Program) (S:FuncId->Bool):Code->Bool
 | .skip=>true
 | .region _ ops _=>ops.toList.all (Y8 P S)
 | .seq a b=>PF P S a && PF P S b
 | .cond _ a b=>PF P S a && PF P S b
 | .block _ c=>PF P S c
 | .loop c=>PF P S c
 | .exit _=>true
 | .ret=>true
 | _=>false
def px (P:Program):Nat->FuncId->Bool
 | 0,_=>false
 | d+1,f=>bif Nat.beq f YF then false else match P.funcs[f]? with
   | some F=>match F.body with
     | some c=>PF P (px P d) c
     | none=>false
   | none=>false
def jZ (P:Program) (f:FuncId):Bool:=px P 6 f
def pB (P:Program) (v:Value):Bool:=
 match v with
 | .func (.func f) _ _=>jZ P f
 | _=>false
def og (v:Value) (K:Value->Option ρ):Option ρ:=
 match v with
 | .pointer a=>a.bind fun a=>K (.pointer (some a))
 | .func (.func f) first cap=>K (.func (.func f) first cap)
 | .iface t u=>K (.iface t u)
 | _=>none
def Jv [AJ] (P:Program) (call:GK) (quiet:Bool) (o:Op) (ty:TypeId) (e:Operand->Option Value) (J:Aa) (K:Value->Aa->Option ρ):Option ρ:=
 match o with
 | .move x | .assign x=>(e x).bind fun v=>K v J
 | .pick c a b=>(e c).bind fun c=>match c with
   | .bool true=>(e a).bind fun v=>K v J
   | .bool false=>(e b).bind fun v=>K v J
   | _=>none
 | .box T x=>(e x).bind fun v=>bif Gq v then none else K (.pointer (some ⟨J.length,0,none⟩)) (J++[.cells v.cells.toList T true])
 | .alloc T=>(FV P T).bind fun z=>if Gq z=false then K (.pointer (some ⟨J.length,0,none⟩)) (J++[.cells z.cells.toList T true]) else none
 | .build T parts=>(FV P T).bind fun z=>yB e parts.toList fun j=>match P.underlying T with
   | some (.struct B)=>if (B.toList.all fun f=>(P.info? f.type).isSome)=true/\Gq z=false then (cX P T j z.cells.toList).bind fun cs=>K (.agg cs.toArray) J else none
   | some (.array _ E)=>(HV P E).bind fun s=>if Gq z=false then (Yq s j z.cells.toList).bind fun cs=>K (.agg cs.toArray) J else none
   | _=>none
 | .buildSlice T n parts=>(PN P T).bind fun E=>bif n == 0 then (bif parts.toList.isEmpty then (HV P E).bind fun _=>K (.slice (some ⟨J.length,0,some 0⟩) 0 0) (J++[.cells [] E true]) else none) else (FV P E).bind fun z=>yB e parts.toList fun j=>
   if HV P E=some z.cells.size/\0<n/\0<z.cells.size/\n*z.cells.size<=2 ^ 24/\Gq z=false then
    (Yq z.cells.size j (rep n z.cells.toList)).bind fun cs=>
     K (.slice (some ⟨J.length,0,none⟩) n n) (J++[.cells cs E true])
   else none
 | .load T x=>(e x).bind fun v=>match v with
   | .pointer a=>a.bind fun a=>
     bif Lm P T then (if HV P T=some (flat P 10 T).length then cI (flat P 10 T) J a.block a.off fun g=>K (.agg g.toArray) J else none)
     else (P.underlying T).bind fun _=>wC (uO P T) J a.block a.off fun v=>K v J
   | _=>none
 | .store T x y=>(e x).bind fun v=>(e y).bind fun u=>match v with
   | .pointer a=>a.bind fun a=>match u with
     | .agg g=>if HV P T=some g.size then (H5 J a.block a.off g.toList).bind fun J'=>K undef J' else none
     | .tuple _=>none
     | u=>if HV P T=some 1 then (CY J a.block a.off u).bind fun J'=>K undef J' else none
   | _=>none
 | .nilCheck x=>(e x).bind fun v=>og v fun v=>K v J
 | .binOp op T x y _=>(e x).bind fun a=>(e y).bind fun b=>zG P op T a b fun v=>K v J
 | .unOp op _ x=>(e x).bind fun a=>unA op a fun v=>K v J
 | .convert s d x=>(e x).bind fun v=>match P.underlying s,P.underlying d,v with
   | some (.int _),some (.int k),.int _ n=>K (.int k (k.wrap n)) J
   | _,_,_=>none
 | .makeInterface T x=>(e x).bind fun v=>match P.underlying T with
   | some (.interface _)=>none
   | some _=>K (.iface T v) J
   | none=>none
 | .makeFunc fn first cap=>(match fn with
   | .yield _=>none
   | fn=>wB e first.toList fun g=>wB e cap.toList fun us=>K (.func fn g.toArray us.toArray) J)
 | .makeMap _ none=>K (.map (some J.length)) (J++[.map []])
 | .makeSlice T l c=>(PN P T).bind fun E=>(e l).bind fun l=>(e c).bind fun c=>match l,c with
   | .int .i64 l,.int .i64 c=>(bytesOf P E).bind fun by_=>if 0<=l/\l<=c/\c*by_<=2 ^ 40/\c<=2 ^ 40 then
     (FV P E).bind fun z=>if HV P E=some z.cells.size/\0<z.cells.size/\Gq z=false then K (.slice (some ⟨J.length,0,none⟩) l.toNat c.toNat) (J++[.cells (rep c.toNat z.cells.toList) E true]) else none
     else none
   | _,_=>none
 | .slice T x lo hi w=>(PN P T).bind fun E=>(HV P E).bind fun s=>(e x).bind fun v=>tD e lo fun lo=>tD e hi fun hi=>tD e w fun w=>match v with
   | .slice a len cap=>(Gj E s (a,len,cap) lo hi w J).bind fun r=>K (.slice r.1 r.2.1 r.2.2) J
   | _=>none
 | .fieldAddr T x f=>(Xh P T f).bind fun h=>(e x).bind fun v=>match v with
   | .pointer a=>a.bind fun a=>(HV P h.2).bind fun s=>if s=0 then none else K (.pointer (some ⟨a.block,a.off+h.1,none⟩)) J
   | _=>none
 | .field T x f=>(Xh P T f).bind fun h=>(e x).bind fun v=>match v with
   | .agg g=>bif Lm P h.2 then (HV P h.2).bind fun s=>K (.agg ((g.toList.drop h.1).take s).toArray) J
     else (P.underlying h.2).bind fun _=>(g.toList[h.1]?).bind fun v=>K v J
   | _=>none
 | .indexAddr T x i=>match jU P T with
   | some (len,E)=>(HV P E).bind fun s=>(e x).bind fun v=>(e i).bind fun i=>match v,i with
     | .pointer a,.int _ n=>a.bind fun a=>if 0<=n/\n<len then K (.pointer (some ⟨a.block,a.off+n.toNat*s,none⟩)) J else none
     | _,_=>none
   | none=>(PN P T).bind fun E=>(HV P E).bind fun s=>(e x).bind fun v=>(e i).bind fun i=>match v,i with
     | .slice a len _,.int _ n=>if 0<=n/\n<len then a.bind fun a=>K (.pointer (some ⟨a.block,a.off+n.toNat*s,none⟩)) J else none
     | _,_=>none
 | .index T x i=>(jU P T).bind fun le=>(e x).bind fun v=>(e i).bind fun i=>match v,i with
   | .agg g,.int _ n=>bif Lm P le.2 then none else if 0<=n/\n<le.1 then (P.underlying le.2).bind fun _=>(HV P le.2).bind fun s=>(g.toList[n.toNat*s]?).bind fun v=>asK (uO P le.2) v fun v=>K v J else none
   | _,_=>none
 | .lookup T m i ok=>(e m).bind fun m=>(e i).bind fun i=>match P.underlying T,m,i with
   | some (.map q E),.map r,.int .i64 k=>if sr P q then
     (kO J r).bind fun es=>(FV P E).bind fun z=>
      asK (uO P E) ((NX es k).getD z) fun v=>K (bif ok then .tuple #[v,.bool (NX es k).isSome] else v) J else none
   | _,_,_=>none
 | .mapUpdate T m k v=>(e m).bind fun m=>(e k).bind fun k=>(e v).bind fun v=>match P.underlying T,m,k with
   | some (.map q _),.map r,.int .i64 k=>if sr P q then r.bind fun r=>(Un J r).bind fun es=>K undef (J.set r (.map (NY k v es))) else none
   | _,_,_=>none
 | .extract t i=>(e t).bind fun v=>match v with
   | .tuple g=>(g.toList[i]?).bind fun v=>K v J
   | _=>none
 | .call c=>match c.callee with
   | .builtin b=>wB e c.args.toList fun g=>OI P quiet b c.argTypes.toList g J K
   | .value f=>(e f).bind fun A=>wB e c.args.toList fun g=>(IW P call A g J).bind fun p=>
      NO (quiet && !pB P A) J p.2 (ur P ty p.1 fun v=>K v p.2)
   | .invoke _ _=>none
 | _=>none
end
def iG (regs:Bo):Operand->Option Value
 | .tmp t=>regs.getD t none
 | .const v=>if IX v then some v else none
 | .func f=>some (.func (.func f) #[] #[])
 | .global _=>none
def KC (regs:Bo) (d:Option Nat) (v:Option Value):Bo:=
 match d with
 | some d=>regs.set d v
 | none=>regs
def QQ (all:List Oper) (j:Nat):Option Nat:=(all[j]?).bind (·.dst)
def Ol (all:List Oper) (regs:Bo) (j:Nat):Option Value:=
 match QQ all j with
 | some d=>regs.getD d none
 | none=>none
def uM (a:Option Nat) (known:List (Nat × Bool)) (o:Oper):Bool:=
 match o.op with
 | .pick (.tmp c) _ _=>some c == a && (match o.guard with | none=>true | some g=>known.contains g)
 | _=>false
def Rm (a:Option Nat) (known:List (Nat × Bool)):List (Nat × Oper)->Option (List (Nat × Oper) × (Nat × Oper) × List (Nat × Oper))
 | []=>none
 | io::rest=>bif uM a known io.2 then some ([],io,rest) else (Rm a known rest).map fun x=>(io::x.1,x.2.1,x.2.2)
def sel {α:Type} (want b:Bool) (x y:α):α:=
 match want with
 | true=>bif b then x else y
 | false=>bif b then y else x
def N0 (regs:Bo):List (Nat × Oper)->Bo
 | []=>regs
 | io::rest=>N0 (KC regs io.2.dst none) rest
def Sk (all:List Oper):List (Nat × Oper)->Bo->Option Bo
 | [],a=>some a
 | io::rest,a=>match io.2.guard with
   | none=>none
   | some (j,want)=>match Ol all a j with
     | some (.bool b)=>bif b == want then none else Sk all rest (KC a io.2.dst (some undef))
     | some (.tuple c)=>bif c.toList.isEmpty then Sk all rest (KC a io.2.dst (some undef)) else none
     | _=>none
abbrev QF:=Bool × List Nat
def gj [AJ] {ρ:Type} (a:Option Addr) (J J':Aa) (m:Option ρ):Option ρ:=
 match a with
 | some a=>bif Nat.blt a.block J.length && AJ.k J J' a.block then m else none
 | none=>m
def Um [AJ] {ρ:Type}:List Nat->Bo->Aa->Aa->Option ρ->Option ρ
 | [],_,_,_,m=>m
 | t::ts,b,J,J',m=>match b.getD t none with
   | some (.pointer a)=>HH a J J' (Um ts b J J' m)
   | some (.slice a _ _)=>gj a J J' (Um ts b J J' m)
   | _=>none
def Lo [AJ] (P:Program) (call:GK) (qf:Nat->QF) (all:List Oper):Nat->(ρ:Type)->List (Nat × Bool)->List (Nat × Oper)->Bo->Aa->(Bo->Aa->Option ρ)->Option ρ
 | 0,_,_,_,_,_,_=>none
 | fuel+1,ρ,known,ops,a,J,K=>match ops with
   | []=>K a J
   | io::rest=>match io.2.guard with
     | none=>Jv P call (qf io.1).1 io.2.op io.2.type (iG a) J fun v J'=>Um (qf io.1).2 a J J' (Lo P call qf all fuel ρ known rest (KC a io.2.dst (some v)) J' K)
     | some (j,want)=>
       bif known.contains (j,want) then
        match Ol all a j with
        | some (.bool b)=>bif b == want then Jv P call (qf io.1).1 io.2.op io.2.type (iG a) J fun v J'=>Um (qf io.1).2 a J J' (Lo P call qf all fuel ρ known rest (KC a io.2.dst (some v)) J' K) else none
        | _=>none
       else match Rm (QQ all j) known rest with
        | none=>none
        | some (body,p,after)=>match Ol all a j with
          | some (.bool b)=>
            (sel want b
              (Lo P call qf all fuel (Bool × Aa) ((j,want)::known) (io::(body++[p])) (KC a (QQ all j) (some (.bool want))) J
               (fun c J'=>((p.2.dst.bind fun d=>c.getD d none).bind Dl).bind fun r=>some (r,J')))
             ((Sk all (io::body) (KC a (QQ all j) (some (.bool !want)))).bind fun c=>
               Lo P call qf all fuel (Bool × Aa) known [p] c J
                (fun c J'=>((p.2.dst.bind fun d=>c.getD d none).bind Dl).bind fun r=>some (r,J')))).bind fun e=>
            Lo P call qf all fuel ρ known after (KC (N0 a (io::body)) p.2.dst (some (.bool e.1))) e.2 K
          | _=>none
structure Hint where
 live:List Nat
 exits:List (CA × List (Nat × Kd))
 deriving Inhabited
abbrev Hints:=List (Nat × Hint)
def PO:Code->Nat
 | .region id _ _=>id
 | .seq a _=>PO a
 | .block _ b=>PO b
 | .loop b=>PO b
 | .scope b=>PO b
 | .cond _ a _=>PO a
 | _=>0
def Hints.at (H:Hints) (id:Nat):Option Hint:=H.lookup id
abbrev Bq:=CA × List Value × Aa
def Pg (live:List Nat):Nat->Bo->Bo
 | _,[]=>[]
 | i,r::rs=>(if live.contains i then r else none)::Pg live (i+1) rs
def RY (live:List Nat) (regs:Bo):Bo:=Pg live 0 regs
def cU (regs:Bo):List (Nat × Kd)->(List Value->Option Bq)->Option Bq
 | [],K=>K []
 | (t,_)::os,K=>(regs.getD t none).bind fun v=>cU regs os fun a=>K (v::a)
def iQ (x:CA):List (CA × List (Nat × Kd))->Option (List (Nat × Kd))
 | []=>none
 | e::es=>if x=e.1 then some e.2 else iQ x es
def pack (a:List (CA × List (Nat × Kd))) (x:CA) (regs:Bo) (J:Aa):Option Bq:=
 (iQ x a).bind fun outs=>cU regs outs fun b=>some (x,b,J)
def WK {ρ:Type} (x:CA) (K:CA->List (Nat × Kd)->Option ρ):List (CA × List (Nat × Kd))->Option ρ
 | []=>none
 | e::es=>if x=e.1 then K e.1 e.2 else WK x K es
def YO:List (Nat × Kd)->List Value->Bo->Bo
 | (t,_)::os,v::vs,a=>YO os vs (a.set t (some v))
 | _,_,a=>a
def an:List Oper->List Nat
 | []=>[]
 | o::os=>o.dst.toList++an os
def P9:Code->List Nat
 | .region _ ops _=>an ops.toList
 | .seq a b=>P9 a++P9 b
 | .cond _ a b=>P9 a++P9 b
 | .block _ b=>P9 b
 | .loop b=>P9 b
 | .scope b=>P9 b
 | _=>[]
def forget (c:Code) (regs:Bo):Bo:=go (P9 c) regs
where
 go:List Nat->Bo->Bo
  | [],regs=>regs
  | t::ts,regs=>go ts (regs.set t none)
def unpack {ρ:Type} (h:Hint) (c:Code) (regs:Bo) (r:Bq) (K:CA->Bo->Aa->Option ρ):Option ρ:=
 WK r.1 (fun x outs=>iz (outs.map (·.2)) r.2.1 fun a=>K x (YO outs a (forget c regs)) r.2.2) h.exits
def Zw (B:Bo->Aa->(CA->Bo->Aa->Option Bq)->Option Bq) (h:Hint):Nat->Bo->Aa->Option Bq
 | 0,_,_=>none
 | n+1,b,J=>B b J fun x a J'=>match x with
   | .normal=>Zw B h n (RY h.live a) J'
   | x=>pack h.exits x a J'
def cO (acc:List Nat) (o:Oper):Nat:=(o.after.toList.filter (Region.binds .any)).foldl (fun s e=>s ||| 2 ^ e.on ||| acc.getD e.on 0) 0
def Ng:List Oper->List Nat->List Nat
 | [],acc=>acc
 | o::os,acc=>Ng os (acc++[cO acc o])
def ordered (b:List Nat) (i j:Nat):Bool:=(b.getD i 0).testBit j || (b.getD j 0).testBit i
def Ou (o:Oper):Bool:=
 match o.op with
 | .call c=>(match c.callee with | .builtin _=>false | _=>true)
 | _=>false
def isApp (o:Oper):Bool:=
 match o.op with
 | .call c=>(match c.callee with | .builtin .append=>true | _=>false)
 | _=>false
def Z6 (ops:List Oper):Nat->Nat->Nat->Option Nat
 | 0,_,_=>none
 | n+1,a,j=>match ops.zipIdx.filter fun p=>p.1.dst == some a with
   | []=>some a
   | [p]=>bif Nat.blt p.2 j then (match p.1.op with
     | .fieldAddr _ (.tmp b) _=>Z6 ops n b p.2
     | .move (.tmp b)=>Z6 ops n b p.2
     | .nilCheck (.tmp b)=>Z6 ops n b p.2
     | _=>none) else none
   | _=>none
def lQ (ops:List Oper):Nat->Nat->Nat->Option Nat
 | 0,_,_=>none
 | n+1,a,j=>match ops.zipIdx.filter fun p=>p.1.dst == some a with
   | []=>some a
   | [p]=>bif Nat.blt p.2 j then (match p.1.op with
     | .move (.tmp b)=>lQ ops n b p.2
     | _=>none) else none
   | _=>none
def Xf (ops:List Oper) (j:Nat):Option Nat:=
 match ops[j]? with
 | some o=>(match o.op with
   | .load _ (.tmp a)=>Z6 ops 8 a j
   | .slice _ (.tmp a) _ _ _=>lQ ops 8 a j
   | _=>none)
 | none=>none
def se (ops:List Oper) (j:Nat):Bool:=
 match ops[j]? with
 | some o=>(match o.op with
   | .load _ (.tmp _)=>true
   | _=>false)
 | none=>false
def bare (ops:List Oper) (i:Nat):Bool:=
 match ops[i]? with
 | some o=>o.guard.isNone
 | none=>false
def loose (P:Program) (ops:List Oper) (i:Nat):List (Oper × Nat):=ops.zipIdx.filter fun x=>!(i == x.2 || Gh P x.1 == .pure || ordered (Ng ops []) i x.2)
def Abk (P:Program) (o:Oper):Bool:=
 match o.op with
 | .call c=>(match c.callee with | .value (.func f)=>jZ P f | _=>false)
 | _=>false
def Pj (P:Program) (ops:List Oper) (draw:Bool) (i:Nat):QF:=
 bif draw then (match ops[i]? with
  | some o=>bif Ou o || isApp o then (bif (loose P ops i).isEmpty then (false,[]) else
    bif (Ou o && !Abk P o && (loose P ops i).all (fun x=>se ops x.2 && (Xf ops x.2).isSome)) || (isApp o && o.guard.isNone && (loose P ops i).all (fun x=>(Xf ops x.2).isSome)) then (false,(loose P ops i).filterMap fun x=>Xf ops x.2) else (true,[]))
    else (false,[])
  | none=>(false,[])) else (false,[])
def IG (P:Program) (ops:List Oper) (qf:Nat->QF) (i:Nat):Cls:=
 match ops[i]? with
 | some o=>bif Ou o && !(qf i).1 then .lo else bif isApp o && (qf i).1 then .al else Gh P o
 | none=>.pure
def zM (ops:List Oper) (qf:Nat->QF) (i j:Nat):Bool:=
 match Xf ops j with
 | some t=>(qf i).2.contains t && (se ops j || bare ops i)
 | none=>false
def Abq (o:Oper):Bool:=
 match o.op with
 | .alloc _=>true
 | _=>false
def vp (ops:List Oper) (i j:Nat):Bool:=
 match ops[i]? with
 | some o=>(match o.op with
   | .store _ (.tmp a) _=>(match ops.zipIdx.filter fun p=>p.1.dst == some a with
     | [p]=>Abq p.1 && Nat.blt j p.2 && Nat.blt p.2 i
     | _=>false)
   | _=>false)
 | none=>false
def Oj (ops:List Oper) (qf:Nat->QF) (i j:Nat):Bool:=zM ops qf i j || (se ops j && vp ops i j)
def od (ops:List Oper) (o:Oper):List Nat:=
 (o.op.operands.toList.filterMap fun | .tmp t=>some t | _=>none)++(match o.guard with | some (g,_)=>(QQ ops g).toList | none=>[])
def Wr (P:Program) (ops:List Oper) (qf:Nat->QF):Bool:=
 let b:=Ng ops []
 ops.zipIdx.all fun x=>
  (x.1.after.toList.all fun e=>!Region.binds .any e || Nat.blt e.on x.2) &&
  ops.zipIdx.all fun y=>x.2 == y.2 ||
   ((match x.1.dst with | some t=>(!(od ops y.1).contains t && y.1.dst != some t) || ordered b x.2 y.2 | none=>true) &&
    ((IG P ops qf x.2 != .lo || IG P ops qf y.2 == .pure) || ordered b x.2 y.2 || Oj ops qf x.2 y.2))
def Cy:Code->Option (Array Tmp × Code × Code)
 | .seq a b=>match Cy a with
   | some x=>some x
   | none=>Cy b
 | .cond _ a b=>match Cy a with
   | some x=>some x
   | none=>Cy b
 | .block _ c=>Cy c
 | .loop c=>Cy c
 | .scope c=>Cy c
 | .rangeFunc _ d a b=>some (d,a,b)
 | _=>none
def ranges:Code->Nat
 | .seq a b=>ranges a+ranges b
 | .cond _ a b=>ranges a+ranges b
 | .block _ c=>ranges c
 | .loop c=>ranges c
 | .scope c=>ranges c
 | .rangeFunc _ _ a b=>ranges a+ranges b+1
 | _=>0
def kK:Value->Bool
 | .func (.func _) _ _=>true
 | _=>false
def Pb {ρ:Type} (h:Nat) (J:Aa) (K:CA->Aa->Option ρ):Option ρ:=
 match J[h]? with
 | some (.loop _ .ready _)=>K .normal (J.set h .dead)
 | some (.loop _ (.done x) _)=>match x with
   | .normal=>none
   | x=>K x (J.set h .dead)
 | _=>none
def Kv {ρ:Type} (h:Nat) (J:Aa) (IY new:yw) (K:FuncId->Bo->Aa->Option ρ):Option ρ:=
 match J[h]? with
 | some (.loop f st a)=>if st=IY then K f a (J.set h (.loop f new a)) else none
 | _=>none
def dB:List Tmp->List Value->Bo->Bo
 | t::ts,v::vs,a=>dB ts vs (a.set t (some v))
 | _,_,a=>a
def exec [AJ] (P:Program) (call:GK) (fid:FuncId) (H:Hints) (n:Nat):Code->(ρ:Type)->Bo->Aa->(CA->Bo->Aa->Option ρ)->Option ρ
 | .skip,_,d,J,K=>K .normal d J
 | .region _ ops draw,_,d,J,K=>bif draw && !Wr P ops.toList (Pj P ops.toList draw) then none else
   Lo P call (Pj P ops.toList draw) ops.toList (2*ops.toList.length+1) _ [] (ops.toList.zipIdx.map fun x=>(x.2,x.1)) d J fun d J=>K .normal d J
 | .seq a b,ρ,d,J,K=>exec P call fid H n a ρ d J fun x d J=>match x with
   | .normal=>exec P call fid H n b ρ d J K
   | .exit id=>K (.exit id) d J
   | .ret=>K .ret d J
 | .cond c t e,ρ,d,J,K=>match iG d c with
   | some (.bool b)=>match H.at (2*PO t+1) with
     | none=>bif b then exec P call fid H n t ρ d J K else exec P call fid H n e ρ d J K
     | some h=>(bif b then exec P call fid H n t Bq d J (pack h.exits) else exec P call fid H n e Bq d J (pack h.exits)).bind fun r=>unpack h (.seq t e) d r K
   | _=>none
 | .block id c,ρ,d,J,K=>exec P call fid H n c ρ d J fun x d J=>match x with
   | .normal=>K .normal d J
   | .exit f=>if f=id then K .normal d J else K (.exit f) d J
   | .ret=>K .ret d J
 | .loop c,ρ,d,J,K=>match H.at (2*PO c) with
   | none=>none
   | some h=>(Zw (fun d J K=>exec P call fid H n c Bq d J K) h n (RY h.live d) J).bind fun r=>unpack h c d r K
 | .exit id,_,d,J,K=>K (.exit id) d J
 | .ret,_,d,J,K=>K .ret d J
 | .scope c,ρ,d,J,K=>exec P call fid H n c ρ d J K
 | .label _,_,d,J,K=>K .normal d J
 | .rangeFunc g j _ b,_,d,J,K=>match iG d g,H.at (2*PO b) with
   | some i,some h=>bif kK i then (IW P call i [.func (.yield J.length) #[] #[]] (J++[.loop fid .ready (RY h.live d)])).bind fun r=>
     Pb J.length r.2 fun x J'=>WK x (fun x _=>K x d J') h.exits else none
   | _,_=>none
 | _,_,_,_,_=>none
def iZ (P:Program) (regs:Bo) (J:Aa) (r:ResultVar):Option Value:=
 match r with
 | .tmp t=>regs.getD t none
 | .cell t T=>(regs.getD t none).bind fun v=>match v with
   | .pointer (some a)=>bif Lm P T then (HV P T).bind fun s=>(Nm J a.block a.off s).bind fun b=>some (.agg b.toArray) else (P.underlying T).bind fun _=>CW J a.block a.off
   | _=>none
def YE (P:Program) (regs:Bo) (J:Aa):List ResultVar->Option (List Value)
 | []=>some []
 | r::rs=>(iZ P regs J r).bind fun v=>(YE P regs J rs).bind fun a=>some (v::a)
def Lh:List Value->Value
 | [v]=>v
 | a=>.tuple a.toArray
def fin (P:Program) (f:Func) (x:CA) (regs:Bo) (J:Aa):Option (Value × Aa):=
 match x with
 | .exit _=>none
 | _=>(YE P regs J f.results.toList).bind fun a=>some (Lh a,J)
abbrev Ext:=FuncId->Option (List Value->Aa->Option (Value × Aa))
def Re (h:Nat) (z:CA) (J:Aa):Option (Value × Aa):=
 match z with
 | .normal=>Kv h J .busy .ready fun _ _ J=>some (.bool true,J)
 | .exit id=>Kv h J .busy (.done (.exit id)) fun _ _ J=>some (.bool false,J)
 | .ret=>Kv h J .busy (.done .ret) fun _ _ J=>some (.bool false,J)
def Uz [AJ] (P:Program) (call:GK) (f:FuncId) (H:Hints) (n:Nat) (h:Nat) (c:Code) (y:CA) (regs:Bo) (J:Aa):Option (Value × Aa):=
 match y with
 | .normal=>Kv h J .ready .busy fun _ _ J=>exec P call f H n c (Value × Aa) regs J fun z _ J=>Re h z J
 | _=>none
def jb [AJ] (P:Program) (call:GK) (H:FuncId->Hints) (n:Nat) (args:List Value) (J:Aa):Option (Value × Aa):=
 match args with
 | .pointer (some a)::vs=>Kv a.block J .ready .ready fun f d _=>
   (P.funcs[f]?).bind fun F=>F.body.bind fun c=>(Cy c).bind fun x=>if ranges c=1/\vs.length=x.1.toList.length then
    exec P call f (H f) n x.2.1 (Value × Aa) (dB x.1.toList vs d) J fun y b J1_=>Uz P call f (H f) n a.block x.2.2 y b J1_
    else none
 | _=>none
def fn [AJ] (P:Program) (X:Ext) (H:FuncId->Hints):Nat->GK
 | 0,_,_,_=>none
 | k+1,f,args,J=>match X f with
   | some g=>g args J
   | none=>bif Nat.beq f YF then jb P (fn P X H k) H k args J else match P.funcs[f]? with
     | none=>none
     | some F=>match F.body with
       | none=>none
       | some c=>if F.name = "runtime.NumGoroutine" \/ 1<ranges c then none else
         exec P (fn P X H k) f (H f) k c (Value × Aa) (args.map some++List.replicate (F.ntmps-args.length) (some undef)) J (fin P F)
def VL:Option Addr->Option Addr->Bool
 | none,none=>true
 | some a,some b=>a.block == b.block && (a.off == b.off && (match a.spot,b.spot with | none,none=>true | some x,some y=>x == y | _,_=>false))
 | _,_=>false
def qw:Value->Value->Bool
 | .bool a,.bool b=>a == b
 | .int k a,.int i b=>decide (k=i) && a == b
 | .pointer a,.pointer b=>VL a b
 | .slice a l c,.slice d j g=>VL a d && (l == j && c == g)
 | .map none,.map none=>true
 | .map (some a),.map (some b)=>a == b
 | .nilFunc,.nilFunc=>true
 | .nilIface,.nilIface=>true
 | .agg a,.agg b=>a.toList.isEmpty && b.toList.isEmpty
 | .func (.func f) a b,.func (.func h) d e=>f == h && (a.toList.isEmpty && (d.toList.isEmpty && (b.toList.isEmpty && e.toList.isEmpty)))
 | _,_=>false
def mc (v v':Value):Bool:=
 match v,v' with
 | .iface t x,.iface t' a=>t == t' && qw x a
 | v,v'=>qw v v'
def YM:List Value->List Value->Bool
 | [],[]=>true
 | x::xs,y::ys=>mc x y && YM xs ys
 | _,_=>false
def YL:List (Int × Value)->List (Int × Value)->Bool
 | [],[]=>true
 | x::xs,y::ys=>x.1 == y.1 && (mc x.2 y.2 && YL xs ys)
 | _,_=>false
def VM:List (Option Value)->List (Option Value)->Bool
 | [],[]=>true
 | none::xs,none::ys=>VM xs ys
 | some x::xs,some y::ys=>mc x y && VM xs ys
 | _,_=>false
def qz:Au->Au->Bool
 | .cells i T rw,.cells d e b=>YM i d && (T == e && rw == b)
 | .map es,.map a=>YL es a
 | .loop f st r,.loop g c h=>f == g && (decide (st=c) && VM r h)
 | .dead,.dead=>true
 | _,_=>false
def lY:Aa->Aa->Bool
 | [],_=>true
 | x::xs,y::ys=>qz x y && lY xs ys
 | _,_=>false
theorem lW:∀ {a b:Option Addr},VL a b=true->a=b
 | none,none,_=>rfl
 | some ⟨c,e,s1⟩,some ⟨d,f,s2⟩,h=>by
   simp only[VL,Ads,Aei] at h;obtain ⟨rfl,rfl,h⟩:=h;cases s1 <;> cases s2 <;> simp at h <;> simp[h]
 | none,some _,h=>by simp[VL] at h
 | some _,none,h=>by simp[VL] at h
theorem isEmpty_eq {a:Array Value} (h:a.toList.isEmpty=true):a = #[]:=by
 apply Ag8.1; simpa using h
theorem lX {v v':Value} (h:qw v v'=true):v=v':=by
 unfold qw at h;split at h
 ·simp at h; simp[h]
 ·simp at h; simp[h]
 ·rw[lW h]
 ·simp only[Ads,Aei] at h;rw[lW h.1,h.2.1,h.2.2]
 ·rfl
 ·simp at h; simp[h]
 ·rfl
 ·rfl
 ·simp only[Ads] at h;rw[isEmpty_eq h.1,isEmpty_eq h.2]
 ·simp only[Ads,Aei] at h;rw[h.1,isEmpty_eq h.2.1,isEmpty_eq h.2.2.1,isEmpty_eq h.2.2.2.1,isEmpty_eq h.2.2.2.2]
 ·cases h
theorem dz {v v':Value} (h:mc v v'=true):v=v':=by
 unfold mc at h;split at h
 ·simp only[Ads,Aei] at h;rw[h.1,lX h.2]
 ·exact lX h
theorem gR:∀ {v v':List Value},YM v v'=true->v=v'
 | [],[],_=>rfl
 | x::xs,y::ys,h=>by
   simp only[YM,Ads] at h;rw[dz h.1,gR h.2]
 | [],_::_,h=>by simp[YM] at h
 | _::_,[],h=>by simp[YM] at h
theorem gQ:∀ {v v':List (Int × Value)},YL v v'=true->v=v'
 | [],[],_=>rfl
 | (a,x)::xs,(b,y)::ys,h=>by
   simp only[YL,Ads,Aei] at h;rw[h.1,dz h.2.1,gQ h.2.2]
 | [],_::_,h=>by simp[YL] at h
 | _::_,[],h=>by simp[YL] at h
theorem dy:∀ {v v':List (Option Value)},VM v v'=true->v=v'
 | [],[],_=>rfl
 | none::xs,none::ys,h=>by
   simp only[VM] at h;rw[dy h]
 | some x::xs,some y::ys,h=>by
   simp only[VM,Ads] at h;rw[dz h.1,dy h.2]
 | [],_::_,h=>by simp[VM] at h
 | _::_,[],h=>by simp[VM] at h
 | none::_,some _::_,h=>by simp[VM] at h
 | some _::_,none::_,h=>by simp[VM] at h
theorem mb {o o':Au} (h:qz o o'=true):o=o':=by
 unfold qz at h;split at h
 ·simp only[Ads,Aei] at h;rw[gR h.1,h.2.1,h.2.2]
 ·rw[gQ h]
 ·simp only[Ads,Aei,Ad4] at h;rw[h.1,h.2.1,dy h.2.2]
 ·rfl
 ·cases h
theorem lZ:∀ {J J':Aa},lY J J'=true->J <+: J'
 | [],_,_=>Aif
 | x::xs,y::ys,h=>by
   simp only[lY,Ads] at h;obtain ⟨t,a⟩:=lZ h.2;exact ⟨t,by rw[mb h.1,<- a]; rfl⟩
 | _::_,[],h=>by simp[lY] at h
def sameAt (J J':Aa) (h:Nat):Bool:=
 match J[h]?,J'[h]? with
 | some o,some o'=>qz o o'
 | none,none=>true
 | _,_=>false
theorem tg {J J':Aa} {h:Nat} (g:sameAt J J' h=true):J'[h]?=J[h]?:=by
 unfold sameAt at g;split at g
 ·rename_i o o' h1 a;rw[h1,a,mb g]
 ·rename_i h1 a;rw[h1,a]
 ·cases g
@[reducible] def Aav:AJ:=⟨lY,lZ,sameAt,tg⟩
open Classical in
@[reducible] def Ao:AJ:=⟨fun J J'=>decide (J <+: J'),fun h=>by simpa using h,fun J J' h=>decide (J'[h]?=J[h]?),fun h=>by simpa using h⟩
end
section
theorem iM {ρ:Type} {f:FuncId} {m:Option ρ} {r:ρ} (h:(bif Nat.beq f YF then none else m)=some r):f≠YF/\m=some r:=by
 cases hb:Nat.beq f YF with
 | true=>rw[hb] at h; cases h
 | false=>rw[hb] at h; exact ⟨fun he=>(by rw[he] at hb; cases hb),h⟩
structure YR where
 b:Nat
 o:Nat
 s:Nat
 n:Nat
 m:Nat
abbrev Mu:=Nat->Option YR
mutual
inductive RV (Z:Mu):Value->Value->Prop
 | bool (b:Bool):RV Z (.bool b) (.bool b)
 | int (k:IntKind) (n:Int):RV Z (.int k n) (.int k n)
 | string (s:ByteArray):RV Z (.string s) (.string s)
 | ptrNil:RV Z (.pointer none) (.pointer none)
 | ptr {a:Addr} {k:YR} (h:Z a.block=some k) (hs:a.spot=none):RV Z (.pointer (some a)) (.pointer (some ⟨k.b,k.o+a.off,none⟩))
 | sliceNil:RV Z (.slice none 0 0) (.slice none 0 0)
 | sliceZ {a:Addr} {z:Nat} (x:Addr) (hz:a.spot=some z):RV Z (.slice (some a) 0 0) (.slice (some x) 0 0)
 | slice {a:Addr} {k:YR} {l c c':Nat} (h:Z a.block=some k) (hs:a.spot=none) (hl:l<=c) (hc:c<=c') (hm:a.off+c'*k.s<=k.m):RV Z (.slice (some a) l c) (.slice (some ⟨k.b,k.o+a.off,none⟩) l c')
 | sliceEnd {a:Addr} {k:YR} {o c':Nat} (h:Z a.block=some k) (hs:a.spot=none) (hm:o+c'*k.s<=k.m):
   RV Z (.slice (some a) 0 0) (.slice (some ⟨k.b,k.o+o,none⟩) 0 c')
 | mapNil:RV Z (.map none) (.map none)
 | map {r:Nat} {k:YR} (h:Z r=some k):RV Z (.map (some r)) (.map (some k.b))
 | nilFunc:RV Z .nilFunc .nilFunc
 | nilIface:RV Z .nilIface .nilIface
 | func {f:Fn} {a a' b b':Array Value} (hf:∀ l,f ≠ .yield l) (ha:J5 Z a.toList a'.toList) (hb:J5 Z b.toList b'.toList):RV Z (.func f a b) (.func f a' b')
 | yield {h:Nat} {k:YR} (hh:Z h=some k):RV Z (.func (.yield h) #[] #[]) (.func (.yield k.b) #[] #[])
 | iface {t:TypeId} {v v':Value} (h:RV Z v v'):RV Z (.iface t v) (.iface t v')
 | agg {a a':Array Value} (h:J5 Z a.toList a'.toList) (hl:∀ v ∈ a.toList,v.oneCell'=true):RV Z (.agg a) (.agg a')
 | tuple {a a':Array Value} (h:J5 Z a.toList a'.toList):RV Z (.tuple a) (.tuple a')
inductive J5 (Z:Mu):List Value->List Value->Prop
 | nil:J5 Z [] []
 | cons {v v':Value} {vs vs':List Value} (h:RV Z v v') (t:J5 Z vs vs'):J5 Z (v::vs) (v'::vs')
end
def Mu.le (Z a:Mu):Prop:=∀ h k,Z h=some k->a h=some k
theorem Mu.le_refl (Z:Mu):Z.le Z:=fun _ _ h=>h
theorem Mu.le_trans {a b c:Mu} (h:a.le b) (g:b.le c):a.le c:=fun _ _ e=>g _ _ (h _ _ e)
mutual
theorem RV.mono {Z d:Mu} (hm:Z.le d):∀ {v e:Value},RV Z v e->RV d v e
 | _,_,.bool b=>.bool b
 | _,_,.int k n=>.int k n
 | _,_,.string s=>.string s
 | _,_,.ptrNil=>.ptrNil
 | _,_,.ptr h hs=>.ptr (hm _ _ h) hs
 | _,_,.sliceNil=>.sliceNil
 | _,_,.sliceZ x l=>.sliceZ x l
 | _,_,.slice h hs c g a=>.slice (hm _ _ h) hs c g a
 | _,_,.sliceEnd h hs a=>.sliceEnd (hm _ _ h) hs a
 | _,_,.mapNil=>.mapNil
 | _,_,.map h=>.map (hm _ _ h)
 | _,_,.nilFunc=>.nilFunc
 | _,_,.nilIface=>.nilIface
 | _,_,.func i f hb=>.func i (J5.mono hm f) (J5.mono hm hb)
 | _,_,.yield j=>.yield (hm _ _ j)
 | _,_,.iface h=>.iface (RV.mono hm h)
 | _,_,.agg h c=>.agg (J5.mono hm h) c
 | _,_,.tuple h=>.tuple (J5.mono hm h)
theorem J5.mono {Z a:Mu} (hm:Z.le a):∀ {v b:List Value},J5 Z v b->J5 a v b
 | _,_,.nil=>.nil
 | _,_,.cons h t=>.cons (RV.mono hm h) (J5.mono hm t)
end
theorem J5.length {Z:Mu}:∀ {v a:List Value},J5 Z v a->v.length=a.length
 | _,_,.nil=>rfl
 | _,_,.cons _ t=>by simp[J5.length t]
theorem J5.get {Z:Mu}:∀ {v b:List Value},J5 Z v b -> ∀ (i:Nat) (x:Value),v[i]?=some x -> ∃ c,b[i]?=some c/\RV Z x c
 | _,_,.nil,i,x,h=>by simp at h
 | _,_,.cons h t,0,x,a=>by simp at a; subst a; exact ⟨_,by simp,h⟩
 | _,_,.cons h t,i+1,x,a=>by simpa using J5.get t i x (by simpa using a)
theorem J5.append {Z:Mu}:∀ {v b u a:List Value},J5 Z v b->J5 Z u a->J5 Z (v++u) (b++a)
 | _,_,_,_,.nil,h=>h
 | _,_,_,_,.cons h t,g=>.cons h (J5.append t g)
theorem J5.oo {Z:Mu}:∀ {v c:List Value},v.length=c.length->(∀ (i:Nat) x x',v[i]?=some x->c[i]?=some x'->RV Z x x')->J5 Z v c
 | [],[],_,_=>.nil
 | [],_::_,h,_=>by simp at h
 | _::_,[],h,_=>by simp at h
 | x::xs,y::ys,h,g=>.cons (g 0 x y (by simp) (by simp)) (J5.oo (by simpa using h) fun i a b d hb=>g (i+1) a b (by simpa using d) (by simpa using hb))
theorem J5.take {Z:Mu}:∀ {v a:List Value} (n:Nat),J5 Z v a->J5 Z (v.take n) (a.take n)
 | _,_,_,.nil=>by simp; exact .nil
 | _,_,0,.cons _ _=>by simp; exact .nil
 | _,_,n+1,.cons h t=>by simp; exact .cons h (J5.take n t)
theorem J5.drop {Z:Mu}:∀ {v a:List Value} (n:Nat),J5 Z v a->J5 Z (v.drop n) (a.drop n)
 | _,_,_,.nil=>by simp; exact .nil
 | _,_,0,.cons h t=>by simp; exact .cons h t
 | _,_,n+1,.cons h t=>by simp; exact J5.drop n t
theorem J5.rep {Z:Mu} {z z':List Value} (h:J5 Z z z'):∀ n:Nat,J5 Z (rep n z) (rep n z')
 | 0=>by simp[AX.rep]; exact .nil
 | n+1=>by
   have e:∀ y:List Value,AX.rep (n+1) y=y++AX.rep n y:=fun y=>by simp[AX.rep,Aeu]
   rw[e,e]; exact h.append (J5.rep h n)
theorem RV.leaf {Z:Mu} {v v':Value} (h:RV Z v v'):v'.oneCell'=v.oneCell':=by cases h <;> rfl
theorem J5.leaf {Z:Mu}:∀ {v b:List Value},J5 Z v b->(∀ x ∈ v,x.oneCell'=true) -> ∀ x ∈ b,x.oneCell'=true
 | _,_,.nil,_,x,a=>by simp at a
 | _,_,.cons h t,g,x,a=>by
   rcases Acd.1 a with rfl | a
   ·rw[h.leaf]; exact g _ (by simp)
   ·exact J5.leaf t (fun y c=>g y (by simp[c])) x a
theorem RV.IQ {Z:Mu} {v:Value} (h:IQ v=true):RV Z v v:=by
 unfold AX.IQ at h;split at h
 ·exact .bool _
 ·exact .int _ _
 ·exact .string _
 ·exact .ptrNil
 ·exact .sliceNil
 ·exact .mapNil
 ·exact .nilFunc
 ·exact .nilIface
 ·cases h
 ·rename_i f a b c;simp at h;obtain ⟨d,hb⟩:=h;refine .func (fun l e=>c l e) ?_ ?_
  ·simp[d]; exact .nil
  ·simp[hb]; exact .nil
 ·simp at h
theorem oa {v:Value} (h:IQ v=true):v.oneCell'=true:=by
 cases v <;> first | rfl | simp[IQ] at h
theorem J5.IQ {Z:Mu}:∀ {a:List Value},a.all AX.IQ=true->J5 Z a a
 | [],_=>.nil
 | v::a,h=>by
   simp at h;exact .cons (.IQ h.1) (J5.IQ (by simpa using h.2))
theorem RV.IX {Z:Mu} {v:Value} (h:IX v=true):RV Z v v:=by
 unfold AX.IX at h;split at h
 ·exact .agg (.IQ h) fun x a=>oa (by simp only[Afr] at h; exact h x a)
 ·exact .tuple (.IQ h)
 ·exact .IQ h
inductive Vz (Z:Mu):List (Int × Value)->List MapEntry->Prop
 | nil:Vz Z [] []
 | cons {k:Int} {v:Value} {e:MapEntry} {es:List (Int × Value)} {es':List MapEntry} (hk:e.key = .int .i64 k) (hv:RV Z v e.val) (t:Vz Z es es'):Vz Z ((k,v)::es) (e::es')
theorem Vz.mono {Z a:Mu} (hm:Z.le a):∀ {v:List (Int × Value)} {b:List MapEntry},Vz Z v b->Vz a v b
 | _,_,.nil=>.nil
 | _,_,.cons c d t=>.cons c (d.mono hm) (Vz.mono hm t)
def LO (Z:Mu) (regs:Bo) (tmps:Array Value):Prop:=
 regs.length<=tmps.size /\ ∀ (t:Nat) (v:Value),regs.getD t none=some v -> ∃ a,tmps[t]?=some a/\RV Z v a
theorem LO.mono {Z a:Mu} {regs:Bo} {tmps:Array Value} (h:LO Z regs tmps) (hm:Z.le a):LO a regs tmps:=
 ⟨h.1,fun t v c=>let ⟨d,h1,b⟩:=h.2 t v c; ⟨d,h1,b.mono hm⟩⟩
def Wv:CA->Option Code
 | .normal=>none
 | .exit id=>some (.exit id)
 | .ret=>some .ret
def StR:yw->Loop->Prop
 | .ready,r=>r.state = .ready/\r.pending=none
 | .busy,r=>r.state = .busy
 | .done x,r=>r.state = .done/\r.pending=Wv x
def Aa9 (P:Program) (Z:Mu) (f:FuncId) (st:yw) (regs:Bo) (r:Loop):Prop:=
 (∃ F c,P.funcs[f]?=some F/\F.body=some c/\Cy c=some (r.params,r.assign,r.body))/\LO Z regs r.tmps/\StR st r
def dW (P:Program) (Z:Mu) (o:Au) (k:YR) (x:Option Obj):Prop:=
 match o with
 | .cells b T rw=>∃ c e d,x=some (.cells c e d)/\b.length=k.n/\k.n<=k.m/\k.o+k.m<=c.size/\k.s=P.cellsOf T/\(rw=true->d=(0,0)) /\
   (∀ v ∈ b,v.oneCell'=true)/\J5 Z b ((c.toList.drop k.o).take k.n)
 | .map es=>∃ entries clock,x=some (.map entries clock)/\Vz Z es entries.toList
 | .loop f st a=>∃ r,x=some (.loop r)/\Aa9 P Z f st a r
 | .dead=>True
def alive (J:Aa) (h:Nat):Prop:=∃ o,J[h]?=some o/\o ≠ .dead
def AK (J:Aa) (h:Nat):Prop:=
 match J[h]? with
 | some (.cells _ _ true) | some (.map _) | some (.loop _ _ _)=>True
 | _=>False
structure R (P:Program) (Z:Mu) (J:Aa) (w:World):Prop where
 obj:∀ h o k,J[h]?=some o->Z h=some k->dW P Z o k w.heap[k.b]?
 lt:∀ h k,Z h=some k->k.b<w.heap.size
 inj:∀ h h' k k',Z h=some k->Z h'=some k'->alive J h->alive J h'->AK J h\/AK J h'->k.b=k'.b->h=h'
def H8 (Z:Mu) (lo hi:Nat):Prop:=∀ h,lo<=h->h<hi->Z h=none
structure Step (Z:Mu) (J:Aa) (w:World) (Z':Mu) (J':Aa) (w':World):Prop where
 len:J.length<=J'.length
 mu:∀ h,(h<J.length\/J'.length<=h)->Z' h=Z h
 wr:∀ h,h<J.length->AK J' h->AK J h
 new:∀ h k,J.length<=h->h<J'.length->Z' h=some k->w.heap.size<=k.b \/ ∃ h0 k0,h0<J.length/\Z h0=some k0/\k0.b=k.b/\AK J h0
 size:w.heap.size<=w'.heap.size
 tape:w'.tape=w.tape
 os:w'.os=w.os
 output:w'.output=w.output
 frame:∀ b,b<w.heap.size->(∀ h k,h<J.length->Z h=some k->k.b=b->¬ AK J h)->w'.heap[b]?=w.heap[b]?
theorem Step.refl (Z:Mu) (J:Aa) (w:World):Step Z J w Z J w:=
 ⟨Aa1 _,fun _ _=>rfl,fun _ _ h=>h,fun h k h1 a=>absurd a (by omega),Aa1 _,rfl,rfl,rfl,fun _ _ _=>rfl⟩
theorem Step.le {Z b:Mu} {J J':Aa} {w w':World} (s:Step Z J w b J' w') (f:H8 Z J.length J'.length):Z.le b:=by
 intro h k a;by_cases h1:h<J.length\/J'.length<=h
 ·rw[s.mu h h1]; exact a
 ·rw[f h (by omega) (by omega)] at a; cases a
theorem H8.sub {Z:Mu} {a b c d:Nat} (h:H8 Z a b) (h1:a<=c) (h2:d<=b):H8 Z c d:=fun x e f=>h x (by omega) (by omega)
theorem H8.step {Z a:Mu} {J J':Aa} {w w':World} {hi:Nat} (s:Step Z J w a J' w') (f:H8 Z J.length hi):H8 a J'.length hi:=by
 intro h h1 b;rw[s.mu h (.inr h1)];exact f h (Adt s.len h1) b
theorem Step.trans {Z A i:Mu} {J J' g:Aa} {w w' m:World} (s:Step Z J w A J' w') (t:Step A J' w' i g m):Step Z J w i g m:=by
 refine ⟨Adt s.len t.len, ?_, ?_, ?_,Adt s.size t.size,t.tape.trans s.tape,t.os.trans s.os,t.output.trans s.output, ?_⟩
 ·intro h j;have D:=s.len; have E:=t.len;rw[t.mu h (by omega),s.mu h (by omega)]
 ·intro h j hw;exact s.wr h j (t.wr h (Acp j s.len) hw)
 ·intro h k h1 B f;by_cases a:h<J'.length
  ·rw[t.mu h (.inl a)] at f;exact s.new h k h1 a f
  ·rcases t.new h k (by omega) B f with hb | ⟨h0,n,e,d,hb,hw⟩
   ·exact .inl (Adt s.size hb)
   ·by_cases c:h0<J.length
    ·rw[s.mu h0 (.inl c)] at d;exact .inr ⟨h0,n,c,d,hb,s.wr h0 c hw⟩
    ·rcases s.new h0 n (by omega) e d with p | ⟨o,C,u,v,r,z⟩
     ·exact .inl (by omega)
     ·exact .inr ⟨o,C,u,v,r.trans hb,z⟩
 ·intro b hb x;rw[t.frame b (Acp hb s.size) ?_,s.frame b hb x];intro h k j f l hw;by_cases a:h<J.length
  ·rw[s.mu h (.inl a)] at f;exact x h k a f l (s.wr h a hw)
  ·rcases s.new h k (by omega) j f with p | ⟨h0,n,e,d,q,y⟩
   ·omega
   ·exact x h0 n e d (q.trans l) y
theorem R.drew {P:Program} {Z:Mu} {J:Aa} {w:World} (h:R P Z J w):R P Z J w.drew:=⟨h.obj,h.lt,h.inj⟩
theorem Step.drew (Z:Mu) (J:Aa) (w:World):Step Z J w Z J w.drew:=
 ⟨Aa1 _,fun _ _=>rfl,fun _ _ h=>h,fun h k h1 a=>absurd a (by omega),Aa1 _,rfl,rfl,rfl,fun _ _ _=>rfl⟩
theorem dW.mono {P:Program} {Z e:Mu} (hm:Z.le e) {o:Au} {k:YR} {x:Option Obj} (h:dW P Z o k x):dW P e o k x:=by
 cases o with
 | cells p T rw=>
   obtain ⟨c,i,j,a,h1,b,d,l,h5,m,n⟩:=h;exact ⟨c,i,j,a,h1,b,d,l,h5,m,n.mono hm⟩
 | map es=>
   obtain ⟨entries,clock,a,h1⟩:=h;exact ⟨entries,clock,a,h1.mono hm⟩
 | loop f st g=>
   obtain ⟨r,a,h1,b,d⟩:=h;exact ⟨r,a,h1,b.mono hm,d⟩
 | dead=>trivial
def Mu.put (Z:Mu) (h:Nat) (k:YR):Mu:=fun x=>if x=h then some k else Z x
theorem Mu.FP (Z:Mu) (h:Nat) (k:YR):Z.put h k h=some k:=by simp[Mu.put]
theorem Mu.Gd (Z:Mu) {h x:Nat} (k:YR) (a:x≠h):Z.put h k x=Z x:=by simp[Mu.put,a]
theorem Mu.uY {Z:Mu} {h:Nat} {k:YR} (b:Z h=none):Z.le (Z.put h k):=by
 intro x y a;rw[Mu.Gd Z k (by rintro rfl; rw[b] at a; cases a)]; exact a
theorem Nu {J:Aa} {o:Au} {h:Nat} (b:h≠J.length) (hw:AK (J++[o]) h):AK J h:=by
 unfold AK at hw ⊢;by_cases a:h<J.length
 ·rwa [AT a] at hw
 ·rw[Adr (by simp; omega)] at hw; exact hw.elim
theorem WT {J:Aa} {o:Au} {h:Nat} (d:h≠J.length) (c:alive (J++[o]) h):alive J h:=by
 obtain ⟨x,b,hd⟩:=c;have a:h<J.length:=by
  have:=(Ab6.1 b).1;simp at this; omega
 exact ⟨x,by rwa [AT a] at b,hd⟩
theorem heap_alloc_old {w:World} {x:Obj} {b:Nat} (hb:b<w.heap.size):(w.alloc x).heap[b]?=w.heap[b]?:=by
 show (w.heap.push x)[b]?=_;rw[Array.getElem?_push,Aaz (by omega)]
theorem heap_alloc_new (w:World) (x:Obj):(w.alloc x).heap[w.heap.size]?=some x:=by
 show (w.heap.push x)[w.heap.size]?=_;rw[Array.getElem?_push,Aay rfl]
theorem R.alloc {P:Program} {Z:Mu} {J:Aa} {w:World} {o:Au} {x:Obj} {k:YR} (h:R P Z J w) (r:Z J.length=none) (hb:k.b=w.heap.size)
  (s:dW P Z o k (some x)):R P (Z.put J.length k) (J++[o]) (w.alloc x):=by
 have hle:Z.le (Z.put J.length k):=Mu.uY r;have hold:∀ b,b<w.heap.size->(w.alloc x).heap[b]?=w.heap[b]?:=fun b hb=>heap_alloc_old hb;refine ⟨?_, ?_, ?_⟩
 ·intro i o' q f c;by_cases he:i=J.length
  ·subst he;rw[Mu.FP] at c;cases c;simp at f;subst f;have:(w.alloc x).heap[k.b]?=some x:=by rw[hb]; exact heap_alloc_new w x
   rw[this];exact s.mono hle
  ·rw[Mu.Gd Z k he] at c;have n:i<J.length:=by
    have:=(Ab6.1 f).1;simp at this; omega
   rw[AT n] at f;rw[hold _ (h.lt _ _ c)];exact (h.obj i o' q f c).mono hle
 ·intro i q c;by_cases he:i=J.length
  ·subst he; rw[Mu.FP] at c; cases c; simp[hb]
  ·rw[Mu.Gd Z k he] at c;have:=h.lt _ _ c; simp; omega
 ·intro a b t kb g d j l p m;by_cases he:a=J.length <;> by_cases e:b=J.length
  ·omega
  ·subst he; rw[Mu.FP] at g; cases g;rw[Mu.Gd Z k e] at d;have:=h.lt _ _ d; omega
  ·subst e; rw[Mu.FP] at d; cases d;rw[Mu.Gd Z k he] at g;have:=h.lt _ _ g; omega
  ·rw[Mu.Gd Z k he] at g;rw[Mu.Gd Z k e] at d;exact h.inj a b t kb g d (WT he j) (WT e l) (p.imp (Nu he) (Nu e)) m
theorem ae {J:Aa} {o:Au} {h:Nat} (a:h<J.length):AK (J++[o]) h=AK J h:=by
 unfold AK; rw[AT a]
theorem Step.alloc {Z:Mu} {J:Aa} {w:World} {o:Au} {x:Obj} {k:YR} (hb:k.b=w.heap.size):Step Z J w (Z.put J.length k) (J++[o]) (w.alloc x):=by
 refine ⟨by simp, ?_, ?_, ?_,by simp,rfl,rfl,rfl, ?_⟩
 ·intro h a; exact Mu.Gd Z k (by simp at a; omega)
 ·intro h a hw; rwa [ae a] at hw
 ·intro h e h1 d c;have:h=J.length:=by simp at d; omega
  subst this; rw[Mu.FP] at c; cases c; exact .inl (by omega)
 ·intro b hb _;exact heap_alloc_old hb
end
section
theorem Tw {ρ:Type} {k:Kd} {v:Value} {K:Value->Option ρ} {r:ρ} (h:asK k v K=some r):K v=some r:=by
 cases k <;> simp only[asK] at h
 all_goals first
  | exact h
  | (simp only[Aai] at h
     obtain ⟨n,h1,a⟩:=h;cases v <;> simp only[Bk,Dl,toStr,HR,Eo,fc] at h1 <;> first
      | (cases h1; done)
      | (cases h1; exact a)
      | (split at h1
         ·rename_i b; subst b; cases h1; exact a
         ·cases h1))
theorem XR {ρ:Type}:∀ {a:List Kd} {l:List Value} {K:List Value->Option ρ} {r:ρ},iz a l K=some r->a.length<=l.length/\K (l.take a.length)=some r
 | [],l,K,r,h=>by simpa [iz] using h
 | k::a,[],K,r,h=>by simp[iz] at h
 | k::a,v::vs,K,r,h=>by
   simp only[iz,Aey,AI,Ae4] at h;have:=XR (Tw h);simpa using this
theorem jV {ρ:Type} {P:Program} {T:TypeId} {v:Value} {K:Value->Option ρ} {r:ρ} (h:asT P T v K=some r):K v=some r:=by
 unfold asT at h;split at h
 ·cases v <;> simp[yQ] at h;rename_i b;obtain ⟨a,h⟩:=h;have:=(XR h).2;rw[<- a,<- Aen,Ah4] at this;simpa using this
 ·cases h
 ·exact Tw h
 ·cases h
theorem fG {ρ:Type} {P:Program}:∀ {Ts:List TypeId} {l:List Value} {K:List Value->Option ρ} {r:ρ},rC P Ts l K=some r->Ts.length<=l.length/\K (l.take Ts.length)=some r
 | [],l,K,r,h=>by simpa [rC] using h
 | k::ks,[],K,r,h=>by simp[rC] at h
 | k::ks,v::vs,K,r,h=>by
   simp only[rC,Aey,AI,Ae4] at h;have:=fG (jV h);simpa using this
theorem Rz {ρ:Type} {P:Program} {T:TypeId} {v:Value} {K:Value->Option ρ} {r:ρ} (h:ur P T v K=some r):K v=some r:=by
 unfold ur at h;split at h
 ·cases v <;> simp[az] at h;rename_i b _ c;obtain ⟨a,h⟩:=h;have:=(fG h).2;rw[Aen,<- a,<- Aen,Ah4] at this;simpa using this
 ·exact jV h
theorem kN {ρ:Type} {k:Kd} {J:Aa} {b o:Nat} {K:Value->Option ρ} {r:ρ} (h:wC k J b o K=some r):∃ v,CW J b o=some v/\K v=some r:=by
 cases k <;> simp only[wC,Aj,Vy,uW,B9,Be,xH,Aai] at h
 all_goals first
  | (obtain ⟨v,h1,c⟩:=h; exact ⟨v,h1,c⟩)
  | (obtain ⟨n,⟨v,h1,a⟩,c⟩:=h
     refine ⟨v,h1, ?_⟩;cases v <;> simp only[Bk,Dl,toStr,HR,Eo,fc] at a <;> first
      | (cases a; done)
      | (cases a; exact c)
      | (split at a
         ·rename_i d; subst d; cases a; exact c
         ·cases a))
theorem gm {ρ:Type}:∀ {d:List Kd} {J:Aa} {b o:Nat} {K:List Value->Option ρ} {r:ρ},cI d J b o K=some r ->
  ∃ a,a.length=d.length/\(∀ (j:Nat) (x:Value),a[j]?=some x->CW J b (o+j)=some x)/\K a=some r
 | [],J,b,o,K,r,h=>⟨[],rfl,by simp,h⟩
 | k::d,J,b,o,K,r,h=>by
   simp only[cI] at h;obtain ⟨v,h1,e⟩:=kN h;obtain ⟨a,g,i,f⟩:=gm e;refine ⟨v::a,by simp[g], ?_,f⟩;intro j x c;cases j with
   | zero=>simp at c; subst c; simpa using h1
   | succ j=>simp at c; have:=i j x c; rwa [show o+1+j=o+(j+1) by omega] at this
theorem MI {ρ:Type} {e:Operand->Option Value}:∀ {xs:List Operand} {K:List Value->Option ρ} {r:ρ},wB e xs K=some r ->
  ∃ a,K a=some r /\ ∀ (Z:Mu) (f:Operand->Value),(∀ x u,e x=some u->RV Z u (f x))->J5 Z a (xs.map f)
 | [],K,r,h=>⟨[],h,fun _ _ _=>.nil⟩
 | x::xs,K,r,h=>by
   simp only[wB,Aai] at h;obtain ⟨v,g,h⟩:=h;obtain ⟨a,c,d⟩:=MI h;exact ⟨v::a,c,fun Z f b=>.cons (b x v g) (d Z f b)⟩
inductive RPs (Z:Mu):List (Nat × Value)->List (Nat × Value)->Prop
 | nil:RPs Z [] []
 | cons {i:Nat} {v v':Value} {vs vs':List (Nat × Value)} (h:RV Z v v') (t:RPs Z vs vs'):RPs Z ((i,v)::vs) ((i,v')::vs')
theorem bW {ρ:Type} {e:Operand->Option Value}:∀ {xs:List (Nat × Operand)} {K:List (Nat × Value)->Option ρ} {r:ρ},yB e xs K=some r ->
  ∃ a,K a=some r /\ ∀ (Z:Mu) (f:Operand->Value),(∀ x u,e x=some u->RV Z u (f x))->RPs Z a (xs.map fun p=>(p.1,f p.2))
 | [],K,r,h=>⟨[],h,fun _ _ _=>.nil⟩
 | (i,x)::xs,K,r,h=>by
   simp only[yB,Aai] at h;obtain ⟨v,g,h⟩:=h;obtain ⟨a,c,d⟩:=bW h;exact ⟨(i,v)::a,c,fun Z f b=>.cons (b x v g) (d Z f b)⟩
theorem run_sizeOf {P:Program} {T:TypeId} {s:Nat} (h:HV P T=some s) (w:World):(sizeOf T).run P w = .ok s w:=by
 unfold HV at h;cases hi:P.info? T with
 | none=>simp[hi] at h
 | some i=>
   simp[hi] at h;simp[sizeOf,typeInfo,hi,h]
theorem KL {P:Program} {T:TypeId} {z:Value} (h:FV P T=some z) (w:World):(zeroValue T).run P w = .ok z w/\IX z=true:=by
 unfold FV at h;simp only[Aai] at h;obtain ⟨i,hi,y,b,a⟩:=h;split at a
 ·cases a;exact ⟨by simp[zeroValue,typeInfo,hi,b],‹_›⟩
 ·cases a
theorem Mj {P:Program} {T:TypeId} {d:TypeDesc} (h:P.underlying T=some d) (w:World):(isAgg T).run P w = .ok (Lm P T) w:=by
 unfold Lm;simp only[isAgg,Adm,Ab9 h,Acb,h];cases d <;> rfl
theorem Kb {Z:Mu} {v v':Value} (h:RV Z v v') (c:Gq v=false):J5 Z v.cells.toList v'.cells.toList/\(∀ x ∈ v.cells.toList,x.oneCell'=true)/\Gq v'=false:=by
 cases h <;> first
  | (simp[Gq] at c; done)
  | (rename_i h b; exact ⟨h,b,rfl⟩)
  | (refine ⟨?_, ?_,rfl⟩
     ·refine .cons ?_ .nil
      first
       | exact .bool _ | exact .int _ _ | exact .string _ | exact .ptrNil | exact .sliceNil | exact .mapNil | exact .nilFunc | exact .nilIface
       | (constructor <;> assumption)
     ·intro x a; simp[Value.cells] at a; subst a; rfl)
def Tp (P:Program) (o:Oper) (e:Operand->Option Value) (v:Value):Prop:=
 ∀ (Z:Mu) (w:World) (f:Operand->Value),(∀ x u,e x=some u->RV Z u (f x)) -> ∃ a,(execOp f o).run P w = .ok (.value a) w/\RV Z v a
section
variable {ρ:Type} {P:Program} [AJ]
theorem rG {op:BinOp} {k:IntKind} {a b:Int} {K:Value->Option ρ} {r:ρ} (h:zH op k a b K=some r):
  ∃ v,K v=some r/\IQ v=true /\ ∀ (w:World) T,(binOp op T (.int k a) (.int k b)).run P w = .ok v w:=by
 cases op <;> simp only[zH] at h
 case quo=>
  split at h
  ·cases h
  ·exact ⟨_,h,rfl,fun w T=>by simp[binOp,Op.intDiv, *]⟩
 case rem=>
  split at h
  ·cases h
  ·exact ⟨_,h,rfl,fun w T=>by simp[binOp,Op.intDiv, *]⟩
 all_goals first
  | (cases h; done)
  | exact ⟨_,h,rfl,fun w T=>by simp[binOp,Op.intArith,Op.intBits,Op.intCmp]⟩
theorem Z8 {op:BinOp} {k k':IntKind} {a b:Int} {K:Value->Option ρ} {r:ρ} (h:jh op k a b K=some r):
  ∃ v,K v=some r/\IQ v=true /\ ∀ (w:World) T,(binOp op T (.int k a) (.int k' b)).run P w = .ok v w:=by
 unfold jh at h;split at h
 ·cases h
 ·cases op <;> simp only at h
  all_goals first
   | (cases h; done)
   | exact ⟨_,h,rfl,fun w T=>by simp[binOp,Op.shift, *]⟩
theorem rQ {T:TypeId} {a b:Value} {t:Bool} (h:nG P T a b=some t) {Z:Mu} {d e:Value} (c:RV Z a d) (hb:RV Z b e) (n:Nat) (w:World):
  (Op.equalIn (n+1) T d e).run P w = .ok t w:=by
 unfold nG at h;split at h
 ·rename_i hd;cases c; cases hb;split at h
  ·cases h; simp[Op.equalIn,Ab9 hd, *]
  ·cases h
 ·rename_i hd;cases c; cases hb; cases h;simp[Op.equalIn,Ab9 hd]
 ·rename_i hd;cases c; cases hb; cases h;simp[Op.equalIn,Ab9 hd]
 ·cases h
theorem rR {T:TypeId} {a b:Value} {t:Bool} (h:nG P T a b=some t):∃ d,P.underlying T=some d:=by
 unfold nG at h;split at h <;> first | (cases h; done) | exact ⟨_,‹_›⟩
theorem lV {T:TypeId} {d:TypeDesc} (hd:P.underlying T=some d) (a:Lm P T=false) {xs:Array Value} {i:Nat} {v:Value} (b:xs.toList[i]?=some v) (w:World):
  (part T xs i).run P w = .ok v w:=by
 have:xs[i]?=some v:=by simpa using b
 simp[part,Mj hd,a,this]
theorem fJ {Z:Mu} (n:Nat) (w:World) (xs o:Array Value):∀ (k:List Field) (as l g j:List Value) (i:Nat) (t:Bool),bU P k as l=some t->Ug P i k=true ->
  J5 Z as g->J5 Z l j->xs.toList.drop i=g->o.toList.drop i=j->(Op.eqFields (n+1) xs o k).run P w = .ok t w
 | [],[],[],g,j,i,t,h,m,H,hb,u,y=>by
   simp[bU] at h; subst h; simp[Op.eqFields]
 | f::k,a::as,b::l,C::g,D::j,i,t,h,m,.cons p q,.cons r s,u,y=>by
   simp only[Ug,Ads,Adz,ne_eq,Aei,Agf] at m;obtain ⟨⟨⟨F,G⟩,B⟩,m⟩:=m;have x:xs.toList[i]?=some C:=by have:=Aec (·[0]?) u; simpa using this
   have A:o.toList[i]?=some D:=by have:=Aec (·[0]?) y; simpa using this
   have v:xs.toList.drop (i+1)=g:=by rw[<- List.drop_drop,u]; rfl
   have z:o.toList.drop (i+1)=j:=by rw[<- List.drop_drop,y]; rfl
   have key:∃ t1,nG P f.type a b=some t1/\(t1=true->bU P k as l=some t)/\(t1=false->t=false):=by
    cases k with
    | nil=>
      cases as with
      | nil=>
        cases l with
        | nil=>refine ⟨t,by simpa [bU] using h,fun e=>by subst e; rfl,fun e=>e⟩
        | cons _ _ =>
          simp only[bU,Aai] at h;obtain ⟨t1,h1,c⟩:=h;exact ⟨t1,h1,by rintro rfl; first | (simp at c; done) | simpa using c,by rintro rfl; simp at c; exact c⟩
      | cons _ _=>
        simp only[bU,Aai] at h;obtain ⟨t1,h1,c⟩:=h;exact ⟨t1,h1,by rintro rfl; first | (simp at c; done) | simpa using c,by rintro rfl; simp at c; exact c⟩
    | cons _ _=>
       simp only[bU,Aai] at h;obtain ⟨t1,h1,c⟩:=h;exact ⟨t1,h1,by rintro rfl; first | (simp at c; done) | simpa using c,by rintro rfl; simp at c; exact c⟩
   obtain ⟨t1,h1,c,E⟩:=key;obtain ⟨d,hd⟩:=rR h1;simp only[Op.eqFields,F,ne_eq,Aep,Aat,Adm,G,lV hd B x,lV hd B A,Acb,rQ h1 p r];cases t1
   ·simp[E rfl]
   ·simp only[Aa4,Ab8,Aa5];exact fJ n w xs o k as l g j (i+1) t (c rfl) m q s v z
 | _::_,[],_,_,_,_,_,h,_,_,_,_,_=>by simp[bU] at h
 | _::_,_::_,[],_,_,_,_,h,_,_,_,_,_=>by simp[bU] at h
theorem ZU {T e:TypeId} (hd:P.underlying T=some (.pointer e)) (n:Nat) (y:Option Addr) (w:World):(Op.equalIn (n+1) T (.pointer none) (.pointer y)).run P w = .ok y.isNone w:=by
 simp[Op.equalIn,Ab9 hd]
theorem ZV {T e:TypeId} (hd:P.underlying T=some (.pointer e)) (n:Nat) (y:Option Addr) (w:World):(Op.equalIn (n+1) T (.pointer y) (.pointer none)).run P w = .ok y.isNone w:=by
 cases y <;> simp[Op.equalIn,Ab9 hd]
theorem Xd {T e:TypeId} (hd:P.underlying T=some (.slice e)) (n:Nat) (y:Option Addr) (l c a c':Nat) (w:World):(Op.equalIn (n+1) T (.slice none l c) (.slice y a c')).run P w = .ok y.isNone w:=by
 simp[Op.equalIn,Ab9 hd]
theorem Xe {T e:TypeId} (hd:P.underlying T=some (.slice e)) (n:Nat) (y:Option Addr) (l c a c':Nat) (w:World):(Op.equalIn (n+1) T (.slice y l c) (.slice none a c')).run P w = .ok y.isNone w:=by
 cases y <;> simp[Op.equalIn,Ab9 hd]
theorem ku {T:TypeId} {a b:Value} {t:Bool} (h:Lq P T a b=some t) {Z:Mu} {d e:Value} (c:RV Z a d) (hb:RV Z b e) (w:World) (x y:Operand) (op:BinOp):
  (eqGuard op T x y d e).run P w = .ok () w/\(Op.equal T d e).run P w = .ok t w/\(∀ op,binOp op T d e=match op with
   | .eql=>do pure (.bool (<- Op.equal T d e))
   | .neq=>do pure (.bool (!(<- Op.equal T d e)))
   | op=>binOp op T d e):=by
 unfold Lq at h;split at h
 ·split at h
  ·rename_i hd;cases c; cases hb; cases h;exact ⟨by cases op <;> simp[eqGuard],run_equalIn_bool' w 9999 T _ _ hd,fun op=>by cases op <;> simp only[binOp]⟩
  ·cases h
 ·split at h
  ·rename_i hd;cases c; cases h;cases hb <;>
    exact ⟨by cases op <;> simp[eqGuard],ZU hd 9999 _ w,fun op=>by cases op <;> simp only[binOp]⟩
  ·cases h
 ·split at h
  ·rename_i hd;cases hb; cases h;cases c <;>
    exact ⟨by cases op <;> simp[eqGuard],ZV hd 9999 _ w,fun op=>by cases op <;> simp only[binOp]⟩
  ·cases h
 ·split at h
  ·rename_i hd;cases c; cases h;cases hb <;>
    exact ⟨by cases op <;> simp[eqGuard],Xd hd 9999 _ _ _ _ _ w,fun op=>by cases op <;> simp only[binOp]⟩
  ·cases h
 ·split at h
  ·rename_i hd;cases hb; cases h;cases c <;>
    exact ⟨by cases op <;> simp[eqGuard],Xe hd 9999 _ _ _ _ _ w,fun op=>by cases op <;> simp only[binOp]⟩
  ·cases h
 ·split at h
  ·rename_i i hd;cases g:(Ug P 0 i.toList && !P.stoodInHeld T && !P.eqGuardType P.depth T) with
   | false=>rw[g] at h; cases h
   | true=>
     rw[g] at h;simp only[IS] at h;simp only[Ads,Agf] at g;obtain ⟨⟨j,hs⟩,k⟩:=g;have f:P.fieldsOf T=i:=by simp[Program.fieldsOf,hd]
     cases c with
     | agg c _=>
       cases hb with
       | agg hb _=>
         refine ⟨run_eqGuard_agg w op T x y _ _ k, ?_,fun op=>by cases op <;> simp only[binOp]⟩;show (Op.equalIn (9999+1) T _ _).run P w=_;rw[run_equalIn_struct w 9999 T _ _ (by rw[hd,f]) hs,f];exact fJ 9998 w _ _ i.toList _ _ _ _ 0 t h j c hb (by simp) (by simp)
  ·cases h
 ·cases h
end
end
section
variable {ρ:Type} {P:Program} [AJ]
theorem rF {op:BinOp} {T:TypeId} {a b:Value} {K:Value->Option ρ} {r:ρ} (h:zG P op T a b K=some r):
  ∃ v,K v=some r/\IQ v=true /\ ∀ (Z:Mu) (e f:Value),RV Z a e->RV Z b f -> ∀ (w:World) (x y:Operand),
   (do eqGuard op T x y e f; binOp op T e f:Sem Value).run P w = .ok v w:=by
 unfold zG at h;split at h
 ·rename_i k m k' n;have o:∀ (w:World) (x y:Operand),(eqGuard op T x y (.int k m) (.int k' n)).run P w = .ok () w:=fun w x y=>by cases op <;> simp[eqGuard]
  split at h
  ·obtain ⟨v,h1,c,g⟩:=Z8 (P:=P) (k':=k') h;refine ⟨v,h1,c,fun Z e f d hb w x y=>?_⟩;cases d; cases hb;simp only[Adm,o,Acb];exact g w T
  ·obtain ⟨v,h1,c,g⟩:=Z8 (P:=P) (k':=k') h;refine ⟨v,h1,c,fun Z e f d hb w x y=>?_⟩;cases d; cases hb;simp only[Adm,o,Acb];exact g w T
  ·split at h
   ·rename_i p; subst p;obtain ⟨v,h1,c,g⟩:=rG (P:=P) h;refine ⟨v,h1,c,fun Z e f d hb w x y=>?_⟩;cases d; cases hb;simp only[Adm,o,Acb];exact g w T
   ·cases h
 ·split at h
  ·simp only[Aai] at h;obtain ⟨t,h1,c⟩:=h;refine ⟨_,c,rfl,fun Z e f d hb w x y=>?_⟩;obtain ⟨i,j,l⟩:=ku h1 d hb w x y .eql;simp only[Adm,i,Acb,l,j,Adq]
  ·simp only[Aai] at h;obtain ⟨t,h1,c⟩:=h;refine ⟨_,c,rfl,fun Z e f d hb w x y=>?_⟩;obtain ⟨i,j,l⟩:=ku h1 d hb w x y .neq;simp only[Adm,i,Acb,l,j,Adq]
  ·cases h
theorem wy {op:UnOp} {a:Value} {K:Value->Option ρ} {r:ρ} (h:unA op a K=some r):
  ∃ v,K v=some r/\IQ v=true /\ ∀ (Z:Mu) (b:Value),RV Z a b -> ∀ (w:World),(Op.unary op b).run P w = .ok v w:=by
 unfold unA at h;split at h
 ·exact ⟨_,h,rfl,fun Z b c w=>by cases c; simp[Op.unary]⟩
 ·exact ⟨_,h,rfl,fun Z b c w=>by cases c; simp[Op.unary,Op.intArith]⟩
 ·cases h
theorem RS {T:TypeId} {f:Nat} {b:Nat × TypeId} (h:Xh P T f=some b):
  ∃ (a:Array Field) (x:Field),P.underlying T=some (.struct a)/\a[f]?=some x/\x.offset=b.1/\x.type=b.2:=by
 unfold Xh at h;split at h
 ·rename_i a hd;split at h
  ·rename_i x c;cases h;exact ⟨a,x,hd,by simpa using c,rfl,rfl⟩
  ·cases h
 ·cases h
theorem bw {T E:TypeId} {n:Nat} (h:jU P T=some (n,E)):P.underlying T=some (.array n E):=by
 unfold jU at h;split at h
 ·cases h; assumption
 ·cases h
theorem JD {T E:TypeId} (h:PN P T=some E):P.underlying T=some (.slice E):=by
 unfold PN at h;split at h
 ·cases h; assumption
 ·cases h
theorem Lr (b o n:Nat):(⟨b,o,none⟩:Addr).add n=⟨b,o+n,none⟩:=by
 unfold Addr.add; split <;> simp_all
theorem kF (off:Nat):∀ (l:List Value) (k:Nat) (a:Array Value),off+k+l.length<=a.size ->
  ((l.zipIdx k).foldl (fun (cs:Array Value) (p:Value × Nat)=>cs.setIfInBounds (off+p.2) p.1) a).toList=a.toList.take (off+k)++l++a.toList.drop (off+k+l.length)
 | [],k,a,h=>by simp
 | v::l,k,a,h=>by
   simp only[List.zipIdx_cons,Aef];have b:=kF off l (k+1) (a.setIfInBounds (off+k) v) (by simp at h ⊢; omega);rw[b];have e:=list_seg_step a.toList (off+k) v l (by simp at h ⊢; omega);simpa [Ahp,Ad3] using e
theorem nL (off:Nat) (l a:Array Value) (h:off+l.size<=a.size):
  (l.zipIdx.foldl (fun (cs:Array Value) (p:Value × Nat)=>cs.setIfInBounds (off+p.2) p.1) a).toList=Bb a.toList off l.toList:=by
 rw[<- Array.foldl_toList,Array.toList_zipIdx];have:=kF off l.toList 0 a (by simpa using h);simpa [Bb] using this
theorem J5.Bb {Z:Mu} {cs a vs b:List Value} (h:J5 Z cs a) (g:J5 Z vs b) (o:Nat):J5 Z (Bb cs o vs) (Bb a o b):=by
 unfold AX.Bb;rw[g.length];exact ((h.take o).append g).append (h.drop _)
theorem Qu {cs vs:List Value} {o:Nat} (h:∀ v ∈ cs,v.oneCell'=true) (g:∀ v ∈ vs,v.oneCell'=true):∀ v ∈ Bb cs o vs,v.oneCell'=true:=by
 intro v a;unfold AX.Bb at a;simp only[Aas] at a;rcases a with (a | a) | a
 ·exact h v (Agr a)
 ·exact g v a
 ·exact h v (Agg a)
theorem Il {cs vs:List Value} {o:Nat} (h:o+vs.length<=cs.length):(Bb cs o vs).length=cs.length:=by
 simp[Bb]; omega
theorem fQ {place:Nat->Option (Nat × Nat)} {i off:Nat} {v:Value} {cells:Array Value} {rest:List (Nat × Value)} (hp:place i=some (off,v.cells.size)) (h:off+v.cells.size<=cells.size):
  ∃ a,a.toList=Bb cells.toList off v.cells.toList/\Instr.fill place cells ((i,v)::rest)=Instr.fill place a rest:=by
 refine ⟨_,nL off v.cells cells h, ?_⟩;simp only[Instr.fill,hp];rw[Aaz (by simp; omega)]
theorem Z0 {Z:Mu} {T:TypeId} {u:Array Field} (w:P.underlying T=some (.struct u)) (place:Nat->Option (Nat × Nat))
  (hp:∀ (i:Nat) (x:Field),u[i]?=some x -> ∀ s,HV P x.type=some s->place i=some (x.offset,s)):
  ∀ (A l:List (Nat × Value)) (cs:List Value) (b:Array Value) (out:List Value),RPs Z A l->J5 Z cs b.toList->(∀ v ∈ cs,v.oneCell'=true)->cX P T A cs=some out ->
   ∃ a,Instr.fill place b l=some a/\J5 Z out a.toList/\(∀ v ∈ out,v.oneCell'=true)
 | _,_,cs,b,out,.nil,m,q,h=>by
   simp[cX] at h; subst h;exact ⟨b,rfl,m,q⟩
 | _,_,cs,b,out,.cons (i:=i) (v:=v) (v':=v') hv ht,m,q,h=>by
   simp only[cX] at h;split at h
   ·rename_i o t E;split at h
    ·rename_i e;obtain ⟨e,y,j⟩:=e;obtain ⟨B,x,hd,G,z,g⟩:=RS E;rw[w] at hd; cases hd;simp only at z g;subst z; subst g;have f:=hp i x G _ e;obtain ⟨k,r,F⟩:=Kb hv j;have hlen:v'.cells.size=v.cells.size:=by have:=k.length; simp at this; omega
     have p:=m.length;rw[<- hlen] at f;obtain ⟨c,n,d⟩:=fQ (rest:=_) f (cells:=b) (by simp at p; omega);obtain ⟨a,h1,C,D⟩:=Z0 w place hp _ _ _ c out ht (by rw[n]; exact m.Bb k _) (Qu q r) h;exact ⟨a,by rw[d]; exact h1,C,D⟩
    ·cases h
   ·cases h
theorem Uf {Z:Mu} {s:Nat}:
  ∀ (q k:List (Nat × Value)) (cs:List Value) (b:Array Value) (out:List Value),RPs Z q k->J5 Z cs b.toList->(∀ v ∈ cs,v.oneCell'=true)->Yq s q cs=some out ->
   ∃ a,Instr.fill (fun i=>some (i*s,s)) b k=some a/\J5 Z out a.toList/\(∀ v ∈ out,v.oneCell'=true)/\out.length=cs.length
 | _,_,cs,b,out,.nil,l,o,h=>by
   simp[Yq] at h; subst h;exact ⟨b,rfl,l,o,rfl⟩
 | _,_,cs,b,out,.cons (i:=i) (v:=v) (v':=v') hv ht,l,o,h=>by
   simp only[Yq] at h;split at h
   ·rename_i e;obtain ⟨e,f,g⟩:=e;obtain ⟨j,p,w⟩:=Kb hv g;have hlen:v'.cells.size=v.cells.size:=by have:=j.length; simp at this; omega
    have n:=l.length;obtain ⟨c,m,d⟩:=fQ (place:=fun i=>some (i*s,s)) (rest:=_) (i:=i) (off:=i*s) (v:=v') (cells:=b) (by simp[hlen,e]) (by simp at n; omega);obtain ⟨a,h1,r,t,u⟩:=Uf _ _ _ c out ht (by rw[m]; exact l.Bb j _) (Qu o p) h;exact ⟨a,by rw[d]; exact h1,r,t,by rw[u,Il (by simpa using f)]⟩
   ·cases h
theorem run_places (w:World):∀ (a:List Field),(∀ f ∈ a,(P.info? f.type).isSome=true) ->
  (a.mapM fun f=>(do pure (f.offset,<- sizeOf f.type):Sem (Nat × Nat))).run P w = .ok (a.map fun f=>(f.offset,(HV P f.type).getD 0)) w
 | [],_=>by simp
 | f::a,h=>by
   obtain ⟨i,hi⟩:=Option.isSome_iff_exists.1 (h f (by simp));have hs:HV P f.type=some i.size:=by simp[HV,hi]
   have c:=run_places w a fun g b=>h g (by simp[b]);simp only[List.mapM_cons,Adm,run_sizeOf hs,Acb,Adq,Aek,hs,Afs,c]
theorem sF {T:TypeId} {parts:Array (Nat × Operand)} {call:GK} {q:Bool} {ty:TypeId} {e:Operand->Option Value} {J:Aa} {K:Value->Aa->Option ρ} {r:ρ}
  (h:Jv P call q (.build T parts) ty e J K=some r):∃ v,K v J=some r /\ ∀ (o:Oper),o.op = .build T parts->Tp P o e v:=by
 simp only[Jv,Aai] at h;obtain ⟨z,I,h⟩:=h;obtain ⟨M,h,u⟩:=bW h;split at h
 ·rename_i B C;split at h
  ·rename_i b;simp only[Aai] at h;obtain ⟨cs,c,h⟩:=h;refine ⟨_,h,fun o H Z w f G=>?_⟩;obtain ⟨g,j⟩:=KL I w;have d:=u Z f G;have m:RV Z z z:=.IX j;obtain ⟨k,l,_⟩:=Kb m (b.2);have y:=run_places (P:=P) w B.toList (by have:=b.1; rw[Afr] at this; exact this);obtain ⟨a,h1,D,F⟩:=Z0 C (fun i=>(B.toList.map fun f=>(f.offset,(HV P f.type).getD 0)).toArray[i]?)
    (fun i x L s hs=>by simp[L,hs]) _ _ _ z.cells cs d k l c;refine ⟨.agg a, ?_,.agg (by simpa using D) (by simpa using F)⟩;have hm:(parts.map fun x=>(x.1,f x.2)).toList=parts.toList.map fun p=>(p.1,f p.2):=by simp
   have t:(B.mapM fun f=>(do pure (f.offset,<- sizeOf f.type):Sem (Nat × Nat))).run P w = .ok (B.toList.map fun f=>(f.offset,(HV P f.type).getD 0)).toArray w:=by
    rw[Array.mapM_eq_mapM_toList];simp only[Sem.run_map,y,Acb]
   simp only[execOp,H,Instr.build,Adm,g,Acb,Ab9 C,t,hm,h1,Adq]
  ·cases h
 ·rename_i n E C;simp only[Aai] at h;obtain ⟨s,hs,h⟩:=h;split at h
  ·rename_i A;simp only[Aai] at h;obtain ⟨cs,c,h⟩:=h;refine ⟨_,h,fun o H Z w f G=>?_⟩;obtain ⟨g,j⟩:=KL I w;have d:=u Z f G;have m:RV Z z z:=.IX j;obtain ⟨k,l,_⟩:=Kb m A;obtain ⟨a,h1,D,F,_⟩:=Uf _ _ _ z.cells cs d k l c;refine ⟨.agg a, ?_,.agg (by simpa using D) (by simpa using F)⟩;have hm:(parts.map fun x=>(x.1,f x.2)).toList=parts.toList.map fun p=>(p.1,f p.2):=by simp
   simp only[execOp,H,Instr.build,Adm,g,Acb,Ab9 C,run_sizeOf hs,hm,h1,Adq]
  ·cases h
 ·cases h
end
section
variable {ρ:Type} {P:Program} [AJ]
theorem Ba {o:Oper} {f:Operand->Value} {w w':World} {v:Value} {s:Sem Value} (h:execOp f o=(do pure (.value (<- s)):Sem Next)) (hs:s.run P w = .ok v w'):
  (execOp f o).run P w = .ok (.value v) w':=by
 rw[h]; simp[hs]
theorem Dw {f:Operand->Value} {o:Oper} {c:Call} {b:Builtin} (a:o.op = .call c) (hb:c.callee = .builtin b):
  ∃ cs,execOp f o=builtin b c.argTypes o.type cs (c.args.toList.map f).toArray:=by
 have:(c.args.toList.map f).toArray=c.args.map f:=by rw[<- Array.toList_map,Array.toArray_toList]
 rw[this];unfold execOp;rw[a];refine ⟨c.args.map fun | .const _=>true | _=>false, ?_⟩;show (do let d <- resolve f c o.type; invoke d.target d.args:Sem Next)=_;unfold resolve;rw[hb];rfl
theorem toList_eq {α:Type} {a:Array α} {l:List α} (h:a.toList=l):a=l.toArray:=by cases a; simp at h; simp[h]
theorem Rb {o:Oper} {call:GK} {q:Bool} {e:Operand->Option Value} {J:Aa} {K:Value->Aa->Option ρ} {r:ρ} (I:Gh P o = .pure)
  (h:Jv P call q o.op o.type e J K=some r):∃ v,K v J=some r/\Tp P o e v:=by
 cases m:o.op
 case build T parts=>
  rw[m] at h;obtain ⟨v,h1,z⟩:=sF h;exact ⟨v,h1,z o m⟩
 case move x=>
  rw[m] at h;simp only[Jv,Aai] at h;obtain ⟨v,A,h⟩:=h;exact ⟨v,h,fun Z w f j=>⟨f x,by simp[execOp,m],j x v A⟩⟩
 case assign x=>
  rw[m] at h;simp only[Jv,Aai] at h;obtain ⟨v,A,h⟩:=h;exact ⟨v,h,fun Z w f j=>⟨f x,by simp[execOp,m],j x v A⟩⟩
 case pick c a b=>
  rw[m] at h;simp only[Jv,Aai] at h;obtain ⟨v,A,h⟩:=h;split at h
  ·simp only[Aai] at h;obtain ⟨u,hu,h⟩:=h;refine ⟨u,h,fun Z w f j=>⟨f a, ?_,j a u hu⟩⟩;have:=j c _ A;cases F:f c <;> rw[F] at this <;> cases this;simp[execOp,m,F,asBool]
  ·simp only[Aai] at h;obtain ⟨u,hu,h⟩:=h;refine ⟨u,h,fun Z w f j=>⟨f b, ?_,j b u hu⟩⟩;have:=j c _ A;cases F:f c <;> rw[F] at this <;> cases this;simp[execOp,m,F,asBool]
  ·cases h
 case nilCheck x=>
  rw[m] at h;simp only[Jv,Aai] at h;obtain ⟨v,A,h⟩:=h;unfold og at h;split at h
  ·simp only[Aai] at h;obtain ⟨a,C,h⟩:=h;subst C;refine ⟨_,h,fun Z w f j=>?_⟩;have g:=j x _ A;refine ⟨f x, ?_,g⟩;generalize p:f x=N at g;cases g;simp[execOp,m,p]
  ·refine ⟨_,h,fun Z w f j=>?_⟩;have g:=j x _ A;refine ⟨f x, ?_,g⟩;generalize p:f x=N at g;cases g;simp[execOp,m,p]
  ·refine ⟨_,h,fun Z w f j=>?_⟩;have g:=j x _ A;refine ⟨f x, ?_,g⟩;generalize p:f x=N at g;cases g;simp[execOp,m,p]
  ·cases h
 case binOp op T x y yT=>
  rw[m] at h;simp only[Jv,Aai] at h;obtain ⟨a,C,b,hb,h⟩:=h;obtain ⟨v,h1,z,S⟩:=rF h;refine ⟨v,h1,fun Z w f j=>⟨v, ?_,.IQ z⟩⟩;exact Ba (by simp only[execOp,m] <;> rfl) (S Z _ _ (j x a C) (j y b hb) w x y)
 case unOp op T x=>
  rw[m] at h;simp only[Jv,Aai] at h;obtain ⟨a,C,h⟩:=h;obtain ⟨v,h1,z,S⟩:=wy (P:=P) h;exact ⟨v,h1,fun Z w f j=>⟨v,Ba (by simp only[execOp,m] <;> rfl) (S Z _ (j x a C) w),.IQ z⟩⟩
 case convert s d x=>
  rw[m] at h;simp only[Jv,Aai] at h;obtain ⟨a,C,h⟩:=h;split at h
  ·rename_i hs hd;refine ⟨_,h,fun Z w f j=>⟨_, ?_,.int _ _⟩⟩;have g:=j x _ C;generalize p:f x=N at g;cases g;refine Ba (by simp only[execOp,m] <;> rfl) ?_;simp only[p,convert,Adm,Ab9 hs,Ab9 hd,Acb,Conv.intToInt,Adq]
  ·cases h
 case makeInterface T x=>
  rw[m] at h;simp only[Jv,Aai] at h;obtain ⟨a,C,h⟩:=h;split at h
  ·cases h
  ·rename_i d U hd;refine ⟨_,h,fun Z w f j=>⟨_, ?_,.iface (j x a C)⟩⟩;refine Ba (by simp only[execOp,m] <;> rfl) ?_;exact run_makeInterface w T _ (by unfold Program.concrete; rw[hd]; cases d <;> first | rfl | exact absurd rfl (U _))
  ·cases h
 case makeFunc fn first cap=>
  rw[m] at h;simp only[Jv] at h;split at h
  ·cases h
  rename_i ae;obtain ⟨vs,h,h1⟩:=MI h;obtain ⟨us,h,z⟩:=MI h;refine ⟨_,h,fun Z w f j=>⟨_,Ba (by simp only[execOp,m] <;> rfl) rfl, ?_⟩⟩;exact .func (fun l hl=>ae l hl) (by simpa using h1 Z f j) (by simpa using z Z f j)
 case fieldAddr T x i=>
  rw[m] at h;simp only[Jv,Aai] at h;obtain ⟨M,V,v,A,h⟩:=h;split at h
  ·simp only[Aai] at h;obtain ⟨a,C,s,hs,h⟩:=h;split at h
   ·cases h
   ·rename_i ag;subst C;obtain ⟨fs,N,hd,p,h1,z⟩:=RS V;refine ⟨_,h,fun Z w f j=>?_⟩;have g:=j x _ A;generalize B:f x=ab at g;cases g with
    | @ptr _ k L X=>
      refine ⟨.pointer (some ⟨k.b,k.o+(a.off+M.1),none⟩),Ba (by simp only[execOp,m] <;> rfl) ?_,RV.ptr (a:=⟨a.block,a.off+M.1,none⟩) L rfl⟩;rw[B,<- Ad3];simp only[Instr.fieldAt,Adm,Ab9 hd,Acb,p,Instr.sureAddr,Adq,fieldPlace,z,run_sizeOf hs,Sem.run_ite,Aaz ag,Lr,h1]
  ·cases h
 case field T x i=>
  rw[m] at h;simp only[Jv,Aai] at h;obtain ⟨M,V,v,A,h⟩:=h;obtain ⟨fs,N,hd,p,h1,z⟩:=RS V;split at h
  ·rename_i vs;cases hb:Lm P M.2 with
   | true=>
     rw[hb] at h;simp only[IS,Aai] at h;obtain ⟨s,hs,h⟩:=h;refine ⟨_,h,fun Z w f j=>?_⟩;have g:=j x _ A;generalize B:f x=ab at g;cases g with
     | agg g hl=>
       rename_i D;obtain ⟨d,ad⟩:∃ d,P.underlying M.2=some d:=by
        unfold Lm at hb; cases hq:P.underlying M.2 with
        | none=>simp[hq] at hb
        | some d=>exact ⟨d,rfl⟩
       refine ⟨.agg (D.extract M.1 (M.1+s)),Ba (by simp only[execOp,m] <;> rfl) ?_,.agg ?_ ?_⟩
       ·rw[B];simp only[Instr.field,Adm,Ab9 hd,Acb,p,asAgg,Adq,part,z,Mj ad,hb,Aat,run_sizeOf hs,h1]
       ·have:=(g.drop M.1).take s;simpa [List.extract_eq_take_drop] using this
       ·intro y hy;simp only at hy;exact hl y (Agg (Agr hy))
   | false=>
     rw[hb] at h;simp only[By,Aai] at h;obtain ⟨d,hq,u,hu,h⟩:=h;refine ⟨u,h,fun Z w f j=>?_⟩;have g:=j x _ A;generalize B:f x=ab at g;cases g with
     | agg g hl=>
       rename_i D;obtain ⟨u',aa,W⟩:=g.get _ _ hu;refine ⟨u',Ba (by simp only[execOp,m] <;> rfl) ?_,W⟩;rw[B];have H:D[M.1]?=some u':=by simpa using aa
       simp only[Instr.field,Adm,Ab9 hd,Acb,p,asAgg,Adq,part,z,Mj hq,hb,Ab8,Aa5,h1,H]
  ·cases h
 case index T x i=>
  rw[m] at h;simp only[Jv,Aai] at h;obtain ⟨⟨len,E⟩,hE,v,A,u,hu,h⟩:=h;have hT:=bw hE;split at h
  ·rename_i vs k n;cases hb:Lm P E with
   | true=>rw[hb] at h; cases h
   | false=>
     rw[hb] at h;simp only[By] at h;split at h
     ·rename_i U;simp only[Aai] at h;obtain ⟨d,hq,s,hs,y,hy,h⟩:=h
      replace h:=Tw h
      refine ⟨y,h,fun Z w f j=>?_⟩;have g:=j x _ A;have hi:=j i _ hu;generalize p:f x=N at g;generalize G:f i=fi at hi;cases hi;cases g with
      | agg g hl=>
        rename_i D;obtain ⟨y',ah,af⟩:=g.get _ _ hy;have ac:D[n.toNat*s]?=some y':=by simpa using ah
        refine ⟨y',Ba (by simp only[execOp,m] <;> rfl) ?_,af⟩;rw[p,G];simp only[Instr.index,asIntOf,Adm,Adq,Acb,Ab9 hT];rw[Aay U];simp only[Adm,run_sizeOf hs,Acb,part,Mj hq,hb,Ab8,Aa5,ac,Adq]
     ·cases h
  ·cases h
 case indexAddr T x i=>
  rw[m] at h;cases hA:jU P T with
  | some le=>
    obtain ⟨len,E⟩:=le;simp only[Jv,hA,Aai] at h;obtain ⟨s,hs,v,A,u,hu,h⟩:=h;have hT:=bw hA;split at h
    ·rename_i a k n;simp only[Aai] at h;obtain ⟨Q,C,h⟩:=h;subst C;split at h
     ·rename_i U;refine ⟨_,h,fun Z w f j=>?_⟩;have g:=j x _ A;have hi:=j i _ hu;generalize p:f x=N at g;generalize G:f i=fi at hi;cases hi;cases g with
      | @ptr _ k' L X=>
        refine ⟨.pointer (some ⟨k'.b,k'.o+(Q.off+n.toNat*s),none⟩),Ba (by simp only[execOp,m] <;> rfl) ?_,RV.ptr (a:=⟨Q.block,Q.off+n.toNat*s,none⟩) L rfl⟩;rw[p,G,<- Ad3];simp only[Instr.indexAt,asIntOf,Adm,Adq,Acb,Ab9 hT,Instr.sureAddr];rw[Aay U];simp only[Adm,run_sizeOf hs,Acb,Adq,Lr]
     ·cases h
    ·cases h
  | none=>
  simp only[Jv,hA,Aai] at h;obtain ⟨E,hE,s,hs,v,A,u,hu,h⟩:=h;have hT:=JD hE;split at h
  ·rename_i a len cap k n;split at h
   ·rename_i U;simp only[Aai] at h;obtain ⟨Q,C,h⟩:=h;subst C;refine ⟨_,h,fun Z w f j=>?_⟩;have g:=j x _ A;have hi:=j i _ hu;generalize p:f x=N at g;generalize G:f i=fi at hi;cases hi;cases g with
    | @slice _ k' _ _ _ L X hl I hm=>
      refine ⟨.pointer (some ⟨k'.b,k'.o+(Q.off+n.toNat*s),none⟩),Ba (by simp only[execOp,m] <;> rfl) ?_,RV.ptr (a:=⟨Q.block,Q.off+n.toNat*s,none⟩) L rfl⟩;rw[p,G,<- Ad3];simp only[Instr.indexAt,asIntOf,Adm,Adq,Acb,Ab9 hT];rw[Aay U];simp only[Adm,run_sizeOf hs,Acb,Adq,Lr]
    | sliceEnd L X hm=>omega
    | sliceZ y hz=>omega
   ·cases h
  ·cases h
 case extract x i=>
  rw[m] at h;simp only[Jv,Aai] at h;obtain ⟨v,A,h⟩:=h;split at h
  ·simp only[Aai] at h;obtain ⟨u,hu,h⟩:=h;refine ⟨u,h,fun Z w f j=>?_⟩;have g:=j x _ A;generalize p:f x=N at g;cases g with
   | tuple g=>
     rename_i D;obtain ⟨u',aa,W⟩:=g.get _ _ hu;refine ⟨u',Ba (by simp only[execOp,m] <;> rfl) ?_,W⟩;have H:D[i]?=some u':=by simpa using aa
     simp only[p,Instr.extract,H,Adq]
  ·cases h
 case call c=>
  rw[m] at h;simp only[Gh,m] at I;split at I
  ·rename_i b hb;simp only[Jv,hb] at h;obtain ⟨vs,h,O⟩:=MI h;cases b <;> simp only[eu] at I <;> first
    | (cases I; done)
    | skip
   case len=>
    cases hm:Ul P c.argTypes.toList <;> rw[hm] at I <;> simp only[eu] at I
    ·simp only[OI,zR] at h;split at h;rotate_left
     ·cases h
     rename_i t v Y;split at h
     ·rename_i n _ hd;refine ⟨_,h,fun Z w f j=>?_⟩;obtain ⟨cs,hex⟩:=Dw (f:=f) m hb;have g:=O Z f j;generalize c.args.toList.map f=l at g hex;cases g with
      | cons h1 z=>
        cases z;refine ⟨_, ?_,.int _ _⟩;rw[hex,toList_eq Y];cases h1 <;> simp[builtin,Builtin.len_,Ab9 hd,goInt]
     ·rename_i s hd;refine ⟨_,h,fun Z w f j=>?_⟩;obtain ⟨cs,hex⟩:=Dw (f:=f) m hb;have g:=O Z f j;generalize c.args.toList.map f=l at g hex;cases g with
      | cons h1 z=>
        cases z;refine ⟨_, ?_,.int _ _⟩;rw[hex,toList_eq Y];cases h1 <;> simp[builtin,Builtin.len_,Ab9 hd,goInt]
     ·rename_i hd;rw[Y] at hm;simp[Ul,hd] at hm
     ·cases h
    ·cases I
   case max=>
    simp only[OI,Abs] at h;split at h;rotate_left
    ·cases h
    rename_i k x k' y;split at h
    ·rename_i L; subst L;refine ⟨_,h,fun Z w f j=>?_⟩;obtain ⟨cs,hex⟩:=Dw (f:=f) m hb;have g:=O Z f j;generalize c.args.toList.map f=l at g hex;cases g with
     | cons h1 z=>
       cases z with
       | cons z S=>
         cases S; cases h1; cases z;refine ⟨_, ?_,.int _ _⟩;rw[hex];simp[builtin,Builtin.max_,Builtin.max2]
    ·cases h
   case min=>
    simp only[OI,Abt] at h;split at h;rotate_left
    ·cases h
    rename_i k x k' y;split at h
    ·rename_i L; subst L;refine ⟨_,h,fun Z w f j=>?_⟩;obtain ⟨cs,hex⟩:=Dw (f:=f) m hb;have g:=O Z f j;generalize c.args.toList.map f=l at g hex;cases g with
     | cons h1 z=>
       cases z with
       | cons z S=>
         cases S; cases h1; cases z;refine ⟨_, ?_,.int _ _⟩;rw[hex];simp[builtin,Builtin.min_,Builtin.min2]
    ·cases h
  ·cases I
 all_goals (rw[m] at h; first | (simp only[Jv] at h; cases h; done) | (simp[Gh,m] at I; done))
end
section
variable {ρ:Type} {P:Program} [AJ]
theorem cell_of {Z:Mu} {J:Aa} {w:World} (h:R P Z J w) {b o:Nat} {v:Value} {k:YR} (a:CW J b o=some v) (i:Z b=some k):
  ∃ e,w.cell? ⟨k.b,k.o+o,none⟩=some e/\RV Z v e/\v.oneCell'=true:=by
 unfold CW at a;split at a
 ·rename_i t T rw hb;obtain ⟨c,n,p,m,h1,q,r,s,h5,f,g⟩:=h.obj _ _ _ hb i;obtain ⟨e,d,l⟩:=g.get _ _ a;have j:o<k.n:=by
   have:=(Ab6.1 a).1; omega
  rw[Ad2,Aay j,Ad0] at d;refine ⟨e, ?_,l,f v (Afx a)⟩;simp only[World.cell?,m];simpa using d
 ·cases a
theorem kc {Z:Mu} {J:Aa} {w:World} (i:R P Z J w) {b:Nat} {k:YR} (l:Z b=some k):∀ (d:List Value) (o:Nat),(∀ (j:Nat) (x:Value),d[j]?=some x->CW J b (o+j)=some x) ->
  ∃ c,J5 Z d c/\(∀ (j:Nat) (x:Value),c[j]?=some x->w.cell? ⟨k.b,k.o+o+j,none⟩=some x)/\(∀ v ∈ d,v.oneCell'=true)
 | [],o,h=>⟨[],.nil,by simp,by simp⟩
 | v::d,o,h=>by
   obtain ⟨p,m,n,h1⟩:=cell_of i (h 0 v (by simp)) l;obtain ⟨c,g,e,f⟩:=kc i l d (o+1) (fun j x a=>by have:=h (j+1) x (by simpa using a); rwa [show o+(j+1)=o+1+j by omega] at this);refine ⟨p::c,.cons n g, ?_, ?_⟩
   ·intro j x a;cases j with
    | zero=>simp at a; subst a; simpa using m
    | succ j=>simp at a; have:=e j x a; rwa [show k.o+(o+1)+j=k.o+o+(j+1) by omega] at this
   ·intro x a;rcases Acd.1 a with rfl | a
    ·exact h1
    ·exact f x a
theorem MJ {J:Aa} {b o n:Nat} {vs:List Value} (h:Nm J b o n=some vs):vs.length=n /\ ∀ (j:Nat) (x:Value),vs[j]?=some x->CW J b (o+j)=some x:=by
 unfold Nm at h;split at h
 ·rename_i us T rw hb;split at h
  ·rename_i hle;cases h;refine ⟨by simp; omega,fun j x a=>?_⟩;rw[Ad2] at a;split at a
   ·rw[Ad0] at a;simp only[CW,hb]; exact a
   ·cases a
  ·cases h
 ·cases h
theorem KU {Z:Mu} {J:Aa} {w:World} (d:R P Z J w) {b o n:Nat} {k:YR} (f:Z b=some k) {vs:List Value} (i:vs.length=n) (h:∀ (j:Nat) (x:Value),vs[j]?=some x->CW J b (o+j)=some x):
  ∃ a,J5 Z vs a/\(loadCells ⟨k.b,k.o+o,none⟩ n).run P w = .ok a.toArray w/\(∀ v ∈ vs,v.oneCell'=true):=by
 obtain ⟨a,c,e,g⟩:=kc d f vs o h;refine ⟨a,c, ?_,g⟩;have:=run_loadCells_list (P:=P) w ⟨k.b,k.o+o,none⟩ a (fun j v l=>by rw[Lr]; exact e j v l)
 rwa [<- c.length,i] at this
theorem dx {Z:Mu} {a:Addr} {v':Value} (h:RV Z (.pointer (some a)) v'):∃ k,Z a.block=some k/\v' = .pointer (some ⟨k.b,k.o+a.off,none⟩):=by
 cases h; exact ⟨_,‹_›,rfl⟩
theorem WD {Z:Mu} {k:IntKind} {n:Int} {v':Value} (h:RV Z (.int k n) v'):v' = .int k n:=by cases h; rfl
theorem YK {Z:Mu} {r:Nat} {v':Value} (h:RV Z (.map (some r)) v'):∃ k,Z r=some k/\v' = .map (some k.b):=by cases h; exact ⟨_,‹_›,rfl⟩
theorem Rh {Z:Mu} {v':Value} (h:RV Z (.map none) v'):v' = .map none:=by cases h; rfl
theorem Y7 {Z:Mu} {J:Aa} {w:World} (c:R P Z J w) {r:Nat} {es:List (Int × Value)} {k:YR} (a:Un J r=some es) (d:Z r=some k):
  ∃ entries clock,w.heap[k.b]?=some (.map entries clock)/\Vz Z es entries.toList:=by
 unfold Un at a;split at a
 ·rename_i b hb;cases a;exact c.obj _ _ _ hb d
 ·cases a
theorem KK {w:World} {b:Nat} {entries:Array MapEntry} {clock:Nat} (h:w.heap[b]?=some (.map entries clock)):(getObj b).run P w = .ok (.map entries clock) w:=by
 simp only[getObj,Sem.run,h]
theorem R6 {T:TypeId} {k:IntKind} {a:Int} {t:IntKind} (c:P.underlying T=some (.int t)) (b:Bool) (n:Nat) (w:World):(Instr.checkKey b (n+1) T (.int k a)).run P w = .ok () w:=by
 simp[Instr.checkKey,Ab9 c]
theorem UK {T:TypeId} (h:sr P T=true):P.underlying T=some (.int .i64):=by
 unfold sr at h;split at h
 ·assumption
 ·cases h
theorem findNow_spec {Z:Mu} {k:Int}:∀ (es:List (Int × Value)) (a:List MapEntry) (i:Nat),Vz Z es a ->
  match NX es k with
  | some v=>∃ j e,Instr.findNow (.int .i64) (.int .i64 k) a i=some (some (i+j,e.val))/\a[j]?=some e/\e.key = .int .i64 k/\RV Z v e.val/\(∀ v2,NY k v2 es=es.set j (k,v2))/\ML k es=es.eraseIdx j/\j<es.length
  | none=>Instr.findNow (.int .i64) (.int .i64 k) a i=some none/\(∀ v2,NY k v2 es=es++[(k,v2)])/\ML k es=es
 | [],[],i,.nil=>by simp[NX,Instr.findNow,NY,ML]
 | (f,v)::es,e::a,i,.cons d r q=>by
   by_cases c:k=f
   ·subst c;simp only[NX,Af2,Ah9,Af3];refine ⟨0,e, ?_,by simp,d,r,fun v2=>by simp[NY],by simp[ML],by simp⟩;simp[Instr.findNow,d,Instr.sameNow]
   ·have hb:(k == f)=false:=by simpa using c
    have b:=findNow_spec (k:=k) es a (i+1) q;have p:NX ((f,v)::es) k=NX es k:=by simp[NX,Af2,hb]
    have o:Instr.findNow (.int .i64) (.int .i64 k) (e::a) i=Instr.findNow (.int .i64) (.int .i64 k) a (i+1):=by
     simp[Instr.findNow,d,Instr.sameNow,hb]
    rw[p,o];cases hm:NX es k with
    | none=>
      rw[hm] at b;exact ⟨b.1,fun v2=>by simp[NY,hb,b.2.1 v2],by simp[ML,hb,b.2.2]⟩
    | some u=>
      rw[hm] at b;obtain ⟨j,g,h1,h,l,m,h5,n,s⟩:=b;exact ⟨j+1,g,by rw[h1]; congr 3; omega,by simpa using h,l,m,fun v2=>by simp[NY,hb,h5 v2],by simp[ML,hb,n],by simp; omega⟩
def WR (P:Program) (o:Oper) (e:Operand->Option Value) (J:Aa) (v:Value):Prop:=
 ∀ (Z:Mu) (w:World) (f:Operand->Value),R P Z J w->(∀ x u,e x=some u->RV Z u (f x)) -> ∃ a,(execOp f o).run P w = .ok (.value a) w/\RV Z v a
theorem lg {T:TypeId} {x:Operand} {call:GK} {q:Bool} {ty:TypeId} {e:Operand->Option Value} {J:Aa} {K:Value->Aa->Option ρ} {r:ρ} {o:Oper} (t:o.op = .load T x)
  (h:Jv P call q (.load T x) ty e J K=some r):∃ v,K v J=some r/\WR P o e J v:=by
 simp only[Jv,Aai] at h;obtain ⟨v,y,h⟩:=h;split at h;rotate_left
 ·cases h
 simp only[Aai] at h;obtain ⟨a,z,h⟩:=h;subst z;cases hb:Lm P T with
 | true=>
   rw[hb] at h;simp only[IS] at h;split at h;rotate_left
   ·cases h
   rename_i n;obtain ⟨E,B,p,h⟩:=gm h;refine ⟨_,h,fun Z w f i j=>?_⟩;obtain ⟨k,l,b⟩:=dx (j x _ y);obtain ⟨s,m,g,c⟩:=KU i l B p;obtain ⟨d,hd⟩:∃ d,P.underlying T=some d:=by
    unfold Lm at hb; cases C:P.underlying T with
    | none=>simp[C] at hb
    | some d=>exact ⟨d,rfl⟩
   refine ⟨.agg s.toArray,Ba (by simp only[execOp,t] <;> rfl) ?_,.agg (by simpa using m) (by simpa using c)⟩;simp only[b,Instr.loadAt,Instr.sureAddr,Adm,Adq,Acb,loadVar,Mj hd,hb,Aat,run_sizeOf n,g]
 | false=>
   rw[hb] at h;simp only[By,Aai] at h;obtain ⟨d,hd,h⟩:=h;obtain ⟨u,hu,h⟩:=kN h;refine ⟨u,h,fun Z w f i j=>?_⟩;obtain ⟨k,l,b⟩:=dx (j x _ y);obtain ⟨D,A,m,_⟩:=cell_of i hu l;refine ⟨D,Ba (by simp only[execOp,t] <;> rfl) ?_,m⟩;simp only[b,Instr.loadAt,Instr.sureAddr,Adm,Adq,Acb,loadVar,Mj hd,hb,Ab8,Aa5,run_load,A]
theorem oy {T:TypeId} {m i:Operand} {ok:Bool} {call:GK} {q:Bool} {ty:TypeId} {e:Operand->Option Value} {J:Aa} {K:Value->Aa->Option ρ} {r:ρ} {o:Oper} (I:o.op = .lookup T m i ok)
  (h:Jv P call q (.lookup T m i ok) ty e J K=some r):∃ v,K v J=some r/\WR P o e J v:=by
 simp only[Jv,Aai] at h;obtain ⟨V,hm,S,hi,h⟩:=h;split at h;rotate_left
 ·cases h
 rename_i U E N k A;split at h;rotate_left
 ·cases h
 rename_i D;simp only[Aai] at h;obtain ⟨es,p,z,M,h⟩:=h;have h:=Tw h;refine ⟨_,h,fun Z w f L B=>?_⟩;have d:=UK D;obtain ⟨x,y⟩:=KL M w;have s:=WD (B i _ hi);have key:∃ entries:Array MapEntry,(f m = .map none/\entries = #[] \/ ∃ kb clock,f m = .map (some kb)/\w.heap[kb]?=some (.map entries clock))/\Vz Z es entries.toList:=by
  cases N with
  | none=>
    cases p;exact ⟨#[],.inl ⟨Rh (B m _ hm),rfl⟩,.nil⟩
  | some W=>
    obtain ⟨kb,C,c⟩:=YK (B m _ hm);obtain ⟨entries,clock,t,n⟩:=Y7 L p C;exact ⟨entries,.inr ⟨kb.b,clock,c,t⟩,n⟩
 obtain ⟨entries,l,n⟩:=key;have b:=findNow_spec (k:=k) es entries.toList 0 n;have g:=R6 (P:=P) (k:=.i64) (a:=k) d entries.isEmpty 9999 w;cases H:NX es k with
 | none=>
   rw[H] at b;refine ⟨if ok then .tuple #[z,.bool false] else z,Ba (by simp only[execOp,I] <;> rfl) ?_, ?_⟩
   ·unfold Instr.lookup;rw[s];rcases l with ⟨c,rfl⟩ | ⟨kb,clock,c,t⟩ <;> rw[c]
    ·simp only[Adm,Ab9 A,Acb,g,Instr.findKey,Ab9 d,b.1,Adq,x]
    ·simp only[Adm,Ab9 A,Acb,KK t,g,Instr.findKey,Ab9 d,b.1,Adq,x]
   ·cases ok
    ·exact .IX y
    ·exact .tuple (.cons (.IX y) (.cons (.bool _) .nil))
 | some u=>
   rw[H] at b;obtain ⟨j,F,h1,O,Q,G,h5⟩:=b;refine ⟨if ok then .tuple #[F.val,.bool true] else F.val,Ba (by simp only[execOp,I] <;> rfl) ?_, ?_⟩
   ·unfold Instr.lookup;rw[s];rcases l with ⟨c,rfl⟩ | ⟨kb,clock,c,t⟩ <;> rw[c]
    ·simp only[Adm,Ab9 A,Acb,g,Instr.findKey,Ab9 d,h1,Adq]
    ·simp only[Adm,Ab9 A,Acb,KK t,g,Instr.findKey,Ab9 d,h1,Adq]
   ·cases ok
    ·exact G
    ·exact .tuple (.cons G (.cons (.bool _) .nil))
theorem VY {x:Option Value} {d top:Nat} {K:Nat->Option ρ} {r:ρ} (h:bound x d top K=some r):
  ∃ n,K n=some r/\((x=none/\n=d) \/ ∃ k i,x=some (.int k i)/\0<=i/\i<=top/\n=i.toNat):=by
 unfold bound at h;split at h
 ·exact ⟨d,h,.inl ⟨rfl,rfl⟩⟩
 ·split at h
  ·rename_i k i a; exact ⟨_,h,.inr ⟨k,i,rfl,a.1,a.2,rfl⟩⟩
  ·cases h
 ·cases h
theorem bV {e:Operand->Option Value} {x:Option Operand} {K:Option Value->Option ρ} {r:ρ} (h:tD e x K=some r):
  ∃ v,K v=some r/\((x=none/\v=none) \/ ∃ y u,x=some y/\e y=some u/\v=some u):=by
 unfold tD at h;split at h
 ·exact ⟨none,h,.inl ⟨rfl,rfl⟩⟩
 ·simp only[Aai] at h;obtain ⟨u,hu,h⟩:=h;exact ⟨_,h,.inr ⟨_,u,rfl,hu,rfl⟩⟩
end
section
variable {ρ:Type} {P:Program} [AJ]
theorem RQ {Z:Mu} {J:Aa} {w:World} (d:R P Z J w) {b:Nat} {E:TypeId} {k:YR} (h:elemAt J b=some E) (e:Z b=some k):k.s=P.cellsOf E:=by
 unfold elemAt at h;split at h
 ·rename_i m T rw hb;cases h;obtain ⟨c,f,g,l,h1,i,j,a,_⟩:=d.obj _ _ _ hb e;exact a
 ·cases h
theorem K7 {E:TypeId} {s:Nat} (h:HV P E=some s):P.cellsOf E=s:=by
 unfold HV at h;unfold Program.cellsOf;rw[h]; rfl
theorem U3 {Z:Mu} {e:Operand->Option Value} {f:Operand->Value} (g:∀ x u,e x=some u->RV Z u (f x)) {x:Option Operand} {v:Option Value} {d n top a:Nat} (h:(x=none/\v=none) \/ ∃ y u,x=some y/\e y=some u/\v=some u)
  (c:(v=none/\n=d) \/ ∃ k i,v=some (.int k i)/\0<=i/\i<=(top:Int)/\n=i.toNat) (l:top<=a):
  (x.map f=none/\n=d) \/ ∃ k i,x.map f=some (.int k i)/\0<=i/\i<=(a:Int)/\n=i.toNat:=by
 rcases h with ⟨rfl,rfl⟩ | ⟨y,u,rfl,j,rfl⟩
 ·rcases c with ⟨_,rfl⟩ | ⟨k,i,b,_⟩
  ·exact .inl ⟨rfl,rfl⟩
  ·cases b
 ·rcases c with ⟨b,_⟩ | ⟨k,i,b,h0,h1,rfl⟩
  ·cases b
  ·cases b;have:=WD (g y _ j);exact .inr ⟨k,i,by simp[this],h0,by omega,rfl⟩
theorem ZY {len cap m h l:Nat} {lo hi g:Option Value} (h1:(g=none/\m=cap) \/ ∃ k i,g=some (.int k i)/\0<=i/\i<=(cap:Int)/\m=i.toNat)
  (h2:(hi=none/\h=len) \/ ∃ k i,hi=some (.int k i)/\0<=i/\i<=(m:Int)/\h=i.toNat) (h3:(lo=none/\l=0) \/ ∃ k i,lo=some (.int k i)/\0<=i/\i<=(h:Int)/\l=i.toNat)
  (j:g.isSome=true->hi.isSome=true) (w:World):(Instr.sliceBounds true len cap lo hi g).run P w = .ok (l,h,m) w:=by
 unfold Instr.sliceBounds;rcases h1 with ⟨rfl,rfl⟩ | ⟨p,i1,rfl,n,o,rfl⟩
 ·rcases h2 with ⟨rfl,rfl⟩ | ⟨e,i2,rfl,a,c,rfl⟩
  ·rcases h3 with ⟨rfl,rfl⟩ | ⟨f,i3,rfl,b,d,rfl⟩
   ·simp
   ·simp[Afy w f i3 h _ b d]
  ·rcases h3 with ⟨rfl,rfl⟩ | ⟨f,i3,rfl,b,d,rfl⟩
   ·simp[Afy w e i2 m _ a c]
   ·simp[Afy w e i2 m _ a c,Afy w f i3 _ _ b d]
 ·rcases h2 with ⟨rfl,rfl⟩ | ⟨e,i2,rfl,a,c,rfl⟩
  ·simp at j
  ·rcases h3 with ⟨rfl,rfl⟩ | ⟨f,i3,rfl,b,d,rfl⟩
   ·simp[Afy w p i1 cap _ n o,Afy w e i2 _ _ a c]
   ·simp[Afy w p i1 cap _ n o,Afy w e i2 _ _ a c,Afy w f i3 _ _ b d]
theorem sI {T:TypeId} {x:Operand} {lo hi F:Option Operand} {call:GK} {q:Bool} {ty:TypeId} {e:Operand->Option Value} {J:Aa} {K:Value->Aa->Option ρ} {r:ρ} {o:Oper} (ho:o.op = .slice T x lo hi F)
  (h:Jv P call q (.slice T x lo hi F) ty e J K=some r):∃ v,K v J=some r/\WR P o e J v:=by
 simp only[Jv,Aai] at h;obtain ⟨E,hE,s,hs,v,hv,h0⟩:=h;obtain ⟨au,h1,ak⟩:=bV h0;clear h0;obtain ⟨ah,U,Y⟩:=bV h1;clear h1;obtain ⟨O,h,C⟩:=bV U;clear U;have hT:=JD hE;cases v with
 | slice a len cap=>
   simp only[Aai] at h;obtain ⟨r0,h,hK⟩:=h;unfold Gj at h;simp only at h;cases N:(!O.isSome || ah.isSome) with
   | false=>rw[N] at h; cases h
   | true=>
     rw[N] at h;simp only[IS] at h;obtain ⟨m,h1,hm⟩:=VY h;clear h;obtain ⟨L,U,X⟩:=VY h1;clear h1;obtain ⟨l,h,aa⟩:=VY U;clear U;have ad:∀ f:Operand->Value,(F.map f).isSome=true->(hi.map f).isSome=true:=by
      intro f hq;rcases C with ⟨rfl,rfl⟩ | ⟨y,u,rfl,_,rfl⟩
      ·simp at hq
      ·rcases Y with ⟨rfl,rfl⟩ | ⟨y',u',rfl,_,rfl⟩
       ·simp at N
       ·rfl
     have ab:l<=L:=by rcases aa with ⟨_,rfl⟩ | ⟨_,_,_,_,_,rfl⟩ <;> omega
     have G:m<=cap:=by rcases hm with ⟨_,rfl⟩ | ⟨_,_,_,_,_,rfl⟩ <;> omega
     have j:len<=cap->L<=m:=by
      intro aj;rcases X with ⟨rfl,rfl⟩ | ⟨_,_,_,_,_,rfl⟩
      ·rcases hm with ⟨_,rfl⟩ | ⟨_,_,rfl,_,_,_⟩
       ·exact aj
       ·simp at N
      ·omega
     have main:∀ (Z:Mu) (w:World) (f:Operand->Value),(∀ x u,e x=some u->RV Z u (f x)) -> ∀ (Q:Option Addr) (b m':Nat),f x = .slice Q len b ->
       ((F.map f=none/\m'=b) \/ ∃ k i,F.map f=some (.int k i)/\0<=i/\i<=(b:Int)/\m'=i.toNat)->m<=m' ->
       (execOp f o).run P w = .ok (.value (.slice (if m'=l then Q else Q.map (·.add (l*s))) (L-l) (m'-l))) w:=by
      intro Z w f g Q b m' c A ac;refine Ba (by simp only[execOp,ho] <;> rfl) ?_;have hb:=ZY (P:=P) (len:=len) A (U3 g Y X ac) (U3 g ak aa (Aa1 _)) (ad f) w;simp only[c,Instr.sliceAt,Instr.slice,Adm,Ab9 hT,Acb,hb,run_sizeOf hs,Adq]
     by_cases n:m=l
     ·rw[Aay n] at h;cases a with
      | none=>
        simp only[Aeq] at h;subst h;refine ⟨_,hK,fun Z w f V g=>?_⟩;have I:=g x _ hv;generalize c:f x=fx at I;cases I with
        | sliceNil=>
          have U:=j (Aa1 _);have A:(F.map f=none/\(0:Nat)=0) \/ ∃ k i,F.map f=some (.int k i)/\0<=i/\i<=((0:Nat):Int)/\0=i.toNat:=by
           refine U3 g C ?_ (Aa1 0);rcases hm with ⟨g1,g2⟩ | ⟨k,i,g1,g2,g3,g4⟩
           ·exact .inl ⟨g1,rfl⟩
           ·exact .inr ⟨k,i,g1,g2,g3,by omega⟩
          refine ⟨_,main Z w f g none 0 0 c A (by omega), ?_⟩;rw[show L-l=0 by omega,show 0-l=0 by omega];split <;> exact .sliceNil
      | some Q=>
      simp only at h;cases M:O.isSome with
      | true=>
        rw[M] at h;simp only[IS,Aeq] at h;subst h;refine ⟨_,hK,fun Z w f V g=>?_⟩;have I:=g x _ hv;have hex:∃ k i,O=some (.int k i)/\0<=i/\i<=(cap:Int)/\m=i.toNat:=by
         rcases hm with ⟨rfl,_⟩ | hm
         ·simp at M
         ·exact hm
        generalize c:f x=fx at I;have A:∀ b,cap<=b->(F.map f=none/\m=b) \/ ∃ k i,F.map f=some (.int k i)/\0<=i/\i<=(b:Int)/\m=i.toNat:=by
         intro b af;exact U3 (d:=b) g C (.inr hex) af
        cases I with
        | sliceZ y hz=>
          refine ⟨_,main Z w f g _ 0 m c (A _ (Aa1 _)) (Aa1 _), ?_⟩;have:=j (Aa1 _);rw[Aay n,n,show L-l=0 by omega,Afl]; exact .sliceZ _ rfl
        | slice D t hl W p=>
          refine ⟨_,main Z w f g _ _ m c (A _ W) (Aa1 _), ?_⟩;have:=j hl;rw[Aay n,n,show L-l=0 by omega,Afl]; exact .sliceZ _ rfl
        | sliceEnd D t p=>
          refine ⟨_,main Z w f g _ _ m c (A _ (Ado _)) (Aa1 _), ?_⟩;have:=j (Aa1 _);rw[Aay n,n,show L-l=0 by omega,Afl]; exact .sliceZ _ rfl
      | false=>
        rw[M] at h;simp only[By] at h;have ae:O=none:=by simpa using M
        subst ae;have ar:m=cap:=by
         rcases hm with ⟨_,rfl⟩ | ⟨_,_,hx,_⟩
         ·rfl
         ·cases hx
        have H:∀ f:Operand->Value,F.map f=none:=by
         intro f;rcases C with ⟨rfl,_⟩ | ⟨_,_,_,_,hx⟩
         ·rfl
         ·cases hx
        split at h
        ·rename_i S;simp only[Aeq] at h;subst h;refine ⟨_,hK,fun Z w f V g=>?_⟩;have I:=g x _ hv;generalize c:f x=fx at I;cases I with
         | @sliceZ _ z y hz=>
           refine ⟨_,main Z w f g _ 0 0 c (.inl ⟨H f,rfl⟩) (by omega), ?_⟩;have:=j (Aa1 _);rw[show L-l=0 by omega,show 0-l=0 by omega,Aay (by omega)]; exact .sliceZ _ hz
         | @slice _ k' _ _ b D t hl W p=>
           have B:=RQ V S D;rw[K7 hs] at B;refine ⟨_,main Z w f g _ b b c (.inl ⟨H f,rfl⟩) (by omega), ?_⟩;have:=j hl;rw[show L-l=0 by omega];split
           ·rename_i ag;rw[show b-l=0 by omega];exact .slice D t (Aa1 _) (Aa1 _) (by have:0*k'.s<=b*k'.s:=Aer _ (Ado _); omega)
           ·simp only[Af3,Lr,Ad3];refine .sliceEnd D t ?_;rw[B,Nat.sub_mul];rw[B] at p;have:l*s<=b*s:=Aer _ (by omega);omega
         | @sliceEnd _ k' o' b D t p=>
           refine ⟨_,main Z w f g _ b b c (.inl ⟨H f,rfl⟩) (by omega), ?_⟩;have:=j (Aa1 _);have ai:l=0:=by omega
           subst ai;rw[show L-0=0 by omega,Ahn];split
           ·rename_i ag;exact .sliceEnd D t p
           ·simp only[Af3,Lr,Ad6,Aa0];exact .sliceEnd D t p
        ·cases h
     ·rw[Aaz n] at h;simp only[Aai] at h;obtain ⟨Q,ha,h⟩:=h;subst ha;split at h
      ·rename_i S;simp only[Aeq] at h;subst h;refine ⟨_,hK,fun Z w f V g=>?_⟩;have I:=g x _ hv;generalize c:f x=fx at I;cases I with
       | sliceZ y hz=>
         have h1:=j (Aa1 _);exact absurd (show m=l from Nat.le_antisymm (Adt G (Ado _)) (Adt ab h1)) n
       | @slice _ k' _ _ b D t hl W p=>
         have B:=RQ V S D;rw[K7 hs] at B;have ap:=j hl;obtain ⟨m',am,an,aq⟩:∃ m',((F.map f=none/\m'=b) \/ ∃ k i,F.map f=some (.int k i)/\0<=i/\i<=(b:Int)/\m'=i.toNat)/\m<=m'/\m'<=b:=by
          rcases hm with ⟨rfl,rfl⟩ | ⟨k,i,rfl,h0,h1,rfl⟩
          ·refine ⟨b,.inl ⟨?_,rfl⟩,W,Aa1 _⟩;rcases C with ⟨rfl,_⟩ | ⟨_,_,_,_,hx⟩
           ·rfl
           ·cases hx
          ·exact ⟨i.toNat,U3 g C (.inr ⟨k,i,rfl,h0,h1,rfl⟩) W,Aa1 _,by omega⟩
         refine ⟨_,main Z w f g _ b m' c am an, ?_⟩;rw[Aaz (by omega)];simp only[Af3,Lr,Ad3];refine RV.slice (a:=⟨Q.block,Q.off+l*s,none⟩) D rfl (by omega) (by omega) ?_;rw[B,Nat.sub_mul];rw[B] at p;have:l*s<=m'*s:=Aer _ (by omega);have:m'*s<=b*s:=Aer _ (by omega);simp only;omega
       | @sliceEnd _ k' o' b D t p=>
         have h1:=j (Aa1 _);exact absurd (show m=l from Nat.le_antisymm (Adt G (Ado _)) (Adt ab h1)) n
      ·cases h
 | _=>cases h
end
section
variable {ρ:Type} {P:Program} [AJ]
theorem ox {c:Call} {call:GK} {q:Bool} {ty:TypeId} {e:Operand->Option Value} {J:Aa} {K:Value->Aa->Option ρ} {r:ρ} {o:Oper} (z:o.op = .call c) (hb:c.callee = .builtin .len)
  (h:Jv P call q (.call c) ty e J K=some r):∃ v,K v J=some r/\WR P o e J v:=by
 simp only[Jv,hb] at h;obtain ⟨F,h1,i⟩:=MI h;clear h;simp only[OI,zR] at h1;split at h1;rotate_left
 ·cases h1
 rename_i t v g;split at h1
 ·rename_i n _ hd;refine ⟨_,h1,fun Z w f p m=>?_⟩;obtain ⟨cs,hex⟩:=Dw (f:=f) z hb;have d:=i Z f m;generalize c.args.toList.map f=l at d hex;cases d with
  | cons h1 j=>
    cases j;refine ⟨_, ?_,.int _ _⟩;rw[hex,toList_eq g];cases h1 <;> simp[builtin,Builtin.len_,Ab9 hd,goInt]
 ·rename_i s hd;refine ⟨_,h1,fun Z w f p m=>?_⟩;obtain ⟨cs,hex⟩:=Dw (f:=f) z hb;have d:=i Z f m;generalize c.args.toList.map f=l at d hex;cases d with
  | cons h1 j=>
    cases j;refine ⟨_, ?_,.int _ _⟩;rw[hex,toList_eq g];cases h1 <;> simp[builtin,Builtin.len_,Ab9 hd,goInt]
 ·rename_i D hd;simp only[Aai] at h1;obtain ⟨es,k,h1⟩:=h1;refine ⟨_,h1,fun Z w f p m=>?_⟩;obtain ⟨cs,hex⟩:=Dw (f:=f) z hb;have d:=i Z f m;generalize c.args.toList.map f=l at d hex;clear h1;cases d with
  | cons h1 j=>
    cases j;refine ⟨_, ?_,.int _ _⟩;rw[hex,toList_eq g];cases D with
    | none=>
      cases k;rw[Rh h1];simp[builtin,Builtin.len_,Ab9 hd,goInt]
    | some E=>
      obtain ⟨kb,y,x⟩:=YK h1;obtain ⟨entries,clock,B,A⟩:=Y7 p k y;have hlen:es.length=entries.size:=by
       have:∀ (a:List (Int × Value)) (b:List MapEntry),Vz Z a b->a.length=b.length:=by
        intro a b u
        induction u with
        | nil=>rfl
        | cons _ _ _ C=>simp[C]
       simpa using this _ _ A
      rw[x];simp[builtin,Builtin.len_,Ab9 hd,goInt,KK B,hlen]
 ·cases h1
theorem iP {o:Oper} {call:GK} {q:Bool} {e:Operand->Option Value} {J:Aa} {K:Value->Aa->Option ρ} {r:ρ} (d:Gh P o = .ld)
  (h:Jv P call q o.op o.type e J K=some r):∃ v,K v J=some r/\WR P o e J v:=by
 cases a:o.op
 case load=>rw[a] at h; exact lg a h
 case lookup=>rw[a] at h; exact oy a h
 case slice=>rw[a] at h; exact sI a h
 case call c=>
  rw[a] at h;simp only[Gh,a] at d;split at d
  ·rename_i b hb;cases b <;> simp only[eu] at d <;> first
    | (cases d; done)
    | skip
   exact ox a hb h
  ·cases d
 all_goals (simp[Gh,a] at d)
def pc (P:Program) (Z:Mu) (J:Aa) (w:World) (v:Value) (J':Aa) (res:Result Next):Prop:=
 ∃ a b w',(res = .ok (.value b) w'\/(res = .ok .skip w'/\b=undef))/\RV a v b/\R P a J' w'/\Step Z J w a J' w'
theorem rI {Z:Mu} {vs:List Value} {c:Array Value} {T:TypeId} {s b:Nat} (hs:s=P.cellsOf T) (a:J5 Z vs c.toList) (d:∀ v ∈ vs,v.oneCell'=true):
  dW P Z (.cells vs T true) ⟨b,0,s,vs.length,vs.length⟩ (some (.cells c T)):=by
 have hlen:=a.length;refine ⟨c,T,(0,0),rfl,rfl,Aa1 _,by simp at hlen ⊢; omega,hs,fun _=>rfl,d, ?_⟩;simp only[Adf];rw[Ady (by omega)];exact a
theorem QW {Z:Mu} {J:Aa} {w:World} (b:R P Z J w) (d:H8 Z J.length (J.length+1)) {vs:List Value} {c:Array Value} {T:TypeId} (f:J5 Z vs c.toList) (e:∀ v ∈ vs,v.oneCell'=true)
  {v v':Value} (g:∀ a:Mu,a J.length=some ⟨w.heap.size,0,P.cellsOf T,vs.length,vs.length⟩->RV a v v'):
  pc P Z J w v (J++[Au.cells vs T true]) (.ok (.value v') (w.alloc (.cells c T))):=by
 refine ⟨Z.put J.length ⟨w.heap.size,0,P.cellsOf T,vs.length,vs.length⟩,v',_,.inl rfl,g _ (Mu.FP _ _ _), ?_,Step.alloc rfl⟩;exact b.alloc (d _ (Aa1 _) (Nat.lt_succ_self _)) rfl (rI rfl f e)
def yX (P:Program) (o:Oper) (e:Operand->Option Value) (J:Aa) (v:Value) (J':Aa):Prop:=
 ∀ (Z:Mu) (w:World) (f:Operand->Value),R P Z J w->H8 Z J.length J'.length->(∀ x u,e x=some u->RV Z u (f x))->pc P Z J w v J' ((execOp f o).run P w)
theorem Q3 (z:Array Value) (n:Nat) (c:0<z.size):((Array.range (n*z.size)).map (fun x=>z[x % z.size]!)).toList=rep n z.toList:=by
 apply Ad8;intro i;simp only[Array.toList_map,Array.toList_range,Aeg,Afo]
 induction n generalizing i with
 | zero=>simp[AX.rep]
 | succ n b=>
   have e:AX.rep (n+1) z.toList=z.toList++AX.rep n z.toList:=by simp[AX.rep,Aeu]
   rw[e];by_cases hi:i<z.size
   ·rw[AT (by simpa using hi)];have:i<(n+1)*z.size:=by rw[Nat.succ_mul]; omega
    simp[Afo,this,Nat.mod_eq_of_lt hi,hi]
   ·rw[Acf (by simpa using Ah5 hi)];simp only[Aen];rw[<- b (i-z.size)];have hm:i % z.size=(i-z.size) % z.size:=by
     rw[Nat.mod_eq_sub_mod (Ah5 hi)]
    by_cases a:i<(n+1)*z.size
    ·have:i-z.size<n*z.size:=by rw[Nat.succ_mul] at a; omega
     simp[Afo,a,this,hm]
    ·have:¬ i-z.size<n*z.size:=by rw[Nat.succ_mul] at a; omega
     simp[Afo,a,this]
theorem ov {o:Oper} {call:GK} {q:Bool} {e:Operand->Option Value} {J:Aa} {K:Value->Aa->Option ρ} {r:ρ} (hc:Gh P o = .al) (ag:∀ c,o.op ≠ .call c)
  (h:Jv P call q o.op o.type e J K=some r):∃ v x,K v (J++[x])=some r/\yX P o e J v (J++[x]):=by
 cases m:o.op
 case call c=>exact absurd m (ag c)
 case box T x=>
  rw[m] at h;simp only[Jv,Aai] at h;obtain ⟨v,L,h⟩:=h;cases ht:Gq v with
  | true=>rw[ht] at h; cases h
  | false=>
    rw[ht] at h;simp only[By] at h;refine ⟨_,_,h,fun Z w f u d C=>?_⟩;obtain ⟨h1,h2,h3⟩:=Kb (C x v L) ht;have b:(execOp f o).run P w = .ok (.value (.pointer (some ⟨w.heap.size,0,none⟩))) (w.alloc (.cells (f x).cells T)):=by
     refine Ba (by simp only[execOp,m] <;> rfl) ?_;simp[Instr.box,newVar,newRow]
    rw[b];exact QW u (by simpa using d) h1 h2 fun Y F=>RV.ptr (a:=⟨J.length,0,none⟩) F rfl
 case alloc T=>
  rw[m] at h;simp only[Jv,Aai] at h;obtain ⟨z,V,h⟩:=h;split at h
  ·rename_i y;refine ⟨_,_,h,fun Z w f u d C=>?_⟩;obtain ⟨A,B⟩:=KL V w;obtain ⟨h1,h2,h3⟩:=Kb (RV.IX (Z:=Z) B) y;have b:(execOp f o).run P w = .ok (.value (.pointer (some ⟨w.heap.size,0,none⟩))) (w.alloc (.cells z.cells T)):=by
    refine Ba (by simp only[execOp,m] <;> rfl) ?_;simp[Instr.alloc,newVar,newRow,A]
   rw[b];exact QW u (by simpa using d) h1 h2 fun Y F=>RV.ptr (a:=⟨J.length,0,none⟩) F rfl
  ·cases h
 case buildSlice T n parts=>
  rw[m] at h;simp only[Jv,Aai] at h;obtain ⟨E,hE,h⟩:=h;cases H:(n == 0) with
  | true=>
    have hn:n=0:=by simpa using H
    subst hn;rw[H] at h;simp only[IS] at h;cases I:parts.toList.isEmpty with
    | false=>rw[I] at h; cases h
    | true=>
    rw[I] at h;simp only[IS,Aai] at h;obtain ⟨s,j,h⟩:=h;have ai:parts = #[]:=by
     apply Ag8.1; simpa using I
    subst ai;refine ⟨_,_,h,fun Z w f u d C=>?_⟩;have N:=JD hE;have b:(execOp f o).run P w = .ok (.value (.slice (some ⟨w.heap.size,0,none⟩) 0 0)) (w.alloc (.cells #[] E)):=by
     refine Ba (by simp only[execOp,m] <;> rfl) ?_;simp[Instr.buildSlice,Ab9 N,run_sizeOf j,Instr.fill,newRow,Ag9];have e:Array.map (fun _=>(default:Value)) (Array.range 0) = #[]:=by
      apply Array.eq_empty_of_size_eq_zero; simp
     rw[e]
    rw[b];refine QW u (by simpa using d) .nil (by simp) fun Y F=>?_;exact RV.sliceZ (a:=⟨J.length,0,some 0⟩) (z:=0) _ rfl
  | false=>
  rw[H] at h;simp only[By,Aai] at h;obtain ⟨z,V,h⟩:=h;obtain ⟨ps,h1,aj⟩:=bW h;clear h;split at h1
  ·rename_i U;obtain ⟨j,hn,D,hle,y⟩:=U;simp only[Aai] at h1;obtain ⟨cs,ab,h⟩:=h1;refine ⟨_,_,h,fun Z w f u d C=>?_⟩;obtain ⟨A,B⟩:=KL V w;obtain ⟨g1,g2,g3⟩:=Kb (RV.IX (Z:=Z) B) y;have N:=JD hE;have g:=Q3 z.cells n D;obtain ⟨X,k1,k2,k3,k4⟩:=Uf ps _ _ ((Array.range (n*z.cells.size)).map (fun x=>z.cells[x % z.cells.size]!)) cs (aj Z f C) (by rw[g]; exact g1.rep n)
    (by intro v L; simp only[AX.rep,Adw,Af9] at L; obtain ⟨l,⟨_,rfl⟩,M⟩:=L; exact g2 v M) ab;have hm:(parts.map fun x=>(x.1,f x.2)).toList=parts.toList.map fun p=>(p.1,f p.2):=by simp
   have b:(execOp f o).run P w = .ok (.value (.slice (some ⟨w.heap.size,0,none⟩) n n)) (w.alloc (.cells X E)):=by
    refine Ba (by simp only[execOp,m] <;> rfl) ?_;have ah:¬ n*z.cells.size=0:=by
     have:=Nat.mul_pos hn D; omega
    simp only[Instr.buildSlice,Adm,Ab9 N,Acb,run_sizeOf j,Sem.run_ite,Aaz (Aha.2 hle),Aaz ah,A,Adq,hm,k1,newRow,Ag9]
   rw[b];have aa:cs.length=n*z.cells.size:=by
    rw[k4,<- g]; simp
   refine QW u (by simpa using d) k2 k3 fun Y F=>?_;refine RV.slice (a:=⟨J.length,0,none⟩) F rfl (Aa1 _) (Aa1 _) ?_;simp only[K7 j,aa]; omega
  ·cases h1
 case makeMap T rs=>
  rw[m] at h;cases rs with
  | some x=>simp only[Jv] at h; cases h
  | none=>
    simp only[Jv] at h;refine ⟨_,_,h,fun Z w f u d C=>?_⟩;have b:(execOp f o).run P w = .ok (.value (.map (some w.heap.size))) (w.alloc (.map #[] 0)):=by
     refine Ba (by simp only[execOp,m] <;> rfl) ?_;simp[Instr.makeMap]
    rw[b];refine ⟨Z.put J.length ⟨w.heap.size,0,0,0,0⟩,_,_,.inl rfl,RV.map (k:=⟨w.heap.size,0,0,0,0⟩) (Mu.FP _ _ _), ?_,Step.alloc rfl⟩;exact u.alloc (d _ (Aa1 _) (by simp)) rfl ⟨#[],0,rfl,.nil⟩
 case makeSlice T l c=>
  rw[m] at h;simp only[Jv,Aai] at h;obtain ⟨E,hE,lv,hl,cv,ac,h⟩:=h;split at h
  ·rename_i W t;simp only[Aai] at h;obtain ⟨by_,O,h⟩:=h;split at h
   ·rename_i U;obtain ⟨h0,aq,ap,am⟩:=U;simp only[Aai] at h;obtain ⟨z,V,h⟩:=h;split at h
    ·rename_i U;obtain ⟨j,D,y⟩:=U;refine ⟨_,_,h,fun Z w f u d C=>?_⟩;obtain ⟨A,B⟩:=KL V w;obtain ⟨g1,g2,g3⟩:=Kb (RV.IX (Z:=Z) B) y;have N:=JD hE;have ae:=WD (C l _ hl);have ad:=WD (C c _ ac);have Q:∃ i,P.info? E=some i/\i.bytes=by_:=by unfold bytesOf at O; simpa using O
     obtain ⟨i,hi,af⟩:=Q;have wl:IntKind.i64.wrap W=W:=IntWalk.i64_in _ (by omega);have wc:IntKind.i64.wrap t=t:=IntWalk.i64_in _ (by omega);have b:(execOp f o).run P w = .ok (.value (.slice (some ⟨w.heap.size,0,none⟩) W.toNat t.toNat)) (w.alloc (.cells ((Array.range (t.toNat*z.cells.size)).map (fun x=>z.cells[x % z.cells.size]!)) E)):=by
      refine Ba (by simp only[execOp,m] <;> rfl) ?_;have ak:(typeInfo E).run P w = .ok i w:=by simp[typeInfo,hi]
      have an:¬ ((by_:Int)*t>2 ^ 48):=by
       rw[Int.mul_comm]; omega
      simp only[Instr.makeSlice,Adm,Ab9 N,Acb,ae,ad,asInt,asIntOf,Adq,ak,wl,wc,af];have G:((decide (t<0) || decide ((by_:Int)*t>2 ^ 48)) || decide (W<0) || decide (W>t))=false:=by
       simp only[Bool.or_eq_false_iff,decide_eq_false_iff_not]; omega
      rw[Aaz (by rw[G]; simp)];simp only[Adm,run_askRoom,Acb,run_sizeOf j];by_cases S:t.toNat*z.cells.size=0
      ·simp only[S,Aat,Adq,Acb,newRow,Adm,Ag9,show Array.range 0=(#[]:Array Nat) from rfl,Array.map_empty]
      ·simp only[S,Aa5,Adm,A,Adq,Acb,newRow,Ag9]
     rw[b];have g:=Q3 z.cells t.toNat D;have hlen:(AX.rep t.toNat z.cells.toList).length=t.toNat*z.cells.size:=by rw[<- g]; simp
     refine QW u (by simpa using d) (by rw[g]; exact g1.rep _) ?_ fun Y F=>?_
     ·intro v L; simp only[AX.rep,Adw,Af9] at L; obtain ⟨l,⟨_,rfl⟩,M⟩:=L; exact g2 v M
     ·refine RV.slice (a:=⟨J.length,0,none⟩) F rfl (by omega) (Aa1 _) ?_;simp only[K7 j,hlen]; omega
    ·cases h
   ·cases h
  ·cases h
 all_goals (simp[Gh,m] at hc)
end
section
variable {ρ:Type} {P:Program} [AJ]
theorem R.yo {Z:Mu} {J:Aa} {w w':World} (n:R P Z J w) {h:Nat} {k:YR} (v:Z h=some k) (q:alive J h) (j:AK J h) {o':Au} (u:w'.heap.size=w.heap.size)
  (e:∀ b,b≠k.b->w'.heap[b]?=w.heap[b]?) (p:dW P Z o' k w'.heap[k.b]?):R P Z (J.set h o') w':=by
 have i:∀ x,alive (J.set h o') x->alive J x:=by
  intro x ⟨o,p,hd⟩;by_cases d:x=h
  ·subst d; exact q
  ·rw[Aar (Adk d)] at p; exact ⟨o,p,hd⟩
 refine ⟨?_, ?_, ?_⟩
 ·intro x o m d c;by_cases g:x=h
  ·subst g;rw[v] at c; cases c;obtain ⟨D,t,_⟩:=q;have r:x<J.length:=(Ab6.1 t).1;rw[Aa2 r] at d;cases d;exact p
  ·rw[Aar (Adk g)] at d;by_cases hd:o = .dead
   ·subst hd; trivial
   ·have s:m.b≠k.b:=fun he=>g (n.inj x h m k c v ⟨o,d,hd⟩ q (.inr j) he);rw[e _ s];exact n.obj x o m d c
 ·intro x m c; rw[u]; exact n.lt x m c
 ·have f:∀ x,AK (J.set h o') x->AK J x:=by
   intro x l;by_cases d:x=h
   ·subst d; exact j
   ·unfold AK at l ⊢
    rwa [Aar (Adk d)] at l
  intro a b C kb h1 y z A B h5;exact n.inj a b C kb h1 y (i a z) (i b A) (B.imp (f a) (f b)) h5
theorem Step.yo {Z:Mu} {J:Aa} {w w':World} {h:Nat} {k:YR} (i:Z h=some k) (j:h<J.length) (hw:AK J h) {o':Au} (m:w'.heap.size=w.heap.size) (n:w'.tape=w.tape) (f:w'.os=w.os) (c:w'.output=w.output)
  (a:∀ b,b≠k.b->w'.heap[b]?=w.heap[b]?):Step Z J w Z (J.set h o') w':=by
 refine ⟨by simp,fun _ _=>rfl, ?_, ?_,by omega,n,f,c, ?_⟩
 ·intro x o d;by_cases e:x=h
  ·subst e; exact hw
  ·unfold AK at d ⊢
   rwa [Aar (Adk e)] at d
 ·intro x p h1 g; simp at g; omega
 ·intro b hb l;exact a b fun he=>l h k j i he.symm hw
theorem Ox {cs vs:List Value} {o:Nat} (h:o+vs.length<=cs.length) (i:Nat):
  (Bb cs o vs)[i]?=if i<o then cs[i]? else if i<o+vs.length then vs[i-o]? else cs[i]?:=by
 unfold Bb;have b:(cs.take o).length=o:=by simp; omega
 by_cases h1:i<o
 ·rw[Aay h1,Aaq,AT (by omega),Ad2,Aay h1]
 ·rw[Aaz h1];by_cases a:i<o+vs.length
  ·rw[Aay a,AT (by rw[Aaw]; omega),Acf (by omega),b]
  ·rw[Aaz a,Acf (by rw[Aaw]; omega),Ad0];congr 1;rw[Aaw]; omega
theorem jf {cs:List Value} {o:Nat} {v:Value} (h:o<cs.length):cs.set o v=Bb cs o [v]:=by
 apply Ad8;intro i;rw[Ox (by simp; omega),Aed];by_cases h1:o=i
 ·subst h1; simp[h]
 ·simp only[h1,Aa5,Ac3];by_cases a:i<o
  ·simp[a]
  ·have:¬ i<o+1:=by omega
   simp[a,this]
theorem LM {Z:Mu} {J:Aa} {w:World} (D:R P Z J w) {b o:Nat} {k:YR} (u:Z b=some k) {cs vs f:List Value} {T:TypeId} (hb:J[b]?=some (.cells cs T true)) (z:J5 Z vs f)
  (E:∀ v ∈ vs,v.oneCell'=true) (p:o+vs.length<=cs.length):
  ∃ w',(storeCells ⟨k.b,k.o+o,none⟩ f).run P w = .ok () w'/\R P Z (J.set b (.cells (Bb cs o vs) T true)) w'/\Step Z J w Z (J.set b (.cells (Bb cs o vs) T true)) w':=by
 obtain ⟨c,n,N,F,h1,G,H,I,h5,K,C⟩:=D.obj _ _ _ hb u;have t:=h5 rfl;subst t;have M:=z.length;have l:=run_storeCells_at P k.b (k.o+o) n f 0 c w F (by omega) (z.leaf E);have s:b<J.length:=(Ab6.1 hb).1;have r:alive J b:=⟨_,hb,by simp⟩;have m:AK J b:=by unfold AK; rw[hb]; trivial
 have e:(c.toList.take (k.o+o+0)++f++c.toList.drop (k.o+o+0+f.length)).toArray.toList=Bb c.toList (k.o+o) f:=by simp[Bb]
 refine ⟨_,l, ?_, ?_⟩
 ·refine D.yo u r m (size_setRow _ _ _) (fun q g=>setRow_other w k.b q _ g) ?_;have L:(w.setRow k.b (c.toList.take (k.o+o+0)++f++c.toList.drop (k.o+o+0+f.length)).toArray).heap[k.b]?=some (.cells _ n (0,0)):=setRow_heap w k.b c _ n _ F;rw[L];have hlen:(Bb c.toList (k.o+o) f).length=c.size:=by rw[Il (by simp; omega)]; simp
  refine ⟨_,n,(0,0),rfl,by rw[Il p]; exact h1,G, ?_,I,fun _=>rfl,Qu K E, ?_⟩
  ·rw[<- Aen,e,hlen]; exact H
  ·rw[e];refine J5.oo ?_ ?_
   ·rw[Il p,Adn,Adp,hlen]; omega
   ·intro i x O d a;have hi:i<k.n:=by
     have:=(Ab6.1 d).1;rw[Il p] at this; omega
    rw[Ad2,Aay hi,Ad0,Ox (by simp; omega)] at a;rw[Ox p] at d;by_cases A:i<o
    ·rw[Aay A] at d;rw[Aay (by omega)] at a;obtain ⟨y,h,j⟩:=C.get i x d;rw[Ad2,Aay hi,Ad0] at h;rw[h] at a; cases a; exact j
    ·rw[Aaz A] at d;rw[Aaz (by omega)] at a;by_cases B:i<o+vs.length
     ·rw[Aay B] at d;rw[Aay (by omega)] at a;obtain ⟨y,h,j⟩:=z.get _ x d;rw[show k.o+i-(k.o+o)=i-o by omega,h] at a;cases a; exact j
     ·rw[Aaz B] at d;rw[Aaz (by omega)] at a;obtain ⟨y,h,j⟩:=C.get i x d;rw[Ad2,Aay hi,Ad0] at h;rw[h] at a; cases a; exact j
 ·exact Step.yo u s m (size_setRow _ _ _) rfl rfl rfl (fun q g=>setRow_other w k.b q _ g)
theorem Pq {w:World} {b:Nat} {entries:Array MapEntry} {clock:Nat} (h:w.heap[b]?=some (.map entries clock)) (x:Obj):(setObj b x).run P w = .ok () { w with heap:=w.heap.setIfInBounds b x }:=by
 simp only[setObj,Sem.run,h]
theorem NS {Z:Mu} {J:Aa} {w:World} (i:R P Z J w) {h:Nat} {k:YR} (f:Z h=some k) {es es2:List (Int × Value)} (hb:J[h]?=some (.map es)) {entries2:Array MapEntry} (clock:Nat) (g:Vz Z es2 entries2.toList):
  R P Z (J.set h (.map es2)) { w with heap:=w.heap.setIfInBounds k.b (.map entries2 clock) }/\Step Z J w Z (J.set h (.map es2)) { w with heap:=w.heap.setIfInBounds k.b (.map entries2 clock) }:=by
 have e:h<J.length:=(Ab6.1 hb).1;have d:alive J h:=⟨_,hb,by simp⟩;have c:AK J h:=by unfold AK; rw[hb]; trivial
 have a:∀ b,b≠k.b->(w.heap.setIfInBounds k.b (.map entries2 clock))[b]?=w.heap[b]?:=fun b hb=>by
  rw[Aff,Aaz (Adk hb)]
 refine ⟨i.yo f d c (by simp) a ?_,Step.yo f e c (by simp) rfl rfl rfl a⟩;have:(w.heap.setIfInBounds k.b (.map entries2 clock))[k.b]?=some (.map entries2 clock):=by
  rw[Aff,Aay rfl,Aay (i.lt _ _ f)]
 show dW P Z _ k (w.heap.setIfInBounds k.b (.map entries2 clock))[k.b]?;rw[this];exact ⟨entries2,clock,rfl,g⟩
theorem Vz.push {Z:Mu} {k:Int} {v v':Value} (b:RV Z v v') (born:Nat):∀ {es:List (Int × Value)} {a:List MapEntry},Vz Z es a->Vz Z (es++[(k,v)]) (a++[{ key:=.int .i64 k,val:=v',born:=born }])
 | _,_,.nil=>.cons rfl b .nil
 | _,_,.cons c h t=>.cons c h (Vz.push b born t)
theorem Vz.set {Z:Mu} {k:Int} {v v':Value} (c:RV Z v v'):∀ {es:List (Int × Value)} {a:List MapEntry} (j:Nat),Vz Z es a->Vz Z (es.set j (k,v)) (a.modify j fun e=>{ e with key:=.int .i64 k,val:=v' })
 | _,_,_,.nil=>by simpa using Vz.nil
 | _,_,0,.cons b h t=>.cons rfl c t
 | _,_,j+1,.cons b h t=>.cons b h (Vz.set c j t)
theorem Vz.erase {Z:Mu}:∀ {es:List (Int × Value)} {a:List MapEntry} (j:Nat),Vz Z es a->Vz Z (es.eraseIdx j) (a.eraseIdx j)
 | _,_,_,.nil=>by simpa using Vz.nil
 | _,_,0,.cons b h t=>t
 | _,_,j+1,.cons b h t=>.cons b h (Vz.erase j t)
theorem Vz.length {Z:Mu}:∀ {es:List (Int × Value)} {a:List MapEntry},Vz Z es a->es.length=a.length
 | _,_,.nil=>rfl
 | _,_,.cons _ _ t=>by simp[Vz.length t]
def re (P:Program) (o:Oper) (e:Operand->Option Value) (J:Aa) (v:Value) (J':Aa):Prop:=
 ∀ (Z:Mu) (w:World) (f:Operand->Value),R P Z J w->H8 Z J.length J'.length->(∀ x u,e x=some u->RV Z u (f x))->pc P Z J w v J' ((execOp f o).run P w)
theorem Oa {o:Oper} {f:Operand->Value} {w w':World} {s:Sem Unit} (h:execOp f o=(do s; pure .skip:Sem Next)) (hs:s.run P w = .ok () w'):
  (execOp f o).run P w = .ok .skip w':=by
 rw[h]; simp[hs]
theorem Ri {Z:Mu}:RV Z undef undef:=.tuple .nil
theorem vW {J J':Aa} {b o:Nat} {v:Value} (h:CY J b o v=some J'):∃ cs T,J[b]?=some (.cells cs T true)/\o+[v].length<=cs.length/\J'=J.set b (.cells (Bb cs o [v]) T true):=by
 unfold CY at h;split at h
 ·rename_i cs T hb;split at h
  ·rename_i a;cases h;exact ⟨cs,T,hb,by simp; omega,by rw[jf a]⟩
  ·cases h
 ·cases h
theorem Rn {J J':Aa} {b o:Nat} {vs:List Value} (h:H5 J b o vs=some J'):∃ cs T,J[b]?=some (.cells cs T true)/\o+vs.length<=cs.length/\J'=J.set b (.cells (Bb cs o vs) T true):=by
 unfold H5 at h;split at h
 ·rename_i cs T hb;split at h
  ·rename_i a;cases h;exact ⟨cs,T,hb,a,rfl⟩
  ·cases h
 ·cases h
theorem tq {J:Aa} {b o:Nat} {cs vs:List Value} {T:TypeId} (hb:J[b]?=some (.cells cs T true)) (h:o+vs.length<=cs.length):H5 J b o vs=some (J.set b (.cells (Bb cs o vs) T true)):=by
 simp only[H5,hb];rw[Aay h]
theorem sJ {T:TypeId} {x y:Operand} {call:GK} {q:Bool} {ty:TypeId} {e:Operand->Option Value} {J:Aa} {K:Value->Aa->Option ρ} {r:ρ} {o:Oper} (F:o.op = .store T x y)
  (h:Jv P call q (.store T x y) ty e J K=some r):∃ v J',K v J'=some r/\J.length<=J'.length/\re P o e J v J' /\ ∃ a,e x=some (.pointer (some a)) /\ ∀ b,b≠a.block->J'[b]?=J[b]?:=by
 simp only[Jv,Aai] at h;obtain ⟨v,s,u,hu,h⟩:=h;cases v with
 | pointer H=>
   simp only[Aai] at h;obtain ⟨a,C,h⟩:=h;subst C;have main:∀ (g:List Value) (J':Aa),HV P T=some u.cells.size->u.cells.toList=g->Gq u=false->H5 J a.block a.off g=some J'->re P o e J undef J':=by
    intro g J' d l G c Z w f A D z;obtain ⟨cs,m,hb,hlen,rfl⟩:=Rn c;obtain ⟨k,E,p⟩:=dx (z x _ s);obtain ⟨h1,t,I⟩:=Kb (z y u hu) G;rw[l] at h1 t;obtain ⟨w',i,n,B⟩:=LM A E hb h1 t hlen;refine ⟨Z,undef,w',.inr ⟨?_,rfl⟩,Ri,n,B⟩;refine Oa (by simp only[execOp,F] <;> rfl) ?_;have j:¬ (f y).cells.size≠u.cells.size:=by
     have:=h1.length;rw[<- l] at this;simp at this ⊢; omega
    simp only[p,Instr.storeAt,Instr.sureAddr,Adm,Adq,Acb,storeVar,run_sizeOf d];rw[Aaz j];exact i
   cases u with
   | agg g=>
     simp only at h;split at h
     ·rename_i d;simp only[Aai] at h;obtain ⟨J',c,h⟩:=h;refine ⟨_,J',h, ?_,main g.toList J' d rfl rfl c,a,s, ?_⟩
      ·obtain ⟨cs,m,hb,hlen,rfl⟩:=Rn c;simp
      ·obtain ⟨cs,m,hb,hlen,rfl⟩:=Rn c;exact fun b hb=>Aar (Adk hb)
     ·cases h
   | tuple g=>simp at h
   | _=>
     simp only at h;split at h
     ·rename_i d;simp only[Aai] at h;obtain ⟨J',c,h⟩:=h;obtain ⟨cs,m,hb,hlen,rfl⟩:=vW c;exact ⟨_,_,h,by simp,main _ _ d rfl rfl (tq hb hlen),a,s,fun b hb=>Aar (Adk hb)⟩
     ·cases h
 | _=>cases h
theorem eY {T:TypeId} {m i y:Operand} {call:GK} {q:Bool} {ty:TypeId} {e:Operand->Option Value} {J:Aa} {K:Value->Aa->Option ρ} {r:ρ} {o:Oper} (O:o.op = .mapUpdate T m i y)
  (h:Jv P call q (.mapUpdate T m i y) ty e J K=some r):∃ v J',K v J'=some r/\J.length<=J'.length/\re P o e J v J':=by
 simp only[Jv,Aai] at h;obtain ⟨mv,hm,kv,U,u,hu,h⟩:=h;split at h;rotate_left
 ·cases h
 rename_i kt E rr k M;split at h;rotate_left
 ·cases h
 rename_i H;simp only[Aai] at h;obtain ⟨V,I,es,c,h⟩:=h;subst I;refine ⟨_,_,h,by simp,fun Z w f C S F=>?_⟩;have n:=UK H;obtain ⟨kb,l,x⟩:=YK (F m _ hm);have t:=WD (F i _ U);have z:=F y u hu;obtain ⟨entries,clock,A,p⟩:=Y7 C c l;have hb:J[V]?=some (.map es):=by
  unfold Un at c;split at c
  ·cases c; assumption
  ·cases c
 have b:=findNow_spec (k:=k) es entries.toList 0 p;have s:=R6 (P:=P) (k:=.i64) (a:=k) n false 9999 w;cases N:NX es k with
 | none=>
   rw[N] at b;obtain ⟨h1,B,L⟩:=b;have d:Vz Z (es++[(k,u)]) (entries.push { key:=.int .i64 k,val:=f y,born:=clock }).toList:=by
    rw[Array.toList_push]; exact p.push z clock
   obtain ⟨g,D⟩:=NS C l hb (clock+1) d;rw[B];refine ⟨Z,undef,_,.inr ⟨?_,rfl⟩,Ri,g,D⟩;refine Oa (by simp only[execOp,O] <;> rfl) ?_;simp only[x,t,Instr.mapUpdate,Adm,Ab9 M,Acb,KK A,s,Instr.findKey,Ab9 n,h1,Adq,Pq A]
 | some u0=>
   rw[N] at b;obtain ⟨j,Q,h1,B,L,W,h5,X,Y⟩:=b;rw[IN] at h1;have d:Vz Z (es.set j (k,u)) (entries.modify j fun e=>{ e with key:=.int .i64 k,val:=f y }).toList:=by
    rw[Array.toList_modify]; exact p.set z j
   obtain ⟨g,D⟩:=NS C l hb clock d;rw[h5];refine ⟨Z,undef,_,.inr ⟨?_,rfl⟩,Ri,g,D⟩;refine Oa (by simp only[execOp,O] <;> rfl) ?_;have he:entries[j]?=some Q:=by simpa using B
   have G:(Instr.keyThatStays (.int .i64 k) (.int .i64 k)).run P w = .ok (.int .i64 k) w:=by
    simp[Instr.keyThatStays,Instr.sameBits]
   simp only[x,t,Instr.mapUpdate,Adm,Ab9 M,Acb,KK A,s,Instr.findKey,Ab9 n,h1,Adq,he,Af3,Afs,L,G,Pq A]
end
section
variable {ρ:Type} {P:Program} [AJ]
theorem td {a IY bytes:Nat} (h:IY<a) (b:KF a bytes):¬ Builtin.nextslicecap a IY*bytes>2 ^ 48:=by
 have h1:=nextslicecap_le h;have c:Builtin.nextslicecap a IY*bytes<=2*a*bytes:=Aer _ h1;have d:2*a*bytes=2*(a*bytes):=Nat.mul_assoc _ _ _;have:=b.1;omega
section
variable {t t' ty E E':TypeId} {s by_ n l c:Nat} {base:Option Addr} {x:Value} {new IY:Array Value} {w w':World}
theorem KJ (g:P.underlying t=some (.slice E)) (f:P.underlying t'=some (.slice E')) (hs:HV P E=some s) (hlen:(Builtin.lenOf x).run P w = .ok n w)
  (d:l+n<=c) (e:(Builtin.firstCells s n x).run P w = .ok new w) (b:(match base with | some a=>storeCells (a.add (l*s)) new.toList | none=>pure ()).run P w = .ok () w'):
  (Builtin.append_ #[t,t'] ty #[.slice base l c,x]).run P w = .ok (.slice base (l+n) c) w':=by
 cases base with
 | none=>
   simp only[Adq] at b;cases b;simp[Builtin.append_,Ab9 g,Ab9 f,run_sizeOf hs,hlen,d,e]
 | some a=>
   simp only at b;simp[Builtin.append_,Ab9 g,Ab9 f,run_sizeOf hs,hlen,d,e,b]
theorem run_append_grow (r:P.underlying t=some (.slice E)) (o:P.underlying t'=some (.slice E')) (hs:HV P E=some s) (a:bytesOf P E=some by_) (hlen:(Builtin.lenOf x).run P w = .ok n w)
  (g:¬ l+n<=c) (b:KF (l+n) by_) (j:0<by_) (z:Value) (u:FV P E=some z)
  (hold:(Builtin.firstCells s l (.slice base l c)).run P w.drew = .ok IY w.drew) (h:(Builtin.firstCells s n x).run P w.drew = .ok new w.drew):
  ∃ cap rest,l+n<=cap/\rest=Builtin.zeroCells z.cells (cap-(l+n)) /\
   (Builtin.append_ #[t,t'] ty #[.slice base l c,x]).run P w = .ok (.slice (some ⟨w.heap.size,0,none⟩) (l+n) cap) (w.drew.alloc (.cells (IY++new++rest) E)):=by
 obtain ⟨q,v⟩:=KL u w.drew;have f:l+n<=grownCap w (l+n) c E:=by unfold grownCap; simp only[Question.cut]; omega
 refine ⟨_,_,f,rfl, ?_⟩;unfold bytesOf at a;simp only[Option.map_eq_some_iff] at a;obtain ⟨i,hi,k⟩:=a;have m:=td (IY:=c) (by omega) b;rw[<- k] at m j;have e:i.bytes≠0:=by omega
 have d:¬ (281474976710656<Builtin.nextslicecap (l+n) c*i.bytes):=by omega
 have p:∀ w,(typeInfo E).run P w = .ok i w:=fun w=>by simp[typeInfo,hi]
 simp[Builtin.append_,Ab9 r,Ab9 o,run_sizeOf hs,hlen,g,p,e,d,Question.forced,hold,h,q,newRow,grownCap]
end
theorem IP {Z:Mu} {J:Aa} {w:World} (q:R P Z J w) {x:Option Addr} {l c m:Nat} {v':Value} (t:RV Z (.slice x l c) v') {s:Nat} {new:List Value} (hm:m<=l) (h:Da J s x m=some new):
  ∃ d,J5 Z new d/\(Builtin.firstCells s m v').run P w = .ok d.toArray w/\(Builtin.lenOf v').run P w = .ok l w/\(∀ v ∈ new,v.oneCell'=true)/\(x≠none->new.length=m*s):=by
 unfold Da at h;cases t with
 | sliceNil=>
   have b:m=0:=by omega
   subst b;simp at h;subst h;exact ⟨[],.nil,rfl,rfl,by simp,by simp⟩
 | @sliceZ a z y B=>
   have b:m=0:=by omega
   subst b;simp only[Ad6] at h;obtain ⟨hlen,e⟩:=MJ h;have:new=[]:=Ahd hlen;subst this;refine ⟨[],.nil, ?_,rfl,by simp,by simp⟩;simp only[Builtin.firstCells,Ad6]; rfl
 | @slice a k _ _ p o j A u i=>
   simp only at h;obtain ⟨hlen,e⟩:=MJ h;obtain ⟨n,r,g,f⟩:=KU q o hlen e;refine ⟨n,r, ?_,rfl,f,fun _=>hlen⟩;simp only[Builtin.firstCells];exact g
 | @sliceEnd a k o' p o j i=>
   have b:m=0:=by omega
   subst b;simp only[Ad6] at h;obtain ⟨hlen,e⟩:=MJ h;have:new=[]:=Ahd hlen;subst this;refine ⟨[],.nil, ?_,rfl,by simp,by simp⟩;simp only[Builtin.firstCells,Ad6]; rfl
theorem Sj (cs:List Value) (o:Nat) (h:o<=cs.length):Bb cs o []=cs:=by simp[Bb]
theorem U7 {J:Aa} {b:Nat} {o:Au} (h:J[b]?=some o):J.set b o=J:=by
 apply Ad8;intro i;rw[Aed];split
 ·rename_i he; subst he;obtain ⟨h1,a⟩:=Ab6.1 h;simp[h1,a]
 ·rfl
theorem mM {J:Aa} {b:Nat} (h:H6 J b=true):AK J b:=by
 unfold H6 at h;unfold AK;split at h
 ·rename_i hb; subst h; rw[hb]; trivial
 ·rename_i hb; rw[hb]; trivial
 ·cases h
theorem Tu {J:Aa} {b:Nat} (h:AK J b):alive J b:=by
 unfold AK at h;split at h
 ·rename_i hb; exact ⟨_,hb,by simp⟩
 ·rename_i hb; exact ⟨_,hb,by simp⟩
 ·rename_i hb; exact ⟨_,hb,by simp⟩
 ·cases h
theorem R.vE {Z:Mu} {J:Aa} {w:World} (F:R P Z J w) (hf:Z J.length=none) {b:Nat} {k:YR} (H:Z b=some k) {E:TypeId} {cs:List Value} (hb:J[b]?=some (.cells cs E true)) {off l n c' s:Nat} (hs:k.s=s)
  {IY new d:List Value} (hold:Nm J b off (l*s)=some IY\/(IY=[]/\l=0)) (D:J5 Z new d) (hl:∀ v ∈ new,v.oneCell'=true) (T:new.length=n*s) (aa:l+n<=c') (hm:off+c'*s<=k.m):
  ∃ w' Z',(storeCells ⟨k.b,k.o+off+l*s,none⟩ d).run P w = .ok () w'/\R P Z' (J.set b .dead++[.cells (IY++new) E true]) w'/\Step Z J w Z' (J.set b .dead++[.cells (IY++new) E true]) w' /\
   Z' J.length=some ⟨k.b,k.o+off,s,(l+n)*s,c'*s⟩:=by
 obtain ⟨c,T',fz,hx,h1,h2,h3,h4,h5,h6,h7⟩:=F.obj _ _ _ hb H;have af:=h5 rfl;subst af;have an:=D.length;have hmul:(l+n)*s<=c'*s:=Aer _ aa;have X:(l+n)*s=l*s+n*s:=Af6 _ _ _;have ac:=run_storeCells_at P k.b (k.o+off+l*s) T' d 0 c w hx (by omega) (D.leaf hl);have G:b<J.length:=(Ab6.1 hb).1;have O:alive J b:=⟨_,hb,by simp⟩;have C:AK J b:=by unfold AK; rw[hb]; trivial
 have e:(c.toList.take (k.o+off+l*s+0)++d++c.toList.drop (k.o+off+l*s+0+d.length)).toArray.toList=Bb c.toList (k.o+off+l*s) d:=by simp[Bb]
 have hlen:(Bb c.toList (k.o+off+l*s) d).length=c.size:=by rw[Il (by simp; omega)]; simp
 have hc:(w.setRow k.b (c.toList.take (k.o+off+l*s+0)++d++c.toList.drop (k.o+off+l*s+0+d.length)).toArray).heap[k.b]?=some (.cells _ T' (0,0)):=setRow_heap w k.b c _ T' _ hx;have B:∀ N,N≠k.b->(w.setRow k.b (c.toList.take (k.o+off+l*s+0)++d++c.toList.drop (k.o+off+l*s+0+d.length)).toArray).heap[N]?=w.heap[N]?:=fun N Y=>setRow_other w k.b N _ Y;generalize K:w.setRow k.b (c.toList.take (k.o+off+l*s+0)++d++c.toList.drop (k.o+off+l*s+0+d.length)).toArray=w' at *;have ad:w'.heap.size=w.heap.size:=by rw[<- K]; exact size_setRow _ _ _
 have ht:w'.tape=w.tape:=by rw[<- K]; rfl
 have ai:w'.os=w.os:=by rw[<- K]; rfl
 have ab:w'.output=w.output:=by rw[<- K]; rfl
 have hle:Z.le (Z.put J.length ⟨k.b,k.o+off,s,(l+n)*s,c'*s⟩):=Mu.uY hf;have aj:(J.set b .dead).length=J.length:=by simp
 refine ⟨w',Z.put J.length ⟨k.b,k.o+off,s,(l+n)*s,c'*s⟩,ac,⟨?_, ?_, ?_⟩, ?_,Mu.FP _ _ _⟩
 ·intro x o L a m;by_cases f:x=J.length
  ·subst f;rw[Mu.FP] at m; cases m;rw[Acf (by omega),aj,Afl] at a;simp only[Aca,Aeq] at a;subst a;rw[hc];have I:IY.length=l*s:=by
    rcases hold with h | ⟨rfl,rfl⟩
    ·exact (MJ h).1
    ·simp
   refine ⟨_,T',(0,0),rfl,by rw[Aaw,I,T,X],hmul, ?_,by rw[<- hs]; exact h4,fun _=>rfl, ?_, ?_⟩
   ·rw[<- Aen,e,hlen]; simp only; omega
   ·intro v W;rcases Aas.1 W with W | W
    ·rcases hold with h | ⟨rfl,rfl⟩
     ·obtain ⟨j,hj,ag⟩:=Ahk W;have:=(MJ h).2 j v (by rw[Aau hj,ag]);obtain ⟨_,_,_,g⟩:=cell_of F this H;exact g
     ·simp at W
    ·exact hl v W
   ·rw[e];refine J5.oo ?_ ?_
    ·rw[Aaw,I,T,Adn,Adp,hlen]; simp only; omega
    ·intro i x x' z q;simp only at q;have hi:i<(l+n)*s:=by
      have:=(Ab6.1 z).1;rw[Aaw,I,T] at this; omega
     rw[Ad2,Aay hi,Ad0,Ox (by simp; omega)] at q;by_cases am:i<l*s
     ·rw[AT (by omega)] at z;rw[Aay (by omega)] at q;rcases hold with h | ⟨rfl,rfl⟩
      ·obtain ⟨y,hy,hr,_⟩:=cell_of F ((MJ h).2 i x z) H;simp only[World.cell?,hx] at hy;have t:c.toList[k.o+(off+i)]?=some y:=by simpa using hy
       rw[show k.o+off+i=k.o+(off+i) by omega,t] at q;cases q;exact hr.mono hle
      ·simp at z
     ·rw[Acf (by omega),I] at z;rw[Aaz (by omega),Aay (by omega),show k.o+off+i-(k.o+off+l*s)=i-l*s by omega] at q;obtain ⟨y,hy,hr⟩:=D.get _ x z;rw[hy] at q; cases q;exact hr.mono hle
  ·rw[Mu.Gd Z _ f] at m;have ae:x<J.length:=by
    have:=(Ab6.1 a).1;simp at this; omega
   rw[AT (by omega)] at a;by_cases p:x=b
   ·subst p;rw[Aa2 G] at a;cases a; trivial
   ·rw[Aar (Adk p)] at a;by_cases hd:o = .dead
    ·subst hd; trivial
    ·have ah:L.b≠k.b:=fun he=>p (F.inj x b L k m H ⟨o,a,hd⟩ O (.inr C) he);rw[B _ ah];exact (F.obj x o L a m).mono hle
 ·intro x L m;by_cases f:x=J.length
  ·subst f; rw[Mu.FP] at m; cases m; rw[ad]; exact F.lt b k H
  ·rw[Mu.Gd Z _ f] at m; rw[ad]; exact F.lt x L m
 ·have r:∀ x,x≠J.length->alive (J.set b .dead++[.cells (IY++new) E true]) x->alive J x/\x≠b:=by
   intro x f ⟨o,V,hd⟩;have ae:x<J.length:=by
    have:=(Ab6.1 V).1;simp at this; omega
   rw[AT (by omega)] at V;by_cases p:x=b
   ·subst p; rw[Aa2 G] at V; cases V; exact absurd rfl hd
   ·rw[Aar (Adk p)] at V; exact ⟨⟨o,V,hd⟩,p⟩
  have M:∀ x,x≠J.length->x≠b->AK (J.set b .dead++[.cells (IY++new) E true]) x->AK J x:=by
   intro x f p u;have u:=Nu (by simpa using f) u;unfold AK at u ⊢
   rwa [Aar (Adk p)] at u
  intro x y L ky a t Q S ak U;by_cases f:x=J.length <;> by_cases A:y=J.length
  ·omega
  ·subst f; rw[Mu.FP] at a; cases a;rw[Mu.Gd Z _ A] at t;obtain ⟨g1,g2⟩:=r y A S;exact absurd (F.inj y b ky k t H g1 O (.inr C) U.symm) g2
  ·subst A; rw[Mu.FP] at t; cases t;rw[Mu.Gd Z _ f] at a;obtain ⟨g1,g2⟩:=r x f Q;exact absurd (F.inj x b L k a H g1 O (.inr C) U) g2
  ·rw[Mu.Gd Z _ f] at a;rw[Mu.Gd Z _ A] at t;exact F.inj x y L ky a t (r x f Q).1 (r y A S).1 (ak.imp (M x f (r x f Q).2) (M y A (r y A S).2)) U
 ·refine ⟨by simp, ?_, ?_, ?_,by omega,ht,ai,ab, ?_⟩
  ·intro x a; exact Mu.Gd Z _ (by simp at a; omega)
  ·intro x a u;by_cases p:x=b
   ·subst p; exact C
   ·unfold AK at u ⊢
    rwa [AT (by omega),Aar (Adk p)] at u
  ·intro x L z q m;have:x=J.length:=by simp at q; omega
   subst this;rw[Mu.FP] at m; cases m;exact .inr ⟨b,k,G,H,rfl,C⟩
  ·intro N Y hn;exact B N fun he=>hn b k G H he.symm C
end
section
variable {ρ:Type} {P:Program} [AJ]
theorem jy (z:Array Value) (n:Nat) (a:0<z.size):(Builtin.zeroCells z n).toList=rep n z.toList:=Q3 z n a
theorem kD {Z:Mu} {a:Option Addr} {l c:Nat} {d:Value} (b:HU a=true) (h:RV Z (.slice a l c) d):l=0/\c=0 /\ ∃ y,d = .slice y 0 0:=by
 cases h with
 | sliceNil=>exact ⟨rfl,rfl,_,rfl⟩
 | sliceZ y f=>exact ⟨rfl,rfl,_,rfl⟩
 | slice e hs _ _ _=>simp[HU,hs] at b
 | sliceEnd e hs _=>simp[HU,hs] at b
theorem kV {a:Option Addr} (h:HU a=false):∃ b,a=some b/\b.spot=none:=by
 cases a with
 | none=>cases h
 | some a=>cases hs:a.spot with
   | none=>exact ⟨a,rfl,hs⟩
   | some z=>simp[HU,hs] at h
theorem nf {E:TypeId} {t t' E' ty:TypeId} {a U:Option Addr} {l c g c':Nat} {J:Aa} {K:Value->Aa->Option ρ} {r:ρ} (ht:P.underlying t=some (.slice E)) (A:P.underlying t'=some (.slice E'))
  (h:LH P E (a,l,c) (U,g,c') J K=some r):∃ v J',K v J'=some r/\J.length<=J'.length /\
   ∀ (Z:Mu) (w:World) (d x:Value),R P Z J w->H8 Z J.length J'.length->RV Z (.slice a l c) d->RV Z (.slice U g c') x ->
    ∃ H v' w',(Builtin.append_ #[t,t'] ty #[d,x]).run P w = .ok v' w'/\RV H v v'/\R P H J' w'/\Step Z J w H J' w':=by
 unfold LH at h;simp only[Aai] at h;obtain ⟨s,hs,by_,aq,new,b,z,S,h⟩:=h;split at h
 ·cases h
 rename_i am;have am:Gq z=false/\HV P E=some z.cells.size/\0<z.cells.size:=Af0.1 am;obtain ⟨ba,ax,a9⟩:=am;rw[hs] at ax;cases ax;split at h
 ·rename_i C;cases j:HU a with
  | true=>
    rw[j] at h;simp only[IS] at h;split at h
    ·rename_i a8;refine ⟨_,J,h,Aa1 _,fun Z w d x n M hd hx=>?_⟩;obtain ⟨o,h1,W,X,h4,h5⟩:=IP n hx (Aa1 _) b;have O:g=0:=by omega
     have ac:l=0:=by omega
     subst O; subst ac;have au:o=[]:=by
      cases U with
      | none=>simp[Da] at b; subst b; cases h1; rfl
      | some U=>
        have:=h5 (by simp);simp at this; subst this; cases h1; rfl
     subst au;obtain ⟨_,rfl,y,rfl⟩:=kD j hd;refine ⟨Z,.slice y (0+0) 0,w,KJ ht A hs X (by omega) W ?_,hd,n,Step.refl _ _ _⟩;cases y <;> simp[storeCells]
    ·cases h
  | false=>
    rw[j] at h;obtain ⟨I,rfl,F⟩:=kV j;simp only[By,Aai,Aeq,exists_eq_left'] at h;obtain ⟨J',a5,h⟩:=h;obtain ⟨cs,T,hb,hlen,rfl⟩:=Rn a5;refine ⟨_,_,h,by simp,fun Z w d x n M hd hx=>?_⟩;obtain ⟨o,h1,W,X,h4,h5⟩:=IP n hx (Aa1 _) b;cases hd with
    | @slice _ k _ _ V D Q hl hc hm=>
      obtain ⟨w',f,L,hS⟩:=LM n D hb h1 h4 hlen;refine ⟨Z,_,w',KJ ht A hs X (Adt C hc) W ?_,.slice D Q C hc hm,L,hS⟩;simp only[Lr,<- Ad3] at f ⊢;exact f
    | @sliceEnd _ k o' V D Q hm=>
      have O:g=0:=by omega
      subst O;have ad:new=[]/\o=[]:=by
       cases U with
       | none=>simp[Da] at b; subst b; cases h1; exact ⟨rfl,rfl⟩
       | some U=>
         have:=h5 (by simp);simp at this; subst this; cases h1; exact ⟨rfl,rfl⟩
      obtain ⟨rfl,rfl⟩:=ad;rw[Sj _ _ (by simpa using hlen),U7 hb];refine ⟨Z,_,w,KJ ht A hs X (by omega) W ?_,.sliceEnd D Q hm,n,Step.refl _ _ _⟩;simp[storeCells]
    | sliceZ y S=>rw[F] at S; cases S
 ·rename_i C;split at h;rotate_left
  ·cases h
  rename_i m;obtain ⟨m,ap⟩:=m;cases j:HU a with
  | true=>
    rw[j] at h;simp only[IS] at h;split at h
    ·rename_i ac;refine ⟨_,_,h,by simp,fun Z w d x n M hd hx=>?_⟩;subst ac;obtain ⟨o,h1,W,X,h4,h5⟩:=IP (w:=w.drew) n.drew hx (Aa1 _) b;have ay:(Builtin.lenOf x).run P w = .ok g w:=by
      cases hx <;> rfl
     have N:new.length=g*z.cells.size:=by
      cases U with
      | none=>
        unfold Da at b;simp only at b;split at b
        ·cases b; simp[*]
        ·cases b
      | some U=>exact h5 (by simp)
     obtain ⟨_,rfl,y,rfl⟩:=kD j hd;have hold:(Builtin.firstCells z.cells.size 0 (.slice y 0 0)).run P w.drew = .ok #[] w.drew:=by
      cases y with
      | none=>rfl
      | some a=>simp only[Builtin.firstCells,Ad6]; rfl
     obtain ⟨cap,rest,ar,q,f⟩:=run_append_grow (ty:=ty) ht A hs aq ay C m ap z S hold W;have aw:rest.toList.length=(cap-g)*z.cells.size:=by rw[q]; simp[Builtin.zeroCells]
     have av:=h1.length;have aa:g*z.cells.size+(cap-g)*z.cells.size=cap*z.cells.size:=by
      rw[<- Af6]; congr 1; omega
     refine ⟨Z.put J.length ⟨w.heap.size,0,z.cells.size,g*z.cells.size,cap*z.cells.size⟩,_,_,f, ?_, ?_,(Step.drew Z J w).trans (Step.alloc rfl)⟩
     ·rw[IN];refine RV.slice (a:=⟨J.length,0,none⟩) (Mu.FP _ _ _) rfl (Aa1 _) (by omega) (by simp)
     ·refine n.drew.alloc (M _ (Aa1 _) (by simp)) rfl ?_;refine ⟨_,E,(0,0),rfl,N,by simp only; rw[<- aa]; omega, ?_,(K7 hs).symm,fun _=>rfl,h4, ?_⟩
      ·simp only[Array.size_append,Array.size_empty,List.size_toArray,IN];have:rest.size=(cap-g)*z.cells.size:=by simpa using aw
       omega
      ·simp only[Array.toList_append,Adf,Array.toList_empty,Ae5];rw[Ahe (by omega),Ady (by omega)];exact h1
    ·cases h
  | false=>
    rw[j] at h;obtain ⟨I,rfl,F⟩:=kV j;simp only[By,Aai,Aeq,exists_eq_left'] at h;split at h;rotate_left
    ·cases h
    rename_i G;simp only[Aai] at h;obtain ⟨IY,hold,h⟩:=h;cases B:H6 J I.block with
    | false=>rw[B] at h; cases h
    | true=>
      rw[B] at h;simp only[IS] at h;refine ⟨_,_,h,by simp,fun Z w d x n M hd hx=>?_⟩;have hb:∃ cs,J[I.block]?=some (.cells cs E true):=by
       unfold elemAt at G;unfold H6 at B;split at G
       ·rename_i hq; cases G; rw[hq] at B; simp only at B; subst B; exact ⟨_,hq⟩
       ·cases G
      obtain ⟨cs,hb⟩:=hb;have a2:I.block<J.length:=(Ab6.1 hb).1;obtain ⟨o,h1,W,X,h4,h5⟩:=IP n hx (Aa1 _) b;obtain ⟨a6,g1,g2,g3,g4,g5⟩:=IP (w:=w.drew) n.drew hx (Aa1 _) b;have N:new.length=g*z.cells.size:=by
       cases U with
       | none=>
         unfold Da at b;simp only at b;split at b
         ·cases b; simp[*]
         ·cases b
       | some U=>exact h5 (by simp)
      have i:Z J.length=none:=M _ (Aa1 _) (by simp);have an:(l+g)*z.cells.size=l*z.cells.size+g*z.cells.size:=Af6 _ _ _;have grow:∀ (d:Value) (y:Option Addr) (V:Nat),d = .slice y l V->¬ l+g<=V -> ∀ (p:List Value),J5 Z IY p->(Builtin.firstCells z.cells.size l d).run P w.drew = .ok p.toArray w.drew->(∀ v ∈ IY,v.oneCell'=true) ->
        ∃ H v' w',(Builtin.append_ #[t,t'] ty #[d,x]).run P w = .ok v' w'/\RV H (.slice (some ⟨J.length,0,none⟩) (l+g) (l+g)) v' /\
         R P H (J.set I.block .dead++[Au.cells (IY++new) E true]) w'/\Step Z J w H (J.set I.block .dead++[Au.cells (IY++new) E true]) w':=by
       intro d y V a3 a4 p Y ae af;subst a3;obtain ⟨cap,rest,ar,q,f⟩:=run_append_grow (ty:=ty) ht A hs aq X a4 m ap z S ae g2;have aw:rest.size=(cap-(l+g))*z.cells.size:=by rw[q]; simp[Builtin.zeroCells]
       have ag:=(MJ hold).1;have a7:=Y.length;have av:=g1.length;have aa:(l+g)*z.cells.size+(cap-(l+g))*z.cells.size=cap*z.cells.size:=by
        rw[<- Af6]; congr 1; omega
       obtain ⟨k,D⟩:∃ k,Z I.block=some k:=by
        cases hd with
        | sliceZ y S=>rw[F] at S; cases S
        | slice ab _ _ _ _=>exact ⟨_,ab⟩
        | sliceEnd ab _ _=>exact ⟨_,ab⟩
       have ak:AK J I.block:=mM B;have az:R P Z (J.set I.block .dead) w.drew:=n.drew.yo D (Tu ak) ak rfl (fun _ _=>rfl) trivial;have a1:Step Z J w Z (J.set I.block .dead) w.drew:=Step.yo D a2 ak rfl rfl rfl rfl (fun _ _=>rfl);have aj:(J.set I.block .dead).length=J.length:=by simp
       refine ⟨Z.put J.length ⟨w.heap.size,0,z.cells.size,(l+g)*z.cells.size,cap*z.cells.size⟩,_,_,f, ?_, ?_,a1.trans ?_⟩
       ·exact RV.slice (a:=⟨J.length,0,none⟩) (Mu.FP _ _ _) rfl (Aa1 _) (by omega) (by simp)
       ·rw[<- aj];refine az.alloc (by rw[aj]; exact i) rfl ?_;refine ⟨_,E,(0,0),rfl,by rw[Aaw,ag,N,an],by simp only; omega, ?_,(K7 hs).symm,fun _=>rfl, ?_, ?_⟩
        ·simp only[Array.size_append,List.size_toArray];omega
        ·intro v hv;rcases Aas.1 hv with hv | hv
         ·exact af v hv
         ·exact h4 v hv
        ·simp only[Array.toList_append,Adf];rw[Ahe (by rw[Aaw]; omega),Ady (by rw[Aaw]; omega)];exact Y.append g1
       ·rw[<- aj]; exact Step.alloc rfl
      cases hd with
      | @slice _ k _ _ V D Q hl hc hm=>
        have u:=RQ n G D;rw[K7 hs] at u;obtain ⟨ag,ah⟩:=MJ hold;obtain ⟨p,Y,ae,af⟩:=KU n.drew D ag ah;by_cases e:l+g<=V
        ·obtain ⟨w',H,f,L,hS,hμ⟩:=n.vE i D hb u (.inl hold) h1 h4 N e (by rw[u] at hm; exact hm);refine ⟨H,_,w',KJ ht A hs X e W ?_, ?_,L,hS⟩
         ·simp only[Lr]; exact f
         ·exact RV.slice (a:=⟨J.length,0,none⟩) hμ rfl (Aa1 _) e (by simp)
        ·exact grow _ _ _ rfl e p Y (by simpa [Builtin.firstCells] using ae) af
      | @sliceEnd _ k o' V D Q hm=>
        have u:=RQ n G D;rw[K7 hs] at u;have ai:IY=[]:=by
         have:=(MJ hold).1;simpa using this
        subst ai;by_cases e:0+g<=V
        ·obtain ⟨w',H,f,L,hS,hμ⟩:=n.vE (off:=o') (l:=0) (IY:=[]) i D hb u (.inr ⟨rfl,rfl⟩) h1 h4 N e (by rw[u] at hm; exact hm);refine ⟨H,_,w',KJ ht A hs X e W ?_, ?_,L,hS⟩
         ·simp only[Lr]; exact f
         ·exact RV.slice (a:=⟨J.length,0,none⟩) hμ rfl (Aa1 _) e (by simp)
        ·exact grow _ _ _ rfl e [] .nil (by simp only[Builtin.firstCells,Ad6]; rfl) (by simp)
      | sliceZ y S=>rw[F] at S; cases S
theorem ng {E:TypeId} {t t' E' ty:TypeId} {a i:Option Addr} {l c j c':Nat} {J:Aa} {r:Bx × Aa} (m:P.underlying t=some (.slice E)) (g:P.underlying t'=some (.slice E'))
  (h:AH P E (a,l,c) (i,j,c') J=some r):J.length<=r.2.length /\
   ∀ (Z:Mu) (w:World) (d x:Value),R P Z J w->H8 Z J.length r.2.length->RV Z (.slice a l c) d->RV Z (.slice i j c') x ->
    ∃ f k w',(Builtin.append_ #[t,t'] ty #[d,x]).run P w = .ok k w'/\RV f (.slice r.1.1 r.1.2.1 r.1.2.2) k/\R P f r.2 w'/\Step Z J w f r.2 w':=by
 obtain ⟨v,J',e,hlen,b⟩:=nf (ty:=ty) m g h;unfold qJ at e;split at e
 ·cases e; exact ⟨hlen,b⟩
 ·cases e
end
section
variable {ρ:Type} {P:Program} [AJ]
theorem Up {J:Aa} {s:Nat} {x:Option Addr} {new:List Value} (h:Da J s x 0=some new):new=[]:=by
 unfold Da at h;split at h
 ·have:=(MJ h).1; simpa using this
 ·simpa [eq_comm] using h
theorem ow {c:Call} {call:GK} {q:Bool} {ty:TypeId} {e:Operand->Option Value} {J:Aa} {K:Value->Aa->Option ρ} {r:ρ} {o:Oper} (L:o.op = .call c) (hb:c.callee = .builtin .append)
  (h:Jv P call q (.call c) ty e J K=some r):∃ v J',K v J'=some r/\J.length<=J'.length/\re P o e J v J'/\(q=true->J <+: J'):=by
 simp only[Jv,hb] at h;obtain ⟨U,h1,z⟩:=MI h;clear h;simp only[OI] at h1;unfold py at h1;split at h1;rotate_left
 ·cases h1
 rename_i t t' a l S O T Q y;split at h1;rotate_left
 ·cases h1
 rename_i E' x;simp only[Aai] at h1;obtain ⟨E,G,i,k,b⟩:=h1;obtain ⟨hlen,d⟩:=ng (ty:=o.type) (JD G) x k;have j:K (.slice i.1.1 i.1.2.1 i.1.2.2) i.2=some r/\(q=true->J <+: i.2):=by
  cases q with
  | true=>
    simp only[NO,IS] at b;unfold FQ at b;cases p:AJ.q J i.2 with
    | true=>rw[p] at b; exact ⟨b,fun _=>AJ.ok p⟩
    | false=>rw[p] at b; cases b
  | false=>
    simp only[NO,By] at b;exact ⟨b,fun h=>by cases h⟩
 refine ⟨_,_,j.1,hlen,fun Z w f H n I=>?_,j.2⟩;obtain ⟨cs,hex⟩:=Dw (f:=f) L hb;have A:=z Z f I;generalize c.args.toList.map f=M at A hex;cases A with
 | cons s g=>
   cases g with
   | cons g u=>
     cases u;obtain ⟨B,N,w',m,C,D,F⟩:=d Z w _ _ H n s g;refine ⟨B,N,w',.inl ?_,C,D,F⟩;rw[hex,toList_eq y];simp only[builtin,Adm,m,Acb,Adq]
theorem zA {o:Oper} {c:Call} {b:Builtin} (a:o.op = .call c) (hb:c.callee = .builtin b) (h:isApp o=true):b = .append:=by
 unfold isApp at h;rw[a] at h;simp only[hb] at h;cases b <;> first | rfl | cases h
theorem cS {c:Call} {b:Builtin} {call:GK} {q:Bool} {ty:TypeId} {e:Operand->Option Value} {J:Aa} {K:Value->Aa->Option ρ} {r:ρ} {o:Oper} (ho:o.op = .call c) (hb:c.callee = .builtin b)
  (am:b ≠ .append) (hc:eu b (Ul P c.argTypes.toList) = .lo) (h:Jv P call q (.call c) ty e J K=some r):∃ v J',K v J'=some r/\J.length<=J'.length/\re P o e J v J':=by
 simp only[Jv,hb] at h;obtain ⟨vs,h1,L⟩:=MI h;clear h;cases b <;> simp only[eu] at hc <;> first
  | (cases hc; done)
  | (simp only[OI] at h1; first | (cases h1; done) | skip)
 case len=>cases hm:Ul P c.argTypes.toList <;> rw[hm] at hc <;> cases hc
 case append=>exact absurd rfl am
 case copy=>
  unfold yA at h1;split at h1;rotate_left
  ·cases h1
  rename_i t t' a l c2 a' l' c' D;simp only[Aai] at h1;obtain ⟨E,hE,s,hs,new,n,J1_,W,h1⟩:=h1;have M:=JD hE;have run:∀ (Z:Mu) (w w':World) (f:Operand->Value) (base:Option Addr) (cc:Nat) (x:Value) (G:List Value),c.args.toList.map f=[.slice base l cc,x]->(Builtin.lenOf x).run P w = .ok l' w ->
    (Builtin.firstCells s (Nat.min l' l) x).run P w = .ok G.toArray w->(match base with | some a=>storeCells a G | none=>pure ()).run P w = .ok () w' ->
    (execOp f o).run P w = .ok (.value (.int .i64 (Nat.min l' l:Nat))) w':=by
   intro Z w w' f base cc x G g hlen U A;obtain ⟨cs,hex⟩:=Dw (f:=f) ho hb;rw[hex,g,toList_eq D];cases base with
   | none=>
     simp only[Adq] at A; cases A;simp only[builtin,Adm,Builtin.copy_,Ag6,Aca,Ace,Ab9 M,Acb,hlen,run_sizeOf hs,U,Adq,goInt]
   | some a=>
     simp only at A;simp only[builtin,Adm,Builtin.copy_,Ag6,Aca,Ace,Ab9 M,Acb,hlen,run_sizeOf hs,U,Adq,goInt,A]
  cases a with
  | none=>
    simp only[stO,Aeq] at W;subst W;refine ⟨_,J,h1,Aa1 _,fun Z w f B O N=>?_⟩;have p:=L Z f N;generalize g:c.args.toList.map f=S at p;cases p with
    | cons i d=>
      cases d with
      | cons d Q=>
        cases Q;cases i with
        | sliceNil=>
          have F:Nat.min l' 0=0:=Nat.min_zero _;rw[F] at n;have hn:=Up n;subst hn;obtain ⟨G,g1,g2,g3,g4,g5⟩:=IP B d (Ado _) n;cases g1;refine ⟨Z,_,w,.inl (run Z w w f none 0 _ [] g g3 (by rw[F]; exact g2) rfl),.int _ _,B,Step.refl _ _ _⟩
  | some a0=>
    simp only[stO] at W;obtain ⟨cs,T,C,hlen,rfl⟩:=Rn W;refine ⟨_,_,h1,by simp,fun Z w f B O N=>?_⟩;have p:=L Z f N;generalize g:c.args.toList.map f=S at p;cases p with
    | cons i d=>
      cases d with
      | cons d Q=>
        cases Q;obtain ⟨G,g1,g2,g3,g4,g5⟩:=IP B d (Nat.min_le_left _ _) n;cases i with
        | @slice _ k _ _ cc hk ah hl ak hm=>
          obtain ⟨w',V,H,hS⟩:=LM B hk C g1 g4 hlen;exact ⟨Z,_,w',.inl (run Z w w' f _ cc _ G g g3 g2 V),.int _ _,H,hS⟩
        | @sliceEnd _ k o' cc hk ah hm=>
          have F:Nat.min l' 0=0:=Nat.min_zero _;have hn:new=[]:=by rw[F] at n; exact Up n
          subst hn;cases g1;rw[Sj _ _ (by simpa using hlen),U7 C];exact ⟨Z,_,w,.inl (run Z w w f _ cc _ [] g g3 g2 rfl),.int _ _,B,Step.refl _ _ _⟩
        | sliceZ y hz=>
          have F:Nat.min l' 0=0:=Nat.min_zero _;have hn:new=[]:=by rw[F] at n; exact Up n
          subst hn;cases g1;rw[Sj _ _ (by simpa using hlen),U7 C];exact ⟨Z,_,w,.inl (run Z w w f _ 0 _ [] g g3 g2 rfl),.int _ _,B,Step.refl _ _ _⟩
 case clear=>
  unfold uD at h1;split at h1;rotate_left
  ·cases h1
  rename_i t v D;split at h1
  ·rename_i kt E rr M;simp only[Aai] at h1;obtain ⟨es,m,h1⟩:=h1;rcases rr with _ | r'
   ·refine ⟨_,J,h1,Aa1 _,fun Z w f B O N=>?_⟩;obtain ⟨cs,hex⟩:=Dw (f:=f) ho hb;have p:=L Z f N;generalize c.args.toList.map f=S at p hex;cases p with
    | cons i d=>
      cases d;rw[Rh i] at hex;refine ⟨Z,_,w,.inl ?_,.tuple .nil,B,Step.refl _ _ _⟩;rw[hex,toList_eq D];simp[builtin,Builtin.clear_,Ab9 M]
   ·simp only[kO] at m;refine ⟨_,_,h1,by simp[oN],fun Z w f B O N=>?_⟩;obtain ⟨cs,hex⟩:=Dw (f:=f) ho hb;have p:=L Z f N;generalize c.args.toList.map f=S at p hex;cases p with
    | cons i d=>
      cases d;obtain ⟨kb,X,ae⟩:=YK i;obtain ⟨entries,clock,hh,ad⟩:=Y7 B m X;have C:J[r']?=some (.map es):=by
       unfold Un at m;split at m
       ·cases m; assumption
       ·cases m
      obtain ⟨H,hS⟩:=NS (entries2:=#[]) B X C clock .nil;rw[ae] at hex;refine ⟨Z,_,_,.inl ?_,.tuple .nil,H,hS⟩;rw[hex,toList_eq D];simp[builtin,Builtin.clear_,Ab9 M,KK hh,Pq hh]
  ·rename_i E a l c2 M;simp only[Aai] at h1;obtain ⟨z,hz,h1⟩:=h1;split at h1;rotate_left
   ·cases h1
   rename_i ai;simp only[Aai] at h1;obtain ⟨J',A,h1⟩:=h1;split at A
   ·rename_i Y;subst Y;cases A;refine ⟨_,J,h1,Aa1 _,fun Z w f B O N=>?_⟩;obtain ⟨cs,hex⟩:=Dw (f:=f) ho hb;have p:=L Z f N;generalize c.args.toList.map f=S at p hex;cases p with
    | cons i d=>
      cases d;refine ⟨Z,_,w,.inl ?_,.tuple .nil,B,Step.refl _ _ _⟩;rw[hex,toList_eq D];cases i with
      | sliceNil=>simp[builtin,Builtin.clear_,Ab9 M]
      | sliceZ=>simp[builtin,Builtin.clear_,Ab9 M]
      | slice=>simp[builtin,Builtin.clear_,Ab9 M]
      | sliceEnd=>simp[builtin,Builtin.clear_,Ab9 M]
   ·rename_i Y;simp only[Aai] at A;obtain ⟨a0,aj,A⟩:=A;subst aj;obtain ⟨cs,T,C,hlen,rfl⟩:=Rn A;refine ⟨_,_,h1,by simp,fun Z w f B O N=>?_⟩;obtain ⟨ar,hex⟩:=Dw (f:=f) ho hb;have p:=L Z f N;generalize c.args.toList.map f=S at p hex;cases p with
    | cons i d=>
      cases d;obtain ⟨ap,aq⟩:=KL hz w;obtain ⟨g1,g2,g3⟩:=Kb (RV.IX (Z:=Z) aq) ai.1;have ag:=jy z.cells l ai.2;cases i with
      | @slice _ k _ _ cc hk ah hl ak hm=>
        obtain ⟨w',V,H,hS⟩:=LM B hk C (g1.rep l) (by
         intro v hv; simp only[AX.rep,Adw,Af9] at hv; obtain ⟨l,⟨_,rfl⟩,an⟩:=hv; exact g2 v an) hlen;refine ⟨Z,_,w',.inl ?_,.tuple .nil,H,hS⟩;rw[hex,toList_eq D];have au:l≠0:=Y;rw[<- ag] at V;cases l with
        | zero=>exact absurd rfl Y
        | succ l=>simp[builtin,Builtin.clear_,Ab9 M,ap,V]
      | sliceEnd=>exact absurd rfl Y
      | sliceZ=>exact absurd rfl Y
  ·cases h1
 case delete=>
  unfold pF at h1;split at h1;rotate_left
  ·cases h1
  rename_i t t' rr k D;have aa:∀ {kt},sr P kt=true -> ∀ (b:Bool) (w:World),(Instr.checkKey b 10000 kt (.int .i64 k)).run P w = .ok () w:=fun h b w=>R6 (UK h) b 9999 w;split at h1
  ·rename_i rr _ _ kt E M;split at h1;rotate_left
   ·cases h1
   rename_i ac;simp only[Aai] at h1;obtain ⟨es,m,h1⟩:=h1;rcases rr with _ | r'
   ·refine ⟨_,J,h1,Aa1 _,fun Z w f B O N=>?_⟩;obtain ⟨cs,hex⟩:=Dw (f:=f) ho hb;have p:=L Z f N;generalize c.args.toList.map f=S at p hex;cases p with
    | cons i d=>
      cases d with
      | cons d Q=>
        cases Q;rw[Rh i,WD d] at hex;refine ⟨Z,_,w,.inl ?_,.tuple .nil,B,Step.refl _ _ _⟩;rw[hex,toList_eq D];simp[builtin,Builtin.delete_,Ab9 M,aa ac]
   ·simp only[kO] at m;refine ⟨_,_,h1,by simp[oN],fun Z w f B O N=>?_⟩;obtain ⟨cs,hex⟩:=Dw (f:=f) ho hb;have p:=L Z f N;generalize c.args.toList.map f=S at p hex;cases p with
    | cons i d=>
      cases d with
      | cons d Q=>
        cases Q;obtain ⟨kb,X,ae⟩:=YK i;obtain ⟨entries,clock,hh,ad⟩:=Y7 B m X;have C:J[r']?=some (.map es):=by
         unfold Un at m;split at m
         ·cases m; assumption
         ·cases m
        rw[ae,WD d] at hex;have af:=UK ac;have I:=findNow_spec (k:=k) es entries.toList 0 ad;cases hg:NX es k with
        | none=>
          rw[hg] at I;obtain ⟨ab,h2,h3⟩:=I;obtain ⟨H,hS⟩:=NS (es2:=ML k es) (entries2:=entries) B X C clock (by rw[h3]; exact ad);refine ⟨Z,_,_,.inl ?_,.tuple .nil,H,hS⟩;rw[hex,toList_eq D];simp[builtin,Builtin.delete_,Ab9 M,KK hh,aa ac,Instr.findKey,Ab9 af,ab,Pq hh]
        | some u=>
          rw[hg] at I;obtain ⟨j,e',ab,h2,h3,h4,h5,h6,h7⟩:=I;rw[IN] at ab;obtain ⟨H,hS⟩:=NS (es2:=ML k es) (entries2:=entries.eraseIdxIfInBounds j) B X C clock (by rw[h6,Array.toList_eraseIdxIfInBounds]; exact ad.erase j);refine ⟨Z,_,_,.inl ?_,.tuple .nil,H,hS⟩;rw[hex,toList_eq D];simp[builtin,Builtin.delete_,Ab9 M,KK hh,aa ac,Instr.findKey,Ab9 af,ab,Pq hh]
  ·cases h1
end
end
end Go.AX
