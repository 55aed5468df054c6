/- Part 6. -/
import Derived.ProofKit
import Derived.Carry
import Derived.Test.YtjbledomkmdkmaaGreatP5
import Derived.Test.YtjbledomkmdkmaaGreatP4
set_option linter.unusedVariables false
set_option linter.unusedSimpArgs false
set_option linter.unusedSectionVars false
namespace Go.AX
open Go Go.RowKit Go.ChangeShapes Go.WideShapes Go.ChangeAt
noncomputable section
abbrev qOi:=Option Addr
abbrev qSi:=qOi × Nat × Nat
abbrev qIi (n:Int):Value:=.int .i64 n
abbrev qVi (p:qOi):Value:=.pointer p
abbrev gLd {t r:Type} (L:Aa->Nat->Nat->Option t) (x:qOi) (o:Nat) (s:Aa) (f:t->Option r):Option r:=x.bind fun a=>(L s a.block (a.off+o)).bind f
section
variable {P:Program}
theorem et {Z a:Mu} {J J':Aa} {w w':World} (h:Step Z J w a J' w') (d:∀ b,b<J.length->¬ AK J b):Below w.heap.size w w':=
 ⟨h.os,h.tape,h.output,h.size,fun k c=>h.frame k c fun b _ hb _ _=>d b hb⟩
theorem VP {H:Type} {enc:TypeId × Value->H} (l:laidOutB P=true) {W k:World} (hb:Below W.heap.size W k):∀ {g:List TypeId} {i:List Value} {e:List (DataW H)} {c:List MemPlace},
  (g.all fun t=>P.readableRec t && decide (t<P.types.size))=true->DataW.TrodAll enc P W 0 (fun _=>true) true g i e c->(∀ x ∈ c,x.block<W.heap.size) ->
  DataW.TrodAll enc P k 0 (fun b=>decide (b<W.heap.size)) true g i e c
 | [],i,e,c,_,h,_=>by
   obtain ⟨rfl,rfl,rfl⟩:=trodAll_nil h;rfl
 | t::g,i,e,c,f,h,a=>by
   simp only[Ah2,Ads,Ad4] at f;obtain ⟨v,o,d,m,p,q,rfl,rfl,rfl,h1,n⟩:=trodAll_cons h;exact ⟨p,q,Below.trod l f.1.1 f.1.2 h1 hb (fun x j=>a x (by simp[j])),VP l hb f.2 n (fun x j=>a x (by simp[j])),rfl⟩
theorem sO {H:Type} {enc:TypeId × Value->H} {f:Func} {s:ChangeSpec} {apart:Bool} {W j:World} {args:Array Value} {v:Value} {d gs:List (DataW H)} {before:List MemPlace}
  (k:DataW.Whole enc P f.params.toList s.vars apart W args.toList d gs before) (w:laidOutB P=true) (hp:(f.params.toList.all fun t=>P.readableRec t && decide (t<P.types.size))=true)
  (o:s.vars=[]) (i:∀ (b:Nat) (sp:Nat->Bool) (hd:Bool),DataW.TrodAll enc P j b sp hd f.resultTypes.toList (v.resultList f.resultTypes.size) (s.fn H (d++gs)).results [])
  (a:(s.fn H (d++gs)).args=d) (c:(s.fn H (d++gs)).vars=[]) (hb:Below W.heap.size W j):
  s.post enc P f apart true false false W args v j:=by
 have g:=k.lt;have l:=k;obtain ⟨p,q,r,u,m,n⟩:=k;have e:=u;rw[o] at e;obtain ⟨rfl,rfl⟩:=trodVars_none e;refine ⟨d,[],before,[],before,[],l,i _ _ _, ?_, ?_,hb.frame _,fun h=>by cases h⟩
 ·rw[a];subst m;rw[Ab1] at g ⊢;exact VP w hb hp r g
 ·rw[c,o];rfl
end
end
end Go.AX
namespace Go.AX
open Go
noncomputable section
section
def okW (w:Nat):Prop:=w=1\/w=2\/w=4\/w=8
def CJ (w:Nat) (ws:List (BitVec 64)) (i:Nat):Nat:=((ws.getD (i*w/64) 0) >>> (i*w % 64)).toNat % 2 ^ w
def yr (w:Nat) (x:BitVec 64) (s v:Nat):BitVec 64:=(x &&& ~~~ (BitVec.ofNat 64 (2 ^ w-1) <<< s)) ||| (BitVec.ofNat 64 v <<< s)
def FB (w:Nat) (ws:List (BitVec 64)) (i v:Nat):List (BitVec 64):=ws.set (i*w/64) (yr w (ws.getD (i*w/64) 0) (i*w % 64) v)
theorem Ek (w ws i v):(FB w ws i v).length=ws.length:=by simp[FB]
theorem iN {w i:Nat} (h:okW w):i*w % 64+w<=64:=by rcases h with rfl | rfl | rfl | rfl <;> omega
theorem sE {w i j:Nat} (h:okW w) (a:i≠j) (hs:i*w/64=j*w/64):i*w % 64+w<=j*w % 64\/j*w % 64+w<=i*w % 64:=by
 rcases h with rfl | rfl | rfl | rfl <;> omega
theorem dS (w:Nat) (x:BitVec 64) (s t:Nat):((x >>> s).toNat % 2 ^ w).testBit t=(decide (t<w) && x.getLsbD (s+t)):=by
 rw[Nat.testBit_mod_two_pow];congr 1;rw[<- BitVec.getLsbD];simp[BitVec.getLsbD_ushiftRight]
theorem mL (w:Nat) (x:BitVec 64) (s v p:Nat) (hp:p<64):(yr w x s v).getLsbD p=((x.getLsbD p && !(decide (s<=p) && decide (p-s<w))) || (decide (s<=p) && v.testBit (p-s))):=by
 unfold yr;simp only[BitVec.getLsbD_or,BitVec.getLsbD_and,BitVec.getLsbD_not,BitVec.getLsbD_shiftLeft,BitVec.getLsbD_ofNat,Nat.testBit_two_pow_sub_one,hp,Ahf,Af7];have a:p-s<64:=by omega
 by_cases h:s<=p
 ·have h1:¬ p<s:=by omega
  simp[h,h1,a]
 ·have h1:p<s:=by omega
  simp[h,h1]
theorem EU {w:Nat} {ws:List (BitVec 64)} {i v:Nat} (h:okW w) (b:v<2 ^ w) (hi:i*w/64<ws.length):CJ w (FB w ws i v) i=v:=by
 have c:=iN (i:=i) h;apply Nat.eq_of_testBit_eq;intro t;unfold CJ FB;rw[dS,Aax,Aa2 (by simpa using hi),Afs];by_cases a:t<w
 ·rw[mL _ _ _ _ _ (by omega)];have e:i*w % 64+t-i*w % 64=t:=by omega
  simp[a,e]
 ·have:v.testBit t=false:=Nat.testBit_lt_two_pow (Acp b (Nat.pow_le_pow_right (by decide) (by omega)));simp[a,this]
theorem Cf {w:Nat} {ws:List (BitVec 64)} {i j v:Nat} (h:okW w) (g:v<2 ^ w) (b:i≠j):CJ w (FB w ws i v) j=CJ w ws j:=by
 have k:=iN (i:=i) h;have d:=iN (i:=j) h;unfold CJ FB;by_cases hs:i*w/64=j*w/64
 ·by_cases e:j*w/64<ws.length
  ·apply Nat.eq_of_testBit_eq;intro t;rw[dS,dS,hs,Aax,Aa2 (by simpa using e),Afs];by_cases f:t<w
   ·rw[mL _ _ _ _ _ (by omega)];rcases sE h b hs with h1 | h1
    ·have a:¬ (j*w % 64+t-i*w % 64<w):=by omega
     have c:v.testBit (j*w % 64+t-i*w % 64)=false:=Nat.testBit_lt_two_pow (Acp g (Nat.pow_le_pow_right (by decide) (by omega)));simp[a,c]
    ·have a:¬ (i*w % 64<=j*w % 64+t):=by omega
     simp[a]
   ·simp[f]
  ·rw[List.set_eq_of_length_le (by rw[hs]; omega)]
 ·rw[Aax,Aar hs,<- Aax]
theorem yk (w ws i):CJ w ws i<2 ^ w:=Aev _ (Ahi w)
theorem Ps (w n i:Nat):CJ w (List.replicate n 0#64) i=0:=by
 unfold CJ;have:(List.replicate n 0#64).getD (i*w/64) 0=0#64:=by
  rw[Aax,Aem];split <;> rfl
 rw[this]; simp
theorem Kn (n:Int):(BitVec.ofInt 64 n).toNat=(n % 18446744073709551616).toNat:=by
 rw[BitVec.toNat_ofInt]; rfl
theorem sD (n:Int):BitVec.ofInt 64 (Ar n)=BitVec.ofInt 64 n:=by
 apply Agn;rw[Kn,Kn,Ar,Afk];congr 1;omega
theorem jr (n:Int):u64 n=n % 18446744073709551616:=by
 simp[u64,IntKind.wrap,IntKind.bits,IntKind.signed]
theorem ofInt_u64 (n:Int):BitVec.ofInt 64 (u64 n)=BitVec.ofInt 64 n:=by
 apply Agn;rw[Kn,Kn,jr];congr 1;omega
theorem g9 (n:Nat):BitVec.ofInt 64 (n:Int)=BitVec.ofNat 64 n:=by
 apply Agn;rw[Kn,Ahr];omega
theorem Uq (x:BitVec 64):BitVec.ofInt 64 (x.toNat:Int)=x:=by
 rw[g9,BitVec.ofNat_toNat,BitVec.setWidth_eq]
theorem tw (x:BitVec 64):u64 (x.toNat:Int)=(x.toNat:Int):=by
 have:=x.isLt;rw[jr]; omega
theorem XJ {n:Nat} (h:n<9223372036854775808):Ar (n:Int)=(n:Int):=Ai (by unfold AQ; omega)
theorem rU (x:BitVec 64) (s:Nat) (hs:s<64):(x.toNat:Int).fdiv (2 ^ (min s 64))=((x >>> s).toNat:Int):=by
 rw[Age (by omega),Int.fdiv_eq_ediv_of_nonneg _ (Int.pow_nonneg (by decide)),BitVec.toNat_ushiftRight,Nat.shiftRight_eq_div_pow]
 norm_cast
theorem uK (x:BitVec 64) (s w:Nat) (hs:s<64) (hw:okW w):
  Ar ((BitVec.ofInt 64 (Ar ((x.toNat:Int).fdiv (2 ^ (min s 64)))) &&& BitVec.ofInt 64 ((2 ^ w-1:Nat):Int)).toNat:Int)=(((x >>> s).toNat % 2 ^ w:Nat):Int):=by
 rw[rU x s hs,sD,Uq,g9,BitVec.toNat_and,Ahr];have h1:(2 ^ w-1) % 2 ^ 64=2 ^ w-1:=by rcases hw with rfl | rfl | rfl | rfl <;> rfl
 rw[h1,Nat.and_two_pow_sub_one_eq_mod];have a:(x >>> s).toNat % 2 ^ w<2 ^ w:=Aev _ (Ahi w);have b:2 ^ w<=256:=by rcases hw with rfl | rfl | rfl | rfl <;> decide
 exact XJ (by omega)
theorem my (a s:Nat) (hs:s<64):BitVec.ofInt 64 (u64 ((u64 (a:Int))*2 ^ (min s 64)))=BitVec.ofNat 64 a <<< s:=by
 rw[ofInt_u64,Age (by omega)];apply Agn;rw[Kn,jr,BitVec.toNat_shiftLeft,Ahr,Nat.shiftLeft_eq];have b:((2 ^ 64:Nat):Int)=18446744073709551616:=by decide
 have:((a:Int) % 18446744073709551616*2 ^ s)=((a % 2 ^ 64*2 ^ s:Nat):Int):=by
  rw[Aig,Int.natCast_emod,b,Int.natCast_pow]; rfl
 rw[this];generalize a % 2 ^ 64*2 ^ s=y;omega
theorem vt (x:BitVec 64) (s w v:Nat) (hs:s<64):
  u64 ((BitVec.ofInt 64 (u64 ((BitVec.ofInt 64 (x.toNat:Int) &&& ~~~ (BitVec.ofInt 64 (u64 ((u64 ((2 ^ w-1:Nat):Int))*2 ^ (min s 64))))).toNat:Int)) ||| BitVec.ofInt 64 (u64 ((u64 (v:Int))*2 ^ (min s 64)))).toNat:Int)=((yr w x s v).toNat:Int):=by
 rw[my _ _ hs,my _ _ hs,tw,ofInt_u64,Uq,Uq];rfl
def QY (g:Nat->Nat) (e v:Nat) (i:Nat):Option Nat:=if h:i<e then (if g i=v then some i else QY g e v (i+1)) else none
termination_by e-i
def QV (g:Nat->Nat) (v:Nat):Nat->Option Nat
 | 0=>none
 | i+1=>if g i=v then some i else QV g v i
theorem Sc {g:Nat->Nat} {e v i j:Nat} (h:QY g e v i=some j):i<=j/\j<e/\g j=v /\ ∀ t,i<=t->t<j->g t≠v:=by
 unfold QY at h;split at h
 ·split at h
  ·cases h; exact ⟨Aa1 _,by assumption,by assumption,fun t h1 d=>by omega⟩
  ·rename_i a;obtain ⟨h1,d,f,k⟩:=Sc h;refine ⟨by omega,d,f,fun t b c=>?_⟩;rcases Ahs b with rfl | l
   ·exact a
   ·exact k t l c
 ·cases h
termination_by e-i
theorem RX {g:Nat->Nat} {v:Nat}:∀ {i j:Nat},QV g v i=some j->j<i/\g j=v /\ ∀ t,j<t->t<i->g t≠v
 | 0,_,h=>by cases h
 | i+1,j,h=>by
   simp only[QV] at h;split at h
   ·cases h; exact ⟨by omega,by assumption,fun t h1 c=>by omega⟩
   ·rename_i a;obtain ⟨h1,c,e⟩:=RX h;refine ⟨by omega,c,fun t b f=>?_⟩;rcases Ael t i with d | d
    ·exact e t b d
    ·obtain rfl:t=i:=by omega
     exact a
theorem cG {g:Nat->Nat} {v:Nat}:∀ {i:Nat},QV g v i=none -> ∀ t,t<i->g t≠v
 | 0,_,t,c=>by omega
 | i+1,h,t,c=>by
   simp only[QV] at h;split at h
   ·cases h
   ·rename_i b;rcases Ael t i with a | a
    ·exact cG h t a
    ·obtain rfl:t=i:=by omega
     exact b
end
end
end Go.AX
namespace Go.Proofs.YtjbledomkmdkmaaGreat
open Go Go.AX
noncomputable section
section
set_option maxRecDepth 100000
abbrev Ak:TypeId:=3
abbrev D0:TypeId:=27
abbrev Ej:TypeId:=28
abbrev Hq:TypeId:=31
abbrev DU:TypeId:=32
abbrev FR:TypeId:=33
abbrev AN:TypeId:=35
abbrev Kq:TypeId:=43
abbrev Fb:TypeId:=45
abbrev FO:TypeId:=46
abbrev Hr:TypeId:=47
abbrev BP:TypeId:=49
abbrev fE:TypeId:=52
abbrev Am:TypeId:=55
abbrev fF:TypeId:=61
abbrev NT:TypeId:=63
abbrev Oo:TypeId:=65
abbrev Hs:TypeId:=73
abbrev Ad:TypeId:=97
abbrev PZ:TypeId:=101
abbrev Dc:TypeId:=107
abbrev As:TypeId:=109
abbrev Ab:TypeId:=111
abbrev iS:TypeId:=122
abbrev LD:TypeId:=136
abbrev FT:TypeId:=139
abbrev Gc:TypeId:=173
abbrev Dv:TypeId:=3
abbrev JJ:TypeId:=149
abbrev BQ:TypeId:=156
abbrev IE:TypeId:=165
abbrev Hy:TypeId:=171
abbrev Bi:TypeId:=173
abbrev MP:TypeId:=179
abbrev XH:TypeId:=187
abbrev N5:TypeId:=223
abbrev BE:TypeId:=242
abbrev JG:TypeId:=224
abbrev tv:TypeId:=242
abbrev N4:TypeId:=246
abbrev Cz:TypeId:=248
abbrev S8:TypeId:=251
abbrev Sl:TypeId:=256
abbrev AG:TypeId:=259
abbrev Jw:TypeId:=268
abbrev fe:TypeId:=269
abbrev fg:TypeId:=270
abbrev ff:TypeId:=271
abbrev dN:TypeId:=272
abbrev ZB:TypeId:=290
def Hk (i:Nat):Nat->List (Nat × Value)->Bo
 | 0,_=>[]
 | n+1,[]=>none::Hk (i+1) n []
 | n+1,(j,v)::l=>bif Nat.beq i j then some v::Hk (i+1) n l else none::Hk (i+1) n ((j,v)::l)
def H:FuncId->Hints
 | 8=>[(10,⟨[1,5,6],[(.exit 0,[]),(.ret,[(4,.bool)])]⟩),(26,⟨[5,9],[(.exit 2,[]),(.ret,[(4,.bool)])]⟩)]
 | 15=>[(8,⟨[0,1,5],[(.exit 0,[]),(.ret,[(4,.bool)])]⟩)]
 | 19=>[(6,⟨[0,3,4],[(.exit 0,[])]⟩),(18,⟨[0,3,6,7],[(.exit 2,[])]⟩),(30,⟨[0,8,9],[(.exit 4,[])]⟩),(42,⟨[0,8,13],[(.exit 6,[])]⟩)]
 | 30=>[(6,⟨[0,1,5,6],[(.exit 0,[(5,.slice)])]⟩)]
 | 37=>[(14,⟨[0,3,5,6],[(.exit 0,[])]⟩)]
 | 38=>[(20,⟨[1,9,10],[(.exit 0,[]),(.ret,[(2,.ptr)])]⟩),(30,⟨[1,9,11],[(.exit 2,[]),(.ret,[(2,.ptr)])]⟩),(42,⟨[1,9,13],[(.exit 4,[]),(.ret,[(2,.ptr)])]⟩),(58,⟨[1,9,18],[(.exit 6,[]),(.ret,[(2,.ptr)])]⟩),(68,⟨[1,9,19],[(.exit 8,[]),(.ret,[(2,.ptr)])]⟩)]
 | 45=>[(12,⟨[0,16,17],[(.exit 0,[]),(.ret,[(4,.int .i64),(5,.int .i64)])]⟩)]
 | 62=>[(6,⟨[0,1,7,8],[(.exit 0,[(7,.slice)])]⟩),(14,⟨[0,2,7,9],[(.exit 2,[(7,.slice)])]⟩),(22,⟨[0,2,7,10,11],[(.exit 4,[(7,.slice)])]⟩),(30,⟨[0,7,12,13],[(.exit 6,[(7,.slice)])]⟩),(37,⟨[],[(.normal,[(7,.slice)])]⟩),(41,⟨[],[(.normal,[(7,.slice)])]⟩)]
 | 63=>[(8,⟨[0,3,4,5],[(.exit 0,[(3,.slice)])]⟩),(18,⟨[3,6,7,8],[(.exit 2,[(7,.bool)])]⟩),(27,⟨[],[(.normal,[(3,.slice)])]⟩)]
 | 66=>[(8,⟨[0,4],[(.exit 0,[(4,.int .i64)])]⟩)]
 | 68=>[(12,⟨[0,2,10,11,12],[(.exit 0,[(10,.slice)])]⟩),(32,⟨[0,2,10,11,13,16,17],[(.exit 2,[(10,.slice)])]⟩),(44,⟨[10,13,16,20],[(.exit 4,[(10,.slice)])]⟩),(51,⟨[],[(.normal,[(10,.slice)])]⟩),(56,⟨[0,1,2,3,10,21,22],[(.exit 6,[(10,.slice)])]⟩),(71,⟨[],[(.normal,[(10,.slice)])]⟩)]
 | 71=>[(9,⟨[],[(.normal,[])]⟩),(13,⟨[],[(.normal,[])]⟩),(17,⟨[],[(.normal,[])]⟩),(21,⟨[],[(.normal,[])]⟩)]
 | 75=>[(5,⟨[],[(.normal,[])]⟩)]
 | 77=>[(7,⟨[],[(.normal,[])]⟩)]
 | 79=>[(7,⟨[],[(.normal,[])]⟩)]
 | 81=>[(6,⟨[0,2,7,8,9],[(.exit 0,[(7,.slice)])]⟩)]
 | 82=>[(4,⟨[0,1,5],[(.exit 0,[]),(.ret,[(4,.int .i64)])]⟩)]
 | 83=>[(8,⟨[0,1,5],[(.exit 0,[]),(.ret,[(4,.int .i64)])]⟩)]
 | 85=>[(10,⟨[2,5,19,20,21],[(.exit 0,[]),(.ret,[(4,.bool)])]⟩),(18,⟨[2,5,7,32,33],[(.exit 2,[]),(.ret,[(4,.bool)])]⟩)]
 | 90=>[(8,⟨[0,3,4,5],[(.exit 0,[(3,.slice)])]⟩),(15,⟨[],[(.normal,[(3,.slice)])]⟩)]
 | 92=>[(10,⟨[0,4,5],[(.exit 0,[])]⟩)]
 | 96=>[(12,⟨[3],[(.normal,[])]⟩)]
 | 100=>[(13,⟨[],[(.normal,[]),(.ret,[(6,.bool)])]⟩),(17,⟨[],[(.normal,[(10,.int .i64)])]⟩)]
 | 130=>[(2,⟨[0,8,9,10],[(.exit 0,[])]⟩)]
 | 131=>[(5,⟨[],[(.normal,[])]⟩),(9,⟨[],[(.normal,[])]⟩),(15,⟨[],[(.normal,[])]⟩),(16,⟨[0,48,49,50],[(.exit 1,[])]⟩)]
 | 137=>[(15,⟨[],[(.normal,[(12,.int .i64),(13,.int .i64)])]⟩)]
 | 139=>[(21,⟨[],[(.normal,[])]⟩)]
 | 143=>[(5,⟨[],[(.normal,[])]⟩)]
 | 152=>[(8,⟨[0,1,6],[(.exit 0,[]),(.ret,[(4,.int .i64),(5,.int .i64)])]⟩)]
 | 153=>[(4,⟨[0,3,5],[(.exit 0,[(5,.int .i64)])]⟩)]
 | 156=>[(6,⟨[0,5,6],[(.exit 0,[]),(.ret,[(4,.bool)])]⟩),(16,⟨[0,7],[(.exit 2,[]),(.ret,[(4,.bool)])]⟩),(22,⟨[0,7,8],[(.exit 4,[]),(.ret,[(4,.bool)])]⟩)]
 | 159=>[(3,⟨[],[(.normal,[])]⟩)]
 | 160=>[(8,⟨[0,2,8],[(.exit 0,[]),(.ret,[(6,.int .i64),(7,.int .i64)])]⟩)]
 | 168=>[(12,⟨[3],[(.normal,[])]⟩),(15,⟨[],[(.normal,[])]⟩)]
 | 177=>[(14,⟨[0,1,6],[(.exit 0,[])]⟩)]
 | 179=>[(10,⟨[0,3,4],[(.exit 0,[(3,.slice)])]⟩),(16,⟨[3,4,5],[(.exit 2,[(3,.slice)])]⟩),(24,⟨[3,6],[(.exit 4,[(3,.slice)])]⟩),(32,⟨[0,3,7],[(.exit 6,[(3,.slice)])]⟩)]
 | 182=>[(9,⟨[],[(.normal,[])]⟩),(13,⟨[],[(.normal,[])]⟩)]
 | 190=>[(6,⟨[0,3,4],[(.exit 0,[(3,.int .i64)])]⟩),(13,⟨[],[(.normal,[(3,.int .i64)])]⟩)]
 | 215=>[(3,⟨[],[(.normal,[])]⟩)]
 | 216=>[(3,⟨[],[(.normal,[])]⟩),(8,⟨[0,31,32,33],[(.exit 0,[])]⟩),(15,⟨[],[(.normal,[])]⟩),(25,⟨[],[(.normal,[])]⟩)]
 | 217=>[(8,⟨[5,7,18,19,20],[(.exit 0,[(7,.slice)])]⟩),(15,⟨[],[(.normal,[(7,.slice)])]⟩)]
 | 219=>[(3,⟨[],[(.normal,[])]⟩),(10,⟨[0,24,25,26],[(.exit 0,[])]⟩),(17,⟨[],[(.normal,[])]⟩),(22,⟨[0,46,47],[(.exit 2,[])]⟩),(31,⟨[],[(.normal,[])]⟩)]
 | 225=>[(17,⟨[],[(.normal,[(7,.func)])]⟩),(31,⟨[],[(.normal,[(11,.int .i64)])]⟩)]
 | 227=>[(4,⟨[0,1,5],[(.exit 0,[(5,.int .i64)])]⟩)]
 | 237=>[(4,⟨[0,1,7,8],[(.exit 0,[]),(.ret,[(4,.int .i64)])]⟩)]
 | 243=>[(4,⟨[0,1,5],[(.exit 0,[(5,.int .i64)])]⟩)]
 | 244=>[(2,⟨[0,19,20,21],[(.exit 0,[]),(.ret,[])]⟩),(8,⟨[0,3,4,27,28],[(.exit 2,[]),(.ret,[])]⟩),(17,⟨[],[(.normal,[])]⟩)]
 | 245=>[(4,⟨[0,1,5],[(.exit 0,[]),(.ret,[(4,.int .i64)])]⟩),(10,⟨[0,1,5,6],[(.exit 2,[(6,.int .i64)])]⟩)]
 | 246=>[(12,⟨[0,1,2,9],[(.exit 0,[]),(.ret,[(8,.int .i64)])]⟩),(22,⟨[0,1,2,3,10],[(.exit 2,[])]⟩)]
 | 247=>[(4,⟨[0,2,4,8],[(.exit 0,[]),(.ret,[(6,.int .i64),(7,.bool)])]⟩),(14,⟨[4,9,10],[(.exit 2,[]),(.ret,[(6,.int .i64),(7,.bool)])]⟩)]
 | 250=>[(16,⟨[0,1,9,53,54],[(.exit 1,[])]⟩)]
 | 251=>[(11,⟨[],[(.normal,[]),(.ret,[(8,.int .i64)])]⟩),(20,⟨[0,1,3,6,10],[(.exit 0,[]),(.ret,[(8,.int .i64)])]⟩)]
 | 252=>[(4,⟨[0,3,4],[(.exit 0,[(4,.int .i64)])]⟩)]
 | 253=>[(11,⟨[],[(.normal,[]),(.ret,[(8,.int .i64)])]⟩),(20,⟨[0,1,2,3,10],[(.exit 0,[]),(.ret,[(8,.int .i64)])]⟩)]
 | 263=>[(14,⟨[0,1,3,31,32],[(.exit 0,[])]⟩)]
 | 264=>[(8,⟨[0,1,7,21,22],[(.exit 0,[(7,.slice)])]⟩)]
 | 265=>[(4,⟨[0,2,15,16,17],[(.exit 0,[(2,.slice)])]⟩),(15,⟨[],[(.normal,[(2,.slice)])]⟩),(22,⟨[0,60,61,62],[(.exit 2,[])]⟩)]
 | 269=>[(4,⟨[0,1,7,8],[(.exit 0,[]),(.ret,[(4,.int .i64)])]⟩)]
 | 272=>[(6,⟨[0,6,7],[(.exit 0,[]),(.ret,[(4,.int .i64),(5,.bool)])]⟩)]
 | 282=>[(14,⟨[0,5,6,7,8],[(.exit 0,[(5,.slice),(6,.int .i64)])]⟩),(21,⟨[],[(.normal,[(5,.slice)])]⟩),(29,⟨[],[(.normal,[(5,.slice)])]⟩)]
 | 286=>[(12,⟨[0,1,5],[(.exit 0,[(5,.int .i64)])]⟩)]
 | 292=>[(6,⟨[0,1,5,6],[(.exit 0,[(5,.slice)])]⟩),(13,⟨[],[(.normal,[(5,.slice)])]⟩)]
 | 296=>[(18,⟨[0,1,7,11,43,44],[(.exit 0,[(11,.int .i64)])]⟩),(27,⟨[],[(.normal,[(11,.int .i64)])]⟩)]
 | 297=>[(4,⟨[0,1,7,8],[(.exit 0,[]),(.ret,[(4,.int .i64)])]⟩)]
 | 298=>[(8,⟨[0,2,8],[(.exit 0,[]),(.ret,[(6,.int .i64),(7,.int .i64)])]⟩)]
 | 319=>[(6,⟨[0,1,2,7,14,15,16],[(.exit 0,[(7,.slice)])]⟩),(12,⟨[1,2,7,25,26,27],[(.exit 2,[(7,.slice)])]⟩),(21,⟨[],[(.normal,[])]⟩),(25,⟨[],[(.normal,[(7,.slice)])]⟩)]
 | 320=>[(4,⟨[0,2,4],[(.exit 0,[]),(.ret,[(3,.bool)])]⟩)]
 | 321=>[(6,⟨[0,3,9,10],[(.exit 0,[(3,.slice)])]⟩),(13,⟨[],[(.normal,[(3,.slice)])]⟩)]
 | 322=>[(14,⟨[0,6,7,19,20,21],[(.exit 0,[])]⟩)]
 | 324=>[(3,⟨[],[(.normal,[])]⟩)]
 | 328=>[(4,⟨[0,1,2,6,7,8],[(.exit 0,[(7,.int .i64)])]⟩),(14,⟨[0,1,2,6],[(.exit 2,[])]⟩),(18,⟨[0,1,2,6,7,8],[(.exit 4,[(7,.int .i64)])]⟩),(31,⟨[],[(.normal,[])]⟩)]
 | 329=>[(2,⟨[0,1,2,3,8],[(.exit 0,[])]⟩),(8,⟨[0,1,3,9],[(.exit 2,[])]⟩)]
 | 330=>[(6,⟨[0,1,4,10,11],[(.exit 0,[(10,.int .i64)])]⟩),(13,⟨[],[(.normal,[(10,.int .i64),(11,.int .i64)])]⟩),(18,⟨[0,10,13],[(.exit 2,[])]⟩),(30,⟨[0,2,4,14,15],[(.exit 4,[(14,.int .i64)])]⟩),(37,⟨[],[(.normal,[(14,.int .i64),(15,.int .i64)])]⟩),(42,⟨[0,14,17],[(.exit 6,[])]⟩),(57,⟨[],[(.normal,[(20,.int .i64),(21,.int .i64)])]⟩),(66,⟨[0,4,20,21,22],[(.exit 8,[(20,.int .i64)])]⟩),(73,⟨[],[(.normal,[(20,.int .i64),(21,.int .i64)])]⟩),(81,⟨[],[(.normal,[])]⟩),(85,⟨[],[(.normal,[])]⟩),(89,⟨[],[(.normal,[])]⟩)]
 | 331=>[(4,⟨[0,2,4,10,11],[(.exit 0,[(10,.int .i64)])]⟩),(9,⟨[],[(.normal,[(10,.int .i64),(11,.int .i64)])]⟩)]
 | 332=>[(2,⟨[0,1,2,3,10],[(.exit 0,[])]⟩)]
 | 333=>[(9,⟨[],[(.normal,[])]⟩)]
 | 335=>[(5,⟨[],[(.normal,[]),(.ret,[(6,.int .i64),(7,.bool)])]⟩)]
 | 339=>[(4,⟨[0,2,11,12,13],[(.exit 0,[]),(.ret,[(3,.bool)])]⟩),(12,⟨[0,2,5,6,7],[(.exit 2,[]),(.ret,[(3,.bool)])]⟩),(18,⟨[6,8],[(.exit 4,[(8,.int .i64)])]⟩)]
 | 340=>[(10,⟨[0,5,18,19,20],[(.exit 0,[])]⟩),(18,⟨[5,9,10],[(.exit 2,[])]⟩)]
 | _=>[]
section
variable [AJ]
def lp (k f i:Nat) (c:Code) (n:Nat) (rs:Bo) (J:Aa):Option Bq:=
 Zw (fun a J K=>exec P (fn P X H k) f (H f) k (cB c) Bq a J K) (((H f).lookup i).getD default) n rs J
def u_f {ρ:Type} (l:List Value) (K:Value->Option ρ):Option ρ:=l.head?.bind fun a=>K a
theorem Aam {ρ:Type} (a:Value) (K:Value->Option ρ):u_f [a] K=K a:=by simp[u_f,Bk,Dl,toStr,HR,Eo,fc]
def yS {ρ:Type} (l:List Value) (K:Value->Value->Value->Option ρ):Option ρ:=l.head?.bind fun a=>l.tail.head?.bind fun b=>l.tail.tail.head?.bind fun c=>K a b c
def ZZ {ρ:Type} (l:List Value) (K:Int->Option ρ):Option ρ:=l.head?.bind fun v=>(Bk .i64 v).bind fun a=>K a
theorem Em {ρ:Type} (a:Int) (K:Int->Option ρ):ZZ [qIi a] K=K a:=by simp[ZZ,Bk,Dl,toStr,HR,Eo,fc]
def jt {ρ:Type} (l:List Value) (K:Int->Int->Option ρ):Option ρ:=l.head?.bind fun v=>(Bk .i64 v).bind fun a=>l.tail.head?.bind fun v=>(Bk .i64 v).bind fun b=>K a b
theorem UQ {ρ:Type} (a:Int) (b:Int) (K:Int->Int->Option ρ):jt [qIi a,qIi b] K=K a b:=by simp[jt,Bk,Dl,toStr,HR,Eo,fc]
def yU {ρ:Type} (l:List Value) (K:Int->Int->Int->Option ρ):Option ρ:=l.head?.bind fun v=>(Bk .i64 v).bind fun a=>l.tail.head?.bind fun v=>(Bk .i64 v).bind fun b=>l.tail.tail.head?.bind fun v=>(Bk .i64 v).bind fun c=>K a b c
def wx {ρ:Type} (l:List Value) (K:Int->Bool->Option ρ):Option ρ:=l.head?.bind fun v=>(Bk .i64 v).bind fun a=>l.tail.head?.bind fun v=>(Dl v).bind fun b=>K a b
theorem ju {ρ:Type} (a:Int) (b:Bool) (K:Int->Bool->Option ρ):wx [qIi a,.bool b] K=K a b:=by simp[wx,Bk,Dl,toStr,HR,Eo,fc]
def So {ρ:Type} (l:List Value) (K:qSi->Option ρ):Option ρ:=l.head?.bind fun v=>(Eo v).bind fun a=>K a
theorem HW {ρ:Type} (a:qSi) (K:qSi->Option ρ):So [.slice a.1 a.2.1 a.2.2] K=K a:=by simp[So,Bk,Dl,toStr,HR,Eo,fc]
def Aan {ρ:Type} (l:List Value) (K:qSi->Int->Option ρ):Option ρ:=l.head?.bind fun v=>(Eo v).bind fun a=>l.tail.head?.bind fun v=>(Bk .i64 v).bind fun b=>K a b
theorem qN {ρ:Type} (a:qSi) (b:Int) (K:qSi->Int->Option ρ):Aan [.slice a.1 a.2.1 a.2.2,qIi b] K=K a b:=by simp[Aan,Bk,Dl,toStr,HR,Eo,fc]
def u_p {ρ:Type} (l:List Value) (K:qOi->Option ρ):Option ρ:=l.head?.bind fun v=>(HR v).bind fun a=>K a
def oS {ρ:Type} (l:List Value) (K:Bool->Option ρ):Option ρ:=l.head?.bind fun v=>(Dl v).bind fun a=>K a
theorem oT {ρ:Type} (a:Bool) (K:Bool->Option ρ):oS [.bool a] K=K a:=by simp[oS,Bk,Dl,toStr,HR,Eo,fc]
def pv {ρ:Type} (v:Value) (K:Value->Value->Value->Option ρ):Option ρ:=(yQ v).bind fun l=>if l.length=3 then yS l K else none
theorem ui {ρ:Type} (a:Value) (b:Value) (c:Value) (K:Value->Value->Value->Option ρ):pv (.agg #[a,b,c]) K=K a b c:=by simp[pv,yS,yQ,Bk,Dl,toStr,HR,Eo,fc]
def zy {ρ:Type} (v:Value) (K:Int->Int->Option ρ):Option ρ:=(yQ v).bind fun l=>if l.length=2 then jt l K else none
theorem xj {ρ:Type} (a:Int) (b:Int) (K:Int->Int->Option ρ):zy (.agg #[qIi a,qIi b]) K=K a b:=by simp[zy,jt,yQ,Bk,Dl,toStr,HR,Eo,fc]
def My {ρ:Type} (v:Value) (K:Int->Int->Int->Option ρ):Option ρ:=(yQ v).bind fun l=>if l.length=3 then yU l K else none
theorem HA {ρ:Type} (a:Int) (b:Int) (c:Int) (K:Int->Int->Int->Option ρ):My (.agg #[qIi a,qIi b,qIi c]) K=K a b c:=by simp[My,yU,yQ,Bk,Dl,toStr,HR,Eo,fc]
def W8 {ρ:Type} (v:Value) (K:Option ρ):Option ρ:=(az v).bind fun l=>if l.length=0 then K else none
theorem Gi {ρ:Type}  (K:Option ρ):W8 (.tuple #[]) K=K:=by simp[W8,az,Bk,Dl,toStr,HR,Eo,fc]
def GV {ρ:Type} (v:Value) (K:Int->Int->Option ρ):Option ρ:=(az v).bind fun l=>if l.length=2 then l.head?.bind fun v=>(Bk .i64 v).bind fun a=>l.tail.head?.bind fun v=>(Bk .i64 v).bind fun b=>K a b else none
theorem B6 {ρ:Type} (a:Int) (b:Int) (K:Int->Int->Option ρ):GV (.tuple #[qIi a,qIi b]) K=K a b:=by simp[GV,az,Bk,Dl,toStr,HR,Eo,fc]
def sY {ρ:Type} (v:Value) (K:Int->Bool->Option ρ):Option ρ:=(az v).bind fun l=>if l.length=2 then l.head?.bind fun v=>(Bk .i64 v).bind fun a=>l.tail.head?.bind fun v=>(Dl v).bind fun b=>K a b else none
theorem Si {ρ:Type} (a:Int) (b:Bool) (K:Int->Bool->Option ρ):sY (.tuple #[qIi a,.bool b]) K=K a b:=by simp[sY,az,Bk,Dl,toStr,HR,Eo,fc]
def vC {ρ:Type} (v:Value) (K:qSi->Int->Option ρ):Option ρ:=(az v).bind fun l=>if l.length=2 then l.head?.bind fun v=>(Eo v).bind fun a=>l.tail.head?.bind fun v=>(Bk .i64 v).bind fun b=>K a b else none
theorem xY {ρ:Type} (a:qSi) (b:Int) (K:qSi->Int->Option ρ):vC (.tuple #[.slice a.1 a.2.1 a.2.2,qIi b]) K=K a b:=by simp[vC,az,Bk,Dl,toStr,HR,Eo,fc]
def Tk {ρ:Type} (v:Value) (K:qOi->Int->Option ρ):Option ρ:=(az v).bind fun l=>if l.length=2 then l.head?.bind fun v=>(HR v).bind fun a=>l.tail.head?.bind fun v=>(Bk .i64 v).bind fun b=>K a b else none
theorem LK {ρ:Type} (a:qOi) (b:Int) (K:qOi->Int->Option ρ):Tk (.tuple #[qVi a,qIi b]) K=K a b:=by simp[Tk,az,Bk,Dl,toStr,HR,Eo,fc]
end
def Aq {α:Type} (x:α):α:=Classical.choose (⟨x,rfl⟩:∃ y,y=x)
theorem Ac {α:Type} (x:α):Aq x=x:=Classical.choose_spec (⟨x,rfl⟩:∃ y,y=x)
abbrev PC:=Option (Value × Aa)
abbrev TV:=Value->List Value->Aa->PC
section
variable [AJ]
abbrev mR:=Nat->Int->Int->qOi->Nat->Nat->Int->(qSi)->Int->Aa->Option Bq
abbrev Aa7:=Nat->Int->(qSi)->Int->Aa->Option Bq
abbrev Aa8:=Nat->Int->Nat->Int->Aa->Option Bq
abbrev Aci:=Nat->(qSi)->Int->Aa->Option Bq
abbrev zg:=Nat->Nat->Int->Int->Int->Aa->Option Bq
abbrev jD:=Nat->Nat->Nat->Int->Aa->Option Bq
abbrev zh:=Nat->Nat->Nat->(qSi)->Int->Aa->Option Bq
abbrev wK:=Nat->Nat->qOi->Nat->Nat->Int->Aa->Option Bq
abbrev tJ:=Nat->Nat->qOi->Nat->Nat->Int->Int->Aa->Option Bq
abbrev qS:=Nat->Nat->qOi->Nat->Nat->Int->(qSi)->Int->Aa->Option Bq
abbrev zi:=Nat->qOi->Bool->(qSi)->Int->Aa->Option Bq
abbrev qT:=Nat->qOi->Bool->qOi->Nat->Nat->(qSi)->Int->Aa->Option Bq
abbrev zj:=Nat->qOi->Int->Aa->Option Bq
abbrev Sq:=Nat->qOi->Int->Int->Aa->Option Bq
abbrev tK:=Nat->qOi->Int->Int->Int->Aa->Option Bq
abbrev il:=Nat->qOi->Int->Int->Int->Int->Aa->Option Bq
abbrev wL:=Nat->qOi->Int->Int->(qSi)->Int->Aa->Option Bq
abbrev wM:=Nat->qOi->Int->Int->Nat->Int->Aa->Option Bq
abbrev jE:=Nat->qOi->Int->Int->qOi->Nat->Nat->Int->(qSi)->Int->Aa->Option Bq
abbrev tL:=Nat->qOi->Int->(qSi)->Int->Aa->Option Bq
abbrev wN:=Nat->qOi->Int->(qSi)->Int->Int->Aa->Option Bq
abbrev zk:=Nat->qOi->Int->Nat->Int->Aa->Option Bq
abbrev wO:=Nat->qOi->Int->Nat->Int->Int->Aa->Option Bq
abbrev tM:=Nat->qOi->Int->Nat->Int->Int->Int->Aa->Option Bq
abbrev yx:=Nat->qOi->(qSi)->Int->Aa->Option Bq
abbrev jF:=Nat->qOi->Nat->Int->Aa->Option Bq
abbrev zl:=Nat->qOi->Nat->(qSi)->Int->Aa->Option Bq
abbrev tN:=Nat->qOi->Nat->Nat->Int->Bool->Int->Aa->Option Bq
abbrev pa:=Nat->qOi->Nat->Nat->Int->Int->Aa->Option Bq
abbrev tO:=Nat->qOi->Nat->Nat->Int->Int->Int->Aa->Option Bq
abbrev wP:=Nat->qOi->Nat->Nat->qOi->Int->Aa->Option Bq
abbrev qV:=Nat->qOi->Nat->Nat->qOi->Nat->Nat->Int->Aa->Option Bq
abbrev mS:=Nat->qOi->Nat->Nat->qOi->Nat->Nat->Int->Int->Aa->Option Bq
abbrev jG:=Nat->qOi->Nat->Nat->Value->Int->Int->Aa->Option Bq
abbrev tP:=Nat->qOi->Nat->qOi->Nat->Nat->Int->Aa->Option Bq
abbrev wQ:=Nat->qOi->qOi->Nat->Nat->Int->Aa->Option Bq
abbrev Tn:=Nat->qOi->qOi->Nat->Nat->Int->Int->Aa->Option Bq
abbrev qW:=Nat->qOi->qOi->Nat->Nat->Int->(qSi)->Int->Aa->Option Bq
abbrev WQ:=Nat->qOi->qOi->Nat->Nat->(qSi)->Int->Aa->Option Bq
abbrev qX:=Nat->qOi->qOi->Nat->Nat->(qSi)->Int->Int->Aa->Option Bq
abbrev tQ:=Nat->qOi->qOi->qOi->Nat->Nat->Int->Aa->Option Bq
abbrev qY:=Nat->qOi->qOi->qOi->Nat->Nat->(qSi)->Int->Aa->Option Bq
abbrev jH:=Nat->qOi->qOi->qOi->Nat->Nat->Nat->Nat->(qSi)->Int->Aa->Option Bq
abbrev jI:=Nat->qOi->qOi->qOi->qOi->qOi->Nat->Nat->(qSi)->Int->Aa->Option Bq
abbrev qZ:=Nat->Value->Int->qOi->Nat->Nat->Int->Int->Aa->Option Bq
abbrev zm:=Nat->Value->Nat->Int->Int->Aa->Option Bq
abbrev T_:=Aa->PC
abbrev zp:=Int->Aa->PC
abbrev zr:=Int->Int->Aa->PC
abbrev bj:=Int->Int->Int->Aa->PC
abbrev mY:=Int->Int->Int->Int->Aa->PC
abbrev zs:=Int->Int->Int->qOi->Aa->PC
abbrev ue:=Int->Int->Int->qOi->qOi->qOi->Aa->PC
abbrev fy:=Int->Int->(qSi)->(qSi)->(qSi)->(qSi)->(qSi)->Aa->PC
abbrev mZ:=Int->Int->(qSi)->(qSi)->(qSi)->(qSi)->(qSi)->(qSi)->Aa->PC
abbrev Abc:=Int->Int->qOi->Aa->PC
abbrev uf:=Int->Int->qOi->qOi->Aa->PC
abbrev zt:=Int->qOi->Aa->PC
abbrev Abd:=Int->qOi->qOi->Aa->PC
abbrev T_l:=(qSi)->Aa->PC
abbrev rp:=(qSi)->Int->Aa->PC
abbrev zu:=(qSi)->Int->Int->Int->Aa->PC
abbrev Acm:=(qSi)->(qSi)->Aa->PC
abbrev Acn:=(qSi)->qOi->Aa->PC
abbrev xg:=(qSi)->Value->Aa->PC
abbrev Oz:=qOi->Aa->PC
abbrev Gs:=qOi->Int->Aa->PC
abbrev yy:=qOi->Int->Bool->Aa->PC
abbrev N6:=qOi->Int->Int->Aa->PC
abbrev zv:=qOi->Int->Int->Bool->Aa->PC
abbrev Kz:=qOi->Int->Int->Int->Aa->PC
abbrev Nv:=qOi->Int->Int->Int->Int->Aa->PC
abbrev ug:=qOi->Int->Int->Int->Int->Int->Aa->PC
abbrev ru:=qOi->Int->Int->Int->Int->Int->Int->Aa->PC
abbrev dY:=qOi->Int->Int->Int->Int->Int->Int->Int->Int->Int->Int->Aa->PC
abbrev jQ:=qOi->Int->Int->Int->Int->Int->(qSi)->(qSi)->Bool->Aa->PC
abbrev Abe:=qOi->Int->(qSi)->Aa->PC
abbrev yz:=qOi->Int->Value->Aa->PC
abbrev Abf:=qOi->(qSi)->Aa->PC
abbrev Abg:=qOi->(qSi)->Bool->Aa->PC
abbrev Abh:=qOi->(qSi)->Int->Aa->PC
abbrev xh:=qOi->qOi->Aa->PC
abbrev zw:=qOi->qOi->Bool->Int->Aa->PC
abbrev Rx:=qOi->qOi->Int->Int->Int->Int->Int->(qSi)->(qSi)->Bool->Int->Int->Int->Int->Int->(qSi)->(qSi)->Bool->Int->(qSi)->Aa->PC
abbrev zx:=qOi->qOi->qOi->qOi->Aa->PC
abbrev bm:=qOi->Value->Value->Value->Int->Int->Int->Int->Int->Int->Int->Int->Aa->PC
abbrev Aco:=Value->qOi->Aa->PC
def JS:Nat->mZ:=Aq fun k f g a b c d e h J=>fn P X H k 8 [.agg #[.int .u8 f,.int .u8 g,.slice a.1 a.2.1 a.2.2,.slice b.1 b.2.1 b.2.2,.slice c.1 c.2.1 c.2.2,.slice d.1 d.2.1 d.2.2,.slice e.1 e.2.1 e.2.2],.slice h.1 h.2.1 h.2.2] J
def Fc:Nat->wP:=Aq fun k n c a b d e J=>lp k 8 10 (cB (cR (cL (cR (cR (cR (Bu Tryz.f8))))))) n (Hk 0 80 [(1,.slice c a b),(5,qVi d),(6,qIi e)]) J
def Fe:Nat->zj:=Aq fun k n a b J=>lp k 8 26 (cB (cR (cL (cR (cR (cR (cR (cR (Bu Tryz.f8))))))))) n (Hk 0 80 [(5,qVi a),(9,qIi b)]) J
def L5:Nat->fy:=Aq fun k f g a b c d e J=>fn P X H k 11 [.agg #[.int .u8 f,.int .u8 g,.slice a.1 a.2.1 a.2.2,.slice b.1 b.2.1 b.2.2,.slice c.1 c.2.1 c.2.2,.slice d.1 d.2.1 d.2.2,.slice e.1 e.2.1 e.2.2]] J
def Bt:Nat->Oz:=Aq fun k a J=>fn P X H k 12 [qVi a] J
def Cd:Nat->Gs:=Aq fun k a b J=>fn P X H k 13 [qVi a,qIi b] J
def Bs:Nat->Oz:=Aq fun k a J=>fn P X H k 14 [qVi a] J
def GH:Nat->Acm:=Aq fun k a b J=>fn P X H k 15 [.slice a.1 a.2.1 a.2.2,.slice b.1 b.2.1 b.2.2] J
def HY:Nat->qV:=Aq fun k n e a b f c d g J=>lp k 15 8 (cB (cR (cL (cR (cR (Bu Tryz.f15)))))) n (Hk 0 26 [(0,.slice e a b),(1,.slice f c d),(5,qIi g)]) J
def Db:Nat->Oz:=Aq fun k a J=>fn P X H k 16 [qVi a] J
def Es:Nat->Oz:=Aq fun k a J=>fn P X H k 19 [qVi a] J
def HZ:Nat->jF:=Aq fun k n a h1 b J=>lp k 19 6 (cB (cR (cL (cR (cR (Bu Tryz.f19)))))) n (Hk 0 136 [(0,qVi a),(3,qVi (some ⟨h1,0,none⟩)),(4,qIi b)]) J
def Ib:Nat->jF:=Aq fun k n a h1 b J=>lp k 19 30 (cB (cR (cL (cR (cR (cR (cB (cL (cR (cB (cB (cR (cL (cR (cR (cR (cR (Bu Tryz.f19)))))))))))))))))) n (Hk 0 136 [(0,qVi a),(8,qVi (some ⟨h1,0,none⟩)),(9,qIi b)]) J
def Ic:Nat->jF:=Aq fun k n b h1 a J=>lp k 19 42 (cB (cR (cL (cR (cR (cR (cR (cB (cL (cR (cB (cB (cR (cL (cR (cR (cR (cR (Bu Tryz.f19))))))))))))))))))) n (Hk 0 136 [(0,qVi b),(8,qVi (some ⟨h1,0,none⟩)),(13,qIi a)]) J
def Ia:Nat->tP:=Aq fun k n c h1 d a b e J=>lp k 19 18 (cB (cR (cL (cR (cR (cR (cR (Bu Tryz.f19)))))))) n (Hk 0 136 [(0,qVi c),(3,qVi (some ⟨h1,0,none⟩)),(6,.slice d a b),(7,qIi e)]) J
def Lz:Nat->T_:=Aq fun k  J=>fn P X H k 20 [] J
def GY:Nat->Oz:=Aq fun k a J=>fn P X H k 21 [qVi a] J
def BJ:Nat->Oz:=Aq fun k a J=>fn P X H k 22 [qVi a] J
def Bc:Nat->Nv:=Aq fun k d a b c e J=>fn P X H k 23 [qVi d,.agg #[qIi a,qIi b,qIi c],qIi e] J
def CE:Nat->Gs:=Aq fun k a b J=>fn P X H k 24 [qVi a,qIi b] J
def Bm:Nat->Oz:=Aq fun k a J=>fn P X H k 25 [qVi a] J
def E7:Nat->Oz:=Aq fun k a J=>fn P X H k 26 [qVi a] J
def Jg:Nat->dY:=Aq fun k l a b c d e f g h i j J=>fn P X H k 27 [qVi l,.agg #[.int .u8 a,.int .u8 b,.int .u8 c,.int .u8 d,.int .u8 e,.int .u8 f,.int .u8 g,.int .u8 h,.int .u8 i,.int .u8 j]] J
def GX:Nat->bm:=Aq fun k m a b c d e f g h i j l J=>fn P X H k 28 [qVi m,.agg #[a,b,c],.agg #[.int .u8 d,.int .u8 e,.int .u8 f,.int .u8 g,.int .u8 h,.int .u8 i,.int .u8 j,.int .u8 l]] J
def FF:Nat->Oz:=Aq fun k a J=>fn P X H k 29 [qVi a] J
def DM:Nat->Abf:=Aq fun k b a J=>fn P X H k 30 [qVi b,.slice a.1 a.2.1 a.2.2] J
def Fu:Nat->WQ:=Aq fun k n d e b c a f J=>lp k 30 6 (cB (cR (cL (cR (cR (Bu Tryz.f30)))))) n (Hk 0 36 [(0,qVi d),(1,.slice e b c),(5,.slice a.1 a.2.1 a.2.2),(6,qIi f)]) J
def B8:Nat->Oz:=Aq fun k a J=>fn P X H k 31 [qVi a] J
def I0:Nat->rp:=Aq fun k a b J=>fn P X H k 32 [.slice a.1 a.2.1 a.2.2,qIi b] J
def Dt:Nat->Oz:=Aq fun k a J=>fn P X H k 33 [qVi a] J
def BW:Nat->Oz:=Aq fun k a J=>fn P X H k 37 [qVi a] J
def Ed:Nat->tQ:=Aq fun k n c d e a b f J=>lp k 37 14 (cB (cR (cL (cR (cR (cR (cR (cR (Bu Tryz.f37))))))))) n (Hk 0 50 [(0,qVi c),(3,qVi d),(5,.slice e a b),(6,qIi f)]) J
def HC:Nat->fy:=Aq fun k f g a b c d e J=>fn P X H k 38 [.agg #[.int .u8 f,.int .u8 g,.slice a.1 a.2.1 a.2.2,.slice b.1 b.2.1 b.2.2,.slice c.1 c.2.1 c.2.2,.slice d.1 d.2.1 d.2.2,.slice e.1 e.2.1 e.2.2]] J
def C5:Nat->jD:=Aq fun k n h0 h1 a J=>lp k 38 20 (cB (cR (cL (cR (cR (cR (cR (cR (cR (cR (cR (Bu Tryz.f38)))))))))))) n (Hk 0 257 [(1,qVi (some ⟨h0,0,none⟩)),(9,qVi (some ⟨h1,0,none⟩)),(10,qIi a)]) J
def C6:Nat->jD:=Aq fun k n h0 h1 a J=>lp k 38 30 (cB (cR (cL (cR (cR (cR (cR (cR (cR (cR (cR (cR (Bu Tryz.f38))))))))))))) n (Hk 0 257 [(1,qVi (some ⟨h0,0,none⟩)),(9,qVi (some ⟨h1,0,none⟩)),(11,qIi a)]) J
def Cc:Nat->jD:=Aq fun k n h0 h1 a J=>lp k 38 42 (cB (cR (cL (cR (cR (cR (cR (cR (cR (cR (cR (cR (cR (Bu Tryz.f38)))))))))))))) n (Hk 0 257 [(1,qVi (some ⟨h0,0,none⟩)),(9,qVi (some ⟨h1,0,none⟩)),(13,qIi a)]) J
def C7:Nat->jD:=Aq fun k n h0 h1 a J=>lp k 38 58 (cB (cR (cL (cR (cR (cR (cR (cR (cR (cR (cR (cR (cR (cR (Bu Tryz.f38))))))))))))))) n (Hk 0 257 [(1,qVi (some ⟨h0,0,none⟩)),(9,qVi (some ⟨h1,0,none⟩)),(18,qIi a)]) J
def C8:Nat->jD:=Aq fun k n h0 h1 a J=>lp k 38 68 (cB (cR (cL (cR (cR (cR (cR (cR (cR (cR (cR (cR (cR (cR (cR (Bu Tryz.f38)))))))))))))))) n (Hk 0 257 [(1,qVi (some ⟨h0,0,none⟩)),(9,qVi (some ⟨h1,0,none⟩)),(19,qIi a)]) J
def KB:Nat->xh:=Aq fun k a b J=>fn P X H k 39 [qVi a,qVi b] J
def Ap:Nat->Oz:=Aq fun k a J=>fn P X H k 43 [qVi a] J
def Jr:Nat->Oz:=Aq fun k a J=>fn P X H k 44 [qVi a] J
def JW:Nat->Gs:=Aq fun k a b J=>fn P X H k 45 [qVi a,qIi b] J
def G7:Nat->Sq:=Aq fun k n b i1 a J=>lp k 45 12 (cB (cR (cL (cR (cR (cR (Bu Tryz.f45))))))) n (Hk 0 30 [(0,qVi b),(16,qIi i1),(17,qIi a)]) J
def Jq:Nat->Oz:=Aq fun k a J=>fn P X H k 46 [qVi a] J
def JV:Nat->Oz:=Aq fun k a J=>fn P X H k 47 [qVi a] J
def AF:Nat->Oz:=Aq fun k a J=>fn P X H k 49 [qVi a] J
def Bn:Nat->Gs:=Aq fun k a b J=>fn P X H k 50 [qVi a,qIi b] J
def BH:Nat->Gs:=Aq fun k a b J=>fn P X H k 51 [qVi a,qIi b] J
def Gt:Nat->Gs:=Aq fun k a b J=>fn P X H k 52 [qVi a,qIi b] J
def Dk:Nat->Gs:=Aq fun k a b J=>fn P X H k 53 [qVi a,qIi b] J
def AL:Nat->Gs:=Aq fun k a b J=>fn P X H k 54 [qVi a,qIi b] J
def AM:Nat->N6:=Aq fun k a b c J=>fn P X H k 55 [qVi a,qIi b,qIi c] J
def Hz:Nat->N6:=Aq fun k a b c J=>fn P X H k 56 [qVi a,qIi b,qIi c] J
def J9:Nat->zp:=Aq fun k a J=>fn P X H k 57 [qIi a] J
def I6:Nat->zp:=Aq fun k a J=>fn P X H k 58 [qIi a] J
def BB:Nat->Nv:=Aq fun k d a b c e J=>fn P X H k 59 [qVi d,.agg #[qIi a,qIi b,qIi c],qIi e] J
def Ck:Nat->Kz:=Aq fun k a b c d J=>fn P X H k 60 [qVi a,qIi b,qIi c,qIi d] J
def Eb:Nat->Gs:=Aq fun k a b J=>fn P X H k 61 [qVi a,qIi b] J
def GJ:Nat->Abg:=Aq fun k b a c J=>fn P X H k 62 [qVi b,.slice a.1 a.2.1 a.2.2,.bool c] J
def G3:Nat->WQ:=Aq fun k n d e b c a f J=>lp k 62 6 (cB (cR (cL (cR (cR (Bu Tryz.f62)))))) n (Hk 0 96 [(0,qVi d),(1,.slice e b c),(7,.slice a.1 a.2.1 a.2.2),(8,qIi f)]) J
def G4:Nat->zl:=Aq fun k n c h1 b a J=>lp k 62 30 (cB (cR (cL (cR (cB (cL (cR (cB (cB (cR (cR (cR (cB (cR (cB (cB (cR (cL (cR (cR (cR (Bu Tryz.f62)))))))))))))))))))))) n (Hk 0 96 [(0,qVi c),(7,.slice b.1 b.2.1 b.2.2),(12,qVi (some ⟨h1,0,none⟩)),(13,qIi a)]) J
def Fv:Nat->qT:=Aq fun k n f c g d e b a J=>lp k 62 22 (cB (cR (cR (cR (cB (cR (cB (cB (cR (cL (cR (cR (cR (Bu Tryz.f62)))))))))))))) n (Hk 0 96 [(0,qVi f),(2,.bool c),(7,.slice b.1 b.2.1 b.2.2),(10,.slice g d e),(11,qIi a)]) J
def H4:Nat->zi:=Aq fun k n c b a d J=>lp k 62 14 (cB (cR (cL (cR (cR (cR (Bu Tryz.f62))))))) n (Hk 0 96 [(0,qVi c),(2,.bool b),(7,.slice a.1 a.2.1 a.2.2),(9,qIi d)]) J
def BO:Nat->Oz:=Aq fun k a J=>fn P X H k 63 [qVi a] J
def Ez:Nat->tN:=Aq fun k n c a b i3 d e J=>lp k 63 18 (cB (cR (cL (cR (cR (cB (cL (cR (cB (cB (cR (cL (cR (cR (cR (Bu Tryz.f63)))))))))))))))) n (Hk 0 45 [(3,.slice c a b),(6,qIi i3),(7,.bool d),(8,qIi e)]) J
def Ey:Nat->WQ:=Aq fun k n d e b c a f J=>lp k 63 8 (cB (cR (cL (cR (cR (cR (Bu Tryz.f63))))))) n (Hk 0 45 [(0,qVi d),(3,.slice a.1 a.2.1 a.2.2),(4,.slice e b c),(5,qIi f)]) J
def DG:Nat->Kz:=Aq fun k d a b c J=>fn P X H k 64 [qVi d,.agg #[qIi a,qIi b,qIi c]] J
def Du:Nat->Oz:=Aq fun k a J=>fn P X H k 65 [qVi a] J
def Ha:Nat->Oz:=Aq fun k a J=>fn P X H k 66 [qVi a] J
def F4:Nat->zj:=Aq fun k n a b J=>lp k 66 8 (cB (cL (cR (cR (cR (Bu Tryz.f66)))))) n (Hk 0 18 [(0,qVi a),(4,qIi b)]) J
def Jp:Nat->Oz:=Aq fun k a J=>fn P X H k 67 [qVi a] J
def JA:Nat->zx:=Aq fun k a b c d J=>fn P X H k 68 [qVi a,qVi b,qVi c,qVi d] J
def Hc:Nat->jH:=Aq fun k n f g h c d h5 e a b J=>lp k 68 32 (cB (cR (cL (cR (cR (cR (cR (cR (cB (cL (cR (cB (cB (cR (cL (cR (cR (cR (cR (Bu Tryz.f68)))))))))))))))))))) n (Hk 0 221 [(0,qVi f),(2,qVi g),(10,.slice a.1 a.2.1 a.2.2),(11,.slice h c d),(13,qVi (some ⟨h5,0,none⟩)),(16,qVi (some ⟨e,0,none⟩)),(17,qIi b)]) J
def Ij:Nat->zh:=Aq fun k n h0 h1 a b J=>lp k 68 44 (cB (cR (cR (cR (cR (cR (cR (cR (cB (cL (cR (cB (cB (cR (cL (cR (cR (cR (cR (Bu Tryz.f68)))))))))))))))))))) n (Hk 0 221 [(10,.slice a.1 a.2.1 a.2.2),(13,qVi (some ⟨h0,0,none⟩)),(16,qVi (some ⟨h1,0,none⟩)),(20,qIi b)]) J
def EY:Nat->qY:=Aq fun k n e f g c d a b J=>lp k 68 12 (cB (cR (cL (cR (cR (cR (cR (Bu Tryz.f68)))))))) n (Hk 0 221 [(0,qVi e),(2,qVi f),(10,.slice a.1 a.2.1 a.2.2),(11,.slice g c d),(12,qIi b)]) J
def Gf:Nat->jI:=Aq fun k n e f g h i c d a b J=>lp k 68 56 (cB (cR (cL (cR (cR (cR (cR (cR (cR (Bu Tryz.f68)))))))))) n (Hk 0 221 [(0,qVi e),(1,qVi f),(2,qVi g),(3,qVi h),(10,.slice a.1 a.2.1 a.2.2),(21,.slice i c d),(22,qIi b)]) J
def Ht:Nat->xh:=Aq fun k a b J=>fn P X H k 69 [qVi a,qVi b] J
def Dm:Nat->zt:=Aq fun k b a J=>fn P X H k 70 [.int .u8 b,qVi a] J
def GI:Nat->mY:=Aq fun k a b c d J=>fn P X H k 71 [.agg #[.int .u8 a,.int .u8 b,.int .u8 c,.int .u8 d]] J
def DF:Nat->Kz:=Aq fun k a b c d J=>fn P X H k 72 [qVi a,qIi b,qIi c,qIi d] J
def GN:Nat->Abc:=Aq fun k b c a J=>fn P X H k 73 [qIi b,qIi c,qVi a] J
def L8:Nat->mY:=Aq fun k a b c d J=>fn P X H k 74 [.agg #[qIi a,qIi b,qIi c],qIi d] J
def GO:Nat->uf:=Aq fun k c d a b J=>fn P X H k 75 [qIi c,qIi d,qVi a,qVi b] J
def Ir:Nat->zs:=Aq fun k a b c d J=>fn P X H k 76 [.agg #[qIi a,qIi b,qIi c],qVi d] J
def Is:Nat->ue:=Aq fun k d e f a b c J=>fn P X H k 77 [qIi d,qIi e,qIi f,qVi a,qVi b,qVi c] J
def It:Nat->uf:=Aq fun k c d a b J=>fn P X H k 78 [qIi c,qIi d,qVi a,qVi b] J
def ES:Nat->N6:=Aq fun k a b c J=>fn P X H k 79 [qVi a,qIi b,qIi c] J
def AV:Nat->Oz:=Aq fun k a J=>fn P X H k 80 [qVi a] J
def EC:Nat->N6:=Aq fun k a b c J=>fn P X H k 81 [qVi a,qIi b,qIi c] J
def CQ:Nat->wN:=Aq fun k n b i1 a c d J=>lp k 81 6 (cB (cR (cL (cR (cR (Bu Tryz.f81)))))) n (Hk 0 44 [(0,qVi b),(2,qIi i1),(7,.slice a.1 a.2.1 a.2.2),(8,qIi c),(9,qIi d)]) J
def RJ:Nat->rp:=Aq fun k a b J=>fn P X H k 82 [.slice a.1 a.2.1 a.2.2,qIi b] J
def Kf:Nat->pa:=Aq fun k n c a b i3 d J=>lp k 82 4 (cB (cR (cL (cR (Bu Tryz.f82))))) n (Hk 0 19 [(0,.slice c a b),(1,qIi i3),(5,qIi d)]) J
def Ay:Nat->Gs:=Aq fun k a b J=>fn P X H k 83 [qVi a,qIi b] J
def EP:Nat->Sq:=Aq fun k n a i1 b J=>lp k 83 8 (cB (cR (cL (cR (cR (Bu Tryz.f83)))))) n (Hk 0 29 [(0,qVi a),(1,qIi i1),(5,qIi b)]) J
def Nj:Nat->xh:=Aq fun k a b J=>fn P X H k 85 [qVi a,qVi b] J
def Ki:Nat->zg:=Aq fun k n h0 i1 i2 a J=>lp k 85 18 (cB (cR (cR (cR (cB (cL (cR (cR (cB (cB (cR (cL (cR (cR (cR (Bu Tryz.f85)))))))))))))))) n (Hk 0 48 [(2,qVi (some ⟨h0,0,none⟩)),(5,.func (.func 166) #[] #[qVi (some ⟨h0,0,none⟩)]),(7,qIi i1),(32,qIi i2),(33,qIi a)]) J
def Kh:Nat->tJ:=Aq fun k n h0 d b c i4 a J=>lp k 85 10 (cB (cR (cL (cR (cR (cR (Bu Tryz.f85))))))) n (Hk 0 48 [(2,qVi (some ⟨h0,0,none⟩)),(5,.func (.func 166) #[] #[qVi (some ⟨h0,0,none⟩)]),(19,.slice d b c),(20,qIi i4),(21,qIi a)]) J
def Dq:Nat->Oz:=Aq fun k a J=>fn P X H k 90 [qVi a] J
def Ea:Nat->WQ:=Aq fun k n d e b c a f J=>lp k 90 8 (cB (cR (cL (cR (cR (cR (Bu Tryz.f90))))))) n (Hk 0 29 [(0,qVi d),(3,.slice a.1 a.2.1 a.2.2),(4,.slice e b c),(5,qIi f)]) J
def EJ:Nat->Kz:=Aq fun k d a b c J=>fn P X H k 91 [qVi d,.agg #[qIi a,qIi b,qIi c]] J
def Iw:Nat->zp:=Aq fun k a J=>fn P X H k 92 [qIi a] J
def Jk:Nat->Aa8:=Aq fun k n i0 h1 a J=>lp k 92 10 (cB (cR (cL (cR (cR (cR (Bu Tryz.f92))))))) n (Hk 0 31 [(0,qIi i0),(4,qVi (some ⟨h1,0,none⟩)),(5,qIi a)]) J
def Cj:Nat->Oz:=Aq fun k a J=>fn P X H k 93 [qVi a] J
def Ho:Nat->T_l:=Aq fun k a J=>fn P X H k 94 [.slice a.1 a.2.1 a.2.2] J
def Gb:Nat->Oz:=Aq fun k a J=>fn P X H k 95 [qVi a] J
def Fw:Nat->Oz:=Aq fun k a J=>fn P X H k 96 [qVi a] J
def I7:Nat->Kz:=Aq fun k d a b c J=>fn P X H k 97 [qVi d,.agg #[qIi a,qIi b,qIi c]] J
def EK:Nat->Nv:=Aq fun k d a b c e J=>fn P X H k 98 [qVi d,.agg #[qIi a,qIi b,qIi c],qIi e] J
def Mb:Nat->zp:=Aq fun k a J=>fn P X H k 99 [qIi a] J
def Hi:Nat->Nv:=Aq fun k d a b c e J=>fn P X H k 100 [qVi d,.agg #[qIi a,qIi b,qIi c],qIi e] J
def Bz:Nat->Gs:=Aq fun k a b J=>fn P X H k 101 [qVi a,qIi b] J
def FI:Nat->Gs:=Aq fun k a b J=>fn P X H k 102 [qVi a,qIi b] J
def Fq:Nat->Gs:=Aq fun k a b J=>fn P X H k 103 [qVi a,qIi b] J
def Gy:Nat->Gs:=Aq fun k a b J=>fn P X H k 104 [qVi a,qIi b] J
def HD:Nat->Kz:=Aq fun k a b c d J=>fn P X H k 105 [qVi a,qIi b,qIi c,qIi d] J
def Iq:Nat->N6:=Aq fun k a b c J=>fn P X H k 106 [qVi a,qIi b,qIi c] J
def Gx:Nat->Gs:=Aq fun k a b J=>fn P X H k 107 [qVi a,qIi b] J
def HX:Nat->Gs:=Aq fun k a b J=>fn P X H k 108 [qVi a,qIi b] J
def Nk:Nat->zw:=Aq fun k a b c d J=>fn P X H k 109 [qVi a,qVi b,.bool c,qIi d] J
def AO:Nat->Oz:=Aq fun k a J=>fn P X H k 129 [qVi a] J
def EM:Nat->Oz:=Aq fun k a J=>fn P X H k 130 [qVi a] J
def F5:Nat->Tn:=Aq fun k n d e b c i4 a J=>lp k 130 2 (cB (cR (Bu Tryz.f130))) n (Hk 0 18 [(0,qVi d),(8,.slice e b c),(9,qIi i4),(10,qIi a)]) J
def En:Nat->Oz:=Aq fun k a J=>fn P X H k 131 [qVi a] J
def GA:Nat->Tn:=Aq fun k n d e b c i4 a J=>lp k 131 16 (cB (cR (cL (cT (cR (cR (cR (cT (cR (cE (cR (cB (Bu Tryz.f131))))))))))))) n (Hk 0 61 [(0,qVi d),(48,.slice e b c),(49,qIi i4),(50,qIi a)]) J
def BN:Nat->T_l:=Aq fun k a J=>fn P X H k 132 [.slice a.1 a.2.1 a.2.2] J
def Bd:Nat->Gs:=Aq fun k a b J=>fn P X H k 133 [qVi a,qIi b] J
def DC:Nat->Gs:=Aq fun k a b J=>fn P X H k 134 [qVi a,qIi b] J
def BI:Nat->Gs:=Aq fun k a b J=>fn P X H k 135 [qVi a,qIi b] J
def Hn:Nat->zp:=Aq fun k a J=>fn P X H k 136 [qIi a] J
def CR:Nat->zv:=Aq fun k a b c d J=>fn P X H k 137 [qVi a,qIi b,qIi c,.bool d] J
def JB:Nat->zr:=Aq fun k a b J=>fn P X H k 138 [qIi a,qIi b] J
def Jo:Nat->Nv:=Aq fun k d a b c e J=>fn P X H k 139 [qVi d,.agg #[qIi a,qIi b,qIi c],qIi e] J
def FM:Nat->N6:=Aq fun k a b c J=>fn P X H k 140 [qVi a,qIi b,qIi c] J
def Cr:Nat->Oz:=Aq fun k a J=>fn P X H k 141 [qVi a] J
def CV:Nat->Kz:=Aq fun k a b c d J=>fn P X H k 142 [qVi a,qIi b,qIi c,qIi d] J
def D6:Nat->Kz:=Aq fun k a b c d J=>fn P X H k 143 [qVi a,qIi b,qIi c,qIi d] J
def IA:Nat->Gs:=Aq fun k a b J=>fn P X H k 144 [qVi a,qIi b] J
def D5:Nat->Abh:=Aq fun k b a c J=>fn P X H k 145 [qVi b,.slice a.1 a.2.1 a.2.2,qIi c] J
def GQ:Nat->mY:=Aq fun k a b c d J=>fn P X H k 146 [.agg #[qIi a,qIi b,qIi c],qIi d] J
def DN:Nat->Kz:=Aq fun k d a b c J=>fn P X H k 147 [qVi d,.agg #[qIi a,qIi b,qIi c]] J
def Bh:Nat->Oz:=Aq fun k a J=>fn P X H k 148 [qVi a] J
def Jn:Nat->Kz:=Aq fun k d a b c J=>fn P X H k 149 [qVi d,.agg #[qIi a,qIi b,qIi c]] J
def AZ:Nat->Oz:=Aq fun k a J=>fn P X H k 150 [qVi a] J
def Az:Nat->Oz:=Aq fun k a J=>fn P X H k 151 [qVi a] J
def Ig:Nat->Gs:=Aq fun k a b J=>fn P X H k 152 [qVi a,qIi b] J
def Gv:Nat->Sq:=Aq fun k n a i1 b J=>lp k 152 8 (cB (cR (cL (cR (cR (Bu Tryz.f152)))))) n (Hk 0 37 [(0,qVi a),(1,qIi i1),(6,qIi b)]) J
def Iz:Nat->zu:=Aq fun k d a b c J=>fn P X H k 153 [.slice d.1 d.2.1 d.2.2,.agg #[qIi a,qIi b,qIi c]] J
def DB:Nat->Gs:=Aq fun k a b J=>fn P X H k 154 [qVi a,qIi b] J
def NF:Nat->Rx:=Aq fun k s t e f g h i a b j l m n o p c d q u r J=>fn P X H k 155 [qVi s,qVi t,.agg #[qIi e,qIi f,qIi g,qIi h,qIi i,.slice a.1 a.2.1 a.2.2,.slice b.1 b.2.1 b.2.2,.bool j],.agg #[qIi l,qIi m,qIi n,qIi o,qIi p,.slice c.1 c.2.1 c.2.2,.slice d.1 d.2.1 d.2.2,.bool q],qIi u,.slice r.1 r.2.1 r.2.2] J
def Nw:Nat->xh:=Aq fun k a b J=>fn P X H k 156 [qVi a,qVi b] J
def G1:Nat->wQ:=Aq fun k n c d a b e J=>lp k 156 6 (cB (cR (cL (cR (cR (Bu Tryz.f156)))))) n (Hk 0 66 [(0,qVi c),(5,.slice d a b),(6,qIi e)]) J
def H3:Nat->Sq:=Aq fun k n a i1 b J=>lp k 156 22 (cB (cR (cB (cL (cR (cB (cB (cR (cL (cR (cR (cR (Bu Tryz.f156))))))))))))) n (Hk 0 66 [(0,qVi a),(7,qIi i1),(8,qIi b)]) J
def G2:Nat->zj:=Aq fun k n a b J=>lp k 156 16 (cB (cR (cL (cR (cR (cR (Bu Tryz.f156))))))) n (Hk 0 66 [(0,qVi a),(7,qIi b)]) J
def FG:Nat->zr:=Aq fun k a b J=>fn P X H k 157 [qIi a,qIi b] J
def EW:Nat->Gs:=Aq fun k a b J=>fn P X H k 158 [qVi a,qIi b] J
def CS:Nat->Gs:=Aq fun k a b J=>fn P X H k 159 [qVi a,qIi b] J
def DO:Nat->N6:=Aq fun k a b c J=>fn P X H k 160 [qVi a,qIi b,qIi c] J
def Fz:Nat->Sq:=Aq fun k n a i1 b J=>lp k 160 8 (cB (cR (cL (cR (cR (Bu Tryz.f160)))))) n (Hk 0 28 [(0,qVi a),(2,qIi i1),(8,qIi b)]) J
def Hv:Nat->zt:=Aq fun k b a J=>fn P X H k 166 [qIi b,qVi a] J
def CM:Nat->xg:=Aq fun k a b J=>fn P X H k 167 [.slice a.1 a.2.1 a.2.2,b] J
def Dd:Nat->Oz:=Aq fun k a J=>fn P X H k 168 [qVi a] J
def Cg:Nat->Gs:=Aq fun k a b J=>fn P X H k 174 [qVi a,qIi b] J
def Hm:Nat->bj:=Aq fun k a b c J=>fn P X H k 176 [.agg #[qIi a,qIi b,qIi c]] J
def FX:Nat->Gs:=Aq fun k a b J=>fn P X H k 177 [qVi a,qIi b] J
def Er:Nat->Sq:=Aq fun k n a i1 b J=>lp k 177 14 (cB (cR (cL (cR (cR (cR (Bu Tryz.f177))))))) n (Hk 0 35 [(0,qVi a),(1,qIi i1),(6,qIi b)]) J
def DA:Nat->Gs:=Aq fun k a b J=>fn P X H k 178 [qVi a,qIi b] J
def Hj:Nat->Oz:=Aq fun k a J=>fn P X H k 179 [qVi a] J
def Eu:Nat->Aa7:=Aq fun k n i0 a b J=>lp k 179 16 (cB (cR (cB (cL (cR (cB (cB (cR (cL (cR (cR (cR (Bu Tryz.f179))))))))))))) n (Hk 0 55 [(3,.slice a.1 a.2.1 a.2.2),(4,qIi i0),(5,qIi b)]) J
def Et:Nat->yx:=Aq fun k n b a c J=>lp k 179 10 (cB (cR (cL (cR (cR (cR (Bu Tryz.f179))))))) n (Hk 0 55 [(0,qVi b),(3,.slice a.1 a.2.1 a.2.2),(4,qIi c)]) J
def Ew:Nat->Aci:=Aq fun k n a b J=>lp k 179 24 (cB (cR (cL (cR (cR (cR (cR (Bu Tryz.f179)))))))) n (Hk 0 55 [(3,.slice a.1 a.2.1 a.2.2),(6,qIi b)]) J
def Ex:Nat->yx:=Aq fun k n b a c J=>lp k 179 32 (cB (cR (cL (cR (cR (cR (cR (cR (Bu Tryz.f179))))))))) n (Hk 0 55 [(0,qVi b),(3,.slice a.1 a.2.1 a.2.2),(7,qIi c)]) J
def FJ:Nat->Kz:=Aq fun k d a b c J=>fn P X H k 180 [qVi d,.agg #[qIi a,qIi b,qIi c]] J
def GZ:Nat->Oz:=Aq fun k a J=>fn P X H k 181 [qVi a] J
def Ix:Nat->Nv:=Aq fun k d a b c e J=>fn P X H k 182 [qVi d,.agg #[qIi a,qIi b,qIi c],qIi e] J
def Kg:Nat->Nv:=Aq fun k d a b c e J=>fn P X H k 183 [qVi d,.agg #[qIi a,qIi b,qIi c],qIi e] J
def ET:Nat->bj:=Aq fun k a b c J=>fn P X H k 184 [.agg #[qIi a,qIi b,qIi c]] J
def Ci:Nat->Kz:=Aq fun k a b c d J=>fn P X H k 185 [qVi a,qIi b,qIi c,qIi d] J
def EX:Nat->bj:=Aq fun k a b c J=>fn P X H k 186 [.agg #[qIi a,qIi b,qIi c]] J
def DK:Nat->N6:=Aq fun k a b c J=>fn P X H k 187 [qVi a,qIi b,qIi c] J
def Ff:Nat->Nv:=Aq fun k d e a b c J=>fn P X H k 188 [qVi d,qIi e,.agg #[qIi a,qIi b,qIi c]] J
def FD:Nat->Nv:=Aq fun k d e a b c J=>fn P X H k 189 [qVi d,qIi e,.agg #[qIi a,qIi b,qIi c]] J
def Oc:Nat->Oz:=Aq fun k a J=>fn P X H k 190 [qVi a] J
def BA:Nat->Gs:=Aq fun k a b J=>fn P X H k 191 [qVi a,qIi b] J
def Ji:Nat->Gs:=Aq fun k a b J=>fn P X H k 192 [qVi a,qIi b] J
def BM:Nat->N6:=Aq fun k a b c J=>fn P X H k 193 [qVi a,qIi b,qIi c] J
def Jf:Nat->N6:=Aq fun k a b c J=>fn P X H k 194 [qVi a,qIi b,qIi c] J
def Ga:Nat->Kz:=Aq fun k a b c d J=>fn P X H k 195 [qVi a,qIi b,qIi c,qIi d] J
def EF:Nat->Oz:=Aq fun k a J=>fn P X H k 196 [qVi a] J
def G0:Nat->Gs:=Aq fun k a b J=>fn P X H k 197 [qVi a,qIi b] J
def G5:Nat->Gs:=Aq fun k a b J=>fn P X H k 198 [qVi a,qIi b] J
def Jj:Nat->yy:=Aq fun k a b c J=>fn P X H k 199 [qVi a,qIi b,.bool c] J
def JR:Nat->N6:=Aq fun k a b c J=>fn P X H k 200 [qVi a,qIi b,qIi c] J
def CF:Nat->Oz:=Aq fun k a J=>fn P X H k 201 [qVi a] J
def CN:Nat->Gs:=Aq fun k a b J=>fn P X H k 203 [qVi a,qIi b] J
def IK:Nat->bj:=Aq fun k a b c J=>fn P X H k 204 [.agg #[qIi a,qIi b,qIi c]] J
def Cb:Nat->Gs:=Aq fun k a b J=>fn P X H k 215 [qVi a,qIi b] J
def Js:Nat->Oz:=Aq fun k a J=>fn P X H k 216 [qVi a] J
def EH:Nat->Tn:=Aq fun k n d e b c i4 a J=>lp k 216 8 (cB (cR (cL (cR (cR (cT (cR (cL (Bu Tryz.f216))))))))) n (Hk 0 80 [(0,qVi d),(31,.slice e b c),(32,qIi i4),(33,qIi a)]) J
def Jh:Nat->Gs:=Aq fun k a b J=>fn P X H k 217 [qVi a,qIi b] J
def FH:Nat->qS:=Aq fun k n h0 e c d i4 b a J=>lp k 217 8 (cB (cR (cL (cR (cR (cR (Bu Tryz.f217))))))) n (Hk 0 40 [(5,qVi (some ⟨h0,0,none⟩)),(7,.slice b.1 b.2.1 b.2.2),(18,.slice e c d),(19,qIi i4),(20,qIi a)]) J
def CO:Nat->N6:=Aq fun k a b c J=>fn P X H k 218 [qVi a,qIi b,qIi c] J
def Ik:Nat->Oz:=Aq fun k a J=>fn P X H k 219 [qVi a] J
def G8:Nat->Tn:=Aq fun k n d e b c i4 a J=>lp k 219 10 (cB (cR (cL (cR (cR (cR (Bu Tryz.f219))))))) n (Hk 0 76 [(0,qVi d),(24,.slice e b c),(25,qIi i4),(26,qIi a)]) J
def G9:Nat->Sq:=Aq fun k n b i1 a J=>lp k 219 22 (cB (cR (cL (cR (cR (cR (cR (Bu Tryz.f219)))))))) n (Hk 0 76 [(0,qVi b),(46,qIi i1),(47,qIi a)]) J
def Fj:Nat->Gs:=Aq fun k a b J=>fn P X H k 220 [qVi a,qIi b] J
def E6:Nat->Gs:=Aq fun k a b J=>fn P X H k 221 [qVi a,qIi b] J
def C9:Nat->rp:=Aq fun k a b J=>fn P X H k 222 [.slice a.1 a.2.1 a.2.2,qIi b] J
def EV:Nat->bj:=Aq fun k a b c J=>fn P X H k 223 [.agg #[qIi a,qIi b,qIi c]] J
def LU:Nat->N6:=Aq fun k a b c J=>fn P X H k 224 [qVi a,qIi b,qIi c] J
def De:Nat->Kz:=Aq fun k d a b c J=>fn P X H k 225 [qVi d,.agg #[qIi a,qIi b,qIi c]] J
def CG:Nat->Gs:=Aq fun k a b J=>fn P X H k 226 [qVi a,qIi b] J
def Mc:Nat->rp:=Aq fun k a b J=>fn P X H k 227 [.slice a.1 a.2.1 a.2.2,qIi b] J
def Jm:Nat->pa:=Aq fun k n c a b i3 d J=>lp k 227 4 (cB (cL (cR (cR (Bu Tryz.f227))))) n (Hk 0 45 [(0,.slice c a b),(1,qIi i3),(5,qIi d)]) J
def EG:Nat->Acn:=Aq fun k a b J=>fn P X H k 228 [.slice a.1 a.2.1 a.2.2,qVi b] J
def HE:Nat->Gs:=Aq fun k a b J=>fn P X H k 230 [qVi a,qIi b] J
def BZ:Nat->Oz:=Aq fun k a J=>fn P X H k 231 [qVi a] J
def Hp:Nat->xg:=Aq fun k a b J=>fn P X H k 237 [.slice a.1 a.2.1 a.2.2,b] J
def Ds:Nat->jG:=Aq fun k n c a b d i4 e J=>lp k 237 4 (cB (cR (cL (cR (Bu Tryz.f237))))) n (Hk 0 19 [(0,.slice c a b),(1,d),(7,qIi i4),(8,qIi e)]) J
def Eg:Nat->Oz:=Aq fun k a J=>fn P X H k 239 [qVi a] J
def Je:Nat->yy:=Aq fun k a b c J=>fn P X H k 242 [qVi a,qIi b,.bool c] J
def Gu:Nat->Gs:=Aq fun k a b J=>fn P X H k 243 [qVi a,qIi b] J
def FY:Nat->Sq:=Aq fun k n a i1 b J=>lp k 243 4 (cB (cL (cR (cR (Bu Tryz.f243))))) n (Hk 0 42 [(0,qVi a),(1,qIi i1),(5,qIi b)]) J
def I8:Nat->Aco:=Aq fun k b a J=>fn P X H k 244 [b,qVi a] J
def Di:Nat->qZ:=Aq fun k n v0 i1 d b c i5 a J=>lp k 244 8 (cB (cR (cR (cB (cL (cR (cR (cB (cB (cR (Bu Tryz.f244))))))))))) n (Hk 0 58 [(0,v0),(3,qIi i1),(4,.slice d b c),(27,qIi i5),(28,qIi a)]) J
def Dh:Nat->zm:=Aq fun k n v0 h1 i2 a J=>lp k 244 2 (cB (cR (Bu Tryz.f244))) n (Hk 0 58 [(0,v0),(19,.slice (some ⟨h1,0,none⟩) 3 3),(20,qIi i2),(21,qIi a)]) J
def Iy:Nat->Gs:=Aq fun k a b J=>fn P X H k 245 [qVi a,qIi b] J
def Ii:Nat->tK:=Aq fun k n a i1 i2 b J=>lp k 245 10 (cB (cL (cR (cB (cL (cR (cB (cB (cR (cL (cR (Bu Tryz.f245)))))))))))) n (Hk 0 32 [(0,qVi a),(1,qIi i1),(5,qIi i2),(6,qIi b)]) J
def Ih:Nat->Sq:=Aq fun k n a i1 b J=>lp k 245 4 (cB (cR (cL (cR (Bu Tryz.f245))))) n (Hk 0 32 [(0,qVi a),(1,qIi i1),(5,qIi b)]) J
def DY:Nat->Kz:=Aq fun k a b c d J=>fn P X H k 246 [qVi a,qIi b,qIi c,qIi d] J
def Cu:Nat->tK:=Aq fun k n a i1 i2 b J=>lp k 246 12 (cB (cR (cL (cR (cR (cR (Bu Tryz.f246))))))) n (Hk 0 78 [(0,qVi a),(1,qIi i1),(2,qIi i2),(9,qIi b)]) J
def Cv:Nat->il:=Aq fun k n b i1 i2 i3 a J=>lp k 246 22 (cB (cR (cL (cR (cR (cR (cR (Bu Tryz.f246)))))))) n (Hk 0 78 [(0,qVi b),(1,qIi i1),(2,qIi i2),(3,qIi i3),(10,qIi a)]) J
def ND:Nat->Nv:=Aq fun k d a b c e J=>fn P X H k 247 [qVi d,.agg #[qIi a,qIi b,qIi c],qIi e] J
def Jl:Nat->wK:=Aq fun k n h0 d b c a J=>lp k 247 14 (cB (cR (cR (cR (cB (cL (cR (cB (cB (cR (cL (cR (Bu Tryz.f247))))))))))))) n (Hk 0 50 [(4,qVi (some ⟨h0,0,none⟩)),(9,.slice d b c),(10,qIi a)]) J
def GR:Nat->zk:=Aq fun k n b i1 a c J=>lp k 247 4 (cB (cR (cL (cR (Bu Tryz.f247))))) n (Hk 0 50 [(0,qVi b),(2,qIi i1),(4,qVi (some ⟨a,0,none⟩)),(8,qIi c)]) J
def Gw:Nat->N6:=Aq fun k a b c J=>fn P X H k 248 [qVi a,qIi b,qIi c] J
def Cn:Nat->bj:=Aq fun k a b c J=>fn P X H k 249 [.agg #[qIi a,qIi b,qIi c]] J
def FE:Nat->ru:=Aq fun k e f g a b c d J=>fn P X H k 250 [qVi e,qIi f,qIi g,.agg #[qIi a,qIi b],.agg #[qIi c,qIi d]] J
def Fs:Nat->wO:=Aq fun k n c i1 b i3 a J=>lp k 250 16 (cB (cR (cL (cR (cR (Bu Tryz.f250)))))) n (Hk 0 74 [(0,qVi c),(1,qIi i1),(9,qVi (some ⟨b,0,none⟩)),(53,qIi i3),(54,qIi a)]) J
def Iv:Nat->ug:=Aq fun k d e a b c f J=>fn P X H k 251 [qVi d,qIi e,.agg #[qIi a,qIi b,qIi c],qIi f] J
def Dp:Nat->wM:=Aq fun k n c i1 i2 b a J=>lp k 251 20 (cB (cR (cL (cR (cR (cR (cR (Bu Tryz.f251)))))))) n (Hk 0 113 [(0,qVi c),(1,qIi i1),(3,qIi i2),(6,qVi (some ⟨b,0,none⟩)),(10,qIi a)]) J
def H2:Nat->jQ:=Aq fun k i c d e f g a b h J=>fn P X H k 252 [qVi i,.agg #[qIi c,qIi d,qIi e,qIi f,qIi g,.slice a.1 a.2.1 a.2.2,.slice b.1 b.2.1 b.2.2,.bool h]] J
def EE:Nat->jF:=Aq fun k n a h1 b J=>lp k 252 4 (cB (cL (cR (cR (Bu Tryz.f252))))) n (Hk 0 51 [(0,qVi a),(3,qVi (some ⟨h1,0,none⟩)),(4,qIi b)]) J
def Jd:Nat->Kz:=Aq fun k a b c d J=>fn P X H k 253 [qVi a,qIi b,qIi c,qIi d] J
def ED:Nat->il:=Aq fun k n b i1 i2 i3 a J=>lp k 253 20 (cB (cR (cL (cR (cR (cR (cR (Bu Tryz.f253)))))))) n (Hk 0 96 [(0,qVi b),(1,qIi i1),(2,qIi i2),(3,qIi i3),(10,qIi a)]) J
def Lt:Nat->bj:=Aq fun k a b c J=>fn P X H k 254 [.agg #[qIi a,qIi b,qIi c]] J
def Fi:Nat->Abe:=Aq fun k b c a J=>fn P X H k 255 [qVi b,qIi c,.slice a.1 a.2.1 a.2.2] J
def G6:Nat->N6:=Aq fun k a b c J=>fn P X H k 256 [qVi a,qIi b,qIi c] J
def FL:Nat->Kz:=Aq fun k a b c d J=>fn P X H k 263 [qVi a,qIi b,qIi c,qIi d] J
def Fx:Nat->il:=Aq fun k n b i1 i2 i3 a J=>lp k 263 14 (cB (cR (cL (cR (cR (cR (Bu Tryz.f263))))))) n (Hk 0 42 [(0,qVi b),(1,qIi i1),(3,qIi i2),(31,qIi i3),(32,qIi a)]) J
def KR:Nat->Gs:=Aq fun k a b J=>fn P X H k 264 [qVi a,qIi b] J
def Ie:Nat->wL:=Aq fun k n c i1 i2 b a J=>lp k 264 8 (cB (cR (cL (cR (cR (cR (Bu Tryz.f264))))))) n (Hk 0 38 [(0,qVi c),(1,qIi i1),(7,.slice b.1 b.2.1 b.2.2),(21,qIi i2),(22,qIi a)]) J
def Gm:Nat->Oz:=Aq fun k a J=>fn P X H k 265 [qVi a] J
def Co:Nat->qW:=Aq fun k n e f c d i4 b a J=>lp k 265 4 (cB (cR (cL (cR (Bu Tryz.f265))))) n (Hk 0 70 [(0,qVi e),(2,.slice b.1 b.2.1 b.2.2),(15,.slice f c d),(16,qIi i4),(17,qIi a)]) J
def DD:Nat->Tn:=Aq fun k n d e b c i4 a J=>lp k 265 22 (cB (cR (cR (cR (Bu Tryz.f265))))) n (Hk 0 70 [(0,qVi d),(60,.slice e b c),(61,qIi i4),(62,qIi a)]) J
def CP:Nat->Gs:=Aq fun k a b J=>fn P X H k 266 [qVi a,qIi b] J
def Ke:Nat->yz:=Aq fun k a b c J=>fn P X H k 267 [qVi a,qIi b,c] J
def DP:Nat->Oz:=Aq fun k a J=>fn P X H k 268 [qVi a] J
def JC:Nat->rp:=Aq fun k a b J=>fn P X H k 269 [.slice a.1 a.2.1 a.2.2,qIi b] J
def ER:Nat->tO:=Aq fun k n c a b i3 i4 d J=>lp k 269 4 (cB (cR (cL (cR (Bu Tryz.f269))))) n (Hk 0 19 [(0,.slice c a b),(1,qIi i3),(7,qIi i4),(8,qIi d)]) J
def Fo:Nat->T_:=Aq fun k  J=>fn P X H k 270 [] J
def FC:Nat->Oz:=Aq fun k a J=>fn P X H k 271 [qVi a] J
def Fm:Nat->Gs:=Aq fun k a b J=>fn P X H k 272 [qVi a,qIi b] J
def Dg:Nat->Sq:=Aq fun k n a i1 b J=>lp k 272 6 (cB (cR (cL (cR (cR (Bu Tryz.f272)))))) n (Hk 0 37 [(0,qVi a),(6,qIi i1),(7,qIi b)]) J
def DL:Nat->Gs:=Aq fun k a b J=>fn P X H k 277 [qVi a,qIi b] J
def Cw:Nat->Gs:=Aq fun k a b J=>fn P X H k 278 [qVi a,qIi b] J
def Fh:Nat->Gs:=Aq fun k a b J=>fn P X H k 279 [qVi a,qIi b] J
def IL:Nat->zp:=Aq fun k a J=>fn P X H k 280 [qIi a] J
def Fg:Nat->Gs:=Aq fun k a b J=>fn P X H k 281 [qVi a,qIi b] J
def Iu:Nat->Gs:=Aq fun k a b J=>fn P X H k 282 [qVi a,qIi b] J
def Dn:Nat->qX:=Aq fun k n d e b c a f g J=>lp k 282 14 (cB (cR (cL (cR (cR (cR (cR (cR (Bu Tryz.f282))))))))) n (Hk 0 77 [(0,qVi d),(5,.slice a.1 a.2.1 a.2.2),(6,qIi f),(7,.slice e b c),(8,qIi g)]) J
def MC:Nat->zp:=Aq fun k a J=>fn P X H k 283 [qIi a] J
def DQ:Nat->xg:=Aq fun k a b J=>fn P X H k 284 [.slice a.1 a.2.1 a.2.2,b] J
def GM:Nat->zr:=Aq fun k a b J=>fn P X H k 285 [.agg #[qIi a,qIi b]] J
def Gz:Nat->Gs:=Aq fun k a b J=>fn P X H k 286 [qVi a,qIi b] J
def DI:Nat->Sq:=Aq fun k n a i1 b J=>lp k 286 12 (cB (cL (cR (cR (cR (cR (Bu Tryz.f286))))))) n (Hk 0 49 [(0,qVi a),(1,qIi i1),(5,qIi b)]) J
def Jc:Nat->Gs:=Aq fun k a b J=>fn P X H k 287 [qVi a,qIi b] J
def Gl:Nat->zt:=Aq fun k b a J=>fn P X H k 288 [qIi b,qVi a] J
def HG:Nat->Gs:=Aq fun k a b J=>fn P X H k 289 [qVi a,qIi b] J
def GP:Nat->Gs:=Aq fun k a b J=>fn P X H k 292 [qVi a,qIi b] J
def DZ:Nat->tL:=Aq fun k n b i1 a c J=>lp k 292 6 (cB (cR (cL (cR (cR (Bu Tryz.f292)))))) n (Hk 0 43 [(0,qVi b),(1,qIi i1),(5,.slice a.1 a.2.1 a.2.2),(6,qIi c)]) J
def JT:Nat->yz:=Aq fun k a b c J=>fn P X H k 296 [qVi a,qIi b,c] J
def Ee:Nat->tM:=Aq fun k n d i1 c i3 a b J=>lp k 296 18 (cB (cR (cL (cR (cR (cR (cR (cR (Bu Tryz.f296))))))))) n (Hk 0 70 [(0,qVi d),(1,qIi i1),(7,qVi (some ⟨c,0,none⟩)),(11,qIi a),(43,qIi i3),(44,qIi b)]) J
def EL:Nat->xg:=Aq fun k a b J=>fn P X H k 297 [.slice a.1 a.2.1 a.2.2,b] J
def Ca:Nat->jG:=Aq fun k n c a b d i4 e J=>lp k 297 4 (cB (cR (cL (cR (Bu Tryz.f297))))) n (Hk 0 19 [(0,.slice c a b),(1,d),(7,qIi i4),(8,qIi e)]) J
def I9:Nat->N6:=Aq fun k a b c J=>fn P X H k 298 [qVi a,qIi b,qIi c] J
def Fy:Nat->Sq:=Aq fun k n a i1 b J=>lp k 298 8 (cB (cR (cL (cR (cR (Bu Tryz.f298)))))) n (Hk 0 30 [(0,qVi a),(2,qIi i1),(8,qIi b)]) J
def Hh:Nat->Gs:=Aq fun k a b J=>fn P X H k 317 [.agg #[],qVi a,qIi b] J
def DX:Nat->Abf:=Aq fun k b a J=>fn P X H k 318 [qVi b,.slice a.1 a.2.1 a.2.2] J
def Ep:Nat->N6:=Aq fun k a b c J=>fn P X H k 319 [qVi a,qIi b,qIi c] J
def CL:Nat->mR:=Aq fun k n i0 i1 e c d i5 b a J=>lp k 319 12 (cB (cR (cR (cB (cL (cR (cR (cB (cB (cR (cL (cR (cR (Bu Tryz.f319)))))))))))))) n (Hk 0 55 [(1,qIi i0),(2,qIi i1),(7,.slice b.1 b.2.1 b.2.2),(25,.slice e c d),(26,qIi i5),(27,qIi a)]) J
def CK:Nat->jE:=Aq fun k n e i1 i2 f c d i6 b a J=>lp k 319 6 (cB (cR (cL (cR (cR (Bu Tryz.f319)))))) n (Hk 0 55 [(0,qVi e),(1,qIi i1),(2,qIi i2),(7,.slice b.1 b.2.1 b.2.2),(14,.slice f c d),(15,qIi i6),(16,qIi a)]) J
def Fl:Nat->Oz:=Aq fun k a J=>fn P X H k 320 [qVi a] J
def Df:Nat->jF:=Aq fun k n a h1 b J=>lp k 320 4 (cB (cR (cL (cR (Bu Tryz.f320))))) n (Hk 0 32 [(0,qVi a),(2,qVi (some ⟨h1,0,none⟩)),(4,qIi b)]) J
def D9:Nat->Oz:=Aq fun k a J=>fn P X H k 321 [qVi a] J
def Ch:Nat->tL:=Aq fun k n c i1 b a J=>lp k 321 6 (cB (cR (cL (cR (cR (Bu Tryz.f321)))))) n (Hk 0 39 [(0,qVi c),(3,.slice b.1 b.2.1 b.2.2),(9,qIi i1),(10,qIi a)]) J
def H0:Nat->Gs:=Aq fun k a b J=>fn P X H k 322 [qVi a,qIi b] J
def EB:Nat->mS:=Aq fun k n e h1 d f b c i6 a J=>lp k 322 14 (cB (cR (cL (cR (cR (cR (cR (cR (Bu Tryz.f322))))))))) n (Hk 0 40 [(0,qVi e),(6,qVi (some ⟨h1,0,none⟩)),(7,.func (.func 324) #[] #[qVi (some ⟨h1,0,none⟩),qVi (some ⟨d,0,none⟩)]),(19,.slice f b c),(20,qIi i6),(21,qIi a)]) J
def Ft:Nat->Gs:=Aq fun k a b J=>fn P X H k 323 [qVi a,qIi b] J
def DE:Nat->Abd:=Aq fun k c a b J=>fn P X H k 324 [qIi c,qVi a,qVi b] J
def HB:Nat->TV:=Aq fun k f args J=>IW P (fn P X H k) f args J
def II:Nat->TV:=Aq fun k f args J=>IW P (fn P X H k) f args J
def IH:Nat->TV:=Aq fun k f args J=>IW P (fn P X H k) f args J
def Ip:Nat->TV:=Aq fun k f args J=>IW P (fn P X H k) f args J
def Io:Nat->TV:=Aq fun k f args J=>IW P (fn P X H k) f args J
def LV:Nat->TV:=Aq fun k f args J=>IW P (fn P X H k) f args J
def Jb:Nat->TV:=Aq fun k f args J=>IW P (fn P X H k) f args J
def IJ:Nat->TV:=Aq fun k f args J=>IW P (fn P X H k) f args J
def GL:Nat->TV:=Aq fun k f args J=>IW P (fn P X H k) f args J
def KQ:Nat->TV:=Aq fun k f args J=>IW P (fn P X H k) f args J
end
section
variable [AJ]
end
end
section
set_option maxRecDepth 100000
section
variable [AJ]
theorem SN (k n s e u t c J):Fc k (n+1) s e u t c J =
 (bif decide (c<(e:Int)) then some (decide (c<40),J) else some (false,J)).bind fun b=>bif b.1 then (if 0<=c/\c<e then s.bind fun a=>(Aj .u8 b.2 a.block (a.off+c.toNat*10)).bind fun g=>(Aj .u8 b.2 a.block (a.off+c.toNat*10+1)).bind fun h=>(Aj .u8 b.2 a.block (a.off+c.toNat*10+1+1)).bind fun i=>(Aj .u8 b.2 a.block (a.off+c.toNat*10+1+1+1)).bind fun j=>(Aj .u8 b.2 a.block (a.off+c.toNat*10+1+1+1+1)).bind fun l=>(Aj .u8 b.2 a.block (a.off+c.toNat*10+1+1+1+1+1)).bind fun m=>(Aj .u8 b.2 a.block (a.off+c.toNat*10+1+1+1+1+1+1)).bind fun o=>(Aj .u8 b.2 a.block (a.off+c.toNat*10+1+1+1+1+1+1+1)).bind fun p=>(Aj .u8 b.2 a.block (a.off+c.toNat*10+1+1+1+1+1+1+1+1)).bind fun q=>(Aj .u8 b.2 a.block (a.off+c.toNat*10+1+1+1+1+1+1+1+1+1)).bind fun r=>(Jg k t g h i j l m o p q r b.2).bind fun d=>(Dl d.1).bind fun f=>bif !f then (some (.ret,[.bool false],d.2)) else (Fc k n s e u t (Ar (c+1)) d.2) else none) else (some (.exit 0,[],b.2)):=by
 simp only[Fc,Jg,Ac]; kernel_rfl
theorem MS (k n c h J):Fe k (n+1) c h J =
 bif decide (h<2) then (gLd B9 c 1 J fun f=>(Bt k f J).bind fun a=>(Bk .i64 a.1).bind fun d=>bif d != 0 then (some (.ret,[.bool false],a.2)) else (gLd B9 c 1 a.2 fun g=>(Bm k g a.2).bind fun b=>GV b.1 fun i e=>bif e != 0 then (some (.ret,[.bool false],b.2)) else (Fe k n c (Ar (h+1)) b.2))) else (some (.exit 2,[],J)):=by
 simp only[Fe,Bm,Bt,Ac]; kernel_rfl
theorem Wf (k j l c d e f g u J):JS (k+1) j l c d e f g u J =
 Ae J (.cells [.int .u8 j,.int .u8 l,.slice c.1 c.2.1 c.2.2,.slice d.1 d.2.1 d.2.2,.slice e.1 e.2.1 e.2.2,.slice f.1 f.2.1 f.2.2,.slice g.1 g.2.1 g.2.2] D0 true) fun h1 s2=>(Aj .u8 s2 h1 0).bind fun L=>(Aj .u8 s2 h1 (0+1)).bind fun N=>(Be s2 h1 (0+1+1)).bind fun A=>(Be s2 h1 (0+1+1+1)).bind fun B=>(Be s2 h1 (0+1+1+1+1)).bind fun C=>(Be s2 h1 (0+1+1+1+1+1)).bind fun D=>(Be s2 h1 (0+1+1+1+1+1+1)).bind fun E=>(L5 k L N (A.1,A.2.1,A.2.2) (B.1,B.2.1,B.2.2) (C.1,C.2.1,C.2.2) (D.1,D.2.1,D.2.2) (E.1,E.2.1,E.2.2) s2).bind fun o=>(HR o.1).bind fun b=>(Lq P Ej (qVi b) (qVi none)).bind fun z=>bif z then (some (.bool false,o.2)) else ((Fc k k u.1 u.2.1 u.2.2 b (0:Int) o.2).bind fun h=>if h.1 = .exit 0 then (gLd B9 b 1 h.2.2 fun G=>(Bm k G h.2.2).bind fun p=>GV p.1 fun M F=>bif F != 0 then (some (.bool false,p.2)) else ((Fe k k b (0:Int) p.2).bind fun a=>if a.1 = .exit 2 then (gLd B9 b 0 a.2.2 fun H=>gLd B9 H 0 a.2.2 fun I=>(B8 k I a.2.2).bind fun i=>(Eo i.1).bind fun m=>HH b a.2.2 i.2 (gLd B9 b 0 i.2 fun K=>(BJ k K i.2).bind fun r=>(Eo r.1).bind fun n=>(GH k (m.1,m.2.1,m.2.2) (n.1,n.2.1,n.2.2) r.2).bind fun q=>(Dl q.1).bind fun v=>(bif v then (Lz k q.2).bind fun s=>(Dl s.1).bind fun w=>some (w,s.2) else some (false,q.2)).bind fun t=>some (.bool t.1,t.2))) else if a.1 = .ret then (oS a.2.1 fun x=>some (.bool x,a.2.2)) else none)) else if h.1 = .ret then (oS h.2.1 fun y=>some (.bool y,h.2.2)) else none):=by
 simp only[B8,GH,BJ,JS,Fc,Fe,Lz,L5,Bm,Ac]; kernel_rfl
theorem Yb (k h i a b c d e J):L5 (k+1) h i a b c d e J =
 Ae J (.cells [.int .u8 h,.int .u8 i,.slice a.1 a.2.1 a.2.2,.slice b.1 b.2.1 b.2.2,.slice c.1 c.2.1 c.2.2,.slice d.1 d.2.1 d.2.2,.slice e.1 e.2.1 e.2.2] D0 true) fun h1 s2=>(Aj .u8 s2 h1 0).bind fun z=>(Aj .u8 s2 h1 (0+1)).bind fun A=>(Be s2 h1 (0+1+1)).bind fun q=>(Be s2 h1 (0+1+1+1)).bind fun r=>(Be s2 h1 (0+1+1+1+1)).bind fun s=>(Be s2 h1 (0+1+1+1+1+1)).bind fun t=>(Be s2 h1 (0+1+1+1+1+1+1)).bind fun u=>(HC k z A (q.1,q.2.1,q.2.2) (r.1,r.2.1,r.2.2) (s.1,s.2.1,s.2.2) (t.1,t.2.1,t.2.2) (u.1,u.2.1,u.2.2) s2).bind fun f=>(HR f.1).bind fun g=>(Lq P Hq (qVi g) (qVi none)).bind fun n=>bif n then (some (qVi none,f.2)) else (gLd B9 g 0 f.2 fun w=>gLd B9 g 1 f.2 fun x=>(KB k w x f.2).bind fun j=>Tk j.1 fun m v=>(Lq P DU (qVi m) (qVi none)).bind fun o=>(bif o then some (true,j.2) else some (v != 0,j.2)).bind fun l=>bif l.1 then (some (qVi none,l.2)) else (Ae l.2 (.cells [qVi g,qVi m,.slice none 0 0,.slice none 0 0,qIi 0] AN true) fun p y=>some (qVi (some ⟨p,0,none⟩),y))):=by
 simp only[HC,L5,KB,Ac]; kernel_rfl
theorem P7 (k c J):Bt (k+1) c J =
 (Ap k c J).bind fun a=>(HR a.1).bind fun e=>(Jr k e a.2).bind fun b=>(Bk .i64 b.1).bind fun d=>some (qIi d,b.2):=by
 simp only[Bt,Ap,Jr,Ac]; kernel_rfl
theorem Qq (k c d J):Cd (k+1) c d J =
 (Ap k c J).bind fun a=>(HR a.1).bind fun g=>(JW k g d a.2).bind fun b=>GV b.1 fun e f=>some (.tuple #[qIi e,qIi f],b.2):=by
 simp only[Cd,Ap,JW,Ac]; kernel_rfl
theorem P6 (k c J):Bs (k+1) c J =
 (Ap k c J).bind fun a=>(HR a.1).bind fun e=>(Jq k e a.2).bind fun b=>(Bk .i64 b.1).bind fun d=>some (qIi d,b.2):=by
 simp only[Bs,Ap,Jq,Ac]; kernel_rfl
theorem OO (k n d b h e c i a J):HY k (n+1) d b h e c i a J =
 bif decide (a<(b:Int)) then (if 0<=a/\a<b then d.bind fun f=>(Aj .i64 J f.block (f.off+a.toNat*1)).bind fun j=>if 0<=a/\a<c then e.bind fun g=>(Aj .i64 J g.block (g.off+a.toNat*1)).bind fun l=>bif j != l then (some (.ret,[.bool false],J)) else (HY k n d b h e c i (Ar (a+1)) J) else none else none) else (some (.exit 0,[],J)):=by
 simp only[HY,Ac]; kernel_rfl
theorem ZL (k b c J):GH (k+1) b c J =
 bif ((b.2.1:Nat):Int) != ((c.2.1:Nat):Int) then (some (.bool false,J)) else ((HY k k b.1 b.2.1 b.2.2 c.1 c.2.1 c.2.2 (0:Int) J).bind fun a=>if a.1 = .exit 0 then (some (.bool true,a.2.2)) else if a.1 = .ret then (oS a.2.1 fun d=>some (.bool d,a.2.2)) else none):=by
 simp only[GH,HY,Ac]; kernel_rfl
theorem Qo (k d J):Db (k+1) d J =
 (Ap k d J).bind fun b=>(HR b.1).bind fun e=>(JV k e b.2).bind fun c=>(Eo c.1).bind fun a=>some (.slice a.1 a.2.1 a.2.2,c.2):=by
 simp only[Db,Ap,JV,Ac]; kernel_rfl
theorem OP (k n b h1 d J):HZ k (n+1) b h1 d J =
 (AF k b J).bind fun e=>(Bk .i64 e.1).bind fun m=>bif decide (d<m) then ((Be e.2 h1 (0+0)).bind fun g=>(Bn k b d e.2).bind fun l=>(Bk .i64 l.1).bind fun o=>(BH k b d l.2).bind fun c=>(Bk .i64 c.1).bind fun h=>Ae c.2 (.cells [qIi o,qIi h] As true) fun f i=>(AH P As (g.1,g.2.1,g.2.2) (some ⟨f,0,none⟩,1,1) i).bind fun a=>(CY a.2 h1 (0+0) (.slice a.1.1 a.1.2.1 a.1.2.2)).bind fun j=>HZ k n b h1 (Ar (d+1)) j) else (some (.exit 0,[],e.2)):=by
 simp only[AF,BH,Bn,HZ,Ac]; kernel_rfl
theorem OR (k n i h1 d J):Ib k (n+1) i h1 d J =
 (Aj .i64 J h1 (0+2+0)).bind fun f=>bif decide (d<f) then ((Aj .i64 J h1 (0+0)).bind fun g=>(AM k i g d J).bind fun c=>GV c.1 fun h m=>(Be c.2 h1 (0+5)).bind fun b=>Ae c.2 (.cells [qIi h] Ak true) fun e j=>(AH P Ak (b.1,b.2.1,b.2.2) (some ⟨e,0,none⟩,1,1) j).bind fun a=>(CY a.2 h1 (0+5) (.slice a.1.1 a.1.2.1 a.1.2.2)).bind fun l=>Ib k n i h1 (Ar (d+1)) l) else (some (.exit 4,[],J)):=by
 simp only[AM,Ib,Ac]; kernel_rfl
theorem OS (k n i h1 b J):Ic k (n+1) i h1 b J =
 (Aj .i64 J h1 (0+2+1)).bind fun f=>bif decide (b<f) then ((Aj .i64 J h1 (0+0)).bind fun g=>(Hz k i g b J).bind fun d=>GV d.1 fun h m=>(Be d.2 h1 (0+6)).bind fun c=>Ae d.2 (.cells [qIi h] Ak true) fun e j=>(AH P Ak (c.1,c.2.1,c.2.2) (some ⟨e,0,none⟩,1,1) j).bind fun a=>(CY a.2 h1 (0+6) (.slice a.1.1 a.1.2.1 a.1.2.2)).bind fun l=>Ic k n i h1 (Ar (b+1)) l) else (some (.exit 6,[],J)):=by
 simp only[Hz,Ic,Ac]; kernel_rfl
theorem OQ (k n h h1 u m U d J):Ia k (n+1) h h1 u m U d J =
 bif decide (d<(m:Int)) then (if 0<=d/\d<m then u.bind fun j=>(Aj .i64 J j.block (j.off+d.toNat*1)).bind fun y=>if 0<=d/\d<m then u.bind fun l=>(Aj .i64 J l.block (l.off+d.toNat*1)).bind fun z=>(Gt k h z J).bind fun o=>(Dl o.1).bind fun v=>Ae o.2 (.cells [qIi 0,qIi 0,qIi 0,qIi 0,qIi 0,.slice none 0 0,.slice none 0 0,.bool false] Ab true) fun a M=>(H5 M a 0 [qIi y,qIi 0,qIi 0,qIi 0,qIi 0,.slice none 0 0,.slice none 0 0,.bool v]).bind fun s=>(Aj .i64 s a (0+0)).bind fun A=>(Dk k h A s).bind fun p=>GV p.1 fun B V=>(CY p.2 a (0+1) (qIi B)).bind fun t=>(Aj .i64 t a (0+0)).bind fun C=>(AL k h C t).bind fun q=>(az q.1).bind fun i=>if i.length=2 then i.head?.bind fun S=>My S fun D E F=>i.tail.head?.bind fun T=>(Bk .i64 T).bind fun W=>(H5 q.2 a (0+2) [qIi D,qIi E,qIi F]).bind fun N=>(Ib k k h a (0:Int) N).bind fun r=>if r.1 = .exit 4 then ((Ic k k h a (0:Int) r.2.2).bind fun b=>if b.1 = .exit 6 then ((Be b.2.2 h1 (0+1)).bind fun e=>(Aj .i64 b.2.2 a 0).bind fun G=>(Aj .i64 b.2.2 a (0+1)).bind fun H=>(Aj .i64 b.2.2 a (0+1+1)).bind fun I=>(Aj .i64 b.2.2 a (0+1+1+1)).bind fun K=>(Aj .i64 b.2.2 a (0+1+1+1+1)).bind fun L=>(Be b.2.2 a (0+1+1+1+1+1)).bind fun f=>(Be b.2.2 a (0+1+1+1+1+1+1)).bind fun g=>(Vy b.2.2 a (0+1+1+1+1+1+1+1)).bind fun w=>Ae b.2.2 (.cells [qIi G,qIi H,qIi I,qIi K,qIi L,.slice f.1 f.2.1 f.2.2,.slice g.1 g.2.1 g.2.2,.bool w] Ab true) fun x O=>(AH P Ab (e.1,e.2.1,e.2.2) (some ⟨x,0,none⟩,1,1) O).bind fun c=>(CY c.2 h1 (0+1) (.slice c.1.1 c.1.2.1 c.1.2.2)).bind fun Q=>Ia k n h h1 u m U (Ar (d+1)) Q) else none) else none else none else none else none) else (some (.exit 2,[],J)):=by
 simp only[Dk,Gt,AL,Ia,Ib,Ic,Ac]; kernel_rfl
theorem ZM (k e J):Es (k+1) e J =
 (Dt k e J).bind fun g=>(Bk .i64 g.1).bind fun h=>Ae g.2 (.cells [.slice none 0 0,.slice none 0 0,.slice none 0 0,qIi h] Dc true) fun f i=>(HZ k k e f (0:Int) i).bind fun b=>if b.1 = .exit 0 then ((B8 k e b.2.2).bind fun c=>(Eo c.1).bind fun a=>(Ia k k e f a.1 a.2.1 a.2.2 (0:Int) c.2).bind fun d=>if d.1 = .exit 2 then (some (qVi (some ⟨f,0,none⟩),d.2.2)) else none) else none:=by
 simp only[B8,Dt,Es,HZ,Ia,Ac]; kernel_rfl
theorem Ya (k J):Lz (k+1)  J =
 (J9 k (4:Int) J).bind fun r1=>Tk r1.1 fun p2 n3=>(I6 k (1:Int) r1.2).bind fun r4=>Tk r4.1 fun p5 n6=>(Lq P Fb (qVi p2) (qVi none)).bind fun e7=>(bif e7 then some (true,r4.2) else (Lq P FO (qVi p5) (qVi none)).bind fun e8=>some (e8,r4.2)).bind fun r9=>(bif r9.1 then some (true,r9.2) else some (n3 != 0,r9.2)).bind fun e=>(bif e.1 then some (true,e.2) else some (n6 != 0,e.2)).bind fun f=>bif f.1 then (some (.bool false,f.2)) else ((KB k p2 p5 f.2).bind fun g=>Tk g.1 fun a O=>(Lq P DU (qVi a) (qVi none)).bind fun L=>(bif L then some (true,g.2) else some (O != 0,g.2)).bind fun h=>bif h.1 then (some (.bool false,h.2)) else ((BB k a (1:Int) (0:Int) (0:Int) (0:Int) h.2).bind fun w=>GV w.1 fun b Q=>(BB k a (0:Int) (0:Int) (0:Int) (0:Int) w.2).bind fun i=>GV i.1 fun v S=>(bif Q != 0 then some (true,i.2) else some (S != 0,i.2)).bind fun j=>(bif j.1 then some (true,j.2) else (Bc k p5 (0:Int) (0:Int) (0:Int) b j.2).bind fun x=>(Bk .i64 x.1).bind fun T=>some (T != 0,x.2)).bind fun l=>(bif l.1 then some (true,l.2) else (Ck k a b (0:Int) v l.2).bind fun y=>(Bk .i64 y.1).bind fun U=>some (U != 0,y.2)).bind fun m=>(bif m.1 then some (true,m.2) else (Bt k a m.2).bind fun z=>(Bk .i64 z.1).bind fun V=>some (V != 0,z.2)).bind fun n=>(bif n.1 then some (true,n.2) else (Db k a n.2).bind fun A=>(Eo A.1).bind fun c=>Ae A.2 (.cells [qIi b] Ak true) fun M ac=>(GH k (c.1,c.2.1,c.2.2) (some ⟨M,0,none⟩,1,1) ac).bind fun B=>(Dl B.1).bind fun I=>some (!I,B.2)).bind fun o=>bif o.1 then (some (.bool false,o.2)) else ((Cd k a (1:Int) o.2).bind fun p=>GV p.1 fun W X=>(bif W != 1 then some (true,p.2) else some (X != 0,p.2)).bind fun q=>(bif q.1 then some (true,q.2) else (Db k a q.2).bind fun C=>(Eo C.1).bind fun d=>Ae C.2 (.cells [qIi v] Ak true) fun N ad=>(GH k (d.1,d.2.1,d.2.2) (some ⟨N,0,none⟩,1,1) ad).bind fun D=>(Dl D.1).bind fun K=>some (!K,D.2)).bind fun r=>(bif r.1 then some (true,r.2) else (Eb k a b r.2).bind fun E=>(Bk .i64 E.1).bind fun Y=>some (Y != 2,E.2)).bind fun s=>bif s.1 then (some (.bool false,s.2)) else ((Bm k a s.2).bind fun t=>GV t.1 fun ae Z=>(bif Z == 0 then (Bs k a t.2).bind fun F=>(Bk .i64 F.1).bind fun aa=>some (aa == 0,F.2) else some (false,t.2)).bind fun u=>(bif u.1 then (E7 k a u.2).bind fun G=>(Bk .i64 G.1).bind fun ab=>some (ab == 0,G.2) else some (false,u.2)).bind fun H=>some (.bool H.1,H.2))))):=by
 simp only[J9,GH,Lz,I6,Bc,BB,Eb,Bm,E7,Db,Bs,Bt,Cd,Ck,KB,Ac]; kernel_rfl
theorem TI (k a J):GY (k+1) a J =
 gLd B9 a 0 J fun s=>(BJ k s J).bind fun i=>FQ J i.2 ((Eo i.1).bind fun j=>(DM k a (j.1,j.2.1,j.2.2) i.2).bind fun g=>FQ i.2 g.2 ((Eo g.1).bind fun l=>gLd B9 a 0 g.2 fun t=>gLd B9 t 0 g.2 fun o=>(Dt k o g.2).bind fun e=>(Bk .i64 e.1).bind fun m=>a.bind fun b=>(CY e.2 b.block (b.off+2) (.slice l.1 l.2.1 l.2.2)).bind fun q=>a.bind fun c=>(CY q c.block (c.off+3) (.slice none 0 0)).bind fun r=>a.bind fun d=>(CY r d.block (d.off+4) (qIi m)).bind fun h=>gLd B9 a 1 h fun p=>(Bt k p h).bind fun f=>(Bk .i64 f.1).bind fun n=>some (.bool (n == 0),f.2))):=by
 simp only[Dt,BJ,DM,GY,Bt,Ac]; kernel_rfl
theorem SL (k e J):BJ (k+1) e J =
 gLd B9 e 0 J fun h=>(Es k h J).bind fun d=>(HR d.1).bind fun i=>HH e J d.2 (gLd B9 e 1 d.2 fun j=>(BW k j d.2).bind fun f=>(HR f.1).bind fun l=>(BO k l f.2).bind fun g=>(Eo g.1).bind fun a=>(GJ k i (a.1,a.2.1,a.2.2) true g.2).bind fun c=>(Eo c.1).bind fun b=>some (.slice b.1 b.2.1 b.2.2,c.2)):=by
 simp only[Es,BW,BJ,BO,GJ,Ac]; kernel_rfl
theorem TU (k l a b c h J):Bc (k+1) l a b c h J =
 Ae J (.cells [qIi a,qIi b,qIi c] Am true) fun h1 s2=>(Aj .i64 s2 h1 0).bind fun m=>(Aj .i64 s2 h1 (0+1)).bind fun n=>(Aj .i64 s2 h1 (0+1+1)).bind fun o=>(DG k l m n o s2).bind fun e=>Tk e.1 fun q j=>bif j != 0 then (some (qIi j,e.2)) else ((bif decide (h<0) then some (true,e.2) else (bif h == 0 then (Aj .i64 e.2 h1 (0+0)).bind fun p=>some (p == 2,e.2) else some (false,e.2)).bind fun g=>some (g.1,g.2)).bind fun d=>bif d.1 then (some (qIi 1,d.2)) else (q.bind fun f=>(CY d.2 f.block f.off (qIi h)).bind fun i=>some (qIi 0,i))):=by
 simp only[Bc,DG,Ac]; kernel_rfl
theorem MD (k o a J):CE (k+1) o a J =
 Ae J (.cells [qIi 0,qIi 0,qIi 0] Am true) fun h1 s2=>if (40:Int)=0 then none else bif decide (((if (0:Int)>a then (0:Int) else a).tmod (40:Int))<(24:Int)) then (gLd B9 o 3 s2 fun p=>(Du k p s2).bind fun m=>(Bk .i64 m.1).bind fun l=>if l=0 then none else if (4:Int)=0 then none else (H5 m.2 h1 0 [qIi 0,qIi (((if (0:Int)>a then (0:Int) else a).tmod (40:Int)).tmod l),qIi (Ar (((if (0:Int)>a then (0:Int) else a).tmod (40:Int)).tdiv (4:Int)))]).bind fun n=>(((Nm n h1 0 3).bind fun q=>some (.agg q.toArray)).bind fun r=>some [r]).bind fun d=>some (Lh d,n)) else (bif decide (((if (0:Int)>a then (0:Int) else a).tmod (40:Int))<(36:Int)) then ((H5 s2 h1 0 [qIi 1,qIi 0,qIi (Ar (((if (0:Int)>a then (0:Int) else a).tmod (40:Int))-(24:Int)))]).bind fun b=>(((Nm b h1 0 3).bind fun g=>some (.agg g.toArray)).bind fun h=>some [h]).bind fun e=>some (Lh e,b)) else ((H5 s2 h1 0 [qIi 2,qIi 0,qIi (Ar (((if (0:Int)>a then (0:Int) else a).tmod (40:Int))-(36:Int)))]).bind fun c=>(((Nm c h1 0 3).bind fun i=>some (.agg i.toArray)).bind fun j=>some [j]).bind fun f=>some (Lh f,c))):=by
 simp only[CE,Du,Ac]; kernel_rfl
theorem KA (k c J):Bm (k+1) c J =
 (Ap k c J).bind fun a=>(HR a.1).bind fun f=>(Ha k f a.2).bind fun b=>GV b.1 fun d e=>some (.tuple #[qIi d,qIi e],b.2):=by
 simp only[Bm,Ap,Ha,Ac]; kernel_rfl
theorem P5 (k c J):E7 (k+1) c J =
 (Ap k c J).bind fun a=>(HR a.1).bind fun e=>(Jp k e a.2).bind fun b=>(Bk .i64 b.1).bind fun d=>some (qIi d,b.2):=by
 simp only[E7,Ap,Jp,Ac]; kernel_rfl
theorem Vf (k c i j l m n o p q r s J):Jg (k+1) c i j l m n o p q r s J =
 Ae J (.cells [.int .u8 i,.int .u8 j,.int .u8 l,.int .u8 m,.int .u8 n,.int .u8 o,.int .u8 p,.int .u8 q,.int .u8 r,.int .u8 s] Oo true) fun h1 s2=>(Aj .u8 s2 h1 (0+8)).bind fun n3=>if (4:Int)=0 then none else (bif (n3.tmod (4:Int)) == (1:Int) then gLd B9 c 1 s2 fun p5=>(Bs k p5 s2).bind fun r6=>(Bk .i64 r6.1).bind fun n7=>some (n7 == 0,r6.2) else some (false,s2)).bind fun w=>bif w.1 then ((GY k c w.2).bind fun r9=>(Dl r9.1).bind fun E=>some (.bool E,r9.2)) else ((Aj .u8 w.2 h1 (0+8)).bind fun I=>if (4:Int)=0 then none else (bif (I.tmod (4:Int)) == (2:Int) then some (true,w.2) else (Aj .u8 w.2 h1 (0+8)).bind fun K=>if (4:Int)=0 then none else some ((K.tmod (4:Int)) == (1:Int),w.2)).bind fun b=>bif b.1 then (gLd B9 c 0 b.2 fun Y=>gLd B9 Y 0 b.2 fun Z=>(Es k Z b.2).bind fun d=>FQ b.2 d.2 ((HR d.1).bind fun aa=>gLd B9 c 0 d.2 fun ab=>gLd B9 ab 1 d.2 fun ac=>(BW k ac d.2).bind fun g=>(HR g.1).bind fun ad=>gLd B9 c 1 g.2 fun ae=>(Aj .u8 g.2 h1 (0+9)).bind fun L=>if (6:Int)=0 then none else (Cd k ae (Ar ((1:Int)+((Ar (L)).tmod (6:Int)))) g.2).bind fun e=>GV e.1 fun am M=>gLd B9 c 0 e.2 fun af=>gLd B9 af 0 e.2 fun ag=>(Es k ag e.2).bind fun f=>FQ e.2 f.2 ((HR f.1).bind fun x=>gLd B9 c 0 f.2 fun ah=>gLd B9 ah 1 f.2 fun ai=>(BW k ai f.2).bind fun z=>(HR z.1).bind fun y=>(JA k aa ad x y z.2).bind fun t=>vC t.1 fun H N=>(bif M == 0 then some (N == 0,t.2) else some (false,t.2)).bind fun u=>(bif u.1 then some (((H.2.1:Nat):Int) == (0:Int),u.2) else some (false,u.2)).bind fun h=>(bif h.1 then gLd B9 c 1 h.2 fun aj=>(Bs k aj h.2).bind fun v=>(Bk .i64 v.1).bind fun O=>(bif O == 2 then some (true,v.2) else (Ht k x y v.2).bind fun A=>(Dl A.1).bind fun F=>some (F,A.2)).bind fun B=>some (B.1,B.2) else some (false,h.2)).bind fun C=>some (.bool C.1,C.2)))) else (gLd B9 c 0 b.2 fun ak=>(FF k c b.2).bind fun a=>pv a.1 fun f60 f61 f62=>HH c b.2 a.2 (HH (some ⟨h1,0,none⟩) b.2 a.2 ((Aj .u8 a.2 h1 (0+0)).bind fun P=>(Aj .u8 a.2 h1 (0+0+1)).bind fun Q=>(Aj .u8 a.2 h1 (0+0+1+1)).bind fun S=>(Aj .u8 a.2 h1 (0+0+1+1+1)).bind fun T=>(Aj .u8 a.2 h1 (0+0+1+1+1+1)).bind fun U=>(Aj .u8 a.2 h1 (0+0+1+1+1+1+1)).bind fun V=>(Aj .u8 a.2 h1 (0+0+1+1+1+1+1+1)).bind fun W=>(Aj .u8 a.2 h1 (0+0+1+1+1+1+1+1+1)).bind fun X=>(GX k ak (f60) (f61) (f62) P Q S T U V W X a.2).bind fun D=>(Dl D.1).bind fun G=>some (.bool G,D.2))))):=by
 simp only[Es,BW,GX,GY,Jg,FF,JA,Ht,Bs,Cd,Ac]; kernel_rfl
theorem TE (k j n o p q r s t u v w x J):GX (k+1) j n o p q r s t u v w x J =
 Ae J (.cells [n,o,p] Hs true) fun h1 s2=>Ae s2 (.cells [.int .u8 q,.int .u8 r,.int .u8 s,.int .u8 t,.int .u8 u,.int .u8 v,.int .u8 w,.int .u8 x] NT true) fun g s4=>(BJ k j s4).bind fun r5=>(Eo r5.1).bind fun Y=>Ae r5.2 (.cells [.slice none 0 0] FR true) fun X s8=>(CY s8 X 0 (.slice Y.1 Y.2.1 Y.2.2)).bind fun s9=>(Aj .u8 s9 g (0+2)).bind fun Z=>if (36:Int)=0 then none else (CE k j ((Ar (Z)).tmod (36:Int)) s9).bind fun L=>My L.1 fun aa ab ac=>Ae L.2 (.cells [qIi 0,qIi 0,qIi 0] Am true) fun b br=>(H5 br b 0 [qIi aa,qIi ab,qIi ac]).bind fun C=>(Aj .u8 C g (0+1)).bind fun ad=>if (200:Int)=0 then none else (Dm k (ad.tmod (200:Int)) (some ⟨X,0,none⟩) C).bind fun i=>(Bk .i64 i.1).bind fun h=>HH (some ⟨g,0,none⟩) C i.2 ((Aj .u8 i.2 g (0+3)).bind fun ae=>(Dm k ae (some ⟨X,0,none⟩) i.2).bind fun z=>(Bk .i64 z.1).bind fun F=>gLd B9 j 0 z.2 fun bl=>(AL k bl h z.2).bind fun M=>(az M.1).bind fun y=>if y.length=2 then y.head?.bind fun bt=>My bt fun af ag ah=>y.tail.head?.bind fun bu=>(Bk .i64 bu).bind fun bv=>Ae M.2 (.cells [qIi 0,qIi 0,qIi 0] Ad true) fun e bs=>(H5 bs e 0 [qIi af,qIi ag,qIi ah]).bind fun a=>(Aj .u8 a g (0+0)).bind fun c=>if (9:Int)=0 then none else (fun (A R:Option (Value × Aa))=>bif (c.tmod (9:Int)) == (0:Int) then (bif (c.tmod (9:Int)) == (0:Int) then A else R) else (bif (c.tmod (9:Int)) == (1:Int) then A else R)) ((CW a h1 (0+0)).bind fun f38=>(Aj .u8 a g (0+4)).bind fun ai=>(Aj .u8 a g (0+4+1)).bind fun aj=>(Aj .u8 a g (0+4+1+1)).bind fun ak=>(Aj .u8 a g (0+4+1+1+1)).bind fun am=>(GI k ai aj ak am a).bind fun B=>My B.1 fun an ap aq=>HH (some ⟨h1,0,none⟩) a B.2 ((HB k f38 [.agg #[qIi an,qIi ap,qIi aq]] B.2).bind fun d=>GV d.1 fun ar G=>(bif G == 6 then some (true,d.2) else (bif G == 0 then gLd B9 j 1 d.2 fun bm=>(Aj .i64 d.2 b 0).bind fun au=>(Aj .i64 d.2 b (0+1)).bind fun av=>(Aj .i64 d.2 b (0+1+1)).bind fun aw=>(Bc k bm au av aw ar d.2).bind fun N=>(Bk .i64 N.1).bind fun ax=>some (ax == 0,N.2) else some (false,d.2)).bind fun O=>some (O.1,O.2)).bind fun P=>some (.bool P.1,P.2))) ((fun (A R:Option (Value × Aa))=>bif (c.tmod (9:Int)) == (2:Int) then (bif (c.tmod (9:Int)) == (2:Int) then A else R) else (bif (c.tmod (9:Int)) == (3:Int) then A else R)) ((Aj .i64 a e (0+0)).bind fun ay=>(bif ay == 0 then some (true,a) else (CW a h1 (0+1)).bind fun f60=>(Aj .u8 a g (0+2)).bind fun a0=>(Aj .i64 a e (0+0)).bind fun H=>if H=0 then none else (II k f60 [qIi h,qIi ((Ar (a0)).tmod H),qIi F] a).bind fun Q=>(Bk .i64 Q.1).bind fun a1=>some (a1 == 0,Q.2)).bind fun S=>some (.bool S.1,S.2)) (bif (c.tmod (9:Int)) == (4:Int) then (gLd B9 j 1 a fun bn=>(Aj .i64 a b 0).bind fun a2=>(Aj .i64 a b (0+1)).bind fun a3=>(Aj .i64 a b (0+1+1)).bind fun a4=>(Bc k bn a2 a3 a4 F a).bind fun T=>(Bk .i64 T.1).bind fun a5=>some (.bool (a5 == 0),T.2)) else ((fun (A R:Option (Value × Aa))=>bif (c.tmod (9:Int)) == (5:Int) then (bif (c.tmod (9:Int)) == (5:Int) then A else R) else (bif (c.tmod (9:Int)) == (6:Int) then A else R)) (gLd B9 j 1 a fun bo=>(Aj .i64 a b 0).bind fun a6=>(Aj .i64 a b (0+1)).bind fun a7=>(Aj .i64 a b (0+1+1)).bind fun a8=>(Bc k bo a6 a7 a8 (0:Int) a).bind fun U=>(Bk .i64 U.1).bind fun a9=>some (.bool (a9 == 0),U.2)) (bif (c.tmod (9:Int)) == (7:Int) then ((Aj .i64 a e (0+0)).bind fun ba=>bif ba == 0 then (some (.bool true,a)) else ((CW a h1 (0+2)).bind fun f81=>(Aj .u8 a g (0+2)).bind fun bb=>(Aj .i64 a e (0+0)).bind fun I=>if I=0 then none else (IH k f81 [qIi h,qIi ((Ar (bb)).tmod I)] a).bind fun f=>GV f.1 fun bc bd=>(bif bd == 0 then gLd B9 j 1 f.2 fun bp=>(Aj .i64 f.2 b 0).bind fun be=>(Aj .i64 f.2 b (0+1)).bind fun bg=>(Aj .i64 f.2 b (0+1+1)).bind fun bh=>(Bc k bp be bg bh bc f.2).bind fun V=>(Bk .i64 V.1).bind fun bi=>some (bi == 0,V.2) else some (false,f.2)).bind fun W=>some (.bool W.1,W.2))) else ((Aj .i64 a e (0+1)).bind fun bj=>(bif bj == 0 then some (true,a) else gLd B9 j 0 a fun bq=>(Aj .u8 a g (0+2)).bind fun bk=>(Aj .i64 a e (0+1)).bind fun K=>if K=0 then none else (Aj .u8 a g (0+3)).bind fun D=>(DF k bq h ((Ar (bk)).tmod K) (Ar ((Ar (D))-(100:Int))) a).bind fun l=>(Bk .i64 l.1).bind fun E=>some (E == 0,l.2)).bind fun m=>some (.bool m.1,m.2)))))) else none):=by
 simp only[HB,IH,II,DF,AL,GX,Dm,BJ,CE,GI,Bc,Ac]; kernel_rfl
theorem TJ (k g J):FF (k+1) g J =
 Ae J (.cells [qVi g] Ej true) fun h1 s2=>Ae s2 (.cells [.nilFunc,.nilFunc,.nilFunc] Hs true) fun f h=>Ae h (.cells [.nilFunc] 132 true) fun h5 i=>(CY i h5 0 (.func (.func 73) #[] #[qVi (some ⟨h1,0,none⟩)])).bind fun j=>Ae j (.cells [.nilFunc] 133 true) fun h8 l=>(CY l h8 0 (.func (.func 75) #[] #[qVi (some ⟨h1,0,none⟩),qVi (some ⟨h5,0,none⟩)])).bind fun c=>(H5 c f 0 [.func (.func 76) #[] #[qVi (some ⟨h1,0,none⟩)],.func (.func 77) #[] #[qVi (some ⟨h8,0,none⟩),qVi (some ⟨h5,0,none⟩),qVi (some ⟨h1,0,none⟩)],.func (.func 78) #[] #[qVi (some ⟨h8,0,none⟩),qVi (some ⟨h1,0,none⟩)]]).bind fun a=>(((Nm a f 0 3).bind fun d=>some (.agg d.toArray)).bind fun e=>some [e]).bind fun b=>some (Lh b,a):=by
 simp only[FF,Ac]; kernel_rfl
theorem LY (k n g h d l b c J):Fu k (n+1) g h d l b c J =
 bif decide (c<(d:Int)) then (gLd B9 g 0 J fun q=>gLd B9 q 0 J fun r=>if 0<=c/\c<d then h.bind fun j=>(Aj .i64 J j.block (j.off+c.toNat*1)).bind fun p=>(Dk k r p J).bind fun m=>GV m.1 fun f o=>Ae m.2 (.cells [qIi f] Ak true) fun e i=>(AH P Ak (b.1,b.2.1,b.2.2) (some ⟨e,0,none⟩,1,1) i).bind fun a=>Fu k n g h d l (a.1.1,a.1.2.1,a.1.2.2) (Ar (c+1)) a.2 else none) else (some (.exit 0,[.slice b.1 b.2.1 b.2.2],J)):=by
 simp only[Dk,Fu,Ac]; kernel_rfl
theorem TH (k d c J):DM (k+1) d c J =
 Ae J (.cells [] Ak true) fun h1 s2=>(Fu k k d c.1 c.2.1 c.2.2 (some ⟨h1,0,some 0⟩,0,0) (0:Int) s2).bind fun b=>if b.1 = .exit 0 then (So b.2.1 fun a=>some (.slice a.1 a.2.1 a.2.2,b.2.2)) else none:=by
 simp only[DM,Fu,Ac]; kernel_rfl
theorem Wa (k b J):B8 (k+1) b J =
 (AV k b J).bind fun a=>(Dl a.1).bind fun e=>bif !e then (some (.slice none 0 0,a.2)) else (gLd Be b 1 a.2 fun f=>(EC k b (0:Int) ((f.2.1:Nat):Int) a.2).bind fun d=>(Eo d.1).bind fun c=>some (.slice c.1 c.2.1 c.2.2,d.2)):=by
 simp only[B8,EC,AV,Ac]; kernel_rfl
theorem bO (k a c J):I0 (k+1) a c J =
 (RJ k (a.1,a.2.1,a.2.2) c J).bind fun b=>(Bk .i64 b.1).bind fun d=>some (.bool (decide (d>=0)),b.2):=by
 simp only[RJ,I0,Ac]; kernel_rfl
theorem SE (k b J):Dt (k+1) b J =
 (AV k b J).bind fun a=>(Dl a.1).bind fun c=>bif !c then (some (qIi 0,a.2)) else (gLd (Aj .i64) b 6 a.2 fun d=>some (qIi d,a.2)):=by
 simp only[Dt,AV,Ac]; kernel_rfl
theorem LX (k n q r g e s c J):Ed k (n+1) q r g e s c J =
 bif decide (c<(e:Int)) then (if 0<=c/\c<e then g.bind fun a=>(Aj .i64 J a.block (a.off+c.toNat*3)).bind fun h=>(Aj .i64 J a.block (a.off+c.toNat*3+1)).bind fun i=>(Aj .i64 J a.block (a.off+c.toNat*3+1+1)).bind fun j=>(I7 k q h i j J).bind fun d=>GV d.1 fun l t=>if 0<=c/\c<e then g.bind fun b=>(Aj .i64 d.2 b.block (b.off+c.toNat*3)).bind fun m=>(Aj .i64 d.2 b.block (b.off+c.toNat*3+1)).bind fun o=>(Aj .i64 d.2 b.block (b.off+c.toNat*3+1+1)).bind fun p=>(EK k r m o p l d.2).bind fun f=>(Bk .i64 f.1).bind fun u=>Ed k n q r g e s (Ar (c+1)) f.2 else none else none) else (some (.exit 0,[],J)):=by
 simp only[Ed,EK,I7,Ac]; kernel_rfl
theorem TD (k g J):BW (k+1) g J =
 (Cj k g J).bind fun m=>(Bk .i64 m.1).bind fun p=>(Iw k p m.2).bind fun j=>Tk j.1 fun i q=>bif q != 0 then (Ae j.2 (.cells [.slice none 0 0,.slice none 0 0,.slice none 0 0] BQ true) fun o r=>some (qVi (some ⟨o,0,none⟩),r)) else ((Gb k g j.2).bind fun n=>(Eo n.1).bind fun h=>(Ho k (h.1,h.2.1,h.2.2) n.2).bind fun d=>(Eo d.1).bind fun a=>i.bind fun c=>(CY d.2 c.block (c.off+2) (.slice a.1 a.2.1 a.2.2)).bind fun l=>(Fw k g l).bind fun e=>(Eo e.1).bind fun b=>(Ed k k g i b.1 b.2.1 b.2.2 (0:Int) e.2).bind fun f=>if f.1 = .exit 0 then (some (qVi i,f.2.2)) else none):=by
 simp only[BW,Ed,Iw,Ho,Cj,Fw,Gb,Ac]; kernel_rfl
theorem Lu (k n h0 h1 a J):C5 k (n+1) h0 h1 a J =
 (Be J h0 (0+2)).bind fun j=>(bif decide (a<((j.2.1:Nat):Int)) then some (decide (a<40),J) else some (false,J)).bind fun b=>bif b.1 then ((Be b.2 h0 (0+2)).bind fun g=>if 0<=a/\a<(g.2.1:Nat) then g.1.bind fun c=>(Aj .u8 b.2 c.block (c.off+a.toNat*4)).bind fun l=>(Aj .u8 b.2 c.block (c.off+a.toNat*4+1)).bind fun m=>(Aj .u8 b.2 c.block (c.off+a.toNat*4+1+1)).bind fun o=>(Aj .u8 b.2 c.block (c.off+a.toNat*4+1+1+1)).bind fun p=>(GI k l m o p b.2).bind fun d=>FQ b.2 d.2 (My d.1 fun q r s=>(Be d.2 h0 (0+2)).bind fun h=>if 0<=a/\a<(h.2.1:Nat) then h.1.bind fun f=>if 0<=(3:Int)/\(3:Int)<(4:Nat) then (Aj .u8 d.2 f.block (f.off+a.toNat*4+(3:Int).toNat*1)).bind fun t=>if (3:Int)=0 then none else (Hi k (some ⟨h1,0,none⟩) q r s ((Ar (t)).tmod (3:Int)) d.2).bind fun e=>(Dl e.1).bind fun i=>bif !i then (some (.ret,[qVi none],e.2)) else (C5 k n h0 h1 (Ar (a+1)) e.2) else none else none) else none) else (some (.exit 0,[],b.2)):=by
 simp only[C5,Hi,GI,Ac]; kernel_rfl
theorem Lv (k n h0 h1 a J):C6 k (n+1) h0 h1 a J =
 (Be J h0 (0+3)).bind fun i=>(bif decide (a<((i.2.1:Nat):Int)) then some (decide (a<20),J) else some (false,J)).bind fun b=>bif b.1 then ((Be b.2 h0 (0+3)).bind fun g=>if 0<=a/\a<(g.2.1:Nat) then g.1.bind fun f=>(Aj .u8 b.2 f.block (f.off+a.toNat*1)).bind fun j=>if (100:Int)=0 then none else (Bz k (some ⟨h1,0,none⟩) ((Ar (j)).tmod (100:Int)) b.2).bind fun c=>(Bk .i64 c.1).bind fun h=>(B9 c.2 h1 (0+2)).bind fun o=>(FI k o h c.2).bind fun d=>(Bk .i64 d.1).bind fun l=>HH (some ⟨h1,0,none⟩) c.2 d.2 ((B9 d.2 h1 (0+0)).bind fun p=>(Fq k p h d.2).bind fun e=>(Bk .i64 e.1).bind fun m=>bif l != m then (some (.ret,[qVi none],e.2)) else (C6 k n h0 h1 (Ar (a+1)) e.2)) else none) else (some (.exit 2,[],b.2)):=by
 simp only[Fq,C6,Bz,FI,Ac]; kernel_rfl
theorem Lw (k n h0 h1 a J):Cc k (n+1) h0 h1 a J =
 (Be J h0 (0+4)).bind fun u=>(bif decide (a<((u.2.1:Nat):Int)) then some (decide (a<120),J) else some (false,J)).bind fun b=>bif b.1 then ((Be b.2 h0 (0+4)).bind fun l=>if 0<=a/\a<(l.2.1:Nat) then l.1.bind fun c=>(Aj .u8 b.2 c.block (c.off+a.toNat*3)).bind fun v=>(Aj .u8 b.2 c.block (c.off+a.toNat*3+1)).bind fun w=>(Aj .u8 b.2 c.block (c.off+a.toNat*3+1+1)).bind fun x=>Ae b.2 (.cells [.int .u8 0,.int .u8 0,.int .u8 0] fE true) fun e I=>(H5 I e 0 [.int .u8 v,.int .u8 w,.int .u8 x]).bind fun s=>if 0<=(0:Int)/\(0:Int)<(3:Nat) then (Aj .u8 s e (0+(0:Int).toNat*1)).bind fun y=>if (100:Int)=0 then none else (Bz k (some ⟨h1,0,none⟩) ((Ar (y)).tmod (100:Int)) s).bind fun h=>(Bk .i64 h.1).bind fun m=>(B9 h.2 h1 (0+2)).bind fun H=>(Gy k H m h.2).bind fun p=>(az p.1).bind fun g=>if g.length=2 then g.head?.bind fun L=>My L fun z A B=>g.tail.head?.bind fun M=>(Bk .i64 M).bind fun C=>Ae p.2 (.cells [qIi 0,qIi 0,qIi 0] Ad true) fun f K=>(H5 K f 0 [qIi z,qIi A,qIi B]).bind fun j=>(bif C == 0 then (Aj .i64 j f (0+0)).bind fun D=>some (decide (D>0),j) else some (false,j)).bind fun d=>(bif d.1 then if 0<=(1:Int)/\(1:Int)<(3:Nat) then (Aj .u8 d.2 e (0+(1:Int).toNat*1)).bind fun E=>(Aj .i64 d.2 f (0+0)).bind fun o=>if o=0 then none else if 0<=(2:Int)/\(2:Int)<(3:Nat) then (Aj .u8 d.2 e (0+(2:Int).toNat*1)).bind fun F=>if (100:Int)=0 then none else (Bz k (some ⟨h1,0,none⟩) ((Ar (F)).tmod (100:Int)) d.2).bind fun q=>(Bk .i64 q.1).bind fun G=>(HD k (some ⟨h1,0,none⟩) m ((Ar (E)).tmod o) G q.2).bind fun r=>(Dl r.1).bind fun t=>some (!t,r.2) else none else none else some (false,d.2)).bind fun i=>bif i.1 then (some (.ret,[qVi none],i.2)) else (Cc k n h0 h1 (Ar (a+1)) i.2) else none else none else none) else (some (.exit 4,[],b.2)):=by
 simp only[Cc,Bz,HD,Gy,Ac]; kernel_rfl
theorem Lx (k n h0 h1 a J):C7 k (n+1) h0 h1 a J =
 (Be J h0 (0+5)).bind fun m=>(bif decide (a<((m.2.1:Nat):Int)) then some (decide (a<20),J) else some (false,J)).bind fun b=>bif b.1 then ((Be b.2 h0 (0+5)).bind fun h=>if 0<=a/\a<(h.2.1:Nat) then h.1.bind fun f=>if 0<=(0:Int)/\(0:Int)<(2:Nat) then (Aj .u8 b.2 f.block (f.off+a.toNat*2+(0:Int).toNat*1)).bind fun o=>(Be b.2 h0 (0+5)).bind fun i=>if 0<=a/\a<(i.2.1:Nat) then i.1.bind fun d=>if 0<=(1:Int)/\(1:Int)<(2:Nat) then (Aj .u8 b.2 d.block (d.off+a.toNat*2+(1:Int).toNat*1)).bind fun j=>if (100:Int)=0 then none else (Bz k (some ⟨h1,0,none⟩) ((Ar (j)).tmod (100:Int)) b.2).bind fun e=>(Bk .i64 e.1).bind fun l=>(Iq k (some ⟨h1,0,none⟩) (Ar (o)) l e.2).bind fun c=>(Dl c.1).bind fun g=>bif !g then (some (.ret,[qVi none],c.2)) else (C7 k n h0 h1 (Ar (a+1)) c.2) else none else none else none else none) else (some (.exit 6,[],b.2)):=by
 simp only[C7,Bz,Iq,Ac]; kernel_rfl
theorem Ly (k n h0 h1 b J):C8 k (n+1) h0 h1 b J =
 (Be J h0 (0+6)).bind fun i=>(bif decide (b<((i.2.1:Nat):Int)) then some (decide (b<8),J) else some (false,J)).bind fun a=>bif a.1 then ((Be a.2 h0 (0+6)).bind fun g=>if 0<=b/\b<(g.2.1:Nat) then g.1.bind fun f=>(Aj .u8 a.2 f.block (f.off+b.toNat*1)).bind fun j=>if (100:Int)=0 then none else (Bz k (some ⟨h1,0,none⟩) ((Ar (j)).tmod (100:Int)) a.2).bind fun c=>(Bk .i64 c.1).bind fun h=>(B9 c.2 h1 (0+2)).bind fun o=>(Gx k o h c.2).bind fun d=>(Bk .i64 d.1).bind fun l=>HH (some ⟨h1,0,none⟩) c.2 d.2 ((B9 d.2 h1 (0+0)).bind fun p=>(HX k p h d.2).bind fun e=>(Bk .i64 e.1).bind fun m=>bif l != m then (some (.ret,[qVi none],e.2)) else (C8 k n h0 h1 (Ar (b+1)) e.2)) else none) else (some (.exit 8,[],a.2)):=by
 simp only[HX,C8,Bz,Gx,Ac]; kernel_rfl
theorem SK (k m n d e f g h J):HC (k+1) m n d e f g h J =
 Ae J (.cells [.int .u8 m,.int .u8 n,.slice d.1 d.2.1 d.2.2,.slice e.1 e.2.1 e.2.2,.slice f.1 f.2.1 f.2.2,.slice g.1 g.2.1 g.2.2,.slice h.1 h.2.1 h.2.2] D0 true) fun h1 s2=>(Aj .u8 s2 h1 (0+0)).bind fun H=>if (23:Int)=0 then none else (Aj .u8 s2 h1 (0+1)).bind fun I=>if (4:Int)=0 then none else (J9 k (Ar ((2:Int)+((Ar (H)).tmod (23:Int)))) s2).bind fun M=>Tk M.1 fun K Q=>(I6 k (Ar ((1:Int)+((Ar (I)).tmod (4:Int)))) M.2).bind fun D=>Tk D.1 fun L A=>(Lq P Fb (qVi K) (qVi none)).bind fun y=>(bif y then some (true,D.2) else (Lq P FO (qVi L) (qVi none)).bind fun z=>some (z,D.2)).bind fun o=>(bif o.1 then some (true,o.2) else some (Q != 0,o.2)).bind fun p=>(bif p.1 then some (true,p.2) else some (A != 0,p.2)).bind fun q=>bif q.1 then (some (qVi none,q.2)) else (Ae q.2 (.cells [qVi K,qVi L,qVi none,qVi none] BP true) fun a E=>(Mb k (Ar ((2:Int)+((Ar (H)).tmod (23:Int)))) E).bind fun w=>Tk w.1 fun B N=>(CY w.2 a (0+2) (qVi B)).bind fun F=>(Iw k (Ar ((1:Int)+((Ar (I)).tmod (4:Int)))) F).bind fun x=>Tk x.1 fun C O=>(CY x.2 a (0+3) (qVi C)).bind fun G=>(C5 k k h1 a (0:Int) G).bind fun i=>if i.1 = .exit 0 then ((C6 k k h1 a (0:Int) i.2.2).bind fun j=>if j.1 = .exit 2 then ((Cc k k h1 a (0:Int) j.2.2).bind fun l=>if l.1 = .exit 4 then ((C7 k k h1 a (0:Int) l.2.2).bind fun b=>if b.1 = .exit 6 then ((C8 k k h1 a (0:Int) b.2.2).bind fun c=>if c.1 = .exit 8 then (some (qVi (some ⟨a,0,none⟩),c.2.2)) else if c.1 = .ret then (u_p c.2.1 fun r=>some (qVi r,c.2.2)) else none) else if b.1 = .ret then (u_p b.2.1 fun s=>some (qVi s,b.2.2)) else none) else if l.1 = .ret then (u_p l.2.1 fun t=>some (qVi t,l.2.2)) else none) else if j.1 = .ret then (u_p j.2.1 fun u=>some (qVi u,j.2.2)) else none) else if i.1 = .ret then (u_p i.2.1 fun v=>some (qVi v,i.2.2)) else none):=by
 simp only[J9,HC,C5,C6,Cc,C7,C8,Mb,Iw,I6,Ac]; kernel_rfl
theorem VD (k c d J):KB (k+1) c d J =
 (Nk k c d false (2:Int) J).bind fun a=>Tk a.1 fun f b=>bif b != 0 then (some (.tuple #[qVi none,qIi b],a.2)) else (Ae a.2 (.cells [qVi f] IE true) fun e g=>some (.tuple #[qVi (some ⟨e,0,none⟩),qIi 0],g)):=by
 simp only[KB,Nk,Ac]; kernel_rfl
theorem LB (k a J):Ap (k+1) a J =
 (Lq P DU (qVi a) (qVi none)).bind fun b=>bif b then (some (qVi none,J)) else (gLd B9 a 0 J fun c=>some (qVi c,J)):=by
 simp only[Ap,Ac]; kernel_rfl
theorem Vv (k a J):Jr (k+1) a J =
 (AO k a J).bind fun h=>(Dl h.1).bind fun m=>(bif !m then some (true,h.2) else gLd (Aj .i64) a 4 h.2 fun n=>some (n != 0,h.2)).bind fun g=>(bif g.1 then some (true,g.2) else gLd B9 a 0 g.2 fun o=>gLd B9 a 1 g.2 fun p=>(Nj k o p g.2).bind fun e=>(Dl e.1).bind fun i=>some (!i,e.2)).bind fun b=>bif b.1 then (some (qIi 5,b.2)) else (a.bind fun c=>(CY b.2 c.block (c.off+8) (qIi 0)).bind fun j=>a.bind fun d=>(CY j d.block (d.off+4) (qIi 1)).bind fun l=>(EM k a l).bind fun f=>W8 f.1 (some (qIi 0,f.2))):=by
 simp only[Nj,AO,Jr,EM,Ac]; kernel_rfl
theorem MW (k n b i1 a J):G7 k (n+1) b i1 a J =
 bif decide (a<i1) then (gLd (Aj .i64) b 4 J fun d=>bif d == 0 then (some (.ret,[qIi a,qIi 0],J)) else ((En k b J).bind fun c=>W8 c.1 (G7 k n b i1 (Ar (a+1)) c.2))) else (some (.exit 0,[],J)):=by
 simp only[G7,En,Ac]; kernel_rfl
theorem Wo (k e b J):JW (k+1) e b J =
 (AO k e J).bind fun c=>(Dl c.1).bind fun f=>bif !f then (some (.tuple #[qIi 0,qIi 5],c.2)) else ((bif decide (b<1) then some (true,c.2) else some (decide (b>10000),c.2)).bind fun d=>bif d.1 then (some (.tuple #[qIi 0,qIi 1],d.2)) else ((G7 k k e b (0:Int) d.2).bind fun a=>if a.1 = .exit 0 then (some (.tuple #[qIi b,qIi 0],a.2.2)) else if a.1 = .ret then (jt a.2.1 fun g h=>some (.tuple #[qIi g,qIi h],a.2.2)) else none)):=by
 simp only[AO,JW,G7,Ac]; kernel_rfl
theorem Vt (k b J):Jq (k+1) b J =
 (AO k b J).bind fun a=>(Dl a.1).bind fun c=>bif !c then (some (qIi (-1:Int),a.2)) else (gLd (Aj .i64) b 4 a.2 fun d=>some (qIi d,a.2)):=by
 simp only[AO,Jq,Ac]; kernel_rfl
theorem Wm (k d J):JV (k+1) d J =
 (AO k d J).bind fun a=>(Dl a.1).bind fun f=>bif !f then (some (.slice none 0 0,a.2)) else (gLd Be d 6 a.2 fun b=>(BN k (b.1,b.2.1,b.2.2) a.2).bind fun e=>(Eo e.1).bind fun c=>some (.slice c.1 c.2.1 c.2.2,e.2)):=by
 simp only[BN,JV,AO,Ac]; kernel_rfl
theorem SF (k b J):AF (k+1) b J =
 (AV k b J).bind fun a=>(Dl a.1).bind fun c=>bif !c then (some (qIi 0,a.2)) else (gLd Be b 0 a.2 fun d=>some (qIi ((d.2.1:Nat):Int),a.2)):=by
 simp only[AF,AV,Ac]; kernel_rfl
theorem NB (k c a J):Bn (k+1) c a J =
 (bif decide (a<0) then some (true,J) else (AF k c J).bind fun f=>(Bk .i64 f.1).bind fun g=>some (decide (a>=g),f.2)).bind fun b=>bif b.1 then (some (qIi (-1:Int),b.2)) else (gLd Be c 0 b.2 fun e=>if 0<=a/\a<(e.2.1:Nat) then e.1.bind fun d=>(Aj .i64 b.2 d.block (d.off+a.toNat*2+0)).bind fun h=>some (qIi h,b.2) else none):=by
 simp only[AF,Bn,Ac]; kernel_rfl
theorem K8 (k c a J):BH (k+1) c a J =
 (bif decide (a<0) then some (true,J) else (AF k c J).bind fun f=>(Bk .i64 f.1).bind fun g=>some (decide (a>=g),f.2)).bind fun b=>bif b.1 then (some (qIi (-1:Int),b.2)) else (gLd Be c 0 b.2 fun e=>if 0<=a/\a<(e.2.1:Nat) then e.1.bind fun d=>(Aj .i64 b.2 d.block (d.off+a.toNat*2+1)).bind fun h=>some (qIi h,b.2) else none):=by
 simp only[AF,BH,Ac]; kernel_rfl
theorem SH (k b c J):Gt (k+1) b c J =
 (Bd k b c J).bind fun a=>(Dl a.1).bind fun f=>(bif f then gLd B9 b 3 a.2 fun h=>if (2:Int)=0 then none else (DC k h (Ar (c.tdiv (2:Int))) a.2).bind fun d=>(Bk .i64 d.1).bind fun g=>some (g == 1,d.2) else some (false,a.2)).bind fun e=>some (.bool e.1,e.2):=by
 simp only[Bd,Gt,DC,Ac]; kernel_rfl
theorem Tz (k c b J):Dk (k+1) c b J =
 (BI k c b J).bind fun a=>(Bk .i64 a.1).bind fun f=>bif f != 0 then (some (.tuple #[qIi 0,qIi f],a.2)) else (gLd Be c 1 a.2 fun e=>if 0<=b/\b<(e.2.1:Nat) then e.1.bind fun d=>(Aj .i64 a.2 d.block (d.off+b.toNat*1)).bind fun g=>some (.tuple #[qIi g,qIi 0],a.2) else none):=by
 simp only[Dk,BI,Ac]; kernel_rfl
theorem NA (k p g J):AL (k+1) p g J =
 Ae J (.cells [qIi 0,qIi 0,qIi 0] Ad true) fun h1 s2=>(BI k p g s2).bind fun d=>(Bk .i64 d.1).bind fun q=>bif q != 0 then ((H5 d.2 h1 0 [qIi 0,qIi 0,qIi 0]).bind fun r=>(((Nm r h1 0 3).bind fun v6=>some (.agg v6.toArray)).bind fun s=>some [s,qIi q]).bind fun o=>some (Lh o,r)) else (gLd Be p 1 d.2 fun b=>if 0<=(Ar (g+1))/\(Ar (g+1))<(b.2.1:Nat) then b.1.bind fun a=>(Aj .i64 d.2 a.block (a.off+(Ar (g+1)).toNat*1)).bind fun h=>(Hn k h d.2).bind fun c=>My c.1 fun i j l=>(H5 c.2 h1 0 [qIi i,qIi j,qIi l]).bind fun e=>(((Nm e h1 0 3).bind fun m=>some (.agg m.toArray)).bind fun n=>some [n,qIi 0]).bind fun f=>some (Lh f,e) else none):=by
 simp only[AL,BI,Hn,Ac]; kernel_rfl
theorem Wd (k c g h J):AM (k+1) c g h J =
 (CR k c g h false J).bind fun a=>GV a.1 fun b f=>bif f != 0 then (some (.tuple #[qIi 0,qIi f],a.2)) else (gLd Be c 1 a.2 fun e=>if 0<=b/\b<(e.2.1:Nat) then e.1.bind fun d=>(Aj .i64 a.2 d.block (d.off+b.toNat*1)).bind fun i=>some (.tuple #[qIi i,qIi 0],a.2) else none):=by
 simp only[AM,CR,Ac]; kernel_rfl
theorem UU (k c g h J):Hz (k+1) c g h J =
 (CR k c g h true J).bind fun a=>GV a.1 fun b f=>bif f != 0 then (some (.tuple #[qIi 0,qIi f],a.2)) else (gLd Be c 1 a.2 fun e=>if 0<=b/\b<(e.2.1:Nat) then e.1.bind fun d=>(Aj .i64 a.2 d.block (d.off+b.toNat*1)).bind fun i=>some (.tuple #[qIi i,qIi 0],a.2) else none):=by
 simp only[Hz,CR,Ac]; kernel_rfl
theorem eD (k a J):J9 (k+1) a J =
 (bif decide (a<2) then some (true,J) else some (decide (a>64),J)).bind fun l=>bif l.1 then (some (.tuple #[qVi none,qIi 1],l.2)) else (if 0<=a/\a<=a/\a*(16:Nat)<=2 ^ 40/\a<=2 ^ 40 then Ae l.2 (.cells (rep a.toNat [qIi 0,qIi 0]) Bi true) fun n s=>if 0<=(Ar (a*64))/\(Ar (a*64))<=(Ar (a*64))/\(Ar (a*64))*(8:Nat)<=2 ^ 40/\(Ar (a*64))<=2 ^ 40 then Ae s (.cells (rep (Ar (a*64)).toNat [qIi 0]) Ak true) fun o t=>Ae t (.map []) fun p u=>Ae u (.map []) fun h8 v=>Ae v (.cells [.slice (some ⟨n,0,none⟩) a.toNat a.toNat,.slice (some ⟨o,0,none⟩) ((Ar (a*64)).toNat) ((Ar (a*64)).toNat),qVi none,qVi none,.map (some p),.map (some h8),qIi 0] FT true) fun b e=>(Be e b (0+1)).bind fun g=>if (2:Int)=0 then none else (JB k (Ar (((g.2.1:Nat):Int).tdiv (2:Int))) (1:Int) e).bind fun c=>Tk c.1 fun i q=>(CY c.2 b (0+2) (qVi i)).bind fun f=>(Be f b (0+1)).bind fun h=>if (2:Int)=0 then none else (JB k (Ar (((h.2.1:Nat):Int).tdiv (2:Int))) (1:Int) f).bind fun d=>Tk d.1 fun j r=>(CY d.2 b (0+3) (qVi j)).bind fun m=>some (.tuple #[qVi (some ⟨b,0,none⟩),qIi 0],m) else none else none):=by
 simp only[J9,JB,Ac]; kernel_rfl
theorem bR (k a J):I6 (k+1) a J =
 (bif decide (a<1) then some (true,J) else some (decide (a>4),J)).bind fun b=>bif b.1 then (some (.tuple #[qVi none,qIi 1],b.2)) else (if 0<=(Ar (a*16))/\(Ar (a*16))<=(Ar (a*16))/\(Ar (a*16))*(8:Nat)<=2 ^ 40/\(Ar (a*16))<=2 ^ 40 then Ae b.2 (.cells (rep (Ar (a*16)).toNat [qIi 0]) Ak true) fun c f=>if 0<=(16:Int)/\(16:Int)<=(16:Int)/\(16:Int)*(8:Nat)<=2 ^ 40/\(16:Int)<=2 ^ 40 then Ae f (.cells (rep (16:Int).toNat [qIi 0]) Ak true) fun d g=>Ae g (.cells [qIi a,.slice (some ⟨c,0,none⟩) ((Ar (a*16)).toNat) ((Ar (a*16)).toNat),.slice (some ⟨d,0,none⟩) ((16:Int).toNat) ((16:Int).toNat),.slice none 0 0] MP true) fun e h=>some (.tuple #[qVi (some ⟨e,0,none⟩),qIi 0],h) else none else none):=by
 simp only[I6,Ac]; kernel_rfl
theorem Pz (k g a b c h J):BB (k+1) g a b c h J =
 Ae J (.cells [qIi a,qIi b,qIi c] Ad true) fun h1 s2=>(Ap k g s2).bind fun d=>(HR d.1).bind fun n=>(Aj .i64 d.2 h1 0).bind fun i=>(Aj .i64 d.2 h1 (0+1)).bind fun j=>(Aj .i64 d.2 h1 (0+1+1)).bind fun l=>(Jo k n i j l h d.2).bind fun f=>GV f.1 fun m e=>some (.tuple #[qIi m,qIi e],f.2):=by
 simp only[BB,Ap,Jo,Ac]; kernel_rfl
theorem P8 (k e f g l J):Ck (k+1) e f g l J =
 (Ap k e J).bind fun i=>(HR i.1).bind fun n=>(FM k n f g i.2).bind fun d=>GV d.1 fun m h=>bif h != 0 then (some (qIi h,d.2)) else (gLd B9 e 0 d.2 fun o=>(Cr k o d.2).bind fun j=>(HR j.1).bind fun p=>(CV k p f g l j.2).bind fun a=>(Bk .i64 a.1).bind fun b=>bif b != 0 then (some (qIi b,a.2)) else ((D6 k e f g m a.2).bind fun c=>W8 c.1 (some (qIi 0,c.2)))):=by
 simp only[CV,Ck,Ap,D6,Cr,FM,Ac]; kernel_rfl
theorem Pa (k c d J):Eb (k+1) c d J =
 (Ap k c J).bind fun a=>(HR a.1).bind fun f=>(IA k f d a.2).bind fun b=>(Bk .i64 b.1).bind fun e=>some (qIi e,b.2):=by
 simp only[Eb,Ap,IA,Ac]; kernel_rfl
theorem Og (k n e f c h a b J):G3 k (n+1) e f c h a b J =
 bif decide (b<(c:Int)) then (if 0<=b/\b<c then f.bind fun g=>(Aj .i64 J g.block (g.off+b.toNat*1)).bind fun j=>(D5 k e (a.1,a.2.1,a.2.2) j J).bind fun i=>(Eo i.1).bind fun d=>G3 k n e f c h (d.1,d.2.1,d.2.2) (Ar (b+1)) i.2 else none) else (some (.exit 0,[.slice a.1 a.2.1 a.2.2],J)):=by
 simp only[D5,G3,Ac]; kernel_rfl
theorem Oi (k n r h1 c a J):G4 k (n+1) r h1 c a J =
 (Be J h1 (0+5)).bind fun l=>bif decide (a<((l.2.1:Nat):Int)) then ((Aj .i64 J h1 (0+2)).bind fun m=>(Aj .i64 J h1 (0+2+1)).bind fun o=>(Aj .i64 J h1 (0+2+1+1)).bind fun p=>(GQ k m o p a J).bind fun b=>(Dl b.1).bind fun j=>(bif j then ((Be b.2 h1 (0+5)).bind fun h=>if 0<=a/\a<(h.2.1:Nat) then h.1.bind fun g=>(Aj .i64 b.2 g.block (g.off+a.toNat*1)).bind fun q=>(D5 k r (c.1,c.2.1,c.2.2) q b.2).bind fun i=>(Eo i.1).bind fun d=>some (.normal,[.slice d.1 d.2.1 d.2.2],i.2) else none) else (some (.normal,[.slice c.1 c.2.1 c.2.2],b.2)):Option Bq).bind fun f=>if f.1 = .normal then (So f.2.1 fun e=>G4 k n r h1 (e.1,e.2.1,e.2.2) (Ar (a+1)) f.2.2) else none) else (some (.exit 6,[.slice c.1 c.2.1 c.2.2],J)):=by
 simp only[GQ,D5,G4,Ac]; kernel_rfl
theorem Oh (k n r B O A S q e J):Fv k (n+1) r B O A S q e J =
 bif decide (e<(A:Int)) then (gLd Be r 1 J fun v=>if 0<=e/\e<A then O.bind fun s=>(Aj .i64 J s.block (s.off+e.toNat*1)).bind fun E=>(Ay k r E J).bind fun c=>(Bk .i64 c.1).bind fun b=>if 0<=b/\b<(v.2.1:Nat) then v.1.bind fun a=>(Aj .i64 c.2 a.block (a.off+b.toNat*8)).bind fun F=>(Aj .i64 c.2 a.block (a.off+b.toNat*8+1)).bind fun G=>(Aj .i64 c.2 a.block (a.off+b.toNat*8+1+1)).bind fun H=>(Aj .i64 c.2 a.block (a.off+b.toNat*8+1+1+1)).bind fun I=>(Aj .i64 c.2 a.block (a.off+b.toNat*8+1+1+1+1)).bind fun K=>(Be c.2 a.block (a.off+b.toNat*8+1+1+1+1+1)).bind fun j=>(Be c.2 a.block (a.off+b.toNat*8+1+1+1+1+1+1)).bind fun l=>(Vy c.2 a.block (a.off+b.toNat*8+1+1+1+1+1+1+1)).bind fun C=>Ae c.2 (.cells [qIi 0,qIi 0,qIi 0,qIi 0,qIi 0,.slice none 0 0,.slice none 0 0,.bool false] Ab true) fun f P=>(H5 P f 0 [qIi F,qIi G,qIi H,qIi I,qIi K,.slice j.1 j.2.1 j.2.2,.slice l.1 l.2.1 l.2.2,.bool C]).bind fun Q=>(G4 k k r f (q.1,q.2.1,q.2.2) (0:Int) Q).bind fun g=>if g.1 = .exit 6 then (So g.2.1 fun d=>(bif B then (Aj .i64 g.2.2 f (0+2+2)).bind fun L=>some (L == 2,g.2.2) else some (false,g.2.2)).bind fun h=>(bif h.1 then (Be h.2 f (0+5)).bind fun w=>if 0<=(0:Int)/\(0:Int)<(w.2.1:Nat) then w.1.bind fun t=>(Aj .i64 h.2 t.block (t.off+(0:Int).toNat*1)).bind fun M=>(I0 k (d.1,d.2.1,d.2.2) M h.2).bind fun y=>(Dl y.1).bind fun D=>some (D,y.2) else none else some (false,h.2)).bind fun i=>(bif i.1 then ((Be i.2 f (0+5)).bind fun x=>if 0<=(1:Int)/\(1:Int)<(x.2.1:Nat) then x.1.bind fun u=>(Aj .i64 i.2 u.block (u.off+(1:Int).toNat*1)).bind fun N=>(D5 k r (d.1,d.2.1,d.2.2) N i.2).bind fun z=>(Eo z.1).bind fun m=>some (.normal,[.slice m.1 m.2.1 m.2.2],z.2) else none) else (some (.normal,[.slice d.1 d.2.1 d.2.2],i.2)):Option Bq).bind fun p=>if p.1 = .normal then (So p.2.1 fun o=>Fv k n r B O A S (o.1,o.2.1,o.2.2) (Ar (e+1)) p.2.2) else none) else none else none else none) else (some (.exit 4,[.slice q.1 q.2.1 q.2.2],J)):=by
 simp only[Ay,I0,D5,Fv,G4,Ac]; kernel_rfl
theorem Vl (k n f e a h J):H4 k (n+1) f e a h J =
 bif h != ((a.2.1:Nat):Int) then ((Ho k (a.1,a.2.1,a.2.2) J).bind fun g=>(Eo g.1).bind fun b=>(Fv k k f e b.1 b.2.1 b.2.2 (a.1,a.2.1,a.2.2) (0:Int) g.2).bind fun d=>if d.1 = .exit 4 then (So d.2.1 fun c=>H4 k n f e (c.1,c.2.1,c.2.2) ((a.2.1:Nat):Int) d.2.2) else none) else (some (.exit 2,[.slice a.1 a.2.1 a.2.2],J)):=by
 simp only[Ho,H4,Fv,Ac]; kernel_rfl
theorem Yk (k f c g J):GJ (k+1) f c g J =
 Ae J (.cells [] Ak true) fun h1 s2=>(G3 k k f c.1 c.2.1 c.2.2 (some ⟨h1,0,some 0⟩,0,0) (0:Int) s2).bind fun e=>if e.1 = .exit 0 then (So e.2.1 fun d=>(H4 k k f g (d.1,d.2.1,d.2.2) (-1:Int) e.2.2).bind fun b=>if b.1 = .exit 2 then (So b.2.1 fun a=>some (.slice a.1 a.2.1 a.2.2,b.2.2)) else none) else none:=by
 simp only[GJ,G3,H4,Ac]; kernel_rfl
theorem Lf (k n e c h i3 f a J):Ez k (n+1) e c h i3 f a J =
 bif decide (a<(c:Int)) then ((bif f then some (true,J) else if 0<=a/\a<c then e.bind fun g=>(Aj .i64 J g.block (g.off+a.toNat*1)).bind fun d=>some (d == i3,J) else none).bind fun b=>Ez k n e c h i3 b.1 (Ar (a+1)) b.2) else (some (.exit 2,[.bool f],J)):=by
 simp only[Ez,Ac]; kernel_rfl
theorem Le (k n l m h p a d J):Ey k (n+1) l m h p a d J =
 bif decide (d<(h:Int)) then (if 0<=d/\d<h then m.bind fun g=>(Aj .i64 J g.block (g.off+d.toNat*3)).bind fun s=>(Aj .i64 J g.block (g.off+d.toNat*3+1)).bind fun t=>(Aj .i64 J g.block (g.off+d.toNat*3+1+1)).bind fun u=>(DN k l s t u J).bind fun r=>(Bk .i64 r.1).bind fun q=>(Ez k k a.1 a.2.1 a.2.2 q false (0:Int) r.2).bind fun b=>if b.1 = .exit 2 then (oS b.2.1 fun i=>(bif !i then (Ae b.2.2 (.cells [qIi q] Ak true) fun j o=>(AH P Ak (a.1,a.2.1,a.2.2) (some ⟨j,0,none⟩,1,1) o).bind fun c=>some (.normal,[.slice c.1.1 c.1.2.1 c.1.2.2],c.2)) else (some (.normal,[.slice a.1 a.2.1 a.2.2],b.2.2)):Option Bq).bind fun f=>if f.1 = .normal then (So f.2.1 fun e=>Ey k n l m h p (e.1,e.2.1,e.2.2) (Ar (d+1)) f.2.2) else none) else none else none) else (some (.exit 0,[.slice a.1 a.2.1 a.2.2],J)):=by
 simp only[Ey,Ez,DN,Ac]; kernel_rfl
theorem RF (k d J):BO (k+1) d J =
 (Dq k d J).bind fun e=>(Eo e.1).bind fun c=>(Ey k k d c.1 c.2.1 c.2.2 (none,0,0) (0:Int) e.2).bind fun b=>if b.1 = .exit 0 then (So b.2.1 fun a=>some (.slice a.1 a.2.1 a.2.2,b.2.2)) else none:=by
 simp only[BO,Ey,Dq,Ac]; kernel_rfl
theorem MF (k g a b c J):DG (k+1) g a b c J =
 Ae J (.cells [qIi a,qIi b,qIi c] Am true) fun h1 s2=>(Bh k g s2).bind fun d=>(Dl d.1).bind fun i=>bif !i then (some (.tuple #[qVi none,qIi 5],d.2)) else ((Aj .i64 d.2 h1 0).bind fun j=>(Aj .i64 d.2 h1 (0+1)).bind fun l=>(Aj .i64 d.2 h1 (0+1+1)).bind fun m=>(Jn k g j l m d.2).bind fun f=>(HR f.1).bind fun h=>(Lq P iS (qVi h) (qVi none)).bind fun e=>bif e then (some (.tuple #[qVi none,qIi 1],f.2)) else (some (.tuple #[qVi h,qIi 0],f.2))):=by
 simp only[Jn,Bh,DG,Ac]; kernel_rfl
theorem Px (k b J):Du (k+1) b J =
 (AZ k b J).bind fun a=>(Dl a.1).bind fun c=>bif !c then (some (qIi 0,a.2)) else (gLd Be b 0 a.2 fun d=>some (qIi ((d.2.1:Nat):Int),a.2)):=by
 simp only[AZ,Du,Ac]; kernel_rfl
theorem Mg (k n a b J):F4 k (n+1) a b J =
 gLd (Aj .i64) a 4 J fun d=>bif d != 0 then ((En k a J).bind fun c=>W8 c.1 (F4 k n a (Ar (b+1)) c.2)) else (some (.exit 0,[qIi b],J)):=by
 simp only[F4,En,Ac]; kernel_rfl
theorem NH (k c J):Ha (k+1) c J =
 (AO k c J).bind fun a=>(Dl a.1).bind fun d=>bif !d then (some (.tuple #[qIi 0,qIi 5],a.2)) else ((F4 k k c (0:Int) a.2).bind fun b=>if b.1 = .exit 0 then (ZZ b.2.1 fun e=>some (.tuple #[qIi e,qIi 0],b.2.2)) else none):=by
 simp only[Ha,F4,AO,Ac]; kernel_rfl
theorem Vs (k b J):Jp (k+1) b J =
 (AO k b J).bind fun a=>(Dl a.1).bind fun c=>bif !c then (some (qIi 0,a.2)) else (gLd (Aj .i64) b 8 a.2 fun d=>some (qIi d,a.2)):=by
 simp only[Jp,AO,Ac]; kernel_rfl
theorem OX (k n u v A y z h5 d c b J):Hc k (n+1) u v A y z h5 d c b J =
 (Be J h5 (0+5)).bind fun E=>bif decide (b<((E.2.1:Nat):Int)) then ((Be J h5 (0+5)).bind fun q=>if 0<=b/\b<(q.2.1:Nat) then q.1.bind fun o=>(Aj .i64 J o.block (o.off+b.toNat*1)).bind fun F=>(DB k u F J).bind fun f=>(Bk .i64 f.1).bind fun G=>(Be f.2 d (0+5)).bind fun r=>if 0<=b/\b<(r.2.1:Nat) then r.1.bind fun p=>(Aj .i64 f.2 p.block (p.off+b.toNat*1)).bind fun H=>(DB k v H f.2).bind fun a=>(Bk .i64 a.1).bind fun t=>(bif G == t then some (true,a.2) else (bif t == 0 then (Aj .i64 a.2 h5 0).bind fun I=>(Aj .i64 a.2 h5 (0+1)).bind fun K=>(Aj .i64 a.2 h5 (0+1+1)).bind fun L=>(Aj .i64 a.2 h5 (0+1+1+1)).bind fun M=>(Aj .i64 a.2 h5 (0+1+1+1+1)).bind fun N=>(Be a.2 h5 (0+1+1+1+1+1)).bind fun i=>(Be a.2 h5 (0+1+1+1+1+1+1)).bind fun j=>(Vy a.2 h5 (0+1+1+1+1+1+1+1)).bind fun B=>(Aj .i64 a.2 d 0).bind fun O=>(Aj .i64 a.2 d (0+1)).bind fun P=>(Aj .i64 a.2 d (0+1+1)).bind fun Q=>(Aj .i64 a.2 d (0+1+1+1)).bind fun S=>(Aj .i64 a.2 d (0+1+1+1+1)).bind fun T=>(Be a.2 d (0+1+1+1+1+1)).bind fun l=>(Be a.2 d (0+1+1+1+1+1+1)).bind fun m=>(Vy a.2 d (0+1+1+1+1+1+1+1)).bind fun C=>(NF k u v I K L M N (i.1,i.2.1,i.2.2) (j.1,j.2.1,j.2.2) B O P Q S T (l.1,l.2.1,l.2.2) (m.1,m.2.1,m.2.2) C b (A,y,z) a.2).bind fun w=>(Dl w.1).bind fun D=>some (D,w.2) else some (false,a.2)).bind fun x=>some (x.1,x.2)).bind fun g=>bif g.1 then (Hc k n u v A y z h5 d (c.1,c.2.1,c.2.2) (Ar (b+1)) g.2) else ((Aj .i64 g.2 h5 (0+1)).bind fun s=>(Iz k (c.1,c.2.1,c.2.2) (11:Int) s (Ar ((1:Int)+b)) g.2).bind fun h=>(Eo h.1).bind fun e=>Hc k n u v A y z h5 d (e.1,e.2.1,e.2.2) (Ar (b+1)) h.2) else none else none) else (some (.exit 2,[.slice c.1 c.2.1 c.2.2],J)):=by
 simp only[Iz,Hc,DB,NF,Ac]; kernel_rfl
theorem OY (k n h0 h1 a b J):Ij k (n+1) h0 h1 a b J =
 (Be J h0 (0+6)).bind fun l=>bif decide (b<((l.2.1:Nat):Int)) then ((Be J h0 (0+6)).bind fun h=>if 0<=b/\b<(h.2.1:Nat) then h.1.bind fun f=>(Aj .i64 J f.block (f.off+b.toNat*1)).bind fun o=>(Be J h1 (0+6)).bind fun i=>if 0<=b/\b<(i.2.1:Nat) then i.1.bind fun g=>(Aj .i64 J g.block (g.off+b.toNat*1)).bind fun p=>(bif o != p then ((Aj .i64 J h0 (0+1)).bind fun q=>(Be J h0 (0+5)).bind fun m=>(Iz k (a.1,a.2.1,a.2.2) (11:Int) q (Ar ((Ar ((1:Int)+((m.2.1:Nat):Int)))+b)) J).bind fun j=>(Eo j.1).bind fun c=>some (.normal,[.slice c.1 c.2.1 c.2.2],j.2)) else (some (.normal,[.slice a.1 a.2.1 a.2.2],J)):Option Bq).bind fun e=>if e.1 = .normal then (So e.2.1 fun d=>Ij k n h0 h1 (d.1,d.2.1,d.2.2) (Ar (b+1)) e.2.2) else none else none else none) else (some (.exit 4,[.slice a.1 a.2.1 a.2.2],J)):=by
 simp only[Iz,Ij,Ac]; kernel_rfl
theorem OW (k n A s B t D c j J):EY k (n+1) A s B t D c j J =
 bif decide (j<(t:Int)) then (gLd Be A 1 J fun E=>if 0<=j/\j<t then B.bind fun C=>(Aj .i64 J C.block (C.off+j.toNat*1)).bind fun N=>(Ay k A N J).bind fun f=>(Bk .i64 f.1).bind fun d=>if 0<=d/\d<(E.2.1:Nat) then E.1.bind fun a=>(Aj .i64 f.2 a.block (a.off+d.toNat*8)).bind fun O=>(Aj .i64 f.2 a.block (a.off+d.toNat*8+1)).bind fun Q=>(Aj .i64 f.2 a.block (a.off+d.toNat*8+1+1)).bind fun S=>(Aj .i64 f.2 a.block (a.off+d.toNat*8+1+1+1)).bind fun T=>(Aj .i64 f.2 a.block (a.off+d.toNat*8+1+1+1+1)).bind fun U=>(Be f.2 a.block (a.off+d.toNat*8+1+1+1+1+1)).bind fun u=>(Be f.2 a.block (a.off+d.toNat*8+1+1+1+1+1+1)).bind fun v=>(Vy f.2 a.block (a.off+d.toNat*8+1+1+1+1+1+1+1)).bind fun K=>Ae f.2 (.cells [qIi 0,qIi 0,qIi 0,qIi 0,qIi 0,.slice none 0 0,.slice none 0 0,.bool false] Ab true) fun h am=>(H5 am h 0 [qIi O,qIi Q,qIi S,qIi T,qIi U,.slice u.1 u.2.1 u.2.2,.slice v.1 v.2.1 v.2.2,.bool K]).bind fun I=>(Aj .i64 I h (0+1)).bind fun V=>(Ig k s V I).bind fun r=>GV r.1 fun W X=>bif X != 0 then ((Aj .i64 r.2 h (0+1)).bind fun Y=>(Iz k (c.1,c.2.1,c.2.2) (10:Int) Y (0:Int) r.2).bind fun G=>(Eo G.1).bind fun w=>EY k n A s B t D (w.1,w.2.1,w.2.2) (Ar (j+1)) G.2) else (gLd Be s 1 r.2 fun F=>(Ay k s W r.2).bind fun g=>(Bk .i64 g.1).bind fun e=>if 0<=e/\e<(F.2.1:Nat) then F.1.bind fun b=>(Aj .i64 g.2 b.block (b.off+e.toNat*8)).bind fun Z=>(Aj .i64 g.2 b.block (b.off+e.toNat*8+1)).bind fun aa=>(Aj .i64 g.2 b.block (b.off+e.toNat*8+1+1)).bind fun ab=>(Aj .i64 g.2 b.block (b.off+e.toNat*8+1+1+1)).bind fun ac=>(Aj .i64 g.2 b.block (b.off+e.toNat*8+1+1+1+1)).bind fun ad=>(Be g.2 b.block (b.off+e.toNat*8+1+1+1+1+1)).bind fun x=>(Be g.2 b.block (b.off+e.toNat*8+1+1+1+1+1+1)).bind fun y=>(Vy g.2 b.block (b.off+e.toNat*8+1+1+1+1+1+1+1)).bind fun L=>Ae g.2 (.cells [qIi 0,qIi 0,qIi 0,qIi 0,qIi 0,.slice none 0 0,.slice none 0 0,.bool false] Ab true) fun l an=>(H5 an l 0 [qIi Z,qIi aa,qIi ab,qIi ac,qIi ad,.slice x.1 x.2.1 x.2.2,.slice y.1 y.2.1 y.2.2,.bool L]).bind fun i=>(Aj .i64 i l (0+2)).bind fun ae=>(Aj .i64 i l (0+2+1)).bind fun af=>(Aj .i64 i l (0+2+1+1)).bind fun ag=>(Aj .i64 i h (0+2)).bind fun ah=>(Aj .i64 i h (0+2+1)).bind fun ai=>(Aj .i64 i h (0+2+1+1)).bind fun aj=>(Lq P Ad (.agg #[qIi ae,qIi af,qIi ag]) (.agg #[qIi ah,qIi ai,qIi aj])).bind fun M=>bif !M then ((Aj .i64 i h (0+1)).bind fun ak=>(Iz k (c.1,c.2.1,c.2.2) (11:Int) ak (0:Int) i).bind fun H=>(Eo H.1).bind fun z=>EY k n A s B t D (z.1,z.2.1,z.2.2) (Ar (j+1)) H.2) else ((Hc k k A s B t D h l (c.1,c.2.1,c.2.2) (0:Int) i).bind fun p=>if p.1 = .exit 2 then (So p.2.1 fun m=>(Ij k k h l (m.1,m.2.1,m.2.2) (0:Int) p.2.2).bind fun q=>if q.1 = .exit 4 then (So q.2.1 fun o=>EY k n A s B t D (o.1,o.2.1,o.2.2) (Ar (j+1)) q.2.2) else none) else none) else none) else none else none) else (some (.exit 0,[.slice c.1 c.2.1 c.2.2],J)):=by
 simp only[Ig,Ay,Iz,EY,Hc,Ij,Ac]; kernel_rfl
theorem OZ (k n C D E F B q G b a J):Gf k (n+1) C D E F B q G b a J =
 bif decide (a<(q:Int)) then (if 0<=a/\a<q then B.bind fun c=>(Aj .i64 J c.block (c.off+a.toNat*3)).bind fun r=>(Aj .i64 J c.block (c.off+a.toNat*3+1)).bind fun s=>(Aj .i64 J c.block (c.off+a.toNat*3+1+1)).bind fun t=>(EJ k D r s t J).bind fun m=>GV m.1 fun u H=>(DB k C u m.2).bind fun e=>(Bk .i64 e.1).bind fun h=>bif h == 0 then (Gf k n C D E F B q G (b.1,b.2.1,b.2.2) (Ar (a+1)) e.2) else (if 0<=a/\a<q then B.bind fun d=>(Aj .i64 e.2 d.block (d.off+a.toNat*3)).bind fun v=>(Aj .i64 e.2 d.block (d.off+a.toNat*3+1)).bind fun w=>(Aj .i64 e.2 d.block (d.off+a.toNat*3+1+1)).bind fun x=>(EJ k F v w x e.2).bind fun i=>GV i.1 fun y z=>(bif z != 0 then some (true,i.2) else (DB k E y i.2).bind fun o=>(Bk .i64 o.1).bind fun A=>some (A != h,o.2)).bind fun j=>(bif j.1 then ((Iz k (b.1,b.2.1,b.2.2) (3:Int) h a j.2).bind fun p=>(Eo p.1).bind fun f=>some (.normal,[.slice f.1 f.2.1 f.2.2],p.2)) else (some (.normal,[.slice b.1 b.2.1 b.2.2],j.2)):Option Bq).bind fun l=>if l.1 = .normal then (So l.2.1 fun g=>Gf k n C D E F B q G (g.1,g.2.1,g.2.2) (Ar (a+1)) l.2.2) else none else none) else none) else (some (.exit 6,[.slice b.1 b.2.1 b.2.2],J)):=by
 simp only[EJ,Iz,Gf,DB,Ac]; kernel_rfl
theorem ZT (k m n o v J):JA (k+1) m n o v J =
 (Az k m J).bind fun r=>(Dl r.1).bind fun z=>(bif !z then some (true,r.2) else (AZ k n r.2).bind fun w=>(Dl w.1).bind fun A=>some (!A,w.2)).bind fun s=>(bif s.1 then some (true,s.2) else (Az k o s.2).bind fun x=>(Dl x.1).bind fun B=>some (!B,x.2)).bind fun t=>(bif t.1 then some (true,t.2) else (AZ k v t.2).bind fun y=>(Dl y.1).bind fun p=>some (!p,y.2)).bind fun i=>bif i.1 then (some (.tuple #[.slice none 0 0,qIi 1],i.2)) else (Ae i.2 (.cells [] XH true) fun q u=>(BO k n u).bind fun j=>(Eo j.1).bind fun g=>(GJ k m (g.1,g.2.1,g.2.2) true j.2).bind fun l=>(Eo l.1).bind fun h=>(EY k k m o h.1 h.2.1 h.2.2 (some ⟨q,0,some 0⟩,0,0) (0:Int) l.2).bind fun d=>if d.1 = .exit 0 then (So d.2.1 fun a=>(Dq k n d.2.2).bind fun f=>(Eo f.1).bind fun b=>(Gf k k m n o v b.1 b.2.1 b.2.2 (a.1,a.2.1,a.2.2) (0:Int) f.2).bind fun e=>if e.1 = .exit 6 then (So e.2.1 fun c=>some (.tuple #[.slice c.1 c.2.1 c.2.2,qIi 0],e.2.2)) else none) else none):=by
 simp only[Az,BO,AZ,Dq,JA,EY,Gf,GJ,Ac]; kernel_rfl
theorem Yl (k b c J):Ht (k+1) b c J =
 (Nw k b c J).bind fun a=>(Dl a.1).bind fun d=>some (.bool d,a.2):=by
 simp only[Nw,Ht,Ac]; kernel_rfl
theorem QA (k b c J):Dm (k+1) b c J =
 c.bind fun e=>(Be J e.block e.off).bind fun j=>(bif ((j.2.1:Nat):Int) == (0:Int) then some (true,J) else some (decide (b>=200),J)).bind fun a=>bif a.1 then (some (qIi 0,a.2)) else (c.bind fun f=>(Be a.2 f.block f.off).bind fun i=>c.bind fun g=>(Be a.2 g.block g.off).bind fun d=>if ((d.2.1:Nat):Int)=0 then none else if 0<=((Ar (b)).tmod ((d.2.1:Nat):Int))/\((Ar (b)).tmod ((d.2.1:Nat):Int))<(i.2.1:Nat) then i.1.bind fun h=>(Aj .i64 a.2 h.block (h.off+((Ar (b)).tmod ((d.2.1:Nat):Int)).toNat*1)).bind fun l=>some (qIi l,a.2) else none):=by
 simp only[Dm,Ac]; kernel_rfl
theorem XZ (k e f g h J):GI (k+1) e f g h J =
 Ae J (.cells [.int .u8 e,.int .u8 f,.int .u8 g,.int .u8 h] fF true) fun h1 s2=>Ae s2 (.cells [qIi 0,qIi 0,qIi 0] Ad true) fun D A=>if 0<=(1:Int)/\(1:Int)<(4:Nat) then (Aj .u8 A h1 (0+(1:Int).toNat*1)).bind fun E=>if (5:Int)=0 then none else if 0<=(2:Int)/\(2:Int)<(4:Nat) then (Aj .u8 A h1 (0+(2:Int).toNat*1)).bind fun F=>if (6:Int)=0 then none else Ae A (.cells [qIi 0,qIi 0,qIi 0] Ad true) fun a G=>(H5 G a 0 [qIi ((Ar (E)).tmod (5:Int)),qIi ((Ar (F)).tmod (6:Int)),qIi 0]).bind fun d=>if 0<=(0:Int)/\(0:Int)<(4:Nat) then (Aj .u8 d h1 (0+(0:Int).toNat*1)).bind fun c=>if (8:Int)=0 then none else (bif (c.tmod (8:Int)) == (4:Int) then ((Aj .i64 d a (0+0)).bind fun o=>if (3:Int)=0 then none else (CY d a (0+2) (qIi 1)).bind fun u=>(CY u a (0+0) (qIi (Ar ((1:Int)+(o.tmod (3:Int)))))).bind fun v=>some (.normal,[],v)) else ((bif (c.tmod (8:Int)) == (5:Int) then ((Aj .i64 d a (0+0)).bind fun p=>if (3:Int)=0 then none else (CY d a (0+2) (qIi 2)).bind fun w=>(CY w a (0+0) (qIi (Ar ((2:Int)+(p.tmod (3:Int)))))).bind fun x=>some (.normal,[],x)) else ((bif (c.tmod (8:Int)) == (6:Int) then ((CY d a (0+2) (qIi 3)).bind fun y=>some (.normal,[],y)) else ((bif (c.tmod (8:Int)) == (7:Int) then (if 0<=(2:Int)/\(2:Int)<(4:Nat) then (Aj .u8 d h1 (0+(2:Int).toNat*1)).bind fun q=>if (100:Int)=0 then none else (CY d a (0+1) (qIi (Ar ((32:Int)+((Ar (q)).tmod (100:Int)))))).bind fun z=>some (.normal,[],z) else none) else (some (.normal,[],d)):Option Bq).bind fun i=>if i.1 = .normal then (some (.normal,[],i.2.2)) else none):Option Bq).bind fun j=>if j.1 = .normal then (some (.normal,[],j.2.2)) else none):Option Bq).bind fun l=>if l.1 = .normal then (some (.normal,[],l.2.2)) else none):Option Bq).bind fun b=>if b.1 = .normal then ((Aj .i64 b.2.2 a 0).bind fun r=>(Aj .i64 b.2.2 a (0+1)).bind fun s=>(Aj .i64 b.2.2 a (0+1+1)).bind fun t=>(H5 b.2.2 D 0 [qIi r,qIi s,qIi t]).bind fun m=>(((Nm m D 0 3).bind fun B=>some (.agg B.toArray)).bind fun C=>some [C]).bind fun n=>some (Lh n,m)) else none else none else none else none:=by
 simp only[GI,Ac]; kernel_rfl
theorem R9 (k c g h i J):DF (k+1) c g h i J =
 (CR k c g h true J).bind fun a=>GV a.1 fun b f=>bif f != 0 then (some (qIi f,a.2)) else (gLd Be c 1 a.2 fun e=>if 0<=b/\b<(e.2.1:Nat) then e.1.bind fun d=>(CY a.2 d.block (d.off+b.toNat*1) (qIi i)).bind fun j=>some (qIi 0,j) else none):=by
 simp only[DF,CR,Ac]; kernel_rfl
theorem QB (k r s p J):GN (k+1) r s p J =
 p.bind fun o=>(B9 J o.block o.off).bind fun u=>gLd B9 u 0 J fun v=>gLd B9 v 0 J fun w=>(AL k w r J).bind fun q=>(az q.1).bind fun l=>if l.length=2 then l.head?.bind fun x=>My x fun e f g=>l.tail.head?.bind fun n=>(Bk .i64 n).bind fun t=>Ae q.2 (.cells [qIi 0,qIi 0,qIi 0] Ad true) fun a m=>(H5 m a 0 [qIi e,qIi f,qIi g]).bind fun b=>(Aj .i64 b a 0).bind fun h=>(Aj .i64 b a (0+1)).bind fun i=>(Aj .i64 b a (0+1+1)).bind fun j=>(L8 k h i j s b).bind fun c=>(Dl c.1).bind fun d=>some (.bool d,c.2) else none:=by
 simp only[AL,GN,L8,Ac]; kernel_rfl
theorem Yi (k a b c e J):L8 (k+1) a b c e J =
 Ae J (.cells [qIi a,qIi b,qIi c] Ad true) fun h1 s2=>(Aj .i64 s2 h1 0).bind fun g=>(Aj .i64 s2 h1 (0+1)).bind fun h=>(Aj .i64 s2 h1 (0+1+1)).bind fun i=>(GQ k g h i e s2).bind fun d=>(Dl d.1).bind fun f=>some (.bool (!f),d.2):=by
 simp only[GQ,L8,Ac]; kernel_rfl
theorem QC (k x y g A J):GO (k+1) x y g A J =
 g.bind fun z=>(B9 J z.block z.off).bind fun D=>gLd B9 D 0 J fun E=>gLd B9 E 0 J fun F=>(AM k F x y J).bind fun v=>GV v.1 fun B C=>(bif C == 0 then some (B != 0,v.2) else some (false,v.2)).bind fun c=>(bif c.1 then A.bind fun h=>(CW c.2 h.block h.off).bind fun f12=>(Ip k f12 [qIi x,qIi y] c.2).bind fun n=>(Dl n.1).bind fun q=>some (q,n.2) else some (false,c.2)).bind fun a=>(bif a.1 then (g.bind fun i=>(B9 a.2 i.block i.off).bind fun s=>g.bind fun j=>(B9 a.2 j.block j.off).bind fun t=>gLd Be t 3 a.2 fun e=>g.bind fun l=>(B9 a.2 l.block l.off).bind fun u=>Ae a.2 (.cells [qIi B] Ak true) fun r p=>(DM k u (some ⟨r,0,none⟩,1,1) p).bind fun d=>FQ p d.2 ((Eo d.1).bind fun f=>(AH P Ak (e.1,e.2.1,e.2.2) (f.1,f.2.1,f.2.2) d.2).bind fun b=>HH g d.2 b.2 (s.bind fun m=>(CY b.2 m.block (m.off+3) (.slice b.1.1 b.1.2.1 b.1.2.2)).bind fun w=>some (.normal,[],w)))) else (some (.normal,[],a.2)):Option Bq).bind fun o=>if o.1 = .normal then (some (.tuple #[],o.2.2)) else none:=by
 simp only[Ip,AM,DM,GO,Ac]; kernel_rfl
theorem QD (k a b c h J):Ir (k+1) a b c h J =
 Ae J (.cells [qIi a,qIi b,qIi c] Ad true) fun h1 s2=>h.bind fun g=>(B9 s2 g.block g.off).bind fun m=>gLd B9 m 1 s2 fun n=>(Aj .i64 s2 h1 0).bind fun i=>(Aj .i64 s2 h1 (0+1)).bind fun j=>(Aj .i64 s2 h1 (0+1+1)).bind fun l=>(BB k n i j l (0:Int) s2).bind fun d=>GV d.1 fun e f=>some (.tuple #[qIi e,qIi f],d.2):=by
 simp only[Ir,BB,Ac]; kernel_rfl
theorem QE (k l m z x y h J):Is (k+1) l m z x y h J =
 x.bind fun u=>(CW J u.block u.off).bind fun f2=>(Io k f2 [qIi l,qIi m] J).bind fun s=>W8 s.1 (y.bind fun v=>(CW s.2 v.block v.off).bind fun f5=>(Ip k f5 [qIi l,qIi m] s.2).bind fun d=>(Dl d.1).bind fun A=>(bif A then (h.bind fun w=>(B9 d.2 w.block w.off).bind fun B=>h.bind fun e=>(B9 d.2 e.block e.off).bind fun p=>gLd Be p 3 d.2 fun c=>Ae d.2 (.cells [qIi 0] Ak true) fun n j=>(AH P Ak (c.1,c.2.1,c.2.2) (some ⟨n,0,none⟩,1,1) j).bind fun a=>HH h j a.2 (B.bind fun f=>(CY a.2 f.block (f.off+3) (.slice a.1.1 a.1.2.1 a.1.2.2)).bind fun t=>some (.normal,[],t))) else (some (.normal,[],d.2)):Option Bq).bind fun b=>if b.1 = .normal then (h.bind fun g=>(B9 b.2.2 g.block g.off).bind fun q=>gLd B9 q 1 b.2.2 fun r=>(Ck k r l m z b.2.2).bind fun i=>(Bk .i64 i.1).bind fun o=>some (qIi o,i.2)) else none):=by
 simp only[Io,Ip,Is,Ck,Ac]; kernel_rfl
theorem QG (k c d g h J):It (k+1) c d g h J =
 g.bind fun e=>(CW J e.block e.off).bind fun f2=>(Io k f2 [qIi c,qIi d] J).bind fun a=>W8 a.1 (h.bind fun f=>(B9 a.2 f.block f.off).bind fun l=>gLd B9 l 1 a.2 fun m=>(ES k m c d a.2).bind fun i=>GV i.1 fun j b=>some (.tuple #[qIi j,qIi b],i.2)):=by
 simp only[Io,It,ES,Ac]; kernel_rfl
theorem Qp (k g l m J):ES (k+1) g l m J =
 (Ap k g J).bind fun p=>(HR p.1).bind fun r=>(FM k r l m p.2).bind fun f=>GV f.1 fun n o=>(bif o == 0 then gLd B9 g 0 f.2 fun s=>(Cr k s f.2).bind fun q=>(HR q.1).bind fun t=>(EW k t l q.2).bind fun b=>(Bk .i64 b.1).bind fun i=>(FG k i m b.2).bind fun c=>(Dl c.1).bind fun h=>some (h,c.2) else some (false,f.2)).bind fun a=>(bif a.1 then (gLd B9 g 0 a.2 fun j=>(CS k j n a.2).bind fun d=>W8 d.1 (some (.normal,[],d.2))) else (some (.normal,[],a.2)):Option Bq).bind fun e=>if e.1 = .normal then (some (.tuple #[qIi n,qIi o],e.2.2)) else none:=by
 simp only[EW,FG,ES,Ap,Cr,FM,CS,Ac]; kernel_rfl
theorem Va (k a J):AV (k+1) a J =
 (Lq P Fb (qVi a) (qVi none)).bind fun c=>(bif !c then gLd Be a 0 J fun d=>some (decide (((d.2.1:Nat):Int)>(0:Int)),J) else some (false,J)).bind fun b=>some (.bool b.1,b.2):=by
 simp only[AV,Ac]; kernel_rfl
theorem HT (k n g i1 a d j J):CQ k (n+1) g i1 a d j J =
 (bif j == 0 then some (decide ((Ar ((2:Int)*d))<i1),J) else some (false,J)).bind fun i=>bif i.1 then (Ae i.2 (.cells [qIi (Ar ((2:Int)*d))] Ak true) fun l m=>(AH P Ak (a.1,a.2.1,a.2.2) (some ⟨l,0,none⟩,1,1) m).bind fun c=>gLd B9 g 2 c.2 fun h=>(DO k h (Ar (d+1)) (1:Int) c.2).bind fun b=>GV b.1 fun e f=>CQ k n g i1 (c.1.1,c.1.2.1,c.1.2.2) e f b.2) else (some (.exit 0,[.slice a.1 a.2.1 a.2.2],i.2)):=by
 simp only[CQ,DO,Ac]; kernel_rfl
theorem RA (k c e f J):EC (k+1) c e f J =
 gLd B9 c 2 J fun i=>if (2:Int)=0 then none else (DO k i (Ar (e.tdiv (2:Int))) (1:Int) J).bind fun d=>GV d.1 fun g h=>(CQ k k c f (none,0,0) g h d.2).bind fun b=>if b.1 = .exit 0 then (So b.2.1 fun a=>some (.slice a.1 a.2.1 a.2.2,b.2.2)) else none:=by
 simp only[EC,CQ,DO,Ac]; kernel_rfl
theorem QK (k n c b e i3 a J):Kf k (n+1) c b e i3 a J =
 bif decide (a<(b:Int)) then (if 0<=a/\a<b then c.bind fun d=>(Aj .i64 J d.block (d.off+a.toNat*1)).bind fun f=>bif f == i3 then (some (.ret,[qIi a],J)) else (Kf k n c b e i3 (Ar (a+1)) J) else none) else (some (.exit 0,[],J)):=by
 simp only[Kf,Ac]; kernel_rfl
theorem eE (k b c J):RJ (k+1) b c J =
 (Kf k k b.1 b.2.1 b.2.2 c (0:Int) J).bind fun a=>if a.1 = .exit 0 then (some (qIi (-1:Int),a.2.2)) else if a.1 = .ret then (ZZ a.2.1 fun d=>some (qIi d,a.2.2)) else none:=by
 simp only[RJ,Kf,Ac]; kernel_rfl
theorem L6 (k n b i1 a J):EP k (n+1) b i1 a J =
 gLd Be b 1 J fun e=>bif decide (a<((e.2.1:Nat):Int)) then (gLd Be b 1 J fun d=>if 0<=a/\a<(d.2.1:Nat) then d.1.bind fun c=>(Aj .i64 J c.block (c.off+a.toNat*8+0)).bind fun f=>bif f == i1 then (some (.ret,[qIi a],J)) else (EP k n b i1 (Ar (a+1)) J) else none) else (some (.exit 0,[],J)):=by
 simp only[EP,Ac]; kernel_rfl
theorem SQ (k d e J):Ay (k+1) d e J =
 (Az k d J).bind fun c=>(Dl c.1).bind fun f=>bif !f then (some (qIi (-1:Int),c.2)) else ((EP k k d e (0:Int) c.2).bind fun a=>if a.1 = .exit 0 then (some (qIi (-1:Int),a.2.2)) else if a.1 = .ret then (ZZ a.2.1 fun b=>some (qIi b,a.2.2)) else none):=by
 simp only[Ay,EP,Az,Ac]; kernel_rfl
theorem QP (k n h0 i1 i2 a J):Ki k (n+1) h0 i1 i2 a J =
 bif decide (a<i2) then ((B9 J h0 0).bind fun f=>(AM k f i1 a J).bind fun c=>GV c.1 fun e g=>(Hv k e (some ⟨h0,0,none⟩) c.2).bind fun b=>(Dl b.1).bind fun d=>bif d then (some (.ret,[.bool false],b.2)) else (Ki k n h0 i1 i2 (Ar (a+1)) b.2)) else (some (.exit 2,[],J)):=by
 simp only[AM,Hv,Ki,Ac]; kernel_rfl
theorem QO (k n h0 q j v i4 a J):Kh k (n+1) h0 q j v i4 a J =
 bif decide (a<i4) then (if 0<=a/\a<j then q.bind fun d=>(Aj .i64 J d.block (d.off+a.toNat*1)).bind fun f=>(B9 J h0 0).bind fun r=>(AL k r f J).bind fun g=>(az g.1).bind fun c=>if c.length=2 then c.head?.bind fun t=>My t fun l m o=>c.tail.head?.bind fun u=>(Bk .i64 u).bind fun w=>Ae g.2 (.cells [qIi 0,qIi 0,qIi 0] Ad true) fun e s=>(H5 s e 0 [qIi l,qIi m,qIi o]).bind fun h=>(Aj .i64 h e (0+0)).bind fun p=>(Ki k k h0 f p (0:Int) h).bind fun b=>if b.1 = .exit 2 then (Kh k n h0 q j v i4 (Ar (a+1)) b.2.2) else if b.1 = .ret then (oS b.2.1 fun i=>some (.ret,[.bool i],b.2.2)) else none else none else none) else (some (.exit 0,[],J)):=by
 simp only[AL,Kh,Ki,Ac]; kernel_rfl
theorem eJ (k h i J):Nj (k+1) h i J =
 Ae J (.cells [qVi h] Fb true) fun h1 s2=>(Dd k i s2).bind fun f=>(Eo f.1).bind fun e=>(CM k (e.1,e.2.1,e.2.2) (.func (.func 166) #[] #[qVi (some ⟨h1,0,none⟩)]) f.2).bind fun c=>(Dl c.1).bind fun j=>bif j then (some (.bool false,c.2)) else ((B9 c.2 h1 0).bind fun l=>(B8 k l c.2).bind fun g=>(Eo g.1).bind fun b=>(Kh k k h1 b.1 b.2.1 b.2.2 ((b.2.1:Nat):Int) (0:Int) g.2).bind fun a=>if a.1 = .exit 0 then (some (.bool true,a.2.2)) else if a.1 = .ret then (oS a.2.1 fun d=>some (.bool d,a.2.2)) else none):=by
 simp only[B8,Dd,CM,Nj,Kh,Ac]; kernel_rfl
theorem K9 (k n q j i s b a J):Ea k (n+1) q j i s b a J =
 bif decide (a<(i:Int)) then (if 0<=a/\a<i then j.bind fun f=>(Aj .i64 J f.block (f.off+a.toNat*3)).bind fun t=>(Aj .i64 J f.block (f.off+a.toNat*3+1)).bind fun u=>(Aj .i64 J f.block (f.off+a.toNat*3+1+1)).bind fun v=>(DN k q t u v J).bind fun h=>(Bk .i64 h.1).bind fun w=>(bif w != 0 then (if 0<=a/\a<i then j.bind fun g=>(Aj .i64 h.2 g.block (g.off+a.toNat*3)).bind fun m=>(Aj .i64 h.2 g.block (g.off+a.toNat*3+1)).bind fun o=>(Aj .i64 h.2 g.block (g.off+a.toNat*3+1+1)).bind fun p=>Ae h.2 (.cells [qIi m,qIi o,qIi p] Am true) fun l r=>(AH P Am (b.1,b.2.1,b.2.2) (some ⟨l,0,none⟩,1,1) r).bind fun c=>some (.normal,[.slice c.1.1 c.1.2.1 c.1.2.2],c.2) else none) else (some (.normal,[.slice b.1 b.2.1 b.2.2],h.2)):Option Bq).bind fun e=>if e.1 = .normal then (So e.2.1 fun d=>Ea k n q j i s (d.1,d.2.1,d.2.2) (Ar (a+1)) e.2.2) else none else none) else (some (.exit 0,[.slice b.1 b.2.1 b.2.2],J)):=by
 simp only[Ea,DN,Ac]; kernel_rfl
theorem QJ (k d J):Dq (k+1) d J =
 (Hj k d J).bind fun e=>(Eo e.1).bind fun c=>(Ea k k d c.1 c.2.1 c.2.2 (none,0,0) (0:Int) e.2).bind fun b=>if b.1 = .exit 0 then (So b.2.1 fun a=>some (.slice a.1 a.2.1 a.2.2,b.2.2)) else none:=by
 simp only[Hj,Dq,Ea,Ac]; kernel_rfl
theorem TO (k g a b c J):EJ (k+1) g a b c J =
 Ae J (.cells [qIi a,qIi b,qIi c] Am true) fun h1 s2=>(AZ k g s2).bind fun d=>(Dl d.1).bind fun m=>bif !m then (some (.tuple #[qIi 0,qIi 5],d.2)) else ((Aj .i64 d.2 h1 0).bind fun o=>(Aj .i64 d.2 h1 (0+1)).bind fun p=>(Aj .i64 d.2 h1 (0+1+1)).bind fun q=>(FJ k g o p q d.2).bind fun e=>(Dl e.1).bind fun n=>bif !n then (some (.tuple #[qIi 0,qIi 1],e.2)) else ((Aj .i64 e.2 h1 0).bind fun h=>(Aj .i64 e.2 h1 (0+1)).bind fun i=>(Aj .i64 e.2 h1 (0+1+1)).bind fun j=>(DN k g h i j e.2).bind fun f=>(Bk .i64 f.1).bind fun l=>some (.tuple #[qIi l,qIi 0],f.2))):=by
 simp only[EJ,AZ,DN,FJ,Ac]; kernel_rfl
theorem PH (k n i0 h1 e J):Jk k (n+1) i0 h1 e J =
 bif decide (e<i0) then ((Be J h1 (0+0)).bind fun b=>if 0<=(16:Int)/\(16:Int)<=(16:Int)/\(16:Int)*(8:Nat)<=2 ^ 40/\(16:Int)<=2 ^ 40 then Ae J (.cells (rep (16:Int).toNat [qIi 0]) Ak true) fun f h=>Ae h (.cells [.slice (some ⟨f,0,none⟩) ((16:Int).toNat) ((16:Int).toNat)] FR true) fun g c=>(AH P FR (b.1,b.2.1,b.2.2) (some ⟨g,0,none⟩,1,1) c).bind fun a=>(CY a.2 h1 (0+0) (.slice a.1.1 a.1.2.1 a.1.2.2)).bind fun d=>Jk k n i0 h1 (Ar (e+1)) d else none) else (some (.exit 0,[],J)):=by
 simp only[Jk,Ac]; kernel_rfl
theorem bM (k b J):Iw (k+1) b J =
 (bif decide (b<1) then some (true,J) else some (decide (b>4),J)).bind fun c=>bif c.1 then (some (.tuple #[qVi none,qIi 1],c.2)) else (if 0<=(16:Int)/\(16:Int)<=(16:Int)/\(16:Int)*(8:Nat)<=2 ^ 40/\(16:Int)<=2 ^ 40 then Ae c.2 (.cells (rep (16:Int).toNat [qIi 0]) Ak true) fun e f=>Ae f (.cells [.slice none 0 0,.slice (some ⟨e,0,none⟩) ((16:Int).toNat) ((16:Int).toNat),.slice none 0 0] BQ true) fun d g=>(Jk k k b d (0:Int) g).bind fun a=>if a.1 = .exit 0 then (some (.tuple #[qVi (some ⟨d,0,none⟩),qIi 0],a.2.2)) else none else none):=by
 simp only[Iw,Jk,Ac]; kernel_rfl
theorem Py (k b J):Cj (k+1) b J =
 (Bh k b J).bind fun a=>(Dl a.1).bind fun c=>bif !c then (some (qIi 0,a.2)) else (gLd (Aj .i64) b 0 a.2 fun d=>some (qIi d,a.2)):=by
 simp only[Cj,Bh,Ac]; kernel_rfl
theorem ZS (k b J):Ho (k+1) b J =
 Ae J (.cells [] Ak true) fun h1 s2=>(AH P Ak (some ⟨h1,0,some 0⟩,0,0) (b.1,b.2.1,b.2.2) s2).bind fun a=>some (.slice a.1.1 a.1.2.1 a.1.2.2,a.2):=by
 simp only[Ho,Ac]; kernel_rfl
theorem RL (k d J):Gb (k+1) d J =
 (Bh k d J).bind fun a=>(Dl a.1).bind fun f=>bif !f then (some (.slice none 0 0,a.2)) else (gLd Be d 3 a.2 fun b=>(BN k (b.1,b.2.1,b.2.2) a.2).bind fun e=>(Eo e.1).bind fun c=>some (.slice c.1 c.2.1 c.2.2,e.2)):=by
 simp only[Gb,Bh,BN,Ac]; kernel_rfl
theorem QL (k e J):Fw (k+1) e J =
 (Bh k e J).bind fun c=>(Dl c.1).bind fun h=>bif !h then (some (.slice none 0 0,c.2)) else (Ae c.2 (.cells [.slice none 0 0] JJ true) fun f j=>(GZ k e j).bind fun d=>bif kK d.1 then (Ae d.2 (.loop 96 .ready (Hk 0 17 [(3,qVi (some ⟨f,0,none⟩))])) fun g l=>(LV k d.1 [.func (.yield g) #[] #[]] l).bind fun i=>Pb g i.2 fun m b=>if m = .normal then ((Be b f 0).bind fun a=>some (.slice a.1 a.2.1 a.2.2,b)) else none) else none):=by
 simp only[LV,Fw,GZ,Bh,Ac]; kernel_rfl
theorem TT (k h a b c J):I7 (k+1) h a b c J =
 Ae J (.cells [qIi a,qIi b,qIi c] Am true) fun h1 s2=>(Aj .i64 s2 h1 0).bind fun i=>(Aj .i64 s2 h1 (0+1)).bind fun j=>(Aj .i64 s2 h1 (0+1+1)).bind fun l=>(DG k h i j l s2).bind fun d=>Tk d.1 fun m g=>bif g != 0 then (some (.tuple #[qIi 0,qIi g],d.2)) else (m.bind fun f=>(Aj .i64 d.2 f.block f.off).bind fun e=>some (.tuple #[qIi e,qIi 0],d.2)):=by
 simp only[I7,DG,Ac]; kernel_rfl
theorem TP (k i c d e j J):EK (k+1) i c d e j J =
 Ae J (.cells [qIi c,qIi d,qIi e] Am true) fun h1 s2=>(AZ k i s2).bind fun f=>(Dl f.1).bind fun q=>bif !q then (some (qIi 5,f.2)) else ((Aj .i64 f.2 h1 0).bind fun s=>(Aj .i64 f.2 h1 (0+1)).bind fun t=>(Aj .i64 f.2 h1 (0+1+1)).bind fun u=>(FJ k i s t u f.2).bind fun p=>(Dl p.1).bind fun r=>(bif !r then some (true,p.2) else some (decide (j<0),p.2)).bind fun b=>(bif b.1 then some (true,b.2) else (bif j == 0 then (Aj .i64 b.2 h1 (0+0)).bind fun l=>some (l == 2,b.2) else some (false,b.2)).bind fun g=>some (g.1,g.2)).bind fun a=>bif a.1 then (some (qIi 1,a.2)) else ((Aj .i64 a.2 h1 0).bind fun m=>(Aj .i64 a.2 h1 (0+1)).bind fun n=>(Aj .i64 a.2 h1 (0+1+1)).bind fun o=>(Ix k i m n o j a.2).bind fun h=>W8 h.1 (some (qIi 0,h.2)))):=by
 simp only[AZ,EK,FJ,Ix,Ac]; kernel_rfl
theorem bL (k a J):Mb (k+1) a J =
 (bif decide (a<2) then some (true,J) else some (decide (a>64),J)).bind fun b=>bif b.1 then (some (.tuple #[qVi none,qIi 1],b.2)) else (if 0<=a/\a<=a/\a*(16:Nat)<=2 ^ 40/\a<=2 ^ 40 then Ae b.2 (.cells (rep a.toNat [qIi 0,qIi 0]) As true) fun c e=>Ae e (.cells [.slice (some ⟨c,0,none⟩) a.toNat a.toNat,.slice none 0 0,.slice none 0 0,qIi 0] Dc true) fun d f=>some (.tuple #[qVi (some ⟨d,0,none⟩),qIi 0],f) else none):=by
 simp only[Mb,Ac]; kernel_rfl
theorem RB (k j f g h r J):Hi (k+1) j f g h r J =
 Ae J (.cells [qIi f,qIi g,qIi h] Ad true) fun h1 s2=>gLd B9 j 2 s2 fun p4=>(Aj .i64 s2 h1 0).bind fun X=>(Aj .i64 s2 h1 (0+1)).bind fun Y=>(Aj .i64 s2 h1 (0+1+1)).bind fun Z=>(Kg k p4 X Y Z r s2).bind fun q=>sY q.1 fun l s=>bif !s then (some (.bool true,q.2)) else (if (64:Int)=0 then none else gLd B9 j 0 q.2 fun S=>(Bn k S (Ar (l.tdiv (64:Int))) q.2).bind fun c=>(Bk .i64 c.1).bind fun v=>(bif v == 0 then ((Aj .i64 c.2 h1 0).bind fun w=>(Aj .i64 c.2 h1 (0+1)).bind fun x=>(Aj .i64 c.2 h1 (0+1+1)).bind fun y=>(ET k w x y c.2).bind fun b=>(Dl b.1).bind fun t=>(bif t then (gLd B9 j 0 b.2 fun T=>(Aj .i64 b.2 h1 0).bind fun z=>(Aj .i64 b.2 h1 (0+1)).bind fun A=>(Aj .i64 b.2 h1 (0+1+1)).bind fun B=>(EX k z A B b.2).bind fun m=>(Bk .i64 m.1).bind fun C=>(Ci k T (Ar (l.tdiv (64:Int))) C r m.2).bind fun n=>(Bk .i64 n.1).bind fun D=>some (.normal,[qIi D],n.2)) else (gLd B9 j 0 b.2 fun U=>(DK k U (Ar (l.tdiv (64:Int))) r b.2).bind fun o=>(Bk .i64 o.1).bind fun E=>some (.normal,[qIi E],o.2)):Option Bq).bind fun e=>if e.1 = .normal then (ZZ e.2.1 fun F=>bif F != 0 then (some (.ret,[.bool false],e.2.2)) else (some (.normal,[],e.2.2))) else none) else (some (.normal,[],c.2)):Option Bq).bind fun a=>if a.1 = .normal then (gLd B9 j 2 a.2.2 fun V=>(Aj .i64 a.2.2 h1 0).bind fun G=>(Aj .i64 a.2.2 h1 (0+1)).bind fun H=>(Aj .i64 a.2.2 h1 (0+1+1)).bind fun I=>(Ff k V l G H I a.2.2).bind fun d=>GV d.1 fun K L=>gLd B9 j 0 d.2 fun W=>(Aj .i64 d.2 h1 0).bind fun M=>(Aj .i64 d.2 h1 (0+1)).bind fun N=>(Aj .i64 d.2 h1 (0+1+1)).bind fun O=>(FD k W l M N O d.2).bind fun i=>GV i.1 fun P Q=>(bif K == P then some (L == Q,i.2) else some (false,i.2)).bind fun p=>some (.bool p.1,p.2)) else if a.1 = .ret then (oS a.2.1 fun u=>some (.bool u,a.2.2)) else none):=by
 simp only[DK,Ci,FD,Bn,Hi,Ff,ET,EX,Kg,Ac]; kernel_rfl
theorem Ve (k f b J):Bz (k+1) f b J =
 bif b == (-77:Int) then ((Oc k f J).bind fun i=>(Bk .i64 i.1).bind fun l=>some (qIi l,i.2)) else (bif decide (b>=1000) then (some (qIi (Ar (b-1000)),J)) else ((bif decide (b<0) then some (true,J) else some (decide (b>=100),J)).bind fun a=>bif a.1 then (some (qIi b,a.2)) else (gLd B9 f 2 a.2 fun m=>gLd Be m 1 a.2 fun j=>bif ((j.2.1:Nat):Int) == (0:Int) then (some (qIi 0,a.2)) else (gLd B9 f 2 a.2 fun n=>gLd Be n 1 a.2 fun e=>gLd B9 f 2 a.2 fun h=>gLd Be h 1 a.2 fun c=>if ((c.2.1:Nat):Int)=0 then none else if 0<=(b.tmod ((c.2.1:Nat):Int))/\(b.tmod ((c.2.1:Nat):Int))<(e.2.1:Nat) then e.1.bind fun d=>(Aj .i64 a.2 d.block (d.off+(b.tmod ((c.2.1:Nat):Int)).toNat*8+0)).bind fun g=>some (qIi g,a.2) else none)))):=by
 simp only[Bz,Oc,Ac]; kernel_rfl
theorem TL (k a c J):FI (k+1) a c J =
 (BA k a c J).bind fun b=>(Bk .i64 b.1).bind fun d=>bif d != 0 then (some (qIi d,b.2)) else ((Ay k a c b.2).bind fun e=>(Bk .i64 e.1).bind fun g=>(Ji k a g e.2).bind fun f=>W8 f.1 (some (qIi 0,f.2))):=by
 simp only[Ay,FI,Ji,BA,Ac]; kernel_rfl
theorem UX (k c a J):Fq (k+1) c a J =
 (BI k c a J).bind fun b=>(Bk .i64 b.1).bind fun q=>bif q != 0 then (some (qIi q,b.2)) else (gLd xH c 4 b.2 fun j=>gLd Be c 1 b.2 fun p=>if 0<=a/\a<(p.2.1:Nat) then p.1.bind fun o=>(Aj .i64 b.2 o.block (o.off+a.toNat*1)).bind fun r=>(kO b.2 j).bind fun f=>c.bind fun e=>(B9 (oN b.2 j (ML r f)) e.block (e.off+2)).bind fun m=>if (2:Int)=0 then none else (BM k m (Ar (a.tdiv (2:Int))) (0:Int) (oN b.2 j (ML r f))).bind fun d=>(Bk .i64 d.1).bind fun s=>gLd B9 c 3 d.2 fun n=>if (2:Int)=0 then none else (BM k n (Ar (a.tdiv (2:Int))) (0:Int) d.2).bind fun g=>(Bk .i64 g.1).bind fun t=>(DA k c a g.2).bind fun h=>(Bk .i64 h.1).bind fun l=>(Jf k c a l h.2).bind fun i=>W8 i.1 (some (qIi 0,i.2)) else none):=by
 simp only[Fq,BI,DA,Jf,BM,Ac]; kernel_rfl
theorem SS (k h p J):Gy (k+1) h p J =
 Ae J (.cells [qIi 0,qIi 0,qIi 0] Ad true) fun h1 s2=>(BA k h p s2).bind fun g=>(Bk .i64 g.1).bind fun q=>bif q != 0 then ((H5 g.2 h1 0 [qIi 0,qIi 0,qIi 0]).bind fun r=>(((Nm r h1 0 3).bind fun v6=>some (.agg v6.toArray)).bind fun s=>some [s,qIi q]).bind fun o=>some (Lh o,r)) else (gLd Be h 1 g.2 fun d=>(Ay k h p g.2).bind fun c=>(Bk .i64 c.1).bind fun b=>if 0<=b/\b<(d.2.1:Nat) then d.1.bind fun a=>(Aj .i64 c.2 a.block (a.off+b.toNat*8+2)).bind fun i=>(Aj .i64 c.2 a.block (a.off+b.toNat*8+2+1)).bind fun j=>(Aj .i64 c.2 a.block (a.off+b.toNat*8+2+1+1)).bind fun l=>(H5 c.2 h1 0 [qIi i,qIi j,qIi l]).bind fun e=>(((Nm e h1 0 3).bind fun m=>some (.agg m.toArray)).bind fun n=>some [n,qIi 0]).bind fun f=>some (Lh f,e) else none):=by
 simp only[Ay,Gy,BA,Ac]; kernel_rfl
theorem SM (k b c d e J):HD (k+1) b c d e J =
 gLd B9 b 2 J fun i=>(Ga k i c d e J).bind fun a=>(Bk .i64 a.1).bind fun g=>HH b J a.2 (gLd B9 b 0 a.2 fun j=>(CV k j c d e a.2).bind fun f=>(Bk .i64 f.1).bind fun h=>some (.bool (g == h),f.2)):=by
 simp only[CV,HD,Ga,Ac]; kernel_rfl
theorem TF (k d B i J):Iq (k+1) d B i J =
 (CE k d B J).bind fun A=>My A.1 fun C D E=>Ae A.2 (.cells [qIi 0,qIi 0,qIi 0] Am true) fun h5 H=>(H5 H h5 0 [qIi C,qIi D,qIi E]).bind fun f=>(Aj .i64 f h5 (0+0)).bind fun F=>(bif F == 2 then (Aj .i64 f h5 (0+2)).bind fun G=>gLd B9 d 3 f fun v=>(EF k v f).bind fun e=>(Eo e.1).bind fun j=>HH (some ⟨h5,0,none⟩) f e.2 (some (decide (G>=((j.2.1:Nat):Int)),e.2)) else some (false,f)).bind fun a=>bif a.1 then (gLd B9 d 3 a.2 fun w=>(G0 k w i a.2).bind fun c=>(Bk .i64 c.1).bind fun l=>HH d a.2 c.2 (gLd B9 d 1 c.2 fun x=>(G5 k x i c.2).bind fun g=>(Bk .i64 g.1).bind fun m=>some (.bool (l == m),g.2))) else (gLd B9 d 3 a.2 fun y=>(Aj .i64 a.2 h5 0).bind fun n=>(Aj .i64 a.2 h5 (0+1)).bind fun o=>(Aj .i64 a.2 h5 (0+1+1)).bind fun p=>(EK k y n o p i a.2).bind fun b=>(Bk .i64 b.1).bind fun q=>HH d a.2 b.2 (HH (some ⟨h5,0,none⟩) a.2 b.2 (gLd B9 d 1 b.2 fun z=>(Aj .i64 b.2 h5 0).bind fun r=>(Aj .i64 b.2 h5 (0+1)).bind fun s=>(Aj .i64 b.2 h5 (0+1+1)).bind fun t=>(Bc k z r s t i b.2).bind fun h=>(Bk .i64 h.1).bind fun u=>some (.bool (q == u),h.2)))):=by
 simp only[Iq,CE,G0,EF,EK,G5,Bc,Ac]; kernel_rfl
theorem Vh (k b c J):Gx (k+1) b c J =
 (Jj k b c true J).bind fun a=>(Bk .i64 a.1).bind fun d=>some (qIi d,a.2):=by
 simp only[Gx,Jj,Ac]; kernel_rfl
theorem Wc (k b c J):HX (k+1) b c J =
 (JR k b c (1:Int) J).bind fun a=>(Bk .i64 a.1).bind fun d=>some (qIi d,a.2):=by
 simp only[HX,JR,Ac]; kernel_rfl
theorem iD (k b g l m J):Nk (k+1) b g l m J =
 (AF k b J).bind fun d=>(Bk .i64 d.1).bind fun o=>(bif decide (o<=0) then some (true,d.2) else (Cj k g d.2).bind fun i=>(Bk .i64 i.1).bind fun p=>some (p == 0,i.2)).bind fun e=>bif e.1 then (some (.tuple #[qVi none,qIi 1],e.2)) else (Ae e.2 (.cells [qVi b,qVi g,.bool l,qIi m,qIi 0,qVi none,.slice none 0 0,.slice none 0 0,qIi 0] Hy true) fun h r=>(AF k b r).bind fun j=>(Bk .i64 j.1).bind fun q=>if (2:Int)=0 then none else (JB k (Ar ((Ar (q*64)).tdiv (2:Int))) (2:Int) j.2).bind fun a=>Tk a.1 fun c n=>(CY a.2 h (0+5) (qVi c)).bind fun f=>some (.tuple #[qVi (some ⟨h,0,none⟩),qIi 0],f)):=by
 simp only[AF,Cj,JB,Nk,Ac]; kernel_rfl
theorem Wn (k a J):AO (k+1) a J =
 (Lq P PZ (qVi a) (qVi none)).bind fun c=>(bif !c then gLd B9 a 0 J fun e=>(Lq P Fb (qVi e) (qVi none)).bind fun d=>some (!d,J) else some (false,J)).bind fun b=>some (.bool b.1,b.2):=by
 simp only[AO,Ac]; kernel_rfl
theorem Mh (k n c d b f i4 a J):F5 k (n+1) c d b f i4 a J =
 bif decide (a<i4) then (if 0<=a/\a<b then d.bind fun e=>(Aj .i64 J e.block (e.off+a.toNat*1)).bind fun h=>(Cb k c h J).bind fun g=>W8 g.1 (F5 k n c d b f i4 (Ar (a+1)) g.2) else none) else (some (.exit 0,[],J)):=by
 simp only[Cb,F5,Ac]; kernel_rfl
theorem Ue (k b J):EM (k+1) b J =
 gLd B9 b 1 J fun e=>(Dd k e J).bind fun c=>(Eo c.1).bind fun a=>(F5 k k b a.1 a.2.1 a.2.2 ((a.2.1:Nat):Int) (0:Int) c.2).bind fun d=>if d.1 = .exit 0 then (some (.tuple #[],d.2.2)) else none:=by
 simp only[Dd,EM,F5,Ac]; kernel_rfl
theorem MZ (k n f g d h i4 a J):GA k (n+1) f g d h i4 a J =
 bif decide (a<i4) then (if 0<=a/\a<d then g.bind fun b=>(Aj .i64 J b.block (b.off+a.toNat*1)).bind fun e=>(Cb k f e J).bind fun c=>W8 c.1 (GA k n f g d h i4 (Ar (a+1)) c.2) else none) else (some (.exit 1,[],J)):=by
 simp only[Cb,GA,Ac]; kernel_rfl
theorem LP (k a J):En (k+1) a J =
 gLd (Aj .i64) a 4 J fun z=>(bif z == 2 then ((Js k a J).bind fun x=>W8 x.1 (some (.normal,[],x.2))) else (gLd Be a 6 J fun y=>(bif decide (((y.2.1:Nat):Int)>(0:Int)) then (gLd Be a 6 J fun w=>if 0<=(0:Int)/\(0:Int)<(w.2.1:Nat) then w.1.bind fun v=>(Aj .i64 J v.block (v.off+(0:Int).toNat*1)).bind fun s=>gLd Be a 6 J fun d=>(Gj Ak 1 (d.1,d.2.1,d.2.2) (some (qIi 1)) none none J).bind fun e=>(BN k (e.1,e.2.1,e.2.2) J).bind fun h=>(Eo h.1).bind fun f=>a.bind fun g=>(CY h.2 g.block (g.off+6) (.slice f.1 f.2.1 f.2.2)).bind fun q=>gLd B9 a 0 q fun t=>(Bd k t s q).bind fun c=>(Dl c.1).bind fun r=>(bif r then (gLd B9 a 0 c.2 fun u=>(Jh k u s c.2).bind fun i=>(Eo i.1).bind fun b=>(GA k k a b.1 b.2.1 b.2.2 ((b.2.1:Nat):Int) (0:Int) i.2).bind fun j=>if j.1 = .exit 1 then ((CO k a s (2:Int) j.2.2).bind fun l=>W8 l.1 (some (.normal,[],l.2))) else none) else (some (.normal,[],c.2)):Option Bq).bind fun m=>if m.1 = .normal then (some (.normal,[],m.2.2)) else none else none) else ((Ik k a J).bind fun n=>W8 n.1 (some (.normal,[],n.2))):Option Bq).bind fun o=>if o.1 = .normal then (some (.normal,[],o.2.2)) else none):Option Bq).bind fun p=>if p.1 = .normal then (some (.tuple #[],p.2.2)) else none:=by
 simp only[Bd,Jh,BN,Ik,CO,Js,En,GA,Ac]; kernel_rfl
theorem Tg (k a J):BN (k+1) a J =
 (Lq P FR (.slice a.1 a.2.1 a.2.2) (.slice none 0 0)).bind fun c=>bif c then (some (.slice none 0 0,J)) else (Ae J (.cells [] Ak true) fun d e=>(AH P Ak (some ⟨d,0,some 0⟩,0,0) (a.1,a.2.1,a.2.2) e).bind fun b=>some (.slice b.1.1 b.1.2.1 b.1.2.2,b.2)):=by
 simp only[BN,Ac]; kernel_rfl
theorem Wb (k e b J):Bd (k+1) e b J =
 (AV k e J).bind fun c=>(Dl c.1).bind fun h=>(bif h then some (decide (b>=0),c.2) else some (false,c.2)).bind fun d=>(bif d.1 then if (2:Int)=0 then none else some ((b.tmod (2:Int)) == (0:Int),d.2) else some (false,d.2)).bind fun a=>(bif a.1 then gLd B9 e 2 a.2 fun j=>if (2:Int)=0 then none else (DC k j (Ar (b.tdiv (2:Int))) a.2).bind fun f=>(Bk .i64 f.1).bind fun i=>some (i == 1,f.2) else some (false,a.2)).bind fun g=>some (.bool g.1,g.2):=by
 simp only[Bd,AV,DC,Ac]; kernel_rfl
theorem Vn (k b c J):DC (k+1) b c J =
 (Fj k b c J).bind fun a=>(Dl a.1).bind fun e=>bif !e then (some (qIi (-1:Int),a.2)) else ((E6 k b c a.2).bind fun d=>(Bk .i64 d.1).bind fun f=>some (qIi f,d.2)):=by
 simp only[DC,E6,Fj,Ac]; kernel_rfl
theorem SJ (k c d J):BI (k+1) c d J =
 (AV k c J).bind fun a=>(Dl a.1).bind fun e=>bif !e then (some (qIi 5,a.2)) else ((Bd k c d a.2).bind fun b=>(Dl b.1).bind fun f=>bif !f then (some (qIi 4,b.2)) else (some (qIi 0,b.2))):=by
 simp only[Bd,AV,BI,Ac]; kernel_rfl
theorem ZJ (k a J):Hn (k+1) a J =
 Ae J (.cells [qIi 0,qIi 0,qIi 0] Ad true) fun h1 s2=>if (16:Int)=0 then none else if (4096:Int)=0 then none else if (16:Int)=0 then none else if (4096:Int)=0 then none else (H5 s2 h1 0 [qIi (a.tmod (16:Int)),qIi (Ar ((a.tmod (4096:Int)).tdiv (16:Int))),qIi (Ar (a.tdiv (4096:Int)))]).bind fun c=>(((Nm c h1 0 3).bind fun v4=>some (.agg v4.toArray)).bind fun d=>some [d]).bind fun b=>some (Lh b,c):=by
 simp only[Hn,Ac]; kernel_rfl
theorem TA (k p e g u J):CR (k+1) p e g u J =
 (BI k p e J).bind fun f=>(Bk .i64 f.1).bind fun s=>bif s != 0 then (some (.tuple #[qIi 0,qIi s],f.2)) else (gLd Be p 1 f.2 fun r=>if 0<=(Ar (e+1))/\(Ar (e+1))<(r.2.1:Nat) then r.1.bind fun q=>(Aj .i64 f.2 q.block (q.off+(Ar (e+1)).toNat*1)).bind fun v=>(Hn k v f.2).bind fun t=>My t.1 fun w x h=>Ae t.2 (.cells [qIi 0,qIi 0,qIi 0] Ad true) fun b o=>(H5 o b 0 [qIi w,qIi x,qIi h]).bind fun a=>(Aj .i64 a b (0+0)).bind fun i=>(bif u then ((Aj .i64 a b (0+0)).bind fun j=>(Aj .i64 a b (0+1)).bind fun l=>some (.normal,[qIi (Ar ((Ar (e+2))+j)),qIi l],a)) else (some (.normal,[qIi (Ar (e+2)),qIi i],a)):Option Bq).bind fun c=>if c.1 = .normal then (jt c.2.1 fun m n=>(bif decide (g<0) then some (true,c.2.2) else some (decide (g>=n),c.2.2)).bind fun d=>bif d.1 then (some (.tuple #[qIi 0,qIi 1],d.2)) else (some (.tuple #[qIi (Ar (m+g)),qIi 0],d.2))) else none else none):=by
 simp only[CR,BI,Hn,Ac]; kernel_rfl
theorem VC (k a b J):JB (k+1) a b J =
 (bif decide (a<1) then some (true,J) else some (decide (a>4096),J)).bind fun c=>(bif c.1 then some (true,c.2) else Ae c.2 (.cells [qIi 1,qIi 2,qIi 4,qIi 8] Ak true) fun h l=>(C9 k (some ⟨h,0,none⟩,4,4) b l).bind fun f=>(Dl f.1).bind fun g=>some (!g,f.2)).bind fun d=>bif d.1 then (some (.tuple #[qVi none,qIi 1],d.2)) else (if (64:Int)=0 then none else if 0<=(Ar ((Ar ((Ar ((Ar (a*b))+(64:Int)))-(1:Int))).tdiv (64:Int)))/\(Ar ((Ar ((Ar ((Ar (a*b))+(64:Int)))-(1:Int))).tdiv (64:Int)))<=(Ar ((Ar ((Ar ((Ar (a*b))+(64:Int)))-(1:Int))).tdiv (64:Int)))/\(Ar ((Ar ((Ar ((Ar (a*b))+(64:Int)))-(1:Int))).tdiv (64:Int)))*(8:Nat)<=2 ^ 40/\(Ar ((Ar ((Ar ((Ar (a*b))+(64:Int)))-(1:Int))).tdiv (64:Int)))<=2 ^ 40 then Ae d.2 (.cells (rep (Ar ((Ar ((Ar ((Ar (a*b))+(64:Int)))-(1:Int))).tdiv (64:Int))).toNat [.int .u64 0]) tv true) fun i m=>Ae m (.cells [qIi a,qIi b,.slice (some ⟨i,0,none⟩) ((Ar ((Ar ((Ar ((Ar (a*b))+(64:Int)))-(1:Int))).tdiv (64:Int))).toNat) ((Ar ((Ar ((Ar ((Ar (a*b))+(64:Int)))-(1:Int))).tdiv (64:Int))).toNat)] N5 true) fun j e=>some (.tuple #[qVi (some ⟨j,0,none⟩),qIi 0],e) else none):=by
 simp only[JB,C9,Ac]; kernel_rfl
theorem Vr (k h c d e x J):Jo (k+1) h c d e x J =
 Ae J (.cells [qIi c,qIi d,qIi e] Ad true) fun h1 s2=>(AO k h s2).bind fun g=>(Dl g.1).bind fun y=>bif !y then (some (.tuple #[qIi 0,qIi 5],g.2)) else ((Aj .i64 g.2 h1 0).bind fun A=>(Aj .i64 g.2 h1 (0+1)).bind fun B=>(Aj .i64 g.2 h1 (0+1+1)).bind fun C=>(EV k A B C g.2).bind fun o=>(Dl o.1).bind fun z=>bif !z then (some (.tuple #[qIi 0,qIi 2],o.2)) else (gLd B9 h 0 o.2 fun u=>(LU k u x (0:Int) o.2).bind fun a=>Tk a.1 fun v i=>bif i != 0 then (some (.tuple #[qIi 0,qIi i],a.2)) else ((Aj .i64 a.2 h1 0).bind fun p=>(Aj .i64 a.2 h1 (0+1)).bind fun q=>(Aj .i64 a.2 h1 (0+1+1)).bind fun r=>(De k v p q r a.2).bind fun b=>GV b.1 fun j l=>(bif l == 0 then (gLd (Aj .i64) h 3 b.2 fun s=>gLd (Aj .i64) h 4 b.2 fun f=>if 0<=f/\f<(3:Nat) then (([qIi 0,qIi s,qIi 2]:List Value)[f.toNat*1]?).bind fun w=>(Bk .i64 w).bind fun t=>(CO k h j t b.2).bind fun m=>W8 m.1 (some (.normal,[],m.2)) else none) else (some (.normal,[],b.2)):Option Bq).bind fun n=>if n.1 = .normal then (some (.tuple #[qIi j,qIi l],n.2.2)) else none))):=by
 simp only[De,LU,EV,Jo,AO,CO,Ac]; kernel_rfl
theorem Xc (k b d e J):FM (k+1) b d e J =
 (AO k b J).bind fun a=>(Dl a.1).bind fun f=>bif !f then (some (.tuple #[qIi 0,qIi 5],a.2)) else (gLd B9 b 0 a.2 fun i=>(AM k i d e a.2).bind fun c=>GV c.1 fun g h=>some (.tuple #[qIi g,qIi h],c.2)):=by
 simp only[AM,AO,FM,Ac]; kernel_rfl
theorem Wk (k a J):Cr (k+1) a J =
 gLd B9 a 0 J fun b=>some (qVi b,J):=by
 simp only[Cr,Ac]; kernel_rfl
theorem SI (k c l m d J):CV (k+1) c l m d J =
 (CR k c l m false J).bind fun a=>GV a.1 fun e i=>bif i != 0 then (some (qIi i,a.2)) else ((bif d != 0 then (Bd k c d a.2).bind fun j=>(Dl j.1).bind fun n=>some (!n,j.2) else some (false,a.2)).bind fun b=>bif b.1 then (some (qIi 1,b.2)) else (gLd Be c 1 b.2 fun h=>if 0<=e/\e<(h.2.1:Nat) then h.1.bind fun g=>(CY b.2 g.block (g.off+e.toNat*1) (qIi d)).bind fun f=>some (qIi 0,f) else none)):=by
 simp only[Bd,CV,CR,Ac]; kernel_rfl
theorem MR (k f m p q J):D6 (k+1) f m p q J =
 gLd B9 f 0 J fun t=>(CS k t q J).bind fun g=>W8 g.1 ((bif p == 0 then gLd B9 f 0 g.2 fun u=>(Cr k u g.2).bind fun n=>(HR n.1).bind fun v=>(EW k v m n.2).bind fun o=>(Bk .i64 o.1).bind fun s=>some (s == 2,o.2) else some (false,g.2)).bind fun a=>(bif a.1 then (gLd B9 f 0 a.2 fun i=>(Cr k i a.2).bind fun c=>(HR c.1).bind fun j=>(AM k j m (1:Int) c.2).bind fun b=>GV b.1 fun h r=>gLd B9 f 0 b.2 fun l=>(CS k l h b.2).bind fun d=>W8 d.1 (some (.normal,[],d.2))) else (some (.normal,[],a.2)):Option Bq).bind fun e=>if e.1 = .normal then (some (.tuple #[],e.2.2)) else none):=by
 simp only[AM,EW,D6,Cr,CS,Ac]; kernel_rfl
theorem Uc (k b d J):IA (k+1) b d J =
 (AO k b J).bind fun a=>(Dl a.1).bind fun g=>(bif !g then some (true,a.2) else gLd B9 b 0 a.2 fun j=>(Bd k j d a.2).bind fun e=>(Dl e.1).bind fun h=>some (!h,e.2)).bind fun c=>bif c.1 then (some (qIi (-1:Int),c.2)) else ((CG k b d c.2).bind fun f=>(Bk .i64 f.1).bind fun i=>some (qIi i,f.2)):=by
 simp only[Bd,IA,AO,CG,Ac]; kernel_rfl
theorem Wj (k f a d J):D5 (k+1) f a d J =
 (CN k f d J).bind fun c=>(Dl c.1).bind fun g=>bif !g then (some (.slice a.1 a.2.1 a.2.2,c.2)) else ((Mc k (a.1,a.2.1,a.2.2) d c.2).bind fun e=>(Eo e.1).bind fun b=>some (.slice b.1 b.2.1 b.2.2,e.2)):=by
 simp only[CN,D5,Mc,Ac]; kernel_rfl
theorem Xb (k a b c e J):GQ (k+1) a b c e J =
 Ae J (.cells [qIi a,qIi b,qIi c] Ad true) fun h1 s2=>(Aj .i64 s2 h1 (0+2)).bind fun i=>(bif i != 1 then (Aj .i64 s2 h1 (0+2)).bind fun j=>some (j != 2,s2) else some (false,s2)).bind fun d=>(bif d.1 then some (true,d.2) else (bif decide (e>0) then (Aj .i64 d.2 h1 (0+2)).bind fun l=>(bif l == 1 then some (true,d.2) else some (decide (e>1),d.2)).bind fun f=>some (f.1,f.2) else some (false,d.2)).bind fun g=>some (g.1,g.2)).bind fun h=>some (.bool h.1,h.2):=by
 simp only[GQ,Ac]; kernel_rfl
theorem TQ (k l a b c J):DN (k+1) l a b c J =
 Ae J (.cells [qIi a,qIi b,qIi c] Am true) fun h1 s2=>(Aj .i64 s2 h1 (0+0)).bind fun u=>bif u == 0 then (gLd Be l 0 s2 fun s=>(Aj .i64 s2 h1 (0+1)).bind fun p=>if 0<=p/\p<(s.2.1:Nat) then s.1.bind fun r=>(Be s2 r.block (r.off+p.toNat*1)).bind fun t=>(Aj .i64 s2 h1 (0+2)).bind fun q=>if 0<=q/\q<(t.2.1:Nat) then t.1.bind fun f=>(Aj .i64 s2 f.block (f.off+q.toNat*1)).bind fun m=>some (qIi m,s2) else none else none) else (bif u == 1 then (gLd Be l 1 s2 fun i=>(Aj .i64 s2 h1 (0+2)).bind fun d=>if 0<=d/\d<(i.2.1:Nat) then i.1.bind fun g=>(Aj .i64 s2 g.block (g.off+d.toNat*1)).bind fun n=>some (qIi n,s2) else none) else (gLd Be l 2 s2 fun j=>(Aj .i64 s2 h1 (0+2)).bind fun e=>if 0<=e/\e<(j.2.1:Nat) then j.1.bind fun h=>(Aj .i64 s2 h.block (h.off+e.toNat*1)).bind fun o=>some (qIi o,s2) else none)):=by
 simp only[DN,Ac]; kernel_rfl
theorem Tc (k a J):Bh (k+1) a J =
 (Lq P FO (qVi a) (qVi none)).bind fun c=>(bif !c then gLd (Aj .i64) a 0 J fun d=>some (decide (d>0),J) else some (false,J)).bind fun b=>some (.bool b.1,b.2):=by
 simp only[Bh,Ac]; kernel_rfl
theorem Vm (k p d e f J):Jn (k+1) p d e f J =
 Ae J (.cells [qIi d,qIi e,qIi f] Am true) fun h1 s2=>(Aj .i64 s2 h1 (0+0)).bind fun z=>(bif z == 0 then (Aj .i64 s2 h1 (0+1)).bind fun A=>some (decide (A>=0),s2) else some (false,s2)).bind fun o=>(bif o.1 then (Aj .i64 o.2 h1 (0+1)).bind fun B=>gLd (Aj .i64) p 0 o.2 fun C=>some (decide (B<C),o.2) else some (false,o.2)).bind fun b=>bif b.1 then (gLd Be p 1 b.2 fun g=>(Aj .i64 b.2 h1 (0+1)).bind fun q=>(Aj .i64 b.2 h1 (0+1)).bind fun r=>(Gj Ak 1 (g.1,g.2.1,g.2.2) (some (qIi (Ar (q*16)))) (some (qIi (Ar ((Ar (r+1))*(16:Int))))) none b.2).bind fun h=>(EG k (h.1,h.2.1,h.2.2) (some ⟨h1,0,none⟩) b.2).bind fun l=>(HR l.1).bind fun w=>some (qVi w,l.2)) else ((Aj .i64 b.2 h1 (0+0)).bind fun s=>(bif s == 1 then (Aj .i64 b.2 h1 (0+1)).bind fun t=>some (t == 0,b.2) else some (false,b.2)).bind fun a=>bif a.1 then (gLd Be p 2 a.2 fun i=>(EG k (i.1,i.2.1,i.2.2) (some ⟨h1,0,none⟩) a.2).bind fun m=>(HR m.1).bind fun x=>some (qVi x,m.2)) else ((Aj .i64 a.2 h1 (0+0)).bind fun u=>(bif u == 2 then (Aj .i64 a.2 h1 (0+1)).bind fun v=>some (v == 0,a.2) else some (false,a.2)).bind fun c=>bif c.1 then (gLd Be p 3 c.2 fun j=>(EG k (j.1,j.2.1,j.2.2) (some ⟨h1,0,none⟩) c.2).bind fun n=>(HR n.1).bind fun y=>some (qVi y,n.2)) else (some (qVi none,c.2)))):=by
 simp only[Jn,EG,Ac]; kernel_rfl
theorem SZ (k a J):AZ (k+1) a J =
 (Lq P Hr (qVi a) (qVi none)).bind fun c=>(bif !c then gLd Be a 0 J fun d=>some (decide (((d.2.1:Nat):Int)>(0:Int)),J) else some (false,J)).bind fun b=>some (.bool b.1,b.2):=by
 simp only[AZ,Ac]; kernel_rfl
theorem TM (k a J):Az (k+1) a J =
 (Lq P Kq (qVi a) (qVi none)).bind fun c=>(bif !c then gLd Be a 0 J fun d=>some (decide (((d.2.1:Nat):Int)>(0:Int)),J) else some (false,J)).bind fun b=>some (.bool b.1,b.2):=by
 simp only[Az,Ac]; kernel_rfl
theorem MU (k n d i1 a J):Gv k (n+1) d i1 a J =
 gLd Be d 1 J fun h=>bif decide (a<((h.2.1:Nat):Int)) then (gLd Be d 1 J fun g=>if 0<=a/\a<(g.2.1:Nat) then g.1.bind fun f=>(Aj .i64 J f.block (f.off+a.toNat*8+1)).bind fun i=>bif i == i1 then (gLd Be d 1 J fun c=>if 0<=a/\a<(c.2.1:Nat) then c.1.bind fun b=>(Aj .i64 J b.block (b.off+a.toNat*8+0)).bind fun e=>some (.ret,[qIi e,qIi 0],J) else none) else (Gv k n d i1 (Ar (a+1)) J) else none) else (some (.exit 0,[],J)):=by
 simp only[Gv,Ac]; kernel_rfl
theorem Wh (k e f J):Ig (k+1) e f J =
 (Az k e J).bind fun d=>(Dl d.1).bind fun g=>bif !g then (some (.tuple #[qIi 0,qIi 5],d.2)) else ((Gv k k e f (0:Int) d.2).bind fun a=>if a.1 = .exit 0 then (some (.tuple #[qIi 0,qIi 4],a.2.2)) else if a.1 = .ret then (jt a.2.1 fun b c=>some (.tuple #[qIi b,qIi c],a.2.2)) else none):=by
 simp only[Ig,Gv,Az,Ac]; kernel_rfl
theorem Ym (k b c J):DB (k+1) b c J =
 (HE k b c J).bind fun a=>GV a.1 fun d e=>some (qIi d,a.2):=by
 simp only[HE,DB,Ac]; kernel_rfl
theorem bQ (k O K f g h i j a b l m n o p q c d r G A J):NF (k+1) O K f g h i j a b l m n o p q c d r G A J =
 Ae J (.cells [qIi f,qIi g,qIi h,qIi i,qIi j,.slice a.1 a.2.1 a.2.2,.slice b.1 b.2.1 b.2.2,.bool l] Ab true) fun h1 s2=>Ae s2 (.cells [qIi m,qIi n,qIi o,qIi p,qIi q,.slice c.1 c.2.1 c.2.2,.slice d.1 d.2.1 d.2.2,.bool r] Ab true) fun L z=>(bif G == 0 then (Aj .i64 z h1 (0+2+2)).bind fun M=>(bif M == 1 then some (true,z) else (Aj .i64 z h1 (0+2+2)).bind fun N=>some (N == 2,z)).bind fun I=>some (I.1,I.2) else some (false,z)).bind fun s=>bif s.1 then ((Be s.2 h1 (0+5)).bind fun H=>if 0<=(0:Int)/\(0:Int)<(H.2.1:Nat) then H.1.bind fun t=>(Aj .i64 s.2 t.block (t.off+(0:Int).toNat*1)).bind fun C=>(I0 k (A.1,A.2.1,A.2.2) C s.2).bind fun w=>(Dl w.1).bind fun B=>some (.bool (!B),w.2) else none) else ((bif G == 1 then (Aj .i64 s.2 h1 (0+2+2)).bind fun D=>some (D == 2,s.2) else some (false,s.2)).bind fun e=>(bif e.1 then (Be e.2 L (0+5)).bind fun v=>if 0<=(0:Int)/\(0:Int)<(v.2.1:Nat) then v.1.bind fun u=>(Aj .i64 e.2 u.block (u.off+(0:Int).toNat*1)).bind fun E=>(DB k K E e.2).bind fun x=>(Bk .i64 x.1).bind fun F=>some (F == 0,x.2) else none else some (false,e.2)).bind fun y=>some (.bool y.1,y.2)):=by
 simp only[I0,DB,NF,Ac]; kernel_rfl
theorem Od (k n c d b g a J):G1 k (n+1) c d b g a J =
 bif decide (a<(b:Int)) then (if 0<=a/\a<b then d.bind fun f=>(Aj .i64 J f.block (f.off+a.toNat*1)).bind fun i=>(CN k c i J).bind fun e=>(Dl e.1).bind fun h=>bif !h then (some (.ret,[.bool false],e.2)) else (G1 k n c d b g (Ar (a+1)) e.2) else none) else (some (.exit 0,[],J)):=by
 simp only[CN,G1,Ac]; kernel_rfl
theorem Of (k n j i1 b J):H3 k (n+1) j i1 b J =
 gLd Be j 1 J fun f=>if 0<=i1/\i1<(f.2.1:Nat) then f.1.bind fun c=>(Be J c.block (c.off+i1.toNat*8+5)).bind fun o=>bif decide (b<((o.2.1:Nat):Int)) then (gLd Be j 1 J fun g=>if 0<=i1/\i1<(g.2.1:Nat) then g.1.bind fun d=>(Be J d.block (d.off+i1.toNat*8+5)).bind fun h=>if 0<=b/\b<(h.2.1:Nat) then h.1.bind fun e=>(Aj .i64 J e.block (e.off+b.toNat*1)).bind fun i=>(bif i != 0 then (CN k j i J).bind fun l=>(Dl l.1).bind fun m=>some (!m,l.2) else some (false,J)).bind fun a=>bif a.1 then (some (.ret,[.bool false],a.2)) else (H3 k n j i1 (Ar (b+1)) a.2) else none else none) else (some (.exit 4,[],J)) else none:=by
 simp only[CN,H3,Ac]; kernel_rfl
theorem Oe (k n b c J):G2 k (n+1) b c J =
 gLd Be b 1 J fun e=>bif decide (c<((e.2.1:Nat):Int)) then ((H3 k k b c (0:Int) J).bind fun a=>if a.1 = .exit 4 then (G2 k n b (Ar (c+1)) a.2.2) else if a.1 = .ret then (oS a.2.1 fun d=>some (.ret,[.bool d],a.2.2)) else none) else (some (.exit 2,[],J)):=by
 simp only[G2,H3,Ac]; kernel_rfl
theorem Yh (k f h J):Nw (k+1) f h J =
 (BO k h J).bind fun g=>(Eo g.1).bind fun e=>(G1 k k f e.1 e.2.1 e.2.2 (0:Int) g.2).bind fun b=>if b.1 = .exit 0 then ((G2 k k f (0:Int) b.2.2).bind fun a=>if a.1 = .exit 2 then (some (.bool true,a.2.2)) else if a.1 = .ret then (oS a.2.1 fun c=>some (.bool c,a.2.2)) else none) else if b.1 = .ret then (oS b.2.1 fun d=>some (.bool d,b.2.2)) else none:=by
 simp only[BO,Nw,G1,G2,Ac]; kernel_rfl
theorem ZP (k b c J):FG (k+1) b c J =
 (bif c == 0 then (bif b == 1 then some (true,J) else some (b == 2,J)).bind fun d=>some (d.1,d.2) else some (false,J)).bind fun a=>(bif a.1 then some (true,a.2) else (bif c == 1 then some (b == 2,a.2) else some (false,a.2)).bind fun e=>some (e.1,e.2)).bind fun f=>some (.bool f.1,f.2):=by
 simp only[FG,Ac]; kernel_rfl
theorem ZN (k g h J):EW (k+1) g h J =
 (AL k g h J).bind fun f=>(az f.1).bind fun c=>if c.length=2 then c.head?.bind fun m=>My m fun i j l=>c.tail.head?.bind fun n=>(Bk .i64 n).bind fun o=>Ae f.2 (.cells [qIi 0,qIi 0,qIi 0] Ad true) fun e d=>(H5 d e 0 [qIi i,qIi j,qIi l]).bind fun a=>(Aj .i64 a e (0+2)).bind fun b=>some (qIi b,a) else none:=by
 simp only[AL,EW,Ac]; kernel_rfl
theorem Ud (k a d J):CS (k+1) a d J =
 gLd (Aj .i64) a 4 J fun e=>(bif e == 1 then ((Cb k a d J).bind fun b=>W8 b.1 (some (.normal,[],b.2))) else (some (.normal,[],J)):Option Bq).bind fun c=>if c.1 = .normal then (some (.tuple #[],c.2.2)) else none:=by
 simp only[Cb,CS,Ac]; kernel_rfl
theorem QN (k n b i1 a J):Fz k (n+1) b i1 a J =
 gLd (Aj .i64) b 0 J fun d=>bif decide (a<d) then ((E6 k b a J).bind fun c=>(Bk .i64 c.1).bind fun e=>bif e == i1 then (some (.ret,[qIi a,qIi 0],c.2)) else (Fz k n b i1 (Ar (a+1)) c.2)) else (some (.exit 0,[],J)):=by
 simp only[Fz,E6,Ac]; kernel_rfl
theorem TZ (k c d e J):DO (k+1) c d e J =
 (BZ k c J).bind fun b=>(Dl b.1).bind fun f=>bif !f then (some (.tuple #[qIi 0,qIi 5],b.2)) else ((Fz k k c e (if (0:Int)>d then (0:Int) else d) b.2).bind fun a=>if a.1 = .exit 0 then (some (.tuple #[qIi 0,qIi 4],a.2.2)) else if a.1 = .ret then (jt a.2.1 fun g h=>some (.tuple #[qIi g,qIi h],a.2.2)) else none):=by
 simp only[DO,Fz,BZ,Ac]; kernel_rfl
theorem Yn (k a c J):Hv (k+1) a c J =
 (bif a != 0 then c.bind fun b=>(B9 J b.block b.off).bind fun g=>(Bd k g a J).bind fun d=>(Dl d.1).bind fun f=>some (!f,d.2) else some (false,J)).bind fun e=>some (.bool e.1,e.2):=by
 simp only[Bd,Hv,Ac]; kernel_rfl
theorem JU (k a c J):CM (k+1) a c J =
 (Hp k (a.1,a.2.1,a.2.2) (c) J).bind fun b=>(Bk .i64 b.1).bind fun d=>some (.bool (decide (d>=0)),b.2):=by
 simp only[CM,Hp,Ac]; kernel_rfl
theorem RK (k e J):Dd (k+1) e J =
 (Bh k e J).bind fun c=>(Dl c.1).bind fun h=>bif !h then (some (.slice none 0 0,c.2)) else (Ae c.2 (.cells [.slice none 0 0] FR true) fun f j=>(GZ k e j).bind fun d=>bif kK d.1 then (Ae d.2 (.loop 168 .ready (Hk 0 26 [(3,qVi (some ⟨f,0,none⟩))])) fun g l=>(LV k d.1 [.func (.yield g) #[] #[]] l).bind fun i=>Pb g i.2 fun m b=>if m = .normal then ((Be b f 0).bind fun a=>some (.slice a.1 a.2.1 a.2.2,b)) else none) else none):=by
 simp only[LV,Dd,GZ,Bh,Ac]; kernel_rfl
theorem M9 (k c a J):Cg (k+1) c a J =
 (AV k c J).bind fun e=>(Dl e.1).bind fun h=>(bif !h then some (true,e.2) else some (decide (a<0),e.2)).bind fun b=>(bif b.1 then some (true,b.2) else gLd Be c 0 b.2 fun i=>some (decide (a>=((i.2.1:Nat):Int)),b.2)).bind fun f=>bif f.1 then (some (.slice none 0 0,f.2)) else ((EC k c (Ar (a*64)) (Ar ((Ar (a+1))*(64:Int))) f.2).bind fun g=>(Eo g.1).bind fun d=>some (.slice d.1 d.2.1 d.2.2,g.2)):=by
 simp only[Cg,EC,AV,Ac]; kernel_rfl
theorem ZI (k a b c J):Hm (k+1) a b c J =
 Ae J (.cells [qIi a,qIi b,qIi c] Ad true) fun h1 s2=>(Aj .i64 s2 h1 0).bind fun f=>(Aj .i64 s2 h1 (0+1)).bind fun g=>(Aj .i64 s2 h1 (0+1+1)).bind fun h=>(EV k f g h s2).bind fun d=>(Dl d.1).bind fun e=>bif !e then (some (qIi 0,d.2)) else ((Aj .i64 d.2 h1 (0+0)).bind fun i=>(Aj .i64 d.2 h1 (0+1)).bind fun j=>if (2:Int)=0 then none else some (qIi (Ar ((Ar ((Ar ((Ar ((Ar ((2:Int)+i))+j))+(1:Int))).tdiv (2:Int)))*(2:Int))),d.2)):=by
 simp only[EV,Hm,Ac]; kernel_rfl
theorem KZ (k n b i1 a J):Er k (n+1) b i1 a J =
 bif decide (a>0) then (gLd Be b 0 J fun e=>if 0<=(Ar ((Ar (i1+a))-(1:Int)))/\(Ar ((Ar (i1+a))-(1:Int)))<(e.2.1:Nat) then e.1.bind fun d=>(H5 J d.block (d.off+(Ar ((Ar (i1+a))-(1:Int))).toNat*2) [qIi 0,qIi 0]).bind fun c=>Er k n b i1 (Ar (a-1)) c else none) else (some (.exit 0,[],J)):=by
 simp only[Er,Ac]; kernel_rfl
end
end
end
end Go.Proofs.YtjbledomkmdkmaaGreat
