/- Part 6. -/
import Derived.ProofKit
import Derived.Carry
import Derived.Test.YtjbledomkmdkmaaGreatP5
import Derived.Test.YtjbledomkmdkmaaGreatP4
set_option linter.unusedVariables false
set_option linter.unusedSimpArgs false
set_option linter.unusedSectionVars false
namespace Go.AX
open Go Go.RowKit Go.ChangeShapes Go.WideShapes Go.ChangeAt
noncomputable section
abbrev qOi:=Option Addr
abbrev qSi:=qOi × Nat × Nat
abbrev qIi (n:Int):Value:=.int .i64 n
abbrev qVi (p:qOi):Value:=.pointer p
section
variable {P:Program}
theorem dP {Z a:Mu} {J J':Aa} {w w':World} (h:Step Z J w a J' w') (d:∀ b,b<J.length->¬ AJ J b):Below w.heap.size w w':=
 ⟨h.os,h.tape,h.output,h.size,fun k c=>h.frame k c fun b _ hb _ _=>d b hb⟩
theorem VL {H:Type} {enc:TypeId × Value->H} (l:laidOutB P=true) {W k:World} (hb:Below W.heap.size W k):∀ {g:List TypeId} {i:List Value} {e:List (DataW H)} {c:List MemPlace},
  (g.all fun t=>P.readableRec t && decide (t<P.types.size))=true->DataW.TrodAll enc P W 0 (fun _=>true) true g i e c->(∀ x ∈ c,x.block<W.heap.size) ->
  DataW.TrodAll enc P k 0 (fun b=>decide (b<W.heap.size)) true g i e c
 | [],i,e,c,_,h,_=>by
   obtain ⟨rfl,rfl,rfl⟩:=trodAll_nil h;rfl
 | t::g,i,e,c,f,h,a=>by
   simp only[Ahr,Adi,Adu] at f;obtain ⟨v,o,d,m,p,q,rfl,rfl,rfl,h1,n⟩:=trodAll_cons h;exact ⟨p,q,Below.trod l f.1.1 f.1.2 h1 hb (fun x j=>a x (by simp[j])),VL l hb f.2 n (fun x j=>a x (by simp[j])),rfl⟩
theorem si {H:Type} {enc:TypeId × Value->H} {f:Func} {s:ChangeSpec} {apart:Bool} {W j:World} {args:Array Value} {v:Value} {d gs:List (DataW H)} {before:List MemPlace}
  (k:DataW.Whole enc P f.params.toList s.vars apart W args.toList d gs before) (w:laidOutB P=true) (hp:(f.params.toList.all fun t=>P.readableRec t && decide (t<P.types.size))=true)
  (o:s.vars=[]) (i:∀ (b:Nat) (sp:Nat->Bool) (hd:Bool),DataW.TrodAll enc P j b sp hd f.resultTypes.toList (v.resultList f.resultTypes.size) (s.fn H (d++gs)).results [])
  (a:(s.fn H (d++gs)).args=d) (c:(s.fn H (d++gs)).vars=[]) (hb:Below W.heap.size W j):
  s.post enc P f apart true false false W args v j:=by
 have g:=k.lt;have l:=k;obtain ⟨p,q,r,u,m,n⟩:=k;have e:=u;rw[o] at e;obtain ⟨rfl,rfl⟩:=trodVars_none e;refine ⟨d,[],before,[],before,[],l,i _ _ _, ?_, ?_,hb.frame _,fun h=>by cases h⟩
 ·rw[a];subst m;rw[Abu] at g ⊢;exact VL w hb hp r g
 ·rw[c,o];rfl
end
end
end Go.AX
namespace Go.AX
open Go
noncomputable section
section
def okW (w:Nat):Prop:=w=1\/w=2\/w=4\/w=8
def CG (w:Nat) (ws:List (BitVec 64)) (i:Nat):Nat:=((ws.getD (i*w/64) 0) >>> (i*w % 64)).toNat % 2 ^ w
def xW (w:Nat) (x:BitVec 64) (s v:Nat):BitVec 64:=(x &&& ~~~ (BitVec.ofNat 64 (2 ^ w-1) <<< s)) ||| (BitVec.ofNat 64 v <<< s)
def F9 (w:Nat) (ws:List (BitVec 64)) (i v:Nat):List (BitVec 64):=ws.set (i*w/64) (xW w (ws.getD (i*w/64) 0) (i*w % 64) v)
theorem Eg (w ws i v):(F9 w ws i v).length=ws.length:=by simp[F9]
theorem iC {w i:Nat} (h:okW w):i*w % 64+w<=64:=by rcases h with rfl | rfl | rfl | rfl <;> omega
theorem rU {w i j:Nat} (h:okW w) (a:i≠j) (hs:i*w/64=j*w/64):i*w % 64+w<=j*w % 64\/j*w % 64+w<=i*w % 64:=by
 rcases h with rfl | rfl | rfl | rfl <;> omega
theorem dJ (w:Nat) (x:BitVec 64) (s t:Nat):((x >>> s).toNat % 2 ^ w).testBit t=(decide (t<w) && x.getLsbD (s+t)):=by
 rw[Nat.testBit_mod_two_pow];congr 1;rw[<- BitVec.getLsbD];simp[BitVec.getLsbD_ushiftRight]
theorem mn (w:Nat) (x:BitVec 64) (s v p:Nat) (hp:p<64):(xW w x s v).getLsbD p=((x.getLsbD p && !(decide (s<=p) && decide (p-s<w))) || (decide (s<=p) && v.testBit (p-s))):=by
 unfold xW;simp only[BitVec.getLsbD_or,BitVec.getLsbD_and,BitVec.getLsbD_not,BitVec.getLsbD_shiftLeft,BitVec.getLsbD_ofNat,Nat.testBit_two_pow_sub_one,hp,Ag5,Afw];have a:p-s<64:=by omega
 by_cases h:s<=p
 ·have h1:¬ p<s:=by omega
  simp[h,h1,a]
 ·have h1:p<s:=by omega
  simp[h,h1]
theorem ER {w:Nat} {ws:List (BitVec 64)} {i v:Nat} (h:okW w) (b:v<2 ^ w) (hi:i*w/64<ws.length):CG w (F9 w ws i v) i=v:=by
 have c:=iC (i:=i) h;apply Nat.eq_of_testBit_eq;intro t;unfold CG F9;rw[dJ,Abi,Abq (by simpa using hi),Afi];by_cases a:t<w
 ·rw[mn _ _ _ _ _ (by omega)];have e:i*w % 64+t-i*w % 64=t:=by omega
  simp[a,e]
 ·have:v.testBit t=false:=Nat.testBit_lt_two_pow (Acz b (Nat.pow_le_pow_right (by decide) (by omega)));simp[a,this]
theorem Cc {w:Nat} {ws:List (BitVec 64)} {i j v:Nat} (h:okW w) (g:v<2 ^ w) (b:i≠j):CG w (F9 w ws i v) j=CG w ws j:=by
 have k:=iC (i:=i) h;have d:=iC (i:=j) h;unfold CG F9;by_cases hs:i*w/64=j*w/64
 ·by_cases e:j*w/64<ws.length
  ·apply Nat.eq_of_testBit_eq;intro t;rw[dJ,dJ,hs,Abi,Abq (by simpa using e),Afi];by_cases f:t<w
   ·rw[mn _ _ _ _ _ (by omega)];rcases rU h b hs with h1 | h1
    ·have a:¬ (j*w % 64+t-i*w % 64<w):=by omega
     have c:v.testBit (j*w % 64+t-i*w % 64)=false:=Nat.testBit_lt_two_pow (Acz g (Nat.pow_le_pow_right (by decide) (by omega)));simp[a,c]
    ·have a:¬ (i*w % 64<=j*w % 64+t):=by omega
     simp[a]
   ·simp[f]
  ·rw[List.set_eq_of_length_le (by rw[hs]; omega)]
 ·rw[Abi,Aaf hs,<- Abi]
theorem xO (w ws i):CG w ws i<2 ^ w:=Ael _ (Ag8 w)
theorem Pj (w n i:Nat):CG w (List.replicate n 0#64) i=0:=by
 unfold CG;have:(List.replicate n 0#64).getD (i*w/64) 0=0#64:=by
  rw[Abi,Aec];split <;> rfl
 rw[this]; simp
theorem Kh (n:Int):(BitVec.ofInt 64 n).toNat=(n % 18446744073709551616).toNat:=by
 rw[BitVec.toNat_ofInt]; rfl
theorem rT (n:Int):BitVec.ofInt 64 (Ar n)=BitVec.ofInt 64 n:=by
 apply Agc;rw[Kh,Kh,Ar,Afa];congr 1;omega
theorem je (n:Int):u64 n=n % 18446744073709551616:=by
 simp[u64,IntKind.wrap,IntKind.bits,IntKind.signed]
theorem ofInt_u64 (n:Int):BitVec.ofInt 64 (u64 n)=BitVec.ofInt 64 n:=by
 apply Agc;rw[Kh,Kh,je];congr 1;omega
theorem gm (n:Nat):BitVec.ofInt 64 (n:Int)=BitVec.ofNat 64 n:=by
 apply Agc;rw[Kh,Ahh];omega
theorem Uk (x:BitVec 64):BitVec.ofInt 64 (x.toNat:Int)=x:=by
 rw[gm,BitVec.ofNat_toNat,BitVec.setWidth_eq]
theorem sX (x:BitVec 64):u64 (x.toNat:Int)=(x.toNat:Int):=by
 have:=x.isLt;rw[je]; omega
theorem XB {n:Nat} (h:n<9223372036854775808):Ar (n:Int)=(n:Int):=Ai (by unfold AO; omega)
theorem rz (x:BitVec 64) (s:Nat) (hs:s<64):(x.toNat:Int).fdiv (2 ^ (min s 64))=((x >>> s).toNat:Int):=by
 rw[Af3 (by omega),Int.fdiv_eq_ediv_of_nonneg _ (Int.pow_nonneg (by decide)),BitVec.toNat_ushiftRight,Nat.shiftRight_eq_div_pow]
 norm_cast
theorem uj (x:BitVec 64) (s w:Nat) (hs:s<64) (hw:okW w):
  Ar ((BitVec.ofInt 64 (Ar ((x.toNat:Int).fdiv (2 ^ (min s 64)))) &&& BitVec.ofInt 64 ((2 ^ w-1:Nat):Int)).toNat:Int)=(((x >>> s).toNat % 2 ^ w:Nat):Int):=by
 rw[rz x s hs,rT,Uk,gm,BitVec.toNat_and,Ahh];have h1:(2 ^ w-1) % 2 ^ 64=2 ^ w-1:=by rcases hw with rfl | rfl | rfl | rfl <;> rfl
 rw[h1,Nat.and_two_pow_sub_one_eq_mod];have a:(x >>> s).toNat % 2 ^ w<2 ^ w:=Ael _ (Ag8 w);have b:2 ^ w<=256:=by rcases hw with rfl | rfl | rfl | rfl <;> decide
 exact XB (by omega)
theorem lY (a s:Nat) (hs:s<64):BitVec.ofInt 64 (u64 ((u64 (a:Int))*2 ^ (min s 64)))=BitVec.ofNat 64 a <<< s:=by
 rw[ofInt_u64,Af3 (by omega)];apply Agc;rw[Kh,je,BitVec.toNat_shiftLeft,Ahh,Nat.shiftLeft_eq];have b:((2 ^ 64:Nat):Int)=18446744073709551616:=by decide
 have:((a:Int) % 18446744073709551616*2 ^ s)=((a % 2 ^ 64*2 ^ s:Nat):Int):=by
  rw[Ah5,Int.natCast_emod,b,Int.natCast_pow]; rfl
 rw[this];generalize a % 2 ^ 64*2 ^ s=y;omega
theorem uT (x:BitVec 64) (s w v:Nat) (hs:s<64):
  u64 ((BitVec.ofInt 64 (u64 ((BitVec.ofInt 64 (x.toNat:Int) &&& ~~~ (BitVec.ofInt 64 (u64 ((u64 ((2 ^ w-1:Nat):Int))*2 ^ (min s 64))))).toNat:Int)) ||| BitVec.ofInt 64 (u64 ((u64 (v:Int))*2 ^ (min s 64)))).toNat:Int)=((xW w x s v).toNat:Int):=by
 rw[lY _ _ hs,lY _ _ hs,sX,ofInt_u64,Uk,Uk];rfl
def QR (g:Nat->Nat) (e v:Nat) (i:Nat):Option Nat:=if h:i<e then (if g i=v then some i else QR g e v (i+1)) else none
termination_by e-i
def QO (g:Nat->Nat) (v:Nat):Nat->Option Nat
 | 0=>none
 | i+1=>if g i=v then some i else QO g v i
theorem RS {g:Nat->Nat} {e v i j:Nat} (h:QR g e v i=some j):i<=j/\j<e/\g j=v /\ ∀ t,i<=t->t<j->g t≠v:=by
 unfold QR at h;split at h
 ·split at h
  ·cases h; exact ⟨Abp _,by assumption,by assumption,fun t h1 d=>by omega⟩
  ·rename_i a;obtain ⟨h1,d,f,k⟩:=RS h;refine ⟨by omega,d,f,fun t b c=>?_⟩;rcases Ahi b with rfl | l
   ·exact a
   ·exact k t l c
 ·cases h
termination_by e-i
theorem RL {g:Nat->Nat} {v:Nat}:∀ {i j:Nat},QO g v i=some j->j<i/\g j=v /\ ∀ t,j<t->t<i->g t≠v
 | 0,_,h=>by cases h
 | i+1,j,h=>by
   simp only[QO] at h;split at h
   ·cases h; exact ⟨by omega,by assumption,fun t h1 c=>by omega⟩
   ·rename_i a;obtain ⟨h1,c,e⟩:=RL h;refine ⟨by omega,c,fun t b f=>?_⟩;rcases Aeb t i with d | d
    ·exact e t b d
    ·obtain rfl:t=i:=by omega
     exact a
theorem cp {g:Nat->Nat} {v:Nat}:∀ {i:Nat},QO g v i=none -> ∀ t,t<i->g t≠v
 | 0,_,t,c=>by omega
 | i+1,h,t,c=>by
   simp only[QO] at h;split at h
   ·cases h
   ·rename_i b;rcases Aeb t i with a | a
    ·exact cp h t a
    ·obtain rfl:t=i:=by omega
     exact b
end
end
end Go.AX
namespace Go.Proofs.YtjbledomkmdkmaaGreat
open Go Go.AX
noncomputable section
section
set_option maxRecDepth 100000
abbrev Ak:TypeId:=3
abbrev Dv:TypeId:=27
abbrev Ed:TypeId:=28
abbrev Hl:TypeId:=31
abbrev DQ:TypeId:=32
abbrev FP:TypeId:=33
abbrev AN:TypeId:=35
abbrev Ki:TypeId:=43
abbrev EY:TypeId:=45
abbrev FM:TypeId:=46
abbrev Hm:TypeId:=47
abbrev BJ:TypeId:=49
abbrev fe:TypeId:=52
abbrev Am:TypeId:=55
abbrev ff:TypeId:=61
abbrev NM:TypeId:=63
abbrev Oh:TypeId:=65
abbrev Ho:TypeId:=73
abbrev Ad:TypeId:=97
abbrev PS:TypeId:=101
abbrev Db:TypeId:=107
abbrev As:TypeId:=109
abbrev Ab:TypeId:=111
abbrev iH:TypeId:=122
abbrev L8:TypeId:=136
abbrev FQ:TypeId:=139
abbrev Ga:TypeId:=173
abbrev Dt:TypeId:=3
abbrev JF:TypeId:=149
abbrev BM:TypeId:=156
abbrev IB:TypeId:=165
abbrev Hu:TypeId:=171
abbrev Bj:TypeId:=173
abbrev ML:TypeId:=179
abbrev XA:TypeId:=187
abbrev N0:TypeId:=223
abbrev B8:TypeId:=242
abbrev JC:TypeId:=224
abbrev sW:TypeId:=242
abbrev Nz:TypeId:=246
abbrev Cw:TypeId:=248
abbrev St:TypeId:=251
abbrev Sa:TypeId:=256
abbrev AF:TypeId:=259
abbrev Ju:TypeId:=268
abbrev eE:TypeId:=269
abbrev eK:TypeId:=270
abbrev eJ:TypeId:=271
abbrev dE:TypeId:=272
abbrev Z3:TypeId:=290
def Hf (i:Nat):Nat->List (Nat × Value)->Bo
 | 0,_=>[]
 | n+1,[]=>none::Hf (i+1) n []
 | n+1,(j,v)::l=>bif Nat.beq i j then some v::Hf (i+1) n l else none::Hf (i+1) n ((j,v)::l)
def H:FuncId->Hints
 | 5=>[(10,⟨[1,5,6],[(.exit 0,[]),(.ret,[(4,.bool)])]⟩),(18,⟨[5],[(.exit 2,[]),(.ret,[(4,.bool)])]⟩)]
 | 15=>[(8,⟨[0,1,5],[(.exit 0,[]),(.ret,[(4,.bool)])]⟩)]
 | 19=>[(6,⟨[0,3,4],[(.exit 0,[])]⟩),(18,⟨[0,3,6,7],[(.exit 2,[])]⟩),(30,⟨[0,8,9],[(.exit 4,[])]⟩),(42,⟨[0,8,13],[(.exit 6,[])]⟩)]
 | 30=>[(6,⟨[0,1,5,6],[(.exit 0,[(5,.slice)])]⟩)]
 | 37=>[(14,⟨[0,3,5,6],[(.exit 0,[])]⟩)]
 | 38=>[(20,⟨[1,9,10],[(.exit 0,[]),(.ret,[(2,.ptr)])]⟩),(30,⟨[1,9,11],[(.exit 2,[]),(.ret,[(2,.ptr)])]⟩),(42,⟨[1,9,13],[(.exit 4,[]),(.ret,[(2,.ptr)])]⟩),(58,⟨[1,9,18],[(.exit 6,[]),(.ret,[(2,.ptr)])]⟩),(68,⟨[1,9,19],[(.exit 8,[]),(.ret,[(2,.ptr)])]⟩)]
 | 45=>[(12,⟨[0,16,17],[(.exit 0,[]),(.ret,[(4,.int .i64),(5,.int .i64)])]⟩)]
 | 62=>[(6,⟨[0,1,7,8],[(.exit 0,[(7,.slice)])]⟩),(14,⟨[0,2,7,9],[(.exit 2,[(7,.slice)])]⟩),(22,⟨[0,2,7,10,11],[(.exit 4,[(7,.slice)])]⟩),(30,⟨[0,7,12,13],[(.exit 6,[(7,.slice)])]⟩),(37,⟨[],[(.normal,[(7,.slice)])]⟩),(41,⟨[],[(.normal,[(7,.slice)])]⟩)]
 | 63=>[(8,⟨[0,3,4,5],[(.exit 0,[(3,.slice)])]⟩),(18,⟨[3,6,7,8],[(.exit 2,[(7,.bool)])]⟩),(27,⟨[],[(.normal,[(3,.slice)])]⟩)]
 | 66=>[(8,⟨[0,4],[(.exit 0,[(4,.int .i64)])]⟩)]
 | 68=>[(12,⟨[0,2,10,11,12],[(.exit 0,[(10,.slice)])]⟩),(32,⟨[0,2,10,11,13,16,17],[(.exit 2,[(10,.slice)])]⟩),(44,⟨[10,13,16,20],[(.exit 4,[(10,.slice)])]⟩),(51,⟨[],[(.normal,[(10,.slice)])]⟩),(56,⟨[0,1,2,3,10,21,22],[(.exit 6,[(10,.slice)])]⟩),(71,⟨[],[(.normal,[(10,.slice)])]⟩)]
 | 71=>[(9,⟨[],[(.normal,[])]⟩),(13,⟨[],[(.normal,[])]⟩),(17,⟨[],[(.normal,[])]⟩),(21,⟨[],[(.normal,[])]⟩)]
 | 75=>[(5,⟨[],[(.normal,[])]⟩)]
 | 77=>[(7,⟨[],[(.normal,[])]⟩)]
 | 79=>[(7,⟨[],[(.normal,[])]⟩)]
 | 81=>[(6,⟨[0,2,7,8,9],[(.exit 0,[(7,.slice)])]⟩)]
 | 82=>[(4,⟨[0,1,5],[(.exit 0,[]),(.ret,[(4,.int .i64)])]⟩)]
 | 83=>[(8,⟨[0,1,5],[(.exit 0,[]),(.ret,[(4,.int .i64)])]⟩)]
 | 85=>[(10,⟨[2,5,19,20,21],[(.exit 0,[]),(.ret,[(4,.bool)])]⟩),(18,⟨[2,5,7,32,33],[(.exit 2,[]),(.ret,[(4,.bool)])]⟩)]
 | 90=>[(8,⟨[0,3,4,5],[(.exit 0,[(3,.slice)])]⟩),(15,⟨[],[(.normal,[(3,.slice)])]⟩)]
 | 92=>[(10,⟨[0,4,5],[(.exit 0,[])]⟩)]
 | 96=>[(12,⟨[3],[(.normal,[])]⟩)]
 | 100=>[(13,⟨[],[(.normal,[]),(.ret,[(6,.bool)])]⟩),(17,⟨[],[(.normal,[(10,.int .i64)])]⟩)]
 | 130=>[(2,⟨[0,8,9,10],[(.exit 0,[])]⟩)]
 | 131=>[(5,⟨[],[(.normal,[])]⟩),(9,⟨[],[(.normal,[])]⟩),(15,⟨[],[(.normal,[])]⟩),(16,⟨[0,48,49,50],[(.exit 1,[])]⟩)]
 | 137=>[(15,⟨[],[(.normal,[(12,.int .i64),(13,.int .i64)])]⟩)]
 | 139=>[(21,⟨[],[(.normal,[])]⟩)]
 | 143=>[(5,⟨[],[(.normal,[])]⟩)]
 | 152=>[(8,⟨[0,1,6],[(.exit 0,[]),(.ret,[(4,.int .i64),(5,.int .i64)])]⟩)]
 | 153=>[(4,⟨[0,3,5],[(.exit 0,[(5,.int .i64)])]⟩)]
 | 156=>[(6,⟨[0,5,6],[(.exit 0,[]),(.ret,[(4,.bool)])]⟩),(16,⟨[0,7],[(.exit 2,[]),(.ret,[(4,.bool)])]⟩),(22,⟨[0,7,8],[(.exit 4,[]),(.ret,[(4,.bool)])]⟩)]
 | 159=>[(3,⟨[],[(.normal,[])]⟩)]
 | 160=>[(8,⟨[0,2,8],[(.exit 0,[]),(.ret,[(6,.int .i64),(7,.int .i64)])]⟩)]
 | 168=>[(12,⟨[3],[(.normal,[])]⟩),(15,⟨[],[(.normal,[])]⟩)]
 | 177=>[(14,⟨[0,1,6],[(.exit 0,[])]⟩)]
 | 179=>[(10,⟨[0,3,4],[(.exit 0,[(3,.slice)])]⟩),(16,⟨[3,4,5],[(.exit 2,[(3,.slice)])]⟩),(24,⟨[3,6],[(.exit 4,[(3,.slice)])]⟩),(32,⟨[0,3,7],[(.exit 6,[(3,.slice)])]⟩)]
 | 182=>[(9,⟨[],[(.normal,[])]⟩),(13,⟨[],[(.normal,[])]⟩)]
 | 190=>[(6,⟨[0,3,4],[(.exit 0,[(3,.int .i64)])]⟩),(13,⟨[],[(.normal,[(3,.int .i64)])]⟩)]
 | 215=>[(3,⟨[],[(.normal,[])]⟩)]
 | 216=>[(3,⟨[],[(.normal,[])]⟩),(8,⟨[0,31,32,33],[(.exit 0,[])]⟩),(15,⟨[],[(.normal,[])]⟩),(25,⟨[],[(.normal,[])]⟩)]
 | 217=>[(8,⟨[5,7,18,19,20],[(.exit 0,[(7,.slice)])]⟩),(15,⟨[],[(.normal,[(7,.slice)])]⟩)]
 | 219=>[(3,⟨[],[(.normal,[])]⟩),(10,⟨[0,24,25,26],[(.exit 0,[])]⟩),(17,⟨[],[(.normal,[])]⟩),(22,⟨[0,46,47],[(.exit 2,[])]⟩),(31,⟨[],[(.normal,[])]⟩)]
 | 225=>[(17,⟨[],[(.normal,[(7,.func)])]⟩),(31,⟨[],[(.normal,[(11,.int .i64)])]⟩)]
 | 227=>[(4,⟨[0,1,5],[(.exit 0,[(5,.int .i64)])]⟩)]
 | 237=>[(4,⟨[0,1,7,8],[(.exit 0,[]),(.ret,[(4,.int .i64)])]⟩)]
 | 243=>[(4,⟨[0,1,5],[(.exit 0,[(5,.int .i64)])]⟩)]
 | 244=>[(2,⟨[0,19,20,21],[(.exit 0,[]),(.ret,[])]⟩),(8,⟨[0,3,4,27,28],[(.exit 2,[]),(.ret,[])]⟩),(17,⟨[],[(.normal,[])]⟩)]
 | 245=>[(4,⟨[0,1,5],[(.exit 0,[]),(.ret,[(4,.int .i64)])]⟩),(10,⟨[0,1,5,6],[(.exit 2,[(6,.int .i64)])]⟩)]
 | 246=>[(12,⟨[0,1,2,9],[(.exit 0,[]),(.ret,[(8,.int .i64)])]⟩),(22,⟨[0,1,2,3,10],[(.exit 2,[])]⟩)]
 | 247=>[(4,⟨[0,2,4,8],[(.exit 0,[]),(.ret,[(6,.int .i64),(7,.bool)])]⟩),(14,⟨[4,9,10],[(.exit 2,[]),(.ret,[(6,.int .i64),(7,.bool)])]⟩)]
 | 250=>[(16,⟨[0,1,9,53,54],[(.exit 1,[])]⟩)]
 | 251=>[(11,⟨[],[(.normal,[]),(.ret,[(8,.int .i64)])]⟩),(20,⟨[0,1,3,6,10],[(.exit 0,[]),(.ret,[(8,.int .i64)])]⟩)]
 | 252=>[(4,⟨[0,3,4],[(.exit 0,[(4,.int .i64)])]⟩)]
 | 253=>[(11,⟨[],[(.normal,[]),(.ret,[(8,.int .i64)])]⟩),(20,⟨[0,1,2,3,10],[(.exit 0,[]),(.ret,[(8,.int .i64)])]⟩)]
 | 263=>[(14,⟨[0,1,3,31,32],[(.exit 0,[])]⟩)]
 | 264=>[(8,⟨[0,1,7,21,22],[(.exit 0,[(7,.slice)])]⟩)]
 | 265=>[(4,⟨[0,2,15,16,17],[(.exit 0,[(2,.slice)])]⟩),(15,⟨[],[(.normal,[(2,.slice)])]⟩),(22,⟨[0,60,61,62],[(.exit 2,[])]⟩)]
 | 269=>[(4,⟨[0,1,7,8],[(.exit 0,[]),(.ret,[(4,.int .i64)])]⟩)]
 | 272=>[(6,⟨[0,6,7],[(.exit 0,[]),(.ret,[(4,.int .i64),(5,.bool)])]⟩)]
 | 282=>[(14,⟨[0,5,6,7,8],[(.exit 0,[(5,.slice),(6,.int .i64)])]⟩),(21,⟨[],[(.normal,[(5,.slice)])]⟩),(29,⟨[],[(.normal,[(5,.slice)])]⟩)]
 | 286=>[(12,⟨[0,1,5],[(.exit 0,[(5,.int .i64)])]⟩)]
 | 292=>[(6,⟨[0,1,5,6],[(.exit 0,[(5,.slice)])]⟩),(13,⟨[],[(.normal,[(5,.slice)])]⟩)]
 | 296=>[(18,⟨[0,1,7,11,43,44],[(.exit 0,[(11,.int .i64)])]⟩),(27,⟨[],[(.normal,[(11,.int .i64)])]⟩)]
 | 297=>[(4,⟨[0,1,7,8],[(.exit 0,[]),(.ret,[(4,.int .i64)])]⟩)]
 | 298=>[(8,⟨[0,2,8],[(.exit 0,[]),(.ret,[(6,.int .i64),(7,.int .i64)])]⟩)]
 | 319=>[(6,⟨[0,1,2,7,14,15,16],[(.exit 0,[(7,.slice)])]⟩),(12,⟨[1,2,7,25,26,27],[(.exit 2,[(7,.slice)])]⟩),(21,⟨[],[(.normal,[])]⟩),(25,⟨[],[(.normal,[(7,.slice)])]⟩)]
 | 320=>[(4,⟨[0,2,4],[(.exit 0,[]),(.ret,[(3,.bool)])]⟩)]
 | 321=>[(6,⟨[0,3,9,10],[(.exit 0,[(3,.slice)])]⟩),(13,⟨[],[(.normal,[(3,.slice)])]⟩)]
 | 322=>[(14,⟨[0,6,7,19,20,21],[(.exit 0,[])]⟩)]
 | 324=>[(3,⟨[],[(.normal,[])]⟩)]
 | 328=>[(4,⟨[0,1,2,6,7,8],[(.exit 0,[(7,.int .i64)])]⟩),(14,⟨[0,1,2,6],[(.exit 2,[])]⟩),(18,⟨[0,1,2,6,7,8],[(.exit 4,[(7,.int .i64)])]⟩),(31,⟨[],[(.normal,[])]⟩)]
 | 329=>[(2,⟨[0,1,2,3,8],[(.exit 0,[])]⟩),(8,⟨[0,1,3,9],[(.exit 2,[])]⟩)]
 | 330=>[(6,⟨[0,1,4,10,11],[(.exit 0,[(10,.int .i64)])]⟩),(13,⟨[],[(.normal,[(10,.int .i64),(11,.int .i64)])]⟩),(18,⟨[0,10,13],[(.exit 2,[])]⟩),(30,⟨[0,2,4,14,15],[(.exit 4,[(14,.int .i64)])]⟩),(37,⟨[],[(.normal,[(14,.int .i64),(15,.int .i64)])]⟩),(42,⟨[0,14,17],[(.exit 6,[])]⟩),(57,⟨[],[(.normal,[(20,.int .i64),(21,.int .i64)])]⟩),(66,⟨[0,4,20,21,22],[(.exit 8,[(20,.int .i64)])]⟩),(73,⟨[],[(.normal,[(20,.int .i64),(21,.int .i64)])]⟩),(81,⟨[],[(.normal,[])]⟩),(85,⟨[],[(.normal,[])]⟩),(89,⟨[],[(.normal,[])]⟩)]
 | 331=>[(4,⟨[0,2,4,10,11],[(.exit 0,[(10,.int .i64)])]⟩),(9,⟨[],[(.normal,[(10,.int .i64),(11,.int .i64)])]⟩)]
 | 332=>[(2,⟨[0,1,2,3,10],[(.exit 0,[])]⟩)]
 | 333=>[(9,⟨[],[(.normal,[])]⟩)]
 | 335=>[(5,⟨[],[(.normal,[]),(.ret,[(6,.int .i64),(7,.bool)])]⟩)]
 | 339=>[(4,⟨[0,2,11,12,13],[(.exit 0,[]),(.ret,[(3,.bool)])]⟩),(12,⟨[0,2,5,6,7],[(.exit 2,[]),(.ret,[(3,.bool)])]⟩),(18,⟨[6,8],[(.exit 4,[(8,.int .i64)])]⟩)]
 | 340=>[(10,⟨[0,5,18,19,20],[(.exit 0,[])]⟩),(18,⟨[5,9,10],[(.exit 2,[])]⟩)]
 | _=>[]
section
variable [AH]
def lp (k f i:Nat) (c:Code) (n:Nat) (rs:Bo) (J:Aa):Option Bq:=
 Zo (fun a J K=>exec P (fn P X H k) f (H f) k (cB c) Bq a J K) (((H f).lookup i).getD default) n rs J
def u_f {ρ:Type} (l:List Value) (K:Value->Option ρ):Option ρ:=l.head?.bind fun a=>K a
theorem zR {ρ:Type} (a:Value) (K:Value->Option ρ):u_f [a] K=K a:=by simp[u_f,Bl,Dk,toStr,HO,Ej,eD]
def yz {ρ:Type} (l:List Value) (K:Value->Value->Value->Option ρ):Option ρ:=l.head?.bind fun a=>l.tail.head?.bind fun b=>l.tail.tail.head?.bind fun c=>K a b c
def ZS {ρ:Type} (l:List Value) (K:Int->Option ρ):Option ρ:=l.head?.bind fun v=>(Bl .i64 v).bind fun a=>K a
theorem Ey {ρ:Type} (a:Int) (K:Int->Option ρ):ZS [qIi a] K=K a:=by simp[ZS,Bl,Dk,toStr,HO,Ej,eD]
def jf {ρ:Type} (l:List Value) (K:Int->Int->Option ρ):Option ρ:=l.head?.bind fun v=>(Bl .i64 v).bind fun a=>l.tail.head?.bind fun v=>(Bl .i64 v).bind fun b=>K a b
theorem UL {ρ:Type} (a:Int) (b:Int) (K:Int->Int->Option ρ):jf [qIi a,qIi b] K=K a b:=by simp[jf,Bl,Dk,toStr,HO,Ej,eD]
def y8 {ρ:Type} (l:List Value) (K:Int->Int->Int->Option ρ):Option ρ:=l.head?.bind fun v=>(Bl .i64 v).bind fun a=>l.tail.head?.bind fun v=>(Bl .i64 v).bind fun b=>l.tail.tail.head?.bind fun v=>(Bl .i64 v).bind fun c=>K a b c
def vI {ρ:Type} (l:List Value) (K:Int->Bool->Option ρ):Option ρ:=l.head?.bind fun v=>(Bl .i64 v).bind fun a=>l.tail.head?.bind fun v=>(Dk v).bind fun b=>K a b
theorem jg {ρ:Type} (a:Int) (b:Bool) (K:Int->Bool->Option ρ):vI [qIi a,.bool b] K=K a b:=by simp[vI,Bl,Dk,toStr,HO,Ej,eD]
def Sc {ρ:Type} (l:List Value) (K:qSi->Option ρ):Option ρ:=l.head?.bind fun v=>(Ej v).bind fun a=>K a
theorem HS {ρ:Type} (a:qSi) (K:qSi->Option ρ):Sc [.slice a.1 a.2.1 a.2.2] K=K a:=by simp[Sc,Bl,Dk,toStr,HO,Ej,eD]
def zS {ρ:Type} (l:List Value) (K:qSi->Int->Option ρ):Option ρ:=l.head?.bind fun v=>(Ej v).bind fun a=>l.tail.head?.bind fun v=>(Bl .i64 v).bind fun b=>K a b
theorem qk {ρ:Type} (a:qSi) (b:Int) (K:qSi->Int->Option ρ):zS [.slice a.1 a.2.1 a.2.2,qIi b] K=K a b:=by simp[zS,Bl,Dk,toStr,HO,Ej,eD]
def u_p {ρ:Type} (l:List Value) (K:qOi->Option ρ):Option ρ:=l.head?.bind fun v=>(HO v).bind fun a=>K a
def oE {ρ:Type} (l:List Value) (K:Bool->Option ρ):Option ρ:=l.head?.bind fun v=>(Dk v).bind fun a=>K a
theorem oF {ρ:Type} (a:Bool) (K:Bool->Option ρ):oE [.bool a] K=K a:=by simp[oE,Bl,Dk,toStr,HO,Ej,eD]
def oT {ρ:Type} (v:Value) (K:Value->Value->Value->Option ρ):Option ρ:=(yx v).bind fun l=>if l.length=3 then yz l K else none
theorem tM {ρ:Type} (a:Value) (b:Value) (c:Value) (K:Value->Value->Value->Option ρ):oT (.agg #[a,b,c]) K=K a b c:=by simp[oT,yz,yx,Bl,Dk,toStr,HO,Ej,eD]
def yY {ρ:Type} (v:Value) (K:Int->Int->Option ρ):Option ρ:=(yx v).bind fun l=>if l.length=2 then jf l K else none
theorem wK {ρ:Type} (a:Int) (b:Int) (K:Int->Int->Option ρ):yY (.agg #[qIi a,qIi b]) K=K a b:=by simp[yY,jf,yx,Bl,Dk,toStr,HO,Ej,eD]
def Ms {ρ:Type} (v:Value) (K:Int->Int->Int->Option ρ):Option ρ:=(yx v).bind fun l=>if l.length=3 then y8 l K else none
theorem H5 {ρ:Type} (a:Int) (b:Int) (c:Int) (K:Int->Int->Int->Option ρ):Ms (.agg #[qIi a,qIi b,qIi c]) K=K a b c:=by simp[Ms,y8,yx,Bl,Dk,toStr,HO,Ej,eD]
def Wz {ρ:Type} (v:Value) (K:Option ρ):Option ρ:=(an v).bind fun l=>if l.length=0 then K else none
theorem Gg {ρ:Type}  (K:Option ρ):Wz (.tuple #[]) K=K:=by simp[Wz,an,Bl,Dk,toStr,HO,Ej,eD]
def He {ρ:Type} (v:Value) (K:Int->Int->Option ρ):Option ρ:=(an v).bind fun l=>if l.length=2 then l.head?.bind fun v=>(Bl .i64 v).bind fun a=>l.tail.head?.bind fun v=>(Bl .i64 v).bind fun b=>K a b else none
theorem B9 {ρ:Type} (a:Int) (b:Int) (K:Int->Int->Option ρ):He (.tuple #[qIi a,qIi b]) K=K a b:=by simp[He,an,Bl,Dk,toStr,HO,Ej,eD]
def sA {ρ:Type} (v:Value) (K:Int->Bool->Option ρ):Option ρ:=(an v).bind fun l=>if l.length=2 then l.head?.bind fun v=>(Bl .i64 v).bind fun a=>l.tail.head?.bind fun v=>(Dk v).bind fun b=>K a b else none
theorem RX {ρ:Type} (a:Int) (b:Bool) (K:Int->Bool->Option ρ):sA (.tuple #[qIi a,.bool b]) K=K a b:=by simp[sA,an,Bl,Dk,toStr,HO,Ej,eD]
def vc {ρ:Type} (v:Value) (K:qSi->Int->Option ρ):Option ρ:=(an v).bind fun l=>if l.length=2 then l.head?.bind fun v=>(Ej v).bind fun a=>l.tail.head?.bind fun v=>(Bl .i64 v).bind fun b=>K a b else none
theorem xB {ρ:Type} (a:qSi) (b:Int) (K:qSi->Int->Option ρ):vc (.tuple #[.slice a.1 a.2.1 a.2.2,qIi b]) K=K a b:=by simp[vc,an,Bl,Dk,toStr,HO,Ej,eD]
def Tc {ρ:Type} (v:Value) (K:qOi->Int->Option ρ):Option ρ:=(an v).bind fun l=>if l.length=2 then l.head?.bind fun v=>(HO v).bind fun a=>l.tail.head?.bind fun v=>(Bl .i64 v).bind fun b=>K a b else none
theorem LF {ρ:Type} (a:qOi) (b:Int) (K:qOi->Int->Option ρ):Tc (.tuple #[qVi a,qIi b]) K=K a b:=by simp[Tc,an,Bl,Dk,toStr,HO,Ej,eD]
end
def Aq {α:Type} (x:α):α:=Classical.choose (⟨x,rfl⟩:∃ y,y=x)
theorem Ac {α:Type} (x:α):Aq x=x:=Classical.choose_spec (⟨x,rfl⟩:∃ y,y=x)
abbrev P5:=Option (Value × Aa)
abbrev TV:=Value->List Value->Aa->P5
section
variable [AH]
abbrev mE:=Nat->Int->Int->qOi->Nat->Nat->Int->(qSi)->Int->Aa->Option Bq
abbrev Aal:=Nat->Int->(qSi)->Int->Aa->Option Bq
abbrev Aam:=Nat->Int->Nat->Int->Aa->Option Bq
abbrev Aby:=Nat->(qSi)->Int->Aa->Option Bq
abbrev yH:=Nat->Nat->Int->Int->Int->Aa->Option Bq
abbrev jx:=Nat->Nat->Nat->Int->Aa->Option Bq
abbrev yI:=Nat->Nat->Nat->(qSi)->Int->Aa->Option Bq
abbrev vY:=Nat->Nat->qOi->Nat->Nat->Int->Aa->Option Bq
abbrev th:=Nat->Nat->qOi->Nat->Nat->Int->Int->Aa->Option Bq
abbrev qp:=Nat->Nat->qOi->Nat->Nat->Int->(qSi)->Int->Aa->Option Bq
abbrev L_p:=Nat->qOi->Aa->Option Bq
abbrev yJ:=Nat->qOi->Bool->(qSi)->Int->Aa->Option Bq
abbrev qq:=Nat->qOi->Bool->qOi->Nat->Nat->(qSi)->Int->Aa->Option Bq
abbrev Aan:=Nat->qOi->Int->Aa->Option Bq
abbrev Se:=Nat->qOi->Int->Int->Aa->Option Bq
abbrev ti:=Nat->qOi->Int->Int->Int->Aa->Option Bq
abbrev gY:=Nat->qOi->Int->Int->Int->Int->Aa->Option Bq
abbrev vZ:=Nat->qOi->Int->Int->(qSi)->Int->Aa->Option Bq
abbrev we:=Nat->qOi->Int->Int->Nat->Int->Aa->Option Bq
abbrev jy:=Nat->qOi->Int->Int->qOi->Nat->Nat->Int->(qSi)->Int->Aa->Option Bq
abbrev tj:=Nat->qOi->Int->(qSi)->Int->Aa->Option Bq
abbrev wg:=Nat->qOi->Int->(qSi)->Int->Int->Aa->Option Bq
abbrev yK:=Nat->qOi->Int->Nat->Int->Aa->Option Bq
abbrev wj:=Nat->qOi->Int->Nat->Int->Int->Aa->Option Bq
abbrev tm:=Nat->qOi->Int->Nat->Int->Int->Int->Aa->Option Bq
abbrev yc:=Nat->qOi->(qSi)->Int->Aa->Option Bq
abbrev jz:=Nat->qOi->Nat->Int->Aa->Option Bq
abbrev yL:=Nat->qOi->Nat->(qSi)->Int->Aa->Option Bq
abbrev tn:=Nat->qOi->Nat->Nat->Int->Bool->Int->Aa->Option Bq
abbrev oN:=Nat->qOi->Nat->Nat->Int->Int->Aa->Option Bq
abbrev tp:=Nat->qOi->Nat->Nat->Int->Int->Int->Aa->Option Bq
abbrev wk:=Nat->qOi->Nat->Nat->qOi->Int->Aa->Option Bq
abbrev qt:=Nat->qOi->Nat->Nat->qOi->Nat->Nat->Int->Aa->Option Bq
abbrev mF:=Nat->qOi->Nat->Nat->qOi->Nat->Nat->Int->Int->Aa->Option Bq
abbrev j0:=Nat->qOi->Nat->Nat->Value->Int->Int->Aa->Option Bq
abbrev tq:=Nat->qOi->Nat->qOi->Nat->Nat->Int->Aa->Option Bq
abbrev wv:=Nat->qOi->qOi->Nat->Nat->Int->Aa->Option Bq
abbrev Tf:=Nat->qOi->qOi->Nat->Nat->Int->Int->Aa->Option Bq
abbrev qv:=Nat->qOi->qOi->Nat->Nat->Int->(qSi)->Int->Aa->Option Bq
abbrev WK:=Nat->qOi->qOi->Nat->Nat->(qSi)->Int->Aa->Option Bq
abbrev qw:=Nat->qOi->qOi->Nat->Nat->(qSi)->Int->Int->Aa->Option Bq
abbrev tr:=Nat->qOi->qOi->qOi->Nat->Nat->Int->Aa->Option Bq
abbrev qz:=Nat->qOi->qOi->qOi->Nat->Nat->(qSi)->Int->Aa->Option Bq
abbrev j4:=Nat->qOi->qOi->qOi->Nat->Nat->Nat->Nat->(qSi)->Int->Aa->Option Bq
abbrev j7:=Nat->qOi->qOi->qOi->qOi->qOi->Nat->Nat->(qSi)->Int->Aa->Option Bq
abbrev q9:=Nat->Value->Int->qOi->Nat->Nat->Int->Int->Aa->Option Bq
abbrev yM:=Nat->Value->Nat->Int->Int->Aa->Option Bq
abbrev T_:=Aa->P5
abbrev yP:=Int->Aa->P5
abbrev yQ:=Int->Int->Aa->P5
abbrev aY:=Int->Int->Int->Aa->P5
abbrev mL:=Int->Int->Int->Int->Aa->P5
abbrev yR:=Int->Int->Int->qOi->Aa->P5
abbrev tI:=Int->Int->Int->qOi->qOi->qOi->Aa->P5
abbrev fc:=Int->Int->(qSi)->(qSi)->(qSi)->(qSi)->(qSi)->Aa->P5
abbrev mM:=Int->Int->(qSi)->(qSi)->(qSi)->(qSi)->(qSi)->(qSi)->Aa->P5
abbrev Aar:=Int->Int->qOi->Aa->P5
abbrev tJ:=Int->Int->qOi->qOi->Aa->P5
abbrev yS:=Int->qOi->Aa->P5
abbrev Aas:=Int->qOi->qOi->Aa->P5
abbrev T_l:=(qSi)->Aa->P5
abbrev qL:=(qSi)->Int->Aa->P5
abbrev yU:=(qSi)->Int->Int->Int->Aa->P5
abbrev Ab2:=(qSi)->(qSi)->Aa->P5
abbrev Ab3:=(qSi)->qOi->Aa->P5
abbrev wH:=(qSi)->Value->Aa->P5
abbrev Oq:=qOi->Aa->P5
abbrev Gq:=qOi->Int->Aa->P5
abbrev yd:=qOi->Int->Bool->Aa->P5
abbrev N1:=qOi->Int->Int->Aa->P5
abbrev yV:=qOi->Int->Int->Bool->Aa->P5
abbrev Ku:=qOi->Int->Int->Int->Aa->P5
abbrev Nr:=qOi->Int->Int->Int->Int->Aa->P5
abbrev tK:=qOi->Int->Int->Int->Int->Int->Aa->P5
abbrev qM:=qOi->Int->Int->Int->Int->Int->Int->Aa->P5
abbrev dN:=qOi->Int->Int->Int->Int->Int->Int->Int->Int->Int->Int->Aa->P5
abbrev jG:=qOi->Int->Int->Int->Int->Int->(qSi)->(qSi)->Bool->Aa->P5
abbrev Aat:=qOi->Int->(qSi)->Aa->P5
abbrev ye:=qOi->Int->Value->Aa->P5
abbrev Aau:=qOi->(qSi)->Aa->P5
abbrev Aav:=qOi->(qSi)->Bool->Aa->P5
abbrev Aaw:=qOi->(qSi)->Int->Aa->P5
abbrev wI:=qOi->qOi->Aa->P5
abbrev yW:=qOi->qOi->Bool->Int->Aa->P5
abbrev Rn:=qOi->qOi->Int->Int->Int->Int->Int->(qSi)->(qSi)->Bool->Int->Int->Int->Int->Int->(qSi)->(qSi)->Bool->Int->(qSi)->Aa->P5
abbrev yX:=qOi->qOi->qOi->qOi->Aa->P5
abbrev aZ:=qOi->Value->Value->Value->Int->Int->Int->Int->Int->Int->Int->Int->Aa->P5
abbrev Ab4:=Value->qOi->Aa->P5
def Jf:Nat->mM:=Aq fun k f g a b c d e h J=>fn P X H k 5 [.agg #[.int .u8 f,.int .u8 g,.slice a.1 a.2.1 a.2.2,.slice b.1 b.2.1 b.2.2,.slice c.1 c.2.1 c.2.2,.slice d.1 d.2.1 d.2.2,.slice e.1 e.2.1 e.2.2],.slice h.1 h.2.1 h.2.2] J
def E9:Nat->wk:=Aq fun k n c a b d e J=>lp k 5 10 (cB (cR (cL (cR (cR (cR (Bs Tryz.f5))))))) n (Hf 0 39 [(1,.slice c a b),(5,qVi d),(6,qIi e)]) J
def FV:Nat->L_p:=Aq fun k n a J=>lp k 5 18 (cB (cL (cR (cR (cR (cR (Bs Tryz.f5))))))) n (Hf 0 39 [(5,qVi a)]) J
def Lv:Nat->fc:=Aq fun k f g a b c d e J=>fn P X H k 11 [.agg #[.int .u8 f,.int .u8 g,.slice a.1 a.2.1 a.2.2,.slice b.1 b.2.1 b.2.2,.slice c.1 c.2.1 c.2.2,.slice d.1 d.2.1 d.2.2,.slice e.1 e.2.1 e.2.2]] J
def Ch:Nat->Oq:=Aq fun k a J=>fn P X H k 12 [qVi a] J
def BZ:Nat->Gq:=Aq fun k a b J=>fn P X H k 13 [qVi a,qIi b] J
def Be:Nat->Oq:=Aq fun k a J=>fn P X H k 14 [qVi a] J
def Il:Nat->Ab2:=Aq fun k a b J=>fn P X H k 15 [.slice a.1 a.2.1 a.2.2,.slice b.1 b.2.1 b.2.2] J
def HU:Nat->qt:=Aq fun k n e a b f c d g J=>lp k 15 8 (cB (cR (cL (cR (cR (Bs Tryz.f15)))))) n (Hf 0 26 [(0,.slice e a b),(1,.slice f c d),(5,qIi g)]) J
def Da:Nat->Oq:=Aq fun k a J=>fn P X H k 16 [qVi a] J
def En:Nat->Oq:=Aq fun k a J=>fn P X H k 19 [qVi a] J
def HV:Nat->jz:=Aq fun k n a h1 b J=>lp k 19 6 (cB (cR (cL (cR (cR (Bs Tryz.f19)))))) n (Hf 0 136 [(0,qVi a),(3,qVi (some ⟨h1,0,none⟩)),(4,qIi b)]) J
def HX:Nat->jz:=Aq fun k n a h1 b J=>lp k 19 30 (cB (cR (cL (cR (cR (cR (cB (cL (cR (cB (cB (cR (cL (cR (cR (cR (cR (Bs Tryz.f19)))))))))))))))))) n (Hf 0 136 [(0,qVi a),(8,qVi (some ⟨h1,0,none⟩)),(9,qIi b)]) J
def HY:Nat->jz:=Aq fun k n b h1 a J=>lp k 19 42 (cB (cR (cL (cR (cR (cR (cR (cB (cL (cR (cB (cB (cR (cL (cR (cR (cR (cR (Bs Tryz.f19))))))))))))))))))) n (Hf 0 136 [(0,qVi b),(8,qVi (some ⟨h1,0,none⟩)),(13,qIi a)]) J
def HW:Nat->tq:=Aq fun k n c h1 d a b e J=>lp k 19 18 (cB (cR (cL (cR (cR (cR (cR (Bs Tryz.f19)))))))) n (Hf 0 136 [(0,qVi c),(3,qVi (some ⟨h1,0,none⟩)),(6,.slice d a b),(7,qIi e)]) J
def Lu:Nat->T_:=Aq fun k  J=>fn P X H k 20 [] J
def GU:Nat->Oq:=Aq fun k a J=>fn P X H k 21 [qVi a] J
def CU:Nat->Oq:=Aq fun k a J=>fn P X H k 22 [qVi a] J
def Bb:Nat->Nr:=Aq fun k d a b c e J=>fn P X H k 23 [qVi d,.agg #[qIi a,qIi b,qIi c],qIi e] J
def CB:Nat->Gq:=Aq fun k a b J=>fn P X H k 24 [qVi a,qIi b] J
def Fx:Nat->Oq:=Aq fun k a J=>fn P X H k 25 [qVi a] J
def Ex:Nat->Oq:=Aq fun k a J=>fn P X H k 26 [qVi a] J
def Fq:Nat->dN:=Aq fun k l a b c d e f g h i j J=>fn P X H k 27 [qVi l,.agg #[.int .u8 a,.int .u8 b,.int .u8 c,.int .u8 d,.int .u8 e,.int .u8 f,.int .u8 g,.int .u8 h,.int .u8 i,.int .u8 j]] J
def GS:Nat->aZ:=Aq fun k m a b c d e f g h i j l J=>fn P X H k 28 [qVi m,.agg #[a,b,c],.agg #[.int .u8 d,.int .u8 e,.int .u8 f,.int .u8 g,.int .u8 h,.int .u8 i,.int .u8 j,.int .u8 l]] J
def FD:Nat->Oq:=Aq fun k a J=>fn P X H k 29 [qVi a] J
def DI:Nat->Aau:=Aq fun k b a J=>fn P X H k 30 [qVi b,.slice a.1 a.2.1 a.2.2] J
def Fo:Nat->WK:=Aq fun k n d e b c a f J=>lp k 30 6 (cB (cR (cL (cR (cR (Bs Tryz.f30)))))) n (Hf 0 36 [(0,qVi d),(1,.slice e b c),(5,.slice a.1 a.2.1 a.2.2),(6,qIi f)]) J
def Ca:Nat->Oq:=Aq fun k a J=>fn P X H k 31 [qVi a] J
def Ix:Nat->qL:=Aq fun k a b J=>fn P X H k 32 [.slice a.1 a.2.1 a.2.2,qIi b] J
def Dr:Nat->Oq:=Aq fun k a J=>fn P X H k 33 [qVi a] J
def BR:Nat->Oq:=Aq fun k a J=>fn P X H k 37 [qVi a] J
def DY:Nat->tr:=Aq fun k n c d e a b f J=>lp k 37 14 (cB (cR (cL (cR (cR (cR (cR (cR (Bs Tryz.f37))))))))) n (Hf 0 50 [(0,qVi c),(3,qVi d),(5,.slice e a b),(6,qIi f)]) J
def H7:Nat->fc:=Aq fun k f g a b c d e J=>fn P X H k 38 [.agg #[.int .u8 f,.int .u8 g,.slice a.1 a.2.1 a.2.2,.slice b.1 b.2.1 b.2.2,.slice c.1 c.2.1 c.2.2,.slice d.1 d.2.1 d.2.2,.slice e.1 e.2.1 e.2.2]] J
def Cx:Nat->jx:=Aq fun k n h0 h1 a J=>lp k 38 20 (cB (cR (cL (cR (cR (cR (cR (cR (cR (cR (cR (Bs Tryz.f38)))))))))))) n (Hf 0 257 [(1,qVi (some ⟨h0,0,none⟩)),(9,qVi (some ⟨h1,0,none⟩)),(10,qIi a)]) J
def Cy:Nat->jx:=Aq fun k n h0 h1 a J=>lp k 38 30 (cB (cR (cL (cR (cR (cR (cR (cR (cR (cR (cR (cR (Bs Tryz.f38))))))))))))) n (Hf 0 257 [(1,qVi (some ⟨h0,0,none⟩)),(9,qVi (some ⟨h1,0,none⟩)),(11,qIi a)]) J
def BW:Nat->jx:=Aq fun k n h0 h1 a J=>lp k 38 42 (cB (cR (cL (cR (cR (cR (cR (cR (cR (cR (cR (cR (cR (Bs Tryz.f38)))))))))))))) n (Hf 0 257 [(1,qVi (some ⟨h0,0,none⟩)),(9,qVi (some ⟨h1,0,none⟩)),(13,qIi a)]) J
def Cz:Nat->jx:=Aq fun k n h0 h1 a J=>lp k 38 58 (cB (cR (cL (cR (cR (cR (cR (cR (cR (cR (cR (cR (cR (cR (Bs Tryz.f38))))))))))))))) n (Hf 0 257 [(1,qVi (some ⟨h0,0,none⟩)),(9,qVi (some ⟨h1,0,none⟩)),(18,qIi a)]) J
def C0:Nat->jx:=Aq fun k n h0 h1 a J=>lp k 38 68 (cB (cR (cL (cR (cR (cR (cR (cR (cR (cR (cR (cR (cR (cR (cR (Bs Tryz.f38)))))))))))))))) n (Hf 0 257 [(1,qVi (some ⟨h0,0,none⟩)),(9,qVi (some ⟨h1,0,none⟩)),(19,qIi a)]) J
def Kz:Nat->wI:=Aq fun k a b J=>fn P X H k 39 [qVi a,qVi b] J
def Ap:Nat->Oq:=Aq fun k a J=>fn P X H k 43 [qVi a] J
def Jq:Nat->Oq:=Aq fun k a J=>fn P X H k 44 [qVi a] J
def JR:Nat->Gq:=Aq fun k a b J=>fn P X H k 45 [qVi a,qIi b] J
def G5:Nat->Se:=Aq fun k n b i1 a J=>lp k 45 12 (cB (cR (cL (cR (cR (cR (Bs Tryz.f45))))))) n (Hf 0 30 [(0,qVi b),(16,qIi i1),(17,qIi a)]) J
def Jp:Nat->Oq:=Aq fun k a J=>fn P X H k 46 [qVi a] J
def JQ:Nat->Oq:=Aq fun k a J=>fn P X H k 47 [qVi a] J
def AE:Nat->Oq:=Aq fun k a J=>fn P X H k 49 [qVi a] J
def Bn:Nat->Gq:=Aq fun k a b J=>fn P X H k 50 [qVi a,qIi b] J
def BE:Nat->Gq:=Aq fun k a b J=>fn P X H k 51 [qVi a,qIi b] J
def Gr:Nat->Gq:=Aq fun k a b J=>fn P X H k 52 [qVi a,qIi b] J
def Di:Nat->Gq:=Aq fun k a b J=>fn P X H k 53 [qVi a,qIi b] J
def AK:Nat->Gq:=Aq fun k a b J=>fn P X H k 54 [qVi a,qIi b] J
def AL:Nat->N1:=Aq fun k a b c J=>fn P X H k 55 [qVi a,qIi b,qIi c] J
def Hv:Nat->N1:=Aq fun k a b c J=>fn P X H k 56 [qVi a,qIi b,qIi c] J
def J5:Nat->yP:=Aq fun k a J=>fn P X H k 57 [qIi a] J
def Iy:Nat->yP:=Aq fun k a J=>fn P X H k 58 [qIi a] J
def B6:Nat->Nr:=Aq fun k d a b c e J=>fn P X H k 59 [qVi d,.agg #[qIi a,qIi b,qIi c],qIi e] J
def Ci:Nat->Ku:=Aq fun k a b c d J=>fn P X H k 60 [qVi a,qIi b,qIi c,qIi d] J
def DW:Nat->Gq:=Aq fun k a b J=>fn P X H k 61 [qVi a,qIi b] J
def GG:Nat->Aav:=Aq fun k b a c J=>fn P X H k 62 [qVi b,.slice a.1 a.2.1 a.2.2,.bool c] J
def G1:Nat->WK:=Aq fun k n d e b c a f J=>lp k 62 6 (cB (cR (cL (cR (cR (Bs Tryz.f62)))))) n (Hf 0 96 [(0,qVi d),(1,.slice e b c),(7,.slice a.1 a.2.1 a.2.2),(8,qIi f)]) J
def G2:Nat->yL:=Aq fun k n c h1 b a J=>lp k 62 30 (cB (cR (cL (cR (cB (cL (cR (cB (cB (cR (cR (cR (cB (cR (cB (cB (cR (cL (cR (cR (cR (Bs Tryz.f62)))))))))))))))))))))) n (Hf 0 96 [(0,qVi c),(7,.slice b.1 b.2.1 b.2.2),(12,qVi (some ⟨h1,0,none⟩)),(13,qIi a)]) J
def Fs:Nat->qq:=Aq fun k n f c g d e b a J=>lp k 62 22 (cB (cR (cR (cR (cB (cR (cB (cB (cR (cL (cR (cR (cR (Bs Tryz.f62)))))))))))))) n (Hf 0 96 [(0,qVi f),(2,.bool c),(7,.slice b.1 b.2.1 b.2.2),(10,.slice g d e),(11,qIi a)]) J
def Hz:Nat->yJ:=Aq fun k n c b a d J=>lp k 62 14 (cB (cR (cL (cR (cR (cR (Bs Tryz.f62))))))) n (Hf 0 96 [(0,qVi c),(2,.bool b),(7,.slice a.1 a.2.1 a.2.2),(9,qIi d)]) J
def BI:Nat->Oq:=Aq fun k a J=>fn P X H k 63 [qVi a] J
def Eu:Nat->tn:=Aq fun k n c a b i3 d e J=>lp k 63 18 (cB (cR (cL (cR (cR (cB (cL (cR (cB (cB (cR (cL (cR (cR (cR (Bs Tryz.f63)))))))))))))))) n (Hf 0 45 [(3,.slice c a b),(6,qIi i3),(7,.bool d),(8,qIi e)]) J
def Et:Nat->WK:=Aq fun k n d e b c a f J=>lp k 63 8 (cB (cR (cL (cR (cR (cR (Bs Tryz.f63))))))) n (Hf 0 45 [(0,qVi d),(3,.slice a.1 a.2.1 a.2.2),(4,.slice e b c),(5,qIi f)]) J
def DB:Nat->Ku:=Aq fun k d a b c J=>fn P X H k 64 [qVi d,.agg #[qIi a,qIi b,qIi c]] J
def Ds:Nat->Oq:=Aq fun k a J=>fn P X H k 65 [qVi a] J
def I8:Nat->Oq:=Aq fun k a J=>fn P X H k 66 [qVi a] J
def Fy:Nat->Aan:=Aq fun k n a b J=>lp k 66 8 (cB (cL (cR (cR (cR (Bs Tryz.f66)))))) n (Hf 0 18 [(0,qVi a),(4,qIi b)]) J
def Jo:Nat->Oq:=Aq fun k a J=>fn P X H k 67 [qVi a] J
def J6:Nat->yX:=Aq fun k a b c d J=>fn P X H k 68 [qVi a,qVi b,qVi c,qVi d] J
def GX:Nat->j4:=Aq fun k n f g h c d h5 e a b J=>lp k 68 32 (cB (cR (cL (cR (cR (cR (cR (cR (cB (cL (cR (cB (cB (cR (cL (cR (cR (cR (cR (Bs Tryz.f68)))))))))))))))))))) n (Hf 0 221 [(0,qVi f),(2,qVi g),(10,.slice a.1 a.2.1 a.2.2),(11,.slice h c d),(13,qVi (some ⟨h5,0,none⟩)),(16,qVi (some ⟨e,0,none⟩)),(17,qIi b)]) J
def Ie:Nat->yI:=Aq fun k n h0 h1 a b J=>lp k 68 44 (cB (cR (cR (cR (cR (cR (cR (cR (cB (cL (cR (cB (cB (cR (cL (cR (cR (cR (cR (Bs Tryz.f68)))))))))))))))))))) n (Hf 0 221 [(10,.slice a.1 a.2.1 a.2.2),(13,qVi (some ⟨h0,0,none⟩)),(16,qVi (some ⟨h1,0,none⟩)),(20,qIi b)]) J
def EV:Nat->qz:=Aq fun k n e f g c d a b J=>lp k 68 12 (cB (cR (cL (cR (cR (cR (cR (Bs Tryz.f68)))))))) n (Hf 0 221 [(0,qVi e),(2,qVi f),(10,.slice a.1 a.2.1 a.2.2),(11,.slice g c d),(12,qIi b)]) J
def Gd:Nat->j7:=Aq fun k n e f g h i c d a b J=>lp k 68 56 (cB (cR (cL (cR (cR (cR (cR (cR (cR (Bs Tryz.f68)))))))))) n (Hf 0 221 [(0,qVi e),(1,qVi f),(2,qVi g),(3,qVi h),(10,.slice a.1 a.2.1 a.2.2),(21,.slice i c d),(22,qIi b)]) J
def Hp:Nat->wI:=Aq fun k a b J=>fn P X H k 69 [qVi a,qVi b] J
def Dl:Nat->yS:=Aq fun k b a J=>fn P X H k 70 [.int .u8 b,qVi a] J
def GF:Nat->mL:=Aq fun k a b c d J=>fn P X H k 71 [.agg #[.int .u8 a,.int .u8 b,.int .u8 c,.int .u8 d]] J
def DA:Nat->Ku:=Aq fun k a b c d J=>fn P X H k 72 [qVi a,qIi b,qIi c,qIi d] J
def GK:Nat->Aar:=Aq fun k b c a J=>fn P X H k 73 [qIi b,qIi c,qVi a] J
def Ly:Nat->mL:=Aq fun k a b c d J=>fn P X H k 74 [.agg #[qIi a,qIi b,qIi c],qIi d] J
def GL:Nat->tJ:=Aq fun k c d a b J=>fn P X H k 75 [qIi c,qIi d,qVi a,qVi b] J
def Io:Nat->yR:=Aq fun k a b c d J=>fn P X H k 76 [.agg #[qIi a,qIi b,qIi c],qVi d] J
def Ip:Nat->tI:=Aq fun k d e f a b c J=>fn P X H k 77 [qIi d,qIi e,qIi f,qVi a,qVi b,qVi c] J
def Iq:Nat->tJ:=Aq fun k c d a b J=>fn P X H k 78 [qIi c,qIi d,qVi a,qVi b] J
def EO:Nat->N1:=Aq fun k a b c J=>fn P X H k 79 [qVi a,qIi b,qIi c] J
def AR:Nat->Oq:=Aq fun k a J=>fn P X H k 80 [qVi a] J
def E7:Nat->N1:=Aq fun k a b c J=>fn P X H k 81 [qVi a,qIi b,qIi c] J
def CO:Nat->wg:=Aq fun k n b i1 a c d J=>lp k 81 6 (cB (cR (cL (cR (cR (Bs Tryz.f81)))))) n (Hf 0 44 [(0,qVi b),(2,qIi i1),(7,.slice a.1 a.2.1 a.2.2),(8,qIi c),(9,qIi d)]) J
def R7:Nat->qL:=Aq fun k a b J=>fn P X H k 82 [.slice a.1 a.2.1 a.2.2,qIi b] J
def JY:Nat->oN:=Aq fun k n c a b i3 d J=>lp k 82 4 (cB (cR (cL (cR (Bs Tryz.f82))))) n (Hf 0 19 [(0,.slice c a b),(1,qIi i3),(5,qIi d)]) J
def Ay:Nat->Gq:=Aq fun k a b J=>fn P X H k 83 [qVi a,qIi b] J
def EM:Nat->Se:=Aq fun k n a i1 b J=>lp k 83 8 (cB (cR (cL (cR (cR (Bs Tryz.f83)))))) n (Hf 0 29 [(0,qVi a),(1,qIi i1),(5,qIi b)]) J
def Nd:Nat->wI:=Aq fun k a b J=>fn P X H k 85 [qVi a,qVi b] J
def Kb:Nat->yH:=Aq fun k n h0 i1 i2 a J=>lp k 85 18 (cB (cR (cR (cR (cB (cL (cR (cR (cB (cB (cR (cL (cR (cR (cR (Bs Tryz.f85)))))))))))))))) n (Hf 0 48 [(2,qVi (some ⟨h0,0,none⟩)),(5,.func (.func 166) #[] #[qVi (some ⟨h0,0,none⟩)]),(7,qIi i1),(32,qIi i2),(33,qIi a)]) J
def Ka:Nat->th:=Aq fun k n h0 d b c i4 a J=>lp k 85 10 (cB (cR (cL (cR (cR (cR (Bs Tryz.f85))))))) n (Hf 0 48 [(2,qVi (some ⟨h0,0,none⟩)),(5,.func (.func 166) #[] #[qVi (some ⟨h0,0,none⟩)]),(19,.slice d b c),(20,qIi i4),(21,qIi a)]) J
def Dp:Nat->Oq:=Aq fun k a J=>fn P X H k 90 [qVi a] J
def DV:Nat->WK:=Aq fun k n d e b c a f J=>lp k 90 8 (cB (cR (cL (cR (cR (cR (Bs Tryz.f90))))))) n (Hf 0 29 [(0,qVi d),(3,.slice a.1 a.2.1 a.2.2),(4,.slice e b c),(5,qIi f)]) J
def EF:Nat->Ku:=Aq fun k d a b c J=>fn P X H k 91 [qVi d,.agg #[qIi a,qIi b,qIi c]] J
def It:Nat->yP:=Aq fun k a J=>fn P X H k 92 [qIi a] J
def Jj:Nat->Aam:=Aq fun k n i0 h1 a J=>lp k 92 10 (cB (cR (cL (cR (cR (cR (Bs Tryz.f92))))))) n (Hf 0 31 [(0,qIi i0),(4,qVi (some ⟨h1,0,none⟩)),(5,qIi a)]) J
def Cg:Nat->Oq:=Aq fun k a J=>fn P X H k 93 [qVi a] J
def Hj:Nat->T_l:=Aq fun k a J=>fn P X H k 94 [.slice a.1 a.2.1 a.2.2] J
def FY:Nat->Oq:=Aq fun k a J=>fn P X H k 95 [qVi a] J
def Ft:Nat->Oq:=Aq fun k a J=>fn P X H k 96 [qVi a] J
def Iz:Nat->Ku:=Aq fun k d a b c J=>fn P X H k 97 [qVi d,.agg #[qIi a,qIi b,qIi c]] J
def EG:Nat->Nr:=Aq fun k d a b c e J=>fn P X H k 98 [qVi d,.agg #[qIi a,qIi b,qIi c],qIi e] J
def LX:Nat->yP:=Aq fun k a J=>fn P X H k 99 [qIi a] J
def Hc:Nat->Nr:=Aq fun k d a b c e J=>fn P X H k 100 [qVi d,.agg #[qIi a,qIi b,qIi c],qIi e] J
def Bw:Nat->Gq:=Aq fun k a b J=>fn P X H k 101 [qVi a,qIi b] J
def FG:Nat->Gq:=Aq fun k a b J=>fn P X H k 102 [qVi a,qIi b] J
def Fk:Nat->Gq:=Aq fun k a b J=>fn P X H k 103 [qVi a,qIi b] J
def Gw:Nat->Gq:=Aq fun k a b J=>fn P X H k 104 [qVi a,qIi b] J
def H8:Nat->Ku:=Aq fun k a b c d J=>fn P X H k 105 [qVi a,qIi b,qIi c,qIi d] J
def Im:Nat->N1:=Aq fun k a b c J=>fn P X H k 106 [qVi a,qIi b,qIi c] J
def Gv:Nat->Gq:=Aq fun k a b J=>fn P X H k 107 [qVi a,qIi b] J
def HT:Nat->Gq:=Aq fun k a b J=>fn P X H k 108 [qVi a,qIi b] J
def Nf:Nat->yW:=Aq fun k a b c d J=>fn P X H k 109 [qVi a,qVi b,.bool c,qIi d] J
def AP:Nat->Oq:=Aq fun k a J=>fn P X H k 129 [qVi a] J
def EI:Nat->Oq:=Aq fun k a J=>fn P X H k 130 [qVi a] J
def Fz:Nat->Tf:=Aq fun k n d e b c i4 a J=>lp k 130 2 (cB (cR (Bs Tryz.f130))) n (Hf 0 18 [(0,qVi d),(8,.slice e b c),(9,qIi i4),(10,qIi a)]) J
def Eh:Nat->Oq:=Aq fun k a J=>fn P X H k 131 [qVi a] J
def G8:Nat->Tf:=Aq fun k n d e b c i4 a J=>lp k 131 16 (cB (cR (cL (cT (cR (cR (cR (cT (cR (cE (cR (cB (Bs Tryz.f131))))))))))))) n (Hf 0 61 [(0,qVi d),(48,.slice e b c),(49,qIi i4),(50,qIi a)]) J
def BH:Nat->T_l:=Aq fun k a J=>fn P X H k 132 [.slice a.1 a.2.1 a.2.2] J
def Bc:Nat->Gq:=Aq fun k a b J=>fn P X H k 133 [qVi a,qIi b] J
def D7:Nat->Gq:=Aq fun k a b J=>fn P X H k 134 [qVi a,qIi b] J
def BF:Nat->Gq:=Aq fun k a b J=>fn P X H k 135 [qVi a,qIi b] J
def Hi:Nat->yP:=Aq fun k a J=>fn P X H k 136 [qIi a] J
def CP:Nat->yV:=Aq fun k a b c d J=>fn P X H k 137 [qVi a,qIi b,qIi c,.bool d] J
def J7:Nat->yQ:=Aq fun k a b J=>fn P X H k 138 [qIi a,qIi b] J
def Jn:Nat->Nr:=Aq fun k d a b c e J=>fn P X H k 139 [qVi d,.agg #[qIi a,qIi b,qIi c],qIi e] J
def FK:Nat->N1:=Aq fun k a b c J=>fn P X H k 140 [qVi a,qIi b,qIi c] J
def Co:Nat->Oq:=Aq fun k a J=>fn P X H k 141 [qVi a] J
def CT:Nat->Ku:=Aq fun k a b c d J=>fn P X H k 142 [qVi a,qIi b,qIi c,qIi d] J
def Dz:Nat->Ku:=Aq fun k a b c d J=>fn P X H k 143 [qVi a,qIi b,qIi c,qIi d] J
def I7:Nat->Gq:=Aq fun k a b J=>fn P X H k 144 [qVi a,qIi b] J
def Dy:Nat->Aaw:=Aq fun k b a c J=>fn P X H k 145 [qVi b,.slice a.1 a.2.1 a.2.2,qIi c] J
def GN:Nat->mL:=Aq fun k a b c d J=>fn P X H k 146 [.agg #[qIi a,qIi b,qIi c],qIi d] J
def DJ:Nat->Ku:=Aq fun k d a b c J=>fn P X H k 147 [qVi d,.agg #[qIi a,qIi b,qIi c]] J
def Bi:Nat->Oq:=Aq fun k a J=>fn P X H k 148 [qVi a] J
def Jm:Nat->Ku:=Aq fun k d a b c J=>fn P X H k 149 [qVi d,.agg #[qIi a,qIi b,qIi c]] J
def AW:Nat->Oq:=Aq fun k a J=>fn P X H k 150 [qVi a] J
def Az:Nat->Oq:=Aq fun k a J=>fn P X H k 151 [qVi a] J
def Ia:Nat->Gq:=Aq fun k a b J=>fn P X H k 152 [qVi a,qIi b] J
def Gt:Nat->Se:=Aq fun k n a i1 b J=>lp k 152 8 (cB (cR (cL (cR (cR (Bs Tryz.f152)))))) n (Hf 0 37 [(0,qVi a),(1,qIi i1),(6,qIi b)]) J
def Iw:Nat->yU:=Aq fun k d a b c J=>fn P X H k 153 [.slice d.1 d.2.1 d.2.2,.agg #[qIi a,qIi b,qIi c]] J
def D6:Nat->Gq:=Aq fun k a b J=>fn P X H k 154 [qVi a,qIi b] J
def N9:Nat->Rn:=Aq fun k s t e f g h i a b j l m n o p c d q u r J=>fn P X H k 155 [qVi s,qVi t,.agg #[qIi e,qIi f,qIi g,qIi h,qIi i,.slice a.1 a.2.1 a.2.2,.slice b.1 b.2.1 b.2.2,.bool j],.agg #[qIi l,qIi m,qIi n,qIi o,qIi p,.slice c.1 c.2.1 c.2.2,.slice d.1 d.2.1 d.2.2,.bool q],qIi u,.slice r.1 r.2.1 r.2.2] J
def Ns:Nat->wI:=Aq fun k a b J=>fn P X H k 156 [qVi a,qVi b] J
def Gz:Nat->wv:=Aq fun k n c d a b e J=>lp k 156 6 (cB (cR (cL (cR (cR (Bs Tryz.f156)))))) n (Hf 0 66 [(0,qVi c),(5,.slice d a b),(6,qIi e)]) J
def Hy:Nat->Se:=Aq fun k n a i1 b J=>lp k 156 22 (cB (cR (cB (cL (cR (cB (cB (cR (cL (cR (cR (cR (Bs Tryz.f156))))))))))))) n (Hf 0 66 [(0,qVi a),(7,qIi i1),(8,qIi b)]) J
def G0:Nat->Aan:=Aq fun k n a b J=>lp k 156 16 (cB (cR (cL (cR (cR (cR (Bs Tryz.f156))))))) n (Hf 0 66 [(0,qVi a),(7,qIi b)]) J
def FE:Nat->yQ:=Aq fun k a b J=>fn P X H k 157 [qIi a,qIi b] J
def ET:Nat->Gq:=Aq fun k a b J=>fn P X H k 158 [qVi a,qIi b] J
def CQ:Nat->Gq:=Aq fun k a b J=>fn P X H k 159 [qVi a,qIi b] J
def DK:Nat->N1:=Aq fun k a b c J=>fn P X H k 160 [qVi a,qIi b,qIi c] J
def Fw:Nat->Se:=Aq fun k n a i1 b J=>lp k 160 8 (cB (cR (cL (cR (cR (Bs Tryz.f160)))))) n (Hf 0 28 [(0,qVi a),(2,qIi i1),(8,qIi b)]) J
def Hr:Nat->yS:=Aq fun k b a J=>fn P X H k 166 [qIi b,qVi a] J
def CK:Nat->wH:=Aq fun k a b J=>fn P X H k 167 [.slice a.1 a.2.1 a.2.2,b] J
def Dc:Nat->Oq:=Aq fun k a J=>fn P X H k 168 [qVi a] J
def Cd:Nat->Gq:=Aq fun k a b J=>fn P X H k 174 [qVi a,qIi b] J
def Hh:Nat->aY:=Aq fun k a b c J=>fn P X H k 176 [.agg #[qIi a,qIi b,qIi c]] J
def FT:Nat->Gq:=Aq fun k a b J=>fn P X H k 177 [qVi a,qIi b] J
def Em:Nat->Se:=Aq fun k n a i1 b J=>lp k 177 14 (cB (cR (cL (cR (cR (cR (Bs Tryz.f177))))))) n (Hf 0 35 [(0,qVi a),(1,qIi i1),(6,qIi b)]) J
def D5:Nat->Gq:=Aq fun k a b J=>fn P X H k 178 [qVi a,qIi b] J
def Hd:Nat->Oq:=Aq fun k a J=>fn P X H k 179 [qVi a] J
def Ep:Nat->Aal:=Aq fun k n i0 a b J=>lp k 179 16 (cB (cR (cB (cL (cR (cB (cB (cR (cL (cR (cR (cR (Bs Tryz.f179))))))))))))) n (Hf 0 55 [(3,.slice a.1 a.2.1 a.2.2),(4,qIi i0),(5,qIi b)]) J
def Eo:Nat->yc:=Aq fun k n b a c J=>lp k 179 10 (cB (cR (cL (cR (cR (cR (Bs Tryz.f179))))))) n (Hf 0 55 [(0,qVi b),(3,.slice a.1 a.2.1 a.2.2),(4,qIi c)]) J
def Er:Nat->Aby:=Aq fun k n a b J=>lp k 179 24 (cB (cR (cL (cR (cR (cR (cR (Bs Tryz.f179)))))))) n (Hf 0 55 [(3,.slice a.1 a.2.1 a.2.2),(6,qIi b)]) J
def Es:Nat->yc:=Aq fun k n b a c J=>lp k 179 32 (cB (cR (cL (cR (cR (cR (cR (cR (Bs Tryz.f179))))))))) n (Hf 0 55 [(0,qVi b),(3,.slice a.1 a.2.1 a.2.2),(7,qIi c)]) J
def FH:Nat->Ku:=Aq fun k d a b c J=>fn P X H k 180 [qVi d,.agg #[qIi a,qIi b,qIi c]] J
def GV:Nat->Oq:=Aq fun k a J=>fn P X H k 181 [qVi a] J
def Iu:Nat->Nr:=Aq fun k d a b c e J=>fn P X H k 182 [qVi d,.agg #[qIi a,qIi b,qIi c],qIi e] J
def JZ:Nat->Nr:=Aq fun k d a b c e J=>fn P X H k 183 [qVi d,.agg #[qIi a,qIi b,qIi c],qIi e] J
def EP:Nat->aY:=Aq fun k a b c J=>fn P X H k 184 [.agg #[qIi a,qIi b,qIi c]] J
def Cf:Nat->Ku:=Aq fun k a b c d J=>fn P X H k 185 [qVi a,qIi b,qIi c,qIi d] J
def EU:Nat->aY:=Aq fun k a b c J=>fn P X H k 186 [.agg #[qIi a,qIi b,qIi c]] J
def DG:Nat->N1:=Aq fun k a b c J=>fn P X H k 187 [qVi a,qIi b,qIi c] J
def EZ:Nat->Nr:=Aq fun k d e a b c J=>fn P X H k 188 [qVi d,qIi e,.agg #[qIi a,qIi b,qIi c]] J
def FB:Nat->Nr:=Aq fun k d e a b c J=>fn P X H k 189 [qVi d,qIi e,.agg #[qIi a,qIi b,qIi c]] J
def NV:Nat->Oq:=Aq fun k a J=>fn P X H k 190 [qVi a] J
def B5:Nat->Gq:=Aq fun k a b J=>fn P X H k 191 [qVi a,qIi b] J
def Jh:Nat->Gq:=Aq fun k a b J=>fn P X H k 192 [qVi a,qIi b] J
def BG:Nat->N1:=Aq fun k a b c J=>fn P X H k 193 [qVi a,qIi b,qIi c] J
def Je:Nat->N1:=Aq fun k a b c J=>fn P X H k 194 [qVi a,qIi b,qIi c] J
def FX:Nat->Ku:=Aq fun k a b c d J=>fn P X H k 195 [qVi a,qIi b,qIi c,qIi d] J
def EB:Nat->Oq:=Aq fun k a J=>fn P X H k 196 [qVi a] J
def Gy:Nat->Gq:=Aq fun k a b J=>fn P X H k 197 [qVi a,qIi b] J
def G3:Nat->Gq:=Aq fun k a b J=>fn P X H k 198 [qVi a,qIi b] J
def Ji:Nat->yd:=Aq fun k a b c J=>fn P X H k 199 [qVi a,qIi b,.bool c] J
def JN:Nat->N1:=Aq fun k a b c J=>fn P X H k 200 [qVi a,qIi b,qIi c] J
def CC:Nat->Oq:=Aq fun k a J=>fn P X H k 201 [qVi a] J
def CL:Nat->Gq:=Aq fun k a b J=>fn P X H k 203 [qVi a,qIi b] J
def IG:Nat->aY:=Aq fun k a b c J=>fn P X H k 204 [.agg #[qIi a,qIi b,qIi c]] J
def BV:Nat->Gq:=Aq fun k a b J=>fn P X H k 215 [qVi a,qIi b] J
def Jr:Nat->Oq:=Aq fun k a J=>fn P X H k 216 [qVi a] J
def ED:Nat->Tf:=Aq fun k n d e b c i4 a J=>lp k 216 8 (cB (cR (cL (cR (cR (cT (cR (cL (Bs Tryz.f216))))))))) n (Hf 0 80 [(0,qVi d),(31,.slice e b c),(32,qIi i4),(33,qIi a)]) J
def Jg:Nat->Gq:=Aq fun k a b J=>fn P X H k 217 [qVi a,qIi b] J
def FF:Nat->qp:=Aq fun k n h0 e c d i4 b a J=>lp k 217 8 (cB (cR (cL (cR (cR (cR (Bs Tryz.f217))))))) n (Hf 0 40 [(5,qVi (some ⟨h0,0,none⟩)),(7,.slice b.1 b.2.1 b.2.2),(18,.slice e c d),(19,qIi i4),(20,qIi a)]) J
def CM:Nat->N1:=Aq fun k a b c J=>fn P X H k 218 [qVi a,qIi b,qIi c] J
def Ig:Nat->Oq:=Aq fun k a J=>fn P X H k 219 [qVi a] J
def G6:Nat->Tf:=Aq fun k n d e b c i4 a J=>lp k 219 10 (cB (cR (cL (cR (cR (cR (Bs Tryz.f219))))))) n (Hf 0 76 [(0,qVi d),(24,.slice e b c),(25,qIi i4),(26,qIi a)]) J
def G7:Nat->Se:=Aq fun k n b i1 a J=>lp k 219 22 (cB (cR (cL (cR (cR (cR (cR (Bs Tryz.f219)))))))) n (Hf 0 76 [(0,qVi b),(46,qIi i1),(47,qIi a)]) J
def Fe:Nat->Gq:=Aq fun k a b J=>fn P X H k 220 [qVi a,qIi b] J
def Ew:Nat->Gq:=Aq fun k a b J=>fn P X H k 221 [qVi a,qIi b] J
def C5:Nat->qL:=Aq fun k a b J=>fn P X H k 222 [.slice a.1 a.2.1 a.2.2,qIi b] J
def ES:Nat->aY:=Aq fun k a b c J=>fn P X H k 223 [.agg #[qIi a,qIi b,qIi c]] J
def LP:Nat->N1:=Aq fun k a b c J=>fn P X H k 224 [qVi a,qIi b,qIi c] J
def Dd:Nat->Ku:=Aq fun k d a b c J=>fn P X H k 225 [qVi d,.agg #[qIi a,qIi b,qIi c]] J
def CE:Nat->Gq:=Aq fun k a b J=>fn P X H k 226 [qVi a,qIi b] J
def LY:Nat->qL:=Aq fun k a b J=>fn P X H k 227 [.slice a.1 a.2.1 a.2.2,qIi b] J
def Jl:Nat->oN:=Aq fun k n c a b i3 d J=>lp k 227 4 (cB (cL (cR (cR (Bs Tryz.f227))))) n (Hf 0 45 [(0,.slice c a b),(1,qIi i3),(5,qIi d)]) J
def EC:Nat->Ab3:=Aq fun k a b J=>fn P X H k 228 [.slice a.1 a.2.1 a.2.2,qVi b] J
def H9:Nat->Gq:=Aq fun k a b J=>fn P X H k 230 [qVi a,qIi b] J
def BS:Nat->Oq:=Aq fun k a J=>fn P X H k 231 [qVi a] J
def Hk:Nat->wH:=Aq fun k a b J=>fn P X H k 237 [.slice a.1 a.2.1 a.2.2,b] J
def Dq:Nat->j0:=Aq fun k n c a b d i4 e J=>lp k 237 4 (cB (cR (cL (cR (Bs Tryz.f237))))) n (Hf 0 19 [(0,.slice c a b),(1,d),(7,qIi i4),(8,qIi e)]) J
def Ea:Nat->Oq:=Aq fun k a J=>fn P X H k 239 [qVi a] J
def Jd:Nat->yd:=Aq fun k a b c J=>fn P X H k 242 [qVi a,qIi b,.bool c] J
def Gs:Nat->Gq:=Aq fun k a b J=>fn P X H k 243 [qVi a,qIi b] J
def FU:Nat->Se:=Aq fun k n a i1 b J=>lp k 243 4 (cB (cL (cR (cR (Bs Tryz.f243))))) n (Hf 0 42 [(0,qVi a),(1,qIi i1),(5,qIi b)]) J
def I0:Nat->Ab4:=Aq fun k b a J=>fn P X H k 244 [b,qVi a] J
def Dh:Nat->q9:=Aq fun k n v0 i1 d b c i5 a J=>lp k 244 8 (cB (cR (cR (cB (cL (cR (cR (cB (cB (cR (Bs Tryz.f244))))))))))) n (Hf 0 58 [(0,v0),(3,qIi i1),(4,.slice d b c),(27,qIi i5),(28,qIi a)]) J
def Dg:Nat->yM:=Aq fun k n v0 h1 i2 a J=>lp k 244 2 (cB (cR (Bs Tryz.f244))) n (Hf 0 58 [(0,v0),(19,.slice (some ⟨h1,0,none⟩) 3 3),(20,qIi i2),(21,qIi a)]) J
def Iv:Nat->Gq:=Aq fun k a b J=>fn P X H k 245 [qVi a,qIi b] J
def Ic:Nat->ti:=Aq fun k n a i1 i2 b J=>lp k 245 10 (cB (cL (cR (cB (cL (cR (cB (cB (cR (cL (cR (Bs Tryz.f245)))))))))))) n (Hf 0 32 [(0,qVi a),(1,qIi i1),(5,qIi i2),(6,qIi b)]) J
def Ib:Nat->Se:=Aq fun k n a i1 b J=>lp k 245 4 (cB (cR (cL (cR (Bs Tryz.f245))))) n (Hf 0 32 [(0,qVi a),(1,qIi i1),(5,qIi b)]) J
def DT:Nat->Ku:=Aq fun k a b c d J=>fn P X H k 246 [qVi a,qIi b,qIi c,qIi d] J
def Cr:Nat->ti:=Aq fun k n a i1 i2 b J=>lp k 246 12 (cB (cR (cL (cR (cR (cR (Bs Tryz.f246))))))) n (Hf 0 78 [(0,qVi a),(1,qIi i1),(2,qIi i2),(9,qIi b)]) J
def Cs:Nat->gY:=Aq fun k n b i1 i2 i3 a J=>lp k 246 22 (cB (cR (cL (cR (cR (cR (cR (Bs Tryz.f246)))))))) n (Hf 0 78 [(0,qVi b),(1,qIi i1),(2,qIi i2),(3,qIi i3),(10,qIi a)]) J
def N8:Nat->Nr:=Aq fun k d a b c e J=>fn P X H k 247 [qVi d,.agg #[qIi a,qIi b,qIi c],qIi e] J
def Jk:Nat->vY:=Aq fun k n h0 d b c a J=>lp k 247 14 (cB (cR (cR (cR (cB (cL (cR (cB (cB (cR (cL (cR (Bs Tryz.f247))))))))))))) n (Hf 0 50 [(4,qVi (some ⟨h0,0,none⟩)),(9,.slice d b c),(10,qIi a)]) J
def GO:Nat->yK:=Aq fun k n b i1 a c J=>lp k 247 4 (cB (cR (cL (cR (Bs Tryz.f247))))) n (Hf 0 50 [(0,qVi b),(2,qIi i1),(4,qVi (some ⟨a,0,none⟩)),(8,qIi c)]) J
def Gu:Nat->N1:=Aq fun k a b c J=>fn P X H k 248 [qVi a,qIi b,qIi c] J
def Ck:Nat->aY:=Aq fun k a b c J=>fn P X H k 249 [.agg #[qIi a,qIi b,qIi c]] J
def FC:Nat->qM:=Aq fun k e f g a b c d J=>fn P X H k 250 [qVi e,qIi f,qIi g,.agg #[qIi a,qIi b],.agg #[qIi c,qIi d]] J
def Fl:Nat->wj:=Aq fun k n c i1 b i3 a J=>lp k 250 16 (cB (cR (cL (cR (cR (Bs Tryz.f250)))))) n (Hf 0 74 [(0,qVi c),(1,qIi i1),(9,qVi (some ⟨b,0,none⟩)),(53,qIi i3),(54,qIi a)]) J
def Is:Nat->tK:=Aq fun k d e a b c f J=>fn P X H k 251 [qVi d,qIi e,.agg #[qIi a,qIi b,qIi c],qIi f] J
def Dn:Nat->we:=Aq fun k n c i1 i2 b a J=>lp k 251 20 (cB (cR (cL (cR (cR (cR (cR (Bs Tryz.f251)))))))) n (Hf 0 113 [(0,qVi c),(1,qIi i1),(3,qIi i2),(6,qVi (some ⟨b,0,none⟩)),(10,qIi a)]) J
def Hx:Nat->jG:=Aq fun k i c d e f g a b h J=>fn P X H k 252 [qVi i,.agg #[qIi c,qIi d,qIi e,qIi f,qIi g,.slice a.1 a.2.1 a.2.2,.slice b.1 b.2.1 b.2.2,.bool h]] J
def EA:Nat->jz:=Aq fun k n a h1 b J=>lp k 252 4 (cB (cL (cR (cR (Bs Tryz.f252))))) n (Hf 0 51 [(0,qVi a),(3,qVi (some ⟨h1,0,none⟩)),(4,qIi b)]) J
def Jc:Nat->Ku:=Aq fun k a b c d J=>fn P X H k 253 [qVi a,qIi b,qIi c,qIi d] J
def E8:Nat->gY:=Aq fun k n b i1 i2 i3 a J=>lp k 253 20 (cB (cR (cL (cR (cR (cR (cR (Bs Tryz.f253)))))))) n (Hf 0 96 [(0,qVi b),(1,qIi i1),(2,qIi i2),(3,qIi i3),(10,qIi a)]) J
def Ln:Nat->aY:=Aq fun k a b c J=>fn P X H k 254 [.agg #[qIi a,qIi b,qIi c]] J
def Fc:Nat->Aat:=Aq fun k b c a J=>fn P X H k 255 [qVi b,qIi c,.slice a.1 a.2.1 a.2.2] J
def G4:Nat->N1:=Aq fun k a b c J=>fn P X H k 256 [qVi a,qIi b,qIi c] J
def FJ:Nat->Ku:=Aq fun k a b c d J=>fn P X H k 263 [qVi a,qIi b,qIi c,qIi d] J
def Fu:Nat->gY:=Aq fun k n b i1 i2 i3 a J=>lp k 263 14 (cB (cR (cL (cR (cR (cR (Bs Tryz.f263))))))) n (Hf 0 42 [(0,qVi b),(1,qIi i1),(3,qIi i2),(31,qIi i3),(32,qIi a)]) J
def KL:Nat->Gq:=Aq fun k a b J=>fn P X H k 264 [qVi a,qIi b] J
def HZ:Nat->vZ:=Aq fun k n c i1 i2 b a J=>lp k 264 8 (cB (cR (cL (cR (cR (cR (Bs Tryz.f264))))))) n (Hf 0 38 [(0,qVi c),(1,qIi i1),(7,.slice b.1 b.2.1 b.2.2),(21,qIi i2),(22,qIi a)]) J
def Gk:Nat->Oq:=Aq fun k a J=>fn P X H k 265 [qVi a] J
def Cm:Nat->qv:=Aq fun k n e f c d i4 b a J=>lp k 265 4 (cB (cR (cL (cR (Bs Tryz.f265))))) n (Hf 0 70 [(0,qVi e),(2,.slice b.1 b.2.1 b.2.2),(15,.slice f c d),(16,qIi i4),(17,qIi a)]) J
def D8:Nat->Tf:=Aq fun k n d e b c i4 a J=>lp k 265 22 (cB (cR (cR (cR (Bs Tryz.f265))))) n (Hf 0 70 [(0,qVi d),(60,.slice e b c),(61,qIi i4),(62,qIi a)]) J
def CN:Nat->Gq:=Aq fun k a b J=>fn P X H k 266 [qVi a,qIi b] J
def JX:Nat->ye:=Aq fun k a b c J=>fn P X H k 267 [qVi a,qIi b,c] J
def DL:Nat->Oq:=Aq fun k a J=>fn P X H k 268 [qVi a] J
def J8:Nat->qL:=Aq fun k a b J=>fn P X H k 269 [.slice a.1 a.2.1 a.2.2,qIi b] J
def EN:Nat->tp:=Aq fun k n c a b i3 i4 d J=>lp k 269 4 (cB (cR (cL (cR (Bs Tryz.f269))))) n (Hf 0 19 [(0,.slice c a b),(1,qIi i3),(7,qIi i4),(8,qIi d)]) J
def Fj:Nat->T_:=Aq fun k  J=>fn P X H k 270 [] J
def FA:Nat->Oq:=Aq fun k a J=>fn P X H k 271 [qVi a] J
def Fi:Nat->Gq:=Aq fun k a b J=>fn P X H k 272 [qVi a,qIi b] J
def Df:Nat->Se:=Aq fun k n a i1 b J=>lp k 272 6 (cB (cR (cL (cR (cR (Bs Tryz.f272)))))) n (Hf 0 37 [(0,qVi a),(6,qIi i1),(7,qIi b)]) J
def DH:Nat->Gq:=Aq fun k a b J=>fn P X H k 277 [qVi a,qIi b] J
def Ct:Nat->Gq:=Aq fun k a b J=>fn P X H k 278 [qVi a,qIi b] J
def Fb:Nat->Gq:=Aq fun k a b J=>fn P X H k 279 [qVi a,qIi b] J
def IH:Nat->yP:=Aq fun k a J=>fn P X H k 280 [qIi a] J
def Fa:Nat->Gq:=Aq fun k a b J=>fn P X H k 281 [qVi a,qIi b] J
def Ir:Nat->Gq:=Aq fun k a b J=>fn P X H k 282 [qVi a,qIi b] J
def Dm:Nat->qw:=Aq fun k n d e b c a f g J=>lp k 282 14 (cB (cR (cL (cR (cR (cR (cR (cR (Bs Tryz.f282))))))))) n (Hf 0 77 [(0,qVi d),(5,.slice a.1 a.2.1 a.2.2),(6,qIi f),(7,.slice e b c),(8,qIi g)]) J
def M8:Nat->yP:=Aq fun k a J=>fn P X H k 283 [qIi a] J
def DM:Nat->wH:=Aq fun k a b J=>fn P X H k 284 [.slice a.1 a.2.1 a.2.2,b] J
def GJ:Nat->yQ:=Aq fun k a b J=>fn P X H k 285 [.agg #[qIi a,qIi b]] J
def Gx:Nat->Gq:=Aq fun k a b J=>fn P X H k 286 [qVi a,qIi b] J
def DD:Nat->Se:=Aq fun k n a i1 b J=>lp k 286 12 (cB (cL (cR (cR (cR (cR (Bs Tryz.f286))))))) n (Hf 0 49 [(0,qVi a),(1,qIi i1),(5,qIi b)]) J
def Jb:Nat->Gq:=Aq fun k a b J=>fn P X H k 287 [qVi a,qIi b] J
def Gj:Nat->yS:=Aq fun k b a J=>fn P X H k 288 [qIi b,qVi a] J
def HB:Nat->Gq:=Aq fun k a b J=>fn P X H k 289 [qVi a,qIi b] J
def GM:Nat->Gq:=Aq fun k a b J=>fn P X H k 292 [qVi a,qIi b] J
def DU:Nat->tj:=Aq fun k n b i1 a c J=>lp k 292 6 (cB (cR (cL (cR (cR (Bs Tryz.f292)))))) n (Hf 0 43 [(0,qVi b),(1,qIi i1),(5,.slice a.1 a.2.1 a.2.2),(6,qIi c)]) J
def JO:Nat->ye:=Aq fun k a b c J=>fn P X H k 296 [qVi a,qIi b,c] J
def DZ:Nat->tm:=Aq fun k n d i1 c i3 a b J=>lp k 296 18 (cB (cR (cL (cR (cR (cR (cR (cR (Bs Tryz.f296))))))))) n (Hf 0 70 [(0,qVi d),(1,qIi i1),(7,qVi (some ⟨c,0,none⟩)),(11,qIi a),(43,qIi i3),(44,qIi b)]) J
def EH:Nat->wH:=Aq fun k a b J=>fn P X H k 297 [.slice a.1 a.2.1 a.2.2,b] J
def BU:Nat->j0:=Aq fun k n c a b d i4 e J=>lp k 297 4 (cB (cR (cL (cR (Bs Tryz.f297))))) n (Hf 0 19 [(0,.slice c a b),(1,d),(7,qIi i4),(8,qIi e)]) J
def I6:Nat->N1:=Aq fun k a b c J=>fn P X H k 298 [qVi a,qIi b,qIi c] J
def Fv:Nat->Se:=Aq fun k n a i1 b J=>lp k 298 8 (cB (cR (cL (cR (cR (Bs Tryz.f298)))))) n (Hf 0 30 [(0,qVi a),(2,qIi i1),(8,qIi b)]) J
def Hb:Nat->Gq:=Aq fun k a b J=>fn P X H k 317 [.agg #[],qVi a,qIi b] J
def DS:Nat->Aau:=Aq fun k b a J=>fn P X H k 318 [qVi b,.slice a.1 a.2.1 a.2.2] J
def Ek:Nat->N1:=Aq fun k a b c J=>fn P X H k 319 [qVi a,qIi b,qIi c] J
def CJ:Nat->mE:=Aq fun k n i0 i1 e c d i5 b a J=>lp k 319 12 (cB (cR (cR (cB (cL (cR (cR (cB (cB (cR (cL (cR (cR (Bs Tryz.f319)))))))))))))) n (Hf 0 55 [(1,qIi i0),(2,qIi i1),(7,.slice b.1 b.2.1 b.2.2),(25,.slice e c d),(26,qIi i5),(27,qIi a)]) J
def CH:Nat->jy:=Aq fun k n e i1 i2 f c d i6 b a J=>lp k 319 6 (cB (cR (cL (cR (cR (Bs Tryz.f319)))))) n (Hf 0 55 [(0,qVi e),(1,qIi i1),(2,qIi i2),(7,.slice b.1 b.2.1 b.2.2),(14,.slice f c d),(15,qIi i6),(16,qIi a)]) J
def Fh:Nat->Oq:=Aq fun k a J=>fn P X H k 320 [qVi a] J
def De:Nat->jz:=Aq fun k n a h1 b J=>lp k 320 4 (cB (cR (cL (cR (Bs Tryz.f320))))) n (Hf 0 32 [(0,qVi a),(2,qVi (some ⟨h1,0,none⟩)),(4,qIi b)]) J
def D4:Nat->Oq:=Aq fun k a J=>fn P X H k 321 [qVi a] J
def Ce:Nat->tj:=Aq fun k n c i1 b a J=>lp k 321 6 (cB (cR (cL (cR (cR (Bs Tryz.f321)))))) n (Hf 0 39 [(0,qVi c),(3,.slice b.1 b.2.1 b.2.2),(9,qIi i1),(10,qIi a)]) J
def Hw:Nat->Gq:=Aq fun k a b J=>fn P X H k 322 [qVi a,qIi b] J
def E6:Nat->mF:=Aq fun k n e h1 d f b c i6 a J=>lp k 322 14 (cB (cR (cL (cR (cR (cR (cR (cR (Bs Tryz.f322))))))))) n (Hf 0 40 [(0,qVi e),(6,qVi (some ⟨h1,0,none⟩)),(7,.func (.func 324) #[] #[qVi (some ⟨h1,0,none⟩),qVi (some ⟨d,0,none⟩)]),(19,.slice f b c),(20,qIi i6),(21,qIi a)]) J
def Fm:Nat->Gq:=Aq fun k a b J=>fn P X H k 323 [qVi a,qIi b] J
def D9:Nat->Aas:=Aq fun k c a b J=>fn P X H k 324 [qIi c,qVi a,qVi b] J
def H6:Nat->TV:=Aq fun k f args J=>IU P (fn P X H k) f args J
def IE:Nat->TV:=Aq fun k f args J=>IU P (fn P X H k) f args J
def ID:Nat->TV:=Aq fun k f args J=>IU P (fn P X H k) f args J
def Ik:Nat->TV:=Aq fun k f args J=>IU P (fn P X H k) f args J
def Ij:Nat->TV:=Aq fun k f args J=>IU P (fn P X H k) f args J
def LQ:Nat->TV:=Aq fun k f args J=>IU P (fn P X H k) f args J
def Ja:Nat->TV:=Aq fun k f args J=>IU P (fn P X H k) f args J
def IF:Nat->TV:=Aq fun k f args J=>IU P (fn P X H k) f args J
def GI:Nat->TV:=Aq fun k f args J=>IU P (fn P X H k) f args J
def KK:Nat->TV:=Aq fun k f args J=>IU P (fn P X H k) f args J
end
section
variable [AH]
end
end
section
set_option maxRecDepth 100000
section
variable [AH]
theorem Rx (k n s e u t c J):E9 k (n+1) s e u t c J =
 (bif decide (c<(e:Int)) then some (decide (c<80),J) else some (false,J)).bind fun b=>bif b.1 then (if 0<=c/\c<e then s.bind fun a=>(Aj .u8 b.2 a.block (a.off+c.toNat*10)).bind fun g=>(Aj .u8 b.2 a.block (a.off+c.toNat*10+1)).bind fun h=>(Aj .u8 b.2 a.block (a.off+c.toNat*10+1+1)).bind fun i=>(Aj .u8 b.2 a.block (a.off+c.toNat*10+1+1+1)).bind fun j=>(Aj .u8 b.2 a.block (a.off+c.toNat*10+1+1+1+1)).bind fun l=>(Aj .u8 b.2 a.block (a.off+c.toNat*10+1+1+1+1+1)).bind fun m=>(Aj .u8 b.2 a.block (a.off+c.toNat*10+1+1+1+1+1+1)).bind fun o=>(Aj .u8 b.2 a.block (a.off+c.toNat*10+1+1+1+1+1+1+1)).bind fun p=>(Aj .u8 b.2 a.block (a.off+c.toNat*10+1+1+1+1+1+1+1+1)).bind fun q=>(Aj .u8 b.2 a.block (a.off+c.toNat*10+1+1+1+1+1+1+1+1+1)).bind fun r=>(Fq k t g h i j l m o p q r b.2).bind fun d=>(Dk d.1).bind fun f=>bif !f then (some (.ret,[.bool false],d.2)) else (E9 k n s e u t (Ar (c+1)) d.2) else none) else (some (.exit 0,[],b.2)):=by
 simp only[E9,Fq,Ac]; kernel_rfl
theorem Ry (k n d J):FV k (n+1) d J =
 d.bind fun c=>(B7 J c.block (c.off+1)).bind fun g=>(Be k g J).bind fun a=>(Bl .i64 a.1).bind fun f=>bif f != 0 then ((Fq k d (0:Int) (0:Int) (0:Int) (0:Int) (0:Int) (0:Int) (0:Int) (0:Int) (2:Int) (5:Int) a.2).bind fun b=>(Dk b.1).bind fun e=>bif !e then (some (.ret,[.bool false],b.2)) else (FV k n d  b.2)) else (some (.exit 2,[],a.2)):=by
 simp only[FV,Fq,Be,Ac]; kernel_rfl
theorem Va (k h i a b c d e n J):Jf (k+1) h i a b c d e n J =
 Ae J (.cells [.int .u8 h,.int .u8 i,.slice a.1 a.2.1 a.2.2,.slice b.1 b.2.1 b.2.2,.slice c.1 c.2.1 c.2.2,.slice d.1 d.2.1 d.2.2,.slice e.1 e.2.1 e.2.2] Dv true) fun h1 s2=>(Aj .u8 s2 h1 0).bind fun x=>(Aj .u8 s2 h1 (0+1)).bind fun y=>(Bd s2 h1 (0+1+1)).bind fun s=>(Bd s2 h1 (0+1+1+1)).bind fun t=>(Bd s2 h1 (0+1+1+1+1)).bind fun u=>(Bd s2 h1 (0+1+1+1+1+1)).bind fun v=>(Bd s2 h1 (0+1+1+1+1+1+1)).bind fun w=>(Lv k x y (s.1,s.2.1,s.2.2) (t.1,t.2.1,t.2.2) (u.1,u.2.1,u.2.2) (v.1,v.2.1,v.2.2) (w.1,w.2.1,w.2.2) s2).bind fun l=>(HO l.1).bind fun j=>(Ll P Ed (qVi j) (qVi none)).bind fun r=>bif r then (some (.bool false,l.2)) else ((E9 k k n.1 n.2.1 n.2.2 j (0:Int) l.2).bind fun f=>if f.1 = .exit 0 then ((FV k k j  f.2.2).bind fun g=>if g.1 = .exit 2 then ((Lu k g.2.2).bind fun m=>(Dk m.1).bind fun o=>some (.bool o,m.2)) else if g.1 = .ret then (oE g.2.1 fun p=>some (.bool p,g.2.2)) else none) else if f.1 = .ret then (oE f.2.1 fun q=>some (.bool q,f.2.2)) else none):=by
 simp only[Jf,E9,FV,Lu,Lv,Ac]; kernel_rfl
theorem XU (k h i a b c d e J):Lv (k+1) h i a b c d e J =
 Ae J (.cells [.int .u8 h,.int .u8 i,.slice a.1 a.2.1 a.2.2,.slice b.1 b.2.1 b.2.2,.slice c.1 c.2.1 c.2.2,.slice d.1 d.2.1 d.2.2,.slice e.1 e.2.1 e.2.2] Dv true) fun h1 s2=>(Aj .u8 s2 h1 0).bind fun B=>(Aj .u8 s2 h1 (0+1)).bind fun C=>(Bd s2 h1 (0+1+1)).bind fun s=>(Bd s2 h1 (0+1+1+1)).bind fun t=>(Bd s2 h1 (0+1+1+1+1)).bind fun u=>(Bd s2 h1 (0+1+1+1+1+1)).bind fun v=>(Bd s2 h1 (0+1+1+1+1+1+1)).bind fun w=>(H7 k B C (s.1,s.2.1,s.2.2) (t.1,t.2.1,t.2.2) (u.1,u.2.1,u.2.2) (v.1,v.2.1,v.2.2) (w.1,w.2.1,w.2.2) s2).bind fun f=>(HO f.1).bind fun g=>(Ll P Hl (qVi g) (qVi none)).bind fun p=>bif p then (some (qVi none,f.2)) else (g.bind fun m=>(B7 f.2 m.block (m.off+0)).bind fun y=>g.bind fun n=>(B7 f.2 n.block (n.off+1)).bind fun z=>(Kz k y z f.2).bind fun j=>Tc j.1 fun o x=>(Ll P DQ (qVi o) (qVi none)).bind fun q=>(bif q then some (true,j.2) else some (x != 0,j.2)).bind fun l=>bif l.1 then (some (qVi none,l.2)) else (Ae l.2 (.cells [qVi g,qVi o,.slice none 0 0,.slice none 0 0,qIi 0] AN true) fun r A=>some (qVi (some ⟨r,0,none⟩),A))):=by
 simp only[H7,Lv,Kz,Ac]; kernel_rfl
theorem Pv (k c J):Ch (k+1) c J =
 (Ap k c J).bind fun a=>(HO a.1).bind fun e=>(Jq k e a.2).bind fun b=>(Bl .i64 b.1).bind fun d=>some (qIi d,b.2):=by
 simp only[Ch,Ap,Jq,Ac]; kernel_rfl
theorem Qi (k c d J):BZ (k+1) c d J =
 (Ap k c J).bind fun a=>(HO a.1).bind fun g=>(JR k g d a.2).bind fun b=>He b.1 fun e f=>some (.tuple #[qIi e,qIi f],b.2):=by
 simp only[BZ,Ap,JR,Ac]; kernel_rfl
theorem Pu (k c J):Be (k+1) c J =
 (Ap k c J).bind fun a=>(HO a.1).bind fun e=>(Jp k e a.2).bind fun b=>(Bl .i64 b.1).bind fun d=>some (qIi d,b.2):=by
 simp only[Be,Ap,Jp,Ac]; kernel_rfl
theorem OG (k n d b h e c i a J):HU k (n+1) d b h e c i a J =
 bif decide (a<(b:Int)) then (if 0<=a/\a<b then d.bind fun f=>(Aj .i64 J f.block (f.off+a.toNat*1)).bind fun j=>if 0<=a/\a<c then e.bind fun g=>(Aj .i64 J g.block (g.off+a.toNat*1)).bind fun l=>bif j != l then (some (.ret,[.bool false],J)) else (HU k n d b h e c i (Ar (a+1)) J) else none else none) else (some (.exit 0,[],J)):=by
 simp only[HU,Ac]; kernel_rfl
theorem ZD (k b c J):Il (k+1) b c J =
 bif ((b.2.1:Nat):Int) != ((c.2.1:Nat):Int) then (some (.bool false,J)) else ((HU k k b.1 b.2.1 b.2.2 c.1 c.2.1 c.2.2 (0:Int) J).bind fun a=>if a.1 = .exit 0 then (some (.bool true,a.2.2)) else if a.1 = .ret then (oE a.2.1 fun d=>some (.bool d,a.2.2)) else none):=by
 simp only[Il,HU,Ac]; kernel_rfl
theorem Qg (k d J):Da (k+1) d J =
 (Ap k d J).bind fun b=>(HO b.1).bind fun e=>(JQ k e b.2).bind fun c=>(Ej c.1).bind fun a=>some (.slice a.1 a.2.1 a.2.2,c.2):=by
 simp only[Da,Ap,JQ,Ac]; kernel_rfl
theorem OH (k n b h1 d J):HV k (n+1) b h1 d J =
 (AE k b J).bind fun e=>(Bl .i64 e.1).bind fun m=>bif decide (d<m) then ((Bd e.2 h1 (0+0)).bind fun g=>(Bn k b d e.2).bind fun l=>(Bl .i64 l.1).bind fun o=>(BE k b d l.2).bind fun c=>(Bl .i64 c.1).bind fun h=>Ae c.2 (.cells [qIi o,qIi h] As true) fun f i=>(AG P As (g.1,g.2.1,g.2.2) (some ⟨f,0,none⟩,1,1) i).bind fun a=>(CX a.2 h1 (0+0) (.slice a.1.1 a.1.2.1 a.1.2.2)).bind fun j=>HV k n b h1 (Ar (d+1)) j) else (some (.exit 0,[],e.2)):=by
 simp only[AE,BE,Bn,HV,Ac]; kernel_rfl
theorem OJ (k n i h1 d J):HX k (n+1) i h1 d J =
 (Aj .i64 J h1 (0+2+0)).bind fun f=>bif decide (d<f) then ((Aj .i64 J h1 (0+0)).bind fun g=>(AL k i g d J).bind fun c=>He c.1 fun h m=>(Bd c.2 h1 (0+5)).bind fun b=>Ae c.2 (.cells [qIi h] Ak true) fun e j=>(AG P Ak (b.1,b.2.1,b.2.2) (some ⟨e,0,none⟩,1,1) j).bind fun a=>(CX a.2 h1 (0+5) (.slice a.1.1 a.1.2.1 a.1.2.2)).bind fun l=>HX k n i h1 (Ar (d+1)) l) else (some (.exit 4,[],J)):=by
 simp only[AL,HX,Ac]; kernel_rfl
theorem OK (k n i h1 b J):HY k (n+1) i h1 b J =
 (Aj .i64 J h1 (0+2+1)).bind fun f=>bif decide (b<f) then ((Aj .i64 J h1 (0+0)).bind fun g=>(Hv k i g b J).bind fun d=>He d.1 fun h m=>(Bd d.2 h1 (0+6)).bind fun c=>Ae d.2 (.cells [qIi h] Ak true) fun e j=>(AG P Ak (c.1,c.2.1,c.2.2) (some ⟨e,0,none⟩,1,1) j).bind fun a=>(CX a.2 h1 (0+6) (.slice a.1.1 a.1.2.1 a.1.2.2)).bind fun l=>HY k n i h1 (Ar (b+1)) l) else (some (.exit 6,[],J)):=by
 simp only[Hv,HY,Ac]; kernel_rfl
theorem OI (k n h h1 u m U d J):HW k (n+1) h h1 u m U d J =
 bif decide (d<(m:Int)) then (if 0<=d/\d<m then u.bind fun j=>(Aj .i64 J j.block (j.off+d.toNat*1)).bind fun y=>if 0<=d/\d<m then u.bind fun l=>(Aj .i64 J l.block (l.off+d.toNat*1)).bind fun z=>(Gr k h z J).bind fun o=>(Dk o.1).bind fun v=>Ae o.2 (.cells [qIi 0,qIi 0,qIi 0,qIi 0,qIi 0,.slice none 0 0,.slice none 0 0,.bool false] Ab true) fun a M=>(H0 M a 0 [qIi y,qIi 0,qIi 0,qIi 0,qIi 0,.slice none 0 0,.slice none 0 0,.bool v]).bind fun s=>(Aj .i64 s a (0+0)).bind fun A=>(Di k h A s).bind fun p=>He p.1 fun B V=>(CX p.2 a (0+1) (qIi B)).bind fun t=>(Aj .i64 t a (0+0)).bind fun C=>(AK k h C t).bind fun q=>(an q.1).bind fun i=>if i.length=2 then i.head?.bind fun S=>Ms S fun D E F=>i.tail.head?.bind fun T=>(Bl .i64 T).bind fun W=>(H0 q.2 a (0+2) [qIi D,qIi E,qIi F]).bind fun N=>(HX k k h a (0:Int) N).bind fun r=>if r.1 = .exit 4 then ((HY k k h a (0:Int) r.2.2).bind fun b=>if b.1 = .exit 6 then ((Bd b.2.2 h1 (0+1)).bind fun e=>(Aj .i64 b.2.2 a 0).bind fun G=>(Aj .i64 b.2.2 a (0+1)).bind fun H=>(Aj .i64 b.2.2 a (0+1+1)).bind fun I=>(Aj .i64 b.2.2 a (0+1+1+1)).bind fun K=>(Aj .i64 b.2.2 a (0+1+1+1+1)).bind fun L=>(Bd b.2.2 a (0+1+1+1+1+1)).bind fun f=>(Bd b.2.2 a (0+1+1+1+1+1+1)).bind fun g=>(Vu b.2.2 a (0+1+1+1+1+1+1+1)).bind fun w=>Ae b.2.2 (.cells [qIi G,qIi H,qIi I,qIi K,qIi L,.slice f.1 f.2.1 f.2.2,.slice g.1 g.2.1 g.2.2,.bool w] Ab true) fun x O=>(AG P Ab (e.1,e.2.1,e.2.2) (some ⟨x,0,none⟩,1,1) O).bind fun c=>(CX c.2 h1 (0+1) (.slice c.1.1 c.1.2.1 c.1.2.2)).bind fun Q=>HW k n h h1 u m U (Ar (d+1)) Q) else none) else none else none else none else none) else (some (.exit 2,[],J)):=by
 simp only[Di,Gr,AK,HW,HX,HY,Ac]; kernel_rfl
theorem ZE (k e J):En (k+1) e J =
 (Dr k e J).bind fun g=>(Bl .i64 g.1).bind fun h=>Ae g.2 (.cells [.slice none 0 0,.slice none 0 0,.slice none 0 0,qIi h] Db true) fun f i=>(HV k k e f (0:Int) i).bind fun b=>if b.1 = .exit 0 then ((Ca k e b.2.2).bind fun c=>(Ej c.1).bind fun a=>(HW k k e f a.1 a.2.1 a.2.2 (0:Int) c.2).bind fun d=>if d.1 = .exit 2 then (some (qVi (some ⟨f,0,none⟩),d.2.2)) else none) else none:=by
 simp only[Ca,Dr,En,HV,HW,Ac]; kernel_rfl
theorem XT (k J):Lu (k+1)  J =
 (J5 k (4:Int) J).bind fun r1=>Tc r1.1 fun p2 n3=>(Iy k (1:Int) r1.2).bind fun r4=>Tc r4.1 fun p5 n6=>(Ll P EY (qVi p2) (qVi none)).bind fun e7=>(bif e7 then some (true,r4.2) else (Ll P FM (qVi p5) (qVi none)).bind fun e8=>some (e8,r4.2)).bind fun r9=>(bif r9.1 then some (true,r9.2) else some (n3 != 0,r9.2)).bind fun e=>(bif e.1 then some (true,e.2) else some (n6 != 0,e.2)).bind fun f=>bif f.1 then (some (.bool false,f.2)) else ((Kz k p2 p5 f.2).bind fun g=>Tc g.1 fun a O=>(Ll P DQ (qVi a) (qVi none)).bind fun L=>(bif L then some (true,g.2) else some (O != 0,g.2)).bind fun h=>bif h.1 then (some (.bool false,h.2)) else ((B6 k a (1:Int) (0:Int) (0:Int) (0:Int) h.2).bind fun w=>He w.1 fun b Q=>(B6 k a (0:Int) (0:Int) (0:Int) (0:Int) w.2).bind fun i=>He i.1 fun v S=>(bif Q != 0 then some (true,i.2) else some (S != 0,i.2)).bind fun j=>(bif j.1 then some (true,j.2) else (Bb k p5 (0:Int) (0:Int) (0:Int) b j.2).bind fun x=>(Bl .i64 x.1).bind fun T=>some (T != 0,x.2)).bind fun l=>(bif l.1 then some (true,l.2) else (Ci k a b (0:Int) v l.2).bind fun y=>(Bl .i64 y.1).bind fun U=>some (U != 0,y.2)).bind fun m=>(bif m.1 then some (true,m.2) else (Ch k a m.2).bind fun z=>(Bl .i64 z.1).bind fun V=>some (V != 0,z.2)).bind fun n=>(bif n.1 then some (true,n.2) else (Da k a n.2).bind fun A=>(Ej A.1).bind fun c=>Ae A.2 (.cells [qIi b] Ak true) fun M ac=>(Il k (c.1,c.2.1,c.2.2) (some ⟨M,0,none⟩,1,1) ac).bind fun B=>(Dk B.1).bind fun I=>some (!I,B.2)).bind fun o=>bif o.1 then (some (.bool false,o.2)) else ((BZ k a (1:Int) o.2).bind fun p=>He p.1 fun W X=>(bif W != 1 then some (true,p.2) else some (X != 0,p.2)).bind fun q=>(bif q.1 then some (true,q.2) else (Da k a q.2).bind fun C=>(Ej C.1).bind fun d=>Ae C.2 (.cells [qIi v] Ak true) fun N ad=>(Il k (d.1,d.2.1,d.2.2) (some ⟨N,0,none⟩,1,1) ad).bind fun D=>(Dk D.1).bind fun K=>some (!K,D.2)).bind fun r=>(bif r.1 then some (true,r.2) else (DW k a b r.2).bind fun E=>(Bl .i64 E.1).bind fun Y=>some (Y != 2,E.2)).bind fun s=>bif s.1 then (some (.bool false,s.2)) else ((Fx k a s.2).bind fun t=>He t.1 fun ae Z=>(bif Z == 0 then (Be k a t.2).bind fun F=>(Bl .i64 F.1).bind fun aa=>some (aa == 0,F.2) else some (false,t.2)).bind fun u=>(bif u.1 then (Ex k a u.2).bind fun G=>(Bl .i64 G.1).bind fun ab=>some (ab == 0,G.2) else some (false,u.2)).bind fun H=>some (.bool H.1,H.2))))):=by
 simp only[J5,Il,Lu,Iy,Bb,B6,DW,Fx,Ex,Da,Be,Ch,BZ,Ci,Kz,Ac]; kernel_rfl
theorem T8 (k a J):GU (k+1) a J =
 a.bind fun t=>(B7 J t.block (t.off+0)).bind fun w=>(CU k w J).bind fun j=>FO J j.2 ((Ej j.1).bind fun l=>(DI k a (l.1,l.2.1,l.2.2) j.2).bind fun h=>FO j.2 h.2 ((Ej h.1).bind fun m=>a.bind fun u=>(B7 h.2 u.block (u.off+0)).bind fun x=>x.bind fun v=>(B7 h.2 v.block (v.off+0)).bind fun p=>(Dr k p h.2).bind fun f=>(Bl .i64 f.1).bind fun n=>a.bind fun b=>(CX f.2 b.block (b.off+2) (.slice m.1 m.2.1 m.2.2)).bind fun r=>a.bind fun c=>(CX r c.block (c.off+3) (.slice none 0 0)).bind fun s=>a.bind fun d=>(CX s d.block (d.off+4) (qIi n)).bind fun i=>a.bind fun e=>(B7 i e.block (e.off+1)).bind fun q=>(Ch k q i).bind fun g=>(Bl .i64 g.1).bind fun o=>some (.bool (o == 0),g.2))):=by
 simp only[Dr,CU,DI,GU,Ch,Ac]; kernel_rfl
theorem SD (k e J):CU (k+1) e J =
 e.bind fun f=>(B7 J f.block (f.off+0)).bind fun j=>(En k j J).bind fun d=>(HO d.1).bind fun l=>HL e J d.2 (e.bind fun g=>(B7 d.2 g.block (g.off+1)).bind fun m=>(BR k m d.2).bind fun h=>(HO h.1).bind fun n=>(BI k n h.2).bind fun i=>(Ej i.1).bind fun a=>(GG k l (a.1,a.2.1,a.2.2) true i.2).bind fun c=>(Ej c.1).bind fun b=>some (.slice b.1 b.2.1 b.2.2,c.2)):=by
 simp only[En,BR,CU,BI,GG,Ac]; kernel_rfl
theorem TM (k l a b c h J):Bb (k+1) l a b c h J =
 Ae J (.cells [qIi a,qIi b,qIi c] Am true) fun h1 s2=>(Aj .i64 s2 h1 0).bind fun m=>(Aj .i64 s2 h1 (0+1)).bind fun n=>(Aj .i64 s2 h1 (0+1+1)).bind fun o=>(DB k l m n o s2).bind fun e=>Tc e.1 fun q j=>bif j != 0 then (some (qIi j,e.2)) else ((bif decide (h<0) then some (true,e.2) else (bif h == 0 then (Aj .i64 e.2 h1 (0+0)).bind fun p=>some (p == 2,e.2) else some (false,e.2)).bind fun g=>some (g.1,g.2)).bind fun d=>bif d.1 then (some (qIi 1,d.2)) else (q.bind fun f=>(CX d.2 f.block f.off (qIi h)).bind fun i=>some (qIi 0,i))):=by
 simp only[Bb,DB,Ac]; kernel_rfl
theorem M9 (k p a J):CB (k+1) p a J =
 Ae J (.cells [qIi 0,qIi 0,qIi 0] Am true) fun h1 s2=>if (40:Int)=0 then none else bif decide (((if (0:Int)>a then (0:Int) else a).tmod (40:Int))<(24:Int)) then (p.bind fun l=>(B7 s2 l.block (l.off+3)).bind fun q=>(Ds k q s2).bind fun n=>(Bl .i64 n.1).bind fun m=>if m=0 then none else if (4:Int)=0 then none else (H0 n.2 h1 0 [qIi 0,qIi (((if (0:Int)>a then (0:Int) else a).tmod (40:Int)).tmod m),qIi (Ar (((if (0:Int)>a then (0:Int) else a).tmod (40:Int)).tdiv (4:Int)))]).bind fun o=>(((Nh o h1 0 3).bind fun r=>some (.agg r.toArray)).bind fun s=>some [s]).bind fun d=>some (Lb d,o)) else (bif decide (((if (0:Int)>a then (0:Int) else a).tmod (40:Int))<(36:Int)) then ((H0 s2 h1 0 [qIi 1,qIi 0,qIi (Ar (((if (0:Int)>a then (0:Int) else a).tmod (40:Int))-(24:Int)))]).bind fun b=>(((Nh b h1 0 3).bind fun g=>some (.agg g.toArray)).bind fun h=>some [h]).bind fun e=>some (Lb e,b)) else ((H0 s2 h1 0 [qIi 2,qIi 0,qIi (Ar (((if (0:Int)>a then (0:Int) else a).tmod (40:Int))-(36:Int)))]).bind fun c=>(((Nh c h1 0 3).bind fun i=>some (.agg i.toArray)).bind fun j=>some [j]).bind fun f=>some (Lb f,c))):=by
 simp only[CB,Ds,Ac]; kernel_rfl
theorem OT (k c J):Fx (k+1) c J =
 (Ap k c J).bind fun a=>(HO a.1).bind fun f=>(I8 k f a.2).bind fun b=>He b.1 fun d e=>some (.tuple #[qIi d,qIi e],b.2):=by
 simp only[Fx,Ap,I8,Ac]; kernel_rfl
theorem Pt (k c J):Ex (k+1) c J =
 (Ap k c J).bind fun a=>(HO a.1).bind fun e=>(Jo k e a.2).bind fun b=>(Bl .i64 b.1).bind fun d=>some (qIi d,b.2):=by
 simp only[Ex,Ap,Jo,Ac]; kernel_rfl
theorem Vb (k c i j l m n o p q r s J):Fq (k+1) c i j l m n o p q r s J =
 Ae J (.cells [.int .u8 i,.int .u8 j,.int .u8 l,.int .u8 m,.int .u8 n,.int .u8 o,.int .u8 p,.int .u8 q,.int .u8 r,.int .u8 s] Oh true) fun h1 s2=>(Aj .u8 s2 h1 (0+8)).bind fun n3=>if (4:Int)=0 then none else (bif (n3.tmod (4:Int)) == (1:Int) then c.bind fun a4=>(B7 s2 a4.block (a4.off+1)).bind fun p5=>(Be k p5 s2).bind fun r6=>(Bl .i64 r6.1).bind fun n7=>some (n7 == 0,r6.2) else some (false,s2)).bind fun w=>bif w.1 then ((GU k c w.2).bind fun r9=>(Dk r9.1).bind fun Q=>some (.bool Q,r9.2)) else ((Aj .u8 w.2 h1 (0+8)).bind fun V=>if (4:Int)=0 then none else (bif (V.tmod (4:Int)) == (2:Int) then some (true,w.2) else (Aj .u8 w.2 h1 (0+8)).bind fun W=>if (4:Int)=0 then none else some ((W.tmod (4:Int)) == (1:Int),w.2)).bind fun b=>bif b.1 then (c.bind fun x=>(B7 b.2 x.block (x.off+0)).bind fun aj=>aj.bind fun y=>(B7 b.2 y.block (y.off+0)).bind fun ak=>(En k ak b.2).bind fun d=>FO b.2 d.2 ((HO d.1).bind fun am=>c.bind fun z=>(B7 d.2 z.block (z.off+0)).bind fun an=>an.bind fun A=>(B7 d.2 A.block (A.off+1)).bind fun ao=>(BR k ao d.2).bind fun g=>(HO g.1).bind fun ap=>c.bind fun B=>(B7 g.2 B.block (B.off+1)).bind fun aq=>(Aj .u8 g.2 h1 (0+9)).bind fun X=>if (6:Int)=0 then none else (BZ k aq (Ar ((1:Int)+((Ar (X)).tmod (6:Int)))) g.2).bind fun e=>He e.1 fun a0 Y=>c.bind fun C=>(B7 e.2 C.block (C.off+0)).bind fun ar=>ar.bind fun D=>(B7 e.2 D.block (D.off+0)).bind fun au=>(En k au e.2).bind fun f=>FO e.2 f.2 ((HO f.1).bind fun I=>c.bind fun E=>(B7 f.2 E.block (E.off+0)).bind fun av=>av.bind fun F=>(B7 f.2 F.block (F.off+1)).bind fun ax=>(BR k ax f.2).bind fun L=>(HO L.1).bind fun K=>(J6 k am ap I K L.2).bind fun t=>vc t.1 fun U Z=>(bif Y == 0 then some (Z == 0,t.2) else some (false,t.2)).bind fun u=>(bif u.1 then some (((U.2.1:Nat):Int) == (0:Int),u.2) else some (false,u.2)).bind fun h=>(bif h.1 then c.bind fun G=>(B7 h.2 G.block (G.off+1)).bind fun ay=>(Be k ay h.2).bind fun v=>(Bl .i64 v.1).bind fun aa=>(bif aa == 2 then some (true,v.2) else (Hp k I K v.2).bind fun M=>(Dk M.1).bind fun S=>some (S,M.2)).bind fun N=>some (N.1,N.2) else some (false,h.2)).bind fun O=>some (.bool O.1,O.2)))) else (c.bind fun H=>(B7 b.2 H.block (H.off+0)).bind fun az=>(FD k c b.2).bind fun a=>oT a.1 fun f60 f61 f62=>HL c b.2 a.2 (HL (some ⟨h1,0,none⟩) b.2 a.2 ((Aj .u8 a.2 h1 (0+0)).bind fun ab=>(Aj .u8 a.2 h1 (0+0+1)).bind fun ac=>(Aj .u8 a.2 h1 (0+0+1+1)).bind fun ad=>(Aj .u8 a.2 h1 (0+0+1+1+1)).bind fun ae=>(Aj .u8 a.2 h1 (0+0+1+1+1+1)).bind fun af=>(Aj .u8 a.2 h1 (0+0+1+1+1+1+1)).bind fun ag=>(Aj .u8 a.2 h1 (0+0+1+1+1+1+1+1)).bind fun ah=>(Aj .u8 a.2 h1 (0+0+1+1+1+1+1+1+1)).bind fun ai=>(GS k az (f60) (f61) (f62) ab ac ad ae af ag ah ai a.2).bind fun P=>(Dk P.1).bind fun T=>some (.bool T,P.2))))):=by
 simp only[En,BR,GS,GU,Fq,FD,J6,Hp,Be,BZ,Ac]; kernel_rfl
theorem Tx (k j n o p q r s t u v w x J):GS (k+1) j n o p q r s t u v w x J =
 Ae J (.cells [n,o,p] Ho true) fun h1 s2=>Ae s2 (.cells [.int .u8 q,.int .u8 r,.int .u8 s,.int .u8 t,.int .u8 u,.int .u8 v,.int .u8 w,.int .u8 x] NM true) fun g s4=>(CU k j s4).bind fun r5=>(Ej r5.1).bind fun l6=>Ae r5.2 (.cells [.slice none 0 0] FP true) fun h7 s8=>(CX s8 h7 0 (.slice l6.1 l6.2.1 l6.2.2)).bind fun s9=>(Aj .u8 s9 g (0+2)).bind fun ad=>if (36:Int)=0 then none else (CB k j ((Ar (ad)).tmod (36:Int)) s9).bind fun S=>Ms S.1 fun ae af ag=>Ae S.2 (.cells [qIi 0,qIi 0,qIi 0] Am true) fun b bu=>(H0 bu b 0 [qIi ae,qIi af,qIi ag]).bind fun C=>(Aj .u8 C g (0+1)).bind fun ah=>if (200:Int)=0 then none else (Dl k (ah.tmod (200:Int)) (some ⟨h7,0,none⟩) C).bind fun i=>(Bl .i64 i.1).bind fun h=>HL (some ⟨g,0,none⟩) C i.2 ((Aj .u8 i.2 g (0+3)).bind fun ai=>(Dl k ai (some ⟨h7,0,none⟩) i.2).bind fun z=>(Bl .i64 z.1).bind fun M=>j.bind fun D=>(B7 z.2 D.block (D.off+0)).bind fun bo=>(AK k bo h z.2).bind fun T=>(an T.1).bind fun y=>if y.length=2 then y.head?.bind fun bw=>Ms bw fun aj ak am=>y.tail.head?.bind fun bx=>(Bl .i64 bx).bind fun bz=>Ae T.2 (.cells [qIi 0,qIi 0,qIi 0] Ad true) fun e bv=>(H0 bv e 0 [qIi aj,qIi ak,qIi am]).bind fun a=>(Aj .u8 a g (0+0)).bind fun c=>if (9:Int)=0 then none else (fun (A R:Option (Value × Aa))=>bif (c.tmod (9:Int)) == (0:Int) then (bif (c.tmod (9:Int)) == (0:Int) then A else R) else (bif (c.tmod (9:Int)) == (1:Int) then A else R)) ((CV a h1 (0+0)).bind fun f38=>(Aj .u8 a g (0+4)).bind fun ao=>(Aj .u8 a g (0+4+1)).bind fun ap=>(Aj .u8 a g (0+4+1+1)).bind fun aq=>(Aj .u8 a g (0+4+1+1+1)).bind fun ar=>(GF k ao ap aq ar a).bind fun B=>Ms B.1 fun au av ax=>HL (some ⟨h1,0,none⟩) a B.2 ((H6 k f38 [.agg #[qIi au,qIi av,qIi ax]] B.2).bind fun d=>He d.1 fun ay N=>(bif N == 6 then some (true,d.2) else (bif N == 0 then j.bind fun E=>(B7 d.2 E.block (E.off+1)).bind fun bp=>(Aj .i64 d.2 b 0).bind fun az=>(Aj .i64 d.2 b (0+1)).bind fun a0=>(Aj .i64 d.2 b (0+1+1)).bind fun a1=>(Bb k bp az a0 a1 ay d.2).bind fun U=>(Bl .i64 U.1).bind fun a2=>some (a2 == 0,U.2) else some (false,d.2)).bind fun V=>some (V.1,V.2)).bind fun W=>some (.bool W.1,W.2))) ((fun (A R:Option (Value × Aa))=>bif (c.tmod (9:Int)) == (2:Int) then (bif (c.tmod (9:Int)) == (2:Int) then A else R) else (bif (c.tmod (9:Int)) == (3:Int) then A else R)) ((Aj .i64 a e (0+0)).bind fun a3=>(bif a3 == 0 then some (true,a) else (CV a h1 (0+1)).bind fun f60=>(Aj .u8 a g (0+2)).bind fun a4=>(Aj .i64 a e (0+0)).bind fun O=>if O=0 then none else (IE k f60 [qIi h,qIi ((Ar (a4)).tmod O),qIi M] a).bind fun X=>(Bl .i64 X.1).bind fun a5=>some (a5 == 0,X.2)).bind fun Y=>some (.bool Y.1,Y.2)) (bif (c.tmod (9:Int)) == (4:Int) then (j.bind fun F=>(B7 a F.block (F.off+1)).bind fun bq=>(Aj .i64 a b 0).bind fun a6=>(Aj .i64 a b (0+1)).bind fun a7=>(Aj .i64 a b (0+1+1)).bind fun a8=>(Bb k bq a6 a7 a8 M a).bind fun Z=>(Bl .i64 Z.1).bind fun a9=>some (.bool (a9 == 0),Z.2)) else ((fun (A R:Option (Value × Aa))=>bif (c.tmod (9:Int)) == (5:Int) then (bif (c.tmod (9:Int)) == (5:Int) then A else R) else (bif (c.tmod (9:Int)) == (6:Int) then A else R)) (j.bind fun G=>(B7 a G.block (G.off+1)).bind fun br=>(Aj .i64 a b 0).bind fun ba=>(Aj .i64 a b (0+1)).bind fun bb=>(Aj .i64 a b (0+1+1)).bind fun bc=>(Bb k br ba bb bc (0:Int) a).bind fun aa=>(Bl .i64 aa.1).bind fun bd=>some (.bool (bd == 0),aa.2)) (bif (c.tmod (9:Int)) == (7:Int) then ((Aj .i64 a e (0+0)).bind fun be=>bif be == 0 then (some (.bool true,a)) else ((CV a h1 (0+2)).bind fun f81=>(Aj .u8 a g (0+2)).bind fun bf=>(Aj .i64 a e (0+0)).bind fun P=>if P=0 then none else (ID k f81 [qIi h,qIi ((Ar (bf)).tmod P)] a).bind fun f=>He f.1 fun bg bh=>(bif bh == 0 then j.bind fun H=>(B7 f.2 H.block (H.off+1)).bind fun bs=>(Aj .i64 f.2 b 0).bind fun bi=>(Aj .i64 f.2 b (0+1)).bind fun bj=>(Aj .i64 f.2 b (0+1+1)).bind fun bk=>(Bb k bs bi bj bk bg f.2).bind fun ab=>(Bl .i64 ab.1).bind fun bl=>some (bl == 0,ab.2) else some (false,f.2)).bind fun ac=>some (.bool ac.1,ac.2))) else ((Aj .i64 a e (0+1)).bind fun bm=>(bif bm == 0 then some (true,a) else j.bind fun I=>(B7 a I.block (I.off+0)).bind fun bt=>(Aj .u8 a g (0+2)).bind fun bn=>(Aj .i64 a e (0+1)).bind fun Q=>if Q=0 then none else (Aj .u8 a g (0+3)).bind fun K=>(DA k bt h ((Ar (bn)).tmod Q) (Ar ((Ar (K))-(100:Int))) a).bind fun l=>(Bl .i64 l.1).bind fun L=>some (L == 0,l.2)).bind fun m=>some (.bool m.1,m.2)))))) else none):=by
 simp only[H6,ID,IE,DA,AK,GS,Dl,CU,CB,GF,Bb,Ac]; kernel_rfl
theorem T9 (k g J):FD (k+1) g J =
 Ae J (.cells [qVi g] Ed true) fun h1 s2=>Ae s2 (.cells [.nilFunc,.nilFunc,.nilFunc] Ho true) fun f h=>Ae h (.cells [.nilFunc] 132 true) fun h5 i=>(CX i h5 0 (.func (.func 73) #[] #[qVi (some ⟨h1,0,none⟩)])).bind fun j=>Ae j (.cells [.nilFunc] 133 true) fun h8 l=>(CX l h8 0 (.func (.func 75) #[] #[qVi (some ⟨h1,0,none⟩),qVi (some ⟨h5,0,none⟩)])).bind fun c=>(H0 c f 0 [.func (.func 76) #[] #[qVi (some ⟨h1,0,none⟩)],.func (.func 77) #[] #[qVi (some ⟨h8,0,none⟩),qVi (some ⟨h5,0,none⟩),qVi (some ⟨h1,0,none⟩)],.func (.func 78) #[] #[qVi (some ⟨h8,0,none⟩),qVi (some ⟨h1,0,none⟩)]]).bind fun a=>(((Nh a f 0 3).bind fun d=>some (.agg d.toArray)).bind fun e=>some [e]).bind fun b=>some (Lb b,a):=by
 simp only[FD,Ac]; kernel_rfl
theorem LU (k n g h d o b c J):Fo k (n+1) g h d o b c J =
 bif decide (c<(d:Int)) then (g.bind fun j=>(B7 J j.block (j.off+0)).bind fun s=>s.bind fun l=>(B7 J l.block (l.off+0)).bind fun t=>if 0<=c/\c<d then h.bind fun m=>(Aj .i64 J m.block (m.off+c.toNat*1)).bind fun r=>(Di k t r J).bind fun p=>He p.1 fun f q=>Ae p.2 (.cells [qIi f] Ak true) fun e i=>(AG P Ak (b.1,b.2.1,b.2.2) (some ⟨e,0,none⟩,1,1) i).bind fun a=>Fo k n g h d o (a.1.1,a.1.2.1,a.1.2.2) (Ar (c+1)) a.2 else none) else (some (.exit 0,[.slice b.1 b.2.1 b.2.2],J)):=by
 simp only[Di,Fo,Ac]; kernel_rfl
theorem Tz (k d c J):DI (k+1) d c J =
 Ae J (.cells [] Ak true) fun h1 s2=>(Fo k k d c.1 c.2.1 c.2.2 (some ⟨h1,0,some 0⟩,0,0) (0:Int) s2).bind fun b=>if b.1 = .exit 0 then (Sc b.2.1 fun a=>some (.slice a.1 a.2.1 a.2.2,b.2.2)) else none:=by
 simp only[DI,Fo,Ac]; kernel_rfl
theorem VW (k b J):Ca (k+1) b J =
 (AR k b J).bind fun a=>(Dk a.1).bind fun f=>bif !f then (some (.slice none 0 0,a.2)) else (b.bind fun d=>(Bd a.2 d.block (d.off+1)).bind fun g=>(E7 k b (0:Int) ((g.2.1:Nat):Int) a.2).bind fun e=>(Ej e.1).bind fun c=>some (.slice c.1 c.2.1 c.2.2,e.2)):=by
 simp only[Ca,E7,AR,Ac]; kernel_rfl
theorem bH (k a c J):Ix (k+1) a c J =
 (R7 k (a.1,a.2.1,a.2.2) c J).bind fun b=>(Bl .i64 b.1).bind fun d=>some (.bool (decide (d>=0)),b.2):=by
 simp only[R7,Ix,Ac]; kernel_rfl
theorem Sz (k b J):Dr (k+1) b J =
 (AR k b J).bind fun a=>(Dk a.1).bind fun d=>bif !d then (some (qIi 0,a.2)) else (b.bind fun c=>(Aj .i64 a.2 c.block (c.off+6)).bind fun e=>some (qIi e,a.2)):=by
 simp only[Dr,AR,Ac]; kernel_rfl
theorem LS (k n q r g e s c J):DY k (n+1) q r g e s c J =
 bif decide (c<(e:Int)) then (if 0<=c/\c<e then g.bind fun a=>(Aj .i64 J a.block (a.off+c.toNat*3)).bind fun h=>(Aj .i64 J a.block (a.off+c.toNat*3+1)).bind fun i=>(Aj .i64 J a.block (a.off+c.toNat*3+1+1)).bind fun j=>(Iz k q h i j J).bind fun d=>He d.1 fun l t=>if 0<=c/\c<e then g.bind fun b=>(Aj .i64 d.2 b.block (b.off+c.toNat*3)).bind fun m=>(Aj .i64 d.2 b.block (b.off+c.toNat*3+1)).bind fun o=>(Aj .i64 d.2 b.block (b.off+c.toNat*3+1+1)).bind fun p=>(EG k r m o p l d.2).bind fun f=>(Bl .i64 f.1).bind fun u=>DY k n q r g e s (Ar (c+1)) f.2 else none else none) else (some (.exit 0,[],J)):=by
 simp only[DY,EG,Iz,Ac]; kernel_rfl
theorem Tw (k g J):BR (k+1) g J =
 (Cg k g J).bind fun m=>(Bl .i64 m.1).bind fun p=>(It k p m.2).bind fun j=>Tc j.1 fun i q=>bif q != 0 then (Ae j.2 (.cells [.slice none 0 0,.slice none 0 0,.slice none 0 0] BM true) fun o r=>some (qVi (some ⟨o,0,none⟩),r)) else ((FY k g j.2).bind fun n=>(Ej n.1).bind fun h=>(Hj k (h.1,h.2.1,h.2.2) n.2).bind fun d=>(Ej d.1).bind fun a=>i.bind fun c=>(CX d.2 c.block (c.off+2) (.slice a.1 a.2.1 a.2.2)).bind fun l=>(Ft k g l).bind fun e=>(Ej e.1).bind fun b=>(DY k k g i b.1 b.2.1 b.2.2 (0:Int) e.2).bind fun f=>if f.1 = .exit 0 then (some (qVi i,f.2.2)) else none):=by
 simp only[BR,DY,It,Hj,Cg,Ft,FY,Ac]; kernel_rfl
theorem Lo (k n h0 h1 a J):Cx k (n+1) h0 h1 a J =
 (Bd J h0 (0+2)).bind fun j=>(bif decide (a<((j.2.1:Nat):Int)) then some (decide (a<40),J) else some (false,J)).bind fun b=>bif b.1 then ((Bd b.2 h0 (0+2)).bind fun g=>if 0<=a/\a<(g.2.1:Nat) then g.1.bind fun c=>(Aj .u8 b.2 c.block (c.off+a.toNat*4)).bind fun l=>(Aj .u8 b.2 c.block (c.off+a.toNat*4+1)).bind fun m=>(Aj .u8 b.2 c.block (c.off+a.toNat*4+1+1)).bind fun o=>(Aj .u8 b.2 c.block (c.off+a.toNat*4+1+1+1)).bind fun p=>(GF k l m o p b.2).bind fun d=>FO b.2 d.2 (Ms d.1 fun q r s=>(Bd d.2 h0 (0+2)).bind fun h=>if 0<=a/\a<(h.2.1:Nat) then h.1.bind fun f=>if 0<=(3:Int)/\(3:Int)<(4:Nat) then (Aj .u8 d.2 f.block (f.off+a.toNat*4+(3:Int).toNat*1)).bind fun t=>if (3:Int)=0 then none else (Hc k (some ⟨h1,0,none⟩) q r s ((Ar (t)).tmod (3:Int)) d.2).bind fun e=>(Dk e.1).bind fun i=>bif !i then (some (.ret,[qVi none],e.2)) else (Cx k n h0 h1 (Ar (a+1)) e.2) else none else none) else none) else (some (.exit 0,[],b.2)):=by
 simp only[Cx,Hc,GF,Ac]; kernel_rfl
theorem Lp (k n h0 h1 a J):Cy k (n+1) h0 h1 a J =
 (Bd J h0 (0+3)).bind fun i=>(bif decide (a<((i.2.1:Nat):Int)) then some (decide (a<20),J) else some (false,J)).bind fun b=>bif b.1 then ((Bd b.2 h0 (0+3)).bind fun g=>if 0<=a/\a<(g.2.1:Nat) then g.1.bind fun f=>(Aj .u8 b.2 f.block (f.off+a.toNat*1)).bind fun j=>if (100:Int)=0 then none else (Bw k (some ⟨h1,0,none⟩) ((Ar (j)).tmod (100:Int)) b.2).bind fun c=>(Bl .i64 c.1).bind fun h=>(B7 c.2 h1 (0+2)).bind fun o=>(FG k o h c.2).bind fun d=>(Bl .i64 d.1).bind fun l=>HL (some ⟨h1,0,none⟩) c.2 d.2 ((B7 d.2 h1 (0+0)).bind fun p=>(Fk k p h d.2).bind fun e=>(Bl .i64 e.1).bind fun m=>bif l != m then (some (.ret,[qVi none],e.2)) else (Cy k n h0 h1 (Ar (a+1)) e.2)) else none) else (some (.exit 2,[],b.2)):=by
 simp only[Fk,Cy,Bw,FG,Ac]; kernel_rfl
theorem Lq (k n h0 h1 a J):BW k (n+1) h0 h1 a J =
 (Bd J h0 (0+4)).bind fun u=>(bif decide (a<((u.2.1:Nat):Int)) then some (decide (a<120),J) else some (false,J)).bind fun b=>bif b.1 then ((Bd b.2 h0 (0+4)).bind fun l=>if 0<=a/\a<(l.2.1:Nat) then l.1.bind fun c=>(Aj .u8 b.2 c.block (c.off+a.toNat*3)).bind fun v=>(Aj .u8 b.2 c.block (c.off+a.toNat*3+1)).bind fun w=>(Aj .u8 b.2 c.block (c.off+a.toNat*3+1+1)).bind fun x=>Ae b.2 (.cells [.int .u8 0,.int .u8 0,.int .u8 0] fe true) fun e I=>(H0 I e 0 [.int .u8 v,.int .u8 w,.int .u8 x]).bind fun s=>if 0<=(0:Int)/\(0:Int)<(3:Nat) then (Aj .u8 s e (0+(0:Int).toNat*1)).bind fun y=>if (100:Int)=0 then none else (Bw k (some ⟨h1,0,none⟩) ((Ar (y)).tmod (100:Int)) s).bind fun h=>(Bl .i64 h.1).bind fun m=>(B7 h.2 h1 (0+2)).bind fun H=>(Gw k H m h.2).bind fun p=>(an p.1).bind fun g=>if g.length=2 then g.head?.bind fun L=>Ms L fun z A B=>g.tail.head?.bind fun M=>(Bl .i64 M).bind fun C=>Ae p.2 (.cells [qIi 0,qIi 0,qIi 0] Ad true) fun f K=>(H0 K f 0 [qIi z,qIi A,qIi B]).bind fun j=>(bif C == 0 then (Aj .i64 j f (0+0)).bind fun D=>some (decide (D>0),j) else some (false,j)).bind fun d=>(bif d.1 then if 0<=(1:Int)/\(1:Int)<(3:Nat) then (Aj .u8 d.2 e (0+(1:Int).toNat*1)).bind fun E=>(Aj .i64 d.2 f (0+0)).bind fun o=>if o=0 then none else if 0<=(2:Int)/\(2:Int)<(3:Nat) then (Aj .u8 d.2 e (0+(2:Int).toNat*1)).bind fun F=>if (100:Int)=0 then none else (Bw k (some ⟨h1,0,none⟩) ((Ar (F)).tmod (100:Int)) d.2).bind fun q=>(Bl .i64 q.1).bind fun G=>(H8 k (some ⟨h1,0,none⟩) m ((Ar (E)).tmod o) G q.2).bind fun r=>(Dk r.1).bind fun t=>some (!t,r.2) else none else none else some (false,d.2)).bind fun i=>bif i.1 then (some (.ret,[qVi none],i.2)) else (BW k n h0 h1 (Ar (a+1)) i.2) else none else none else none) else (some (.exit 4,[],b.2)):=by
 simp only[BW,Bw,H8,Gw,Ac]; kernel_rfl
theorem Lr (k n h0 h1 a J):Cz k (n+1) h0 h1 a J =
 (Bd J h0 (0+5)).bind fun m=>(bif decide (a<((m.2.1:Nat):Int)) then some (decide (a<20),J) else some (false,J)).bind fun b=>bif b.1 then ((Bd b.2 h0 (0+5)).bind fun h=>if 0<=a/\a<(h.2.1:Nat) then h.1.bind fun f=>if 0<=(0:Int)/\(0:Int)<(2:Nat) then (Aj .u8 b.2 f.block (f.off+a.toNat*2+(0:Int).toNat*1)).bind fun o=>(Bd b.2 h0 (0+5)).bind fun i=>if 0<=a/\a<(i.2.1:Nat) then i.1.bind fun d=>if 0<=(1:Int)/\(1:Int)<(2:Nat) then (Aj .u8 b.2 d.block (d.off+a.toNat*2+(1:Int).toNat*1)).bind fun j=>if (100:Int)=0 then none else (Bw k (some ⟨h1,0,none⟩) ((Ar (j)).tmod (100:Int)) b.2).bind fun e=>(Bl .i64 e.1).bind fun l=>(Im k (some ⟨h1,0,none⟩) (Ar (o)) l e.2).bind fun c=>(Dk c.1).bind fun g=>bif !g then (some (.ret,[qVi none],c.2)) else (Cz k n h0 h1 (Ar (a+1)) c.2) else none else none else none else none) else (some (.exit 6,[],b.2)):=by
 simp only[Cz,Bw,Im,Ac]; kernel_rfl
theorem Lt (k n h0 h1 b J):C0 k (n+1) h0 h1 b J =
 (Bd J h0 (0+6)).bind fun i=>(bif decide (b<((i.2.1:Nat):Int)) then some (decide (b<8),J) else some (false,J)).bind fun a=>bif a.1 then ((Bd a.2 h0 (0+6)).bind fun g=>if 0<=b/\b<(g.2.1:Nat) then g.1.bind fun f=>(Aj .u8 a.2 f.block (f.off+b.toNat*1)).bind fun j=>if (100:Int)=0 then none else (Bw k (some ⟨h1,0,none⟩) ((Ar (j)).tmod (100:Int)) a.2).bind fun c=>(Bl .i64 c.1).bind fun h=>(B7 c.2 h1 (0+2)).bind fun o=>(Gv k o h c.2).bind fun d=>(Bl .i64 d.1).bind fun l=>HL (some ⟨h1,0,none⟩) c.2 d.2 ((B7 d.2 h1 (0+0)).bind fun p=>(HT k p h d.2).bind fun e=>(Bl .i64 e.1).bind fun m=>bif l != m then (some (.ret,[qVi none],e.2)) else (C0 k n h0 h1 (Ar (b+1)) e.2)) else none) else (some (.exit 8,[],a.2)):=by
 simp only[HT,C0,Bw,Gv,Ac]; kernel_rfl
theorem SC (k m n d e f g h J):H7 (k+1) m n d e f g h J =
 Ae J (.cells [.int .u8 m,.int .u8 n,.slice d.1 d.2.1 d.2.2,.slice e.1 e.2.1 e.2.2,.slice f.1 f.2.1 f.2.2,.slice g.1 g.2.1 g.2.2,.slice h.1 h.2.1 h.2.2] Dv true) fun h1 s2=>(Aj .u8 s2 h1 (0+0)).bind fun H=>if (23:Int)=0 then none else (Aj .u8 s2 h1 (0+1)).bind fun I=>if (4:Int)=0 then none else (J5 k (Ar ((2:Int)+((Ar (H)).tmod (23:Int)))) s2).bind fun M=>Tc M.1 fun K Q=>(Iy k (Ar ((1:Int)+((Ar (I)).tmod (4:Int)))) M.2).bind fun D=>Tc D.1 fun L A=>(Ll P EY (qVi K) (qVi none)).bind fun y=>(bif y then some (true,D.2) else (Ll P FM (qVi L) (qVi none)).bind fun z=>some (z,D.2)).bind fun o=>(bif o.1 then some (true,o.2) else some (Q != 0,o.2)).bind fun p=>(bif p.1 then some (true,p.2) else some (A != 0,p.2)).bind fun q=>bif q.1 then (some (qVi none,q.2)) else (Ae q.2 (.cells [qVi K,qVi L,qVi none,qVi none] BJ true) fun a E=>(LX k (Ar ((2:Int)+((Ar (H)).tmod (23:Int)))) E).bind fun w=>Tc w.1 fun B N=>(CX w.2 a (0+2) (qVi B)).bind fun F=>(It k (Ar ((1:Int)+((Ar (I)).tmod (4:Int)))) F).bind fun x=>Tc x.1 fun C O=>(CX x.2 a (0+3) (qVi C)).bind fun G=>(Cx k k h1 a (0:Int) G).bind fun i=>if i.1 = .exit 0 then ((Cy k k h1 a (0:Int) i.2.2).bind fun j=>if j.1 = .exit 2 then ((BW k k h1 a (0:Int) j.2.2).bind fun l=>if l.1 = .exit 4 then ((Cz k k h1 a (0:Int) l.2.2).bind fun b=>if b.1 = .exit 6 then ((C0 k k h1 a (0:Int) b.2.2).bind fun c=>if c.1 = .exit 8 then (some (qVi (some ⟨a,0,none⟩),c.2.2)) else if c.1 = .ret then (u_p c.2.1 fun r=>some (qVi r,c.2.2)) else none) else if b.1 = .ret then (u_p b.2.1 fun s=>some (qVi s,b.2.2)) else none) else if l.1 = .ret then (u_p l.2.1 fun t=>some (qVi t,l.2.2)) else none) else if j.1 = .ret then (u_p j.2.1 fun u=>some (qVi u,j.2.2)) else none) else if i.1 = .ret then (u_p i.2.1 fun v=>some (qVi v,i.2.2)) else none):=by
 simp only[J5,H7,Cx,Cy,BW,Cz,C0,LX,It,Iy,Ac]; kernel_rfl
theorem V9 (k c d J):Kz (k+1) c d J =
 (Nf k c d false (2:Int) J).bind fun a=>Tc a.1 fun f b=>bif b != 0 then (some (.tuple #[qVi none,qIi b],a.2)) else (Ae a.2 (.cells [qVi f] IB true) fun e g=>some (.tuple #[qVi (some ⟨e,0,none⟩),qIi 0],g)):=by
 simp only[Kz,Nf,Ac]; kernel_rfl
theorem L6 (k a J):Ap (k+1) a J =
 (Ll P DQ (qVi a) (qVi none)).bind fun c=>bif c then (some (qVi none,J)) else (a.bind fun b=>(B7 J b.block (b.off+0)).bind fun d=>some (qVi d,J)):=by
 simp only[Ap,Ac]; kernel_rfl
theorem Vr (k a J):Jq (k+1) a J =
 (AP k a J).bind fun h=>(Dk h.1).bind fun p=>(bif !p then some (true,h.2) else a.bind fun m=>(Aj .i64 h.2 m.block (m.off+4)).bind fun q=>some (q != 0,h.2)).bind fun g=>(bif g.1 then some (true,g.2) else a.bind fun n=>(B7 g.2 n.block (n.off+0)).bind fun r=>a.bind fun o=>(B7 g.2 o.block (o.off+1)).bind fun s=>(Nd k r s g.2).bind fun e=>(Dk e.1).bind fun i=>some (!i,e.2)).bind fun b=>bif b.1 then (some (qIi 5,b.2)) else (a.bind fun c=>(CX b.2 c.block (c.off+8) (qIi 0)).bind fun j=>a.bind fun d=>(CX j d.block (d.off+4) (qIi 1)).bind fun l=>(EI k a l).bind fun f=>Wz f.1 (some (qIi 0,f.2))):=by
 simp only[Nd,AP,Jq,EI,Ac]; kernel_rfl
theorem MR (k n b i1 a J):G5 k (n+1) b i1 a J =
 bif decide (a<i1) then (b.bind fun c=>(Aj .i64 J c.block (c.off+4)).bind fun e=>bif e == 0 then (some (.ret,[qIi a,qIi 0],J)) else ((Eh k b J).bind fun d=>Wz d.1 (G5 k n b i1 (Ar (a+1)) d.2))) else (some (.exit 0,[],J)):=by
 simp only[G5,Eh,Ac]; kernel_rfl
theorem Wi (k e b J):JR (k+1) e b J =
 (AP k e J).bind fun c=>(Dk c.1).bind fun f=>bif !f then (some (.tuple #[qIi 0,qIi 5],c.2)) else ((bif decide (b<1) then some (true,c.2) else some (decide (b>10000),c.2)).bind fun d=>bif d.1 then (some (.tuple #[qIi 0,qIi 1],d.2)) else ((G5 k k e b (0:Int) d.2).bind fun a=>if a.1 = .exit 0 then (some (.tuple #[qIi b,qIi 0],a.2.2)) else if a.1 = .ret then (jf a.2.1 fun g h=>some (.tuple #[qIi g,qIi h],a.2.2)) else none)):=by
 simp only[AP,JR,G5,Ac]; kernel_rfl
theorem Vp (k b J):Jp (k+1) b J =
 (AP k b J).bind fun a=>(Dk a.1).bind fun d=>bif !d then (some (qIi (-1:Int),a.2)) else (b.bind fun c=>(Aj .i64 a.2 c.block (c.off+4)).bind fun e=>some (qIi e,a.2)):=by
 simp only[AP,Jp,Ac]; kernel_rfl
theorem Wg (k d J):JQ (k+1) d J =
 (AP k d J).bind fun a=>(Dk a.1).bind fun g=>bif !g then (some (.slice none 0 0,a.2)) else (d.bind fun e=>(Bd a.2 e.block (e.off+6)).bind fun b=>(BH k (b.1,b.2.1,b.2.2) a.2).bind fun f=>(Ej f.1).bind fun c=>some (.slice c.1 c.2.1 c.2.2,f.2)):=by
 simp only[BH,JQ,AP,Ac]; kernel_rfl
theorem S8 (k b J):AE (k+1) b J =
 (AR k b J).bind fun a=>(Dk a.1).bind fun d=>bif !d then (some (qIi 0,a.2)) else (b.bind fun c=>(Bd a.2 c.block (c.off+0)).bind fun e=>some (qIi ((e.2.1:Nat):Int),a.2)):=by
 simp only[AE,AR,Ac]; kernel_rfl
theorem N6 (k c a J):Bn (k+1) c a J =
 (bif decide (a<0) then some (true,J) else (AE k c J).bind fun g=>(Bl .i64 g.1).bind fun h=>some (decide (a>=h),g.2)).bind fun b=>bif b.1 then (some (qIi (-1:Int),b.2)) else (c.bind fun d=>(Bd b.2 d.block (d.off+0)).bind fun f=>if 0<=a/\a<(f.2.1:Nat) then f.1.bind fun e=>(Aj .i64 b.2 e.block (e.off+a.toNat*2+0)).bind fun i=>some (qIi i,b.2) else none):=by
 simp only[AE,Bn,Ac]; kernel_rfl
theorem Kx (k c a J):BE (k+1) c a J =
 (bif decide (a<0) then some (true,J) else (AE k c J).bind fun g=>(Bl .i64 g.1).bind fun h=>some (decide (a>=h),g.2)).bind fun b=>bif b.1 then (some (qIi (-1:Int),b.2)) else (c.bind fun d=>(Bd b.2 d.block (d.off+0)).bind fun f=>if 0<=a/\a<(f.2.1:Nat) then f.1.bind fun e=>(Aj .i64 b.2 e.block (e.off+a.toNat*2+1)).bind fun i=>some (qIi i,b.2) else none):=by
 simp only[AE,BE,Ac]; kernel_rfl
theorem S9 (k b c J):Gr (k+1) b c J =
 (Bc k b c J).bind fun a=>(Dk a.1).bind fun g=>(bif g then b.bind fun d=>(B7 a.2 d.block (d.off+3)).bind fun i=>if (2:Int)=0 then none else (D7 k i (Ar (c.tdiv (2:Int))) a.2).bind fun e=>(Bl .i64 e.1).bind fun h=>some (h == 1,e.2) else some (false,a.2)).bind fun f=>some (.bool f.1,f.2):=by
 simp only[Bc,Gr,D7,Ac]; kernel_rfl
theorem Tp (k c b J):Di (k+1) c b J =
 (BF k c b J).bind fun a=>(Bl .i64 a.1).bind fun g=>bif g != 0 then (some (.tuple #[qIi 0,qIi g],a.2)) else (c.bind fun d=>(Bd a.2 d.block (d.off+1)).bind fun f=>if 0<=b/\b<(f.2.1:Nat) then f.1.bind fun e=>(Aj .i64 a.2 e.block (e.off+b.toNat*1)).bind fun h=>some (.tuple #[qIi h,qIi 0],a.2) else none):=by
 simp only[Di,BF,Ac]; kernel_rfl
theorem N5 (k p g J):AK (k+1) p g J =
 Ae J (.cells [qIi 0,qIi 0,qIi 0] Ad true) fun h1 s2=>(BF k p g s2).bind fun d=>(Bl .i64 d.1).bind fun r=>bif r != 0 then ((H0 d.2 h1 0 [qIi 0,qIi 0,qIi 0]).bind fun s=>(((Nh s h1 0 3).bind fun v6=>some (.agg v6.toArray)).bind fun t=>some [t,qIi r]).bind fun o=>some (Lb o,s)) else (p.bind fun q=>(Bd d.2 q.block (q.off+1)).bind fun b=>if 0<=(Ar (g+1))/\(Ar (g+1))<(b.2.1:Nat) then b.1.bind fun a=>(Aj .i64 d.2 a.block (a.off+(Ar (g+1)).toNat*1)).bind fun h=>(Hi k h d.2).bind fun c=>Ms c.1 fun i j l=>(H0 c.2 h1 0 [qIi i,qIi j,qIi l]).bind fun e=>(((Nh e h1 0 3).bind fun m=>some (.agg m.toArray)).bind fun n=>some [n,qIi 0]).bind fun f=>some (Lb f,e) else none):=by
 simp only[AK,BF,Hi,Ac]; kernel_rfl
theorem VZ (k c h i J):AL (k+1) c h i J =
 (CP k c h i false J).bind fun a=>He a.1 fun b g=>bif g != 0 then (some (.tuple #[qIi 0,qIi g],a.2)) else (c.bind fun d=>(Bd a.2 d.block (d.off+1)).bind fun f=>if 0<=b/\b<(f.2.1:Nat) then f.1.bind fun e=>(Aj .i64 a.2 e.block (e.off+b.toNat*1)).bind fun j=>some (.tuple #[qIi j,qIi 0],a.2) else none):=by
 simp only[AL,CP,Ac]; kernel_rfl
theorem UP (k c h i J):Hv (k+1) c h i J =
 (CP k c h i true J).bind fun a=>He a.1 fun b g=>bif g != 0 then (some (.tuple #[qIi 0,qIi g],a.2)) else (c.bind fun d=>(Bd a.2 d.block (d.off+1)).bind fun f=>if 0<=b/\b<(f.2.1:Nat) then f.1.bind fun e=>(Aj .i64 a.2 e.block (e.off+b.toNat*1)).bind fun j=>some (.tuple #[qIi j,qIi 0],a.2) else none):=by
 simp only[Hv,CP,Ac]; kernel_rfl
theorem dS (k a J):J5 (k+1) a J =
 (bif decide (a<2) then some (true,J) else some (decide (a>64),J)).bind fun l=>bif l.1 then (some (.tuple #[qVi none,qIi 1],l.2)) else (if 0<=a/\a<=a/\a*(16:Nat)<=2 ^ 40/\a<=2 ^ 40 then Ae l.2 (.cells (rep a.toNat [qIi 0,qIi 0]) Bj true) fun n s=>if 0<=(Ar (a*64))/\(Ar (a*64))<=(Ar (a*64))/\(Ar (a*64))*(8:Nat)<=2 ^ 40/\(Ar (a*64))<=2 ^ 40 then Ae s (.cells (rep (Ar (a*64)).toNat [qIi 0]) Ak true) fun o t=>Ae t (.map []) fun p u=>Ae u (.map []) fun h8 v=>Ae v (.cells [.slice (some ⟨n,0,none⟩) a.toNat a.toNat,.slice (some ⟨o,0,none⟩) ((Ar (a*64)).toNat) ((Ar (a*64)).toNat),qVi none,qVi none,.map (some p),.map (some h8),qIi 0] FQ true) fun b e=>(Bd e b (0+1)).bind fun g=>if (2:Int)=0 then none else (J7 k (Ar (((g.2.1:Nat):Int).tdiv (2:Int))) (1:Int) e).bind fun c=>Tc c.1 fun i q=>(CX c.2 b (0+2) (qVi i)).bind fun f=>(Bd f b (0+1)).bind fun h=>if (2:Int)=0 then none else (J7 k (Ar (((h.2.1:Nat):Int).tdiv (2:Int))) (1:Int) f).bind fun d=>Tc d.1 fun j r=>(CX d.2 b (0+3) (qVi j)).bind fun m=>some (.tuple #[qVi (some ⟨b,0,none⟩),qIi 0],m) else none else none):=by
 simp only[J5,J7,Ac]; kernel_rfl
theorem bK (k a J):Iy (k+1) a J =
 (bif decide (a<1) then some (true,J) else some (decide (a>4),J)).bind fun b=>bif b.1 then (some (.tuple #[qVi none,qIi 1],b.2)) else (if 0<=(Ar (a*16))/\(Ar (a*16))<=(Ar (a*16))/\(Ar (a*16))*(8:Nat)<=2 ^ 40/\(Ar (a*16))<=2 ^ 40 then Ae b.2 (.cells (rep (Ar (a*16)).toNat [qIi 0]) Ak true) fun c f=>if 0<=(16:Int)/\(16:Int)<=(16:Int)/\(16:Int)*(8:Nat)<=2 ^ 40/\(16:Int)<=2 ^ 40 then Ae f (.cells (rep (16:Int).toNat [qIi 0]) Ak true) fun d g=>Ae g (.cells [qIi a,.slice (some ⟨c,0,none⟩) ((Ar (a*16)).toNat) ((Ar (a*16)).toNat),.slice (some ⟨d,0,none⟩) ((16:Int).toNat) ((16:Int).toNat),.slice none 0 0] ML true) fun e h=>some (.tuple #[qVi (some ⟨e,0,none⟩),qIi 0],h) else none else none):=by
 simp only[Iy,Ac]; kernel_rfl
theorem Ps (k g a b c h J):B6 (k+1) g a b c h J =
 Ae J (.cells [qIi a,qIi b,qIi c] Ad true) fun h1 s2=>(Ap k g s2).bind fun d=>(HO d.1).bind fun n=>(Aj .i64 d.2 h1 0).bind fun i=>(Aj .i64 d.2 h1 (0+1)).bind fun j=>(Aj .i64 d.2 h1 (0+1+1)).bind fun l=>(Jn k n i j l h d.2).bind fun f=>He f.1 fun m e=>some (.tuple #[qIi m,qIi e],f.2):=by
 simp only[B6,Ap,Jn,Ac]; kernel_rfl
theorem Pw (k e f g m J):Ci (k+1) e f g m J =
 (Ap k e J).bind fun j=>(HO j.1).bind fun o=>(FK k o f g j.2).bind fun d=>He d.1 fun n i=>bif i != 0 then (some (qIi i,d.2)) else (e.bind fun h=>(B7 d.2 h.block (h.off+0)).bind fun p=>(Co k p d.2).bind fun l=>(HO l.1).bind fun q=>(CT k q f g m l.2).bind fun a=>(Bl .i64 a.1).bind fun b=>bif b != 0 then (some (qIi b,a.2)) else ((Dz k e f g n a.2).bind fun c=>Wz c.1 (some (qIi 0,c.2)))):=by
 simp only[CT,Ci,Ap,Dz,Co,FK,Ac]; kernel_rfl
theorem OS (k c d J):DW (k+1) c d J =
 (Ap k c J).bind fun a=>(HO a.1).bind fun f=>(I7 k f d a.2).bind fun b=>(Bl .i64 b.1).bind fun e=>some (qIi e,b.2):=by
 simp only[DW,Ap,I7,Ac]; kernel_rfl
theorem NZ (k n e f c h a b J):G1 k (n+1) e f c h a b J =
 bif decide (b<(c:Int)) then (if 0<=b/\b<c then f.bind fun g=>(Aj .i64 J g.block (g.off+b.toNat*1)).bind fun j=>(Dy k e (a.1,a.2.1,a.2.2) j J).bind fun i=>(Ej i.1).bind fun d=>G1 k n e f c h (d.1,d.2.1,d.2.2) (Ar (b+1)) i.2 else none) else (some (.exit 0,[.slice a.1 a.2.1 a.2.2],J)):=by
 simp only[Dy,G1,Ac]; kernel_rfl
theorem Ob (k n r h1 c a J):G2 k (n+1) r h1 c a J =
 (Bd J h1 (0+5)).bind fun l=>bif decide (a<((l.2.1:Nat):Int)) then ((Aj .i64 J h1 (0+2)).bind fun m=>(Aj .i64 J h1 (0+2+1)).bind fun o=>(Aj .i64 J h1 (0+2+1+1)).bind fun p=>(GN k m o p a J).bind fun b=>(Dk b.1).bind fun j=>(bif j then ((Bd b.2 h1 (0+5)).bind fun h=>if 0<=a/\a<(h.2.1:Nat) then h.1.bind fun g=>(Aj .i64 b.2 g.block (g.off+a.toNat*1)).bind fun q=>(Dy k r (c.1,c.2.1,c.2.2) q b.2).bind fun i=>(Ej i.1).bind fun d=>some (.normal,[.slice d.1 d.2.1 d.2.2],i.2) else none) else (some (.normal,[.slice c.1 c.2.1 c.2.2],b.2)):Option Bq).bind fun f=>if f.1 = .normal then (Sc f.2.1 fun e=>G2 k n r h1 (e.1,e.2.1,e.2.2) (Ar (a+1)) f.2.2) else none) else (some (.exit 6,[.slice c.1 c.2.1 c.2.2],J)):=by
 simp only[GN,Dy,G2,Ac]; kernel_rfl
theorem Oa (k n r C P B T q e J):Fs k (n+1) r C P B T q e J =
 bif decide (e<(B:Int)) then (r.bind fun s=>(Bd J s.block (s.off+1)).bind fun w=>if 0<=e/\e<B then P.bind fun t=>(Aj .i64 J t.block (t.off+e.toNat*1)).bind fun F=>(Ay k r F J).bind fun c=>(Bl .i64 c.1).bind fun b=>if 0<=b/\b<(w.2.1:Nat) then w.1.bind fun a=>(Aj .i64 c.2 a.block (a.off+b.toNat*8)).bind fun G=>(Aj .i64 c.2 a.block (a.off+b.toNat*8+1)).bind fun H=>(Aj .i64 c.2 a.block (a.off+b.toNat*8+1+1)).bind fun I=>(Aj .i64 c.2 a.block (a.off+b.toNat*8+1+1+1)).bind fun K=>(Aj .i64 c.2 a.block (a.off+b.toNat*8+1+1+1+1)).bind fun L=>(Bd c.2 a.block (a.off+b.toNat*8+1+1+1+1+1)).bind fun j=>(Bd c.2 a.block (a.off+b.toNat*8+1+1+1+1+1+1)).bind fun l=>(Vu c.2 a.block (a.off+b.toNat*8+1+1+1+1+1+1+1)).bind fun D=>Ae c.2 (.cells [qIi 0,qIi 0,qIi 0,qIi 0,qIi 0,.slice none 0 0,.slice none 0 0,.bool false] Ab true) fun f Q=>(H0 Q f 0 [qIi G,qIi H,qIi I,qIi K,qIi L,.slice j.1 j.2.1 j.2.2,.slice l.1 l.2.1 l.2.2,.bool D]).bind fun S=>(G2 k k r f (q.1,q.2.1,q.2.2) (0:Int) S).bind fun g=>if g.1 = .exit 6 then (Sc g.2.1 fun d=>(bif C then (Aj .i64 g.2.2 f (0+2+2)).bind fun M=>some (M == 2,g.2.2) else some (false,g.2.2)).bind fun h=>(bif h.1 then (Bd h.2 f (0+5)).bind fun x=>if 0<=(0:Int)/\(0:Int)<(x.2.1:Nat) then x.1.bind fun u=>(Aj .i64 h.2 u.block (u.off+(0:Int).toNat*1)).bind fun N=>(Ix k (d.1,d.2.1,d.2.2) N h.2).bind fun z=>(Dk z.1).bind fun E=>some (E,z.2) else none else some (false,h.2)).bind fun i=>(bif i.1 then ((Bd i.2 f (0+5)).bind fun y=>if 0<=(1:Int)/\(1:Int)<(y.2.1:Nat) then y.1.bind fun v=>(Aj .i64 i.2 v.block (v.off+(1:Int).toNat*1)).bind fun O=>(Dy k r (d.1,d.2.1,d.2.2) O i.2).bind fun A=>(Ej A.1).bind fun m=>some (.normal,[.slice m.1 m.2.1 m.2.2],A.2) else none) else (some (.normal,[.slice d.1 d.2.1 d.2.2],i.2)):Option Bq).bind fun p=>if p.1 = .normal then (Sc p.2.1 fun o=>Fs k n r C P B T (o.1,o.2.1,o.2.2) (Ar (e+1)) p.2.2) else none) else none else none else none) else (some (.exit 4,[.slice q.1 q.2.1 q.2.2],J)):=by
 simp only[Ay,Ix,Dy,Fs,G2,Ac]; kernel_rfl
theorem Vh (k n f e a h J):Hz k (n+1) f e a h J =
 bif h != ((a.2.1:Nat):Int) then ((Hj k (a.1,a.2.1,a.2.2) J).bind fun g=>(Ej g.1).bind fun b=>(Fs k k f e b.1 b.2.1 b.2.2 (a.1,a.2.1,a.2.2) (0:Int) g.2).bind fun d=>if d.1 = .exit 4 then (Sc d.2.1 fun c=>Hz k n f e (c.1,c.2.1,c.2.2) ((a.2.1:Nat):Int) d.2.2) else none) else (some (.exit 2,[.slice a.1 a.2.1 a.2.2],J)):=by
 simp only[Hj,Hz,Fs,Ac]; kernel_rfl
theorem Yd (k f c g J):GG (k+1) f c g J =
 Ae J (.cells [] Ak true) fun h1 s2=>(G1 k k f c.1 c.2.1 c.2.2 (some ⟨h1,0,some 0⟩,0,0) (0:Int) s2).bind fun e=>if e.1 = .exit 0 then (Sc e.2.1 fun d=>(Hz k k f g (d.1,d.2.1,d.2.2) (-1:Int) e.2.2).bind fun b=>if b.1 = .exit 2 then (Sc b.2.1 fun a=>some (.slice a.1 a.2.1 a.2.2,b.2.2)) else none) else none:=by
 simp only[GG,G1,Hz,Ac]; kernel_rfl
theorem KZ (k n e c h i3 f a J):Eu k (n+1) e c h i3 f a J =
 bif decide (a<(c:Int)) then ((bif f then some (true,J) else if 0<=a/\a<c then e.bind fun g=>(Aj .i64 J g.block (g.off+a.toNat*1)).bind fun d=>some (d == i3,J) else none).bind fun b=>Eu k n e c h i3 b.1 (Ar (a+1)) b.2) else (some (.exit 2,[.bool f],J)):=by
 simp only[Eu,Ac]; kernel_rfl
theorem KY (k n l m h p a d J):Et k (n+1) l m h p a d J =
 bif decide (d<(h:Int)) then (if 0<=d/\d<h then m.bind fun g=>(Aj .i64 J g.block (g.off+d.toNat*3)).bind fun s=>(Aj .i64 J g.block (g.off+d.toNat*3+1)).bind fun t=>(Aj .i64 J g.block (g.off+d.toNat*3+1+1)).bind fun u=>(DJ k l s t u J).bind fun r=>(Bl .i64 r.1).bind fun q=>(Eu k k a.1 a.2.1 a.2.2 q false (0:Int) r.2).bind fun b=>if b.1 = .exit 2 then (oE b.2.1 fun i=>(bif !i then (Ae b.2.2 (.cells [qIi q] Ak true) fun j o=>(AG P Ak (a.1,a.2.1,a.2.2) (some ⟨j,0,none⟩,1,1) o).bind fun c=>some (.normal,[.slice c.1.1 c.1.2.1 c.1.2.2],c.2)) else (some (.normal,[.slice a.1 a.2.1 a.2.2],b.2.2)):Option Bq).bind fun f=>if f.1 = .normal then (Sc f.2.1 fun e=>Et k n l m h p (e.1,e.2.1,e.2.2) (Ar (d+1)) f.2.2) else none) else none else none) else (some (.exit 0,[.slice a.1 a.2.1 a.2.2],J)):=by
 simp only[Et,Eu,DJ,Ac]; kernel_rfl
theorem R5 (k d J):BI (k+1) d J =
 (Dp k d J).bind fun e=>(Ej e.1).bind fun c=>(Et k k d c.1 c.2.1 c.2.2 (none,0,0) (0:Int) e.2).bind fun b=>if b.1 = .exit 0 then (Sc b.2.1 fun a=>some (.slice a.1 a.2.1 a.2.2,b.2.2)) else none:=by
 simp only[BI,Et,Dp,Ac]; kernel_rfl
theorem MB (k g a b c J):DB (k+1) g a b c J =
 Ae J (.cells [qIi a,qIi b,qIi c] Am true) fun h1 s2=>(Bi k g s2).bind fun d=>(Dk d.1).bind fun i=>bif !i then (some (.tuple #[qVi none,qIi 5],d.2)) else ((Aj .i64 d.2 h1 0).bind fun j=>(Aj .i64 d.2 h1 (0+1)).bind fun l=>(Aj .i64 d.2 h1 (0+1+1)).bind fun m=>(Jm k g j l m d.2).bind fun f=>(HO f.1).bind fun h=>(Ll P iH (qVi h) (qVi none)).bind fun e=>bif e then (some (.tuple #[qVi none,qIi 1],f.2)) else (some (.tuple #[qVi h,qIi 0],f.2))):=by
 simp only[Jm,Bi,DB,Ac]; kernel_rfl
theorem Pq (k b J):Ds (k+1) b J =
 (AW k b J).bind fun a=>(Dk a.1).bind fun d=>bif !d then (some (qIi 0,a.2)) else (b.bind fun c=>(Bd a.2 c.block (c.off+0)).bind fun e=>some (qIi ((e.2.1:Nat):Int),a.2)):=by
 simp only[AW,Ds,Ac]; kernel_rfl
theorem Mc (k n a b J):Fy k (n+1) a b J =
 a.bind fun c=>(Aj .i64 J c.block (c.off+4)).bind fun e=>bif e != 0 then ((Eh k a J).bind fun d=>Wz d.1 (Fy k n a (Ar (b+1)) d.2)) else (some (.exit 0,[qIi b],J)):=by
 simp only[Fy,Eh,Ac]; kernel_rfl
theorem TT (k c J):I8 (k+1) c J =
 (AP k c J).bind fun a=>(Dk a.1).bind fun d=>bif !d then (some (.tuple #[qIi 0,qIi 5],a.2)) else ((Fy k k c (0:Int) a.2).bind fun b=>if b.1 = .exit 0 then (ZS b.2.1 fun e=>some (.tuple #[qIi e,qIi 0],b.2.2)) else none):=by
 simp only[I8,Fy,AP,Ac]; kernel_rfl
theorem Vo (k b J):Jo (k+1) b J =
 (AP k b J).bind fun a=>(Dk a.1).bind fun d=>bif !d then (some (qIi 0,a.2)) else (b.bind fun c=>(Aj .i64 a.2 c.block (c.off+8)).bind fun e=>some (qIi e,a.2)):=by
 simp only[Jo,AP,Ac]; kernel_rfl
theorem OP (k n u v A y z h5 d c b J):GX k (n+1) u v A y z h5 d c b J =
 (Bd J h5 (0+5)).bind fun E=>bif decide (b<((E.2.1:Nat):Int)) then ((Bd J h5 (0+5)).bind fun q=>if 0<=b/\b<(q.2.1:Nat) then q.1.bind fun o=>(Aj .i64 J o.block (o.off+b.toNat*1)).bind fun F=>(D6 k u F J).bind fun f=>(Bl .i64 f.1).bind fun G=>(Bd f.2 d (0+5)).bind fun r=>if 0<=b/\b<(r.2.1:Nat) then r.1.bind fun p=>(Aj .i64 f.2 p.block (p.off+b.toNat*1)).bind fun H=>(D6 k v H f.2).bind fun a=>(Bl .i64 a.1).bind fun t=>(bif G == t then some (true,a.2) else (bif t == 0 then (Aj .i64 a.2 h5 0).bind fun I=>(Aj .i64 a.2 h5 (0+1)).bind fun K=>(Aj .i64 a.2 h5 (0+1+1)).bind fun L=>(Aj .i64 a.2 h5 (0+1+1+1)).bind fun M=>(Aj .i64 a.2 h5 (0+1+1+1+1)).bind fun N=>(Bd a.2 h5 (0+1+1+1+1+1)).bind fun i=>(Bd a.2 h5 (0+1+1+1+1+1+1)).bind fun j=>(Vu a.2 h5 (0+1+1+1+1+1+1+1)).bind fun B=>(Aj .i64 a.2 d 0).bind fun O=>(Aj .i64 a.2 d (0+1)).bind fun P=>(Aj .i64 a.2 d (0+1+1)).bind fun Q=>(Aj .i64 a.2 d (0+1+1+1)).bind fun S=>(Aj .i64 a.2 d (0+1+1+1+1)).bind fun T=>(Bd a.2 d (0+1+1+1+1+1)).bind fun l=>(Bd a.2 d (0+1+1+1+1+1+1)).bind fun m=>(Vu a.2 d (0+1+1+1+1+1+1+1)).bind fun C=>(N9 k u v I K L M N (i.1,i.2.1,i.2.2) (j.1,j.2.1,j.2.2) B O P Q S T (l.1,l.2.1,l.2.2) (m.1,m.2.1,m.2.2) C b (A,y,z) a.2).bind fun w=>(Dk w.1).bind fun D=>some (D,w.2) else some (false,a.2)).bind fun x=>some (x.1,x.2)).bind fun g=>bif g.1 then (GX k n u v A y z h5 d (c.1,c.2.1,c.2.2) (Ar (b+1)) g.2) else ((Aj .i64 g.2 h5 (0+1)).bind fun s=>(Iw k (c.1,c.2.1,c.2.2) (11:Int) s (Ar ((1:Int)+b)) g.2).bind fun h=>(Ej h.1).bind fun e=>GX k n u v A y z h5 d (e.1,e.2.1,e.2.2) (Ar (b+1)) h.2) else none else none) else (some (.exit 2,[.slice c.1 c.2.1 c.2.2],J)):=by
 simp only[Iw,GX,D6,N9,Ac]; kernel_rfl
theorem OQ (k n h0 h1 a b J):Ie k (n+1) h0 h1 a b J =
 (Bd J h0 (0+6)).bind fun l=>bif decide (b<((l.2.1:Nat):Int)) then ((Bd J h0 (0+6)).bind fun h=>if 0<=b/\b<(h.2.1:Nat) then h.1.bind fun f=>(Aj .i64 J f.block (f.off+b.toNat*1)).bind fun o=>(Bd J h1 (0+6)).bind fun i=>if 0<=b/\b<(i.2.1:Nat) then i.1.bind fun g=>(Aj .i64 J g.block (g.off+b.toNat*1)).bind fun p=>(bif o != p then ((Aj .i64 J h0 (0+1)).bind fun q=>(Bd J h0 (0+5)).bind fun m=>(Iw k (a.1,a.2.1,a.2.2) (11:Int) q (Ar ((Ar ((1:Int)+((m.2.1:Nat):Int)))+b)) J).bind fun j=>(Ej j.1).bind fun c=>some (.normal,[.slice c.1 c.2.1 c.2.2],j.2)) else (some (.normal,[.slice a.1 a.2.1 a.2.2],J)):Option Bq).bind fun e=>if e.1 = .normal then (Sc e.2.1 fun d=>Ie k n h0 h1 (d.1,d.2.1,d.2.2) (Ar (b+1)) e.2.2) else none else none else none) else (some (.exit 4,[.slice a.1 a.2.1 a.2.2],J)):=by
 simp only[Iw,Ie,Ac]; kernel_rfl
theorem OO (k n A s B t F c j J):EV k (n+1) A s B t F c j J =
 bif decide (j<(t:Int)) then (A.bind fun C=>(Bd J C.block (C.off+1)).bind fun G=>if 0<=j/\j<t then B.bind fun D=>(Aj .i64 J D.block (D.off+j.toNat*1)).bind fun Q=>(Ay k A Q J).bind fun f=>(Bl .i64 f.1).bind fun d=>if 0<=d/\d<(G.2.1:Nat) then G.1.bind fun a=>(Aj .i64 f.2 a.block (a.off+d.toNat*8)).bind fun S=>(Aj .i64 f.2 a.block (a.off+d.toNat*8+1)).bind fun T=>(Aj .i64 f.2 a.block (a.off+d.toNat*8+1+1)).bind fun U=>(Aj .i64 f.2 a.block (a.off+d.toNat*8+1+1+1)).bind fun V=>(Aj .i64 f.2 a.block (a.off+d.toNat*8+1+1+1+1)).bind fun W=>(Bd f.2 a.block (a.off+d.toNat*8+1+1+1+1+1)).bind fun u=>(Bd f.2 a.block (a.off+d.toNat*8+1+1+1+1+1+1)).bind fun v=>(Vu f.2 a.block (a.off+d.toNat*8+1+1+1+1+1+1+1)).bind fun M=>Ae f.2 (.cells [qIi 0,qIi 0,qIi 0,qIi 0,qIi 0,.slice none 0 0,.slice none 0 0,.bool false] Ab true) fun h ao=>(H0 ao h 0 [qIi S,qIi T,qIi U,qIi V,qIi W,.slice u.1 u.2.1 u.2.2,.slice v.1 v.2.1 v.2.2,.bool M]).bind fun L=>(Aj .i64 L h (0+1)).bind fun X=>(Ia k s X L).bind fun r=>He r.1 fun Y Z=>bif Z != 0 then ((Aj .i64 r.2 h (0+1)).bind fun aa=>(Iw k (c.1,c.2.1,c.2.2) (10:Int) aa (0:Int) r.2).bind fun I=>(Ej I.1).bind fun w=>EV k n A s B t F (w.1,w.2.1,w.2.2) (Ar (j+1)) I.2) else (s.bind fun E=>(Bd r.2 E.block (E.off+1)).bind fun H=>(Ay k s Y r.2).bind fun g=>(Bl .i64 g.1).bind fun e=>if 0<=e/\e<(H.2.1:Nat) then H.1.bind fun b=>(Aj .i64 g.2 b.block (b.off+e.toNat*8)).bind fun ab=>(Aj .i64 g.2 b.block (b.off+e.toNat*8+1)).bind fun ac=>(Aj .i64 g.2 b.block (b.off+e.toNat*8+1+1)).bind fun ad=>(Aj .i64 g.2 b.block (b.off+e.toNat*8+1+1+1)).bind fun ae=>(Aj .i64 g.2 b.block (b.off+e.toNat*8+1+1+1+1)).bind fun af=>(Bd g.2 b.block (b.off+e.toNat*8+1+1+1+1+1)).bind fun x=>(Bd g.2 b.block (b.off+e.toNat*8+1+1+1+1+1+1)).bind fun y=>(Vu g.2 b.block (b.off+e.toNat*8+1+1+1+1+1+1+1)).bind fun N=>Ae g.2 (.cells [qIi 0,qIi 0,qIi 0,qIi 0,qIi 0,.slice none 0 0,.slice none 0 0,.bool false] Ab true) fun l ap=>(H0 ap l 0 [qIi ab,qIi ac,qIi ad,qIi ae,qIi af,.slice x.1 x.2.1 x.2.2,.slice y.1 y.2.1 y.2.2,.bool N]).bind fun i=>(Aj .i64 i l (0+2)).bind fun ag=>(Aj .i64 i l (0+2+1)).bind fun ah=>(Aj .i64 i l (0+2+1+1)).bind fun ai=>(Aj .i64 i h (0+2)).bind fun aj=>(Aj .i64 i h (0+2+1)).bind fun ak=>(Aj .i64 i h (0+2+1+1)).bind fun am=>(Ll P Ad (.agg #[qIi ag,qIi ah,qIi ai]) (.agg #[qIi aj,qIi ak,qIi am])).bind fun O=>bif !O then ((Aj .i64 i h (0+1)).bind fun an=>(Iw k (c.1,c.2.1,c.2.2) (11:Int) an (0:Int) i).bind fun K=>(Ej K.1).bind fun z=>EV k n A s B t F (z.1,z.2.1,z.2.2) (Ar (j+1)) K.2) else ((GX k k A s B t F h l (c.1,c.2.1,c.2.2) (0:Int) i).bind fun p=>if p.1 = .exit 2 then (Sc p.2.1 fun m=>(Ie k k h l (m.1,m.2.1,m.2.2) (0:Int) p.2.2).bind fun q=>if q.1 = .exit 4 then (Sc q.2.1 fun o=>EV k n A s B t F (o.1,o.2.1,o.2.2) (Ar (j+1)) q.2.2) else none) else none) else none) else none else none) else (some (.exit 0,[.slice c.1 c.2.1 c.2.2],J)):=by
 simp only[Ia,Ay,Iw,EV,GX,Ie,Ac]; kernel_rfl
theorem OR (k n C D E F B q G b a J):Gd k (n+1) C D E F B q G b a J =
 bif decide (a<(q:Int)) then (if 0<=a/\a<q then B.bind fun c=>(Aj .i64 J c.block (c.off+a.toNat*3)).bind fun r=>(Aj .i64 J c.block (c.off+a.toNat*3+1)).bind fun s=>(Aj .i64 J c.block (c.off+a.toNat*3+1+1)).bind fun t=>(EF k D r s t J).bind fun m=>He m.1 fun u H=>(D6 k C u m.2).bind fun e=>(Bl .i64 e.1).bind fun h=>bif h == 0 then (Gd k n C D E F B q G (b.1,b.2.1,b.2.2) (Ar (a+1)) e.2) else (if 0<=a/\a<q then B.bind fun d=>(Aj .i64 e.2 d.block (d.off+a.toNat*3)).bind fun v=>(Aj .i64 e.2 d.block (d.off+a.toNat*3+1)).bind fun w=>(Aj .i64 e.2 d.block (d.off+a.toNat*3+1+1)).bind fun x=>(EF k F v w x e.2).bind fun i=>He i.1 fun y z=>(bif z != 0 then some (true,i.2) else (D6 k E y i.2).bind fun o=>(Bl .i64 o.1).bind fun A=>some (A != h,o.2)).bind fun j=>(bif j.1 then ((Iw k (b.1,b.2.1,b.2.2) (3:Int) h a j.2).bind fun p=>(Ej p.1).bind fun f=>some (.normal,[.slice f.1 f.2.1 f.2.2],p.2)) else (some (.normal,[.slice b.1 b.2.1 b.2.2],j.2)):Option Bq).bind fun l=>if l.1 = .normal then (Sc l.2.1 fun g=>Gd k n C D E F B q G (g.1,g.2.1,g.2.2) (Ar (a+1)) l.2.2) else none else none) else none) else (some (.exit 6,[.slice b.1 b.2.1 b.2.2],J)):=by
 simp only[EF,Iw,Gd,D6,Ac]; kernel_rfl
theorem ZL (k m n o v J):J6 (k+1) m n o v J =
 (Az k m J).bind fun r=>(Dk r.1).bind fun z=>(bif !z then some (true,r.2) else (AW k n r.2).bind fun w=>(Dk w.1).bind fun A=>some (!A,w.2)).bind fun s=>(bif s.1 then some (true,s.2) else (Az k o s.2).bind fun x=>(Dk x.1).bind fun B=>some (!B,x.2)).bind fun t=>(bif t.1 then some (true,t.2) else (AW k v t.2).bind fun y=>(Dk y.1).bind fun p=>some (!p,y.2)).bind fun i=>bif i.1 then (some (.tuple #[.slice none 0 0,qIi 1],i.2)) else (Ae i.2 (.cells [] XA true) fun q u=>(BI k n u).bind fun j=>(Ej j.1).bind fun g=>(GG k m (g.1,g.2.1,g.2.2) true j.2).bind fun l=>(Ej l.1).bind fun h=>(EV k k m o h.1 h.2.1 h.2.2 (some ⟨q,0,some 0⟩,0,0) (0:Int) l.2).bind fun d=>if d.1 = .exit 0 then (Sc d.2.1 fun a=>(Dp k n d.2.2).bind fun f=>(Ej f.1).bind fun b=>(Gd k k m n o v b.1 b.2.1 b.2.2 (a.1,a.2.1,a.2.2) (0:Int) f.2).bind fun e=>if e.1 = .exit 6 then (Sc e.2.1 fun c=>some (.tuple #[.slice c.1 c.2.1 c.2.2,qIi 0],e.2.2)) else none) else none):=by
 simp only[Az,BI,AW,Dp,J6,EV,Gd,GG,Ac]; kernel_rfl
theorem Ye (k b c J):Hp (k+1) b c J =
 (Ns k b c J).bind fun a=>(Dk a.1).bind fun d=>some (.bool d,a.2):=by
 simp only[Ns,Hp,Ac]; kernel_rfl
theorem Q3 (k b c J):Dl (k+1) b c J =
 c.bind fun e=>(Bd J e.block e.off).bind fun j=>(bif ((j.2.1:Nat):Int) == (0:Int) then some (true,J) else some (decide (b>=200),J)).bind fun a=>bif a.1 then (some (qIi 0,a.2)) else (c.bind fun f=>(Bd a.2 f.block f.off).bind fun i=>c.bind fun g=>(Bd a.2 g.block g.off).bind fun d=>if ((d.2.1:Nat):Int)=0 then none else if 0<=((Ar (b)).tmod ((d.2.1:Nat):Int))/\((Ar (b)).tmod ((d.2.1:Nat):Int))<(i.2.1:Nat) then i.1.bind fun h=>(Aj .i64 a.2 h.block (h.off+((Ar (b)).tmod ((d.2.1:Nat):Int)).toNat*1)).bind fun l=>some (qIi l,a.2) else none):=by
 simp only[Dl,Ac]; kernel_rfl
theorem XS (k e f g h J):GF (k+1) e f g h J =
 Ae J (.cells [.int .u8 e,.int .u8 f,.int .u8 g,.int .u8 h] ff true) fun h1 s2=>Ae s2 (.cells [qIi 0,qIi 0,qIi 0] Ad true) fun D A=>if 0<=(1:Int)/\(1:Int)<(4:Nat) then (Aj .u8 A h1 (0+(1:Int).toNat*1)).bind fun E=>if (5:Int)=0 then none else if 0<=(2:Int)/\(2:Int)<(4:Nat) then (Aj .u8 A h1 (0+(2:Int).toNat*1)).bind fun F=>if (6:Int)=0 then none else Ae A (.cells [qIi 0,qIi 0,qIi 0] Ad true) fun a G=>(H0 G a 0 [qIi ((Ar (E)).tmod (5:Int)),qIi ((Ar (F)).tmod (6:Int)),qIi 0]).bind fun d=>if 0<=(0:Int)/\(0:Int)<(4:Nat) then (Aj .u8 d h1 (0+(0:Int).toNat*1)).bind fun c=>if (8:Int)=0 then none else (bif (c.tmod (8:Int)) == (4:Int) then ((Aj .i64 d a (0+0)).bind fun o=>if (3:Int)=0 then none else (CX d a (0+2) (qIi 1)).bind fun u=>(CX u a (0+0) (qIi (Ar ((1:Int)+(o.tmod (3:Int)))))).bind fun v=>some (.normal,[],v)) else ((bif (c.tmod (8:Int)) == (5:Int) then ((Aj .i64 d a (0+0)).bind fun p=>if (3:Int)=0 then none else (CX d a (0+2) (qIi 2)).bind fun w=>(CX w a (0+0) (qIi (Ar ((2:Int)+(p.tmod (3:Int)))))).bind fun x=>some (.normal,[],x)) else ((bif (c.tmod (8:Int)) == (6:Int) then ((CX d a (0+2) (qIi 3)).bind fun y=>some (.normal,[],y)) else ((bif (c.tmod (8:Int)) == (7:Int) then (if 0<=(2:Int)/\(2:Int)<(4:Nat) then (Aj .u8 d h1 (0+(2:Int).toNat*1)).bind fun q=>if (100:Int)=0 then none else (CX d a (0+1) (qIi (Ar ((32:Int)+((Ar (q)).tmod (100:Int)))))).bind fun z=>some (.normal,[],z) else none) else (some (.normal,[],d)):Option Bq).bind fun i=>if i.1 = .normal then (some (.normal,[],i.2.2)) else none):Option Bq).bind fun j=>if j.1 = .normal then (some (.normal,[],j.2.2)) else none):Option Bq).bind fun l=>if l.1 = .normal then (some (.normal,[],l.2.2)) else none):Option Bq).bind fun b=>if b.1 = .normal then ((Aj .i64 b.2.2 a 0).bind fun r=>(Aj .i64 b.2.2 a (0+1)).bind fun s=>(Aj .i64 b.2.2 a (0+1+1)).bind fun t=>(H0 b.2.2 D 0 [qIi r,qIi s,qIi t]).bind fun m=>(((Nh m D 0 3).bind fun B=>some (.agg B.toArray)).bind fun C=>some [C]).bind fun n=>some (Lb n,m)) else none else none else none else none:=by
 simp only[GF,Ac]; kernel_rfl
theorem Ru (k c h i j J):DA (k+1) c h i j J =
 (CP k c h i true J).bind fun a=>He a.1 fun b g=>bif g != 0 then (some (qIi g,a.2)) else (c.bind fun d=>(Bd a.2 d.block (d.off+1)).bind fun f=>if 0<=b/\b<(f.2.1:Nat) then f.1.bind fun e=>(CX a.2 e.block (e.off+b.toNat*1) (qIi j)).bind fun l=>some (qIi 0,l) else none):=by
 simp only[DA,CP,Ac]; kernel_rfl
theorem Q4 (k t u r J):GK (k+1) t u r J =
 r.bind fun o=>(B7 J o.block o.off).bind fun w=>w.bind fun p=>(B7 J p.block (p.off+0)).bind fun x=>x.bind fun q=>(B7 J q.block (q.off+0)).bind fun y=>(AK k y t J).bind fun s=>(an s.1).bind fun l=>if l.length=2 then l.head?.bind fun z=>Ms z fun e f g=>l.tail.head?.bind fun n=>(Bl .i64 n).bind fun v=>Ae s.2 (.cells [qIi 0,qIi 0,qIi 0] Ad true) fun a m=>(H0 m a 0 [qIi e,qIi f,qIi g]).bind fun b=>(Aj .i64 b a 0).bind fun h=>(Aj .i64 b a (0+1)).bind fun i=>(Aj .i64 b a (0+1+1)).bind fun j=>(Ly k h i j u b).bind fun c=>(Dk c.1).bind fun d=>some (.bool d,c.2) else none:=by
 simp only[AK,GK,Ly,Ac]; kernel_rfl
theorem Yb (k a b c e J):Ly (k+1) a b c e J =
 Ae J (.cells [qIi a,qIi b,qIi c] Ad true) fun h1 s2=>(Aj .i64 s2 h1 0).bind fun g=>(Aj .i64 s2 h1 (0+1)).bind fun h=>(Aj .i64 s2 h1 (0+1+1)).bind fun i=>(GN k g h i e s2).bind fun d=>(Dk d.1).bind fun f=>some (.bool (!f),d.2):=by
 simp only[GN,Ly,Ac]; kernel_rfl
theorem Q5 (k y z g D J):GL (k+1) y z g D J =
 g.bind fun A=>(B7 J A.block A.off).bind fun G=>G.bind fun B=>(B7 J B.block (B.off+0)).bind fun H=>H.bind fun C=>(B7 J C.block (C.off+0)).bind fun I=>(AL k I y z J).bind fun w=>He w.1 fun E F=>(bif F == 0 then some (E != 0,w.2) else some (false,w.2)).bind fun c=>(bif c.1 then D.bind fun h=>(CV c.2 h.block h.off).bind fun f12=>(Ik k f12 [qIi y,qIi z] c.2).bind fun o=>(Dk o.1).bind fun r=>some (r,o.2) else some (false,c.2)).bind fun a=>(bif a.1 then (g.bind fun i=>(B7 a.2 i.block i.off).bind fun t=>g.bind fun j=>(B7 a.2 j.block j.off).bind fun u=>u.bind fun l=>(Bd a.2 l.block (l.off+3)).bind fun e=>g.bind fun m=>(B7 a.2 m.block m.off).bind fun v=>Ae a.2 (.cells [qIi E] Ak true) fun s q=>(DI k v (some ⟨s,0,none⟩,1,1) q).bind fun d=>FO q d.2 ((Ej d.1).bind fun f=>(AG P Ak (e.1,e.2.1,e.2.2) (f.1,f.2.1,f.2.2) d.2).bind fun b=>HL g d.2 b.2 (t.bind fun n=>(CX b.2 n.block (n.off+3) (.slice b.1.1 b.1.2.1 b.1.2.2)).bind fun x=>some (.normal,[],x)))) else (some (.normal,[],a.2)):Option Bq).bind fun p=>if p.1 = .normal then (some (.tuple #[],p.2.2)) else none:=by
 simp only[Ik,AL,DI,GL,Ac]; kernel_rfl
theorem Q6 (k a b c i J):Io (k+1) a b c i J =
 Ae J (.cells [qIi a,qIi b,qIi c] Ad true) fun h1 s2=>i.bind fun g=>(B7 s2 g.block g.off).bind fun n=>n.bind fun h=>(B7 s2 h.block (h.off+1)).bind fun o=>(Aj .i64 s2 h1 0).bind fun j=>(Aj .i64 s2 h1 (0+1)).bind fun l=>(Aj .i64 s2 h1 (0+1+1)).bind fun m=>(B6 k o j l m (0:Int) s2).bind fun d=>He d.1 fun e f=>some (.tuple #[qIi e,qIi f],d.2):=by
 simp only[Io,B6,Ac]; kernel_rfl
theorem Q7 (k n o B z A j J):Ip (k+1) n o B z A j J =
 z.bind fun w=>(CV J w.block w.off).bind fun f2=>(Ij k f2 [qIi n,qIi o] J).bind fun u=>Wz u.1 (A.bind fun x=>(CV u.2 x.block x.off).bind fun f5=>(Ik k f5 [qIi n,qIi o] u.2).bind fun d=>(Dk d.1).bind fun C=>(bif C then (j.bind fun y=>(B7 d.2 y.block y.off).bind fun D=>j.bind fun e=>(B7 d.2 e.block e.off).bind fun r=>r.bind fun f=>(Bd d.2 f.block (f.off+3)).bind fun c=>Ae d.2 (.cells [qIi 0] Ak true) fun p m=>(AG P Ak (c.1,c.2.1,c.2.2) (some ⟨p,0,none⟩,1,1) m).bind fun a=>HL j m a.2 (D.bind fun g=>(CX a.2 g.block (g.off+3) (.slice a.1.1 a.1.2.1 a.1.2.2)).bind fun v=>some (.normal,[],v))) else (some (.normal,[],d.2)):Option Bq).bind fun b=>if b.1 = .normal then (j.bind fun h=>(B7 b.2.2 h.block h.off).bind fun s=>s.bind fun i=>(B7 b.2.2 i.block (i.off+1)).bind fun t=>(Ci k t n o B b.2.2).bind fun l=>(Bl .i64 l.1).bind fun q=>some (qIi q,l.2)) else none):=by
 simp only[Ij,Ik,Ip,Ci,Ac]; kernel_rfl
theorem Q8 (k c d h i J):Iq (k+1) c d h i J =
 h.bind fun e=>(CV J e.block e.off).bind fun f2=>(Ij k f2 [qIi c,qIi d] J).bind fun a=>Wz a.1 (i.bind fun f=>(B7 a.2 f.block f.off).bind fun m=>m.bind fun g=>(B7 a.2 g.block (g.off+1)).bind fun n=>(EO k n c d a.2).bind fun j=>He j.1 fun l b=>some (.tuple #[qIi l,qIi b],j.2)):=by
 simp only[Ij,Iq,EO,Ac]; kernel_rfl
theorem Qh (k h m n J):EO (k+1) h m n J =
 (Ap k h J).bind fun r=>(HO r.1).bind fun t=>(FK k t m n r.2).bind fun g=>He g.1 fun p q=>(bif q == 0 then h.bind fun o=>(B7 g.2 o.block (o.off+0)).bind fun u=>(Co k u g.2).bind fun s=>(HO s.1).bind fun v=>(ET k v m s.2).bind fun c=>(Bl .i64 c.1).bind fun j=>(FE k j n c.2).bind fun d=>(Dk d.1).bind fun i=>some (i,d.2) else some (false,g.2)).bind fun a=>(bif a.1 then (h.bind fun b=>(B7 a.2 b.block (b.off+0)).bind fun l=>(CQ k l p a.2).bind fun e=>Wz e.1 (some (.normal,[],e.2))) else (some (.normal,[],a.2)):Option Bq).bind fun f=>if f.1 = .normal then (some (.tuple #[qIi p,qIi q],f.2.2)) else none:=by
 simp only[ET,FE,EO,Ap,Co,FK,CQ,Ac]; kernel_rfl
theorem UU (k a J):AR (k+1) a J =
 (Ll P EY (qVi a) (qVi none)).bind fun d=>(bif !d then a.bind fun b=>(Bd J b.block (b.off+0)).bind fun e=>some (decide (((e.2.1:Nat):Int)>(0:Int)),J) else some (false,J)).bind fun c=>some (.bool c.1,c.2):=by
 simp only[AR,Ac]; kernel_rfl
theorem HP (k n h i1 a e l J):CO k (n+1) h i1 a e l J =
 (bif l == 0 then some (decide ((Ar ((2:Int)*e))<i1),J) else some (false,J)).bind fun j=>bif j.1 then (Ae j.2 (.cells [qIi (Ar ((2:Int)*e))] Ak true) fun m o=>(AG P Ak (a.1,a.2.1,a.2.2) (some ⟨m,0,none⟩,1,1) o).bind fun d=>h.bind fun b=>(B7 d.2 b.block (b.off+2)).bind fun i=>(DK k i (Ar (e+1)) (1:Int) d.2).bind fun c=>He c.1 fun f g=>CO k n h i1 (d.1.1,d.1.2.1,d.1.2.2) f g c.2) else (some (.exit 0,[.slice a.1 a.2.1 a.2.2],j.2)):=by
 simp only[CO,DK,Ac]; kernel_rfl
theorem Rv (k c f g J):E7 (k+1) c f g J =
 c.bind fun d=>(B7 J d.block (d.off+2)).bind fun j=>if (2:Int)=0 then none else (DK k j (Ar (f.tdiv (2:Int))) (1:Int) J).bind fun e=>He e.1 fun h i=>(CO k k c g (none,0,0) h i e.2).bind fun b=>if b.1 = .exit 0 then (Sc b.2.1 fun a=>some (.slice a.1 a.2.1 a.2.2,b.2.2)) else none:=by
 simp only[E7,CO,DK,Ac]; kernel_rfl
theorem QB (k n c b e i3 a J):JY k (n+1) c b e i3 a J =
 bif decide (a<(b:Int)) then (if 0<=a/\a<b then c.bind fun d=>(Aj .i64 J d.block (d.off+a.toNat*1)).bind fun f=>bif f == i3 then (some (.ret,[qIi a],J)) else (JY k n c b e i3 (Ar (a+1)) J) else none) else (some (.exit 0,[],J)):=by
 simp only[JY,Ac]; kernel_rfl
theorem dT (k b c J):R7 (k+1) b c J =
 (JY k k b.1 b.2.1 b.2.2 c (0:Int) J).bind fun a=>if a.1 = .exit 0 then (some (qIi (-1:Int),a.2.2)) else if a.1 = .ret then (ZS a.2.1 fun d=>some (qIi d,a.2.2)) else none:=by
 simp only[R7,JY,Ac]; kernel_rfl
theorem Lw (k n b i1 a J):EM k (n+1) b i1 a J =
 b.bind fun c=>(Bd J c.block (c.off+1)).bind fun g=>bif decide (a<((g.2.1:Nat):Int)) then (b.bind fun d=>(Bd J d.block (d.off+1)).bind fun f=>if 0<=a/\a<(f.2.1:Nat) then f.1.bind fun e=>(Aj .i64 J e.block (e.off+a.toNat*8+0)).bind fun h=>bif h == i1 then (some (.ret,[qIi a],J)) else (EM k n b i1 (Ar (a+1)) J) else none) else (some (.exit 0,[],J)):=by
 simp only[EM,Ac]; kernel_rfl
theorem SI (k d e J):Ay (k+1) d e J =
 (Az k d J).bind fun c=>(Dk c.1).bind fun f=>bif !f then (some (qIi (-1:Int),c.2)) else ((EM k k d e (0:Int) c.2).bind fun a=>if a.1 = .exit 0 then (some (qIi (-1:Int),a.2.2)) else if a.1 = .ret then (ZS a.2.1 fun b=>some (qIi b,a.2.2)) else none):=by
 simp only[Ay,EM,Az,Ac]; kernel_rfl
theorem QH (k n h0 i1 i2 a J):Kb k (n+1) h0 i1 i2 a J =
 bif decide (a<i2) then ((B7 J h0 0).bind fun f=>(AL k f i1 a J).bind fun c=>He c.1 fun e g=>(Hr k e (some ⟨h0,0,none⟩) c.2).bind fun b=>(Dk b.1).bind fun d=>bif d then (some (.ret,[.bool false],b.2)) else (Kb k n h0 i1 i2 (Ar (a+1)) b.2)) else (some (.exit 2,[],J)):=by
 simp only[AL,Hr,Kb,Ac]; kernel_rfl
theorem QG (k n h0 q j v i4 a J):Ka k (n+1) h0 q j v i4 a J =
 bif decide (a<i4) then (if 0<=a/\a<j then q.bind fun d=>(Aj .i64 J d.block (d.off+a.toNat*1)).bind fun f=>(B7 J h0 0).bind fun r=>(AK k r f J).bind fun g=>(an g.1).bind fun c=>if c.length=2 then c.head?.bind fun t=>Ms t fun l m o=>c.tail.head?.bind fun u=>(Bl .i64 u).bind fun w=>Ae g.2 (.cells [qIi 0,qIi 0,qIi 0] Ad true) fun e s=>(H0 s e 0 [qIi l,qIi m,qIi o]).bind fun h=>(Aj .i64 h e (0+0)).bind fun p=>(Kb k k h0 f p (0:Int) h).bind fun b=>if b.1 = .exit 2 then (Ka k n h0 q j v i4 (Ar (a+1)) b.2.2) else if b.1 = .ret then (oE b.2.1 fun i=>some (.ret,[.bool i],b.2.2)) else none else none else none) else (some (.exit 0,[],J)):=by
 simp only[AK,Ka,Kb,Ac]; kernel_rfl
theorem dU (k h i J):Nd (k+1) h i J =
 Ae J (.cells [qVi h] EY true) fun h1 s2=>(Dc k i s2).bind fun f=>(Ej f.1).bind fun e=>(CK k (e.1,e.2.1,e.2.2) (.func (.func 166) #[] #[qVi (some ⟨h1,0,none⟩)]) f.2).bind fun c=>(Dk c.1).bind fun j=>bif j then (some (.bool false,c.2)) else ((B7 c.2 h1 0).bind fun l=>(Ca k l c.2).bind fun g=>(Ej g.1).bind fun b=>(Ka k k h1 b.1 b.2.1 b.2.2 ((b.2.1:Nat):Int) (0:Int) g.2).bind fun a=>if a.1 = .exit 0 then (some (.bool true,a.2.2)) else if a.1 = .ret then (oE a.2.1 fun d=>some (.bool d,a.2.2)) else none):=by
 simp only[Ca,Dc,CK,Nd,Ka,Ac]; kernel_rfl
theorem Ky (k n q j i s b a J):DV k (n+1) q j i s b a J =
 bif decide (a<(i:Int)) then (if 0<=a/\a<i then j.bind fun f=>(Aj .i64 J f.block (f.off+a.toNat*3)).bind fun t=>(Aj .i64 J f.block (f.off+a.toNat*3+1)).bind fun u=>(Aj .i64 J f.block (f.off+a.toNat*3+1+1)).bind fun v=>(DJ k q t u v J).bind fun h=>(Bl .i64 h.1).bind fun w=>(bif w != 0 then (if 0<=a/\a<i then j.bind fun g=>(Aj .i64 h.2 g.block (g.off+a.toNat*3)).bind fun m=>(Aj .i64 h.2 g.block (g.off+a.toNat*3+1)).bind fun o=>(Aj .i64 h.2 g.block (g.off+a.toNat*3+1+1)).bind fun p=>Ae h.2 (.cells [qIi m,qIi o,qIi p] Am true) fun l r=>(AG P Am (b.1,b.2.1,b.2.2) (some ⟨l,0,none⟩,1,1) r).bind fun c=>some (.normal,[.slice c.1.1 c.1.2.1 c.1.2.2],c.2) else none) else (some (.normal,[.slice b.1 b.2.1 b.2.2],h.2)):Option Bq).bind fun e=>if e.1 = .normal then (Sc e.2.1 fun d=>DV k n q j i s (d.1,d.2.1,d.2.2) (Ar (a+1)) e.2.2) else none else none) else (some (.exit 0,[.slice b.1 b.2.1 b.2.2],J)):=by
 simp only[DV,DJ,Ac]; kernel_rfl
theorem QA (k d J):Dp (k+1) d J =
 (Hd k d J).bind fun e=>(Ej e.1).bind fun c=>(DV k k d c.1 c.2.1 c.2.2 (none,0,0) (0:Int) e.2).bind fun b=>if b.1 = .exit 0 then (Sc b.2.1 fun a=>some (.slice a.1 a.2.1 a.2.2,b.2.2)) else none:=by
 simp only[Hd,Dp,DV,Ac]; kernel_rfl
theorem TF (k g a b c J):EF (k+1) g a b c J =
 Ae J (.cells [qIi a,qIi b,qIi c] Am true) fun h1 s2=>(AW k g s2).bind fun d=>(Dk d.1).bind fun m=>bif !m then (some (.tuple #[qIi 0,qIi 5],d.2)) else ((Aj .i64 d.2 h1 0).bind fun o=>(Aj .i64 d.2 h1 (0+1)).bind fun p=>(Aj .i64 d.2 h1 (0+1+1)).bind fun q=>(FH k g o p q d.2).bind fun e=>(Dk e.1).bind fun n=>bif !n then (some (.tuple #[qIi 0,qIi 1],e.2)) else ((Aj .i64 e.2 h1 0).bind fun h=>(Aj .i64 e.2 h1 (0+1)).bind fun i=>(Aj .i64 e.2 h1 (0+1+1)).bind fun j=>(DJ k g h i j e.2).bind fun f=>(Bl .i64 f.1).bind fun l=>some (.tuple #[qIi l,qIi 0],f.2))):=by
 simp only[EF,AW,DJ,FH,Ac]; kernel_rfl
theorem PA (k n i0 h1 e J):Jj k (n+1) i0 h1 e J =
 bif decide (e<i0) then ((Bd J h1 (0+0)).bind fun b=>if 0<=(16:Int)/\(16:Int)<=(16:Int)/\(16:Int)*(8:Nat)<=2 ^ 40/\(16:Int)<=2 ^ 40 then Ae J (.cells (rep (16:Int).toNat [qIi 0]) Ak true) fun f h=>Ae h (.cells [.slice (some ⟨f,0,none⟩) ((16:Int).toNat) ((16:Int).toNat)] FP true) fun g c=>(AG P FP (b.1,b.2.1,b.2.2) (some ⟨g,0,none⟩,1,1) c).bind fun a=>(CX a.2 h1 (0+0) (.slice a.1.1 a.1.2.1 a.1.2.2)).bind fun d=>Jj k n i0 h1 (Ar (e+1)) d else none) else (some (.exit 0,[],J)):=by
 simp only[Jj,Ac]; kernel_rfl
theorem bF (k b J):It (k+1) b J =
 (bif decide (b<1) then some (true,J) else some (decide (b>4),J)).bind fun c=>bif c.1 then (some (.tuple #[qVi none,qIi 1],c.2)) else (if 0<=(16:Int)/\(16:Int)<=(16:Int)/\(16:Int)*(8:Nat)<=2 ^ 40/\(16:Int)<=2 ^ 40 then Ae c.2 (.cells (rep (16:Int).toNat [qIi 0]) Ak true) fun e f=>Ae f (.cells [.slice none 0 0,.slice (some ⟨e,0,none⟩) ((16:Int).toNat) ((16:Int).toNat),.slice none 0 0] BM true) fun d g=>(Jj k k b d (0:Int) g).bind fun a=>if a.1 = .exit 0 then (some (.tuple #[qVi (some ⟨d,0,none⟩),qIi 0],a.2.2)) else none else none):=by
 simp only[It,Jj,Ac]; kernel_rfl
theorem Pr (k b J):Cg (k+1) b J =
 (Bi k b J).bind fun a=>(Dk a.1).bind fun d=>bif !d then (some (qIi 0,a.2)) else (b.bind fun c=>(Aj .i64 a.2 c.block (c.off+0)).bind fun e=>some (qIi e,a.2)):=by
 simp only[Cg,Bi,Ac]; kernel_rfl
theorem ZK (k b J):Hj (k+1) b J =
 Ae J (.cells [] Ak true) fun h1 s2=>(AG P Ak (some ⟨h1,0,some 0⟩,0,0) (b.1,b.2.1,b.2.2) s2).bind fun a=>some (.slice a.1.1 a.1.2.1 a.1.2.2,a.2):=by
 simp only[Hj,Ac]; kernel_rfl
theorem R9 (k d J):FY (k+1) d J =
 (Bi k d J).bind fun a=>(Dk a.1).bind fun g=>bif !g then (some (.slice none 0 0,a.2)) else (d.bind fun e=>(Bd a.2 e.block (e.off+3)).bind fun b=>(BH k (b.1,b.2.1,b.2.2) a.2).bind fun f=>(Ej f.1).bind fun c=>some (.slice c.1 c.2.1 c.2.2,f.2)):=by
 simp only[FY,Bi,BH,Ac]; kernel_rfl
theorem QC (k e J):Ft (k+1) e J =
 (Bi k e J).bind fun c=>(Dk c.1).bind fun h=>bif !h then (some (.slice none 0 0,c.2)) else (Ae c.2 (.cells [.slice none 0 0] JF true) fun f j=>(GV k e j).bind fun d=>bif kz d.1 then (Ae d.2 (.loop 96 .ready (Hf 0 17 [(3,qVi (some ⟨f,0,none⟩))])) fun g l=>(LQ k d.1 [.func (.yield g) #[] #[]] l).bind fun i=>OU g i.2 fun m b=>if m = .normal then ((Bd b f 0).bind fun a=>some (.slice a.1 a.2.1 a.2.2,b)) else none) else none):=by
 simp only[LQ,Ft,GV,Bi,Ac]; kernel_rfl
theorem TL (k h a b c J):Iz (k+1) h a b c J =
 Ae J (.cells [qIi a,qIi b,qIi c] Am true) fun h1 s2=>(Aj .i64 s2 h1 0).bind fun i=>(Aj .i64 s2 h1 (0+1)).bind fun j=>(Aj .i64 s2 h1 (0+1+1)).bind fun l=>(DB k h i j l s2).bind fun d=>Tc d.1 fun m g=>bif g != 0 then (some (.tuple #[qIi 0,qIi g],d.2)) else (m.bind fun f=>(Aj .i64 d.2 f.block f.off).bind fun e=>some (.tuple #[qIi e,qIi 0],d.2)):=by
 simp only[Iz,DB,Ac]; kernel_rfl
theorem TH (k i c d e j J):EG (k+1) i c d e j J =
 Ae J (.cells [qIi c,qIi d,qIi e] Am true) fun h1 s2=>(AW k i s2).bind fun f=>(Dk f.1).bind fun q=>bif !q then (some (qIi 5,f.2)) else ((Aj .i64 f.2 h1 0).bind fun s=>(Aj .i64 f.2 h1 (0+1)).bind fun t=>(Aj .i64 f.2 h1 (0+1+1)).bind fun u=>(FH k i s t u f.2).bind fun p=>(Dk p.1).bind fun r=>(bif !r then some (true,p.2) else some (decide (j<0),p.2)).bind fun b=>(bif b.1 then some (true,b.2) else (bif j == 0 then (Aj .i64 b.2 h1 (0+0)).bind fun l=>some (l == 2,b.2) else some (false,b.2)).bind fun g=>some (g.1,g.2)).bind fun a=>bif a.1 then (some (qIi 1,a.2)) else ((Aj .i64 a.2 h1 0).bind fun m=>(Aj .i64 a.2 h1 (0+1)).bind fun n=>(Aj .i64 a.2 h1 (0+1+1)).bind fun o=>(Iu k i m n o j a.2).bind fun h=>Wz h.1 (some (qIi 0,h.2)))):=by
 simp only[AW,EG,FH,Iu,Ac]; kernel_rfl
theorem bE (k a J):LX (k+1) a J =
 (bif decide (a<2) then some (true,J) else some (decide (a>64),J)).bind fun b=>bif b.1 then (some (.tuple #[qVi none,qIi 1],b.2)) else (if 0<=a/\a<=a/\a*(16:Nat)<=2 ^ 40/\a<=2 ^ 40 then Ae b.2 (.cells (rep a.toNat [qIi 0,qIi 0]) As true) fun c e=>Ae e (.cells [.slice (some ⟨c,0,none⟩) a.toNat a.toNat,.slice none 0 0,.slice none 0 0,qIi 0] Db true) fun d f=>some (.tuple #[qVi (some ⟨d,0,none⟩),qIi 0],f) else none):=by
 simp only[LX,Ac]; kernel_rfl
theorem Rw (k j f g h w J):Hc (k+1) j f g h w J =
 Ae J (.cells [qIi f,qIi g,qIi h] Ad true) fun h1 s2=>j.bind fun a3=>(B7 s2 a3.block (a3.off+2)).bind fun p4=>(Aj .i64 s2 h1 0).bind fun n5=>(Aj .i64 s2 h1 (0+1)).bind fun n6=>(Aj .i64 s2 h1 (0+1+1)).bind fun n7=>(JZ k p4 n5 n6 n7 w s2).bind fun v=>sA v.1 fun q x=>bif !x then (some (.bool true,v.2)) else (if (64:Int)=0 then none else j.bind fun l=>(B7 v.2 l.block (l.off+0)).bind fun X=>(Bn k X (Ar (q.tdiv (64:Int))) v.2).bind fun c=>(Bl .i64 c.1).bind fun A=>(bif A == 0 then ((Aj .i64 c.2 h1 0).bind fun B=>(Aj .i64 c.2 h1 (0+1)).bind fun C=>(Aj .i64 c.2 h1 (0+1+1)).bind fun D=>(EP k B C D c.2).bind fun b=>(Dk b.1).bind fun y=>(bif y then (j.bind fun m=>(B7 b.2 m.block (m.off+0)).bind fun Y=>(Aj .i64 b.2 h1 0).bind fun E=>(Aj .i64 b.2 h1 (0+1)).bind fun F=>(Aj .i64 b.2 h1 (0+1+1)).bind fun G=>(EU k E F G b.2).bind fun r=>(Bl .i64 r.1).bind fun H=>(Cf k Y (Ar (q.tdiv (64:Int))) H w r.2).bind fun s=>(Bl .i64 s.1).bind fun I=>some (.normal,[qIi I],s.2)) else (j.bind fun n=>(B7 b.2 n.block (n.off+0)).bind fun Z=>(DG k Z (Ar (q.tdiv (64:Int))) w b.2).bind fun t=>(Bl .i64 t.1).bind fun K=>some (.normal,[qIi K],t.2)):Option Bq).bind fun e=>if e.1 = .normal then (ZS e.2.1 fun L=>bif L != 0 then (some (.ret,[.bool false],e.2.2)) else (some (.normal,[],e.2.2))) else none) else (some (.normal,[],c.2)):Option Bq).bind fun a=>if a.1 = .normal then (j.bind fun o=>(B7 a.2.2 o.block (o.off+2)).bind fun aa=>(Aj .i64 a.2.2 h1 0).bind fun M=>(Aj .i64 a.2.2 h1 (0+1)).bind fun N=>(Aj .i64 a.2.2 h1 (0+1+1)).bind fun O=>(EZ k aa q M N O a.2.2).bind fun d=>He d.1 fun P Q=>j.bind fun p=>(B7 d.2 p.block (p.off+0)).bind fun ab=>(Aj .i64 d.2 h1 0).bind fun S=>(Aj .i64 d.2 h1 (0+1)).bind fun T=>(Aj .i64 d.2 h1 (0+1+1)).bind fun U=>(FB k ab q S T U d.2).bind fun i=>He i.1 fun V W=>(bif P == V then some (Q == W,i.2) else some (false,i.2)).bind fun u=>some (.bool u.1,u.2)) else if a.1 = .ret then (oE a.2.1 fun z=>some (.bool z,a.2.2)) else none):=by
 simp only[DG,Cf,FB,Bn,Hc,EZ,EP,EU,JZ,Ac]; kernel_rfl
theorem UZ (k i b J):Bw (k+1) i b J =
 bif b == (-77:Int) then ((NV k i J).bind fun p=>(Bl .i64 p.1).bind fun r=>some (qIi r,p.2)) else (bif decide (b>=1000) then (some (qIi (Ar (b-1000)),J)) else ((bif decide (b<0) then some (true,J) else some (decide (b>=100),J)).bind fun a=>bif a.1 then (some (qIi b,a.2)) else (i.bind fun m=>(B7 a.2 m.block (m.off+2)).bind fun s=>s.bind fun n=>(Bd a.2 n.block (n.off+1)).bind fun q=>bif ((q.2.1:Nat):Int) == (0:Int) then (some (qIi 0,a.2)) else (i.bind fun o=>(B7 a.2 o.block (o.off+2)).bind fun t=>t.bind fun d=>(Bd a.2 d.block (d.off+1)).bind fun h=>i.bind fun e=>(B7 a.2 e.block (e.off+2)).bind fun l=>l.bind fun f=>(Bd a.2 f.block (f.off+1)).bind fun c=>if ((c.2.1:Nat):Int)=0 then none else if 0<=(b.tmod ((c.2.1:Nat):Int))/\(b.tmod ((c.2.1:Nat):Int))<(h.2.1:Nat) then h.1.bind fun g=>(Aj .i64 a.2 g.block (g.off+(b.tmod ((c.2.1:Nat):Int)).toNat*8+0)).bind fun j=>some (qIi j,a.2) else none)))):=by
 simp only[Bw,NV,Ac]; kernel_rfl
theorem TB (k a c J):FG (k+1) a c J =
 (B5 k a c J).bind fun b=>(Bl .i64 b.1).bind fun d=>bif d != 0 then (some (qIi d,b.2)) else ((Ay k a c b.2).bind fun e=>(Bl .i64 e.1).bind fun g=>(Jh k a g e.2).bind fun f=>Wz f.1 (some (qIi 0,f.2))):=by
 simp only[Ay,FG,Jh,B5,Ac]; kernel_rfl
theorem UR (k c a J):Fk (k+1) c a J =
 (BF k c a J).bind fun b=>(Bl .i64 b.1).bind fun t=>bif t != 0 then (some (qIi t,b.2)) else (c.bind fun p=>(xh b.2 p.block (p.off+4)).bind fun l=>c.bind fun q=>(Bd b.2 q.block (q.off+1)).bind fun s=>if 0<=a/\a<(s.2.1:Nat) then s.1.bind fun r=>(Aj .i64 b.2 r.block (r.off+a.toNat*1)).bind fun u=>(kC b.2 l).bind fun g=>c.bind fun e=>(B7 (o9 b.2 l (MG u g)) e.block (e.off+2)).bind fun n=>if (2:Int)=0 then none else (BG k n (Ar (a.tdiv (2:Int))) (0:Int) (o9 b.2 l (MG u g))).bind fun d=>(Bl .i64 d.1).bind fun v=>c.bind fun f=>(B7 d.2 f.block (f.off+3)).bind fun o=>if (2:Int)=0 then none else (BG k o (Ar (a.tdiv (2:Int))) (0:Int) d.2).bind fun h=>(Bl .i64 h.1).bind fun w=>(D5 k c a h.2).bind fun i=>(Bl .i64 i.1).bind fun m=>(Je k c a m i.2).bind fun j=>Wz j.1 (some (qIi 0,j.2)) else none):=by
 simp only[Fk,BF,D5,Je,BG,Ac]; kernel_rfl
theorem SK (k h p J):Gw (k+1) h p J =
 Ae J (.cells [qIi 0,qIi 0,qIi 0] Ad true) fun h1 s2=>(B5 k h p s2).bind fun g=>(Bl .i64 g.1).bind fun r=>bif r != 0 then ((H0 g.2 h1 0 [qIi 0,qIi 0,qIi 0]).bind fun s=>(((Nh s h1 0 3).bind fun v6=>some (.agg v6.toArray)).bind fun t=>some [t,qIi r]).bind fun o=>some (Lb o,s)) else (h.bind fun q=>(Bd g.2 q.block (q.off+1)).bind fun d=>(Ay k h p g.2).bind fun c=>(Bl .i64 c.1).bind fun b=>if 0<=b/\b<(d.2.1:Nat) then d.1.bind fun a=>(Aj .i64 c.2 a.block (a.off+b.toNat*8+2)).bind fun i=>(Aj .i64 c.2 a.block (a.off+b.toNat*8+2+1)).bind fun j=>(Aj .i64 c.2 a.block (a.off+b.toNat*8+2+1+1)).bind fun l=>(H0 c.2 h1 0 [qIi i,qIi j,qIi l]).bind fun e=>(((Nh e h1 0 3).bind fun m=>some (.agg m.toArray)).bind fun n=>some [n,qIi 0]).bind fun f=>some (Lb f,e) else none):=by
 simp only[Ay,Gw,B5,Ac]; kernel_rfl
theorem SE (k b c d e J):H8 (k+1) b c d e J =
 b.bind fun f=>(B7 J f.block (f.off+2)).bind fun l=>(FX k l c d e J).bind fun a=>(Bl .i64 a.1).bind fun i=>HL b J a.2 (b.bind fun g=>(B7 a.2 g.block (g.off+0)).bind fun m=>(CT k m c d e a.2).bind fun h=>(Bl .i64 h.1).bind fun j=>some (.bool (i == j),h.2)):=by
 simp only[CT,H8,FX,Ac]; kernel_rfl
theorem Ty (k d G o J):Im (k+1) d G o J =
 (CB k d G J).bind fun F=>Ms F.1 fun H I K=>Ae F.2 (.cells [qIi 0,qIi 0,qIi 0] Am true) fun h5 N=>(H0 N h5 0 [qIi H,qIi I,qIi K]).bind fun f=>(Aj .i64 f h5 (0+0)).bind fun L=>(bif L == 2 then (Aj .i64 f h5 (0+2)).bind fun M=>d.bind fun g=>(B7 f g.block (g.off+3)).bind fun A=>(EB k A f).bind fun e=>(Ej e.1).bind fun p=>HL (some ⟨h5,0,none⟩) f e.2 (some (decide (M>=((p.2.1:Nat):Int)),e.2)) else some (false,f)).bind fun a=>bif a.1 then (d.bind fun h=>(B7 a.2 h.block (h.off+3)).bind fun B=>(Gy k B o a.2).bind fun c=>(Bl .i64 c.1).bind fun q=>HL d a.2 c.2 (d.bind fun i=>(B7 c.2 i.block (i.off+1)).bind fun C=>(G3 k C o c.2).bind fun m=>(Bl .i64 m.1).bind fun r=>some (.bool (q == r),m.2))) else (d.bind fun j=>(B7 a.2 j.block (j.off+3)).bind fun D=>(Aj .i64 a.2 h5 0).bind fun s=>(Aj .i64 a.2 h5 (0+1)).bind fun t=>(Aj .i64 a.2 h5 (0+1+1)).bind fun u=>(EG k D s t u o a.2).bind fun b=>(Bl .i64 b.1).bind fun v=>HL d a.2 b.2 (HL (some ⟨h5,0,none⟩) a.2 b.2 (d.bind fun l=>(B7 b.2 l.block (l.off+1)).bind fun E=>(Aj .i64 b.2 h5 0).bind fun w=>(Aj .i64 b.2 h5 (0+1)).bind fun x=>(Aj .i64 b.2 h5 (0+1+1)).bind fun y=>(Bb k E w x y o b.2).bind fun n=>(Bl .i64 n.1).bind fun z=>some (.bool (v == z),n.2)))):=by
 simp only[Im,CB,Gy,EB,EG,G3,Bb,Ac]; kernel_rfl
theorem Vd (k b c J):Gv (k+1) b c J =
 (Ji k b c true J).bind fun a=>(Bl .i64 a.1).bind fun d=>some (qIi d,a.2):=by
 simp only[Gv,Ji,Ac]; kernel_rfl
theorem VY (k b c J):HT (k+1) b c J =
 (JN k b c (1:Int) J).bind fun a=>(Bl .i64 a.1).bind fun d=>some (qIi d,a.2):=by
 simp only[HT,JN,Ac]; kernel_rfl
theorem il (k b g l m J):Nf (k+1) b g l m J =
 (AE k b J).bind fun d=>(Bl .i64 d.1).bind fun o=>(bif decide (o<=0) then some (true,d.2) else (Cg k g d.2).bind fun i=>(Bl .i64 i.1).bind fun p=>some (p == 0,i.2)).bind fun e=>bif e.1 then (some (.tuple #[qVi none,qIi 1],e.2)) else (Ae e.2 (.cells [qVi b,qVi g,.bool l,qIi m,qIi 0,qVi none,.slice none 0 0,.slice none 0 0,qIi 0] Hu true) fun h r=>(AE k b r).bind fun j=>(Bl .i64 j.1).bind fun q=>if (2:Int)=0 then none else (J7 k (Ar ((Ar (q*64)).tdiv (2:Int))) (2:Int) j.2).bind fun a=>Tc a.1 fun c n=>(CX a.2 h (0+5) (qVi c)).bind fun f=>some (.tuple #[qVi (some ⟨h,0,none⟩),qIi 0],f)):=by
 simp only[AE,Cg,J7,Nf,Ac]; kernel_rfl
theorem Wh (k a J):AP (k+1) a J =
 (Ll P PS (qVi a) (qVi none)).bind fun d=>(bif !d then a.bind fun b=>(B7 J b.block (b.off+0)).bind fun f=>(Ll P EY (qVi f) (qVi none)).bind fun e=>some (!e,J) else some (false,J)).bind fun c=>some (.bool c.1,c.2):=by
 simp only[AP,Ac]; kernel_rfl
theorem Md (k n c d b f i4 a J):Fz k (n+1) c d b f i4 a J =
 bif decide (a<i4) then (if 0<=a/\a<b then d.bind fun e=>(Aj .i64 J e.block (e.off+a.toNat*1)).bind fun h=>(BV k c h J).bind fun g=>Wz g.1 (Fz k n c d b f i4 (Ar (a+1)) g.2) else none) else (some (.exit 0,[],J)):=by
 simp only[BV,Fz,Ac]; kernel_rfl
theorem TW (k b J):EI (k+1) b J =
 b.bind fun c=>(B7 J c.block (c.off+1)).bind fun f=>(Dc k f J).bind fun d=>(Ej d.1).bind fun a=>(Fz k k b a.1 a.2.1 a.2.2 ((a.2.1:Nat):Int) (0:Int) d.2).bind fun e=>if e.1 = .exit 0 then (some (.tuple #[],e.2.2)) else none:=by
 simp only[Dc,EI,Fz,Ac]; kernel_rfl
theorem MU (k n f g d h i4 a J):G8 k (n+1) f g d h i4 a J =
 bif decide (a<i4) then (if 0<=a/\a<d then g.bind fun b=>(Aj .i64 J b.block (b.off+a.toNat*1)).bind fun e=>(BV k f e J).bind fun c=>Wz c.1 (G8 k n f g d h i4 (Ar (a+1)) c.2) else none) else (some (.exit 1,[],J)):=by
 simp only[BV,G8,Ac]; kernel_rfl
theorem LJ (k a J):Eh (k+1) a J =
 a.bind fun y=>(Aj .i64 J y.block (y.off+4)).bind fun F=>(bif F == 2 then ((Jr k a J).bind fun D=>Wz D.1 (some (.normal,[],D.2))) else (a.bind fun z=>(Bd J z.block (z.off+6)).bind fun E=>(bif decide (((E.2.1:Nat):Int)>(0:Int)) then (a.bind fun A=>(Bd J A.block (A.off+6)).bind fun C=>if 0<=(0:Int)/\(0:Int)<(C.2.1:Nat) then C.1.bind fun B=>(Aj .i64 J B.block (B.off+(0:Int).toNat*1)).bind fun v=>a.bind fun g=>(Bd J g.block (g.off+6)).bind fun d=>(Gh Ak 1 (d.1,d.2.1,d.2.2) (some (qIi 1)) none none J).bind fun e=>(BH k (e.1,e.2.1,e.2.2) J).bind fun l=>(Ej l.1).bind fun f=>a.bind fun h=>(CX l.2 h.block (h.off+6) (.slice f.1 f.2.1 f.2.2)).bind fun t=>a.bind fun i=>(B7 t i.block (i.off+0)).bind fun w=>(Bc k w v t).bind fun c=>(Dk c.1).bind fun u=>(bif u then (a.bind fun j=>(B7 c.2 j.block (j.off+0)).bind fun x=>(Jg k x v c.2).bind fun m=>(Ej m.1).bind fun b=>(G8 k k a b.1 b.2.1 b.2.2 ((b.2.1:Nat):Int) (0:Int) m.2).bind fun n=>if n.1 = .exit 1 then ((CM k a v (2:Int) n.2.2).bind fun o=>Wz o.1 (some (.normal,[],o.2))) else none) else (some (.normal,[],c.2)):Option Bq).bind fun p=>if p.1 = .normal then (some (.normal,[],p.2.2)) else none else none) else ((Ig k a J).bind fun q=>Wz q.1 (some (.normal,[],q.2))):Option Bq).bind fun r=>if r.1 = .normal then (some (.normal,[],r.2.2)) else none):Option Bq).bind fun s=>if s.1 = .normal then (some (.tuple #[],s.2.2)) else none:=by
 simp only[Bc,Jg,BH,Ig,CM,Jr,Eh,G8,Ac]; kernel_rfl
theorem SY (k a J):BH (k+1) a J =
 (Ll P FP (.slice a.1 a.2.1 a.2.2) (.slice none 0 0)).bind fun c=>bif c then (some (.slice none 0 0,J)) else (Ae J (.cells [] Ak true) fun d e=>(AG P Ak (some ⟨d,0,some 0⟩,0,0) (a.1,a.2.1,a.2.2) e).bind fun b=>some (.slice b.1.1 b.1.2.1 b.1.2.2,b.2)):=by
 simp only[BH,Ac]; kernel_rfl
theorem VX (k e b J):Bc (k+1) e b J =
 (AR k e J).bind fun c=>(Dk c.1).bind fun i=>(bif i then some (decide (b>=0),c.2) else some (false,c.2)).bind fun d=>(bif d.1 then if (2:Int)=0 then none else some ((b.tmod (2:Int)) == (0:Int),d.2) else some (false,d.2)).bind fun a=>(bif a.1 then e.bind fun f=>(B7 a.2 f.block (f.off+2)).bind fun l=>if (2:Int)=0 then none else (D7 k l (Ar (b.tdiv (2:Int))) a.2).bind fun g=>(Bl .i64 g.1).bind fun j=>some (j == 1,g.2) else some (false,a.2)).bind fun h=>some (.bool h.1,h.2):=by
 simp only[Bc,AR,D7,Ac]; kernel_rfl
theorem Vj (k b c J):D7 (k+1) b c J =
 (Fe k b c J).bind fun a=>(Dk a.1).bind fun e=>bif !e then (some (qIi (-1:Int),a.2)) else ((Ew k b c a.2).bind fun d=>(Bl .i64 d.1).bind fun f=>some (qIi f,d.2)):=by
 simp only[D7,Ew,Fe,Ac]; kernel_rfl
theorem SB (k c d J):BF (k+1) c d J =
 (AR k c J).bind fun a=>(Dk a.1).bind fun e=>bif !e then (some (qIi 5,a.2)) else ((Bc k c d a.2).bind fun b=>(Dk b.1).bind fun f=>bif !f then (some (qIi 4,b.2)) else (some (qIi 0,b.2))):=by
 simp only[Bc,AR,BF,Ac]; kernel_rfl
theorem ZB (k a J):Hi (k+1) a J =
 Ae J (.cells [qIi 0,qIi 0,qIi 0] Ad true) fun h1 s2=>if (16:Int)=0 then none else if (4096:Int)=0 then none else if (16:Int)=0 then none else if (4096:Int)=0 then none else (H0 s2 h1 0 [qIi (a.tmod (16:Int)),qIi (Ar ((a.tmod (4096:Int)).tdiv (16:Int))),qIi (Ar (a.tdiv (4096:Int)))]).bind fun c=>(((Nh c h1 0 3).bind fun v4=>some (.agg v4.toArray)).bind fun d=>some [d]).bind fun b=>some (Lb b,c):=by
 simp only[Hi,Ac]; kernel_rfl
theorem Tu (k p e g v J):CP (k+1) p e g v J =
 (BF k p e J).bind fun f=>(Bl .i64 f.1).bind fun t=>bif t != 0 then (some (.tuple #[qIi 0,qIi t],f.2)) else (p.bind fun q=>(Bd f.2 q.block (q.off+1)).bind fun s=>if 0<=(Ar (e+1))/\(Ar (e+1))<(s.2.1:Nat) then s.1.bind fun r=>(Aj .i64 f.2 r.block (r.off+(Ar (e+1)).toNat*1)).bind fun w=>(Hi k w f.2).bind fun u=>Ms u.1 fun x y h=>Ae u.2 (.cells [qIi 0,qIi 0,qIi 0] Ad true) fun b o=>(H0 o b 0 [qIi x,qIi y,qIi h]).bind fun a=>(Aj .i64 a b (0+0)).bind fun i=>(bif v then ((Aj .i64 a b (0+0)).bind fun j=>(Aj .i64 a b (0+1)).bind fun l=>some (.normal,[qIi (Ar ((Ar (e+2))+j)),qIi l],a)) else (some (.normal,[qIi (Ar (e+2)),qIi i],a)):Option Bq).bind fun c=>if c.1 = .normal then (jf c.2.1 fun m n=>(bif decide (g<0) then some (true,c.2.2) else some (decide (g>=n),c.2.2)).bind fun d=>bif d.1 then (some (.tuple #[qIi 0,qIi 1],d.2)) else (some (.tuple #[qIi (Ar (m+g)),qIi 0],d.2))) else none else none):=by
 simp only[CP,BF,Hi,Ac]; kernel_rfl
theorem V8 (k a b J):J7 (k+1) a b J =
 (bif decide (a<1) then some (true,J) else some (decide (a>4096),J)).bind fun c=>(bif c.1 then some (true,c.2) else Ae c.2 (.cells [qIi 1,qIi 2,qIi 4,qIi 8] Ak true) fun h l=>(C5 k (some ⟨h,0,none⟩,4,4) b l).bind fun f=>(Dk f.1).bind fun g=>some (!g,f.2)).bind fun d=>bif d.1 then (some (.tuple #[qVi none,qIi 1],d.2)) else (if (64:Int)=0 then none else if 0<=(Ar ((Ar ((Ar ((Ar (a*b))+(64:Int)))-(1:Int))).tdiv (64:Int)))/\(Ar ((Ar ((Ar ((Ar (a*b))+(64:Int)))-(1:Int))).tdiv (64:Int)))<=(Ar ((Ar ((Ar ((Ar (a*b))+(64:Int)))-(1:Int))).tdiv (64:Int)))/\(Ar ((Ar ((Ar ((Ar (a*b))+(64:Int)))-(1:Int))).tdiv (64:Int)))*(8:Nat)<=2 ^ 40/\(Ar ((Ar ((Ar ((Ar (a*b))+(64:Int)))-(1:Int))).tdiv (64:Int)))<=2 ^ 40 then Ae d.2 (.cells (rep (Ar ((Ar ((Ar ((Ar (a*b))+(64:Int)))-(1:Int))).tdiv (64:Int))).toNat [.int .u64 0]) sW true) fun i m=>Ae m (.cells [qIi a,qIi b,.slice (some ⟨i,0,none⟩) ((Ar ((Ar ((Ar ((Ar (a*b))+(64:Int)))-(1:Int))).tdiv (64:Int))).toNat) ((Ar ((Ar ((Ar ((Ar (a*b))+(64:Int)))-(1:Int))).tdiv (64:Int))).toNat)] N0 true) fun j e=>some (.tuple #[qVi (some ⟨j,0,none⟩),qIi 0],e) else none):=by
 simp only[J7,C5,Ac]; kernel_rfl
theorem Vn (k h c d e A J):Jn (k+1) h c d e A J =
 Ae J (.cells [qIi c,qIi d,qIi e] Ad true) fun h1 s2=>(AP k h s2).bind fun g=>(Dk g.1).bind fun B=>bif !B then (some (.tuple #[qIi 0,qIi 5],g.2)) else ((Aj .i64 g.2 h1 0).bind fun D=>(Aj .i64 g.2 h1 (0+1)).bind fun E=>(Aj .i64 g.2 h1 (0+1+1)).bind fun F=>(ES k D E F g.2).bind fun r=>(Dk r.1).bind fun C=>bif !C then (some (.tuple #[qIi 0,qIi 2],r.2)) else (h.bind fun i=>(B7 r.2 i.block (i.off+0)).bind fun x=>(LP k x A (0:Int) r.2).bind fun a=>Tc a.1 fun y m=>bif m != 0 then (some (.tuple #[qIi 0,qIi m],a.2)) else ((Aj .i64 a.2 h1 0).bind fun s=>(Aj .i64 a.2 h1 (0+1)).bind fun t=>(Aj .i64 a.2 h1 (0+1+1)).bind fun u=>(Dd k y s t u a.2).bind fun b=>He b.1 fun n o=>(bif o == 0 then (h.bind fun j=>(Aj .i64 b.2 j.block (j.off+3)).bind fun v=>h.bind fun l=>(Aj .i64 b.2 l.block (l.off+4)).bind fun f=>if 0<=f/\f<(3:Nat) then (([qIi 0,qIi v,qIi 2]:List Value)[f.toNat*1]?).bind fun z=>(Bl .i64 z).bind fun w=>(CM k h n w b.2).bind fun p=>Wz p.1 (some (.normal,[],p.2)) else none) else (some (.normal,[],b.2)):Option Bq).bind fun q=>if q.1 = .normal then (some (.tuple #[qIi n,qIi o],q.2.2)) else none))):=by
 simp only[Dd,LP,ES,Jn,AP,CM,Ac]; kernel_rfl
theorem WX (k b e f J):FK (k+1) b e f J =
 (AP k b J).bind fun a=>(Dk a.1).bind fun g=>bif !g then (some (.tuple #[qIi 0,qIi 5],a.2)) else (b.bind fun c=>(B7 a.2 c.block (c.off+0)).bind fun j=>(AL k j e f a.2).bind fun d=>He d.1 fun h i=>some (.tuple #[qIi h,qIi i],d.2)):=by
 simp only[AL,AP,FK,Ac]; kernel_rfl
theorem Wf (k b J):Co (k+1) b J =
 b.bind fun a=>(B7 J a.block (a.off+0)).bind fun c=>some (qVi c,J):=by
 simp only[Co,Ac]; kernel_rfl
theorem SA (k c m n d J):CT (k+1) c m n d J =
 (CP k c m n false J).bind fun a=>He a.1 fun e j=>bif j != 0 then (some (qIi j,a.2)) else ((bif d != 0 then (Bc k c d a.2).bind fun l=>(Dk l.1).bind fun o=>some (!o,l.2) else some (false,a.2)).bind fun b=>bif b.1 then (some (qIi 1,b.2)) else (c.bind fun g=>(Bd b.2 g.block (g.off+1)).bind fun i=>if 0<=e/\e<(i.2.1:Nat) then i.1.bind fun h=>(CX b.2 h.block (h.off+e.toNat*1) (qIi d)).bind fun f=>some (qIi 0,f) else none)):=by
 simp only[Bc,CT,CP,Ac]; kernel_rfl
theorem MN (k h o t u J):Dz (k+1) h o t u J =
 h.bind fun p=>(B7 J p.block (p.off+0)).bind fun x=>(CQ k x u J).bind fun i=>Wz i.1 ((bif t == 0 then h.bind fun q=>(B7 i.2 q.block (q.off+0)).bind fun y=>(Co k y i.2).bind fun r=>(HO r.1).bind fun z=>(ET k z o r.2).bind fun s=>(Bl .i64 s.1).bind fun w=>some (w == 2,s.2) else some (false,i.2)).bind fun a=>(bif a.1 then (h.bind fun c=>(B7 a.2 c.block (c.off+0)).bind fun l=>(Co k l a.2).bind fun e=>(HO e.1).bind fun m=>(AL k m o (1:Int) e.2).bind fun b=>He b.1 fun j v=>h.bind fun d=>(B7 b.2 d.block (d.off+0)).bind fun n=>(CQ k n j b.2).bind fun f=>Wz f.1 (some (.normal,[],f.2))) else (some (.normal,[],a.2)):Option Bq).bind fun g=>if g.1 = .normal then (some (.tuple #[],g.2.2)) else none):=by
 simp only[AL,ET,Dz,Co,CQ,Ac]; kernel_rfl
theorem TS (k b d J):I7 (k+1) b d J =
 (AP k b J).bind fun a=>(Dk a.1).bind fun h=>(bif !h then some (true,a.2) else b.bind fun e=>(B7 a.2 e.block (e.off+0)).bind fun l=>(Bc k l d a.2).bind fun f=>(Dk f.1).bind fun i=>some (!i,f.2)).bind fun c=>bif c.1 then (some (qIi (-1:Int),c.2)) else ((CE k b d c.2).bind fun g=>(Bl .i64 g.1).bind fun j=>some (qIi j,g.2)):=by
 simp only[Bc,I7,AP,CE,Ac]; kernel_rfl
theorem We (k f a d J):Dy (k+1) f a d J =
 (CL k f d J).bind fun c=>(Dk c.1).bind fun g=>bif !g then (some (.slice a.1 a.2.1 a.2.2,c.2)) else ((LY k (a.1,a.2.1,a.2.2) d c.2).bind fun e=>(Ej e.1).bind fun b=>some (.slice b.1 b.2.1 b.2.2,e.2)):=by
 simp only[CL,Dy,LY,Ac]; kernel_rfl
theorem WW (k a b c e J):GN (k+1) a b c e J =
 Ae J (.cells [qIi a,qIi b,qIi c] Ad true) fun h1 s2=>(Aj .i64 s2 h1 (0+2)).bind fun i=>(bif i != 1 then (Aj .i64 s2 h1 (0+2)).bind fun j=>some (j != 2,s2) else some (false,s2)).bind fun d=>(bif d.1 then some (true,d.2) else (bif decide (e>0) then (Aj .i64 d.2 h1 (0+2)).bind fun l=>(bif l == 1 then some (true,d.2) else some (decide (e>1),d.2)).bind fun f=>some (f.1,f.2) else some (false,d.2)).bind fun g=>some (g.1,g.2)).bind fun h=>some (.bool h.1,h.2):=by
 simp only[GN,Ac]; kernel_rfl
theorem TI (k n a b c J):DJ (k+1) n a b c J =
 Ae J (.cells [qIi a,qIi b,qIi c] Am true) fun h1 s2=>(Aj .i64 s2 h1 (0+0)).bind fun x=>bif x == 0 then (n.bind fun t=>(Bd s2 t.block (t.off+0)).bind fun v=>(Aj .i64 s2 h1 (0+1)).bind fun r=>if 0<=r/\r<(v.2.1:Nat) then v.1.bind fun u=>(Bd s2 u.block (u.off+r.toNat*1)).bind fun w=>(Aj .i64 s2 h1 (0+2)).bind fun s=>if 0<=s/\s<(w.2.1:Nat) then w.1.bind fun f=>(Aj .i64 s2 f.block (f.off+s.toNat*1)).bind fun o=>some (qIi o,s2) else none else none) else (bif x == 1 then (n.bind fun g=>(Bd s2 g.block (g.off+1)).bind fun l=>(Aj .i64 s2 h1 (0+2)).bind fun d=>if 0<=d/\d<(l.2.1:Nat) then l.1.bind fun h=>(Aj .i64 s2 h.block (h.off+d.toNat*1)).bind fun p=>some (qIi p,s2) else none) else (n.bind fun i=>(Bd s2 i.block (i.off+2)).bind fun m=>(Aj .i64 s2 h1 (0+2)).bind fun e=>if 0<=e/\e<(m.2.1:Nat) then m.1.bind fun j=>(Aj .i64 s2 j.block (j.off+e.toNat*1)).bind fun q=>some (qIi q,s2) else none)):=by
 simp only[DJ,Ac]; kernel_rfl
theorem SU (k a J):Bi (k+1) a J =
 (Ll P FM (qVi a) (qVi none)).bind fun d=>(bif !d then a.bind fun b=>(Aj .i64 J b.block (b.off+0)).bind fun e=>some (decide (e>0),J) else some (false,J)).bind fun c=>some (.bool c.1,c.2):=by
 simp only[Bi,Ac]; kernel_rfl
theorem Vi (k s d e f J):Jm (k+1) s d e f J =
 Ae J (.cells [qIi d,qIi e,qIi f] Am true) fun h1 s2=>(Aj .i64 s2 h1 (0+0)).bind fun D=>(bif D == 0 then (Aj .i64 s2 h1 (0+1)).bind fun E=>some (decide (E>=0),s2) else some (false,s2)).bind fun r=>(bif r.1 then (Aj .i64 r.2 h1 (0+1)).bind fun F=>s.bind fun C=>(Aj .i64 r.2 C.block (C.off+0)).bind fun G=>some (decide (F<G),r.2) else some (false,r.2)).bind fun b=>bif b.1 then (s.bind fun l=>(Bd b.2 l.block (l.off+1)).bind fun g=>(Aj .i64 b.2 h1 (0+1)).bind fun t=>(Aj .i64 b.2 h1 (0+1)).bind fun u=>(Gh Ak 1 (g.1,g.2.1,g.2.2) (some (qIi (Ar (t*16)))) (some (qIi (Ar ((Ar (u+1))*(16:Int))))) none b.2).bind fun h=>(EC k (h.1,h.2.1,h.2.2) (some ⟨h1,0,none⟩) b.2).bind fun o=>(HO o.1).bind fun z=>some (qVi z,o.2)) else ((Aj .i64 b.2 h1 (0+0)).bind fun v=>(bif v == 1 then (Aj .i64 b.2 h1 (0+1)).bind fun w=>some (w == 0,b.2) else some (false,b.2)).bind fun a=>bif a.1 then (s.bind fun m=>(Bd a.2 m.block (m.off+2)).bind fun i=>(EC k (i.1,i.2.1,i.2.2) (some ⟨h1,0,none⟩) a.2).bind fun p=>(HO p.1).bind fun A=>some (qVi A,p.2)) else ((Aj .i64 a.2 h1 (0+0)).bind fun x=>(bif x == 2 then (Aj .i64 a.2 h1 (0+1)).bind fun y=>some (y == 0,a.2) else some (false,a.2)).bind fun c=>bif c.1 then (s.bind fun n=>(Bd c.2 n.block (n.off+3)).bind fun j=>(EC k (j.1,j.2.1,j.2.2) (some ⟨h1,0,none⟩) c.2).bind fun q=>(HO q.1).bind fun B=>some (qVi B,q.2)) else (some (qVi none,c.2)))):=by
 simp only[Jm,EC,Ac]; kernel_rfl
theorem SQ (k a J):AW (k+1) a J =
 (Ll P Hm (qVi a) (qVi none)).bind fun d=>(bif !d then a.bind fun b=>(Bd J b.block (b.off+0)).bind fun e=>some (decide (((e.2.1:Nat):Int)>(0:Int)),J) else some (false,J)).bind fun c=>some (.bool c.1,c.2):=by
 simp only[AW,Ac]; kernel_rfl
theorem TD (k a J):Az (k+1) a J =
 (Ll P Ki (qVi a) (qVi none)).bind fun d=>(bif !d then a.bind fun b=>(Bd J b.block (b.off+0)).bind fun e=>some (decide (((e.2.1:Nat):Int)>(0:Int)),J) else some (false,J)).bind fun c=>some (.bool c.1,c.2):=by
 simp only[Az,Ac]; kernel_rfl
theorem MP (k n d i1 a J):Gt k (n+1) d i1 a J =
 d.bind fun f=>(Bd J f.block (f.off+1)).bind fun l=>bif decide (a<((l.2.1:Nat):Int)) then (d.bind fun g=>(Bd J g.block (g.off+1)).bind fun j=>if 0<=a/\a<(j.2.1:Nat) then j.1.bind fun h=>(Aj .i64 J h.block (h.off+a.toNat*8+1)).bind fun m=>bif m == i1 then (d.bind fun i=>(Bd J i.block (i.off+1)).bind fun c=>if 0<=a/\a<(c.2.1:Nat) then c.1.bind fun b=>(Aj .i64 J b.block (b.off+a.toNat*8+0)).bind fun e=>some (.ret,[qIi e,qIi 0],J) else none) else (Gt k n d i1 (Ar (a+1)) J) else none) else (some (.exit 0,[],J)):=by
 simp only[Gt,Ac]; kernel_rfl
theorem Wc (k e f J):Ia (k+1) e f J =
 (Az k e J).bind fun d=>(Dk d.1).bind fun g=>bif !g then (some (.tuple #[qIi 0,qIi 5],d.2)) else ((Gt k k e f (0:Int) d.2).bind fun a=>if a.1 = .exit 0 then (some (.tuple #[qIi 0,qIi 4],a.2.2)) else if a.1 = .ret then (jf a.2.1 fun b c=>some (.tuple #[qIi b,qIi c],a.2.2)) else none):=by
 simp only[Ia,Gt,Az,Ac]; kernel_rfl
theorem Yf (k b c J):D6 (k+1) b c J =
 (H9 k b c J).bind fun a=>He a.1 fun d e=>some (qIi d,a.2):=by
 simp only[H9,D6,Ac]; kernel_rfl
theorem bJ (k O K f g h i j a b l m n o p q c d r G A J):N9 (k+1) O K f g h i j a b l m n o p q c d r G A J =
 Ae J (.cells [qIi f,qIi g,qIi h,qIi i,qIi j,.slice a.1 a.2.1 a.2.2,.slice b.1 b.2.1 b.2.2,.bool l] Ab true) fun h1 s2=>Ae s2 (.cells [qIi m,qIi n,qIi o,qIi p,qIi q,.slice c.1 c.2.1 c.2.2,.slice d.1 d.2.1 d.2.2,.bool r] Ab true) fun L z=>(bif G == 0 then (Aj .i64 z h1 (0+2+2)).bind fun M=>(bif M == 1 then some (true,z) else (Aj .i64 z h1 (0+2+2)).bind fun N=>some (N == 2,z)).bind fun I=>some (I.1,I.2) else some (false,z)).bind fun s=>bif s.1 then ((Bd s.2 h1 (0+5)).bind fun H=>if 0<=(0:Int)/\(0:Int)<(H.2.1:Nat) then H.1.bind fun t=>(Aj .i64 s.2 t.block (t.off+(0:Int).toNat*1)).bind fun C=>(Ix k (A.1,A.2.1,A.2.2) C s.2).bind fun w=>(Dk w.1).bind fun B=>some (.bool (!B),w.2) else none) else ((bif G == 1 then (Aj .i64 s.2 h1 (0+2+2)).bind fun D=>some (D == 2,s.2) else some (false,s.2)).bind fun e=>(bif e.1 then (Bd e.2 L (0+5)).bind fun v=>if 0<=(0:Int)/\(0:Int)<(v.2.1:Nat) then v.1.bind fun u=>(Aj .i64 e.2 u.block (u.off+(0:Int).toNat*1)).bind fun E=>(D6 k K E e.2).bind fun x=>(Bl .i64 x.1).bind fun F=>some (F == 0,x.2) else none else some (false,e.2)).bind fun y=>some (.bool y.1,y.2)):=by
 simp only[Ix,D6,N9,Ac]; kernel_rfl
theorem NW (k n c d b g a J):Gz k (n+1) c d b g a J =
 bif decide (a<(b:Int)) then (if 0<=a/\a<b then d.bind fun f=>(Aj .i64 J f.block (f.off+a.toNat*1)).bind fun i=>(CL k c i J).bind fun e=>(Dk e.1).bind fun h=>bif !h then (some (.ret,[.bool false],e.2)) else (Gz k n c d b g (Ar (a+1)) e.2) else none) else (some (.exit 0,[],J)):=by
 simp only[CL,Gz,Ac]; kernel_rfl
theorem NY (k n m i1 b J):Hy k (n+1) m i1 b J =
 m.bind fun c=>(Bd J c.block (c.off+1)).bind fun h=>if 0<=i1/\i1<(h.2.1:Nat) then h.1.bind fun d=>(Bd J d.block (d.off+i1.toNat*8+5)).bind fun q=>bif decide (b<((q.2.1:Nat):Int)) then (m.bind fun e=>(Bd J e.block (e.off+1)).bind fun i=>if 0<=i1/\i1<(i.2.1:Nat) then i.1.bind fun f=>(Bd J f.block (f.off+i1.toNat*8+5)).bind fun j=>if 0<=b/\b<(j.2.1:Nat) then j.1.bind fun g=>(Aj .i64 J g.block (g.off+b.toNat*1)).bind fun l=>(bif l != 0 then (CL k m l J).bind fun o=>(Dk o.1).bind fun p=>some (!p,o.2) else some (false,J)).bind fun a=>bif a.1 then (some (.ret,[.bool false],a.2)) else (Hy k n m i1 (Ar (b+1)) a.2) else none else none) else (some (.exit 4,[],J)) else none:=by
 simp only[CL,Hy,Ac]; kernel_rfl
theorem NX (k n b c J):G0 k (n+1) b c J =
 b.bind fun e=>(Bd J e.block (e.off+1)).bind fun f=>bif decide (c<((f.2.1:Nat):Int)) then ((Hy k k b c (0:Int) J).bind fun a=>if a.1 = .exit 4 then (G0 k n b (Ar (c+1)) a.2.2) else if a.1 = .ret then (oE a.2.1 fun d=>some (.ret,[.bool d],a.2.2)) else none) else (some (.exit 2,[],J)):=by
 simp only[G0,Hy,Ac]; kernel_rfl
theorem Ya (k f h J):Ns (k+1) f h J =
 (BI k h J).bind fun g=>(Ej g.1).bind fun e=>(Gz k k f e.1 e.2.1 e.2.2 (0:Int) g.2).bind fun b=>if b.1 = .exit 0 then ((G0 k k f (0:Int) b.2.2).bind fun a=>if a.1 = .exit 2 then (some (.bool true,a.2.2)) else if a.1 = .ret then (oE a.2.1 fun c=>some (.bool c,a.2.2)) else none) else if b.1 = .ret then (oE b.2.1 fun d=>some (.bool d,b.2.2)) else none:=by
 simp only[BI,Ns,Gz,G0,Ac]; kernel_rfl
theorem ZH (k b c J):FE (k+1) b c J =
 (bif c == 0 then (bif b == 1 then some (true,J) else some (b == 2,J)).bind fun d=>some (d.1,d.2) else some (false,J)).bind fun a=>(bif a.1 then some (true,a.2) else (bif c == 1 then some (b == 2,a.2) else some (false,a.2)).bind fun e=>some (e.1,e.2)).bind fun f=>some (.bool f.1,f.2):=by
 simp only[FE,Ac]; kernel_rfl
theorem ZF (k g h J):ET (k+1) g h J =
 (AK k g h J).bind fun f=>(an f.1).bind fun c=>if c.length=2 then c.head?.bind fun m=>Ms m fun i j l=>c.tail.head?.bind fun n=>(Bl .i64 n).bind fun o=>Ae f.2 (.cells [qIi 0,qIi 0,qIi 0] Ad true) fun e d=>(H0 d e 0 [qIi i,qIi j,qIi l]).bind fun a=>(Aj .i64 a e (0+2)).bind fun b=>some (qIi b,a) else none:=by
 simp only[AK,ET,Ac]; kernel_rfl
theorem TU (k a e J):CQ (k+1) a e J =
 a.bind fun b=>(Aj .i64 J b.block (b.off+4)).bind fun f=>(bif f == 1 then ((BV k a e J).bind fun c=>Wz c.1 (some (.normal,[],c.2))) else (some (.normal,[],J)):Option Bq).bind fun d=>if d.1 = .normal then (some (.tuple #[],d.2.2)) else none:=by
 simp only[BV,CQ,Ac]; kernel_rfl
theorem QE (k n b i1 a J):Fw k (n+1) b i1 a J =
 b.bind fun d=>(Aj .i64 J d.block (d.off+0)).bind fun e=>bif decide (a<e) then ((Ew k b a J).bind fun c=>(Bl .i64 c.1).bind fun f=>bif f == i1 then (some (.ret,[qIi a,qIi 0],c.2)) else (Fw k n b i1 (Ar (a+1)) c.2)) else (some (.exit 0,[],J)):=by
 simp only[Fw,Ew,Ac]; kernel_rfl
theorem TP (k c d e J):DK (k+1) c d e J =
 (BS k c J).bind fun b=>(Dk b.1).bind fun f=>bif !f then (some (.tuple #[qIi 0,qIi 5],b.2)) else ((Fw k k c e (if (0:Int)>d then (0:Int) else d) b.2).bind fun a=>if a.1 = .exit 0 then (some (.tuple #[qIi 0,qIi 4],a.2.2)) else if a.1 = .ret then (jf a.2.1 fun g h=>some (.tuple #[qIi g,qIi h],a.2.2)) else none):=by
 simp only[DK,Fw,BS,Ac]; kernel_rfl
theorem Yg (k a c J):Hr (k+1) a c J =
 (bif a != 0 then c.bind fun b=>(B7 J b.block b.off).bind fun g=>(Bc k g a J).bind fun d=>(Dk d.1).bind fun f=>some (!f,d.2) else some (false,J)).bind fun e=>some (.bool e.1,e.2):=by
 simp only[Bc,Hr,Ac]; kernel_rfl
theorem JP (k a c J):CK (k+1) a c J =
 (Hk k (a.1,a.2.1,a.2.2) (c) J).bind fun b=>(Bl .i64 b.1).bind fun d=>some (.bool (decide (d>=0)),b.2):=by
 simp only[CK,Hk,Ac]; kernel_rfl
theorem R8 (k e J):Dc (k+1) e J =
 (Bi k e J).bind fun c=>(Dk c.1).bind fun h=>bif !h then (some (.slice none 0 0,c.2)) else (Ae c.2 (.cells [.slice none 0 0] FP true) fun f j=>(GV k e j).bind fun d=>bif kz d.1 then (Ae d.2 (.loop 168 .ready (Hf 0 26 [(3,qVi (some ⟨f,0,none⟩))])) fun g l=>(LQ k d.1 [.func (.yield g) #[] #[]] l).bind fun i=>OU g i.2 fun m b=>if m = .normal then ((Bd b f 0).bind fun a=>some (.slice a.1 a.2.1 a.2.2,b)) else none) else none):=by
 simp only[LQ,Dc,GV,Bi,Ac]; kernel_rfl
theorem My (k c a J):Cd (k+1) c a J =
 (AR k c J).bind fun e=>(Dk e.1).bind fun i=>(bif !i then some (true,e.2) else some (decide (a<0),e.2)).bind fun b=>(bif b.1 then some (true,b.2) else c.bind fun g=>(Bd b.2 g.block (g.off+0)).bind fun j=>some (decide (a>=((j.2.1:Nat):Int)),b.2)).bind fun f=>bif f.1 then (some (.slice none 0 0,f.2)) else ((E7 k c (Ar (a*64)) (Ar ((Ar (a+1))*(64:Int))) f.2).bind fun h=>(Ej h.1).bind fun d=>some (.slice d.1 d.2.1 d.2.2,h.2)):=by
 simp only[Cd,E7,AR,Ac]; kernel_rfl
theorem ZA (k a b c J):Hh (k+1) a b c J =
 Ae J (.cells [qIi a,qIi b,qIi c] Ad true) fun h1 s2=>(Aj .i64 s2 h1 0).bind fun f=>(Aj .i64 s2 h1 (0+1)).bind fun g=>(Aj .i64 s2 h1 (0+1+1)).bind fun h=>(ES k f g h s2).bind fun d=>(Dk d.1).bind fun e=>bif !e then (some (qIi 0,d.2)) else ((Aj .i64 d.2 h1 (0+0)).bind fun i=>(Aj .i64 d.2 h1 (0+1)).bind fun j=>if (2:Int)=0 then none else some (qIi (Ar ((Ar ((Ar ((Ar ((Ar ((2:Int)+i))+j))+(1:Int))).tdiv (2:Int)))*(2:Int))),d.2)):=by
 simp only[ES,Hh,Ac]; kernel_rfl
theorem KT (k n b i1 a J):Em k (n+1) b i1 a J =
 bif decide (a>0) then (b.bind fun d=>(Bd J d.block (d.off+0)).bind fun f=>if 0<=(Ar ((Ar (i1+a))-(1:Int)))/\(Ar ((Ar (i1+a))-(1:Int)))<(f.2.1:Nat) then f.1.bind fun e=>(H0 J e.block (e.off+(Ar ((Ar (i1+a))-(1:Int))).toNat*2) [qIi 0,qIi 0]).bind fun c=>Em k n b i1 (Ar (a-1)) c else none) else (some (.exit 0,[],J)):=by
 simp only[Em,Ac]; kernel_rfl
theorem Rt (k b c J):FT (k+1) b c J =
 (Jd k b c true J).bind fun d=>(Bl .i64 d.1).bind fun f=>bif f != 0 then (some (qIi f,d.2)) else ((Cd k b c d.2).bind fun e=>(Ej e.1).bind fun h=>bif decide (((h.2.1:Nat):Int)>(0:Int)) then (some (qIi 8,e.2)) else ((Gs k b c e.2).bind fun g=>(Bl .i64 g.1).bind fun i=>(Em k k b c i g.2).bind fun a=>if a.1 = .exit 0 then (some (qIi 0,a.2.2)) else none)):=by
 simp only[Cd,FT,Em,Jd,Gs,Ac]; kernel_rfl
end
end
end
end Go.Proofs.YtjbledomkmdkmaaGreat
