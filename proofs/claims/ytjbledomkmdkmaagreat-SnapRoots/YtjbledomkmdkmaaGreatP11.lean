/- From what a call comes to, to a row that says: true, and all reads as it did.; Bit tables, as lists of words: an entry is what was put there last. -/
import Derived.ProofKit
import Derived.Carry
import Derived.Test.YtjbledomkmdkmaaGreatP10
set_option linter.unusedVariables false
set_option linter.unusedSimpArgs false
set_option linter.unusedSectionVars false
namespace Go.AX
open Go Go.RowKit Go.ChangeShapes Go.WideShapes Go.ChangeAt
noncomputable section
section
variable {P:Program}
theorem ZN {Z Z':Mu} {J J':Aa} {w w':World} (h:Step Z J w Z' J' w') (hn:∀ b,b<J.length->¬ Az J b):Below w.heap.size w w':=
 ⟨h.os,h.tape,h.output,h.size,fun k hk=>h.frame k hk fun b _ hb _ _=>hn b hb⟩
theorem TO {H:Type} {enc:TypeId × Value->H} (hl:laidOutB P=true) {W W':World} (hb:Below W.heap.size W W'):∀ {ts:List TypeId} {vs:List Value} {ds:List (DataW H)} {ps:List MemPlace},
  (ts.all fun t=>P.readableRec t && decide (t<P.types.size))=true->DataW.TrodAll enc P W 0 (fun _=>true) true ts vs ds ps->(∀ x ∈ ps,x.block<W.heap.size) ->
  DataW.TrodAll enc P W' 0 (fun b=>decide (b<W.heap.size)) true ts vs ds ps
 | [],vs,ds,ps,_,h,_=>by
   obtain ⟨rfl,rfl,rfl⟩:=trodAll_nil h;rfl
 | t::ts,vs,ds,ps,ht,h,hlt=>by
   simp only[Adb,zn,zA] at ht;obtain ⟨v,vs',d,ds',p,q,rfl,rfl,rfl,h1,h2⟩:=trodAll_cons h;exact ⟨p,q,Below.trod hl ht.1.1 ht.1.2 h1 hb (fun x hx=>hlt x (by simp[hx])),TO hl hb ht.2 h2 (fun x hx=>hlt x (by simp[hx])),rfl⟩
theorem mW {H:Type} {enc:TypeId × Value->H} {f:Func} {s:ChangeSpec} {apart:Bool} {W W':World} {args:Array Value} {v:Value} {ds gs:List (DataW H)} {before:List MemPlace}
  (hW:DataW.Whole enc P f.params.toList s.vars apart W args.toList ds gs before) (hl:laidOutB P=true) (hp:(f.params.toList.all fun t=>P.readableRec t && decide (t<P.types.size))=true)
  (hv:s.vars=[]) (hres:∀ (b:Nat) (sp:Nat->Bool) (hd:Bool),DataW.TrodAll enc P W' b sp hd f.resultTypes.toList (v.resultList f.resultTypes.size) (s.fn H (ds++gs)).results [])
  (hargs:(s.fn H (ds++gs)).args=ds) (hvars:(s.fn H (ds++gs)).vars=[]) (hb:Below W.heap.size W W'):
  s.post enc P f apart true false false W args v W':=by
 have hlt:=hW.lt;have hW0:=hW;obtain ⟨p,q,hA,hV,hpq,hrest⟩:=hW;have hV':=hV;rw[hv] at hV';obtain ⟨rfl,rfl⟩:=trodVars_none hV';refine ⟨ds,[],before,[],before,[],hW0,hres _ _ _, ?_, ?_,hb.frame _,fun h=>by cases h⟩
 ·rw[hargs];subst hpq;rw[yw] at hlt ⊢;exact TO hl hb hp hA hlt
 ·rw[hvars,hv];rfl
end
end
end Go.AX
namespace Go.AX
open Go
noncomputable section
section
def okW (w:Nat):Prop:=w=1\/w=2\/w=4\/w=8
def CR (w:Nat) (ws:List (BitVec 64)) (i:Nat):Nat:=((ws.getD (i*w/64) 0) >>> (i*w % 64)).toNat % 2 ^ w
def td (w:Nat) (x:BitVec 64) (s v:Nat):BitVec 64:=(x &&& ~~~ (BitVec.ofNat 64 (2 ^ w-1) <<< s)) ||| (BitVec.ofNat 64 v <<< s)
def Fm (w:Nat) (ws:List (BitVec 64)) (i v:Nat):List (BitVec 64):=ws.set (i*w/64) (td w (ws.getD (i*w/64) 0) (i*w % 64) v)
theorem EW (w ws i v):(Fm w ws i v).length=ws.length:=by simp[Fm]
theorem cr {w i:Nat} (h:okW w):i*w % 64+w<=64:=by rcases h with rfl | rfl | rfl | rfl <;> omega
theorem mL {w i j:Nat} (h:okW w) (hij:i≠j) (hs:i*w/64=j*w/64):i*w % 64+w<=j*w % 64\/j*w % 64+w<=i*w % 64:=by
 rcases h with rfl | rfl | rfl | rfl <;> omega
theorem ZI (w:Nat) (x:BitVec 64) (s t:Nat):((x >>> s).toNat % 2 ^ w).testBit t=(decide (t<w) && x.getLsbD (s+t)):=by
 rw[Nat.testBit_mod_two_pow];congr 1;rw[<- BitVec.getLsbD];simp[BitVec.getLsbD_ushiftRight]
theorem gI (w:Nat) (x:BitVec 64) (s v p:Nat) (hp:p<64):(td w x s v).getLsbD p=((x.getLsbD p && !(decide (s<=p) && decide (p-s<w))) || (decide (s<=p) && v.testBit (p-s))):=by
 unfold td;simp only[BitVec.getLsbD_or,BitVec.getLsbD_and,BitVec.getLsbD_not,BitVec.getLsbD_shiftLeft,BitVec.getLsbD_ofNat,Nat.testBit_two_pow_sub_one,hp,Acp,Abm];have h2:p-s<64:=by omega
 by_cases h:s<=p
 ·have h1:¬ p<s:=by omega
  simp[h,h1,h2]
 ·have h1:p<s:=by omega
  simp[h,h1]
theorem Ew {w:Nat} {ws:List (BitVec 64)} {i v:Nat} (h:okW w) (hv:v<2 ^ w) (hi:i*w/64<ws.length):CR w (Fm w ws i v) i=v:=by
 have hf:=cr (i:=i) h;apply Nat.eq_of_testBit_eq;intro t;unfold CR Fm;rw[ZI,yd,yo (by simpa using hi),Aaz];by_cases ht:t<w
 ·rw[gI _ _ _ _ _ (by omega)];have e:i*w % 64+t-i*w % 64=t:=by omega
  simp[ht,e]
 ·have:v.testBit t=false:=Nat.testBit_lt_two_pow (yG hv (Nat.pow_le_pow_right (by decide) (by omega)));simp[ht,this]
theorem BO {w:Nat} {ws:List (BitVec 64)} {i j v:Nat} (h:okW w) (hv:v<2 ^ w) (hij:i≠j):CR w (Fm w ws i v) j=CR w ws j:=by
 have hf:=cr (i:=i) h;have hf':=cr (i:=j) h;unfold CR Fm;by_cases hs:i*w/64=j*w/64
 ·by_cases hl:j*w/64<ws.length
  ·apply Nat.eq_of_testBit_eq;intro t;rw[ZI,ZI,hs,yd,yo (by simpa using hl),Aaz];by_cases ht:t<w
   ·rw[gI _ _ _ _ _ (by omega)];rcases mL h hij hs with h1 | h1
    ·have e1:¬ (j*w % 64+t-i*w % 64<w):=by omega
     have e2:v.testBit (j*w % 64+t-i*w % 64)=false:=Nat.testBit_lt_two_pow (yG hv (Nat.pow_le_pow_right (by decide) (by omega)));simp[e1,e2]
    ·have e1:¬ (i*w % 64<=j*w % 64+t):=by omega
     simp[e1]
   ·simp[ht]
  ·rw[List.set_eq_of_length_le (by rw[hs]; omega)]
 ·rw[yd,yc hs,<- yd]
theorem sW (w ws i):CR w ws i<2 ^ w:=Aaq _ (Acs w)
theorem Qt (w n i:Nat):CR w (List.replicate n 0#64) i=0:=by
 unfold CR;have:(List.replicate n 0#64).getD (i*w/64) 0=0#64:=by
  rw[yd,zM];split <;> rfl
 rw[this]; simp
theorem Jg (n:Int):(BitVec.ofInt 64 n).toNat=(n % 18446744073709551616).toNat:=by
 rw[BitVec.toNat_ofInt]; rfl
theorem mK (n:Int):BitVec.ofInt 64 (Ar n)=BitVec.ofInt 64 n:=by
 apply Abu;rw[Jg,Jg,Ar,Aar];congr 1;omega
theorem dc (n:Int):u64 n=n % 18446744073709551616:=by
 simp[u64,IntKind.wrap,IntKind.bits,IntKind.signed]
theorem ofInt_u64 (n:Int):BitVec.ofInt 64 (u64 n)=BitVec.ofInt 64 n:=by
 apply Abu;rw[Jg,Jg,dc];congr 1;omega
theorem ba (n:Nat):BitVec.ofInt 64 (n:Int)=BitVec.ofNat 64 n:=by
 apply Abu;rw[Jg,Ac3];omega
theorem RX (x:BitVec 64):BitVec.ofInt 64 (x.toNat:Int)=x:=by
 rw[ba,BitVec.ofNat_toNat,BitVec.setWidth_eq]
theorem nI (x:BitVec 64):u64 (x.toNat:Int)=(x.toNat:Int):=by
 have:=x.isLt;rw[dc]; omega
theorem Vw {n:Nat} (h:n<9223372036854775808):Ar (n:Int)=(n:Int):=Ah (by unfold AK; omega)
theorem me (x:BitVec 64) (s:Nat) (hs:s<64):(x.toNat:Int).fdiv (2 ^ (min s 64))=((x >>> s).toNat:Int):=by
 rw[Abk (by omega),Int.fdiv_eq_ediv_of_nonneg _ (Int.pow_nonneg (by decide)),BitVec.toNat_ushiftRight,Nat.shiftRight_eq_div_pow]
 norm_cast
theorem pb (x:BitVec 64) (s w:Nat) (hs:s<64) (hw:okW w):
  Ar ((BitVec.ofInt 64 (Ar ((x.toNat:Int).fdiv (2 ^ (min s 64)))) &&& BitVec.ofInt 64 ((2 ^ w-1:Nat):Int)).toNat:Int)=(((x >>> s).toNat % 2 ^ w:Nat):Int):=by
 rw[me x s hs,mK,RX,ba,BitVec.toNat_and,Ac3];have h1:(2 ^ w-1) % 2 ^ 64=2 ^ w-1:=by rcases hw with rfl | rfl | rfl | rfl <;> rfl
 rw[h1,Nat.and_two_pow_sub_one_eq_mod];have h2:(x >>> s).toNat % 2 ^ w<2 ^ w:=Aaq _ (Acs w);have h3:2 ^ w<=256:=by rcases hw with rfl | rfl | rfl | rfl <;> decide
 exact Vw (by omega)
theorem gx (a s:Nat) (hs:s<64):BitVec.ofInt 64 (u64 ((u64 (a:Int))*2 ^ (min s 64)))=BitVec.ofNat 64 a <<< s:=by
 rw[ofInt_u64,Abk (by omega)];apply Abu;rw[Jg,dc,BitVec.toNat_shiftLeft,Ac3,Nat.shiftLeft_eq];have h64:((2 ^ 64:Nat):Int)=18446744073709551616:=by decide
 have:((a:Int) % 18446744073709551616*2 ^ s)=((a % 2 ^ 64*2 ^ s:Nat):Int):=by
  rw[Adp,Int.natCast_emod,h64,Int.natCast_pow]; rfl
 rw[this];generalize a % 2 ^ 64*2 ^ s=y;omega
theorem pW (x:BitVec 64) (s w v:Nat) (hs:s<64):
  u64 ((BitVec.ofInt 64 (u64 ((BitVec.ofInt 64 (x.toNat:Int) &&& ~~~ (BitVec.ofInt 64 (u64 ((u64 ((2 ^ w-1:Nat):Int))*2 ^ (min s 64))))).toNat:Int)) ||| BitVec.ofInt 64 (u64 ((u64 (v:Int))*2 ^ (min s 64)))).toNat:Int)=((td w x s v).toNat:Int):=by
 rw[gx _ _ hs,gx _ _ hs,nI,ofInt_u64,RX,RX];rfl
def Pk (g:Nat->Nat) (e v:Nat) (i:Nat):Option Nat:=if h:i<e then (if g i=v then some i else Pk g e v (i+1)) else none
termination_by e-i
def Ph (g:Nat->Nat) (v:Nat):Nat->Option Nat
 | 0=>none
 | i+1=>if g i=v then some i else Ph g v i
theorem Qk {g:Nat->Nat} {e v i j:Nat} (h:Pk g e v i=some j):i<=j/\j<e/\g j=v /\ ∀ t,i<=t->t<j->g t≠v:=by
 unfold Pk at h;split at h
 ·split at h
  ·cases h; exact ⟨yj _,by assumption,by assumption,fun t h1 h2=>by omega⟩
  ·rename_i hne;obtain ⟨h1,h2,h3,h4⟩:=Qk h;refine ⟨by omega,h2,h3,fun t ht1 ht2=>?_⟩;rcases Ac4 ht1 with rfl | ht
   ·exact hne
   ·exact h4 t ht ht2
 ·cases h
termination_by e-i
theorem Qh {g:Nat->Nat} {v:Nat}:∀ {i j:Nat},Ph g v i=some j->j<i/\g j=v /\ ∀ t,j<t->t<i->g t≠v
 | 0,_,h=>by cases h
 | i+1,j,h=>by
   simp only[Ph] at h;split at h
   ·cases h; exact ⟨by omega,by assumption,fun t h1 h2=>by omega⟩
   ·rename_i hne;obtain ⟨h1,h2,h3⟩:=Qh h;refine ⟨by omega,h2,fun t ht1 ht2=>?_⟩;rcases zL t i with ht | ht
    ·exact h3 t ht1 ht
    ·obtain rfl:t=i:=by omega
     exact hne
theorem YZ {g:Nat->Nat} {v:Nat}:∀ {i:Nat},Ph g v i=none -> ∀ t,t<i->g t≠v
 | 0,_,t,ht=>by omega
 | i+1,h,t,ht=>by
   simp only[Ph] at h;split at h
   ·cases h
   ·rename_i hne;rcases zL t i with ht' | ht'
    ·exact YZ h t ht'
    ·obtain rfl:t=i:=by omega
     exact hne
end
end
end Go.AX
