/- From what a call comes to, to a row that says: true, and all reads as it did.; Bit tables, as lists of words: an entry is what was put there last. -/
import Derived.ProofKit
import Derived.Carry
import Derived.Test.YtlaplcglpnlieaaGreatP6
set_option linter.unusedVariables false
set_option linter.unusedSimpArgs false
set_option linter.unusedSectionVars false
section
namespace Go.AX
open Go Go.RowKit Go.ChangeShapes Go.WideShapes Go.ChangeAt
variable {P:Program}
theorem cH {μ μ':Mu} {σ σ':Aa} {w w':World} (h:Step μ σ w μ' σ' w') (hn:∀ b,b<σ.length→¬ Av σ b):Below w.heap.size w w':=
 ⟨h.os,h.tape,h.output,h.size,fun k hk=>h.frame k hk fun b _ hb _ _=>hn b hb⟩
theorem Wf {H:Type} {enc:TypeId × Value→H} (hl:laidOutB P=true) {W W':World} (hb:Below W.heap.size W W'):∀ {ts:List TypeId} {vs:List Value} {ds:List (DataW H)} {ps:List MemPlace},
  (ts.all fun t=>P.readableRec t && decide (t<P.types.size))=true→DataW.TrodAll enc P W 0 (fun _=>true) true ts vs ds ps→(∀ x ∈ ps,x.block<W.heap.size) →
  DataW.TrodAll enc P W' 0 (fun b=>decide (b<W.heap.size)) true ts vs ds ps
 | [],vs,ds,ps,_,h,_=>by
   obtain ⟨rfl,rfl,rfl⟩:=trodAll_nil h
   rfl
 | t::ts,vs,ds,ps,ht,h,hlt=>by
   simp only[List.all_cons,Bool.and_eq_true,decide_eq_true_eq] at ht
   obtain ⟨v,vs',d,ds',p,q,rfl,rfl,rfl,h1,h2⟩:=trodAll_cons h
   exact ⟨p,q,Below.trod hl ht.1.1 ht.1.2 h1 hb (fun x hx=>hlt x (by simp[hx])),Wf hl hb ht.2 h2 (fun x hx=>hlt x (by simp[hx])),rfl⟩
theorem mQ {H:Type} {enc:TypeId × Value→H} {f:Func} {s:ChangeSpec} {apart:Bool} {W W':World} {args:Array Value} {v:Value} {ds gs:List (DataW H)} {before:List MemPlace}
  (hW:DataW.Whole enc P f.params.toList s.vars apart W args.toList ds gs before) (hl:laidOutB P=true) (hp:(f.params.toList.all fun t=>P.readableRec t && decide (t<P.types.size))=true)
  (hv:s.vars=[]) (hres:∀ (b:Nat) (sp:Nat→Bool) (hd:Bool),DataW.TrodAll enc P W' b sp hd f.resultTypes.toList (v.resultList f.resultTypes.size) (s.fn H (ds++gs)).results [])
  (hargs:(s.fn H (ds++gs)).args=ds) (hvars:(s.fn H (ds++gs)).vars=[]) (hb:Below W.heap.size W W'):
  s.post enc P f apart true false false W args v W':=by
 have hlt:=hW.lt
 have hW0:=hW
 obtain ⟨p,q,hA,hV,hpq,hrest⟩:=hW
 have hV':=hV
 rw[hv] at hV'
 obtain ⟨rfl,rfl⟩:=trodVars_none hV'
 refine ⟨ds,[],before,[],before,[],hW0,hres _ _ _, ?_, ?_,hb.frame _,fun h=>by cases h⟩
 ·rw[hargs]
  subst hpq
  rw[List.append_nil] at hlt ⊢
  exact Wf hl hb hp hA hlt
 ·rw[hvars,hv]
  rfl
end Go.AX
end
section
namespace Go.AX
open Go
def okW (w:Nat):Prop:=w=1∨w=2∨w=4∨w=8
def Ge (w:Nat) (ws:List (BitVec 64)) (i:Nat):Nat:=((ws.getD (i*w/64) 0) >>> (i*w % 64)).toNat % 2 ^ w
def qH (w:Nat) (x:BitVec 64) (s v:Nat):BitVec 64:=(x &&& ~~~ (BitVec.ofNat 64 (2 ^ w-1) <<< s)) ||| (BitVec.ofNat 64 v <<< s)
def Hm (w:Nat) (ws:List (BitVec 64)) (i v:Nat):List (BitVec 64):=ws.set (i*w/64) (qH w (ws.getD (i*w/64) 0) (i*w % 64) v)
theorem MO (w ws i v):(Hm w ws i v).length=ws.length:=by simp[Hm]
theorem fD {w i:Nat} (h:okW w):i*w % 64+w≤64:=by rcases h with rfl | rfl | rfl | rfl <;> omega
theorem mI {w i j:Nat} (h:okW w) (hij:i≠j) (hs:i*w/64=j*w/64):i*w % 64+w≤j*w % 64∨j*w % 64+w≤i*w % 64:=by
 rcases h with rfl | rfl | rfl | rfl <;> omega
theorem cz (w:Nat) (x:BitVec 64) (s t:Nat):((x >>> s).toNat % 2 ^ w).testBit t=(decide (t<w) && x.getLsbD (s+t)):=by
 rw[Nat.testBit_mod_two_pow]
 congr 1
 rw[← BitVec.getLsbD]
 simp[BitVec.getLsbD_ushiftRight]
theorem jj (w:Nat) (x:BitVec 64) (s v p:Nat) (hp:p<64):(qH w x s v).getLsbD p=((x.getLsbD p && !(decide (s≤p) && decide (p-s<w))) || (decide (s≤p) && v.testBit (p-s))):=by
 unfold qH
 simp only[BitVec.getLsbD_or,BitVec.getLsbD_and,BitVec.getLsbD_not,BitVec.getLsbD_shiftLeft,BitVec.getLsbD_ofNat,Nat.testBit_two_pow_sub_one,hp,decide_true,Bool.true_and]
 have h2:p-s<64:=by omega
 by_cases h:s≤p
 ·have h1:¬ p<s:=by omega
  simp[h,h1,h2]
 ·have h1:p<s:=by omega
  simp[h,h1]
theorem F4 {w:Nat} {ws:List (BitVec 64)} {i v:Nat} (h:okW w) (hv:v<2 ^ w) (hi:i*w/64<ws.length):Ge w (Hm w ws i v) i=v:=by
 have hf:=fD (i:=i) h
 apply Nat.eq_of_testBit_eq
 intro t
 unfold Ge Hm
 rw[cz,List.getD_eq_getElem?_getD,List.getElem?_set_self (by simpa using hi),Option.getD_some]
 by_cases ht:t<w
 ·rw[jj _ _ _ _ _ (by omega)]
  have e:i*w % 64+t-i*w % 64=t:=by omega
  simp[ht,e]
 ·have:v.testBit t=false:=Nat.testBit_lt_two_pow (Nat.lt_of_lt_of_le hv (Nat.pow_le_pow_right (by decide) (by omega)))
  simp[ht,this]
theorem Cr {w:Nat} {ws:List (BitVec 64)} {i j v:Nat} (h:okW w) (hv:v<2 ^ w) (hij:i≠j):Ge w (Hm w ws i v) j=Ge w ws j:=by
 have hf:=fD (i:=i) h
 have hf':=fD (i:=j) h
 unfold Ge Hm
 by_cases hs:i*w/64=j*w/64
 ·by_cases hl:j*w/64<ws.length
  ·apply Nat.eq_of_testBit_eq
   intro t
   rw[cz,cz,hs,List.getD_eq_getElem?_getD,List.getElem?_set_self (by simpa using hl),Option.getD_some]
   by_cases ht:t<w
   ·rw[jj _ _ _ _ _ (by omega)]
    rcases mI h hij hs with h1 | h1
    ·have e1:¬ (j*w % 64+t-i*w % 64<w):=by omega
     have e2:v.testBit (j*w % 64+t-i*w % 64)=false:=Nat.testBit_lt_two_pow (Nat.lt_of_lt_of_le hv (Nat.pow_le_pow_right (by decide) (by omega)))
     simp[e1,e2]
    ·have e1:¬ (i*w % 64≤j*w % 64+t):=by omega
     simp[e1]
   ·simp[ht]
  ·rw[List.set_eq_of_length_le (by rw[hs]; omega)]
 ·rw[List.getD_eq_getElem?_getD,List.getElem?_set_ne hs,← List.getD_eq_getElem?_getD]
theorem qC (w ws i):Ge w ws i<2 ^ w:=Nat.mod_lt _ (Nat.two_pow_pos w)
theorem TB (w n i:Nat):Ge w (List.replicate n 0#64) i=0:=by
 unfold Ge
 have:(List.replicate n 0#64).getD (i*w/64) 0=0#64:=by
  rw[List.getD_eq_getElem?_getD,List.getElem?_replicate]
  split <;> rfl
 rw[this]; simp
theorem JC (n:Int):(BitVec.ofInt 64 n).toNat=(n % 18446744073709551616).toNat:=by
 rw[BitVec.toNat_ofInt]; rfl
theorem mH (n:Int):BitVec.ofInt 64 (Ac n)=BitVec.ofInt 64 n:=by
 apply BitVec.eq_of_toNat_eq
 rw[JC,JC,Ac,IntKind.wrap_i64]
 congr 1
 omega
theorem gh (n:Int):u64 n=n % 18446744073709551616:=by
 simp[u64,IntKind.wrap,IntKind.bits,IntKind.signed]
theorem ofInt_u64 (n:Int):BitVec.ofInt 64 (u64 n)=BitVec.ofInt 64 n:=by
 apply BitVec.eq_of_toNat_eq
 rw[JC,JC,gh]
 congr 1
 omega
theorem dN (n:Nat):BitVec.ofInt 64 (n:Int)=BitVec.ofNat 64 n:=by
 apply BitVec.eq_of_toNat_eq
 rw[JC,BitVec.toNat_ofNat]
 omega
theorem UP (x:BitVec 64):BitVec.ofInt 64 (x.toNat:Int)=x:=by
 rw[dN,BitVec.ofNat_toNat,BitVec.setWidth_eq]
theorem nn (x:BitVec 64):u64 (x.toNat:Int)=(x.toNat:Int):=by
 have:=x.isLt
 rw[gh]; omega
theorem XN {n:Nat} (h:n<9223372036854775808):Ac (n:Int)=(n:Int):=Ad (by unfold AW; omega)
theorem mj (x:BitVec 64) (s:Nat) (hs:s<64):(x.toNat:Int).fdiv (2 ^ (min s 64))=((x >>> s).toNat:Int):=by
 rw[Nat.min_eq_left (by omega),Int.fdiv_eq_ediv_of_nonneg _ (Int.pow_nonneg (by decide)),BitVec.toNat_ushiftRight,Nat.shiftRight_eq_div_pow]
 norm_cast
theorem oh (x:BitVec 64) (s w:Nat) (hs:s<64) (hw:okW w):
  Ac ((BitVec.ofInt 64 (Ac ((x.toNat:Int).fdiv (2 ^ (min s 64)))) &&& BitVec.ofInt 64 ((2 ^ w-1:Nat):Int)).toNat:Int)=(((x >>> s).toNat % 2 ^ w:Nat):Int):=by
 rw[mj x s hs,mH,UP,dN,BitVec.toNat_and,BitVec.toNat_ofNat]
 have h1:(2 ^ w-1) % 2 ^ 64=2 ^ w-1:=by rcases hw with rfl | rfl | rfl | rfl <;> rfl
 rw[h1,Nat.and_two_pow_sub_one_eq_mod]
 have h2:(x >>> s).toNat % 2 ^ w<2 ^ w:=Nat.mod_lt _ (Nat.two_pow_pos w)
 have h3:2 ^ w≤256:=by rcases hw with rfl | rfl | rfl | rfl <;> decide
 exact XN (by omega)
theorem iP (a s:Nat) (hs:s<64):BitVec.ofInt 64 (u64 ((u64 (a:Int))*2 ^ (min s 64)))=BitVec.ofNat 64 a <<< s:=by
 rw[ofInt_u64,Nat.min_eq_left (by omega)]
 apply BitVec.eq_of_toNat_eq
 rw[JC,gh,BitVec.toNat_shiftLeft,BitVec.toNat_ofNat,Nat.shiftLeft_eq]
 have h64:((2 ^ 64:Nat):Int)=18446744073709551616:=by decide
 have:((a:Int) % 18446744073709551616*2 ^ s)=((a % 2 ^ 64*2 ^ s:Nat):Int):=by
  rw[Int.natCast_mul,Int.natCast_emod,h64,Int.natCast_pow]; rfl
 rw[this]
 generalize a % 2 ^ 64*2 ^ s=y
 omega
theorem oQ (x:BitVec 64) (s w v:Nat) (hs:s<64):
  u64 ((BitVec.ofInt 64 (u64 ((BitVec.ofInt 64 (x.toNat:Int) &&& ~~~ (BitVec.ofInt 64 (u64 ((u64 ((2 ^ w-1:Nat):Int))*2 ^ (min s 64))))).toNat:Int)) ||| BitVec.ofInt 64 (u64 ((u64 (v:Int))*2 ^ (min s 64)))).toNat:Int)=((qH w x s v).toNat:Int):=by
 rw[iP _ _ hs,iP _ _ hs,nn,ofInt_u64,UP,UP]
 rfl
def Sz (g:Nat→Nat) (e v:Nat) (i:Nat):Option Nat:=if h:i<e then (if g i=v then some i else Sz g e v (i+1)) else none
termination_by e-i
def Sv (g:Nat→Nat) (v:Nat):Nat→Option Nat
 | 0=>none
 | i+1=>if g i=v then some i else Sv g v i
theorem Tm {g:Nat→Nat} {e v i j:Nat} (h:Sz g e v i=some j):i≤j∧j<e∧g j=v ∧ ∀ t,i≤t→t<j→g t≠v:=by
 unfold Sz at h
 split at h
 ·split at h
  ·cases h; exact ⟨Nat.le_refl _,by assumption,by assumption,fun t h1 h2=>by omega⟩
  ·rename_i hne
   obtain ⟨h1,h2,h3,h4⟩:=Tm h
   refine ⟨by omega,h2,h3,fun t ht1 ht2=>?_⟩
   rcases Nat.eq_or_lt_of_le ht1 with rfl | ht
   ·exact hne
   ·exact h4 t ht ht2
 ·cases h
termination_by e-i
theorem Tj {g:Nat→Nat} {v:Nat}:∀ {i j:Nat},Sv g v i=some j→j<i∧g j=v ∧ ∀ t,j<t→t<i→g t≠v
 | 0,_,h=>by cases h
 | i+1,j,h=>by
   simp only[Sv] at h
   split at h
   ·cases h; exact ⟨by omega,by assumption,fun t h1 h2=>by omega⟩
   ·rename_i hne
    obtain ⟨h1,h2,h3⟩:=Tj h
    refine ⟨by omega,h2,fun t ht1 ht2=>?_⟩
    rcases Nat.lt_or_ge t i with ht | ht
    ·exact h3 t ht1 ht
    ·obtain rfl:t=i:=by omega
     exact hne
theorem bh {g:Nat→Nat} {v:Nat}:∀ {i:Nat},Sv g v i=none → ∀ t,t<i→g t≠v
 | 0,_,t,ht=>by omega
 | i+1,h,t,ht=>by
   simp only[Sv] at h
   split at h
   ·cases h
   ·rename_i hne
    rcases Nat.lt_or_ge t i with ht' | ht'
    ·exact bh h t ht'
    ·obtain rfl:t=i:=by omega
     exact hne
end Go.AX
end
