/- Laws of the words in which the printed functions are written.; Bit tables, as lists of words: an entry is what was put there last.; What the functions -/
import Derived.Test.YtphkfdnecpacmaaGreatP7
import Derived.Test.YtphkfdnecpacmaaGreatP18
set_option linter.unusedVariables false
set_option linter.unusedSimpArgs false
set_option linter.unusedSectionVars false
section
namespace Go.AX
open Go
variable {ρ:Type}
theorem Af8 (σ:Aa) (vs:List Value) (T:TypeId) (rw:Bool) (o:Nat):Gg (σ++[.cells vs T rw]) σ.length o=vs[o]?:=by simp[Gg]
theorem Af7 {σ:Aa} {b:Nat} (τ:Aa) (o:Nat) (h:b<σ.length):Gg (σ++τ) b o=Gg σ b o:=by simp[Gg,List.getElem?_append_left h]
theorem BI (k:IntKind) (σ:Aa) (vs:List Value) (T:TypeId) (rw:Bool) (o:Nat):Df k (σ++[.cells vs T rw]) σ.length o=(vs[o]?).bind (Md k):=by simp[Df,Af8]
theorem dx (k:IntKind) {σ:Aa} {b:Nat} (τ:Aa) (o:Nat) (h:b<σ.length):Df k (σ++τ) b o=Df k σ b o:=by simp[Df,Af7 τ o h]
theorem GD (k:IntKind) (σ τ:Aa) (vs:List Value) (T:TypeId) (rw:Bool) (o:Nat):Df k ((σ++[.cells vs T rw])++τ) σ.length o=(vs[o]?).bind (Md k):=by
 rw[dx k τ o (by simp),BI]
theorem Aj (k:IntKind) (n:Int):Md k (.int k n)=some n:=by simp[Md]
theorem Ar (b:Bool):Ey (.bool b)=some b:=rfl
theorem vA {α β:Type} (c:Bool) (x y:α) (s:β):(bif c then some (x,s) else some (y,s))=some (bif c then x else y,s):=by cases c <;> rfl
theorem tF (σ τ:Aa) (m:Option ρ):@Q8 Aw ρ σ (σ++τ) m=m:=by
 have h:@AA.q Aw σ (σ++τ)=true:=by
  unfold Aw
  simp only[decide_eq_true_eq]
  exact ⟨τ,rfl⟩
 unfold Q8; rw[h]; rfl
def lX (m:Option (Value × Aa)) (σ:Aa) (v:Value):Prop:=∃ τ,m=some (v,σ++τ)
noncomputable def lX.mem {m:Option (Value × Aa)} {σ:Aa} {v:Value} (h:lX m σ v):Aa:=Classical.choose h
theorem lX.eq {m:Option (Value × Aa)} {σ:Aa} {v:Value} (h:lX m σ v):m=some (v,σ++h.mem):=Classical.choose_spec h
def AU (n:Int):Prop:=-9223372036854775808≤n∧n<9223372036854775808
theorem Ak {n:Int} (h:AU n):Ce n=n:=IntWalk.i64_in n (by unfold AU at h; omega)
end Go.AX
end
section
namespace Go.AX
open Go
def okW (w:Nat):Prop:=w=1∨w=2∨w=4∨w=8
def Eb (w:Nat) (ws:List (BitVec 64)) (i:Nat):Nat:=((ws.getD (i*w/64) 0) >>> (i*w % 64)).toNat % 2 ^ w
def Ag8 (w:Nat) (x:BitVec 64) (s v:Nat):BitVec 64:=(x &&& ~~~ (BitVec.ofNat 64 (2 ^ w-1) <<< s)) ||| (BitVec.ofNat 64 v <<< s)
def GK (w:Nat) (ws:List (BitVec 64)) (i v:Nat):List (BitVec 64):=ws.set (i*w/64) (Ag8 w (ws.getD (i*w/64) 0) (i*w % 64) v)
theorem Hb (w ws i v):(GK w ws i v).length=ws.length:=by simp[GK]
theorem tz {w i:Nat} (h:okW w):i*w % 64+w≤64:=by rcases h with rfl | rfl | rfl | rfl <;> omega
theorem Aau {w i j:Nat} (h:okW w) (hij:i≠j) (hs:i*w/64=j*w/64):i*w % 64+w≤j*w % 64∨j*w % 64+w≤i*w % 64:=by
 rcases h with rfl | rfl | rfl | rfl <;> omega
theorem pT (w:Nat) (x:BitVec 64) (s t:Nat):((x >>> s).toNat % 2 ^ w).testBit t=(decide (t<w) && x.getLsbD (s+t)):=by
 rw[Nat.testBit_mod_two_pow]
 congr 1
 rw[← BitVec.getLsbD]
 simp[BitVec.getLsbD_ushiftRight]
theorem wy (w:Nat) (x:BitVec 64) (s v p:Nat) (hp:p<64):(Ag8 w x s v).getLsbD p=((x.getLsbD p && !(decide (s≤p) && decide (p-s<w))) || (decide (s≤p) && v.testBit (p-s))):=by
 unfold Ag8
 simp only[BitVec.getLsbD_or,BitVec.getLsbD_and,BitVec.getLsbD_not,BitVec.getLsbD_shiftLeft,BitVec.getLsbD_ofNat,Nat.testBit_two_pow_sub_one,hp,decide_true,Bool.true_and]
 have h2:p-s<64:=by omega
 by_cases h:s≤p
 ·have h1:¬ p<s:=by omega
  simp[h,h1,h2]
 ·have h1:p<s:=by omega
  simp[h,h1]
theorem Fm {w:Nat} {ws:List (BitVec 64)} {i v:Nat} (h:okW w) (hv:v<2 ^ w) (hi:i*w/64<ws.length):Eb w (GK w ws i v) i=v:=by
 have hf:=tz (i:=i) h
 apply Nat.eq_of_testBit_eq
 intro t
 unfold Eb GK
 rw[pT,List.getD_eq_getElem?_getD,List.getElem?_set_self (by simpa using hi),Option.getD_some]
 by_cases ht:t<w
 ·rw[wy _ _ _ _ _ (by omega)]
  have e:i*w % 64+t-i*w % 64=t:=by omega
  simp[ht,e]
 ·have:v.testBit t=false:=Nat.testBit_lt_two_pow (Nat.lt_of_lt_of_le hv (Nat.pow_le_pow_right (by decide) (by omega)))
  simp[ht,this]
theorem Ca {w:Nat} {ws:List (BitVec 64)} {i j v:Nat} (h:okW w) (hv:v<2 ^ w) (hij:i≠j):Eb w (GK w ws i v) j=Eb w ws j:=by
 have hf:=tz (i:=i) h
 have hf':=tz (i:=j) h
 unfold Eb GK
 by_cases hs:i*w/64=j*w/64
 ·by_cases hl:j*w/64<ws.length
  ·apply Nat.eq_of_testBit_eq
   intro t
   rw[pT,pT,hs,List.getD_eq_getElem?_getD,List.getElem?_set_self (by simpa using hl),Option.getD_some]
   by_cases ht:t<w
   ·rw[wy _ _ _ _ _ (by omega)]
    rcases Aau h hij hs with h1 | h1
    ·have e1:¬ (j*w % 64+t-i*w % 64<w):=by omega
     have e2:v.testBit (j*w % 64+t-i*w % 64)=false:=Nat.testBit_lt_two_pow (Nat.lt_of_lt_of_le hv (Nat.pow_le_pow_right (by decide) (by omega)))
     simp[e1,e2]
    ·have e1:¬ (i*w % 64≤j*w % 64+t):=by omega
     simp[e1]
   ·simp[ht]
  ·rw[List.set_eq_of_length_le (by rw[hs]; omega)]
 ·rw[List.getD_eq_getElem?_getD,List.getElem?_set_ne hs,← List.getD_eq_getElem?_getD]
theorem Ag0 (w ws i):Eb w ws i<2 ^ w:=Nat.mod_lt _ (Nat.two_pow_pos w)
theorem ZJ (w n i:Nat):Eb w (List.replicate n 0#64) i=0:=by
 unfold Eb
 have:(List.replicate n 0#64).getD (i*w/64) 0=0#64:=by
  rw[List.getD_eq_getElem?_getD,List.getElem?_replicate]
  split <;> rfl
 rw[this]; simp
theorem Ly (n:Int):(BitVec.ofInt 64 n).toNat=(n % 18446744073709551616).toNat:=by
 rw[BitVec.toNat_ofInt]; rfl
theorem Aat (n:Int):BitVec.ofInt 64 (Ce n)=BitVec.ofInt 64 n:=by
 apply BitVec.eq_of_toNat_eq
 rw[Ly,Ly,Ce,IntKind.wrap_i64]
 congr 1
 omega
theorem tY (n:Int):u64 n=n % 18446744073709551616:=by
 simp[u64,IntKind.wrap,IntKind.bits,IntKind.signed]
theorem ofInt_u64 (n:Int):BitVec.ofInt 64 (u64 n)=BitVec.ofInt 64 n:=by
 apply BitVec.eq_of_toNat_eq
 rw[Ly,Ly,tY]
 congr 1
 omega
theorem rQ (n:Nat):BitVec.ofInt 64 (n:Int)=BitVec.ofNat 64 n:=by
 apply BitVec.eq_of_toNat_eq
 rw[Ly,BitVec.toNat_ofNat]
 omega
theorem cr (x:BitVec 64):BitVec.ofInt 64 (x.toNat:Int)=x:=by
 rw[rQ,BitVec.ofNat_toNat,BitVec.setWidth_eq]
theorem Abo (x:BitVec 64):u64 (x.toNat:Int)=(x.toNat:Int):=by
 have:=x.isLt
 rw[tY]; omega
theorem jv {n:Nat} (h:n<9223372036854775808):Ce (n:Int)=(n:Int):=Ak (by unfold AU; omega)
theorem Aac (x:BitVec 64) (s:Nat) (hs:s<64):(x.toNat:Int).fdiv (2 ^ (min s 64))=((x >>> s).toNat:Int):=by
 rw[Nat.min_eq_left (by omega),Int.fdiv_eq_ediv_of_nonneg _ (Int.pow_nonneg (by decide)),BitVec.toNat_ushiftRight,Nat.shiftRight_eq_div_pow]
 norm_cast
theorem Adf (x:BitVec 64) (s w:Nat) (hs:s<64) (hw:okW w):
  Ce ((BitVec.ofInt 64 (Ce ((x.toNat:Int).fdiv (2 ^ (min s 64)))) &&& BitVec.ofInt 64 ((2 ^ w-1:Nat):Int)).toNat:Int)=(((x >>> s).toNat % 2 ^ w:Nat):Int):=by
 rw[Aac x s hs,Aat,cr,rQ,BitVec.toNat_and,BitVec.toNat_ofNat]
 have h1:(2 ^ w-1) % 2 ^ 64=2 ^ w-1:=by rcases hw with rfl | rfl | rfl | rfl <;> rfl
 rw[h1,Nat.and_two_pow_sub_one_eq_mod]
 have h2:(x >>> s).toNat % 2 ^ w<2 ^ w:=Nat.mod_lt _ (Nat.two_pow_pos w)
 have h3:2 ^ w≤256:=by rcases hw with rfl | rfl | rfl | rfl <;> decide
 exact jv (by omega)
theorem vZ (a s:Nat) (hs:s<64):BitVec.ofInt 64 (u64 ((u64 (a:Int))*2 ^ (min s 64)))=BitVec.ofNat 64 a <<< s:=by
 rw[ofInt_u64,Nat.min_eq_left (by omega)]
 apply BitVec.eq_of_toNat_eq
 rw[Ly,tY,BitVec.toNat_shiftLeft,BitVec.toNat_ofNat,Nat.shiftLeft_eq]
 have h64:((2 ^ 64:Nat):Int)=18446744073709551616:=by decide
 have:((a:Int) % 18446744073709551616*2 ^ s)=((a % 2 ^ 64*2 ^ s:Nat):Int):=by
  rw[Int.natCast_mul,Int.natCast_emod,h64,Int.natCast_pow]; rfl
 rw[this]
 generalize a % 2 ^ 64*2 ^ s=y
 omega
theorem Ad5 (x:BitVec 64) (s w v:Nat) (hs:s<64):
  u64 ((BitVec.ofInt 64 (u64 ((BitVec.ofInt 64 (x.toNat:Int) &&& ~~~ (BitVec.ofInt 64 (u64 ((u64 ((2 ^ w-1:Nat):Int))*2 ^ (min s 64))))).toNat:Int)) ||| BitVec.ofInt 64 (u64 ((u64 (v:Int))*2 ^ (min s 64)))).toNat:Int)=((Ag8 w x s v).toNat:Int):=by
 rw[vZ _ _ hs,vZ _ _ hs,Abo,ofInt_u64,cr,cr]
 rfl
def Yp (g:Nat→Nat) (e v:Nat) (i:Nat):Option Nat:=if h:i<e then (if g i=v then some i else Yp g e v (i+1)) else none
termination_by e-i
def Ym (g:Nat→Nat) (v:Nat):Nat→Option Nat
 | 0=>none
 | i+1=>if g i=v then some i else Ym g v i
theorem Z4 {g:Nat→Nat} {e v i j:Nat} (h:Yp g e v i=some j):i≤j∧j<e∧g j=v ∧ ∀ t,i≤t→t<j→g t≠v:=by
 unfold Yp at h
 split at h
 ·split at h
  ·cases h; exact ⟨Nat.le_refl _,by assumption,by assumption,fun t h1 h2=>by omega⟩
  ·rename_i hne
   obtain ⟨h1,h2,h3,h4⟩:=Z4 h
   refine ⟨by omega,h2,h3,fun t ht1 ht2=>?_⟩
   rcases Nat.eq_or_lt_of_le ht1 with rfl | ht
   ·exact hne
   ·exact h4 t ht ht2
 ·cases h
termination_by e-i
theorem Zz {g:Nat→Nat} {v:Nat}:∀ {i j:Nat},Ym g v i=some j→j<i∧g j=v ∧ ∀ t,j<t→t<i→g t≠v
 | 0,_,h=>by cases h
 | i+1,j,h=>by
   simp only[Ym] at h
   split at h
   ·cases h; exact ⟨by omega,by assumption,fun t h1 h2=>by omega⟩
   ·rename_i hne
    obtain ⟨h1,h2,h3⟩:=Zz h
    refine ⟨by omega,h2,fun t ht1 ht2=>?_⟩
    rcases Nat.lt_or_ge t i with ht | ht
    ·exact h3 t ht1 ht
    ·obtain rfl:t=i:=by omega
     exact hne
theorem oK {g:Nat→Nat} {v:Nat}:∀ {i:Nat},Ym g v i=none → ∀ t,t<i→g t≠v
 | 0,_,t,ht=>by omega
 | i+1,h,t,ht=>by
   simp only[Ym] at h
   split at h
   ·cases h
   ·rename_i hne
    rcases Nat.lt_or_ge t i with ht' | ht'
    ·exact oK h t ht'
    ·obtain rfl:t=i:=by omega
     exact hne
end Go.AX
end
section
namespace Go.Proofs.YtphkfdnecpacmaaGreat
open Go Go.AX
noncomputable local instance qCT:AA:=Aw
local instance nCT:Kn:=⟨true⟩
def rowOf (ws:List (BitVec 64)):List Value:=ws.map fun x=>.int .u64 (x.toNat:Int)
structure DT (σ:Aa) (tb wb e w:Nat) (ws:List (BitVec 64)):Prop where
 tab:σ[tb]?=some (.cells [.int .i64 (e:Int),.int .i64 (w:Int),.slice (some ⟨wb,0,none⟩) ws.length ws.length] Sy true)
 row:σ[wb]?=some (.cells (rowOf ws) Bt true)
 len:ws.length=(e*w+63)/64
 pos:0<e
 top:e≤4096
 okw:okW w
variable {σ:Aa} {tb wb e w:Nat} {ws:List (BitVec 64)}
theorem DT.ldE (h:DT σ tb wb e w ws):Df .i64 σ tb 0=some (e:Int):=by
 simp[Df,Gg,h.tab,Md]
theorem DT.ldW (h:DT σ tb wb e w ws):Df .i64 σ tb 1=some (w:Int):=by
 simp[Df,Gg,h.tab,Md]
theorem DT.ldR (h:DT σ tb wb e w ws):Hr σ tb 2=some (some ⟨wb,0,none⟩,ws.length,ws.length):=by
 simp[Hr,Gg,h.tab,H0]
theorem DT.ldX (h:DT σ tb wb e w ws) {j:Nat} (hj:j<ws.length):Df .u64 σ wb j=some ((ws.getD j 0).toNat:Int):=by
 simp[Df,Gg,h.row,rowOf,Md,List.getElem?_eq_getElem hj]
theorem DT.same {σ':Aa} (h:DT σ tb wb e w ws) (h1:σ'[tb]?=σ[tb]?) (h2:σ'[wb]?=σ[wb]?):DT σ' tb wb e w ws:=
 ⟨by rw[h1]; exact h.tab,by rw[h2]; exact h.row,h.len,h.pos,h.top,h.okw⟩
theorem Al {α:Type} {l:List α} {i:Nat} {x:α} (h:l[i]?=some x):i<l.length:=by
 rcases Nat.lt_or_ge i l.length with h' | h'
 ·exact h'
 ·rw[List.getElem?_eq_none h'] at h; cases h
theorem DT.lt (h:DT σ tb wb e w ws):tb<σ.length∧wb<σ.length:=by
 exact ⟨Al h.tab,Al h.row⟩
theorem DT.app (τ:Aa) (h:DT σ tb wb e w ws):DT (σ++τ) tb wb e w ws:=
 h.same (List.getElem?_append_left h.lt.1) (List.getElem?_append_left h.lt.2)
theorem iN (k:Nat) (h:DT σ tb wb e w ws):Bp (k+1) (some ⟨tb,0,none⟩) σ=some (.bool true,σ):=by
 have hp:=h.pos
 rw[SQ,LS]
 try simp only[sw,Ad,Af,Ae]
 simp only[ow,Option.bind_some,h.ldE,Nat.add_zero,Nat.zero_add,Option.isNone_some,Bool.not_false,cond_true]
 simp only[show decide ((e:Int)>0)=true from by simp; omega]
theorem wv (k:Nat) (h:DT σ tb wb e w ws) (i:Int):D6 (k+2) (some ⟨tb,0,none⟩) i σ=some (.bool (decide (0≤i∧i<(e:Int))),σ):=by
 rw[Rs,KM]
 try simp only[sw,Ad,Af,Ae]
 rw[iN _ h]
 simp only[Option.bind_some,Ar,cond_true,h.ldE,Nat.add_zero]
 by_cases h0:0≤i
 ·simp[h0]
 ·simp[h0]
theorem tw (k:Nat) (h:DT σ tb wb e w ws):Da (k+1) (some ⟨tb,0,none⟩) σ=some (.int .i64 ((2 ^ w-1:Nat):Int),σ):=by
 rw[SR,LU]
 try simp only[sw,Ad,Af,Ae]
 simp only[Option.bind_some,h.ldW,Nat.zero_add]
 rcases h.okw with rfl | rfl | rfl | rfl <;> rfl
theorem DT.fit (h:DT σ tb wb e w ws) {j:Nat} (hj:j<e):j*w/64<ws.length∧j*w<32768:=by
 have hl:=h.len; have ht:=h.top
 rcases h.okw with rfl | rfl | rfl | rfl <;> omega
theorem xn (k:Nat) (h:DT σ tb wb e w ws) {j:Nat} (hj:j<e):Dp (k+2) (some ⟨tb,0,none⟩) (j:Int) σ=some (.int .i64 (Eb w ws j:Int),σ):=by
 obtain ⟨h1,h2⟩:=h.fit hj
 have e1:Ce ((j:Int)*(w:Int))=((j*w:Nat):Int):=by rw[← Int.natCast_mul]; exact jv (by omega)
 have e2:((j*w:Nat):Int).tdiv 64=((j*w/64:Nat):Int):=rfl
 have e3:((j*w:Nat):Int).tmod 64=((j*w % 64:Nat):Int):=rfl
 have e4:Ce ((j*w/64:Nat):Int)=((j*w/64:Nat):Int):=jv (by omega)
 rw[TW,MO]
 try simp only[sw,Ad,Af,Ae]
 simp only[Option.bind_some,Nat.zero_add,h.ldW,h.ldR,e1,e2,e3,e4,Int.toNat_natCast,Nat.mul_one]
 rw[if_neg (by decide),if_pos (by omega)]
 simp only[h.ldX h1,Option.bind_some]
 rw[if_neg (by decide),if_neg (by omega)]
 simp only[Option.bind_some,tw _ h,Aj,Adf _ _ _ (Nat.mod_lt _ (by decide:0<64)) h.okw]
 rfl
theorem wB (k:Nat) (h:DT σ tb wb e w ws) (i:Int):CP (k+3) (some ⟨tb,0,none⟩) i σ=some (.int .i64 (if 0≤i∧i<(e:Int) then (Eb w ws i.toNat:Int) else -1),σ):=by
 rw[TT,MM]
 try simp only[sw,Ad,Af,Ae]
 rw[wv _ h]
 simp only[Option.bind_some,Ar]
 by_cases hi:0≤i∧i<(e:Int)
 ·obtain ⟨j,rfl⟩:∃ j:Nat,i=(j:Int):=⟨i.toNat,by omega⟩
  simp only[hi,decide_true,and_self,Bool.not_true,cond_false,if_true,xn _ h (show j<e by omega),Option.bind_some,Aj,Int.toNat_natCast]
 ·simp only[hi,decide_false,Bool.not_false,cond_true,if_false]
theorem Ad4 (k:Nat) (h:DT σ tb wb e w ws) {j v:Nat} (hj:j<e):EF (k+2) (some ⟨tb,0,none⟩) (j:Int) (v:Int) σ=some (.tuple #[],σ.set wb (.cells (rowOf (GK w ws j v)) Bt true)):=by
 obtain ⟨h1,h2⟩:=h.fit hj
 have hrow:=h.row
 have e1:Ce ((j:Int)*(w:Int))=((j*w:Nat):Int):=by rw[← Int.natCast_mul]; exact jv (by omega)
 have e2:((j*w:Nat):Int).tdiv 64=((j*w/64:Nat):Int):=rfl
 have e3:((j*w:Nat):Int).tmod 64=((j*w % 64:Nat):Int):=rfl
 have e4:Ce ((j*w/64:Nat):Int)=((j*w/64:Nat):Int):=jv (by omega)
 rw[TX,MP]
 try simp only[sw,Ad,Af,Ae]
 simp only[Option.bind_some,Nat.zero_add,h.ldW,h.ldR,e1,e2,e3,e4,Int.toNat_natCast,Nat.mul_one]
 rw[if_neg (by decide),if_pos (by omega)]
 simp only[h.ldX h1,Option.bind_some,tw _ h,Aj]
 rw[if_neg (by decide),if_neg (by omega),if_neg (by decide),if_neg (by omega),Ad5 _ _ _ _ (Nat.mod_lt _ (by decide:0<64))]
 simp only[Kx,hrow]
 rw[if_pos (by simpa [rowOf] using h1)]
 simp only[Option.bind_some,rowOf,GK,List.map_set]
theorem DT.put (h:DT σ tb wb e w ws) (hne:tb≠wb) (j v:Nat):DT (σ.set wb (.cells (rowOf (GK w ws j v)) Bt true)) tb wb e w (GK w ws j v) where
 tab:=by
  rw[List.getElem?_set_ne (Ne.symm hne),h.tab,Hb]
 row:=by rw[List.getElem?_set_self h.lt.2]
 len:=by rw[Hb]; exact h.len
 pos:=h.pos
 top:=h.top
 okw:=h.okw
theorem ni (k:Nat) (h:DT σ tb wb e w ws) (v:Nat):∀ (n j:Nat),e<n+j→0<n→D2 (k+2) n (some ⟨tb,0,none⟩) (v:Int) (j:Int) σ =
  some (match Yp (Eb w ws) e v j with | some i=>(.ret,[.int .i64 (i:Int),.int .i64 0],σ) | none=>(.exit 0,[],σ))
 | 0,j,hn,h0=>by omega
 | n+1,j,hn,h0=>by
   rw[PD,Jl]
   try simp only[sw,Ad,Af,Ae]
   rw[Yp]
   simp only[Option.bind_some,h.ldE,Nat.zero_add,Nat.add_zero]
   by_cases hj:j<e
   ·have ht:=h.top
    simp only[show decide ((j:Int)<(e:Int))=true from by simpa using hj,cond_true,xn _ h hj,Option.bind_some,Aj,hj,dif_pos]
    by_cases hv:Eb w ws j=v
    ·simp[hv]
    ·have hv':((Eb w ws j:Int) == (v:Int))=false:=by simp; omega
     have e1:Ce ((j:Int)+1)=((j+1:Nat):Int):=Ak (by unfold AU; omega)
     simp only[hv',cond_false,hv,if_false,e1]
     exact ni k h v n (j+1) (by omega) (by omega)
   ·simp only[show decide ((j:Int)<(e:Int))=false from by simpa using hj,cond_false,hj,dif_neg,not_false_iff]
theorem yr (k:Nat) (hk:5000≤k) (h:DT σ tb wb e w ws) (i:Int) (v:Nat) (hi:i<4294967296):CZ (k+3) (some ⟨tb,0,none⟩) i (v:Int) σ =
  some (match Yp (Eb w ws) e v i.toNat with | some j=>.tuple #[.int .i64 (j:Int),.int .i64 0] | none=>.tuple #[.int .i64 0,.int .i64 4],σ):=by
 have ht:=h.top
 have e0:(if (0:Int)>i then (0:Int) else i)=(i.toNat:Int):=by split <;> omega
 rw[SP,LR]
 try simp only[sw,Ad,Af,Ae]
 rw[iN _ h]
 simp only[Option.bind_some,Ar,Bool.not_true,cond_false,e0]
 rw[ni k h v (k+2) i.toNat (by omega) (by omega)]
 cases Yp (Eb w ws) e v i.toNat with
 | none=>simp
 | some j=>simp[jt]
theorem mY (k:Nat) (h:DT σ tb wb e w ws) (v:Nat):∀ (n j:Nat),j≤e→j<n→D0 (k+2) n (some ⟨tb,0,none⟩) (v:Int) ((j:Int)-1) σ =
  some (match Ym (Eb w ws) v j with | some i=>(.ret,[.int .i64 (i:Int),.int .i64 0],σ) | none=>(.exit 0,[],σ))
 | 0,j,hj,hn=>by omega
 | n+1,0,hj,hn=>by
   rw[Kl,GP]
   try simp only[sw,Ad,Af,Ae]
   rw[Ym]
   rfl
 | n+1,j+1,hj,hn=>by
   have ht:=h.top
   rw[Kl,GP]
   try simp only[sw,Ad,Af,Ae]
   rw[Ym]
   have e1:((j+1:Nat):Int)-1=(j:Int):=by omega
   simp only[e1,show decide ((j:Int)≥0)=true from by simp,cond_true,xn _ h (show j<e by omega),Option.bind_some,Aj]
   by_cases hv:Eb w ws j=v
   ·simp[hv]
   ·have hv':((Eb w ws j:Int) == (v:Int))=false:=by simp; omega
    have e2:Ce ((j:Int)-1)=(j:Int)-1:=Ak (by unfold AU; omega)
    simp only[hv',cond_false,hv,if_false,e2]
    exact mY k h v n j (by omega) (by omega)
theorem Ae6 (k:Nat) (hk:5000≤k) (h:DT σ tb wb e w ws) (i:Int) (v:Nat):FJ (k+3) (some ⟨tb,0,none⟩) i (v:Int) σ =
  some (match Ym (Eb w ws) v (min i.toNat e) with | some j=>.tuple #[.int .i64 (j:Int),.int .i64 0] | none=>.tuple #[.int .i64 0,.int .i64 4],σ):=by
 have ht:=h.top
 have e0:Ce ((if (e:Int)<(if (0:Int)>i then (0:Int) else i) then (e:Int) else (if (0:Int)>i then (0:Int) else i))-1)=((min i.toNat e:Nat):Int)-1:=by
  rw[Ak (by unfold AU; split <;> split <;> omega)]
  split <;> split <;> omega
 rw[SO,LQ]
 try simp only[sw,Ad,Af,Ae]
 rw[iN _ h]
 simp only[Option.bind_some,Ar,Bool.not_true,cond_false,Nat.zero_add,h.ldE,Nat.add_zero,e0]
 rw[mY k h v (k+2) (min i.toNat e) (Nat.min_le_right _ _) (by omega)]
 cases Ym (Eb w ws) v (min i.toNat e) with
 | none=>simp
 | some j=>simp[jt]
theorem Aex (k:Nat) (h:DT σ tb wb e w ws) (v:Int):Fv (k+2) (some ⟨tb,0,none⟩) v σ=some (.bool (decide (0≤v∧v≤((2 ^ w-1:Nat):Int))),σ):=by
 rw[Rt,KN]
 try simp only[sw,Ad,Af,Ae]
 by_cases h0:0≤v
 ·simp only[show decide (v≥0)=true from by simpa using h0,cond_true,tw _ h,Option.bind_some,Aj]
  simp[h0]
 ·simp only[show decide (v≥0)=false from by simpa using h0,cond_false,Option.bind_some]
  simp[h0]
theorem uP (k:Nat) (h:DT σ tb wb e w ws) (v:Int) (c:Nat) (hc:Lw σ c 0=some (some ⟨tb,0,none⟩)):C6 (k+3) v (some ⟨c,0,none⟩) σ=some (.bool (!decide (0≤v∧v≤((2 ^ w-1:Nat):Int))),σ):=by
 rw[NU,Iz]
 try simp only[sw,Ad,Af,Ae]
 simp only[Option.bind_some,hc,Aex _ h,Ar]
theorem uQ (k:Nat) (h:DT σ tb wb e w ws) (i v:Int) (vb:Nat) (hv:Df .i64 σ vb 0=some v) (hvb:vb<σ.length):∃ τ,D5 (k+8) (some ⟨tb,0,none⟩) i (some ⟨vb,0,none⟩,1,1) σ =
  some (.int .i64 (if (0≤i∧i<(e:Int))∧(0≤v∧v≤((2 ^ w-1:Nat):Int)) then 0 else 1),σ++τ):=by
 rw[Rr,KL]
 try simp only[sw,Ad,Af,Ae]
 simp only[AM]
 refine ⟨[.cells [.pointer (some ⟨tb,0,none⟩)] NY true], ?_⟩
 ·have e1:∀ T,Lw (σ++[.cells [.pointer (some ⟨tb,0,none⟩)] T true]) σ.length 0=some (some ⟨tb,0,none⟩):=by intro T; simp[Lw,Gg,Oe]
  have h1:=fun o=>h.app [o]
  have e2:∀ o,Df .i64 (σ++[o]) vb 0=some v:=by intro o; rw[dx _ _ _ hvb,hv]
  simp only[e1,Option.bind_some,iN _ (h1 _),wv _ (h1 _),Ar,Bool.not_true,cond_false]
  by_cases hi:0≤i∧i<(e:Int)
  ·simp only[hi,decide_true,and_self,true_and,Bool.not_true,cond_false]
   rw[Ho,EM]
   try simp only[sw,Ad,Af,Ae]
   rw[IH,FE]
   try simp only[sw,Ad,Af,Ae]
   rw[DD,CH]
   try simp only[sw,Ad,Af,Ae]
   simp only[show decide ((0:Int)<((1:Nat):Int))=true from rfl,cond_true,show ((0:Int)≤0∧(0:Int)<((1:Nat):Int))=True from by simp,if_true,Option.bind_some,Int.toNat_zero,Nat.zero_mul,Nat.add_zero,e2]
   simp only[SA,if_true,uP _ (h1 _) v σ.length (e1 _),Option.bind_some,Ar]
   by_cases hv2:0≤v∧v≤((2 ^ w-1:Nat):Int)
   ·simp only[hv2,decide_true,and_self,Bool.not_true,cond_false,if_true]
    rw[DD,CH]
    try simp only[sw,Ad,Af,Ae]
    rfl
   ·simp only[hv2,decide_false,Bool.not_false,cond_true,if_false]
    rfl
  ·simp only[hi,decide_false,Bool.not_false,cond_true,false_and,if_false,Option.bind_some]
theorem nF (k:Nat) (h:DT σ tb wb e w ws) {j v:Nat} (hj:j<e) (hv:v<2 ^ w):∃ τ,Br (k+9) (some ⟨tb,0,none⟩) (j:Int) (v:Int) σ =
  some (.int .i64 0,(σ++τ).set wb (.cells (rowOf (GK w ws j v)) Bt true)):=by
 have h1:=h.app [.cells [.int .i64 (v:Int)] As true]
 obtain ⟨τ,hc⟩:=uQ k h1 (j:Int) (v:Int) σ.length (by simp[Df,Gg,Md]) (by simp)
 refine ⟨[.cells [.int .i64 (v:Int)] As true]++τ, ?_⟩
 rw[TU,MN]
 try simp only[sw,Ad,Af,Ae]
 simp only[AM]
 rw[hc,if_pos (by have:=Nat.two_pow_pos w; omega)]
 simp only[Option.bind_some,Aj]
 rw[Ad4 (k+6) (h1.app τ) hj]
 simp only[bne_self_eq_false,cond_false,Option.bind_some,Mt,List.append_assoc]
end Go.Proofs.YtphkfdnecpacmaaGreat
end
section
namespace Go.Proofs.YtphkfdnecpacmaaGreat
open Go Go.AX
noncomputable local instance qHV:AA:=Aw
local instance nHV:Kn:=⟨true⟩
def valid (a b c:Int):Bool:=decide (0≤a∧a≤15∧0≤b∧b≤200∧0≤c∧c≤3∧(c=1→1≤a)∧(c=2→2≤a))
def words (a b c:Int):Int:=bif valid a b c then (2+a+b+1)/2*2 else 0
theorem eU (k:Nat) (a b c:Int) (σ:Aa):lX (EA (k+1) a b c σ) σ (.bool (valid a b c)):=by
 simp only[lX,ZM,Uu,AM,BI,Nat.zero_add,List.getElem?_cons_zero,List.getElem?_cons_succ,Option.bind_some,Aj,vA,sw,Ad,Af,Ae]
 refine ⟨_,congrArg some (Prod.ext ?_ rfl)⟩
 refine congrArg Value.bool ?_
 unfold valid
 rw[Bool.eq_iff_iff]
 simp[Bool.cond_eq_ite]
 omega
theorem eX (k:Nat) (a b c:Int) (σ:Aa):lX (FG (k+2) a b c σ) σ (.int .i64 (words a b c)):=by
 unfold lX
 rw[ZN,Uv]
 try simp only[sw,Ad,Af,Ae]
 simp only[AM,BI,Nat.zero_add,List.getElem?_cons_zero,List.getElem?_cons_succ,Option.bind_some,Aj]
 rw[(eU _ _ _ _ _).eq]
 simp only[Option.bind_some,Ar,GD,List.getElem?_cons_zero,List.getElem?_cons_succ,Aj]
 unfold words
 rcases Bool.eq_false_or_eq_true (valid a b c) with hv | hv
 rotate_left
 ·simp only[hv,Bool.not_false,cond_true,cond_false,List.append_assoc]
  exact ⟨_,rfl⟩
 ·simp only[hv,Bool.not_true,cond_true,cond_false,List.append_assoc]
  simp[valid] at hv
  simp only[show ((2:Int)=0)=False from by simp,if_false]
  refine ⟨_,congrArg some (Prod.ext (congrArg (Value.int .i64) ?_) rfl)⟩
  have hi:=hv
  simp only[Ce]
  have e1:IntKind.i64.wrap (2+a)=2+a:=by rw[IntKind.wrap_i64]; omega
  have e2:IntKind.i64.wrap (2+a+b)=2+a+b:=by rw[IntKind.wrap_i64]; omega
  have e3:IntKind.i64.wrap (2+a+b+1)=2+a+b+1:=by rw[IntKind.wrap_i64]; omega
  rw[e1,e2,e3,Int.tdiv_eq_ediv_of_nonneg (by omega),IntKind.wrap_i64,IntKind.wrap_i64]
  omega
end Go.Proofs.YtphkfdnecpacmaaGreat
end
section
namespace Go.Proofs.YtphkfdnecpacmaaGreat
open Go Go.AX
noncomputable local instance qCH:AA:=Aw
local instance nCH:Kn:=⟨true⟩
structure DB where
 hb:Nat
 bl:Nat
 wd:Nat
 st:Nat
 sw:Nat
 pn:Nat
 pw:Nat
 pl:Nat
 fw:Nat
def DB.l (i:DB):List Nat:=[i.hb,i.bl,i.wd,i.st,i.sw,i.pn,i.pw,i.pl,i.fw]
structure HM where
 bls:List (Int × Int)
 wds:List Int
 stw:List (BitVec 64)
 pnw:List (BitVec 64)
 pl:List (Int × Int)
 fw:List (Int × Int)
 births:Int
def Dc:List (Int × Int)→List Value
 | []=>[]
 | b::l=>.int .i64 b.1 :: .int .i64 b.2::Dc l
def Bm (l:List Int):List Value:=l.map fun n=>.int .i64 n
def ZX (l:List (Int × Int)):List (Int × Value):=l.map fun p=>(p.1,.int .i64 p.2)
structure An (σ:Aa) (i:DB) (m:HM):Prop where
 hp:σ[i.hb]?=some (.cells [.slice (some ⟨i.bl,0,none⟩) m.bls.length m.bls.length,.slice (some ⟨i.wd,0,none⟩) m.wds.length m.wds.length,.pointer (some ⟨i.st,0,none⟩),.pointer (some ⟨i.pn,0,none⟩),.map (some i.pl),.map (some i.fw),.int .i64 m.births] FP true)
 bl:σ[i.bl]?=some (.cells (Dc m.bls) Gb true)
 wd:σ[i.wd]?=some (.cells (Bm m.wds) D7 true)
 st:DT σ i.st i.sw (32*m.bls.length) 1 m.stw
 pn:DT σ i.pn i.pw (32*m.bls.length) 1 m.pnw
 pl:σ[i.pl]?=some (.map (ZX m.pl))
 fw:σ[i.fw]?=some (.map (ZX m.fw))
 nb:2≤m.bls.length
 nt:m.bls.length≤64
 wl:m.wds.length=64*m.bls.length
 nd:i.l.Nodup
 wi:∀ a,AU (m.wds.getD a 0)
structure Bu (i:DB) (σ σ':Aa):Prop where
 len:σ.length≤σ'.length
 same:∀ j,j<σ.length→j ∉ i.l→σ'[j]?=σ[j]?
theorem Bu.refl (i:DB) (σ:Aa):Bu i σ σ:=⟨Nat.le_refl _,fun _ _ _=>rfl⟩
theorem Bu.trans {i:DB} {a b c:Aa} (h:Bu i a b) (g:Bu i b c):Bu i a c:=
 ⟨Nat.le_trans h.len g.len,fun j h1 h2=>(g.same j (Nat.lt_of_lt_of_le h1 h.len) h2).trans (h.same j h1 h2)⟩
theorem Bu.app (i:DB) (σ τ:Aa):Bu i σ (σ++τ):=⟨by simp,fun j h _=>List.getElem?_append_left h⟩
theorem Bu.set {i:DB} {b:Nat} (σ:Aa) (o:A6) (h:b ∈ i.l):Bu i σ (σ.set b o):=
 ⟨by simp,fun j _ h2=>List.getElem?_set_ne (fun e=>h2 (by rw[← e]; exact h))⟩
variable {σ:Aa} {i:DB} {m:HM}
theorem An.lt (h:An σ i m):∀ j ∈ i.l,j<σ.length:=by
 intro j hj
 simp only[DB.l,List.mem_cons,List.not_mem_nil,or_false] at hj
 rcases hj with rfl | rfl | rfl | rfl | rfl | rfl | rfl | rfl | rfl
 ·exact Al h.hp
 ·exact Al h.bl
 ·exact Al h.wd
 ·exact h.st.lt.1
 ·exact h.st.lt.2
 ·exact h.pn.lt.1
 ·exact h.pn.lt.2
 ·exact Al h.pl
 ·exact Al h.fw
theorem An.AF {σ':Aa} (h:An σ i m) (hs:∀ j ∈ i.l,σ'[j]?=σ[j]?):An σ' i m where
 hp:=by rw[hs _ (by simp[DB.l])]; exact h.hp
 bl:=by rw[hs _ (by simp[DB.l])]; exact h.bl
 wd:=by rw[hs _ (by simp[DB.l])]; exact h.wd
 st:=h.st.same (hs _ (by simp[DB.l])) (hs _ (by simp[DB.l]))
 pn:=h.pn.same (hs _ (by simp[DB.l])) (hs _ (by simp[DB.l]))
 pl:=by rw[hs _ (by simp[DB.l])]; exact h.pl
 fw:=by rw[hs _ (by simp[DB.l])]; exact h.fw
 nb:=h.nb
 nt:=h.nt
 wl:=h.wl
 nd:=h.nd
 wi:=h.wi
theorem An.app (τ:Aa) (h:An σ i m):An (σ++τ) i m:=h.AF fun j hj=>List.getElem?_append_left (h.lt j hj)
theorem An.Kw (h:An σ i m):Hr σ i.hb 0=some (some ⟨i.bl,0,none⟩,m.bls.length,m.bls.length):=by simp[Hr,Gg,h.hp,H0]
theorem An.GC (h:An σ i m):Hr σ i.hb 1=some (some ⟨i.wd,0,none⟩,m.wds.length,m.wds.length):=by simp[Hr,Gg,h.hp,H0]
theorem An.kc (h:An σ i m):Lw σ i.hb 2=some (some ⟨i.st,0,none⟩):=by simp[Lw,Gg,h.hp,Oe]
theorem An.uc (h:An σ i m):Lw σ i.hb 3=some (some ⟨i.pn,0,none⟩):=by simp[Lw,Gg,h.hp,Oe]
theorem An.ld4 (h:An σ i m):ldM σ i.hb 4=some (some i.pl):=by simp[ldM,Gg,h.hp,ud]
theorem An.ld5 (h:An σ i m):ldM σ i.hb 5=some (some i.fw):=by simp[ldM,Gg,h.hp,ud]
theorem An.ld6 (h:An σ i m):Df .i64 σ i.hb 6=some m.births:=by simp[Df,Gg,h.hp,Md]
theorem An.ldW (h:An σ i m) {a:Nat} (ha:a<m.wds.length):Df .i64 σ i.wd a=some (m.wds.getD a 0):=by
 simp[Df,Gg,h.wd,Bm,Md,List.getElem?_eq_getElem ha]
theorem KP:∀ l:List (Int × Int),(Dc l).length=2*l.length
 | []=>rfl
 | b::l=>by simp[Dc,KP l]; omega
theorem di:∀ (l:List (Int × Int)) (b:Nat),b<l.length→(Dc l)[2*b]?=some (.int .i64 (l.getD b (0,0)).1)∧(Dc l)[2*b+1]?=some (.int .i64 (l.getD b (0,0)).2)
 | [],b,h=>by simp at h
 | x::l,0,h=>by simp[Dc]
 | x::l,b+1,h=>by
   have:=di l b (by simpa using h)
   have e1:2*(b+1)=2*b+1+1:=by omega
   simp only[Dc,e1,List.getElem?_cons_succ,List.getD_cons_succ]
   exact this
theorem An.lk (h:An σ i m) {b:Nat} (hb:b<m.bls.length):Df .i64 σ i.bl (b*2)=some (m.bls.getD b (0,0)).1∧Df .i64 σ i.bl (b*2+1)=some (m.bls.getD b (0,0)).2:=by
 obtain ⟨h1,h2⟩:=di m.bls b hb
 rw[Nat.mul_comm] at h1 h2
 simp[Df,Gg,h.bl,Md,h1,h2]
abbrev AV (i:DB):Option Addr:=some ⟨i.hb,0,none⟩
theorem Ln (k:Nat) (h:An σ i m):A7 (k+1) (AV i) σ=some (.bool true,σ):=by
 have:=h.nb
 rw[TN,MG]
 try simp only[sw,Ad,Af,Ae]
 simp only[ow,Option.bind_some,Bool.not_false,cond_true,Nat.zero_add,Nat.add_zero,h.Kw]
 simp only[show decide (((m.bls.length:Nat):Int)>0)=true from by simp; omega]
theorem zs (k:Nat) (h:An σ i m):Gu (k+2) (AV i) σ=some (.int .i64 m.births,σ):=by
 rw[ay,OH]
 try simp only[sw,Ad,Af,Ae]
 rw[Ln _ h]
 simp only[Option.bind_some,Ar,Bool.not_true,cond_false,Nat.zero_add,h.ld6]
def Start (m:HM) (j:Nat):Prop:=j<32*m.bls.length∧Eb 1 m.stw j=1
instance (m:HM) (j:Nat):Decidable (Start m j):=inferInstanceAs (Decidable (_∧_))
def DZ (m:HM) (a:Int):Bool:=decide (0≤a∧a.toNat % 2=0∧Start m (a.toNat/2))
theorem fF (k:Nat) (h:An σ i m) (a:Int) (ha:AU a):AH (k+4) (AV i) a σ=some (.bool (DZ m a),σ):=by
 rw[Vh,Oi]
 try simp only[sw,Ad,Af,Ae]
 rw[Ln _ h]
 simp only[Option.bind_some,Ar,cond_true]
 unfold DZ
 by_cases h0:0≤a
 ·obtain ⟨n,rfl⟩:∃ n:Nat,a=(n:Int):=⟨a.toNat,by omega⟩
  simp only[show decide ((n:Int)≥0)=true from by simp,cond_true]
  rw[if_neg (by decide)]
  simp only[Option.bind_some]
  have t1:(n:Int).tmod 2=((n % 2:Nat):Int):=rfl
  have t2:(n:Int).tdiv 2=((n/2:Nat):Int):=rfl
  rw[t1,t2]
  by_cases h1:n % 2=0
  ·have e1:(((n % 2:Nat):Int) == 0)=true:=by simp; omega
   simp only[e1,cond_true,Nat.zero_add,h.kc,Option.bind_some]
   have e2:Ce ((n/2:Nat):Int)=((n/2:Nat):Int):=Ak (by unfold AU at *; omega)
   rw[if_neg (by decide)]
   simp only[e2,wB _ h.st,Option.bind_some,Aj]
   congr 3
   by_cases h2:n/2<32*m.bls.length
   ·rw[if_pos (by omega)]
    simp[Start,h1,h2]
    rw[Bool.eq_iff_iff]; simp
    rw[show ((n:Int)/2).toNat=n/2 from by omega]; omega
   ·rw[if_neg (by omega)]
    simp[Start,h2]
  ·have e1:(((n % 2:Nat):Int) == 0)=false:=by simp; omega
   simp only[e1,cond_false,Option.bind_some]
   simp[h1]
 ·simp[show decide (a≥0)=false from by simpa using h0,h0]
theorem Ej {a:Int} (h:DZ m a=true):∃ j,a=((2*j:Nat):Int)∧Start m j:=by
 unfold DZ at h
 rw[decide_eq_true_eq] at h
 exact ⟨a.toNat/2,by omega,h.2.2⟩
theorem du {j:Nat} (h:Start m j):DZ m ((2*j:Nat):Int)=true:=by
 unfold DZ
 rw[decide_eq_true_eq]
 refine ⟨by omega,by omega, ?_⟩
 rw[show (((2*j:Nat):Int)).toNat/2=j from by omega]; exact h
theorem UH (k:Nat) (h:An σ i m) (a:Int) (ha:AU a):Bd (k+5) (AV i) a σ=some (.int .i64 (if DZ m a then 0 else 4),σ):=by
 rw[Rp,KF]
 try simp only[sw,Ad,Af,Ae]
 rw[Ln _ h]
 simp only[Option.bind_some,Ar,Bool.not_true,cond_false,fF _ h a ha]
 cases DZ m a <;> rfl
def X3 (n:Int):Nat:=(words (n.tmod 16) ((n.tmod 4096).tdiv 16) (n.tdiv 4096)).toNat
def sz (m:HM) (j:Nat):Nat:=X3 (m.wds.getD (2*j+1) 0)
theorem UF (a b c:Int):0≤words a b c∧words a b c≤218:=by
 unfold words
 cases hv:valid a b c with
 | false=>simp
 | true=>
   simp[valid] at hv
   simp only[cond_true]
   omega
theorem pL (n:Int):X3 n≤218:=by
 have:=UF (n.tmod 16) ((n.tmod 4096).tdiv 16) (n.tdiv 4096)
 unfold X3; omega
theorem tX (n:Int):(X3 n:Int)=words (n.tmod 16) ((n.tmod 4096).tdiv 16) (n.tdiv 4096):=by
 have:=UF (n.tmod 16) ((n.tmod 4096).tdiv 16) (n.tdiv 4096)
 unfold X3; omega
theorem pB (k:Nat) (n:Int) (hn:AU n) (σ:Aa):∃ τ,FH (k+1) n σ=some (.agg #[.int .i64 (n.tmod 16),.int .i64 ((n.tmod 4096).tdiv 16),.int .i64 (n.tdiv 4096)],σ++τ):=by
 rw[ZO,Uw]
 try simp only[sw,Ad,Af,Ae]
 simp only[AM]
 have e1:Ce ((n.tmod 4096).tdiv 16)=(n.tmod 4096).tdiv 16:=Ak (by unfold AU at *; have:=Int.tmod_lt_of_pos n (show (0:Int)<4096 by decide); have h2:=Int.lt_tmod_of_pos n (show (0:Int)<4096 by decide); rw[show (n.tmod 4096).tdiv 16=(n.tmod 4096).tdiv 16 from rfl]; have:=Int.natAbs_tdiv_le_natAbs (n.tmod 4096) 16; omega)
 have e2:Ce (n.tdiv 4096)=n.tdiv 4096:=Ak (by unfold AU at *; have h3:(n.tdiv 4096).natAbs=n.natAbs/4096:=Int.natAbs_tdiv n 4096; omega)
 rw[if_neg (by decide),if_neg (by decide),if_neg (by decide),if_neg (by decide),e1,e2]
 simp[X5,Z1,AK,NZ]
theorem zi (k:Nat) (h:An σ i m) {j:Nat} (hj:j<32*m.bls.length):∃ τ,BP (k+3) (AV i) ((2*j:Nat):Int) σ=some (.int .i64 (sz m j:Int),σ++τ):=by
 have hw:=h.wl
 have ht:=h.nt
 have hn:=h.wi (2*j+1)
 obtain ⟨τ,hs⟩:=pB (k+1) (m.wds.getD (2*j+1) 0) hn σ
 obtain ⟨τ',hq⟩:=eX k ((m.wds.getD (2*j+1) 0).tmod 16) (((m.wds.getD (2*j+1) 0).tmod 4096).tdiv 16) ((m.wds.getD (2*j+1) 0).tdiv 4096) (σ++τ)
 refine ⟨τ++τ', ?_⟩
 have e1:Ce (((2*j:Nat):Int)+1)=((2*j+1:Nat):Int):=Ak (by unfold AU; omega)
 rw[TO,MH]
 try simp only[sw,Ad,Af,Ae]
 simp only[Option.bind_some,Nat.zero_add,h.GC,e1,Int.toNat_natCast,Nat.mul_one]
 rw[if_pos (by omega)]
 simp only[Option.bind_some,h.ldW (show 2*j+1<m.wds.length by omega),hs,Li,hq,Aj,List.append_assoc]
 unfold sz
 rw[tX]
def oA (m:HM) (n:Nat):Option Nat:=
 match Ym (Eb 1 m.stw) 1 (min (n/2+1) (32*m.bls.length)) with
 | none=>none
 | some j=>if 2*j+sz m j≤n then none else some j
def Yc (m:HM) (a:Int):Option Nat:=if 0≤a∧a<(m.wds.length:Int) then oA m a.toNat else none
theorem Ae4 (k:Nat) (hk:5000≤k) (h:An σ i m) (a:Int):∃ τ,Gv (k+10) (AV i) a σ =
  some (match Yc m a with | some j=>.tuple #[.int .i64 ((2*j:Nat):Int),.int .i64 0] | none=>.tuple #[.int .i64 0,.int .i64 4],σ++τ):=by
 have hw:=h.wl
 have ht:=h.nt
 rw[TJ,MC]
 try simp only[sw,Ad,Af,Ae]
 simp only[Ln _ h,Option.bind_some,Ar,Bool.not_true,cond_false]
 by_cases h0:0≤a
 rotate_left
 ·refine ⟨[], ?_⟩
  have:¬ (0≤a∧a<(m.wds.length:Int)):=by omega
  simp only[show decide (a<0)=true from by simp; omega,cond_true,Option.bind_some,Yc,this,if_false,List.append_nil]
 simp only[show decide (a<0)=false from by simp; omega,cond_false,Nat.zero_add,h.GC,Option.bind_some]
 by_cases h1:a<(m.wds.length:Int)
 rotate_left
 ·refine ⟨[], ?_⟩
  have:¬ (0≤a∧a<(m.wds.length:Int)):=by omega
  simp only[show decide (a≥((m.wds.length:Nat):Int))=true from by simp; omega,cond_true,Yc,this,if_false,List.append_nil]
 obtain ⟨n,rfl⟩:∃ n:Nat,a=(n:Int):=⟨a.toNat,by omega⟩
 have t2:(n:Int).tdiv 2=((n/2:Nat):Int):=rfl
 have e1:Ce ((n/2:Nat):Int)=((n/2:Nat):Int):=Ak (by unfold AU; omega)
 have e2:Ce (((n/2:Nat):Int)+1)=((n/2+1:Nat):Int):=Ak (by unfold AU; omega)
 simp only[show decide ((n:Int)≥((m.wds.length:Nat):Int))=false from by simp; omega,cond_false,h.kc,Option.bind_some,t2,e1,e2]
 rw[if_neg (by decide)]
 have hl:=Ae6 (k+6) (by omega) h.st ((n/2+1:Nat):Int) 1
 rw[show ((1:Nat):Int)=1 from rfl,Int.toNat_natCast] at hl
 rw[hl]
 simp only[Yc,oA,show (0≤(n:Int)∧(n:Int)<(m.wds.length:Int)) from ⟨h0,h1⟩,and_self,if_true,Int.toNat_natCast,Option.bind_some]
 cases hq:Ym (Eb 1 m.stw) 1 (min (n/2+1) (32*m.bls.length)) with
 | none=>
   refine ⟨[], ?_⟩
   simp[Fq]
 | some j=>
   obtain ⟨q1,q2,_⟩:=Zz hq
   obtain ⟨τ,hs⟩:=zi (k+6) h (show j<32*m.bls.length by omega)
   refine ⟨τ, ?_⟩
   have e3:Ce (2*(j:Int))=((2*j:Nat):Int):=Ak (by unfold AU; omega)
   have hz:=pL (m.wds.getD (2*j+1) 0)
   have e4:Ce (((2*j:Nat):Int)+(sz m j:Int))=((2*j+sz m j:Nat):Int):=Ak (by unfold AU; unfold sz; omega)
   simp only[Fq,bne_self_eq_false,cond_false,e3,hs,Option.bind_some,Aj,e4]
   by_cases hc:2*j+sz m j≤n
   ·simp only[show decide ((n:Int)≥((2*j+sz m j:Nat):Int))=true from by simp; omega,cond_true,hc,if_true]
   ·simp only[show decide ((n:Int)≥((2*j+sz m j:Nat):Int))=false from by simp; omega,cond_false,hc,if_false]
def getM (l:List (Int × Int)) (k:Int):Option Int:=(l.find? fun e=>k == e.1).map (·.2)
theorem Abu (k:Nat) (h:An σ i m) (a:Int) (ha:AU a):FF (k+6) (AV i) a σ=some (if DZ m a then .tuple #[.int .i64 (m.wds.getD a.toNat 0),.int .i64 0] else .tuple #[.int .i64 0,.int .i64 4],σ):=by
 have hw:=h.wl
 rw[bH,Qb]
 try simp only[sw,Ad,Af,Ae]
 simp only[UH _ h a ha,Option.bind_some,Aj]
 cases hh:DZ m a with
 | false=>rfl
 | true=>
   obtain ⟨j,rfl,hj,_⟩:=Ej hh
   have hl:((2*j:Nat):Int).toNat<m.wds.length:=by omega
   simp only[if_true,bne_self_eq_false,cond_false,Nat.zero_add,h.GC,Option.bind_some]
   rw[if_pos (by omega)]
   simp only[Option.bind_some,Nat.mul_one,Nat.zero_add,h.ldW hl]
def Lr (m:HM) (b:Nat):Nat→Nat→Nat
 | 0,n=>n
 | f+1,n=>if (m.bls.getD b (0,0)).1=2∧b+n<m.bls.length∧(m.bls.getD (b+n) (0,0)).1=3 then Lr m b f (n+1) else n
theorem xS (k:Nat) (h:An σ i m) {b:Nat} (hb:b<m.bls.length):∀ (f n:Nat),m.bls.length≤b+n+f→n≤m.bls.length→DM k (f+1) (AV i) (b:Int) (n:Int) σ=some (.exit 0,[.int .i64 (Lr m b f n:Int)],σ):=by
 intro f
 have ht:=h.nt
 induction f with
 | zero=>
   intro n hn hn2
   rw[KT,Hw]
   try simp only[sw,Ad,Af,Ae]
   simp only[Option.bind_some,Nat.zero_add,Nat.add_zero,h.Kw,Int.toNat_natCast]
   rw[if_pos (by omega)]
   have e1:Ce ((b:Int)+(n:Int))=((b+n:Nat):Int):=Ak (by unfold AU; omega)
   simp only[Option.bind_some,(h.lk hb).1,e1,Lr]
   by_cases h2:(m.bls.getD b (0,0)).1=2
   ·have q2:((m.bls.getD b (0,0)).1 == 2)=true:=by simpa using h2
    have q3:decide (((b+n:Nat):Int)<((m.bls.length:Nat):Int))=false:=by simp; omega
    simp only[q2,cond_true,q3,cond_false,Option.bind_some]
   ·have:((m.bls.getD b (0,0)).1 == 2)=false:=by simpa using h2
    simp only[this,cond_false,Option.bind_some]
 | succ f ih=>
   intro n hn hn2
   rw[KT,Hw]
   try simp only[sw,Ad,Af,Ae]
   simp only[Option.bind_some,Nat.zero_add,Nat.add_zero,h.Kw,Int.toNat_natCast]
   rw[if_pos (by omega)]
   have e1:Ce ((b:Int)+(n:Int))=((b+n:Nat):Int):=Ak (by unfold AU; omega)
   have e2:Ce ((n:Int)+1)=((n+1:Nat):Int):=Ak (by unfold AU; omega)
   simp only[Option.bind_some,(h.lk hb).1,e1,e2,Int.toNat_natCast]
   by_cases h2:(m.bls.getD b (0,0)).1=2
   ·have q2:((m.bls.getD b (0,0)).1 == 2)=true:=by simpa using h2
    simp only[q2,cond_true,Option.bind_some]
    by_cases h3:b+n<m.bls.length
    ·simp only[show decide (((b+n:Nat):Int)<((m.bls.length:Nat):Int))=true from by simp; omega,cond_true,Option.bind_some,h.Kw]
     rw[if_pos (by omega)]
     simp only[Option.bind_some,Nat.zero_add,Nat.add_zero,(h.lk h3).1]
     by_cases h4:(m.bls.getD (b+n) (0,0)).1=3
     ·have q4:((m.bls.getD (b+n) (0,0)).1 == 3)=true:=by simpa using h4
      simp only[q4,cond_true,Option.bind_some]
      rw[Lr,if_pos ⟨h2,h3,h4⟩]
      exact ih (n+1) (by omega) (by omega)
     ·have q4:((m.bls.getD (b+n) (0,0)).1 == 3)=false:=by simpa using h4
      simp only[q4,cond_false,Option.bind_some]
      rw[Lr,if_neg (by rintro ⟨_,_,h⟩; exact h4 h)]
    ·simp only[show decide (((b+n:Nat):Int)<((m.bls.length:Nat):Int))=false from by simp; omega,cond_false,Option.bind_some]
     rw[Lr,if_neg (by rintro ⟨_,h,_⟩; exact h3 h)]
   ·have q2:((m.bls.getD b (0,0)).1 == 2)=false:=by simpa using h2
    simp only[q2,cond_false,Option.bind_some]
    rw[Lr,if_neg (by rintro ⟨h,_⟩; exact h2 h)]
theorem gM (m:HM) (b:Nat):∀ (f g n:Nat),m.bls.length≤b+n+f→m.bls.length≤b+n+g→Lr m b f n=Lr m b g n
 | 0,0,n,_,_=>rfl
 | 0,g+1,n,h1,h2=>by
   rw[Lr,Lr,if_neg (by rintro ⟨_,h,_⟩; omega)]
 | f+1,0,n,h1,h2=>by
   rw[Lr,Lr,if_neg (by rintro ⟨_,h,_⟩; omega)]
 | f+1,g+1,n,h1,h2=>by
   rw[Lr,Lr]
   split
   ·exact gM m b f g (n+1) (by omega) (by omega)
   ·rfl
def Od (m:HM) (b:Nat):Nat:=Lr m b m.bls.length 1
theorem zj (k:Nat) (hk:100≤k) (h:An σ i m) {b:Nat} (hb:b<m.bls.length):E9 (k+1) (AV i) (b:Int) σ=some (.int .i64 (Od m b:Int),σ):=by
 have ht:=h.nt
 have hn:=h.nb
 rw[TP,MI]
 try simp only[sw,Ad,Af,Ae]
 have:=xS k h hb (k-1) 1 (by omega) (by omega)
 rw[show k-1+1=k from by omega] at this
 rw[show (1:Int)=((1:Nat):Int) from rfl,this]
 simp only[Option.bind_some,if_true,FQ]
 unfold Od
 rw[gM m b (k-1) m.bls.length 1 (by omega) (by omega)]
def PT (m:HM) (hi:Nat) (but:Int):Nat→Nat→Bool
 | 0,_=>true
 | f+1,x=>if x<hi then (match Yc m (x:Int) with
   | some o=>if ((2*o:Nat):Int)=but then PT m hi but f (x+2) else false
   | none=>PT m hi but f (x+2)) else true
theorem xj (k:Nat) (hk:5000≤k) (h:An σ i m) (a wo:Nat) (but:Int) (ha:a<4096) (hwo:wo≤218):∀ (f x:Nat) (τ:Aa),a+wo≤x+2*f→x≤5000 →
  ∃ τ',Dl (k+10) (f+1) (AV i) (a:Int) (wo:Int) but (x:Int) (σ++τ)=some (if PT m (a+wo) but f x then (.exit 0,[],σ++τ') else (.ret,[.int .i64 8],σ++τ')):=by
 intro f
 have e1:Ce ((a:Int)+(wo:Int))=((a+wo:Nat):Int):=Ak (by unfold AU; omega)
 induction f with
 | zero=>
   intro x τ h1 h2
   refine ⟨τ, ?_⟩
   rw[KS,Hv]
   try simp only[sw,Ad,Af,Ae]
   have q:decide ((x:Int)<((a+wo:Nat):Int))=false:=by simp; omega
   simp only[e1,q,cond_false,PT,if_true]
 | succ f ih=>
   intro x τ h1 h2
   rw[KS,Hv]
   try simp only[sw,Ad,Af,Ae]
   by_cases hx:x<a+wo
   ·have q:decide ((x:Int)<((a+wo:Nat):Int))=true:=by simp; omega
    have e2:Ce ((x:Int)+2)=((x+2:Nat):Int):=Ak (by unfold AU; omega)
    obtain ⟨τ1,hF⟩:=Ae4 k hk (h.app τ) (x:Int)
    obtain ⟨τ2,hih⟩:=ih (x+2) (τ++τ1) (by omega) (by omega)
    rw[← List.append_assoc] at hih
    simp only[e1,e2,q,cond_true,hF,Option.bind_some,PT,hx,if_true]
    cases hq:Yc m (x:Int) with
    | none=>
      refine ⟨τ2, ?_⟩
      simp only[Fq,show ((4:Int) == 0)=false from rfl,cond_false,Option.bind_some]
      exact hih
    | some o=>
      simp only[Fq,BEq.rfl,cond_true,Option.bind_some]
      by_cases hb:((2*o:Nat):Int)=but
      ·refine ⟨τ2, ?_⟩
       subst hb
       simp only[bne_self_eq_false,cond_false,if_true]
       exact hih
      ·refine ⟨τ++τ1, ?_⟩
       have:(((2*o:Nat):Int) != but)=true:=by simpa using hb
       simp only[this,cond_true,hb,if_false,List.append_assoc,Bool.false_eq_true]
   ·refine ⟨τ, ?_⟩
    have q:decide ((x:Int)<((a+wo:Nat):Int))=false:=by simp; omega
    simp only[e1,q,cond_false,PT,hx,if_false,if_true]
theorem rz (m:HM) (hi:Nat) (but:Int):∀ (f g x:Nat),hi≤x+2*f→hi≤x+2*g→PT m hi but f x=PT m hi but g x
 | 0,0,_,_,_=>rfl
 | 0,g+1,x,h1,h2=>by rw[PT,PT,if_neg (by omega)]
 | f+1,0,x,h1,h2=>by rw[PT,PT,if_neg (by omega)]
 | f+1,g+1,x,h1,h2=>by
   rw[PT,PT]
   have:=rz m hi but f g (x+2) (by omega) (by omega)
   rw[this]
def Q5 (m:HM) (a:Int) (wo:Nat) (but:Int):Int:=
 if ¬ (0≤a∧a<(m.wds.length:Int)∧a.toNat % 2=0) then 1 else
 let b:=a.toNat/64
 if wo≤32 then (if (m.bls.getD b (0,0)).1≠1∨(a.toNat+wo-1)/64≠b then 5 else if PT m (a.toNat+wo) but 200 a.toNat then 0 else 8)
 else if (m.bls.getD b (0,0)).1≠2∨a.toNat % 64≠0∨Od m b≠(wo+63)/64 then 5 else if PT m (a.toNat+wo) but 200 a.toNat then 0 else 8
theorem Af3 (k:Nat) (hk:5000≤k) (h:An σ i m) (a:Int) (wo:Nat) (but:Int) (h0:2≤wo) (hwo:wo≤218):∃ τ,Gx (k+11) (AV i) a (wo:Int) but σ=some (.int .i64 (Q5 m a wo but),σ++τ):=by
 have hw:=h.wl
 have ht:=h.nt
 rw[TL,ME]
 try simp only[sw,Ad,Af,Ae]
 simp only[Option.bind_some,Nat.zero_add,h.Kw,h.GC]
 by_cases g0:0≤a
 rotate_left
 ·refine ⟨[], ?_⟩
  simp only[show decide (a<0)=true from by simp; omega,cond_true,Option.bind_some,Q5,show ¬ (0≤a∧a<(m.wds.length:Int)∧a.toNat % 2=0) from by omega,not_false_eq_true,if_true,List.append_nil]
 by_cases g1:a<(m.wds.length:Int)
 rotate_left
 ·refine ⟨[], ?_⟩
  simp only[show decide (a<0)=false from by simp; omega,cond_false,show decide (a≥((m.wds.length:Nat):Int))=true from by simp; omega,cond_true,Option.bind_some,Q5,show ¬ (0≤a∧a<(m.wds.length:Int)∧a.toNat % 2=0) from by omega,not_false_eq_true,if_true,List.append_nil]
 obtain ⟨n,rfl⟩:∃ n:Nat,a=(n:Int):=⟨a.toNat,by omega⟩
 have t1:(n:Int).tmod 2=((n % 2:Nat):Int):=rfl
 have t2:(n:Int).tdiv 64=((n/64:Nat):Int):=rfl
 have t3:(n:Int).tmod 64=((n % 64:Nat):Int):=rfl
 have e1:Ce ((n/64:Nat):Int)=((n/64:Nat):Int):=Ak (by unfold AU; omega)
 have e2:Ce ((n:Int)+(wo:Int))=((n+wo:Nat):Int):=Ak (by unfold AU; omega)
 have e3:Ce (((n+wo:Nat):Int)-1)=((n+wo-1:Nat):Int):=by rw[Ak (by unfold AU; omega)]; omega
 have t4:(((n+wo-1:Nat):Int)).tdiv 64=(((n+wo-1)/64:Nat):Int):=rfl
 have e4:Ce (((n+wo-1)/64:Nat):Int)=(((n+wo-1)/64:Nat):Int):=Ak (by unfold AU; omega)
 have e5:Ce ((wo:Int)+64)=((wo+64:Nat):Int):=Ak (by unfold AU; omega)
 have e6:Ce (((wo+64:Nat):Int)-1)=((wo+63:Nat):Int):=by rw[Ak (by unfold AU; omega)]; omega
 have t5:((wo+63:Nat):Int).tdiv 64=(((wo+63)/64:Nat):Int):=rfl
 have e7:Ce (((wo+63)/64:Nat):Int)=(((wo+63)/64:Nat):Int):=Ak (by unfold AU; omega)
 simp only[show decide ((n:Int)<0)=false from by simp,cond_false,show decide ((n:Int)≥((m.wds.length:Nat):Int))=false from by simp; omega,Option.bind_some,t1,t2,t3,e1,e2,e3,t4,e4,e5,e6,t5,e7]
 rw[if_neg (by decide)]
 simp only[Option.bind_some]
 by_cases g2:n % 2=0
 rotate_left
 ·refine ⟨[], ?_⟩
  have q:(((n % 2:Nat):Int) != 0)=true:=by simp; omega
  simp only[q,cond_true,Q5,show ¬ (0≤(n:Int)∧(n:Int)<(m.wds.length:Int)∧(n:Int).toNat % 2=0) from by omega,not_false_eq_true,if_true,List.append_nil]
 have q:(((n % 2:Nat):Int) != 0)=false:=by simp; omega
 have hb:n/64<m.bls.length:=by omega
 obtain ⟨τ,hl⟩:=xj k hk h n wo but (by omega) hwo (k+9) n [] (by omega) (by omega)
 have hm:PT m (n+wo) but (k+9) n=PT m (n+wo) but 200 n:=rz m _ but _ _ n (by omega) (by omega)
 rw[List.append_nil,hm] at hl
 have hgood:(¬ (0≤(n:Int)∧(n:Int)<(m.wds.length:Int)∧(n:Int).toNat % 2=0))=False:=eq_false (by omega)
 simp only[q,cond_false,Q5,hgood,if_false]
 simp only[Int.toNat_natCast]
 have tail:∀ (c:Bool),∃ τ',(if (Dg.normal:Dg) = .normal then (Dl (k+10) (k+10) (AV i) (n:Int) (wo:Int) but (n:Int) σ).bind fun r23=>if r23.1 = .exit 0 then some (Value.int .i64 (0:Int),r23.2.2) else if r23.1 = .ret then lU r23.2.1 fun n24=>some (.int .i64 n24,r23.2.2) else none else none)=some (.int .i64 (if PT m (n+wo) but 200 n=true then 0 else 8),σ++τ'):=by
  intro c
  refine ⟨τ, ?_⟩
  rw[hl]
  cases PT m (n+wo) but 200 n <;> simp[FQ]
 obtain ⟨τt,ht'⟩:=tail true
 simp only[if_true] at ht'
 have c64:((64:Int)=0)=False:=by simp
 have c1:(0≤((n/64:Nat):Int)∧((n/64:Nat):Int)<((m.bls.length:Nat):Int))=True:=eq_true (by omega)
 by_cases g3:wo≤32
 ·have q3:decide ((wo:Int)≤32)=true:=by simp; omega
  simp only[c64,if_false,q3,cond_true,g3,if_true,c1,Option.bind_some,Nat.zero_add,Nat.add_zero,Int.toNat_natCast,(h.lk hb).1,h.Kw]
  by_cases g4:(m.bls.getD (n/64) (0,0)).1=1
  ·simp only[g4,bne_self_eq_false,cond_false,ne_eq,not_true_eq_false,false_or,Option.bind_some]
   by_cases g5:(n+wo-1)/64=n/64
   ·simp only[g5,bne_self_eq_false,cond_false,Option.bind_some,if_true,not_true_eq_false,if_false]
    exact ⟨τt,ht'⟩
   ·have q5:((((n+wo-1)/64:Nat):Int) != ((n/64:Nat):Int))=true:=by simp; omega
    simp only[q5,cond_true,g5,not_false_eq_true,if_true,Option.bind_some]
    exact ⟨[],by simp[FQ]⟩
  ·have q4:((m.bls.getD (n/64) (0,0)).1 != 1)=true:=bne_iff_ne.2 g4
   simp only[q4,cond_true,ne_eq,g4,not_false_eq_true,true_or,if_true,Option.bind_some]
   exact ⟨[],by simp[FQ]⟩
 ·have q3:decide ((wo:Int)≤32)=false:=by simp; omega
  simp only[c64,if_false,q3,cond_false,g3,if_true,c1,Option.bind_some,Nat.zero_add,Nat.add_zero,Int.toNat_natCast,(h.lk hb).1,h.Kw]
  by_cases g4:(m.bls.getD (n/64) (0,0)).1=2
  ·simp only[g4,bne_self_eq_false,cond_false,ne_eq,not_true_eq_false,false_or,Option.bind_some]
   by_cases g5:n % 64=0
   ·have q5:(((n % 64:Nat):Int) != 0)=false:=by simp; omega
    simp only[q5,cond_false,zj (k+9) (by omega) h hb,Option.bind_some,Aj]
    simp only[g5,not_true_eq_false,false_or]
    by_cases g6:Od m (n/64)=(wo+63)/64
    ·simp only[g6,bne_self_eq_false,cond_false,Option.bind_some,if_true,not_true_eq_false,if_false]
     exact ⟨τt,ht'⟩
    ·have q6:((Od m (n/64):Int) != (((wo+63)/64:Nat):Int))=true:=by simp; omega
     simp only[q6,cond_true,g6,not_false_eq_true,if_true,Option.bind_some]
     exact ⟨[],by simp[FQ]⟩
   ·have q5:(((n % 64:Nat):Int) != 0)=true:=by simp; omega
    simp only[q5,cond_true,g5,not_false_eq_true,true_or,if_true,Option.bind_some]
    exact ⟨[],by simp[FQ]⟩
  ·have q4:((m.bls.getD (n/64) (0,0)).1 != 2)=true:=bne_iff_ne.2 g4
   simp only[q4,cond_true,ne_eq,g4,not_false_eq_true,true_or,if_true,Option.bind_some]
   exact ⟨[],by simp[FQ]⟩
end Go.Proofs.YtphkfdnecpacmaaGreat
end
section
namespace Go.Proofs.YtphkfdnecpacmaaGreat
open Go Go.AX
noncomputable local instance qCB:AA:=Aw
local instance nCB:Kn:=⟨true⟩
theorem sz3:IK P As=some 1:=by kernel_rfl
theorem by3:bytesOf P As=some 8:=by kernel_rfl
theorem zz3:FR P As=some (.int .i64 0):=by kernel_rfl
def Fe (lo:Nat) (σ:Aa) (s:Ci) (l:List Int):Prop:=
 (l=[]∧s=(none,0,0)) ∨ ∃ b,lo≤b∧s=(some ⟨b,0,none⟩,l.length,l.length)∧l≠[]∧σ[b]?=some (.cells (Bm l) As true)
theorem EH (l:List Int):(Bm l).length=l.length:=by simp[Bm]
theorem U6 (l l':List Int):Bm (l++l')=Bm l++Bm l':=by simp[Bm]
theorem Fe.app {lo:Nat} {σ:Aa} {s:Ci} {l:List Int} (τ:Aa) (h:Fe lo σ s l):Fe lo (σ++τ) s l:=by
 rcases h with h | ⟨b,h1,h2,h3,h4⟩
 ·exact .inl h
 ·exact .inr ⟨b,h1,h2,h3,by rw[List.getElem?_append_left (Al h4),h4]⟩
theorem Fe.ld {lo:Nat} {σ:Aa} {b c c':Nat} {l:List Int} (h:Fe lo σ (some ⟨b,0,none⟩,c,c') l) {j:Nat} (hj:j<l.length):Df .i64 σ b j=some (l.getD j 0):=by
 rcases h with ⟨_,h⟩ | ⟨b',_,h2,_,h4⟩
 ·cases h
 ·cases h2
  simp[Df,Gg,h4,Bm,Md,List.getElem?_eq_getElem hj]
theorem Fe.len {lo:Nat} {σ:Aa} {s:Ci} {l:List Int} (h:Fe lo σ s l):s.2.1=l.length:=by
 rcases h with ⟨rfl,rfl⟩ | ⟨b',_,rfl,_,_⟩ <;> rfl
theorem zK (σ τ:Aa) (s:Ci) (l:List Int) (x:Int) (h:Nat) (hl:l.length≤10000) (hs:Fe σ.length (σ++τ) s l) (hx:∃ T rw,(σ++τ)[h]?=some (.cells [.int .i64 x] T rw)):
  ∃ s' τ',BH P As s (some ⟨h,0,none⟩,1,1) (σ++τ)=some (s',σ++τ')∧Fe σ.length (σ++τ') s' (l++[x]):=by
 obtain ⟨T,rw',hx⟩:=hx
 have hf:Dq (σ++τ) 1 (some ⟨h,0,none⟩) 1=some [.int .i64 x]:=by simp[Dq,Z1,hx]
 unfold BH PZ
 simp only[sz3,by3,zz3,Option.bind_some,hf]
 have hz:(¬ (GW (.int .i64 0)=false∧some 1=some (Value.cells (.int .i64 0)).size∧0<(Value.cells (.int .i64 0)).size))=False:=by simp[GW,Value.cells]
 simp only[hz,if_false]
 rcases hs with ⟨rfl,rfl⟩ | ⟨b,hb,rfl,hne,hcell⟩
 ·have r:Q9 (0+1) 8∧0<8:=by unfold Q9; decide
  simp only[show ¬ (0+1≤0) from by decide,if_false,r,and_self,if_true,Ik,cond_true,slK]
  refine ⟨_,τ++[.cells [.int .i64 x] As true],by rw[← List.append_assoc]; rfl,.inr ⟨(σ++τ).length,by simp,rfl,by simp, ?_⟩⟩
  rw[← List.append_assoc]; simp[Bm]
 ·have r:Q9 (l.length+1) 8∧0<8:=by
   unfold Q9
   refine ⟨⟨?_, ?_⟩,by decide⟩ <;> omega
  have hb2:=Al hcell
  have e1:elemAt (σ++τ) b=some 3:=by simp[elemAt,hcell]
  have e2:Z1 (σ++τ) b 0 (l.length*1)=some (Bm l):=by
   simp only[Z1,hcell,EH,Nat.mul_one,Nat.zero_add,Nat.le_refl,if_true,List.drop_zero]
   rw[List.take_of_length_le (by rw[EH]; exact Nat.le_refl _)]
  have e3:Jb (σ++τ) b=true:=by simp[Jb,hcell]
  simp only[show ¬ (l.length+1≤l.length) from by omega,if_false,r,and_self,if_true,Ik,Option.isSome_none,cond_false,Option.bind_some,e1,e2,e3,cond_true,slK]
  have hset:(σ++τ).set b .dead=σ++τ.set (b-σ.length) .dead:=by
   rw[List.set_append_right _ _ hb]
  refine ⟨_,τ.set (b-σ.length) .dead++[.cells (Bm l++[.int .i64 x]) As true],by rw[hset,← List.append_assoc],.inr ⟨(σ++τ).length,by simp,by simp,by simp, ?_⟩⟩
  rw[← List.append_assoc,U6]
  have:(σ++τ).length=(σ++τ.set (b-σ.length) .dead).length:=by simp
  rw[this]; simp[Bm]
variable {σ:Aa} {i:DB} {m:HM}
def W9 (m:HM) (hi:Nat):Nat→Nat→List Int
 | 0,_=>[]
 | f+1,j=>match Yp (Eb 1 m.stw) (32*m.bls.length) 1 j with
   | none=>[]
   | some j'=>if 2*j'<hi then ((2*j':Nat):Int)::W9 m hi f (j'+1) else []
theorem eH (k:Nat) (hk:5000≤k) (h:An σ i m) (hi:Nat):∀ (f:Nat) (n5:Option Nat) (τ:Aa) (s:Ci) (l:List Int),(match n5 with | none=>True | some j=>l.length≤j)→Fe σ.length (σ++τ) s l→(∀ j,n5=some j→j<32*m.bls.length) →
  (match n5 with | none=>0 | some j=>32*m.bls.length-j)<f+1 →
  ∃ τ' s',B9 (k+4) (f+1) (AV i) (hi:Int) s (match n5 with | none=>0 | some j=>(j:Int)) (match n5 with | none=>4 | some j=>0) (σ++τ)=some (.exit 0,[.slice s'.1 s'.2.1 s'.2.2],σ++τ') ∧
   Fe σ.length (σ++τ') s' (l++(match n5 with | none=>[] | some j=>if 2*j<hi then ((2*j:Nat):Int)::W9 m hi f (j+1) else [])):=by
 have ht:=h.nt
 intro f
 induction f with
 | zero=>
   intro n5 τ s l hl hs hj hf
   cases n5 with
   | none=>
     refine ⟨τ,s, ?_,by simpa using hs⟩
     rw[Gk,Ez]
     try simp only[sw,Ad,Af,Ae]
     rfl
   | some j=>
     have:=hj j rfl
     simp only at hf
     omega
 | succ f ih=>
   intro n5 τ s l hl hs hj hf
   cases n5 with
   | none=>
     refine ⟨τ,s, ?_,by simpa using hs⟩
     rw[Gk,Ez]
     try simp only[sw,Ad,Af,Ae]
     rfl
   | some j=>
     have hjl:=hj j rfl
     obtain ⟨sa,sl,sc⟩:=s
     have e1:Ce (2*(j:Int))=((2*j:Nat):Int):=Ak (by unfold AU; omega)
     have e2:Ce ((j:Int)+1)=((j+1:Nat):Int):=Ak (by unfold AU; omega)
     rw[Gk,Ez]
     try simp only[sw,Ad,Af,Ae]
     simp only[BEq.rfl,cond_true,e1,e2,Option.bind_some]
     by_cases hlt:2*j<hi
     ·have q:decide (((2*j:Nat):Int)<(hi:Int))=true:=by simp; omega
      obtain ⟨s1,τ1,ha,hs1⟩:=zK σ (τ++[.cells [.int .i64 ((2*j:Nat):Int)] As true]) (sa,sl,sc) l ((2*j:Nat):Int) (σ++τ).length (by simp only at hl; omega) (by rw[← List.append_assoc]; exact hs.app _) ⟨3,true,by rw[← List.append_assoc]; simp⟩
      rw[← List.append_assoc] at ha
      have hn:=yr (k+1) (by omega) (h.app τ1).st ((j+1:Nat):Int) 1 (by omega)
      rw[Int.toNat_natCast] at hn
      have hn':CZ (k+4) (some ⟨i.st,0,none⟩) ((j+1:Nat):Int) 1 (σ++τ1)=_:=hn
      simp only[q,cond_true,AM,ha,Option.bind_some,Nat.zero_add,(h.app τ1).kc,hn',hlt,if_true]
      cases hq:Yp (Eb 1 m.stw) (32*m.bls.length) 1 (j+1) with
      | none=>
        obtain ⟨τ',s',g1,g2⟩:=ih none τ1 s1 (l++[((2*j:Nat):Int)]) trivial hs1 (fun _ h=>by cases h) (by simp)
        refine ⟨τ',s', ?_, ?_⟩
        ·simp only[Fq]; exact g1
        ·rw[W9,hq]; simpa using g2
      | some j'=>
        obtain ⟨p1,p2,_,_⟩:=Z4 hq
        obtain ⟨τ',s',g1,g2⟩:=ih (some j') τ1 s1 (l++[((2*j:Nat):Int)]) (by simp only[List.length_append,List.length_cons,List.length_nil] at hl ⊢; omega) hs1 (fun _ h=>by cases h; exact p2) (by simp only at hf ⊢; omega)
        refine ⟨τ',s', ?_, ?_⟩
        ·simp only[Fq]; exact g1
        ·rw[W9,hq]; simpa using g2
     ·have q:decide (((2*j:Nat):Int)<(hi:Int))=false:=by simp; omega
      refine ⟨τ,(sa,sl,sc), ?_,by simpa [hlt] using hs⟩
      simp only[q,cond_false]
def FO (m:HM) (lo n:Nat):List Nat:=(List.range' lo n).filter fun j=>decide (Eb 1 m.stw j=1)
def ET (l:List Nat):List Int:=l.map fun j=>((2*j:Nat):Int)
theorem oO (m:HM) (H:Nat) (hH:H≤32*m.bls.length):∀ (n f j:Nat),j+n=H→32*m.bls.length-j≤f→W9 m (2*H) f j=ET (FO m j n)
 | 0,0,j,h1,h2=>rfl
 | 0,f+1,j,h1,h2=>by
   rw[W9]
   cases hq:Yp (Eb 1 m.stw) (32*m.bls.length) 1 j with
   | none=>rfl
   | some j'=>
     obtain ⟨p1,_⟩:=Z4 hq
     simp only[show ¬ 2*j'<2*H from by omega,if_false]
     rfl
 | n+1,0,j,h1,h2=>by omega
 | n+1,f+1,j,h1,h2=>by
   have hj:j<32*m.bls.length:=by omega
   unfold FO
   rw[List.range'_succ,List.filter_cons]
   by_cases hg:Eb 1 m.stw j=1
   ·rw[W9,Yp,dif_pos hj,if_pos hg]
    simp only[show 2*j<2*H from by omega,if_true,hg,decide_true]
    rw[oO m H hH n f (j+1) (by omega) (by omega)]
    rfl
   ·have e1:W9 m (2*H) (f+1) j=W9 m (2*H) (f+1) (j+1):=by
     rw[W9,W9,Yp,dif_pos hj,if_neg hg]
    rw[e1,oO m H hH n (f+1) (j+1) (by omega) (by omega)]
    simp only[hg,decide_false,Bool.false_eq_true,if_false]
    rfl
theorem oa (k:Nat) (hk:5000≤k) (h:An σ i m) (lo n:Nat) (hn:lo+n≤32*m.bls.length):∃ τ s,Dk (k+5) (AV i) ((2*lo:Nat):Int) ((2*(lo+n):Nat):Int) σ=some (.slice s.1 s.2.1 s.2.2,σ++τ)∧Fe σ.length (σ++τ) s (ET (FO m lo n)):=by
 have ht:=h.nt
 have t1:((2*lo:Nat):Int).tdiv 2=(lo:Int):=by
  rw[show ((2*lo:Nat):Int).tdiv 2=(((2*lo)/2:Nat):Int) from rfl]; omega
 have e1:Ce (lo:Int)=(lo:Int):=Ak (by unfold AU; omega)
 have hN:=yr (k+1) (by omega) h.st (lo:Int) 1 (by omega)
 rw[Int.toNat_natCast] at hN
 have hN':CZ (k+4) (some ⟨i.st,0,none⟩) (lo:Int) 1 σ=_:=hN
 rw[Qv,JK]
 try simp only[sw,Ad,Af,Ae]
 simp only[Option.bind_some,Nat.zero_add,h.kc,t1,e1,show ((2:Int)=0)=False from by simp,if_false,hN']
 have hlist:W9 m (2*(lo+n)) (k+4) lo=ET (FO m lo n):=oO m (lo+n) hn n (k+4) lo rfl (by omega)
 cases hq:Yp (Eb 1 m.stw) (32*m.bls.length) 1 lo with
 | none=>
   obtain ⟨τ',s',g1,g2⟩:=eH k hk h (2*(lo+n)) (k+3) none [] (none,0,0) [] trivial (.inl ⟨rfl,rfl⟩) (fun _ h=>by cases h) (by simp)
   rw[List.append_nil] at g1
   refine ⟨τ',s', ?_, ?_⟩
   ·simp only[Fq]
    rw[show B9 (k+4) (k+4) (AV i) ((2*(lo+n):Nat):Int) (none,0,0) 0 4 σ=_ from g1]
    simp only[Option.bind_some,if_true,Pm]
   ·rw[← hlist,W9,hq]; simpa using g2
 | some j=>
   obtain ⟨p1,p2,_,_⟩:=Z4 hq
   obtain ⟨τ',s',g1,g2⟩:=eH k hk h (2*(lo+n)) (k+3) (some j) [] (none,0,0) [] (by simp) (.inl ⟨rfl,rfl⟩) (fun _ h=>by cases h; exact p2) (by simp only; omega)
   rw[List.append_nil] at g1
   refine ⟨τ',s', ?_, ?_⟩
   ·simp only[Fq]
    rw[show B9 (k+4) (k+4) (AV i) ((2*(lo+n):Nat):Int) (none,0,0) (j:Int) 0 σ=_ from g1]
    simp only[Option.bind_some,if_true,Pm]
   ·rw[← hlist,W9,hq]; simpa using g2
theorem nk (k:Nat) (hk:5000≤k) (h:An σ i m) {b:Nat} (hb:b<m.bls.length):∃ τ s,Ba (k+6) (AV i) (b:Int) σ=some (.slice s.1 s.2.1 s.2.2,σ++τ)∧Fe σ.length (σ++τ) s (ET (FO m (32*b) 32)):=by
 have ht:=h.nt
 obtain ⟨τ,s,g1,g2⟩:=oa k hk h (32*b) 32 (by omega)
 refine ⟨τ,s, ?_,g2⟩
 have e1:Ce ((b:Int)*64)=((2*(32*b):Nat):Int):=by rw[Ak (by unfold AU; omega)]; omega
 have e2:Ce ((b:Int)+1)=((b+1:Nat):Int):=Ak (by unfold AU; omega)
 have e3:Ce (((b+1:Nat):Int)*64)=((2*(32*b+32):Nat):Int):=by rw[Ak (by unfold AU; omega)]; omega
 rw[KR,Hu]
 try simp only[sw,Ad,Af,Ae]
 have q1:decide ((b:Int)<0)=false:=by simp
 have q2:decide ((b:Int)≥((m.bls.length:Nat):Int))=false:=by simp; omega
 simp only[Ln _ h,Option.bind_some,Ar,Bool.not_true,cond_false,q1,Nat.zero_add,h.Kw,q2,e1,e2,e3,g1,H0]
theorem sC (k:Nat) (hk:5000≤k) (h:An σ i m):∃ τ s,Bv (k+6) (AV i) σ=some (.slice s.1 s.2.1 s.2.2,σ++τ)∧Fe σ.length (σ++τ) s (ET (FO m 0 (32*m.bls.length))):=by
 have ht:=h.nt
 have hw:=h.wl
 obtain ⟨τ,s,g1,g2⟩:=oa k hk h 0 (32*m.bls.length) (by omega)
 refine ⟨τ,s, ?_,g2⟩
 rw[Vg,Oh]
 try simp only[sw,Ad,Af,Ae]
 have e1:((m.wds.length:Nat):Int)=((2*(0+32*m.bls.length):Nat):Int):=by omega
 simp only[Ln _ h,Option.bind_some,Ar,Bool.not_true,cond_false,Nat.zero_add,h.GC,e1]
 rw[show (0:Int)=((2*0:Nat):Int) from rfl,show (32*m.bls.length)=0+32*m.bls.length from by omega,g1]
 simp only[Option.bind_some,H0]
end Go.Proofs.YtphkfdnecpacmaaGreat
end
