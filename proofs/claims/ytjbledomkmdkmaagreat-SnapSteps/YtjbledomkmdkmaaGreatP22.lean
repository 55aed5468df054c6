/- Laws of the words in which the printed functions are written.; Bit tables, as lists of words: an entry is what was put there last.; What the functions -/
import Derived.Test.YtjbledomkmdkmaaGreatP8
import Derived.Test.YtjbledomkmdkmaaGreatP21
set_option linter.unusedVariables false
set_option linter.unusedSimpArgs false
set_option linter.unusedSectionVars false
section
namespace Go.AX
open Go
variable {ρ:Type}
theorem Agr (σ:Aa) (vs:List Value) (T:TypeId) (rw:Bool) (o:Nat):Gi (σ++[.cells vs T rw]) σ.length o=vs[o]?:=by simp[Gi]
theorem Agq {σ:Aa} {b:Nat} (τ:Aa) (o:Nat) (h:b<σ.length):Gi (σ++τ) b o=Gi σ b o:=by simp[Gi,List.getElem?_append_left h]
theorem BJ (k:IntKind) (σ:Aa) (vs:List Value) (T:TypeId) (rw:Bool) (o:Nat):Dg k (σ++[.cells vs T rw]) σ.length o=(vs[o]?).bind (Ml k):=by simp[Dg,Agr]
theorem dI (k:IntKind) {σ:Aa} {b:Nat} (τ:Aa) (o:Nat) (h:b<σ.length):Dg k (σ++τ) b o=Dg k σ b o:=by simp[Dg,Agq τ o h]
theorem GK (k:IntKind) (σ τ:Aa) (vs:List Value) (T:TypeId) (rw:Bool) (o:Nat):Dg k ((σ++[.cells vs T rw])++τ) σ.length o=(vs[o]?).bind (Ml k):=by
 rw[dI k τ o (by simp),BJ]
theorem Aj (k:IntKind) (n:Int):Ml k (.int k n)=some n:=by simp[Ml]
theorem Ar (b:Bool):Ez (.bool b)=some b:=rfl
theorem vN {α β:Type} (c:Bool) (x y:α) (s:β):(bif c then some (x,s) else some (y,s))=some (bif c then x else y,s):=by cases c <;> rfl
theorem tS (σ τ:Aa) (m:Option ρ):@QE Aw ρ σ (σ++τ) m=m:=by
 have h:@A9.q Aw σ (σ++τ)=true:=by
  unfold Aw
  simp only[decide_eq_true_eq]
  exact ⟨τ,rfl⟩
 unfold QE; rw[h]; rfl
def mn (m:Option (Value × Aa)) (σ:Aa) (v:Value):Prop:=∃ τ,m=some (v,σ++τ)
noncomputable def mn.mem {m:Option (Value × Aa)} {σ:Aa} {v:Value} (h:mn m σ v):Aa:=Classical.choose h
theorem mn.eq {m:Option (Value × Aa)} {σ:Aa} {v:Value} (h:mn m σ v):m=some (v,σ++h.mem):=Classical.choose_spec h
def AU (n:Int):Prop:=-9223372036854775808≤n∧n<9223372036854775808
theorem Ak {n:Int} (h:AU n):Cf n=n:=IntWalk.i64_in n (by unfold AU at h; omega)
end Go.AX
end
section
namespace Go.AX
open Go
def okW (w:Nat):Prop:=w=1∨w=2∨w=4∨w=8
def Ec (w:Nat) (ws:List (BitVec 64)) (i:Nat):Nat:=((ws.getD (i*w/64) 0) >>> (i*w % 64)).toNat % 2 ^ w
def Ahr (w:Nat) (x:BitVec 64) (s v:Nat):BitVec 64:=(x &&& ~~~ (BitVec.ofNat 64 (2 ^ w-1) <<< s)) ||| (BitVec.ofNat 64 v <<< s)
def GR (w:Nat) (ws:List (BitVec 64)) (i v:Nat):List (BitVec 64):=ws.set (i*w/64) (Ahr w (ws.getD (i*w/64) 0) (i*w % 64) v)
theorem Hg (w ws i v):(GR w ws i v).length=ws.length:=by simp[GR]
theorem tL {w i:Nat} (h:okW w):i*w % 64+w≤64:=by rcases h with rfl | rfl | rfl | rfl <;> omega
theorem Abd {w i j:Nat} (h:okW w) (hij:i≠j) (hs:i*w/64=j*w/64):i*w % 64+w≤j*w % 64∨j*w % 64+w≤i*w % 64:=by
 rcases h with rfl | rfl | rfl | rfl <;> omega
theorem qi (w:Nat) (x:BitVec 64) (s t:Nat):((x >>> s).toNat % 2 ^ w).testBit t=(decide (t<w) && x.getLsbD (s+t)):=by
 rw[Nat.testBit_mod_two_pow]
 congr 1
 rw[← BitVec.getLsbD]
 simp[BitVec.getLsbD_ushiftRight]
theorem wK (w:Nat) (x:BitVec 64) (s v p:Nat) (hp:p<64):(Ahr w x s v).getLsbD p=((x.getLsbD p && !(decide (s≤p) && decide (p-s<w))) || (decide (s≤p) && v.testBit (p-s))):=by
 unfold Ahr
 simp only[BitVec.getLsbD_or,BitVec.getLsbD_and,BitVec.getLsbD_not,BitVec.getLsbD_shiftLeft,BitVec.getLsbD_ofNat,Nat.testBit_two_pow_sub_one,hp,decide_true,Bool.true_and]
 have h2:p-s<64:=by omega
 by_cases h:s≤p
 ·have h1:¬ p<s:=by omega
  simp[h,h1,h2]
 ·have h1:p<s:=by omega
  simp[h,h1]
theorem Fo {w:Nat} {ws:List (BitVec 64)} {i v:Nat} (h:okW w) (hv:v<2 ^ w) (hi:i*w/64<ws.length):Ec w (GR w ws i v) i=v:=by
 have hf:=tL (i:=i) h
 apply Nat.eq_of_testBit_eq
 intro t
 unfold Ec GR
 rw[qi,List.getD_eq_getElem?_getD,List.getElem?_set_self (by simpa using hi),Option.getD_some]
 by_cases ht:t<w
 ·rw[wK _ _ _ _ _ (by omega)]
  have e:i*w % 64+t-i*w % 64=t:=by omega
  simp[ht,e]
 ·have:v.testBit t=false:=Nat.testBit_lt_two_pow (Nat.lt_of_lt_of_le hv (Nat.pow_le_pow_right (by decide) (by omega)))
  simp[ht,this]
theorem Ca {w:Nat} {ws:List (BitVec 64)} {i j v:Nat} (h:okW w) (hv:v<2 ^ w) (hij:i≠j):Ec w (GR w ws i v) j=Ec w ws j:=by
 have hf:=tL (i:=i) h
 have hf':=tL (i:=j) h
 unfold Ec GR
 by_cases hs:i*w/64=j*w/64
 ·by_cases hl:j*w/64<ws.length
  ·apply Nat.eq_of_testBit_eq
   intro t
   rw[qi,qi,hs,List.getD_eq_getElem?_getD,List.getElem?_set_self (by simpa using hl),Option.getD_some]
   by_cases ht:t<w
   ·rw[wK _ _ _ _ _ (by omega)]
    rcases Abd h hij hs with h1 | h1
    ·have e1:¬ (j*w % 64+t-i*w % 64<w):=by omega
     have e2:v.testBit (j*w % 64+t-i*w % 64)=false:=Nat.testBit_lt_two_pow (Nat.lt_of_lt_of_le hv (Nat.pow_le_pow_right (by decide) (by omega)))
     simp[e1,e2]
    ·have e1:¬ (i*w % 64≤j*w % 64+t):=by omega
     simp[e1]
   ·simp[ht]
  ·rw[List.set_eq_of_length_le (by rw[hs]; omega)]
 ·rw[List.getD_eq_getElem?_getD,List.getElem?_set_ne hs,← List.getD_eq_getElem?_getD]
theorem Ahj (w ws i):Ec w ws i<2 ^ w:=Nat.mod_lt _ (Nat.two_pow_pos w)
theorem ZV (w n i:Nat):Ec w (List.replicate n 0#64) i=0:=by
 unfold Ec
 have:(List.replicate n 0#64).getD (i*w/64) 0=0#64:=by
  rw[List.getD_eq_getElem?_getD,List.getElem?_replicate]
  split <;> rfl
 rw[this]; simp
theorem LA (n:Int):(BitVec.ofInt 64 n).toNat=(n % 18446744073709551616).toNat:=by
 rw[BitVec.toNat_ofInt]; rfl
theorem Abc (n:Int):BitVec.ofInt 64 (Cf n)=BitVec.ofInt 64 n:=by
 apply BitVec.eq_of_toNat_eq
 rw[LA,LA,Cf,IntKind.wrap_i64]
 congr 1
 omega
theorem um (n:Int):u64 n=n % 18446744073709551616:=by
 simp[u64,IntKind.wrap,IntKind.bits,IntKind.signed]
theorem ofInt_u64 (n:Int):BitVec.ofInt 64 (u64 n)=BitVec.ofInt 64 n:=by
 apply BitVec.eq_of_toNat_eq
 rw[LA,LA,um]
 congr 1
 omega
theorem se (n:Nat):BitVec.ofInt 64 (n:Int)=BitVec.ofNat 64 n:=by
 apply BitVec.eq_of_toNat_eq
 rw[LA,BitVec.toNat_ofNat]
 omega
theorem cI (x:BitVec 64):BitVec.ofInt 64 (x.toNat:Int)=x:=by
 rw[se,BitVec.ofNat_toNat,BitVec.setWidth_eq]
theorem Ab8 (x:BitVec 64):u64 (x.toNat:Int)=(x.toNat:Int):=by
 have:=x.isLt
 rw[um]; omega
theorem jB {n:Nat} (h:n<9223372036854775808):Cf (n:Int)=(n:Int):=Ak (by unfold AU; omega)
theorem Aav (x:BitVec 64) (s:Nat) (hs:s<64):(x.toNat:Int).fdiv (2 ^ (min s 64))=((x >>> s).toNat:Int):=by
 rw[Nat.min_eq_left (by omega),Int.fdiv_eq_ediv_of_nonneg _ (Int.pow_nonneg (by decide)),BitVec.toNat_ushiftRight,Nat.shiftRight_eq_div_pow]
 norm_cast
theorem Adz (x:BitVec 64) (s w:Nat) (hs:s<64) (hw:okW w):
  Cf ((BitVec.ofInt 64 (Cf ((x.toNat:Int).fdiv (2 ^ (min s 64)))) &&& BitVec.ofInt 64 ((2 ^ w-1:Nat):Int)).toNat:Int)=(((x >>> s).toNat % 2 ^ w:Nat):Int):=by
 rw[Aav x s hs,Abc,cI,se,BitVec.toNat_and,BitVec.toNat_ofNat]
 have h1:(2 ^ w-1) % 2 ^ 64=2 ^ w-1:=by rcases hw with rfl | rfl | rfl | rfl <;> rfl
 rw[h1,Nat.and_two_pow_sub_one_eq_mod]
 have h2:(x >>> s).toNat % 2 ^ w<2 ^ w:=Nat.mod_lt _ (Nat.two_pow_pos w)
 have h3:2 ^ w≤256:=by rcases hw with rfl | rfl | rfl | rfl <;> decide
 exact jB (by omega)
theorem wA (a s:Nat) (hs:s<64):BitVec.ofInt 64 (u64 ((u64 (a:Int))*2 ^ (min s 64)))=BitVec.ofNat 64 a <<< s:=by
 rw[ofInt_u64,Nat.min_eq_left (by omega)]
 apply BitVec.eq_of_toNat_eq
 rw[LA,um,BitVec.toNat_shiftLeft,BitVec.toNat_ofNat,Nat.shiftLeft_eq]
 have h64:((2 ^ 64:Nat):Int)=18446744073709551616:=by decide
 have:((a:Int) % 18446744073709551616*2 ^ s)=((a % 2 ^ 64*2 ^ s:Nat):Int):=by
  rw[Int.natCast_mul,Int.natCast_emod,h64,Int.natCast_pow]; rfl
 rw[this]
 generalize a % 2 ^ 64*2 ^ s=y
 omega
theorem Aeq (x:BitVec 64) (s w v:Nat) (hs:s<64):
  u64 ((BitVec.ofInt 64 (u64 ((BitVec.ofInt 64 (x.toNat:Int) &&& ~~~ (BitVec.ofInt 64 (u64 ((u64 ((2 ^ w-1:Nat):Int))*2 ^ (min s 64))))).toNat:Int)) ||| BitVec.ofInt 64 (u64 ((u64 (v:Int))*2 ^ (min s 64)))).toNat:Int)=((Ahr w x s v).toNat:Int):=by
 rw[wA _ _ hs,wA _ _ hs,Ab8,ofInt_u64,cI,cI]
 rfl
def Yv (g:Nat→Nat) (e v:Nat) (i:Nat):Option Nat:=if h:i<e then (if g i=v then some i else Yv g e v (i+1)) else none
termination_by e-i
def Ys (g:Nat→Nat) (v:Nat):Nat→Option Nat
 | 0=>none
 | i+1=>if g i=v then some i else Ys g v i
theorem ZD {g:Nat→Nat} {e v i j:Nat} (h:Yv g e v i=some j):i≤j∧j<e∧g j=v ∧ ∀ t,i≤t→t<j→g t≠v:=by
 unfold Yv at h
 split at h
 ·split at h
  ·cases h; exact ⟨Nat.le_refl _,by assumption,by assumption,fun t h1 h2=>by omega⟩
  ·rename_i hne
   obtain ⟨h1,h2,h3,h4⟩:=ZD h
   refine ⟨by omega,h2,h3,fun t ht1 ht2=>?_⟩
   rcases Nat.eq_or_lt_of_le ht1 with rfl | ht
   ·exact hne
   ·exact h4 t ht ht2
 ·cases h
termination_by e-i
theorem Z8 {g:Nat→Nat} {v:Nat}:∀ {i j:Nat},Ys g v i=some j→j<i∧g j=v ∧ ∀ t,j<t→t<i→g t≠v
 | 0,_,h=>by cases h
 | i+1,j,h=>by
   simp only[Ys] at h
   split at h
   ·cases h; exact ⟨by omega,by assumption,fun t h1 h2=>by omega⟩
   ·rename_i hne
    obtain ⟨h1,h2,h3⟩:=Z8 h
    refine ⟨by omega,h2,fun t ht1 ht2=>?_⟩
    rcases Nat.lt_or_ge t i with ht | ht
    ·exact h3 t ht1 ht
    ·obtain rfl:t=i:=by omega
     exact hne
theorem oU {g:Nat→Nat} {v:Nat}:∀ {i:Nat},Ys g v i=none → ∀ t,t<i→g t≠v
 | 0,_,t,ht=>by omega
 | i+1,h,t,ht=>by
   simp only[Ys] at h
   split at h
   ·cases h
   ·rename_i hne
    rcases Nat.lt_or_ge t i with ht' | ht'
    ·exact oU h t ht'
    ·obtain rfl:t=i:=by omega
     exact hne
end Go.AX
end
section
namespace Go.Proofs.YtjbledomkmdkmaaGreat
open Go Go.AX
noncomputable local instance qCT:A9:=Aw
local instance nCT:Kn:=⟨true⟩
def rowOf (ws:List (BitVec 64)):List Value:=ws.map fun x=>.int .u64 (x.toNat:Int)
structure DU (σ:Aa) (tb wb e w:Nat) (ws:List (BitVec 64)):Prop where
 tab:σ[tb]?=some (.cells [.int .i64 (e:Int),.int .i64 (w:Int),.slice (some ⟨wb,0,none⟩) ws.length ws.length] SE true)
 row:σ[wb]?=some (.cells (rowOf ws) Bt true)
 len:ws.length=(e*w+63)/64
 pos:0<e
 top:e≤4096
 okw:okW w
variable {σ:Aa} {tb wb e w:Nat} {ws:List (BitVec 64)}
theorem DU.ldE (h:DU σ tb wb e w ws):Dg .i64 σ tb 0=some (e:Int):=by
 simp[Dg,Gi,h.tab,Ml]
theorem DU.ldW (h:DU σ tb wb e w ws):Dg .i64 σ tb 1=some (w:Int):=by
 simp[Dg,Gi,h.tab,Ml]
theorem DU.ldR (h:DU σ tb wb e w ws):Hx σ tb 2=some (some ⟨wb,0,none⟩,ws.length,ws.length):=by
 simp[Hx,Gi,h.tab,H7]
theorem DU.ldX (h:DU σ tb wb e w ws) {j:Nat} (hj:j<ws.length):Dg .u64 σ wb j=some ((ws.getD j 0).toNat:Int):=by
 simp[Dg,Gi,h.row,rowOf,Ml,List.getElem?_eq_getElem hj]
theorem DU.same {σ':Aa} (h:DU σ tb wb e w ws) (h1:σ'[tb]?=σ[tb]?) (h2:σ'[wb]?=σ[wb]?):DU σ' tb wb e w ws:=
 ⟨by rw[h1]; exact h.tab,by rw[h2]; exact h.row,h.len,h.pos,h.top,h.okw⟩
theorem Al {α:Type} {l:List α} {i:Nat} {x:α} (h:l[i]?=some x):i<l.length:=by
 rcases Nat.lt_or_ge i l.length with h' | h'
 ·exact h'
 ·rw[List.getElem?_eq_none h'] at h; cases h
theorem DU.lt (h:DU σ tb wb e w ws):tb<σ.length∧wb<σ.length:=by
 exact ⟨Al h.tab,Al h.row⟩
theorem DU.app (τ:Aa) (h:DU σ tb wb e w ws):DU (σ++τ) tb wb e w ws:=
 h.same (List.getElem?_append_left h.lt.1) (List.getElem?_append_left h.lt.2)
theorem iZ (k:Nat) (h:DU σ tb wb e w ws):Bp (k+1) (some ⟨tb,0,none⟩) σ=some (.bool true,σ):=by
 have hp:=h.pos
 rw[SZ,Ma]
 try simp only[sw,Ad,Af,Ae]
 simp only[oC,Option.bind_some,h.ldE,Nat.add_zero,Nat.zero_add,Option.isNone_some,Bool.not_false,cond_true]
 simp only[show decide ((e:Int)>0)=true from by simp; omega]
theorem wI (k:Nat) (h:DU σ tb wb e w ws) (i:Int):D8 (k+2) (some ⟨tb,0,none⟩) i σ=some (.bool (decide (0≤i∧i<(e:Int))),σ):=by
 rw[Ry,KO]
 try simp only[sw,Ad,Af,Ae]
 rw[iZ _ h]
 simp only[Option.bind_some,Ar,cond_true,h.ldE,Nat.add_zero]
 by_cases h0:0≤i
 ·simp[h0]
 ·simp[h0]
theorem tJ (k:Nat) (h:DU σ tb wb e w ws):Db (k+1) (some ⟨tb,0,none⟩) σ=some (.int .i64 ((2 ^ w-1:Nat):Int),σ):=by
 rw[Ta,Mb]
 try simp only[sw,Ad,Af,Ae]
 simp only[Option.bind_some,h.ldW,Nat.zero_add]
 rcases h.okw with rfl | rfl | rfl | rfl <;> rfl
theorem DU.fit (h:DU σ tb wb e w ws) {j:Nat} (hj:j<e):j*w/64<ws.length∧j*w<32768:=by
 have hl:=h.len; have ht:=h.top
 rcases h.okw with rfl | rfl | rfl | rfl <;> omega
theorem xE (k:Nat) (h:DU σ tb wb e w ws) {j:Nat} (hj:j<e):Dr (k+2) (some ⟨tb,0,none⟩) (j:Int) σ=some (.int .i64 (Ec w ws j:Int),σ):=by
 obtain ⟨h1,h2⟩:=h.fit hj
 have e1:Cf ((j:Int)*(w:Int))=((j*w:Nat):Int):=by rw[← Int.natCast_mul]; exact jB (by omega)
 have e2:((j*w:Nat):Int).tdiv 64=((j*w/64:Nat):Int):=rfl
 have e3:((j*w:Nat):Int).tmod 64=((j*w % 64:Nat):Int):=rfl
 have e4:Cf ((j*w/64:Nat):Int)=((j*w/64:Nat):Int):=jB (by omega)
 rw[Ue,MV]
 try simp only[sw,Ad,Af,Ae]
 simp only[Option.bind_some,Nat.zero_add,h.ldW,h.ldR,e1,e2,e3,e4,Int.toNat_natCast,Nat.mul_one]
 rw[if_neg (by decide),if_pos (by omega)]
 simp only[h.ldX h1,Option.bind_some]
 rw[if_neg (by decide),if_neg (by omega)]
 simp only[Option.bind_some,tJ _ h,Aj,Adz _ _ _ (Nat.mod_lt _ (by decide:0<64)) h.okw]
 rfl
theorem wQ (k:Nat) (h:DU σ tb wb e w ws) (i:Int):CQ (k+3) (some ⟨tb,0,none⟩) i σ=some (.int .i64 (if 0≤i∧i<(e:Int) then (Ec w ws i.toNat:Int) else -1),σ):=by
 rw[Uc,MT]
 try simp only[sw,Ad,Af,Ae]
 rw[wI _ h]
 simp only[Option.bind_some,Ar]
 by_cases hi:0≤i∧i<(e:Int)
 ·obtain ⟨j,rfl⟩:∃ j:Nat,i=(j:Int):=⟨i.toNat,by omega⟩
  simp only[hi,decide_true,and_self,Bool.not_true,cond_false,if_true,xE _ h (show j<e by omega),Option.bind_some,Aj,Int.toNat_natCast]
 ·simp only[hi,decide_false,Bool.not_false,cond_true,if_false]
theorem Aep (k:Nat) (h:DU σ tb wb e w ws) {j v:Nat} (hj:j<e):ED (k+2) (some ⟨tb,0,none⟩) (j:Int) (v:Int) σ=some (.tuple #[],σ.set wb (.cells (rowOf (GR w ws j v)) Bt true)):=by
 obtain ⟨h1,h2⟩:=h.fit hj
 have hrow:=h.row
 have e1:Cf ((j:Int)*(w:Int))=((j*w:Nat):Int):=by rw[← Int.natCast_mul]; exact jB (by omega)
 have e2:((j*w:Nat):Int).tdiv 64=((j*w/64:Nat):Int):=rfl
 have e3:((j*w:Nat):Int).tmod 64=((j*w % 64:Nat):Int):=rfl
 have e4:Cf ((j*w/64:Nat):Int)=((j*w/64:Nat):Int):=jB (by omega)
 rw[Uf,MW]
 try simp only[sw,Ad,Af,Ae]
 simp only[Option.bind_some,Nat.zero_add,h.ldW,h.ldR,e1,e2,e3,e4,Int.toNat_natCast,Nat.mul_one]
 rw[if_neg (by decide),if_pos (by omega)]
 simp only[h.ldX h1,Option.bind_some,tJ _ h,Aj]
 rw[if_neg (by decide),if_neg (by omega),if_neg (by decide),if_neg (by omega),Aeq _ _ _ _ (Nat.mod_lt _ (by decide:0<64))]
 simp only[K3,hrow]
 rw[if_pos (by simpa [rowOf] using h1)]
 simp only[Option.bind_some,rowOf,GR,List.map_set]
theorem DU.put (h:DU σ tb wb e w ws) (hne:tb≠wb) (j v:Nat):DU (σ.set wb (.cells (rowOf (GR w ws j v)) Bt true)) tb wb e w (GR w ws j v) where
 tab:=by
  rw[List.getElem?_set_ne (Ne.symm hne),h.tab,Hg]
 row:=by rw[List.getElem?_set_self h.lt.2]
 len:=by rw[Hg]; exact h.len
 pos:=h.pos
 top:=h.top
 okw:=h.okw
theorem nA (k:Nat) (h:DU σ tb wb e w ws) (v:Nat):∀ (n j:Nat),e<n+j→0<n→D4 (k+2) n (some ⟨tb,0,none⟩) (v:Int) (j:Int) σ =
  some (match Yv (Ec w ws) e v j with | some i=>(.ret,[.int .i64 (i:Int),.int .i64 0],σ) | none=>(.exit 0,[],σ))
 | 0,j,hn,h0=>by omega
 | n+1,j,hn,h0=>by
   rw[PJ,Jq]
   try simp only[sw,Ad,Af,Ae]
   rw[Yv]
   simp only[Option.bind_some,h.ldE,Nat.zero_add,Nat.add_zero]
   by_cases hj:j<e
   ·have ht:=h.top
    simp only[show decide ((j:Int)<(e:Int))=true from by simpa using hj,cond_true,xE _ h hj,Option.bind_some,Aj,hj,dif_pos]
    by_cases hv:Ec w ws j=v
    ·simp[hv]
    ·have hv':((Ec w ws j:Int) == (v:Int))=false:=by simp; omega
     have e1:Cf ((j:Int)+1)=((j+1:Nat):Int):=Ak (by unfold AU; omega)
     simp only[hv',cond_false,hv,if_false,e1]
     exact nA k h v n (j+1) (by omega) (by omega)
   ·simp only[show decide ((j:Int)<(e:Int))=false from by simpa using hj,cond_false,hj,dif_neg,not_false_iff]
theorem yK (k:Nat) (hk:5000≤k) (h:DU σ tb wb e w ws) (i:Int) (v:Nat) (hi:i<4294967296):Da (k+3) (some ⟨tb,0,none⟩) i (v:Int) σ =
  some (match Yv (Ec w ws) e v i.toNat with | some j=>.tuple #[.int .i64 (j:Int),.int .i64 0] | none=>.tuple #[.int .i64 0,.int .i64 4],σ):=by
 have ht:=h.top
 have e0:(if (0:Int)>i then (0:Int) else i)=(i.toNat:Int):=by split <;> omega
 rw[SY,LZ]
 try simp only[sw,Ad,Af,Ae]
 rw[iZ _ h]
 simp only[Option.bind_some,Ar,Bool.not_true,cond_false,e0]
 rw[nA k h v (k+2) i.toNat (by omega) (by omega)]
 cases Yv (Ec w ws) e v i.toNat with
 | none=>simp
 | some j=>simp[j9]
theorem ns (k:Nat) (h:DU σ tb wb e w ws) (v:Nat):∀ (n j:Nat),j≤e→j<n→D3 (k+2) n (some ⟨tb,0,none⟩) (v:Int) ((j:Int)-1) σ =
  some (match Ys (Ec w ws) v j with | some i=>(.ret,[.int .i64 (i:Int),.int .i64 0],σ) | none=>(.exit 0,[],σ))
 | 0,j,hj,hn=>by omega
 | n+1,0,hj,hn=>by
   rw[Kq,GW]
   try simp only[sw,Ad,Af,Ae]
   rw[Ys]
   rfl
 | n+1,j+1,hj,hn=>by
   have ht:=h.top
   rw[Kq,GW]
   try simp only[sw,Ad,Af,Ae]
   rw[Ys]
   have e1:((j+1:Nat):Int)-1=(j:Int):=by omega
   simp only[e1,show decide ((j:Int)≥0)=true from by simp,cond_true,xE _ h (show j<e by omega),Option.bind_some,Aj]
   by_cases hv:Ec w ws j=v
   ·simp[hv]
   ·have hv':((Ec w ws j:Int) == (v:Int))=false:=by simp; omega
    have e2:Cf ((j:Int)-1)=(j:Int)-1:=Ak (by unfold AU; omega)
    simp only[hv',cond_false,hv,if_false,e2]
    exact ns k h v n j (by omega) (by omega)
theorem Afr (k:Nat) (hk:5000≤k) (h:DU σ tb wb e w ws) (i:Int) (v:Nat):FK (k+3) (some ⟨tb,0,none⟩) i (v:Int) σ =
  some (match Ys (Ec w ws) v (min i.toNat e) with | some j=>.tuple #[.int .i64 (j:Int),.int .i64 0] | none=>.tuple #[.int .i64 0,.int .i64 4],σ):=by
 have ht:=h.top
 have e0:Cf ((if (e:Int)<(if (0:Int)>i then (0:Int) else i) then (e:Int) else (if (0:Int)>i then (0:Int) else i))-1)=((min i.toNat e:Nat):Int)-1:=by
  rw[Ak (by unfold AU; split <;> split <;> omega)]
  split <;> split <;> omega
 rw[SX,LY]
 try simp only[sw,Ad,Af,Ae]
 rw[iZ _ h]
 simp only[Option.bind_some,Ar,Bool.not_true,cond_false,Nat.zero_add,h.ldE,Nat.add_zero,e0]
 rw[ns k h v (k+2) (min i.toNat e) (Nat.min_le_right _ _) (by omega)]
 cases Ys (Ec w ws) v (min i.toNat e) with
 | none=>simp
 | some j=>simp[j9]
theorem Afi (k:Nat) (h:DU σ tb wb e w ws) (v:Int):Fw (k+2) (some ⟨tb,0,none⟩) v σ=some (.bool (decide (0≤v∧v≤((2 ^ w-1:Nat):Int))),σ):=by
 rw[Rz,KP]
 try simp only[sw,Ad,Af,Ae]
 by_cases h0:0≤v
 ·simp only[show decide (v≥0)=true from by simpa using h0,cond_true,tJ _ h,Option.bind_some,Aj]
  simp[h0]
 ·simp only[show decide (v≥0)=false from by simpa using h0,cond_false,Option.bind_some]
  simp[h0]
theorem vd (k:Nat) (h:DU σ tb wb e w ws) (v:Int) (c:Nat) (hc:L8 σ c 0=some (some ⟨tb,0,none⟩)):C8 (k+3) v (some ⟨c,0,none⟩) σ=some (.bool (!decide (0≤v∧v≤((2 ^ w-1:Nat):Int))),σ):=by
 rw[NY,I8]
 try simp only[sw,Ad,Af,Ae]
 simp only[Option.bind_some,hc,Afi _ h,Ar]
theorem ve (k:Nat) (h:DU σ tb wb e w ws) (i v:Int) (vb:Nat) (hv:Dg .i64 σ vb 0=some v) (hvb:vb<σ.length):∃ τ,D7 (k+8) (some ⟨tb,0,none⟩) i (some ⟨vb,0,none⟩,1,1) σ =
  some (.int .i64 (if (0≤i∧i<(e:Int))∧(0≤v∧v≤((2 ^ w-1:Nat):Int)) then 0 else 1),σ++τ):=by
 rw[Rx,KN]
 try simp only[sw,Ad,Af,Ae]
 simp only[AM]
 refine ⟨[.cells [.pointer (some ⟨tb,0,none⟩)] Of true], ?_⟩
 ·have e1:∀ T,L8 (σ++[.cells [.pointer (some ⟨tb,0,none⟩)] T true]) σ.length 0=some (some ⟨tb,0,none⟩):=by intro T; simp[L8,Gi,NJ]
  have h1:=fun o=>h.app [o]
  have e2:∀ o,Dg .i64 (σ++[o]) vb 0=some v:=by intro o; rw[dI _ _ _ hvb,hv]
  simp only[e1,Option.bind_some,iZ _ (h1 _),wI _ (h1 _),Ar,Bool.not_true,cond_false]
  by_cases hi:0≤i∧i<(e:Int)
  ·simp only[hi,decide_true,and_self,true_and,Bool.not_true,cond_false]
   rw[Hu,EN]
   try simp only[sw,Ad,Af,Ae]
   rw[IQ,FF]
   try simp only[sw,Ad,Af,Ae]
   rw[DE,CK]
   try simp only[sw,Ad,Af,Ae]
   simp only[show decide ((0:Int)<((1:Nat):Int))=true from rfl,cond_true,show ((0:Int)≤0∧(0:Int)<((1:Nat):Int))=True from by simp,if_true,Option.bind_some,Int.toNat_zero,Nat.zero_mul,Nat.add_zero,e2]
   simp only[SJ,if_true,vd _ (h1 _) v σ.length (e1 _),Option.bind_some,Ar]
   by_cases hv2:0≤v∧v≤((2 ^ w-1:Nat):Int)
   ·simp only[hv2,decide_true,and_self,Bool.not_true,cond_false,if_true]
    rw[DE,CK]
    try simp only[sw,Ad,Af,Ae]
    rfl
   ·simp only[hv2,decide_false,Bool.not_false,cond_true,if_false]
    rfl
  ·simp only[hi,decide_false,Bool.not_false,cond_true,false_and,if_false,Option.bind_some]
theorem nQ (k:Nat) (h:DU σ tb wb e w ws) {j v:Nat} (hj:j<e) (hv:v<2 ^ w):∃ τ,Br (k+9) (some ⟨tb,0,none⟩) (j:Int) (v:Int) σ =
  some (.int .i64 0,(σ++τ).set wb (.cells (rowOf (GR w ws j v)) Bt true)):=by
 have h1:=h.app [.cells [.int .i64 (v:Int)] As true]
 obtain ⟨τ,hc⟩:=ve k h1 (j:Int) (v:Int) σ.length (by simp[Dg,Gi,Ml]) (by simp)
 refine ⟨[.cells [.int .i64 (v:Int)] As true]++τ, ?_⟩
 rw[Ud,MU]
 try simp only[sw,Ad,Af,Ae]
 simp only[AM]
 rw[hc,if_pos (by have:=Nat.two_pow_pos w; omega)]
 simp only[Option.bind_some,Aj]
 rw[Aep (k+6) (h1.app τ) hj]
 simp only[bne_self_eq_false,cond_false,Option.bind_some,M8,List.append_assoc]
end Go.Proofs.YtjbledomkmdkmaaGreat
end
section
namespace Go.Proofs.YtjbledomkmdkmaaGreat
open Go Go.AX
noncomputable local instance qHV:A9:=Aw
local instance nHV:Kn:=⟨true⟩
def valid (a b c:Int):Bool:=decide (0≤a∧a≤15∧0≤b∧b≤200∧0≤c∧c≤3∧(c=1→1≤a)∧(c=2→2≤a))
def words (a b c:Int):Int:=bif valid a b c then (2+a+b+1)/2*2 else 0
theorem fq (k:Nat) (a b c:Int) (σ:Aa):mn (EB (k+1) a b c σ) σ (.bool (valid a b c)):=by
 simp only[mn,ZY,U3,AM,BJ,Nat.zero_add,List.getElem?_cons_zero,List.getElem?_cons_succ,Option.bind_some,Aj,vN,sw,Ad,Af,Ae]
 refine ⟨_,congrArg some (Prod.ext ?_ rfl)⟩
 refine congrArg Value.bool ?_
 unfold valid
 rw[Bool.eq_iff_iff]
 simp[Bool.cond_eq_ite]
 omega
theorem ft (k:Nat) (a b c:Int) (σ:Aa):mn (FH (k+2) a b c σ) σ (.int .i64 (words a b c)):=by
 unfold mn
 rw[ZZ,U4]
 try simp only[sw,Ad,Af,Ae]
 simp only[AM,BJ,Nat.zero_add,List.getElem?_cons_zero,List.getElem?_cons_succ,Option.bind_some,Aj]
 rw[(fq _ _ _ _ _).eq]
 simp only[Option.bind_some,Ar,GK,List.getElem?_cons_zero,List.getElem?_cons_succ,Aj]
 unfold words
 rcases Bool.eq_false_or_eq_true (valid a b c) with hv | hv
 rotate_left
 ·simp only[hv,Bool.not_false,cond_true,cond_false,List.append_assoc]
  exact ⟨_,rfl⟩
 ·simp only[hv,Bool.not_true,cond_true,cond_false,List.append_assoc]
  simp[valid] at hv
  simp only[show ((2:Int)=0)=False from by simp,if_false]
  refine ⟨_,congrArg some (Prod.ext (congrArg (Value.int .i64) ?_) rfl)⟩
  have hi:=hv
  simp only[Cf]
  have e1:IntKind.i64.wrap (2+a)=2+a:=by rw[IntKind.wrap_i64]; omega
  have e2:IntKind.i64.wrap (2+a+b)=2+a+b:=by rw[IntKind.wrap_i64]; omega
  have e3:IntKind.i64.wrap (2+a+b+1)=2+a+b+1:=by rw[IntKind.wrap_i64]; omega
  rw[e1,e2,e3,Int.tdiv_eq_ediv_of_nonneg (by omega),IntKind.wrap_i64,IntKind.wrap_i64]
  omega
end Go.Proofs.YtjbledomkmdkmaaGreat
end
section
namespace Go.Proofs.YtjbledomkmdkmaaGreat
open Go Go.AX
noncomputable local instance qCH:A9:=Aw
local instance nCH:Kn:=⟨true⟩
structure DD where
 hb:Nat
 bl:Nat
 wd:Nat
 st:Nat
 sw:Nat
 pn:Nat
 pw:Nat
 pl:Nat
 fw:Nat
def DD.l (i:DD):List Nat:=[i.hb,i.bl,i.wd,i.st,i.sw,i.pn,i.pw,i.pl,i.fw]
structure HM where
 bls:List (Int × Int)
 wds:List Int
 stw:List (BitVec 64)
 pnw:List (BitVec 64)
 pl:List (Int × Int)
 fw:List (Int × Int)
 births:Int
def Dd:List (Int × Int)→List Value
 | []=>[]
 | b::l=>.int .i64 b.1 :: .int .i64 b.2::Dd l
def Bm (l:List Int):List Value:=l.map fun n=>.int .i64 n
def au (l:List (Int × Int)):List (Int × Value):=l.map fun p=>(p.1,.int .i64 p.2)
structure An (σ:Aa) (i:DD) (m:HM):Prop where
 hp:σ[i.hb]?=some (.cells [.slice (some ⟨i.bl,0,none⟩) m.bls.length m.bls.length,.slice (some ⟨i.wd,0,none⟩) m.wds.length m.wds.length,.pointer (some ⟨i.st,0,none⟩),.pointer (some ⟨i.pn,0,none⟩),.map (some i.pl),.map (some i.fw),.int .i64 m.births] FQ true)
 bl:σ[i.bl]?=some (.cells (Dd m.bls) Gc true)
 wd:σ[i.wd]?=some (.cells (Bm m.wds) D9 true)
 st:DU σ i.st i.sw (32*m.bls.length) 1 m.stw
 pn:DU σ i.pn i.pw (32*m.bls.length) 1 m.pnw
 pl:σ[i.pl]?=some (.map (au m.pl))
 fw:σ[i.fw]?=some (.map (au m.fw))
 nb:2≤m.bls.length
 nt:m.bls.length≤64
 wl:m.wds.length=64*m.bls.length
 nd:i.l.Nodup
 wi:∀ a,AU (m.wds.getD a 0)
structure Bu (i:DD) (σ σ':Aa):Prop where
 len:σ.length≤σ'.length
 same:∀ j,j<σ.length→j ∉ i.l→σ'[j]?=σ[j]?
theorem Bu.refl (i:DD) (σ:Aa):Bu i σ σ:=⟨Nat.le_refl _,fun _ _ _=>rfl⟩
theorem Bu.trans {i:DD} {a b c:Aa} (h:Bu i a b) (g:Bu i b c):Bu i a c:=
 ⟨Nat.le_trans h.len g.len,fun j h1 h2=>(g.same j (Nat.lt_of_lt_of_le h1 h.len) h2).trans (h.same j h1 h2)⟩
theorem Bu.app (i:DD) (σ τ:Aa):Bu i σ (σ++τ):=⟨by simp,fun j h _=>List.getElem?_append_left h⟩
theorem Bu.set {i:DD} {b:Nat} (σ:Aa) (o:A6) (h:b ∈ i.l):Bu i σ (σ.set b o):=
 ⟨by simp,fun j _ h2=>List.getElem?_set_ne (fun e=>h2 (by rw[← e]; exact h))⟩
variable {σ:Aa} {i:DD} {m:HM}
theorem An.lt (h:An σ i m):∀ j ∈ i.l,j<σ.length:=by
 intro j hj
 simp only[DD.l,List.mem_cons,List.not_mem_nil,or_false] at hj
 rcases hj with rfl | rfl | rfl | rfl | rfl | rfl | rfl | rfl | rfl
 ·exact Al h.hp
 ·exact Al h.bl
 ·exact Al h.wd
 ·exact h.st.lt.1
 ·exact h.st.lt.2
 ·exact h.pn.lt.1
 ·exact h.pn.lt.2
 ·exact Al h.pl
 ·exact Al h.fw
theorem An.AG {σ':Aa} (h:An σ i m) (hs:∀ j ∈ i.l,σ'[j]?=σ[j]?):An σ' i m where
 hp:=by rw[hs _ (by simp[DD.l])]; exact h.hp
 bl:=by rw[hs _ (by simp[DD.l])]; exact h.bl
 wd:=by rw[hs _ (by simp[DD.l])]; exact h.wd
 st:=h.st.same (hs _ (by simp[DD.l])) (hs _ (by simp[DD.l]))
 pn:=h.pn.same (hs _ (by simp[DD.l])) (hs _ (by simp[DD.l]))
 pl:=by rw[hs _ (by simp[DD.l])]; exact h.pl
 fw:=by rw[hs _ (by simp[DD.l])]; exact h.fw
 nb:=h.nb
 nt:=h.nt
 wl:=h.wl
 nd:=h.nd
 wi:=h.wi
theorem An.app (τ:Aa) (h:An σ i m):An (σ++τ) i m:=h.AG fun j hj=>List.getElem?_append_left (h.lt j hj)
theorem An.K2 (h:An σ i m):Hx σ i.hb 0=some (some ⟨i.bl,0,none⟩,m.bls.length,m.bls.length):=by simp[Hx,Gi,h.hp,H7]
theorem An.GJ (h:An σ i m):Hx σ i.hb 1=some (some ⟨i.wd,0,none⟩,m.wds.length,m.wds.length):=by simp[Hx,Gi,h.hp,H7]
theorem An.kr (h:An σ i m):L8 σ i.hb 2=some (some ⟨i.st,0,none⟩):=by simp[L8,Gi,h.hp,NJ]
theorem An.uu (h:An σ i m):L8 σ i.hb 3=some (some ⟨i.pn,0,none⟩):=by simp[L8,Gi,h.hp,NJ]
theorem An.ld4 (h:An σ i m):ldM σ i.hb 4=some (some i.pl):=by simp[ldM,Gi,h.hp,uv]
theorem An.ld5 (h:An σ i m):ldM σ i.hb 5=some (some i.fw):=by simp[ldM,Gi,h.hp,uv]
theorem An.ld6 (h:An σ i m):Dg .i64 σ i.hb 6=some m.births:=by simp[Dg,Gi,h.hp,Ml]
theorem An.ldW (h:An σ i m) {a:Nat} (ha:a<m.wds.length):Dg .i64 σ i.wd a=some (m.wds.getD a 0):=by
 simp[Dg,Gi,h.wd,Bm,Ml,List.getElem?_eq_getElem ha]
theorem KU:∀ l:List (Int × Int),(Dd l).length=2*l.length
 | []=>rfl
 | b::l=>by simp[Dd,KU l]; omega
theorem dA:∀ (l:List (Int × Int)) (b:Nat),b<l.length→(Dd l)[2*b]?=some (.int .i64 (l.getD b (0,0)).1)∧(Dd l)[2*b+1]?=some (.int .i64 (l.getD b (0,0)).2)
 | [],b,h=>by simp at h
 | x::l,0,h=>by simp[Dd]
 | x::l,b+1,h=>by
   have:=dA l b (by simpa using h)
   have e1:2*(b+1)=2*b+1+1:=by omega
   simp only[Dd,e1,List.getElem?_cons_succ,List.getD_cons_succ]
   exact this
theorem An.lO (h:An σ i m) {b:Nat} (hb:b<m.bls.length):Dg .i64 σ i.bl (b*2)=some (m.bls.getD b (0,0)).1∧Dg .i64 σ i.bl (b*2+1)=some (m.bls.getD b (0,0)).2:=by
 obtain ⟨h1,h2⟩:=dA m.bls b hb
 rw[Nat.mul_comm] at h1 h2
 simp[Dg,Gi,h.bl,Ml,h1,h2]
abbrev AV (i:DD):Option Addr:=some ⟨i.hb,0,none⟩
theorem Lt (k:Nat) (h:An σ i m):A7 (k+1) (AV i) σ=some (.bool true,σ):=by
 have:=h.nb
 rw[TW,MO]
 try simp only[sw,Ad,Af,Ae]
 simp only[oC,Option.bind_some,Bool.not_false,cond_true,Nat.zero_add,Nat.add_zero,h.K2]
 simp only[show decide (((m.bls.length:Nat):Int)>0)=true from by simp; omega]
theorem zJ (k:Nat) (h:An σ i m):Gy (k+2) (AV i) σ=some (.int .i64 m.births,σ):=by
 rw[aJ,ON]
 try simp only[sw,Ad,Af,Ae]
 rw[Lt _ h]
 simp only[Option.bind_some,Ar,Bool.not_true,cond_false,Nat.zero_add,h.ld6]
def Start (m:HM) (j:Nat):Prop:=j<32*m.bls.length∧Ec 1 m.stw j=1
instance (m:HM) (j:Nat):Decidable (Start m j):=inferInstanceAs (Decidable (_∧_))
def Ea (m:HM) (a:Int):Bool:=decide (0≤a∧a.toNat % 2=0∧Start m (a.toNat/2))
theorem fZ (k:Nat) (h:An σ i m) (a:Int) (ha:AU a):AJ (k+4) (AV i) a σ=some (.bool (Ea m a),σ):=by
 rw[Vr,Oo]
 try simp only[sw,Ad,Af,Ae]
 rw[Lt _ h]
 simp only[Option.bind_some,Ar,cond_true]
 unfold Ea
 by_cases h0:0≤a
 ·obtain ⟨n,rfl⟩:∃ n:Nat,a=(n:Int):=⟨a.toNat,by omega⟩
  simp only[show decide ((n:Int)≥0)=true from by simp,cond_true]
  rw[if_neg (by decide)]
  simp only[Option.bind_some]
  have t1:(n:Int).tmod 2=((n % 2:Nat):Int):=rfl
  have t2:(n:Int).tdiv 2=((n/2:Nat):Int):=rfl
  rw[t1,t2]
  by_cases h1:n % 2=0
  ·have e1:(((n % 2:Nat):Int) == 0)=true:=by simp; omega
   simp only[e1,cond_true,Nat.zero_add,h.kr,Option.bind_some]
   have e2:Cf ((n/2:Nat):Int)=((n/2:Nat):Int):=Ak (by unfold AU at *; omega)
   rw[if_neg (by decide)]
   simp only[e2,wQ _ h.st,Option.bind_some,Aj]
   congr 3
   by_cases h2:n/2<32*m.bls.length
   ·rw[if_pos (by omega)]
    simp[Start,h1,h2]
    rw[Bool.eq_iff_iff]; simp
    rw[show ((n:Int)/2).toNat=n/2 from by omega]; omega
   ·rw[if_neg (by omega)]
    simp[Start,h2]
  ·have e1:(((n % 2:Nat):Int) == 0)=false:=by simp; omega
   simp only[e1,cond_false,Option.bind_some]
   simp[h1]
 ·simp[show decide (a≥0)=false from by simpa using h0,h0]
theorem Ek {a:Int} (h:Ea m a=true):∃ j,a=((2*j:Nat):Int)∧Start m j:=by
 unfold Ea at h
 rw[decide_eq_true_eq] at h
 exact ⟨a.toNat/2,by omega,h.2.2⟩
theorem dF {j:Nat} (h:Start m j):Ea m ((2*j:Nat):Int)=true:=by
 unfold Ea
 rw[decide_eq_true_eq]
 refine ⟨by omega,by omega, ?_⟩
 rw[show (((2*j:Nat):Int)).toNat/2=j from by omega]; exact h
theorem UQ (k:Nat) (h:An σ i m) (a:Int) (ha:AU a):Bd (k+5) (AV i) a σ=some (.int .i64 (if Ea m a then 0 else 4),σ):=by
 rw[Rv,KK]
 try simp only[sw,Ad,Af,Ae]
 rw[Lt _ h]
 simp only[Option.bind_some,Ar,Bool.not_true,cond_false,fZ _ h a ha]
 cases Ea m a <;> rfl
def XF (n:Int):Nat:=(words (n.tmod 16) ((n.tmod 4096).tdiv 16) (n.tdiv 4096)).toNat
def sz (m:HM) (j:Nat):Nat:=XF (m.wds.getD (2*j+1) 0)
theorem UO (a b c:Int):0≤words a b c∧words a b c≤218:=by
 unfold words
 cases hv:valid a b c with
 | false=>simp
 | true=>
   simp[valid] at hv
   simp only[cond_true]
   omega
theorem pY (n:Int):XF n≤218:=by
 have:=UO (n.tmod 16) ((n.tmod 4096).tdiv 16) (n.tdiv 4096)
 unfold XF; omega
theorem uk (n:Int):(XF n:Int)=words (n.tmod 16) ((n.tmod 4096).tdiv 16) (n.tdiv 4096):=by
 have:=UO (n.tmod 16) ((n.tmod 4096).tdiv 16) (n.tdiv 4096)
 unfold XF; omega
theorem pN (k:Nat) (n:Int) (hn:AU n) (σ:Aa):∃ τ,FI (k+1) n σ=some (.agg #[.int .i64 (n.tmod 16),.int .i64 ((n.tmod 4096).tdiv 16),.int .i64 (n.tdiv 4096)],σ++τ):=by
 rw[aa,U5]
 try simp only[sw,Ad,Af,Ae]
 simp only[AM]
 have e1:Cf ((n.tmod 4096).tdiv 16)=(n.tmod 4096).tdiv 16:=Ak (by unfold AU at *; have:=Int.tmod_lt_of_pos n (show (0:Int)<4096 by decide); have h2:=Int.lt_tmod_of_pos n (show (0:Int)<4096 by decide); rw[show (n.tmod 4096).tdiv 16=(n.tmod 4096).tdiv 16 from rfl]; have:=Int.natAbs_tdiv_le_natAbs (n.tmod 4096) 16; omega)
 have e2:Cf (n.tdiv 4096)=n.tdiv 4096:=Ak (by unfold AU at *; have h3:(n.tdiv 4096).natAbs=n.natAbs/4096:=Int.natAbs_tdiv n 4096; omega)
 rw[if_neg (by decide),if_neg (by decide),if_neg (by decide),if_neg (by decide),e1,e2]
 simp[XJ,ZA,AL,Og]
theorem z9 (k:Nat) (h:An σ i m) {j:Nat} (hj:j<32*m.bls.length):∃ τ,BP (k+3) (AV i) ((2*j:Nat):Int) σ=some (.int .i64 (sz m j:Int),σ++τ):=by
 have hw:=h.wl
 have ht:=h.nt
 have hn:=h.wi (2*j+1)
 obtain ⟨τ,hs⟩:=pN (k+1) (m.wds.getD (2*j+1) 0) hn σ
 obtain ⟨τ',hq⟩:=ft k ((m.wds.getD (2*j+1) 0).tmod 16) (((m.wds.getD (2*j+1) 0).tmod 4096).tdiv 16) ((m.wds.getD (2*j+1) 0).tdiv 4096) (σ++τ)
 refine ⟨τ++τ', ?_⟩
 have e1:Cf (((2*j:Nat):Int)+1)=((2*j+1:Nat):Int):=Ak (by unfold AU; omega)
 rw[TX,MP]
 try simp only[sw,Ad,Af,Ae]
 simp only[Option.bind_some,Nat.zero_add,h.GJ,e1,Int.toNat_natCast,Nat.mul_one]
 rw[if_pos (by omega)]
 simp only[Option.bind_some,h.ldW (show 2*j+1<m.wds.length by omega),hs,Lm,hq,Aj,List.append_assoc]
 unfold sz
 rw[uk]
def oK (m:HM) (n:Nat):Option Nat:=
 match Ys (Ec 1 m.stw) 1 (min (n/2+1) (32*m.bls.length)) with
 | none=>none
 | some j=>if 2*j+sz m j≤n then none else some j
def Yn (m:HM) (a:Int):Option Nat:=if 0≤a∧a<(m.wds.length:Int) then oK m a.toNat else none
theorem Afp (k:Nat) (hk:5000≤k) (h:An σ i m) (a:Int):∃ τ,Gz (k+10) (AV i) a σ =
  some (match Yn m a with | some j=>.tuple #[.int .i64 ((2*j:Nat):Int),.int .i64 0] | none=>.tuple #[.int .i64 0,.int .i64 4],σ++τ):=by
 have hw:=h.wl
 have ht:=h.nt
 rw[TR,MJ]
 try simp only[sw,Ad,Af,Ae]
 simp only[Lt _ h,Option.bind_some,Ar,Bool.not_true,cond_false]
 by_cases h0:0≤a
 rotate_left
 ·refine ⟨[], ?_⟩
  have:¬ (0≤a∧a<(m.wds.length:Int)):=by omega
  simp only[show decide (a<0)=true from by simp; omega,cond_true,Option.bind_some,Yn,this,if_false,List.append_nil]
 simp only[show decide (a<0)=false from by simp; omega,cond_false,Nat.zero_add,h.GJ,Option.bind_some]
 by_cases h1:a<(m.wds.length:Int)
 rotate_left
 ·refine ⟨[], ?_⟩
  have:¬ (0≤a∧a<(m.wds.length:Int)):=by omega
  simp only[show decide (a≥((m.wds.length:Nat):Int))=true from by simp; omega,cond_true,Yn,this,if_false,List.append_nil]
 obtain ⟨n,rfl⟩:∃ n:Nat,a=(n:Int):=⟨a.toNat,by omega⟩
 have t2:(n:Int).tdiv 2=((n/2:Nat):Int):=rfl
 have e1:Cf ((n/2:Nat):Int)=((n/2:Nat):Int):=Ak (by unfold AU; omega)
 have e2:Cf (((n/2:Nat):Int)+1)=((n/2+1:Nat):Int):=Ak (by unfold AU; omega)
 simp only[show decide ((n:Int)≥((m.wds.length:Nat):Int))=false from by simp; omega,cond_false,h.kr,Option.bind_some,t2,e1,e2]
 rw[if_neg (by decide)]
 have hl:=Afr (k+6) (by omega) h.st ((n/2+1:Nat):Int) 1
 rw[show ((1:Nat):Int)=1 from rfl,Int.toNat_natCast] at hl
 rw[hl]
 simp only[Yn,oK,show (0≤(n:Int)∧(n:Int)<(m.wds.length:Int)) from ⟨h0,h1⟩,and_self,if_true,Int.toNat_natCast,Option.bind_some]
 cases hq:Ys (Ec 1 m.stw) 1 (min (n/2+1) (32*m.bls.length)) with
 | none=>
   refine ⟨[], ?_⟩
   simp[Fs]
 | some j=>
   obtain ⟨q1,q2,_⟩:=Z8 hq
   obtain ⟨τ,hs⟩:=z9 (k+6) h (show j<32*m.bls.length by omega)
   refine ⟨τ, ?_⟩
   have e3:Cf (2*(j:Int))=((2*j:Nat):Int):=Ak (by unfold AU; omega)
   have hz:=pY (m.wds.getD (2*j+1) 0)
   have e4:Cf (((2*j:Nat):Int)+(sz m j:Int))=((2*j+sz m j:Nat):Int):=Ak (by unfold AU; unfold sz; omega)
   simp only[Fs,bne_self_eq_false,cond_false,e3,hs,Option.bind_some,Aj,e4]
   by_cases hc:2*j+sz m j≤n
   ·simp only[show decide ((n:Int)≥((2*j+sz m j:Nat):Int))=true from by simp; omega,cond_true,hc,if_true]
   ·simp only[show decide ((n:Int)≥((2*j+sz m j:Nat):Int))=false from by simp; omega,cond_false,hc,if_false]
def getM (l:List (Int × Int)) (k:Int):Option Int:=(l.find? fun e=>k == e.1).map (·.2)
theorem Acg (k:Nat) (h:An σ i m) (a:Int) (ha:AU a):FG (k+6) (AV i) a σ=some (if Ea m a then .tuple #[.int .i64 (m.wds.getD a.toNat 0),.int .i64 0] else .tuple #[.int .i64 0,.int .i64 4],σ):=by
 have hw:=h.wl
 rw[bS,Qh]
 try simp only[sw,Ad,Af,Ae]
 simp only[UQ _ h a ha,Option.bind_some,Aj]
 cases hh:Ea m a with
 | false=>rfl
 | true=>
   obtain ⟨j,rfl,hj,_⟩:=Ek hh
   have hl:((2*j:Nat):Int).toNat<m.wds.length:=by omega
   simp only[if_true,bne_self_eq_false,cond_false,Nat.zero_add,h.GJ,Option.bind_some]
   rw[if_pos (by omega)]
   simp only[Option.bind_some,Nat.mul_one,Nat.zero_add,h.ldW hl]
def Lz (m:HM) (b:Nat):Nat→Nat→Nat
 | 0,n=>n
 | f+1,n=>if (m.bls.getD b (0,0)).1=2∧b+n<m.bls.length∧(m.bls.getD (b+n) (0,0)).1=3 then Lz m b f (n+1) else n
theorem yl (k:Nat) (h:An σ i m) {b:Nat} (hb:b<m.bls.length):∀ (f n:Nat),m.bls.length≤b+n+f→n≤m.bls.length→DN k (f+1) (AV i) (b:Int) (n:Int) σ=some (.exit 0,[.int .i64 (Lz m b f n:Int)],σ):=by
 intro f
 have ht:=h.nt
 induction f with
 | zero=>
   intro n hn hn2
   rw[KY,H3]
   try simp only[sw,Ad,Af,Ae]
   simp only[Option.bind_some,Nat.zero_add,Nat.add_zero,h.K2,Int.toNat_natCast]
   rw[if_pos (by omega)]
   have e1:Cf ((b:Int)+(n:Int))=((b+n:Nat):Int):=Ak (by unfold AU; omega)
   simp only[Option.bind_some,(h.lO hb).1,e1,Lz]
   by_cases h2:(m.bls.getD b (0,0)).1=2
   ·have q2:((m.bls.getD b (0,0)).1 == 2)=true:=by simpa using h2
    have q3:decide (((b+n:Nat):Int)<((m.bls.length:Nat):Int))=false:=by simp; omega
    simp only[q2,cond_true,q3,cond_false,Option.bind_some]
   ·have:((m.bls.getD b (0,0)).1 == 2)=false:=by simpa using h2
    simp only[this,cond_false,Option.bind_some]
 | succ f ih=>
   intro n hn hn2
   rw[KY,H3]
   try simp only[sw,Ad,Af,Ae]
   simp only[Option.bind_some,Nat.zero_add,Nat.add_zero,h.K2,Int.toNat_natCast]
   rw[if_pos (by omega)]
   have e1:Cf ((b:Int)+(n:Int))=((b+n:Nat):Int):=Ak (by unfold AU; omega)
   have e2:Cf ((n:Int)+1)=((n+1:Nat):Int):=Ak (by unfold AU; omega)
   simp only[Option.bind_some,(h.lO hb).1,e1,e2,Int.toNat_natCast]
   by_cases h2:(m.bls.getD b (0,0)).1=2
   ·have q2:((m.bls.getD b (0,0)).1 == 2)=true:=by simpa using h2
    simp only[q2,cond_true,Option.bind_some]
    by_cases h3:b+n<m.bls.length
    ·simp only[show decide (((b+n:Nat):Int)<((m.bls.length:Nat):Int))=true from by simp; omega,cond_true,Option.bind_some,h.K2]
     rw[if_pos (by omega)]
     simp only[Option.bind_some,Nat.zero_add,Nat.add_zero,(h.lO h3).1]
     by_cases h4:(m.bls.getD (b+n) (0,0)).1=3
     ·have q4:((m.bls.getD (b+n) (0,0)).1 == 3)=true:=by simpa using h4
      simp only[q4,cond_true,Option.bind_some]
      rw[Lz,if_pos ⟨h2,h3,h4⟩]
      exact ih (n+1) (by omega) (by omega)
     ·have q4:((m.bls.getD (b+n) (0,0)).1 == 3)=false:=by simpa using h4
      simp only[q4,cond_false,Option.bind_some]
      rw[Lz,if_neg (by rintro ⟨_,_,h⟩; exact h4 h)]
    ·simp only[show decide (((b+n:Nat):Int)<((m.bls.length:Nat):Int))=false from by simp; omega,cond_false,Option.bind_some]
     rw[Lz,if_neg (by rintro ⟨_,h,_⟩; exact h3 h)]
   ·have q2:((m.bls.getD b (0,0)).1 == 2)=false:=by simpa using h2
    simp only[q2,cond_false,Option.bind_some]
    rw[Lz,if_neg (by rintro ⟨h,_⟩; exact h2 h)]
theorem gX (m:HM) (b:Nat):∀ (f g n:Nat),m.bls.length≤b+n+f→m.bls.length≤b+n+g→Lz m b f n=Lz m b g n
 | 0,0,n,_,_=>rfl
 | 0,g+1,n,h1,h2=>by
   rw[Lz,Lz,if_neg (by rintro ⟨_,h,_⟩; omega)]
 | f+1,0,n,h1,h2=>by
   rw[Lz,Lz,if_neg (by rintro ⟨_,h,_⟩; omega)]
 | f+1,g+1,n,h1,h2=>by
   rw[Lz,Lz]
   split
   ·exact gX m b f g (n+1) (by omega) (by omega)
   ·rfl
def Ok (m:HM) (b:Nat):Nat:=Lz m b m.bls.length 1
theorem zA (k:Nat) (hk:100≤k) (h:An σ i m) {b:Nat} (hb:b<m.bls.length):EA (k+1) (AV i) (b:Int) σ=some (.int .i64 (Ok m b:Int),σ):=by
 have ht:=h.nt
 have hn:=h.nb
 rw[TY,MQ]
 try simp only[sw,Ad,Af,Ae]
 have:=yl k h hb (k-1) 1 (by omega) (by omega)
 rw[show k-1+1=k from by omega] at this
 rw[show (1:Int)=((1:Nat):Int) from rfl,this]
 simp only[Option.bind_some,if_true,FR]
 unfold Ok
 rw[gX m b (k-1) m.bls.length 1 (by omega) (by omega)]
def Qa (m:HM) (hi:Nat) (but:Int):Nat→Nat→Bool
 | 0,_=>true
 | f+1,x=>if x<hi then (match Yn m (x:Int) with
   | some o=>if ((2*o:Nat):Int)=but then Qa m hi but f (x+2) else false
   | none=>Qa m hi but f (x+2)) else true
theorem xB (k:Nat) (hk:5000≤k) (h:An σ i m) (a wo:Nat) (but:Int) (ha:a<4096) (hwo:wo≤218):∀ (f x:Nat) (τ:Aa),a+wo≤x+2*f→x≤5000 →
  ∃ τ',Dm (k+10) (f+1) (AV i) (a:Int) (wo:Int) but (x:Int) (σ++τ)=some (if Qa m (a+wo) but f x then (.exit 0,[],σ++τ') else (.ret,[.int .i64 8],σ++τ')):=by
 intro f
 have e1:Cf ((a:Int)+(wo:Int))=((a+wo:Nat):Int):=Ak (by unfold AU; omega)
 induction f with
 | zero=>
   intro x τ h1 h2
   refine ⟨τ, ?_⟩
   rw[KX,H2]
   try simp only[sw,Ad,Af,Ae]
   have q:decide ((x:Int)<((a+wo:Nat):Int))=false:=by simp; omega
   simp only[e1,q,cond_false,Qa,if_true]
 | succ f ih=>
   intro x τ h1 h2
   rw[KX,H2]
   try simp only[sw,Ad,Af,Ae]
   by_cases hx:x<a+wo
   ·have q:decide ((x:Int)<((a+wo:Nat):Int))=true:=by simp; omega
    have e2:Cf ((x:Int)+2)=((x+2:Nat):Int):=Ak (by unfold AU; omega)
    obtain ⟨τ1,hF⟩:=Afp k hk (h.app τ) (x:Int)
    obtain ⟨τ2,hih⟩:=ih (x+2) (τ++τ1) (by omega) (by omega)
    rw[← List.append_assoc] at hih
    simp only[e1,e2,q,cond_true,hF,Option.bind_some,Qa,hx,if_true]
    cases hq:Yn m (x:Int) with
    | none=>
      refine ⟨τ2, ?_⟩
      simp only[Fs,show ((4:Int) == 0)=false from rfl,cond_false,Option.bind_some]
      exact hih
    | some o=>
      simp only[Fs,BEq.rfl,cond_true,Option.bind_some]
      by_cases hb:((2*o:Nat):Int)=but
      ·refine ⟨τ2, ?_⟩
       subst hb
       simp only[bne_self_eq_false,cond_false,if_true]
       exact hih
      ·refine ⟨τ++τ1, ?_⟩
       have:(((2*o:Nat):Int) != but)=true:=by simpa using hb
       simp only[this,cond_true,hb,if_false,List.append_assoc,Bool.false_eq_true]
   ·refine ⟨τ, ?_⟩
    have q:decide ((x:Int)<((a+wo:Nat):Int))=false:=by simp; omega
    simp only[e1,q,cond_false,Qa,hx,if_false,if_true]
theorem rK (m:HM) (hi:Nat) (but:Int):∀ (f g x:Nat),hi≤x+2*f→hi≤x+2*g→Qa m hi but f x=Qa m hi but g x
 | 0,0,_,_,_=>rfl
 | 0,g+1,x,h1,h2=>by rw[Qa,Qa,if_neg (by omega)]
 | f+1,0,x,h1,h2=>by rw[Qa,Qa,if_neg (by omega)]
 | f+1,g+1,x,h1,h2=>by
   rw[Qa,Qa]
   have:=rK m hi but f g (x+2) (by omega) (by omega)
   rw[this]
def QB (m:HM) (a:Int) (wo:Nat) (but:Int):Int:=
 if ¬ (0≤a∧a<(m.wds.length:Int)∧a.toNat % 2=0) then 1 else
 let b:=a.toNat/64
 if wo≤32 then (if (m.bls.getD b (0,0)).1≠1∨(a.toNat+wo-1)/64≠b then 5 else if Qa m (a.toNat+wo) but 200 a.toNat then 0 else 8)
 else if (m.bls.getD b (0,0)).1≠2∨a.toNat % 64≠0∨Ok m b≠(wo+63)/64 then 5 else if Qa m (a.toNat+wo) but 200 a.toNat then 0 else 8
theorem Agm (k:Nat) (hk:5000≤k) (h:An σ i m) (a:Int) (wo:Nat) (but:Int) (h0:2≤wo) (hwo:wo≤218):∃ τ,G1 (k+11) (AV i) a (wo:Int) but σ=some (.int .i64 (QB m a wo but),σ++τ):=by
 have hw:=h.wl
 have ht:=h.nt
 rw[TT,MM]
 try simp only[sw,Ad,Af,Ae]
 simp only[Option.bind_some,Nat.zero_add,h.K2,h.GJ]
 by_cases g0:0≤a
 rotate_left
 ·refine ⟨[], ?_⟩
  simp only[show decide (a<0)=true from by simp; omega,cond_true,Option.bind_some,QB,show ¬ (0≤a∧a<(m.wds.length:Int)∧a.toNat % 2=0) from by omega,not_false_eq_true,if_true,List.append_nil]
 by_cases g1:a<(m.wds.length:Int)
 rotate_left
 ·refine ⟨[], ?_⟩
  simp only[show decide (a<0)=false from by simp; omega,cond_false,show decide (a≥((m.wds.length:Nat):Int))=true from by simp; omega,cond_true,Option.bind_some,QB,show ¬ (0≤a∧a<(m.wds.length:Int)∧a.toNat % 2=0) from by omega,not_false_eq_true,if_true,List.append_nil]
 obtain ⟨n,rfl⟩:∃ n:Nat,a=(n:Int):=⟨a.toNat,by omega⟩
 have t1:(n:Int).tmod 2=((n % 2:Nat):Int):=rfl
 have t2:(n:Int).tdiv 64=((n/64:Nat):Int):=rfl
 have t3:(n:Int).tmod 64=((n % 64:Nat):Int):=rfl
 have e1:Cf ((n/64:Nat):Int)=((n/64:Nat):Int):=Ak (by unfold AU; omega)
 have e2:Cf ((n:Int)+(wo:Int))=((n+wo:Nat):Int):=Ak (by unfold AU; omega)
 have e3:Cf (((n+wo:Nat):Int)-1)=((n+wo-1:Nat):Int):=by rw[Ak (by unfold AU; omega)]; omega
 have t4:(((n+wo-1:Nat):Int)).tdiv 64=(((n+wo-1)/64:Nat):Int):=rfl
 have e4:Cf (((n+wo-1)/64:Nat):Int)=(((n+wo-1)/64:Nat):Int):=Ak (by unfold AU; omega)
 have e5:Cf ((wo:Int)+64)=((wo+64:Nat):Int):=Ak (by unfold AU; omega)
 have e6:Cf (((wo+64:Nat):Int)-1)=((wo+63:Nat):Int):=by rw[Ak (by unfold AU; omega)]; omega
 have t5:((wo+63:Nat):Int).tdiv 64=(((wo+63)/64:Nat):Int):=rfl
 have e7:Cf (((wo+63)/64:Nat):Int)=(((wo+63)/64:Nat):Int):=Ak (by unfold AU; omega)
 simp only[show decide ((n:Int)<0)=false from by simp,cond_false,show decide ((n:Int)≥((m.wds.length:Nat):Int))=false from by simp; omega,Option.bind_some,t1,t2,t3,e1,e2,e3,t4,e4,e5,e6,t5,e7]
 rw[if_neg (by decide)]
 simp only[Option.bind_some]
 by_cases g2:n % 2=0
 rotate_left
 ·refine ⟨[], ?_⟩
  have q:(((n % 2:Nat):Int) != 0)=true:=by simp; omega
  simp only[q,cond_true,QB,show ¬ (0≤(n:Int)∧(n:Int)<(m.wds.length:Int)∧(n:Int).toNat % 2=0) from by omega,not_false_eq_true,if_true,List.append_nil]
 have q:(((n % 2:Nat):Int) != 0)=false:=by simp; omega
 have hb:n/64<m.bls.length:=by omega
 obtain ⟨τ,hl⟩:=xB k hk h n wo but (by omega) hwo (k+9) n [] (by omega) (by omega)
 have hm:Qa m (n+wo) but (k+9) n=Qa m (n+wo) but 200 n:=rK m _ but _ _ n (by omega) (by omega)
 rw[List.append_nil,hm] at hl
 have hgood:(¬ (0≤(n:Int)∧(n:Int)<(m.wds.length:Int)∧(n:Int).toNat % 2=0))=False:=eq_false (by omega)
 simp only[q,cond_false,QB,hgood,if_false]
 simp only[Int.toNat_natCast]
 have tail:∀ (c:Bool),∃ τ',(if (Dh.normal:Dh) = .normal then (Dm (k+10) (k+10) (AV i) (n:Int) (wo:Int) but (n:Int) σ).bind fun r23=>if r23.1 = .exit 0 then some (Value.int .i64 (0:Int),r23.2.2) else if r23.1 = .ret then mg r23.2.1 fun n24=>some (.int .i64 n24,r23.2.2) else none else none)=some (.int .i64 (if Qa m (n+wo) but 200 n=true then 0 else 8),σ++τ'):=by
  intro c
  refine ⟨τ, ?_⟩
  rw[hl]
  cases Qa m (n+wo) but 200 n <;> simp[FR]
 obtain ⟨τt,ht'⟩:=tail true
 simp only[if_true] at ht'
 have c64:((64:Int)=0)=False:=by simp
 have c1:(0≤((n/64:Nat):Int)∧((n/64:Nat):Int)<((m.bls.length:Nat):Int))=True:=eq_true (by omega)
 by_cases g3:wo≤32
 ·have q3:decide ((wo:Int)≤32)=true:=by simp; omega
  simp only[c64,if_false,q3,cond_true,g3,if_true,c1,Option.bind_some,Nat.zero_add,Nat.add_zero,Int.toNat_natCast,(h.lO hb).1,h.K2]
  by_cases g4:(m.bls.getD (n/64) (0,0)).1=1
  ·simp only[g4,bne_self_eq_false,cond_false,ne_eq,not_true_eq_false,false_or,Option.bind_some]
   by_cases g5:(n+wo-1)/64=n/64
   ·simp only[g5,bne_self_eq_false,cond_false,Option.bind_some,if_true,not_true_eq_false,if_false]
    exact ⟨τt,ht'⟩
   ·have q5:((((n+wo-1)/64:Nat):Int) != ((n/64:Nat):Int))=true:=by simp; omega
    simp only[q5,cond_true,g5,not_false_eq_true,if_true,Option.bind_some]
    exact ⟨[],by simp[FR]⟩
  ·have q4:((m.bls.getD (n/64) (0,0)).1 != 1)=true:=bne_iff_ne.2 g4
   simp only[q4,cond_true,ne_eq,g4,not_false_eq_true,true_or,if_true,Option.bind_some]
   exact ⟨[],by simp[FR]⟩
 ·have q3:decide ((wo:Int)≤32)=false:=by simp; omega
  simp only[c64,if_false,q3,cond_false,g3,if_true,c1,Option.bind_some,Nat.zero_add,Nat.add_zero,Int.toNat_natCast,(h.lO hb).1,h.K2]
  by_cases g4:(m.bls.getD (n/64) (0,0)).1=2
  ·simp only[g4,bne_self_eq_false,cond_false,ne_eq,not_true_eq_false,false_or,Option.bind_some]
   by_cases g5:n % 64=0
   ·have q5:(((n % 64:Nat):Int) != 0)=false:=by simp; omega
    simp only[q5,cond_false,zA (k+9) (by omega) h hb,Option.bind_some,Aj]
    simp only[g5,not_true_eq_false,false_or]
    by_cases g6:Ok m (n/64)=(wo+63)/64
    ·simp only[g6,bne_self_eq_false,cond_false,Option.bind_some,if_true,not_true_eq_false,if_false]
     exact ⟨τt,ht'⟩
    ·have q6:((Ok m (n/64):Int) != (((wo+63)/64:Nat):Int))=true:=by simp; omega
     simp only[q6,cond_true,g6,not_false_eq_true,if_true,Option.bind_some]
     exact ⟨[],by simp[FR]⟩
   ·have q5:(((n % 64:Nat):Int) != 0)=true:=by simp; omega
    simp only[q5,cond_true,g5,not_false_eq_true,true_or,if_true,Option.bind_some]
    exact ⟨[],by simp[FR]⟩
  ·have q4:((m.bls.getD (n/64) (0,0)).1 != 2)=true:=bne_iff_ne.2 g4
   simp only[q4,cond_true,ne_eq,g4,not_false_eq_true,true_or,if_true,Option.bind_some]
   exact ⟨[],by simp[FR]⟩
end Go.Proofs.YtjbledomkmdkmaaGreat
end
section
namespace Go.Proofs.YtjbledomkmdkmaaGreat
open Go Go.AX
noncomputable local instance qCB:A9:=Aw
local instance nCB:Kn:=⟨true⟩
theorem sz3:IW P As=some 1:=by kernel_rfl
theorem by3:bytesOf P As=some 8:=by kernel_rfl
theorem zz3:FT P As=some (.int .i64 0):=by kernel_rfl
def Ff (lo:Nat) (σ:Aa) (s:Ce) (l:List Int):Prop:=
 (l=[]∧s=(none,0,0)) ∨ ∃ b,lo≤b∧s=(some ⟨b,0,none⟩,l.length,l.length)∧l≠[]∧σ[b]?=some (.cells (Bm l) As true)
theorem EI (l:List Int):(Bm l).length=l.length:=by simp[Bm]
theorem UF (l l':List Int):Bm (l++l')=Bm l++Bm l':=by simp[Bm]
theorem Ff.app {lo:Nat} {σ:Aa} {s:Ce} {l:List Int} (τ:Aa) (h:Ff lo σ s l):Ff lo (σ++τ) s l:=by
 rcases h with h | ⟨b,h1,h2,h3,h4⟩
 ·exact .inl h
 ·exact .inr ⟨b,h1,h2,h3,by rw[List.getElem?_append_left (Al h4),h4]⟩
theorem Ff.ld {lo:Nat} {σ:Aa} {b c c':Nat} {l:List Int} (h:Ff lo σ (some ⟨b,0,none⟩,c,c') l) {j:Nat} (hj:j<l.length):Dg .i64 σ b j=some (l.getD j 0):=by
 rcases h with ⟨_,h⟩ | ⟨b',_,h2,_,h4⟩
 ·cases h
 ·cases h2
  simp[Dg,Gi,h4,Bm,Ml,List.getElem?_eq_getElem hj]
theorem Ff.len {lo:Nat} {σ:Aa} {s:Ce} {l:List Int} (h:Ff lo σ s l):s.2.1=l.length:=by
 rcases h with ⟨rfl,rfl⟩ | ⟨b',_,rfl,_,_⟩ <;> rfl
theorem Aac (σ τ:Aa) (s:Ce) (l:List Int) (x:Int) (h:Nat) (hl:l.length≤10000) (hs:Ff σ.length (σ++τ) s l) (hx:∃ T rw,(σ++τ)[h]?=some (.cells [.int .i64 x] T rw)):
  ∃ s' τ',B9 P As s (some ⟨h,0,none⟩,1,1) (σ++τ)=some (s',σ++τ')∧Ff σ.length (σ++τ') s' (l++[x]):=by
 obtain ⟨T,rw',hx⟩:=hx
 have hf:Ds (σ++τ) 1 (some ⟨h,0,none⟩) 1=some [.int .i64 x]:=by simp[Ds,ZA,hx]
 unfold B9 Qf
 simp only[sz3,by3,zz3,Option.bind_some,hf]
 have hz:(¬ (Hb (.int .i64 0)=false∧some 1=some (Value.cells (.int .i64 0)).size∧0<(Value.cells (.int .i64 0)).size))=False:=by simp[Hb,Value.cells]
 simp only[hz,if_false]
 rcases hs with ⟨rfl,rfl⟩ | ⟨b,hb,rfl,hne,hcell⟩
 ·have r:QG (0+1) 8∧0<8:=by unfold QG; decide
  simp only[show ¬ (0+1≤0) from by decide,if_false,r,and_self,if_true,Is,cond_true,slK]
  refine ⟨_,τ++[.cells [.int .i64 x] As true],by rw[← List.append_assoc]; rfl,.inr ⟨(σ++τ).length,by simp,rfl,by simp, ?_⟩⟩
  rw[← List.append_assoc]; simp[Bm]
 ·have r:QG (l.length+1) 8∧0<8:=by
   unfold QG
   refine ⟨⟨?_, ?_⟩,by decide⟩ <;> omega
  have hb2:=Al hcell
  have e1:elemAt (σ++τ) b=some 3:=by simp[elemAt,hcell]
  have e2:ZA (σ++τ) b 0 (l.length*1)=some (Bm l):=by
   simp only[ZA,hcell,EI,Nat.mul_one,Nat.zero_add,Nat.le_refl,if_true,List.drop_zero]
   rw[List.take_of_length_le (by rw[EI]; exact Nat.le_refl _)]
  have e3:Jg (σ++τ) b=true:=by simp[Jg,hcell]
  simp only[show ¬ (l.length+1≤l.length) from by omega,if_false,r,and_self,if_true,Is,Option.isSome_none,cond_false,Option.bind_some,e1,e2,e3,cond_true,slK]
  have hset:(σ++τ).set b .dead=σ++τ.set (b-σ.length) .dead:=by
   rw[List.set_append_right _ _ hb]
  refine ⟨_,τ.set (b-σ.length) .dead++[.cells (Bm l++[.int .i64 x]) As true],by rw[hset,← List.append_assoc],.inr ⟨(σ++τ).length,by simp,by simp,by simp, ?_⟩⟩
  rw[← List.append_assoc,UF]
  have:(σ++τ).length=(σ++τ.set (b-σ.length) .dead).length:=by simp
  rw[this]; simp[Bm]
variable {σ:Aa} {i:DD} {m:HM}
def WM (m:HM) (hi:Nat):Nat→Nat→List Int
 | 0,_=>[]
 | f+1,j=>match Yv (Ec 1 m.stw) (32*m.bls.length) 1 j with
   | none=>[]
   | some j'=>if 2*j'<hi then ((2*j':Nat):Int)::WM m hi f (j'+1) else []
theorem fg (k:Nat) (hk:5000≤k) (h:An σ i m) (hi:Nat):∀ (f:Nat) (n5:Option Nat) (τ:Aa) (s:Ce) (l:List Int),(match n5 with | none=>True | some j=>l.length≤j)→Ff σ.length (σ++τ) s l→(∀ j,n5=some j→j<32*m.bls.length) →
  (match n5 with | none=>0 | some j=>32*m.bls.length-j)<f+1 →
  ∃ τ' s',BB (k+4) (f+1) (AV i) (hi:Int) s (match n5 with | none=>0 | some j=>(j:Int)) (match n5 with | none=>4 | some j=>0) (σ++τ)=some (.exit 0,[.slice s'.1 s'.2.1 s'.2.2],σ++τ') ∧
   Ff σ.length (σ++τ') s' (l++(match n5 with | none=>[] | some j=>if 2*j<hi then ((2*j:Nat):Int)::WM m hi f (j+1) else [])):=by
 have ht:=h.nt
 intro f
 induction f with
 | zero=>
   intro n5 τ s l hl hs hj hf
   cases n5 with
   | none=>
     refine ⟨τ,s, ?_,by simpa using hs⟩
     rw[Gp,E6]
     try simp only[sw,Ad,Af,Ae]
     rfl
   | some j=>
     have:=hj j rfl
     simp only at hf
     omega
 | succ f ih=>
   intro n5 τ s l hl hs hj hf
   cases n5 with
   | none=>
     refine ⟨τ,s, ?_,by simpa using hs⟩
     rw[Gp,E6]
     try simp only[sw,Ad,Af,Ae]
     rfl
   | some j=>
     have hjl:=hj j rfl
     obtain ⟨sa,sl,sc⟩:=s
     have e1:Cf (2*(j:Int))=((2*j:Nat):Int):=Ak (by unfold AU; omega)
     have e2:Cf ((j:Int)+1)=((j+1:Nat):Int):=Ak (by unfold AU; omega)
     rw[Gp,E6]
     try simp only[sw,Ad,Af,Ae]
     simp only[BEq.rfl,cond_true,e1,e2,Option.bind_some]
     by_cases hlt:2*j<hi
     ·have q:decide (((2*j:Nat):Int)<(hi:Int))=true:=by simp; omega
      obtain ⟨s1,τ1,ha,hs1⟩:=Aac σ (τ++[.cells [.int .i64 ((2*j:Nat):Int)] As true]) (sa,sl,sc) l ((2*j:Nat):Int) (σ++τ).length (by simp only at hl; omega) (by rw[← List.append_assoc]; exact hs.app _) ⟨3,true,by rw[← List.append_assoc]; simp⟩
      rw[← List.append_assoc] at ha
      have hn:=yK (k+1) (by omega) (h.app τ1).st ((j+1:Nat):Int) 1 (by omega)
      rw[Int.toNat_natCast] at hn
      have hn':Da (k+4) (some ⟨i.st,0,none⟩) ((j+1:Nat):Int) 1 (σ++τ1)=_:=hn
      simp only[q,cond_true,AM,ha,Option.bind_some,Nat.zero_add,(h.app τ1).kr,hn',hlt,if_true]
      cases hq:Yv (Ec 1 m.stw) (32*m.bls.length) 1 (j+1) with
      | none=>
        obtain ⟨τ',s',g1,g2⟩:=ih none τ1 s1 (l++[((2*j:Nat):Int)]) trivial hs1 (fun _ h=>by cases h) (by simp)
        refine ⟨τ',s', ?_, ?_⟩
        ·simp only[Fs]; exact g1
        ·rw[WM,hq]; simpa using g2
      | some j'=>
        obtain ⟨p1,p2,_,_⟩:=ZD hq
        obtain ⟨τ',s',g1,g2⟩:=ih (some j') τ1 s1 (l++[((2*j:Nat):Int)]) (by simp only[List.length_append,List.length_cons,List.length_nil] at hl ⊢; omega) hs1 (fun _ h=>by cases h; exact p2) (by simp only at hf ⊢; omega)
        refine ⟨τ',s', ?_, ?_⟩
        ·simp only[Fs]; exact g1
        ·rw[WM,hq]; simpa using g2
     ·have q:decide (((2*j:Nat):Int)<(hi:Int))=false:=by simp; omega
      refine ⟨τ,(sa,sl,sc), ?_,by simpa [hlt] using hs⟩
      simp only[q,cond_false]
def FP (m:HM) (lo n:Nat):List Nat:=(List.range' lo n).filter fun j=>decide (Ec 1 m.stw j=1)
def EU (l:List Nat):List Int:=l.map fun j=>((2*j:Nat):Int)
theorem oY (m:HM) (H:Nat) (hH:H≤32*m.bls.length):∀ (n f j:Nat),j+n=H→32*m.bls.length-j≤f→WM m (2*H) f j=EU (FP m j n)
 | 0,0,j,h1,h2=>rfl
 | 0,f+1,j,h1,h2=>by
   rw[WM]
   cases hq:Yv (Ec 1 m.stw) (32*m.bls.length) 1 j with
   | none=>rfl
   | some j'=>
     obtain ⟨p1,_⟩:=ZD hq
     simp only[show ¬ 2*j'<2*H from by omega,if_false]
     rfl
 | n+1,0,j,h1,h2=>by omega
 | n+1,f+1,j,h1,h2=>by
   have hj:j<32*m.bls.length:=by omega
   unfold FP
   rw[List.range'_succ,List.filter_cons]
   by_cases hg:Ec 1 m.stw j=1
   ·rw[WM,Yv,dif_pos hj,if_pos hg]
    simp only[show 2*j<2*H from by omega,if_true,hg,decide_true]
    rw[oY m H hH n f (j+1) (by omega) (by omega)]
    rfl
   ·have e1:WM m (2*H) (f+1) j=WM m (2*H) (f+1) (j+1):=by
     rw[WM,WM,Yv,dif_pos hj,if_neg hg]
    rw[e1,oY m H hH n (f+1) (j+1) (by omega) (by omega)]
    simp only[hg,decide_false,Bool.false_eq_true,if_false]
    rfl
theorem ow (k:Nat) (hk:5000≤k) (h:An σ i m) (lo n:Nat) (hn:lo+n≤32*m.bls.length):∃ τ s,Dl (k+5) (AV i) ((2*lo:Nat):Int) ((2*(lo+n):Nat):Int) σ=some (.slice s.1 s.2.1 s.2.2,σ++τ)∧Ff σ.length (σ++τ) s (EU (FP m lo n)):=by
 have ht:=h.nt
 have t1:((2*lo:Nat):Int).tdiv 2=(lo:Int):=by
  rw[show ((2*lo:Nat):Int).tdiv 2=(((2*lo)/2:Nat):Int) from rfl]; omega
 have e1:Cf (lo:Int)=(lo:Int):=Ak (by unfold AU; omega)
 have hN:=yK (k+1) (by omega) h.st (lo:Int) 1 (by omega)
 rw[Int.toNat_natCast] at hN
 have hN':Da (k+4) (some ⟨i.st,0,none⟩) (lo:Int) 1 σ=_:=hN
 rw[Q2,JN]
 try simp only[sw,Ad,Af,Ae]
 simp only[Option.bind_some,Nat.zero_add,h.kr,t1,e1,show ((2:Int)=0)=False from by simp,if_false,hN']
 have hlist:WM m (2*(lo+n)) (k+4) lo=EU (FP m lo n):=oY m (lo+n) hn n (k+4) lo rfl (by omega)
 cases hq:Yv (Ec 1 m.stw) (32*m.bls.length) 1 lo with
 | none=>
   obtain ⟨τ',s',g1,g2⟩:=fg k hk h (2*(lo+n)) (k+3) none [] (none,0,0) [] trivial (.inl ⟨rfl,rfl⟩) (fun _ h=>by cases h) (by simp)
   rw[List.append_nil] at g1
   refine ⟨τ',s', ?_, ?_⟩
   ·simp only[Fs]
    rw[show BB (k+4) (k+4) (AV i) ((2*(lo+n):Nat):Int) (none,0,0) 0 4 σ=_ from g1]
    simp only[Option.bind_some,if_true,Ps]
   ·rw[← hlist,WM,hq]; simpa using g2
 | some j=>
   obtain ⟨p1,p2,_,_⟩:=ZD hq
   obtain ⟨τ',s',g1,g2⟩:=fg k hk h (2*(lo+n)) (k+3) (some j) [] (none,0,0) [] (by simp) (.inl ⟨rfl,rfl⟩) (fun _ h=>by cases h; exact p2) (by simp only; omega)
   rw[List.append_nil] at g1
   refine ⟨τ',s', ?_, ?_⟩
   ·simp only[Fs]
    rw[show BB (k+4) (k+4) (AV i) ((2*(lo+n):Nat):Int) (none,0,0) (j:Int) 0 σ=_ from g1]
    simp only[Option.bind_some,if_true,Ps]
   ·rw[← hlist,WM,hq]; simpa using g2
theorem nB (k:Nat) (hk:5000≤k) (h:An σ i m) {b:Nat} (hb:b<m.bls.length):∃ τ s,Ba (k+6) (AV i) (b:Int) σ=some (.slice s.1 s.2.1 s.2.2,σ++τ)∧Ff σ.length (σ++τ) s (EU (FP m (32*b) 32)):=by
 have ht:=h.nt
 obtain ⟨τ,s,g1,g2⟩:=ow k hk h (32*b) 32 (by omega)
 refine ⟨τ,s, ?_,g2⟩
 have e1:Cf ((b:Int)*64)=((2*(32*b):Nat):Int):=by rw[Ak (by unfold AU; omega)]; omega
 have e2:Cf ((b:Int)+1)=((b+1:Nat):Int):=Ak (by unfold AU; omega)
 have e3:Cf (((b+1:Nat):Int)*64)=((2*(32*b+32):Nat):Int):=by rw[Ak (by unfold AU; omega)]; omega
 rw[KW,H0]
 try simp only[sw,Ad,Af,Ae]
 have q1:decide ((b:Int)<0)=false:=by simp
 have q2:decide ((b:Int)≥((m.bls.length:Nat):Int))=false:=by simp; omega
 simp only[Lt _ h,Option.bind_some,Ar,Bool.not_true,cond_false,q1,Nat.zero_add,h.K2,q2,e1,e2,e3,g1,H7]
theorem sN (k:Nat) (hk:5000≤k) (h:An σ i m):∃ τ s,Bv (k+6) (AV i) σ=some (.slice s.1 s.2.1 s.2.2,σ++τ)∧Ff σ.length (σ++τ) s (EU (FP m 0 (32*m.bls.length))):=by
 have ht:=h.nt
 have hw:=h.wl
 obtain ⟨τ,s,g1,g2⟩:=ow k hk h 0 (32*m.bls.length) (by omega)
 refine ⟨τ,s, ?_,g2⟩
 rw[Vq,On]
 try simp only[sw,Ad,Af,Ae]
 have e1:((m.wds.length:Nat):Int)=((2*(0+32*m.bls.length):Nat):Int):=by omega
 simp only[Lt _ h,Option.bind_some,Ar,Bool.not_true,cond_false,Nat.zero_add,h.GJ,e1]
 rw[show (0:Int)=((2*0:Nat):Int) from rfl,show (32*m.bls.length)=0+32*m.bls.length from by omega,g1]
 simp only[Option.bind_some,H7]
end Go.Proofs.YtjbledomkmdkmaaGreat
end
