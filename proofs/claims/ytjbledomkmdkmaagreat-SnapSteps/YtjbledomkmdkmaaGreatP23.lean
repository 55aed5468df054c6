/- What holds of every heap that was made by calls; plain laws.; What the calls that change a heap come to (first part): the parts of a heap turned one b -/
import Derived.Test.YtjbledomkmdkmaaGreatP22
set_option linter.unusedVariables false
set_option linter.unusedSimpArgs false
set_option linter.unusedSectionVars false
section
namespace Go.Proofs.YtjbledomkmdkmaaGreat
open Go Go.AX
def num (r d k:Int):Int:=r+16*d+4096*k
theorem PM {r d k:Int} (h:valid r d k=true):(num r d k).tmod 16=r∧((num r d k).tmod 4096).tdiv 16=d∧(num r d k).tdiv 4096=k∧AU (num r d k):=by
 simp[valid] at h
 unfold num AU
 have h0:0≤r+16*d+4096*k:=by omega
 rw[Int.tmod_eq_emod_of_nonneg h0,Int.tmod_eq_emod_of_nonneg h0,Int.tdiv_eq_ediv_of_nonneg h0,Int.tdiv_eq_ediv_of_nonneg (by omega)]
 omega
theorem OG {r d k:Int} (h:valid r d k=true):XF (num r d k)=((2+r+d+1)/2*2).toNat:=by
 obtain ⟨h1,h2,h3,_⟩:=PM h
 unfold XF words
 rw[h1,h2,h3,h]; rfl
def A5 (m:HM) (j:Nat):Int:=(m.wds.getD (2*j+1) 0).tmod 16
def BN (m:HM) (j:Nat):Int:=((m.wds.getD (2*j+1) 0).tmod 4096).tdiv 16
def Wy (k v:Int):List (Int × Int)→List (Int × Int)
 | []=>[(k,v)]
 | e::es=>if k == e.1 then (k,v)::es else e::Wy k v es
def ki (k:Int):List (Int × Int)→List (Int × Int)
 | []=>[]
 | e::es=>if k == e.1 then es else e::ki k es
theorem rV (k v:Int):∀ l,VL k (.int .i64 v) (au l)=au (Wy k v l)
 | []=>rfl
 | e::es=>by
   have:=rV k v es
   simp only[au,List.map_cons,VL,Wy] at this ⊢
   split
   ·rfl
   ·rw[this]; rfl
theorem rU (k:Int):∀ l,Sd k (au l)=au (ki k l)
 | []=>rfl
 | e::es=>by
   have:=rU k es
   simp only[au,List.map_cons,Sd,ki] at this ⊢
   split
   ·rfl
   ·rw[this]; rfl
theorem VE (k v k':Int):∀ l,getM (Wy k v l) k'=if k'=k then some v else getM l k'
 | []=>by simp[getM,Wy]
 | e::es=>by
   have ih:=VE k v k' es
   unfold Wy
   by_cases h:k=e.1
   ·have hb:(k == e.1)=true:=by simpa using h
    simp only[hb,if_true,getM,List.find?_cons]
    by_cases hk:k'=k
    ·simp[hk]
    ·have h1:(k' == k)=false:=by simpa using hk
     have h2:(k' == e.1)=false:=by rw[← h]; exact h1
     simp[h1,h2,hk]
   ·have hb:(k == e.1)=false:=by simpa using h
    simp only[hb,Bool.false_eq_true,if_false,getM,List.find?_cons] at ih ⊢
    by_cases hk:k'=e.1
    ·have h1:(k' == e.1)=true:=by simpa using hk
     have h2:¬ k'=k:=by rw[hk]; exact fun e=>h e.symm
     simp[h1,h2]
    ·have h1:(k' == e.1)=false:=by simpa using hk
     simp only[h1]
     exact ih
def aC:List (Int × Int)→Prop
 | []=>True
 | e::es=>getM es e.1=none∧aC es
theorem cK (k v:Int):∀ l,aC l→aC (Wy k v l)
 | [],_=>⟨rfl,trivial⟩
 | e::es,h=>by
   unfold Wy
   by_cases hk:k=e.1
   ·have hb:(k == e.1)=true:=by simpa using hk
    simp only[hb,if_true]
    exact ⟨by simp only; rw[hk]; exact h.1,h.2⟩
   ·have hb:(k == e.1)=false:=by simpa using hk
    simp only[hb,Bool.false_eq_true,if_false]
    refine ⟨?_,cK k v es h.2⟩
    rw[VE,if_neg (fun e=>hk e.symm)]
    exact h.1
theorem cr (k k':Int):∀ l,aC l→getM (ki k l) k'=if k'=k then none else getM l k'
 | [],_=>by simp[getM,ki]
 | e::es,h=>by
   have ih:=cr k k' es h.2
   unfold ki
   by_cases hk:k=e.1
   ·have hb:(k == e.1)=true:=by simpa using hk
    simp only[hb,if_true]
    by_cases hq:k'=k
    ·rw[if_pos hq,hq,hk]; exact h.1
    ·have h2:(k' == e.1)=false:=by rw[← hk]; simpa using hq
     rw[if_neg hq]
     simp only[getM,List.find?_cons,h2]
   ·have hb:(k == e.1)=false:=by simpa using hk
    simp only[hb,Bool.false_eq_true,if_false,getM,List.find?_cons] at ih ⊢
    by_cases hq:k'=e.1
    ·have h1:(k' == e.1)=true:=by simpa using hq
     have h2:¬ k'=k:=by rw[hq]; exact fun e=>hk e.symm
     simp[h1,h2]
    ·have h1:(k' == e.1)=false:=by simpa using hq
     simp only[h1]
     exact ih
theorem vH (k:Int):∀ l,aC l→aC (ki k l)
 | [],_=>trivial
 | e::es,h=>by
   unfold ki
   by_cases hk:k=e.1
   ·have hb:(k == e.1)=true:=by simpa using hk
    simp only[hb,if_true]
    exact h.2
   ·have hb:(k == e.1)=false:=by simpa using hk
    simp only[hb,Bool.false_eq_true,if_false]
    refine ⟨?_,vH k es h.2⟩
    rw[cr k _ es h.2,if_neg (fun e=>hk e.symm)]
    exact h.1
structure Inv (m:HM):Prop where
 good:∀ j,Start m j → ∃ r d k,valid r d k=true∧m.wds.getD (2*j+1) 0=num r d k
 fit:∀ j,Start m j→2*j+sz m j≤m.wds.length
 apart:∀ j j',Start m j→Start m j'→j<j'→2*j+sz m j≤2*j'
 idn:∀ j,Start m j→1≤m.wds.getD (2*j) 0∧m.wds.getD (2*j) 0≤m.births∧getM m.pl (m.wds.getD (2*j) 0)=some ((2*j:Nat):Int)
 plc:∀ id a,getM m.pl id=some a → ∃ j,a=((2*j:Nat):Int)∧Start m j∧m.wds.getD (2*j) 0=id
 brt:0≤m.births
 onc:aC m.pl
variable {m:HM}
theorem Inv.size (h:Inv m) {j:Nat} (hs:Start m j):2≤sz m j∧sz m j≤218∧sz m j % 2=0∧0≤A5 m j∧0≤BN m j∧2+A5 m j+BN m j≤(sz m j:Int):=by
 obtain ⟨r,d,k,hv,hn⟩:=h.good j hs
 have h1:=OG hv
 obtain ⟨p1,p2,_,_⟩:=PM hv
 unfold A5 BN sz
 rw[hn,h1,p1,p2]
 simp[valid] at hv
 omega
theorem Inv.dD (h:Inv m) {n j:Nat} (hs:Start m j) (h1:2*j≤n) (h2:n<2*j+sz m j):oK m n=some j:=by
 unfold oK
 have hj:=hs.1
 cases hq:Ys (Ec 1 m.stw) 1 (min (n/2+1) (32*m.bls.length)) with
 | none=>exact absurd hs.2 (oU hq j (by omega))
 | some j'=>
   obtain ⟨p1,p2,p3⟩:=Z8 hq
   have hs':Start m j':=⟨by omega,p2⟩
   have:j'=j:=by
    rcases Nat.lt_trichotomy j' j with hlt | rfl | hlt
    ·exact absurd hs.2 (p3 j hlt (by omega))
    ·rfl
    ·have:=h.apart j j' hs hs' hlt
     omega
   subst this
   simp only[show ¬ 2*j'+sz m j'≤n from by omega,if_false]
theorem xy {n j:Nat} (h:oK m n=some j):Start m j∧2*j≤n+1∧n<2*j+sz m j∧2*j≤n:=by
 unfold oK at h
 split at h
 ·cases h
 ·rename_i j' hq
  split at h
  ·cases h
  ·cases h
   obtain ⟨p1,p2,p3⟩:=Z8 hq
   exact ⟨⟨by omega,p2⟩,by omega,by omega,by omega⟩
theorem dE {hi:Nat} {but:Int}:∀ {f x:Nat},Qa m hi but f x=true→hi≤x+2*f → ∀ t,x+2*t<hi → ∀ o,Yn m ((x+2*t:Nat):Int)=some o→((2*o:Nat):Int)=but
 | 0,x,_,hf,t,ht=>by omega
 | f+1,x,h,hf,t,ht=>by
   intro o ho
   rw[Qa,if_pos (by omega)] at h
   cases t with
   | zero=>
     rw[show x+2*0=x from by omega] at ho
     rw[ho] at h
     simp only at h
     split at h
     ·assumption
     ·cases h
   | succ t=>
     have h':Qa m hi but f (x+2)=true:=by
      split at h
      ·split at h
       ·exact h
       ·cases h
      ·exact h
     exact dE h' (by omega) t (by omega) o (by rw[show x+2+2*t=x+2*(t+1) from by omega]; exact ho)
theorem pU (m:HM) (b:Nat):∀ (f n:Nat),b+n≤m.bls.length→b+Lz m b f n≤m.bls.length
 | 0,n,h=>h
 | f+1,n,h=>by
   rw[Lz]
   split
   ·rename_i hc
    exact pU m b f (n+1) (by omega)
   ·exact h
theorem Inv.fits (h:Inv m) (hw:m.wds.length=64*m.bls.length) {a:Int} {wo:Nat} {but:Int} (hwo:wo≤218) (h2:2≤wo) (hf:QB m a wo but=0):
  ∃ j,a=((2*j:Nat):Int)∧j<32*m.bls.length∧2*j+wo≤m.wds.length ∧ ∀ o,Start m o→((2*o:Nat):Int)≠but→2*o+sz m o≤2*j∨2*j+wo≤2*o:=by
 unfold QB at hf
 split at hf
 ·cases hf
 rename_i h0
 have h0':0≤a∧a<(m.wds.length:Int)∧a.toNat % 2=0:=Classical.not_not.1 h0
 obtain ⟨n,rfl⟩:∃ n:Nat,a=(n:Int):=⟨a.toNat,by omega⟩
 rw[Int.toNat_natCast] at hf h0'
 have hcore:Qa m (n+wo) but 200 n=true∧n+wo≤m.wds.length:=by
  simp only at hf
  split at hf
  ·split at hf
   ·cases hf
   ·rename_i hc
    split at hf
    ·rename_i hl
     refine ⟨hl, ?_⟩
     have:(n+wo-1)/64=n/64:=by
      apply Classical.byContradiction
      intro hq; exact hc (.inr hq)
     omega
    ·cases hf
  ·split at hf
   ·cases hf
   ·rename_i hc
    split at hf
    ·rename_i hl
     refine ⟨hl, ?_⟩
     have h1:n % 64=0:=by
      apply Classical.byContradiction
      intro hq; exact hc (.inr (.inl hq))
     have h2:Ok m (n/64)=(wo+63)/64:=by
      apply Classical.byContradiction
      intro hq; exact hc (.inr (.inr hq))
     have h3:=pU m (n/64) m.bls.length 1 (by omega)
     rw[show Lz m (n/64) m.bls.length 1=Ok m (n/64) from rfl,h2] at h3
     omega
    ·cases hf
 obtain ⟨hl,hlen⟩:=hcore
 refine ⟨n/2,by omega,by omega,by omega,fun o ho hne=>?_⟩
 apply Classical.byContradiction
 intro hq
 have hspec:=dE hl (by omega)
 have ho1:=ho.1
 by_cases hle:2*o≤n
 ·refine hne (hspec 0 (by omega) o ?_)
  unfold Yn
  rw[if_pos (by omega),Int.toNat_natCast]
  exact h.dD ho (by omega) (by omega)
 ·refine hne (hspec (o-n/2) (by omega) o ?_)
  have e:n+2*(o-n/2)=2*o:=by omega
  have hz:=h.size ho
  unfold Yn
  rw[if_pos (by omega),e,Int.toNat_natCast]
  exact h.dD ho (by omega) (by omega)
end Go.Proofs.YtjbledomkmdkmaaGreat
end
section
namespace Go.Proofs.YtjbledomkmdkmaaGreat
open Go Go.AX
noncomputable local instance qCM:A9:=Aw
local instance nCM:Kn:=⟨true⟩
variable {σ:Aa} {i:DD} {m:HM}
theorem DD.ne (h:i.l.Nodup):i.hb≠i.bl∧i.hb≠i.wd∧i.hb≠i.st∧i.hb≠i.sw∧i.hb≠i.pn∧i.hb≠i.pw∧i.hb≠i.pl∧i.hb≠i.fw ∧
  i.bl≠i.wd∧i.bl≠i.st∧i.bl≠i.sw∧i.bl≠i.pn∧i.bl≠i.pw∧i.bl≠i.pl∧i.bl≠i.fw ∧
  i.wd≠i.st∧i.wd≠i.sw∧i.wd≠i.pn∧i.wd≠i.pw∧i.wd≠i.pl∧i.wd≠i.fw ∧
  i.st≠i.sw∧i.st≠i.pn∧i.st≠i.pw∧i.st≠i.pl∧i.st≠i.fw∧i.sw≠i.pn∧i.sw≠i.pw∧i.sw≠i.pl∧i.sw≠i.fw ∧
  i.pn≠i.pw∧i.pn≠i.pl∧i.pn≠i.fw∧i.pw≠i.pl∧i.pw≠i.fw∧i.pl≠i.fw:=by
 simp[DD.l,and_assoc] at h
 simp only[ne_eq]
 exact h
theorem An.Aig (h:An σ i m) (l:List Int) (hl:l.length=m.wds.length) (hi:∀ a,AU (l.getD a 0)):An (σ.set i.wd (.cells (Bm l) D9 true)) i { m with wds:=l }:=by
 obtain ⟨n1,n2,n3,n4,n5,n6,n7,n8,n9,n10,n11,n12,n13,n14,n15,n16,n17,n18,n19,n20,n21,n22,n23,n24,n25,n26,n27,n28,n29,n30,n31,n32,n33,n34,n35,n36⟩:=DD.ne h.nd
 have g:∀ {j},j≠i.wd→(σ.set i.wd (.cells (Bm l) D9 true))[j]?=σ[j]?:=fun hj=>List.getElem?_set_ne (Ne.symm hj)
 exact ⟨by rw[g (by first | assumption | (apply Ne.symm; assumption)),h.hp]; simp only[hl],by rw[g (by first | assumption | (apply Ne.symm; assumption))]; exact h.bl,by rw[List.getElem?_set_self (Al h.wd)],h.st.same (g (by first | assumption | (apply Ne.symm; assumption))) (g (by first | assumption | (apply Ne.symm; assumption))),h.pn.same (g (by first | assumption | (apply Ne.symm; assumption))) (g (by first | assumption | (apply Ne.symm; assumption))),by rw[g (by first | assumption | (apply Ne.symm; assumption))]; exact h.pl,by rw[g (by first | assumption | (apply Ne.symm; assumption))]; exact h.fw,h.nb,h.nt,by rw[hl]; exact h.wl,h.nd,hi⟩
theorem An.zv (h:An σ i m) (l:List (Int × Int)) (hl:l.length=m.bls.length):An (σ.set i.bl (.cells (Dd l) Gc true)) i { m with bls:=l }:=by
 obtain ⟨n1,n2,n3,n4,n5,n6,n7,n8,n9,n10,n11,n12,n13,n14,n15,n16,n17,n18,n19,n20,n21,n22,n23,n24,n25,n26,n27,n28,n29,n30,n31,n32,n33,n34,n35,n36⟩:=DD.ne h.nd
 have g:∀ {j},j≠i.bl→(σ.set i.bl (.cells (Dd l) Gc true))[j]?=σ[j]?:=fun hj=>List.getElem?_set_ne (Ne.symm hj)
 exact ⟨by rw[g (by first | assumption | (apply Ne.symm; assumption)),h.hp]; simp only[hl],by rw[List.getElem?_set_self (Al h.bl)],by rw[g (by first | assumption | (apply Ne.symm; assumption))]; exact h.wd,by rw[hl]; exact h.st.same (g (by first | assumption | (apply Ne.symm; assumption))) (g (by first | assumption | (apply Ne.symm; assumption))),by rw[hl]; exact h.pn.same (g (by first | assumption | (apply Ne.symm; assumption))) (g (by first | assumption | (apply Ne.symm; assumption))),by rw[g (by first | assumption | (apply Ne.symm; assumption))]; exact h.pl,by rw[g (by first | assumption | (apply Ne.symm; assumption))]; exact h.fw,by rw[hl]; exact h.nb,by rw[hl]; exact h.nt,by rw[hl]; exact h.wl,h.nd,h.wi⟩
theorem An.Aif (h:An σ i m) (j v:Nat):An (σ.set i.sw (.cells (rowOf (GR 1 m.stw j v)) Bt true)) i { m with stw:=GR 1 m.stw j v }:=by
 obtain ⟨n1,n2,n3,n4,n5,n6,n7,n8,n9,n10,n11,n12,n13,n14,n15,n16,n17,n18,n19,n20,n21,n22,n23,n24,n25,n26,n27,n28,n29,n30,n31,n32,n33,n34,n35,n36⟩:=DD.ne h.nd
 have g:∀ {j'},j'≠i.sw→(σ.set i.sw (.cells (rowOf (GR 1 m.stw j v)) Bt true))[j']?=σ[j']?:=fun hj=>List.getElem?_set_ne (Ne.symm hj)
 exact ⟨by rw[g (by first | assumption | (apply Ne.symm; assumption)),h.hp],by rw[g (by first | assumption | (apply Ne.symm; assumption))]; exact h.bl,by rw[g (by first | assumption | (apply Ne.symm; assumption))]; exact h.wd,h.st.put (by first | assumption | (apply Ne.symm; assumption)) j v,h.pn.same (g (by first | assumption | (apply Ne.symm; assumption))) (g (by first | assumption | (apply Ne.symm; assumption))),by rw[g (by first | assumption | (apply Ne.symm; assumption))]; exact h.pl,by rw[g (by first | assumption | (apply Ne.symm; assumption))]; exact h.fw,h.nb,h.nt,h.wl,h.nd,h.wi⟩
theorem An.Aie (h:An σ i m) (j v:Nat):An (σ.set i.pw (.cells (rowOf (GR 1 m.pnw j v)) Bt true)) i { m with pnw:=GR 1 m.pnw j v }:=by
 obtain ⟨n1,n2,n3,n4,n5,n6,n7,n8,n9,n10,n11,n12,n13,n14,n15,n16,n17,n18,n19,n20,n21,n22,n23,n24,n25,n26,n27,n28,n29,n30,n31,n32,n33,n34,n35,n36⟩:=DD.ne h.nd
 have g:∀ {j'},j'≠i.pw→(σ.set i.pw (.cells (rowOf (GR 1 m.pnw j v)) Bt true))[j']?=σ[j']?:=fun hj=>List.getElem?_set_ne (Ne.symm hj)
 exact ⟨by rw[g (by first | assumption | (apply Ne.symm; assumption)),h.hp],by rw[g (by first | assumption | (apply Ne.symm; assumption))]; exact h.bl,by rw[g (by first | assumption | (apply Ne.symm; assumption))]; exact h.wd,h.st.same (g (by first | assumption | (apply Ne.symm; assumption))) (g (by first | assumption | (apply Ne.symm; assumption))),h.pn.put (by first | assumption | (apply Ne.symm; assumption)) j v,by rw[g (by first | assumption | (apply Ne.symm; assumption))]; exact h.pl,by rw[g (by first | assumption | (apply Ne.symm; assumption))]; exact h.fw,h.nb,h.nt,h.wl,h.nd,h.wi⟩
theorem An.Aid (h:An σ i m) (l:List (Int × Int)):An (σ.set i.pl (.map (au l))) i { m with pl:=l }:=by
 obtain ⟨n1,n2,n3,n4,n5,n6,n7,n8,n9,n10,n11,n12,n13,n14,n15,n16,n17,n18,n19,n20,n21,n22,n23,n24,n25,n26,n27,n28,n29,n30,n31,n32,n33,n34,n35,n36⟩:=DD.ne h.nd
 have g:∀ {j},j≠i.pl→(σ.set i.pl (.map (au l)))[j]?=σ[j]?:=fun hj=>List.getElem?_set_ne (Ne.symm hj)
 exact ⟨by rw[g (by first | assumption | (apply Ne.symm; assumption)),h.hp],by rw[g (by first | assumption | (apply Ne.symm; assumption))]; exact h.bl,by rw[g (by first | assumption | (apply Ne.symm; assumption))]; exact h.wd,h.st.same (g (by first | assumption | (apply Ne.symm; assumption))) (g (by first | assumption | (apply Ne.symm; assumption))),h.pn.same (g (by first | assumption | (apply Ne.symm; assumption))) (g (by first | assumption | (apply Ne.symm; assumption))),by rw[List.getElem?_set_self (Al h.pl)],by rw[g (by first | assumption | (apply Ne.symm; assumption))]; exact h.fw,h.nb,h.nt,h.wl,h.nd,h.wi⟩
theorem An.st6 (h:An σ i m) (b:Int):∃ σ',K3 σ i.hb 6 (.int .i64 b)=some σ'∧An σ' i { m with births:=b }∧Bu i σ σ':=by
 obtain ⟨n1,n2,n3,n4,n5,n6,n7,n8,n9,n10,n11,n12,n13,n14,n15,n16,n17,n18,n19,n20,n21,n22,n23,n24,n25,n26,n27,n28,n29,n30,n31,n32,n33,n34,n35,n36⟩:=DD.ne h.nd
 simp only[K3,h.hp]
 refine ⟨_,rfl, ?_,Bu.set σ _ (by simp[DD.l])⟩
 have g:∀ {j o},j≠i.hb→(σ.set i.hb o)[j]?=σ[j]?:=fun hj=>List.getElem?_set_ne (Ne.symm hj)
 exact ⟨by rw[List.getElem?_set_self (Al h.hp)]; rfl,by rw[g (by first | assumption | (apply Ne.symm; assumption))]; exact h.bl,by rw[g (by first | assumption | (apply Ne.symm; assumption))]; exact h.wd,h.st.same (g (by first | assumption | (apply Ne.symm; assumption))) (g (by first | assumption | (apply Ne.symm; assumption))),h.pn.same (g (by first | assumption | (apply Ne.symm; assumption))) (g (by first | assumption | (apply Ne.symm; assumption))),by rw[g (by first | assumption | (apply Ne.symm; assumption))]; exact h.pl,by rw[g (by first | assumption | (apply Ne.symm; assumption))]; exact h.fw,h.nb,h.nt,h.wl,h.nd,h.wi⟩
theorem rP (l:List Int) (a:Nat) (v:Int):Bm (l.set a v)=(Bm l).set a (.int .i64 v):=by simp[Bm,List.map_set]
theorem CC (l:List Int) (a b:Nat) (v:Int):(l.set a v).getD b 0=if a=b∧a<l.length then v else l.getD b 0:=by
 simp only[List.getD_eq_getElem?_getD,List.getElem?_set]
 split
 ·rename_i e; subst e
  split
  ·rename_i h; simp[h]
  ·rename_i h; simp[h,List.getElem?_eq_none (Nat.le_of_not_lt h)]
 ·rename_i e; simp[e]
theorem An.K3 (h:An σ i m) {a:Nat} (ha:a<m.wds.length) (v:Int) (hv:AU v):AX.K3 σ i.wd a (.int .i64 v)=some (σ.set i.wd (.cells (Bm (m.wds.set a v)) D9 true))∧An (σ.set i.wd (.cells (Bm (m.wds.set a v)) D9 true)) i { m with wds:=m.wds.set a v }:=by
 refine ⟨?_,h.Aig _ (by simp) fun b=>?_⟩
 ·simp only[AX.K3,h.wd,EI,ha,if_true,rP]
 ·rw[CC]
  split
  ·exact hv
  ·exact h.wi b
def DG (m:HM) (a x:Int) (data:Bool):Int × Int:=
 if Ea m a then
  let j:=a.toNat/2
  let first:=a+2+(if data then A5 m j else 0)
  if 0≤x∧x<(if data then BN m j else A5 m j) then (first+x,0) else (0,1)
 else (0,4)
theorem oI (k:Nat) (h:An σ i m) (hI:Inv m) (a x:Int) (ha:AU a) (data:Bool):∃ τ,CW (k+6) (AV i) a x data σ=some (.tuple #[.int .i64 (DG m a x data).1,.int .i64 (DG m a x data).2],σ++τ):=by
 have hw:=h.wl
 have ht:=h.nt
 rw[SQ,LS]
 try simp only[sw,Ad,Af,Ae]
 simp only[UQ _ h a ha,Option.bind_some,Aj]
 cases hh:Ea m a with
 | false=>exact ⟨[],by simp[DG,hh]⟩
 | true=>
   obtain ⟨j,rfl,hs⟩:=Ek hh
   obtain ⟨z1,z2,z3,z4,z5,z6⟩:=hI.size hs
   have hj:=hs.1
   have e1:Cf (((2*j:Nat):Int)+1)=((2*j+1:Nat):Int):=Ak (by unfold AU; omega)
   have e2:Cf (((2*j:Nat):Int)+2)=((2*j+2:Nat):Int):=Ak (by unfold AU; omega)
   obtain ⟨τ,hsh⟩:=pN (k+4) (m.wds.getD (2*j+1) 0) (h.wi _) σ
   simp only[if_true,bne_self_eq_false,cond_false,Nat.zero_add,h.GJ,e1,Int.toNat_natCast,Nat.mul_one,Option.bind_some]
   rw[if_pos (by omega)]
   simp only[Option.bind_some,h.ldW (show 2*j+1<m.wds.length by omega),hsh,Lm,AM]
   refine ⟨τ++[.cells [.int .i64 (A5 m j),.int .i64 (BN m j),.int .i64 ((m.wds.getD (2*j+1) 0).tdiv 4096)] Ag true], ?_⟩
   have hst:∀ (μ:Aa) (x y z:Value) (u v w:Value) T,XJ (μ++[.cells [x,y,z] T true]) μ.length 0 [u,v,w]=some (μ++[.cells [u,v,w] T true]):=by
    intro μ x y z u v w T; simp[XJ,AL]
   simp only[hst,Option.bind_some,BJ,Nat.zero_add,List.getElem?_cons_zero,List.getElem?_cons_succ,Aj]
   rw[show ((m.wds.getD (2*j+1) 0).tmod 4096).tdiv 16=BN m j from rfl,show (m.wds.getD (2*j+1) 0).tmod 16=A5 m j from rfl]
   rw[List.append_assoc]
   have ej:((2*j:Nat):Int).toNat/2=j:=by omega
   unfold DG
   rw[hh]
   simp only[if_true,ej,e2]
   have main:∀ (f0 many:Int),0≤many→many≤4000→0≤f0→f0≤5000 → ∀ (μ:Aa),((bif decide (x<0) then some (true,μ) else some (decide (x≥many),μ)).bind fun r20=>bif r20.1 then (some (Value.tuple #[.int .i64 (0:Int),.int .i64 (1:Int)],r20.2)) else (some (.tuple #[.int .i64 (Cf (f0+x)),.int .i64 (0:Int)],r20.2))) =
     some (.tuple #[.int .i64 (if 0≤x∧x<many then (f0+x,(0:Int)) else (0,1)).1,.int .i64 (if 0≤x∧x<many then (f0+x,(0:Int)) else (0,1)).2],μ):=by
    intro f0 many h1 h2 h3 h4 μ
    by_cases c1:x<0
    ·simp only[show decide (x<0)=true from by simpa using c1,cond_true,Option.bind_some,show ¬ (0≤x∧x<many) from by omega,if_false]
    ·by_cases c2:x<many
     ·simp only[show decide (x<0)=false from by simpa using c1,cond_false,Option.bind_some,show decide (x≥many)=false from by simp; omega,show (0≤x∧x<many) from by omega,and_self,if_true]
      rw[Ak (by unfold AU; omega)]
     ·simp only[show decide (x<0)=false from by simpa using c1,cond_false,Option.bind_some,show decide (x≥many)=true from by simp; omega,cond_true,show ¬ (0≤x∧x<many) from by omega,if_false]
   cases data with
   | false=>
     simp only[cond_false,Option.bind_some,if_true,j9,Bool.false_eq_true,if_false,Int.add_zero]
     rw[main _ _ z4 (by omega) (by omega) (by omega)]
     rw[show ((2*j+2:Nat):Int)=((2*j:Nat):Int)+2 from by omega]
   | true=>
     have e3:Cf (((2*j+2:Nat):Int)+A5 m j)=((2*j:Nat):Int)+2+A5 m j:=by rw[Ak (by unfold AU; omega)]; omega
     simp only[cond_true,Option.bind_some,if_true,j9,e3]
     rw[main _ _ z5 (by omega) (by omega) (by omega)]
theorem Aaw (h:Inv m) {a x:Int} {data:Bool} {w:Int} (hf:DG m a x data=(w,0)):∃ j t:Nat,Start m j∧a=((2*j:Nat):Int)∧w=((2*j+2+t:Nat):Int)∧2+t<sz m j:=by
 unfold DG at hf
 split at hf
 ·rename_i hh
  obtain ⟨j,rfl,hs⟩:=Ek hh
  have ej:((2*j:Nat):Int).toNat/2=j:=by omega
  obtain ⟨z1,z2,z3,z4,z5,z6⟩:=h.size hs
  simp only[ej] at hf
  cases data with
  | false=>
    simp only[Bool.false_eq_true,if_false] at hf
    split at hf
    ·rename_i hc
     have hw:=congrArg Prod.fst hf
     simp only at hw
     exact ⟨j,x.toNat,hs,rfl,by omega,by omega⟩
    ·have:=congrArg Prod.snd hf
     simp at this
  | true=>
    simp only[if_true] at hf
    split at hf
    ·rename_i hc
     have hw:=congrArg Prod.fst hf
     simp only at hw
     exact ⟨j,(A5 m j+x).toNat,hs,rfl,by omega,by omega⟩
    ·have:=congrArg Prod.snd hf
     simp at this
 ·have:=congrArg Prod.snd hf
  simp at this
theorem Inv.Ahd (h:Inv m) {j t:Nat} (hs:Start m j) (ht:2+t<sz m j) (v:Int):Inv { m with wds:=m.wds.set (2*j+2+t) v }:=by
 have hkey:∀ j',Start m j' → ∀ c,c<2→(m.wds.set (2*j+2+t) v).getD (2*j'+c) 0=m.wds.getD (2*j'+c) 0:=by
  intro j' hs' c hc
  rw[CC,if_neg]
  rintro ⟨e,_⟩
  have h1:=h.apart j j' hs hs'
  have hz:=h.size hs'
  rcases Nat.lt_trichotomy j j' with hlt | rfl | hlt
  ·have:=h1 hlt; omega
  ·omega
  ·omega
 have key0:∀ j',Start m j'→(m.wds.set (2*j+2+t) v).getD (2*j') 0=m.wds.getD (2*j') 0:=fun j' hs'=>hkey j' hs' 0 (by decide)
 have hsz:∀ j',Start m j'→sz { m with wds:=m.wds.set (2*j+2+t) v } j'=sz m j':=fun j' hs'=>by
  unfold sz; rw[hkey j' hs' 1 (by decide)]
 refine ⟨fun j' hs'=>?_,fun j' hs'=>?_,fun j1 j2 h1 h2 hlt=>?_,fun j' hs'=>?_,fun id a hg=>?_,h.brt,h.onc⟩
 ·obtain ⟨r,d,k,hv,hn⟩:=h.good j' hs'
  exact ⟨r,d,k,hv,by rw[hkey j' hs' 1 (by decide)]; exact hn⟩
 ·rw[hsz j' hs']; simpa using h.fit j' hs'
 ·rw[hsz j1 h1]; exact h.apart j1 j2 h1 h2 hlt
 ·have:=h.idn j' hs'
  rw[← key0 j' hs'] at this
  exact this
 ·obtain ⟨j',rfl,hs',he⟩:=h.plc id a hg
  exact ⟨j',rfl,hs',(key0 j' hs').trans he⟩
end Go.Proofs.YtjbledomkmdkmaaGreat
end
section
namespace Go.Proofs.YtjbledomkmdkmaaGreat
open Go Go.AX
noncomputable local instance qCN:A9:=Aw
local instance nCN:Kn:=⟨true⟩
variable {σ:Aa} {i:DD} {m:HM}
def RA (mm:Option (Value × Aa)) (σ:Aa) (i:DD) (r:Int × HM):Prop:=
 ∃ σ',mm=some (.int .i64 r.1,σ')∧An σ' i r.2∧Bu i σ σ'
theorem RA.same (h:An σ i m) (τ:Aa) {code:Int} {mm:Option (Value × Aa)} (he:mm=some (.int .i64 code,σ++τ)) {r:Int × HM} (hr:r=(code,m)):RA mm σ i r:=
 ⟨σ++τ,by rw[hr]; exact he,by rw[hr]; exact h.app τ,Bu.app i σ τ⟩
theorem RA.to {mm mm':Option (Value × Aa)} {r:Int × HM} (h:RA mm σ i r) (f:∀ σ',mm=some (.int .i64 r.1,σ')→mm'=some (.int .i64 r.1,σ')):RA mm' σ i r:=by
 obtain ⟨σ',e,g⟩:=h
 exact ⟨σ',f σ' e,g⟩
def MH (m:HM) (a:Nat) (v:Int):HM:={ m with wds:=m.wds.set a v }
theorem yo (h:An σ i m) (hI:Inv m) (τ:Aa) {j t:Nat} (hs:Start m j) (ht:2+t<sz m j) (v:Int) (hv:AU v) {mm:Option (Value × Aa)}
  (he:mm=(AX.K3 (σ++τ) i.wd (2*j+2+t) (.int .i64 v)).bind fun s=>some (.int .i64 0,s)):RA mm σ i (0,MH m (2*j+2+t) v):=by
 have hf:=hI.fit j hs
 obtain ⟨e,h'⟩:=(h.app τ).K3 (show 2*j+2+t<m.wds.length by omega) v hv
 rw[e] at he
 exact ⟨_,he,h',(Bu.app i σ τ).trans (Bu.set _ _ (by simp[DD.l]))⟩
def EK (m:HM) (a x v:Int):Int × HM:=
 if (DG m a x false).2=0 then (if v≠0∧Ea m v=false then (1,m) else (0,MH m (DG m a x false).1.toNat v)) else ((DG m a x false).2,m)
def wy (m:HM) (a x v:Int):Int × HM:=
 if (DG m a x true).2=0 then (0,MH m (DG m a x true).1.toNat v) else ((DG m a x true).2,m)
def QD (m:HM) (a:Int) (v:Nat):Int × HM:=if Ea m a then (0,{ m with pnw:=GR 1 m.pnw (a.toNat/2) v }) else (4,m)
def Aib (m:HM) (a v:Int):Int × HM:=
 if 0≤a∧a<(m.wds.length:Int) then (match oK m a.toNat with
  | none=>(4,m)
  | some j=>if ((2*j+2:Nat):Int)≤a∧a<((2*j+2:Nat):Int)+A5 m j+BN m j then (0,MH m a.toNat v) else (4,m)) else (1,m)
theorem kZ (k:Nat) (h:An σ i m) (hI:Inv m) (a x v:Int) (ha:AU a) (hv:AU v):RA (Cv (k+7) (AV i) a x v σ) σ i (EK m a x v):=by
 unfold EK
 obtain ⟨τ,hf⟩:=oI k h hI a x ha false
 rw[Ru,KJ]
 try simp only[sw,Ad,Af,Ae]
 simp only[hf,Option.bind_some,Fs]
 generalize hfm:DG m a x false=w at hf ⊢
 obtain ⟨w,c⟩:=w
 by_cases hc:c=0
 ·subst hc
  obtain ⟨j,t,hs,rfl,rfl,ht⟩:=Aaw hI hfm
  have hfit:=hI.fit j hs
  have tail:RA ((AV i).bind fun a7=>(Hx (σ++τ) a7.block (a7.off+1)).bind fun l8=>if 0≤((2*j+2+t:Nat):Int)∧((2*j+2+t:Nat):Int)<(l8.2.1:Nat) then l8.1.bind fun a9=>(AX.K3 (σ++τ) a9.block (a9.off+((2*j+2+t:Nat):Int).toNat*1) (.int .i64 v)).bind fun s10=>some (.int .i64 (0:Int),s10) else none) σ i (0,MH m (2*j+2+t) v):=by
   refine yo h hI τ hs ht v hv ?_
   simp only[Option.bind_some,Nat.zero_add,(h.app τ).GJ]
   rw[if_pos (by omega)]
   simp only[Option.bind_some,Nat.zero_add,Int.toNat_natCast,Nat.mul_one]
  by_cases hv0:v=0
  ·subst hv0
   simp only[bne_self_eq_false,cond_false,Option.bind_some,ne_eq,not_true_eq_false,false_and,if_false,if_true,Int.toNat_natCast]
   exact tail
  ·have q:(v != 0)=true:=by simpa using hv0
   simp only[bne_self_eq_false,cond_false,q,cond_true,fZ (k+2) (h.app τ) v hv,Option.bind_some,Ar]
   cases Ea m v with
   | true=>
     simp only[Bool.not_true,cond_false,if_true,Bool.true_eq_false,and_false,if_false,Int.toNat_natCast]
     exact tail
   | false=>exact RA.same h τ rfl (by simp[hv0])
 ·have q:(c != 0)=true:=by simpa using hc
  simp only[q,cond_true]
  exact RA.same h τ rfl (by simp[hc])
theorem Inv.pins (h:Inv m) (l:List (BitVec 64)):Inv { m with pnw:=l }:=⟨h.good,h.fit,h.apart,h.idn,h.plc,h.brt,h.onc⟩
theorem Inv.vt (h:Inv m) (l:List (Int × Int)):Inv { m with fw:=l }:=⟨h.good,h.fit,h.apart,h.idn,h.plc,h.brt,h.onc⟩
theorem Aem (k:Nat) (h:An σ i m) (a:Int) (ha:AU a) (v:Nat) (hv:v<2):RA (Lp (k+10) (AV i) a (v:Int) σ) σ i (QD m a v):=by
 rw[gp,TB]
 try simp only[sw,Ad,Af,Ae]
 simp only[UQ _ h a ha,Option.bind_some,Aj]
 cases hh:Ea m a with
 | false=>exact RA.same h [] (code:=4) (by simp) (by simp[QD,hh])
 | true=>
   obtain ⟨j,rfl,hs⟩:=Ek hh
   have ej:((2*j:Nat):Int).toNat/2=j:=by omega
   unfold QD
   rw[hh,ej]
   have ht:=h.nt
   have hj:=hs.1
   have t1:((2*j:Nat):Int).tdiv 2=(j:Int):=by
    rw[show ((2*j:Nat):Int).tdiv 2=(((2*j)/2:Nat):Int) from rfl]; omega
   have e1:Cf (j:Int)=(j:Int):=Ak (by unfold AU; omega)
   obtain ⟨τ,hset⟩:=nQ k h.pn hj (show v<2 ^ 1 by omega)
   simp only[if_true,bne_self_eq_false,cond_false,Nat.zero_add,h.uu,Option.bind_some,t1,e1,show ((2:Int)=0)=False from by simp,if_false,hset,Aj]
   exact ⟨_,rfl,(h.app τ).Aie j v,(Bu.app i σ τ).trans (Bu.set _ _ (by simp[DD.l]))⟩
theorem Acr (k:Nat) (h:An σ i m) (a:Int) (ha:AU a):RA (IY (k+11) (AV i) a σ) σ i (QD m a 1):=by
 refine (Aem k h a ha 1 (by decide)).to fun σ' e=>?_
 rw[gn,TA]
 try simp only[sw,Ad,Af,Ae]
 simp only[show (1:Int)=((1:Nat):Int) from rfl,e,Option.bind_some,Aj]
def DH (m:HM) (j:Nat) (n:Int):HM:=
 { m with wds:=(m.wds.set (2*j) (m.births+1)).set (2*j+1) n,stw:=GR 1 m.stw j 1,pl:=Wy (m.births+1) ((2*j:Nat):Int) m.pl,births:=m.births+1 }
theorem Tz {n:Int} {j j':Nat} (hl:32*m.bls.length≤64*m.stw.length) (hj:j<32*m.bls.length):Start (DH m j n) j'↔j'=j∨Start m j':=by
 unfold Start DH
 simp only
 by_cases hq:j'=j
 ·subst hq
  simp only[true_or,iff_true]
  exact ⟨hj,Fo (.inl rfl) (by decide) (by omega)⟩
 ·rw[Ca (.inl rfl) (by decide) (fun e=>hq e.symm)]
  simp[hq]
theorem Inv.place (h:Inv m) (hw:m.wds.length=64*m.bls.length) (hl:32*m.bls.length≤64*m.stw.length) {j:Nat} {r d k:Int} (hv:valid r d k=true) (hj:j<32*m.bls.length)
  (hfit:2*j+XF (num r d k)≤m.wds.length) (hap:∀ o,Start m o→2*o+sz m o≤2*j∨2*j+XF (num r d k)≤2*o):Inv (DH m j (num r d k)):=by
 have hst:=fun j'=>Tz (m:=m) (n:=num r d k) (j:=j) (j':=j') hl hj
 have hnj:¬ Start m j:=fun hs=>by
  have h1:=hap j hs
  have h2:=h.size hs
  have h3:2≤XF (num r d k):=by
   rw[OG hv]
   simp[valid] at hv
   omega
  omega
 have w0:(DH m j (num r d k)).wds.getD (2*j) 0=m.births+1:=by
  unfold DH; simp only
  rw[CC,if_neg (by omega),CC,if_pos (by omega)]
 have w1:(DH m j (num r d k)).wds.getD (2*j+1) 0=num r d k:=by
  unfold DH; simp only
  rw[CC,if_pos ⟨rfl,by simp; omega⟩]
 have wo:∀ j' c,j'≠j→c<2→(DH m j (num r d k)).wds.getD (2*j'+c) 0=m.wds.getD (2*j'+c) 0:=by
  intro j' c hne hc
  unfold DH; simp only
  rw[CC,if_neg (by omega),CC,if_neg (by omega)]
 have s1:sz (DH m j (num r d k)) j=XF (num r d k):=by unfold sz; rw[w1]
 have so:∀ j',j'≠j→sz (DH m j (num r d k)) j'=sz m j':=fun j' hne=>by unfold sz; rw[wo j' 1 hne (by decide)]
 have wl:(DH m j (num r d k)).wds.length=m.wds.length:=by simp[DH]
 have wo0:∀ j',j'≠j→(DH m j (num r d k)).wds.getD (2*j') 0=m.wds.getD (2*j') 0:=fun j' hne=>wo j' 0 hne (by decide)
 have hpl:∀ x,getM (DH m j (num r d k)).pl x=if x=m.births+1 then some ((2*j:Nat):Int) else getM m.pl x:=fun x=>VE _ _ _ _
 have hne:∀ j',Start m j'→j'≠j:=fun j' hs e=>hnj (e ▸ hs)
 refine ⟨fun j' hs'=>?_,fun j' hs'=>?_,fun j1 j2 h1 h2 hlt=>?_,fun j' hs'=>?_,fun id a hg=>?_, ?_, ?_⟩
 ·rcases (hst j').1 hs' with rfl | hs'
  ·exact ⟨r,d,k,hv,w1⟩
  ·obtain ⟨r',d',k',hv',hn⟩:=h.good j' hs'
   exact ⟨r',d',k',hv',by rw[wo j' 1 (hne j' hs') (by decide)]; exact hn⟩
 ·rw[wl]
  rcases (hst j').1 hs' with rfl | hs'
  ·rw[s1]; exact hfit
  ·rw[so j' (hne j' hs')]; exact h.fit j' hs'
 ·rcases (hst j1).1 h1 with rfl | h1'
  ·rcases (hst j2).1 h2 with rfl | h2'
   ·omega
   ·rw[s1]
    have:=hap j2 h2'
    have:=h.size h2'
    omega
  ·rw[so j1 (hne j1 h1')]
   rcases (hst j2).1 h2 with rfl | h2'
   ·have:=hap j1 h1'
    omega
   ·exact h.apart j1 j2 h1' h2' hlt
 ·rw[hpl]
  rcases (hst j').1 hs' with rfl | hs'
  ·rw[w0]
   have:=h.brt
   refine ⟨by omega,by show _≤m.births+1; omega,if_pos rfl⟩
  ·rw[wo0 j' (hne j' hs')]
   obtain ⟨i1,i2,i3⟩:=h.idn j' hs'
   refine ⟨i1,by show _≤m.births+1; omega, ?_⟩
   rw[if_neg (by omega)]; exact i3
 ·rw[hpl] at hg
  split at hg
  ·rename_i hid
   cases hg
   exact ⟨j,rfl,(hst j).2 (.inl rfl),by rw[w0,hid]⟩
  ·obtain ⟨j',rfl,hs',he⟩:=h.plc id a hg
   exact ⟨j',rfl,(hst j').2 (.inr hs'),by rw[wo0 j' (hne j' hs')]; exact he⟩
 ·have:=h.brt
  show 0≤m.births+1
  omega
 ·exact cK _ _ _ h.onc
theorem Abb (k:Nat) {r d c:Int} (hv:valid r d c=true) (σ:Aa):∃ τ,JB (k+1) r d c σ=some (.int .i64 (num r d c),σ++τ):=by
 rw[Ye,Sw]
 try simp only[sw,Ad,Af,Ae]
 simp only[AM,BJ,Nat.zero_add,List.getElem?_cons_zero,List.getElem?_cons_succ,Option.bind_some,Aj]
 simp[valid] at hv
 have e1:Cf (16*d)=16*d:=Ak (by unfold AU; omega)
 have e2:Cf (r+16*d)=r+16*d:=Ak (by unfold AU; omega)
 have e3:Cf (4096*c)=4096*c:=Ak (by unfold AU; omega)
 have e4:Cf (r+16*d+4096*c)=r+16*d+4096*c:=Ak (by unfold AU; omega)
 simp only[e1,e2,e3,e4,num]
 exact ⟨_,rfl⟩
theorem sK {l:List (BitVec 64)} {n:Nat} (h:l.length=(32*n*1+63)/64):32*n≤64*l.length:=by omega
def Hc (m:HM) (a r d c:Int):Int × Int × HM:=
 if valid r d c then (if QB m a (XF (num r d c)) (-1)=0 then (m.births+1,0,DH m (a.toNat/2) (num r d c)) else (0,QB m a (XF (num r d c)) (-1),m)) else (0,2,m)
theorem uJ (k:Nat) (hk:5000≤k) (h:An σ i m) (hI:Inv m) (hb:m.births<1000000) (a r d c:Int) (ha:AU a):∃ σ',DW (k+12) (AV i) a r d c σ=some (.tuple #[.int .i64 (Hc m a r d c).1,.int .i64 (Hc m a r d c).2.1],σ')∧An σ' i (Hc m a r d c).2.2∧Bu i σ σ':=by
 have ht:=h.nt
 have hw:=h.wl
 rw[SO,LQ]
 try simp only[sw,Ad,Af,Ae]
 simp only[AM]
 obtain ⟨μ0,hμ0⟩:∃ μ0,σ++[A6.cells [Value.int .i64 r,.int .i64 d,.int .i64 c] Ag true]=μ0:=⟨_,rfl⟩
 have h0:An μ0 i m:=hμ0 ▸ h.app _
 have k0:Bu i σ μ0:=hμ0 ▸ Bu.app i σ _
 have hbox:μ0[σ.length]?=some (A6.cells [Value.int .i64 r,.int .i64 d,.int .i64 c] Ag true):=by rw[← hμ0]; simp
 have bx:∀ {μ:Aa},μ[σ.length]?=some (A6.cells [Value.int .i64 r,.int .i64 d,.int .i64 c] Ag true)→Dg .i64 μ σ.length 0=some r∧Dg .i64 μ σ.length 1=some d∧Dg .i64 μ σ.length 2=some c:=by
  intro μ hm; simp[Dg,Gi,hm,Ml]
 have hnew:σ.length ∉ i.l:=fun hm=>Nat.lt_irrefl _ (h.lt _ hm)
 have bk:∀ {μ μ':Aa},Bu i μ μ'→μ[σ.length]?=some (A6.cells [Value.int .i64 r,.int .i64 d,.int .i64 c] Ag true)→μ'[σ.length]?=some (A6.cells [Value.int .i64 r,.int .i64 d,.int .i64 c] Ag true):=fun hk hm=>(hk.same _ (Al hm) hnew).trans hm
 obtain ⟨τ1,hV⟩:=fq (k+10) r d c μ0
 rw[hμ0]
 obtain ⟨b0,b1,b2⟩:=bx hbox
 simp only[Lt _ h0,Option.bind_some,Ar,Bool.not_true,cond_false,Nat.zero_add,Nat.reduceAdd,b0,b1,b2,hV]
 cases hv:valid r d c with
 | false=>
   unfold Hc
   rw[hv]
   exact ⟨μ0++τ1,by simp,h0.app _,k0.trans (Bu.app i μ0 τ1)⟩
 | true=>
   have hx1:=bk (Bu.app i μ0 τ1) hbox
   obtain ⟨c0,c1,c2⟩:=bx hx1
   obtain ⟨τ2,hW⟩:=ft (k+9) r d c (μ0++τ1)
   have hwo:words r d c=((XF (num r d c):Nat):Int):=by
    rw[OG hv]; unfold words; rw[hv]; simp only[cond_true]
    simp[valid] at hv
    omega
   have hwl:=pY (num r d c)
   have hw2:2≤XF (num r d c):=by
    rw[OG hv]
    simp[valid] at hv
    omega
   have h1:An (μ0++τ1++τ2) i m:=(h0.app _).app _
   obtain ⟨τ3,hF⟩:=Agm k hk h1 a (XF (num r d c)) (-1) hw2 hwl
   simp only[Bool.not_true,cond_false,c0,c1,c2,hW,Option.bind_some,Aj,hwo,hF]
   obtain ⟨μ1,hμ1⟩:∃ μ1,μ0++τ1++τ2++τ3=μ1:=⟨_,rfl⟩
   rw[hμ1]
   have hh1:An μ1 i m:=hμ1 ▸ h1.app _
   have k1:Bu i μ0 μ1:=hμ1 ▸ (((Bu.app i μ0 τ1).trans (Bu.app i _ τ2)).trans (Bu.app i _ τ3))
   have hx2:=bk k1 hbox
   by_cases hc:QB m a (XF (num r d c)) (-1)=0
   rotate_left
   ·have q:(QB m a (XF (num r d c)) (-1) != 0)=true:=by simpa using hc
    simp only[q,cond_true]
    unfold Hc
    rw[hv,if_pos rfl,if_neg hc]
    exact ⟨μ1,rfl,hh1,k0.trans k1⟩
   obtain ⟨j,rfl,hj,hfit,hap⟩:=hI.fits hw hwl hw2 hc
   have hbrt:=hI.brt
   obtain ⟨μ2,e2,hh2,k2⟩:=hh1.st6 (m.births+1)
   have hx3:=bk k2 hx2
   obtain ⟨d0,d1,d2⟩:=bx hx3
   obtain ⟨τ4,hN⟩:=Abb (k+10) hv μ2
   have e0:Cf (m.births+1)=m.births+1:=Ak (by unfold AU; omega)
   have q1:(0≤((2*j:Nat):Int)∧((2*j:Nat):Int)<((m.wds.length:Nat):Int))=True:=eq_true (by omega)
   have ew:Cf (((2*j:Nat):Int)+1)=((2*j+1:Nat):Int):=Ak (by unfold AU; omega)
   have q2:(0≤((2*j+1:Nat):Int)∧((2*j+1:Nat):Int)<((m.wds.length:Nat):Int))=True:=eq_true (by omega)
   obtain ⟨e4,hh4⟩:=(hh2.app τ4).K3 (a:=2*j) (by show 2*j<m.wds.length; omega) (m.births+1) (by unfold AU; omega)
   obtain ⟨μ4,hμ4⟩:∃ μ4,(μ2++τ4).set i.wd (.cells (Bm (m.wds.set (2*j) (m.births+1))) D9 true)=μ4:=⟨_,rfl⟩
   simp only at e4 hh4
   rw[hμ4] at e4 hh4
   obtain ⟨e5,hh5⟩:=hh4.K3 (a:=2*j+1) (by simp; omega) (num r d c) (PM hv).2.2.2
   simp only at e5 hh5
   obtain ⟨μ5,hμ5⟩:∃ μ5,μ4.set i.wd (.cells (Bm ((m.wds.set (2*j) (m.births+1)).set (2*j+1) (num r d c))) D9 true)=μ5:=⟨_,rfl⟩
   rw[hμ5] at e5 hh5
   obtain ⟨τ6,hS⟩:=nQ (k+2) hh5.st (j:=j) (v:=1) hj (by decide)
   have t1:((2*j:Nat):Int).tdiv 2=(j:Int):=by
    rw[show ((2*j:Nat):Int).tdiv 2=(((2*j)/2:Nat):Int) from rfl]; omega
   have e6:Cf (j:Int)=(j:Int):=Ak (by unfold AU; omega)
   have hh6:=(hh5.app τ6).Aif j 1
   simp only at hS hh6
   obtain ⟨μ6,hμ6⟩:∃ μ6,(μ5++τ6).set i.sw (.cells (rowOf (GR 1 m.stw j 1)) Bt true)=μ6:=⟨_,rfl⟩
   rw[hμ6] at hS hh6
   have hh7:=hh6.Aid (Wy (m.births+1) ((2*j:Nat):Int) m.pl)
   simp only at hh7
   have k4:Bu i μ2 μ4:=hμ4 ▸ (Bu.app i μ2 τ4).trans (Bu.set _ _ (by simp[DD.l]))
   have k5:Bu i μ4 μ5:=hμ5 ▸ Bu.set _ _ (by simp[DD.l])
   have k6:Bu i μ5 μ6:=hμ6 ▸ (Bu.app i μ5 τ6).trans (Bu.set _ _ (by simp[DD.l]))
   unfold Hc
   rw[hv,if_pos rfl,if_pos hc,show ((2*j:Nat):Int).toNat/2=j from by omega]
   refine ⟨μ6.set i.pl (.map (au (Wy (m.births+1) ((2*j:Nat):Int) m.pl))), ?_,hh7,((((k0.trans k1).trans k2).trans k4).trans k5).trans (k6.trans (Bu.set _ _ (by simp[DD.l])))⟩
   simp only[hc,bne_self_eq_false,cond_false,hh1.ld6,Option.bind_some,e0,e2,hh2.GJ,hh2.ld6,d0,d1,d2,hN]
   simp only[Aj,Option.bind_some,ew,Nat.zero_add,Nat.mul_one,Int.toNat_natCast]
   rw[if_pos (by omega)]
   simp only[e4,Option.bind_some]
   rw[if_pos (by omega)]
   have hS':Br (k+11) (some ⟨i.st,0,none⟩) (j:Int) 1 μ5=some (.int .i64 0,μ6):=hS
   simp only[e5,Option.bind_some,hh5.kr,t1,e6,show ((2:Int)=0)=False from by simp,if_false,hS',Aj,hh6.ld4,hh6.ld6,Yt,hh6.pl,rV,hh7.ld6]
def VS (l:List Int) (a:Nat) (v:List Int):List Int:=l.take a++v++l.drop (a+v.length)
theorem PN {l:List Int} {a:Nat} {v:List Int} (h:a+v.length≤l.length):(VS l a v).length=l.length:=by
 simp[VS]; omega
theorem L9 {l:List Int} {a:Nat} {v:List Int} (h:a+v.length≤l.length) (x:Nat):(VS l a v).getD x 0=if a≤x∧x<a+v.length then v.getD (x-a) 0 else l.getD x 0:=by
 simp only[VS,List.getD_eq_getElem?_getD]
 have ha:(l.take a).length=a:=by simp; omega
 rcases Nat.lt_or_ge x a with h1 | h1
 ·rw[List.append_assoc,List.getElem?_append_left (by rw[ha]; exact h1),List.getElem?_take,if_pos h1,if_neg (by omega)]
 ·rcases Nat.lt_or_ge x (a+v.length) with h2 | h2
  ·rw[List.append_assoc,List.getElem?_append_right (by rw[ha]; exact h1),ha,List.getElem?_append_left (by omega),if_pos ⟨h1,h2⟩]
  ·rw[List.getElem?_append_right (by simp; omega),if_neg (by omega),List.getElem?_drop]
   congr 2
   simp; omega
theorem Aa0 (l:List Int) (a:Nat) (v:List Int):Bm (VS l a v)=AL (Bm l) a (Bm v):=by
 simp[VS,Bm,AL,List.map_take,List.map_drop]
theorem vW (n:Nat):rep n [Value.int .i64 0]=Bm (List.replicate n 0):=by
 simp only[rep,Bm,List.map_replicate]
 induction n with
 | zero=>rfl
 | succ n ih=>rw[List.replicate_succ,List.flatten_cons,ih,List.replicate_succ]; rfl
theorem wB (h:An σ i m) {a b:Nat} (hab:a<b) (hb:b≤m.wds.length):
  HK As 1 (some ⟨i.wd,0,none⟩,m.wds.length,m.wds.length) (some (.int .i64 (a:Int))) (some (.int .i64 (b:Int))) none σ=some (some ⟨i.wd,a,none⟩,b-a,m.wds.length-a):=by
 have e1:elemAt σ i.wd=some 3:=by simp only[elemAt,h.wd]
 have c1:(0≤(b:Int)∧(b:Int)≤((m.wds.length:Nat):Int)):=by omega
 have c2:(0≤(a:Int)∧(a:Int)≤((b:Nat):Int)):=by omega
 simp only[HK,Option.isSome_none,Bool.not_false,Bool.true_or,cond_true,bound,Int.toNat_natCast]
 rw[if_pos c1,if_pos c2,if_neg (by omega)]
 simp[e1]
theorem Ahq (k:Nat) (h:An σ i m) {a n:Nat} (hn:0<n) (ha:a+n≤m.wds.length):
  G3 (k+1) (AV i) (a:Int) (n:Int) σ=some (.tuple #[],σ.set i.wd (.cells (Bm (VS m.wds a (List.replicate n 0))) D9 true)) ∧
  An (σ.set i.wd (.cells (Bm (VS m.wds a (List.replicate n 0))) D9 true)) i { m with wds:=VS m.wds a (List.replicate n 0) }:=by
 have ht:=h.nt
 have hw:=h.wl
 refine ⟨?_,h.Aig _ (PN (by simpa using ha)) fun x=>?_⟩
 ·rw[TZ,MR]
  try simp only[sw,Ad,Af,Ae]
  have e1:Cf ((a:Int)+(n:Int))=((a+n:Nat):Int):=Ak (by unfold AU; omega)
  simp only[Option.bind_some,Nat.zero_add,h.GJ,e1,wB h (show a<a+n by omega) ha]
  rw[if_neg (by omega)]
  rw[show a+n-a=n from by omega]
  simp only[Option.bind_some,XJ,h.wd,vW,EI,List.length_replicate,ha,if_true,Aa0]
 ·rw[L9 (by simpa using ha)]
  split
  ·rw[List.getD_eq_getElem?_getD,List.getElem?_replicate]
   split <;> (unfold AU; decide)
  ·exact h.wi x
def KB (m:HM) (j:Nat):HM:=
 { m with wds:=VS m.wds (2*j) (List.replicate (sz m j) 0),stw:=GR 1 m.stw j 0,pnw:=GR 1 m.pnw j 0,pl:=ki (m.wds.getD (2*j) 0) m.pl }
theorem Sr {j j':Nat} (hl:32*m.bls.length≤64*m.stw.length) (hj:j<32*m.bls.length):Start (KB m j) j'↔j'≠j∧Start m j':=by
 unfold Start KB
 simp only
 by_cases hq:j'=j
 ·subst hq
  rw[Fo (.inl rfl) (by decide) (by omega)]
  simp
 ·rw[Ca (.inl rfl) (by decide) (fun e=>hq e.symm)]
  simp[hq]
theorem Inv.kill (h:Inv m) (hl:32*m.bls.length≤64*m.stw.length) {j:Nat} (hs:Start m j):Inv (KB m j):=by
 have hj:=hs.1
 have hf:=h.fit j hs
 have hst:=fun j'=>Sr (m:=m) (j:=j) (j':=j') hl hj
 have hz:=h.size hs
 have wl:(KB m j).wds.length=m.wds.length:=PN (by simpa using hf)
 have wo:∀ j',j'≠j→Start m j' → ∀ c,c<2→(KB m j).wds.getD (2*j'+c) 0=m.wds.getD (2*j'+c) 0:=by
  intro j' hne hs' c hc
  have hz':=h.size hs'
  show (VS _ _ _).getD _ 0=_
  rw[L9 (by simpa using hf),if_neg]
  rintro ⟨p1,p2⟩
  simp only[List.length_replicate] at p2
  rcases Nat.lt_trichotomy j j' with hlt | rfl | hlt
  ·have:=h.apart j j' hs hs' hlt; omega
  ·exact hne rfl
  ·have:=h.apart j' j hs' hs hlt; omega
 have wo0:∀ j',j'≠j→Start m j'→(KB m j).wds.getD (2*j') 0=m.wds.getD (2*j') 0:=fun j' hne hs'=>wo j' hne hs' 0 (by decide)
 have so:∀ j',j'≠j→Start m j'→sz (KB m j) j'=sz m j':=fun j' hne hs'=>by unfold sz; rw[wo j' hne hs' 1 (by decide)]
 have hpl:∀ x,getM (KB m j).pl x=if x=m.wds.getD (2*j) 0 then none else getM m.pl x:=fun x=>cr _ _ _ h.onc
 refine ⟨fun j' hs'=>?_,fun j' hs'=>?_,fun j1 j2 h1 h2 hlt=>?_,fun j' hs'=>?_,fun id a hg=>?_,h.brt,vH _ _ h.onc⟩
 ·obtain ⟨hne,hs'⟩:=(hst j').1 hs'
  obtain ⟨r,d,k,hv,hn⟩:=h.good j' hs'
  exact ⟨r,d,k,hv,by rw[wo j' hne hs' 1 (by decide)]; exact hn⟩
 ·obtain ⟨hne,hs'⟩:=(hst j').1 hs'
  rw[wl,so j' hne hs']; exact h.fit j' hs'
 ·obtain ⟨hne1,h1'⟩:=(hst j1).1 h1
  obtain ⟨hne2,h2'⟩:=(hst j2).1 h2
  rw[so j1 hne1 h1']; exact h.apart j1 j2 h1' h2' hlt
 ·obtain ⟨hne,hs'⟩:=(hst j').1 hs'
  obtain ⟨i1,i2,i3⟩:=h.idn j' hs'
  rw[wo0 j' hne hs',hpl]
  refine ⟨i1,i2, ?_⟩
  rw[if_neg]
  ·exact i3
  ·intro e
   rw[e,(h.idn j hs).2.2] at i3
   simp at i3
   omega
 ·rw[hpl] at hg
  split at hg
  ·cases hg
  ·rename_i hne
   obtain ⟨j',rfl,hs',he⟩:=h.plc id a hg
   have hjj:j'≠j:=fun e=>hne (by rw[← he,e])
   exact ⟨j',rfl,(hst j').2 ⟨hjj,hs'⟩,by rw[wo0 j' hjj hs']; exact he⟩
def Kv (m:HM) (a:Int):Int × HM:=if Ea m a then (0,KB m (a.toNat/2)) else (4,m)
theorem qY (k:Nat) (h:An σ i m) (hI:Inv m) (a:Int) (ha:AU a):RA (DK (k+12) (AV i) a σ) σ i (Kv m a):=by
 have ht:=h.nt
 have hw:=h.wl
 rw[TS,ML]
 try simp only[sw,Ad,Af,Ae]
 simp only[UQ _ h a ha,Option.bind_some,Aj]
 cases hh:Ea m a with
 | false=>exact RA.same h [] (code:=4) (by simp) (by simp[Kv,hh])
 | true=>
   obtain ⟨j,rfl,hs⟩:=Ek hh
   have hr:Kv m ((2*j:Nat):Int)=(0,KB m j):=by unfold Kv; rw[hh,if_pos rfl,show ((2*j:Nat):Int).toNat/2=j from by omega]
   rw[hr]
   have hj:=hs.1
   have hf:=hI.fit j hs
   have hz:=hI.size hs
   have t1:((2*j:Nat):Int).tdiv 2=(j:Int):=by
    rw[show ((2*j:Nat):Int).tdiv 2=(((2*j)/2:Nat):Int) from rfl]; omega
   have e1:Cf (j:Int)=(j:Int):=Ak (by unfold AU; omega)
   have h1:=h.Aid (ki (m.wds.getD (2*j) 0) m.pl)
   obtain ⟨μ1,hμ1⟩:∃ μ1,σ.set i.pl (.map (au (ki (m.wds.getD (2*j) 0) m.pl)))=μ1:=⟨_,rfl⟩
   rw[hμ1] at h1
   obtain ⟨τ2,hS2⟩:=nQ (k+2) h1.st (j:=j) (v:=0) hj (by decide)
   have h2:=(h1.app τ2).Aif j 0
   simp only at hS2 h2
   obtain ⟨μ2,hμ2⟩:∃ μ2,(μ1++τ2).set i.sw (.cells (rowOf (GR 1 m.stw j 0)) Bt true)=μ2:=⟨_,rfl⟩
   rw[hμ2] at hS2 h2
   obtain ⟨τ3,hS3⟩:=nQ (k+2) h2.pn (j:=j) (v:=0) hj (by decide)
   have h3:=(h2.app τ3).Aie j 0
   simp only at hS3 h3
   obtain ⟨μ3,hμ3⟩:∃ μ3,(μ2++τ3).set i.pw (.cells (rowOf (GR 1 m.pnw j 0)) Bt true)=μ3:=⟨_,rfl⟩
   rw[hμ3] at hS3 h3
   obtain ⟨τ4,hZ⟩:=z9 (k+8) h3 hj
   have hZ':BP (k+11) (AV i) ((2*j:Nat):Int) μ3=some (.int .i64 (sz m j:Int),μ3++τ4):=hZ
   obtain ⟨hWp,h5⟩:=Ahq (k+10) (h3.app τ4) (a:=2*j) (n:=sz m j) (by omega) hf
   simp only at hWp h5
   have k1:Bu i σ μ1:=hμ1 ▸ Bu.set _ _ (by simp[DD.l])
   have k2:Bu i μ1 μ2:=hμ2 ▸ (Bu.app i μ1 τ2).trans (Bu.set _ _ (by simp[DD.l]))
   have k3:Bu i μ2 μ3:=hμ3 ▸ (Bu.app i μ2 τ3).trans (Bu.set _ _ (by simp[DD.l]))
   refine ⟨_, ?_,h5,((k1.trans k2).trans k3).trans ((Bu.app i μ3 τ4).trans (Bu.set _ _ (by simp[DD.l])))⟩
   have q1:(0≤((2*j:Nat):Int)∧((2*j:Nat):Int)<((m.wds.length:Nat):Int)):=by omega
   simp only[if_true,bne_self_eq_false,cond_false,Nat.zero_add,h.ld4,h.GJ,Option.bind_some]
   rw[if_pos q1]
   have hS2':Br (k+11) (some ⟨i.st,0,none⟩) (j:Int) 0 μ1=some (.int .i64 0,μ2):=hS2
   have hS3':Br (k+11) (some ⟨i.pn,0,none⟩) (j:Int) 0 μ2=some (.int .i64 0,μ3):=hS3
   simp only[Option.bind_some,Nat.zero_add,Nat.mul_one,Int.toNat_natCast,h.ldW (show 2*j<m.wds.length by omega),qK,Yt,h.pl,rU,Ab0,hμ1,h1.kr,show ((2:Int)=0)=False from by simp,if_false,t1,e1,hS2',Aj,h2.uu,hS3',hZ',hWp,M8]
end Go.Proofs.YtjbledomkmdkmaaGreat
end
