/- What the calls that change a heap come to (first part): the parts of a heap turned one by one; fields.; What the calls that change a heap come to (sec -/
import Derived.Test.YtlaplcglpnlieaaGreatP12
set_option linter.unusedVariables false
set_option linter.unusedSimpArgs false
set_option linter.unusedSectionVars false
section
namespace Go.Proofs.YtlaplcglpnlieaaGreat
open Go Go.AX
noncomputable local instance vi:AF:=Au
local instance tX:Kn:=⟨true⟩
variable {σ:Aa} {i:Cs} {m:HM}
theorem Cs.ne (h:i.l.Nodup):i.hb≠i.bl∧i.hb≠i.wd∧i.hb≠i.st∧i.hb≠i.sw∧i.hb≠i.pn∧i.hb≠i.pw∧i.hb≠i.pl∧i.hb≠i.fw ∧
  i.bl≠i.wd∧i.bl≠i.st∧i.bl≠i.sw∧i.bl≠i.pn∧i.bl≠i.pw∧i.bl≠i.pl∧i.bl≠i.fw ∧
  i.wd≠i.st∧i.wd≠i.sw∧i.wd≠i.pn∧i.wd≠i.pw∧i.wd≠i.pl∧i.wd≠i.fw ∧
  i.st≠i.sw∧i.st≠i.pn∧i.st≠i.pw∧i.st≠i.pl∧i.st≠i.fw∧i.sw≠i.pn∧i.sw≠i.pw∧i.sw≠i.pl∧i.sw≠i.fw ∧
  i.pn≠i.pw∧i.pn≠i.pl∧i.pn≠i.fw∧i.pw≠i.pl∧i.pw≠i.fw∧i.pl≠i.fw:=by
 simp[Cs.l,and_assoc] at h
 simp only[ne_eq]
 exact h
theorem Ah.qW (h:Ah σ i m) (l:List Int) (hl:l.length=m.wds.length) (hi:∀ a,AW (l.getD a 0)):Ah (σ.set i.wd (.cells (Df l) D2 true)) i { m with wds:=l }:=by
 obtain ⟨n1,n2,n3,n4,n5,n6,n7,n8,n9,n10,n11,n12,n13,n14,n15,n16,n17,n18,n19,n20,n21,n22,n23,n24,n25,n26,n27,n28,n29,n30,n31,n32,n33,n34,n35,n36⟩:=Cs.ne h.nd
 have g:∀ {j},j≠i.wd→(σ.set i.wd (.cells (Df l) D2 true))[j]?=σ[j]?:=fun hj=>List.getElem?_set_ne (Ne.symm hj)
 exact ⟨by rw[g (by first | assumption | (apply Ne.symm; assumption)),h.hp]; simp only[hl],by rw[g (by first | assumption | (apply Ne.symm; assumption))]; exact h.bl,by rw[List.getElem?_set_self (Ae h.wd)],h.st.same (g (by first | assumption | (apply Ne.symm; assumption))) (g (by first | assumption | (apply Ne.symm; assumption))),h.pn.same (g (by first | assumption | (apply Ne.symm; assumption))) (g (by first | assumption | (apply Ne.symm; assumption))),by rw[g (by first | assumption | (apply Ne.symm; assumption))]; exact h.pl,by rw[g (by first | assumption | (apply Ne.symm; assumption))]; exact h.fw,h.nb,h.nt,by rw[hl]; exact h.wl,h.nd,hi⟩
theorem Ah.ez (h:Ah σ i m) (l:List (Int × Int)) (hl:l.length=m.bls.length):Ah (σ.set i.bl (.cells (CE l) DP true)) i { m with bls:=l }:=by
 obtain ⟨n1,n2,n3,n4,n5,n6,n7,n8,n9,n10,n11,n12,n13,n14,n15,n16,n17,n18,n19,n20,n21,n22,n23,n24,n25,n26,n27,n28,n29,n30,n31,n32,n33,n34,n35,n36⟩:=Cs.ne h.nd
 have g:∀ {j},j≠i.bl→(σ.set i.bl (.cells (CE l) DP true))[j]?=σ[j]?:=fun hj=>List.getElem?_set_ne (Ne.symm hj)
 exact ⟨by rw[g (by first | assumption | (apply Ne.symm; assumption)),h.hp]; simp only[hl],by rw[List.getElem?_set_self (Ae h.bl)],by rw[g (by first | assumption | (apply Ne.symm; assumption))]; exact h.wd,by rw[hl]; exact h.st.same (g (by first | assumption | (apply Ne.symm; assumption))) (g (by first | assumption | (apply Ne.symm; assumption))),by rw[hl]; exact h.pn.same (g (by first | assumption | (apply Ne.symm; assumption))) (g (by first | assumption | (apply Ne.symm; assumption))),by rw[g (by first | assumption | (apply Ne.symm; assumption))]; exact h.pl,by rw[g (by first | assumption | (apply Ne.symm; assumption))]; exact h.fw,by rw[hl]; exact h.nb,by rw[hl]; exact h.nt,by rw[hl]; exact h.wl,h.nd,h.wi⟩
theorem Ah.qV (h:Ah σ i m) (j v:Nat):Ah (σ.set i.sw (.cells (rowOf (Hm 1 m.stw j v)) BN true)) i { m with stw:=Hm 1 m.stw j v }:=by
 obtain ⟨n1,n2,n3,n4,n5,n6,n7,n8,n9,n10,n11,n12,n13,n14,n15,n16,n17,n18,n19,n20,n21,n22,n23,n24,n25,n26,n27,n28,n29,n30,n31,n32,n33,n34,n35,n36⟩:=Cs.ne h.nd
 have g:∀ {j'},j'≠i.sw→(σ.set i.sw (.cells (rowOf (Hm 1 m.stw j v)) BN true))[j']?=σ[j']?:=fun hj=>List.getElem?_set_ne (Ne.symm hj)
 exact ⟨by rw[g (by first | assumption | (apply Ne.symm; assumption)),h.hp],by rw[g (by first | assumption | (apply Ne.symm; assumption))]; exact h.bl,by rw[g (by first | assumption | (apply Ne.symm; assumption))]; exact h.wd,h.st.put (by first | assumption | (apply Ne.symm; assumption)) j v,h.pn.same (g (by first | assumption | (apply Ne.symm; assumption))) (g (by first | assumption | (apply Ne.symm; assumption))),by rw[g (by first | assumption | (apply Ne.symm; assumption))]; exact h.pl,by rw[g (by first | assumption | (apply Ne.symm; assumption))]; exact h.fw,h.nb,h.nt,h.wl,h.nd,h.wi⟩
theorem Ah.sO (h:Ah σ i m) (j v:Nat):Ah (σ.set i.pw (.cells (rowOf (Hm 1 m.pnw j v)) BN true)) i { m with pnw:=Hm 1 m.pnw j v }:=by
 obtain ⟨n1,n2,n3,n4,n5,n6,n7,n8,n9,n10,n11,n12,n13,n14,n15,n16,n17,n18,n19,n20,n21,n22,n23,n24,n25,n26,n27,n28,n29,n30,n31,n32,n33,n34,n35,n36⟩:=Cs.ne h.nd
 have g:∀ {j'},j'≠i.pw→(σ.set i.pw (.cells (rowOf (Hm 1 m.pnw j v)) BN true))[j']?=σ[j']?:=fun hj=>List.getElem?_set_ne (Ne.symm hj)
 exact ⟨by rw[g (by first | assumption | (apply Ne.symm; assumption)),h.hp],by rw[g (by first | assumption | (apply Ne.symm; assumption))]; exact h.bl,by rw[g (by first | assumption | (apply Ne.symm; assumption))]; exact h.wd,h.st.same (g (by first | assumption | (apply Ne.symm; assumption))) (g (by first | assumption | (apply Ne.symm; assumption))),h.pn.put (by first | assumption | (apply Ne.symm; assumption)) j v,by rw[g (by first | assumption | (apply Ne.symm; assumption))]; exact h.pl,by rw[g (by first | assumption | (apply Ne.symm; assumption))]; exact h.fw,h.nb,h.nt,h.wl,h.nd,h.wi⟩
theorem Ah.qU (h:Ah σ i m) (l:List (Int × Int)):Ah (σ.set i.pl (.map (TK l))) i { m with pl:=l }:=by
 obtain ⟨n1,n2,n3,n4,n5,n6,n7,n8,n9,n10,n11,n12,n13,n14,n15,n16,n17,n18,n19,n20,n21,n22,n23,n24,n25,n26,n27,n28,n29,n30,n31,n32,n33,n34,n35,n36⟩:=Cs.ne h.nd
 have g:∀ {j},j≠i.pl→(σ.set i.pl (.map (TK l)))[j]?=σ[j]?:=fun hj=>List.getElem?_set_ne (Ne.symm hj)
 exact ⟨by rw[g (by first | assumption | (apply Ne.symm; assumption)),h.hp],by rw[g (by first | assumption | (apply Ne.symm; assumption))]; exact h.bl,by rw[g (by first | assumption | (apply Ne.symm; assumption))]; exact h.wd,h.st.same (g (by first | assumption | (apply Ne.symm; assumption))) (g (by first | assumption | (apply Ne.symm; assumption))),h.pn.same (g (by first | assumption | (apply Ne.symm; assumption))) (g (by first | assumption | (apply Ne.symm; assumption))),by rw[List.getElem?_set_self (Ae h.pl)],by rw[g (by first | assumption | (apply Ne.symm; assumption))]; exact h.fw,h.nb,h.nt,h.wl,h.nd,h.wi⟩
theorem Ah.tO (h:Ah σ i m) (b:Int):∃ σ',G0 σ i.hb 6 (.int .i64 b)=some σ'∧Ah σ' i { m with births:=b }∧BM i σ σ':=by
 obtain ⟨n1,n2,n3,n4,n5,n6,n7,n8,n9,n10,n11,n12,n13,n14,n15,n16,n17,n18,n19,n20,n21,n22,n23,n24,n25,n26,n27,n28,n29,n30,n31,n32,n33,n34,n35,n36⟩:=Cs.ne h.nd
 simp only[G0,h.hp]
 refine ⟨_,rfl, ?_,BM.set σ _ (by simp[Cs.l])⟩
 have g:∀ {j o},j≠i.hb→(σ.set i.hb o)[j]?=σ[j]?:=fun hj=>List.getElem?_set_ne (Ne.symm hj)
 exact ⟨by rw[List.getElem?_set_self (Ae h.hp)]; rfl,by rw[g (by first | assumption | (apply Ne.symm; assumption))]; exact h.bl,by rw[g (by first | assumption | (apply Ne.symm; assumption))]; exact h.wd,h.st.same (g (by first | assumption | (apply Ne.symm; assumption))) (g (by first | assumption | (apply Ne.symm; assumption))),h.pn.same (g (by first | assumption | (apply Ne.symm; assumption))) (g (by first | assumption | (apply Ne.symm; assumption))),by rw[g (by first | assumption | (apply Ne.symm; assumption))]; exact h.pl,by rw[g (by first | assumption | (apply Ne.symm; assumption))]; exact h.fw,h.nb,h.nt,h.wl,h.nd,h.wi⟩
theorem m6 (l:List Int) (a:Nat) (v:Int):Df (l.set a v)=(Df l).set a (.int .i64 v):=by simp[Df,List.map_set]
theorem CL (l:List Int) (a b:Nat) (v:Int):(l.set a v).getD b 0=if a=b∧a<l.length then v else l.getD b 0:=by
 simp only[List.getD_eq_getElem?_getD,List.getElem?_set]
 split
 ·rename_i e; subst e
  split
  ·rename_i h; simp[h]
  ·rename_i h; simp[h,List.getElem?_eq_none (Nat.le_of_not_lt h)]
 ·rename_i e; simp[e]
theorem Ah.G0 (h:Ah σ i m) {a:Nat} (ha:a<m.wds.length) (v:Int) (hv:AW v):AX.G0 σ i.wd a (.int .i64 v)=some (σ.set i.wd (.cells (Df (m.wds.set a v)) D2 true))∧Ah (σ.set i.wd (.cells (Df (m.wds.set a v)) D2 true)) i { m with wds:=m.wds.set a v }:=by
 refine ⟨?_,h.qW _ (by simp) fun b=>?_⟩
 ·simp only[AX.G0,h.wd,Jr,ha,if_true,m6]
 ·rw[CL]
  split
  ·exact hv
  ·exact h.wi b
def R6 (m:HM) (a x:Int) (data:Bool):Int × Int:=
 if Qw m a then
  let j:=a.toNat/2
  let first:=a+2+(if data then BV m j else 0)
  if 0≤x∧x<(if data then E5 m j else BV m j) then (first+x,0) else (0,1)
 else (0,4)
theorem Inv.qv (h:Inv m) {j t:Nat} (hs:Start m j) (ht:2+t<sz m j) (v:Int):Inv { m with wds:=m.wds.set (2*j+2+t) v }:=by
 have hkey:∀ j',Start m j' → ∀ c,c<2→(m.wds.set (2*j+2+t) v).getD (2*j'+c) 0=m.wds.getD (2*j'+c) 0:=by
  intro j' hs' c hc
  rw[CL,if_neg]
  rintro ⟨e,_⟩
  have h1:=h.apart j j' hs hs'
  have hz:=h.size hs'
  rcases Nat.lt_trichotomy j j' with hlt | rfl | hlt
  ·have:=h1 hlt; omega
  ·omega
  ·omega
 have key0:∀ j',Start m j'→(m.wds.set (2*j+2+t) v).getD (2*j') 0=m.wds.getD (2*j') 0:=fun j' hs'=>hkey j' hs' 0 (by decide)
 have hsz:∀ j',Start m j'→sz { m with wds:=m.wds.set (2*j+2+t) v } j'=sz m j':=fun j' hs'=>by
  unfold sz; rw[hkey j' hs' 1 (by decide)]
 refine ⟨fun j' hs'=>?_,fun j' hs'=>?_,fun j1 j2 h1 h2 hlt=>?_,fun j' hs'=>?_,fun id a hg=>?_,h.brt,h.onc⟩
 ·obtain ⟨r,d,k,hv,hn⟩:=h.good j' hs'
  exact ⟨r,d,k,hv,by rw[hkey j' hs' 1 (by decide)]; exact hn⟩
 ·rw[hsz j' hs']; simpa using h.fit j' hs'
 ·rw[hsz j1 h1]; exact h.apart j1 j2 h1 h2 hlt
 ·have:=h.idn j' hs'
  rw[← key0 j' hs'] at this
  exact this
 ·obtain ⟨j',rfl,hs',he⟩:=h.plc id a hg
  exact ⟨j',rfl,hs',(key0 j' hs').trans he⟩
end Go.Proofs.YtlaplcglpnlieaaGreat
end
section
namespace Go.Proofs.YtlaplcglpnlieaaGreat
open Go Go.AX
noncomputable local instance vj:AF:=Au
local instance tY:Kn:=⟨true⟩
variable {σ:Aa} {i:Cs} {m:HM}
def Rv (mm:Option (Value × Aa)) (σ:Aa) (i:Cs) (r:Int × HM):Prop:=
 ∃ σ',mm=some (.int .i64 r.1,σ')∧Ah σ' i r.2∧BM i σ σ'
theorem Rv.same (h:Ah σ i m) (τ:Aa) {code:Int} {mm:Option (Value × Aa)} (he:mm=some (.int .i64 code,σ++τ)) {r:Int × HM} (hr:r=(code,m)):Rv mm σ i r:=
 ⟨σ++τ,by rw[hr]; exact he,by rw[hr]; exact h.app τ,BM.app i σ τ⟩
theorem Rv.to {mm mm':Option (Value × Aa)} {r:Int × HM} (h:Rv mm σ i r) (f:∀ σ',mm=some (.int .i64 r.1,σ')→mm'=some (.int .i64 r.1,σ')):Rv mm' σ i r:=by
 obtain ⟨σ',e,g⟩:=h
 exact ⟨σ',f σ' e,g⟩
def PB (m:HM) (a:Nat) (v:Int):HM:={ m with wds:=m.wds.set a v }
def Vw (m:HM) (a x v:Int):Int × HM:=
 if (R6 m a x false).2=0 then (if v≠0∧Qw m v=false then (1,m) else (0,PB m (R6 m a x false).1.toNat v)) else ((R6 m a x false).2,m)
def SC (m:HM) (a x v:Int):Int × HM:=
 if (R6 m a x true).2=0 then (0,PB m (R6 m a x true).1.toNat v) else ((R6 m a x true).2,m)
def cU (m:HM) (a:Int) (v:Nat):Int × HM:=if Qw m a then (0,{ m with pnw:=Hm 1 m.pnw (a.toNat/2) v }) else (4,m)
def dT (m:HM) (a v:Int):Int × HM:=
 if 0≤a∧a<(m.wds.length:Int) then (match Rg m a.toNat with
  | none=>(4,m)
  | some j=>if ((2*j+2:Nat):Int)≤a∧a<((2*j+2:Nat):Int)+BV m j+E5 m j then (0,PB m a.toNat v) else (4,m)) else (1,m)
theorem Inv.pins (h:Inv m) (l:List (BitVec 64)):Inv { m with pnw:=l }:=⟨h.good,h.fit,h.apart,h.idn,h.plc,h.brt,h.onc⟩
theorem Inv.Xn (h:Inv m) (l:List (Int × Int)):Inv { m with fw:=l }:=⟨h.good,h.fit,h.apart,h.idn,h.plc,h.brt,h.onc⟩
def Dj (m:HM) (j:Nat) (n:Int):HM:=
 { m with wds:=(m.wds.set (2*j) (m.births+1)).set (2*j+1) n,stw:=Hm 1 m.stw j 1,pl:=QD (m.births+1) ((2*j:Nat):Int) m.pl,births:=m.births+1 }
theorem Ru {n:Int} {j j':Nat} (hl:32*m.bls.length≤64*m.stw.length) (hj:j<32*m.bls.length):Start (Dj m j n) j'↔j'=j∨Start m j':=by
 unfold Start Dj
 simp only
 by_cases hq:j'=j
 ·subst hq
  simp only[true_or,iff_true]
  exact ⟨hj,F4 (.inl rfl) (by decide) (by omega)⟩
 ·rw[Cr (.inl rfl) (by decide) (fun e=>hq e.symm)]
  simp[hq]
theorem Inv.place (h:Inv m) (hw:m.wds.length=64*m.bls.length) (hl:32*m.bls.length≤64*m.stw.length) {j:Nat} {r d k:Int} (hv:valid r d k=true) (hj:j<32*m.bls.length)
  (hfit:2*j+PS (num r d k)≤m.wds.length) (hap:∀ o,Start m o→2*o+sz m o≤2*j∨2*j+PS (num r d k)≤2*o):Inv (Dj m j (num r d k)):=by
 have hst:=fun j'=>Ru (m:=m) (n:=num r d k) (j:=j) (j':=j') hl hj
 have hnj:¬ Start m j:=fun hs=>by
  have h1:=hap j hs
  have h2:=h.size hs
  have h3:2≤PS (num r d k):=by
   rw[O9 hv]
   simp[valid] at hv
   omega
  omega
 have w0:(Dj m j (num r d k)).wds.getD (2*j) 0=m.births+1:=by
  unfold Dj; simp only
  rw[CL,if_neg (by omega),CL,if_pos (by omega)]
 have w1:(Dj m j (num r d k)).wds.getD (2*j+1) 0=num r d k:=by
  unfold Dj; simp only
  rw[CL,if_pos ⟨rfl,by simp; omega⟩]
 have wo:∀ j' c,j'≠j→c<2→(Dj m j (num r d k)).wds.getD (2*j'+c) 0=m.wds.getD (2*j'+c) 0:=by
  intro j' c hne hc
  unfold Dj; simp only
  rw[CL,if_neg (by omega),CL,if_neg (by omega)]
 have s1:sz (Dj m j (num r d k)) j=PS (num r d k):=by unfold sz; rw[w1]
 have so:∀ j',j'≠j→sz (Dj m j (num r d k)) j'=sz m j':=fun j' hne=>by unfold sz; rw[wo j' 1 hne (by decide)]
 have wl:(Dj m j (num r d k)).wds.length=m.wds.length:=by simp[Dj]
 have wo0:∀ j',j'≠j→(Dj m j (num r d k)).wds.getD (2*j') 0=m.wds.getD (2*j') 0:=fun j' hne=>wo j' 0 hne (by decide)
 have hpl:∀ x,getM (Dj m j (num r d k)).pl x=if x=m.births+1 then some ((2*j:Nat):Int) else getM m.pl x:=fun x=>Qv _ _ _ _
 have hne:∀ j',Start m j'→j'≠j:=fun j' hs e=>hnj (e ▸ hs)
 refine ⟨fun j' hs'=>?_,fun j' hs'=>?_,fun j1 j2 h1 h2 hlt=>?_,fun j' hs'=>?_,fun id a hg=>?_, ?_, ?_⟩
 ·rcases (hst j').1 hs' with rfl | hs'
  ·exact ⟨r,d,k,hv,w1⟩
  ·obtain ⟨r',d',k',hv',hn⟩:=h.good j' hs'
   exact ⟨r',d',k',hv',by rw[wo j' 1 (hne j' hs') (by decide)]; exact hn⟩
 ·rw[wl]
  rcases (hst j').1 hs' with rfl | hs'
  ·rw[s1]; exact hfit
  ·rw[so j' (hne j' hs')]; exact h.fit j' hs'
 ·rcases (hst j1).1 h1 with rfl | h1'
  ·rcases (hst j2).1 h2 with rfl | h2'
   ·omega
   ·rw[s1]
    have:=hap j2 h2'
    have:=h.size h2'
    omega
  ·rw[so j1 (hne j1 h1')]
   rcases (hst j2).1 h2 with rfl | h2'
   ·have:=hap j1 h1'
    omega
   ·exact h.apart j1 j2 h1' h2' hlt
 ·rw[hpl]
  rcases (hst j').1 hs' with rfl | hs'
  ·rw[w0]
   have:=h.brt
   refine ⟨by omega,by show _≤m.births+1; omega,if_pos rfl⟩
  ·rw[wo0 j' (hne j' hs')]
   obtain ⟨i1,i2,i3⟩:=h.idn j' hs'
   refine ⟨i1,by show _≤m.births+1; omega, ?_⟩
   rw[if_neg (by omega)]; exact i3
 ·rw[hpl] at hg
  split at hg
  ·rename_i hid
   cases hg
   exact ⟨j,rfl,(hst j).2 (.inl rfl),by rw[w0,hid]⟩
  ·obtain ⟨j',rfl,hs',he⟩:=h.plc id a hg
   exact ⟨j',rfl,(hst j').2 (.inr hs'),by rw[wo0 j' (hne j' hs')]; exact he⟩
 ·have:=h.brt
  show 0≤m.births+1
  omega
 ·exact UR _ _ _ h.onc
theorem mF (k:Nat) {r d c:Int} (hv:valid r d c=true) (σ:Aa):∃ τ,Ic (k+1) r d c σ=some (.int .i64 (num r d c),σ++τ):=by
 rw[Sk,Rz]
 simp only[Ap,LR,Nat.zero_add,List.getElem?_cons_zero,List.getElem?_cons_succ,Option.bind_some,Am]
 simp[valid] at hv
 have e1:Ac (16*d)=16*d:=Ad (by unfold AW; omega)
 have e2:Ac (r+16*d)=r+16*d:=Ad (by unfold AW; omega)
 have e3:Ac (4096*c)=4096*c:=Ad (by unfold AW; omega)
 have e4:Ac (r+16*d+4096*c)=r+16*d+4096*c:=Ad (by unfold AW; omega)
 simp only[e1,e2,e3,e4,num]
 exact ⟨_,rfl⟩
theorem eE {l:List (BitVec 64)} {n:Nat} (h:l.length=(32*n*1+63)/64):32*n≤64*l.length:=by omega
def Br (m:HM) (a r d c:Int):Int × Int × HM:=
 if valid r d c then (if Ik m a (PS (num r d c)) (-1)=0 then (m.births+1,0,Dj m (a.toNat/2) (num r d c)) else (0,Ik m a (PS (num r d c)) (-1),m)) else (0,2,m)
theorem gq (k:Nat) (hk:5000≤k) (h:Ah σ i m) (hI:Inv m) (hb:m.births<1000000) (a r d c:Int) (ha:AW a):∃ σ',Cq (k+12) (DW i) a r d c σ=some (.tuple #[.int .i64 (Br m a r d c).1,.int .i64 (Br m a r d c).2.1],σ')∧Ah σ' i (Br m a r d c).2.2∧BM i σ σ':=by
 have ht:=h.nt
 have hw:=h.wl
 rw[OJ,MX]
 simp only[Ap]
 obtain ⟨μ0,hμ0⟩:∃ μ0,σ++[Bi.cells [Value.int .i64 r,.int .i64 d,.int .i64 c] Al true]=μ0:=⟨_,rfl⟩
 have h0:Ah μ0 i m:=hμ0 ▸ h.app _
 have k0:BM i σ μ0:=hμ0 ▸ BM.app i σ _
 have hbox:μ0[σ.length]?=some (Bi.cells [Value.int .i64 r,.int .i64 d,.int .i64 c] Al true):=by rw[← hμ0]; simp
 have bx:∀ {μ:Aa},μ[σ.length]?=some (Bi.cells [Value.int .i64 r,.int .i64 d,.int .i64 c] Al true)→Ai .i64 μ σ.length 0=some r∧Ai .i64 μ σ.length 1=some d∧Ai .i64 μ σ.length 2=some c:=by
  intro μ hm; simp[Ai,Gy,hm,BA]
 have hnew:σ.length ∉ i.l:=fun hm=>Nat.lt_irrefl _ (h.lt _ hm)
 have bk:∀ {μ μ':Aa},BM i μ μ'→μ[σ.length]?=some (Bi.cells [Value.int .i64 r,.int .i64 d,.int .i64 c] Al true)→μ'[σ.length]?=some (Bi.cells [Value.int .i64 r,.int .i64 d,.int .i64 c] Al true):=fun hk hm=>(hk.same _ (Ae hm) hnew).trans hm
 obtain ⟨τ1,hV⟩:=O4 (k+10) r d c μ0
 rw[hμ0]
 obtain ⟨b0,b1,b2⟩:=bx hbox
 simp only[Ny _ h0,Option.bind_some,As,Bool.not_true,cond_false,Nat.zero_add,Nat.reduceAdd,b0,b1,b2,hV]
 cases hv:valid r d c with
 | false=>
   unfold Br
   rw[hv]
   exact ⟨μ0++τ1,by simp,h0.app _,k0.trans (BM.app i μ0 τ1)⟩
 | true=>
   have hx1:=bk (BM.app i μ0 τ1) hbox
   obtain ⟨c0,c1,c2⟩:=bx hx1
   obtain ⟨τ2,hW⟩:=O5 (k+9) r d c (μ0++τ1)
   have hwo:words r d c=((PS (num r d c):Nat):Int):=by
    rw[O9 hv]; unfold words; rw[hv]; simp only[cond_true]
    simp[valid] at hv
    omega
   have hwl:=gf (num r d c)
   have hw2:2≤PS (num r d c):=by
    rw[O9 hv]
    simp[valid] at hv
    omega
   have h1:Ah (μ0++τ1++τ2) i m:=(h0.app _).app _
   obtain ⟨τ3,hF⟩:=pX k hk h1 a (PS (num r d c)) (-1) hw2 hwl
   simp only[Bool.not_true,cond_false,c0,c1,c2,hW,Option.bind_some,Am,hwo,hF]
   obtain ⟨μ1,hμ1⟩:∃ μ1,μ0++τ1++τ2++τ3=μ1:=⟨_,rfl⟩
   rw[hμ1]
   have hh1:Ah μ1 i m:=hμ1 ▸ h1.app _
   have k1:BM i μ0 μ1:=hμ1 ▸ (((BM.app i μ0 τ1).trans (BM.app i _ τ2)).trans (BM.app i _ τ3))
   have hx2:=bk k1 hbox
   by_cases hc:Ik m a (PS (num r d c)) (-1)=0
   rotate_left
   ·have q:(Ik m a (PS (num r d c)) (-1) != 0)=true:=by simpa using hc
    simp only[q,cond_true]
    unfold Br
    rw[hv,if_pos rfl,if_neg hc]
    exact ⟨μ1,rfl,hh1,k0.trans k1⟩
   obtain ⟨j,rfl,hj,hfit,hap⟩:=hI.fits hw hwl hw2 hc
   have hbrt:=hI.brt
   obtain ⟨μ2,e2,hh2,k2⟩:=hh1.tO (m.births+1)
   have hx3:=bk k2 hx2
   obtain ⟨d0,d1,d2⟩:=bx hx3
   obtain ⟨τ4,hN⟩:=mF (k+10) hv μ2
   have e0:Ac (m.births+1)=m.births+1:=Ad (by unfold AW; omega)
   have q1:(0≤((2*j:Nat):Int)∧((2*j:Nat):Int)<((m.wds.length:Nat):Int))=True:=eq_true (by omega)
   have ew:Ac (((2*j:Nat):Int)+1)=((2*j+1:Nat):Int):=Ad (by unfold AW; omega)
   have q2:(0≤((2*j+1:Nat):Int)∧((2*j+1:Nat):Int)<((m.wds.length:Nat):Int))=True:=eq_true (by omega)
   obtain ⟨e4,hh4⟩:=(hh2.app τ4).G0 (a:=2*j) (by show 2*j<m.wds.length; omega) (m.births+1) (by unfold AW; omega)
   obtain ⟨μ4,hμ4⟩:∃ μ4,(μ2++τ4).set i.wd (.cells (Df (m.wds.set (2*j) (m.births+1))) D2 true)=μ4:=⟨_,rfl⟩
   simp only at e4 hh4
   rw[hμ4] at e4 hh4
   obtain ⟨e5,hh5⟩:=hh4.G0 (a:=2*j+1) (by simp; omega) (num r d c) (MM hv).2.2.2
   simp only at e5 hh5
   obtain ⟨μ5,hμ5⟩:∃ μ5,μ4.set i.wd (.cells (Df ((m.wds.set (2*j) (m.births+1)).set (2*j+1) (num r d c))) D2 true)=μ5:=⟨_,rfl⟩
   rw[hμ5] at e5 hh5
   obtain ⟨τ6,hS⟩:=jt (k+2) hh5.st (j:=j) (v:=1) hj (by decide)
   have t1:((2*j:Nat):Int).tdiv 2=(j:Int):=by
    rw[show ((2*j:Nat):Int).tdiv 2=(((2*j)/2:Nat):Int) from rfl]; omega
   have e6:Ac (j:Int)=(j:Int):=Ad (by unfold AW; omega)
   have hh6:=(hh5.app τ6).qV j 1
   simp only at hS hh6
   obtain ⟨μ6,hμ6⟩:∃ μ6,(μ5++τ6).set i.sw (.cells (rowOf (Hm 1 m.stw j 1)) BN true)=μ6:=⟨_,rfl⟩
   rw[hμ6] at hS hh6
   have hh7:=hh6.qU (QD (m.births+1) ((2*j:Nat):Int) m.pl)
   simp only at hh7
   have k4:BM i μ2 μ4:=hμ4 ▸ (BM.app i μ2 τ4).trans (BM.set _ _ (by simp[Cs.l]))
   have k5:BM i μ4 μ5:=hμ5 ▸ BM.set _ _ (by simp[Cs.l])
   have k6:BM i μ5 μ6:=hμ6 ▸ (BM.app i μ5 τ6).trans (BM.set _ _ (by simp[Cs.l]))
   unfold Br
   rw[hv,if_pos rfl,if_pos hc,show ((2*j:Nat):Int).toNat/2=j from by omega]
   refine ⟨μ6.set i.pl (.map (TK (QD (m.births+1) ((2*j:Nat):Int) m.pl))), ?_,hh7,((((k0.trans k1).trans k2).trans k4).trans k5).trans (k6.trans (BM.set _ _ (by simp[Cs.l])))⟩
   simp only[hc,bne_self_eq_false,cond_false,hh1.sZ,Option.bind_some,e0,e2,hh2.N0,hh2.sZ,d0,d1,d2,hN]
   simp only[Am,Option.bind_some,ew,Nat.zero_add,Nat.mul_one,Int.toNat_natCast]
   rw[if_pos (by omega)]
   simp only[e4,Option.bind_some]
   rw[if_pos (by omega)]
   have hS':CB (k+11) (some ⟨i.st,0,none⟩) (j:Int) 1 μ5=some (.int .i64 0,μ6):=hS
   simp only[e5,Option.bind_some,hh5.lu,t1,e6,show ((2:Int)=0)=False from by simp,if_false,hS',Am,hh6.tC,hh6.sZ,TJ,hh6.pl,dH,hh7.sZ]
def QQ (l:List Int) (a:Nat) (v:List Int):List Int:=l.take a++v++l.drop (a+v.length)
theorem OX {l:List Int} {a:Nat} {v:List Int} (h:a+v.length≤l.length):(QQ l a v).length=l.length:=by
 simp[QQ]; omega
theorem JB {l:List Int} {a:Nat} {v:List Int} (h:a+v.length≤l.length) (x:Nat):(QQ l a v).getD x 0=if a≤x∧x<a+v.length then v.getD (x-a) 0 else l.getD x 0:=by
 simp only[QQ,List.getD_eq_getElem?_getD]
 have ha:(l.take a).length=a:=by simp; omega
 rcases Nat.lt_or_ge x a with h1 | h1
 ·rw[List.append_assoc,List.getElem?_append_left (by rw[ha]; exact h1),List.getElem?_take,if_pos h1,if_neg (by omega)]
 ·rcases Nat.lt_or_ge x (a+v.length) with h2 | h2
  ·rw[List.append_assoc,List.getElem?_append_right (by rw[ha]; exact h1),ha,List.getElem?_append_left (by omega),if_pos ⟨h1,h2⟩]
  ·rw[List.getElem?_append_right (by simp; omega),if_neg (by omega),List.getElem?_drop]
   congr 2
   simp; omega
theorem mz (l:List Int) (a:Nat) (v:List Int):Df (QQ l a v)=AE (Df l) a (Df v):=by
 simp[QQ,Df,AE,List.map_take,List.map_drop]
theorem iD (n:Nat):rep n [Value.int .i64 0]=Df (List.replicate n 0):=by
 simp only[rep,Df,List.map_replicate]
 induction n with
 | zero=>rfl
 | succ n ih=>rw[List.replicate_succ,List.flatten_cons,ih,List.replicate_succ]; rfl
theorem iR (h:Ah σ i m) {a b:Nat} (hab:a<b) (hb:b≤m.wds.length):
  KL B9 1 (some ⟨i.wd,0,none⟩,m.wds.length,m.wds.length) (some (.int .i64 (a:Int))) (some (.int .i64 (b:Int))) none σ=some (some ⟨i.wd,a,none⟩,b-a,m.wds.length-a):=by
 have e1:elemAt σ i.wd=some 3:=by simp only[elemAt,h.wd]
 have c1:(0≤(b:Int)∧(b:Int)≤((m.wds.length:Nat):Int)):=by omega
 have c2:(0≤(a:Int)∧(a:Int)≤((b:Nat):Int)):=by omega
 simp only[KL,Option.isSome_none,Bool.not_false,Bool.true_or,cond_true,bound,Int.toNat_natCast]
 rw[if_pos c1,if_pos c2,if_neg (by omega)]
 simp[e1]
theorem qG (k:Nat) (h:Ah σ i m) {a n:Nat} (hn:0<n) (ha:a+n≤m.wds.length):
  FV (k+1) (DW i) (a:Int) (n:Int) σ=some (.tuple #[],σ.set i.wd (.cells (Df (QQ m.wds a (List.replicate n 0))) D2 true)) ∧
  Ah (σ.set i.wd (.cells (Df (QQ m.wds a (List.replicate n 0))) D2 true)) i { m with wds:=QQ m.wds a (List.replicate n 0) }:=by
 have ht:=h.nt
 have hw:=h.wl
 refine ⟨?_,h.qW _ (OX (by simpa using ha)) fun x=>?_⟩
 ·rw[P2,Oc]
  have e1:Ac ((a:Int)+(n:Int))=((a+n:Nat):Int):=Ad (by unfold AW; omega)
  simp only[Option.bind_some,Nat.zero_add,h.N0,e1,iR h (show a<a+n by omega) ha]
  rw[if_neg (by omega)]
  rw[show a+n-a=n from by omega]
  simp only[Option.bind_some,Ki,h.wd,iD,Jr,List.length_replicate,ha,if_true,mz]
 ·rw[JB (by simpa using ha)]
  split
  ·rw[List.getD_eq_getElem?_getD,List.getElem?_replicate]
   split <;> (unfold AW; decide)
  ·exact h.wi x
def LJ (m:HM) (j:Nat):HM:=
 { m with wds:=QQ m.wds (2*j) (List.replicate (sz m j) 0),stw:=Hm 1 m.stw j 0,pnw:=Hm 1 m.pnw j 0,pl:=Yp (m.wds.getD (2*j) 0) m.pl }
theorem QJ {j j':Nat} (hl:32*m.bls.length≤64*m.stw.length) (hj:j<32*m.bls.length):Start (LJ m j) j'↔j'≠j∧Start m j':=by
 unfold Start LJ
 simp only
 by_cases hq:j'=j
 ·subst hq
  rw[F4 (.inl rfl) (by decide) (by omega)]
  simp
 ·rw[Cr (.inl rfl) (by decide) (fun e=>hq e.symm)]
  simp[hq]
theorem Inv.kill (h:Inv m) (hl:32*m.bls.length≤64*m.stw.length) {j:Nat} (hs:Start m j):Inv (LJ m j):=by
 have hj:=hs.1
 have hf:=h.fit j hs
 have hst:=fun j'=>QJ (m:=m) (j:=j) (j':=j') hl hj
 have hz:=h.size hs
 have wl:(LJ m j).wds.length=m.wds.length:=OX (by simpa using hf)
 have wo:∀ j',j'≠j→Start m j' → ∀ c,c<2→(LJ m j).wds.getD (2*j'+c) 0=m.wds.getD (2*j'+c) 0:=by
  intro j' hne hs' c hc
  have hz':=h.size hs'
  show (QQ _ _ _).getD _ 0=_
  rw[JB (by simpa using hf),if_neg]
  rintro ⟨p1,p2⟩
  simp only[List.length_replicate] at p2
  rcases Nat.lt_trichotomy j j' with hlt | rfl | hlt
  ·have:=h.apart j j' hs hs' hlt; omega
  ·exact hne rfl
  ·have:=h.apart j' j hs' hs hlt; omega
 have wo0:∀ j',j'≠j→Start m j'→(LJ m j).wds.getD (2*j') 0=m.wds.getD (2*j') 0:=fun j' hne hs'=>wo j' hne hs' 0 (by decide)
 have so:∀ j',j'≠j→Start m j'→sz (LJ m j) j'=sz m j':=fun j' hne hs'=>by unfold sz; rw[wo j' hne hs' 1 (by decide)]
 have hpl:∀ x,getM (LJ m j).pl x=if x=m.wds.getD (2*j) 0 then none else getM m.pl x:=fun x=>UD _ _ _ h.onc
 refine ⟨fun j' hs'=>?_,fun j' hs'=>?_,fun j1 j2 h1 h2 hlt=>?_,fun j' hs'=>?_,fun id a hg=>?_,h.brt,ij _ _ h.onc⟩
 ·obtain ⟨hne,hs'⟩:=(hst j').1 hs'
  obtain ⟨r,d,k,hv,hn⟩:=h.good j' hs'
  exact ⟨r,d,k,hv,by rw[wo j' hne hs' 1 (by decide)]; exact hn⟩
 ·obtain ⟨hne,hs'⟩:=(hst j').1 hs'
  rw[wl,so j' hne hs']; exact h.fit j' hs'
 ·obtain ⟨hne1,h1'⟩:=(hst j1).1 h1
  obtain ⟨hne2,h2'⟩:=(hst j2).1 h2
  rw[so j1 hne1 h1']; exact h.apart j1 j2 h1' h2' hlt
 ·obtain ⟨hne,hs'⟩:=(hst j').1 hs'
  obtain ⟨i1,i2,i3⟩:=h.idn j' hs'
  rw[wo0 j' hne hs',hpl]
  refine ⟨i1,i2, ?_⟩
  rw[if_neg]
  ·exact i3
  ·intro e
   rw[e,(h.idn j hs).2.2] at i3
   simp at i3
   omega
 ·rw[hpl] at hg
  split at hg
  ·cases hg
  ·rename_i hne
   obtain ⟨j',rfl,hs',he⟩:=h.plc id a hg
   have hjj:j'≠j:=fun e=>hne (by rw[← he,e])
   exact ⟨j',rfl,(hst j').2 ⟨hjj,hs'⟩,by rw[wo0 j' hjj hs']; exact he⟩
def OV (m:HM) (a:Int):Int × HM:=if Qw m a then (0,LJ m (a.toNat/2)) else (4,m)
theorem lM (k:Nat) (h:Ah σ i m) (hI:Inv m) (a:Int) (ha:AW a):Rv (DL (k+12) (DW i) a σ) σ i (OV m a):=by
 have ht:=h.nt
 have hw:=h.wl
 rw[Px,NX]
 simp only[mG _ h a ha,Option.bind_some,Am]
 cases hh:Qw m a with
 | false=>exact Rv.same h [] (code:=4) (by simp) (by simp[OV,hh])
 | true=>
   obtain ⟨j,rfl,hs⟩:=Ss hh
   have hr:OV m ((2*j:Nat):Int)=(0,LJ m j):=by unfold OV; rw[hh,if_pos rfl,show ((2*j:Nat):Int).toNat/2=j from by omega]
   rw[hr]
   have hj:=hs.1
   have hf:=hI.fit j hs
   have hz:=hI.size hs
   have t1:((2*j:Nat):Int).tdiv 2=(j:Int):=by
    rw[show ((2*j:Nat):Int).tdiv 2=(((2*j)/2:Nat):Int) from rfl]; omega
   have e1:Ac (j:Int)=(j:Int):=Ad (by unfold AW; omega)
   have h1:=h.qU (Yp (m.wds.getD (2*j) 0) m.pl)
   obtain ⟨μ1,hμ1⟩:∃ μ1,σ.set i.pl (.map (TK (Yp (m.wds.getD (2*j) 0) m.pl)))=μ1:=⟨_,rfl⟩
   rw[hμ1] at h1
   obtain ⟨τ2,hS2⟩:=jt (k+2) h1.st (j:=j) (v:=0) hj (by decide)
   have h2:=(h1.app τ2).qV j 0
   simp only at hS2 h2
   obtain ⟨μ2,hμ2⟩:∃ μ2,(μ1++τ2).set i.sw (.cells (rowOf (Hm 1 m.stw j 0)) BN true)=μ2:=⟨_,rfl⟩
   rw[hμ2] at hS2 h2
   obtain ⟨τ3,hS3⟩:=jt (k+2) h2.pn (j:=j) (v:=0) hj (by decide)
   have h3:=(h2.app τ3).sO j 0
   simp only at hS3 h3
   obtain ⟨μ3,hμ3⟩:∃ μ3,(μ2++τ3).set i.pw (.cells (rowOf (Hm 1 m.pnw j 0)) BN true)=μ3:=⟨_,rfl⟩
   rw[hμ3] at hS3 h3
   obtain ⟨τ4,hZ⟩:=ZM (k+8) h3 hj
   have hZ':BZ (k+11) (DW i) ((2*j:Nat):Int) μ3=some (.int .i64 (sz m j:Int),μ3++τ4):=hZ
   obtain ⟨hWp,h5⟩:=qG (k+10) (h3.app τ4) (a:=2*j) (n:=sz m j) (by omega) hf
   simp only at hWp h5
   have k1:BM i σ μ1:=hμ1 ▸ BM.set _ _ (by simp[Cs.l])
   have k2:BM i μ1 μ2:=hμ2 ▸ (BM.app i μ1 τ2).trans (BM.set _ _ (by simp[Cs.l]))
   have k3:BM i μ2 μ3:=hμ3 ▸ (BM.app i μ2 τ3).trans (BM.set _ _ (by simp[Cs.l]))
   refine ⟨_, ?_,h5,((k1.trans k2).trans k3).trans ((BM.app i μ3 τ4).trans (BM.set _ _ (by simp[Cs.l])))⟩
   have q1:(0≤((2*j:Nat):Int)∧((2*j:Nat):Int)<((m.wds.length:Nat):Int)):=by omega
   simp only[if_true,bne_self_eq_false,cond_false,Nat.zero_add,h.tC,h.N0,Option.bind_some]
   rw[if_pos q1]
   have hS2':CB (k+11) (some ⟨i.st,0,none⟩) (j:Int) 0 μ1=some (.int .i64 0,μ2):=hS2
   have hS3':CB (k+11) (some ⟨i.pn,0,none⟩) (j:Int) 0 μ2=some (.int .i64 0,μ3):=hS3
   simp only[Option.bind_some,Nat.zero_add,Nat.mul_one,Int.toNat_natCast,h.sd (show 2*j<m.wds.length by omega),fu,TJ,h.pl,dG,iX,hμ1,h1.lu,show ((2:Int)=0)=False from by simp,if_false,t1,e1,hS2',Am,h2.sE,hS3',hZ',hWp,Ju]
end Go.Proofs.YtlaplcglpnlieaaGreat
end
section
namespace Go.Proofs.YtlaplcglpnlieaaGreat
open Go Go.AX
noncomputable local instance vm:AF:=Au
local instance ub:Kn:=⟨true⟩
variable {σ:Aa} {i:Cs} {m:HM}
def ae (m:HM) (t:Nat) (id:Int) (held:List Int):HM:=
 { m with wds:=QQ m.wds (2*t) held,stw:=Hm 1 m.stw t 1,pl:=QD id ((2*t:Nat):Int) m.pl }
theorem nj {t j':Nat} {id:Int} {held:List Int} (hl:32*m.bls.length≤64*m.stw.length) (hj:t<32*m.bls.length):Start (ae m t id held) j'↔j'=t∨Start m j':=by
 unfold Start ae
 simp only
 by_cases hq:j'=t
 ·subst hq
  simp only[true_or,iff_true]
  exact ⟨hj,F4 (.inl rfl) (by decide) (by omega)⟩
 ·rw[Cr (.inl rfl) (by decide) (fun e=>hq e.symm)]
  simp[hq]
theorem Inv.add (h:Inv m) (hl:32*m.bls.length≤64*m.stw.length) {t:Nat} {id:Int} {held:List Int} {r d k:Int} (hv:valid r d k=true) (hj:t<32*m.bls.length)
  (hlen:held.length=PS (num r d k)) (h0:held.getD 0 0=id) (h1:held.getD 1 0=num r d k) (hid:1≤id∧id≤m.births) (hnone:getM m.pl id=none)
  (hfit:2*t+PS (num r d k)≤m.wds.length) (hap:∀ o,Start m o→2*o+sz m o≤2*t∨2*t+PS (num r d k)≤2*o):Inv (ae m t id held):=by
 have hst:=fun j'=>nj (m:=m) (t:=t) (j':=j') (id:=id) (held:=held) hl hj
 have h3:2≤PS (num r d k):=by
  rw[O9 hv]
  simp[valid] at hv
  omega
 have hnj:¬ Start m t:=fun hs=>by
  have h1:=hap t hs
  have h2:=h.size hs
  omega
 have hle:2*t+held.length≤m.wds.length:=by omega
 have w0:(ae m t id held).wds.getD (2*t) 0=id:=by
  show (QQ _ _ _).getD _ 0=_
  rw[JB hle,if_pos (by omega),Nat.sub_self,h0]
 have w1:(ae m t id held).wds.getD (2*t+1) 0=num r d k:=by
  show (QQ _ _ _).getD _ 0=_
  rw[JB hle,if_pos (by omega),show 2*t+1-2*t=1 from by omega,h1]
 have wo:∀ j',Start m j' → ∀ c,c<2→(ae m t id held).wds.getD (2*j'+c) 0=m.wds.getD (2*j'+c) 0:=by
  intro j' hs' c hc
  have hz:=h.size hs'
  have:=hap j' hs'
  show (QQ _ _ _).getD _ 0=_
  rw[JB hle,if_neg (by omega)]
 have s1:sz (ae m t id held) t=PS (num r d k):=by unfold sz; rw[w1]
 have so:∀ j',Start m j'→sz (ae m t id held) j'=sz m j':=fun j' hs'=>by unfold sz; rw[wo j' hs' 1 (by decide)]
 have wl:(ae m t id held).wds.length=m.wds.length:=OX hle
 have wo0:∀ j',Start m j'→(ae m t id held).wds.getD (2*j') 0=m.wds.getD (2*j') 0:=fun j' hs'=>wo j' hs' 0 (by decide)
 have hpl:∀ x,getM (ae m t id held).pl x=if x=id then some ((2*t:Nat):Int) else getM m.pl x:=fun x=>Qv _ _ _ _
 refine ⟨fun j' hs'=>?_,fun j' hs'=>?_,fun j1 j2 h1 h2 hlt=>?_,fun j' hs'=>?_,fun id' a hg=>?_,h.brt,UR _ _ _ h.onc⟩
 ·rcases (hst j').1 hs' with rfl | hs'
  ·exact ⟨r,d,k,hv,w1⟩
  ·obtain ⟨r',d',k',hv',hn⟩:=h.good j' hs'
   exact ⟨r',d',k',hv',by rw[wo j' hs' 1 (by decide)]; exact hn⟩
 ·rw[wl]
  rcases (hst j').1 hs' with rfl | hs'
  ·rw[s1]; exact hfit
  ·rw[so j' hs']; exact h.fit j' hs'
 ·rcases (hst j1).1 h1 with rfl | h1'
  ·rcases (hst j2).1 h2 with rfl | h2'
   ·omega
   ·rw[s1]
    have:=hap j2 h2'
    have:=h.size h2'
    omega
  ·rw[so j1 h1']
   rcases (hst j2).1 h2 with rfl | h2'
   ·have:=hap j1 h1'
    omega
   ·exact h.apart j1 j2 h1' h2' hlt
 ·rw[hpl]
  rcases (hst j').1 hs' with rfl | hs'
  ·rw[w0]
   exact ⟨hid.1,hid.2,if_pos rfl⟩
  ·rw[wo0 j' hs']
   obtain ⟨i1,i2,i3⟩:=h.idn j' hs'
   refine ⟨i1,i2, ?_⟩
   rw[if_neg (fun e=>by rw[e,hnone] at i3; cases i3)]; exact i3
 ·rw[hpl] at hg
  split at hg
  ·rename_i hid'
   cases hg
   exact ⟨t,rfl,(hst t).2 (.inl rfl),by rw[w0,hid']⟩
  ·obtain ⟨j',rfl,hs',he⟩:=h.plc id' a hg
   exact ⟨j',rfl,(hst j').2 (.inr hs'),by rw[wo0 j' hs']; exact he⟩
theorem Inv.places (h:Inv m) (l:List (Int × Int)) (ho:TO l) (hg:∀ x,getM l x=getM m.pl x):Inv { m with pl:=l }:=
 ⟨h.good,h.fit,h.apart,fun j hs=>by rw[hg]; exact h.idn j hs,fun id a e=>h.plc id a (by rw[← hg]; exact e),h.brt,ho⟩
def Q4 (m:HM) (j t:Nat):HM:=
 { m with
   wds:=QQ (QQ m.wds (2*j) (List.replicate (sz m j) 0)) (2*t) ((m.wds.drop (2*j)).take (sz m j))
   stw:=Hm 1 (Hm 1 m.stw j 0) t 1
   pnw:=Hm 1 (Hm 1 m.pnw j 0) t (Ge 1 m.pnw j)
   pl:=QD (m.wds.getD (2*j) 0) ((2*t:Nat):Int) m.pl
   fw:=QD ((2*j:Nat):Int) ((2*t:Nat):Int) m.fw }
theorem Inv.move (h:Inv m) (hl:32*m.bls.length≤64*m.stw.length) {j t:Nat} (hs:Start m j) (ht:t<32*m.bls.length) (hfit:2*t+sz m j≤m.wds.length)
  (hap:∀ o,Start m o→o≠j→2*o+sz m o≤2*t∨2*t+sz m j≤2*o):Inv (Q4 m j t):=by
 have hj:=hs.1
 have hf:=h.fit j hs
 have hz:=h.size hs
 have hst:=fun j'=>QJ (m:=m) (j:=j) (j':=j') hl hj
 obtain ⟨r,d,k,hv,hn⟩:=h.good j hs
 obtain ⟨i1,i2,i3⟩:=h.idn j hs
 have hsz:sz m j=PS (num r d k):=by unfold sz; rw[hn]
 have hk:=h.kill hl hs
 have held:∀ c,c<sz m j→((m.wds.drop (2*j)).take (sz m j)).getD c 0=m.wds.getD (2*j+c) 0:=by
  intro c hc
  simp only[List.getD_eq_getElem?_getD,List.getElem?_take,hc,if_true,List.getElem?_drop]
 have wl:(LJ m j).wds.length=m.wds.length:=OX (by simpa using hf)
 have so:∀ o,Start m o→o≠j→sz (LJ m j) o=sz m o:=by
  intro o ho hne
  have hz':=h.size ho
  unfold sz
  congr 1
  show (QQ _ _ _).getD _ 0=_
  rw[JB (by simpa using hf),if_neg]
  rintro ⟨p1,p2⟩
  simp only[List.length_replicate] at p2
  rcases Nat.lt_trichotomy j o with hlt | rfl | hlt
  ·have:=h.apart j o hs ho hlt; omega
  ·exact hne rfl
  ·have:=h.apart o j ho hs hlt; omega
 have ha:=hk.add (t:=t) (id:=m.wds.getD (2*j) 0) (held:=(m.wds.drop (2*j)).take (sz m j)) (r:=r) (d:=d) (k:=k)
  (by show 32*m.bls.length≤64*(Hm _ _ _ _).length; rw[MO]; exact hl) hv ht (by rw[← hsz]; simp; omega) (held 0 (by omega)) (by rw[held 1 (by omega),hn]) ⟨i1,i2⟩
  (by show getM (Yp _ _) _=none; rw[UD _ _ _ h.onc,if_pos rfl]) (by rw[← hsz,wl]; exact hfit)
  (fun o ho=>by
   obtain ⟨hne,ho'⟩:=(hst o).1 ho
   rw[← hsz,so o ho' hne]; exact hap o ho' hne)
 have hp:=ha.places (QD (m.wds.getD (2*j) 0) ((2*t:Nat):Int) m.pl) (UR _ _ _ h.onc) (fun x=>by
  show getM (QD _ _ _) x=getM (QD _ _ (Yp _ _)) x
  rw[Qv,Qv,UD _ _ _ h.onc]
  split <;> rfl)
 exact (hp.pins (Hm 1 (Hm 1 m.pnw j 0) t (Ge 1 m.pnw j))).Xn (QD ((2*j:Nat):Int) ((2*t:Nat):Int) m.fw)
def dK (m:HM) (a b:Int):Int × HM:=
 if Qw m a then (if Ik m b (sz m (a.toNat/2)) a=0 then (0,Q4 m (a.toNat/2) (b.toNat/2)) else (Ik m b (sz m (a.toNat/2)) a,m)) else (4,m)
theorem Inv.blocks (h:Inv m) (l:List (Int × Int)) (hl:l.length=m.bls.length):Inv { m with bls:=l }:=by
 have hs:∀ j,Start { m with bls:=l } j↔Start m j:=fun j=>by unfold Start; simp only[hl]
 exact ⟨fun j hj=>h.good j ((hs j).1 hj),fun j hj=>h.fit j ((hs j).1 hj),fun j j' h1 h2=>h.apart j j' ((hs j).1 h1) ((hs j').1 h2),fun j hj=>h.idn j ((hs j).1 hj),fun id a e=>by
  obtain ⟨j,e1,e2,e3⟩:=h.plc id a e
  exact ⟨j,e1,(hs j).2 e2,e3⟩,h.brt,h.onc⟩
theorem Sg:∀ (l:List (Int × Int)) (b:Nat) (x y:Int),b<l.length→CE (l.set b (x,y))=AE (CE l) (b*2) [.int .i64 x,.int .i64 y]
 | [],_,_,_,h=>by simp at h
 | e::l,0,x,y,h=>by simp[CE,AE]
 | e::l,b+1,x,y,h=>by
   have ih:=Sg l b x y (by simpa using h)
   have e1:(b+1)*2=b*2+1+1:=by omega
   simp only[List.set_cons_succ,CE,ih,e1,AE,List.take_succ_cons,List.drop_succ_cons,List.cons_append,List.length_cons,List.length_nil]
theorem Ah.rS (h:Ah σ i m) {b:Nat} (hb:b<m.bls.length) (x y:Int):Ki σ i.bl (b*2) [.int .i64 x,.int .i64 y]=some (σ.set i.bl (.cells (CE (m.bls.set b (x,y))) DP true)) ∧
  Ah (σ.set i.bl (.cells (CE (m.bls.set b (x,y))) DP true)) i { m with bls:=m.bls.set b (x,y) }:=by
 refine ⟨?_,h.ez _ (by simp)⟩
 have:b*2+2≤(CE m.bls).length:=by rw[Gh]; omega
 simp only[Ki,h.bl,List.length_cons,List.length_nil,Nat.zero_add,Nat.reduceAdd,this,if_true,Sg _ _ _ _ hb]
theorem dc (l:List (Int × Int)) (b:Nat) (y:Int) (hb:b<l.length):(CE l).set (b*2+1) (.int .i64 y)=CE (l.set b ((l.getD b (0,0)).1,y)):=by
 rw[Sg _ _ _ _ hb]
 have h1:=(Se l b hb).1
 rw[Nat.mul_comm] at h1
 have hlen:=Gh l
 apply List.ext_getElem?
 intro n
 rw[List.getElem?_set]
 unfold AE
 have ht:((CE l).take (b*2)).length=b*2:=by simp; omega
 rcases Nat.lt_or_ge n (b*2) with hn | hn
 ·rw[if_neg (by omega),List.append_assoc,List.getElem?_append_left (by rw[ht]; exact hn),List.getElem?_take,if_pos hn]
 ·rw[List.append_assoc,List.getElem?_append_right (by rw[ht]; exact hn),ht]
  rcases Nat.eq_or_lt_of_le hn with rfl | hn1
  ·rw[if_neg (by omega),Nat.sub_self,h1]; rfl
  ·rcases Nat.eq_or_lt_of_le hn1 with rfl | hn2
   ·rw[if_pos rfl,if_pos (by omega)]
    rw[show b*2+1-b*2=1 from by omega]; rfl
   ·rw[if_neg (by omega)]
    obtain ⟨q,rfl⟩:∃ q,n=b*2+2+q:=⟨n-(b*2+2),by omega⟩
    rw[show b*2+2+q-b*2=q+1+1 from by omega]
    simp[List.getElem?_drop]
theorem Ah.tu (h:Ah σ i m) {b:Nat} (hb:b<m.bls.length) (y:Int):AX.G0 σ i.bl (b*2+1) (.int .i64 y)=some (σ.set i.bl (.cells (CE (m.bls.set b ((m.bls.getD b (0,0)).1,y))) DP true)) ∧
  Ah (σ.set i.bl (.cells (CE (m.bls.set b ((m.bls.getD b (0,0)).1,y))) DP true)) i { m with bls:=m.bls.set b ((m.bls.getD b (0,0)).1,y) }:=by
 refine ⟨?_,h.ez _ (by simp)⟩
 have:b*2+1<(CE m.bls).length:=by rw[Gh]; omega
 simp only[AX.G0,h.bl,this,if_true,dc _ _ _ hb]
def XC (l:List (Int × Int)) (b:Nat):Nat→List (Int × Int)
 | 0=>l
 | n+1=>XC (l.set (b+n) (0,0)) b n
def VH (l:List (Int × Int)) (b:Nat) (y:Int):Nat→List (Int × Int)
 | 0=>l
 | n+1=>VH (l.set (b+n) ((l.getD (b+n) (0,0)).1,y)) b y n
theorem OZ (b:Nat):∀ (n:Nat) (l:List (Int × Int)),(XC l b n).length=l.length
 | 0,l=>rfl
 | n+1,l=>by rw[XC,OZ b n]; simp
theorem Pc (b:Nat) (y:Int):∀ (n:Nat) (l:List (Int × Int)),(VH l b y n).length=l.length
 | 0,l=>rfl
 | n+1,l=>by rw[VH,Pc b y n]; simp
theorem VJ (k:Nat) {b:Nat}:∀ (n f:Nat) (σ:Aa) (m:HM),Ah σ i m→b+n≤m.bls.length→n<f → ∃ σ',Ey k f (DW i) (b:Int) (n:Int) σ=some (.exit 0,[],σ')∧Ah σ' i { m with bls:=XC m.bls b n }∧BM i σ σ'
 | 0,0,σ,m,h,hb,hf=>by omega
 | 0,f+1,σ,m,h,hb,hf=>by
   rw[Ld,Ji]
   exact ⟨σ,rfl,h,BM.refl _ _⟩
 | n+1,0,σ,m,h,hb,hf=>by omega
 | n+1,f+1,σ,m,h,hb,hf=>by
   have ht:=h.nt
   obtain ⟨e1,h1⟩:=h.rS (b:=b+n) (by omega) 0 0
   obtain ⟨σ',e2,h2,k2⟩:=VJ k n f _ _ h1 (by show b+n≤(m.bls.set _ _).length; rw[List.length_set]; omega) (by omega)
   refine ⟨σ', ?_,h2,(BM.set _ _ (by simp[Cs.l])).trans k2⟩
   rw[Ld,Ji]
   have q:decide (((n+1:Nat):Int)>0)=true:=decide_eq_true (by omega)
   have w1:Ac ((b:Int)+((n+1:Nat):Int))=((b+n+1:Nat):Int):=by rw[Ad (by unfold AW; omega)]; omega
   have w2:Ac (((b+n+1:Nat):Int)-1)=((b+n:Nat):Int):=by rw[Ad (by unfold AW; omega)]; omega
   have w3:Ac (((n+1:Nat):Int)-1)=(n:Int):=by rw[Ad (by unfold AW; omega)]; omega
   simp only[q,cond_true,Option.bind_some,Nat.add_zero,h.Sw,w1,w2,w3]
   rw[if_pos (by omega)]
   simp only[Option.bind_some,Nat.zero_add,Int.toNat_natCast,e1]
   exact e2
theorem YK (k:Nat) {b:Nat} (y:Int):∀ (n f:Nat) (σ:Aa) (m:HM),Ah σ i m→b+n≤m.bls.length→n<f → ∃ σ',EY k f (DW i) (b:Int) y (n:Int) σ=some (.exit 0,[],σ')∧Ah σ' i { m with bls:=VH m.bls b y n }∧BM i σ σ'
 | 0,0,σ,m,h,hb,hf=>by omega
 | 0,f+1,σ,m,h,hb,hf=>by
   rw[M9,Km]
   exact ⟨σ,rfl,h,BM.refl _ _⟩
 | n+1,0,σ,m,h,hb,hf=>by omega
 | n+1,f+1,σ,m,h,hb,hf=>by
   have ht:=h.nt
   obtain ⟨e1,h1⟩:=h.tu (b:=b+n) (by omega) y
   obtain ⟨σ',e2,h2,k2⟩:=YK k y n f _ _ h1 (by show b+n≤(m.bls.set _ _).length; rw[List.length_set]; omega) (by omega)
   refine ⟨σ', ?_,h2,(BM.set _ _ (by simp[Cs.l])).trans k2⟩
   rw[M9,Km]
   have q:decide (((n+1:Nat):Int)>0)=true:=decide_eq_true (by omega)
   have w1:Ac ((b:Int)+((n+1:Nat):Int))=((b+n+1:Nat):Int):=by rw[Ad (by unfold AW; omega)]; omega
   have w2:Ac (((b+n+1:Nat):Int)-1)=((b+n:Nat):Int):=by rw[Ad (by unfold AW; omega)]; omega
   have w3:Ac (((n+1:Nat):Int)-1)=(n:Int):=by rw[Ad (by unfold AW; omega)]; omega
   simp only[q,cond_true,Option.bind_some,Nat.add_zero,h.Sw,w1,w2,w3]
   rw[if_pos (by omega)]
   simp only[Option.bind_some,Nat.zero_add,Int.toNat_natCast,e1]
   exact e2
theorem ZO (k:Nat) (h:Ah σ i m) (b:Int):CH (k+2) (DW i) b σ=some (.bool (decide (1≤b∧b<(m.bls.length:Int))),σ):=by
 rw[OM,Na]
 simp only[Ny _ h,Option.bind_some,As,cond_true]
 by_cases h0:1≤b
 ·simp only[show decide (b≥1)=true from by simpa using h0,cond_true,Nat.zero_add,Option.bind_some,h.Sw]
  simp[h0]
 ·simp only[show decide (b≥1)=false from by simpa using h0,cond_false,Option.bind_some]
  simp[h0]
def NP (m:HM) (b:Int) (ok:Bool):Int:=
 if ¬ (1≤b∧b<(m.bls.length:Int))∨ok=false then 1
 else if (m.bls.getD b.toNat (0,0)).1≠1∧(m.bls.getD b.toNat (0,0)).1≠2 then 5 else 0
theorem lk (k:Nat) (h:Ah σ i m) (b:Int) (ok:Bool):FU (k+3) (DW i) b ok σ=some (.int .i64 (NP m b ok),σ):=by
 rw[V8,RZ]
 simp only[Ny _ h,ZO _ h,Option.bind_some,As,Bool.not_true,cond_false]
 unfold NP
 by_cases h0:1≤b∧b<(m.bls.length:Int)
 rotate_left
 ·simp[h0]
 obtain ⟨n,rfl⟩:∃ n:Nat,b=(n:Int):=⟨b.toNat,by omega⟩
 have hn:n<m.bls.length:=by omega
 have q0:decide (1≤(n:Int)∧(n:Int)<(m.bls.length:Int))=true:=decide_eq_true h0
 simp only[q0,Bool.not_true,cond_false,Option.bind_some]
 cases ok with
 | false=>simp
 | true=>
   have q1:(¬ (1≤(n:Int)∧(n:Int)<(m.bls.length:Int))∨true=false)=False:=eq_false (by simp; omega)
   simp only[Bool.not_true,cond_false,Nat.zero_add,Nat.add_zero,h.Sw,Option.bind_some,q1,if_false]
   rw[if_pos (show 0≤(n:Int)∧(n:Int)<((m.bls.length:Nat):Int) by omega)]
   simp only[Option.bind_some,Int.toNat_natCast,Nat.zero_add,(h.WS hn).1]
   by_cases g1:(m.bls.getD n (0,0)).1=1
   ·simp only[g1,bne_self_eq_false,cond_false,Option.bind_some,ne_eq,not_true_eq_false,false_and,if_false]
   ·have p1:((m.bls.getD n (0,0)).1 != 1)=true:=bne_iff_ne.2 g1
    simp only[p1,cond_true]
    rw[if_pos (show 0≤(n:Int)∧(n:Int)<((m.bls.length:Nat):Int) by omega)]
    simp only[Option.bind_some,(h.WS hn).1]
    by_cases g2:(m.bls.getD n (0,0)).1=2
    ·simp only[g2,bne_self_eq_false,cond_false,ne_eq,not_true_eq_false,and_false,if_false]
    ·have p2:((m.bls.getD n (0,0)).1 != 2)=true:=bne_iff_ne.2 g2
     simp only[p2,cond_true,ne_eq,g1,g2,not_false_eq_true,and_self,if_true]
theorem Ti {b:Int} {ok:Bool} (h:NP m b ok=0):∃ n:Nat,b=(n:Int)∧1≤n∧n<m.bls.length∧ok=true:=by
 unfold NP at h
 split at h
 ·cases h
 ·rename_i h0
  refine ⟨b.toNat, ?_, ?_, ?_, ?_⟩
  ·omega
  ·omega
  ·omega
  ·cases ok <;> simp at h0 ⊢
theorem QI {b:Nat} (hb:b<m.bls.length):b+Ee m b≤m.bls.length:=cf m b _ 1 (by omega)
def Ug (y:Int):Bool:=decide (0≤y∧y<8)
theorem iU (k:Nat) (y:Int) (σ:Aa):GH (k+1) y σ=some (.bool (Ug y),σ):=by
 rw[TI,SU]
 unfold Ug
 by_cases h0:0≤y <;> simp[h0]
def Ls (m:HM) (b y:Int):Int × HM:=
 if NP m b (Ug y)=0 then (0,{ m with bls:=VH m.bls b.toNat y (Ee m b.toNat) }) else (NP m b (Ug y),m)
def GD (m:HM) (b:Int):Int × HM:=
 if NP m b true=0 then (if Cf m (32*b.toNat) 32=[] then (0,{ m with bls:=XC m.bls b.toNat (Ee m b.toNat) }) else (8,m)) else (NP m b true,m)
theorem js (k:Nat) (hk:5000≤k) (h:Ah σ i m) (b y:Int):Rv (Gx (k+5) (DW i) b y σ) σ i (Ls m b y):=by
 have ht:=h.nt
 have hsp:=iU (k+3) y σ
 unfold Ls
 generalize Ug y=ok at hsp ⊢
 rw[U1,QY]
 simp only[hsp,Option.bind_some,As,lk (k+1) h b ok,Am]
 by_cases hc:NP m b ok=0
 rotate_left
 ·have q:(NP m b ok != 0)=true:=bne_iff_ne.2 hc
  simp only[q,cond_true]
  exact Rv.same h [] (by rw[List.append_nil]) (if_neg hc)
 rw[if_pos hc]
 obtain ⟨n,rfl,h1,h2,rfl⟩:=Ti hc
 obtain ⟨σ',e,h3,k3⟩:=YK (k+4) (b:=n) y (Ee m n) (k+4) σ m h (QI h2) (by have:=QI h2; omega)
 simp only[hc,bne_self_eq_false,cond_false,ga (k+3) (by omega) h h2,Option.bind_some,Am,e,if_true]
 exact ⟨σ',rfl,h3,k3⟩
theorem fb (k:Nat) (hk:5000≤k) (h:Ah σ i m) (b:Int):Rv (F8 (k+7) (DW i) b σ) σ i (GD m b):=by
 unfold GD
 have ht:=h.nt
 rw[Ta,Ps]
 simp only[lk (k+3) h b true,Option.bind_some,Am]
 by_cases hc:NP m b true=0
 rotate_left
 ·have q:(NP m b true != 0)=true:=bne_iff_ne.2 hc
  simp only[q,cond_true]
  exact Rv.same h [] (by rw[List.append_nil]) (if_neg hc)
 rw[if_pos hc]
 obtain ⟨n,rfl,h1,h2,_⟩:=Ti hc
 rw[Int.toNat_natCast]
 obtain ⟨τ,s,e1,e2⟩:=Wk k hk h h2
 simp only[hc,bne_self_eq_false,cond_false,e1,Option.bind_some,H7]
 by_cases hl:((s.2.1:Nat):Int)>0
 ·simp only[show decide (((s.2.1:Nat):Int)>0)=true from decide_eq_true hl,cond_true]
  refine Rv.same h τ (code:=8) rfl (if_neg fun he=>?_)
  have hlen:=e2.len
  rw[he] at hlen
  simp[EE] at hlen
  omega
 ·have hse:Cf m (32*n) 32=[]:=by
   have hlen:=e2.len
   simp[EE] at hlen
   exact List.length_eq_zero_iff.1 (by omega)
  rw[if_pos hse]
  simp only[show decide (((s.2.1:Nat):Int)>0)=false from decide_eq_false hl,cond_false]
  obtain ⟨σ',e,h3,k3⟩:=VJ (k+6) (b:=n) (Ee m n) (k+6) (σ++τ) m (h.app τ) (QI h2) (by have:=QI h2; omega)
  simp only[ga (k+5) (by omega) (h.app τ) h2,Option.bind_some,Am,e,if_true]
  exact ⟨σ',rfl,h3,(BM.app i σ τ).trans k3⟩
theorem pV (x y:Int):Vi P Bl (.agg #[.int .i64 x,.int .i64 y]) (.agg #[.int .i64 0,.int .i64 0])=(bif x == 0 then some (y == 0) else some false):=by kernel_rfl
theorem gK (k:Nat) (x y:Int) (σ:Aa):∃ τ,CG (k+1) x y σ=some (.bool (!(bif x == 0 then y == 0 else false)),σ++τ):=by
 rw[MA,Ko]
 simp only[Ap,LR,Nat.zero_add,List.getElem?_cons_zero,List.getElem?_cons_succ,Option.bind_some,Am]
 rw[pV]
 cases x == 0 <;> exact ⟨_,rfl⟩
def Im (l:List (Int × Int)) (b:Nat):Nat→Nat→Option Nat
 | 0,_=>none
 | n+1,x=>if (l.getD (b+x) (0,0)).1=0∧(l.getD (b+x) (0,0)).2=0 then Im l b n (x+1) else some x
theorem YH (k:Nat) {b c:Nat} (c2:Nat) (v:Value) (hv:∀ x y σ,∃ τ,HF k v [.agg #[.int .i64 x,.int .i64 y]] σ=some (.bool (!(bif x == 0 then y == 0 else false)),σ++τ)):∀ (n x f:Nat) (σ:Aa),Ah σ i m→b+c≤m.bls.length→x+n=c→n<f →
  ∃ τ,Bo k f (some ⟨i.bl,b*2,none⟩) c c2 v (c:Int) (x:Int) σ=some (match Im m.bls b n x with | some x'=>(.ret,[.int .i64 (x':Int)],σ++τ) | none=>(.exit 0,[],σ++τ))
 | 0,x,0,σ,h,hb,hx,hf=>by omega
 | 0,x,f+1,σ,h,hb,hx,hf=>by
   rw[EM,DX]
   have q:decide ((x:Int)<(c:Int))=false:=decide_eq_false (by omega)
   exact ⟨[],by simp only[q,cond_false,Im,List.append_nil]⟩
 | n+1,x,0,σ,h,hb,hx,hf=>by omega
 | n+1,x,f+1,σ,h,hb,hx,hf=>by
   have ht:=h.nt
   have q:decide ((x:Int)<(c:Int))=true:=decide_eq_true (by omega)
   have hbx:b+x<m.bls.length:=by omega
   obtain ⟨l1,l2⟩:=h.WS hbx
   have a1:Ai .i64 σ i.bl (b*2+x*2)=some (m.bls.getD (b+x) (0,0)).1:=by rw[← l1]; congr 1; omega
   have a2:Ai .i64 σ i.bl (b*2+x*2+1)=some (m.bls.getD (b+x) (0,0)).2:=by rw[← l2]; congr 1; omega
   obtain ⟨τ,hcall⟩:=hv (m.bls.getD (b+x) (0,0)).1 (m.bls.getD (b+x) (0,0)).2 σ
   have w1:Ac ((x:Int)+1)=((x+1:Nat):Int):=Ad (by unfold AW; omega)
   obtain ⟨τ2,ih⟩:=YH k c2 v hv n (x+1) f (σ++τ) (h.app τ) hb (by omega) (by omega)
   rw[EM,DX]
   simp only[q,cond_true]
   rw[if_pos (by omega)]
   simp only[Option.bind_some,Int.toNat_natCast,a1,a2,hcall,As,w1]
   rw[Im]
   by_cases g1:(m.bls.getD (b+x) (0,0)).1=0
   ·by_cases g2:(m.bls.getD (b+x) (0,0)).2=0
    ·rw[if_pos ⟨g1,g2⟩]
     simp only[g1,g2,BEq.rfl,cond_true,Bool.not_true,cond_false]
     refine ⟨τ++τ2, ?_⟩
     rw[ih,List.append_assoc]
    ·rw[if_neg (fun hh=>g2 hh.2)]
     have p2:((m.bls.getD (b+x) (0,0)).2 == 0)=false:=by simpa using g2
     simp only[g1,BEq.rfl,cond_true,p2,Bool.not_false]
     exact ⟨τ,rfl⟩
   ·rw[if_neg (fun hh=>g1 hh.1)]
    have p1:((m.bls.getD (b+x) (0,0)).1 == 0)=false:=by simpa using g1
    simp only[p1,cond_false,Bool.not_false,cond_true]
    exact ⟨τ,rfl⟩
def V7 (l:List (Int × Int)) (b:Nat) (e:Int × Int):Nat→Nat→List (Int × Int)
 | 0,_=>l
 | n+1,x=>V7 (l.set (b+x) e) b e n (x+1)
theorem Ft (b:Nat) (e:Int × Int):∀ (n x:Nat) (l:List (Int × Int)),(V7 l b e n x).length=l.length
 | 0,x,l=>rfl
 | n+1,x,l=>by rw[V7,Ft b e n]; simp
theorem YV (k:Nat) {b c:Nat} (e:Int × Int) (hb3:Nat):∀ (n x f:Nat) (σ:Aa) (m:HM),Ah σ i m→hb3 ∉ i.l→(∃ T,σ[hb3]?=some (.cells [.int .i64 e.1,.int .i64 e.2] T true))→b+c≤m.bls.length→x+n=c→n<f →
  ∃ σ',Dm k f (DW i) (b:Int) hb3 (c:Int) (x:Int) σ=some (.exit 1,[],σ')∧Ah σ' i { m with bls:=V7 m.bls b e n x }∧BM i σ σ'
 | 0,x,0,σ,m,h,hn,hbox,hb,hx,hf=>by omega
 | 0,x,f+1,σ,m,h,hn,hbox,hb,hx,hf=>by
   rw[IG,HC]
   have q:decide ((x:Int)<(c:Int))=false:=decide_eq_false (by omega)
   exact ⟨σ,by simp only[q,cond_false],h,BM.refl _ _⟩
 | n+1,x,0,σ,m,h,hn,hbox,hb,hx,hf=>by omega
 | n+1,x,f+1,σ,m,h,hn,hbox,hb,hx,hf=>by
   have ht:=h.nt
   obtain ⟨T,hbox⟩:=hbox
   have q:decide ((x:Int)<(c:Int))=true:=decide_eq_true (by omega)
   obtain ⟨e1,h1⟩:=h.rS (b:=b+x) (by omega) e.1 e.2
   have k1:BM i σ (σ.set i.bl (.cells (CE (m.bls.set (b+x) (e.1,e.2))) DP true)):=BM.set _ _ (by simp[Cs.l])
   obtain ⟨σ',e2,h2,k2⟩:=YV k e hb3 n (x+1) f _ _ h1 hn ⟨T,(k1.same _ (Ae hbox) hn).trans hbox⟩ (by show b+c≤(m.bls.set _ _).length; rw[List.length_set]; omega) (by omega) (by omega)
   refine ⟨σ', ?_,h2,k1.trans k2⟩
   have w1:Ac ((x:Int)+1)=((x+1:Nat):Int):=Ad (by unfold AW; omega)
   have w2:Ac ((b:Int)+(x:Int))=((b+x:Nat):Int):=Ad (by unfold AW; omega)
   have l0:Ai .i64 σ hb3 0=some e.1:=by simp[Ai,Gy,hbox,BA]
   have l1:Ai .i64 σ hb3 1=some e.2:=by simp[Ai,Gy,hbox,BA]
   rw[IG,HC]
   simp only[q,cond_true,Option.bind_some,Nat.add_zero,Nat.zero_add,h.Sw,l0,l1,w1,w2]
   rw[if_pos (by omega)]
   simp only[Option.bind_some,Int.toNat_natCast,e1]
   exact e2
theorem fZ (h:Ah σ i m) {a b:Nat} (hab:a<b) (hb:b≤m.bls.length):
  KL Bl 2 (some ⟨i.bl,0,none⟩,m.bls.length,m.bls.length) (some (.int .i64 (a:Int))) (some (.int .i64 (b:Int))) none σ=some (some ⟨i.bl,a*2,none⟩,b-a,m.bls.length-a):=by
 have e1:elemAt σ i.bl=some Bl:=by simp only[elemAt,h.bl]
 have c1:(0≤(b:Int)∧(b:Int)≤((m.bls.length:Nat):Int)):=by omega
 have c2:(0≤(a:Int)∧(a:Int)≤((b:Nat):Int)):=by omega
 simp only[KL,Option.isSome_none,Bool.not_false,Bool.true_or,cond_true,bound,Int.toNat_natCast]
 rw[if_pos c1,if_pos c2,if_neg (by omega)]
 simp[e1]
def Bp (m:HM) (b c x y x' y':Int):Int × HM:=
 if 1≤b∧b<(m.bls.length:Int)∧1≤c∧c≤(m.bls.length:Int)-b∧Ug y=true then
  (if Im m.bls b.toNat c.toNat 0=none then (0,{ m with bls:=(V7 m.bls b.toNat (x',y') c.toNat 0).set b.toNat (x,y) }) else (8,m)) else (1,m)
theorem az (k:Nat) (hk:5000≤k) (h:Ah σ i m) (b c x y x' y':Int) (hb:AW b) (hc:AW c):Rv (DZ (k+6) (DW i) b c x y x' y' σ) σ i (Bp m b c x y x' y'):=by
 unfold Bp
 have ht:=h.nt
 have hnb:=h.nb
 rw[OL,MZ]
 simp only[Ap]
 obtain ⟨μ0,hμ0⟩:∃ μ0,σ++[Bi.cells [Value.int .i64 x,.int .i64 y] Bl true]=μ0:=⟨_,rfl⟩
 rw[hμ0]
 obtain ⟨μ1,hμ1⟩:∃ μ1,μ0++[Bi.cells [Value.int .i64 x',.int .i64 y'] Bl true]=μ1:=⟨_,rfl⟩
 rw[hμ1]
 have hE:μ1=σ++[Bi.cells [Value.int .i64 x,.int .i64 y] Bl true,Bi.cells [Value.int .i64 x',.int .i64 y'] Bl true]:=by rw[← hμ1,← hμ0]; simp
 have h1:Ah μ1 i m:=by rw[hE]; exact h.app _
 have k1:BM i σ μ1:=by rw[hE]; exact BM.app i σ _
 have hl0:μ0.length=σ.length+1:=by rw[← hμ0]; simp
 have hx0:μ1[σ.length]?=some (Bi.cells [Value.int .i64 x,.int .i64 y] Bl true):=by rw[hE]; simp
 have hx1:μ1[μ0.length]?=some (Bi.cells [Value.int .i64 x',.int .i64 y'] Bl true):=by rw[← hμ1]; simp
 have hn0:σ.length ∉ i.l:=fun hm=>Nat.lt_irrefl _ (h.lt _ hm)
 have hn1:μ0.length ∉ i.l:=fun hm=>by have:=h.lt _ hm; omega
 have ly:Ai .i64 μ1 σ.length 1=some y:=by simp[Ai,Gy,hx0,BA]
 have fail:∀ {r},r=((1:Int),m)→Rv (some (Value.int .i64 1,μ1)) σ i r:=fun hr=>Rv.same h [Bi.cells [Value.int .i64 x,.int .i64 y] Bl true,Bi.cells [Value.int .i64 x',.int .i64 y'] Bl true] (by rw[hE]) hr
 simp only[Ny _ h1,ZO _ h1,Option.bind_some,As,Bool.not_true,cond_false,Nat.zero_add,Nat.add_zero,h1.Sw,ly]
 by_cases g0:1≤b∧b<(m.bls.length:Int)
 rotate_left
 ·simp only[decide_eq_false g0,Bool.not_false,cond_true,Option.bind_some]
  exact fail (if_neg (by omega))
 obtain ⟨n,rfl⟩:∃ n:Nat,b=(n:Int):=⟨b.toNat,by omega⟩
 simp only[decide_eq_true g0,Bool.not_true,cond_false,Option.bind_some]
 by_cases g1:c<1
 ·simp only[decide_eq_true g1,cond_true,Option.bind_some]
  exact fail (if_neg (by omega))
 have e1:Ac (((m.bls.length:Nat):Int)-(n:Int))=((m.bls.length-n:Nat):Int):=by rw[Ad (by unfold AW; omega)]; omega
 simp only[decide_eq_false g1,cond_false,Option.bind_some,h1.Sw,e1]
 by_cases g2:c>((m.bls.length-n:Nat):Int)
 ·simp only[decide_eq_true g2,cond_true,Option.bind_some]
  exact fail (if_neg (by omega))
 obtain ⟨w,rfl⟩:∃ w:Nat,c=(w:Int):=⟨c.toNat,by omega⟩
 have hsp:=iU (k+4) y μ1
 generalize Ug y=ok at hsp ⊢
 simp only[decide_eq_false g2,cond_false,Option.bind_some,ly,hsp,As]
 cases ok with
 | false=>
   simp only[Bool.not_false,cond_true]
   exact fail (if_neg (by simp))
 | true=>
   rw[if_pos ⟨g0.1,g0.2,by omega,by omega,rfl⟩,Int.toNat_natCast,Int.toNat_natCast]
   have e2:Ac ((n:Int)+(w:Int))=((n+w:Nat):Int):=Ad (by unfold AW; omega)
   have hw:n+w≤m.bls.length:=by omega
   simp only[Bool.not_true,cond_false,h1.Sw,e2,fZ h1 (show n<n+w by omega) hw,Option.bind_some,Nat.add_sub_cancel_left]
   rw[GQ,Fs,HL,Gm]
   have hv:∀ x y σ,∃ τ,HF (k+3) (.func (.func NN) #[] #[]) [.agg #[.int .i64 x,.int .i64 y]] σ=some (.bool (!(bif x == 0 then y == 0 else false)),σ++τ):=by
    intro x y σ
    rw[OG]
    exact gK (k+2) x y σ
   obtain ⟨τ,hidx⟩:=YH (k+3) (b:=n) (c:=w) (m.bls.length-n) (.func (.func NN) #[] #[]) hv w 0 (k+3) μ1 h1 hw (by omega) (by omega)
   rw[show ((0:Nat):Int)=0 from rfl] at hidx
   cases hu:Im m.bls n w 0 with
   | some x0=>
     rw[hu] at hidx
     simp only[hidx,Option.bind_some,if_true,D4,Am,As,reduceCtorEq,if_false]
     have q:decide ((x0:Int)≥0)=true:=decide_eq_true (by omega)
     simp only[q,cond_true]
     exact Rv.same h ([Bi.cells [Value.int .i64 x,.int .i64 y] Bl true,Bi.cells [Value.int .i64 x',.int .i64 y'] Bl true]++τ) (code:=8) (by rw[hE,List.append_assoc]) rfl
   | none=>
     rw[hu] at hidx
     have q:decide ((-1:Int)≥0)=false:=by decide
     simp only[hidx,Option.bind_some,if_true,Am,As,q,cond_false]
     have h2:=h1.app τ
     have k2:BM i μ1 (μ1++τ):=BM.app i μ1 τ
     have hy1:=(k2.same _ (Ae hx1) hn1).trans hx1
     obtain ⟨σ3,e3,h3,k3⟩:=YV (k+5) (b:=n) (c:=w) (x',y') μ0.length w 0 (k+5) (μ1++τ) m h2 hn1 ⟨_,hy1⟩ hw (by omega) (by omega)
     rw[show ((0:Nat):Int)=0 from rfl] at e3
     have hy0:=(k3.same _ (Ae ((k2.same _ (Ae hx0) hn0).trans hx0)) hn0).trans ((k2.same _ (Ae hx0) hn0).trans hx0)
     have l0:Ai .i64 σ3 σ.length 0=some x:=by simp[Ai,Gy,hy0,BA]
     have l1:Ai .i64 σ3 σ.length 1=some y:=by simp[Ai,Gy,hy0,BA]
     have hlen:(V7 m.bls n (x',y') w 0).length=m.bls.length:=Ft _ _ _ _ _
     obtain ⟨e4,h4⟩:=h3.rS (b:=n) (by show n<(V7 _ _ _ _ _).length; omega) x y
     simp only[e3,Option.bind_some,if_true,h3.Sw,l0,l1]
     rw[if_pos (by show 0≤(n:Int)∧(n:Int)<(((V7 m.bls n (x',y') w 0).length:Nat):Int); omega)]
     simp only[Option.bind_some,Nat.zero_add,Int.toNat_natCast,e4]
     exact ⟨_,rfl,h4,((k1.trans k2).trans k3).trans (BM.set _ _ (by simp[Cs.l]))⟩
theorem ZP (k:Nat) (hk:5000≤k) (h:Ah σ i m) (b s:Int) (hb:AW b):Rv (Cp (k+7) (DW i) b s σ) σ i (Bp m b 1 1 s 0 0):=by
 refine (az k hk h b 1 1 s 0 0 hb (by unfold AW; decide)).to fun σ' e=>?_
 rw[OI,MW,e]
 simp only[Option.bind_some,Am]
theorem Zw (k:Nat) (hk:5000≤k) (h:Ah σ i m) (b c s:Int) (hb:AW b) (hc:AW c):Rv (Dy (k+7) (DW i) b c s σ) σ i (Bp m b c 2 s 3 s):=by
 refine (az k hk h b c 2 s 3 s hb hc).to fun σ' e=>?_
 rw[Lc,Jh,e]
 simp only[Option.bind_some,Am]
end Go.Proofs.YtlaplcglpnlieaaGreat
end
