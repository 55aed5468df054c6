/- What the calls leave holds together; plain laws.; New.; Calls one by one, and all of them: do, Made.; Small things that more than one law uses.; Looks -/
import Derived.Test.YtlaplcglpnlieaaGreatP13
set_option linter.unusedVariables false
set_option linter.unusedSimpArgs false
set_option linter.unusedSectionVars false
section
namespace Go.Proofs.YtlaplcglpnlieaaGreat
open Go Go.AX
variable {m:HM}
def use (m:HM) (j:Nat):Nat:=(2+BP m j+Eu m j).toNat
def Ul (l:List (Int × Int)) (a wo:Nat):Prop:=
 (wo≤32→(l.getD (a/64) (0,0)).1=1∧(a+wo-1)/64=a/64) ∧
 (32<wo→(l.getD (a/64) (0,0)).1=2∧a % 64=0 ∧ ∀ c,a/64<c→c≤(a+wo-1)/64→(l.getD c (0,0)).1=3)
structure Inv2 (m:HM):Prop where
 kind:∀ j,Start m j→Ul m.bls (2*j) (sz m j)
 zero:∀ a,(∀ j,Start m j→2*j≤a→a<2*j+use m j→False)→m.wds.getD a 0=0
structure Sh (m:HM):Prop where
 wl:m.wds.length=64*m.bls.length
 sl:32*m.bls.length≤64*m.stw.length
 pl:32*m.bls.length≤64*m.pnw.length
theorem Ag.sh {σ:Aa} {i:C8} (h:Ag σ i m):Sh m:=⟨h.wl,dI h.st.len,dI h.pn.len⟩
theorem Inv.use (h:Inv m) {j:Nat} (hs:Start m j):2≤use m j∧use m j≤sz m j∧((use m j:Nat):Int)=2+BP m j+Eu m j:=by
 obtain ⟨z1,z2,z3,z4,z5,z6⟩:=h.size hs
 unfold Go.Proofs.YtlaplcglpnlieaaGreat.use
 omega
structure FM (m:HM) (r:Int × HM):Prop where
 inv:Inv r.2
 inv2:Inv2 r.2
 b1:m.births≤r.2.births
 b2:r.2.births≤m.births+1
 len:r.2.bls.length=m.bls.length
 err:r.1≠0→r.2=m
theorem FM.same (h:Inv m) (h2:Inv2 m) (c:Int):FM m (c,m):=⟨h,h2,Int.le_refl _,by simp only; omega,rfl,fun _=>rfl⟩
theorem av (h:Inv m) {a x:Int} {data:Bool} {w:Int} (hf:Ry m a x data=(w,0)):∃ j t:Nat,Start m j∧a=((2*j:Nat):Int)∧w=((2*j+2+t:Nat):Int)∧2+t<use m j∧((t:Nat):Int)=x+(if data then BP m j else 0):=by
 unfold Ry at hf
 split at hf
 ·rename_i hh
  obtain ⟨j,rfl,hs⟩:=Sl hh
  have ej:((2*j:Nat):Int).toNat/2=j:=by omega
  obtain ⟨z1,z2,z3,z4,z5,z6⟩:=h.size hs
  obtain ⟨_,_,u3⟩:=h.use hs
  simp only[ej] at hf
  cases data with
  | false=>
    simp only[Bool.false_eq_true,if_false] at hf
    split at hf
    ·rename_i hc
     have hw:=congrArg Prod.fst hf
     simp only at hw
     exact ⟨j,x.toNat,hs,rfl,by omega,by omega,by simp only[Bool.false_eq_true,if_false]; omega⟩
    ·have:=congrArg Prod.snd hf
     simp at this
  | true=>
    simp only[if_true] at hf
    split at hf
    ·rename_i hc
     have hw:=congrArg Prod.fst hf
     simp only at hw
     exact ⟨j,(BP m j+x).toNat,hs,rfl,by omega,by omega,by simp only[if_true]; omega⟩
    ·have:=congrArg Prod.snd hf
     simp at this
 ·have:=congrArg Prod.snd hf
  simp at this
theorem iz (h:Inv m) {j t:Nat} (hs:Start m j) (ht:2+t<sz m j) (v:Int):∀ j',Start m j' → ∀ c,c<2→(P6 m (2*j+2+t) v).wds.getD (2*j'+c) 0=m.wds.getD (2*j'+c) 0:=by
 intro j' hs' c hc
 show (m.wds.set _ _).getD _ _=_
 rw[CK,if_neg]
 rintro ⟨e,_⟩
 have h1:=h.apart j j' hs hs'
 have hz:=h.size hs'
 rcases Nat.lt_trichotomy j j' with hlt | rfl | hlt
 ·have:=h1 hlt; omega
 ·omega
 ·omega
theorem VZ {m m':HM} {j j':Nat} (h:m'.wds.getD (2*j'+1) 0=m.wds.getD (2*j+1) 0):sz m' j'=sz m j∧use m' j'=use m j∧BP m' j'=BP m j∧Eu m' j'=Eu m j:=by
 unfold sz use BP Eu
 rw[h]
 exact ⟨rfl,rfl,rfl,rfl⟩
theorem Inv2.word (h:Inv m) (h2:Inv2 m) {j t:Nat} (hs:Start m j) (ht:2+t<use m j) (v:Int):Inv2 (P6 m (2*j+2+t) v):=by
 have hu:=h.use hs
 have key:=iz h hs (show 2+t<sz m j by omega) v
 refine ⟨fun j' hs'=>?_,fun a ha=>?_⟩
 ·rw[(VZ (key j' hs' 1 (by decide))).1]; exact h2.kind j' hs'
 ·show (m.wds.set _ _).getD _ _=_
  rw[CK,if_neg]
  ·exact h2.zero a fun j' hs' h3 h4=>ha j' hs' h3 (by rw[(VZ (key j' hs' 1 (by decide))).2.1]; exact h4)
  ·rintro ⟨rfl,_⟩
   exact ha j hs (by omega) (by rw[(VZ (key j hs 1 (by decide))).2.1]; omega)
theorem Y5 (h:Inv m) (h2:Inv2 m) {j t:Nat} (hs:Start m j) (ht:2+t<use m j) (v:Int):FM m (0,P6 m (2*j+2+t) v):=
 ⟨h.pB hs (by have:=h.use hs; omega) v,h2.word h hs ht v,Int.le_refl _,by show m.births≤m.births+1; omega,rfl,fun hc=>absurd rfl hc⟩
theorem eX (h:Inv m) (h2:Inv2 m) (a x v:Int):FM m (Vr m a x v):=by
 unfold Vr
 generalize hf:Ry m a x false=w
 obtain ⟨w,c⟩:=w
 split
 ·rename_i hc
  simp only at hc
  subst hc
  obtain ⟨j,t,hs,rfl,rfl,ht,_⟩:=av h hf
  split
  ·exact FM.same h h2 _
  ·simp only[Int.toNat_natCast]
   exact Y5 h h2 hs ht v
 ·exact FM.same h h2 _
theorem cm (h:Inv m) (h2:Inv2 m) (a x v:Int):FM m (S6 m a x v):=by
 unfold S6
 generalize hf:Ry m a x true=w
 obtain ⟨w,c⟩:=w
 split
 ·rename_i hc
  simp only at hc
  subst hc
  obtain ⟨j,t,hs,rfl,rfl,ht,_⟩:=av h hf
  simp only[Int.toNat_natCast]
  exact Y5 h h2 hs ht v
 ·exact FM.same h h2 _
theorem Inv2.pins (h2:Inv2 m) (l:List (BitVec 64)):Inv2 { m with pnw:=l }:=⟨h2.kind,h2.zero⟩
theorem Inv2.Xa (h2:Inv2 m) (l:List (Int × Int)):Inv2 { m with fw:=l }:=⟨h2.kind,h2.zero⟩
theorem Inv2.places (h2:Inv2 m) (l:List (Int × Int)):Inv2 { m with pl:=l }:=⟨h2.kind,h2.zero⟩
theorem di (h:Inv m) (h2:Inv2 m) (a:Int) (v:Nat):FM m (cl m a v):=by
 unfold cl
 split
 ·exact ⟨h.pins _,h2.pins _,Int.le_refl _,by show m.births≤m.births+1; omega,rfl,fun hc=>absurd rfl hc⟩
 ·exact FM.same h h2 _
theorem jC (h:Inv m) (h2:Inv2 m) (a v:Int):FM m (dp m a v):=by
 unfold dp
 split
 ·cases hq:Ra m a.toNat with
  | none=>exact FM.same h h2 _
  | some j=>
    obtain ⟨hs,_,p2,p1⟩:=Tb hq
    have hu:=h.use hs
    simp only
    split
    ·obtain ⟨t,ht⟩:∃ t,a.toNat=2*j+2+t:=⟨a.toNat-(2*j+2),by omega⟩
     rw[ht]
     exact Y5 h h2 hs (by omega) v
    ·exact FM.same h h2 _
 ·exact FM.same h h2 _
theorem gp (h:Inv m) (h2:Inv2 m):FM m (0,{ m with fw:=[] }):=
 ⟨h.Xa _,h2.Xa _,Int.le_refl _,by show m.births≤m.births+1; omega,rfl,fun hc=>absurd rfl hc⟩
theorem bH (m:HM) (b:Nat):∀ (f n c:Nat),n≤c→c<Hj m b f n→(m.bls.getD b (0,0)).1=2∧(m.bls.getD (b+c) (0,0)).1=3
 | 0,n,c,h1,h2=>by rw[Hj] at h2; omega
 | f+1,n,c,h1,h2=>by
   rw[Hj] at h2
   split at h2
   ·rename_i hc
    rcases Nat.eq_or_lt_of_le h1 with rfl | h1
    ·exact ⟨hc.1,hc.2.2⟩
    ·exact bH m b f (n+1) c h1 h2
   ·omega
theorem WE {b c:Nat} (h1:b<c) (h2:c<b+Gf m b):(m.bls.getD b (0,0)).1=2∧(m.bls.getD c (0,0)).1=3:=by
 have:=bH m b m.bls.length 1 (c-b) (by omega) (by unfold Gf at h2; omega)
 rw[show b+(c-b)=c from by omega] at this
 exact this
theorem ay {a:Int} {wo:Nat} {but:Int} (h2:2≤wo) (hf:Nr m a wo but=0):Ul m.bls a.toNat wo:=by
 unfold Nr at hf
 split at hf
 ·cases hf
 simp only at hf
 split at hf
 ·rename_i hw
  split at hf
  ·cases hf
  ·rename_i hc
   refine ⟨fun _=>⟨?_, ?_⟩,fun h=>by omega⟩
   ·apply Classical.byContradiction
    intro hq; exact hc (.inl hq)
   ·apply Classical.byContradiction
    intro hq; exact hc (.inr hq)
 ·rename_i hw
  split at hf
  ·cases hf
  ·rename_i hc
   have c1:(m.bls.getD (a.toNat/64) (0,0)).1=2:=by
    apply Classical.byContradiction
    intro hq; exact hc (.inl hq)
   have c2:a.toNat % 64=0:=by
    apply Classical.byContradiction
    intro hq; exact hc (.inr (.inl hq))
   have c3:Gf m (a.toNat/64)=(wo+63)/64:=by
    apply Classical.byContradiction
    intro hq; exact hc (.inr (.inr hq))
   refine ⟨fun h=>by omega,fun _=>⟨c1,c2,fun c h1 h2=>?_⟩⟩
   exact (WE h1 (by rw[c3]; omega)).2
theorem Inv2.place (h:Inv m) (h2:Inv2 m) (hS:Sh m) {j:Nat} {r d k:Int} (hv:valid r d k=true) (hj:j<32*m.bls.length)
  (hap:∀ o,Start m o→2*o+sz m o≤2*j∨2*j+SF (num r d k)≤2*o) (hk:Ul m.bls (2*j) (SF (num r d k))):Inv2 (D4 m j (num r d k)):=by
 have hst:=fun j'=>Rq (m:=m) (n:=num r d k) (j:=j) (j':=j') hS.sl hj
 have hw:=hS.wl
 have hv':=hv
 simp[valid] at hv'
 have h3:2≤SF (num r d k):=by
  rw[O4 hv]
  omega
 have hnj:¬ Start m j:=fun hs=>by
  have h1:=hap j hs
  have h2:=h.size hs
  omega
 have hne:∀ j',Start m j'→j'≠j:=fun j' hs e=>hnj (e ▸ hs)
 have w1:(D4 m j (num r d k)).wds.getD (2*j+1) 0=num r d k:=by
  unfold D4; simp only
  rw[CK,if_pos ⟨rfl,by simp; omega⟩]
 have wo:∀ j',j'≠j→(D4 m j (num r d k)).wds.getD (2*j'+1) 0=m.wds.getD (2*j'+1) 0:=by
  intro j' hne
  unfold D4; simp only
  rw[CK,if_neg (by omega),CK,if_neg (by omega)]
 have s1:sz (D4 m j (num r d k)) j=SF (num r d k):=by unfold sz; rw[w1]
 obtain ⟨p1,p2,_,_⟩:=Oi hv
 have u1:use (D4 m j (num r d k)) j=(2+r+d).toNat:=by unfold use BP Eu; rw[w1,p1,p2]
 refine ⟨fun j' hs'=>?_,fun a ha=>?_⟩
 ·rcases (hst j').1 hs' with rfl | hs'
  ·rw[s1]; exact hk
  ·rw[(VZ (wo j' (hne j' hs'))).1]; exact h2.kind j' hs'
 ·have hself:=ha j ((hst j).2 (.inl rfl))
  rw[u1] at hself
  have hn0:a≠2*j:=fun e=>hself (by omega) (by omega)
  have hn1:a≠2*j+1:=fun e=>hself (by omega) (by omega)
  unfold D4; simp only
  rw[CK,if_neg (by omega),CK,if_neg (by omega)]
  exact h2.zero a fun j' hs' h4 h5=>ha j' ((hst j').2 (.inr hs')) h4 (by rw[(VZ (wo j' (hne j' hs'))).2.1]; exact h5)
theorem Rj (h:Inv m) (h2:Inv2 m) (hS:Sh m) (a r d c:Int):FM m (Cw m a r d c).2:=by
 unfold Cw
 split
 ·rename_i hv
  split
  ·rename_i hc
   have hw2:2≤SF (num r d c):=by
    rw[O4 hv]
    simp[valid] at hv
    omega
   have hk:=ay hw2 hc
   obtain ⟨j,rfl,hj,hfit,hap⟩:=h.fits hS.wl (fh _) hw2 hc
   rw[Int.toNat_natCast] at hk
   simp only[show ((2*j:Nat):Int).toNat/2=j from by omega]
   have hap':∀ o,Start m o→2*o+sz m o≤2*j∨2*j+SF (num r d c)≤2*o:=fun o ho=>hap o ho (by omega)
   refine ⟨h.place hS.wl hS.sl hv hj hfit hap',h2.place h hS hv hj hap' hk, ?_,Int.le_refl _,rfl,fun hc=>absurd rfl hc⟩
   show m.births≤m.births+1
   omega
  ·exact FM.same h h2 _
 ·exact FM.same h h2 _
theorem Wt (h:Inv m) {j j' a:Nat} (hs:Start m j) (hs':Start m j') (hne:j'≠j) (h1:2*j'≤a) (h2:a<2*j'+sz m j'):(LL m j).wds.getD a 0=m.wds.getD a 0:=by
 have hf:=h.fit j hs
 show (QL _ _ _).getD _ 0=_
 rw[JD (by simpa using hf),if_neg]
 rintro ⟨p1,p2⟩
 simp only[List.length_replicate] at p2
 rcases Nat.lt_trichotomy j j' with hlt | rfl | hlt
 ·have:=h.apart j j' hs hs' hlt; omega
 ·exact hne rfl
 ·have:=h.apart j' j hs' hs hlt; omega
theorem Inv2.kill (h:Inv m) (h2:Inv2 m) (hS:Sh m) {j:Nat} (hs:Start m j):Inv2 (LL m j):=by
 have hf:=h.fit j hs
 have hst:=fun j'=>QD (m:=m) (j:=j) (j':=j') hS.sl hs.1
 have so:∀ j',j'≠j→Start m j'→sz (LL m j) j'=sz m j'∧use (LL m j) j'=use m j':=fun j' hne hs'=>by
  have:=VZ (Wt h hs hs' hne (a:=2*j'+1) (by omega) (by have:=h.size hs'; omega))
  exact ⟨this.1,this.2.1⟩
 refine ⟨fun j' hs'=>?_,fun a ha=>?_⟩
 ·obtain ⟨hne,hs'⟩:=(hst j').1 hs'
  rw[(so j' hne hs').1]; exact h2.kind j' hs'
 ·show (QL _ _ _).getD _ 0=_
  rw[JD (by simpa using hf)]
  split
  ·rw[List.getD_eq_getElem?_getD,List.getElem?_replicate]
   split <;> rfl
  ·rename_i hc
   refine h2.zero a fun j' hs' h4 h5=>?_
   by_cases hq:j'=j
   ·subst hq
    have:=h.use hs'
    simp at hc; omega
   ·exact ha j' ((hst j').2 ⟨hq,hs'⟩) h4 (by rw[(so j' hq hs').2]; exact h5)
theorem aL (h:Inv m) (h2:Inv2 m) (hS:Sh m) (a:Int):FM m (P2 m a):=by
 unfold P2
 split
 ·rename_i hh
  obtain ⟨j,rfl,hs⟩:=Sl hh
  rw[show ((2*j:Nat):Int).toNat/2=j from by omega]
  exact ⟨h.kill hS.sl hs,h2.kill h hS hs,Int.le_refl _,by show m.births≤m.births+1; omega,rfl,fun hc=>absurd rfl hc⟩
 ·exact FM.same h h2 _
theorem bJ (hS:Sh m) {j t j':Nat} (hj:j<32*m.bls.length) (ht:t<32*m.bls.length):Start (Qy m j t) j'↔j'=t∨(j'≠j∧Start m j'):=by
 have hl:=hS.sl
 unfold Start Qy
 simp only
 by_cases hq:j'=t
 ·subst hq
  rw[F0 (.inl rfl) (by decide) (by rw[MG]; omega)]
  simp[ht]
 ·rw[Cp (.inl rfl) (by decide) (fun e=>hq e.symm)]
  by_cases hq2:j'=j
  ·subst hq2
   rw[F0 (.inl rfl) (by decide) (by omega)]
   simp[hq]
  ·rw[Cp (.inl rfl) (by decide) (fun e=>hq2 e.symm)]
   simp[hq,hq2]
theorem Th (h:Inv m) {j t:Nat} (hs:Start m j) (hfit:2*t+sz m j≤m.wds.length) (a:Nat):
  (Qy m j t).wds.getD a 0=if 2*t≤a∧a<2*t+sz m j then m.wds.getD (2*j+(a-2*t)) 0 else if 2*j≤a∧a<2*j+sz m j then 0 else m.wds.getD a 0:=by
 have hf:=h.fit j hs
 have hhl:((m.wds.drop (2*j)).take (sz m j)).length=sz m j:=by simp; omega
 have hl1:(QL m.wds (2*j) (List.replicate (sz m j) 0)).length=m.wds.length:=OR (by simpa using hf)
 show (QL _ _ _).getD _ 0=_
 rw[JD (by rw[hhl,hl1]; exact hfit),hhl]
 split
 ·rename_i hc
  simp only[List.getD_eq_getElem?_getD,List.getElem?_take,show a-2*t<sz m j from by omega,if_true,List.getElem?_drop]
 ·rw[JD (by simpa using hf),List.length_replicate]
  split
  ·rw[List.getD_eq_getElem?_getD,List.getElem?_replicate]
   split <;> rfl
  ·rfl
theorem ZQ (h:Inv m) {o j a:Nat} (ho:Start m o) (hs:Start m j) (h1:2*o≤a) (h2:a<2*o+sz m o) (h3:2*j≤a) (h4:a<2*j+sz m j):o=j:=by
 rcases Nat.lt_trichotomy j o with hlt | rfl | hlt
 ·have:=h.apart j o hs ho hlt; omega
 ·rfl
 ·have:=h.apart o j ho hs hlt; omega
theorem aV (h:Inv m) {j t o a:Nat} (hs:Start m j) (hfit:2*t+sz m j≤m.wds.length)
  (hap:∀ o,Start m o→o≠j→2*o+sz m o≤2*t∨2*t+sz m j≤2*o) (ho:Start m o) (hne:o≠j) (h1:2*o≤a) (h2:a<2*o+sz m o):(Qy m j t).wds.getD a 0=m.wds.getD a 0:=by
 have:=hap o ho hne
 rw[Th h hs hfit,if_neg (by omega),if_neg]
 rintro ⟨h3,h4⟩
 exact hne (ZQ h ho hs h1 h2 h3 h4)
theorem Inv2.move (h:Inv m) (h2:Inv2 m) (hS:Sh m) {j t:Nat} (hs:Start m j) (ht:t<32*m.bls.length) (hfit:2*t+sz m j≤m.wds.length)
  (hap:∀ o,Start m o→o≠j→2*o+sz m o≤2*t∨2*t+sz m j≤2*o) (hk:Ul m.bls (2*t) (sz m j)):Inv2 (Qy m j t):=by
 have hst:=fun j'=>bJ (m:=m) hS (j:=j) (t:=t) (j':=j') hs.1 ht
 have hz:=h.size hs
 have hu:=h.use hs
 have so:∀ j',j'≠j→Start m j'→sz (Qy m j t) j'=sz m j'∧use (Qy m j t) j'=use m j':=fun j' hne hs'=>by
  have:=VZ (aV h hs hfit hap hs' hne (a:=2*j'+1) (by omega) (by have:=h.size hs'; omega))
  exact ⟨this.1,this.2.1⟩
 have st:sz (Qy m j t) t=sz m j∧use (Qy m j t) t=use m j:=by
  have:=VZ (m:=m) (m':=Qy m j t) (j:=j) (j':=t) (by rw[Th h hs hfit,if_pos (by omega)]; congr 1; omega)
  exact ⟨this.1,this.2.1⟩
 refine ⟨fun j' hs'=>?_,fun a ha=>?_⟩
 ·by_cases hq:j'=t
  ·subst hq; rw[st.1]; exact hk
  ·rcases (hst j').1 hs' with e | ⟨hne,hs'⟩
   ·exact absurd e hq
   ·rw[(so j' hne hs').1]; exact h2.kind j' hs'
 ·rw[Th h hs hfit]
  have hself:=ha t ((hst t).2 (.inl rfl))
  rw[st.2] at hself
  split
  ·rename_i hc
   refine h2.zero _ fun j' hs' h4 h5=>?_
   by_cases hq:j'=j
   ·subst hq
    exact hself (by omega) (by omega)
   ·have:=h.use hs'
    exact hq (ZQ h hs' hs h4 (by omega) (by omega) (by omega))
  ·rename_i hc
   split
   ·rfl
   ·rename_i hc2
    refine h2.zero _ fun j' hs' h4 h5=>?_
    by_cases hq:j'=j
    ·subst hq
     omega
    ·exact ha j' ((hst j').2 (.inr ⟨hq,hs'⟩)) h4 (by rw[(so j' hq hs').2]; exact h5)
theorem nK (h:Inv m) (hS:Sh m) {j:Nat} {b:Int} (hs:Start m j) (hc:Nr m b (sz m j) ((2*j:Nat):Int)=0):
  ∃ t,b=((2*t:Nat):Int)∧t<32*m.bls.length∧2*t+sz m j≤m.wds.length∧(∀ o,Start m o→o≠j→2*o+sz m o≤2*t∨2*t+sz m j≤2*o)∧Ul m.bls (2*t) (sz m j):=by
 have hz:=h.size hs
 have hk:=ay hz.1 hc
 obtain ⟨t,rfl,htb,hfit,hap⟩:=h.fits hS.wl hz.2.1 hz.1 hc
 rw[Int.toNat_natCast] at hk
 exact ⟨t,rfl,htb,hfit,fun o ho hne=>hap o ho (by omega),hk⟩
theorem jz (h:Inv m) (h2:Inv2 m) (hS:Sh m) (a b:Int):FM m (dc m a b):=by
 unfold dc
 split
 ·rename_i hh
  obtain ⟨j,rfl,hs⟩:=Sl hh
  rw[show ((2*j:Nat):Int).toNat/2=j from by omega]
  split
  ·rename_i hc
   obtain ⟨t,rfl,htb,hfit,hap,hk⟩:=nK h hS hs hc
   rw[show ((2*t:Nat):Int).toNat/2=t from by omega]
   exact ⟨h.move hS.sl hs htb hfit hap,h2.move h hS hs htb hfit hap hk,Int.le_refl _,by show m.births≤m.births+1; omega,rfl,fun hc=>absurd rfl hc⟩
  ·exact FM.same h h2 _
 ·exact FM.same h h2 _
theorem cQ (l:List (Int × Int)) (a c:Nat) (v:Int × Int):(l.set a v).getD c (0,0)=if a=c∧a<l.length then v else l.getD c (0,0):=by
 simp only[List.getD_eq_getElem?_getD,List.getElem?_set]
 by_cases h:a=c
 ·subst h
  by_cases h2:a<l.length
  ·simp[h2]
  ·simp[h2]
 ·simp[h]
theorem St (b:Nat):∀ (n:Nat) (l:List (Int × Int)) (c:Nat),(bh l b n).getD c (0,0)=if b≤c∧c<b+n then (0,0) else l.getD c (0,0)
 | 0,l,c=>by rw[bh,if_neg (by omega)]
 | n+1,l,c=>by
   rw[bh,St b n,cQ]
   by_cases h1:b+n=c
   ·subst h1
    rw[if_neg (by omega),if_pos (show b≤b+n∧b+n<b+(n+1) by omega)]
    split
    ·rfl
    ·rename_i h
     rw[List.getD_eq_getElem?_getD,List.getElem?_eq_none (by omega)]; rfl
   ·rw[if_neg (show ¬ (b+n=c∧b+n<l.length) from fun h=>h1 h.1)]
    by_cases h2:b≤c∧c<b+n
    ·rw[if_pos h2,if_pos (by omega)]
    ·rw[if_neg h2,if_neg (by omega)]
theorem Y3 (b:Nat) (y:Int):∀ (n:Nat) (l:List (Int × Int)) (c:Nat),((Y2 l b y n).getD c (0,0)).1=(l.getD c (0,0)).1
 | 0,l,c=>rfl
 | n+1,l,c=>by
   rw[Y2,Y3 b y n,cQ]
   split
   ·rename_i h
    rw[h.1]
   ·rfl
theorem ae (b:Nat) (e:Int × Int):∀ (n x:Nat) (l:List (Int × Int)) (c:Nat),c<b+x∨b+x+n≤c→(Vz l b e n x).getD c (0,0)=l.getD c (0,0)
 | 0,x,l,c,h=>rfl
 | n+1,x,l,c,h=>by
   rw[Vz,ae b e n (x+1) _ c (by omega),List.getD_eq_getElem?_getD,List.getD_eq_getElem?_getD,List.getElem?_set,if_neg (by omega)]
theorem bQ {l:List (Int × Int)} {b:Nat}:∀ {n x:Nat},Im l b n x=none → ∀ c,x≤c→c<x+n→l.getD (b+c) (0,0)=(0,0)
 | 0,x,h,c,h1,h2=>by omega
 | n+1,x,h,c,h1,h2=>by
   rw[Im] at h
   split at h
   ·rename_i hc
    rcases Nat.eq_or_lt_of_le h1 with rfl | h1
    ·exact Prod.ext hc.1 hc.2
    ·exact bQ h c h1 (by omega)
   ·cases h
theorem Ul.Dd {l l':List (Int × Int)} {a wo:Nat} (h:Ul l a wo) (hl:∀ c,(l.getD c (0,0)).1≠0→a/64≤c→c≤(a+wo-1)/64→(l'.getD c (0,0)).1=(l.getD c (0,0)).1) (hw:0<wo):Ul l' a wo:=by
 refine ⟨fun hw'=>?_,fun hw'=>?_⟩
 ·obtain ⟨h1,h2⟩:=h.1 hw'
  exact ⟨by rw[hl _ (by rw[h1]; decide) (Nat.le_refl _) (by omega)]; exact h1,h2⟩
 ·obtain ⟨h1,h2,h3⟩:=h.2 hw'
  exact ⟨by rw[hl _ (by rw[h1]; decide) (Nat.le_refl _) (by omega)]; exact h1,h2,fun c h4 h5=>by rw[hl c (by rw[h3 c h4 h5]; decide) (by omega) h5]; exact h3 c h4 h5⟩
theorem Inv2.blocks (h:Inv m) (h2:Inv2 m) (l:List (Int × Int)) (hl:l.length=m.bls.length)
  (hk:∀ j,Start m j → ∀ c,(m.bls.getD c (0,0)).1≠0→2*j/64≤c→c≤(2*j+sz m j-1)/64→(l.getD c (0,0)).1=(m.bls.getD c (0,0)).1):Inv2 { m with bls:=l }:=by
 have hs:∀ j,Start { m with bls:=l } j↔Start m j:=fun j=>by unfold Start; simp only[hl]
 refine ⟨fun j hj=>?_,fun a ha=>h2.zero a fun j hj=>ha j ((hs j).2 hj)⟩
 have hj':=(hs j).1 hj
 exact (h2.kind j hj').Dd (hk j hj') (by have:=h.size hj'; show 0<sz m j; omega)
theorem Uz (h:Inv m) (h2:Inv2 m) {l:List (Int × Int)} (hl:l.length=m.bls.length)
  (hk:∀ j,Start m j → ∀ c,(m.bls.getD c (0,0)).1≠0→2*j/64≤c→c≤(2*j+sz m j-1)/64→(l.getD c (0,0)).1=(m.bls.getD c (0,0)).1):FM m (0,{ m with bls:=l }):=
 ⟨h.blocks l hl,h2.blocks h l hl hk,Int.le_refl _,by show m.births≤m.births+1; omega,hl,fun hc=>absurd rfl hc⟩
theorem YZ (h:Inv m) (h2:Inv2 m) (b y:Int):FM m (Nw m b y):=by
 unfold Nw
 split
 ·exact Uz h h2 (OW _ _ _ _) fun j _ c _ _ _=>Y3 _ _ _ _ _
 ·exact FM.same h h2 _
theorem gx {b:Int} {ok:Bool} (h:OP m b ok=0):(m.bls.getD b.toNat (0,0)).1=1∨(m.bls.getD b.toNat (0,0)).1=2:=by
 unfold OP at h
 split at h
 ·cases h
 ·split at h
  ·cases h
  ·rename_i hc
   apply Classical.byContradiction
   intro hq
   exact hc ⟨fun e=>hq (.inl e),fun e=>hq (.inr e)⟩
theorem VU (h:Inv m) (h2:Inv2 m) (b:Int):FM m (HP m b):=by
 unfold HP
 split
 ·rename_i hh
  have hst:=gx hh
  split
  ·rename_i he
   refine Uz h h2 (OT _ _ _) fun j hj c hc h3 h4=>?_
   rw[St,if_neg]
   rintro ⟨h5,h6⟩
   generalize b.toNat=n at hst he h5 h6
   have hz:=h.size hj
   have hnb:2*j/64≠n:=by
    intro e
    have:j ∈ Cj m (32*n) 32:=by
     unfold Cj
     rw[List.mem_filter,List.mem_range'_1]
     exact ⟨by omega,decide_eq_true hj.2⟩
    rw[he] at this
    cases this
   obtain ⟨k1,k2⟩:=h2.kind j hj
   by_cases hw:sz m j≤32
   ·obtain ⟨q1,q2⟩:=k1 hw
    have hcj:c=2*j/64:=by omega
    subst hcj
    have:=WE (m:=m) (b:=n) (c:=2*j/64) (by omega) h6
    rw[q1] at this
    exact absurd this.2 (by decide)
   ·obtain ⟨q1,q2,q3⟩:=k2 (by omega)
    by_cases hlt:n<2*j/64
    ·have:=WE (m:=m) (b:=n) (c:=2*j/64) hlt (by omega)
     rw[q1] at this
     exact absurd this.2 (by decide)
    ·have:=q3 n (by omega) (by omega)
     rcases hst with e | e
     ·rw[this] at e; exact absurd e (by decide)
     ·rw[this] at e; exact absurd e (by decide)
  ·exact FM.same h h2 _
 ·exact FM.same h h2 _
theorem M5 (h:Inv m) (h2:Inv2 m) (b c x y x' y':Int):FM m (Ce m b c x y x' y'):=by
 unfold Ce
 split
 ·rename_i hc
  split
  ·rename_i hu
   have hlen:(Vz m.bls b.toNat (x',y') c.toNat 0).length=m.bls.length:=G1 _ _ _ _ _
   refine Uz h h2 (by rw[List.length_set,hlen]) fun j hj q hq _ _=>?_
   have hout:q<b.toNat∨b.toNat+c.toNat≤q:=by
    apply Classical.byContradiction
    intro hn
    have:=bQ hu (q-b.toNat) (by omega) (by omega)
    rw[show b.toNat+(q-b.toNat)=q from by omega] at this
    rw[this] at hq
    exact hq rfl
   rw[List.getD_eq_getElem?_getD,List.getElem?_set,if_neg (by omega),← List.getD_eq_getElem?_getD,ae _ _ _ _ _ _ (by omega)]
  ·exact FM.same h h2 _
 ·exact FM.same h h2 _
end Go.Proofs.YtlaplcglpnlieaaGreat
end
section
namespace Go.Proofs.YtlaplcglpnlieaaGreat
open Go Go.AX
noncomputable local instance uy:AK:=Au
local instance tn:Kn:=⟨true⟩
variable {σ:Aa} {i:C8} {m:HM}
theorem pz (n:Nat):rep n [Value.int .u64 0]=rowOf (List.replicate n 0#64):=by
 simp only[rep,rowOf,List.map_replicate]
 induction n with
 | zero=>rfl
 | succ n ih=>rw[List.replicate_succ,List.flatten_cons,ih,List.replicate_succ]; rfl
theorem kD (n:Nat):rep n [Value.int .i64 0,.int .i64 0]=C3 (List.replicate n (0,0)):=by
 simp only[rep]
 induction n with
 | zero=>rfl
 | succ n ih=>rw[List.replicate_succ,List.flatten_cons,ih,List.replicate_succ]; rfl
theorem Zd (k:Nat) {e:Nat} (h0:0<e) (h1:e≤4096) (σ:Aa):∃ τ tb wb,Me (k+4) (e:Int) 1 σ=some (.tuple #[.pointer (some ⟨tb,0,none⟩),.int .i64 0],σ++τ) ∧
  EG (σ++τ) tb wb e 1 (List.replicate ((e+63)/64) 0#64)∧σ.length≤tb∧σ.length≤wb∧tb≠wb:=by
 rw[VP,Wi]
 simp only[show decide ((e:Int)<1)=false from decide_eq_false (by omega),cond_false,show decide ((e:Int)>4096)=false from decide_eq_false (by omega),Option.bind_some,An]
 rw[LC,JP,NH,Md,LD,JQ]
 simp only[show decide ((0:Int)<((4:Nat):Int))=true from rfl,cond_true,show ((0:Int)≤0∧(0:Int)<((4:Nat):Int))=True from by simp,if_true,Option.bind_some,Int.toNat_zero,Nat.zero_mul,Nat.add_zero,LS,List.getElem?_cons_zero,Ao,BEq.rfl,DZ,reduceCtorEq,if_false,As,show decide ((0:Int)≥0)=true from rfl,Bool.not_true,cond_false]
 have e1:Ac ((e:Int)*1)=(e:Int):=by rw[Ad (by unfold AY; omega)]; omega
 have e2:Ac ((e:Int)+64)=((e+64:Nat):Int):=Ad (by unfold AY; omega)
 have e3:Ac (((e+64:Nat):Int)-1)=((e+63:Nat):Int):=by rw[Ad (by unfold AY; omega)]; omega
 have e4:((e+63:Nat):Int).tdiv 64=(((e+63)/64:Nat):Int):=rfl
 have e5:Ac (((e+63)/64:Nat):Int)=(((e+63)/64:Nat):Int):=Ad (by unfold AY; omega)
 simp only[e1,e2,e3,e4,e5,show ((64:Int)=0)=False from by simp,if_false]
 rw[if_pos (by omega)]
 simp only[Int.toNat_natCast,pz]
 obtain ⟨μ,hμ⟩:∃ μ,σ++[AP.cells [Value.int .i64 1,.int .i64 2,.int .i64 4,.int .i64 8] Bq true]=μ:=⟨_,rfl⟩
 have hl:μ.length=σ.length+1:=by rw[← hμ]; simp
 rw[hμ]
 refine ⟨[AP.cells [Value.int .i64 1,.int .i64 2,.int .i64 4,.int .i64 8] Bq true,.cells (rowOf (List.replicate ((e+63)/64) 0#64)) BI true,.cells [.int .i64 (e:Int),.int .i64 1,.slice (some ⟨σ.length+1,0,none⟩) ((e+63)/64) ((e+63)/64)] LP true],σ.length+2,σ.length+1, ?_, ?_,by omega,by omega,by omega⟩
 ·rw[← hμ]; simp
 ·refine ⟨?_, ?_,by simp,h0,h1,.inl rfl⟩
  ·rw[List.length_replicate,List.getElem?_append_right (by omega),show σ.length+2-σ.length=2 from by omega]; rfl
  ·rw[List.getElem?_append_right (by omega),show σ.length+1-σ.length=1 from by omega]; rfl
def Oh (n:Nat):HM:={ bls:=List.replicate n (0,0),wds:=List.replicate (64*n) 0,stw:=List.replicate ((32*n+63)/64) 0#64,pnw:=List.replicate ((32*n+63)/64) 0#64,pl:=[],fw:=[],births:=0 }
theorem Inv.new (n:Nat):Inv (Oh n):=by
 have hs:∀ j,¬ Start (Oh n) j:=by
  rintro j ⟨_,h⟩
  have:Gc 1 (Oh n).stw j=0:=T6 _ _ _
  omega
 exact ⟨fun j h=>absurd h (hs j),fun j h=>absurd h (hs j),fun j _ h=>absurd h (hs j),fun j h=>absurd h (hs j),fun id a h=>by simp[Oh,getM] at h,Int.le_refl _,trivial⟩
theorem Inv2.new (n:Nat):Inv2 (Oh n):=by
 have hs:∀ j,¬ Start (Oh n) j:=by
  rintro j ⟨_,h⟩
  have:Gc 1 (Oh n).stw j=0:=T6 _ _ _
  omega
 refine ⟨fun j h=>absurd h (hs j),fun a _=>?_⟩
 show (List.replicate (64*n) (0:Int)).getD a 0=0
 rw[List.getD_eq_getElem?_getD,List.getElem?_replicate]
 split <;> rfl
theorem oK (k:Nat) (b:Int) (hb:¬ (2≤b∧b≤64)) (σ:Aa):G7 (k+1) b σ=some (.tuple #[.pointer none,.int .i64 1],σ):=by
 rw[Rw,SN]
 by_cases h0:b<2
 ·simp only[decide_eq_true h0,cond_true,Option.bind_some]
 ·simp only[decide_eq_false h0,cond_false,Option.bind_some,show decide (b>64)=true from decide_eq_true (by omega),cond_true]
theorem qj (k:Nat) {n:Nat} (h2:2≤n) (h64:n≤64) (σ:Aa):∃ σ' i,G7 (k+5) (n:Int) σ=some (.tuple #[.pointer (En i),.int .i64 0],σ')∧Ag σ' i (Oh n)∧(∀ j ∈ i.l,σ.length≤j)∧BG i σ σ':=by
 rw[Rw,SN]
 have e1:Ac ((n:Int)*64)=((64*n:Nat):Int):=by rw[Ad (by unfold AY; omega)]; omega
 simp only[show decide ((n:Int)<2)=false from decide_eq_false (by omega),cond_false,show decide ((n:Int)>64)=false from decide_eq_false (by omega),Option.bind_some,An,e1]
 rw[if_pos (by omega),if_pos (by omega)]
 simp only[Int.toNat_natCast,kD,gS]
 obtain ⟨o,ho⟩:∃ o:List AP,[AP.cells (C3 (List.replicate n (0,0))) A7 true,.cells (CS (List.replicate (64*n) 0)) Bq true,.map [],.map [],
  .cells [.slice (some ⟨σ.length,0,none⟩) n n,.slice (some ⟨σ.length+1,0,none⟩) (64*n) (64*n),.pointer none,.pointer none,.map (some (σ.length+2)),.map (some (σ.length+3)),.int .i64 0] Ey true]=o:=⟨_,rfl⟩
 have hmem:(σ++[AP.cells (C3 (List.replicate n (0,0))) A7 true]++[AP.cells (CS (List.replicate (64*n) 0)) Bq true]++[AP.map []]++[AP.map []] ++
   [AP.cells [.slice (some ⟨σ.length,0,none⟩) n n,.slice (some ⟨(σ++[AP.cells (C3 (List.replicate n (0,0))) A7 true]).length,0,none⟩) (64*n) (64*n),.pointer none,.pointer none,.map (some (σ++[AP.cells (C3 (List.replicate n (0,0))) A7 true]++[AP.cells (CS (List.replicate (64*n) 0)) Bq true]).length),.map (some (σ++[AP.cells (C3 (List.replicate n (0,0))) A7 true]++[AP.cells (CS (List.replicate (64*n) 0)) Bq true]++[AP.map []]).length),.int .i64 0] Ey true])=σ++o:=by
  rw[← ho]; simp
 have hh:(σ++[AP.cells (C3 (List.replicate n (0,0))) A7 true]++[AP.cells (CS (List.replicate (64*n) 0)) Bq true]++[AP.map []]++[AP.map []]).length=σ.length+4:=by simp
 rw[hmem,hh]
 have hol:o.length=5:=by rw[← ho]; rfl
 have g:∀ q,q<5→(σ++o)[σ.length+q]?=o[q]?:=fun q _=>by rw[List.getElem?_append_right (by omega)]; congr 1; omega
 have gd:∀ (τ:Aa) q,q<5→(σ++o++τ)[σ.length+q]?=o[q]?:=fun τ q hq=>by rw[List.getElem?_append_left (by simp; omega)]; exact g q hq
 have l1:Ee (σ++o) (σ.length+4) 1=some (some ⟨σ.length+1,0,none⟩,64*n,64*n):=by
  simp only[Ee,Gs,g 4 (by omega)]; rw[← ho]; rfl
 have e2:((64*n:Nat):Int).tdiv 2=((32*n:Nat):Int):=by
  rw[show ((64*n:Nat):Int).tdiv 2=(((64*n)/2:Nat):Int) from rfl]; omega
 have e3:Ac ((32*n:Nat):Int)=((32*n:Nat):Int):=Ad (by unfold AY; omega)
 obtain ⟨τ1,st,sw,hN1,hT1,a1,a2,a3⟩:=Zd k (e:=32*n) (by omega) (by omega) (σ++o)
 simp only[Nat.zero_add,l1,Option.bind_some,show ((2:Int)=0)=False from by simp,if_false,e2,e3,hN1,Vo]
 have lo:(σ++o).length=σ.length+5:=by simp[hol]
 rw[lo] at a1 a2
 obtain ⟨c,hc⟩:∃ c,[Value.slice (some ⟨σ.length,0,none⟩) n n,.slice (some ⟨σ.length+1,0,none⟩) (64*n) (64*n),.pointer none,.pointer none,.map (some (σ.length+2)),.map (some (σ.length+3)),.int .i64 0]=c:=⟨_,rfl⟩
 have o4:o[4]?=some (.cells c Ey true):=by rw[← ho,← hc]; rfl
 obtain ⟨μ1,hμ1⟩:∃ μ1,σ++o++τ1=μ1:=⟨_,rfl⟩
 have b1:∀ q,q<5→μ1[σ.length+q]?=o[q]?:=fun q hq=>hμ1 ▸ gd τ1 q hq
 have L1:σ.length+5≤μ1.length:=by rw[← hμ1,List.length_append,lo]; omega
 rw[hμ1] at hT1 ⊢
 have s1:Gz μ1 (σ.length+4) 2 (.pointer (some ⟨st,0,none⟩))=some (μ1.set (σ.length+4) (.cells (c.set 2 (.pointer (some ⟨st,0,none⟩))) Ey true)):=by
  simp only[Gz,b1 4 (by omega),o4]
  rw[if_pos (by rw[← hc]; simp)]
 obtain ⟨μ2,hμ2⟩:∃ μ2,μ1.set (σ.length+4) (.cells (c.set 2 (.pointer (some ⟨st,0,none⟩))) Ey true)=μ2:=⟨_,rfl⟩
 rw[hμ2] at s1
 have b2:∀ q,q≠σ.length+4→μ2[q]?=μ1[q]?:=fun q hq=>by rw[← hμ2]; exact List.getElem?_set_ne (Ne.symm hq)
 have b2h:μ2[σ.length+4]?=some (.cells (c.set 2 (.pointer (some ⟨st,0,none⟩))) Ey true):=by rw[← hμ2]; exact List.getElem?_set_self (by omega)
 have L2:μ2.length=μ1.length:=by rw[← hμ2]; simp
 have l2:Ee μ2 (σ.length+4) 1=some (some ⟨σ.length+1,0,none⟩,64*n,64*n):=by
  simp only[Ee,Gs,b2h]; rw[← hc]; rfl
 obtain ⟨τ2,pn,pw,hN2,hT2,p1,p2,p3⟩:=Zd k (e:=32*n) (by omega) (by omega) μ2
 have t1:=hT1.lt
 obtain ⟨μ3,hμ3⟩:∃ μ3,μ2++τ2=μ3:=⟨_,rfl⟩
 have b3:∀ q,q<μ2.length→μ3[q]?=μ2[q]?:=fun q hq=>by rw[← hμ3]; exact List.getElem?_append_left hq
 have L3:μ2.length≤μ3.length:=by rw[← hμ3]; simp
 rw[hμ3] at hN2 hT2
 have s3:Gz μ3 (σ.length+4) 3 (.pointer (some ⟨pn,0,none⟩))=some (μ3.set (σ.length+4) (.cells ((c.set 2 (.pointer (some ⟨st,0,none⟩))).set 3 (.pointer (some ⟨pn,0,none⟩))) Ey true)):=by
  simp only[Gz,b3 (σ.length+4) (by omega),b2h]
  rw[if_pos (by rw[← hc]; simp)]
 obtain ⟨μ4,hμ4⟩:∃ μ4,μ3.set (σ.length+4) (.cells ((c.set 2 (.pointer (some ⟨st,0,none⟩))).set 3 (.pointer (some ⟨pn,0,none⟩))) Ey true)=μ4:=⟨_,rfl⟩
 rw[hμ4] at s3
 have b4:∀ q,q≠σ.length+4→μ4[q]?=μ3[q]?:=fun q hq=>by rw[← hμ4]; exact List.getElem?_set_ne (Ne.symm hq)
 have b4h:μ4[σ.length+4]?=some (.cells ((c.set 2 (.pointer (some ⟨st,0,none⟩))).set 3 (.pointer (some ⟨pn,0,none⟩))) Ey true):=by rw[← hμ4]; exact List.getElem?_set_self (by omega)
 have L4:μ4.length=μ3.length:=by rw[← hμ4]; simp
 have b:∀ q,q<μ2.length→q≠σ.length+4→μ4[q]?=μ1[q]?:=fun q h1 h2=>(b4 q h2).trans ((b3 q h1).trans (b2 q h2))
 have bo:∀ q,q<4→μ4[σ.length+q]?=o[q]?:=fun q hq=>(b _ (by omega) (by omega)).trans (b1 q (by omega))
 simp only[s1,Option.bind_some,l2,e2,e3,hN2,Vo,s3]
 refine ⟨μ4,⟨σ.length+4,σ.length,σ.length+1,st,sw,pn,pw,σ.length+2,σ.length+3⟩,rfl, ?_, ?_, ?_⟩
 ·refine ⟨?_, ?_, ?_, ?_, ?_, ?_, ?_, ?_, ?_, ?_, ?_, ?_⟩
  ·rw[b4h,← hc]
   simp[Oh]
  ·show μ4[σ.length]?=_
   have:=bo 0 (by omega)
   rw[Nat.add_zero] at this
   rw[this,← ho]; rfl
  ·show μ4[σ.length+1]?=_
   rw[bo 1 (by omega),← ho]; rfl
  ·show EG μ4 st sw (32*(List.replicate n ((0:Int),(0:Int))).length) 1 _
   rw[List.length_replicate]
   exact hT1.same (b _ (by omega) (by omega)) (b _ (by omega) (by omega))
  ·show EG μ4 pn pw (32*(List.replicate n ((0:Int),(0:Int))).length) 1 _
   rw[List.length_replicate]
   exact hT2.same (b4 _ (by omega)) (b4 _ (by omega))
  ·show μ4[σ.length+2]?=_
   rw[bo 2 (by omega),← ho]; rfl
  ·show μ4[σ.length+3]?=_
   rw[bo 3 (by omega),← ho]; rfl
  ·simpa [Oh] using h2
  ·simpa [Oh] using h64
  ·simp[Oh]
  ·simp only[C8.l,List.nodup_cons,List.mem_cons,List.not_mem_nil,or_false,not_or,List.nodup_nil,not_false_eq_true,and_true]
   have:=hT2.lt
   refine ⟨⟨?_, ?_, ?_, ?_, ?_, ?_, ?_, ?_⟩,⟨?_, ?_, ?_, ?_, ?_, ?_, ?_⟩,⟨?_, ?_, ?_, ?_, ?_, ?_⟩,⟨?_, ?_, ?_, ?_, ?_⟩,⟨?_, ?_, ?_, ?_⟩,⟨?_, ?_, ?_⟩,⟨?_, ?_⟩, ?_⟩ <;> omega
  ·intro a
   show AY ((List.replicate (64*n) (0:Int)).getD a 0)
   rw[List.getD_eq_getElem?_getD,List.getElem?_replicate]
   split <;> (unfold AY; decide)
 ·intro j hj
  simp only[C8.l,List.mem_cons,List.not_mem_nil,or_false] at hj
  omega
 ·refine ⟨by omega,fun j hj hne=>?_⟩
  rw[b j (by omega) (by omega),← hμ1,List.append_assoc,List.getElem?_append_left hj]
end Go.Proofs.YtlaplcglpnlieaaGreat
end
section
namespace Go.Proofs.YtlaplcglpnlieaaGreat
open Go Go.AX
noncomputable local instance uz:AK:=Au
local instance tp:Kn:=⟨true⟩
variable {σ:Aa} {i:C8} {m:HM}
structure Vu where
 k:Int
 a:Int
 b:Int
 c:Int
 r:Int
 d:Int
 s:Int
def Vu.cells (x:Vu):List Value:=[.int .i64 x.k,.int .i64 x.a,.int .i64 x.b,.int .i64 x.c,.int .i64 x.r,.int .i64 x.d,.int .i64 x.s]
def Vu.ok (x:Vu):Prop:=AY x.k∧AY x.a∧AY x.b∧AY x.c∧AY x.r∧AY x.d∧AY x.s
theorem Rr.after {μ:Aa} {mm:Option (Value × Aa)} {r:Int × HM} (h:Rr mm μ i r) (hk:BG i σ μ):Rr mm σ i r:=by
 obtain ⟨σ',e,h1,h2⟩:=h
 exact ⟨σ',e,h1,hk.trans h2⟩
def gb (m:HM) (x:Vu):Int × HM:=
 if x.k=0 then Ce m x.a 1 1 x.b 0 0 else if x.k=1 then Ce m x.a x.b 2 x.c 3 x.c else if x.k=2 then HP m x.a else if x.k=3 then Nw m x.a x.b else
 if x.k=4 then (Cw m x.a x.r x.d x.s).2 else if x.k=5 then P2 m x.a else if x.k=6 then dc m x.a x.b else if x.k=7 then Vr m x.a x.b x.c else
 if x.k=8 then S6 m x.a x.b x.c else if x.k=9 then dp m x.a x.b else if x.k=10 then cl m x.a 1 else if x.k=11 then cl m x.a 0 else
 if x.k=12 then (0,{ m with fw:=[] }) else (0,m)
theorem KO {c:Prop} [Decidable c] {r r':Int × HM} (h:c→FM m r) (h':¬ c→FM m r'):FM m (if c then r else r'):=by
 split
 ·exact h ‹_›
 ·exact h' ‹_›
theorem gf (h:Inv m) (h2:Inv2 m) (hS:Sh m) (x:Vu):FM m (gb m x):=by
 unfold gb
 refine KO (fun _=>M5 h h2 _ _ _ _ _ _) fun _=>?_
 refine KO (fun _=>M5 h h2 _ _ _ _ _ _) fun _=>?_
 refine KO (fun _=>VU h h2 _) fun _=>?_
 refine KO (fun _=>YZ h h2 _ _) fun _=>?_
 refine KO (fun _=>Rj h h2 hS _ _ _ _) fun _=>?_
 refine KO (fun _=>aL h h2 hS _) fun _=>?_
 refine KO (fun _=>jz h h2 hS _ _) fun _=>?_
 refine KO (fun _=>eX h h2 _ _ _) fun _=>?_
 refine KO (fun _=>cm h h2 _ _ _) fun _=>?_
 refine KO (fun _=>jC h h2 _ _) fun _=>?_
 refine KO (fun _=>di h h2 _ _) fun _=>?_
 refine KO (fun _=>di h h2 _ _) fun _=>?_
 refine KO (fun _=>gp h h2) fun _=>?_
 exact FM.same h h2 _
def mN:List Vu→List Value
 | []=>[]
 | x::l=>x.cells++mN l
def iE (σ:Aa) (p:Option Addr) (l:List Vu):Prop:=l=[] ∨ ∃ ab T rw,p=some ⟨ab,0,none⟩∧σ[ab]?=some (.cells (mN l) T rw)
theorem iE.Wr {σ σ':Aa} {p:Option Addr} {l:List Vu} (h:iE σ p l) (hk:BG i σ σ') (hi:l≠[] → ∀ a,p=some a→a.block ∉ i.l):iE σ' p l:=by
 by_cases hl:l=[]
 ·exact .inl hl
 rcases h with h | ⟨ab,T,rw',rfl,h⟩
 ·exact .inl h
 ·exact .inr ⟨ab,T,rw',rfl,(hk.same _ (Ae h) (hi hl _ rfl)).trans h⟩
def runM (m:HM) (l:List Vu):HM:=l.foldl (fun m x=>(gb m x).2) m
end Go.Proofs.YtlaplcglpnlieaaGreat
end
section
namespace Go.Proofs.YtlaplcglpnlieaaGreat
open Go Go.AX
noncomputable local instance uo:AK:=Au
local instance te:Kn:=⟨true⟩
variable {σ:Aa} {i:C8} {m:HM}
def Gd (l:List Bool):List Value:=l.map Value.bool
theorem qB {σ:Aa} {b o:Nat} {l:List Bool} {T:TypeId} (h:σ[b]?=some (.cells (Gd l) T true)) (ho:o<l.length):Wu σ b o=some (l.getD o false):=by
 simp[Wu,Gs,h,Gd,DY,List.getElem?_eq_getElem ho]
theorem qP {σ:Aa} {b o:Nat} {l:List Bool} {T:TypeId} (v:Bool) (h:σ[b]?=some (.cells (Gd l) T true)) (ho:o<l.length):Gz σ b o (.bool v)=some (σ.set b (.cells (Gd (l.set o v)) T true)):=by
 have:o<(Gd l).length:=by simpa [Gd] using ho
 simp only[Gz,h,this,if_true]
 simp[Gd,List.map_set]
theorem lB (l:List Bool) (a b:Nat) (v:Bool) (ha:a<l.length):(l.set a v).getD b false=if b=a then v else l.getD b false:=by
 simp only[List.getD_eq_getElem?_getD,List.getElem?_set]
 by_cases h:a=b
 ·subst h; simp[ha]
 ·rw[if_neg h,if_neg (fun e=>h e.symm)]
theorem Jv {lo n j:Nat}:j ∈ Cj m lo n↔lo≤j∧j<lo+n∧Gc 1 m.stw j=1:=by
 unfold Cj
 rw[List.mem_filter,List.mem_range'_1]
 simp[and_assoc]
theorem pg {j:Nat}:j ∈ Cj m 0 (32*m.bls.length)↔Start m j:=by
 rw[Jv]; unfold Start; simp
theorem X4 (lo n:Nat):(Cj m lo n).Nodup:=(List.nodup_range' (step:=1) (by decide)).filter _
theorem SI (l:List Nat) {x:Nat} (hx:x<l.length):(E8 l).getD x 0=((2*l[x]:Nat):Int):=by
 simp[E8,List.getElem?_eq_getElem hx]
theorem od (n:Nat):rep n [Value.bool false]=Gd (List.replicate n false):=by
 simp only[rep,Gd,List.map_replicate]
 induction n with
 | zero=>rfl
 | succ n ih=>rw[List.replicate_succ,List.flatten_cons,ih,List.replicate_succ]; rfl
end Go.Proofs.YtlaplcglpnlieaaGreat
end
section
namespace Go.Proofs.YtlaplcglpnlieaaGreat
open Go Go.AX
noncomputable local instance uv:AK:=Au
local instance ti:Kn:=⟨true⟩
variable {σ:Aa} {i:C8} {m:HM}
theorem Mx (k:Nat) (h:Ag σ i m):AU (k+2) (En i) σ=some (.int .i64 ((m.bls.length:Nat):Int),σ):=by
 rw[NB,LY,LJ _ h]
 simp only[Option.bind_some,As,Bool.not_true,cond_false,Nat.zero_add,Nat.add_zero,h.RK]
theorem mG (k:Nat) (h:Ag σ i m) {b:Nat} (hb:b<m.bls.length):E9 (k+3) (En i) (b:Int) σ=some (.int .i64 (m.bls.getD b (0,0)).1,σ):=by
 rw[OE,MS]
 have q1:decide ((b:Int)<0)=false:=decide_eq_false (by omega)
 have q2:decide ((b:Int)≥((m.bls.length:Nat):Int))=false:=decide_eq_false (by omega)
 simp only[q1,cond_false,Mx _ h,Option.bind_some,Ao,q2,Nat.zero_add,Nat.add_zero,h.RK]
 rw[if_pos (by omega)]
 simp only[Option.bind_some,Int.toNat_natCast,Nat.zero_add,(h.Wu hb).1]
theorem fE (k:Nat) (h:Ag σ i m) {b:Nat} (hb:b<m.bls.length):Co (k+3) (En i) (b:Int) σ=some (.int .i64 (m.bls.getD b (0,0)).2,σ):=by
 rw[K7,JX]
 have q1:decide ((b:Int)<0)=false:=decide_eq_false (by omega)
 have q2:decide ((b:Int)≥((m.bls.length:Nat):Int))=false:=decide_eq_false (by omega)
 simp only[q1,cond_false,Mx _ h,Option.bind_some,Ao,q2,Nat.zero_add,Nat.add_zero,h.RK]
 rw[if_pos (by omega)]
 simp only[Option.bind_some,Int.toNat_natCast,Nat.zero_add,(h.Wu hb).2]
def Hg (m:HM) (j:Nat):Int:=(m.wds.getD (2*j+1) 0).tdiv 4096
theorem Ow (m:HM) (lo n:Nat):(Cj m lo n).length≤n:=by
 have:(Cj m lo n).length≤(List.range' lo n).length:=List.length_filter_le _ _
 simpa using this
structure Gk (σ:Aa) (s:EF) (σ':Aa) (s':EF):Prop where
 len:σ.length≤σ'.length
 same:∀ q,q<σ.length→(∀ a,s.1=some a→a.block≠q)→σ'[q]?=σ[q]?
 new:s'=s ∨ ∀ a,s'.1=some a→σ.length≤a.block
theorem Gk.refl (σ:Aa) (s:EF):Gk σ s σ s:=⟨Nat.le_refl _,fun _ _ _=>rfl,.inl rfl⟩
theorem Gk.app (σ:Aa) (s:EF) (τ:Aa):Gk σ s (σ++τ) s:=⟨by simp,fun q hq _=>List.getElem?_append_left hq,.inl rfl⟩
theorem Gk.trans {a b c:Aa} {s t u:EF} (h:Gk a s b t) (g:Gk b t c u):Gk a s c u:=by
 refine ⟨Nat.le_trans h.len g.len,fun q hq hn=>?_, ?_⟩
 ·refine (g.same q (Nat.lt_of_lt_of_le hq h.len) fun x hx=>?_).trans (h.same q hq hn)
  rcases h.new with rfl | hw
  ·exact hn x hx
  ·have:=hw x hx; omega
 ·rcases g.new with rfl | hw
  ·exact h.new
  ·exact .inr fun x hx=>Nat.le_trans h.len (hw x hx)
def rQ (i:C8) (s:EF):Prop:=∀ a,s.1=some a→a.block ∉ i.l
theorem Gk.heap {σ':Aa} {s s':EF} (g:Gk σ s σ' s') (h:Ag σ i m) (ho:rQ i s):Ag σ' i m∧rQ i s':=by
 refine ⟨h.Dd fun j hj=>g.same j (h.lt j hj) fun a ha e=>ho a ha (e ▸ hj), ?_⟩
 rcases g.new with rfl | hw
 ·exact ho
 ·intro a ha hm
  have:=hw a ha
  have:=h.lt _ hm
  omega
theorem Gk.other {σ':Aa} {s s':EF} (g:Gk σ s σ' s') {q:Nat} {o:AP} (h:σ[q]?=some o) (hs:∀ a,s.1=some a→a.block≠q):σ'[q]?=some o ∧ ∀ a,s'.1=some a→a.block≠q:=by
 have hq:=Ae h
 refine ⟨(g.same q hq hs).trans h, ?_⟩
 rcases g.new with rfl | hw
 ·exact hs
 ·intro a ha e
  have:=hw a ha
  omega
def Q7 (m:HM) (a n:Nat):List Int:=(List.range' a n).map fun x=>m.wds.getD x 0
theorem Sz (m:HM) (a n:Nat):Q7 m a (n+1)=m.wds.getD a 0::Q7 m (a+1) n:=by simp[Q7,List.range'_succ]
theorem Vb (m:HM) (a n:Nat):(Q7 m a n).length=n:=by simp[Q7]
theorem Gk.behind {σ σ':Aa} {τ:Aa} {s s':EF} (g:Gk (σ++τ) s σ' s') (hs:∀ a,s.1=some a→σ.length≤a.block):(∃ τ',σ'=σ++τ') ∧ ∀ a,s'.1=some a→σ.length≤a.block:=by
 refine ⟨⟨σ'.drop σ.length, ?_⟩, ?_⟩
 ·have hlen:=g.len
  simp at hlen
  apply List.ext_getElem?
  intro q
  by_cases hq:q<σ.length
  ·rw[List.getElem?_append_left hq,g.same q (by simp; omega) (fun a ha e=>by have:=hs a ha; omega),List.getElem?_append_left hq]
  ·rw[List.getElem?_append_right (by omega),List.getElem?_drop]
   congr 1; omega
 ·rcases g.new with rfl | hw
  ·exact hs
  ·intro a ha
   have:=hw a ha
   simp at this; omega
end Go.Proofs.YtlaplcglpnlieaaGreat
end
section
namespace Go.Proofs.YtlaplcglpnlieaaGreat
open Go Go.AX
noncomputable local instance u5:AK:=Au
local instance tq:Kn:=⟨true⟩
variable {σ:Aa} {i:C8} {m:HM}
theorem sU:HX P A7=some 2:=by kernel_rfl
theorem sI:bytesOf P A7=some 16:=by kernel_rfl
theorem sW:FL P A7=some (.agg #[.int .i64 0,.int .i64 0]):=by kernel_rfl
theorem sV:HX P IY=some 1:=by kernel_rfl
theorem sJ:bytesOf P IY=some 8:=by kernel_rfl
theorem sX:FL P IY=some (.int .u64 0):=by kernel_rfl
theorem sK (a:Addr) (n c:Nat):SE P VY (.slice (some a) n c) (.slice none 0 0)=some false:=by kernel_rfl
theorem sM (a:Addr) (n c:Nat):SE P ow (.slice (some a) n c) (.slice none 0 0)=some false:=by kernel_rfl
theorem sL (a:Addr) (n c:Nat):SE P dF (.slice (some a) n c) (.slice none 0 0)=some false:=by kernel_rfl
theorem Wh {E:TypeId} {s by_:Nat} {z:Value} (hs:HX P E=some s) (hb:bytesOf P E=some by_) (hz:FL P E=some z) (hz1:IM z=false) (hz2:z.cells.size=s) (hs0:0<s) (hb0:0<by_) (hb1:by_≤1000)
  (σ:Aa) (p:Option Addr) (n c:Nat) (hn:0<n) (hn1:n≤100000) (row:List Value) (hf:F5 (σ++[.cells [] E true]) s p n=some row):
  Bn P E (some ⟨σ.length,0,some 0⟩,0,0) (p,n,c) (σ++[.cells [] E true])=some ((some ⟨σ.length+1,0,none⟩,n,n),σ++[AP.cells [] E true,.cells row E true]):=by
 unfold Bn SK
 have h1:(¬ (IM z=false∧some s=some z.cells.size∧0<z.cells.size))=False:=by
  rw[hz1,hz2]; simp[hs0]
 have r:Q4 (0+n) by_∧0<by_:=by
  unfold Q4
  have:(0+n)*by_≤100000*1000:=Nat.mul_le_mul (by omega) hb1
  refine ⟨⟨by omega,by omega⟩,hb0⟩
 have e1:elemAt (σ++[.cells [] E true]) σ.length=some E:=by simp[elemAt]
 have e2:Ue (σ++[.cells [] E true]) σ.length 0 (0*s)=some []:=by simp[Ue]
 have e3:IZ (σ++[.cells [] E true]) σ.length=true:=by simp[IZ]
 simp only[hs,hb,hz,hf,Option.bind_some,h1,if_false,show ¬ (0+n≤0) from by omega,r,and_self,if_true,Lp,Option.isSome_some,cond_true,pC]
 simp
theorem kY (k:Nat) (h:Ag σ i m):Ez (k+1) (some ⟨i.bl,0,none⟩,m.bls.length,m.bls.length) σ=some (.slice (some ⟨σ.length+1,0,none⟩) m.bls.length m.bls.length,σ++[AP.cells [] A7 true,.cells (C3 m.bls) A7 true]):=by
 have ht:=h.nt
 have hn:=h.nb
 rw[Pg,KW]
 have h1:=h.app [AP.cells [] A7 true]
 have e:=Wh sU sI sW rfl rfl (by decide) (by decide) (by decide) σ (some ⟨i.bl,0,none⟩) m.bls.length m.bls.length (by omega) (by omega) (C3 m.bls) (by
  simp only[F5,Ue,h1.bl,EL,Nat.zero_add,Nat.mul_comm 2,Nat.le_refl,if_true,List.drop_zero]
  rw[List.take_of_length_le (by rw[EL]; omega)])
 simp only[sK,Option.bind_some,cond_false,An,e]
theorem lf (k:Nat) (h:Ag σ i m):Hf (k+1) (some ⟨i.wd,0,none⟩,m.wds.length,m.wds.length) σ=some (.slice (some ⟨σ.length+1,0,none⟩) m.wds.length m.wds.length,σ++[AP.cells [] Bq true,.cells (CS m.wds) Bq true]):=by
 have ht:=h.nt
 have hn:=h.nb
 have hw:=h.wl
 rw[Ua,Qd]
 have h1:=h.app [AP.cells [] Bq true]
 have e:=Wh ss rY sx rfl rfl (by decide) (by decide) (by decide) σ (some ⟨i.wd,0,none⟩) m.wds.length m.wds.length (by omega) (by omega) (CS m.wds) (by
  simp only[F5,Ue,h1.wd,GI,Nat.zero_add,Nat.mul_one,Nat.le_refl,if_true,List.drop_zero]
  rw[List.take_of_length_le (by rw[GI]; omega)])
 simp only[sM,Option.bind_some,cond_false,An,e]
theorem kZ (k:Nat) {tb wb e w:Nat} {ws:List (BitVec 64)} (h:EG σ tb wb e w ws):FN (k+1) (some ⟨wb,0,none⟩,ws.length,ws.length) σ=some (.slice (some ⟨σ.length+1,0,none⟩) ws.length ws.length,σ++[AP.cells [] IY true,.cells (rowOf ws) IY true]):=by
 have hl:=h.len
 have hp:=h.pos
 have ht:=h.top
 have hwl:0<ws.length∧ws.length≤100000:=by
  rw[hl]
  rcases h.okw with rfl | rfl | rfl | rfl <;> omega
 rw[Rx,N7]
 have h1:=h.app [AP.cells [] IY true]
 have hrl:(rowOf ws).length=ws.length:=by simp[rowOf]
 have e:=Wh sV sJ sX rfl rfl (by decide) (by decide) (by decide) σ (some ⟨wb,0,none⟩) ws.length ws.length hwl.1 hwl.2 (rowOf ws) (by
  simp only[F5,Ue,h1.row,hrl,Nat.zero_add,Nat.mul_one,Nat.le_refl,if_true,List.drop_zero]
  rw[List.take_of_length_le (by rw[hrl]; omega)])
 simp only[sL,Option.bind_some,cond_false,An,e]
theorem Oj (σ τ:Aa) {ρ:Type} (x:Option ρ):FD σ (σ++τ) x=x:=eE σ τ x
theorem cD (k:Nat) {tb wb e w:Nat} {ws:List (BitVec 64)} (h:EG σ tb wb e w ws):
  ∃ τ,He (k+2) (some ⟨tb,0,none⟩) σ=some (.pointer (some ⟨σ.length+2,0,none⟩),σ++τ)∧τ.length=3∧EG (σ++τ) (σ.length+2) (σ.length+1) e w ws:=by
 refine ⟨[AP.cells [] IY true,.cells (rowOf ws) IY true,.cells [.int .i64 (e:Int),.int .i64 (w:Int),.slice (some ⟨σ.length+1,0,none⟩) ws.length ws.length] LP true], ?_,rfl, ?_, ?_,h.len,h.pos,h.top,h.okw⟩
 ·rw[TZ,Qc]
  simp only[Xm _ h,Option.bind_some,As,Bool.not_true,cond_false,Nat.zero_add,Nat.add_zero,h.rz,h.qC,h.sg,kZ _ h,Oj,Hm,An]
  simp
 ·rw[List.getElem?_append_right (by omega),show σ.length+2-σ.length=2 from by omega]; rfl
 ·rw[List.getElem?_append_right (by omega),show σ.length+1-σ.length=1 from by omega]; rfl
theorem cC (k:Nat) {r:Nat} {es:List (Int × Value)} (h:σ[r]?=some (.map es)):IG (k+1) (some r) σ=some (.map (some σ.length),σ++[.map es]):=by
 rw[V1]
 simp[XS,Sp,h]
theorem m8 (k:Nat) (h:Ag σ i m):∃ τ i',Gw (k+3) (En i) σ=some (.pointer (En i'),σ++τ)∧Ag (σ++τ) i' m ∧ ∀ j ∈ i'.l,σ.length≤j:=by
 rw[U1,QS]
 have e1:=kY (k+1) h
 obtain ⟨τ1,hτ1⟩:∃ τ1,[AP.cells [] A7 true,.cells (C3 m.bls) A7 true]=τ1:=⟨_,rfl⟩
 rw[hτ1] at e1
 obtain ⟨σ1,hσ1⟩:∃ σ1,σ++τ1=σ1:=⟨_,rfl⟩
 have h1:Ag σ1 i m:=hσ1 ▸ h.app τ1
 have l1:σ1.length=σ.length+2:=by rw[← hσ1,← hτ1]; simp
 have e2:=lf (k+1) h1
 obtain ⟨τ2,hτ2⟩:∃ τ2,[AP.cells [] Bq true,.cells (CS m.wds) Bq true]=τ2:=⟨_,rfl⟩
 rw[hτ2] at e2
 obtain ⟨σ2,hσ2⟩:∃ σ2,σ1++τ2=σ2:=⟨_,rfl⟩
 have h2:Ag σ2 i m:=hσ2 ▸ h1.app τ2
 have l2:σ2.length=σ1.length+2:=by rw[← hσ2,← hτ2]; simp
 obtain ⟨τ3,e3,lt3,t3⟩:=cD k h2.st
 obtain ⟨σ3,hσ3⟩:∃ σ3,σ2++τ3=σ3:=⟨_,rfl⟩
 have h3:Ag σ3 i m:=hσ3 ▸ h2.app τ3
 have l3:σ3.length=σ2.length+3:=by rw[← hσ3]; simp[lt3]
 rw[hσ3] at t3
 obtain ⟨τ4,e4,lt4,t4⟩:=cD k h3.pn
 obtain ⟨σ4,hσ4⟩:∃ σ4,σ3++τ4=σ4:=⟨_,rfl⟩
 have h4:Ag σ4 i m:=hσ4 ▸ h3.app τ4
 have l4:σ4.length=σ3.length+3:=by rw[← hσ4]; simp[lt4]
 rw[hσ4] at t4
 have e5:=cC (k+1) h4.pl
 obtain ⟨σ5,hσ5⟩:∃ σ5,σ4++[.map (P3 m.pl)]=σ5:=⟨_,rfl⟩
 have h5:Ag σ5 i m:=hσ5 ▸ h4.app _
 have l5:σ5.length=σ4.length+1:=by rw[← hσ5]; simp
 have e6:=cC (k+1) h5.fw
 obtain ⟨σ6,hσ6⟩:∃ σ6,σ5++[.map (P3 m.fw)]=σ6:=⟨_,rfl⟩
 have h6:Ag σ6 i m:=hσ6 ▸ h5.app _
 have l6:σ6.length=σ5.length+1:=by rw[← hσ6]; simp
 obtain ⟨hc,hhc⟩:∃ hc,AP.cells [.slice (some ⟨σ.length+1,0,none⟩) m.bls.length m.bls.length,.slice (some ⟨σ1.length+1,0,none⟩) m.wds.length m.wds.length,.pointer (some ⟨σ2.length+2,0,none⟩),.pointer (some ⟨σ3.length+2,0,none⟩),.map (some σ4.length),.map (some σ5.length),.int .i64 m.births] Ey true=hc:=⟨_,rfl⟩
 have run:∃ τ,σ6++[hc]=σ++τ:=⟨τ1++τ2++τ3++τ4++[.map (P3 m.pl)]++[.map (P3 m.fw)]++[hc],by rw[← hσ6,← hσ5,← hσ4,← hσ3,← hσ2,← hσ1]; simp⟩
 obtain ⟨τ,hτ⟩:=run
 have q1:∀ {ρ:Type} (x:Option ρ),FD σ σ1 x=x:=fun x=>by rw[← hσ1]; exact Oj _ _ x
 have q2:∀ {ρ:Type} (x:Option ρ),FD σ1 σ2 x=x:=fun x=>by rw[← hσ2]; exact Oj _ _ x
 have q3:∀ {ρ:Type} (x:Option ρ),FD σ2 σ3 x=x:=fun x=>by rw[← hσ3]; exact Oj _ _ x
 have q4:∀ {ρ:Type} (x:Option ρ),FD σ3 σ4 x=x:=fun x=>by rw[← hσ4]; exact Oj _ _ x
 have q5:∀ {ρ:Type} (x:Option ρ),FD σ4 σ5 x=x:=fun x=>by rw[← hσ5]; exact Oj _ _ x
 have q6:∀ {ρ:Type} (x:Option ρ),FD σ5 σ6 x=x:=fun x=>by rw[← hσ6]; exact Oj _ _ x
 rw[hσ1] at e1
 rw[hσ2] at e2
 rw[hσ3] at e3
 rw[hσ4] at e4
 rw[hσ5] at e5
 rw[hσ6] at e6
 refine ⟨τ,⟨σ6.length,σ.length+1,σ1.length+1,σ2.length+2,σ2.length+1,σ3.length+2,σ3.length+1,σ4.length,σ5.length⟩, ?_, ?_, ?_⟩
 ·simp only[LJ _ h,Option.bind_some,As,Bool.not_true,cond_false,Nat.zero_add,Nat.add_zero,h.RK,e1,q1,Hm,h1.ML,e2,q2,h2.js,e3,q3,VD,h3.qX,e4,q4,h4.sf,e5,q5,Zx,h5.sO,e6,q6,h6.ry,An]
  rw[hhc,hτ]
 ·rw[← hτ]
  have p1:∀ q o,σ1[q]?=some o→(σ6++[hc])[q]?=some o:=fun q o ho=>by
   rw[← hσ6,← hσ5,← hσ4,← hσ3,← hσ2]
   have:=Ae ho
   rw[List.getElem?_append_left (by simp; omega),List.getElem?_append_left (by simp; omega),List.getElem?_append_left (by simp; omega),List.getElem?_append_left (by simp; omega),List.getElem?_append_left (by simp; omega),List.getElem?_append_left this]; exact ho
  have p2:∀ q o,σ2[q]?=some o→(σ6++[hc])[q]?=some o:=fun q o ho=>by
   rw[← hσ6,← hσ5,← hσ4,← hσ3]
   have:=Ae ho
   rw[List.getElem?_append_left (by simp; omega),List.getElem?_append_left (by simp; omega),List.getElem?_append_left (by simp; omega),List.getElem?_append_left (by simp; omega),List.getElem?_append_left this]; exact ho
  have p3:∀ q o,σ3[q]?=some o→(σ6++[hc])[q]?=some o:=fun q o ho=>by
   rw[← hσ6,← hσ5,← hσ4]
   have:=Ae ho
   rw[List.getElem?_append_left (by simp; omega),List.getElem?_append_left (by simp; omega),List.getElem?_append_left (by simp; omega),List.getElem?_append_left this]; exact ho
  have p4:∀ q o,σ4[q]?=some o→(σ6++[hc])[q]?=some o:=fun q o ho=>by
   rw[← hσ6,← hσ5]
   have:=Ae ho
   rw[List.getElem?_append_left (by simp; omega),List.getElem?_append_left (by simp; omega),List.getElem?_append_left this]; exact ho
  refine ⟨by rw[← hhc]; simp,p1 _ _ (by rw[← hσ1,← hτ1]; simp),p2 _ _ (by rw[← hσ2,← hτ2]; simp),⟨p3 _ _ t3.tab,p3 _ _ t3.row,t3.len,t3.pos,t3.top,t3.okw⟩,⟨p4 _ _ t4.tab,p4 _ _ t4.row,t4.len,t4.pos,t4.top,t4.okw⟩, ?_, ?_,h.nb,h.nt,h.wl, ?_,h.wi⟩
  ·rw[← hσ6,← hσ5]; simp
  ·rw[← hσ6]; simp
  ·simp only[C8.l,List.nodup_cons,List.mem_cons,List.not_mem_nil,or_false,not_or,List.nodup_nil,and_true,not_false_eq_true]
   omega
 ·intro j hj
  simp only[C8.l,List.mem_cons,List.not_mem_nil,or_false] at hj
  omega
end Go.Proofs.YtlaplcglpnlieaaGreat
end
