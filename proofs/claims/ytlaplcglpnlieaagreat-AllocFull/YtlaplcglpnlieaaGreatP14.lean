/- What the calls leave holds together; plain laws.; New.; Calls one by one, and all of them: do, Made.; Small things that more than one law uses.; Looks -/
import Derived.Test.YtlaplcglpnlieaaGreatP13
set_option linter.unusedVariables false
set_option linter.unusedSimpArgs false
set_option linter.unusedSectionVars false
section
namespace Go.Proofs.YtlaplcglpnlieaaGreat
open Go Go.AX
variable {m:HM}
def use (m:HM) (j:Nat):Nat:=(2+BV m j+E5 m j).toNat
def Um (l:List (Int × Int)) (a wo:Nat):Prop:=
 (wo≤32→(l.getD (a/64) (0,0)).1=1∧(a+wo-1)/64=a/64) ∧
 (32<wo→(l.getD (a/64) (0,0)).1=2∧a % 64=0 ∧ ∀ c,a/64<c→c≤(a+wo-1)/64→(l.getD c (0,0)).1=3)
structure Inv2 (m:HM):Prop where
 kind:∀ j,Start m j→Um m.bls (2*j) (sz m j)
 zero:∀ a,(∀ j,Start m j→2*j≤a→a<2*j+use m j→False)→m.wds.getD a 0=0
structure Sh (m:HM):Prop where
 wl:m.wds.length=64*m.bls.length
 sl:32*m.bls.length≤64*m.stw.length
 pl:32*m.bls.length≤64*m.pnw.length
theorem Ah.sh {σ:Aa} {i:Cs} (h:Ah σ i m):Sh m:=⟨h.wl,eE h.st.len,eE h.pn.len⟩
theorem Inv.use (h:Inv m) {j:Nat} (hs:Start m j):2≤use m j∧use m j≤sz m j∧((use m j:Nat):Int)=2+BV m j+E5 m j:=by
 obtain ⟨z1,z2,z3,z4,z5,z6⟩:=h.size hs
 unfold Go.Proofs.YtlaplcglpnlieaaGreat.use
 omega
structure FP (m:HM) (r:Int × HM):Prop where
 inv:Inv r.2
 inv2:Inv2 r.2
 b1:m.births≤r.2.births
 b2:r.2.births≤m.births+1
 len:r.2.bls.length=m.bls.length
 err:r.1≠0→r.2=m
theorem FP.same (h:Inv m) (h2:Inv2 m) (c:Int):FP m (c,m):=⟨h,h2,Int.le_refl _,by simp only; omega,rfl,fun _=>rfl⟩
theorem aK (h:Inv m) {a x:Int} {data:Bool} {w:Int} (hf:R6 m a x data=(w,0)):∃ j t:Nat,Start m j∧a=((2*j:Nat):Int)∧w=((2*j+2+t:Nat):Int)∧2+t<use m j∧((t:Nat):Int)=x+(if data then BV m j else 0):=by
 unfold R6 at hf
 split at hf
 ·rename_i hh
  obtain ⟨j,rfl,hs⟩:=Ss hh
  have ej:((2*j:Nat):Int).toNat/2=j:=by omega
  obtain ⟨z1,z2,z3,z4,z5,z6⟩:=h.size hs
  obtain ⟨_,_,u3⟩:=h.use hs
  simp only[ej] at hf
  cases data with
  | false=>
    simp only[Bool.false_eq_true,if_false] at hf
    split at hf
    ·rename_i hc
     have hw:=congrArg Prod.fst hf
     simp only at hw
     exact ⟨j,x.toNat,hs,rfl,by omega,by omega,by simp only[Bool.false_eq_true,if_false]; omega⟩
    ·have:=congrArg Prod.snd hf
     simp at this
  | true=>
    simp only[if_true] at hf
    split at hf
    ·rename_i hc
     have hw:=congrArg Prod.fst hf
     simp only at hw
     exact ⟨j,(BV m j+x).toNat,hs,rfl,by omega,by omega,by simp only[if_true]; omega⟩
    ·have:=congrArg Prod.snd hf
     simp at this
 ·have:=congrArg Prod.snd hf
  simp at this
theorem ji (h:Inv m) {j t:Nat} (hs:Start m j) (ht:2+t<sz m j) (v:Int):∀ j',Start m j' → ∀ c,c<2→(PB m (2*j+2+t) v).wds.getD (2*j'+c) 0=m.wds.getD (2*j'+c) 0:=by
 intro j' hs' c hc
 show (m.wds.set _ _).getD _ _=_
 rw[CL,if_neg]
 rintro ⟨e,_⟩
 have h1:=h.apart j j' hs hs'
 have hz:=h.size hs'
 rcases Nat.lt_trichotomy j j' with hlt | rfl | hlt
 ·have:=h1 hlt; omega
 ·omega
 ·omega
theorem We {m m':HM} {j j':Nat} (h:m'.wds.getD (2*j'+1) 0=m.wds.getD (2*j+1) 0):sz m' j'=sz m j∧use m' j'=use m j∧BV m' j'=BV m j∧E5 m' j'=E5 m j:=by
 unfold sz use BV E5
 rw[h]
 exact ⟨rfl,rfl,rfl,rfl⟩
theorem Inv2.word (h:Inv m) (h2:Inv2 m) {j t:Nat} (hs:Start m j) (ht:2+t<use m j) (v:Int):Inv2 (PB m (2*j+2+t) v):=by
 have hu:=h.use hs
 have key:=ji h hs (show 2+t<sz m j by omega) v
 refine ⟨fun j' hs'=>?_,fun a ha=>?_⟩
 ·rw[(We (key j' hs' 1 (by decide))).1]; exact h2.kind j' hs'
 ·show (m.wds.set _ _).getD _ _=_
  rw[CL,if_neg]
  ·exact h2.zero a fun j' hs' h3 h4=>ha j' hs' h3 (by rw[(We (key j' hs' 1 (by decide))).2.1]; exact h4)
  ·rintro ⟨rfl,_⟩
   exact ha j hs (by omega) (by rw[(We (key j hs 1 (by decide))).2.1]; omega)
theorem YG (h:Inv m) (h2:Inv2 m) {j t:Nat} (hs:Start m j) (ht:2+t<use m j) (v:Int):FP m (0,PB m (2*j+2+t) v):=
 ⟨h.qv hs (by have:=h.use hs; omega) v,h2.word h hs ht v,Int.le_refl _,by show m.births≤m.births+1; omega,rfl,fun hc=>absurd rfl hc⟩
theorem fW (h:Inv m) (h2:Inv2 m) (a x v:Int):FP m (Vw m a x v):=by
 unfold Vw
 generalize hf:R6 m a x false=w
 obtain ⟨w,c⟩:=w
 split
 ·rename_i hc
  simp only at hc
  subst hc
  obtain ⟨j,t,hs,rfl,rfl,ht,_⟩:=aK h hf
  split
  ·exact FP.same h h2 _
  ·simp only[Int.toNat_natCast]
   exact YG h h2 hs ht v
 ·exact FP.same h h2 _
theorem cV (h:Inv m) (h2:Inv2 m) (a x v:Int):FP m (SC m a x v):=by
 unfold SC
 generalize hf:R6 m a x true=w
 obtain ⟨w,c⟩:=w
 split
 ·rename_i hc
  simp only at hc
  subst hc
  obtain ⟨j,t,hs,rfl,rfl,ht,_⟩:=aK h hf
  simp only[Int.toNat_natCast]
  exact YG h h2 hs ht v
 ·exact FP.same h h2 _
theorem Inv2.pins (h2:Inv2 m) (l:List (BitVec 64)):Inv2 { m with pnw:=l }:=⟨h2.kind,h2.zero⟩
theorem Inv2.Xn (h2:Inv2 m) (l:List (Int × Int)):Inv2 { m with fw:=l }:=⟨h2.kind,h2.zero⟩
theorem Inv2.places (h2:Inv2 m) (l:List (Int × Int)):Inv2 { m with pl:=l }:=⟨h2.kind,h2.zero⟩
theorem dQ (h:Inv m) (h2:Inv2 m) (a:Int) (v:Nat):FP m (cU m a v):=by
 unfold cU
 split
 ·exact ⟨h.pins _,h2.pins _,Int.le_refl _,by show m.births≤m.births+1; omega,rfl,fun hc=>absurd rfl hc⟩
 ·exact FP.same h h2 _
theorem ko (h:Inv m) (h2:Inv2 m) (a v:Int):FP m (dT m a v):=by
 unfold dT
 split
 ·cases hq:Rg m a.toNat with
  | none=>exact FP.same h h2 _
  | some j=>
    obtain ⟨hs,_,p2,p1⟩:=Qu hq
    have hu:=h.use hs
    simp only
    split
    ·obtain ⟨t,ht⟩:∃ t,a.toNat=2*j+2+t:=⟨a.toNat-(2*j+2),by omega⟩
     rw[ht]
     exact YG h h2 hs (by omega) v
    ·exact FP.same h h2 _
 ·exact FP.same h h2 _
theorem gV (h:Inv m) (h2:Inv2 m):FP m (0,{ m with fw:=[] }):=
 ⟨h.Xn _,h2.Xn _,Int.le_refl _,by show m.births≤m.births+1; omega,rfl,fun hc=>absurd rfl hc⟩
theorem ch (m:HM) (b:Nat):∀ (f n c:Nat),n≤c→c<EO m b f n→(m.bls.getD b (0,0)).1=2∧(m.bls.getD (b+c) (0,0)).1=3
 | 0,n,c,h1,h2=>by rw[EO] at h2; omega
 | f+1,n,c,h1,h2=>by
   rw[EO] at h2
   split at h2
   ·rename_i hc
    rcases Nat.eq_or_lt_of_le h1 with rfl | h1
    ·exact ⟨hc.1,hc.2.2⟩
    ·exact ch m b f (n+1) c h1 h2
   ·omega
theorem iW (m:HM) (b:Nat):∀ (f n:Nat),n≤EO m b f n
 | 0,n=>Nat.le_refl _
 | f+1,n=>by
   rw[EO]
   split
   ·have:=iW m b f (n+1); omega
   ·exact Nat.le_refl _
theorem WO {b c:Nat} (h1:b<c) (h2:c<b+Ee m b):(m.bls.getD b (0,0)).1=2∧(m.bls.getD c (0,0)).1=3:=by
 have:=ch m b m.bls.length 1 (c-b) (by omega) (by unfold Ee at h2; omega)
 rw[show b+(c-b)=c from by omega] at this
 exact this
theorem aN {a:Int} {wo:Nat} {but:Int} (h2:2≤wo) (hf:Ik m a wo but=0):Um m.bls a.toNat wo:=by
 unfold Ik at hf
 split at hf
 ·cases hf
 simp only at hf
 split at hf
 ·rename_i hw
  split at hf
  ·cases hf
  ·rename_i hc
   refine ⟨fun _=>⟨?_, ?_⟩,fun h=>by omega⟩
   ·apply Classical.byContradiction
    intro hq; exact hc (.inl hq)
   ·apply Classical.byContradiction
    intro hq; exact hc (.inr hq)
 ·rename_i hw
  split at hf
  ·cases hf
  ·rename_i hc
   have c1:(m.bls.getD (a.toNat/64) (0,0)).1=2:=by
    apply Classical.byContradiction
    intro hq; exact hc (.inl hq)
   have c2:a.toNat % 64=0:=by
    apply Classical.byContradiction
    intro hq; exact hc (.inr (.inl hq))
   have c3:Ee m (a.toNat/64)=(wo+63)/64:=by
    apply Classical.byContradiction
    intro hq; exact hc (.inr (.inr hq))
   refine ⟨fun h=>by omega,fun _=>⟨c1,c2,fun c h1 h2=>?_⟩⟩
   exact (WO h1 (by rw[c3]; omega)).2
theorem Inv2.place (h:Inv m) (h2:Inv2 m) (hS:Sh m) {j:Nat} {r d k:Int} (hv:valid r d k=true) (hj:j<32*m.bls.length)
  (hap:∀ o,Start m o→2*o+sz m o≤2*j∨2*j+PS (num r d k)≤2*o) (hk:Um m.bls (2*j) (PS (num r d k))):Inv2 (Dj m j (num r d k)):=by
 have hst:=fun j'=>Ru (m:=m) (n:=num r d k) (j:=j) (j':=j') hS.sl hj
 have hw:=hS.wl
 have hv':=hv
 simp[valid] at hv'
 have h3:2≤PS (num r d k):=by
  rw[O9 hv]
  omega
 have hnj:¬ Start m j:=fun hs=>by
  have h1:=hap j hs
  have h2:=h.size hs
  omega
 have hne:∀ j',Start m j'→j'≠j:=fun j' hs e=>hnj (e ▸ hs)
 have w1:(Dj m j (num r d k)).wds.getD (2*j+1) 0=num r d k:=by
  unfold Dj; simp only
  rw[CL,if_pos ⟨rfl,by simp; omega⟩]
 have wo:∀ j',j'≠j→(Dj m j (num r d k)).wds.getD (2*j'+1) 0=m.wds.getD (2*j'+1) 0:=by
  intro j' hne
  unfold Dj; simp only
  rw[CL,if_neg (by omega),CL,if_neg (by omega)]
 have s1:sz (Dj m j (num r d k)) j=PS (num r d k):=by unfold sz; rw[w1]
 obtain ⟨p1,p2,_,_⟩:=MM hv
 have u1:use (Dj m j (num r d k)) j=(2+r+d).toNat:=by unfold use BV E5; rw[w1,p1,p2]
 refine ⟨fun j' hs'=>?_,fun a ha=>?_⟩
 ·rcases (hst j').1 hs' with rfl | hs'
  ·rw[s1]; exact hk
  ·rw[(We (wo j' (hne j' hs'))).1]; exact h2.kind j' hs'
 ·have hself:=ha j ((hst j).2 (.inl rfl))
  rw[u1] at hself
  have hn0:a≠2*j:=fun e=>hself (by omega) (by omega)
  have hn1:a≠2*j+1:=fun e=>hself (by omega) (by omega)
  unfold Dj; simp only
  rw[CL,if_neg (by omega),CL,if_neg (by omega)]
  exact h2.zero a fun j' hs' h4 h5=>ha j' ((hst j').2 (.inr hs')) h4 (by rw[(We (wo j' (hne j' hs'))).2.1]; exact h5)
theorem Rn (h:Inv m) (h2:Inv2 m) (hS:Sh m) (a r d c:Int):FP m (Br m a r d c).2:=by
 unfold Br
 split
 ·rename_i hv
  split
  ·rename_i hc
   have hw2:2≤PS (num r d c):=by
    rw[O9 hv]
    simp[valid] at hv
    omega
   have hk:=aN hw2 hc
   obtain ⟨j,rfl,hj,hfit,hap⟩:=h.fits hS.wl (gf _) hw2 hc
   rw[Int.toNat_natCast] at hk
   simp only[show ((2*j:Nat):Int).toNat/2=j from by omega]
   have hap':∀ o,Start m o→2*o+sz m o≤2*j∨2*j+PS (num r d c)≤2*o:=fun o ho=>hap o ho (by omega)
   refine ⟨h.place hS.wl hS.sl hv hj hfit hap',h2.place h hS hv hj hap' hk, ?_,Int.le_refl _,rfl,fun hc=>absurd rfl hc⟩
   show m.births≤m.births+1
   omega
  ·exact FP.same h h2 _
 ·exact FP.same h h2 _
theorem W9 (h:Inv m) {j j' a:Nat} (hs:Start m j) (hs':Start m j') (hne:j'≠j) (h1:2*j'≤a) (h2:a<2*j'+sz m j'):(LJ m j).wds.getD a 0=m.wds.getD a 0:=by
 have hf:=h.fit j hs
 show (QQ _ _ _).getD _ 0=_
 rw[JB (by simpa using hf),if_neg]
 rintro ⟨p1,p2⟩
 simp only[List.length_replicate] at p2
 rcases Nat.lt_trichotomy j j' with hlt | rfl | hlt
 ·have:=h.apart j j' hs hs' hlt; omega
 ·exact hne rfl
 ·have:=h.apart j' j hs' hs hlt; omega
theorem Inv2.kill (h:Inv m) (h2:Inv2 m) (hS:Sh m) {j:Nat} (hs:Start m j):Inv2 (LJ m j):=by
 have hf:=h.fit j hs
 have hst:=fun j'=>QJ (m:=m) (j:=j) (j':=j') hS.sl hs.1
 have so:∀ j',j'≠j→Start m j'→sz (LJ m j) j'=sz m j'∧use (LJ m j) j'=use m j':=fun j' hne hs'=>by
  have:=We (W9 h hs hs' hne (a:=2*j'+1) (by omega) (by have:=h.size hs'; omega))
  exact ⟨this.1,this.2.1⟩
 refine ⟨fun j' hs'=>?_,fun a ha=>?_⟩
 ·obtain ⟨hne,hs'⟩:=(hst j').1 hs'
  rw[(so j' hne hs').1]; exact h2.kind j' hs'
 ·show (QQ _ _ _).getD _ 0=_
  rw[JB (by simpa using hf)]
  split
  ·rw[List.getD_eq_getElem?_getD,List.getElem?_replicate]
   split <;> rfl
  ·rename_i hc
   refine h2.zero a fun j' hs' h4 h5=>?_
   by_cases hq:j'=j
   ·subst hq
    have:=h.use hs'
    simp at hc; omega
   ·exact ha j' ((hst j').2 ⟨hq,hs'⟩) h4 (by rw[(so j' hq hs').2]; exact h5)
theorem bg (h:Inv m) (h2:Inv2 m) (hS:Sh m) (a:Int):FP m (OV m a):=by
 unfold OV
 split
 ·rename_i hh
  obtain ⟨j,rfl,hs⟩:=Ss hh
  rw[show ((2*j:Nat):Int).toNat/2=j from by omega]
  exact ⟨h.kill hS.sl hs,h2.kill h hS hs,Int.le_refl _,by show m.births≤m.births+1; omega,rfl,fun hc=>absurd rfl hc⟩
 ·exact FP.same h h2 _
theorem ck (hS:Sh m) {j t j':Nat} (hj:j<32*m.bls.length) (ht:t<32*m.bls.length):Start (Q4 m j t) j'↔j'=t∨(j'≠j∧Start m j'):=by
 have hl:=hS.sl
 unfold Start Q4
 simp only
 by_cases hq:j'=t
 ·subst hq
  rw[F4 (.inl rfl) (by decide) (by rw[MO]; omega)]
  simp[ht]
 ·rw[Cr (.inl rfl) (by decide) (fun e=>hq e.symm)]
  by_cases hq2:j'=j
  ·subst hq2
   rw[F4 (.inl rfl) (by decide) (by omega)]
   simp[hq]
  ·rw[Cr (.inl rfl) (by decide) (fun e=>hq2 e.symm)]
   simp[hq,hq2]
theorem Tl (h:Inv m) {j t:Nat} (hs:Start m j) (hfit:2*t+sz m j≤m.wds.length) (a:Nat):
  (Q4 m j t).wds.getD a 0=if 2*t≤a∧a<2*t+sz m j then m.wds.getD (2*j+(a-2*t)) 0 else if 2*j≤a∧a<2*j+sz m j then 0 else m.wds.getD a 0:=by
 have hf:=h.fit j hs
 have hhl:((m.wds.drop (2*j)).take (sz m j)).length=sz m j:=by simp; omega
 have hl1:(QQ m.wds (2*j) (List.replicate (sz m j) 0)).length=m.wds.length:=OX (by simpa using hf)
 show (QQ _ _ _).getD _ 0=_
 rw[JB (by rw[hhl,hl1]; exact hfit),hhl]
 split
 ·rename_i hc
  simp only[List.getD_eq_getElem?_getD,List.getElem?_take,show a-2*t<sz m j from by omega,if_true,List.getElem?_drop]
 ·rw[JB (by simpa using hf),List.length_replicate]
  split
  ·rw[List.getD_eq_getElem?_getD,List.getElem?_replicate]
   split <;> rfl
  ·rfl
theorem ah (h:Inv m) {o j a:Nat} (ho:Start m o) (hs:Start m j) (h1:2*o≤a) (h2:a<2*o+sz m o) (h3:2*j≤a) (h4:a<2*j+sz m j):o=j:=by
 rcases Nat.lt_trichotomy j o with hlt | rfl | hlt
 ·have:=h.apart j o hs ho hlt; omega
 ·rfl
 ·have:=h.apart o j ho hs hlt; omega
theorem bD (h:Inv m) {j t o a:Nat} (hs:Start m j) (hfit:2*t+sz m j≤m.wds.length)
  (hap:∀ o,Start m o→o≠j→2*o+sz m o≤2*t∨2*t+sz m j≤2*o) (ho:Start m o) (hne:o≠j) (h1:2*o≤a) (h2:a<2*o+sz m o):(Q4 m j t).wds.getD a 0=m.wds.getD a 0:=by
 have:=hap o ho hne
 rw[Tl h hs hfit,if_neg (by omega),if_neg]
 rintro ⟨h3,h4⟩
 exact hne (ah h ho hs h1 h2 h3 h4)
theorem Inv2.move (h:Inv m) (h2:Inv2 m) (hS:Sh m) {j t:Nat} (hs:Start m j) (ht:t<32*m.bls.length) (hfit:2*t+sz m j≤m.wds.length)
  (hap:∀ o,Start m o→o≠j→2*o+sz m o≤2*t∨2*t+sz m j≤2*o) (hk:Um m.bls (2*t) (sz m j)):Inv2 (Q4 m j t):=by
 have hst:=fun j'=>ck (m:=m) hS (j:=j) (t:=t) (j':=j') hs.1 ht
 have hz:=h.size hs
 have hu:=h.use hs
 have so:∀ j',j'≠j→Start m j'→sz (Q4 m j t) j'=sz m j'∧use (Q4 m j t) j'=use m j':=fun j' hne hs'=>by
  have:=We (bD h hs hfit hap hs' hne (a:=2*j'+1) (by omega) (by have:=h.size hs'; omega))
  exact ⟨this.1,this.2.1⟩
 have st:sz (Q4 m j t) t=sz m j∧use (Q4 m j t) t=use m j:=by
  have:=We (m:=m) (m':=Q4 m j t) (j:=j) (j':=t) (by rw[Tl h hs hfit,if_pos (by omega)]; congr 1; omega)
  exact ⟨this.1,this.2.1⟩
 refine ⟨fun j' hs'=>?_,fun a ha=>?_⟩
 ·by_cases hq:j'=t
  ·subst hq; rw[st.1]; exact hk
  ·rcases (hst j').1 hs' with e | ⟨hne,hs'⟩
   ·exact absurd e hq
   ·rw[(so j' hne hs').1]; exact h2.kind j' hs'
 ·rw[Tl h hs hfit]
  have hself:=ha t ((hst t).2 (.inl rfl))
  rw[st.2] at hself
  split
  ·rename_i hc
   refine h2.zero _ fun j' hs' h4 h5=>?_
   by_cases hq:j'=j
   ·subst hq
    exact hself (by omega) (by omega)
   ·have:=h.use hs'
    exact hq (ah h hs' hs h4 (by omega) (by omega) (by omega))
  ·rename_i hc
   split
   ·rfl
   ·rename_i hc2
    refine h2.zero _ fun j' hs' h4 h5=>?_
    by_cases hq:j'=j
    ·subst hq
     omega
    ·exact ha j' ((hst j').2 (.inr ⟨hq,hs'⟩)) h4 (by rw[(so j' hq hs').2]; exact h5)
theorem oG (h:Inv m) (hS:Sh m) {j:Nat} {b:Int} (hs:Start m j) (hc:Ik m b (sz m j) ((2*j:Nat):Int)=0):
  ∃ t,b=((2*t:Nat):Int)∧t<32*m.bls.length∧2*t+sz m j≤m.wds.length∧(∀ o,Start m o→o≠j→2*o+sz m o≤2*t∨2*t+sz m j≤2*o)∧Um m.bls (2*t) (sz m j):=by
 have hz:=h.size hs
 have hk:=aN hz.1 hc
 obtain ⟨t,rfl,htb,hfit,hap⟩:=h.fits hS.wl hz.2.1 hz.1 hc
 rw[Int.toNat_natCast] at hk
 exact ⟨t,rfl,htb,hfit,fun o ho hne=>hap o ho (by omega),hk⟩
theorem kh (h:Inv m) (h2:Inv2 m) (hS:Sh m) (a b:Int):FP m (dK m a b):=by
 unfold dK
 split
 ·rename_i hh
  obtain ⟨j,rfl,hs⟩:=Ss hh
  rw[show ((2*j:Nat):Int).toNat/2=j from by omega]
  split
  ·rename_i hc
   obtain ⟨t,rfl,htb,hfit,hap,hk⟩:=oG h hS hs hc
   rw[show ((2*t:Nat):Int).toNat/2=t from by omega]
   exact ⟨h.move hS.sl hs htb hfit hap,h2.move h hS hs htb hfit hap hk,Int.le_refl _,by show m.births≤m.births+1; omega,rfl,fun hc=>absurd rfl hc⟩
  ·exact FP.same h h2 _
 ·exact FP.same h h2 _
theorem dA (l:List (Int × Int)) (a c:Nat) (v:Int × Int):(l.set a v).getD c (0,0)=if a=c∧a<l.length then v else l.getD c (0,0):=by
 simp only[List.getD_eq_getElem?_getD,List.getElem?_set]
 by_cases h:a=c
 ·subst h
  by_cases h2:a<l.length
  ·simp[h2]
  ·simp[h2]
 ·simp[h]
theorem Om (b:Nat):∀ (n:Nat) (l:List (Int × Int)) (c:Nat),(XC l b n).getD c (0,0)=if b≤c∧c<b+n then (0,0) else l.getD c (0,0)
 | 0,l,c=>by rw[XC,if_neg (by omega)]
 | n+1,l,c=>by
   rw[XC,Om b n,dA]
   by_cases h1:b+n=c
   ·subst h1
    rw[if_neg (by omega),if_pos (show b≤b+n∧b+n<b+(n+1) by omega)]
    split
    ·rfl
    ·rename_i h
     rw[List.getD_eq_getElem?_getD,List.getElem?_eq_none (by omega)]; rfl
   ·rw[if_neg (show ¬ (b+n=c∧b+n<l.length) from fun h=>h1 h.1)]
    by_cases h2:b≤c∧c<b+n
    ·rw[if_pos h2,if_pos (by omega)]
    ·rw[if_neg h2,if_neg (by omega)]
theorem Vz (b:Nat) (y:Int):∀ (n:Nat) (l:List (Int × Int)) (c:Nat),((VH l b y n).getD c (0,0)).1=(l.getD c (0,0)).1
 | 0,l,c=>rfl
 | n+1,l,c=>by
   rw[VH,Vz b y n,dA]
   split
   ·rename_i h
    rw[h.1]
   ·rfl
theorem ax (b:Nat) (e:Int × Int):∀ (n x:Nat) (l:List (Int × Int)) (c:Nat),c<b+x∨b+x+n≤c→(V7 l b e n x).getD c (0,0)=l.getD c (0,0)
 | 0,x,l,c,h=>rfl
 | n+1,x,l,c,h=>by
   rw[V7,ax b e n (x+1) _ c (by omega),List.getD_eq_getElem?_getD,List.getD_eq_getElem?_getD,List.getElem?_set,if_neg (by omega)]
theorem WR {l:List (Int × Int)} {b:Nat}:∀ {n x:Nat},Im l b n x=none → ∀ c,x≤c→c<x+n→l.getD (b+c) (0,0)=(0,0)
 | 0,x,h,c,h1,h2=>by omega
 | n+1,x,h,c,h1,h2=>by
   rw[Im] at h
   split at h
   ·rename_i hc
    rcases Nat.eq_or_lt_of_le h1 with rfl | h1
    ·exact Prod.ext hc.1 hc.2
    ·exact WR h c h1 (by omega)
   ·cases h
theorem Um.CT {l l':List (Int × Int)} {a wo:Nat} (h:Um l a wo) (hl:∀ c,(l.getD c (0,0)).1≠0→a/64≤c→c≤(a+wo-1)/64→(l'.getD c (0,0)).1=(l.getD c (0,0)).1) (hw:0<wo):Um l' a wo:=by
 refine ⟨fun hw'=>?_,fun hw'=>?_⟩
 ·obtain ⟨h1,h2⟩:=h.1 hw'
  exact ⟨by rw[hl _ (by rw[h1]; decide) (Nat.le_refl _) (by omega)]; exact h1,h2⟩
 ·obtain ⟨h1,h2,h3⟩:=h.2 hw'
  exact ⟨by rw[hl _ (by rw[h1]; decide) (Nat.le_refl _) (by omega)]; exact h1,h2,fun c h4 h5=>by rw[hl c (by rw[h3 c h4 h5]; decide) (by omega) h5]; exact h3 c h4 h5⟩
theorem Inv2.blocks (h:Inv m) (h2:Inv2 m) (l:List (Int × Int)) (hl:l.length=m.bls.length)
  (hk:∀ j,Start m j → ∀ c,(m.bls.getD c (0,0)).1≠0→2*j/64≤c→c≤(2*j+sz m j-1)/64→(l.getD c (0,0)).1=(m.bls.getD c (0,0)).1):Inv2 { m with bls:=l }:=by
 have hs:∀ j,Start { m with bls:=l } j↔Start m j:=fun j=>by unfold Start; simp only[hl]
 refine ⟨fun j hj=>?_,fun a ha=>h2.zero a fun j hj=>ha j ((hs j).2 hj)⟩
 have hj':=(hs j).1 hj
 exact (h2.kind j hj').CT (hk j hj') (by have:=h.size hj'; show 0<sz m j; omega)
theorem Uz (h:Inv m) (h2:Inv2 m) {l:List (Int × Int)} (hl:l.length=m.bls.length)
  (hk:∀ j,Start m j → ∀ c,(m.bls.getD c (0,0)).1≠0→2*j/64≤c→c≤(2*j+sz m j-1)/64→(l.getD c (0,0)).1=(m.bls.getD c (0,0)).1):FP m (0,{ m with bls:=l }):=
 ⟨h.blocks l hl,h2.blocks h l hl hk,Int.le_refl _,by show m.births≤m.births+1; omega,hl,fun hc=>absurd rfl hc⟩
theorem Zj (h:Inv m) (h2:Inv2 m) (b y:Int):FP m (Ls m b y):=by
 unfold Ls
 split
 ·exact Uz h h2 (Pc _ _ _ _) fun j _ c _ _ _=>Vz _ _ _ _ _
 ·exact FP.same h h2 _
theorem hU {b:Int} {ok:Bool} (h:NP m b ok=0):(m.bls.getD b.toNat (0,0)).1=1∨(m.bls.getD b.toNat (0,0)).1=2:=by
 unfold NP at h
 split at h
 ·cases h
 ·split at h
  ·cases h
  ·rename_i hc
   apply Classical.byContradiction
   intro hq
   exact hc ⟨fun e=>hq (.inl e),fun e=>hq (.inr e)⟩
theorem VZ (h:Inv m) (h2:Inv2 m) (b:Int):FP m (GD m b):=by
 unfold GD
 split
 ·rename_i hh
  have hst:=hU hh
  split
  ·rename_i he
   refine Uz h h2 (OZ _ _ _) fun j hj c hc h3 h4=>?_
   rw[Om,if_neg]
   rintro ⟨h5,h6⟩
   generalize b.toNat=n at hst he h5 h6
   have hz:=h.size hj
   have hnb:2*j/64≠n:=by
    intro e
    have:j ∈ Cf m (32*n) 32:=by
     unfold Cf
     rw[List.mem_filter,List.mem_range'_1]
     exact ⟨by omega,decide_eq_true hj.2⟩
    rw[he] at this
    cases this
   obtain ⟨k1,k2⟩:=h2.kind j hj
   by_cases hw:sz m j≤32
   ·obtain ⟨q1,q2⟩:=k1 hw
    have hcj:c=2*j/64:=by omega
    subst hcj
    have:=WO (m:=m) (b:=n) (c:=2*j/64) (by omega) h6
    rw[q1] at this
    exact absurd this.2 (by decide)
   ·obtain ⟨q1,q2,q3⟩:=k2 (by omega)
    by_cases hlt:n<2*j/64
    ·have:=WO (m:=m) (b:=n) (c:=2*j/64) hlt (by omega)
     rw[q1] at this
     exact absurd this.2 (by decide)
    ·have:=q3 n (by omega) (by omega)
     rcases hst with e | e
     ·rw[this] at e; exact absurd e (by decide)
     ·rw[this] at e; exact absurd e (by decide)
  ·exact FP.same h h2 _
 ·exact FP.same h h2 _
theorem M7 (h:Inv m) (h2:Inv2 m) (b c x y x' y':Int):FP m (Bp m b c x y x' y'):=by
 unfold Bp
 split
 ·rename_i hc
  split
  ·rename_i hu
   have hlen:(V7 m.bls b.toNat (x',y') c.toNat 0).length=m.bls.length:=Ft _ _ _ _ _
   refine Uz h h2 (by rw[List.length_set,hlen]) fun j hj q hq _ _=>?_
   have hout:q<b.toNat∨b.toNat+c.toNat≤q:=by
    apply Classical.byContradiction
    intro hn
    have:=WR hu (q-b.toNat) (by omega) (by omega)
    rw[show b.toNat+(q-b.toNat)=q from by omega] at this
    rw[this] at hq
    exact hq rfl
   rw[List.getD_eq_getElem?_getD,List.getElem?_set,if_neg (by omega),← List.getD_eq_getElem?_getD,ax _ _ _ _ _ _ (by omega)]
  ·exact FP.same h h2 _
 ·exact FP.same h h2 _
end Go.Proofs.YtlaplcglpnlieaaGreat
end
section
namespace Go.Proofs.YtlaplcglpnlieaaGreat
open Go Go.AX
noncomputable local instance vn:AF:=Au
local instance uc:Kn:=⟨true⟩
variable {σ:Aa} {i:Cs} {m:HM}
theorem qs (n:Nat):rep n [Value.int .u64 0]=rowOf (List.replicate n 0#64):=by
 simp only[rep,rowOf,List.map_replicate]
 induction n with
 | zero=>rfl
 | succ n ih=>rw[List.replicate_succ,List.flatten_cons,ih,List.replicate_succ]; rfl
theorem lG (n:Nat):rep n [Value.int .i64 0,.int .i64 0]=CE (List.replicate n (0,0)):=by
 simp only[rep]
 induction n with
 | zero=>rfl
 | succ n ih=>rw[List.replicate_succ,List.flatten_cons,ih,List.replicate_succ]; rfl
theorem Zn (k:Nat) {e:Nat} (h0:0<e) (h1:e≤4096) (σ:Aa):∃ τ tb wb,Mf (k+4) (e:Int) 1 σ=some (.tuple #[.pointer (some ⟨tb,0,none⟩),.int .i64 0],σ++τ) ∧
  Fl (σ++τ) tb wb e 1 (List.replicate ((e+63)/64) 0#64)∧σ.length≤tb∧σ.length≤wb∧tb≠wb:=by
 rw[VT,Wm]
 simp only[show decide ((e:Int)<1)=false from decide_eq_false (by omega),cond_false,show decide ((e:Int)>4096)=false from decide_eq_false (by omega),Option.bind_some,Ap]
 rw[LC,JL,NM,Md,LD,JM]
 simp only[show decide ((0:Int)<((4:Nat):Int))=true from rfl,cond_true,show ((0:Int)≤0∧(0:Int)<((4:Nat):Int))=True from by simp,if_true,Option.bind_some,Int.toNat_zero,Nat.zero_mul,Nat.add_zero,LR,List.getElem?_cons_zero,Am,BEq.rfl,D4,reduceCtorEq,if_false,As,show decide ((0:Int)≥0)=true from rfl,Bool.not_true,cond_false]
 have e1:Ac ((e:Int)*1)=(e:Int):=by rw[Ad (by unfold AW; omega)]; omega
 have e2:Ac ((e:Int)+64)=((e+64:Nat):Int):=Ad (by unfold AW; omega)
 have e3:Ac (((e+64:Nat):Int)-1)=((e+63:Nat):Int):=by rw[Ad (by unfold AW; omega)]; omega
 have e4:((e+63:Nat):Int).tdiv 64=(((e+63)/64:Nat):Int):=rfl
 have e5:Ac (((e+63)/64:Nat):Int)=(((e+63)/64:Nat):Int):=Ad (by unfold AW; omega)
 simp only[e1,e2,e3,e4,e5,show ((64:Int)=0)=False from by simp,if_false]
 rw[if_pos (by omega)]
 simp only[Int.toNat_natCast,qs]
 obtain ⟨μ,hμ⟩:∃ μ,σ++[Bi.cells [Value.int .i64 1,.int .i64 2,.int .i64 4,.int .i64 8] B9 true]=μ:=⟨_,rfl⟩
 have hl:μ.length=σ.length+1:=by rw[← hμ]; simp
 rw[hμ]
 refine ⟨[Bi.cells [Value.int .i64 1,.int .i64 2,.int .i64 4,.int .i64 8] B9 true,.cells (rowOf (List.replicate ((e+63)/64) 0#64)) BN true,.cells [.int .i64 (e:Int),.int .i64 1,.slice (some ⟨σ.length+1,0,none⟩) ((e+63)/64) ((e+63)/64)] RL true],σ.length+2,σ.length+1, ?_, ?_,by omega,by omega,by omega⟩
 ·rw[← hμ]; simp
 ·refine ⟨?_, ?_,by simp,h0,h1,.inl rfl⟩
  ·rw[List.length_replicate,List.getElem?_append_right (by omega),show σ.length+2-σ.length=2 from by omega]; rfl
  ·rw[List.getElem?_append_right (by omega),show σ.length+1-σ.length=1 from by omega]; rfl
def MS (n:Nat):HM:={ bls:=List.replicate n (0,0),wds:=List.replicate (64*n) 0,stw:=List.replicate ((32*n+63)/64) 0#64,pnw:=List.replicate ((32*n+63)/64) 0#64,pl:=[],fw:=[],births:=0 }
theorem Inv.new (n:Nat):Inv (MS n):=by
 have hs:∀ j,¬ Start (MS n) j:=by
  rintro j ⟨_,h⟩
  have:Ge 1 (MS n).stw j=0:=TB _ _ _
  omega
 exact ⟨fun j h=>absurd h (hs j),fun j h=>absurd h (hs j),fun j _ h=>absurd h (hs j),fun j h=>absurd h (hs j),fun id a h=>by simp[MS,getM] at h,Int.le_refl _,trivial⟩
theorem Inv2.new (n:Nat):Inv2 (MS n):=by
 have hs:∀ j,¬ Start (MS n) j:=by
  rintro j ⟨_,h⟩
  have:Ge 1 (MS n).stw j=0:=TB _ _ _
  omega
 refine ⟨fun j h=>absurd h (hs j),fun a _=>?_⟩
 show (List.replicate (64*n) (0:Int)).getD a 0=0
 rw[List.getD_eq_getElem?_getD,List.getElem?_replicate]
 split <;> rfl
theorem pH (k:Nat) (b:Int) (hb:¬ (2≤b∧b≤64)) (σ:Aa):G8 (k+1) b σ=some (.tuple #[.pointer none,.int .i64 1],σ):=by
 rw[R5,SP]
 by_cases h0:b<2
 ·simp only[decide_eq_true h0,cond_true,Option.bind_some]
 ·simp only[decide_eq_false h0,cond_false,Option.bind_some,show decide (b>64)=true from decide_eq_true (by omega),cond_true]
theorem re (k:Nat) {n:Nat} (h2:2≤n) (h64:n≤64) (σ:Aa):∃ σ' i,G8 (k+5) (n:Int) σ=some (.tuple #[.pointer (DW i),.int .i64 0],σ')∧Ah σ' i (MS n)∧(∀ j ∈ i.l,σ.length≤j)∧BM i σ σ':=by
 rw[R5,SP]
 have e1:Ac ((n:Int)*64)=((64*n:Nat):Int):=by rw[Ad (by unfold AW; omega)]; omega
 simp only[show decide ((n:Int)<2)=false from decide_eq_false (by omega),cond_false,show decide ((n:Int)>64)=false from decide_eq_false (by omega),Option.bind_some,Ap,e1]
 rw[if_pos (by omega),if_pos (by omega)]
 simp only[Int.toNat_natCast,lG,iD]
 obtain ⟨o,ho⟩:∃ o:List Bi,[Bi.cells (CE (List.replicate n (0,0))) Bl true,.cells (Df (List.replicate (64*n) 0)) B9 true,.map [],.map [],
  .cells [.slice (some ⟨σ.length,0,none⟩) n n,.slice (some ⟨σ.length+1,0,none⟩) (64*n) (64*n),.pointer none,.pointer none,.map (some (σ.length+2)),.map (some (σ.length+3)),.int .i64 0] F6 true]=o:=⟨_,rfl⟩
 have hmem:(σ++[Bi.cells (CE (List.replicate n (0,0))) Bl true]++[Bi.cells (Df (List.replicate (64*n) 0)) B9 true]++[Bi.map []]++[Bi.map []] ++
   [Bi.cells [.slice (some ⟨σ.length,0,none⟩) n n,.slice (some ⟨(σ++[Bi.cells (CE (List.replicate n (0,0))) Bl true]).length,0,none⟩) (64*n) (64*n),.pointer none,.pointer none,.map (some (σ++[Bi.cells (CE (List.replicate n (0,0))) Bl true]++[Bi.cells (Df (List.replicate (64*n) 0)) B9 true]).length),.map (some (σ++[Bi.cells (CE (List.replicate n (0,0))) Bl true]++[Bi.cells (Df (List.replicate (64*n) 0)) B9 true]++[Bi.map []]).length),.int .i64 0] F6 true])=σ++o:=by
  rw[← ho]; simp
 have hh:(σ++[Bi.cells (CE (List.replicate n (0,0))) Bl true]++[Bi.cells (Df (List.replicate (64*n) 0)) B9 true]++[Bi.map []]++[Bi.map []]).length=σ.length+4:=by simp
 rw[hmem,hh]
 have hol:o.length=5:=by rw[← ho]; rfl
 have g:∀ q,q<5→(σ++o)[σ.length+q]?=o[q]?:=fun q _=>by rw[List.getElem?_append_right (by omega)]; congr 1; omega
 have gd:∀ (τ:Aa) q,q<5→(σ++o++τ)[σ.length+q]?=o[q]?:=fun τ q hq=>by rw[List.getElem?_append_left (by simp; omega)]; exact g q hq
 have l1:Ew (σ++o) (σ.length+4) 1=some (some ⟨σ.length+1,0,none⟩,64*n,64*n):=by
  simp only[Ew,Gy,g 4 (by omega)]; rw[← ho]; rfl
 have e2:((64*n:Nat):Int).tdiv 2=((32*n:Nat):Int):=by
  rw[show ((64*n:Nat):Int).tdiv 2=(((64*n)/2:Nat):Int) from rfl]; omega
 have e3:Ac ((32*n:Nat):Int)=((32*n:Nat):Int):=Ad (by unfold AW; omega)
 obtain ⟨τ1,st,sw,hN1,hT1,a1,a2,a3⟩:=Zn k (e:=32*n) (by omega) (by omega) (σ++o)
 simp only[Nat.zero_add,l1,Option.bind_some,show ((2:Int)=0)=False from by simp,if_false,e2,e3,hN1,Vt]
 have lo:(σ++o).length=σ.length+5:=by simp[hol]
 rw[lo] at a1 a2
 obtain ⟨c,hc⟩:∃ c,[Value.slice (some ⟨σ.length,0,none⟩) n n,.slice (some ⟨σ.length+1,0,none⟩) (64*n) (64*n),.pointer none,.pointer none,.map (some (σ.length+2)),.map (some (σ.length+3)),.int .i64 0]=c:=⟨_,rfl⟩
 have o4:o[4]?=some (.cells c F6 true):=by rw[← ho,← hc]; rfl
 obtain ⟨μ1,hμ1⟩:∃ μ1,σ++o++τ1=μ1:=⟨_,rfl⟩
 have b1:∀ q,q<5→μ1[σ.length+q]?=o[q]?:=fun q hq=>hμ1 ▸ gd τ1 q hq
 have L1:σ.length+5≤μ1.length:=by rw[← hμ1,List.length_append,lo]; omega
 rw[hμ1] at hT1 ⊢
 have s1:G0 μ1 (σ.length+4) 2 (.pointer (some ⟨st,0,none⟩))=some (μ1.set (σ.length+4) (.cells (c.set 2 (.pointer (some ⟨st,0,none⟩))) F6 true)):=by
  simp only[G0,b1 4 (by omega),o4]
  rw[if_pos (by rw[← hc]; simp)]
 obtain ⟨μ2,hμ2⟩:∃ μ2,μ1.set (σ.length+4) (.cells (c.set 2 (.pointer (some ⟨st,0,none⟩))) F6 true)=μ2:=⟨_,rfl⟩
 rw[hμ2] at s1
 have b2:∀ q,q≠σ.length+4→μ2[q]?=μ1[q]?:=fun q hq=>by rw[← hμ2]; exact List.getElem?_set_ne (Ne.symm hq)
 have b2h:μ2[σ.length+4]?=some (.cells (c.set 2 (.pointer (some ⟨st,0,none⟩))) F6 true):=by rw[← hμ2]; exact List.getElem?_set_self (by omega)
 have L2:μ2.length=μ1.length:=by rw[← hμ2]; simp
 have l2:Ew μ2 (σ.length+4) 1=some (some ⟨σ.length+1,0,none⟩,64*n,64*n):=by
  simp only[Ew,Gy,b2h]; rw[← hc]; rfl
 obtain ⟨τ2,pn,pw,hN2,hT2,p1,p2,p3⟩:=Zn k (e:=32*n) (by omega) (by omega) μ2
 have t1:=hT1.lt
 obtain ⟨μ3,hμ3⟩:∃ μ3,μ2++τ2=μ3:=⟨_,rfl⟩
 have b3:∀ q,q<μ2.length→μ3[q]?=μ2[q]?:=fun q hq=>by rw[← hμ3]; exact List.getElem?_append_left hq
 have L3:μ2.length≤μ3.length:=by rw[← hμ3]; simp
 rw[hμ3] at hN2 hT2
 have s3:G0 μ3 (σ.length+4) 3 (.pointer (some ⟨pn,0,none⟩))=some (μ3.set (σ.length+4) (.cells ((c.set 2 (.pointer (some ⟨st,0,none⟩))).set 3 (.pointer (some ⟨pn,0,none⟩))) F6 true)):=by
  simp only[G0,b3 (σ.length+4) (by omega),b2h]
  rw[if_pos (by rw[← hc]; simp)]
 obtain ⟨μ4,hμ4⟩:∃ μ4,μ3.set (σ.length+4) (.cells ((c.set 2 (.pointer (some ⟨st,0,none⟩))).set 3 (.pointer (some ⟨pn,0,none⟩))) F6 true)=μ4:=⟨_,rfl⟩
 rw[hμ4] at s3
 have b4:∀ q,q≠σ.length+4→μ4[q]?=μ3[q]?:=fun q hq=>by rw[← hμ4]; exact List.getElem?_set_ne (Ne.symm hq)
 have b4h:μ4[σ.length+4]?=some (.cells ((c.set 2 (.pointer (some ⟨st,0,none⟩))).set 3 (.pointer (some ⟨pn,0,none⟩))) F6 true):=by rw[← hμ4]; exact List.getElem?_set_self (by omega)
 have L4:μ4.length=μ3.length:=by rw[← hμ4]; simp
 have b:∀ q,q<μ2.length→q≠σ.length+4→μ4[q]?=μ1[q]?:=fun q h1 h2=>(b4 q h2).trans ((b3 q h1).trans (b2 q h2))
 have bo:∀ q,q<4→μ4[σ.length+q]?=o[q]?:=fun q hq=>(b _ (by omega) (by omega)).trans (b1 q (by omega))
 simp only[s1,Option.bind_some,l2,e2,e3,hN2,Vt,s3]
 refine ⟨μ4,⟨σ.length+4,σ.length,σ.length+1,st,sw,pn,pw,σ.length+2,σ.length+3⟩,rfl, ?_, ?_, ?_⟩
 ·refine ⟨?_, ?_, ?_, ?_, ?_, ?_, ?_, ?_, ?_, ?_, ?_, ?_⟩
  ·rw[b4h,← hc]
   simp[MS]
  ·show μ4[σ.length]?=_
   have:=bo 0 (by omega)
   rw[Nat.add_zero] at this
   rw[this,← ho]; rfl
  ·show μ4[σ.length+1]?=_
   rw[bo 1 (by omega),← ho]; rfl
  ·show Fl μ4 st sw (32*(List.replicate n ((0:Int),(0:Int))).length) 1 _
   rw[List.length_replicate]
   exact hT1.same (b _ (by omega) (by omega)) (b _ (by omega) (by omega))
  ·show Fl μ4 pn pw (32*(List.replicate n ((0:Int),(0:Int))).length) 1 _
   rw[List.length_replicate]
   exact hT2.same (b4 _ (by omega)) (b4 _ (by omega))
  ·show μ4[σ.length+2]?=_
   rw[bo 2 (by omega),← ho]; rfl
  ·show μ4[σ.length+3]?=_
   rw[bo 3 (by omega),← ho]; rfl
  ·simpa [MS] using h2
  ·simpa [MS] using h64
  ·simp[MS]
  ·simp only[Cs.l,List.nodup_cons,List.mem_cons,List.not_mem_nil,or_false,not_or,List.nodup_nil,not_false_eq_true,and_true]
   have:=hT2.lt
   refine ⟨⟨?_, ?_, ?_, ?_, ?_, ?_, ?_, ?_⟩,⟨?_, ?_, ?_, ?_, ?_, ?_, ?_⟩,⟨?_, ?_, ?_, ?_, ?_, ?_⟩,⟨?_, ?_, ?_, ?_, ?_⟩,⟨?_, ?_, ?_, ?_⟩,⟨?_, ?_, ?_⟩,⟨?_, ?_⟩, ?_⟩ <;> omega
  ·intro a
   show AW ((List.replicate (64*n) (0:Int)).getD a 0)
   rw[List.getD_eq_getElem?_getD,List.getElem?_replicate]
   split <;> (unfold AW; decide)
 ·intro j hj
  simp only[Cs.l,List.mem_cons,List.not_mem_nil,or_false] at hj
  omega
 ·refine ⟨by omega,fun j hj hne=>?_⟩
  rw[b j (by omega) (by omega),← hμ1,List.append_assoc,List.getElem?_append_left hj]
end Go.Proofs.YtlaplcglpnlieaaGreat
end
section
namespace Go.Proofs.YtlaplcglpnlieaaGreat
open Go Go.AX
noncomputable local instance vo:AF:=Au
local instance ud:Kn:=⟨true⟩
variable {σ:Aa} {i:Cs} {m:HM}
structure V1 where
 k:Int
 a:Int
 b:Int
 c:Int
 r:Int
 d:Int
 s:Int
def V1.cells (x:V1):List Value:=[.int .i64 x.k,.int .i64 x.a,.int .i64 x.b,.int .i64 x.c,.int .i64 x.r,.int .i64 x.d,.int .i64 x.s]
def V1.ok (x:V1):Prop:=AW x.k∧AW x.a∧AW x.b∧AW x.c∧AW x.r∧AW x.d∧AW x.s
theorem Rv.after {μ:Aa} {mm:Option (Value × Aa)} {r:Int × HM} (h:Rv mm μ i r) (hk:BM i σ μ):Rv mm σ i r:=by
 obtain ⟨σ',e,h1,h2⟩:=h
 exact ⟨σ',e,h1,hk.trans h2⟩
def gL (m:HM) (x:V1):Int × HM:=
 if x.k=0 then Bp m x.a 1 1 x.b 0 0 else if x.k=1 then Bp m x.a x.b 2 x.c 3 x.c else if x.k=2 then GD m x.a else if x.k=3 then Ls m x.a x.b else
 if x.k=4 then (Br m x.a x.r x.d x.s).2 else if x.k=5 then OV m x.a else if x.k=6 then dK m x.a x.b else if x.k=7 then Vw m x.a x.b x.c else
 if x.k=8 then SC m x.a x.b x.c else if x.k=9 then dT m x.a x.b else if x.k=10 then cU m x.a 1 else if x.k=11 then cU m x.a 0 else
 if x.k=12 then (0,{ m with fw:=[] }) else (0,m)
theorem KQ {c:Prop} [Decidable c] {r r':Int × HM} (h:c→FP m r) (h':¬ c→FP m r'):FP m (if c then r else r'):=by
 split
 ·exact h ‹_›
 ·exact h' ‹_›
theorem gM (h:Inv m) (h2:Inv2 m) (hS:Sh m) (x:V1):FP m (gL m x):=by
 unfold gL
 refine KQ (fun _=>M7 h h2 _ _ _ _ _ _) fun _=>?_
 refine KQ (fun _=>M7 h h2 _ _ _ _ _ _) fun _=>?_
 refine KQ (fun _=>VZ h h2 _) fun _=>?_
 refine KQ (fun _=>Zj h h2 _ _) fun _=>?_
 refine KQ (fun _=>Rn h h2 hS _ _ _ _) fun _=>?_
 refine KQ (fun _=>bg h h2 hS _) fun _=>?_
 refine KQ (fun _=>kh h h2 hS _ _) fun _=>?_
 refine KQ (fun _=>fW h h2 _ _ _) fun _=>?_
 refine KQ (fun _=>cV h h2 _ _ _) fun _=>?_
 refine KQ (fun _=>ko h h2 _ _) fun _=>?_
 refine KQ (fun _=>dQ h h2 _ _) fun _=>?_
 refine KQ (fun _=>dQ h h2 _ _) fun _=>?_
 refine KQ (fun _=>gV h h2) fun _=>?_
 exact FP.same h h2 _
def nG:List V1→List Value
 | []=>[]
 | x::l=>x.cells++nG l
def jn (σ:Aa) (p:Option Addr) (l:List V1):Prop:=l=[] ∨ ∃ ab T rw,p=some ⟨ab,0,none⟩∧σ[ab]?=some (.cells (nG l) T rw)
theorem jn.W7 {σ σ':Aa} {p:Option Addr} {l:List V1} (h:jn σ p l) (hk:BM i σ σ') (hi:l≠[] → ∀ a,p=some a→a.block ∉ i.l):jn σ' p l:=by
 by_cases hl:l=[]
 ·exact .inl hl
 rcases h with h | ⟨ab,T,rw',rfl,h⟩
 ·exact .inl h
 ·exact .inr ⟨ab,T,rw',rfl,(hk.same _ (Ae h) (hi hl _ rfl)).trans h⟩
def runM (m:HM) (l:List V1):HM:=l.foldl (fun m x=>(gL m x).2) m
end Go.Proofs.YtlaplcglpnlieaaGreat
end
section
namespace Go.Proofs.YtlaplcglpnlieaaGreat
open Go Go.AX
noncomputable local instance vg:AF:=Au
local instance tV:Kn:=⟨true⟩
variable {σ:Aa} {i:Cs} {m:HM}
def Gf (l:List Bool):List Value:=l.map Value.bool
theorem rE {σ:Aa} {b o:Nat} {l:List Bool} {T:TypeId} (h:σ[b]?=some (.cells (Gf l) T true)) (ho:o<l.length):WS σ b o=some (l.getD o false):=by
 simp[WS,Gy,h,Gf,DF,List.getElem?_eq_getElem ho]
theorem rT {σ:Aa} {b o:Nat} {l:List Bool} {T:TypeId} (v:Bool) (h:σ[b]?=some (.cells (Gf l) T true)) (ho:o<l.length):G0 σ b o (.bool v)=some (σ.set b (.cells (Gf (l.set o v)) T true)):=by
 have:o<(Gf l).length:=by simpa [Gf] using ho
 simp only[G0,h,this,if_true]
 simp[Gf,List.map_set]
theorem mw (l:List Bool) (a b:Nat) (v:Bool) (ha:a<l.length):(l.set a v).getD b false=if b=a then v else l.getD b false:=by
 simp only[List.getD_eq_getElem?_getD,List.getElem?_set]
 by_cases h:a=b
 ·subst h; simp[ha]
 ·rw[if_neg h,if_neg (fun e=>h e.symm)]
theorem Hj {lo n j:Nat}:j ∈ Cf m lo n↔lo≤j∧j<lo+n∧Ge 1 m.stw j=1:=by
 unfold Cf
 rw[List.mem_filter,List.mem_range'_1]
 simp[and_assoc]
theorem qh {j:Nat}:j ∈ Cf m 0 (32*m.bls.length)↔Start m j:=by
 rw[Hj]; unfold Start; simp
theorem XH (lo n:Nat):(Cf m lo n).Nodup:=(List.nodup_range' (step:=1) (by decide)).filter _
theorem SM (l:List Nat) {x:Nat} (hx:x<l.length):(EE l).getD x 0=((2*l[x]:Nat):Int):=by
 simp[EE,List.getElem?_eq_getElem hx]
theorem oW (n:Nat):rep n [Value.bool false]=Gf (List.replicate n false):=by
 simp only[rep,Gf,List.map_replicate]
 induction n with
 | zero=>rfl
 | succ n ih=>rw[List.replicate_succ,List.flatten_cons,ih,List.replicate_succ]; rfl
theorem fG (m:HM) (a r d c:Int):((Br m a r d c).2.1=0→(Br m a r d c).1=m.births+1∧(Br m a r d c).2.2.births=m.births+1)∧((Br m a r d c).2.1≠0→(Br m a r d c).1=0∧(Br m a r d c).2.2=m):=by
 unfold Br
 split
 ·split
  ·exact ⟨fun _=>⟨rfl,rfl⟩,fun h=>absurd rfl h⟩
  ·rename_i hc
   exact ⟨fun h=>absurd h hc,fun _=>⟨rfl,rfl⟩⟩
 ·exact ⟨fun h=>absurd (show (2:Int)=0 from h) (by decide),fun _=>⟨rfl,rfl⟩⟩
end Go.Proofs.YtlaplcglpnlieaaGreat
end
section
namespace Go.Proofs.YtlaplcglpnlieaaGreat
open Go Go.AX
noncomputable local instance vk:AF:=Au
local instance tZ:Kn:=⟨true⟩
variable {σ:Aa} {i:Cs} {m:HM}
theorem GR (k:Nat) (h:Ah σ i m):Az (k+2) (DW i) σ=some (.int .i64 ((m.bls.length:Nat):Int),σ):=by
 rw[NH,LY,Ny _ h]
 simp only[Option.bind_some,As,Bool.not_true,cond_false,Nat.zero_add,Nat.add_zero,h.Sw]
theorem WX (k:Nat) (h:Ah σ i m) {b:Nat} (hb:b<m.bls.length):BX (k+3) (DW i) (b:Int) σ=some (.int .i64 (m.bls.getD b (0,0)).1,σ):=by
 rw[OK,MY]
 have q1:decide ((b:Int)<0)=false:=decide_eq_false (by omega)
 have q2:decide ((b:Int)≥((m.bls.length:Nat):Int))=false:=decide_eq_false (by omega)
 simp only[q1,cond_false,GR _ h,Option.bind_some,Am,q2,Nat.zero_add,Nat.add_zero,h.Sw]
 rw[if_pos (by omega)]
 simp only[Option.bind_some,Int.toNat_natCast,Nat.zero_add,(h.WS hb).1]
theorem aa (k:Nat) (h:Ah σ i m) {b:Nat} (hb:b<m.bls.length):B7 (k+3) (DW i) (b:Int) σ=some (.int .i64 (m.bls.getD b (0,0)).2,σ):=by
 rw[K7,JV]
 have q1:decide ((b:Int)<0)=false:=decide_eq_false (by omega)
 have q2:decide ((b:Int)≥((m.bls.length:Nat):Int))=false:=decide_eq_false (by omega)
 simp only[q1,cond_false,GR _ h,Option.bind_some,Am,q2,Nat.zero_add,Nat.add_zero,h.Sw]
 rw[if_pos (by omega)]
 simp only[Option.bind_some,Int.toNat_natCast,Nat.zero_add,(h.WS hb).2]
def Hh (m:HM) (j:Nat):Int:=(m.wds.getD (2*j+1) 0).tdiv 4096
theorem Oz (m:HM) (lo n:Nat):(Cf m lo n).length≤n:=by
 have:(Cf m lo n).length≤(List.range' lo n).length:=List.length_filter_le _ _
 simpa using this
structure EW (σ:Aa) (s:E8) (σ':Aa) (s':E8):Prop where
 len:σ.length≤σ'.length
 same:∀ q,q<σ.length→(∀ a,s.1=some a→a.block≠q)→σ'[q]?=σ[q]?
 new:s'=s ∨ ∀ a,s'.1=some a→σ.length≤a.block
theorem EW.refl (σ:Aa) (s:E8):EW σ s σ s:=⟨Nat.le_refl _,fun _ _ _=>rfl,.inl rfl⟩
theorem EW.app (σ:Aa) (s:E8) (τ:Aa):EW σ s (σ++τ) s:=⟨by simp,fun q hq _=>List.getElem?_append_left hq,.inl rfl⟩
theorem EW.trans {a b c:Aa} {s t u:E8} (h:EW a s b t) (g:EW b t c u):EW a s c u:=by
 refine ⟨Nat.le_trans h.len g.len,fun q hq hn=>?_, ?_⟩
 ·refine (g.same q (Nat.lt_of_lt_of_le hq h.len) fun x hx=>?_).trans (h.same q hq hn)
  rcases h.new with rfl | hw
  ·exact hn x hx
  ·have:=hw x hx; omega
 ·rcases g.new with rfl | hw
  ·exact h.new
  ·exact .inr fun x hx=>Nat.le_trans h.len (hw x hx)
def sj (i:Cs) (s:E8):Prop:=∀ a,s.1=some a→a.block ∉ i.l
theorem EW.heap {σ':Aa} {s s':E8} (g:EW σ s σ' s') (h:Ah σ i m) (ho:sj i s):Ah σ' i m∧sj i s':=by
 refine ⟨h.CT fun j hj=>g.same j (h.lt j hj) fun a ha e=>ho a ha (e ▸ hj), ?_⟩
 rcases g.new with rfl | hw
 ·exact ho
 ·intro a ha hm
  have:=hw a ha
  have:=h.lt _ hm
  omega
theorem EW.other {σ':Aa} {s s':E8} (g:EW σ s σ' s') {q:Nat} {o:Bi} (h:σ[q]?=some o) (hs:∀ a,s.1=some a→a.block≠q):σ'[q]?=some o ∧ ∀ a,s'.1=some a→a.block≠q:=by
 have hq:=Ae h
 refine ⟨(g.same q hq hs).trans h, ?_⟩
 rcases g.new with rfl | hw
 ·exact hs
 ·intro a ha e
  have:=hw a ha
  omega
def QC (m:HM) (a n:Nat):List Int:=(List.range' a n).map fun x=>m.wds.getD x 0
theorem SB (m:HM) (a n:Nat):QC m a (n+1)=m.wds.getD a 0::QC m (a+1) n:=by simp[QC,List.range'_succ]
theorem Vb (m:HM) (a n:Nat):(QC m a n).length=n:=by simp[QC]
theorem EW.behind {σ σ':Aa} {τ:Aa} {s s':E8} (g:EW (σ++τ) s σ' s') (hs:∀ a,s.1=some a→σ.length≤a.block):(∃ τ',σ'=σ++τ') ∧ ∀ a,s'.1=some a→σ.length≤a.block:=by
 refine ⟨⟨σ'.drop σ.length, ?_⟩, ?_⟩
 ·have hlen:=g.len
  simp at hlen
  apply List.ext_getElem?
  intro q
  by_cases hq:q<σ.length
  ·rw[List.getElem?_append_left hq,g.same q (by simp; omega) (fun a ha e=>by have:=hs a ha; omega),List.getElem?_append_left hq]
  ·rw[List.getElem?_append_right (by omega),List.getElem?_drop]
   congr 1; omega
 ·rcases g.new with rfl | hw
  ·exact hs
  ·intro a ha
   have:=hw a ha
   simp at this; omega
end Go.Proofs.YtlaplcglpnlieaaGreat
end
section
namespace Go.Proofs.YtlaplcglpnlieaaGreat
open Go Go.AX
noncomputable local instance vp:AF:=Au
local instance ue:Kn:=⟨true⟩
variable {σ:Aa} {i:Cs} {m:HM}
end Go.Proofs.YtlaplcglpnlieaaGreat
end
section
namespace Go.Proofs.YtlaplcglpnlieaaGreat
open Go Go.AX
noncomputable local instance vS:AF:=Au
local instance uI:Kn:=⟨true⟩
variable {σ:Aa} {i:Cs} {m:HM}
def B0 (m:HM):Prop:=(m.bls.getD 0 (0,0)).1=0
def BK (m:HM) (r:Int × HM):Prop:=(r.2.bls.getD 0 (0,0)).1=(m.bls.getD 0 (0,0)).1
theorem Ij {c:Prop} [Decidable c] {r r':Int × HM} (h:c→BK m r) (h':¬ c→BK m r'):BK m (if c then r else r'):=by
 split
 ·exact h ‹_›
 ·exact h' ‹_›
theorem pO {r:Int × HM} (h:r.2.bls=m.bls):BK m r:=by unfold BK; rw[h]
theorem Yf (m:HM) (b c x y x' y':Int):BK m (Bp m b c x y x' y'):=by
 unfold Bp
 refine Ij (fun h1=>Ij (fun _=>?_) fun _=>rfl) fun _=>rfl
 unfold BK
 rw[List.getD_eq_getElem?_getD,List.getElem?_set,if_neg (by omega),← List.getD_eq_getElem?_getD,ax _ _ _ _ _ _ (by omega)]
theorem rz (m:HM) (x:V1):BK m (gL m x):=by
 unfold gL
 refine Ij (fun _=>Yf _ _ _ _ _ _ _) fun _=>Ij (fun _=>Yf _ _ _ _ _ _ _) fun _=>Ij (fun _=>?_) fun _=>Ij (fun _=>?_) fun _=>Ij (fun _=>?_) fun _=>Ij (fun _=>?_) fun _=>Ij (fun _=>?_) fun _=>Ij (fun _=>?_) fun _=>Ij (fun _=>?_) fun _=>Ij (fun _=>?_) fun _=>Ij (fun _=>?_) fun _=>Ij (fun _=>?_) fun _=>Ij (fun _=>rfl) fun _=>rfl
 ·unfold GD
  refine Ij (fun hh=>Ij (fun _=>?_) fun _=>rfl) fun _=>rfl
  obtain ⟨n,e,h1,_⟩:=Ti hh
  unfold BK
  rw[Om,if_neg (by omega)]
 ·unfold Ls
  exact Ij (fun hh=>Vz _ _ _ _ _) fun _=>rfl
 ·apply pO
  unfold Br
  split
  ·split <;> rfl
  ·rfl
 ·unfold OV; exact Ij (fun _=>rfl) fun _=>rfl
 ·unfold dK; exact Ij (fun _=>Ij (fun _=>rfl) fun _=>rfl) fun _=>rfl
 ·unfold Vw; exact Ij (fun _=>Ij (fun _=>rfl) fun _=>rfl) fun _=>rfl
 ·unfold SC; exact Ij (fun _=>rfl) fun _=>rfl
 ·unfold dT; refine Ij (fun _=>?_) fun _=>rfl
  split
  ·rfl
  ·exact Ij (fun _=>rfl) fun _=>rfl
 ·unfold cU; exact Ij (fun _=>rfl) fun _=>rfl
 ·unfold cU; exact Ij (fun _=>rfl) fun _=>rfl
theorem B0.do (h:B0 m) (x:V1):B0 (gL m x).2:=(rz m x).trans h
theorem B0.run:∀ (l:List V1) (m:HM),B0 m→B0 (runM m l)
 | [],m,h=>h
 | x::l,m,h=>B0.run l _ (h.do x)
theorem B0.new (n:Nat):B0 (MS n):=by
 unfold B0 MS
 simp only[List.getD_eq_getElem?_getD,List.getElem?_replicate]
 split <;> rfl
theorem gj (k:Nat) (h:Ah σ i m) {b:Nat} (hb:b<m.bls.length):Ca (k+3) (DW i) (b:Int) σ=some (.bool (decide (1≤b∧(m.bls.getD b (0,0)).1=1)),σ):=by
 rw[Lo,KM]
 simp only[ZO _ h,Option.bind_some,As]
 by_cases h1:1≤b
 ·rw[decide_eq_true (show 1≤(b:Int)∧(b:Int)<((m.bls.length:Nat):Int) by omega)]
  simp only[cond_true,Option.bind_some,Nat.zero_add,Nat.add_zero,h.Sw]
  rw[if_pos (by omega)]
  simp only[Option.bind_some,Int.toNat_natCast,Nat.zero_add,(h.WS hb).1,h1,true_and]
  rfl
 ·rw[decide_eq_false (show ¬ (1≤(b:Int)∧(b:Int)<((m.bls.length:Nat):Int)) by omega)]
  simp[h1]
theorem fp (hI:Inv m) (hI2:Inv2 m) {b:Nat} (hs:(m.bls.getD b (0,0)).1=1) {j:Nat} (hj:Start m j) (h1:32*b≤j) (h2:j<32*b+32):sz m j≤32∧2*j+sz m j≤64*b+64:=by
 have hz:=hI.size hj
 obtain ⟨k1,k2⟩:=hI2.kind j hj
 have e:2*j/64=b:=by omega
 rw[e] at k1 k2
 by_cases hw:sz m j≤32
 ·have:=(k1 hw).2
  omega
 ·have:=(k2 (by omega)).1
  rw[hs] at this
  exact absurd this (by decide)
theorem SD {α:Type} {l:List α} {q:Nat} {x:α} (h:l[q]?=some x):l.set q x=l:=by
 apply List.ext_getElem?
 intro p
 rw[List.getElem?_set]
 split
 ·rename_i e
  subst e
  rw[if_pos (Ae h),h]
 ·rfl
def kc (m:HM) (j l:Nat):Prop:=2*j % 64/8≤l∧l≤(2*j % 64+sz m j-1)/8
theorem YJ (k:Nat) (hb:Nat) (e2 hi:Nat) (he:e2<64) (hh:e2/8=hi):∀ (n x f:Nat) (σ:Aa) (bs:List Bool),σ[hb]?=some (.cells (Gf bs) Eg true)→bs.length=8→x+n=hi+1→n<f →
  ∃ bs',Dl k f hb 8 (e2:Int) (x:Int) σ=some (.exit 2,[],σ.set hb (.cells (Gf bs') Eg true))∧bs'.length=8∧(∀ t,bs'.getD t false=(bs.getD t false || decide (x≤t∧t≤hi)))
 | 0,x,0,σ,bs,hc,hl,hx,hf=>by omega
 | 0,x,f+1,σ,bs,hc,hl,hx,hf=>by
   rw[IF,HB]
   have w:Ac ((e2:Int).tdiv 8)=(hi:Int):=by rw[show ((e2:Int)).tdiv 8=((e2/8:Nat):Int) from rfl,hh]; exact Ad (by unfold AW; omega)
   have q:decide ((x:Int)≤(hi:Int))=false:=decide_eq_false (by omega)
   refine ⟨bs, ?_,hl,fun t=>?_⟩
   ·simp only[w,q,cond_false]
    rw[if_neg (by decide),SD hc]
   ·rw[decide_eq_false (by omega),Bool.or_false]
 | n+1,x,0,σ,bs,hc,hl,hx,hf=>by omega
 | n+1,x,f+1,σ,bs,hc,hl,hx,hf=>by
   have hx8:x<bs.length:=by omega
   have hs:G0 σ hb x (.bool true)=_:=rT true hc hx8
   have hlt:=Ae hc
   obtain ⟨bs',e,l',g⟩:=YJ k hb e2 hi he hh n (x+1) f (σ.set hb (.cells (Gf (bs.set x true)) Eg true)) (bs.set x true) (List.getElem?_set_self hlt) (by simpa using hl) (by omega) (by omega)
   refine ⟨bs', ?_,l',fun t=>?_⟩
   ·rw[IF,HB]
    have w:Ac ((e2:Int).tdiv 8)=(hi:Int):=by rw[show ((e2:Int)).tdiv 8=((e2/8:Nat):Int) from rfl,hh]; exact Ad (by unfold AW; omega)
    have q:decide ((x:Int)≤(hi:Int))=true:=decide_eq_true (by omega)
    have w1:Ac ((x:Int)+1)=((x+1:Nat):Int):=Ad (by unfold AW; omega)
    simp only[w,q,cond_true]
    rw[if_neg (by decide),if_pos (by omega)]
    simp only[Int.toNat_natCast,Nat.zero_add,Nat.mul_one,hs,Option.bind_some,w1,e,List.set_set]
   ·rw[g t,mw bs x t true hx8]
    by_cases ht:t=x
    ·subst ht; simp; omega
    ·rw[if_neg ht]
     congr 1
     exact decide_eq_decide.2 (by omega)
theorem YI (k:Nat) (hk:100≤k) (hI:Inv m) (hI2:Inv2 m) {b:Nat} (hbl:b<m.bls.length) (hst:(m.bls.getD b (0,0)).1=1) (hb:Nat) (hnb:hb ∉ i.l) (L:List Nat) (hL:∀ j ∈ L,Start m j∧32*b≤j∧j<32*b+32) (hLl:L.length≤32) (lo:Nat) (s:E8) (hsb:∀ a,s.1=some a→a.block≠hb):∀ (n x f:Nat) (σ:Aa) (bs:List Bool),Ah σ i m→σ[hb]?=some (.cells (Gf bs) Eg true)→Du lo σ s (EE L)→bs.length=8→x+n=L.length→n<f →
  ∃ σ' bs',Dk (k+3) f (DW i) hb 8 s.1 s.2.1 s.2.2 (L.length:Int) (x:Int) σ=some (.exit 0,[],σ')∧Ah σ' i m∧σ'[hb]?=some (.cells (Gf bs') Eg true)∧bs'.length=8∧(∀ t,bs'.getD t false=true↔bs.getD t false=true ∨ ∃ j ∈ L.drop x,kc m j t)∧σ.length≤σ'.length ∧ ∀ q,q<σ.length→q≠hb→σ'[q]?=σ[q]?
 | 0,x,0,σ,bs,h,hc,hs,hl,hx,hf=>by omega
 | 0,x,f+1,σ,bs,h,hc,hs,hl,hx,hf=>by
   rw[IE,HA]
   have q:decide ((x:Int)<(L.length:Int))=false:=decide_eq_false (by omega)
   refine ⟨σ,bs,by simp only[q,cond_false],h,hc,hl,fun t=>?_,Nat.le_refl _,fun _ _ _=>rfl⟩
   rw[List.drop_eq_nil_of_le (by omega)]
   simp
 | n+1,x,0,σ,bs,h,hc,hs,hl,hx,hf=>by omega
 | n+1,x,f+1,σ,bs,h,hc,hs,hl,hx,hf=>by
   have hxl:x<L.length:=by omega
   obtain ⟨j1,j2,j3⟩:=hL _ (List.getElem_mem hxl)
   have hj:=j1.1
   have ht:=h.nt
   obtain ⟨z1,z2⟩:=fp hI hI2 hst j1 j2 j3
   have hz:=hI.size j1
   have al:(EE L).length=L.length:=by simp[EE]
   obtain ⟨τ,e⟩:=ZM k h hj
   obtain ⟨jx,hjx⟩:∃ jx,L[x]=jx:=⟨_,rfl⟩
   rw[hjx] at j1 j2 j3 hj z1 z2 hz e
   have hc1:(σ++τ)[hb]?=some (.cells (Gf bs) Eg true):=by rw[List.getElem?_append_left (Ae hc)]; exact hc
   obtain ⟨bs1,e1,l1,g1⟩:=YJ (k+3) hb (2*jx % 64+sz m jx-1) ((2*jx % 64+sz m jx-1)/8) (by omega) rfl ((2*jx % 64+sz m jx-1)/8+1-2*jx % 64/8) (2*jx % 64/8) (k+3) (σ++τ) bs hc1 hl (by omega) (by omega)
   obtain ⟨σ1,hσ1⟩:∃ σ1,(σ++τ).set hb (.cells (Gf bs1) Eg true)=σ1:=⟨_,rfl⟩
   rw[hσ1] at e1
   have hlt:=Ae hc1
   have len1:σ1.length=σ.length+τ.length:=by rw[← hσ1]; simp
   have same1:∀ q,q<σ.length→q≠hb→σ1[q]?=σ[q]?:=fun q hq hne=>by
    rw[← hσ1,List.getElem?_set_ne (Ne.symm hne),List.getElem?_append_left hq]
   have h1:Ah σ1 i m:=h.CT fun q hq=>same1 q (h.lt q hq) (fun e=>hnb (e ▸ hq))
   have c1:σ1[hb]?=some (.cells (Gf bs1) Eg true):=by rw[← hσ1]; exact List.getElem?_set_self hlt
   have s1:Du lo σ1 s (EE L):=by
    rcases hs with hs | ⟨q,a1,rfl,a3,a4⟩
    ·exact .inl hs
    ·exact .inr ⟨q,a1,rfl,a3,by rw[same1 q (Ae a4) (hsb _ rfl)]; exact a4⟩
   obtain ⟨σ2,bs2,e2,h2,c2,l2,g2,len2,same2⟩:=YI k hk hI hI2 hbl hst hb hnb L hL hLl lo s hsb n (x+1) f σ1 bs1 h1 c1 s1 l1 (by omega) (by omega)
   refine ⟨σ2,bs2, ?_,h2,c2,l2,fun t=>?_,by omega,fun q hq hne=>(same2 q (by omega) hne).trans (same1 q hq hne)⟩
   ·have hs':=hs
    rcases hs with ⟨he,_⟩ | ⟨q,hb1,rfl,hb2,hb3⟩
    ·rw[he] at al; simp at al; omega
    rw[IE,HA]
    have q0:decide ((x:Int)<(L.length:Int))=true:=decide_eq_true (by omega)
    have w1:Ac ((x:Int)+1)=((x+1:Nat):Int):=Ad (by unfold AW; omega)
    have tF:Ai .i64 σ q x=some ((2*jx:Nat):Int):=by
     rw[hs'.ld (by omega),SM L hxl,hjx]
    have m1:(((2*jx:Nat):Int)).tmod 64=((2*jx % 64:Nat):Int):=rfl
    have m2:Ac ((((2*jx % 64:Nat):Int)).tdiv 8)=((2*jx % 64/8:Nat):Int):=by rw[show ((((2*jx % 64:Nat):Int)).tdiv 8)=((2*jx % 64/8:Nat):Int) from rfl]; exact Ad (by unfold AW; omega)
    have m3:Ac (((2*jx % 64:Nat):Int)+(sz m jx:Int))=((2*jx % 64+sz m jx:Nat):Int):=by rw[Ad (by unfold AW; omega)]; omega
    have m4:Ac (((2*jx % 64+sz m jx:Nat):Int)-1)=((2*jx % 64+sz m jx-1:Nat):Int):=by rw[Ad (by unfold AW; omega)]; omega
    simp only[q0,cond_true]
    rw[if_pos (by omega)]
    simp only[Option.bind_some,Nat.zero_add,Int.toNat_natCast,Nat.mul_one,tF,show ((64:Int)=0)=False from by decide,show ((8:Int)=0)=False from by decide,if_false,e,Am,m1,m2,m3,m4,e1,if_true,w1]
    exact e2
   ·rw[g2 t,List.drop_eq_getElem_cons hxl,hjx]
    have:=g1 t
    constructor
    ·rintro (a | ⟨j,a1,a2⟩)
     ·rw[this,Bool.or_eq_true,decide_eq_true_eq] at a
      rcases a with a | a
      ·exact .inl a
      ·exact .inr ⟨jx,List.mem_cons_self,a⟩
     ·exact .inr ⟨j,List.mem_cons_of_mem _ a1,a2⟩
    ·rintro (a | ⟨j,a1,a2⟩)
     ·left; rw[this,a]; rfl
     ·rcases List.mem_cons.1 a1 with rfl | a1
      ·left; rw[this,Bool.or_eq_true,decide_eq_true_eq]; exact .inr a2
      ·exact .inr ⟨j,a1,a2⟩
theorem Du.ge {lo:Nat} {s:E8} {l:List Int} (h:Du lo σ s l):∀ a,s.1=some a→lo≤a.block∧a.block<σ.length:=by
 rcases h with ⟨_,rfl⟩ | ⟨b,h1,rfl,_,h2⟩
 ·intro a e; cases e
 ·intro a e; cases e; exact ⟨h1,Ae h2⟩
theorem ny (k:Nat) (h:Ah σ i m) {b:Nat} (hb:b<m.bls.length) (hn:¬ (1≤b∧(m.bls.getD b (0,0)).1=1)):DY (k+4) (DW i) (b:Int) σ=some (.slice none 0 0,σ):=by
 rw[HG,H9]
 simp only[gj _ h hb,Option.bind_some,As,decide_eq_false hn,Bool.not_false,cond_true]
theorem nz (k:Nat) (hk:5000≤k) (h:Ah σ i m) (hI:Inv m) (hI2:Inv2 m) {b:Nat} (hb:b<m.bls.length) (h1:1≤b) (hst:(m.bls.getD b (0,0)).1=1):
  ∃ τ bs,DY (k+7) (DW i) (b:Int) σ=some (.slice (some ⟨σ.length,0,none⟩) 8 8,σ++τ)∧(σ++τ)[σ.length]?=some (.cells (Gf bs) Eg true)∧bs.length=8∧(∀ t,bs.getD t false=true ↔ ∃ j ∈ Cf m (32*b) 32,kc m j t):=by
 have hu:Ca (k+6) (DW i) (b:Int) σ=_:=gj (k+3) h hb
 obtain ⟨σ1,hσ1⟩:∃ σ1,σ++[Bi.cells (Gf (List.replicate 8 false)) Eg true]=σ1:=⟨_,rfl⟩
 have h1':Ah σ1 i m:=hσ1 ▸ h.app _
 have c1:σ1[σ.length]?=some (.cells (Gf (List.replicate 8 false)) Eg true):=by rw[← hσ1]; simp
 obtain ⟨τ2,s,e2,i2⟩:=Wk k hk h1' hb
 have hL:∀ j ∈ Cf m (32*b) 32,Start m j∧32*b≤j∧j<32*b+32:=by
  intro j hj
  obtain ⟨a,b',c⟩:=Hj.1 hj
  exact ⟨⟨by omega,c⟩,a,b'⟩
 have hnb:σ.length ∉ i.l:=fun hm=>Nat.lt_irrefl _ (h.lt _ hm)
 have hlen1:σ1.length=σ.length+1:=by rw[← hσ1]; simp
 obtain ⟨σ3,bs,e3,h3,c3,l3,g3,len3,same3⟩:=YI (k+3) (by omega) hI hI2 hb hst σ.length hnb _ hL (Oz m _ _) σ1.length s (fun a ha=>by have:=(i2.ge a ha).1; omega) (Cf m (32*b) 32).length 0 (k+6) (σ1++τ2) (List.replicate 8 false) (h1'.app τ2)
  (by rw[List.getElem?_append_left (Ae c1)]; exact c1) i2 rfl (by omega) (by have:=Oz m (32*b) 32; omega)
 have hl2:σ.length≤σ3.length:=by simp at len3; omega
 have eσ:σ3=σ++σ3.drop σ.length:=by
  apply List.ext_getElem?
  intro q
  by_cases hq:q<σ.length
  ·rw[List.getElem?_append_left hq,same3 q (by simp; omega) (by omega),List.getElem?_append_left (by omega),← hσ1,List.getElem?_append_left hq]
  ·rw[List.getElem?_append_right (by omega),List.getElem?_drop]
   rw[show σ.length+(q-σ.length)=q from by omega]
 refine ⟨σ3.drop σ.length,bs, ?_,by rw[← eσ]; exact c3,l3,fun t=>?_⟩
 ·rw[HG,H9]
  have hl:=i2.len
  rw[show (EE (Cf m (32*b) 32)).length=(Cf m (32*b) 32).length from by simp[EE]] at hl
  simp only[hu,Option.bind_some,As,decide_eq_true (And.intro h1 hst),Bool.not_true,cond_false]
  have q8:(0≤(8:Int)∧(8:Int)≤(8:Int)∧(8:Int)*((1:Nat):Int)≤2 ^ 40∧(8:Int)≤2 ^ 40)=True:=eq_true (⟨by omega,by omega,by omega,by omega⟩)
  simp only[q8,if_true,Ap,show (8:Int).toNat=8 from rfl,oW,hσ1,e2,Option.bind_some,H7,hl]
  rw[show ((0:Nat):Int)=0 from rfl,hl] at e3
  simp only[e3,Option.bind_some,if_true]
  rw[← eσ]
 ·rw[g3 t,List.drop_zero]
  constructor
  ·rintro (a | a)
   ·rw[List.getD_eq_getElem?_getD,List.getElem?_replicate] at a
    split at a <;> cases a
   ·exact a
  ·exact .inr
end Go.Proofs.YtlaplcglpnlieaaGreat
end
