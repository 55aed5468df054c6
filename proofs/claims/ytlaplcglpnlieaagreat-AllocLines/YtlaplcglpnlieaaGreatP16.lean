/- The document's heap: how calls turn both sides alike.; The document's heap in memory; looks.; The document's heap: looks at one object, one block, one -/
import Derived.Test.YtlaplcglpnlieaaGreatP15
set_option linter.unusedVariables false
set_option linter.unusedSimpArgs false
set_option linter.unusedSectionVars false
section
namespace Go.Proofs.YtlaplcglpnlieaaGreat
open Go Go.AX
variable {m:HM} {t:RM}
def NM (m:HM):Prop:=∀ j,j<32*m.bls.length→¬ Start m j→Gc 1 m.pnw j=0
theorem bm (hI:Inv m) {m':HM} {j j':Nat} (hs:Start m j) (hw:∀ c,c<sz m j→m'.wds.getD (2*j'+c) 0=m.wds.getD (2*j+c) 0) (hp:Gc 1 m'.pnw j'=Gc 1 m.pnw j):D1 m' j'={ D1 m j with addr:=((2*j':Nat):Int) }:=by
 have hz:=hI.size hs
 have w1:=hw 1 (by omega)
 obtain ⟨_,_,er,ed⟩:=VZ (m:=m) (m':=m') (j:=j) (j':=j') w1
 have ek:Hg m' j'=Hg m j:=by unfold Hg; rw[w1]
 have w0:=hw 0 (by omega)
 rw[Nat.add_zero,Nat.add_zero] at w0
 unfold D1
 rw[w0,er,ed,ek,hp,Vq (m:=m) (m':=m') (BP m j).toNat (2*j+2) (2*j'+2) (fun q hq=>by
  have:=hw (2+q) (by omega)
  rw[Nat.add_assoc,Nat.add_assoc]; exact this),Vq (m:=m) (m':=m') (Eu m j).toNat (2*j+2+(BP m j).toNat) (2*j'+2+(BP m j).toNat) (fun q hq=>by
  have:=hw (2+(BP m j).toNat+q) (by omega)
  rw[Nat.add_assoc (2*j'),Nat.add_assoc (2*j'),Nat.add_assoc (2*j),Nat.add_assoc (2*j)]; exact this)]
theorem PK (hI:Inv m) {m':HM} {j:Nat} (hs:Start m j) (hw:∀ c,c<sz m j→m'.wds.getD (2*j+c) 0=m.wds.getD (2*j+c) 0) (hp:Gc 1 m'.pnw j=Gc 1 m.pnw j):D1 m' j=D1 m j:=bm hI hs hw hp
def Tk:List RO→Int→Nat
 | [],_=>0
 | o::l,a=>if o.addr<a then Tk l a+1 else 0
def UU (l:List RO) (o:RO):List RO:=l.take (Tk l o.addr)++o::l.drop (Tk l o.addr)
theorem kB:∀ (l:List RO) (a:Int),Tk l a≤l.length
 | [],_=>Nat.le_refl _
 | o::l,a=>by
   rw[Tk]
   split
   ·have:=kB l a; simp; omega
   ·simp
theorem gP (f:Nat→RO) (hf:∀ j,(f j).addr=((2*j:Nat):Int)) (j:Nat):∀ (L:List Nat),L.Pairwise (·<·)→(∀ y ∈ L.take (Tk (L.map f) ((2*j:Nat):Int)),y<j)∧(∀ y ∈ L.drop (Tk (L.map f) ((2*j:Nat):Int)),j≤y)
 | [],_=>⟨fun y h=>(by simp at h),fun y h=>(by simp at h)⟩
 | b::L,h=>by
   have p:=List.pairwise_cons.1 h
   obtain ⟨h1,h2⟩:=gP f hf j L p.2
   simp only[List.map_cons,Tk,hf]
   split
   ·rw[List.take_succ_cons,List.drop_succ_cons]
    refine ⟨fun y hy=>?_,h2⟩
    rcases List.mem_cons.1 hy with rfl | hy
    ·omega
    ·exact h1 y hy
   ·rw[List.take_zero,List.drop_zero]
    refine ⟨fun y hy=>(by cases hy),fun y hy=>?_⟩
    rcases List.mem_cons.1 hy with rfl | hy
    ·omega
    ·have:=p.1 y hy; omega
theorem gN {m':HM} {L:List Nat} {j:Nat} {o:RO} (hs:L.Pairwise (·<·)) (hj:j ∉ L) (hst:∀ y,Start m' y↔y=j∨y ∈ L) (f:Nat→RO) (hf:∀ j,(f j).addr=((2*j:Nat):Int)) (hfL:∀ y ∈ L,D1 m' y=f y) (ho:D1 m' j=o):KE m'=UU (L.map f) o:=by
 have ha:o.addr=((2*j:Nat):Int):=by rw[← ho]; rfl
 obtain ⟨h1,h2⟩:=gP f hf j L hs
 unfold UU
 rw[ha]
 obtain ⟨p,hp⟩:∃ p,Tk (L.map f) ((2*j:Nat):Int)=p:=⟨_,rfl⟩
 rw[hp] at h1 h2 ⊢
 have hsplit:=List.take_append_drop p L
 have hs':(L.take p++L.drop p).Pairwise (·<·):=by rw[hsplit]; exact hs
 rw[List.pairwise_append] at hs'
 rw[eK (l:=L.take p++j::L.drop p) ?_ ?_,List.map_append,List.map_cons,← List.map_take,← List.map_drop,ho]
 ·congr 1
  ·exact List.map_congr_left fun y hy=>hfL y (List.mem_of_mem_take hy)
  ·congr 1
   exact List.map_congr_left fun y hy=>hfL y (List.mem_of_mem_drop hy)
 ·rw[List.pairwise_append,List.pairwise_cons]
  refine ⟨hs'.1,⟨fun y hy=>?_,hs'.2.1⟩,fun x hx y hy=>?_⟩
  ·have:=h2 y hy
   have:y≠j:=fun e=>hj (e ▸ List.mem_of_mem_drop hy)
   omega
  ·rcases List.mem_cons.1 hy with rfl | hy
   ·exact h1 x hx
   ·exact hs'.2.2 x hx y hy
 ·intro y
  rw[hst y,List.mem_append,List.mem_cons]
  constructor
  ·rintro (h | h | h)
   ·exact .inr (List.mem_of_mem_take h)
   ·exact .inl h
   ·exact .inr (List.mem_of_mem_drop h)
  ·rintro (h | h)
   ·exact .inr (.inl h)
   ·rw[← hsplit,List.mem_append] at h
    rcases h with h | h
    ·exact .inl h
    ·exact .inr (.inr h)
theorem Yy {m':HM}:∀ (n a:Nat),(∀ q,q<n→m'.wds.getD (a+q) 0=0)→Q7 m' a n=List.replicate n 0
 | 0,a,h=>rfl
 | n+1,a,h=>by
   rw[Sz,List.replicate_succ,Yy n (a+1) (fun q hq=>by have:=h (q+1) (by omega); rw[show a+1+q=a+(q+1) from by omega]; exact this)]
   have:=h 0 (by omega)
   rw[Nat.add_zero] at this
   rw[this]
theorem RQ.Dd {m':HM} {t':RM} (h:RQ m t) (hb:t'.bl=m'.bls) (ho:t'.ob=KE m') (hn:t'.born=m'.births) (hf:t'.fw=t.fw) (hm:m'.fw=m.fw):RQ m' t':=
 ⟨hb,ho,hn,by rw[hf,hm]; exact h.fw,by rw[hf,hm]; exact h.fl,by rw[hf]; exact h.o1,by rw[hm]; exact h.o2⟩
theorem Rk (hS:Sh m) {j:Nat} (hj:j<32*m.bls.length) (n:Int) (a:Nat):(D4 m j n).wds.getD a 0=if a=2*j+1 then n else if a=2*j then m.births+1 else m.wds.getD a 0:=by
 have:=hS.wl
 show ((m.wds.set (2*j) (m.births+1)).set (2*j+1) n).getD a 0=_
 rw[CK,CK,List.length_set]
 by_cases h1:a=2*j+1
 ·subst h1; rw[if_pos ⟨rfl,by omega⟩,if_pos rfl]
 ·rw[if_neg (fun h=>h1 h.1.symm),if_neg h1]
  by_cases h2:a=2*j
  ·subst h2; rw[if_pos ⟨rfl,by omega⟩,if_pos rfl]
  ·rw[if_neg (fun h=>h2 h.1.symm),if_neg h2]
theorem RQ.place (h:RQ m t) (hI:Inv m) (hI2:Inv2 m) (hS:Sh m) (hP:NM m) {j:Nat} {r d k:Int} (hv:valid r d k=true) (hj:j<32*m.bls.length)
  (hap:∀ o,Start m o→2*o+sz m o≤2*j∨2*j+SF (num r d k)≤2*o):RQ (D4 m j (num r d k)) { t with born:=t.born+1,ob:=UU t.ob ⟨((2*j:Nat):Int),t.born+1,r,d,k,List.replicate r.toNat 0,List.replicate d.toNat 0,false⟩ }∧NM (D4 m j (num r d k)):=by
 have hsl:=hS.sl
 obtain ⟨p1,p2,p3,_⟩:=Oi hv
 have hsz:=O4 hv
 have hv':=hv
 simp[valid] at hv'
 have hnot:¬ Start m j:=by
  intro hs
  have:=hap j hs
  have:=hI.size hs
  rcases this with ⟨_,_⟩
  rw[hsz] at *
  omega
 have hst:∀ y,Start (D4 m j (num r d k)) y↔y=j∨y ∈ D2 m:=fun y=>by rw[Rq hsl hj,Ej]
 have key:KE (D4 m j (num r d k))=UU (KE m) ⟨((2*j:Nat):Int),m.births+1,r,d,k,List.replicate r.toNat 0,List.replicate d.toNat 0,false⟩:=by
  refine gN (O6 m) (fun hm=>hnot (Ej.1 hm)) hst (D1 m) (IP m) (fun y hy=>?_) ?_
  ·have hy:=Ej.1 hy
   have hne:y≠j:=fun e=>hnot (e ▸ hy)
   have hz:=hI.size hy
   have:=hap y hy
   refine PK hI hy (fun c hc=>?_) rfl
   rw[Rk hS hj,if_neg (by rw[hsz] at this; omega),if_neg (by rw[hsz] at this; omega)]
  ·have w0:(D4 m j (num r d k)).wds.getD (2*j) 0=m.births+1:=by rw[Rk hS hj,if_neg (by omega),if_pos rfl]
   have w1:(D4 m j (num r d k)).wds.getD (2*j+1) 0=num r d k:=by rw[Rk hS hj,if_pos rfl]
   have e1:BP (D4 m j (num r d k)) j=r:=by unfold BP; rw[w1,p1]
   have e2:Eu (D4 m j (num r d k)) j=d:=by unfold Eu; rw[w1,p2]
   have e3:Hg (D4 m j (num r d k)) j=k:=by unfold Hg; rw[w1,p3]
   have hzero:∀ a,2*j+2≤a→a<2*j+SF (num r d k)→(D4 m j (num r d k)).wds.getD a 0=0:=by
    intro a h1 h2
    rw[Rk hS hj,if_neg (by omega),if_neg (by omega)]
    refine hI2.zero a fun o ho q1 q2=>?_
    have:=hap o ho
    have:=hI.use ho
    omega
   unfold D1
   rw[w0,e1,e2,e3,Yy,Yy]
   ·have:Gc 1 (D4 m j (num r d k)).pnw j=0:=hP j hj hnot
    rw[this]; rfl
   ·intro q hq; exact hzero _ (by omega) (by rw[hsz]; omega)
   ·intro q hq; exact hzero _ (by omega) (by rw[hsz]; omega)
 refine ⟨h.Dd h.bl ?_ ?_ rfl rfl,fun y hy hn=>?_⟩
 ·show UU t.ob _=_
  rw[key,h.ob,h.born]
 ·show t.born+1=m.births+1
  rw[h.born]
 ·exact hP y hy fun hs=>hn ((Rq hsl hj).2 (.inr hs))
theorem da {α β:Type} (f:α→β):∀ (l:List α) (x:Nat),(l.map f).eraseIdx x=(l.eraseIdx x).map f
 | [],_=>rfl
 | _::_,0=>rfl
 | a::l,x+1=>by simp[List.eraseIdx_cons_succ,da f l x]
theorem cG {m':HM} {x j:Nat} (hx:(D2 m)[x]?=some j) (hst:∀ y,Start m' y↔y≠j∧Start m y) (hr:∀ y,Start m y→y≠j→D1 m' y=D1 m y):KE m'=(KE m).eraseIdx x∧((D2 m).eraseIdx x).Pairwise (·<·)∧(∀ y,y ∈ (D2 m).eraseIdx x↔y≠j∧Start m y)∧(KE m).eraseIdx x=((D2 m).eraseIdx x).map (D1 m):=by
 obtain ⟨hxl,hxe⟩:=List.getElem?_eq_some_iff.1 hx
 have hs:=(O6 m).sublist (List.eraseIdx_sublist (D2 m) x)
 have hnd:(D2 m).Nodup:=X4 _ _
 have hm:∀ y,y ∈ (D2 m).eraseIdx x↔y≠j∧Start m y:=by
  intro y
  rw[List.mem_eraseIdx_iff_getElem]
  constructor
  ·rintro ⟨i,hi,hne,rfl⟩
   refine ⟨fun e=>hne ?_,Ej.1 (List.getElem_mem _)⟩
   exact (List.getElem_inj hnd).1 (e.trans hxe.symm)
  ·rintro ⟨hne,hy⟩
   obtain ⟨i,hi,rfl⟩:=List.mem_iff_getElem.1 (Ej.2 hy)
   exact ⟨i,hi,fun e=>hne (by subst e; exact hxe),rfl⟩
 have he:(KE m).eraseIdx x=((D2 m).eraseIdx x).map (D1 m):=by
  unfold KE; rw[da]
 refine ⟨?_,hs,hm,he⟩
 rw[eK hs (fun y=>by rw[hm,hst]),he]
 exact List.map_congr_left fun y hy=>hr y ((hm y).1 hy).2 ((hm y).1 hy).1
theorem RQ.kill (h:RQ m t) (hI:Inv m) (hS:Sh m) (hP:NM m) {x j:Nat} (hs:Start m j) (hx:(D2 m)[x]?=some j):RQ (LL m j) { t with ob:=t.ob.eraseIdx x }∧NM (LL m j):=by
 have hsl:=hS.sl
 have hpl:=hS.pl
 have hj:=hs.1
 have hst:∀ y,Start (LL m j) y↔y≠j∧Start m y:=fun y=>QD hsl hj
 obtain ⟨e1,_⟩:=cG hx hst (fun y hy hne=>PK hI hy (fun c hc=>Wt hI hs hy hne (by omega) (by omega)) (by
  show Gc 1 (Hk 1 m.pnw j 0) y=_
  rw[Cp (.inl rfl) (by decide) (Ne.symm hne)]))
 refine ⟨h.Dd h.bl ?_ h.born rfl rfl,fun y hy hn=>?_⟩
 ·show t.ob.eraseIdx x=_
  rw[e1,h.ob]
 ·show Gc 1 (Hk 1 m.pnw j 0) y=0
  by_cases e:y=j
  ·subst e; rw[F0 (.inl rfl) (by decide) (by omega)]
  ·rw[Cp (.inl rfl) (by decide) (Ne.symm e)]
   exact hP y hy fun hq=>hn ((hst y).2 ⟨e,hq⟩)
theorem TJ.getM_none {k:Int}:∀ {l:List (Int × Int)},getM l k=none → ∀ e ∈ l,e.1≠k
 | [],_,e,he=>by cases he
 | a::l,h,e,he=>by
   unfold getM at h
   rw[List.find?_cons] at h
   cases hq:(k == a.1) with
   | true=>rw[hq] at h; cases h
   | false=>
     rw[hq] at h
     rcases List.mem_cons.1 he with rfl | he
     ·exact fun e'=>by rw[e'] at hq; simp at hq
     ·exact TJ.getM_none (l:=l) h e he
theorem JC (a k:Int) (b:Int) (l:List (Int × Int)):getM ((a,b)::l) k=if k=a then some b else getM l k:=by
 unfold getM
 rw[List.find?_cons]
 by_cases h:k=a
 ·rw[if_pos h]; simp[h]
 ·rw[if_neg h]
  have:(k == a)=false:=by simpa using h
  simp only[this]
def pv (l:List (Int × Int)) (a b:Int):List (Int × Int):=(l.filter fun e=>e.1 != a)++[(a,b)]
theorem gv (l l':List (Int × Int)) (k:Int):getM (l++l') k=(getM l k).or (getM l' k):=by
 induction l with
 | nil=>simp[getM]
 | cons e l ih=>
   obtain ⟨x,y⟩:=e
   rw[List.cons_append,JC,JC,ih]
   split <;> simp
theorem UD (a k:Int):∀ l:List (Int × Int),getM (l.filter fun e=>e.1 != a) k=if k=a then none else getM l k
 | []=>by simp[getM]
 | (x,y)::l=>by
   rw[List.filter_cons]
   have ih:=UD a k l
   by_cases h:x=a
   ·subst h
    simp only[bne_self_eq_false,Bool.false_eq_true,if_false]
    rw[ih,JC]
    by_cases hk:k=x
    ·rw[if_pos hk,if_pos hk]
    ·rw[if_neg hk,if_neg hk,if_neg hk]
   ·have:(x != a)=true:=bne_iff_ne.2 h
    simp only[this,if_true]
    rw[JC,ih,JC]
    by_cases hk:k=x
    ·rw[if_pos hk,if_pos hk,if_neg (by omega)]
    ·rw[if_neg hk,if_neg hk]
theorem UQ (p:Int × Int→Bool):∀ l,TJ l→TJ (l.filter p)
 | [],_=>trivial
 | e::l,h=>by
   rw[List.filter_cons]
   split
   ·refine ⟨?_,UQ p l h.2⟩
    have h1:=h.1
    cases hq:getM (l.filter p) e.1 with
    | none=>rfl
    | some v=>
      unfold getM at hq
      cases hf:(l.filter p).find? (fun e'=>e.1 == e'.1) with
      | none=>rw[hf] at hq; cases hq
      | some e'=>
        have hm:=List.mem_of_find?_eq_some hf
        have he:=List.find?_some hf
        have:=TJ.getM_none h1 e' (List.mem_filter.1 hm).1
        simp at he
        exact absurd he.symm this
   ·exact UQ p l h.2
theorem aw (a:Int):∀ l:List (Int × Int),TJ l→(l.filter fun e=>e.1 != a).length+(if (getM l a).isSome then 1 else 0)=l.length
 | [],_=>by simp[getM]
 | (x,y)::l,h=>by
   have ih:=aw a l h.2
   rw[List.filter_cons,JC]
   by_cases he:x=a
   ·subst he
    have h1:getM l x=none:=h.1
    rw[h1] at ih
    simp at ih ⊢
    exact ih
   ·have:(x != a)=true:=bne_iff_ne.2 he
    simp only[this,if_true]
    rw[if_neg (Ne.symm he)]
    simp only[List.length_cons]
    omega
theorem bB (a b:Int):∀ l:List (Int × Int),(Q8 a b l).length=if (getM l a).isSome then l.length else l.length+1
 | []=>by simp[Q8,getM]
 | (x,y)::l=>by
   have ih:=bB a b l
   rw[Q8,JC]
   by_cases he:a=x
   ·subst he; simp
   ·have:(a == (x,y).1)=false:=by simpa using he
    simp only[this,Bool.false_eq_true,if_false,if_neg he,List.length_cons,ih]
    split <;> rfl
theorem dg (a b:Int):∀ l:List (Int × Int),TJ l→getM l a=none→TJ (l++[(a,b)])
 | [],_,_=>⟨rfl,trivial⟩
 | (x,y)::l,h,hn=>by
   rw[JC] at hn
   have hne:a≠x:=fun e=>by rw[if_pos e] at hn; cases hn
   rw[if_neg hne] at hn
   refine ⟨?_,dg a b l h.2 hn⟩
   show getM (l++[(a,b)]) x=none
   rw[gv,show getM l x=none from h.1,JC,if_neg (Ne.symm hne)]; rfl
theorem RQ.fwd {m':HM} {t':RM} (h:RQ m t) (a b:Int) (hb:t'.bl=m'.bls) (ho:t'.ob=KE m') (hn:t'.born=m'.births) (hf:t'.fw=pv t.fw a b) (hm:m'.fw=Q8 a b m.fw):RQ m' t':=by
 have hno:getM (t.fw.filter fun e=>e.1 != a) a=none:=by rw[UD,if_pos rfl]
 refine ⟨hb,ho,hn,fun k=>?_, ?_, ?_,by rw[hm]; exact UR _ _ _ h.o2⟩
 ·rw[hf,hm,Qq]
  unfold pv
  rw[gv,UD,JC]
  by_cases hk:k=a
  ·rw[if_pos hk,if_pos hk,if_pos hk]; rfl
  ·rw[if_neg hk,if_neg hk,if_neg hk,← h.fw k]
   cases getM t.fw k <;> rfl
 ·rw[hf,hm,bB]
  unfold pv
  have h1:=aw a t.fw h.o1
  rw[h.fw a] at h1
  have h2:=h.fl
  rw[List.length_append]
  simp only[List.length_cons,List.length_nil]
  cases hq:(getM m.fw a).isSome with
  | true=>rw[hq] at h1; simp only[if_true] at h1 ⊢; omega
  | false=>rw[hq] at h1; simp only[Bool.false_eq_true,if_false] at h1 ⊢; omega
 ·rw[hf]
  exact dg _ _ _ (UQ _ _ h.o1) hno
theorem RQ.move (h:RQ m t) (hI:Inv m) (hS:Sh m) (hP:NM m) {x j u:Nat} (hs:Start m j) (hx:(D2 m)[x]?=some j) (hu:u<32*m.bls.length) (hfit:2*u+sz m j≤m.wds.length)
  (hap:∀ o,Start m o→o≠j→2*o+sz m o≤2*u∨2*u+sz m j≤2*o):RQ (Qy m j u) { t with ob:=UU (t.ob.eraseIdx x) { D1 m j with addr:=((2*u:Nat):Int) },fw:=pv t.fw ((2*j:Nat):Int) ((2*u:Nat):Int) }∧NM (Qy m j u):=by
 have hsl:=hS.sl
 have hpl:=hS.pl
 have hz:=hI.size hs
 have tl:=pH 1 m.pnw j
 have hst:=fun y=>bJ (m:=m) hS (j:=j) (t:=u) (j':=y) hs.1 hu
 have hno:∀ o,Start m o→o≠j→o≠u:=by
  rintro o ho e rfl
  have:=hap o ho e
  have:=hI.size ho
  omega
 obtain ⟨_,e2,e3,e4⟩:=cG (m':=LL m j) hx (fun y=>QD hsl hs.1) (fun y hy hne=>PK hI hy (fun c hc=>Wt hI hs hy hne (by omega) (by omega)) (by
  show Gc 1 (Hk 1 m.pnw j 0) y=_
  rw[Cp (.inl rfl) (by decide) (Ne.symm hne)]))
 have key:KE (Qy m j u)=UU ((KE m).eraseIdx x) { D1 m j with addr:=((2*u:Nat):Int) }:=by
  rw[e4]
  refine gN (j:=u) e2 (fun hm=>?_) (fun y=>?_) (D1 m) (IP m) (fun y hy=>?_) ?_
  ·obtain ⟨q1,q2⟩:=(e3 u).1 hm
   exact hno u q2 q1 rfl
  ·rw[hst,e3]
  ·obtain ⟨q1,q2⟩:=(e3 y).1 hy
   refine PK hI q2 (fun c hc=>aV hI hs hfit hap q2 q1 (by omega) (by omega)) ?_
   show Gc 1 (Hk 1 (Hk 1 m.pnw j 0) u (Gc 1 m.pnw j)) y=_
   rw[Cp (.inl rfl) tl (Ne.symm (hno y q2 q1)),Cp (.inl rfl) (by decide) (Ne.symm q1)]
  ·refine bm hI hs (fun c hc=>?_) ?_
   ·rw[Th hI hs hfit,if_pos (by omega),show 2*j+(2*u+c-2*u)=2*j+c from by omega]
   ·show Gc 1 (Hk 1 (Hk 1 m.pnw j 0) u (Gc 1 m.pnw j)) u=_
    rw[F0 (.inl rfl) tl (by rw[MG]; omega)]
 refine ⟨h.fwd _ _ h.bl ?_ h.born rfl rfl,fun y hy hn=>?_⟩
 ·show UU (t.ob.eraseIdx x) _=_
  rw[key,h.ob]
 ·show Gc 1 (Hk 1 (Hk 1 m.pnw j 0) u (Gc 1 m.pnw j)) y=0
  have hy:y<32*m.bls.length:=hy
  have h1:y≠u:=fun e=>hn ((hst y).2 (.inl e))
  rw[Cp (.inl rfl) tl (Ne.symm h1)]
  by_cases e:y=j
  ·subst e; rw[F0 (.inl rfl) (by decide) (by omega)]
  ·rw[Cp (.inl rfl) (by decide) (Ne.symm e)]
   exact hP y hy fun hq=>hn ((hst y).2 (.inr ⟨e,hq⟩))
theorem kG {m':HM} {x j:Nat} {o:RO} (hx:(D2 m)[x]?=some j) (hst:∀ y,Start m' y↔Start m y) (hr:∀ y,Start m y→y≠j→D1 m' y=D1 m y) (ho:D1 m' j=o):KE m'=(KE m).set x o:=by
 obtain ⟨hxl,hxe⟩:=List.getElem?_eq_some_iff.1 hx
 have hnd:(D2 m).Nodup:=X4 _ _
 rw[eK (O6 m) (fun y=>by rw[Ej,hst])]
 apply List.ext_getElem?
 intro i
 unfold KE
 rw[List.getElem?_map,List.getElem?_set,List.length_map,List.getElem?_map]
 by_cases e:x=i
 ·subst e
  rw[if_pos rfl,if_pos hxl,hx,← ho]; rfl
 ·rw[if_neg e]
  cases hq:(D2 m)[i]? with
  | none=>rfl
  | some y=>
    obtain ⟨hil,hie⟩:=List.getElem?_eq_some_iff.1 hq
    have hy:Start m y:=Ej.1 (hie ▸ List.getElem_mem hil)
    show some _=some _
    rw[hr y hy (fun e'=>e ((List.getElem_inj hnd).1 (hxe.trans (e'.symm.trans hie.symm))))]
theorem hU {m':HM} {a i n:Nat} {v:Int} (hi:i<n) (hal:a+i<m.wds.length) (hw:m'.wds=m.wds.set (a+i) v):Q7 m' a n=(Q7 m a n).set i v:=by
 apply List.ext_getElem?
 intro q
 rw[List.getElem?_set,Vb]
 by_cases hq:q<n
 ·rw[bA m' n a q hq,hw,CK]
  by_cases e:i=q
  ·subst e; rw[if_pos ⟨rfl,hal⟩,if_pos rfl,if_pos hi]
  ·rw[if_neg (fun h=>e (by omega)),if_neg e,bA m n a q hq]
 ·rw[List.getElem?_eq_none (by rw[Vb]; omega),if_neg (by omega),List.getElem?_eq_none (by rw[Vb]; omega)]
theorem hO {m':HM} {a n p:Nat} {v:Int} (h:p<a∨a+n≤p) (hw:m'.wds=m.wds.set p v):Q7 m' a n=Q7 m a n:=
 Vq n a a fun q hq=>by rw[hw,CK,if_neg (by omega)]
theorem RQ.word (h:RQ m t) (hI:Inv m) (hP:NM m) {x j q:Nat} (hs:Start m j) (hx:(D2 m)[x]?=some j) (hq:2+q<use m j) (v:Int):
  RQ (P6 m (2*j+2+q) v) { t with ob:=t.ob.set x (if (q:Int)<BP m j then { D1 m j with refs:=(D1 m j).refs.set q v } else { D1 m j with data:=(D1 m j).data.set (q-(BP m j).toNat) v }) }∧NM (P6 m (2*j+2+q) v):=by
 have hu:=hI.use hs
 have hfit:=hI.fit j hs
 have hst:∀ y,Start (P6 m (2*j+2+q) v) y↔Start m y:=fun y=>Iff.rfl
 obtain ⟨_,r1,r2,r3,r4,_⟩:=iy hI hs
 have key:=iz hI hs (t:=q) (by omega) v
 have e:KE (P6 m (2*j+2+q) v)=(KE m).set x (if (q:Int)<BP m j then { D1 m j with refs:=(D1 m j).refs.set q v } else { D1 m j with data:=(D1 m j).data.set (q-(BP m j).toNat) v }):=by
  refine kG hx hst (fun y hy hne=>?_) ?_
  ·refine PK hI hy (fun c hc=>?_) rfl
   show (m.wds.set _ _).getD _ 0=_
   rw[CK,if_neg]
   rintro ⟨e,_⟩
   exact hne (ZQ hI hy hs (a:=2*j+2+q) (by omega) (by omega) (by omega) (by omega))
  ·have k0:=key j hs 0 (by decide)
   have k1:=key j hs 1 (by decide)
   obtain ⟨_,_,er,ed⟩:=VZ (m:=m) (m':=P6 m (2*j+2+q) v) (j:=j) (j':=j) k1
   have ek:Hg (P6 m (2*j+2+q) v) j=Hg m j:=by unfold Hg; rw[k1]
   simp only[Nat.add_zero] at k0
   unfold D1
   rw[k0,er,ed,ek]
   by_cases hc:(q:Int)<BP m j
   ·have a1:Q7 (P6 m (2*j+2+q) v) (2*j+2) (BP m j).toNat=(Q7 m (2*j+2) (BP m j).toNat).set q v:=hU (by omega) (by omega) rfl
    have a2:Q7 (P6 m (2*j+2+q) v) (2*j+2+(BP m j).toNat) (Eu m j).toNat=Q7 m (2*j+2+(BP m j).toNat) (Eu m j).toNat:=hO (p:=2*j+2+q) (v:=v) (by omega) rfl
    rw[if_pos hc,a1,a2]
    rfl
   ·have a1:Q7 (P6 m (2*j+2+q) v) (2*j+2) (BP m j).toNat=Q7 m (2*j+2) (BP m j).toNat:=hO (p:=2*j+2+q) (v:=v) (by omega) rfl
    have a2:Q7 (P6 m (2*j+2+q) v) (2*j+2+(BP m j).toNat) (Eu m j).toNat=(Q7 m (2*j+2+(BP m j).toNat) (Eu m j).toNat).set (q-(BP m j).toNat) v:=hU (by omega) (by omega) (by
     show m.wds.set _ _=_
     rw[show 2*j+2+q=2*j+2+(BP m j).toNat+(q-(BP m j).toNat) from by omega])
    rw[if_neg hc,a1,a2]
    rfl
 exact ⟨h.Dd h.bl (by show t.ob.set x _=_; rw[e,h.ob]) h.born rfl rfl,hP⟩
theorem RQ.pins (h:RQ m t) (hI:Inv m) (hS:Sh m) (hP:NM m) {x j:Nat} (hs:Start m j) (hx:(D2 m)[x]?=some j) (b:Bool):
  RQ { m with pnw:=Hk 1 m.pnw j (if b then 1 else 0) } { t with ob:=t.ob.set x { D1 m j with pin:=b } }∧NM { m with pnw:=Hk 1 m.pnw j (if b then 1 else 0) }:=by
 have hpl:=hS.pl
 have hj:=hs.1
 have hb:(if b then 1 else 0)<2 ^ 1:=by cases b <;> decide
 have e:KE { m with pnw:=Hk 1 m.pnw j (if b then 1 else 0) }=(KE m).set x { D1 m j with pin:=b }:=by
  refine kG hx (fun y=>Iff.rfl) (fun y hy hne=>PK hI hy (fun c hc=>rfl) ?_) ?_
  ·show Gc 1 (Hk 1 m.pnw j _) y=_
   rw[Cp (.inl rfl) hb (Ne.symm hne)]
  ·show (⟨_,_,_,_,_,_,_,decide (Gc 1 (Hk 1 m.pnw j (if b then 1 else 0)) j=1)⟩:RO)=_
   rw[F0 (.inl rfl) hb (by omega)]
   cases b <;> rfl
 refine ⟨h.Dd h.bl (by show t.ob.set x _=_; rw[e,h.ob]) h.born rfl rfl,fun y hy hn=>?_⟩
 show Gc 1 (Hk 1 m.pnw j _) y=0
 have hne:y≠j:=fun e=>hn (e ▸ hs)
 rw[Cp (.inl rfl) hb (Ne.symm hne)]
 exact hP y hy hn
theorem RQ.forget (h:RQ m t):RQ { m with fw:=[] } { t with fw:=[] }:=⟨h.bl,h.ob,h.born,fun _=>rfl,rfl,trivial,trivial⟩
theorem RQ.blocks (h:RQ m t) (l:List (Int × Int)) (hl:l.length=m.bls.length):RQ { m with bls:=l } { t with bl:=l }:=by
 refine h.Dd rfl ?_ h.born rfl rfl
 show t.ob=_
 rw[h.ob]
 unfold KE D2
 show _=(Cj { m with bls:=l } 0 (32*l.length)).map _
 rw[hl]; rfl
theorem NM.blocks (hP:NM m) (l:List (Int × Int)) (hl:l.length=m.bls.length):NM { m with bls:=l }:=by
 intro y hy hn
 have hy:y<32*l.length:=hy
 refine hP y (by omega) fun hs=>hn ⟨?_,hs.2⟩
 show y<32*l.length
 exact hy
end Go.Proofs.YtlaplcglpnlieaaGreat
end
section
namespace Go.Proofs.YtlaplcglpnlieaaGreat
open Go Go.AX
noncomputable local instance uU:AK:=Au
local instance tQ:Kn:=⟨true⟩
variable {σ:Aa} {m:HM} {t:RM}
def KU (σ:Aa) (s:EF) (l:List Int):Prop:=s.2.1=l.length∧(l≠[] → ∃ b c,s=(some ⟨b,0,none⟩,l.length,c)∧σ[b]?=some (.cells (CS l) Bq true)) ∧ ∀ a,s.1=some a → ∃ cs T w,σ[a.block]?=some (.cells cs T w)∧a.off≤cs.length
def hs (s:EF):List Nat:=match s.1 with
 | some a=>[a.block]
 | none=>[]
theorem JR {s:EF} {b:Nat}:b ∈ hs s ↔ ∃ a,s.1=some a∧a.block=b:=by
 unfold hs
 cases s.1 with
 | none=>simp
 | some a=>simp[eq_comm]
def FE (o:RO) (p:EF × EF):List Value:=[.int .i64 o.addr,.int .i64 o.id,.int .i64 o.r,.int .i64 o.d,.int .i64 o.k,.slice p.1.1 p.1.2.1 p.1.2.2,.slice p.2.1 p.2.2.1 p.2.2.2,.bool o.pin]
def HN:List RO→List (EF × EF)→List Value
 | o::l,p::om=>FE o p++HN l om
 | _,_=>[]
theorem Vl:∀ (l:List RO) (om:List (EF × EF)),om.length=l.length→(HN l om).length=l.length*8
 | [],[],_=>rfl
 | [],p::om,h=>by simp at h
 | o::l,[],h=>by simp at h
 | o::l,p::om,h=>by
   have:=Vl l om (by simpa using h)
   simp[HN,FE,this]; omega
theorem de:∀ (l:List RO) (om:List (EF × EF)) (x:Nat) (h:x<l.length) (h':x<om.length) (q:Nat),q<8→(HN l om)[x*8+q]?=(FE l[x] om[x])[q]?
 | [],om,x,h,_,_,_=>by simp at h
 | o::l,[],x,_,h',_,_=>by simp at h'
 | o::l,p::om,0,h,h',q,hq=>by
   simp only[HN,Nat.zero_mul,Nat.zero_add,List.getElem_cons_zero]
   rw[List.getElem?_append_left (by simp[FE]; omega)]
 | o::l,p::om,x+1,h,h',q,hq=>by
   have ih:=de l om x (by simpa using h) (by simpa using h') q hq
   simp only[HN,List.getElem_cons_succ]
   rw[List.getElem?_append_right (by simp[FE]; omega),show (x+1)*8+q-(FE o p).length=x*8+q from by simp[FE]; omega,ih]
def dL (σ:Aa) (s:EF) (l:List (Int × Int)):Prop:=Cd Zh 2 σ s l.length (C3 l)∨(l=[] ∧ ∃ b cs T w,s=(some ⟨b,0,some 0⟩,0,0)∧σ[b]?=some (.cells cs T w))
theorem dL.Dd {σ':Aa} {s:EF} {l:List (Int × Int)} (h:dL σ s l) (hs:∀ a,s.1=some a→σ'[a.block]?=σ[a.block]?):dL σ' s l:=by
 rcases h with h | ⟨h0,b,cs,T,w,rfl,hc⟩
 ·exact .inl (h.Dd hs)
 ·exact .inr ⟨h0,b,cs,T,w,rfl,(hs _ rfl).trans hc⟩
theorem dL.form {s:EF} {l:List (Int × Int)} (h:dL σ s l):s=(s.1,l.length,l.length):=by
 rcases h with h | ⟨rfl,b,cs,T,w,rfl,hc⟩
 ·exact h.form
 ·rfl
theorem dL.sl {s:EF} {l:List (Int × Int)} (h:dL σ s l) {x:Nat} (hx:x<l.length):Cd Zh 2 σ s l.length (C3 l):=by
 rcases h with h | ⟨rfl,_⟩
 ·exact h
 ·simp at hx
structure RI where
 hb:Nat
 bs:EF
 os:EF
 fs:EF
 om:List (EF × EF)
def RI.l (i:RI):List Nat:=i.hb::(hs i.bs++(hs i.os++(hs i.fs++i.om.flatMap fun p=>hs p.1++hs p.2)))
structure N5 (σ:Aa) (i:RI) (t:RM):Prop where
 hp:σ[i.hb]?=some (.cells [.slice i.bs.1 i.bs.2.1 i.bs.2.2,.slice i.os.1 i.os.2.1 i.os.2.2,.slice i.fs.1 i.fs.2.1 i.fs.2.2,.int .i64 t.born] EE true)
 bl:Cd AA 2 σ i.bs t.bl.length (C3 t.bl)
 ob:Cd Aj 8 σ i.os t.ob.length (HN t.ob i.om)
 fw:dL σ i.fs t.fw
 ol:i.om.length=t.ob.length
 inn:∀ (x:Nat) (h:x<t.ob.length) (h':x<i.om.length),KU σ i.om[x].1 t.ob[x].refs∧KU σ i.om[x].2 t.ob[x].data
 nd:i.l.Nodup
 lt:∀ j ∈ i.l,j<σ.length
theorem KU.Dd {σ':Aa} {s:EF} {l:List Int} (h:KU σ s l) (hs:∀ b ∈ hs s,σ'[b]?=σ[b]?):KU σ' s l:=by
 refine ⟨h.1,fun hn=>?_,fun a ha=>?_⟩
 ·obtain ⟨b,c,rfl,hc⟩:=h.2.1 hn
  exact ⟨b,c,rfl,(hs b (JR.2 ⟨_,rfl,rfl⟩)).trans hc⟩
 ·obtain ⟨cs,T,w,h1,h2⟩:=h.2.2 a ha
  exact ⟨cs,T,w,(hs _ (JR.2 ⟨a,ha,rfl⟩)).trans h1,h2⟩
theorem RI.R5 (i:RI):i.hb ∈ i.l:=List.mem_cons_self
theorem RI.qu (i:RI) {b:Nat} (h:b ∈ hs i.bs):b ∈ i.l:=List.mem_cons_of_mem _ (List.mem_append.2 (.inl h))
theorem RI.qJ (i:RI) {b:Nat} (h:b ∈ hs i.os):b ∈ i.l:=List.mem_cons_of_mem _ (List.mem_append.2 (.inr (List.mem_append.2 (.inl h))))
theorem RI.qw (i:RI) {b:Nat} (h:b ∈ hs i.fs):b ∈ i.l:=List.mem_cons_of_mem _ (List.mem_append.2 (.inr (List.mem_append.2 (.inr (List.mem_append.2 (.inl h))))))
theorem RI.Ww (i:RI) {b x:Nat} (hx:x<i.om.length) (h:b ∈ hs i.om[x].1∨b ∈ hs i.om[x].2):b ∈ i.l:=
 List.mem_cons_of_mem _ (List.mem_append.2 (.inr (List.mem_append.2 (.inr (List.mem_append.2 (.inr (List.mem_flatMap.2 ⟨_,List.getElem_mem hx,List.mem_append.2 h⟩)))))))
theorem N5.Dd {σ':Aa} {i:RI} (h:N5 σ i t) (hs:∀ j ∈ i.l,σ'[j]?=σ[j]?) (hl:σ.length≤σ'.length):N5 σ' i t where
 hp:=(hs _ i.R5).trans h.hp
 bl:=h.bl.Dd fun a ha=>hs _ (i.qu (JR.2 ⟨a,ha,rfl⟩))
 ob:=h.ob.Dd fun a ha=>hs _ (i.qJ (JR.2 ⟨a,ha,rfl⟩))
 fw:=h.fw.Dd fun a ha=>hs _ (i.qw (JR.2 ⟨a,ha,rfl⟩))
 ol:=h.ol
 inn:=fun x p q=>⟨(h.inn x p q).1.Dd fun b hb=>hs _ (i.Ww q (.inl hb)),(h.inn x p q).2.Dd fun b hb=>hs _ (i.Ww q (.inr hb))⟩
 nd:=h.nd
 lt:=fun j hj=>Nat.lt_of_lt_of_le (h.lt j hj) hl
theorem N5.app {i:RI} (h:N5 σ i t) (τ:Aa):N5 (σ++τ) i t:=h.Dd (fun j hj=>List.getElem?_append_left (h.lt j hj)) (by simp)
abbrev Ca (i:RI):Option Addr:=some ⟨i.hb,0,none⟩
variable {i:RI}
theorem N5.RK (h:N5 σ i t):Ee σ i.hb 0=some (i.bs.1,t.bl.length,t.bl.length):=by
 have:=h.bl.form
 simp only[Ee,Gs,h.hp]
 rw[this]; simp[Hm]
theorem N5.ML (h:N5 σ i t):Ee σ i.hb 1=some (i.os.1,t.ob.length,t.ob.length):=by
 have:=h.ob.form
 simp only[Ee,Gs,h.hp]
 rw[this]; simp[Hm]
theorem N5.js (h:N5 σ i t):Ee σ i.hb 2=some (i.fs.1,t.fw.length,t.fw.length):=by
 have:=h.fw.form
 simp only[Ee,Gs,h.hp]
 rw[this]; simp[Hm]
theorem N5.qX (h:N5 σ i t):Ai .i64 σ i.hb 3=some t.born:=by simp[Ai,Gs,h.hp,BF]
theorem Vm {E:TypeId} {sl:EF} {l:List (Int × Int)} (h:Cd E 2 σ sl l.length (C3 l)) {x:Nat} (hx:x<l.length):∃ b,sl.1=some ⟨b,0,none⟩∧Ai .i64 σ b (x*2)=some (l.getD x (0,0)).1∧Ai .i64 σ b (x*2+1)=some (l.getD x (0,0)).2∧σ[b]?=some (.cells (C3 l) E true):=by
 rcases h with ⟨h0,_⟩ | ⟨b,rfl,_,_,hc⟩
 ·omega
 ·obtain ⟨g0,g1⟩:=RZ l x hx
  rw[Nat.mul_comm] at g0 g1
  refine ⟨b,rfl, ?_, ?_,hc⟩
  ·simp only[Ai,Gs,hc,g0,Option.bind_some,Ao]
  ·simp only[Ai,Gs,hc,g1,Option.bind_some,Ao]
structure qk (σ:Aa) (b x:Nat) (o:RO) (p:EF × EF):Prop where
 l0:Ai .i64 σ b (x*8)=some o.addr
 l1:Ai .i64 σ b (x*8+1)=some o.id
 l2:Ai .i64 σ b (x*8+2)=some o.r
 l3:Ai .i64 σ b (x*8+3)=some o.d
 l4:Ai .i64 σ b (x*8+4)=some o.k
 l5:Ee σ b (x*8+5)=some (p.1.1,p.1.2.1,p.1.2.2)
 l6:Ee σ b (x*8+6)=some (p.2.1,p.2.2.1,p.2.2.2)
 l7:Wu σ b (x*8+7)=some o.pin
theorem N5.obj (h:N5 σ i t) {x:Nat} (hx:x<t.ob.length):∃ b,i.os.1=some ⟨b,0,none⟩∧σ[b]?=some (.cells (HN t.ob i.om) Aj true) ∧ ∀ (h':x<i.om.length),qk σ b x t.ob[x] i.om[x]:=by
 rcases h.ob with ⟨h0,_⟩ | ⟨b,e,_,_,hc⟩
 ·omega
 ·refine ⟨b,by rw[e],hc,fun h'=>?_⟩
  have g:=fun q hq=>de t.ob i.om x hx h' q hq
  have g0:=g 0 (by decide)
  rw[Nat.add_zero] at g0
  constructor
  ·simp only[Ai,Gs,hc,g0]; rfl
  ·simp only[Ai,Gs,hc,g 1 (by decide)]; rfl
  ·simp only[Ai,Gs,hc,g 2 (by decide)]; rfl
  ·simp only[Ai,Gs,hc,g 3 (by decide)]; rfl
  ·simp only[Ai,Gs,hc,g 4 (by decide)]; rfl
  ·simp only[Ee,Gs,hc,g 5 (by decide)]; rfl
  ·simp only[Ee,Gs,hc,g 6 (by decide)]; rfl
  ·simp only[Wu,Gs,hc,g 7 (by decide)]; rfl
theorem bj (k:Nat) (h:N5 σ i t) (hb:t.bl≠[]):Am (k+1) (Ca i) σ=some (.bool true,σ):=by
 have:0<t.bl.length:=List.length_pos_iff.2 hb
 rw[U7,QX]
 simp only[an,Option.bind_some,Bool.not_false,cond_true,Nat.zero_add,Nat.add_zero,h.RK]
 rw[decide_eq_true (by omega)]
theorem Xt (k:Nat) (h:N5 σ i t) (hn:t.ob.length≤5000) (a:Int):∀ (n x f:Nat),x+n=t.ob.length→n<f→EC k f (Ca i) a (x:Int) σ=some (match QM (t.ob.drop x) a with | some y=>(.ret,[.int .i64 ((x+y:Nat):Int)],σ) | none=>(.exit 0,[],σ))
 | 0,x,0,hx,hf=>by omega
 | 0,x,f+1,hx,hf=>by
   rw[L6,JJ,List.drop_eq_nil_of_le (by omega)]
   have q:decide ((x:Int)<((t.ob.length:Nat):Int))=false:=decide_eq_false (by omega)
   simp only[Option.bind_some,Nat.zero_add,Nat.add_zero,h.ML,q,cond_false,QM]
 | n+1,x,0,hx,hf=>by omega
 | n+1,x,f+1,hx,hf=>by
   have hxl:x<t.ob.length:=by omega
   have ih:=Xt k h hn a n (x+1) f (by omega) (by omega)
   obtain ⟨b,eb,_,L⟩:=h.obj hxl
   have L:=L (by rw[h.ol]; exact hxl)
   rw[List.drop_eq_getElem_cons hxl,L6,JJ,QM]
   have q:decide ((x:Int)<((t.ob.length:Nat):Int))=true:=decide_eq_true (by omega)
   have qx:(0≤(x:Int)∧(x:Int)<((t.ob.length:Nat):Int))=True:=eq_true (by omega)
   have w1:Ac ((x:Int)+1)=((x+1:Nat):Int):=Ad (by unfold AY; omega)
   simp only[Option.bind_some,Nat.zero_add,Nat.add_zero,h.ML,q,cond_true,qx,if_true,eb,Int.toNat_natCast,L.l0,w1]
   by_cases e:t.ob[x].addr=a
   ·rw[if_pos e,beq_iff_eq.2 e]; simp only[cond_true,Nat.add_zero]
   ·rw[if_neg e,beq_eq_false_iff_ne.2 e]
    simp only[cond_false,ih]
    cases QM (t.ob.drop (x+1)) a with
    | none=>rfl
    | some y=>simp only[Option.map_some,show x+(y+1)=x+1+y from by omega]
def jl (l:List RO) (a:Int):Int:=match QM l a with
 | some x=>(x:Int)
 | none=>-1
theorem dv (k:Nat) (hk:5000≤k) (h:N5 σ i t) (hb:t.bl≠[]) (hn:t.ob.length≤5000) (a:Int):Cs (k+2) (Ca i) a σ=some (.int .i64 (jl t.ob a),σ):=by
 have e:=Xt (k+1) h hn a t.ob.length 0 (k+1) (by omega) (by omega)
 rw[List.drop_zero,show ((0:Nat):Int)=0 from rfl] at e
 rw[TP,PT]
 simp only[bj k h hb,Option.bind_some,As,Bool.not_true,cond_false,e,jl]
 cases QM t.ob a with
 | none=>simp only[if_true]
 | some y=>simp only[reduceCtorEq,if_false,if_true,DZ,Nat.zero_add]
theorem nu {l:List RO} {a:Int}:decide (jl l a<0)=(QM l a).isNone:=by
 unfold jl
 cases QM l a with
 | none=>rfl
 | some y=>exact decide_eq_false (show ¬ ((y:Nat):Int)<0 by omega)
theorem mg (k:Nat) (hk:5000≤k) (h:N5 σ i t) (hb:t.bl≠[]) (hn:t.ob.length≤5000) (a:Int):FU (k+3) (Ca i) a σ=some (.int .i64 (if (QM t.ob a).isSome then 0 else 4),σ):=by
 rw[TY,Qb]
 simp only[bj (k+1) h hb,Option.bind_some,As,Bool.not_true,cond_false,dv k hk h hb hn a,Ao,nu]
 cases QM t.ob a <;> rfl
end Go.Proofs.YtlaplcglpnlieaaGreat
end
section
namespace Go.Proofs.YtlaplcglpnlieaaGreat
open Go Go.AX
noncomputable local instance uV:AK:=Au
local instance tR:Kn:=⟨true⟩
variable {σ:Aa} {m:HM} {t:RM} {i:RI}
structure RG (σ:Aa) (i:RI) (m:HM) (t:RM):Prop where
 at_:N5 σ i t
 sim:RQ m t
 inv:Inv m
 inv2:Inv2 m
 wl:m.wds.length=64*m.bls.length
 nb:2≤m.bls.length
 nt:m.bls.length≤64
theorem RG.app (h:RG σ i m t) (τ:Aa):RG (σ++τ) i m t:=⟨h.at_.app τ,h.sim,h.inv,h.inv2,h.wl,h.nb,h.nt⟩
theorem RG.Dd {σ':Aa} (h:RG σ i m t) (hs:∀ j ∈ i.l,σ'[j]?=σ[j]?) (hl:σ.length≤σ'.length):RG σ' i m t:=⟨h.at_.Dd hs hl,h.sim,h.inv,h.inv2,h.wl,h.nb,h.nt⟩
theorem RG.bn (h:RG σ i m t):t.bl.length=m.bls.length:=by rw[h.sim.bl]
theorem RG.ne (h:RG σ i m t):t.bl≠[]:=by
 intro e
 have:=h.bn
 have:=h.nb
 rw[e] at *
 simp at *
 omega
theorem RG.ol (h:RG σ i m t):t.ob.length≤2048:=by
 rw[h.sim.ob]
 have:=Ow m 0 (32*m.bls.length)
 have:=h.nt
 unfold KE D2
 rw[List.length_map]
 omega
theorem Iv (k:Nat) (h:RG σ i m t):Am (k+1) (Ca i) σ=some (.bool true,σ):=bj k h.at_ h.ne
theorem KU.sF {s:EF} {l:List Int} (h:KU σ s l) {x:Nat} (hx:x<l.length):∃ b,s.1=some ⟨b,0,none⟩∧Ai .i64 σ b x=some (l.getD x 0)∧σ[b]?=some (.cells (CS l) Bq true):=by
 obtain ⟨b,c,rfl,hc⟩:=h.2.1 (fun e=>by rw[e] at hx; simp at hx)
 exact ⟨b,rfl,nF hc hx,hc⟩
structure Found (σ:Aa) (i:RI) (m:HM) (t:RM) (a:Int) (x j b:Nat) (p:EF × EF):Prop where
 idx:jl t.ob a=(x:Int)
 idx':QM t.ob a=some x
 xl:x<t.ob.length
 st:Start m j
 e:a=((2*j:Nat):Int)
 all:(D2 m)[x]?=some j
 ob:t.ob[x]?=some (D1 m j)
 os:i.os.1=some ⟨b,0,none⟩
 cell:σ[b]?=some (.cells (HN t.ob i.om) Aj true)
 om:i.om[x]?=some p
 ld:qk σ b x (D1 m j) p
 rs:KU σ p.1 (D1 m j).refs
 ds:KU σ p.2 (D1 m j).data
theorem RG.found (h:RG σ i m t) {a:Int} (hh:Qr m a=true):∃ x j b p,Found σ i m t a x j b p:=by
 obtain ⟨h1,h2⟩:=h.sim.idx a
 cases hq:QM t.ob a with
 | none=>rw[h2 hq] at hh; cases hh
 | some x=>
   obtain ⟨q1,j,q2,q3,_,q5,q6⟩:=h1 x hq
   obtain ⟨b,e1,e2,L⟩:=h.at_.obj q1
   have hom:x<i.om.length:=by rw[h.at_.ol]; exact q1
   have eo:t.ob[x]=D1 m j:=by rw[List.getElem?_eq_getElem q1] at q6; exact Option.some.inj q6
   have L:=L hom
   rw[eo] at L
   obtain ⟨n1,n2⟩:=h.at_.inn x q1 hom
   rw[eo] at n1 n2
   exact ⟨x,j,b,i.om[x],by unfold jl; rw[hq],hq,q1,q2,q3,q5,q6,e1,e2,List.getElem?_eq_getElem hom,L,n1,n2⟩
theorem gM (k:Nat) (hk:5000≤k) (h:RG σ i m t) (a:Int):Cs (k+2) (Ca i) a σ=some (.int .i64 (jl t.ob a),σ):=dv k hk h.at_ h.ne (by have:=h.ol; omega) a
theorem oh (k:Nat) (hk:5000≤k) (h:RG σ i m t) (a:Int):FU (k+3) (Ca i) a σ=some (.int .i64 (if Qr m a then 0 else 4),σ):=by
 rw[mg k hk h.at_ h.ne (by have:=h.ol; omega) a,h.sim.has]
theorem sQ:((4:Int) != 0)=true:=rfl
theorem pF {σ:Aa} {cs vs:List Value} {T:TypeId} (h:vs.length=cs.length):Kj (σ++[.cells cs T true]) σ.length 0 vs=some (σ++[.cells vs T true]):=by
 simp only[Kj,List.getElem?_concat_length]
 rw[if_pos (by omega)]
 simp[AF,h]
theorem o6 (σ:Aa) (T:TypeId) (a b c d e f g h x y z u v w p q:Value):Kj (σ++[.cells [a,b,c,d,e,f,g,h] T true]) σ.length 0 [x,y,z,u,v,w,p,q]=some (σ++[.cells [x,y,z,u,v,w,p,q] T true]):=pF rfl
theorem Q0 (k:Nat) (h:RG σ i m t):Br (k+2) (Ca i) σ=some (.int .i64 ((m.bls.length:Nat):Int),σ):=by
 rw[SY,Pn]
 simp only[Iv k h,Option.bind_some,As,Bool.not_true,cond_false,Nat.zero_add,Nat.add_zero,h.at_.RK,h.bn]
def Ii (m:HM) (b:Int):Int:=if 0≤b∧b<(m.bls.length:Int) then (m.bls.getD b.toNat (0,0)).1 else -1
def WD (m:HM) (b:Int):Int:=if 0≤b∧b<(m.bls.length:Int) then (m.bls.getD b.toNat (0,0)).2 else -1
theorem Ss (k:Nat) (h:RG σ i m t) (b:Int):Bi (k+2) (Ca i) b σ=some (.int .i64 (Ii m b),σ):=by
 rw[TU,PY]
 simp only[Iv k h,Option.bind_some,As,Bool.not_true,cond_false]
 unfold Ii
 by_cases h0:b<0
 ·rw[decide_eq_true h0,if_neg (by omega)]
  simp only[cond_true,Option.bind_some]
 rw[decide_eq_false h0]
 simp only[cond_false,Option.bind_some,Nat.zero_add,Nat.add_zero,h.at_.RK,h.bn]
 by_cases h1:b≥(m.bls.length:Int)
 ·have q:(0≤b∧b<(m.bls.length:Int))=False:=eq_false (by omega)
  simp only[decide_eq_true h1,q,if_false,cond_true]
 rw[decide_eq_false h1,if_pos (by omega),if_pos (by omega)]
 obtain ⟨n,rfl⟩:∃ n:Nat,b=(n:Int):=⟨b.toNat,by omega⟩
 obtain ⟨q,e,l0,l1,_⟩:=Vm h.at_.bl (x:=n) (by rw[h.bn]; omega)
 rw[h.sim.bl] at l0
 simp only[cond_false,e,Option.bind_some,Int.toNat_natCast,Nat.zero_add,l0]
theorem Yo (k:Nat) (h:RG σ i m t) (b:Int):BV (k+2) (Ca i) b σ=some (.int .i64 (WD m b),σ):=by
 rw[TT,PX]
 simp only[Iv k h,Option.bind_some,As,Bool.not_true,cond_false]
 unfold WD
 by_cases h0:b<0
 ·rw[decide_eq_true h0,if_neg (by omega)]
  simp only[cond_true,Option.bind_some]
 rw[decide_eq_false h0]
 simp only[cond_false,Option.bind_some,Nat.zero_add,Nat.add_zero,h.at_.RK,h.bn]
 by_cases h1:b≥(m.bls.length:Int)
 ·have q:(0≤b∧b<(m.bls.length:Int))=False:=eq_false (by omega)
  simp only[decide_eq_true h1,q,if_false,cond_true]
 rw[decide_eq_false h1,if_pos (by omega),if_pos (by omega)]
 obtain ⟨n,rfl⟩:∃ n:Nat,b=(n:Int):=⟨b.toNat,by omega⟩
 obtain ⟨q,e,l0,l1,_⟩:=Vm h.at_.bl (x:=n) (by rw[h.bn]; omega)
 rw[h.sim.bl] at l1
 simp only[cond_false,e,Option.bind_some,Int.toNat_natCast,Nat.zero_add,l1]
end Go.Proofs.YtlaplcglpnlieaaGreat
end
section
namespace Go.Proofs.YtlaplcglpnlieaaGreat
open Go Go.AX
noncomputable local instance uW:AK:=Au
local instance tS:Kn:=⟨true⟩
variable {σ:Aa} {m:HM} {t:RM} {i:RI}
theorem Tm (k:Nat) (a b c:Int) (σ:Aa):Zl (Gg (k+1) a b c σ) σ (.bool (valid a b c)):=by
 simp only[Zl,XY,VJ,An,LS,Nat.zero_add,List.getElem?_cons_zero,List.getElem?_cons_succ,Option.bind_some,Ao,gH]
 by_cases hA:a<0∨a>15∨b<0∨b>200
 ·have h1:(bif bif bif decide (a<0) then true else decide (a>15) then true else decide (b<0) then true else decide (b>200))=true:=by
   simp[Bool.cond_eq_ite]; omega
  have h2:valid a b c=false:=by simp[valid]; omega
  rw[h1,h2]
  exact ⟨_,rfl⟩
 ·have h1:(bif bif bif decide (a<0) then true else decide (a>15) then true else decide (b<0) then true else decide (b>200))=false:=by
   simp[Bool.cond_eq_ite]; omega
  rw[h1]
  simp only[cond_false]
  by_cases h0:c=0
  ·subst h0
   have h2:valid a b 0=true:=by simp[valid]; omega
   rw[h2]
   exact ⟨_,rfl⟩
  have e0:(c == 0)=false:=by simpa using h0
  by_cases h3:c=3
  ·subst h3
   have h2:valid a b 3=true:=by simp[valid]; omega
   rw[h2]
   exact ⟨_,rfl⟩
  have e3:(c == 3)=false:=by simpa using h3
  simp only[e0,e3,cond_false,Option.bind_some,if_true,T8]
  by_cases h4:c=1
  ·subst h4
   have h2:valid a b 1=decide (a≥1):=by rw[valid,decide_eq_decide]; simp; omega
   rw[h2]
   simp only[BEq.rfl,cond_true,LS,List.getElem?_cons_zero,Option.bind_some,Ao]
   exact ⟨_,rfl⟩
  have e4:(c == 1)=false:=by simpa using h4
  by_cases h5:c=2
  ·subst h5
   have h2:valid a b 2=decide (a≥2):=by rw[valid,decide_eq_decide]; simp; omega
   rw[h2]
   simp only[e4,cond_false,BEq.rfl,cond_true,LS,List.getElem?_cons_zero,Option.bind_some,Ao]
   exact ⟨_,rfl⟩
  have e5:(c == 2)=false:=by simpa using h5
  have h2:valid a b c=false:=by simp[valid]; omega
  simp only[e4,e5,cond_false,h2]
  exact ⟨_,rfl⟩
theorem HO (k:Nat) (a b c:Int) (σ:Aa):Zl (BL (k+2) a b c σ) σ (.int .i64 (words a b c)):=by
 unfold Zl
 rw[XZ,VK]
 simp only[An,LS,Nat.zero_add,List.getElem?_cons_zero,List.getElem?_cons_succ,Option.bind_some,Ao]
 rw[(Tm _ _ _ _ _).eq]
 simp only[Option.bind_some,As,Wv,List.getElem?_cons_zero,List.getElem?_cons_succ,Ao]
 unfold words
 rcases Bool.eq_false_or_eq_true (valid a b c) with hv | hv
 rotate_left
 ·simp only[hv,Bool.not_false,cond_true,cond_false,List.append_assoc]
  exact ⟨_,rfl⟩
 ·simp only[hv,Bool.not_true,cond_true,cond_false,List.append_assoc]
  simp[valid] at hv
  simp only[show ((2:Int)=0)=False from by simp,if_false]
  refine ⟨_,congrArg some (Prod.ext (congrArg (Value.int .i64) ?_) rfl)⟩
  simp only[Ac]
  have e1:IntKind.i64.wrap (2+a)=2+a:=by rw[IntKind.wrap_i64]; omega
  have e2:IntKind.i64.wrap (2+a+b)=2+a+b:=by rw[IntKind.wrap_i64]; omega
  rw[e1,e2,Int.tmod_eq_emod_of_nonneg (by omega),IntKind.wrap_i64]
  omega
theorem MF {E:TypeId} {s by_:Nat} {z:Value} (hs:HX P E=some s) (hb:bytesOf P E=some by_) (hz:FL P E=some z) (hz1:IM z=false) (hz2:z.cells.size=s) (hs0:0<s) (hb0:0<by_) (hb1:by_≤1000)
  (σ τ:Aa) (sl:EF) (n:Nat) (row:List Value) (n' c:Nat) (row':List Value) (T:TypeId) (hn:n+n'≤1000000) (hn0:0<n') (hr:row'.length=n'*s) (hsl:Cd E s (σ++τ) sl n row) (hbh:∀ a,sl.1=some a→σ.length≤a.block):
  ∃ s' τ',Bn P E sl (some ⟨(σ++τ).length,0,none⟩,n',c) (σ++τ++[.cells row' T true])=some (s',σ++τ')∧Cd E s (σ++τ') s' (n+n') (row++row')∧(∀ a,s'.1=some a→σ.length≤a.block):=by
 obtain ⟨s',σ',e,g,h⟩:=ba hs hb hz hz1 hz2 hs0 hb0 hb1 (σ++τ) sl n row n' c row' T hn hn0 hr hsl
 obtain ⟨⟨τ',rfl⟩,h2⟩:=g.behind hbh
 exact ⟨s',τ',e,h,h2⟩
theorem Cd.ints {lo:Nat} {s:EF} {l:List Int} (h:Cd Bq 1 σ s l.length (CS l)) (hl:∀ a,s.1=some a→lo≤a.block) (hne:l=[]→s=(none,0,0)):DX lo σ s l:=by
 by_cases e:l=[]
 ·exact .inl ⟨e,hne e⟩
 ·rcases h with ⟨h1,_,_⟩ | ⟨b,rfl,_,_,hc⟩
  ·exact absurd (List.length_eq_zero_iff.1 h1) e
  ·exact .inr ⟨b,hl _ rfl,rfl,e,hc⟩
theorem Wq (σ τ:Aa) (s:EF) (l:List Int) (x:Int) (hl:l.length≤900000) (hs:DX σ.length (σ++τ) s l):
  ∃ s' τ',Bn P Bq s (some ⟨(σ++τ).length,0,none⟩,1,1) (σ++τ++[.cells [.int .i64 x] Bq true])=some (s',σ++τ')∧DX σ.length (σ++τ') s' (l++[x]):=by
 obtain ⟨s',τ',e,h1,h2⟩:=MF ss rY sx rfl rfl (by decide) (by decide) (by decide) σ τ s l.length (CS l) 1 1 [.int .i64 x] Bq (by omega) (by decide) rfl hs.sl (fun a ha=>(hs.ge a ha).1)
 refine ⟨s',τ',e,Cd.ints ?_ h2 (fun e=>by simp at e)⟩
 rw[Xh,List.length_append]
 exact h1
theorem RG.drop (h:RG σ i m t) {x:Nat} (hx:x<t.ob.length):∃ j,(D2 m)[x]?=some j∧x<(D2 m).length∧Start m j∧t.ob[x]?=some (D1 m j):=by
 have hl:t.ob.length=(D2 m).length:=by rw[h.sim.ob]; simp[KE]
 have hx':x<(D2 m).length:=by omega
 refine ⟨(D2 m)[x],List.getElem?_eq_getElem hx',hx',Ej.1 (List.getElem_mem hx'), ?_⟩
 rw[h.sim.ob]
 unfold KE
 rw[List.getElem?_map,List.getElem?_eq_getElem hx']; rfl
theorem RG.rh (h:RG σ i m t):t.ob.length=(D2 m).length:=by rw[h.sim.ob]; simp[KE]
structure At (σ:Aa) (i:RI) (m:HM) (t:RM) (x j b:Nat) (p:EF × EF):Prop where
 st:Start m j
 all:(D2 m)[x]?=some j
 xl:x<(D2 m).length
 os:i.os.1=some ⟨b,0,none⟩
 cell:σ[b]?=some (.cells (HN t.ob i.om) Aj true)
 om:i.om[x]?=some p
 ld:qk σ b x (D1 m j) p
 lt:j<2048
 dr:(D2 m).drop x=j::(D2 m).drop (x+1)
theorem RG.ri (h:RG σ i m t) {x:Nat} (hx:x<t.ob.length):∃ j b p,At σ i m t x j b p:=by
 obtain ⟨j,h1,h2,h3,h4⟩:=h.drop hx
 obtain ⟨b,e1,e2,L⟩:=h.at_.obj hx
 have hom:x<i.om.length:=by rw[h.at_.ol]; exact hx
 have eo:t.ob[x]=D1 m j:=by rw[List.getElem?_eq_getElem hx] at h4; exact Option.some.inj h4
 have L:=L hom
 rw[eo] at L
 have:=h3.1
 have:=h.nt
 refine ⟨j,b,i.om[x],h3,h1,h2,e1,e2,List.getElem?_eq_getElem hom,L,by omega, ?_⟩
 rw[List.drop_eq_getElem_cons h2]
 rw[List.getElem?_eq_getElem h2] at h1
 rw[Option.some.inj h1]
theorem bc (k:Nat) (h:RG σ i m t):∀ (n x f:Nat) (τ:Aa) (s:EF),x+n=t.ob.length→DX σ.length (σ++τ) s (E8 ((D2 m).take x))→n<f →
  ∃ τ' s',F3 (k+1) f (Ca i) s (x:Int) (σ++τ)=some (.exit 0,[.slice s'.1 s'.2.1 s'.2.2],σ++τ')∧DX σ.length (σ++τ') s' (E8 (D2 m))
 | 0,x,0,τ,s,hx,hs,hf=>by omega
 | 0,x,f+1,τ,s,hx,hs,hf=>by
   have ha:=h.rh
   have hg:=h.app τ
   rw[Nl,Lk]
   have q:decide ((x:Int)<((t.ob.length:Nat):Int))=false:=decide_eq_false (by omega)
   rw[List.take_of_length_le (by omega)] at hs
   exact ⟨τ,s,by simp only[Iv k hg,Option.bind_some,As,cond_true,Nat.zero_add,hg.at_.ML,q,cond_false],hs⟩
 | n+1,x,0,τ,s,hx,hs,hf=>by omega
 | n+1,x,f+1,τ,s,hx,hs,hf=>by
   have hol:=h.ol
   have hxl:x<t.ob.length:=by omega
   have hg:=h.app τ
   obtain ⟨j,b,p,A⟩:=hg.ri hxl
   obtain ⟨s1,τ1,e1,i1⟩:=Wq σ τ s _ ((2*j:Nat):Int) (by simp[E8]; omega) hs
   have e1':Bn P Bq (s.1,s.2.1,s.2.2) (some ⟨(σ++τ).length,0,none⟩,1,1) (σ++τ++[.cells [.int .i64 ((2*j:Nat):Int)] Bq true])=_:=e1
   obtain ⟨τ2,s2,e2,i2⟩:=bc k h n (x+1) f τ1 s1 (by omega) (by
    have:(D2 m).take (x+1)=(D2 m).take x++[j]:=by rw[List.take_add_one,A.all]; rfl
    rw[this]
    simpa [E8] using i1) (by omega)
   refine ⟨τ2,s2, ?_,i2⟩
   rw[Nl,Lk]
   have q:decide ((x:Int)<((t.ob.length:Nat):Int))=true:=decide_eq_true (by omega)
   have qx:(0≤(x:Int)∧(x:Int)<((t.ob.length:Nat):Int))=True:=eq_true (by omega)
   have w1:Ac ((x:Int)+1)=((x+1:Nat):Int):=Ad (by unfold AY; omega)
   have l0:Ai .i64 (σ++τ) b (x*8)=some ((2*j:Nat):Int):=A.ld.l0
   simp only[Iv k hg,Option.bind_some,As,cond_true,Nat.zero_add,Nat.add_zero,hg.at_.ML,q,qx,if_true,A.os,Int.toNat_natCast,l0,An,e1',w1]
   exact e2
theorem pq (k:Nat) (hk:5000≤k) (h:RG σ i m t):∃ τ s,IH (k+2) (Ca i) σ=some (.slice s.1 s.2.1 s.2.2,σ++τ)∧DX σ.length (σ++τ) s (E8 (D2 m)):=by
 have hol:=h.ol
 obtain ⟨τ,s,e,hs⟩:=bc k h t.ob.length 0 (k+1) [] (none,0,0) (by omega) (.inl ⟨rfl,rfl⟩) (by omega)
 rw[List.append_nil,show ((0:Nat):Int)=0 from rfl] at e
 refine ⟨τ,s, ?_,hs⟩
 rw[V3,RW]
 simp only[e,Option.bind_some,if_true,GA]
def pe (L:List Nat) (b:Int):List Nat:=L.filter fun j=>decide (((2*j/64:Nat):Int)=b)
theorem Q2 (k:Nat) (h:RG σ i m t) (bk:Int):∀ (n x f:Nat) (τ:Aa) (s:EF),x+n=t.ob.length→DX σ.length (σ++τ) s (E8 (pe ((D2 m).take x) bk))→n<f →
  ∃ τ' s',Eb (k+1) f (Ca i) bk s (x:Int) (σ++τ)=some (.exit 0,[.slice s'.1 s'.2.1 s'.2.2],σ++τ')∧DX σ.length (σ++τ') s' (E8 (pe (D2 m) bk))
 | 0,x,0,τ,s,hx,hs,hf=>by omega
 | 0,x,f+1,τ,s,hx,hs,hf=>by
   have ha:=h.rh
   have hg:=h.app τ
   rw[Hd,Gv]
   have q:decide ((x:Int)<((t.ob.length:Nat):Int))=false:=decide_eq_false (by omega)
   rw[List.take_of_length_le (by omega)] at hs
   exact ⟨τ,s,by simp only[Iv k hg,Option.bind_some,As,cond_true,Nat.zero_add,hg.at_.ML,q,cond_false],hs⟩
 | n+1,x,0,τ,s,hx,hs,hf=>by omega
 | n+1,x,f+1,τ,s,hx,hs,hf=>by
   have hol:=h.ol
   have hxl:x<t.ob.length:=by omega
   have hg:=h.app τ
   obtain ⟨j,b,p,A⟩:=hg.ri hxl
   have hjl:=A.lt
   have q:decide ((x:Int)<((t.ob.length:Nat):Int))=true:=decide_eq_true (by omega)
   have qx:(0≤(x:Int)∧(x:Int)<((t.ob.length:Nat):Int))=True:=eq_true (by omega)
   have w1:Ac ((x:Int)+1)=((x+1:Nat):Int):=Ad (by unfold AY; omega)
   have w2:Ac ((((2*j:Nat):Int)).tdiv 64)=((2*j/64:Nat):Int):=by rw[show (((2*j:Nat):Int)).tdiv 64=((2*j/64:Nat):Int) from rfl]; exact Ad (by unfold AY; omega)
   have l0:Ai .i64 (σ++τ) b (x*8)=some ((2*j:Nat):Int):=A.ld.l0
   have htk:pe ((D2 m).take (x+1)) bk=pe ((D2 m).take x) bk++(if ((2*j/64:Nat):Int)=bk then [j] else []):=by
    rw[List.take_add_one,A.all]
    unfold pe
    rw[List.filter_append]
    congr 1
    show List.filter _ [j]=_
    by_cases e:((2*j/64:Nat):Int)=bk
    ·rw[if_pos e,List.filter_cons,if_pos (decide_eq_true e),List.filter_nil]
    ·rw[if_neg e,List.filter_cons,if_neg (by rw[decide_eq_true_eq]; exact e),List.filter_nil]
   by_cases e:((2*j/64:Nat):Int)=bk
   ·obtain ⟨s1,τ1,e1,i1⟩:=Wq σ τ s _ ((2*j:Nat):Int) (by
     have:=List.length_filter_le (fun j=>decide (((2*j/64:Nat):Int)=bk)) ((D2 m).take x)
     simp[E8,pe] at this ⊢; omega) hs
    have e1':Bn P Bq (s.1,s.2.1,s.2.2) (some ⟨(σ++τ).length,0,none⟩,1,1) (σ++τ++[.cells [.int .i64 ((2*j:Nat):Int)] Bq true])=_:=e1
    obtain ⟨τ2,s2,e2,i2⟩:=Q2 k h bk n (x+1) f τ1 s1 (by omega) (by
     rw[htk,if_pos e]
     simpa [E8] using i1) (by omega)
    refine ⟨τ2,s2, ?_,i2⟩
    rw[Hd,Gv]
    simp only[Iv k hg,Option.bind_some,As,cond_true,Nat.zero_add,Nat.add_zero,hg.at_.ML,q,qx,if_true,A.os,Int.toNat_natCast,l0,show ((64:Int)=0)=False from by decide,if_false,w2,beq_iff_eq.2 e,An,e1',GA,w1]
    exact e2
   ·obtain ⟨τ2,s2,e2,i2⟩:=Q2 k h bk n (x+1) f τ s (by omega) (by
     rw[htk,if_neg e,List.append_nil]
     exact hs) (by omega)
    refine ⟨τ2,s2, ?_,i2⟩
    rw[Hd,Gv]
    simp only[Iv k hg,Option.bind_some,As,cond_true,Nat.zero_add,Nat.add_zero,hg.at_.ML,q,qx,if_true,A.os,Int.toNat_natCast,l0,show ((64:Int)=0)=False from by decide,if_false,w2,beq_eq_false_iff_ne.2 e,cond_false,GA,w1]
    exact e2
def aW (m:HM) (b:Int):List Nat:=if 0≤b∧b<(m.bls.length:Int) then Cj m (32*b.toNat) 32 else []
theorem q9 (m:HM) (b:Int):pe (D2 m) b=aW m b:=by
 unfold aW
 split
 ·rename_i hb
  refine WC ((O6 m).filter _) ((List.pairwise_lt_range' (step:=1) (by decide)).filter _) fun a=>?_
  unfold pe
  rw[List.mem_filter,Ej,decide_eq_true_eq]
  show _↔a ∈ Cj m (32*b.toNat) 32
  rw[Jv]
  constructor
  ·rintro ⟨h1,h2⟩; exact ⟨by omega,by omega,h1.2⟩
  ·rintro ⟨h1,h2,h3⟩; exact ⟨⟨by omega,h3⟩,by omega⟩
 ·rename_i hb
  unfold pe
  rw[List.filter_eq_nil_iff]
  intro j hj
  have:=(Ej.1 hj).1
  rw[decide_eq_true_eq]
  omega
theorem YX (k:Nat) (hk:5000≤k) (h:RG σ i m t) (b:Int):∃ τ s,Eh (k+2) (Ca i) b σ=some (.slice s.1 s.2.1 s.2.2,σ++τ)∧DX σ.length (σ++τ) s (E8 (aW m b)):=by
 have hol:=h.ol
 obtain ⟨τ,s,e,hs⟩:=Q2 k h b t.ob.length 0 (k+1) [] (none,0,0) (by omega) (.inl ⟨rfl,rfl⟩) (by omega)
 rw[List.append_nil,show ((0:Nat):Int)=0 from rfl] at e
 rw[q9] at hs
 refine ⟨τ,s, ?_,hs⟩
 rw[Sd,O7]
 simp only[e,Option.bind_some,if_true,GA]
theorem UT (k:Nat) (h:RG σ i m t) (a:Int):∀ (n x f:Nat) (τ:Aa),x+n=t.ob.length→n<f →
  ∃ τ',EX (k+2) f (Ca i) a (x:Int) (σ++τ)=some (match TG (t.ob.drop x) a with | some o=>(.ret,[.int .i64 o.addr,.int .i64 0],σ++τ') | none=>(.exit 0,[],σ++τ'))
 | 0,x,0,τ,hx,hf=>by omega
 | 0,x,f+1,τ,hx,hf=>by
   have hg:=h.app τ
   rw[M9,Kq,List.drop_eq_nil_of_le (by omega)]
   have q:decide ((x:Int)<((t.ob.length:Nat):Int))=false:=decide_eq_false (by omega)
   exact ⟨τ,by simp only[Option.bind_some,Nat.zero_add,hg.at_.ML,q,cond_false,TG]⟩
 | n+1,x,0,τ,hx,hf=>by omega
 | n+1,x,f+1,τ,hx,hf=>by
   have hol:=h.ol
   have hxl:x<t.ob.length:=by omega
   have hg:=h.app τ
   obtain ⟨j,b,p,A⟩:=hg.ri hxl
   have hz:=h.inv.size A.st
   have hjl:=A.lt
   have hw:=bp h.inv A.st
   obtain ⟨j',_,_,_,ho⟩:=h.drop hxl
   have hoj:t.ob[x]=D1 m j:=by
    obtain ⟨j2,g1,_,_,g4⟩:=h.drop hxl
    rw[A.all] at g1; cases g1
    rw[List.getElem?_eq_getElem hxl] at g4; exact Option.some.inj g4
   obtain ⟨τ1,e1⟩:=HO k (BP m j) (Eu m j) (Hg m j) (σ++τ)
   rw[(iy h.inv A.st).2.2.2.2.2.2.2,List.append_assoc] at e1
   have hg1:=h.app (τ++τ1)
   rw[List.drop_eq_getElem_cons hxl,hoj,TG,hw,IP]
   have q:decide ((x:Int)<((t.ob.length:Nat):Int))=true:=decide_eq_true (by omega)
   have qx:(0≤(x:Int)∧(x:Int)<((t.ob.length:Nat):Int))=True:=eq_true (by omega)
   have w1:Ac ((x:Int)+1)=((x+1:Nat):Int):=Ad (by unfold AY; omega)
   have w2:Ac (((2*j:Nat):Int)+(sz m j:Int))=((2*j:Nat):Int)+(sz m j:Int):=Ad (by unfold AY; omega)
   have l0:Ai .i64 (σ++τ) b (x*8)=some ((2*j:Nat):Int):=A.ld.l0
   have l2:Ai .i64 (σ++τ) b (x*8+2)=some (BP m j):=A.ld.l2
   have l3:Ai .i64 (σ++τ) b (x*8+3)=some (Eu m j):=A.ld.l3
   have l4:Ai .i64 (σ++τ) b (x*8+4)=some (Hg m j):=A.ld.l4
   rw[M9,Kq]
   by_cases c1:((2*j:Nat):Int)≤a
   ·by_cases c2:a<((2*j:Nat):Int)+(sz m j:Int)
    ·obtain ⟨j3,b3,p3,A3⟩:=hg1.ri hxl
     have:j3=j:=by have:=A3.all; rw[A.all] at this; exact (Option.some.inj this).symm
     subst this
     have l0':Ai .i64 (σ++(τ++τ1)) b3 (x*8)=some ((2*j3:Nat):Int):=A3.ld.l0
     have:b3=b:=by have:=A3.os; rw[A.os] at this; cases this; rfl
     subst this
     refine ⟨τ++τ1, ?_⟩
     rw[if_pos ⟨c1,c2⟩]
     simp only[Option.bind_some,Nat.zero_add,Nat.add_zero,Nat.add_assoc,Nat.reduceAdd,hg.at_.ML,q,cond_true,qx,if_true,A.os,Int.toNat_natCast,l0,decide_eq_true (show a≥((2*j3:Nat):Int) from c1),l2,l3,l4,e1,Ao,w2,decide_eq_true c2,hg1.at_.ML,l0']
     rfl
    ·obtain ⟨τ2,e2⟩:=UT k h a n (x+1) f (τ++τ1) (by omega) (by omega)
     refine ⟨τ2, ?_⟩
     rw[if_neg (fun h=>c2 h.2),← e2]
     simp only[Option.bind_some,Nat.zero_add,Nat.add_zero,Nat.add_assoc,Nat.reduceAdd,hg.at_.ML,q,cond_true,qx,if_true,A.os,Int.toNat_natCast,l0,decide_eq_true (show a≥((2*j:Nat):Int) from c1),l2,l3,l4,e1,Ao,w2,decide_eq_false c2,cond_false,w1]
   ·obtain ⟨τ2,e2⟩:=UT k h a n (x+1) f τ (by omega) (by omega)
    refine ⟨τ2, ?_⟩
    rw[if_neg (fun h=>c1 h.1),← e2]
    simp only[Option.bind_some,Nat.zero_add,Nat.add_zero,hg.at_.ML,q,cond_true,qx,if_true,A.os,Int.toNat_natCast,l0,decide_eq_false (show ¬ a≥((2*j:Nat):Int) from c1),cond_false,w1]
theorem nW (k:Nat) (hk:5000≤k) (h:RG σ i m t) (a:Int):∃ τ,HG (k+3) (Ca i) a σ =
  some (match Nq m a with | some j=>.tuple #[.int .i64 ((2*j:Nat):Int),.int .i64 0] | none=>.tuple #[.int .i64 0,.int .i64 4],σ++τ):=by
 have hol:=h.ol
 obtain ⟨τ,e⟩:=UT k h a t.ob.length 0 (k+2) [] (by omega) (by omega)
 rw[List.append_nil,show ((0:Nat):Int)=0 from rfl,List.drop_zero,h.sim.find h.inv] at e
 refine ⟨τ, ?_⟩
 rw[U4,QU]
 simp only[Iv (k+1) h,Option.bind_some,As,Bool.not_true,cond_false,e]
 cases Nq m a with
 | none=>simp only[Option.map_none,if_true]
 | some j=>simp only[Option.map_some,reduceCtorEq,if_false,if_true,GK,IP]
end Go.Proofs.YtlaplcglpnlieaaGreat
end
