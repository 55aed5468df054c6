/- Strong references; ephemerons; clearing.; Clearing; the last look.; A unit of work.; Units: one popped, one swept; steps. -/
import Derived.Test.YtjbledomkmdkmaaGreatP29
set_option linter.unusedVariables false
set_option linter.unusedSimpArgs false
set_option linter.unusedSectionVars false
section
namespace Go.Proofs.YtjbledomkmdkmaaGreat
open Go Go.AX
noncomputable local instance qGK:A9:=Aw
local instance nGK:Kn:=⟨true⟩
variable {σ:Aa} {m:HM} {r:K4} {s:TC} {i:DD} {p:PI} {c:CI}
def uj (m:HM) (a:Int) (n:Nat):List Int:=((List.range n).filter fun (x:Nat)=>decide (DI m a ((x:Nat):Int)≠0) && !Wk (Au m a).2.2 ((x:Nat):Int)).map fun (x:Nat)=>DI m a ((x:Nat):Int)
theorem vT (n:Nat) (Q:Nat→Bool) (f:Nat→Int):((List.range (n+1)).filter Q).map f=((List.range n).filter Q).map f++(if Q n then [f n] else []):=by
 rw[List.range_succ,List.filter_append,List.map_append]
 congr 1
 cases h:Q n <;> simp[h]
theorem Alm {ρ:Type} (a:Option Addr) (n c:Nat) (K:Ce→Option ρ):uw [.slice a n c] K=K (a,n,c):=rfl
theorem Ab5 (m:HM) (a:Int) (n:Nat):uj m a (n+1)=uj m a n++(if (decide (DI m a (n:Int)≠0) && !Wk (Au m a).2.2 (n:Int)) then [DI m a (n:Int)] else []):=by
 exact vT n (fun (x:Nat)=>decide (DI m a ((x:Nat):Int)≠0) && !Wk (Au m a).2.2 ((x:Nat):Int)) fun (x:Nat)=>DI m a ((x:Nat):Int)
theorem wG (m:HM) (a:Int) (n:Nat):(uj m a n).length≤n:=by
 unfold uj
 rw[List.length_map]
 have:=List.length_filter_le (fun (x:Nat)=>decide (DI m a ((x:Nat):Int)≠0) && !Wk (Au m a).2.2 ((x:Nat):Int)) (List.range n)
 rwa [List.length_range] at this
theorem Ze (k:Nat) (a:Int) {nn h0:Nat} (hn:nn≤200) {sl:Ce} {rr dd:Int} {T:TypeId}:∀ (n x f:Nat) (μ:Aa) (o:Ce),B6 μ sl ((List.range nn).map fun (x:Nat)=>DI m a ((x:Nat):Int))→μ[h0]?=some (.cells [.int .i64 rr,.int .i64 dd,.int .i64 (Au m a).2.2] T true)→B6 μ o (uj m a x)→h0 ∉ hs o→(∀ q ∈ hs sl,q ∉ hs o)→x+n=nn→n<f →
  ∃ μ' o',DY (k+1) f h0 sl.1 nn nn (nn:Int) o (x:Int) μ=some (.exit 0,[.slice o'.1 o'.2.1 o'.2.2],μ')∧B6 μ' o' (uj m a nn)∧Mv (hs o) (hs o') μ μ'
 | n,x,0,μ,o,hl,hb,ho,d0,d1,hx,hf=>by omega
 | 0,x,f+1,μ,o,hl,hb,ho,d0,d1,hx,hf=>by
   have e:x=nn:=by omega
   subst e
   rw[Mw,Jl]
   simp only[sw,Ad,Af,Ae,decide_eq_false (show ¬ (x:Int)<(x:Int) by omega),cond_false]
   exact ⟨μ,o,rfl,ho,Mv.refl _ _⟩
 | n+1,x,f+1,μ,o,hl,hb,ho,d0,d1,hx,hf=>by
   have hlen:((List.range nn).map fun (x:Nat)=>DI m a ((x:Nat):Int)).length=nn:=by simp
   obtain ⟨b,e,l1,_⟩:=hl.ld (x:=x) (by omega)
   have lx:((List.range nn).map fun (x:Nat)=>DI m a ((x:Nat):Int)).getD x 0=DI m a (x:Int):=by
    rw[List.getD_eq_getElem?_getD,List.getElem?_map,List.getElem?_range (by omega)]; rfl
   rw[lx] at l1
   have qx:(0≤(x:Int)∧(x:Int)<(nn:Int))=True:=eq_true (by omega)
   have w1:Cf ((x:Int)+1)=((x+1:Nat):Int):=Ak (by unfold AU; omega)
   have l2:Dg .i64 μ h0 2=some (Au m a).2.2:=(Md hb).2.2
   have hsl:=wG m a x
   have hsu:=Ab5 m a x
   rw[Mw,Jl]
   simp only[sw,Ad,Af,Ae,decide_eq_true (show (x:Int)<(nn:Int) by omega),cond_true,qx,if_true,e,Option.bind_some,Int.toNat_natCast,Nat.mul_one,Nat.zero_add,l1,w1,l2,yM,Ar]
   have skip:(decide (DI m a (x:Int)≠0) && !Wk (Au m a).2.2 (x:Int))=false → ∃ μ' o',DY (k+1) f h0 (some ⟨b,0,none⟩) nn nn (nn:Int) (o.1,o.2.1,o.2.2) ((x+1:Nat):Int) μ=some (.exit 0,[.slice o'.1 o'.2.1 o'.2.2],μ')∧B6 μ' o' (uj m a nn)∧Mv (hs o) (hs o') μ μ':=fun hq=>by
    rw[hq] at hsu
    simp only[Bool.false_eq_true,if_false,List.append_nil] at hsu
    have ih:=Ze k a hn (sl:=sl) (rr:=rr) (dd:=dd) (T:=T) n (x+1) f μ o hl hb (by rw[hsu]; exact ho) d0 d1 (by omega) (by omega)
    rw[e] at ih
    exact ih
   by_cases hz:DI m a (x:Int)=0
   ·rw[show (DI m a (x:Int) != 0)=false from by rw[hz]; rfl]
    simp only[cond_false,Option.bind_some,if_true,Ps]
    exact skip (by rw[hz]; rfl)
   ·rw[show (DI m a (x:Int) != 0)=true from bne_iff_ne.2 hz]
    simp only[cond_true,Option.bind_some]
    cases hq:Wk (Au m a).2.2 (x:Int) with
    | true=>
      simp only[Bool.not_true,cond_false,Option.bind_some,if_true,Ps]
      exact skip (by rw[hq]; simp)
    | false=>
      rw[hq] at hsu
      rw[decide_eq_true hz] at hsu
      simp only[Bool.not_false,Bool.and_self,if_true] at hsu
      obtain ⟨o1,μ1,e2,li2,m2⟩:=ho.push (DI m a (x:Int)) As (by omega)
      have hsl1:B6 μ1 sl _:=hl.AG fun q hq=>m2.same q (hl.lt q hq) (d1 q hq)
      have hb1:μ1[h0]?=_:=m2.SB hb d0
      have n0:h0 ∉ hs o1:=fun hm=>(m2.new h0 hm).elim d0 fun hh=>by have:=Al hb; omega
      have n1:∀ q ∈ hs sl,q ∉ hs o1:=fun q hq hm=>(m2.new q hm).elim (d1 q hq) fun hh=>by have:=hl.lt q hq; omega
      obtain ⟨μ',o',e3,h3,m3⟩:=Ze k a hn (sl:=sl) (rr:=rr) (dd:=dd) (T:=T) n (x+1) f μ1 o1 hsl1 hb1 (by rw[hsu]; exact li2) n0 n1 (by omega) (by omega)
      rw[e] at e3
      refine ⟨μ',o', ?_,h3,m2.trans m3⟩
      simp only[Bool.not_false,cond_true,AM,e2,Option.bind_some,if_true,Ps,e3]
theorem zQ (k:Nat) (hk:1000<k) (h:An σ i m) (hI:Inv m) (a:Int) (ha:AU a):∃ τ o,GZ (k+9) (AV i) a σ=some (.slice o.1 o.2.1 o.2.2,σ++τ)∧B6 (σ++τ) o (Rm m a) ∧ ∀ q ∈ hs o,σ.length≤q:=by
 obtain ⟨τ1,e1⟩:=dv (k+2) h a ha
 obtain ⟨s1,s2,s3,s4⟩:=UU hI a
 have hR:∀ μ,An μ i m → ∃ τ s,Jv (k+8) (AV i) a μ=some (.slice s.1 s.2.1 s.2.2,μ++τ)∧B6 (μ++τ) s (cP m a) ∧ ∀ q ∈ hs s,μ.length≤q:=fun μ hμ=>Af0 k hk hμ hI a ha
 have hst:Rm m a=uj m a (Au m a).1.toNat:=rfl
 have hrf:cP m a=(List.range (Au m a).1.toNat).map fun (x:Nat)=>DI m a ((x:Nat):Int):=rfl
 rw[hst]
 rw[hrf] at hR
 obtain ⟨nn,hnn⟩:∃ nn:Nat,(Au m a).1=(nn:Int):=⟨(Au m a).1.toNat,by omega⟩
 have hnt:(Au m a).1.toNat=nn:=by omega
 rw[hnt] at hR ⊢
 obtain ⟨S,hS⟩:∃ S,A6.cells [.int .i64 (Au m a).1,.int .i64 (Au m a).2.1,.int .i64 (Au m a).2.2] Ag true=S:=⟨_,rfl⟩
 obtain ⟨μ,hμ⟩:∃ μ,σ++τ1++[S]=μ:=⟨_,rfl⟩
 have hμσ:μ=σ++(τ1++[S]):=by rw[← hμ,List.append_assoc]
 have lm:(σ++τ1).length<μ.length:=by rw[← hμ]; simp
 have hm0:An μ i m:=by rw[hμσ]; exact h.app _
 obtain ⟨τ2,sl,e2,li2,new2⟩:=hR μ hm0
 have hS2:(μ++τ2)[(σ++τ1).length]?=some (.cells [.int .i64 (Au m a).1,.int .i64 (Au m a).2.1,.int .i64 (Au m a).2.2] Ag true):=by
  rw[List.getElem?_append_left lm,← hμ,List.getElem?_concat_length,hS]
 obtain ⟨μ',o',e3,h3,m3⟩:=Ze (k+7) a (show nn≤200 by omega) (h0:=(σ++τ1).length) (T:=Ag) nn 0 (k+8) (μ++τ2) (none,0,0) li2 hS2 (B6.nil _) (by simp[hs]) (fun q hq hm=>by simp[hs] at hm) (by omega) (by omega)
 rw[show ((0:Nat):Int)=0 from rfl] at e3
 have hf:=li2.form
 have f1:sl.2.1=nn:=by rw[hf]; simp
 have f2:sl.2.2=nn:=by rw[hf]; simp
 obtain ⟨τ,hτ⟩:∃ τ,μ'=σ++τ:=by
  refine Se (by have:=m3.len; simp at this lm; omega) fun q hq=>?_
  have hl:(σ++τ1).length=σ.length+τ1.length:=List.length_append
  rw[m3.same q (by rw[List.length_append]; omega) (by simp[hs]),List.getElem?_append_left (by omega),hμσ,List.getElem?_append_left hq]
 refine ⟨τ,o', ?_,by rw[← hτ]; exact h3,fun q hq=>?_⟩
 ·rw[WA,Ql]
  have e1':AE (k+8) (AV i) a σ=_:=e1
  simp only[sw,Ad,Af,Ae,e1',Option.bind_some,yt,List.length_cons,List.length_nil,Nat.zero_add,Nat.reduceAdd,if_true,List.head?_cons,List.tail_cons,Lm,Aj,AM,Iv,hS,hμ,e2,H7,f1,f2,e3,Ps,hτ]
 ·have:=m3.new q hq
  rcases this with hh | hh
  ·simp[hs] at hh
  ·have hl:(σ++τ1).length=σ.length+τ1.length:=List.length_append
   rw[List.length_append] at hh
   omega
theorem Aap (m:HM) (s:TC) (l:List Int) (a:Int):iG m s (l++[a])=iG m s l++(if Uy m s a && decide ((Au m a).2.2=2) && Uy m s (DI m a 0) then [DI m a 1] else []):=by
 unfold iG
 rw[List.filter_append,List.map_append]
 congr 1
 cases hq:(Uy m s a && decide ((Au m a).2.2=2) && Uy m s (DI m a 0)) <;> simp[hq]
theorem vi (m:HM) (s:TC) (l:List Int):(iG m s l).length≤l.length:=by
 unfold iG; rw[List.length_map]; exact List.length_filter_le _ _
theorem jk (hi:∀ a,AU (m.wds.getD a 0)) (a x:Int):AU (DI m a x):=by
 unfold DI Y2
 split
 ·exact hi _
 ·unfold AU; dsimp only; omega
theorem kl (k:Nat) {sl:Ce} {l:List Int} (hl:l.length≤100000) (hv:∀ v ∈ l,AU v):∀ (n x f:Nat) (μ:Aa) (o:Ce),RC μ i p c m r s→B6 μ sl l→B6 μ o (iG m s (l.take x))→(∀ q ∈ hs o,q ∉ i.l∧q ∉ p.l∧q ∉ c.l∧q ∉ hs sl)→x+n=l.length→n<f →
  ∃ μ' o',BG (k+8) f (Hy c) sl.1 l.length l.length ((l.length:Nat):Int) o (x:Int) μ=some (.exit 0,[.slice o'.1 o'.2.1 o'.2.2],μ')∧B6 μ' o' (iG m s l)∧Mv (hs o) (hs o') μ μ'
 | n,x,0,μ,o,T,hli,ho,d,hx,hf=>by omega
 | 0,x,f+1,μ,o,T,hli,ho,d,hx,hf=>by
   rw[HD,Fi]
   simp only[sw,Ad,Af,Ae,decide_eq_false (show ¬ (x:Int)<((l.length:Nat):Int) by omega),cond_false]
   rw[List.take_of_length_le (by omega)] at ho
   exact ⟨μ,o,rfl,ho,Mv.refl _ _⟩
 | n+1,x,f+1,μ,o,T,hli,ho,d,hx,hf=>by
   obtain ⟨b,e,l1,_⟩:=hli.ld (x:=x) (by omega)
   have qx:(0≤(x:Int)∧(x:Int)<((l.length:Nat):Int))=True:=eq_true (by omega)
   have w1:Cf ((x:Int)+1)=((x+1:Nat):Int):=Ak (by unfold AU; omega)
   have hgd:l[x]?=some (l.getD x 0):=by
    rw[List.getD_eq_getElem?_getD,List.getElem?_eq_getElem (show x<l.length by omega)]; rfl
   have htk:l.take (x+1)=l.take x++[l.getD x 0]:=by
    rw[List.take_add_one,hgd]; rfl
   have hvx:AU (l.getD x 0):=hv _ (List.mem_of_getElem? hgd)
   generalize l.getD x 0=a at l1 htk hvx
   have hsn:=Aap m s (l.take x) a
   rw[← htk] at hsn
   have hdl:=vi m s (l.take x)
   have htl:(l.take x).length=x:=by rw[List.length_take]; omega
   have off:∀ μ1,Mv (hs o) (hs o) μ μ1→RC μ1 i p c m r s∧B6 μ1 sl l:=fun μ1 m1=>⟨T.AG m1.len (fun q hq=>m1.same q (T.h.lt q hq) fun hm=>(d q hm).1 hq) (fun q hq=>m1.same q (T.rt.lt q hq) fun hm=>(d q hm).2.1 hq) (fun q hq=>m1.same q (T.co.lt q hq) fun hm=>(d q hm).2.2.1 hq),hli.AG fun q hq=>m1.same q (hli.lt q hq) fun hm=>(d q hm).2.2.2 hq⟩
   rw[HD,Fi]
   have es:B8 (k+8) (Hy c) a μ=_:=ng (k+3) T a hvx
   simp only[sw,Ad,Af,Ae,decide_eq_true (show (x:Int)<((l.length:Nat):Int) by omega),cond_true,qx,if_true,e,Option.bind_some,Int.toNat_natCast,Nat.mul_one,Nat.zero_add,Nat.add_zero,l1,w1,es,Ar]
   have skip:∀ τ,(Uy m s a && decide ((Au m a).2.2=2) && Uy m s (DI m a 0))=false → ∃ μ' o',BG (k+8) f (Hy c) (some ⟨b,0,none⟩) l.length l.length ((l.length:Nat):Int) (o.1,o.2.1,o.2.2) ((x+1:Nat):Int) (μ++τ)=some (.exit 0,[.slice o'.1 o'.2.1 o'.2.2],μ')∧B6 μ' o' (iG m s l)∧Mv (hs o) (hs o') μ μ':=fun τ hq=>by
    rw[hq] at hsn
    simp only[Bool.false_eq_true,if_false,List.append_nil] at hsn
    have m1:=Mv.app (hs o) μ τ
    obtain ⟨μ',o',e3,h3,m3⟩:=kl k hl hv n (x+1) f (μ++τ) o (off _ m1).1 (off _ m1).2 (by rw[hsn]; exact ho.app τ) d (by omega) (by omega)
    rw[e] at e3
    exact ⟨μ',o',e3,h3,m1.trans m3⟩
   have skip0:=skip []
   rw[List.append_nil] at skip0
   cases hsa:Uy m s a with
   | false=>
     simp only[Bool.not_false,cond_true,Option.bind_some]
     exact skip0 (by rw[hsa]; rfl)
   | true=>
     obtain ⟨τ1,ek⟩:=Afq (k+1) T.h a hvx
     have ek':GO (k+8) (AV i) a μ=_:=ek
     simp only[Bool.not_true,cond_false,Option.bind_some,T.co.K2,ek',Aj]
     by_cases hk2:(Au m a).2.2=2
     rotate_left
     ·rw[show ((Au m a).2.2 != 2)=true from bne_iff_ne.2 hk2]
      simp only[cond_true]
      exact skip τ1 (by rw[hsa,decide_eq_false hk2]; rfl)
     ·rw[show ((Au m a).2.2 != 2)=false from by rw[hk2]; rfl]
      have T1:=T.app τ1
      obtain ⟨τ2,er⟩:=nL (k+1) T1.h T.mo.inv a 0 hvx
      have er':AA (k+8) (AV i) a 0 (μ++τ1)=some (.tuple #[.int .i64 (DI m a 0),.int .i64 (Y2 m a 0 false).2],μ++τ1++τ2):=er
      have T2:=T1.app τ2
      have es2:B8 (k+8) (Hy c) (DI m a 0) (μ++τ1++τ2)=_:=ng (k+3) T2 _ (jk T.h.wi a 0)
      simp only[cond_false,T1.co.K2,Option.bind_some,er',Fs,es2,Ar]
      cases hs2:Uy m s (DI m a 0) with
      | false=>
        simp only[cond_false,Option.bind_some,if_true,Ps]
        rw[List.append_assoc]
        exact skip (τ1++τ2) (by rw[hs2,Bool.and_false])
      | true=>
        obtain ⟨τ3,er3⟩:=nL (k+1) T2.h T.mo.inv a 1 hvx
        have er3':AA (k+8) (AV i) a 1 (μ++τ1++τ2)=some (.tuple #[.int .i64 (DI m a 1),.int .i64 (Y2 m a 1 false).2],μ++τ1++τ2++τ3):=er3
        have ho3:=((ho.app τ1).app τ2).app τ3
        obtain ⟨o1,μ1,e2,li2,m2⟩:=ho3.push (DI m a 1) As (by omega)
        have m1:Mv (hs o) (hs o1) μ μ1:=(((Mv.app (hs o) μ τ1).trans (Mv.app (hs o) _ τ2)).trans (Mv.app (hs o) _ τ3)).trans m2
        have mo:=fun q (hq:q ∈ hs o1)=>m1.new q hq
        rw[hsa,hk2,hs2] at hsn
        simp only[decide_true,Bool.and_self,if_true] at hsn
        have T3:RC μ1 i p c m r s:=T.AG m1.len (fun q hq=>m1.same q (T.h.lt q hq) fun hm=>(d q hm).1 hq) (fun q hq=>m1.same q (T.rt.lt q hq) fun hm=>(d q hm).2.1 hq) (fun q hq=>m1.same q (T.co.lt q hq) fun hm=>(d q hm).2.2.1 hq)
        have hli3:B6 μ1 sl l:=hli.AG fun q hq=>m1.same q (hli.lt q hq) fun hm=>(d q hm).2.2.2 hq
        obtain ⟨μ',o',e3,h3,m3⟩:=kl k hl hv n (x+1) f μ1 o1 T3 hli3 (by rw[hsn]; exact li2) (fun q hq=>by
         rcases mo q hq with hh | hh
         ·exact d q hh
         ·exact ⟨fun hm=>by have:=T.h.lt q hm; omega,fun hm=>by have:=T.rt.lt q hm; omega,fun hm=>by have:=T.co.lt q hm; omega,fun hm=>by have:=hli.lt q hm; omega⟩) (by omega) (by omega)
        rw[e] at e3
        refine ⟨μ',o', ?_,h3,m1.trans m3⟩
        simp only[cond_true,T2.co.K2,Option.bind_some,er3',Fs,AM,e2,if_true,Ps,e3]
theorem tm (hn:m.bls.length≤64):∀ v ∈ Hz m,AU v:=by
 intro v hv
 unfold Hz EU at hv
 obtain ⟨j,hj,rfl⟩:=List.mem_map.1 hv
 have:=(Ew.1 hj).1
 unfold AU; omega
theorem XV (hn:m.bls.length≤64):(Hz m).length≤2048:=by
 unfold Hz EU FB
 rw[List.length_map]
 have:=Wl m 0 (32*m.bls.length)
 omega
theorem Ai5 (k:Nat) (hk:5000≤k) (T:RC σ i p c m r s) (hp:s.ph≠2):∃ σ' c',DS (k+12) (Hy c) σ=some (.tuple #[],σ')∧RC σ' i p c' m r (Ads m s)∧Mv c.l c'.l σ σ'∧c'.cb=c.cb:=by
 have hnt:=T.mo.nt
 have hal:=XV hnt
 obtain ⟨τ,sl,e1,li⟩:=sN (k+5) (by omega) T.h
 have e1':Bv (k+11) (AV i) σ=_:=e1
 have hge:=li.ge
 have li:B6 (σ++τ) sl (Hz m):=B6.ints li
 have T1:=T.app τ
 obtain ⟨μ,o,e2,li2,m2⟩:=kl (k+3) (by omega) (tm hnt) (Hz m).length 0 (k+11) (σ++τ) (none,0,0) T1 li (B6.nil _) (fun q hq=>by simp[hs] at hq) (by omega) (by omega)
 rw[show ((0:Nat):Int)=0 from rfl] at e2
 have T2:RC μ i p c m r s:=T1.AG m2.len (fun q hq=>m2.same q (T1.h.lt q hq) (by simp[hs])) (fun q hq=>m2.same q (T1.rt.lt q hq) (by simp[hs])) (fun q hq=>m2.same q (T1.co.lt q hq) (by simp[hs]))
 have hdl:=vi m s (Hz m)
 obtain ⟨σ',c',e3,T3,m3,b3⟩:=Yl k (sl:=o) (l:=iG m s (Hz m)) (by omega) (fun v hv=>by
  unfold iG at hv
  obtain ⟨a,_,rfl⟩:=List.mem_map.1 hv
  exact jk T.h.wi a 1) c.cb (iG m s (Hz m)).length 0 (k+11) μ c s T2 rfl hp li2 (fun q hq hm=>by
   rcases m2.new q hq with hh | hh
   ·simp[hs] at hh
   ·have:=T1.co.lt q hm; omega) (by omega) (by omega)
 rw[show ((0:Nat):Int)=0 from rfl] at e3
 have f:=li.form
 have f1:sl.2.1=(Hz m).length:=by rw[f]
 have f2:sl.2.2=(Hz m).length:=by rw[f]
 have g:=li2.form
 have g1:o.2.1=(iG m s (Hz m)).length:=by rw[g]
 have g2:o.2.2=(iG m s (Hz m)).length:=by rw[g]
 refine ⟨σ',c', ?_,T3,((Mv.app c.l σ τ).trans (m2.nil c.l |>.wide (fun q hq=>hq) fun q hq=>.inl hq)).trans m3,b3⟩
 rw[Oc,IC]
 simp only[sw,Ad,Af,Ae,Option.bind_some,Nat.zero_add,Nat.add_zero,T.co.K2,e1',H7,f1,f2,e2,if_true,g1,g2,Alm,e3]
end Go.Proofs.YtjbledomkmdkmaaGreat
end
section
namespace Go.Proofs.YtjbledomkmdkmaaGreat
open Go Go.AX
noncomputable local instance qGL:A9:=Aw
local instance nGL:Kn:=⟨true⟩
variable {σ:Aa} {m:HM} {r:K4} {s:TC} {i:DD} {p:PI} {c:CI}
theorem Xk (k:Nat) (a kd:Int) (ha:AU a) {nn:Int} (hn:nn≤200) {h2:Nat} {rr dd:Int} {T:TypeId}:∀ (n x f:Nat) (acc:Int) (μ:Aa) (m:HM),An μ i m→MK m→h2 ∉ i.l→μ[h2]?=some (.cells [.int .i64 rr,.int .i64 dd,.int .i64 kd] T true)→(x:Int)+n=nn→n<f →
  ∃ μ' acc',Df (k+7) f (AV i) a h2 nn acc (x:Int) μ=some (.exit 0,[.int .i64 acc'],μ')∧An μ' i (gm a kd n x m)∧MK (gm a kd n x m)∧(gm a kd n x m).bls.length=m.bls.length∧Bu i μ μ'
 | n,x,0,acc,μ,m,h,hM,hn2,hc,hx,hf=>by omega
 | 0,x,f+1,acc,μ,m,h,hM,hn2,hc,hx,hf=>by
   rw[LD,Ig]
   simp only[sw,Ad,Af,Ae,decide_eq_false (show ¬ (x:Int)<nn by omega),cond_false]
   exact ⟨μ,acc,rfl,h,hM,rfl,Bu.refl _ _⟩
 | n+1,x,f+1,acc,μ,m,h,hM,hn2,hc,hx,hf=>by
   have w1:Cf ((x:Int)+1)=((x+1:Nat):Int):=Ak (by unfold AU; omega)
   obtain ⟨τ,e1⟩:=nL k h hM.inv a (x:Int) ha
   have e1':AA (k+7) (AV i) a (x:Int) μ=some (.tuple #[.int .i64 (DI m a (x:Int)),.int .i64 (Y2 m a (x:Int) false).2],μ++τ):=e1
   have h1:=h.app τ
   have k1:=Bu.app i μ τ
   have hc1:(μ++τ)[h2]?=_:=(List.getElem?_append_left (Al hc)).trans hc
   have l2:Dg .i64 (μ++τ) h2 2=some kd:=(Md hc1).2.2
   rw[LD,Ig,gm]
   have es:GP (k+7) kd (x:Int) (μ++τ)=_:=yM (k+6) kd (x:Int) _
   simp only[sw,Ad,Af,Ae,decide_eq_true (show (x:Int)<nn by omega),cond_true,e1',Option.bind_some,Fs,Nat.zero_add,l2,es,Ar,w1]
   have skip:¬ (DI m a (x:Int)≠0∧Wk kd (x:Int)=true) → ∃ μ' acc',Df (k+7) f (AV i) a h2 nn acc ((x+1:Nat):Int) (μ++τ)=some (.exit 0,[.int .i64 acc'],μ')∧An μ' i (gm a kd n (x+1) (if DI m a (x:Int)≠0∧Wk kd (x:Int)=true then (EK m a (x:Int) 0).2 else m))∧MK (gm a kd n (x+1) (if DI m a (x:Int)≠0∧Wk kd (x:Int)=true then (EK m a (x:Int) 0).2 else m))∧(gm a kd n (x+1) (if DI m a (x:Int)≠0∧Wk kd (x:Int)=true then (EK m a (x:Int) 0).2 else m)).bls.length=m.bls.length∧Bu i μ μ':=fun hq=>by
    rw[if_neg hq]
    obtain ⟨μ',acc',e3,g1,g2,g3,g4⟩:=Xk k a kd ha hn n (x+1) f acc (μ++τ) m h1 hM hn2 hc1 (by omega) (by omega)
    exact ⟨μ',acc',e3,g1,g2,g3,k1.trans g4⟩
   by_cases hz:DI m a (x:Int)=0
   ·rw[show (DI m a (x:Int) != 0)=false from by rw[hz]; rfl]
    simp only[cond_false,Option.bind_some,if_true,FR]
    exact skip (fun hh=>hh.1 hz)
   ·rw[show (DI m a (x:Int) != 0)=true from bne_iff_ne.2 hz]
    simp only[cond_true,Option.bind_some]
    cases hq:Wk kd (x:Int) with
    | false=>
      simp only[cond_false,Option.bind_some,if_true,FR]
      have:=skip (fun hh=>by rw[hq] at hh; cases hh.2)
      rw[hq] at this
      exact this
    | true=>
      rw[if_pos ⟨hz,rfl⟩]
      obtain ⟨σ1,e2,hh2,kk2⟩:=kZ k h1 hM.inv a (x:Int) 0 ha (by unfold AU; omega)
      have hM2:=hM.setRef a (x:Int) 0
      have hc2:σ1[h2]?=_:=(kk2.same h2 (Al hc1) hn2).trans hc1
      obtain ⟨μ',acc',e3,g1,g2,g3,g4⟩:=Xk k a kd ha hn n (x+1) f (Cf (acc+1)) σ1 _ hh2 hM2 hn2 hc2 (by omega) (by omega)
      refine ⟨μ',acc', ?_,g1,g2,by rw[g3,(XB m a (x:Int) 0).1],(k1.trans kk2).trans g4⟩
      simp only[cond_true,e2,Option.bind_some,Aj,if_true,FR,e3]
theorem wO (k:Nat) (hk:1000<k) (h:An σ i m) (hM:MK m) (a:Int) (ha:AU a) (fv:Value) (K:Int→Bool) (hK:∀ τ v,AU v→F6 (k+8) fv [.int .i64 v] (σ++τ)=some (.bool (K v),σ++τ)):
  ∃ σ' n',Ht (k+9) (AV i) a fv σ=some (.int .i64 n',σ') ∧
   An σ' i (if (Au m a).2.2≠1∧(Au m a).2.2≠2 then m else if DI m a 0≠0∧K (DI m a 0)=true then m else gm a (Au m a).2.2 (Au m a).1.toNat 0 m) ∧
   MK (if (Au m a).2.2≠1∧(Au m a).2.2≠2 then m else if DI m a 0≠0∧K (DI m a 0)=true then m else gm a (Au m a).2.2 (Au m a).1.toNat 0 m) ∧
   (if (Au m a).2.2≠1∧(Au m a).2.2≠2 then m else if DI m a 0≠0∧K (DI m a 0)=true then m else gm a (Au m a).2.2 (Au m a).1.toNat 0 m).bls.length=m.bls.length∧Bu i σ σ':=by
 obtain ⟨τ1,e1⟩:=dv (k+2) h a ha
 have e1':AE (k+8) (AV i) a σ=_:=e1
 obtain ⟨s1,s2,s3,s4⟩:=UU hM.inv a
 obtain ⟨S,hS⟩:∃ S,A6.cells [.int .i64 (Au m a).1,.int .i64 (Au m a).2.1,.int .i64 (Au m a).2.2] Ag true=S:=⟨_,rfl⟩
 have hS2:(σ++τ1++[S])[(σ++τ1).length]?=some (.cells [.int .i64 (Au m a).1,.int .i64 (Au m a).2.1,.int .i64 (Au m a).2.2] Ag true):=by
  rw[List.getElem?_concat_length,hS]
 have bx:=Md hS2
 obtain ⟨l0,l1,l2⟩:=bx
 have hh:σ++τ1++[S]=σ++(τ1++[S]):=List.append_assoc _ _ _
 have h1:An (σ++τ1++[S]) i m:=by rw[hh]; exact h.app _
 have k1:Bu i σ (σ++τ1++[S]):=by rw[hh]; exact Bu.app _ _ _
 rw[Vx,Ox]
 simp only[sw,Ad,Af,Ae,e1',Option.bind_some,yt,List.length_cons,List.length_nil,Nat.zero_add,Nat.reduceAdd,if_true,List.head?_cons,List.tail_cons,Lm,Aj,AM,Iv,hS,l2]
 by_cases c1:(Au m a).2.2≠1∧(Au m a).2.2≠2
 ·rw[if_pos c1,bne_iff_ne.2 c1.1,bne_iff_ne.2 c1.2]
  simp only[cond_true,Option.bind_some]
  exact ⟨_,0,rfl,h1,hM,trivial,k1⟩
 rw[if_neg c1]
 have hb:((bif ((Au m a).2.2 != 1) then some (((Au m a).2.2 != 2),σ++τ1++[S]) else some (false,σ++τ1++[S])):Option (Bool × Aa))=some (false,σ++τ1++[S]):=by
  by_cases q1:(Au m a).2.2=1
  ·rw[q1]; rfl
  ·have q2:(Au m a).2.2=2:=by
    by_cases q2:(Au m a).2.2=2
    ·exact q2
    ·exact absurd ⟨q1,q2⟩ c1
   rw[q2]; rfl
 rw[hb]
 obtain ⟨τ2,er⟩:=nL (k+1) h1 hM.inv a 0 ha
 have er':AA (k+8) (AV i) a 0 (σ++τ1++[S])=some (.tuple #[.int .i64 (DI m a 0),.int .i64 (Y2 m a 0 false).2],σ++τ1++[S]++τ2):=er
 have h2:=h1.app τ2
 have k2:Bu i σ (σ++τ1++[S]++τ2):=k1.trans (Bu.app _ _ _)
 have hS3:(σ++τ1++[S]++τ2)[(σ++τ1).length]?=_:=(List.getElem?_append_left (Al hS2)).trans hS2
 have l0':=(Md hS3).1
 simp only[Option.bind_some,cond_false,er',Fs]
 have hK':=hK (τ1++[S]++τ2) (DI m a 0) (jk h.wi a 0)
 rw[show σ++(τ1++[S]++τ2)=σ++τ1++[S]++τ2 from by simp only[List.append_assoc]] at hK'
 have go:¬ (DI m a 0≠0∧K (DI m a 0)=true) → ∃ μ' acc',Df (k+8) (k+8) (AV i) a (σ++τ1).length (Au m a).1 0 0 (σ++τ1++[S]++τ2)=some (.exit 0,[.int .i64 acc'],μ')∧An μ' i (gm a (Au m a).2.2 (Au m a).1.toNat 0 m)∧MK (gm a (Au m a).2.2 (Au m a).1.toNat 0 m)∧(gm a (Au m a).2.2 (Au m a).1.toNat 0 m).bls.length=m.bls.length∧Bu i (σ++τ1++[S]++τ2) μ':=fun _=>
  Xk (k+1) a (Au m a).2.2 ha s2 (h2:=(σ++τ1).length) (T:=Ag) (Au m a).1.toNat 0 (k+8) 0 (σ++τ1++[S]++τ2) m h2 hM (fun hm=>by have:=h.lt _ hm; rw[List.length_append] at this; omega) hS3 (by omega) (by omega)
 by_cases hz:DI m a 0=0
 ·have hn:¬ (DI m a 0≠0∧K (DI m a 0)=true):=fun hh=>hh.1 hz
  rw[if_neg hn]
  obtain ⟨μ',acc',e3,g1,g2,g3,g4⟩:=go hn
  refine ⟨μ',acc', ?_,g1,g2,g3,k2.trans g4⟩
  rw[show (DI m a 0 != 0)=false from by rw[hz]; rfl]
  simp only[cond_false,Option.bind_some,l0',e3,if_true,FR]
 ·rw[show (DI m a 0 != 0)=true from bne_iff_ne.2 hz]
  simp only[cond_true,hK',Option.bind_some,Ar]
  cases hq:K (DI m a 0) with
  | true=>
    rw[if_pos ⟨hz,rfl⟩]
    simp only[cond_true]
    exact ⟨_,0,rfl,h2,hM,trivial,k2⟩
  | false=>
    have hn:¬ (DI m a 0≠0∧K (DI m a 0)=true):=fun hh=>by rw[hq] at hh; cases hh.2
    rw[if_neg (fun hh=>by cases hh.2)]
    obtain ⟨μ',acc',e3,g1,g2,g3,g4⟩:=go hn
    refine ⟨μ',acc', ?_,g1,g2,g3,k2.trans g4⟩
    simp only[cond_false,l0',Option.bind_some,e3,if_true,FR]
theorem xn (k:Nat) (x0:Option Addr) (x1:Int) (σ:Aa):F6 k (.func (.func 266) #[.pointer x0] #[]) [.int .i64 x1] σ=B8 k x0 x1 σ:=by
 simp only[F6,B8,Ab]; kernel_rfl
theorem Acd (k:Nat) (hk:1000<k) (T:RC σ i p c m r s) (a:Int) (ha:AU a):∃ σ' b,HL (k+10) (AV i) a (.func (.func 266) #[.pointer (Hy c)] #[]) σ=some (.bool b,σ')∧RC σ' i p c (Adq m s a) r s∧Mv i.l i.l σ σ':=by
 obtain ⟨σ',n',e,g1,g2,g3,g4⟩:=wO k hk T.h T.mo a ha (.func (.func 266) #[.pointer (Hy c)] #[]) (Uy m s) (fun τ v hv=>by
  rw[xn]
  exact ng (k+3) (T.app τ) v hv)
 refine ⟨σ',decide (n'>0), ?_,T.Ad1 g1 g4 g2 g3,g4.mv⟩
 rw[Yf,Sx]
 simp only[sw,Ad,Af,Ae,e,Option.bind_some,Aj]
end Go.Proofs.YtjbledomkmdkmaaGreat
end
section
namespace Go.Proofs.YtjbledomkmdkmaaGreat
open Go Go.AX
noncomputable local instance qGM:A9:=Aw
local instance nGM:Kn:=⟨true⟩
variable {σ:Aa} {m:HM} {r:K4} {s:TC} {i:DD} {p:PI} {c:CI}
theorem gB (k:Nat) (hk:1000<k) {sl:Ce} {l:List Int} (hl:l.length≤100000) (hv:∀ v ∈ l,AU v) (ho:∀ q ∈ hs sl,q ∉ i.l):∀ (n x f:Nat) (σ:Aa) (m:HM),RC σ i p c m r s→B6 σ sl l→x+n=l.length→n<f →
  ∃ σ',Es (k+10) f (Hy c) sl.1 l.length l.length ((l.length:Nat):Int) (x:Int) σ=some (.exit 0,[],σ')∧RC σ' i p c (iC m s (l.drop x)) r s∧Mv i.l i.l σ σ'
 | n,x,0,σ,m,T,hli,hx,hf=>by omega
 | 0,x,f+1,σ,m,T,hli,hx,hf=>by
   rw[LI,Ij]
   simp only[sw,Ad,Af,Ae,decide_eq_false (show ¬ (x:Int)<((l.length:Nat):Int) by omega),cond_false]
   rw[List.drop_eq_nil_of_le (by omega)]
   exact ⟨σ,rfl,T,Mv.refl _ _⟩
 | n+1,x,f+1,σ,m,T,hli,hx,hf=>by
   obtain ⟨b,e,l1,_⟩:=hli.ld (x:=x) (by omega)
   have qx:(0≤(x:Int)∧(x:Int)<((l.length:Nat):Int))=True:=eq_true (by omega)
   have w1:Cf ((x:Int)+1)=((x+1:Nat):Int):=Ak (by unfold AU; omega)
   have hd:l.drop x=l.getD x 0::l.drop (x+1):=by
    rw[List.drop_eq_getElem_cons (by omega),List.getD_eq_getElem?_getD,List.getElem?_eq_getElem (by omega)]; rfl
   have hvx:AU (l.getD x 0):=by
    rw[List.getD_eq_getElem?_getD,List.getElem?_eq_getElem (show x<l.length by omega)]; exact hv _ (List.getElem_mem _)
   rw[hd]
   show ∃ σ',_∧RC σ' i p c ((l.drop (x+1)).foldl _ _) r s∧_
   generalize l.getD x 0=a at l1 hvx
   have es:B8 (k+10) (Hy c) a σ=_:=ng (k+5) T a hvx
   rw[LI,Ij]
   simp only[sw,Ad,Af,Ae,decide_eq_true (show (x:Int)<((l.length:Nat):Int) by omega),cond_true,qx,if_true,e,Option.bind_some,Int.toNat_natCast,Nat.mul_one,Nat.zero_add,Nat.add_zero,l1,w1,es,Ar]
   cases hsa:Uy m s a with
   | false=>
     obtain ⟨σ',e2,T2,m2⟩:=gB k hk hl hv ho n (x+1) f σ m T hli (by omega) (by omega)
     rw[e] at e2
     refine ⟨σ', ?_,T2,m2⟩
     simp only[cond_false,Option.bind_some,if_true,e2]
   | true=>
     obtain ⟨σ1,b1,e1,T1,m1⟩:=Acd k hk T a hvx
     have e1':HL (k+10) (AV i) a (.func (.func 266) #[.pointer (some ⟨c.cb,0,none⟩)] #[]) σ=_:=e1
     obtain ⟨k1,_,_⟩:=m1.GI (X:=hs sl) hli.lt ho
     obtain ⟨σ',e2,T2,m2⟩:=gB k hk hl hv ho n (x+1) f σ1 _ T1 (hli.AG k1) (by omega) (by omega)
     rw[e] at e2
     refine ⟨σ', ?_,T2,m1.trans m2⟩
     simp only[cond_true,T.co.K2,Option.bind_some,e1',Ar,if_true,e2]
def dT (m:HM) (n:Nat):List Int:=((List.range n).filter fun (b:Nat)=>decide (CE m ((b:Nat):Int)=1∨CE m ((b:Nat):Int)=2)).map fun (b:Nat)=>((b:Nat):Int)
theorem Aah (m:HM) (n:Nat):dT m (n+1)=dT m n++(if decide (CE m (n:Int)=1∨CE m (n:Int)=2)=true then [(n:Int)] else []):=
 vT n (fun (b:Nat)=>decide (CE m ((b:Nat):Int)=1∨CE m ((b:Nat):Int)=2)) fun (b:Nat)=>((b:Nat):Int)
theorem uZ (m:HM) (n:Nat):(dT m n).length≤n:=by
 unfold dT
 rw[List.length_map]
 have:=List.length_filter_le (fun (b:Nat)=>decide (CE m ((b:Nat):Int)=1∨CE m ((b:Nat):Int)=2)) (List.range n)
 rwa [List.length_range] at this
theorem gC (k:Nat) (cb:Nat) {rb nb nn:Nat} (hn:nn≤100):∀ (n x f:Nat) (μ:Aa) (c:CI),An μ i m→Gq μ c i.hb rb nb { s with left:=dT m x }→(∀ q ∈ i.l,q ∉ c.l)→c.cb=cb→x+n=nn→n<f →
  ∃ μ' c',Et (k+3) f (some ⟨cb,0,none⟩) (nn:Int) (x:Int) μ=some (.exit 2,[],μ')∧Gq μ' c' i.hb rb nb { s with left:=dT m nn }∧Mv c.l c'.l μ μ'∧c'.cb=cb
 | n,x,0,μ,c,h,hc,ho,hcb,hx,hf=>by omega
 | 0,x,f+1,μ,c,h,hc,ho,hcb,hx,hf=>by
   rw[LJ,Ik]
   simp only[sw,Ad,Af,Ae,decide_eq_false (show ¬ (x:Int)<(nn:Int) by omega),cond_false]
   have e:x=nn:=by omega
   subst e
   exact ⟨μ,c,rfl,hc,Mv.refl _ _,hcb⟩
 | n+1,x,f+1,μ,c,h,hc,ho,hcb,hx,hf=>by
   have w1:Cf ((x:Int)+1)=((x+1:Nat):Int):=Ak (by unfold AU; omega)
   have hsu:=Aah m x
   have hlen:=uZ m x
   have est:AY (k+3) (AV i) (x:Int) μ=_:=mW k h (x:Int)
   have l0:L8 μ cb 0=some (AV i):=by rw[← hcb]; exact hc.K2
   have l7:Hx μ cb 7=some (c.lf.1,(dT m x).length,(dT m x).length):=by rw[← hcb]; exact hc.ld7
   rw[LJ,Ik]
   simp only[sw,Ad,Af,Ae,decide_eq_true (show (x:Int)<(nn:Int) by omega),cond_true,Option.bind_some,Nat.zero_add,Nat.add_zero,l0,est,Aj,w1]
   have hb:((bif (CE m (x:Int) == 1) then some (true,μ) else some ((CE m (x:Int) == 2),μ)):Option (Bool × Aa))=some (decide (CE m (x:Int)=1∨CE m (x:Int)=2),μ):=by
    by_cases q1:CE m (x:Int)=1
    ·rw[q1]; rfl
    ·rw[show (CE m (x:Int) == 1)=false from beq_eq_false_iff_ne.2 q1]
     by_cases q2:CE m (x:Int)=2
     ·rw[q2]; rfl
     ·rw[show (CE m (x:Int) == 2)=false from beq_eq_false_iff_ne.2 q2,decide_eq_false (fun hh=>hh.elim q1 q2)]; rfl
   rw[hb]
   simp only[Option.bind_some]
   cases hq:decide (CE m (x:Int)=1∨CE m (x:Int)=2) with
   | false=>
     rw[hq] at hsu
     simp only[Bool.false_eq_true,if_false,List.append_nil] at hsu
     obtain ⟨μ',c',e2,h2,m2,b2⟩:=gC k cb hn n (x+1) f μ c h (by rw[hsu]; exact hc) ho hcb (by omega) (by omega)
     refine ⟨μ',c', ?_,h2,m2,b2⟩
     simp only[cond_false,Option.bind_some,if_true,e2]
   | true=>
     rw[hq] at hsu
     simp only[if_true] at hsu
     obtain ⟨s',μ1,e1,li1,m1⟩:=hc.lf.push (x:Int) As (by show (dT m x).length≤_; omega)
     have g:=hc.lf.form
     have g1:c.lf.2.1=(dT m x).length:=by rw[g]
     have g2:c.lf.2.2=(dT m x).length:=by rw[g]
     rw[g1,g2] at e1
     obtain ⟨μ2,e2,h2,m2⟩:=hc.zw (fun q hq=>hq) m1 li1
     obtain ⟨k1,k2,_⟩:=m2.GI (X:=i.l) h.lt ho
     obtain ⟨μ',c',e3,h3,m3,b3⟩:=gC k cb hn n (x+1) f μ2 _ (h.AG k1) (by rw[hsu]; exact h2) k2 hcb (by omega) (by omega)
     refine ⟨μ',c', ?_,h3,m2.trans m3,b3⟩
     rw[hcb] at e2
     simp only[cond_true,l7,Option.bind_some,AM,e1,e2,if_true,e3]
theorem Agp (k:Nat) (hk:5000≤k) (T:RC σ i p c m r s) (hp:s.ph≠2):∃ σ' c',Gh (k+13) (Hy c) σ=some (.tuple #[],σ')∧RC σ' i p c' (zj m r s).1 r (zj m r s).2∧Mv (i.l++c.l) (i.l++c'.l) σ σ'∧c'.cb=c.cb:=by
 have hnt:=T.mo.nt
 have hal:=XV hnt
 obtain ⟨σ1,c1,e1,T1,m1,b1⟩:∃ σ1 c1,((bif s.look then ((Dv (k+12) (Hy c) σ).bind fun r3=>dL r3.1 (some (.normal,[],r3.2))) else (some (.normal,[],σ)):Option Ax))=some (.normal,[],σ1)∧RC σ1 i p c1 m r (if s.look then JW m s (HF r) else s)∧Mv c.l c1.l σ σ1∧c1.cb=c.cb:=by
  cases s.look with
  | false=>exact ⟨σ,c,rfl,T,Mv.refl _ _,rfl⟩
  | true=>
    obtain ⟨σ1,c1,e1,T1,m1,b1⟩:=sk k (by omega) T hp
    exact ⟨σ1,c1,by simp only[cond_true,e1,Option.bind_some,M8],T1,m1,b1⟩
 obtain ⟨s1,hs1⟩:∃ s1,(if s.look then JW m s (HF r) else s)=s1:=⟨_,rfl⟩
 have p1:s1.ph≠2:=by
  rw[← hs1]; split
  ·rw[(gS m _ s).1]; exact hp
  ·exact hp
 rw[hs1] at T1
 obtain ⟨σ2,c2,e2,T2,m2,b2⟩:=Ai5 k hk T1 p1
 have p2:(Ads m s1).ph≠2:=by unfold Ads; rw[(gS m _ s1).1]; exact p1
 obtain ⟨s2,hs2⟩:∃ s2,Ads m s1=s2:=⟨_,rfl⟩
 rw[hs2] at T2 p2
 have bb:c2.cb=c.cb:=b2.trans b1
 have tp1:Hy c1=Hy c:=by unfold Hy; rw[b1]
 have tp2:Hy c2=Hy c:=by unfold Hy; rw[bb]
 rw[tp1] at e2
 have m12:=m1.trans m2
 have hlast:zj m r s=(if s2.list≠[] then (m,s2) else (iC m s2 (Hz m),{ s2 with left:=s2.left++tr (iC m s2 (Hz m)),ph:=2 })):=by
  rw[← hs2,← hs1]; rfl
 rw[hlast]
 have d6:Hx σ2 c.cb 6=some (c2.ls.1,s2.list.length,s2.list.length):=by rw[← bb]; exact T2.co.ld6
 rw[VB,O9]
 simp only[sw,Ad,Af,Ae,Option.bind_some,Nat.zero_add,Nat.add_zero,T.co.kr,e1,if_true,e2,M8,d6]
 by_cases hz:s2.list=[]
 rotate_left
 ·have:0<s2.list.length:=List.length_pos_iff.2 hz
  rw[if_pos hz,decide_eq_true (by omega)]
  exact ⟨σ2,c2,rfl,T2,m12.right i.l,bb⟩
 rw[if_neg (fun hh=>hh hz)]
 have hl0:s2.list.length=0:=by rw[hz]; rfl
 have d0:L8 σ2 c.cb 0=some (AV i):=by rw[← bb]; exact T2.co.K2
 obtain ⟨τ,sl,e3,li⟩:=sN (k+6) (by omega) T2.h
 have e3':Bv (k+12) (AV i) σ2=_:=e3
 have hge:=li.ge
 have li:B6 (σ2++τ) sl (Hz m):=B6.ints li
 have T3:=T2.app τ
 obtain ⟨σ4,e4,T4,m4⟩:=gB (k+2) (by omega) (sl:=sl) (l:=Hz m) (by omega) (tm hnt) (fun q hq hm=>by
  obtain ⟨a,ha,rfl⟩:=Ch.1 hq
  have:=(hge a ha).1
  have:=T2.h.lt _ hm
  omega) (Hz m).length 0 (k+12) (σ2++τ) m T3 li (by omega) (by omega)
 rw[show ((0:Nat):Int)=0 from rfl,tp2] at e4
 rw[List.drop_zero] at T4
 obtain ⟨m',hm'⟩:∃ m',iC m s2 (Hz m)=m':=⟨_,rfl⟩
 rw[hm'] at T4 ⊢
 have hnt4:=T4.mo.nt
 have l20:s2.left=[]:=T2.tok.l0 p2
 have dd0:L8 σ4 c.cb 0=some (AV i):=by rw[← bb]; exact T4.co.K2
 have eb:Av (k+12) (AV i) σ4=_:=Pt (k+10) T4.h
 have hco:Gq σ4 c2 i.hb p.rb m'.bls.length { s2 with left:=dT m' 0 }:=by
  have:({ s2 with left:=dT m' 0 }:TC)=s2:=by
   show ({ s2 with left:=[] }:TC)=s2
   rw[← l20]
  rw[this]; exact T4.co
 obtain ⟨σ5,c5,e5,h5,m5,b5⟩:=gC (s:=s2) (k+9) c.cb (nn:=m'.bls.length) (by omega) m'.bls.length 0 (k+12) σ4 c2 T4.h hco (fun q hq hm=>T4.fp.ne (x:=0) (y:=2) (by simp) (by simp) (by decide) q hq hm) bb (by omega) (by omega)
 rw[show ((0:Nat):Int)=0 from rfl] at e5
 obtain ⟨σ6,e6,h6,m6⟩:=h5.Ae7 2
 have hbk:tr m'=dT m' m'.bls.length:=rfl
 rw[l20,List.nil_append,hbk]
 have tk:uL m'.bls.length { s2 with left:=dT m' m'.bls.length,ph:=2 }:=⟨T4.tok.wl,T4.tok.ls,T4.tok.lr,by have:=uZ m' m'.bls.length; show (dT m' _).length≤64; omega,fun hh=>absurd rfl hh,fun _=>hz⟩
 have T6:=T4.Zs h6 (m5.trans m6) tk
 refine ⟨σ6,c5, ?_,T6,((m12.right i.l).trans ((Mv.app _ _ τ).trans (m4.left c2.l))).trans ((m5.trans m6).right i.l),b5⟩
 have g:=li.form
 have g1:sl.2.1=(Hz m).length:=by rw[g]
 have g2:sl.2.2=(Hz m).length:=by rw[g]
 rw[b5] at e6
 simp only[hl0,show decide (((0:Nat):Int)>0)=false from rfl,cond_false,d0,Option.bind_some,e3',H7,g1,g2,e4,if_true,dd0,eb,Aj,e5,e6]
end Go.Proofs.YtjbledomkmdkmaaGreat
end
section
namespace Go.Proofs.YtjbledomkmdkmaaGreat
open Go Go.AX
noncomputable local instance qGN:A9:=Aw
local instance nGN:Kn:=⟨true⟩
variable {σ:Aa} {m:HM} {r:K4} {s:TC} {i:DD} {p:PI} {c:CI}
def TG (mm:Option (Value × Aa)) (σ:Aa) (i:DD) (p:PI) (c:CI) (r:K4) (v:Value) (q:HM × TC):Prop:=
 ∃ σ' c',mm=some (v,σ')∧RC σ' i p c' q.1 r q.2∧Mv (i.l++c.l) (i.l++c'.l) σ σ'∧c'.cb=c.cb
theorem Ajf (k:Nat) (hk:5000≤k) (T:RC σ i p c m r s) (hp:s.ph≠2) {a:Int} {l:List Int} (hl:s.list=a::l):TG (DF (k+14) (Hy c) σ) σ i p c r (.tuple #[]) (m,Ag1 m s):=by
 have hnt:=T.mo.nt
 have hlen:=T.tok.len
 have har:=T.tok.lr a (by rw[hl]; exact List.mem_cons_self)
 have hll:s.list.length=l.length+1:=by rw[hl]; rfl
 have ha:AU a:=by unfold AU; omega
 have d6:=T.co.ld6
 have hls:B6 σ c.ls (a::l):=by rw[← hl]; exact T.co.ls
 obtain ⟨b,eb,lb,_⟩:=hls.ld (x:=0) (by simp)
 have lb':Dg .i64 σ b 0=some a:=lb
 obtain ⟨pt,ct,e1,hol⟩:=hls.tail
 rw[← hl,eb] at e1
 obtain ⟨s',τ1,e2,li1,new1⟩:=iD (k+12) pt ct l (by omega) hol
 have e2':Be (k+13) (pt,l.length,ct) σ=_:=e2
 obtain ⟨σ2,e3,h3,m3⟩:=T.co.zx (L:=[]) (fun q hq=>by cases hq) (μ:=σ++τ1) ⟨by simp,fun q hq _=>List.getElem?_append_left hq,fun q hq=>.inr (new1 q hq)⟩ li1
 have tk:uL m.bls.length { s with list:=l }:=⟨T.tok.wl,by have:=T.tok.ls; rw[hll] at this; show l.length≤_; exact Nat.le_of_succ_le this,fun v hv=>T.tok.lr v (by rw[hl]; exact List.mem_cons_of_mem _ hv),T.tok.lf,T.tok.l0,fun e=>absurd e hp⟩
 have T2:=T.Zs h3 m3 tk
 have n1:(s.ph == 2)=false:=beq_eq_false_iff_ne.2 hp
 have eh:AJ (k+13) (AV i) a σ2=_:=fZ (k+9) T2.h a ha
 have d0:L8 σ2 c.cb 0=some (AV i):=T2.co.K2
 unfold TG
 have hpop:Ag1 m s=if Ea m a then gG (JW m { s with list:=l } (Rm m a)) a 2 else { s with list:=l }:=by
  unfold Ag1; rw[hl]
 rw[hpop]
 rw[Ld,IX]
 simp only[sw,Ad,Af,Ae,Option.bind_some,Nat.zero_add,Nat.add_zero,T.co.ld4,n1,cond_false,d6,decide_eq_true (show ((s.list.length:Nat):Int)>0 by omega),cond_true]
 rw[if_pos (by omega)]
 simp only[eb,Option.bind_some,Int.toNat_zero,Nat.zero_mul,Nat.zero_add,lb',e1,e2',H7,e3,d0,eh,Ar]
 cases hh:Ea m a with
 | false=>
   simp only[cond_false,Option.bind_some,if_true,Bool.false_eq_true,if_false]
   exact ⟨σ2,_,rfl,T2,m3.right i.l,rfl⟩
 | true=>
   obtain ⟨τ4,o,e4,li4,new4⟩:=zQ (k+4) (by omega) T2.h T.mo.inv a ha
   have e4':GZ (k+13) (AV i) a σ2=_:=e4
   have T4:=T2.app τ4
   have hsl:(Rm m a).length≤200:=by
    have h1:=wG m a (Au m a).1.toNat
    have h2:=UU T.mo.inv a
    have:Rm m a=uj m a (Au m a).1.toNat:=rfl
    rw[this]; omega
   obtain ⟨σ5,c5,e5,T5,m5,b5⟩:=qg (k+2) (sl:=o) (l:=Rm m a) (by omega) (fun v hv=>by
    unfold Rm at hv
    obtain ⟨x,_,rfl⟩:=List.mem_map.1 hv
    exact jk T2.h.wi a _) c.cb (Rm m a).length 0 (k+13) (σ2++τ4) _ _ T4 rfl hp li4 (fun q hq hm=>by have:=new4 q hq; have:=T2.co.lt q hm; omega) (by omega) (by omega)
   rw[show ((0:Nat):Int)=0 from rfl] at e5
   rw[List.drop_zero] at T5
   obtain ⟨j,hj,hs⟩:=Ek hh
   obtain ⟨σ6,e6,h6,m6⟩:=vM (k+3) T5.co hs.1 (v:=2) (by decide)
   rw[← hj] at e6 h6
   have tk6:=T5.tok.Aia hs.1 (v:=2) (by decide) (by decide)
   rw[← hj] at tk6
   have T6:=T5.Zs h6 m6 tk6
   have g:=li4.form
   have g1:o.2.1=(Rm m a).length:=by rw[g]
   have g2:o.2.2=(Rm m a).length:=by rw[g]
   have e6':Cp (k+13) (some ⟨c.cb,0,none⟩) a (2:Int) σ5=some (.tuple #[],σ6):=by
    have:Hy c5=some ⟨c.cb,0,none⟩:=by unfold Hy; rw[b5]
    rw[← this]; exact e6
   refine ⟨σ6,c5, ?_,T6,(((m3.trans (Mv.app _ _ τ4)).trans m5).trans m6).right i.l,b5⟩
   simp only[cond_true,e4',Option.bind_some,g1,g2,e5,if_true,e6',M8]
theorem g9 (ws:List (BitVec 64)):∀ (l:List Int) (q:HM × Int),MK q.1→MK (VK ws l q).1∧(VK ws l q).1.bls.length=q.1.bls.length
 | [],q,h=>⟨h,rfl⟩
 | a::l,q,h=>by
   unfold VK
   split
   ·obtain ⟨h1,h2⟩:=g9 ws l ((Kv q.1 a).2,Cf (q.2+1)) (h.kill a)
    exact ⟨h1,h2.trans (by rw[(WL h.inv h.sh a).1])⟩
   ·exact g9 ws l q h
theorem dp (k:Nat) {sl:Ce} {l:List Int} (hl:l.length≤100000) (nb:Nat) (hv:∀ v ∈ l,∃ j:Nat,v=((2*j:Nat):Int)∧j<32*nb) (hnb:nb≤64):∀ (n x f:Nat) (σ:Aa) (m:HM) (s:TC),RC σ i p c m r s→m.bls.length=nb→B6 σ sl l→(∀ q ∈ hs sl,q ∉ i.l∧q ∉ c.l)→x+n=l.length→n<f →
  ∃ σ',Dn (k+12) f (Hy c) sl.1 l.length l.length ((l.length:Nat):Int) (x:Int) σ=some (.exit 0,[],σ')∧RC σ' i p c (VK s.ws (l.drop x) (m,s.freed)).1 r { s with freed:=(VK s.ws (l.drop x) (m,s.freed)).2 }∧Mv (i.l++c.l) (i.l++c.l) σ σ'
 | n,x,0,σ,m,s,T,hb,hli,ho,hx,hf=>by omega
 | 0,x,f+1,σ,m,s,T,hb,hli,ho,hx,hf=>by
   rw[Lc,H4]
   simp only[sw,Ad,Af,Ae,decide_eq_false (show ¬ (x:Int)<((l.length:Nat):Int) by omega),cond_false]
   rw[List.drop_eq_nil_of_le (by omega)]
   exact ⟨σ,rfl,T,Mv.refl _ _⟩
 | n+1,x,f+1,σ,m,s,T,hb,hli,ho,hx,hf=>by
   obtain ⟨b,e,l1,_⟩:=hli.ld (x:=x) (by omega)
   have qx:(0≤(x:Int)∧(x:Int)<((l.length:Nat):Int))=True:=eq_true (by omega)
   have w1:Cf ((x:Int)+1)=((x+1:Nat):Int):=Ak (by unfold AU; omega)
   have hd:l.drop x=l.getD x 0::l.drop (x+1):=by
    rw[List.drop_eq_getElem_cons (by omega),List.getD_eq_getElem?_getD,List.getElem?_eq_getElem (by omega)]; rfl
   obtain ⟨j,hj,hjb⟩:∃ j:Nat,l.getD x 0=((2*j:Nat):Int)∧j<32*nb:=by
    rw[List.getD_eq_getElem?_getD,List.getElem?_eq_getElem (show x<l.length by omega)]; exact hv _ (List.getElem_mem _)
   rw[hd]
   rw[hj] at l1 ⊢
   have eo:Cn (k+12) (Hy c) ((2*j:Nat):Int) σ=_:=Ah9 (k+8) T.co (by omega)
   rw[Lc,H4]
   simp only[sw,Ad,Af,Ae,decide_eq_true (show (x:Int)<((l.length:Nat):Int) by omega),cond_true,qx,if_true,e,Option.bind_some,Int.toNat_natCast,Nat.mul_one,Nat.zero_add,Nat.add_zero,l1,w1,eo,Aj]
   have ej:((2*j:Nat):Int).toNat/2=j:=by omega
   unfold VK
   rw[ej]
   by_cases hz:Ec 2 s.ws j=0
   rotate_left
   ·rw[if_neg hz,show ((Ec 2 s.ws j:Int) == 0)=false from by simpa using hz]
    obtain ⟨σ',e2,T2,m2⟩:=dp k hl nb hv hnb n (x+1) f σ m s T hb hli ho (by omega) (by omega)
    rw[e] at e2
    refine ⟨σ', ?_,T2,m2⟩
    simp only[cond_false,Option.bind_some,if_true,e2]
   ·rw[if_pos hz,show ((Ec 2 s.ws j:Int) == 0)=true from by simpa using hz]
    obtain ⟨σ1,e1,h1,k1⟩:=qY k T.h T.mo.inv ((2*j:Nat):Int) (by unfold AU; omega)
    have sh:=WL T.mo.inv T.mo.sh ((2*j:Nat):Int)
    have T1:=T.Ad1 h1 k1 (T.mo.kill _) (by rw[sh.1])
    obtain ⟨σ2,e2,h2,m2⟩:=T1.co.wz (Cf (s.freed+1))
    have T2:=T1.Zs h2 m2 ⟨T1.tok.wl,T1.tok.ls,T1.tok.lr,T1.tok.lf,T1.tok.l0,T1.tok.s2⟩
    have mm:Mv (i.l++c.l) (i.l++c.l) σ σ2:=(k1.mv.left c.l).trans (m2.right i.l)
    obtain ⟨g1,g2,_⟩:=mm.GI (X:=hs sl) hli.lt (fun q hq hm=>(List.mem_append.1 hm).elim (ho q hq).1 (ho q hq).2)
    obtain ⟨σ',e3,T3,m3⟩:=dp k hl nb hv hnb n (x+1) f σ2 _ _ T2 (by rw[sh.1]; exact hb) (hli.AG g1) ho (by omega) (by omega)
    rw[e] at e3
    refine ⟨σ', ?_,T3,mm.trans m3⟩
    simp only[cond_true,T.co.K2,Option.bind_some,e1,Aj,T1.co.ld8,e2,if_true,e3]
theorem rI:∀ (n x:Nat) (ws:List (BitVec 64)),(lL ws n x).length=ws.length
 | 0,_,_=>rfl
 | n+1,x,ws=>by rw[lL,rI n]; exact Hg _ _ _ _
theorem zh (k:Nat) (hk:5000≤k) (T:RC σ i p c m r s) (hp:s.ph=2):∃ σ',((Hx σ c.cb 7).bind fun l38=>(bif ((l38.2.1:Nat):Int) == (0:Int) then ((L8 σ c.cb 5).bind fun p40=>(L8 σ c.cb 5).bind fun p42=>(CZ (k+13) p42 σ).bind fun r43=>(Ml .i64 r43.1).bind fun n44=>(DZ (k+13) p40 (0:Int) n44 (0:Int) r43.2).bind fun r45=>(Ml .i64 r45.1).bind fun n46=>(K3 r45.2 c.cb 4 (.int .i64 (0:Int))).bind fun s48=>some (.normal,[],s48)) else (some (.normal,[],σ)):Option Ax).bind fun r49=>if r49.1 = .normal then (some (Value.tuple #[],r49.2.2)) else none)=some (Value.tuple #[],σ')∧RC σ' i p c m r (vA (32*m.bls.length) s)∧Mv c.l c.l σ σ':=by
 simp only[T.co.ld7,Option.bind_some]
 unfold vA
 by_cases hz:s.left=[]
 ·rw[if_pos hz]
  have h0:s.left.length=0:=by rw[hz]; rfl
  have ee:CZ (k+13) (some ⟨c.tb,0,none⟩) σ=_:=wP (k+11) T.co.tab
  obtain ⟨σ1,e1,h1,m1⟩:=Afo (k+4) (by omega) T.co.sep.bc T.co.tab
  have e1':DZ (k+13) (some ⟨c.tb,0,none⟩) 0 ((32*m.bls.length:Nat):Int) 0 σ=_:=e1
  obtain ⟨h2,m2⟩:=T.co.Ae9 h1 m1
  obtain ⟨σ3,e3,h3,m3⟩:=h2.Ae7 0
  have tk:uL m.bls.length { s with ws:=lL s.ws (32*m.bls.length) 0,ph:=0 }:=⟨by show (lL _ _ _).length=_; rw[rI]; exact T.tok.wl,by show s.list.length≤_; rw[T.tok.s2 hp]; exact Nat.zero_le _,T.tok.lr,T.tok.lf,fun _=>hz,fun hh=>by cases hh⟩
  refine ⟨σ3, ?_,T.Zs h3 (m2.trans m3) tk,m2.trans m3⟩
  rw[h0]
  simp only[show (((0:Nat):Int) == 0)=true from rfl,cond_true,T.co.ld5,Option.bind_some,ee,Aj,e1',e3,if_true]
 ·rw[if_neg hz]
  have:0<s.left.length:=List.length_pos_iff.2 hz
  refine ⟨σ, ?_,T,Mv.refl _ _⟩
  rw[show (((s.left.length:Nat):Int) == 0)=false from by simpa using hz]
  simp only[cond_false,Option.bind_some,if_true]
theorem Agz {m:HM} {b:Int}:∀ v ∈ EU (Mz m b),∃ j:Nat,v=((2*j:Nat):Int)∧j<32*m.bls.length:=by
 intro v hv
 unfold EU at hv
 obtain ⟨j,hj,rfl⟩:=List.mem_map.1 hv
 refine ⟨j,rfl, ?_⟩
 unfold Mz at hj
 split at hj
 ·have:=VN.1 hj
  omega
 ·cases hj
theorem Aeh (m:HM) (b:Int):(EU (Mz m b)).length≤32:=by
 unfold EU Mz
 rw[List.length_map]
 split
 ·exact Wl _ _ _
 ·simp
theorem Aff (k:Nat) (hk:5000≤k) (T:RC σ i p c m r s) (hp:s.ph=2):TG (GF (k+14) (Hy c) σ) σ i p c r (.tuple #[]) (yp m s):=by
 have hnt:=T.mo.nt
 have d7:=T.co.ld7
 have hlf:=T.tok.lf
 unfold TG yp
 rw[Uk,Nb]
 cases hl:s.left with
 | nil=>
   obtain ⟨σ',e1,T1,m1⟩:=zh k hk T hp
   refine ⟨σ',c, ?_,T1,m1.right i.l,rfl⟩
   rw[hl] at d7
   simp only[sw,Ad,Af,Ae,Option.bind_some,Nat.zero_add,Nat.add_zero,d7,List.length_nil,show decide (((0:Nat):Int)>0)=false from rfl,cond_false,if_true]
   rw[d7] at e1
   simp only[Option.bind_some,List.length_nil] at e1
   exact e1
 | cons b l=>
   have hll:s.left.length=l.length+1:=by rw[hl]; rfl
   have hls:B6 σ c.lf (b::l):=by rw[← hl]; exact T.co.lf
   obtain ⟨q,eq,lb,_⟩:=hls.ld (x:=0) (by simp)
   have lb':Dg .i64 σ q 0=some b:=lb
   obtain ⟨pt,ct,e1,hol⟩:=hls.tail
   rw[← hl,eq] at e1
   obtain ⟨s',τ1,e2,li1,new1⟩:=iD (k+12) pt ct l (by omega) hol
   have e2':Be (k+13) (pt,l.length,ct) σ=_:=e2
   obtain ⟨σ2,e3,h3,m3⟩:=T.co.zw (L:=[]) (fun q hq=>by cases hq) (μ:=σ++τ1) ⟨by simp,fun q hq _=>List.getElem?_append_left hq,fun q hq=>.inr (new1 q hq)⟩ li1
   have tk:uL m.bls.length { s with left:=l }:=⟨T.tok.wl,T.tok.ls,T.tok.lr,by show l.length≤64; omega,fun hh=>absurd hp hh,T.tok.s2⟩
   have T2:=T.Zs h3 m3 tk
   have d0:L8 σ2 c.cb 0=some (AV i):=T2.co.K2
   obtain ⟨τ4,sl,e4,li4⟩:=zN (k+7) (by omega) T2.h b
   have e4':Ba (k+13) (AV i) b σ2=_:=e4
   have hge:=li4.ge
   have li4:B6 (σ2++τ4) sl (EU (Mz m b)):=B6.ints li4
   have T4:=T2.app τ4
   have hol2:=Aeh m b
   obtain ⟨σ5,e5,T5,m5⟩:=dp (k+1) (sl:=sl) (l:=EU (Mz m b)) (by omega) m.bls.length Agz hnt (EU (Mz m b)).length 0 (k+13) (σ2++τ4) m _ T4 rfl li4 (fun q hq=>by
    obtain ⟨a,ha,rfl⟩:=Ch.1 hq
    have:=(hge a ha).1
    exact ⟨fun hm=>by have:=T2.h.lt _ hm; omega,fun hm=>by have:=T2.co.lt _ hm; omega⟩) (by omega) (by omega)
   rw[show ((0:Nat):Int)=0 from rfl] at e5
   rw[List.drop_zero] at T5
   obtain ⟨Q,hQ⟩:∃ Q,VK s.ws (EU (Mz m b)) (m,s.freed)=Q:=⟨_,rfl⟩
   have T5:RC σ5 i p { c with lf:=s' } Q.1 r { s with left:=l,freed:=Q.2 }:=by rw[← hQ]; exact T5
   have d05:L8 σ5 c.cb 0=some (AV i):=T5.co.K2
   obtain ⟨σ6,e6,h6,k6⟩:=sR (k+6) (by omega) T5.h b
   have e6':DM (k+13) (AV i) b σ5=_:=e6
   have hrk:=fG T5.mo.inv T5.mo.inv2 b
   have T6:=T5.Ad1 h6 k6 (T5.mo.release b) hrk.len
   obtain ⟨σ7,e7,T7,m7⟩:=zh k hk T6 hp
   have hbl:(DJ Q.1 b).2.bls.length=m.bls.length:=by
    rw[hrk.len,← hQ]; exact (g9 s.ws _ _ T.mo).2
   rw[hbl] at T7
   show ∃ σ' c',_∧RC σ' i p c' (DJ (VK s.ws (EU (Mz m b)) (m,s.freed)).1 b).2 r (vA (32*m.bls.length) { s with left:=l,freed:=(VK s.ws (EU (Mz m b)) (m,s.freed)).2 })∧_∧_
   rw[hQ]
   refine ⟨σ7,{ c with lf:=s' }, ?_,T7,((((m3.right i.l).trans (Mv.app _ _ τ4)).trans m5).trans (k6.mv.left _)).trans (m7.right i.l),rfl⟩
   have g:=li4.form
   have g1:sl.2.1=(EU (Mz m b)).length:=by rw[g]
   have g2:sl.2.2=(EU (Mz m b)).length:=by rw[g]
   simp only[sw,Ad,Af,Ae,Option.bind_some,Nat.zero_add,Nat.add_zero,d7,decide_eq_true (show ((s.left.length:Nat):Int)>0 by omega),cond_true]
   rw[if_pos (by omega)]
   simp only[eq,Option.bind_some,Int.toNat_zero,Nat.zero_mul,Nat.zero_add,lb',e1,e2',H7,e3,d0,e4',g1,g2]
   have e5':Dn (k+13) (k+13) (Hy c) sl.1 (EU (Mz m b)).length (EU (Mz m b)).length (((EU (Mz m b)).length:Nat):Int) 0 (σ2++τ4)=some (.exit 0,[],σ5):=e5
   simp only[e5',Option.bind_some,if_true,d05,e6',Aj]
   exact e7
theorem Ahn (k:Nat) (hk:5000≤k) (T:RC σ i p c m r s):TG (DF (k+15) (Hy c) σ) σ i p c r (.tuple #[]) (jA m r s):=by
 unfold jA
 by_cases hp:s.ph=2
 ·rw[if_pos hp]
  obtain ⟨σ',c',e,T',m',b'⟩:=Aff k hk T hp
  refine ⟨σ',c', ?_,T',m',b'⟩
  rw[Ld,IX]
  simp only[sw,Ad,Af,Ae,Option.bind_some,Nat.zero_add,Nat.add_zero,T.co.ld4,show (s.ph == 2)=true from beq_iff_eq.2 hp,cond_true,e,M8,if_true]
 rw[if_neg hp]
 by_cases hl:s.list=[]
 ·rw[if_neg (fun hh=>hh hl)]
  obtain ⟨σ',c',e,T',m',b'⟩:=Agp (k+1) (by omega) T hp
  refine ⟨σ',c', ?_,T',m',b'⟩
  have d6:=T.co.ld6
  rw[hl] at d6
  rw[Ld,IX]
  have e':Gh (k+14) (Hy c) σ=_:=e
  simp only[sw,Ad,Af,Ae,Option.bind_some,Nat.zero_add,Nat.add_zero,T.co.ld4,show (s.ph == 2)=false from beq_eq_false_iff_ne.2 hp,cond_false,d6,List.length_nil,show decide (((0:Nat):Int)>0)=false from rfl,e',M8,if_true]
 ·rw[if_pos hl]
  obtain ⟨a,l,e⟩:=List.exists_cons_of_ne_nil hl
  exact Ajf (k+1) (by omega) T hp e
end Go.Proofs.YtjbledomkmdkmaaGreat
end
