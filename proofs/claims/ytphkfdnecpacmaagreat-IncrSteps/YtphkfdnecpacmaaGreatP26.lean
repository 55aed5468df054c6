/- The program's roots in memory; Leads.; A core in memory: looks and stores.; What holds of every heap that is made by calls; bounds of a core.; Shading -/
import Derived.Test.YtphkfdnecpacmaaGreatP25
set_option linter.unusedVariables false
set_option linter.unusedSimpArgs false
set_option linter.unusedSectionVars false
section
namespace Go.Proofs.YtphkfdnecpacmaaGreat
open Go Go.AX
noncomputable local instance qGD:AA:=Aw
local instance nGD:Kn:=⟨true⟩
variable {σ:Aa} {r:Ky}
structure PI where
 rb:Nat
 s1:Ci
 s2:Ci
 s3:Ci
def PI.l (p:PI):List Nat:=p.rb::(hs p.s1++(hs p.s2++hs p.s3))
structure Mc (σ:Aa) (p:PI) (r:Ky):Prop where
 cell:σ[p.rb]?=some (.cells [.int .i64 (r.mu:Int),.slice p.s1.1 p.s1.2.1 p.s1.2.2,.slice p.s2.1 p.s2.2.1 p.s2.2.2,.slice p.s3.1 p.s3.2.1 p.s3.2.2] Rk true)
 sl:B6 σ p.s1 r.sl
 gl:B6 σ p.s2 r.gl
 qu:B6 σ p.s3 r.qu
 ok:r.ok
 nd:p.l.Nodup
variable {p:PI}
abbrev MV (p:PI):Option Addr:=some ⟨p.rb,0,none⟩
theorem PI.m1 (p:PI) {b:Nat} (h:b ∈ hs p.s1):b ∈ p.l:=List.mem_cons_of_mem _ (List.mem_append.2 (.inl h))
theorem PI.m2 (p:PI) {b:Nat} (h:b ∈ hs p.s2):b ∈ p.l:=List.mem_cons_of_mem _ (List.mem_append.2 (.inr (List.mem_append.2 (.inl h))))
theorem PI.m3 (p:PI) {b:Nat} (h:b ∈ hs p.s3):b ∈ p.l:=List.mem_cons_of_mem _ (List.mem_append.2 (.inr (List.mem_append.2 (.inr h))))
theorem Mc.AF {σ':Aa} (h:Mc σ p r) (hs':∀ q ∈ p.l,σ'[q]?=σ[q]?):Mc σ' p r:=
 ⟨(hs' _ List.mem_cons_self).trans h.cell,h.sl.AF fun b hb=>hs' b (p.m1 hb),h.gl.AF fun b hb=>hs' b (p.m2 hb),h.qu.AF fun b hb=>hs' b (p.m3 hb),h.ok,h.nd⟩
theorem Mc.lt (h:Mc σ p r):∀ q ∈ p.l,q<σ.length:=by
 intro q hq
 rcases List.mem_cons.1 hq with rfl | hq
 ·exact Al h.cell
 rcases List.mem_append.1 hq with hq | hq
 ·exact h.sl.lt q hq
 rcases List.mem_append.1 hq with hq | hq
 ·exact h.gl.lt q hq
 ·exact h.qu.lt q hq
theorem Mc.app (h:Mc σ p r) (τ:Aa):Mc (σ++τ) p r:=h.AF fun q hq=>List.getElem?_append_left (h.lt q hq)
theorem Mc.Kw (h:Mc σ p r):Df .i64 σ p.rb 0=some (r.mu:Int):=by simp[Df,Gg,h.cell,Md]
theorem Mc.GC (h:Mc σ p r):Hr σ p.rb 1=some (p.s1.1,p.s1.2.1,p.s1.2.2):=by simp[Hr,Gg,h.cell,H0]
theorem Mc.kc (h:Mc σ p r):Hr σ p.rb 2=some (p.s2.1,p.s2.2.1,p.s2.2.2):=by simp[Hr,Gg,h.cell,H0]
theorem Mc.uc (h:Mc σ p r):Hr σ p.rb 3=some (p.s3.1,p.s3.2.1,p.s3.2.2):=by simp[Hr,Gg,h.cell,H0]
theorem Ajw (a:Addr):NW P GZ (.pointer (some a)) (.pointer none)=some false:=by kernel_rfl
theorem dz (k:Nat) (h:Mc σ p r):Bo (k+1) (MV p) σ=some (.bool true,σ):=by
 have:=h.ok.m1
 rw[Rq,KK]
 simp only[sw,Ad,Af,Ae,Ajw,Option.bind_some,Bool.not_false,cond_true,Nat.zero_add,Nat.add_zero,h.Kw]
 rw[decide_eq_true (by omega)]
theorem ux (k:Nat) (h:Mc σ p r):CX (k+2) (MV p) σ=some (.int .i64 (r.mu:Int),σ):=by
 rw[Ni,H6]
 simp only[sw,Ad,Af,Ae,dz k h,Option.bind_some,Ar,Bool.not_true,cond_false,Nat.zero_add,Nat.add_zero,h.Kw]
theorem RW {σ σ':Aa} (hl:σ.length≤σ'.length) (hq:∀ q,q<σ.length→σ'[q]?=σ[q]?):∃ τ,σ'=σ++τ:=by
 refine ⟨σ'.drop σ.length, ?_⟩
 apply List.ext_getElem?
 intro q
 by_cases h:q<σ.length
 ·rw[List.getElem?_append_left h,hq q h]
 ·rw[List.getElem?_append_right (by omega),List.getElem?_drop]
  congr 1; omega
structure na (μ:Aa) (h3 h6 top:Nat) (out:List Int):Prop where
 box:∃ s,μ[h3]?=some (.cells [.slice s.1 s.2.1 s.2.2] HD true)∧B6 μ s out ∧ ∀ b ∈ hs s,top<b
 rc:μ[h6]?=some (.loop 162 .ready (Lc 0 26 [(3,.pointer (some ⟨h3,0,none⟩))]))
 h3t:h3≤top
 h6t:h6≤top
 ne:h3≠h6
 tl:top<μ.length
structure jx (h3 top:Nat) (μ μ':Aa):Prop where
 len:μ.length≤μ'.length
 same:∀ q,q≤top→q≠h3→μ'[q]?=μ[q]?
theorem jx.refl (h3 top:Nat) (μ:Aa):jx h3 top μ μ:=⟨Nat.le_refl _,fun _ _ _=>rfl⟩
theorem jx.trans {h3 top:Nat} {a b c:Aa} (h:jx h3 top a b) (g:jx h3 top b c):jx h3 top a c:=⟨Nat.le_trans h.len g.len,fun q h1 h2=>(g.same q h1 h2).trans (h.same q h1 h2)⟩
theorem jx.app {h3 top:Nat} {μ:Aa} (ht:top<μ.length) (τ:Aa):jx h3 top μ (μ++τ):=⟨by simp,fun q h1 _=>List.getElem?_append_left (by omega)⟩
theorem na.app {μ:Aa} {h3 h6 top:Nat} {out:List Int} (h:na μ h3 h6 top out) (τ:Aa):na (μ++τ) h3 h6 top out:=by
 obtain ⟨s,e,l,n⟩:=h.box
 have h3t:=h.h3t; have h6t:=h.h6t; have tl:=h.tl
 exact ⟨⟨s,by rw[List.getElem?_append_left (by omega)]; exact e,l.app τ,n⟩,by rw[List.getElem?_append_left (by omega)]; exact h.rc,h3t,h6t,h.ne,by rw[List.length_append]; omega⟩
theorem na.behind {μ μ':Aa} {h3 h6 top:Nat} {out:List Int} (h:na μ h3 h6 top out) (hl:μ.length≤μ'.length) (hq:∀ q,q<μ.length→μ'[q]?=μ[q]?):na μ' h3 h6 top out:=by
 obtain ⟨s,e,l,n⟩:=h.box
 have h3t:=h.h3t; have h6t:=h.h6t; have tl:=h.tl
 exact ⟨⟨s,by rw[hq _ (by omega)]; exact e,l.AF fun b hb=>hq b (l.lt b hb),n⟩,by rw[hq _ (by omega)]; exact h.rc,h3t,h6t,h.ne,by omega⟩
theorem gF {ρ:Type} {μ:Aa} {h:Nat} {f:FuncId} {o n:LSt} {g:AZ} (hr:μ[h]?=some (.loop f o g)) (K:FuncId→AZ→Aa→Option ρ):Nb h μ o n K=K f g (μ.set h (.loop f n g)):=by
 unfold Nb; rw[hr]; simp
theorem wC (k:Nat) {μ:Aa} {h3 h6 top:Nat} {out:List Int} (h:na μ h3 h6 top out) (ho:out.length≤1000) (hk:1000<k) (z0 z1 z2:Int) {b x:Nat} {v:Int} (hv:Df .i64 μ b x=some v) (h0:v≠0) (hb6:b≠h6):
  ∃ μ',EY (k+2) (Bl (k+2)) h6 h3 z0 z1 z2 (some ⟨b,x,none⟩) μ=some (.bool true,μ')∧na μ' h3 h6 top (Wf out v)∧jx h3 top μ μ':=by
 obtain ⟨s,e,l,n⟩:=h.box
 have h3t:=h.h3t; have h6t:=h.h6t; have tl:=h.tl
 have hn3:∀ q ∈ hs s,q≠h3∧q≠h6:=fun q hq=>by have:=n q hq; omega
 obtain ⟨bz,hbz⟩:∃ bz,A6.loop 162 .busy (Lc 0 26 [(3,.pointer (some ⟨h3,0,none⟩))])=bz:=⟨_,rfl⟩
 obtain ⟨μ1,hμ1⟩:∃ μ1,μ.set h6 bz=μ1:=⟨_,rfl⟩
 have l1:μ1.length=μ.length:=by rw[← hμ1]; simp
 have q1:∀ q,q≠h6→μ1[q]?=μ[q]?:=fun q hq=>by rw[← hμ1,List.getElem?_set_ne (Ne.symm hq)]
 have c1:μ1[h6]?=some (.loop 162 .busy (Lc 0 26 [(3,.pointer (some ⟨h3,0,none⟩))])):=by rw[← hμ1,List.getElem?_set_self (by omega),hbz]
 have e1:μ1[h3]?=some (.cells [.slice s.1 s.2.1 s.2.2] HD true):=by rw[q1 _ h.ne]; exact e
 have li1:B6 μ1 s out:=l.AF fun q hq=>q1 q (hn3 q hq).2
 have ldb:Hr μ1 h3 0=some (s.1,s.2.1,s.2.2):=by simp[Hr,Gg,e1,H0]
 have ldv:Df .i64 μ1 b x=some v:=by
  have:μ1[b]?=μ[b]?:=q1 b hb6
  simp only[Df,Gg,this] at hv ⊢
  exact hv
 have hC:=kK k li1 (by omega) (by omega) v
 unfold EY
 simp only[sw,Ad,Af,Ae]
 rw[gF h.rc,hbz,hμ1]
 simp only[ldb,Option.bind_some,ldv,hC,Ar]
 by_cases hm:v ∈ out
 ·rw[decide_eq_true hm]
  simp only[Bool.not_true,cond_false,Option.bind_some,if_true]
  rw[gF c1]
  have ea:Wf out v=out:=by unfold Wf; rw[if_pos (.inr hm)]
  refine ⟨_,rfl, ?_, ?_⟩
  ·rw[ea]
   refine ⟨⟨s,by rw[List.getElem?_set_ne h.ne.symm]; exact e1,li1.AF fun q hq=>List.getElem?_set_ne (hn3 q hq).2.symm,n⟩,List.getElem?_set_self (by omega),h3t,h6t,h.ne,by simp; omega⟩
  ·refine ⟨by simp; omega,fun q hq hn=>?_⟩
   by_cases q6:q=h6
   ·subst q6; rw[List.getElem?_set_self (by omega),h.rc]
   ·rw[List.getElem?_set_ne (Ne.symm q6),q1 q q6]
 ·rw[decide_eq_false hm]
  have ea:Wf out v=out++[v]:=by unfold Wf; rw[if_neg (fun hh=>hh.elim h0 hm)]
  obtain ⟨s',μ2,e2,li2,m2⟩:=li1.push v As (by omega)
  have hs':∀ q ∈ hs s',top<q:=fun q hq=>(m2.new q hq).elim (n q) fun hh=>by omega
  have b2:μ2[h3]?=some (.cells [.slice s.1 s.2.1 s.2.2] HD true):=m2.Rl e1 fun hm=>(hn3 _ hm).1 rfl
  have c2:μ2[h6]?=some (.loop 162 .busy (Lc 0 26 [(3,.pointer (some ⟨h3,0,none⟩))])):=m2.Rl c1 fun hm=>(hn3 _ hm).2 rfl
  have len2:=m2.len
  have st:Kx μ2 h3 0 (.slice s'.1 s'.2.1 s'.2.2)=some (μ2.set h3 (.cells [.slice s'.1 s'.2.1 s'.2.2] HD true)):=by simp[Kx,b2]
  have c3:(μ2.set h3 (.cells [.slice s'.1 s'.2.1 s'.2.2] HD true))[h6]?=some (.loop 162 .busy (Lc 0 26 [(3,.pointer (some ⟨h3,0,none⟩))])):=by rw[List.getElem?_set_ne h.ne]; exact c2
  simp only[Bool.not_false,cond_true,Option.bind_some,AM,e2,st,if_true]
  rw[gF c3]
  have ne36:=h.ne
  refine ⟨_,rfl, ?_, ?_⟩
  ·rw[ea]
   refine ⟨⟨s', ?_,li2.AF fun q hq=>?_,hs'⟩,List.getElem?_set_self (by simp; omega),h3t,h6t,h.ne,by simp; omega⟩
   ·rw[List.getElem?_set_ne h.ne.symm,List.getElem?_set_self (by omega)]
   ·have:=hs' q hq
    rw[List.getElem?_set_ne (by omega),List.getElem?_set_ne (by omega)]
  ·refine ⟨by simp; omega,fun q hq hn=>?_⟩
   by_cases q6:q=h6
   ·subst q6; rw[List.getElem?_set_self (by simp; omega),h.rc]
   ·rw[List.getElem?_set_ne (Ne.symm q6),List.getElem?_set_ne (Ne.symm hn),m2.same q (by omega) (fun hm=>by have:=n q hm; omega),q1 q q6]
theorem XL (k:Nat) (hk:1000<k) {h3 h6 top:Nat} (i1:Int) (sl:Ci) (l:List Int) (hl:l.length≤200):∀ (n x f:Nat) (μ:Aa) (out:List Int),na μ h3 h6 top out→B6 μ sl l→(∀ b ∈ hs sl,b≤top∧b≠h3∧b≠h6)→x+n=l.length→out.length+n≤1000→n<f →
  ∃ μ',C9 (k+3) f (.func (.yield h6) #[] #[]) i1 sl.1 l.length l.length ((l.length:Nat):Int) (x:Int) μ=some (.exit 2,[],μ')∧na μ' h3 h6 top ((l.drop x).foldl Wf out)∧jx h3 top μ μ'∧((l.drop x).foldl Wf out).length≤out.length+n
 | n,x,0,μ,out,h,hli,hb,hx,ho,hf=>by omega
 | 0,x,f+1,μ,out,h,hli,hb,hx,ho,hf=>by
   rw[Ij,Fy]
   simp only[sw,Ad,Af,Ae,decide_eq_false (show ¬ (x:Int)<((l.length:Nat):Int) by omega),cond_false]
   rw[List.drop_eq_nil_of_le (by omega)]
   exact ⟨μ,rfl,h,jx.refl _ _ _,by simp⟩
 | n+1,x,f+1,μ,out,h,hli,hb,hx,ho,hf=>by
   obtain ⟨b,e,l1,_⟩:=hli.ld (x:=x) (by omega)
   have tl:=h.tl
   have hbt:=hb b (U5 e)
   have qx:(0≤(x:Int)∧(x:Int)<((l.length:Nat):Int))=True:=eq_true (by omega)
   have w1:Ce ((x:Int)+1)=((x+1:Nat):Int):=Ak (by unfold AU; omega)
   have hd:l.drop x=l.getD x 0::l.drop (x+1):=by
    rw[List.drop_eq_getElem_cons (by omega),List.getD_eq_getElem?_getD,List.getElem?_eq_getElem (by omega)]; rfl
   rw[hd,List.foldl_cons]
   rw[Ij,Fy]
   simp only[sw,Ad,Af,Ae,decide_eq_true (show (x:Int)<((l.length:Nat):Int) by omega),cond_true,AM,Io,Option.bind_some]
   have hbox:∃ y z,((bif i1 == (0:Int) then (if (16:Int)=0 then none else if (16:Int)=0 then none else (Kx (μ++[A6.cells [.int .i64 i1,.int .i64 0,.int .i64 (x:Int)] AS true]) μ.length (0+1) (.int .i64 (Ce ((x:Int).tdiv (16:Int))))).bind fun s19=>(Kx s19 μ.length (0+2) (.int .i64 ((x:Int).tmod (16:Int)))).bind fun s20=>some (.normal,[],s20)) else (some (.normal,[],μ++[A6.cells [.int .i64 i1,.int .i64 0,.int .i64 (x:Int)] AS true])):Option Ax))=some (.normal,[],μ++[A6.cells [.int .i64 i1,.int .i64 y,.int .i64 z] AS true]):=by
    cases h0:i1 == (0:Int) with
    | true=>
      simp only[cond_true,show ((16:Int)=0)=False from by simp,if_false]
      refine ⟨Ce ((x:Int).tdiv 16),(x:Int).tmod 16, ?_⟩
      simp only[Kx,List.getElem?_concat_length,List.length_cons,List.length_nil,Nat.zero_add,show 1<0+1+1+1 from by omega,if_true,Option.bind_some,List.set_cons_succ,List.set_cons_zero]
      rw[List.set_append_right _ _ (Nat.le_refl _)]
      simp
    | false=>exact ⟨0,(x:Int),rfl⟩
   obtain ⟨y,z,eb⟩:=hbox
   rw[eb]
   obtain ⟨B,hB⟩:∃ B,A6.cells [.int .i64 i1,.int .i64 y,.int .i64 z] AS true=B:=⟨_,rfl⟩
   have h1:=h.app [B]
   have hli1:=hli.app [B]
   have l1':Df .i64 (μ++[B]) b x=some (l.getD x 0):=by rw[dx _ _ _ (by omega)]; exact l1
   have f1:jx h3 top μ (μ++[B]):=jx.app tl _
   rw[hB]
   simp only[Option.bind_some,if_true,qx,e,Int.toNat_natCast,Nat.mul_one,Nat.zero_add,l1',w1]
   by_cases hz:l.getD x 0=0
   ·have ea:Wf out (l.getD x 0)=out:=by unfold Wf; rw[if_pos (.inl hz)]
    rw[ea]
    obtain ⟨μ',e2,h2,f2,n2⟩:=XL k hk i1 sl l hl n (x+1) f _ out h1 hli1 hb (by omega) (by omega) (by omega)
    rw[e] at e2
    refine ⟨μ', ?_,h2,f1.trans f2,by omega⟩
    rw[show (l.getD x 0 != 0)=false from by rw[hz]; rfl]
    simp only[cond_false,Option.bind_some]
    exact e2
   ·have hBl:∀ o v,o<3→[i1,y,z][o]?=some v→Df .i64 (μ++[B]) μ.length o=some v:=by
     intro o v ho hv
     rw[← hB,BI]
     match o,ho with
     | 0,_=>cases hv; rfl
     | 1,_=>cases hv; rfl
     | 2,_=>cases hv; rfl
    obtain ⟨μ2,e2,h2,f2⟩:=wC k h1 (by omega) hk i1 y z l1' hz hbt.2.2
    have hli2:B6 μ2 sl l:=hli1.AF fun q hq=>f2.same q (hb q hq).1 (hb q hq).2.1
    have hlen:(Wf out (l.getD x 0)).length≤out.length+1:=by
     unfold Wf; split
     ·omega
     ·simp
    obtain ⟨μ',e3,h3',f3,n3⟩:=XL k hk i1 sl l hl n (x+1) f _ _ h2 hli2 hb (by omega) (by omega) (by omega)
    rw[e] at e3
    refine ⟨μ', ?_,h3',(f1.trans f2).trans f3,by omega⟩
    rw[show (l.getD x 0 != 0)=true from bne_iff_ne.2 hz]
    simp only[cond_true,hBl 0 i1 (by omega) rfl,hBl 1 y (by omega) rfl,hBl 2 z (by omega) rfl,Option.bind_some]
    rw[Jm _ _ _ _ _ _ _ _ h1.rc,e2]
    simp only[Option.bind_some,Ar,Bool.not_true,cond_false]
    exact e3
theorem uu (k:Nat) (hk:1000<k) (h:Mc σ p r):∃ τ s,Cc (k+6) (MV p) σ=some (.slice s.1 s.2.1 s.2.2,σ++τ)∧B6 (σ++τ) s (H9 r) ∧ ∀ b ∈ hs s,σ.length≤b:=by
 have hok:=h.ok
 have hs16:=hok.sl
 have hm4:=hok.m4
 have hg:=hok.gl
 have hq:=hok.qu
 have hpl:=h.lt
 rw[Q0,JO]
 simp only[sw,Ad,Af,Ae]
 have em:Bo (k+5) (MV p) σ=_:=dz (k+4) h
 simp only[em,Option.bind_some,Ar,Bool.not_true,cond_false,AM]
 rw[SM,LO]
 simp only[sw,Ad,Af,Ae,AM,Option.bind_some,Aaj,cond_true]
 rw[T8]
 rw[PB,Jj]
 simp only[sw,Ad,Af,Ae,AM]
 obtain ⟨O1,hO1⟩:∃ O,A6.cells [.slice none 0 0] HD true=O:=⟨_,rfl⟩
 obtain ⟨O2,hO2⟩:∃ O,A6.cells [.pointer (MV p)] GZ true=O:=⟨_,rfl⟩
 obtain ⟨O3,hO3⟩:∃ O,A6.loop 162 .ready (Lc 0 26 [(3,.pointer (some ⟨σ.length,0,none⟩))])=O:=⟨_,rfl⟩
 rw[hO1,hO2,hO3]
 obtain ⟨μ,hμ⟩:∃ μ,σ++[O1]++[O2]++[O3]=μ:=⟨_,rfl⟩
 have lm:μ.length=σ.length+3:=by rw[← hμ]; simp
 have hμ':μ=σ++[O1,O2,O3]:=by rw[← hμ]; simp
 have lb:(σ++[O1]++[O2]).length=σ.length+2:=by simp
 have la:(σ++[O1]).length=σ.length+1:=by simp
 rw[hμ,lb,la]
 have hμp:Mc μ p r:=by rw[hμ']; exact h.app _
 have ldp:Lw μ (σ.length+1) 0=some (MV p):=by
  rw[hμ']
  simp only[Lw,Gg]
  rw[List.getElem?_append_right (by omega),show σ.length+1-σ.length=1 from by omega]
  simp only[List.getElem?_cons_succ,List.getElem?_cons_zero,← hO2]
  rfl
 simp only[Option.bind_some,ldp,Nat.zero_add,Nat.add_zero,hμp.GC,hμp.kc,hμp.uc]
 obtain ⟨O4,hO4⟩:∃ O,A6.cells [.slice p.s1.1 p.s1.2.1 p.s1.2.2,.slice p.s2.1 p.s2.2.1 p.s2.2.2,.slice p.s3.1 p.s3.2.1 p.s3.2.2] HD true=O:=⟨_,rfl⟩
 rw[hO4]
 have hm1:Mc (μ++[O4]) p r:=hμp.app _
 have S0:na (μ++[O4]) σ.length (σ.length+2) (σ.length+3) []:=by
  refine ⟨⟨(none,0,0), ?_,B6.nil _,fun b hb=>by simp[hs] at hb⟩, ?_,by omega,by omega,by omega,by simp[lm]⟩
  ·rw[hμ',List.append_assoc,List.getElem?_append_right (Nat.le_refl _),Nat.sub_self,← hO1]; rfl
  ·rw[hμ',List.append_assoc,List.getElem?_append_right (by omega),show σ.length+2-σ.length=2 from by omega,← hO3]; rfl
 have c4:(μ++[O4])[σ.length+3]?=some O4:=by rw[← lm]; simp
 have bnd:∀ b ∈ p.l,b≤σ.length+3∧b≠σ.length∧b≠σ.length+2:=fun b hb=>by have:=hpl b hb; omega
 have f1:=hm1.sl.form
 have f2:=hm1.gl.form
 have f3:=hm1.qu.form
 have all:r.all.length≤144:=by unfold Ky.all; rw[List.length_append,List.length_append]; omega
 obtain ⟨μ1,e1,S1,F1,n1⟩:=XL (k+1) (by omega) (h3:=σ.length) (h6:=σ.length+2) (top:=σ.length+3) 0 p.s1 r.sl (by omega) r.sl.length 0 (k+4) _ [] S0 hm1.sl (fun b hb=>bnd b (p.m1 hb)) (by omega) (by simp; omega) (by omega)
 have k1:∀ q ∈ p.l,μ1[q]?=(μ++[O4])[q]?:=fun q hq=>F1.same q (bnd q hq).1 (bnd q hq).2.1
 have p1:=hm1.AF k1
 have d1:μ1[σ.length+3]?=some O4:=(F1.same _ (Nat.le_refl _) (by omega)).trans c4
 obtain ⟨μ2,e2,S2,F2,n2⟩:=XL (k+1) (by omega) (h3:=σ.length) (h6:=σ.length+2) (top:=σ.length+3) 1 p.s2 r.gl (by omega) r.gl.length 0 (k+4) _ _ S1 p1.gl (fun b hb=>bnd b (p.m2 hb)) (by omega) (by simp at n1 ⊢; omega) (by omega)
 have k2:∀ q ∈ p.l,μ2[q]?=μ1[q]?:=fun q hq=>F2.same q (bnd q hq).1 (bnd q hq).2.1
 have p2:=p1.AF k2
 have d2:μ2[σ.length+3]?=some O4:=(F2.same _ (Nat.le_refl _) (by omega)).trans d1
 obtain ⟨μ3,e3,S3,F3,n3⟩:=XL (k+1) (by omega) (h3:=σ.length) (h6:=σ.length+2) (top:=σ.length+3) 2 p.s3 r.qu (by omega) r.qu.length 0 (k+4) _ _ S2 p2.qu (fun b hb=>bnd b (p.m3 hb)) (by omega) (by simp at n1 n2 ⊢; omega) (by omega)
 have hfold:((List.drop 0 r.qu).foldl Wf ((List.drop 0 r.gl).foldl Wf ((List.drop 0 r.sl).foldl Wf [])))=H9 r:=by
  unfold H9 Ky.all
  simp only[List.drop_zero,List.foldl_append]
 rw[hfold] at S3
 have ld4:∀ (ν:Aa),ν[σ.length+3]?=some O4→Hr ν (σ.length+3) 0=some (p.s1.1,p.s1.2.1,p.s1.2.2)∧Hr ν (σ.length+3) 1=some (p.s2.1,p.s2.2.1,p.s2.2.2)∧Hr ν (σ.length+3) 2=some (p.s3.1,p.s3.2.1,p.s3.2.2):=by
  intro ν hν
  simp[Hr,Gg,hν,← hO4,H0]
 have w1:Ce ((0:Int)+1)=1:=by decide
 have w2:Ce ((1:Int)+1)=2:=by decide
 have w3:Ce ((2:Int)+1)=3:=by decide
 have s11:p.s1.2.1=r.sl.length:=by rw[f1]
 have s12:p.s1.2.2=r.sl.length:=by rw[f1]
 have s21:p.s2.2.1=r.gl.length:=by rw[f2]
 have s22:p.s2.2.2=r.gl.length:=by rw[f2]
 have s31:p.s3.2.1=r.qu.length:=by rw[f3]
 have s32:p.s3.2.2=r.qu.length:=by rw[f3]
 rw[show ((0:Nat):Int)=0 from rfl] at e1 e2 e3
 have eL:C8 (k+4) (k+4) (.func (.yield (σ.length+2)) #[] #[]) (σ.length+3) ((3:Nat):Int) 0 (μ++[O4])=some (.exit 0,[],μ3):=by
  obtain ⟨a1,_,_⟩:=ld4 _ c4
  obtain ⟨_,a2,_⟩:=ld4 _ d1
  obtain ⟨_,_,a3⟩:=ld4 _ d2
  rw[En,Dn]
  simp only[sw,Ad,Af,Ae,show decide ((0:Int)<((3:Nat):Int))=true from rfl,cond_true,show ((0:Int)≤0∧(0:Int)<((3:Nat):Int))=True from by simp,if_true,Int.toNat_zero,Nat.zero_mul,Nat.zero_add,a1,Option.bind_some,s11,s12,e1,w1]
  rw[En,Dn]
  simp only[sw,Ad,Af,Ae,show decide ((1:Int)<((3:Nat):Int))=true from rfl,cond_true,show ((0:Int)≤1∧(1:Int)<((3:Nat):Int))=True from by simp,if_true,show (1:Int).toNat=1 from rfl,Nat.mul_one,Nat.zero_add,a2,Option.bind_some,s21,s22,e2,w2]
  rw[En,Dn]
  simp only[sw,Ad,Af,Ae,show decide ((2:Int)<((3:Nat):Int))=true from rfl,cond_true,show ((0:Int)≤2∧(2:Int)<((3:Nat):Int))=True from by simp,if_true,show (2:Int).toNat=2 from rfl,Nat.mul_one,Nat.zero_add,a3,Option.bind_some,s31,s32,e3,w3]
  rw[En,Dn]
  simp only[sw,Ad,Af,Ae,show decide ((3:Int)<((3:Nat):Int))=false from rfl,cond_false]
 obtain ⟨s,hbox,hli,hnew⟩:=S3.box
 have hrc:=S3.rc
 have len3:μ.length+1≤μ3.length:=by
  have g1:=F1.len
  have g2:=F2.len
  have g3:=F3.len
  simp at g1
  omega
 obtain ⟨τ,hτ⟩:∃ τ,μ3.set (σ.length+2) .dead=σ++τ:=by
  refine RW (by simp; omega) fun q hq=>?_
  rw[List.getElem?_set_ne (by omega),F3.same q (by omega) (by omega),F2.same q (by omega) (by omega),F1.same q (by omega) (by omega),hμ',List.append_assoc,List.getElem?_append_left hq]
 refine ⟨τ,s, ?_, ?_,fun b hb=>by have:=hnew b hb; omega⟩
 ·rw[lm]
  simp only[eL,if_true,Option.bind_some]
  unfold Vx
  rw[hrc]
  have:Hr (μ3.set (σ.length+2) .dead) σ.length 0=some (s.1,s.2.1,s.2.2):=by
   simp only[Hr,Gg]
   rw[List.getElem?_set_ne (by omega),hbox]
   rfl
  rw[hτ] at this
  simp only[if_true,hτ,this,Option.bind_some]
 ·rw[← hτ]
  exact hli.AF fun q hq=>List.getElem?_set_ne (by have:=hnew q hq; omega)
end Go.Proofs.YtphkfdnecpacmaaGreat
end
section
namespace Go.Proofs.YtphkfdnecpacmaaGreat
open Go Go.AX
noncomputable local instance qGH:AA:=Aw
local instance nGH:Kn:=⟨true⟩
variable {σ:Aa} {m:HM} {r:Ky} {s:TC} {i:DB} {p:PI}
structure CI where
 cb:Nat
 tb:Nat
 wb:Nat
 ls:Ci
 lf:Ci
def CI.l (c:CI):List Nat:=c.cb::c.tb::c.wb::(hs c.ls++hs c.lf)
structure Ajl (c:CI):Prop where
 ab:c.cb≠c.tb
 ac:c.cb≠c.wb
 bc:c.tb≠c.wb
 al:∀ q ∈ hs c.ls,q≠c.cb∧q≠c.tb∧q≠c.wb∧q ∉ hs c.lf
 ar:∀ q ∈ hs c.lf,q≠c.cb∧q≠c.tb∧q≠c.wb
def Hc (c:CI) (hb rb:Nat) (s:TC):List Value:=[.pointer (some ⟨hb,0,none⟩),.pointer (some ⟨rb,0,none⟩),.bool s.look,.int .i64 s.born,.int .i64 s.ph,.pointer (some ⟨c.tb,0,none⟩),.slice c.ls.1 c.ls.2.1 c.ls.2.2,.slice c.lf.1 c.lf.2.1 c.lf.2.2,.int .i64 s.freed]
structure Gl (σ:Aa) (c:CI) (hb rb nb:Nat) (s:TC):Prop where
 cell:σ[c.cb]?=some (.cells (Hc c hb rb s) HK true)
 tab:DT σ c.tb c.wb (32*nb) 2 s.ws
 ls:B6 σ c.ls s.list
 lf:B6 σ c.lf s.left
 sep:Ajl c
variable {c:CI} {hb rb nb:Nat}
abbrev Hs (c:CI):Option Addr:=some ⟨c.cb,0,none⟩
theorem CI.m0 (c:CI):c.cb ∈ c.l:=List.mem_cons_self
theorem CI.m1 (c:CI):c.tb ∈ c.l:=List.mem_cons_of_mem _ List.mem_cons_self
theorem CI.m2 (c:CI):c.wb ∈ c.l:=List.mem_cons_of_mem _ (List.mem_cons_of_mem _ List.mem_cons_self)
theorem CI.m3 (c:CI) {q:Nat} (h:q ∈ hs c.ls):q ∈ c.l:=List.mem_cons_of_mem _ (List.mem_cons_of_mem _ (List.mem_cons_of_mem _ (List.mem_append.2 (.inl h))))
theorem CI.m4 (c:CI) {q:Nat} (h:q ∈ hs c.lf):q ∈ c.l:=List.mem_cons_of_mem _ (List.mem_cons_of_mem _ (List.mem_cons_of_mem _ (List.mem_append.2 (.inr h))))
theorem CI.mem {c:CI} {q:Nat} (h:q ∈ c.l):q=c.cb∨q=c.tb∨q=c.wb∨q ∈ hs c.ls∨q ∈ hs c.lf:=by
 unfold CI.l at h
 simp only[List.mem_cons,List.mem_append] at h
 exact h
theorem Gl.AF {σ':Aa} (h:Gl σ c hb rb nb s) (hq:∀ q ∈ c.l,σ'[q]?=σ[q]?):Gl σ' c hb rb nb s:=
 ⟨(hq _ c.m0).trans h.cell,h.tab.same (hq _ c.m1) (hq _ c.m2),h.ls.AF fun b hb=>hq b (c.m3 hb),h.lf.AF fun b hb=>hq b (c.m4 hb),h.sep⟩
theorem Gl.lt (h:Gl σ c hb rb nb s):∀ q ∈ c.l,q<σ.length:=by
 intro q hq
 rcases CI.mem hq with rfl | rfl | rfl | hq | hq
 ·exact Al h.cell
 ·exact h.tab.lt.1
 ·exact h.tab.lt.2
 ·exact h.ls.lt q hq
 ·exact h.lf.lt q hq
theorem Gl.app (h:Gl σ c hb rb nb s) (τ:Aa):Gl (σ++τ) c hb rb nb s:=h.AF fun q hq=>List.getElem?_append_left (h.lt q hq)
theorem Gl.Kw (h:Gl σ c hb rb nb s):Lw σ c.cb 0=some (some ⟨hb,0,none⟩):=by simp[Lw,Gg,h.cell,Hc,Oe]
theorem Gl.GC (h:Gl σ c hb rb nb s):Lw σ c.cb 1=some (some ⟨rb,0,none⟩):=by simp[Lw,Gg,h.cell,Hc,Oe]
theorem Gl.kc (h:Gl σ c hb rb nb s):lk σ c.cb 2=some s.look:=by simp[lk,Gg,h.cell,Hc,Ey]
theorem Gl.ld4 (h:Gl σ c hb rb nb s):Df .i64 σ c.cb 4=some s.ph:=by simp[Df,Gg,h.cell,Hc,Md]
theorem Gl.ld5 (h:Gl σ c hb rb nb s):Lw σ c.cb 5=some (some ⟨c.tb,0,none⟩):=by simp[Lw,Gg,h.cell,Hc,Oe]
theorem Gl.ld6 (h:Gl σ c hb rb nb s):Hr σ c.cb 6=some (c.ls.1,s.list.length,s.list.length):=by
 have:=h.ls.form
 have e1:c.ls.2.1=s.list.length:=by rw[this]
 have e2:c.ls.2.2=s.list.length:=by rw[this]
 simp[Hr,Gg,h.cell,Hc,H0,e1,e2]
theorem Gl.ld7 (h:Gl σ c hb rb nb s):Hr σ c.cb 7=some (c.lf.1,s.left.length,s.left.length):=by
 have:=h.lf.form
 have e1:c.lf.2.1=s.left.length:=by rw[this]
 have e2:c.lf.2.2=s.left.length:=by rw[this]
 simp[Hr,Gg,h.cell,Hc,H0,e1,e2]
theorem Gl.ld8 (h:Gl σ c hb rb nb s):Df .i64 σ c.cb 8=some s.freed:=by simp[Df,Gg,h.cell,Hc,Md]
theorem Gl.mP {μ:Aa} {c c':CI} {s':TC} (htb:c'.tb=c.tb) (hwb:c'.wb=c.wb) (hcb:c'.cb=c.cb) (hl:c.cb<μ.length) (tab:DT μ c'.tb c'.wb (32*nb) 2 s'.ws) (ls:B6 μ c'.ls s'.list) (lf:B6 μ c'.lf s'.left) (sep:Ajl c'):Gl (μ.set c.cb (.cells (Hc c' hb rb s') HK true)) c' hb rb nb s':=by
 refine ⟨by rw[hcb,List.getElem?_set_self hl],tab.same ?_ ?_,ls.AF fun q hq=>?_,lf.AF fun q hq=>?_,sep⟩
 ·rw[← hcb]; exact List.getElem?_set_ne sep.ab
 ·rw[← hcb]; exact List.getElem?_set_ne sep.ac
 ·rw[← hcb]; exact List.getElem?_set_ne (sep.al q hq).1.symm
 ·rw[← hcb]; exact List.getElem?_set_ne (sep.ar q hq).1.symm
theorem Gl.Aem (h:Gl σ c hb rb nb s) (v:Int):∃ σ',Kx σ c.cb 4 (.int .i64 v)=some σ'∧Gl σ' c hb rb nb { s with ph:=v }∧Mv c.l c.l σ σ':=by
 refine ⟨σ.set c.cb (.cells (Hc c hb rb { s with ph:=v }) HK true),by simp[Kx,h.cell,Hc],Gl.mP rfl rfl rfl (Al h.cell) h.tab h.ls h.lf h.sep,Mv.set _ _ c.m0⟩
theorem Gl.vV (h:Gl σ c hb rb nb s) (v:Int):∃ σ',Kx σ c.cb 8 (.int .i64 v)=some σ'∧Gl σ' c hb rb nb { s with freed:=v }∧Mv c.l c.l σ σ':=by
 refine ⟨σ.set c.cb (.cells (Hc c hb rb { s with freed:=v }) HK true),by simp[Kx,h.cell,Hc],Gl.mP rfl rfl rfl (Al h.cell) h.tab h.ls h.lf h.sep,Mv.set _ _ c.m0⟩
theorem CI.Akf {c:CI} {s':Ci} {L:List Nat} {a b:Aa} (h:Mv L (hs s') a b) (hL:∀ q ∈ L,q ∈ c.l):Mv c.l ({ c with ls:=s' }:CI).l a b:=
 h.wide hL fun q hq=>by
  rcases CI.mem hq with rfl | rfl | rfl | hq | hq
  ·exact .inl c.m0
  ·exact .inl c.m1
  ·exact .inl c.m2
  ·exact .inr (.inl hq)
  ·exact .inl (c.m4 hq)
theorem CI.Ake {c:CI} {s':Ci} {L:List Nat} {a b:Aa} (h:Mv L (hs s') a b) (hL:∀ q ∈ L,q ∈ c.l):Mv c.l ({ c with lf:=s' }:CI).l a b:=
 h.wide hL fun q hq=>by
  rcases CI.mem hq with rfl | rfl | rfl | hq | hq
  ·exact .inl c.m0
  ·exact .inl c.m1
  ·exact .inl c.m2
  ·exact .inl (c.m3 hq)
  ·exact .inr (.inl hq)
theorem Gl.zf {μ:Aa} (h:Gl σ c hb rb nb s) {s':Ci} {l':List Int} {L:List Nat} (hL:∀ q ∈ L,q ∈ hs c.ls) (hm:Mv L (hs s') σ μ) (hl:B6 μ s' l'):
  ∃ σ',Kx μ c.cb 6 (.slice s'.1 s'.2.1 s'.2.2)=some σ'∧Gl σ' { c with ls:=s' } hb rb nb { s with list:=l' }∧Mv c.l ({ c with ls:=s' }:CI).l σ σ':=by
 have lt:=h.lt
 have hn:∀ q ∈ L,q≠c.cb∧q≠c.tb∧q≠c.wb∧q ∉ hs c.lf:=fun q hq=>h.sep.al q (hL q hq)
 have cell:μ[c.cb]?=_:=hm.Rl h.cell fun hm'=>(hn _ hm').1 rfl
 have new:∀ q ∈ hs s',q ∈ hs c.ls∨σ.length≤q:=fun q hq=>(hm.new q hq).imp (hL q) id
 refine ⟨μ.set c.cb (.cells (Hc { c with ls:=s' } hb rb { s with list:=l' }) HK true),by simp[Kx,cell,Hc], ?_,(CI.Akf hm fun q hq=>c.m3 (hL q hq)).trans (Mv.set _ _ (CI.m0 { c with ls:=s' }))⟩
 refine Gl.mP (c:=c) rfl rfl rfl (Al cell) (h.tab.same (hm.same _ h.tab.lt.1 fun hm'=>(hn _ hm').2.1 rfl) (hm.same _ h.tab.lt.2 fun hm'=>(hn _ hm').2.2.1 rfl)) hl (h.lf.AF fun q hq=>hm.same q (h.lf.lt q hq) fun hm'=>(hn q hm').2.2.2 hq) ⟨h.sep.ab,h.sep.ac,h.sep.bc,fun q hq=>?_,h.sep.ar⟩
 rcases new q hq with h1 | h1
 ·exact h.sep.al q h1
 ·refine ⟨?_, ?_, ?_, ?_⟩
  ·have:=lt _ c.m0; intro e; have e:q=c.cb:=e; omega
  ·have:=lt _ c.m1; intro e; have e:q=c.tb:=e; omega
  ·have:=lt _ c.m2; intro e; have e:q=c.wb:=e; omega
  ·intro hm'; have:=h.lf.lt q hm'; omega
theorem Gl.ze {μ:Aa} (h:Gl σ c hb rb nb s) {s':Ci} {l':List Int} {L:List Nat} (hL:∀ q ∈ L,q ∈ hs c.lf) (hm:Mv L (hs s') σ μ) (hl:B6 μ s' l'):
  ∃ σ',Kx μ c.cb 7 (.slice s'.1 s'.2.1 s'.2.2)=some σ'∧Gl σ' { c with lf:=s' } hb rb nb { s with left:=l' }∧Mv c.l ({ c with lf:=s' }:CI).l σ σ':=by
 have lt:=h.lt
 have hn:∀ q ∈ L,q≠c.cb∧q≠c.tb∧q≠c.wb∧q ∉ hs c.ls:=fun q hq=>⟨(h.sep.ar q (hL q hq)).1,(h.sep.ar q (hL q hq)).2.1,(h.sep.ar q (hL q hq)).2.2,fun hm'=>(h.sep.al q hm').2.2.2 (hL q hq)⟩
 have cell:μ[c.cb]?=_:=hm.Rl h.cell fun hm'=>(hn _ hm').1 rfl
 have new:∀ q ∈ hs s',q ∈ hs c.lf∨σ.length≤q:=fun q hq=>(hm.new q hq).imp (hL q) id
 refine ⟨μ.set c.cb (.cells (Hc { c with lf:=s' } hb rb { s with left:=l' }) HK true),by simp[Kx,cell,Hc], ?_,(CI.Ake hm fun q hq=>c.m4 (hL q hq)).trans (Mv.set _ _ (CI.m0 { c with lf:=s' }))⟩
 refine Gl.mP (c:=c) rfl rfl rfl (Al cell) (h.tab.same (hm.same _ h.tab.lt.1 fun hm'=>(hn _ hm').2.1 rfl) (hm.same _ h.tab.lt.2 fun hm'=>(hn _ hm').2.2.1 rfl)) (h.ls.AF fun q hq=>hm.same q (h.ls.lt q hq) fun hm'=>(hn q hm').2.2.2 hq) hl ⟨h.sep.ab,h.sep.ac,h.sep.bc,fun q hq=>?_,fun q hq=>?_⟩
 ·obtain ⟨a1,a2,a3,a4⟩:=h.sep.al q hq
  refine ⟨a1,a2,a3,fun hm'=>?_⟩
  rcases new q hm' with h1 | h1
  ·exact a4 h1
  ·have:=h.ls.lt q hq; omega
 ·rcases new q hq with h1 | h1
  ·exact h.sep.ar q h1
  ·refine ⟨?_, ?_, ?_⟩
   ·have:=lt _ c.m0; intro e; have e:q=c.cb:=e; omega
   ·have:=lt _ c.m1; intro e; have e:q=c.tb:=e; omega
   ·have:=lt _ c.m2; intro e; have e:q=c.wb:=e; omega
theorem Gl.Aeo {σ':Aa} {ws:List (BitVec 64)} (h:Gl σ c hb rb nb s) (ht:DT σ' c.tb c.wb (32*nb) 2 ws) (hm:Mv [c.tb,c.wb] [c.tb,c.wb] σ σ'):Gl σ' c hb rb nb { s with ws:=ws }∧Mv c.l c.l σ σ':=by
 have hn:∀ q,q≠c.tb→q≠c.wb→q ∉ [c.tb,c.wb]:=fun q h1 h2 hq=>by simp at hq; exact hq.elim h1 h2
 refine ⟨⟨hm.Rl h.cell (hn _ h.sep.ab h.sep.ac),ht,h.ls.AF fun q hq=>hm.same q (h.ls.lt q hq) (hn _ (h.sep.al q hq).2.1 (h.sep.al q hq).2.2.1),h.lf.AF fun q hq=>hm.same q (h.lf.lt q hq) (hn _ (h.sep.ar q hq).2.1 (h.sep.ar q hq).2.2),h.sep⟩,hm.wide (fun q hq=>?_) fun q hq=>.inl hq⟩
 simp at hq
 rcases hq with rfl | rfl
 ·exact c.m1
 ·exact c.m2
theorem Akt (a:Addr):NW P WC (.pointer (some a)) (.pointer none)=some false:=by kernel_rfl
theorem Akv (a:Addr):NW P FK (.pointer (some a)) (.pointer none)=some false:=by kernel_rfl
theorem XQ (k:Nat) (h:Gl σ c hb rb nb s):A8 (k+1) (Hs c) σ=some (.bool true,σ):=by
 rw[Vt,Ou]
 simp only[sw,Ad,Af,Ae,Akt,Option.bind_some,Bool.not_false,cond_true,Nat.zero_add,Nat.add_zero,h.Kw,Akv]
theorem Ahp (k:Nat) (h:Gl σ c hb rb nb s) {j:Nat} (hj:j<32*nb):Cm (k+4) (Hs c) ((2*j:Nat):Int) σ=some (.int .i64 (Eb 2 s.ws j:Int),σ):=by
 have ht:=h.tab.top
 have e1:((2*j:Nat):Int).tdiv 2=(j:Int):=by
  rw[show ((2:Int))=((2:Nat):Int) from rfl,sx]; congr 1; omega
 have e2:Ce (j:Int)=(j:Int):=Ak (by unfold AU; omega)
 rw[XY,Ss]
 simp only[sw,Ad,Af,Ae,Option.bind_some,Nat.zero_add,Nat.add_zero,h.ld5,show ((2:Int)=0)=False from by simp,if_false,e1,e2,wB k h.tab,Aj]
 rw[if_pos (by omega),Int.toNat_natCast]
theorem Adx (k:Nat) (h:Gl σ c hb rb m.bls.length s) {a:Int} (ha:DZ m a=true):Cm (k+4) (Hs c) a σ=some (.int .i64 (tj s a:Int),σ):=by
 obtain ⟨j,rfl,hs⟩:=Ej ha
 rw[Ahp k h hs.1]
 unfold tj
 rw[show ((2*j:Nat):Int).toNat/2=j from by omega]
theorem vz (k:Nat) (h:Gl σ c hb rb nb s) {j v:Nat} (hj:j<32*nb) (hv:v<4):∃ σ',Co (k+10) (Hs c) ((2*j:Nat):Int) (v:Int) σ=some (.tuple #[],σ')∧Gl σ' c hb rb nb (gw s ((2*j:Nat):Int) v)∧Mv c.l c.l σ σ':=by
 have ht:=h.tab.top
 have e1:((2*j:Nat):Int).tdiv 2=(j:Int):=by
  rw[show ((2:Int))=((2:Nat):Int) from rfl,sx]; congr 1; omega
 have e2:Ce (j:Int)=(j:Int):=Ak (by unfold AU; omega)
 obtain ⟨τ,es⟩:=nF k h.tab hj (v:=v) hv
 have hp:=(h.tab.app τ).put h.sep.bc j v
 obtain ⟨h',m'⟩:=h.Aeo hp (((Mv.app [c.wb] σ τ).trans (Mv.set _ _ (List.mem_singleton.2 rfl))).wide (fun q hq=>List.mem_cons_of_mem _ hq) fun q hq=>.inl hq)
 refine ⟨_, ?_, ?_,m'⟩
 ·rw[Ub,MT]
  simp only[sw,Ad,Af,Ae,Option.bind_some,Nat.zero_add,Nat.add_zero,h.ld5,show ((2:Int)=0)=False from by simp,if_false,e1,e2,es,Aj]
 ·unfold gw
  rw[show ((2*j:Nat):Int).toNat/2=j from by omega]
  exact h'
end Go.Proofs.YtphkfdnecpacmaaGreat
end
section
namespace Go.Proofs.YtphkfdnecpacmaaGreat
open Go Go.AX
noncomputable local instance qGE:AA:=Aw
local instance nGE:Kn:=⟨true⟩
variable {σ:Aa} {m:HM} {s:TC} {nb:Nat}
structure MK (m:HM):Prop where
 inv:Inv m
 inv2:Inv2 m
 sh:Sh m
 fz:FZ m
 b0:B0 m
 nb:2≤m.bls.length
 nt:m.bls.length≤64
theorem MK.new {n:Nat} (h2:2≤n) (h:n≤64):MK (Mr n):=⟨Inv.new n,Inv2.new n,⟨by simp[Mr],by simp[Mr]; omega,by simp[Mr]; omega⟩,FZ.new n,B0.new n,by simp[Mr]; omega,by simp[Mr]; omega⟩
theorem MK.ri (h:MK m) (b c x y x' y':Int) (hx:x≠0) (hx':x'≠0∨c=1):MK (Dd m b c x y x' y').2:=by
 have k:=kX h.inv h.inv2 b c x y x' y'
 obtain ⟨e1,e2,e3,_⟩:=fU m b c x y x' y'
 have e4:(Dd m b c x y x' y').2.pnw=m.pnw:=by
  unfold Dd
  split
  ·split <;> rfl
  ·rfl
 exact ⟨k.inv,k.inv2,⟨by rw[e1,e3]; exact h.sh.wl,by rw[e2,e3]; exact h.sh.sl,by rw[e4,e3]; exact h.sh.pl⟩,zU h.fz _ _ _ _ _ _ hx hx',(jI m b c x y x' y').trans h.b0,by rw[e3]; exact h.nb,by rw[e3]; exact h.nt⟩
theorem MK.setRef (h:MK m) (a x v:Int):MK (EJ m a x v).2:=by
 have k:=tO h.inv h.inv2 a x v
 obtain ⟨e1,e2,_,_,e5⟩:=X0 m a x v
 have e6:(EJ m a x v).2.wds.length=m.wds.length:=by
  unfold EJ
  split
  ·split
   ·rfl
   ·show (m.wds.set _ _).length=_; rw[List.length_set]
  ·rfl
 exact ⟨k.inv,k.inv2,⟨by rw[e6,e1]; exact h.sh.wl,by rw[e2,e1]; exact h.sh.sl,by rw[e5,e1]; exact h.sh.pl⟩,tt h.fz e1,by unfold B0; rw[e1]; exact h.b0,by rw[e1]; exact h.nb,by rw[e1]; exact h.nt⟩
theorem MK.lI (h:MK m) (a:Int) (v:Nat):MK (Q7 m a v).2:=by
 have k:=Aa0 h.inv h.inv2 a v
 obtain ⟨e1,e2,e3,_⟩:=kj m a v
 have e4:(Q7 m a v).2.pnw.length=m.pnw.length:=by
  unfold Q7; split
  ·exact Hb _ _ _ _
  ·rfl
 exact ⟨k.inv,k.inv2,⟨by rw[e3,e1]; exact h.sh.wl,by rw[e2,e1]; exact h.sh.sl,by rw[e4,e1]; exact h.sh.pl⟩,tt h.fz e1,by unfold B0; rw[e1]; exact h.b0,by rw[e1]; exact h.nb,by rw[e1]; exact h.nt⟩
theorem W8 (h:Inv m) (hS:Sh m) (a:Int):(Kq m a).2.bls=m.bls∧(Kq m a).2.stw.length=m.stw.length∧(Kq m a).2.pnw.length=m.pnw.length∧(Kq m a).2.wds.length=m.wds.length∧(Kq m a).2.fw=m.fw∧(Kq m a).2.births=m.births:=by
 unfold Kq
 cases hh:DZ m a with
 | false=>exact ⟨rfl,rfl,rfl,rfl,rfl,rfl⟩
 | true=>
   obtain ⟨j,rfl,hs⟩:=Ej hh
   rw[if_pos rfl,show ((2*j:Nat):Int).toNat/2=j from by omega]
   refine ⟨rfl,Hb _ _ _ _,Hb _ _ _ _, ?_,rfl,rfl⟩
   show (VJ _ _ _).length=_
   have:=h.fit j hs
   rw[PH (by simp; omega)]
theorem MK.kill (h:MK m) (a:Int):MK (Kq m a).2:=by
 have k:=xv h.inv h.inv2 h.sh a
 obtain ⟨e1,e2,e3,e4,_⟩:=W8 h.inv h.sh a
 exact ⟨k.inv,k.inv2,⟨by rw[e4,e1]; exact h.sh.wl,by rw[e2,e1]; exact h.sh.sl,by rw[e3,e1]; exact h.sh.pl⟩,tt h.fz e1,by unfold B0; rw[e1]; exact h.b0,by rw[e1]; exact h.nb,by rw[e1]; exact h.nt⟩
theorem pc (m:HM) (b:Int):(DI m b).2.wds=m.wds∧(DI m b).2.stw=m.stw∧(DI m b).2.pnw=m.pnw∧(DI m b).2.fw=m.fw∧(DI m b).2.births=m.births∧B0 m→B0 (DI m b).2:=by
 intro hb
 have h0:=hb.2.2.2.2.2
 unfold DI
 split
 ·split
  ·unfold B0
   show ((pb _ _ _).getD 0 (0,0)).1=0
   rw[Yx]
   split
   ·rfl
   ·exact h0
  ·exact h0
 ·exact h0
theorem qG (m:HM) (b:Int):(DI m b).2.wds=m.wds∧(DI m b).2.stw=m.stw∧(DI m b).2.pnw=m.pnw∧(DI m b).2.fw=m.fw∧(DI m b).2.births=m.births:=by
 unfold DI
 split
 ·split <;> exact ⟨rfl,rfl,rfl,rfl,rfl⟩
 ·exact ⟨rfl,rfl,rfl,rfl,rfl⟩
theorem MK.release (h:MK m) (b:Int):MK (DI m b).2:=by
 have k:=fg h.inv h.inv2 b
 obtain ⟨e1,e2,e3,e4,e5⟩:=qG m b
 exact ⟨k.inv,k.inv2,⟨by rw[e1,k.len]; exact h.sh.wl,by rw[e2,k.len]; exact h.sh.sl,by rw[e3,k.len]; exact h.sh.pl⟩,vI h.fz b,pc m b ⟨e1,e2,e3,e4,e5,h.b0⟩,by rw[k.len]; exact h.nb,by rw[k.len]; exact h.nt⟩
theorem cx (m:HM) (a r d c:Int):(GX m a r d c).2.2.bls=m.bls∧(GX m a r d c).2.2.pnw=m.pnw∧(GX m a r d c).2.2.fw=m.fw∧(GX m a r d c).2.2.wds.length=m.wds.length∧(GX m a r d c).2.2.stw.length=m.stw.length:=by
 unfold GX
 split
 ·split
  ·exact ⟨rfl,rfl,rfl,by show ((m.wds.set _ _).set _ _).length=_; rw[List.length_set,List.length_set],Hb _ _ _ _⟩
  ·exact ⟨rfl,rfl,rfl,rfl,rfl⟩
 ·exact ⟨rfl,rfl,rfl,rfl,rfl⟩
theorem MK.place (h:MK m) (a r d c:Int):MK (GX m a r d c).2.2:=by
 have k:=vB h.inv h.inv2 h.sh a r d c
 obtain ⟨e1,e2,_,e4,e5⟩:=cx m a r d c
 exact ⟨k.inv,k.inv2,⟨by rw[e4,e1]; exact h.sh.wl,by rw[e5,e1]; exact h.sh.sl,by rw[e2,e1]; exact h.sh.pl⟩,tt h.fz e1,by unfold B0; rw[e1]; exact h.b0,by rw[e1]; exact h.nb,by rw[e1]; exact h.nt⟩
def qj (f:Nat→Bool) (n:Nat):Nat:=((List.range n).filter f).length
theorem dm (f:Nat→Bool) (n:Nat):qj f (n+1)=qj f n+(if f n then 1 else 0):=by
 unfold qj
 rw[List.range_succ,List.filter_append,List.length_append]
 cases hf:f n <;> simp[hf]
theorem Afz (f:Nat→Bool) (n:Nat):qj f n≤n:=by
 unfold qj
 have:=List.length_filter_le f (List.range n)
 rwa [List.length_range] at this
theorem jK {f g:Nat→Bool}:∀ n,(∀ i,i<n→f i=true→g i=true)→qj f n≤qj g n
 | 0,_=>Nat.le_refl _
 | n+1,h=>by
   rw[dm,dm]
   have:=jK n fun i hi=>h i (by omega)
   have:=h n (by omega)
   cases hf:f n <;> cases hg:g n <;> simp_all <;> omega
theorem yG {f g:Nat→Bool} {j:Nat}:∀ n,j<n→(∀ i,i<n→f i=true→g i=true)→f j=false→g j=true→qj f n+1≤qj g n
 | 0,h,_,_,_=>by omega
 | n+1,h,hm,h1,h2=>by
   rw[dm,dm]
   by_cases e:j=n
   ·subst e
    have:=jK j fun i hi=>hm i (by omega)
    rw[h1,h2]; simp; omega
   ·have:=yG n (by omega) (fun i hi=>hm i (by omega)) h1 h2
    have:=hm n (by omega)
    cases hf:f n <;> cases hg:g n <;> simp_all <;> omega
def zV (nb:Nat) (ws:List (BitVec 64)):Nat:=qj (fun j=>decide (Eb 2 ws j≠0)) (32*nb)
theorem rT {ws:List (BitVec 64)} (hl:ws.length=(32*nb*2+63)/64) {j v:Nat} (hj:j<32*nb) (hv:v<4) (y:Nat):Eb 2 (GK 2 ws j v) y=if y=j then v else Eb 2 ws y:=by
 by_cases e:y=j
 ·subst e
  rw[if_pos rfl,Fm (.inr (.inl rfl)) hv (by omega)]
 ·rw[if_neg e,Ca (.inr (.inl rfl)) hv (Ne.symm e)]
theorem rk {ws:List (BitVec 64)} (hl:ws.length=(32*nb*2+63)/64) {j v:Nat} (hj:j<32*nb) (hv:v<4) (h0:v≠0):zV nb ws≤zV nb (GK 2 ws j v)∧(Eb 2 ws j=0→zV nb ws+1≤zV nb (GK 2 ws j v)):=by
 have key:∀ i,i<32*nb→decide (Eb 2 ws i≠0)=true→decide (Eb 2 (GK 2 ws j v) i≠0)=true:=fun i _ h=>by
  rw[rT hl hj hv]
  split
  ·exact decide_eq_true h0
  ·exact h
 refine ⟨jK _ key,fun hz=>yG _ hj key ?_ ?_⟩
 ·simp[hz]
 ·rw[rT hl hj hv,if_pos rfl]; exact decide_eq_true h0
structure u7 (nb:Nat) (s:TC):Prop where
 wl:s.ws.length=(32*nb*2+63)/64
 ls:s.list.length≤zV nb s.ws
 lr:∀ v ∈ s.list,0≤v∧v<4096
 lf:s.left.length≤64
 l0:s.ph≠2→s.left=[]
 s2:s.ph=2→s.list=[]
theorem u7.len (h:u7 nb s):s.list.length≤32*nb:=Nat.le_trans h.ls (Afz _ _)
theorem u7.Ahq (h:u7 nb s) {j v:Nat} (hj:j<32*nb) (hv:v<4) (h0:v≠0):u7 nb (gw s ((2*j:Nat):Int) v):=by
 have e:((2*j:Nat):Int).toNat/2=j:=by omega
 unfold gw
 rw[e]
 exact ⟨by rw[← h.wl]; exact Hb _ _ _ _,Nat.le_trans h.ls (rk h.wl hj hv h0).1,h.lr,h.lf,h.l0,h.s2⟩
theorem u7.Aj9 (h:u7 m.bls.length s) (hn:m.bls.length≤64) (hp:s.ph≠2) (a:Int):u7 m.bls.length (QZ m s a):=by
 unfold QZ
 split
 ·rename_i hc
  obtain ⟨j,rfl,hs⟩:=Ej hc.1
  have e:((2*j:Nat):Int).toNat/2=j:=by omega
  have hz:=hc.2
  unfold tj at hz
  rw[e] at hz
  have hj:=hs.1
  have:=h.Ahq hj (v:=1) (by decide) (by decide)
  refine ⟨this.wl, ?_,fun v hv=>?_,h.lf,h.l0,fun e=>absurd e hp⟩
  ·show (s.list++_).length≤zV _ (GK 2 s.ws _ 1)
   rw[e,List.length_append]
   have:=(rk h.wl hj (v:=1) (by decide) (by decide)).2 hz
   have:=h.ls
   simp
   omega
  ·rcases List.mem_append.1 hv with hv | hv
   ·exact h.lr v hv
   ·rw[List.mem_singleton.1 hv]; omega
 ·exact h
theorem dC (m:HM) (s:TC) (a:Int):(QZ m s a).ph=s.ph∧(QZ m s a).left=s.left∧(QZ m s a).look=s.look∧(QZ m s a).freed=s.freed∧(QZ m s a).born=s.born:=by
 unfold QZ; split <;> exact ⟨rfl,rfl,rfl,rfl,rfl⟩
theorem gH (m:HM):∀ (l:List Int) (s:TC),(JS m s l).ph=s.ph∧(JS m s l).left=s.left∧(JS m s l).look=s.look∧(JS m s l).freed=s.freed∧(JS m s l).born=s.born
 | [],s=>⟨rfl,rfl,rfl,rfl,rfl⟩
 | a::l,s=>by
   obtain ⟨h1,h2,h3,h4,h5⟩:=gH m l (QZ m s a)
   obtain ⟨g1,g2,g3,g4,g5⟩:=dC m s a
   exact ⟨h1.trans g1,h2.trans g2,h3.trans g3,h4.trans g4,h5.trans g5⟩
end Go.Proofs.YtphkfdnecpacmaaGreat
end
section
namespace Go.Proofs.YtphkfdnecpacmaaGreat
open Go Go.AX
noncomputable local instance qGI:AA:=Aw
local instance nGI:Kn:=⟨true⟩
variable {σ:Aa} {m:HM} {r:Ky} {s:TC} {i:DB} {p:PI} {c:CI}
structure R5 (σ:Aa) (i:DB) (p:PI) (c:CI) (m:HM) (r:Ky) (s:TC):Prop where
 h:An σ i m
 mo:MK m
 rt:Mc σ p r
 co:Gl σ c i.hb p.rb m.bls.length s
 fp:Fp σ [i.l,p.l,c.l]
 tok:u7 m.bls.length s
theorem R5.app (T:R5 σ i p c m r s) (τ:Aa):R5 (σ++τ) i p c m r s:=⟨T.h.app τ,T.mo,T.rt.app τ,T.co.app τ,T.fp.app τ,T.tok⟩
theorem R5.Zh {σ':Aa} {c':CI} {s':TC} (T:R5 σ i p c m r s) (h':Gl σ' c' i.hb p.rb m.bls.length s') (hm:Mv c.l c'.l σ σ') (tk:u7 m.bls.length s'):R5 σ' i p c' m r s':=by
 obtain ⟨f,k,_⟩:=T.fp.step 2 (by simp) hm h'.lt
 exact ⟨T.h.AF (k 0 (by simp) (by decide)),T.mo,T.rt.AF (k 1 (by simp) (by decide)),h',f,tk⟩
theorem R5.Adh {σ':Aa} {m':HM} (T:R5 σ i p c m r s) (h':An σ' i m') (hm:Bu i σ σ') (mo:MK m') (hl:m'.bls.length=m.bls.length):R5 σ' i p c m' r s:=by
 obtain ⟨f,k,_⟩:=T.fp.step 0 (by simp) hm.mv h'.lt
 refine ⟨h',mo,T.rt.AF (k 1 (by simp) (by decide)), ?_,f,by rw[hl]; exact T.tok⟩
 rw[hl]
 exact T.co.AF (k 2 (by simp) (by decide))
theorem R5.AF {σ':Aa} (T:R5 σ i p c m r s) (hl:σ.length≤σ'.length) (h1:∀ q ∈ i.l,σ'[q]?=σ[q]?) (h2:∀ q ∈ p.l,σ'[q]?=σ[q]?) (h3:∀ q ∈ c.l,σ'[q]?=σ[q]?):R5 σ' i p c m r s:=
 ⟨T.h.AF h1,T.mo,T.rt.AF h2,T.co.AF h3,⟨T.fp.dj,fun L hL q hq=>Nat.lt_of_lt_of_le (T.fp.lt L hL q hq) hl⟩,T.tok⟩
theorem nG (k:Nat) (T:R5 σ i p c m r s) (hp:s.ph≠2) (a:Int) (ha:AU a):∃ σ' c',Bs (k+11) (Hs c) a σ=some (.tuple #[],σ')∧R5 σ' i p c' m r (QZ m s a)∧Mv c.l c'.l σ σ'∧c'.cb=c.cb:=by
 have hlen:=T.tok.len
 have hnt:=T.mo.nt
 have tk:=T.tok.Aj9 hnt hp a
 rw[TZ,MR]
 have eh:AH (k+10) (AV i) a σ=_:=fF (k+6) T.h a ha
 simp only[sw,Ad,Af,Ae,Option.bind_some,Nat.zero_add,Nat.add_zero,T.co.Kw,eh,Ar]
 cases hh:DZ m a with
 | false=>
   simp only[cond_false,Option.bind_some,if_true]
   unfold QZ at tk ⊢
   rw[if_neg (fun hc=>by rw[hh] at hc; cases hc.1)] at tk ⊢
   exact ⟨σ,c,rfl,T,Mv.refl _ _,rfl⟩
 | true=>
   have eo:Cm (k+10) (Hs c) a σ=_:=Adx (k+6) T.co hh
   simp only[cond_true,eo,Option.bind_some,Aj]
   by_cases hz:tj s a=0
   rotate_left
   ·rw[show ((tj s a:Int) == 0)=false from by simpa using hz]
    simp only[cond_false,Option.bind_some,if_true]
    unfold QZ at tk ⊢
    rw[if_neg (fun hc=>hz hc.2)] at tk ⊢
    exact ⟨σ,c,rfl,T,Mv.refl _ _,rfl⟩
   ·rw[show ((tj s a:Int) == 0)=true from by simpa using hz]
    obtain ⟨j,rfl,hs⟩:=Ej hh
    obtain ⟨σ1,e1,h1,m1⟩:=vz k T.co hs.1 (v:=1) (by decide)
    obtain ⟨s',μ,e2,li2,m2⟩:=h1.ls.push ((2*j:Nat):Int) As (by show s.list.length≤_; omega)
    have f1:c.ls.2.1=s.list.length:=by have:=h1.ls.form; rw[this]; rfl
    have f2:c.ls.2.2=s.list.length:=by have:=h1.ls.form; rw[this]; rfl
    rw[f1,f2] at e2
    obtain ⟨σ',e3,h3,m3⟩:=h1.zf (fun q hq=>hq) m2 li2
    unfold QZ at tk ⊢
    rw[if_pos ⟨hh,hz⟩] at tk ⊢
    refine ⟨σ',_, ?_,T.Zh h3 (m1.trans m3) tk,m1.trans m3,rfl⟩
    have d6:=h1.ld6
    have e1':Co (k+10) (Hs c) ((2*j:Nat):Int) (1:Int) σ=some (.tuple #[],σ1):=e1
    have d6':Hr σ1 c.cb 6=some (c.ls.1,s.list.length,s.list.length):=d6
    simp only[cond_true,e1',Option.bind_some,Mt,d6',AM,e2,e3,if_true]
theorem iR (k:Nat) {sl:Ci} {l:List Int} (hl:l.length≤100000) (hv:∀ v ∈ l,AU v) (cb:Nat):∀ (n x f:Nat) (σ:Aa) (c:CI) (s:TC),R5 σ i p c m r s→c.cb=cb→s.ph≠2→B6 σ sl l→(∀ q ∈ hs sl,q ∉ c.l)→x+n=l.length→n<f →
  ∃ σ' c',D3 (k+11) f (some ⟨cb,0,none⟩) sl.1 l.length l.length ((l.length:Nat):Int) (x:Int) σ=some (.exit 0,[],σ')∧R5 σ' i p c' m r (JS m s (l.drop x))∧Mv c.l c'.l σ σ'∧c'.cb=cb
 | n,x,0,σ,c,s,T,hc,hp,hli,ho,hx,hf=>by omega
 | 0,x,f+1,σ,c,s,T,hc,hp,hli,ho,hx,hf=>by
   rw[Km,GQ]
   simp only[sw,Ad,Af,Ae,decide_eq_false (show ¬ (x:Int)<((l.length:Nat):Int) by omega),cond_false]
   rw[List.drop_eq_nil_of_le (by omega)]
   exact ⟨σ,c,rfl,T,Mv.refl _ _,hc⟩
 | n+1,x,f+1,σ,c,s,T,hc,hp,hli,ho,hx,hf=>by
   obtain ⟨b,e,l1,_⟩:=hli.ld (x:=x) (by omega)
   have qx:(0≤(x:Int)∧(x:Int)<((l.length:Nat):Int))=True:=eq_true (by omega)
   have w1:Ce ((x:Int)+1)=((x+1:Nat):Int):=Ak (by unfold AU; omega)
   have hd:l.drop x=l.getD x 0::l.drop (x+1):=by
    rw[List.drop_eq_getElem_cons (by omega),List.getD_eq_getElem?_getD,List.getElem?_eq_getElem (by omega)]; rfl
   have hvx:AU (l.getD x 0):=by
    rw[List.getD_eq_getElem?_getD,List.getElem?_eq_getElem (show x<l.length by omega)]; exact hv _ (List.getElem_mem _)
   obtain ⟨σ1,c1,e1,T1,m1,b1⟩:=nG k T hp (l.getD x 0) hvx
   obtain ⟨k1,k2,_⟩:=m1.GJ (X:=hs sl) hli.lt ho
   obtain ⟨σ',c',e2,T2,m2,b2⟩:=iR k hl hv cb n (x+1) f σ1 c1 _ T1 (b1.trans hc) (by rw[(dC m s _).1]; exact hp) (hli.AF k1) k2 (by omega) (by omega)
   refine ⟨σ',c', ?_,by rw[hd]; exact T2,m1.trans m2,b2⟩
   rw[Km,GQ]
   have e1':Bs (k+11) (some ⟨cb,0,none⟩) (l.getD x 0) σ=some (.tuple #[],σ1):=by rw[← hc]; exact e1
   rw[e] at e2
   simp only[sw,Ad,Af,Ae,decide_eq_true (show (x:Int)<((l.length:Nat):Int) by omega),cond_true,qx,if_true,e,Option.bind_some,Int.toNat_natCast,Nat.mul_one,Nat.zero_add,l1,w1,e1',Mt,e2]
theorem Ya (k:Nat) {sl:Ci} {l:List Int} (hl:l.length≤100000) (hv:∀ v ∈ l,AU v) (cb:Nat):∀ (n x f:Nat) (σ:Aa) (c:CI) (s:TC),R5 σ i p c m r s→c.cb=cb→s.ph≠2→B6 σ sl l→(∀ q ∈ hs sl,q ∉ c.l)→x+n=l.length→n<f →
  ∃ σ' c',Cl (k+11) f (some ⟨cb,0,none⟩) sl.1 l.length l.length ((l.length:Nat):Int) (x:Int) σ=some (.exit 2,[],σ')∧R5 σ' i p c' m r (JS m s (l.drop x))∧Mv c.l c'.l σ σ'∧c'.cb=cb
 | n,x,0,σ,c,s,T,hc,hp,hli,ho,hx,hf=>by omega
 | 0,x,f+1,σ,c,s,T,hc,hp,hli,ho,hx,hf=>by
   rw[H8,Fi]
   simp only[sw,Ad,Af,Ae,decide_eq_false (show ¬ (x:Int)<((l.length:Nat):Int) by omega),cond_false]
   rw[List.drop_eq_nil_of_le (by omega)]
   exact ⟨σ,c,rfl,T,Mv.refl _ _,hc⟩
 | n+1,x,f+1,σ,c,s,T,hc,hp,hli,ho,hx,hf=>by
   obtain ⟨b,e,l1,_⟩:=hli.ld (x:=x) (by omega)
   have qx:(0≤(x:Int)∧(x:Int)<((l.length:Nat):Int))=True:=eq_true (by omega)
   have w1:Ce ((x:Int)+1)=((x+1:Nat):Int):=Ak (by unfold AU; omega)
   have hd:l.drop x=l.getD x 0::l.drop (x+1):=by
    rw[List.drop_eq_getElem_cons (by omega),List.getD_eq_getElem?_getD,List.getElem?_eq_getElem (by omega)]; rfl
   have hvx:AU (l.getD x 0):=by
    rw[List.getD_eq_getElem?_getD,List.getElem?_eq_getElem (show x<l.length by omega)]; exact hv _ (List.getElem_mem _)
   obtain ⟨σ1,c1,e1,T1,m1,b1⟩:=nG k T hp (l.getD x 0) hvx
   obtain ⟨k1,k2,_⟩:=m1.GJ (X:=hs sl) hli.lt ho
   obtain ⟨σ',c',e2,T2,m2,b2⟩:=Ya k hl hv cb n (x+1) f σ1 c1 _ T1 (b1.trans hc) (by rw[(dC m s _).1]; exact hp) (hli.AF k1) k2 (by omega) (by omega)
   refine ⟨σ',c', ?_,by rw[hd]; exact T2,m1.trans m2,b2⟩
   rw[H8,Fi]
   have e1':Bs (k+11) (some ⟨cb,0,none⟩) (l.getD x 0) σ=some (.tuple #[],σ1):=by rw[← hc]; exact e1
   rw[e] at e2
   simp only[sw,Ad,Af,Ae,decide_eq_true (show (x:Int)<((l.length:Nat):Int) by omega),cond_true,qx,if_true,e,Option.bind_some,Int.toNat_natCast,Nat.mul_one,Nat.zero_add,l1,w1,e1',Mt,e2]
theorem pR (k:Nat) {sl:Ci} {l:List Int} (hl:l.length≤100000) (hv:∀ v ∈ l,AU v) (cb:Nat):∀ (n x f:Nat) (σ:Aa) (c:CI) (s:TC),R5 σ i p c m r s→c.cb=cb→s.ph≠2→B6 σ sl l→(∀ q ∈ hs sl,q ∉ c.l)→x+n=l.length→n<f →
  ∃ σ' c',Et (k+11) f (some ⟨cb,0,none⟩) sl.1 l.length l.length ((l.length:Nat):Int) (x:Int) σ=some (.exit 1,[],σ')∧R5 σ' i p c' m r (JS m s (l.drop x))∧Mv c.l c'.l σ σ'∧c'.cb=cb
 | n,x,0,σ,c,s,T,hc,hp,hli,ho,hx,hf=>by omega
 | 0,x,f+1,σ,c,s,T,hc,hp,hli,ho,hx,hf=>by
   rw[LC,Ic]
   simp only[sw,Ad,Af,Ae,decide_eq_false (show ¬ (x:Int)<((l.length:Nat):Int) by omega),cond_false]
   rw[List.drop_eq_nil_of_le (by omega)]
   exact ⟨σ,c,rfl,T,Mv.refl _ _,hc⟩
 | n+1,x,f+1,σ,c,s,T,hc,hp,hli,ho,hx,hf=>by
   obtain ⟨b,e,l1,_⟩:=hli.ld (x:=x) (by omega)
   have qx:(0≤(x:Int)∧(x:Int)<((l.length:Nat):Int))=True:=eq_true (by omega)
   have w1:Ce ((x:Int)+1)=((x+1:Nat):Int):=Ak (by unfold AU; omega)
   have hd:l.drop x=l.getD x 0::l.drop (x+1):=by
    rw[List.drop_eq_getElem_cons (by omega),List.getD_eq_getElem?_getD,List.getElem?_eq_getElem (by omega)]; rfl
   have hvx:AU (l.getD x 0):=by
    rw[List.getD_eq_getElem?_getD,List.getElem?_eq_getElem (show x<l.length by omega)]; exact hv _ (List.getElem_mem _)
   obtain ⟨σ1,c1,e1,T1,m1,b1⟩:=nG k T hp (l.getD x 0) hvx
   obtain ⟨k1,k2,_⟩:=m1.GJ (X:=hs sl) hli.lt ho
   obtain ⟨σ',c',e2,T2,m2,b2⟩:=pR k hl hv cb n (x+1) f σ1 c1 _ T1 (b1.trans hc) (by rw[(dC m s _).1]; exact hp) (hli.AF k1) k2 (by omega) (by omega)
   refine ⟨σ',c', ?_,by rw[hd]; exact T2,m1.trans m2,b2⟩
   rw[LC,Ic]
   have e1':Bs (k+11) (some ⟨cb,0,none⟩) (l.getD x 0) σ=some (.tuple #[],σ1):=by rw[← hc]; exact e1
   rw[e] at e2
   simp only[sw,Ad,Af,Ae,decide_eq_true (show (x:Int)<((l.length:Nat):Int) by omega),cond_true,qx,if_true,e,Option.bind_some,Int.toNat_natCast,Nat.mul_one,Nat.zero_add,l1,w1,e1',Mt,e2]
theorem vo (h:r.ok):∀ v ∈ H9 r,AU v:=by
 intro v hv
 rcases ke v r.all [] hv with h' | h'
 ·cases h'
 ·exact (h.inn v h').1
theorem rI (h:r.ok):(H9 r).length≤144:=by
 have key:∀ (l out:List Int),(l.foldl Wf out).length≤out.length+l.length:=by
  intro l
  induction l with
  | nil=>intro out; simp
  | cons a l ih=>
    intro out
    have:=ih (Wf out a)
    have:(Wf out a).length≤out.length+1:=by
     unfold Wf; split
     ·omega
     ·simp
    simp only[List.foldl_cons,List.length_cons]
    omega
 have:=key r.all []
 have h1:=h.sl; have h2:=h.gl; have h3:=h.qu; have h4:=h.m4
 unfold H9
 unfold Ky.all at this ⊢
 simp only[List.length_append,List.length_nil] at this
 omega
theorem rU (k:Nat) (hk:1000<k) (T:R5 σ i p c m r s) (hp:s.ph≠2):∃ σ' c',Dt (k+12) (Hs c) σ=some (.tuple #[],σ')∧R5 σ' i p c' m r (JS m s (H9 r))∧Mv c.l c'.l σ σ'∧c'.cb=c.cb:=by
 have hlen:=rI T.rt.ok
 obtain ⟨τ,sl,e1,li,new⟩:=uu (k+5) (by omega) T.rt
 have e1':Cc (k+11) (MV p) σ=_:=e1
 have T1:=T.app τ
 obtain ⟨σ',c',e2,T2,m2,b2⟩:=iR k (by omega) (vo T.rt.ok) c.cb (H9 r).length 0 (k+11) (σ++τ) c s T1 rfl hp li (fun q hq hm=>by have:=new q hq; have:=T.co.lt q hm; omega) (by omega) (by omega)
 rw[show ((0:Nat):Int)=0 from rfl] at e2
 have f:=li.form
 have f1:sl.2.1=(H9 r).length:=by rw[f]
 have f2:sl.2.2=(H9 r).length:=by rw[f]
 refine ⟨σ',c', ?_,T2,(Mv.app c.l σ τ).trans m2,b2⟩
 rw[SS,LV]
 simp only[sw,Ad,Af,Ae,Option.bind_some,Nat.zero_add,Nat.add_zero,T.co.GC,e1',H0,f1,f2,e2,if_true]
theorem mR (k:Nat) (T:R5 σ i p c m r s) (a:Int) (ha:AU a):B7 (k+5) (Hs c) a σ=some (.bool (Up m s a),σ):=by
 rw[Vw,Ox]
 have eh:AH (k+4) (AV i) a σ=_:=fF k T.h a ha
 simp only[sw,Ad,Af,Ae,Option.bind_some,Nat.zero_add,Nat.add_zero,T.co.Kw,eh,Ar]
 unfold Up
 cases hh:DZ m a with
 | false=>simp only[cond_false,Option.bind_some,Bool.false_and]
 | true=>
   have eo:Cm (k+4) (Hs c) a σ=_:=Adx k T.co hh
   simp only[cond_true,eo,Option.bind_some,Aj,Bool.true_and]
   by_cases hz:tj s a=0 <;> simp[hz]
end Go.Proofs.YtphkfdnecpacmaaGreat
end
section
namespace Go.Proofs.YtphkfdnecpacmaaGreat
open Go Go.AX
noncomputable local instance qGJ:AA:=Aw
local instance nGJ:Kn:=⟨true⟩
variable {σ:Aa} {m:HM} {r:Ky} {s:TC} {i:DB} {p:PI} {c:CI}
theorem yu (k:Nat) (x y:Int) (σ:Aa):GH (k+1) x y σ=some (.bool (Wb x y),σ):=by
 rw[ZT,U1]
 simp only[sw,Ad,Af,Ae]
 unfold Wb
 by_cases h0:y=0
 ·subst h0
  by_cases h1:x=1
  ·subst h1; rfl
  ·by_cases h2:x=2
   ·subst h2; rfl
   ·rw[show (x == 1)=false from by simpa using h1,show (x == 2)=false from by simpa using h2]; simp[h1,h2]
 ·rw[show (y == 0)=false from by simpa using h0]
  by_cases h1:y=1
  ·subst h1
   by_cases h2:x=2
   ·subst h2; rfl
   ·rw[show (x == 2)=false from by simpa using h2]; simp[h2]
  ·rw[show (y == 1)=false from by simpa using h1]; simp[h0,h1]
theorem ya (v w:Value):pV (.tuple #[v,w])=some [v,w]:=rfl
theorem cZ (k:Nat) (h:An σ i m) (a:Int) (ha:AU a):∃ τ,A9 (k+6) (AV i) a σ=some (.tuple #[.agg #[.int .i64 (Au m a).1,.int .i64 (Au m a).2.1,.int .i64 (Au m a).2.2],.int .i64 (if DZ m a then 0 else 4)],σ++τ):=by
 obtain ⟨τ,e⟩:=Afg k h a ha
 rw[vY] at e
 exact ⟨τ,e⟩
theorem Ae5 (k:Nat) (h:An σ i m) (a:Int) (ha:AU a):∃ τ,Jq (k+7) (AV i) a σ=some (.int .i64 (Au m a).2.2,σ++τ):=by
 obtain ⟨τ,e⟩:=cZ k h a ha
 refine ⟨τ++[A6.cells [.int .i64 (Au m a).1,.int .i64 (Au m a).2.1,.int .i64 (Au m a).2.2] Ag true], ?_⟩
 rw[ZR,Uz]
 simp only[sw,Ad,Af,Ae,e,Option.bind_some,ya,List.length_cons,List.length_nil,Nat.zero_add,Nat.reduceAdd,if_true,List.head?_cons,List.tail_cons,Li,Aj,AM,Io,BI,List.getElem?_cons_zero,List.getElem?_cons_succ,List.append_assoc]
theorem Aa3 {b x n:Nat} {row:List Value} {T:TypeId} (v:Int) (hc:σ[b]?=some (.cells row As true)) (hr:row.length=n) (hx:x<n):
  BH P As (some ⟨b,0,none⟩,x,n) (some ⟨σ.length,0,none⟩,1,1) (σ++[.cells [.int .i64 v] T true])=some ((some ⟨b,0,none⟩,x+1,n),(σ++[A6.cells [.int .i64 v] T true]).set b (.cells (row.set x (.int .i64 v)) As true)):=by
 have hb:=Al hc
 have hc':(σ++[A6.cells [.int .i64 v] T true])[b]?=some (.cells row As true):=by rw[List.getElem?_append_left hb]; exact hc
 have hf:Dq (σ++[.cells [.int .i64 v] T true]) 1 (some ⟨σ.length,0,none⟩) 1=some [.int .i64 v]:=by simp[Dq,Z1]
 have hz:(¬ (GW (.int .i64 0)=false∧some 1=some (Value.cells (.int .i64 0)).size∧0<(Value.cells (.int .i64 0)).size))=False:=by simp[GW,Value.cells]
 unfold BH PZ
 simp only[sz3,by3,zz3,Option.bind_some,hf,hz,if_false,if_pos (show x+1≤n from hx),Ik,Option.isSome_none,cond_false,Nat.zero_add,Nat.mul_one]
 simp only[X5,hc',List.length_cons,List.length_nil,Nat.zero_add]
 rw[if_pos (by omega),ZE _ _ _ (by omega)]
 rfl
theorem nC (k:Nat) (a:Int) (ha:AU a) {nn b:Nat} (hn:nn≤200):∀ (n x f:Nat) (μ:Aa) (row:List Value),An μ i m→Inv m→b ∉ i.l→μ[b]?=some (.cells row As true)→row.length=nn→row.take x=Bm ((List.range x).map fun (x:Nat)=>DH m a ((x:Nat):Int))→x+n=nn→n<f →
  ∃ μ',Ge (k+7) f (AV i) a (nn:Int) (some ⟨b,0,none⟩,x,nn) (x:Int) μ=some (.exit 0,[.slice (some ⟨b,0,none⟩) nn nn],μ')∧μ'[b]?=some (.cells (Bm ((List.range nn).map fun (x:Nat)=>DH m a ((x:Nat):Int))) As true)∧Mv [b] [b] μ μ'
 | n,x,0,μ,row,h,hI,hb,hc,hr,ht,hx,hf=>by omega
 | 0,x,f+1,μ,row,h,hI,hb,hc,hr,ht,hx,hf=>by
   rw[OY,Lk]
   have e:x=nn:=by omega
   subst e
   simp only[sw,Ad,Af,Ae,decide_eq_false (show ¬ (x:Int)<(x:Int) by omega),cond_false]
   rw[List.take_of_length_le (by omega)] at ht
   exact ⟨μ,rfl,by rw[hc,ht],Mv.refl _ _⟩
 | n+1,x,f+1,μ,row,h,hI,hb,hc,hr,ht,hx,hf=>by
   have w1:Ce ((x:Int)+1)=((x+1:Nat):Int):=Ak (by unfold AU; omega)
   obtain ⟨τ,e1⟩:=nB k h hI a (x:Int) ha
   have h1:=h.app τ
   have hc1:(μ++τ)[b]?=some (.cells row As true):=by rw[List.getElem?_append_left (Al hc)]; exact hc
   have e2:=Aa3 (T:=As) (DH m a (x:Int)) hc1 hr (show x<nn by omega)
   obtain ⟨μ1,hμ1⟩:∃ μ1,(μ++τ++[A6.cells [.int .i64 (DH m a (x:Int))] As true]).set b (.cells (row.set x (.int .i64 (DH m a (x:Int)))) As true)=μ1:=⟨_,rfl⟩
   have hbl:=Al hc1
   have m1:Mv [b] [b] μ μ1:=by
    rw[← hμ1]
    exact ((Mv.app [b] μ τ).trans (Mv.app [b] _ _)).trans (Mv.set _ _ (List.mem_singleton.2 rfl))
   have h2:An μ1 i m:=h.AF fun q hq=>m1.same q (h.lt q hq) fun hm=>hb (by rw[← List.mem_singleton.1 hm]; exact hq)
   have hc2:μ1[b]?=some (.cells (row.set x (.int .i64 (DH m a (x:Int)))) As true):=by
    rw[← hμ1,List.getElem?_set_self (by rw[List.length_append]; omega)]
   obtain ⟨μ',e3,c3,m3⟩:=nC k a ha hn n (x+1) f μ1 _ h2 hI hb hc2 (by rw[List.length_set]; exact hr) (by
    rw[List.range_succ,List.map_append,U6,← ht]
    apply List.ext_getElem?
    intro q
    have htl:(row.take x).length=x:=by rw[List.length_take]; omega
    rw[List.getElem?_take,List.getElem?_set]
    by_cases q1:q<x
    ·rw[if_pos (by omega),if_neg (by omega),List.getElem?_append_left (by omega),List.getElem?_take,if_pos q1]
    ·by_cases q2:q=x
     ·subst q2
      rw[if_pos (by omega),if_pos rfl,if_pos (by omega),List.getElem?_append_right (by omega),htl,Nat.sub_self]; rfl
     ·rw[if_neg (by omega),List.getElem?_append_right (by omega),List.getElem?_eq_none (by simp[Bm]; omega)]) (by omega) (by omega)
   refine ⟨μ', ?_,c3,m1.trans m3⟩
   rw[OY,Lk]
   have e1':AL (k+7) (AV i) a (x:Int) μ=some (.tuple #[.int .i64 (DH m a (x:Int)),.int .i64 (Yw m a (x:Int) false).2],μ++τ):=e1
   simp only[sw,Ad,Af,Ae,decide_eq_true (show (x:Int)<(nn:Int) by omega),cond_true,e1',Option.bind_some,Fq,AM,e2,hμ1,w1,e3]
theorem Aff (k:Nat) (hk:1000<k) (h:An σ i m) (hI:Inv m) (a:Int) (ha:AU a):∃ τ s,Jr (k+8) (AV i) a σ=some (.slice s.1 s.2.1 s.2.2,σ++τ)∧B6 (σ++τ) s (c8 m a) ∧ ∀ q ∈ hs s,σ.length≤q:=by
 obtain ⟨τ1,e1⟩:=cZ (k+1) h a ha
 obtain ⟨s1,s2,s3,s4⟩:=UL hI a
 unfold c8
 generalize hsg:Au m a=sh at e1 s1 s2 s3 s4
 obtain ⟨rr,dd,kk⟩:=sh
 dsimp only at e1 s1 s2 s3 s4
 obtain ⟨nn,rfl⟩:∃ nn:Nat,rr=(nn:Int):=⟨rr.toNat,by omega⟩
 obtain ⟨S,hS⟩:∃ S,A6.cells [.int .i64 (nn:Int),.int .i64 dd,.int .i64 kk] Ag true=S:=⟨_,rfl⟩
 obtain ⟨μ,hμ⟩:∃ μ,σ++τ1++[S]=μ:=⟨_,rfl⟩
 have lm:σ.length<μ.length:=by rw[← hμ,List.length_append,List.length_append,List.length_singleton]; omega
 have hμσ:μ=σ++(τ1++[S]):=by rw[← hμ,List.append_assoc]
 have hm0:An μ i m:=by rw[hμσ]; exact h.app _
 have hm1:An (μ++[A6.cells (rep nn [.int .i64 0]) As true]) i m:=hm0.app _
 have lS:∀ τ,Df .i64 (μ++τ) (σ++τ1).length 0=some (nn:Int):=fun τ=>by
  rw[dx _ _ _ (by rw[← hμ]; simp),← hμ,← hS,BI]; rfl
 have lS0:Df .i64 μ (σ++τ1).length 0=some (nn:Int):=by have:=lS []; rwa [List.append_nil] at this
 have hbn:μ.length ∉ i.l:=fun hm=>by have:=hm0.lt _ hm; omega
 obtain ⟨μ',e2,c2,m2⟩:=nC k a ha (b:=μ.length) (show nn≤200 by omega) nn 0 (k+7) _ _ hm1 hI hbn (by rw[List.getElem?_concat_length]) (by rw[ja,EH,List.length_replicate]) (by simp[Bm]) (by omega) (by omega)
 obtain ⟨τ,hτ⟩:∃ τ,μ'=σ++τ:=by
  refine RW (by have:=m2.len; simp at this; omega) fun q hq=>?_
  rw[m2.same q (by simp; omega) (fun hm=>by have:=List.mem_singleton.1 hm; omega),List.getElem?_append_left (by omega),hμσ,List.getElem?_append_left hq]
 refine ⟨τ,(some ⟨μ.length,0,none⟩,nn,nn), ?_, ?_,fun q hq=>by simp[hs] at hq; omega⟩
 ·rw[ZS,U0]
  have e1':A9 (k+7) (AV i) a σ=_:=e1
  rw[show ((0:Nat):Int)=0 from rfl] at e2
  simp only[sw,Ad,Af,Ae,e1',Option.bind_some,ya,List.length_cons,List.length_nil,Nat.zero_add,Nat.reduceAdd,if_true,List.head?_cons,List.tail_cons,Li,Aj,AM,Io,hS,hμ,lS0]
  rw[if_pos (by omega)]
  simp only[Int.toNat_natCast,Int.toNat_zero,lS,Option.bind_some,e2,if_true,hτ]
  rfl
 ·rw[← hτ]
  exact .inl (.inr ⟨μ.length,by simp,Nat.zero_le _,by simp[Bm],by rw[c2]; rfl⟩)
end Go.Proofs.YtphkfdnecpacmaaGreat
end
