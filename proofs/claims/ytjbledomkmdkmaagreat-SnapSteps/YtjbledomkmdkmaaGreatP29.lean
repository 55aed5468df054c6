/- The program's roots in memory; Leads.; A core in memory: looks and stores.; What holds of every heap that is made by calls; bounds of a core.; Shading -/
import Derived.Test.YtjbledomkmdkmaaGreatP28
set_option linter.unusedVariables false
set_option linter.unusedSimpArgs false
set_option linter.unusedSectionVars false
section
namespace Go.Proofs.YtjbledomkmdkmaaGreat
open Go Go.AX
noncomputable local instance qGD:A9:=Aw
local instance nGD:Kn:=⟨true⟩
variable {σ:Aa} {r:K4}
structure PI where
 rb:Nat
 s1:Ce
 s2:Ce
 s3:Ce
def PI.l (p:PI):List Nat:=p.rb::(hs p.s1++(hs p.s2++hs p.s3))
structure Mj (σ:Aa) (p:PI) (r:K4):Prop where
 cell:σ[p.rb]?=some (.cells [.int .i64 (r.mu:Int),.slice p.s1.1 p.s1.2.1 p.s1.2.2,.slice p.s2.1 p.s2.2.1 p.s2.2.2,.slice p.s3.1 p.s3.2.1 p.s3.2.2] Rp true)
 sl:B6 σ p.s1 r.sl
 gl:B6 σ p.s2 r.gl
 qu:B6 σ p.s3 r.qu
 ok:r.ok
 nd:p.l.Nodup
variable {p:PI}
abbrev Nc (p:PI):Option Addr:=some ⟨p.rb,0,none⟩
theorem PI.m1 (p:PI) {b:Nat} (h:b ∈ hs p.s1):b ∈ p.l:=List.mem_cons_of_mem _ (List.mem_append.2 (.inl h))
theorem PI.m2 (p:PI) {b:Nat} (h:b ∈ hs p.s2):b ∈ p.l:=List.mem_cons_of_mem _ (List.mem_append.2 (.inr (List.mem_append.2 (.inl h))))
theorem PI.m3 (p:PI) {b:Nat} (h:b ∈ hs p.s3):b ∈ p.l:=List.mem_cons_of_mem _ (List.mem_append.2 (.inr (List.mem_append.2 (.inr h))))
theorem Mj.AG {σ':Aa} (h:Mj σ p r) (hs':∀ q ∈ p.l,σ'[q]?=σ[q]?):Mj σ' p r:=
 ⟨(hs' _ List.mem_cons_self).trans h.cell,h.sl.AG fun b hb=>hs' b (p.m1 hb),h.gl.AG fun b hb=>hs' b (p.m2 hb),h.qu.AG fun b hb=>hs' b (p.m3 hb),h.ok,h.nd⟩
theorem Mj.lt (h:Mj σ p r):∀ q ∈ p.l,q<σ.length:=by
 intro q hq
 rcases List.mem_cons.1 hq with rfl | hq
 ·exact Al h.cell
 rcases List.mem_append.1 hq with hq | hq
 ·exact h.sl.lt q hq
 rcases List.mem_append.1 hq with hq | hq
 ·exact h.gl.lt q hq
 ·exact h.qu.lt q hq
theorem Mj.app (h:Mj σ p r) (τ:Aa):Mj (σ++τ) p r:=h.AG fun q hq=>List.getElem?_append_left (h.lt q hq)
theorem Mj.K2 (h:Mj σ p r):Dg .i64 σ p.rb 0=some (r.mu:Int):=by simp[Dg,Gi,h.cell,Ml]
theorem Mj.GJ (h:Mj σ p r):Hx σ p.rb 1=some (p.s1.1,p.s1.2.1,p.s1.2.2):=by simp[Hx,Gi,h.cell,H7]
theorem Mj.kr (h:Mj σ p r):Hx σ p.rb 2=some (p.s2.1,p.s2.2.1,p.s2.2.2):=by simp[Hx,Gi,h.cell,H7]
theorem Mj.uu (h:Mj σ p r):Hx σ p.rb 3=some (p.s3.1,p.s3.2.1,p.s3.2.2):=by simp[Hx,Gi,h.cell,H7]
theorem Akh (a:Addr):Od P He (.pointer (some a)) (.pointer none)=some false:=by kernel_rfl
theorem dK (k:Nat) (h:Mj σ p r):Bo (k+1) (Nc p) σ=some (.bool true,σ):=by
 have:=h.ok.m1
 rw[Rw,KM]
 simp only[sw,Ad,Af,Ae,Akh,Option.bind_some,Bool.not_false,cond_true,Nat.zero_add,Nat.add_zero,h.K2]
 rw[decide_eq_true (by omega)]
theorem uI (k:Nat) (h:Mj σ p r):CY (k+2) (Nc p) σ=some (.int .i64 (r.mu:Int),σ):=by
 rw[Nm,HA]
 simp only[sw,Ad,Af,Ae,dK k h,Option.bind_some,Ar,Bool.not_true,cond_false,Nat.zero_add,Nat.add_zero,h.K2]
theorem Se {σ σ':Aa} (hl:σ.length≤σ'.length) (hq:∀ q,q<σ.length→σ'[q]?=σ[q]?):∃ τ,σ'=σ++τ:=by
 refine ⟨σ'.drop σ.length, ?_⟩
 apply List.ext_getElem?
 intro q
 by_cases h:q<σ.length
 ·rw[List.getElem?_append_left h,hq q h]
 ·rw[List.getElem?_append_right (by omega),List.getElem?_drop]
  congr 1; omega
structure nu (μ:Aa) (h3 h6 top:Nat) (out:List Int):Prop where
 box:∃ s,μ[h3]?=some (.cells [.slice s.1 s.2.1 s.2.2] HJ true)∧B6 μ s out ∧ ∀ b ∈ hs s,top<b
 rc:μ[h6]?=some (.loop 168 .ready (Lg 0 26 [(3,.pointer (some ⟨h3,0,none⟩))]))
 h3t:h3≤top
 h6t:h6≤top
 ne:h3≠h6
 tl:top<μ.length
structure jD (h3 top:Nat) (μ μ':Aa):Prop where
 len:μ.length≤μ'.length
 same:∀ q,q≤top→q≠h3→μ'[q]?=μ[q]?
theorem jD.refl (h3 top:Nat) (μ:Aa):jD h3 top μ μ:=⟨Nat.le_refl _,fun _ _ _=>rfl⟩
theorem jD.trans {h3 top:Nat} {a b c:Aa} (h:jD h3 top a b) (g:jD h3 top b c):jD h3 top a c:=⟨Nat.le_trans h.len g.len,fun q h1 h2=>(g.same q h1 h2).trans (h.same q h1 h2)⟩
theorem jD.app {h3 top:Nat} {μ:Aa} (ht:top<μ.length) (τ:Aa):jD h3 top μ (μ++τ):=⟨by simp,fun q h1 _=>List.getElem?_append_left (by omega)⟩
theorem nu.app {μ:Aa} {h3 h6 top:Nat} {out:List Int} (h:nu μ h3 h6 top out) (τ:Aa):nu (μ++τ) h3 h6 top out:=by
 obtain ⟨s,e,l,n⟩:=h.box
 have h3t:=h.h3t; have h6t:=h.h6t; have tl:=h.tl
 exact ⟨⟨s,by rw[List.getElem?_append_left (by omega)]; exact e,l.app τ,n⟩,by rw[List.getElem?_append_left (by omega)]; exact h.rc,h3t,h6t,h.ne,by rw[List.length_append]; omega⟩
theorem nu.behind {μ μ':Aa} {h3 h6 top:Nat} {out:List Int} (h:nu μ h3 h6 top out) (hl:μ.length≤μ'.length) (hq:∀ q,q<μ.length→μ'[q]?=μ[q]?):nu μ' h3 h6 top out:=by
 obtain ⟨s,e,l,n⟩:=h.box
 have h3t:=h.h3t; have h6t:=h.h6t; have tl:=h.tl
 exact ⟨⟨s,by rw[hq _ (by omega)]; exact e,l.AG fun b hb=>hq b (l.lt b hb),n⟩,by rw[hq _ (by omega)]; exact h.rc,h3t,h6t,h.ne,by omega⟩
theorem gQ {ρ:Type} {μ:Aa} {h:Nat} {f:FuncId} {o n:LSt} {g:AZ} (hr:μ[h]?=some (.loop f o g)) (K:FuncId→AZ→Aa→Option ρ):Ni h μ o n K=K f g (μ.set h (.loop f n g)):=by
 unfold Ni; rw[hr]; simp
theorem wR (k:Nat) {μ:Aa} {h3 h6 top:Nat} {out:List Int} (h:nu μ h3 h6 top out) (ho:out.length≤1000) (hk:1000<k) (z0 z1 z2:Int) {b x:Nat} {v:Int} (hv:Dg .i64 μ b x=some v) (h0:v≠0) (hb6:b≠h6):
  ∃ μ',EZ (k+2) (Bk (k+2)) h6 h3 z0 z1 z2 (some ⟨b,x,none⟩) μ=some (.bool true,μ')∧nu μ' h3 h6 top (Wo out v)∧jD h3 top μ μ':=by
 obtain ⟨s,e,l,n⟩:=h.box
 have h3t:=h.h3t; have h6t:=h.h6t; have tl:=h.tl
 have hn3:∀ q ∈ hs s,q≠h3∧q≠h6:=fun q hq=>by have:=n q hq; omega
 obtain ⟨bz,hbz⟩:∃ bz,A6.loop 168 .busy (Lg 0 26 [(3,.pointer (some ⟨h3,0,none⟩))])=bz:=⟨_,rfl⟩
 obtain ⟨μ1,hμ1⟩:∃ μ1,μ.set h6 bz=μ1:=⟨_,rfl⟩
 have l1:μ1.length=μ.length:=by rw[← hμ1]; simp
 have q1:∀ q,q≠h6→μ1[q]?=μ[q]?:=fun q hq=>by rw[← hμ1,List.getElem?_set_ne (Ne.symm hq)]
 have c1:μ1[h6]?=some (.loop 168 .busy (Lg 0 26 [(3,.pointer (some ⟨h3,0,none⟩))])):=by rw[← hμ1,List.getElem?_set_self (by omega),hbz]
 have e1:μ1[h3]?=some (.cells [.slice s.1 s.2.1 s.2.2] HJ true):=by rw[q1 _ h.ne]; exact e
 have li1:B6 μ1 s out:=l.AG fun q hq=>q1 q (hn3 q hq).2
 have ldb:Hx μ1 h3 0=some (s.1,s.2.1,s.2.2):=by simp[Hx,Gi,e1,H7]
 have ldv:Dg .i64 μ1 b x=some v:=by
  have:μ1[b]?=μ[b]?:=q1 b hb6
  simp only[Dg,Gi,this] at hv ⊢
  exact hv
 have hC:=kU k li1 (by omega) (by omega) v
 unfold EZ
 simp only[sw,Ad,Af,Ae]
 rw[gQ h.rc,hbz,hμ1]
 simp only[ldb,Option.bind_some,ldv,hC,Ar]
 by_cases hm:v ∈ out
 ·rw[decide_eq_true hm]
  simp only[Bool.not_true,cond_false,Option.bind_some,if_true]
  rw[gQ c1]
  have ea:Wo out v=out:=by unfold Wo; rw[if_pos (.inr hm)]
  refine ⟨_,rfl, ?_, ?_⟩
  ·rw[ea]
   refine ⟨⟨s,by rw[List.getElem?_set_ne h.ne.symm]; exact e1,li1.AG fun q hq=>List.getElem?_set_ne (hn3 q hq).2.symm,n⟩,List.getElem?_set_self (by omega),h3t,h6t,h.ne,by simp; omega⟩
  ·refine ⟨by simp; omega,fun q hq hn=>?_⟩
   by_cases q6:q=h6
   ·subst q6; rw[List.getElem?_set_self (by omega),h.rc]
   ·rw[List.getElem?_set_ne (Ne.symm q6),q1 q q6]
 ·rw[decide_eq_false hm]
  have ea:Wo out v=out++[v]:=by unfold Wo; rw[if_neg (fun hh=>hh.elim h0 hm)]
  obtain ⟨s',μ2,e2,li2,m2⟩:=li1.push v As (by omega)
  have hs':∀ q ∈ hs s',top<q:=fun q hq=>(m2.new q hq).elim (n q) fun hh=>by omega
  have b2:μ2[h3]?=some (.cells [.slice s.1 s.2.1 s.2.2] HJ true):=m2.SB e1 fun hm=>(hn3 _ hm).1 rfl
  have c2:μ2[h6]?=some (.loop 168 .busy (Lg 0 26 [(3,.pointer (some ⟨h3,0,none⟩))])):=m2.SB c1 fun hm=>(hn3 _ hm).2 rfl
  have len2:=m2.len
  have st:K3 μ2 h3 0 (.slice s'.1 s'.2.1 s'.2.2)=some (μ2.set h3 (.cells [.slice s'.1 s'.2.1 s'.2.2] HJ true)):=by simp[K3,b2]
  have c3:(μ2.set h3 (.cells [.slice s'.1 s'.2.1 s'.2.2] HJ true))[h6]?=some (.loop 168 .busy (Lg 0 26 [(3,.pointer (some ⟨h3,0,none⟩))])):=by rw[List.getElem?_set_ne h.ne]; exact c2
  simp only[Bool.not_false,cond_true,Option.bind_some,AM,e2,st,if_true]
  rw[gQ c3]
  have ne36:=h.ne
  refine ⟨_,rfl, ?_, ?_⟩
  ·rw[ea]
   refine ⟨⟨s', ?_,li2.AG fun q hq=>?_,hs'⟩,List.getElem?_set_self (by simp; omega),h3t,h6t,h.ne,by simp; omega⟩
   ·rw[List.getElem?_set_ne h.ne.symm,List.getElem?_set_self (by omega)]
   ·have:=hs' q hq
    rw[List.getElem?_set_ne (by omega),List.getElem?_set_ne (by omega)]
  ·refine ⟨by simp; omega,fun q hq hn=>?_⟩
   by_cases q6:q=h6
   ·subst q6; rw[List.getElem?_set_self (by simp; omega),h.rc]
   ·rw[List.getElem?_set_ne (Ne.symm q6),List.getElem?_set_ne (Ne.symm hn),m2.same q (by omega) (fun hm=>by have:=n q hm; omega),q1 q q6]
theorem XW (k:Nat) (hk:1000<k) {h3 h6 top:Nat} (i1:Int) (sl:Ce) (l:List Int) (hl:l.length≤200):∀ (n x f:Nat) (μ:Aa) (out:List Int),nu μ h3 h6 top out→B6 μ sl l→(∀ b ∈ hs sl,b≤top∧b≠h3∧b≠h6)→x+n=l.length→out.length+n≤1000→n<f →
  ∃ μ',CA (k+3) f (.func (.yield h6) #[] #[]) i1 sl.1 l.length l.length ((l.length:Nat):Int) (x:Int) μ=some (.exit 2,[],μ')∧nu μ' h3 h6 top ((l.drop x).foldl Wo out)∧jD h3 top μ μ'∧((l.drop x).foldl Wo out).length≤out.length+n
 | n,x,0,μ,out,h,hli,hb,hx,ho,hf=>by omega
 | 0,x,f+1,μ,out,h,hli,hb,hx,ho,hf=>by
   rw[Ir,Fz]
   simp only[sw,Ad,Af,Ae,decide_eq_false (show ¬ (x:Int)<((l.length:Nat):Int) by omega),cond_false]
   rw[List.drop_eq_nil_of_le (by omega)]
   exact ⟨μ,rfl,h,jD.refl _ _ _,by simp⟩
 | n+1,x,f+1,μ,out,h,hli,hb,hx,ho,hf=>by
   obtain ⟨b,e,l1,_⟩:=hli.ld (x:=x) (by omega)
   have tl:=h.tl
   have hbt:=hb b (UE e)
   have qx:(0≤(x:Int)∧(x:Int)<((l.length:Nat):Int))=True:=eq_true (by omega)
   have w1:Cf ((x:Int)+1)=((x+1:Nat):Int):=Ak (by unfold AU; omega)
   have hd:l.drop x=l.getD x 0::l.drop (x+1):=by
    rw[List.drop_eq_getElem_cons (by omega),List.getD_eq_getElem?_getD,List.getElem?_eq_getElem (by omega)]; rfl
   rw[hd,List.foldl_cons]
   rw[Ir,Fz]
   simp only[sw,Ad,Af,Ae,decide_eq_true (show (x:Int)<((l.length:Nat):Int) by omega),cond_true,AM,Iv,Option.bind_some]
   have hbox:∃ y z,((bif i1 == (0:Int) then (if (16:Int)=0 then none else if (16:Int)=0 then none else (K3 (μ++[A6.cells [.int .i64 i1,.int .i64 0,.int .i64 (x:Int)] AS true]) μ.length (0+1) (.int .i64 (Cf ((x:Int).tdiv (16:Int))))).bind fun s19=>(K3 s19 μ.length (0+2) (.int .i64 ((x:Int).tmod (16:Int)))).bind fun s20=>some (.normal,[],s20)) else (some (.normal,[],μ++[A6.cells [.int .i64 i1,.int .i64 0,.int .i64 (x:Int)] AS true])):Option Ax))=some (.normal,[],μ++[A6.cells [.int .i64 i1,.int .i64 y,.int .i64 z] AS true]):=by
    cases h0:i1 == (0:Int) with
    | true=>
      simp only[cond_true,show ((16:Int)=0)=False from by simp,if_false]
      refine ⟨Cf ((x:Int).tdiv 16),(x:Int).tmod 16, ?_⟩
      simp only[K3,List.getElem?_concat_length,List.length_cons,List.length_nil,Nat.zero_add,show 1<0+1+1+1 from by omega,if_true,Option.bind_some,List.set_cons_succ,List.set_cons_zero]
      rw[List.set_append_right _ _ (Nat.le_refl _)]
      simp
    | false=>exact ⟨0,(x:Int),rfl⟩
   obtain ⟨y,z,eb⟩:=hbox
   rw[eb]
   obtain ⟨B,hB⟩:∃ B,A6.cells [.int .i64 i1,.int .i64 y,.int .i64 z] AS true=B:=⟨_,rfl⟩
   have h1:=h.app [B]
   have hli1:=hli.app [B]
   have l1':Dg .i64 (μ++[B]) b x=some (l.getD x 0):=by rw[dI _ _ _ (by omega)]; exact l1
   have f1:jD h3 top μ (μ++[B]):=jD.app tl _
   rw[hB]
   simp only[Option.bind_some,if_true,qx,e,Int.toNat_natCast,Nat.mul_one,Nat.zero_add,l1',w1]
   by_cases hz:l.getD x 0=0
   ·have ea:Wo out (l.getD x 0)=out:=by unfold Wo; rw[if_pos (.inl hz)]
    rw[ea]
    obtain ⟨μ',e2,h2,f2,n2⟩:=XW k hk i1 sl l hl n (x+1) f _ out h1 hli1 hb (by omega) (by omega) (by omega)
    rw[e] at e2
    refine ⟨μ', ?_,h2,f1.trans f2,by omega⟩
    rw[show (l.getD x 0 != 0)=false from by rw[hz]; rfl]
    simp only[cond_false,Option.bind_some]
    exact e2
   ·have hBl:∀ o v,o<3→[i1,y,z][o]?=some v→Dg .i64 (μ++[B]) μ.length o=some v:=by
     intro o v ho hv
     rw[← hB,BJ]
     match o,ho with
     | 0,_=>cases hv; rfl
     | 1,_=>cases hv; rfl
     | 2,_=>cases hv; rfl
    obtain ⟨μ2,e2,h2,f2⟩:=wR k h1 (by omega) hk i1 y z l1' hz hbt.2.2
    have hli2:B6 μ2 sl l:=hli1.AG fun q hq=>f2.same q (hb q hq).1 (hb q hq).2.1
    have hlen:(Wo out (l.getD x 0)).length≤out.length+1:=by
     unfold Wo; split
     ·omega
     ·simp
    obtain ⟨μ',e3,h3',f3,n3⟩:=XW k hk i1 sl l hl n (x+1) f _ _ h2 hli2 hb (by omega) (by omega) (by omega)
    rw[e] at e3
    refine ⟨μ', ?_,h3',(f1.trans f2).trans f3,by omega⟩
    rw[show (l.getD x 0 != 0)=true from bne_iff_ne.2 hz]
    simp only[cond_true,hBl 0 i1 (by omega) rfl,hBl 1 y (by omega) rfl,hBl 2 z (by omega) rfl,Option.bind_some]
    rw[Jr _ _ _ _ _ _ _ _ h1.rc,e2]
    simp only[Option.bind_some,Ar,Bool.not_true,cond_false]
    exact e3
theorem uF (k:Nat) (hk:1000<k) (h:Mj σ p r):∃ τ s,Cc (k+6) (Nc p) σ=some (.slice s.1 s.2.1 s.2.2,σ++τ)∧B6 (σ++τ) s (HF r) ∧ ∀ b ∈ hs s,σ.length≤b:=by
 have hok:=h.ok
 have hs16:=hok.sl
 have hm4:=hok.m4
 have hg:=hok.gl
 have hq:=hok.qu
 have hpl:=h.lt
 rw[Q7,JR]
 simp only[sw,Ad,Af,Ae]
 have em:Bo (k+5) (Nc p) σ=_:=dK (k+4) h
 simp only[em,Option.bind_some,Ar,Bool.not_true,cond_false,AM]
 rw[SV,LW]
 simp only[sw,Ad,Af,Ae,AM,Option.bind_some,Aa2,cond_true]
 rw[TH]
 rw[PG,Jo]
 simp only[sw,Ad,Af,Ae,AM]
 obtain ⟨O1,hO1⟩:∃ O,A6.cells [.slice none 0 0] HJ true=O:=⟨_,rfl⟩
 obtain ⟨O2,hO2⟩:∃ O,A6.cells [.pointer (Nc p)] He true=O:=⟨_,rfl⟩
 obtain ⟨O3,hO3⟩:∃ O,A6.loop 168 .ready (Lg 0 26 [(3,.pointer (some ⟨σ.length,0,none⟩))])=O:=⟨_,rfl⟩
 rw[hO1,hO2,hO3]
 obtain ⟨μ,hμ⟩:∃ μ,σ++[O1]++[O2]++[O3]=μ:=⟨_,rfl⟩
 have lm:μ.length=σ.length+3:=by rw[← hμ]; simp
 have hμ':μ=σ++[O1,O2,O3]:=by rw[← hμ]; simp
 have lb:(σ++[O1]++[O2]).length=σ.length+2:=by simp
 have la:(σ++[O1]).length=σ.length+1:=by simp
 rw[hμ,lb,la]
 have hμp:Mj μ p r:=by rw[hμ']; exact h.app _
 have ldp:L8 μ (σ.length+1) 0=some (Nc p):=by
  rw[hμ']
  simp only[L8,Gi]
  rw[List.getElem?_append_right (by omega),show σ.length+1-σ.length=1 from by omega]
  simp only[List.getElem?_cons_succ,List.getElem?_cons_zero,← hO2]
  rfl
 simp only[Option.bind_some,ldp,Nat.zero_add,Nat.add_zero,hμp.GJ,hμp.kr,hμp.uu]
 obtain ⟨O4,hO4⟩:∃ O,A6.cells [.slice p.s1.1 p.s1.2.1 p.s1.2.2,.slice p.s2.1 p.s2.2.1 p.s2.2.2,.slice p.s3.1 p.s3.2.1 p.s3.2.2] HJ true=O:=⟨_,rfl⟩
 rw[hO4]
 have hm1:Mj (μ++[O4]) p r:=hμp.app _
 have S0:nu (μ++[O4]) σ.length (σ.length+2) (σ.length+3) []:=by
  refine ⟨⟨(none,0,0), ?_,B6.nil _,fun b hb=>by simp[hs] at hb⟩, ?_,by omega,by omega,by omega,by simp[lm]⟩
  ·rw[hμ',List.append_assoc,List.getElem?_append_right (Nat.le_refl _),Nat.sub_self,← hO1]; rfl
  ·rw[hμ',List.append_assoc,List.getElem?_append_right (by omega),show σ.length+2-σ.length=2 from by omega,← hO3]; rfl
 have c4:(μ++[O4])[σ.length+3]?=some O4:=by rw[← lm]; simp
 have bnd:∀ b ∈ p.l,b≤σ.length+3∧b≠σ.length∧b≠σ.length+2:=fun b hb=>by have:=hpl b hb; omega
 have f1:=hm1.sl.form
 have f2:=hm1.gl.form
 have f3:=hm1.qu.form
 have all:r.all.length≤144:=by unfold K4.all; rw[List.length_append,List.length_append]; omega
 obtain ⟨μ1,e1,S1,F1,n1⟩:=XW (k+1) (by omega) (h3:=σ.length) (h6:=σ.length+2) (top:=σ.length+3) 0 p.s1 r.sl (by omega) r.sl.length 0 (k+4) _ [] S0 hm1.sl (fun b hb=>bnd b (p.m1 hb)) (by omega) (by simp; omega) (by omega)
 have k1:∀ q ∈ p.l,μ1[q]?=(μ++[O4])[q]?:=fun q hq=>F1.same q (bnd q hq).1 (bnd q hq).2.1
 have p1:=hm1.AG k1
 have d1:μ1[σ.length+3]?=some O4:=(F1.same _ (Nat.le_refl _) (by omega)).trans c4
 obtain ⟨μ2,e2,S2,F2,n2⟩:=XW (k+1) (by omega) (h3:=σ.length) (h6:=σ.length+2) (top:=σ.length+3) 1 p.s2 r.gl (by omega) r.gl.length 0 (k+4) _ _ S1 p1.gl (fun b hb=>bnd b (p.m2 hb)) (by omega) (by simp at n1 ⊢; omega) (by omega)
 have k2:∀ q ∈ p.l,μ2[q]?=μ1[q]?:=fun q hq=>F2.same q (bnd q hq).1 (bnd q hq).2.1
 have p2:=p1.AG k2
 have d2:μ2[σ.length+3]?=some O4:=(F2.same _ (Nat.le_refl _) (by omega)).trans d1
 obtain ⟨μ3,e3,S3,F3,n3⟩:=XW (k+1) (by omega) (h3:=σ.length) (h6:=σ.length+2) (top:=σ.length+3) 2 p.s3 r.qu (by omega) r.qu.length 0 (k+4) _ _ S2 p2.qu (fun b hb=>bnd b (p.m3 hb)) (by omega) (by simp at n1 n2 ⊢; omega) (by omega)
 have hfold:((List.drop 0 r.qu).foldl Wo ((List.drop 0 r.gl).foldl Wo ((List.drop 0 r.sl).foldl Wo [])))=HF r:=by
  unfold HF K4.all
  simp only[List.drop_zero,List.foldl_append]
 rw[hfold] at S3
 have ld4:∀ (ν:Aa),ν[σ.length+3]?=some O4→Hx ν (σ.length+3) 0=some (p.s1.1,p.s1.2.1,p.s1.2.2)∧Hx ν (σ.length+3) 1=some (p.s2.1,p.s2.2.1,p.s2.2.2)∧Hx ν (σ.length+3) 2=some (p.s3.1,p.s3.2.1,p.s3.2.2):=by
  intro ν hν
  simp[Hx,Gi,hν,← hO4,H7]
 have w1:Cf ((0:Int)+1)=1:=by decide
 have w2:Cf ((1:Int)+1)=2:=by decide
 have w3:Cf ((2:Int)+1)=3:=by decide
 have s11:p.s1.2.1=r.sl.length:=by rw[f1]
 have s12:p.s1.2.2=r.sl.length:=by rw[f1]
 have s21:p.s2.2.1=r.gl.length:=by rw[f2]
 have s22:p.s2.2.2=r.gl.length:=by rw[f2]
 have s31:p.s3.2.1=r.qu.length:=by rw[f3]
 have s32:p.s3.2.2=r.qu.length:=by rw[f3]
 rw[show ((0:Nat):Int)=0 from rfl] at e1 e2 e3
 have eL:C9 (k+4) (k+4) (.func (.yield (σ.length+2)) #[] #[]) (σ.length+3) ((3:Nat):Int) 0 (μ++[O4])=some (.exit 0,[],μ3):=by
  obtain ⟨a1,_,_⟩:=ld4 _ c4
  obtain ⟨_,a2,_⟩:=ld4 _ d1
  obtain ⟨_,_,a3⟩:=ld4 _ d2
  rw[Eo,Dq]
  simp only[sw,Ad,Af,Ae,show decide ((0:Int)<((3:Nat):Int))=true from rfl,cond_true,show ((0:Int)≤0∧(0:Int)<((3:Nat):Int))=True from by simp,if_true,Int.toNat_zero,Nat.zero_mul,Nat.zero_add,a1,Option.bind_some,s11,s12,e1,w1]
  rw[Eo,Dq]
  simp only[sw,Ad,Af,Ae,show decide ((1:Int)<((3:Nat):Int))=true from rfl,cond_true,show ((0:Int)≤1∧(1:Int)<((3:Nat):Int))=True from by simp,if_true,show (1:Int).toNat=1 from rfl,Nat.mul_one,Nat.zero_add,a2,Option.bind_some,s21,s22,e2,w2]
  rw[Eo,Dq]
  simp only[sw,Ad,Af,Ae,show decide ((2:Int)<((3:Nat):Int))=true from rfl,cond_true,show ((0:Int)≤2∧(2:Int)<((3:Nat):Int))=True from by simp,if_true,show (2:Int).toNat=2 from rfl,Nat.mul_one,Nat.zero_add,a3,Option.bind_some,s31,s32,e3,w3]
  rw[Eo,Dq]
  simp only[sw,Ad,Af,Ae,show decide ((3:Int)<((3:Nat):Int))=false from rfl,cond_false]
 obtain ⟨s,hbox,hli,hnew⟩:=S3.box
 have hrc:=S3.rc
 have len3:μ.length+1≤μ3.length:=by
  have g1:=F1.len
  have g2:=F2.len
  have g3:=F3.len
  simp at g1
  omega
 obtain ⟨τ,hτ⟩:∃ τ,μ3.set (σ.length+2) .dead=σ++τ:=by
  refine Se (by simp; omega) fun q hq=>?_
  rw[List.getElem?_set_ne (by omega),F3.same q (by omega) (by omega),F2.same q (by omega) (by omega),F1.same q (by omega) (by omega),hμ',List.append_assoc,List.getElem?_append_left hq]
 refine ⟨τ,s, ?_, ?_,fun b hb=>by have:=hnew b hb; omega⟩
 ·rw[lm]
  simp only[eL,if_true,Option.bind_some]
  unfold VD
  rw[hrc]
  have:Hx (μ3.set (σ.length+2) .dead) σ.length 0=some (s.1,s.2.1,s.2.2):=by
   simp only[Hx,Gi]
   rw[List.getElem?_set_ne (by omega),hbox]
   rfl
  rw[hτ] at this
  simp only[if_true,hτ,this,Option.bind_some]
 ·rw[← hτ]
  exact hli.AG fun q hq=>List.getElem?_set_ne (by have:=hnew q hq; omega)
end Go.Proofs.YtjbledomkmdkmaaGreat
end
section
namespace Go.Proofs.YtjbledomkmdkmaaGreat
open Go Go.AX
noncomputable local instance qGH:A9:=Aw
local instance nGH:Kn:=⟨true⟩
variable {σ:Aa} {m:HM} {r:K4} {s:TC} {i:DD} {p:PI}
structure CI where
 cb:Nat
 tb:Nat
 wb:Nat
 ls:Ce
 lf:Ce
def CI.l (c:CI):List Nat:=c.cb::c.tb::c.wb::(hs c.ls++hs c.lf)
structure Aj6 (c:CI):Prop where
 ab:c.cb≠c.tb
 ac:c.cb≠c.wb
 bc:c.tb≠c.wb
 al:∀ q ∈ hs c.ls,q≠c.cb∧q≠c.tb∧q≠c.wb∧q ∉ hs c.lf
 ar:∀ q ∈ hs c.lf,q≠c.cb∧q≠c.tb∧q≠c.wb
def Hh (c:CI) (hb rb:Nat) (s:TC):List Value:=[.pointer (some ⟨hb,0,none⟩),.pointer (some ⟨rb,0,none⟩),.bool s.look,.int .i64 s.born,.int .i64 s.ph,.pointer (some ⟨c.tb,0,none⟩),.slice c.ls.1 c.ls.2.1 c.ls.2.2,.slice c.lf.1 c.lf.2.1 c.lf.2.2,.int .i64 s.freed]
structure Gq (σ:Aa) (c:CI) (hb rb nb:Nat) (s:TC):Prop where
 cell:σ[c.cb]?=some (.cells (Hh c hb rb s) HS true)
 tab:DU σ c.tb c.wb (32*nb) 2 s.ws
 ls:B6 σ c.ls s.list
 lf:B6 σ c.lf s.left
 sep:Aj6 c
variable {c:CI} {hb rb nb:Nat}
abbrev Hy (c:CI):Option Addr:=some ⟨c.cb,0,none⟩
theorem CI.m0 (c:CI):c.cb ∈ c.l:=List.mem_cons_self
theorem CI.m1 (c:CI):c.tb ∈ c.l:=List.mem_cons_of_mem _ List.mem_cons_self
theorem CI.m2 (c:CI):c.wb ∈ c.l:=List.mem_cons_of_mem _ (List.mem_cons_of_mem _ List.mem_cons_self)
theorem CI.m3 (c:CI) {q:Nat} (h:q ∈ hs c.ls):q ∈ c.l:=List.mem_cons_of_mem _ (List.mem_cons_of_mem _ (List.mem_cons_of_mem _ (List.mem_append.2 (.inl h))))
theorem CI.m4 (c:CI) {q:Nat} (h:q ∈ hs c.lf):q ∈ c.l:=List.mem_cons_of_mem _ (List.mem_cons_of_mem _ (List.mem_cons_of_mem _ (List.mem_append.2 (.inr h))))
theorem CI.mem {c:CI} {q:Nat} (h:q ∈ c.l):q=c.cb∨q=c.tb∨q=c.wb∨q ∈ hs c.ls∨q ∈ hs c.lf:=by
 unfold CI.l at h
 simp only[List.mem_cons,List.mem_append] at h
 exact h
theorem Gq.AG {σ':Aa} (h:Gq σ c hb rb nb s) (hq:∀ q ∈ c.l,σ'[q]?=σ[q]?):Gq σ' c hb rb nb s:=
 ⟨(hq _ c.m0).trans h.cell,h.tab.same (hq _ c.m1) (hq _ c.m2),h.ls.AG fun b hb=>hq b (c.m3 hb),h.lf.AG fun b hb=>hq b (c.m4 hb),h.sep⟩
theorem Gq.lt (h:Gq σ c hb rb nb s):∀ q ∈ c.l,q<σ.length:=by
 intro q hq
 rcases CI.mem hq with rfl | rfl | rfl | hq | hq
 ·exact Al h.cell
 ·exact h.tab.lt.1
 ·exact h.tab.lt.2
 ·exact h.ls.lt q hq
 ·exact h.lf.lt q hq
theorem Gq.app (h:Gq σ c hb rb nb s) (τ:Aa):Gq (σ++τ) c hb rb nb s:=h.AG fun q hq=>List.getElem?_append_left (h.lt q hq)
theorem Gq.K2 (h:Gq σ c hb rb nb s):L8 σ c.cb 0=some (some ⟨hb,0,none⟩):=by simp[L8,Gi,h.cell,Hh,NJ]
theorem Gq.GJ (h:Gq σ c hb rb nb s):L8 σ c.cb 1=some (some ⟨rb,0,none⟩):=by simp[L8,Gi,h.cell,Hh,NJ]
theorem Gq.kr (h:Gq σ c hb rb nb s):lO σ c.cb 2=some s.look:=by simp[lO,Gi,h.cell,Hh,Ez]
theorem Gq.ld4 (h:Gq σ c hb rb nb s):Dg .i64 σ c.cb 4=some s.ph:=by simp[Dg,Gi,h.cell,Hh,Ml]
theorem Gq.ld5 (h:Gq σ c hb rb nb s):L8 σ c.cb 5=some (some ⟨c.tb,0,none⟩):=by simp[L8,Gi,h.cell,Hh,NJ]
theorem Gq.ld6 (h:Gq σ c hb rb nb s):Hx σ c.cb 6=some (c.ls.1,s.list.length,s.list.length):=by
 have:=h.ls.form
 have e1:c.ls.2.1=s.list.length:=by rw[this]
 have e2:c.ls.2.2=s.list.length:=by rw[this]
 simp[Hx,Gi,h.cell,Hh,H7,e1,e2]
theorem Gq.ld7 (h:Gq σ c hb rb nb s):Hx σ c.cb 7=some (c.lf.1,s.left.length,s.left.length):=by
 have:=h.lf.form
 have e1:c.lf.2.1=s.left.length:=by rw[this]
 have e2:c.lf.2.2=s.left.length:=by rw[this]
 simp[Hx,Gi,h.cell,Hh,H7,e1,e2]
theorem Gq.ld8 (h:Gq σ c hb rb nb s):Dg .i64 σ c.cb 8=some s.freed:=by simp[Dg,Gi,h.cell,Hh,Ml]
theorem Gq.nc {μ:Aa} {c c':CI} {s':TC} (htb:c'.tb=c.tb) (hwb:c'.wb=c.wb) (hcb:c'.cb=c.cb) (hl:c.cb<μ.length) (tab:DU μ c'.tb c'.wb (32*nb) 2 s'.ws) (ls:B6 μ c'.ls s'.list) (lf:B6 μ c'.lf s'.left) (sep:Aj6 c'):Gq (μ.set c.cb (.cells (Hh c' hb rb s') HS true)) c' hb rb nb s':=by
 refine ⟨by rw[hcb,List.getElem?_set_self hl],tab.same ?_ ?_,ls.AG fun q hq=>?_,lf.AG fun q hq=>?_,sep⟩
 ·rw[← hcb]; exact List.getElem?_set_ne sep.ab
 ·rw[← hcb]; exact List.getElem?_set_ne sep.ac
 ·rw[← hcb]; exact List.getElem?_set_ne (sep.al q hq).1.symm
 ·rw[← hcb]; exact List.getElem?_set_ne (sep.ar q hq).1.symm
theorem Gq.Ae7 (h:Gq σ c hb rb nb s) (v:Int):∃ σ',K3 σ c.cb 4 (.int .i64 v)=some σ'∧Gq σ' c hb rb nb { s with ph:=v }∧Mv c.l c.l σ σ':=by
 refine ⟨σ.set c.cb (.cells (Hh c hb rb { s with ph:=v }) HS true),by simp[K3,h.cell,Hh],Gq.nc rfl rfl rfl (Al h.cell) h.tab h.ls h.lf h.sep,Mv.set _ _ c.m0⟩
theorem Gq.wz (h:Gq σ c hb rb nb s) (v:Int):∃ σ',K3 σ c.cb 8 (.int .i64 v)=some σ'∧Gq σ' c hb rb nb { s with freed:=v }∧Mv c.l c.l σ σ':=by
 refine ⟨σ.set c.cb (.cells (Hh c hb rb { s with freed:=v }) HS true),by simp[K3,h.cell,Hh],Gq.nc rfl rfl rfl (Al h.cell) h.tab h.ls h.lf h.sep,Mv.set _ _ c.m0⟩
theorem CI.Akz {c:CI} {s':Ce} {L:List Nat} {a b:Aa} (h:Mv L (hs s') a b) (hL:∀ q ∈ L,q ∈ c.l):Mv c.l ({ c with ls:=s' }:CI).l a b:=
 h.wide hL fun q hq=>by
  rcases CI.mem hq with rfl | rfl | rfl | hq | hq
  ·exact .inl c.m0
  ·exact .inl c.m1
  ·exact .inl c.m2
  ·exact .inr (.inl hq)
  ·exact .inl (c.m4 hq)
theorem CI.Aky {c:CI} {s':Ce} {L:List Nat} {a b:Aa} (h:Mv L (hs s') a b) (hL:∀ q ∈ L,q ∈ c.l):Mv c.l ({ c with lf:=s' }:CI).l a b:=
 h.wide hL fun q hq=>by
  rcases CI.mem hq with rfl | rfl | rfl | hq | hq
  ·exact .inl c.m0
  ·exact .inl c.m1
  ·exact .inl c.m2
  ·exact .inl (c.m3 hq)
  ·exact .inr (.inl hq)
theorem Gq.zx {μ:Aa} (h:Gq σ c hb rb nb s) {s':Ce} {l':List Int} {L:List Nat} (hL:∀ q ∈ L,q ∈ hs c.ls) (hm:Mv L (hs s') σ μ) (hl:B6 μ s' l'):
  ∃ σ',K3 μ c.cb 6 (.slice s'.1 s'.2.1 s'.2.2)=some σ'∧Gq σ' { c with ls:=s' } hb rb nb { s with list:=l' }∧Mv c.l ({ c with ls:=s' }:CI).l σ σ':=by
 have lt:=h.lt
 have hn:∀ q ∈ L,q≠c.cb∧q≠c.tb∧q≠c.wb∧q ∉ hs c.lf:=fun q hq=>h.sep.al q (hL q hq)
 have cell:μ[c.cb]?=_:=hm.SB h.cell fun hm'=>(hn _ hm').1 rfl
 have new:∀ q ∈ hs s',q ∈ hs c.ls∨σ.length≤q:=fun q hq=>(hm.new q hq).imp (hL q) id
 refine ⟨μ.set c.cb (.cells (Hh { c with ls:=s' } hb rb { s with list:=l' }) HS true),by simp[K3,cell,Hh], ?_,(CI.Akz hm fun q hq=>c.m3 (hL q hq)).trans (Mv.set _ _ (CI.m0 { c with ls:=s' }))⟩
 refine Gq.nc (c:=c) rfl rfl rfl (Al cell) (h.tab.same (hm.same _ h.tab.lt.1 fun hm'=>(hn _ hm').2.1 rfl) (hm.same _ h.tab.lt.2 fun hm'=>(hn _ hm').2.2.1 rfl)) hl (h.lf.AG fun q hq=>hm.same q (h.lf.lt q hq) fun hm'=>(hn q hm').2.2.2 hq) ⟨h.sep.ab,h.sep.ac,h.sep.bc,fun q hq=>?_,h.sep.ar⟩
 rcases new q hq with h1 | h1
 ·exact h.sep.al q h1
 ·refine ⟨?_, ?_, ?_, ?_⟩
  ·have:=lt _ c.m0; intro e; have e:q=c.cb:=e; omega
  ·have:=lt _ c.m1; intro e; have e:q=c.tb:=e; omega
  ·have:=lt _ c.m2; intro e; have e:q=c.wb:=e; omega
  ·intro hm'; have:=h.lf.lt q hm'; omega
theorem Gq.zw {μ:Aa} (h:Gq σ c hb rb nb s) {s':Ce} {l':List Int} {L:List Nat} (hL:∀ q ∈ L,q ∈ hs c.lf) (hm:Mv L (hs s') σ μ) (hl:B6 μ s' l'):
  ∃ σ',K3 μ c.cb 7 (.slice s'.1 s'.2.1 s'.2.2)=some σ'∧Gq σ' { c with lf:=s' } hb rb nb { s with left:=l' }∧Mv c.l ({ c with lf:=s' }:CI).l σ σ':=by
 have lt:=h.lt
 have hn:∀ q ∈ L,q≠c.cb∧q≠c.tb∧q≠c.wb∧q ∉ hs c.ls:=fun q hq=>⟨(h.sep.ar q (hL q hq)).1,(h.sep.ar q (hL q hq)).2.1,(h.sep.ar q (hL q hq)).2.2,fun hm'=>(h.sep.al q hm').2.2.2 (hL q hq)⟩
 have cell:μ[c.cb]?=_:=hm.SB h.cell fun hm'=>(hn _ hm').1 rfl
 have new:∀ q ∈ hs s',q ∈ hs c.lf∨σ.length≤q:=fun q hq=>(hm.new q hq).imp (hL q) id
 refine ⟨μ.set c.cb (.cells (Hh { c with lf:=s' } hb rb { s with left:=l' }) HS true),by simp[K3,cell,Hh], ?_,(CI.Aky hm fun q hq=>c.m4 (hL q hq)).trans (Mv.set _ _ (CI.m0 { c with lf:=s' }))⟩
 refine Gq.nc (c:=c) rfl rfl rfl (Al cell) (h.tab.same (hm.same _ h.tab.lt.1 fun hm'=>(hn _ hm').2.1 rfl) (hm.same _ h.tab.lt.2 fun hm'=>(hn _ hm').2.2.1 rfl)) (h.ls.AG fun q hq=>hm.same q (h.ls.lt q hq) fun hm'=>(hn q hm').2.2.2 hq) hl ⟨h.sep.ab,h.sep.ac,h.sep.bc,fun q hq=>?_,fun q hq=>?_⟩
 ·obtain ⟨a1,a2,a3,a4⟩:=h.sep.al q hq
  refine ⟨a1,a2,a3,fun hm'=>?_⟩
  rcases new q hm' with h1 | h1
  ·exact a4 h1
  ·have:=h.ls.lt q hq; omega
 ·rcases new q hq with h1 | h1
  ·exact h.sep.ar q h1
  ·refine ⟨?_, ?_, ?_⟩
   ·have:=lt _ c.m0; intro e; have e:q=c.cb:=e; omega
   ·have:=lt _ c.m1; intro e; have e:q=c.tb:=e; omega
   ·have:=lt _ c.m2; intro e; have e:q=c.wb:=e; omega
theorem Gq.Ae9 {σ':Aa} {ws:List (BitVec 64)} (h:Gq σ c hb rb nb s) (ht:DU σ' c.tb c.wb (32*nb) 2 ws) (hm:Mv [c.tb,c.wb] [c.tb,c.wb] σ σ'):Gq σ' c hb rb nb { s with ws:=ws }∧Mv c.l c.l σ σ':=by
 have hn:∀ q,q≠c.tb→q≠c.wb→q ∉ [c.tb,c.wb]:=fun q h1 h2 hq=>by simp at hq; exact hq.elim h1 h2
 refine ⟨⟨hm.SB h.cell (hn _ h.sep.ab h.sep.ac),ht,h.ls.AG fun q hq=>hm.same q (h.ls.lt q hq) (hn _ (h.sep.al q hq).2.1 (h.sep.al q hq).2.2.1),h.lf.AG fun q hq=>hm.same q (h.lf.lt q hq) (hn _ (h.sep.ar q hq).2.1 (h.sep.ar q hq).2.2),h.sep⟩,hm.wide (fun q hq=>?_) fun q hq=>.inl hq⟩
 simp at hq
 rcases hq with rfl | rfl
 ·exact c.m1
 ·exact c.m2
theorem Ald (a:Addr):Od P WQ (.pointer (some a)) (.pointer none)=some false:=by kernel_rfl
theorem Alf (a:Addr):Od P FL (.pointer (some a)) (.pointer none)=some false:=by kernel_rfl
theorem Yb (k:Nat) (h:Gq σ c hb rb nb s):A8 (k+1) (Hy c) σ=some (.bool true,σ):=by
 rw[V9,O7]
 simp only[sw,Ad,Af,Ae,Ald,Option.bind_some,Bool.not_false,cond_true,Nat.zero_add,Nat.add_zero,h.K2,Alf]
theorem Ah9 (k:Nat) (h:Gq σ c hb rb nb s) {j:Nat} (hj:j<32*nb):Cn (k+4) (Hy c) ((2*j:Nat):Int) σ=some (.int .i64 (Ec 2 s.ws j:Int),σ):=by
 have ht:=h.tab.top
 have e1:((2*j:Nat):Int).tdiv 2=(j:Int):=by
  rw[show ((2:Int))=((2:Nat):Int) from rfl,sJ]; congr 1; omega
 have e2:Cf (j:Int)=(j:Int):=Ak (by unfold AU; omega)
 rw[Yj,Sz]
 simp only[sw,Ad,Af,Ae,Option.bind_some,Nat.zero_add,Nat.add_zero,h.ld5,show ((2:Int)=0)=False from by simp,if_false,e1,e2,wQ k h.tab,Aj]
 rw[if_pos (by omega),Int.toNat_natCast]
theorem Aei (k:Nat) (h:Gq σ c hb rb m.bls.length s) {a:Int} (ha:Ea m a=true):Cn (k+4) (Hy c) a σ=some (.int .i64 (tz s a:Int),σ):=by
 obtain ⟨j,rfl,hs⟩:=Ek ha
 rw[Ah9 k h hs.1]
 unfold tz
 rw[show ((2*j:Nat):Int).toNat/2=j from by omega]
theorem vM (k:Nat) (h:Gq σ c hb rb nb s) {j v:Nat} (hj:j<32*nb) (hv:v<4):∃ σ',Cp (k+10) (Hy c) ((2*j:Nat):Int) (v:Int) σ=some (.tuple #[],σ')∧Gq σ' c hb rb nb (gG s ((2*j:Nat):Int) v)∧Mv c.l c.l σ σ':=by
 have ht:=h.tab.top
 have e1:((2*j:Nat):Int).tdiv 2=(j:Int):=by
  rw[show ((2:Int))=((2:Nat):Int) from rfl,sJ]; congr 1; omega
 have e2:Cf (j:Int)=(j:Int):=Ak (by unfold AU; omega)
 obtain ⟨τ,es⟩:=nQ k h.tab hj (v:=v) hv
 have hp:=(h.tab.app τ).put h.sep.bc j v
 obtain ⟨h',m'⟩:=h.Ae9 hp (((Mv.app [c.wb] σ τ).trans (Mv.set _ _ (List.mem_singleton.2 rfl))).wide (fun q hq=>List.mem_cons_of_mem _ hq) fun q hq=>.inl hq)
 refine ⟨_, ?_, ?_,m'⟩
 ·rw[Uj,Na]
  simp only[sw,Ad,Af,Ae,Option.bind_some,Nat.zero_add,Nat.add_zero,h.ld5,show ((2:Int)=0)=False from by simp,if_false,e1,e2,es,Aj]
 ·unfold gG
  rw[show ((2*j:Nat):Int).toNat/2=j from by omega]
  exact h'
end Go.Proofs.YtjbledomkmdkmaaGreat
end
section
namespace Go.Proofs.YtjbledomkmdkmaaGreat
open Go Go.AX
noncomputable local instance qGE:A9:=Aw
local instance nGE:Kn:=⟨true⟩
variable {σ:Aa} {m:HM} {s:TC} {nb:Nat}
structure MK (m:HM):Prop where
 inv:Inv m
 inv2:Inv2 m
 sh:Sh m
 fz:FZ m
 b0:B0 m
 nb:2≤m.bls.length
 nt:m.bls.length≤64
theorem MK.new {n:Nat} (h2:2≤n) (h:n≤64):MK (My n):=⟨Inv.new n,Inv2.new n,⟨by simp[My],by simp[My]; omega,by simp[My]; omega⟩,FZ.new n,B0.new n,by simp[My]; omega,by simp[My]; omega⟩
theorem MK.rD (h:MK m) (b c x y x' y':Int) (hx:x≠0) (hx':x'≠0∨c=1):MK (De m b c x y x' y').2:=by
 have k:=lJ h.inv h.inv2 b c x y x' y'
 obtain ⟨e1,e2,e3,_⟩:=gk m b c x y x' y'
 have e4:(De m b c x y x' y').2.pnw=m.pnw:=by
  unfold De
  split
  ·split <;> rfl
  ·rfl
 exact ⟨k.inv,k.inv2,⟨by rw[e1,e3]; exact h.sh.wl,by rw[e2,e3]; exact h.sh.sl,by rw[e4,e3]; exact h.sh.pl⟩,Aam h.fz _ _ _ _ _ _ hx hx',(jT m b c x y x' y').trans h.b0,by rw[e3]; exact h.nb,by rw[e3]; exact h.nt⟩
theorem MK.setRef (h:MK m) (a x v:Int):MK (EK m a x v).2:=by
 have k:=ub h.inv h.inv2 a x v
 obtain ⟨e1,e2,_,_,e5⟩:=XB m a x v
 have e6:(EK m a x v).2.wds.length=m.wds.length:=by
  unfold EK
  split
  ·split
   ·rfl
   ·show (m.wds.set _ _).length=_; rw[List.length_set]
  ·rfl
 exact ⟨k.inv,k.inv2,⟨by rw[e6,e1]; exact h.sh.wl,by rw[e2,e1]; exact h.sh.sl,by rw[e5,e1]; exact h.sh.pl⟩,tG h.fz e1,by unfold B0; rw[e1]; exact h.b0,by rw[e1]; exact h.nb,by rw[e1]; exact h.nt⟩
theorem MK.lU (h:MK m) (a:Int) (v:Nat):MK (QD m a v).2:=by
 have k:=Abj h.inv h.inv2 a v
 obtain ⟨e1,e2,e3,_⟩:=kB m a v
 have e4:(QD m a v).2.pnw.length=m.pnw.length:=by
  unfold QD; split
  ·exact Hg _ _ _ _
  ·rfl
 exact ⟨k.inv,k.inv2,⟨by rw[e3,e1]; exact h.sh.wl,by rw[e2,e1]; exact h.sh.sl,by rw[e4,e1]; exact h.sh.pl⟩,tG h.fz e1,by unfold B0; rw[e1]; exact h.b0,by rw[e1]; exact h.nb,by rw[e1]; exact h.nt⟩
theorem WL (h:Inv m) (hS:Sh m) (a:Int):(Kv m a).2.bls=m.bls∧(Kv m a).2.stw.length=m.stw.length∧(Kv m a).2.pnw.length=m.pnw.length∧(Kv m a).2.wds.length=m.wds.length∧(Kv m a).2.fw=m.fw∧(Kv m a).2.births=m.births:=by
 unfold Kv
 cases hh:Ea m a with
 | false=>exact ⟨rfl,rfl,rfl,rfl,rfl,rfl⟩
 | true=>
   obtain ⟨j,rfl,hs⟩:=Ek hh
   rw[if_pos rfl,show ((2*j:Nat):Int).toNat/2=j from by omega]
   refine ⟨rfl,Hg _ _ _ _,Hg _ _ _ _, ?_,rfl,rfl⟩
   show (VS _ _ _).length=_
   have:=h.fit j hs
   rw[PN (by simp; omega)]
theorem MK.kill (h:MK m) (a:Int):MK (Kv m a).2:=by
 have k:=xN h.inv h.inv2 h.sh a
 obtain ⟨e1,e2,e3,e4,_⟩:=WL h.inv h.sh a
 exact ⟨k.inv,k.inv2,⟨by rw[e4,e1]; exact h.sh.wl,by rw[e2,e1]; exact h.sh.sl,by rw[e3,e1]; exact h.sh.pl⟩,tG h.fz e1,by unfold B0; rw[e1]; exact h.b0,by rw[e1]; exact h.nb,by rw[e1]; exact h.nt⟩
theorem py (m:HM) (b:Int):(DJ m b).2.wds=m.wds∧(DJ m b).2.stw=m.stw∧(DJ m b).2.pnw=m.pnw∧(DJ m b).2.fw=m.fw∧(DJ m b).2.births=m.births∧B0 m→B0 (DJ m b).2:=by
 intro hb
 have h0:=hb.2.2.2.2.2
 unfold DJ
 split
 ·split
  ·unfold B0
   show ((px _ _ _).getD 0 (0,0)).1=0
   rw[Y3]
   split
   ·rfl
   ·exact h0
  ·exact h0
 ·exact h0
theorem qR (m:HM) (b:Int):(DJ m b).2.wds=m.wds∧(DJ m b).2.stw=m.stw∧(DJ m b).2.pnw=m.pnw∧(DJ m b).2.fw=m.fw∧(DJ m b).2.births=m.births:=by
 unfold DJ
 split
 ·split <;> exact ⟨rfl,rfl,rfl,rfl,rfl⟩
 ·exact ⟨rfl,rfl,rfl,rfl,rfl⟩
theorem MK.release (h:MK m) (b:Int):MK (DJ m b).2:=by
 have k:=fG h.inv h.inv2 b
 obtain ⟨e1,e2,e3,e4,e5⟩:=qR m b
 exact ⟨k.inv,k.inv2,⟨by rw[e1,k.len]; exact h.sh.wl,by rw[e2,k.len]; exact h.sh.sl,by rw[e3,k.len]; exact h.sh.pl⟩,vV h.fz b,py m b ⟨e1,e2,e3,e4,e5,h.b0⟩,by rw[k.len]; exact h.nb,by rw[k.len]; exact h.nt⟩
theorem cM (m:HM) (a r d c:Int):(Hc m a r d c).2.2.bls=m.bls∧(Hc m a r d c).2.2.pnw=m.pnw∧(Hc m a r d c).2.2.fw=m.fw∧(Hc m a r d c).2.2.wds.length=m.wds.length∧(Hc m a r d c).2.2.stw.length=m.stw.length:=by
 unfold Hc
 split
 ·split
  ·exact ⟨rfl,rfl,rfl,by show ((m.wds.set _ _).set _ _).length=_; rw[List.length_set,List.length_set],Hg _ _ _ _⟩
  ·exact ⟨rfl,rfl,rfl,rfl,rfl⟩
 ·exact ⟨rfl,rfl,rfl,rfl,rfl⟩
theorem MK.place (h:MK m) (a r d c:Int):MK (Hc m a r d c).2.2:=by
 have k:=vO h.inv h.inv2 h.sh a r d c
 obtain ⟨e1,e2,_,e4,e5⟩:=cM m a r d c
 exact ⟨k.inv,k.inv2,⟨by rw[e4,e1]; exact h.sh.wl,by rw[e5,e1]; exact h.sh.sl,by rw[e2,e1]; exact h.sh.pl⟩,tG h.fz e1,by unfold B0; rw[e1]; exact h.b0,by rw[e1]; exact h.nb,by rw[e1]; exact h.nt⟩
def qB (f:Nat→Bool) (n:Nat):Nat:=((List.range n).filter f).length
theorem dC (f:Nat→Bool) (n:Nat):qB f (n+1)=qB f n+(if f n then 1 else 0):=by
 unfold qB
 rw[List.range_succ,List.filter_append,List.length_append]
 cases hf:f n <;> simp[hf]
theorem Agj (f:Nat→Bool) (n:Nat):qB f n≤n:=by
 unfold qB
 have:=List.length_filter_le f (List.range n)
 rwa [List.length_range] at this
theorem jV {f g:Nat→Bool}:∀ n,(∀ i,i<n→f i=true→g i=true)→qB f n≤qB g n
 | 0,_=>Nat.le_refl _
 | n+1,h=>by
   rw[dC,dC]
   have:=jV n fun i hi=>h i (by omega)
   have:=h n (by omega)
   cases hf:f n <;> cases hg:g n <;> simp_all <;> omega
theorem yZ {f g:Nat→Bool} {j:Nat}:∀ n,j<n→(∀ i,i<n→f i=true→g i=true)→f j=false→g j=true→qB f n+1≤qB g n
 | 0,h,_,_,_=>by omega
 | n+1,h,hm,h1,h2=>by
   rw[dC,dC]
   by_cases e:j=n
   ·subst e
    have:=jV j fun i hi=>hm i (by omega)
    rw[h1,h2]; simp; omega
   ·have:=yZ n (by omega) (fun i hi=>hm i (by omega)) h1 h2
    have:=hm n (by omega)
    cases hf:f n <;> cases hg:g n <;> simp_all <;> omega
def Aan (nb:Nat) (ws:List (BitVec 64)):Nat:=qB (fun j=>decide (Ec 2 ws j≠0)) (32*nb)
theorem sj {ws:List (BitVec 64)} (hl:ws.length=(32*nb*2+63)/64) {j v:Nat} (hj:j<32*nb) (hv:v<4) (y:Nat):Ec 2 (GR 2 ws j v) y=if y=j then v else Ec 2 ws y:=by
 by_cases e:y=j
 ·subst e
  rw[if_pos rfl,Fo (.inr (.inl rfl)) hv (by omega)]
 ·rw[if_neg e,Ca (.inr (.inl rfl)) hv (Ne.symm e)]
theorem rF {ws:List (BitVec 64)} (hl:ws.length=(32*nb*2+63)/64) {j v:Nat} (hj:j<32*nb) (hv:v<4) (h0:v≠0):Aan nb ws≤Aan nb (GR 2 ws j v)∧(Ec 2 ws j=0→Aan nb ws+1≤Aan nb (GR 2 ws j v)):=by
 have key:∀ i,i<32*nb→decide (Ec 2 ws i≠0)=true→decide (Ec 2 (GR 2 ws j v) i≠0)=true:=fun i _ h=>by
  rw[sj hl hj hv]
  split
  ·exact decide_eq_true h0
  ·exact h
 refine ⟨jV _ key,fun hz=>yZ _ hj key ?_ ?_⟩
 ·simp[hz]
 ·rw[sj hl hj hv,if_pos rfl]; exact decide_eq_true h0
structure uL (nb:Nat) (s:TC):Prop where
 wl:s.ws.length=(32*nb*2+63)/64
 ls:s.list.length≤Aan nb s.ws
 lr:∀ v ∈ s.list,0≤v∧v<4096
 lf:s.left.length≤64
 l0:s.ph≠2→s.left=[]
 s2:s.ph=2→s.list=[]
theorem uL.len (h:uL nb s):s.list.length≤32*nb:=Nat.le_trans h.ls (Agj _ _)
theorem uL.Aia (h:uL nb s) {j v:Nat} (hj:j<32*nb) (hv:v<4) (h0:v≠0):uL nb (gG s ((2*j:Nat):Int) v):=by
 have e:((2*j:Nat):Int).toNat/2=j:=by omega
 unfold gG
 rw[e]
 exact ⟨by rw[← h.wl]; exact Hg _ _ _ _,Nat.le_trans h.ls (rF h.wl hj hv h0).1,h.lr,h.lf,h.l0,h.s2⟩
theorem uL.Akt (h:uL m.bls.length s) (hn:m.bls.length≤64) (hp:s.ph≠2) (a:Int):uL m.bls.length (Rf m s a):=by
 unfold Rf
 split
 ·rename_i hc
  obtain ⟨j,rfl,hs⟩:=Ek hc.1
  have e:((2*j:Nat):Int).toNat/2=j:=by omega
  have hz:=hc.2
  unfold tz at hz
  rw[e] at hz
  have hj:=hs.1
  have:=h.Aia hj (v:=1) (by decide) (by decide)
  refine ⟨this.wl, ?_,fun v hv=>?_,h.lf,h.l0,fun e=>absurd e hp⟩
  ·show (s.list++_).length≤Aan _ (GR 2 s.ws _ 1)
   rw[e,List.length_append]
   have:=(rF h.wl hj (v:=1) (by decide) (by decide)).2 hz
   have:=h.ls
   simp
   omega
  ·rcases List.mem_append.1 hv with hv | hv
   ·exact h.lr v hv
   ·rw[List.mem_singleton.1 hv]; omega
 ·exact h
theorem dO (m:HM) (s:TC) (a:Int):(Rf m s a).ph=s.ph∧(Rf m s a).left=s.left∧(Rf m s a).look=s.look∧(Rf m s a).freed=s.freed∧(Rf m s a).born=s.born:=by
 unfold Rf; split <;> exact ⟨rfl,rfl,rfl,rfl,rfl⟩
theorem gS (m:HM):∀ (l:List Int) (s:TC),(JW m s l).ph=s.ph∧(JW m s l).left=s.left∧(JW m s l).look=s.look∧(JW m s l).freed=s.freed∧(JW m s l).born=s.born
 | [],s=>⟨rfl,rfl,rfl,rfl,rfl⟩
 | a::l,s=>by
   obtain ⟨h1,h2,h3,h4,h5⟩:=gS m l (Rf m s a)
   obtain ⟨g1,g2,g3,g4,g5⟩:=dO m s a
   exact ⟨h1.trans g1,h2.trans g2,h3.trans g3,h4.trans g4,h5.trans g5⟩
end Go.Proofs.YtjbledomkmdkmaaGreat
end
section
namespace Go.Proofs.YtjbledomkmdkmaaGreat
open Go Go.AX
noncomputable local instance qGI:A9:=Aw
local instance nGI:Kn:=⟨true⟩
variable {σ:Aa} {m:HM} {r:K4} {s:TC} {i:DD} {p:PI} {c:CI}
structure RC (σ:Aa) (i:DD) (p:PI) (c:CI) (m:HM) (r:K4) (s:TC):Prop where
 h:An σ i m
 mo:MK m
 rt:Mj σ p r
 co:Gq σ c i.hb p.rb m.bls.length s
 fp:Fp σ [i.l,p.l,c.l]
 tok:uL m.bls.length s
theorem RC.app (T:RC σ i p c m r s) (τ:Aa):RC (σ++τ) i p c m r s:=⟨T.h.app τ,T.mo,T.rt.app τ,T.co.app τ,T.fp.app τ,T.tok⟩
theorem RC.Zs {σ':Aa} {c':CI} {s':TC} (T:RC σ i p c m r s) (h':Gq σ' c' i.hb p.rb m.bls.length s') (hm:Mv c.l c'.l σ σ') (tk:uL m.bls.length s'):RC σ' i p c' m r s':=by
 obtain ⟨f,k,_⟩:=T.fp.step 2 (by simp) hm h'.lt
 exact ⟨T.h.AG (k 0 (by simp) (by decide)),T.mo,T.rt.AG (k 1 (by simp) (by decide)),h',f,tk⟩
theorem RC.Ad1 {σ':Aa} {m':HM} (T:RC σ i p c m r s) (h':An σ' i m') (hm:Bu i σ σ') (mo:MK m') (hl:m'.bls.length=m.bls.length):RC σ' i p c m' r s:=by
 obtain ⟨f,k,_⟩:=T.fp.step 0 (by simp) hm.mv h'.lt
 refine ⟨h',mo,T.rt.AG (k 1 (by simp) (by decide)), ?_,f,by rw[hl]; exact T.tok⟩
 rw[hl]
 exact T.co.AG (k 2 (by simp) (by decide))
theorem RC.AG {σ':Aa} (T:RC σ i p c m r s) (hl:σ.length≤σ'.length) (h1:∀ q ∈ i.l,σ'[q]?=σ[q]?) (h2:∀ q ∈ p.l,σ'[q]?=σ[q]?) (h3:∀ q ∈ c.l,σ'[q]?=σ[q]?):RC σ' i p c m r s:=
 ⟨T.h.AG h1,T.mo,T.rt.AG h2,T.co.AG h3,⟨T.fp.dj,fun L hL q hq=>Nat.lt_of_lt_of_le (T.fp.lt L hL q hq) hl⟩,T.tok⟩
theorem nR (k:Nat) (T:RC σ i p c m r s) (hp:s.ph≠2) (a:Int) (ha:AU a):∃ σ' c',Bs (k+11) (Hy c) a σ=some (.tuple #[],σ')∧RC σ' i p c' m r (Rf m s a)∧Mv c.l c'.l σ σ'∧c'.cb=c.cb:=by
 have hlen:=T.tok.len
 have hnt:=T.mo.nt
 have tk:=T.tok.Akt hnt hp a
 rw[Uh,MY]
 have eh:AJ (k+10) (AV i) a σ=_:=fZ (k+6) T.h a ha
 simp only[sw,Ad,Af,Ae,Option.bind_some,Nat.zero_add,Nat.add_zero,T.co.K2,eh,Ar]
 cases hh:Ea m a with
 | false=>
   simp only[cond_false,Option.bind_some,if_true]
   unfold Rf at tk ⊢
   rw[if_neg (fun hc=>by rw[hh] at hc; cases hc.1)] at tk ⊢
   exact ⟨σ,c,rfl,T,Mv.refl _ _,rfl⟩
 | true=>
   have eo:Cn (k+10) (Hy c) a σ=_:=Aei (k+6) T.co hh
   simp only[cond_true,eo,Option.bind_some,Aj]
   by_cases hz:tz s a=0
   rotate_left
   ·rw[show ((tz s a:Int) == 0)=false from by simpa using hz]
    simp only[cond_false,Option.bind_some,if_true]
    unfold Rf at tk ⊢
    rw[if_neg (fun hc=>hz hc.2)] at tk ⊢
    exact ⟨σ,c,rfl,T,Mv.refl _ _,rfl⟩
   ·rw[show ((tz s a:Int) == 0)=true from by simpa using hz]
    obtain ⟨j,rfl,hs⟩:=Ek hh
    obtain ⟨σ1,e1,h1,m1⟩:=vM k T.co hs.1 (v:=1) (by decide)
    obtain ⟨s',μ,e2,li2,m2⟩:=h1.ls.push ((2*j:Nat):Int) As (by show s.list.length≤_; omega)
    have f1:c.ls.2.1=s.list.length:=by have:=h1.ls.form; rw[this]; rfl
    have f2:c.ls.2.2=s.list.length:=by have:=h1.ls.form; rw[this]; rfl
    rw[f1,f2] at e2
    obtain ⟨σ',e3,h3,m3⟩:=h1.zx (fun q hq=>hq) m2 li2
    unfold Rf at tk ⊢
    rw[if_pos ⟨hh,hz⟩] at tk ⊢
    refine ⟨σ',_, ?_,T.Zs h3 (m1.trans m3) tk,m1.trans m3,rfl⟩
    have d6:=h1.ld6
    have e1':Cp (k+10) (Hy c) ((2*j:Nat):Int) (1:Int) σ=some (.tuple #[],σ1):=e1
    have d6':Hx σ1 c.cb 6=some (c.ls.1,s.list.length,s.list.length):=d6
    simp only[cond_true,e1',Option.bind_some,M8,d6',AM,e2,e3,if_true]
theorem jd (k:Nat) {sl:Ce} {l:List Int} (hl:l.length≤100000) (hv:∀ v ∈ l,AU v) (cb:Nat):∀ (n x f:Nat) (σ:Aa) (c:CI) (s:TC),RC σ i p c m r s→c.cb=cb→s.ph≠2→B6 σ sl l→(∀ q ∈ hs sl,q ∉ c.l)→x+n=l.length→n<f →
  ∃ σ' c',D5 (k+11) f (some ⟨cb,0,none⟩) sl.1 l.length l.length ((l.length:Nat):Int) (x:Int) σ=some (.exit 0,[],σ')∧RC σ' i p c' m r (JW m s (l.drop x))∧Mv c.l c'.l σ σ'∧c'.cb=cb
 | n,x,0,σ,c,s,T,hc,hp,hli,ho,hx,hf=>by omega
 | 0,x,f+1,σ,c,s,T,hc,hp,hli,ho,hx,hf=>by
   rw[Kt,GX]
   simp only[sw,Ad,Af,Ae,decide_eq_false (show ¬ (x:Int)<((l.length:Nat):Int) by omega),cond_false]
   rw[List.drop_eq_nil_of_le (by omega)]
   exact ⟨σ,c,rfl,T,Mv.refl _ _,hc⟩
 | n+1,x,f+1,σ,c,s,T,hc,hp,hli,ho,hx,hf=>by
   obtain ⟨b,e,l1,_⟩:=hli.ld (x:=x) (by omega)
   have qx:(0≤(x:Int)∧(x:Int)<((l.length:Nat):Int))=True:=eq_true (by omega)
   have w1:Cf ((x:Int)+1)=((x+1:Nat):Int):=Ak (by unfold AU; omega)
   have hd:l.drop x=l.getD x 0::l.drop (x+1):=by
    rw[List.drop_eq_getElem_cons (by omega),List.getD_eq_getElem?_getD,List.getElem?_eq_getElem (by omega)]; rfl
   have hvx:AU (l.getD x 0):=by
    rw[List.getD_eq_getElem?_getD,List.getElem?_eq_getElem (show x<l.length by omega)]; exact hv _ (List.getElem_mem _)
   obtain ⟨σ1,c1,e1,T1,m1,b1⟩:=nR k T hp (l.getD x 0) hvx
   obtain ⟨k1,k2,_⟩:=m1.GI (X:=hs sl) hli.lt ho
   obtain ⟨σ',c',e2,T2,m2,b2⟩:=jd k hl hv cb n (x+1) f σ1 c1 _ T1 (b1.trans hc) (by rw[(dO m s _).1]; exact hp) (hli.AG k1) k2 (by omega) (by omega)
   refine ⟨σ',c', ?_,by rw[hd]; exact T2,m1.trans m2,b2⟩
   rw[Kt,GX]
   have e1':Bs (k+11) (some ⟨cb,0,none⟩) (l.getD x 0) σ=some (.tuple #[],σ1):=by rw[← hc]; exact e1
   rw[e] at e2
   simp only[sw,Ad,Af,Ae,decide_eq_true (show (x:Int)<((l.length:Nat):Int) by omega),cond_true,qx,if_true,e,Option.bind_some,Int.toNat_natCast,Nat.mul_one,Nat.zero_add,l1,w1,e1',M8,e2]
theorem Yl (k:Nat) {sl:Ce} {l:List Int} (hl:l.length≤100000) (hv:∀ v ∈ l,AU v) (cb:Nat):∀ (n x f:Nat) (σ:Aa) (c:CI) (s:TC),RC σ i p c m r s→c.cb=cb→s.ph≠2→B6 σ sl l→(∀ q ∈ hs sl,q ∉ c.l)→x+n=l.length→n<f →
  ∃ σ' c',Cm (k+11) f (some ⟨cb,0,none⟩) sl.1 l.length l.length ((l.length:Nat):Int) (x:Int) σ=some (.exit 2,[],σ')∧RC σ' i p c' m r (JW m s (l.drop x))∧Mv c.l c'.l σ σ'∧c'.cb=cb
 | n,x,0,σ,c,s,T,hc,hp,hli,ho,hx,hf=>by omega
 | 0,x,f+1,σ,c,s,T,hc,hp,hli,ho,hx,hf=>by
   rw[HE,Fj]
   simp only[sw,Ad,Af,Ae,decide_eq_false (show ¬ (x:Int)<((l.length:Nat):Int) by omega),cond_false]
   rw[List.drop_eq_nil_of_le (by omega)]
   exact ⟨σ,c,rfl,T,Mv.refl _ _,hc⟩
 | n+1,x,f+1,σ,c,s,T,hc,hp,hli,ho,hx,hf=>by
   obtain ⟨b,e,l1,_⟩:=hli.ld (x:=x) (by omega)
   have qx:(0≤(x:Int)∧(x:Int)<((l.length:Nat):Int))=True:=eq_true (by omega)
   have w1:Cf ((x:Int)+1)=((x+1:Nat):Int):=Ak (by unfold AU; omega)
   have hd:l.drop x=l.getD x 0::l.drop (x+1):=by
    rw[List.drop_eq_getElem_cons (by omega),List.getD_eq_getElem?_getD,List.getElem?_eq_getElem (by omega)]; rfl
   have hvx:AU (l.getD x 0):=by
    rw[List.getD_eq_getElem?_getD,List.getElem?_eq_getElem (show x<l.length by omega)]; exact hv _ (List.getElem_mem _)
   obtain ⟨σ1,c1,e1,T1,m1,b1⟩:=nR k T hp (l.getD x 0) hvx
   obtain ⟨k1,k2,_⟩:=m1.GI (X:=hs sl) hli.lt ho
   obtain ⟨σ',c',e2,T2,m2,b2⟩:=Yl k hl hv cb n (x+1) f σ1 c1 _ T1 (b1.trans hc) (by rw[(dO m s _).1]; exact hp) (hli.AG k1) k2 (by omega) (by omega)
   refine ⟨σ',c', ?_,by rw[hd]; exact T2,m1.trans m2,b2⟩
   rw[HE,Fj]
   have e1':Bs (k+11) (some ⟨cb,0,none⟩) (l.getD x 0) σ=some (.tuple #[],σ1):=by rw[← hc]; exact e1
   rw[e] at e2
   simp only[sw,Ad,Af,Ae,decide_eq_true (show (x:Int)<((l.length:Nat):Int) by omega),cond_true,qx,if_true,e,Option.bind_some,Int.toNat_natCast,Nat.mul_one,Nat.zero_add,l1,w1,e1',M8,e2]
theorem qg (k:Nat) {sl:Ce} {l:List Int} (hl:l.length≤100000) (hv:∀ v ∈ l,AU v) (cb:Nat):∀ (n x f:Nat) (σ:Aa) (c:CI) (s:TC),RC σ i p c m r s→c.cb=cb→s.ph≠2→B6 σ sl l→(∀ q ∈ hs sl,q ∉ c.l)→x+n=l.length→n<f →
  ∃ σ' c',Eu (k+11) f (some ⟨cb,0,none⟩) sl.1 l.length l.length ((l.length:Nat):Int) (x:Int) σ=some (.exit 1,[],σ')∧RC σ' i p c' m r (JW m s (l.drop x))∧Mv c.l c'.l σ σ'∧c'.cb=cb
 | n,x,0,σ,c,s,T,hc,hp,hli,ho,hx,hf=>by omega
 | 0,x,f+1,σ,c,s,T,hc,hp,hli,ho,hx,hf=>by
   rw[LK,Il]
   simp only[sw,Ad,Af,Ae,decide_eq_false (show ¬ (x:Int)<((l.length:Nat):Int) by omega),cond_false]
   rw[List.drop_eq_nil_of_le (by omega)]
   exact ⟨σ,c,rfl,T,Mv.refl _ _,hc⟩
 | n+1,x,f+1,σ,c,s,T,hc,hp,hli,ho,hx,hf=>by
   obtain ⟨b,e,l1,_⟩:=hli.ld (x:=x) (by omega)
   have qx:(0≤(x:Int)∧(x:Int)<((l.length:Nat):Int))=True:=eq_true (by omega)
   have w1:Cf ((x:Int)+1)=((x+1:Nat):Int):=Ak (by unfold AU; omega)
   have hd:l.drop x=l.getD x 0::l.drop (x+1):=by
    rw[List.drop_eq_getElem_cons (by omega),List.getD_eq_getElem?_getD,List.getElem?_eq_getElem (by omega)]; rfl
   have hvx:AU (l.getD x 0):=by
    rw[List.getD_eq_getElem?_getD,List.getElem?_eq_getElem (show x<l.length by omega)]; exact hv _ (List.getElem_mem _)
   obtain ⟨σ1,c1,e1,T1,m1,b1⟩:=nR k T hp (l.getD x 0) hvx
   obtain ⟨k1,k2,_⟩:=m1.GI (X:=hs sl) hli.lt ho
   obtain ⟨σ',c',e2,T2,m2,b2⟩:=qg k hl hv cb n (x+1) f σ1 c1 _ T1 (b1.trans hc) (by rw[(dO m s _).1]; exact hp) (hli.AG k1) k2 (by omega) (by omega)
   refine ⟨σ',c', ?_,by rw[hd]; exact T2,m1.trans m2,b2⟩
   rw[LK,Il]
   have e1':Bs (k+11) (some ⟨cb,0,none⟩) (l.getD x 0) σ=some (.tuple #[],σ1):=by rw[← hc]; exact e1
   rw[e] at e2
   simp only[sw,Ad,Af,Ae,decide_eq_true (show (x:Int)<((l.length:Nat):Int) by omega),cond_true,qx,if_true,e,Option.bind_some,Int.toNat_natCast,Nat.mul_one,Nat.zero_add,l1,w1,e1',M8,e2]
theorem vC (h:r.ok):∀ v ∈ HF r,AU v:=by
 intro v hv
 rcases ku v r.all [] hv with h' | h'
 ·cases h'
 ·exact (h.inn v h').1
theorem rT (h:r.ok):(HF r).length≤144:=by
 have key:∀ (l out:List Int),(l.foldl Wo out).length≤out.length+l.length:=by
  intro l
  induction l with
  | nil=>intro out; simp
  | cons a l ih=>
    intro out
    have:=ih (Wo out a)
    have:(Wo out a).length≤out.length+1:=by
     unfold Wo; split
     ·omega
     ·simp
    simp only[List.foldl_cons,List.length_cons]
    omega
 have:=key r.all []
 have h1:=h.sl; have h2:=h.gl; have h3:=h.qu; have h4:=h.m4
 unfold HF
 unfold K4.all at this ⊢
 simp only[List.length_append,List.length_nil] at this
 omega
theorem sk (k:Nat) (hk:1000<k) (T:RC σ i p c m r s) (hp:s.ph≠2):∃ σ' c',Dv (k+12) (Hy c) σ=some (.tuple #[],σ')∧RC σ' i p c' m r (JW m s (HF r))∧Mv c.l c'.l σ σ'∧c'.cb=c.cb:=by
 have hlen:=rT T.rt.ok
 obtain ⟨τ,sl,e1,li,new⟩:=uF (k+5) (by omega) T.rt
 have e1':Cc (k+11) (Nc p) σ=_:=e1
 have T1:=T.app τ
 obtain ⟨σ',c',e2,T2,m2,b2⟩:=jd k (by omega) (vC T.rt.ok) c.cb (HF r).length 0 (k+11) (σ++τ) c s T1 rfl hp li (fun q hq hm=>by have:=new q hq; have:=T.co.lt q hm; omega) (by omega) (by omega)
 rw[show ((0:Nat):Int)=0 from rfl] at e2
 have f:=li.form
 have f1:sl.2.1=(HF r).length:=by rw[f]
 have f2:sl.2.2=(HF r).length:=by rw[f]
 refine ⟨σ',c', ?_,T2,(Mv.app c.l σ τ).trans m2,b2⟩
 rw[Tb,Mc]
 simp only[sw,Ad,Af,Ae,Option.bind_some,Nat.zero_add,Nat.add_zero,T.co.GJ,e1',H7,f1,f2,e2,if_true]
theorem ng (k:Nat) (T:RC σ i p c m r s) (a:Int) (ha:AU a):B8 (k+5) (Hy c) a σ=some (.bool (Uy m s a),σ):=by
 rw[VC,OA]
 have eh:AJ (k+4) (AV i) a σ=_:=fZ k T.h a ha
 simp only[sw,Ad,Af,Ae,Option.bind_some,Nat.zero_add,Nat.add_zero,T.co.K2,eh,Ar]
 unfold Uy
 cases hh:Ea m a with
 | false=>simp only[cond_false,Option.bind_some,Bool.false_and]
 | true=>
   have eo:Cn (k+4) (Hy c) a σ=_:=Aei k T.co hh
   simp only[cond_true,eo,Option.bind_some,Aj,Bool.true_and]
   by_cases hz:tz s a=0 <;> simp[hz]
end Go.Proofs.YtjbledomkmdkmaaGreat
end
section
namespace Go.Proofs.YtjbledomkmdkmaaGreat
open Go Go.AX
noncomputable local instance qGJ:A9:=Aw
local instance nGJ:Kn:=⟨true⟩
variable {σ:Aa} {m:HM} {r:K4} {s:TC} {i:DD} {p:PI} {c:CI}
theorem yM (k:Nat) (x y:Int) (σ:Aa):GP (k+1) x y σ=some (.bool (Wk x y),σ):=by
 rw[ak,UA]
 simp only[sw,Ad,Af,Ae]
 unfold Wk
 by_cases h0:y=0
 ·subst h0
  by_cases h1:x=1
  ·subst h1; rfl
  ·by_cases h2:x=2
   ·subst h2; rfl
   ·rw[show (x == 1)=false from by simpa using h1,show (x == 2)=false from by simpa using h2]; simp[h1,h2]
 ·rw[show (y == 0)=false from by simpa using h0]
  by_cases h1:y=1
  ·subst h1
   by_cases h2:x=2
   ·subst h2; rfl
   ·rw[show (x == 2)=false from by simpa using h2]; simp[h2]
  ·rw[show (y == 1)=false from by simpa using h1]; simp[h0,h1]
theorem yt (v w:Value):qk (.tuple #[v,w])=some [v,w]:=rfl
theorem dv (k:Nat) (h:An σ i m) (a:Int) (ha:AU a):∃ τ,AE (k+6) (AV i) a σ=some (.tuple #[.agg #[.int .i64 (Au m a).1,.int .i64 (Au m a).2.1,.int .i64 (Au m a).2.2],.int .i64 (if Ea m a then 0 else 4)],σ++τ):=by
 obtain ⟨τ,e⟩:=Af1 k h a ha
 rw[w9] at e
 exact ⟨τ,e⟩
theorem Afq (k:Nat) (h:An σ i m) (a:Int) (ha:AU a):∃ τ,GO (k+7) (AV i) a σ=some (.int .i64 (Au m a).2.2,σ++τ):=by
 obtain ⟨τ,e⟩:=dv k h a ha
 refine ⟨τ++[A6.cells [.int .i64 (Au m a).1,.int .i64 (Au m a).2.1,.int .i64 (Au m a).2.2] Ag true], ?_⟩
 rw[ai,U8]
 simp only[sw,Ad,Af,Ae,e,Option.bind_some,yt,List.length_cons,List.length_nil,Nat.zero_add,Nat.reduceAdd,if_true,List.head?_cons,List.tail_cons,Lm,Aj,AM,Iv,BJ,List.getElem?_cons_zero,List.getElem?_cons_succ,List.append_assoc]
theorem Abm {b x n:Nat} {row:List Value} {T:TypeId} (v:Int) (hc:σ[b]?=some (.cells row As true)) (hr:row.length=n) (hx:x<n):
  B9 P As (some ⟨b,0,none⟩,x,n) (some ⟨σ.length,0,none⟩,1,1) (σ++[.cells [.int .i64 v] T true])=some ((some ⟨b,0,none⟩,x+1,n),(σ++[A6.cells [.int .i64 v] T true]).set b (.cells (row.set x (.int .i64 v)) As true)):=by
 have hb:=Al hc
 have hc':(σ++[A6.cells [.int .i64 v] T true])[b]?=some (.cells row As true):=by rw[List.getElem?_append_left hb]; exact hc
 have hf:Ds (σ++[.cells [.int .i64 v] T true]) 1 (some ⟨σ.length,0,none⟩) 1=some [.int .i64 v]:=by simp[Ds,ZA]
 have hz:(¬ (Hb (.int .i64 0)=false∧some 1=some (Value.cells (.int .i64 0)).size∧0<(Value.cells (.int .i64 0)).size))=False:=by simp[Hb,Value.cells]
 unfold B9 Qf
 simp only[sz3,by3,zz3,Option.bind_some,hf,hz,if_false,if_pos (show x+1≤n from hx),Is,Option.isSome_none,cond_false,Nat.zero_add,Nat.mul_one]
 simp only[XJ,hc',List.length_cons,List.length_nil,Nat.zero_add]
 rw[if_pos (by omega),ZO _ _ _ (by omega)]
 rfl
theorem nM (k:Nat) (a:Int) (ha:AU a) {nn b:Nat} (hn:nn≤200):∀ (n x f:Nat) (μ:Aa) (row:List Value),An μ i m→Inv m→b ∉ i.l→μ[b]?=some (.cells row As true)→row.length=nn→row.take x=Bm ((List.range x).map fun (x:Nat)=>DI m a ((x:Nat):Int))→x+n=nn→n<f →
  ∃ μ',Gf (k+7) f (AV i) a (nn:Int) (some ⟨b,0,none⟩,x,nn) (x:Int) μ=some (.exit 0,[.slice (some ⟨b,0,none⟩) nn nn],μ')∧μ'[b]?=some (.cells (Bm ((List.range nn).map fun (x:Nat)=>DI m a ((x:Nat):Int))) As true)∧Mv [b] [b] μ μ'
 | n,x,0,μ,row,h,hI,hb,hc,hr,ht,hx,hf=>by omega
 | 0,x,f+1,μ,row,h,hI,hb,hc,hr,ht,hx,hf=>by
   rw[Pe,Lo]
   have e:x=nn:=by omega
   subst e
   simp only[sw,Ad,Af,Ae,decide_eq_false (show ¬ (x:Int)<(x:Int) by omega),cond_false]
   rw[List.take_of_length_le (by omega)] at ht
   exact ⟨μ,rfl,by rw[hc,ht],Mv.refl _ _⟩
 | n+1,x,f+1,μ,row,h,hI,hb,hc,hr,ht,hx,hf=>by
   have w1:Cf ((x:Int)+1)=((x+1:Nat):Int):=Ak (by unfold AU; omega)
   obtain ⟨τ,e1⟩:=nL k h hI a (x:Int) ha
   have h1:=h.app τ
   have hc1:(μ++τ)[b]?=some (.cells row As true):=by rw[List.getElem?_append_left (Al hc)]; exact hc
   have e2:=Abm (T:=As) (DI m a (x:Int)) hc1 hr (show x<nn by omega)
   obtain ⟨μ1,hμ1⟩:∃ μ1,(μ++τ++[A6.cells [.int .i64 (DI m a (x:Int))] As true]).set b (.cells (row.set x (.int .i64 (DI m a (x:Int)))) As true)=μ1:=⟨_,rfl⟩
   have hbl:=Al hc1
   have m1:Mv [b] [b] μ μ1:=by
    rw[← hμ1]
    exact ((Mv.app [b] μ τ).trans (Mv.app [b] _ _)).trans (Mv.set _ _ (List.mem_singleton.2 rfl))
   have h2:An μ1 i m:=h.AG fun q hq=>m1.same q (h.lt q hq) fun hm=>hb (by rw[← List.mem_singleton.1 hm]; exact hq)
   have hc2:μ1[b]?=some (.cells (row.set x (.int .i64 (DI m a (x:Int)))) As true):=by
    rw[← hμ1,List.getElem?_set_self (by rw[List.length_append]; omega)]
   obtain ⟨μ',e3,c3,m3⟩:=nM k a ha hn n (x+1) f μ1 _ h2 hI hb hc2 (by rw[List.length_set]; exact hr) (by
    rw[List.range_succ,List.map_append,UF,← ht]
    apply List.ext_getElem?
    intro q
    have htl:(row.take x).length=x:=by rw[List.length_take]; omega
    rw[List.getElem?_take,List.getElem?_set]
    by_cases q1:q<x
    ·rw[if_pos (by omega),if_neg (by omega),List.getElem?_append_left (by omega),List.getElem?_take,if_pos q1]
    ·by_cases q2:q=x
     ·subst q2
      rw[if_pos (by omega),if_pos rfl,if_pos (by omega),List.getElem?_append_right (by omega),htl,Nat.sub_self]; rfl
     ·rw[if_neg (by omega),List.getElem?_append_right (by omega),List.getElem?_eq_none (by simp[Bm]; omega)]) (by omega) (by omega)
   refine ⟨μ', ?_,c3,m1.trans m3⟩
   rw[Pe,Lo]
   have e1':AA (k+7) (AV i) a (x:Int) μ=some (.tuple #[.int .i64 (DI m a (x:Int)),.int .i64 (Y2 m a (x:Int) false).2],μ++τ):=e1
   simp only[sw,Ad,Af,Ae,decide_eq_true (show (x:Int)<(nn:Int) by omega),cond_true,e1',Option.bind_some,Fs,AM,e2,hμ1,w1,e3]
theorem Af0 (k:Nat) (hk:1000<k) (h:An σ i m) (hI:Inv m) (a:Int) (ha:AU a):∃ τ s,Jv (k+8) (AV i) a σ=some (.slice s.1 s.2.1 s.2.2,σ++τ)∧B6 (σ++τ) s (cP m a) ∧ ∀ q ∈ hs s,σ.length≤q:=by
 obtain ⟨τ1,e1⟩:=dv (k+1) h a ha
 obtain ⟨s1,s2,s3,s4⟩:=UU hI a
 unfold cP
 generalize hsg:Au m a=sh at e1 s1 s2 s3 s4
 obtain ⟨rr,dd,kk⟩:=sh
 dsimp only at e1 s1 s2 s3 s4
 obtain ⟨nn,rfl⟩:∃ nn:Nat,rr=(nn:Int):=⟨rr.toNat,by omega⟩
 obtain ⟨S,hS⟩:∃ S,A6.cells [.int .i64 (nn:Int),.int .i64 dd,.int .i64 kk] Ag true=S:=⟨_,rfl⟩
 obtain ⟨μ,hμ⟩:∃ μ,σ++τ1++[S]=μ:=⟨_,rfl⟩
 have lm:σ.length<μ.length:=by rw[← hμ,List.length_append,List.length_append,List.length_singleton]; omega
 have hμσ:μ=σ++(τ1++[S]):=by rw[← hμ,List.append_assoc]
 have hm0:An μ i m:=by rw[hμσ]; exact h.app _
 have hm1:An (μ++[A6.cells (rep nn [.int .i64 0]) As true]) i m:=hm0.app _
 have lS:∀ τ,Dg .i64 (μ++τ) (σ++τ1).length 0=some (nn:Int):=fun τ=>by
  rw[dI _ _ _ (by rw[← hμ]; simp),← hμ,← hS,BJ]; rfl
 have lS0:Dg .i64 μ (σ++τ1).length 0=some (nn:Int):=by have:=lS []; rwa [List.append_nil] at this
 have hbn:μ.length ∉ i.l:=fun hm=>by have:=hm0.lt _ hm; omega
 obtain ⟨μ',e2,c2,m2⟩:=nM k a ha (b:=μ.length) (show nn≤200 by omega) nn 0 (k+7) _ _ hm1 hI hbn (by rw[List.getElem?_concat_length]) (by rw[jm,EI,List.length_replicate]) (by simp[Bm]) (by omega) (by omega)
 obtain ⟨τ,hτ⟩:∃ τ,μ'=σ++τ:=by
  refine Se (by have:=m2.len; simp at this; omega) fun q hq=>?_
  rw[m2.same q (by simp; omega) (fun hm=>by have:=List.mem_singleton.1 hm; omega),List.getElem?_append_left (by omega),hμσ,List.getElem?_append_left hq]
 refine ⟨τ,(some ⟨μ.length,0,none⟩,nn,nn), ?_, ?_,fun q hq=>by simp[hs] at hq; omega⟩
 ·rw[aj,U9]
  have e1':AE (k+7) (AV i) a σ=_:=e1
  rw[show ((0:Nat):Int)=0 from rfl] at e2
  simp only[sw,Ad,Af,Ae,e1',Option.bind_some,yt,List.length_cons,List.length_nil,Nat.zero_add,Nat.reduceAdd,if_true,List.head?_cons,List.tail_cons,Lm,Aj,AM,Iv,hS,hμ,lS0]
  rw[if_pos (by omega)]
  simp only[Int.toNat_natCast,Int.toNat_zero,lS,Option.bind_some,e2,if_true,hτ]
  rfl
 ·rw[← hτ]
  exact .inl (.inr ⟨μ.length,by simp,Nat.zero_le _,by simp[Bm],by rw[c2]; rfl⟩)
end Go.Proofs.YtjbledomkmdkmaaGreat
end
