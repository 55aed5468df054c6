/- The objects of a heap, read.; Lists and heaps compared.; Two runs side by side; Step of a and of c is Step of a + c. -/
import Derived.Test.YtjbledomkmdkmaaGreatP33
import Derived.Test.YtjbledomkmdkmaaGreatP21
set_option linter.unusedVariables false
set_option linter.unusedSimpArgs false
set_option linter.unusedSectionVars false
section
namespace Go.Proofs.YtjbledomkmdkmaaGreat
open Go Go.AX
noncomputable local instance qHA:A9:=Aw
local instance nHA:Kn:=⟨true⟩
variable {σ:Aa} {m:HM} {i:DD} {j:RI} {t:RM}
def T0 (σ:Aa) (b:Nat) (o:RO) (p:Ce × Ce):Prop:=σ[b]?=some (.cells (Bf o p) Ac true)
theorem T0.ld {b:Nat} {o:RO} {p:Ce × Ce} (h:T0 σ b o p):Dg .i64 σ b 0=some o.addr∧Dg .i64 σ b 1=some o.id∧Dg .i64 σ b 2=some o.r∧Dg .i64 σ b 3=some o.d∧Dg .i64 σ b 4=some o.k∧Hx σ b 5=some (p.1.1,p.1.2.1,p.1.2.2)∧Hx σ b 6=some (p.2.1,p.2.2.1,p.2.2.2)∧lO σ b 7=some o.lU:=by
 unfold T0 at h
 simp[Dg,Hx,lO,Gi,h,Bf,Ml,H7,Ez]
def Z4 (m:HM) (a x:Int) (data:Bool):Int:=(Y2 m a x data).1
theorem nJ (k:Nat) (hI:Inv m) (o:RO) {a:Int} (hoa:o.addr=a) (ha:AU a) (hn:o.r≤1000) (pO:Ce) {b:Nat}:∀ (n x f:Nat) (μ:Aa) (s:Ce),An μ i m→(∀ q ∈ i.l,q<b)→T0 μ b o (s,pO)→B6 μ s ((List.range x).map fun (x:Nat)=>Z4 m a ((x:Nat):Int) false)→(∀ q ∈ hs s,b<q)→(x:Int)+n=o.r→n<f →
  ∃ μ' s',Jb (k+7) f (AV i) b (x:Int) μ=some (.exit 4,[],μ')∧T0 μ' b o (s',pO)∧B6 μ' s' ((List.range o.r.toNat).map fun (x:Nat)=>Z4 m a ((x:Nat):Int) false)∧(∀ q ∈ hs s',b<q)∧Mv (b::hs s) (b::hs s') μ μ'
 | n,x,0,μ,s,h,hb,hx',hl,hg,hx,hf=>by omega
 | 0,x,f+1,μ,s,h,hb,hx',hl,hg,hx,hf=>by
   obtain ⟨z0,z1,z2,z3,z4,z5,z6,z7⟩:=hx'.ld
   rw[Vv,Ov]
   simp only[sw,Ad,Af,Ae,Nat.zero_add,Nat.add_zero,Nat.reduceAdd,z2,Option.bind_some,decide_eq_false (show ¬ (x:Int)<o.r by omega),cond_false]
   have e:o.r.toNat=x:=by omega
   rw[e]
   exact ⟨μ,s,rfl,hx',hl,hg,Mv.refl _ _⟩
 | n+1,x,f+1,μ,s,h,hb,hx',hl,hg,hx,hf=>by
   obtain ⟨z0,z1,z2,z3,z4,z5,z6,z7⟩:=hx'.ld
   have w1:Cf ((x:Int)+1)=((x+1:Nat):Int):=Ak (by unfold AU; omega)
   obtain ⟨τ,e1⟩:=nL k h hI a (x:Int) ha
   have e1':AA (k+7) (AV i) a (x:Int) μ=some (.tuple #[.int .i64 (Z4 m a (x:Int) false),.int .i64 (Y2 m a (x:Int) false).2],μ++τ):=e1
   have hbl:=Al hx'
   have bx1:T0 (μ++τ) b o (s,pO):=by unfold T0; rw[List.getElem?_append_left hbl]; exact hx'
   obtain ⟨y0,y1,y2,y3,y4,y5,y6,y7⟩:=bx1.ld
   have hl1:=hl.app τ
   have hlen:((List.range x).map fun (x:Nat)=>Z4 m a ((x:Nat):Int) false).length=x:=by simp
   obtain ⟨s',μ1,e2,li2,m2⟩:=hl1.push (Z4 m a (x:Int) false) As (by rw[hlen]; omega)
   have nb:b ∉ hs s:=fun hm=>Nat.lt_irrefl _ (hg b hm)
   have bx2:T0 μ1 b o (s,pO):=m2.SB bx1 nb
   have g2:∀ q ∈ hs s',b<q:=fun q hq=>(m2.new q hq).elim (hg q) fun h'=>by rw[List.length_append] at h'; omega
   have es:K3 μ1 b 5 (.slice s'.1 s'.2.1 s'.2.2)=some (μ1.set b (.cells (Bf o (s',pO)) Ac true)):=by
    unfold T0 at bx2
    simp[K3,bx2,Bf]
   obtain ⟨μ2,hμ2⟩:∃ μ2,μ1.set b (.cells (Bf o (s',pO)) Ac true)=μ2:=⟨_,rfl⟩
   rw[hμ2] at es
   have bx3:T0 μ2 b o (s',pO):=by unfold T0; rw[← hμ2,List.getElem?_set_self (Al bx2)]
   have m3:Mv (b::hs s) (b::hs s') μ μ2:=by
    rw[← hμ2]
    refine (((Mv.app (hs s) μ τ).trans m2).wide (K:=b::hs s) (K':=b::hs s') (fun q hq=>List.mem_cons_of_mem _ hq) fun q hq=>?_).trans (Mv.set _ _ List.mem_cons_self)
    rcases List.mem_cons.1 hq with rfl | hq
    ·exact .inl List.mem_cons_self
    ·exact .inr (.inl hq)
   have h3:An μ2 i m:=h.AG fun q hq=>m3.same q (h.lt q hq) fun hm=>by
    have:=hb q hq
    rcases List.mem_cons.1 hm with hm | hm
    ·omega
    ·have:=hg q hm; omega
   have hl3:B6 μ2 s' ((List.range (x+1)).map fun (x:Nat)=>Z4 m a ((x:Nat):Int) false):=by
    rw[List.range_succ,List.map_append]
    exact li2.AG fun q hq=>by rw[← hμ2]; exact List.getElem?_set_ne (by have:=g2 q hq; omega)
   obtain ⟨μ',s2,e3,bx4,li4,g4,m4⟩:=nJ k hI o hoa ha hn pO n (x+1) f μ2 s' h3 hb bx3 hl3 g2 (by omega) (by omega)
   refine ⟨μ',s2, ?_,bx4,li4,g4,m3.trans m4⟩
   rw[Vv,Ov]
   simp only[sw,Ad,Af,Ae,Nat.zero_add,Nat.add_zero,Nat.reduceAdd,z2,z0,hoa,Option.bind_some,decide_eq_true (show (x:Int)<o.r by omega),cond_true,e1',Fs,y5,AM,e2,es,w1,e3]
theorem nK (k:Nat) (hI:Inv m) (o:RO) {a:Int} (hoa:o.addr=a) (ha:AU a) (hn:o.d≤1000) (pO:Ce) {b:Nat}:∀ (n x f:Nat) (μ:Aa) (s:Ce),An μ i m→(∀ q ∈ i.l,q<b)→T0 μ b o (pO,s)→B6 μ s ((List.range x).map fun (x:Nat)=>Z4 m a ((x:Nat):Int) true)→(∀ q ∈ hs s,b<q)→(x:Int)+n=o.d→n<f →
  ∃ μ' s',Jc (k+7) f (AV i) b (x:Int) μ=some (.exit 6,[],μ')∧T0 μ' b o (pO,s')∧B6 μ' s' ((List.range o.d.toNat).map fun (x:Nat)=>Z4 m a ((x:Nat):Int) true)∧(∀ q ∈ hs s',b<q)∧Mv (b::hs s) (b::hs s') μ μ'
 | n,x,0,μ,s,h,hb,hx',hl,hg,hx,hf=>by omega
 | 0,x,f+1,μ,s,h,hb,hx',hl,hg,hx,hf=>by
   obtain ⟨z0,z1,z2,z3,z4,z5,z6,z7⟩:=hx'.ld
   rw[Vw,Ow]
   simp only[sw,Ad,Af,Ae,Nat.zero_add,Nat.add_zero,Nat.reduceAdd,z3,Option.bind_some,decide_eq_false (show ¬ (x:Int)<o.d by omega),cond_false]
   have e:o.d.toNat=x:=by omega
   rw[e]
   exact ⟨μ,s,rfl,hx',hl,hg,Mv.refl _ _⟩
 | n+1,x,f+1,μ,s,h,hb,hx',hl,hg,hx,hf=>by
   obtain ⟨z0,z1,z2,z3,z4,z5,z6,z7⟩:=hx'.ld
   have w1:Cf ((x:Int)+1)=((x+1:Nat):Int):=Ak (by unfold AU; omega)
   obtain ⟨τ,e1⟩:=Aij k h hI a (x:Int) ha
   have e1':HT (k+7) (AV i) a (x:Int) μ=some (.tuple #[.int .i64 (Z4 m a (x:Int) true),.int .i64 (Y2 m a (x:Int) true).2],μ++τ):=e1
   have hbl:=Al hx'
   have bx1:T0 (μ++τ) b o (pO,s):=by unfold T0; rw[List.getElem?_append_left hbl]; exact hx'
   obtain ⟨y0,y1,y2,y3,y4,y5,y6,y7⟩:=bx1.ld
   have hl1:=hl.app τ
   have hlen:((List.range x).map fun (x:Nat)=>Z4 m a ((x:Nat):Int) true).length=x:=by simp
   obtain ⟨s',μ1,e2,li2,m2⟩:=hl1.push (Z4 m a (x:Int) true) As (by rw[hlen]; omega)
   have nb:b ∉ hs s:=fun hm=>Nat.lt_irrefl _ (hg b hm)
   have bx2:T0 μ1 b o (pO,s):=m2.SB bx1 nb
   have g2:∀ q ∈ hs s',b<q:=fun q hq=>(m2.new q hq).elim (hg q) fun h'=>by rw[List.length_append] at h'; omega
   have es:K3 μ1 b 6 (.slice s'.1 s'.2.1 s'.2.2)=some (μ1.set b (.cells (Bf o (pO,s')) Ac true)):=by
    unfold T0 at bx2
    simp[K3,bx2,Bf]
   obtain ⟨μ2,hμ2⟩:∃ μ2,μ1.set b (.cells (Bf o (pO,s')) Ac true)=μ2:=⟨_,rfl⟩
   rw[hμ2] at es
   have bx3:T0 μ2 b o (pO,s'):=by unfold T0; rw[← hμ2,List.getElem?_set_self (Al bx2)]
   have m3:Mv (b::hs s) (b::hs s') μ μ2:=by
    rw[← hμ2]
    refine (((Mv.app (hs s) μ τ).trans m2).wide (K:=b::hs s) (K':=b::hs s') (fun q hq=>List.mem_cons_of_mem _ hq) fun q hq=>?_).trans (Mv.set _ _ List.mem_cons_self)
    rcases List.mem_cons.1 hq with rfl | hq
    ·exact .inl List.mem_cons_self
    ·exact .inr (.inl hq)
   have h3:An μ2 i m:=h.AG fun q hq=>m3.same q (h.lt q hq) fun hm=>by
    have:=hb q hq
    rcases List.mem_cons.1 hm with hm | hm
    ·omega
    ·have:=hg q hm; omega
   have hl3:B6 μ2 s' ((List.range (x+1)).map fun (x:Nat)=>Z4 m a ((x:Nat):Int) true):=by
    rw[List.range_succ,List.map_append]
    exact li2.AG fun q hq=>by rw[← hμ2]; exact List.getElem?_set_ne (by have:=g2 q hq; omega)
   obtain ⟨μ',s2,e3,bx4,li4,g4,m4⟩:=nK k hI o hoa ha hn pO n (x+1) f μ2 s' h3 hb bx3 hl3 g2 (by omega) (by omega)
   refine ⟨μ',s2, ?_,bx4,li4,g4,m3.trans m4⟩
   rw[Vw,Ow]
   simp only[sw,Ad,Af,Ae,Nat.zero_add,Nat.add_zero,Nat.reduceAdd,z3,z0,hoa,Option.bind_some,decide_eq_true (show (x:Int)<o.d by omega),cond_true,e1',Fs,y6,AM,e2,es,w1,e3]
theorem Ae4 (hI:Inv m) {y:Nat} (hs:Start m y):(List.range (A5 m y).toNat).map (fun (x:Nat)=>Z4 m ((2*y:Nat):Int) ((x:Nat):Int) false)=Sp m (2*y+2) (A5 m y).toNat:=by
 obtain ⟨_,r1,_⟩:=YY hI hs
 apply List.ext_getElem?
 intro q
 rw[List.getElem?_map]
 by_cases hq:q<(A5 m y).toNat
 ·rw[List.getElem?_range hq,db m _ _ q hq]
  show some (Z4 _ _ _ _)=_
  unfold Z4 Y2
  rw[oG hI hs (show ((q:Nat):Int)<A5 m y by omega),if_pos rfl,Int.toNat_natCast]
 ·rw[List.getElem?_eq_none (by simp; omega),List.getElem?_eq_none (by rw[HR]; omega)]; rfl
theorem Ae3 (hI:Inv m) {y:Nat} (hs:Start m y):(List.range (BN m y).toNat).map (fun (x:Nat)=>Z4 m ((2*y:Nat):Int) ((x:Nat):Int) true)=Sp m (2*y+2+(A5 m y).toNat) (BN m y).toNat:=by
 obtain ⟨_,r1,r2,r3,_⟩:=YY hI hs
 apply List.ext_getElem?
 intro q
 rw[List.getElem?_map]
 by_cases hq:q<(BN m y).toNat
 ·rw[List.getElem?_range hq,db m _ _ q hq]
  show some (Z4 _ _ _ _)=_
  unfold Z4 Y2
  rw[vn hI hs (show ((q:Nat):Int)<BN m y by omega),if_pos rfl,Int.toNat_natCast]
 ·rw[List.getElem?_eq_none (by simp; omega),List.getElem?_eq_none (by rw[HR]; omega)]; rfl
theorem ym {b o:Nat} {cs vs:List Value} {T:TypeId} (h:σ[b]?=some (.cells cs T true)) (hl:o+vs.length≤cs.length):XJ σ b o vs=some (σ.set b (.cells (AL cs o vs) T true)):=by
 simp only[XJ,h]
 rw[if_pos hl]
theorem nI (k:Nat) (hk:1000<k) (hM:MK m) (h3 lo:Nat) {sl:Ce}:∀ (n x f:Nat) (μ:Aa) (j:RI),An μ i m→K5 μ j ⟨m.bls,(GL m).take x,[],m.births⟩→j.hb=h3→(∀ q ∈ j.l,lo≤q)→(∀ q ∈ i.l,q<lo)→lo≤μ.length→B6 μ sl (Hz m)→(∀ q ∈ hs sl,q ∉ j.l∧lo≤q)→x+n=(Hz m).length→n<f →
  ∃ μ' j',Ja (k+9) f (AV i) h3 sl.1 (Hz m).length (Hz m).length (x:Int) μ=some (.exit 2,[],μ')∧K5 μ' j' ⟨m.bls,GL m,[],m.births⟩∧j'.hb=h3∧(∀ q ∈ j'.l,lo≤q)∧μ.length≤μ'.length ∧ ∀ q,q<lo→μ'[q]?=μ[q]?
 | n,x,0,μ,j,h,hr,hj,hl,hi,hm,hli,hd,hx,hf=>by omega
 | 0,x,f+1,μ,j,h,hr,hj,hl,hi,hm,hli,hd,hx,hf=>by
   have hlen:(GL m).length=(Hz m).length:=by unfold GL Hz EU; rw[List.length_map,List.length_map]
   rw[Vu,Ou]
   simp only[sw,Ad,Af,Ae,decide_eq_false (show ¬ (x:Int)<(((Hz m).length:Nat):Int) by omega),cond_false]
   rw[List.take_of_length_le (by omega)] at hr
   exact ⟨μ,j,rfl,hr,hj,hl,Nat.le_refl _,fun _ _=>rfl⟩
 | n+1,x,f+1,μ,j,h,hr,hj,hl,hi,hm,hli,hd,hx,hf=>by
   have hnt:=hM.nt
   have hlenA:(Hz m).length=(FB m).length:=by unfold Hz EU; rw[List.length_map]
   have hal:=XV hnt
   have hxS:x<(FB m).length:=by omega
   obtain ⟨b,e,l1,_⟩:=hli.ld (x:=x) (by omega)
   obtain ⟨y,hy⟩:∃ y,(FB m)[x]=y:=⟨_,rfl⟩
   have hsy:Start m y:=Ew.1 (hy ▸ List.getElem_mem hxS)
   have hyl:=hsy.1
   have hg:(Hz m).getD x 0=((2*y:Nat):Int):=by
    unfold Hz; rw[Zi _ hxS,hy]
   rw[hg] at l1
   have ha:AU ((2*y:Nat):Int):=by unfold AU; omega
   have hh:=Z5 hsy
   have htk:(GL m).take (x+1)=(GL m).take x++[Cs m y]:=by
    have:(GL m)[x]?=some (Cs m y):=by
     unfold GL; rw[List.getElem?_map,List.getElem?_eq_getElem hxS,hy]; rfl
    rw[List.take_add_one,this]; rfl
   have htl:((GL m).take x).length=x:=by
    rw[List.length_take]; unfold GL; rw[List.length_map]; omega
   have qx:(0≤(x:Int)∧(x:Int)<(((Hz m).length:Nat):Int))=True:=eq_true (by omega)
   have w1:Cf ((x:Int)+1)=((x+1:Nat):Int):=Ak (by unfold AU; omega)
   have hst:=sG hsy
   obtain ⟨_,r1,r2,r3,r4,_⟩:=YY hM.inv hsy
   have eP:G0 (k+9) (AV i) ((2*y:Nat):Int) μ=_:=zP (k+4) h _ ha
   have hpin:tP m ((2*y:Nat):Int)=(Cs m y).lU:=by
    unfold tP; rw[hh,show ((2*y:Nat):Int).toNat/2=y from by omega,Bool.true_and]; rfl
   have lt:∀ q,q<lo→q<μ.length:=fun q hq=>by omega
   let O0:A6:=.cells [.int .i64 ((2*y:Nat):Int),.int .i64 0,.int .i64 0,.int .i64 0,.int .i64 0,.slice none 0 0,.slice none 0 0,.bool (tP m ((2*y:Nat):Int))] Ac true
   have c0:(μ++[O0])[μ.length]?=some O0:=by simp
   have h0:=h.app [O0]
   have eI:FG (k+9) (AV i) ((2*y:Nat):Int) (μ++[O0])=some (.tuple #[.int .i64 (m.wds.getD (2*y) 0),.int .i64 0],μ++[O0]):=by
    have:=Acg (k+3) h0 ((2*y:Nat):Int) ha
    rw[if_pos hh,Int.toNat_natCast] at this
    exact this
   have l00:Dg .i64 (μ++[O0]) μ.length 0=some ((2*y:Nat):Int):=by rw[BJ]; rfl
   let O1:A6:=.cells [.int .i64 ((2*y:Nat):Int),.int .i64 (m.wds.getD (2*y) 0),.int .i64 0,.int .i64 0,.int .i64 0,.slice none 0 0,.slice none 0 0,.bool (tP m ((2*y:Nat):Int))] Ac true
   have s1:K3 (μ++[O0]) μ.length 1 (.int .i64 (m.wds.getD (2*y) 0))=some (μ++[O1]):=by
    rw[wF _ _ _ _ _ (by simp)]; rfl
   have h1:=h.app [O1]
   have l10:Dg .i64 (μ++[O1]) μ.length 0=some ((2*y:Nat):Int):=by rw[BJ]; rfl
   obtain ⟨τ1,eS⟩:=dv (k+3) h1 ((2*y:Nat):Int) ha
   have eS':AE (k+9) (AV i) ((2*y:Nat):Int) (μ++[O1])=_:=eS
   rw[hst] at eS'
   let O2:A6:=.cells (Bf (Cs m y) ((none,0,0),(none,0,0))) Ac true
   obtain ⟨μ2,hμ2⟩:∃ μ2,(μ++[O1]++τ1).set μ.length O2=μ2:=⟨_,rfl⟩
   have l2:μ2.length=μ.length+1+τ1.length:=by rw[← hμ2,List.length_set,List.length_append,List.length_append,List.length_singleton]
   have c1:(μ++[O1]++τ1)[μ.length]?=some O1:=by rw[List.getElem?_append_left (by simp)]; simp
   have s2:XJ (μ++[O1]++τ1) μ.length 2 [.int .i64 (A5 m y),.int .i64 (BN m y),.int .i64 (Fm m y)]=some μ2:=by
    rw[ym c1 (by simp),← hμ2]
    congr 2
    show A6.cells _ _ _=A6.cells _ _ _
    congr 1
    rw[hpin]
    rfl
   have low2:∀ q,q<μ.length→μ2[q]?=μ[q]?:=fun q hq=>by
    rw[← hμ2,List.getElem?_set_ne (by omega),List.append_assoc,List.getElem?_append_left hq]
   have h2:An μ2 i m:=h.AG fun q hq=>low2 q (lt q (hi q hq))
   have bx2:T0 μ2 μ.length (Cs m y) ((none,0,0),(none,0,0)):=by
    unfold T0
    rw[← hμ2]; exact List.getElem?_set_self (by rw[List.length_append,List.length_append,List.length_singleton]; omega)
   have hin:∀ q ∈ i.l,q<μ.length:=fun q hq=>lt q (hi q hq)
   obtain ⟨μ3,p3,e3,bx3,li3,g3,m3⟩:=nJ (k+2) hM.inv (Cs m y) rfl ha (by show A5 m y≤1000; omega) (none,0,0) (A5 m y).toNat 0 (k+9) μ2 (none,0,0) h2 hin bx2 (B6.nil _) (fun q hq=>by simp[hs] at hq) (by show ((0:Nat):Int)+_=A5 m y; omega) (by omega)
   have h3':An μ3 i m:=h2.AG fun q hq=>m3.same q (by have:=hi q hq; omega) fun hm'=>by
    rcases List.mem_cons.1 hm' with rfl | hm'
    ·exact Nat.lt_irrefl _ (hin _ hq)
    ·simp[hs] at hm'
   have hp3:∀ q ∈ hs p3,μ.length<q:=g3
   obtain ⟨μ4,p4,e4,bx4,li4,g4,m4⟩:=nK (k+2) hM.inv (Cs m y) rfl ha (by show BN m y≤1000; omega) p3 (BN m y).toNat 0 (k+9) μ3 (none,0,0) h3' hin bx3 (B6.nil _) (fun q hq=>by simp[hs] at hq) (by show ((0:Nat):Int)+_=BN m y; omega) (by omega)
   rw[show ((0:Nat):Int)=0 from rfl] at e3 e4
   have m34:∀ q,q<μ2.length→q≠μ.length→μ3[q]?=μ2[q]?:=fun q hq hne=>m3.same q hq fun hm'=>by
    rcases List.mem_cons.1 hm' with rfl | hm'
    ·exact hne rfl
    ·simp[hs] at hm'
   have m45:∀ q,q<μ3.length→q≠μ.length→μ4[q]?=μ3[q]?:=fun q hq hne=>m4.same q hq fun hm'=>by
    rcases List.mem_cons.1 hm' with rfl | hm'
    ·exact hne rfl
    ·simp[hs] at hm'
   have l3:=m3.len
   have l4:=m4.len
   have low4:∀ q,q<μ.length→μ4[q]?=μ[q]?:=fun q hq=>by rw[m45 q (by omega) (by omega),m34 q (by omega) (by omega),low2 q hq]
   have hr4:K5 μ4 j ⟨m.bls,(GL m).take x,[],m.births⟩:=hr.AG (fun q hq=>low4 q (hr.lt q hq)) (by omega)
   have li3':B6 μ4 p3 ((List.range (A5 m y).toNat).map fun (x:Nat)=>Z4 m ((2*y:Nat):Int) ((x:Nat):Int) false):=li3.AG fun q hq=>m45 q (li3.lt q hq) (by have:=hp3 q hq; omega)
   rw[Ae4 hM.inv hsy] at li3'
   have li4':=li4
   rw[show (Cs m y).addr=((2*y:Nat):Int) from rfl,show (Cs m y).d=BN m y from rfl,Ae3 hM.inv hsy] at li4'
   have n4:∀ q ∈ hs p4,μ3.length≤q:=fun q hq=>by
    rcases m4.new q (List.mem_cons_of_mem _ hq) with hm' | hm'
    ·rcases List.mem_cons.1 hm' with rfl | hm'
     ·exact absurd (g4 _ hq) (Nat.lt_irrefl _)
     ·simp[hs] at hm'
    ·exact hm'
   obtain ⟨s5,μ5,μ6,e5,e6,r6,l6,q6,n6⟩:=hr4.Ajh (Cs m y) (p3,p4) (by show ((GL m).take x).length≤5000; omega) Ac li3'.g li4'.g (fun q hq=>by
    rcases hq with hq | hq
    ·refine ⟨li3'.lt q hq,fun hm'=>?_⟩
     have:=hr.lt q hm'; have:=hp3 q hq; omega
    ·refine ⟨li4.lt q hq,fun hm'=>?_⟩
     have:=hr.lt q hm'; have:=n4 q hq; omega) (fun q hq hm'=>by have:=li3.lt q hq; have:=n4 q hm'; omega)
   have r6:K5 μ6 { j with os:=s5,om:=j.om++[(p3,p4)] } ⟨m.bls,(GL m).take (x+1),[],m.births⟩:=by rw[htk]; exact r6
   have low6:∀ q,q<μ.length→q ∉ j.l→μ6[q]?=μ[q]?:=fun q hq hn'=>(q6 q (by omega) hn').trans (low4 q hq)
   have lowlo:∀ q,q<lo→μ6[q]?=μ[q]?:=fun q hq=>low6 q (by omega) fun hm'=>by have:=hl q hm'; omega
   have new6:∀ q,q ∈ ({ j with os:=s5,om:=j.om++[(p3,p4)] }:RI).l→q ∈ j.l∨μ.length<q:=fun q hq=>by
    rcases n6 q hq with hq | hq | hq | hq
    ·exact .inl hq
    ·exact .inr (by omega)
    ·exact .inr (hp3 q hq)
    ·exact .inr (by have:=n4 q hq; omega)
   obtain ⟨μ',j',e7,r7,b7,l7,n7,q7⟩:=nI k hk hM h3 lo (sl:=sl) n (x+1) f μ6 { j with os:=s5,om:=j.om++[(p3,p4)] } (h.AG fun q hq=>lowlo q (hi q hq)) r6 hj (fun q hq=>(new6 q hq).elim (hl q) fun h'=>by omega) hi (by omega) (hli.AG fun q hq=>low6 q (hli.lt q hq) (hd q hq).1) (fun q hq=>⟨fun hm'=>(new6 q hm').elim (hd q hq).1 fun h'=>by have:=hli.lt q hq; omega,(hd q hq).2⟩) (by omega) (by omega)
   refine ⟨μ',j', ?_,r7,b7,l7,by omega,fun q hq=>(q7 q hq).trans (lowlo q hq)⟩
   rw[e] at e7
   obtain ⟨z0,z1,z2,z3,z4,z5,z6,z7⟩:=bx4.ld
   have dob:Hx μ4 h3 1=some (j.os.1,x,x):=by
    have:=hr4.GJ
    rw[← hj]
    show Hx μ4 j.hb 1=_
    rw[this]
    show some (j.os.1,((GL m).take x).length,((GL m).take x).length)=_
    rw[htl]
   have e5':B9 P Ac (j.os.1,x,x) (some ⟨μ4.length,0,none⟩,1,1) (μ4++[A6.cells (Bf (Cs m y) (p3,p4)) Ac true])=some (s5,μ5):=by
    have e5:B9 P Ac (j.os.1,((GL m).take x).length,((GL m).take x).length) (some ⟨μ4.length,0,none⟩,1,1) (μ4++[A6.cells (Bf (Cs m y) (p3,p4)) Ac true])=some (s5,μ5):=e5
    rw[htl] at e5; exact e5
   have e6':K3 μ5 h3 1 (.slice s5.1 s5.2.1 s5.2.2)=some μ6:=by rw[← hj]; exact e6
   have box8:∀ (a b c d e f g hh:Value),XJ (μ++[A6.cells [.int .i64 0,.int .i64 0,.int .i64 0,.int .i64 0,.int .i64 0,.slice none 0 0,.slice none 0 0,.bool false] Ac true]) μ.length 0 [a,b,c,d,e,f,g,hh]=some (μ++[A6.cells [a,b,c,d,e,f,g,hh] Ac true]):=fun a b c d e f g hh=>uh rfl
   rw[Vu,Ou]
   simp only[sw,Ad,Af,Ae,decide_eq_true (show (x:Int)<(((Hz m).length:Nat):Int) by omega),cond_true,qx,if_true,e,Option.bind_some,Int.toNat_natCast,Nat.mul_one,Nat.zero_add,Nat.add_zero,Nat.reduceAdd,l1,eP,Ar,AM,box8]
   have eI':FG (k+9) (AV i) ((2*y:Nat):Int) (μ++[A6.cells [.int .i64 ((2*y:Nat):Int),.int .i64 0,.int .i64 0,.int .i64 0,.int .i64 0,.slice none 0 0,.slice none 0 0,.bool (tP m ((2*y:Nat):Int))] Ac true])=_:=eI
   have l00':Dg .i64 (μ++[A6.cells [.int .i64 ((2*y:Nat):Int),.int .i64 0,.int .i64 0,.int .i64 0,.int .i64 0,.slice none 0 0,.slice none 0 0,.bool (tP m ((2*y:Nat):Int))] Ac true]) μ.length 0=_:=l00
   have s1':K3 (μ++[A6.cells [.int .i64 ((2*y:Nat):Int),.int .i64 0,.int .i64 0,.int .i64 0,.int .i64 0,.slice none 0 0,.slice none 0 0,.bool (tP m ((2*y:Nat):Int))] Ac true]) μ.length 1 (.int .i64 (m.wds.getD (2*y) 0))=_:=s1
   rw[l00',Option.bind_some,eI',Option.bind_some]
   show (Lv (.tuple #[.int .i64 (m.wds.getD (2*y) 0),.int .i64 0]) _:Option Ax)=_
   rw[Fs]
   show ((K3 (μ++[O0]) μ.length 1 (.int .i64 (m.wds.getD (2*y) 0))).bind _:Option Ax)=_
   rw[s1,Option.bind_some,l10,Option.bind_some,eS']
   simp only[Option.bind_some,yt,List.length_cons,List.length_nil,Nat.zero_add,Nat.reduceAdd,if_true,List.head?_cons,List.tail_cons,Lm,Aj,s2,e3,e4,dob,z0,z1,z2,z3,z4,z5,z6,z7]
   have e5'':B9 P Ac (j.os.1,x,x) (some ⟨μ4.length,0,none⟩,1,1) (μ4++[A6.cells [.int .i64 (Cs m y).addr,.int .i64 (Cs m y).id,.int .i64 (Cs m y).r,.int .i64 (Cs m y).d,.int .i64 (Cs m y).k,.slice p3.1 p3.2.1 p3.2.2,.slice p4.1 p4.2.1 p4.2.2,.bool (Cs m y).lU] Ac true])=some (s5,μ5):=e5'
   simp only[e5'',Option.bind_some,e6',w1,e7]
theorem yL (k:Nat) (hk:10000≤k) (h:An σ i m) (hM:MK m):∃ τ j,Q3 (k+10) (AV i) σ=some (.pointer (Cq j),σ++τ)∧K5 (σ++τ) j ⟨m.bls,GL m,[],m.births⟩ ∧ ∀ q ∈ j.l,σ.length≤q:=by
 have hnt:=hM.nt
 have hal:=XV hnt
 have lt:=h.lt
 obtain ⟨B,hB⟩:∃ B,A6.cells [.slice none 0 0,.slice none 0 0,.slice none 0 0,.int .i64 m.births] Dk true=B:=⟨_,rfl⟩
 have hr0:K5 (σ++[B]) ⟨σ.length,(none,0,0),(none,0,0),(none,0,0),[]⟩ ⟨[],[],[],m.births⟩:=by
  refine ⟨by rw[← hB]; simp,EM.nil _ _ _,EM.nil _ _ _,.inl (EM.nil _ _ _),rfl,fun x hx=>by simp at hx,by simp[RI.l,hs],fun q hq=>?_⟩
  simp[RI.l,hs] at hq
  rw[hq]; simp
 have h0:=h.app [B]
 have eB:Gy (k+9) (AV i) σ=_:=zJ (k+7) h
 obtain ⟨μ1,j1,e1,r1,b1,n1,l1,q1⟩:=nH (k+6) hnt σ.length σ.length m.bls.length 0 (k+9) (σ++[B]) ⟨σ.length,(none,0,0),(none,0,0),(none,0,0),[]⟩ h0 hr0 rfl (fun q hq=>by simp[RI.l,hs] at hq; omega) lt (by simp) (by omega) (by omega)
 rw[show ((0:Nat):Int)=0 from rfl] at e1
 rw[List.length_append,List.length_singleton] at l1
 have low1:∀ q,q<σ.length→μ1[q]?=σ[q]?:=fun q hq=>(q1 q hq).trans (List.getElem?_append_left hq)
 have h1:An μ1 i m:=h.AG fun q hq=>low1 q (lt q hq)
 obtain ⟨τ2,sl,e2,li⟩:=sN (k+3) (by omega) h1
 have e2':Bv (k+9) (AV i) μ1=_:=e2
 have hge:=li.ge
 have li:B6 (μ1++τ2) sl (Hz m):=B6.ints li
 obtain ⟨μ3,j3,e3,r3,b3,n3,l3,q3⟩:=nI k (by omega) hM σ.length σ.length (sl:=sl) (Hz m).length 0 (k+9) (μ1++τ2) j1 (h1.app τ2) (by rw[List.take_zero]; exact r1.app τ2) b1 n1 lt (by rw[List.length_append]; omega) li (fun q hq=>by
  obtain ⟨a,ha,rfl⟩:=Ch.1 hq
  have:=(hge a ha).1
  exact ⟨fun hm'=>by have:=r1.lt _ hm'; omega,by omega⟩) (by omega) (by omega)
 rw[show ((0:Nat):Int)=0 from rfl] at e3
 obtain ⟨τ,hτ⟩:∃ τ,μ3=σ++τ:=by
  refine Se (by rw[List.length_append] at l3; omega) fun q hq=>?_
  rw[q3 q hq,List.getElem?_append_left (by omega),low1 q hq]
 refine ⟨τ,j3, ?_,by rw[← hτ]; exact r3,n3⟩
 have f:=li.form
 have f1:sl.2.1=(Hz m).length:=by rw[f]
 have f2:sl.2.2=(Hz m).length:=by rw[f]
 rw[mG,Zm]
 simp only[sw,Ad,Af,Ae,eB,Option.bind_some,Aj,AM,hB,e1,if_true,e2',H7,f1,f2,e3,hτ]
 unfold Cq
 rw[b3]
end Go.Proofs.YtjbledomkmdkmaaGreat
end
section
namespace Go.Proofs.YtjbledomkmdkmaaGreat
open Go Go.AX
noncomputable local instance qHB:A9:=Aw
local instance nHB:Kn:=⟨true⟩
variable {σ:Aa} {t:RM} {j j':RI}
theorem np (k:Nat) {s1 s2:Ce} {l:List Int} (h1:Fg σ s1 l) (h2:Fg σ s2 l) (hl:l.length≤1000000) (c1 c2:Nat):∀ (n x f:Nat),x+n=l.length→n<f →
  Ge k f s1.1 l.length c1 s2.1 l.length c2 (x:Int) σ=some (.exit 0,[],σ)
 | n,x,0,hx,hf=>by omega
 | 0,x,f+1,hx,hf=>by
   rw[Pd,Ln]
   simp only[sw,Ad,Af,Ae,decide_eq_false (show ¬ (x:Int)<((l.length:Nat):Int) by omega),cond_false]
 | n+1,x,f+1,hx,hf=>by
   obtain ⟨b1,e1,l1,_⟩:=h1.ldx (x:=x) (by omega)
   obtain ⟨b2,e2,l2,_⟩:=h2.ldx (x:=x) (by omega)
   have qx:(0≤(x:Int)∧(x:Int)<((l.length:Nat):Int))=True:=eq_true (by omega)
   have w1:Cf ((x:Int)+1)=((x+1:Nat):Int):=Ak (by unfold AU; omega)
   have ih:=np k h1 h2 hl c1 c2 n (x+1) f (by omega) (by omega)
   rw[e1,e2] at ih
   rw[Pd,Ln]
   simp only[sw,Ad,Af,Ae,decide_eq_true (show (x:Int)<((l.length:Nat):Int) by omega),cond_true,qx,if_true,e1,e2,Option.bind_some,Int.toNat_natCast,Nat.mul_one,Nat.zero_add,l1,l2,bne_self_eq_false,cond_false,w1,ih]
theorem mU (k:Nat) {s1 s2:Ce} {l:List Int} (h1:Fg σ s1 l) (h2:Fg σ s2 l) (hl:l.length≤1000000) (hk:l.length<k):D6 (k+1) (s1.1,s1.2.1,s1.2.2) (s2.1,s2.2.1,s2.2.2) σ=some (.bool true,σ):=by
 have e:=np k h1 h2 hl s1.2.2 s2.2.2 l.length 0 k (by omega) hk
 rw[show ((0:Nat):Int)=0 from rfl] at e
 rw[ah,U7]
 simp only[sw,Ad,Af,Ae,h1.1,h2.1,bne_self_eq_false,cond_false,e,Option.bind_some,if_true]
theorem Akg (x y x' y':Int):Od P Am (.agg #[.int .i64 x,.int .i64 y]) (.agg #[.int .i64 x',.int .i64 y'])=(bif x == x' then some (y == y') else some false):=by kernel_rfl
theorem Akj (a b c a' b' c':Int):Od P Ag (.agg #[.int .i64 a,.int .i64 b,.int .i64 c]) (.agg #[.int .i64 a',.int .i64 b',.int .i64 c'])=(bif a == a' then (bif b == b' then some (c == c') else some false) else some false):=by kernel_rfl
theorem nN (k:Nat) (h1:K5 σ j t) (h2:K5 σ j' t) (hn:t.bl.length≤1000):∀ (n x f:Nat),x+n=t.bl.length→n<f →
  FX k f (Cq j) (Cq j') (x:Int) σ=some (.exit 0,[],σ)
 | n,x,0,hx,hf=>by omega
 | 0,x,f+1,hx,hf=>by
   rw[Q4,JO]
   simp only[sw,Ad,Af,Ae,Option.bind_some,Nat.zero_add,Nat.add_zero,h1.K2,decide_eq_false (show ¬ (x:Int)<((t.bl.length:Nat):Int) by omega),cond_false]
 | n+1,x,f+1,hx,hf=>by
   obtain ⟨b1,e1,l1,l1',_⟩:=ZF h1.bl (x:=x) (by omega)
   obtain ⟨b2,e2,l2,l2',_⟩:=ZF h2.bl (x:=x) (by omega)
   have qx:(0≤(x:Int)∧(x:Int)<((t.bl.length:Nat):Int))=True:=eq_true (by omega)
   have w1:Cf ((x:Int)+1)=((x+1:Nat):Int):=Ak (by unfold AU; omega)
   have ih:=nN k h1 h2 hn n (x+1) f (by omega) (by omega)
   rw[Q4,JO]
   simp only[sw,Ad,Af,Ae,Option.bind_some,Nat.zero_add,Nat.add_zero,h1.K2,h2.K2,decide_eq_true (show (x:Int)<((t.bl.length:Nat):Int) by omega),cond_true,qx,if_true,e1,e2,Int.toNat_natCast,l1,l1',l2,l2',Akg,beq_self_eq_true,Bool.not_true,cond_false,w1,ih]
theorem nO (k:Nat) (hk:1000<k) (hn:t.ob.length≤5000) (hsm:∀ o ∈ t.ob,o.refs.length≤500∧o.data.length≤500):∀ (n x f:Nat) (σ:Aa),K5 σ j t→K5 σ j' t→x+n=t.ob.length→n<f →
  ∃ τ,FY (k+1) f (Cq j) (Cq j') (x:Int) σ=some (.exit 2,[],σ++τ)
 | n,x,0,σ,h1,h2,hx,hf=>by omega
 | 0,x,f+1,σ,h1,h2,hx,hf=>by
   rw[Q5,JP]
   exact ⟨[],by simp only[sw,Ad,Af,Ae,Option.bind_some,Nat.zero_add,Nat.add_zero,h1.GJ,decide_eq_false (show ¬ (x:Int)<((t.ob.length:Nat):Int) by omega),cond_false,List.append_nil]⟩
 | n+1,x,f+1,σ,h1,h2,hx,hf=>by
   have hxl:x<t.ob.length:=by omega
   obtain ⟨b1,e1,_,L1⟩:=h1.obj hxl
   obtain ⟨b2,e2,_,L2⟩:=h2.obj hxl
   have ho1:x<j.om.length:=by rw[h1.ol]; exact hxl
   have ho2:x<j'.om.length:=by rw[h2.ol]; exact hxl
   have L1:=L1 ho1
   have L2:=L2 ho2
   obtain ⟨n1,n2⟩:=h1.inn x hxl ho1
   obtain ⟨n3,n4⟩:=h2.inn x hxl ho2
   obtain ⟨s1,s2⟩:=hsm _ (List.getElem_mem hxl)
   generalize t.ob[x]=o at L1 L2 n1 n2 n3 n4 s1 s2
   generalize j.om[x]=p at L1 n1 n2
   generalize j'.om[x]=p' at L2 n3 n4
   have qx:(0≤(x:Int)∧(x:Int)<((t.ob.length:Nat):Int))=True:=eq_true (by omega)
   have w1:Cf ((x:Int)+1)=((x+1:Nat):Int):=Ak (by unfold AU; omega)
   obtain ⟨A,hA⟩:∃ A,A6.cells (Bf o p) Ac true=A:=⟨_,rfl⟩
   obtain ⟨A',hA'⟩:∃ A',A6.cells (Bf o p') Ac true=A':=⟨_,rfl⟩
   obtain ⟨μ,hμ⟩:∃ μ,σ++[A]++[A']=μ:=⟨_,rfl⟩
   have hμσ:μ=σ++([A]++[A']):=by rw[← hμ,List.append_assoc]
   have bx1:T0 μ σ.length o p:=by unfold T0; rw[← hμ,List.getElem?_append_left (by simp),List.getElem?_concat_length,hA]
   have bx2:T0 μ (σ.length+1) o p':=by
    unfold T0
    have:(σ++[A]).length=σ.length+1:=by simp
    rw[← hμ,← this,List.getElem?_concat_length,hA']
   obtain ⟨z0,z1,z2,z3,z4,z5,z6,z7⟩:=bx1.ld
   obtain ⟨y0,y1,y2,y3,y4,y5,y6,y7⟩:=bx2.ld
   have eI1:D6 (k+1) (p.1.1,p.1.2.1,p.1.2.2) (p'.1.1,p'.1.2.1,p'.1.2.2) μ=_:=mU k (l:=o.refs) (by rw[hμσ]; exact n1.app _) (by rw[hμσ]; exact n3.app _) (by omega) (by omega)
   have eI2:D6 (k+1) (p.2.1,p.2.2.1,p.2.2.2) (p'.2.1,p'.2.2.1,p'.2.2.2) μ=_:=mU k (l:=o.data) (by rw[hμσ]; exact n2.app _) (by rw[hμσ]; exact n4.app _) (by omega) (by omega)
   obtain ⟨τ,e3⟩:=nO k hk hn hsm n (x+1) f μ (by rw[hμσ]; exact h1.app _) (by rw[hμσ]; exact h2.app _) (by omega) (by omega)
   refine ⟨[A]++[A']++τ, ?_⟩
   have sa1:XJ (σ++[A6.cells [.int .i64 0,.int .i64 0,.int .i64 0,.int .i64 0,.int .i64 0,.slice none 0 0,.slice none 0 0,.bool false] Ac true]++[A6.cells [.int .i64 0,.int .i64 0,.int .i64 0,.int .i64 0,.int .i64 0,.slice none 0 0,.slice none 0 0,.bool false] Ac true]) σ.length 0 [.int .i64 o.addr,.int .i64 o.id,.int .i64 o.r,.int .i64 o.d,.int .i64 o.k,.slice p.1.1 p.1.2.1 p.1.2.2,.slice p.2.1 p.2.2.1 p.2.2.2,.bool o.lU]=some (σ++[A]++[A6.cells [.int .i64 0,.int .i64 0,.int .i64 0,.int .i64 0,.int .i64 0,.slice none 0 0,.slice none 0 0,.bool false] Ac true]):=by
    have hc:(σ++[A6.cells [.int .i64 0,.int .i64 0,.int .i64 0,.int .i64 0,.int .i64 0,.slice none 0 0,.slice none 0 0,.bool false] Ac true]++[A6.cells [.int .i64 0,.int .i64 0,.int .i64 0,.int .i64 0,.int .i64 0,.slice none 0 0,.slice none 0 0,.bool false] Ac true])[σ.length]?=some (.cells [.int .i64 0,.int .i64 0,.int .i64 0,.int .i64 0,.int .i64 0,.slice none 0 0,.slice none 0 0,.bool false] Ac true):=by
     rw[List.getElem?_append_left (by simp),List.getElem?_concat_length]
    rw[ym hc (by simp)]
    rw[List.append_assoc,List.set_append_right _ _ (Nat.le_refl _),Nat.sub_self]
    simp only[List.singleton_append,List.set_cons_zero,AL]
    rw[List.append_assoc,← hA]
    simp[Bf]
   have lz:(σ++[A6.cells [.int .i64 0,.int .i64 0,.int .i64 0,.int .i64 0,.int .i64 0,.slice none 0 0,.slice none 0 0,.bool false] Ac true]).length=σ.length+1:=by simp
   have sa2:XJ (σ++[A]++[A6.cells [.int .i64 0,.int .i64 0,.int .i64 0,.int .i64 0,.int .i64 0,.slice none 0 0,.slice none 0 0,.bool false] Ac true]) (σ.length+1) 0 [.int .i64 o.addr,.int .i64 o.id,.int .i64 o.r,.int .i64 o.d,.int .i64 o.k,.slice p'.1.1 p'.1.2.1 p'.1.2.2,.slice p'.2.1 p'.2.2.1 p'.2.2.2,.bool o.lU]=some μ:=by
    have:(σ++[A]).length=σ.length+1:=by simp
    rw[← this,ym (List.getElem?_concat_length) (by simp),List.set_append_right _ _ (Nat.le_refl _),Nat.sub_self,← hμ]
    simp only[List.set_cons_zero,AL]
    rw[← hA']
    simp[Bf]
   rw[Q5,JP]
   simp only[sw,Ad,Af,Ae,Option.bind_some,Nat.zero_add,Nat.add_zero,Nat.reduceAdd,h1.GJ,h2.GJ,decide_eq_true (show (x:Int)<((t.ob.length:Nat):Int) by omega),cond_true,qx,if_true,e1,e2,Int.toNat_natCast,Nat.add_assoc,L1.l0,L1.l1,L1.l2,L1.l3,L1.l4,L1.l5,L1.l6,L1.l7,L2.l0,L2.l1,L2.l2,L2.l3,L2.l4,L2.l5,L2.l6,L2.l7,AM,lz,sa1,sa2,z0,y0,bne_self_eq_false,cond_false,z1,y1,z2,z3,z4,y2,y3,y4,Akj,beq_self_eq_true,Bool.not_true,z7,y7,z5,y5,eI1,Ar,z6,y6,eI2,w1]
   rw[e3,hμσ]
   simp only[List.append_assoc]
theorem uK (k:Nat) (hk:10000≤k) (h1:K5 σ j t) (h2:K5 σ j' t) (hb:t.bl.length≤1000) (hn:t.ob.length≤5000) (hsm:∀ o ∈ t.ob,o.refs.length≤500∧o.data.length≤500):∃ τ,Kj (k+2) (Cq j) (Cq j') σ=some (.bool true,σ++τ):=by
 have e1:=nN (k+1) h1 h2 hb t.bl.length 0 (k+1) (by omega) (by omega)
 obtain ⟨τ,e2⟩:=nO k (by omega) hn hsm t.ob.length 0 (k+1) σ h1 h2 (by omega) (by omega)
 rw[show ((0:Nat):Int)=0 from rfl] at e1 e2
 refine ⟨τ, ?_⟩
 rw[dZ,RL]
 simp only[sw,Ad,Af,Ae,Option.bind_some,Nat.zero_add,Nat.add_zero,h1.K2,h2.K2,bne_self_eq_false,cond_false,h1.GJ,h2.GJ,h1.uu,h2.uu,e1,e2,if_true]
end Go.Proofs.YtjbledomkmdkmaaGreat
end
section
namespace Go.Proofs.YtjbledomkmdkmaaGreat
open Go Go.AX
noncomputable local instance qHC:A9:=Aw
local instance nHC:Kn:=⟨true⟩
variable {σ:Aa} {r:K4} {q q':HM × TC}
theorem pX (r:K4):∀ (n:Nat) (q:HM × TC),(EY r n q).1≤n
 | 0,q=>by simp[EY]
 | n+1,q=>by
   rw[EY]
   split
   ·exact Nat.zero_le _
   ·have:=pX r n (jA q.1 r q.2)
    show _+1≤_; omega
structure PX (σ:Aa) (X Y:XI) (r:K4) (q q':HM × TC):Prop where
 x:iu σ X q.1 r q.2
 y:iu σ Y q'.1 r q'.2
 dj:Dj X.Ls.flatten Y.Ls.flatten
theorem iu.flt {X:XI} {m:HM} {s:TC} (h:iu σ X m r s):∀ p ∈ X.Ls.flatten,p<σ.length:=fun p hp=>by
 obtain ⟨L,hL,hp⟩:=List.mem_flatten.1 hp
 exact h.fp.lt L hL p hp
theorem PX.symm {X Y:XI} (P:PX σ X Y r q q'):PX σ Y X r q' q:=⟨P.y,P.x,P.dj.symm⟩
theorem PX.go {X Y:XI} (P:PX σ X Y r q q') {mm:Option (Value × Aa)} {v:Value} {q1:HM × TC} (g:XG mm σ X r v q1):∃ σ' X',mm=some (v,σ')∧PX σ' X' Y r q1 q'∧X'.xb=X.xb∧X'.kb=X.kb:=by
 obtain ⟨σ',X',e,h,hm,hx,hk⟩:=g
 obtain ⟨a,b,_⟩:=hm.GI (X:=Y.Ls.flatten) P.y.flt fun p hp hp'=>P.dj p hp' hp
 refine ⟨σ',X',e,⟨h,P.y.AG hm.len fun L hL p hp=>a p (List.mem_flatten.2 ⟨L,hL,hp⟩),fun p hp hp'=>b p hp' hp⟩,hx,hk⟩
def PY (σ:Aa) (xb kb yb lb:Nat) (r:K4) (q q':HM × TC):Prop:=∃ X Y,PX σ X Y r q q'∧X.xb=xb∧X.kb=kb∧Y.xb=yb∧Y.kb=lb
variable {xb kb yb lb:Nat}
theorem PY.symm (h:PY σ xb kb yb lb r q q'):PY σ yb lb xb kb r q' q:=by
 obtain ⟨X,Y,P,a,b,c,d⟩:=h
 exact ⟨Y,X,P.symm,c,d,a,b⟩
theorem PY.app (h:PY σ xb kb yb lb r q q') (τ:Aa):PY (σ++τ) xb kb yb lb r q q':=by
 obtain ⟨X,Y,P,a,b,c,d⟩:=h
 exact ⟨X,Y,⟨P.x.app τ,P.y.app τ,P.dj⟩,a,b,c,d⟩
theorem PY.l1 (h:PY σ xb kb yb lb r q q'):L8 σ xb 1=some (some ⟨kb,0,none⟩):=by
 obtain ⟨X,Y,P,rfl,rfl,_,_⟩:=h
 exact P.x.GJ
theorem PY.lt (h:PY σ xb kb yb lb r q q'):xb<σ.length:=by
 obtain ⟨X,Y,P,rfl,rfl,_,_⟩:=h
 exact P.x.fp.lt [X.xb] (by simp[XI.Ls]) _ (by simp)
theorem PY.go (h:PY σ xb kb yb lb r q q') {mm:Option (Value × Aa)} {v:Value} {q1:HM × TC} (g:∀ X:XI,X.xb=xb→X.kb=kb→iu σ X q.1 r q.2→XG mm σ X r v q1):∃ σ',mm=some (v,σ')∧PY σ' xb kb yb lb r q1 q':=by
 obtain ⟨X,Y,P,a,b,c,d⟩:=h
 obtain ⟨σ',X',e,P',hx,hk⟩:=P.go (g X a b P.x)
 exact ⟨σ',e,X',Y,P',hx.trans a,hk.trans b,c,d⟩
theorem PY.start (k:Nat) (hk:5000≤k) (h:PY σ xb kb yb lb r q q') (hp:q.2.ph=0) (hs:dk q.1 r=true):∃ σ',BF (k+14) (some ⟨kb,0,none⟩) σ=some (.int .i64 0,σ')∧PY σ' xb kb yb lb r (q.1,ui q.1 r q.2) q':=
 h.go fun X hx hk' hX=>by subst hk'; exact Aak k hk hX hp hs
theorem PY.step (k:Nat) (hk:20000≤k) (h:PY σ xb kb yb lb r q q') {N:Nat} (h1:1≤N) (hN:N≤10000):∃ σ',Bl (k+17) (some ⟨kb,0,none⟩) (N:Int) σ=some (.tuple #[.int .i64 ((EY r N q).1:Int),.int .i64 0],σ')∧PY σ' xb kb yb lb r (EY r N q).2 q':=
 h.go fun X hx hk' hX=>by subst hk'; exact Ado k hk hX h1 hN
theorem PY.phase (k:Nat) (h:PY σ xb kb yb lb r q q'):BE (k+3) (some ⟨kb,0,none⟩) σ=some (.int .i64 q.2.ph,σ):=by
 obtain ⟨X,Y,P,rfl,rfl,_,_⟩:=h
 exact Aaj k P.x
theorem PY.list (k:Nat) (h:PY σ xb kb yb lb r q q'):∃ l τ,BU (k+3) (some ⟨kb,0,none⟩) σ=some (.slice l.1 l.2.1 l.2.2,σ++τ)∧B6 (σ++τ) l q.2.list∧q.2.list.length≤5000:=by
 obtain ⟨X,Y,P,rfl,rfl,_,_⟩:=h
 have hnt:=P.x.t.mo.nt
 have hlen:=P.x.t.tok.len
 obtain ⟨l,τ,a,b⟩:=Adn k P.x
 exact ⟨l,τ,a,b,by omega⟩
theorem PY.left (k:Nat) (h:PY σ xb kb yb lb r q q'):∃ l τ,Fe (k+3) (some ⟨kb,0,none⟩) σ=some (.slice l.1 l.2.1 l.2.2,σ++τ)∧B6 (σ++τ) l q.2.left∧q.2.left.length≤5000:=by
 obtain ⟨X,Y,P,rfl,rfl,_,_⟩:=h
 have hnt:=P.x.t.mo.nt
 have hlen:=P.x.t.tok.lf
 obtain ⟨l,τ,a,b⟩:=Adm k P.x
 exact ⟨l,τ,a,b,by omega⟩
theorem PY.heap (h:PY σ xb kb yb lb r q q'):∃ sb i,L8 σ xb 0=some (some ⟨sb,0,none⟩)∧L8 σ sb 0=some (AV i)∧An σ i q.1∧MK q.1:=by
 obtain ⟨X,Y,P,rfl,rfl,_,_⟩:=h
 exact ⟨X.I.sb,X.I.i,P.x.K2,P.x.ldH,P.x.t.h,P.x.t.mo⟩
theorem yf {m:HM} (hM:MK m):∀ o ∈ GL m,o.refs.length≤500∧o.data.length≤500:=by
 intro o ho
 obtain ⟨j,hj,rfl⟩:=List.mem_map.1 ho
 obtain ⟨_,a,b,c,d,_⟩:=YY hM.inv (Ew.1 hj)
 exact ⟨by show (Sp m _ _).length≤500; rw[HR]; omega,by show (Sp m _ _).length≤500; rw[HR]; omega⟩
theorem Ae1 {m:HM} (hM:MK m):(GL m).length≤5000:=by
 have:=XV hM.nt
 unfold Hz EU at this
 unfold GL
 rw[List.length_map] at this ⊢
 omega
theorem Aki (a:Addr):Od P Hd (.pointer (some a)) (.pointer none)=some false:=by kernel_rfl
theorem oT {ρ:Type} {a:Addr} {σ σ':Aa} {m:Option ρ} (h:σ'[a.block]?=σ[a.block]?):Oe (some a) σ σ' m=m:=by
 have:A9.k σ σ' a.block=true:=by unfold A9.k qHC Aw; simpa using h
 show (bif A9.k σ σ' a.block then m else none)=m
 rw[this,cond_true]
theorem Agg {α:Type} {o:Option α} {f:α→Option (Value × Aa)} {v:α} {w:Value} (h:o=some v) (h2:∃ s,f v=some (w,s)):∃ s,o.bind f=some (w,s):=by rw[h]; exact h2
theorem Acz (k:Nat) (hk:20000≤k) (B:Bg) {n1 n2 n3:Nat} (h1:n1<256) (h2:n2<256) (h3:n3<256) {lo:Nat} (hA:kS lo σ B) (hlo:lo≤σ.length):
  ∃ σ',Ju (k+20) B.bl B.mu (B.ob.p,B.ob.n,B.ob.c) (B.de.p,B.de.n,B.de.c) (B.li.p,B.li.n,B.li.c) (B.pl.p,B.pl.n,B.pl.c) (B.pi.p,B.pi.n,B.pi.c) (n1:Int) (n2:Int) (n3:Int) σ=some (.bool true,σ'):=by
 obtain ⟨m,r,hM,hR,hL,run⟩:=Adl (k+4) (by omega) B hA.b0 hA.m0
 have hS:dk m r=true:=Afb hM.inv hR hL
 obtain ⟨BX,hBX⟩:∃ BX,A6.cells [.int .u8 B.bl,.int .u8 B.mu,.slice B.ob.p B.ob.n B.ob.c,.slice B.de.p B.de.n B.de.c,.slice B.li.p B.li.n B.li.c,.slice B.pl.p B.pl.n B.pl.c,.slice B.pi.p B.pi.n B.pi.c] DC true=BX:=⟨_,rfl⟩
 have ld:∀ μ:Aa,μ[σ.length]?=some BX→Dg .u8 μ σ.length 0=some B.bl∧Dg .u8 μ σ.length 1=some B.mu∧Hx μ σ.length 2=some (B.ob.p,B.ob.n,B.ob.c)∧Hx μ σ.length 3=some (B.de.p,B.de.n,B.de.c)∧Hx μ σ.length 4=some (B.li.p,B.li.n,B.li.c)∧Hx μ σ.length 5=some (B.pl.p,B.pl.n,B.pl.c)∧Hx μ σ.length 6=some (B.pi.p,B.pi.n,B.pi.c):=by
  intro μ hμ
  simp[Dg,Hx,Gi,hμ,← hBX,H7,Ml]
 obtain ⟨σ1,X,e1,g1,a1,l1,q1⟩:=run lo (σ++[BX]) (hA.GI fun q hq=>List.getElem?_append_left (by omega)) (by rw[List.length_append]; omega)
 have sq1:∀ q,q<σ.length→σ1[q]?=σ[q]?:=fun q hq=>by rw[q1 q (by simp; omega),List.getElem?_append_left hq]
 rw[List.length_append,List.length_singleton] at l1
 obtain ⟨σ2,Y,e2,g2,a2,l2,q2⟩:=run lo σ1 (hA.GI fun q hq=>sq1 q (by omega)) (by omega)
 have b0:(σ++[BX])[σ.length]?=some BX:=List.getElem?_concat_length
 have b1:σ1[σ.length]?=some BX:=by rw[q1 _ (by simp),b0]
 obtain ⟨u0,u1,u2,u3,u4,u5,u6⟩:=ld _ b0
 obtain ⟨w0,w1,w2,w3,w4,w5,w6⟩:=ld _ b1
 unfold xm Ak2 at e1 e2
 have P0:PY σ2 X.xb X.kb Y.xb Y.kb r (m,ja m.bls.length false 2) (m,ja m.bls.length false 2):=
  ⟨X,Y,⟨g1.AG l2 fun L hL p hp=>q2 p (g1.fp.lt L hL p hp),g2,fun p hp hp'=>by
   obtain ⟨L,hL,hp'⟩:=List.mem_flatten.1 hp'
   have:=g1.flt p hp
   have:=a2 L hL p hp'
   omega⟩,rfl,rfl,rfl,rfl⟩
 generalize X.xb=xb at *
 generalize X.kb=kb at *
 generalize Y.xb=yb at *
 generalize Y.kb=lb at *
 obtain ⟨σ3,e3,P1⟩:=P0.start (k+5) (by omega) rfl hS
 obtain ⟨σ4,e4,P1'⟩:=P1.symm.start (k+5) (by omega) rfl hS
 have P2:=P1'.symm
 generalize hq0:(((m,ja m.bls.length false 2):HM × TC).1,ui ((m,ja m.bls.length false 2):HM × TC).1 r ((m,ja m.bls.length false 2):HM × TC).2)=q0 at P2
 obtain ⟨σ6,q6,P6,hyes,hno⟩:∃ σ6 q6,PY σ6 xb kb yb lb r q6 q6∧(0<n1 → ∃ σ5 z,Bl (k+19) (some ⟨kb,0,none⟩) (n1:Int) σ4=some (.tuple #[.int .i64 z,.int .i64 0],σ5)∧Bl (k+19) (some ⟨lb,0,none⟩) (n1:Int) σ5=some (.tuple #[.int .i64 z,.int .i64 0],σ6)∧L8 σ5 yb 1=some (some ⟨lb,0,none⟩))∧(n1=0→σ6=σ4):=by
  by_cases h0:n1=0
  ·exact ⟨σ4,q0,P2,fun h=>by omega,fun _=>rfl⟩
  ·obtain ⟨σ5,e5,P5⟩:=P2.step (k+2) (by omega) (N:=n1) (by omega) (by omega)
   obtain ⟨σ6,e6,P6⟩:=P5.symm.step (k+2) (by omega) (N:=n1) (by omega) (by omega)
   exact ⟨σ6,_,P6.symm,fun _=>⟨σ5,_,e5,e6,P5.symm.l1⟩,fun h=>absurd h h0⟩
 have t2:((n2:Nat):Int).tmod 20=((n2 % 20:Nat):Int):=fX n2 20
 have t3:((n3:Nat):Int).tmod 20=((n3 % 20:Nat):Int):=fX n3 20
 have y1:Cf ((n1:Nat):Int)=n1:=Ak (by unfold AU; omega)
 have y2:Cf ((n2:Nat):Int)=n2:=Ak (by unfold AU; omega)
 have y3:Cf ((n3:Nat):Int)=n3:=Ak (by unfold AU; omega)
 have c2:Cf ((1:Int)+((n2 % 20:Nat):Int))=((1+n2 % 20:Nat):Int):=by rw[Ak (by unfold AU; omega)]; omega
 have c3:Cf ((1:Int)+((n3 % 20:Nat):Int))=((1+n3 % 20:Nat):Int):=by rw[Ak (by unfold AU; omega)]; omega
 have la:1≤1+n2 % 20∧1+n2 % 20≤20:=by omega
 have lc:1≤1+n3 % 20∧1+n3 % 20≤20:=by omega
 generalize 1+n2 % 20=a at *
 generalize 1+n3 % 20=c at *
 have cc:Cf (((a:Nat):Int)+((c:Nat):Int))=((a+c:Nat):Int):=by rw[Ak (by unfold AU; omega)]; omega
 obtain ⟨σ7,e7,P7⟩:=P6.step (k+2) (by omega) (N:=a) (by omega) (by omega)
 obtain ⟨σ8,e8,P8⟩:=P7.step (k+2) (by omega) (N:=c) (by omega) (by omega)
 obtain ⟨σ9,e9,P9⟩:=P8.symm.step (k+2) (by omega) (N:=a+c) (by omega) (by omega)
 have v1:=P7.l1
 have v2:=P8.symm.l1
 have z1:=pX r a q6
 have z2:=pX r c (EY r a q6).2
 rw[sH] at e9 P9
 have zz:Cf (((EY r a q6).1:Int)+((EY r c (EY r a q6).2).1:Int))=(((EY r a q6).1+(EY r c (EY r a q6).2).1:Nat):Int):=by rw[Ak (by unfold AU; omega)]; omega
 dsimp only at P9
 generalize (EY r c (EY r a q6).2).2=q9 at *
 generalize (EY r c (EY r a q6).2).1=z2 at *
 generalize (EY r a q6).1=z1 at *
 have Px:=P9.symm
 have Py:=P9
 have f1:=Px.phase (k+16)
 have f2:=Py.phase (k+16)
 obtain ⟨s1,τ1,f3,li1,ln1⟩:=Px.list (k+16)
 have Px1:=Px.app τ1
 have Py1:=Py.app τ1
 obtain ⟨s2,τ2,f4,li2,_⟩:=Py1.list (k+16)
 have I1:D6 (k+19) (s1.1,s1.2.1,s1.2.2) (s2.1,s2.2.1,s2.2.2) (σ9++τ1++τ2)=_:=mU (k+18) (li1.app τ2).g li2.g (by omega) (by omega)
 have Px2:=Px1.app τ2
 have Py2:=Py1.app τ2
 obtain ⟨s3,τ3,f5,li3,ln3⟩:=Px2.left (k+16)
 have Px3:=Px2.app τ3
 have Py3:=Py2.app τ3
 obtain ⟨s4,τ4,f6,li4,_⟩:=Py3.left (k+16)
 have I2:D6 (k+19) (s3.1,s3.2.1,s3.2.2) (s4.1,s4.2.1,s4.2.2) (σ9++τ1++τ2++τ3++τ4)=_:=mU (k+18) (li3.app τ4).g li4.g (by omega) (by omega)
 have Px4:=Px3.app τ4
 have Py4:=Py3.app τ4
 obtain ⟨sb,i,d1,d2,hp,hm⟩:=Px4.heap
 obtain ⟨τ5,j,f7,ra,_⟩:=yL (k+9) (by omega) hp hm
 have Py5:=Py4.app τ5
 obtain ⟨sb',i',d3,d4,hp',_⟩:=Py5.heap
 obtain ⟨τ6,j',f8,rb,_⟩:=yL (k+9) (by omega) hp' hm
 have hnt:=hm.nt
 obtain ⟨τ7,f9⟩:=uK (k+17) (by omega) (ra.app τ6) rb (by show q9.1.bls.length≤1000; omega) (Ae1 hm) (yf hm)
 have i0:=Px.l1
 have j0:=Py.l1
 have j1:=Py1.l1
 have i2:=Px2.l1
 have j3:=Py3.l1
 have kp1:(σ9++τ1)[yb]?=σ9[yb]?:=List.getElem?_append_left Py.lt
 have kp2:(σ9++τ1++τ2++τ3)[yb]?=(σ9++τ1++τ2)[yb]?:=List.getElem?_append_left Py2.lt
 have x0:=P0.l1
 have x1:=P1.symm.l1
 have x2:=P2.l1
 have x6:=P6.l1
 rw[bV,Qk]
 simp only[sw,Ad,Af,Ae,AM,hBX,Nat.zero_add,Nat.reduceAdd,u0,u1,u2,u3,u4,u5,u6,Option.bind_some,e1,NJ,oT (a:=⟨σ.length,0,none⟩) (b1.trans b0.symm),w0,w1,w2,w3,w4,w5,w6,e2,Aki,cond_false,x0,e3,Aj,bne_self_eq_false,x1,e4]
 refine Agg (v:=(Dh.normal,[],σ6)) ?_ ?_
 ·by_cases h0:n1=0
  ·simp only[decide_eq_false (show ¬ ((n1:Nat):Int)>0 by omega),cond_false,hno h0]
  ·obtain ⟨σ5,z,g1,g2,g3⟩:=hyes (by omega)
   simp only[decide_eq_true (show ((n1:Nat):Int)>0 by omega),cond_true,x2,Option.bind_some,y1,g1,Fs,g3,g2,bne_self_eq_false,cond_false]
 ·simp only[if_true,show ((20:Int)=0)=False from by simp,if_false,x6,Option.bind_some,y2,y3,t2,t3,c2,c3,e7,Fs,v1,e8,v2,cc,e9,bne_self_eq_false,cond_false,zz,i0,j0,f1,f2,Aj,f3,f4,H7,j1,I1,Ar,Bool.not_true,oT (a:=⟨yb,0,none⟩) kp1,f4,i2,f5,oT (a:=⟨yb,0,none⟩) kp2,j3,f6,I2,d1,d2,Nat.add_zero,f7,sv,NJ,d3,d4,f8,f9,jX,cond_true]
  exact ⟨_,rfl⟩
theorem sS (k:Nat) (hk:20000≤k) (B:Bg) {lo:Nat} (hA:kS lo σ B) (hlo:lo≤σ.length) (x1:Int) (h1:0≤x1∧x1<256) (x2:Int) (h2:0≤x2∧x2<256) (x3:Int) (h3:0≤x3∧x3<256):
  ∃ σ',fn P (XK Kn.b) H (k+20) 3 [.agg #[.int .u8 B.bl,.int .u8 B.mu,.slice B.ob.p B.ob.n B.ob.c,.slice B.de.p B.de.n B.de.c,.slice B.li.p B.li.n B.li.c,.slice B.pl.p B.pl.n B.pl.c,.slice B.pi.p B.pi.n B.pi.c],.int .u8 x1,.int .u8 x2,.int .u8 x3] σ=some (.bool true,σ'):=by
 obtain ⟨n1,rfl⟩:∃ n:Nat,x1=(n:Int):=⟨x1.toNat,by omega⟩
 obtain ⟨n2,rfl⟩:∃ n:Nat,x2=(n:Int):=⟨x2.toNat,by omega⟩
 obtain ⟨n3,rfl⟩:∃ n:Nat,x3=(n:Int):=⟨x3.toNat,by omega⟩
 obtain ⟨σ',h⟩:=Acz k hk B (n1:=n1) (n2:=n2) (n3:=n3) (by omega) (by omega) (by omega) hA hlo
 exact ⟨σ',(gE (k+20) B.bl B.mu (B.ob.p,B.ob.n,B.ob.c) (B.de.p,B.de.n,B.de.c) (B.li.p,B.li.n,B.li.c) (B.pl.p,B.pl.n,B.pl.c) (B.pi.p,B.pi.n,B.pi.c) n1 n2 n3 σ).trans h⟩
end Go.Proofs.YtjbledomkmdkmaaGreat
end
