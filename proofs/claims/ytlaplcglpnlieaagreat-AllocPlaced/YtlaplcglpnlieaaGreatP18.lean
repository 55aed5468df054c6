/- The document's heap: objects placed and moved.; The document's heap: objects moved.; The document's heap: a new one, and a copy.; The program's heap,  -/
import Derived.Test.YtlaplcglpnlieaaGreatP17
import Derived.Test.YtlaplcglpnlieaaGreatP14
import Derived.Test.YtlaplcglpnlieaaGreatP15
import Derived.Test.YtlaplcglpnlieaaGreatP12
import Derived.Test.YtlaplcglpnlieaaGreatP13
set_option linter.unusedVariables false
set_option linter.unusedSimpArgs false
set_option linter.unusedSectionVars false
section
namespace Go.Proofs.YtlaplcglpnlieaaGreat
open Go Go.AX
noncomputable local instance wN:AK:=As
local instance vv:Kn:=⟨true⟩
variable {σ:Aa} {m:HM} {t:RM} {i:RI}
theorem NV.qZ (h:NV σ i t) (v:Int):∃ c,AX.G7 σ i.hb 3 (.int .i64 v)=some (σ.set i.hb c)∧NV (σ.set i.hb c) i { t with born:=v }:=
 ⟨_,by simp only[AX.G7,h.hp]; rfl,NV.p9 (t:={ t with born:=v }) h.bl h.ob h.fw h.ol h.inn h.sep h.lt⟩
theorem qW (n:Nat):rep n [Value.int .i64 0]=CP (List.replicate n 0):=by
 simp[rep,CP]
theorem fq (k:Nat) (hk:5000≤k) (h:RG σ i m t) (hP:Oo m) (hS:Sh m) (hb:m.births<1000000) (a r d c:Int):
  Hw (D6 (k+5) (Cg i) a r d c σ) σ i (.tuple #[.int .i64 (Bv m a r d c).1,.int .i64 (Bv m a r d c).2.1]) (Bv m a r d c).2.2:=by
 have hnt:=h.nt
 have hwl:=h.wl
 have hol:=h.ol
 have hbr:=h.inv.brt
 obtain ⟨S,hSS⟩:∃ S,AY.cells [.int .i64 r,.int .i64 d,.int .i64 c] Ag true=S:=⟨_,rfl⟩
 have hg:=h.app [S]
 have hq:(σ++[S])[σ.length]?=some (.cells [.int .i64 r,.int .i64 d,.int .i64 c] Ag true):=by rw[← hSS]; simp
 obtain ⟨b0,b1,b2⟩:=Tv hq
 obtain ⟨τ1,eV⟩:=TK (k+3) r d c (σ++[S])
 have hg1:=hg.app τ1
 have hq1:(σ++[S]++τ1)[σ.length]?=_:=(List.getElem?_append_left (Ae hq)).trans hq
 obtain ⟨d0,d1,d2⟩:=Tv hq1
 have eM:An (k+4) (Cg i) (σ++[S])=_:=I9 (k+3) hg
 rw[U2,Q0]
 simp only[Ao,hSS,eM,Option.bind_some,Au,Bool.not_true,cond_false,Nat.zero_add,Nat.reduceAdd,Nat.add_zero,b0,b1,b2,eV]
 unfold Bv
 cases hv:valid r d c with
 | false=>
   simp only[Bool.not_false,cond_true,Bool.false_eq_true,if_false]
   exact Hw.same h hP ([S]++τ1) (by rw[← List.append_assoc])
 | true=>
 obtain ⟨τ2,eF⟩:=pP k hk hg1 a (-1) 0 hv (fun o ho=>by
  have:=(h.inv.idn o ho).1
  constructor
  ·intro e; omega
  ·intro e; omega)
 simp only[Bool.not_true,cond_false,if_true,d0,d1,d2,Option.bind_some,eF,Am]
 by_cases hf:Jt m a (Rf (num r d c)) (-1)=0
 rotate_left
 ·rw[if_neg hf]
  simp only[bne_iff_ne.2 hf,cond_true]
  exact Hw.same h hP ([S]++τ1++τ2) (by simp only[← List.append_assoc])
 rw[if_pos hf]
 have hw2:2≤Rf (num r d c):=by
  have hv':=hv
  rw[OX hv]
  simp[valid] at hv'
  omega
 obtain ⟨j,rfl,hj,hfit,hap⟩:=h.inv.fits hwl (gT _) hw2 hf
 rw[show ((2*j:Nat):Int).toNat/2=j from by omega]
 obtain ⟨s1,s2⟩:=h.sim.place h.inv h.inv2 hS hP hv hj (fun o ho=>hap o ho (by omega))
 have hg2:=hg1.app τ2
 obtain ⟨C,eS,h4⟩:=hg2.at_.qZ (t.born+1)
 have hq2:(σ++[S]++τ1++τ2)[σ.length]?=_:=(List.getElem?_append_left (Ae hq1)).trans hq1
 have hhb:i.hb<σ.length:=h.at_.lt _ i.RY
 have hq3:((σ++[S]++τ1++τ2).set i.hb C)[σ.length]?=_:=(List.getElem?_set_ne (show i.hb≠σ.length by omega)).trans hq2
 have hlen:((σ++[S]++τ1++τ2).set i.hb C).length=σ.length+1+τ1.length+τ2.length:=by simp; omega
 have hs4:∀ x,x<σ.length→x≠i.hb→((σ++[S]++τ1++τ2).set i.hb C)[x]?=σ[x]?:=fun x hx hne=>by
  rw[List.getElem?_set_ne (Ne.symm hne),List.append_assoc,List.append_assoc,List.getElem?_append_left hx]
 have ld3':=hg2.at_.tg
 generalize (σ++[S]++τ1++τ2).set i.hb C=μ at h4 eS hq3 hlen hs4
 obtain ⟨c0,c1,c2⟩:=Tv hq3
 have hv':=hv
 simp[valid] at hv'
 obtain ⟨rn,rfl⟩:∃ n:Nat,r=(n:Int):=⟨r.toNat,by omega⟩
 obtain ⟨dn,rfl⟩:∃ n:Nat,d=(n:Int):=⟨d.toNat,by omega⟩
 have w:Ad (t.born+1)=t.born+1:=Ac (by rw[h.sim.born]; unfold AN; omega)
 have qr:(0≤(rn:Int)∧(rn:Int)≤(rn:Int)∧(rn:Int)*((8:Nat):Int)≤2 ^ 40∧(rn:Int)≤2 ^ 40)=True:=eq_true (by omega)
 have qd:(0≤(dn:Int)∧(dn:Int)≤(dn:Int)∧(dn:Int)*((8:Nat):Int)≤2 ^ 40∧(dn:Int)≤2 ^ 40)=True:=eq_true (by omega)
 obtain ⟨A,hA⟩:∃ A,AY.cells (CP (List.replicate rn 0)) Bk true=A:=⟨_,rfl⟩
 obtain ⟨D,hD⟩:∃ D,AY.cells (CP (List.replicate dn 0)) Bk true=D:=⟨_,rfl⟩
 have hq5:(μ++[A])[σ.length]?=_:=(List.getElem?_append_left (Ae hq3)).trans hq3
 obtain ⟨_,f1,_⟩:=Tv hq5
 have h6:NV (μ++[A]++[D]) i { t with born:=t.born+1 }:=(h4.app [A]).app [D]
 have gA:(μ++[A]++[D])[μ.length]?=some (.cells (CP (List.replicate rn 0)) Bk true):=by rw[hA]; simp
 have gD:(μ++[A]++[D])[(μ++[A]).length]?=some (.cells (CP (List.replicate dn 0)) Bk true):=by rw[hD]; simp
 have ltl:∀ x ∈ i.l,x<σ.length:=h.at_.lt
 obtain ⟨σ',os',eP,hR,hsame,hle,hnew,hin⟩:=qY (k+3) (by omega) h6 (by show t.ob.length≤4900; omega) ⟨((2*j:Nat):Int),t.born+1,(rn:Int),(dn:Int),c,List.replicate rn 0,List.replicate dn 0,false⟩ ((some ⟨μ.length,0,none⟩,rn,rn),(some ⟨(μ++[A]).length,0,none⟩,dn,dn))
  ⟨by simp,fun _=>⟨μ.length,rn,by simp,gA⟩,fun a ha=>by cases ha; exact ⟨_,_,_,gA,Nat.zero_le _⟩⟩ ⟨by simp,fun _=>⟨(μ++[A]).length,dn,by simp,gD⟩,fun a ha=>by cases ha; exact ⟨_,_,_,gD,Nat.zero_le _⟩⟩
  (by
   intro x hx
   have:x=μ.length∨x=(μ++[A]).length:=by
    rcases hx with hx | hx
    ·obtain ⟨q,e,rfl⟩:=Kj.1 hx
     cases e; exact .inl rfl
    ·obtain ⟨q,e,rfl⟩:=Kj.1 hx
     cases e; exact .inr rfl
   refine ⟨?_,fun hm=>?_⟩
   ·have hl:(μ++[A]).length=μ.length+1:=by simp
    have hl2:(μ++[A]++[D]).length=μ.length+2:=by simp
    rcases this with e | e <;> omega
   ·have:=ltl x hm
    have hl:(μ++[A]).length=μ.length+1:=by simp
    rcases ‹x=μ.length∨x=(μ++[A]).length› with e | e <;> omega)
  (by simp[hs])
 have eP':Hc (k+4) (Cg i) ((2*j:Nat):Int) (t.born+1) (rn:Int) (dn:Int) c (some ⟨μ.length,0,none⟩,rn,rn) (some ⟨(μ++[A]).length,0,none⟩,dn,dn) false (μ++[A]++[D])=some (.tuple #[],σ'):=eP
 refine ⟨σ',_,_, ?_,hR,s1,s2,⟨by simp at hle; omega,fun x hx hn=>?_,fun x hx=>?_,rfl⟩⟩
 ·simp only[bne_self_eq_false,hf,cond_false,ld3',Option.bind_some,w,eS,h4.tg,c0,c1,c2,qr,if_true,Int.toNat_natCast,qW,hA,f1,qd,hD,eP',JG]
  have:=hR.tg
  simp only at this
  rw[this,h.sim.born]
  rfl
 ·have hne:x≠i.hb:=fun e=>hn (by rw[e]; exact i.RY)
  rw[hsame x (by simp; omega) hne,List.append_assoc,List.getElem?_append_left (by omega),hs4 x hx hne]
 ·rcases hin x hx with e | e | e | e
  ·exact .inl e
  ·obtain ⟨q,e',rfl⟩:=Kj.1 e
   cases e'
   exact .inr (by show σ.length≤μ.length; omega)
  ·obtain ⟨q,e',rfl⟩:=Kj.1 e
   cases e'
   exact .inr (by show σ.length≤(μ++[A]).length; simp; omega)
  ·exact .inr (by simp at e; omega)
end Go.Proofs.YtlaplcglpnlieaaGreat
end
section
namespace Go.Proofs.YtlaplcglpnlieaaGreat
open Go Go.AX
noncomputable local instance wO:AK:=As
local instance vw:Kn:=⟨true⟩
variable {σ:Aa} {m:HM} {t:RM} {i:RI}
end Go.Proofs.YtlaplcglpnlieaaGreat
end
section
namespace Go.Proofs.YtlaplcglpnlieaaGreat
open Go Go.AX
noncomputable local instance wP:AK:=As
local instance vx:Kn:=⟨true⟩
variable {σ:Aa} {m:HM} {t:RM} {i:RI}
theorem ny (n j:Nat):¬ Start (Np n) j:=by
 rintro ⟨_,h⟩
 have:Gi 1 (Np n).stw j=0:=Ud _ _ _
 omega
theorem St.new (n:Nat):St (Np n) ⟨List.replicate n (0,0),[],[],0⟩:=by
 refine ⟨rfl, ?_,rfl,fun a=>rfl,rfl,trivial,trivial⟩
 have:BV (Np n)=[]:=by
  cases h:BV (Np n) with
  | nil=>rfl
  | cons j l=>exact absurd (CA.1 (by rw[h]; exact List.mem_cons_self)) (ny n j)
 show []=KZ (Np n)
 unfold KZ
 rw[this]; rfl
theorem Oo.new (n:Nat):Oo (Np n):=fun j _ _=>Ud _ _ _
theorem FZ.new (n:Nat):FZ (Np n):=by
 intro c _
 show ((List.replicate n ((0:Int),(0:Int))).getD c (0,0)).2=0
 rw[List.getD_eq_getElem?_getD,List.getElem?_replicate]
 split <;> rfl
theorem m7 (k:Nat) {n:Nat} (h2:2≤n) (h64:n≤64) (σ:Aa):∃ τ i,KQ (k+1) (n:Int) σ=some (.tuple #[.pointer (Cg i),.int .i64 0],σ++τ)∧NV (σ++τ) i ⟨List.replicate n (0,0),[],[],0⟩ ∧ ∀ j ∈ i.l,σ.length≤j:=by
 rw[bD,Zy]
 simp only[show decide ((n:Int)<2)=false from decide_eq_false (by omega),cond_false,show decide ((n:Int)>64)=false from decide_eq_false (by omega),Option.bind_some,Ao]
 rw[if_pos (by omega)]
 simp only[Int.toNat_natCast,mB]
 obtain ⟨A,hA⟩:∃ A,AY.cells (CG (List.replicate n (0,0))) AA true=A:=⟨_,rfl⟩
 rw[hA]
 refine ⟨[A]++[AY.cells [.slice (some ⟨σ.length,0,none⟩) n n,.slice none 0 0,.slice none 0 0,.int .i64 0] EJ true],⟨(σ++[A]).length,(some ⟨σ.length,0,none⟩,n,n),(none,0,0),(none,0,0),[]⟩,by rw[List.append_assoc], ?_, ?_⟩
 ·rw[← List.append_assoc]
  refine { hp:=by simp,bl:=.inr ⟨σ.length,by simp,Nat.zero_le _,by rw[Gm]; omega,by rw[List.getElem?_append_left (by simp),← hA]; simp⟩,ob:=.inl ⟨rfl,rfl,rfl⟩,fw:=.inl (.inl ⟨rfl,rfl,rfl⟩),ol:=rfl,inn:=fun x h=>by simp at h,nd:=?_,lt:=?_ }
  ·simp[RI.l,hs]
  ·intro j hj
   simp[RI.l,hs] at hj
   simp
   omega
 ·intro j hj
  simp[RI.l,hs] at hj
  omega
theorem Lr.first {s:En} {l:List Int} (h:Lr σ s l):Gy σ 1 s.1 l.length=some (CP l):=by
 by_cases hl:l=[]
 ·subst hl
  cases hs:s.1 with
  | none=>rfl
  | some a=>
    obtain ⟨cs,T,w,h1,h2⟩:=h.2.2 a hs
    simp only[Gy,TC,h1,List.length_nil,Nat.zero_mul,Nat.add_zero,h2,if_true,List.take_zero]
    rfl
 ·obtain ⟨b,c,rfl,hc⟩:=h.2.1 hl
  simp only[Gy,TC,hc,F1,Nat.zero_add,Nat.mul_one,Nat.le_refl,if_true,List.drop_zero]
  rw[List.take_of_length_le (by rw[F1]; exact Nat.le_refl _)]
theorem Cj.first {E:TypeId} {s n:Nat} {sl:En} {row:List Value} (h:Cj E s σ sl n row):Gy σ s sl.1 n=some row:=by
 rcases h with ⟨rfl,rfl,rfl⟩ | ⟨b,rfl,_,hl,hc⟩
 ·rfl
 ·simp only[Gy,TC,hc,hl,Nat.zero_add,Nat.le_refl,if_true,List.drop_zero]
  rw[List.take_of_length_le (Nat.le_of_eq hl)]
end Go.Proofs.YtlaplcglpnlieaaGreat
end
section
namespace Go.Proofs.YtlaplcglpnlieaaGreat
open Go Go.AX
noncomputable local instance wQ:AK:=As
local instance vy:Kn:=⟨true⟩
variable {σ:Aa} {m:HM} {i:C9}
theorem jQ (k:Nat) (h:Ah σ i m) {b:Int} (hb:¬ (0≤b∧b<(m.bls.length:Int))):BZ (k+3) (CW i) b σ=some (.bool false,σ):=by
 rw[LG,Lh]
 simp only[aI _ h,Option.bind_some,Au,decide_eq_false (show ¬ (1≤b∧b<(m.bls.length:Int)) by omega),cond_false]
theorem rO (k:Nat) (hk:5000≤k) (h:Ah σ i m) (hI:Inv m) (h0:B0 m) (b:Int):
  ∃ τ s,EZ (k+7) (CW i) b σ=some (.slice s.1 s.2.1 s.2.2,σ++τ)∧Cj Af 2 (σ++τ) s (Ha m b).length (Bj (Ha m b)) ∧ ∀ a,s.1=some a→σ.length≤a.block:=by
 by_cases hb:0≤b∧b<(m.bls.length:Int)
 ·obtain ⟨n,rfl⟩:∃ n:Nat,b=(n:Int):=⟨b.toNat,by omega⟩
  have e:Ha m (n:Int)=eu m n:=by
   unfold Ha eu Ji
   rw[if_pos hb,Int.toNat_natCast]
   by_cases hs:(m.bls.getD n (0,0)).1=1
   ·have:1≤n:=by
     rcases Nat.eq_zero_or_pos n with rfl | h1
     ·have:=h0; unfold B0 at this; omega
     ·exact h1
    rw[if_pos hs,if_pos ⟨this,hs⟩]
   ·rw[if_neg hs,if_neg (fun hh=>hs hh.2)]
  rw[e]
  obtain ⟨τ,s,e1,e2,_,e4⟩:=qo k hk h hI (b:=n) (by omega)
  exact ⟨τ,s,e1,e2,e4⟩
 ·have e:Ha m b=[]:=by
   unfold Ha Ji
   rw[if_neg hb,if_neg (by decide)]
  rw[e]
  refine ⟨[],(none,0,0), ?_,Cj.nil _ _ _,by intro a ha; cases ha⟩
  rw[I7,IM]
  have hu:BZ (k+6) (CW i) b σ=_:=jQ (k+3) h hb
  simp only[hu,Option.bind_some,Au,Bool.not_false,cond_true,List.append_nil]
theorem dz {l l':List Bool} (hl:l.length=l'.length) (h:∀ t,t<l.length→(l.getD t false=true↔l'.getD t false=true)):l=l':=by
 apply List.ext_getElem hl
 intro n h1 h2
 have:=h n h1
 rw[List.getD_eq_getElem?_getD,List.getD_eq_getElem?_getD,List.getElem?_eq_getElem h1,List.getElem?_eq_getElem h2,Option.getD_some,Option.getD_some] at this
 cases hx:l[n] <;> cases hy:l'[n] <;> rw[hx,hy] at this <;> simp at this <;> rfl
theorem qs (k:Nat) (hk:5000≤k) (h:Ah σ i m) (hI:Inv m) (hI2:Inv2 m) (h0:B0 m) (b:Int):
  ∃ τ s,Ea (k+7) (CW i) b σ=some (.slice s.1 s.2.1 s.2.2,σ++τ)∧Cj Ei 1 (σ++τ) s (Ew m b).length (Gk (Ew m b)) ∧ ∀ a,s.1=some a→σ.length≤a.block:=by
 have hwl:=h.wl
 by_cases hb:0≤b∧b<(m.bls.length:Int)
 ·obtain ⟨n,rfl⟩:∃ n:Nat,b=(n:Int):=⟨b.toNat,by omega⟩
  have hn:n<m.bls.length:=by omega
  unfold Ew Ji
  rw[if_pos hb,Int.toNat_natCast]
  by_cases hs:(m.bls.getD n (0,0)).1=1
  ·have h1:1≤n:=by
    rcases Nat.eq_zero_or_pos n with rfl | h1
    ·have:=h0; unfold B0 at this; omega
    ·exact h1
   rw[if_pos hs]
   obtain ⟨τ,bs,e1,e2,e3,e4⟩:=ow k hk h hI hI2 hn h1 hs
   have eb:bs=OC m n 8:=by
    refine dz (by rw[e3,MD]) fun t ht=>?_
    rw[e4 t,py hI hI2 hwl hn hs (by omega)]
    have:(OC m n 8).getD t false=Y8 m (64*n+8*t) 8:=by
     unfold OC
     rw[List.getD_eq_getElem?_getD,List.getElem?_map,List.getElem?_range (by omega)]
     rfl
    rw[this]
   rw[eb] at e2
   exact ⟨τ,(some ⟨σ.length,0,none⟩,8,8),e1,.inr ⟨σ.length,by rw[MD],Nat.zero_le _,by rw[MD]; unfold Gk; rw[List.length_map,MD],e2⟩,fun a ha=>by cases ha; exact Nat.le_refl _⟩
  ·rw[if_neg hs]
   refine ⟨[],(none,0,0), ?_,Cj.nil _ _ _,by intro a ha; cases ha⟩
   rw[List.append_nil]
   exact ov (k+3) h hn (fun hh=>hs hh.2)
 ·have e:Ew m b=[]:=by
   unfold Ew Ji
   rw[if_neg hb,if_neg (by decide)]
  rw[e]
  refine ⟨[],(none,0,0), ?_,Cj.nil _ _ _,by intro a ha; cases ha⟩
  rw[HR,HJ]
  have hu:BZ (k+6) (CW i) b σ=_:=jQ (k+3) h hb
  simp only[hu,Option.bind_some,Au,Bool.not_false,cond_true,List.append_nil]
theorem Iu {c:Prop} [Decidable c] {r r':Int × HM} (h:c→FZ r.2) (h':¬ c→FZ r'.2):FZ (if c then r else r').2:=by
 split
 ·exact h ‹_›
 ·exact h' ‹_›
theorem RX {m':HM} (h:FZ m) (hb:m'.bls=m.bls):FZ m':=by unfold FZ; rw[hb]; exact h
theorem YD (h:FZ m) (b c x y x' y':Int) (hx:x≠0) (hx':x'≠0∨c=1):FZ (Bs m b c x y x' y').2:=by
 unfold Bs
 refine Iu (fun hc=>Iu (fun hu=>?_) fun _=>h) fun _=>h
 intro d hd
 have hd:(((Wh m.bls b.toNat (x',y') c.toNat 0).set b.toNat (x,y)).getD d (0,0)).1=0:=hd
 show (((Wh m.bls b.toNat (x',y') c.toNat 0).set b.toNat (x,y)).getD d (0,0)).2=0
 rw[Ps,Fu] at hd ⊢
 by_cases h1:d=b.toNat∧b.toNat<m.bls.length
 ·rw[if_pos h1] at hd; exact absurd hd hx
 ·rw[if_neg h1] at hd ⊢
  rw[XC _ _ _ _ _ _ (by omega)] at hd ⊢
  split at hd
  ·rename_i hr
   rcases hx' with hx' | rfl
   ·exact absurd hd hx'
   ·rw[show (1:Int).toNat=1 from rfl] at hr
    exact absurd ⟨by omega,by omega⟩ h1
  ·rename_i hr
   rw[if_neg hr]; exact h d hd
theorem jq (h:FZ m) (b:Int):FZ (GM m b).2:=by
 unfold GM
 refine Iu (fun hc=>Iu (fun hu=>?_) fun _=>h) fun _=>h
 intro d hd
 have hd:((Yi m.bls b.toNat (Eg m b.toNat)).getD d (0,0)).1=0:=hd
 show ((Yi m.bls b.toNat (Eg m b.toNat)).getD d (0,0)).2=0
 rw[OE] at hd ⊢
 split
 ·rfl
 ·rename_i hr
  rw[if_neg hr] at hd; exact h d hd
theorem nR (h:FZ m) (b y:Int):FZ (LK m b y).2:=by
 unfold LK
 refine Iu (fun hc=>?_) fun _=>h
 obtain ⟨n,rfl,h1,h2,_⟩:=T8 hc
 rw[Int.toNat_natCast]
 have hst:(m.bls.getD n (0,0)).1=1∨(m.bls.getD n (0,0)).1=2:=by
  unfold Ok at hc
  split at hc
  ·cases hc
  ·split at hc
   ·cases hc
   ·rename_i g
    rw[Int.toNat_natCast] at g
    omega
 intro d hd
 have hd:((Wr m.bls n y (Eg m n)).getD d (0,0)).1=0:=hd
 show ((Wr m.bls n y (Eg m n)).getD d (0,0)).2=0
 rw[de _ _ _ _ _ (Rd h2)] at hd ⊢
 split
 ·rename_i hr
  rw[if_pos hr] at hd
  have:=Ym (m:=m) m.bls.length 1 hst (Nat.le_refl _) (fun c _ _=>by omega) (d-n) (by show d-n<Eg m n; omega)
  rw[show n+(d-n)=d from by omega] at this
  exact absurd hd this
 ·rename_i hr
  rw[if_neg hr] at hd; exact h d hd
theorem oK (h:FZ m) (x:Wc):FZ (iC m x).2:=by
 unfold iC
 refine Iu (fun _=>YD h _ _ _ _ _ _ (by decide) (.inr rfl)) fun _=>?_
 refine Iu (fun _=>YD h _ _ _ _ _ _ (by decide) (.inl (by decide))) fun _=>?_
 refine Iu (fun _=>jq h _) fun _=>?_
 refine Iu (fun _=>nR h _ _) fun _=>?_
 refine Iu (fun _=>?_) fun _=>?_
 ·unfold Bv
  split
  ·split
   ·exact RX h rfl
   ·exact h
  ·exact h
 refine Iu (fun _=>?_) fun _=>?_
 ·unfold Pv; exact Iu (fun _=>RX h rfl) fun _=>h
 refine Iu (fun _=>?_) fun _=>?_
 ·unfold eU; exact Iu (fun _=>Iu (fun _=>RX h rfl) fun _=>h) fun _=>h
 refine Iu (fun _=>?_) fun _=>?_
 ·unfold VX; exact Iu (fun _=>Iu (fun _=>h) fun _=>RX h rfl) fun _=>h
 refine Iu (fun _=>?_) fun _=>?_
 ·unfold SZ; exact Iu (fun _=>RX h rfl) fun _=>h
 refine Iu (fun _=>?_) fun _=>?_
 ·unfold fh
  refine Iu (fun _=>?_) fun _=>h
  split
  ·exact h
  ·exact Iu (fun _=>RX h rfl) fun _=>h
 refine Iu (fun _=>?_) fun _=>?_
 ·unfold dF; exact Iu (fun _=>RX h rfl) fun _=>h
 refine Iu (fun _=>?_) fun _=>?_
 ·unfold dF; exact Iu (fun _=>RX h rfl) fun _=>h
 exact Iu (fun _=>RX h rfl) fun _=>h
end Go.Proofs.YtlaplcglpnlieaaGreat
end
section
namespace Go.Proofs.YtlaplcglpnlieaaGreat
open Go Go.AX
noncomputable local instance wR:AK:=As
local instance vz:Kn:=⟨true⟩
variable {σ:Aa} {m:HM} {t:RM} {i:C9} {j:RI}
structure qh (σ:Aa) (i:C9) (j:RI) (m:HM) (t:RM):Prop where
 h:Ah σ i m
 g:RG σ j m t
 P:Oo m
 z:FZ m
 b0:B0 m
 off:∀ q ∈ i.l,q ∉ j.l
 br:m.births≤1000
 fl:m.fw.length≤1000
theorem qh.app (T:qh σ i j m t) (τ:Aa):qh (σ++τ) i j m t:=⟨T.h.app τ,T.g.app τ,T.P,T.z,T.b0,T.off,T.br,T.fl⟩
end Go.Proofs.YtlaplcglpnlieaaGreat
end
section
namespace Go.Proofs.YtlaplcglpnlieaaGreat
open Go Go.AX
noncomputable local instance wS:AK:=As
local instance v9:Kn:=⟨true⟩
variable {σ:Aa} {m:HM} {t:RM} {i:C9} {j:RI}
theorem oC {s:En} {l:List Int} (h:Cj Bk 1 σ s l.length (CP l)) {x:Nat} (hx:x<l.length):∃ b,s.1=some ⟨b,0,none⟩∧Ai .i64 σ b x=some (l.getD x 0):=by
 rcases h with ⟨h,_⟩ | ⟨b,rfl,_,_,hc⟩
 ·omega
 ·exact ⟨b,rfl,po hc hx⟩
theorem aw {s:En} {l:List Bool} (h:Cj Ei 1 σ s l.length (Gk l)) {x:Nat} (hx:x<l.length):∃ b,s.1=some ⟨b,0,none⟩∧Xv σ b x=some (l.getD x false):=by
 rcases h with ⟨h,_⟩ | ⟨b,rfl,_,_,hc⟩
 ·omega
 ·exact ⟨b,rfl,sk hc hx⟩
theorem TW {s:En} {l:List (Nat × Nat)} (h:Cj Af 2 σ s l.length (Bj l)) {x:Nat} (hx:x<l.length):∃ b,s.1=some ⟨b,0,none⟩∧Ai .i64 σ b (x*2)=some ((l.getD x (0,0)).1:Int)∧Ai .i64 σ b (x*2+1)=some ((l.getD x (0,0)).2:Int):=by
 rcases h with ⟨h,_⟩ | ⟨b,rfl,_,_,hc⟩
 ·omega
 ·obtain ⟨h1,h2⟩:=Xn l x hx
  exact ⟨b,rfl,by simp only[Ai,G1,hc,h1,Option.bind_some,Am],by simp only[Ai,G1,hc,h2,Option.bind_some,Am]⟩
end Go.Proofs.YtlaplcglpnlieaaGreat
end
section
namespace Go.Proofs.YtlaplcglpnlieaaGreat
open Go Go.AX
noncomputable local instance wT:AK:=As
local instance vA:Kn:=⟨true⟩
variable {σ:Aa} {m:HM} {t:RM} {i:C9} {j:RI}
structure rB (i:C9) (j j':RI) (σ σ':Aa):Prop where
 len:σ.length≤σ'.length
 same:∀ q,q<σ.length→q ∉ i.l→q ∉ j.l→σ'[q]?=σ[q]?
 new:∀ q,q ∈ j'.l→q ∈ j.l∨σ.length≤q
 hb:j'.hb=j.hb
theorem YU {a:Addr} {σ σ':Aa} {ρ:Type} (h:σ'[a.block]?=σ[a.block]?) (x:Option ρ):SL (some a) σ σ' x=x:=by
 have:@AK.k As σ σ' a.block=true:=by
  unfold As
  simpa using h
 unfold SL
 simp only[this,cond_true]
theorem fg {μ:Aa} {A:Option (Value × Aa)} {B:Aa→Option (Value × Aa)} (W:qh μ i j m t) {v:Value} {m':HM} (hA:∃ σ1,A=some (v,σ1)∧Ah σ1 i m'∧BM i μ σ1) (hI:Inv m') (hI2:Inv2 m') (hF:FZ m') (hb:B0 m') (hbr:m'.births≤1000) (hfl:m'.fw.length≤1000)
  (hR:∀ σ1,RG σ1 j m t→Hw (B σ1) σ1 j v m'):∃ σ1 σ2 j' t',A=some (v,σ1)∧B σ1=some (v,σ2)∧qh σ2 i j' m' t'∧rB i j j' μ σ2∧(∀ q,q<μ.length→q ∉ i.l→σ1[q]?=μ[q]?):=by
 obtain ⟨σ1,eA,h1,k1⟩:=hA
 have g1:RG σ1 j m t:=W.g.CX (fun q hq=>k1.same q (W.g.at_.lt q hq) fun hm=>W.off q hm hq) k1.len
 obtain ⟨σ2,j',t',eB,r2,s2,p2,k2⟩:=hR σ1 g1
 have h2:Ah σ2 i m':=h1.CX fun q hq=>k2.same q (h1.lt q hq) (W.off q hq)
 refine ⟨σ1,σ2,j',t',eA,eB,⟨h2,⟨r2,s2,hI,hI2,h2.wl,h2.nb,h2.nt⟩,p2,hF,hb,fun q hq hm=>?_,hbr,hfl⟩,⟨Nat.le_trans k1.len k2.len,fun q h1' h2' h3'=>?_,fun q hq=>?_,k2.hb⟩,fun q h1' h2'=>k1.same q h1' h2'⟩
 ·rcases k2.new q hm with e | e
  ·exact W.off q hq e
  ·have:=h1.lt q hq; omega
 ·rw[k2.same q (Nat.lt_of_lt_of_le h1' k1.len) h3',k1.same q h1' h2']
 ·rcases k2.new q hq with e | e
  ·exact .inl e
  ·exact .inr (Nat.le_trans k1.len e)
theorem Fl {c:Prop} [Decidable c] {r r':Int × HM} {n:Nat} (h:c→r.2.fw.length≤n) (h':¬ c→r'.2.fw.length≤n):(if c then r else r').2.fw.length≤n:=by
 split
 ·exact h ‹_›
 ·exact h' ‹_›
theorem oJ (m:HM) (x:Wc):(iC m x).2.fw.length≤m.fw.length+1:=by
 have s:m.fw.length≤m.fw.length+1:=by omega
 unfold iC
 refine Fl (fun _=>?_) fun _=>?_
 ·unfold Bs; exact Fl (fun _=>Fl (fun _=>s) fun _=>s) fun _=>s
 refine Fl (fun _=>?_) fun _=>?_
 ·unfold Bs; exact Fl (fun _=>Fl (fun _=>s) fun _=>s) fun _=>s
 refine Fl (fun _=>?_) fun _=>?_
 ·unfold GM; exact Fl (fun _=>Fl (fun _=>s) fun _=>s) fun _=>s
 refine Fl (fun _=>?_) fun _=>?_
 ·unfold LK; exact Fl (fun _=>s) fun _=>s
 refine Fl (fun _=>?_) fun _=>?_
 ·unfold Bv
  split
  ·split
   ·exact s
   ·exact s
  ·exact s
 refine Fl (fun _=>?_) fun _=>?_
 ·unfold Pv; exact Fl (fun _=>s) fun _=>s
 refine Fl (fun _=>?_) fun _=>?_
 ·unfold eU; exact Fl (fun _=>Fl (fun _=>by show (QZ _ _ m.fw).length≤_; rw[cP]; split <;> omega) fun _=>s) fun _=>s
 refine Fl (fun _=>?_) fun _=>?_
 ·unfold VX; exact Fl (fun _=>Fl (fun _=>s) fun _=>s) fun _=>s
 refine Fl (fun _=>?_) fun _=>?_
 ·unfold SZ; exact Fl (fun _=>s) fun _=>s
 refine Fl (fun _=>?_) fun _=>?_
 ·unfold fh
  refine Fl (fun _=>?_) fun _=>s
  split
  ·exact s
  ·exact Fl (fun _=>s) fun _=>s
 refine Fl (fun _=>?_) fun _=>?_
 ·unfold dF; exact Fl (fun _=>s) fun _=>s
 refine Fl (fun _=>?_) fun _=>?_
 ·unfold dF; exact Fl (fun _=>s) fun _=>s
 exact Fl (fun _=>Nat.zero_le _) fun _=>s
end Go.Proofs.YtlaplcglpnlieaaGreat
end
section
namespace Go.Proofs.YtlaplcglpnlieaaGreat
open Go Go.AX
noncomputable local instance wV:AK:=As
local instance vC:Kn:=⟨true⟩
def tL (σ:Aa) (p:Option Addr):Prop:=
 p=none ∨ ∃ h T rw,p=some ⟨h,0,none⟩∧σ[h]?=some (.cells [.slice none 0 0,.slice none 0 0,.pointer none,.pointer none,.map none,.map none,.int .i64 0] T rw)
theorem tL.app {σ:Aa} {p:Option Addr} (h:tL σ p) (τ:Aa):tL (σ++τ) p:=by
 rcases h with h | ⟨b,T,rw,h1,h2⟩
 ·exact .inl h
 ·refine .inr ⟨b,T,rw,h1, ?_⟩
  rw[List.getElem?_append_left (List.getElem?_eq_some_iff.1 h2).1]; exact h2
end Go.Proofs.YtlaplcglpnlieaaGreat
end
section
set_option maxRecDepth 10000
namespace Go.Proofs.YtlaplcglpnlieaaGreat
open Go Go.AX
noncomputable local instance uw:AK:=As
local instance uu:Kn:=⟨true⟩
end Go.Proofs.YtlaplcglpnlieaaGreat
end
section
set_option maxRecDepth 10000
namespace Go.Proofs.YtlaplcglpnlieaaGreat
open Go Go.AX
noncomputable local instance wW:AK:=As
local instance vD:Kn:=⟨true⟩
variable {σ:Aa}
end Go.Proofs.YtlaplcglpnlieaaGreat
end
section
namespace Go.Proofs.YtlaplcglpnlieaaGreat
open Go Go.AX
noncomputable local instance wU:AK:=As
local instance vB:Kn:=⟨true⟩
variable {σ:Aa} {m:HM} {t:RM} {i:C9} {j:RI}
end Go.Proofs.YtlaplcglpnlieaaGreat
end
section
namespace Go.Proofs.YtlaplcglpnlieaaGreat
open Go Go.AX
noncomputable local instance vR:AK:=As
local instance uK:Kn:=⟨true⟩
variable {σ:Aa} {i:C9} {m:HM}
structure AS where
 s:Int
 p:Int
 c:Int
 l:Int
 oc:Int
 ol:Int
def AS.row (a:AS) (hb:Nat):List Value:=[.pointer (some ⟨hb,0,none⟩),.int .i64 a.s,.int .i64 a.p,.int .i64 a.c,.int .i64 a.l,.int .i64 a.oc,.int .i64 a.ol]
def Ch (σ:Aa) (ab:Nat) (i:C9) (a:AS):Prop:=σ[ab]?=some (.cells (a.row i.hb) AV true)
structure AS.ok (a:AS):Prop where
 s0:0≤a.s∧a.s<8
 p0:0≤a.p∧a.p<5
 c0:0≤a.c∧a.c≤10000
 l0:0≤a.l∧a.l≤10000
 oc0:0≤a.oc∧a.oc≤10000
 ol0:0≤a.ol∧a.ol≤10000
abbrev DC (ab:Nat):Option Addr:=some ⟨ab,0,none⟩
variable {ab:Nat} {a:AS}
theorem Ch.Ys (h:Ch σ ab i a):JC σ ab 0=some (CW i):=by unfold Ch AS.row at h; simp[JC,G1,h,Yt]
theorem Ch.l1 (h:Ch σ ab i a):Ai .i64 σ ab 1=some a.s:=by unfold Ch AS.row at h; simp[Ai,G1,h,B8]
theorem Ch.l2 (h:Ch σ ab i a):Ai .i64 σ ab 2=some a.p:=by unfold Ch AS.row at h; simp[Ai,G1,h,B8]
theorem Ch.l3 (h:Ch σ ab i a):Ai .i64 σ ab 3=some a.c:=by unfold Ch AS.row at h; simp[Ai,G1,h,B8]
theorem Ch.l4 (h:Ch σ ab i a):Ai .i64 σ ab 4=some a.l:=by unfold Ch AS.row at h; simp[Ai,G1,h,B8]
theorem Ch.l5 (h:Ch σ ab i a):Ai .i64 σ ab 5=some a.oc:=by unfold Ch AS.row at h; simp[Ai,G1,h,B8]
theorem Ch.l6 (h:Ch σ ab i a):Ai .i64 σ ab 6=some a.ol:=by unfold Ch AS.row at h; simp[Ai,G1,h,B8]
theorem Ch.lt (h:Ch σ ab i a):ab<σ.length:=Ae h
theorem Ch.CX {σ':Aa} (h:Ch σ ab i a) (hs:σ'[ab]?=σ[ab]?):Ch σ' ab i a:=by unfold Ch; rw[hs]; exact h
theorem Ch.app (h:Ch σ ab i a) (τ:Aa):Ch (σ++τ) ab i a:=h.CX (List.getElem?_append_left h.lt)
theorem Ch.UC {σ':Aa} (h:Ch σ ab i a) (k:BM i σ σ') (hab:ab ∉ i.l):Ch σ' ab i a:=h.CX (k.same ab h.lt hab)
theorem Ch.put (h:Ch σ ab i a) (a':AS):Ch (σ.set ab (.cells (a'.row i.hb) AV true)) ab i a':=by
 unfold Ch; rw[List.getElem?_set_self h.lt]
theorem Ch.st (h:Ch σ ab i a) (o:Nat) (vs:List Value) (a':AS) (hv:AE (a.row i.hb) o vs=a'.row i.hb) (hl:o+vs.length≤7):JM σ ab o vs=some (σ.set ab (.cells (a'.row i.hb) AV true)):=by
 have h':=h
 unfold Ch at h'
 simp only[JM,h']
 rw[if_pos (by simpa [AS.row] using hl),hv]
theorem Ch.G7 (h:Ch σ ab i a) (o:Nat) (v:Value) (a':AS) (hv:(a.row i.hb).set o v=a'.row i.hb) (hl:o<7):AX.G7 σ ab o v=some (σ.set ab (.cells (a'.row i.hb) AV true)):=by
 have h':=h
 unfold Ch at h'
 simp only[AX.G7,h']
 rw[if_pos (by simpa [AS.row] using hl),hv]
structure Co (i:C9) (ab:Nat) (σ σ':Aa):Prop where
 len:σ.length≤σ'.length
 same:∀ j,j<σ.length→j ∉ i.l→j≠ab→σ'[j]?=σ[j]?
theorem Co.of {σ':Aa} (h:BM i σ σ'):Co i ab σ σ':=⟨h.len,fun j h1 h2 _=>h.same j h1 h2⟩
theorem Co.trans {x y z:Aa} (h:Co i ab x y) (g:Co i ab y z):Co i ab x z:=
 ⟨Nat.le_trans h.len g.len,fun j h1 h2 h3=>(g.same j (Nat.lt_of_lt_of_le h1 h.len) h2 h3).trans (h.same j h1 h2 h3)⟩
theorem Co.app (σ τ:Aa):Co i ab σ (σ++τ):=.of (BM.app i σ τ)
theorem Co.set (σ:Aa) (o:AY):Co i ab σ (σ.set ab o):=⟨by simp,fun j _ _ h=>List.getElem?_set_ne fun e=>h e.symm⟩
theorem Co.refl (σ:Aa):Co i ab σ σ:=.of (BM.refl i σ)
theorem Ah.Sj (h:Ah σ i m) (hab:ab ∉ i.l) (o:AY):Ah (σ.set ab o) i m:=h.CX fun j hj=>List.getElem?_set_ne fun e=>hab (by rw[e]; exact hj)
theorem tP (x:Addr):UH P Hq (.pointer (some x)) (.pointer none)=some false:=by kernel_rfl
theorem ta (x:Addr):UH P JF (.pointer (some x)) (.pointer none)=some false:=by kernel_rfl
theorem aZ (k:Nat) (hA:Ch σ ab i a):B7 (k+1) (DC ab) σ=some (.bool true,σ):=by
 rw[Lv,Jw]
 simp only[tP,Option.bind_some,Bool.not_false,cond_true,Nat.zero_add,Nat.add_zero,hA.Ys,ta]
def SH (m:HM):Nat→Nat→Option Nat
 | 0,_=>none
 | n+1,x=>if (m.bls.getD x (0,0)).1=0∧(m.bls.getD x (0,0)).2=0 then some x else SH m n (x+1)
def Kt (m:HM):Option Nat:=SH m (m.bls.length-1) 1
def Dh (m:HM) (b:Nat) (s:Int):HM:=(Bs m (b:Int) 1 1 s 0 0).2
theorem dT (m:HM) {x:Nat} {s:Int} (h1:1≤x) (hx:x<m.bls.length) (hs:0≤s∧s<8):
  Bs m (x:Int) 1 1 s 0 0=if (m.bls.getD x (0,0)).1=0∧(m.bls.getD x (0,0)).2=0 then (0,Dh m x s) else (8,m):=by
 have e:(1≤(x:Int)∧(x:Int)<(m.bls.length:Int)∧(1:Int)≤1∧(1:Int)≤(m.bls.length:Int)-(x:Int)∧UD s=true):=⟨by omega,by omega,by omega,by omega,by unfold UD; simpa using hs⟩
 have u:Iv m.bls x 1 0=if (m.bls.getD x (0,0)).1=0∧(m.bls.getD x (0,0)).2=0 then none else some 0:=by
  simp only[Iv,Nat.add_zero]
 unfold Dh Bs
 rw[if_pos e,Int.toNat_natCast,show (1:Int).toNat=1 from rfl,u]
 by_cases hf:(m.bls.getD x (0,0)).1=0∧(m.bls.getD x (0,0)).2=0
 ·simp only[hf,and_self,if_true]
 ·simp only[hf,if_false]; simp
theorem Hp {n x b:Nat} (h:SH m n x=some b):x≤b∧b<x+n∧(m.bls.getD b (0,0)).1=0∧(m.bls.getD b (0,0)).2=0:=by
 induction n generalizing x with
 | zero=>cases h
 | succ n ih=>
   unfold SH at h
   split at h
   ·cases h; omega
   ·have:=ih h; omega
def HI (x y:Int):AY:=.cells [.int .i64 x,.int .i64 y] Ey true
theorem Z0 (k:Nat) (hk:5000≤k) (hab:ab ∉ i.l) (hs:0≤a.s∧a.s<8) {h1:Nat} (hh1:h1 ∉ i.l) (hha:h1≠ab):∀ (n x f:Nat) (σ:Aa),Ah σ i m→Ch σ ab i a→σ[h1]?=some (HI 0 0)→1≤x→x+n=m.bls.length→n<f →
  ∃ σ',BS (k+8) f (DC ab) h1 (x:Int) σ=some (match SH m n x with | some b=>(.ret,[.bool true],σ') | none=>(.exit 0,[],σ'))∧Ah σ' i (match SH m n x with | some b=>Dh m b a.s | none=>m) ∧
   σ'[h1]?=some (match SH m n x with | some b=>HI (64*(b:Int)) (64*(b:Int)+64) | none=>HI 0 0)∧σ.length≤σ'.length ∧ ∀ q,q<σ.length→q ∉ i.l→q≠h1→σ'[q]?=σ[q]?
 | n,x,0,σ,h,hA,hc,hx,hn,hf=>by omega
 | 0,x,f+1,σ,h,hA,hc,hx,hn,hf=>by
   rw[Gv,Fq]
   refine ⟨σ, ?_,h,hc,Nat.le_refl _,fun _ _ _ _=>rfl⟩
   simp only[Option.bind_some,Nat.add_zero,hA.Ys,JR (k+6) h,Am,decide_eq_false (show ¬ (x:Int)<((m.bls.length:Nat):Int) by omega),cond_false,SH]
 | n+1,x,f+1,σ,h,hA,hc,hx,hn,hf=>by
   have hnt:=h.nt
   obtain ⟨σ1,e1,g1,k1⟩:=aK (k+1) (by omega) h (x:Int) a.s (by unfold AN; omega)
   have hA1:=hA.UC k1 hab
   rw[dT m hx (by omega) hs] at e1 g1
   have hc1:=(k1.same h1 (Ae hc) hh1).trans hc
   have w1:Ad ((x:Int)+1)=((x+1:Nat):Int):=Ac (by unfold AN; omega)
   have w2:Ad ((x:Int)*64)=64*(x:Int):=by rw[Ac (by unfold AN; omega)]; omega
   have w3:Ad (((x+1:Nat):Int)*64)=64*(x:Int)+64:=by rw[Ac (by unfold AN; omega)]; omega
   rw[Gv,Fq]
   simp only[Option.bind_some,Nat.add_zero,hA.Ys,JR (k+6) h,Am,decide_eq_true (show (x:Int)<((m.bls.length:Nat):Int) by omega),cond_true,Nat.zero_add,hA.l1,e1,SH]
   by_cases hfr:(m.bls.getD x (0,0)).1=0∧(m.bls.getD x (0,0)).2=0
   ·simp only[hfr,and_self,if_true] at g1 ⊢
    refine ⟨σ1.set h1 (HI (64*(x:Int)) (64*(x:Int)+64)), ?_,g1.CX fun j hj=>List.getElem?_set_ne fun e=>hh1 (by rw[e]; exact hj),by rw[List.getElem?_set_self (Ae hc1)],by simpa using k1.len,fun q hq h2 h3=>by rw[List.getElem?_set_ne (fun e=>h3 e.symm)]; exact k1.same q hq h2⟩
    simp only[beq_self_eq_true,cond_true,w1,w2,w3,JM,hc1,HI]
    rfl
   ·simp only[hfr,if_false] at g1 ⊢
    obtain ⟨σ2,e2,g2,c2,l2,s2⟩:=Z0 k hk hab hs hh1 hha n (x+1) f σ1 g1 hA1 hc1 (by omega) (by omega) (by omega)
    refine ⟨σ2, ?_,g2,c2,Nat.le_trans k1.len l2,fun q hq h2 h3=>by rw[s2 q (Nat.lt_of_lt_of_le hq k1.len) h2 h3]; exact k1.same q hq h2⟩
    simp only[show ((8:Int) == 0)=false from rfl,cond_false,w1,e2]
def X8 (m:HM):Int × Int × Bool:=match Kt m with | some b=>(64*(b:Int),64*(b:Int)+64,true) | none=>(0,0,false)
def S7 (m:HM) (s:Int):HM:=match Kt m with | some b=>Dh m b s | none=>m
theorem bh (k:Nat) (hk:5000≤k) (h:Ah σ i m) (hA:Ch σ ab i a) (hab:ab ∉ i.l) (hs:0≤a.s∧a.s<8):
  ∃ σ',Bx (k+9) (DC ab) σ=some (.tuple #[.agg #[.int .i64 (X8 m).1,.int .i64 (X8 m).2.1],.bool (X8 m).2.2],σ')∧Ah σ' i (S7 m a.s)∧BM i σ σ':=by
 have hnt:=h.nt; have hnb:=h.nb
 have hlt:=hA.lt
 obtain ⟨σ1,e1,g1,c1,l1,s1⟩:=Z0 k hk hab hs (h1:=σ.length) (fun hm=>Nat.lt_irrefl _ (h.lt _ hm)) (by omega) (m.bls.length-1) 1 (k+8) (σ++[HI 0 0]) (h.app _) (hA.app _) (by simp) (Nat.le_refl _) (by omega) (by omega)
 have kp:BM i σ σ1:=⟨by simp at l1; omega,fun q hq h2=>by rw[s1 q (by simp; omega) h2 (by omega),List.getElem?_append_left hq]⟩
 rw[KL,IJ]
 simp only[Ao,show (AY.cells [.int .i64 0,.int .i64 0] Ey true)=HI 0 0 from rfl]
 rw[show ((1:Nat):Int)=1 from rfl] at e1
 unfold X8 S7 Kt
 simp only[e1]
 cases hfr:SH m (m.bls.length-1) 1 with
 | none=>
   simp only[hfr] at g1 c1
   refine ⟨σ1.set σ.length (HI 0 0), ?_,g1.CX fun j hj=>List.getElem?_set_ne fun e=>Nat.lt_irrefl σ.length (by have:=h.lt _ hj; omega),kp.trans ⟨by simp,fun q hq h2=>?_⟩⟩
   ·simp only[Option.bind_some,if_true,JM,c1,HI,TC]
    simp[AE,Ol,List.getElem?_set_self (Ae c1)]
   ·rcases Nat.lt_trichotomy q σ.length with e | e | e
    ·rw[List.getElem?_set_ne (by omega)]
    ·rw[e,List.getElem?_set_self (Ae c1),c1]
    ·rw[List.getElem?_set_ne (by omega)]
 | some b=>
   simp only[hfr] at g1 c1
   refine ⟨σ1, ?_,g1,kp⟩
   simp only[Option.bind_some,show (Bm.ret=Bm.exit 0)=False from by simp,if_false,if_true,Sm,TC,c1,HI]
   rfl
def NX (m:HM) (b:Int):Int:=if 0≤b∧b<(m.bls.length:Int) then (m.bls.getD b.toNat (0,0)).2 else -1
theorem lT (k:Nat) (h:Ah σ i m) (b:Int):Bp (k+3) (CW i) b σ=some (.int .i64 (NX m b),σ):=by
 unfold NX
 by_cases hb:0≤b∧b<(m.bls.length:Int)
 ·rw[if_pos hb]
  obtain ⟨n,rfl⟩:∃ n:Nat,b=(n:Int):=⟨b.toNat,by omega⟩
  rw[Int.toNat_natCast]
  exact aV k h (by omega)
 ·rw[if_neg hb,KO,Kq]
  by_cases h0:b<0
  ·simp only[decide_eq_true h0,cond_true,Option.bind_some]
  ·simp only[decide_eq_false h0,cond_false,JR k h,Option.bind_some,Am,decide_eq_true (show b≥((m.bls.length:Nat):Int) by omega),cond_true]
end Go.Proofs.YtlaplcglpnlieaaGreat
end
section
namespace Go.Proofs.YtlaplcglpnlieaaGreat
open Go Go.AX
noncomputable local instance vS:AK:=As
local instance uL:Kn:=⟨true⟩
variable {σ:Aa} {i:C9} {m:HM} {ab:Nat} {a:AS}
def AS.cu (a:AS) (v:Bool):Int:=bif v then a.oc else a.c
def AS.li (a:AS) (v:Bool):Int:=bif v then a.ol else a.l
def AS.put (a:AS) (v:Bool) (x y:Int):AS:=bif v then { a with oc:=x,ol:=y } else { a with c:=x,l:=y }
def og (v:Bool):Nat:=bif v then 5 else 3
theorem Ch.lc (h:Ch σ ab i a) (v:Bool):Ai .i64 σ ab (og v)=some (a.cu v):=match v with | false=>h.l3 | true=>h.l5
theorem Ch.ll (h:Ch σ ab i a) (v:Bool):Ai .i64 σ ab (og v+1)=some (a.li v):=match v with | false=>h.l4 | true=>h.l6
theorem Ch.tJ (h:Ch σ ab i a) (v:Bool) (x y:Int):JM σ ab (og v) [.int .i64 x,.int .i64 y]=some (σ.set ab (.cells ((a.put v x y).row i.hb) AV true)):=by
 cases v
 ·exact h.st 3 _ (a.put false x y) rfl (by simp)
 ·exact h.st 5 _ (a.put true x y) rfl (by simp)
theorem Ch.uq (h:Ch σ ab i a) (v:Bool) (x:Int):AX.G7 σ ab (og v) (.int .i64 x)=some (σ.set ab (.cells ((a.put v x (a.li v)).row i.hb) AV true)):=by
 cases v
 ·exact h.G7 3 _ (a.put false x a.l) rfl (by decide)
 ·exact h.G7 5 _ (a.put true x a.ol) rfl (by decide)
theorem AS.ok.cu (h:a.ok) (v:Bool):0≤a.cu v∧a.cu v≤10000∧0≤a.li v∧a.li v≤10000:=by
 have h1:=h.c0; have h2:=h.l0; have h3:=h.oc0; have h4:=h.ol0
 cases v <;> simp only[AS.cu,AS.li,cond_true,cond_false] <;> omega
theorem AS.ok.put (h:a.ok) (v:Bool) {x y:Int} (hx:0≤x∧x≤10000) (hy:0≤y∧y≤10000):(a.put v x y).ok:=by
 cases v
 ·exact ⟨h.s0,h.p0,hx,hy,h.oc0,h.ol0⟩
 ·exact ⟨h.s0,h.p0,h.c0,h.l0,hx,hy⟩
theorem jg (a:AS) (v:Bool) (x y:Int):(a.put v x y).s=a.s:=by cases v <;> rfl
theorem jf (a:AS) (v:Bool) (x y:Int):(a.put v x y).p=a.p:=by cases v <;> rfl
theorem lB (a:AS) (v:Bool) (x y:Int):(a.put v x y).cu v=x∧(a.put v x y).li v=y:=by cases v <;> exact ⟨rfl,rfl⟩
theorem qS (a:AS) (v:Bool) (x y z w:Int):(a.put v x y).put v z w=a.put v z w:=by cases v <;> rfl
theorem rf (μ:Aa) (T:TypeId) (p q x y:Value):JM (μ++[.cells [p,q] T true]) μ.length 0 [x,y]=some (μ++[.cells [x,y] T true]):=by
 simp[JM,AE]
theorem mr (μ:Aa) (T:TypeId) (x y:Int):Ai .i64 (μ++[.cells [.int .i64 x,.int .i64 y] T true]) μ.length 0=some x∧Ai .i64 (μ++[.cells [.int .i64 x,.int .i64 y] T true]) μ.length 1=some y:=by
 simp[Ai,G1,B8]
theorem oV (k:Nat) (hA:Ch σ ab i a) (ho:a.ok) (v:Bool) (w:Int):DM (k+1) (some ⟨ab,og v,none⟩) w σ=some (.bool (decide (a.li v-a.cu v≥w)),σ):=by
 have:=ho.cu v
 rw[PJ,Ot]
 simp only[Option.bind_some,Nat.add_zero,hA.lc,hA.ll,Ac (show AN (a.li v-a.cu v) by unfold AN; omega)]
theorem gU (k:Nat) (hA:Ch σ ab i a) (ho:a.ok) (v:Bool) {w:Int} (hw:0≤w∧w≤1000):Dm (k+1) (some ⟨ab,og v,none⟩) w σ=some (.int .i64 (a.cu v),σ.set ab (.cells ((a.put v (a.cu v+w) (a.li v)).row i.hb) AV true)):=by
 have:=ho.cu v
 rw[Pd,Ns]
 have e1:Ad (a.cu v+w)=a.cu v+w:=Ac (by unfold AN; omega)
 have e2:Ad (a.cu v+w-w)=a.cu v:=by rw[Ac (by unfold AN; omega)]; omega
 simp only[Option.bind_some,Nat.add_zero,hA.lc,e1,hA.uq,(hA.put _).lc,lB,e2]
abbrev PR:=(Int × Bool) × HM × AS
def dk (mm:Option (Value × Aa)) (σ:Aa) (i:C9) (ab:Nat) (r:PR):Prop:=
 ∃ σ',mm=some (.tuple #[.int .i64 r.1.1,.bool r.1.2],σ')∧Ah σ' i r.2.1∧Ch σ' ab i r.2.2∧Co i ab σ σ'
def Dg (m:HM) (a:AS) (v:Bool) (w:Int):PR:=
 if a.li v-a.cu v≥w then ((a.cu v,true),m,a.put v (a.cu v+w) (a.li v))
 else match Kt m with
  | some b=>((64*(b:Int),true),Dh m b a.s,a.put v (64*(b:Int)+w) (64*(b:Int)+64))
  | none=>((0,false),m,a)
theorem dS (k:Nat) (hk:5000≤k) (h:Ah σ i m) (hA:Ch σ ab i a) (hab:ab ∉ i.l) (ho:a.ok) (v:Bool) {w:Int} (hw:0≤w∧w≤1000):
  dk (B5 (k+10) (DC ab) (some ⟨ab,og v,none⟩) w σ) σ i ab (Dg m a v w):=by
 have hcu:=ho.cu v
 have hnt:=h.nt
 rw[Ks,Io]
 simp only[oV (k+8) hA ho v w,Option.bind_some,Au]
 unfold Dg
 by_cases q:a.li v-a.cu v≥w
 ·rw[if_pos q]
  simp only[decide_eq_true q,Bool.not_true,cond_false,Option.bind_some,if_true,gU (k+8) hA ho v hw,Am]
  exact ⟨_,rfl,h.Sj hab _,hA.put _,Co.set _ _⟩
 ·rw[if_neg q]
  obtain ⟨σ1,e1,g1,k1⟩:=bh k hk h hA hab ho.s0
  have hA1:=hA.UC k1 hab
  simp only[decide_eq_false q,Bool.not_false,cond_true,e1,Option.bind_some,Yu,List.length_cons,List.length_nil,List.head?_cons,List.tail_cons,av,Au,Ao,rf,Nat.zero_add,Nat.reduceAdd,if_true]
  unfold X8 S7 at *
  cases hfr:Kt m with
  | none=>
    simp only[hfr] at g1 ⊢
    simp only[Bool.not_false,cond_true,Option.bind_some,show (Bm.ret=Bm.normal)=False from by simp,if_false,if_true,Yq]
    exact ⟨_,rfl,g1.app _,hA1.app _,(Co.of k1).trans (Co.app _ _)⟩
  | some b=>
    simp only[hfr] at g1 ⊢
    have hb:=Hp hfr
    obtain ⟨l0,l1⟩:=mr σ1 Ey (64*(b:Int)) (64*(b:Int)+64)
    have hA2:=hA1.app [.cells [.int .i64 (64*(b:Int)),.int .i64 (64*(b:Int)+64)] Ey true]
    have hA3:=hA2.put (a.put v (64*(b:Int)) (64*(b:Int)+64))
    have ho3:(a.put v (64*(b:Int)) (64*(b:Int)+64)).ok:=ho.put v (by omega) (by omega)
    have t3:=gU (k+8) hA3 ho3 v hw
    rw[(lB _ _ _ _).1,(lB _ _ _ _).2,qS] at t3
    simp only[Bool.not_true,cond_false,l0,l1,Option.bind_some,hA2.tJ,if_true,t3,Am]
    exact ⟨_,rfl,((g1.app _).Sj hab _).Sj hab _,hA3.put _,(((Co.of k1).trans (Co.app _ _)).trans (Co.set _ _)).trans (Co.set _ _)⟩
theorem dv (k:Nat) (hk:5000≤k) (h:Ah σ i m) (hA:Ch σ ab i a) (hab:ab ∉ i.l) (ho:a.ok) {w:Int} (hw:0≤w∧w≤1000):
  dk (D3 (k+11) (DC ab) w σ) σ i ab (Dg m a false w):=by
 obtain ⟨σ1,e1,g1,a1,k1⟩:=dS k hk (h.app [.cells [] Sk true]) (hA.app _) hab ho false hw
 rw[NZ,Mx]
 refine ⟨σ1, ?_,g1,a1,(Co.app _ _).trans k1⟩
 rw[show og false=3 from rfl] at e1
 simp only[Ao,Option.bind_some,Nat.zero_add,e1,TJ]
theorem bz {b c x y x' y':Int} (h:(Bs m b c x y x' y').1≠0):(Bs m b c x y x' y').2=m:=by
 unfold Bs at *
 split at h
 ·split at h
  ·exact absurd rfl h
  ·rename_i h1 h2; rw[if_pos h1,if_neg h2]
 ·rename_i h1; rw[if_neg h1]
def dB (m:HM) (c:Nat) (s:Int):Nat→Nat→Option Nat
 | 0,_=>none
 | n+1,x=>if x+c≤m.bls.length then (if (Bs m (x:Int) (c:Int) 2 s 3 s).1=0 then some x else dB m c s n (x+1)) else none
theorem Z7 (k:Nat) (hk:5000≤k) (hab:ab ∉ i.l) {c:Nat} (hc:c≤100):∀ (n x f:Nat) (σ:Aa),Ah σ i m→Ch σ ab i a→x≤100→m.bls.length<x+n→n<f →
  ∃ σ',BU (k+8) f (DC ab) (c:Int) (x:Int) σ=some (match dB m c a.s n x with | some b=>(.ret,[.int .i64 (64*(b:Int)),.bool true],σ') | none=>(.exit 0,[],σ'))∧Ah σ' i (match dB m c a.s n x with | some b=>(Bs m (b:Int) (c:Int) 2 a.s 3 a.s).2 | none=>m)∧BM i σ σ'
 | n,x,0,σ,h,hA,hx,hn,hf=>by omega
 | n,x,f+1,σ,h,hA,hx,hn,hf=>by
   have hnt:=h.nt
   have w0:Ad ((x:Int)+(c:Int))=((x+c:Nat):Int):=Ac (by unfold AN; omega)
   rw[Jo,Hh]
   simp only[Option.bind_some,Nat.add_zero,Nat.zero_add,hA.Ys,JR (k+6) h,Am,w0]
   by_cases q:x+c≤m.bls.length
   ·obtain ⟨n,rfl⟩:∃ n',n=n'+1:=⟨n-1,by omega⟩
    obtain ⟨σ1,e1,g1,k1⟩:=ZV (k+1) (by omega) h (x:Int) (c:Int) a.s (by unfold AN; omega) (by unfold AN; omega)
    simp only[decide_eq_true (show ((x+c:Nat):Int)≤((m.bls.length:Nat):Int) by omega),cond_true,hA.l1,Option.bind_some,e1,Am,dB,if_pos q]
    by_cases q2:(Bs m (x:Int) (c:Int) 2 a.s 3 a.s).1=0
    ·refine ⟨σ1, ?_, ?_,k1⟩
     ·simp only[q2,beq_self_eq_true,cond_true,if_true]
      rw[show Ad ((x:Int)*64)=64*(x:Int) from by rw[Ac (by unfold AN; omega)]; omega]
     ·simp only[q2,if_true]; exact g1
    ·rw[bz q2] at g1
     obtain ⟨σ2,e2,g2,k2⟩:=Z7 k hk hab hc n (x+1) f σ1 g1 (hA.UC k1 hab) (by omega) (by omega) (by omega)
     refine ⟨σ2, ?_, ?_,k1.trans k2⟩
     ·simp only[show ((Bs m (x:Int) (c:Int) 2 a.s 3 a.s).1 == 0)=false from by simpa using q2,cond_false,if_neg q2]
      rw[show Ad ((x:Int)+1)=((x+1:Nat):Int) from Ac (by unfold AN; omega)]
      exact e2
     ·simp only[if_neg q2]; exact g2
   ·have z:dB m c a.s n x=none:=by
     cases n with
     | zero=>rfl
     | succ n=>simp only[dB,if_neg q]
    refine ⟨σ, ?_, ?_,BM.refl _ _⟩
    ·simp only[decide_eq_false (show ¬ ((x+c:Nat):Int)≤((m.bls.length:Nat):Int) by omega),cond_false,z]
    ·simp only[z]; exact h
def KX (m:HM) (a:AS) (w:Int):PR:=
 match dB m ((w.toNat+63)/64) a.s m.bls.length 1 with
 | some b=>((64*(b:Int),true),(Bs m (b:Int) (((w.toNat+63)/64:Nat):Int) 2 a.s 3 a.s).2,a)
 | none=>((0,false),m,a)
theorem ph (k:Nat) (hk:5000≤k) (h:Ah σ i m) (hA:Ch σ ab i a) (hab:ab ∉ i.l) {w:Int} (hw:0≤w∧w≤1000):
  dk (BW (k+9) (DC ab) w σ) σ i ab (KX m a w):=by
 have hnt:=h.nt
 obtain ⟨w,rfl⟩:∃ n:Nat,w=(n:Int):=⟨w.toNat,by omega⟩
 have e1:Ad (Ad (Ad ((w:Int)+64)-1))=Ad (Ad ((w:Int)+64)-1):=by
  rw[Ac (show AN ((w:Int)+64) by unfold AN; omega),Ac (show AN ((w:Int)+64-1) by unfold AN; omega),Ac (by unfold AN; omega)]
 have e2:Ad ((Ad (Ad ((w:Int)+64)-1)).tdiv 64)=(((w+63)/64:Nat):Int):=by
  rw[Ac (show AN ((w:Int)+64) by unfold AN; omega),Ac (show AN ((w:Int)+64-1) by unfold AN; omega),show (w:Int)+64-1=((w+63:Nat):Int) from by omega,show (((w+63:Nat):Int).tdiv 64)=(((w+63)/64:Nat):Int) from rfl]
  exact Ac (by unfold AN; omega)
 obtain ⟨σ1,e3,g1,k1⟩:=Z7 k hk hab (c:=(w+63)/64) (a:=a) (by omega) m.bls.length 1 (k+8) σ h hA (by omega) (by omega) (by omega)
 rw[show ((1:Nat):Int)=1 from rfl] at e3
 rw[KM,IK]
 rw[if_neg (by decide)]
 unfold KX dk
 simp only[e2,e3,Int.toNat_natCast,Option.bind_some]
 cases hl:dB m ((w+63)/64) a.s m.bls.length 1 with
 | none=>
   simp only[hl] at g1 ⊢
   exact ⟨σ1,by simp only[if_true],g1,hA.UC k1 hab,Co.of k1⟩
 | some b=>
   simp only[hl] at g1 ⊢
   exact ⟨σ1,by simp only[show (Bm.ret=Bm.exit 0)=False from by simp,if_false,if_true,Yq],g1,hA.UC k1 hab,Co.of k1⟩
end Go.Proofs.YtlaplcglpnlieaaGreat
end
section
namespace Go.Proofs.YtlaplcglpnlieaaGreat
open Go Go.AX
noncomputable local instance vT:AK:=As
local instance uM:Kn:=⟨true⟩
variable {σ:Aa} {i:C9} {m:HM} {ab:Nat} {a:AS}
def tU:Nat→TypeId
 | 0=>Jl
 | 1=>Mq
 | 2=>JY
 | 3=>Sk
 | _=>F8
def Xk (n:Nat):Value:=.iface (tU n) (.agg #[])
def lz:AY:=.cells [Xk 0,Xk 1,Xk 2,Xk 3,Xk 4] Ut true
theorem ZE (k:Nat) (σ:Aa):DN (k+1) σ=some (.slice (some ⟨σ.length,0,none⟩) 5 5,σ++[lz]):=by
 rw[PK,Ou]; rfl
def tI (p w:Int):Value:=if w>32 then .func (.func Mg) #[] #[] else .func (.method "dustcart/alloc.place") #[Xk p.toNat] #[]
def Bu (m:HM) (a:AS) (r d c:Int) (pr:PR):(Int × Int) × HM × AS:=
 if valid r d c=true then
  (if pr.1.2=true then
   (if NX pr.2.1 (pr.1.1.tdiv 64)=a.s then
    (if (Bv pr.2.1 pr.1.1 r d c).2.1=0 then ((pr.1.1,0),(Bv pr.2.1 pr.1.1 r d c).2.2,pr.2.2) else ((0,6),(Bv pr.2.1 pr.1.1 r d c).2.2,a))
   else ((0,6),pr.2.1,a))
  else ((0,6),pr.2.1,pr.2.2))
 else ((0,2),m,a)
def rA (mm:Option (Value × Aa)) (σ:Aa) (i:C9) (ab:Nat) (r:(Int × Int) × HM × AS):Prop:=
 ∃ σ',mm=some (.tuple #[.int .i64 r.1.1,.int .i64 r.1.2],σ')∧Ah σ' i r.2.1∧Ch σ' ab i r.2.2∧Co i ab σ σ'
theorem tX (μ:Aa) (T:TypeId) (p q x y z u w p' q' x' y' z' u' w':Value):JM (μ++[.cells [p,q,x,y,z,u,w] T true]) μ.length 0 [p',q',x',y',z',u',w']=some (μ++[.cells [p',q',x',y',z',u',w'] T true]):=by
 simp[JM,AE]
set_option maxHeartbeats 1000000 in
theorem oo (k:Nat) (hk:5000≤k) (h:Ah σ i m) (hA:Ch σ ab i a) (hab:ab ∉ i.l) (ho:a.ok) {r d c:Int} (pr:PR)
  (hp:valid r d c=true → ∀ σ0,Ah σ0 i m→Ch σ0 ab i a→dk (Cl (k+12) (tI a.p (words r d c)) [.pointer (DC ab),.int .i64 (words r d c)] σ0) σ0 i ab pr)
  (hI:valid r d c=true→Inv pr.2.1) (hb:valid r d c=true→pr.2.1.births<1000000) (hadr:valid r d c=true→0≤pr.1.1∧pr.1.1≤10000) (hps:valid r d c=true→pr.2.2.s=a.s):
  rA (AO (k+13) (DC ab) r d c σ) σ i ab (Bu m a r d c pr):=by
 have hlt:=hA.lt
 rw[KK,II]
 simp only[Ao]
 obtain ⟨μ0,hμ0⟩:∃ μ0,σ++[AY.cells [Value.int .i64 r,.int .i64 d,.int .i64 c] Ag true]=μ0:=⟨_,rfl⟩
 rw[hμ0]
 have h0:Ah μ0 i m:=hμ0 ▸ h.app _
 have A0:Ch μ0 ab i a:=hμ0 ▸ hA.app _
 have K0:Co i ab σ μ0:=hμ0 ▸ Co.app σ _
 have S0:μ0[σ.length]?=some (AY.cells [Value.int .i64 r,.int .i64 d,.int .i64 c] Ag true):=by rw[← hμ0]; simp
 have bx:∀ {μ:Aa},μ[σ.length]?=some (AY.cells [Value.int .i64 r,.int .i64 d,.int .i64 c] Ag true)→Ai .i64 μ σ.length 0=some r∧Ai .i64 μ σ.length 1=some d∧Ai .i64 μ σ.length 2=some c:=by
  intro μ hm; simp[Ai,G1,hm,B8]
 obtain ⟨b0,b1,b2⟩:=bx S0
 obtain ⟨τ1,e1⟩:=Sa (k+11) r d c μ0
 simp only[aZ (k+11) A0,Option.bind_some,Au,Bool.not_true,cond_false,Nat.zero_add,Nat.reduceAdd,b0,b1,b2,e1]
 unfold Bu
 cases hv:valid r d c with
 | false=>
   simp only[Bool.not_false,cond_true,Bool.false_eq_true,if_false]
   exact ⟨μ0++τ1,rfl,h0.app _,A0.app _,K0.trans (Co.app _ _)⟩
 | true=>
   have ha1:=hadr hv
   obtain ⟨τ2,e2⟩:=Mi (k+10) r d c (μ0++τ1)
   have S1:(μ0++τ1)[σ.length]?=some (AY.cells [Value.int .i64 r,.int .i64 d,.int .i64 c] Ag true):=by rw[List.getElem?_append_left (Ae S0)]; exact S0
   obtain ⟨c0,c1,c2⟩:=bx S1
   obtain ⟨μ2,hμ2⟩:∃ μ2,μ0++τ1++τ2=μ2:=⟨_,rfl⟩
   rw[hμ2] at e2
   have h2:Ah μ2 i m:=hμ2 ▸ (h0.app _).app _
   have A2:Ch μ2 ab i a:=hμ2 ▸ (A0.app _).app _
   have K2:Co i ab σ μ2:=hμ2 ▸ (K0.trans (Co.app _ _)).trans (Co.app _ _)
   have S2:μ2[σ.length]?=some (AY.cells [Value.int .i64 r,.int .i64 d,.int .i64 c] Ag true):=by rw[← hμ2,List.getElem?_append_left (Ae S1)]; exact S1
   obtain ⟨μ3,hμ3⟩:∃ μ3,μ2++[lz]=μ3:=⟨_,rfl⟩
   have e3:DN (k+12) μ2=_:=ZE (k+11) μ2
   rw[hμ3] at e3
   have h3:Ah μ3 i m:=hμ3 ▸ h2.app _
   have A3:Ch μ3 ab i a:=hμ3 ▸ A2.app _
   have K3:Co i ab σ μ3:=hμ3 ▸ K2.trans (Co.app _ _)
   have S3:μ3[σ.length]?=some (AY.cells [Value.int .i64 r,.int .i64 d,.int .i64 c] Ag true):=by rw[← hμ3,List.getElem?_append_left (Ae S2)]; exact S2
   have p0:=ho.p0
   have lp:G1 μ3 μ2.length a.p.toNat=some (Xk a.p.toNat):=by
    rw[← hμ3]; unfold lz; rw[mq]
    obtain ⟨n,hn⟩:∃ n:Nat,a.p=(n:Int):=⟨a.p.toNat,by omega⟩
    rw[hn,Int.toNat_natCast]
    match n,(show n<5 by omega) with
    | 0,_=>rfl
    | 1,_=>rfl
    | 2,_=>rfl
    | 3,_=>rfl
    | 4,_=>rfl
   have hnil:∀ (n:Nat) (K:Value→Option (Value × Aa)),pA (Xk n) K=K (Xk n):=fun _ _=>rfl
   obtain ⟨μ4,hμ4⟩:∃ μ4,μ3++[AY.cells (a.row i.hb) AV true]=μ4:=⟨_,rfl⟩
   have h4:Ah μ4 i m:=hμ4 ▸ h3.app _
   have A4:Ch μ4 ab i a:=hμ4 ▸ A3.app _
   have K4:Co i ab σ μ4:=hμ4 ▸ K3.trans (Co.app _ _)
   have S4:μ4[σ.length]?=some (AY.cells [Value.int .i64 r,.int .i64 d,.int .i64 c] Ag true):=by rw[← hμ4,List.getElem?_append_left (Ae S3)]; exact S3
   have W4:Ch μ4 μ3.length i a:=by unfold Ch; rw[← hμ4]; simp
   have n3:μ3.length ∉ i.l:=fun hm=>Nat.lt_irrefl _ (h3.lt _ hm)
   have ns:σ.length ∉ i.l:=fun hm=>Nat.lt_irrefl _ (h.lt _ hm)
   have lab3:=A3.lt
   have l03:=K3.len
   obtain ⟨μ5,e5,h5,A5,K5⟩:=hp hv μ4 h4 A4
   have W5:Ch μ5 μ3.length i a:=W4.CX (K5.same _ W4.lt n3 (by omega))
   have S5:μ5[σ.length]?=some (AY.cells [Value.int .i64 r,.int .i64 d,.int .i64 c] Ag true):=by rw[K5.same _ (Ae S4) ns (by omega)]; exact S4
   have K05:=K4.trans K5
   simp only[Bool.not_true,cond_false,c0,c1,c2,e2,Option.bind_some,Am,e3,Hs,A3.l2,Nat.zero_add,Nat.mul_one,lp,hnil]
   rw[if_pos (show 0≤a.p∧a.p<((5:Nat):Int) by omega)]
   have hsel:∀ (K:Ay→Option (Value × Aa)),((bif decide (words r d c>32) then (some (Bm.normal,[Value.func (.func Mg) #[] #[]],μ3)) else (some (Bm.normal,[(Value.func (.method "dustcart/alloc.place") #[Xk a.p.toNat] #[])],μ3)):Option Ay).bind K)=K (.normal,[tI a.p (words r d c)],μ3):=by
    intro K
    unfold tI
    by_cases q:words r d c>32
    ·rw[decide_eq_true q,if_pos q]; rfl
    ·rw[decide_eq_false q,if_neg q]; rfl
   have hst:JM (μ3++[AY.cells [.pointer none,.int .i64 (0:Int),.int .i64 (0:Int),.int .i64 (0:Int),.int .i64 (0:Int),.int .i64 (0:Int),.int .i64 (0:Int)] AV true]) μ3.length 0 [.pointer (CW i),.int .i64 a.s,.int .i64 a.p,.int .i64 a.c,.int .i64 a.l,.int .i64 a.oc,.int .i64 a.ol]=some μ4:=by
    rw[tX,← hμ4]; rfl
   rw[hsel]
   simp only[if_true,sJ,Option.bind_some,A3.Ys,A3.l1,A3.l2,A3.l3,A3.l4,A3.l5,A3.l6,hst,e5,TJ]
   cases hok:pr.1.2 with
   | false=>
     simp only[Bool.not_false,cond_true,Bool.false_eq_true,if_false]
     exact ⟨μ5,rfl,h5,A5,K05⟩
   | true=>
     have wq:Ad (pr.1.1.tdiv 64)=pr.1.1.tdiv 64:=by
      rw[Int.tdiv_eq_ediv_of_nonneg ha1.1]; exact Ac (by unfold AN; omega)
     have e6:Bp (k+12) (CW i) (pr.1.1.tdiv 64) μ5=_:=lT (k+9) h5 (pr.1.1.tdiv 64)
     simp only[Bool.not_true,cond_false,A5.Ys,Option.bind_some,wq,e6,Am,A5.l1,hps hv,if_true]
     rw[if_neg (by decide)]
     have restore:∀ {μ:Aa} {a':AS},Ch μ ab i a'→JM μ ab 0 [.pointer (CW i),.int .i64 a.s,.int .i64 a.p,.int .i64 a.c,.int .i64 a.l,.int .i64 a.oc,.int .i64 a.ol]=some (μ.set ab (.cells (a.row i.hb) AV true)):=fun hh=>hh.st 0 _ a rfl (by simp)
     by_cases q:NX pr.2.1 (pr.1.1.tdiv 64)=a.s
     ·obtain ⟨s0,s1,s2⟩:=bx S5
      obtain ⟨μ6,e7,h6,k6⟩:=hU k hk h5 (hI hv) (hb hv) pr.1.1 r d c (by unfold AN; omega)
      have A6:=A5.UC k6 hab
      have W6:Ch μ6 μ3.length i a:=W5.UC k6 n3
      have K06:=K05.trans (Co.of k6)
      simp only[q,beq_self_eq_true,cond_true,s0,s1,s2,Option.bind_some,e7,Ed,if_true,Ds]
      by_cases q2:(Bv pr.2.1 pr.1.1 r d c).2.1=0
      ·simp only[q2,bne_self_eq_false,cond_false,if_true]
       exact ⟨μ6,rfl,h6,A6,K06⟩
      ·simp only[show ((Bv pr.2.1 pr.1.1 r d c).2.1 != 0)=true from by simpa using q2,cond_true,if_neg q2,W6.Ys,W6.l1,W6.l2,W6.l3,W6.l4,W6.l5,W6.l6,Option.bind_some,restore A6]
       exact ⟨_,rfl,h6.Sj hab _,A6.put a,K06.trans (Co.set _ _)⟩
     ·simp only[show (NX pr.2.1 (pr.1.1.tdiv 64) == a.s)=false from by simpa using q,cond_false,Option.bind_some,if_true,Ds,show ((5:Int) != 0)=true from rfl,cond_true,if_neg q,W5.Ys,W5.l1,W5.l2,W5.l3,W5.l4,W5.l5,W5.l6,restore A5]
      exact ⟨_,rfl,h5.Sj hab _,A5.put a,K05.trans (Co.set _ _)⟩
theorem ql (k:Nat) (h:Ah σ i m) (s p:Int):∃ σ1,GY (k+3) (CW i) s p σ=(if (0≤s∧s<8)∧(0≤p∧p<5) then some (.tuple #[.pointer (DC σ1.length),.int .i64 0],σ1++[AY.cells ((⟨s,p,0,0,0,0⟩:AS).row i.hb) AV true]) else some (.tuple #[.pointer none,.int .i64 1],σ1)) ∧ ∃ τ,σ1=σ++τ:=by
 have hnb:=h.nb
 rw[Vd,Va]
 have q0:(((m.bls.length:Nat):Int) == 0)=false:=beq_eq_false_iff_ne.2 (by omega)
 simp only[JR k h,Option.bind_some,Am,q0,cond_false]
 by_cases h1:s<0
 ·refine ⟨σ, ?_,[],by simp⟩
  simp only[decide_eq_true h1,Option.bind_some,cond_true,if_neg (show ¬ ((0≤s∧s<8)∧(0≤p∧p<5)) by omega)]
 simp only[decide_eq_false h1,Option.bind_some,cond_false]
 by_cases h2:s≥8
 ·refine ⟨σ, ?_,[],by simp⟩
  simp only[decide_eq_true h2,Option.bind_some,cond_true,if_neg (show ¬ ((0≤s∧s<8)∧(0≤p∧p<5)) by omega)]
 simp only[decide_eq_false h2,Option.bind_some,cond_false]
 by_cases h3:p<0
 ·refine ⟨σ, ?_,[],by simp⟩
  simp only[decide_eq_true h3,Option.bind_some,cond_true,if_neg (show ¬ ((0≤s∧s<8)∧(0≤p∧p<5)) by omega)]
 simp only[decide_eq_false h3,Option.bind_some,cond_false,ZE,Hs]
 by_cases h4:p≥((5:Nat):Int)
 ·refine ⟨σ++[lz], ?_,[lz],rfl⟩
  simp only[decide_eq_true h4,cond_true,if_neg (show ¬ ((0≤s∧s<8)∧(0≤p∧p<5)) by omega)]
 ·refine ⟨σ++[lz], ?_,[lz],rfl⟩
  simp only[decide_eq_false h4,cond_false,if_pos (show (0≤s∧s<8)∧(0≤p∧p<5) by omega),Ao]
  rfl
theorem ko (k:Nat) (p:Option Addr) (n:Int) (σ:Aa):Cl k (.func (.method "dustcart/alloc.place") #[Xk 3] #[]) [.pointer p,.int .i64 n] σ=D3 k p n σ:=by
 simp only[Cl,D3,Ab]; kernel_rfl
end Go.Proofs.YtlaplcglpnlieaaGreat
end
section
namespace Go.Proofs.YtlaplcglpnlieaaGreat
open Go Go.AX
noncomputable local instance vX:AK:=As
local instance uQ:Kn:=⟨true⟩
variable {σ:Aa} {i:C9} {m:HM} {ab:Nat} {a:AS}
structure hY (m:HM) (a:AS) (pr:PR):Prop where
 inv:Inv pr.2.1
 inv2:Inv2 pr.2.1
 brt:pr.2.1.births=m.births
 len:pr.2.1.bls.length=m.bls.length
 adr:0≤pr.1.1∧pr.1.1≤10000
 s:pr.2.2.s=a.s
 p:pr.2.2.p=a.p
 ok:pr.2.2.ok
 no:pr.1.2=false→pr.2=(m,a)
theorem Tx (m:HM) (b c x y x' y':Int):(Bs m b c x y x' y').2.births=m.births:=by
 unfold Bs
 split
 ·split <;> rfl
 ·rfl
theorem bg (h:Inv m) (h2:Inv2 m) {b:Nat} (s:Int):Inv (Dh m b s)∧Inv2 (Dh m b s)∧(Dh m b s).births=m.births∧(Dh m b s).bls.length=m.bls.length:=by
 have k:=MW h h2 (b:Int) 1 1 s 0 0
 exact ⟨k.inv,k.inv2,Tx _ _ _ _ _ _ _,k.len⟩
theorem gL (h:Inv m) (h2:Inv2 m) (ho:a.ok):hY m a ((0,false),m,a):=⟨h,h2,rfl,rfl,by dsimp only; omega,rfl,rfl,ho,fun _=>rfl⟩
theorem iu (h:Inv m) (h2:Inv2 m) (hl:m.bls.length≤64) (ho:a.ok) (v:Bool) {w:Int} (hw:0≤w∧w≤1000):hY m a (Dg m a v w):=by
 have hc:=ho.cu v
 unfold Dg
 split
 ·exact ⟨h,h2,rfl,rfl,by dsimp only; omega,jg _ _ _ _,jf _ _ _ _,ho.put v (by omega) (by omega),fun hh=>by cases hh⟩
 ·split
  ·rename_i b hb
   have:=Hp hb
   obtain ⟨k1,k2,k3,k4⟩:=bg (b:=b) h h2 a.s
   exact ⟨k1,k2,k3,k4,by dsimp only; omega,jg _ _ _ _,jf _ _ _ _,ho.put v (by omega) (by omega),fun hh=>by cases hh⟩
  ·exact gL h h2 ho
theorem pv {c:Nat} {s:Int}:∀ {n x b:Nat},dB m c s n x=some b→b+c≤m.bls.length
 | 0,x,b,h=>by cases h
 | n+1,x,b,h=>by
   unfold dB at h
   split at h
   ·split at h
    ·cases h; assumption
    ·exact pv h
   ·cases h
theorem nu (h:Inv m) (h2:Inv2 m) (hl:m.bls.length≤64) (ho:a.ok) (w:Int):hY m a (KX m a w):=by
 unfold KX
 split
 ·rename_i b hb
  have:=pv hb
  have k:=MW h h2 (b:Int) (((w.toNat+63)/64:Nat):Int) 2 a.s 3 a.s
  exact ⟨k.inv,k.inv2,Tx _ _ _ _ _ _ _,k.len,by dsimp only; omega,rfl,rfl,ho,fun hh=>by cases hh⟩
 ·exact gL h h2 ho
structure oh (m:HM) (a:AS) (r:(Int × Int) × HM × AS):Prop where
 inv:Inv r.2.1
 inv2:Inv2 r.2.1
 b1:m.births≤r.2.1.births
 b2:r.2.1.births≤m.births+1
 len:r.2.1.bls.length=m.bls.length
 s:r.2.2.s=a.s
 p:r.2.2.p=a.p
 ok:r.2.2.ok
theorem dM (h:Inv m) (h2:Inv2 m) (ho:a.ok) {r d c:Int} {pr:PR} (hp:valid r d c=true→hY m a pr) (hS:valid r d c=true→Sh pr.2.1):oh m a (Bu m a r d c pr):=by
 unfold Bu
 split
 ·rename_i hv
  obtain ⟨k1,k2,k3,k4,k5,k6,k7,k8,k9⟩:=hp hv
  have kp:=RF k1 k2 (hS hv) pr.1.1 r d c
  have b1:=kp.b1; have b2:=kp.b2
  split
  ·split
   ·split
    ·exact ⟨kp.inv,kp.inv2,by dsimp only; omega,by dsimp only; omega,by rw[← k4]; exact kp.len,k6,k7,k8⟩
    ·exact ⟨kp.inv,kp.inv2,by dsimp only; omega,by dsimp only; omega,by rw[← k4]; exact kp.len,rfl,rfl,ho⟩
   ·exact ⟨k1,k2,by dsimp only; omega,by dsimp only; omega,k4,rfl,rfl,ho⟩
  ·exact ⟨k1,k2,by dsimp only; omega,by dsimp only; omega,k4,k6,k7,k8⟩
 ·exact ⟨h,h2,Int.le_refl _,by dsimp only; omega,rfl,rfl,rfl,ho⟩
theorem HH {r d c:Int} (h:valid r d c=true):2≤words r d c∧words r d c≤218∧words r d c % 2=0:=by
 unfold words
 rw[h]
 simp only[cond_true]
 simp[valid] at h
 omega
theorem mY (hS:Sh m) (b c x y x' y':Int):Sh (Bs m b c x y x' y').2:=by
 have key:∀ l:List (Int × Int),l.length=m.bls.length→Sh { m with bls:=l }:=fun l hl=>by
  obtain ⟨p,q,r⟩:=hS
  exact ⟨by simp only; rw[hl]; exact p,by simp only; rw[hl]; exact q,by simp only; rw[hl]; exact r⟩
 unfold Bs
 split
 ·split
  ·exact key _ (by simp[Fu])
  ·exact hS
 ·exact hS
end Go.Proofs.YtlaplcglpnlieaaGreat
end
