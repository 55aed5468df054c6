/- The document's heap: objects placed and moved.; The document's heap: objects moved.; The document's heap: a new one, and a copy.; The program's heap,  -/
import Derived.Test.YtlaplcglpnlieaaGreatP17
import Derived.Test.YtlaplcglpnlieaaGreatP14
import Derived.Test.YtlaplcglpnlieaaGreatP15
import Derived.Test.YtlaplcglpnlieaaGreatP12
import Derived.Test.YtlaplcglpnlieaaGreatP13
set_option linter.unusedVariables false
set_option linter.unusedSimpArgs false
set_option linter.unusedSectionVars false
section
namespace Go.Proofs.YtlaplcglpnlieaaGreat
open Go Go.AX
noncomputable local instance wh:AF:=Au
local instance uS:Kn:=⟨true⟩
variable {σ:Aa} {m:HM} {t:RM} {i:RI}
theorem NB.qu (h:NB σ i t) (v:Int):∃ c,AX.G0 σ i.hb 3 (.int .i64 v)=some (σ.set i.hb c)∧NB (σ.set i.hb c) i { t with born:=v }:=
 ⟨_,by simp only[AX.G0,h.hp]; rfl,NB.oH (t:={ t with born:=v }) h.bl h.ob h.fw h.ol h.inn h.sep h.lt⟩
theorem qp (n:Nat):rep n [Value.int .i64 0]=Df (List.replicate n 0):=by
 simp[rep,Df]
theorem dZ (k:Nat) (hk:5000≤k) (h:RG σ i m t) (hP:NS m) (hS:Sh m) (hb:m.births<1000000) (a r d c:Int):
  Hp (Dz (k+5) (Ci i) a r d c σ) σ i (.tuple #[.int .i64 (Br m a r d c).1,.int .i64 (Br m a r d c).2.1]) (Br m a r d c).2.2:=by
 have hnt:=h.nt
 have hwl:=h.wl
 have hol:=h.ol
 have hbr:=h.inv.brt
 obtain ⟨S,hSS⟩:∃ S,Bi.cells [.int .i64 r,.int .i64 d,.int .i64 c] Al true=S:=⟨_,rfl⟩
 have hg:=h.app [S]
 have hq:(σ++[S])[σ.length]?=some (.cells [.int .i64 r,.int .i64 d,.int .i64 c] Al true):=by rw[← hSS]; simp
 obtain ⟨b0,b1,b2⟩:=SW hq
 obtain ⟨τ1,eV⟩:=Tq (k+3) r d c (σ++[S])
 have hg1:=hg.app τ1
 have hq1:(σ++[S]++τ1)[σ.length]?=_:=(List.getElem?_append_left (Ae hq)).trans hq
 obtain ⟨d0,d1,d2⟩:=SW hq1
 have eM:An (k+4) (Ci i) (σ++[S])=_:=Iw (k+3) hg
 rw[TW,Qc]
 simp only[Ap,hSS,eM,Option.bind_some,As,Bool.not_true,cond_false,Nat.zero_add,Nat.reduceAdd,Nat.add_zero,b0,b1,b2,eV]
 unfold Br
 cases hv:valid r d c with
 | false=>
   simp only[Bool.not_false,cond_true,Bool.false_eq_true,if_false]
   exact Hp.same h hP ([S]++τ1) (by rw[← List.append_assoc])
 | true=>
 obtain ⟨τ2,eF⟩:=oX k hk hg1 a (-1) 0 hv (fun o ho=>by
  have:=(h.inv.idn o ho).1
  constructor
  ·intro e; omega
  ·intro e; omega)
 simp only[Bool.not_true,cond_false,if_true,d0,d1,d2,Option.bind_some,eF,Am]
 by_cases hf:Ik m a (PS (num r d c)) (-1)=0
 rotate_left
 ·rw[if_neg hf]
  simp only[bne_iff_ne.2 hf,cond_true]
  exact Hp.same h hP ([S]++τ1++τ2) (by simp only[← List.append_assoc])
 rw[if_pos hf]
 have hw2:2≤PS (num r d c):=by
  have hv':=hv
  rw[O9 hv]
  simp[valid] at hv'
  omega
 obtain ⟨j,rfl,hj,hfit,hap⟩:=h.inv.fits hwl (gf _) hw2 hf
 rw[show ((2*j:Nat):Int).toNat/2=j from by omega]
 obtain ⟨s1,s2⟩:=h.sim.place h.inv h.inv2 hS hP hv hj (fun o ho=>hap o ho (by omega))
 have hg2:=hg1.app τ2
 obtain ⟨C,eS,h4⟩:=hg2.at_.qu (t.born+1)
 have hq2:(σ++[S]++τ1++τ2)[σ.length]?=_:=(List.getElem?_append_left (Ae hq1)).trans hq1
 have hhb:i.hb<σ.length:=h.at_.lt _ i.R8
 have hq3:((σ++[S]++τ1++τ2).set i.hb C)[σ.length]?=_:=(List.getElem?_set_ne (show i.hb≠σ.length by omega)).trans hq2
 have hlen:((σ++[S]++τ1++τ2).set i.hb C).length=σ.length+1+τ1.length+τ2.length:=by simp; omega
 have hs4:∀ x,x<σ.length→x≠i.hb→((σ++[S]++τ1++τ2).set i.hb C)[x]?=σ[x]?:=fun x hx hne=>by
  rw[List.getElem?_set_ne (Ne.symm hne),List.append_assoc,List.append_assoc,List.getElem?_append_left hx]
 have ld3':=hg2.at_.sE
 generalize (σ++[S]++τ1++τ2).set i.hb C=μ at h4 eS hq3 hlen hs4
 obtain ⟨c0,c1,c2⟩:=SW hq3
 have hv':=hv
 simp[valid] at hv'
 obtain ⟨rn,rfl⟩:∃ n:Nat,r=(n:Int):=⟨r.toNat,by omega⟩
 obtain ⟨dn,rfl⟩:∃ n:Nat,d=(n:Int):=⟨d.toNat,by omega⟩
 have w:Ac (t.born+1)=t.born+1:=Ad (by rw[h.sim.born]; unfold AW; omega)
 have qr:(0≤(rn:Int)∧(rn:Int)≤(rn:Int)∧(rn:Int)*((8:Nat):Int)≤2 ^ 40∧(rn:Int)≤2 ^ 40)=True:=eq_true (by omega)
 have qd:(0≤(dn:Int)∧(dn:Int)≤(dn:Int)∧(dn:Int)*((8:Nat):Int)≤2 ^ 40∧(dn:Int)≤2 ^ 40)=True:=eq_true (by omega)
 obtain ⟨A,hA⟩:∃ A,Bi.cells (Df (List.replicate rn 0)) B9 true=A:=⟨_,rfl⟩
 obtain ⟨D,hD⟩:∃ D,Bi.cells (Df (List.replicate dn 0)) B9 true=D:=⟨_,rfl⟩
 have hq5:(μ++[A])[σ.length]?=_:=(List.getElem?_append_left (Ae hq3)).trans hq3
 obtain ⟨_,f1,_⟩:=SW hq5
 have h6:NB (μ++[A]++[D]) i { t with born:=t.born+1 }:=(h4.app [A]).app [D]
 have gA:(μ++[A]++[D])[μ.length]?=some (.cells (Df (List.replicate rn 0)) B9 true):=by rw[hA]; simp
 have gD:(μ++[A]++[D])[(μ++[A]).length]?=some (.cells (Df (List.replicate dn 0)) B9 true):=by rw[hD]; simp
 have ltl:∀ x ∈ i.l,x<σ.length:=h.at_.lt
 obtain ⟨σ',os',eP,hR,hsame,hle,hnew,hin⟩:=qt (k+3) (by omega) h6 (by show t.ob.length≤4900; omega) ⟨((2*j:Nat):Int),t.born+1,(rn:Int),(dn:Int),c,List.replicate rn 0,List.replicate dn 0,false⟩ ((some ⟨μ.length,0,none⟩,rn,rn),(some ⟨(μ++[A]).length,0,none⟩,dn,dn))
  ⟨by simp,fun _=>⟨μ.length,rn,by simp,gA⟩,fun a ha=>by cases ha; exact ⟨_,_,_,gA,Nat.zero_le _⟩⟩ ⟨by simp,fun _=>⟨(μ++[A]).length,dn,by simp,gD⟩,fun a ha=>by cases ha; exact ⟨_,_,_,gD,Nat.zero_le _⟩⟩
  (by
   intro x hx
   have:x=μ.length∨x=(μ++[A]).length:=by
    rcases hx with hx | hx
    ·obtain ⟨q,e,rfl⟩:=JO.1 hx
     cases e; exact .inl rfl
    ·obtain ⟨q,e,rfl⟩:=JO.1 hx
     cases e; exact .inr rfl
   refine ⟨?_,fun hm=>?_⟩
   ·have hl:(μ++[A]).length=μ.length+1:=by simp
    have hl2:(μ++[A]++[D]).length=μ.length+2:=by simp
    rcases this with e | e <;> omega
   ·have:=ltl x hm
    have hl:(μ++[A]).length=μ.length+1:=by simp
    rcases ‹x=μ.length∨x=(μ++[A]).length› with e | e <;> omega)
  (by simp[hs])
 have eP':GS (k+4) (Ci i) ((2*j:Nat):Int) (t.born+1) (rn:Int) (dn:Int) c (some ⟨μ.length,0,none⟩,rn,rn) (some ⟨(μ++[A]).length,0,none⟩,dn,dn) false (μ++[A]++[D])=some (.tuple #[],σ'):=eP
 refine ⟨σ',_,_, ?_,hR,s1,s2,⟨by simp at hle; omega,fun x hx hn=>?_,fun x hx=>?_,rfl⟩⟩
 ·simp only[bne_self_eq_false,hf,cond_false,ld3',Option.bind_some,w,eS,h4.sE,c0,c1,c2,qr,if_true,Int.toNat_natCast,qp,hA,f1,qd,hD,eP',Ju]
  have:=hR.sE
  simp only at this
  rw[this,h.sim.born]
  rfl
 ·have hne:x≠i.hb:=fun e=>hn (by rw[e]; exact i.R8)
  rw[hsame x (by simp; omega) hne,List.append_assoc,List.getElem?_append_left (by omega),hs4 x hx hne]
 ·rcases hin x hx with e | e | e | e
  ·exact .inl e
  ·obtain ⟨q,e',rfl⟩:=JO.1 e
   cases e'
   exact .inr (by show σ.length≤μ.length; omega)
  ·obtain ⟨q,e',rfl⟩:=JO.1 e
   cases e'
   exact .inr (by show σ.length≤(μ++[A]).length; simp; omega)
  ·exact .inr (by simp at e; omega)
end Go.Proofs.YtlaplcglpnlieaaGreat
end
section
namespace Go.Proofs.YtlaplcglpnlieaaGreat
open Go Go.AX
noncomputable local instance wj:AF:=Au
local instance uT:Kn:=⟨true⟩
variable {σ:Aa} {m:HM} {t:RM} {i:RI}
end Go.Proofs.YtlaplcglpnlieaaGreat
end
section
namespace Go.Proofs.YtlaplcglpnlieaaGreat
open Go Go.AX
noncomputable local instance wk:AF:=Au
local instance uU:Kn:=⟨true⟩
variable {σ:Aa} {m:HM} {t:RM} {i:RI}
theorem mB (n j:Nat):¬ Start (MS n) j:=by
 rintro ⟨_,h⟩
 have:Ge 1 (MS n).stw j=0:=TB _ _ _
 omega
theorem RU.new (n:Nat):RU (MS n) ⟨List.replicate n (0,0),[],[],0⟩:=by
 refine ⟨rfl, ?_,rfl,fun a=>rfl,rfl,trivial,trivial⟩
 have:D7 (MS n)=[]:=by
  cases h:D7 (MS n) with
  | nil=>rfl
  | cons j l=>exact absurd (Es.1 (by rw[h]; exact List.mem_cons_self)) (mB n j)
 show []=KE (MS n)
 unfold KE
 rw[this]; rfl
theorem NS.new (n:Nat):NS (MS n):=fun j _ _=>TB _ _ _
theorem FZ.new (n:Nat):FZ (MS n):=by
 intro c _
 show ((List.replicate n ((0:Int),(0:Int))).getD c (0,0)).2=0
 rw[List.getD_eq_getElem?_getD,List.getElem?_replicate]
 split <;> rfl
theorem lD (k:Nat) {n:Nat} (h2:2≤n) (h64:n≤64) (σ:Aa):∃ τ i,K9 (k+1) (n:Int) σ=some (.tuple #[.pointer (Ci i),.int .i64 0],σ++τ)∧NB (σ++τ) i ⟨List.replicate n (0,0),[],[],0⟩ ∧ ∀ j ∈ i.l,σ.length≤j:=by
 rw[aD,YP]
 simp only[show decide ((n:Int)<2)=false from decide_eq_false (by omega),cond_false,show decide ((n:Int)>64)=false from decide_eq_false (by omega),Option.bind_some,Ap]
 rw[if_pos (by omega)]
 simp only[Int.toNat_natCast,lG]
 obtain ⟨A,hA⟩:∃ A,Bi.cells (CE (List.replicate n (0,0))) AA true=A:=⟨_,rfl⟩
 rw[hA]
 refine ⟨[A]++[Bi.cells [.slice (some ⟨σ.length,0,none⟩) n n,.slice none 0 0,.slice none 0 0,.int .i64 0] EI true],⟨(σ++[A]).length,(some ⟨σ.length,0,none⟩,n,n),(none,0,0),(none,0,0),[]⟩,by rw[List.append_assoc], ?_, ?_⟩
 ·rw[← List.append_assoc]
  refine { hp:=by simp,bl:=.inr ⟨σ.length,by simp,Nat.zero_le _,by rw[Gh]; omega,by rw[List.getElem?_append_left (by simp),← hA]; simp⟩,ob:=.inl ⟨rfl,rfl,rfl⟩,fw:=.inl (.inl ⟨rfl,rfl,rfl⟩),ol:=rfl,inn:=fun x h=>by simp at h,nd:=?_,lt:=?_ }
  ·simp[RI.l,hs]
  ·intro j hj
   simp[RI.l,hs] at hj
   simp
   omega
 ·intro j hj
  simp[RI.l,hs] at hj
  omega
theorem KX.first {s:E8} {l:List Int} (h:KX σ s l):GI σ 1 s.1 l.length=some (Df l):=by
 by_cases hl:l=[]
 ·subst hl
  cases hs:s.1 with
  | none=>rfl
  | some a=>
    obtain ⟨cs,T,w,h1,h2⟩:=h.2.2 a hs
    simp only[GI,VV,h1,List.length_nil,Nat.zero_mul,Nat.add_zero,h2,if_true,List.take_zero]
    rfl
 ·obtain ⟨b,c,rfl,hc⟩:=h.2.1 hl
  simp only[GI,VV,hc,Jr,Nat.zero_add,Nat.mul_one,Nat.le_refl,if_true,List.drop_zero]
  rw[List.take_of_length_le (by rw[Jr]; exact Nat.le_refl _)]
theorem BQ.first {E:TypeId} {s n:Nat} {sl:E8} {row:List Value} (h:BQ E s σ sl n row):GI σ s sl.1 n=some row:=by
 rcases h with ⟨rfl,rfl,rfl⟩ | ⟨b,rfl,_,hl,hc⟩
 ·rfl
 ·simp only[GI,VV,hc,hl,Nat.zero_add,Nat.le_refl,if_true,List.drop_zero]
  rw[List.take_of_length_le (Nat.le_of_eq hl)]
end Go.Proofs.YtlaplcglpnlieaaGreat
end
section
namespace Go.Proofs.YtlaplcglpnlieaaGreat
open Go Go.AX
noncomputable local instance wm:AF:=Au
local instance uV:Kn:=⟨true⟩
variable {σ:Aa} {m:HM} {i:Cs}
theorem jf (k:Nat) (h:Ah σ i m) {b:Int} (hb:¬ (0≤b∧b<(m.bls.length:Int))):Ca (k+3) (DW i) b σ=some (.bool false,σ):=by
 rw[Lo,KM]
 simp only[ZO _ h,Option.bind_some,As,decide_eq_false (show ¬ (1≤b∧b<(m.bls.length:Int)) by omega),cond_false]
theorem nu (k:Nat) (hk:5000≤k) (h:Ah σ i m) (hI:Inv m) (h0:B0 m) (b:Int):
  ∃ τ s,DK (k+7) (DW i) b σ=some (.slice s.1 s.2.1 s.2.2,σ++τ)∧BQ Af 2 (σ++τ) s (EN m b).length (AL (EN m b)) ∧ ∀ a,s.1=some a→σ.length≤a.block:=by
 by_cases hb:0≤b∧b<(m.bls.length:Int)
 ·obtain ⟨n,rfl⟩:∃ n:Nat,b=(n:Int):=⟨b.toNat,by omega⟩
  have e:EN m (n:Int)=dy m n:=by
   unfold EN dy Ih
   rw[if_pos hb,Int.toNat_natCast]
   by_cases hs:(m.bls.getD n (0,0)).1=1
   ·have:1≤n:=by
     rcases Nat.eq_zero_or_pos n with rfl | h1
     ·have:=h0; unfold B0 at this; omega
     ·exact h1
    rw[if_pos hs,if_pos ⟨this,hs⟩]
   ·rw[if_neg hs,if_neg (fun hh=>hs hh.2)]
  rw[e]
  obtain ⟨τ,s,e1,e2,_,e4⟩:=pE k hk h hI (b:=n) (by omega)
  exact ⟨τ,s,e1,e2,e4⟩
 ·have e:EN m b=[]:=by
   unfold EN Ih
   rw[if_neg hb,if_neg (by decide)]
  rw[e]
  refine ⟨[],(none,0,0), ?_,BQ.nil _ _ _,by intro a ha; cases ha⟩
  rw[Iv,IA]
  have hu:Ca (k+6) (DW i) b σ=_:=jf (k+3) h hb
  simp only[hu,Option.bind_some,As,Bool.not_false,cond_true,List.append_nil]
theorem cN {l l':List Bool} (hl:l.length=l'.length) (h:∀ t,t<l.length→(l.getD t false=true↔l'.getD t false=true)):l=l':=by
 apply List.ext_getElem hl
 intro n h1 h2
 have:=h n h1
 rw[List.getD_eq_getElem?_getD,List.getD_eq_getElem?_getD,List.getElem?_eq_getElem h1,List.getElem?_eq_getElem h2,Option.getD_some,Option.getD_some] at this
 cases hx:l[n] <;> cases hy:l'[n] <;> rw[hx,hy] at this <;> simp at this <;> rfl
theorem pG (k:Nat) (hk:5000≤k) (h:Ah σ i m) (hI:Inv m) (hI2:Inv2 m) (h0:B0 m) (b:Int):
  ∃ τ s,DY (k+7) (DW i) b σ=some (.slice s.1 s.2.1 s.2.2,σ++τ)∧BQ Eg 1 (σ++τ) s (Er m b).length (Gf (Er m b)) ∧ ∀ a,s.1=some a→σ.length≤a.block:=by
 have hwl:=h.wl
 by_cases hb:0≤b∧b<(m.bls.length:Int)
 ·obtain ⟨n,rfl⟩:∃ n:Nat,b=(n:Int):=⟨b.toNat,by omega⟩
  have hn:n<m.bls.length:=by omega
  unfold Er Ih
  rw[if_pos hb,Int.toNat_natCast]
  by_cases hs:(m.bls.getD n (0,0)).1=1
  ·have h1:1≤n:=by
    rcases Nat.eq_zero_or_pos n with rfl | h1
    ·have:=h0; unfold B0 at this; omega
    ·exact h1
   rw[if_pos hs]
   obtain ⟨τ,bs,e1,e2,e3,e4⟩:=nz k hk h hI hI2 hn h1 hs
   have eb:bs=Ok m n 8:=by
    refine cN (by rw[e3,Ml]) fun t ht=>?_
    rw[e4 t,oE hI hI2 hwl hn hs (by omega)]
    have:(Ok m n 8).getD t false=Ya m (64*n+8*t) 8:=by
     unfold Ok
     rw[List.getD_eq_getElem?_getD,List.getElem?_map,List.getElem?_range (by omega)]
     rfl
    rw[this]
   rw[eb] at e2
   exact ⟨τ,(some ⟨σ.length,0,none⟩,8,8),e1,.inr ⟨σ.length,by rw[Ml],Nat.zero_le _,by rw[Ml]; unfold Gf; rw[List.length_map,Ml],e2⟩,fun a ha=>by cases ha; exact Nat.le_refl _⟩
  ·rw[if_neg hs]
   refine ⟨[],(none,0,0), ?_,BQ.nil _ _ _,by intro a ha; cases ha⟩
   rw[List.append_nil]
   exact ny (k+3) h hn (fun hh=>hs hh.2)
 ·have e:Er m b=[]:=by
   unfold Er Ih
   rw[if_neg hb,if_neg (by decide)]
  rw[e]
  refine ⟨[],(none,0,0), ?_,BQ.nil _ _ _,by intro a ha; cases ha⟩
  rw[HG,H9]
  have hu:Ca (k+6) (DW i) b σ=_:=jf (k+3) h hb
  simp only[hu,Option.bind_some,As,Bool.not_false,cond_true,List.append_nil]
theorem Il {c:Prop} [Decidable c] {r r':Int × HM} (h:c→FZ r.2) (h':¬ c→FZ r'.2):FZ (if c then r else r').2:=by
 split
 ·exact h ‹_›
 ·exact h' ‹_›
theorem R7 {m':HM} (h:FZ m) (hb:m'.bls=m.bls):FZ m':=by unfold FZ; rw[hb]; exact h
theorem Yg (h:FZ m) (b c x y x' y':Int) (hx:x≠0) (hx':x'≠0∨c=1):FZ (Bp m b c x y x' y').2:=by
 unfold Bp
 refine Il (fun hc=>Il (fun hu=>?_) fun _=>h) fun _=>h
 intro d hd
 have hd:(((V7 m.bls b.toNat (x',y') c.toNat 0).set b.toNat (x,y)).getD d (0,0)).1=0:=hd
 show (((V7 m.bls b.toNat (x',y') c.toNat 0).set b.toNat (x,y)).getD d (0,0)).2=0
 rw[OT,Ft] at hd ⊢
 by_cases h1:d=b.toNat∧b.toNat<m.bls.length
 ·rw[if_pos h1] at hd; exact absurd hd hx
 ·rw[if_neg h1] at hd ⊢
  rw[Xi _ _ _ _ _ _ (by omega)] at hd ⊢
  split at hd
  ·rename_i hr
   rcases hx' with hx' | rfl
   ·exact absurd hd hx'
   ·rw[show (1:Int).toNat=1 from rfl] at hr
    exact absurd ⟨by omega,by omega⟩ h1
  ·rename_i hr
   rw[if_neg hr]; exact h d hd
theorem iC (h:FZ m) (b:Int):FZ (GD m b).2:=by
 unfold GD
 refine Il (fun hc=>Il (fun hu=>?_) fun _=>h) fun _=>h
 intro d hd
 have hd:((XC m.bls b.toNat (Ee m b.toNat)).getD d (0,0)).1=0:=hd
 show ((XC m.bls b.toNat (Ee m b.toNat)).getD d (0,0)).2=0
 rw[Om] at hd ⊢
 split
 ·rfl
 ·rename_i hr
  rw[if_neg hr] at hd; exact h d hd
theorem mX (h:FZ m) (b y:Int):FZ (Ls m b y).2:=by
 unfold Ls
 refine Il (fun hc=>?_) fun _=>h
 obtain ⟨n,rfl,h1,h2,_⟩:=Ti hc
 rw[Int.toNat_natCast]
 have hst:(m.bls.getD n (0,0)).1=1∨(m.bls.getD n (0,0)).1=2:=by
  unfold NP at hc
  split at hc
  ·cases hc
  ·split at hc
   ·cases hc
   ·rename_i g
    rw[Int.toNat_natCast] at g
    omega
 intro d hd
 have hd:((VH m.bls n y (Ee m n)).getD d (0,0)).1=0:=hd
 show ((VH m.bls n y (Ee m n)).getD d (0,0)).2=0
 rw[ct _ _ _ _ _ (QI h2)] at hd ⊢
 split
 ·rename_i hr
  rw[if_pos hr] at hd
  have:=XG (m:=m) m.bls.length 1 hst (Nat.le_refl _) (fun c _ _=>by omega) (d-n) (by show d-n<Ee m n; omega)
  rw[show n+(d-n)=d from by omega] at this
  exact absurd hd this
 ·rename_i hr
  rw[if_neg hr] at hd; exact h d hd
theorem nS (h:FZ m) (x:V1):FZ (gL m x).2:=by
 unfold gL
 refine Il (fun _=>Yg h _ _ _ _ _ _ (by decide) (.inr rfl)) fun _=>?_
 refine Il (fun _=>Yg h _ _ _ _ _ _ (by decide) (.inl (by decide))) fun _=>?_
 refine Il (fun _=>iC h _) fun _=>?_
 refine Il (fun _=>mX h _ _) fun _=>?_
 refine Il (fun _=>?_) fun _=>?_
 ·unfold Br
  split
  ·split
   ·exact R7 h rfl
   ·exact h
  ·exact h
 refine Il (fun _=>?_) fun _=>?_
 ·unfold OV; exact Il (fun _=>R7 h rfl) fun _=>h
 refine Il (fun _=>?_) fun _=>?_
 ·unfold dK; exact Il (fun _=>Il (fun _=>R7 h rfl) fun _=>h) fun _=>h
 refine Il (fun _=>?_) fun _=>?_
 ·unfold Vw; exact Il (fun _=>Il (fun _=>h) fun _=>R7 h rfl) fun _=>h
 refine Il (fun _=>?_) fun _=>?_
 ·unfold SC; exact Il (fun _=>R7 h rfl) fun _=>h
 refine Il (fun _=>?_) fun _=>?_
 ·unfold dT
  refine Il (fun _=>?_) fun _=>h
  split
  ·exact h
  ·exact Il (fun _=>R7 h rfl) fun _=>h
 refine Il (fun _=>?_) fun _=>?_
 ·unfold cU; exact Il (fun _=>R7 h rfl) fun _=>h
 refine Il (fun _=>?_) fun _=>?_
 ·unfold cU; exact Il (fun _=>R7 h rfl) fun _=>h
 exact Il (fun _=>R7 h rfl) fun _=>h
end Go.Proofs.YtlaplcglpnlieaaGreat
end
section
namespace Go.Proofs.YtlaplcglpnlieaaGreat
open Go Go.AX
noncomputable local instance wu:AF:=Au
local instance uW:Kn:=⟨true⟩
variable {σ:Aa} {m:HM} {t:RM} {i:Cs} {j:RI}
structure pz (σ:Aa) (i:Cs) (j:RI) (m:HM) (t:RM):Prop where
 h:Ah σ i m
 g:RG σ j m t
 P:NS m
 z:FZ m
 b0:B0 m
 off:∀ q ∈ i.l,q ∉ j.l
 br:m.births≤1000
 fl:m.fw.length≤1000
theorem pz.app (T:pz σ i j m t) (τ:Aa):pz (σ++τ) i j m t:=⟨T.h.app τ,T.g.app τ,T.P,T.z,T.b0,T.off,T.br,T.fl⟩
end Go.Proofs.YtlaplcglpnlieaaGreat
end
section
namespace Go.Proofs.YtlaplcglpnlieaaGreat
open Go Go.AX
noncomputable local instance wv:AF:=Au
local instance uX:Kn:=⟨true⟩
variable {σ:Aa} {m:HM} {t:RM} {i:Cs} {j:RI}
theorem nJ {s:E8} {l:List Int} (h:BQ B9 1 σ s l.length (Df l)) {x:Nat} (hx:x<l.length):∃ b,s.1=some ⟨b,0,none⟩∧Ai .i64 σ b x=some (l.getD x 0):=by
 rcases h with ⟨h,_⟩ | ⟨b,rfl,_,_,hc⟩
 ·omega
 ·exact ⟨b,rfl,oB hc hx⟩
theorem ZE {s:E8} {l:List Bool} (h:BQ Eg 1 σ s l.length (Gf l)) {x:Nat} (hx:x<l.length):∃ b,s.1=some ⟨b,0,none⟩∧WS σ b x=some (l.getD x false):=by
 rcases h with ⟨h,_⟩ | ⟨b,rfl,_,_,hc⟩
 ·omega
 ·exact ⟨b,rfl,rE hc hx⟩
theorem RJ {s:E8} {l:List (Nat × Nat)} (h:BQ Af 2 σ s l.length (AL l)) {x:Nat} (hx:x<l.length):∃ b,s.1=some ⟨b,0,none⟩∧Ai .i64 σ b (x*2)=some ((l.getD x (0,0)).1:Int)∧Ai .i64 σ b (x*2+1)=some ((l.getD x (0,0)).2:Int):=by
 rcases h with ⟨h,_⟩ | ⟨b,rfl,_,_,hc⟩
 ·omega
 ·obtain ⟨h1,h2⟩:=WI l x hx
  exact ⟨b,rfl,by simp only[Ai,Gy,hc,h1,Option.bind_some,Am],by simp only[Ai,Gy,hc,h2,Option.bind_some,Am]⟩
end Go.Proofs.YtlaplcglpnlieaaGreat
end
section
namespace Go.Proofs.YtlaplcglpnlieaaGreat
open Go Go.AX
noncomputable local instance wx:AF:=Au
local instance uY:Kn:=⟨true⟩
variable {σ:Aa} {m:HM} {t:RM} {i:Cs} {j:RI}
structure qL (i:Cs) (j j':RI) (σ σ':Aa):Prop where
 len:σ.length≤σ'.length
 same:∀ q,q<σ.length→q ∉ i.l→q ∉ j.l→σ'[q]?=σ[q]?
 new:∀ q,q ∈ j'.l→q ∈ j.l∨σ.length≤q
 hb:j'.hb=j.hb
theorem Vm {a:Addr} {σ σ':Aa} {ρ:Type} (h:σ'[a.block]?=σ[a.block]?) (x:Option ρ):Q0 (some a) σ σ' x=x:=by
 have:@AF.k Au σ σ' a.block=true:=by
  unfold Au
  simpa using h
 unfold Q0
 simp only[this,cond_true]
theorem dS {μ:Aa} {A:Option (Value × Aa)} {B:Aa→Option (Value × Aa)} (W:pz μ i j m t) {v:Value} {m':HM} (hA:∃ σ1,A=some (v,σ1)∧Ah σ1 i m'∧BM i μ σ1) (hI:Inv m') (hI2:Inv2 m') (hF:FZ m') (hb:B0 m') (hbr:m'.births≤1000) (hfl:m'.fw.length≤1000)
  (hR:∀ σ1,RG σ1 j m t→Hp (B σ1) σ1 j v m'):∃ σ1 σ2 j' t',A=some (v,σ1)∧B σ1=some (v,σ2)∧pz σ2 i j' m' t'∧qL i j j' μ σ2∧(∀ q,q<μ.length→q ∉ i.l→σ1[q]?=μ[q]?):=by
 obtain ⟨σ1,eA,h1,k1⟩:=hA
 have g1:RG σ1 j m t:=W.g.CT (fun q hq=>k1.same q (W.g.at_.lt q hq) fun hm=>W.off q hm hq) k1.len
 obtain ⟨σ2,j',t',eB,r2,s2,p2,k2⟩:=hR σ1 g1
 have h2:Ah σ2 i m':=h1.CT fun q hq=>k2.same q (h1.lt q hq) (W.off q hq)
 refine ⟨σ1,σ2,j',t',eA,eB,⟨h2,⟨r2,s2,hI,hI2,h2.wl,h2.nb,h2.nt⟩,p2,hF,hb,fun q hq hm=>?_,hbr,hfl⟩,⟨Nat.le_trans k1.len k2.len,fun q h1' h2' h3'=>?_,fun q hq=>?_,k2.hb⟩,fun q h1' h2'=>k1.same q h1' h2'⟩
 ·rcases k2.new q hm with e | e
  ·exact W.off q hq e
  ·have:=h1.lt q hq; omega
 ·rw[k2.same q (Nat.lt_of_lt_of_le h1' k1.len) h3',k1.same q h1' h2']
 ·rcases k2.new q hq with e | e
  ·exact .inl e
  ·exact .inr (Nat.le_trans k1.len e)
theorem Fk {c:Prop} [Decidable c] {r r':Int × HM} {n:Nat} (h:c→r.2.fw.length≤n) (h':¬ c→r'.2.fw.length≤n):(if c then r else r').2.fw.length≤n:=by
 split
 ·exact h ‹_›
 ·exact h' ‹_›
theorem nR (m:HM) (x:V1):(gL m x).2.fw.length≤m.fw.length+1:=by
 have s:m.fw.length≤m.fw.length+1:=by omega
 unfold gL
 refine Fk (fun _=>?_) fun _=>?_
 ·unfold Bp; exact Fk (fun _=>Fk (fun _=>s) fun _=>s) fun _=>s
 refine Fk (fun _=>?_) fun _=>?_
 ·unfold Bp; exact Fk (fun _=>Fk (fun _=>s) fun _=>s) fun _=>s
 refine Fk (fun _=>?_) fun _=>?_
 ·unfold GD; exact Fk (fun _=>Fk (fun _=>s) fun _=>s) fun _=>s
 refine Fk (fun _=>?_) fun _=>?_
 ·unfold Ls; exact Fk (fun _=>s) fun _=>s
 refine Fk (fun _=>?_) fun _=>?_
 ·unfold Br
  split
  ·split
   ·exact s
   ·exact s
  ·exact s
 refine Fk (fun _=>?_) fun _=>?_
 ·unfold OV; exact Fk (fun _=>s) fun _=>s
 refine Fk (fun _=>?_) fun _=>?_
 ·unfold dK; exact Fk (fun _=>Fk (fun _=>by show (QD _ _ m.fw).length≤_; rw[bY]; split <;> omega) fun _=>s) fun _=>s
 refine Fk (fun _=>?_) fun _=>?_
 ·unfold Vw; exact Fk (fun _=>Fk (fun _=>s) fun _=>s) fun _=>s
 refine Fk (fun _=>?_) fun _=>?_
 ·unfold SC; exact Fk (fun _=>s) fun _=>s
 refine Fk (fun _=>?_) fun _=>?_
 ·unfold dT
  refine Fk (fun _=>?_) fun _=>s
  split
  ·exact s
  ·exact Fk (fun _=>s) fun _=>s
 refine Fk (fun _=>?_) fun _=>?_
 ·unfold cU; exact Fk (fun _=>s) fun _=>s
 refine Fk (fun _=>?_) fun _=>?_
 ·unfold cU; exact Fk (fun _=>s) fun _=>s
 exact Fk (fun _=>Nat.zero_le _) fun _=>s
end Go.Proofs.YtlaplcglpnlieaaGreat
end
section
namespace Go.Proofs.YtlaplcglpnlieaaGreat
open Go Go.AX
noncomputable local instance wz:AF:=Au
local instance va:Kn:=⟨true⟩
def tf (σ:Aa) (p:Option Addr):Prop:=
 p=none ∨ ∃ h T rw,p=some ⟨h,0,none⟩∧σ[h]?=some (.cells [.slice none 0 0,.slice none 0 0,.pointer none,.pointer none,.map none,.map none,.int .i64 0] T rw)
theorem tf.app {σ:Aa} {p:Option Addr} (h:tf σ p) (τ:Aa):tf (σ++τ) p:=by
 rcases h with h | ⟨b,T,rw,h1,h2⟩
 ·exact .inl h
 ·refine .inr ⟨b,T,rw,h1, ?_⟩
  rw[List.getElem?_append_left (List.getElem?_eq_some_iff.1 h2).1]; exact h2
end Go.Proofs.YtlaplcglpnlieaaGreat
end
section
set_option maxRecDepth 10000
namespace Go.Proofs.YtlaplcglpnlieaaGreat
open Go Go.AX
noncomputable local instance tN:AF:=Au
local instance tL:Kn:=⟨true⟩
end Go.Proofs.YtlaplcglpnlieaaGreat
end
section
set_option maxRecDepth 10000
namespace Go.Proofs.YtlaplcglpnlieaaGreat
open Go Go.AX
noncomputable local instance w8:AF:=Au
local instance vc:Kn:=⟨true⟩
variable {σ:Aa}
end Go.Proofs.YtlaplcglpnlieaaGreat
end
section
namespace Go.Proofs.YtlaplcglpnlieaaGreat
open Go Go.AX
noncomputable local instance wy:AF:=Au
local instance uZ:Kn:=⟨true⟩
variable {σ:Aa} {m:HM} {t:RM} {i:Cs} {j:RI}
end Go.Proofs.YtlaplcglpnlieaaGreat
end
section
namespace Go.Proofs.YtlaplcglpnlieaaGreat
open Go Go.AX
noncomputable local instance vq:AF:=Au
local instance uf:Kn:=⟨true⟩
variable {σ:Aa} {i:Cs} {m:HM}
structure AS where
 s:Int
 p:Int
 c:Int
 l:Int
 oc:Int
 ol:Int
def AS.row (a:AS) (hb:Nat):List Value:=[.pointer (some ⟨hb,0,none⟩),.int .i64 a.s,.int .i64 a.p,.int .i64 a.c,.int .i64 a.l,.int .i64 a.oc,.int .i64 a.ol]
def Cj (σ:Aa) (ab:Nat) (i:Cs) (a:AS):Prop:=σ[ab]?=some (.cells (a.row i.hb) AU true)
structure AS.ok (a:AS):Prop where
 s0:0≤a.s∧a.s<8
 p0:0≤a.p∧a.p<5
 c0:0≤a.c∧a.c≤10000
 l0:0≤a.l∧a.l≤10000
 oc0:0≤a.oc∧a.oc≤10000
 ol0:0≤a.ol∧a.ol≤10000
abbrev D8 (ab:Nat):Option Addr:=some ⟨ab,0,none⟩
variable {ab:Nat} {a:AS}
theorem Cj.XO (h:Cj σ ab i a):Js σ ab 0=some (DW i):=by unfold Cj AS.row at h; simp[Js,Gy,h,XP]
theorem Cj.l1 (h:Cj σ ab i a):Ai .i64 σ ab 1=some a.s:=by unfold Cj AS.row at h; simp[Ai,Gy,h,BA]
theorem Cj.l2 (h:Cj σ ab i a):Ai .i64 σ ab 2=some a.p:=by unfold Cj AS.row at h; simp[Ai,Gy,h,BA]
theorem Cj.l3 (h:Cj σ ab i a):Ai .i64 σ ab 3=some a.c:=by unfold Cj AS.row at h; simp[Ai,Gy,h,BA]
theorem Cj.l4 (h:Cj σ ab i a):Ai .i64 σ ab 4=some a.l:=by unfold Cj AS.row at h; simp[Ai,Gy,h,BA]
theorem Cj.l5 (h:Cj σ ab i a):Ai .i64 σ ab 5=some a.oc:=by unfold Cj AS.row at h; simp[Ai,Gy,h,BA]
theorem Cj.l6 (h:Cj σ ab i a):Ai .i64 σ ab 6=some a.ol:=by unfold Cj AS.row at h; simp[Ai,Gy,h,BA]
theorem Cj.lt (h:Cj σ ab i a):ab<σ.length:=Ae h
theorem Cj.CT {σ':Aa} (h:Cj σ ab i a) (hs:σ'[ab]?=σ[ab]?):Cj σ' ab i a:=by unfold Cj; rw[hs]; exact h
theorem Cj.app (h:Cj σ ab i a) (τ:Aa):Cj (σ++τ) ab i a:=h.CT (List.getElem?_append_left h.lt)
theorem Cj.W7 {σ':Aa} (h:Cj σ ab i a) (k:BM i σ σ') (hab:ab ∉ i.l):Cj σ' ab i a:=h.CT (k.same ab h.lt hab)
theorem Cj.put (h:Cj σ ab i a) (a':AS):Cj (σ.set ab (.cells (a'.row i.hb) AU true)) ab i a':=by
 unfold Cj; rw[List.getElem?_set_self h.lt]
theorem Cj.st (h:Cj σ ab i a) (o:Nat) (vs:List Value) (a':AS) (hv:AE (a.row i.hb) o vs=a'.row i.hb) (hl:o+vs.length≤7):Ki σ ab o vs=some (σ.set ab (.cells (a'.row i.hb) AU true)):=by
 have h':=h
 unfold Cj at h'
 simp only[Ki,h']
 rw[if_pos (by simpa [AS.row] using hl),hv]
theorem Cj.G0 (h:Cj σ ab i a) (o:Nat) (v:Value) (a':AS) (hv:(a.row i.hb).set o v=a'.row i.hb) (hl:o<7):AX.G0 σ ab o v=some (σ.set ab (.cells (a'.row i.hb) AU true)):=by
 have h':=h
 unfold Cj at h'
 simp only[AX.G0,h']
 rw[if_pos (by simpa [AS.row] using hl),hv]
structure Co (i:Cs) (ab:Nat) (σ σ':Aa):Prop where
 len:σ.length≤σ'.length
 same:∀ j,j<σ.length→j ∉ i.l→j≠ab→σ'[j]?=σ[j]?
theorem Co.of {σ':Aa} (h:BM i σ σ'):Co i ab σ σ':=⟨h.len,fun j h1 h2 _=>h.same j h1 h2⟩
theorem Co.trans {x y z:Aa} (h:Co i ab x y) (g:Co i ab y z):Co i ab x z:=
 ⟨Nat.le_trans h.len g.len,fun j h1 h2 h3=>(g.same j (Nat.lt_of_lt_of_le h1 h.len) h2 h3).trans (h.same j h1 h2 h3)⟩
theorem Co.app (σ τ:Aa):Co i ab σ (σ++τ):=.of (BM.app i σ τ)
theorem Co.set (σ:Aa) (o:Bi):Co i ab σ (σ.set ab o):=⟨by simp,fun j _ _ h=>List.getElem?_set_ne fun e=>h e.symm⟩
theorem Co.refl (σ:Aa):Co i ab σ σ:=.of (BM.refl i σ)
theorem Ah.RH (h:Ah σ i m) (hab:ab ∉ i.l) (o:Bi):Ah (σ.set ab o) i m:=h.CT fun j hj=>List.getElem?_set_ne fun e=>hab (by rw[e]; exact hj)
theorem ti (x:Addr):Vi P Hk (.pointer (some x)) (.pointer none)=some false:=by kernel_rfl
theorem sv (x:Addr):Vi P Jt (.pointer (some x)) (.pointer none)=some false:=by kernel_rfl
theorem ag (k:Nat) (hA:Cj σ ab i a):B6 (k+1) (D8 ab) σ=some (.bool true,σ):=by
 rw[Lb,Jg]
 simp only[ti,Option.bind_some,Bool.not_false,cond_true,Nat.zero_add,Nat.add_zero,hA.XO,sv]
def Sp (m:HM):Nat→Nat→Option Nat
 | 0,_=>none
 | n+1,x=>if (m.bls.getD x (0,0)).1=0∧(m.bls.getD x (0,0)).2=0 then some x else Sp m n (x+1)
def Hs (m:HM):Option Nat:=Sp m (m.bls.length-1) 1
def CN (m:HM) (b:Nat) (s:Int):HM:=(Bp m (b:Int) 1 1 s 0 0).2
theorem dg (m:HM) {x:Nat} {s:Int} (h1:1≤x) (hx:x<m.bls.length) (hs:0≤s∧s<8):
  Bp m (x:Int) 1 1 s 0 0=if (m.bls.getD x (0,0)).1=0∧(m.bls.getD x (0,0)).2=0 then (0,CN m x s) else (8,m):=by
 have e:(1≤(x:Int)∧(x:Int)<(m.bls.length:Int)∧(1:Int)≤1∧(1:Int)≤(m.bls.length:Int)-(x:Int)∧Ug s=true):=⟨by omega,by omega,by omega,by omega,by unfold Ug; simpa using hs⟩
 have u:Im m.bls x 1 0=if (m.bls.getD x (0,0)).1=0∧(m.bls.getD x (0,0)).2=0 then none else some 0:=by
  simp only[Im,Nat.add_zero]
 unfold CN Bp
 rw[if_pos e,Int.toNat_natCast,show (1:Int).toNat=1 from rfl,u]
 by_cases hf:(m.bls.getD x (0,0)).1=0∧(m.bls.getD x (0,0)).2=0
 ·simp only[hf,and_self,if_true]
 ·simp only[hf,if_false]; simp
theorem Hg {n x b:Nat} (h:Sp m n x=some b):x≤b∧b<x+n∧(m.bls.getD b (0,0)).1=0∧(m.bls.getD b (0,0)).2=0:=by
 induction n generalizing x with
 | zero=>cases h
 | succ n ih=>
   unfold Sp at h
   split at h
   ·cases h; omega
   ·have:=ih h; omega
def H8 (x y:Int):Bi:=.cells [.int .i64 x,.int .i64 y] Eu true
theorem YR (k:Nat) (hk:5000≤k) (hab:ab ∉ i.l) (hs:0≤a.s∧a.s<8) {h1:Nat} (hh1:h1 ∉ i.l) (hha:h1≠ab):∀ (n x f:Nat) (σ:Aa),Ah σ i m→Cj σ ab i a→σ[h1]?=some (H8 0 0)→1≤x→x+n=m.bls.length→n<f →
  ∃ σ',BS (k+8) f (D8 ab) h1 (x:Int) σ=some (match Sp m n x with | some b=>(.ret,[.bool true],σ') | none=>(.exit 0,[],σ'))∧Ah σ' i (match Sp m n x with | some b=>CN m b a.s | none=>m) ∧
   σ'[h1]?=some (match Sp m n x with | some b=>H8 (64*(b:Int)) (64*(b:Int)+64) | none=>H8 0 0)∧σ.length≤σ'.length ∧ ∀ q,q<σ.length→q ∉ i.l→q≠h1→σ'[q]?=σ[q]?
 | n,x,0,σ,h,hA,hc,hx,hn,hf=>by omega
 | 0,x,f+1,σ,h,hA,hc,hx,hn,hf=>by
   rw[Gn,Fp]
   refine ⟨σ, ?_,h,hc,Nat.le_refl _,fun _ _ _ _=>rfl⟩
   simp only[Option.bind_some,Nat.add_zero,hA.XO,GR (k+6) h,Am,decide_eq_false (show ¬ (x:Int)<((m.bls.length:Nat):Int) by omega),cond_false,Sp]
 | n+1,x,f+1,σ,h,hA,hc,hx,hn,hf=>by
   have hnt:=h.nt
   obtain ⟨σ1,e1,g1,k1⟩:=ZP (k+1) (by omega) h (x:Int) a.s (by unfold AW; omega)
   have hA1:=hA.W7 k1 hab
   rw[dg m hx (by omega) hs] at e1 g1
   have hc1:=(k1.same h1 (Ae hc) hh1).trans hc
   have w1:Ac ((x:Int)+1)=((x+1:Nat):Int):=Ad (by unfold AW; omega)
   have w2:Ac ((x:Int)*64)=64*(x:Int):=by rw[Ad (by unfold AW; omega)]; omega
   have w3:Ac (((x+1:Nat):Int)*64)=64*(x:Int)+64:=by rw[Ad (by unfold AW; omega)]; omega
   rw[Gn,Fp]
   simp only[Option.bind_some,Nat.add_zero,hA.XO,GR (k+6) h,Am,decide_eq_true (show (x:Int)<((m.bls.length:Nat):Int) by omega),cond_true,Nat.zero_add,hA.l1,e1,Sp]
   by_cases hfr:(m.bls.getD x (0,0)).1=0∧(m.bls.getD x (0,0)).2=0
   ·simp only[hfr,and_self,if_true] at g1 ⊢
    refine ⟨σ1.set h1 (H8 (64*(x:Int)) (64*(x:Int)+64)), ?_,g1.CT fun j hj=>List.getElem?_set_ne fun e=>hh1 (by rw[e]; exact hj),by rw[List.getElem?_set_self (Ae hc1)],by simpa using k1.len,fun q hq h2 h3=>by rw[List.getElem?_set_ne (fun e=>h3 e.symm)]; exact k1.same q hq h2⟩
    simp only[beq_self_eq_true,cond_true,w1,w2,w3,Ki,hc1,H8]
    rfl
   ·simp only[hfr,if_false] at g1 ⊢
    obtain ⟨σ2,e2,g2,c2,l2,s2⟩:=YR k hk hab hs hh1 hha n (x+1) f σ1 g1 hA1 hc1 (by omega) (by omega) (by omega)
    refine ⟨σ2, ?_,g2,c2,Nat.le_trans k1.len l2,fun q hq h2 h3=>by rw[s2 q (Nat.lt_of_lt_of_le hq k1.len) h2 h3]; exact k1.same q hq h2⟩
    simp only[show ((8:Int) == 0)=false from rfl,cond_false,w1,e2]
def Wn (m:HM):Int × Int × Bool:=match Hs m with | some b=>(64*(b:Int),64*(b:Int)+64,true) | none=>(0,0,false)
def Sd (m:HM) (s:Int):HM:=match Hs m with | some b=>CN m b s | none=>m
theorem ao (k:Nat) (hk:5000≤k) (h:Ah σ i m) (hA:Cj σ ab i a) (hab:ab ∉ i.l) (hs:0≤a.s∧a.s<8):
  ∃ σ',Bt (k+9) (D8 ab) σ=some (.tuple #[.agg #[.int .i64 (Wn m).1,.int .i64 (Wn m).2.1],.bool (Wn m).2.2],σ')∧Ah σ' i (Sd m a.s)∧BM i σ σ':=by
 have hnt:=h.nt; have hnb:=h.nb
 have hlt:=hA.lt
 obtain ⟨σ1,e1,g1,c1,l1,s1⟩:=YR k hk hab hs (h1:=σ.length) (fun hm=>Nat.lt_irrefl _ (h.lt _ hm)) (by omega) (m.bls.length-1) 1 (k+8) (σ++[H8 0 0]) (h.app _) (hA.app _) (by simp) (Nat.le_refl _) (by omega) (by omega)
 have kp:BM i σ σ1:=⟨by simp at l1; omega,fun q hq h2=>by rw[s1 q (by simp; omega) h2 (by omega),List.getElem?_append_left hq]⟩
 rw[Ky,I7]
 simp only[Ap,show (Bi.cells [.int .i64 0,.int .i64 0] Eu true)=H8 0 0 from rfl]
 rw[show ((1:Nat):Int)=1 from rfl] at e1
 unfold Wn Sd Hs
 simp only[e1]
 cases hfr:Sp m (m.bls.length-1) 1 with
 | none=>
   simp only[hfr] at g1 c1
   refine ⟨σ1.set σ.length (H8 0 0), ?_,g1.CT fun j hj=>List.getElem?_set_ne fun e=>Nat.lt_irrefl σ.length (by have:=h.lt _ hj; omega),kp.trans ⟨by simp,fun q hq h2=>?_⟩⟩
   ·simp only[Option.bind_some,if_true,Ki,c1,H8,VV]
    simp[AE,Q9,List.getElem?_set_self (Ae c1)]
   ·rcases Nat.lt_trichotomy q σ.length with e | e | e
    ·rw[List.getElem?_set_ne (by omega)]
    ·rw[e,List.getElem?_set_self (Ae c1),c1]
    ·rw[List.getElem?_set_ne (by omega)]
 | some b=>
   simp only[hfr] at g1 c1
   refine ⟨σ1, ?_,g1,kp⟩
   simp only[Option.bind_some,show (Bm.ret=Bm.exit 0)=False from by simp,if_false,if_true,RN,VV,c1,H8]
   rfl
def LM (m:HM) (b:Int):Int:=if 0≤b∧b<(m.bls.length:Int) then (m.bls.getD b.toNat (0,0)).2 else -1
theorem pI (k:Nat) (h:Ah σ i m) (b:Int):B7 (k+3) (DW i) b σ=some (.int .i64 (LM m b),σ):=by
 unfold LM
 by_cases hb:0≤b∧b<(m.bls.length:Int)
 ·rw[if_pos hb]
  obtain ⟨n,rfl⟩:∃ n:Nat,b=(n:Int):=⟨b.toNat,by omega⟩
  rw[Int.toNat_natCast]
  exact aa k h (by omega)
 ·rw[if_neg hb,K7,JV]
  by_cases h0:b<0
  ·simp only[decide_eq_true h0,cond_true,Option.bind_some]
  ·simp only[decide_eq_false h0,cond_false,GR k h,Option.bind_some,Am,decide_eq_true (show b≥((m.bls.length:Nat):Int) by omega),cond_true]
end Go.Proofs.YtlaplcglpnlieaaGreat
end
section
namespace Go.Proofs.YtlaplcglpnlieaaGreat
open Go Go.AX
noncomputable local instance vr:AF:=Au
local instance ug:Kn:=⟨true⟩
variable {σ:Aa} {i:Cs} {m:HM} {ab:Nat} {a:AS}
def AS.cu (a:AS) (v:Bool):Int:=bif v then a.oc else a.c
def AS.li (a:AS) (v:Bool):Int:=bif v then a.ol else a.l
def AS.put (a:AS) (v:Bool) (x y:Int):AS:=bif v then { a with oc:=x,ol:=y } else { a with c:=x,l:=y }
def np (v:Bool):Nat:=bif v then 5 else 3
theorem Cj.lc (h:Cj σ ab i a) (v:Bool):Ai .i64 σ ab (np v)=some (a.cu v):=match v with | false=>h.l3 | true=>h.l5
theorem Cj.ll (h:Cj σ ab i a) (v:Bool):Ai .i64 σ ab (np v+1)=some (a.li v):=match v with | false=>h.l4 | true=>h.l6
theorem Cj.td (h:Cj σ ab i a) (v:Bool) (x y:Int):Ki σ ab (np v) [.int .i64 x,.int .i64 y]=some (σ.set ab (.cells ((a.put v x y).row i.hb) AU true)):=by
 cases v
 ·exact h.st 3 _ (a.put false x y) rfl (by simp)
 ·exact h.st 5 _ (a.put true x y) rfl (by simp)
theorem Cj.tH (h:Cj σ ab i a) (v:Bool) (x:Int):AX.G0 σ ab (np v) (.int .i64 x)=some (σ.set ab (.cells ((a.put v x (a.li v)).row i.hb) AU true)):=by
 cases v
 ·exact h.G0 3 _ (a.put false x a.l) rfl (by decide)
 ·exact h.G0 5 _ (a.put true x a.ol) rfl (by decide)
theorem AS.ok.cu (h:a.ok) (v:Bool):0≤a.cu v∧a.cu v≤10000∧0≤a.li v∧a.li v≤10000:=by
 have h1:=h.c0; have h2:=h.l0; have h3:=h.oc0; have h4:=h.ol0
 cases v <;> simp only[AS.cu,AS.li,cond_true,cond_false] <;> omega
theorem AS.ok.put (h:a.ok) (v:Bool) {x y:Int} (hx:0≤x∧x≤10000) (hy:0≤y∧y≤10000):(a.put v x y).ok:=by
 cases v
 ·exact ⟨h.s0,h.p0,hx,hy,h.oc0,h.ol0⟩
 ·exact ⟨h.s0,h.p0,h.c0,h.l0,hx,hy⟩
theorem ir (a:AS) (v:Bool) (x y:Int):(a.put v x y).s=a.s:=by cases v <;> rfl
theorem iq (a:AS) (v:Bool) (x y:Int):(a.put v x y).p=a.p:=by cases v <;> rfl
theorem ku (a:AS) (v:Bool) (x y:Int):(a.put v x y).cu v=x∧(a.put v x y).li v=y:=by cases v <;> exact ⟨rfl,rfl⟩
theorem qk (a:AS) (v:Bool) (x y z w:Int):(a.put v x y).put v z w=a.put v z w:=by cases v <;> rfl
theorem q9 (μ:Aa) (T:TypeId) (p q x y:Value):Ki (μ++[.cells [p,q] T true]) μ.length 0 [x,y]=some (μ++[.cells [x,y] T true]):=by
 simp[Ki,AE]
theorem lu (μ:Aa) (T:TypeId) (x y:Int):Ai .i64 (μ++[.cells [.int .i64 x,.int .i64 y] T true]) μ.length 0=some x∧Ai .i64 (μ++[.cells [.int .i64 x,.int .i64 y] T true]) μ.length 1=some y:=by
 simp[Ai,Gy,BA]
theorem oo (k:Nat) (hA:Cj σ ab i a) (ho:a.ok) (v:Bool) (w:Int):DI (k+1) (some ⟨ab,np v,none⟩) w σ=some (.bool (decide (a.li v-a.cu v≥w)),σ):=by
 have:=ho.cu v
 rw[Pu,NU]
 simp only[Option.bind_some,Nat.add_zero,hA.lc,hA.ll,Ad (show AW (a.li v-a.cu v) by unfold AW; omega)]
theorem gg (k:Nat) (hA:Cj σ ab i a) (ho:a.ok) (v:Bool) {w:Int} (hw:0≤w∧w≤1000):De (k+1) (some ⟨ab,np v,none⟩) w σ=some (.int .i64 (a.cu v),σ.set ab (.cells ((a.put v (a.cu v+w) (a.li v)).row i.hb) AU true)):=by
 have:=ho.cu v
 rw[OH,MV]
 have e1:Ac (a.cu v+w)=a.cu v+w:=Ad (by unfold AW; omega)
 have e2:Ac (a.cu v+w-w)=a.cu v:=by rw[Ad (by unfold AW; omega)]; omega
 simp only[Option.bind_some,Nat.add_zero,hA.lc,e1,hA.tH,(hA.put _).lc,ku,e2]
abbrev PR:=(Int × Bool) × HM × AS
def cD (mm:Option (Value × Aa)) (σ:Aa) (i:Cs) (ab:Nat) (r:PR):Prop:=
 ∃ σ',mm=some (.tuple #[.int .i64 r.1.1,.bool r.1.2],σ')∧Ah σ' i r.2.1∧Cj σ' ab i r.2.2∧Co i ab σ σ'
def CA (m:HM) (a:AS) (v:Bool) (w:Int):PR:=
 if a.li v-a.cu v≥w then ((a.cu v,true),m,a.put v (a.cu v+w) (a.li v))
 else match Hs m with
  | some b=>((64*(b:Int),true),CN m b a.s,a.put v (64*(b:Int)+w) (64*(b:Int)+64))
  | none=>((0,false),m,a)
theorem df (k:Nat) (hk:5000≤k) (h:Ah σ i m) (hA:Cj σ ab i a) (hab:ab ∉ i.l) (ho:a.ok) (v:Bool) {w:Int} (hw:0≤w∧w≤1000):
  cD (B3 (k+10) (D8 ab) (some ⟨ab,np v,none⟩) w σ) σ i ab (CA m a v w):=by
 have hcu:=ho.cu v
 have hnt:=h.nt
 rw[JX,Ib]
 simp only[oo (k+8) hA ho v w,Option.bind_some,As]
 unfold CA
 by_cases q:a.li v-a.cu v≥w
 ·rw[if_pos q]
  simp only[decide_eq_true q,Bool.not_true,cond_false,Option.bind_some,if_true,gg (k+8) hA ho v hw,Am]
  exact ⟨_,rfl,h.RH hab _,hA.put _,Co.set _ _⟩
 ·rw[if_neg q]
  obtain ⟨σ1,e1,g1,k1⟩:=ao k hk h hA hab ho.s0
  have hA1:=hA.W7 k1 hab
  simp only[decide_eq_false q,Bool.not_false,cond_true,e1,Option.bind_some,Zq,List.length_cons,List.length_nil,List.head?_cons,List.tail_cons,ZD,As,Ap,q9,Nat.zero_add,Nat.reduceAdd,if_true]
  unfold Wn Sd at *
  cases hfr:Hs m with
  | none=>
    simp only[hfr] at g1 ⊢
    simp only[Bool.not_false,cond_true,Option.bind_some,show (Bm.ret=Bm.normal)=False from by simp,if_false,if_true,XL]
    exact ⟨_,rfl,g1.app _,hA1.app _,(Co.of k1).trans (Co.app _ _)⟩
  | some b=>
    simp only[hfr] at g1 ⊢
    have hb:=Hg hfr
    obtain ⟨l0,l1⟩:=lu σ1 Eu (64*(b:Int)) (64*(b:Int)+64)
    have hA2:=hA1.app [.cells [.int .i64 (64*(b:Int)),.int .i64 (64*(b:Int)+64)] Eu true]
    have hA3:=hA2.put (a.put v (64*(b:Int)) (64*(b:Int)+64))
    have ho3:(a.put v (64*(b:Int)) (64*(b:Int)+64)).ok:=ho.put v (by omega) (by omega)
    have t3:=gg (k+8) hA3 ho3 v hw
    rw[(ku _ _ _ _).1,(ku _ _ _ _).2,qk] at t3
    simp only[Bool.not_true,cond_false,l0,l1,Option.bind_some,hA2.td,if_true,t3,Am]
    exact ⟨_,rfl,((g1.app _).RH hab _).RH hab _,hA3.put _,(((Co.of k1).trans (Co.app _ _)).trans (Co.set _ _)).trans (Co.set _ _)⟩
theorem cJ (k:Nat) (hk:5000≤k) (h:Ah σ i m) (hA:Cj σ ab i a) (hab:ab ∉ i.l) (ho:a.ok) {w:Int} (hw:0≤w∧w≤1000):
  cD (Dw (k+11) (D8 ab) w σ) σ i ab (CA m a false w):=by
 obtain ⟨σ1,e1,g1,a1,k1⟩:=df k hk (h.app [.cells [] RK true]) (hA.app _) hab ho false hw
 rw[NF,LW]
 refine ⟨σ1, ?_,g1,a1,(Co.app _ _).trans k1⟩
 rw[show np false=3 from rfl] at e1
 simp only[Ap,Option.bind_some,Nat.zero_add,e1,Tp]
theorem ay {b c x y x' y':Int} (h:(Bp m b c x y x' y').1≠0):(Bp m b c x y x' y').2=m:=by
 unfold Bp at *
 split at h
 ·split at h
  ·exact absurd rfl h
  ·rename_i h1 h2; rw[if_pos h1,if_neg h2]
 ·rename_i h1; rw[if_neg h1]
def cC (m:HM) (c:Nat) (s:Int):Nat→Nat→Option Nat
 | 0,_=>none
 | n+1,x=>if x+c≤m.bls.length then (if (Bp m (x:Int) (c:Int) 2 s 3 s).1=0 then some x else cC m c s n (x+1)) else none
theorem YZ (k:Nat) (hk:5000≤k) (hab:ab ∉ i.l) {c:Nat} (hc:c≤100):∀ (n x f:Nat) (σ:Aa),Ah σ i m→Cj σ ab i a→x≤100→m.bls.length<x+n→n<f →
  ∃ σ',BU (k+8) f (D8 ab) (c:Int) (x:Int) σ=some (match cC m c a.s n x with | some b=>(.ret,[.int .i64 (64*(b:Int)),.bool true],σ') | none=>(.exit 0,[],σ'))∧Ah σ' i (match cC m c a.s n x with | some b=>(Bp m (b:Int) (c:Int) 2 a.s 3 a.s).2 | none=>m)∧BM i σ σ'
 | n,x,0,σ,h,hA,hx,hn,hf=>by omega
 | n,x,f+1,σ,h,hA,hx,hn,hf=>by
   have hnt:=h.nt
   have w0:Ac ((x:Int)+(c:Int))=((x+c:Nat):Int):=Ad (by unfold AW; omega)
   rw[IZ,GZ]
   simp only[Option.bind_some,Nat.add_zero,Nat.zero_add,hA.XO,GR (k+6) h,Am,w0]
   by_cases q:x+c≤m.bls.length
   ·obtain ⟨n,rfl⟩:∃ n',n=n'+1:=⟨n-1,by omega⟩
    obtain ⟨σ1,e1,g1,k1⟩:=Zw (k+1) (by omega) h (x:Int) (c:Int) a.s (by unfold AW; omega) (by unfold AW; omega)
    simp only[decide_eq_true (show ((x+c:Nat):Int)≤((m.bls.length:Nat):Int) by omega),cond_true,hA.l1,Option.bind_some,e1,Am,cC,if_pos q]
    by_cases q2:(Bp m (x:Int) (c:Int) 2 a.s 3 a.s).1=0
    ·refine ⟨σ1, ?_, ?_,k1⟩
     ·simp only[q2,beq_self_eq_true,cond_true,if_true]
      rw[show Ac ((x:Int)*64)=64*(x:Int) from by rw[Ad (by unfold AW; omega)]; omega]
     ·simp only[q2,if_true]; exact g1
    ·rw[ay q2] at g1
     obtain ⟨σ2,e2,g2,k2⟩:=YZ k hk hab hc n (x+1) f σ1 g1 (hA.W7 k1 hab) (by omega) (by omega) (by omega)
     refine ⟨σ2, ?_, ?_,k1.trans k2⟩
     ·simp only[show ((Bp m (x:Int) (c:Int) 2 a.s 3 a.s).1 == 0)=false from by simpa using q2,cond_false,if_neg q2]
      rw[show Ac ((x:Int)+1)=((x+1:Nat):Int) from Ad (by unfold AW; omega)]
      exact e2
     ·simp only[if_neg q2]; exact g2
   ·have z:cC m c a.s n x=none:=by
     cases n with
     | zero=>rfl
     | succ n=>simp only[cC,if_neg q]
    refine ⟨σ, ?_, ?_,BM.refl _ _⟩
    ·simp only[decide_eq_false (show ¬ ((x+c:Nat):Int)≤((m.bls.length:Nat):Int) by omega),cond_false,z]
    ·simp only[z]; exact h
def JN (m:HM) (a:AS) (w:Int):PR:=
 match cC m ((w.toNat+63)/64) a.s m.bls.length 1 with
 | some b=>((64*(b:Int),true),(Bp m (b:Int) (((w.toNat+63)/64:Nat):Int) 2 a.s 3 a.s).2,a)
 | none=>((0,false),m,a)
theorem o8 (k:Nat) (hk:5000≤k) (h:Ah σ i m) (hA:Cj σ ab i a) (hab:ab ∉ i.l) {w:Int} (hw:0≤w∧w≤1000):
  cD (BW (k+9) (D8 ab) w σ) σ i ab (JN m a w):=by
 have hnt:=h.nt
 obtain ⟨w,rfl⟩:∃ n:Nat,w=(n:Int):=⟨w.toNat,by omega⟩
 have e1:Ac (Ac (Ac ((w:Int)+64)-1))=Ac (Ac ((w:Int)+64)-1):=by
  rw[Ad (show AW ((w:Int)+64) by unfold AW; omega),Ad (show AW ((w:Int)+64-1) by unfold AW; omega),Ad (by unfold AW; omega)]
 have e2:Ac ((Ac (Ac ((w:Int)+64)-1)).tdiv 64)=(((w+63)/64:Nat):Int):=by
  rw[Ad (show AW ((w:Int)+64) by unfold AW; omega),Ad (show AW ((w:Int)+64-1) by unfold AW; omega),show (w:Int)+64-1=((w+63:Nat):Int) from by omega,show (((w+63:Nat):Int).tdiv 64)=(((w+63)/64:Nat):Int) from rfl]
  exact Ad (by unfold AW; omega)
 obtain ⟨σ1,e3,g1,k1⟩:=YZ k hk hab (c:=(w+63)/64) (a:=a) (by omega) m.bls.length 1 (k+8) σ h hA (by omega) (by omega) (by omega)
 rw[show ((1:Nat):Int)=1 from rfl] at e3
 rw[Kz,I8]
 rw[if_neg (by decide)]
 unfold JN cD
 simp only[e2,e3,Int.toNat_natCast,Option.bind_some]
 cases hl:cC m ((w+63)/64) a.s m.bls.length 1 with
 | none=>
   simp only[hl] at g1 ⊢
   exact ⟨σ1,by simp only[if_true],g1,hA.W7 k1 hab,Co.of k1⟩
 | some b=>
   simp only[hl] at g1 ⊢
   exact ⟨σ1,by simp only[show (Bm.ret=Bm.exit 0)=False from by simp,if_false,if_true,XL],g1,hA.W7 k1 hab,Co.of k1⟩
end Go.Proofs.YtlaplcglpnlieaaGreat
end
section
namespace Go.Proofs.YtlaplcglpnlieaaGreat
open Go Go.AX
noncomputable local instance vt:AF:=Au
local instance uh:Kn:=⟨true⟩
variable {σ:Aa} {i:Cs} {m:HM} {ab:Nat} {a:AS}
def tn:Nat→TypeId
 | 0=>IX
 | 1=>LN
 | 2=>JD
 | 3=>RK
 | _=>F5
def WE (n:Nat):Value:=.iface (tn n) (.agg #[])
def kq:Bi:=.cells [WE 0,WE 1,WE 2,WE 3,WE 4] TN true
theorem Zf (k:Nat) (σ:Aa):DJ (k+1) σ=some (.slice (some ⟨σ.length,0,none⟩) 5 5,σ++[kq]):=by
 rw[Pv,NV]; rfl
def tc (p w:Int):Value:=if w>32 then .func (.func LH) #[] #[] else .func (.method "dustcart/alloc.place") #[WE p.toNat] #[]
def Bj (m:HM) (a:AS) (r d c:Int) (pr:PR):(Int × Int) × HM × AS:=
 if valid r d c=true then
  (if pr.1.2=true then
   (if LM pr.2.1 (pr.1.1.tdiv 64)=a.s then
    (if (Br pr.2.1 pr.1.1 r d c).2.1=0 then ((pr.1.1,0),(Br pr.2.1 pr.1.1 r d c).2.2,pr.2.2) else ((0,6),(Br pr.2.1 pr.1.1 r d c).2.2,a))
   else ((0,6),pr.2.1,a))
  else ((0,6),pr.2.1,pr.2.2))
 else ((0,2),m,a)
def qK (mm:Option (Value × Aa)) (σ:Aa) (i:Cs) (ab:Nat) (r:(Int × Int) × HM × AS):Prop:=
 ∃ σ',mm=some (.tuple #[.int .i64 r.1.1,.int .i64 r.1.2],σ')∧Ah σ' i r.2.1∧Cj σ' ab i r.2.2∧Co i ab σ σ'
theorem tr (μ:Aa) (T:TypeId) (p q x y z u w p' q' x' y' z' u' w':Value):Ki (μ++[.cells [p,q,x,y,z,u,w] T true]) μ.length 0 [p',q',x',y',z',u',w']=some (μ++[.cells [p',q',x',y',z',u',w'] T true]):=by
 simp[Ki,AE]
set_option maxHeartbeats 1000000 in
theorem nq (k:Nat) (hk:5000≤k) (h:Ah σ i m) (hA:Cj σ ab i a) (hab:ab ∉ i.l) (ho:a.ok) {r d c:Int} (pr:PR)
  (hp:valid r d c=true → ∀ σ0,Ah σ0 i m→Cj σ0 ab i a→cD (Cl (k+12) (tc a.p (words r d c)) [.pointer (D8 ab),.int .i64 (words r d c)] σ0) σ0 i ab pr)
  (hI:valid r d c=true→Inv pr.2.1) (hb:valid r d c=true→pr.2.1.births<1000000) (hadr:valid r d c=true→0≤pr.1.1∧pr.1.1≤10000) (hps:valid r d c=true→pr.2.2.s=a.s):
  qK (AN (k+13) (D8 ab) r d c σ) σ i ab (Bj m a r d c pr):=by
 have hlt:=hA.lt
 rw[Kx,I6]
 simp only[Ap]
 obtain ⟨μ0,hμ0⟩:∃ μ0,σ++[Bi.cells [Value.int .i64 r,.int .i64 d,.int .i64 c] Al true]=μ0:=⟨_,rfl⟩
 rw[hμ0]
 have h0:Ah μ0 i m:=hμ0 ▸ h.app _
 have A0:Cj μ0 ab i a:=hμ0 ▸ hA.app _
 have K0:Co i ab σ μ0:=hμ0 ▸ Co.app σ _
 have S0:μ0[σ.length]?=some (Bi.cells [Value.int .i64 r,.int .i64 d,.int .i64 c] Al true):=by rw[← hμ0]; simp
 have bx:∀ {μ:Aa},μ[σ.length]?=some (Bi.cells [Value.int .i64 r,.int .i64 d,.int .i64 c] Al true)→Ai .i64 μ σ.length 0=some r∧Ai .i64 μ σ.length 1=some d∧Ai .i64 μ σ.length 2=some c:=by
  intro μ hm; simp[Ai,Gy,hm,BA]
 obtain ⟨b0,b1,b2⟩:=bx S0
 obtain ⟨τ1,e1⟩:=O4 (k+11) r d c μ0
 simp only[ag (k+11) A0,Option.bind_some,As,Bool.not_true,cond_false,Nat.zero_add,Nat.reduceAdd,b0,b1,b2,e1]
 unfold Bj
 cases hv:valid r d c with
 | false=>
   simp only[Bool.not_false,cond_true,Bool.false_eq_true,if_false]
   exact ⟨μ0++τ1,rfl,h0.app _,A0.app _,K0.trans (Co.app _ _)⟩
 | true=>
   have ha1:=hadr hv
   obtain ⟨τ2,e2⟩:=O5 (k+10) r d c (μ0++τ1)
   have S1:(μ0++τ1)[σ.length]?=some (Bi.cells [Value.int .i64 r,.int .i64 d,.int .i64 c] Al true):=by rw[List.getElem?_append_left (Ae S0)]; exact S0
   obtain ⟨c0,c1,c2⟩:=bx S1
   obtain ⟨μ2,hμ2⟩:∃ μ2,μ0++τ1++τ2=μ2:=⟨_,rfl⟩
   rw[hμ2] at e2
   have h2:Ah μ2 i m:=hμ2 ▸ (h0.app _).app _
   have A2:Cj μ2 ab i a:=hμ2 ▸ (A0.app _).app _
   have K2:Co i ab σ μ2:=hμ2 ▸ (K0.trans (Co.app _ _)).trans (Co.app _ _)
   have S2:μ2[σ.length]?=some (Bi.cells [Value.int .i64 r,.int .i64 d,.int .i64 c] Al true):=by rw[← hμ2,List.getElem?_append_left (Ae S1)]; exact S1
   obtain ⟨μ3,hμ3⟩:∃ μ3,μ2++[kq]=μ3:=⟨_,rfl⟩
   have e3:DJ (k+12) μ2=_:=Zf (k+11) μ2
   rw[hμ3] at e3
   have h3:Ah μ3 i m:=hμ3 ▸ h2.app _
   have A3:Cj μ3 ab i a:=hμ3 ▸ A2.app _
   have K3:Co i ab σ μ3:=hμ3 ▸ K2.trans (Co.app _ _)
   have S3:μ3[σ.length]?=some (Bi.cells [Value.int .i64 r,.int .i64 d,.int .i64 c] Al true):=by rw[← hμ3,List.getElem?_append_left (Ae S2)]; exact S2
   have p0:=ho.p0
   have lp:Gy μ3 μ2.length a.p.toNat=some (WE a.p.toNat):=by
    rw[← hμ3]; unfold kq; rw[ln]
    obtain ⟨n,hn⟩:∃ n:Nat,a.p=(n:Int):=⟨a.p.toNat,by omega⟩
    rw[hn,Int.toNat_natCast]
    match n,(show n<5 by omega) with
    | 0,_=>rfl
    | 1,_=>rfl
    | 2,_=>rfl
    | 3,_=>rfl
    | 4,_=>rfl
   have hnil:∀ (n:Nat) (K:Value→Option (Value × Aa)),oI (WE n) K=K (WE n):=fun _ _=>rfl
   obtain ⟨μ4,hμ4⟩:∃ μ4,μ3++[Bi.cells (a.row i.hb) AU true]=μ4:=⟨_,rfl⟩
   have h4:Ah μ4 i m:=hμ4 ▸ h3.app _
   have A4:Cj μ4 ab i a:=hμ4 ▸ A3.app _
   have K4:Co i ab σ μ4:=hμ4 ▸ K3.trans (Co.app _ _)
   have S4:μ4[σ.length]?=some (Bi.cells [Value.int .i64 r,.int .i64 d,.int .i64 c] Al true):=by rw[← hμ4,List.getElem?_append_left (Ae S3)]; exact S3
   have W4:Cj μ4 μ3.length i a:=by unfold Cj; rw[← hμ4]; simp
   have n3:μ3.length ∉ i.l:=fun hm=>Nat.lt_irrefl _ (h3.lt _ hm)
   have ns:σ.length ∉ i.l:=fun hm=>Nat.lt_irrefl _ (h.lt _ hm)
   have lab3:=A3.lt
   have l03:=K3.len
   obtain ⟨μ5,e5,h5,A5,K5⟩:=hp hv μ4 h4 A4
   have W5:Cj μ5 μ3.length i a:=W4.CT (K5.same _ W4.lt n3 (by omega))
   have S5:μ5[σ.length]?=some (Bi.cells [Value.int .i64 r,.int .i64 d,.int .i64 c] Al true):=by rw[K5.same _ (Ae S4) ns (by omega)]; exact S4
   have K05:=K4.trans K5
   simp only[Bool.not_true,cond_false,c0,c1,c2,e2,Option.bind_some,Am,e3,H7,A3.l2,Nat.zero_add,Nat.mul_one,lp,hnil]
   rw[if_pos (show 0≤a.p∧a.p<((5:Nat):Int) by omega)]
   have hsel:∀ (K:Ay→Option (Value × Aa)),((bif decide (words r d c>32) then (some (Bm.normal,[Value.func (.func LH) #[] #[]],μ3)) else (some (Bm.normal,[(Value.func (.method "dustcart/alloc.place") #[WE a.p.toNat] #[])],μ3)):Option Ay).bind K)=K (.normal,[tc a.p (words r d c)],μ3):=by
    intro K
    unfold tc
    by_cases q:words r d c>32
    ·rw[decide_eq_true q,if_pos q]; rfl
    ·rw[decide_eq_false q,if_neg q]; rfl
   have hst:Ki (μ3++[Bi.cells [.pointer none,.int .i64 (0:Int),.int .i64 (0:Int),.int .i64 (0:Int),.int .i64 (0:Int),.int .i64 (0:Int),.int .i64 (0:Int)] AU true]) μ3.length 0 [.pointer (DW i),.int .i64 a.s,.int .i64 a.p,.int .i64 a.c,.int .i64 a.l,.int .i64 a.oc,.int .i64 a.ol]=some μ4:=by
    rw[tr,← hμ4]; rfl
   rw[hsel]
   simp only[if_true,rV,Option.bind_some,A3.XO,A3.l1,A3.l2,A3.l3,A3.l4,A3.l5,A3.l6,hst,e5,Tp]
   cases hok:pr.1.2 with
   | false=>
     simp only[Bool.not_false,cond_true,Bool.false_eq_true,if_false]
     exact ⟨μ5,rfl,h5,A5,K05⟩
   | true=>
     have wq:Ac (pr.1.1.tdiv 64)=pr.1.1.tdiv 64:=by
      rw[Int.tdiv_eq_ediv_of_nonneg ha1.1]; exact Ad (by unfold AW; omega)
     have e6:B7 (k+12) (DW i) (pr.1.1.tdiv 64) μ5=_:=pI (k+9) h5 (pr.1.1.tdiv 64)
     simp only[Bool.not_true,cond_false,A5.XO,Option.bind_some,wq,e6,Am,A5.l1,hps hv,if_true]
     rw[if_neg (by decide)]
     have restore:∀ {μ:Aa} {a':AS},Cj μ ab i a'→Ki μ ab 0 [.pointer (DW i),.int .i64 a.s,.int .i64 a.p,.int .i64 a.c,.int .i64 a.l,.int .i64 a.oc,.int .i64 a.ol]=some (μ.set ab (.cells (a.row i.hb) AU true)):=fun hh=>hh.st 0 _ a rfl (by simp)
     by_cases q:LM pr.2.1 (pr.1.1.tdiv 64)=a.s
     ·obtain ⟨s0,s1,s2⟩:=bx S5
      obtain ⟨μ6,e7,h6,k6⟩:=gq k hk h5 (hI hv) (hb hv) pr.1.1 r d c (by unfold AW; omega)
      have A6:=A5.W7 k6 hab
      have W6:Cj μ6 μ3.length i a:=W5.W7 k6 n3
      have K06:=K05.trans (Co.of k6)
      simp only[q,beq_self_eq_true,cond_true,s0,s1,s2,Option.bind_some,e7,E6,if_true,D4]
      by_cases q2:(Br pr.2.1 pr.1.1 r d c).2.1=0
      ·simp only[q2,bne_self_eq_false,cond_false,if_true]
       exact ⟨μ6,rfl,h6,A6,K06⟩
      ·simp only[show ((Br pr.2.1 pr.1.1 r d c).2.1 != 0)=true from by simpa using q2,cond_true,if_neg q2,W6.XO,W6.l1,W6.l2,W6.l3,W6.l4,W6.l5,W6.l6,Option.bind_some,restore A6]
       exact ⟨_,rfl,h6.RH hab _,A6.put a,K06.trans (Co.set _ _)⟩
     ·simp only[show (LM pr.2.1 (pr.1.1.tdiv 64) == a.s)=false from by simpa using q,cond_false,Option.bind_some,if_true,D4,show ((5:Int) != 0)=true from rfl,cond_true,if_neg q,W5.XO,W5.l1,W5.l2,W5.l3,W5.l4,W5.l5,W5.l6,restore A5]
      exact ⟨_,rfl,h5.RH hab _,A5.put a,K05.trans (Co.set _ _)⟩
theorem pB (k:Nat) (h:Ah σ i m) (s p:Int):∃ σ1,GP (k+3) (DW i) s p σ=(if (0≤s∧s<8)∧(0≤p∧p<5) then some (.tuple #[.pointer (D8 σ1.length),.int .i64 0],σ1++[Bi.cells ((⟨s,p,0,0,0,0⟩:AS).row i.hb) AU true]) else some (.tuple #[.pointer none,.int .i64 1],σ1)) ∧ ∃ τ,σ1=σ++τ:=by
 have hnb:=h.nb
 rw[U0,Uy]
 have q0:(((m.bls.length:Nat):Int) == 0)=false:=beq_eq_false_iff_ne.2 (by omega)
 simp only[GR k h,Option.bind_some,Am,q0,cond_false]
 by_cases h1:s<0
 ·refine ⟨σ, ?_,[],by simp⟩
  simp only[decide_eq_true h1,Option.bind_some,cond_true,if_neg (show ¬ ((0≤s∧s<8)∧(0≤p∧p<5)) by omega)]
 simp only[decide_eq_false h1,Option.bind_some,cond_false]
 by_cases h2:s≥8
 ·refine ⟨σ, ?_,[],by simp⟩
  simp only[decide_eq_true h2,Option.bind_some,cond_true,if_neg (show ¬ ((0≤s∧s<8)∧(0≤p∧p<5)) by omega)]
 simp only[decide_eq_false h2,Option.bind_some,cond_false]
 by_cases h3:p<0
 ·refine ⟨σ, ?_,[],by simp⟩
  simp only[decide_eq_true h3,Option.bind_some,cond_true,if_neg (show ¬ ((0≤s∧s<8)∧(0≤p∧p<5)) by omega)]
 simp only[decide_eq_false h3,Option.bind_some,cond_false,Zf,H7]
 by_cases h4:p≥((5:Nat):Int)
 ·refine ⟨σ++[kq], ?_,[kq],rfl⟩
  simp only[decide_eq_true h4,cond_true,if_neg (show ¬ ((0≤s∧s<8)∧(0≤p∧p<5)) by omega)]
 ·refine ⟨σ++[kq], ?_,[kq],rfl⟩
  simp only[decide_eq_false h4,cond_false,if_pos (show (0≤s∧s<8)∧(0≤p∧p<5) by omega),Ap]
  rfl
theorem j8 (k:Nat) (p:Option Addr) (n:Int) (σ:Aa):Cl k (.func (.method "dustcart/alloc.place") #[WE 3] #[]) [.pointer p,.int .i64 n] σ=Dw k p n σ:=by
 simp only[Cl,Dw,Ab]; kernel_rfl
end Go.Proofs.YtlaplcglpnlieaaGreat
end
section
namespace Go.Proofs.YtlaplcglpnlieaaGreat
open Go Go.AX
noncomputable local instance vx:AF:=Au
local instance um:Kn:=⟨true⟩
variable {σ:Aa} {i:Cs} {m:HM} {ab:Nat} {a:AS}
structure gu (m:HM) (a:AS) (pr:PR):Prop where
 inv:Inv pr.2.1
 inv2:Inv2 pr.2.1
 brt:pr.2.1.births=m.births
 len:pr.2.1.bls.length=m.bls.length
 adr:0≤pr.1.1∧pr.1.1≤10000
 s:pr.2.2.s=a.s
 p:pr.2.2.p=a.p
 ok:pr.2.2.ok
 no:pr.1.2=false→pr.2=(m,a)
theorem SY (m:HM) (b c x y x' y':Int):(Bp m b c x y x' y').2.births=m.births:=by
 unfold Bp
 split
 ·split <;> rfl
 ·rfl
theorem an (h:Inv m) (h2:Inv2 m) {b:Nat} (s:Int):Inv (CN m b s)∧Inv2 (CN m b s)∧(CN m b s).births=m.births∧(CN m b s).bls.length=m.bls.length:=by
 have k:=M7 h h2 (b:Int) 1 1 s 0 0
 exact ⟨k.inv,k.inv2,SY _ _ _ _ _ _ _,k.len⟩
theorem fU (h:Inv m) (h2:Inv2 m) (ho:a.ok):gu m a ((0,false),m,a):=⟨h,h2,rfl,rfl,by dsimp only; omega,rfl,rfl,ho,fun _=>rfl⟩
theorem gE (h:Inv m) (h2:Inv2 m) (hl:m.bls.length≤64) (ho:a.ok) (v:Bool) {w:Int} (hw:0≤w∧w≤1000):gu m a (CA m a v w):=by
 have hc:=ho.cu v
 unfold CA
 split
 ·exact ⟨h,h2,rfl,rfl,by dsimp only; omega,ir _ _ _ _,iq _ _ _ _,ho.put v (by omega) (by omega),fun hh=>by cases hh⟩
 ·split
  ·rename_i b hb
   have:=Hg hb
   obtain ⟨k1,k2,k3,k4⟩:=an (b:=b) h h2 a.s
   exact ⟨k1,k2,k3,k4,by dsimp only; omega,ir _ _ _ _,iq _ _ _ _,ho.put v (by omega) (by omega),fun hh=>by cases hh⟩
  ·exact fU h h2 ho
theorem oD {c:Nat} {s:Int}:∀ {n x b:Nat},cC m c s n x=some b→b+c≤m.bls.length
 | 0,x,b,h=>by cases h
 | n+1,x,b,h=>by
   unfold cC at h
   split at h
   ·split at h
    ·cases h; assumption
    ·exact oD h
   ·cases h
theorem m8 (h:Inv m) (h2:Inv2 m) (hl:m.bls.length≤64) (ho:a.ok) (w:Int):gu m a (JN m a w):=by
 unfold JN
 split
 ·rename_i b hb
  have:=oD hb
  have k:=M7 h h2 (b:Int) (((w.toNat+63)/64:Nat):Int) 2 a.s 3 a.s
  exact ⟨k.inv,k.inv2,SY _ _ _ _ _ _ _,k.len,by dsimp only; omega,rfl,rfl,ho,fun hh=>by cases hh⟩
 ·exact fU h h2 ho
structure pC (m:HM) (a:AS) (r:(Int × Int) × HM × AS):Prop where
 inv:Inv r.2.1
 inv2:Inv2 r.2.1
 b1:m.births≤r.2.1.births
 b2:r.2.1.births≤m.births+1
 len:r.2.1.bls.length=m.bls.length
 s:r.2.2.s=a.s
 p:r.2.2.p=a.p
 ok:r.2.2.ok
theorem lS (h:Inv m) (h2:Inv2 m) (ho:a.ok) {r d c:Int} {pr:PR} (hp:valid r d c=true→gu m a pr) (hS:valid r d c=true→Sh pr.2.1):pC m a (Bj m a r d c pr):=by
 unfold Bj
 split
 ·rename_i hv
  obtain ⟨k1,k2,k3,k4,k5,k6,k7,k8,k9⟩:=hp hv
  have kp:=Rn k1 k2 (hS hv) pr.1.1 r d c
  have b1:=kp.b1; have b2:=kp.b2
  split
  ·split
   ·split
    ·exact ⟨kp.inv,kp.inv2,by dsimp only; omega,by dsimp only; omega,by rw[← k4]; exact kp.len,k6,k7,k8⟩
    ·exact ⟨kp.inv,kp.inv2,by dsimp only; omega,by dsimp only; omega,by rw[← k4]; exact kp.len,rfl,rfl,ho⟩
   ·exact ⟨k1,k2,by dsimp only; omega,by dsimp only; omega,k4,rfl,rfl,ho⟩
  ·exact ⟨k1,k2,by dsimp only; omega,by dsimp only; omega,k4,k6,k7,k8⟩
 ·exact ⟨h,h2,Int.le_refl _,by dsimp only; omega,rfl,rfl,rfl,ho⟩
theorem G1 {r d c:Int} (h:valid r d c=true):2≤words r d c∧words r d c≤218∧words r d c % 2=0:=by
 unfold words
 rw[h]
 simp only[cond_true]
 simp[valid] at h
 omega
theorem mc (hS:Sh m) (b c x y x' y':Int):Sh (Bp m b c x y x' y').2:=by
 have key:∀ l:List (Int × Int),l.length=m.bls.length→Sh { m with bls:=l }:=fun l hl=>by
  obtain ⟨p,q,r⟩:=hS
  exact ⟨by simp only; rw[hl]; exact p,by simp only; rw[hl]; exact q,by simp only; rw[hl]; exact r⟩
 unfold Bp
 split
 ·split
  ·exact key _ (by simp[Ft])
  ·exact hS
 ·exact hS
end Go.Proofs.YtlaplcglpnlieaaGreat
end
