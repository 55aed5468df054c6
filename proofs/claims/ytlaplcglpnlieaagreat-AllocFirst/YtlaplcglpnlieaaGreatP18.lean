/- The document's heap: objects placed and moved.; The document's heap: objects moved.; The document's heap: a new one, and a copy.; The program's heap,  -/
import Derived.Test.YtlaplcglpnlieaaGreatP17
import Derived.Test.YtlaplcglpnlieaaGreatP14
import Derived.Test.YtlaplcglpnlieaaGreatP15
import Derived.Test.YtlaplcglpnlieaaGreatP12
import Derived.Test.YtlaplcglpnlieaaGreatP13
set_option linter.unusedVariables false
set_option linter.unusedSimpArgs false
set_option linter.unusedSectionVars false
section
namespace Go.Proofs.YtlaplcglpnlieaaGreat
open Go Go.AX
noncomputable local instance uK:AL:=As
local instance tF:Kn:=⟨true⟩
variable {σ:Aa} {m:HM} {t:RM} {i:RI}
theorem N4.pg (h:N4 σ i t) (v:Int):∃ c,AX.Gv σ i.hb 3 (.int .i64 v)=some (σ.set i.hb c)∧N4 (σ.set i.hb c) i { t with born:=v }:=
 ⟨_,by simp only[AX.Gv,h.hp]; rfl,N4.nz (t:={ t with born:=v }) h.bl h.ob h.fw h.ol h.inn h.sep h.lt⟩
theorem pb (n:Nat):rep n [Value.int .i64 0]=Dd (List.replicate n 0):=by
 simp[rep,Dd]
theorem dt (k:Nat) (hk:5000≤k) (h:RG σ i m t) (hP:NL m) (hS:Sh m) (hb:m.births<1000000) (a r d c:Int):
  Hg (Dv (k+5) (Cd i) a r d c σ) σ i (.tuple #[.int .i64 (Cw m a r d c).1,.int .i64 (Cw m a r d c).2.1]) (Cw m a r d c).2.2:=by
 have hnt:=h.nt
 have hwl:=h.wl
 have hol:=h.ol
 have hbr:=h.inv.brt
 obtain ⟨S,hSS⟩:∃ S,Bh.cells [.int .i64 r,.int .i64 d,.int .i64 c] Al true=S:=⟨_,rfl⟩
 have hg:=h.app [S]
 have hq:(σ++[S])[σ.length]?=some (.cells [.int .i64 r,.int .i64 d,.int .i64 c] Al true):=by rw[← hSS]; simp
 obtain ⟨b0,b1,b2⟩:=SG hq
 obtain ⟨τ1,eV⟩:=SZ (k+3) r d c (σ++[S])
 have hg1:=hg.app τ1
 have hq1:(σ++[S]++τ1)[σ.length]?=_:=(List.getElem?_append_left (Af hq)).trans hq
 obtain ⟨d0,d1,d2⟩:=SG hq1
 have eM:Am (k+4) (Cd i) (σ++[S])=_:=Il (k+3) hg
 rw[TF,PN]
 simp only[Ap,hSS,eM,Option.bind_some,Au,Bool.not_true,cond_false,Nat.zero_add,Nat.reduceAdd,Nat.add_zero,b0,b1,b2,eV]
 unfold Cw
 cases hv:valid r d c with
 | false=>
   simp only[Bool.not_false,cond_true,Bool.false_eq_true,if_false]
   exact Hg.same h hP ([S]++τ1) (by rw[← List.append_assoc])
 | true=>
 obtain ⟨τ2,eF⟩:=nQ k hk hg1 a (-1) 0 hv (fun o ho=>by
  have:=(h.inv.idn o ho).1
  constructor
  ·intro e; omega
  ·intro e; omega)
 simp only[Bool.not_true,cond_false,if_true,d0,d1,d2,Option.bind_some,eF,An]
 by_cases hf:Nn m a (Sz (num r d c)) (-1)=0
 rotate_left
 ·rw[if_neg hf]
  simp only[bne_iff_ne.2 hf,cond_true]
  exact Hg.same h hP ([S]++τ1++τ2) (by simp only[← List.append_assoc])
 rw[if_pos hf]
 have hw2:2≤Sz (num r d c):=by
  have hv':=hv
  rw[O0 hv]
  simp[valid] at hv'
  omega
 obtain ⟨j,rfl,hj,hfit,hap⟩:=h.inv.fits hwl (eX _) hw2 hf
 rw[show ((2*j:Nat):Int).toNat/2=j from by omega]
 obtain ⟨s1,s2⟩:=h.sim.place h.inv h.inv2 hS hP hv hj (fun o ho=>hap o ho (by omega))
 have hg2:=hg1.app τ2
 obtain ⟨C,eS,h4⟩:=hg2.at_.pg (t.born+1)
 have hq2:(σ++[S]++τ1++τ2)[σ.length]?=_:=(List.getElem?_append_left (Af hq1)).trans hq1
 have hhb:i.hb<σ.length:=h.at_.lt _ i.Rr
 have hq3:((σ++[S]++τ1++τ2).set i.hb C)[σ.length]?=_:=(List.getElem?_set_ne (show i.hb≠σ.length by omega)).trans hq2
 have hlen:((σ++[S]++τ1++τ2).set i.hb C).length=σ.length+1+τ1.length+τ2.length:=by simp; omega
 have hs4:∀ x,x<σ.length→x≠i.hb→((σ++[S]++τ1++τ2).set i.hb C)[x]?=σ[x]?:=fun x hx hne=>by
  rw[List.getElem?_set_ne (Ne.symm hne),List.append_assoc,List.append_assoc,List.getElem?_append_left hx]
 have ld3':=hg2.at_.ra
 generalize (σ++[S]++τ1++τ2).set i.hb C=μ at h4 eS hq3 hlen hs4
 obtain ⟨c0,c1,c2⟩:=SG hq3
 have hv':=hv
 simp[valid] at hv'
 obtain ⟨rn,rfl⟩:∃ n:Nat,r=(n:Int):=⟨r.toNat,by omega⟩
 obtain ⟨dn,rfl⟩:∃ n:Nat,d=(n:Int):=⟨d.toNat,by omega⟩
 have w:Ac (t.born+1)=t.born+1:=Ad (by rw[h.sim.born]; unfold Bd; omega)
 have qr:(0≤(rn:Int)∧(rn:Int)≤(rn:Int)∧(rn:Int)*((8:Nat):Int)≤2 ^ 40∧(rn:Int)≤2 ^ 40)=True:=eq_true (by omega)
 have qd:(0≤(dn:Int)∧(dn:Int)≤(dn:Int)∧(dn:Int)*((8:Nat):Int)≤2 ^ 40∧(dn:Int)≤2 ^ 40)=True:=eq_true (by omega)
 obtain ⟨A,hA⟩:∃ A,Bh.cells (Dd (List.replicate rn 0)) B3 true=A:=⟨_,rfl⟩
 obtain ⟨D,hD⟩:∃ D,Bh.cells (Dd (List.replicate dn 0)) B3 true=D:=⟨_,rfl⟩
 have hq5:(μ++[A])[σ.length]?=_:=(List.getElem?_append_left (Af hq3)).trans hq3
 obtain ⟨_,f1,_⟩:=SG hq5
 have h6:N4 (μ++[A]++[D]) i { t with born:=t.born+1 }:=(h4.app [A]).app [D]
 have gA:(μ++[A]++[D])[μ.length]?=some (.cells (Dd (List.replicate rn 0)) B3 true):=by rw[hA]; simp
 have gD:(μ++[A]++[D])[(μ++[A]).length]?=some (.cells (Dd (List.replicate dn 0)) B3 true):=by rw[hD]; simp
 have ltl:∀ x ∈ i.l,x<σ.length:=h.at_.lt
 obtain ⟨σ',os',eP,hR,hsame,hle,hnew,hin⟩:=pf (k+3) (by omega) h6 (by show t.ob.length≤4900; omega) ⟨((2*j:Nat):Int),t.born+1,(rn:Int),(dn:Int),c,List.replicate rn 0,List.replicate dn 0,false⟩ ((some ⟨μ.length,0,none⟩,rn,rn),(some ⟨(μ++[A]).length,0,none⟩,dn,dn))
  ⟨by simp,fun _=>⟨μ.length,rn,by simp,gA⟩,fun a ha=>by cases ha; exact ⟨_,_,_,gA,Nat.zero_le _⟩⟩ ⟨by simp,fun _=>⟨(μ++[A]).length,dn,by simp,gD⟩,fun a ha=>by cases ha; exact ⟨_,_,_,gD,Nat.zero_le _⟩⟩
  (by
   intro x hx
   have:x=μ.length∨x=(μ++[A]).length:=by
    rcases hx with hx | hx
    ·obtain ⟨q,e,rfl⟩:=JM.1 hx
     cases e; exact .inl rfl
    ·obtain ⟨q,e,rfl⟩:=JM.1 hx
     cases e; exact .inr rfl
   refine ⟨?_,fun hm=>?_⟩
   ·have hl:(μ++[A]).length=μ.length+1:=by simp
    have hl2:(μ++[A]++[D]).length=μ.length+2:=by simp
    rcases this with e | e <;> omega
   ·have:=ltl x hm
    have hl:(μ++[A]).length=μ.length+1:=by simp
    rcases ‹x=μ.length∨x=(μ++[A]).length› with e | e <;> omega)
  (by simp[hs])
 have eP':GM (k+4) (Cd i) ((2*j:Nat):Int) (t.born+1) (rn:Int) (dn:Int) c (some ⟨μ.length,0,none⟩,rn,rn) (some ⟨(μ++[A]).length,0,none⟩,dn,dn) false (μ++[A]++[D])=some (.tuple #[],σ'):=eP
 refine ⟨σ',_,_, ?_,hR,s1,s2,⟨by simp at hle; omega,fun x hx hn=>?_,fun x hx=>?_,rfl⟩⟩
 ·simp only[bne_self_eq_false,hf,cond_false,ld3',Option.bind_some,w,eS,h4.ra,c0,c1,c2,qr,if_true,Int.toNat_natCast,pb,hA,f1,qd,hD,eP',Jq]
  have:=hR.ra
  simp only at this
  rw[this,h.sim.born]
  rfl
 ·have hne:x≠i.hb:=fun e=>hn (by rw[e]; exact i.Rr)
  rw[hsame x (by simp; omega) hne,List.append_assoc,List.getElem?_append_left (by omega),hs4 x hx hne]
 ·rcases hin x hx with e | e | e | e
  ·exact .inl e
  ·obtain ⟨q,e',rfl⟩:=JM.1 e
   cases e'
   exact .inr (by show σ.length≤μ.length; omega)
  ·obtain ⟨q,e',rfl⟩:=JM.1 e
   cases e'
   exact .inr (by show σ.length≤(μ++[A]).length; simp; omega)
  ·exact .inr (by simp at e; omega)
end Go.Proofs.YtlaplcglpnlieaaGreat
end
section
namespace Go.Proofs.YtlaplcglpnlieaaGreat
open Go Go.AX
noncomputable local instance uL:AL:=As
local instance tG:Kn:=⟨true⟩
variable {σ:Aa} {m:HM} {t:RM} {i:RI}
end Go.Proofs.YtlaplcglpnlieaaGreat
end
section
namespace Go.Proofs.YtlaplcglpnlieaaGreat
open Go Go.AX
noncomputable local instance uM:AL:=As
local instance tH:Kn:=⟨true⟩
variable {σ:Aa} {m:HM} {t:RM} {i:RI}
theorem lu (n j:Nat):¬ Start (Of n) j:=by
 rintro ⟨_,h⟩
 have:FY 1 (Of n).stw j=0:=Tq _ _ _
 omega
theorem RE.new (n:Nat):RE (Of n) ⟨List.replicate n (0,0),[],[],0⟩:=by
 refine ⟨rfl, ?_,rfl,fun a=>rfl,rfl,trivial,trivial⟩
 have:D3 (Of n)=[]:=by
  cases h:D3 (Of n) with
  | nil=>rfl
  | cons j l=>exact absurd (Ek.1 (by rw[h]; exact List.mem_cons_self)) (lu n j)
 show []=K8 (Of n)
 unfold K8
 rw[this]; rfl
theorem NL.new (n:Nat):NL (Of n):=fun j _ _=>Tq _ _ _
theorem FZ.new (n:Nat):FZ (Of n):=by
 intro c _
 show ((List.replicate n ((0:Int),(0:Int))).getD c (0,0)).2=0
 rw[List.getD_eq_getElem?_getD,List.getElem?_replicate]
 split <;> rfl
theorem kk (k:Nat) {n:Nat} (h2:2≤n) (h64:n≤64) (σ:Aa):∃ τ i,Kx (k+1) (n:Int) σ=some (.tuple #[.pointer (Cd i),.int .i64 0],σ++τ)∧N4 (σ++τ) i ⟨List.replicate n (0,0),[],[],0⟩ ∧ ∀ j ∈ i.l,σ.length≤j:=by
 rw[aa,Y9]
 simp only[show decide ((n:Int)<2)=false from decide_eq_false (by omega),cond_false,show decide ((n:Int)>64)=false from decide_eq_false (by omega),Option.bind_some,Ap]
 rw[if_pos (by omega)]
 simp only[Int.toNat_natCast,kn]
 obtain ⟨A,hA⟩:∃ A,Bh.cells (CB (List.replicate n (0,0))) A9 true=A:=⟨_,rfl⟩
 rw[hA]
 refine ⟨[A]++[Bh.cells [.slice (some ⟨σ.length,0,none⟩) n n,.slice none 0 0,.slice none 0 0,.int .i64 0] EF true],⟨(σ++[A]).length,(some ⟨σ.length,0,none⟩,n,n),(none,0,0),(none,0,0),[]⟩,by rw[List.append_assoc], ?_, ?_⟩
 ·rw[← List.append_assoc]
  refine { hp:=by simp,bl:=.inr ⟨σ.length,by simp,Nat.zero_le _,by rw[Gd]; omega,by rw[List.getElem?_append_left (by simp),← hA]; simp⟩,ob:=.inl ⟨rfl,rfl,rfl⟩,fw:=.inl (.inl ⟨rfl,rfl,rfl⟩),ol:=rfl,inn:=fun x h=>by simp at h,nd:=?_,lt:=?_ }
  ·simp[RI.l,hs]
  ·intro j hj
   simp[RI.l,hs] at hj
   simp
   omega
 ·intro j hj
  simp[RI.l,hs] at hj
  omega
theorem KT.first {s:Ez} {l:List Int} (h:KT σ s l):GC σ 1 s.1 l.length=some (Dd l):=by
 by_cases hl:l=[]
 ·subst hl
  cases hs:s.1 with
  | none=>rfl
  | some a=>
    obtain ⟨cs,T,w,h1,h2⟩:=h.2.2 a hs
    simp only[GC,VI,h1,List.length_nil,Nat.zero_mul,Nat.add_zero,h2,if_true,List.take_zero]
    rfl
 ·obtain ⟨b,c,rfl,hc⟩:=h.2.1 hl
  simp only[GC,VI,hc,Jm,Nat.zero_add,Nat.mul_one,Nat.le_refl,if_true,List.drop_zero]
  rw[List.take_of_length_le (by rw[Jm]; exact Nat.le_refl _)]
theorem BI.first {E:TypeId} {s n:Nat} {sl:Ez} {row:List Value} (h:BI E s σ sl n row):GC σ s sl.1 n=some row:=by
 rcases h with ⟨rfl,rfl,rfl⟩ | ⟨b,rfl,_,hl,hc⟩
 ·rfl
 ·simp only[GC,VI,hc,hl,Nat.zero_add,Nat.le_refl,if_true,List.drop_zero]
  rw[List.take_of_length_le (Nat.le_of_eq hl)]
end Go.Proofs.YtlaplcglpnlieaaGreat
end
section
namespace Go.Proofs.YtlaplcglpnlieaaGreat
open Go Go.AX
noncomputable local instance uN:AL:=As
local instance tI:Kn:=⟨true⟩
variable {σ:Aa} {m:HM} {i:C8}
theorem ij (k:Nat) (h:Ah σ i m) {b:Int} (hb:¬ (0≤b∧b<(m.bls.length:Int))):BU (k+3) (DZ i) b σ=some (.bool false,σ):=by
 rw[Lk,KH]
 simp only[Z8 _ h,Option.bind_some,Au,decide_eq_false (show ¬ (1≤b∧b<(m.bls.length:Int)) by omega),cond_false]
theorem mj (k:Nat) (hk:5000≤k) (h:Ah σ i m) (hI:Inv m) (h0:B0 m) (b:Int):
  ∃ τ s,DE (k+7) (DZ i) b σ=some (.slice s.1 s.2.1 s.2.2,σ++τ)∧BI Ae 2 (σ++τ) s (Fg m b).length (AJ (Fg m b)) ∧ ∀ a,s.1=some a→σ.length≤a.block:=by
 by_cases hb:0≤b∧b<(m.bls.length:Int)
 ·obtain ⟨n,rfl⟩:∃ n:Nat,b=(n:Int):=⟨b.toNat,by omega⟩
  have e:Fg m (n:Int)=cK m n:=by
   unfold Fg cK II
   rw[if_pos hb,Int.toNat_natCast]
   by_cases hs:(m.bls.getD n (0,0)).1=1
   ·have:1≤n:=by
     rcases Nat.eq_zero_or_pos n with rfl | h1
     ·have:=h0; unfold B0 at this; omega
     ·exact h1
    rw[if_pos hs,if_pos ⟨this,hs⟩]
   ·rw[if_neg hs,if_neg (fun hh=>hs hh.2)]
  rw[e]
  obtain ⟨τ,s,e1,e2,_,e4⟩:=oz k hk h hI (b:=n) (by omega)
  exact ⟨τ,s,e1,e2,e4⟩
 ·have e:Fg m b=[]:=by
   unfold Fg II
   rw[if_neg hb,if_neg (by decide)]
  rw[e]
  refine ⟨[],(none,0,0), ?_,BI.nil _ _ _,by intro a ha; cases ha⟩
  rw[Ik,Iy]
  have hu:BU (k+6) (DZ i) b σ=_:=ij (k+3) h hb
  simp only[hu,Option.bind_some,Au,Bool.not_false,cond_true,List.append_nil]
theorem ca {l l':List Bool} (hl:l.length=l'.length) (h:∀ t,t<l.length→(l.getD t false=true↔l'.getD t false=true)):l=l':=by
 apply List.ext_getElem hl
 intro n h1 h2
 have:=h n h1
 rw[List.getD_eq_getElem?_getD,List.getD_eq_getElem?_getD,List.getElem?_eq_getElem h1,List.getElem?_eq_getElem h2,Option.getD_some,Option.getD_some] at this
 cases hx:l[n] <;> cases hy:l'[n] <;> rw[hx,hy] at this <;> simp at this <;> rfl
theorem o7 (k:Nat) (hk:5000≤k) (h:Ah σ i m) (hI:Inv m) (hI2:Inv2 m) (h0:B0 m) (b:Int):
  ∃ τ s,DT (k+7) (DZ i) b σ=some (.slice s.1 s.2.1 s.2.2,σ++τ)∧BI DX 1 (σ++τ) s (Ej m b).length (Ga (Ej m b)) ∧ ∀ a,s.1=some a→σ.length≤a.block:=by
 have hwl:=h.wl
 by_cases hb:0≤b∧b<(m.bls.length:Int)
 ·obtain ⟨n,rfl⟩:∃ n:Nat,b=(n:Int):=⟨b.toNat,by omega⟩
  have hn:n<m.bls.length:=by omega
  unfold Ej II
  rw[if_pos hb,Int.toNat_natCast]
  by_cases hs:(m.bls.getD n (0,0)).1=1
  ·have h1:1≤n:=by
    rcases Nat.eq_zero_or_pos n with rfl | h1
    ·have:=h0; unfold B0 at this; omega
    ·exact h1
   rw[if_pos hs]
   obtain ⟨τ,bs,e1,e2,e3,e4⟩:=mn k hk h hI hI2 hn h1 hs
   have eb:bs=Od m n 8:=by
    refine ca (by rw[e3,Mf]) fun t ht=>?_
    rw[e4 t,nu hI hI2 hwl hn hs (by omega)]
    have:(Od m n 8).getD t false=XH m (64*n+8*t) 8:=by
     unfold Od
     rw[List.getD_eq_getElem?_getD,List.getElem?_map,List.getElem?_range (by omega)]
     rfl
    rw[this]
   rw[eb] at e2
   exact ⟨τ,(some ⟨σ.length,0,none⟩,8,8),e1,.inr ⟨σ.length,by rw[Mf],Nat.zero_le _,by rw[Mf]; unfold Ga; rw[List.length_map,Mf],e2⟩,fun a ha=>by cases ha; exact Nat.le_refl _⟩
  ·rw[if_neg hs]
   refine ⟨[],(none,0,0), ?_,BI.nil _ _ _,by intro a ha; cases ha⟩
   rw[List.append_nil]
   exact ml (k+3) h hn (fun hh=>hs hh.2)
 ·have e:Ej m b=[]:=by
   unfold Ej II
   rw[if_neg hb,if_neg (by decide)]
  rw[e]
  refine ⟨[],(none,0,0), ?_,BI.nil _ _ _,by intro a ha; cases ha⟩
  rw[H8,Hw]
  have hu:BU (k+6) (DZ i) b σ=_:=ij (k+3) h hb
  simp only[hu,Option.bind_some,Au,Bool.not_false,cond_true,List.append_nil]
theorem Ia {c:Prop} [Decidable c] {r r':Int × HM} (h:c→FZ r.2) (h':¬ c→FZ r'.2):FZ (if c then r else r').2:=by
 split
 ·exact h ‹_›
 ·exact h' ‹_›
theorem Rq {m':HM} (h:FZ m) (hb:m'.bls=m.bls):FZ m':=by unfold FZ; rw[hb]; exact h
theorem XP (h:FZ m) (b c x y x' y':Int) (hx:x≠0) (hx':x'≠0∨c=1):FZ (Cg m b c x y x' y').2:=by
 unfold Cg
 refine Ia (fun hc=>Ia (fun hu=>?_) fun _=>h) fun _=>h
 intro d hd
 have hd:(((Vs m.bls b.toNat (x',y') c.toNat 0).set b.toNat (x,y)).getD d (0,0)).1=0:=hd
 show (((Vs m.bls b.toNat (x',y') c.toNat 0).set b.toNat (x,y)).getD d (0,0)).2=0
 rw[QU,Gx] at hd ⊢
 by_cases h1:d=b.toNat∧b.toNat<m.bls.length
 ·rw[if_pos h1] at hd; exact absurd hd hx
 ·rw[if_neg h1] at hd ⊢
  rw[Zz _ _ _ _ _ _ (by omega)] at hd ⊢
  split at hd
  ·rename_i hr
   rcases hx' with hx' | rfl
   ·exact absurd hd hx'
   ·rw[show (1:Int).toNat=1 from rfl] at hr
    exact absurd ⟨by omega,by omega⟩ h1
  ·rename_i hr
   rw[if_neg hr]; exact h d hd
theorem gK (h:FZ m) (b:Int):FZ (HH m b).2:=by
 unfold HH
 refine Ia (fun hc=>Ia (fun hu=>?_) fun _=>h) fun _=>h
 intro d hd
 have hd:((aZ m.bls b.toNat (Gc m b.toNat)).getD d (0,0)).1=0:=hd
 show ((aZ m.bls b.toNat (Gc m b.toNat)).getD d (0,0)).2=0
 rw[Sl] at hd ⊢
 split
 ·rfl
 ·rename_i hr
  rw[if_neg hr] at hd; exact h d hd
theorem lS (h:FZ m) (b y:Int):FZ (Nv m b y).2:=by
 unfold Nv
 refine Ia (fun hc=>?_) fun _=>h
 obtain ⟨n,rfl,h1,h2,_⟩:=SQ hc
 rw[Int.toNat_natCast]
 have hst:(m.bls.getD n (0,0)).1=1∨(m.bls.getD n (0,0)).1=2:=by
  unfold OM at hc
  split at hc
  ·cases hc
  ·split at hc
   ·cases hc
   ·rename_i g
    rw[Int.toNat_natCast] at g
    omega
 intro d hd
 have hd:((Yx m.bls n y (Gc m n)).getD d (0,0)).1=0:=hd
 show ((Yx m.bls n y (Gc m n)).getD d (0,0)).2=0
 rw[bH _ _ _ _ _ (Q5 h2)] at hd ⊢
 split
 ·rename_i hr
  rw[if_pos hr] at hd
  have:=Xx (m:=m) m.bls.length 1 hst (Nat.le_refl _) (fun c _ _=>by omega) (d-n) (by show d-n<Gc m n; omega)
  rw[show n+(d-n)=d from by omega] at this
  exact absurd hd this
 ·rename_i hr
  rw[if_neg hr] at hd; exact h d hd
theorem mL (h:FZ m) (x:Vm):FZ (fU m x).2:=by
 unfold fU
 refine Ia (fun _=>XP h _ _ _ _ _ _ (by decide) (.inr rfl)) fun _=>?_
 refine Ia (fun _=>XP h _ _ _ _ _ _ (by decide) (.inl (by decide))) fun _=>?_
 refine Ia (fun _=>gK h _) fun _=>?_
 refine Ia (fun _=>lS h _ _) fun _=>?_
 refine Ia (fun _=>?_) fun _=>?_
 ·unfold Cw
  split
  ·split
   ·exact Rq h rfl
   ·exact h
  ·exact h
 refine Ia (fun _=>?_) fun _=>?_
 ·unfold Py; exact Ia (fun _=>Rq h rfl) fun _=>h
 refine Ia (fun _=>?_) fun _=>?_
 ·unfold cZ; exact Ia (fun _=>Ia (fun _=>Rq h rfl) fun _=>h) fun _=>h
 refine Ia (fun _=>?_) fun _=>?_
 ·unfold Vj; exact Ia (fun _=>Ia (fun _=>h) fun _=>Rq h rfl) fun _=>h
 refine Ia (fun _=>?_) fun _=>?_
 ·unfold Sr; exact Ia (fun _=>Rq h rfl) fun _=>h
 refine Ia (fun _=>?_) fun _=>?_
 ·unfold di
  refine Ia (fun _=>?_) fun _=>h
  split
  ·exact h
  ·exact Ia (fun _=>Rq h rfl) fun _=>h
 refine Ia (fun _=>?_) fun _=>?_
 ·unfold ch; exact Ia (fun _=>Rq h rfl) fun _=>h
 refine Ia (fun _=>?_) fun _=>?_
 ·unfold ch; exact Ia (fun _=>Rq h rfl) fun _=>h
 exact Ia (fun _=>Rq h rfl) fun _=>h
end Go.Proofs.YtlaplcglpnlieaaGreat
end
section
namespace Go.Proofs.YtlaplcglpnlieaaGreat
open Go Go.AX
noncomputable local instance uO:AL:=As
local instance tJ:Kn:=⟨true⟩
variable {σ:Aa} {m:HM} {t:RM} {i:C8} {j:RI}
structure oo (σ:Aa) (i:C8) (j:RI) (m:HM) (t:RM):Prop where
 h:Ah σ i m
 g:RG σ j m t
 P:NL m
 z:FZ m
 b0:B0 m
 off:∀ q ∈ i.l,q ∉ j.l
 br:m.births≤1000
 fl:m.fw.length≤1000
theorem oo.app (T:oo σ i j m t) (τ:Aa):oo (σ++τ) i j m t:=⟨T.h.app τ,T.g.app τ,T.P,T.z,T.b0,T.off,T.br,T.fl⟩
end Go.Proofs.YtlaplcglpnlieaaGreat
end
section
namespace Go.Proofs.YtlaplcglpnlieaaGreat
open Go Go.AX
noncomputable local instance uP:AL:=As
local instance tK:Kn:=⟨true⟩
variable {σ:Aa} {m:HM} {t:RM} {i:C8} {j:RI}
theorem m9 {s:Ez} {l:List Int} (h:BI B3 1 σ s l.length (Dd l)) {x:Nat} (hx:x<l.length):∃ b,s.1=some ⟨b,0,none⟩∧Ai .i64 σ b x=some (l.getD x 0):=by
 rcases h with ⟨h,_⟩ | ⟨b,rfl,_,_,hc⟩
 ·omega
 ·exact ⟨b,rfl,np hc hx⟩
theorem Zy {s:Ez} {l:List Bool} (h:BI DX 1 σ s l.length (Ga l)) {x:Nat} (hx:x<l.length):∃ b,s.1=some ⟨b,0,none⟩∧WC σ b x=some (l.getD x false):=by
 rcases h with ⟨h,_⟩ | ⟨b,rfl,_,_,hc⟩
 ·omega
 ·exact ⟨b,rfl,ql hc hx⟩
theorem R6 {s:Ez} {l:List (Nat × Nat)} (h:BI Ae 2 σ s l.length (AJ l)) {x:Nat} (hx:x<l.length):∃ b,s.1=some ⟨b,0,none⟩∧Ai .i64 σ b (x*2)=some ((l.getD x (0,0)).1:Int)∧Ai .i64 σ b (x*2+1)=some ((l.getD x (0,0)).2:Int):=by
 rcases h with ⟨h,_⟩ | ⟨b,rfl,_,_,hc⟩
 ·omega
 ·obtain ⟨h1,h2⟩:=Wx l x hx
  exact ⟨b,rfl,by simp only[Ai,Gt,hc,h1,Option.bind_some,An],by simp only[Ai,Gt,hc,h2,Option.bind_some,An]⟩
end Go.Proofs.YtlaplcglpnlieaaGreat
end
section
namespace Go.Proofs.YtlaplcglpnlieaaGreat
open Go Go.AX
noncomputable local instance uQ:AL:=As
local instance tL:Kn:=⟨true⟩
variable {σ:Aa} {m:HM} {t:RM} {i:C8} {j:RI}
structure pF (i:C8) (j j':RI) (σ σ':Aa):Prop where
 len:σ.length≤σ'.length
 same:∀ q,q<σ.length→q ∉ i.l→q ∉ j.l→σ'[q]?=σ[q]?
 new:∀ q,q ∈ j'.l→q ∈ j.l∨σ.length≤q
 hb:j'.hb=j.hb
theorem UZ {a:Addr} {σ σ':Aa} {ρ:Type} (h:σ'[a.block]?=σ[a.block]?) (x:Option ρ):Qo (some a) σ σ' x=x:=by
 have:@AL.k As σ σ' a.block=true:=by
  unfold As
  simpa using h
 unfold Qo
 simp only[this,cond_true]
theorem dh {μ:Aa} {A:Option (Value × Aa)} {B:Aa→Option (Value × Aa)} (W:oo μ i j m t) {v:Value} {m':HM} (hA:∃ σ1,A=some (v,σ1)∧Ah σ1 i m'∧BF i μ σ1) (hI:Inv m') (hI2:Inv2 m') (hF:FZ m') (hb:B0 m') (hbr:m'.births≤1000) (hfl:m'.fw.length≤1000)
  (hR:∀ σ1,RG σ1 j m t→Hg (B σ1) σ1 j v m'):∃ σ1 σ2 j' t',A=some (v,σ1)∧B σ1=some (v,σ2)∧oo σ2 i j' m' t'∧pF i j j' μ σ2∧(∀ q,q<μ.length→q ∉ i.l→σ1[q]?=μ[q]?):=by
 obtain ⟨σ1,eA,h1,k1⟩:=hA
 have g1:RG σ1 j m t:=W.g.Db (fun q hq=>k1.same q (W.g.at_.lt q hq) fun hm=>W.off q hm hq) k1.len
 obtain ⟨σ2,j',t',eB,r2,s2,p2,k2⟩:=hR σ1 g1
 have h2:Ah σ2 i m':=h1.Db fun q hq=>k2.same q (h1.lt q hq) (W.off q hq)
 refine ⟨σ1,σ2,j',t',eA,eB,⟨h2,⟨r2,s2,hI,hI2,h2.wl,h2.nb,h2.nt⟩,p2,hF,hb,fun q hq hm=>?_,hbr,hfl⟩,⟨Nat.le_trans k1.len k2.len,fun q h1' h2' h3'=>?_,fun q hq=>?_,k2.hb⟩,fun q h1' h2'=>k1.same q h1' h2'⟩
 ·rcases k2.new q hm with e | e
  ·exact W.off q hq e
  ·have:=h1.lt q hq; omega
 ·rw[k2.same q (Nat.lt_of_lt_of_le h1' k1.len) h3',k1.same q h1' h2']
 ·rcases k2.new q hq with e | e
  ·exact .inl e
  ·exact .inr (Nat.le_trans k1.len e)
theorem Fe {c:Prop} [Decidable c] {r r':Int × HM} {n:Nat} (h:c→r.2.fw.length≤n) (h':¬ c→r'.2.fw.length≤n):(if c then r else r').2.fw.length≤n:=by
 split
 ·exact h ‹_›
 ·exact h' ‹_›
theorem mK (m:HM) (x:Vm):(fU m x).2.fw.length≤m.fw.length+1:=by
 have s:m.fw.length≤m.fw.length+1:=by omega
 unfold fU
 refine Fe (fun _=>?_) fun _=>?_
 ·unfold Cg; exact Fe (fun _=>Fe (fun _=>s) fun _=>s) fun _=>s
 refine Fe (fun _=>?_) fun _=>?_
 ·unfold Cg; exact Fe (fun _=>Fe (fun _=>s) fun _=>s) fun _=>s
 refine Fe (fun _=>?_) fun _=>?_
 ·unfold HH; exact Fe (fun _=>Fe (fun _=>s) fun _=>s) fun _=>s
 refine Fe (fun _=>?_) fun _=>?_
 ·unfold Nv; exact Fe (fun _=>s) fun _=>s
 refine Fe (fun _=>?_) fun _=>?_
 ·unfold Cw
  split
  ·split
   ·exact s
   ·exact s
  ·exact s
 refine Fe (fun _=>?_) fun _=>?_
 ·unfold Py; exact Fe (fun _=>s) fun _=>s
 refine Fe (fun _=>?_) fun _=>?_
 ·unfold cZ; exact Fe (fun _=>Fe (fun _=>by show (Q0 _ _ m.fw).length≤_; rw[bq]; split <;> omega) fun _=>s) fun _=>s
 refine Fe (fun _=>?_) fun _=>?_
 ·unfold Vj; exact Fe (fun _=>Fe (fun _=>s) fun _=>s) fun _=>s
 refine Fe (fun _=>?_) fun _=>?_
 ·unfold Sr; exact Fe (fun _=>s) fun _=>s
 refine Fe (fun _=>?_) fun _=>?_
 ·unfold di
  refine Fe (fun _=>?_) fun _=>s
  split
  ·exact s
  ·exact Fe (fun _=>s) fun _=>s
 refine Fe (fun _=>?_) fun _=>?_
 ·unfold ch; exact Fe (fun _=>s) fun _=>s
 refine Fe (fun _=>?_) fun _=>?_
 ·unfold ch; exact Fe (fun _=>s) fun _=>s
 exact Fe (fun _=>Nat.zero_le _) fun _=>s
end Go.Proofs.YtlaplcglpnlieaaGreat
end
section
namespace Go.Proofs.YtlaplcglpnlieaaGreat
open Go Go.AX
noncomputable local instance uS:AL:=As
local instance tN:Kn:=⟨true⟩
def rL (σ:Aa) (p:Option Addr):Prop:=
 p=none ∨ ∃ h T rw,p=some ⟨h,0,none⟩∧σ[h]?=some (.cells [.slice none 0 0,.slice none 0 0,.pointer none,.pointer none,.map none,.map none,.int .i64 0] T rw)
theorem rL.app {σ:Aa} {p:Option Addr} (h:rL σ p) (τ:Aa):rL (σ++τ) p:=by
 rcases h with h | ⟨b,T,rw,h1,h2⟩
 ·exact .inl h
 ·refine .inr ⟨b,T,rw,h1, ?_⟩
  rw[List.getElem?_append_left (List.getElem?_eq_some_iff.1 h2).1]; exact h2
end Go.Proofs.YtlaplcglpnlieaaGreat
end
section
set_option maxRecDepth 10000
namespace Go.Proofs.YtlaplcglpnlieaaGreat
open Go Go.AX
noncomputable local instance sx:AL:=As
local instance su:Kn:=⟨true⟩
end Go.Proofs.YtlaplcglpnlieaaGreat
end
section
set_option maxRecDepth 10000
namespace Go.Proofs.YtlaplcglpnlieaaGreat
open Go Go.AX
noncomputable local instance uT:AL:=As
local instance tO:Kn:=⟨true⟩
variable {σ:Aa}
end Go.Proofs.YtlaplcglpnlieaaGreat
end
section
namespace Go.Proofs.YtlaplcglpnlieaaGreat
open Go Go.AX
noncomputable local instance uR:AL:=As
local instance tM:Kn:=⟨true⟩
variable {σ:Aa} {m:HM} {t:RM} {i:C8} {j:RI}
end Go.Proofs.YtlaplcglpnlieaaGreat
end
section
namespace Go.Proofs.YtlaplcglpnlieaaGreat
open Go Go.AX
noncomputable local instance uc:AL:=As
local instance sS:Kn:=⟨true⟩
variable {σ:Aa} {i:C8} {m:HM}
structure AS where
 s:Int
 p:Int
 c:Int
 l:Int
 oc:Int
 ol:Int
def AS.row (a:AS) (hb:Nat):List Value:=[.pointer (some ⟨hb,0,none⟩),.int .i64 a.s,.int .i64 a.p,.int .i64 a.c,.int .i64 a.l,.int .i64 a.oc,.int .i64 a.ol]
def Cf (σ:Aa) (ab:Nat) (i:C8) (a:AS):Prop:=σ[ab]?=some (.cells (a.row i.hb) AU true)
structure AS.ok (a:AS):Prop where
 s0:0≤a.s∧a.s<8
 p0:0≤a.p∧a.p<5
 c0:0≤a.c∧a.c≤10000
 l0:0≤a.l∧a.l≤10000
 oc0:0≤a.oc∧a.oc≤10000
 ol0:0≤a.ol∧a.ol≤10000
abbrev DK (ab:Nat):Option Addr:=some ⟨ab,0,none⟩
variable {ab:Nat} {a:AS}
theorem Cf.X5 (h:Cf σ ab i a):Jn σ ab 0=some (DZ i):=by unfold Cf AS.row at h; simp[Jn,Gt,h,X6]
theorem Cf.l1 (h:Cf σ ab i a):Ai .i64 σ ab 1=some a.s:=by unfold Cf AS.row at h; simp[Ai,Gt,h,BE]
theorem Cf.l2 (h:Cf σ ab i a):Ai .i64 σ ab 2=some a.p:=by unfold Cf AS.row at h; simp[Ai,Gt,h,BE]
theorem Cf.l3 (h:Cf σ ab i a):Ai .i64 σ ab 3=some a.c:=by unfold Cf AS.row at h; simp[Ai,Gt,h,BE]
theorem Cf.l4 (h:Cf σ ab i a):Ai .i64 σ ab 4=some a.l:=by unfold Cf AS.row at h; simp[Ai,Gt,h,BE]
theorem Cf.l5 (h:Cf σ ab i a):Ai .i64 σ ab 5=some a.oc:=by unfold Cf AS.row at h; simp[Ai,Gt,h,BE]
theorem Cf.l6 (h:Cf σ ab i a):Ai .i64 σ ab 6=some a.ol:=by unfold Cf AS.row at h; simp[Ai,Gt,h,BE]
theorem Cf.lt (h:Cf σ ab i a):ab<σ.length:=Af h
theorem Cf.Db {σ':Aa} (h:Cf σ ab i a) (hs:σ'[ab]?=σ[ab]?):Cf σ' ab i a:=by unfold Cf; rw[hs]; exact h
theorem Cf.app (h:Cf σ ab i a) (τ:Aa):Cf (σ++τ) ab i a:=h.Db (List.getElem?_append_left h.lt)
theorem Cf.Wn {σ':Aa} (h:Cf σ ab i a) (k:BF i σ σ') (hab:ab ∉ i.l):Cf σ' ab i a:=h.Db (k.same ab h.lt hab)
theorem Cf.put (h:Cf σ ab i a) (a':AS):Cf (σ.set ab (.cells (a'.row i.hb) AU true)) ab i a':=by
 unfold Cf; rw[List.getElem?_set_self h.lt]
theorem Cf.st (h:Cf σ ab i a) (o:Nat) (vs:List Value) (a':AS) (hv:AE (a.row i.hb) o vs=a'.row i.hb) (hl:o+vs.length≤7):Ke σ ab o vs=some (σ.set ab (.cells (a'.row i.hb) AU true)):=by
 have h':=h
 unfold Cf at h'
 simp only[Ke,h']
 rw[if_pos (by simpa [AS.row] using hl),hv]
theorem Cf.Gv (h:Cf σ ab i a) (o:Nat) (v:Value) (a':AS) (hv:(a.row i.hb).set o v=a'.row i.hb) (hl:o<7):AX.Gv σ ab o v=some (σ.set ab (.cells (a'.row i.hb) AU true)):=by
 have h':=h
 unfold Cf at h'
 simp only[AX.Gv,h']
 rw[if_pos (by simpa [AS.row] using hl),hv]
structure Cm (i:C8) (ab:Nat) (σ σ':Aa):Prop where
 len:σ.length≤σ'.length
 same:∀ j,j<σ.length→j ∉ i.l→j≠ab→σ'[j]?=σ[j]?
theorem Cm.of {σ':Aa} (h:BF i σ σ'):Cm i ab σ σ':=⟨h.len,fun j h1 h2 _=>h.same j h1 h2⟩
theorem Cm.trans {x y z:Aa} (h:Cm i ab x y) (g:Cm i ab y z):Cm i ab x z:=
 ⟨Nat.le_trans h.len g.len,fun j h1 h2 h3=>(g.same j (Nat.lt_of_lt_of_le h1 h.len) h2 h3).trans (h.same j h1 h2 h3)⟩
theorem Cm.app (σ τ:Aa):Cm i ab σ (σ++τ):=.of (BF.app i σ τ)
theorem Cm.set (σ:Aa) (o:Bh):Cm i ab σ (σ.set ab o):=⟨by simp,fun j _ _ h=>List.getElem?_set_ne fun e=>h e.symm⟩
theorem Cm.refl (σ:Aa):Cm i ab σ σ:=.of (BF.refl i σ)
theorem Ah.R5 (h:Ah σ i m) (hab:ab ∉ i.l) (o:Bh):Ah (σ.set ab o) i m:=h.Db fun j hj=>List.getElem?_set_ne fun e=>hab (by rw[e]; exact hj)
theorem rO (x:Addr):UT P Ha (.pointer (some x)) (.pointer none)=some false:=by kernel_rfl
theorem qW (x:Addr):UT P Jp (.pointer (some x)) (.pointer none)=some false:=by kernel_rfl
theorem ft (k:Nat) (hA:Cf σ ab i a):Ch (k+1) (DK ab) σ=some (.bool true,σ):=by
 rw[KX,Ja]
 simp only[rO,Option.bind_some,Bool.not_false,cond_true,Nat.zero_add,Nat.add_zero,hA.X5,qW]
def RZ (m:HM):Nat→Nat→Option Nat
 | 0,_=>none
 | n+1,x=>if (m.bls.getD x (0,0)).1=0∧(m.bls.getD x (0,0)).2=0 then some x else RZ m n (x+1)
def Qh (m:HM):Option Nat:=RZ m (m.bls.length-1) 1
def GA (m:HM) (b:Nat) (s:Int):HM:=(Cg m (b:Int) 1 1 s 0 0).2
theorem kQ (m:HM) {x:Nat} {s:Int} (h1:1≤x) (hx:x<m.bls.length) (hs:0≤s∧s<8):
  Cg m (x:Int) 1 1 s 0 0=if (m.bls.getD x (0,0)).1=0∧(m.bls.getD x (0,0)).2=0 then (0,GA m x s) else (8,m):=by
 have e:(1≤(x:Int)∧(x:Int)<(m.bls.length:Int)∧(1:Int)≤1∧(1:Int)≤(m.bls.length:Int)-(x:Int)∧UB s=true):=⟨by omega,by omega,by omega,by omega,by unfold UB; simpa using hs⟩
 have u:Ib m.bls x 1 0=if (m.bls.getD x (0,0)).1=0∧(m.bls.getD x (0,0)).2=0 then none else some 0:=by
  simp only[Ib,Nat.add_zero]
 unfold GA Cg
 rw[if_pos e,Int.toNat_natCast,show (1:Int).toNat=1 from rfl,u]
 by_cases hf:(m.bls.getD x (0,0)).1=0∧(m.bls.getD x (0,0)).2=0
 ·simp only[hf,and_self,if_true]
 ·simp only[hf,if_false]; simp
theorem HW {n x b:Nat} (h:RZ m n x=some b):x≤b∧b<x+n∧(m.bls.getD b (0,0)).1=0∧(m.bls.getD b (0,0)).2=0:=by
 induction n generalizing x with
 | zero=>cases h
 | succ n ih=>
   unfold RZ at h
   split at h
   ·cases h; omega
   ·have:=ih h; omega
def Hv (x y:Int):Bh:=.cells [.int .i64 x,.int .i64 y] En true
theorem YB (k:Nat) (hk:5000≤k) (hab:ab ∉ i.l) (hs:0≤a.s∧a.s<8) {h1:Nat} (hh1:h1 ∉ i.l) (hha:h1≠ab):∀ (n x f:Nat) (σ:Aa),Ah σ i m→Cf σ ab i a→σ[h1]?=some (Hv 0 0)→1≤x→x+n=m.bls.length→n<f →
  ∃ σ',BN (k+8) f (DK ab) h1 (x:Int) σ=some (match RZ m n x with | some b=>(.ret,[.bool true],σ') | none=>(.exit 0,[],σ'))∧Ah σ' i (match RZ m n x with | some b=>GA m b a.s | none=>m) ∧
   σ'[h1]?=some (match RZ m n x with | some b=>Hv (64*(b:Int)) (64*(b:Int)+64) | none=>Hv 0 0)∧σ.length≤σ'.length ∧ ∀ q,q<σ.length→q ∉ i.l→q≠h1→σ'[q]?=σ[q]?
 | n,x,0,σ,h,hA,hc,hx,hn,hf=>by omega
 | 0,x,f+1,σ,h,hA,hc,hx,hn,hf=>by
   rw[Gj,Fj]
   refine ⟨σ, ?_,h,hc,Nat.le_refl _,fun _ _ _ _=>rfl⟩
   simp only[Option.bind_some,Nat.add_zero,hA.X5,J2 (k+6) h,An,decide_eq_false (show ¬ (x:Int)<((m.bls.length:Nat):Int) by omega),cond_false,RZ]
 | n+1,x,f+1,σ,h,hA,hc,hx,hn,hf=>by
   have hnt:=h.nt
   obtain ⟨σ1,e1,g1,k1⟩:=ZA (k+1) (by omega) h (x:Int) a.s (by unfold Bd; omega)
   have hA1:=hA.Wn k1 hab
   rw[kQ m hx (by omega) hs] at e1 g1
   have hc1:=(k1.same h1 (Af hc) hh1).trans hc
   have w1:Ac ((x:Int)+1)=((x+1:Nat):Int):=Ad (by unfold Bd; omega)
   have w2:Ac ((x:Int)*64)=64*(x:Int):=by rw[Ad (by unfold Bd; omega)]; omega
   have w3:Ac (((x+1:Nat):Int)*64)=64*(x:Int)+64:=by rw[Ad (by unfold Bd; omega)]; omega
   rw[Gj,Fj]
   simp only[Option.bind_some,Nat.add_zero,hA.X5,J2 (k+6) h,An,decide_eq_true (show (x:Int)<((m.bls.length:Nat):Int) by omega),cond_true,Nat.zero_add,hA.l1,e1,RZ]
   by_cases hfr:(m.bls.getD x (0,0)).1=0∧(m.bls.getD x (0,0)).2=0
   ·simp only[hfr,and_self,if_true] at g1 ⊢
    refine ⟨σ1.set h1 (Hv (64*(x:Int)) (64*(x:Int)+64)), ?_,g1.Db fun j hj=>List.getElem?_set_ne fun e=>hh1 (by rw[e]; exact hj),by rw[List.getElem?_set_self (Af hc1)],by simpa using k1.len,fun q hq h2 h3=>by rw[List.getElem?_set_ne (fun e=>h3 e.symm)]; exact k1.same q hq h2⟩
    simp only[beq_self_eq_true,cond_true,w1,w2,w3,Ke,hc1,Hv]
    rfl
   ·simp only[hfr,if_false] at g1 ⊢
    obtain ⟨σ2,e2,g2,c2,l2,s2⟩:=YB k hk hab hs hh1 hha n (x+1) f σ1 g1 hA1 hc1 (by omega) (by omega) (by omega)
    refine ⟨σ2, ?_,g2,c2,Nat.le_trans k1.len l2,fun q hq h2 h3=>by rw[s2 q (Nat.lt_of_lt_of_le hq k1.len) h2 h3]; exact k1.same q hq h2⟩
    simp only[show ((8:Int) == 0)=false from rfl,cond_false,w1,e2]
def XL (m:HM):Int × Int × Bool:=match Qh m with | some b=>(64*(b:Int),64*(b:Int)+64,true) | none=>(0,0,false)
def Ui (m:HM) (s:Int):HM:=match Qh m with | some b=>GA m b s | none=>m
theorem ZR (k:Nat) (hk:5000≤k) (h:Ah σ i m) (hA:Cf σ ab i a) (hab:ab ∉ i.l) (hs:0≤a.s∧a.s<8):
  ∃ σ',Bq (k+9) (DK ab) σ=some (.tuple #[.agg #[.int .i64 (XL m).1,.int .i64 (XL m).2.1],.bool (XL m).2.2],σ')∧Ah σ' i (Ui m a.s)∧BF i σ σ':=by
 have hnt:=h.nt; have hnb:=h.nb
 have hlt:=hA.lt
 obtain ⟨σ1,e1,g1,c1,l1,s1⟩:=YB k hk hab hs (h1:=σ.length) (fun hm=>Nat.lt_irrefl _ (h.lt _ hm)) (by omega) (m.bls.length-1) 1 (k+8) (σ++[Hv 0 0]) (h.app _) (hA.app _) (by simp) (Nat.le_refl _) (by omega) (by omega)
 have kp:BF i σ σ1:=⟨by simp at l1; omega,fun q hq h2=>by rw[s1 q (by simp; omega) h2 (by omega),List.getElem?_append_left hq]⟩
 rw[Ks,Iv]
 simp only[Ap,show (Bh.cells [.int .i64 0,.int .i64 0] En true)=Hv 0 0 from rfl]
 rw[show ((1:Nat):Int)=1 from rfl] at e1
 unfold XL Ui Qh
 simp only[e1]
 cases hfr:RZ m (m.bls.length-1) 1 with
 | none=>
   simp only[hfr] at g1 c1
   refine ⟨σ1.set σ.length (Hv 0 0), ?_,g1.Db fun j hj=>List.getElem?_set_ne fun e=>Nat.lt_irrefl σ.length (by have:=h.lt _ hj; omega),kp.trans ⟨by simp,fun q hq h2=>?_⟩⟩
   ·simp only[Option.bind_some,if_true,Ke,c1,Hv,VI]
    simp[AE,Qw,List.getElem?_set_self (Af c1)]
   ·rcases Nat.lt_trichotomy q σ.length with e | e | e
    ·rw[List.getElem?_set_ne (by omega)]
    ·rw[e,List.getElem?_set_self (Af c1),c1]
    ·rw[List.getElem?_set_ne (by omega)]
 | some b=>
   simp only[hfr] at g1 c1
   refine ⟨σ1, ?_,g1,kp⟩
   simp only[Option.bind_some,show (Bk.ret=Bk.exit 0)=False from by simp,if_false,if_true,Tt,VI,c1,Hv]
   rfl
def TS (m:HM) (b:Int):Int:=if 0≤b∧b<(m.bls.length:Int) then (m.bls.getD b.toNat (0,0)).2 else -1
theorem o9 (k:Nat) (h:Ah σ i m) (b:Int):Bx (k+3) (DZ i) b σ=some (.int .i64 (TS m b),σ):=by
 unfold TS
 by_cases hb:0≤b∧b<(m.bls.length:Int)
 ·rw[if_pos hb]
  obtain ⟨n,rfl⟩:∃ n:Nat,b=(n:Int):=⟨b.toNat,by omega⟩
  rw[Int.toNat_natCast]
  exact ZK k h (by omega)
 ·rw[if_neg hb,Kv,JS]
  by_cases h0:b<0
  ·simp only[decide_eq_true h0,cond_true,Option.bind_some]
  ·simp only[decide_eq_false h0,cond_false,J2 k h,Option.bind_some,An,decide_eq_true (show b≥((m.bls.length:Nat):Int) by omega),cond_true]
end Go.Proofs.YtlaplcglpnlieaaGreat
end
section
namespace Go.Proofs.YtlaplcglpnlieaaGreat
open Go Go.AX
noncomputable local instance ud:AL:=As
local instance sT:Kn:=⟨true⟩
variable {σ:Aa} {i:C8} {m:HM} {ab:Nat} {a:AS}
def AS.cu (a:AS) (v:Bool):Int:=bif v then a.oc else a.c
def AS.li (a:AS) (v:Bool):Int:=bif v then a.ol else a.l
def AS.put (a:AS) (v:Bool) (x y:Int):AS:=bif v then { a with oc:=x,ol:=y } else { a with c:=x,l:=y }
def mf (v:Bool):Nat:=bif v then 5 else 3
theorem Cf.lc (h:Cf σ ab i a) (v:Bool):Ai .i64 σ ab (mf v)=some (a.cu v):=match v with | false=>h.l3 | true=>h.l5
theorem Cf.ll (h:Cf σ ab i a) (v:Bool):Ai .i64 σ ab (mf v+1)=some (a.li v):=match v with | false=>h.l4 | true=>h.l6
theorem Cf.rJ (h:Cf σ ab i a) (v:Bool) (x y:Int):Ke σ ab (mf v) [.int .i64 x,.int .i64 y]=some (σ.set ab (.cells ((a.put v x y).row i.hb) AU true)):=by
 cases v
 ·exact h.st 3 _ (a.put false x y) rfl (by simp)
 ·exact h.st 5 _ (a.put true x y) rfl (by simp)
theorem Cf.sm (h:Cf σ ab i a) (v:Bool) (x:Int):AX.Gv σ ab (mf v) (.int .i64 x)=some (σ.set ab (.cells ((a.put v x (a.li v)).row i.hb) AU true)):=by
 cases v
 ·exact h.Gv 3 _ (a.put false x a.l) rfl (by decide)
 ·exact h.Gv 5 _ (a.put true x a.ol) rfl (by decide)
theorem AS.ok.cu (h:a.ok) (v:Bool):0≤a.cu v∧a.cu v≤10000∧0≤a.li v∧a.li v≤10000:=by
 have h1:=h.c0; have h2:=h.l0; have h3:=h.oc0; have h4:=h.ol0
 cases v <;> simp only[AS.cu,AS.li,cond_true,cond_false] <;> omega
theorem AS.ok.put (h:a.ok) (v:Bool) {x y:Int} (hx:0≤x∧x≤10000) (hy:0≤y∧y≤10000):(a.put v x y).ok:=by
 cases v
 ·exact ⟨h.s0,h.p0,hx,hy,h.oc0,h.ol0⟩
 ·exact ⟨h.s0,h.p0,h.c0,h.l0,hx,hy⟩
theorem gB (a:AS) (v:Bool) (x y:Int):(a.put v x y).s=a.s:=by cases v <;> rfl
theorem g9 (a:AS) (v:Bool) (x y:Int):(a.put v x y).p=a.p:=by cases v <;> rfl
theorem j6 (a:AS) (v:Bool) (x y:Int):(a.put v x y).cu v=x∧(a.put v x y).li v=y:=by cases v <;> exact ⟨rfl,rfl⟩
theorem oX (a:AS) (v:Bool) (x y z w:Int):(a.put v x y).put v z w=a.put v z w:=by cases v <;> rfl
theorem pk (μ:Aa) (T:TypeId) (p q x y:Value):Ke (μ++[.cells [p,q] T true]) μ.length 0 [x,y]=some (μ++[.cells [x,y] T true]):=by
 simp[Ke,AE]
theorem kf (μ:Aa) (T:TypeId) (x y:Int):Ai .i64 (μ++[.cells [.int .i64 x,.int .i64 y] T true]) μ.length 0=some x∧Ai .i64 (μ++[.cells [.int .i64 x,.int .i64 y] T true]) μ.length 1=some y:=by
 simp[Ai,Gt,BE]
theorem mW (k:Nat) (hA:Cf σ ab i a) (ho:a.ok) (v:Bool) (w:Int):DC (k+1) (some ⟨ab,mf v,none⟩) w σ=some (.bool (decide (a.li v-a.cu v≥w)),σ):=by
 have:=ho.cu v
 rw[Pj,NN]
 simp only[Option.bind_some,Nat.add_zero,hA.lc,hA.ll,Ad (show Bd (a.li v-a.cu v) by unfold Bd; omega)]
theorem eY (k:Nat) (hA:Cf σ ab i a) (ho:a.ok) (v:Bool) {w:Int} (hw:0≤w∧w≤1000):Dc (k+1) (some ⟨ab,mf v,none⟩) w σ=some (.int .i64 (a.cu v),σ.set ab (.cells ((a.put v (a.cu v+w) (a.li v)).row i.hb) AU true)):=by
 have:=ho.cu v
 rw[O8,MM]
 have e1:Ac (a.cu v+w)=a.cu v+w:=Ad (by unfold Bd; omega)
 have e2:Ac (a.cu v+w-w)=a.cu v:=by rw[Ad (by unfold Bd; omega)]; omega
 simp only[Option.bind_some,Nat.add_zero,hA.lc,e1,hA.sm,(hA.put _).lc,j6,e2]
abbrev PR:=(Int × Bool) × HM × AS
def bR (mm:Option (Value × Aa)) (σ:Aa) (i:C8) (ab:Nat) (r:PR):Prop:=
 ∃ σ',mm=some (.tuple #[.int .i64 r.1.1,.bool r.1.2],σ')∧Ah σ' i r.2.1∧Cf σ' ab i r.2.2∧Cm i ab σ σ'
def DS (m:HM) (a:AS) (v:Bool) (w:Int):PR:=
 if a.li v-a.cu v≥w then ((a.cu v,true),m,a.put v (a.cu v+w) (a.li v))
 else match Qh m with
  | some b=>((64*(b:Int),true),GA m b a.s,a.put v (64*(b:Int)+w) (64*(b:Int)+64))
  | none=>((0,false),m,a)
theorem cz (k:Nat) (hk:5000≤k) (h:Ah σ i m) (hA:Cf σ ab i a) (hab:ab ∉ i.l) (ho:a.ok) (v:Bool) {w:Int} (hw:0≤w∧w≤1000):
  bR (Bv (k+10) (DK ab) (some ⟨ab,mf v,none⟩) w σ) σ i ab (DS m a v w):=by
 have hcu:=ho.cu v
 have hnt:=h.nt
 rw[JU,HT]
 simp only[mW (k+8) hA ho v w,Option.bind_some,Au]
 unfold DS
 by_cases q:a.li v-a.cu v≥w
 ·rw[if_pos q]
  simp only[decide_eq_true q,Bool.not_true,cond_false,Option.bind_some,if_true,eY (k+8) hA ho v hw,An]
  exact ⟨_,rfl,h.R5 hab _,hA.put _,Cm.set _ _⟩
 ·rw[if_neg q]
  obtain ⟨σ1,e1,g1,k1⟩:=ZR k hk h hA hab ho.s0
  have hA1:=hA.Wn k1 hab
  simp only[decide_eq_false q,Bool.not_false,cond_true,e1,Option.bind_some,Z9,List.length_cons,List.length_nil,List.head?_cons,List.tail_cons,Zx,Au,Ap,pk,Nat.zero_add,Nat.reduceAdd,if_true]
  unfold XL Ui at *
  cases hfr:Qh m with
  | none=>
    simp only[hfr] at g1 ⊢
    simp only[Bool.not_false,cond_true,Option.bind_some,show (Bk.ret=Bk.normal)=False from by simp,if_false,if_true,X1]
    exact ⟨_,rfl,g1.app _,hA1.app _,(Cm.of k1).trans (Cm.app _ _)⟩
  | some b=>
    simp only[hfr] at g1 ⊢
    have hb:=HW hfr
    obtain ⟨l0,l1⟩:=kf σ1 En (64*(b:Int)) (64*(b:Int)+64)
    have hA2:=hA1.app [.cells [.int .i64 (64*(b:Int)),.int .i64 (64*(b:Int)+64)] En true]
    have hA3:=hA2.put (a.put v (64*(b:Int)) (64*(b:Int)+64))
    have ho3:(a.put v (64*(b:Int)) (64*(b:Int)+64)).ok:=ho.put v (by omega) (by omega)
    have t3:=eY (k+8) hA3 ho3 v hw
    rw[(j6 _ _ _ _).1,(j6 _ _ _ _).2,oX] at t3
    simp only[Bool.not_true,cond_false,l0,l1,Option.bind_some,hA2.rJ,if_true,t3,An]
    exact ⟨_,rfl,((g1.app _).R5 hab _).R5 hab _,hA3.put _,(((Cm.of k1).trans (Cm.app _ _)).trans (Cm.set _ _)).trans (Cm.set _ _)⟩
theorem bX (k:Nat) (hk:5000≤k) (h:Ah σ i m) (hA:Cf σ ab i a) (hab:ab ∉ i.l) (ho:a.ok) {w:Int} (hw:0≤w∧w≤1000):
  bR (Ds (k+11) (DK ab) w σ) σ i ab (DS m a false w):=by
 obtain ⟨σ1,e1,g1,a1,k1⟩:=cz k hk (h.app [.cells [] R7 true]) (hA.app _) hab ho false hw
 rw[N7,LP]
 refine ⟨σ1, ?_,g1,a1,(Cm.app _ _).trans k1⟩
 rw[show mf false=3 from rfl] at e1
 simp only[Ap,Option.bind_some,Nat.zero_add,e1,SY]
theorem iP {b c x y x' y':Int} (h:(Cg m b c x y x' y').1≠0):(Cg m b c x y x' y').2=m:=by
 unfold Cg at *
 split at h
 ·split at h
  ·exact absurd rfl h
  ·rename_i h1 h2; rw[if_pos h1,if_neg h2]
 ·rename_i h1; rw[if_neg h1]
def kh (m:HM) (c:Nat) (s:Int):Nat→Nat→Option Nat
 | 0,_=>none
 | n+1,x=>if x+c≤m.bls.length then (if (Cg m (x:Int) (c:Int) 2 s 3 s).1=0 then some x else kh m c s n (x+1)) else none
theorem YI (k:Nat) (hk:5000≤k) (hab:ab ∉ i.l) {c:Nat} (hc:c≤100):∀ (n x f:Nat) (σ:Aa),Ah σ i m→Cf σ ab i a→x≤100→m.bls.length<x+n→n<f →
  ∃ σ',BO (k+8) f (DK ab) (c:Int) (x:Int) σ=some (match kh m c a.s n x with | some b=>(.ret,[.int .i64 (64*(b:Int)),.bool true],σ') | none=>(.exit 0,[],σ'))∧Ah σ' i (match kh m c a.s n x with | some b=>(Cg m (b:Int) (c:Int) 2 a.s 3 a.s).2 | none=>m)∧BF i σ σ'
 | n,x,0,σ,h,hA,hx,hn,hf=>by omega
 | n,x,f+1,σ,h,hA,hx,hn,hf=>by
   have hnt:=h.nt
   have w0:Ac ((x:Int)+(c:Int))=((x+c:Nat):Int):=Ad (by unfold Bd; omega)
   rw[IQ,GR]
   simp only[Option.bind_some,Nat.add_zero,Nat.zero_add,hA.X5,J2 (k+6) h,An,w0]
   by_cases q:x+c≤m.bls.length
   ·obtain ⟨n,rfl⟩:∃ n',n=n'+1:=⟨n-1,by omega⟩
    obtain ⟨σ1,e1,g1,k1⟩:=Zh (k+1) (by omega) h (x:Int) (c:Int) a.s (by unfold Bd; omega) (by unfold Bd; omega)
    simp only[decide_eq_true (show ((x+c:Nat):Int)≤((m.bls.length:Nat):Int) by omega),cond_true,hA.l1,Option.bind_some,e1,An,kh,if_pos q]
    by_cases q2:(Cg m (x:Int) (c:Int) 2 a.s 3 a.s).1=0
    ·refine ⟨σ1, ?_, ?_,k1⟩
     ·simp only[q2,beq_self_eq_true,cond_true,if_true]
      rw[show Ac ((x:Int)*64)=64*(x:Int) from by rw[Ad (by unfold Bd; omega)]; omega]
     ·simp only[q2,if_true]; exact g1
    ·rw[iP q2] at g1
     obtain ⟨σ2,e2,g2,k2⟩:=YI k hk hab hc n (x+1) f σ1 g1 (hA.Wn k1 hab) (by omega) (by omega) (by omega)
     refine ⟨σ2, ?_, ?_,k1.trans k2⟩
     ·simp only[show ((Cg m (x:Int) (c:Int) 2 a.s 3 a.s).1 == 0)=false from by simpa using q2,cond_false,if_neg q2]
      rw[show Ac ((x:Int)+1)=((x+1:Nat):Int) from Ad (by unfold Bd; omega)]
      exact e2
     ·simp only[if_neg q2]; exact g2
   ·have z:kh m c a.s n x=none:=by
     cases n with
     | zero=>rfl
     | succ n=>simp only[kh,if_neg q]
    refine ⟨σ, ?_, ?_,BF.refl _ _⟩
    ·simp only[decide_eq_false (show ¬ ((x+c:Nat):Int)≤((m.bls.length:Nat):Int) by omega),cond_false,z]
    ·simp only[z]; exact h
def Me (m:HM) (a:AS) (w:Int):PR:=
 match kh m ((w.toNat+63)/64) a.s m.bls.length 1 with
 | some b=>((64*(b:Int),true),(Cg m (b:Int) (((w.toNat+63)/64:Nat):Int) 2 a.s 3 a.s).2,a)
 | none=>((0,false),m,a)
theorem nj (k:Nat) (hk:5000≤k) (h:Ah σ i m) (hA:Cf σ ab i a) (hab:ab ∉ i.l) {w:Int} (hw:0≤w∧w≤1000):
  bR (BR (k+9) (DK ab) w σ) σ i ab (Me m a w):=by
 have hnt:=h.nt
 obtain ⟨w,rfl⟩:∃ n:Nat,w=(n:Int):=⟨w.toNat,by omega⟩
 have e1:Ac (Ac (Ac ((w:Int)+64)-1))=Ac (Ac ((w:Int)+64)-1):=by
  rw[Ad (show Bd ((w:Int)+64) by unfold Bd; omega),Ad (show Bd ((w:Int)+64-1) by unfold Bd; omega),Ad (by unfold Bd; omega)]
 have e2:Ac ((Ac (Ac ((w:Int)+64)-1)).tdiv 64)=(((w+63)/64:Nat):Int):=by
  rw[Ad (show Bd ((w:Int)+64) by unfold Bd; omega),Ad (show Bd ((w:Int)+64-1) by unfold Bd; omega),show (w:Int)+64-1=((w+63:Nat):Int) from by omega,show (((w+63:Nat):Int).tdiv 64)=(((w+63)/64:Nat):Int) from rfl]
  exact Ad (by unfold Bd; omega)
 obtain ⟨σ1,e3,g1,k1⟩:=YI k hk hab (c:=(w+63)/64) (a:=a) (by omega) m.bls.length 1 (k+8) σ h hA (by omega) (by omega) (by omega)
 rw[show ((1:Nat):Int)=1 from rfl] at e3
 rw[Kt,Iw]
 rw[if_neg (by decide)]
 unfold Me bR
 simp only[e2,e3,Int.toNat_natCast,Option.bind_some]
 cases hl:kh m ((w+63)/64) a.s m.bls.length 1 with
 | none=>
   simp only[hl] at g1 ⊢
   exact ⟨σ1,by simp only[if_true],g1,hA.Wn k1 hab,Cm.of k1⟩
 | some b=>
   simp only[hl] at g1 ⊢
   exact ⟨σ1,by simp only[show (Bk.ret=Bk.exit 0)=False from by simp,if_false,if_true,X1],g1,hA.Wn k1 hab,Cm.of k1⟩
end Go.Proofs.YtlaplcglpnlieaaGreat
end
section
namespace Go.Proofs.YtlaplcglpnlieaaGreat
open Go Go.AX
noncomputable local instance ue:AL:=As
local instance sU:Kn:=⟨true⟩
variable {σ:Aa} {i:C8} {m:HM} {ab:Nat} {a:AS}
def rR:Nat→TypeId
 | 0=>IL
 | 1=>LI
 | 2=>J9
 | 3=>R7
 | _=>F0
def Wu (n:Nat):Value:=.iface (rR n) (.agg #[])
def j0:Bh:=.cells [Wu 0,Wu 1,Wu 2,Wu 3,Wu 4] T6 true
theorem YP (k:Nat) (σ:Aa):DD (k+1) σ=some (.slice (some ⟨σ.length,0,none⟩) 5 5,σ++[j0]):=by
 rw[Pk,NO]; rfl
def rI (p w:Int):Value:=if w>32 then .func (.func LB) #[] #[] else .func (.method "dustcart/alloc.place") #[Wu p.toNat] #[]
def BG (m:HM) (a:AS) (r d c:Int) (pr:PR):(Int × Int) × HM × AS:=
 if valid r d c=true then
  (if pr.1.2=true then
   (if TS pr.2.1 (pr.1.1.tdiv 64)=a.s then
    (if (Cw pr.2.1 pr.1.1 r d c).2.1=0 then ((pr.1.1,0),(Cw pr.2.1 pr.1.1 r d c).2.2,pr.2.2) else ((0,6),(Cw pr.2.1 pr.1.1 r d c).2.2,a))
   else ((0,6),pr.2.1,a))
  else ((0,6),pr.2.1,pr.2.2))
 else ((0,2),m,a)
def pE (mm:Option (Value × Aa)) (σ:Aa) (i:C8) (ab:Nat) (r:(Int × Int) × HM × AS):Prop:=
 ∃ σ',mm=some (.tuple #[.int .i64 r.1.1,.int .i64 r.1.2],σ')∧Ah σ' i r.2.1∧Cf σ' ab i r.2.2∧Cm i ab σ σ'
theorem rU (μ:Aa) (T:TypeId) (p q x y z u w p' q' x' y' z' u' w':Value):Ke (μ++[.cells [p,q,x,y,z,u,w] T true]) μ.length 0 [p',q',x',y',z',u',w']=some (μ++[.cells [p',q',x',y',z',u',w'] T true]):=by
 simp[Ke,AE]
set_option maxHeartbeats 1000000 in
theorem mi (k:Nat) (hk:5000≤k) (h:Ah σ i m) (hA:Cf σ ab i a) (hab:ab ∉ i.l) (ho:a.ok) {r d c:Int} (pr:PR)
  (hp:valid r d c=true → ∀ σ0,Ah σ0 i m→Cf σ0 ab i a→bR (Ci (k+12) (rI a.p (words r d c)) [.pointer (DK ab),.int .i64 (words r d c)] σ0) σ0 i ab pr)
  (hI:valid r d c=true→Inv pr.2.1) (hb:valid r d c=true→pr.2.1.births<1000000) (hadr:valid r d c=true→0≤pr.1.1∧pr.1.1≤10000) (hps:valid r d c=true→pr.2.2.s=a.s):
  pE (AN (k+13) (DK ab) r d c σ) σ i ab (BG m a r d c pr):=by
 have hlt:=hA.lt
 rw[Kr,Iu]
 simp only[Ap]
 obtain ⟨μ0,hμ0⟩:∃ μ0,σ++[Bh.cells [Value.int .i64 r,.int .i64 d,.int .i64 c] Al true]=μ0:=⟨_,rfl⟩
 rw[hμ0]
 have h0:Ah μ0 i m:=hμ0 ▸ h.app _
 have A0:Cf μ0 ab i a:=hμ0 ▸ hA.app _
 have K0:Cm i ab σ μ0:=hμ0 ▸ Cm.app σ _
 have S0:μ0[σ.length]?=some (Bh.cells [Value.int .i64 r,.int .i64 d,.int .i64 c] Al true):=by rw[← hμ0]; simp
 have bx:∀ {μ:Aa},μ[σ.length]?=some (Bh.cells [Value.int .i64 r,.int .i64 d,.int .i64 c] Al true)→Ai .i64 μ σ.length 0=some r∧Ai .i64 μ σ.length 1=some d∧Ai .i64 μ σ.length 2=some c:=by
  intro μ hm; simp[Ai,Gt,hm,BE]
 obtain ⟨b0,b1,b2⟩:=bx S0
 obtain ⟨τ1,e1⟩:=Rt (k+11) r d c μ0
 simp only[ft (k+11) A0,Option.bind_some,Au,Bool.not_true,cond_false,Nat.zero_add,Nat.reduceAdd,b0,b1,b2,e1]
 unfold BG
 cases hv:valid r d c with
 | false=>
   simp only[Bool.not_false,cond_true,Bool.false_eq_true,if_false]
   exact ⟨μ0++τ1,rfl,h0.app _,A0.app _,K0.trans (Cm.app _ _)⟩
 | true=>
   have ha1:=hadr hv
   obtain ⟨τ2,e2⟩:=LD (k+10) r d c (μ0++τ1)
   have S1:(μ0++τ1)[σ.length]?=some (Bh.cells [Value.int .i64 r,.int .i64 d,.int .i64 c] Al true):=by rw[List.getElem?_append_left (Af S0)]; exact S0
   obtain ⟨c0,c1,c2⟩:=bx S1
   obtain ⟨μ2,hμ2⟩:∃ μ2,μ0++τ1++τ2=μ2:=⟨_,rfl⟩
   rw[hμ2] at e2
   have h2:Ah μ2 i m:=hμ2 ▸ (h0.app _).app _
   have A2:Cf μ2 ab i a:=hμ2 ▸ (A0.app _).app _
   have K2:Cm i ab σ μ2:=hμ2 ▸ (K0.trans (Cm.app _ _)).trans (Cm.app _ _)
   have S2:μ2[σ.length]?=some (Bh.cells [Value.int .i64 r,.int .i64 d,.int .i64 c] Al true):=by rw[← hμ2,List.getElem?_append_left (Af S1)]; exact S1
   obtain ⟨μ3,hμ3⟩:∃ μ3,μ2++[j0]=μ3:=⟨_,rfl⟩
   have e3:DD (k+12) μ2=_:=YP (k+11) μ2
   rw[hμ3] at e3
   have h3:Ah μ3 i m:=hμ3 ▸ h2.app _
   have A3:Cf μ3 ab i a:=hμ3 ▸ A2.app _
   have K3:Cm i ab σ μ3:=hμ3 ▸ K2.trans (Cm.app _ _)
   have S3:μ3[σ.length]?=some (Bh.cells [Value.int .i64 r,.int .i64 d,.int .i64 c] Al true):=by rw[← hμ3,List.getElem?_append_left (Af S2)]; exact S2
   have p0:=ho.p0
   have lp:Gt μ3 μ2.length a.p.toNat=some (Wu a.p.toNat):=by
    rw[← hμ3]; unfold j0; rw[ke]
    obtain ⟨n,hn⟩:∃ n:Nat,a.p=(n:Int):=⟨a.p.toNat,by omega⟩
    rw[hn,Int.toNat_natCast]
    match n,(show n<5 by omega) with
    | 0,_=>rfl
    | 1,_=>rfl
    | 2,_=>rfl
    | 3,_=>rfl
    | 4,_=>rfl
   have hnil:∀ (n:Nat) (K:Value→Option (Value × Aa)),nA (Wu n) K=K (Wu n):=fun _ _=>rfl
   obtain ⟨μ4,hμ4⟩:∃ μ4,μ3++[Bh.cells (a.row i.hb) AU true]=μ4:=⟨_,rfl⟩
   have h4:Ah μ4 i m:=hμ4 ▸ h3.app _
   have A4:Cf μ4 ab i a:=hμ4 ▸ A3.app _
   have K4:Cm i ab σ μ4:=hμ4 ▸ K3.trans (Cm.app _ _)
   have S4:μ4[σ.length]?=some (Bh.cells [Value.int .i64 r,.int .i64 d,.int .i64 c] Al true):=by rw[← hμ4,List.getElem?_append_left (Af S3)]; exact S3
   have W4:Cf μ4 μ3.length i a:=by unfold Cf; rw[← hμ4]; simp
   have n3:μ3.length ∉ i.l:=fun hm=>Nat.lt_irrefl _ (h3.lt _ hm)
   have ns:σ.length ∉ i.l:=fun hm=>Nat.lt_irrefl _ (h.lt _ hm)
   have lab3:=A3.lt
   have l03:=K3.len
   obtain ⟨μ5,e5,h5,A5,K5⟩:=hp hv μ4 h4 A4
   have W5:Cf μ5 μ3.length i a:=W4.Db (K5.same _ W4.lt n3 (by omega))
   have S5:μ5[σ.length]?=some (Bh.cells [Value.int .i64 r,.int .i64 d,.int .i64 c] Al true):=by rw[K5.same _ (Af S4) ns (by omega)]; exact S4
   have K05:=K4.trans K5
   simp only[Bool.not_true,cond_false,c0,c1,c2,e2,Option.bind_some,An,e3,Hu,A3.l2,Nat.zero_add,Nat.mul_one,lp,hnil]
   rw[if_pos (show 0≤a.p∧a.p<((5:Nat):Int) by omega)]
   have hsel:∀ (K:Aw→Option (Value × Aa)),((bif decide (words r d c>32) then (some (Bk.normal,[Value.func (.func LB) #[] #[]],μ3)) else (some (Bk.normal,[(Value.func (.method "dustcart/alloc.place") #[Wu a.p.toNat] #[])],μ3)):Option Aw).bind K)=K (.normal,[rI a.p (words r d c)],μ3):=by
    intro K
    unfold rI
    by_cases q:words r d c>32
    ·rw[decide_eq_true q,if_pos q]; rfl
    ·rw[decide_eq_false q,if_neg q]; rfl
   have hst:Ke (μ3++[Bh.cells [.pointer none,.int .i64 (0:Int),.int .i64 (0:Int),.int .i64 (0:Int),.int .i64 (0:Int),.int .i64 (0:Int),.int .i64 (0:Int)] AU true]) μ3.length 0 [.pointer (DZ i),.int .i64 a.s,.int .i64 a.p,.int .i64 a.c,.int .i64 a.l,.int .i64 a.oc,.int .i64 a.ol]=some μ4:=by
    rw[rU,← hμ4]; rfl
   rw[hsel]
   simp only[if_true,qE,Option.bind_some,A3.X5,A3.l1,A3.l2,A3.l3,A3.l4,A3.l5,A3.l6,hst,e5,SY]
   cases hok:pr.1.2 with
   | false=>
     simp only[Bool.not_false,cond_true,Bool.false_eq_true,if_false]
     exact ⟨μ5,rfl,h5,A5,K05⟩
   | true=>
     have wq:Ac (pr.1.1.tdiv 64)=pr.1.1.tdiv 64:=by
      rw[Int.tdiv_eq_ediv_of_nonneg ha1.1]; exact Ad (by unfold Bd; omega)
     have e6:Bx (k+12) (DZ i) (pr.1.1.tdiv 64) μ5=_:=o9 (k+9) h5 (pr.1.1.tdiv 64)
     simp only[Bool.not_true,cond_false,A5.X5,Option.bind_some,wq,e6,An,A5.l1,hps hv,if_true]
     rw[if_neg (by decide)]
     have restore:∀ {μ:Aa} {a':AS},Cf μ ab i a'→Ke μ ab 0 [.pointer (DZ i),.int .i64 a.s,.int .i64 a.p,.int .i64 a.c,.int .i64 a.l,.int .i64 a.oc,.int .i64 a.ol]=some (μ.set ab (.cells (a.row i.hb) AU true)):=fun hh=>hh.st 0 _ a rfl (by simp)
     by_cases q:TS pr.2.1 (pr.1.1.tdiv 64)=a.s
     ·obtain ⟨s0,s1,s2⟩:=bx S5
      obtain ⟨μ6,e7,h6,k6⟩:=fh k hk h5 (hI hv) (hb hv) pr.1.1 r d c (by unfold Bd; omega)
      have A6:=A5.Wn k6 hab
      have W6:Cf μ6 μ3.length i a:=W5.Wn k6 n3
      have K06:=K05.trans (Cm.of k6)
      simp only[q,beq_self_eq_true,cond_true,s0,s1,s2,Option.bind_some,e7,Ex,if_true,D0]
      by_cases q2:(Cw pr.2.1 pr.1.1 r d c).2.1=0
      ·simp only[q2,bne_self_eq_false,cond_false,if_true]
       exact ⟨μ6,rfl,h6,A6,K06⟩
      ·simp only[show ((Cw pr.2.1 pr.1.1 r d c).2.1 != 0)=true from by simpa using q2,cond_true,if_neg q2,W6.X5,W6.l1,W6.l2,W6.l3,W6.l4,W6.l5,W6.l6,Option.bind_some,restore A6]
       exact ⟨_,rfl,h6.R5 hab _,A6.put a,K06.trans (Cm.set _ _)⟩
     ·simp only[show (TS pr.2.1 (pr.1.1.tdiv 64) == a.s)=false from by simpa using q,cond_false,Option.bind_some,if_true,D0,show ((5:Int) != 0)=true from rfl,cond_true,if_neg q,W5.X5,W5.l1,W5.l2,W5.l3,W5.l4,W5.l5,W5.l6,restore A5]
      exact ⟨_,rfl,h5.R5 hab _,A5.put a,K05.trans (Cm.set _ _)⟩
theorem ow (k:Nat) (h:Ah σ i m) (s p:Int):∃ σ1,GK (k+3) (DZ i) s p σ=(if (0≤s∧s<8)∧(0≤p∧p<5) then some (.tuple #[.pointer (DK σ1.length),.int .i64 0],σ1++[Bh.cells ((⟨s,p,0,0,0,0⟩:AS).row i.hb) AU true]) else some (.tuple #[.pointer none,.int .i64 1],σ1)) ∧ ∃ τ,σ1=σ++τ:=by
 have hnb:=h.nb
 rw[Ul,Uh]
 have q0:(((m.bls.length:Nat):Int) == 0)=false:=beq_eq_false_iff_ne.2 (by omega)
 simp only[J2 k h,Option.bind_some,An,q0,cond_false]
 by_cases h1:s<0
 ·refine ⟨σ, ?_,[],by simp⟩
  simp only[decide_eq_true h1,Option.bind_some,cond_true,if_neg (show ¬ ((0≤s∧s<8)∧(0≤p∧p<5)) by omega)]
 simp only[decide_eq_false h1,Option.bind_some,cond_false]
 by_cases h2:s≥8
 ·refine ⟨σ, ?_,[],by simp⟩
  simp only[decide_eq_true h2,Option.bind_some,cond_true,if_neg (show ¬ ((0≤s∧s<8)∧(0≤p∧p<5)) by omega)]
 simp only[decide_eq_false h2,Option.bind_some,cond_false]
 by_cases h3:p<0
 ·refine ⟨σ, ?_,[],by simp⟩
  simp only[decide_eq_true h3,Option.bind_some,cond_true,if_neg (show ¬ ((0≤s∧s<8)∧(0≤p∧p<5)) by omega)]
 simp only[decide_eq_false h3,Option.bind_some,cond_false,YP,Hu]
 by_cases h4:p≥((5:Nat):Int)
 ·refine ⟨σ++[j0], ?_,[j0],rfl⟩
  simp only[decide_eq_true h4,cond_true,if_neg (show ¬ ((0≤s∧s<8)∧(0≤p∧p<5)) by omega)]
 ·refine ⟨σ++[j0], ?_,[j0],rfl⟩
  simp only[decide_eq_false h4,cond_false,if_pos (show (0≤s∧s<8)∧(0≤p∧p<5) by omega),Ap]
  rfl
theorem iL (k:Nat) (p:Option Addr) (n:Int) (σ:Aa):Ci k (.func (.method "dustcart/alloc.place") #[Wu 3] #[]) [.pointer p,.int .i64 n] σ=Ds k p n σ:=by
 simp only[Ci,Ds,Ab]; kernel_rfl
end Go.Proofs.YtlaplcglpnlieaaGreat
end
section
namespace Go.Proofs.YtlaplcglpnlieaaGreat
open Go Go.AX
noncomputable local instance ui:AL:=As
local instance sY:Kn:=⟨true⟩
variable {σ:Aa} {i:C8} {m:HM} {ab:Nat} {a:AS}
structure fj (m:HM) (a:AS) (pr:PR):Prop where
 inv:Inv pr.2.1
 inv2:Inv2 pr.2.1
 brt:pr.2.1.births=m.births
 len:pr.2.1.bls.length=m.bls.length
 adr:0≤pr.1.1∧pr.1.1≤10000
 s:pr.2.2.s=a.s
 p:pr.2.2.p=a.p
 ok:pr.2.2.ok
 no:pr.1.2=false→pr.2=(m,a)
theorem SI (m:HM) (b c x y x' y':Int):(Cg m b c x y x' y').2.births=m.births:=by
 unfold Cg
 split
 ·split <;> rfl
 ·rfl
theorem ZQ (h:Inv m) (h2:Inv2 m) {b:Nat} (s:Int):Inv (GA m b s)∧Inv2 (GA m b s)∧(GA m b s).births=m.births∧(GA m b s).bls.length=m.bls.length:=by
 have k:=Mz h h2 (b:Int) 1 1 s 0 0
 exact ⟨k.inv,k.inv2,SI _ _ _ _ _ _ _,k.len⟩
theorem eE (h:Inv m) (h2:Inv2 m) (ho:a.ok):fj m a ((0,false),m,a):=⟨h,h2,rfl,rfl,by dsimp only; omega,rfl,rfl,ho,fun _=>rfl⟩
theorem fG (h:Inv m) (h2:Inv2 m) (hl:m.bls.length≤64) (ho:a.ok) (v:Bool) {w:Int} (hw:0≤w∧w≤1000):fj m a (DS m a v w):=by
 have hc:=ho.cu v
 unfold DS
 split
 ·exact ⟨h,h2,rfl,rfl,by dsimp only; omega,gB _ _ _ _,g9 _ _ _ _,ho.put v (by omega) (by omega),fun hh=>by cases hh⟩
 ·split
  ·rename_i b hb
   have:=HW hb
   obtain ⟨k1,k2,k3,k4⟩:=ZQ (b:=b) h h2 a.s
   exact ⟨k1,k2,k3,k4,by dsimp only; omega,gB _ _ _ _,g9 _ _ _ _,ho.put v (by omega) (by omega),fun hh=>by cases hh⟩
  ·exact eE h h2 ho
theorem nr {c:Nat} {s:Int}:∀ {n x b:Nat},kh m c s n x=some b→b+c≤m.bls.length
 | 0,x,b,h=>by cases h
 | n+1,x,b,h=>by
   unfold kh at h
   split at h
   ·split at h
    ·cases h; assumption
    ·exact nr h
   ·cases h
theorem ln (h:Inv m) (h2:Inv2 m) (hl:m.bls.length≤64) (ho:a.ok) (w:Int):fj m a (Me m a w):=by
 unfold Me
 split
 ·rename_i b hb
  have:=nr hb
  have k:=Mz h h2 (b:Int) (((w.toNat+63)/64:Nat):Int) 2 a.s 3 a.s
  exact ⟨k.inv,k.inv2,SI _ _ _ _ _ _ _,k.len,by dsimp only; omega,rfl,rfl,ho,fun hh=>by cases hh⟩
 ·exact eE h h2 ho
structure ox (m:HM) (a:AS) (r:(Int × Int) × HM × AS):Prop where
 inv:Inv r.2.1
 inv2:Inv2 r.2.1
 b1:m.births≤r.2.1.births
 b2:r.2.1.births≤m.births+1
 len:r.2.1.bls.length=m.bls.length
 s:r.2.2.s=a.s
 p:r.2.2.p=a.p
 ok:r.2.2.ok
theorem kF (h:Inv m) (h2:Inv2 m) (ho:a.ok) {r d c:Int} {pr:PR} (hp:valid r d c=true→fj m a pr) (hS:valid r d c=true→Sh pr.2.1):ox m a (BG m a r d c pr):=by
 unfold BG
 split
 ·rename_i hv
  obtain ⟨k1,k2,k3,k4,k5,k6,k7,k8,k9⟩:=hp hv
  have kp:=Rb k1 k2 (hS hv) pr.1.1 r d c
  have b1:=kp.b1; have b2:=kp.b2
  split
  ·split
   ·split
    ·exact ⟨kp.inv,kp.inv2,by dsimp only; omega,by dsimp only; omega,by rw[← k4]; exact kp.len,k6,k7,k8⟩
    ·exact ⟨kp.inv,kp.inv2,by dsimp only; omega,by dsimp only; omega,by rw[← k4]; exact kp.len,rfl,rfl,ho⟩
   ·exact ⟨k1,k2,by dsimp only; omega,by dsimp only; omega,k4,rfl,rfl,ho⟩
  ·exact ⟨k1,k2,by dsimp only; omega,by dsimp only; omega,k4,k6,k7,k8⟩
 ·exact ⟨h,h2,Int.le_refl _,by dsimp only; omega,rfl,rfl,rfl,ho⟩
theorem KR {r d c:Int} (h:valid r d c=true):2≤words r d c∧words r d c≤218∧words r d c % 2=0:=by
 unfold words
 rw[h]
 simp only[cond_true]
 simp[valid] at h
 omega
theorem kP (hS:Sh m) (b c x y x' y':Int):Sh (Cg m b c x y x' y').2:=by
 have key:∀ l:List (Int × Int),l.length=m.bls.length→Sh { m with bls:=l }:=fun l hl=>by
  obtain ⟨p,q,r⟩:=hS
  exact ⟨by simp only; rw[hl]; exact p,by simp only; rw[hl]; exact q,by simp only; rw[hl]; exact r⟩
 unfold Cg
 split
 ·split
  ·exact key _ (by simp[Gx])
  ·exact hS
 ·exact hS
end Go.Proofs.YtlaplcglpnlieaaGreat
end
