/- The document's heap: looks at one object, one block, one word.; The document's heap: lists of objects, gaps, lines; words.; The document's heap: whole -/
import Derived.Test.YtjbledomkmdkmaaGreatP25
set_option linter.unusedVariables false
set_option linter.unusedSimpArgs false
set_option linter.unusedSectionVars false
section
namespace Go.Proofs.YtjbledomkmdkmaaGreat
open Go Go.AX
noncomputable local instance qRS:A9:=Aw
local instance nRS:Kn:=⟨true⟩
variable {σ:Aa} {m:HM} {t:RM} {i:RI}
structure RG (σ:Aa) (i:RI) (m:HM) (t:RM):Prop where
 at_:K5 σ i t
 sim:Zd m t
 inv:Inv m
 inv2:Inv2 m
 wl:m.wds.length=64*m.bls.length
 nb:2≤m.bls.length
 nt:m.bls.length≤64
theorem RG.app (h:RG σ i m t) (τ:Aa):RG (σ++τ) i m t:=⟨h.at_.app τ,h.sim,h.inv,h.inv2,h.wl,h.nb,h.nt⟩
theorem RG.AG {σ':Aa} (h:RG σ i m t) (hs:∀ j ∈ i.l,σ'[j]?=σ[j]?) (hl:σ.length≤σ'.length):RG σ' i m t:=⟨h.at_.AG hs hl,h.sim,h.inv,h.inv2,h.wl,h.nb,h.nt⟩
theorem RG.bn (h:RG σ i m t):t.bl.length=m.bls.length:=by rw[h.sim.bl]
theorem RG.ne (h:RG σ i m t):t.bl≠[]:=by
 intro e
 have:=h.bn
 have:=h.nb
 rw[e] at *
 simp at *
 omega
theorem RG.ol (h:RG σ i m t):t.ob.length≤2048:=by
 rw[h.sim.ob]
 have:=Wl m 0 (32*m.bls.length)
 have:=h.nt
 unfold GL FB
 rw[List.length_map]
 omega
theorem UJ (k:Nat) (h:RG σ i m t):AF (k+1) (Cq i) σ=some (.bool true,σ):=pz k h.at_ h.ne
theorem Fg.ldx {s:Ce} {l:List Int} (h:Fg σ s l) {x:Nat} (hx:x<l.length):∃ b,s.1=some ⟨b,0,none⟩∧Dg .i64 σ b x=some (l.getD x 0)∧σ[b]?=some (.cells (Bm l) As true):=by
 obtain ⟨b,c,rfl,hc⟩:=h.2.1 (fun e=>by rw[e] at hx; simp at hx)
 exact ⟨b,rfl,Aee hc hx,hc⟩
structure Found (σ:Aa) (i:RI) (m:HM) (t:RM) (a:Int) (x j b:Nat) (p:Ce × Ce):Prop where
 idx:tH t.ob a=(x:Int)
 idx':UI t.ob a=some x
 xl:x<t.ob.length
 st:Start m j
 e:a=((2*j:Nat):Int)
 all:(FB m)[x]?=some j
 ob:t.ob[x]?=some (Cs m j)
 os:i.os.1=some ⟨b,0,none⟩
 cell:σ[b]?=some (.cells (Eb t.ob i.om) Ac true)
 om:i.om[x]?=some p
 ld:Ain σ b x (Cs m j) p
 rs:Fg σ p.1 (Cs m j).refs
 ds:Fg σ p.2 (Cs m j).data
theorem RG.found (h:RG σ i m t) {a:Int} (hh:Ea m a=true):∃ x j b p,Found σ i m t a x j b p:=by
 obtain ⟨h1,h2⟩:=h.sim.idx a
 cases hq:UI t.ob a with
 | none=>rw[h2 hq] at hh; cases hh
 | some x=>
   obtain ⟨q1,j,q2,q3,_,q5,q6⟩:=h1 x hq
   obtain ⟨b,e1,e2,L⟩:=h.at_.obj q1
   have hom:x<i.om.length:=by rw[h.at_.ol]; exact q1
   have eo:t.ob[x]=Cs m j:=by rw[List.getElem?_eq_getElem q1] at q6; exact Option.some.inj q6
   have L:=L hom
   rw[eo] at L
   obtain ⟨n1,n2⟩:=h.at_.inn x q1 hom
   rw[eo] at n1 n2
   exact ⟨x,j,b,i.om[x],by unfold tH; rw[hq],hq,q1,q2,q3,q5,q6,e1,e2,List.getElem?_eq_getElem hom,L,n1,n2⟩
theorem RG.lost (h:RG σ i m t) {a:Int} (hh:Ea m a=false):tH t.ob a = -1∧UI t.ob a=none:=by
 have:=h.sim.has a
 rw[hh] at this
 unfold tH
 cases hq:UI t.ob a with
 | none=>exact ⟨rfl,rfl⟩
 | some x=>rw[hq] at this; cases this
theorem Y1 (k:Nat) (hk:5000≤k) (h:RG σ i m t) (a:Int):AN (k+2) (Cq i) a σ=some (.int .i64 (tH t.ob a),σ):=sx k hk h.at_ h.ne (by have:=h.ol; omega) a
theorem jn (k:Nat) (hk:5000≤k) (h:RG σ i m t) (a:Int):BW (k+3) (Cq i) a σ=some (.int .i64 (if Ea m a then 0 else 4),σ):=by
 rw[Abt k hk h.at_ h.ne (by have:=h.ol; omega) a,h.sim.has]
theorem Ag5 (k:Nat) (hk:5000≤k) (h:RG σ i m t) (a:Int):HV (k+3) (Cq i) a σ=some (.bool (Ea m a),σ):=by
 rw[eg,RP]
 try simp only[sw,Ad,Af,Ae]
 simp only[Y1 k hk h a,Option.bind_some,Aj]
 cases hh:Ea m a with
 | true=>
   obtain ⟨x,j,b,p,F⟩:=h.found hh
   rw[F.idx,decide_eq_true (by omega)]
 | false=>rw[(h.lost hh).1]; rfl
theorem ne4:((4:Int) != 0)=true:=rfl
theorem uh {σ:Aa} {cs vs:List Value} {T:TypeId} (h:vs.length=cs.length):XJ (σ++[.cells cs T true]) σ.length 0 vs=some (σ++[.cells vs T true]):=by
 simp only[XJ,List.getElem?_concat_length]
 rw[if_pos (by omega)]
 simp[AL,h]
theorem Iv (σ:Aa) (T:TypeId) (a b c x y z:Value):XJ (σ++[.cells [a,b,c] T true]) σ.length 0 [x,y,z]=some (σ++[.cells [x,y,z] T true]):=uh rfl
theorem Afe (σ:Aa) (T:TypeId) (a b c d e f g h x y z u v w p q:Value):XJ (σ++[.cells [a,b,c,d,e,f,g,h] T true]) σ.length 0 [x,y,z,u,v,w,p,q]=some (σ++[.cells [x,y,z,u,v,w,p,q] T true]):=uh rfl
def yj (m:HM) (j:Nat):Value:=.agg #[.int .i64 (A5 m j),.int .i64 (BN m j),.int .i64 (Fm m j)]
def yi:Value:=.agg #[.int .i64 0,.int .i64 0,.int .i64 0]
theorem Abp (k:Nat) (hk:5000≤k) (h:RG σ i m t) (a:Int):∃ τ,G6 (k+4) (Cq i) a σ=some (.tuple #[if Ea m a then yj m (a.toNat/2) else yi,.int .i64 (if Ea m a then 0 else 4)],σ++τ):=by
 rw[aQ,OU]
 try simp only[sw,Ad,Af,Ae]
 simp only[AM]
 have h1:=h.app [A6.cells [.int .i64 (0:Int),.int .i64 (0:Int),.int .i64 (0:Int)] Ag true]
 have hix:=Y1 (k+1) (by omega) h1 a
 simp only[jn k hk h1 a,Option.bind_some,Aj]
 have hN:∀ x y z:Value,ZA (σ++[A6.cells [x,y,z] Ag true]) σ.length 0 3=some [x,y,z]:=fun x y z=>by simp[ZA]
 cases hh:Ea m a with
 | true=>
   obtain ⟨x,j,b,p,F⟩:=h1.found hh
   have hx:=F.xl
   refine ⟨[A6.cells [.int .i64 (A5 m j),.int .i64 (BN m j),.int .i64 (Fm m j)] Ag true], ?_⟩
   simp only[if_true,bne_self_eq_false,cond_false,Option.bind_some,Nat.zero_add,h1.at_.GJ,hix,Aj,F.idx]
   rw[if_pos (by omega)]
   simp only[F.os,Option.bind_some,Int.toNat_natCast,Nat.zero_add,Nat.add_assoc,Nat.reduceAdd,F.ld.l2,F.ld.l3,F.ld.l4,Iv,hN,Og]
   rw[F.e,Int.toNat_natCast,show 2*j/2=j from by omega]; rfl
 | false=>
   refine ⟨[A6.cells [.int .i64 0,.int .i64 0,.int .i64 0] Ag true], ?_⟩
   simp only[Bool.false_eq_true,if_false,ne4,cond_true,Iv,Option.bind_some,hN,Og]
   rfl
def Y2 (m:HM) (a x:Int) (data:Bool):Int × Int:=if (DG m a x data).2=0 then (m.wds.getD (DG m a x data).1.toNat 0,0) else (0,(DG m a x data).2)
theorem gJ (k:Nat) (h:RG σ i m t):CF (k+2) (Cq i) σ=some (.int .i64 ((m.bls.length:Nat):Int),σ):=by
 rw[Zz,N4]
 try simp only[sw,Ad,Af,Ae]
 simp only[UJ k h,Option.bind_some,Ar,Bool.not_true,cond_false,Nat.zero_add,Nat.add_zero,h.at_.K2,h.bn]
def CE (m:HM) (b:Int):Int:=if 0≤b∧b<(m.bls.length:Int) then (m.bls.getD b.toNat (0,0)).1 else -1
def Rl (m:HM) (b:Int):Int:=if 0≤b∧b<(m.bls.length:Int) then (m.bls.getD b.toNat (0,0)).2 else -1
theorem kF (k:Nat) (h:RG σ i m t) (b:Int):Cy (k+2) (Cq i) b σ=some (.int .i64 (CE m b),σ):=by
 rw[aS,OW]
 try simp only[sw,Ad,Af,Ae]
 simp only[UJ k h,Option.bind_some,Ar,Bool.not_true,cond_false]
 unfold CE
 by_cases h0:b<0
 ·rw[decide_eq_true h0,if_neg (by omega)]
  simp only[cond_true,Option.bind_some]
 rw[decide_eq_false h0]
 simp only[cond_false,Option.bind_some,Nat.zero_add,Nat.add_zero,h.at_.K2,h.bn]
 by_cases h1:b≥(m.bls.length:Int)
 ·have q:(0≤b∧b<(m.bls.length:Int))=False:=eq_false (by omega)
  simp only[decide_eq_true h1,q,if_false,cond_true]
 rw[decide_eq_false h1,if_pos (by omega),if_pos (by omega)]
 obtain ⟨n,rfl⟩:∃ n:Nat,b=(n:Int):=⟨b.toNat,by omega⟩
 obtain ⟨q,e,l0,l1,_⟩:=ZF h.at_.bl (x:=n) (by rw[h.bn]; omega)
 rw[h.sim.bl] at l0
 simp only[cond_false,e,Option.bind_some,Int.toNat_natCast,Nat.zero_add,l0]
theorem Abq (k:Nat) (h:RG σ i m t) (b:Int):Fu (k+2) (Cq i) b σ=some (.int .i64 (Rl m b),σ):=by
 rw[aR,OV]
 try simp only[sw,Ad,Af,Ae]
 simp only[UJ k h,Option.bind_some,Ar,Bool.not_true,cond_false]
 unfold Rl
 by_cases h0:b<0
 ·rw[decide_eq_true h0,if_neg (by omega)]
  simp only[cond_true,Option.bind_some]
 rw[decide_eq_false h0]
 simp only[cond_false,Option.bind_some,Nat.zero_add,Nat.add_zero,h.at_.K2,h.bn]
 by_cases h1:b≥(m.bls.length:Int)
 ·have q:(0≤b∧b<(m.bls.length:Int))=False:=eq_false (by omega)
  simp only[decide_eq_true h1,q,if_false,cond_true]
 rw[decide_eq_false h1,if_pos (by omega),if_pos (by omega)]
 obtain ⟨n,rfl⟩:∃ n:Nat,b=(n:Int):=⟨b.toNat,by omega⟩
 obtain ⟨q,e,l0,l1,_⟩:=ZF h.at_.bl (x:=n) (by rw[h.bn]; omega)
 rw[h.sim.bl] at l1
 simp only[cond_false,e,Option.bind_some,Int.toNat_natCast,Nat.zero_add,l1]
end Go.Proofs.YtjbledomkmdkmaaGreat
end
section
namespace Go.Proofs.YtjbledomkmdkmaaGreat
open Go Go.AX
noncomputable local instance qRT:A9:=Aw
local instance nRT:Kn:=⟨true⟩
variable {σ:Aa} {m:HM} {t:RM} {i:RI}
theorem jl (k:Nat) (a b c:Int) (σ:Aa):mn (JC (k+1) a b c σ) σ (.bool (valid a b c)):=by
 simp only[mn,kc,Xt,AM,BJ,Nat.zero_add,List.getElem?_cons_zero,List.getElem?_cons_succ,Option.bind_some,Aj,vN,sw,Ad,Af,Ae]
 by_cases hA:a<0∨a>15∨b<0∨b>200
 ·have h1:(bif bif bif decide (a<0) then true else decide (a>15) then true else decide (b<0) then true else decide (b>200))=true:=by
   simp[Bool.cond_eq_ite]; omega
  have h2:valid a b c=false:=by simp[valid]; omega
  rw[h1,h2]
  exact ⟨_,rfl⟩
 ·have h1:(bif bif bif decide (a<0) then true else decide (a>15) then true else decide (b<0) then true else decide (b>200))=false:=by
   simp[Bool.cond_eq_ite]; omega
  rw[h1]
  simp only[cond_false]
  by_cases h0:c=0
  ·subst h0
   have h2:valid a b 0=true:=by simp[valid]; omega
   rw[h2]
   exact ⟨_,rfl⟩
  have e0:(c == 0)=false:=by simpa using h0
  by_cases h3:c=3
  ·subst h3
   have h2:valid a b 3=true:=by simp[valid]; omega
   rw[h2]
   exact ⟨_,rfl⟩
  have e3:(c == 3)=false:=by simpa using h3
  simp only[e0,e3,cond_false,Option.bind_some,if_true,Ajr]
  by_cases h4:c=1
  ·subst h4
   have h2:valid a b 1=decide (a≥1):=by rw[valid,decide_eq_decide]; simp; omega
   rw[h2]
   simp only[BEq.rfl,cond_true,BJ,List.getElem?_cons_zero,Option.bind_some,Aj]
   exact ⟨_,rfl⟩
  have e4:(c == 1)=false:=by simpa using h4
  by_cases h5:c=2
  ·subst h5
   have h2:valid a b 2=decide (a≥2):=by rw[valid,decide_eq_decide]; simp; omega
   rw[h2]
   simp only[e4,cond_false,BEq.rfl,cond_true,BJ,List.getElem?_cons_zero,Option.bind_some,Aj]
   exact ⟨_,rfl⟩
  have e5:(c == 2)=false:=by simpa using h5
  have h2:valid a b c=false:=by simp[valid]; omega
  simp only[e4,e5,cond_false,h2]
  exact ⟨_,rfl⟩
theorem Lf (k:Nat) (a b c:Int) (σ:Aa):mn (CG (k+2) a b c σ) σ (.int .i64 (words a b c)):=by
 unfold mn
 rw[ke,Xu]
 try simp only[sw,Ad,Af,Ae]
 simp only[AM,BJ,Nat.zero_add,List.getElem?_cons_zero,List.getElem?_cons_succ,Option.bind_some,Aj]
 rw[(jl _ _ _ _ _).eq]
 simp only[Option.bind_some,Ar,GK,List.getElem?_cons_zero,List.getElem?_cons_succ,Aj]
 unfold words
 rcases Bool.eq_false_or_eq_true (valid a b c) with hv | hv
 rotate_left
 ·simp only[hv,Bool.not_false,cond_true,cond_false,List.append_assoc]
  exact ⟨_,rfl⟩
 ·simp only[hv,Bool.not_true,cond_true,cond_false,List.append_assoc]
  simp[valid] at hv
  simp only[show ((2:Int)=0)=False from by simp,if_false]
  refine ⟨_,congrArg some (Prod.ext (congrArg (Value.int .i64) ?_) rfl)⟩
  simp only[Cf]
  have e1:IntKind.i64.wrap (2+a)=2+a:=by rw[IntKind.wrap_i64]; omega
  have e2:IntKind.i64.wrap (2+a+b)=2+a+b:=by rw[IntKind.wrap_i64]; omega
  rw[e1,e2,Int.tmod_eq_emod_of_nonneg (by omega),IntKind.wrap_i64]
  omega
theorem WR {E:TypeId} {s by_:Nat} {z:Value} (hs:IW P E=some s) (hb:bytesOf P E=some by_) (hz:FT P E=some z) (hz1:Hb z=false) (hz2:z.cells.size=s) (hs0:0<s) (hb0:0<by_) (hb1:by_≤1000)
  (σ τ:Aa) (sl:Ce) (n:Nat) (row:List Value) (n' c:Nat) (row':List Value) (T:TypeId) (hn:n+n'≤1000000) (hn0:0<n') (hr:row'.length=n'*s) (hsl:EM E s (σ++τ) sl n row) (hbh:∀ a,sl.1=some a→σ.length≤a.block):
  ∃ s' τ',B9 P E sl (some ⟨(σ++τ).length,0,none⟩,n',c) (σ++τ++[.cells row' T true])=some (s',σ++τ')∧EM E s (σ++τ') s' (n+n') (row++row')∧(∀ a,s'.1=some a→σ.length≤a.block):=by
 obtain ⟨s',σ',e,g,h⟩:=cN hs hb hz hz1 hz2 hs0 hb0 hb1 (σ++τ) sl n row n' c row' T hn hn0 hr hsl
 obtain ⟨⟨τ',rfl⟩,h2⟩:=g.behind hbh
 exact ⟨s',τ',e,h,h2⟩
theorem EM.ints {lo:Nat} {s:Ce} {l:List Int} (h:EM As 1 σ s l.length (Bm l)) (hl:∀ a,s.1=some a→lo≤a.block) (hne:l=[]→s=(none,0,0)):Ff lo σ s l:=by
 by_cases e:l=[]
 ·exact .inl ⟨e,hne e⟩
 ·rcases h with ⟨h1,_,_⟩ | ⟨b,rfl,_,_,hc⟩
  ·exact absurd (List.length_eq_zero_iff.1 h1) e
  ·exact .inr ⟨b,hl _ rfl,rfl,e,hc⟩
theorem xF (σ τ:Aa) (s:Ce) (l:List Int) (x:Int) (hl:l.length≤900000) (hs:Ff σ.length (σ++τ) s l):
  ∃ s' τ',B9 P As s (some ⟨(σ++τ).length,0,none⟩,1,1) (σ++τ++[.cells [.int .i64 x] As true])=some (s',σ++τ')∧Ff σ.length (σ++τ') s' (l++[x]):=by
 obtain ⟨s',τ',e,h1,h2⟩:=WR sz3 by3 zz3 rfl rfl (by decide) (by decide) (by decide) σ τ s l.length (Bm l) 1 1 [.int .i64 x] As (by omega) (by decide) rfl hs.sl (fun a ha=>(hs.ge a ha).1)
 refine ⟨s',τ',e,EM.ints ?_ h2 (fun e=>by simp at e)⟩
 rw[UF,List.length_append]
 exact h1
theorem RG.drop (h:RG σ i m t) {x:Nat} (hx:x<t.ob.length):∃ j,(FB m)[x]?=some j∧x<(FB m).length∧Start m j∧t.ob[x]?=some (Cs m j):=by
 have hl:t.ob.length=(FB m).length:=by rw[h.sim.ob]; simp[GL]
 have hx':x<(FB m).length:=by omega
 refine ⟨(FB m)[x],List.getElem?_eq_getElem hx',hx',Ew.1 (List.getElem_mem hx'), ?_⟩
 rw[h.sim.ob]
 unfold GL
 rw[List.getElem?_map,List.getElem?_eq_getElem hx']; rfl
theorem RG.Akc (h:RG σ i m t):t.ob.length=(FB m).length:=by rw[h.sim.ob]; simp[GL]
structure At (σ:Aa) (i:RI) (m:HM) (t:RM) (x j b:Nat) (p:Ce × Ce):Prop where
 st:Start m j
 all:(FB m)[x]?=some j
 xl:x<(FB m).length
 os:i.os.1=some ⟨b,0,none⟩
 cell:σ[b]?=some (.cells (Eb t.ob i.om) Ac true)
 om:i.om[x]?=some p
 ld:Ain σ b x (Cs m j) p
 lt:j<2048
 dr:(FB m).drop x=j::(FB m).drop (x+1)
theorem RG.ath (h:RG σ i m t) {x:Nat} (hx:x<t.ob.length):∃ j b p,At σ i m t x j b p:=by
 obtain ⟨j,h1,h2,h3,h4⟩:=h.drop hx
 obtain ⟨b,e1,e2,L⟩:=h.at_.obj hx
 have hom:x<i.om.length:=by rw[h.at_.ol]; exact hx
 have eo:t.ob[x]=Cs m j:=by rw[List.getElem?_eq_getElem hx] at h4; exact Option.some.inj h4
 have L:=L hom
 rw[eo] at L
 have:=h3.1
 have:=h.nt
 refine ⟨j,b,i.om[x],h3,h1,h2,e1,e2,List.getElem?_eq_getElem hom,L,by omega, ?_⟩
 rw[List.drop_eq_getElem_cons h2]
 rw[List.getElem?_eq_getElem h2] at h1
 rw[Option.some.inj h1]
def inB (L:List Nat) (b:Int):List Nat:=L.filter fun j=>decide (((2*j/64:Nat):Int)=b)
theorem VT (k:Nat) (h:RG σ i m t) (bk:Int):∀ (n x f:Nat) (τ:Aa) (s:Ce),x+n=t.ob.length→Ff σ.length (σ++τ) s (EU (inB ((FB m).take x) bk))→n<f →
  ∃ τ' s',Eh (k+1) f (Cq i) bk s (x:Int) (σ++τ)=some (.exit 0,[.slice s'.1 s'.2.1 s'.2.2],σ++τ')∧Ff σ.length (σ++τ') s' (EU (inB (FB m) bk))
 | 0,x,0,τ,s,hx,hs,hf=>by omega
 | 0,x,f+1,τ,s,hx,hs,hf=>by
   have ha:=h.Akc
   have hg:=h.app τ
   rw[Ip,Fy]
   try simp only[sw,Ad,Af,Ae]
   have q:decide ((x:Int)<((t.ob.length:Nat):Int))=false:=decide_eq_false (by omega)
   rw[List.take_of_length_le (by omega)] at hs
   exact ⟨τ,s,by simp only[UJ k hg,Option.bind_some,Ar,cond_true,Nat.zero_add,hg.at_.GJ,q,cond_false],hs⟩
 | n+1,x,0,τ,s,hx,hs,hf=>by omega
 | n+1,x,f+1,τ,s,hx,hs,hf=>by
   have hol:=h.ol
   have hxl:x<t.ob.length:=by omega
   have hg:=h.app τ
   obtain ⟨j,b,p,A⟩:=hg.ath hxl
   have hjl:=A.lt
   have q:decide ((x:Int)<((t.ob.length:Nat):Int))=true:=decide_eq_true (by omega)
   have qx:(0≤(x:Int)∧(x:Int)<((t.ob.length:Nat):Int))=True:=eq_true (by omega)
   have w1:Cf ((x:Int)+1)=((x+1:Nat):Int):=Ak (by unfold AU; omega)
   have w2:Cf ((((2*j:Nat):Int)).tdiv 64)=((2*j/64:Nat):Int):=by rw[show (((2*j:Nat):Int)).tdiv 64=((2*j/64:Nat):Int) from rfl]; exact Ak (by unfold AU; omega)
   have l0:Dg .i64 (σ++τ) b (x*8)=some ((2*j:Nat):Int):=A.ld.l0
   have htk:inB ((FB m).take (x+1)) bk=inB ((FB m).take x) bk++(if ((2*j/64:Nat):Int)=bk then [j] else []):=by
    rw[List.take_add_one,A.all]
    unfold inB
    rw[List.filter_append]
    congr 1
    show List.filter _ [j]=_
    by_cases e:((2*j/64:Nat):Int)=bk
    ·rw[if_pos e,List.filter_cons,if_pos (decide_eq_true e),List.filter_nil]
    ·rw[if_neg e,List.filter_cons,if_neg (by rw[decide_eq_true_eq]; exact e),List.filter_nil]
   by_cases e:((2*j/64:Nat):Int)=bk
   ·obtain ⟨s1,τ1,e1,i1⟩:=xF σ τ s _ ((2*j:Nat):Int) (by
     have:=List.length_filter_le (fun j=>decide (((2*j/64:Nat):Int)=bk)) ((FB m).take x)
     simp[EU,inB] at this ⊢; omega) hs
    have e1':B9 P As (s.1,s.2.1,s.2.2) (some ⟨(σ++τ).length,0,none⟩,1,1) (σ++τ++[.cells [.int .i64 ((2*j:Nat):Int)] As true])=_:=e1
    obtain ⟨τ2,s2,e2,i2⟩:=VT k h bk n (x+1) f τ1 s1 (by omega) (by
     rw[htk,if_pos e]
     simpa [EU] using i1) (by omega)
    refine ⟨τ2,s2, ?_,i2⟩
    rw[Ip,Fy]
    try simp only[sw,Ad,Af,Ae]
    simp only[UJ k hg,Option.bind_some,Ar,cond_true,Nat.zero_add,Nat.add_zero,hg.at_.GJ,q,qx,if_true,A.os,Int.toNat_natCast,l0,show ((64:Int)=0)=False from by decide,if_false,w2,beq_iff_eq.2 e,AM,e1',Ps,w1]
    exact e2
   ·obtain ⟨τ2,s2,e2,i2⟩:=VT k h bk n (x+1) f τ s (by omega) (by
     rw[htk,if_neg e,List.append_nil]
     exact hs) (by omega)
    refine ⟨τ2,s2, ?_,i2⟩
    rw[Ip,Fy]
    try simp only[sw,Ad,Af,Ae]
    simp only[UJ k hg,Option.bind_some,Ar,cond_true,Nat.zero_add,Nat.add_zero,hg.at_.GJ,q,qx,if_true,A.os,Int.toNat_natCast,l0,show ((64:Int)=0)=False from by decide,if_false,w2,beq_eq_false_iff_ne.2 e,cond_false,Ps,w1]
    exact e2
def Mz (m:HM) (b:Int):List Nat:=if 0≤b∧b<(m.bls.length:Int) then FP m (32*b.toNat) 32 else []
theorem Aja (m:HM) (b:Int):inB (FB m) b=Mz m b:=by
 unfold Mz
 split
 ·rename_i hb
  refine gV ((SI m).filter _) ((List.pairwise_lt_range' (step:=1) (by decide)).filter _) fun a=>?_
  unfold inB
  rw[List.mem_filter,Ew,decide_eq_true_eq]
  show _↔a ∈ FP m (32*b.toNat) 32
  rw[VN]
  constructor
  ·rintro ⟨h1,h2⟩; exact ⟨by omega,by omega,h1.2⟩
  ·rintro ⟨h1,h2,h3⟩; exact ⟨⟨by omega,h3⟩,by omega⟩
 ·rename_i hb
  unfold inB
  rw[List.filter_eq_nil_iff]
  intro j hj
  have:=(Ew.1 hj).1
  rw[decide_eq_true_eq]
  omega
theorem vR (k:Nat) (hk:5000≤k) (h:RG σ i m t) (b:Int):∃ τ s,Ha (k+2) (Cq i) b σ=some (.slice s.1 s.2.1 s.2.2,σ++τ)∧Ff σ.length (σ++τ) s (EU (Mz m b)):=by
 have hol:=h.ol
 obtain ⟨τ,s,e,hs⟩:=VT k h b t.ob.length 0 (k+1) [] (none,0,0) (by omega) (.inl ⟨rfl,rfl⟩) (by omega)
 rw[List.append_nil,show ((0:Nat):Int)=0 from rfl] at e
 rw[Aja] at hs
 refine ⟨τ,s, ?_,hs⟩
 rw[Yg,Mo]
 try simp only[sw,Ad,Af,Ae]
 simp only[e,Option.bind_some,if_true,Ps]
end Go.Proofs.YtjbledomkmdkmaaGreat
end
section
namespace Go.Proofs.YtjbledomkmdkmaaGreat
open Go Go.AX
noncomputable local instance qRU:A9:=Aw
local instance nRU:Kn:=⟨true⟩
variable {σ:Aa} {m:HM} {t:RM} {i:RI}
theorem jj (h:RG σ i m t) {b:Nat} (hb:b<m.bls.length):∃ q,i.bs.1=some ⟨q,0,none⟩∧Dg .i64 σ q (b*2)=some (m.bls.getD b (0,0)).1∧Dg .i64 σ q (b*2+1)=some (m.bls.getD b (0,0)).2∧σ[q]?=some (.cells (Dd m.bls) Am true):=by
 obtain ⟨q,e,l0,l1,hc⟩:=ZF h.at_.bl (x:=b) (by rw[h.bn]; exact hb)
 rw[h.sim.bl] at l0 l1 hc
 exact ⟨q,e,l0,l1,hc⟩
theorem jh (k:Nat) (h:RG σ i m t) {b:Nat} (hb:b<m.bls.length) (hst:(m.bls.getD b (0,0)).1=2):∀ (f n:Nat),m.bls.length≤b+n+f→n≤m.bls.length→DR k (f+1) (Cq i) (b:Int) (n:Int) σ=some (.exit 0,[.int .i64 (Lz m b f n:Int)],σ)
 | 0,n,h1,h2=>by
   have hnt:=h.nt
   rw[NX,I7]
   try simp only[sw,Ad,Af,Ae]
   rw[Lz]
   have w:Cf ((b:Int)+(n:Int))=((b+n:Nat):Int):=by rw[Ak (by unfold AU; omega)]; omega
   have q:decide (((b+n:Nat):Int)<((m.bls.length:Nat):Int))=false:=decide_eq_false (by omega)
   simp only[Option.bind_some,Nat.zero_add,Nat.add_zero,h.at_.K2,h.bn,w,q,cond_false]
 | f+1,n,h1,h2=>by
   have hnt:=h.nt
   rw[NX,I7]
   try simp only[sw,Ad,Af,Ae]
   rw[Lz]
   have w:Cf ((b:Int)+(n:Int))=((b+n:Nat):Int):=by rw[Ak (by unfold AU; omega)]; omega
   have w1:Cf ((n:Int)+1)=((n+1:Nat):Int):=Ak (by unfold AU; omega)
   simp only[Option.bind_some,Nat.zero_add,Nat.add_zero,h.at_.K2,h.bn,w,hst,true_and]
   by_cases hc:b+n<m.bls.length
   ·obtain ⟨q,e,l0,_,_⟩:=jj h hc
    have q1:decide (((b+n:Nat):Int)<((m.bls.length:Nat):Int))=true:=decide_eq_true (by omega)
    have qx:(0≤((b+n:Nat):Int)∧((b+n:Nat):Int)<((m.bls.length:Nat):Int))=True:=eq_true (by omega)
    simp only[q1,cond_true,qx,if_true,e,Option.bind_some,Int.toNat_natCast,Nat.zero_add,l0]
    by_cases h3:(m.bls.getD (b+n) (0,0)).1=3
    ·rw[if_pos ⟨hc,h3⟩,beq_iff_eq.2 h3]
     simp only[cond_true,w1]
     exact jh k h hb hst f (n+1) (by omega) (by omega)
    ·rw[if_neg (fun h=>h3 h.2),beq_eq_false_iff_ne.2 h3]
     simp only[cond_false]
   ·have q1:decide (((b+n:Nat):Int)<((m.bls.length:Nat):Int))=false:=decide_eq_false (by omega)
    have qn:(b+n<m.bls.length∧(m.bls.getD (b+n) (0,0)).1=3)=False:=eq_false (fun h=>hc h.1)
    simp only[q1,cond_false,Option.bind_some,qn,if_false]
def uq (m:HM) (b:Nat):Nat:=if (m.bls.getD b (0,0)).1=1 then 1 else if (m.bls.getD b (0,0)).1=2 then Ok m b else 0
theorem Abr (k:Nat) (hk:100≤k) (h:RG σ i m t) {b:Nat} (hb:b<m.bls.length):G7 (k+1) (Cq i) (b:Int) σ=some (.int .i64 (uq m b:Int),σ):=by
 have hnt:=h.nt
 obtain ⟨q,e,l0,_,_⟩:=jj h hb
 have qx:(0≤(b:Int)∧(b:Int)<((m.bls.length:Nat):Int))=True:=eq_true (by omega)
 rw[aT,OX]
 try simp only[sw,Ad,Af,Ae]
 simp only[Option.bind_some,Nat.zero_add,Nat.add_zero,h.at_.K2,h.bn,qx,if_true,e,Int.toNat_natCast,l0]
 unfold uq
 by_cases h1:(m.bls.getD b (0,0)).1=1
 ·rw[if_pos h1,beq_iff_eq.2 h1]; rfl
 rw[if_neg h1,beq_eq_false_iff_ne.2 h1]
 by_cases h2:(m.bls.getD b (0,0)).1=2
 ·rw[if_pos h2]
  have e1:=jh k h hb h2 (k-1) 1 (by omega) (by omega)
  rw[show k-1+1=k from by omega] at e1
  have e1':DR k k (Cq i) (b:Int) 1 σ=_:=e1
  simp only[h2,bne_self_eq_false,cond_false,e1',Option.bind_some,if_true,FR]
  rw[gX m b (k-1) m.bls.length 1 (by omega) (by omega)]; rfl
 ·rw[if_neg h2]
  simp only[cond_false,bne_iff_ne.2 h2,cond_true]
  rfl
theorem mj (r d k:Int):0≤words r d k∧words r d k≤218:=UO r d k
theorem pq (k:Nat) (r d c:Int) (σ:Aa):∃ τ,Fq (k+3) r d c σ=some (.int .i64 ((words r d c+63).tdiv 64),σ++τ):=by
 obtain ⟨τ,e⟩:=Lf k r d c (σ++[A6.cells [.int .i64 r,.int .i64 d,.int .i64 c] Ag true])
 have hw:=mj r d c
 refine ⟨[A6.cells [.int .i64 r,.int .i64 d,.int .i64 c] Ag true]++τ, ?_⟩
 rw[mH,Zn]
 try simp only[sw,Ad,Af,Ae]
 simp only[AM,BJ,Nat.zero_add,Nat.reduceAdd,List.getElem?_cons_zero,List.getElem?_cons_succ,Option.bind_some,Aj,e,show ((64:Int)=0)=False from by decide,if_false]
 have w1:Cf (words r d c+64)=words r d c+64:=Ak (by unfold AU; omega)
 have w2:Cf (words r d c+64-1)=words r d c+63:=by rw[Ak (by unfold AU; omega)]; omega
 obtain ⟨n,hn⟩:∃ n:Nat,words r d c+63=(n:Int):=⟨(words r d c+63).toNat,by omega⟩
 have w3:Cf ((words r d c+63).tdiv 64)=(words r d c+63).tdiv 64:=by
  rw[hn,show ((n:Int)).tdiv 64=((n/64:Nat):Int) from rfl]; exact Ak (by unfold AU; omega)
 rw[w1,w2,w3,List.append_assoc]
theorem kE (k:Nat) (r d c:Int) (σ:Aa):∃ τ,Fk (k+3) r d c σ=some (.bool (decide (words r d c>32)),σ++τ):=by
 obtain ⟨τ,e⟩:=Lf k r d c (σ++[A6.cells [.int .i64 r,.int .i64 d,.int .i64 c] Ag true])
 refine ⟨[A6.cells [.int .i64 r,.int .i64 d,.int .i64 c] Ag true]++τ, ?_⟩
 rw[jZ,Xs]
 try simp only[sw,Ad,Af,Ae]
 simp only[AM,BJ,Nat.zero_add,Nat.reduceAdd,List.getElem?_cons_zero,List.getElem?_cons_succ,Option.bind_some,Aj,e]
 rw[List.append_assoc]
theorem Md {q:Nat} {x y z:Int} {T:TypeId} (h:σ[q]?=some (.cells [.int .i64 x,.int .i64 y,.int .i64 z] T true)):Dg .i64 σ q 0=some x∧Dg .i64 σ q 1=some y∧Dg .i64 σ q 2=some z:=by
 refine ⟨?_, ?_, ?_⟩ <;> simp[Dg,Gi,h,Ml]
theorem WS (k:Nat) (h:RG σ i m t) (a but:Int) (ha:0≤a∧a<4096) {q:Nat} {r d c:Int} (hq:σ[q]?=some (.cells [.int .i64 r,.int .i64 d,.int .i64 c] Ag true)):∀ (n x f:Nat) (τ:Aa),x+n=t.ob.length→n<f →
  ∃ τ',Dz (k+2) f (Cq i) a but q (x:Int) (σ++τ)=some (if pr (t.ob.drop x) a (words r d c) but then (.ret,[.int .i64 8],σ++τ') else (.exit 0,[],σ++τ'))
 | 0,x,0,τ,hx,hf=>by omega
 | 0,x,f+1,τ,hx,hf=>by
   have hg:=h.app τ
   rw[PD,Jn]
   try simp only[sw,Ad,Af,Ae]
   rw[List.drop_eq_nil_of_le (by omega)]
   have q:decide ((x:Int)<((t.ob.length:Nat):Int))=false:=decide_eq_false (by omega)
   exact ⟨τ,by simp only[Option.bind_some,Nat.zero_add,hg.at_.GJ,q,cond_false,pr,List.any_nil,Bool.false_eq_true,if_false]⟩
 | n+1,x,0,τ,hx,hf=>by omega
 | n+1,x,f+1,τ,hx,hf=>by
   have hol:=h.ol
   have hxl:x<t.ob.length:=by omega
   have hg:=h.app τ
   obtain ⟨j,b,p,A⟩:=hg.ath hxl
   have hz:=h.inv.size A.st
   have hjl:=A.lt
   have hw:=ye h.inv A.st
   have hwr:=mj r d c
   have hoj:t.ob[x]=Cs m j:=by
    obtain ⟨j2,g1,_,_,g4⟩:=h.drop hxl
    rw[A.all] at g1; cases g1
    rw[List.getElem?_eq_getElem hxl] at g4; exact Option.some.inj g4
   have hov:pr (t.ob.drop x) a (words r d c) but=(decide ((Cs m j).id≠but∧((2*j:Nat):Int)<a+words r d c∧a<((2*j:Nat):Int)+(sz m j:Int)) || pr (t.ob.drop (x+1)) a (words r d c) but):=by
    rw[List.drop_eq_getElem_cons hxl,hoj]
    unfold pr
    rw[List.any_cons,hw,Sg]
   obtain ⟨B,hB⟩:∃ B,A6.cells (Bf (Cs m j) p) Ac true=B:=⟨_,rfl⟩
   have st:XJ (σ++τ++[A6.cells [.int .i64 0,.int .i64 0,.int .i64 0,.int .i64 0,.int .i64 0,.slice none 0 0,.slice none 0 0,.bool false] Ac true]) (σ++τ).length 0 [.int .i64 (Cs m j).addr,.int .i64 (Cs m j).id,.int .i64 (Cs m j).r,.int .i64 (Cs m j).d,.int .i64 (Cs m j).k,.slice p.1.1 p.1.2.1 p.1.2.2,.slice p.2.1 p.2.2.1 p.2.2.2,.bool (Cs m j).lU]=some (σ++τ++[B]):=by
    rw[Afe,← hB]; rfl
   have lb:∀ (τ':Aa) (o:Nat),Dg .i64 (σ++τ++[B]++τ') (σ++τ).length o=((Bf (Cs m j) p)[o]?).bind (Ml .i64):=fun τ' o=>by rw[← hB]; exact GK _ _ _ _ _ _ _
   have lb0:∀ (o:Nat),Dg .i64 (σ++τ++[B]) (σ++τ).length o=((Bf (Cs m j) p)[o]?).bind (Ml .i64):=fun o=>by have:=lb [] o; rwa [List.append_nil] at this
   have hq':(σ++τ++[B])[q]?=some (.cells [.int .i64 r,.int .i64 d,.int .i64 c] Ag true):=by
    rw[List.append_assoc,List.getElem?_append_left (Al hq)]; exact hq
   obtain ⟨b0,b1,b2⟩:=Md hq'
   obtain ⟨τ1,e1⟩:=Lf k r d c (σ++τ++[B])
   obtain ⟨τ2,e2⟩:=Lf k (A5 m j) (BN m j) (Fm m j) (σ++τ++[B]++τ1)
   rw[(YY h.inv A.st).2.2.2.2.2.2.2] at e2
   have q0:decide ((x:Int)<((t.ob.length:Nat):Int))=true:=decide_eq_true (by omega)
   have qx:(0≤(x:Int)∧(x:Int)<((t.ob.length:Nat):Int))=True:=eq_true (by omega)
   have w1:Cf ((x:Int)+1)=((x+1:Nat):Int):=Ak (by unfold AU; omega)
   have w2:Cf (a+words r d c)=a+words r d c:=Ak (by unfold AU; omega)
   have w3:Cf (((2*j:Nat):Int)+(sz m j:Int))=((2*j:Nat):Int)+(sz m j:Int):=Ak (by unfold AU; omega)
   have c0:((Bf (Cs m j) p)[0]?).bind (Ml .i64)=some ((2*j:Nat):Int):=rfl
   have c1:((Bf (Cs m j) p)[1]?).bind (Ml .i64)=some (Cs m j).id:=rfl
   have c2:((Bf (Cs m j) p)[2]?).bind (Ml .i64)=some (A5 m j):=rfl
   have c3:((Bf (Cs m j) p)[3]?).bind (Ml .i64)=some (BN m j):=rfl
   have c4:((Bf (Cs m j) p)[4]?).bind (Ml .i64)=some (Fm m j):=rfl
   rw[hov,PD,Jn]
   try simp only[sw,Ad,Af,Ae]
   simp only[Option.bind_some,Nat.zero_add,Nat.add_zero,Nat.add_assoc,Nat.reduceAdd,hg.at_.GJ,q0,cond_true,qx,if_true,A.os,Int.toNat_natCast,A.ld.l0,A.ld.l1,A.ld.l2,A.ld.l3,A.ld.l4,A.ld.l5,A.ld.l6,A.ld.l7,AM,st,lb0,c1]
   by_cases d1:(Cs m j).id=but
   ·obtain ⟨τ3,e3⟩:=WS k h a but ha hq n (x+1) f (τ++[B]) (by omega) (by omega)
    refine ⟨τ3, ?_⟩
    have:((Cs m j).id != but)=false:=by rw[d1]; exact bne_self_eq_false _
    rw[decide_eq_false (fun h=>h.1 d1),Bool.false_or]
    simp only[← List.append_assoc] at e3
    simp only[this,cond_false,Option.bind_some,w1]
    exact e3
   ·have hb1:((Cs m j).id != but)=true:=bne_iff_ne.2 d1
    by_cases d2:((2*j:Nat):Int)<a+words r d c
    ·by_cases d3:a<((2*j:Nat):Int)+(sz m j:Int)
     ·refine ⟨τ++[B]++τ1++τ2, ?_⟩
      rw[decide_eq_true ⟨d1,d2,d3⟩]
      simp only[hb1,cond_true,lb0,c0,Option.bind_some,b0,b1,b2,e1,Aj,w2,decide_eq_true d2,lb,c2,c3,c4,e2,w3,decide_eq_true d3,Bool.true_or,if_true]
      simp only[← List.append_assoc]
     ·obtain ⟨τ3,e3⟩:=WS k h a but ha hq n (x+1) f (τ++[B]++τ1++τ2) (by omega) (by omega)
      refine ⟨τ3, ?_⟩
      rw[decide_eq_false (fun h=>d3 h.2.2),Bool.false_or]
      simp only[← List.append_assoc] at e3
      simp only[hb1,cond_true,lb0,c0,Option.bind_some,b0,b1,b2,e1,Aj,w2,decide_eq_true d2,lb,c2,c3,c4,e2,w3,decide_eq_false d3,cond_false,w1]
      exact e3
    ·obtain ⟨τ3,e3⟩:=WS k h a but ha hq n (x+1) f (τ++[B]++τ1) (by omega) (by omega)
     refine ⟨τ3, ?_⟩
     rw[decide_eq_false (fun h=>d2 h.2.1),Bool.false_or]
     simp only[← List.append_assoc] at e3
     simp only[hb1,cond_true,lb0,c0,Option.bind_some,b0,b1,b2,e1,Aj,w2,decide_eq_false d2,cond_false,w1]
     exact e3
theorem gx {hi:Nat} {but:Int}:∀ {f x:Nat},Qa m hi but f x=false → ∃ y o,x≤y∧y<hi∧Yn m (y:Int)=some o∧((2*o:Nat):Int)≠but
 | 0,x,h=>by cases h
 | f+1,x,h=>by
   rw[Qa] at h
   split at h
   ·rename_i hx
    split at h
    ·rename_i o ho
     split at h
     ·obtain ⟨y,o',h1,h2⟩:=gx h
      exact ⟨y,o',by omega,h2⟩
     ·rename_i hne
      exact ⟨x,o,Nat.le_refl _,hx,ho,hne⟩
    ·obtain ⟨y,o',h1,h2⟩:=gx h
     exact ⟨y,o',by omega,h2⟩
   ·cases h
theorem Aev (hI:Inv m) {a w:Nat} {but bid:Int} (ha:a % 2=0) (hw:w % 2=0) (hw0:2≤w) (hwl:w≤218) (hb:∀ o,Start m o→(((2*o:Nat):Int)=but↔m.wds.getD (2*o) 0=bid)):pr (GL m) (a:Int) (w:Int) bid = !Qa m (a+w) but 200 a:=by
 rw[Bool.eq_iff_iff,Bool.not_eq_true']
 unfold pr GL
 rw[List.any_eq_true]
 constructor
 ·rintro ⟨o,ho,hd⟩
  obtain ⟨j,hj,rfl⟩:=List.mem_map.1 ho
  have hs:=Ew.1 hj
  rw[decide_eq_true_eq,ye hI hs,Sg] at hd
  have hz:=hI.size hs
  cases hf:Qa m (a+w) but 200 a with
  | false=>rfl
  | true=>
    have hfit:=hI.fit j hs
    by_cases hc:a≤2*j
    ·have:=dE hf (by omega) ((2*j-a)/2) (by omega) j (by
      rw[show a+2*((2*j-a)/2)=2*j from by omega]
      unfold Yn
      rw[if_pos (by omega),Int.toNat_natCast,hI.dD hs (by omega) (by omega)])
     exact absurd ((hb j hs).1 this) hd.1
    ·have:=dE hf (by omega) 0 (by omega) j (by
      unfold Yn
      rw[if_pos (by omega),Int.toNat_natCast,hI.dD hs (by omega) (by omega)])
     exact absurd ((hb j hs).1 this) hd.1
 ·intro hf
  obtain ⟨y,o,h1,h2,h3,h4⟩:=gx hf
  unfold Yn at h3
  split at h3
  ·rw[Int.toNat_natCast] at h3
   obtain ⟨s1,_,s3,s4⟩:=xy h3
   refine ⟨Cs m o,List.mem_map.2 ⟨o,Ew.2 s1,rfl⟩, ?_⟩
   rw[decide_eq_true_eq,ye hI s1,Sg]
   exact ⟨fun e=>h4 ((hb o s1).2 e),by omega,by omega⟩
  ·cases h3
theorem Aez (k:Nat) (hk:5000≤k) (h:RG σ i m t) (a but bid:Int) {r d c:Int} (hv:valid r d c=true) (hb:∀ o,Start m o→(((2*o:Nat):Int)=but↔m.wds.getD (2*o) 0=bid)):
  ∃ τ,Jx (k+4) (Cq i) a r d c bid σ=some (.int .i64 (QB m a (XF (num r d c)) but),σ++τ):=by
 have hnt:=h.nt
 have hwl:=h.wl
 have hol:=h.ol
 have hsz:words r d c=(XF (num r d c):Int):=by
  obtain ⟨p1,p2,p3,_⟩:=PM hv
  rw[uk,p1,p2,p3]
 have hs2:=OG hv
 have hv':=hv
 simp[valid] at hv'
 have hW:XF (num r d c) % 2=0∧2≤XF (num r d c)∧XF (num r d c)≤218:=by rw[hs2]; omega
 obtain ⟨W,hWe⟩:∃ W,XF (num r d c)=W:=⟨_,rfl⟩
 rw[hWe] at hsz hW ⊢
 obtain ⟨B,hB⟩:∃ B,A6.cells [.int .i64 r,.int .i64 d,.int .i64 c] Ag true=B:=⟨_,rfl⟩
 have hg:=h.app [B]
 have hq:(σ++[B])[σ.length]?=some (.cells [.int .i64 r,.int .i64 d,.int .i64 c] Ag true):=by rw[← hB]; simp
 rw[ca,Qp]
 try simp only[sw,Ad,Af,Ae]
 simp only[AM,hB]
 unfold QB
 by_cases h0:a<0
 ·rw[if_pos (show ¬(0≤a∧a<(m.wds.length:Int)∧a.toNat % 2=0) by omega)]
  refine ⟨[B], ?_⟩
  simp only[decide_eq_true h0,cond_true,Option.bind_some]
 obtain ⟨n,rfl⟩:∃ n:Nat,a=(n:Int):=⟨a.toNat,by omega⟩
 rw[Int.toNat_natCast]
 have hm2:((n:Int)).tmod 2=((n % 2:Nat):Int):=rfl
 by_cases h1:n % 2=0
 rotate_left
 ·rw[if_pos (show ¬(0≤(n:Int)∧(n:Int)<(m.wds.length:Int)∧n % 2=0) by omega)]
  refine ⟨[B], ?_⟩
  have:(((n % 2:Nat):Int) != 0)=true:=bne_iff_ne.2 (by omega)
  simp only[decide_eq_false h0,cond_false,show ((2:Int)=0)=False from by decide,if_false,hm2,this,cond_true,Option.bind_some]
 have e2:(((n % 2:Nat):Int) != 0)=false:=by rw[h1]; rfl
 have w64l:Cf (((m.bls.length:Nat):Int)*64)=((m.wds.length:Nat):Int):=by rw[Ak (by unfold AU; omega)]; omega
 by_cases h3:n<m.wds.length
 rotate_left
 ·rw[if_pos (show ¬(0≤(n:Int)∧(n:Int)<(m.wds.length:Int)∧n % 2=0) by omega)]
  refine ⟨[B], ?_⟩
  simp only[decide_eq_false h0,cond_false,show ((2:Int)=0)=False from by decide,if_false,hm2,e2,Option.bind_some,Nat.zero_add,Nat.add_zero,hg.at_.K2,hg.bn,w64l,decide_eq_true (show (n:Int)≥((m.wds.length:Nat):Int) by omega),cond_true]
 rw[if_neg (show ¬¬(0≤(n:Int)∧(n:Int)<(m.wds.length:Int)∧n % 2=0) by omega)]
 obtain ⟨b0,b1,b2⟩:=Md hq
 obtain ⟨τ1,eL⟩:=kE k r d c (σ++[B])
 have hg1:=hg.app τ1
 have hq1:(σ++[B]++τ1)[σ.length]?=_:=(List.getElem?_append_left (Al hq)).trans hq
 obtain ⟨d0,d1,d2⟩:=Md hq1
 have hnb:n/64<m.bls.length:=by omega
 have wb:Cf (((n:Int)).tdiv 64)=((n/64:Nat):Int):=by rw[show ((n:Int)).tdiv 64=((n/64:Nat):Int) from rfl]; exact Ak (by unfold AU; omega)
 have hm64:((n:Int)).tmod 64=((n % 64:Nat):Int):=rfl
 obtain ⟨qb,eb,lb0,_,_⟩:=jj hg1 hnb
 have qx:(0≤((n/64:Nat):Int)∧((n/64:Nat):Int)<((m.bls.length:Nat):Int))=True:=eq_true (by omega)
 have loop:∀ μ:Aa,∃ τ',((Dz (k+3) (k+3) (Cq i) (n:Int) bid σ.length (0:Int) (σ++[B]++μ)).bind fun r67=>if r67.1 = .exit 0 then (some (Value.int .i64 (0:Int),r67.2.2)) else if r67.1 = .ret then (mg r67.2.1 fun n68=>some (.int .i64 n68,r67.2.2)) else none)=some (Value.int .i64 (if Qa m (n+W) but 200 n then 0 else 8),σ++τ'):=by
  intro μ
  obtain ⟨τ',e⟩:=WS (k+1) hg (n:Int) bid (by omega) hq t.ob.length 0 (k+3) μ (by omega) (by omega)
  rw[List.drop_zero,h.sim.ob,hsz,Aev h.inv h1 hW.1 hW.2.1 hW.2.2 hb,show ((0:Nat):Int)=0 from rfl] at e
  have e':Dz (k+3) (k+3) (Cq i) (n:Int) bid σ.length 0 (σ++[B]++μ)=_:=e
  refine ⟨[B]++τ', ?_⟩
  rw[e',← List.append_assoc]
  cases Qa m (n+W) but 200 n with
  | true=>simp only[Bool.not_true,Bool.false_eq_true,if_false,Option.bind_some,if_true]
  | false=>simp only[Bool.not_false,if_true,Option.bind_some,reduceCtorEq,if_false,FR,Bool.false_eq_true]
 simp only[decide_eq_false h0,cond_false,show ((2:Int)=0)=False from by decide,if_false,hm2,e2,Option.bind_some,Nat.zero_add,Nat.add_zero,Nat.reduceAdd,hg.at_.K2,hg.bn,w64l,decide_eq_false (show ¬ (n:Int)≥((m.wds.length:Nat):Int) by omega),show ((64:Int)=0)=False from by decide,b0,b1,b2,eL,Ar,hsz]
 by_cases hL:W≤32
 ·rw[if_pos hL,decide_eq_false (by omega)]
  simp only[cond_false,hg1.at_.K2,hg1.bn,wb,qx,if_true,eb,Option.bind_some,Int.toNat_natCast,Nat.zero_add,lb0]
  by_cases s1:(m.bls.getD (n/64) (0,0)).1=1
  ·obtain ⟨τ2,eW⟩:=Lf (k+1) r d c (σ++[B]++τ1)
   rw[hsz] at eW
   have wa:Cf ((n:Int)+(W:Int))=((n+W:Nat):Int):=by rw[Ak (by unfold AU; omega)]; omega
   have wc:Cf (((n+W:Nat):Int)-1)=((n+W-1:Nat):Int):=by rw[Ak (by unfold AU; omega)]; omega
   have wd:Cf ((((n+W-1:Nat):Int)).tdiv 64)=(((n+W-1)/64:Nat):Int):=by rw[show (((n+W-1:Nat):Int)).tdiv 64=(((n+W-1)/64:Nat):Int) from rfl]; exact Ak (by unfold AU; omega)
   simp only[s1,bne_self_eq_false,cond_false,d0,d1,d2,Option.bind_some,eW,Aj,wa,wc,wd]
   by_cases s2:(n+W-1)/64=n/64
   ·have:((((n+W-1)/64:Nat):Int) != ((n/64:Nat):Int))=false:=by rw[s2]; exact bne_self_eq_false _
    obtain ⟨τ',e'⟩:=loop (τ1++τ2)
    rw[if_neg (fun hh=>hh.elim (fun h=>h rfl) (fun h=>h s2))]
    refine ⟨τ', ?_⟩
    simp only[this,cond_false,Option.bind_some,if_true]
    rw[List.append_assoc (σ++[B])]
    exact e'
   ·have:((((n+W-1)/64:Nat):Int) != ((n/64:Nat):Int))=true:=bne_iff_ne.2 (by omega)
    rw[if_pos (.inr s2)]
    refine ⟨[B]++τ1++τ2, ?_⟩
    simp only[this,cond_true,Option.bind_some,reduceCtorEq,if_false,if_true,FR,List.append_assoc]
  ·rw[if_pos (.inl s1)]
   refine ⟨[B]++τ1, ?_⟩
   simp only[bne_iff_ne.2 s1,cond_true,Option.bind_some,reduceCtorEq,if_false,if_true,FR,List.append_assoc]
 ·rw[if_neg hL,decide_eq_true (by omega)]
  simp only[cond_true,hm64]
  by_cases s0:n % 64=0
  rotate_left
  ·have:(((n % 64:Nat):Int) != 0)=true:=bne_iff_ne.2 (by omega)
   rw[if_pos (.inr (.inl s0))]
   refine ⟨[B]++τ1, ?_⟩
   simp only[this,cond_true,Option.bind_some,reduceCtorEq,if_false,if_true,FR,List.append_assoc]
  have e0:(((n % 64:Nat):Int) != 0)=false:=by rw[s0]; rfl
  simp only[e0,cond_false,hg1.at_.K2,hg1.bn,wb,qx,if_true,eb,Option.bind_some,Int.toNat_natCast,Nat.zero_add,lb0]
  by_cases s1:(m.bls.getD (n/64) (0,0)).1=2
  rotate_left
  ·rw[if_pos (.inl s1)]
   refine ⟨[B]++τ1, ?_⟩
   simp only[bne_iff_ne.2 s1,cond_true,Option.bind_some,reduceCtorEq,if_false,if_true,FR,List.append_assoc]
  have eWh:G7 (k+3) (Cq i) ((n/64:Nat):Int) (σ++[B]++τ1)=_:=Abr (k+2) (by omega) hg1 hnb
  have hwn:uq m (n/64)=Ok m (n/64):=by unfold uq; rw[if_neg (by rw[s1]; decide),if_pos s1]
  obtain ⟨τ2,eN⟩:=pq k r d c (σ++[B]++τ1)
  have hnd:(words r d c+63).tdiv 64=(((W+63)/64:Nat):Int):=by rw[hsz]; rfl
  rw[hnd] at eN
  simp only[s1,bne_self_eq_false,cond_false,eWh,Option.bind_some,Aj,hwn,d0,d1,d2,eN]
  by_cases s2:Ok m (n/64)=(W+63)/64
  ·have:(((Ok m (n/64):Nat):Int) != (((W+63)/64:Nat):Int))=false:=by rw[s2]; exact bne_self_eq_false _
   obtain ⟨τ',e'⟩:=loop (τ1++τ2)
   rw[if_neg (fun hh=>hh.elim (fun h=>h rfl) (fun h=>h.elim (fun h=>h s0) (fun h=>h s2)))]
   refine ⟨τ', ?_⟩
   simp only[this,cond_false,Option.bind_some,if_true]
   rw[List.append_assoc (σ++[B])]
   exact e'
  ·have:(((Ok m (n/64):Nat):Int) != (((W+63)/64:Nat):Int))=true:=bne_iff_ne.2 (by omega)
   rw[if_pos (.inr (.inr s2))]
   refine ⟨[B]++τ1++τ2, ?_⟩
   simp only[this,cond_true,Option.bind_some,reduceCtorEq,if_false,if_true,FR,List.append_assoc]
end Go.Proofs.YtjbledomkmdkmaaGreat
end
section
namespace Go.Proofs.YtjbledomkmdkmaaGreat
open Go Go.AX
noncomputable local instance qRV:A9:=Aw
local instance nRV:Kn:=⟨true⟩
variable {σ:Aa} {m:HM} {t:RM} {i:RI}
theorem Fg.app {s:Ce} {l:List Int} (h:Fg σ s l) (τ:Aa):Fg (σ++τ) s l:=
 ⟨h.1,fun hn=>by
  obtain ⟨b,c,e,hc⟩:=h.2.1 hn
  exact ⟨b,c,e,(List.getElem?_append_left (Al hc)).trans hc⟩,fun a ha=>by
  obtain ⟨cs,T,w,h1,h2⟩:=h.2.2 a ha
  exact ⟨cs,T,w,(List.getElem?_append_left (Al h1)).trans h1,h2⟩⟩
theorem Z5 {j:Nat} (hs:Start m j):Ea m ((2*j:Nat):Int)=true:=by
 unfold Ea
 rw[decide_eq_true_eq,Int.toNat_natCast,show 2*j/2=j from by omega]
 exact ⟨by omega,by omega,hs⟩
theorem lV (k:Nat) (hk:5000≤k) (h:RG σ i m t) (L:List Nat) (hL:∀ j ∈ L,Start m j) (hLl:L.length≤2048) {lo':Nat} (s:Ce) (hs:Ff lo' σ s (EU L)):∀ (n x f a:Nat) (τ:Aa) (o:Ce) (R:List (Nat × Nat)),EM BI 2 (σ++τ) o R.length (IU R)→(∀ q,o.1=some q→σ.length≤q.block)→R.length≤x→a≤5000→x+n=L.length→n<f →
  ∃ τ' o',Dy (k+3) f (Cq i) s.1 s.2.1 s.2.2 (o.1,o.2.1,o.2.2) (a:Int) (x:Int) (σ++τ)=some (.exit 0,[.slice o'.1 o'.2.1 o'.2.2,.int .i64 ((Ku m (L.drop x) a).2:Int)],σ++τ')∧EM BI 2 (σ++τ') o' (R++(Ku m (L.drop x) a).1).length (IU (R++(Ku m (L.drop x) a).1))∧(∀ q,o'.1=some q→σ.length≤q.block)∧(Ku m (L.drop x) a).2≤5000∧(R++(Ku m (L.drop x) a).1).length≤L.length
 | 0,x,0,a,τ,o,R,hR,ho,hr,ha,hx,hf=>by omega
 | 0,x,f+1,a,τ,o,R,hR,ho,hr,ha,hx,hf=>by
   have al:(EU L).length=L.length:=by simp[EU]
   have sl:s.2.1=L.length:=by rw[← al]; exact hs.sl.len
   rw[PC,Jm]
   try simp only[sw,Ad,Af,Ae]
   rw[List.drop_eq_nil_of_le (by omega)]
   have q:decide ((x:Int)<((s.2.1:Nat):Int))=false:=decide_eq_false (by omega)
   exact ⟨τ,o,by simp only[q,cond_false,Ku],by simpa [Ku] using hR,ho,ha,by simp[Ku]; omega⟩
 | n+1,x,0,a,τ,o,R,hR,ho,hr,ha,hx,hf=>by omega
 | n+1,x,f+1,a,τ,o,R,hR,ho,hr,ha,hx,hf=>by
   have al:(EU L).length=L.length:=by simp[EU]
   have hxl:x<L.length:=by omega
   have hst:=hL _ (List.getElem_mem hxl)
   have hfit:=h.inv.fit _ hst
   have hz:=h.inv.size hst
   have hnt:=h.nt
   have hwl:=h.wl
   have hsj:=hst.1
   obtain ⟨b1,e1,hb1,c1,ldA⟩:=ints_at hs (x:=x) (by omega)
   rw[Zi L hxl] at ldA
   have hbl:=Al c1
   have ldA':∀ τ1:Aa,Dg .i64 (σ++τ1) b1 x=some ((2*L[x]:Nat):Int):=fun τ1=>by
    rw[← ldA]; simp only[Dg,Gi,List.getElem?_append_left hbl]
   have eT:Ku m (L.drop x) a=(UD a (2*L[x])++(Ku m (L.drop (x+1)) (2*L[x]+sz m L[x])).1,(Ku m (L.drop (x+1)) (2*L[x]+sz m L[x])).2):=by
    rw[List.drop_eq_getElem_cons hxl]; rfl
   have qx:(0≤(x:Int)∧(x:Int)<((L.length:Nat):Int))=True:=eq_true (by omega)
   have q0:decide ((x:Int)<((L.length:Nat):Int))=true:=decide_eq_true (by omega)
   have w1:Cf ((x:Int)+1)=((x+1:Nat):Int):=Ak (by unfold AU; omega)
   have w2:Cf (((2*L[x]:Nat):Int)+(sz m L[x]:Int))=((2*L[x]+sz m L[x]:Nat):Int):=by rw[Ak (by unfold AU; omega)]; omega
   have hgl:(UD a (2*L[x])).length≤1:=by unfold UD; split <;> simp
   have tail:∀ (τ1:Aa) (o1:Ce),EM BI 2 (σ++τ1) o1 (R++UD a (2*L[x])).length (IU (R++UD a (2*L[x])))→(∀ q,o1.1=some q→σ.length≤q.block) →
     ∃ (y b2:Nat) (e3:i.os.1=some ⟨b2,0,none⟩) (e4:y<t.ob.length) (e5:AN (k+3) (Cq i) ((2*L[x]:Nat):Int) (σ++τ1)=some (.int .i64 (y:Int),σ++τ1)) (e6:Dg .i64 (σ++τ1) b2 (y*8+2)=some (A5 m L[x])) (e7:Dg .i64 (σ++τ1) b2 (y*8+3)=some (BN m L[x])) (e8:Dg .i64 (σ++τ1) b2 (y*8+4)=some (Fm m L[x])) (τ2:Aa) (e9:CG (k+3) (A5 m L[x]) (BN m L[x]) (Fm m L[x]) (σ++τ1)=some (.int .i64 (sz m L[x]:Int),σ++τ2)) (τ':Aa) (o':Ce),
      Dy (k+3) f (Cq i) s.1 s.2.1 s.2.2 (o1.1,o1.2.1,o1.2.2) ((2*L[x]+sz m L[x]:Nat):Int) ((x+1:Nat):Int) (σ++τ2)=some (.exit 0,[.slice o'.1 o'.2.1 o'.2.2,.int .i64 ((Ku m (L.drop x) a).2:Int)],σ++τ')∧EM BI 2 (σ++τ') o' (R++(Ku m (L.drop x) a).1).length (IU (R++(Ku m (L.drop x) a).1))∧(∀ q,o'.1=some q→σ.length≤q.block)∧(Ku m (L.drop x) a).2≤5000∧(R++(Ku m (L.drop x) a).1).length≤L.length:=by
    intro τ1 o1 s1 n1
    have hg:=h.app τ1
    obtain ⟨y,j',b2,p,F⟩:=hg.found (Z5 hst)
    have ej:j'=L[x]:=by have:=F.e; omega
    subst ej
    obtain ⟨τ2,e9⟩:=Lf (k+1) (A5 m L[x]) (BN m L[x]) (Fm m L[x]) (σ++τ1)
    rw[(YY h.inv hst).2.2.2.2.2.2.2,List.append_assoc] at e9
    have s2:EM BI 2 (σ++(τ1++τ2)) o1 (R++UD a (2*L[x])).length (IU (R++UD a (2*L[x]))):=by rw[← List.append_assoc]; exact s1.app τ2
    obtain ⟨τ',o',r1,r2,r3,r4,r5⟩:=lV k hk h L hL hLl s hs n (x+1) f (2*L[x]+sz m L[x]) (τ1++τ2) o1 (R++UD a (2*L[x])) s2 n1 (by rw[List.length_append]; omega) (by omega) (by omega) (by omega)
    rw[eT]
    rw[List.append_assoc] at r2 r5
    exact ⟨y,b2,F.os,F.xl,by rw[← F.idx]; exact Y1 (k+1) (by omega) hg _,F.ld.l2,F.ld.l3,F.ld.l4,τ1++τ2,e9,τ',o',r1,r2,r3,r4,r5⟩
   subst e1
   rw[PC,Jm]
   try simp only[sw,Ad,Af,Ae]
   simp only[al] at *
   by_cases hc:a<2*L[x]
   ·obtain ⟨o1,τ1,ea,s1,n1⟩:=WR Aku Ake Ak3 rfl rfl (by decide) (by decide) (by decide) σ τ o R.length (IU R) 1 1 (IU [(a,2*L[x]-a)]) BI (by omega) (by decide) rfl hR ho
    have ea':B9 P BI (o.1,o.2.1,o.2.2) (some ⟨(σ++τ).length,0,none⟩,1,1) (σ++τ++[A6.cells [.int .i64 (a:Int),.int .i64 ((2*L[x]-a:Nat):Int)] BI true])=some (o1,σ++τ1):=ea
    have gl:UD a (2*L[x])=[(a,2*L[x]-a)]:=by unfold UD; rw[if_pos hc]
    obtain ⟨y,b2,e3,e4,e5,e6,e7,e8,τ2,e9,τ',o',r1,r2,r3,r4,r5⟩:=tail τ1 o1 (by rw[gl,gN,List.length_append]; exact s1) n1
    refine ⟨τ',o', ?_,r2,r3,r4,r5⟩
    have w:Cf (((2*L[x]:Nat):Int)-(a:Int))=((2*L[x]-a:Nat):Int):=by rw[Ak (by unfold AU; omega)]; omega
    have qy:(0≤(y:Int)∧(y:Int)<((t.ob.length:Nat):Int))=True:=eq_true (by omega)
    simp only[q0,cond_true,qx,if_true,Option.bind_some,Nat.zero_add,Nat.add_zero,Nat.add_assoc,Nat.reduceAdd,Int.toNat_natCast,Nat.mul_one,ldA',decide_eq_true (show ((2*L[x]:Nat):Int)>(a:Int) by omega),AM,w,ea',Ps,(h.app τ1).at_.GJ,e5,Aj,qy,e3,e6,e7,e8,e9,w2,w1]
    exact r1
   ·have gl:UD a (2*L[x])=[]:=by unfold UD; rw[if_neg hc]
    obtain ⟨y,b2,e3,e4,e5,e6,e7,e8,τ2,e9,τ',o',r1,r2,r3,r4,r5⟩:=tail τ o (by rw[gl,List.append_nil]; exact hR) ho
    refine ⟨τ',o', ?_,r2,r3,r4,r5⟩
    have qy:(0≤(y:Int)∧(y:Int)<((t.ob.length:Nat):Int))=True:=eq_true (by omega)
    simp only[q0,cond_true,cond_false,qx,if_true,Option.bind_some,Nat.zero_add,Nat.add_zero,Nat.add_assoc,Nat.reduceAdd,Int.toNat_natCast,Nat.mul_one,ldA',decide_eq_false (show ¬ ((2*L[x]:Nat):Int)>(a:Int) by omega),Ps,(h.app τ).at_.GJ,e5,Aj,qy,e3,e6,e7,e8,e9,w2,w1]
    exact r1
def Yo (m:HM) (b:Int):List (Nat × Nat):=if CE m b=1 then zf m b.toNat else []
theorem Ab4 {b:Int} (h:CE m b=1):∃ n:Nat,b=(n:Int)∧n<m.bls.length∧(m.bls.getD n (0,0)).1=1:=by
 unfold CE at h
 split at h
 ·rename_i hb
  refine ⟨b.toNat,by omega,by omega,h⟩
 ·cases h
theorem Aax (m:HM) (b:Int):(Yo m b).length≤33:=by
 have aux:∀ (L:List Nat) (a:Nat),(Ku m L a).1.length≤L.length:=by
  intro L
  induction L with
  | nil=>intro a; exact Nat.le_refl _
  | cons j L ih=>
    intro a
    have:=ih (2*j+sz m j)
    have:(UD a (2*j)).length≤1:=by unfold UD; split <;> simp
    rw[Ku,List.length_append,List.length_cons]; omega
 unfold Yo
 split
 ·unfold zf
  have:=aux (FP m (32*b.toNat) 32) (64*b.toNat)
  have:=Wl m (32*b.toNat) 32
  have:(UD (Ku m (FP m (32*b.toNat) 32) (64*b.toNat)).2 (64*b.toNat+64)).length≤1:=by unfold UD; split <;> simp
  rw[List.length_append]; omega
 ·simp
theorem Aet (k:Nat) (hk:5000≤k) (h:RG σ i m t) (b:Int):∃ τ s,Jw (k+4) (Cq i) b σ=some (.slice s.1 s.2.1 s.2.2,σ++τ)∧EM BI 2 (σ++τ) s (Yo m b).length (IU (Yo m b)) ∧ ∀ a,s.1=some a→σ.length≤a.block:=by
 have hnt:=h.nt
 have hwl:=h.wl
 rw[bX,Qm]
 try simp only[sw,Ad,Af,Ae]
 have eS:Cy (k+3) (Cq i) b σ=_:=kF (k+1) h b
 simp only[eS,Option.bind_some,Aj]
 unfold Yo
 by_cases hc:CE m b=1
 rotate_left
 ·rw[if_neg hc,bne_iff_ne.2 hc]
  exact ⟨[],(none,0,0),by simp only[cond_true,List.append_nil],EM.nil _ _ _,by intro a ha; cases ha⟩
 rw[if_pos hc,hc]
 obtain ⟨n,rfl,hn,hst⟩:=Ab4 hc
 obtain ⟨τ1,s,e1,i1⟩:=vR (k+1) (by omega) h (n:Int)
 have eO:Mz m (n:Int)=FP m (32*n) 32:=by unfold Mz; rw[if_pos (by omega),Int.toNat_natCast]
 rw[eO] at i1
 have hg:=h.app τ1
 have hL:∀ j ∈ FP m (32*n) 32,Start m j:=by
  intro j hj
  obtain ⟨a,b',c⟩:=VN.1 hj
  exact ⟨by omega,c⟩
 have hLl:=Wl m (32*n) 32
 obtain ⟨τ2,o2,e2,s2,n2,m4,m5⟩:=lV k hk hg _ hL (by omega) s i1 (FP m (32*n) 32).length 0 (k+3) (64*n) [] (none,0,0) [] (EM.nil _ _ _) (by intro a ha; cases ha) (Nat.zero_le _) (by omega) (by omega) (by omega)
 rw[List.drop_zero,List.nil_append] at s2 m5
 rw[List.drop_zero,List.append_nil] at e2
 rw[List.drop_zero] at m4
 have e2':Dy (k+3) (k+3) (Cq i) s.1 s.2.1 s.2.2 (none,0,0) ((64*n:Nat):Int) 0 (σ++τ1)=_:=e2
 have w1:Cf ((n:Int)*64)=((64*n:Nat):Int):=by rw[Ak (by unfold AU; omega)]; omega
 have w2:Cf ((n:Int)+1)=((n+1:Nat):Int):=by rw[Ak (by unfold AU; omega)]; omega
 have w3:Cf (((n+1:Nat):Int)*64)=((64*n+64:Nat):Int):=by rw[Ak (by unfold AU; omega)]; omega
 rw[Int.toNat_natCast]
 unfold zf
 generalize hG:Ku m (FP m (32*n) 32) (64*n)=G at e2' s2 m4 m5
 by_cases hq:G.2<64*n+64
 ·obtain ⟨o3,τ3,ea,s3,n3⟩:=WR Aku Ake Ak3 rfl rfl (by decide) (by decide) (by decide) (σ++τ1) τ2 o2 G.1.length (IU G.1) 1 1 (IU [(G.2,64*n+64-G.2)]) BI (by omega) (by decide) rfl s2 n2
  have ea':B9 P BI (o2.1,o2.2.1,o2.2.2) (some ⟨(σ++τ1++τ2).length,0,none⟩,1,1) (σ++τ1++τ2++[A6.cells [.int .i64 (G.2:Int),.int .i64 ((64*n+64-G.2:Nat):Int)] BI true])=some (o3,σ++τ1++τ3):=ea
  have gl:UD G.2 (64*n+64)=[(G.2,64*n+64-G.2)]:=by unfold UD; rw[if_pos hq]
  have w:Cf (((64*n+64:Nat):Int)-(G.2:Int))=((64*n+64-G.2:Nat):Int):=by rw[Ak (by unfold AU; omega)]; omega
  refine ⟨τ1++τ3,o3, ?_, ?_,fun a ha=>by have:=n3 a ha; simp at this; omega⟩
  ·simp only[bne_self_eq_false,cond_false,e1,Option.bind_some,H7,w1,e2',if_true,zG,w2,w3,decide_eq_true (show (G.2:Int)<((64*n+64:Nat):Int) by omega),cond_true,AM,w,ea',Ps]
   rw[List.append_assoc]
  ·rw[gl,gN,List.length_append,← List.append_assoc]; exact s3
 ·have gl:UD G.2 (64*n+64)=[]:=by unfold UD; rw[if_neg hq]
  refine ⟨τ1++τ2,o2, ?_, ?_,fun a ha=>by have:=n2 a ha; simp at this; omega⟩
  ·simp only[bne_self_eq_false,cond_false,e1,Option.bind_some,H7,w1,e2',if_true,zG,w2,w3,decide_eq_false (show ¬ (G.2:Int)<((64*n+64:Nat):Int) by omega),cond_false,Ps]
   rw[List.append_assoc]
  ·rw[gl,List.append_nil,← List.append_assoc]; exact s2
end Go.Proofs.YtjbledomkmdkmaaGreat
end
section
namespace Go.Proofs.YtjbledomkmdkmaaGreat
open Go Go.AX
noncomputable local instance qRW:A9:=Aw
local instance nRW:Kn:=⟨true⟩
variable {σ:Aa} {m:HM} {t:RM} {i:RI}
def YZ (om:List (Ce × Ce)):List Nat:=om.flatMap fun p=>hs p.1++hs p.2
theorem Te (s:Ce):(hs s).Nodup:=by
 unfold hs
 cases s.1 <;> simp
theorem RI.Lu {j:Nat}:j ∈ i.l↔j=i.hb∨j ∈ hs i.bs∨j ∈ hs i.os∨j ∈ hs i.fs∨j ∈ YZ i.om:=by
 unfold RI.l YZ
 simp only[List.mem_cons,List.mem_append]
structure Sep (i:RI):Prop where
 hA:i.hb ∉ hs i.bs
 hB:i.hb ∉ hs i.os
 hC:i.hb ∉ hs i.fs
 hD:i.hb ∉ YZ i.om
 AB:∀ a ∈ hs i.bs,a ∉ hs i.os
 AC:∀ a ∈ hs i.bs,a ∉ hs i.fs
 AD:∀ a ∈ hs i.bs,a ∉ YZ i.om
 BC:∀ a ∈ hs i.os,a ∉ hs i.fs
 BD:∀ a ∈ hs i.os,a ∉ YZ i.om
 CD:∀ a ∈ hs i.fs,a ∉ YZ i.om
 D:(YZ i.om).Nodup
theorem Sep.of (h:i.l.Nodup):Sep i:=by
 have h:(i.hb::(hs i.bs++(hs i.os++(hs i.fs++YZ i.om)))).Nodup:=h
 obtain ⟨h1,h2⟩:=List.nodup_cons.1 h
 simp only[List.mem_append,not_or] at h1
 obtain ⟨_,h3,h4⟩:=List.nodup_append.1 h2
 obtain ⟨_,h5,h6⟩:=List.nodup_append.1 h3
 obtain ⟨_,h7,h8⟩:=List.nodup_append.1 h5
 exact ⟨h1.1,h1.2.1,h1.2.2.1,h1.2.2.2,fun a ha hb=>h4 a ha a (List.mem_append.2 (.inl hb)) rfl,fun a ha hb=>h4 a ha a (List.mem_append.2 (.inr (List.mem_append.2 (.inl hb)))) rfl,fun a ha hb=>h4 a ha a (List.mem_append.2 (.inr (List.mem_append.2 (.inr hb)))) rfl,
  fun a ha hb=>h6 a ha a (List.mem_append.2 (.inl hb)) rfl,fun a ha hb=>h6 a ha a (List.mem_append.2 (.inr hb)) rfl,fun a ha hb=>h8 a ha a hb rfl,h7⟩
theorem Sep.nd (h:Sep i):i.l.Nodup:=by
 show (i.hb::(hs i.bs++(hs i.os++(hs i.fs++YZ i.om)))).Nodup
 refine List.nodup_cons.2 ⟨?_,List.nodup_append.2 ⟨Te _,List.nodup_append.2 ⟨Te _,List.nodup_append.2 ⟨Te _,h.D, ?_⟩, ?_⟩, ?_⟩⟩
 ·simp only[List.mem_append,not_or]
  exact ⟨h.hA,h.hB,h.hC,h.hD⟩
 ·intro a ha b hb e
  subst e
  exact h.CD a ha hb
 ·intro a ha b hb e
  subst e
  rcases List.mem_append.1 hb with hb | hb
  ·exact h.BC a ha hb
  ·exact h.BD a ha hb
 ·intro a ha b hb e
  subst e
  rcases List.mem_append.1 hb with hb | hb
  ·exact h.AB a ha hb
  ·rcases List.mem_append.1 hb with hb | hb
   ·exact h.AC a ha hb
   ·exact h.AD a ha hb
theorem K5.sep (h:K5 σ i t):Sep i:=Sep.of h.nd
theorem Kw {om:List (Ce × Ce)} {x b:Nat} (hx:x<om.length) (h:b ∈ hs om[x].1∨b ∈ hs om[x].2):b ∈ YZ om:=
 List.mem_flatMap.2 ⟨_,List.getElem_mem hx,List.mem_append.2 h⟩
theorem UE {s:Ce} {q:Nat} (e:s.1=some ⟨q,0,none⟩):q ∈ hs s:=Ch.2 ⟨_,e,rfl⟩
theorem Lk {L:List Nat} {q b:Nat} {c:A6} (hq:q ∉ L) (hb:b ∈ L):(σ.set q c)[b]?=σ[b]?:=
 List.getElem?_set_ne (fun e:q=b=>hq (by rw[e]; exact hb))
structure Ib (i i':RI) (σ σ':Aa):Prop where
 len:σ.length≤σ'.length
 same:∀ j,j<σ.length→j ∉ i.l→σ'[j]?=σ[j]?
 new:∀ j,j ∈ i'.l→j ∈ i.l∨σ.length≤j
 hb:i'.hb=i.hb
theorem Ib.refl (i:RI) (σ:Aa):Ib i i σ σ:=⟨Nat.le_refl _,fun _ _ _=>rfl,fun _ h=>.inl h,rfl⟩
theorem Ib.app (i:RI) (σ τ:Aa):Ib i i σ (σ++τ):=⟨by simp,fun j hj _=>List.getElem?_append_left hj,fun _ h=>.inl h,rfl⟩
theorem Ib.trans {a b c:Aa} {i i' i'':RI} (h:Ib i i' a b) (g:Ib i' i'' b c):Ib i i'' a c:=by
 refine ⟨Nat.le_trans h.len g.len,fun j h1 h2=>?_,fun j hj=>?_,g.hb.trans h.hb⟩
 ·refine (g.same j (Nat.lt_of_lt_of_le h1 h.len) fun hm=>?_).trans (h.same j h1 h2)
  rcases h.new j hm with h3 | h3
  ·exact h2 h3
  ·omega
 ·rcases g.new j hj with h1 | h1
  ·exact h.new j h1
  ·exact .inr (Nat.le_trans h.len h1)
theorem Ib.set {q:Nat} (σ:Aa) (c:A6) (h:q ∈ i.l):Ib i i σ (σ.set q c):=
 ⟨by simp,fun j hj hn=>List.getElem?_set_ne (fun e:q=j=>hn (by rw[← e]; exact h)),fun _ h=>.inl h,rfl⟩
def Fx (mm:Option (Value × Aa)) (σ:Aa) (i:RI) (v:Value) (m':HM):Prop:=
 ∃ σ' i' t',mm=some (v,σ')∧K5 σ' i' t'∧Zd m' t'∧OI m'∧Ib i i' σ σ'
theorem Fx.same (h:RG σ i m t) (hP:OI m) (τ:Aa) {v:Value} {mm:Option (Value × Aa)} (he:mm=some (v,σ++τ)):Fx mm σ i v m:=
 ⟨σ++τ,i,t,he,h.at_.app τ,h.sim,hP,Ib.app i σ τ⟩
theorem Fx.Tw (h:RG σ i m t) (hP:OI m) {v:Value} {mm:Option (Value × Aa)} (he:mm=some (v,σ)):Fx mm σ i v m:=
 ⟨σ,i,t,he,h.at_,h.sim,hP,Ib.refl i σ⟩
theorem K5.vD {μ:Aa} {i:RI} {t:RM} (bl:EM Am 2 μ i.bs t.bl.length (Dd t.bl)) (ob:EM Ac 8 μ i.os t.ob.length (Eb t.ob i.om)) (fw:nk μ i.fs t.fw) (ol:i.om.length=t.ob.length)
  (inn:∀ (x:Nat) (h:x<t.ob.length) (h':x<i.om.length),Fg μ i.om[x].1 t.ob[x].refs∧Fg μ i.om[x].2 t.ob[x].data) (sep:Sep i) (lt:∀ j ∈ i.l,j<μ.length):
  K5 (μ.set i.hb (.cells [.slice i.bs.1 i.bs.2.1 i.bs.2.2,.slice i.os.1 i.os.2.1 i.os.2.2,.slice i.fs.1 i.fs.2.1 i.fs.2.2,.int .i64 t.born] Dk true)) i t where
 hp:=List.getElem?_set_self (lt _ i.Pg)
 bl:=bl.AG fun a ha=>Lk (sep.hA) (Ch.2 ⟨a,ha,rfl⟩)
 ob:=ob.AG fun a ha=>Lk (sep.hB) (Ch.2 ⟨a,ha,rfl⟩)
 fw:=fw.AG fun a ha=>Lk (sep.hC) (Ch.2 ⟨a,ha,rfl⟩)
 ol:=ol
 inn:=fun x h h'=>⟨(inn x h h').1.AG fun b hb=>Lk (sep.hD) (Kw h' (.inl hb)),(inn x h h').2.AG fun b hb=>Lk (sep.hD) (Kw h' (.inr hb))⟩
 nd:=sep.nd
 lt:=fun j hj=>by rw[List.length_set]; exact lt j hj
theorem K5.zv (h:K5 σ i t) {q:Nat} (e:i.bs.1=some ⟨q,0,none⟩) (l':List (Int × Int)) (hl:l'.length=t.bl.length):K5 (σ.set q (.cells (Dd l') Am true)) i { t with bl:=l' }:=by
 have sep:=h.sep
 have hq:=UE e
 have hlt:=h.lt q (RI.Lu.2 (.inr (.inl hq)))
 refine { hp:=?_,bl:=?_,ob:=?_,fw:=?_,ol:=h.ol,inn:=?_,nd:=h.nd,lt:=fun j hj=>by rw[List.length_set]; exact h.lt j hj }
 ·rw[List.getElem?_set_ne (fun e':q=i.hb=>sep.hA (by rw[← e']; exact hq))]; exact h.hp
 ·have:=h.bl.form
  rw[e] at this
  exact .inr ⟨q,by rw[this,hl],Nat.zero_le _,by rw[KU]; omega,List.getElem?_set_self hlt⟩
 ·exact h.ob.AG fun a ha=>Lk (sep.AB q hq) (Ch.2 ⟨a,ha,rfl⟩)
 ·exact h.fw.AG fun a ha=>Lk (sep.AC q hq) (Ch.2 ⟨a,ha,rfl⟩)
 ·intro x h1 h2
  exact ⟨(h.inn x h1 h2).1.AG fun b hb=>Lk (sep.AD q hq) (Kw h2 (.inl hb)),(h.inn x h1 h2).2.AG fun b hb=>Lk (sep.AD q hq) (Kw h2 (.inr hb))⟩
theorem K5.stB (h:K5 σ i t) {b:Nat} (hb:b<t.bl.length) (x y:Int):∃ q,i.bs.1=some ⟨q,0,none⟩∧XJ σ q (b*2) [.int .i64 x,.int .i64 y]=some (σ.set q (.cells (Dd (t.bl.set b (x,y))) Am true)) ∧
  K5 (σ.set q (.cells (Dd (t.bl.set b (x,y))) Am true)) i { t with bl:=t.bl.set b (x,y) }∧Ib i i σ (σ.set q (.cells (Dd (t.bl.set b (x,y))) Am true)):=by
 obtain ⟨q,e,l0,l1,hc⟩:=ZF h.bl hb
 refine ⟨q,e, ?_,h.zv e _ (by simp),Ib.set _ _ (RI.Lu.2 (.inr (.inl (UE e))))⟩
 have:b*2+2≤(Dd t.bl).length:=by rw[KU]; omega
 simp only[XJ,hc,List.length_cons,List.length_nil,Nat.zero_add,Nat.reduceAdd,this,if_true,dB _ _ _ _ hb]
theorem uY (l:List (Int × Int)) (b:Nat) (x:Int) (hb:b<l.length):(Dd l).set (b*2) (.int .i64 x)=Dd (l.set b (x,(l.getD b (0,0)).2)):=by
 rw[dB _ _ _ _ hb]
 have h1:=(dA l b hb).2
 rw[Nat.mul_comm] at h1
 have hlen:=KU l
 apply List.ext_getElem?
 intro p
 unfold AL
 by_cases hp:p=b*2
 ·subst hp
  rw[List.getElem?_set_self (by omega),List.append_assoc,List.getElem?_append_right (by simp; omega)]
  simp[List.length_take,Nat.min_eq_left (show b*2≤(Dd l).length by omega)]
 ·rw[List.getElem?_set_ne (Ne.symm hp),List.append_assoc]
  by_cases h2:p<b*2
  ·rw[List.getElem?_append_left (by simp; omega),List.getElem?_take_of_lt h2]
  ·rw[List.getElem?_append_right (by simp; omega),List.length_take,Nat.min_eq_left (show b*2≤(Dd l).length by omega)]
   by_cases h3:p=b*2+1
   ·subst h3
    rw[h1,show b*2+1-b*2=1 from by omega]
    rfl
   ·rw[List.getElem?_append_right (by simp; omega),List.getElem?_drop]
    congr 1
    simp only[List.length_cons,List.length_nil]
    omega
theorem K5.stS (h:K5 σ i t) {b:Nat} (hb:b<t.bl.length) (x:Int):∃ q,i.bs.1=some ⟨q,0,none⟩∧AX.K3 σ q (b*2) (.int .i64 x)=some (σ.set q (.cells (Dd (t.bl.set b (x,(t.bl.getD b (0,0)).2))) Am true)) ∧
  K5 (σ.set q (.cells (Dd (t.bl.set b (x,(t.bl.getD b (0,0)).2))) Am true)) i { t with bl:=t.bl.set b (x,(t.bl.getD b (0,0)).2) }∧Ib i i σ (σ.set q (.cells (Dd (t.bl.set b (x,(t.bl.getD b (0,0)).2))) Am true)):=by
 obtain ⟨q,e,l0,l1,hc⟩:=ZF h.bl hb
 refine ⟨q,e, ?_,h.zv e _ (by simp),Ib.set _ _ (RI.Lu.2 (.inr (.inl (UE e))))⟩
 have:b*2<(Dd t.bl).length:=by rw[KU]; omega
 simp only[AX.K3,hc,this,if_true,uY _ _ _ hb]
theorem lM (l:List (Int × Int)) (b c:Nat) (e:Int × Int):(l.set b e).getD c (0,0)=if c=b∧b<l.length then e else l.getD c (0,0):=by
 rw[List.getD_eq_getElem?_getD,List.getElem?_set]
 by_cases h:b=c
 ·subst h
  by_cases h2:b<l.length
  ·simp[h2]
  ·simp[h2]
 ·rw[if_neg h,if_neg (fun hh=>h hh.1.symm),List.getD_eq_getElem?_getD]
theorem tw (b:Nat) (e:Int × Int):∀ (n x:Nat) (l:List (Int × Int)) (c:Nat),b+x+n≤l.length→(gj l b e n x).getD c (0,0)=if b+x≤c∧c<b+x+n then e else l.getD c (0,0)
 | 0,x,l,c,h=>by rw[gj,if_neg (by omega)]
 | n+1,x,l,c,h=>by
   rw[gj,tw b e n (x+1) _ c (by rw[List.length_set]; omega),lM]
   by_cases h1:b+(x+1)≤c∧c<b+(x+1)+n
   ·rw[if_pos h1,if_pos (show b+x≤c∧c<b+x+(n+1) by omega)]
   ·rw[if_neg h1]
    by_cases h2:c=b+x
    ·rw[if_pos ⟨h2,by omega⟩,if_pos (show b+x≤c∧c<b+x+(n+1) by omega)]
    ·rw[if_neg (show ¬ (c=b+x∧b+x<l.length) from fun hh=>h2 hh.1),if_neg (show ¬ (b+x≤c∧c<b+x+(n+1)) by omega)]
def FZ (m:HM):Prop:=∀ c,(m.bls.getD c (0,0)).1=0→(m.bls.getD c (0,0)).2=0
theorem dP {l:List (Int × Int)} {b:Nat} (hz:∀ c,(l.getD c (0,0)).1=0→(l.getD c (0,0)).2=0):∀ (n x:Nat),Om l b n x=none ↔ ∀ c,x≤c→c<x+n→(l.getD (b+c) (0,0)).1=0
 | 0,x=>by simp[Om]; intro c h1 h2; omega
 | n+1,x=>by
   rw[Om]
   by_cases h:(l.getD (b+x) (0,0)).1=0
   ·rw[if_pos ⟨h,hz _ h⟩,dP hz n (x+1)]
    constructor
    ·intro g c h1 h2
     by_cases e:c=x
     ·rw[e]; exact h
     ·exact g c (by omega) (by omega)
    ·intro g c h1 h2
     exact g c (by omega) (by omega)
   ·rw[if_neg (fun hh=>h hh.1)]
    constructor
    ·intro g; cases g
    ·intro g; exact absurd (g x (Nat.le_refl _) (by omega)) h
end Go.Proofs.YtjbledomkmdkmaaGreat
end
