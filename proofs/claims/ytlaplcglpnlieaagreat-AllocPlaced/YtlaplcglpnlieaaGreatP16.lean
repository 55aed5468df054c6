/- The document's heap: looks at one object, one block, one word.; The document's heap: lists of objects, gaps, lines; words.; The document's heap: whole -/
import Derived.Test.YtlaplcglpnlieaaGreatP15
set_option linter.unusedVariables false
set_option linter.unusedSimpArgs false
set_option linter.unusedSectionVars false
section
namespace Go.Proofs.YtlaplcglpnlieaaGreat
open Go Go.AX
noncomputable local instance wF:AK:=As
local instance vm:Kn:=⟨true⟩
variable {σ:Aa} {m:HM} {t:RM} {i:RI}
structure RG (σ:Aa) (i:RI) (m:HM) (t:RM):Prop where
 at_:NV σ i t
 sim:St m t
 inv:Inv m
 inv2:Inv2 m
 wl:m.wds.length=64*m.bls.length
 nb:2≤m.bls.length
 nt:m.bls.length≤64
theorem RG.app (h:RG σ i m t) (τ:Aa):RG (σ++τ) i m t:=⟨h.at_.app τ,h.sim,h.inv,h.inv2,h.wl,h.nb,h.nt⟩
theorem RG.CX {σ':Aa} (h:RG σ i m t) (hs:∀ j ∈ i.l,σ'[j]?=σ[j]?) (hl:σ.length≤σ'.length):RG σ' i m t:=⟨h.at_.CX hs hl,h.sim,h.inv,h.inv2,h.wl,h.nb,h.nt⟩
theorem RG.bn (h:RG σ i m t):t.bl.length=m.bls.length:=by rw[h.sim.bl]
theorem RG.ne (h:RG σ i m t):t.bl≠[]:=by
 intro e
 have:=h.bn
 have:=h.nb
 rw[e] at *
 simp at *
 omega
theorem RG.ol (h:RG σ i m t):t.ob.length≤2048:=by
 rw[h.sim.ob]
 have:=MP m 0 (32*m.bls.length)
 have:=h.nt
 unfold KZ BV
 rw[List.length_map]
 omega
theorem I9 (k:Nat) (h:RG σ i m t):An (k+1) (Cg i) σ=some (.bool true,σ):=cF k h.at_ h.ne
theorem Lr.uk {s:En} {l:List Int} (h:Lr σ s l) {x:Nat} (hx:x<l.length):∃ b,s.1=some ⟨b,0,none⟩∧Ai .i64 σ b x=some (l.getD x 0)∧σ[b]?=some (.cells (CP l) Bk true):=by
 obtain ⟨b,c,rfl,hc⟩:=h.2.1 (fun e=>by rw[e] at hx; simp at hx)
 exact ⟨b,rfl,po hc hx,hc⟩
structure Found (σ:Aa) (i:RI) (m:HM) (t:RM) (a:Int) (x j b:Nat) (p:En × En):Prop where
 idx:kP t.ob a=(x:Int)
 idx':Rn t.ob a=some x
 xl:x<t.ob.length
 st:Start m j
 e:a=((2*j:Nat):Int)
 all:(BV m)[x]?=some j
 ob:t.ob[x]?=some (DD m j)
 os:i.os.1=some ⟨b,0,none⟩
 cell:σ[b]?=some (.cells (HY t.ob i.om) Ak true)
 om:i.om[x]?=some p
 ld:rS σ b x (DD m j) p
 rs:Lr σ p.1 (DD m j).refs
 ds:Lr σ p.2 (DD m j).data
theorem RG.found (h:RG σ i m t) {a:Int} (hh:Pt m a=true):∃ x j b p,Found σ i m t a x j b p:=by
 obtain ⟨h1,h2⟩:=h.sim.idx a
 cases hq:Rn t.ob a with
 | none=>rw[h2 hq] at hh; cases hh
 | some x=>
   obtain ⟨q1,j,q2,q3,_,q5,q6⟩:=h1 x hq
   obtain ⟨b,e1,e2,L⟩:=h.at_.obj q1
   have hom:x<i.om.length:=by rw[h.at_.ol]; exact q1
   have eo:t.ob[x]=DD m j:=by rw[List.getElem?_eq_getElem q1] at q6; exact Option.some.inj q6
   have L:=L hom
   rw[eo] at L
   obtain ⟨n1,n2⟩:=h.at_.inn x q1 hom
   rw[eo] at n1 n2
   exact ⟨x,j,b,i.om[x],by unfold kP; rw[hq],hq,q1,q2,q3,q5,q6,e1,e2,List.getElem?_eq_getElem hom,L,n1,n2⟩
theorem jj (k:Nat) (hk:5000≤k) (h:RG σ i m t) (a:Int):Cw (k+2) (Cg i) a σ=some (.int .i64 (kP t.ob a),σ):=fp k hk h.at_ h.ne (by have:=h.ol; omega) a
theorem pR (k:Nat) (hk:5000≤k) (h:RG σ i m t) (a:Int):Gb (k+3) (Cg i) a σ=some (.int .i64 (if Pt m a then 0 else 4),σ):=by
 rw[nS k hk h.at_ h.ne (by have:=h.ol; omega) a,h.sim.has]
theorem uv:((4:Int) != 0)=true:=rfl
theorem rh {σ:Aa} {cs vs:List Value} {T:TypeId} (h:vs.length=cs.length):JM (σ++[.cells cs T true]) σ.length 0 vs=some (σ++[.cells vs T true]):=by
 simp only[JM,List.getElem?_concat_length]
 rw[if_pos (by omega)]
 simp[AE,h]
theorem pY (σ:Aa) (T:TypeId) (a b c d e f g h x y z u v w p q:Value):JM (σ++[.cells [a,b,c,d,e,f,g,h] T true]) σ.length 0 [x,y,z,u,v,w,p,q]=some (σ++[.cells [x,y,z,u,v,w,p,q] T true]):=rh rfl
theorem QU (k:Nat) (h:RG σ i m t):Bw (k+2) (Cg i) σ=some (.int .i64 ((m.bls.length:Nat):Int),σ):=by
 rw[T1,PI]
 simp only[I9 k h,Option.bind_some,Au,Bool.not_true,cond_false,Nat.zero_add,Nat.add_zero,h.at_.SN,h.bn]
def Ji (m:HM) (b:Int):Int:=if 0≤b∧b<(m.bls.length:Int) then (m.bls.getD b.toNat (0,0)).1 else -1
def Xr (m:HM) (b:Int):Int:=if 0≤b∧b<(m.bls.length:Int) then (m.bls.getD b.toNat (0,0)).2 else -1
theorem SS (k:Nat) (h:RG σ i m t) (b:Int):Bi (k+2) (Cg i) b σ=some (.int .i64 (Ji m b),σ):=by
 rw[U5,Q4]
 simp only[I9 k h,Option.bind_some,Au,Bool.not_true,cond_false]
 unfold Ji
 by_cases h0:b<0
 ·rw[decide_eq_true h0,if_neg (by omega)]
  simp only[cond_true,Option.bind_some]
 rw[decide_eq_false h0]
 simp only[cond_false,Option.bind_some,Nat.zero_add,Nat.add_zero,h.at_.SN,h.bn]
 by_cases h1:b≥(m.bls.length:Int)
 ·have q:(0≤b∧b<(m.bls.length:Int))=False:=eq_false (by omega)
  simp only[decide_eq_true h1,q,if_false,cond_true]
 rw[decide_eq_false h1,if_pos (by omega),if_pos (by omega)]
 obtain ⟨n,rfl⟩:∃ n:Nat,b=(n:Int):=⟨b.toNat,by omega⟩
 obtain ⟨q,e,l0,l1,_⟩:=VR h.at_.bl (x:=n) (by rw[h.bn]; omega)
 rw[h.sim.bl] at l0
 simp only[cond_false,e,Option.bind_some,Int.toNat_natCast,Nat.zero_add,l0]
theorem Za (k:Nat) (h:RG σ i m t) (b:Int):Cc (k+2) (Cg i) b σ=some (.int .i64 (Xr m b),σ):=by
 rw[U4,Q3]
 simp only[I9 k h,Option.bind_some,Au,Bool.not_true,cond_false]
 unfold Xr
 by_cases h0:b<0
 ·rw[decide_eq_true h0,if_neg (by omega)]
  simp only[cond_true,Option.bind_some]
 rw[decide_eq_false h0]
 simp only[cond_false,Option.bind_some,Nat.zero_add,Nat.add_zero,h.at_.SN,h.bn]
 by_cases h1:b≥(m.bls.length:Int)
 ·have q:(0≤b∧b<(m.bls.length:Int))=False:=eq_false (by omega)
  simp only[decide_eq_true h1,q,if_false,cond_true]
 rw[decide_eq_false h1,if_pos (by omega),if_pos (by omega)]
 obtain ⟨n,rfl⟩:∃ n:Nat,b=(n:Int):=⟨b.toNat,by omega⟩
 obtain ⟨q,e,l0,l1,_⟩:=VR h.at_.bl (x:=n) (by rw[h.bn]; omega)
 rw[h.sim.bl] at l1
 simp only[cond_false,e,Option.bind_some,Int.toNat_natCast,Nat.zero_add,l1]
end Go.Proofs.YtlaplcglpnlieaaGreat
end
section
namespace Go.Proofs.YtlaplcglpnlieaaGreat
open Go Go.AX
noncomputable local instance wG:AK:=As
local instance vn:Kn:=⟨true⟩
variable {σ:Aa} {m:HM} {t:RM} {i:RI}
theorem TK (k:Nat) (a b c:Int) (σ:Aa):ZU (Gn (k+1) a b c σ) σ (.bool (valid a b c)):=by
 simp only[ZU,YJ,Wx,Ao,Mt,Nat.zero_add,List.getElem?_cons_zero,List.getElem?_cons_succ,Option.bind_some,Am,je]
 by_cases hA:a<0∨a>15∨b<0∨b>200
 ·have h1:(bif bif bif decide (a<0) then true else decide (a>15) then true else decide (b<0) then true else decide (b>200))=true:=by
   simp[Bool.cond_eq_ite]; omega
  have h2:valid a b c=false:=by simp[valid]; omega
  rw[h1,h2]
  exact ⟨_,rfl⟩
 ·have h1:(bif bif bif decide (a<0) then true else decide (a>15) then true else decide (b<0) then true else decide (b>200))=false:=by
   simp[Bool.cond_eq_ite]; omega
  rw[h1]
  simp only[cond_false]
  by_cases h0:c=0
  ·subst h0
   have h2:valid a b 0=true:=by simp[valid]; omega
   rw[h2]
   exact ⟨_,rfl⟩
  have e0:(c == 0)=false:=by simpa using h0
  by_cases h3:c=3
  ·subst h3
   have h2:valid a b 3=true:=by simp[valid]; omega
   rw[h2]
   exact ⟨_,rfl⟩
  have e3:(c == 3)=false:=by simpa using h3
  simp only[e0,e3,cond_false,Option.bind_some,if_true,Sm]
  by_cases h4:c=1
  ·subst h4
   have h2:valid a b 1=decide (a≥1):=by rw[valid,decide_eq_decide]; simp; omega
   rw[h2]
   simp only[BEq.rfl,cond_true,Mt,List.getElem?_cons_zero,Option.bind_some,Am]
   exact ⟨_,rfl⟩
  have e4:(c == 1)=false:=by simpa using h4
  by_cases h5:c=2
  ·subst h5
   have h2:valid a b 2=decide (a≥2):=by rw[valid,decide_eq_decide]; simp; omega
   rw[h2]
   simp only[e4,cond_false,BEq.rfl,cond_true,Mt,List.getElem?_cons_zero,Option.bind_some,Am]
   exact ⟨_,rfl⟩
  have e5:(c == 2)=false:=by simpa using h5
  have h2:valid a b c=false:=by simp[valid]; omega
  simp only[e4,e5,cond_false,h2]
  exact ⟨_,rfl⟩
theorem HZ (k:Nat) (a b c:Int) (σ:Aa):ZU (BP (k+2) a b c σ) σ (.int .i64 (words a b c)):=by
 unfold ZU
 rw[YK,Wy]
 simp only[Ao,Mt,Nat.zero_add,List.getElem?_cons_zero,List.getElem?_cons_succ,Option.bind_some,Am]
 rw[(TK _ _ _ _ _).eq]
 simp only[Option.bind_some,Au,Xh,List.getElem?_cons_zero,List.getElem?_cons_succ,Am]
 unfold words
 rcases Bool.eq_false_or_eq_true (valid a b c) with hv | hv
 rotate_left
 ·simp only[hv,Bool.not_false,cond_true,cond_false,List.append_assoc]
  exact ⟨_,rfl⟩
 ·simp only[hv,Bool.not_true,cond_true,cond_false,List.append_assoc]
  simp[valid] at hv
  simp only[show ((2:Int)=0)=False from by simp,if_false]
  refine ⟨_,congrArg some (Prod.ext (congrArg (Value.int .i64) ?_) rfl)⟩
  simp only[Ad]
  have e1:IntKind.i64.wrap (2+a)=2+a:=by rw[IntKind.wrap_i64]; omega
  have e2:IntKind.i64.wrap (2+a+b)=2+a+b:=by rw[IntKind.wrap_i64]; omega
  rw[e1,e2,Int.tmod_eq_emod_of_nonneg (by omega),IntKind.wrap_i64]
  omega
theorem Ni {E:TypeId} {s by_:Nat} {z:Value} (hs:Jk P E=some s) (hb:bytesOf P E=some by_) (hz:GU P E=some z) (hz1:Jd z=false) (hz2:z.cells.size=s) (hs0:0<s) (hb0:0<by_) (hb1:by_≤1000)
  (σ τ:Aa) (sl:En) (n:Nat) (row:List Value) (n' c:Nat) (row':List Value) (T:TypeId) (hn:n+n'≤1000000) (hn0:0<n') (hr:row'.length=n'*s) (hsl:Cj E s (σ++τ) sl n row) (hbh:∀ a,sl.1=some a→σ.length≤a.block):
  ∃ s' τ',Bo P E sl (some ⟨(σ++τ).length,0,none⟩,n',c) (σ++τ++[.cells row' T true])=some (s',σ++τ')∧Cj E s (σ++τ') s' (n+n') (row++row')∧(∀ a,s'.1=some a→σ.length≤a.block):=by
 obtain ⟨s',σ',e,g,h⟩:=c9 hs hb hz hz1 hz2 hs0 hb0 hb1 (σ++τ) sl n row n' c row' T hn hn0 hr hsl
 obtain ⟨⟨τ',rfl⟩,h2⟩:=g.behind hbh
 exact ⟨s',τ',e,h,h2⟩
theorem Cj.ints {lo:Nat} {s:En} {l:List Int} (h:Cj Bk 1 σ s l.length (CP l)) (hl:∀ a,s.1=some a→lo≤a.block) (hne:l=[]→s=(none,0,0)):AL lo σ s l:=by
 by_cases e:l=[]
 ·exact .inl ⟨e,hne e⟩
 ·rcases h with ⟨h1,_,_⟩ | ⟨b,rfl,_,_,hc⟩
  ·exact absurd (List.length_eq_zero_iff.1 h1) e
  ·exact .inr ⟨b,hl _ rfl,rfl,e,hc⟩
theorem Xe (σ τ:Aa) (s:En) (l:List Int) (x:Int) (hl:l.length≤900000) (hs:AL σ.length (σ++τ) s l):
  ∃ s' τ',Bo P Bk s (some ⟨(σ++τ).length,0,none⟩,1,1) (σ++τ++[.cells [.int .i64 x] Bk true])=some (s',σ++τ')∧AL σ.length (σ++τ') s' (l++[x]):=by
 obtain ⟨s',τ',e,h1,h2⟩:=Ni ua tN ud rfl rfl (by decide) (by decide) (by decide) σ τ s l.length (CP l) 1 1 [.int .i64 x] Bk (by omega) (by decide) rfl hs.sl (fun a ha=>(hs.ge a ha).1)
 refine ⟨s',τ',e,Cj.ints ?_ h2 (fun e=>by simp at e)⟩
 rw[T9,List.length_append]
 exact h1
theorem RG.drop (h:RG σ i m t) {x:Nat} (hx:x<t.ob.length):∃ j,(BV m)[x]?=some j∧x<(BV m).length∧Start m j∧t.ob[x]?=some (DD m j):=by
 have hl:t.ob.length=(BV m).length:=by rw[h.sim.ob]; simp[KZ]
 have hx':x<(BV m).length:=by omega
 refine ⟨(BV m)[x],List.getElem?_eq_getElem hx',hx',CA.1 (List.getElem_mem hx'), ?_⟩
 rw[h.sim.ob]
 unfold KZ
 rw[List.getElem?_map,List.getElem?_eq_getElem hx']; rfl
theorem RG.sW (h:RG σ i m t):t.ob.length=(BV m).length:=by rw[h.sim.ob]; simp[KZ]
structure At (σ:Aa) (i:RI) (m:HM) (t:RM) (x j b:Nat) (p:En × En):Prop where
 st:Start m j
 all:(BV m)[x]?=some j
 xl:x<(BV m).length
 os:i.os.1=some ⟨b,0,none⟩
 cell:σ[b]?=some (.cells (HY t.ob i.om) Ak true)
 om:i.om[x]?=some p
 ld:rS σ b x (DD m j) p
 lt:j<2048
 dr:(BV m).drop x=j::(BV m).drop (x+1)
theorem RG.sX (h:RG σ i m t) {x:Nat} (hx:x<t.ob.length):∃ j b p,At σ i m t x j b p:=by
 obtain ⟨j,h1,h2,h3,h4⟩:=h.drop hx
 obtain ⟨b,e1,e2,L⟩:=h.at_.obj hx
 have hom:x<i.om.length:=by rw[h.at_.ol]; exact hx
 have eo:t.ob[x]=DD m j:=by rw[List.getElem?_eq_getElem hx] at h4; exact Option.some.inj h4
 have L:=L hom
 rw[eo] at L
 have:=h3.1
 have:=h.nt
 refine ⟨j,b,i.om[x],h3,h1,h2,e1,e2,List.getElem?_eq_getElem hom,L,by omega, ?_⟩
 rw[List.drop_eq_getElem_cons h2]
 rw[List.getElem?_eq_getElem h2] at h1
 rw[Option.some.inj h1]
theorem cA (k:Nat) (h:RG σ i m t):∀ (n x f:Nat) (τ:Aa) (s:En),x+n=t.ob.length→AL σ.length (σ++τ) s (DE ((BV m).take x))→n<f →
  ∃ τ' s',FB (k+1) f (Cg i) s (x:Int) (σ++τ)=some (.exit 0,[.slice s'.1 s'.2.1 s'.2.2],σ++τ')∧AL σ.length (σ++τ') s' (DE (BV m))
 | 0,x,0,τ,s,hx,hs,hf=>by omega
 | 0,x,f+1,τ,s,hx,hs,hf=>by
   have ha:=h.sW
   have hg:=h.app τ
   rw[NF,LD]
   have q:decide ((x:Int)<((t.ob.length:Nat):Int))=false:=decide_eq_false (by omega)
   rw[List.take_of_length_le (by omega)] at hs
   exact ⟨τ,s,by simp only[I9 k hg,Option.bind_some,Au,cond_true,Nat.zero_add,hg.at_.Mm,q,cond_false],hs⟩
 | n+1,x,0,τ,s,hx,hs,hf=>by omega
 | n+1,x,f+1,τ,s,hx,hs,hf=>by
   have hol:=h.ol
   have hxl:x<t.ob.length:=by omega
   have hg:=h.app τ
   obtain ⟨j,b,p,A⟩:=hg.sX hxl
   obtain ⟨s1,τ1,e1,i1⟩:=Xe σ τ s _ ((2*j:Nat):Int) (by simp[DE]; omega) hs
   have e1':Bo P Bk (s.1,s.2.1,s.2.2) (some ⟨(σ++τ).length,0,none⟩,1,1) (σ++τ++[.cells [.int .i64 ((2*j:Nat):Int)] Bk true])=_:=e1
   obtain ⟨τ2,s2,e2,i2⟩:=cA k h n (x+1) f τ1 s1 (by omega) (by
    have:(BV m).take (x+1)=(BV m).take x++[j]:=by rw[List.take_add_one,A.all]; rfl
    rw[this]
    simpa [DE] using i1) (by omega)
   refine ⟨τ2,s2, ?_,i2⟩
   rw[NF,LD]
   have q:decide ((x:Int)<((t.ob.length:Nat):Int))=true:=decide_eq_true (by omega)
   have qx:(0≤(x:Int)∧(x:Int)<((t.ob.length:Nat):Int))=True:=eq_true (by omega)
   have w1:Ad ((x:Int)+1)=((x+1:Nat):Int):=Ac (by unfold AN; omega)
   have l0:Ai .i64 (σ++τ) b (x*8)=some ((2*j:Nat):Int):=A.ld.l0
   simp only[I9 k hg,Option.bind_some,Au,cond_true,Nat.zero_add,Nat.add_zero,hg.at_.Mm,q,qx,if_true,A.os,Int.toNat_natCast,l0,Ao,e1',w1]
   exact e2
theorem qT (k:Nat) (hk:5000≤k) (h:RG σ i m t):∃ τ s,IY (k+2) (Cg i) σ=some (.slice s.1 s.2.1 s.2.2,σ++τ)∧AL σ.length (σ++τ) s (DE (BV m)):=by
 have hol:=h.ol
 obtain ⟨τ,s,e,hs⟩:=cA k h t.ob.length 0 (k+1) [] (none,0,0) (by omega) (.inl ⟨rfl,rfl⟩) (by omega)
 rw[List.append_nil,show ((0:Nat):Int)=0 from rfl] at e
 refine ⟨τ,s, ?_,hs⟩
 rw[Wj,Sy]
 simp only[e,Option.bind_some,if_true,Gj]
def qM (L:List Nat) (b:Int):List Nat:=L.filter fun j=>decide (((2*j/64:Nat):Int)=b)
theorem QV (k:Nat) (h:RG σ i m t) (bk:Int):∀ (n x f:Nat) (τ:Aa) (s:En),x+n=t.ob.length→AL σ.length (σ++τ) s (DE (qM ((BV m).take x) bk))→n<f →
  ∃ τ' s',Ek (k+1) f (Cg i) bk s (x:Int) (σ++τ)=some (.exit 0,[.slice s'.1 s'.2.1 s'.2.2],σ++τ')∧AL σ.length (σ++τ') s' (DE (qM (BV m) bk))
 | 0,x,0,τ,s,hx,hs,hf=>by omega
 | 0,x,f+1,τ,s,hx,hs,hf=>by
   have ha:=h.sW
   have hg:=h.app τ
   rw[Ho,G2]
   have q:decide ((x:Int)<((t.ob.length:Nat):Int))=false:=decide_eq_false (by omega)
   rw[List.take_of_length_le (by omega)] at hs
   exact ⟨τ,s,by simp only[I9 k hg,Option.bind_some,Au,cond_true,Nat.zero_add,hg.at_.Mm,q,cond_false],hs⟩
 | n+1,x,0,τ,s,hx,hs,hf=>by omega
 | n+1,x,f+1,τ,s,hx,hs,hf=>by
   have hol:=h.ol
   have hxl:x<t.ob.length:=by omega
   have hg:=h.app τ
   obtain ⟨j,b,p,A⟩:=hg.sX hxl
   have hjl:=A.lt
   have q:decide ((x:Int)<((t.ob.length:Nat):Int))=true:=decide_eq_true (by omega)
   have qx:(0≤(x:Int)∧(x:Int)<((t.ob.length:Nat):Int))=True:=eq_true (by omega)
   have w1:Ad ((x:Int)+1)=((x+1:Nat):Int):=Ac (by unfold AN; omega)
   have w2:Ad ((((2*j:Nat):Int)).tdiv 64)=((2*j/64:Nat):Int):=by rw[show (((2*j:Nat):Int)).tdiv 64=((2*j/64:Nat):Int) from rfl]; exact Ac (by unfold AN; omega)
   have l0:Ai .i64 (σ++τ) b (x*8)=some ((2*j:Nat):Int):=A.ld.l0
   have htk:qM ((BV m).take (x+1)) bk=qM ((BV m).take x) bk++(if ((2*j/64:Nat):Int)=bk then [j] else []):=by
    rw[List.take_add_one,A.all]
    unfold qM
    rw[List.filter_append]
    congr 1
    show List.filter _ [j]=_
    by_cases e:((2*j/64:Nat):Int)=bk
    ·rw[if_pos e,List.filter_cons,if_pos (decide_eq_true e),List.filter_nil]
    ·rw[if_neg e,List.filter_cons,if_neg (by rw[decide_eq_true_eq]; exact e),List.filter_nil]
   by_cases e:((2*j/64:Nat):Int)=bk
   ·obtain ⟨s1,τ1,e1,i1⟩:=Xe σ τ s _ ((2*j:Nat):Int) (by
     have:=List.length_filter_le (fun j=>decide (((2*j/64:Nat):Int)=bk)) ((BV m).take x)
     simp[DE,qM] at this ⊢; omega) hs
    have e1':Bo P Bk (s.1,s.2.1,s.2.2) (some ⟨(σ++τ).length,0,none⟩,1,1) (σ++τ++[.cells [.int .i64 ((2*j:Nat):Int)] Bk true])=_:=e1
    obtain ⟨τ2,s2,e2,i2⟩:=QV k h bk n (x+1) f τ1 s1 (by omega) (by
     rw[htk,if_pos e]
     simpa [DE] using i1) (by omega)
    refine ⟨τ2,s2, ?_,i2⟩
    rw[Ho,G2]
    simp only[I9 k hg,Option.bind_some,Au,cond_true,Nat.zero_add,Nat.add_zero,hg.at_.Mm,q,qx,if_true,A.os,Int.toNat_natCast,l0,show ((64:Int)=0)=False from by decide,if_false,w2,beq_iff_eq.2 e,Ao,e1',Gj,w1]
    exact e2
   ·obtain ⟨τ2,s2,e2,i2⟩:=QV k h bk n (x+1) f τ s (by omega) (by
     rw[htk,if_neg e,List.append_nil]
     exact hs) (by omega)
    refine ⟨τ2,s2, ?_,i2⟩
    rw[Ho,G2]
    simp only[I9 k hg,Option.bind_some,Au,cond_true,Nat.zero_add,Nat.add_zero,hg.at_.Mm,q,qx,if_true,A.os,Int.toNat_natCast,l0,show ((64:Int)=0)=False from by decide,if_false,w2,beq_eq_false_iff_ne.2 e,cond_false,Gj,w1]
    exact e2
def ct (m:HM) (b:Int):List Nat:=if 0≤b∧b<(m.bls.length:Int) then Ck m (32*b.toNat) 32 else []
theorem si (m:HM) (b:Int):qM (BV m) b=ct m b:=by
 unfold ct
 split
 ·rename_i hb
  refine OQ ((EX m).filter _) ((List.pairwise_lt_range' (step:=1) (by decide)).filter _) fun a=>?_
  unfold qM
  rw[List.mem_filter,CA,decide_eq_true_eq]
  show _↔a ∈ Ck m (32*b.toNat) 32
  rw[JD]
  constructor
  ·rintro ⟨h1,h2⟩; exact ⟨by omega,by omega,h1.2⟩
  ·rintro ⟨h1,h2,h3⟩; exact ⟨⟨by omega,h3⟩,by omega⟩
 ·rename_i hb
  unfold qM
  rw[List.filter_eq_nil_iff]
  intro j hj
  have:=(CA.1 hj).1
  rw[decide_eq_true_eq]
  omega
theorem ZG (k:Nat) (hk:5000≤k) (h:RG σ i m t) (b:Int):∃ τ s,Et (k+2) (Cg i) b σ=some (.slice s.1 s.2.1 s.2.2,σ++τ)∧AL σ.length (σ++τ) s (DE (ct m b)):=by
 have hol:=h.ol
 obtain ⟨τ,s,e,hs⟩:=QV k h b t.ob.length 0 (k+1) [] (none,0,0) (by omega) (.inl ⟨rfl,rfl⟩) (by omega)
 rw[List.append_nil,show ((0:Nat):Int)=0 from rfl] at e
 rw[si] at hs
 refine ⟨τ,s, ?_,hs⟩
 rw[SD,OZ]
 simp only[e,Option.bind_some,if_true,Gj]
theorem VA (k:Nat) (h:RG σ i m t) (a:Int):∀ (n x f:Nat) (τ:Aa),x+n=t.ob.length→n<f →
  ∃ τ',Fb (k+2) f (Cg i) a (x:Int) (σ++τ)=some (match Ur (t.ob.drop x) a with | some o=>(.ret,[.int .i64 o.addr,.int .i64 0],σ++τ') | none=>(.exit 0,[],σ++τ'))
 | 0,x,0,τ,hx,hf=>by omega
 | 0,x,f+1,τ,hx,hf=>by
   have hg:=h.app τ
   rw[Na,KD,List.drop_eq_nil_of_le (by omega)]
   have q:decide ((x:Int)<((t.ob.length:Nat):Int))=false:=decide_eq_false (by omega)
   exact ⟨τ,by simp only[Option.bind_some,Nat.zero_add,hg.at_.Mm,q,cond_false,Ur]⟩
 | n+1,x,0,τ,hx,hf=>by omega
 | n+1,x,f+1,τ,hx,hf=>by
   have hol:=h.ol
   have hxl:x<t.ob.length:=by omega
   have hg:=h.app τ
   obtain ⟨j,b,p,A⟩:=hg.sX hxl
   have hz:=h.inv.size A.st
   have hjl:=A.lt
   have hw:=cH h.inv A.st
   obtain ⟨j',_,_,_,ho⟩:=h.drop hxl
   have hoj:t.ob[x]=DD m j:=by
    obtain ⟨j2,g1,_,_,g4⟩:=h.drop hxl
    rw[A.all] at g1; cases g1
    rw[List.getElem?_eq_getElem hxl] at g4; exact Option.some.inj g4
   obtain ⟨τ1,e1⟩:=HZ k (BA m j) (D9 m j) (FD m j) (σ++τ)
   rw[(jS h.inv A.st).2.2.2.2.2.2.2,List.append_assoc] at e1
   have hg1:=h.app (τ++τ1)
   rw[List.drop_eq_getElem_cons hxl,hoj,Ur,hw,Je]
   have q:decide ((x:Int)<((t.ob.length:Nat):Int))=true:=decide_eq_true (by omega)
   have qx:(0≤(x:Int)∧(x:Int)<((t.ob.length:Nat):Int))=True:=eq_true (by omega)
   have w1:Ad ((x:Int)+1)=((x+1:Nat):Int):=Ac (by unfold AN; omega)
   have w2:Ad (((2*j:Nat):Int)+(sz m j:Int))=((2*j:Nat):Int)+(sz m j:Int):=Ac (by unfold AN; omega)
   have l0:Ai .i64 (σ++τ) b (x*8)=some ((2*j:Nat):Int):=A.ld.l0
   have l2:Ai .i64 (σ++τ) b (x*8+2)=some (BA m j):=A.ld.l2
   have l3:Ai .i64 (σ++τ) b (x*8+3)=some (D9 m j):=A.ld.l3
   have l4:Ai .i64 (σ++τ) b (x*8+4)=some (FD m j):=A.ld.l4
   rw[Na,KD]
   by_cases c1:((2*j:Nat):Int)≤a
   ·by_cases c2:a<((2*j:Nat):Int)+(sz m j:Int)
    ·obtain ⟨j3,b3,p3,A3⟩:=hg1.sX hxl
     have:j3=j:=by have:=A3.all; rw[A.all] at this; exact (Option.some.inj this).symm
     subst this
     have l0':Ai .i64 (σ++(τ++τ1)) b3 (x*8)=some ((2*j3:Nat):Int):=A3.ld.l0
     have:b3=b:=by have:=A3.os; rw[A.os] at this; cases this; rfl
     subst this
     refine ⟨τ++τ1, ?_⟩
     rw[if_pos ⟨c1,c2⟩]
     simp only[Option.bind_some,Nat.zero_add,Nat.add_zero,Nat.add_assoc,Nat.reduceAdd,hg.at_.Mm,q,cond_true,qx,if_true,A.os,Int.toNat_natCast,l0,decide_eq_true (show a≥((2*j3:Nat):Int) from c1),l2,l3,l4,e1,Am,w2,decide_eq_true c2,hg1.at_.Mm,l0']
     rfl
    ·obtain ⟨τ2,e2⟩:=VA k h a n (x+1) f (τ++τ1) (by omega) (by omega)
     refine ⟨τ2, ?_⟩
     rw[if_neg (fun h=>c2 h.2),← e2]
     simp only[Option.bind_some,Nat.zero_add,Nat.add_zero,Nat.add_assoc,Nat.reduceAdd,hg.at_.Mm,q,cond_true,qx,if_true,A.os,Int.toNat_natCast,l0,decide_eq_true (show a≥((2*j:Nat):Int) from c1),l2,l3,l4,e1,Am,w2,decide_eq_false c2,cond_false,w1]
   ·obtain ⟨τ2,e2⟩:=VA k h a n (x+1) f τ (by omega) (by omega)
    refine ⟨τ2, ?_⟩
    rw[if_neg (fun h=>c1 h.1),← e2]
    simp only[Option.bind_some,Nat.zero_add,Nat.add_zero,hg.at_.Mm,q,cond_true,qx,if_true,A.os,Int.toNat_natCast,l0,decide_eq_false (show ¬ a≥((2*j:Nat):Int) from c1),cond_false,w1]
theorem pJ (k:Nat) (hk:5000≤k) (h:RG σ i m t) (a:Int):∃ τ,HS (k+3) (Cg i) a σ =
  some (match Nf m a with | some j=>.tuple #[.int .i64 ((2*j:Nat):Int),.int .i64 0] | none=>.tuple #[.int .i64 0,.int .i64 4],σ++τ):=by
 have hol:=h.ol
 obtain ⟨τ,e⟩:=VA k h a t.ob.length 0 (k+2) [] (by omega) (by omega)
 rw[List.append_nil,show ((0:Nat):Int)=0 from rfl,List.drop_zero,h.sim.find h.inv] at e
 refine ⟨τ, ?_⟩
 rw[Vi,Rw]
 simp only[I9 (k+1) h,Option.bind_some,Au,Bool.not_true,cond_false,e]
 cases Nf m a with
 | none=>simp only[Option.map_none,if_true]
 | some j=>simp only[Option.map_some,reduceCtorEq,if_false,if_true,GS,Je]
end Go.Proofs.YtlaplcglpnlieaaGreat
end
section
namespace Go.Proofs.YtlaplcglpnlieaaGreat
open Go Go.AX
noncomputable local instance wH:AK:=As
local instance vo:Kn:=⟨true⟩
variable {σ:Aa} {m:HM} {t:RM} {i:RI}
theorem Yh (h:RG σ i m t) {b:Nat} (hb:b<m.bls.length):∃ q,i.bs.1=some ⟨q,0,none⟩∧Ai .i64 σ q (b*2)=some (m.bls.getD b (0,0)).1∧Ai .i64 σ q (b*2+1)=some (m.bls.getD b (0,0)).2∧σ[q]?=some (.cells (CG m.bls) AA true):=by
 obtain ⟨q,e,l0,l1,hc⟩:=VR h.at_.bl (x:=b) (by rw[h.bn]; exact hb)
 rw[h.sim.bl] at l0 l1 hc
 exact ⟨q,e,l0,l1,hc⟩
theorem Yg (k:Nat) (h:RG σ i m t) {b:Nat} (hb:b<m.bls.length) (hst:(m.bls.getD b (0,0)).1=2):∀ (f n:Nat),m.bls.length≤b+n+f→n≤m.bls.length→DW k (f+1) (Cg i) (b:Int) (n:Int) σ=some (.exit 0,[.int .i64 (EO m b f n:Int)],σ)
 | 0,n,h1,h2=>by
   have hnt:=h.nt
   rw[Ma,Kf,EO]
   have w:Ad ((b:Int)+(n:Int))=((b+n:Nat):Int):=by rw[Ac (by unfold AN; omega)]; omega
   have q:decide (((b+n:Nat):Int)<((m.bls.length:Nat):Int))=false:=decide_eq_false (by omega)
   simp only[Option.bind_some,Nat.zero_add,Nat.add_zero,h.at_.SN,h.bn,w,q,cond_false]
 | f+1,n,h1,h2=>by
   have hnt:=h.nt
   rw[Ma,Kf,EO]
   have w:Ad ((b:Int)+(n:Int))=((b+n:Nat):Int):=by rw[Ac (by unfold AN; omega)]; omega
   have w1:Ad ((n:Int)+1)=((n+1:Nat):Int):=Ac (by unfold AN; omega)
   simp only[Option.bind_some,Nat.zero_add,Nat.add_zero,h.at_.SN,h.bn,w,hst,true_and]
   by_cases hc:b+n<m.bls.length
   ·obtain ⟨q,e,l0,_,_⟩:=Yh h hc
    have q1:decide (((b+n:Nat):Int)<((m.bls.length:Nat):Int))=true:=decide_eq_true (by omega)
    have qx:(0≤((b+n:Nat):Int)∧((b+n:Nat):Int)<((m.bls.length:Nat):Int))=True:=eq_true (by omega)
    simp only[q1,cond_true,qx,if_true,e,Option.bind_some,Int.toNat_natCast,Nat.zero_add,l0]
    by_cases h3:(m.bls.getD (b+n) (0,0)).1=3
    ·rw[if_pos ⟨hc,h3⟩,beq_iff_eq.2 h3]
     simp only[cond_true,w1]
     exact Yg k h hb hst f (n+1) (by omega) (by omega)
    ·rw[if_neg (fun h=>h3 h.2),beq_eq_false_iff_ne.2 h3]
     simp only[cond_false]
   ·have q1:decide (((b+n:Nat):Int)<((m.bls.length:Nat):Int))=false:=decide_eq_false (by omega)
    have qn:(b+n<m.bls.length∧(m.bls.getD (b+n) (0,0)).1=3)=False:=eq_false (fun h=>hc h.1)
    simp only[q1,cond_false,Option.bind_some,qn,if_false]
def Sn (m:HM) (b:Nat):Nat:=if (m.bls.getD b (0,0)).1=1 then 1 else if (m.bls.getD b (0,0)).1=2 then Eg m b else 0
theorem Zb (k:Nat) (hk:100≤k) (h:RG σ i m t) {b:Nat} (hb:b<m.bls.length):Cd (k+1) (Cg i) (b:Int) σ=some (.int .i64 (Sn m b:Int),σ):=by
 have hnt:=h.nt
 obtain ⟨q,e,l0,_,_⟩:=Yh h hb
 have qx:(0≤(b:Int)∧(b:Int)<((m.bls.length:Nat):Int))=True:=eq_true (by omega)
 rw[U6,Q5]
 simp only[Option.bind_some,Nat.zero_add,Nat.add_zero,h.at_.SN,h.bn,qx,if_true,e,Int.toNat_natCast,l0]
 unfold Sn
 by_cases h1:(m.bls.getD b (0,0)).1=1
 ·rw[if_pos h1,beq_iff_eq.2 h1]; rfl
 rw[if_neg h1,beq_eq_false_iff_ne.2 h1]
 by_cases h2:(m.bls.getD b (0,0)).1=2
 ·rw[if_pos h2]
  have e1:=Yg k h hb h2 (k-1) 1 (by omega) (by omega)
  rw[show k-1+1=k from by omega] at e1
  have e1':DW k k (Cg i) (b:Int) 1 σ=_:=e1
  simp only[h2,bne_self_eq_false,cond_false,e1',Option.bind_some,if_true,Ds]
  rw[Xt m b (k-1) m.bls.length 1 (by omega) (by omega)]; rfl
 ·rw[if_neg h2]
  simp only[cond_false,bne_iff_ne.2 h2,cond_true]
  rfl
theorem ZT (r d k:Int):0≤words r d k∧words r d k≤218:=Ue r d k
theorem jm (k:Nat) (r d c:Int) (σ:Aa):∃ τ,HV (k+3) r d c σ=some (.int .i64 ((words r d c+63).tdiv 64),σ++τ):=by
 obtain ⟨τ,e⟩:=HZ k r d c (σ++[AY.cells [.int .i64 r,.int .i64 d,.int .i64 c] Ag true])
 have hw:=ZT r d c
 refine ⟨[AY.cells [.int .i64 r,.int .i64 d,.int .i64 c] Ag true]++τ, ?_⟩
 rw[ae,X6]
 simp only[Ao,Mt,Nat.zero_add,Nat.reduceAdd,List.getElem?_cons_zero,List.getElem?_cons_succ,Option.bind_some,Am,e,show ((64:Int)=0)=False from by decide,if_false]
 have w1:Ad (words r d c+64)=words r d c+64:=Ac (by unfold AN; omega)
 have w2:Ad (words r d c+64-1)=words r d c+63:=by rw[Ac (by unfold AN; omega)]; omega
 obtain ⟨n,hn⟩:∃ n:Nat,words r d c+63=(n:Int):=⟨(words r d c+63).toNat,by omega⟩
 have w3:Ad ((words r d c+63).tdiv 64)=(words r d c+63).tdiv 64:=by
  rw[hn,show ((n:Int)).tdiv 64=((n/64:Nat):Int) from rfl]; exact Ac (by unfold AN; omega)
 rw[w1,w2,w3,List.append_assoc]
theorem YZ (k:Nat) (r d c:Int) (σ:Aa):∃ τ,EM (k+3) r d c σ=some (.bool (decide (words r d c>32)),σ++τ):=by
 obtain ⟨τ,e⟩:=HZ k r d c (σ++[AY.cells [.int .i64 r,.int .i64 d,.int .i64 c] Ag true])
 refine ⟨[AY.cells [.int .i64 r,.int .i64 d,.int .i64 c] Ag true]++τ, ?_⟩
 rw[YI,Ww]
 simp only[Ao,Mt,Nat.zero_add,Nat.reduceAdd,List.getElem?_cons_zero,List.getElem?_cons_succ,Option.bind_some,Am,e]
 rw[List.append_assoc]
theorem Tv {q:Nat} {x y z:Int} {T:TypeId} (h:σ[q]?=some (.cells [.int .i64 x,.int .i64 y,.int .i64 z] T true)):Ai .i64 σ q 0=some x∧Ai .i64 σ q 1=some y∧Ai .i64 σ q 2=some z:=by
 refine ⟨?_, ?_, ?_⟩ <;> simp[Ai,G1,h,B8]
theorem RH (k:Nat) (h:RG σ i m t) (a but:Int) (ha:0≤a∧a<4096) {q:Nat} {r d c:Int} (hq:σ[q]?=some (.cells [.int .i64 r,.int .i64 d,.int .i64 c] Ag true)):∀ (n x f:Nat) (τ:Aa),x+n=t.ob.length→n<f →
  ∃ τ',Dx (k+2) f (Cg i) a but q (x:Int) (σ++τ)=some (if cD (t.ob.drop x) a (words r d c) but then (.ret,[.int .i64 8],σ++τ') else (.exit 0,[],σ++τ'))
 | 0,x,0,τ,hx,hf=>by omega
 | 0,x,f+1,τ,hx,hf=>by
   have hg:=h.app τ
   rw[Nc,KF,List.drop_eq_nil_of_le (by omega)]
   have q:decide ((x:Int)<((t.ob.length:Nat):Int))=false:=decide_eq_false (by omega)
   exact ⟨τ,by simp only[Option.bind_some,Nat.zero_add,hg.at_.Mm,q,cond_false,cD,List.any_nil,Bool.false_eq_true,if_false]⟩
 | n+1,x,0,τ,hx,hf=>by omega
 | n+1,x,f+1,τ,hx,hf=>by
   have hol:=h.ol
   have hxl:x<t.ob.length:=by omega
   have hg:=h.app τ
   obtain ⟨j,b,p,A⟩:=hg.sX hxl
   have hz:=h.inv.size A.st
   have hjl:=A.lt
   have hw:=cH h.inv A.st
   have hwr:=ZT r d c
   have hoj:t.ob[x]=DD m j:=by
    obtain ⟨j2,g1,_,_,g4⟩:=h.drop hxl
    rw[A.all] at g1; cases g1
    rw[List.getElem?_eq_getElem hxl] at g4; exact Option.some.inj g4
   have hov:cD (t.ob.drop x) a (words r d c) but=(decide ((DD m j).id≠but∧((2*j:Nat):Int)<a+words r d c∧a<((2*j:Nat):Int)+(sz m j:Int)) || cD (t.ob.drop (x+1)) a (words r d c) but):=by
    rw[List.drop_eq_getElem_cons hxl,hoj]
    unfold cD
    rw[List.any_cons,hw,Je]
   obtain ⟨B,hB⟩:∃ B,AY.cells (FL (DD m j) p) Ak true=B:=⟨_,rfl⟩
   have st:JM (σ++τ++[AY.cells [.int .i64 0,.int .i64 0,.int .i64 0,.int .i64 0,.int .i64 0,.slice none 0 0,.slice none 0 0,.bool false] Ak true]) (σ++τ).length 0 [.int .i64 (DD m j).addr,.int .i64 (DD m j).id,.int .i64 (DD m j).r,.int .i64 (DD m j).d,.int .i64 (DD m j).k,.slice p.1.1 p.1.2.1 p.1.2.2,.slice p.2.1 p.2.2.1 p.2.2.2,.bool (DD m j).pin]=some (σ++τ++[B]):=by
    rw[pY,← hB]; rfl
   have lb:∀ (τ':Aa) (o:Nat),Ai .i64 (σ++τ++[B]++τ') (σ++τ).length o=((FL (DD m j) p)[o]?).bind (B8 .i64):=fun τ' o=>by rw[← hB]; exact Xh _ _ _ _ _ _ _
   have lb0:∀ (o:Nat),Ai .i64 (σ++τ++[B]) (σ++τ).length o=((FL (DD m j) p)[o]?).bind (B8 .i64):=fun o=>by have:=lb [] o; rwa [List.append_nil] at this
   have hq':(σ++τ++[B])[q]?=some (.cells [.int .i64 r,.int .i64 d,.int .i64 c] Ag true):=by
    rw[List.append_assoc,List.getElem?_append_left (Ae hq)]; exact hq
   obtain ⟨b0,b1,b2⟩:=Tv hq'
   obtain ⟨τ1,e1⟩:=HZ k r d c (σ++τ++[B])
   obtain ⟨τ2,e2⟩:=HZ k (BA m j) (D9 m j) (FD m j) (σ++τ++[B]++τ1)
   rw[(jS h.inv A.st).2.2.2.2.2.2.2] at e2
   have q0:decide ((x:Int)<((t.ob.length:Nat):Int))=true:=decide_eq_true (by omega)
   have qx:(0≤(x:Int)∧(x:Int)<((t.ob.length:Nat):Int))=True:=eq_true (by omega)
   have w1:Ad ((x:Int)+1)=((x+1:Nat):Int):=Ac (by unfold AN; omega)
   have w2:Ad (a+words r d c)=a+words r d c:=Ac (by unfold AN; omega)
   have w3:Ad (((2*j:Nat):Int)+(sz m j:Int))=((2*j:Nat):Int)+(sz m j:Int):=Ac (by unfold AN; omega)
   have c0:((FL (DD m j) p)[0]?).bind (B8 .i64)=some ((2*j:Nat):Int):=rfl
   have c1:((FL (DD m j) p)[1]?).bind (B8 .i64)=some (DD m j).id:=rfl
   have c2:((FL (DD m j) p)[2]?).bind (B8 .i64)=some (BA m j):=rfl
   have c3:((FL (DD m j) p)[3]?).bind (B8 .i64)=some (D9 m j):=rfl
   have c4:((FL (DD m j) p)[4]?).bind (B8 .i64)=some (FD m j):=rfl
   rw[hov,Nc,KF]
   simp only[Option.bind_some,Nat.zero_add,Nat.add_zero,Nat.add_assoc,Nat.reduceAdd,hg.at_.Mm,q0,cond_true,qx,if_true,A.os,Int.toNat_natCast,A.ld.l0,A.ld.l1,A.ld.l2,A.ld.l3,A.ld.l4,A.ld.l5,A.ld.l6,A.ld.l7,Ao,st,lb0,c1]
   by_cases d1:(DD m j).id=but
   ·obtain ⟨τ3,e3⟩:=RH k h a but ha hq n (x+1) f (τ++[B]) (by omega) (by omega)
    refine ⟨τ3, ?_⟩
    have:((DD m j).id != but)=false:=by rw[d1]; exact bne_self_eq_false _
    rw[decide_eq_false (fun h=>h.1 d1),Bool.false_or]
    simp only[← List.append_assoc] at e3
    simp only[this,cond_false,Option.bind_some,w1]
    exact e3
   ·have hb1:((DD m j).id != but)=true:=bne_iff_ne.2 d1
    by_cases d2:((2*j:Nat):Int)<a+words r d c
    ·by_cases d3:a<((2*j:Nat):Int)+(sz m j:Int)
     ·refine ⟨τ++[B]++τ1++τ2, ?_⟩
      rw[decide_eq_true ⟨d1,d2,d3⟩]
      simp only[hb1,cond_true,lb0,c0,Option.bind_some,b0,b1,b2,e1,Am,w2,decide_eq_true d2,lb,c2,c3,c4,e2,w3,decide_eq_true d3,Bool.true_or,if_true]
      simp only[← List.append_assoc]
     ·obtain ⟨τ3,e3⟩:=RH k h a but ha hq n (x+1) f (τ++[B]++τ1++τ2) (by omega) (by omega)
      refine ⟨τ3, ?_⟩
      rw[decide_eq_false (fun h=>d3 h.2.2),Bool.false_or]
      simp only[← List.append_assoc] at e3
      simp only[hb1,cond_true,lb0,c0,Option.bind_some,b0,b1,b2,e1,Am,w2,decide_eq_true d2,lb,c2,c3,c4,e2,w3,decide_eq_false d3,cond_false,w1]
      exact e3
    ·obtain ⟨τ3,e3⟩:=RH k h a but ha hq n (x+1) f (τ++[B]++τ1) (by omega) (by omega)
     refine ⟨τ3, ?_⟩
     rw[decide_eq_false (fun h=>d2 h.2.1),Bool.false_or]
     simp only[← List.append_assoc] at e3
     simp only[hb1,cond_true,lb0,c0,Option.bind_some,b0,b1,b2,e1,Am,w2,decide_eq_false d2,cond_false,w1]
     exact e3
theorem T6 {hi:Nat} {but:Int}:∀ {f x:Nat},Mf m hi but f x=false → ∃ y o,x≤y∧y<hi∧Nf m (y:Int)=some o∧((2*o:Nat):Int)≠but
 | 0,x,h=>by cases h
 | f+1,x,h=>by
   rw[Mf] at h
   split at h
   ·rename_i hx
    split at h
    ·rename_i o ho
     split at h
     ·obtain ⟨y,o',h1,h2⟩:=T6 h
      exact ⟨y,o',by omega,h2⟩
     ·rename_i hne
      exact ⟨x,o,Nat.le_refl _,hx,ho,hne⟩
    ·obtain ⟨y,o',h1,h2⟩:=T6 h
     exact ⟨y,o',by omega,h2⟩
   ·cases h
theorem pM (hI:Inv m) {a w:Nat} {but bid:Int} (ha:a % 2=0) (hw:w % 2=0) (hw0:2≤w) (hwl:w≤218) (hb:∀ o,Start m o→(((2*o:Nat):Int)=but↔m.wds.getD (2*o) 0=bid)):cD (KZ m) (a:Int) (w:Int) bid = !Mf m (a+w) but 200 a:=by
 rw[Bool.eq_iff_iff,Bool.not_eq_true']
 unfold cD KZ
 rw[List.any_eq_true]
 constructor
 ·rintro ⟨o,ho,hd⟩
  obtain ⟨j,hj,rfl⟩:=List.mem_map.1 ho
  have hs:=CA.1 hj
  rw[decide_eq_true_eq,cH hI hs,Je] at hd
  have hz:=hI.size hs
  cases hf:Mf m (a+w) but 200 a with
  | false=>rfl
  | true=>
    have hfit:=hI.fit j hs
    by_cases hc:a≤2*j
    ·have:=VL hf (by omega) ((2*j-a)/2) (by omega) j (by
      rw[show a+2*((2*j-a)/2)=2*j from by omega]
      unfold Nf
      rw[if_pos (by omega),Int.toNat_natCast,hI.Qm hs (by omega) (by omega)])
     exact absurd ((hb j hs).1 this) hd.1
    ·have:=VL hf (by omega) 0 (by omega) j (by
      unfold Nf
      rw[if_pos (by omega),Int.toNat_natCast,hI.Qm hs (by omega) (by omega)])
     exact absurd ((hb j hs).1 this) hd.1
 ·intro hf
  obtain ⟨y,o,h1,h2,h3,h4⟩:=T6 hf
  unfold Nf at h3
  split at h3
  ·rw[Int.toNat_natCast] at h3
   obtain ⟨s1,_,s3,s4⟩:=QL h3
   refine ⟨DD m o,List.mem_map.2 ⟨o,CA.2 s1,rfl⟩, ?_⟩
   rw[decide_eq_true_eq,cH hI s1,Je]
   exact ⟨fun e=>h4 ((hb o s1).2 e),by omega,by omega⟩
  ·cases h3
theorem pP (k:Nat) (hk:5000≤k) (h:RG σ i m t) (a but bid:Int) {r d c:Int} (hv:valid r d c=true) (hb:∀ o,Start m o→(((2*o:Nat):Int)=but↔m.wds.getD (2*o) 0=bid)):
  ∃ τ,HU (k+4) (Cg i) a r d c bid σ=some (.int .i64 (Jt m a (Rf (num r d c)) but),σ++τ):=by
 have hnt:=h.nt
 have hwl:=h.wl
 have hol:=h.ol
 have hsz:words r d c=(Rf (num r d c):Int):=by
  obtain ⟨p1,p2,p3,_⟩:=Ll hv
  rw[aH,p1,p2,p3]
 have hs2:=OX hv
 have hv':=hv
 simp[valid] at hv'
 have hW:Rf (num r d c) % 2=0∧2≤Rf (num r d c)∧Rf (num r d c)≤218:=by rw[hs2]; omega
 obtain ⟨W,hWe⟩:∃ W,Rf (num r d c)=W:=⟨_,rfl⟩
 rw[hWe] at hsz hW ⊢
 obtain ⟨B,hB⟩:∃ B,AY.cells [.int .i64 r,.int .i64 d,.int .i64 c] Ag true=B:=⟨_,rfl⟩
 have hg:=h.app [B]
 have hq:(σ++[B])[σ.length]?=some (.cells [.int .i64 r,.int .i64 d,.int .i64 c] Ag true):=by rw[← hB]; simp
 rw[Vm,R5]
 simp only[Ao,hB]
 unfold Jt
 by_cases h0:a<0
 ·rw[if_pos (show ¬(0≤a∧a<(m.wds.length:Int)∧a.toNat % 2=0) by omega)]
  refine ⟨[B], ?_⟩
  simp only[decide_eq_true h0,cond_true,Option.bind_some]
 obtain ⟨n,rfl⟩:∃ n:Nat,a=(n:Int):=⟨a.toNat,by omega⟩
 rw[Int.toNat_natCast]
 have hm2:((n:Int)).tmod 2=((n % 2:Nat):Int):=rfl
 by_cases h1:n % 2=0
 rotate_left
 ·rw[if_pos (show ¬(0≤(n:Int)∧(n:Int)<(m.wds.length:Int)∧n % 2=0) by omega)]
  refine ⟨[B], ?_⟩
  have:(((n % 2:Nat):Int) != 0)=true:=bne_iff_ne.2 (by omega)
  simp only[decide_eq_false h0,cond_false,show ((2:Int)=0)=False from by decide,if_false,hm2,this,cond_true,Option.bind_some]
 have e2:(((n % 2:Nat):Int) != 0)=false:=by rw[h1]; rfl
 have w64l:Ad (((m.bls.length:Nat):Int)*64)=((m.wds.length:Nat):Int):=by rw[Ac (by unfold AN; omega)]; omega
 by_cases h3:n<m.wds.length
 rotate_left
 ·rw[if_pos (show ¬(0≤(n:Int)∧(n:Int)<(m.wds.length:Int)∧n % 2=0) by omega)]
  refine ⟨[B], ?_⟩
  simp only[decide_eq_false h0,cond_false,show ((2:Int)=0)=False from by decide,if_false,hm2,e2,Option.bind_some,Nat.zero_add,Nat.add_zero,hg.at_.SN,hg.bn,w64l,decide_eq_true (show (n:Int)≥((m.wds.length:Nat):Int) by omega),cond_true]
 rw[if_neg (show ¬¬(0≤(n:Int)∧(n:Int)<(m.wds.length:Int)∧n % 2=0) by omega)]
 obtain ⟨b0,b1,b2⟩:=Tv hq
 obtain ⟨τ1,eL⟩:=YZ k r d c (σ++[B])
 have hg1:=hg.app τ1
 have hq1:(σ++[B]++τ1)[σ.length]?=_:=(List.getElem?_append_left (Ae hq)).trans hq
 obtain ⟨d0,d1,d2⟩:=Tv hq1
 have hnb:n/64<m.bls.length:=by omega
 have wb:Ad (((n:Int)).tdiv 64)=((n/64:Nat):Int):=by rw[show ((n:Int)).tdiv 64=((n/64:Nat):Int) from rfl]; exact Ac (by unfold AN; omega)
 have hm64:((n:Int)).tmod 64=((n % 64:Nat):Int):=rfl
 obtain ⟨qb,eb,lb0,_,_⟩:=Yh hg1 hnb
 have qx:(0≤((n/64:Nat):Int)∧((n/64:Nat):Int)<((m.bls.length:Nat):Int))=True:=eq_true (by omega)
 have loop:∀ μ:Aa,∃ τ',((Dx (k+3) (k+3) (Cg i) (n:Int) bid σ.length (0:Int) (σ++[B]++μ)).bind fun r67=>if r67.1 = .exit 0 then (some (Value.int .i64 (0:Int),r67.2.2)) else if r67.1 = .ret then (Te r67.2.1 fun n68=>some (.int .i64 n68,r67.2.2)) else none)=some (Value.int .i64 (if Mf m (n+W) but 200 n then 0 else 8),σ++τ'):=by
  intro μ
  obtain ⟨τ',e⟩:=RH (k+1) hg (n:Int) bid (by omega) hq t.ob.length 0 (k+3) μ (by omega) (by omega)
  rw[List.drop_zero,h.sim.ob,hsz,pM h.inv h1 hW.1 hW.2.1 hW.2.2 hb,show ((0:Nat):Int)=0 from rfl] at e
  have e':Dx (k+3) (k+3) (Cg i) (n:Int) bid σ.length 0 (σ++[B]++μ)=_:=e
  refine ⟨[B]++τ', ?_⟩
  rw[e',← List.append_assoc]
  cases Mf m (n+W) but 200 n with
  | true=>simp only[Bool.not_true,Bool.false_eq_true,if_false,Option.bind_some,if_true]
  | false=>simp only[Bool.not_false,if_true,Option.bind_some,reduceCtorEq,if_false,Ds,Bool.false_eq_true]
 simp only[decide_eq_false h0,cond_false,show ((2:Int)=0)=False from by decide,if_false,hm2,e2,Option.bind_some,Nat.zero_add,Nat.add_zero,Nat.reduceAdd,hg.at_.SN,hg.bn,w64l,decide_eq_false (show ¬ (n:Int)≥((m.wds.length:Nat):Int) by omega),show ((64:Int)=0)=False from by decide,b0,b1,b2,eL,Au,hsz]
 by_cases hL:W≤32
 ·rw[if_pos hL,decide_eq_false (by omega)]
  simp only[cond_false,hg1.at_.SN,hg1.bn,wb,qx,if_true,eb,Option.bind_some,Int.toNat_natCast,Nat.zero_add,lb0]
  by_cases s1:(m.bls.getD (n/64) (0,0)).1=1
  ·obtain ⟨τ2,eW⟩:=HZ (k+1) r d c (σ++[B]++τ1)
   rw[hsz] at eW
   have wa:Ad ((n:Int)+(W:Int))=((n+W:Nat):Int):=by rw[Ac (by unfold AN; omega)]; omega
   have wc:Ad (((n+W:Nat):Int)-1)=((n+W-1:Nat):Int):=by rw[Ac (by unfold AN; omega)]; omega
   have wd:Ad ((((n+W-1:Nat):Int)).tdiv 64)=(((n+W-1)/64:Nat):Int):=by rw[show (((n+W-1:Nat):Int)).tdiv 64=(((n+W-1)/64:Nat):Int) from rfl]; exact Ac (by unfold AN; omega)
   simp only[s1,bne_self_eq_false,cond_false,d0,d1,d2,Option.bind_some,eW,Am,wa,wc,wd]
   by_cases s2:(n+W-1)/64=n/64
   ·have:((((n+W-1)/64:Nat):Int) != ((n/64:Nat):Int))=false:=by rw[s2]; exact bne_self_eq_false _
    obtain ⟨τ',e'⟩:=loop (τ1++τ2)
    rw[if_neg (fun hh=>hh.elim (fun h=>h rfl) (fun h=>h s2))]
    refine ⟨τ', ?_⟩
    simp only[this,cond_false,Option.bind_some,if_true]
    rw[List.append_assoc (σ++[B])]
    exact e'
   ·have:((((n+W-1)/64:Nat):Int) != ((n/64:Nat):Int))=true:=bne_iff_ne.2 (by omega)
    rw[if_pos (.inr s2)]
    refine ⟨[B]++τ1++τ2, ?_⟩
    simp only[this,cond_true,Option.bind_some,reduceCtorEq,if_false,if_true,Ds,List.append_assoc]
  ·rw[if_pos (.inl s1)]
   refine ⟨[B]++τ1, ?_⟩
   simp only[bne_iff_ne.2 s1,cond_true,Option.bind_some,reduceCtorEq,if_false,if_true,Ds,List.append_assoc]
 ·rw[if_neg hL,decide_eq_true (by omega)]
  simp only[cond_true,hm64]
  by_cases s0:n % 64=0
  rotate_left
  ·have:(((n % 64:Nat):Int) != 0)=true:=bne_iff_ne.2 (by omega)
   rw[if_pos (.inr (.inl s0))]
   refine ⟨[B]++τ1, ?_⟩
   simp only[this,cond_true,Option.bind_some,reduceCtorEq,if_false,if_true,Ds,List.append_assoc]
  have e0:(((n % 64:Nat):Int) != 0)=false:=by rw[s0]; rfl
  simp only[e0,cond_false,hg1.at_.SN,hg1.bn,wb,qx,if_true,eb,Option.bind_some,Int.toNat_natCast,Nat.zero_add,lb0]
  by_cases s1:(m.bls.getD (n/64) (0,0)).1=2
  rotate_left
  ·rw[if_pos (.inl s1)]
   refine ⟨[B]++τ1, ?_⟩
   simp only[bne_iff_ne.2 s1,cond_true,Option.bind_some,reduceCtorEq,if_false,if_true,Ds,List.append_assoc]
  have eWh:Cd (k+3) (Cg i) ((n/64:Nat):Int) (σ++[B]++τ1)=_:=Zb (k+2) (by omega) hg1 hnb
  have hwn:Sn m (n/64)=Eg m (n/64):=by unfold Sn; rw[if_neg (by rw[s1]; decide),if_pos s1]
  obtain ⟨τ2,eN⟩:=jm k r d c (σ++[B]++τ1)
  have hnd:(words r d c+63).tdiv 64=(((W+63)/64:Nat):Int):=by rw[hsz]; rfl
  rw[hnd] at eN
  simp only[s1,bne_self_eq_false,cond_false,eWh,Option.bind_some,Am,hwn,d0,d1,d2,eN]
  by_cases s2:Eg m (n/64)=(W+63)/64
  ·have:(((Eg m (n/64):Nat):Int) != (((W+63)/64:Nat):Int))=false:=by rw[s2]; exact bne_self_eq_false _
   obtain ⟨τ',e'⟩:=loop (τ1++τ2)
   rw[if_neg (fun hh=>hh.elim (fun h=>h rfl) (fun h=>h.elim (fun h=>h s0) (fun h=>h s2)))]
   refine ⟨τ', ?_⟩
   simp only[this,cond_false,Option.bind_some,if_true]
   rw[List.append_assoc (σ++[B])]
   exact e'
  ·have:(((Eg m (n/64):Nat):Int) != (((W+63)/64:Nat):Int))=true:=bne_iff_ne.2 (by omega)
   rw[if_pos (.inr (.inr s2))]
   refine ⟨[B]++τ1++τ2, ?_⟩
   simp only[this,cond_true,Option.bind_some,reduceCtorEq,if_false,if_true,Ds,List.append_assoc]
end Go.Proofs.YtlaplcglpnlieaaGreat
end
section
namespace Go.Proofs.YtlaplcglpnlieaaGreat
open Go Go.AX
noncomputable local instance wI:AK:=As
local instance vp:Kn:=⟨true⟩
variable {σ:Aa} {m:HM} {t:RM} {i:RI}
theorem Lr.app {s:En} {l:List Int} (h:Lr σ s l) (τ:Aa):Lr (σ++τ) s l:=
 ⟨h.1,fun hn=>by
  obtain ⟨b,c,e,hc⟩:=h.2.1 hn
  exact ⟨b,c,e,(List.getElem?_append_left (Ae hc)).trans hc⟩,fun a ha=>by
  obtain ⟨cs,T,w,h1,h2⟩:=h.2.2 a ha
  exact ⟨cs,T,w,(List.getElem?_append_left (Ae h1)).trans h1,h2⟩⟩
theorem kM {j:Nat} (hs:Start m j):Pt m ((2*j:Nat):Int)=true:=by
 unfold Pt
 rw[decide_eq_true_eq,Int.toNat_natCast,show 2*j/2=j from by omega]
 exact ⟨by omega,by omega,hs⟩
theorem ZF (k:Nat) (hk:5000≤k) (h:RG σ i m t) (L:List Nat) (hL:∀ j ∈ L,Start m j) (hLl:L.length≤2048) {lo':Nat} (s:En) (hs:AL lo' σ s (DE L)):∀ (n x f a:Nat) (τ:Aa) (o:En) (R:List (Nat × Nat)),Cj Af 2 (σ++τ) o R.length (Bj R)→(∀ q,o.1=some q→σ.length≤q.block)→R.length≤x→a≤5000→x+n=L.length→n<f →
  ∃ τ' o',Dw (k+3) f (Cg i) s.1 s.2.1 s.2.2 (o.1,o.2.1,o.2.2) (a:Int) (x:Int) (σ++τ)=some (.exit 0,[.slice o'.1 o'.2.1 o'.2.2,.int .i64 ((EF m (L.drop x) a).2:Int)],σ++τ')∧Cj Af 2 (σ++τ') o' (R++(EF m (L.drop x) a).1).length (Bj (R++(EF m (L.drop x) a).1))∧(∀ q,o'.1=some q→σ.length≤q.block)∧(EF m (L.drop x) a).2≤5000∧(R++(EF m (L.drop x) a).1).length≤L.length
 | 0,x,0,a,τ,o,R,hR,ho,hr,ha,hx,hf=>by omega
 | 0,x,f+1,a,τ,o,R,hR,ho,hr,ha,hx,hf=>by
   have al:(DE L).length=L.length:=by simp[DE]
   have sl:s.2.1=L.length:=by rw[← al]; exact hs.sl.len
   rw[Nb,KE,List.drop_eq_nil_of_le (by omega)]
   have q:decide ((x:Int)<((s.2.1:Nat):Int))=false:=decide_eq_false (by omega)
   exact ⟨τ,o,by simp only[q,cond_false,EF],by simpa [EF] using hR,ho,ha,by simp[EF]; omega⟩
 | n+1,x,0,a,τ,o,R,hR,ho,hr,ha,hx,hf=>by omega
 | n+1,x,f+1,a,τ,o,R,hR,ho,hr,ha,hx,hf=>by
   have al:(DE L).length=L.length:=by simp[DE]
   have hxl:x<L.length:=by omega
   have hst:=hL _ (List.getElem_mem hxl)
   have hfit:=h.inv.fit _ hst
   have hz:=h.inv.size hst
   have hnt:=h.nt
   have hwl:=h.wl
   have hsj:=hst.1
   obtain ⟨b1,e1,hb1,c1,ldA⟩:=ints_at hs (x:=x) (by omega)
   rw[Qs L hxl] at ldA
   have hbl:=Ae c1
   have ldA':∀ τ1:Aa,Ai .i64 (σ++τ1) b1 x=some ((2*L[x]:Nat):Int):=fun τ1=>by
    rw[← ldA]; simp only[Ai,G1,List.getElem?_append_left hbl]
   have eT:EF m (L.drop x) a=(Jn a (2*L[x])++(EF m (L.drop (x+1)) (2*L[x]+sz m L[x])).1,(EF m (L.drop (x+1)) (2*L[x]+sz m L[x])).2):=by
    rw[List.drop_eq_getElem_cons hxl]; rfl
   have qx:(0≤(x:Int)∧(x:Int)<((L.length:Nat):Int))=True:=eq_true (by omega)
   have q0:decide ((x:Int)<((L.length:Nat):Int))=true:=decide_eq_true (by omega)
   have w1:Ad ((x:Int)+1)=((x+1:Nat):Int):=Ac (by unfold AN; omega)
   have w2:Ad (((2*L[x]:Nat):Int)+(sz m L[x]:Int))=((2*L[x]+sz m L[x]:Nat):Int):=by rw[Ac (by unfold AN; omega)]; omega
   have hgl:(Jn a (2*L[x])).length≤1:=by unfold Jn; split <;> simp
   have tail:∀ (τ1:Aa) (o1:En),Cj Af 2 (σ++τ1) o1 (R++Jn a (2*L[x])).length (Bj (R++Jn a (2*L[x])))→(∀ q,o1.1=some q→σ.length≤q.block) →
     ∃ (y b2:Nat) (e3:i.os.1=some ⟨b2,0,none⟩) (e4:y<t.ob.length) (e5:Cw (k+3) (Cg i) ((2*L[x]:Nat):Int) (σ++τ1)=some (.int .i64 (y:Int),σ++τ1)) (e6:Ai .i64 (σ++τ1) b2 (y*8+2)=some (BA m L[x])) (e7:Ai .i64 (σ++τ1) b2 (y*8+3)=some (D9 m L[x])) (e8:Ai .i64 (σ++τ1) b2 (y*8+4)=some (FD m L[x])) (τ2:Aa) (e9:BP (k+3) (BA m L[x]) (D9 m L[x]) (FD m L[x]) (σ++τ1)=some (.int .i64 (sz m L[x]:Int),σ++τ2)) (τ':Aa) (o':En),
      Dw (k+3) f (Cg i) s.1 s.2.1 s.2.2 (o1.1,o1.2.1,o1.2.2) ((2*L[x]+sz m L[x]:Nat):Int) ((x+1:Nat):Int) (σ++τ2)=some (.exit 0,[.slice o'.1 o'.2.1 o'.2.2,.int .i64 ((EF m (L.drop x) a).2:Int)],σ++τ')∧Cj Af 2 (σ++τ') o' (R++(EF m (L.drop x) a).1).length (Bj (R++(EF m (L.drop x) a).1))∧(∀ q,o'.1=some q→σ.length≤q.block)∧(EF m (L.drop x) a).2≤5000∧(R++(EF m (L.drop x) a).1).length≤L.length:=by
    intro τ1 o1 s1 n1
    have hg:=h.app τ1
    obtain ⟨y,j',b2,p,F⟩:=hg.found (kM hst)
    have ej:j'=L[x]:=by have:=F.e; omega
    subst ej
    obtain ⟨τ2,e9⟩:=HZ (k+1) (BA m L[x]) (D9 m L[x]) (FD m L[x]) (σ++τ1)
    rw[(jS h.inv hst).2.2.2.2.2.2.2,List.append_assoc] at e9
    have s2:Cj Af 2 (σ++(τ1++τ2)) o1 (R++Jn a (2*L[x])).length (Bj (R++Jn a (2*L[x]))):=by rw[← List.append_assoc]; exact s1.app τ2
    obtain ⟨τ',o',r1,r2,r3,r4,r5⟩:=ZF k hk h L hL hLl s hs n (x+1) f (2*L[x]+sz m L[x]) (τ1++τ2) o1 (R++Jn a (2*L[x])) s2 n1 (by rw[List.length_append]; omega) (by omega) (by omega) (by omega)
    rw[eT]
    rw[List.append_assoc] at r2 r5
    exact ⟨y,b2,F.os,F.xl,by rw[← F.idx]; exact jj (k+1) (by omega) hg _,F.ld.l2,F.ld.l3,F.ld.l4,τ1++τ2,e9,τ',o',r1,r2,r3,r4,r5⟩
   subst e1
   rw[Nb,KE]
   simp only[al] at *
   by_cases hc:a<2*L[x]
   ·obtain ⟨o1,τ1,ea,s1,n1⟩:=Ni gS gj gY rfl rfl (by decide) (by decide) (by decide) σ τ o R.length (Bj R) 1 1 (Bj [(a,2*L[x]-a)]) Af (by omega) (by decide) rfl hR ho
    have ea':Bo P Af (o.1,o.2.1,o.2.2) (some ⟨(σ++τ).length,0,none⟩,1,1) (σ++τ++[AY.cells [.int .i64 (a:Int),.int .i64 ((2*L[x]-a:Nat):Int)] Af true])=some (o1,σ++τ1):=ea
    have gl:Jn a (2*L[x])=[(a,2*L[x]-a)]:=by unfold Jn; rw[if_pos hc]
    obtain ⟨y,b2,e3,e4,e5,e6,e7,e8,τ2,e9,τ',o',r1,r2,r3,r4,r5⟩:=tail τ1 o1 (by rw[gl,Lb,List.length_append]; exact s1) n1
    refine ⟨τ',o', ?_,r2,r3,r4,r5⟩
    have w:Ad (((2*L[x]:Nat):Int)-(a:Int))=((2*L[x]-a:Nat):Int):=by rw[Ac (by unfold AN; omega)]; omega
    have qy:(0≤(y:Int)∧(y:Int)<((t.ob.length:Nat):Int))=True:=eq_true (by omega)
    simp only[q0,cond_true,qx,if_true,Option.bind_some,Nat.zero_add,Nat.add_zero,Nat.add_assoc,Nat.reduceAdd,Int.toNat_natCast,Nat.mul_one,ldA',decide_eq_true (show ((2*L[x]:Nat):Int)>(a:Int) by omega),Ao,w,ea',Gj,(h.app τ1).at_.Mm,e5,Am,qy,e3,e6,e7,e8,e9,w2,w1]
    exact r1
   ·have gl:Jn a (2*L[x])=[]:=by unfold Jn; rw[if_neg hc]
    obtain ⟨y,b2,e3,e4,e5,e6,e7,e8,τ2,e9,τ',o',r1,r2,r3,r4,r5⟩:=tail τ o (by rw[gl,List.append_nil]; exact hR) ho
    refine ⟨τ',o', ?_,r2,r3,r4,r5⟩
    have qy:(0≤(y:Int)∧(y:Int)<((t.ob.length:Nat):Int))=True:=eq_true (by omega)
    simp only[q0,cond_true,cond_false,qx,if_true,Option.bind_some,Nat.zero_add,Nat.add_zero,Nat.add_assoc,Nat.reduceAdd,Int.toNat_natCast,Nat.mul_one,ldA',decide_eq_false (show ¬ ((2*L[x]:Nat):Int)>(a:Int) by omega),Gj,(h.app τ).at_.Mm,e5,Am,qy,e3,e6,e7,e8,e9,w2,w1]
    exact r1
def Ha (m:HM) (b:Int):List (Nat × Nat):=if Ji m b=1 then bS m b.toNat else []
theorem Zn {b:Int} (h:Ji m b=1):∃ n:Nat,b=(n:Int)∧n<m.bls.length∧(m.bls.getD n (0,0)).1=1:=by
 unfold Ji at h
 split at h
 ·rename_i hb
  refine ⟨b.toNat,by omega,by omega,h⟩
 ·cases h
theorem Qn (m:HM) (b:Int):(Ha m b).length≤33:=by
 have aux:∀ (L:List Nat) (a:Nat),(EF m L a).1.length≤L.length:=by
  intro L
  induction L with
  | nil=>intro a; exact Nat.le_refl _
  | cons j L ih=>
    intro a
    have:=ih (2*j+sz m j)
    have:(Jn a (2*j)).length≤1:=by unfold Jn; split <;> simp
    rw[EF,List.length_append,List.length_cons]; omega
 unfold Ha
 split
 ·unfold bS
  have:=aux (Ck m (32*b.toNat) 32) (64*b.toNat)
  have:=MP m (32*b.toNat) 32
  have:(Jn (EF m (Ck m (32*b.toNat) 32) (64*b.toNat)).2 (64*b.toNat+64)).length≤1:=by unfold Jn; split <;> simp
  rw[List.length_append]; omega
 ·simp
theorem pK (k:Nat) (hk:5000≤k) (h:RG σ i m t) (b:Int):∃ τ s,HT (k+4) (Cg i) b σ=some (.slice s.1 s.2.1 s.2.2,σ++τ)∧Cj Af 2 (σ++τ) s (Ha m b).length (Bj (Ha m b)) ∧ ∀ a,s.1=some a→σ.length≤a.block:=by
 have hnt:=h.nt
 have hwl:=h.wl
 rw[Vj,Rx]
 have eS:Bi (k+3) (Cg i) b σ=_:=SS (k+1) h b
 simp only[eS,Option.bind_some,Am]
 unfold Ha
 by_cases hc:Ji m b=1
 rotate_left
 ·rw[if_neg hc,bne_iff_ne.2 hc]
  exact ⟨[],(none,0,0),by simp only[cond_true,List.append_nil],Cj.nil _ _ _,by intro a ha; cases ha⟩
 rw[if_pos hc,hc]
 obtain ⟨n,rfl,hn,hst⟩:=Zn hc
 obtain ⟨τ1,s,e1,i1⟩:=ZG (k+1) (by omega) h (n:Int)
 have eO:ct m (n:Int)=Ck m (32*n) 32:=by unfold ct; rw[if_pos (by omega),Int.toNat_natCast]
 rw[eO] at i1
 have hg:=h.app τ1
 have hL:∀ j ∈ Ck m (32*n) 32,Start m j:=by
  intro j hj
  obtain ⟨a,b',c⟩:=JD.1 hj
  exact ⟨by omega,c⟩
 have hLl:=MP m (32*n) 32
 obtain ⟨τ2,o2,e2,s2,n2,m4,m5⟩:=ZF k hk hg _ hL (by omega) s i1 (Ck m (32*n) 32).length 0 (k+3) (64*n) [] (none,0,0) [] (Cj.nil _ _ _) (by intro a ha; cases ha) (Nat.zero_le _) (by omega) (by omega) (by omega)
 rw[List.drop_zero,List.nil_append] at s2 m5
 rw[List.drop_zero,List.append_nil] at e2
 rw[List.drop_zero] at m4
 have e2':Dw (k+3) (k+3) (Cg i) s.1 s.2.1 s.2.2 (none,0,0) ((64*n:Nat):Int) 0 (σ++τ1)=_:=e2
 have w1:Ad ((n:Int)*64)=((64*n:Nat):Int):=by rw[Ac (by unfold AN; omega)]; omega
 have w2:Ad ((n:Int)+1)=((n+1:Nat):Int):=by rw[Ac (by unfold AN; omega)]; omega
 have w3:Ad (((n+1:Nat):Int)*64)=((64*n+64:Nat):Int):=by rw[Ac (by unfold AN; omega)]; omega
 rw[Int.toNat_natCast]
 unfold bS
 generalize hG:EF m (Ck m (32*n) 32) (64*n)=G at e2' s2 m4 m5
 by_cases hq:G.2<64*n+64
 ·obtain ⟨o3,τ3,ea,s3,n3⟩:=Ni gS gj gY rfl rfl (by decide) (by decide) (by decide) (σ++τ1) τ2 o2 G.1.length (Bj G.1) 1 1 (Bj [(G.2,64*n+64-G.2)]) Af (by omega) (by decide) rfl s2 n2
  have ea':Bo P Af (o2.1,o2.2.1,o2.2.2) (some ⟨(σ++τ1++τ2).length,0,none⟩,1,1) (σ++τ1++τ2++[AY.cells [.int .i64 (G.2:Int),.int .i64 ((64*n+64-G.2:Nat):Int)] Af true])=some (o3,σ++τ1++τ3):=ea
  have gl:Jn G.2 (64*n+64)=[(G.2,64*n+64-G.2)]:=by unfold Jn; rw[if_pos hq]
  have w:Ad (((64*n+64:Nat):Int)-(G.2:Int))=((64*n+64-G.2:Nat):Int):=by rw[Ac (by unfold AN; omega)]; omega
  refine ⟨τ1++τ3,o3, ?_, ?_,fun a ha=>by have:=n3 a ha; simp at this; omega⟩
  ·simp only[bne_self_eq_false,cond_false,e1,Option.bind_some,Hs,w1,e2',if_true,mH,w2,w3,decide_eq_true (show (G.2:Int)<((64*n+64:Nat):Int) by omega),cond_true,Ao,w,ea',Gj]
   rw[List.append_assoc]
  ·rw[gl,Lb,List.length_append,← List.append_assoc]; exact s3
 ·have gl:Jn G.2 (64*n+64)=[]:=by unfold Jn; rw[if_neg hq]
  refine ⟨τ1++τ2,o2, ?_, ?_,fun a ha=>by have:=n2 a ha; simp at this; omega⟩
  ·simp only[bne_self_eq_false,cond_false,e1,Option.bind_some,Hs,w1,e2',if_true,mH,w2,w3,decide_eq_false (show ¬ (G.2:Int)<((64*n+64:Nat):Int) by omega),cond_false,Gj]
   rw[List.append_assoc]
  ·rw[gl,List.append_nil,← List.append_assoc]; exact s2
def OC (m:HM) (b n:Nat):List Bool:=(List.range n).map fun x=>Y8 m (64*b+8*x) 8
theorem iV (m:HM) (b n:Nat):OC m b (n+1)=OC m b n++[Y8 m (64*b+8*n) 8]:=by
 unfold OC; rw[List.range_succ,List.map_append]; rfl
theorem MD (m:HM) (b n:Nat):(OC m b n).length=n:=by unfold OC; simp
theorem mW (l l':List Bool):Gk (l++l')=Gk l++Gk l':=by unfold Gk; rw[List.map_append]
theorem ub:Jk P Ei=some 1:=by kernel_rfl
theorem tO:bytesOf P Ei=some 1:=by kernel_rfl
theorem ue:GU P Ei=some (.bool false):=by kernel_rfl
def Ew (m:HM) (b:Int):List Bool:=if Ji m b=1 then OC m b.toNat 8 else []
theorem Ye (k:Nat) (hk:5000≤k) (h:RG σ i m t) {b x:Nat} (hb:b<m.bls.length) (hx:x<8):∀ (n y f:Nat) (is:Bool) (τ:Aa),y+n=8→n<f →
  ∃ τ',DU (k+3) f (Cg i) (b:Int) (x:Int) is (y:Int) (σ++τ)=some (.exit 2,[.bool (is || Y8 m (64*b+8*x+y) n)],σ++τ')
 | 0,y,0,is,τ,hy,hf=>by omega
 | 0,y,f+1,is,τ,hy,hf=>by
   rw[LY,Kc,Y8,Bool.or_false]
   exact ⟨τ,by simp only[decide_eq_false (show ¬ (y:Int)<8 by omega),cond_false]⟩
 | n+1,y,0,is,τ,hy,hf=>by omega
 | n+1,y,f+1,is,τ,hy,hf=>by
   have hnt:=h.nt
   have hwl:=h.wl
   have hg:=h.app τ
   obtain ⟨τ1,e1⟩:=pJ k hk hg ((64*b+8*x+y:Nat):Int)
   have w1:Ad ((b:Int)*64)=((64*b:Nat):Int):=by rw[Ac (by unfold AN; omega)]; omega
   have w2:Ad ((x:Int)*8)=((8*x:Nat):Int):=by rw[Ac (by unfold AN; omega)]; omega
   have w3:Ad (((64*b:Nat):Int)+((8*x:Nat):Int))=((64*b+8*x:Nat):Int):=by rw[Ac (by unfold AN; omega)]; omega
   have w4:Ad (((64*b+8*x:Nat):Int)+(y:Int))=((64*b+8*x+y:Nat):Int):=by rw[Ac (by unfold AN; omega)]; omega
   have w5:Ad ((y:Int)+1)=((y+1:Nat):Int):=Ac (by unfold AN; omega)
   have hfi:Nf m ((64*b+8*x+y:Nat):Int)=R7 m (64*b+8*x+y):=by unfold Nf; rw[if_pos (by omega),Int.toNat_natCast]
   rw[hfi,List.append_assoc] at e1
   obtain ⟨τ2,e2⟩:=Ye k hk h hb hx n (y+1) f (is || (R7 m (64*b+8*x+y)).isSome) (τ++τ1) (by omega) (by omega)
   refine ⟨τ2, ?_⟩
   rw[show 64*b+8*x+(y+1)=64*b+8*x+y+1 from by omega] at e2
   rw[LY,Kc,Y8,← Bool.or_assoc]
   simp only[decide_eq_true (show (y:Int)<8 by omega),cond_true,w1,w2,w3,w4,w5,e1,Option.bind_some]
   rw[← e2]
   cases R7 m (64*b+8*x+y) with
   | none=>cases is <;> simp only[Ed,Option.bind_some,cond_true,cond_false,show ((4:Int) == 0)=false from rfl,Option.isSome_none,Bool.or_false,Bool.or_self]
   | some j=>cases is <;> simp only[Ed,Option.bind_some,cond_true,cond_false,beq_self_eq_true,Option.isSome_some,Bool.or_true,Bool.or_self]
theorem Yd (k:Nat) (hk:5000≤k) (h:RG σ i m t) {b:Nat} (hb:b<m.bls.length):∀ (n x f:Nat) (τ:Aa) (o:En),Cj Ei 1 (σ++τ) o x (Gk (OC m b x))→(∀ q,o.1=some q→σ.length≤q.block)→x+n=8→n<f →
  ∃ τ' o',DT (k+3) f (Cg i) (b:Int) (o.1,o.2.1,o.2.2) (x:Int) (σ++τ)=some (.exit 0,[.slice o'.1 o'.2.1 o'.2.2],σ++τ')∧Cj Ei 1 (σ++τ') o' 8 (Gk (OC m b 8))∧(∀ q,o'.1=some q→σ.length≤q.block)
 | 0,x,0,τ,o,hR,ho,hx,hf=>by omega
 | 0,x,f+1,τ,o,hR,ho,hx,hf=>by
   have:x=8:=by omega
   subst this
   rw[LX,Kb]
   exact ⟨τ,o,by simp only[show decide (((8:Nat):Int)<8)=false from rfl,cond_false],hR,ho⟩
 | n+1,x,0,τ,o,hR,ho,hx,hf=>by omega
 | n+1,x,f+1,τ,o,hR,ho,hx,hf=>by
   obtain ⟨τ1,e1⟩:=Ye k hk (h.app τ) hb (show x<8 by omega) 8 0 (k+3) false [] (by omega) (by omega)
   rw[Nat.add_zero,Bool.false_or,List.append_nil,List.append_assoc] at e1
   have e1':DU (k+3) (k+3) (Cg i) (b:Int) (x:Int) false 0 (σ++τ)=_:=e1
   have hR1:Cj Ei 1 (σ++(τ++τ1)) o x (Gk (OC m b x)):=by rw[← List.append_assoc]; exact hR.app τ1
   obtain ⟨o2,τ2,ea,s2,n2⟩:=Ni ub tO ue rfl rfl (by decide) (by decide) (by decide) σ (τ++τ1) o x (Gk (OC m b x)) 1 1 (Gk [Y8 m (64*b+8*x) 8]) Ei (by omega) (by decide) rfl hR1 ho
   have ea':Bo P Ei (o.1,o.2.1,o.2.2) (some ⟨(σ++(τ++τ1)).length,0,none⟩,1,1) (σ++(τ++τ1)++[AY.cells [.bool (Y8 m (64*b+8*x) 8)] Ei true])=some (o2,σ++τ2):=ea
   rw[← mW,← iV] at s2
   obtain ⟨τ3,o3,e3,s3,n3⟩:=Yd k hk h hb n (x+1) f τ2 o2 s2 n2 (by omega) (by omega)
   refine ⟨τ3,o3, ?_,s3,n3⟩
   have w5:Ad ((x:Int)+1)=((x+1:Nat):Int):=Ac (by unfold AN; omega)
   rw[LX,Kb]
   simp only[decide_eq_true (show (x:Int)<8 by omega),cond_true,e1',Option.bind_some,if_true,Sm,Ao,Nat.add_zero,ea',w5]
   exact e3
theorem nN (k:Nat) (hk:5000≤k) (h:RG σ i m t) (b:Int):∃ τ s,Hn (k+4) (Cg i) b σ=some (.slice s.1 s.2.1 s.2.2,σ++τ)∧Cj Ei 1 (σ++τ) s (Ew m b).length (Gk (Ew m b)) ∧ ∀ a,s.1=some a→σ.length≤a.block:=by
 rw[U1,Qz]
 have eS:Bi (k+3) (Cg i) b σ=_:=SS (k+1) h b
 simp only[eS,Option.bind_some,Am]
 unfold Ew
 by_cases hc:Ji m b=1
 rotate_left
 ·rw[if_neg hc,bne_iff_ne.2 hc]
  exact ⟨[],(none,0,0),by simp only[cond_true,List.append_nil],Cj.nil _ _ _,by intro a ha; cases ha⟩
 rw[if_pos hc,hc]
 obtain ⟨n,rfl,hn,hst⟩:=Zn hc
 obtain ⟨τ2,o2,e2,s2,n2⟩:=Yd k hk h hn 8 0 (k+3) [] (none,0,0) (Cj.nil _ _ _) (by intro a ha; cases ha) (by omega) (by omega)
 rw[List.append_nil] at e2
 have e2':DT (k+3) (k+3) (Cg i) (n:Int) (none,0,0) 0 σ=_:=e2
 refine ⟨τ2,o2, ?_,by rw[Int.toNat_natCast,MD]; exact s2,n2⟩
 simp only[bne_self_eq_false,cond_false,e2',Option.bind_some,if_true,Gj]
end Go.Proofs.YtlaplcglpnlieaaGreat
end
