/- The document's heap: looks at one object, one block, one word.; The document's heap: lists of objects, gaps, lines; words.; The document's heap: whole -/
import Derived.Test.YtlaplcglpnlieaaGreatP15
set_option linter.unusedVariables false
set_option linter.unusedSimpArgs false
set_option linter.unusedSectionVars false
section
namespace Go.Proofs.YtlaplcglpnlieaaGreat
open Go Go.AX
noncomputable local instance vU:AF:=Au
local instance uK:Kn:=⟨true⟩
variable {σ:Aa} {m:HM} {t:RM} {i:RI}
structure RG (σ:Aa) (i:RI) (m:HM) (t:RM):Prop where
 at_:NB σ i t
 sim:RU m t
 inv:Inv m
 inv2:Inv2 m
 wl:m.wds.length=64*m.bls.length
 nb:2≤m.bls.length
 nt:m.bls.length≤64
theorem RG.app (h:RG σ i m t) (τ:Aa):RG (σ++τ) i m t:=⟨h.at_.app τ,h.sim,h.inv,h.inv2,h.wl,h.nb,h.nt⟩
theorem RG.CT {σ':Aa} (h:RG σ i m t) (hs:∀ j ∈ i.l,σ'[j]?=σ[j]?) (hl:σ.length≤σ'.length):RG σ' i m t:=⟨h.at_.CT hs hl,h.sim,h.inv,h.inv2,h.wl,h.nb,h.nt⟩
theorem RG.bn (h:RG σ i m t):t.bl.length=m.bls.length:=by rw[h.sim.bl]
theorem RG.ne (h:RG σ i m t):t.bl≠[]:=by
 intro e
 have:=h.bn
 have:=h.nb
 rw[e] at *
 simp at *
 omega
theorem RG.ol (h:RG σ i m t):t.ob.length≤2048:=by
 rw[h.sim.ob]
 have:=Oz m 0 (32*m.bls.length)
 have:=h.nt
 unfold KE D7
 rw[List.length_map]
 omega
theorem Iw (k:Nat) (h:RG σ i m t):An (k+1) (Ci i) σ=some (.bool true,σ):=bP k h.at_ h.ne
theorem KX.tF {s:E8} {l:List Int} (h:KX σ s l) {x:Nat} (hx:x<l.length):∃ b,s.1=some ⟨b,0,none⟩∧Ai .i64 σ b x=some (l.getD x 0)∧σ[b]?=some (.cells (Df l) B9 true):=by
 obtain ⟨b,c,rfl,hc⟩:=h.2.1 (fun e=>by rw[e] at hx; simp at hx)
 exact ⟨b,rfl,oB hc hx,hc⟩
structure Found (σ:Aa) (i:RI) (m:HM) (t:RM) (a:Int) (x j b:Nat) (p:E8 × E8):Prop where
 idx:jS t.ob a=(x:Int)
 idx':QR t.ob a=some x
 xl:x<t.ob.length
 st:Start m j
 e:a=((2*j:Nat):Int)
 all:(D7 m)[x]?=some j
 ob:t.ob[x]?=some (D5 m j)
 os:i.os.1=some ⟨b,0,none⟩
 cell:σ[b]?=some (.cells (HO t.ob i.om) Aj true)
 om:i.om[x]?=some p
 ld:rf σ b x (D5 m j) p
 rs:KX σ p.1 (D5 m j).refs
 ds:KX σ p.2 (D5 m j).data
theorem RG.found (h:RG σ i m t) {a:Int} (hh:Qw m a=true):∃ x j b p,Found σ i m t a x j b p:=by
 obtain ⟨h1,h2⟩:=h.sim.idx a
 cases hq:QR t.ob a with
 | none=>rw[h2 hq] at hh; cases hh
 | some x=>
   obtain ⟨q1,j,q2,q3,_,q5,q6⟩:=h1 x hq
   obtain ⟨b,e1,e2,L⟩:=h.at_.obj q1
   have hom:x<i.om.length:=by rw[h.at_.ol]; exact q1
   have eo:t.ob[x]=D5 m j:=by rw[List.getElem?_eq_getElem q1] at q6; exact Option.some.inj q6
   have L:=L hom
   rw[eo] at L
   obtain ⟨n1,n2⟩:=h.at_.inn x q1 hom
   rw[eo] at n1 n2
   exact ⟨x,j,b,i.om[x],by unfold jS; rw[hq],hq,q1,q2,q3,q5,q6,e1,e2,List.getElem?_eq_getElem hom,L,n1,n2⟩
theorem ix (k:Nat) (hk:5000≤k) (h:RG σ i m t) (a:Int):Cv (k+2) (Ci i) a σ=some (.int .i64 (jS t.ob a),σ):=dY k hk h.at_ h.ne (by have:=h.ol; omega) a
theorem oZ (k:Nat) (hk:5000≤k) (h:RG σ i m t) (a:Int):FW (k+3) (Ci i) a σ=some (.int .i64 (if Qw m a then 0 else 4),σ):=by
 rw[mY k hk h.at_ h.ne (by have:=h.ol; omega) a,h.sim.has]
theorem tM:((4:Int) != 0)=true:=rfl
theorem qA {σ:Aa} {cs vs:List Value} {T:TypeId} (h:vs.length=cs.length):Ki (σ++[.cells cs T true]) σ.length 0 vs=some (σ++[.cells vs T true]):=by
 simp only[Ki,List.getElem?_concat_length]
 rw[if_pos (by omega)]
 simp[AE,h]
theorem pk (σ:Aa) (T:TypeId) (a b c d e f g h x y z u v w p q:Value):Ki (σ++[.cells [a,b,c,d,e,f,g,h] T true]) σ.length 0 [x,y,z,u,v,w,p,q]=some (σ++[.cells [x,y,z,u,v,w,p,q] T true]):=qA rfl
theorem Q7 (k:Nat) (h:RG σ i m t):Bs (k+2) (Ci i) σ=some (.int .i64 ((m.bls.length:Nat):Int),σ):=by
 rw[Tb,Pt]
 simp only[Iw k h,Option.bind_some,As,Bool.not_true,cond_false,Nat.zero_add,Nat.add_zero,h.at_.Sw,h.bn]
def Ih (m:HM) (b:Int):Int:=if 0≤b∧b<(m.bls.length:Int) then (m.bls.getD b.toNat (0,0)).1 else -1
def WN (m:HM) (b:Int):Int:=if 0≤b∧b<(m.bls.length:Int) then (m.bls.getD b.toNat (0,0)).2 else -1
theorem S6 (k:Nat) (h:RG σ i m t) (b:Int):Bk (k+2) (Ci i) b σ=some (.int .i64 (Ih m b),σ):=by
 rw[TZ,Qf]
 simp only[Iw k h,Option.bind_some,As,Bool.not_true,cond_false]
 unfold Ih
 by_cases h0:b<0
 ·rw[decide_eq_true h0,if_neg (by omega)]
  simp only[cond_true,Option.bind_some]
 rw[decide_eq_false h0]
 simp only[cond_false,Option.bind_some,Nat.zero_add,Nat.add_zero,h.at_.Sw,h.bn]
 by_cases h1:b≥(m.bls.length:Int)
 ·have q:(0≤b∧b<(m.bls.length:Int))=False:=eq_false (by omega)
  simp only[decide_eq_true h1,q,if_false,cond_true]
 rw[decide_eq_false h1,if_pos (by omega),if_pos (by omega)]
 obtain ⟨n,rfl⟩:∃ n:Nat,b=(n:Int):=⟨b.toNat,by omega⟩
 obtain ⟨q,e,l0,l1,_⟩:=Vq h.at_.bl (x:=n) (by rw[h.bn]; omega)
 rw[h.sim.bl] at l0
 simp only[cond_false,e,Option.bind_some,Int.toNat_natCast,Nat.zero_add,l0]
theorem Y1 (k:Nat) (h:RG σ i m t) (b:Int):Cd (k+2) (Ci i) b σ=some (.int .i64 (WN m b),σ):=by
 rw[TY,Qe]
 simp only[Iw k h,Option.bind_some,As,Bool.not_true,cond_false]
 unfold WN
 by_cases h0:b<0
 ·rw[decide_eq_true h0,if_neg (by omega)]
  simp only[cond_true,Option.bind_some]
 rw[decide_eq_false h0]
 simp only[cond_false,Option.bind_some,Nat.zero_add,Nat.add_zero,h.at_.Sw,h.bn]
 by_cases h1:b≥(m.bls.length:Int)
 ·have q:(0≤b∧b<(m.bls.length:Int))=False:=eq_false (by omega)
  simp only[decide_eq_true h1,q,if_false,cond_true]
 rw[decide_eq_false h1,if_pos (by omega),if_pos (by omega)]
 obtain ⟨n,rfl⟩:∃ n:Nat,b=(n:Int):=⟨b.toNat,by omega⟩
 obtain ⟨q,e,l0,l1,_⟩:=Vq h.at_.bl (x:=n) (by rw[h.bn]; omega)
 rw[h.sim.bl] at l1
 simp only[cond_false,e,Option.bind_some,Int.toNat_natCast,Nat.zero_add,l1]
end Go.Proofs.YtlaplcglpnlieaaGreat
end
section
namespace Go.Proofs.YtlaplcglpnlieaaGreat
open Go Go.AX
noncomputable local instance vV:AF:=Au
local instance uL:Kn:=⟨true⟩
variable {σ:Aa} {m:HM} {t:RM} {i:RI}
theorem Tq (k:Nat) (a b c:Int) (σ:Aa):Zv (Gi (k+1) a b c σ) σ (.bool (valid a b c)):=by
 simp only[Zv,Yl,VN,Ap,LR,Nat.zero_add,List.getElem?_cons_zero,List.getElem?_cons_succ,Option.bind_some,Am,im]
 by_cases hA:a<0∨a>15∨b<0∨b>200
 ·have h1:(bif bif bif decide (a<0) then true else decide (a>15) then true else decide (b<0) then true else decide (b>200))=true:=by
   simp[Bool.cond_eq_ite]; omega
  have h2:valid a b c=false:=by simp[valid]; omega
  rw[h1,h2]
  exact ⟨_,rfl⟩
 ·have h1:(bif bif bif decide (a<0) then true else decide (a>15) then true else decide (b<0) then true else decide (b>200))=false:=by
   simp[Bool.cond_eq_ite]; omega
  rw[h1]
  simp only[cond_false]
  by_cases h0:c=0
  ·subst h0
   have h2:valid a b 0=true:=by simp[valid]; omega
   rw[h2]
   exact ⟨_,rfl⟩
  have e0:(c == 0)=false:=by simpa using h0
  by_cases h3:c=3
  ·subst h3
   have h2:valid a b 3=true:=by simp[valid]; omega
   rw[h2]
   exact ⟨_,rfl⟩
  have e3:(c == 3)=false:=by simpa using h3
  simp only[e0,e3,cond_false,Option.bind_some,if_true,RN]
  by_cases h4:c=1
  ·subst h4
   have h2:valid a b 1=decide (a≥1):=by rw[valid,decide_eq_decide]; simp; omega
   rw[h2]
   simp only[BEq.rfl,cond_true,LR,List.getElem?_cons_zero,Option.bind_some,Am]
   exact ⟨_,rfl⟩
  have e4:(c == 1)=false:=by simpa using h4
  by_cases h5:c=2
  ·subst h5
   have h2:valid a b 2=decide (a≥2):=by rw[valid,decide_eq_decide]; simp; omega
   rw[h2]
   simp only[e4,cond_false,BEq.rfl,cond_true,LR,List.getElem?_cons_zero,Option.bind_some,Am]
   exact ⟨_,rfl⟩
  have e5:(c == 2)=false:=by simpa using h5
  have h2:valid a b c=false:=by simp[valid]; omega
  simp only[e4,e5,cond_false,h2]
  exact ⟨_,rfl⟩
theorem HP (k:Nat) (a b c:Int) (σ:Aa):Zv (BP (k+2) a b c σ) σ (.int .i64 (words a b c)):=by
 unfold Zv
 rw[Ym,VO]
 simp only[Ap,LR,Nat.zero_add,List.getElem?_cons_zero,List.getElem?_cons_succ,Option.bind_some,Am]
 rw[(Tq _ _ _ _ _).eq]
 simp only[Option.bind_some,As,WB,List.getElem?_cons_zero,List.getElem?_cons_succ,Am]
 unfold words
 rcases Bool.eq_false_or_eq_true (valid a b c) with hv | hv
 rotate_left
 ·simp only[hv,Bool.not_false,cond_true,cond_false,List.append_assoc]
  exact ⟨_,rfl⟩
 ·simp only[hv,Bool.not_true,cond_true,cond_false,List.append_assoc]
  simp[valid] at hv
  simp only[show ((2:Int)=0)=False from by simp,if_false]
  refine ⟨_,congrArg some (Prod.ext (congrArg (Value.int .i64) ?_) rfl)⟩
  simp only[Ac]
  have e1:IntKind.i64.wrap (2+a)=2+a:=by rw[IntKind.wrap_i64]; omega
  have e2:IntKind.i64.wrap (2+a+b)=2+a+b:=by rw[IntKind.wrap_i64]; omega
  rw[e1,e2,Int.tmod_eq_emod_of_nonneg (by omega),IntKind.wrap_i64]
  omega
theorem MN {E:TypeId} {s by_:Nat} {z:Value} (hs:IW P E=some s) (hb:bytesOf P E=some by_) (hz:GL P E=some z) (hz1:J5 z=false) (hz2:z.cells.size=s) (hs0:0<s) (hb0:0<by_) (hb1:by_≤1000)
  (σ τ:Aa) (sl:E8) (n:Nat) (row:List Value) (n' c:Nat) (row':List Value) (T:TypeId) (hn:n+n'≤1000000) (hn0:0<n') (hr:row'.length=n'*s) (hsl:BQ E s (σ++τ) sl n row) (hbh:∀ a,sl.1=some a→σ.length≤a.block):
  ∃ s' τ',Bv P E sl (some ⟨(σ++τ).length,0,none⟩,n',c) (σ++τ++[.cells row' T true])=some (s',σ++τ')∧BQ E s (σ++τ') s' (n+n') (row++row')∧(∀ a,s'.1=some a→σ.length≤a.block):=by
 obtain ⟨s',σ',e,g,h⟩:=bJ hs hb hz hz1 hz2 hs0 hb0 hb1 (σ++τ) sl n row n' c row' T hn hn0 hr hsl
 obtain ⟨⟨τ',rfl⟩,h2⟩:=g.behind hbh
 exact ⟨s',τ',e,h,h2⟩
theorem BQ.ints {lo:Nat} {s:E8} {l:List Int} (h:BQ B9 1 σ s l.length (Df l)) (hl:∀ a,s.1=some a→lo≤a.block) (hne:l=[]→s=(none,0,0)):Du lo σ s l:=by
 by_cases e:l=[]
 ·exact .inl ⟨e,hne e⟩
 ·rcases h with ⟨h1,_,_⟩ | ⟨b,rfl,_,_,hc⟩
  ·exact absurd (List.length_eq_zero_iff.1 h1) e
  ·exact .inr ⟨b,hl _ rfl,rfl,e,hc⟩
theorem Wz (σ τ:Aa) (s:E8) (l:List Int) (x:Int) (hl:l.length≤900000) (hs:Du σ.length (σ++τ) s l):
  ∃ s' τ',Bv P B9 s (some ⟨(σ++τ).length,0,none⟩,1,1) (σ++τ++[.cells [.int .i64 x] B9 true])=some (s',σ++τ')∧Du σ.length (σ++τ') s' (l++[x]):=by
 obtain ⟨s',τ',e,h1,h2⟩:=MN tI tB tJ rfl rfl (by decide) (by decide) (by decide) σ τ s l.length (Df l) 1 1 [.int .i64 x] B9 (by omega) (by decide) rfl hs.sl (fun a ha=>(hs.ge a ha).1)
 refine ⟨s',τ',e,BQ.ints ?_ h2 (fun e=>by simp at e)⟩
 rw[Xu,List.length_append]
 exact h1
theorem RG.drop (h:RG σ i m t) {x:Nat} (hx:x<t.ob.length):∃ j,(D7 m)[x]?=some j∧x<(D7 m).length∧Start m j∧t.ob[x]?=some (D5 m j):=by
 have hl:t.ob.length=(D7 m).length:=by rw[h.sim.ob]; simp[KE]
 have hx':x<(D7 m).length:=by omega
 refine ⟨(D7 m)[x],List.getElem?_eq_getElem hx',hx',Es.1 (List.getElem_mem hx'), ?_⟩
 rw[h.sim.ob]
 unfold KE
 rw[List.getElem?_map,List.getElem?_eq_getElem hx']; rfl
theorem RG.sq (h:RG σ i m t):t.ob.length=(D7 m).length:=by rw[h.sim.ob]; simp[KE]
structure At (σ:Aa) (i:RI) (m:HM) (t:RM) (x j b:Nat) (p:E8 × E8):Prop where
 st:Start m j
 all:(D7 m)[x]?=some j
 xl:x<(D7 m).length
 os:i.os.1=some ⟨b,0,none⟩
 cell:σ[b]?=some (.cells (HO t.ob i.om) Aj true)
 om:i.om[x]?=some p
 ld:rf σ b x (D5 m j) p
 lt:j<2048
 dr:(D7 m).drop x=j::(D7 m).drop (x+1)
theorem RG.sr (h:RG σ i m t) {x:Nat} (hx:x<t.ob.length):∃ j b p,At σ i m t x j b p:=by
 obtain ⟨j,h1,h2,h3,h4⟩:=h.drop hx
 obtain ⟨b,e1,e2,L⟩:=h.at_.obj hx
 have hom:x<i.om.length:=by rw[h.at_.ol]; exact hx
 have eo:t.ob[x]=D5 m j:=by rw[List.getElem?_eq_getElem hx] at h4; exact Option.some.inj h4
 have L:=L hom
 rw[eo] at L
 have:=h3.1
 have:=h.nt
 refine ⟨j,b,i.om[x],h3,h1,h2,e1,e2,List.getElem?_eq_getElem hom,L,by omega, ?_⟩
 rw[List.drop_eq_getElem_cons h2]
 rw[List.getElem?_eq_getElem h2] at h1
 rw[Option.some.inj h1]
theorem bK (k:Nat) (h:RG σ i m t):∀ (n x f:Nat) (τ:Aa) (s:E8),x+n=t.ob.length→Du σ.length (σ++τ) s (EE ((D7 m).take x))→n<f →
  ∃ τ' s',F9 (k+1) f (Ci i) s (x:Int) (σ++τ)=some (.exit 0,[.slice s'.1 s'.2.1 s'.2.2],σ++τ')∧Du σ.length (σ++τ') s' (EE (D7 m))
 | 0,x,0,τ,s,hx,hs,hf=>by omega
 | 0,x,f+1,τ,s,hx,hs,hf=>by
   have ha:=h.sq
   have hg:=h.app τ
   rw[Ns,Lm]
   have q:decide ((x:Int)<((t.ob.length:Nat):Int))=false:=decide_eq_false (by omega)
   rw[List.take_of_length_le (by omega)] at hs
   exact ⟨τ,s,by simp only[Iw k hg,Option.bind_some,As,cond_true,Nat.zero_add,hg.at_.N0,q,cond_false],hs⟩
 | n+1,x,0,τ,s,hx,hs,hf=>by omega
 | n+1,x,f+1,τ,s,hx,hs,hf=>by
   have hol:=h.ol
   have hxl:x<t.ob.length:=by omega
   have hg:=h.app τ
   obtain ⟨j,b,p,A⟩:=hg.sr hxl
   obtain ⟨s1,τ1,e1,i1⟩:=Wz σ τ s _ ((2*j:Nat):Int) (by simp[EE]; omega) hs
   have e1':Bv P B9 (s.1,s.2.1,s.2.2) (some ⟨(σ++τ).length,0,none⟩,1,1) (σ++τ++[.cells [.int .i64 ((2*j:Nat):Int)] B9 true])=_:=e1
   obtain ⟨τ2,s2,e2,i2⟩:=bK k h n (x+1) f τ1 s1 (by omega) (by
    have:(D7 m).take (x+1)=(D7 m).take x++[j]:=by rw[List.take_add_one,A.all]; rfl
    rw[this]
    simpa [EE] using i1) (by omega)
   refine ⟨τ2,s2, ?_,i2⟩
   rw[Ns,Lm]
   have q:decide ((x:Int)<((t.ob.length:Nat):Int))=true:=decide_eq_true (by omega)
   have qx:(0≤(x:Int)∧(x:Int)<((t.ob.length:Nat):Int))=True:=eq_true (by omega)
   have w1:Ac ((x:Int)+1)=((x+1:Nat):Int):=Ad (by unfold AW; omega)
   have l0:Ai .i64 (σ++τ) b (x*8)=some ((2*j:Nat):Int):=A.ld.l0
   simp only[Iw k hg,Option.bind_some,As,cond_true,Nat.zero_add,Nat.add_zero,hg.at_.N0,q,qx,if_true,A.os,Int.toNat_natCast,l0,Ap,e1',w1]
   exact e2
theorem ql (k:Nat) (hk:5000≤k) (h:RG σ i m t):∃ τ s,IH (k+2) (Ci i) σ=some (.slice s.1 s.2.1 s.2.2,σ++τ)∧Du σ.length (σ++τ) s (EE (D7 m)):=by
 have hol:=h.ol
 obtain ⟨τ,s,e,hs⟩:=bK k h t.ob.length 0 (k+1) [] (none,0,0) (by omega) (.inl ⟨rfl,rfl⟩) (by omega)
 rw[List.append_nil,show ((0:Nat):Int)=0 from rfl] at e
 refine ⟨τ,s, ?_,hs⟩
 rw[V9,Sa]
 simp only[e,Option.bind_some,if_true,F7]
def qa (L:List Nat) (b:Int):List Nat:=L.filter fun j=>decide (((2*j/64:Nat):Int)=b)
theorem Q8 (k:Nat) (h:RG σ i m t) (bk:Int):∀ (n x f:Nat) (τ:Aa) (s:E8),x+n=t.ob.length→Du σ.length (σ++τ) s (EE (qa ((D7 m).take x) bk))→n<f →
  ∃ τ' s',Ei (k+1) f (Ci i) bk s (x:Int) (σ++τ)=some (.exit 0,[.slice s'.1 s'.2.1 s'.2.2],σ++τ')∧Du σ.length (σ++τ') s' (EE (qa (D7 m) bk))
 | 0,x,0,τ,s,hx,hs,hf=>by omega
 | 0,x,f+1,τ,s,hx,hs,hf=>by
   have ha:=h.sq
   have hg:=h.app τ
   rw[Hf,Gw]
   have q:decide ((x:Int)<((t.ob.length:Nat):Int))=false:=decide_eq_false (by omega)
   rw[List.take_of_length_le (by omega)] at hs
   exact ⟨τ,s,by simp only[Iw k hg,Option.bind_some,As,cond_true,Nat.zero_add,hg.at_.N0,q,cond_false],hs⟩
 | n+1,x,0,τ,s,hx,hs,hf=>by omega
 | n+1,x,f+1,τ,s,hx,hs,hf=>by
   have hol:=h.ol
   have hxl:x<t.ob.length:=by omega
   have hg:=h.app τ
   obtain ⟨j,b,p,A⟩:=hg.sr hxl
   have hjl:=A.lt
   have q:decide ((x:Int)<((t.ob.length:Nat):Int))=true:=decide_eq_true (by omega)
   have qx:(0≤(x:Int)∧(x:Int)<((t.ob.length:Nat):Int))=True:=eq_true (by omega)
   have w1:Ac ((x:Int)+1)=((x+1:Nat):Int):=Ad (by unfold AW; omega)
   have w2:Ac ((((2*j:Nat):Int)).tdiv 64)=((2*j/64:Nat):Int):=by rw[show (((2*j:Nat):Int)).tdiv 64=((2*j/64:Nat):Int) from rfl]; exact Ad (by unfold AW; omega)
   have l0:Ai .i64 (σ++τ) b (x*8)=some ((2*j:Nat):Int):=A.ld.l0
   have htk:qa ((D7 m).take (x+1)) bk=qa ((D7 m).take x) bk++(if ((2*j/64:Nat):Int)=bk then [j] else []):=by
    rw[List.take_add_one,A.all]
    unfold qa
    rw[List.filter_append]
    congr 1
    show List.filter _ [j]=_
    by_cases e:((2*j/64:Nat):Int)=bk
    ·rw[if_pos e,List.filter_cons,if_pos (decide_eq_true e),List.filter_nil]
    ·rw[if_neg e,List.filter_cons,if_neg (by rw[decide_eq_true_eq]; exact e),List.filter_nil]
   by_cases e:((2*j/64:Nat):Int)=bk
   ·obtain ⟨s1,τ1,e1,i1⟩:=Wz σ τ s _ ((2*j:Nat):Int) (by
     have:=List.length_filter_le (fun j=>decide (((2*j/64:Nat):Int)=bk)) ((D7 m).take x)
     simp[EE,qa] at this ⊢; omega) hs
    have e1':Bv P B9 (s.1,s.2.1,s.2.2) (some ⟨(σ++τ).length,0,none⟩,1,1) (σ++τ++[.cells [.int .i64 ((2*j:Nat):Int)] B9 true])=_:=e1
    obtain ⟨τ2,s2,e2,i2⟩:=Q8 k h bk n (x+1) f τ1 s1 (by omega) (by
     rw[htk,if_pos e]
     simpa [EE] using i1) (by omega)
    refine ⟨τ2,s2, ?_,i2⟩
    rw[Hf,Gw]
    simp only[Iw k hg,Option.bind_some,As,cond_true,Nat.zero_add,Nat.add_zero,hg.at_.N0,q,qx,if_true,A.os,Int.toNat_natCast,l0,show ((64:Int)=0)=False from by decide,if_false,w2,beq_iff_eq.2 e,Ap,e1',F7,w1]
    exact e2
   ·obtain ⟨τ2,s2,e2,i2⟩:=Q8 k h bk n (x+1) f τ s (by omega) (by
     rw[htk,if_neg e,List.append_nil]
     exact hs) (by omega)
    refine ⟨τ2,s2, ?_,i2⟩
    rw[Hf,Gw]
    simp only[Iw k hg,Option.bind_some,As,cond_true,Nat.zero_add,Nat.add_zero,hg.at_.N0,q,qx,if_true,A.os,Int.toNat_natCast,l0,show ((64:Int)=0)=False from by decide,if_false,w2,beq_eq_false_iff_ne.2 e,cond_false,F7,w1]
    exact e2
def bE (m:HM) (b:Int):List Nat:=if 0≤b∧b<(m.bls.length:Int) then Cf m (32*b.toNat) 32 else []
theorem rC (m:HM) (b:Int):qa (D7 m) b=bE m b:=by
 unfold bE
 split
 ·rename_i hb
  refine WM ((OB m).filter _) ((List.pairwise_lt_range' (step:=1) (by decide)).filter _) fun a=>?_
  unfold qa
  rw[List.mem_filter,Es,decide_eq_true_eq]
  show _↔a ∈ Cf m (32*b.toNat) 32
  rw[Hj]
  constructor
  ·rintro ⟨h1,h2⟩; exact ⟨by omega,by omega,h1.2⟩
  ·rintro ⟨h1,h2,h3⟩; exact ⟨⟨by omega,h3⟩,by omega⟩
 ·rename_i hb
  unfold qa
  rw[List.filter_eq_nil_iff]
  intro j hj
  have:=(Es.1 hj).1
  rw[decide_eq_true_eq]
  omega
theorem Zh (k:Nat) (hk:5000≤k) (h:RG σ i m t) (b:Int):∃ τ s,Eo (k+2) (Ci i) b σ=some (.slice s.1 s.2.1 s.2.2,σ++τ)∧Du σ.length (σ++τ) s (EE (bE m b)):=by
 have hol:=h.ol
 obtain ⟨τ,s,e,hs⟩:=Q8 k h b t.ob.length 0 (k+1) [] (none,0,0) (by omega) (.inl ⟨rfl,rfl⟩) (by omega)
 rw[List.append_nil,show ((0:Nat):Int)=0 from rfl] at e
 rw[rC] at hs
 refine ⟨τ,s, ?_,hs⟩
 rw[Sl,OC]
 simp only[e,Option.bind_some,if_true,F7]
theorem UT (k:Nat) (h:RG σ i m t) (a:Int):∀ (n x f:Nat) (τ:Aa),x+n=t.ob.length→n<f →
  ∃ τ',Fa (k+2) f (Ci i) a (x:Int) (σ++τ)=some (match TL (t.ob.drop x) a with | some o=>(.ret,[.int .i64 o.addr,.int .i64 0],σ++τ') | none=>(.exit 0,[],σ++τ'))
 | 0,x,0,τ,hx,hf=>by omega
 | 0,x,f+1,τ,hx,hf=>by
   have hg:=h.app τ
   rw[MD,Kr,List.drop_eq_nil_of_le (by omega)]
   have q:decide ((x:Int)<((t.ob.length:Nat):Int))=false:=decide_eq_false (by omega)
   exact ⟨τ,by simp only[Option.bind_some,Nat.zero_add,hg.at_.N0,q,cond_false,TL]⟩
 | n+1,x,0,τ,hx,hf=>by omega
 | n+1,x,f+1,τ,hx,hf=>by
   have hol:=h.ol
   have hxl:x<t.ob.length:=by omega
   have hg:=h.app τ
   obtain ⟨j,b,p,A⟩:=hg.sr hxl
   have hz:=h.inv.size A.st
   have hjl:=A.lt
   have hw:=bR h.inv A.st
   obtain ⟨j',_,_,_,ho⟩:=h.drop hxl
   have hoj:t.ob[x]=D5 m j:=by
    obtain ⟨j2,g1,_,_,g4⟩:=h.drop hxl
    rw[A.all] at g1; cases g1
    rw[List.getElem?_eq_getElem hxl] at g4; exact Option.some.inj g4
   obtain ⟨τ1,e1⟩:=HP k (BV m j) (E5 m j) (Hh m j) (σ++τ)
   rw[(jh h.inv A.st).2.2.2.2.2.2.2,List.append_assoc] at e1
   have hg1:=h.app (τ++τ1)
   rw[List.drop_eq_getElem_cons hxl,hoj,TL,hw,IM]
   have q:decide ((x:Int)<((t.ob.length:Nat):Int))=true:=decide_eq_true (by omega)
   have qx:(0≤(x:Int)∧(x:Int)<((t.ob.length:Nat):Int))=True:=eq_true (by omega)
   have w1:Ac ((x:Int)+1)=((x+1:Nat):Int):=Ad (by unfold AW; omega)
   have w2:Ac (((2*j:Nat):Int)+(sz m j:Int))=((2*j:Nat):Int)+(sz m j:Int):=Ad (by unfold AW; omega)
   have l0:Ai .i64 (σ++τ) b (x*8)=some ((2*j:Nat):Int):=A.ld.l0
   have l2:Ai .i64 (σ++τ) b (x*8+2)=some (BV m j):=A.ld.l2
   have l3:Ai .i64 (σ++τ) b (x*8+3)=some (E5 m j):=A.ld.l3
   have l4:Ai .i64 (σ++τ) b (x*8+4)=some (Hh m j):=A.ld.l4
   rw[MD,Kr]
   by_cases c1:((2*j:Nat):Int)≤a
   ·by_cases c2:a<((2*j:Nat):Int)+(sz m j:Int)
    ·obtain ⟨j3,b3,p3,A3⟩:=hg1.sr hxl
     have:j3=j:=by have:=A3.all; rw[A.all] at this; exact (Option.some.inj this).symm
     subst this
     have l0':Ai .i64 (σ++(τ++τ1)) b3 (x*8)=some ((2*j3:Nat):Int):=A3.ld.l0
     have:b3=b:=by have:=A3.os; rw[A.os] at this; cases this; rfl
     subst this
     refine ⟨τ++τ1, ?_⟩
     rw[if_pos ⟨c1,c2⟩]
     simp only[Option.bind_some,Nat.zero_add,Nat.add_zero,Nat.add_assoc,Nat.reduceAdd,hg.at_.N0,q,cond_true,qx,if_true,A.os,Int.toNat_natCast,l0,decide_eq_true (show a≥((2*j3:Nat):Int) from c1),l2,l3,l4,e1,Am,w2,decide_eq_true c2,hg1.at_.N0,l0']
     rfl
    ·obtain ⟨τ2,e2⟩:=UT k h a n (x+1) f (τ++τ1) (by omega) (by omega)
     refine ⟨τ2, ?_⟩
     rw[if_neg (fun h=>c2 h.2),← e2]
     simp only[Option.bind_some,Nat.zero_add,Nat.add_zero,Nat.add_assoc,Nat.reduceAdd,hg.at_.N0,q,cond_true,qx,if_true,A.os,Int.toNat_natCast,l0,decide_eq_true (show a≥((2*j:Nat):Int) from c1),l2,l3,l4,e1,Am,w2,decide_eq_false c2,cond_false,w1]
   ·obtain ⟨τ2,e2⟩:=UT k h a n (x+1) f τ (by omega) (by omega)
    refine ⟨τ2, ?_⟩
    rw[if_neg (fun h=>c1 h.1),← e2]
    simp only[Option.bind_some,Nat.zero_add,Nat.add_zero,hg.at_.N0,q,cond_true,qx,if_true,A.os,Int.toNat_natCast,l0,decide_eq_false (show ¬ a≥((2*j:Nat):Int) from c1),cond_false,w1]
theorem oR (k:Nat) (hk:5000≤k) (h:RG σ i m t) (a:Int):∃ τ,HH (k+3) (Ci i) a σ =
  some (match MH m a with | some j=>.tuple #[.int .i64 ((2*j:Nat):Int),.int .i64 0] | none=>.tuple #[.int .i64 0,.int .i64 4],σ++τ):=by
 have hol:=h.ol
 obtain ⟨τ,e⟩:=UT k h a t.ob.length 0 (k+2) [] (by omega) (by omega)
 rw[List.append_nil,show ((0:Nat):Int)=0 from rfl,List.drop_zero,h.sim.find h.inv] at e
 refine ⟨τ, ?_⟩
 rw[U4,Ra]
 simp only[Iw (k+1) h,Option.bind_some,As,Bool.not_true,cond_false,e]
 cases MH m a with
 | none=>simp only[Option.map_none,if_true]
 | some j=>simp only[Option.map_some,reduceCtorEq,if_false,if_true,GK,IM]
end Go.Proofs.YtlaplcglpnlieaaGreat
end
section
namespace Go.Proofs.YtlaplcglpnlieaaGreat
open Go Go.AX
noncomputable local instance vW:AF:=Au
local instance uM:Kn:=⟨true⟩
variable {σ:Aa} {m:HM} {t:RM} {i:RI}
theorem XB (h:RG σ i m t) {b:Nat} (hb:b<m.bls.length):∃ q,i.bs.1=some ⟨q,0,none⟩∧Ai .i64 σ q (b*2)=some (m.bls.getD b (0,0)).1∧Ai .i64 σ q (b*2+1)=some (m.bls.getD b (0,0)).2∧σ[q]?=some (.cells (CE m.bls) AA true):=by
 obtain ⟨q,e,l0,l1,hc⟩:=Vq h.at_.bl (x:=b) (by rw[h.bn]; exact hb)
 rw[h.sim.bl] at l0 l1 hc
 exact ⟨q,e,l0,l1,hc⟩
theorem XA (k:Nat) (h:RG σ i m t) {b:Nat} (hb:b<m.bls.length) (hst:(m.bls.getD b (0,0)).1=2):∀ (f n:Nat),m.bls.length≤b+n+f→n≤m.bls.length→DT k (f+1) (Ci i) (b:Int) (n:Int) σ=some (.exit 0,[.int .i64 (EO m b f n:Int)],σ)
 | 0,n,h1,h2=>by
   have hnt:=h.nt
   rw[LA,JJ,EO]
   have w:Ac ((b:Int)+(n:Int))=((b+n:Nat):Int):=by rw[Ad (by unfold AW; omega)]; omega
   have q:decide (((b+n:Nat):Int)<((m.bls.length:Nat):Int))=false:=decide_eq_false (by omega)
   simp only[Option.bind_some,Nat.zero_add,Nat.add_zero,h.at_.Sw,h.bn,w,q,cond_false]
 | f+1,n,h1,h2=>by
   have hnt:=h.nt
   rw[LA,JJ,EO]
   have w:Ac ((b:Int)+(n:Int))=((b+n:Nat):Int):=by rw[Ad (by unfold AW; omega)]; omega
   have w1:Ac ((n:Int)+1)=((n+1:Nat):Int):=Ad (by unfold AW; omega)
   simp only[Option.bind_some,Nat.zero_add,Nat.add_zero,h.at_.Sw,h.bn,w,hst,true_and]
   by_cases hc:b+n<m.bls.length
   ·obtain ⟨q,e,l0,_,_⟩:=XB h hc
    have q1:decide (((b+n:Nat):Int)<((m.bls.length:Nat):Int))=true:=decide_eq_true (by omega)
    have qx:(0≤((b+n:Nat):Int)∧((b+n:Nat):Int)<((m.bls.length:Nat):Int))=True:=eq_true (by omega)
    simp only[q1,cond_true,qx,if_true,e,Option.bind_some,Int.toNat_natCast,Nat.zero_add,l0]
    by_cases h3:(m.bls.getD (b+n) (0,0)).1=3
    ·rw[if_pos ⟨hc,h3⟩,beq_iff_eq.2 h3]
     simp only[cond_true,w1]
     exact XA k h hb hst f (n+1) (by omega) (by omega)
    ·rw[if_neg (fun h=>h3 h.2),beq_eq_false_iff_ne.2 h3]
     simp only[cond_false]
   ·have q1:decide (((b+n:Nat):Int)<((m.bls.length:Nat):Int))=false:=decide_eq_false (by omega)
    have qn:(b+n<m.bls.length∧(m.bls.getD (b+n) (0,0)).1=3)=False:=eq_false (fun h=>hc h.1)
    simp only[q1,cond_false,Option.bind_some,qn,if_false]
def RP (m:HM) (b:Nat):Nat:=if (m.bls.getD b (0,0)).1=1 then 1 else if (m.bls.getD b (0,0)).1=2 then Ee m b else 0
theorem Y2 (k:Nat) (hk:100≤k) (h:RG σ i m t) {b:Nat} (hb:b<m.bls.length):Ce (k+1) (Ci i) (b:Int) σ=some (.int .i64 (RP m b:Int),σ):=by
 have hnt:=h.nt
 obtain ⟨q,e,l0,_,_⟩:=XB h hb
 have qx:(0≤(b:Int)∧(b:Int)<((m.bls.length:Nat):Int))=True:=eq_true (by omega)
 rw[Ua,Qg]
 simp only[Option.bind_some,Nat.zero_add,Nat.add_zero,h.at_.Sw,h.bn,qx,if_true,e,Int.toNat_natCast,l0]
 unfold RP
 by_cases h1:(m.bls.getD b (0,0)).1=1
 ·rw[if_pos h1,beq_iff_eq.2 h1]; rfl
 rw[if_neg h1,beq_eq_false_iff_ne.2 h1]
 by_cases h2:(m.bls.getD b (0,0)).1=2
 ·rw[if_pos h2]
  have e1:=XA k h hb h2 (k-1) 1 (by omega) (by omega)
  rw[show k-1+1=k from by omega] at e1
  have e1':DT k k (Ci i) (b:Int) 1 σ=_:=e1
  simp only[h2,bne_self_eq_false,cond_false,e1',Option.bind_some,if_true,D4]
  rw[WQ m b (k-1) m.bls.length 1 (by omega) (by omega)]; rfl
 ·rw[if_neg h2]
  simp only[cond_false,bne_iff_ne.2 h2,cond_true]
  rfl
theorem Zu (r d k:Int):0≤words r d k∧words r d k≤218:=TC r d k
theorem iz (k:Nat) (r d c:Int) (σ:Aa):∃ τ,HK (k+3) r d c σ=some (.int .i64 ((words r d c+63).tdiv 64),σ++τ):=by
 obtain ⟨τ,e⟩:=HP k r d c (σ++[Bi.cells [.int .i64 r,.int .i64 d,.int .i64 c] Al true])
 have hw:=Zu r d c
 refine ⟨[Bi.cells [.int .i64 r,.int .i64 d,.int .i64 c] Al true]++τ, ?_⟩
 rw[Z2,Xd]
 simp only[Ap,LR,Nat.zero_add,Nat.reduceAdd,List.getElem?_cons_zero,List.getElem?_cons_succ,Option.bind_some,Am,e,show ((64:Int)=0)=False from by decide,if_false]
 have w1:Ac (words r d c+64)=words r d c+64:=Ad (by unfold AW; omega)
 have w2:Ac (words r d c+64-1)=words r d c+63:=by rw[Ad (by unfold AW; omega)]; omega
 obtain ⟨n,hn⟩:∃ n:Nat,words r d c+63=(n:Int):=⟨(words r d c+63).toNat,by omega⟩
 have w3:Ac ((words r d c+63).tdiv 64)=(words r d c+63).tdiv 64:=by
  rw[hn,show ((n:Int)).tdiv 64=((n/64:Nat):Int) from rfl]; exact Ad (by unfold AW; omega)
 rw[w1,w2,w3,List.append_assoc]
theorem Y0 (k:Nat) (r d c:Int) (σ:Aa):∃ τ,EL (k+3) r d c σ=some (.bool (decide (words r d c>32)),σ++τ):=by
 obtain ⟨τ,e⟩:=HP k r d c (σ++[Bi.cells [.int .i64 r,.int .i64 d,.int .i64 c] Al true])
 refine ⟨[Bi.cells [.int .i64 r,.int .i64 d,.int .i64 c] Al true]++τ, ?_⟩
 rw[Yk,VM]
 simp only[Ap,LR,Nat.zero_add,Nat.reduceAdd,List.getElem?_cons_zero,List.getElem?_cons_succ,Option.bind_some,Am,e]
 rw[List.append_assoc]
theorem SW {q:Nat} {x y z:Int} {T:TypeId} (h:σ[q]?=some (.cells [.int .i64 x,.int .i64 y,.int .i64 z] T true)):Ai .i64 σ q 0=some x∧Ai .i64 σ q 1=some y∧Ai .i64 σ q 2=some z:=by
 refine ⟨?_, ?_, ?_⟩ <;> simp[Ai,Gy,h,BA]
theorem Rp (k:Nat) (h:RG σ i m t) (a but:Int) (ha:0≤a∧a<4096) {q:Nat} {r d c:Int} (hq:σ[q]?=some (.cells [.int .i64 r,.int .i64 d,.int .i64 c] Al true)):∀ (n x f:Nat) (τ:Aa),x+n=t.ob.length→n<f →
  ∃ τ',Dp (k+2) f (Ci i) a but q (x:Int) (σ++τ)=some (if bM (t.ob.drop x) a (words r d c) but then (.ret,[.int .i64 8],σ++τ') else (.exit 0,[],σ++τ'))
 | 0,x,0,τ,hx,hf=>by omega
 | 0,x,f+1,τ,hx,hf=>by
   have hg:=h.app τ
   rw[MF,Kt,List.drop_eq_nil_of_le (by omega)]
   have q:decide ((x:Int)<((t.ob.length:Nat):Int))=false:=decide_eq_false (by omega)
   exact ⟨τ,by simp only[Option.bind_some,Nat.zero_add,hg.at_.N0,q,cond_false,bM,List.any_nil,Bool.false_eq_true,if_false]⟩
 | n+1,x,0,τ,hx,hf=>by omega
 | n+1,x,f+1,τ,hx,hf=>by
   have hol:=h.ol
   have hxl:x<t.ob.length:=by omega
   have hg:=h.app τ
   obtain ⟨j,b,p,A⟩:=hg.sr hxl
   have hz:=h.inv.size A.st
   have hjl:=A.lt
   have hw:=bR h.inv A.st
   have hwr:=Zu r d c
   have hoj:t.ob[x]=D5 m j:=by
    obtain ⟨j2,g1,_,_,g4⟩:=h.drop hxl
    rw[A.all] at g1; cases g1
    rw[List.getElem?_eq_getElem hxl] at g4; exact Option.some.inj g4
   have hov:bM (t.ob.drop x) a (words r d c) but=(decide ((D5 m j).id≠but∧((2*j:Nat):Int)<a+words r d c∧a<((2*j:Nat):Int)+(sz m j:Int)) || bM (t.ob.drop (x+1)) a (words r d c) but):=by
    rw[List.drop_eq_getElem_cons hxl,hoj]
    unfold bM
    rw[List.any_cons,hw,IM]
   obtain ⟨B,hB⟩:∃ B,Bi.cells (FI (D5 m j) p) Aj true=B:=⟨_,rfl⟩
   have st:Ki (σ++τ++[Bi.cells [.int .i64 0,.int .i64 0,.int .i64 0,.int .i64 0,.int .i64 0,.slice none 0 0,.slice none 0 0,.bool false] Aj true]) (σ++τ).length 0 [.int .i64 (D5 m j).addr,.int .i64 (D5 m j).id,.int .i64 (D5 m j).r,.int .i64 (D5 m j).d,.int .i64 (D5 m j).k,.slice p.1.1 p.1.2.1 p.1.2.2,.slice p.2.1 p.2.2.1 p.2.2.2,.bool (D5 m j).pin]=some (σ++τ++[B]):=by
    rw[pk,← hB]; rfl
   have lb:∀ (τ':Aa) (o:Nat),Ai .i64 (σ++τ++[B]++τ') (σ++τ).length o=((FI (D5 m j) p)[o]?).bind (BA .i64):=fun τ' o=>by rw[← hB]; exact WB _ _ _ _ _ _ _
   have lb0:∀ (o:Nat),Ai .i64 (σ++τ++[B]) (σ++τ).length o=((FI (D5 m j) p)[o]?).bind (BA .i64):=fun o=>by have:=lb [] o; rwa [List.append_nil] at this
   have hq':(σ++τ++[B])[q]?=some (.cells [.int .i64 r,.int .i64 d,.int .i64 c] Al true):=by
    rw[List.append_assoc,List.getElem?_append_left (Ae hq)]; exact hq
   obtain ⟨b0,b1,b2⟩:=SW hq'
   obtain ⟨τ1,e1⟩:=HP k r d c (σ++τ++[B])
   obtain ⟨τ2,e2⟩:=HP k (BV m j) (E5 m j) (Hh m j) (σ++τ++[B]++τ1)
   rw[(jh h.inv A.st).2.2.2.2.2.2.2] at e2
   have q0:decide ((x:Int)<((t.ob.length:Nat):Int))=true:=decide_eq_true (by omega)
   have qx:(0≤(x:Int)∧(x:Int)<((t.ob.length:Nat):Int))=True:=eq_true (by omega)
   have w1:Ac ((x:Int)+1)=((x+1:Nat):Int):=Ad (by unfold AW; omega)
   have w2:Ac (a+words r d c)=a+words r d c:=Ad (by unfold AW; omega)
   have w3:Ac (((2*j:Nat):Int)+(sz m j:Int))=((2*j:Nat):Int)+(sz m j:Int):=Ad (by unfold AW; omega)
   have c0:((FI (D5 m j) p)[0]?).bind (BA .i64)=some ((2*j:Nat):Int):=rfl
   have c1:((FI (D5 m j) p)[1]?).bind (BA .i64)=some (D5 m j).id:=rfl
   have c2:((FI (D5 m j) p)[2]?).bind (BA .i64)=some (BV m j):=rfl
   have c3:((FI (D5 m j) p)[3]?).bind (BA .i64)=some (E5 m j):=rfl
   have c4:((FI (D5 m j) p)[4]?).bind (BA .i64)=some (Hh m j):=rfl
   rw[hov,MF,Kt]
   simp only[Option.bind_some,Nat.zero_add,Nat.add_zero,Nat.add_assoc,Nat.reduceAdd,hg.at_.N0,q0,cond_true,qx,if_true,A.os,Int.toNat_natCast,A.ld.l0,A.ld.l1,A.ld.l2,A.ld.l3,A.ld.l4,A.ld.l5,A.ld.l6,A.ld.l7,Ap,st,lb0,c1]
   by_cases d1:(D5 m j).id=but
   ·obtain ⟨τ3,e3⟩:=Rp k h a but ha hq n (x+1) f (τ++[B]) (by omega) (by omega)
    refine ⟨τ3, ?_⟩
    have:((D5 m j).id != but)=false:=by rw[d1]; exact bne_self_eq_false _
    rw[decide_eq_false (fun h=>h.1 d1),Bool.false_or]
    simp only[← List.append_assoc] at e3
    simp only[this,cond_false,Option.bind_some,w1]
    exact e3
   ·have hb1:((D5 m j).id != but)=true:=bne_iff_ne.2 d1
    by_cases d2:((2*j:Nat):Int)<a+words r d c
    ·by_cases d3:a<((2*j:Nat):Int)+(sz m j:Int)
     ·refine ⟨τ++[B]++τ1++τ2, ?_⟩
      rw[decide_eq_true ⟨d1,d2,d3⟩]
      simp only[hb1,cond_true,lb0,c0,Option.bind_some,b0,b1,b2,e1,Am,w2,decide_eq_true d2,lb,c2,c3,c4,e2,w3,decide_eq_true d3,Bool.true_or,if_true]
      simp only[← List.append_assoc]
     ·obtain ⟨τ3,e3⟩:=Rp k h a but ha hq n (x+1) f (τ++[B]++τ1++τ2) (by omega) (by omega)
      refine ⟨τ3, ?_⟩
      rw[decide_eq_false (fun h=>d3 h.2.2),Bool.false_or]
      simp only[← List.append_assoc] at e3
      simp only[hb1,cond_true,lb0,c0,Option.bind_some,b0,b1,b2,e1,Am,w2,decide_eq_true d2,lb,c2,c3,c4,e2,w3,decide_eq_false d3,cond_false,w1]
      exact e3
    ·obtain ⟨τ3,e3⟩:=Rp k h a but ha hq n (x+1) f (τ++[B]++τ1) (by omega) (by omega)
     refine ⟨τ3, ?_⟩
     rw[decide_eq_false (fun h=>d2 h.2.1),Bool.false_or]
     simp only[← List.append_assoc] at e3
     simp only[hb1,cond_true,lb0,c0,Option.bind_some,b0,b1,b2,e1,Am,w2,decide_eq_false d2,cond_false,w1]
     exact e3
theorem Tf {hi:Nat} {but:Int}:∀ {f x:Nat},LG m hi but f x=false → ∃ y o,x≤y∧y<hi∧MH m (y:Int)=some o∧((2*o:Nat):Int)≠but
 | 0,x,h=>by cases h
 | f+1,x,h=>by
   rw[LG] at h
   split at h
   ·rename_i hx
    split at h
    ·rename_i o ho
     split at h
     ·obtain ⟨y,o',h1,h2⟩:=Tf h
      exact ⟨y,o',by omega,h2⟩
     ·rename_i hne
      exact ⟨x,o,Nat.le_refl _,hx,ho,hne⟩
    ·obtain ⟨y,o',h1,h2⟩:=Tf h
     exact ⟨y,o',by omega,h2⟩
   ·cases h
theorem oU (hI:Inv m) {a w:Nat} {but bid:Int} (ha:a % 2=0) (hw:w % 2=0) (hw0:2≤w) (hwl:w≤218) (hb:∀ o,Start m o→(((2*o:Nat):Int)=but↔m.wds.getD (2*o) 0=bid)):bM (KE m) (a:Int) (w:Int) bid = !LG m (a+w) but 200 a:=by
 rw[Bool.eq_iff_iff,Bool.not_eq_true']
 unfold bM KE
 rw[List.any_eq_true]
 constructor
 ·rintro ⟨o,ho,hd⟩
  obtain ⟨j,hj,rfl⟩:=List.mem_map.1 ho
  have hs:=Es.1 hj
  rw[decide_eq_true_eq,bR hI hs,IM] at hd
  have hz:=hI.size hs
  cases hf:LG m (a+w) but 200 a with
  | false=>rfl
  | true=>
    have hfit:=hI.fit j hs
    by_cases hc:a≤2*j
    ·have:=Vj hf (by omega) ((2*j-a)/2) (by omega) j (by
      rw[show a+2*((2*j-a)/2)=2*j from by omega]
      unfold MH
      rw[if_pos (by omega),Int.toNat_natCast,hI.PN hs (by omega) (by omega)])
     exact absurd ((hb j hs).1 this) hd.1
    ·have:=Vj hf (by omega) 0 (by omega) j (by
      unfold MH
      rw[if_pos (by omega),Int.toNat_natCast,hI.PN hs (by omega) (by omega)])
     exact absurd ((hb j hs).1 this) hd.1
 ·intro hf
  obtain ⟨y,o,h1,h2,h3,h4⟩:=Tf hf
  unfold MH at h3
  split at h3
  ·rw[Int.toNat_natCast] at h3
   obtain ⟨s1,_,s3,s4⟩:=Qu h3
   refine ⟨D5 m o,List.mem_map.2 ⟨o,Es.2 s1,rfl⟩, ?_⟩
   rw[decide_eq_true_eq,bR hI s1,IM]
   exact ⟨fun e=>h4 ((hb o s1).2 e),by omega,by omega⟩
  ·cases h3
theorem oX (k:Nat) (hk:5000≤k) (h:RG σ i m t) (a but bid:Int) {r d c:Int} (hv:valid r d c=true) (hb:∀ o,Start m o→(((2*o:Nat):Int)=but↔m.wds.getD (2*o) 0=bid)):
  ∃ τ,HJ (k+4) (Ci i) a r d c bid σ=some (.int .i64 (Ik m a (PS (num r d c)) but),σ++τ):=by
 have hnt:=h.nt
 have hwl:=h.wl
 have hol:=h.ol
 have hsz:words r d c=(PS (num r d c):Int):=by
  obtain ⟨p1,p2,p3,_⟩:=MM hv
  rw[ZN,p1,p2,p3]
 have hs2:=O9 hv
 have hv':=hv
 simp[valid] at hv'
 have hW:PS (num r d c) % 2=0∧2≤PS (num r d c)∧PS (num r d c)≤218:=by rw[hs2]; omega
 obtain ⟨W,hWe⟩:∃ W,PS (num r d c)=W:=⟨_,rfl⟩
 rw[hWe] at hsz hW ⊢
 obtain ⟨B,hB⟩:∃ B,Bi.cells [.int .i64 r,.int .i64 d,.int .i64 c] Al true=B:=⟨_,rfl⟩
 have hg:=h.app [B]
 have hq:(σ++[B])[σ.length]?=some (.cells [.int .i64 r,.int .i64 d,.int .i64 c] Al true):=by rw[← hB]; simp
 rw[U8,Re]
 simp only[Ap,hB]
 unfold Ik
 by_cases h0:a<0
 ·rw[if_pos (show ¬(0≤a∧a<(m.wds.length:Int)∧a.toNat % 2=0) by omega)]
  refine ⟨[B], ?_⟩
  simp only[decide_eq_true h0,cond_true,Option.bind_some]
 obtain ⟨n,rfl⟩:∃ n:Nat,a=(n:Int):=⟨a.toNat,by omega⟩
 rw[Int.toNat_natCast]
 have hm2:((n:Int)).tmod 2=((n % 2:Nat):Int):=rfl
 by_cases h1:n % 2=0
 rotate_left
 ·rw[if_pos (show ¬(0≤(n:Int)∧(n:Int)<(m.wds.length:Int)∧n % 2=0) by omega)]
  refine ⟨[B], ?_⟩
  have:(((n % 2:Nat):Int) != 0)=true:=bne_iff_ne.2 (by omega)
  simp only[decide_eq_false h0,cond_false,show ((2:Int)=0)=False from by decide,if_false,hm2,this,cond_true,Option.bind_some]
 have e2:(((n % 2:Nat):Int) != 0)=false:=by rw[h1]; rfl
 have w64l:Ac (((m.bls.length:Nat):Int)*64)=((m.wds.length:Nat):Int):=by rw[Ad (by unfold AW; omega)]; omega
 by_cases h3:n<m.wds.length
 rotate_left
 ·rw[if_pos (show ¬(0≤(n:Int)∧(n:Int)<(m.wds.length:Int)∧n % 2=0) by omega)]
  refine ⟨[B], ?_⟩
  simp only[decide_eq_false h0,cond_false,show ((2:Int)=0)=False from by decide,if_false,hm2,e2,Option.bind_some,Nat.zero_add,Nat.add_zero,hg.at_.Sw,hg.bn,w64l,decide_eq_true (show (n:Int)≥((m.wds.length:Nat):Int) by omega),cond_true]
 rw[if_neg (show ¬¬(0≤(n:Int)∧(n:Int)<(m.wds.length:Int)∧n % 2=0) by omega)]
 obtain ⟨b0,b1,b2⟩:=SW hq
 obtain ⟨τ1,eL⟩:=Y0 k r d c (σ++[B])
 have hg1:=hg.app τ1
 have hq1:(σ++[B]++τ1)[σ.length]?=_:=(List.getElem?_append_left (Ae hq)).trans hq
 obtain ⟨d0,d1,d2⟩:=SW hq1
 have hnb:n/64<m.bls.length:=by omega
 have wb:Ac (((n:Int)).tdiv 64)=((n/64:Nat):Int):=by rw[show ((n:Int)).tdiv 64=((n/64:Nat):Int) from rfl]; exact Ad (by unfold AW; omega)
 have hm64:((n:Int)).tmod 64=((n % 64:Nat):Int):=rfl
 obtain ⟨qb,eb,lb0,_,_⟩:=XB hg1 hnb
 have qx:(0≤((n/64:Nat):Int)∧((n/64:Nat):Int)<((m.bls.length:Nat):Int))=True:=eq_true (by omega)
 have loop:∀ μ:Aa,∃ τ',((Dp (k+3) (k+3) (Ci i) (n:Int) bid σ.length (0:Int) (σ++[B]++μ)).bind fun r67=>if r67.1 = .exit 0 then (some (Value.int .i64 (0:Int),r67.2.2)) else if r67.1 = .ret then (SH r67.2.1 fun n68=>some (.int .i64 n68,r67.2.2)) else none)=some (Value.int .i64 (if LG m (n+W) but 200 n then 0 else 8),σ++τ'):=by
  intro μ
  obtain ⟨τ',e⟩:=Rp (k+1) hg (n:Int) bid (by omega) hq t.ob.length 0 (k+3) μ (by omega) (by omega)
  rw[List.drop_zero,h.sim.ob,hsz,oU h.inv h1 hW.1 hW.2.1 hW.2.2 hb,show ((0:Nat):Int)=0 from rfl] at e
  have e':Dp (k+3) (k+3) (Ci i) (n:Int) bid σ.length 0 (σ++[B]++μ)=_:=e
  refine ⟨[B]++τ', ?_⟩
  rw[e',← List.append_assoc]
  cases LG m (n+W) but 200 n with
  | true=>simp only[Bool.not_true,Bool.false_eq_true,if_false,Option.bind_some,if_true]
  | false=>simp only[Bool.not_false,if_true,Option.bind_some,reduceCtorEq,if_false,D4,Bool.false_eq_true]
 simp only[decide_eq_false h0,cond_false,show ((2:Int)=0)=False from by decide,if_false,hm2,e2,Option.bind_some,Nat.zero_add,Nat.add_zero,Nat.reduceAdd,hg.at_.Sw,hg.bn,w64l,decide_eq_false (show ¬ (n:Int)≥((m.wds.length:Nat):Int) by omega),show ((64:Int)=0)=False from by decide,b0,b1,b2,eL,As,hsz]
 by_cases hL:W≤32
 ·rw[if_pos hL,decide_eq_false (by omega)]
  simp only[cond_false,hg1.at_.Sw,hg1.bn,wb,qx,if_true,eb,Option.bind_some,Int.toNat_natCast,Nat.zero_add,lb0]
  by_cases s1:(m.bls.getD (n/64) (0,0)).1=1
  ·obtain ⟨τ2,eW⟩:=HP (k+1) r d c (σ++[B]++τ1)
   rw[hsz] at eW
   have wa:Ac ((n:Int)+(W:Int))=((n+W:Nat):Int):=by rw[Ad (by unfold AW; omega)]; omega
   have wc:Ac (((n+W:Nat):Int)-1)=((n+W-1:Nat):Int):=by rw[Ad (by unfold AW; omega)]; omega
   have wd:Ac ((((n+W-1:Nat):Int)).tdiv 64)=(((n+W-1)/64:Nat):Int):=by rw[show (((n+W-1:Nat):Int)).tdiv 64=(((n+W-1)/64:Nat):Int) from rfl]; exact Ad (by unfold AW; omega)
   simp only[s1,bne_self_eq_false,cond_false,d0,d1,d2,Option.bind_some,eW,Am,wa,wc,wd]
   by_cases s2:(n+W-1)/64=n/64
   ·have:((((n+W-1)/64:Nat):Int) != ((n/64:Nat):Int))=false:=by rw[s2]; exact bne_self_eq_false _
    obtain ⟨τ',e'⟩:=loop (τ1++τ2)
    rw[if_neg (fun hh=>hh.elim (fun h=>h rfl) (fun h=>h s2))]
    refine ⟨τ', ?_⟩
    simp only[this,cond_false,Option.bind_some,if_true]
    rw[List.append_assoc (σ++[B])]
    exact e'
   ·have:((((n+W-1)/64:Nat):Int) != ((n/64:Nat):Int))=true:=bne_iff_ne.2 (by omega)
    rw[if_pos (.inr s2)]
    refine ⟨[B]++τ1++τ2, ?_⟩
    simp only[this,cond_true,Option.bind_some,reduceCtorEq,if_false,if_true,D4,List.append_assoc]
  ·rw[if_pos (.inl s1)]
   refine ⟨[B]++τ1, ?_⟩
   simp only[bne_iff_ne.2 s1,cond_true,Option.bind_some,reduceCtorEq,if_false,if_true,D4,List.append_assoc]
 ·rw[if_neg hL,decide_eq_true (by omega)]
  simp only[cond_true,hm64]
  by_cases s0:n % 64=0
  rotate_left
  ·have:(((n % 64:Nat):Int) != 0)=true:=bne_iff_ne.2 (by omega)
   rw[if_pos (.inr (.inl s0))]
   refine ⟨[B]++τ1, ?_⟩
   simp only[this,cond_true,Option.bind_some,reduceCtorEq,if_false,if_true,D4,List.append_assoc]
  have e0:(((n % 64:Nat):Int) != 0)=false:=by rw[s0]; rfl
  simp only[e0,cond_false,hg1.at_.Sw,hg1.bn,wb,qx,if_true,eb,Option.bind_some,Int.toNat_natCast,Nat.zero_add,lb0]
  by_cases s1:(m.bls.getD (n/64) (0,0)).1=2
  rotate_left
  ·rw[if_pos (.inl s1)]
   refine ⟨[B]++τ1, ?_⟩
   simp only[bne_iff_ne.2 s1,cond_true,Option.bind_some,reduceCtorEq,if_false,if_true,D4,List.append_assoc]
  have eWh:Ce (k+3) (Ci i) ((n/64:Nat):Int) (σ++[B]++τ1)=_:=Y2 (k+2) (by omega) hg1 hnb
  have hwn:RP m (n/64)=Ee m (n/64):=by unfold RP; rw[if_neg (by rw[s1]; decide),if_pos s1]
  obtain ⟨τ2,eN⟩:=iz k r d c (σ++[B]++τ1)
  have hnd:(words r d c+63).tdiv 64=(((W+63)/64:Nat):Int):=by rw[hsz]; rfl
  rw[hnd] at eN
  simp only[s1,bne_self_eq_false,cond_false,eWh,Option.bind_some,Am,hwn,d0,d1,d2,eN]
  by_cases s2:Ee m (n/64)=(W+63)/64
  ·have:(((Ee m (n/64):Nat):Int) != (((W+63)/64:Nat):Int))=false:=by rw[s2]; exact bne_self_eq_false _
   obtain ⟨τ',e'⟩:=loop (τ1++τ2)
   rw[if_neg (fun hh=>hh.elim (fun h=>h rfl) (fun h=>h.elim (fun h=>h s0) (fun h=>h s2)))]
   refine ⟨τ', ?_⟩
   simp only[this,cond_false,Option.bind_some,if_true]
   rw[List.append_assoc (σ++[B])]
   exact e'
  ·have:(((Ee m (n/64):Nat):Int) != (((W+63)/64:Nat):Int))=true:=bne_iff_ne.2 (by omega)
   rw[if_pos (.inr (.inr s2))]
   refine ⟨[B]++τ1++τ2, ?_⟩
   simp only[this,cond_true,Option.bind_some,reduceCtorEq,if_false,if_true,D4,List.append_assoc]
end Go.Proofs.YtlaplcglpnlieaaGreat
end
section
namespace Go.Proofs.YtlaplcglpnlieaaGreat
open Go Go.AX
noncomputable local instance vX:AF:=Au
local instance uN:Kn:=⟨true⟩
variable {σ:Aa} {m:HM} {t:RM} {i:RI}
theorem KX.app {s:E8} {l:List Int} (h:KX σ s l) (τ:Aa):KX (σ++τ) s l:=
 ⟨h.1,fun hn=>by
  obtain ⟨b,c,e,hc⟩:=h.2.1 hn
  exact ⟨b,c,e,(List.getElem?_append_left (Ae hc)).trans hc⟩,fun a ha=>by
  obtain ⟨cs,T,w,h1,h2⟩:=h.2.2 a ha
  exact ⟨cs,T,w,(List.getElem?_append_left (Ae h1)).trans h1,h2⟩⟩
theorem jP {j:Nat} (hs:Start m j):Qw m ((2*j:Nat):Int)=true:=by
 unfold Qw
 rw[decide_eq_true_eq,Int.toNat_natCast,show 2*j/2=j from by omega]
 exact ⟨by omega,by omega,hs⟩
theorem Zg (k:Nat) (hk:5000≤k) (h:RG σ i m t) (L:List Nat) (hL:∀ j ∈ L,Start m j) (hLl:L.length≤2048) {lo':Nat} (s:E8) (hs:Du lo' σ s (EE L)):∀ (n x f a:Nat) (τ:Aa) (o:E8) (R:List (Nat × Nat)),BQ Af 2 (σ++τ) o R.length (AL R)→(∀ q,o.1=some q→σ.length≤q.block)→R.length≤x→a≤5000→x+n=L.length→n<f →
  ∃ τ' o',Dn (k+3) f (Ci i) s.1 s.2.1 s.2.2 (o.1,o.2.1,o.2.2) (a:Int) (x:Int) (σ++τ)=some (.exit 0,[.slice o'.1 o'.2.1 o'.2.2,.int .i64 ((Eb m (L.drop x) a).2:Int)],σ++τ')∧BQ Af 2 (σ++τ') o' (R++(Eb m (L.drop x) a).1).length (AL (R++(Eb m (L.drop x) a).1))∧(∀ q,o'.1=some q→σ.length≤q.block)∧(Eb m (L.drop x) a).2≤5000∧(R++(Eb m (L.drop x) a).1).length≤L.length
 | 0,x,0,a,τ,o,R,hR,ho,hr,ha,hx,hf=>by omega
 | 0,x,f+1,a,τ,o,R,hR,ho,hr,ha,hx,hf=>by
   have al:(EE L).length=L.length:=by simp[EE]
   have sl:s.2.1=L.length:=by rw[← al]; exact hs.sl.len
   rw[ME,Ks,List.drop_eq_nil_of_le (by omega)]
   have q:decide ((x:Int)<((s.2.1:Nat):Int))=false:=decide_eq_false (by omega)
   exact ⟨τ,o,by simp only[q,cond_false,Eb],by simpa [Eb] using hR,ho,ha,by simp[Eb]; omega⟩
 | n+1,x,0,a,τ,o,R,hR,ho,hr,ha,hx,hf=>by omega
 | n+1,x,f+1,a,τ,o,R,hR,ho,hr,ha,hx,hf=>by
   have al:(EE L).length=L.length:=by simp[EE]
   have hxl:x<L.length:=by omega
   have hst:=hL _ (List.getElem_mem hxl)
   have hfit:=h.inv.fit _ hst
   have hz:=h.inv.size hst
   have hnt:=h.nt
   have hwl:=h.wl
   have hsj:=hst.1
   obtain ⟨b1,e1,hb1,c1,ldA⟩:=ints_at hs (x:=x) (by omega)
   rw[SM L hxl] at ldA
   have hbl:=Ae c1
   have ldA':∀ τ1:Aa,Ai .i64 (σ++τ1) b1 x=some ((2*L[x]:Nat):Int):=fun τ1=>by
    rw[← ldA]; simp only[Ai,Gy,List.getElem?_append_left hbl]
   have eT:Eb m (L.drop x) a=(Ip a (2*L[x])++(Eb m (L.drop (x+1)) (2*L[x]+sz m L[x])).1,(Eb m (L.drop (x+1)) (2*L[x]+sz m L[x])).2):=by
    rw[List.drop_eq_getElem_cons hxl]; rfl
   have qx:(0≤(x:Int)∧(x:Int)<((L.length:Nat):Int))=True:=eq_true (by omega)
   have q0:decide ((x:Int)<((L.length:Nat):Int))=true:=decide_eq_true (by omega)
   have w1:Ac ((x:Int)+1)=((x+1:Nat):Int):=Ad (by unfold AW; omega)
   have w2:Ac (((2*L[x]:Nat):Int)+(sz m L[x]:Int))=((2*L[x]+sz m L[x]:Nat):Int):=by rw[Ad (by unfold AW; omega)]; omega
   have hgl:(Ip a (2*L[x])).length≤1:=by unfold Ip; split <;> simp
   have tail:∀ (τ1:Aa) (o1:E8),BQ Af 2 (σ++τ1) o1 (R++Ip a (2*L[x])).length (AL (R++Ip a (2*L[x])))→(∀ q,o1.1=some q→σ.length≤q.block) →
     ∃ (y b2:Nat) (e3:i.os.1=some ⟨b2,0,none⟩) (e4:y<t.ob.length) (e5:Cv (k+3) (Ci i) ((2*L[x]:Nat):Int) (σ++τ1)=some (.int .i64 (y:Int),σ++τ1)) (e6:Ai .i64 (σ++τ1) b2 (y*8+2)=some (BV m L[x])) (e7:Ai .i64 (σ++τ1) b2 (y*8+3)=some (E5 m L[x])) (e8:Ai .i64 (σ++τ1) b2 (y*8+4)=some (Hh m L[x])) (τ2:Aa) (e9:BP (k+3) (BV m L[x]) (E5 m L[x]) (Hh m L[x]) (σ++τ1)=some (.int .i64 (sz m L[x]:Int),σ++τ2)) (τ':Aa) (o':E8),
      Dn (k+3) f (Ci i) s.1 s.2.1 s.2.2 (o1.1,o1.2.1,o1.2.2) ((2*L[x]+sz m L[x]:Nat):Int) ((x+1:Nat):Int) (σ++τ2)=some (.exit 0,[.slice o'.1 o'.2.1 o'.2.2,.int .i64 ((Eb m (L.drop x) a).2:Int)],σ++τ')∧BQ Af 2 (σ++τ') o' (R++(Eb m (L.drop x) a).1).length (AL (R++(Eb m (L.drop x) a).1))∧(∀ q,o'.1=some q→σ.length≤q.block)∧(Eb m (L.drop x) a).2≤5000∧(R++(Eb m (L.drop x) a).1).length≤L.length:=by
    intro τ1 o1 s1 n1
    have hg:=h.app τ1
    obtain ⟨y,j',b2,p,F⟩:=hg.found (jP hst)
    have ej:j'=L[x]:=by have:=F.e; omega
    subst ej
    obtain ⟨τ2,e9⟩:=HP (k+1) (BV m L[x]) (E5 m L[x]) (Hh m L[x]) (σ++τ1)
    rw[(jh h.inv hst).2.2.2.2.2.2.2,List.append_assoc] at e9
    have s2:BQ Af 2 (σ++(τ1++τ2)) o1 (R++Ip a (2*L[x])).length (AL (R++Ip a (2*L[x]))):=by rw[← List.append_assoc]; exact s1.app τ2
    obtain ⟨τ',o',r1,r2,r3,r4,r5⟩:=Zg k hk h L hL hLl s hs n (x+1) f (2*L[x]+sz m L[x]) (τ1++τ2) o1 (R++Ip a (2*L[x])) s2 n1 (by rw[List.length_append]; omega) (by omega) (by omega) (by omega)
    rw[eT]
    rw[List.append_assoc] at r2 r5
    exact ⟨y,b2,F.os,F.xl,by rw[← F.idx]; exact ix (k+1) (by omega) hg _,F.ld.l2,F.ld.l3,F.ld.l4,τ1++τ2,e9,τ',o',r1,r2,r3,r4,r5⟩
   subst e1
   rw[ME,Ks]
   simp only[al] at *
   by_cases hc:a<2*L[x]
   ·obtain ⟨o1,τ1,ea,s1,n1⟩:=MN cq au c9 rfl rfl (by decide) (by decide) (by decide) σ τ o R.length (AL R) 1 1 (AL [(a,2*L[x]-a)]) Af (by omega) (by decide) rfl hR ho
    have ea':Bv P Af (o.1,o.2.1,o.2.2) (some ⟨(σ++τ).length,0,none⟩,1,1) (σ++τ++[Bi.cells [.int .i64 (a:Int),.int .i64 ((2*L[x]-a:Nat):Int)] Af true])=some (o1,σ++τ1):=ea
    have gl:Ip a (2*L[x])=[(a,2*L[x]-a)]:=by unfold Ip; rw[if_pos hc]
    obtain ⟨y,b2,e3,e4,e5,e6,e7,e8,τ2,e9,τ',o',r1,r2,r3,r4,r5⟩:=tail τ1 o1 (by rw[gl,Jv,List.length_append]; exact s1) n1
    refine ⟨τ',o', ?_,r2,r3,r4,r5⟩
    have w:Ac (((2*L[x]:Nat):Int)-(a:Int))=((2*L[x]-a:Nat):Int):=by rw[Ad (by unfold AW; omega)]; omega
    have qy:(0≤(y:Int)∧(y:Int)<((t.ob.length:Nat):Int))=True:=eq_true (by omega)
    simp only[q0,cond_true,qx,if_true,Option.bind_some,Nat.zero_add,Nat.add_zero,Nat.add_assoc,Nat.reduceAdd,Int.toNat_natCast,Nat.mul_one,ldA',decide_eq_true (show ((2*L[x]:Nat):Int)>(a:Int) by omega),Ap,w,ea',F7,(h.app τ1).at_.N0,e5,Am,qy,e3,e6,e7,e8,e9,w2,w1]
    exact r1
   ·have gl:Ip a (2*L[x])=[]:=by unfold Ip; rw[if_neg hc]
    obtain ⟨y,b2,e3,e4,e5,e6,e7,e8,τ2,e9,τ',o',r1,r2,r3,r4,r5⟩:=tail τ o (by rw[gl,List.append_nil]; exact hR) ho
    refine ⟨τ',o', ?_,r2,r3,r4,r5⟩
    have qy:(0≤(y:Int)∧(y:Int)<((t.ob.length:Nat):Int))=True:=eq_true (by omega)
    simp only[q0,cond_true,cond_false,qx,if_true,Option.bind_some,Nat.zero_add,Nat.add_zero,Nat.add_assoc,Nat.reduceAdd,Int.toNat_natCast,Nat.mul_one,ldA',decide_eq_false (show ¬ ((2*L[x]:Nat):Int)>(a:Int) by omega),F7,(h.app τ).at_.N0,e5,Am,qy,e3,e6,e7,e8,e9,w2,w1]
    exact r1
def EN (m:HM) (b:Int):List (Nat × Nat):=if Ih m b=1 then YW m b.toNat else []
theorem YE {b:Int} (h:Ih m b=1):∃ n:Nat,b=(n:Int)∧n<m.bls.length∧(m.bls.getD n (0,0)).1=1:=by
 unfold Ih at h
 split at h
 ·rename_i hb
  refine ⟨b.toNat,by omega,by omega,h⟩
 ·cases h
theorem MJ (m:HM) (b:Int):(EN m b).length≤33:=by
 have aux:∀ (L:List Nat) (a:Nat),(Eb m L a).1.length≤L.length:=by
  intro L
  induction L with
  | nil=>intro a; exact Nat.le_refl _
  | cons j L ih=>
    intro a
    have:=ih (2*j+sz m j)
    have:(Ip a (2*j)).length≤1:=by unfold Ip; split <;> simp
    rw[Eb,List.length_append,List.length_cons]; omega
 unfold EN
 split
 ·unfold YW
  have:=aux (Cf m (32*b.toNat) 32) (64*b.toNat)
  have:=Oz m (32*b.toNat) 32
  have:(Ip (Eb m (Cf m (32*b.toNat) 32) (64*b.toNat)).2 (64*b.toNat+64)).length≤1:=by unfold Ip; split <;> simp
  rw[List.length_append]; omega
 ·simp
theorem oS (k:Nat) (hk:5000≤k) (h:RG σ i m t) (b:Int):∃ τ s,HI (k+4) (Ci i) b σ=some (.slice s.1 s.2.1 s.2.2,σ++τ)∧BQ Af 2 (σ++τ) s (EN m b).length (AL (EN m b)) ∧ ∀ a,s.1=some a→σ.length≤a.block:=by
 have hnt:=h.nt
 have hwl:=h.wl
 rw[U5,Rb]
 have eS:Bk (k+3) (Ci i) b σ=_:=S6 (k+1) h b
 simp only[eS,Option.bind_some,Am]
 unfold EN
 by_cases hc:Ih m b=1
 rotate_left
 ·rw[if_neg hc,bne_iff_ne.2 hc]
  exact ⟨[],(none,0,0),by simp only[cond_true,List.append_nil],BQ.nil _ _ _,by intro a ha; cases ha⟩
 rw[if_pos hc,hc]
 obtain ⟨n,rfl,hn,hst⟩:=YE hc
 obtain ⟨τ1,s,e1,i1⟩:=Zh (k+1) (by omega) h (n:Int)
 have eO:bE m (n:Int)=Cf m (32*n) 32:=by unfold bE; rw[if_pos (by omega),Int.toNat_natCast]
 rw[eO] at i1
 have hg:=h.app τ1
 have hL:∀ j ∈ Cf m (32*n) 32,Start m j:=by
  intro j hj
  obtain ⟨a,b',c⟩:=Hj.1 hj
  exact ⟨by omega,c⟩
 have hLl:=Oz m (32*n) 32
 obtain ⟨τ2,o2,e2,s2,n2,m4,m5⟩:=Zg k hk hg _ hL (by omega) s i1 (Cf m (32*n) 32).length 0 (k+3) (64*n) [] (none,0,0) [] (BQ.nil _ _ _) (by intro a ha; cases ha) (Nat.zero_le _) (by omega) (by omega) (by omega)
 rw[List.drop_zero,List.nil_append] at s2 m5
 rw[List.drop_zero,List.append_nil] at e2
 rw[List.drop_zero] at m4
 have e2':Dn (k+3) (k+3) (Ci i) s.1 s.2.1 s.2.2 (none,0,0) ((64*n:Nat):Int) 0 (σ++τ1)=_:=e2
 have w1:Ac ((n:Int)*64)=((64*n:Nat):Int):=by rw[Ad (by unfold AW; omega)]; omega
 have w2:Ac ((n:Int)+1)=((n+1:Nat):Int):=by rw[Ad (by unfold AW; omega)]; omega
 have w3:Ac (((n+1:Nat):Int)*64)=((64*n+64:Nat):Int):=by rw[Ad (by unfold AW; omega)]; omega
 rw[Int.toNat_natCast]
 unfold YW
 generalize hG:Eb m (Cf m (32*n) 32) (64*n)=G at e2' s2 m4 m5
 by_cases hq:G.2<64*n+64
 ·obtain ⟨o3,τ3,ea,s3,n3⟩:=MN cq au c9 rfl rfl (by decide) (by decide) (by decide) (σ++τ1) τ2 o2 G.1.length (AL G.1) 1 1 (AL [(G.2,64*n+64-G.2)]) Af (by omega) (by decide) rfl s2 n2
  have ea':Bv P Af (o2.1,o2.2.1,o2.2.2) (some ⟨(σ++τ1++τ2).length,0,none⟩,1,1) (σ++τ1++τ2++[Bi.cells [.int .i64 (G.2:Int),.int .i64 ((64*n+64-G.2:Nat):Int)] Af true])=some (o3,σ++τ1++τ3):=ea
  have gl:Ip G.2 (64*n+64)=[(G.2,64*n+64-G.2)]:=by unfold Ip; rw[if_pos hq]
  have w:Ac (((64*n+64:Nat):Int)-(G.2:Int))=((64*n+64-G.2:Nat):Int):=by rw[Ad (by unfold AW; omega)]; omega
  refine ⟨τ1++τ3,o3, ?_, ?_,fun a ha=>by have:=n3 a ha; simp at this; omega⟩
  ·simp only[bne_self_eq_false,cond_false,e1,Option.bind_some,H7,w1,e2',if_true,lK,w2,w3,decide_eq_true (show (G.2:Int)<((64*n+64:Nat):Int) by omega),cond_true,Ap,w,ea',F7]
   rw[List.append_assoc]
  ·rw[gl,Jv,List.length_append,← List.append_assoc]; exact s3
 ·have gl:Ip G.2 (64*n+64)=[]:=by unfold Ip; rw[if_neg hq]
  refine ⟨τ1++τ2,o2, ?_, ?_,fun a ha=>by have:=n2 a ha; simp at this; omega⟩
  ·simp only[bne_self_eq_false,cond_false,e1,Option.bind_some,H7,w1,e2',if_true,lK,w2,w3,decide_eq_false (show ¬ (G.2:Int)<((64*n+64:Nat):Int) by omega),cond_false,F7]
   rw[List.append_assoc]
  ·rw[gl,List.append_nil,← List.append_assoc]; exact s2
def Ok (m:HM) (b n:Nat):List Bool:=(List.range n).map fun x=>Ya m (64*b+8*x) 8
theorem ia (m:HM) (b n:Nat):Ok m b (n+1)=Ok m b n++[Ya m (64*b+8*n) 8]:=by
 unfold Ok; rw[List.range_succ,List.map_append]; rfl
theorem Ml (m:HM) (b n:Nat):(Ok m b n).length=n:=by unfold Ok; simp
theorem ma (l l':List Bool):Gf (l++l')=Gf l++Gf l':=by unfold Gf; rw[List.map_append]
theorem tv:IW P Eg=some 1:=by kernel_rfl
theorem th:bytesOf P Eg=some 1:=by kernel_rfl
theorem tx:GL P Eg=some (.bool false):=by kernel_rfl
def Er (m:HM) (b:Int):List Bool:=if Ih m b=1 then Ok m b.toNat 8 else []
theorem X8 (k:Nat) (hk:5000≤k) (h:RG σ i m t) {b x:Nat} (hb:b<m.bls.length) (hx:x<8):∀ (n y f:Nat) (is:Bool) (τ:Aa),y+n=8→n<f →
  ∃ τ',DR (k+3) f (Ci i) (b:Int) (x:Int) is (y:Int) (σ++τ)=some (.exit 2,[.bool (is || Ya m (64*b+8*x+y) n)],σ++τ')
 | 0,y,0,is,τ,hy,hf=>by omega
 | 0,y,f+1,is,τ,hy,hf=>by
   rw[L8,JH,Ya,Bool.or_false]
   exact ⟨τ,by simp only[decide_eq_false (show ¬ (y:Int)<8 by omega),cond_false]⟩
 | n+1,y,0,is,τ,hy,hf=>by omega
 | n+1,y,f+1,is,τ,hy,hf=>by
   have hnt:=h.nt
   have hwl:=h.wl
   have hg:=h.app τ
   obtain ⟨τ1,e1⟩:=oR k hk hg ((64*b+8*x+y:Nat):Int)
   have w1:Ac ((b:Int)*64)=((64*b:Nat):Int):=by rw[Ad (by unfold AW; omega)]; omega
   have w2:Ac ((x:Int)*8)=((8*x:Nat):Int):=by rw[Ad (by unfold AW; omega)]; omega
   have w3:Ac (((64*b:Nat):Int)+((8*x:Nat):Int))=((64*b+8*x:Nat):Int):=by rw[Ad (by unfold AW; omega)]; omega
   have w4:Ac (((64*b+8*x:Nat):Int)+(y:Int))=((64*b+8*x+y:Nat):Int):=by rw[Ad (by unfold AW; omega)]; omega
   have w5:Ac ((y:Int)+1)=((y+1:Nat):Int):=Ad (by unfold AW; omega)
   have hfi:MH m ((64*b+8*x+y:Nat):Int)=Rg m (64*b+8*x+y):=by unfold MH; rw[if_pos (by omega),Int.toNat_natCast]
   rw[hfi,List.append_assoc] at e1
   obtain ⟨τ2,e2⟩:=X8 k hk h hb hx n (y+1) f (is || (Rg m (64*b+8*x+y)).isSome) (τ++τ1) (by omega) (by omega)
   refine ⟨τ2, ?_⟩
   rw[show 64*b+8*x+(y+1)=64*b+8*x+y+1 from by omega] at e2
   rw[L8,JH,Ya,← Bool.or_assoc]
   simp only[decide_eq_true (show (y:Int)<8 by omega),cond_true,w1,w2,w3,w4,w5,e1,Option.bind_some]
   rw[← e2]
   cases Rg m (64*b+8*x+y) with
   | none=>cases is <;> simp only[E6,Option.bind_some,cond_true,cond_false,show ((4:Int) == 0)=false from rfl,Option.isSome_none,Bool.or_false,Bool.or_self]
   | some j=>cases is <;> simp only[E6,Option.bind_some,cond_true,cond_false,beq_self_eq_true,Option.isSome_some,Bool.or_true,Bool.or_self]
theorem X7 (k:Nat) (hk:5000≤k) (h:RG σ i m t) {b:Nat} (hb:b<m.bls.length):∀ (n x f:Nat) (τ:Aa) (o:E8),BQ Eg 1 (σ++τ) o x (Gf (Ok m b x))→(∀ q,o.1=some q→σ.length≤q.block)→x+n=8→n<f →
  ∃ τ' o',DQ (k+3) f (Ci i) (b:Int) (o.1,o.2.1,o.2.2) (x:Int) (σ++τ)=some (.exit 0,[.slice o'.1 o'.2.1 o'.2.2],σ++τ')∧BQ Eg 1 (σ++τ') o' 8 (Gf (Ok m b 8))∧(∀ q,o'.1=some q→σ.length≤q.block)
 | 0,x,0,τ,o,hR,ho,hx,hf=>by omega
 | 0,x,f+1,τ,o,hR,ho,hx,hf=>by
   have:x=8:=by omega
   subst this
   rw[L7,JG]
   exact ⟨τ,o,by simp only[show decide (((8:Nat):Int)<8)=false from rfl,cond_false],hR,ho⟩
 | n+1,x,0,τ,o,hR,ho,hx,hf=>by omega
 | n+1,x,f+1,τ,o,hR,ho,hx,hf=>by
   obtain ⟨τ1,e1⟩:=X8 k hk (h.app τ) hb (show x<8 by omega) 8 0 (k+3) false [] (by omega) (by omega)
   rw[Nat.add_zero,Bool.false_or,List.append_nil,List.append_assoc] at e1
   have e1':DR (k+3) (k+3) (Ci i) (b:Int) (x:Int) false 0 (σ++τ)=_:=e1
   have hR1:BQ Eg 1 (σ++(τ++τ1)) o x (Gf (Ok m b x)):=by rw[← List.append_assoc]; exact hR.app τ1
   obtain ⟨o2,τ2,ea,s2,n2⟩:=MN tv th tx rfl rfl (by decide) (by decide) (by decide) σ (τ++τ1) o x (Gf (Ok m b x)) 1 1 (Gf [Ya m (64*b+8*x) 8]) Eg (by omega) (by decide) rfl hR1 ho
   have ea':Bv P Eg (o.1,o.2.1,o.2.2) (some ⟨(σ++(τ++τ1)).length,0,none⟩,1,1) (σ++(τ++τ1)++[Bi.cells [.bool (Ya m (64*b+8*x) 8)] Eg true])=some (o2,σ++τ2):=ea
   rw[← ma,← ia] at s2
   obtain ⟨τ3,o3,e3,s3,n3⟩:=X7 k hk h hb n (x+1) f τ2 o2 s2 n2 (by omega) (by omega)
   refine ⟨τ3,o3, ?_,s3,n3⟩
   have w5:Ac ((x:Int)+1)=((x+1:Nat):Int):=Ad (by unfold AW; omega)
   rw[L7,JG]
   simp only[decide_eq_true (show (x:Int)<8 by omega),cond_true,e1',Option.bind_some,if_true,RN,Ap,Nat.add_zero,ea',w5]
   exact e3
theorem mS (k:Nat) (hk:5000≤k) (h:RG σ i m t) (b:Int):∃ τ s,He (k+4) (Ci i) b σ=some (.slice s.1 s.2.1 s.2.2,σ++τ)∧BQ Eg 1 (σ++τ) s (Er m b).length (Gf (Er m b)) ∧ ∀ a,s.1=some a→σ.length≤a.block:=by
 rw[TU,Qb]
 have eS:Bk (k+3) (Ci i) b σ=_:=S6 (k+1) h b
 simp only[eS,Option.bind_some,Am]
 unfold Er
 by_cases hc:Ih m b=1
 rotate_left
 ·rw[if_neg hc,bne_iff_ne.2 hc]
  exact ⟨[],(none,0,0),by simp only[cond_true,List.append_nil],BQ.nil _ _ _,by intro a ha; cases ha⟩
 rw[if_pos hc,hc]
 obtain ⟨n,rfl,hn,hst⟩:=YE hc
 obtain ⟨τ2,o2,e2,s2,n2⟩:=X7 k hk h hn 8 0 (k+3) [] (none,0,0) (BQ.nil _ _ _) (by intro a ha; cases ha) (by omega) (by omega)
 rw[List.append_nil] at e2
 have e2':DQ (k+3) (k+3) (Ci i) (n:Int) (none,0,0) 0 σ=_:=e2
 refine ⟨τ2,o2, ?_,by rw[Int.toNat_natCast,Ml]; exact s2,n2⟩
 simp only[bne_self_eq_false,cond_false,e2',Option.bind_some,if_true,F7]
end Go.Proofs.YtlaplcglpnlieaaGreat
end
