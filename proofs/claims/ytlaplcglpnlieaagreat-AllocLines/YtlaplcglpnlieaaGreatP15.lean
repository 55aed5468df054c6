/- Block 0; used blocks; objects of a used block; Lines.; Slices of any elements: appended to.; Gaps.; The document's heap: a list of objects; how it ans -/
import Derived.Test.YtlaplcglpnlieaaGreatP14
set_option linter.unusedVariables false
set_option linter.unusedSimpArgs false
set_option linter.unusedSectionVars false
section
namespace Go.Proofs.YtlaplcglpnlieaaGreat
open Go Go.AX
noncomputable local instance uT:AK:=Au
local instance tP:Kn:=⟨true⟩
variable {σ:Aa} {i:C8} {m:HM}
def B0 (m:HM):Prop:=(m.bls.getD 0 (0,0)).1=0
def BK (m:HM) (r:Int × HM):Prop:=(r.2.bls.getD 0 (0,0)).1=(m.bls.getD 0 (0,0)).1
theorem Ik {c:Prop} [Decidable c] {r r':Int × HM} (h:c→BK m r) (h':¬ c→BK m r'):BK m (if c then r else r'):=by
 split
 ·exact h ‹_›
 ·exact h' ‹_›
theorem oQ {r:Int × HM} (h:r.2.bls=m.bls):BK m r:=by unfold BK; rw[h]
theorem XQ (m:HM) (b c x y x' y':Int):BK m (Ce m b c x y x' y'):=by
 unfold Ce
 refine Ik (fun h1=>Ik (fun _=>?_) fun _=>rfl) fun _=>rfl
 unfold BK
 rw[List.getD_eq_getElem?_getD,List.getElem?_set,if_neg (by omega),← List.getD_eq_getElem?_getD,ae _ _ _ _ _ _ (by omega)]
theorem qv (m:HM) (x:Vu):BK m (gb m x):=by
 unfold gb
 refine Ik (fun _=>XQ _ _ _ _ _ _ _) fun _=>Ik (fun _=>XQ _ _ _ _ _ _ _) fun _=>Ik (fun _=>?_) fun _=>Ik (fun _=>?_) fun _=>Ik (fun _=>?_) fun _=>Ik (fun _=>?_) fun _=>Ik (fun _=>?_) fun _=>Ik (fun _=>?_) fun _=>Ik (fun _=>?_) fun _=>Ik (fun _=>?_) fun _=>Ik (fun _=>?_) fun _=>Ik (fun _=>?_) fun _=>Ik (fun _=>rfl) fun _=>rfl
 ·unfold HP
  refine Ik (fun hh=>Ik (fun _=>?_) fun _=>rfl) fun _=>rfl
  obtain ⟨n,e,h1,_⟩:=Te hh
  unfold BK
  rw[St,if_neg (by omega)]
 ·unfold Nw
  exact Ik (fun hh=>Y3 _ _ _ _ _) fun _=>rfl
 ·apply oQ
  unfold Cw
  split
  ·split <;> rfl
  ·rfl
 ·unfold P2; exact Ik (fun _=>rfl) fun _=>rfl
 ·unfold dc; exact Ik (fun _=>Ik (fun _=>rfl) fun _=>rfl) fun _=>rfl
 ·unfold Vr; exact Ik (fun _=>Ik (fun _=>rfl) fun _=>rfl) fun _=>rfl
 ·unfold S6; exact Ik (fun _=>rfl) fun _=>rfl
 ·unfold dp; refine Ik (fun _=>?_) fun _=>rfl
  split
  ·rfl
  ·exact Ik (fun _=>rfl) fun _=>rfl
 ·unfold cl; exact Ik (fun _=>rfl) fun _=>rfl
 ·unfold cl; exact Ik (fun _=>rfl) fun _=>rfl
theorem B0.do (h:B0 m) (x:Vu):B0 (gb m x).2:=(qv m x).trans h
theorem B0.run:∀ (l:List Vu) (m:HM),B0 m→B0 (runM m l)
 | [],m,h=>h
 | x::l,m,h=>B0.run l _ (h.do x)
theorem B0.new (n:Nat):B0 (Oh n):=by
 unfold B0 Oh
 simp only[List.getD_eq_getElem?_getD,List.getElem?_replicate]
 split <;> rfl
theorem fm (k:Nat) (h:Ag σ i m) {b:Nat} (hb:b<m.bls.length):BS (k+3) (En i) (b:Int) σ=some (.bool (decide (1≤b∧(m.bls.getD b (0,0)).1=1)),σ):=by
 rw[Lm,KL]
 simp only[ZC _ h,Option.bind_some,As]
 by_cases h1:1≤b
 ·rw[decide_eq_true (show 1≤(b:Int)∧(b:Int)<((m.bls.length:Nat):Int) by omega)]
  simp only[cond_true,Option.bind_some,Nat.zero_add,Nat.add_zero,h.RK]
  rw[if_pos (by omega)]
  simp only[Option.bind_some,Int.toNat_natCast,Nat.zero_add,(h.Wu hb).1,h1,true_and]
  rfl
 ·rw[decide_eq_false (show ¬ (1≤(b:Int)∧(b:Int)<((m.bls.length:Nat):Int)) by omega)]
  simp[h1]
theorem eh (hI:Inv m) (hI2:Inv2 m) {b:Nat} (hs:(m.bls.getD b (0,0)).1=1) {j:Nat} (hj:Start m j) (h1:32*b≤j) (h2:j<32*b+32):sz m j≤32∧2*j+sz m j≤64*b+64:=by
 have hz:=hI.size hj
 obtain ⟨k1,k2⟩:=hI2.kind j hj
 have e:2*j/64=b:=by omega
 rw[e] at k1 k2
 by_cases hw:sz m j≤32
 ·have:=(k1 hw).2
  omega
 ·have:=(k2 (by omega)).1
  rw[hs] at this
  exact absurd this (by decide)
theorem S8 {α:Type} {l:List α} {q:Nat} {x:α} (h:l[q]?=some x):l.set q x=l:=by
 apply List.ext_getElem?
 intro p
 rw[List.getElem?_set]
 split
 ·rename_i e
  subst e
  rw[if_pos (Ae h),h]
 ·rfl
def ju (m:HM) (j l:Nat):Prop:=2*j % 64/8≤l∧l≤(2*j % 64+sz m j-1)/8
theorem Y8 (k:Nat) (hb:Nat) (e2 hi:Nat) (he:e2<64) (hh:e2/8=hi):∀ (n x f:Nat) (σ:Aa) (bs:List Bool),σ[hb]?=some (.cells (Gd bs) DW true)→bs.length=8→x+n=hi+1→n<f →
  ∃ bs',Dj k f hb 8 (e2:Int) (x:Int) σ=some (.exit 2,[],σ.set hb (.cells (Gd bs') DW true))∧bs'.length=8∧(∀ t,bs'.getD t false=(bs.getD t false || decide (x≤t∧t≤hi)))
 | 0,x,0,σ,bs,hc,hl,hx,hf=>by omega
 | 0,x,f+1,σ,bs,hc,hl,hx,hf=>by
   rw[IE,HA]
   have w:Ac ((e2:Int).tdiv 8)=(hi:Int):=by rw[show ((e2:Int)).tdiv 8=((e2/8:Nat):Int) from rfl,hh]; exact Ad (by unfold AY; omega)
   have q:decide ((x:Int)≤(hi:Int))=false:=decide_eq_false (by omega)
   refine ⟨bs, ?_,hl,fun t=>?_⟩
   ·simp only[w,q,cond_false]
    rw[if_neg (by decide),S8 hc]
   ·rw[decide_eq_false (by omega),Bool.or_false]
 | n+1,x,0,σ,bs,hc,hl,hx,hf=>by omega
 | n+1,x,f+1,σ,bs,hc,hl,hx,hf=>by
   have hx8:x<bs.length:=by omega
   have hs:Gz σ hb x (.bool true)=_:=qP true hc hx8
   have hlt:=Ae hc
   obtain ⟨bs',e,l',g⟩:=Y8 k hb e2 hi he hh n (x+1) f (σ.set hb (.cells (Gd (bs.set x true)) DW true)) (bs.set x true) (List.getElem?_set_self hlt) (by simpa using hl) (by omega) (by omega)
   refine ⟨bs', ?_,l',fun t=>?_⟩
   ·rw[IE,HA]
    have w:Ac ((e2:Int).tdiv 8)=(hi:Int):=by rw[show ((e2:Int)).tdiv 8=((e2/8:Nat):Int) from rfl,hh]; exact Ad (by unfold AY; omega)
    have q:decide ((x:Int)≤(hi:Int))=true:=decide_eq_true (by omega)
    have w1:Ac ((x:Int)+1)=((x+1:Nat):Int):=Ad (by unfold AY; omega)
    simp only[w,q,cond_true]
    rw[if_neg (by decide),if_pos (by omega)]
    simp only[Int.toNat_natCast,Nat.zero_add,Nat.mul_one,hs,Option.bind_some,w1,e,List.set_set]
   ·rw[g t,lB bs x t true hx8]
    by_cases ht:t=x
    ·subst ht; simp; omega
    ·rw[if_neg ht]
     congr 1
     exact decide_eq_decide.2 (by omega)
theorem Y7 (k:Nat) (hk:100≤k) (hI:Inv m) (hI2:Inv2 m) {b:Nat} (hbl:b<m.bls.length) (hst:(m.bls.getD b (0,0)).1=1) (hb:Nat) (hnb:hb ∉ i.l) (L:List Nat) (hL:∀ j ∈ L,Start m j∧32*b≤j∧j<32*b+32) (hLl:L.length≤32) (lo:Nat) (s:EF) (hsb:∀ a,s.1=some a→a.block≠hb):∀ (n x f:Nat) (σ:Aa) (bs:List Bool),Ag σ i m→σ[hb]?=some (.cells (Gd bs) DW true)→DX lo σ s (E8 L)→bs.length=8→x+n=L.length→n<f →
  ∃ σ' bs',Di (k+3) f (En i) hb 8 s.1 s.2.1 s.2.2 (L.length:Int) (x:Int) σ=some (.exit 0,[],σ')∧Ag σ' i m∧σ'[hb]?=some (.cells (Gd bs') DW true)∧bs'.length=8∧(∀ t,bs'.getD t false=true↔bs.getD t false=true ∨ ∃ j ∈ L.drop x,ju m j t)∧σ.length≤σ'.length ∧ ∀ q,q<σ.length→q≠hb→σ'[q]?=σ[q]?
 | 0,x,0,σ,bs,h,hc,hs,hl,hx,hf=>by omega
 | 0,x,f+1,σ,bs,h,hc,hs,hl,hx,hf=>by
   rw[ID,H9]
   have q:decide ((x:Int)<(L.length:Int))=false:=decide_eq_false (by omega)
   refine ⟨σ,bs,by simp only[q,cond_false],h,hc,hl,fun t=>?_,Nat.le_refl _,fun _ _ _=>rfl⟩
   rw[List.drop_eq_nil_of_le (by omega)]
   simp
 | n+1,x,0,σ,bs,h,hc,hs,hl,hx,hf=>by omega
 | n+1,x,f+1,σ,bs,h,hc,hs,hl,hx,hf=>by
   have hxl:x<L.length:=by omega
   obtain ⟨j1,j2,j3⟩:=hL _ (List.getElem_mem hxl)
   have hj:=j1.1
   have ht:=h.nt
   obtain ⟨z1,z2⟩:=eh hI hI2 hst j1 j2 j3
   have hz:=hI.size j1
   have al:(E8 L).length=L.length:=by simp[E8]
   obtain ⟨τ,e⟩:=ZB k h hj
   obtain ⟨jx,hjx⟩:∃ jx,L[x]=jx:=⟨_,rfl⟩
   rw[hjx] at j1 j2 j3 hj z1 z2 hz e
   have hc1:(σ++τ)[hb]?=some (.cells (Gd bs) DW true):=by rw[List.getElem?_append_left (Ae hc)]; exact hc
   obtain ⟨bs1,e1,l1,g1⟩:=Y8 (k+3) hb (2*jx % 64+sz m jx-1) ((2*jx % 64+sz m jx-1)/8) (by omega) rfl ((2*jx % 64+sz m jx-1)/8+1-2*jx % 64/8) (2*jx % 64/8) (k+3) (σ++τ) bs hc1 hl (by omega) (by omega)
   obtain ⟨σ1,hσ1⟩:∃ σ1,(σ++τ).set hb (.cells (Gd bs1) DW true)=σ1:=⟨_,rfl⟩
   rw[hσ1] at e1
   have hlt:=Ae hc1
   have len1:σ1.length=σ.length+τ.length:=by rw[← hσ1]; simp
   have same1:∀ q,q<σ.length→q≠hb→σ1[q]?=σ[q]?:=fun q hq hne=>by
    rw[← hσ1,List.getElem?_set_ne (Ne.symm hne),List.getElem?_append_left hq]
   have h1:Ag σ1 i m:=h.Dd fun q hq=>same1 q (h.lt q hq) (fun e=>hnb (e ▸ hq))
   have c1:σ1[hb]?=some (.cells (Gd bs1) DW true):=by rw[← hσ1]; exact List.getElem?_set_self hlt
   have s1:DX lo σ1 s (E8 L):=by
    rcases hs with hs | ⟨q,a1,rfl,a3,a4⟩
    ·exact .inl hs
    ·exact .inr ⟨q,a1,rfl,a3,by rw[same1 q (Ae a4) (hsb _ rfl)]; exact a4⟩
   obtain ⟨σ2,bs2,e2,h2,c2,l2,g2,len2,same2⟩:=Y7 k hk hI hI2 hbl hst hb hnb L hL hLl lo s hsb n (x+1) f σ1 bs1 h1 c1 s1 l1 (by omega) (by omega)
   refine ⟨σ2,bs2, ?_,h2,c2,l2,fun t=>?_,by omega,fun q hq hne=>(same2 q (by omega) hne).trans (same1 q hq hne)⟩
   ·have hs':=hs
    rcases hs with ⟨he,_⟩ | ⟨q,hb1,rfl,hb2,hb3⟩
    ·rw[he] at al; simp at al; omega
    rw[ID,H9]
    have q0:decide ((x:Int)<(L.length:Int))=true:=decide_eq_true (by omega)
    have w1:Ac ((x:Int)+1)=((x+1:Nat):Int):=Ad (by unfold AY; omega)
    have sF:Ai .i64 σ q x=some ((2*jx:Nat):Int):=by
     rw[hs'.ld (by omega),SI L hxl,hjx]
    have m1:(((2*jx:Nat):Int)).tmod 64=((2*jx % 64:Nat):Int):=rfl
    have m2:Ac ((((2*jx % 64:Nat):Int)).tdiv 8)=((2*jx % 64/8:Nat):Int):=by rw[show ((((2*jx % 64:Nat):Int)).tdiv 8)=((2*jx % 64/8:Nat):Int) from rfl]; exact Ad (by unfold AY; omega)
    have m3:Ac (((2*jx % 64:Nat):Int)+(sz m jx:Int))=((2*jx % 64+sz m jx:Nat):Int):=by rw[Ad (by unfold AY; omega)]; omega
    have m4:Ac (((2*jx % 64+sz m jx:Nat):Int)-1)=((2*jx % 64+sz m jx-1:Nat):Int):=by rw[Ad (by unfold AY; omega)]; omega
    simp only[q0,cond_true]
    rw[if_pos (by omega)]
    simp only[Option.bind_some,Nat.zero_add,Int.toNat_natCast,Nat.mul_one,sF,show ((64:Int)=0)=False from by decide,show ((8:Int)=0)=False from by decide,if_false,e,Ao,m1,m2,m3,m4,e1,if_true,w1]
    exact e2
   ·rw[g2 t,List.drop_eq_getElem_cons hxl,hjx]
    have:=g1 t
    constructor
    ·rintro (a | ⟨j,a1,a2⟩)
     ·rw[this,Bool.or_eq_true,decide_eq_true_eq] at a
      rcases a with a | a
      ·exact .inl a
      ·exact .inr ⟨jx,List.mem_cons_self,a⟩
     ·exact .inr ⟨j,List.mem_cons_of_mem _ a1,a2⟩
    ·rintro (a | ⟨j,a1,a2⟩)
     ·left; rw[this,a]; rfl
     ·rcases List.mem_cons.1 a1 with rfl | a1
      ·left; rw[this,Bool.or_eq_true,decide_eq_true_eq]; exact .inr a2
      ·exact .inr ⟨j,a1,a2⟩
theorem DX.ge {lo:Nat} {s:EF} {l:List Int} (h:DX lo σ s l):∀ a,s.1=some a→lo≤a.block∧a.block<σ.length:=by
 rcases h with ⟨_,rfl⟩ | ⟨b,h1,rfl,_,h2⟩
 ·intro a e; cases e
 ·intro a e; cases e; exact ⟨h1,Ae h2⟩
theorem mB (k:Nat) (h:Ag σ i m) {b:Nat} (hb:b<m.bls.length) (hn:¬ (1≤b∧(m.bls.getD b (0,0)).1=1)):Cm (k+4) (En i) (b:Int) σ=some (.slice none 0 0,σ):=by
 rw[HF,H8]
 simp only[fm _ h hb,Option.bind_some,As,decide_eq_false hn,Bool.not_false,cond_true]
theorem mE (k:Nat) (hk:5000≤k) (h:Ag σ i m) (hI:Inv m) (hI2:Inv2 m) {b:Nat} (hb:b<m.bls.length) (h1:1≤b) (hst:(m.bls.getD b (0,0)).1=1):
  ∃ τ bs,Cm (k+7) (En i) (b:Int) σ=some (.slice (some ⟨σ.length,0,none⟩) 8 8,σ++τ)∧(σ++τ)[σ.length]?=some (.cells (Gd bs) DW true)∧bs.length=8∧(∀ t,bs.getD t false=true ↔ ∃ j ∈ Cj m (32*b) 32,ju m j t):=by
 have hu:BS (k+6) (En i) (b:Int) σ=_:=fm (k+3) h hb
 obtain ⟨σ1,hσ1⟩:∃ σ1,σ++[AP.cells (Gd (List.replicate 8 false)) DW true]=σ1:=⟨_,rfl⟩
 have h1':Ag σ1 i m:=hσ1 ▸ h.app _
 have c1:σ1[σ.length]?=some (.cells (Gd (List.replicate 8 false)) DW true):=by rw[← hσ1]; simp
 obtain ⟨τ2,s,e2,i2⟩:=Wf k hk h1' hb
 have hL:∀ j ∈ Cj m (32*b) 32,Start m j∧32*b≤j∧j<32*b+32:=by
  intro j hj
  obtain ⟨a,b',c⟩:=Jv.1 hj
  exact ⟨⟨by omega,c⟩,a,b'⟩
 have hnb:σ.length ∉ i.l:=fun hm=>Nat.lt_irrefl _ (h.lt _ hm)
 have hlen1:σ1.length=σ.length+1:=by rw[← hσ1]; simp
 obtain ⟨σ3,bs,e3,h3,c3,l3,g3,len3,same3⟩:=Y7 (k+3) (by omega) hI hI2 hb hst σ.length hnb _ hL (Ow m _ _) σ1.length s (fun a ha=>by have:=(i2.ge a ha).1; omega) (Cj m (32*b) 32).length 0 (k+6) (σ1++τ2) (List.replicate 8 false) (h1'.app τ2)
  (by rw[List.getElem?_append_left (Ae c1)]; exact c1) i2 rfl (by omega) (by have:=Ow m (32*b) 32; omega)
 have hl2:σ.length≤σ3.length:=by simp at len3; omega
 have eσ:σ3=σ++σ3.drop σ.length:=by
  apply List.ext_getElem?
  intro q
  by_cases hq:q<σ.length
  ·rw[List.getElem?_append_left hq,same3 q (by simp; omega) (by omega),List.getElem?_append_left (by omega),← hσ1,List.getElem?_append_left hq]
  ·rw[List.getElem?_append_right (by omega),List.getElem?_drop]
   rw[show σ.length+(q-σ.length)=q from by omega]
 refine ⟨σ3.drop σ.length,bs, ?_,by rw[← eσ]; exact c3,l3,fun t=>?_⟩
 ·rw[HF,H8]
  have hl:=i2.len
  rw[show (E8 (Cj m (32*b) 32)).length=(Cj m (32*b) 32).length from by simp[E8]] at hl
  simp only[hu,Option.bind_some,As,decide_eq_true (And.intro h1 hst),Bool.not_true,cond_false]
  have q8:(0≤(8:Int)∧(8:Int)≤(8:Int)∧(8:Int)*((1:Nat):Int)≤2 ^ 40∧(8:Int)≤2 ^ 40)=True:=eq_true (⟨by omega,by omega,by omega,by omega⟩)
  simp only[q8,if_true,An,show (8:Int).toNat=8 from rfl,od,hσ1,e2,Option.bind_some,Hm,hl]
  rw[show ((0:Nat):Int)=0 from rfl,hl] at e3
  simp only[e3,Option.bind_some,if_true]
  rw[← eσ]
 ·rw[g3 t,List.drop_zero]
  constructor
  ·rintro (a | a)
   ·rw[List.getD_eq_getElem?_getD,List.getElem?_replicate] at a
    split at a <;> cases a
   ·exact a
  ·exact .inr
end Go.Proofs.YtlaplcglpnlieaaGreat
end
section
namespace Go.Proofs.YtlaplcglpnlieaaGreat
open Go Go.AX
noncomputable local instance uk:AK:=Au
local instance tc:Kn:=⟨true⟩
variable {σ:Aa} {i:C8} {m:HM}
def Cd (E:TypeId) (s:Nat) (σ:Aa) (sl:EF) (n:Nat) (row:List Value):Prop:=
 (n=0∧row=[]∧sl=(none,0,0)) ∨ ∃ b,sl=(some ⟨b,0,none⟩,n,n)∧0≤n∧row.length=n*s∧σ[b]?=some (.cells row E true)
theorem Cd.len {E:TypeId} {s n:Nat} {sl:EF} {row:List Value} (h:Cd E s σ sl n row):sl.2.1=n:=by
 rcases h with ⟨rfl,_,rfl⟩ | ⟨b,rfl,_⟩ <;> rfl
theorem Cd.form {E:TypeId} {s n:Nat} {sl:EF} {row:List Value} (h:Cd E s σ sl n row):sl=(sl.1,n,n):=by
 rcases h with ⟨rfl,_,rfl⟩ | ⟨b,rfl,_⟩ <;> rfl
theorem Cd.nil (E:TypeId) (s:Nat) (σ:Aa):Cd E s σ (none,0,0) 0 []:=.inl ⟨rfl,rfl,rfl⟩
theorem Cd.Dd {E:TypeId} {s n:Nat} {σ':Aa} {sl:EF} {row:List Value} (h:Cd E s σ sl n row) (hs:∀ a,sl.1=some a→σ'[a.block]?=σ[a.block]?):Cd E s σ' sl n row:=by
 rcases h with h | ⟨b,rfl,h1,h2,h3⟩
 ·exact .inl h
 ·exact .inr ⟨b,rfl,h1,h2,by rw[hs _ rfl]; exact h3⟩
theorem Cd.lt {E:TypeId} {s n:Nat} {sl:EF} {row:List Value} (h:Cd E s σ sl n row):∀ a,sl.1=some a→a.block<σ.length:=by
 rcases h with ⟨_,_,rfl⟩ | ⟨b,rfl,h1,h2,h3⟩
 ·intro a e; cases e
 ·intro a e; cases e; exact Ae h3
theorem Cd.app {E:TypeId} {s n:Nat} {sl:EF} {row:List Value} (h:Cd E s σ sl n row) (τ:Aa):Cd E s (σ++τ) sl n row:=
 h.Dd fun a ha=>List.getElem?_append_left (h.lt a ha)
theorem DX.sl {lo:Nat} {s:EF} {l:List Int} (h:DX lo σ s l):Cd Bq 1 σ s l.length (CS l):=by
 rcases h with ⟨rfl,rfl⟩ | ⟨b,h1,rfl,h3,h4⟩
 ·exact .inl ⟨rfl,rfl,rfl⟩
 ·exact .inr ⟨b,rfl,Nat.zero_le _,by rw[GI,Nat.mul_one],h4⟩
theorem SL {E:TypeId} {s by_:Nat} {z:Value} (hs:HX P E=some s) (hb:bytesOf P E=some by_) (hz:FL P E=some z) (hz1:IM z=false) (hz2:z.cells.size=s) (hs0:0<s) (hb0:0<by_) (hb1:by_≤1000)
  (σ:Aa) (sl:EF) (n:Nat) (row:List Value) (src:Option Addr) (n' c:Nat) (row':List Value) (hn:n+n'≤1000000) (hn0:0<n') (hr:row'.length=n'*s) (hsl:Cd E s σ sl n row) (hx:F5 σ s src n'=some row'):
  ∃ s' σ',Bn P E sl (src,n',c) σ=some (s',σ')∧Gk σ sl σ' s'∧Cd E s σ' s' (n+n') (row++row'):=by
 unfold Bn SK
 simp only[hs,hb,hz,Option.bind_some,hx]
 have h1:(¬ (IM z=false∧some s=some z.cells.size∧0<z.cells.size))=False:=by
  rw[hz1,hz2]; simp[hs0]
 simp only[h1,if_false]
 have hm:(n+n')*by_≤1000000*1000:=Nat.mul_le_mul hn hb1
 have r:Q4 (n+n') by_∧0<by_:=⟨⟨by omega,by omega⟩,hb0⟩
 rcases hsl with ⟨rfl,rfl,rfl⟩ | ⟨b,rfl,hp,hl,hcell⟩
 ·simp only[show ¬ (0+n'≤0) from by omega,if_false,r,and_self,if_true,Lp,cond_true,pC]
  refine ⟨_,_,rfl,⟨by simp,fun q hq _=>List.getElem?_append_left hq,.inr fun a ha=>by cases ha; exact Nat.le_refl _⟩,.inr ⟨σ.length,by simp,by omega,by simpa using hr,by simp⟩⟩
 ·have hb2:=Ae hcell
  have e1:elemAt σ b=some E:=by simp[elemAt,hcell]
  have e2:Ue σ b 0 (n*s)=some row:=by
   simp only[Ue,hcell,hl,Nat.zero_add,Nat.le_refl,if_true,List.drop_zero]
   rw[List.take_of_length_le (Nat.le_of_eq hl)]
  have e3:IZ σ b=true:=by simp[IZ,hcell]
  simp only[show ¬ (n+n'≤n) from by omega,if_false,r,and_self,if_true,Lp,Option.isSome_none,cond_false,Option.bind_some,e1,e2,e3,cond_true,pC]
  refine ⟨_,_,rfl,⟨by simp,fun q hq hn=>?_,.inr fun a ha=>?_⟩,.inr ⟨σ.length,rfl,by omega,by rw[List.length_append,hl,hr,Nat.add_mul],by simp⟩⟩
  ·rw[List.getElem?_append_left (by simpa using hq),List.getElem?_set_ne (hn _ rfl)]
  ·cases ha; exact Nat.le_refl _
theorem ba {E:TypeId} {s by_:Nat} {z:Value} (hs:HX P E=some s) (hb:bytesOf P E=some by_) (hz:FL P E=some z) (hz1:IM z=false) (hz2:z.cells.size=s) (hs0:0<s) (hb0:0<by_) (hb1:by_≤1000)
  (σ:Aa) (sl:EF) (n:Nat) (row:List Value) (n' c:Nat) (row':List Value) (T:TypeId) (hn:n+n'≤1000000) (hn0:0<n') (hr:row'.length=n'*s) (hsl:Cd E s σ sl n row):
  ∃ s' σ',Bn P E sl (some ⟨σ.length,0,none⟩,n',c) (σ++[.cells row' T true])=some (s',σ')∧Gk σ sl σ' s'∧Cd E s σ' s' (n+n') (row++row'):=by
 obtain ⟨s',σ',e,g,h⟩:=SL hs hb hz hz1 hz2 hs0 hb0 hb1 (σ++[.cells row' T true]) sl n row (some ⟨σ.length,0,none⟩) n' c row' hn hn0 hr (hsl.app _) (by
  simp only[F5,Ue,List.getElem?_concat_length,hr,Nat.zero_add,Nat.le_refl,if_true,List.drop_zero]
  rw[List.take_of_length_le (Nat.le_of_eq hr)])
 exact ⟨s',σ',e,(Gk.app _ _ _).trans g,h⟩
theorem ints_at {lo:Nat} {s:EF} {l:List Int} (h:DX lo σ s l) {x:Nat} (hx:x<l.length):∃ b,s=(some ⟨b,0,none⟩,l.length,l.length)∧lo≤b∧σ[b]?=some (.cells (CS l) Bq true)∧Ai .i64 σ b x=some (l.getD x 0):=by
 rcases h with ⟨he,_⟩ | ⟨b,h1,h2,h3,h4⟩
 ·rw[he] at hx; simp at hx
 ·refine ⟨b,h2,h1,h4, ?_⟩
  have h':DX lo σ (some ⟨b,0,none⟩,l.length,l.length) l:=.inr ⟨b,h1,rfl,h3,h4⟩
  exact h'.ld hx
theorem nF {b x:Nat} {l:List Int} {T:TypeId} {rw':Bool} (h:σ[b]?=some (.cells (CS l) T rw')) (hx:x<l.length):Ai .i64 σ b x=some (l.getD x 0):=by
 simp only[Ai,Gs,h]
 simp[CS,List.getElem?_map,List.getElem?_eq_getElem hx,List.getD_eq_getElem?_getD,BF]
theorem mT (hI:Inv m) (hI2:Inv2 m) {j q:Nat} (hj:Start m j) (h1:2*j≤q) (h2:q<2*j+sz m j) (hs:(m.bls.getD (q/64) (0,0)).1=1):2*j/64=q/64:=by
 have hz:=hI.size hj
 obtain ⟨k1,k2⟩:=hI2.kind j hj
 by_cases hw:sz m j≤32
 ·have:=(k1 hw).2
  omega
 ·obtain ⟨p1,p2,p3⟩:=k2 (by omega)
  rcases Nat.lt_or_ge (2*j/64) (q/64) with hlt | hge
  ·have:=p3 (q/64) hlt (by omega)
   rw[hs] at this; exact absurd this (by decide)
  ·omega
theorem iy (hI:Inv m) {j:Nat} (hs:Start m j):m.wds.getD (2*j+1) 0=BP m j+16*Eu m j+4096*Hg m j∧0≤BP m j∧BP m j≤15∧0≤Eu m j∧Eu m j≤200∧0≤Hg m j∧Hg m j≤3∧words (BP m j) (Eu m j) (Hg m j)=(sz m j:Int):=by
 obtain ⟨r,d,k,hv,he⟩:=hI.good j hs
 obtain ⟨p1,p2,p3,_⟩:=Oi hv
 have e1:BP m j=r:=by unfold BP; rw[he,p1]
 have e2:Eu m j=d:=by unfold Eu; rw[he,p2]
 have e3:Hg m j=k:=by unfold Hg; rw[he,p3]
 have hw:words (BP m j) (Eu m j) (Hg m j)=(sz m j:Int):=by
  unfold sz
  rw[fg]; rfl
 rw[e1,e2,e3] at *
 refine ⟨he, ?_⟩
 simp[valid] at hv
 refine ⟨hv.1,hv.2.1,hv.2.2.1,hv.2.2.2.1,hv.2.2.2.2.1,hv.2.2.2.2.2.1,hw⟩
theorem Vq {m m':HM}:∀ (n a a':Nat),(∀ q,q<n→m'.wds.getD (a'+q) 0=m.wds.getD (a+q) 0)→Q7 m' a' n=Q7 m a n
 | 0,a,a',h=>rfl
 | n+1,a,a',h=>by
   rw[Sz,Sz,Vq n (a+1) (a'+1) (fun q hq=>by have:=h (q+1) (by omega); rw[show a'+1+q=a'+(q+1) from by omega,show a+1+q=a+(q+1) from by omega]; exact this)]
   have:=h 0 (by omega)
   rw[Nat.add_zero,Nat.add_zero] at this
   rw[this]
theorem bA (m:HM):∀ (n a q:Nat),q<n→(Q7 m a n)[q]?=some (m.wds.getD (a+q) 0)
 | 0,a,q,h=>by omega
 | n+1,a,0,h=>by rw[Sz]; rfl
 | n+1,a,q+1,h=>by rw[Sz,List.getElem?_cons_succ,bA m n (a+1) q (by omega),show a+1+q=a+(q+1) from by omega]
def XM (m:HM):Nat→Nat→Bool
 | _,0=>false
 | a,n+1=>(Ra m a).isSome || XM m (a+1) n
theorem fG:∀ (n a:Nat),XM m a n=true ↔ ∃ q,a≤q∧q<a+n∧(Ra m q).isSome=true
 | 0,a=>by simp[XM]; intro q h1 h2; omega
 | n+1,a=>by
   rw[XM,Bool.or_eq_true,fG n (a+1)]
   constructor
   ·rintro (h | ⟨q,h1,h2,h3⟩)
    ·exact ⟨a,Nat.le_refl _,by omega,h⟩
    ·exact ⟨q,by omega,by omega,h3⟩
   ·rintro ⟨q,h1,h2,h3⟩
    rcases Nat.eq_or_lt_of_le h1 with rfl | h1
    ·exact .inl h3
    ·exact .inr ⟨q,h1,by omega,h3⟩
theorem nI (hI:Inv m) (hI2:Inv2 m) (hw:m.wds.length=64*m.bls.length) {b t:Nat} (hb:b<m.bls.length) (hst:(m.bls.getD b (0,0)).1=1) (ht:t<8):(∃ j ∈ Cj m (32*b) 32,ju m j t)↔XM m (64*b+8*t) 8=true:=by
 rw[fG]
 constructor
 ·rintro ⟨j,hj,l1,l2⟩
  obtain ⟨a1,a2,a3⟩:=Jv.1 hj
  have hs:Start m j:=⟨by omega,a3⟩
  have hz:=hI.size hs
  obtain ⟨z1,z2⟩:=eh hI hI2 hst hs a1 a2
  have e:2*j % 64=2*j-64*b:=by omega
  rw[e] at l1 l2
  refine ⟨max (2*j) (64*b+8*t),by omega,by omega, ?_⟩
  rw[hI.PH hs (by omega) (by omega)]; rfl
 ·rintro ⟨q,h1,h2,h3⟩
  obtain ⟨j,hj⟩:=Option.isSome_iff_exists.1 h3
  obtain ⟨s1,_,s3,s4⟩:=Tb hj
  have hq:q/64=b:=by omega
  have hb':=mT hI hI2 s1 s4 s3 (by rw[hq]; exact hst)
  have hz:=hI.size s1
  refine ⟨j,Jv.2 ⟨by omega,by omega,s1.2⟩, ?_, ?_⟩
  ·have e:2*j % 64=2*j-64*b:=by omega
   rw[e]; omega
  ·have e:2*j % 64=2*j-64*b:=by omega
   rw[e]; omega
end Go.Proofs.YtlaplcglpnlieaaGreat
end
section
namespace Go.Proofs.YtlaplcglpnlieaaGreat
open Go Go.AX
noncomputable local instance um:AK:=Au
local instance td:Kn:=⟨true⟩
variable {σ:Aa} {i:C8} {m:HM}
def Bj:List (Nat × Nat)→List Value
 | []=>[]
 | r::l=>.int .i64 (r.1:Int) :: .int .i64 (r.2:Int)::Bj l
theorem Mm:∀ l,(Bj l).length=l.length*2
 | []=>rfl
 | r::l=>by simp[Bj,Mm l,Nat.add_mul]
theorem KF:∀ l l',Bj (l++l')=Bj l++Bj l'
 | [],l'=>rfl
 | r::l,l'=>by simp[Bj,KF l l']
theorem W8:∀ (l:List (Nat × Nat)) (x:Nat),x<l.length→(Bj l)[x*2]?=some (.int .i64 ((l.getD x (0,0)).1:Int))∧(Bj l)[x*2+1]?=some (.int .i64 ((l.getD x (0,0)).2:Int))
 | [],x,h=>by simp at h
 | r::l,0,h=>by simp[Bj]
 | r::l,x+1,h=>by
   have ih:=W8 l x (by simpa using h)
   rw[show (x+1)*2=x*2+1+1 from by omega]
   simpa [Bj,List.getElem?_cons_succ] using ih
def Ja (a e:Nat):List (Nat × Nat):=if a<e then [(a,e-a)] else []
def EA (m:HM):List Nat→Nat→List (Nat × Nat) × Nat
 | [],a=>([],a)
 | j::L,a=>(Ja a (2*j)++(EA m L (2*j+sz m j)).1,(EA m L (2*j+sz m j)).2)
def aC (m:HM) (b:Nat):List (Nat × Nat):=(EA m (Cj m (32*b) 32) (64*b)).1++Ja (EA m (Cj m (32*b) 32) (64*b)).2 (64*b+64)
def cO (m:HM) (b:Nat):List (Nat × Nat):=if 1≤b∧(m.bls.getD b (0,0)).1=1 then aC m b else []
theorem ff:HX P Af=some 2:=by kernel_rfl
theorem dW:bytesOf P Af=some 16:=by kernel_rfl
theorem fq:FL P Af=some (.agg #[.int .i64 0,.int .i64 0]):=by kernel_rfl
structure WJ (lo h5 h3:Nat) (σ:Aa) (a:Nat) (o:EF) (R:List (Nat × Nat)):Prop where
 at_:σ[h5]?=some (.cells [.int .i64 (a:Int)] Bq true)
 out:σ[h3]?=some (.cells [.slice o.1 o.2.1 o.2.2] Ty true)
 sl:Cd Af 2 σ o R.length (Bj R)
 new:∀ a,o.1=some a→lo≤a.block
 l5:h5<lo
 l3:h3<lo
 ne:h5≠h3
 ll:lo≤σ.length
theorem WJ.Dd {lo h5 h3 a:Nat} {σ σ':Aa} {o:EF} {R:List (Nat × Nat)} (h:WJ lo h5 h3 σ a o R) (hs:∀ q,q<σ.length→σ'[q]?=σ[q]?) (hl:σ.length≤σ'.length):WJ lo h5 h3 σ' a o R:=
 ⟨(hs _ (Ae h.at_)).trans h.at_,(hs _ (Ae h.out)).trans h.out,h.sl.Dd fun a ha=>hs _ (h.sl.lt a ha),h.new,h.l5,h.l3,h.ne,Nat.le_trans h.ll hl⟩
theorem ni (k:Nat) {lo h5 h3 a x:Nat} {o:EF} {R:List (Nat × Nat)} (h:WJ lo h5 h3 σ a o R) (hR:R.length≤5000) (ha:a≤5000) (hx:x≤5000):
  ∃ σ' o',C7 (k+1) (x:Int) (some ⟨h5,0,none⟩) (some ⟨h3,0,none⟩) σ=some (.tuple #[],σ')∧WJ lo h5 h3 σ' a o' (R++Ja a x)∧(∀ q,q<lo→q≠h3→σ'[q]?=σ[q]?)∧σ.length≤σ'.length:=by
 have lA:Ai .i64 σ h5 0=some (a:Int):=by simp[Ai,Gs,h.at_,BF]
 have lO:Ee σ h3 0=some (o.1,o.2.1,o.2.2):=by simp[Ee,Gs,h.out,Hm]
 by_cases hc:a<x
 ·obtain ⟨o1,σ1,e1,g1,s1⟩:=ba ff dW fq rfl rfl (by decide) (by decide) (by decide) σ o R.length (Bj R) 1 1 (Bj [(a,x-a)]) Af (by omega) (by decide) rfl h.sl
  have e1':Bn P Af (o.1,o.2.1,o.2.2) (some ⟨σ.length,0,none⟩,1,1) (σ++[AP.cells [.int .i64 (a:Int),.int .i64 ((x-a:Nat):Int)] Af true])=some (o1,σ1):=e1
  have hnO:∀ q,q<lo → ∀ a',o.1=some a'→a'.block≠q:=fun q hq a' ha'=>by have:=h.new a' ha'; omega
  have k3:=(g1.same h3 (Ae h.out) (hnO h3 h.l3)).trans h.out
  have k5:=(g1.same h5 (Ae h.at_) (hnO h5 h.l5)).trans h.at_
  obtain ⟨σ2,hσ2⟩:∃ σ2,σ1.set h3 (.cells [.slice o1.1 o1.2.1 o1.2.2] Ty true)=σ2:=⟨_,rfl⟩
  have est:Gz σ1 h3 0 (.slice o1.1 o1.2.1 o1.2.2)=some σ2:=by
   rw[← hσ2]; simp[Gz,k3]
  have same2:∀ q,q≠h3→σ2[q]?=σ1[q]?:=fun q hq=>by rw[← hσ2,List.getElem?_set_ne (Ne.symm hq)]
  have hll:=h.ll
  have hn1:∀ a',o1.1=some a'→lo≤a'.block:=by
   intro a' ha'
   rcases g1.new with e | e
   ·rw[e] at ha'; exact h.new a' ha'
   ·have:=e a' ha'; omega
  refine ⟨σ2,o1, ?_,⟨(same2 _ h.ne).trans k5,by rw[← hσ2,List.getElem?_set_self (Ae k3)], ?_,hn1,h.l5,h.l3,h.ne, ?_⟩, ?_, ?_⟩
  ·rw[Jn,Ip]
   have q:decide ((x:Int)>(a:Int))=true:=decide_eq_true (by omega)
   have w:Ac ((x:Int)-(a:Int))=((x-a:Nat):Int):=by rw[Ad (by unfold AY; omega)]; omega
   simp only[Option.bind_some,lA,q,cond_true,lO,An,w,e1',est,if_true]
  ·unfold Ja
   rw[if_pos hc,KF,List.length_append]
   exact s1.Dd fun a' ha'=>same2 _ (fun e=>by have:=hn1 a' ha'; have:=h.l3; omega)
  ·rw[← hσ2]; have:=g1.len; simp; omega
  ·intro q hq hne
   rw[same2 q hne,g1.same q (by omega) (hnO q hq)]
  ·rw[← hσ2]; have:=g1.len; simp; omega
 ·refine ⟨σ,o, ?_, ?_,fun _ _ _=>rfl,Nat.le_refl _⟩
  ·rw[Jn,Ip]
   have q:decide ((x:Int)>(a:Int))=false:=decide_eq_false (by omega)
   simp only[Option.bind_some,lA,q,cond_false,if_true]
  ·unfold Ja
   rw[if_neg hc,List.append_nil]
   exact h
theorem ZH (k:Nat) (L:List Nat) (hL:∀ j ∈ L,Start m j) (hLl:L.length≤2048) (hwl:∀ j ∈ L,2*j+sz m j≤5000) {lo h5 h3 lo':Nat} (s:EF) (hs3:∀ a,s.1=some a→a.block<lo∧a.block≠h3∧a.block≠h5) (hi:∀ j ∈ i.l,j<lo∧j≠h3∧j≠h5):∀ (n x f:Nat) (σ:Aa) (a:Nat) (o:EF) (R:List (Nat × Nat)),Ag σ i m→WJ lo h5 h3 σ a o R→DX lo' σ s (E8 L)→R.length≤x→a≤5000→x+n=L.length→n<f →
  ∃ σ' o',CW (k+3) f (En i) h5 h3 s.1 s.2.1 s.2.2 (L.length:Int) (x:Int) σ=some (.exit 0,[],σ')∧Ag σ' i m∧WJ lo h5 h3 σ' (EA m (L.drop x) a).2 o' (R++(EA m (L.drop x) a).1)∧(∀ q,q<lo→q≠h3→q≠h5→σ'[q]?=σ[q]?)∧σ.length≤σ'.length∧(EA m (L.drop x) a).2≤5000∧(R++(EA m (L.drop x) a).1).length≤L.length
 | 0,x,0,σ,a,o,R,h,hg,hs,hr,ha,hx,hf=>by omega
 | 0,x,f+1,σ,a,o,R,h,hg,hs,hr,ha,hx,hf=>by
   rw[Jo,Iq,List.drop_eq_nil_of_le (by omega)]
   have q:decide ((x:Int)<(L.length:Int))=false:=decide_eq_false (by omega)
   exact ⟨σ,o,by simp only[q,cond_false],h,by simpa [EA] using hg,fun _ _ _ _=>rfl,Nat.le_refl _,ha,by simp[EA]; omega⟩
 | n+1,x,0,σ,a,o,R,h,hg,hs,hr,ha,hx,hf=>by omega
 | n+1,x,f+1,σ,a,o,R,h,hg,hs,hr,ha,hx,hf=>by
   have al:(E8 L).length=L.length:=by simp[E8]
   have hxl:x<L.length:=by omega
   have hst:=hL _ (List.getElem_mem hxl)
   have hle:=hwl _ (List.getElem_mem hxl)
   have hnt:=h.nt
   have hsj:=hst.1
   obtain ⟨b1,e1,hb1,c1,ldA⟩:=ints_at hs (x:=x) (by omega)
   subst e1
   rw[SI L hxl] at ldA
   obtain ⟨n1,n2,n3⟩:=hs3 _ rfl
   simp only at n1 n2 n3
   obtain ⟨σ1,o1,eG,g1,same1,len1⟩:=ni (k+2) hg (x:=2*L[x]) (by omega) ha (by omega)
   have eG':C7 (k+3) ((2*L[x]:Nat):Int) (some ⟨h5,0,none⟩) (some ⟨h3,0,none⟩) σ=_:=eG
   have h1:Ag σ1 i m:=h.Dd fun j hj=>same1 j (hi j hj).1 (hi j hj).2.1
   obtain ⟨τ2,e2⟩:=ZB k h1 hsj
   have g2:=g1.Dd (σ':=σ1++τ2) (fun q hq=>List.getElem?_append_left hq) (by simp)
   obtain ⟨σ3,hσ3⟩:∃ σ3,(σ1++τ2).set h5 (.cells [.int .i64 ((2*L[x]+sz m L[x]:Nat):Int)] Bq true)=σ3:=⟨_,rfl⟩
   have est:Gz (σ1++τ2) h5 0 (.int .i64 ((2*L[x]+sz m L[x]:Nat):Int))=some σ3:=by
    rw[← hσ3]; simp[Gz,g2.at_]
   have same3:∀ q,q≠h5→σ3[q]?=(σ1++τ2)[q]?:=fun q hq=>by rw[← hσ3,List.getElem?_set_ne (Ne.symm hq)]
   have hll:=g1.ll
   have l3:σ3.length=σ1.length+τ2.length:=by rw[← hσ3]; simp
   have g3:WJ lo h5 h3 σ3 (2*L[x]+sz m L[x]) o1 (R++Ja a (2*L[x])):=⟨by rw[← hσ3,List.getElem?_set_self (Ae g2.at_)],(same3 _ (Ne.symm g2.ne)).trans g2.out,
    g2.sl.Dd fun a ha=>same3 _ (fun e=>by have:=g2.new a ha; have:=g2.l5; omega),g2.new,g2.l5,g2.l3,g2.ne,by omega⟩
   have VW:∀ q,q<lo→q≠h3→q≠h5→σ3[q]?=σ[q]?:=fun q p1 p2 p3=>by
    rw[same3 q p3,List.getElem?_append_left (by omega),same1 q p1 p2]
   have h3':Ag σ3 i m:=h.Dd fun j hj=>VW j (hi j hj).1 (hi j hj).2.1 (hi j hj).2.2
   have s3:DX lo' σ3 (some ⟨b1,0,none⟩,(E8 L).length,(E8 L).length) (E8 L):=.inr ⟨b1,hb1,rfl,fun e=>by rw[e] at al; simp at al; omega,by rw[VW b1 n1 n2 n3]; exact c1⟩
   have hgl:(Ja a (2*L[x])).length≤1:=by unfold Ja; split <;> simp
   obtain ⟨σ4,o4,e4,h4,g4,same4,len4,m4,m5⟩:=ZH k L hL hLl hwl (some ⟨b1,0,none⟩,(E8 L).length,(E8 L).length) hs3 hi n (x+1) f σ3 (2*L[x]+sz m L[x]) o1 (R++Ja a (2*L[x])) h3' g3 s3 (by rw[List.length_append]; omega) hle (by omega) (by omega)
   have eT:EA m (L.drop x) a=(Ja a (2*L[x])++(EA m (L.drop (x+1)) (2*L[x]+sz m L[x])).1,(EA m (L.drop (x+1)) (2*L[x]+sz m L[x])).2):=by
    rw[List.drop_eq_getElem_cons hxl]; rfl
   rw[eT]
   rw[List.append_assoc] at g4 m5
   refine ⟨σ4,o4, ?_,h4,g4,fun q p1 p2 p3=>(same4 q p1 p2 p3).trans (VW q p1 p2 p3),by omega,m4,m5⟩
   rw[Jo,Iq]
   have q:decide ((x:Int)<(L.length:Int))=true:=decide_eq_true (by omega)
   have w1:Ac ((x:Int)+1)=((x+1:Nat):Int):=Ad (by unfold AY; omega)
   have w2:Ac (((2*L[x]:Nat):Int)+(sz m L[x]:Int))=((2*L[x]+sz m L[x]:Nat):Int):=by rw[Ad (by unfold AY; omega)]; omega
   simp only[q,cond_true]
   rw[if_pos (by omega)]
   simp only[Option.bind_some,Nat.zero_add,Int.toNat_natCast,Nat.mul_one,ldA,eG',Jx,e2,Ao,w2,est,w1]
   exact e4
theorem oI (k:Nat) (hk:5000≤k) (h:Ag σ i m) (hI:Inv m) {b:Nat} (hb:b<m.bls.length):
  ∃ τ s,EV (k+7) (En i) (b:Int) σ=some (.slice s.1 s.2.1 s.2.2,σ++τ)∧Cd Af 2 (σ++τ) s (cO m b).length (Bj (cO m b))∧(cO m b).length≤33 ∧ ∀ a,s.1=some a→σ.length≤a.block:=by
 have hu:BS (k+6) (En i) (b:Int) σ=_:=fm (k+3) h hb
 unfold cO
 by_cases hc:1≤b∧(m.bls.getD b (0,0)).1=1
 rotate_left
 ·rw[if_neg hc]
  refine ⟨[],(none,0,0), ?_,Cd.nil _ _ _,by simp,by intro a ha; cases ha⟩
  rw[Iu,I9]
  simp only[hu,Option.bind_some,As,decide_eq_false hc,Bool.not_false,cond_true,List.append_nil]
 rw[if_pos hc]
 have hnt:=h.nt
 have hwl:=h.wl
 obtain ⟨σ1,hσ1⟩:∃ σ1,σ++[AP.cells [.slice none 0 0] Ty true]=σ1:=⟨_,rfl⟩
 have l1:σ1.length=σ.length+1:=by rw[← hσ1]; simp
 obtain ⟨σ2,hσ2⟩:∃ σ2,σ1++[AP.cells [.int .i64 ((64*b:Nat):Int)] Bq true]=σ2:=⟨_,rfl⟩
 have est:Gz (σ1++[AP.cells [.int .i64 0] Bq true]) σ1.length 0 (.int .i64 ((64*b:Nat):Int))=some σ2:=by
  rw[← hσ2]; simp[Gz]
 have l2:σ2.length=σ.length+2:=by rw[← hσ2]; simp; omega
 have h2:Ag σ2 i m:=hσ2 ▸ (hσ1 ▸ h.app _:Ag σ1 i m).app _
 obtain ⟨τ3,s,e3,i3⟩:=Wf k hk h2 hb
 have hL:∀ j ∈ Cj m (32*b) 32,Start m j:=by
  intro j hj
  obtain ⟨a,b',c⟩:=Jv.1 hj
  exact ⟨by omega,c⟩
 have hLl:=Ow m (32*b) 32
 have hlt:=h.lt
 have g0:WJ (σ2++τ3).length σ1.length σ.length (σ2++τ3) (64*b) (none,0,0) []:=by
  refine { at_:=?_,out:=?_,sl:=Cd.nil _ _ _,new:=(by intro a ha; cases ha),l5:=(by simp; omega),l3:=(by simp; omega),ne:=(by omega),ll:=Nat.le_refl _ }
  ·rw[List.getElem?_append_left (by omega),← hσ2]; simp
  ·rw[List.getElem?_append_left (by omega),← hσ2,List.getElem?_append_left (by omega),← hσ1]; simp
 obtain ⟨σ4,o4,e4,h4,g4,same4,len4,m4,m5⟩:=ZH (k+3) _ hL (by omega) (fun j hj=>by have:=hI.fit j (hL j hj); omega) s (fun a ha=>by have:=i3.ge a ha; simp only[List.length_append] at *; omega) (fun j hj=>by have:=hlt j hj; simp; omega)
  (Cj m (32*b) 32).length 0 (k+6) (σ2++τ3) (64*b) (none,0,0) [] (h2.app τ3) g0 i3 (Nat.zero_le _) (by omega) (by omega) (by omega)
 rw[List.drop_zero,List.nil_append] at g4 m5
 rw[List.drop_zero] at m4
 obtain ⟨σ5,o5,e5,g5,same5,len5⟩:=ni (k+5) g4 (x:=64*b+64) (by omega) (by omega) (by omega)
 have hll:=g5.ll
 have hle:σ.length≤σ5.length:=by simp at hll; omega
 have eσ:σ5=σ++σ5.drop σ.length:=by
  apply List.ext_getElem?
  intro q
  by_cases hq:q<σ.length
  ·rw[List.getElem?_append_left hq,same5 q (by simp; omega) (by omega),same4 q (by simp; omega) (by omega) (by omega),List.getElem?_append_left (by omega),← hσ2,List.getElem?_append_left (by omega),← hσ1,List.getElem?_append_left hq]
  ·rw[List.getElem?_append_right (by omega),List.getElem?_drop,show σ.length+(q-σ.length)=q from by omega]
 refine ⟨σ5.drop σ.length,o5, ?_,by rw[← eσ]; exact g5.sl, ?_,fun a ha=>by have:=g5.new a ha; simp at this; omega⟩
 ·have hl:=i3.len
  rw[show (E8 (Cj m (32*b) 32)).length=(Cj m (32*b) 32).length from by simp[E8]] at hl
  rw[← eσ,Iu,I9]
  have w1:Ac ((b:Int)*64)=((64*b:Nat):Int):=by rw[Ad (by unfold AY; omega)]; omega
  have w2:Ac ((b:Int)+1)=((b+1:Nat):Int):=by rw[Ad (by unfold AY; omega)]; omega
  have w3:Ac (((b+1:Nat):Int)*64)=((64*b+64:Nat):Int):=by rw[Ad (by unfold AY; omega)]; omega
  have lO:Ee σ5 σ.length 0=some (o5.1,o5.2.1,o5.2.2):=by simp[Ee,Gs,g5.out,Hm]
  have e4':CW (k+6) (k+6) (En i) σ1.length σ.length s.1 (Cj m (32*b) 32).length s.2.2 (((Cj m (32*b) 32).length:Nat):Int) 0 (σ2++τ3)=some (.exit 0,[],σ4):=by rw[hl] at e4; exact e4
  simp only[hu,Option.bind_some,As,decide_eq_true hc,Bool.not_true,cond_false,An,hσ1,w1,est,e3,Hm,hl,e4',if_true,w2,w3,e5,Jx,lO]
 ·unfold aC
  rw[List.length_append]
  have:(Ja (EA m (Cj m (32*b) 32) (64*b)).2 (64*b+64)).length≤1:=by unfold Ja; split <;> simp
  omega
end Go.Proofs.YtlaplcglpnlieaaGreat
end
section
namespace Go.Proofs.YtlaplcglpnlieaaGreat
open Go Go.AX
variable {m:HM}
structure RO where
 addr:Int
 id:Int
 r:Int
 d:Int
 k:Int
 refs:List Int
 data:List Int
 pin:Bool
structure RM where
 bl:List (Int × Int)
 ob:List RO
 fw:List (Int × Int)
 born:Int
def RO.w (o:RO):Int:=words o.r o.d o.k
def D1 (m:HM) (j:Nat):RO:=⟨((2*j:Nat):Int),m.wds.getD (2*j) 0,BP m j,Eu m j,Hg m j,Q7 m (2*j+2) (BP m j).toNat,Q7 m (2*j+2+(BP m j).toNat) (Eu m j).toNat,decide (Gc 1 m.pnw j=1)⟩
def D2 (m:HM):List Nat:=Cj m 0 (32*m.bls.length)
def KE (m:HM):List RO:=(D2 m).map (D1 m)
structure RQ (m:HM) (t:RM):Prop where
 bl:t.bl=m.bls
 ob:t.ob=KE m
 born:t.born=m.births
 fw:∀ a,getM t.fw a=getM m.fw a
 fl:t.fw.length=m.fw.length
 o1:TJ t.fw
 o2:TJ m.fw
theorem WC:∀ {l l':List Nat},l.Pairwise (·<·)→l'.Pairwise (·<·)→(∀ a,a ∈ l↔a ∈ l')→l=l'
 | [],[],_,_,_=>rfl
 | [],b::l',_,_,h=>by have:=(h b).2 List.mem_cons_self; cases this
 | a::l,[],_,_,h=>by have:=(h a).1 List.mem_cons_self; cases this
 | a::l,b::l',h1,h2,h=>by
   have p1:=List.pairwise_cons.1 h1
   have p2:=List.pairwise_cons.1 h2
   have hab:a=b:=by
    rcases List.mem_cons.1 ((h a).1 List.mem_cons_self) with e | e
    ·exact e
    ·rcases List.mem_cons.1 ((h b).2 List.mem_cons_self) with e' | e'
     ·exact e'.symm
     ·have:=p1.1 b e'; have:=p2.1 a e; omega
   subst hab
   congr 1
   refine WC p1.2 p2.2 fun x=>⟨fun hx=>?_,fun hx=>?_⟩
   ·rcases List.mem_cons.1 ((h x).1 (List.mem_cons_of_mem _ hx)) with e | e
    ·subst e; have:=p1.1 x hx; omega
    ·exact e
   ·rcases List.mem_cons.1 ((h x).2 (List.mem_cons_of_mem _ hx)) with e | e
    ·subst e; have:=p2.1 x hx; omega
    ·exact e
theorem O6 (m:HM):(D2 m).Pairwise (·<·):=(List.pairwise_lt_range' (step:=1) (by decide)).filter _
theorem Ej {j:Nat}:j ∈ D2 m↔Start m j:=pg
theorem eK {m':HM} {l:List Nat} (hs:l.Pairwise (·<·)) (hm:∀ j,j ∈ l↔Start m' j):KE m'=l.map (D1 m'):=by
 unfold KE
 rw[WC (O6 m') hs (fun a=>by rw[Ej,hm])]
def QM:List RO→Int→Option Nat
 | [],_=>none
 | o::l,a=>if o.addr=a then some 0 else (QM l a).map (·+1)
theorem gL (f:Nat→RO) (hf:∀ j,(f j).addr=((2*j:Nat):Int)):∀ (L:List Nat) (a:Int),(∀ x,QM (L.map f) a=some x→x<L.length ∧ ∀ h:x<L.length,a=((2*L[x]:Nat):Int))∧(QM (L.map f) a=none → ∀ j ∈ L,a≠((2*j:Nat):Int))
 | [],a=>⟨fun x h=>(by cases h),fun _ j hj=>(by cases hj)⟩
 | j::L,a=>by
   obtain ⟨h1,h2⟩:=gL f hf L a
   simp only[List.map_cons,QM,hf]
   constructor
   ·intro x hx
    split at hx
    ·rename_i e
     cases hx
     exact ⟨by simp,fun _=>e.symm⟩
    ·cases hq:QM (L.map f) a with
     | none=>rw[hq] at hx; cases hx
     | some y=>
       rw[hq] at hx; cases hx
       obtain ⟨q1,q2⟩:=h1 y hq
       exact ⟨by simpa using q1,fun h=>by simpa using q2 q1⟩
   ·intro hx
    split at hx
    ·cases hx
    ·rename_i e
     cases hq:QM (L.map f) a with
     | none=>
       intro j' hj' e'
       rcases List.mem_cons.1 hj' with rfl | hj'
       ·exact e e'.symm
       ·exact h2 hq j' hj' e'
     | some y=>rw[hq] at hx; cases hx
theorem IP (m:HM) (j:Nat):(D1 m j).addr=((2*j:Nat):Int):=rfl
theorem RQ.idx {t:RM} (h:RQ m t) (a:Int):(∀ x,QM t.ob a=some x→x<t.ob.length ∧ ∃ j,Start m j∧a=((2*j:Nat):Int)∧Qr m a=true∧(D2 m)[x]?=some j∧t.ob[x]?=some (D1 m j))∧(QM t.ob a=none→Qr m a=false):=by
 obtain ⟨h1,h2⟩:=gL (D1 m) (IP m) (D2 m) a
 rw[h.ob]
 constructor
 ·intro x hx
  obtain ⟨q1,q2⟩:=h1 x hx
  have hs:Start m (D2 m)[x]:=Ej.1 (List.getElem_mem q1)
  refine ⟨by simpa [KE] using q1,(D2 m)[x],hs,q2 q1,by rw[q2 q1]; exact pa hs,List.getElem?_eq_getElem q1, ?_⟩
  unfold KE
  rw[List.getElem?_map,List.getElem?_eq_getElem q1]; rfl
 ·intro hx
  cases hq:Qr m a with
  | false=>rfl
  | true=>
    obtain ⟨j,e,hs⟩:=Sl hq
    exact absurd e (h2 hx j (Ej.2 hs))
theorem RQ.has {t:RM} (h:RQ m t) (a:Int):(QM t.ob a).isSome=Qr m a:=by
 obtain ⟨h1,h2⟩:=h.idx a
 cases hq:QM t.ob a with
 | none=>rw[h2 hq]; rfl
 | some x=>obtain ⟨_,j,_,_,e,_⟩:=h1 x hq; rw[e]; rfl
def TG:List RO→Int→Option RO
 | [],_=>none
 | o::l,a=>if o.addr≤a∧a<o.addr+o.w then some o else TG l a
theorem bp (hI:Inv m) {j:Nat} (hs:Start m j):(D1 m j).w=(sz m j:Int):=(iy hI hs).2.2.2.2.2.2.2
theorem dt (hI:Inv m) (a:Nat):∀ (L:List Nat),(∀ j ∈ L,Start m j)→(TG (L.map (D1 m)) (a:Int)=none → ∀ j ∈ L,¬ (2*j≤a∧a<2*j+sz m j))∧(∀ o,TG (L.map (D1 m)) (a:Int)=some o → ∃ j ∈ L,o=D1 m j∧2*j≤a∧a<2*j+sz m j)
 | [],_=>⟨fun _ j hj=>(by cases hj),fun o h=>(by cases h)⟩
 | j::L,hL=>by
   obtain ⟨h1,h2⟩:=dt hI a L fun j hj=>hL j (List.mem_cons_of_mem _ hj)
   simp only[List.map_cons,TG,IP,bp hI (hL j List.mem_cons_self)]
   constructor
   ·intro hx
    split at hx
    ·cases hx
    ·rename_i e
     intro j' hj'
     rcases List.mem_cons.1 hj' with rfl | hj'
     ·rintro ⟨q1,q2⟩; exact e ⟨by omega,by omega⟩
     ·exact h1 hx j' hj'
   ·intro o hx
    split at hx
    ·rename_i e
     cases hx
     exact ⟨j,List.mem_cons_self,rfl,by omega,by omega⟩
    ·obtain ⟨j',q1,q2⟩:=h2 o hx
     exact ⟨j',List.mem_cons_of_mem _ q1,q2⟩
theorem du:∀ (l:List RO) (a:Int),(∀ o ∈ l,0≤o.addr)→a<0→TG l a=none
 | [],_,_,_=>rfl
 | o::l,a,h,ha=>by
   have:=h o List.mem_cons_self
   rw[TG,if_neg (by omega),du l a (fun o ho=>h o (List.mem_cons_of_mem _ ho)) ha]
theorem RQ.find {t:RM} (h:RQ m t) (hI:Inv m) (a:Int):TG t.ob a=(Nq m a).map (D1 m):=by
 rw[h.ob]
 unfold Nq
 by_cases h0:a<0
 ·rw[if_neg (by omega),du _ _ (fun o ho=>by
   obtain ⟨j,_,rfl⟩:=List.mem_map.1 ho
   rw[IP]; omega) h0]; rfl
 obtain ⟨n,rfl⟩:∃ n:Nat,a=(n:Int):=⟨a.toNat,by omega⟩
 obtain ⟨h1,h2⟩:=dt hI n (D2 m) (fun j hj=>Ej.1 hj)
 have hr:KE m=(D2 m).map (D1 m):=rfl
 rw[hr]
 by_cases hn:(n:Int)<(m.wds.length:Int)
 ·rw[if_pos ⟨by omega,hn⟩,Int.toNat_natCast]
  cases hq:TG ((D2 m).map (D1 m)) (n:Int) with
  | none=>
    cases hf:Ra m n with
    | none=>rfl
    | some j=>
      obtain ⟨s1,_,s3,s4⟩:=Tb hf
      exact absurd ⟨s4,s3⟩ (h1 hq j (Ej.2 s1))
  | some o=>
    obtain ⟨j,hj,rfl,q1,q2⟩:=h2 o hq
    rw[hI.PH (Ej.1 hj) q1 q2]; rfl
 ·rw[if_neg (by omega)]
  cases hq:TG ((D2 m).map (D1 m)) (n:Int) with
  | none=>rfl
  | some o=>
    obtain ⟨j,hj,rfl,q1,q2⟩:=h2 o hq
    have:=hI.fit j (Ej.1 hj)
    omega
def qY:List RO→Int→Option Int
 | [],_=>none
 | o::l,n=>if o.id=n then some o.addr else qY l n
theorem kz (n:Int):∀ (L:List Nat),(qY (L.map (D1 m)) n=none → ∀ j ∈ L,m.wds.getD (2*j) 0≠n)∧(∀ a,qY (L.map (D1 m)) n=some a → ∃ j ∈ L,a=((2*j:Nat):Int)∧m.wds.getD (2*j) 0=n)
 | []=>⟨fun _ j hj=>(by cases hj),fun a h=>(by cases h)⟩
 | j::L=>by
   obtain ⟨h1,h2⟩:=kz n L
   simp only[List.map_cons,qY,IP]
   have e0:(D1 m j).id=m.wds.getD (2*j) 0:=rfl
   rw[e0]
   constructor
   ·intro hx
    split at hx
    ·cases hx
    ·rename_i e
     intro j' hj'
     rcases List.mem_cons.1 hj' with rfl | hj'
     ·exact e
     ·exact h1 hx j' hj'
   ·intro a hx
    split at hx
    ·rename_i e
     cases hx
     exact ⟨j,List.mem_cons_self,rfl,e⟩
    ·obtain ⟨j',q1,q2⟩:=h2 a hx
     exact ⟨j',List.mem_cons_of_mem _ q1,q2⟩
theorem RQ.at {t:RM} (h:RQ m t) (hI:Inv m) (n:Int):qY t.ob n=getM m.pl n:=by
 rw[h.ob]
 obtain ⟨h1,h2⟩:=kz (m:=m) n (D2 m)
 have hr:KE m=(D2 m).map (D1 m):=rfl
 rw[hr]
 cases hq:qY ((D2 m).map (D1 m)) n with
 | none=>
   cases hg:getM m.pl n with
   | none=>rfl
   | some a=>
     obtain ⟨j,rfl,s1,s2⟩:=hI.plc _ _ hg
     exact absurd s2 (h1 hq j (Ej.2 s1))
 | some a=>
   obtain ⟨j,hj,rfl,e⟩:=h2 a hq
   have:=(hI.idn j (Ej.1 hj)).2.2
   rw[e] at this
   exact this.symm
def bf (l:List RO) (a w but:Int):Bool:=l.any fun o=>decide (o.id≠but∧o.addr<a+w∧a<o.addr+o.w)
end Go.Proofs.YtlaplcglpnlieaaGreat
end
