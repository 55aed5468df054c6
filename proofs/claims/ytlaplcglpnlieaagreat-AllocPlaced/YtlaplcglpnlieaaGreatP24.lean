/- Blocks of large objects hang together; what is claimed is free of objects, and can be placed in.; What a call of Alloc comes to: nothing, or one objec -/
import Derived.Test.YtlaplcglpnlieaaGreatP23
set_option linter.unusedVariables false
set_option linter.unusedSimpArgs false
set_option linter.unusedSectionVars false
section
namespace Go.Proofs.YtlaplcglpnlieaaGreat
open Go Go.AX
noncomputable local instance w8:AK:=As
local instance vf:Kn:=⟨true⟩
variable {σ:Aa} {m:HM} {i:C9} {ab:Nat} {a:AS}
theorem ku {b c:Int} {x y x' y':Int} (h:(Bs m b c x y x' y').1=0):1≤b∧1≤c:=by
 unfold Bs at h
 split at h
 ·rename_i q; exact ⟨q.1,q.2.2.1⟩
 ·cases h
theorem Ty {b c:Nat} {x y x' y':Int} (h:(Bs m (b:Int) (c:Int) x y x' y').1=0):1≤b∧1≤c∧b+c≤m.bls.length∧UD y=true∧(∀ k,b≤k→k<b+c→m.bls.getD k (0,0)=(0,0)) ∧ ∃ l,(Bs m (b:Int) (c:Int) x y x' y').2={ m with bls:=l }∧l.length=m.bls.length ∧ ∀ k,l.getD k (0,0)=if k=b then (x,y) else if b≤k∧k<b+c then (x',y') else m.bls.getD k (0,0):=by
 unfold Bs at h ⊢
 split at h
 ·rename_i q
  rw[if_pos q]
  split at h
  ·rename_i u
   rw[if_pos u]
   simp only[Int.toNat_natCast] at u ⊢
   refine ⟨by omega,by omega,by omega,q.2.2.2.2,fun k h1 h2=>?_,_,rfl,by rw[List.length_set,Fu],fun k=>?_⟩
   ·have:=Xu u (k-b) (by omega) (by omega)
    rwa [show b+(k-b)=k from by omega] at this
   ·rw[Ps,XC b _ c 0 _ k (by omega),Fu,Nat.add_zero]
    by_cases hk:k=b
    ·rw[if_pos ⟨hk,by omega⟩,if_pos hk]
    ·rw[if_neg (fun hh=>hk hh.1),if_neg hk]
  ·cases h
 ·cases h
def Uf (m:HM):Prop:=∀ c,(m.bls.getD c (0,0)).1=3→1≤c∧((m.bls.getD (c-1) (0,0)).1=2∨(m.bls.getD (c-1) (0,0)).1=3)
theorem Uf.CX {m':HM} (h:Uf m) (e:m'.bls=m.bls):Uf m':=by unfold Uf at *; rw[e]; exact h
theorem Uf.new (n:Nat):Uf (Np n):=by
 intro c hc
 exfalso
 have:(Np n).bls.getD c (0,0)=(0,0):=by
  show (List.replicate n ((0:Int),(0:Int))).getD c (0,0)=(0,0)
  rw[List.getD_eq_getElem?_getD,List.getElem?_replicate]
  split <;> rfl
 rw[this] at hc
 cases hc
theorem Uf.Z3 (h:Uf m) (b c x y x' y':Int) (hx:x≠3) (hx':c=1∨(x=2∧x'=3)):Uf (Bs m b c x y x' y').2:=by
 by_cases q:(Bs m b c x y x' y').1=0
 rotate_left
 ·rw[bz q]; exact h
 obtain ⟨p1,p2⟩:=ku q
 obtain ⟨b,rfl⟩:∃ n:Nat,b=(n:Int):=⟨b.toNat,by omega⟩
 obtain ⟨c,rfl⟩:∃ n:Nat,c=(n:Int):=⟨c.toNat,by omega⟩
 obtain ⟨q1,q2,q3,_,q4,l,e,_,hl⟩:=Ty q
 rw[e]
 intro k hk
 have hk':(l.getD k (0,0)).1=3:=hk
 show 1≤k∧((l.getD (k-1) (0,0)).1=2∨(l.getD (k-1) (0,0)).1=3)
 rw[hl] at hk'
 rw[hl]
 by_cases k1:k=b
 ·rw[if_pos k1] at hk'; exact absurd hk' hx
 rw[if_neg k1] at hk'
 by_cases k2:b≤k∧k<b+c
 ·rw[if_pos k2] at hk'
  obtain ⟨rfl,rfl⟩:=hx'.resolve_left (by omega)
  refine ⟨by omega, ?_⟩
  by_cases k3:k-1=b
  ·rw[if_pos k3]; exact .inl rfl
  ·rw[if_neg k3,if_pos (by omega)]; exact .inr rfl
 ·rw[if_neg k2] at hk'
  obtain ⟨h1,h2⟩:=h k hk'
  refine ⟨h1, ?_⟩
  by_cases k3:b≤k-1∧k-1<b+c
  ·rw[q4 _ k3.1 k3.2] at h2
   rcases h2 with h2 | h2 <;> cases h2
  ·rw[if_neg (by omega),if_neg k3]; exact h2
theorem cX {b:Nat} (h2:(m.bls.getD b (0,0)).1=2):∀ (f n:Nat),m.bls.length≤b+n+f→b+EO m b f n<m.bls.length→(m.bls.getD (b+EO m b f n) (0,0)).1≠3
 | 0,n,hf,hb=>by rw[EO] at hb; omega
 | f+1,n,hf,hb=>by
   rw[EO] at hb ⊢
   split
   ·rename_i q
    rw[if_pos q] at hb
    exact cX h2 f (n+1) (by omega) hb
   ·rename_i q
    rw[if_neg q] at hb
    exact fun h3=>q ⟨h2,hb,h3⟩
theorem oT (l:List (Int × Int)) {c:Nat} (h:l.length≤c):l.getD c (0,0)=(0,0):=by
 rw[List.getD_eq_getElem?_getD,List.getElem?_eq_none h]; rfl
theorem Uf.release (h:Uf m) (b:Int):Uf (GM m b).2:=by
 unfold GM
 split
 ·rename_i q
  split
  ·have hb:1≤b∧b<(m.bls.length:Int)∧((m.bls.getD b.toNat (0,0)).1=1∨(m.bls.getD b.toNat (0,0)).1=2):=by
    unfold Ok at q
    split at q
    ·cases q
    ·split at q
     ·cases q
     ·omega
   obtain ⟨b,rfl⟩:∃ n:Nat,b=(n:Int):=⟨b.toNat,by omega⟩
   rw[Int.toNat_natCast] at hb ⊢
   have hge:=jH m b m.bls.length 1
   intro k hk
   have hk':((Yi m.bls b (Eg m b)).getD k (0,0)).1=3:=hk
   show 1≤k∧(((Yi m.bls b (Eg m b)).getD (k-1) (0,0)).1=2∨((Yi m.bls b (Eg m b)).getD (k-1) (0,0)).1=3)
   rw[OE] at hk'
   rw[OE]
   by_cases k1:b≤k∧k<b+Eg m b
   ·rw[if_pos k1] at hk'; cases hk'
   rw[if_neg k1] at hk'
   obtain ⟨h1,h2⟩:=h k hk'
   refine ⟨h1, ?_⟩
   by_cases k2:b≤k-1∧k-1<b+Eg m b
   ·exfalso
    have hkb:k=b+Eg m b:=by omega
    have hkl:k<m.bls.length:=by
     by_cases hh:k<m.bls.length
     ·exact hh
     ·rw[oT _ (by omega)] at hk'; cases hk'
    rcases hb.2.2 with s1 | s2
    ·
     have hs1:Eg m b=1:=by
      unfold Eg
      cases hl:m.bls.length with
      | zero=>rfl
      | succ n=>rw[EO,if_neg (fun hh=>by omega)]
     rw[hs1] at hkb
     rw[hkb,Nat.add_sub_cancel] at h2
     omega
    ·exact cX s2 m.bls.length 1 (by omega) (by rw[← show k=b+EO m b m.bls.length 1 from hkb]; exact hkl) (by rw[← show k=b+EO m b m.bls.length 1 from hkb]; exact hk')
   ·rw[if_neg k2]; exact h2
  ·exact h
 ·exact h
theorem Uf.tu (h:Uf m) (b y:Int):Uf (LK m b y).2:=by
 unfold LK
 split
 ·intro k hk
  have hk':((Wr m.bls b.toNat y (Eg m b.toNat)).getD k (0,0)).1=3:=hk
  show 1≤k∧(((Wr m.bls b.toNat y (Eg m b.toNat)).getD (k-1) (0,0)).1=2∨((Wr m.bls b.toNat y (Eg m b.toNat)).getD (k-1) (0,0)).1=3)
  rw[Wa] at hk' ⊢
  exact h k hk'
 ·exact h
theorem Uf.place (h:Uf m) (x r d c:Int):Uf (Bv m x r d c).2.2:=h.CX (c8 _ x r d c)
theorem Uf.one (h:Uf m) (b:Nat) (s:Int):Uf (Dh m b s):=h.Z3 _ _ _ _ _ _ (by decide) (.inl rfl)
theorem lZ (h:Uf m) (s:Int):Uf (S7 m s):=by
 unfold S7; split
 ·exact h.one _ _
 ·exact h
theorem VY (h:Uf m) (l:List (Nat × Nat)):Uf (BQ m a l).2.1:=by
 unfold BQ; split
 ·exact h
 ·split
  ·exact h.one _ _
  ·exact h
theorem iq (h:Uf m) (v:Bool) (w:Int):Uf (Dg m a v w).2.1:=by
 unfold Dg; split
 ·exact h
 ·split
  ·exact h.one _ _
  ·exact h
theorem sy (h:Uf m) (w:Int):Uf (UI m a w).2.1:=by
 unfold UI; split
 ·unfold KX; split
  ·exact h.Z3 _ _ _ _ _ _ (by decide) (.inr ⟨rfl,rfl⟩)
  ·exact h
 split
 ·exact VY h _
 split
 ·exact VY h _
 split
 ·unfold SP; split
  ·exact VY h _
  ·exact VY h _
 split
 ·exact iq h _ _
 ·unfold GJ; split
  ·exact h
  ·split
   ·exact iq h _ _
   ·split
    ·unfold L5; split
     ·exact h
     ·exact lZ h _
    ·unfold L5; split
     ·exact h
     ·exact lZ h _
theorem mO (h:Uf m) {r d c:Int} {pr:PR} (hp:Uf pr.2.1):Uf (Bu m a r d c pr).2.1:=by
 unfold Bu; split
 ·split
  ·split
   ·split
    ·exact hp.place _ _ _ _
    ·exact hp.place _ _ _ _
   ·exact hp
  ·exact hp
 ·exact h
theorem sd (h:Uf m) (x:Yv):Uf (jW m a x).1:=by
 unfold jW
 split
 ·exact mO h (sy h _)
 split
 ·refine h.CX ?_
  dsimp only
  unfold Pv; split <;> rfl
 split
 ·exact h
 split
 ·exact h.Z3 _ _ _ _ _ _ (by decide) (.inl rfl)
 split
 ·exact h.release _
 split
 ·exact h.place _ _ _ _
 split
 ·exact h.tu _ _
 ·exact h
theorem iJ {x w:Nat} (h:∀ o,Start m o→2*o+sz m o≤x∨x+w≤2*o):Mf m (x+w) (-1) 200 x=true:=by
 cases hf:Mf m (x+w) (-1) 200 x with
 | true=>rfl
 | false=>
   exfalso
   obtain ⟨y,o,h1,h2,h3,h4⟩:=T6 hf
   unfold Nf at h3
   split at h3
   ·rw[Int.toNat_natCast] at h3
    obtain ⟨s1,_,s3,s4⟩:=QL h3
    have:=h o s1
    omega
   ·cases h3
theorem kJ (hS:Sh m) {b x w:Nat} (hb:b<m.bls.length) (hs:(m.bls.getD b (0,0)).1=1) (hw:2≤w∧w≤32) (hx:x % 2=0) (h1:64*b≤x) (h2:x+w≤64*b+64) (h:∀ o,Start m o→2*o+sz m o≤x∨x+w≤2*o):Jt m (x:Int) w (-1)=0:=by
 have hwl:=hS.wl
 have d1:x/64=b:=by omega
 have d2:(x+w-1)/64=b:=by omega
 unfold Jt
 rw[Int.toNat_natCast,if_neg (by omega)]
 simp only[d1,d2]
 rw[if_pos hw.2,if_neg (by omega),if_pos (iJ h)]
theorem eh (hI:Inv m) (hI2:Inv2 m) {b:Nat} (hs:(m.bls.getD b (0,0)).1=0) {o:Nat} (ho:Start m o):2*o+sz m o≤64*b∨64*b+64≤2*o:=by
 obtain ⟨k1,k2⟩:=hI2.kind o ho
 have hz:=hI.size ho
 by_cases hw:sz m o≤32
 ·obtain ⟨q1,q2⟩:=k1 hw
  by_cases e:2*o/64=b
  ·rw[e,hs] at q1; cases q1
  ·omega
 ·obtain ⟨q1,q2,q3⟩:=k2 (by omega)
  by_cases e:2*o/64=b
  ·rw[e,hs] at q1; cases q1
  ·by_cases l1:b<2*o/64
   ·omega
   ·by_cases l2:b≤(2*o+sz m o-1)/64
    ·have:=q3 b (by omega) l2
     rw[hs] at this; cases this
    ·omega
theorem bO (M:Sr m) {b w:Nat} {s:Int} (hf:Kt m=some b) (hs:0≤s∧s<8) (hw:2≤w∧w≤32):Jt (Dh m b s) (64*(b:Int)) w (-1)=0∧NX (Dh m b s) (b:Int)=s∧(∀ k,(Dh m b s).bls.getD k (0,0)=if k=b then (1,s) else m.bls.getD k (0,0)) ∧ ∃ l,Dh m b s={ m with bls:=l }∧l.length=m.bls.length:=by
 obtain ⟨f1,f2,f3,f4⟩:=Hp hf
 have hnb:=M.nb
 have h0:(Bs m (b:Int) ((1:Nat):Int) 1 s 0 0).1=0:=by
  rw[show ((1:Nat):Int)=1 from rfl,dT m (by omega) (by omega) hs,if_pos ⟨f3,f4⟩]
 obtain ⟨q1,q2,q3,_,q4,l,e,el,hl⟩:=Ty h0
 have e':Dh m b s={ m with bls:=l }:=e
 have hget:∀ k,(Dh m b s).bls.getD k (0,0)=if k=b then (1,s) else m.bls.getD k (0,0):=by
  intro k
  rw[e']
  show l.getD k (0,0)=_
  rw[hl]
  by_cases hk:k=b
  ·rw[if_pos hk,if_pos hk]
  ·rw[if_neg hk,if_neg hk,if_neg (by omega)]
 have M1:=SA M b s
 have hbl:(Dh m b s).bls.length=m.bls.length:=by rw[e']; exact el
 refine ⟨?_, ?_,hget,l,e',el⟩
 ·rw[show (64*(b:Int))=((64*b:Nat):Int) from by omega]
  refine kJ M1.sh (b:=b) (by rw[hbl]; omega) (by rw[hget,if_pos rfl]) hw (by omega) (Nat.le_refl _) (by omega) fun o ho=>?_
  have ho':Start m o:=by
   unfold Start at ho ⊢
   rw[hbl] at ho
   rw[e'] at ho
   exact ho
  have hsz:sz (Dh m b s) o=sz m o:=by unfold sz; rw[e']
  rw[hsz]
  have:=eh M.inv M.inv2 f3 ho'
  omega
 ·unfold NX
  rw[if_pos (by rw[hbl]; omega),Int.toNat_natCast,hget,if_pos rfl]
theorem jG {b n:Nat} (h2:(m.bls.getD b (0,0)).1=2) (h3:∀ c,1≤c→c<n→(m.bls.getD (b+c) (0,0)).1=3) (hn:(m.bls.getD (b+n) (0,0)).1≠3) (hl:b+n≤m.bls.length):∀ (f x:Nat),1≤x→x≤n→n≤x+f→EO m b f x=n
 | 0,x,h1,hx,hf=>by rw[EO]; omega
 | f+1,x,h1,hx,hf=>by
   rw[EO]
   by_cases e:x=n
   ·subst e
    rw[if_neg (fun hh=>hn hh.2.2)]
   ·rw[if_pos ⟨h2,by omega,h3 x h1 (by omega)⟩]
    exact jG h2 h3 hn hl f (x+1) (by omega) (by omega) (by omega)
theorem kI (M:Sr m) (C:Uf m) {b w c:Nat} {s:Int} (hc:c=(w+63)/64) (hw:32<w∧w≤218) (h0:(Bs m (b:Int) (c:Int) 2 s 3 s).1=0):Jt (Bs m (b:Int) (c:Int) 2 s 3 s).2 (64*(b:Int)) w (-1)=0∧NX (Bs m (b:Int) (c:Int) 2 s 3 s).2 (b:Int)=s:=by
 obtain ⟨q1,q2,q3,_,q4,l,e,el,hl⟩:=Ty h0
 have M1:=M.Z3 (b:Int) (c:Int) 2 s 3 s (by decide) (.inl (by decide))
 have hwl:=M1.sh.wl
 rw[e] at M1 hwl ⊢
 have hwl':m.wds.length=64*l.length:=hwl
 have hb:l.getD b (0,0)=(2,s):=by rw[hl,if_pos rfl]
 refine ⟨?_, ?_⟩
 ·have hsp:Eg { m with bls:=l } b=c:=by
   unfold Eg
   refine jG (m:={ m with bls:=l }) (by show (l.getD b (0,0)).1=2; rw[hb]) (fun k k1 k2=>?_) ?_ (by show b+c≤l.length; omega) _ _ (Nat.le_refl _) q2 (by show c≤1+l.length; omega)
   ·show (l.getD (b+k) (0,0)).1=3
    rw[hl,if_neg (by omega),if_pos (by omega)]
   ·show (l.getD (b+c) (0,0)).1≠3
    rw[hl,if_neg (by omega),if_neg (by omega)]
    intro h3
    obtain ⟨_,h4⟩:=C _ h3
    rw[q4 (b+c-1) (by omega) (by omega)] at h4
    rcases h4 with h4 | h4 <;> cases h4
  have t1:((64*(b:Int))).toNat=64*b:=by omega
  have d1:64*b/64=b:=by omega
  unfold Jt
  rw[t1,if_neg (show ¬ ¬ (0≤64*(b:Int)∧64*(b:Int)<((m.wds.length:Nat):Int)∧64*b % 2=0) by omega)]
  simp only[d1]
  rw[if_neg (by omega),hsp,if_neg (show ¬ ((l.getD b (0,0)).1≠2∨64*b % 64≠0∨c≠(w+63)/64) by rw[hb]; omega),if_pos]
  refine iJ fun o ho=>?_
  have ho':Start m o:=by
   unfold Start at ho ⊢
   rw[← el]; exact ho
  have hsz:sz { m with bls:=l } o=sz m o:=rfl
  rw[hsz]
  have hall:∀ k,k<c→2*o+sz m o≤64*(b+k)∨64*(b+k)+64≤2*o:=fun k hk=>eh M.inv M.inv2 (by rw[q4 (b+k) (by omega) (by omega)]) ho'
  have hz:=M.inv.size ho'
  by_cases hlo:2*o+sz m o≤64*b
  ·exact .inl hlo
  ·right
   have step:∀ k,k<c→64*(b+k)+64≤2*o:=by
    intro k
    induction k with
    | zero=>intro hk; have:=hall 0 hk; omega
    | succ k ih=>intro hk; have h1:=ih (by omega); have h2:=hall (k+1) hk; omega
   have:=step (c-1) (by omega)
   omega
 ·unfold NX
  rw[if_pos (by show 0≤(b:Int)∧(b:Int)<(l.length:Int); omega),Int.toNat_natCast]
  show (l.getD b (0,0)).2=s
  rw[hb]
theorem px {c:Nat} {s:Int}:∀ {n x b:Nat},dB m c s n x=some b→(Bs m (b:Int) (c:Int) 2 s 3 s).1=0
 | 0,x,b,h=>by cases h
 | n+1,x,b,h=>by
   unfold dB at h
   split at h
   ·split at h
    ·rename_i q; cases h; exact q
    ·exact px h
   ·cases h
end Go.Proofs.YtlaplcglpnlieaaGreat
end
section
namespace Go.Proofs.YtlaplcglpnlieaaGreat
open Go Go.AX
noncomputable local instance w9:AK:=As
local instance vg:Kn:=⟨true⟩
variable {σ:Aa} {m:HM} {i:C9} {ab:Nat} {a:AS}
def oq (m m1:HM) (s w:Int):Prop:=∃ (b c:Nat) (l:List (Int × Int)),m1={ m with bls:=l }∧l.length=m.bls.length∧b+c≤m.bls.length∧(∀ k,b≤k→k<b+c→m.bls.getD k (0,0)=(0,0))∧(∀ k,(b≤k∧k<b+c→(l.getD k (0,0)).1≠0∧(l.getD k (0,0)).2=s)∧(¬ (b≤k∧k<b+c)→l.getD k (0,0)=m.bls.getD k (0,0)))∧(w≤32→c≤1)∧(32<w→c=(w.toNat+63)/64)
theorem oq.refl (m:HM) (s:Int) {w:Int} (hw:w≤32):oq m m s w:=⟨0,0,m.bls,rfl,rfl,by omega,fun k h1 h2=>by omega,fun k=>⟨fun h=>by omega,fun _=>rfl⟩,fun _=>by omega,fun h=>by omega⟩
theorem oq.fresh (M:Sr m) {b:Nat} {s w:Int} (hf:Kt m=some b) (hs:0≤s∧s<8) (hw:w≤32):oq m (Dh m b s) s w:=by
 obtain ⟨_,_,hg,l,e,el⟩:=bO M (w:=2) hf hs (by omega)
 obtain ⟨f1,f2,f3,f4⟩:=Hp hf
 refine ⟨b,1,l,e,el,by have:=M.nb; omega,fun k h1 h2=>?_,fun k=>?_,fun _=>by omega,fun h=>by omega⟩
 ·rw[show k=b from by omega]
  exact Prod.ext f3 f4
 ·have hk:=hg k
  rw[e] at hk
  have hk':l.getD k (0,0)=if k=b then (1,s) else m.bls.getD k (0,0):=hk
  rw[hk']
  refine ⟨fun h=>?_,fun h=>?_⟩
  ·rw[if_pos (by omega)]; exact ⟨by dsimp only; decide,rfl⟩
  ·rw[if_neg (by omega)]
theorem oq.tf {b c:Nat} {s w:Int} (hc:c=(w.toNat+63)/64) (hw:32<w) (h0:(Bs m (b:Int) (c:Int) 2 s 3 s).1=0):oq m (Bs m (b:Int) (c:Int) 2 s 3 s).2 s w:=by
 obtain ⟨q1,q2,q3,_,q4,l,e,el,hl⟩:=Ty h0
 refine ⟨b,c,l,e,el,q3,q4,fun k=>⟨fun h=>?_,fun h=>?_⟩,fun h=>by omega,fun _=>hc⟩
 ·rw[hl]
  by_cases hk:k=b
  ·rw[if_pos hk]; exact ⟨by dsimp only; decide,rfl⟩
  ·rw[if_neg hk,if_pos h]; exact ⟨by dsimp only; decide,rfl⟩
 ·rw[hl,if_neg (by omega),if_neg h]
theorem Ub (m:HM) (a:AS) (l:List (Nat × Nat)):(BQ m a l).2.1=m ∨ ∃ b,Kt m=some b∧(BQ m a l).2.1=Dh m b a.s∧(BQ m a l).1=(64*(b:Int),true):=by
 unfold BQ
 split
 ·exact .inl rfl
 ·split
  ·rename_i b hb; exact .inr ⟨b,hb,rfl,rfl⟩
  ·exact .inl rfl
theorem Z1 (m:HM) (a:AS) (v:Bool) (w:Int):(Dg m a v w).2.1=m ∨ ∃ b,Kt m=some b∧(Dg m a v w).2.1=Dh m b a.s∧(Dg m a v w).1=(64*(b:Int),true):=by
 unfold Dg
 split
 ·exact .inl rfl
 ·split
  ·rename_i b hb; exact .inr ⟨b,hb,rfl,rfl⟩
  ·exact .inl rfl
theorem gy (m:HM) (a:AS) (w:Int):(GJ m a w).2.1=m ∨ ∃ b,Kt m=some b∧(GJ m a w).2.1=Dh m b a.s∧(GJ m a w).1=(64*(b:Int),true):=by
 unfold GJ
 split
 ·exact .inl rfl
 split
 ·exact Z1 m a true w
 unfold L5 Mj
 cases hh:NL m a.l (Br m a.s m.bls.length) with
 | some g=>left; dsimp only; split <;> rfl
 | none=>
   unfold X8 S7
   cases hb:Kt m with
   | some b=>right; exact ⟨b,rfl,rfl,rfl⟩
   | none=>left; rfl
theorem iY (m:HM) (a:AS) (w:Nat):(SP m a w).2.1=m ∨ ∃ b,Kt m=some b∧(SP m a w).2.1=Dh m b a.s∧(SP m a w).1=(64*(b:Int),true):=by
 have h:=Ub m a (Cr m a.s a.c.toNat w++Cr m a.s 0 w)
 unfold SP
 split
 ·exact h
 ·exact h
theorem nL (m:HM) (a:AS) (w:Int):(w≤32∧(UI m a w).2.1=m)∨(w≤32 ∧ ∃ b,Kt m=some b∧(UI m a w).2.1=Dh m b a.s∧(UI m a w).1=(64*(b:Int),true)) ∨
  (32<w ∧ ∃ b,dB m ((w.toNat+63)/64) a.s m.bls.length 1=some b∧(UI m a w).2.1=(Bs m (b:Int) (((w.toNat+63)/64:Nat):Int) 2 a.s 3 a.s).2∧(UI m a w).1=(64*(b:Int),true)∧(UI m a w).2.2=a)∨(32<w∧dB m ((w.toNat+63)/64) a.s m.bls.length 1=none∧UI m a w=((0,false),m,a)):=by
 unfold UI
 by_cases h:w>32
 ·rw[if_pos h]
  unfold KX
  right; right
  cases hl:dB m ((w.toNat+63)/64) a.s m.bls.length 1 with
  | some b=>exact .inl ⟨h,b,rfl,rfl,rfl,rfl⟩
  | none=>exact .inr ⟨h,rfl,rfl⟩
 rw[if_neg h]
 have key:∀ {x:PR},(x.2.1=m ∨ ∃ b,Kt m=some b∧x.2.1=Dh m b a.s∧x.1=(64*(b:Int),true))→(w≤32∧x.2.1=m)∨(w≤32 ∧ ∃ b,Kt m=some b∧x.2.1=Dh m b a.s∧x.1=(64*(b:Int),true)) ∨
   (32<w ∧ ∃ b,dB m ((w.toNat+63)/64) a.s m.bls.length 1=some b∧x.2.1=(Bs m (b:Int) (((w.toNat+63)/64:Nat):Int) 2 a.s 3 a.s).2∧x.1=(64*(b:Int),true)∧x.2.2=a)∨(32<w∧dB m ((w.toNat+63)/64) a.s m.bls.length 1=none∧x=((0,false),m,a)):=fun hx=>by
  rcases hx with hx | hx
  ·exact .inl ⟨by omega,hx⟩
  ·exact .inr (.inl ⟨by omega,hx⟩)
 split
 ·exact key (Ub m a _)
 split
 ·exact key (Ub m a _)
 split
 ·exact key (iY m a _)
 split
 ·exact key (Z1 m a _ _)
 ·exact key (gy m a _)
theorem fT {r d c:Int} (hv:valid r d c=true):words r d c=(Rf (num r d c):Int):=by
 obtain ⟨p1,p2,p3,_⟩:=Ll hv
 rw[aH,p1,p2,p3]
structure lQ (m:HM) (a:AS) (r d c:Int) (st:(Int × Int) × HM × AS) (m1:HM) (j:Nat):Prop where
 ok:st.1.2=0
 v:valid r d c=true
 cl:oq m m1 a.s (words r d c)
 M1:Sr m1
 ad:st.1.1=((2*j:Nat):Int)
 fits:Jt m1 ((2*j:Nat):Int) (Rf (num r d c)) (-1)=0
 jl:j<32*m1.bls.length
 ap:∀ o,Start m1 o→2*o+sz m1 o≤2*j∨2*j+Rf (num r d c)≤2*o
 sp:NX m1 (((2*j:Nat):Int).tdiv 64)=a.s
 res:st.2.1=CY m1 j (num r d c)
theorem qz (M:Sr m) (C:Uf m) (ho:a.ok) (r d c:Int):((Uh m a r d c).1.2≠0∧(Uh m a r d c).1.1=0∧(Uh m a r d c).2=(m,a)) ∨ ∃ m1 j,lQ m a r d c (Uh m a r d c) m1 j:=by
 by_cases hv:valid r d c=true
 rotate_left
 ·left
  unfold Uh Bu
  rw[if_neg hv]
  simp
 have hw0:=HH hv
 have hsz:=fT hv
 have hs0:=ho.s0
 obtain ⟨W,hW⟩:∃ W,Rf (num r d c)=W:=⟨_,rfl⟩
 rw[hW] at hsz
 have pok:=gC (m:=m) (a:=a) M.inv M.inv2 M.nt ho (w:=words r d c) (by omega)
 have M1:=aE (a:=a) M (words r d c)
 have good:∀ {pr:PR},oq m pr.2.1 a.s (words r d c)→Sr pr.2.1→pr.1.2=true→NX pr.2.1 (pr.1.1.tdiv 64)=a.s→(Bv pr.2.1 pr.1.1 r d c).2.1=0 → ∃ m1 j,lQ m a r d c (Bu m a r d c pr) m1 j:=by
  intro pr hcl hM1 h1 h2 h3
  have hf:Jt pr.2.1 pr.1.1 (Rf (num r d c)) (-1)=0∧(Bv pr.2.1 pr.1.1 r d c).2.2=CY pr.2.1 (pr.1.1.toNat/2) (num r d c):=by
   unfold Bv at h3 ⊢
   rw[if_pos hv] at h3 ⊢
   split at h3
   ·rename_i q; rw[if_pos q]; exact ⟨q,rfl⟩
   ·rename_i q; exact absurd h3 q
  obtain ⟨j,e1,e2,e3,e4⟩:=hM1.inv.fits hM1.sh.wl (by omega) (by omega) hf.1
  refine ⟨pr.2.1,j, ?_⟩
  have e:Bu m a r d c pr=((pr.1.1,0),(Bv pr.2.1 pr.1.1 r d c).2.2,pr.2.2):=by
   unfold Bu
   rw[if_pos hv,if_pos h1,if_pos h2,if_pos h3]
  rw[e]
  refine ⟨rfl,hv,hcl,hM1,e1,by rw[← e1]; exact hf.1,e2,fun o ho=>e4 o ho (by omega),by rw[← e1]; exact h2, ?_⟩
  show (Bv pr.2.1 pr.1.1 r d c).2.2=_
  rw[hf.2,e1]
  congr 1
  omega
 unfold Uh
 rcases nL m a (words r d c) with ⟨h1,h2⟩ | ⟨h1,b,h2,h3,h4⟩ | ⟨h1,b,h2,h3,h4,_⟩ | ⟨h1,_,h2⟩
 ·
  obtain ⟨pr,hpr⟩:∃ pr,UI m a (words r d c)=pr:=⟨_,rfl⟩
  rw[hpr] at h2 pok M1 ⊢
  by_cases q1:pr.1.2=true
  rotate_left
  ·left
   have e:=pok.no (by simpa using q1)
   unfold Bu
   rw[if_pos hv,if_neg q1]
   exact ⟨by dsimp only; decide,rfl,e⟩
  by_cases q2:NX pr.2.1 (pr.1.1.tdiv 64)=a.s
  rotate_left
  ·left
   unfold Bu
   rw[if_pos hv,if_pos q1,if_neg q2]
   exact ⟨by dsimp only; decide,rfl,by rw[h2]⟩
  by_cases q3:(Bv pr.2.1 pr.1.1 r d c).2.1=0
  ·right
   exact good (by rw[h2]; exact oq.refl m a.s h1) M1 q1 q2 q3
  ·left
   unfold Bu
   rw[if_pos hv,if_pos q1,if_pos q2,if_neg q3]
   exact ⟨by dsimp only; decide,rfl,by rw[((gB _ _ _ _ _).2 q3).2,h2]⟩
 ·right
  obtain ⟨f1,f2,_⟩:=bO M (w:=W) h2 hs0 (by omega)
  obtain ⟨pr,hpr⟩:∃ pr,UI m a (words r d c)=pr:=⟨_,rfl⟩
  rw[hpr] at h3 h4 M1 ⊢
  refine good (by rw[h3]; exact oq.fresh M h2 hs0 h1) M1 (by rw[h4]) ?_ ?_
  ·rw[h3,h4]
   show NX _ ((64*(b:Int)).tdiv 64)=_
   rw[Int.mul_tdiv_cancel_left _ (by decide)]
   exact f2
  ·unfold Bv
   rw[if_pos hv,hW,h3,h4,if_pos f1]
 ·right
  have hok:=px h2
  obtain ⟨f1,f2⟩:=kI M C (w:=W) (c:=(words r d c).toNat.add 63/64) (by rw[hsz]; rfl) (by omega) hok
  obtain ⟨pr,hpr⟩:∃ pr,UI m a (words r d c)=pr:=⟨_,rfl⟩
  rw[hpr] at h3 h4 M1 ⊢
  refine good (by rw[h3]; exact oq.tf rfl h1 hok) M1 (by rw[h4]) ?_ ?_
  ·rw[h3,h4]
   show NX _ ((64*(b:Int)).tdiv 64)=_
   rw[Int.mul_tdiv_cancel_left _ (by decide)]
   exact f2
  ·unfold Bv
   rw[if_pos hv,hW,h3,h4]
   exact if_pos f1 ▸ rfl
 ·left
  rw[h2]
  unfold Bu
  rw[if_pos hv]
  simp
end Go.Proofs.YtlaplcglpnlieaaGreat
end
section
namespace Go.Proofs.YtlaplcglpnlieaaGreat
open Go Go.AX
noncomputable local instance wA:AK:=As
local instance vh:Kn:=⟨true⟩
variable {σ:Aa} {m:HM} {i:C9} {ab:Nat} {a:AS}
theorem cy:∀ (l:List (Int × Int)) (x:Nat),x<l.length→(Hb l).getD (2*x) 0=(l.getD x (0,0)).1∧(Hb l).getD (2*x+1) 0=(l.getD x (0,0)).2
 | [],x,h=>by simp at h
 | p::l,0,h=>by simp[Hb]
 | p::l,x+1,h=>by
   have ih:=cy l x (by simpa using h)
   have e:Hb (p::l)=p.1::p.2::Hb l:=by simp[Hb]
   rw[e,show 2*(x+1)=2*x+1+1 from by omega,show 2*x+1+1+1=2*x+1+1+1 from rfl]
   simp only[List.getD_cons_succ]
   exact ih
theorem XZ {lo:Nat} {s:En} {l:List (Int × Int)} (h:AL lo σ s (Hb l)) {x:Nat} (hx:x<l.length):∃ b,s.1=some ⟨b,0,none⟩∧Ai .i64 σ b (2*x)=some (l.getD x (0,0)).1∧Ai .i64 σ b (2*x+1)=some (l.getD x (0,0)).2:=by
 have hl:=JE l
 obtain ⟨b,e,_,_,l0⟩:=ints_at h (x:=2*x) (by omega)
 obtain ⟨b',e',_,_,l1⟩:=ints_at h (x:=2*x+1) (by omega)
 rw[e] at e'
 cases e'
 obtain ⟨g0,g1⟩:=cy l x hx
 exact ⟨b,by rw[e],by rw[l0,g0],by rw[l1,g1]⟩
theorem Ya (k:Nat) {lo lo':Nat} {s s':En} {A B:List (Int × Int)} {ad n:Int} (h:AL lo σ s (Hb (A++B))) (h':AL lo' σ s' (Hb (A++(ad,n)::B))) (hA:∀ p ∈ A++B,p.1≠ad) (hl:(A++B).length≤5000):∀ (r x f:Nat),x+r=(A++B).length+1→r<f →
  E5 k f s.1 (2*(A++B).length) s.2.2 ad s'.1 (2*((A++B).length+1)) s'.2.2 ((2*(if x≤A.length then x else x-1):Nat):Int) ((2*x:Nat):Int) σ=some (.exit 0,[],σ)
 | r,x,0,hx,hf=>by omega
 | 0,x,f+1,hx,hf=>by
   rw[Ly,Jz]
   simp only[decide_eq_false (show ¬ ((2*x:Nat):Int)<((2*((A++B).length+1):Nat):Int) by omega),cond_false]
 | r+1,x,f+1,hx,hf=>by
   have hlen:(A++(ad,n)::B).length=(A++B).length+1:=by simp only[List.length_append,List.length_cons]; omega
   have hAB:(A++B).length=A.length+B.length:=List.length_append
   have ih:=Ya k h h' hA hl r (x+1) f (by omega) (by omega)
   obtain ⟨b',e1,l2,l3⟩:=XZ h' (x:=x) (by omega)
   have w1:Ad (((2*x:Nat):Int)+2)=((2*(x+1):Nat):Int):=by rw[Ac (by unfold AN; omega)]; omega
   have w2:Ad (((2*x:Nat):Int)+1)=((2*x+1:Nat):Int):=by rw[Ac (by unfold AN; omega)]; omega
   rw[e1] at ih ⊢
   rw[Ly,Jz]
   simp only[decide_eq_true (show ((2*x:Nat):Int)<((2*((A++B).length+1):Nat):Int) by omega),cond_true,if_pos (show (0:Int)≤((2*x:Nat):Int)∧((2*x:Nat):Int)<((2*((A++B).length+1):Nat):Int) by omega),Option.bind_some,Int.toNat_natCast,Nat.zero_add,Nat.mul_one,l2,w1,w2]
   by_cases hxe:x=A.length
   ·have hv:(A++(ad,n)::B).getD x (0,0)=(ad,n):=by
     rw[hxe,List.getD_eq_getElem?_getD,List.getElem?_append_right (Nat.le_refl _)]; simp
    rw[if_neg (show ¬ x+1≤A.length by omega)] at ih
    rw[hv,if_pos (by omega)]
    simp only[beq_self_eq_true,cond_true]
    exact ih
   ·obtain ⟨y,hy⟩:∃ y,(if x≤A.length then x else x-1)=y:=⟨_,rfl⟩
    have hy2:(if x+1≤A.length then x+1 else x+1-1)=y+1:=by
     rw[← hy]; split <;> split <;> omega
    have hyl:y<(A++B).length:=by rw[← hy]; split <;> omega
    have hv:(A++(ad,n)::B).getD x (0,0)=(A++B).getD y (0,0):=by
     rw[← hy,List.getD_eq_getElem?_getD,List.getD_eq_getElem?_getD]
     by_cases q:x<A.length
     ·rw[if_pos (by omega),List.getElem?_append_left q,List.getElem?_append_left q]
     ·rw[if_neg (by omega),List.getElem?_append_right (by omega),List.getElem?_append_right (by omega),show x-A.length=(x-1-A.length)+1 from by omega,List.getElem?_cons_succ]
    obtain ⟨b,e0,l0,l1⟩:=XZ h hyl
    have hne:((A++B).getD y (0,0)).1≠ad:=by
     rw[List.getD_eq_getElem?_getD,List.getElem?_eq_getElem hyl]
     exact hA _ (List.getElem_mem hyl)
    have w3:Ad (((2*y:Nat):Int)+2)=((2*(y+1):Nat):Int):=by rw[Ac (by unfold AN; omega)]; omega
    have w4:Ad (((2*y:Nat):Int)+1)=((2*y+1:Nat):Int):=by rw[Ac (by unfold AN; omega)]; omega
    rw[hy2] at ih
    rw[hv] at l2 l3 ⊢
    rw[hy,e0]
    rw[e0] at ih
    simp only[beq_eq_false_iff_ne.2 hne,cond_false,if_pos (show (0:Int)≤((2*y:Nat):Int)∧((2*y:Nat):Int)<((2*(A++B).length:Nat):Int) by omega),Option.bind_some,Int.toNat_natCast,Nat.zero_add,Nat.mul_one,l0,l1,l2,l3,bne_self_eq_false,w3,w4,if_pos (show (0:Int)≤((2*x+1:Nat):Int)∧((2*x+1:Nat):Int)<((2*((A++B).length+1):Nat):Int) by omega),if_pos (show (0:Int)≤((2*y+1:Nat):Int)∧((2*y+1:Nat):Int)<((2*(A++B).length:Nat):Int) by omega)]
    exact ih
def dy (L L':List (Int × Int)):Nat→Nat→Nat
 | _,0=>0
 | x,n+1=>(if L'.getD x (0,0)=L.getD x (0,0) then 0 else 1)+dy L L' (x+1) n
theorem mg {L L':List (Int × Int)} {b c:Nat} (h:∀ k,L'.getD k (0,0)=L.getD k (0,0)↔¬ (b≤k∧k<b+c)):∀ (n x:Nat),dy L L' x n=min (b+c) (x+n)-max b x
 | 0,x=>by rw[dy]; omega
 | n+1,x=>by
   rw[dy,mg h n (x+1)]
   by_cases q:b≤x∧x<b+c
   ·rw[if_neg (fun hh=>(h x).1 hh q)]; omega
   ·rw[if_pos ((h x).2 q)]; omega
theorem TH (k:Nat) {lo lo':Nat} {s s':En} {L L':List (Int × Int)} {sp:Int} (h:AL lo σ s (Hb L)) (h':AL lo' σ s' (Hb L')) (hll:L'.length=L.length) (hd:∀ k,L'.getD k (0,0)≠L.getD k (0,0)→(L.getD k (0,0)).1=0∧(L'.getD k (0,0)).2=sp) (hl:L.length≤5000):∀ (r x f c:Nat),x+r=L.length→r<f→c≤x →
  E6 k f sp s.1 (2*L.length) s.2.2 s'.1 (2*L.length) s'.2.2 (c:Int) ((2*x:Nat):Int) σ=some (.exit 2,[.int .i64 ((c+dy L L' x r:Nat):Int)],σ)
 | r,x,0,c,hx,hf,hc=>by omega
 | 0,x,f+1,c,hx,hf,hc=>by
   rw[Lz,J0]
   simp only[decide_eq_false (show ¬ ((2*x:Nat):Int)<((2*L.length:Nat):Int) by omega),cond_false,dy,Nat.add_zero]
 | r+1,x,f+1,c,hx,hf,hc=>by
   have ih1:=TH k h h' hll hd hl r (x+1) f (c+1) (by omega) (by omega) (by omega)
   have ih0:=TH k h h' hll hd hl r (x+1) f c (by omega) (by omega) (by omega)
   obtain ⟨b',e1,l2,l3⟩:=XZ h' (x:=x) (by omega)
   obtain ⟨b,e0,l0,l1⟩:=XZ h (x:=x) (by omega)
   have w1:Ad (((2*x:Nat):Int)+2)=((2*(x+1):Nat):Int):=by rw[Ac (by unfold AN; omega)]; omega
   have w2:Ad (((2*x:Nat):Int)+1)=((2*x+1:Nat):Int):=by rw[Ac (by unfold AN; omega)]; omega
   have w3:Ad ((c:Int)+1)=((c+1:Nat):Int):=by rw[Ac (by unfold AN; omega)]; omega
   have q1:((0:Int)≤((2*x:Nat):Int)∧((2*x:Nat):Int)<((2*L.length:Nat):Int))=True:=eq_true (by omega)
   have q2:((0:Int)≤((2*x+1:Nat):Int)∧((2*x+1:Nat):Int)<((2*L.length:Nat):Int))=True:=eq_true (by omega)
   have hdx:=hd x
   rw[e1,e0] at ih1 ih0 ⊢
   rw[Lz,J0,dy]
   simp only[decide_eq_true (show ((2*x:Nat):Int)<((2*L.length:Nat):Int) by omega),cond_true,q1,q2,if_true,Option.bind_some,Int.toNat_natCast,Nat.zero_add,Nat.mul_one,l0,l1,l2,l3,w1,w2,w3]
   generalize L.getD x (0,0)=u at *
   generalize L'.getD x (0,0)=v at *
   by_cases hv:v=u
   ·rw[if_pos hv,Nat.zero_add]
    subst hv
    simp only[bne_self_eq_false,cond_false,Option.bind_some,if_true,Ds]
    exact ih0
   ·rw[if_neg hv]
    obtain ⟨d1,d2⟩:=hdx hv
    rw[show c+(1+dy L L' (x+1) r)=c+1+dy L L' (x+1) r from by omega]
    by_cases h1:v.1=u.1
    ·have h2:v.2≠u.2:=fun hh=>hv (Prod.ext h1 hh)
     simp only[h1,bne_self_eq_false,cond_false,bne_iff_ne.2 h2,bne_iff_ne.2 (show sp≠u.2 from d2 ▸ h2),Option.bind_some,cond_true,l0,l3,d1,d2,if_true,Ds]
     exact ih1
    ·simp only[bne_iff_ne.2 h1,bne_iff_ne.2 (show v.1≠0 from d1 ▸ h1),Option.bind_some,cond_true,cond_false,l0,l3,d1,d2,bne_self_eq_false,if_true,Ds]
     exact ih1
theorem ki (hS:Sh m) {j:Nat} (hj:j<32*m.bls.length) (hn:¬ Start m j) (n:Int):∃ l1 l2,BV m=l1++l2∧BV (CY m j n)=l1++j::l2:=by
 refine ⟨(BV m).filter (fun y=>decide (y<j)),(BV m).filter (fun y=>decide (j<y)), ?_, ?_⟩
 ·refine OQ (EX m) ?_ fun y=>?_
  ·rw[List.pairwise_append]
   refine ⟨(EX m).filter _,(EX m).filter _,fun x hx y hy=>?_⟩
   have h1:=of_decide_eq_true (List.mem_filter.1 hx).2
   have h2:=of_decide_eq_true (List.mem_filter.1 hy).2
   omega
  ·rw[List.mem_append,List.mem_filter,List.mem_filter,decide_eq_true_eq,decide_eq_true_eq]
   constructor
   ·intro h
    have:y≠j:=fun e=>hn (e ▸ CA.1 h)
    by_cases q:y<j
    ·exact .inl ⟨h,q⟩
    ·exact .inr ⟨h,by omega⟩
   ·rintro (h | h) <;> exact h.1
 ·refine OQ (EX _) ?_ fun y=>?_
  ·rw[List.pairwise_append,List.pairwise_cons]
   refine ⟨(EX m).filter _,⟨fun y hy=>of_decide_eq_true (List.mem_filter.1 hy).2,(EX m).filter _⟩,fun x hx y hy=>?_⟩
   have h1:=of_decide_eq_true (List.mem_filter.1 hx).2
   rcases List.mem_cons.1 hy with rfl | hy
   ·exact h1
   ·have h2:=of_decide_eq_true (List.mem_filter.1 hy).2
    omega
  ·rw[CA,Nj hS.sl hj,List.mem_append,List.mem_cons,List.mem_filter,List.mem_filter,decide_eq_true_eq,decide_eq_true_eq,CA]
   constructor
   ·rintro (h | h)
    ·exact .inr (.inl h)
    ·have:y≠j:=fun e=>hn (e ▸ h)
     by_cases q:y<j
     ·exact .inl ⟨h,q⟩
     ·exact .inr (.inr ⟨h,by omega⟩)
   ·rintro (h | h | h)
    ·exact .inr h.1
    ·exact .inl h
    ·exact .inr h.1
theorem lQ.tT {r d c:Int} {st:(Int × Int) × HM × AS} {m1:HM} {j:Nat} (M:Sr m) (K:lQ m a r d c st m1 j):∃ A B,SR m=A++B∧SR st.2.1=A++(st.1.1,m.births+1)::B∧(∀ p ∈ A++B,p.1≠st.1.1):=by
 obtain ⟨b,c',l,e,el,_⟩:=K.cl
 have hS:=K.M1.sh
 have hz:2≤Rf (num r d c):=by
  have h1:=fT K.v
  have h2:=HH K.v
  omega
 have hn:¬ Start m1 j:=fun hs=>by
  have h1:=K.ap j hs
  have h2:=K.M1.inv.size hs
  omega
 obtain ⟨l1,l2,h1,h2⟩:=ki hS K.jl hn (num r d c)
 have hst:∀ y,Start m1 y↔Start m y:=fun y=>by rw[e]; unfold Start; rw[el]
 have hall:BV m=l1++l2:=by rw[← h1]; exact OQ (EX _) (EX _) fun y=>by rw[CA,CA,hst]
 have hb:m1.births=m.births:=by rw[e]
 have hw:m1.wds=m.wds:=by rw[e]
 have hj:j ∉ l1++l2:=fun hm=>hn (CA.1 (h1 ▸ hm))
 have f:∀ y,y≠j→(CY m1 j (num r d c)).wds.getD (2*y) 0=m.wds.getD (2*y) 0:=fun y hy=>by
  rw[KY hS K.jl,if_neg (by omega),if_neg (by omega),hw]
 refine ⟨l1.map fun y=>(((2*y:Nat):Int),m.wds.getD (2*y) 0),l2.map fun y=>(((2*y:Nat):Int),m.wds.getD (2*y) 0), ?_, ?_, ?_⟩
 ·unfold SR; rw[hall,List.map_append]
 ·unfold SR
  rw[K.res,h2,List.map_append,List.map_cons,K.ad]
  congr 1
  ·exact List.map_congr_left fun y hy=>by rw[f y (fun e=>hj (List.mem_append.2 (.inl (e ▸ hy))))]
  ·congr 1
   ·rw[KY hS K.jl,if_neg (by omega),if_pos rfl,hb]
   ·exact List.map_congr_left fun y hy=>by rw[f y (fun e=>hj (List.mem_append.2 (.inr (e ▸ hy))))]
 ·intro p hp
  rw[← List.map_append] at hp
  obtain ⟨y,hy,rfl⟩:=List.mem_map.1 hp
  rw[K.ad]
  intro e
  have:y=j:=by have e':((2*y:Nat):Int)=((2*j:Nat):Int):=e; omega
  exact hj (this ▸ hy)
theorem oL (x y z x' y' z':Int):UH P Ag (.agg #[.int .i64 x,.int .i64 y,.int .i64 z]) (.agg #[.int .i64 x',.int .i64 y',.int .i64 z'])=bif x == x' then (bif y == y' then some (z == z') else some false) else some false:=by kernel_rfl
theorem tw (μ:Aa) (T:TypeId) (p q x p' q' x':Value):JM (μ++[.cells [p,q,x] T true]) μ.length 0 [p',q',x']=some (μ++[.cells [p',q',x'] T true]):=by
 simp[JM,AE]
theorem tS (μ:Aa) (T:TypeId) (x y z:Int):Ai .i64 (μ++[.cells [.int .i64 x,.int .i64 y,.int .i64 z] T true]) μ.length 0=some x∧Ai .i64 (μ++[.cells [.int .i64 x,.int .i64 y,.int .i64 z] T true]) μ.length 1=some y∧Ai .i64 (μ++[.cells [.int .i64 x,.int .i64 y,.int .i64 z] T true]) μ.length 2=some z:=by
 simp[Ai,G1,B8]
end Go.Proofs.YtlaplcglpnlieaaGreat
end
section
namespace Go.Proofs.YtlaplcglpnlieaaGreat
open Go Go.AX
noncomputable local instance wB:AK:=As
local instance vi:Kn:=⟨true⟩
variable {σ:Aa} {m:HM} {i:C9} {ab:Nat} {a:AS}
set_option maxHeartbeats 1000000 in
theorem aJ (k:Nat) (hk:1000000≤k) {σ:Aa} (b:Int) (hb:AN b) (s:Int) (hs:AN s) (q:Int) (hq:AN q) (p:Option Addr) (c2:Nat) (l:List Yv) (hok:∀ y ∈ l,y.ok) (S:Ro Zv σ p l) (r:Int) (hr:AN r) (d:Int) (hd:AN d) (c:Int) (hc:AN c):
  ∃ σ',fn P (XK Kn.b) H (k+19) Vp [.int .i64 b,.int .i64 s,.int .i64 q,.slice p l.length c2,.agg #[.int .i64 r,.int .i64 d,.int .i64 c]] σ=some (.bool true,σ'):=by
 rw[show [Value.int .i64 b,.int .i64 s,.int .i64 q,.slice p l.length c2,.agg #[.int .i64 r,.int .i64 d,.int .i64 c]]=[.int .i64 b,.int .i64 s,.int .i64 q,.slice (p,l.length,c2).1 (p,l.length,c2).2.1 (p,l.length,c2).2.2,.agg #[.int .i64 r,.int .i64 d,.int .i64 c]] from rfl,V0,T0,PH]
 simp only[Ao]
 obtain ⟨μ,hμ⟩:∃ μ,σ++[AY.cells [Value.int .i64 r,.int .i64 d,.int .i64 c] Ag true]=μ:=⟨_,rfl⟩
 have hbox:μ[σ.length]?=some (AY.cells [Value.int .i64 r,.int .i64 d,.int .i64 c] Ag true):=by rw[← hμ]; simp
 have hlt:σ.length<μ.length:=Ae hbox
 have ldq:∀ (μ':Aa),μ'[σ.length]?=μ[σ.length]?→Ai .i64 μ' σ.length 0=some r∧Ai .i64 μ' σ.length 1=some d∧Ai .i64 μ' σ.length 2=some c:=by
  intro μ' h
  rw[hbox] at h
  refine ⟨?_, ?_, ?_⟩ <;> simp[Ai,G1,h,B8]
 have Sμ:Ro Zv μ p l:=hμ ▸ S.app _
 rw[hμ]
 rcases nv (Q:=fun m _=>Uf m) (fun m a x _ _ _ h=>sd h x) (fun n _ _=>Uf.new n) k hk b s q p c2 l hok Sμ with ⟨σ1,e0⟩ | ⟨σ1,i,ab,m,a,e0,Y,C⟩
 ·simp only[e0,Option.bind_some,m9,tQ,cond_true,TB,Au]
  exact ⟨_,rfl⟩
 have hle:=Y.len
 have hbr:=Y.br
 have hal:=Y.al.lt
 have hil:∀ x ∈ i.l,x<σ1.length:=fun x hx=>Y.h.lt x hx
 have hnt:=Y.M.nt
 obtain ⟨τ2,sl2,e2,I2⟩:=ZC (k+10) (by omega) Y.h Y.M.inv
 have e2':GH (k+18) (CW i) σ1=_:=e2
 obtain ⟨τ3,sl3,e3,I3⟩:=dc (k+14) (by omega) (Y.h.app τ2)
 have e3':Hm (k+18) (CW i) (σ1++τ2)=_:=e3
 obtain ⟨σ3,hσ3⟩:∃ σ3,σ1++τ2++τ3=σ3:=⟨_,rfl⟩
 rw[hσ3] at e3' I3
 have I2':AL σ1.length σ3 sl2 (Hb (SR m)):=hσ3 ▸ I2.app τ3
 have I3':AL σ1.length σ3 sl3 (Hb m.bls):=by
  rcases I3 with h | ⟨b,h1,h2⟩
  ·exact .inl h
  ·exact .inr ⟨b,by simp at h1; omega,h2⟩
 have H3:Ah σ3 i m:=hσ3 ▸ (Y.h.app τ2).app τ3
 have A3:Ch σ3 ab i a:=hσ3 ▸ (Y.al.app τ2).app τ3
 have s3:∀ x,x<σ1.length→σ3[x]?=σ1[x]?:=fun x hx=>by rw[← hσ3,List.append_assoc,List.getElem?_append_left hx]
 have hl3:σ1.length≤σ3.length:=by rw[← hσ3]; simp
 have e4:Es (k+18) (CW i) σ3=_:=Yw (k+16) H3
 have e5:CQ (k+18) (DC ab) σ3=_:=aX (k+16) A3
 obtain ⟨a0,a1,a2⟩:=ldq σ3 (by rw[s3 _ (by omega)]; exact Y.same _ hlt)
 obtain ⟨σ4,e6,H4,A4,K4⟩:=dI (k+5) (by omega) H3 A3 Y.off Y.ok Y.M.inv Y.M.inv2 Y.M.b0 (by omega) r d c
 have e6':AO (k+18) (DC ab) r d c σ3=_:=e6
 have aok:=rW Y.M Y.ok r d c
 have hM4:=qw (a:=a) Y.M r d c
 have hq4:σ4[σ.length]?=μ[σ.length]?:=by
  rw[K4.same _ (by omega) (fun hm=>by have:=Y.lo _ hm; omega) (by have:=Y.loa; omega),s3 _ (by omega)]; exact Y.same _ hlt
 have UC:∀ {s0:En} {l0:List Int},AL σ1.length σ3 s0 l0→AL σ1.length σ4 s0 l0:=fun h=>h.same fun x h1 h2=>K4.same x h2 (fun hm=>by have:=hil x hm; omega) (by omega)
 obtain ⟨τ5,sl5,e7,I5⟩:=ZC (k+10) (by omega) H4 aok.inv
 have e7':GH (k+18) (CW i) σ4=_:=e7
 obtain ⟨τ6,sl6,e8,I6⟩:=dc (k+14) (by omega) (H4.app τ5)
 have e8':Hm (k+18) (CW i) (σ4++τ5)=_:=e8
 obtain ⟨σ6,hσ6⟩:∃ σ6,σ4++τ5++τ6=σ6:=⟨_,rfl⟩
 rw[hσ6] at e8' I6
 have J2:AL σ1.length σ6 sl2 (Hb (SR m)):=hσ6 ▸ ((UC I2').app τ5).app τ6
 have J3:AL σ1.length σ6 sl3 (Hb m.bls):=hσ6 ▸ ((UC I3').app τ5).app τ6
 have J5:AL σ4.length σ6 sl5 (Hb (SR (Uh m a r d c).2.1)):=hσ6 ▸ I5.app τ6
 have H6:Ah σ6 i (Uh m a r d c).2.1:=hσ6 ▸ (H4.app τ5).app τ6
 have A6:Ch σ6 ab i (Uh m a r d c).2.2:=hσ6 ▸ (A4.app τ5).app τ6
 have hq6:σ6[σ.length]?=μ[σ.length]?:=by
  have:=K4.len
  rw[← hσ6,List.append_assoc,List.getElem?_append_left (by omega)]; exact hq4
 have hob:=ja (m:=m) Y.M.nt
 have hp1:(Hb (SR m)).length≤10000:=by rw[JE]; omega
 have hp2:(Hb m.bls).length≤10000:=by rw[JE]; omega
 simp only[e0,Option.bind_some,m9,ta,cond_false,e2',Hs,e3',e4,Am,e5,ft,Nat.zero_add,Nat.reduceAdd,a0,a1,a2,e6',Ed,e7',e8']
 rcases qz Y.M C Y.ok r d c with ⟨o1,o2,o3⟩ | ⟨m1,j,Z⟩
 ·rw[o3] at J5 I6 H6 A6
  dsimp only at J5 I6 H6 A6
  have t1:=ju (k+16) J2 J5 (by omega) (Nat.le_refl _) (by omega)
  have t1':J9 (k+18) (sl2.1,sl2.2.1,sl2.2.2) (sl5.1,sl5.2.1,sl5.2.2) σ6=_:=t1
  have t2:=ju (k+16) J3 I6 (by omega) (Nat.le_refl _) (by omega)
  have t2':J9 (k+18) (sl3.1,sl3.2.1,sl3.2.2) (sl6.1,sl6.2.1,sl6.2.2) σ6=_:=t2
  have t3:Es (k+18) (CW i) σ6=_:=Yw (k+16) H6
  have t4:CQ (k+18) (DC ab) σ6=_:=aX (k+16) A6
  simp only[bne_iff_ne.2 o1,cond_true,t4,ft,o2,beq_self_eq_true,t1',Option.bind_some,Au,decide_true,t2',t3,Am,TB]
  exact ⟨_,rfl⟩
 obtain ⟨A,B,O1,O2,O3⟩:=Z.tT Y.M
 obtain ⟨bb,cc,ll,z1,z2,z3,z4,z5,z6,z7⟩:=Z.cl
 have hS1:=Z.M1.sh
 have hjl:=Z.jl
 have hnt1:=Z.M1.nt
 have hst:Start (Uh m a r d c).2.1 j:=by rw[Z.res]; exact (Nj hS1.sl Z.jl).2 (.inl rfl)
 have hbir:m1.births=m.births:=by rw[z1]
 have hpw:=KY hS1 Z.jl (num r d c)
 have hinj:AN ((2*j:Nat):Int):=by unfold AN; omega
 obtain ⟨y1,y2,y3,_⟩:=Ll Z.v
 have f1:=hO (k+12) H6 ((2*j:Nat):Int) hinj
 rw[if_pos (aA hst),Int.toNat_natCast] at f1
 have f1v:(Uh m a r d c).2.1.wds.getD (2*j) 0=m.births+1:=by rw[Z.res,hpw,if_neg (by omega),if_pos rfl,hbir]
 rw[f1v] at f1
 obtain ⟨τ7,f2⟩:=oy (k+12) H6 hst
 have f2r:BA (Uh m a r d c).2.1 j=r:=by unfold BA; rw[Z.res,hpw,if_pos rfl,y1]
 have f2d:D9 (Uh m a r d c).2.1 j=d:=by unfold D9; rw[Z.res,hpw,if_pos rfl,y2]
 have f2c:FD (Uh m a r d c).2.1 j=c:=by unfold FD; rw[Z.res,hpw,if_pos rfl,y3]
 rw[f2r,f2d,f2c] at f2
 have f1':EE (k+18) (CW i) ((2*j:Nat):Int) σ6=_:=f1
 have f2':G4 (k+18) (CW i) ((2*j:Nat):Int) σ6=_:=f2
 obtain ⟨σ7,hσ7⟩:∃ σ7,σ6++τ7=σ7:=⟨_,rfl⟩
 rw[hσ7] at f2'
 obtain ⟨g1,g2,g3⟩:=tS σ7 Ag r d c
 obtain ⟨σ8,hσ8⟩:∃ σ8,σ7++[AY.cells [Value.int .i64 r,.int .i64 d,.int .i64 c] Ag true]=σ8:=⟨_,rfl⟩
 have H8:Ah σ8 i (Uh m a r d c).2.1:=hσ8 ▸ (hσ7 ▸ H6.app τ7:Ah σ7 i _).app _
 have stx:=tw σ7 Ag (.int .i64 0) (.int .i64 0) (.int .i64 0) (.int .i64 r) (.int .i64 d) (.int .i64 c)
 rw[hσ8] at g1 g2 g3 stx
 have L6:=Ae (hq6.trans hbox)
 have hq8:σ8[σ.length]?=μ[σ.length]?:=by
  rw[← hσ8,← hσ7,List.append_assoc,List.getElem?_append_left L6]; exact hq6
 obtain ⟨v0,v1,v2⟩:=ldq σ8 hq8
 have K2:AL σ1.length σ8 sl2 (Hb (A++B)):=O1 ▸ (hσ8 ▸ (hσ7 ▸ J2.app τ7:AL σ1.length σ7 sl2 _).app _)
 have K5:AL σ4.length σ8 sl5 (Hb (A++((Uh m a r d c).1.1,m.births+1)::B)):=O2 ▸ (hσ8 ▸ (hσ7 ▸ J5.app τ7:AL σ4.length σ7 sl5 _).app _)
 have K3:AL σ1.length σ8 sl3 (Hb m.bls):=hσ8 ▸ (hσ7 ▸ J3.app τ7:AL σ1.length σ7 sl3 _).app _
 have hbls:(Uh m a r d c).2.1.bls=ll:=by rw[Z.res,z1]; rfl
 have K6:AL (σ4++τ5).length σ8 sl6 (Hb ll):=hbls ▸ (hσ8 ▸ (hσ7 ▸ I6.app τ7:AL (σ4++τ5).length σ7 sl6 _).app _)
 have hbt:(Uh m a r d c).2.1.births=m.births+1:=by rw[Z.res]; show m1.births+1=_; rw[hbir]
 have f3:Es (k+18) (CW i) σ8=_:=Yw (k+16) H8
 rw[hbt] at f3
 have hb0:=Y.M.inv.brt
 have w1:Ad (m.births+1)=m.births+1:=Ac (by unfold AN; omega)
 have w2:Ad ((((2*j:Nat):Int)).tdiv 64)=((2*j/64:Nat):Int):=by
  rw[show (((2*j:Nat):Int)).tdiv 64=((2*j/64:Nat):Int) from rfl]; exact Ac (by unfold AN; omega)
 have f4:Bp (k+18) (CW i) ((2*j/64:Nat):Int) σ8=_:=lT (k+15) H8 ((2*j/64:Nat):Int)
 have hsp:NX (Uh m a r d c).2.1 ((2*j/64:Nat):Int)=s:=by
  have h1:=Z.sp
  rw[show (((2*j:Nat):Int)).tdiv 64=((2*j/64:Nat):Int) from rfl,Y.es] at h1
  rw[← h1,Z.res]
  rfl
 rw[hsp] at f4
 have hobl:(SR m).length=(A++B).length:=by rw[O1]
 have e2l:sl2.2.1=2*(A++B).length:=by rw[K2.len,JE]
 have e5l:sl5.2.1=2*((A++B).length+1):=by rw[K5.len,JE]; simp only[List.length_append,List.length_cons]; omega
 have e3l:sl3.2.1=2*m.bls.length:=by rw[K3.len,JE]
 have e6l:sl6.2.1=2*m.bls.length:=by rw[K6.len,JE,z2]
 have w3:Ad (((2*(A++B).length:Nat):Int)+2)=((2*((A++B).length+1):Nat):Int):=by rw[Ac (by unfold AN; omega)]; omega
 have lp0:=Ya (k+18) K2 K5 O3 (by omega) ((A++B).length+1) 0 (k+18) (by omega) (by omega)
 rw[if_pos (Nat.zero_le _),show ((2*0:Nat):Int)=0 from rfl] at lp0
 have hdif:∀ x,ll.getD x (0,0)≠m.bls.getD x (0,0)→(m.bls.getD x (0,0)).1=0∧(ll.getD x (0,0)).2=s:=fun x hx=>by
  by_cases h:bb≤x∧x<bb+cc
  ·exact ⟨by rw[z4 x h.1 h.2],by rw[((z5 x).1 h).2,Y.es]⟩
  ·exact absurd ((z5 x).2 h) hx
 have lp1:=TH (k+18) (sp:=s) K3 K6 z2 hdif (by omega) m.bls.length 0 (k+18) 0 (by omega) (by omega) (Nat.le_refl _)
 rw[show ((2*0:Nat):Int)=0 from rfl] at lp1
 have hdn:dy m.bls ll 0 m.bls.length=cc:=by
  rw[mg (b:=bb) (c:=cc) (fun x=>⟨fun h1 h2=>?_,fun h=>(z5 x).2 h⟩)]
  ·omega
  ·have h3:=((z5 x).1 h2).1
   rw[h1,z4 x h2.1 h2.2] at h3
   exact h3 rfl
 rw[hdn,Nat.zero_add] at lp1
 obtain ⟨τ9,e9⟩:=Mi (k+16) r d c σ8
 obtain ⟨σ9,hσ9⟩:∃ σ9,σ8++τ9=σ9:=⟨_,rfl⟩
 rw[hσ9] at e9
 obtain ⟨u0,u1,u2⟩:=ldq σ9 (by rw[← hσ9,List.getElem?_append_left (Ae (hq8.trans hbox))]; exact hq8)
 obtain ⟨τ10,e10⟩:=Mi (k+16) r d c σ9
 have hwv:=HH Z.v
 obtain ⟨W,hW⟩:∃ W:Nat,words r d c=(W:Int):=⟨(words r d c).toNat,by omega⟩
 rw[hW] at z6 z7 hwv e9 e10
 have ead:=Z.ad
 simp only[Z.ok,bne_self_eq_false,cond_false,ead,f1',Ed,f2',Option.bind_some,Yu,List.length_cons,List.length_nil,Nat.zero_add,Nat.reduceAdd,if_true,List.head?_cons,aW,List.tail_cons,Am,stx,w1,f3,g1,g2,g3,v0,v1,v2,oL,beq_self_eq_true,cond_true,Bool.not_true,show ((64:Int)=0)=False from by simp,if_false,w2,f4,e2l,e5l,e3l,e6l,w3]
 rw[ead] at lp0
 simp only[lp0,Option.bind_some,if_true,lp1,Ds,v0,v1,v2,e9,Am]
 by_cases h32:(W:Int)>32
 ·have hcc:=z7 h32
  have w5:Ad ((W:Int)+64)=((W+64:Nat):Int):=by rw[Ac (by unfold AN; omega)]; omega
  have w6:Ad (((W+64:Nat):Int)-1)=((W+63:Nat):Int):=by rw[Ac (by unfold AN; omega)]; omega
  have w7:Ad ((((W+63:Nat):Int)).tdiv 64)=(((W+63)/64:Nat):Int):=by
   rw[show (((W+63:Nat):Int)).tdiv 64=(((W+63)/64:Nat):Int) from rfl]; exact Ac (by unfold AN; omega)
  rw[Int.toNat_natCast] at hcc
  simp only[decide_eq_true h32,cond_true,u0,u1,u2,Option.bind_some,e10,Am,w5,w6,w7,hcc,beq_self_eq_true,TB,Au]
  exact ⟨_,rfl⟩
 ·have hcc:=z6 (by omega)
  simp only[decide_eq_false h32,cond_false,decide_eq_true (show (cc:Int)≤1 by omega),cond_true,TB,Option.bind_some,Au]
  exact ⟨_,rfl⟩
end Go.Proofs.YtlaplcglpnlieaaGreat
end
