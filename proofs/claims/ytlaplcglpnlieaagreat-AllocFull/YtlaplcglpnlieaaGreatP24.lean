/- Blocks of large objects hang together; what is claimed is free of objects, and can be placed in.; What a call of Alloc comes to: nothing, or one objec -/
import Derived.Test.YtlaplcglpnlieaaGreatP23
set_option linter.unusedVariables false
set_option linter.unusedSimpArgs false
set_option linter.unusedSectionVars false
section
namespace Go.Proofs.YtlaplcglpnlieaaGreat
open Go Go.AX
noncomputable local instance vM:AF:=Au
local instance uC:Kn:=⟨true⟩
variable {σ:Aa} {m:HM} {i:Cs} {ab:Nat} {a:AS}
theorem jB {b c:Int} {x y x' y':Int} (h:(Bp m b c x y x' y').1=0):1≤b∧1≤c:=by
 unfold Bp at h
 split at h
 ·rename_i q; exact ⟨q.1,q.2.2.1⟩
 ·cases h
theorem SZ {b c:Nat} {x y x' y':Int} (h:(Bp m (b:Int) (c:Int) x y x' y').1=0):1≤b∧1≤c∧b+c≤m.bls.length∧Ug y=true∧(∀ k,b≤k→k<b+c→m.bls.getD k (0,0)=(0,0)) ∧ ∃ l,(Bp m (b:Int) (c:Int) x y x' y').2={ m with bls:=l }∧l.length=m.bls.length ∧ ∀ k,l.getD k (0,0)=if k=b then (x,y) else if b≤k∧k<b+c then (x',y') else m.bls.getD k (0,0):=by
 unfold Bp at h ⊢
 split at h
 ·rename_i q
  rw[if_pos q]
  split at h
  ·rename_i u
   rw[if_pos u]
   simp only[Int.toNat_natCast] at u ⊢
   refine ⟨by omega,by omega,by omega,q.2.2.2.2,fun k h1 h2=>?_,_,rfl,by rw[List.length_set,Ft],fun k=>?_⟩
   ·have:=WR u (k-b) (by omega) (by omega)
    rwa [show b+(k-b)=k from by omega] at this
   ·rw[OT,Xi b _ c 0 _ k (by omega),Ft,Nat.add_zero]
    by_cases hk:k=b
    ·rw[if_pos ⟨hk,by omega⟩,if_pos hk]
    ·rw[if_neg (fun hh=>hk hh.1),if_neg hk]
  ·cases h
 ·cases h
def SL (m:HM):Prop:=∀ c,(m.bls.getD c (0,0)).1=3→1≤c∧((m.bls.getD (c-1) (0,0)).1=2∨(m.bls.getD (c-1) (0,0)).1=3)
theorem SL.CT {m':HM} (h:SL m) (e:m'.bls=m.bls):SL m':=by unfold SL at *; rw[e]; exact h
theorem SL.new (n:Nat):SL (MS n):=by
 intro c hc
 exfalso
 have:(MS n).bls.getD c (0,0)=(0,0):=by
  show (List.replicate n ((0:Int),(0:Int))).getD c (0,0)=(0,0)
  rw[List.getD_eq_getElem?_getD,List.getElem?_replicate]
  split <;> rfl
 rw[this] at hc
 cases hc
theorem SL.YU (h:SL m) (b c x y x' y':Int) (hx:x≠3) (hx':c=1∨(x=2∧x'=3)):SL (Bp m b c x y x' y').2:=by
 by_cases q:(Bp m b c x y x' y').1=0
 rotate_left
 ·rw[ay q]; exact h
 obtain ⟨p1,p2⟩:=jB q
 obtain ⟨b,rfl⟩:∃ n:Nat,b=(n:Int):=⟨b.toNat,by omega⟩
 obtain ⟨c,rfl⟩:∃ n:Nat,c=(n:Int):=⟨c.toNat,by omega⟩
 obtain ⟨q1,q2,q3,_,q4,l,e,_,hl⟩:=SZ q
 rw[e]
 intro k hk
 have hk':(l.getD k (0,0)).1=3:=hk
 show 1≤k∧((l.getD (k-1) (0,0)).1=2∨(l.getD (k-1) (0,0)).1=3)
 rw[hl] at hk'
 rw[hl]
 by_cases k1:k=b
 ·rw[if_pos k1] at hk'; exact absurd hk' hx
 rw[if_neg k1] at hk'
 by_cases k2:b≤k∧k<b+c
 ·rw[if_pos k2] at hk'
  obtain ⟨rfl,rfl⟩:=hx'.resolve_left (by omega)
  refine ⟨by omega, ?_⟩
  by_cases k3:k-1=b
  ·rw[if_pos k3]; exact .inl rfl
  ·rw[if_neg k3,if_pos (by omega)]; exact .inr rfl
 ·rw[if_neg k2] at hk'
  obtain ⟨h1,h2⟩:=h k hk'
  refine ⟨h1, ?_⟩
  by_cases k3:b≤k-1∧k-1<b+c
  ·rw[q4 _ k3.1 k3.2] at h2
   rcases h2 with h2 | h2 <;> cases h2
  ·rw[if_neg (by omega),if_neg k3]; exact h2
theorem cg {b:Nat} (h2:(m.bls.getD b (0,0)).1=2):∀ (f n:Nat),m.bls.length≤b+n+f→b+EO m b f n<m.bls.length→(m.bls.getD (b+EO m b f n) (0,0)).1≠3
 | 0,n,hf,hb=>by rw[EO] at hb; omega
 | f+1,n,hf,hb=>by
   rw[EO] at hb ⊢
   split
   ·rename_i q
    rw[if_pos q] at hb
    exact cg h2 f (n+1) (by omega) hb
   ·rename_i q
    rw[if_neg q] at hb
    exact fun h3=>q ⟨h2,hb,h3⟩
theorem og (l:List (Int × Int)) {c:Nat} (h:l.length≤c):l.getD c (0,0)=(0,0):=by
 rw[List.getD_eq_getElem?_getD,List.getElem?_eq_none h]; rfl
theorem SL.release (h:SL m) (b:Int):SL (GD m b).2:=by
 unfold GD
 split
 ·rename_i q
  split
  ·have hb:1≤b∧b<(m.bls.length:Int)∧((m.bls.getD b.toNat (0,0)).1=1∨(m.bls.getD b.toNat (0,0)).1=2):=by
    unfold NP at q
    split at q
    ·cases q
    ·split at q
     ·cases q
     ·omega
   obtain ⟨b,rfl⟩:∃ n:Nat,b=(n:Int):=⟨b.toNat,by omega⟩
   rw[Int.toNat_natCast] at hb ⊢
   have hge:=iW m b m.bls.length 1
   intro k hk
   have hk':((XC m.bls b (Ee m b)).getD k (0,0)).1=3:=hk
   show 1≤k∧(((XC m.bls b (Ee m b)).getD (k-1) (0,0)).1=2∨((XC m.bls b (Ee m b)).getD (k-1) (0,0)).1=3)
   rw[Om] at hk'
   rw[Om]
   by_cases k1:b≤k∧k<b+Ee m b
   ·rw[if_pos k1] at hk'; cases hk'
   rw[if_neg k1] at hk'
   obtain ⟨h1,h2⟩:=h k hk'
   refine ⟨h1, ?_⟩
   by_cases k2:b≤k-1∧k-1<b+Ee m b
   ·exfalso
    have hkb:k=b+Ee m b:=by omega
    have hkl:k<m.bls.length:=by
     by_cases hh:k<m.bls.length
     ·exact hh
     ·rw[og _ (by omega)] at hk'; cases hk'
    rcases hb.2.2 with s1 | s2
    ·
     have hs1:Ee m b=1:=by
      unfold Ee
      cases hl:m.bls.length with
      | zero=>rfl
      | succ n=>rw[EO,if_neg (fun hh=>by omega)]
     rw[hs1] at hkb
     rw[hkb,Nat.add_sub_cancel] at h2
     omega
    ·exact cg s2 m.bls.length 1 (by omega) (by rw[← show k=b+EO m b m.bls.length 1 from hkb]; exact hkl) (by rw[← show k=b+EO m b m.bls.length 1 from hkb]; exact hk')
   ·rw[if_neg k2]; exact h2
  ·exact h
 ·exact h
theorem SL.sN (h:SL m) (b y:Int):SL (Ls m b y).2:=by
 unfold Ls
 split
 ·intro k hk
  have hk':((VH m.bls b.toNat y (Ee m b.toNat)).getD k (0,0)).1=3:=hk
  show 1≤k∧(((VH m.bls b.toNat y (Ee m b.toNat)).getD (k-1) (0,0)).1=2∨((VH m.bls b.toNat y (Ee m b.toNat)).getD (k-1) (0,0)).1=3)
  rw[Vz] at hk' ⊢
  exact h k hk'
 ·exact h
theorem SL.place (h:SL m) (x r d c:Int):SL (Br m x r d c).2.2:=h.CT (bI _ x r d c)
theorem SL.one (h:SL m) (b:Nat) (s:Int):SL (CN m b s):=h.YU _ _ _ _ _ _ (by decide) (.inl rfl)
theorem kU (h:SL m) (s:Int):SL (Sd m s):=by
 unfold Sd; split
 ·exact h.one _ _
 ·exact h
theorem Vx (h:SL m) (l:List (Nat × Nat)):SL (B1 m a l).2.1:=by
 unfold B1; split
 ·exact h
 ·split
  ·exact h.one _ _
  ·exact h
theorem gB (h:SL m) (v:Bool) (w:Int):SL (CA m a v w).2.1:=by
 unfold CA; split
 ·exact h
 ·split
  ·exact h.one _ _
  ·exact h
theorem rM (h:SL m) (w:Int):SL (Q6 m a w).2.1:=by
 unfold Q6; split
 ·unfold JN; split
  ·exact h.YU _ _ _ _ _ _ (by decide) (.inr ⟨rfl,rfl⟩)
  ·exact h
 split
 ·exact Vx h _
 split
 ·exact Vx h _
 split
 ·unfold P8; split
  ·exact Vx h _
  ·exact Vx h _
 split
 ·exact gB h _ _
 ·unfold Gs; split
  ·exact h
  ·split
   ·exact gB h _ _
   ·split
    ·unfold Lf; split
     ·exact h
     ·exact kU h _
    ·unfold Lf; split
     ·exact h
     ·exact kU h _
theorem lR (h:SL m) {r d c:Int} {pr:PR} (hp:SL pr.2.1):SL (Bj m a r d c pr).2.1:=by
 unfold Bj; split
 ·split
  ·split
   ·split
    ·exact hp.place _ _ _ _
    ·exact hp.place _ _ _ _
   ·exact hp
  ·exact hp
 ·exact h
theorem ru (h:SL m) (x:WU):SL (gm m a x).1:=by
 unfold gm
 split
 ·exact lR h (rM h _)
 split
 ·refine h.CT ?_
  dsimp only
  unfold OV; split <;> rfl
 split
 ·exact h
 split
 ·exact h.YU _ _ _ _ _ _ (by decide) (.inl rfl)
 split
 ·exact h.release _
 split
 ·exact h.place _ _ _ _
 split
 ·exact h.sN _ _
 ·exact h
theorem gS {x w:Nat} (h:∀ o,Start m o→2*o+sz m o≤x∨x+w≤2*o):LG m (x+w) (-1) 200 x=true:=by
 cases hf:LG m (x+w) (-1) 200 x with
 | true=>rfl
 | false=>
   exfalso
   obtain ⟨y,o,h1,h2,h3,h4⟩:=Tf hf
   unfold MH at h3
   split at h3
   ·rw[Int.toNat_natCast] at h3
    obtain ⟨s1,_,s3,s4⟩:=Qu h3
    have:=h o s1
    omega
   ·cases h3
theorem aP (hS:Sh m) {b x w:Nat} (hb:b<m.bls.length) (hs:(m.bls.getD b (0,0)).1=1) (hw:2≤w∧w≤32) (hx:x % 2=0) (h1:64*b≤x) (h2:x+w≤64*b+64) (h:∀ o,Start m o→2*o+sz m o≤x∨x+w≤2*o):Ik m (x:Int) w (-1)=0:=by
 have hwl:=hS.wl
 have d1:x/64=b:=by omega
 have d2:(x+w-1)/64=b:=by omega
 unfold Ik
 rw[Int.toNat_natCast,if_neg (by omega)]
 simp only[d1,d2]
 rw[if_pos hw.2,if_neg (by omega),if_pos (gS h)]
theorem du (hI:Inv m) (hI2:Inv2 m) {b:Nat} (hs:(m.bls.getD b (0,0)).1=0) {o:Nat} (ho:Start m o):2*o+sz m o≤64*b∨64*b+64≤2*o:=by
 obtain ⟨k1,k2⟩:=hI2.kind o ho
 have hz:=hI.size ho
 by_cases hw:sz m o≤32
 ·obtain ⟨q1,q2⟩:=k1 hw
  by_cases e:2*o/64=b
  ·rw[e,hs] at q1; cases q1
  ·omega
 ·obtain ⟨q1,q2,q3⟩:=k2 (by omega)
  by_cases e:2*o/64=b
  ·rw[e,hs] at q1; cases q1
  ·by_cases l1:b<2*o/64
   ·omega
   ·by_cases l2:b≤(2*o+sz m o-1)/64
    ·have:=q3 b (by omega) l2
     rw[hs] at this; cases this
    ·omega
theorem Ws (M:PD m) {b w:Nat} {s:Int} (hf:Hs m=some b) (hs:0≤s∧s<8) (hw:2≤w∧w≤32):Ik (CN m b s) (64*(b:Int)) w (-1)=0∧LM (CN m b s) (b:Int)=s∧(∀ k,(CN m b s).bls.getD k (0,0)=if k=b then (1,s) else m.bls.getD k (0,0)) ∧ ∃ l,CN m b s={ m with bls:=l }∧l.length=m.bls.length:=by
 obtain ⟨f1,f2,f3,f4⟩:=Hg hf
 have hnb:=M.nb
 have h0:(Bp m (b:Int) ((1:Nat):Int) 1 s 0 0).1=0:=by
  rw[show ((1:Nat):Int)=1 from rfl,dg m (by omega) (by omega) hs,if_pos ⟨f3,f4⟩]
 obtain ⟨q1,q2,q3,_,q4,l,e,el,hl⟩:=SZ h0
 have e':CN m b s={ m with bls:=l }:=e
 have hget:∀ k,(CN m b s).bls.getD k (0,0)=if k=b then (1,s) else m.bls.getD k (0,0):=by
  intro k
  rw[e']
  show l.getD k (0,0)=_
  rw[hl]
  by_cases hk:k=b
  ·rw[if_pos hk,if_pos hk]
  ·rw[if_neg hk,if_neg hk,if_neg (by omega)]
 have M1:=Si M b s
 have hbl:(CN m b s).bls.length=m.bls.length:=by rw[e']; exact el
 refine ⟨?_, ?_,hget,l,e',el⟩
 ·rw[show (64*(b:Int))=((64*b:Nat):Int) from by omega]
  refine aP M1.sh (b:=b) (by rw[hbl]; omega) (by rw[hget,if_pos rfl]) hw (by omega) (Nat.le_refl _) (by omega) fun o ho=>?_
  have ho':Start m o:=by
   unfold Start at ho ⊢
   rw[hbl] at ho
   rw[e'] at ho
   exact ho
  have hsz:sz (CN m b s) o=sz m o:=by unfold sz; rw[e']
  rw[hsz]
  have:=du M.inv M.inv2 f3 ho'
  omega
 ·unfold LM
  rw[if_pos (by rw[hbl]; omega),Int.toNat_natCast,hget,if_pos rfl]
theorem iV {b n:Nat} (h2:(m.bls.getD b (0,0)).1=2) (h3:∀ c,1≤c→c<n→(m.bls.getD (b+c) (0,0)).1=3) (hn:(m.bls.getD (b+n) (0,0)).1≠3) (hl:b+n≤m.bls.length):∀ (f x:Nat),1≤x→x≤n→n≤x+f→EO m b f x=n
 | 0,x,h1,hx,hf=>by rw[EO]; omega
 | f+1,x,h1,hx,hf=>by
   rw[EO]
   by_cases e:x=n
   ·subst e
    rw[if_neg (fun hh=>hn hh.2.2)]
   ·rw[if_pos ⟨h2,by omega,h3 x h1 (by omega)⟩]
    exact iV h2 h3 hn hl f (x+1) (by omega) (by omega) (by omega)
theorem aO (M:PD m) (C:SL m) {b w c:Nat} {s:Int} (hc:c=(w+63)/64) (hw:32<w∧w≤218) (h0:(Bp m (b:Int) (c:Int) 2 s 3 s).1=0):Ik (Bp m (b:Int) (c:Int) 2 s 3 s).2 (64*(b:Int)) w (-1)=0∧LM (Bp m (b:Int) (c:Int) 2 s 3 s).2 (b:Int)=s:=by
 obtain ⟨q1,q2,q3,_,q4,l,e,el,hl⟩:=SZ h0
 have M1:=M.YU (b:Int) (c:Int) 2 s 3 s (by decide) (.inl (by decide))
 have hwl:=M1.sh.wl
 rw[e] at M1 hwl ⊢
 have hwl':m.wds.length=64*l.length:=hwl
 have hb:l.getD b (0,0)=(2,s):=by rw[hl,if_pos rfl]
 refine ⟨?_, ?_⟩
 ·have hsp:Ee { m with bls:=l } b=c:=by
   unfold Ee
   refine iV (m:={ m with bls:=l }) (by show (l.getD b (0,0)).1=2; rw[hb]) (fun k k1 k2=>?_) ?_ (by show b+c≤l.length; omega) _ _ (Nat.le_refl _) q2 (by show c≤1+l.length; omega)
   ·show (l.getD (b+k) (0,0)).1=3
    rw[hl,if_neg (by omega),if_pos (by omega)]
   ·show (l.getD (b+c) (0,0)).1≠3
    rw[hl,if_neg (by omega),if_neg (by omega)]
    intro h3
    obtain ⟨_,h4⟩:=C _ h3
    rw[q4 (b+c-1) (by omega) (by omega)] at h4
    rcases h4 with h4 | h4 <;> cases h4
  have t1:((64*(b:Int))).toNat=64*b:=by omega
  have d1:64*b/64=b:=by omega
  unfold Ik
  rw[t1,if_neg (show ¬ ¬ (0≤64*(b:Int)∧64*(b:Int)<((m.wds.length:Nat):Int)∧64*b % 2=0) by omega)]
  simp only[d1]
  rw[if_neg (by omega),hsp,if_neg (show ¬ ((l.getD b (0,0)).1≠2∨64*b % 64≠0∨c≠(w+63)/64) by rw[hb]; omega),if_pos]
  refine gS fun o ho=>?_
  have ho':Start m o:=by
   unfold Start at ho ⊢
   rw[← el]; exact ho
  have hsz:sz { m with bls:=l } o=sz m o:=rfl
  rw[hsz]
  have hall:∀ k,k<c→2*o+sz m o≤64*(b+k)∨64*(b+k)+64≤2*o:=fun k hk=>du M.inv M.inv2 (by rw[q4 (b+k) (by omega) (by omega)]) ho'
  have hz:=M.inv.size ho'
  by_cases hlo:2*o+sz m o≤64*b
  ·exact .inl hlo
  ·right
   have step:∀ k,k<c→64*(b+k)+64≤2*o:=by
    intro k
    induction k with
    | zero=>intro hk; have:=hall 0 hk; omega
    | succ k ih=>intro hk; have h1:=ih (by omega); have h2:=hall (k+1) hk; omega
   have:=step (c-1) (by omega)
   omega
 ·unfold LM
  rw[if_pos (by show 0≤(b:Int)∧(b:Int)<(l.length:Int); omega),Int.toNat_natCast]
  show (l.getD b (0,0)).2=s
  rw[hb]
theorem jZ {c:Nat} {s:Int}:∀ {n x b:Nat},cC m c s n x=some b→(Bp m (b:Int) (c:Int) 2 s 3 s).1=0
 | 0,x,b,h=>by cases h
 | n+1,x,b,h=>by
   unfold cC at h
   split at h
   ·split at h
    ·rename_i q; cases h; exact q
    ·exact jZ h
   ·cases h
end Go.Proofs.YtlaplcglpnlieaaGreat
end
section
namespace Go.Proofs.YtlaplcglpnlieaaGreat
open Go Go.AX
noncomputable local instance vN:AF:=Au
local instance uD:Kn:=⟨true⟩
variable {σ:Aa} {m:HM} {i:Cs} {ab:Nat} {a:AS}
def nr (m m1:HM) (s w:Int):Prop:=∃ (b c:Nat) (l:List (Int × Int)),m1={ m with bls:=l }∧l.length=m.bls.length∧b+c≤m.bls.length∧(∀ k,b≤k→k<b+c→m.bls.getD k (0,0)=(0,0))∧(∀ k,(b≤k∧k<b+c→(l.getD k (0,0)).1≠0∧(l.getD k (0,0)).2=s)∧(¬ (b≤k∧k<b+c)→l.getD k (0,0)=m.bls.getD k (0,0)))∧(w≤32→c≤1)∧(32<w→c=(w.toNat+63)/64)
theorem nr.refl (m:HM) (s:Int) {w:Int} (hw:w≤32):nr m m s w:=⟨0,0,m.bls,rfl,rfl,by omega,fun k h1 h2=>by omega,fun k=>⟨fun h=>by omega,fun _=>rfl⟩,fun _=>by omega,fun h=>by omega⟩
theorem nr.fresh (M:PD m) {b:Nat} {s w:Int} (hf:Hs m=some b) (hs:0≤s∧s<8) (hw:w≤32):nr m (CN m b s) s w:=by
 obtain ⟨_,_,hg,l,e,el⟩:=Ws M (w:=2) hf hs (by omega)
 obtain ⟨f1,f2,f3,f4⟩:=Hg hf
 refine ⟨b,1,l,e,el,by have:=M.nb; omega,fun k h1 h2=>?_,fun k=>?_,fun _=>by omega,fun h=>by omega⟩
 ·rw[show k=b from by omega]
  exact Prod.ext f3 f4
 ·have hk:=hg k
  rw[e] at hk
  have hk':l.getD k (0,0)=if k=b then (1,s) else m.bls.getD k (0,0):=hk
  rw[hk']
  refine ⟨fun h=>?_,fun h=>?_⟩
  ·rw[if_pos (by omega)]; exact ⟨by dsimp only; decide,rfl⟩
  ·rw[if_neg (by omega)]
theorem nr.sD {b c:Nat} {s w:Int} (hc:c=(w.toNat+63)/64) (hw:32<w) (h0:(Bp m (b:Int) (c:Int) 2 s 3 s).1=0):nr m (Bp m (b:Int) (c:Int) 2 s 3 s).2 s w:=by
 obtain ⟨q1,q2,q3,_,q4,l,e,el,hl⟩:=SZ h0
 refine ⟨b,c,l,e,el,q3,q4,fun k=>⟨fun h=>?_,fun h=>?_⟩,fun h=>by omega,fun _=>hc⟩
 ·rw[hl]
  by_cases hk:k=b
  ·rw[if_pos hk]; exact ⟨by dsimp only; decide,rfl⟩
  ·rw[if_neg hk,if_pos h]; exact ⟨by dsimp only; decide,rfl⟩
 ·rw[hl,if_neg (by omega),if_neg h]
theorem T9 (m:HM) (a:AS) (l:List (Nat × Nat)):(B1 m a l).2.1=m ∨ ∃ b,Hs m=some b∧(B1 m a l).2.1=CN m b a.s∧(B1 m a l).1=(64*(b:Int),true):=by
 unfold B1
 split
 ·exact .inl rfl
 ·split
  ·rename_i b hb; exact .inr ⟨b,hb,rfl,rfl⟩
  ·exact .inl rfl
theorem YS (m:HM) (a:AS) (v:Bool) (w:Int):(CA m a v w).2.1=m ∨ ∃ b,Hs m=some b∧(CA m a v w).2.1=CN m b a.s∧(CA m a v w).1=(64*(b:Int),true):=by
 unfold CA
 split
 ·exact .inl rfl
 ·split
  ·rename_i b hb; exact .inr ⟨b,hb,rfl,rfl⟩
  ·exact .inl rfl
theorem fy (m:HM) (a:AS) (w:Int):(Gs m a w).2.1=m ∨ ∃ b,Hs m=some b∧(Gs m a w).2.1=CN m b a.s∧(Gs m a w).1=(64*(b:Int),true):=by
 unfold Gs
 split
 ·exact .inl rfl
 split
 ·exact YS m a true w
 unfold Lf JZ
 cases hh:Nz m a.l (Bg m a.s m.bls.length) with
 | some g=>left; dsimp only; split <;> rfl
 | none=>
   unfold Wn Sd
   cases hb:Hs m with
   | some b=>right; exact ⟨b,rfl,rfl,rfl⟩
   | none=>left; rfl
theorem ie (m:HM) (a:AS) (w:Nat):(P8 m a w).2.1=m ∨ ∃ b,Hs m=some b∧(P8 m a w).2.1=CN m b a.s∧(P8 m a w).1=(64*(b:Int),true):=by
 have h:=T9 m a (Bx m a.s a.c.toNat w++Bx m a.s 0 w)
 unfold P8
 split
 ·exact h
 ·exact h
theorem dU (m:HM) (a:AS) (w:Int):(w≤32∧(Q6 m a w).2.1=m)∨(w≤32 ∧ ∃ b,Hs m=some b∧(Q6 m a w).2.1=CN m b a.s∧(Q6 m a w).1=(64*(b:Int),true)) ∨
  (32<w ∧ ∃ b,cC m ((w.toNat+63)/64) a.s m.bls.length 1=some b∧(Q6 m a w).2.1=(Bp m (b:Int) (((w.toNat+63)/64:Nat):Int) 2 a.s 3 a.s).2∧(Q6 m a w).1=(64*(b:Int),true)∧(Q6 m a w).2.2=a)∨(32<w∧cC m ((w.toNat+63)/64) a.s m.bls.length 1=none∧Q6 m a w=((0,false),m,a)):=by
 unfold Q6
 by_cases h:w>32
 ·rw[if_pos h]
  unfold JN
  right; right
  cases hl:cC m ((w.toNat+63)/64) a.s m.bls.length 1 with
  | some b=>exact .inl ⟨h,b,rfl,rfl,rfl,rfl⟩
  | none=>exact .inr ⟨h,rfl,rfl⟩
 rw[if_neg h]
 have key:∀ {x:PR},(x.2.1=m ∨ ∃ b,Hs m=some b∧x.2.1=CN m b a.s∧x.1=(64*(b:Int),true))→(w≤32∧x.2.1=m)∨(w≤32 ∧ ∃ b,Hs m=some b∧x.2.1=CN m b a.s∧x.1=(64*(b:Int),true)) ∨
   (32<w ∧ ∃ b,cC m ((w.toNat+63)/64) a.s m.bls.length 1=some b∧x.2.1=(Bp m (b:Int) (((w.toNat+63)/64:Nat):Int) 2 a.s 3 a.s).2∧x.1=(64*(b:Int),true)∧x.2.2=a)∨(32<w∧cC m ((w.toNat+63)/64) a.s m.bls.length 1=none∧x=((0,false),m,a)):=fun hx=>by
  rcases hx with hx | hx
  ·exact .inl ⟨by omega,hx⟩
  ·exact .inr (.inl ⟨by omega,hx⟩)
 split
 ·exact key (T9 m a _)
 split
 ·exact key (T9 m a _)
 split
 ·exact key (ie m a _)
 split
 ·exact key (YS m a _ _)
 ·exact key (fy m a _)
theorem V0 {r d c:Int} (hv:valid r d c=true):words r d c=(PS (num r d c):Int):=by
 obtain ⟨p1,p2,p3,_⟩:=MM hv
 rw[ZN,p1,p2,p3]
structure qM (m:HM) (a:AS) (r d c:Int) (st:(Int × Int) × HM × AS) (m1:HM) (j:Nat):Prop where
 ok:st.1.2=0
 v:valid r d c=true
 cl:nr m m1 a.s (words r d c)
 M1:PD m1
 ad:st.1.1=((2*j:Nat):Int)
 fits:Ik m1 ((2*j:Nat):Int) (PS (num r d c)) (-1)=0
 jl:j<32*m1.bls.length
 ap:∀ o,Start m1 o→2*o+sz m1 o≤2*j∨2*j+PS (num r d c)≤2*o
 sp:LM m1 (((2*j:Nat):Int).tdiv 64)=a.s
 res:st.2.1=Dj m1 j (num r d c)
theorem pL (M:PD m) (C:SL m) (ho:a.ok) (r d c:Int):((Uq m a r d c).1.2≠0∧(Uq m a r d c).1.1=0∧(Uq m a r d c).2=(m,a)) ∨ ∃ m1 j,qM m a r d c (Uq m a r d c) m1 j:=by
 by_cases hv:valid r d c=true
 rotate_left
 ·left
  unfold Uq Bj
  rw[if_neg hv]
  simp
 have hw0:=G1 hv
 have hsz:=V0 hv
 have hs0:=ho.s0
 obtain ⟨W,hW⟩:∃ W,PS (num r d c)=W:=⟨_,rfl⟩
 rw[hW] at hsz
 have pok:=kr (m:=m) (a:=a) M.inv M.inv2 M.nt ho (w:=words r d c) (by omega)
 have M1:=lB (a:=a) M (words r d c)
 have good:∀ {pr:PR},nr m pr.2.1 a.s (words r d c)→PD pr.2.1→pr.1.2=true→LM pr.2.1 (pr.1.1.tdiv 64)=a.s→(Br pr.2.1 pr.1.1 r d c).2.1=0 → ∃ m1 j,qM m a r d c (Bj m a r d c pr) m1 j:=by
  intro pr hcl hM1 h1 h2 h3
  have hf:Ik pr.2.1 pr.1.1 (PS (num r d c)) (-1)=0∧(Br pr.2.1 pr.1.1 r d c).2.2=Dj pr.2.1 (pr.1.1.toNat/2) (num r d c):=by
   unfold Br at h3 ⊢
   rw[if_pos hv] at h3 ⊢
   split at h3
   ·rename_i q; rw[if_pos q]; exact ⟨q,rfl⟩
   ·rename_i q; exact absurd h3 q
  obtain ⟨j,e1,e2,e3,e4⟩:=hM1.inv.fits hM1.sh.wl (by omega) (by omega) hf.1
  refine ⟨pr.2.1,j, ?_⟩
  have e:Bj m a r d c pr=((pr.1.1,0),(Br pr.2.1 pr.1.1 r d c).2.2,pr.2.2):=by
   unfold Bj
   rw[if_pos hv,if_pos h1,if_pos h2,if_pos h3]
  rw[e]
  refine ⟨rfl,hv,hcl,hM1,e1,by rw[← e1]; exact hf.1,e2,fun o ho=>e4 o ho (by omega),by rw[← e1]; exact h2, ?_⟩
  show (Br pr.2.1 pr.1.1 r d c).2.2=_
  rw[hf.2,e1]
  congr 1
  omega
 unfold Uq
 rcases dU m a (words r d c) with ⟨h1,h2⟩ | ⟨h1,b,h2,h3,h4⟩ | ⟨h1,b,h2,h3,h4,_⟩ | ⟨h1,_,h2⟩
 ·
  obtain ⟨pr,hpr⟩:∃ pr,Q6 m a (words r d c)=pr:=⟨_,rfl⟩
  rw[hpr] at h2 pok M1 ⊢
  by_cases q1:pr.1.2=true
  rotate_left
  ·left
   have e:=pok.no (by simpa using q1)
   unfold Bj
   rw[if_pos hv,if_neg q1]
   exact ⟨by dsimp only; decide,rfl,e⟩
  by_cases q2:LM pr.2.1 (pr.1.1.tdiv 64)=a.s
  rotate_left
  ·left
   unfold Bj
   rw[if_pos hv,if_pos q1,if_neg q2]
   exact ⟨by dsimp only; decide,rfl,by rw[h2]⟩
  by_cases q3:(Br pr.2.1 pr.1.1 r d c).2.1=0
  ·right
   exact good (by rw[h2]; exact nr.refl m a.s h1) M1 q1 q2 q3
  ·left
   unfold Bj
   rw[if_pos hv,if_pos q1,if_pos q2,if_neg q3]
   exact ⟨by dsimp only; decide,rfl,by rw[((fG _ _ _ _ _).2 q3).2,h2]⟩
 ·right
  obtain ⟨f1,f2,_⟩:=Ws M (w:=W) h2 hs0 (by omega)
  obtain ⟨pr,hpr⟩:∃ pr,Q6 m a (words r d c)=pr:=⟨_,rfl⟩
  rw[hpr] at h3 h4 M1 ⊢
  refine good (by rw[h3]; exact nr.fresh M h2 hs0 h1) M1 (by rw[h4]) ?_ ?_
  ·rw[h3,h4]
   show LM _ ((64*(b:Int)).tdiv 64)=_
   rw[Int.mul_tdiv_cancel_left _ (by decide)]
   exact f2
  ·unfold Br
   rw[if_pos hv,hW,h3,h4,if_pos f1]
 ·right
  have hok:=jZ h2
  obtain ⟨f1,f2⟩:=aO M C (w:=W) (c:=(words r d c).toNat.add 63/64) (by rw[hsz]; rfl) (by omega) hok
  obtain ⟨pr,hpr⟩:∃ pr,Q6 m a (words r d c)=pr:=⟨_,rfl⟩
  rw[hpr] at h3 h4 M1 ⊢
  refine good (by rw[h3]; exact nr.sD rfl h1 hok) M1 (by rw[h4]) ?_ ?_
  ·rw[h3,h4]
   show LM _ ((64*(b:Int)).tdiv 64)=_
   rw[Int.mul_tdiv_cancel_left _ (by decide)]
   exact f2
  ·unfold Br
   rw[if_pos hv,hW,h3,h4]
   exact if_pos f1 ▸ rfl
 ·left
  rw[h2]
  unfold Bj
  rw[if_pos hv]
  simp
end Go.Proofs.YtlaplcglpnlieaaGreat
end
section
namespace Go.Proofs.YtlaplcglpnlieaaGreat
open Go Go.AX
noncomputable local instance vO:AF:=Au
local instance uE:Kn:=⟨true⟩
variable {σ:Aa} {m:HM} {i:Cs} {ab:Nat} {a:AS}
def sW (m:HM) (c b:Nat):Prop:=1≤b∧b+c≤m.bls.length ∧ ∀ k,b≤k→k<b+c→(m.bls.getD k (0,0)).1=0
theorem aR (hz:FZ m) {c:Nat}:∀ {n x b:Nat},1≤x→cA m c n x=some b→sW m c b
 | 0,x,b,hx,h=>by cases h
 | n+1,x,b,hx,h=>by
   unfold cA at h
   split at h
   ·rename_i q
    split at h
    ·rename_i u
     cases h
     refine ⟨hx,q,fun k h1 h2=>?_⟩
     have:=(PT hz c 0).1 u (k-x) (by omega) (by omega)
     rwa [show x+(k-x)=k from by omega] at this
    ·exact aR hz (by omega) h
   ·cases h
theorem aQ (hz:FZ m) {c:Nat}:∀ {n x:Nat},cA m c n x=none→m.bls.length≤x+n → ∀ b,x≤b→1≤c→¬ sW m c b
 | 0,x,h,hn,b,hb,hc=>fun ⟨_,h2,_⟩=>by omega
 | n+1,x,h,hn,b,hb,hc=>by
   rintro ⟨h1,h2,h3⟩
   unfold cA at h
   rw[if_pos (by omega)] at h
   split at h
   ·cases h
   ·rename_i u
    by_cases e:b=x
    ·subst e
     exact u ((PT hz c 0).2 fun k k1 k2=>h3 (b+k) (by omega) (by omega))
    ·exact aQ hz h (by omega) b (by omega) hc ⟨h1,h2,h3⟩
def qT (m:HM):Nat→Nat→Nat→Nat→Nat
 | 0,_,_,mo=>mo
 | n+1,x,run,mo=>qT m n (x+1) (if (m.bls.getD x (0,0)).1=0 then run+1 else 0) (max mo (if (m.bls.getD x (0,0)).1=0 then run+1 else 0))
theorem bC {c:Nat} (hc:1≤c):∀ (n x run mo:Nat),x+n=m.bls.length→1≤x→run<x→(∀ k,x-run≤k→k<x→(m.bls.getD k (0,0)).1=0)→(x-run=1∨(m.bls.getD (x-run-1) (0,0)).1≠0) →
  (c≤qT m n x run mo↔c≤mo ∨ ∃ b,x<b+c∧sW m c b)
 | 0,x,run,mo,hx,h1,hr,hf,he=>by
   rw[qT]
   constructor
   ·exact .inl
   ·rintro (h | ⟨b,h2,_,h3,_⟩)
    ·exact h
    ·omega
 | n+1,x,run,mo,hx,h1,hr,hf,he=>by
   rw[qT]
   by_cases q:(m.bls.getD x (0,0)).1=0
   ·rw[if_pos q,bC hc n (x+1) (run+1) _ (by omega) (by omega) (by omega) (fun k k1 k2=>by
     by_cases e:k=x
     ·rw[e]; exact q
     ·exact hf k (by omega) (by omega)) (by rw[show x+1-(run+1)=x-run from by omega]; exact he)]
    constructor
    ·rintro (h | ⟨b,h2,h3⟩)
     ·by_cases h4:c≤mo
      ·exact .inl h4
      ·refine .inr ⟨x+1-c,by omega,by omega,by omega,fun k k1 k2=>?_⟩
       by_cases e:k=x
       ·rw[e]; exact q
       ·exact hf k (by omega) (by omega)
     ·exact .inr ⟨b,by omega,h3⟩
    ·rintro (h | ⟨b,h2,h3⟩)
     ·exact .inl (by omega)
     ·by_cases e:x+1<b+c
      ·exact .inr ⟨b,e,h3⟩
      ·refine .inl ?_
       obtain ⟨b1,b2,b3⟩:=h3
       by_cases h4:c≤run+1
       ·omega
       ·exfalso
        rcases he with he | he
        ·omega
        ·exact he (b3 (x-run-1) (by omega) (by omega))
   ·rw[if_neg q,bC hc n (x+1) 0 _ (by omega) (by omega) (by omega) (fun k k1 k2=>by omega) (.inr (by rw[show x+1-0-1=x from by omega]; exact q))]
    constructor
    ·rintro (h | ⟨b,h2,h3⟩)
     ·exact .inl (by omega)
     ·exact .inr ⟨b,by omega,h3⟩
    ·rintro (h | ⟨b,h2,h3⟩)
     ·exact .inl (by omega)
     ·by_cases e:x+1<b+c
      ·exact .inr ⟨b,e,h3⟩
      ·exact absurd (h3.2.2 x (by omega) (by omega)) q
def N2 (m:HM):Nat:=qT m (m.bls.length-1) 1 0 0
theorem Sy (M:PD m) {c:Nat} (hc:1≤c):c≤N2 m ↔ ∃ b,sW m c b:=by
 have hnb:=M.nb
 unfold N2
 rw[bC hc _ 1 0 0 (by omega) (Nat.le_refl _) (by omega) (fun k k1 k2=>by omega) (.inl rfl)]
 constructor
 ·rintro (h | ⟨b,_,h⟩)
  ·omega
  ·exact ⟨b,h⟩
 ·rintro ⟨b,h⟩
  exact .inr ⟨b,by have:=h.1; omega,h⟩
theorem oF (M:PD m):N2 m≤64:=by
 have hnt:=M.nt
 by_cases h:N2 m=0
 ·omega
 ·obtain ⟨b,_,h2,_⟩:=(Sy M (c:=N2 m) (by omega)).1 (Nat.le_refl _)
  omega
theorem Yy (M:PD m):Hs m=none↔N2 m=0:=by
 have hnb:=M.nb
 unfold Hs
 rw[Wv _ _ (by omega)]
 constructor
 ·intro h
  by_cases e:N2 m=0
  ·exact e
  ·exfalso
   obtain ⟨b,hb⟩:=(Sy M (c:=1) (Nat.le_refl _)).1 (by omega)
   exact aQ M.fz h (by omega) b hb.1 (Nat.le_refl _) hb
 ·intro h
  cases e:cA m 1 (m.bls.length-1+1) 1 with
  | none=>rfl
  | some b=>
    have:=(Sy M (c:=1) (Nat.le_refl _)).2 ⟨b,aR M.fz (Nat.le_refl _) e⟩
    omega
theorem kg (M:PD m) {c:Nat} {s:Int} (hs:0≤s∧s<8) (hc:1≤c):cC m c s m.bls.length 1=none↔N2 m<c:=by
 rw[bp hs hc _ _ (Nat.le_refl _)]
 constructor
 ·intro h
  by_cases e:c≤N2 m
  ·exfalso
   obtain ⟨b,hb⟩:=(Sy M hc).1 e
   exact aQ M.fz h (by omega) b hb.1 hc hb
  ·omega
 ·intro h
  cases e:cA m c m.bls.length 1 with
  | none=>rfl
  | some b=>
    have:=(Sy M hc).2 ⟨b,aR M.fz (Nat.le_refl _) e⟩
    omega
theorem cn (m:HM) (lo n:Nat):(Cf m lo n).Pairwise (·<·):=(List.pairwise_lt_range' (step:=1) (by decide)).filter _
theorem aW (hI:Inv m) {E:Nat}:∀ (L:List Nat) (p:Nat),L.Pairwise (·<·)→(∀ o ∈ L,Start m o∧p≤2*o∧2*o<E)→p % 2=0→(∀ o,Start m o→o ∈ L∨2*o+sz m o≤p∨E≤2*o) →
  (∀ g ∈ (Eb m L p).1,g.1 % 2=0 ∧ ∀ o,Start m o→2*o+sz m o≤g.1∨g.1+g.2≤2*o)∧(Eb m L p).2 % 2=0∧(∀ o,Start m o→2*o+sz m o≤(Eb m L p).2∨E≤2*o)
 | [],p,_,_,hp,hall=>⟨fun g hg=>by simp[Eb] at hg,hp,fun o ho=>by
   rcases hall o ho with h | h
   ·simp at h
   ·exact h⟩
 | j::L,p,hs,hL,hp,hall=>by
   have pc:=List.pairwise_cons.1 hs
   obtain ⟨s1,s2,s3⟩:=hL j (by simp)
   have hz:=hI.size s1
   obtain ⟨i1,i2,i3⟩:=aW hI (E:=E) L (2*j+sz m j) pc.2 (fun o ho=>by
    obtain ⟨t1,_,t3⟩:=hL o (by simp[ho])
    exact ⟨t1,hI.apart j o s1 t1 (pc.1 o ho),t3⟩) (by omega) (fun o ho=>by
    rcases hall o ho with h | h | h
    ·rcases List.mem_cons.1 h with rfl | h
     ·exact .inr (.inl (Nat.le_refl _))
     ·exact .inl h
    ·exact .inr (.inl (by omega))
    ·exact .inr (.inr h))
   rw[Eb]
   refine ⟨fun g hg=>?_,i2,i3⟩
   rcases List.mem_append.1 hg with h | h
   ·unfold Ip at h
    split at h
    ·rw[List.mem_singleton.1 h]
     refine ⟨hp,fun o ho=>?_⟩
     dsimp only
     rcases hall o ho with h | h | h
     ·rcases List.mem_cons.1 h with rfl | h
      ·right; omega
      ·right; have:=pc.1 o h; omega
     ·exact .inl h
     ·right; omega
    ·simp at h
   ·exact i1 g h
theorem gX (M:PD m) {b:Nat} {g:Nat × Nat} (hb:b<m.bls.length) (hu:(m.bls.getD b (0,0)).1=1) (hg:g ∈ EN m (b:Int)):g.1 % 2=0 ∧ ∀ o,Start m o→2*o+sz m o≤g.1∨g.1+g.2≤2*o:=by
 have hI:=M.inv
 unfold EN at hg
 rw[if_pos (by unfold Ih; rw[if_pos (by omega),Int.toNat_natCast]; exact hu),Int.toNat_natCast] at hg
 unfold YW at hg
 have hout:∀ o,Start m o→o ∈ Cf m (32*b) 32∨2*o+sz m o≤64*b∨64*b+64≤2*o:=fun o ho=>by
  by_cases h1:32*b≤o∧o<32*b+32
  ·exact .inl (Hj.2 ⟨h1.1,h1.2,ho.2⟩)
  ·obtain ⟨k1,k2⟩:=M.inv2.kind o ho
   have hz:=hI.size ho
   right
   by_cases h2:64*b+64≤2*o
   ·exact .inr h2
   ·left
    by_cases hw:sz m o≤32
    ·obtain ⟨q1,q2⟩:=k1 hw; omega
    ·obtain ⟨q1,q2,q3⟩:=k2 (by omega)
     by_cases l2:b≤(2*o+sz m o-1)/64
     ·have:=q3 b (by omega) l2
      rw[hu] at this; cases this
     ·omega
 obtain ⟨i1,i2,i3⟩:=aW hI (E:=64*b+64) (Cf m (32*b) 32) (64*b) (cn m _ _) (fun o ho=>by
  have:=Hj.1 ho
  exact ⟨⟨by omega,this.2.2⟩,by omega,by omega⟩) (by omega) hout
 rcases List.mem_append.1 hg with h | h
 ·exact i1 g h
 ·unfold Ip at h
  split at h
  ·rw[List.mem_singleton.1 h]
   refine ⟨i2,fun o ho=>?_⟩
   dsimp only
   rcases i3 o ho with h | h
   ·exact .inl h
   ·right; omega
  ·simp at h
theorem nX (M:PD m) {b x w:Nat} {g:Nat × Nat} (hb:b<m.bls.length) (hu:(m.bls.getD b (0,0)).1=1) (hg:g ∈ EN m (b:Int)) (hx:x % 2=0) (h1:g.1≤x) (h2:x+w≤g.1+g.2) (hw:2≤w∧w≤32):Ik m (x:Int) w (-1)=0:=by
 obtain ⟨g1,g2⟩:=gX M hb hu hg
 obtain ⟨h3,h4,h5⟩:=(Sr M.inv M.inv2 M.sh.wl b hb).2 g hg
 exact aP M.sh hb hu hw hx (by omega) (by omega) fun o ho=>by have:=g2 o ho; omega
def Ev (a:AS):Prop:=a.c % 2=0
theorem bB {s:Int} {f w:Nat} {g':Nat × Nat} (h:g' ∈ Bx m s f w):∃ g,g ∈ MI m s∧w≤g.1+g.2-max f g.1∧g'=(max f g.1,g.1+g.2-max f g.1):=by
 unfold Bx at h
 obtain ⟨g,h1,h2⟩:=List.mem_filterMap.1 h
 unfold J1 at h2
 split at h2
 ·rename_i q; cases h2; exact ⟨g,h1,q,rfl⟩
 ·cases h2
theorem Tg (M:PD m) {s:Int} {g:Nat × Nat} (h:g ∈ MI m s):g.1 % 2=0:=by
 obtain ⟨b,h1,h2,_,_,_,_,h7⟩:=gY M M.sh.wl h
 exact (gX M h1 h2 h7).1
theorem jb (M:PD m) {l:List (Nat × Nat)} (hl:∀ g ∈ l,g.1 % 2=0):(B1 m a l).1.1 % 2=0:=by
 unfold B1
 split
 ·have:=hl _ (List.mem_cons_self); dsimp only; omega
 ·split
  ·dsimp only; omega
  ·rfl
theorem rN (M:PD m) (ho:a.ok) (h:Ev a) {w:Int} (hw:w % 2=0):Ev (Q6 m a w).2.2:=by
 unfold Ev at *
 unfold Q6
 split
 ·unfold JN; split <;> exact h
 split
 ·rw[Ve]; exact h
 split
 ·unfold g7; rw[Ve]; exact h
 split
 ·unfold P8
  split
  ·have he:=jb (a:=a) M (l:=Bx m a.s a.c.toNat w.toNat++Bx m a.s 0 w.toNat) (fun g hg=>by
    have hc0:=ho.c0
    rcases List.mem_append.1 hg with hg | hg
    ·obtain ⟨g0,h1,_,rfl⟩:=bB hg
     have:=Tg M h1
     dsimp only; omega
    ·exact Tg M (Yx.1 hg).1)
   show ((B1 m a (Bx m a.s a.c.toNat w.toNat++Bx m a.s 0 w.toNat)).1.1+(w.toNat:Int)) % 2=0
   omega
  ·rw[Ve]; exact h
 split
 ·unfold CA
  split
  ·show (a.c+w) % 2=0; omega
  ·split
   ·rename_i b _; show (64*(b:Int)+w) % 2=0; omega
   ·exact h
 ·unfold Gs
  split
  ·show (a.c+w) % 2=0; omega
  split
  ·unfold CA
   split
   ·exact h
   ·split
    ·exact h
    ·exact h
  split
  ·show ((JZ m a).1+w) % 2=0
   have:(JZ m a).1 % 2=0:=by
    unfold JZ Wn
    split
    ·dsimp only; omega
    ·split
     ·dsimp only; omega
     ·rfl
   omega
  ·exact h
theorem ry (M:PD m) (ho:a.ok) (h:Ev a) (x:WU):Ev (gm m a x).2:=by
 unfold gm
 split
 ·unfold Uq Bj
  split
  ·rename_i hv
   have hp:=rN M ho h (w:=words x.r x.d x.c) (by have:=G1 hv; omega)
   split
   ·split
    ·split
     ·exact hp
     ·exact h
    ·exact h
   ·exact hp
  ·exact h
 split
 ·exact h
 split
 ·rfl
 split
 ·exact h
 split
 ·exact h
 split
 ·exact h
 split
 ·exact h
 ·exact h
end Go.Proofs.YtlaplcglpnlieaaGreat
end
section
namespace Go.Proofs.YtlaplcglpnlieaaGreat
open Go Go.AX
noncomputable local instance vP:AF:=Au
local instance uF:Kn:=⟨true⟩
variable {σ:Aa} {m:HM} {i:Cs} {ab:Nat} {a:AS}
theorem fj {r d c:Int} {pr:PR} (hv:valid r d c=true) (h1:pr.1.2=true) (h2:LM pr.2.1 (pr.1.1.tdiv 64)=a.s) (h3:Ik pr.2.1 pr.1.1 (PS (num r d c)) (-1)=0):(Bj m a r d c pr).1.2=0:=by
 have h4:(Br pr.2.1 pr.1.1 r d c).2.1=0:=by unfold Br; rw[if_pos hv,if_pos h3]
 unfold Bj
 rw[if_pos hv,if_pos h1,if_pos h2,if_pos h4]
theorem kY {r d c:Int} {pr:PR} (hv:valid r d c=true) (h1:pr.1.2=false):(Bj m a r d c pr).1.2=6:=by
 unfold Bj
 rw[if_pos hv,if_neg (by rw[h1]; decide)]
theorem aA (M:PD m) (ho:a.ok) {r d c:Int} {pr:PR} {b:Nat} (hv:valid r d c=true) (hw:words r d c≤32) (hf:Hs m=some b) (h1:pr.1=(64*(b:Int),true)) (h2:pr.2.1=CN m b a.s):(Bj m a r d c pr).1.2=0:=by
 have hsz:=V0 hv
 have hw0:=G1 hv
 obtain ⟨f1,f2,_⟩:=Ws M (w:=PS (num r d c)) hf ho.s0 (by omega)
 refine fj hv (by rw[h1]) ?_ ?_
 ·rw[h1,h2]
  show LM _ ((64*(b:Int)).tdiv 64)=_
  rw[Int.mul_tdiv_cancel_left _ (by decide)]; exact f2
 ·rw[h1,h2]; exact f1
theorem nZ {r d c:Int} (hv:valid r d c=false):(Uq m a r d c).1.2=2:=by
 unfold Uq Bj
 rw[if_neg (by rw[hv]; decide)]
theorem jM (M:PD m) (C:SL m) (ho:a.ok) {r d c:Int} (hv:valid r d c=true) (hw:32<words r d c):(Uq m a r d c).1.2=6↔(N2 m:Int)*64<words r d c:=by
 have hsz:=V0 hv
 have hw0:=G1 hv
 obtain ⟨W,hW⟩:∃ W:Nat,words r d c=(W:Int):=⟨(words r d c).toNat,by omega⟩
 have hml:=kg M (c:=(W+63)/64) (s:=a.s) ho.s0 (by omega)
 have hc:=dU m a (words r d c)
 unfold Uq
 rw[hW] at hw hw0 hsz hc ⊢
 rw[Int.toNat_natCast] at hc
 rcases hc with ⟨h1,_⟩ | ⟨h1,_⟩ | ⟨h1,b,h2,h3,h4,_⟩ | ⟨h1,h2,h3⟩
 ·omega
 ·omega
 ·have hok:=jZ h2
  obtain ⟨f1,f2⟩:=aO M C (w:=PS (num r d c)) (c:=(W+63)/64) (by omega) (by omega) hok
  have hn:¬ N2 m<(W+63)/64:=fun hh=>by rw[hml.2 hh] at h2; cases h2
  have e:(Bj m a r d c (Q6 m a (W:Int))).1.2=0:=by
   refine fj hv (by rw[h4]) ?_ ?_
   ·rw[h3,h4]
    show LM _ ((64*(b:Int)).tdiv 64)=_
    rw[Int.mul_tdiv_cancel_left _ (by decide)]; exact f2
   ·rw[h3,h4]; exact f1
  rw[e]
  constructor
  ·intro hh; cases hh
  ·intro hh; omega
 ·have hlt:=hml.1 h2
  rw[kY hv (by rw[h3])]
  exact ⟨fun _=>by omega,fun _=>rfl⟩
theorem jN (M:PD m) (ho:a.ok) (hev:Ev a) {r d c:Int} (hv:valid r d c=true) (hw:words r d c≤32) (hp:a.p=0∨a.p=1∨a.p=2):(Uq m a r d c).1.2=6↔(N2 m=0∧((MI m a.s).any fun g=>decide ((g.2:Int)≥words r d c))=false):=by
 have hsz:=V0 hv
 have hw0:=G1 hv
 have hc0:=ho.c0
 obtain ⟨W,hW⟩:∃ W:Nat,words r d c=(W:Int):=⟨(words r d c).toNat,by omega⟩
 unfold Uq
 rw[hW] at hw hw0 hsz ⊢
 have hgood:∀ {g:Nat × Nat},g ∈ Bx m a.s 0 W → ∃ g0 ∈ MI m a.s,W≤g0.2∧g.1 % 2=0∧g0.1≤g.1∧g.1+W≤g0.1+g0.2:=fun hg=>by
  obtain ⟨h1,h2⟩:=Yx.1 hg
  exact ⟨_,h1,h2,Tg M h1,Nat.le_refl _,by omega⟩
 have hgoodc:∀ {g:Nat × Nat},g ∈ Bx m a.s a.c.toNat W → ∃ g0 ∈ MI m a.s,W≤g0.2∧g.1 % 2=0∧g0.1≤g.1∧g.1+W≤g0.1+g0.2:=fun hg=>by
  obtain ⟨g0,h1,h2,rfl⟩:=bB hg
  have h3:=Tg M h1
  unfold Ev at hev
  refine ⟨g0,h1,by omega,by dsimp only; omega,by dsimp only; omega,by dsimp only; omega⟩
 obtain ⟨K,k1,k2,k3,k4⟩:∃ K,(Q6 m a (W:Int)).1=(B1 m a K).1∧(Q6 m a (W:Int)).2.1=(B1 m a K).2.1∧(K=[]→Bx m a.s 0 W=[]) ∧ ∀ g K',K=g::K' → ∃ g0 ∈ MI m a.s,W≤g0.2∧g.1 % 2=0∧g0.1≤g.1∧g.1+W≤g0.1+g0.2:=by
  unfold Q6
  rw[if_neg (by omega)]
  rcases hp with hp | hp | hp
  ·rw[if_pos hp,Int.toNat_natCast]
   exact ⟨_,rfl,rfl,id,fun g K' e=>hgood (by rw[e]; simp)⟩
  ·rw[if_neg (by omega),if_pos hp,Int.toNat_natCast]
   refine ⟨_,rfl,rfl,fun e=>?_,fun g K' e=>?_⟩
   ·cases hb:Kv (Bx m a.s 0 W) with
    | none=>exact Ye hb
    | some x=>rw[hb] at e; cases e
   ·cases hb:Kv (Bx m a.s 0 W) with
    | none=>rw[hb] at e; cases e
    | some x=>
      rw[hb] at e
      cases e
      exact hgood (Wo (dw M.inv M.inv2 M.sh.wl a.s W) hb).1
  ·rw[if_neg (by omega),if_neg (by omega),if_pos hp,Int.toNat_natCast]
   refine ⟨Bx m a.s a.c.toNat W++Bx m a.s 0 W, ?_, ?_,fun e=>(List.append_eq_nil_iff.1 e).2,fun g K' e=>?_⟩
   ·unfold P8; split <;> rfl
   ·unfold P8; split <;> rfl
   ·have hm:g ∈ Bx m a.s a.c.toNat W++Bx m a.s 0 W:=by rw[e]; simp
    rcases List.mem_append.1 hm with h | h
    ·exact hgoodc h
    ·exact hgood h
 cases K with
 | nil=>
   have hnil:=k3 rfl
   have hany:((MI m a.s).any fun g=>decide ((g.2:Int)≥(W:Int)))=false:=by
    rw[List.any_eq_false]
    intro g hg
    rw[decide_eq_true_eq]
    intro hh
    have:g ∈ Bx m a.s 0 W:=Yx.2 ⟨hg,by omega⟩
    rw[hnil] at this
    simp at this
   unfold B1 at k1 k2
   cases hb:Hs m with
   | none=>
     rw[hb] at k1 k2
     rw[kY hv (by rw[k1])]
     exact ⟨fun _=>⟨(Yy M).1 hb,hany⟩,fun _=>rfl⟩
   | some b=>
     rw[hb] at k1 k2
     rw[aA M ho hv (by omega) hb k1 k2]
     constructor
     ·intro hh; cases hh
     ·rintro ⟨hh,_⟩
      rw[(Yy M).2 hh] at hb; cases hb
 | cons g K'=>
   obtain ⟨g0,q1,q2,q3,q4,q5⟩:=k4 g K' rfl
   obtain ⟨b,b1,b2,b3,b4,b5,b6,b7⟩:=gY M M.sh.wl q1
   have k1':(Q6 m a (W:Int)).1=((g.1:Int),true):=k1
   have k2':(Q6 m a (W:Int)).2.1=m:=k2
   have e:(Bj m a r d c (Q6 m a (W:Int))).1.2=0:=by
    refine fj hv (by rw[k1']) ?_ ?_
    ·rw[k1',k2']
     show LM m ((g.1:Int).tdiv 64)=a.s
     rw[show ((g.1:Int)).tdiv 64=((g.1/64:Nat):Int) from rfl,show g.1/64=b from by omega]
     unfold LM
     rw[if_pos (by omega),Int.toNat_natCast,b3]
    ·rw[k1',k2']
     exact nX M b1 b2 b7 q3 q4 (by omega) (by omega)
   rw[e]
   constructor
   ·intro hh; cases hh
   ·rintro ⟨_,hh⟩
    rw[List.any_eq_false] at hh
    exact absurd (decide_eq_true (show (g0.2:Int)≥(W:Int) by omega)) (hh g0 q1)
theorem ml (M:PD m) (ho:a.ok) {r d c:Int} (hv:valid r d c=true) (hw:words r d c≤32) (hp:a.p=3) (hc:(Uq m a r d c).1.2=6):N2 m=0∨a.l-a.c≥words r d c:=by
 have e:Q6 m a (words r d c)=CA m a false (words r d c):=by
  unfold Q6
  rw[if_neg (by omega),if_neg (by omega),if_neg (by omega),if_neg (by omega),if_pos hp]
 unfold Uq at hc
 rw[e] at hc
 by_cases q:a.l-a.c≥words r d c
 ·exact .inr q
 ·left
  have hpr:CA m a false (words r d c)=match Hs m with
    | some b=>((64*(b:Int),true),CN m b a.s,a.put false (64*(b:Int)+words r d c) (64*(b:Int)+64))
    | none=>((0,false),m,a):=by
   unfold CA
   exact if_neg q
  cases hb:Hs m with
  | none=>exact (Yy M).1 hb
  | some b=>
    rw[hb] at hpr
    rw[aA M ho hv hw hb (by rw[hpr]) (by rw[hpr])] at hc
    cases hc
theorem Wx (k:Nat) (hk:5000≤k) (h:Ah σ i m):∀ (n x f run mo:Nat),x+n=m.bls.length→n<f→run≤x→mo≤x →
  En (k+3) f (DW i) (run:Int) (mo:Int) (x:Int) σ=some (.exit 0,[.int .i64 (qT m n x run mo:Int)],σ)
 | n,x,0,run,mo,hx,hf,h1,h2=>by omega
 | 0,x,f+1,run,mo,hx,hf,h1,h2=>by
   rw[MB,Kp]
   simp only[GR _ h,Option.bind_some,Am,decide_eq_false (show ¬ (x:Int)<((m.bls.length:Nat):Int) by omega),cond_false,qT]
 | n+1,x,f+1,run,mo,hx,hf,h1,h2=>by
   have hnt:=h.nt
   have hxl:x<m.bls.length:=by omega
   have w1:Ac ((x:Int)+1)=((x+1:Nat):Int):=by rw[Ad (by unfold AW; omega)]; omega
   have w2:Ac ((run:Int)+1)=((run+1:Nat):Int):=by rw[Ad (by unfold AW; omega)]; omega
   rw[MB,Kp,qT]
   have mx:∀ y:Nat,(if (y:Int)>(mo:Int) then (y:Int) else (mo:Int))=((max mo y:Nat):Int):=fun y=>by split <;> omega
   by_cases q:(m.bls.getD x (0,0)).1=0
   ·have ih:=Wx k hk h n (x+1) f (run+1) (max mo (run+1)) (by omega) (by omega) (by omega) (by omega)
    rw[if_pos q]
    simp only[GR _ h,Option.bind_some,Am,decide_eq_true (show (x:Int)<((m.bls.length:Nat):Int) by omega),cond_true,WX _ h hxl,q,bne_self_eq_false,cond_false,if_true,D4,w1,w2,mx]
    exact ih
   ·have ih:=Wx k hk h n (x+1) f 0 (max mo 0) (by omega) (by omega) (by omega) (by omega)
    have mx0:=mx 0
    rw[show ((0:Nat):Int)=0 from rfl] at ih mx0
    rw[if_neg q]
    simp only[GR _ h,Option.bind_some,Am,decide_eq_true (show (x:Int)<((m.bls.length:Nat):Int) by omega),cond_true,WX _ h hxl,bne_iff_ne.2 q,if_true,D4,w1,mx0]
    exact ih
theorem aU (k:Nat) {s:E8} {R:List (Nat × Nat)} (h:BQ Af 2 σ s R.length (AL R)) (hl:R.length≤10000) (w:Int):∀ (n x f:Nat) (b:Bool),x+n=R.length→n<f →
  EZ k f s.1 R.length s.2.2 w b (x:Int) σ=some (.exit 2,[.bool (b || (R.drop x).any fun g=>decide ((g.2:Int)≥w))],σ)
 | n,x,0,b,hx,hf=>by omega
 | 0,x,f+1,b,hx,hf=>by
   rw[MC,Kq,List.drop_eq_nil_of_le (by omega)]
   simp only[decide_eq_false (show ¬ (x:Int)<((R.length:Nat):Int) by omega),cond_false,List.any_nil,Bool.or_false]
 | n+1,x,f+1,b,hx,hf=>by
   have hxl:x<R.length:=by omega
   obtain ⟨q,e0,l0,l1⟩:=qw h hxl
   have w1:Ac ((x:Int)+1)=((x+1:Nat):Int):=Ad (by unfold AW; omega)
   have ih:=aU k h hl w n (x+1) f (b || decide ((R[x].2:Int)≥w)) (by omega) (by omega)
   rw[List.drop_eq_getElem_cons hxl,List.any_cons,← Bool.or_assoc]
   rw[e0] at ih ⊢
   rw[MC,Kq]
   cases b with
   | true=>
     simp only[Bool.true_or] at ih ⊢
     simp only[decide_eq_true (show (x:Int)<((R.length:Nat):Int) by omega),cond_true,Option.bind_some,w1]
     exact ih
   | false=>
     simp only[Bool.false_or] at ih ⊢
     simp only[decide_eq_true (show (x:Int)<((R.length:Nat):Int) by omega),cond_true,cond_false,if_pos (show (0:Int)≤(x:Int)∧(x:Int)<((R.length:Nat):Int) by omega),Option.bind_some,Int.toNat_natCast,Nat.zero_add,l1,w1]
     exact ih
end Go.Proofs.YtlaplcglpnlieaaGreat
end
section
namespace Go.Proofs.YtlaplcglpnlieaaGreat
open Go Go.AX
noncomputable local instance vQ:AF:=Au
local instance uG:Kn:=⟨true⟩
variable {σ:Aa} {m:HM} {i:Cs} {ab:Nat} {a:AS}
theorem mn (hnt:m.bls.length≤64) (s:Int):(MI m s).length≤10000:=by
 have aux:∀ L:List Nat,(Di m L).length≤33*L.length:=by
  intro L
  induction L with
  | nil=>simp[Di]
  | cons b L ih=>
    have:=MJ m (b:Int)
    simp only[Di,List.flatMap_cons,List.length_append,List.length_cons] at ih ⊢
    omega
 have h1:=aux (Bg m s m.bls.length)
 have h2:=IY m s m.bls.length
 unfold MI; omega
theorem nM {x:Int} {p:Prop} [Decidable p] (h:x=6↔p):(x == 6)=decide p:=by
 by_cases q:p
 ·rw[decide_eq_true q,beq_iff_eq]; exact h.2 q
 ·rw[decide_eq_false q,beq_eq_false_iff_ne]; exact fun hh=>q (h.1 hh)
set_option maxHeartbeats 1000000 in
theorem eJ (k:Nat) (hk:1000000≤k) {σ:Aa} (b:Int) (hb:AW b) (s:Int) (hs:AW s) (q:Int) (hq:AW q) (p:Option Addr) (c2:Nat) (l:List WU) (hok:∀ y ∈ l,y.ok) (S:QS YM σ p l) (r:Int) (hr:AW r) (d:Int) (hd:AW d) (c:Int) (hc:AW c):
  ∃ σ',fn P (XK Kn.b) H (k+19) Wt [.int .i64 b,.int .i64 s,.int .i64 q,.slice p l.length c2,.agg #[.int .i64 r,.int .i64 d,.int .i64 c]] σ=some (.bool true,σ'):=by
 rw[show [Value.int .i64 b,.int .i64 s,.int .i64 q,.slice p l.length c2,.agg #[.int .i64 r,.int .i64 d,.int .i64 c]]=[.int .i64 b,.int .i64 s,.int .i64 q,.slice (p,l.length,c2).1 (p,l.length,c2).2.1 (p,l.length,c2).2.2,.agg #[.int .i64 r,.int .i64 d,.int .i64 c]] from rfl,WA,U2,QZ]
 simp only[Ap]
 obtain ⟨μ,hμ⟩:∃ μ,σ++[Bi.cells [Value.int .i64 r,.int .i64 d,.int .i64 c] Al true]=μ:=⟨_,rfl⟩
 have hbox:μ[σ.length]?=some (Bi.cells [Value.int .i64 r,.int .i64 d,.int .i64 c] Al true):=by rw[← hμ]; simp
 have hlt:σ.length<μ.length:=Ae hbox
 have ldq:∀ (μ':Aa),μ'[σ.length]?=μ[σ.length]?→Ai .i64 μ' σ.length 0=some r∧Ai .i64 μ' σ.length 1=some d∧Ai .i64 μ' σ.length 2=some c:=by
  intro μ' h
  rw[hbox] at h
  refine ⟨?_, ?_, ?_⟩ <;> simp[Ai,Gy,h,BA]
 have Sμ:QS YM μ p l:=hμ ▸ S.app _
 rw[hμ]
 rcases m9 (Q:=fun m a=>SL m∧Ev a) (fun m a x hM ho _ h=>⟨ru h.1 x,ry hM ho h.2 x⟩) (fun n _ _=>⟨SL.new n,rfl⟩) k hk b s q p c2 l hok Sμ with ⟨σ1,e0⟩ | ⟨σ1,i,ab,m,a,e0,Y,C,E⟩
 ·simp only[e0,Option.bind_some,lF,tj,cond_true,Hi,As]
  exact ⟨_,rfl⟩
 have hle:=Y.len
 have hbr:=Y.br
 have hal:=Y.al.lt
 have hil:∀ x ∈ i.l,x<σ1.length:=fun x hx=>Y.h.lt x hx
 have hnt:=Y.M.nt
 obtain ⟨τ2,sl,e2,S2,lo2⟩:=od (k+10) (by omega) Y.h Y.M.inv Y.M.b0 s
 have e2':KO (k+18) (DW i) s σ1=_:=e2
 obtain ⟨σ2,hσ2⟩:∃ σ2,σ1++τ2=σ2:=⟨_,rfl⟩
 rw[hσ2] at e2' S2
 have s2:∀ x,x<σ1.length→σ2[x]?=σ1[x]?:=fun x hx=>by rw[← hσ2,List.getElem?_append_left hx]
 have hl2:σ1.length≤σ2.length:=by rw[← hσ2]; simp
 have kp:∀ {ρ:Type} (y:Option ρ),Q0 (some ⟨σ.length,0,none⟩) σ1 σ2 y=y:=fun y=>Vm (a:=⟨σ.length,0,none⟩) (s2 σ.length (by omega)) y
 obtain ⟨a0,a1,a2⟩:=ldq σ2 (by rw[s2 _ (by omega)]; exact Y.same _ hlt)
 obtain ⟨τ3,e3⟩:=O5 (k+16) r d c σ2
 obtain ⟨σ3,hσ3⟩:∃ σ3,σ2++τ3=σ3:=⟨_,rfl⟩
 rw[hσ3] at e3
 have s3:∀ x,x<σ2.length→σ3[x]?=σ2[x]?:=fun x hx=>by rw[← hσ3,List.getElem?_append_left hx]
 have hl3:σ2.length≤σ3.length:=by rw[← hσ3]; simp
 have H3:Ah σ3 i m:=hσ3 ▸ (hσ2 ▸ Y.h.app τ2:Ah σ2 i m).app τ3
 have A3:Cj σ3 ab i a:=hσ3 ▸ (hσ2 ▸ Y.al.app τ2:Cj σ2 ab i a).app τ3
 have S3:BQ Af 2 σ3 sl (MI m s).length (AL (MI m s)):=hσ3 ▸ S2.app τ3
 have hnb:=Y.M.nb
 have e4:=Wx (k+15) (by omega) H3 (m.bls.length-1) 1 (k+18) 0 0 (by omega) (by omega) (by omega) (by omega)
 have e4':En (k+18) (k+18) (DW i) 0 0 1 σ3=some (.exit 0,[.int .i64 (N2 m:Int)],σ3):=e4
 have hgl:=mn hnt s
 have e5:=aU (k+18) S3 hgl (words r d c) (MI m s).length 0 (k+18) false (by omega) (by omega)
 rw[List.drop_zero,Bool.false_or,show ((0:Nat):Int)=0 from rfl] at e5
 have hq3:σ3[σ.length]?=μ[σ.length]?:=by rw[s3 _ (by omega),s2 _ (by omega)]; exact Y.same _ hlt
 obtain ⟨b0,b1,b2⟩:=ldq σ3 hq3
 obtain ⟨σ4,e6,H4,A4,K4⟩:=cX (k+5) (by omega) H3 A3 Y.off Y.ok Y.M.inv Y.M.inv2 Y.M.b0 (by omega) r d c
 have e6':AN (k+18) (D8 ab) r d c σ3=_:=e6
 obtain ⟨c0,c1,c3⟩:=ldq σ4 (by rw[K4.same _ (by omega) (fun hm=>by have:=Y.lo _ hm; omega) (by have:=Y.loa; omega)]; exact hq3)
 obtain ⟨τ7,e7⟩:=O4 (k+17) r d c σ4
 have e7':Ea (k+18) r d c σ4=_:=e7
 simp only[e0,Option.bind_some,lF,sv,cond_false,e2',H7,kp,Nat.zero_add,Nat.reduceAdd,a0,a1,a2,e3,Am,e4',if_true,D4,S2.len,e5,RN,b0,b1,b2,e6',E6,c0,c1,c3,e7',As]
 cases hv:valid r d c with
 | false=>
   simp only[Bool.not_false,cond_true,nZ hv,beq_self_eq_true,Hi,Option.bind_some,As]
   exact ⟨_,rfl⟩
 | true=>
 have hw0:=G1 hv
 have hml:=oF Y.M
 simp only[Bool.not_true,cond_false]
 by_cases h32:words r d c>32
 ·have w1:Ac ((N2 m:Int)*64)=(N2 m:Int)*64:=Ad (by unfold AW; omega)
  simp only[decide_eq_true h32,cond_true,w1,nM (jM Y.M C Y.ok hv h32),beq_self_eq_true,Hi,Option.bind_some,As]
  exact ⟨_,rfl⟩
 have hp:=Y.ok.p0
 have hep:=Y.ep
 have hes:=Y.es
 have sm:a.p=0∨a.p=1∨a.p=2→((Uq m a r d c).1.2 == 6)=(bif (N2 m:Int) == 0 then !((MI m s).any fun g=>decide ((g.2:Int)≥words r d c)) else false):=fun hpp=>by
  have h:=jN Y.M Y.ok E hv (by omega) hpp
  rw[hes] at h
  rw[nM h]
  by_cases z:N2 m=0
  ·rw[z]
   cases hh:(MI m s).any fun g=>decide ((g.2:Int)≥words r d c) with
   | false=>simp[hh]
   | true=>simp[hh]
  ·rw[decide_eq_false (fun hh=>z hh.1),beq_eq_false_iff_ne.2 (by omega),cond_false]
 have bo:∀ (x:Bool) (f:Bool) (μ:Aa),(bif x then some (f,μ) else some (false,μ))=some (bif x then f else false,μ):=fun x f μ=>by cases x <;> rfl
 have h5:q=0∨q=1∨q=2∨q=3∨q=4:=by omega
 simp only[decide_eq_false h32,cond_false]
 rcases h5 with rfl | rfl | rfl | rfl | rfl
 ·simp only[beq_self_eq_true,cond_true,bo,Option.bind_some,sm (.inl hep),Hi,As]
  exact ⟨_,rfl⟩
 ·simp only[show ((1:Int) == 0)=false from rfl,cond_false,beq_self_eq_true,cond_true,bo,Option.bind_some,sm (.inr (.inl hep)),Hi,As]
  exact ⟨_,rfl⟩
 ·simp only[show ((2:Int) == 0)=false from rfl,show ((2:Int) == 1)=false from rfl,cond_false,beq_self_eq_true,cond_true,bo,Option.bind_some,sm (.inr (.inr hep)),Hi,As]
  exact ⟨_,rfl⟩
 ·have e8:DH (k+18) (D8 ab) (σ4++τ7)=_:=jv (k+16) (A4.app τ7)
  simp only[show ((3:Int) == 0)=false from rfl,show ((3:Int) == 1)=false from rfl,show ((3:Int) == 2)=false from rfl,cond_false,beq_self_eq_true,cond_true,e8,mU,Option.bind_some]
  by_cases h6:(Uq m a r d c).1.2=6
  ·have ha:(Uq m a r d c).2.2=a:=by
    rcases pL Y.M C Y.ok r d c with ⟨_,_,o3⟩ | ⟨m1,j,Z⟩
    ·rw[o3]
    ·have:=Z.ok; rw[h6] at this; cases this
   rw[h6,ha]
   have hc0:=Y.ok.c0; have hl0:=Y.ok.l0
   have w2:Ac (a.l-a.c)=a.l-a.c:=Ad (by unfold AW; omega)
   rcases ml Y.M Y.ok hv (by omega) hep h6 with z | z
   ·simp only[bne_self_eq_false,cond_false,z,show (((0:Nat):Int) == 0)=true from rfl,Option.bind_some,cond_true,Hi,As]
    exact ⟨_,rfl⟩
   ·simp only[bne_self_eq_false,cond_false,Option.bind_some,w2,decide_eq_true z]
    cases ((N2 m:Int) == 0) with
    | true=>simp only[cond_true,Option.bind_some,Hi,As]; exact ⟨_,rfl⟩
    | false=>simp only[cond_false,cond_true,Option.bind_some,Hi,As]; exact ⟨_,rfl⟩
  ·simp only[bne_iff_ne.2 h6,cond_true,Option.bind_some,Hi,As]
   exact ⟨_,rfl⟩
 ·simp only[show ((4:Int) == 0)=false from rfl,show ((4:Int) == 1)=false from rfl,show ((4:Int) == 2)=false from rfl,show ((4:Int) == 3)=false from rfl,cond_false,Hi,Option.bind_some,As]
  exact ⟨_,rfl⟩
end Go.Proofs.YtlaplcglpnlieaaGreat
end
