/-
 The document's allocator: lines, Alloc.
-/
import Derived.Test.YtlaplcglpnlieaaGreatP24
set_option linter.unusedVariables false
set_option linter.unusedSimpArgs false
namespace Go.Proofs.YtlaplcglpnlieaaGreat
open Go Go.AX
noncomputable local instance zX:Bb:=Az
local instance yZ:Kn:=⟨true⟩
variable {σ:Aa} {m:HM} {t:RM} {j:RI} {rb:Nat} {a:AS}
def Pr (r d c:Int):AJ:=.cells [.int .i64 r,.int .i64 d,.int .i64 c] Ag true
theorem OY {μ:Aa} {q:Nat} {r d c:Int} (h:μ[q]?=some (Pr r d c)):Ak .i64 μ q 0=some r∧Ak .i64 μ q 1=some d∧Ak .i64 μ q 2=some c:=by
 unfold Pr at h; simp[Ak,Gr,h,Bu]
def tn (m:HM) (a:AS) (x y w:Int):PR:=((x,true),m,a.put false (x+w) y)
def rW (mm:Option Ax) (σ:Aa) (j:RI) (rb:Nat) (vs:List Value) (m':HM) (a':AS):Prop:=
 ∃ σ' j' t',mm=some (.ret,vs,σ')∧Uc σ' j' rb m' t' a'∧E7 j j' rb σ σ'
theorem cG (k:Nat) (hk:5000≤k) (ho:a.ok) {r d c:Int} {w:Int} (hv:valid r d c=true) (hw:words r d c=w) (hw2:¬ w>32) (hb:m.births<1000000) {b:Nat} (hbl:b<64) {h2:Nat} {R:List (Nat × Nat)} (hR:R.length≤8) (hRb:∀ g ∈ R,g.1≤8∧g.2≤8) (s:EJ) (h:Uc σ j rb m t a) (hs:BU Aj 2 σ s R.length (Bh R)) (hs2:∀ y,s.1=some y→y.block ∉ j.l∧y.block≠rb) (hbx:σ[h2]?=some (Pr r d c)):∀ (n x f:Nat),x+n=R.length→n<f →
  (match (R.drop x).find? (fun g=>decide (64*(b:Int)+8*(g.1:Int)≥a.l)) with
   | none=>CB (k+8) f (Ct rb) w h2 (b:Int) s.1 R.length s.2.2 (x:Int) σ=some (.exit 2,[],σ)
   | some g=>rW (CB (k+8) f (Ct rb) w h2 (b:Int) s.1 R.length s.2.2 (x:Int) σ) σ j rb [.int .i64 (Cj m a r d c (tn m a (64*(b:Int)+8*(g.1:Int)) (64*(b:Int)+8*((g.1+g.2:Nat):Int)) w)).1.1,.int .i64 (Cj m a r d c (tn m a (64*(b:Int)+8*(g.1:Int)) (64*(b:Int)+8*((g.1+g.2:Nat):Int)) w)).1.2] (Cj m a r d c (tn m a (64*(b:Int)+8*(g.1:Int)) (64*(b:Int)+8*((g.1+g.2:Nat):Int)) w)).2.1 (Cj m a r d c (tn m a (64*(b:Int)+8*(g.1:Int)) (64*(b:Int)+8*((g.1+g.2:Nat):Int)) w)).2.2)
 | n,x,0,hx,hf=>by omega
 | 0,x,f+1,hx,hf=>by
   rw[List.drop_of_length_le (by omega)]
   simp only[List.find?_nil]
   rw[Ko,HZ]
   simp only[decide_eq_false (show ¬ (x:Int)<((R.length:Nat):Int) by omega),cond_false]
 | n+1,x,f+1,hx,hf=>by
   have hxl:x<R.length:=by omega
   obtain ⟨q,e0,l0,l1⟩:=SK hs hxl
   have eg:R.getD x (0,0)=R[x]:=by rw[List.getD_eq_getElem?_getD,List.getElem?_eq_getElem hxl]; rfl
   rw[eg] at l0 l1
   have hg:=hRb _ (List.getElem_mem hxl)
   have hwp:=Oi hv
   rw[hw] at hwp
   have hl0:=ho.l0
   have qx:(0≤(x:Int)∧(x:Int)<((R.length:Nat):Int))=True:=eq_true (by omega)
   have w1:Ae ((x:Int)+1)=((x+1:Nat):Int):=Ad (by unfold AV; omega)
   have w2:Ae ((b:Int)*64)=64*(b:Int):=by rw[Ad (by unfold AV; omega)]; omega
   have w3:Ae (((R[x]).1:Int)*8)=8*((R[x]).1:Int):=by rw[Ad (by unfold AV; omega)]; omega
   have w4:Ae (64*(b:Int)+8*((R[x]).1:Int))=64*(b:Int)+8*((R[x]).1:Int):=Ad (by unfold AV; omega)
   have w5:Ae (((R[x]).2:Int)*8)=8*((R[x]).2:Int):=by rw[Ad (by unfold AV; omega)]; omega
   have w6:Ae (64*(b:Int)+8*((R[x]).1:Int)+w)=64*(b:Int)+8*((R[x]).1:Int)+w:=Ad (by unfold AV; omega)
   have w7:Ae (64*(b:Int)+8*((R[x]).1:Int)+8*((R[x]).2:Int))=64*(b:Int)+8*(((R[x]).1+(R[x]).2:Nat):Int):=by rw[Ad (by unfold AV; omega)]; omega
   obtain ⟨b0,b1,b2⟩:=OY hbx
   have ih:=cG k hk ho hv hw hw2 hb hbl hR hRb s h hs hs2 hbx n (x+1) f (by omega) (by omega)
   rw[List.drop_eq_getElem_cons hxl,List.find?_cons,Ko,HZ]
   simp only[decide_eq_true (show (x:Int)<((R.length:Nat):Int) by omega),cond_true,qx,if_true,e0,Option.bind_some,Int.toNat_natCast,Nat.zero_add,Nat.add_zero,l0,h.al.l4,w1,w2,w3,w4]
   rw[e0] at ih
   by_cases q1:64*(b:Int)+8*((R[x]).1:Int)≥a.l
   ·simp only[decide_eq_true q1,decide_eq_false (show ¬ 64*(b:Int)+8*((R[x]).1:Int)<a.l by omega),cond_false,Nat.reduceAdd,b0,b1,b2,Option.bind_some]
    obtain ⟨μ1,j1,t1,e1,h1,K1⟩:=UC (k+2) (by omega) h (x:=64*(b:Int)+8*((R[x]).1:Int)) (by omega) 0 (r:=r) (d:=d) (c:=c) hb (m1:=m) rfl
    have e1':A8 (k+8) (Ct rb) (64*(b:Int)+8*((R[x]).1:Int)) 0 r d c σ=_:=e1
    rw[XV (m1:=m) hv (by rw[hw]; exact hw2) rfl rfl]
    unfold tn
    dsimp only
    have hsl:BU Aj 2 μ1 s R.length (Bh R):=hs.Cx fun y hy=>K1.same _ (hs.lt y hy) (hs2 y hy).1 (hs2 y hy).2
    obtain ⟨q',e0',_,l1'⟩:=SK hsl hxl
    rw[e0] at e0'; cases e0'
    rw[eg] at l1'
    generalize kQ m a.s (64*(b:Int)+8*((R[x]).1:Int)) r d c=pl at *
    simp only[e1',Option.bind_some,Dj]
    by_cases qc:pl.1.2=0
    ·rw[if_pos qc]
     have s1:=h1.al.Gn 3 (.int .i64 (64*(b:Int)+8*((R[x]).1:Int)+w)) { a with c:=64*(b:Int)+8*((R[x]).1:Int)+w } rfl (by decide)
     have h2':=h1.TU { a with c:=64*(b:Int)+8*((R[x]).1:Int)+w }
     have s2:=h2'.al.Gn 4 (.int .i64 (64*(b:Int)+8*(((R[x]).1+(R[x]).2:Nat):Int))) (a.put false (64*(b:Int)+8*((R[x]).1:Int)+w) (64*(b:Int)+8*(((R[x]).1+(R[x]).2:Nat):Int))) rfl (by decide)
     have h3:=h2'.TU (a.put false (64*(b:Int)+8*((R[x]).1:Int)+w) (64*(b:Int)+8*(((R[x]).1+(R[x]).2:Nat):Int)))
     simp only[show (pl.1.2 == 0)=true from by simpa using qc,cond_true,l1',Option.bind_some,w5,w6,w7,s1,s2,if_true]
     exact ⟨_,j1,t1,rfl,h3,(K1.trans (E7.set _ _ _)).trans (E7.set _ _ _)⟩
    ·rw[if_neg qc]
     simp only[show (pl.1.2 == 0)=false from by simpa using qc,cond_false,Option.bind_some,if_true]
     exact ⟨μ1,j1,t1,rfl,h1,K1⟩
   ·simp only[decide_eq_false q1,decide_eq_true (show 64*(b:Int)+8*((R[x]).1:Int)<a.l by omega),cond_true]
    exact ih
def PV (m:HM) (s:Int) (x n:Nat):List Nat:=(List.range' x n).filter fun b=>decide ((m.bls.getD b (0,0)).1=1∧(m.bls.getD b (0,0)).2=s)
theorem ZG (m:HM) (s:Int) (x n:Nat):PV m s x (n+1)=if (m.bls.getD x (0,0)).1=1∧(m.bls.getD x (0,0)).2=s then x::PV m s (x+1) n else PV m s (x+1) n:=by
 unfold PV
 rw[List.range'_succ,List.filter_cons]
 by_cases q:(m.bls.getD x (0,0)).1=1∧(m.bls.getD x (0,0)).2=s
 ·rw[if_pos q,if_pos (decide_eq_true q)]
 ·rw[if_neg q,if_neg (by rw[decide_eq_false q]; decide)]
theorem lj (h0:B0 m) (hn:1≤m.bls.length) (s:Int):B1 m s m.bls.length=PV m s 1 (m.bls.length-1):=by
 have e:B1 m s m.bls.length=PV m s 0 m.bls.length:=by unfold B1 PV; rw[List.range_eq_range']
 rw[e]
 obtain ⟨n,hn'⟩:∃ n,m.bls.length=n+1:=⟨m.bls.length-1,by omega⟩
 rw[hn',ZG,if_neg (by unfold B0 at h0; omega)]
 rfl
theorem qJ (m:HM) {b:Nat} (hb:b<m.bls.length) (hst:(m.bls.getD b (0,0)).1=1) (lim:Int):
  U3 (DO m (b:Int)) b lim 9 0=((Oo (DO m (b:Int)) (DO m (b:Int)).length).find? fun g=>decide (64*(b:Int)+8*(g.1:Int)≥lim)).map fun g=>(g.1,g.1+g.2):=by
 have hl:(DO m (b:Int)).length=8:=by
  unfold DO
  rw[if_pos (by unfold Ij; rw[if_pos (by omega),Int.toNat_natCast]; exact hst),LU]
 rw[sL _ (.inl hl),List.find?_map,Option.map_map]
 unfold U3
 have e:((fun g:Nat × Nat=>decide (64*(b:Int)+8*(g.1:Int)≥lim)) ∘ fun g:Nat × Nat=>(g.1,g.2-g.1))=fun g=>decide (64*(b:Int)+8*(g.1:Int)≥lim):=rfl
 rw[e]
 cases hf:(YN (DO m (b:Int)) 9 0).find? (fun g=>decide (64*(b:Int)+8*(g.1:Int)≥lim)) with
 | none=>rfl
 | some g=>
   have:=Zw (List.mem_of_find?_eq_some hf)
   simp only[Option.map_some,Function.comp]
   congr 1
   obtain ⟨x,y⟩:=g
   dsimp only at *
   congr 1; omega
theorem Xy (k:Nat) (hk:5000≤k) (ho:a.ok) {r d c:Int} {w:Int} (hv:valid r d c=true) (hw:words r d c=w) (hw2:¬ w>32) (hb:m.births<1000000) {h2:Nat} (hn2:h2 ∉ j.l) (hn3:h2≠rb):∀ (n x f:Nat) (σ:Aa),Uc σ j rb m t a→σ[h2]?=some (Pr r d c)→x+n=m.bls.length→n<f →
  (match Pp m a.l (PV m a.s x n) with
   | none=>∃ τ,CA (k+8) f (Ct rb) w h2 (x:Int) σ=some (.exit 0,[],σ++τ)
   | some g=>rW (CA (k+8) f (Ct rb) w h2 (x:Int) σ) σ j rb [.int .i64 (Cj m a r d c (tn m a (64*(g.1:Int)+8*(g.2.1:Int)) (64*(g.1:Int)+8*(g.2.2:Int)) w)).1.1,.int .i64 (Cj m a r d c (tn m a (64*(g.1:Int)+8*(g.2.1:Int)) (64*(g.1:Int)+8*(g.2.2:Int)) w)).1.2] (Cj m a r d c (tn m a (64*(g.1:Int)+8*(g.2.1:Int)) (64*(g.1:Int)+8*(g.2.2:Int)) w)).2.1 (Cj m a r d c (tn m a (64*(g.1:Int)+8*(g.2.1:Int)) (64*(g.1:Int)+8*(g.2.2:Int)) w)).2.2)
 | n,x,0,σ,h,hbx,hx,hf=>by omega
 | 0,x,f+1,σ,h,hbx,hx,hf=>by
   rw[show PV m a.s x 0=[] from rfl,Pp]
   have eb:Ay (k+8) (AY j) σ=_:=Jr (k+6) h.g
   rw[Km,HY]
   exact ⟨[],by simp only[Option.bind_some,Nat.add_zero,h.al.Z2,eb,Am,decide_eq_false (show ¬ (x:Int)<((m.bls.length:Nat):Int) by omega),cond_false,List.append_nil]⟩
 | n+1,x,f+1,σ,h,hbx,hx,hf=>by
   have hnt:=h.g.nt
   have hxl:x<m.bls.length:=by omega
   have eb:Ay (k+8) (AY j) σ=_:=Jr (k+6) h.g
   have e1:AL (k+8) (AY j) (x:Int) σ=_:=PH (k+6) h.g (x:Int)
   have e2:B3 (k+8) (AY j) (x:Int) σ=_:=XW (k+6) h.g (x:Int)
   have es:Ij m (x:Int)=(m.bls.getD x (0,0)).1:=by unfold Ij; rw[if_pos (by omega),Int.toNat_natCast]
   have ep:VF m (x:Int)=(m.bls.getD x (0,0)).2:=by unfold VF; rw[if_pos (by omega),Int.toNat_natCast]
   have w1:Ae ((x:Int)+1)=((x+1:Nat):Int):=Ad (by unfold AV; omega)
   have hcond:(bif (m.bls.getD x (0,0)).1 != 1 then some (true,σ) else some ((m.bls.getD x (0,0)).2 != a.s,σ))=some (!decide ((m.bls.getD x (0,0)).1=1∧(m.bls.getD x (0,0)).2=a.s),σ):=by
    by_cases q:(m.bls.getD x (0,0)).1=1
    ·rw[show ((m.bls.getD x (0,0)).1 != 1)=false from by simpa using q,cond_false]
     by_cases q2:(m.bls.getD x (0,0)).2=a.s
     ·rw[show ((m.bls.getD x (0,0)).2 != a.s)=false from by simpa using q2,decide_eq_true ⟨q,q2⟩]; rfl
     ·rw[show ((m.bls.getD x (0,0)).2 != a.s)=true from by simpa using q2,decide_eq_false (fun hh=>q2 hh.2)]; rfl
    ·rw[show ((m.bls.getD x (0,0)).1 != 1)=true from by simpa using q,cond_true,decide_eq_false (fun hh=>q hh.1)]; rfl
   rw[ZG,Km,HY]
   simp only[Option.bind_some,Nat.add_zero,Nat.zero_add,h.al.Z2,eb,Am,decide_eq_true (show (x:Int)<((m.bls.length:Nat):Int) by omega),cond_true,e1,e2,es,ep,h.al.l1,w1]
   rw[hcond]
   by_cases q:(m.bls.getD x (0,0)).1=1∧(m.bls.getD x (0,0)).2=a.s
   ·rw[if_pos q,Pp,qJ m hxl q.1]
    simp only[decide_eq_true q,Bool.not_true,Option.bind_some,cond_false,h.al.Z2]
    obtain ⟨τ,s,e3,g3,lo3⟩:=rh (k+3) (by omega) h.g (x:Int)
    have e3':KT (k+8) (AY j) (x:Int) σ=_:=e3
    have hl8:=SA m (x:Int)
    have hhl:=jY (DO m (x:Int)) (DO m (x:Int)).length
    have hle:=oa (DO m (x:Int)) (DO m (x:Int)).length
    have hslo:∀ y,s.1=some y→y.block ∉ j.l∧y.block≠rb:=fun y hy=>by
     have h1:=lo3 y hy
     have h2:=Af h.al
     exact ⟨fun hm=>by have:=h.g.at_.lt _ hm; omega,by omega⟩
    have hbx1:(σ++τ)[h2]?=some (Pr r d c):=by rw[List.getElem?_append_left (Af hbx)]; exact hbx
    have l1:=cG k hk ho hv hw hw2 hb (b:=x) (by omega) (h2:=h2) (R:=Oo (DO m (x:Int)) (DO m (x:Int)).length) (by omega) (fun g hg=>by have:=hle g hg; omega) s (h.app τ) g3 hslo hbx1 (Oo (DO m (x:Int)) (DO m (x:Int)).length).length 0 (k+8) (by omega) (by omega)
    rw[List.drop_zero,show ((0:Nat):Int)=0 from rfl] at l1
    simp only[e3',Option.bind_some,Gp,g3.len]
    cases hf':(Oo (DO m (x:Int)) (DO m (x:Int)).length).find? (fun g=>decide (64*(x:Int)+8*(g.1:Int)≥a.l)) with
    | some g=>
      rw[hf'] at l1
      obtain ⟨σ',j',t',e4,h4,K4⟩:=l1
      simp only[Option.map_some]
      refine ⟨σ',j',t', ?_,h4,(E7.app j σ τ).trans K4⟩
      simp only[e4,Option.bind_some,show (Br.ret=Br.exit 2)=False from by simp,if_false,if_true,Gi]
    | none=>
      rw[hf'] at l1
      simp only[Option.map_none,l1,Option.bind_some,if_true]
      have ih:=Xy k hk ho hv hw hw2 hb hn2 hn3 n (x+1) f (σ++τ) (h.app τ) hbx1 (by omega) (by omega)
      cases hh:Pp m a.l (PV m a.s (x+1) n) with
      | none=>
        rw[hh] at ih
        obtain ⟨τ2,e5⟩:=ih
        exact ⟨τ++τ2,by rw[e5,List.append_assoc]⟩
      | some g=>
        rw[hh] at ih
        obtain ⟨σ',j',t',e5,h5,K5⟩:=ih
        exact ⟨σ',j',t',e5,h5,(E7.app j σ τ).trans K5⟩
   ·rw[if_neg q]
    simp only[decide_eq_false q,Bool.not_false,Option.bind_some,cond_true]
    exact Xy k hk ho hv hw hw2 hb hn2 hn3 n (x+1) f σ h hbx (by omega) (by omega)
theorem lZ {w:Int} (q:¬ a.l-a.c≥w) (q2:¬ w>8) {g:Nat × Nat × Nat} (hg:Pp m a.l (B1 m a.s m.bls.length)=some g):JX m a w=tn m a (64*(g.1:Int)+8*(g.2.1:Int)) (64*(g.1:Int)+8*(g.2.2:Int)) w:=by
 have e1:Od m a=(64*(g.1:Int)+8*(g.2.1:Int),64*(g.1:Int)+8*(g.2.2:Int),true):=by unfold Od; rw[hg]
 have e2:ON m a=m:=by unfold ON; rw[hg]
 unfold JX tn
 rw[if_neg q,if_neg q2,e1,e2,if_pos rfl]
theorem ma {w:Int} (q:¬ a.l-a.c≥w) (q2:¬ w>8) (hg:Pp m a.l (B1 m a.s m.bls.length)=none):JX m a w=Eu m a false w:=by
 have e1:Od m a=ba m:=by unfold Od; rw[hg]
 have e2:ON m a=WU m a.s:=by unfold ON; rw[hg]
 unfold JX Eu
 rw[if_neg q,if_neg q2,if_neg (show ¬ a.li false-a.cu false≥w from q),e1,e2]
 unfold ba WU
 cases Tv m with
 | none=>rfl
 | some b=>rfl
theorem rA (k:Nat) (hk:5000≤k) (h:Uc σ j rb m t a) (ho:a.ok) {r d c w:Int} (hv:valid r d c=true) (hw:words r d c=w) (hw2:¬ w>32) (hb:m.births<1000000):
  TE (F8 (k+9) (Ct rb) r d c w σ) σ j rb (.tuple #[.int .i64 (Cj m a r d c (JX m a w)).1.1,.int .i64 (Cj m a r d c (JX m a w)).1.2]) (Cj m a r d c (JX m a w)).2.1 (Cj m a r d c (JX m a w)).2.2:=by
 have hc0:=ho.c0; have hl0:=ho.l0
 have hnt:=h.g.nt; have hnb:=h.g.nb
 have hwp:=Oi hv
 rw[hw] at hwp
 obtain ⟨μ0,hμ0⟩:∃ μ0,σ++[Pr r d c]=μ0:=⟨_,rfl⟩
 have h0:Uc μ0 j rb m t a:=hμ0 ▸ h.app _
 have K0:E7 j j rb σ μ0:=hμ0 ▸ E7.app j σ _
 have S0:μ0[σ.length]?=some (Pr r d c):=by rw[← hμ0]; simp
 obtain ⟨b0,b1,b2⟩:=OY S0
 have wd:Ae (a.l-a.c)=a.l-a.c:=Ad (by unfold AV; omega)
 rw[Su,NQ]
 simp only[An,show (AJ.cells [Value.int .i64 r,.int .i64 d,.int .i64 c] Ag true)=Pr r d c from rfl,hμ0,Option.bind_some,Nat.zero_add,Nat.reduceAdd,h0.al.l3,h0.al.l4,wd,b0,b1,b2]
 by_cases q:a.l-a.c≥w
 ·have e:JX m a w=Eu m a false w:=by
   unfold JX Eu; rw[if_pos q,if_pos (show a.li false-a.cu false≥w from q)]; rfl
  rw[e]
  obtain ⟨μ1,j1,t1,e1,h1,K1⟩:=gp k hk h0 ho hv hw hw2 hb
  simp only[decide_eq_true q,cond_true,e1,Option.bind_some,Dj]
  exact ⟨μ1,j1,t1,rfl,h1,K0.trans K1⟩
 simp only[decide_eq_false q,cond_false]
 by_cases q2:w>8
 ·have e:JX m a w=Eu m a true w:=by unfold JX; rw[if_neg q,if_pos q2]
  rw[e]
  obtain ⟨μ1,j1,t1,e1,h1,K1⟩:=tD k hk h0 ho hv hw hw2 hb
  simp only[decide_eq_true q2,cond_true,e1,Option.bind_some,Dj]
  exact ⟨μ1,j1,t1,rfl,h1,K0.trans K1⟩
 simp only[decide_eq_false q2,cond_false]
 have hns:σ.length ∉ j.l:=fun hm=>Nat.lt_irrefl _ (h.g.at_.lt _ hm)
 have hnr:σ.length≠rb:=by have:=Af h.al; omega
 have hl:=Xy (h2:=σ.length) k hk ho hv hw hw2 hb hns hnr (m.bls.length-1) 1 (k+8) μ0 h0 S0 (by omega) (by omega)
 rw[← lj h.M.b0 (by omega),show ((1:Nat):Int)=1 from rfl] at hl
 cases hh:Pp m a.l (B1 m a.s m.bls.length) with
 | some g=>
   rw[hh] at hl
   rw[lZ q q2 hh]
   obtain ⟨μ1,j1,t1,e1,h1,K1⟩:=hl
   simp only[e1,Option.bind_some,show (Br.ret=Br.exit 0)=False from by simp,if_false,if_true,Gi]
   exact ⟨μ1,j1,t1,rfl,h1,K0.trans K1⟩
 | none=>
   rw[hh] at hl
   rw[ma q q2 hh]
   obtain ⟨τ,e1⟩:=hl
   obtain ⟨μ1,j1,t1,e2,h1,K1⟩:=gp k hk (h0.app τ) ho hv hw hw2 hb
   have S1:(μ0++τ)[σ.length]?=some (Pr r d c):=by rw[List.getElem?_append_left (Af S0)]; exact S0
   obtain ⟨c0,c1,c2⟩:=OY S1
   simp only[e1,Option.bind_some,if_true,c0,c1,c2,e2,Dj]
   exact ⟨μ1,j1,t1,rfl,h1,(K0.trans (E7.app _ _ _)).trans K1⟩
theorem oq {b:Nat} {c:Nat} {s:Int} (h:(Cw m (b:Int) (c:Int) 2 s 3 s).1=0) (hb:b<m.bls.length):W8 (Cw m (b:Int) (c:Int) 2 s 3 s).2 ((64*(b:Int)).tdiv 64)=s:=by
 rw[show (64*(b:Int)).tdiv 64=(b:Int) from by rw[Int.tdiv_eq_ediv_of_nonneg (by omega)]; omega]
 unfold Cw at *
 split
 ·rename_i q
  rw[if_pos q] at h
  split
  ·rename_i q2
   unfold W8
   simp only[Int.toNat_natCast,List.length_set,Hp]
   rw[if_pos (by omega),List.getD_eq_getElem?_getD,List.getElem?_set_self (by rw[Hp]; exact hb)]
   rfl
  ·rename_i q2; rw[if_neg q2] at h; cases h
 ·rename_i q; rw[if_neg q] at h; cases h
theorem qZ {m1:HM} {r d c:Int} {pr:PR} (hv:valid r d c=true) (hw:words r d c>32) (ho:pr.1.2=true) (hm:pr.2.1=m1) (ha:pr.2.2=a) (hs:W8 m1 (pr.1.1.tdiv 64)=a.s):Cj m a r d c pr=((kQ m1 a.s pr.1.1 r d c).1,(kQ m1 a.s pr.1.1 r d c).2,a):=by
 unfold Cj kQ
 rw[if_pos hv,if_pos ho,hm,if_pos hs,if_neg (show ¬ (¬ words r d c>32∧W8 m1 (pr.1.1.tdiv 64)≠a.s) from fun hh=>hh.1 hw),ha]
 split <;> rfl
theorem uH {m1:HM} {s x r d c:Int} (h:(kQ m1 s x r d c).1.2=0):(kQ m1 s x r d c).1.1=x:=by
 unfold kQ at *
 split at h
 ·cases h
 ·rename_i q
  rw[if_neg q]
  split at h
  ·rename_i q2; rw[if_pos q2]
  ·cases h
theorem nL (h:a.p=0∨a.p=1∨a.p=2) (w:Nat):C1 m a (Yi m a w).toList=(if a.p=2 then C1 m a (CM m a.s a.c.toNat w++CM m a.s 0 w) else if a.p=1 then pv m a w else C1 m a (CM m a.s 0 w)):=by
 have hd:∀ (l:List (Nat × Nat)),C1 m a l.head?.toList=C1 m a l:=fun l=>cY (by cases l <;> rfl)
 unfold Yi
 split
 ·exact hd _
 ·split
  ·rfl
  ·exact hd _
theorem rq (k:Nat) (hk:9000≤k) (h:Uc σ j rb m t a) (ho:a.ok) (hb:m.births<1000000) (r d c:Int):
  TE (E5 (k+10) (Ct rb) r d c σ) σ j rb (.tuple #[.int .i64 (kY m a r d c).1.1,.int .i64 (kY m a r d c).1.2]) (kY m a r d c).2.1 (kY m a r d c).2.2:=by
 have hnt:=h.g.nt; have hnb:=h.g.nb
 have p0:=ho.p0
 obtain ⟨μ0,hμ0⟩:∃ μ0,σ++[Pr r d c]=μ0:=⟨_,rfl⟩
 have h0:Uc μ0 j rb m t a:=hμ0 ▸ h.app _
 have K0:E7 j j rb σ μ0:=hμ0 ▸ E7.app j σ _
 have S0:μ0[σ.length]?=some (Pr r d c):=by rw[← hμ0]; simp
 obtain ⟨b0,b1,b2⟩:=OY S0
 have e1:AM (k+9) (Ct rb) μ0=_:=XY (k+7) h0
 obtain ⟨τ1,e2⟩:=V1 (k+8) r d c μ0
 rw[Sq,NM]
 simp only[An,show (AJ.cells [Value.int .i64 r,.int .i64 d,.int .i64 c] Ag true)=Pr r d c from rfl,hμ0,e1,Option.bind_some,Ao,Bool.not_true,cond_false,Nat.zero_add,Nat.reduceAdd,b0,b1,b2,e2]
 cases hv:valid r d c with
 | false=>
   simp only[Bool.not_false,cond_true]
   unfold kY Cj
   rw[if_neg (by rw[hv]; decide)]
   exact ⟨μ0++τ1,j,t,rfl,h0.app _,K0.trans (E7.app _ _ _)⟩
 | true=>
   have hwp:=Oi hv
   obtain ⟨w,hw⟩:∃ w:Nat,words r d c=(w:Int):=⟨(words r d c).toNat,by omega⟩
   have S1:(μ0++τ1)[σ.length]?=some (Pr r d c):=by rw[List.getElem?_append_left (Af S0)]; exact S0
   obtain ⟨c0,c1,c2⟩:=OY S1
   obtain ⟨τ2,e3⟩:=bQ (k+6) r d c (μ0++τ1)
   have e3':Ff (k+9) r d c (μ0++τ1)=_:=e3
   obtain ⟨μ2,hμ2⟩:∃ μ2,μ0++τ1++τ2=μ2:=⟨_,rfl⟩
   rw[hμ2] at e3'
   have h2:Uc μ2 j rb m t a:=hμ2 ▸ (h0.app _).app _
   have K2:E7 j j rb σ μ2:=hμ2 ▸ (K0.trans (E7.app _ _ _)).trans (E7.app _ _ _)
   have S2:μ2[σ.length]?=some (Pr r d c):=by rw[← hμ2,List.getElem?_append_left (Af S1)]; exact S1
   obtain ⟨d0,d1,d2⟩:=OY S2
   simp only[Bool.not_true,cond_false,c0,c1,c2,Option.bind_some,e3',Ao,d0,d1,d2]
   unfold kY
   rw[hw]
   rw[hw] at hwp
   by_cases q:(w:Int)>32
   ·obtain ⟨τ3,e4⟩:=my (k+6) r d c μ2
    have e4':IW (k+9) r d c μ2=_:=e4
    obtain ⟨μ3,hμ3⟩:∃ μ3,μ2++τ3=μ3:=⟨_,rfl⟩
    rw[hμ3,hw] at e4'
    have h3:Uc μ3 j rb m t a:=hμ3 ▸ h2.app _
    have K3:E7 j j rb σ μ3:=hμ3 ▸ K2.trans (E7.app _ _ _)
    have S3:μ3[σ.length]?=some (Pr r d c):=by rw[← hμ3,List.getElem?_append_left (Af S2)]; exact S2
    obtain ⟨n,hn⟩:∃ n,(w+63)/64=n:=⟨_,rfl⟩
    have en:((w:Int)+63).tdiv 64=(n:Int):=by rw[← hn]; rfl
    have hns:σ.length ∉ j.l:=fun hm=>Nat.lt_irrefl _ (h.g.at_.lt _ hm)
    have hnr:σ.length≠rb:=by have:=Af h.al; omega
    have e5:=dB (k+6) (by omega) h3.g h3.M.fz (c:=n) (by omega)
    have e5':EE (k+9) (AY j) (n:Int) μ3=_:=e5
    simp only[decide_eq_true q,cond_true,e4',Option.bind_some,Am,en,h3.al.Z2,e5']
    rw[show gi m a (w:Int)=N5 m a (w:Int) from if_pos q]
    have hlg:=lX (m:=m) (c:=n) ho.s0 (by omega) m.bls.length 1 (Nat.le_refl _)
    cases hf:nk m n m.bls.length 1 with
    | none=>
      rw[hf] at hlg
      have hpr:N5 m a (w:Int)=((0,false),m,a):=by unfold N5; rw[Int.toNat_natCast,hn,hlg]
      have hX:Cj m a r d c (N5 m a (w:Int))=((0,6),m,a):=by unfold Cj; rw[if_pos hv,hpr,if_neg (by dsimp only; decide)]
      rw[hX]
      simp only[beq_self_eq_true,cond_true]
      exact ⟨μ3,j,t,rfl,h3,K3⟩
    | some b=>
      rw[hf] at hlg
      obtain ⟨hb1,hb2⟩:=lQ hf
      have hpr:N5 m a (w:Int)=((64*(b:Int),true),(Cw m (b:Int) (n:Int) 2 a.s 3 a.s).2,a):=by unfold N5; rw[Int.toNat_natCast,hn,hlg]
      have hcode:(Cw m (b:Int) (n:Int) 2 a.s 3 a.s).1=0:=by
       have aux:∀ (n' x:Nat),pG m n a.s n' x=some b→(Cw m (b:Int) (n:Int) 2 a.s 3 a.s).1=0:=by
        intro n'
        induction n' with
        | zero=>intro x hx; cases hx
        | succ n' ih=>
          intro x hx
          unfold pG at hx
          split at hx
          ·split at hx
           ·rename_i qq; cases hx; exact qq
           ·exact ih _ hx
          ·cases hx
       exact aux _ _ hlg
      have hspc:=oq hcode (show b<m.bls.length by omega)
      have w1:Ae ((b:Int)*64)=64*(b:Int):=by rw[Ad (by unfold AV; omega)]; omega
      obtain ⟨μ4,j4,t4,e6,h4,K4⟩:=h3.vQ (gk (k+7) (by omega) h3.g h3.P h3.M.fz (b:Int) (n:Int) a.s (by unfold AV; omega) (by unfold AV; omega)) (h3.M.sr _ _ _ _ _ _ (by decide) (.inl (by decide)))
      have e6':Ez (k+9) (AY j) (b:Int) (n:Int) a.s μ3=_:=e6
      have S4:μ4[σ.length]?=some (Pr r d c):=by rw[K4.same _ (Af S3) hns hnr]; exact S3
      obtain ⟨f0,f1,f2⟩:=OY S4
      obtain ⟨μ5,j5,t5,e7,h5,K5⟩:=UC (k+3) (by omega) h4 (x:=64*(b:Int)) (by omega) 0 (r:=r) (d:=d) (c:=c) (by rw[Vg]; exact hb) (m1:=(Cw m (b:Int) (n:Int) 2 a.s 3 a.s).2) rfl
      have e7':A8 (k+9) (Ct rb) (64*(b:Int)) 0 r d c μ4=_:=e7
      have hX:=qZ (m:=m) (a:=a) (m1:=(Cw m (b:Int) (n:Int) 2 a.s 3 a.s).2) (pr:=N5 m a (w:Int)) hv (by rw[hw]; exact q) (by rw[hpr]) (by rw[hpr]) (by rw[hpr]) (by rw[hpr]; exact hspc)
      rw[hX,hpr]
      simp only[show (((b:Nat):Int) == 0)=false from by rw[beq_eq_false_iff_ne]; omega,cond_false,h3.al.l1,Option.bind_some,e6',Am,f0,f1,f2,w1,e7',Dj]
      exact ⟨μ5,j5,t5,rfl,h5,(K3.trans K4).trans K5⟩
   ·obtain ⟨τ3,e4⟩:=HG (k+7) r d c μ2
    have e4':BG (k+9) r d c μ2=_:=e4
    obtain ⟨μ3,hμ3⟩:∃ μ3,μ2++τ3=μ3:=⟨_,rfl⟩
    rw[hμ3,hw] at e4'
    have h3:Uc μ3 j rb m t a:=hμ3 ▸ h2.app _
    have K3:E7 j j rb σ μ3:=hμ3 ▸ K2.trans (E7.app _ _ _)
    have S3:μ3[σ.length]?=some (Pr r d c):=by rw[← hμ3,List.getElem?_append_left (Af S2)]; exact S2
    obtain ⟨f0,f1,f2⟩:=OY S3
    simp only[decide_eq_false q,cond_false,e4',Option.bind_some,Am,h3.al.l2,f0,f1,f2]
    by_cases q3:a.p=3
    ·rw[show gi m a (w:Int)=Eu m a false (w:Int) from by unfold gi; rw[if_neg q,if_neg (by omega),if_neg (by omega),if_neg (by omega),if_pos q3]]
     obtain ⟨μ4,j4,t4,e5,h4,K4⟩:=gp (k+1) (by omega) h3 ho hv hw q hb
     simp only[show (a.p == 3)=true from by simpa using q3,cond_true,e5,Option.bind_some,Dj]
     exact ⟨μ4,j4,t4,rfl,h4,K3.trans K4⟩
    simp only[show (a.p == 3)=false from by simpa using q3,cond_false]
    by_cases q4:a.p=4
    ·rw[show gi m a (w:Int)=JX m a (w:Int) from by unfold gi; rw[if_neg q,if_neg (by omega),if_neg (by omega),if_neg (by omega),if_neg (by omega)]]
     obtain ⟨μ4,j4,t4,e5,h4,K4⟩:=rA k (by omega) h3 ho hv hw q hb
     simp only[show (a.p == 4)=true from by simpa using q4,cond_true,e5,Option.bind_some,Dj]
     exact ⟨μ4,j4,t4,rfl,h4,K3.trans K4⟩
    simp only[show (a.p == 4)=false from by simpa using q4,cond_false]
    have hp3:a.p=0∨a.p=1∨a.p=2:=by omega
    have hS:=nL (m:=m) (a:=a) hp3 w
    have hprA:gi m a (w:Int)=if a.p=2∧(C1 m a (Yi m a w).toList).1.2=true then ((C1 m a (Yi m a w).toList).1,(C1 m a (Yi m a w).toList).2.1,a.put false ((C1 m a (Yi m a w).toList).1.1+(w:Int)) a.l) else C1 m a (Yi m a w).toList:=by
     unfold gi
     rw[if_neg q,Int.toNat_natCast]
     rcases hp3 with hp | hp | hp
     ·rw[if_pos hp,if_neg (show ¬ (a.p=2∧_) from fun hh=>by omega),hS,if_neg (by omega),if_neg (by omega)]
     ·rw[if_neg (show ¬ a.p=0 by omega),if_pos hp,if_neg (show ¬ (a.p=2∧_) from fun hh=>by omega),hS,if_neg (by omega),if_pos hp]
     ·rw[if_neg (show ¬ a.p=0 by omega),if_neg (show ¬ a.p=1 by omega),if_pos hp,hS,if_pos hp]
      unfold cK
      by_cases q5:(C1 m a (CM m a.s a.c.toNat w++CM m a.s 0 w)).1.2=true
      ·rw[if_pos q5,if_pos ⟨hp,q5⟩]
      ·rw[if_neg q5,if_neg (fun hh=>q5 hh.2)]
    obtain ⟨τ4,e5⟩:=qs (k+3) (by omega) h3 ho (w:=w) (by omega)
    have e5':Ee (k+9) (Ct rb) (w:Int) μ3=_:=e5
    obtain ⟨μ4,hμ4⟩:∃ μ4,μ3++τ4=μ4:=⟨_,rfl⟩
    rw[hμ4] at e5'
    have h4:Uc μ4 j rb m t a:=hμ4 ▸ h3.app _
    have K4:E7 j j rb σ μ4:=hμ4 ▸ K3.trans (E7.app _ _ _)
    have S4:μ4[σ.length]?=some (Pr r d c):=by rw[← hμ4,List.getElem?_append_left (Af S3)]; exact S3
    obtain ⟨g0,g1,g2⟩:=OY S4
    have hcfit:∀ g,Yi m a w=some g→g.1≤10000:=fun g hg=>by
     have ha:=ho.c0
     unfold Yi at hg
     have m0:∀ {l:List (Nat × Nat)},l.head?=some g→g ∈ l:=fun {l} hh=>List.mem_of_mem_head? hh
     split at hg
     ·rcases List.mem_append.1 (m0 hg) with hh | hh
      ·exact U1 hnt (by omega) g hh
      ·exact U1 hnt (by decide) g hh
     ·split at hg
      ·exact U1 hnt (by decide) g (bc hg)
      ·exact U1 hnt (by decide) g (m0 hg)
    have fin:∀ (x:Int) (bl:Nat) (m1:HM),0≤x∧x≤20000→m1=(if 0<bl then HE m bl a.s else m)→C1 m a (Yi m a w).toList=((x,true),m1,a)→TE ((A8 (k+9) (Ct rb) x (bl:Int) r d c μ4).bind fun r68=>EL r68.1 fun n69 n70=>(bif n70 == (0:Int) then (Ak .i64 r68.2 rb 2).bind fun n72=>some (n72 == (2:Int),r68.2) else some (false,r68.2)).bind fun r73=>(bif r73.1 then ((Gn r73.2 rb 3 (.int .i64 (Ae (n69+(w:Int))))).bind fun s75=>some (.normal,[],s75)) else (some (.normal,[],r73.2)):Option Ax).bind fun r76=>if r76.1 = .normal then (some (.tuple #[.int .i64 n69,.int .i64 n70],r76.2.2)) else none) σ j rb (.tuple #[.int .i64 (Cj m a r d c (gi m a (w:Int))).1.1,.int .i64 (Cj m a r d c (gi m a (w:Int))).1.2]) (Cj m a r d c (gi m a (w:Int))).2.1 (Cj m a r d c (gi m a (w:Int))).2.2:=by
     intro x bl m1 hx hm1 hst
     have hpr:gi m a (w:Int)=((x,true),m1,if a.p=2 then a.put false (x+(w:Int)) a.l else a):=by
      rw[hprA,hst]
      by_cases hp:a.p=2
      ·rw[if_pos ⟨hp,rfl⟩,if_pos hp]
      ·rw[if_neg (fun hh=>hp hh.1),if_neg hp]
     rw[hpr,XV (m1:=m1) hv (by rw[hw]; exact q) rfl rfl]
     obtain ⟨μ5,j5,t5,e6,h5,K5⟩:=UC (k+3) (by omega) h4 (x:=x) (by omega) bl (r:=r) (d:=d) (c:=c) hb hm1
     have hadr:=uH (m1:=m1) (s:=a.s) (x:=x) (r:=r) (d:=d) (c:=c)
     dsimp only
     generalize kQ m1 a.s x r d c=pl at *
     have e6':A8 (k+9) (Ct rb) x (bl:Int) r d c μ4=_:=e6
     simp only[e6',Option.bind_some,Dj,h5.al.l2]
     by_cases qc:pl.1.2=0
     ·rw[if_pos qc]
      have hx1:=hadr qc
      simp only[show (pl.1.2 == 0)=true from by simpa using qc,cond_true,Option.bind_some,hx1,Ad (show AV (x+(w:Int)) by unfold AV; omega)]
      by_cases hp:a.p=2
      ·have s1:=h5.al.Gn 3 (.int .i64 (x+(w:Int))) (a.put false (x+(w:Int)) a.l) rfl (by decide)
       rw[if_pos hp]
       simp only[show (a.p == 2)=true from by simpa using hp,cond_true,s1,Option.bind_some,if_true]
       exact ⟨_,j5,t5,rfl,h5.TU _,(K4.trans K5).trans (E7.set _ _ _)⟩
      ·rw[if_neg hp]
       simp only[show (a.p == 2)=false from by simpa using hp,cond_false,Option.bind_some,if_true]
       exact ⟨μ5,j5,t5,rfl,h5,K4.trans K5⟩
     ·rw[if_neg qc]
      simp only[show (pl.1.2 == 0)=false from by simpa using qc,cond_false,Option.bind_some,if_true]
      exact ⟨μ5,j5,t5,rfl,h5,K4.trans K5⟩
    have ef:=dB (k+6) (by omega) h4.g h4.M.fz (c:=1) (by decide)
    rw[← Zj (by omega),show ((1:Nat):Int)=1 from rfl] at ef
    have ef':EE (k+9) (AY j) 1 μ4=_:=ef
    simp only[e5',Option.bind_some,V0,h4.al.Z2,ef',Am]
    cases hcho:Yi m a w with
    | some g=>
      have hg:=hcfit g hcho
      have:=fin (g.1:Int) 0 m (by omega) rfl (by rw[hcho]; rfl)
      simp only[Option.isSome_some,Bool.not_true,cond_false,Option.bind_some,if_true,Gi,g0,g1,g2]
      exact this
    | none=>
      simp only[Option.isSome_none,Bool.not_false,cond_true]
      cases hf:Tv m with
      | none=>
        have hst:C1 m a (Yi m a w).toList=((0,false),m,a):=by rw[hcho]; unfold C1; simp only[Option.toList_none,hf]
        have hpr:gi m a (w:Int)=((0,false),m,a):=by rw[hprA,hst]; rw[if_neg (fun hh=>by cases hh.2)]
        have hX:Cj m a r d c (gi m a (w:Int))=((0,6),m,a):=by unfold Cj; rw[if_pos hv,hpr,if_neg (by dsimp only; decide)]
        rw[hX]
        simp only[beq_self_eq_true,cond_true,Option.bind_some,show (Br.ret=Br.normal)=False from by simp,if_false,if_true,Gi]
        exact ⟨μ4,j,t,rfl,h4,K4⟩
      | some b=>
        have hb1:=KB hf
        have hst:C1 m a (Yi m a w).toList=((64*(b:Int),true),HE m b a.s,a):=by rw[hcho]; unfold C1; simp only[Option.toList_none,hf]
        have:=fin (64*(b:Int)) b (HE m b a.s) (by omega) (by rw[if_pos (by omega)]) hst
        have w1:Ae ((b:Int)*64)=64*(b:Int):=by rw[Ad (by unfold AV; omega)]; omega
        simp only[show (((b:Nat):Int) == 0)=false from by rw[beq_eq_false_iff_ne]; omega,cond_false,w1,Option.bind_some,if_true,Gi,g0,g1,g2]
        exact this
end Go.Proofs.YtlaplcglpnlieaaGreat
