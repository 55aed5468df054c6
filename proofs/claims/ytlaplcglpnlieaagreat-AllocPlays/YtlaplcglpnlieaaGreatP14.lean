/- Move.; What the calls leave holds together; plain laws.; New. -/
import Derived.Test.YtlaplcglpnlieaaGreatP13
set_option linter.unusedVariables false
set_option linter.unusedSimpArgs false
set_option linter.unusedSectionVars false
section
namespace Go.Proofs.YtlaplcglpnlieaaGreat
open Go Go.AX
noncomputable local instance zF:Bb:=Az
local instance yG:Kn:=⟨true⟩
variable {σ:Aa} {i:CU} {m:HM}
def eu (m:HM) (t:Nat) (id:Int) (held:List Int):HM:=
 { m with wds:=SZ m.wds (2*t) held,stw:=Il 1 m.stw t 1,pl:=SI id ((2*t:Nat):Int) m.pl }
theorem rJ {t j':Nat} {id:Int} {held:List Int} (hl:32*m.bls.length≤64*m.stw.length) (hj:t<32*m.bls.length):Start (eu m t id held) j'↔j'=t∨Start m j':=by
 unfold Start eu
 simp only
 by_cases hq:j'=t
 ·subst hq
  simp only[true_or,iff_true]
  exact ⟨hj,Gg (.inl rfl) (by decide) (by omega)⟩
 ·rw[C6 (.inl rfl) (by decide) (fun e=>hq e.symm)]
  simp[hq]
theorem Inv.add (h:Inv m) (hl:32*m.bls.length≤64*m.stw.length) {t:Nat} {id:Int} {held:List Int} {r d k:Int} (hv:valid r d k=true) (hj:t<32*m.bls.length)
  (hlen:held.length=UQ (num r d k)) (h0:held.getD 0 0=id) (h1:held.getD 1 0=num r d k) (hid:1≤id∧id≤m.births) (hnone:getM m.pl id=none)
  (hfit:2*t+UQ (num r d k)≤m.wds.length) (hap:∀ o,Start m o→2*o+sz m o≤2*t∨2*t+UQ (num r d k)≤2*o):Inv (eu m t id held):=by
 have hst:=fun j'=>rJ (m:=m) (t:=t) (j':=j') (id:=id) (held:=held) hl hj
 have h3:2≤UQ (num r d k):=by
  rw[Qb hv]
  simp[valid] at hv
  omega
 have hnj:¬ Start m t:=fun hs=>by
  have h1:=hap t hs
  have h2:=h.size hs
  omega
 have hle:2*t+held.length≤m.wds.length:=by omega
 have w0:(eu m t id held).wds.getD (2*t) 0=id:=by
  show (SZ _ _ _).getD _ 0=_
  rw[KU hle,if_pos (by omega),Nat.sub_self,h0]
 have w1:(eu m t id held).wds.getD (2*t+1) 0=num r d k:=by
  show (SZ _ _ _).getD _ 0=_
  rw[KU hle,if_pos (by omega),show 2*t+1-2*t=1 from by omega,h1]
 have wo:∀ j',Start m j' → ∀ c,c<2→(eu m t id held).wds.getD (2*j'+c) 0=m.wds.getD (2*j'+c) 0:=by
  intro j' hs' c hc
  have hz:=h.size hs'
  have:=hap j' hs'
  show (SZ _ _ _).getD _ 0=_
  rw[KU hle,if_neg (by omega)]
 have s1:sz (eu m t id held) t=UQ (num r d k):=by unfold sz; rw[w1]
 have so:∀ j',Start m j'→sz (eu m t id held) j'=sz m j':=fun j' hs'=>by unfold sz; rw[wo j' hs' 1 (by decide)]
 have wl:(eu m t id held).wds.length=m.wds.length:=Qz hle
 have wo0:∀ j',Start m j'→(eu m t id held).wds.getD (2*j') 0=m.wds.getD (2*j') 0:=fun j' hs'=>wo j' hs' 0 (by decide)
 have hpl:∀ x,getM (eu m t id held).pl x=if x=id then some ((2*t:Nat):Int) else getM m.pl x:=fun x=>Sy _ _ _ _
 refine ⟨fun j' hs'=>?_,fun j' hs'=>?_,fun j1 j2 h1 h2 hlt=>?_,fun j' hs'=>?_,fun id' a hg=>?_,h.brt,X5 _ _ _ h.onc⟩
 ·rcases (hst j').1 hs' with rfl | hs'
  ·exact ⟨r,d,k,hv,w1⟩
  ·obtain ⟨r',d',k',hv',hn⟩:=h.good j' hs'
   exact ⟨r',d',k',hv',by rw[wo j' hs' 1 (by decide)]; exact hn⟩
 ·rw[wl]
  rcases (hst j').1 hs' with rfl | hs'
  ·rw[s1]; exact hfit
  ·rw[so j' hs']; exact h.fit j' hs'
 ·rcases (hst j1).1 h1 with rfl | h1'
  ·rcases (hst j2).1 h2 with rfl | h2'
   ·omega
   ·rw[s1]
    have:=hap j2 h2'
    have:=h.size h2'
    omega
  ·rw[so j1 h1']
   rcases (hst j2).1 h2 with rfl | h2'
   ·have:=hap j1 h1'
    omega
   ·exact h.apart j1 j2 h1' h2' hlt
 ·rw[hpl]
  rcases (hst j').1 hs' with rfl | hs'
  ·rw[w0]
   exact ⟨hid.1,hid.2,if_pos rfl⟩
  ·rw[wo0 j' hs']
   obtain ⟨i1,i2,i3⟩:=h.idn j' hs'
   refine ⟨i1,i2, ?_⟩
   rw[if_neg (fun e=>by rw[e,hnone] at i3; cases i3)]; exact i3
 ·rw[hpl] at hg
  split at hg
  ·rename_i hid'
   cases hg
   exact ⟨t,rfl,(hst t).2 (.inl rfl),by rw[w0,hid']⟩
  ·obtain ⟨j',rfl,hs',he⟩:=h.plc id' a hg
   exact ⟨j',rfl,(hst j').2 (.inr hs'),by rw[wo0 j' hs']; exact he⟩
theorem Inv.places (h:Inv m) (l:List (Int × Int)) (ho:VZ l) (hg:∀ x,getM l x=getM m.pl x):Inv { m with pl:=l }:=
 ⟨h.good,h.fit,h.apart,fun j hs=>by rw[hg]; exact h.idn j hs,fun id a e=>h.plc id a (by rw[← hg]; exact e),h.brt,ho⟩
def SC (m:HM) (j t:Nat):HM:=
 { m with
   wds:=SZ (SZ m.wds (2*j) (List.replicate (sz m j) 0)) (2*t) ((m.wds.drop (2*j)).take (sz m j))
   stw:=Il 1 (Il 1 m.stw j 0) t 1
   pnw:=Il 1 (Il 1 m.pnw j 0) t (FI 1 m.pnw j)
   pl:=SI (m.wds.getD (2*j) 0) ((2*t:Nat):Int) m.pl
   fw:=SI ((2*j:Nat):Int) ((2*t:Nat):Int) m.fw }
theorem Inv.move (h:Inv m) (hl:32*m.bls.length≤64*m.stw.length) {j t:Nat} (hs:Start m j) (ht:t<32*m.bls.length) (hfit:2*t+sz m j≤m.wds.length)
  (hap:∀ o,Start m o→o≠j→2*o+sz m o≤2*t∨2*t+sz m j≤2*o):Inv (SC m j t):=by
 have hj:=hs.1
 have hf:=h.fit j hs
 have hz:=h.size hs
 have hst:=fun j'=>SO (m:=m) (j:=j) (j':=j') hl hj
 obtain ⟨r,d,k,hv,hn⟩:=h.good j hs
 obtain ⟨i1,i2,i3⟩:=h.idn j hs
 have hsz:sz m j=UQ (num r d k):=by unfold sz; rw[hn]
 have hk:=h.kill hl hs
 have held:∀ c,c<sz m j→((m.wds.drop (2*j)).take (sz m j)).getD c 0=m.wds.getD (2*j+c) 0:=by
  intro c hc
  simp only[List.getD_eq_getElem?_getD,List.getElem?_take,hc,if_true,List.getElem?_drop]
 have wl:(Ni m j).wds.length=m.wds.length:=Qz (by simpa using hf)
 have so:∀ o,Start m o→o≠j→sz (Ni m j) o=sz m o:=by
  intro o ho hne
  have hz':=h.size ho
  unfold sz
  congr 1
  show (SZ _ _ _).getD _ 0=_
  rw[KU (by simpa using hf),if_neg]
  rintro ⟨p1,p2⟩
  simp only[List.length_replicate] at p2
  rcases Nat.lt_trichotomy j o with hlt | rfl | hlt
  ·have:=h.apart j o hs ho hlt; omega
  ·exact hne rfl
  ·have:=h.apart o j ho hs hlt; omega
 have ha:=hk.add (t:=t) (id:=m.wds.getD (2*j) 0) (held:=(m.wds.drop (2*j)).take (sz m j)) (r:=r) (d:=d) (k:=k)
  (by show 32*m.bls.length≤64*(Il _ _ _ _).length; rw[Og]; exact hl) hv ht (by rw[← hsz]; simp; omega) (held 0 (by omega)) (by rw[held 1 (by omega),hn]) ⟨i1,i2⟩
  (by show getM (bC _ _) _=none; rw[Xo _ _ _ h.onc,if_pos rfl]) (by rw[← hsz,wl]; exact hfit)
  (fun o ho=>by
   obtain ⟨hne,ho'⟩:=(hst o).1 ho
   rw[← hsz,so o ho' hne]; exact hap o ho' hne)
 have hp:=ha.places (SI (m.wds.getD (2*j) 0) ((2*t:Nat):Int) m.pl) (X5 _ _ _ h.onc) (fun x=>by
  show getM (SI _ _ _) x=getM (SI _ _ (bC _ _)) x
  rw[Sy,Sy,Xo _ _ _ h.onc]
  split <;> rfl)
 exact (hp.pins (Il 1 (Il 1 m.pnw j 0) t (FI 1 m.pnw j))).ZO (SI ((2*j:Nat):Int) ((2*t:Nat):Int) m.fw)
def jh (m:HM) (a b:Int):Int × HM:=
 if I0 m a then (if OK m b (sz m (a.toNat/2)) a=0 then (0,SC m (a.toNat/2) (b.toNat/2)) else (OK m b (sz m (a.toNat/2)) a,m)) else (4,m)
theorem Inv.blocks (h:Inv m) (l:List (Int × Int)) (hl:l.length=m.bls.length):Inv { m with bls:=l }:=by
 have hs:∀ j,Start { m with bls:=l } j↔Start m j:=fun j=>by unfold Start; simp only[hl]
 exact ⟨fun j hj=>h.good j ((hs j).1 hj),fun j hj=>h.fit j ((hs j).1 hj),fun j j' h1 h2=>h.apart j j' ((hs j).1 h1) ((hs j').1 h2),fun j hj=>h.idn j ((hs j).1 hj),fun id a e=>by
  obtain ⟨j,e1,e2,e3⟩:=h.plc id a e
  exact ⟨j,e1,(hs j).2 e2,e3⟩,h.brt,h.onc⟩
theorem Us:∀ (l:List (Int × Int)) (b:Nat) (x y:Int),b<l.length→Cv (l.set b (x,y))=AN (Cv l) (b*2) [.int .i64 x,.int .i64 y]
 | [],_,_,_,h=>by simp at h
 | e::l,0,x,y,h=>by simp[Cv,AN]
 | e::l,b+1,x,y,h=>by
   have ih:=Us l b x y (by simpa using h)
   have e1:(b+1)*2=b*2+1+1:=by omega
   simp only[List.set_cons_succ,Cv,ih,e1,AN,List.take_succ_cons,List.drop_succ_cons,List.cons_append,List.length_cons,List.length_nil]
theorem Ah.wv (h:Ah σ i m) {b:Nat} (hb:b<m.bls.length) (x y:Int):Ip σ i.bl (b*2) [.int .i64 x,.int .i64 y]=some (σ.set i.bl (.cells (Cv (m.bls.set b (x,y))) Ej true)) ∧
  Ah (σ.set i.bl (.cells (Cv (m.bls.set b (x,y))) Ej true)) i { m with bls:=m.bls.set b (x,y) }:=by
 refine ⟨?_,h.jA _ (by simp)⟩
 have:b*2+2≤(Cv m.bls).length:=by rw[Dn]; omega
 simp only[Ip,h.bl,List.length_cons,List.length_nil,Nat.zero_add,Nat.reduceAdd,this,if_true,Us _ _ _ _ hb]
theorem iD (l:List (Int × Int)) (b:Nat) (y:Int) (hb:b<l.length):(Cv l).set (b*2+1) (.int .i64 y)=Cv (l.set b ((l.getD b (0,0)).1,y)):=by
 rw[Us _ _ _ _ hb]
 have h1:=(Ur l b hb).1
 rw[Nat.mul_comm] at h1
 have hlen:=Dn l
 apply List.ext_getElem?
 intro n
 rw[List.getElem?_set]
 unfold AN
 have ht:((Cv l).take (b*2)).length=b*2:=by simp; omega
 rcases Nat.lt_or_ge n (b*2) with hn | hn
 ·rw[if_neg (by omega),List.append_assoc,List.getElem?_append_left (by rw[ht]; exact hn),List.getElem?_take,if_pos hn]
 ·rw[List.append_assoc,List.getElem?_append_right (by rw[ht]; exact hn),ht]
  rcases Nat.eq_or_lt_of_le hn with rfl | hn1
  ·rw[if_neg (by omega),Nat.sub_self,h1]; rfl
  ·rcases Nat.eq_or_lt_of_le hn1 with rfl | hn2
   ·rw[if_pos rfl,if_pos (by omega)]
    rw[show b*2+1-b*2=1 from by omega]; rfl
   ·rw[if_neg (by omega)]
    obtain ⟨q,rfl⟩:∃ q,n=b*2+2+q:=⟨n-(b*2+2),by omega⟩
    rw[show b*2+2+q-b*2=q+1+1 from by omega]
    simp[List.getElem?_drop]
theorem Ah.xR (h:Ah σ i m) {b:Nat} (hb:b<m.bls.length) (y:Int):AX.Gn σ i.bl (b*2+1) (.int .i64 y)=some (σ.set i.bl (.cells (Cv (m.bls.set b ((m.bls.getD b (0,0)).1,y))) Ej true)) ∧
  Ah (σ.set i.bl (.cells (Cv (m.bls.set b ((m.bls.getD b (0,0)).1,y))) Ej true)) i { m with bls:=m.bls.set b ((m.bls.getD b (0,0)).1,y) }:=by
 refine ⟨?_,h.jA _ (by simp)⟩
 have:b*2+1<(Cv m.bls).length:=by rw[Dn]; omega
 simp only[AX.Gn,h.bl,this,if_true,iD _ _ _ hb]
def gq (l:List (Int × Int)) (b:Nat):Nat→List (Int × Int)
 | 0=>l
 | n+1=>gq (l.set (b+n) (0,0)) b n
def cg (l:List (Int × Int)) (b:Nat) (y:Int):Nat→List (Int × Int)
 | 0=>l
 | n+1=>cg (l.set (b+n) ((l.getD (b+n) (0,0)).1,y)) b y n
theorem Q2 (b:Nat):∀ (n:Nat) (l:List (Int × Int)),(gq l b n).length=l.length
 | 0,l=>rfl
 | n+1,l=>by rw[gq,Q2 b n]; simp
theorem Q5 (b:Nat) (y:Int):∀ (n:Nat) (l:List (Int × Int)),(cg l b y n).length=l.length
 | 0,l=>rfl
 | n+1,l=>by rw[cg,Q5 b y n]; simp
theorem Y3 (k:Nat) {b:Nat}:∀ (n f:Nat) (σ:Aa) (m:HM),Ah σ i m→b+n≤m.bls.length→n<f → ∃ σ',ED k f (BN i) (b:Int) (n:Int) σ=some (.exit 0,[],σ')∧Ah σ' i { m with bls:=gq m.bls b n }∧BZ i σ σ'
 | 0,0,σ,m,h,hb,hf=>by omega
 | 0,f+1,σ,m,h,hb,hf=>by
   rw[Mz,Kv]
   exact ⟨σ,rfl,h,BZ.refl _ _⟩
 | n+1,0,σ,m,h,hb,hf=>by omega
 | n+1,f+1,σ,m,h,hb,hf=>by
   have ht:=h.nt
   obtain ⟨e1,h1⟩:=h.wv (b:=b+n) (by omega) 0 0
   obtain ⟨σ',e2,h2,k2⟩:=Y3 k n f _ _ h1 (by show b+n≤(m.bls.set _ _).length; rw[List.length_set]; omega) (by omega)
   refine ⟨σ', ?_,h2,(BZ.set _ _ (by simp[CU.l])).trans k2⟩
   rw[Mz,Kv]
   have q:decide (((n+1:Nat):Int)>0)=true:=decide_eq_true (by omega)
   have w1:Ae ((b:Int)+((n+1:Nat):Int))=((b+n+1:Nat):Int):=by rw[Ad (by unfold AV; omega)]; omega
   have w2:Ae (((b+n+1:Nat):Int)-1)=((b+n:Nat):Int):=by rw[Ad (by unfold AV; omega)]; omega
   have w3:Ae (((n+1:Nat):Int)-1)=(n:Int):=by rw[Ad (by unfold AV; omega)]; omega
   simp only[q,cond_true,Option.bind_some,Nat.add_zero,h.SX,w1,w2,w3]
   rw[if_pos (by omega)]
   simp only[Option.bind_some,Nat.zero_add,Int.toNat_natCast,e1]
   exact e2
theorem cw (k:Nat) {b:Nat} (y:Int):∀ (n f:Nat) (σ:Aa) (m:HM),Ah σ i m→b+n≤m.bls.length→n<f → ∃ σ',F1 k f (BN i) (b:Int) y (n:Int) σ=some (.exit 0,[],σ')∧Ah σ' i { m with bls:=cg m.bls b y n }∧BZ i σ σ'
 | 0,0,σ,m,h,hb,hf=>by omega
 | 0,f+1,σ,m,h,hb,hf=>by
   rw[NU,L7]
   exact ⟨σ,rfl,h,BZ.refl _ _⟩
 | n+1,0,σ,m,h,hb,hf=>by omega
 | n+1,f+1,σ,m,h,hb,hf=>by
   have ht:=h.nt
   obtain ⟨e1,h1⟩:=h.xR (b:=b+n) (by omega) y
   obtain ⟨σ',e2,h2,k2⟩:=cw k y n f _ _ h1 (by show b+n≤(m.bls.set _ _).length; rw[List.length_set]; omega) (by omega)
   refine ⟨σ', ?_,h2,(BZ.set _ _ (by simp[CU.l])).trans k2⟩
   rw[NU,L7]
   have q:decide (((n+1:Nat):Int)>0)=true:=decide_eq_true (by omega)
   have w1:Ae ((b:Int)+((n+1:Nat):Int))=((b+n+1:Nat):Int):=by rw[Ad (by unfold AV; omega)]; omega
   have w2:Ae (((b+n+1:Nat):Int)-1)=((b+n:Nat):Int):=by rw[Ad (by unfold AV; omega)]; omega
   have w3:Ae (((n+1:Nat):Int)-1)=(n:Int):=by rw[Ad (by unfold AV; omega)]; omega
   simp only[q,cond_true,Option.bind_some,Nat.add_zero,h.SX,w1,w2,w3]
   rw[if_pos (by omega)]
   simp only[Option.bind_some,Nat.zero_add,Int.toNat_natCast,e1]
   exact e2
theorem dN (k:Nat) (h:Ah σ i m) (b:Int):CZ (k+2) (BN i) b σ=some (.bool (decide (1≤b∧b<(m.bls.length:Int))),σ):=by
 rw[Qo,Ox]
 simp only[H9 _ h,Option.bind_some,Ao,cond_true]
 by_cases h0:1≤b
 ·simp only[show decide (b≥1)=true from by simpa using h0,cond_true,Nat.zero_add,Option.bind_some,h.SX]
  simp[h0]
 ·simp only[show decide (b≥1)=false from by simpa using h0,cond_false,Option.bind_some]
  simp[h0]
def Qx (m:HM) (b:Int) (ok:Bool):Int:=
 if ¬ (1≤b∧b<(m.bls.length:Int))∨ok=false then 1
 else if (m.bls.getD b.toNat (0,0)).1≠1∧(m.bls.getD b.toNat (0,0)).1≠2 then 5 else 0
theorem pD (k:Nat) (h:Ah σ i m) (b:Int) (ok:Bool):GF (k+3) (BN i) b ok σ=some (.int .i64 (Qx m b ok),σ):=by
 rw[Yn,Uk]
 simp only[H9 _ h,dN _ h,Option.bind_some,Ao,Bool.not_true,cond_false]
 unfold Qx
 by_cases h0:1≤b∧b<(m.bls.length:Int)
 rotate_left
 ·simp[h0]
 obtain ⟨n,rfl⟩:∃ n:Nat,b=(n:Int):=⟨b.toNat,by omega⟩
 have hn:n<m.bls.length:=by omega
 have q0:decide (1≤(n:Int)∧(n:Int)<(m.bls.length:Int))=true:=decide_eq_true h0
 simp only[q0,Bool.not_true,cond_false,Option.bind_some]
 cases ok with
 | false=>simp
 | true=>
   have q1:(¬ (1≤(n:Int)∧(n:Int)<(m.bls.length:Int))∨true=false)=False:=eq_false (by simp; omega)
   simp only[Bool.not_true,cond_false,Nat.zero_add,Nat.add_zero,h.SX,Option.bind_some,q1,if_false]
   rw[if_pos (show 0≤(n:Int)∧(n:Int)<((m.bls.length:Nat):Int) by omega)]
   simp only[Option.bind_some,Int.toNat_natCast,Nat.zero_add,(h.UP hn).1]
   by_cases g1:(m.bls.getD n (0,0)).1=1
   ·simp only[g1,bne_self_eq_false,cond_false,Option.bind_some,ne_eq,not_true_eq_false,false_and,if_false]
   ·have p1:((m.bls.getD n (0,0)).1 != 1)=true:=bne_iff_ne.2 g1
    simp only[p1,cond_true]
    rw[if_pos (show 0≤(n:Int)∧(n:Int)<((m.bls.length:Nat):Int) by omega)]
    simp only[Option.bind_some,(h.UP hn).1]
    by_cases g2:(m.bls.getD n (0,0)).1=2
    ·simp only[g2,bne_self_eq_false,cond_false,ne_eq,not_true_eq_false,and_false,if_false]
    ·have p2:((m.bls.getD n (0,0)).1 != 2)=true:=bne_iff_ne.2 g2
     simp only[p2,cond_true,ne_eq,g1,g2,not_false_eq_true,and_self,if_true]
theorem Vq {b:Int} {ok:Bool} (h:Qx m b ok=0):∃ n:Nat,b=(n:Int)∧1≤n∧n<m.bls.length∧ok=true:=by
 unfold Qx at h
 split at h
 ·cases h
 ·rename_i h0
  refine ⟨b.toNat, ?_, ?_, ?_, ?_⟩
  ·omega
  ·omega
  ·omega
  ·cases ok <;> simp at h0 ⊢
theorem SN {b:Nat} (hb:b<m.bls.length):b+GS m b≤m.bls.length:=gH m b _ 1 (by omega)
def X3 (y:Int):Bool:=decide (0≤y∧y<8)
theorem mU (k:Nat) (y:Int) (σ:Aa):HF (k+1) y σ=some (.bool (X3 y),σ):=by
 rw[VV,Vd]
 unfold X3
 by_cases h0:0≤y <;> simp[h0]
def OR (m:HM) (b y:Int):Int × HM:=
 if Qx m b (X3 y)=0 then (0,{ m with bls:=cg m.bls b.toNat y (GS m b.toNat) }) else (Qx m b (X3 y),m)
def Jb (m:HM) (b:Int):Int × HM:=
 if Qx m b true=0 then (if Cb m (32*b.toNat) 32=[] then (0,{ m with bls:=gq m.bls b.toNat (GS m b.toNat) }) else (8,m)) else (Qx m b true,m)
theorem ny (k:Nat) (hk:5000≤k) (h:Ah σ i m) (b y:Int):TD (Hj (k+5) (BN i) b y σ) σ i (OR m b y):=by
 have ht:=h.nt
 have hsp:=mU (k+3) y σ
 unfold OR
 generalize X3 y=ok at hsp ⊢
 rw[WY,Ti]
 simp only[hsp,Option.bind_some,Ao,pD (k+1) h b ok,Am]
 by_cases hc:Qx m b ok=0
 rotate_left
 ·have q:(Qx m b ok != 0)=true:=bne_iff_ne.2 hc
  simp only[q,cond_true]
  exact TD.same h [] (by rw[List.append_nil]) (if_neg hc)
 rw[if_pos hc]
 obtain ⟨n,rfl,h1,h2,rfl⟩:=Vq hc
 obtain ⟨σ',e,h3,k3⟩:=cw (k+4) (b:=n) y (GS m n) (k+4) σ m h (SN h2) (by have:=SN h2; omega)
 simp only[hc,bne_self_eq_false,cond_false,kD (k+3) (by omega) h h2,Option.bind_some,Am,e,if_true]
 exact ⟨σ',rfl,h3,k3⟩
theorem jQ (k:Nat) (hk:5000≤k) (h:Ah σ i m) (b:Int):TD (Gk (k+7) (BN i) b σ) σ i (Jb m b):=by
 unfold Jb
 have ht:=h.nt
 rw[Vi,QM]
 simp only[pD (k+3) h b true,Option.bind_some,Am]
 by_cases hc:Qx m b true=0
 rotate_left
 ·have q:(Qx m b true != 0)=true:=bne_iff_ne.2 hc
  simp only[q,cond_true]
  exact TD.same h [] (by rw[List.append_nil]) (if_neg hc)
 rw[if_pos hc]
 obtain ⟨n,rfl,h1,h2,_⟩:=Vq hc
 rw[Int.toNat_natCast]
 obtain ⟨τ,s,e1,e2⟩:=UT k hk h h2
 simp only[hc,bne_self_eq_false,cond_false,e1,Option.bind_some,Gp]
 by_cases hl:((s.2.1:Nat):Int)>0
 ·simp only[show decide (((s.2.1:Nat):Int)>0)=true from decide_eq_true hl,cond_true]
  refine TD.same h τ (code:=8) rfl (if_neg fun he=>?_)
  have hlen:=e2.len
  rw[he] at hlen
  simp[CK] at hlen
  omega
 ·have hse:Cb m (32*n) 32=[]:=by
   have hlen:=e2.len
   simp[CK] at hlen
   exact List.length_eq_zero_iff.1 (by omega)
  rw[if_pos hse]
  simp only[show decide (((s.2.1:Nat):Int)>0)=false from decide_eq_false hl,cond_false]
  obtain ⟨σ',e,h3,k3⟩:=Y3 (k+6) (b:=n) (GS m n) (k+6) (σ++τ) m (h.app τ) (SN h2) (by have:=SN h2; omega)
  simp only[kD (k+5) (by omega) (h.app τ) h2,Option.bind_some,Am,e,if_true]
  exact ⟨σ',rfl,h3,(BZ.app i σ τ).trans k3⟩
theorem uv (x y:Int):PX P AH (.agg #[.int .i64 x,.int .i64 y]) (.agg #[.int .i64 0,.int .i64 0])=(bif x == 0 then some (y == 0) else some false):=by kernel_rfl
theorem lD (k:Nat) (x y:Int) (σ:Aa):∃ τ,CY (k+1) x y σ=some (.bool (!(bif x == 0 then y == 0 else false)),σ++τ):=by
 rw[NV,L8]
 simp only[An,Ml,Nat.zero_add,List.getElem?_cons_zero,List.getElem?_cons_succ,Option.bind_some,Am]
 rw[uv]
 cases x == 0 <;> exact ⟨_,rfl⟩
def Jv (l:List (Int × Int)) (b:Nat):Nat→Nat→Option Nat
 | 0,_=>none
 | n+1,x=>if (l.getD (b+x) (0,0)).1=0∧(l.getD (b+x) (0,0)).2=0 then Jv l b n (x+1) else some x
theorem cm (k:Nat) {b c:Nat} (c2:Nat) (v:Value) (hv:∀ x y σ,∃ τ,IK k v [.agg #[.int .i64 x,.int .i64 y]] σ=some (.bool (!(bif x == 0 then y == 0 else false)),σ++τ)):∀ (n x f:Nat) (σ:Aa),Ah σ i m→b+c≤m.bls.length→x+n=c→n<f →
  ∃ τ,Bw k f (some ⟨i.bl,b*2,none⟩) c c2 v (c:Int) (x:Int) σ=some (match Jv m.bls b n x with | some x'=>(.ret,[.int .i64 (x':Int)],σ++τ) | none=>(.exit 0,[],σ++τ))
 | 0,x,0,σ,h,hb,hx,hf=>by omega
 | 0,x,f+1,σ,h,hb,hx,hf=>by
   rw[Fi,Et]
   have q:decide ((x:Int)<(c:Int))=false:=decide_eq_false (by omega)
   exact ⟨[],by simp only[q,cond_false,Jv,List.append_nil]⟩
 | n+1,x,0,σ,h,hb,hx,hf=>by omega
 | n+1,x,f+1,σ,h,hb,hx,hf=>by
   have ht:=h.nt
   have q:decide ((x:Int)<(c:Int))=true:=decide_eq_true (by omega)
   have hbx:b+x<m.bls.length:=by omega
   obtain ⟨l1,l2⟩:=h.UP hbx
   have a1:Ak .i64 σ i.bl (b*2+x*2)=some (m.bls.getD (b+x) (0,0)).1:=by rw[← l1]; congr 1; omega
   have a2:Ak .i64 σ i.bl (b*2+x*2+1)=some (m.bls.getD (b+x) (0,0)).2:=by rw[← l2]; congr 1; omega
   obtain ⟨τ,hcall⟩:=hv (m.bls.getD (b+x) (0,0)).1 (m.bls.getD (b+x) (0,0)).2 σ
   have w1:Ae ((x:Int)+1)=((x+1:Nat):Int):=Ad (by unfold AV; omega)
   obtain ⟨τ2,ih⟩:=cm k c2 v hv n (x+1) f (σ++τ) (h.app τ) hb (by omega) (by omega)
   rw[Fi,Et]
   simp only[q,cond_true]
   rw[if_pos (by omega)]
   simp only[Option.bind_some,Int.toNat_natCast,a1,a2,hcall,Ao,w1]
   rw[Jv]
   by_cases g1:(m.bls.getD (b+x) (0,0)).1=0
   ·by_cases g2:(m.bls.getD (b+x) (0,0)).2=0
    ·rw[if_pos ⟨g1,g2⟩]
     simp only[g1,g2,BEq.rfl,cond_true,Bool.not_true,cond_false]
     refine ⟨τ++τ2, ?_⟩
     rw[ih,List.append_assoc]
    ·rw[if_neg (fun hh=>g2 hh.2)]
     have p2:((m.bls.getD (b+x) (0,0)).2 == 0)=false:=by simpa using g2
     simp only[g1,BEq.rfl,cond_true,p2,Bool.not_false]
     exact ⟨τ,rfl⟩
   ·rw[if_neg (fun hh=>g1 hh.1)]
    have p1:((m.bls.getD (b+x) (0,0)).1 == 0)=false:=by simpa using g1
    simp only[p1,cond_false,Bool.not_false,cond_true]
    exact ⟨τ,rfl⟩
def Yj (l:List (Int × Int)) (b:Nat) (e:Int × Int):Nat→Nat→List (Int × Int)
 | 0,_=>l
 | n+1,x=>Yj (l.set (b+x) e) b e n (x+1)
theorem Hp (b:Nat) (e:Int × Int):∀ (n x:Nat) (l:List (Int × Int)),(Yj l b e n x).length=l.length
 | 0,x,l=>rfl
 | n+1,x,l=>by rw[Yj,Hp b e n]; simp
theorem cC (k:Nat) {b c:Nat} (e:Int × Int) (hb3:Nat):∀ (n x f:Nat) (σ:Aa) (m:HM),Ah σ i m→hb3 ∉ i.l→(∃ T,σ[hb3]?=some (.cells [.int .i64 e.1,.int .i64 e.2] T true))→b+c≤m.bls.length→x+n=c→n<f →
  ∃ σ',D8 k f (BN i) (b:Int) hb3 (c:Int) (x:Int) σ=some (.exit 1,[],σ')∧Ah σ' i { m with bls:=Yj m.bls b e n x }∧BZ i σ σ'
 | 0,x,0,σ,m,h,hn,hbox,hb,hx,hf=>by omega
 | 0,x,f+1,σ,m,h,hn,hbox,hb,hx,hf=>by
   rw[JO,IH]
   have q:decide ((x:Int)<(c:Int))=false:=decide_eq_false (by omega)
   exact ⟨σ,by simp only[q,cond_false],h,BZ.refl _ _⟩
 | n+1,x,0,σ,m,h,hn,hbox,hb,hx,hf=>by omega
 | n+1,x,f+1,σ,m,h,hn,hbox,hb,hx,hf=>by
   have ht:=h.nt
   obtain ⟨T,hbox⟩:=hbox
   have q:decide ((x:Int)<(c:Int))=true:=decide_eq_true (by omega)
   obtain ⟨e1,h1⟩:=h.wv (b:=b+x) (by omega) e.1 e.2
   have k1:BZ i σ (σ.set i.bl (.cells (Cv (m.bls.set (b+x) (e.1,e.2))) Ej true)):=BZ.set _ _ (by simp[CU.l])
   obtain ⟨σ',e2,h2,k2⟩:=cC k e hb3 n (x+1) f _ _ h1 hn ⟨T,(k1.same _ (Af hbox) hn).trans hbox⟩ (by show b+c≤(m.bls.set _ _).length; rw[List.length_set]; omega) (by omega) (by omega)
   refine ⟨σ', ?_,h2,k1.trans k2⟩
   have w1:Ae ((x:Int)+1)=((x+1:Nat):Int):=Ad (by unfold AV; omega)
   have w2:Ae ((b:Int)+(x:Int))=((b+x:Nat):Int):=Ad (by unfold AV; omega)
   have l0:Ak .i64 σ hb3 0=some e.1:=by simp[Ak,Gr,hbox,Bu]
   have l1:Ak .i64 σ hb3 1=some e.2:=by simp[Ak,Gr,hbox,Bu]
   rw[JO,IH]
   simp only[q,cond_true,Option.bind_some,Nat.add_zero,Nat.zero_add,h.SX,l0,l1,w1,w2]
   rw[if_pos (by omega)]
   simp only[Option.bind_some,Int.toNat_natCast,e1]
   exact e2
theorem kC (h:Ah σ i m) {a b:Nat} (hab:a<b) (hb:b≤m.bls.length):
  Md AH 2 (some ⟨i.bl,0,none⟩,m.bls.length,m.bls.length) (some (.int .i64 (a:Int))) (some (.int .i64 (b:Int))) none σ=some (some ⟨i.bl,a*2,none⟩,b-a,m.bls.length-a):=by
 have e1:elemAt σ i.bl=some AH:=by simp only[elemAt,h.bl]
 have c1:(0≤(b:Int)∧(b:Int)≤((m.bls.length:Nat):Int)):=by omega
 have c2:(0≤(a:Int)∧(a:Int)≤((b:Nat):Int)):=by omega
 simp only[Md,Option.isSome_none,Bool.not_false,Bool.true_or,cond_true,bound,Int.toNat_natCast]
 rw[if_pos c1,if_pos c2,if_neg (by omega)]
 simp[e1]
def Cw (m:HM) (b c x y x' y':Int):Int × HM:=
 if 1≤b∧b<(m.bls.length:Int)∧1≤c∧c≤(m.bls.length:Int)-b∧X3 y=true then
  (if Jv m.bls b.toNat c.toNat 0=none then (0,{ m with bls:=(Yj m.bls b.toNat (x',y') c.toNat 0).set b.toNat (x,y) }) else (8,m)) else (1,m)
theorem eY (k:Nat) (hk:5000≤k) (h:Ah σ i m) (b c x y x' y':Int) (hb:AV b) (hc:AV c):TD (Ew (k+6) (BN i) b c x y x' y' σ) σ i (Cw m b c x y x' y'):=by
 unfold Cw
 have ht:=h.nt
 have hnb:=h.nb
 rw[Qn,Ow]
 simp only[An]
 obtain ⟨μ0,hμ0⟩:∃ μ0,σ++[AJ.cells [Value.int .i64 x,.int .i64 y] AH true]=μ0:=⟨_,rfl⟩
 rw[hμ0]
 obtain ⟨μ1,hμ1⟩:∃ μ1,μ0++[AJ.cells [Value.int .i64 x',.int .i64 y'] AH true]=μ1:=⟨_,rfl⟩
 rw[hμ1]
 have hE:μ1=σ++[AJ.cells [Value.int .i64 x,.int .i64 y] AH true,AJ.cells [Value.int .i64 x',.int .i64 y'] AH true]:=by rw[← hμ1,← hμ0]; simp
 have h1:Ah μ1 i m:=by rw[hE]; exact h.app _
 have k1:BZ i σ μ1:=by rw[hE]; exact BZ.app i σ _
 have hl0:μ0.length=σ.length+1:=by rw[← hμ0]; simp
 have hx0:μ1[σ.length]?=some (AJ.cells [Value.int .i64 x,.int .i64 y] AH true):=by rw[hE]; simp
 have hx1:μ1[μ0.length]?=some (AJ.cells [Value.int .i64 x',.int .i64 y'] AH true):=by rw[← hμ1]; simp
 have hn0:σ.length ∉ i.l:=fun hm=>Nat.lt_irrefl _ (h.lt _ hm)
 have hn1:μ0.length ∉ i.l:=fun hm=>by have:=h.lt _ hm; omega
 have ly:Ak .i64 μ1 σ.length 1=some y:=by simp[Ak,Gr,hx0,Bu]
 have fail:∀ {r},r=((1:Int),m)→TD (some (Value.int .i64 1,μ1)) σ i r:=fun hr=>TD.same h [AJ.cells [Value.int .i64 x,.int .i64 y] AH true,AJ.cells [Value.int .i64 x',.int .i64 y'] AH true] (by rw[hE]) hr
 simp only[H9 _ h1,dN _ h1,Option.bind_some,Ao,Bool.not_true,cond_false,Nat.zero_add,Nat.add_zero,h1.SX,ly]
 by_cases g0:1≤b∧b<(m.bls.length:Int)
 rotate_left
 ·simp only[decide_eq_false g0,Bool.not_false,cond_true,Option.bind_some]
  exact fail (if_neg (by omega))
 obtain ⟨n,rfl⟩:∃ n:Nat,b=(n:Int):=⟨b.toNat,by omega⟩
 simp only[decide_eq_true g0,Bool.not_true,cond_false,Option.bind_some]
 by_cases g1:c<1
 ·simp only[decide_eq_true g1,cond_true,Option.bind_some]
  exact fail (if_neg (by omega))
 have e1:Ae (((m.bls.length:Nat):Int)-(n:Int))=((m.bls.length-n:Nat):Int):=by rw[Ad (by unfold AV; omega)]; omega
 simp only[decide_eq_false g1,cond_false,Option.bind_some,h1.SX,e1]
 by_cases g2:c>((m.bls.length-n:Nat):Int)
 ·simp only[decide_eq_true g2,cond_true,Option.bind_some]
  exact fail (if_neg (by omega))
 obtain ⟨w,rfl⟩:∃ w:Nat,c=(w:Int):=⟨c.toNat,by omega⟩
 have hsp:=mU (k+4) y μ1
 generalize X3 y=ok at hsp ⊢
 simp only[decide_eq_false g2,cond_false,Option.bind_some,ly,hsp,Ao]
 cases ok with
 | false=>
   simp only[Bool.not_false,cond_true]
   exact fail (if_neg (by simp))
 | true=>
   rw[if_pos ⟨g0.1,g0.2,by omega,by omega,rfl⟩,Int.toNat_natCast,Int.toNat_natCast]
   have e2:Ae ((n:Int)+(w:Int))=((n+w:Nat):Int):=Ad (by unfold AV; omega)
   have hw:n+w≤m.bls.length:=by omega
   simp only[Bool.not_true,cond_false,h1.SX,e2,kC h1 (show n<n+w by omega) hw,Option.bind_some,Nat.add_sub_cancel_left]
   rw[HL,FO,IX,GZ]
   have hv:∀ x y σ,∃ τ,IK (k+3) (.func (.func Pn) #[] #[]) [.agg #[.int .i64 x,.int .i64 y]] σ=some (.bool (!(bif x == 0 then y == 0 else false)),σ++τ):=by
    intro x y σ
    rw[Qi]
    exact lD (k+2) x y σ
   obtain ⟨τ,hidx⟩:=cm (k+3) (b:=n) (c:=w) (m.bls.length-n) (.func (.func Pn) #[] #[]) hv w 0 (k+3) μ1 h1 hw (by omega) (by omega)
   rw[show ((0:Nat):Int)=0 from rfl] at hidx
   cases hu:Jv m.bls n w 0 with
   | some x0=>
     rw[hu] at hidx
     simp only[hidx,Option.bind_some,if_true,DQ,Am,Ao,reduceCtorEq,if_false]
     have q:decide ((x0:Int)≥0)=true:=decide_eq_true (by omega)
     simp only[q,cond_true]
     exact TD.same h ([AJ.cells [Value.int .i64 x,.int .i64 y] AH true,AJ.cells [Value.int .i64 x',.int .i64 y'] AH true]++τ) (code:=8) (by rw[hE,List.append_assoc]) rfl
   | none=>
     rw[hu] at hidx
     have q:decide ((-1:Int)≥0)=false:=by decide
     simp only[hidx,Option.bind_some,if_true,Am,Ao,q,cond_false]
     have h2:=h1.app τ
     have k2:BZ i μ1 (μ1++τ):=BZ.app i μ1 τ
     have hy1:=(k2.same _ (Af hx1) hn1).trans hx1
     obtain ⟨σ3,e3,h3,k3⟩:=cC (k+5) (b:=n) (c:=w) (x',y') μ0.length w 0 (k+5) (μ1++τ) m h2 hn1 ⟨_,hy1⟩ hw (by omega) (by omega)
     rw[show ((0:Nat):Int)=0 from rfl] at e3
     have hy0:=(k3.same _ (Af ((k2.same _ (Af hx0) hn0).trans hx0)) hn0).trans ((k2.same _ (Af hx0) hn0).trans hx0)
     have l0:Ak .i64 σ3 σ.length 0=some x:=by simp[Ak,Gr,hy0,Bu]
     have l1:Ak .i64 σ3 σ.length 1=some y:=by simp[Ak,Gr,hy0,Bu]
     have hlen:(Yj m.bls n (x',y') w 0).length=m.bls.length:=Hp _ _ _ _ _
     obtain ⟨e4,h4⟩:=h3.wv (b:=n) (by show n<(Yj _ _ _ _ _).length; omega) x y
     simp only[e3,Option.bind_some,if_true,h3.SX,l0,l1]
     rw[if_pos (by show 0≤(n:Int)∧(n:Int)<(((Yj m.bls n (x',y') w 0).length:Nat):Int); omega)]
     simp only[Option.bind_some,Nat.zero_add,Int.toNat_natCast,e4]
     exact ⟨_,rfl,h4,((k1.trans k2).trans k3).trans (BZ.set _ _ (by simp[CU.l]))⟩
theorem dP (k:Nat) (hk:5000≤k) (h:Ah σ i m) (b s:Int) (hb:AV b):TD (C3 (k+7) (BN i) b s σ) σ i (Cw m b 1 1 s 0 0):=by
 refine (eY k hk h b 1 1 s 0 0 hb (by unfold AV; decide)).to fun σ' e=>?_
 rw[Qk,Ot,e]
 simp only[Option.bind_some,Am]
theorem de (k:Nat) (hk:5000≤k) (h:Ah σ i m) (b c s:Int) (hb:AV b) (hc:AV c):TD (DI (k+7) (BN i) b c s σ) σ i (Cw m b c 2 s 3 s):=by
 refine (eY k hk h b c 2 s 3 s hb hc).to fun σ' e=>?_
 rw[My,Ku,e]
 simp only[Option.bind_some,Am]
end Go.Proofs.YtlaplcglpnlieaaGreat
end
section
namespace Go.Proofs.YtlaplcglpnlieaaGreat
open Go Go.AX
variable {m:HM}
def use (m:HM) (j:Nat):Nat:=(2+AQ m j+BB m j).toNat
def WB (l:List (Int × Int)) (a wo:Nat):Prop:=
 (wo≤32→(l.getD (a/64) (0,0)).1=1∧(a+wo-1)/64=a/64) ∧
 (32<wo→(l.getD (a/64) (0,0)).1=2∧a % 64=0 ∧ ∀ c,a/64<c→c≤(a+wo-1)/64→(l.getD c (0,0)).1=3)
structure Inv2 (m:HM):Prop where
 kind:∀ j,Start m j→WB m.bls (2*j) (sz m j)
 zero:∀ a,(∀ j,Start m j→2*j≤a→a<2*j+use m j→False)→m.wds.getD a 0=0
structure Sh (m:HM):Prop where
 wl:m.wds.length=64*m.bls.length
 sl:32*m.bls.length≤64*m.stw.length
 pl:32*m.bls.length≤64*m.pnw.length
theorem Ah.sh {σ:Aa} {i:CU} (h:Ah σ i m):Sh m:=⟨h.wl,jE h.st.len,jE h.pn.len⟩
theorem Inv.use (h:Inv m) {j:Nat} (hs:Start m j):2≤use m j∧use m j≤sz m j∧((use m j:Nat):Int)=2+AQ m j+BB m j:=by
 obtain ⟨z1,z2,z3,z4,z5,z6⟩:=h.size hs
 unfold Go.Proofs.YtlaplcglpnlieaaGreat.use
 omega
structure G7 (m:HM) (r:Int × HM):Prop where
 inv:Inv r.2
 inv2:Inv2 r.2
 b1:m.births≤r.2.births
 b2:r.2.births≤m.births+1
 len:r.2.bls.length=m.bls.length
 err:r.1≠0→r.2=m
theorem G7.same (h:Inv m) (h2:Inv2 m) (c:Int):G7 m (c,m):=⟨h,h2,Int.le_refl _,by simp only; omega,rfl,fun _=>rfl⟩
theorem fj (h:Inv m) {a x:Int} {data:Bool} {w:Int} (hf:Ft m a x data=(w,0)):∃ j t:Nat,Start m j∧a=((2*j:Nat):Int)∧w=((2*j+2+t:Nat):Int)∧2+t<use m j∧((t:Nat):Int)=x+(if data then AQ m j else 0):=by
 unfold Ft at hf
 split at hf
 ·rename_i hh
  obtain ⟨j,rfl,hs⟩:=IA hh
  have ej:((2*j:Nat):Int).toNat/2=j:=by omega
  obtain ⟨z1,z2,z3,z4,z5,z6⟩:=h.size hs
  obtain ⟨_,_,u3⟩:=h.use hs
  simp only[ej] at hf
  cases data with
  | false=>
    simp only[Bool.false_eq_true,if_false] at hf
    split at hf
    ·rename_i hc
     have hw:=congrArg Prod.fst hf
     simp only at hw
     exact ⟨j,x.toNat,hs,rfl,by omega,by omega,by simp only[Bool.false_eq_true,if_false]; omega⟩
    ·have:=congrArg Prod.snd hf
     simp at this
  | true=>
    simp only[if_true] at hf
    split at hf
    ·rename_i hc
     have hw:=congrArg Prod.fst hf
     simp only at hw
     exact ⟨j,(AQ m j+x).toNat,hs,rfl,by omega,by omega,by simp only[if_true]; omega⟩
    ·have:=congrArg Prod.snd hf
     simp at this
 ·have:=congrArg Prod.snd hf
  simp at this
theorem nh (h:Inv m) {j t:Nat} (hs:Start m j) (ht:2+t<sz m j) (v:Int):∀ j',Start m j' → ∀ c,c<2→(Rk m (2*j+2+t) v).wds.getD (2*j'+c) 0=m.wds.getD (2*j'+c) 0:=by
 intro j' hs' c hc
 show (m.wds.set _ _).getD _ _=_
 rw[Dd,if_neg]
 rintro ⟨e,_⟩
 have h1:=h.apart j j' hs hs'
 have hz:=h.size hs'
 rcases Nat.lt_trichotomy j j' with hlt | rfl | hlt
 ·have:=h1 hlt; omega
 ·omega
 ·omega
theorem YR {m m':HM} {j j':Nat} (h:m'.wds.getD (2*j'+1) 0=m.wds.getD (2*j+1) 0):sz m' j'=sz m j∧use m' j'=use m j∧AQ m' j'=AQ m j∧BB m' j'=BB m j:=by
 unfold sz use AQ BB
 rw[h]
 exact ⟨rfl,rfl,rfl,rfl⟩
theorem Inv2.word (h:Inv m) (h2:Inv2 m) {j t:Nat} (hs:Start m j) (ht:2+t<use m j) (v:Int):Inv2 (Rk m (2*j+2+t) v):=by
 have hu:=h.use hs
 have key:=nh h hs (show 2+t<sz m j by omega) v
 refine ⟨fun j' hs'=>?_,fun a ha=>?_⟩
 ·rw[(YR (key j' hs' 1 (by decide))).1]; exact h2.kind j' hs'
 ·show (m.wds.set _ _).getD _ _=_
  rw[Dd,if_neg]
  ·exact h2.zero a fun j' hs' h3 h4=>ha j' hs' h3 (by rw[(YR (key j' hs' 1 (by decide))).2.1]; exact h4)
  ·rintro ⟨rfl,_⟩
   exact ha j hs (by omega) (by rw[(YR (key j hs 1 (by decide))).2.1]; omega)
theorem cl (h:Inv m) (h2:Inv2 m) {j t:Nat} (hs:Start m j) (ht:2+t<use m j) (v:Int):G7 m (0,Rk m (2*j+2+t) v):=
 ⟨h.uU hs (by have:=h.use hs; omega) v,h2.word h hs ht v,Int.le_refl _,by show m.births≤m.births+1; omega,rfl,fun hc=>absurd rfl hc⟩
theorem kz (h:Inv m) (h2:Inv2 m) (a x v:Int):G7 m (Yb m a x v):=by
 unfold Yb
 generalize hf:Ft m a x false=w
 obtain ⟨w,c⟩:=w
 split
 ·rename_i hc
  simp only at hc
  subst hc
  obtain ⟨j,t,hs,rfl,rfl,ht,_⟩:=fj h hf
  split
  ·exact G7.same h h2 _
  ·simp only[Int.toNat_natCast]
   exact cl h h2 hs ht v
 ·exact G7.same h h2 _
theorem iu (h:Inv m) (h2:Inv2 m) (a x v:Int):G7 m (UH m a x v):=by
 unfold UH
 generalize hf:Ft m a x true=w
 obtain ⟨w,c⟩:=w
 split
 ·rename_i hc
  simp only at hc
  subst hc
  obtain ⟨j,t,hs,rfl,rfl,ht,_⟩:=fj h hf
  simp only[Int.toNat_natCast]
  exact cl h h2 hs ht v
 ·exact G7.same h h2 _
theorem Inv2.pins (h2:Inv2 m) (l:List (BitVec 64)):Inv2 { m with pnw:=l }:=⟨h2.kind,h2.zero⟩
theorem Inv2.ZO (h2:Inv2 m) (l:List (Int × Int)):Inv2 { m with fw:=l }:=⟨h2.kind,h2.zero⟩
theorem Inv2.places (h2:Inv2 m) (l:List (Int × Int)):Inv2 { m with pl:=l }:=⟨h2.kind,h2.zero⟩
theorem jn (h:Inv m) (h2:Inv2 m) (a:Int) (v:Nat):G7 m (ir m a v):=by
 unfold ir
 split
 ·exact ⟨h.pins _,h2.pins _,Int.le_refl _,by show m.births≤m.births+1; omega,rfl,fun hc=>absurd rfl hc⟩
 ·exact G7.same h h2 _
theorem oF (h:Inv m) (h2:Inv2 m) (a v:Int):G7 m (jr m a v):=by
 unfold jr
 split
 ·cases hq:Rg m a.toNat with
  | none=>exact G7.same h h2 _
  | some j=>
    obtain ⟨hs,_,p2,p1⟩:=Sx hq
    have hu:=h.use hs
    simp only
    split
    ·obtain ⟨t,ht⟩:∃ t,a.toNat=2*j+2+t:=⟨a.toNat-(2*j+2),by omega⟩
     rw[ht]
     exact cl h h2 hs (by omega) v
    ·exact G7.same h h2 _
 ·exact G7.same h h2 _
theorem lP (h:Inv m) (h2:Inv2 m):G7 m (0,{ m with fw:=[] }):=
 ⟨h.ZO _,h2.ZO _,Int.le_refl _,by show m.births≤m.births+1; omega,rfl,fun hc=>absurd rfl hc⟩
theorem gI (m:HM) (b:Nat):∀ (f n c:Nat),n≤c→c<Ii m b f n→(m.bls.getD b (0,0)).1=2∧(m.bls.getD (b+c) (0,0)).1=3
 | 0,n,c,h1,h2=>by rw[Ii] at h2; omega
 | f+1,n,c,h1,h2=>by
   rw[Ii] at h2
   split at h2
   ·rename_i hc
    rcases Nat.eq_or_lt_of_le h1 with rfl | h1
    ·exact ⟨hc.1,hc.2.2⟩
    ·exact gI m b f (n+1) c h1 h2
   ·omega
theorem Z0 {b c:Nat} (h1:b<c) (h2:c<b+GS m b):(m.bls.getD b (0,0)).1=2∧(m.bls.getD c (0,0)).1=3:=by
 have:=gI m b m.bls.length 1 (c-b) (by omega) (by unfold GS at h2; omega)
 rw[show b+(c-b)=c from by omega] at this
 exact this
theorem fp {a:Int} {wo:Nat} {but:Int} (h2:2≤wo) (hf:OK m a wo but=0):WB m.bls a.toNat wo:=by
 unfold OK at hf
 split at hf
 ·cases hf
 simp only at hf
 split at hf
 ·rename_i hw
  split at hf
  ·cases hf
  ·rename_i hc
   refine ⟨fun _=>⟨?_, ?_⟩,fun h=>by omega⟩
   ·apply Classical.byContradiction
    intro hq; exact hc (.inl hq)
   ·apply Classical.byContradiction
    intro hq; exact hc (.inr hq)
 ·rename_i hw
  split at hf
  ·cases hf
  ·rename_i hc
   have c1:(m.bls.getD (a.toNat/64) (0,0)).1=2:=by
    apply Classical.byContradiction
    intro hq; exact hc (.inl hq)
   have c2:a.toNat % 64=0:=by
    apply Classical.byContradiction
    intro hq; exact hc (.inr (.inl hq))
   have c3:GS m (a.toNat/64)=(wo+63)/64:=by
    apply Classical.byContradiction
    intro hq; exact hc (.inr (.inr hq))
   refine ⟨fun h=>by omega,fun _=>⟨c1,c2,fun c h1 h2=>?_⟩⟩
   exact (Z0 h1 (by rw[c3]; omega)).2
theorem Inv2.place (h:Inv m) (h2:Inv2 m) (hS:Sh m) {j:Nat} {r d k:Int} (hv:valid r d k=true) (hj:j<32*m.bls.length)
  (hap:∀ o,Start m o→2*o+sz m o≤2*j∨2*j+UQ (num r d k)≤2*o) (hk:WB m.bls (2*j) (UQ (num r d k))):Inv2 (DP m j (num r d k)):=by
 have hst:=fun j'=>TC (m:=m) (n:=num r d k) (j:=j) (j':=j') hS.sl hj
 have hw:=hS.wl
 have hv':=hv
 simp[valid] at hv'
 have h3:2≤UQ (num r d k):=by
  rw[Qb hv]
  omega
 have hnj:¬ Start m j:=fun hs=>by
  have h1:=hap j hs
  have h2:=h.size hs
  omega
 have hne:∀ j',Start m j'→j'≠j:=fun j' hs e=>hnj (e ▸ hs)
 have w1:(DP m j (num r d k)).wds.getD (2*j+1) 0=num r d k:=by
  unfold DP; simp only
  rw[Dd,if_pos ⟨rfl,by simp; omega⟩]
 have wo:∀ j',j'≠j→(DP m j (num r d k)).wds.getD (2*j'+1) 0=m.wds.getD (2*j'+1) 0:=by
  intro j' hne
  unfold DP; simp only
  rw[Dd,if_neg (by omega),Dd,if_neg (by omega)]
 have s1:sz (DP m j (num r d k)) j=UQ (num r d k):=by unfold sz; rw[w1]
 obtain ⟨p1,p2,_,_⟩:=PG hv
 have u1:use (DP m j (num r d k)) j=(2+r+d).toNat:=by unfold use AQ BB; rw[w1,p1,p2]
 refine ⟨fun j' hs'=>?_,fun a ha=>?_⟩
 ·rcases (hst j').1 hs' with rfl | hs'
  ·rw[s1]; exact hk
  ·rw[(YR (wo j' (hne j' hs'))).1]; exact h2.kind j' hs'
 ·have hself:=ha j ((hst j).2 (.inl rfl))
  rw[u1] at hself
  have hn0:a≠2*j:=fun e=>hself (by omega) (by omega)
  have hn1:a≠2*j+1:=fun e=>hself (by omega) (by omega)
  unfold DP; simp only
  rw[Dd,if_neg (by omega),Dd,if_neg (by omega)]
  exact h2.zero a fun j' hs' h4 h5=>ha j' ((hst j').2 (.inr hs')) h4 (by rw[(YR (wo j' (hne j' hs'))).2.1]; exact h5)
theorem T5 (h:Inv m) (h2:Inv2 m) (hS:Sh m) (a r d c:Int):G7 m (CC m a r d c).2:=by
 unfold CC
 split
 ·rename_i hv
  split
  ·rename_i hc
   have hw2:2≤UQ (num r d c):=by
    rw[Qb hv]
    simp[valid] at hv
    omega
   have hk:=fp hw2 hc
   obtain ⟨j,rfl,hj,hfit,hap⟩:=h.fits hS.wl (gN _) hw2 hc
   rw[Int.toNat_natCast] at hk
   simp only[show ((2*j:Nat):Int).toNat/2=j from by omega]
   have hap':∀ o,Start m o→2*o+sz m o≤2*j∨2*j+UQ (num r d c)≤2*o:=fun o ho=>hap o ho (by omega)
   refine ⟨h.place hS.wl hS.sl hv hj hfit hap',h2.place h hS hv hj hap' hk, ?_,Int.le_refl _,rfl,fun hc=>absurd rfl hc⟩
   show m.births≤m.births+1
   omega
  ·exact G7.same h h2 _
 ·exact G7.same h h2 _
theorem Zo (h:Inv m) {j j' a:Nat} (hs:Start m j) (hs':Start m j') (hne:j'≠j) (h1:2*j'≤a) (h2:a<2*j'+sz m j'):(Ni m j).wds.getD a 0=m.wds.getD a 0:=by
 have hf:=h.fit j hs
 show (SZ _ _ _).getD _ 0=_
 rw[KU (by simpa using hf),if_neg]
 rintro ⟨p1,p2⟩
 simp only[List.length_replicate] at p2
 rcases Nat.lt_trichotomy j j' with hlt | rfl | hlt
 ·have:=h.apart j j' hs hs' hlt; omega
 ·exact hne rfl
 ·have:=h.apart j' j hs' hs hlt; omega
theorem Inv2.kill (h:Inv m) (h2:Inv2 m) (hS:Sh m) {j:Nat} (hs:Start m j):Inv2 (Ni m j):=by
 have hf:=h.fit j hs
 have hst:=fun j'=>SO (m:=m) (j:=j) (j':=j') hS.sl hs.1
 have so:∀ j',j'≠j→Start m j'→sz (Ni m j) j'=sz m j'∧use (Ni m j) j'=use m j':=fun j' hne hs'=>by
  have:=YR (Zo h hs hs' hne (a:=2*j'+1) (by omega) (by have:=h.size hs'; omega))
  exact ⟨this.1,this.2.1⟩
 refine ⟨fun j' hs'=>?_,fun a ha=>?_⟩
 ·obtain ⟨hne,hs'⟩:=(hst j').1 hs'
  rw[(so j' hne hs').1]; exact h2.kind j' hs'
 ·show (SZ _ _ _).getD _ 0=_
  rw[KU (by simpa using hf)]
  split
  ·rw[List.getD_eq_getElem?_getD,List.getElem?_replicate]
   split <;> rfl
  ·rename_i hc
   refine h2.zero a fun j' hs' h4 h5=>?_
   by_cases hq:j'=j
   ·subst hq
    have:=h.use hs'
    simp at hc; omega
   ·exact ha j' ((hst j').2 ⟨hq,hs'⟩) h4 (by rw[(so j' hq hs').2]; exact h5)
theorem fM (h:Inv m) (h2:Inv2 m) (hS:Sh m) (a:Int):G7 m (Rh m a):=by
 unfold Rh
 split
 ·rename_i hh
  obtain ⟨j,rfl,hs⟩:=IA hh
  rw[show ((2*j:Nat):Int).toNat/2=j from by omega]
  exact ⟨h.kill hS.sl hs,h2.kill h hS hs,Int.le_refl _,by show m.births≤m.births+1; omega,rfl,fun hc=>absurd rfl hc⟩
 ·exact G7.same h h2 _
theorem gK (hS:Sh m) {j t j':Nat} (hj:j<32*m.bls.length) (ht:t<32*m.bls.length):Start (SC m j t) j'↔j'=t∨(j'≠j∧Start m j'):=by
 have hl:=hS.sl
 unfold Start SC
 simp only
 by_cases hq:j'=t
 ·subst hq
  rw[Gg (.inl rfl) (by decide) (by rw[Og]; omega)]
  simp[ht]
 ·rw[C6 (.inl rfl) (by decide) (fun e=>hq e.symm)]
  by_cases hq2:j'=j
  ·subst hq2
   rw[Gg (.inl rfl) (by decide) (by omega)]
   simp[hq]
  ·rw[C6 (.inl rfl) (by decide) (fun e=>hq2 e.symm)]
   simp[hq,hq2]
theorem Vu (h:Inv m) {j t:Nat} (hs:Start m j) (hfit:2*t+sz m j≤m.wds.length) (a:Nat):
  (SC m j t).wds.getD a 0=if 2*t≤a∧a<2*t+sz m j then m.wds.getD (2*j+(a-2*t)) 0 else if 2*j≤a∧a<2*j+sz m j then 0 else m.wds.getD a 0:=by
 have hf:=h.fit j hs
 have hhl:((m.wds.drop (2*j)).take (sz m j)).length=sz m j:=by simp; omega
 have hl1:(SZ m.wds (2*j) (List.replicate (sz m j) 0)).length=m.wds.length:=Qz (by simpa using hf)
 show (SZ _ _ _).getD _ 0=_
 rw[KU (by rw[hhl,hl1]; exact hfit),hhl]
 split
 ·rename_i hc
  simp only[List.getD_eq_getElem?_getD,List.getElem?_take,show a-2*t<sz m j from by omega,if_true,List.getElem?_drop]
 ·rw[KU (by simpa using hf),List.length_replicate]
  split
  ·rw[List.getD_eq_getElem?_getD,List.getElem?_replicate]
   split <;> rfl
  ·rfl
theorem ey (h:Inv m) {o j a:Nat} (ho:Start m o) (hs:Start m j) (h1:2*o≤a) (h2:a<2*o+sz m o) (h3:2*j≤a) (h4:a<2*j+sz m j):o=j:=by
 rcases Nat.lt_trichotomy j o with hlt | rfl | hlt
 ·have:=h.apart j o hs ho hlt; omega
 ·rfl
 ·have:=h.apart o j ho hs hlt; omega
theorem gb (h:Inv m) {j t o a:Nat} (hs:Start m j) (hfit:2*t+sz m j≤m.wds.length)
  (hap:∀ o,Start m o→o≠j→2*o+sz m o≤2*t∨2*t+sz m j≤2*o) (ho:Start m o) (hne:o≠j) (h1:2*o≤a) (h2:a<2*o+sz m o):(SC m j t).wds.getD a 0=m.wds.getD a 0:=by
 have:=hap o ho hne
 rw[Vu h hs hfit,if_neg (by omega),if_neg]
 rintro ⟨h3,h4⟩
 exact hne (ey h ho hs h1 h2 h3 h4)
theorem Inv2.move (h:Inv m) (h2:Inv2 m) (hS:Sh m) {j t:Nat} (hs:Start m j) (ht:t<32*m.bls.length) (hfit:2*t+sz m j≤m.wds.length)
  (hap:∀ o,Start m o→o≠j→2*o+sz m o≤2*t∨2*t+sz m j≤2*o) (hk:WB m.bls (2*t) (sz m j)):Inv2 (SC m j t):=by
 have hst:=fun j'=>gK (m:=m) hS (j:=j) (t:=t) (j':=j') hs.1 ht
 have hz:=h.size hs
 have hu:=h.use hs
 have so:∀ j',j'≠j→Start m j'→sz (SC m j t) j'=sz m j'∧use (SC m j t) j'=use m j':=fun j' hne hs'=>by
  have:=YR (gb h hs hfit hap hs' hne (a:=2*j'+1) (by omega) (by have:=h.size hs'; omega))
  exact ⟨this.1,this.2.1⟩
 have st:sz (SC m j t) t=sz m j∧use (SC m j t) t=use m j:=by
  have:=YR (m:=m) (m':=SC m j t) (j:=j) (j':=t) (by rw[Vu h hs hfit,if_pos (by omega)]; congr 1; omega)
  exact ⟨this.1,this.2.1⟩
 refine ⟨fun j' hs'=>?_,fun a ha=>?_⟩
 ·by_cases hq:j'=t
  ·subst hq; rw[st.1]; exact hk
  ·rcases (hst j').1 hs' with e | ⟨hne,hs'⟩
   ·exact absurd e hq
   ·rw[(so j' hne hs').1]; exact h2.kind j' hs'
 ·rw[Vu h hs hfit]
  have hself:=ha t ((hst t).2 (.inl rfl))
  rw[st.2] at hself
  split
  ·rename_i hc
   refine h2.zero _ fun j' hs' h4 h5=>?_
   by_cases hq:j'=j
   ·subst hq
    exact hself (by omega) (by omega)
   ·have:=h.use hs'
    exact hq (ey h hs' hs h4 (by omega) (by omega) (by omega))
  ·rename_i hc
   split
   ·rfl
   ·rename_i hc2
    refine h2.zero _ fun j' hs' h4 h5=>?_
    by_cases hq:j'=j
    ·subst hq
     omega
    ·exact ha j' ((hst j').2 (.inr ⟨hq,hs'⟩)) h4 (by rw[(so j' hq hs').2]; exact h5)
theorem tc (h:Inv m) (hS:Sh m) {j:Nat} {b:Int} (hs:Start m j) (hc:OK m b (sz m j) ((2*j:Nat):Int)=0):
  ∃ t,b=((2*t:Nat):Int)∧t<32*m.bls.length∧2*t+sz m j≤m.wds.length∧(∀ o,Start m o→o≠j→2*o+sz m o≤2*t∨2*t+sz m j≤2*o)∧WB m.bls (2*t) (sz m j):=by
 have hz:=h.size hs
 have hk:=fp hz.1 hc
 obtain ⟨t,rfl,htb,hfit,hap⟩:=h.fits hS.wl hz.2.1 hz.1 hc
 rw[Int.toNat_natCast] at hk
 exact ⟨t,rfl,htb,hfit,fun o ho hne=>hap o ho (by omega),hk⟩
theorem o7 (h:Inv m) (h2:Inv2 m) (hS:Sh m) (a b:Int):G7 m (jh m a b):=by
 unfold jh
 split
 ·rename_i hh
  obtain ⟨j,rfl,hs⟩:=IA hh
  rw[show ((2*j:Nat):Int).toNat/2=j from by omega]
  split
  ·rename_i hc
   obtain ⟨t,rfl,htb,hfit,hap,hk⟩:=tc h hS hs hc
   rw[show ((2*t:Nat):Int).toNat/2=t from by omega]
   exact ⟨h.move hS.sl hs htb hfit hap,h2.move h hS hs htb hfit hap hk,Int.le_refl _,by show m.births≤m.births+1; omega,rfl,fun hc=>absurd rfl hc⟩
  ·exact G7.same h h2 _
 ·exact G7.same h h2 _
theorem iW (l:List (Int × Int)) (a c:Nat) (v:Int × Int):(l.set a v).getD c (0,0)=if a=c∧a<l.length then v else l.getD c (0,0):=by
 simp only[List.getD_eq_getElem?_getD,List.getElem?_set]
 by_cases h:a=c
 ·subst h
  by_cases h2:a<l.length
  ·simp[h2]
  ·simp[h2]
 ·simp[h]
theorem UB (b:Nat):∀ (n:Nat) (l:List (Int × Int)) (c:Nat),(gq l b n).getD c (0,0)=if b≤c∧c<b+n then (0,0) else l.getD c (0,0)
 | 0,l,c=>by rw[gq,if_neg (by omega)]
 | n+1,l,c=>by
   rw[gq,UB b n,iW]
   by_cases h1:b+n=c
   ·subst h1
    rw[if_neg (by omega),if_pos (show b≤b+n∧b+n<b+(n+1) by omega)]
    split
    ·rfl
    ·rename_i h
     rw[List.getD_eq_getElem?_getD,List.getElem?_eq_none (by omega)]; rfl
   ·rw[if_neg (show ¬ (b+n=c∧b+n<l.length) from fun h=>h1 h.1)]
    by_cases h2:b≤c∧c<b+n
    ·rw[if_pos h2,if_pos (by omega)]
    ·rw[if_neg h2,if_neg (by omega)]
theorem ch (b:Nat) (y:Int):∀ (n:Nat) (l:List (Int × Int)) (c:Nat),((cg l b y n).getD c (0,0)).1=(l.getD c (0,0)).1
 | 0,l,c=>rfl
 | n+1,l,c=>by
   rw[cg,ch b y n,iW]
   split
   ·rename_i h
    rw[h.1]
   ·rfl
theorem eX (b:Nat) (e:Int × Int):∀ (n x:Nat) (l:List (Int × Int)) (c:Nat),c<b+x∨b+x+n≤c→(Yj l b e n x).getD c (0,0)=l.getD c (0,0)
 | 0,x,l,c,h=>rfl
 | n+1,x,l,c,h=>by
   rw[Yj,eX b e n (x+1) _ c (by omega),List.getD_eq_getElem?_getD,List.getD_eq_getElem?_getD,List.getElem?_set,if_neg (by omega)]
theorem gS {l:List (Int × Int)} {b:Nat}:∀ {n x:Nat},Jv l b n x=none → ∀ c,x≤c→c<x+n→l.getD (b+c) (0,0)=(0,0)
 | 0,x,h,c,h1,h2=>by omega
 | n+1,x,h,c,h1,h2=>by
   rw[Jv] at h
   split at h
   ·rename_i hc
    rcases Nat.eq_or_lt_of_le h1 with rfl | h1
    ·exact Prod.ext hc.1 hc.2
    ·exact gS h c h1 (by omega)
   ·cases h
theorem WB.Cx {l l':List (Int × Int)} {a wo:Nat} (h:WB l a wo) (hl:∀ c,(l.getD c (0,0)).1≠0→a/64≤c→c≤(a+wo-1)/64→(l'.getD c (0,0)).1=(l.getD c (0,0)).1) (hw:0<wo):WB l' a wo:=by
 refine ⟨fun hw'=>?_,fun hw'=>?_⟩
 ·obtain ⟨h1,h2⟩:=h.1 hw'
  exact ⟨by rw[hl _ (by rw[h1]; decide) (Nat.le_refl _) (by omega)]; exact h1,h2⟩
 ·obtain ⟨h1,h2,h3⟩:=h.2 hw'
  exact ⟨by rw[hl _ (by rw[h1]; decide) (Nat.le_refl _) (by omega)]; exact h1,h2,fun c h4 h5=>by rw[hl c (by rw[h3 c h4 h5]; decide) (by omega) h5]; exact h3 c h4 h5⟩
theorem Inv2.blocks (h:Inv m) (h2:Inv2 m) (l:List (Int × Int)) (hl:l.length=m.bls.length)
  (hk:∀ j,Start m j → ∀ c,(m.bls.getD c (0,0)).1≠0→2*j/64≤c→c≤(2*j+sz m j-1)/64→(l.getD c (0,0)).1=(m.bls.getD c (0,0)).1):Inv2 { m with bls:=l }:=by
 have hs:∀ j,Start { m with bls:=l } j↔Start m j:=fun j=>by unfold Start; simp only[hl]
 refine ⟨fun j hj=>?_,fun a ha=>h2.zero a fun j hj=>ha j ((hs j).2 hj)⟩
 have hj':=(hs j).1 hj
 exact (h2.kind j hj').Cx (hk j hj') (by have:=h.size hj'; show 0<sz m j; omega)
theorem WV (h:Inv m) (h2:Inv2 m) {l:List (Int × Int)} (hl:l.length=m.bls.length)
  (hk:∀ j,Start m j → ∀ c,(m.bls.getD c (0,0)).1≠0→2*j/64≤c→c≤(2*j+sz m j-1)/64→(l.getD c (0,0)).1=(m.bls.getD c (0,0)).1):G7 m (0,{ m with bls:=l }):=
 ⟨h.blocks l hl,h2.blocks h l hl hk,Int.le_refl _,by show m.births≤m.births+1; omega,hl,fun hc=>absurd rfl hc⟩
theorem cS (h:Inv m) (h2:Inv2 m) (b y:Int):G7 m (OR m b y):=by
 unfold OR
 split
 ·exact WV h h2 (Q5 _ _ _ _) fun j _ c _ _ _=>ch _ _ _ _ _
 ·exact G7.same h h2 _
theorem lV {b:Int} {ok:Bool} (h:Qx m b ok=0):(m.bls.getD b.toNat (0,0)).1=1∨(m.bls.getD b.toNat (0,0)).1=2:=by
 unfold Qx at h
 split at h
 ·cases h
 ·split at h
  ·cases h
  ·rename_i hc
   apply Classical.byContradiction
   intro hq
   exact hc ⟨fun e=>hq (.inl e),fun e=>hq (.inr e)⟩
theorem YL (h:Inv m) (h2:Inv2 m) (b:Int):G7 m (Jb m b):=by
 unfold Jb
 split
 ·rename_i hh
  have hst:=lV hh
  split
  ·rename_i he
   refine WV h h2 (Q2 _ _ _) fun j hj c hc h3 h4=>?_
   rw[UB,if_neg]
   rintro ⟨h5,h6⟩
   generalize b.toNat=n at hst he h5 h6
   have hz:=h.size hj
   have hnb:2*j/64≠n:=by
    intro e
    have:j ∈ Cb m (32*n) 32:=by
     unfold Cb
     rw[List.mem_filter,List.mem_range'_1]
     exact ⟨by omega,decide_eq_true hj.2⟩
    rw[he] at this
    cases this
   obtain ⟨k1,k2⟩:=h2.kind j hj
   by_cases hw:sz m j≤32
   ·obtain ⟨q1,q2⟩:=k1 hw
    have hcj:c=2*j/64:=by omega
    subst hcj
    have:=Z0 (m:=m) (b:=n) (c:=2*j/64) (by omega) h6
    rw[q1] at this
    exact absurd this.2 (by decide)
   ·obtain ⟨q1,q2,q3⟩:=k2 (by omega)
    by_cases hlt:n<2*j/64
    ·have:=Z0 (m:=m) (b:=n) (c:=2*j/64) hlt (by omega)
     rw[q1] at this
     exact absurd this.2 (by decide)
    ·have:=q3 n (by omega) (by omega)
     rcases hst with e | e
     ·rw[this] at e; exact absurd e (by decide)
     ·rw[this] at e; exact absurd e (by decide)
  ·exact G7.same h h2 _
 ·exact G7.same h h2 _
theorem NS (h:Inv m) (h2:Inv2 m) (b c x y x' y':Int):G7 m (Cw m b c x y x' y'):=by
 unfold Cw
 split
 ·rename_i hc
  split
  ·rename_i hu
   have hlen:(Yj m.bls b.toNat (x',y') c.toNat 0).length=m.bls.length:=Hp _ _ _ _ _
   refine WV h h2 (by rw[List.length_set,hlen]) fun j hj q hq _ _=>?_
   have hout:q<b.toNat∨b.toNat+c.toNat≤q:=by
    apply Classical.byContradiction
    intro hn
    have:=gS hu (q-b.toNat) (by omega) (by omega)
    rw[show b.toNat+(q-b.toNat)=q from by omega] at this
    rw[this] at hq
    exact hq rfl
   rw[List.getD_eq_getElem?_getD,List.getElem?_set,if_neg (by omega),← List.getD_eq_getElem?_getD,eX _ _ _ _ _ _ (by omega)]
  ·exact G7.same h h2 _
 ·exact G7.same h h2 _
end Go.Proofs.YtlaplcglpnlieaaGreat
end
section
namespace Go.Proofs.YtlaplcglpnlieaaGreat
open Go Go.AX
noncomputable local instance zG:Bb:=Az
local instance yH:Kn:=⟨true⟩
variable {σ:Aa} {i:CU} {m:HM}
theorem uR (n:Nat):rep n [Value.int .u64 0]=rowOf (List.replicate n 0#64):=by
 simp only[rep,rowOf,List.map_replicate]
 induction n with
 | zero=>rfl
 | succ n ih=>rw[List.replicate_succ,List.flatten_cons,ih,List.replicate_succ]; rfl
theorem pN (n:Nat):rep n [Value.int .i64 0,.int .i64 0]=Cv (List.replicate n (0,0)):=by
 simp only[rep]
 induction n with
 | zero=>rfl
 | succ n ih=>rw[List.replicate_succ,List.flatten_cons,ih,List.replicate_succ]; rfl
theorem cX (k:Nat) {e:Nat} (h0:0<e) (h1:e≤4096) (σ:Aa):∃ τ tb wb,N0 (k+4) (e:Int) 1 σ=some (.tuple #[.pointer (some ⟨tb,0,none⟩),.int .i64 0],σ++τ) ∧
  Fa (σ++τ) tb wb e 1 (List.replicate ((e+63)/64) 0#64)∧σ.length≤tb∧σ.length≤wb∧tb≠wb:=by
 rw[YG,YZ]
 simp only[show decide ((e:Int)<1)=false from decide_eq_false (by omega),cond_false,show decide ((e:Int)>4096)=false from decide_eq_false (by omega),Option.bind_some,An]
 rw[Nc,Lf,Pm,Nz,Nd,Lg]
 simp only[show decide ((0:Int)<((4:Nat):Int))=true from rfl,cond_true,show ((0:Int)≤0∧(0:Int)<((4:Nat):Int))=True from by simp,if_true,Option.bind_some,Int.toNat_zero,Nat.zero_mul,Nat.add_zero,Ml,List.getElem?_cons_zero,Am,BEq.rfl,DQ,reduceCtorEq,if_false,Ao,show decide ((0:Int)≥0)=true from rfl,Bool.not_true,cond_false]
 have e1:Ae ((e:Int)*1)=(e:Int):=by rw[Ad (by unfold AV; omega)]; omega
 have e2:Ae ((e:Int)+64)=((e+64:Nat):Int):=Ad (by unfold AV; omega)
 have e3:Ae (((e+64:Nat):Int)-1)=((e+63:Nat):Int):=by rw[Ad (by unfold AV; omega)]; omega
 have e4:((e+63:Nat):Int).tdiv 64=(((e+63)/64:Nat):Int):=rfl
 have e5:Ae (((e+63)/64:Nat):Int)=(((e+63)/64:Nat):Int):=Ad (by unfold AV; omega)
 simp only[e1,e2,e3,e4,e5,show ((64:Int)=0)=False from by simp,if_false]
 rw[if_pos (by omega)]
 simp only[Int.toNat_natCast,uR]
 obtain ⟨μ,hμ⟩:∃ μ,σ++[AJ.cells [Value.int .i64 1,.int .i64 2,.int .i64 4,.int .i64 8] AP true]=μ:=⟨_,rfl⟩
 have hl:μ.length=σ.length+1:=by rw[← hμ]; simp
 rw[hμ]
 refine ⟨[AJ.cells [Value.int .i64 1,.int .i64 2,.int .i64 4,.int .i64 8] AP true,.cells (rowOf (List.replicate ((e+63)/64) 0#64)) Cc true,.cells [.int .i64 (e:Int),.int .i64 1,.slice (some ⟨σ.length+1,0,none⟩) ((e+63)/64) ((e+63)/64)] Nm true],σ.length+2,σ.length+1, ?_, ?_,by omega,by omega,by omega⟩
 ·rw[← hμ]; simp
 ·refine ⟨?_, ?_,by simp,h0,h1,.inl rfl⟩
  ·rw[List.length_replicate,List.getElem?_append_right (by omega),show σ.length+2-σ.length=2 from by omega]; rfl
  ·rw[List.getElem?_append_right (by omega),show σ.length+1-σ.length=1 from by omega]; rfl
def Qy (n:Nat):HM:={ bls:=List.replicate n (0,0),wds:=List.replicate (64*n) 0,stw:=List.replicate ((32*n+63)/64) 0#64,pnw:=List.replicate ((32*n+63)/64) 0#64,pl:=[],fw:=[],births:=0 }
theorem Inv.new (n:Nat):Inv (Qy n):=by
 have hs:∀ j,¬ Start (Qy n) j:=by
  rintro j ⟨_,h⟩
  have:FI 1 (Qy n).stw j=0:=VJ _ _ _
  omega
 exact ⟨fun j h=>absurd h (hs j),fun j h=>absurd h (hs j),fun j _ h=>absurd h (hs j),fun j h=>absurd h (hs j),fun id a h=>by simp[Qy,getM] at h,Int.le_refl _,trivial⟩
theorem Inv2.new (n:Nat):Inv2 (Qy n):=by
 have hs:∀ j,¬ Start (Qy n) j:=by
  rintro j ⟨_,h⟩
  have:FI 1 (Qy n).stw j=0:=VJ _ _ _
  omega
 refine ⟨fun j h=>absurd h (hs j),fun a _=>?_⟩
 show (List.replicate (64*n) (0:Int)).getD a 0=0
 rw[List.getD_eq_getElem?_getD,List.getElem?_replicate]
 split <;> rfl
theorem tX (k:Nat) (b:Int) (hb:¬ (2≤b∧b≤64)) (σ:Aa):Hv (k+1) b σ=some (.tuple #[.pointer none,.int .i64 1],σ):=by
 rw[TI,UZ]
 by_cases h0:b<2
 ·simp only[decide_eq_true h0,cond_true,Option.bind_some]
 ·simp only[decide_eq_false h0,cond_false,Option.bind_some,show decide (b>64)=true from decide_eq_true (by omega),cond_true]
theorem vA (k:Nat) {n:Nat} (h2:2≤n) (h64:n≤64) (σ:Aa):∃ σ' i,Hv (k+5) (n:Int) σ=some (.tuple #[.pointer (BN i),.int .i64 0],σ')∧Ah σ' i (Qy n)∧(∀ j ∈ i.l,σ.length≤j)∧BZ i σ σ':=by
 rw[TI,UZ]
 have e1:Ae ((n:Int)*64)=((64*n:Nat):Int):=by rw[Ad (by unfold AV; omega)]; omega
 simp only[show decide ((n:Int)<2)=false from decide_eq_false (by omega),cond_false,show decide ((n:Int)>64)=false from decide_eq_false (by omega),Option.bind_some,An,e1]
 rw[if_pos (by omega),if_pos (by omega)]
 simp only[Int.toNat_natCast,pN,m8]
 obtain ⟨o,ho⟩:∃ o:List AJ,[AJ.cells (Cv (List.replicate n (0,0))) AH true,.cells (CN (List.replicate (64*n) 0)) AP true,.map [],.map [],
  .cells [.slice (some ⟨σ.length,0,none⟩) n n,.slice (some ⟨σ.length+1,0,none⟩) (64*n) (64*n),.pointer none,.pointer none,.map (some (σ.length+2)),.map (some (σ.length+3)),.int .i64 0] EI true]=o:=⟨_,rfl⟩
 have hmem:(σ++[AJ.cells (Cv (List.replicate n (0,0))) AH true]++[AJ.cells (CN (List.replicate (64*n) 0)) AP true]++[AJ.map []]++[AJ.map []] ++
   [AJ.cells [.slice (some ⟨σ.length,0,none⟩) n n,.slice (some ⟨(σ++[AJ.cells (Cv (List.replicate n (0,0))) AH true]).length,0,none⟩) (64*n) (64*n),.pointer none,.pointer none,.map (some (σ++[AJ.cells (Cv (List.replicate n (0,0))) AH true]++[AJ.cells (CN (List.replicate (64*n) 0)) AP true]).length),.map (some (σ++[AJ.cells (Cv (List.replicate n (0,0))) AH true]++[AJ.cells (CN (List.replicate (64*n) 0)) AP true]++[AJ.map []]).length),.int .i64 0] EI true])=σ++o:=by
  rw[← ho]; simp
 have hh:(σ++[AJ.cells (Cv (List.replicate n (0,0))) AH true]++[AJ.cells (CN (List.replicate (64*n) 0)) AP true]++[AJ.map []]++[AJ.map []]).length=σ.length+4:=by simp
 rw[hmem,hh]
 have hol:o.length=5:=by rw[← ho]; rfl
 have g:∀ q,q<5→(σ++o)[σ.length+q]?=o[q]?:=fun q _=>by rw[List.getElem?_append_right (by omega)]; congr 1; omega
 have gd:∀ (τ:Aa) q,q<5→(σ++o++τ)[σ.length+q]?=o[q]?:=fun τ q hq=>by rw[List.getElem?_append_left (by simp; omega)]; exact g q hq
 have l1:Cr (σ++o) (σ.length+4) 1=some (some ⟨σ.length+1,0,none⟩,64*n,64*n):=by
  simp only[Cr,Gr,g 4 (by omega)]; rw[← ho]; rfl
 have e2:((64*n:Nat):Int).tdiv 2=((32*n:Nat):Int):=by
  rw[show ((64*n:Nat):Int).tdiv 2=(((64*n)/2:Nat):Int) from rfl]; omega
 have e3:Ae ((32*n:Nat):Int)=((32*n:Nat):Int):=Ad (by unfold AV; omega)
 obtain ⟨τ1,st,sw,hN1,hT1,a1,a2,a3⟩:=cX k (e:=32*n) (by omega) (by omega) (σ++o)
 simp only[Nat.zero_add,l1,Option.bind_some,show ((2:Int)=0)=False from by simp,if_false,e2,e3,hN1,ax]
 have lo:(σ++o).length=σ.length+5:=by simp[hol]
 rw[lo] at a1 a2
 obtain ⟨c,hc⟩:∃ c,[Value.slice (some ⟨σ.length,0,none⟩) n n,.slice (some ⟨σ.length+1,0,none⟩) (64*n) (64*n),.pointer none,.pointer none,.map (some (σ.length+2)),.map (some (σ.length+3)),.int .i64 0]=c:=⟨_,rfl⟩
 have o4:o[4]?=some (.cells c EI true):=by rw[← ho,← hc]; rfl
 obtain ⟨μ1,hμ1⟩:∃ μ1,σ++o++τ1=μ1:=⟨_,rfl⟩
 have b1:∀ q,q<5→μ1[σ.length+q]?=o[q]?:=fun q hq=>hμ1 ▸ gd τ1 q hq
 have L1:σ.length+5≤μ1.length:=by rw[← hμ1,List.length_append,lo]; omega
 rw[hμ1] at hT1 ⊢
 have s1:Gn μ1 (σ.length+4) 2 (.pointer (some ⟨st,0,none⟩))=some (μ1.set (σ.length+4) (.cells (c.set 2 (.pointer (some ⟨st,0,none⟩))) EI true)):=by
  simp only[Gn,b1 4 (by omega),o4]
  rw[if_pos (by rw[← hc]; simp)]
 obtain ⟨μ2,hμ2⟩:∃ μ2,μ1.set (σ.length+4) (.cells (c.set 2 (.pointer (some ⟨st,0,none⟩))) EI true)=μ2:=⟨_,rfl⟩
 rw[hμ2] at s1
 have b2:∀ q,q≠σ.length+4→μ2[q]?=μ1[q]?:=fun q hq=>by rw[← hμ2]; exact List.getElem?_set_ne (Ne.symm hq)
 have b2h:μ2[σ.length+4]?=some (.cells (c.set 2 (.pointer (some ⟨st,0,none⟩))) EI true):=by rw[← hμ2]; exact List.getElem?_set_self (by omega)
 have L2:μ2.length=μ1.length:=by rw[← hμ2]; simp
 have l2:Cr μ2 (σ.length+4) 1=some (some ⟨σ.length+1,0,none⟩,64*n,64*n):=by
  simp only[Cr,Gr,b2h]; rw[← hc]; rfl
 obtain ⟨τ2,pn,pw,hN2,hT2,p1,p2,p3⟩:=cX k (e:=32*n) (by omega) (by omega) μ2
 have t1:=hT1.lt
 obtain ⟨μ3,hμ3⟩:∃ μ3,μ2++τ2=μ3:=⟨_,rfl⟩
 have b3:∀ q,q<μ2.length→μ3[q]?=μ2[q]?:=fun q hq=>by rw[← hμ3]; exact List.getElem?_append_left hq
 have L3:μ2.length≤μ3.length:=by rw[← hμ3]; simp
 rw[hμ3] at hN2 hT2
 have s3:Gn μ3 (σ.length+4) 3 (.pointer (some ⟨pn,0,none⟩))=some (μ3.set (σ.length+4) (.cells ((c.set 2 (.pointer (some ⟨st,0,none⟩))).set 3 (.pointer (some ⟨pn,0,none⟩))) EI true)):=by
  simp only[Gn,b3 (σ.length+4) (by omega),b2h]
  rw[if_pos (by rw[← hc]; simp)]
 obtain ⟨μ4,hμ4⟩:∃ μ4,μ3.set (σ.length+4) (.cells ((c.set 2 (.pointer (some ⟨st,0,none⟩))).set 3 (.pointer (some ⟨pn,0,none⟩))) EI true)=μ4:=⟨_,rfl⟩
 rw[hμ4] at s3
 have b4:∀ q,q≠σ.length+4→μ4[q]?=μ3[q]?:=fun q hq=>by rw[← hμ4]; exact List.getElem?_set_ne (Ne.symm hq)
 have b4h:μ4[σ.length+4]?=some (.cells ((c.set 2 (.pointer (some ⟨st,0,none⟩))).set 3 (.pointer (some ⟨pn,0,none⟩))) EI true):=by rw[← hμ4]; exact List.getElem?_set_self (by omega)
 have L4:μ4.length=μ3.length:=by rw[← hμ4]; simp
 have b:∀ q,q<μ2.length→q≠σ.length+4→μ4[q]?=μ1[q]?:=fun q h1 h2=>(b4 q h2).trans ((b3 q h1).trans (b2 q h2))
 have bo:∀ q,q<4→μ4[σ.length+q]?=o[q]?:=fun q hq=>(b _ (by omega) (by omega)).trans (b1 q (by omega))
 simp only[s1,Option.bind_some,l2,e2,e3,hN2,ax,s3]
 refine ⟨μ4,⟨σ.length+4,σ.length,σ.length+1,st,sw,pn,pw,σ.length+2,σ.length+3⟩,rfl, ?_, ?_, ?_⟩
 ·refine ⟨?_, ?_, ?_, ?_, ?_, ?_, ?_, ?_, ?_, ?_, ?_, ?_⟩
  ·rw[b4h,← hc]
   simp[Qy]
  ·show μ4[σ.length]?=_
   have:=bo 0 (by omega)
   rw[Nat.add_zero] at this
   rw[this,← ho]; rfl
  ·show μ4[σ.length+1]?=_
   rw[bo 1 (by omega),← ho]; rfl
  ·show Fa μ4 st sw (32*(List.replicate n ((0:Int),(0:Int))).length) 1 _
   rw[List.length_replicate]
   exact hT1.same (b _ (by omega) (by omega)) (b _ (by omega) (by omega))
  ·show Fa μ4 pn pw (32*(List.replicate n ((0:Int),(0:Int))).length) 1 _
   rw[List.length_replicate]
   exact hT2.same (b4 _ (by omega)) (b4 _ (by omega))
  ·show μ4[σ.length+2]?=_
   rw[bo 2 (by omega),← ho]; rfl
  ·show μ4[σ.length+3]?=_
   rw[bo 3 (by omega),← ho]; rfl
  ·simpa [Qy] using h2
  ·simpa [Qy] using h64
  ·simp[Qy]
  ·simp only[CU.l,List.nodup_cons,List.mem_cons,List.not_mem_nil,or_false,not_or,List.nodup_nil,not_false_eq_true,and_true]
   have:=hT2.lt
   refine ⟨⟨?_, ?_, ?_, ?_, ?_, ?_, ?_, ?_⟩,⟨?_, ?_, ?_, ?_, ?_, ?_, ?_⟩,⟨?_, ?_, ?_, ?_, ?_, ?_⟩,⟨?_, ?_, ?_, ?_, ?_⟩,⟨?_, ?_, ?_, ?_⟩,⟨?_, ?_, ?_⟩,⟨?_, ?_⟩, ?_⟩ <;> omega
  ·intro a
   show AV ((List.replicate (64*n) (0:Int)).getD a 0)
   rw[List.getD_eq_getElem?_getD,List.getElem?_replicate]
   split <;> (unfold AV; decide)
 ·intro j hj
  simp only[CU.l,List.mem_cons,List.not_mem_nil,or_false] at hj
  omega
 ·refine ⟨by omega,fun j hj hne=>?_⟩
  rw[b j (by omega) (by omega),← hμ1,List.append_assoc,List.getElem?_append_left hj]
end Go.Proofs.YtlaplcglpnlieaaGreat
end
