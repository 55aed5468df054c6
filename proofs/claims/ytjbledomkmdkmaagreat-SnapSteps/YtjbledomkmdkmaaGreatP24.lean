/- Move.; What the calls leave holds together; plain laws.; New.; Calls one by one, and all of them: do, Made.; Small things that more than one law uses. -/
import Derived.Test.YtjbledomkmdkmaaGreatP23
set_option linter.unusedVariables false
set_option linter.unusedSimpArgs false
set_option linter.unusedSectionVars false
section
namespace Go.Proofs.YtjbledomkmdkmaaGreat
open Go Go.AX
noncomputable local instance qCV:A9:=Aw
local instance nCV:Kn:=⟨true⟩
variable {σ:Aa} {i:DD} {m:HM}
def od (m:HM) (t:Nat) (id:Int) (held:List Int):HM:=
 { m with wds:=VS m.wds (2*t) held,stw:=GR 1 m.stw t 1,pl:=Wy id ((2*t:Nat):Int) m.pl }
theorem Ab3 {t j':Nat} {id:Int} {held:List Int} (hl:32*m.bls.length≤64*m.stw.length) (hj:t<32*m.bls.length):Start (od m t id held) j'↔j'=t∨Start m j':=by
 unfold Start od
 simp only
 by_cases hq:j'=t
 ·subst hq
  simp only[true_or,iff_true]
  exact ⟨hj,Fo (.inl rfl) (by decide) (by omega)⟩
 ·rw[Ca (.inl rfl) (by decide) (fun e=>hq e.symm)]
  simp[hq]
theorem Inv.add (h:Inv m) (hl:32*m.bls.length≤64*m.stw.length) {t:Nat} {id:Int} {held:List Int} {r d k:Int} (hv:valid r d k=true) (hj:t<32*m.bls.length)
  (hlen:held.length=XF (num r d k)) (h0:held.getD 0 0=id) (h1:held.getD 1 0=num r d k) (hid:1≤id∧id≤m.births) (hnone:getM m.pl id=none)
  (hfit:2*t+XF (num r d k)≤m.wds.length) (hap:∀ o,Start m o→2*o+sz m o≤2*t∨2*t+XF (num r d k)≤2*o):Inv (od m t id held):=by
 have hst:=fun j'=>Ab3 (m:=m) (t:=t) (j':=j') (id:=id) (held:=held) hl hj
 have h3:2≤XF (num r d k):=by
  rw[OG hv]
  simp[valid] at hv
  omega
 have hnj:¬ Start m t:=fun hs=>by
  have h1:=hap t hs
  have h2:=h.size hs
  omega
 have hle:2*t+held.length≤m.wds.length:=by omega
 have w0:(od m t id held).wds.getD (2*t) 0=id:=by
  show (VS _ _ _).getD _ 0=_
  rw[L9 hle,if_pos (by omega),Nat.sub_self,h0]
 have w1:(od m t id held).wds.getD (2*t+1) 0=num r d k:=by
  show (VS _ _ _).getD _ 0=_
  rw[L9 hle,if_pos (by omega),show 2*t+1-2*t=1 from by omega,h1]
 have wo:∀ j',Start m j' → ∀ c,c<2→(od m t id held).wds.getD (2*j'+c) 0=m.wds.getD (2*j'+c) 0:=by
  intro j' hs' c hc
  have hz:=h.size hs'
  have:=hap j' hs'
  show (VS _ _ _).getD _ 0=_
  rw[L9 hle,if_neg (by omega)]
 have s1:sz (od m t id held) t=XF (num r d k):=by unfold sz; rw[w1]
 have so:∀ j',Start m j'→sz (od m t id held) j'=sz m j':=fun j' hs'=>by unfold sz; rw[wo j' hs' 1 (by decide)]
 have wl:(od m t id held).wds.length=m.wds.length:=PN hle
 have wo0:∀ j',Start m j'→(od m t id held).wds.getD (2*j') 0=m.wds.getD (2*j') 0:=fun j' hs'=>wo j' hs' 0 (by decide)
 have hpl:∀ x,getM (od m t id held).pl x=if x=id then some ((2*t:Nat):Int) else getM m.pl x:=fun x=>VE _ _ _ _
 refine ⟨fun j' hs'=>?_,fun j' hs'=>?_,fun j1 j2 h1 h2 hlt=>?_,fun j' hs'=>?_,fun id' a hg=>?_,h.brt,cK _ _ _ h.onc⟩
 ·rcases (hst j').1 hs' with rfl | hs'
  ·exact ⟨r,d,k,hv,w1⟩
  ·obtain ⟨r',d',k',hv',hn⟩:=h.good j' hs'
   exact ⟨r',d',k',hv',by rw[wo j' hs' 1 (by decide)]; exact hn⟩
 ·rw[wl]
  rcases (hst j').1 hs' with rfl | hs'
  ·rw[s1]; exact hfit
  ·rw[so j' hs']; exact h.fit j' hs'
 ·rcases (hst j1).1 h1 with rfl | h1'
  ·rcases (hst j2).1 h2 with rfl | h2'
   ·omega
   ·rw[s1]
    have:=hap j2 h2'
    have:=h.size h2'
    omega
  ·rw[so j1 h1']
   rcases (hst j2).1 h2 with rfl | h2'
   ·have:=hap j1 h1'
    omega
   ·exact h.apart j1 j2 h1' h2' hlt
 ·rw[hpl]
  rcases (hst j').1 hs' with rfl | hs'
  ·rw[w0]
   exact ⟨hid.1,hid.2,if_pos rfl⟩
  ·rw[wo0 j' hs']
   obtain ⟨i1,i2,i3⟩:=h.idn j' hs'
   refine ⟨i1,i2, ?_⟩
   rw[if_neg (fun e=>by rw[e,hnone] at i3; cases i3)]; exact i3
 ·rw[hpl] at hg
  split at hg
  ·rename_i hid'
   cases hg
   exact ⟨t,rfl,(hst t).2 (.inl rfl),by rw[w0,hid']⟩
  ·obtain ⟨j',rfl,hs',he⟩:=h.plc id' a hg
   exact ⟨j',rfl,(hst j').2 (.inr hs'),by rw[wo0 j' hs']; exact he⟩
theorem Inv.places (h:Inv m) (l:List (Int × Int)) (ho:aC l) (hg:∀ x,getM l x=getM m.pl x):Inv { m with pl:=l }:=
 ⟨h.good,h.fit,h.apart,fun j hs=>by rw[hg]; exact h.idn j hs,fun id a e=>h.plc id a (by rw[← hg]; exact e),h.brt,ho⟩
def VO (m:HM) (j t:Nat):HM:=
 { m with
   wds:=VS (VS m.wds (2*j) (List.replicate (sz m j) 0)) (2*t) ((m.wds.drop (2*j)).take (sz m j))
   stw:=GR 1 (GR 1 m.stw j 0) t 1
   pnw:=GR 1 (GR 1 m.pnw j 0) t (Ec 1 m.pnw j)
   pl:=Wy (m.wds.getD (2*j) 0) ((2*t:Nat):Int) m.pl
   fw:=Wy ((2*j:Nat):Int) ((2*t:Nat):Int) m.fw }
theorem Inv.move (h:Inv m) (hl:32*m.bls.length≤64*m.stw.length) {j t:Nat} (hs:Start m j) (ht:t<32*m.bls.length) (hfit:2*t+sz m j≤m.wds.length)
  (hap:∀ o,Start m o→o≠j→2*o+sz m o≤2*t∨2*t+sz m j≤2*o):Inv (VO m j t):=by
 have hj:=hs.1
 have hf:=h.fit j hs
 have hz:=h.size hs
 have hst:=fun j'=>Sr (m:=m) (j:=j) (j':=j') hl hj
 obtain ⟨r,d,k,hv,hn⟩:=h.good j hs
 obtain ⟨i1,i2,i3⟩:=h.idn j hs
 have hsz:sz m j=XF (num r d k):=by unfold sz; rw[hn]
 have hk:=h.kill hl hs
 have held:∀ c,c<sz m j→((m.wds.drop (2*j)).take (sz m j)).getD c 0=m.wds.getD (2*j+c) 0:=by
  intro c hc
  simp only[List.getD_eq_getElem?_getD,List.getElem?_take,hc,if_true,List.getElem?_drop]
 have wl:(KB m j).wds.length=m.wds.length:=PN (by simpa using hf)
 have so:∀ o,Start m o→o≠j→sz (KB m j) o=sz m o:=by
  intro o ho hne
  have hz':=h.size ho
  unfold sz
  congr 1
  show (VS _ _ _).getD _ 0=_
  rw[L9 (by simpa using hf),if_neg]
  rintro ⟨p1,p2⟩
  simp only[List.length_replicate] at p2
  rcases Nat.lt_trichotomy j o with hlt | rfl | hlt
  ·have:=h.apart j o hs ho hlt; omega
  ·exact hne rfl
  ·have:=h.apart o j ho hs hlt; omega
 have ha:=hk.add (t:=t) (id:=m.wds.getD (2*j) 0) (held:=(m.wds.drop (2*j)).take (sz m j)) (r:=r) (d:=d) (k:=k)
  (by show 32*m.bls.length≤64*(GR _ _ _ _).length; rw[Hg]; exact hl) hv ht (by rw[← hsz]; simp; omega) (held 0 (by omega)) (by rw[held 1 (by omega),hn]) ⟨i1,i2⟩
  (by show getM (ki _ _) _=none; rw[cr _ _ _ h.onc,if_pos rfl]) (by rw[← hsz,wl]; exact hfit)
  (fun o ho=>by
   obtain ⟨hne,ho'⟩:=(hst o).1 ho
   rw[← hsz,so o ho' hne]; exact hap o ho' hne)
 have hp:=ha.places (Wy (m.wds.getD (2*j) 0) ((2*t:Nat):Int) m.pl) (cK _ _ _ h.onc) (fun x=>by
  show getM (Wy _ _ _) x=getM (Wy _ _ (ki _ _)) x
  rw[VE,VE,cr _ _ _ h.onc]
  split <;> rfl)
 exact (hp.pins (GR 1 (GR 1 m.pnw j 0) t (Ec 1 m.pnw j))).vt (Wy ((2*j:Nat):Int) ((2*t:Nat):Int) m.fw)
def Ah8 (m:HM) (a b:Int):Int × HM:=
 if Ea m a then (if QB m b (sz m (a.toNat/2)) a=0 then (0,VO m (a.toNat/2) (b.toNat/2)) else (QB m b (sz m (a.toNat/2)) a,m)) else (4,m)
theorem Inv.blocks (h:Inv m) (l:List (Int × Int)) (hl:l.length=m.bls.length):Inv { m with bls:=l }:=by
 have hs:∀ j,Start { m with bls:=l } j↔Start m j:=fun j=>by unfold Start; simp only[hl]
 exact ⟨fun j hj=>h.good j ((hs j).1 hj),fun j hj=>h.fit j ((hs j).1 hj),fun j j' h1 h2=>h.apart j j' ((hs j).1 h1) ((hs j').1 h2),fun j hj=>h.idn j ((hs j).1 hj),fun id a e=>by
  obtain ⟨j,e1,e2,e3⟩:=h.plc id a e
  exact ⟨j,e1,(hs j).2 e2,e3⟩,h.brt,h.onc⟩
theorem dB:∀ (l:List (Int × Int)) (b:Nat) (x y:Int),b<l.length→Dd (l.set b (x,y))=AL (Dd l) (b*2) [.int .i64 x,.int .i64 y]
 | [],_,_,_,h=>by simp at h
 | e::l,0,x,y,h=>by simp[Dd,AL]
 | e::l,b+1,x,y,h=>by
   have ih:=dB l b x y (by simpa using h)
   have e1:(b+1)*2=b*2+1+1:=by omega
   simp only[List.set_cons_succ,Dd,ih,e1,AL,List.take_succ_cons,List.drop_succ_cons,List.cons_append,List.length_cons,List.length_nil]
theorem An.stB (h:An σ i m) {b:Nat} (hb:b<m.bls.length) (x y:Int):XJ σ i.bl (b*2) [.int .i64 x,.int .i64 y]=some (σ.set i.bl (.cells (Dd (m.bls.set b (x,y))) Gc true)) ∧
  An (σ.set i.bl (.cells (Dd (m.bls.set b (x,y))) Gc true)) i { m with bls:=m.bls.set b (x,y) }:=by
 refine ⟨?_,h.zv _ (by simp)⟩
 have:b*2+2≤(Dd m.bls).length:=by rw[KU]; omega
 simp only[XJ,h.bl,List.length_cons,List.length_nil,Nat.zero_add,Nat.reduceAdd,this,if_true,dB _ _ _ _ hb]
def px (l:List (Int × Int)) (b:Nat):Nat→List (Int × Int)
 | 0=>l
 | n+1=>px (l.set (b+n) (0,0)) b n
def Ahi (l:List (Int × Int)) (b:Nat) (y:Int):Nat→List (Int × Int)
 | 0=>l
 | n+1=>Ahi (l.set (b+n) ((l.getD (b+n) (0,0)).1,y)) b y n
theorem lW (b:Nat):∀ (n:Nat) (l:List (Int × Int)),(px l b n).length=l.length
 | 0,l=>rfl
 | n+1,l=>by rw[px,lW b n]; simp
theorem fe (k:Nat) {b:Nat}:∀ (n f:Nat) (σ:Aa) (m:HM),An σ i m→b+n≤m.bls.length→n<f → ∃ σ',CU k f (AV i) (b:Int) (n:Int) σ=some (.exit 0,[],σ')∧An σ' i { m with bls:=px m.bls b n }∧Bu i σ σ'
 | 0,0,σ,m,h,hb,hf=>by omega
 | 0,f+1,σ,m,h,hb,hf=>by
   rw[IP,FC]
   try simp only[sw,Ad,Af,Ae]
   exact ⟨σ,rfl,h,Bu.refl _ _⟩
 | n+1,0,σ,m,h,hb,hf=>by omega
 | n+1,f+1,σ,m,h,hb,hf=>by
   have ht:=h.nt
   obtain ⟨e1,h1⟩:=h.stB (b:=b+n) (by omega) 0 0
   obtain ⟨σ',e2,h2,k2⟩:=fe k n f _ _ h1 (by show b+n≤(m.bls.set _ _).length; rw[List.length_set]; omega) (by omega)
   refine ⟨σ', ?_,h2,(Bu.set _ _ (by simp[DD.l])).trans k2⟩
   rw[IP,FC]
   try simp only[sw,Ad,Af,Ae]
   have q:decide (((n+1:Nat):Int)>0)=true:=decide_eq_true (by omega)
   have w1:Cf ((b:Int)+((n+1:Nat):Int))=((b+n+1:Nat):Int):=by rw[Ak (by unfold AU; omega)]; omega
   have w2:Cf (((b+n+1:Nat):Int)-1)=((b+n:Nat):Int):=by rw[Ak (by unfold AU; omega)]; omega
   have w3:Cf (((n+1:Nat):Int)-1)=(n:Int):=by rw[Ak (by unfold AU; omega)]; omega
   simp only[q,cond_true,Option.bind_some,Nat.add_zero,h.K2,w1,w2,w3]
   rw[if_pos (by omega)]
   simp only[Option.bind_some,Nat.zero_add,Int.toNat_natCast,e1]
   exact e2
theorem zC (k:Nat) (h:An σ i m) (b:Int):CX (k+2) (AV i) b σ=some (.bool (decide (1≤b∧b<(m.bls.length:Int))),σ):=by
 rw[SR,LU]
 try simp only[sw,Ad,Af,Ae]
 simp only[Lt _ h,Option.bind_some,Ar,cond_true]
 by_cases h0:1≤b
 ·simp only[show decide (b≥1)=true from by simpa using h0,cond_true,Nat.zero_add,Option.bind_some,h.K2]
  simp[h0]
 ·simp only[show decide (b≥1)=false from by simpa using h0,cond_false,Option.bind_some]
  simp[h0]
def aq (m:HM) (b:Int) (ok:Bool):Int:=
 if ¬ (1≤b∧b<(m.bls.length:Int))∨ok=false then 1
 else if (m.bls.getD b.toNat (0,0)).1≠1∧(m.bls.getD b.toNat (0,0)).1≠2 then 5 else 0
theorem Agn (k:Nat) (h:An σ i m) (b:Int) (ok:Bool):G2 (k+3) (AV i) b ok σ=some (.int .i64 (aq m b ok),σ):=by
 rw[TU,MN]
 try simp only[sw,Ad,Af,Ae]
 simp only[Lt _ h,zC _ h,Option.bind_some,Ar,Bool.not_true,cond_false]
 unfold aq
 by_cases h0:1≤b∧b<(m.bls.length:Int)
 rotate_left
 ·simp[h0]
 obtain ⟨n,rfl⟩:∃ n:Nat,b=(n:Int):=⟨b.toNat,by omega⟩
 have hn:n<m.bls.length:=by omega
 have q0:decide (1≤(n:Int)∧(n:Int)<(m.bls.length:Int))=true:=decide_eq_true h0
 simp only[q0,Bool.not_true,cond_false,Option.bind_some]
 cases ok with
 | false=>simp
 | true=>
   have q1:(¬ (1≤(n:Int)∧(n:Int)<(m.bls.length:Int))∨true=false)=False:=eq_false (by simp; omega)
   simp only[Bool.not_true,cond_false,Nat.zero_add,Nat.add_zero,h.K2,Option.bind_some,q1,if_false]
   rw[if_pos (show 0≤(n:Int)∧(n:Int)<((m.bls.length:Nat):Int) by omega)]
   simp only[Option.bind_some,Int.toNat_natCast,Nat.zero_add,(h.lO hn).1]
   by_cases g1:(m.bls.getD n (0,0)).1=1
   ·simp only[g1,bne_self_eq_false,cond_false,Option.bind_some,ne_eq,not_true_eq_false,false_and,if_false]
   ·have p1:((m.bls.getD n (0,0)).1 != 1)=true:=bne_iff_ne.2 g1
    simp only[p1,cond_true]
    rw[if_pos (show 0≤(n:Int)∧(n:Int)<((m.bls.length:Nat):Int) by omega)]
    simp only[Option.bind_some,(h.lO hn).1]
    by_cases g2:(m.bls.getD n (0,0)).1=2
    ·simp only[g2,bne_self_eq_false,cond_false,ne_eq,not_true_eq_false,and_false,if_false]
    ·have p2:((m.bls.getD n (0,0)).1 != 2)=true:=bne_iff_ne.2 g2
     simp only[p2,cond_true,ne_eq,g1,g2,not_false_eq_true,and_self,if_true]
theorem oS {b:Int} {ok:Bool} (h:aq m b ok=0):∃ n:Nat,b=(n:Int)∧1≤n∧n<m.bls.length∧ok=true:=by
 unfold aq at h
 split at h
 ·cases h
 ·rename_i h0
  refine ⟨b.toNat, ?_, ?_, ?_, ?_⟩
  ·omega
  ·omega
  ·omega
  ·cases ok <;> simp at h0 ⊢
theorem wE {b:Nat} (hb:b<m.bls.length):b+Ok m b≤m.bls.length:=pU m b _ 1 (by omega)
def qM (y:Int):Bool:=decide (0≤y∧y<8)
theorem Afc (k:Nat) (y:Int) (σ:Aa):KZ (k+1) y σ=some (.bool (qM y),σ):=by
 rw[ae,U6]
 try simp only[sw,Ad,Af,Ae]
 unfold qM
 by_cases h0:0≤y <;> simp[h0]
def Aey (m:HM) (b y:Int):Int × HM:=
 if aq m b (qM y)=0 then (0,{ m with bls:=Ahi m.bls b.toNat y (Ok m b.toNat) }) else (aq m b (qM y),m)
def DJ (m:HM) (b:Int):Int × HM:=
 if aq m b true=0 then (if FP m (32*b.toNat) 32=[] then (0,{ m with bls:=px m.bls b.toNat (Ok m b.toNat) }) else (8,m)) else (aq m b true,m)
theorem sR (k:Nat) (hk:5000≤k) (h:An σ i m) (b:Int):RA (DM (k+7) (AV i) b σ) σ i (DJ m b):=by
 unfold DJ
 have ht:=h.nt
 rw[Q0,JM]
 try simp only[sw,Ad,Af,Ae]
 simp only[Agn (k+3) h b true,Option.bind_some,Aj]
 by_cases hc:aq m b true=0
 rotate_left
 ·have q:(aq m b true != 0)=true:=bne_iff_ne.2 hc
  simp only[q,cond_true]
  exact RA.same h [] (by rw[List.append_nil]) (if_neg hc)
 rw[if_pos hc]
 obtain ⟨n,rfl,h1,h2,_⟩:=oS hc
 rw[Int.toNat_natCast]
 obtain ⟨τ,s,e1,e2⟩:=nB k hk h h2
 simp only[hc,bne_self_eq_false,cond_false,e1,Option.bind_some,H7]
 by_cases hl:((s.2.1:Nat):Int)>0
 ·simp only[show decide (((s.2.1:Nat):Int)>0)=true from decide_eq_true hl,cond_true]
  refine RA.same h τ (code:=8) rfl (if_neg fun he=>?_)
  have hlen:=e2.len
  rw[he] at hlen
  simp[EU] at hlen
  omega
 ·have hse:FP m (32*n) 32=[]:=by
   have hlen:=e2.len
   simp[EU] at hlen
   exact List.length_eq_zero_iff.1 (by omega)
  rw[if_pos hse]
  simp only[show decide (((s.2.1:Nat):Int)>0)=false from decide_eq_false hl,cond_false]
  obtain ⟨σ',e,h3,k3⟩:=fe (k+6) (b:=n) (Ok m n) (k+6) (σ++τ) m (h.app τ) (wE h2) (by have:=wE h2; omega)
  simp only[zA (k+5) (by omega) (h.app τ) h2,Option.bind_some,Aj,e,if_true]
  exact ⟨σ',rfl,h3,(Bu.app i σ τ).trans k3⟩
theorem Agl (x y:Int):Od P AW (.agg #[.int .i64 x,.int .i64 y]) (.agg #[.int .i64 0,.int .i64 0])=(bif x == 0 then some (y == 0) else some false):=by kernel_rfl
theorem vg (k:Nat) (x y:Int) (σ:Aa):∃ τ,CV (k+1) x y σ=some (.bool (!(bif x == 0 then y == 0 else false)),σ++τ):=by
 rw[PB,Jk]
 try simp only[sw,Ad,Af,Ae]
 simp only[AM,BJ,Nat.zero_add,List.getElem?_cons_zero,List.getElem?_cons_succ,Option.bind_some,Aj]
 rw[Agl]
 cases x == 0 <;> exact ⟨_,rfl⟩
def Om (l:List (Int × Int)) (b:Nat):Nat→Nat→Option Nat
 | 0,_=>none
 | n+1,x=>if (l.getD (b+x) (0,0)).1=0∧(l.getD (b+x) (0,0)).2=0 then Om l b n (x+1) else some x
theorem kW (k:Nat) {b c:Nat} (c2:Nat) (v:Value) (hv:∀ x y σ,∃ τ,Js k v [.agg #[.int .i64 x,.int .i64 y]] σ=some (.bool (!(bif x == 0 then y == 0 else false)),σ++τ)):∀ (n x f:Nat) (σ:Aa),An σ i m→b+c≤m.bls.length→x+n=c→n<f →
  ∃ τ,Bc k f (some ⟨i.bl,b*2,none⟩) c c2 v (c:Int) (x:Int) σ=some (match Om m.bls b n x with | some x'=>(.ret,[.int .i64 (x':Int)],σ++τ) | none=>(.exit 0,[],σ++τ))
 | 0,x,0,σ,h,hb,hx,hf=>by omega
 | 0,x,f+1,σ,h,hb,hx,hf=>by
   rw[Fl,CS]
   try simp only[sw,Ad,Af,Ae]
   have q:decide ((x:Int)<(c:Int))=false:=decide_eq_false (by omega)
   exact ⟨[],by simp only[q,cond_false,Om,List.append_nil]⟩
 | n+1,x,0,σ,h,hb,hx,hf=>by omega
 | n+1,x,f+1,σ,h,hb,hx,hf=>by
   have ht:=h.nt
   have q:decide ((x:Int)<(c:Int))=true:=decide_eq_true (by omega)
   have hbx:b+x<m.bls.length:=by omega
   obtain ⟨l1,l2⟩:=h.lO hbx
   have a1:Dg .i64 σ i.bl (b*2+x*2)=some (m.bls.getD (b+x) (0,0)).1:=by rw[← l1]; congr 1; omega
   have a2:Dg .i64 σ i.bl (b*2+x*2+1)=some (m.bls.getD (b+x) (0,0)).2:=by rw[← l2]; congr 1; omega
   obtain ⟨τ,hcall⟩:=hv (m.bls.getD (b+x) (0,0)).1 (m.bls.getD (b+x) (0,0)).2 σ
   have w1:Cf ((x:Int)+1)=((x+1:Nat):Int):=Ak (by unfold AU; omega)
   obtain ⟨τ2,ih⟩:=kW k c2 v hv n (x+1) f (σ++τ) (h.app τ) hb (by omega) (by omega)
   rw[Fl,CS]
   try simp only[sw,Ad,Af,Ae]
   simp only[q,cond_true]
   rw[if_pos (by omega)]
   simp only[Option.bind_some,Int.toNat_natCast,a1,a2,hcall,Ar,w1]
   rw[Om]
   by_cases g1:(m.bls.getD (b+x) (0,0)).1=0
   ·by_cases g2:(m.bls.getD (b+x) (0,0)).2=0
    ·rw[if_pos ⟨g1,g2⟩]
     simp only[g1,g2,BEq.rfl,cond_true,Bool.not_true,cond_false]
     refine ⟨τ++τ2, ?_⟩
     rw[ih,List.append_assoc]
    ·rw[if_neg (fun hh=>g2 hh.2)]
     have p2:((m.bls.getD (b+x) (0,0)).2 == 0)=false:=by simpa using g2
     simp only[g1,BEq.rfl,cond_true,p2,Bool.not_false]
     exact ⟨τ,rfl⟩
   ·rw[if_neg (fun hh=>g1 hh.1)]
    have p1:((m.bls.getD (b+x) (0,0)).1 == 0)=false:=by simpa using g1
    simp only[p1,cond_false,Bool.not_false,cond_true]
    exact ⟨τ,rfl⟩
def gj (l:List (Int × Int)) (b:Nat) (e:Int × Int):Nat→Nat→List (Int × Int)
 | 0,_=>l
 | n+1,x=>gj (l.set (b+x) e) b e n (x+1)
theorem KV (b:Nat) (e:Int × Int):∀ (n x:Nat) (l:List (Int × Int)),(gj l b e n x).length=l.length
 | 0,x,l=>rfl
 | n+1,x,l=>by rw[gj,KV b e n]; simp
theorem lK (k:Nat) {b c:Nat} (e:Int × Int) (hb3:Nat):∀ (n x f:Nat) (σ:Aa) (m:HM),An σ i m→hb3 ∉ i.l→(∃ T,σ[hb3]?=some (.cells [.int .i64 e.1,.int .i64 e.2] T true))→b+c≤m.bls.length→x+n=c→n<f →
  ∃ σ',Dx k f (AV i) (b:Int) hb3 (c:Int) (x:Int) σ=some (.exit 1,[],σ')∧An σ' i { m with bls:=gj m.bls b e n x }∧Bu i σ σ'
 | 0,x,0,σ,m,h,hn,hbox,hb,hx,hf=>by omega
 | 0,x,f+1,σ,m,h,hn,hbox,hb,hx,hf=>by
   rw[Ki,GU]
   try simp only[sw,Ad,Af,Ae]
   have q:decide ((x:Int)<(c:Int))=false:=decide_eq_false (by omega)
   exact ⟨σ,by simp only[q,cond_false],h,Bu.refl _ _⟩
 | n+1,x,0,σ,m,h,hn,hbox,hb,hx,hf=>by omega
 | n+1,x,f+1,σ,m,h,hn,hbox,hb,hx,hf=>by
   have ht:=h.nt
   obtain ⟨T,hbox⟩:=hbox
   have q:decide ((x:Int)<(c:Int))=true:=decide_eq_true (by omega)
   obtain ⟨e1,h1⟩:=h.stB (b:=b+x) (by omega) e.1 e.2
   have k1:Bu i σ (σ.set i.bl (.cells (Dd (m.bls.set (b+x) (e.1,e.2))) Gc true)):=Bu.set _ _ (by simp[DD.l])
   obtain ⟨σ',e2,h2,k2⟩:=lK k e hb3 n (x+1) f _ _ h1 hn ⟨T,(k1.same _ (Al hbox) hn).trans hbox⟩ (by show b+c≤(m.bls.set _ _).length; rw[List.length_set]; omega) (by omega) (by omega)
   refine ⟨σ', ?_,h2,k1.trans k2⟩
   have w1:Cf ((x:Int)+1)=((x+1:Nat):Int):=Ak (by unfold AU; omega)
   have w2:Cf ((b:Int)+(x:Int))=((b+x:Nat):Int):=Ak (by unfold AU; omega)
   have l0:Dg .i64 σ hb3 0=some e.1:=by simp[Dg,Gi,hbox,Ml]
   have l1:Dg .i64 σ hb3 1=some e.2:=by simp[Dg,Gi,hbox,Ml]
   rw[Ki,GU]
   try simp only[sw,Ad,Af,Ae]
   simp only[q,cond_true,Option.bind_some,Nat.add_zero,Nat.zero_add,h.K2,l0,l1,w1,w2]
   rw[if_pos (by omega)]
   simp only[Option.bind_some,Int.toNat_natCast,e1]
   exact e2
theorem uf (h:An σ i m) {a b:Nat} (hab:a<b) (hb:b≤m.bls.length):
  HK AW 2 (some ⟨i.bl,0,none⟩,m.bls.length,m.bls.length) (some (.int .i64 (a:Int))) (some (.int .i64 (b:Int))) none σ=some (some ⟨i.bl,a*2,none⟩,b-a,m.bls.length-a):=by
 have e1:elemAt σ i.bl=some AW:=by simp only[elemAt,h.bl]
 have c1:(0≤(b:Int)∧(b:Int)≤((m.bls.length:Nat):Int)):=by omega
 have c2:(0≤(a:Int)∧(a:Int)≤((b:Nat):Int)):=by omega
 simp only[HK,Option.isSome_none,Bool.not_false,Bool.true_or,cond_true,bound,Int.toNat_natCast]
 rw[if_pos c1,if_pos c2,if_neg (by omega)]
 simp[e1]
def De (m:HM) (b c x y x' y':Int):Int × HM:=
 if 1≤b∧b<(m.bls.length:Int)∧1≤c∧c≤(m.bls.length:Int)-b∧qM y=true then
  (if Om m.bls b.toNat c.toNat 0=none then (0,{ m with bls:=(gj m.bls b.toNat (x',y') c.toNat 0).set b.toNat (x,y) }) else (8,m)) else (1,m)
theorem o7 (k:Nat) (hk:5000≤k) (h:An σ i m) (b c x y x' y':Int) (hb:AU b) (hc:AU c):RA (DX (k+6) (AV i) b c x y x' y' σ) σ i (De m b c x y x' y'):=by
 unfold De
 have ht:=h.nt
 have hnb:=h.nb
 rw[SP,LR]
 try simp only[sw,Ad,Af,Ae]
 simp only[AM]
 obtain ⟨μ0,hμ0⟩:∃ μ0,σ++[A6.cells [Value.int .i64 x,.int .i64 y] AW true]=μ0:=⟨_,rfl⟩
 rw[hμ0]
 obtain ⟨μ1,hμ1⟩:∃ μ1,μ0++[A6.cells [Value.int .i64 x',.int .i64 y'] AW true]=μ1:=⟨_,rfl⟩
 rw[hμ1]
 have hE:μ1=σ++[A6.cells [Value.int .i64 x,.int .i64 y] AW true,A6.cells [Value.int .i64 x',.int .i64 y'] AW true]:=by rw[← hμ1,← hμ0]; simp
 have h1:An μ1 i m:=by rw[hE]; exact h.app _
 have k1:Bu i σ μ1:=by rw[hE]; exact Bu.app i σ _
 have hl0:μ0.length=σ.length+1:=by rw[← hμ0]; simp
 have hx0:μ1[σ.length]?=some (A6.cells [Value.int .i64 x,.int .i64 y] AW true):=by rw[hE]; simp
 have hx1:μ1[μ0.length]?=some (A6.cells [Value.int .i64 x',.int .i64 y'] AW true):=by rw[← hμ1]; simp
 have hn0:σ.length ∉ i.l:=fun hm=>Nat.lt_irrefl _ (h.lt _ hm)
 have hn1:μ0.length ∉ i.l:=fun hm=>by have:=h.lt _ hm; omega
 have ly:Dg .i64 μ1 σ.length 1=some y:=by simp[Dg,Gi,hx0,Ml]
 have fail:∀ {r},r=((1:Int),m)→RA (some (Value.int .i64 1,μ1)) σ i r:=fun hr=>RA.same h [A6.cells [Value.int .i64 x,.int .i64 y] AW true,A6.cells [Value.int .i64 x',.int .i64 y'] AW true] (by rw[hE]) hr
 simp only[Lt _ h1,zC _ h1,Option.bind_some,Ar,Bool.not_true,cond_false,Nat.zero_add,Nat.add_zero,h1.K2,ly]
 by_cases g0:1≤b∧b<(m.bls.length:Int)
 rotate_left
 ·simp only[decide_eq_false g0,Bool.not_false,cond_true,Option.bind_some]
  exact fail (if_neg (by omega))
 obtain ⟨n,rfl⟩:∃ n:Nat,b=(n:Int):=⟨b.toNat,by omega⟩
 simp only[decide_eq_true g0,Bool.not_true,cond_false,Option.bind_some]
 by_cases g1:c<1
 ·simp only[decide_eq_true g1,cond_true,Option.bind_some]
  exact fail (if_neg (by omega))
 have e1:Cf (((m.bls.length:Nat):Int)-(n:Int))=((m.bls.length-n:Nat):Int):=by rw[Ak (by unfold AU; omega)]; omega
 simp only[decide_eq_false g1,cond_false,Option.bind_some,h1.K2,e1]
 by_cases g2:c>((m.bls.length-n:Nat):Int)
 ·simp only[decide_eq_true g2,cond_true,Option.bind_some]
  exact fail (if_neg (by omega))
 obtain ⟨w,rfl⟩:∃ w:Nat,c=(w:Int):=⟨c.toNat,by omega⟩
 have hsp:=Afc (k+4) y μ1
 generalize qM y=ok at hsp ⊢
 simp only[decide_eq_false g2,cond_false,Option.bind_some,ly,hsp,Ar]
 cases ok with
 | false=>
   simp only[Bool.not_false,cond_true]
   exact fail (if_neg (by simp))
 | true=>
   rw[if_pos ⟨g0.1,g0.2,by omega,by omega,rfl⟩,Int.toNat_natCast,Int.toNat_natCast]
   have e2:Cf ((n:Int)+(w:Int))=((n+w:Nat):Int):=Ak (by unfold AU; omega)
   have hw:n+w≤m.bls.length:=by omega
   simp only[Bool.not_true,cond_false,h1.K2,e2,uf h1 (show n<n+w by omega) hw,Option.bind_some,Nat.add_sub_cancel_left]
   rw[HO,DV]
   try simp only[sw,Ad,Af,Ae]
   rw[J0,EV]
   try simp only[sw,Ad,Af,Ae]
   have hv:∀ x y σ,∃ τ,Js (k+3) (.func (.func R2) #[] #[]) [.agg #[.int .i64 x,.int .i64 y]] σ=some (.bool (!(bif x == 0 then y == 0 else false)),σ++τ):=by
    intro x y σ
    rw[SK]
    exact vg (k+2) x y σ
   obtain ⟨τ,hidx⟩:=kW (k+3) (b:=n) (c:=w) (m.bls.length-n) (.func (.func R2) #[] #[]) hv w 0 (k+3) μ1 h1 hw (by omega) (by omega)
   rw[show ((0:Nat):Int)=0 from rfl] at hidx
   cases hu:Om m.bls n w 0 with
   | some x0=>
     rw[hu] at hidx
     simp only[hidx,Option.bind_some,if_true,FR,Aj,Ar,reduceCtorEq,if_false]
     have q:decide ((x0:Int)≥0)=true:=decide_eq_true (by omega)
     simp only[q,cond_true]
     exact RA.same h ([A6.cells [Value.int .i64 x,.int .i64 y] AW true,A6.cells [Value.int .i64 x',.int .i64 y'] AW true]++τ) (code:=8) (by rw[hE,List.append_assoc]) rfl
   | none=>
     rw[hu] at hidx
     have q:decide ((-1:Int)≥0)=false:=by decide
     simp only[hidx,Option.bind_some,if_true,Aj,Ar,q,cond_false]
     have h2:=h1.app τ
     have k2:Bu i μ1 (μ1++τ):=Bu.app i μ1 τ
     have hy1:=(k2.same _ (Al hx1) hn1).trans hx1
     obtain ⟨σ3,e3,h3,k3⟩:=lK (k+5) (b:=n) (c:=w) (x',y') μ0.length w 0 (k+5) (μ1++τ) m h2 hn1 ⟨_,hy1⟩ hw (by omega) (by omega)
     rw[show ((0:Nat):Int)=0 from rfl] at e3
     have hy0:=(k3.same _ (Al ((k2.same _ (Al hx0) hn0).trans hx0)) hn0).trans ((k2.same _ (Al hx0) hn0).trans hx0)
     have l0:Dg .i64 σ3 σ.length 0=some x:=by simp[Dg,Gi,hy0,Ml]
     have l1:Dg .i64 σ3 σ.length 1=some y:=by simp[Dg,Gi,hy0,Ml]
     have hlen:(gj m.bls n (x',y') w 0).length=m.bls.length:=KV _ _ _ _ _
     obtain ⟨e4,h4⟩:=h3.stB (b:=n) (by show n<(gj _ _ _ _ _).length; omega) x y
     simp only[e3,Option.bind_some,if_true,h3.K2,l0,l1]
     rw[if_pos (by show 0≤(n:Int)∧(n:Int)<(((gj m.bls n (x',y') w 0).length:Nat):Int); omega)]
     simp only[Option.bind_some,Nat.zero_add,Int.toNat_natCast,e4]
     exact ⟨_,rfl,h4,((k1.trans k2).trans k3).trans (Bu.set _ _ (by simp[DD.l]))⟩
theorem wN (k:Nat) (hk:5000≤k) (h:An σ i m) (b s:Int) (hb:AU b):RA (CT (k+7) (AV i) b s σ) σ i (De m b 1 1 s 0 0):=by
 refine (o7 k hk h b 1 1 s 0 0 hb (by unfold AU; decide)).to fun σ' e=>?_
 rw[SN,LP]
 try simp only[sw,Ad,Af,Ae]
 rw[e]
 simp only[Option.bind_some,Aj]
theorem mq (k:Nat) (hk:5000≤k) (h:An σ i m) (b c s:Int) (hb:AU b) (hc:AU c):RA (Bn (k+7) (AV i) b c s σ) σ i (De m b c 2 s 3 s):=by
 refine (o7 k hk h b c 2 s 3 s hb hc).to fun σ' e=>?_
 rw[Nl,H9]
 try simp only[sw,Ad,Af,Ae]
 rw[e]
 simp only[Option.bind_some,Aj]
end Go.Proofs.YtjbledomkmdkmaaGreat
end
section
namespace Go.Proofs.YtjbledomkmdkmaaGreat
open Go Go.AX
variable {m:HM}
def use (m:HM) (j:Nat):Nat:=(2+A5 m j+BN m j).toNat
def ga (l:List (Int × Int)) (a wo:Nat):Prop:=
 (wo≤32→(l.getD (a/64) (0,0)).1=1∧(a+wo-1)/64=a/64) ∧
 (32<wo→(l.getD (a/64) (0,0)).1=2∧a % 64=0 ∧ ∀ c,a/64<c→c≤(a+wo-1)/64→(l.getD c (0,0)).1=3)
structure Inv2 (m:HM):Prop where
 kind:∀ j,Start m j→ga m.bls (2*j) (sz m j)
 zero:∀ a,(∀ j,Start m j→2*j≤a→a<2*j+use m j→False)→m.wds.getD a 0=0
structure Sh (m:HM):Prop where
 wl:m.wds.length=64*m.bls.length
 sl:32*m.bls.length≤64*m.stw.length
 pl:32*m.bls.length≤64*m.pnw.length
theorem An.sh {σ:Aa} {i:DD} (h:An σ i m):Sh m:=⟨h.wl,sK h.st.len,sK h.pn.len⟩
theorem Inv.use (h:Inv m) {j:Nat} (hs:Start m j):2≤use m j∧use m j≤sz m j∧((use m j:Nat):Int)=2+A5 m j+BN m j:=by
 obtain ⟨z1,z2,z3,z4,z5,z6⟩:=h.size hs
 unfold Go.Proofs.YtjbledomkmdkmaaGreat.use
 omega
structure Pu (m:HM) (r:Int × HM):Prop where
 inv:Inv r.2
 inv2:Inv2 r.2
 b1:m.births≤r.2.births
 b2:r.2.births≤m.births+1
 len:r.2.bls.length=m.bls.length
 err:r.1≠0→r.2=m
theorem Pu.same (h:Inv m) (h2:Inv2 m) (c:Int):Pu m (c,m):=⟨h,h2,Int.le_refl _,by simp only; omega,rfl,fun _=>rfl⟩
theorem oH (h:Inv m) {a x:Int} {data:Bool} {w:Int} (hf:DG m a x data=(w,0)):∃ j t:Nat,Start m j∧a=((2*j:Nat):Int)∧w=((2*j+2+t:Nat):Int)∧2+t<use m j∧((t:Nat):Int)=x+(if data then A5 m j else 0):=by
 unfold DG at hf
 split at hf
 ·rename_i hh
  obtain ⟨j,rfl,hs⟩:=Ek hh
  have ej:((2*j:Nat):Int).toNat/2=j:=by omega
  obtain ⟨z1,z2,z3,z4,z5,z6⟩:=h.size hs
  obtain ⟨_,_,u3⟩:=h.use hs
  simp only[ej] at hf
  cases data with
  | false=>
    simp only[Bool.false_eq_true,if_false] at hf
    split at hf
    ·rename_i hc
     have hw:=congrArg Prod.fst hf
     simp only at hw
     exact ⟨j,x.toNat,hs,rfl,by omega,by omega,by simp only[Bool.false_eq_true,if_false]; omega⟩
    ·have:=congrArg Prod.snd hf
     simp at this
  | true=>
    simp only[if_true] at hf
    split at hf
    ·rename_i hc
     have hw:=congrArg Prod.fst hf
     simp only at hw
     exact ⟨j,(A5 m j+x).toNat,hs,rfl,by omega,by omega,by simp only[if_true]; omega⟩
    ·have:=congrArg Prod.snd hf
     simp at this
 ·have:=congrArg Prod.snd hf
  simp at this
theorem qj (h:Inv m) {j t:Nat} (hs:Start m j) (ht:2+t<sz m j) (v:Int):∀ j',Start m j' → ∀ c,c<2→(MH m (2*j+2+t) v).wds.getD (2*j'+c) 0=m.wds.getD (2*j'+c) 0:=by
 intro j' hs' c hc
 show (m.wds.set _ _).getD _ _=_
 rw[CC,if_neg]
 rintro ⟨e,_⟩
 have h1:=h.apart j j' hs hs'
 have hz:=h.size hs'
 rcases Nat.lt_trichotomy j j' with hlt | rfl | hlt
 ·have:=h1 hlt; omega
 ·omega
 ·omega
theorem fW {m m':HM} {j j':Nat} (h:m'.wds.getD (2*j'+1) 0=m.wds.getD (2*j+1) 0):sz m' j'=sz m j∧use m' j'=use m j∧A5 m' j'=A5 m j∧BN m' j'=BN m j:=by
 unfold sz use A5 BN
 rw[h]
 exact ⟨rfl,rfl,rfl,rfl⟩
theorem Inv2.word (h:Inv m) (h2:Inv2 m) {j t:Nat} (hs:Start m j) (ht:2+t<use m j) (v:Int):Inv2 (MH m (2*j+2+t) v):=by
 have hu:=h.use hs
 have key:=qj h hs (show 2+t<sz m j by omega) v
 refine ⟨fun j' hs'=>?_,fun a ha=>?_⟩
 ·rw[(fW (key j' hs' 1 (by decide))).1]; exact h2.kind j' hs'
 ·show (m.wds.set _ _).getD _ _=_
  rw[CC,if_neg]
  ·exact h2.zero a fun j' hs' h3 h4=>ha j' hs' h3 (by rw[(fW (key j' hs' 1 (by decide))).2.1]; exact h4)
  ·rintro ⟨rfl,_⟩
   exact ha j hs (by omega) (by rw[(fW (key j hs 1 (by decide))).2.1]; omega)
theorem Aca (h:Inv m) (h2:Inv2 m) {j t:Nat} (hs:Start m j) (ht:2+t<use m j) (v:Int):Pu m (0,MH m (2*j+2+t) v):=
 ⟨h.Ahd hs (by have:=h.use hs; omega) v,h2.word h hs ht v,Int.le_refl _,by show m.births≤m.births+1; omega,rfl,fun hc=>absurd rfl hc⟩
theorem ub (h:Inv m) (h2:Inv2 m) (a x v:Int):Pu m (EK m a x v):=by
 unfold EK
 generalize hf:DG m a x false=w
 obtain ⟨w,c⟩:=w
 split
 ·rename_i hc
  simp only at hc
  subst hc
  obtain ⟨j,t,hs,rfl,rfl,ht,_⟩:=oH h hf
  split
  ·exact Pu.same h h2 _
  ·simp only[Int.toNat_natCast]
   exact Aca h h2 hs ht v
 ·exact Pu.same h h2 _
theorem Inv2.pins (h2:Inv2 m) (l:List (BitVec 64)):Inv2 { m with pnw:=l }:=⟨h2.kind,h2.zero⟩
theorem Inv2.vt (h2:Inv2 m) (l:List (Int × Int)):Inv2 { m with fw:=l }:=⟨h2.kind,h2.zero⟩
theorem Inv2.places (h2:Inv2 m) (l:List (Int × Int)):Inv2 { m with pl:=l }:=⟨h2.kind,h2.zero⟩
theorem Abj (h:Inv m) (h2:Inv2 m) (a:Int) (v:Nat):Pu m (QD m a v):=by
 unfold QD
 split
 ·exact ⟨h.pins _,h2.pins _,Int.le_refl _,by show m.births≤m.births+1; omega,rfl,fun hc=>absurd rfl hc⟩
 ·exact Pu.same h h2 _
theorem pV (m:HM) (b:Nat):∀ (f n c:Nat),n≤c→c<Lz m b f n→(m.bls.getD b (0,0)).1=2∧(m.bls.getD (b+c) (0,0)).1=3
 | 0,n,c,h1,h2=>by rw[Lz] at h2; omega
 | f+1,n,c,h1,h2=>by
   rw[Lz] at h2
   split at h2
   ·rename_i hc
    rcases Nat.eq_or_lt_of_le h1 with rfl | h1
    ·exact ⟨hc.1,hc.2.2⟩
    ·exact pV m b f (n+1) c h1 h2
   ·omega
theorem gW {b c:Nat} (h1:b<c) (h2:c<b+Ok m b):(m.bls.getD b (0,0)).1=2∧(m.bls.getD c (0,0)).1=3:=by
 have:=pV m b m.bls.length 1 (c-b) (by omega) (by unfold Ok at h2; omega)
 rw[show b+(c-b)=c from by omega] at this
 exact this
theorem xA {a:Int} {wo:Nat} {but:Int} (h2:2≤wo) (hf:QB m a wo but=0):ga m.bls a.toNat wo:=by
 unfold QB at hf
 split at hf
 ·cases hf
 simp only at hf
 split at hf
 ·rename_i hw
  split at hf
  ·cases hf
  ·rename_i hc
   refine ⟨fun _=>⟨?_, ?_⟩,fun h=>by omega⟩
   ·apply Classical.byContradiction
    intro hq; exact hc (.inl hq)
   ·apply Classical.byContradiction
    intro hq; exact hc (.inr hq)
 ·rename_i hw
  split at hf
  ·cases hf
  ·rename_i hc
   have c1:(m.bls.getD (a.toNat/64) (0,0)).1=2:=by
    apply Classical.byContradiction
    intro hq; exact hc (.inl hq)
   have c2:a.toNat % 64=0:=by
    apply Classical.byContradiction
    intro hq; exact hc (.inr (.inl hq))
   have c3:Ok m (a.toNat/64)=(wo+63)/64:=by
    apply Classical.byContradiction
    intro hq; exact hc (.inr (.inr hq))
   refine ⟨fun h=>by omega,fun _=>⟨c1,c2,fun c h1 h2=>?_⟩⟩
   exact (gW h1 (by rw[c3]; omega)).2
theorem Inv2.place (h:Inv m) (h2:Inv2 m) (hS:Sh m) {j:Nat} {r d k:Int} (hv:valid r d k=true) (hj:j<32*m.bls.length)
  (hap:∀ o,Start m o→2*o+sz m o≤2*j∨2*j+XF (num r d k)≤2*o) (hk:ga m.bls (2*j) (XF (num r d k))):Inv2 (DH m j (num r d k)):=by
 have hst:=fun j'=>Tz (m:=m) (n:=num r d k) (j:=j) (j':=j') hS.sl hj
 have hw:=hS.wl
 have hv':=hv
 simp[valid] at hv'
 have h3:2≤XF (num r d k):=by
  rw[OG hv]
  omega
 have hnj:¬ Start m j:=fun hs=>by
  have h1:=hap j hs
  have h2:=h.size hs
  omega
 have hne:∀ j',Start m j'→j'≠j:=fun j' hs e=>hnj (e ▸ hs)
 have w1:(DH m j (num r d k)).wds.getD (2*j+1) 0=num r d k:=by
  unfold DH; simp only
  rw[CC,if_pos ⟨rfl,by simp; omega⟩]
 have wo:∀ j',j'≠j→(DH m j (num r d k)).wds.getD (2*j'+1) 0=m.wds.getD (2*j'+1) 0:=by
  intro j' hne
  unfold DH; simp only
  rw[CC,if_neg (by omega),CC,if_neg (by omega)]
 have s1:sz (DH m j (num r d k)) j=XF (num r d k):=by unfold sz; rw[w1]
 obtain ⟨p1,p2,_,_⟩:=PM hv
 have u1:use (DH m j (num r d k)) j=(2+r+d).toNat:=by unfold use A5 BN; rw[w1,p1,p2]
 refine ⟨fun j' hs'=>?_,fun a ha=>?_⟩
 ·rcases (hst j').1 hs' with rfl | hs'
  ·rw[s1]; exact hk
  ·rw[(fW (wo j' (hne j' hs'))).1]; exact h2.kind j' hs'
 ·have hself:=ha j ((hst j).2 (.inl rfl))
  rw[u1] at hself
  have hn0:a≠2*j:=fun e=>hself (by omega) (by omega)
  have hn1:a≠2*j+1:=fun e=>hself (by omega) (by omega)
  unfold DH; simp only
  rw[CC,if_neg (by omega),CC,if_neg (by omega)]
  exact h2.zero a fun j' hs' h4 h5=>ha j' ((hst j').2 (.inr hs')) h4 (by rw[(fW (wo j' (hne j' hs'))).2.1]; exact h5)
theorem vO (h:Inv m) (h2:Inv2 m) (hS:Sh m) (a r d c:Int):Pu m (Hc m a r d c).2:=by
 unfold Hc
 split
 ·rename_i hv
  split
  ·rename_i hc
   have hw2:2≤XF (num r d c):=by
    rw[OG hv]
    simp[valid] at hv
    omega
   have hk:=xA hw2 hc
   obtain ⟨j,rfl,hj,hfit,hap⟩:=h.fits hS.wl (pY _) hw2 hc
   rw[Int.toNat_natCast] at hk
   simp only[show ((2*j:Nat):Int).toNat/2=j from by omega]
   have hap':∀ o,Start m o→2*o+sz m o≤2*j∨2*j+XF (num r d c)≤2*o:=fun o ho=>hap o ho (by omega)
   refine ⟨h.place hS.wl hS.sl hv hj hfit hap',h2.place h hS hv hj hap' hk, ?_,Int.le_refl _,rfl,fun hc=>absurd rfl hc⟩
   show m.births≤m.births+1
   omega
  ·exact Pu.same h h2 _
 ·exact Pu.same h h2 _
theorem VJ (h:Inv m) {j j' a:Nat} (hs:Start m j) (hs':Start m j') (hne:j'≠j) (h1:2*j'≤a) (h2:a<2*j'+sz m j'):(KB m j).wds.getD a 0=m.wds.getD a 0:=by
 have hf:=h.fit j hs
 show (VS _ _ _).getD _ 0=_
 rw[L9 (by simpa using hf),if_neg]
 rintro ⟨p1,p2⟩
 simp only[List.length_replicate] at p2
 rcases Nat.lt_trichotomy j j' with hlt | rfl | hlt
 ·have:=h.apart j j' hs hs' hlt; omega
 ·exact hne rfl
 ·have:=h.apart j' j hs' hs hlt; omega
theorem Inv2.kill (h:Inv m) (h2:Inv2 m) (hS:Sh m) {j:Nat} (hs:Start m j):Inv2 (KB m j):=by
 have hf:=h.fit j hs
 have hst:=fun j'=>Sr (m:=m) (j:=j) (j':=j') hS.sl hs.1
 have so:∀ j',j'≠j→Start m j'→sz (KB m j) j'=sz m j'∧use (KB m j) j'=use m j':=fun j' hne hs'=>by
  have:=fW (VJ h hs hs' hne (a:=2*j'+1) (by omega) (by have:=h.size hs'; omega))
  exact ⟨this.1,this.2.1⟩
 refine ⟨fun j' hs'=>?_,fun a ha=>?_⟩
 ·obtain ⟨hne,hs'⟩:=(hst j').1 hs'
  rw[(so j' hne hs').1]; exact h2.kind j' hs'
 ·show (VS _ _ _).getD _ 0=_
  rw[L9 (by simpa using hf)]
  split
  ·rw[List.getD_eq_getElem?_getD,List.getElem?_replicate]
   split <;> rfl
  ·rename_i hc
   refine h2.zero a fun j' hs' h4 h5=>?_
   by_cases hq:j'=j
   ·subst hq
    have:=h.use hs'
    simp at hc; omega
   ·exact ha j' ((hst j').2 ⟨hq,hs'⟩) h4 (by rw[(so j' hq hs').2]; exact h5)
theorem xN (h:Inv m) (h2:Inv2 m) (hS:Sh m) (a:Int):Pu m (Kv m a):=by
 unfold Kv
 split
 ·rename_i hh
  obtain ⟨j,rfl,hs⟩:=Ek hh
  rw[show ((2*j:Nat):Int).toNat/2=j from by omega]
  exact ⟨h.kill hS.sl hs,h2.kill h hS hs,Int.le_refl _,by show m.births≤m.births+1; omega,rfl,fun hc=>absurd rfl hc⟩
 ·exact Pu.same h h2 _
theorem pW (hS:Sh m) {j t j':Nat} (hj:j<32*m.bls.length) (ht:t<32*m.bls.length):Start (VO m j t) j'↔j'=t∨(j'≠j∧Start m j'):=by
 have hl:=hS.sl
 unfold Start VO
 simp only
 by_cases hq:j'=t
 ·subst hq
  rw[Fo (.inl rfl) (by decide) (by rw[Hg]; omega)]
  simp[ht]
 ·rw[Ca (.inl rfl) (by decide) (fun e=>hq e.symm)]
  by_cases hq2:j'=j
  ·subst hq2
   rw[Fo (.inl rfl) (by decide) (by omega)]
   simp[hq]
  ·rw[Ca (.inl rfl) (by decide) (fun e=>hq2 e.symm)]
   simp[hq,hq2]
theorem ZC (h:Inv m) {j t:Nat} (hs:Start m j) (hfit:2*t+sz m j≤m.wds.length) (a:Nat):
  (VO m j t).wds.getD a 0=if 2*t≤a∧a<2*t+sz m j then m.wds.getD (2*j+(a-2*t)) 0 else if 2*j≤a∧a<2*j+sz m j then 0 else m.wds.getD a 0:=by
 have hf:=h.fit j hs
 have hhl:((m.wds.drop (2*j)).take (sz m j)).length=sz m j:=by simp; omega
 have hl1:(VS m.wds (2*j) (List.replicate (sz m j) 0)).length=m.wds.length:=PN (by simpa using hf)
 show (VS _ _ _).getD _ 0=_
 rw[L9 (by rw[hhl,hl1]; exact hfit),hhl]
 split
 ·rename_i hc
  simp only[List.getD_eq_getElem?_getD,List.getElem?_take,show a-2*t<sz m j from by omega,if_true,List.getElem?_drop]
 ·rw[L9 (by simpa using hf),List.length_replicate]
  split
  ·rw[List.getD_eq_getElem?_getD,List.getElem?_replicate]
   split <;> rfl
  ·rfl
theorem og (h:Inv m) {o j a:Nat} (ho:Start m o) (hs:Start m j) (h1:2*o≤a) (h2:a<2*o+sz m o) (h3:2*j≤a) (h4:a<2*j+sz m j):o=j:=by
 rcases Nat.lt_trichotomy j o with hlt | rfl | hlt
 ·have:=h.apart j o hs ho hlt; omega
 ·rfl
 ·have:=h.apart o j ho hs hlt; omega
theorem pc (h:Inv m) {j t o a:Nat} (hs:Start m j) (hfit:2*t+sz m j≤m.wds.length)
  (hap:∀ o,Start m o→o≠j→2*o+sz m o≤2*t∨2*t+sz m j≤2*o) (ho:Start m o) (hne:o≠j) (h1:2*o≤a) (h2:a<2*o+sz m o):(VO m j t).wds.getD a 0=m.wds.getD a 0:=by
 have:=hap o ho hne
 rw[ZC h hs hfit,if_neg (by omega),if_neg]
 rintro ⟨h3,h4⟩
 exact hne (og h ho hs h1 h2 h3 h4)
theorem Inv2.move (h:Inv m) (h2:Inv2 m) (hS:Sh m) {j t:Nat} (hs:Start m j) (ht:t<32*m.bls.length) (hfit:2*t+sz m j≤m.wds.length)
  (hap:∀ o,Start m o→o≠j→2*o+sz m o≤2*t∨2*t+sz m j≤2*o) (hk:ga m.bls (2*t) (sz m j)):Inv2 (VO m j t):=by
 have hst:=fun j'=>pW (m:=m) hS (j:=j) (t:=t) (j':=j') hs.1 ht
 have hz:=h.size hs
 have hu:=h.use hs
 have so:∀ j',j'≠j→Start m j'→sz (VO m j t) j'=sz m j'∧use (VO m j t) j'=use m j':=fun j' hne hs'=>by
  have:=fW (pc h hs hfit hap hs' hne (a:=2*j'+1) (by omega) (by have:=h.size hs'; omega))
  exact ⟨this.1,this.2.1⟩
 have st:sz (VO m j t) t=sz m j∧use (VO m j t) t=use m j:=by
  have:=fW (m:=m) (m':=VO m j t) (j:=j) (j':=t) (by rw[ZC h hs hfit,if_pos (by omega)]; congr 1; omega)
  exact ⟨this.1,this.2.1⟩
 refine ⟨fun j' hs'=>?_,fun a ha=>?_⟩
 ·by_cases hq:j'=t
  ·subst hq; rw[st.1]; exact hk
  ·rcases (hst j').1 hs' with e | ⟨hne,hs'⟩
   ·exact absurd e hq
   ·rw[(so j' hne hs').1]; exact h2.kind j' hs'
 ·rw[ZC h hs hfit]
  have hself:=ha t ((hst t).2 (.inl rfl))
  rw[st.2] at hself
  split
  ·rename_i hc
   refine h2.zero _ fun j' hs' h4 h5=>?_
   by_cases hq:j'=j
   ·subst hq
    exact hself (by omega) (by omega)
   ·have:=h.use hs'
    exact hq (og h hs' hs h4 (by omega) (by omega) (by omega))
  ·rename_i hc
   split
   ·rfl
   ·rename_i hc2
    refine h2.zero _ fun j' hs' h4 h5=>?_
    by_cases hq:j'=j
    ·subst hq
     omega
    ·exact ha j' ((hst j').2 (.inr ⟨hq,hs'⟩)) h4 (by rw[(so j' hq hs').2]; exact h5)
theorem rO (l:List (Int × Int)) (a c:Nat) (v:Int × Int):(l.set a v).getD c (0,0)=if a=c∧a<l.length then v else l.getD c (0,0):=by
 simp only[List.getD_eq_getElem?_getD,List.getElem?_set]
 by_cases h:a=c
 ·subst h
  by_cases h2:a<l.length
  ·simp[h2]
  ·simp[h2]
 ·simp[h]
theorem Y3 (b:Nat):∀ (n:Nat) (l:List (Int × Int)) (c:Nat),(px l b n).getD c (0,0)=if b≤c∧c<b+n then (0,0) else l.getD c (0,0)
 | 0,l,c=>by rw[px,if_neg (by omega)]
 | n+1,l,c=>by
   rw[px,Y3 b n,rO]
   by_cases h1:b+n=c
   ·subst h1
    rw[if_neg (by omega),if_pos (show b≤b+n∧b+n<b+(n+1) by omega)]
    split
    ·rfl
    ·rename_i h
     rw[List.getD_eq_getElem?_getD,List.getElem?_eq_none (by omega)]; rfl
   ·rw[if_neg (show ¬ (b+n=c∧b+n<l.length) from fun h=>h1 h.1)]
    by_cases h2:b≤c∧c<b+n
    ·rw[if_pos h2,if_pos (by omega)]
    ·rw[if_neg h2,if_neg (by omega)]
theorem sI (b:Nat) (y:Int):∀ (n:Nat) (l:List (Int × Int)) (c:Nat),((Ahi l b y n).getD c (0,0)).1=(l.getD c (0,0)).1
 | 0,l,c=>rfl
 | n+1,l,c=>by
   rw[Ahi,sI b y n,rO]
   split
   ·rename_i h
    rw[h.1]
   ·rfl
theorem o6 (b:Nat) (e:Int × Int):∀ (n x:Nat) (l:List (Int × Int)) (c:Nat),c<b+x∨b+x+n≤c→(gj l b e n x).getD c (0,0)=l.getD c (0,0)
 | 0,x,l,c,h=>rfl
 | n+1,x,l,c,h=>by
   rw[gj,o6 b e n (x+1) _ c (by omega),List.getD_eq_getElem?_getD,List.getD_eq_getElem?_getD,List.getElem?_set,if_neg (by omega)]
theorem hU {l:List (Int × Int)} {b:Nat}:∀ {n x:Nat},Om l b n x=none → ∀ c,x≤c→c<x+n→l.getD (b+c) (0,0)=(0,0)
 | 0,x,h,c,h1,h2=>by omega
 | n+1,x,h,c,h1,h2=>by
   rw[Om] at h
   split at h
   ·rename_i hc
    rcases Nat.eq_or_lt_of_le h1 with rfl | h1
    ·exact Prod.ext hc.1 hc.2
    ·exact hU h c h1 (by omega)
   ·cases h
theorem ga.AG {l l':List (Int × Int)} {a wo:Nat} (h:ga l a wo) (hl:∀ c,(l.getD c (0,0)).1≠0→a/64≤c→c≤(a+wo-1)/64→(l'.getD c (0,0)).1=(l.getD c (0,0)).1) (hw:0<wo):ga l' a wo:=by
 refine ⟨fun hw'=>?_,fun hw'=>?_⟩
 ·obtain ⟨h1,h2⟩:=h.1 hw'
  exact ⟨by rw[hl _ (by rw[h1]; decide) (Nat.le_refl _) (by omega)]; exact h1,h2⟩
 ·obtain ⟨h1,h2,h3⟩:=h.2 hw'
  exact ⟨by rw[hl _ (by rw[h1]; decide) (Nat.le_refl _) (by omega)]; exact h1,h2,fun c h4 h5=>by rw[hl c (by rw[h3 c h4 h5]; decide) (by omega) h5]; exact h3 c h4 h5⟩
theorem Inv2.blocks (h:Inv m) (h2:Inv2 m) (l:List (Int × Int)) (hl:l.length=m.bls.length)
  (hk:∀ j,Start m j → ∀ c,(m.bls.getD c (0,0)).1≠0→2*j/64≤c→c≤(2*j+sz m j-1)/64→(l.getD c (0,0)).1=(m.bls.getD c (0,0)).1):Inv2 { m with bls:=l }:=by
 have hs:∀ j,Start { m with bls:=l } j↔Start m j:=fun j=>by unfold Start; simp only[hl]
 refine ⟨fun j hj=>?_,fun a ha=>h2.zero a fun j hj=>ha j ((hs j).2 hj)⟩
 have hj':=(hs j).1 hj
 exact (h2.kind j hj').AG (hk j hj') (by have:=h.size hj'; show 0<sz m j; omega)
theorem lH (h:Inv m) (h2:Inv2 m) {l:List (Int × Int)} (hl:l.length=m.bls.length)
  (hk:∀ j,Start m j → ∀ c,(m.bls.getD c (0,0)).1≠0→2*j/64≤c→c≤(2*j+sz m j-1)/64→(l.getD c (0,0)).1=(m.bls.getD c (0,0)).1):Pu m (0,{ m with bls:=l }):=
 ⟨h.blocks l hl,h2.blocks h l hl hk,Int.le_refl _,by show m.births≤m.births+1; omega,hl,fun hc=>absurd rfl hc⟩
theorem vz {b:Int} {ok:Bool} (h:aq m b ok=0):(m.bls.getD b.toNat (0,0)).1=1∨(m.bls.getD b.toNat (0,0)).1=2:=by
 unfold aq at h
 split at h
 ·cases h
 ·split at h
  ·cases h
  ·rename_i hc
   apply Classical.byContradiction
   intro hq
   exact hc ⟨fun e=>hq (.inl e),fun e=>hq (.inr e)⟩
theorem fG (h:Inv m) (h2:Inv2 m) (b:Int):Pu m (DJ m b):=by
 unfold DJ
 split
 ·rename_i hh
  have hst:=vz hh
  split
  ·rename_i he
   refine lH h h2 (lW _ _ _) fun j hj c hc h3 h4=>?_
   rw[Y3,if_neg]
   rintro ⟨h5,h6⟩
   generalize b.toNat=n at hst he h5 h6
   have hz:=h.size hj
   have hnb:2*j/64≠n:=by
    intro e
    have:j ∈ FP m (32*n) 32:=by
     unfold FP
     rw[List.mem_filter,List.mem_range'_1]
     exact ⟨by omega,decide_eq_true hj.2⟩
    rw[he] at this
    cases this
   obtain ⟨k1,k2⟩:=h2.kind j hj
   by_cases hw:sz m j≤32
   ·obtain ⟨q1,q2⟩:=k1 hw
    have hcj:c=2*j/64:=by omega
    subst hcj
    have:=gW (m:=m) (b:=n) (c:=2*j/64) (by omega) h6
    rw[q1] at this
    exact absurd this.2 (by decide)
   ·obtain ⟨q1,q2,q3⟩:=k2 (by omega)
    by_cases hlt:n<2*j/64
    ·have:=gW (m:=m) (b:=n) (c:=2*j/64) hlt (by omega)
     rw[q1] at this
     exact absurd this.2 (by decide)
    ·have:=q3 n (by omega) (by omega)
     rcases hst with e | e
     ·rw[this] at e; exact absurd e (by decide)
     ·rw[this] at e; exact absurd e (by decide)
  ·exact Pu.same h h2 _
 ·exact Pu.same h h2 _
theorem lJ (h:Inv m) (h2:Inv2 m) (b c x y x' y':Int):Pu m (De m b c x y x' y'):=by
 unfold De
 split
 ·rename_i hc
  split
  ·rename_i hu
   have hlen:(gj m.bls b.toNat (x',y') c.toNat 0).length=m.bls.length:=KV _ _ _ _ _
   refine lH h h2 (by rw[List.length_set,hlen]) fun j hj q hq _ _=>?_
   have hout:q<b.toNat∨b.toNat+c.toNat≤q:=by
    apply Classical.byContradiction
    intro hn
    have:=hU hu (q-b.toNat) (by omega) (by omega)
    rw[show b.toNat+(q-b.toNat)=q from by omega] at this
    rw[this] at hq
    exact hq rfl
   rw[List.getD_eq_getElem?_getD,List.getElem?_set,if_neg (by omega),← List.getD_eq_getElem?_getD,o6 _ _ _ _ _ _ (by omega)]
  ·exact Pu.same h h2 _
 ·exact Pu.same h h2 _
end Go.Proofs.YtjbledomkmdkmaaGreat
end
section
namespace Go.Proofs.YtjbledomkmdkmaaGreat
open Go Go.AX
noncomputable local instance qCW:A9:=Aw
local instance nCW:Kn:=⟨true⟩
variable {σ:Aa} {i:DD} {m:HM}
theorem zs (n:Nat):rep n [Value.int .u64 0]=rowOf (List.replicate n 0#64):=by
 simp only[rep,rowOf,List.map_replicate]
 induction n with
 | zero=>rfl
 | succ n ih=>rw[List.replicate_succ,List.flatten_cons,ih,List.replicate_succ]; rfl
theorem zr (n:Nat):rep n [Value.int .i64 0,.int .i64 0]=Dd (List.replicate n (0,0)):=by
 simp only[rep]
 induction n with
 | zero=>rfl
 | succ n ih=>rw[List.replicate_succ,List.flatten_cons,ih,List.replicate_succ]; rfl
theorem me (k:Nat) {e:Nat} (h0:0<e) (h1:e≤4096) (σ:Aa):∃ τ tb wb,JE (k+4) (e:Int) 1 σ=some (.tuple #[.pointer (some ⟨tb,0,none⟩),.int .i64 0],σ++τ) ∧
  DU (σ++τ) tb wb e 1 (List.replicate ((e+63)/64) 0#64)∧σ.length≤tb∧σ.length≤wb∧tb≠wb:=by
 rw[Xy,Vj]
 try simp only[sw,Ad,Af,Ae]
 simp only[show decide ((e:Int)<1)=false from decide_eq_false (by omega),cond_false,show decide ((e:Int)>4096)=false from decide_eq_false (by omega),Option.bind_some,AM]
 rw[JF,Gr]
 try simp only[sw,Ad,Af,Ae]
 rw[LF,Ih]
 try simp only[sw,Ad,Af,Ae]
 rw[GQ,Fa]
 try simp only[sw,Ad,Af,Ae]
 simp only[show decide ((0:Int)<((4:Nat):Int))=true from rfl,cond_true,show ((0:Int)≤0∧(0:Int)<((4:Nat):Int))=True from by simp,if_true,Option.bind_some,Int.toNat_zero,Nat.zero_mul,Nat.add_zero,BJ,List.getElem?_cons_zero,Aj,BEq.rfl,FR,reduceCtorEq,if_false,Ar,show decide ((0:Int)≥0)=true from rfl,Bool.not_true,cond_false]
 have e1:Cf ((e:Int)*1)=(e:Int):=by rw[Ak (by unfold AU; omega)]; omega
 have e2:Cf ((e:Int)+64)=((e+64:Nat):Int):=Ak (by unfold AU; omega)
 have e3:Cf (((e+64:Nat):Int)-1)=((e+63:Nat):Int):=by rw[Ak (by unfold AU; omega)]; omega
 have e4:((e+63:Nat):Int).tdiv 64=(((e+63)/64:Nat):Int):=rfl
 have e5:Cf (((e+63)/64:Nat):Int)=(((e+63)/64:Nat):Int):=Ak (by unfold AU; omega)
 simp only[e1,e2,e3,e4,e5,show ((64:Int)=0)=False from by simp,if_false]
 rw[if_pos (by omega)]
 simp only[Int.toNat_natCast,zs]
 obtain ⟨μ,hμ⟩:∃ μ,σ++[A6.cells [Value.int .i64 1,.int .i64 2,.int .i64 4,.int .i64 8] As true]=μ:=⟨_,rfl⟩
 have hl:μ.length=σ.length+1:=by rw[← hμ]; simp
 rw[hμ]
 refine ⟨[A6.cells [Value.int .i64 1,.int .i64 2,.int .i64 4,.int .i64 8] As true,.cells (rowOf (List.replicate ((e+63)/64) 0#64)) Bt true,.cells [.int .i64 (e:Int),.int .i64 1,.slice (some ⟨σ.length+1,0,none⟩) ((e+63)/64) ((e+63)/64)] SE true],σ.length+2,σ.length+1, ?_, ?_,by omega,by omega,by omega⟩
 ·rw[← hμ]; simp
 ·refine ⟨?_, ?_,by simp,h0,h1,.inl rfl⟩
  ·rw[List.length_replicate,List.getElem?_append_right (by omega),show σ.length+2-σ.length=2 from by omega]; rfl
  ·rw[List.getElem?_append_right (by omega),show σ.length+1-σ.length=1 from by omega]; rfl
def My (n:Nat):HM:={ bls:=List.replicate n (0,0),wds:=List.replicate (64*n) 0,stw:=List.replicate ((32*n+63)/64) 0#64,pnw:=List.replicate ((32*n+63)/64) 0#64,pl:=[],fw:=[],births:=0 }
theorem Inv.new (n:Nat):Inv (My n):=by
 have hs:∀ j,¬ Start (My n) j:=by
  rintro j ⟨_,h⟩
  have:Ec 1 (My n).stw j=0:=ZV _ _ _
  omega
 exact ⟨fun j h=>absurd h (hs j),fun j h=>absurd h (hs j),fun j _ h=>absurd h (hs j),fun j h=>absurd h (hs j),fun id a h=>by simp[My,getM] at h,Int.le_refl _,trivial⟩
theorem Inv2.new (n:Nat):Inv2 (My n):=by
 have hs:∀ j,¬ Start (My n) j:=by
  rintro j ⟨_,h⟩
  have:Ec 1 (My n).stw j=0:=ZV _ _ _
  omega
 refine ⟨fun j h=>absurd h (hs j),fun a _=>?_⟩
 show (List.replicate (64*n) (0:Int)).getD a 0=0
 rw[List.getD_eq_getElem?_getD,List.getElem?_replicate]
 split <;> rfl
theorem Aim (k:Nat) {n:Nat} (h2:2≤n) (h64:n≤64) (σ:Aa):∃ σ' i,JA (k+5) (n:Int) σ=some (.tuple #[.pointer (AV i),.int .i64 0],σ')∧An σ' i (My n)∧(∀ j ∈ i.l,σ.length≤j)∧Bu i σ σ':=by
 rw[fh,Zl]
 try simp only[sw,Ad,Af,Ae]
 have e1:Cf ((n:Int)*64)=((64*n:Nat):Int):=by rw[Ak (by unfold AU; omega)]; omega
 simp only[show decide ((n:Int)<2)=false from decide_eq_false (by omega),cond_false,show decide ((n:Int)>64)=false from decide_eq_false (by omega),Option.bind_some,AM,e1]
 rw[if_pos (by omega),if_pos (by omega)]
 simp only[Int.toNat_natCast,zr,vW]
 obtain ⟨o,ho⟩:∃ o:List A6,[A6.cells (Dd (List.replicate n (0,0))) AW true,.cells (Bm (List.replicate (64*n) 0)) As true,.map [],.map [],
  .cells [.slice (some ⟨σ.length,0,none⟩) n n,.slice (some ⟨σ.length+1,0,none⟩) (64*n) (64*n),.pointer none,.pointer none,.map (some (σ.length+2)),.map (some (σ.length+3)),.int .i64 0] FQ true]=o:=⟨_,rfl⟩
 have hmem:(σ++[A6.cells (Dd (List.replicate n (0,0))) AW true]++[A6.cells (Bm (List.replicate (64*n) 0)) As true]++[A6.map []]++[A6.map []] ++
   [A6.cells [.slice (some ⟨σ.length,0,none⟩) n n,.slice (some ⟨(σ++[A6.cells (Dd (List.replicate n (0,0))) AW true]).length,0,none⟩) (64*n) (64*n),.pointer none,.pointer none,.map (some (σ++[A6.cells (Dd (List.replicate n (0,0))) AW true]++[A6.cells (Bm (List.replicate (64*n) 0)) As true]).length),.map (some (σ++[A6.cells (Dd (List.replicate n (0,0))) AW true]++[A6.cells (Bm (List.replicate (64*n) 0)) As true]++[A6.map []]).length),.int .i64 0] FQ true])=σ++o:=by
  rw[← ho]; simp
 have hh:(σ++[A6.cells (Dd (List.replicate n (0,0))) AW true]++[A6.cells (Bm (List.replicate (64*n) 0)) As true]++[A6.map []]++[A6.map []]).length=σ.length+4:=by simp
 rw[hmem,hh]
 have hol:o.length=5:=by rw[← ho]; rfl
 have g:∀ q,q<5→(σ++o)[σ.length+q]?=o[q]?:=fun q _=>by rw[List.getElem?_append_right (by omega)]; congr 1; omega
 have gd:∀ (τ:Aa) q,q<5→(σ++o++τ)[σ.length+q]?=o[q]?:=fun τ q hq=>by rw[List.getElem?_append_left (by simp; omega)]; exact g q hq
 have l1:Hx (σ++o) (σ.length+4) 1=some (some ⟨σ.length+1,0,none⟩,64*n,64*n):=by
  simp only[Hx,Gi,g 4 (by omega)]; rw[← ho]; rfl
 have e2:((64*n:Nat):Int).tdiv 2=((32*n:Nat):Int):=by
  rw[show ((64*n:Nat):Int).tdiv 2=(((64*n)/2:Nat):Int) from rfl]; omega
 have e3:Cf ((32*n:Nat):Int)=((32*n:Nat):Int):=Ak (by unfold AU; omega)
 obtain ⟨τ1,st,sw,hN1,hT1,a1,a2,a3⟩:=me k (e:=32*n) (by omega) (by omega) (σ++o)
 simp only[Nat.zero_add,l1,Option.bind_some,show ((2:Int)=0)=False from by simp,if_false,e2,e3,hN1,ZH]
 have lo:(σ++o).length=σ.length+5:=by simp[hol]
 rw[lo] at a1 a2
 obtain ⟨c,hc⟩:∃ c,[Value.slice (some ⟨σ.length,0,none⟩) n n,.slice (some ⟨σ.length+1,0,none⟩) (64*n) (64*n),.pointer none,.pointer none,.map (some (σ.length+2)),.map (some (σ.length+3)),.int .i64 0]=c:=⟨_,rfl⟩
 have o4:o[4]?=some (.cells c FQ true):=by rw[← ho,← hc]; rfl
 obtain ⟨μ1,hμ1⟩:∃ μ1,σ++o++τ1=μ1:=⟨_,rfl⟩
 have b1:∀ q,q<5→μ1[σ.length+q]?=o[q]?:=fun q hq=>hμ1 ▸ gd τ1 q hq
 have L1:σ.length+5≤μ1.length:=by rw[← hμ1,List.length_append,lo]; omega
 rw[hμ1] at hT1 ⊢
 have s1:K3 μ1 (σ.length+4) 2 (.pointer (some ⟨st,0,none⟩))=some (μ1.set (σ.length+4) (.cells (c.set 2 (.pointer (some ⟨st,0,none⟩))) FQ true)):=by
  simp only[K3,b1 4 (by omega),o4]
  rw[if_pos (by rw[← hc]; simp)]
 obtain ⟨μ2,hμ2⟩:∃ μ2,μ1.set (σ.length+4) (.cells (c.set 2 (.pointer (some ⟨st,0,none⟩))) FQ true)=μ2:=⟨_,rfl⟩
 rw[hμ2] at s1
 have b2:∀ q,q≠σ.length+4→μ2[q]?=μ1[q]?:=fun q hq=>by rw[← hμ2]; exact List.getElem?_set_ne (Ne.symm hq)
 have b2h:μ2[σ.length+4]?=some (.cells (c.set 2 (.pointer (some ⟨st,0,none⟩))) FQ true):=by rw[← hμ2]; exact List.getElem?_set_self (by omega)
 have L2:μ2.length=μ1.length:=by rw[← hμ2]; simp
 have l2:Hx μ2 (σ.length+4) 1=some (some ⟨σ.length+1,0,none⟩,64*n,64*n):=by
  simp only[Hx,Gi,b2h]; rw[← hc]; rfl
 obtain ⟨τ2,pn,pw,hN2,hT2,p1,p2,p3⟩:=me k (e:=32*n) (by omega) (by omega) μ2
 have t1:=hT1.lt
 obtain ⟨μ3,hμ3⟩:∃ μ3,μ2++τ2=μ3:=⟨_,rfl⟩
 have b3:∀ q,q<μ2.length→μ3[q]?=μ2[q]?:=fun q hq=>by rw[← hμ3]; exact List.getElem?_append_left hq
 have L3:μ2.length≤μ3.length:=by rw[← hμ3]; simp
 rw[hμ3] at hN2 hT2
 have s3:K3 μ3 (σ.length+4) 3 (.pointer (some ⟨pn,0,none⟩))=some (μ3.set (σ.length+4) (.cells ((c.set 2 (.pointer (some ⟨st,0,none⟩))).set 3 (.pointer (some ⟨pn,0,none⟩))) FQ true)):=by
  simp only[K3,b3 (σ.length+4) (by omega),b2h]
  rw[if_pos (by rw[← hc]; simp)]
 obtain ⟨μ4,hμ4⟩:∃ μ4,μ3.set (σ.length+4) (.cells ((c.set 2 (.pointer (some ⟨st,0,none⟩))).set 3 (.pointer (some ⟨pn,0,none⟩))) FQ true)=μ4:=⟨_,rfl⟩
 rw[hμ4] at s3
 have b4:∀ q,q≠σ.length+4→μ4[q]?=μ3[q]?:=fun q hq=>by rw[← hμ4]; exact List.getElem?_set_ne (Ne.symm hq)
 have b4h:μ4[σ.length+4]?=some (.cells ((c.set 2 (.pointer (some ⟨st,0,none⟩))).set 3 (.pointer (some ⟨pn,0,none⟩))) FQ true):=by rw[← hμ4]; exact List.getElem?_set_self (by omega)
 have L4:μ4.length=μ3.length:=by rw[← hμ4]; simp
 have b:∀ q,q<μ2.length→q≠σ.length+4→μ4[q]?=μ1[q]?:=fun q h1 h2=>(b4 q h2).trans ((b3 q h1).trans (b2 q h2))
 have bo:∀ q,q<4→μ4[σ.length+q]?=o[q]?:=fun q hq=>(b _ (by omega) (by omega)).trans (b1 q (by omega))
 simp only[s1,Option.bind_some,l2,e2,e3,hN2,ZH,s3]
 refine ⟨μ4,⟨σ.length+4,σ.length,σ.length+1,st,sw,pn,pw,σ.length+2,σ.length+3⟩,rfl, ?_, ?_, ?_⟩
 ·refine ⟨?_, ?_, ?_, ?_, ?_, ?_, ?_, ?_, ?_, ?_, ?_, ?_⟩
  ·rw[b4h,← hc]
   simp[My]
  ·show μ4[σ.length]?=_
   have:=bo 0 (by omega)
   rw[Nat.add_zero] at this
   rw[this,← ho]; rfl
  ·show μ4[σ.length+1]?=_
   rw[bo 1 (by omega),← ho]; rfl
  ·show DU μ4 st sw (32*(List.replicate n ((0:Int),(0:Int))).length) 1 _
   rw[List.length_replicate]
   exact hT1.same (b _ (by omega) (by omega)) (b _ (by omega) (by omega))
  ·show DU μ4 pn pw (32*(List.replicate n ((0:Int),(0:Int))).length) 1 _
   rw[List.length_replicate]
   exact hT2.same (b4 _ (by omega)) (b4 _ (by omega))
  ·show μ4[σ.length+2]?=_
   rw[bo 2 (by omega),← ho]; rfl
  ·show μ4[σ.length+3]?=_
   rw[bo 3 (by omega),← ho]; rfl
  ·simpa [My] using h2
  ·simpa [My] using h64
  ·simp[My]
  ·simp only[DD.l,List.nodup_cons,List.mem_cons,List.not_mem_nil,or_false,not_or,List.nodup_nil,not_false_eq_true,and_true]
   have:=hT2.lt
   refine ⟨⟨?_, ?_, ?_, ?_, ?_, ?_, ?_, ?_⟩,⟨?_, ?_, ?_, ?_, ?_, ?_, ?_⟩,⟨?_, ?_, ?_, ?_, ?_, ?_⟩,⟨?_, ?_, ?_, ?_, ?_⟩,⟨?_, ?_, ?_, ?_⟩,⟨?_, ?_, ?_⟩,⟨?_, ?_⟩, ?_⟩ <;> omega
  ·intro a
   show AU ((List.replicate (64*n) (0:Int)).getD a 0)
   rw[List.getD_eq_getElem?_getD,List.getElem?_replicate]
   split <;> (unfold AU; decide)
 ·intro j hj
  simp only[DD.l,List.mem_cons,List.not_mem_nil,or_false] at hj
  omega
 ·refine ⟨by omega,fun j hj hne=>?_⟩
  rw[b j (by omega) (by omega),← hμ1,List.append_assoc,List.getElem?_append_left hj]
end Go.Proofs.YtjbledomkmdkmaaGreat
end
section
namespace Go.Proofs.YtjbledomkmdkmaaGreat
open Go Go.AX
noncomputable local instance qCX:A9:=Aw
local instance nCX:Kn:=⟨true⟩
variable {σ:Aa} {i:DD} {m:HM}
structure ml where
 k:Int
 a:Int
 b:Int
 c:Int
 r:Int
 d:Int
 s:Int
def ml.cells (x:ml):List Value:=[.int .i64 x.k,.int .i64 x.a,.int .i64 x.b,.int .i64 x.c,.int .i64 x.r,.int .i64 x.d,.int .i64 x.s]
def ml.ok (x:ml):Prop:=AU x.k∧AU x.a∧AU x.b∧AU x.c∧AU x.r∧AU x.d∧AU x.s
theorem RA.after {μ:Aa} {mm:Option (Value × Aa)} {r:Int × HM} (h:RA mm μ i r) (hk:Bu i σ μ):RA mm σ i r:=by
 obtain ⟨σ',e,h1,h2⟩:=h
 exact ⟨σ',e,h1,hk.trans h2⟩
def doR (m:HM) (x:ml):Int × HM:=
 if x.k=0 then De m x.a 1 1 x.b 0 0 else if x.k=1 then De m x.a x.b 2 x.c 3 x.c else if x.k=2 then DJ m x.a else if x.k=3 then Aey m x.a x.b else
 if x.k=4 then (Hc m x.a x.r x.d x.s).2 else if x.k=5 then Kv m x.a else if x.k=6 then Ah8 m x.a x.b else if x.k=7 then EK m x.a x.b x.c else
 if x.k=8 then wy m x.a x.b x.c else if x.k=9 then Aib m x.a x.b else if x.k=10 then QD m x.a 1 else if x.k=11 then QD m x.a 0 else
 if x.k=12 then (0,{ m with fw:=[] }) else (0,m)
def Adg:List ml→List Value
 | []=>[]
 | x::l=>x.cells++Adg l
def wM (σ:Aa) (p:Option Addr) (l:List ml):Prop:=l=[] ∨ ∃ ab T rw,p=some ⟨ab,0,none⟩∧σ[ab]?=some (.cells (Adg l) T rw)
theorem wM.GI {σ σ':Aa} {p:Option Addr} {l:List ml} (h:wM σ p l) (hk:Bu i σ σ') (hi:l≠[] → ∀ a,p=some a→a.block ∉ i.l):wM σ' p l:=by
 by_cases hl:l=[]
 ·exact .inl hl
 rcases h with h | ⟨ab,T,rw',rfl,h⟩
 ·exact .inl h
 ·exact .inr ⟨ab,T,rw',rfl,(hk.same _ (Al h) (hi hl _ rfl)).trans h⟩
def runM (m:HM) (l:List ml):HM:=l.foldl (fun m x=>(doR m x).2) m
end Go.Proofs.YtjbledomkmdkmaaGreat
end
section
namespace Go.Proofs.YtjbledomkmdkmaaGreat
open Go Go.AX
noncomputable local instance qCG:A9:=Aw
local instance nCG:Kn:=⟨true⟩
variable {σ:Aa} {i:DD} {m:HM}
theorem VN {lo n j:Nat}:j ∈ FP m lo n↔lo≤j∧j<lo+n∧Ec 1 m.stw j=1:=by
 unfold FP
 rw[List.mem_filter,List.mem_range'_1]
 simp[and_assoc]
theorem Agx {j:Nat}:j ∈ FP m 0 (32*m.bls.length)↔Start m j:=by
 rw[VN]; unfold Start; simp
theorem jw (lo n:Nat):(FP m lo n).Nodup:=(List.nodup_range' (step:=1) (by decide)).filter _
theorem Zi (l:List Nat) {x:Nat} (hx:x<l.length):(EU l).getD x 0=((2*l[x]:Nat):Int):=by
 simp[EU,List.getElem?_eq_getElem hx]
end Go.Proofs.YtjbledomkmdkmaaGreat
end
