/- Move.; What the calls leave holds together; plain laws.; New.; Calls one by one, and all of them: do, Made.; Small things that more than one law uses. -/
import Derived.Test.YtjbledomkmdkmaaGreatP19
set_option linter.unusedVariables false
set_option linter.unusedSimpArgs false
set_option linter.unusedSectionVars false
namespace Go.Proofs.YtjbledomkmdkmaaGreat
open Go Go.AX
noncomputable section
section
local instance xU:AA:=Ap
variable {J:Aa} {i:Cd} {m:HM}
def Ym (m:HM) (t:Nat) (id:Int) (held:List Int):HM:=
 { m with wds:=NA m.wds (2*t) held,stw:=Fm 1 m.stw t 1,pl:=NR id ((2*t:Nat):Int) m.pl }
theorem nF {t j':Nat} {id:Int} {held:List Int} (hl:32*m.bls.length<=64*m.stw.length) (hj:t<32*m.bls.length):Start (Ym m t id held) j'↔j'=t\/Start m j':=by
 unfold Start Ym;simp only;by_cases hq:j'=t
 ·subst hq;simp only[true_or,iff_true];exact ⟨hj,Ew (.inl rfl) (by decide) (by omega)⟩
 ·rw[BO (.inl rfl) (by decide) (fun e=>hq e.symm)];simp[hq]
theorem Inv.add (h:Inv m) (hl:32*m.bls.length<=64*m.stw.length) {t:Nat} {id:Int} {held:List Int} {r d k:Int} (hv:valid r d k=true) (hj:t<32*m.bls.length)
  (hlen:held.length=NH (num r d k)) (h0:held.getD 0 0=id) (h1:held.getD 1 0=num r d k) (hid:1<=id/\id<=m.births) (hnone:getM m.pl id=none)
  (hfit:2*t+NH (num r d k)<=m.wds.length) (hap:∀ o,Start m o->2*o+sz m o<=2*t\/2*t+NH (num r d k)<=2*o):Inv (Ym m t id held):=by
 have hst:=fun j'=>nF (m:=m) (t:=t) (j':=j') (id:=id) (held:=held) hl hj;have h3:2<=NH (num r d k):=by
  rw[Jp hv];simp[valid] at hv;omega
 have hnj:¬ Start m t:=fun hs=>by
  have h1:=hap t hs;have h2:=h.size hs;omega
 have hle:2*t+held.length<=m.wds.length:=by omega
 have w0:(Ym m t id held).wds.getD (2*t) 0=id:=by
  show (NA _ _ _).getD _ 0=_;rw[Jf hle,yk (by omega),Aaf,h0]
 have w1:(Ym m t id held).wds.getD (2*t+1) 0=num r d k:=by
  show (NA _ _ _).getD _ 0=_;rw[Jf hle,yk (by omega),show 2*t+1-2*t=1 from by omega,h1]
 have wo:∀ j',Start m j' -> ∀ c,c<2->(Ym m t id held).wds.getD (2*j'+c) 0=m.wds.getD (2*j'+c) 0:=by
  intro j' hs' c hc;have hz:=h.size hs';have:=hap j' hs';show (NA _ _ _).getD _ 0=_;rw[Jf hle,ym (by omega)]
 have s1:sz (Ym m t id held) t=NH (num r d k):=by unfold sz; rw[w1]
 have so:∀ j',Start m j'->sz (Ym m t id held) j'=sz m j':=fun j' hs'=>by unfold sz; rw[wo j' hs' 1 (by decide)]
 have wl:(Ym m t id held).wds.length=m.wds.length:=KQ hle;have wo0:∀ j',Start m j'->(Ym m t id held).wds.getD (2*j') 0=m.wds.getD (2*j') 0:=fun j' hs'=>wo j' hs' 0 (by decide);have hpl:∀ x,getM (Ym m t id held).pl x=if x=id then some ((2*t:Nat):Int) else getM m.pl x:=fun x=>N2 _ _ _ _
 refine ⟨fun j' hs'=>?_,fun j' hs'=>?_,fun j1 j2 h1 h2 hlt=>?_,fun j' hs'=>?_,fun id' a hg=>?_,h.brt,RZ _ _ _ h.onc⟩
 ·rcases (hst j').1 hs' with rfl | hs'
  ·exact ⟨r,d,k,hv,w1⟩
  ·obtain ⟨r',d',k',hv',hn⟩:=h.good j' hs';exact ⟨r',d',k',hv',by rw[wo j' hs' 1 (by decide)]; exact hn⟩
 ·rw[wl];rcases (hst j').1 hs' with rfl | hs'
  ·rw[s1]; exact hfit
  ·rw[so j' hs']; exact h.fit j' hs'
 ·rcases (hst j1).1 h1 with rfl | h1'
  ·rcases (hst j2).1 h2 with rfl | h2'
   ·omega
   ·rw[s1];have:=hap j2 h2';have:=h.size h2';omega
  ·rw[so j1 h1'];rcases (hst j2).1 h2 with rfl | h2'
   ·have:=hap j1 h1';omega
   ·exact h.apart j1 j2 h1' h2' hlt
 ·rw[hpl];rcases (hst j').1 hs' with rfl | hs'
  ·rw[w0];exact ⟨hid.1,hid.2,yk rfl⟩
  ·rw[wo0 j' hs'];obtain ⟨i1,i2,i3⟩:=h.idn j' hs';refine ⟨i1,i2, ?_⟩;rw[ym (fun e=>by rw[e,hnone] at i3; cases i3)]; exact i3
 ·rw[hpl] at hg;split at hg
  ·rename_i hid';cases hg;exact ⟨t,rfl,(hst t).2 (.inl rfl),by rw[w0,hid']⟩
  ·obtain ⟨j',rfl,hs',he⟩:=h.plc id' a hg;exact ⟨j',rfl,(hst j').2 (.inr hs'),by rw[wo0 j' hs']; exact he⟩
theorem Inv.places (h:Inv m) (l:List (Int × Int)) (ho:Q7 l) (hg:∀ x,getM l x=getM m.pl x):Inv { m with pl:=l }:=
 ⟨h.good,h.fit,h.apart,fun j hs=>by rw[hg]; exact h.idn j hs,fun id a e=>h.plc id a (by rw[<- hg]; exact e),h.brt,ho⟩
def N6 (m:HM) (j t:Nat):HM:=
 { m with
   wds:=NA (NA m.wds (2*j) (List.replicate (sz m j) 0)) (2*t) ((m.wds.drop (2*j)).take (sz m j))
   stw:=Fm 1 (Fm 1 m.stw j 0) t 1
   pnw:=Fm 1 (Fm 1 m.pnw j 0) t (CR 1 m.pnw j)
   pl:=NR (m.wds.getD (2*j) 0) ((2*t:Nat):Int) m.pl
   fw:=NR ((2*j:Nat):Int) ((2*t:Nat):Int) m.fw }
theorem Inv.move (h:Inv m) (hl:32*m.bls.length<=64*m.stw.length) {j t:Nat} (hs:Start m j) (ht:t<32*m.bls.length) (hfit:2*t+sz m j<=m.wds.length)
  (hap:∀ o,Start m o->o≠j->2*o+sz m o<=2*t\/2*t+sz m j<=2*o):Inv (N6 m j t):=by
 have hj:=hs.1;have hf:=h.fit j hs;have hz:=h.size hs;have hst:=fun j'=>LU (m:=m) (j:=j) (j':=j') hl hj;obtain ⟨r,d,k,hv,hn⟩:=h.good j hs;obtain ⟨i1,i2,i3⟩:=h.idn j hs;have hsz:sz m j=NH (num r d k):=by unfold sz; rw[hn]
 have hk:=h.kill hl hs;have held:∀ c,c<sz m j->((m.wds.drop (2*j)).take (sz m j)).getD c 0=m.wds.getD (2*j+c) 0:=by
  intro c hc;simp only[yd,zt,hc,ye,zs]
 have wl:(Ir m j).wds.length=m.wds.length:=KQ (by simpa using hf);have so:∀ o,Start m o->o≠j->sz (Ir m j) o=sz m o:=by
  intro o ho hne;have hz':=h.size ho;unfold sz;congr 1;show (NA _ _ _).getD _ 0=_;rw[Jf (by simpa using hf),ym];rintro ⟨p1,p2⟩;simp only[zT] at p2;rcases Aaa j o with hlt | rfl | hlt
  ·have:=h.apart j o hs ho hlt; omega
  ·exact hne rfl
  ·have:=h.apart o j ho hs hlt; omega
 have ha:=hk.add (t:=t) (id:=m.wds.getD (2*j) 0) (held:=(m.wds.drop (2*j)).take (sz m j)) (r:=r) (d:=d) (k:=k)
  (by show 32*m.bls.length<=64*(Fm _ _ _ _).length; rw[EW]; exact hl) hv ht (by rw[<- hsz]; simp; omega) (held 0 (by omega)) (by rw[held 1 (by omega),hn]) ⟨i1,i2⟩
  (by show getM (VT _ _) _=none; rw[RN _ _ _ h.onc,yk rfl]) (by rw[<- hsz,wl]; exact hfit)
  (fun o ho=>by
   obtain ⟨hne,ho'⟩:=(hst o).1 ho;rw[<- hsz,so o ho' hne]; exact hap o ho' hne);have hp:=ha.places (NR (m.wds.getD (2*j) 0) ((2*t:Nat):Int) m.pl) (RZ _ _ _ h.onc) (fun x=>by
  show getM (NR _ _ _) x=getM (NR _ _ (VT _ _)) x;rw[N2,N2,RN _ _ _ h.onc];split <;> rfl);exact (hp.pins (Fm 1 (Fm 1 m.pnw j 0) t (CR 1 m.pnw j))).eU (NR ((2*j:Nat):Int) ((2*t:Nat):Int) m.fw)
def tA (m:HM) (a b:Int):Int × HM:=
 if AU m a then (if KO m b (sz m (a.toNat/2)) a=0 then (0,N6 m (a.toNat/2) (b.toNat/2)) else (KO m b (sz m (a.toNat/2)) a,m)) else (4,m)
theorem Inv.blocks (h:Inv m) (l:List (Int × Int)) (hl:l.length=m.bls.length):Inv { m with bls:=l }:=by
 have hs:∀ j,Start { m with bls:=l } j↔Start m j:=fun j=>by unfold Start; simp only[hl]
 exact ⟨fun j hj=>h.good j ((hs j).1 hj),fun j hj=>h.fit j ((hs j).1 hj),fun j j' h1 h2=>h.apart j j' ((hs j).1 h1) ((hs j').1 h2),fun j hj=>h.idn j ((hs j).1 hj),fun id a e=>by
  obtain ⟨j,e1,e2,e3⟩:=h.plc id a e;exact ⟨j,e1,(hs j).2 e2,e3⟩,h.brt,h.onc⟩
theorem Sx:∀ (l:List (Int × Int)) (b:Nat) (x y:Int),b<l.length->CB (l.set b (x,y))=AP (CB l) (b*2) [.int .i64 x,.int .i64 y]
 | [],_,_,_,h=>by simp at h
 | e::l,0,x,y,h=>by simp[CB,AP]
 | e::l,b+1,x,y,h=>by
   have ih:=Sx l b x y (by simpa using h);have e1:(b+1)*2=b*2+1+1:=by omega
   simp only[zW,CB,ih,e1,AP,Acw,Ab7,Ab6,ze,zo]
theorem Ai.va (h:Ai J i m) {b:Nat} (hb:b<m.bls.length) (x y:Int):H2 J i.bl (b*2) [.int .i64 x,.int .i64 y]=some (J.set i.bl (.cells (CB (m.bls.set b (x,y))) Fz true)) /\
  Ai (J.set i.bl (.cells (CB (m.bls.set b (x,y))) Fz true)) i { m with bls:=m.bls.set b (x,y) }:=by
 refine ⟨?_,h.kF _ (by simp)⟩;have:b*2+2<=(CB m.bls).length:=by rw[Iu]; omega
 simp only[H2,h.bl,ze,zo,IN,Nat.reduceAdd,this,ye,Sx _ _ _ _ hb]
def Zs (l:List (Int × Int)) (b:Nat):Nat->List (Int × Int)
 | 0=>l
 | n+1=>Zs (l.set (b+n) (0,0)) b n
def sV (l:List (Int × Int)) (b:Nat) (y:Int):Nat->List (Int × Int)
 | 0=>l
 | n+1=>sV (l.set (b+n) ((l.getD (b+n) (0,0)).1,y)) b y n
theorem WY (b:Nat):∀ (n:Nat) (l:List (Int × Int)),(Zs l b n).length=l.length
 | 0,l=>rfl
 | n+1,l=>by rw[Zs,WY b n]; simp
theorem Ty (k:Nat) {b:Nat}:∀ (n f:Nat) (J:Aa) (m:HM),Ai J i m->b+n<=m.bls.length->n<f -> ∃ J',DM k f (AM i) (b:Int) (n:Int) J=some (.exit 0,[],J')/\Ai J' i { m with bls:=Zs m.bls b n }/\Be i J J'
 | 0,0,J,m,h,hb,hf=>by omega
 | 0,f+1,J,m,h,hb,hf=>by
   rw[JE];exact ⟨J,rfl,h,Be.refl _ _⟩
 | n+1,0,J,m,h,hb,hf=>by omega
 | n+1,f+1,J,m,h,hb,hf=>by
   have ht:=h.nt;obtain ⟨e1,h1⟩:=h.va (b:=b+n) (by omega) 0 0;obtain ⟨J',e2,h2,k2⟩:=Ty k n f _ _ h1 (by show b+n<=(m.bls.set _ _).length; rw[yZ]; omega) (by omega);refine ⟨J', ?_,h2,(Be.set _ _ (by simp[Cd.l])).trans k2⟩;rw[JE];have q:decide (((n+1:Nat):Int)>0)=true:=xZ (by omega);have w1:Ar ((b:Int)+((n+1:Nat):Int))=((b+n+1:Nat):Int):=by rw[Ah (by unfold AK; omega)]; omega
   have w2:Ar (((b+n+1:Nat):Int)-1)=((b+n:Nat):Int):=by rw[Ah (by unfold AK; omega)]; omega
   have w3:Ar (((n+1:Nat):Int)-1)=(n:Int):=by rw[Ah (by unfold AK; omega)]; omega
   simp only[q,IT,AI,yl,h.GK,w1,w2,w3];rw[yk (by omega)];simp only[AI,IN,xQ,e1];exact e2
theorem XJ (k:Nat) (h:Ai J i m) (b:Int):Dy (k+2) (AM i) b J=some (.bool (decide (1<=b/\b<(m.bls.length:Int))),J):=by
 rw[Rs];simp only[IM _ h,AI,Ao,IT];by_cases h0:1<=b
 ·simp only[show decide (b>=1)=true from by simpa using h0,IT,IN,AI,h.GK];simp[h0]
 ·simp only[show decide (b>=1)=false from by simpa using h0,By,AI];simp[h0]
def Qz (m:HM) (b:Int) (ok:Bool):Int:=
 if ¬ (1<=b/\b<(m.bls.length:Int))\/ok=false then 1
 else if (m.bls.getD b.toNat (0,0)).1≠1/\(m.bls.getD b.toNat (0,0)).1≠2 then 5 else 0
theorem sm (k:Nat) (h:Ai J i m) (b:Int) (ok:Bool):HN (k+3) (AM i) b ok J=some (.int .i64 (Qz m b ok),J):=by
 rw[SR];simp only[IM _ h,XJ _ h,AI,Ao,yp,By];unfold Qz;by_cases h0:1<=b/\b<(m.bls.length:Int);rotate_left
 ·simp[h0]
 obtain ⟨n,rfl⟩:∃ n:Nat,b=(n:Int):=⟨b.toNat,by omega⟩;have hn:n<m.bls.length:=by omega
 have q0:decide (1<=(n:Int)/\(n:Int)<(m.bls.length:Int))=true:=xZ h0;simp only[q0,yp,By,AI];cases ok with
 | false=>simp
 | true=>
   have q1:(¬ (1<=(n:Int)/\(n:Int)<(m.bls.length:Int))\/true=false)=False:=Ad0 (by simp; omega);simp only[yp,By,IN,yl,h.GK,AI,q1,yq];rw[yk (show 0<=(n:Int)/\(n:Int)<((m.bls.length:Nat):Int) by omega)];simp only[AI,xQ,IN,(h.Tq hn).1];by_cases g1:(m.bls.getD n (0,0)).1=1
   ·simp only[g1,yr,By,AI,ne_eq,Aah,false_and,yq]
   ·have p1:((m.bls.getD n (0,0)).1 != 1)=true:=zr.2 g1;simp only[p1,IT];rw[yk (show 0<=(n:Int)/\(n:Int)<((m.bls.length:Nat):Int) by omega)];simp only[AI,(h.Tq hn).1];by_cases g2:(m.bls.getD n (0,0)).1=2
    ·simp only[g2,yr,By,ne_eq,Aah,and_false,yq]
    ·have p2:((m.bls.getD n (0,0)).1 != 2)=true:=zr.2 g2;simp only[p2,IT,ne_eq,g1,g2,zP,Abg,ye]
theorem YS {b:Int} {ok:Bool} (h:Qz m b ok=0):∃ n:Nat,b=(n:Int)/\1<=n/\n<m.bls.length/\ok=true:=by
 unfold Qz at h;split at h
 ·cases h
 ·rename_i h0;refine ⟨b.toNat, ?_, ?_, ?_, ?_⟩
  ·omega
  ·omega
  ·omega
  ·cases ok <;> simp at h0 ⊢
theorem gz {b:Nat} (hb:b<m.bls.length):b+Kr m b<=m.bls.length:=Z9 m b _ 1 (by omega)
def X0 (y:Int):Bool:=decide (0<=y/\y<8)
theorem qL (k:Nat) (y:Int) (J:Aa):Li (k+1) y J=some (.bool (X0 y),J):=by
 rw[Xo];unfold X0;by_cases h0:0<=y <;> simp[h0]
def qk (m:HM) (b y:Int):Int × HM:=
 if Qz m b (X0 y)=0 then (0,{ m with bls:=sV m.bls b.toNat y (Kr m b.toNat) }) else (Qz m b (X0 y),m)
def Di (m:HM) (b:Int):Int × HM:=
 if Qz m b true=0 then (if D6 m (32*b.toNat) 32=[] then (0,{ m with bls:=Zs m.bls b.toNat (Kr m b.toNat) }) else (8,m)) else (Qz m b true,m)
theorem bT (k:Nat) (hk:5000<=k) (h:Ai J i m) (b:Int):LJ (Fs (k+7) (AM i) b J) J i (Di m b):=by
 unfold Di;have ht:=h.nt;rw[PM];simp only[sm (k+3) h b true,AI,Ag];by_cases hc:Qz m b true=0;rotate_left
 ·have q:(Qz m b true != 0)=true:=zr.2 hc;simp only[q,IT];exact LJ.same h [] (by rw[yw]) (ym hc)
 rw[yk hc];obtain ⟨n,rfl,h1,h2,_⟩:=YS hc;rw[xQ];obtain ⟨τ,s,e1,e2⟩:=TS k hk h h2;simp only[hc,yr,By,e1,AI,ED];by_cases hl:((s.2.1:Nat):Int)>0
 ·simp only[show decide (((s.2.1:Nat):Int)>0)=true from xZ hl,IT];refine LJ.same h τ (code:=8) rfl (ym fun he=>?_);have hlen:=e2.len;rw[he] at hlen;simp[CK] at hlen;omega
 ·have hse:D6 m (32*n) 32=[]:=by
   have hlen:=e2.len;simp[CK] at hlen;exact zV.1 (by omega)
  rw[yk hse];simp only[show decide (((s.2.1:Nat):Int)>0)=false from xY hl,By];obtain ⟨J',e,h3,k3⟩:=Ty (k+6) (b:=n) (Kr m n) (k+6) (J++τ) m (h.app τ) (gz h2) (by have:=gz h2; omega);simp only[kJ (k+5) (by omega) (h.app τ) h2,AI,Ag,e,ye];exact ⟨J',rfl,h3,(Be.app i J τ).trans k3⟩
theorem si (x y:Int):J9 P AY (.agg #[.int .i64 x,.int .i64 y]) (.agg #[.int .i64 0,.int .i64 0])=(bif x == 0 then some (y == 0) else some false):=by kernel_rfl
theorem dW (k:Nat) (x y:Int) (J:Aa):∃ τ,Ge (k+1) x y J=some (.bool (!(bif x == 0 then y == 0 else false)),J++τ):=by
 rw[OS];simp only[Ae,Bh,IN,yy,yB,AI,Ag];rw[si];cases x == 0 <;> exact ⟨_,rfl⟩
def J5 (l:List (Int × Int)) (b:Nat):Nat->Nat->Option Nat
 | 0,_=>none
 | n+1,x=>if (l.getD (b+x) (0,0)).1=0/\(l.getD (b+x) (0,0)).2=0 then J5 l b n (x+1) else some x
theorem W3 (k:Nat) {b c:Nat} (c2:Nat) (v:Value) (hv:∀ x y J,∃ τ,J7 k v [.agg #[.int .i64 x,.int .i64 y]] J=some (.bool (!(bif x == 0 then y == 0 else false)),J++τ)):∀ (n x f:Nat) (J:Aa),Ai J i m->b+c<=m.bls.length->x+n=c->n<f ->
  ∃ τ,BE k f (some ⟨i.bl,b*2,none⟩) c c2 v (c:Int) (x:Int) J=some (match J5 m.bls b n x with | some x'=>(.ret,[.int .i64 (x':Int)],J++τ) | none=>(.exit 0,[],J++τ))
 | 0,x,0,J,h,hb,hx,hf=>by omega
 | 0,x,f+1,J,h,hb,hx,hf=>by
   rw[GB];have q:decide ((x:Int)<(c:Int))=false:=xY (by omega);exact ⟨[],by simp only[q,By,J5,yw]⟩
 | n+1,x,0,J,h,hb,hx,hf=>by omega
 | n+1,x,f+1,J,h,hb,hx,hf=>by
   have ht:=h.nt;have q:decide ((x:Int)<(c:Int))=true:=xZ (by omega);have hbx:b+x<m.bls.length:=by omega
   obtain ⟨l1,l2⟩:=h.Tq hbx;have a1:Ak .i64 J i.bl (b*2+x*2)=some (m.bls.getD (b+x) (0,0)).1:=by rw[<- l1]; congr 1; omega
   have a2:Ak .i64 J i.bl (b*2+x*2+1)=some (m.bls.getD (b+x) (0,0)).2:=by rw[<- l2]; congr 1; omega
   obtain ⟨τ,hcall⟩:=hv (m.bls.getD (b+x) (0,0)).1 (m.bls.getD (b+x) (0,0)).2 J;have w1:Ar ((x:Int)+1)=((x+1:Nat):Int):=Ah (by unfold AK; omega);obtain ⟨τ2,ih⟩:=W3 k c2 v hv n (x+1) f (J++τ) (h.app τ) hb (by omega) (by omega);rw[GB];simp only[q,IT];rw[yk (by omega)];simp only[AI,xQ,a1,a2,hcall,Ao,w1];rw[J5];by_cases g1:(m.bls.getD (b+x) (0,0)).1=0
   ·by_cases g2:(m.bls.getD (b+x) (0,0)).2=0
    ·rw[yk ⟨g1,g2⟩];simp only[g1,g2,Adj,IT,yp,By];refine ⟨τ++τ2, ?_⟩;rw[ih,ya]
    ·rw[ym (fun hh=>g2 hh.2)];have p2:((m.bls.getD (b+x) (0,0)).2 == 0)=false:=by simpa using g2
     simp only[g1,Adj,IT,p2,yY];exact ⟨τ,rfl⟩
   ·rw[ym (fun hh=>g1 hh.1)];have p1:((m.bls.getD (b+x) (0,0)).1 == 0)=false:=by simpa using g1
    simp only[p1,By,yY,IT];exact ⟨τ,rfl⟩
def TW (l:List (Int × Int)) (b:Nat) (e:Int × Int):Nat->Nat->List (Int × Int)
 | 0,_=>l
 | n+1,x=>TW (l.set (b+x) e) b e n (x+1)
theorem Iw (b:Nat) (e:Int × Int):∀ (n x:Nat) (l:List (Int × Int)),(TW l b e n x).length=l.length
 | 0,x,l=>rfl
 | n+1,x,l=>by rw[TW,Iw b e n]; simp
theorem WK (k:Nat) {b c:Nat} (e:Int × Int) (hb3:Nat):∀ (n x f:Nat) (J:Aa) (m:HM),Ai J i m->hb3 ∉ i.l->(∃ T,J[hb3]?=some (.cells [.int .i64 e.1,.int .i64 e.2] T true))->b+c<=m.bls.length->x+n=c->n<f ->
  ∃ J',EJ k f (AM i) (b:Int) hb3 (c:Int) (x:Int) J=some (.exit 1,[],J')/\Ai J' i { m with bls:=TW m.bls b e n x }/\Be i J J'
 | 0,x,0,J,m,h,hn,hbox,hb,hx,hf=>by omega
 | 0,x,f+1,J,m,h,hn,hbox,hb,hx,hf=>by
   rw[KA];have q:decide ((x:Int)<(c:Int))=false:=xY (by omega);exact ⟨J,by simp only[q,By],h,Be.refl _ _⟩
 | n+1,x,0,J,m,h,hn,hbox,hb,hx,hf=>by omega
 | n+1,x,f+1,J,m,h,hn,hbox,hb,hx,hf=>by
   have ht:=h.nt;obtain ⟨T,hbox⟩:=hbox;have q:decide ((x:Int)<(c:Int))=true:=xZ (by omega);obtain ⟨e1,h1⟩:=h.va (b:=b+x) (by omega) e.1 e.2;have k1:Be i J (J.set i.bl (.cells (CB (m.bls.set (b+x) (e.1,e.2))) Fz true)):=Be.set _ _ (by simp[Cd.l]);obtain ⟨J',e2,h2,k2⟩:=WK k e hb3 n (x+1) f _ _ h1 hn ⟨T,(k1.same _ (Af hbox) hn).trans hbox⟩ (by show b+c<=(m.bls.set _ _).length; rw[yZ]; omega) (by omega) (by omega);refine ⟨J', ?_,h2,k1.trans k2⟩;have w1:Ar ((x:Int)+1)=((x+1:Nat):Int):=Ah (by unfold AK; omega);have w2:Ar ((b:Int)+(x:Int))=((b+x:Nat):Int):=Ah (by unfold AK; omega);have l0:Ak .i64 J hb3 0=some e.1:=by simp[Ak,D5,hbox,Bn]
   have l1:Ak .i64 J hb3 1=some e.2:=by simp[Ak,D5,hbox,Bn]
   rw[KA];simp only[q,IT,AI,yl,IN,h.GK,l0,l1,w1,w2];rw[yk (by omega)];simp only[AI,xQ,e1];exact e2
theorem cX (h:Ai J i m) {a b:Nat} (hab:a<b) (hb:b<=m.bls.length):
  F8 AY 2 (some ⟨i.bl,0,none⟩,m.bls.length,m.bls.length) (some (.int .i64 (a:Int))) (some (.int .i64 (b:Int))) none J=some (some ⟨i.bl,a*2,none⟩,b-a,m.bls.length-a):=by
 have e1:elemAt J i.bl=some AY:=by simp only[elemAt,h.bl]
 have c1:(0<=(b:Int)/\(b:Int)<=((m.bls.length:Nat):Int)):=by omega
 have c2:(0<=(a:Int)/\(a:Int)<=(b:Int)):=by omega
 simp only[F8,Aab,yY,Acf,IT,bound,xQ];rw[yk c1,yk c2,ym (by omega)];simp[e1]
def Bs (m:HM) (b c x y x' y':Int):Int × HM:=
 if 1<=b/\b<(m.bls.length:Int)/\1<=c/\c<=(m.bls.length:Int)-b/\X0 y=true then
  (if J5 m.bls b.toNat c.toNat 0=none then (0,{ m with bls:=(TW m.bls b.toNat (x',y') c.toNat 0).set b.toNat (x,y) }) else (8,m)) else (1,m)
theorem Yz (k:Nat) (hk:5000<=k) (h:Ai J i m) (b c x y x' y':Int) (hb:AK b) (hc:AK c):LJ (Fb (k+6) (AM i) b c x y x' y' J) J i (Bs m b c x y x' y'):=by
 unfold Bs;have ht:=h.nt;have hnb:=h.nb;rw[Rq];simp only[Ae];obtain ⟨Z0_,hμ0⟩:∃ Z0_,J++[Au.cells [Value.int .i64 x,.int .i64 y] AY true]=Z0_:=⟨_,rfl⟩;rw[hμ0];obtain ⟨Z1_,hμ1⟩:∃ Z1_,Z0_++[Au.cells [Value.int .i64 x',.int .i64 y'] AY true]=Z1_:=⟨_,rfl⟩;rw[hμ1];have hE:Z1_=J++[Au.cells [Value.int .i64 x,.int .i64 y] AY true,Au.cells [Value.int .i64 x',.int .i64 y'] AY true]:=by rw[<- hμ1,<- hμ0]; simp
 have h1:Ai Z1_ i m:=by rw[hE]; exact h.app _
 have k1:Be i J Z1_:=by rw[hE]; exact Be.app i J _
 have hl0:Z0_.length=J.length+1:=by rw[<- hμ0]; simp
 have hx0:Z1_[J.length]?=some (Au.cells [Value.int .i64 x,.int .i64 y] AY true):=by rw[hE]; simp
 have hx1:Z1_[Z0_.length]?=some (Au.cells [Value.int .i64 x',.int .i64 y'] AY true):=by rw[<- hμ1]; simp
 have hn0:J.length ∉ i.l:=fun hm=>Aad _ (h.lt _ hm);have hn1:Z0_.length ∉ i.l:=fun hm=>by have:=h.lt _ hm; omega
 have ly:Ak .i64 Z1_ J.length 1=some y:=by simp[Ak,D5,hx0,Bn]
 have fail:∀ {r},r=((1:Int),m)->LJ (some (Value.int .i64 1,Z1_)) J i r:=fun hr=>LJ.same h [Au.cells [Value.int .i64 x,.int .i64 y] AY true,Au.cells [Value.int .i64 x',.int .i64 y'] AY true] (by rw[hE]) hr;simp only[IM _ h1,XJ _ h1,AI,Ao,yp,By,IN,yl,h1.GK,ly];by_cases g0:1<=b/\b<(m.bls.length:Int);rotate_left
 ·simp only[xY g0,yY,IT,AI];exact fail (ym (by omega))
 obtain ⟨n,rfl⟩:∃ n:Nat,b=(n:Int):=⟨b.toNat,by omega⟩;simp only[xZ g0,yp,By,AI];by_cases g1:c<1
 ·simp only[xZ g1,IT,AI];exact fail (ym (by omega))
 have e1:Ar (((m.bls.length:Nat):Int)-(n:Int))=((m.bls.length-n:Nat):Int):=by rw[Ah (by unfold AK; omega)]; omega
 simp only[xY g1,By,AI,h1.GK,e1];by_cases g2:c>((m.bls.length-n:Nat):Int)
 ·simp only[xZ g2,IT,AI];exact fail (ym (by omega))
 obtain ⟨w,rfl⟩:∃ w:Nat,c=(w:Int):=⟨c.toNat,by omega⟩;have hsp:=qL (k+4) y Z1_;generalize X0 y=ok at hsp ⊢;simp only[xY g2,By,AI,ly,hsp,Ao];cases ok with
 | false=>
   simp only[yY,IT];exact fail (ym (by simp))
 | true=>
   rw[yk ⟨g0.1,g0.2,by omega,by omega,rfl⟩,xQ,xQ];have e2:Ar ((n:Int)+(w:Int))=((n+w:Nat):Int):=Ah (by unfold AK; omega);have hw:n+w<=m.bls.length:=by omega
   simp only[yp,By,h1.GK,e2,cX h1 (show n<n+w by omega) hw,AI,Nat.add_sub_cancel_left];rw[Kh,Lo];have hv:∀ x y J,∃ τ,J7 (k+3) (.func (.func LG) #[] #[]) [.agg #[.int .i64 x,.int .i64 y]] J=some (.bool (!(bif x == 0 then y == 0 else false)),J++τ):=by
    intro x y J;rw[Mi];exact dW (k+2) x y J
   obtain ⟨τ,hidx⟩:=W3 (k+3) (b:=n) (c:=w) (m.bls.length-n) (.func (.func LG) #[] #[]) hv w 0 (k+3) Z1_ h1 hw (by omega) (by omega);rw[show ((0:Nat):Int)=0 from rfl] at hidx;cases hu:J5 m.bls n w 0 with
   | some x0=>
     rw[hu] at hidx;simp only[hidx,AI,ye,D7,Ag,Ao,reduceCtorEq,yq];have q:decide ((x0:Int)>=0)=true:=xZ (by omega);simp only[q,IT];exact LJ.same h ([Au.cells [Value.int .i64 x,.int .i64 y] AY true,Au.cells [Value.int .i64 x',.int .i64 y'] AY true]++τ) (code:=8) (by rw[hE,ya]) rfl
   | none=>
     rw[hu] at hidx;have q:decide ((-1:Int)>=0)=false:=by decide
     simp only[hidx,AI,ye,Ag,Ao,q,By];have h2:=h1.app τ;have k2:Be i Z1_ (Z1_++τ):=Be.app i Z1_ τ;have hy1:=(k2.same _ (Af hx1) hn1).trans hx1;obtain ⟨J3_,e3,h3,k3⟩:=WK (k+5) (b:=n) (c:=w) (x',y') Z0_.length w 0 (k+5) (Z1_++τ) m h2 hn1 ⟨_,hy1⟩ hw (by omega) (by omega);rw[show ((0:Nat):Int)=0 from rfl] at e3;have hy0:=(k3.same _ (Af ((k2.same _ (Af hx0) hn0).trans hx0)) hn0).trans ((k2.same _ (Af hx0) hn0).trans hx0);have l0:Ak .i64 J3_ J.length 0=some x:=by simp[Ak,D5,hy0,Bn]
     have l1:Ak .i64 J3_ J.length 1=some y:=by simp[Ak,D5,hy0,Bn]
     have hlen:(TW m.bls n (x',y') w 0).length=m.bls.length:=Iw _ _ _ _ _;obtain ⟨e4,h4⟩:=h3.va (b:=n) (by show n<(TW _ _ _ _ _).length; omega) x y;simp only[e3,AI,ye,h3.GK,l0,l1];rw[yk (by show 0<=(n:Int)/\(n:Int)<(((TW m.bls n (x',y') w 0).length:Nat):Int); omega)];simp only[AI,IN,xQ,e4];exact ⟨_,rfl,h4,((k1.trans k2).trans k3).trans (Be.set _ _ (by simp[Cd.l]))⟩
theorem XK (k:Nat) (hk:5000<=k) (h:Ai J i m) (b s:Int) (hb:AK b):LJ (Dw (k+7) (AM i) b s J) J i (Bs m b 1 1 s 0 0):=by
 refine (Yz k hk h b 1 1 s 0 0 hb (by unfold AK; decide)).to fun J' e=>?_;rw[Rn,e];simp only[AI,Ag]
theorem Qu (k:Nat) (hk:5000<=k) (h:Ai J i m) (b c s:Int) (hb:AK b) (hc:AK c):LJ (BU (k+7) (AM i) b c s J) J i (Bs m b c 2 s 3 s):=by
 refine (Yz k hk h b c 2 s 3 s hb hc).to fun J' e=>?_;rw[NK,e];simp only[AI,Ag]
end
section
variable {m:HM}
def use (m:HM) (j:Nat):Nat:=(2+Av m j+Bf m j).toNat
def TR (l:List (Int × Int)) (a wo:Nat):Prop:=
 (wo<=32->(l.getD (a/64) (0,0)).1=1/\(a+wo-1)/64=a/64) /\
 (32<wo->(l.getD (a/64) (0,0)).1=2/\a % 64=0 /\ ∀ c,a/64<c->c<=(a+wo-1)/64->(l.getD c (0,0)).1=3)
structure Inv2 (m:HM):Prop where
 kind:∀ j,Start m j->TR m.bls (2*j) (sz m j)
 zero:∀ a,(∀ j,Start m j->2*j<=a->a<2*j+use m j->False)->m.wds.getD a 0=0
structure Sh (m:HM):Prop where
 wl:m.wds.length=64*m.bls.length
 sl:32*m.bls.length<=64*m.stw.length
 pl:32*m.bls.length<=64*m.pnw.length
theorem Ai.sh {J:Aa} {i:Cd} (h:Ai J i m):Sh m:=⟨h.wl,bI h.st.len,bI h.pn.len⟩
theorem Inv.use (h:Inv m) {j:Nat} (hs:Start m j):2<=use m j/\use m j<=sz m j/\((use m j:Nat):Int)=2+Av m j+Bf m j:=by
 obtain ⟨z1,z2,z3,z4,z5,z6⟩:=h.size hs;unfold Go.Proofs.YtjbledomkmdkmaaGreat.use;omega
structure K7 (m:HM) (r:Int × HM):Prop where
 inv:Inv r.2
 inv2:Inv2 r.2
 b1:m.births<=r.2.births
 b2:r.2.births<=m.births+1
 len:r.2.bls.length=m.bls.length
 err:r.1≠0->r.2=m
theorem K7.same (h:Inv m) (h2:Inv2 m) (c:Int):K7 m (c,m):=⟨h,h2,Aas _,by simp only; omega,rfl,fun _=>rfl⟩
theorem Qe (h:Inv m) {a x:Int} {data:Bool} {w:Int} (hf:B9 m a x data=(w,0)):∃ j t:Nat,Start m j/\a=((2*j:Nat):Int)/\w=((2*j+2+t:Nat):Int)/\2+t<use m j/\(t:Int)=x+(if data then Av m j else 0):=by
 unfold B9 at hf;split at hf
 ·rename_i hh;obtain ⟨j,rfl,hs⟩:=Bd hh;have ej:((2*j:Nat):Int).toNat/2=j:=by omega
  obtain ⟨z1,z2,z3,z4,z5,z6⟩:=h.size hs;obtain ⟨_,_,u3⟩:=h.use hs;simp only[ej] at hf;cases data with
  | false=>
    simp only[y8,yq] at hf;split at hf
    ·rename_i hc;have hw:=zC Prod.fst hf;simp only at hw;exact ⟨j,x.toNat,hs,rfl,by omega,by omega,by simp only[y8,yq]; omega⟩
    ·have:=zC Prod.snd hf;simp at this
  | true=>
    simp only[ye] at hf;split at hf
    ·rename_i hc;have hw:=zC Prod.fst hf;simp only at hw;exact ⟨j,(Av m j+x).toNat,hs,rfl,by omega,by omega,by simp only[ye]; omega⟩
    ·have:=zC Prod.snd hf;simp at this
 ·have:=zC Prod.snd hf;simp at this
theorem Vx (h:Inv m) {j t:Nat} (hs:Start m j) (ht:2+t<sz m j) (v:Int):∀ j',Start m j' -> ∀ c,c<2->(Gz m (2*j+2+t) v).wds.getD (2*j'+c) 0=m.wds.getD (2*j'+c) 0:=by
 intro j' hs' c hc;show (m.wds.set _ _).getD _ _=_;rw[Ca,ym];rintro ⟨e,_⟩;have h1:=h.apart j j' hs hs';have hz:=h.size hs';rcases Aaa j j' with hlt | rfl | hlt
 ·have:=h1 hlt; omega
 ·omega
 ·omega
theorem TN {m m':HM} {j j':Nat} (h:m'.wds.getD (2*j'+1) 0=m.wds.getD (2*j+1) 0):sz m' j'=sz m j/\use m' j'=use m j/\Av m' j'=Av m j/\Bf m' j'=Bf m j:=by
 unfold sz use Av Bf;rw[h];exact ⟨rfl,rfl,rfl,rfl⟩
theorem Inv2.word (h:Inv m) (h2:Inv2 m) {j t:Nat} (hs:Start m j) (ht:2+t<use m j) (v:Int):Inv2 (Gz m (2*j+2+t) v):=by
 have hu:=h.use hs;have key:=Vx h hs (show 2+t<sz m j by omega) v;refine ⟨fun j' hs'=>?_,fun a ha=>?_⟩
 ·rw[(TN (key j' hs' 1 (by decide))).1]; exact h2.kind j' hs'
 ·show (m.wds.set _ _).getD _ _=_;rw[Ca,ym]
  ·exact h2.zero a fun j' hs' h3 h4=>ha j' hs' h3 (by rw[(TN (key j' hs' 1 (by decide))).2.1]; exact h4)
  ·rintro ⟨rfl,_⟩;exact ha j hs (by omega) (by rw[(TN (key j hs 1 (by decide))).2.1]; omega)
theorem nL (h:Inv m) (h2:Inv2 m) {j t:Nat} (hs:Start m j) (ht:2+t<use m j) (v:Int):K7 m (0,Gz m (2*j+2+t) v):=
 ⟨h.sQ hs (by have:=h.use hs; omega) v,h2.word h hs ht v,Aas _,by show m.births<=m.births+1; omega,rfl,fun hc=>absurd rfl hc⟩
theorem cQ (h:Inv m) (h2:Inv2 m) (a x v:Int):K7 m (Cv m a x v):=by
 unfold Cv;generalize hf:B9 m a x false=w;obtain ⟨w,c⟩:=w;split
 ·rename_i hc;simp only at hc;subst hc;obtain ⟨j,t,hs,rfl,rfl,ht,_⟩:=Qe h hf;split
  ·exact K7.same h h2 _
  ·simp only[xQ];exact nL h h2 hs ht v
 ·exact K7.same h h2 _
theorem Inv2.pins (h2:Inv2 m) (l:List (BitVec 64)):Inv2 { m with pnw:=l }:=⟨h2.kind,h2.zero⟩
theorem Inv2.eU (h2:Inv2 m) (l:List (Int × Int)):Inv2 { m with fw:=l }:=⟨h2.kind,h2.zero⟩
theorem Inv2.places (h2:Inv2 m) (l:List (Int × Int)):Inv2 { m with pl:=l }:=⟨h2.kind,h2.zero⟩
theorem mS (h:Inv m) (h2:Inv2 m) (a:Int) (v:Nat):K7 m (Lv m a v):=by
 unfold Lv;split
 ·exact ⟨h.pins _,h2.pins _,Aas _,by show m.births<=m.births+1; omega,rfl,fun hc=>absurd rfl hc⟩
 ·exact K7.same h h2 _
theorem ZA (m:HM) (b:Nat):∀ (f n c:Nat),n<=c->c<IQ m b f n->(m.bls.getD b (0,0)).1=2/\(m.bls.getD (b+c) (0,0)).1=3
 | 0,n,c,h1,h2=>by rw[IQ] at h2; omega
 | f+1,n,c,h1,h2=>by
   rw[IQ] at h2;split at h2
   ·rename_i hc;rcases Ac4 h1 with rfl | h1
    ·exact ⟨hc.1,hc.2.2⟩
    ·exact ZA m b f (n+1) c h1 h2
   ·omega
theorem U9 {b c:Nat} (h1:b<c) (h2:c<b+Kr m b):(m.bls.getD b (0,0)).1=2/\(m.bls.getD c (0,0)).1=3:=by
 have:=ZA m b m.bls.length 1 (c-b) (by omega) (by unfold Kr at h2; omega);rw[show b+(c-b)=c from by omega] at this;exact this
theorem ir {a:Int} {wo:Nat} {but:Int} (h2:2<=wo) (hf:KO m a wo but=0):TR m.bls a.toNat wo:=by
 unfold KO at hf;split at hf
 ·cases hf
 simp only at hf;split at hf
 ·rename_i hw;split at hf
  ·cases hf
  ·rename_i hc;refine ⟨fun _=>⟨?_, ?_⟩,fun h=>by omega⟩
   ·apply zk;intro hq; exact hc (.inl hq)
   ·apply zk;intro hq; exact hc (.inr hq)
 ·rename_i hw;split at hf
  ·cases hf
  ·rename_i hc;have c1:(m.bls.getD (a.toNat/64) (0,0)).1=2:=by
    apply zk;intro hq; exact hc (.inl hq)
   have c2:a.toNat % 64=0:=by
    apply zk;intro hq; exact hc (.inr (.inl hq))
   have c3:Kr m (a.toNat/64)=(wo+63)/64:=by
    apply zk;intro hq; exact hc (.inr (.inr hq))
   refine ⟨fun h=>by omega,fun _=>⟨c1,c2,fun c h1 h2=>?_⟩⟩;exact (U9 h1 (by rw[c3]; omega)).2
theorem Inv2.place (h:Inv m) (h2:Inv2 m) (hS:Sh m) {j:Nat} {r d k:Int} (hv:valid r d k=true) (hj:j<32*m.bls.length)
  (hap:∀ o,Start m o->2*o+sz m o<=2*j\/2*j+NH (num r d k)<=2*o) (hk:TR m.bls (2*j) (NH (num r d k))):Inv2 (C9 m j (num r d k)):=by
 have hst:=fun j'=>Is (m:=m) (n:=num r d k) (j:=j) (j':=j') hS.sl hj;have hw:=hS.wl;have hv':=hv;simp[valid] at hv';have h3:2<=NH (num r d k):=by
  rw[Jp hv];omega
 have hnj:¬ Start m j:=fun hs=>by
  have h1:=hap j hs;have h2:=h.size hs;omega
 have hne:∀ j',Start m j'->j'≠j:=fun j' hs e=>hnj (e ▸ hs);have w1:(C9 m j (num r d k)).wds.getD (2*j+1) 0=num r d k:=by
  unfold C9; simp only;rw[Ca,yk ⟨rfl,by simp; omega⟩]
 have wo:∀ j',j'≠j->(C9 m j (num r d k)).wds.getD (2*j'+1) 0=m.wds.getD (2*j'+1) 0:=by
  intro j' hne;unfold C9; simp only;rw[Ca,ym (by omega),Ca,ym (by omega)]
 have s1:sz (C9 m j (num r d k)) j=NH (num r d k):=by unfold sz; rw[w1]
 obtain ⟨p1,p2,_,_⟩:=Je hv;have u1:use (C9 m j (num r d k)) j=(2+r+d).toNat:=by unfold use Av Bf; rw[w1,p1,p2]
 refine ⟨fun j' hs'=>?_,fun a ha=>?_⟩
 ·rcases (hst j').1 hs' with rfl | hs'
  ·rw[s1]; exact hk
  ·rw[(TN (wo j' (hne j' hs'))).1]; exact h2.kind j' hs'
 ·have hself:=ha j ((hst j).2 (.inl rfl));rw[u1] at hself;have hn0:a≠2*j:=fun e=>hself (by omega) (by omega);have hn1:a≠2*j+1:=fun e=>hself (by omega) (by omega);unfold C9; simp only;rw[Ca,ym (by omega),Ca,ym (by omega)];exact h2.zero a fun j' hs' h4 h5=>ha j' ((hst j').2 (.inr hs')) h4 (by rw[(TN (wo j' (hne j' hs'))).2.1]; exact h5)
theorem Sc (h:Inv m) (h2:Inv2 m) (hS:Sh m) (a r d c:Int):K7 m (CF m a r d c).2:=by
 unfold CF;split
 ·rename_i hv;split
  ·rename_i hc;have hw2:2<=NH (num r d c):=by
    rw[Jp hv];simp[valid] at hv;omega
   have hk:=ir hw2 hc;obtain ⟨j,rfl,hj,hfit,hap⟩:=h.fits hS.wl (Wv _) hw2 hc;rw[xQ] at hk;simp only[show ((2*j:Nat):Int).toNat/2=j from by omega];have hap':∀ o,Start m o->2*o+sz m o<=2*j\/2*j+NH (num r d c)<=2*o:=fun o ho=>hap o ho (by omega);refine ⟨h.place hS.wl hS.sl hv hj hfit hap',h2.place h hS hv hj hap' hk, ?_,Aas _,rfl,fun hc=>absurd rfl hc⟩;show m.births<=m.births+1;omega
  ·exact K7.same h h2 _
 ·exact K7.same h h2 _
theorem N3 (h:Inv m) {j j' a:Nat} (hs:Start m j) (hs':Start m j') (hne:j'≠j) (h1:2*j'<=a) (h2:a<2*j'+sz m j'):(Ir m j).wds.getD a 0=m.wds.getD a 0:=by
 have hf:=h.fit j hs;show (NA _ _ _).getD _ 0=_;rw[Jf (by simpa using hf),ym];rintro ⟨p1,p2⟩;simp only[zT] at p2;rcases Aaa j j' with hlt | rfl | hlt
 ·have:=h.apart j j' hs hs' hlt; omega
 ·exact hne rfl
 ·have:=h.apart j' j hs' hs hlt; omega
theorem Inv2.kill (h:Inv m) (h2:Inv2 m) (hS:Sh m) {j:Nat} (hs:Start m j):Inv2 (Ir m j):=by
 have hf:=h.fit j hs;have hst:=fun j'=>LU (m:=m) (j:=j) (j':=j') hS.sl hs.1;have so:∀ j',j'≠j->Start m j'->sz (Ir m j) j'=sz m j'/\use (Ir m j) j'=use m j':=fun j' hne hs'=>by
  have:=TN (N3 h hs hs' hne (a:=2*j'+1) (by omega) (by have:=h.size hs'; omega));exact ⟨this.1,this.2.1⟩
 refine ⟨fun j' hs'=>?_,fun a ha=>?_⟩
 ·obtain ⟨hne,hs'⟩:=(hst j').1 hs';rw[(so j' hne hs').1]; exact h2.kind j' hs'
 ·show (NA _ _ _).getD _ 0=_;rw[Jf (by simpa using hf)];split
  ·rw[yd,zM];split <;> rfl
  ·rename_i hc;refine h2.zero a fun j' hs' h4 h5=>?_;by_cases hq:j'=j
   ·subst hq;have:=h.use hs';simp at hc; omega
   ·exact ha j' ((hst j').2 ⟨hq,hs'⟩) h4 (by rw[(so j' hq hs').2]; exact h5)
theorem iI (h:Inv m) (h2:Inv2 m) (hS:Sh m) (a:Int):K7 m (Ig m a):=by
 unfold Ig;split
 ·rename_i hh;obtain ⟨j,rfl,hs⟩:=Bd hh;rw[show ((2*j:Nat):Int).toNat/2=j from by omega];exact ⟨h.kill hS.sl hs,h2.kill h hS hs,Aas _,by show m.births<=m.births+1; omega,rfl,fun hc=>absurd rfl hc⟩
 ·exact K7.same h h2 _
theorem ZB (hS:Sh m) {j t j':Nat} (hj:j<32*m.bls.length) (ht:t<32*m.bls.length):Start (N6 m j t) j'↔j'=t\/(j'≠j/\Start m j'):=by
 have hl:=hS.sl;unfold Start N6;simp only;by_cases hq:j'=t
 ·subst hq;rw[Ew (.inl rfl) (by decide) (by rw[EW]; omega)];simp[ht]
 ·rw[BO (.inl rfl) (by decide) (fun e=>hq e.symm)];by_cases hq2:j'=j
  ·subst hq2;rw[Ew (.inl rfl) (by decide) (by omega)];simp[hq]
  ·rw[BO (.inl rfl) (by decide) (fun e=>hq2 e.symm)];simp[hq,hq2]
theorem Qj (h:Inv m) {j t:Nat} (hs:Start m j) (hfit:2*t+sz m j<=m.wds.length) (a:Nat):
  (N6 m j t).wds.getD a 0=if 2*t<=a/\a<2*t+sz m j then m.wds.getD (2*j+(a-2*t)) 0 else if 2*j<=a/\a<2*j+sz m j then 0 else m.wds.getD a 0:=by
 have hf:=h.fit j hs;have hhl:((m.wds.drop (2*j)).take (sz m j)).length=sz m j:=by simp; omega
 have hl1:(NA m.wds (2*j) (List.replicate (sz m j) 0)).length=m.wds.length:=KQ (by simpa using hf);show (NA _ _ _).getD _ 0=_;rw[Jf (by rw[hhl,hl1]; exact hfit),hhl];split
 ·rename_i hc;simp only[yd,zt,show a-2*t<sz m j from by omega,ye,zs]
 ·rw[Jf (by simpa using hf),zT];split
  ·rw[yd,zM];split <;> rfl
  ·rfl
theorem UM (h:Inv m) {o j a:Nat} (ho:Start m o) (hs:Start m j) (h1:2*o<=a) (h2:a<2*o+sz m o) (h3:2*j<=a) (h4:a<2*j+sz m j):o=j:=by
 rcases Aaa j o with hlt | rfl | hlt
 ·have:=h.apart j o hs ho hlt; omega
 ·rfl
 ·have:=h.apart o j ho hs hlt; omega
theorem Zg (h:Inv m) {j t o a:Nat} (hs:Start m j) (hfit:2*t+sz m j<=m.wds.length)
  (hap:∀ o,Start m o->o≠j->2*o+sz m o<=2*t\/2*t+sz m j<=2*o) (ho:Start m o) (hne:o≠j) (h1:2*o<=a) (h2:a<2*o+sz m o):(N6 m j t).wds.getD a 0=m.wds.getD a 0:=by
 have:=hap o ho hne;rw[Qj h hs hfit,ym (by omega),ym];rintro ⟨h3,h4⟩;exact hne (UM h ho hs h1 h2 h3 h4)
theorem Inv2.move (h:Inv m) (h2:Inv2 m) (hS:Sh m) {j t:Nat} (hs:Start m j) (ht:t<32*m.bls.length) (hfit:2*t+sz m j<=m.wds.length)
  (hap:∀ o,Start m o->o≠j->2*o+sz m o<=2*t\/2*t+sz m j<=2*o) (hk:TR m.bls (2*t) (sz m j)):Inv2 (N6 m j t):=by
 have hst:=fun j'=>ZB (m:=m) hS (j:=j) (t:=t) (j':=j') hs.1 ht;have hz:=h.size hs;have hu:=h.use hs;have so:∀ j',j'≠j->Start m j'->sz (N6 m j t) j'=sz m j'/\use (N6 m j t) j'=use m j':=fun j' hne hs'=>by
  have:=TN (Zg h hs hfit hap hs' hne (a:=2*j'+1) (by omega) (by have:=h.size hs'; omega));exact ⟨this.1,this.2.1⟩
 have st:sz (N6 m j t) t=sz m j/\use (N6 m j t) t=use m j:=by
  have:=TN (m:=m) (m':=N6 m j t) (j:=j) (j':=t) (by rw[Qj h hs hfit,yk (by omega)]; congr 1; omega);exact ⟨this.1,this.2.1⟩
 refine ⟨fun j' hs'=>?_,fun a ha=>?_⟩
 ·by_cases hq:j'=t
  ·subst hq; rw[st.1]; exact hk
  ·rcases (hst j').1 hs' with e | ⟨hne,hs'⟩
   ·exact absurd e hq
   ·rw[(so j' hne hs').1]; exact h2.kind j' hs'
 ·rw[Qj h hs hfit];have hself:=ha t ((hst t).2 (.inl rfl));rw[st.2] at hself;split
  ·rename_i hc;refine h2.zero _ fun j' hs' h4 h5=>?_;by_cases hq:j'=j
   ·subst hq;exact hself (by omega) (by omega)
   ·have:=h.use hs';exact hq (UM h hs' hs h4 (by omega) (by omega) (by omega))
  ·rename_i hc;split
   ·rfl
   ·rename_i hc2;refine h2.zero _ fun j' hs' h4 h5=>?_;by_cases hq:j'=j
    ·subst hq;omega
    ·exact ha j' ((hst j').2 (.inr ⟨hq,hs'⟩)) h4 (by rw[(so j' hq hs').2]; exact h5)
theorem aN (l:List (Int × Int)) (a c:Nat) (v:Int × Int):(l.set a v).getD c (0,0)=if a=c/\a<l.length then v else l.getD c (0,0):=by
 simp only[yd,z8];by_cases h:a=c
 ·subst h;by_cases h2:a<l.length
  ·simp[h2]
  ·simp[h2]
 ·simp[h]
theorem Pr (b:Nat):∀ (n:Nat) (l:List (Int × Int)) (c:Nat),(Zs l b n).getD c (0,0)=if b<=c/\c<b+n then (0,0) else l.getD c (0,0)
 | 0,l,c=>by rw[Zs,ym (by omega)]
 | n+1,l,c=>by
   rw[Zs,Pr b n,aN];by_cases h1:b+n=c
   ·subst h1;rw[ym (by omega),yk (show b<=b+n/\b+n<b+(n+1) by omega)];split
    ·rfl
    ·rename_i h;rw[yd,zg (by omega)]; rfl
   ·rw[ym (show ¬ (b+n=c/\b+n<l.length) from fun h=>h1 h.1)];by_cases h2:b<=c/\c<b+n
    ·rw[yk h2,yk (by omega)]
    ·rw[ym h2,ym (by omega)]
theorem bG (b:Nat) (y:Int):∀ (n:Nat) (l:List (Int × Int)) (c:Nat),((sV l b y n).getD c (0,0)).1=(l.getD c (0,0)).1
 | 0,l,c=>rfl
 | n+1,l,c=>by
   rw[sV,bG b y n,aN];split
   ·rename_i h;rw[h.1]
   ·rfl
theorem Yx (b:Nat) (e:Int × Int):∀ (n x:Nat) (l:List (Int × Int)) (c:Nat),c<b+x\/b+x+n<=c->(TW l b e n x).getD c (0,0)=l.getD c (0,0)
 | 0,x,l,c,h=>rfl
 | n+1,x,l,c,h=>by
   rw[TW,Yx b e n (x+1) _ c (by omega),yd,yd,z8,ym (by omega)]
theorem UC {l:List (Int × Int)} {b:Nat}:∀ {n x:Nat},J5 l b n x=none -> ∀ c,x<=c->c<x+n->l.getD (b+c) (0,0)=(0,0)
 | 0,x,h,c,h1,h2=>by omega
 | n+1,x,h,c,h1,h2=>by
   rw[J5] at h;split at h
   ·rename_i hc;rcases Ac4 h1 with rfl | h1
    ·exact Ac5 hc.1 hc.2
    ·exact UC h c h1 (by omega)
   ·cases h
theorem TR.Aw {l l':List (Int × Int)} {a wo:Nat} (h:TR l a wo) (hl:∀ c,(l.getD c (0,0)).1≠0->a/64<=c->c<=(a+wo-1)/64->(l'.getD c (0,0)).1=(l.getD c (0,0)).1) (hw:0<wo):TR l' a wo:=by
 refine ⟨fun hw'=>?_,fun hw'=>?_⟩
 ·obtain ⟨h1,h2⟩:=h.1 hw';exact ⟨by rw[hl _ (by rw[h1]; decide) (yj _) (by omega)]; exact h1,h2⟩
 ·obtain ⟨h1,h2,h3⟩:=h.2 hw';exact ⟨by rw[hl _ (by rw[h1]; decide) (yj _) (by omega)]; exact h1,h2,fun c h4 h5=>by rw[hl c (by rw[h3 c h4 h5]; decide) (by omega) h5]; exact h3 c h4 h5⟩
theorem Inv2.blocks (h:Inv m) (h2:Inv2 m) (l:List (Int × Int)) (hl:l.length=m.bls.length)
  (hk:∀ j,Start m j -> ∀ c,(m.bls.getD c (0,0)).1≠0->2*j/64<=c->c<=(2*j+sz m j-1)/64->(l.getD c (0,0)).1=(m.bls.getD c (0,0)).1):Inv2 { m with bls:=l }:=by
 have hs:∀ j,Start { m with bls:=l } j↔Start m j:=fun j=>by unfold Start; simp only[hl]
 refine ⟨fun j hj=>?_,fun a ha=>h2.zero a fun j hj=>ha j ((hs j).2 hj)⟩;have hj':=(hs j).1 hj;exact (h2.kind j hj').Aw (hk j hj') (by have:=h.size hj'; show 0<sz m j; omega)
theorem WH (h:Inv m) (h2:Inv2 m) {l:List (Int × Int)} (hl:l.length=m.bls.length)
  (hk:∀ j,Start m j -> ∀ c,(m.bls.getD c (0,0)).1≠0->2*j/64<=c->c<=(2*j+sz m j-1)/64->(l.getD c (0,0)).1=(m.bls.getD c (0,0)).1):K7 m (0,{ m with bls:=l }):=
 ⟨h.blocks l hl,h2.blocks h l hl hk,Aas _,by show m.births<=m.births+1; omega,hl,fun hc=>absurd rfl hc⟩
theorem fb {b:Int} {ok:Bool} (h:Qz m b ok=0):(m.bls.getD b.toNat (0,0)).1=1\/(m.bls.getD b.toNat (0,0)).1=2:=by
 unfold Qz at h;split at h
 ·cases h
 ·split at h
  ·cases h
  ·rename_i hc;apply zk;intro hq;exact hc ⟨fun e=>hq (.inl e),fun e=>hq (.inr e)⟩
theorem TJ (h:Inv m) (h2:Inv2 m) (b:Int):K7 m (Di m b):=by
 unfold Di;split
 ·rename_i hh;have hst:=fb hh;split
  ·rename_i he;refine WH h h2 (WY _ _ _) fun j hj c hc h3 h4=>?_;rw[Pr,ym];rintro ⟨h5,h6⟩;generalize b.toNat=n at hst he h5 h6;have hz:=h.size hj;have hnb:2*j/64≠n:=by
    intro e;have:j ∈ D6 m (32*n) 32:=by
     unfold D6;rw[zO,Abw];exact ⟨by omega,xZ hj.2⟩
    rw[he] at this;cases this
   obtain ⟨k1,k2⟩:=h2.kind j hj;by_cases hw:sz m j<=32
   ·obtain ⟨q1,q2⟩:=k1 hw;have hcj:c=2*j/64:=by omega
    subst hcj;have:=U9 (m:=m) (b:=n) (c:=2*j/64) (by omega) h6;rw[q1] at this;exact absurd this.2 (by decide)
   ·obtain ⟨q1,q2,q3⟩:=k2 (by omega);by_cases hlt:n<2*j/64
    ·have:=U9 (m:=m) (b:=n) (c:=2*j/64) hlt (by omega);rw[q1] at this;exact absurd this.2 (by decide)
    ·have:=q3 n (by omega) (by omega);rcases hst with e | e
     ·rw[this] at e; exact absurd e (by decide)
     ·rw[this] at e; exact absurd e (by decide)
  ·exact K7.same h h2 _
 ·exact K7.same h h2 _
theorem WJ (h:Inv m) (h2:Inv2 m) (b c x y x' y':Int):K7 m (Bs m b c x y x' y'):=by
 unfold Bs;split
 ·rename_i hc;split
  ·rename_i hu;have hlen:(TW m.bls b.toNat (x',y') c.toNat 0).length=m.bls.length:=Iw _ _ _ _ _;refine WH h h2 (by rw[yZ,hlen]) fun j hj q hq _ _=>?_;have hout:q<b.toNat\/b.toNat+c.toNat<=q:=by
    apply zk;intro hn;have:=UC hu (q-b.toNat) (by omega) (by omega);rw[show b.toNat+(q-b.toNat)=q from by omega] at this;rw[this] at hq;exact hq rfl
   rw[yd,z8,ym (by omega),<- yd,Yx _ _ _ _ _ _ (by omega)]
  ·exact K7.same h h2 _
 ·exact K7.same h h2 _
end
section
local instance xV:AA:=Ap
variable {J:Aa} {i:Cd} {m:HM}
theorem kC (n:Nat):rep n [Value.int .u64 0]=rowOf (List.replicate n 0#64):=by
 simp only[rep,rowOf,List.map_replicate]
 induction n with
 | zero=>rfl
 | succ n ih=>rw[zU,Ac9,ih,zU]; rfl
theorem kB (n:Nat):rep n [Value.int .i64 0,.int .i64 0]=CB (List.replicate n (0,0)):=by
 simp only[rep]
 induction n with
 | zero=>rfl
 | succ n ih=>rw[zU,Ac9,ih,zU]; rfl
theorem Xc (k:Nat) {e:Nat} (h0:0<e) (h1:e<=4096) (J:Aa):∃ τ tb wb,Iy (k+4) (e:Int) 1 J=some (.tuple #[.pointer (some ⟨tb,0,none⟩),.int .i64 0],J++τ) /\
  Dv (J++τ) tb wb e 1 (List.replicate ((e+63)/64) 0#64)/\J.length<=tb/\J.length<=wb/\tb≠wb:=by
 rw[T8];simp only[show decide ((e:Int)<1)=false from xY (by omega),By,show decide ((e:Int)>4096)=false from xY (by omega),AI,Ae];rw[Ki,LA,H7];simp only[show decide ((0:Int)<((4:Nat):Int))=true from rfl,IT,show ((0:Int)<=0/\(0:Int)<((4:Nat):Int))=True from by simp,ye,AI,Aau,zw,yl,Bh,yy,Ag,Adj,D7,reduceCtorEq,yq,Ao,show decide ((0:Int)>=0)=true from rfl,yp,By];have e1:Ar ((e:Int)*1)=(e:Int):=by rw[Ah (by unfold AK; omega)]; omega
 have e2:Ar ((e:Int)+64)=((e+64:Nat):Int):=Ah (by unfold AK; omega);have e3:Ar (((e+64:Nat):Int)-1)=((e+63:Nat):Int):=by rw[Ah (by unfold AK; omega)]; omega
 have e4:((e+63:Nat):Int).tdiv 64=(((e+63)/64:Nat):Int):=rfl;have e5:Ar (((e+63)/64:Nat):Int)=(((e+63)/64:Nat):Int):=Ah (by unfold AK; omega);simp only[e1,e2,e3,e4,e5,show ((64:Int)=0)=False from by simp,yq];rw[yk (by omega)];simp only[xQ,kC];obtain ⟨Z,hμ⟩:∃ Z,J++[Au.cells [Value.int .i64 1,.int .i64 2,.int .i64 4,.int .i64 8] Aj true]=Z:=⟨_,rfl⟩;have hl:Z.length=J.length+1:=by rw[<- hμ]; simp
 rw[hμ];refine ⟨[Au.cells [Value.int .i64 1,.int .i64 2,.int .i64 4,.int .i64 8] Aj true,.cells (rowOf (List.replicate ((e+63)/64) 0#64)) Bq true,.cells [.int .i64 (e:Int),.int .i64 1,.slice (some ⟨J.length+1,0,none⟩) ((e+63)/64) ((e+63)/64)] Mf true],J.length+2,J.length+1, ?_, ?_,by omega,by omega,by omega⟩
 ·rw[<- hμ]; simp
 ·refine ⟨?_, ?_,by simp,h0,h1,.inl rfl⟩
  ·rw[zT,yD (by omega),show J.length+2-J.length=2 from by omega]; rfl
  ·rw[yD (by omega),show J.length+1-J.length=1 from by omega]; rfl
def I6 (n:Nat):HM:={ bls:=List.replicate n (0,0),wds:=List.replicate (64*n) 0,stw:=List.replicate ((32*n+63)/64) 0#64,pnw:=List.replicate ((32*n+63)/64) 0#64,pl:=[],fw:=[],births:=0 }
theorem Inv.new (n:Nat):Inv (I6 n):=by
 have hs:∀ j,¬ Start (I6 n) j:=by
  rintro j ⟨_,h⟩;have:CR 1 (I6 n).stw j=0:=Qt _ _ _;omega
 exact ⟨fun j h=>absurd h (hs j),fun j h=>absurd h (hs j),fun j _ h=>absurd h (hs j),fun j h=>absurd h (hs j),fun id a h=>by simp[I6,getM] at h,Aas _,trivial⟩
theorem Inv2.new (n:Nat):Inv2 (I6 n):=by
 have hs:∀ j,¬ Start (I6 n) j:=by
  rintro j ⟨_,h⟩;have:CR 1 (I6 n).stw j=0:=Qt _ _ _;omega
 refine ⟨fun j h=>absurd h (hs j),fun a _=>?_⟩;show (List.replicate (64*n) (0:Int)).getD a 0=0;rw[yd,zM];split <;> rfl
theorem oq (k:Nat) {n:Nat} (h2:2<=n) (h64:n<=64) (J:Aa):∃ J' i,Ix (k+5) (n:Int) J=some (.tuple #[.pointer (AM i),.int .i64 0],J')/\Ai J' i (I6 n)/\(∀ j ∈ i.l,J.length<=j)/\Be i J J':=by
 rw[ZR];have e1:Ar ((n:Int)*64)=((64*n:Nat):Int):=by rw[Ah (by unfold AK; omega)]; omega
 simp only[show decide ((n:Int)<2)=false from xY (by omega),By,show decide ((n:Int)>64)=false from xY (by omega),AI,Ae,e1];rw[yk (by omega),yk (by omega)];simp only[xQ,kB,fX];obtain ⟨o,ho⟩:∃ o:List Au,[Au.cells (CB (List.replicate n (0,0))) AY true,.cells (AZ (List.replicate (64*n) 0)) Aj true,.map [],.map [],
  .cells [.slice (some ⟨J.length,0,none⟩) n n,.slice (some ⟨J.length+1,0,none⟩) (64*n) (64*n),.pointer none,.pointer none,.map (some (J.length+2)),.map (some (J.length+3)),.int .i64 0] Fo true]=o:=⟨_,rfl⟩;have hmem:(J++[Au.cells (CB (List.replicate n (0,0))) AY true]++[Au.cells (AZ (List.replicate (64*n) 0)) Aj true]++[Au.map []]++[Au.map []] ++
   [Au.cells [.slice (some ⟨J.length,0,none⟩) n n,.slice (some ⟨(J++[Au.cells (CB (List.replicate n (0,0))) AY true]).length,0,none⟩) (64*n) (64*n),.pointer none,.pointer none,.map (some (J++[Au.cells (CB (List.replicate n (0,0))) AY true]++[Au.cells (AZ (List.replicate (64*n) 0)) Aj true]).length),.map (some (J++[Au.cells (CB (List.replicate n (0,0))) AY true]++[Au.cells (AZ (List.replicate (64*n) 0)) Aj true]++[Au.map []]).length),.int .i64 0] Fo true])=J++o:=by
  rw[<- ho]; simp
 have hh:(J++[Au.cells (CB (List.replicate n (0,0))) AY true]++[Au.cells (AZ (List.replicate (64*n) 0)) Aj true]++[Au.map []]++[Au.map []]).length=J.length+4:=by simp
 rw[hmem,hh];have hol:o.length=5:=by rw[<- ho]; rfl
 have g:∀ q,q<5->(J++o)[J.length+q]?=o[q]?:=fun q _=>by rw[yD (by omega)]; congr 1; omega
 have gd:∀ (τ:Aa) q,q<5->(J++o++τ)[J.length+q]?=o[q]?:=fun τ q hq=>by rw[AT (by simp; omega)]; exact g q hq
 have l1:AR (J++o) (J.length+4) 1=some (some ⟨J.length+1,0,none⟩,64*n,64*n):=by
  simp only[AR,D5,g 4 (by omega)]; rw[<- ho]; rfl
 have e2:((64*n:Nat):Int).tdiv 2=((32*n:Nat):Int):=by
  rw[show ((64*n:Nat):Int).tdiv 2=(((64*n)/2:Nat):Int) from rfl]; omega
 have e3:Ar ((32*n:Nat):Int)=((32*n:Nat):Int):=Ah (by unfold AK; omega);obtain ⟨τ1,st,sw,hN1,hT1,a1,a2,a3⟩:=Xc k (e:=32*n) (by omega) (by omega) (J++o);simp only[IN,l1,AI,show ((2:Int)=0)=False from by simp,yq,e2,e3,hN1,Ku];have lo:(J++o).length=J.length+5:=by simp[hol]
 rw[lo] at a1 a2;obtain ⟨c,hc⟩:∃ c,[Value.slice (some ⟨J.length,0,none⟩) n n,.slice (some ⟨J.length+1,0,none⟩) (64*n) (64*n),.pointer none,.pointer none,.map (some (J.length+2)),.map (some (J.length+3)),.int .i64 0]=c:=⟨_,rfl⟩;have o4:o[4]?=some (.cells c Fo true):=by rw[<- ho,<- hc]; rfl
 obtain ⟨Z1_,hμ1⟩:∃ Z1_,J++o++τ1=Z1_:=⟨_,rfl⟩;have b1:∀ q,q<5->Z1_[J.length+q]?=o[q]?:=fun q hq=>hμ1 ▸ gd τ1 q hq;have L1:J.length+5<=Z1_.length:=by rw[<- hμ1,yi,lo]; omega
 rw[hμ1] at hT1 ⊢;have s1:CT Z1_ (J.length+4) 2 (.pointer (some ⟨st,0,none⟩))=some (Z1_.set (J.length+4) (.cells (c.set 2 (.pointer (some ⟨st,0,none⟩))) Fo true)):=by
  simp only[CT,b1 4 (by omega),o4];rw[yk (by rw[<- hc]; simp)]
 obtain ⟨Z2_,hμ2⟩:∃ Z2_,Z1_.set (J.length+4) (.cells (c.set 2 (.pointer (some ⟨st,0,none⟩))) Fo true)=Z2_:=⟨_,rfl⟩;rw[hμ2] at s1;have b2:∀ q,q≠J.length+4->Z2_[q]?=Z1_[q]?:=fun q hq=>by rw[<- hμ2]; exact yc (yW hq)
 have b2h:Z2_[J.length+4]?=some (.cells (c.set 2 (.pointer (some ⟨st,0,none⟩))) Fo true):=by rw[<- hμ2]; exact yo (by omega)
 have L2:Z2_.length=Z1_.length:=by rw[<- hμ2]; simp
 have l2:AR Z2_ (J.length+4) 1=some (some ⟨J.length+1,0,none⟩,64*n,64*n):=by
  simp only[AR,D5,b2h]; rw[<- hc]; rfl
 obtain ⟨τ2,pn,pw,hN2,hT2,p1,p2,p3⟩:=Xc k (e:=32*n) (by omega) (by omega) Z2_;have t1:=hT1.lt;obtain ⟨Z3_,hμ3⟩:∃ Z3_,Z2_++τ2=Z3_:=⟨_,rfl⟩;have b3:∀ q,q<Z2_.length->Z3_[q]?=Z2_[q]?:=fun q hq=>by rw[<- hμ3]; exact AT hq
 have L3:Z2_.length<=Z3_.length:=by rw[<- hμ3]; simp
 rw[hμ3] at hN2 hT2;have s3:CT Z3_ (J.length+4) 3 (.pointer (some ⟨pn,0,none⟩))=some (Z3_.set (J.length+4) (.cells ((c.set 2 (.pointer (some ⟨st,0,none⟩))).set 3 (.pointer (some ⟨pn,0,none⟩))) Fo true)):=by
  simp only[CT,b3 (J.length+4) (by omega),b2h];rw[yk (by rw[<- hc]; simp)]
 obtain ⟨Z4_,hμ4⟩:∃ Z4_,Z3_.set (J.length+4) (.cells ((c.set 2 (.pointer (some ⟨st,0,none⟩))).set 3 (.pointer (some ⟨pn,0,none⟩))) Fo true)=Z4_:=⟨_,rfl⟩;rw[hμ4] at s3;have b4:∀ q,q≠J.length+4->Z4_[q]?=Z3_[q]?:=fun q hq=>by rw[<- hμ4]; exact yc (yW hq)
 have b4h:Z4_[J.length+4]?=some (.cells ((c.set 2 (.pointer (some ⟨st,0,none⟩))).set 3 (.pointer (some ⟨pn,0,none⟩))) Fo true):=by rw[<- hμ4]; exact yo (by omega)
 have L4:Z4_.length=Z3_.length:=by rw[<- hμ4]; simp
 have b:∀ q,q<Z2_.length->q≠J.length+4->Z4_[q]?=Z1_[q]?:=fun q h1 h2=>(b4 q h2).trans ((b3 q h1).trans (b2 q h2));have bo:∀ q,q<4->Z4_[J.length+q]?=o[q]?:=fun q hq=>(b _ (by omega) (by omega)).trans (b1 q (by omega));simp only[s1,AI,l2,e2,e3,hN2,Ku,s3];refine ⟨Z4_,⟨J.length+4,J.length,J.length+1,st,sw,pn,pw,J.length+2,J.length+3⟩,rfl, ?_, ?_, ?_⟩
 ·refine ⟨?_, ?_, ?_, ?_, ?_, ?_, ?_, ?_, ?_, ?_, ?_, ?_⟩
  ·rw[b4h,<- hc];simp[I6]
  ·show Z4_[J.length]?=_;have:=bo 0 (by omega);rw[yl] at this;rw[this,<- ho]; rfl
  ·show Z4_[J.length+1]?=_;rw[bo 1 (by omega),<- ho]; rfl
  ·show Dv Z4_ st sw (32*(List.replicate n ((0:Int),(0:Int))).length) 1 _;rw[zT];exact hT1.same (b _ (by omega) (by omega)) (b _ (by omega) (by omega))
  ·show Dv Z4_ pn pw (32*(List.replicate n ((0:Int),(0:Int))).length) 1 _;rw[zT];exact hT2.same (b4 _ (by omega)) (b4 _ (by omega))
  ·show Z4_[J.length+2]?=_;rw[bo 2 (by omega),<- ho]; rfl
  ·show Z4_[J.length+3]?=_;rw[bo 3 (by omega),<- ho]; rfl
  ·simpa [I6] using h2
  ·simpa [I6] using h64
  ·simp[I6]
  ·simp only[Cd.l,Aa9,yL,zE,Abo,Acr,List.nodup_nil,zP,and_true];have:=hT2.lt;refine ⟨⟨?_, ?_, ?_, ?_, ?_, ?_, ?_, ?_⟩,⟨?_, ?_, ?_, ?_, ?_, ?_, ?_⟩,⟨?_, ?_, ?_, ?_, ?_, ?_⟩,⟨?_, ?_, ?_, ?_, ?_⟩,⟨?_, ?_, ?_, ?_⟩,⟨?_, ?_, ?_⟩,⟨?_, ?_⟩, ?_⟩ <;> omega
  ·intro a;show AK ((List.replicate (64*n) (0:Int)).getD a 0);rw[yd,zM];split <;> (unfold AK; decide)
 ·intro j hj;simp only[Cd.l,yL,zE,Abo] at hj;omega
 ·refine ⟨by omega,fun j hj hne=>?_⟩;rw[b j (by omega) (by omega),<- hμ1,ya,AT hj]
end
section
local instance xW:AA:=Ap
variable {J:Aa} {i:Cd} {m:HM}
structure Xh where
 k:Int
 a:Int
 b:Int
 c:Int
 r:Int
 d:Int
 s:Int
def Xh.cells (x:Xh):List Value:=[.int .i64 x.k,.int .i64 x.a,.int .i64 x.b,.int .i64 x.c,.int .i64 x.r,.int .i64 x.d,.int .i64 x.s]
def Xh.ok (x:Xh):Prop:=AK x.k/\AK x.a/\AK x.b/\AK x.c/\AK x.r/\AK x.d/\AK x.s
theorem LJ.after {Z:Aa} {mm:Option (Value × Aa)} {r:Int × HM} (h:LJ mm Z i r) (hk:Be i J Z):LJ mm J i r:=by
 obtain ⟨J',e,h1,h2⟩:=h;exact ⟨J',e,h1,hk.trans h2⟩
def wk (m:HM) (x:Xh):Int × HM:=
 if x.k=0 then Bs m x.a 1 1 x.b 0 0 else if x.k=1 then Bs m x.a x.b 2 x.c 3 x.c else if x.k=2 then Di m x.a else if x.k=3 then qk m x.a x.b else
 if x.k=4 then (CF m x.a x.r x.d x.s).2 else if x.k=5 then Ig m x.a else if x.k=6 then tA m x.a x.b else if x.k=7 then Cv m x.a x.b x.c else
 if x.k=8 then gp m x.a x.b x.c else if x.k=9 then tC m x.a x.b else if x.k=10 then Lv m x.a 1 else if x.k=11 then Lv m x.a 0 else
 if x.k=12 then (0,{ m with fw:=[] }) else (0,m)
def oD:List Xh->List Value
 | []=>[]
 | x::l=>x.cells++oD l
def gK (J:Aa) (p:Option Addr) (l:List Xh):Prop:=l=[] \/ ∃ ab T rw,p=some ⟨ab,0,none⟩/\J[ab]?=some (.cells (oD l) T rw)
theorem gK.DH {J J':Aa} {p:Option Addr} {l:List Xh} (h:gK J p l) (hk:Be i J J') (hi:l≠[] -> ∀ a,p=some a->a.block ∉ i.l):gK J' p l:=by
 by_cases hl:l=[]
 ·exact .inl hl
 rcases h with h | ⟨ab,T,rw',rfl,h⟩
 ·exact .inl h
 ·exact .inr ⟨ab,T,rw',rfl,(hk.same _ (Af h) (hi hl _ rfl)).trans h⟩
def runM (m:HM) (l:List Xh):HM:=l.foldl (fun m x=>(wk m x).2) m
end
section
local instance xN:AA:=Ap
variable {J:Aa} {i:Cd} {m:HM}
theorem K6 {lo n j:Nat}:j ∈ D6 m lo n↔lo<=j/\j<lo+n/\CR 1 m.stw j=1:=by
 unfold D6;rw[zO,Abw];simp[and_assoc]
theorem sy {j:Nat}:j ∈ D6 m 0 (32*m.bls.length)↔Start m j:=by
 rw[K6]; unfold Start; simp
theorem Vs (lo n:Nat):(D6 m lo n).Nodup:=(List.nodup_range' (step:=1) (by decide)).filter _
theorem Nj (l:List Nat) {x:Nat} (hx:x<l.length):(CK l).getD x 0=((2*l[x]:Nat):Int):=by
 simp[CK,yg hx]
end
end
end Go.Proofs.YtjbledomkmdkmaaGreat
