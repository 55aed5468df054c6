/- Part 8. -/
import Derived.Test.YtjbledomkmdkmaaGreatP7
set_option linter.unusedVariables false
set_option linter.unusedSimpArgs false
set_option linter.unusedSectionVars false
namespace Go.Proofs.YtjbledomkmdkmaaGreat
open Go Go.AX
noncomputable section
section
variable {m:HM}
def use (m:HM) (j:Nat):Nat:=(2+Av m j+Bp m j).toNat
def VP (l:List (Int × Int)) (a b:Nat):Prop:=
 (b<=32->(l.getD (a/64) (0,0)).1=1/\(a+b-1)/64=a/64) /\
 (32<b->(l.getD (a/64) (0,0)).1=2/\a % 64=0 /\ ∀ c,a/64<c->c<=(a+b-1)/64->(l.getD c (0,0)).1=3)
structure Inv2 (m:HM):Prop where
 kind:∀ j,Start m j->VP m.bls (2*j) (sz m j)
 zero:∀ a,(∀ j,Start m j->2*j<=a->a<2*j+use m j->False)->m.wds.getD a 0=0
structure Sh (m:HM):Prop where
 wl:m.wds.length=64*m.bls.length
 sl:32*m.bls.length<=64*m.stw.length
 pl:32*m.bls.length<=64*m.pnw.length
theorem Al.sh {J:Aa} {i:Cp} (h:Al J i m):Sh m:=⟨h.wl,gQ h.st.len,gQ h.pn.len⟩
theorem Inv.use (h:Inv m) {j:Nat} (hs:Start m j):2<=use m j/\use m j<=sz m j/\((use m j:Nat):Int)=2+Av m j+Bp m j:=by
 obtain ⟨a,b,c,d,e,f⟩:=h.size hs;unfold Go.Proofs.YtjbledomkmdkmaaGreat.use;omega
structure KS (m:HM) (r:Int × HM):Prop where
 inv:Inv r.2
 inv2:Inv2 r.2
 b1:m.births<=r.2.births
 b2:r.2.births<=m.births+1
 len:r.2.bls.length=m.bls.length
 err:r.1≠0->r.2=m
theorem KS.same (h:Inv m) (h2:Inv2 m) (c:Int):KS m (c,m):=⟨h,h2,Aff _,by simp only; omega,rfl,fun _=>rfl⟩
theorem OV (h:Inv m) {a x:Int} {data:Bool} {w:Int} (b:BB m a x data=(w,0)):∃ j t:Nat,Start m j/\a=((2*j:Nat):Int)/\w=((2*j+2+t:Nat):Int)/\2+t<use m j/\(t:Int)=x+(if data then Av m j else 0):=by
 unfold BB at b;split at b
 ·rename_i e;obtain ⟨j,rfl,hs⟩:=AV e;have c:((2*j:Nat):Int).toNat/2=j:=by omega
  obtain ⟨g,i,k,l,n,o⟩:=h.size hs;obtain ⟨_,_,f⟩:=h.use hs;simp only[c] at b;cases data with
  | false=>
    simp only[Abz,Abs] at b;split at b
    ·rename_i d;have hw:=Ad1 Prod.fst b;simp only at hw;exact ⟨j,x.toNat,hs,rfl,by omega,by omega,by simp only[Abz,Abs]; omega⟩
    ·have:=Ad1 Prod.snd b;simp at this
  | true=>
    simp only[Aah] at b;split at b
    ·rename_i d;have hw:=Ad1 Prod.fst b;simp only at hw;exact ⟨j,(Av m j+x).toNat,hs,rfl,by omega,by omega,by simp only[Aah]; omega⟩
    ·have:=Ad1 Prod.snd b;simp at this
 ·have:=Ad1 Prod.snd b;simp at this
theorem XC (h:Inv m) {j t:Nat} (hs:Start m j) (f:2+t<sz m j) (v:Int):∀ j',Start m j' -> ∀ c,c<2->(GW m (2*j+2+t) v).wds.getD (2*j'+c) 0=m.wds.getD (2*j'+c) 0:=by
 intro j' b c d;show (m.wds.set _ _).getD _ _=_;rw[Cn,Abo];rintro ⟨e,_⟩;have h1:=h.apart j j' hs b;have g:=h.size b;rcases Aes j j' with a | rfl | a
 ·have:=h1 a; omega
 ·omega
 ·omega
theorem VK {m m':HM} {j j':Nat} (h:m'.wds.getD (2*j'+1) 0=m.wds.getD (2*j+1) 0):sz m' j'=sz m j/\use m' j'=use m j/\Av m' j'=Av m j/\Bp m' j'=Bp m j:=by
 unfold sz use Av Bp;rw[h];exact ⟨rfl,rfl,rfl,rfl⟩
theorem Inv2.word (h:Inv m) (h2:Inv2 m) {j t:Nat} (hs:Start m j) (f:2+t<use m j) (v:Int):Inv2 (GW m (2*j+2+t) v):=by
 have hu:=h.use hs;have key:=XC h hs (show 2+t<sz m j by omega) v;refine ⟨fun j' b=>?_,fun a c=>?_⟩
 ·rw[(VK (key j' b 1 (by decide))).1]; exact h2.kind j' b
 ·show (m.wds.set _ _).getD _ _=_;rw[Cn,Abo]
  ·exact h2.zero a fun j' b d e=>c j' b d (by rw[(VK (key j' b 1 (by decide))).2.1]; exact e)
  ·rintro ⟨rfl,_⟩;exact c j hs (by omega) (by rw[(VK (key j hs 1 (by decide))).2.1]; omega)
theorem gT (h:Inv m) (h2:Inv2 m) {j t:Nat} (hs:Start m j) (b:2+t<use m j) (v:Int):KS m (0,GW m (2*j+2+t) v):=
 ⟨h.xH hs (by have:=h.use hs; omega) v,h2.word h hs b v,Aff _,by show m.births<=m.births+1; omega,rfl,fun a=>absurd rfl a⟩
theorem iT (h:Inv m) (h2:Inv2 m) (a x v:Int):KS m (BP m a x v):=by
 unfold BP;generalize d:BB m a x false=w;obtain ⟨w,c⟩:=w;split
 ·rename_i b;simp only at b;subst b;obtain ⟨j,t,hs,rfl,rfl,e,_⟩:=OV h d;split
  ·exact KS.same h h2 _
  ·simp only[IT];exact gT h h2 hs e v
 ·exact KS.same h h2 _
theorem VJ (h:Inv m) (h2:Inv2 m) (a x v:Int):KS m (GQ m a x v):=by
 unfold GQ;generalize d:BB m a x true=w;obtain ⟨w,c⟩:=w;split
 ·rename_i b;simp only at b;subst b;obtain ⟨j,t,hs,rfl,rfl,e,_⟩:=OV h d;simp only[IT];exact gT h h2 hs e v
 ·exact KS.same h h2 _
theorem Inv2.pins (h2:Inv2 m) (l:List (BitVec 64)):Inv2 { m with pnw:=l }:=⟨h2.kind,h2.zero⟩
theorem Inv2.kn (h2:Inv2 m) (l:List (Int × Int)):Inv2 { m with fw:=l }:=⟨h2.kind,h2.zero⟩
theorem Inv2.places (h2:Inv2 m) (l:List (Int × Int)):Inv2 { m with pl:=l }:=⟨h2.kind,h2.zero⟩
theorem sd (h:Inv m) (h2:Inv2 m) (a:Int) (v:Nat):KS m (MH m a v):=by
 unfold MH;split
 ·exact ⟨h.pins _,h2.pins _,Aff _,by show m.births<=m.births+1; omega,rfl,fun b=>absurd rfl b⟩
 ·exact KS.same h h2 _
theorem dz (m:HM) (b:Nat):∀ (f n c:Nat),n<=c->c<JV m b f n->(m.bls.getD b (0,0)).1=2/\(m.bls.getD (b+c) (0,0)).1=3
 | 0,n,c,h1,a=>by rw[JV] at a; omega
 | f+1,n,c,h1,a=>by
   rw[JV] at a;split at a
   ·rename_i d;rcases Ahi h1 with rfl | h1
    ·exact ⟨d.1,d.2.2⟩
    ·exact dz m b f (n+1) c h1 a
   ·omega
theorem WB {b c:Nat} (h1:b<c) (h2:c<b+LA m b):(m.bls.getD b (0,0)).1=2/\(m.bls.getD c (0,0)).1=3:=by
 have:=dz m b m.bls.length 1 (c-b) (by omega) (by unfold LA at h2; omega);rw[show b+(c-b)=c from by omega] at this;exact this
theorem np {a:Int} {f:Nat} {g:Int} (h2:2<=f) (b:Me m a f g=0):VP m.bls a.toNat f:=by
 unfold Me at b;split at b
 ·cases b
 simp only at b;split at b
 ·rename_i hw;split at b
  ·cases b
  ·rename_i e;refine ⟨fun _=>⟨?_, ?_⟩,fun h=>by omega⟩
   ·apply Adl;intro d; exact e (.inl d)
   ·apply Adl;intro d; exact e (.inr d)
 ·rename_i hw;split at b
  ·cases b
  ·rename_i e;have i:(m.bls.getD (a.toNat/64) (0,0)).1=2:=by
    apply Adl;intro d; exact e (.inl d)
   have j:a.toNat % 64=0:=by
    apply Adl;intro d; exact e (.inr (.inl d))
   have k:LA m (a.toNat/64)=(f+63)/64:=by
    apply Adl;intro d; exact e (.inr (.inr d))
   refine ⟨fun h=>by omega,fun _=>⟨i,j,fun c h1 h2=>?_⟩⟩;exact (WB h1 (by rw[k]; omega)).2
theorem Inv2.place (h:Inv m) (h2:Inv2 m) (s:Sh m) {j:Nat} {r d k:Int} (p:valid r d k=true) (x:j<32*m.bls.length)
  (i:∀ o,Start m o->2*o+sz m o<=2*j\/2*j+Pk (num r d k)<=2*o) (y:VP m.bls (2*j) (Pk (num r d k))):Inv2 (CR m j (num r d k)):=by
 have g:=fun j'=>J0 (m:=m) (n:=num r d k) (j:=j) (j':=j') s.sl x;have hw:=s.wl;have q:=p;simp[valid] at q;have E:2<=Pk (num r d k):=by
  rw[Ko p];omega
 have l:¬ Start m j:=fun hs=>by
  have h1:=i j hs;have h2:=h.size hs;omega
 have f:∀ j',Start m j'->j'≠j:=fun j' hs e=>l (e ▸ hs);have u:(CR m j (num r d k)).wds.getD (2*j+1) 0=num r d k:=by
  unfold CR; simp only;rw[Cn,Abm ⟨rfl,by simp; omega⟩]
 have v:∀ j',j'≠j->(CR m j (num r d k)).wds.getD (2*j'+1) 0=m.wds.getD (2*j'+1) 0:=by
  intro j' f;unfold CR; simp only;rw[Cn,Abo (by omega),Cn,Abo (by omega)]
 have s1:sz (CR m j (num r d k)) j=Pk (num r d k):=by unfold sz; rw[u]
 obtain ⟨B,C,_,_⟩:=Ke p;have D:use (CR m j (num r d k)) j=(2+r+d).toNat:=by unfold use Av Bp; rw[u,B,C]
 refine ⟨fun j' b=>?_,fun a t=>?_⟩
 ·rcases (g j').1 b with rfl | b
  ·rw[s1]; exact y
  ·rw[(VK (v j' (f j' b))).1]; exact h2.kind j' b
 ·have c:=t j ((g j).2 (.inl rfl));rw[D] at c;have z:a≠2*j:=fun e=>c (by omega) (by omega);have A:a≠2*j+1:=fun e=>c (by omega) (by omega);unfold CR; simp only;rw[Cn,Abo (by omega),Cn,Abo (by omega)];exact h2.zero a fun j' b w h5=>t j' ((g j').2 (.inr b)) w (by rw[(VK (v j' (f j' b))).2.1]; exact h5)
theorem Up (h:Inv m) (h2:Inv2 m) (g:Sh m) (a r d c:Int):KS m (CW m a r d c).2:=by
 unfold CW;split
 ·rename_i k;split
  ·rename_i i;have f:2<=Pk (num r d c):=by
    rw[Ko k];simp[valid] at k;omega
   have p:=np f i;obtain ⟨j,rfl,n,e,l⟩:=h.fits g.wl (YD _) f i;rw[IT] at p;simp only[show ((2*j:Nat):Int).toNat/2=j from by omega];have b:∀ o,Start m o->2*o+sz m o<=2*j\/2*j+Pk (num r d c)<=2*o:=fun o q=>l o q (by omega);refine ⟨h.place g.wl g.sl k n e b,h2.place h g k n b p, ?_,Aff _,rfl,fun i=>absurd rfl i⟩;show m.births<=m.births+1;omega
  ·exact KS.same h h2 _
 ·exact KS.same h h2 _
theorem Ng (h:Inv m) {j j' a:Nat} (hs:Start m j) (c:Start m j') (d:j'≠j) (h1:2*j'<=a) (h2:a<2*j'+sz m j'):(HN m j).wds.getD a 0=m.wds.getD a 0:=by
 have e:=h.fit j hs;show (Pd _ _ _).getD _ 0=_;rw[Kf (by simpa using e),Abo];rintro ⟨g,f⟩;simp only[Aej] at f;rcases Aes j j' with b | rfl | b
 ·have:=h.apart j j' hs c b; omega
 ·exact d rfl
 ·have:=h.apart j' j c hs b; omega
theorem Inv2.kill (h:Inv m) (h2:Inv2 m) (i:Sh m) {j:Nat} (hs:Start m j):Inv2 (HN m j):=by
 have n:=h.fit j hs;have d:=fun j'=>JG (m:=m) (j:=j) (j':=j') i.sl hs.1;have f:∀ j',j'≠j->Start m j'->sz (HN m j) j'=sz m j'/\use (HN m j) j'=use m j':=fun j' c b=>by
  have:=VK (Ng h hs b c (a:=2*j'+1) (by omega) (by have:=h.size b; omega));exact ⟨this.1,this.2.1⟩
 refine ⟨fun j' b=>?_,fun a k=>?_⟩
 ·obtain ⟨c,b⟩:=(d j').1 b;rw[(f j' c b).1]; exact h2.kind j' b
 ·show (Pd _ _ _).getD _ 0=_;rw[Kf (by simpa using n)];split
  ·rw[Abi,Aec];split <;> rfl
  ·rename_i l;refine h2.zero a fun j' b g h5=>?_;by_cases e:j'=j
   ·subst e;have:=h.use b;simp at l; omega
   ·exact k j' ((d j').2 ⟨e,b⟩) g (by rw[(f j' e b).2]; exact h5)
theorem nJ (h:Inv m) (h2:Inv2 m) (b:Sh m) (a:Int):KS m (Hs m a):=by
 unfold Hs;split
 ·rename_i d;obtain ⟨j,rfl,hs⟩:=AV d;rw[show ((2*j:Nat):Int).toNat/2=j from by omega];exact ⟨h.kill b.sl hs,h2.kill h b hs,Aff _,by show m.births<=m.births+1; omega,rfl,fun c=>absurd rfl c⟩
 ·exact KS.same h h2 _
theorem dB (c:Sh m) {j t j':Nat} (f:j<32*m.bls.length) (d:t<32*m.bls.length):Start (OZ m j t) j'↔j'=t\/(j'≠j/\Start m j'):=by
 have g:=c.sl;unfold Start OZ;simp only;by_cases b:j'=t
 ·subst b;rw[ER (.inl rfl) (by decide) (by rw[Eg]; omega)];simp[d]
 ·rw[Cc (.inl rfl) (by decide) (fun e=>b e.symm)];by_cases a:j'=j
  ·subst a;rw[ER (.inl rfl) (by decide) (by omega)];simp[b]
  ·rw[Cc (.inl rfl) (by decide) (fun e=>a e.symm)];simp[b,a]
theorem RR (h:Inv m) {j t:Nat} (hs:Start m j) (b:2*t+sz m j<=m.wds.length) (a:Nat):
  (OZ m j t).wds.getD a 0=if 2*t<=a/\a<2*t+sz m j then m.wds.getD (2*j+(a-2*t)) 0 else if 2*j<=a/\a<2*j+sz m j then 0 else m.wds.getD a 0:=by
 have e:=h.fit j hs;have c:((m.wds.drop (2*j)).take (sz m j)).length=sz m j:=by simp; omega
 have d:(Pd m.wds (2*j) (List.replicate (sz m j) 0)).length=m.wds.length:=Mg (by simpa using e);show (Pd _ _ _).getD _ 0=_;rw[Kf (by rw[c,d]; exact b),c];split
 ·rename_i f;simp only[Abi,Ads,show a-2*t<sz m j from by omega,Aah,Adq]
 ·rw[Kf (by simpa using e),Aej];split
  ·rw[Abi,Aec];split <;> rfl
  ·rfl
theorem WO (h:Inv m) {o j a:Nat} (c:Start m o) (hs:Start m j) (h1:2*o<=a) (h2:a<2*o+sz m o) (h3:2*j<=a) (d:a<2*j+sz m j):o=j:=by
 rcases Aes j o with b | rfl | b
 ·have:=h.apart j o hs c b; omega
 ·rfl
 ·have:=h.apart o j c hs b; omega
theorem cG (h:Inv m) {j t o a:Nat} (hs:Start m j) (b:2*t+sz m j<=m.wds.length)
  (d:∀ o,Start m o->o≠j->2*o+sz m o<=2*t\/2*t+sz m j<=2*o) (e:Start m o) (c:o≠j) (h1:2*o<=a) (h2:a<2*o+sz m o):(OZ m j t).wds.getD a 0=m.wds.getD a 0:=by
 have:=d o e c;rw[RR h hs b,Abo (by omega),Abo];rintro ⟨f,g⟩;exact c (WO h e hs h1 h2 f g)
theorem Inv2.move (h:Inv m) (h2:Inv2 m) (q:Sh m) {j t:Nat} (hs:Start m j) (v:t<32*m.bls.length) (c:2*t+sz m j<=m.wds.length)
  (l:∀ o,Start m o->o≠j->2*o+sz m o<=2*t\/2*t+sz m j<=2*o) (u:VP m.bls (2*t) (sz m j)):Inv2 (OZ m j t):=by
 have i:=fun j'=>dB (m:=m) q (j:=j) (t:=t) (j':=j') hs.1 v;have w:=h.size hs;have hu:=h.use hs;have p:∀ j',j'≠j->Start m j'->sz (OZ m j t) j'=sz m j'/\use (OZ m j t) j'=use m j':=fun j' g b=>by
  have:=VK (cG h hs c l b g (a:=2*j'+1) (by omega) (by have:=h.size b; omega));exact ⟨this.1,this.2.1⟩
 have st:sz (OZ m j t) t=sz m j/\use (OZ m j t) t=use m j:=by
  have:=VK (m:=m) (m':=OZ m j t) (j:=j) (j':=t) (by rw[RR h hs c,Abm (by omega)]; congr 1; omega);exact ⟨this.1,this.2.1⟩
 refine ⟨fun j' b=>?_,fun a n=>?_⟩
 ·by_cases f:j'=t
  ·subst f; rw[st.1]; exact u
  ·rcases (i j').1 b with e | ⟨g,b⟩
   ·exact absurd e f
   ·rw[(p j' g b).1]; exact h2.kind j' b
 ·rw[RR h hs c];have d:=n t ((i t).2 (.inl rfl));rw[st.2] at d;split
  ·rename_i r;refine h2.zero _ fun j' b k h5=>?_;by_cases f:j'=j
   ·subst f;exact d (by omega) (by omega)
   ·have:=h.use b;exact f (WO h b hs k (by omega) (by omega) (by omega))
  ·rename_i r;split
   ·rfl
   ·rename_i s;refine h2.zero _ fun j' b k h5=>?_;by_cases f:j'=j
    ·subst f;omega
    ·exact n j' ((i j').2 (.inr ⟨f,b⟩)) k (by rw[(p j' f b).2]; exact h5)
theorem fJ (l:List (Int × Int)) (a c:Nat) (v:Int × Int):(l.set a v).getD c (0,0)=if a=c/\a<l.length then v else l.getD c (0,0):=by
 simp only[Abi,Ad2];by_cases h:a=c
 ·subst h;by_cases b:a<l.length
  ·simp[b]
  ·simp[b]
 ·simp[h]
theorem QW (b:Nat):∀ (n:Nat) (l:List (Int × Int)) (c:Nat),(cZ l b n).getD c (0,0)=if b<=c/\c<b+n then (0,0) else l.getD c (0,0)
 | 0,l,c=>by rw[cZ,Abo (by omega)]
 | n+1,l,c=>by
   rw[cZ,QW b n,fJ];by_cases h1:b+n=c
   ·subst h1;rw[Abo (by omega),Abm (show b<=b+n/\b+n<b+(n+1) by omega)];split
    ·rfl
    ·rename_i h;rw[Abi,Adh (by omega)]; rfl
   ·rw[Abo (show ¬ (b+n=c/\b+n<l.length) from fun h=>h1 h.1)];by_cases a:b<=c/\c<b+n
    ·rw[Abm a,Abm (by omega)]
    ·rw[Abo a,Abo (by omega)]
theorem gO (b:Nat) (y:Int):∀ (n:Nat) (l:List (Int × Int)) (c:Nat),((xN l b y n).getD c (0,0)).1=(l.getD c (0,0)).1
 | 0,l,c=>rfl
 | n+1,l,c=>by
   rw[xN,gO b y n,fJ];split
   ·rename_i h;rw[h.1]
   ·rfl
theorem bw (b:Nat) (e:Int × Int):∀ (n x:Nat) (l:List (Int × Int)) (c:Nat),c<b+x\/b+x+n<=c->(VV l b e n x).getD c (0,0)=l.getD c (0,0)
 | 0,x,l,c,h=>rfl
 | n+1,x,l,c,h=>by
   rw[VV,bw b e n (x+1) _ c (by omega),Abi,Abi,Ad2,Abo (by omega)]
theorem WE {l:List (Int × Int)} {b:Nat}:∀ {n x:Nat},KF l b n x=none -> ∀ c,x<=c->c<x+n->l.getD (b+c) (0,0)=(0,0)
 | 0,x,h,c,h1,d=>by omega
 | n+1,x,h,c,h1,d=>by
   rw[KF] at h;split at h
   ·rename_i a;rcases Ahi h1 with rfl | h1
    ·exact Ahj a.1 a.2
    ·exact WE h c h1 (by omega)
   ·cases h
theorem VP.Aw {l j:List (Int × Int)} {a d:Nat} (h:VP l a d) (f:∀ c,(l.getD c (0,0)).1≠0->a/64<=c->c<=(a+d-1)/64->(j.getD c (0,0)).1=(l.getD c (0,0)).1) (hw:0<d):VP j a d:=by
 refine ⟨fun b=>?_,fun b=>?_⟩
 ·obtain ⟨h1,e⟩:=h.1 b;exact ⟨by rw[f _ (by rw[h1]; decide) (Abp _) (by omega)]; exact h1,e⟩
 ·obtain ⟨h1,e,g⟩:=h.2 b;exact ⟨by rw[f _ (by rw[h1]; decide) (Abp _) (by omega)]; exact h1,e,fun c i h5=>by rw[f c (by rw[g c i h5]; decide) (by omega) h5]; exact g c i h5⟩
theorem Inv2.blocks (h:Inv m) (h2:Inv2 m) (l:List (Int × Int)) (g:l.length=m.bls.length)
  (f:∀ j,Start m j -> ∀ c,(m.bls.getD c (0,0)).1≠0->2*j/64<=c->c<=(2*j+sz m j-1)/64->(l.getD c (0,0)).1=(m.bls.getD c (0,0)).1):Inv2 { m with bls:=l }:=by
 have hs:∀ j,Start { m with bls:=l } j↔Start m j:=fun j=>by unfold Start; simp only[g]
 refine ⟨fun j d=>?_,fun a e=>h2.zero a fun j d=>e j ((hs j).2 d)⟩;have b:=(hs j).1 d;exact (h2.kind j b).Aw (f j b) (by have:=h.size b; show 0<sz m j; omega)
theorem Ze (h:Inv m) (h2:Inv2 m) {l:List (Int × Int)} (a:l.length=m.bls.length)
  (d:∀ j,Start m j -> ∀ c,(m.bls.getD c (0,0)).1≠0->2*j/64<=c->c<=(2*j+sz m j-1)/64->(l.getD c (0,0)).1=(m.bls.getD c (0,0)).1):KS m (0,{ m with bls:=l }):=
 ⟨h.blocks l a,h2.blocks h l a d,Aff _,by show m.births<=m.births+1; omega,a,fun b=>absurd rfl b⟩
theorem ku {b:Int} {ok:Bool} (h:So m b ok=0):(m.bls.getD b.toNat (0,0)).1=1\/(m.bls.getD b.toNat (0,0)).1=2:=by
 unfold So at h;split at h
 ·cases h
 ·split at h
  ·cases h
  ·rename_i c;apply Adl;intro a;exact c ⟨fun e=>a (.inl e),fun e=>a (.inr e)⟩
theorem Nx (h:Inv m) (h2:Inv2 m) (b:Int):KS m (CY m b):=by
 unfold CY;split
 ·rename_i l;have a:=ku l;split
  ·rename_i he;refine Ze h h2 (Zw _ _ _) fun j f c v t u=>?_;rw[QW,Abo];rintro ⟨h5,k⟩;generalize b.toNat=n at a he h5 k;have w:=h.size f;have o:2*j/64≠n:=by
    intro e;have:j ∈ DE m (32*n) 32:=by
     unfold DE;rw[Adz,Af6];exact ⟨by omega,Aad f.2⟩
    rw[he] at this;cases this
   obtain ⟨p,q⟩:=h2.kind j f;by_cases hw:sz m j<=32
   ·obtain ⟨i,r⟩:=p hw;have d:c=2*j/64:=by omega
    subst d;have:=WB (m:=m) (b:=n) (c:=2*j/64) (by omega) k;rw[i] at this;exact absurd this.2 (by decide)
   ·obtain ⟨i,r,s⟩:=q (by omega);by_cases g:n<2*j/64
    ·have:=WB (m:=m) (b:=n) (c:=2*j/64) g (by omega);rw[i] at this;exact absurd this.2 (by decide)
    ·have:=s n (by omega) (by omega);rcases a with e | e
     ·rw[this] at e; exact absurd e (by decide)
     ·rw[this] at e; exact absurd e (by decide)
  ·exact KS.same h h2 _
 ·exact KS.same h h2 _
theorem Zg (h:Inv m) (h2:Inv2 m) (b c x y e f:Int):KS m (BA m b c x y e f):=by
 unfold BA;split
 ·rename_i g;split
  ·rename_i hu;have hlen:(VV m.bls b.toNat (e,f) c.toNat 0).length=m.bls.length:=J4 _ _ _ _ _;refine Ze h h2 (by rw[Ac8,hlen]) fun j i q d _ _=>?_;have a:q<b.toNat\/b.toNat+c.toNat<=q:=by
    apply Adl;intro k;have:=WE hu (q-b.toNat) (by omega) (by omega);rw[show b.toNat+(q-b.toNat)=q from by omega] at this;rw[this] at d;exact d rfl
   rw[Abi,Ad2,Abo (by omega),<- Abi,bw _ _ _ _ _ _ (by omega)]
  ·exact KS.same h h2 _
 ·exact KS.same h h2 _
end
section
local instance qCW:AH:=Ao
variable {J:Aa} {i:Cp} {m:HM}
theorem pW (n:Nat):rep n [Value.int .u64 0]=rowOf (List.replicate n 0#64):=by
 simp only[rep,rowOf,List.map_replicate]
 induction n with
 | zero=>rfl
 | succ n a=>rw[Aek,Aho,a,Aek]; rfl
theorem pV (n:Nat):rep n [Value.int .i64 0,qIi 0]=CS (List.replicate n (0,0)):=by
 simp only[rep]
 induction n with
 | zero=>rfl
 | succ n a=>rw[Aek,Aho,a,Aek]; rfl
theorem Z1 (k:Nat) {e:Nat} (h0:0<e) (h1:e<=4096) (J:Aa):∃ τ tb wb,J7 (k+4) (e:Int) 1 J=some (.tuple #[qVi (some ⟨tb,0,none⟩),qIi 0],J++τ) /\
  DF (J++τ) tb wb e 1 (List.replicate ((e+63)/64) 0#64)/\J.length<=tb/\J.length<=wb/\tb≠wb:=by
 rw[V8];simp only[show decide ((e:Int)<1)=false from Aac (by omega),By,show decide ((e:Int)>4096)=false from Aac (by omega),AI,Ae];rw[L5,MQ,II];simp only[show decide ((0:Int)<((4:Nat):Int))=true from rfl,IS,show ((0:Int)<=0/\(0:Int)<((4:Nat):Int))=True from by simp,Aah,AI,Afc,Adw,Abn,Bt,Ach,Ah,Ahy,Ey,reduceCtorEq,Abs,An,show decide ((0:Int)>=0)=true from rfl,Abr,By];have b:Ar ((e:Int)*1)=(e:Int):=by rw[Ai (by unfold AO; omega)]; omega
 have c:Ar ((e:Int)+64)=((e+64:Nat):Int):=Ai (by unfold AO; omega);have d:Ar (((e+64:Nat):Int)-1)=((e+63:Nat):Int):=by rw[Ai (by unfold AO; omega)]; omega
 have f:((e+63:Nat):Int).tdiv 64=(((e+63)/64:Nat):Int):=rfl;have g:Ar (((e+63)/64:Nat):Int)=(((e+63)/64:Nat):Int):=Ai (by unfold AO; omega);simp only[b,c,d,f,g,show ((64:Int)=0)=False from by simp,Abs];rw[Abm (by omega)];simp only[IT,pW];obtain ⟨Z,a⟩:∃ Z,J++[Au.cells [Value.int .i64 1,qIi 2,qIi 4,qIi 8] Ak true]=Z:=⟨_,rfl⟩;have h:Z.length=J.length+1:=by rw[<- a]; simp
 rw[a];refine ⟨[Au.cells [Value.int .i64 1,qIi 2,qIi 4,qIi 8] Ak true,.cells (rowOf (List.replicate ((e+63)/64) 0#64)) B8 true,.cells [qIi (e:Int),qIi 1,.slice (some ⟨J.length+1,0,none⟩) ((e+63)/64) ((e+63)/64)] N0 true],J.length+2,J.length+1, ?_, ?_,by omega,by omega,by omega⟩
 ·rw[<- a]; simp
 ·refine ⟨?_, ?_,by simp,h0,h1,.inl rfl⟩
  ·rw[Aej,Acr (by omega),show J.length+2-J.length=2 from by omega]; rfl
  ·rw[Acr (by omega),show J.length+1-J.length=1 from by omega]; rfl
def JB (n:Nat):HM:={ bls:=List.replicate n (0,0),wds:=List.replicate (64*n) 0,stw:=List.replicate ((32*n+63)/64) 0#64,pnw:=List.replicate ((32*n+63)/64) 0#64,pl:=[],fw:=[],births:=0 }
theorem Inv.new (n:Nat):Inv (JB n):=by
 have hs:∀ j,¬ Start (JB n) j:=by
  rintro j ⟨_,h⟩;have:CG 1 (JB n).stw j=0:=Pj _ _ _;omega
 exact ⟨fun j h=>absurd h (hs j),fun j h=>absurd h (hs j),fun j _ h=>absurd h (hs j),fun j h=>absurd h (hs j),fun id a h=>by simp[JB,getM] at h,Aff _,trivial⟩
theorem Inv2.new (n:Nat):Inv2 (JB n):=by
 have hs:∀ j,¬ Start (JB n) j:=by
  rintro j ⟨_,h⟩;have:CG 1 (JB n).stw j=0:=Pj _ _ _;omega
 refine ⟨fun j h=>absurd h (hs j),fun a _=>?_⟩;show (List.replicate (64*n) (0:Int)).getD a 0=0;rw[Abi,Aec];split <;> rfl
theorem tu (k:Nat) {n:Nat} (h2:2<=n) (A:n<=64) (J:Aa):∃ J' i,J5 (k+5) (n:Int) J=some (.tuple #[qVi (AU i),qIi 0],J')/\Al J' i (JB n)/\(∀ j ∈ i.l,J.length<=j)/\Br i J J':=by
 rw[dS];have Q:Ar ((n:Int)*64)=((64*n:Nat):Int):=by rw[Ai (by unfold AO; omega)]; omega
 simp only[show decide ((n:Int)<2)=false from Aac (by omega),By,show decide ((n:Int)>64)=false from Aac (by omega),AI,Ae,Q];rw[Abm (by omega),Abm (by omega)];simp only[IT,pV,kZ];obtain ⟨o,ho⟩:∃ o:List Au,[Au.cells (CS (List.replicate n (0,0))) Bj true,.cells (Bm (List.replicate (64*n) 0)) Ak true,.map [],.map [],
  .cells [.slice (some ⟨J.length,0,none⟩) n n,.slice (some ⟨J.length+1,0,none⟩) (64*n) (64*n),qVi none,qVi none,.map (some (J.length+2)),.map (some (J.length+3)),qIi 0] FQ true]=o:=⟨_,rfl⟩;have w:(J++[Au.cells (CS (List.replicate n (0,0))) Bj true]++[Au.cells (Bm (List.replicate (64*n) 0)) Ak true]++[Au.map []]++[Au.map []] ++
   [Au.cells [.slice (some ⟨J.length,0,none⟩) n n,.slice (some ⟨(J++[Au.cells (CS (List.replicate n (0,0))) Bj true]).length,0,none⟩) (64*n) (64*n),qVi none,qVi none,.map (some (J++[Au.cells (CS (List.replicate n (0,0))) Bj true]++[Au.cells (Bm (List.replicate (64*n) 0)) Ak true]).length),.map (some (J++[Au.cells (CS (List.replicate n (0,0))) Bj true]++[Au.cells (Bm (List.replicate (64*n) 0)) Ak true]++[Au.map []]).length),qIi 0] FQ true])=J++o:=by
  rw[<- ho]; simp
 have T:(J++[Au.cells (CS (List.replicate n (0,0))) Bj true]++[Au.cells (Bm (List.replicate (64*n) 0)) Ak true]++[Au.map []]++[Au.map []]).length=J.length+4:=by simp
 rw[w,T];have D:o.length=5:=by rw[<- ho]; rfl
 have g:∀ q,q<5->(J++o)[J.length+q]?=o[q]?:=fun q _=>by rw[Acr (by omega)]; congr 1; omega
 have S:∀ (τ:Aa) q,q<5->(J++o++τ)[J.length+q]?=o[q]?:=fun τ q d=>by rw[AT (by simp; omega)]; exact g q d
 have V:Bd (J++o) (J.length+4) 1=some (some ⟨J.length+1,0,none⟩,64*n,64*n):=by
  simp only[Bd,CV,g 4 (by omega)]; rw[<- ho]; rfl
 have G:((64*n:Nat):Int).tdiv 2=((32*n:Nat):Int):=by
  rw[show ((64*n:Nat):Int).tdiv 2=(((64*n)/2:Nat):Int) from rfl]; omega
 have H:Ar ((32*n:Nat):Int)=((32*n:Nat):Int):=Ai (by unfold AO; omega);obtain ⟨M,st,L,B,m,N,O,a3⟩:=Z1 k (e:=32*n) (by omega) (by omega) (J++o);simp only[IN,V,AI,show ((2:Int)=0)=False from by simp,Abs,G,H,B,LF];have lo:(J++o).length=J.length+5:=by simp[D]
 rw[lo] at N O;obtain ⟨c,v⟩:∃ c,[Value.slice (some ⟨J.length,0,none⟩) n n,.slice (some ⟨J.length+1,0,none⟩) (64*n) (64*n),qVi none,qVi none,.map (some (J.length+2)),.map (some (J.length+3)),qIi 0]=c:=⟨_,rfl⟩;have X:o[4]?=some (.cells c FQ true):=by rw[<- ho,<- v]; rfl
 obtain ⟨Z1_,f⟩:∃ Z1_,J++o++M=Z1_:=⟨_,rfl⟩;have E:∀ q,q<5->Z1_[J.length+q]?=o[q]?:=fun q d=>f ▸ S M q d;have Z:J.length+5<=Z1_.length:=by rw[<- f,Abe,lo]; omega
 rw[f] at m ⊢;have s1:CX Z1_ (J.length+4) 2 (qVi (some ⟨st,0,none⟩))=some (Z1_.set (J.length+4) (.cells (c.set 2 (qVi (some ⟨st,0,none⟩))) FQ true)):=by
  simp only[CX,E 4 (by omega),X];rw[Abm (by rw[<- v]; simp)]
 obtain ⟨Z2_,h⟩:∃ Z2_,Z1_.set (J.length+4) (.cells (c.set 2 (qVi (some ⟨st,0,none⟩))) FQ true)=Z2_:=⟨_,rfl⟩;rw[h] at s1;have P:∀ q,q≠J.length+4->Z2_[q]?=Z1_[q]?:=fun q d=>by rw[<- h]; exact Aaf (Ac9 d)
 have t:Z2_[J.length+4]?=some (.cells (c.set 2 (qVi (some ⟨st,0,none⟩))) FQ true):=by rw[<- h]; exact Abq (by omega)
 have L2:Z2_.length=Z1_.length:=by rw[<- h]; simp
 have W:Bd Z2_ (J.length+4) 1=some (some ⟨J.length+1,0,none⟩,64*n,64*n):=by
  simp only[Bd,CV,t]; rw[<- v]; rfl
 obtain ⟨Y,s,I,u,p,p1,p2,p3⟩:=Z1 k (e:=32*n) (by omega) (by omega) Z2_;have t1:=m.lt;obtain ⟨Z3_,r⟩:∃ Z3_,Z2_++Y=Z3_:=⟨_,rfl⟩;have F:∀ q,q<Z2_.length->Z3_[q]?=Z2_[q]?:=fun q d=>by rw[<- r]; exact AT d
 have L3:Z2_.length<=Z3_.length:=by rw[<- r]; simp
 rw[r] at u p;have K:CX Z3_ (J.length+4) 3 (qVi (some ⟨s,0,none⟩))=some (Z3_.set (J.length+4) (.cells ((c.set 2 (qVi (some ⟨st,0,none⟩))).set 3 (qVi (some ⟨s,0,none⟩))) FQ true)):=by
  simp only[CX,F (J.length+4) (by omega),t];rw[Abm (by rw[<- v]; simp)]
 obtain ⟨Z4_,l⟩:∃ Z4_,Z3_.set (J.length+4) (.cells ((c.set 2 (qVi (some ⟨st,0,none⟩))).set 3 (qVi (some ⟨s,0,none⟩))) FQ true)=Z4_:=⟨_,rfl⟩;rw[l] at K;have y:∀ q,q≠J.length+4->Z4_[q]?=Z3_[q]?:=fun q d=>by rw[<- l]; exact Aaf (Ac9 d)
 have z:Z4_[J.length+4]?=some (.cells ((c.set 2 (qVi (some ⟨st,0,none⟩))).set 3 (qVi (some ⟨s,0,none⟩))) FQ true):=by rw[<- l]; exact Abq (by omega)
 have L4:Z4_.length=Z3_.length:=by rw[<- l]; simp
 have b:∀ q,q<Z2_.length->q≠J.length+4->Z4_[q]?=Z1_[q]?:=fun q h1 h2=>(y q h2).trans ((F q h1).trans (P q h2));have x:∀ q,q<4->Z4_[J.length+q]?=o[q]?:=fun q d=>(b _ (by omega) (by omega)).trans (E q (by omega));simp only[s1,AI,W,G,H,u,LF,K];refine ⟨Z4_,⟨J.length+4,J.length,J.length+1,st,L,s,I,J.length+2,J.length+3⟩,rfl, ?_, ?_, ?_⟩
 ·refine ⟨?_, ?_, ?_, ?_, ?_, ?_, ?_, ?_, ?_, ?_, ?_, ?_⟩
  ·rw[z,<- v];simp[JB]
  ·show Z4_[J.length]?=_;have:=x 0 (by omega);rw[Abn] at this;rw[this,<- ho]; rfl
  ·show Z4_[J.length+1]?=_;rw[x 1 (by omega),<- ho]; rfl
  ·show DF Z4_ st L (32*(List.replicate n ((0:Int),(0:Int))).length) 1 _;rw[Aej];exact m.same (b _ (by omega) (by omega)) (b _ (by omega) (by omega))
  ·show DF Z4_ s I (32*(List.replicate n ((0:Int),(0:Int))).length) 1 _;rw[Aej];exact p.same (y _ (by omega)) (y _ (by omega))
  ·show Z4_[J.length+2]?=_;rw[x 2 (by omega),<- ho]; rfl
  ·show Z4_[J.length+3]?=_;rw[x 3 (by omega),<- ho]; rfl
  ·simpa [JB] using h2
  ·simpa [JB] using A
  ·simp[JB]
  ·simp only[Cp.l,Ae8,Acv,Ad3,Afz,Ag7,List.nodup_nil,Aef,and_true];have:=p.lt;refine ⟨⟨?_, ?_, ?_, ?_, ?_, ?_, ?_, ?_⟩,⟨?_, ?_, ?_, ?_, ?_, ?_, ?_⟩,⟨?_, ?_, ?_, ?_, ?_, ?_⟩,⟨?_, ?_, ?_, ?_, ?_⟩,⟨?_, ?_, ?_, ?_⟩,⟨?_, ?_, ?_⟩,⟨?_, ?_⟩, ?_⟩ <;> omega
  ·intro a;show AO ((List.replicate (64*n) (0:Int)).getD a 0);rw[Abi,Aec];split <;> (unfold AO; decide)
 ·intro j C;simp only[Cp.l,Acv,Ad3,Afz] at C;omega
 ·refine ⟨by omega,fun j C U=>?_⟩;rw[b j (by omega) (by omega),<- f,Aae,AT C]
end
section
local instance qCX:AH:=Ao
variable {J:Aa} {i:Cp} {m:HM}
structure Z5 where
 k:Int
 a:Int
 b:Int
 c:Int
 r:Int
 d:Int
 s:Int
def Z5.cells (x:Z5):List Value:=[qIi x.k,qIi x.a,qIi x.b,qIi x.c,qIi x.r,qIi x.d,qIi x.s]
def Z5.ok (x:Z5):Prop:=AO x.k/\AO x.a/\AO x.b/\AO x.c/\AO x.r/\AO x.d/\AO x.s
theorem Mp.after {Z:Aa} {mm:Option (Value × Aa)} {r:Int × HM} (h:Mp mm Z i r) (b:Br i J Z):Mp mm J i r:=by
 obtain ⟨J',e,h1,a⟩:=h;exact ⟨J',e,h1,b.trans a⟩
def doR (m:HM) (x:Z5):Int × HM:=
 if x.k=0 then BA m x.a 1 1 x.b 0 0 else if x.k=1 then BA m x.a x.b 2 x.c 3 x.c else if x.k=2 then CY m x.a else if x.k=3 then vf m x.a x.b else
 if x.k=4 then (CW m x.a x.r x.d x.s).2 else if x.k=5 then Hs m x.a else if x.k=6 then yn m x.a x.b else if x.k=7 then BP m x.a x.b x.c else
 if x.k=8 then GQ m x.a x.b x.c else if x.k=9 then yp m x.a x.b else if x.k=10 then MH m x.a 1 else if x.k=11 then MH m x.a 0 else
 if x.k=12 then (0,{ m with fw:=[] }) else (0,m)
def tN:List Z5->List Value
 | []=>[]
 | x::l=>x.cells++tN l
def my (J:Aa) (p:qOi) (l:List Z5):Prop:=l=[] \/ ∃ ab T rw,p=some ⟨ab,0,none⟩/\J[ab]?=some (.cells (tN l) T rw)
theorem my.DN {J J':Aa} {p:qOi} {l:List Z5} (h:my J p l) (d:Br i J J') (hi:l≠[] -> ∀ a,p=some a->a.block ∉ i.l):my J' p l:=by
 by_cases c:l=[]
 ·exact .inl c
 rcases h with h | ⟨ab,T,b,rfl,h⟩
 ·exact .inl h
 ·exact .inr ⟨ab,T,b,rfl,(d.same _ (Af h) (hi c _ rfl)).trans h⟩
def runM (m:HM) (l:List Z5):HM:=l.foldl (fun m x=>(doR m x).2) m
end
section
local instance qCG:AH:=Ao
variable {J:Aa} {i:Cp} {m:HM}
theorem LM {lo n j:Nat}:j ∈ DE m lo n↔lo<=j/\j<lo+n/\CG 1 m.stw j=1:=by
 unfold DE;rw[Adz,Af6];simp[and_assoc]
theorem xj {j:Nat}:j ∈ DE m 0 (32*m.bls.length)↔Start m j:=by
 rw[LM]; unfold Start; simp
theorem X6 (lo n:Nat):(DE m lo n).Nodup:=(List.nodup_range' (step:=1) (by decide)).filter _
theorem O8 (l:List Nat) {x:Nat} (a:x<l.length):(C7 l).getD x 0=((2*l[x]:Nat):Int):=by
 simp[C7,Aaj a]
end
section
local instance qCS:AH:=Ao
variable {J:Aa} {i:Cp} {m:HM}
theorem GR (k:Nat) (h:Al J i m):AE (k+2) (AU i) J=some (qIi ((m.bls.length:Nat):Int),J):=by
 rw[S8,JT _ h];simp only[AI,An,Abr,By,IN,Abn,h.HI]
theorem jE (k:Nat) (h:Al J i m) {b:Nat} (hb:b<m.bls.length):Bn (k+3) (AU i) (b:Int) J=some (qIi (m.bls.getD b (0,0)).1,J):=by
 rw[N6];have a:decide ((b:Int)<0)=false:=Aac (by omega);have c:decide ((b:Int)>=((m.bls.length:Nat):Int))=false:=Aac (by omega);simp only[a,By,GR _ h,AI,Ah,c,IN,Abn,h.HI];rw[Abm (by omega)];simp only[AI,IT,IN,(h.Vu hb).1]
theorem aU (k:Nat) (h:Al J i m) {b:Nat} (hb:b<m.bls.length):BE (k+3) (AU i) (b:Int) J=some (qIi (m.bls.getD b (0,0)).2,J):=by
 rw[Kx];have a:decide ((b:Int)<0)=false:=Aac (by omega);have c:decide ((b:Int)>=((m.bls.length:Nat):Int))=false:=Aac (by omega);simp only[a,By,GR _ h,AI,Ah,c,IN,Abn,h.HI];rw[Abm (by omega)];simp only[AI,IT,IN,(h.Vu hb).2]
def iG (m:HM) (a:Int):Bool:=Ax m a && decide (CG 1 m.pnw (a.toNat/2)=1)
theorem qI (k:Nat) (h:Al J i m) (a:Int) (e:AO a):Gr (k+5) (AU i) a J=some (.bool (iG m a),J):=by
 have l:=h.nt;rw[S9,Te _ h a e];simp only[AI,An];unfold iG;cases f:Ax m a with
 | false=>simp only[By,AI,Ags]
 | true=>
   obtain ⟨j,rfl,hs⟩:=AV f;have g:=hs.1;have t1:((2*j:Nat):Int).tdiv 2=(j:Int):=by
    rw[show ((2*j:Nat):Int).tdiv 2=(((2*j)/2:Nat):Int) from rfl]; omega
   have c:Ar (j:Int)=(j:Int):=Ai (by unfold AO; omega);have d:D7 (k+4) (some ⟨i.pn,0,none⟩) (j:Int) J=some (qIi (CG 1 m.pnw j:Int),J):=by
    have:=mB (k+1) h.pn (j:Int);rw[Abm (by omega),IT] at this;exact this
   have hb:(((CG 1 m.pnw j:Nat):Int) == 1)=decide (CG 1 m.pnw j=1):=by
    by_cases b:CG 1 m.pnw j=1
    ·simp[b]
    ·have:¬ ((CG 1 m.pnw j:Nat):Int)=1:=by omega
     simp[b,this]
   simp only[IS,IN,h.cq,AI,show ((2:Int)=0)=False from by simp,Abs,t1,c,d,Ah,Afw,show ((2*j:Nat):Int).toNat/2=j from by omega,hb]
def CA (m:HM) (j:Nat):Int:=(m.wds.getD (2*j+1) 0).tdiv 4096
theorem tF (k:Nat) (h:Al J i m) {j:Nat} (hs:Start m j):∃ τ,AK (k+6) (AU i) ((2*j:Nat):Int) J=some (.tuple #[.agg #[qIi (Av m j),qIi (Bp m j),qIi (CA m j)],qIi 0],J++τ):=by
 have hw:=h.wl;have f:=h.nt;have e:=hs.1;rw[N5];simp only[Ae];have h1:=h.app [Au.cells [Value.int .i64 0,qIi 0,qIi 0] Ad true];obtain ⟨τ,a⟩:=dw (k+4) (m.wds.getD (2*j+1) 0) (h.wi _) (J++[Au.cells [Value.int .i64 0,qIi 0,qIi 0] Ad true]);have b:Ar (((2*j:Nat):Int)+1)=((2*j+1:Nat):Int):=Ai (by unfold AO; omega);simp only[Ov _ h1 _ (show AO ((2*j:Nat):Int) by unfold AO; omega),RJ hs,Aah,AI,Ah,Abt,By,IN,h1.EX,b,IT,Acu];rw[Abm (by omega)];simp only[h1.uB (show 2*j+1<m.wds.length by omega),AI,a,H5];rw[show ((m.wds.getD (2*j+1) 0).tmod 4096).tdiv 16=Bp m j from rfl,show (m.wds.getD (2*j+1) 0).tmod 16=Av m j from rfl,show (m.wds.getD (2*j+1) 0).tdiv 4096=CA m j from rfl];refine ⟨[Au.cells [qIi (Av m j),qIi (Bp m j),qIi (CA m j)] Ad true]++τ, ?_⟩;have c:∀ x y z u v w:Value,H0 (J++[Au.cells [x,y,z] Ad true]++τ) J.length 0 [u,v,w]=some (J++[Au.cells [u,v,w] Ad true]++τ):=by
  intro x y z u v w; simp[H0,Ba]
 have d:∀ u v w:Value,Nh (J++[Au.cells [u,v,w] Ad true]++τ) J.length 0 3=some [u,v,w]:=by
  intro u v w; simp[Nh]
 rw[<- Aae];simp only[c,AI,d,Lb]
theorem RE (h:Inv m) {j x:Nat} (hs:Start m j) (a:(x:Int)<Av m j):BB m ((2*j:Nat):Int) (x:Int) false=(((2*j+2+x:Nat):Int),0):=by
 unfold BB;rw[RJ hs];simp only[Aah,show ((2*j:Nat):Int).toNat/2=j from by omega,Abz,Abs];rw[Abm (by omega)];congr 1
theorem Zi (h:Inv m) {j x:Nat} (hs:Start m j) (a:(x:Int)<Bp m j):BB m ((2*j:Nat):Int) (x:Int) true=(((2*j+2+(Av m j).toNat+x:Nat):Int),0):=by
 have:=h.size hs;unfold BB;rw[RJ hs];simp only[Aah,show ((2*j:Nat):Int).toNat/2=j from by omega];rw[Abm (by omega)];congr 1;omega
theorem Nn (m:HM) (lo n:Nat):(DE m lo n).length<=n:=by
 have:(DE m lo n).length<=(List.range' lo n).length:=Ae2 _ _;simpa using this
structure GZ (J:Aa) (s:Bv) (J':Aa) (s':Bv):Prop where
 len:J.length<=J'.length
 same:∀ q,q<J.length->(∀ a,s.1=some a->a.block≠q)->J'[q]?=J[q]?
 new:s'=s \/ ∀ a,s'.1=some a->J.length<=a.block
theorem GZ.refl (J:Aa) (s:Bv):GZ J s J s:=⟨Abp _,fun _ _ _=>rfl,.inl rfl⟩
theorem GZ.app (J:Aa) (s:Bv) (τ:Aa):GZ J s (J++τ) s:=⟨by simp,fun q a _=>AT a,.inl rfl⟩
theorem GZ.trans {a b c:Aa} {s t u:Bv} (h:GZ a s b t) (g:GZ b t c u):GZ a s c u:=by
 refine ⟨Adj h.len g.len,fun q f e=>?_, ?_⟩
 ·refine (g.same q (Acz f h.len) fun x d=>?_).trans (h.same q f e);rcases h.new with rfl | hw
  ·exact e x d
  ·have:=hw x d; omega
 ·rcases g.new with rfl | hw
  ·exact h.new
  ·exact .inr fun x d=>Adj h.len (hw x d)
def Off (i:Cp) (s:Bv):Prop:=∀ a,s.1=some a->a.block ∉ i.l
theorem GZ.heap {J':Aa} {s s':Bv} (g:GZ J s J' s') (h:Al J i m) (d:Off i s):Al J' i m/\Off i s':=by
 refine ⟨h.Aw fun j c=>g.same j (h.lt j c) fun a b e=>d a b (e ▸ c), ?_⟩;rcases g.new with rfl | hw
 ·exact d
 ·intro a b hm;have:=hw a b;have:=h.lt _ hm;omega
theorem GZ.other {J':Aa} {s s':Bv} (g:GZ J s J' s') {q:Nat} {o:Au} (h:J[q]?=some o) (hs:∀ a,s.1=some a->a.block≠q):J'[q]?=some o /\ ∀ a,s'.1=some a->a.block≠q:=by
 have c:=Af h;refine ⟨(g.same q c hs).trans h, ?_⟩;rcases g.new with rfl | hw
 ·exact hs
 ·intro a b e;have:=hw a b;omega
theorem WQ (J:Aa) (s:Bv) (l e:List Int) (src:qOi) (c:Nat) (o:l.length+e.length<=1000000) (hs:C8 0 J s l) (f:e≠[]) (t:CZ J 1 src e.length=some (Bm e)):
  ∃ s' J',AG P Ak s (src,e.length,c) J=some (s',J')/\GZ J s J' s'/\C8 0 J' s' (l++e):=by
 have hp:0<e.length:=Aer.2 f;unfold AG LB;simp only[vE,ub,ta,AI,t];have u:(¬ (Gn (qIi 0)=false/\some 1=some (Value.cells (qIi 0)).size/\0<(Value.cells (qIi 0)).size))=False:=by simp[Gn,Value.cells]
 simp only[u,Abs];rcases hs with ⟨rfl,rfl⟩ | ⟨b,hb,rfl,i,d⟩
 ·have r:K8 (0+e.length) 8/\0<8:=by
   unfold K8;refine ⟨⟨?_, ?_⟩,by decide⟩ <;> simp at o <;> omega
  simp only[show ¬ (0+e.length<=0) from by omega,Abs,r,Afp,Aah,HQ,IS,qh];refine ⟨_,_,rfl,⟨by simp,fun q h _=>AT h,.inr fun a g=>by cases g; exact Abp _⟩,.inr ⟨J.length,Ade _,by simp,by simpa using f,by simp⟩⟩
 ·have r:K8 (l.length+e.length) 8/\0<8:=by
   unfold K8;refine ⟨⟨?_, ?_⟩,by decide⟩ <;> omega
  have n:=Af d;have j:elemAt J b=some Ak:=by simp[elemAt,d]
  have k:Nh J b 0 (l.length*1)=some (Bm l):=by
   simp only[Nh,d,Cj,Acu,IN,Abp,Aah,Ac6];rw[Ado (by rw[Cj]; exact Abp _)]
  have m:H2 J b=true:=by simp[H2,d]
  simp only[show ¬ (l.length+e.length<=l.length) from by omega,Abs,r,Afp,Aah,HQ,Aem,By,AI,j,k,m,IS,qh];refine ⟨_,_,rfl,⟨by simp,fun q h p=>?_,.inr fun a g=>?_⟩,.inr ⟨J.length,Ade _,by simp,by simp[f], ?_⟩⟩
  ·rw[AT (by simpa using h),Aaf (p _ rfl)]
  ·cases g; exact Abp _
  ·rw[KM];simp
def KD (m:HM) (a n:Nat):List Int:=(List.range' a n).map fun x=>m.wds.getD x 0
theorem Rb (m:HM) (a n:Nat):KD m a (n+1)=m.wds.getD a 0::KD m (a+1) n:=by simp[KD,Afx]
theorem DC (m:HM) (a n:Nat):(KD m a n).length=n:=by simp[KD]
theorem C8.up {lo:Nat} {s:Bv} {l:List Int} (h:C8 0 J s l) (c:∀ a,s.1=some a->lo<=a.block):C8 lo J s l:=by
 rcases h with h | ⟨b,_,rfl,h⟩
 ·exact .inl h
 ·exact .inr ⟨b,c _ rfl,rfl,h⟩
theorem GZ.behind {J J':Aa} {τ:Aa} {s s':Bv} (g:GZ (J++τ) s J' s') (hs:∀ a,s.1=some a->J.length<=a.block):(∃ d,J'=J++d) /\ ∀ a,s'.1=some a->J.length<=a.block:=by
 refine ⟨⟨J'.drop J.length, ?_⟩, ?_⟩
 ·have hlen:=g.len;simp at hlen;apply Ady;intro q;by_cases c:q<J.length
  ·rw[AT c,g.same q (by simp; omega) (fun a b e=>by have:=hs a b; omega),AT c]
  ·rw[Acr (by omega),Adq];congr 1; omega
 ·rcases g.new with rfl | hw
  ·exact hs
  ·intro a b;have:=hw a b;simp at this; omega
end
section
local instance qCZ:AH:=Ao
variable {J:Aa} {i:Cp} {m:HM}
theorem eqW (a:Addr) (n c:Nat):Ll P FP (.slice (some a) n c) (.slice none 0 0)=some false:=by kernel_rfl
theorem mQ {E:TypeId} {s by_:Nat} {z:Value} (hs:HR P E=some s) (hb:bytesOf P E=some by_) (i:FR P E=some z) (e:Gn z=false) (f:z.cells.size=s) (d:0<s) (a:0<by_) (b:by_<=1000)
  (J:Aa) (p:qOi) (n c:Nat) (m:0<n) (h:n<=100000) (row:List Value) (g:CZ (J++[.cells [] E true]) s p n=some row):
  AG P E (some ⟨J.length,0,some 0⟩,0,0) (p,n,c) (J++[.cells [] E true])=some ((some ⟨J.length+1,0,none⟩,n,n),J++[Au.cells [] E true,.cells row E true]):=by
 unfold AG LB;have h1:(¬ (Gn z=false/\some s=some z.cells.size/\0<z.cells.size))=False:=by
  rw[e,f]; simp[d]
 have r:K8 (0+n) by_/\0<by_:=by
  unfold K8;have:(0+n)*by_<=100000*1000:=Nat.mul_le_mul (by omega) b;refine ⟨⟨by omega,by omega⟩,a⟩
 have j:elemAt (J++[.cells [] E true]) J.length=some E:=by simp[elemAt]
 have k:Nh (J++[.cells [] E true]) J.length 0 (0*s)=some []:=by simp[Nh]
 have l:H2 (J++[.cells [] E true]) J.length=true:=by simp[H2]
 simp only[hs,hb,i,g,AI,h1,Abs,show ¬ (0+n<=0) from by omega,r,Afp,Aah,HQ,Ahk,IS,qh];simp
theorem Nj (J τ:Aa) {ρ:Type} (x:Option ρ):FO J (J++τ) x=x:=iK J τ x
end
section
local instance qLB:AH:=Ao
variable {J:Aa} {i:Cp} {m:HM}
def B0 (m:HM):Prop:=(m.bls.getD 0 (0,0)).1=0
def BK (m:HM) (r:Int × HM):Prop:=(r.2.bls.getD 0 (0,0)).1=(m.bls.getD 0 (0,0)).1
theorem IP {c:Prop} [Decidable c] {r a:Int × HM} (h:c->BK m r) (b:¬ c->BK m a):BK m (if c then r else a):=by
 split
 ·exact h ‹_›
 ·exact b ‹_›
theorem wP {r:Int × HM} (h:r.2.bls=m.bls):BK m r:=by unfold BK; rw[h]
theorem XO (m:HM) (b c x y a d:Int):BK m (BA m b c x y a d):=by
 unfold BA;refine IP (fun h1=>IP (fun _=>?_) fun _=>rfl) fun _=>rfl;unfold BK;rw[Abi,Ad2,Abo (by omega),<- Abi,bw _ _ _ _ _ _ (by omega)]
theorem zp (m:HM) (x:Z5):BK m (doR m x):=by
 unfold doR;refine IP (fun _=>XO _ _ _ _ _ _ _) fun _=>IP (fun _=>XO _ _ _ _ _ _ _) fun _=>IP (fun _=>?_) fun _=>IP (fun _=>?_) fun _=>IP (fun _=>?_) fun _=>IP (fun _=>?_) fun _=>IP (fun _=>?_) fun _=>IP (fun _=>?_) fun _=>IP (fun _=>?_) fun _=>IP (fun _=>?_) fun _=>IP (fun _=>?_) fun _=>IP (fun _=>?_) fun _=>IP (fun _=>rfl) fun _=>rfl
 ·unfold CY;refine IP (fun a=>IP (fun _=>?_) fun _=>rfl) fun _=>rfl;obtain ⟨n,e,h1,_⟩:=cg a;unfold BK;rw[QW,Abo (by omega)]
 ·unfold vf;exact IP (fun a=>gO _ _ _ _ _) fun _=>rfl
 ·apply wP;unfold CW;split
  ·split <;> rfl
  ·rfl
 ·unfold Hs; exact IP (fun _=>rfl) fun _=>rfl
 ·unfold yn; exact IP (fun _=>IP (fun _=>rfl) fun _=>rfl) fun _=>rfl
 ·unfold BP; exact IP (fun _=>IP (fun _=>rfl) fun _=>rfl) fun _=>rfl
 ·unfold GQ; exact IP (fun _=>rfl) fun _=>rfl
 ·unfold yp; refine IP (fun _=>?_) fun _=>rfl;split
  ·rfl
  ·exact IP (fun _=>rfl) fun _=>rfl
 ·unfold MH; exact IP (fun _=>rfl) fun _=>rfl
 ·unfold MH; exact IP (fun _=>rfl) fun _=>rfl
theorem B0.do (h:B0 m) (x:Z5):B0 (doR m x).2:=(zp m x).trans h
theorem B0.run:∀ (l:List Z5) (m:HM),B0 m->B0 (runM m l)
 | [],m,h=>h
 | x::l,m,h=>B0.run l _ (h.do x)
theorem B0.new (n:Nat):B0 (JB n):=by
 unfold B0 JB;simp only[Abi,Aec];split <;> rfl
theorem xU (k:Nat) (h:Al J i m) {b:Nat} (hb:b<m.bls.length):Fm (k+3) (AU i) (b:Int) J=some (.bool (decide (1<=b/\(m.bls.getD b (0,0)).1=1)),J):=by
 rw[NU];simp only[ak _ h,AI,An];by_cases h1:1<=b
 ·rw[Aad (show 1<=(b:Int)/\(b:Int)<((m.bls.length:Nat):Int) by omega)];simp only[IS,AI,IN,Abn,h.HI];rw[Abm (by omega)];simp only[AI,IT,IN,(h.Vu hb).1,h1,true_and];rfl
 ·rw[Aac (show ¬ (1<=(b:Int)/\(b:Int)<((m.bls.length:Nat):Int)) by omega)];simp[h1]
theorem Z2 (a b:Nat):(a:Int).tdiv (b:Int)=((a/b:Nat):Int):=rfl
theorem Kq (a b:Nat):(a:Int).tmod (b:Int)=((a % b:Nat):Int):=rfl
theorem Uz {α:Type} {l:List α} {q:Nat} {x:α} (h:l[q]?=some x):l.set q x=l:=by
 apply Ady;intro p;rw[Ad2];split
 ·rename_i e;subst e;rw[Abm (Af h),h]
 ·rfl
theorem C8.ge {lo:Nat} {s:Bv} {l:List Int} (h:C8 lo J s l):∀ a,s.1=some a->lo<=a.block/\a.block<J.length:=by
 rcases h with ⟨_,rfl⟩ | ⟨b,h1,rfl,_,c⟩
 ·intro a e; cases e
 ·intro a e; cases e; exact ⟨h1,Af c⟩
end
section
local instance qCE:AH:=Ao
variable {J:Aa} {i:Cp} {m:HM}
def Cq (E:TypeId) (s:Nat) (J:Aa) (sl:Bv) (n:Nat) (row:List Value):Prop:=
 (n=0/\row=[]/\sl=(none,0,0)) \/ ∃ b,sl=(some ⟨b,0,none⟩,n,n)/\0<=n/\row.length=n*s/\J[b]?=some (.cells row E true)
theorem Cq.len {E:TypeId} {s n:Nat} {sl:Bv} {row:List Value} (h:Cq E s J sl n row):sl.2.1=n:=by
 rcases h with ⟨rfl,_,rfl⟩ | ⟨b,rfl,_⟩ <;> rfl
theorem Cq.form {E:TypeId} {s n:Nat} {sl:Bv} {row:List Value} (h:Cq E s J sl n row):sl=(sl.1,n,n):=by
 rcases h with ⟨rfl,_,rfl⟩ | ⟨b,rfl,_⟩ <;> rfl
theorem Cq.nil (E:TypeId) (s:Nat) (J:Aa):Cq E s J (none,0,0) 0 []:=.inl ⟨rfl,rfl,rfl⟩
theorem Cq.Aw {E:TypeId} {s n:Nat} {J':Aa} {sl:Bv} {row:List Value} (h:Cq E s J sl n row) (hs:∀ a,sl.1=some a->J'[a.block]?=J[a.block]?):Cq E s J' sl n row:=by
 rcases h with h | ⟨b,rfl,h1,c,d⟩
 ·exact .inl h
 ·exact .inr ⟨b,rfl,h1,c,by rw[hs _ rfl]; exact d⟩
theorem Cq.lt {E:TypeId} {s n:Nat} {sl:Bv} {row:List Value} (h:Cq E s J sl n row):∀ a,sl.1=some a->a.block<J.length:=by
 rcases h with ⟨_,_,rfl⟩ | ⟨b,rfl,h1,d,c⟩
 ·intro a e; cases e
 ·intro a e; cases e; exact Af c
theorem Cq.app {E:TypeId} {s n:Nat} {sl:Bv} {row:List Value} (h:Cq E s J sl n row) (τ:Aa):Cq E s (J++τ) sl n row:=
 h.Aw fun a b=>AT (h.lt a b)
theorem C8.sl {lo:Nat} {s:Bv} {l:List Int} (h:C8 lo J s l):Cq Ak 1 J s l.length (Bm l):=by
 rcases h with ⟨rfl,rfl⟩ | ⟨b,h1,rfl,c,a⟩
 ·exact .inl ⟨rfl,rfl,rfl⟩
 ·exact .inr ⟨b,rfl,Ade _,by rw[Cj,Acu],a⟩
theorem VT {E:TypeId} {s by_:Nat} {z:Value} (hs:HR P E=some s) (hb:bytesOf P E=some by_) (B:FR P E=some z) (o:Gn z=false) (p:z.cells.size=s) (l:0<s) (g:0<by_) (h:by_<=1000)
  (J:Aa) (sl:Bv) (n:Nat) (row:List Value) (src:qOi) (n' c:Nat) (e:List Value) (j:n+n'<=1000000) (y:0<n') (t:e.length=n'*s) (m:Cq E s J sl n row) (A:CZ J s src n'=some e):
  ∃ s' J',AG P E sl (src,n',c) J=some (s',J')/\GZ J sl J' s'/\Cq E s J' s' (n+n') (row++e):=by
 unfold AG LB;simp only[hs,hb,B,AI,A];have h1:(¬ (Gn z=false/\some s=some z.cells.size/\0<z.cells.size))=False:=by
  rw[o,p]; simp[l]
 simp only[h1,Abs];have hm:(n+n')*by_<=1000000*1000:=Nat.mul_le_mul j h;have r:K8 (n+n') by_/\0<by_:=⟨⟨by omega,by omega⟩,g⟩;rcases m with ⟨rfl,rfl,rfl⟩ | ⟨b,rfl,hp,i,d⟩
 ·simp only[show ¬ (0+n'<=0) from by omega,Abs,r,Afp,Aah,HQ,IS,qh];refine ⟨_,_,rfl,⟨by simp,fun q k _=>AT k,.inr fun a f=>by cases f; exact Abp _⟩,.inr ⟨J.length,by simp,by omega,by simpa using t,by simp⟩⟩
 ·have x:=Af d;have u:elemAt J b=some E:=by simp[elemAt,d]
  have v:Nh J b 0 (n*s)=some row:=by
   simp only[Nh,d,i,IN,Abp,Aah,Ac6];rw[Ado (Ahe i)]
  have w:H2 J b=true:=by simp[H2,d]
  simp only[show ¬ (n+n'<=n) from by omega,Abs,r,Afp,Aah,HQ,Aem,By,AI,u,v,w,IS,qh];refine ⟨_,_,rfl,⟨by simp,fun q k j=>?_,.inr fun a f=>?_⟩,.inr ⟨J.length,rfl,by omega,by rw[Abe,i,t,Afv],by simp⟩⟩
  ·rw[AT (by simpa using k),Aaf (j _ rfl)]
  ·cases f; exact Abp _
theorem NF {E:TypeId} {s by_:Nat} {z:Value} (hs:HR P E=some s) (hb:bytesOf P E=some by_) (p:FR P E=some z) (l:Gn z=false) (m:z.cells.size=s) (j:0<s) (b:0<by_) (d:by_<=1000)
  (J:Aa) (sl:Bv) (n:Nat) (row:List Value) (n' c:Nat) (a:List Value) (T:TypeId) (o:n+n'<=1000000) (f:0<n') (i:a.length=n'*s) (k:Cq E s J sl n row):
  ∃ s' J',AG P E sl (some ⟨J.length,0,none⟩,n',c) (J++[.cells a T true])=some (s',J')/\GZ J sl J' s'/\Cq E s J' s' (n+n') (row++a):=by
 obtain ⟨s',J',e,g,h⟩:=VT hs hb p l m j b d (J++[.cells a T true]) sl n row (some ⟨J.length,0,none⟩) n' c a o f i (k.app _) (by
  simp only[CZ,Nh,Abv,i,IN,Abp,Aah,Ac6];rw[Ado (Ahe i)]);exact ⟨s',J',e,(GZ.app _ _ _).trans g,h⟩
theorem ints_at {lo:Nat} {s:Bv} {l:List Int} (h:C8 lo J s l) {x:Nat} (a:x<l.length):∃ b,s=(some ⟨b,0,none⟩,l.length,l.length)/\lo<=b/\J[b]?=some (.cells (Bm l) Ak true)/\Aj .i64 J b x=some (l.getD x 0):=by
 rcases h with ⟨he,_⟩ | ⟨b,h1,e,f,c⟩
 ·rw[he] at a; simp at a
 ·refine ⟨b,e,h1,c, ?_⟩;have d:C8 lo J (some ⟨b,0,none⟩,l.length,l.length) l:=.inr ⟨b,h1,rfl,f,c⟩;exact d.ld a
theorem nL {b x:Nat} {l:List Int} {T:TypeId} {a:Bool} (h:J[b]?=some (.cells (Bm l) T a)) (c:x<l.length):Aj .i64 J b x=some (l.getD x 0):=by
 simp only[Aj,CV,h];simp[Bm,Ad5,Aaj c,Abi,Bl]
theorem oA {b x:Nat} {l:List Int} {T:TypeId} (h:J[b]?=some (.cells (Bm l) T true)) (a:x<l.length) (v:Int):CX J b x (qIi v)=some (J.set b (.cells (Bm (l.set x v)) T true)):=by
 simp only[CX,h];rw[Abm (by rw[Cj]; exact a),fM]
theorem MX (f:Inv m) {j:Nat} (hs:Start m j):m.wds.getD (2*j+1) 0=Av m j+16*Bp m j+4096*CA m j/\0<=Av m j/\Av m j<=15/\0<=Bp m j/\Bp m j<=200/\0<=CA m j/\CA m j<=3/\words (Av m j) (Bp m j) (CA m j)=(sz m j:Int):=by
 obtain ⟨r,d,k,a,he⟩:=f.good j hs;obtain ⟨g,h,i,_⟩:=Ke a;have b:Av m j=r:=by unfold Av; rw[he,g]
 have c:Bp m j=d:=by unfold Bp; rw[he,h]
 have e:CA m j=k:=by unfold CA; rw[he,i]
 have hw:words (Av m j) (Bp m j) (CA m j)=(sz m j:Int):=by
  unfold sz;rw[jc]; rfl
 rw[b,c,e] at *;refine ⟨he, ?_⟩;simp[valid] at a;refine ⟨a.1,a.2.1,a.2.2.1,a.2.2.2.1,a.2.2.2.2.1,a.2.2.2.2.2.1,hw⟩
theorem UK {m m':HM}:∀ (n a b:Nat),(∀ q,q<n->m'.wds.getD (b+q) 0=m.wds.getD (a+q) 0)->KD m' b n=KD m a n
 | 0,a,b,h=>rfl
 | n+1,a,b,h=>by
   rw[Rb,Rb,UK n (a+1) (b+1) (fun q c=>by have:=h (q+1) (by omega); rw[show b+1+q=b+(q+1) from by omega,show a+1+q=a+(q+1) from by omega]; exact this)];have:=h 0 (by omega);rw[Abn,Abn] at this;rw[this]
theorem Uw (m:HM):∀ (n a q:Nat),q<n->(KD m a n)[q]?=some (m.wds.getD (a+q) 0)
 | 0,a,q,h=>by omega
 | n+1,a,0,h=>by rw[Rb]; rfl
 | n+1,a,q+1,h=>by rw[Rb,Acj,Uw m n (a+1) q (by omega),show a+1+q=a+(q+1) from by omega]
end
section
local instance qCF:AH:=Ao
variable {J:Aa} {i:Cp} {m:HM}
def D0:List (Nat × Nat)->List Value
 | []=>[]
 | r::l=>qIi (r.1:Int) :: qIi (r.2:Int)::D0 l
theorem Pf:∀ l a,D0 (l++a)=D0 l++D0 a
 | [],a=>rfl
 | r::l,a=>by simp[D0,Pf l a]
theorem W3:∀ (l:List (Nat × Nat)) (x:Nat),x<l.length->(D0 l)[x*2]?=some (qIi ((l.getD x (0,0)).1:Int))/\(D0 l)[x*2+1]?=some (qIi ((l.getD x (0,0)).2:Int))
 | [],x,h=>by simp at h
 | r::l,0,h=>by simp[D0]
 | r::l,x+1,h=>by
   have a:=W3 l x (by simpa using h);rw[show (x+1)*2=x*2+1+1 from by omega];simpa [D0,Acj] using a
def Kr (a e:Nat):List (Nat × Nat):=if a<e then [(a,e-a)] else []
def F7 (m:HM):List Nat->Nat->List (Nat × Nat) × Nat
 | [],a=>([],a)
 | j::L,a=>(Kr a (2*j)++(F7 m L (2*j+sz m j)).1,(F7 m L (2*j+sz m j)).2)
def bY (m:HM) (b:Nat):List (Nat × Nat):=(F7 m (DE m (32*b) 32) (64*b)).1++Kr (F7 m (DE m (32*b) 32) (64*b)).2 (64*b+64)
def fG (m:HM) (b:Nat):List (Nat × Nat):=if 1<=b/\(m.bls.getD b (0,0)).1=1 then bY m b else []
theorem xM:HR P AF=some 2:=by kernel_rfl
theorem wR:bytesOf P AF=some 16:=by kernel_rfl
theorem xX:FR P AF=some (.agg #[qIi 0,qIi 0]):=by kernel_rfl
structure WI (lo h5 h3:Nat) (J:Aa) (a:Nat) (o:Bv) (R:List (Nat × Nat)):Prop where
 at_:J[h5]?=some (.cells [qIi (a:Int)] Ak true)
 out:J[h3]?=some (.cells [.slice o.1 o.2.1 o.2.2] Sa true)
 sl:Cq AF 2 J o R.length (D0 R)
 new:∀ a,o.1=some a->lo<=a.block
 l5:h5<lo
 l3:h3<lo
 ne:h5≠h3
 ll:lo<=J.length
theorem WI.Aw {lo h5 h3 a:Nat} {J J':Aa} {o:Bv} {R:List (Nat × Nat)} (h:WI lo h5 h3 J a o R) (hs:∀ q,q<J.length->J'[q]?=J[q]?) (c:J.length<=J'.length):WI lo h5 h3 J' a o R:=
 ⟨(hs _ (Af h.at_)).trans h.at_,(hs _ (Af h.out)).trans h.out,h.sl.Aw fun a b=>hs _ (h.sl.lt a b),h.new,h.l5,h.l3,h.ne,Adj h.ll c⟩
theorem uh (k:Nat) {lo h5 h3 a x:Nat} {o:Bv} {R:List (Nat × Nat)} (h:WI lo h5 h3 J a o R) (B:R.length<=5000) (C:a<=5000) (D:x<=5000):
  ∃ J' o',D9 (k+1) (x:Int) (some ⟨h5,0,none⟩) (some ⟨h3,0,none⟩) J=some (.tuple #[],J')/\WI lo h5 h3 J' a o' (R++Kr a x)/\(∀ q,q<lo->q≠h3->J'[q]?=J[q]?)/\J.length<=J'.length:=by
 have u:Aj .i64 J h5 0=some (a:Int):=by simp[Aj,CV,h.at_,Bl]
 have A:Bd J h3 0=some (o.1,o.2.1,o.2.2):=by simp[Bd,CV,h.out,Ej]
 by_cases s:a<x
 ·obtain ⟨g,J1_,v,j,s1⟩:=NF xM wR xX rfl rfl (by decide) (by decide) (by decide) J o R.length (D0 R) 1 1 (D0 [(a,x-a)]) AF (by omega) (by decide) rfl h.sl;have n:AG P AF (o.1,o.2.1,o.2.2) (some ⟨J.length,0,none⟩,1,1) (J++[Au.cells [qIi (a:Int),qIi ((x-a:Nat):Int)] AF true])=some (g,J1_):=v;have i:∀ q,q<lo -> ∀ d,o.1=some d->d.block≠q:=fun q m d b=>by have:=h.new d b; omega
  have t:=(j.same h3 (Af h.out) (i h3 h.l3)).trans h.out;have z:=(j.same h5 (Af h.at_) (i h5 h.l5)).trans h.at_;obtain ⟨J2_,f⟩:∃ J2_,J1_.set h3 (.cells [.slice g.1 g.2.1 g.2.2] Sa true)=J2_:=⟨_,rfl⟩;have p:CX J1_ h3 0 (.slice g.1 g.2.1 g.2.2)=some J2_:=by
   rw[<- f]; simp[CX,t]
  have c:∀ q,q≠h3->J2_[q]?=J1_[q]?:=fun q m=>by rw[<- f,Aaf (Ac9 m)]
  have y:=h.ll;have l:∀ d,g.1=some d->lo<=d.block:=by
   intro d b;rcases j.new with e | e
   ·rw[e] at b; exact h.new d b
   ·have:=e d b; omega
  refine ⟨J2_,g, ?_,⟨(c _ h.ne).trans z,by rw[<- f,Abq (Af t)], ?_,l,h.l5,h.l3,h.ne, ?_⟩, ?_, ?_⟩
  ·rw[Mw];have q:decide ((x:Int)>(a:Int))=true:=Aad (by omega);have w:Ar ((x:Int)-(a:Int))=((x-a:Nat):Int):=by rw[Ai (by unfold AO; omega)]; omega
   simp only[AI,u,q,IS,A,Ae,w,n,p,Aah]
  ·unfold Kr;rw[Abm s,Pf,Abe];exact s1.Aw fun d b=>c _ (fun e=>by have:=l d b; have:=h.l3; omega)
  ·rw[<- f]; have:=j.len; simp; omega
  ·intro q m r;rw[c q r,j.same q (by omega) (i q m)]
  ·rw[<- f]; have:=j.len; simp; omega
 ·refine ⟨J,o, ?_, ?_,fun _ _ _=>rfl,Abp _⟩
  ·rw[Mw];have q:decide ((x:Int)>(a:Int))=false:=Aac (by omega);simp only[AI,u,q,By,Aah]
  ·unfold Kr;rw[Abo s,Abu];exact h
theorem ax (k:Nat) (L:List Nat) (W:∀ j ∈ L,Start m j) (K:L.length<=2048) (w:∀ j ∈ L,2*j+sz m j<=5000) {lo h5 h3 z:Nat} (s:Bv) (v:∀ a,s.1=some a->a.block<lo/\a.block≠h3/\a.block≠h5) (hi:∀ j ∈ i.l,j<lo/\j≠h3/\j≠h5):∀ (n x f:Nat) (J:Aa) (a:Nat) (o:Bv) (R:List (Nat × Nat)),Al J i m->WI lo h5 h3 J a o R->C8 z J s (C7 L)->R.length<=x->a<=5000->x+n=L.length->n<f ->
  ∃ J' o',E6 (k+3) f (AU i) h5 h3 s.1 s.2.1 s.2.2 (L.length:Int) (x:Int) J=some (.exit 0,[],J')/\Al J' i m/\WI lo h5 h3 J' (F7 m (L.drop x) a).2 o' (R++(F7 m (L.drop x) a).1)/\(∀ q,q<lo->q≠h3->q≠h5->J'[q]?=J[q]?)/\J.length<=J'.length/\(F7 m (L.drop x) a).2<=5000/\(R++(F7 m (L.drop x) a).1).length<=L.length
 | 0,x,0,J,a,o,R,h,u,hs,P,p,T,N=>by omega
 | 0,x,f+1,J,a,o,R,h,u,hs,P,p,T,N=>by
   rw[Mx,Ac5 (by omega)];have q:decide ((x:Int)<(L.length:Int))=false:=Aac (by omega);exact ⟨J,o,by simp only[q,By],h,by simpa [F7] using u,fun _ _ _ _=>rfl,Abp _,p,by simp[F7]; omega⟩
 | n+1,x,0,J,a,o,R,h,u,hs,P,p,T,N=>by omega
 | n+1,x,f+1,J,a,o,R,h,u,hs,P,p,T,N=>by
   have al:(C7 L).length=L.length:=by simp[C7]
   have g:x<L.length:=by omega
   have S:=W _ (Ac4 g);have hle:=w _ (Ac4 g);have ac:=h.nt;have Q:=S.1;obtain ⟨B,e1,M,c1,y⟩:=ints_at hs (x:=x) (by omega);subst e1;rw[O8 L g] at y;obtain ⟨n1,n2,n3⟩:=v _ rfl;simp only at n1 n2 n3;obtain ⟨J1_,o1,eG,U,d,X⟩:=uh (k+2) u (x:=2*L[x]) (by omega) p (by omega);have G:D9 (k+3) ((2*L[x]:Nat):Int) (some ⟨h5,0,none⟩) (some ⟨h3,0,none⟩) J=_:=eG;have h1:Al J1_ i m:=h.Aw fun j t=>d j (hi j t).1 (hi j t).2.1;obtain ⟨A,e2⟩:=iY k h1 Q;have c:=U.Aw (J':=J1_++A) (fun q O=>AT O) (by simp);obtain ⟨J3_,l⟩:∃ J3_,(J1_++A).set h5 (.cells [qIi ((2*L[x]+sz m L[x]:Nat):Int)] Ak true)=J3_:=⟨_,rfl⟩;have H:CX (J1_++A) h5 0 (qIi ((2*L[x]+sz m L[x]:Nat):Int))=some J3_:=by
    rw[<- l]; simp[CX,c.at_]
   have b:∀ q,q≠h5->J3_[q]?=(J1_++A)[q]?:=fun q O=>by rw[<- l,Aaf (Ac9 O)]
   have ab:=U.ll;have l3:J3_.length=J1_.length+A.length:=by rw[<- l]; simp
   have g3:WI lo h5 h3 J3_ (2*L[x]+sz m L[x]) o1 (R++Kr a (2*L[x])):=⟨by rw[<- l,Abq (Af c.at_)],(b _ (Ac9 c.ne)).trans c.out,
    c.sl.Aw fun a p=>b _ (fun e=>by have:=c.new a p; have:=c.l5; omega),c.new,c.l5,c.l3,c.ne,by omega⟩;have VH:∀ q,q<lo->q≠h3->q≠h5->J3_[q]?=J[q]?:=fun q C D E=>by
    rw[b q E,AT (by omega),d q C D]
   have I:Al J3_ i m:=h.Aw fun j t=>VH j (hi j t).1 (hi j t).2.1 (hi j t).2.2;have s3:C8 z J3_ (some ⟨B,0,none⟩,(C7 L).length,(C7 L).length) (C7 L):=.inr ⟨B,M,rfl,fun e=>by rw[e] at al; simp at al; omega,by rw[VH B n1 n2 n3]; exact c1⟩;have aa:(Kr a (2*L[x])).length<=1:=by unfold Kr; split <;> simp
   obtain ⟨F,o4,e4,h4,V,r,Y,m4,Z⟩:=ax k L W K w (some ⟨B,0,none⟩,(C7 L).length,(C7 L).length) v hi n (x+1) f J3_ (2*L[x]+sz m L[x]) o1 (R++Kr a (2*L[x])) I g3 s3 (by rw[Abe]; omega) hle (by omega) (by omega);have eT:F7 m (L.drop x) a=(Kr a (2*L[x])++(F7 m (L.drop (x+1)) (2*L[x]+sz m L[x])).1,(F7 m (L.drop (x+1)) (2*L[x]+sz m L[x])).2):=by
    rw[Ac2 g]; rfl
   rw[eT];rw[Aae] at V Z;refine ⟨F,o4, ?_,h4,V,fun q C D E=>(r q C D E).trans (VH q C D E),by omega,m4,Z⟩;rw[Mx];have q:decide ((x:Int)<(L.length:Int))=true:=Aad (by omega);have w1:=wSu x (by omega);have w2:Ar (((2*L[x]:Nat):Int)+(sz m L[x]:Int))=((2*L[x]+sz m L[x]:Nat):Int):=by rw[Ai (by unfold AO; omega)]; omega
   simp only[q,IS];rw[Abm (by omega)];simp only[AI,IN,IT,Acu,y,G,Gg,e2,Ah,w2,H,w1];exact e4
theorem vW (k:Nat) (P:5000<=k) (h:Al J i m) (N:Inv m) {b:Nat} (hb:b<m.bls.length):
  ∃ τ s,Hw (k+7) (AU i) (b:Int) J=some (.slice s.1 s.2.1 s.2.2,J++τ)/\Cq AF 2 (J++τ) s (fG m b).length (D0 (fG m b))/\(fG m b).length<=33 /\ ∀ a,s.1=some a->J.length<=a.block:=by
 have hu:Fm (k+6) (AU i) (b:Int) J=_:=xU (k+3) h hb;unfold fG;by_cases r:1<=b/\(m.bls.getD b (0,0)).1=1;rotate_left
 ·rw[Abo r];refine ⟨[],(none,0,0), ?_,Cq.nil _ _ _,by simp,by intro a f; cases f⟩;rw[Le];simp only[hu,AI,An,Aac r,Ac7,IS,Abu]
 rw[Abm r];have Q:=h.nt;have S:=h.wl;obtain ⟨J1_,e⟩:∃ J1_,J++[Au.cells [.slice none 0 0] Sa true]=J1_:=⟨_,rfl⟩;have l1:J1_.length=J.length+1:=by rw[<- e]; simp
 obtain ⟨J2_,d⟩:∃ J2_,J1_++[Au.cells [qIi ((64*b:Nat):Int)] Ak true]=J2_:=⟨_,rfl⟩;have w:CX (J1_++[Au.cells [qIi 0] Ak true]) J1_.length 0 (qIi ((64*b:Nat):Int))=some J2_:=by
  rw[<- d]; simp[CX]
 have l2:J2_.length=J.length+2:=by rw[<- d]; simp; omega
 have E:Al J2_ i m:=d ▸ (e ▸ h.app _:Al J1_ i m).app _;obtain ⟨o,s,K,i3⟩:=VS k P E hb;have F:∀ j ∈ DE m (32*b) 32,Start m j:=by
  intro j n;obtain ⟨a,Z,c⟩:=LM.1 n;exact ⟨by omega,c⟩
 have O:=Nn m (32*b) 32;have A:=h.lt;have M:WI (J2_++o).length J1_.length J.length (J2_++o) (64*b) (none,0,0) []:=by
  refine { at_:=?_,out:=?_,sl:=Cq.nil _ _ _,new:=(by intro a f; cases f),l5:=(by simp; omega),l3:=(by simp; omega),ne:=(by omega),ll:=Abp _ }
  ·rw[AT (by omega),<- d]; simp
  ·rw[AT (by omega),<- d,AT (by omega),<- e]; simp
 obtain ⟨u,o4,B,h4,D,g,H,U,V⟩:=ax (k+3) _ F (by omega) (fun j n=>by have:=N.fit j (F j n); omega) s (fun a f=>by have:=i3.ge a f; simp only[Abe] at *; omega) (fun j n=>by have:=A j n; simp; omega)
  (DE m (32*b) 32).length 0 (k+6) (J2_++o) (64*b) (none,0,0) [] (E.app o) M i3 (Ade _) (by omega) (by omega) (by omega);rw[Ac6,Aev] at D V;rw[Ac6] at U;obtain ⟨J5_,t,L,p,l,I⟩:=uh (k+5) D (x:=64*b+64) (by omega) (by omega) (by omega);have z:=p.ll;have hle:J.length<=J5_.length:=by simp at z; omega
 have C:J5_=J++J5_.drop J.length:=by
  apply Ady;intro q;by_cases G:q<J.length
  ·rw[AT G,l q (by simp; omega) (by omega),g q (by simp; omega) (by omega) (by omega),AT (by omega),<- d,AT (by omega),<- e,AT G]
  ·rw[Acr (by omega),Adq,show J.length+(q-J.length)=q from by omega]
 refine ⟨J5_.drop J.length,t, ?_,by rw[<- C]; exact p.sl, ?_,fun a f=>by have:=p.new a f; simp at this; omega⟩
 ·have y:=i3.len;rw[show (C7 (DE m (32*b) 32)).length=(DE m (32*b) 32).length from by simp[C7]] at y;rw[<- C,Le];have W:Ar ((b:Int)*64)=((64*b:Nat):Int):=by rw[Ai (by unfold AO; omega)]; omega
  have X:Ar ((b:Int)+1)=((b+1:Nat):Int):=by rw[Ai (by unfold AO; omega)]; omega
  have Y:Ar (((b+1:Nat):Int)*64)=((64*b+64:Nat):Int):=by rw[Ai (by unfold AO; omega)]; omega
  have T:Bd J5_ J.length 0=some (t.1,t.2.1,t.2.2):=by simp[Bd,CV,p.out,Ej]
  have v:E6 (k+6) (k+6) (AU i) J1_.length J.length s.1 (DE m (32*b) 32).length s.2.2 (((DE m (32*b) 32).length:Nat):Int) 0 (J2_++o)=some (.exit 0,[],u):=by rw[y] at B; exact B
  simp only[hu,AI,An,Aad r,Abr,By,Ae,e,W,w,K,Ej,y,v,Aah,X,Y,L,Gg,T]
 ·unfold bY;rw[Abe];have:(Kr (F7 m (DE m (32*b) 32) (64*b)).2 (64*b+64)).length<=1:=by unfold Kr; split <;> simp
  omega
end
section
variable {m:HM}
structure RO where
 addr:Int
 id:Int
 r:Int
 d:Int
 k:Int
 refs:List Int
 data:List Int
 Ww:Bool
structure RM where
 bl:List (Int × Int)
 ob:List RO
 fw:List (Int × Int)
 born:Int
def RO.w (o:RO):Int:=words o.r o.d o.k
def AQ (m:HM) (j:Nat):RO:=⟨((2*j:Nat):Int),m.wds.getD (2*j) 0,Av m j,Bp m j,CA m j,KD m (2*j+2) (Av m j).toNat,KD m (2*j+2+(Av m j).toNat) (Bp m j).toNat,decide (CG 1 m.pnw j=1)⟩
def F8 (m:HM):List Nat:=DE m 0 (32*m.bls.length)
def Gp (m:HM):List RO:=(F8 m).map (AQ m)
structure Rl (m:HM) (t:RM):Prop where
 bl:t.bl=m.bls
 ob:t.ob=Gp m
 born:t.born=m.births
 fw:∀ a,getM t.fw a=getM m.fw a
 fl:t.fw.length=m.fw.length
 o1:Sv t.fw
 o2:Sv m.fw
theorem WA:∀ {l d:List Nat},l.Pairwise (·<·)->d.Pairwise (·<·)->(∀ a,a ∈ l↔a ∈ d)->l=d
 | [],[],_,_,_=>rfl
 | [],b::d,_,_,h=>by have:=(h b).2 Ac0; cases this
 | a::l,[],_,_,h=>by have:=(h a).1 Ac0; cases this
 | a::l,b::d,h1,k,h=>by
   have i:=Ad9.1 h1;have j:=Ad9.1 k;have g:a=b:=by
    rcases Acv.1 ((h a).1 Ac0) with e | e
    ·exact e
    ·rcases Acv.1 ((h b).2 Ac0) with f | f
     ·exact f.symm
     ·have:=i.1 b f; have:=j.1 a e; omega
   subst g;congr 1;refine WA i.2 j.2 fun x=>⟨fun c=>?_,fun c=>?_⟩
   ·rcases Acv.1 ((h x).1 (Abx _ c)) with e | e
    ·subst e; have:=i.1 x c; omega
    ·exact e
   ·rcases Acv.1 ((h x).2 (Abx _ c)) with e | e
    ·subst e; have:=j.1 x c; omega
    ·exact e
theorem LO (m:HM):(F8 m).Pairwise (·<·):=(List.pairwise_lt_range' (step:=1) (by decide)).filter _
theorem DO {j:Nat}:j ∈ F8 m↔Start m j:=xj
theorem iP {m':HM} {l:List Nat} (hs:l.Pairwise (·<·)) (hm:∀ j,j ∈ l↔Start m' j):Gp m'=l.map (AQ m'):=by
 unfold Gp;rw[WA (LO m') hs (fun a=>by rw[DO,hm])]
def Om:List RO->Int->Option Nat
 | [],_=>none
 | o::l,a=>if o.addr=a then some 0 else (Om l a).map (·+1)
theorem kR (f:Nat->RO) (i:∀ j,(f j).addr=((2*j:Nat):Int)):∀ (L:List Nat) (a:Int),(∀ x,Om (L.map f) a=some x->x<L.length /\ ∀ h:x<L.length,a=((2*L[x]:Nat):Int))/\(Om (L.map f) a=none -> ∀ j ∈ L,a≠((2*j:Nat):Int))
 | [],a=>⟨fun x h=>(by cases h),fun _ j m=>(by cases m)⟩
 | j::L,a=>by
   obtain ⟨h1,l⟩:=kR f i L a;simp only[Aea,Om,i];constructor
   ·intro x b;split at b
    ·rename_i e;cases b;exact ⟨by simp,fun _=>e.symm⟩
    ·cases d:Om (L.map f) a with
     | none=>rw[d] at b; cases b
     | some y=>
       rw[d] at b; cases b;obtain ⟨k,n⟩:=h1 y d;exact ⟨by simpa using k,fun h=>by simpa using n k⟩
   ·intro b;split at b
    ·cases b
    ·rename_i e;cases d:Om (L.map f) a with
     | none=>
       intro j' c g;rcases Acv.1 c with rfl | c
       ·exact e g.symm
       ·exact l d j' c g
     | some y=>rw[d] at b; cases b
theorem Nk (m:HM) (j:Nat):(AQ m j).addr=((2*j:Nat):Int):=rfl
theorem Rl.idx {t:RM} (h:Rl m t) (a:Int):(∀ x,Om t.ob a=some x->x<t.ob.length /\ ∃ j,Start m j/\a=((2*j:Nat):Int)/\Ax m a=true/\(F8 m)[x]?=some j/\t.ob[x]?=some (AQ m j))/\(Om t.ob a=none->Ax m a=false):=by
 obtain ⟨h1,f⟩:=kR (AQ m) (Nk m) (F8 m) a;rw[h.ob];constructor
 ·intro x c;obtain ⟨b,d⟩:=h1 x c;have hs:Start m (F8 m)[x]:=DO.1 (Ac4 b);refine ⟨by simpa [Gp] using b,(F8 m)[x],hs,d b,by rw[d b]; exact RJ hs,Aaj b, ?_⟩;unfold Gp;rw[Ad5,Aaj b]; rfl
 ·intro c;cases g:Ax m a with
  | false=>rfl
  | true=>
    obtain ⟨j,e,hs⟩:=AV g;exact absurd e (f c j (DO.2 hs))
theorem Rl.has {t:RM} (h:Rl m t) (a:Int):(Om t.ob a).isSome=Ax m a:=by
 obtain ⟨h1,c⟩:=h.idx a;cases b:Om t.ob a with
 | none=>rw[c b]; rfl
 | some x=>obtain ⟨_,j,_,_,e,_⟩:=h1 x b; rw[e]; rfl
theorem oq (a:Inv m) {j:Nat} (hs:Start m j):(AQ m j).w=(sz m j:Int):=(MX a hs).2.2.2.2.2.2.2
def xx:List RO->Int->Option Int
 | [],_=>none
 | o::l,n=>if o.id=n then some o.addr else xx l n
theorem pQ (n:Int):∀ (L:List Nat),(xx (L.map (AQ m)) n=none -> ∀ j ∈ L,m.wds.getD (2*j) 0≠n)/\(∀ a,xx (L.map (AQ m)) n=some a -> ∃ j ∈ L,a=((2*j:Nat):Int)/\m.wds.getD (2*j) 0=n)
 | []=>⟨fun _ j g=>(by cases g),fun a h=>(by cases h)⟩
 | j::L=>by
   obtain ⟨h1,f⟩:=pQ n L;simp only[Aea,xx,Nk];have d:(AQ m j).id=m.wds.getD (2*j) 0:=rfl;rw[d];constructor
   ·intro c;split at c
    ·cases c
    ·rename_i e;intro j' b;rcases Acv.1 b with rfl | b
     ·exact e
     ·exact h1 c j' b
   ·intro a c;split at c
    ·rename_i e;cases c;exact ⟨j,Ac0,rfl,e⟩
    ·obtain ⟨j',i,k⟩:=f a c;exact ⟨j',Abx _ i,k⟩
theorem Rl.at {t:RM} (h:Rl m t) (b:Inv m) (n:Int):xx t.ob n=getM m.pl n:=by
 rw[h.ob];obtain ⟨h1,d⟩:=pQ (m:=m) n (F8 m);have i:Gp m=(F8 m).map (AQ m):=rfl;rw[i];cases c:xx ((F8 m).map (AQ m)) n with
 | none=>
   cases f:getM m.pl n with
   | none=>rfl
   | some a=>
     obtain ⟨j,rfl,s1,s2⟩:=b.plc _ _ f;exact absurd s2 (h1 c j (DO.2 s1))
 | some a=>
   obtain ⟨j,g,rfl,e⟩:=d a c;have:=(b.idn j (DO.1 g)).2.2;rw[e] at this;exact this.symm
def cU (l:List RO) (a w b:Int):Bool:=l.any fun o=>decide (o.id≠b/\o.addr<a+w/\a<o.addr+o.w)
end
section
variable {m:HM} {t:RM}
def LH (m:HM):Prop:=∀ j,j<32*m.bls.length->¬ Start m j->CG 1 m.pnw j=0
theorem dc (f:Inv m) {m':HM} {j j':Nat} (hs:Start m j) (hw:∀ c,c<sz m j->m'.wds.getD (2*j'+c) 0=m.wds.getD (2*j+c) 0) (hp:CG 1 m'.pnw j'=CG 1 m.pnw j):AQ m' j'={ AQ m j with addr:=((2*j':Nat):Int) }:=by
 have h:=f.size hs;have a:=hw 1 (by omega);obtain ⟨_,_,e,b⟩:=VK (m:=m) (m':=m') (j:=j) (j':=j') a;have d:CA m' j'=CA m j:=by unfold CA; rw[a]
 have w0:=hw 0 (by omega);rw[Abn,Abn] at w0;unfold AQ;rw[w0,e,b,d,hp,UK (m:=m) (m':=m') (Av m j).toNat (2*j+2) (2*j'+2) (fun q g=>by
  have:=hw (2+q) (by omega);rw[Adt,Adt]; exact this),UK (m:=m) (m':=m') (Bp m j).toNat (2*j+2+(Av m j).toNat) (2*j'+2+(Av m j).toNat) (fun q g=>by
  have:=hw (2+(Av m j).toNat+q) (by omega);rw[Adt (2*j'),Adt (2*j'),Adt (2*j),Adt (2*j)]; exact this)]
theorem Oz (a:Inv m) {m':HM} {j:Nat} (hs:Start m j) (hw:∀ c,c<sz m j->m'.wds.getD (2*j+c) 0=m.wds.getD (2*j+c) 0) (hp:CG 1 m'.pnw j=CG 1 m.pnw j):AQ m' j=AQ m j:=dc a hs hw hp
def RW:List RO->Int->Nat
 | [],_=>0
 | o::l,a=>if o.addr<a then RW l a+1 else 0
def Uq (l:List RO) (o:RO):List RO:=l.take (RW l o.addr)++o::l.drop (RW l o.addr)
theorem pR:∀ (l:List RO) (a:Int),RW l a<=l.length
 | [],_=>Abp _
 | o::l,a=>by
   rw[RW];split
   ·have:=pR l a; simp; omega
   ·simp
theorem kV (f:Nat->RO) (c:∀ j,(f j).addr=((2*j:Nat):Int)) (j:Nat):∀ (L:List Nat),L.Pairwise (·<·)->(∀ y ∈ L.take (RW (L.map f) ((2*j:Nat):Int)),y<j)/\(∀ y ∈ L.drop (RW (L.map f) ((2*j:Nat):Int)),j<=y)
 | [],_=>⟨fun y h=>(by simp at h),fun y h=>(by simp at h)⟩
 | b::L,h=>by
   have p:=Ad9.1 h;obtain ⟨h1,d⟩:=kV f c j L p.2;simp only[Aea,RW,c];split
   ·rw[Ahb,Agn];refine ⟨fun y a=>?_,d⟩;rcases Acv.1 a with rfl | a
    ·omega
    ·exact h1 y a
   ·rw[Agk,Ac6];refine ⟨fun y a=>(by cases a),fun y a=>?_⟩;rcases Acv.1 a with rfl | a
    ·omega
    ·have:=p.1 y a; omega
theorem kS {m':HM} {L:List Nat} {j:Nat} {o:RO} (hs:L.Pairwise (·<·)) (r:j ∉ L) (g:∀ y,Start m' y↔y=j\/y ∈ L) (f:Nat->RO) (q:∀ j,(f j).addr=((2*j:Nat):Int)) (d:∀ y ∈ L,AQ m' y=f y) (k:AQ m' j=o):Gp m'=Uq (L.map f) o:=by
 have n:o.addr=((2*j:Nat):Int):=by rw[<- k]; rfl
 obtain ⟨h1,i⟩:=kV f q j L hs;unfold Uq;rw[n];obtain ⟨p,hp⟩:∃ p,RW (L.map f) ((2*j:Nat):Int)=p:=⟨_,rfl⟩;rw[hp] at h1 i ⊢;have a:=Ae3 p L;have c:(L.take p++L.drop p).Pairwise (·<·):=by rw[a]; exact hs
 rw[Ag6] at c;rw[iP (l:=L.take p++j::L.drop p) ?_ ?_,Aex,Aea,<- List.map_take,<- List.map_drop,k]
 ·congr 1
  ·exact Ago fun y b=>d y (Agh b)
  ·congr 1;exact Ago fun y b=>d y (Af5 b)
 ·rw[Ag6,Ad9];refine ⟨c.1,⟨fun y b=>?_,c.2.1⟩,fun x m y b=>?_⟩
  ·have:=i y b;have:y≠j:=fun e=>r (e ▸ Af5 b);omega
  ·rcases Acv.1 b with rfl | b
   ·exact h1 x m
   ·exact c.2.2 x m y b
 ·intro y;rw[g y,Aag,Acv];constructor
  ·rintro (h | h | h)
   ·exact .inr (Agh h)
   ·exact .inl h
   ·exact .inr (Af5 h)
  ·rintro (h | h)
   ·exact .inr (.inl h)
   ·rw[<- a,Aag] at h;rcases h with h | h
    ·exact .inl h
    ·exact .inr (.inr h)
theorem YA {m':HM}:∀ (n a:Nat),(∀ q,q<n->m'.wds.getD (a+q) 0=0)->KD m' a n=List.replicate n 0
 | 0,a,h=>rfl
 | n+1,a,h=>by
   rw[Rb,Aek,YA n (a+1) (fun q b=>by have:=h (q+1) (by omega); rw[show a+1+q=a+(q+1) from by omega]; exact this)];have:=h 0 (by omega);rw[Abn] at this;rw[this]
theorem Rl.Aw {m':HM} {t':RM} (h:Rl m t) (hb:t'.bl=m'.bls) (c:t'.ob=Gp m') (b:t'.born=m'.births) (a:t'.fw=t.fw) (hm:m'.fw=m.fw):Rl m' t':=
 ⟨hb,c,b,by rw[a,hm]; exact h.fw,by rw[a,hm]; exact h.fl,by rw[a]; exact h.o1,by rw[hm]; exact h.o2⟩
theorem I9 (c:Sh m) {j:Nat} (d:j<32*m.bls.length) (n:Int) (a:Nat):(CR m j n).wds.getD a 0=if a=2*j+1 then n else if a=2*j then m.births+1 else m.wds.getD a 0:=by
 have:=c.wl;show ((m.wds.set (2*j) (m.births+1)).set (2*j+1) n).getD a 0=_;rw[Cn,Cn,Ac8];by_cases h1:a=2*j+1
 ·subst h1; rw[Abm ⟨rfl,by omega⟩,Abm rfl]
 ·rw[Abo (fun h=>h1 h.1.symm),Abo h1];by_cases b:a=2*j
  ·subst b; rw[Abm ⟨rfl,by omega⟩,Abm rfl]
  ·rw[Abo (fun h=>b h.1.symm),Abo b]
theorem Rl.place (h:Rl m t) (s:Inv m) (u:Inv2 m) (n:Sh m) (A:LH m) {j:Nat} {r d k:Int} (w:valid r d k=true) (l:j<32*m.bls.length)
  (i:∀ o,Start m o->2*o+sz m o<=2*j\/2*j+Pk (num r d k)<=2*o):Rl (CR m j (num r d k)) { t with born:=t.born+1,ob:=Uq t.ob ⟨((2*j:Nat):Int),t.born+1,r,d,k,List.replicate r.toNat 0,List.replicate d.toNat 0,false⟩ }/\LH (CR m j (num r d k)):=by
 have p:=n.sl;obtain ⟨I,J,K,_⟩:=Ke w;have f:=Ko w;have x:=w;simp[valid] at x;have b:¬ Start m j:=by
  intro hs;have:=i j hs;have:=s.size hs;rcases this with ⟨_,_⟩
  rw[f] at *;omega
 have v:∀ y,Start (CR m j (num r d k)) y↔y=j\/y ∈ F8 m:=fun y=>by rw[J0 p l,DO]
 have key:Gp (CR m j (num r d k))=Uq (Gp m) ⟨((2*j:Nat):Int),m.births+1,r,d,k,List.replicate r.toNat 0,List.replicate d.toNat 0,false⟩:=by
  refine kS (LO m) (fun hm=>b (DO.1 hm)) v (AQ m) (Nk m) (fun y g=>?_) ?_
  ·have g:=DO.1 g;have G:y≠j:=fun e=>b (e ▸ g);have N:=s.size g;have:=i y g;refine Oz s g (fun c M=>?_) rfl;rw[I9 n l,Abo (by rw[f] at this; omega),Abo (by rw[f] at this; omega)]
  ·have w0:(CR m j (num r d k)).wds.getD (2*j) 0=m.births+1:=by rw[I9 n l,Abo (by omega),Abm rfl]
   have z:(CR m j (num r d k)).wds.getD (2*j+1) 0=num r d k:=by rw[I9 n l,Abm rfl]
   have C:Av (CR m j (num r d k)) j=r:=by unfold Av; rw[z,I]
   have D:Bp (CR m j (num r d k)) j=d:=by unfold Bp; rw[z,J]
   have E:CA (CR m j (num r d k)) j=k:=by unfold CA; rw[z,K]
   have hzero:∀ a,2*j+2<=a->a<2*j+Pk (num r d k)->(CR m j (num r d k)).wds.getD a 0=0:=by
    intro a h1 L;rw[I9 n l,Abo (by omega),Abo (by omega)];refine u.zero a fun o B O P=>?_;have:=i o B;have:=s.use B;omega
   unfold AQ;rw[w0,C,D,E,YA,YA]
   ·have:CG 1 (CR m j (num r d k)).pnw j=0:=A j l b;rw[this]; rfl
   ·intro q H; exact hzero _ (by omega) (by rw[f]; omega)
   ·intro q H; exact hzero _ (by omega) (by rw[f]; omega)
 refine ⟨h.Aw h.bl ?_ ?_ rfl rfl,fun y g F=>?_⟩
 ·show Uq t.ob _=_;rw[key,h.ob,h.born]
 ·show t.born+1=m.births+1;rw[h.born]
 ·exact A y g fun hs=>F ((J0 p l).2 (.inr hs))
theorem gg {α β:Type} (f:α->β):∀ (l:List α) (x:Nat),(l.map f).eraseIdx x=(l.eraseIdx x).map f
 | [],_=>rfl
 | _::_,0=>rfl
 | a::l,x+1=>by simp[List.eraseIdx_cons_succ,gg f l x]
theorem fk {m':HM} {x j:Nat} (h:(F8 m)[x]?=some j) (f:∀ y,Start m' y↔y≠j/\Start m y) (g:∀ y,Start m y->y≠j->AQ m' y=AQ m y):Gp m'=(Gp m).eraseIdx x/\((F8 m).eraseIdx x).Pairwise (·<·)/\(∀ y,y ∈ (F8 m).eraseIdx x↔y≠j/\Start m y)/\(Gp m).eraseIdx x=((F8 m).eraseIdx x).map (AQ m):=by
 obtain ⟨k,b⟩:=Abw.1 h;have hs:=(LO m).sublist (List.eraseIdx_sublist (F8 m) x);have d:(F8 m).Nodup:=X6 _ _;have hm:∀ y,y ∈ (F8 m).eraseIdx x↔y≠j/\Start m y:=by
  intro y;rw[List.mem_eraseIdx_iff_getElem];constructor
  ·rintro ⟨i,hi,a,rfl⟩;refine ⟨fun e=>a ?_,DO.1 (Ac4 _)⟩;exact (List.getElem_inj d).1 (e.trans b.symm)
  ·rintro ⟨a,c⟩;obtain ⟨i,hi,rfl⟩:=Adx.1 (DO.2 c);exact ⟨i,hi,fun e=>a (by subst e; exact b),rfl⟩
 have he:(Gp m).eraseIdx x=((F8 m).eraseIdx x).map (AQ m):=by
  unfold Gp; rw[gg]
 refine ⟨?_,hs,hm,he⟩;rw[iP hs (fun y=>by rw[hm,f]),he];exact Ago fun y c=>g y ((hm y).1 c).2 ((hm y).1 c).1
theorem Rl.kill (h:Rl m t) (g:Inv m) (i:Sh m) (l:LH m) {x j:Nat} (hs:Start m j) (r:(F8 m)[x]?=some j):Rl (HN m j) { t with ob:=t.ob.eraseIdx x }/\LH (HN m j):=by
 have f:=i.sl;have p:=i.pl;have n:=hs.1;have b:∀ y,Start (HN m j) y↔y≠j/\Start m y:=fun y=>JG f n;obtain ⟨k,_⟩:=fk r b (fun y d a=>Oz g d (fun c s=>Ng g hs d a (by omega) (by omega)) (by
  show CG 1 (F9 1 m.pnw j 0) y=_;rw[Cc (.inl rfl) (by decide) (Ac9 a)]));refine ⟨h.Aw h.bl ?_ h.born rfl rfl,fun y d o=>?_⟩
 ·show t.ob.eraseIdx x=_;rw[k,h.ob]
 ·show CG 1 (F9 1 m.pnw j 0) y=0;by_cases e:y=j
  ·subst e; rw[ER (.inl rfl) (by decide) (by omega)]
  ·rw[Cc (.inl rfl) (by decide) (Ac9 e)];exact l y d fun q=>o ((b y).2 ⟨e,q⟩)
theorem Sv.getM_none {k:Int}:∀ {l:List (Int × Int)},getM l k=none -> ∀ e ∈ l,e.1≠k
 | [],_,e,he=>by cases he
 | a::l,h,e,he=>by
   unfold getM at h;rw[Afr] at h;cases b:(k == a.1) with
   | true=>rw[b] at h; cases h
   | false=>
     rw[b] at h;rcases Acv.1 he with rfl | he
     ·exact fun c=>by rw[c] at b; simp at b
     ·exact Sv.getM_none (l:=l) h e he
theorem Kc (a k:Int) (b:Int) (l:List (Int × Int)):getM ((a,b)::l) k=if k=a then some b else getM l k:=by
 unfold getM;rw[Afr];by_cases h:k=a
 ·rw[Abm h]; simp[h]
 ·rw[Abo h];have:(k == a)=false:=by simpa using h
  simp only[this]
def xy (l:List (Int × Int)) (a b:Int):List (Int × Int):=(l.filter fun e=>e.1 != a)++[(a,b)]
theorem kr (l a:List (Int × Int)) (k:Int):getM (l++a) k=(getM l k).or (getM a k):=by
 induction l with
 | nil=>simp[getM]
 | cons e l b=>
   obtain ⟨x,y⟩:=e;rw[Agm,Kc,Kc,b];split <;> simp
theorem Uc (a k:Int):∀ l:List (Int × Int),getM (l.filter fun e=>e.1 != a) k=if k=a then none else getM l k
 | []=>by simp[getM]
 | (x,y)::l=>by
   rw[Aeq];have c:=Uc a k l;by_cases h:x=a
   ·subst h;simp only[Abt,Abz,Abs];rw[c,Kc];by_cases b:k=x
    ·rw[Abm b,Abm b]
    ·rw[Abo b,Abo b,Abo b]
   ·have:(x != a)=true:=Adp.2 h;simp only[this,Aah];rw[Kc,c,Kc];by_cases b:k=x
    ·rw[Abm b,Abm b,Abo (by omega)]
    ·rw[Abo b,Abo b]
theorem Ul (p:Int × Int->Bool):∀ l,Sv l->Sv (l.filter p)
 | [],_=>trivial
 | e::l,h=>by
   rw[Aeq];split
   ·refine ⟨?_,Ul p l h.2⟩;have h1:=h.1;cases c:getM (l.filter p) e.1 with
    | none=>rfl
    | some v=>
      unfold getM at c;cases b:(l.filter p).find? (fun a=>e.1 == a.1) with
      | none=>rw[b] at c; cases c
      | some a=>
        have hm:=List.mem_of_find?_eq_some b;have he:=List.find?_some b;have:=Sv.getM_none h1 a (Adz.1 hm).1;simp at he;exact absurd he.symm this
   ·exact Ul p l h.2
theorem bP (a:Int):∀ l:List (Int × Int),Sv l->(l.filter fun e=>e.1 != a).length+(if (getM l a).isSome then 1 else 0)=l.length
 | [],_=>by simp[getM]
 | (x,y)::l,h=>by
   have b:=bP a l h.2;rw[Aeq,Kc];by_cases he:x=a
   ·subst he;have h1:getM l x=none:=h.1;rw[h1] at b;simp at b ⊢;exact b
   ·have:(x != a)=true:=Adp.2 he;simp only[this,Aah];rw[Abo (Ac9 he)];simp only[Ada];omega
theorem lR (a b:Int):∀ l:List (Int × Int),(Py a b l).length=if (getM l a).isSome then l.length else l.length+1
 | []=>by simp[Py,getM]
 | (x,y)::l=>by
   have c:=lR a b l;rw[Py,Kc];by_cases he:a=x
   ·subst he; simp
   ·have:(a == (x,y).1)=false:=by simpa using he
    simp only[this,Abz,Abs,Abo he,Ada,c];split <;> rfl
theorem gn (a b:Int):∀ l:List (Int × Int),Sv l->getM l a=none->Sv (l++[(a,b)])
 | [],_,_=>⟨rfl,trivial⟩
 | (x,y)::l,h,c=>by
   rw[Kc] at c;have d:a≠x:=fun e=>by rw[Abm e] at c; cases c
   rw[Abo d] at c;refine ⟨?_,gn a b l h.2 c⟩;show getM (l++[(a,b)]) x=none;rw[kr,show getM l x=none from h.1,Kc,Abo (Ac9 d)]; rfl
theorem Rl.fwd {m':HM} {t':RM} (h:Rl m t) (a b:Int) (hb:t'.bl=m'.bls) (j:t'.ob=Gp m') (i:t'.born=m'.births) (d:t'.fw=xy t.fw a b) (hm:m'.fw=Py a b m.fw):Rl m' t':=by
 have f:getM (t.fw.filter fun e=>e.1 != a) a=none:=by rw[Uc,Abm rfl]
 refine ⟨hb,j,i,fun k=>?_, ?_, ?_,by rw[hm]; exact Um _ _ _ h.o2⟩
 ·rw[d,hm,OW];unfold xy;rw[kr,Uc,Kc];by_cases c:k=a
  ·rw[Abm c,Abm c,Abm c]; rfl
  ·rw[Abo c,Abo c,Abo c,<- h.fw k];cases getM t.fw k <;> rfl
 ·rw[d,hm,lR];unfold xy;have h1:=bP a t.fw h.o1;rw[h.fw a] at h1;have l:=h.fl;rw[Abe];simp only[Ada,Adn];cases g:(getM m.fw a).isSome with
  | true=>rw[g] at h1; simp only[Aah] at h1 ⊢; omega
  | false=>rw[g] at h1; simp only[Abz,Abs] at h1 ⊢; omega
 ·rw[d];exact gn _ _ _ (Ul _ _ h.o1) f
theorem Rl.move (h:Rl m t) (a:Inv m) (q:Sh m) (C:LH m) {x j u:Nat} (hs:Start m j) (F:(F8 m)[x]?=some j) (hu:u<32*m.bls.length) (b:2*u+sz m j<=m.wds.length)
  (g:∀ o,Start m o->o≠j->2*o+sz m o<=2*u\/2*u+sz m j<=2*o):Rl (OZ m j u) { t with ob:=Uq (t.ob.eraseIdx x) { AQ m j with addr:=((2*u:Nat):Int) },fw:=xy t.fw ((2*j:Nat):Int) ((2*u:Nat):Int) }/\LH (OZ m j u):=by
 have r:=q.sl;have D:=q.pl;have G:=a.size hs;have s:=xO 1 m.pnw j;have f:=fun y=>dB (m:=m) q (j:=j) (t:=u) (j':=y) hs.1 hu;have k:∀ o,Start m o->o≠j->o≠u:=by
  rintro o z e rfl;have:=g o z e;have:=a.size z;omega
 obtain ⟨_,A,p,B⟩:=fk (m':=HN m j) F (fun y=>JG r hs.1) (fun y d i=>Oz a d (fun c v=>Ng a hs d i (by omega) (by omega)) (by
  show CG 1 (F9 1 m.pnw j 0) y=_;rw[Cc (.inl rfl) (by decide) (Ac9 i)]));have key:Gp (OZ m j u)=Uq ((Gp m).eraseIdx x) { AQ m j with addr:=((2*u:Nat):Int) }:=by
  rw[B];refine kS (j:=u) A (fun hm=>?_) (fun y=>?_) (AQ m) (Nk m) (fun y d=>?_) ?_
  ·obtain ⟨l,n⟩:=(p u).1 hm;exact k u n l rfl
  ·rw[f,p]
  ·obtain ⟨l,n⟩:=(p y).1 d;refine Oz a n (fun c v=>cG a hs b g n l (by omega) (by omega)) ?_;show CG 1 (F9 1 (F9 1 m.pnw j 0) u (CG 1 m.pnw j)) y=_;rw[Cc (.inl rfl) s (Ac9 (k y n l)),Cc (.inl rfl) (by decide) (Ac9 l)]
  ·refine dc a hs (fun c v=>?_) ?_
   ·rw[RR a hs b,Abm (by omega),show 2*j+(2*u+c-2*u)=2*j+c from by omega]
   ·show CG 1 (F9 1 (F9 1 m.pnw j 0) u (CG 1 m.pnw j)) u=_;rw[ER (.inl rfl) s (by rw[Eg]; omega)]
 refine ⟨h.fwd _ _ h.bl ?_ h.born rfl rfl,fun y d w=>?_⟩
 ·show Uq (t.ob.eraseIdx x) _=_;rw[key,h.ob]
 ·show CG 1 (F9 1 (F9 1 m.pnw j 0) u (CG 1 m.pnw j)) y=0;have d:y<32*m.bls.length:=d;have h1:y≠u:=fun e=>w ((f y).2 (.inl e));rw[Cc (.inl rfl) s (Ac9 h1)];by_cases e:y=j
  ·subst e; rw[ER (.inl rfl) (by decide) (by omega)]
  ·rw[Cc (.inl rfl) (by decide) (Ac9 e)];exact C y d fun E=>w ((f y).2 (.inr ⟨e,E⟩))
theorem qg {m':HM} {x j:Nat} {o:RO} (h:(F8 m)[x]?=some j) (d:∀ y,Start m' y↔Start m y) (p:∀ y,Start m y->y≠j->AQ m' y=AQ m y) (l:AQ m' j=o):Gp m'=(Gp m).set x o:=by
 obtain ⟨g,f⟩:=Abw.1 h;have c:(F8 m).Nodup:=X6 _ _;rw[iP (LO m) (fun y=>by rw[DO,d])];apply Ady;intro i;unfold Gp;rw[Ad5,Ad2,Aee,Ad5];by_cases e:x=i
 ·subst e;rw[Abm rfl,Abm g,h,<- l]; rfl
 ·rw[Abo e];cases n:(F8 m)[i]? with
  | none=>rfl
  | some y=>
    obtain ⟨b,a⟩:=Abw.1 n;have q:Start m y:=DO.1 (a ▸ Ac4 b);show some _=some _;rw[p y q (fun k=>e ((List.getElem_inj c).1 (f.trans (k.symm.trans a.symm))))]
theorem lN {m':HM} {a i n:Nat} {v:Int} (hi:i<n) (b:a+i<m.wds.length) (hw:m'.wds=m.wds.set (a+i) v):KD m' a n=(KD m a n).set i v:=by
 apply Ady;intro q;rw[Ad2,DC];by_cases c:q<n
 ·rw[Uw m' n a q c,hw,Cn];by_cases e:i=q
  ·subst e; rw[Abm ⟨rfl,b⟩,Abm rfl,Abm hi]
  ·rw[Abo (fun h=>e (by omega)),Abo e,Uw m n a q c]
 ·rw[Adh (by rw[DC]; omega),Abo (by omega),Adh (by rw[DC]; omega)]
theorem lM {m':HM} {a n p:Nat} {v:Int} (h:p<a\/a+n<=p) (hw:m'.wds=m.wds.set p v):KD m' a n=KD m a n:=
 UK n a a fun q b=>by rw[hw,Cn,Abo (by omega)]
theorem Rl.word (h:Rl m t) (b:Inv m) (z:LH m) {x j q:Nat} (hs:Start m j) (A:(F8 m)[x]?=some j) (B:2+q<use m j) (v:Int):
  Rl (GW m (2*j+2+q) v) { t with ob:=t.ob.set x (if (q:Int)<Av m j then { AQ m j with refs:=(AQ m j).refs.set q v } else { AQ m j with data:=(AQ m j).data.set (q-(Av m j).toNat) v }) }/\LH (GW m (2*j+2+q) v):=by
 have hu:=b.use hs;have l:=b.fit j hs;have k:∀ y,Start (GW m (2*j+2+q) v) y↔Start m y:=fun y=>Iff.rfl;obtain ⟨_,C,D,E,F,_⟩:=MX b hs;have key:=XC b hs (t:=q) (by omega) v;have e:Gp (GW m (2*j+2+q) v)=(Gp m).set x (if (q:Int)<Av m j then { AQ m j with refs:=(AQ m j).refs.set q v } else { AQ m j with data:=(AQ m j).data.set (q-(Av m j).toNat) v }):=by
  refine qg A k (fun y n i=>?_) ?_
  ·refine Oz b n (fun c g=>?_) rfl;show (m.wds.set _ _).getD _ 0=_;rw[Cn,Abo];rintro ⟨e,_⟩;exact i (WO b n hs (a:=2*j+2+q) (by omega) (by omega) (by omega) (by omega))
  ·have o:=key j hs 0 (by decide);have r:=key j hs 1 (by decide);obtain ⟨_,_,w,s⟩:=VK (m:=m) (m':=GW m (2*j+2+q) v) (j:=j) (j':=j) r;have u:CA (GW m (2*j+2+q) v) j=CA m j:=by unfold CA; rw[r]
   simp only[Abn] at o;unfold AQ;rw[o,w,s,u];by_cases g:(q:Int)<Av m j
   ·have d:KD (GW m (2*j+2+q) v) (2*j+2) (Av m j).toNat=(KD m (2*j+2) (Av m j).toNat).set q v:=lN (by omega) (by omega) rfl;have f:KD (GW m (2*j+2+q) v) (2*j+2+(Av m j).toNat) (Bp m j).toNat=KD m (2*j+2+(Av m j).toNat) (Bp m j).toNat:=lM (p:=2*j+2+q) (v:=v) (by omega) rfl;rw[Abm g,d,f];rfl
   ·have d:KD (GW m (2*j+2+q) v) (2*j+2) (Av m j).toNat=KD m (2*j+2) (Av m j).toNat:=lM (p:=2*j+2+q) (v:=v) (by omega) rfl;have f:KD (GW m (2*j+2+q) v) (2*j+2+(Av m j).toNat) (Bp m j).toNat=(KD m (2*j+2+(Av m j).toNat) (Bp m j).toNat).set (q-(Av m j).toNat) v:=lN (by omega) (by omega) (by
     show m.wds.set _ _=_;rw[show 2*j+2+q=2*j+2+(Av m j).toNat+(q-(Av m j).toNat) from by omega]);rw[Abo g,d,f];rfl
 exact ⟨h.Aw h.bl (by show t.ob.set x _=_; rw[e,h.ob]) h.born rfl rfl,z⟩
theorem Rl.pins (h:Rl m t) (g:Inv m) (k:Sh m) (i:LH m) {x j:Nat} (hs:Start m j) (n:(F8 m)[x]?=some j) (b:Bool):
  Rl { m with pnw:=F9 1 m.pnw j (if b then 1 else 0) } { t with ob:=t.ob.set x { AQ m j with Ww:=b } }/\LH { m with pnw:=F9 1 m.pnw j (if b then 1 else 0) }:=by
 have l:=k.pl;have p:=hs.1;have hb:(if b then 1 else 0)<2 ^ 1:=by cases b <;> decide
 have e:Gp { m with pnw:=F9 1 m.pnw j (if b then 1 else 0) }=(Gp m).set x { AQ m j with Ww:=b }:=by
  refine qg n (fun y=>Iff.rfl) (fun y d a=>Oz g d (fun c o=>rfl) ?_) ?_
  ·show CG 1 (F9 1 m.pnw j _) y=_;rw[Cc (.inl rfl) hb (Ac9 a)]
  ·show (⟨_,_,_,_,_,_,_,decide (CG 1 (F9 1 m.pnw j (if b then 1 else 0)) j=1)⟩:RO)=_;rw[ER (.inl rfl) hb (by omega)];cases b <;> rfl
 refine ⟨h.Aw h.bl (by show t.ob.set x _=_; rw[e,h.ob]) h.born rfl rfl,fun y d f=>?_⟩;show CG 1 (F9 1 m.pnw j _) y=0;have a:y≠j:=fun e=>f (e ▸ hs);rw[Cc (.inl rfl) hb (Ac9 a)];exact i y d f
theorem Rl.forget (h:Rl m t):Rl { m with fw:=[] } { t with fw:=[] }:=⟨h.bl,h.ob,h.born,fun _=>rfl,rfl,trivial,trivial⟩
theorem Rl.blocks (h:Rl m t) (l:List (Int × Int)) (a:l.length=m.bls.length):Rl { m with bls:=l } { t with bl:=l }:=by
 refine h.Aw rfl ?_ h.born rfl rfl;show t.ob=_;rw[h.ob];unfold Gp F8;show _=(DE { m with bls:=l } 0 (32*l.length)).map _;rw[a]; rfl
theorem LH.blocks (b:LH m) (l:List (Int × Int)) (d:l.length=m.bls.length):LH { m with bls:=l }:=by
 intro y a c;have a:y<32*l.length:=a;refine b y (by omega) fun hs=>c ⟨?_,hs.2⟩;show y<32*l.length;exact a
end
section
local instance qRR:AH:=Ao
variable {J:Aa} {m:HM} {t:RM}
def Dw (J:Aa) (s:Bv) (l:List Int):Prop:=s.2.1=l.length/\(l≠[] -> ∃ b c,s=(some ⟨b,0,none⟩,l.length,c)/\J[b]?=some (.cells (Bm l) Ak true)) /\ ∀ a,s.1=some a -> ∃ cs T w,J[a.block]?=some (.cells cs T w)/\a.off<=cs.length
def hs (s:Bv):List Nat:=match s.1 with
 | some a=>[a.block]
 | none=>[]
theorem BQ {s:Bv} {b:Nat}:b ∈ hs s ↔ ∃ a,s.1=some a/\a.block=b:=by
 unfold hs;cases s.1 with
 | none=>simp
 | some a=>simp[eq_comm]
def Bu (o:RO) (p:Bv × Bv):List Value:=[qIi o.addr,qIi o.id,qIi o.r,qIi o.d,qIi o.k,.slice p.1.1 p.1.2.1 p.1.2.2,.slice p.2.1 p.2.2.1 p.2.2.2,.bool o.Ww]
def DP:List RO->List (Bv × Bv)->List Value
 | o::l,p::om=>Bu o p++DP l om
 | _,_=>[]
theorem Ou:∀ (l:List RO) (om:List (Bv × Bv)),om.length=l.length->(DP l om).length=l.length*8
 | [],[],_=>rfl
 | [],p::om,h=>by simp at h
 | o::l,[],h=>by simp at h
 | o::l,p::om,h=>by
   have:=Ou l om (by simpa using h);simp[DP,Bu,this]; omega
theorem gj:∀ (l:List RO) (om:List (Bv × Bv)) (x:Nat) (h:x<l.length) (a:x<om.length) (q:Nat),q<8->(DP l om)[x*8+q]?=(Bu l[x] om[x])[q]?
 | [],om,x,h,_,_,_=>by simp at h
 | o::l,[],x,_,a,_,_=>by simp at a
 | o::l,p::om,0,h,a,q,b=>by
   simp only[DP,Adw,IN,Afu];rw[AT (by simp[Bu]; omega)]
 | o::l,p::om,x+1,h,a,q,b=>by
   have c:=gj l om x (by simpa using h) (by simpa using a) q b;simp only[DP,Af9];rw[Acr (by simp[Bu]; omega),show (x+1)*8+q-(Bu o p).length=x*8+q from by simp[Bu]; omega,c]
def aw (J:Aa) (s:Bv) (l:List (Int × Int)):Prop:=Cq Z3 2 J s l.length (CS l)\/(l=[] /\ ∃ b cs T w,s=(some ⟨b,0,some 0⟩,0,0)/\J[b]?=some (.cells cs T w))
theorem aw.Aw {J':Aa} {s:Bv} {l:List (Int × Int)} (h:aw J s l) (hs:∀ a,s.1=some a->J'[a.block]?=J[a.block]?):aw J' s l:=by
 rcases h with h | ⟨h0,b,cs,T,w,rfl,c⟩
 ·exact .inl (h.Aw hs)
 ·exact .inr ⟨h0,b,cs,T,w,rfl,(hs _ rfl).trans c⟩
theorem aw.form {s:Bv} {l:List (Int × Int)} (h:aw J s l):s=(s.1,l.length,l.length):=by
 rcases h with h | ⟨rfl,b,cs,T,w,rfl,a⟩
 ·exact h.form
 ·rfl
theorem aw.sl {s:Bv} {l:List (Int × Int)} (h:aw J s l) {x:Nat} (a:x<l.length):Cq Z3 2 J s l.length (CS l):=by
 rcases h with h | ⟨rfl,_⟩
 ·exact h
 ·simp at a
structure RI where
 hb:Nat
 bs:Bv
 os:Bv
 fs:Bv
 om:List (Bv × Bv)
def RI.l (i:RI):List Nat:=i.hb::(hs i.bs++(hs i.os++(hs i.fs++i.om.flatMap fun p=>hs p.1++hs p.2)))
structure JH (J:Aa) (i:RI) (t:RM):Prop where
 hp:J[i.hb]?=some (.cells [.slice i.bs.1 i.bs.2.1 i.bs.2.2,.slice i.os.1 i.os.2.1 i.os.2.2,.slice i.fs.1 i.fs.2.1 i.fs.2.2,qIi t.born] Db true)
 bl:Cq As 2 J i.bs t.bl.length (CS t.bl)
 ob:Cq Ab 8 J i.os t.ob.length (DP t.ob i.om)
 fw:aw J i.fs t.fw
 ol:i.om.length=t.ob.length
 inn:∀ (x:Nat) (h:x<t.ob.length) (h':x<i.om.length),Dw J i.om[x].1 t.ob[x].refs/\Dw J i.om[x].2 t.ob[x].data
 nd:i.l.Nodup
 lt:∀ j ∈ i.l,j<J.length
theorem Dw.Aw {J':Aa} {s:Bv} {l:List Int} (h:Dw J s l) (hs:∀ b ∈ hs s,J'[b]?=J[b]?):Dw J' s l:=by
 refine ⟨h.1,fun g=>?_,fun a d=>?_⟩
 ·obtain ⟨b,c,rfl,f⟩:=h.2.1 g;exact ⟨b,c,rfl,(hs b (BQ.2 ⟨_,rfl,rfl⟩)).trans f⟩
 ·obtain ⟨cs,T,w,h1,e⟩:=h.2.2 a d;exact ⟨cs,T,w,(hs _ (BQ.2 ⟨a,d,rfl⟩)).trans h1,e⟩
theorem RI.LK (i:RI):i.hb ∈ i.l:=Ac0
theorem RI.zo (i:RI) {b:Nat} (h:b ∈ hs i.bs):b ∈ i.l:=Abx _ (Aag.2 (.inl h))
theorem RI.z9 (i:RI) {b:Nat} (h:b ∈ hs i.os):b ∈ i.l:=Abx _ (Aag.2 (.inr (Aag.2 (.inl h))))
theorem RI.zu (i:RI) {b:Nat} (h:b ∈ hs i.fs):b ∈ i.l:=Abx _ (Aag.2 (.inr (Aag.2 (.inr (Aag.2 (.inl h))))))
theorem RI.Js (i:RI) {b x:Nat} (a:x<i.om.length) (h:b ∈ hs i.om[x].1\/b ∈ hs i.om[x].2):b ∈ i.l:=
 Abx _ (Aag.2 (.inr (Aag.2 (.inr (Aag.2 (.inr (Afk.2 ⟨_,Ac4 a,Aag.2 h⟩)))))))
theorem JH.Aw {J':Aa} {i:RI} (h:JH J i t) (hs:∀ j ∈ i.l,J'[j]?=J[j]?) (e:J.length<=J'.length):JH J' i t where
 hp:=(hs _ i.LK).trans h.hp
 bl:=h.bl.Aw fun a c=>hs _ (i.zo (BQ.2 ⟨a,c,rfl⟩))
 ob:=h.ob.Aw fun a c=>hs _ (i.z9 (BQ.2 ⟨a,c,rfl⟩))
 fw:=h.fw.Aw fun a c=>hs _ (i.zu (BQ.2 ⟨a,c,rfl⟩))
 ol:=h.ol
 inn:=fun x p q=>⟨(h.inn x p q).1.Aw fun b hb=>hs _ (i.Js q (.inl hb)),(h.inn x p q).2.Aw fun b hb=>hs _ (i.Js q (.inr hb))⟩
 nd:=h.nd
 lt:=fun j d=>Acz (h.lt j d) e
theorem JH.app {i:RI} (h:JH J i t) (τ:Aa):JH (J++τ) i t:=h.Aw (fun j a=>AT (h.lt j a)) (by simp)
abbrev Bk (i:RI):qOi:=some ⟨i.hb,0,none⟩
variable {i:RI}
theorem JH.HI (h:JH J i t):Bd J i.hb 0=some (i.bs.1,t.bl.length,t.bl.length):=by
 have:=h.bl.form;simp only[Bd,CV,h.hp];rw[this]; simp[Ej]
theorem JH.EX (h:JH J i t):Bd J i.hb 1=some (i.os.1,t.ob.length,t.ob.length):=by
 have:=h.ob.form;simp only[Bd,CV,h.hp];rw[this]; simp[Ej]
theorem JH.UH (h:JH J i t):Bd J i.hb 2=some (i.fs.1,t.fw.length,t.fw.length):=by
 have:=h.fw.form;simp only[Bd,CV,h.hp];rw[this]; simp[Ej]
theorem JH.cq (h:JH J i t):Aj .i64 J i.hb 3=some t.born:=by simp[Aj,CV,h.hp,Bl]
theorem Xp {E:TypeId} {sl:Bv} {l:List (Int × Int)} (h:Cq E 2 J sl l.length (CS l)) {x:Nat} (e:x<l.length):∃ b,sl.1=some ⟨b,0,none⟩/\Aj .i64 J b (x*2)=some (l.getD x (0,0)).1/\Aj .i64 J b (x*2+1)=some (l.getD x (0,0)).2/\J[b]?=some (.cells (CS l) E true):=by
 rcases h with ⟨h0,_⟩ | ⟨b,rfl,_,_,a⟩
 ·omega
 ·obtain ⟨c,d⟩:=U7 l x e;rw[Af8] at c d;refine ⟨b,rfl, ?_, ?_,a⟩
  ·simp only[Aj,CV,a,c,AI,Ah]
  ·simp only[Aj,CV,a,d,AI,Ah]
structure tv (J:Aa) (b x:Nat) (o:RO) (p:Bv × Bv):Prop where
 l0:Aj .i64 J b (x*8)=some o.addr
 l1:Aj .i64 J b (x*8+1)=some o.id
 l2:Aj .i64 J b (x*8+2)=some o.r
 l3:Aj .i64 J b (x*8+3)=some o.d
 l4:Aj .i64 J b (x*8+4)=some o.k
 l5:Bd J b (x*8+5)=some (p.1.1,p.1.2.1,p.1.2.2)
 l6:Bd J b (x*8+6)=some (p.2.1,p.2.2.1,p.2.2.2)
 l7:Vu J b (x*8+7)=some o.Ww
theorem JH.obj (h:JH J i t) {x:Nat} (j:x<t.ob.length):∃ b,i.os.1=some ⟨b,0,none⟩/\J[b]?=some (.cells (DP t.ob i.om) Ab true) /\ ∀ (d:x<i.om.length),tv J b x t.ob[x] i.om[x]:=by
 rcases h.ob with ⟨h0,_⟩ | ⟨b,e,_,_,a⟩
 ·omega
 ·refine ⟨b,by rw[e],a,fun d=>?_⟩;have g:=fun q f=>gj t.ob i.om x j d q f;have c:=g 0 (by decide);rw[Abn] at c;constructor
  ·simp only[Aj,CV,a,c]; rfl
  ·simp only[Aj,CV,a,g 1 (by decide)]; rfl
  ·simp only[Aj,CV,a,g 2 (by decide)]; rfl
  ·simp only[Aj,CV,a,g 3 (by decide)]; rfl
  ·simp only[Aj,CV,a,g 4 (by decide)]; rfl
  ·simp only[Bd,CV,a,g 5 (by decide)]; rfl
  ·simp only[Bd,CV,a,g 6 (by decide)]; rfl
  ·simp only[Vu,CV,a,g 7 (by decide)]; rfl
theorem db (k:Nat) (h:JH J i t) (hb:t.bl≠[]):Az (k+1) (Bk i) J=some (.bool true,J):=by
 have:0<t.bl.length:=Aer.2 hb;rw[TD];simp only[bL,AI,Ac7,IS,IN,Abn,h.HI];rw[Aad (by omega)]
theorem Xu (k:Nat) (h:JH J i t) (l:t.ob.length<=5000) (a:Int):∀ (n x f:Nat),x+n=t.ob.length->n<f->EM k f (Bk i) a (x:Int) J=some (match Om (t.ob.drop x) a with | some y=>(.ret,[qIi ((x+y:Nat):Int)],J) | none=>(.exit 0,[],J))
 | 0,x,0,g,d=>by omega
 | 0,x,f+1,g,d=>by
   rw[Lw,Ac5 (by omega)];have q:decide ((x:Int)<((t.ob.length:Nat):Int))=false:=Aac (by omega);simp only[AI,IN,Abn,h.EX,q,By,Om]
 | n+1,x,0,g,d=>by omega
 | n+1,x,f+1,g,d=>by
   have c:x<t.ob.length:=by omega
   have m:=Xu k h l a n (x+1) f (by omega) (by omega);obtain ⟨b,j,_,L⟩:=h.obj c;have L:=L (by rw[h.ol]; exact c);rw[Ac2 c,Lw,Om];have q:decide ((x:Int)<((t.ob.length:Nat):Int))=true:=Aad (by omega);have o:=qSu x t.ob.length (by omega);have p:=wSu x (by omega);simp only[AI,IN,Abn,h.EX,q,IS,o,Aah,j,IT,L.l0,p];by_cases e:t.ob[x].addr=a
   ·rw[Abm e,Ad7.2 e]; simp only[IS,Abn]
   ·rw[Abo e,Acy.2 e];simp only[By,m];cases Om (t.ob.drop (x+1)) a with
    | none=>rfl
    | some y=>simp only[Afs,show x+(y+1)=x+1+y from by omega]
def iw (l:List RO) (a:Int):Int:=match Om l a with
 | some x=>(x:Int)
 | none=>-1
theorem g9 (k:Nat) (c:5000<=k) (h:JH J i t) (hb:t.bl≠[]) (b:t.ob.length<=5000) (a:Int):Ay (k+2) (Bk i) a J=some (qIi (iw t.ob a),J):=by
 have e:=Xu (k+1) h b a t.ob.length 0 (k+1) (by omega) (by omega);rw[Ac6,show ((0:Nat):Int)=0 from rfl] at e;rw[SI];simp only[db k h hb,AI,An,Abr,By,e,iw];cases Om t.ob a with
 | none=>simp only[Aah]
 | some y=>simp only[reduceCtorEq,Abs,Aah,Ey,IN]
theorem uk {l:List RO} {a:Int}:decide (iw l a<0)=(Om l a).isNone:=by
 unfold iw;cases Om l a with
 | none=>rfl
 | some y=>exact Aac (show ¬ (y:Int)<0 by omega)
theorem sD (k:Nat) (b:5000<=k) (h:JH J i t) (hb:t.bl≠[]) (c:t.ob.length<=5000) (a:Int):B5 (k+3) (Bk i) a J=some (qIi (if (Om t.ob a).isSome then 0 else 4),J):=by
 rw[SP];simp only[db (k+1) h hb,AI,An,Abr,By,g9 k b h hb c a,Ah,uk];cases Om t.ob a <;> rfl
end
section
local instance qRS:AH:=Ao
variable {J:Aa} {m:HM} {t:RM} {i:RI}
structure RG (J:Aa) (i:RI) (m:HM) (t:RM):Prop where
 at_:JH J i t
 sim:Rl m t
 inv:Inv m
 inv2:Inv2 m
 wl:m.wds.length=64*m.bls.length
 nb:2<=m.bls.length
 nt:m.bls.length<=64
theorem RG.app (h:RG J i m t) (τ:Aa):RG (J++τ) i m t:=⟨h.at_.app τ,h.sim,h.inv,h.inv2,h.wl,h.nb,h.nt⟩
theorem RG.Aw {J':Aa} (h:RG J i m t) (hs:∀ j ∈ i.l,J'[j]?=J[j]?) (a:J.length<=J'.length):RG J' i m t:=⟨h.at_.Aw hs a,h.sim,h.inv,h.inv2,h.wl,h.nb,h.nt⟩
theorem RG.bn (h:RG J i m t):t.bl.length=m.bls.length:=by rw[h.sim.bl]
theorem RG.ne (h:RG J i m t):t.bl≠[]:=by
 intro e;have:=h.bn;have:=h.nb;rw[e] at *;simp at *;omega
theorem RG.ol (h:RG J i m t):t.ob.length<=2048:=by
 rw[h.sim.ob];have:=Nn m 0 (32*m.bls.length);have:=h.nt;unfold Gp F8;rw[Aee];omega
theorem LD (k:Nat) (h:RG J i m t):Az (k+1) (Bk i) J=some (.bool true,J):=db k h.at_ h.ne
theorem Dw.pE {s:Bv} {l:List Int} (h:Dw J s l) {x:Nat} (a:x<l.length):∃ b,s.1=some ⟨b,0,none⟩/\Aj .i64 J b x=some (l.getD x 0)/\J[b]?=some (.cells (Bm l) Ak true):=by
 obtain ⟨b,c,rfl,d⟩:=h.2.1 (fun e=>by rw[e] at a; simp at a);exact ⟨b,rfl,nL d a,d⟩
structure Found (J:Aa) (i:RI) (m:HM) (t:RM) (a:Int) (x j b:Nat) (p:Bv × Bv):Prop where
 idx:iw t.ob a=(x:Int)
 idx':Om t.ob a=some x
 xl:x<t.ob.length
 st:Start m j
 e:a=((2*j:Nat):Int)
 all:(F8 m)[x]?=some j
 ob:t.ob[x]?=some (AQ m j)
 os:i.os.1=some ⟨b,0,none⟩
 cell:J[b]?=some (.cells (DP t.ob i.om) Ab true)
 om:i.om[x]?=some p
 ld:tv J b x (AQ m j) p
 rs:Dw J p.1 (AQ m j).refs
 ds:Dw J p.2 (AQ m j).data
theorem RG.found (h:RG J i m t) {a:Int} (k:Ax m a=true):∃ x j b p,Found J i m t a x j b p:=by
 obtain ⟨h1,r⟩:=h.sim.idx a;cases e:Om t.ob a with
 | none=>rw[r e] at k; cases k
 | some x=>
   obtain ⟨d,j,s,u,_,v,f⟩:=h1 x e;obtain ⟨b,o,q,L⟩:=h.at_.obj d;have c:x<i.om.length:=by rw[h.at_.ol]; exact d
   have g:t.ob[x]=AQ m j:=by rw[Aaj d] at f; exact Ad8 f
   have L:=L c;rw[g] at L;obtain ⟨l,n⟩:=h.at_.inn x d c;rw[g] at l n;exact ⟨x,j,b,i.om[x],by unfold iw; rw[e],e,d,s,u,v,f,o,q,Aaj c,L,l,n⟩
theorem RG.lost (h:RG J i m t) {a:Int} (b:Ax m a=false):iw t.ob a = -1/\Om t.ob a=none:=by
 have:=h.sim.has a;rw[b] at this;unfold iw;cases c:Om t.ob a with
 | none=>exact ⟨rfl,rfl⟩
 | some x=>rw[c] at this; cases this
theorem L9 (k:Nat) (b:5000<=k) (h:RG J i m t) (a:Int):Ay (k+2) (Bk i) a J=some (qIi (iw t.ob a),J):=g9 k b h.at_ h.ne (by have:=h.ol; omega) a
theorem Us (k:Nat) (b:5000<=k) (h:RG J i m t) (a:Int):B5 (k+3) (Bk i) a J=some (qIi (if Ax m a then 0 else 4),J):=by
 rw[sD k b h.at_ h.ne (by have:=h.ol; omega) a,h.sim.has]
theorem ai (k:Nat) (d:5000<=k) (h:RG J i m t) (a:Int):CL (k+3) (Bk i) a J=some (.bool (Ax m a),J):=by
 rw[Vc];simp only[L9 k d h a,AI,Ah];cases c:Ax m a with
 | true=>
   obtain ⟨x,j,b,p,F⟩:=h.found c;rw[F.idx,Aad (by omega)]
 | false=>rw[(h.lost c).1]; rfl
theorem ne4:((4:Int) != 0)=true:=rfl
theorem su (k:Nat) (e:5000<=k) (h:RG J i m t) (a:Int):H9 (k+4) (Bk i) a J=some (if Ax m a then .tuple #[qIi (m.wds.getD a.toNat 0),qIi 0] else .tuple #[qIi 0,qIi 4],J):=by
 rw[SH];have c:=L9 (k+1) (by omega) h a;simp only[Us k e h a,AI,Ah];cases d:Ax m a with
 | true=>
   obtain ⟨x,j,b,p,F⟩:=h.found d;have f:=F.xl;simp only[Aah,Abt,By,AI,IN,h.at_.EX,c,Ah,F.idx];rw[Abm (by omega)];simp only[F.os,AI,IT,IN,F.ld.l1];rw[F.e,IT]; rfl
 | false=>simp only[Abz,Abs,ne4,IS]
theorem ja {J:Aa} {cs vs:List Value} {T:TypeId} (h:vs.length=cs.length):H0 (J++[.cells cs T true]) J.length 0 vs=some (J++[.cells vs T true]):=by
 simp only[H0,Abv];rw[Abm (by omega)];simp[Ba,h]
theorem Ez (J:Aa) (T:TypeId) (a b c x y z:Value):H0 (J++[.cells [a,b,c] T true]) J.length 0 [x,y,z]=some (J++[.cells [x,y,z] T true]):=ja rfl
theorem X5 (J:Aa) (T:TypeId) (a b c d e f g h x y z u v w p q:Value):H0 (J++[.cells [a,b,c,d,e,f,g,h] T true]) J.length 0 [x,y,z,u,v,w,p,q]=some (J++[.cells [x,y,z,u,v,w,p,q] T true]):=ja rfl
def o6 (m:HM) (j:Nat):Value:=.agg #[qIi (Av m j),qIi (Bp m j),qIi (CA m j)]
def oz:Value:=.agg #[qIi 0,qIi 0,qIi 0]
theorem sv (k:Nat) (f:5000<=k) (h:RG J i m t) (a:Int):∃ τ,Gw (k+4) (Bk i) a J=some (.tuple #[if Ax m a then o6 m (a.toNat/2) else oz,qIi (if Ax m a then 0 else 4)],J++τ):=by
 rw[SK];simp only[Ae];have h1:=h.app [Au.cells [qIi (0:Int),qIi (0:Int),qIi (0:Int)] Ad true];have c:=L9 (k+1) (by omega) h1 a;simp only[Us k f h1 a,AI,Ah];have d:∀ x y z:Value,Nh (J++[Au.cells [x,y,z] Ad true]) J.length 0 3=some [x,y,z]:=fun x y z=>by simp[Nh]
 cases e:Ax m a with
 | true=>
   obtain ⟨x,j,b,p,F⟩:=h1.found e;have g:=F.xl;refine ⟨[Au.cells [qIi (Av m j),qIi (Bp m j),qIi (CA m j)] Ad true], ?_⟩;simp only[Aah,Abt,By,AI,IN,h1.at_.EX,c,Ah,F.idx];rw[Abm (by omega)];simp only[F.os,AI,IT,IN,Adt,Nat.reduceAdd,F.ld.l2,F.ld.l3,F.ld.l4,Ez,d,Lb];rw[F.e,IT,show 2*j/2=j from by omega]; rfl
 | false=>
   refine ⟨[Au.cells [qIi 0,qIi 0,qIi 0] Ad true], ?_⟩;simp only[Abz,Abs,ne4,IS,Ez,AI,d,Lb];rfl
def K6 (m:HM) (a x:Int) (data:Bool):Int × Int:=if (BB m a x data).2=0 then (m.wds.getD (BB m a x data).1.toNat 0,0) else (0,(BB m a x data).2)
theorem Wy (k:Nat) (h:RG J i m t):CC (k+2) (Bk i) J=some (qIi ((m.bls.length:Nat):Int),J):=by
 rw[Rz];simp only[LD k h,AI,An,Abr,By,IN,Abn,h.at_.HI,h.bn]
def Cb (m:HM) (b:Int):Int:=if 0<=b/\b<(m.bls.length:Int) then (m.bls.getD b.toNat (0,0)).1 else -1
def MJ (m:HM) (b:Int):Int:=if 0<=b/\b<(m.bls.length:Int) then (m.bls.getD b.toNat (0,0)).2 else -1
theorem Yy (k:Nat) (h:RG J i m t) (b:Int):Ct (k+2) (Bk i) b J=some (qIi (Cb m b),J):=by
 rw[SM];simp only[LD k h,AI,An,Abr,By];unfold Cb;by_cases h0:b<0
 ·rw[Aad h0,Abo (by omega)];simp only[IS,AI]
 rw[Aac h0];simp only[By,AI,IN,Abn,h.at_.HI,h.bn];by_cases h1:b>=(m.bls.length:Int)
 ·have q:(0<=b/\b<(m.bls.length:Int))=False:=Aig (by omega);simp only[Aad h1,q,Abs,IS]
 rw[Aac h1,Abm (by omega),Abm (by omega)];obtain ⟨n,rfl⟩:∃ n:Nat,b=(n:Int):=⟨b.toNat,by omega⟩;obtain ⟨q,e,a,c,_⟩:=Xp h.at_.bl (x:=n) (by rw[h.bn]; omega);rw[h.sim.bl] at a;simp only[By,e,AI,IT,IN,a]
theorem sx (k:Nat) (h:RG J i m t) (b:Int):Fa (k+2) (Bk i) b J=some (qIi (MJ m b),J):=by
 rw[SL];simp only[LD k h,AI,An,Abr,By];unfold MJ;by_cases h0:b<0
 ·rw[Aad h0,Abo (by omega)];simp only[IS,AI]
 rw[Aac h0];simp only[By,AI,IN,Abn,h.at_.HI,h.bn];by_cases h1:b>=(m.bls.length:Int)
 ·have q:(0<=b/\b<(m.bls.length:Int))=False:=Aig (by omega);simp only[Aad h1,q,Abs,IS]
 rw[Aac h1,Abm (by omega),Abm (by omega)];obtain ⟨n,rfl⟩:∃ n:Nat,b=(n:Int):=⟨b.toNat,by omega⟩;obtain ⟨q,e,c,a,_⟩:=Xp h.at_.bl (x:=n) (by rw[h.bn]; omega);rw[h.sim.bl] at a;simp only[By,e,AI,IT,IN,a]
end
section
local instance qRT:AH:=Ao
variable {J:Aa} {m:HM} {t:RM} {i:RI}
theorem Xy (k:Nat) (a b c:Int) (J:Aa):Z6 (IG (k+1) a b c J) J (.bool (valid a b c)):=by
 simp only[Z6,XX,Ae,Bt,IN,Ach,Acj,AI,Ah,kQ];by_cases l:a<0\/a>15\/b<0\/b>200
 ·have h1:(bif bif bif decide (a<0) then true else decide (a>15) then true else decide (b<0) then true else decide (b>200))=true:=by
   simp[Ahw]; omega
  have d:valid a b c=false:=by simp[valid]; omega
  rw[h1,d];exact ⟨_,rfl⟩
 ·have h1:(bif bif bif decide (a<0) then true else decide (a>15) then true else decide (b<0) then true else decide (b>200))=false:=by
   simp[Ahw]; omega
  rw[h1];simp only[By];by_cases h0:c=0
  ·subst h0;have d:valid a b 0=true:=by simp[valid]; omega
   rw[d];exact ⟨_,rfl⟩
  have h:(c == 0)=false:=by simpa using h0
  by_cases f:c=3
  ·subst f;have d:valid a b 3=true:=by simp[valid]; omega
   rw[d];exact ⟨_,rfl⟩
  have i:(c == 3)=false:=by simpa using f
  simp only[h,i,By,AI,Aah,oF];by_cases g:c=1
  ·subst g;have d:valid a b 1=decide (a>=1):=by rw[valid,Ag1]; simp; omega
   rw[d];simp only[Ahy,IS,Bt,Ach,AI,Ah];exact ⟨_,rfl⟩
  have e:(c == 1)=false:=by simpa using g
  by_cases h5:c=2
  ·subst h5;have d:valid a b 2=decide (a>=2):=by rw[valid,Ag1]; simp; omega
   rw[d];simp only[e,By,Ahy,IS,Bt,Ach,AI,Ah];exact ⟨_,rfl⟩
  have j:(c == 2)=false:=by simpa using h5
  have d:valid a b c=false:=by simp[valid]; omega
  simp only[e,j,By,d];exact ⟨_,rfl⟩
theorem JD (k:Nat) (a b c:Int) (J:Aa):Z6 (Ck (k+2) a b c J) J (qIi (words a b c)):=by
 unfold Z6;rw[XY];simp only[Ae,Bt,IN,Ach,Acj,AI,Ah];rw[(Xy _ _ _ _ _).eq];simp only[AI,An,G9,Ach,Acj,Ah];unfold words;rcases Bool.eq_false_or_eq_true (valid a b c) with d | d
 rotate_left
 ·simp only[d,Ac7,IS,By,Aae];exact ⟨_,rfl⟩
 ·simp only[d,Abr,IS,By,Aae];simp[valid] at d;simp only[show ((2:Int)=0)=False from by simp,Abs];refine ⟨_,Ad1 some (Ahj (Ad1 (Value.int .i64) ?_) rfl)⟩;simp only[Ar];have e:IntKind.i64.wrap (2+a)=2+a:=by rw[Afa]; omega
  have f:IntKind.i64.wrap (2+a+b)=2+a+b:=by rw[Afa]; omega
  rw[e,f,Agj (by omega),Afa];omega
theorem PT {E:TypeId} {s by_:Nat} {z:Value} (hs:HR P E=some s) (hb:bytesOf P E=some by_) (u:FR P E=some z) (o:Gn z=false) (p:z.cells.size=s) (l:0<s) (f:0<by_) (i:by_<=1000)
  (J τ:Aa) (sl:Bv) (n:Nat) (row:List Value) (n' c:Nat) (b:List Value) (T:TypeId) (r:n+n'<=1000000) (k:0<n') (t:b.length=n'*s) (m:Cq E s (J++τ) sl n row) (j:∀ a,sl.1=some a->J.length<=a.block):
  ∃ s' d,AG P E sl (some ⟨(J++τ).length,0,none⟩,n',c) (J++τ++[.cells b T true])=some (s',J++d)/\Cq E s (J++d) s' (n+n') (row++b)/\(∀ a,s'.1=some a->J.length<=a.block):=by
 obtain ⟨s',J',e,g,h⟩:=NF hs hb u o p l f i (J++τ) sl n row n' c b T r k t m;obtain ⟨⟨d,rfl⟩,q⟩:=g.behind j;exact ⟨s',d,e,h,q⟩
theorem Cq.ints {lo:Nat} {s:Bv} {l:List Int} (h:Cq Ak 1 J s l.length (Bm l)) (f:∀ a,s.1=some a->lo<=a.block) (c:l=[]->s=(none,0,0)):C8 lo J s l:=by
 by_cases e:l=[]
 ·exact .inl ⟨e,c e⟩
 ·rcases h with ⟨h1,_,_⟩ | ⟨b,rfl,_,_,d⟩
  ·exact absurd (Ad6.1 h1) e
  ·exact .inr ⟨b,f _ rfl,rfl,e,d⟩
theorem ck (J τ:Aa) (s:Bv) (l:List Int) (x:Int) (f:l.length<=900000) (hs:C8 J.length (J++τ) s l):
  ∃ s' b,AG P Ak s (some ⟨(J++τ).length,0,none⟩,1,1) (J++τ++[.cells [qIi x] Ak true])=some (s',J++b)/\C8 J.length (J++b) s' (l++[x]):=by
 obtain ⟨s',b,e,h1,c⟩:=PT vE ub ta rfl rfl (by decide) (by decide) (by decide) J τ s l.length (Bm l) 1 1 [qIi x] Ak (by omega) (by decide) rfl hs.sl (fun a d=>(hs.ge a d).1);refine ⟨s',b,e,Cq.ints ?_ c (fun e=>by simp at e)⟩;rw[KM,Abe];exact h1
theorem RG.drop (h:RG J i m t) {x:Nat} (c:x<t.ob.length):∃ j,(F8 m)[x]?=some j/\x<(F8 m).length/\Start m j/\t.ob[x]?=some (AQ m j):=by
 have b:t.ob.length=(F8 m).length:=by rw[h.sim.ob]; simp[Gp]
 have a:x<(F8 m).length:=by omega
 refine ⟨(F8 m)[x],Aaj a,a,DO.1 (Ac4 a), ?_⟩;rw[h.sim.ob];unfold Gp;rw[Ad5,Aaj a]; rfl
theorem RG.Aay (h:RG J i m t):t.ob.length=(F8 m).length:=by rw[h.sim.ob]; simp[Gp]
structure At (J:Aa) (i:RI) (m:HM) (t:RM) (x j b:Nat) (p:Bv × Bv):Prop where
 st:Start m j
 all:(F8 m)[x]?=some j
 xl:x<(F8 m).length
 os:i.os.1=some ⟨b,0,none⟩
 cell:J[b]?=some (.cells (DP t.ob i.om) Ab true)
 om:i.om[x]?=some p
 ld:tv J b x (AQ m j) p
 lt:j<2048
 dr:(F8 m).drop x=j::(F8 m).drop (x+1)
theorem RG.ath (h:RG J i m t) {x:Nat} (c:x<t.ob.length):∃ j b p,At J i m t x j b p:=by
 obtain ⟨j,h1,d,e,f⟩:=h.drop c;obtain ⟨b,g,k,L⟩:=h.at_.obj c;have a:x<i.om.length:=by rw[h.at_.ol]; exact c
 have l:t.ob[x]=AQ m j:=by rw[Aaj c] at f; exact Ad8 f
 have L:=L a;rw[l] at L;have:=e.1;have:=h.nt;refine ⟨j,b,i.om[x],e,h1,d,g,k,Aaj a,L,by omega, ?_⟩;rw[Ac2 d];rw[Aaj d] at h1;rw[Ad8 h1]
def xd (L:List Nat) (b:Int):List Nat:=L.filter fun j=>decide (((2*j/64:Nat):Int)=b)
theorem Pe (k:Nat) (h:RG J i m t) (bk:Int):∀ (n x f:Nat) (τ:Aa) (s:Bv),x+n=t.ob.length->C8 J.length (J++τ) s (C7 (xd ((F8 m).take x) bk))->n<f ->
  ∃ B s',DU (k+1) f (Bk i) bk s (x:Int) (J++τ)=some (.exit 0,[.slice s'.1 s'.2.1 s'.2.2],J++B)/\C8 J.length (J++B) s' (C7 (xd (F8 m) bk))
 | 0,x,0,τ,s,o,hs,l=>by omega
 | 0,x,f+1,τ,s,o,hs,l=>by
   have G:=h.Aay;have a:=h.app τ;rw[HA];have q:decide ((x:Int)<((t.ob.length:Nat):Int))=false:=Aac (by omega);rw[Ado (by omega)] at hs;exact ⟨τ,s,by simp only[LD k a,AI,An,IS,IN,a.at_.EX,q,By],hs⟩
 | n+1,x,0,τ,s,o,hs,l=>by omega
 | n+1,x,f+1,τ,s,o,hs,l=>by
   have E:=h.ol;have r:x<t.ob.length:=by omega
   have a:=h.app τ;obtain ⟨j,b,p,A⟩:=a.ath r;have D:=A.lt;have q:decide ((x:Int)<((t.ob.length:Nat):Int))=true:=Aad (by omega);have w:=qSu x t.ob.length (by omega);have y:=wSu x (by omega);have z:Ar ((((2*j:Nat):Int)).tdiv 64)=((2*j/64:Nat):Int):=by rw[show (((2*j:Nat):Int)).tdiv 64=((2*j/64:Nat):Int) from rfl]; exact Ai (by unfold AO; omega)
   have v:Aj .i64 (J++τ) b (x*8)=some ((2*j:Nat):Int):=A.ld.l0;have c:xd ((F8 m).take (x+1)) bk=xd ((F8 m).take x) bk++(if ((2*j/64:Nat):Int)=bk then [j] else []):=by
    rw[Age,A.all];unfold xd;rw[Afl];congr 1;show List.filter _ [j]=_;by_cases e:((2*j/64:Nat):Int)=bk
    ·rw[Abm e,Aeq,Abm (Aad e),List.filter_nil]
    ·rw[Abo e,Aeq,Abo (by rw[Adu]; exact e),List.filter_nil]
   by_cases e:((2*j/64:Nat):Int)=bk
   ·obtain ⟨s1,F,C,i1⟩:=ck J τ s _ ((2*j:Nat):Int) (by
     have:=Ae2 (fun j=>decide (((2*j/64:Nat):Int)=bk)) ((F8 m).take x);simp[C7,xd] at this ⊢; omega) hs;have d:AG P Ak (s.1,s.2.1,s.2.2) (some ⟨(J++τ).length,0,none⟩,1,1) (J++τ++[.cells [qIi ((2*j:Nat):Int)] Ak true])=_:=C;obtain ⟨u,s2,g,i2⟩:=Pe k h bk n (x+1) f F s1 (by omega) (by
     rw[c,Abm e];simpa [C7] using i1) (by omega);refine ⟨u,s2, ?_,i2⟩;rw[HA];simp only[LD k a,AI,An,IS,IN,Abn,a.at_.EX,q,w,Aah,A.os,IT,v,show ((64:Int)=0)=False from by decide,Abs,z,Ad7.2 e,Ae,d,HS,y];exact g
   ·obtain ⟨u,s2,g,i2⟩:=Pe k h bk n (x+1) f τ s (by omega) (by
     rw[c,Abo e,Abu];exact hs) (by omega);refine ⟨u,s2, ?_,i2⟩;rw[HA];simp only[LD k a,AI,An,IS,IN,Abn,a.at_.EX,q,w,Aah,A.os,IT,v,show ((64:Int)=0)=False from by decide,Abs,z,Acy.2 e,By,HS,y];exact g
def HC (m:HM) (b:Int):List Nat:=if 0<=b/\b<(m.bls.length:Int) then DE m (32*b.toNat) 32 else []
theorem zv (m:HM) (b:Int):xd (F8 m) b=HC m b:=by
 unfold HC;split
 ·rename_i hb;refine WA ((LO m).filter _) ((List.pairwise_lt_range' (step:=1) (by decide)).filter _) fun a=>?_;unfold xd;rw[Adz,DO,Adu];show _↔a ∈ DE m (32*b.toNat) 32;rw[LM];constructor
  ·rintro ⟨h1,c⟩; exact ⟨by omega,by omega,h1.2⟩
  ·rintro ⟨h1,c,d⟩; exact ⟨⟨by omega,d⟩,by omega⟩
 ·rename_i hb;unfold xd;rw[List.filter_eq_nil_iff];intro j e;have:=(DO.1 e).1;rw[Adu];omega
theorem kU (k:Nat) (c:5000<=k) (h:RG J i m t) (b:Int):∃ τ s,GM (k+2) (Bk i) b J=some (.slice s.1 s.2.1 s.2.2,J++τ)/\C8 J.length (J++τ) s (C7 (HC m b)):=by
 have a:=h.ol;obtain ⟨τ,s,e,hs⟩:=Pe k h b t.ob.length 0 (k+1) [] (none,0,0) (by omega) (.inl ⟨rfl,rfl⟩) (by omega);rw[Abu,show ((0:Nat):Int)=0 from rfl] at e;rw[zv] at hs;refine ⟨τ,s, ?_,hs⟩;rw[Q9];simp only[e,AI,Aah,HS]
theorem g7 (k:Nat) (h:RG J i m t) (id:Int):∀ (n x f:Nat),x+n=t.ob.length->n<f->Gt k f (Bk i) id (x:Int) J=some (match xx (t.ob.drop x) id with | some a=>(.ret,[qIi a,qIi 0],J) | none=>(.exit 0,[],J))
 | 0,x,0,g,d=>by omega
 | 0,x,f+1,g,d=>by
   rw[MP,Ac5 (by omega)];have q:decide ((x:Int)<((t.ob.length:Nat):Int))=false:=Aac (by omega);simp only[AI,IN,h.at_.EX,q,By,xx]
 | n+1,x,0,g,d=>by omega
 | n+1,x,f+1,g,d=>by
   have l:=h.ol;have c:x<t.ob.length:=by omega
   have o:=g7 k h id n (x+1) f (by omega) (by omega);obtain ⟨b,j,_,L⟩:=h.at_.obj c;have L:=L (by rw[h.at_.ol]; exact c);rw[Ac2 c,MP,xx];have q:decide ((x:Int)<((t.ob.length:Nat):Int))=true:=Aad (by omega);have p:=qSu x t.ob.length (by omega);have r:=wSu x (by omega);simp only[AI,IN,Abn,h.at_.EX,q,IS,p,Aah,j,IT,L.l0,L.l1,r];by_cases e:t.ob[x].id=id
   ·rw[Abm e,Ad7.2 e]; simp only[IS]
   ·rw[Abo e,Acy.2 e];simp only[By,o]
theorem zG (k:Nat) (c:5000<=k) (h:RG J i m t) (id:Int):Ia (k+2) (Bk i) id J=some (match getM m.pl id with | some a=>.tuple #[qIi a,qIi 0] | none=>.tuple #[qIi 0,qIi 4],J):=by
 have b:=h.ol;have e:=g7 (k+1) h id t.ob.length 0 (k+1) (by omega) (by omega);rw[Ac6,h.sim.at h.inv,show ((0:Nat):Int)=0 from rfl] at e;rw[Wc];simp only[LD k h,AI,An,Abr,By,e];cases getM m.pl id with
 | none=>simp only[Aah]
 | some a=>simp only[reduceCtorEq,Abs,Aah,UL]
end
section
local instance qRU:AH:=Ao
variable {J:Aa} {m:HM} {t:RM} {i:RI}
theorem Xw (h:RG J i m t) {b:Nat} (hb:b<m.bls.length):∃ q,i.bs.1=some ⟨q,0,none⟩/\Aj .i64 J q (b*2)=some (m.bls.getD b (0,0)).1/\Aj .i64 J q (b*2+1)=some (m.bls.getD b (0,0)).2/\J[q]?=some (.cells (CS m.bls) As true):=by
 obtain ⟨q,e,c,d,a⟩:=Xp h.at_.bl (x:=b) (by rw[h.bn]; exact hb);rw[h.sim.bl] at c d a;exact ⟨q,e,c,d,a⟩
theorem Xv (k:Nat) (h:RG J i m t) {b:Nat} (hb:b<m.bls.length) (a:(m.bls.getD b (0,0)).1=2):∀ (f n:Nat),m.bls.length<=b+n+f->n<=m.bls.length->DD k (f+1) (Bk i) (b:Int) (n:Int) J=some (.exit 0,[qIi (JV m b f n:Int)],J)
 | 0,n,h1,l=>by
   have g:=h.nt;rw[Lx,JV];have w:Ar ((b:Int)+(n:Int))=((b+n:Nat):Int):=by rw[Ai (by unfold AO; omega)]; omega
   have q:decide (((b+n:Nat):Int)<((m.bls.length:Nat):Int))=false:=Aac (by omega);simp only[AI,IN,Abn,h.at_.HI,h.bn,w,q,By]
 | f+1,n,h1,l=>by
   have g:=h.nt;rw[Lx,JV];have w:Ar ((b:Int)+(n:Int))=((b+n:Nat):Int):=by rw[Ai (by unfold AO; omega)]; omega
   have s:=wSu n (by omega);simp only[AI,IN,Abn,h.at_.HI,h.bn,w,a,true_and];by_cases d:b+n<m.bls.length
   ·obtain ⟨q,e,o,_,_⟩:=Xw h d;have j:decide (((b+n:Nat):Int)<((m.bls.length:Nat):Int))=true:=Aad (by omega);have r:(0<=((b+n:Nat):Int)/\((b+n:Nat):Int)<((m.bls.length:Nat):Int))=True:=Adk (by omega);simp only[j,IS,r,Aah,e,AI,IT,IN,o];by_cases c:(m.bls.getD (b+n) (0,0)).1=3
    ·rw[Abm ⟨d,c⟩,Ad7.2 c];simp only[IS,s];exact Xv k h hb a f (n+1) (by omega) (by omega)
    ·rw[Abo (fun h=>c h.2),Acy.2 c];simp only[By]
   ·have j:decide (((b+n:Nat):Int)<((m.bls.length:Nat):Int))=false:=Aac (by omega);have p:(b+n<m.bls.length/\(m.bls.getD (b+n) (0,0)).1=3)=False:=Aig (fun h=>d h.1);simp only[j,By,AI,p,Abs]
def ji (m:HM) (b:Nat):Nat:=if (m.bls.getD b (0,0)).1=1 then 1 else if (m.bls.getD b (0,0)).1=2 then LA m b else 0
theorem sy (k:Nat) (l:100<=k) (h:RG J i m t) {b:Nat} (hb:b<m.bls.length):Gx (k+1) (Bk i) (b:Int) J=some (qIi (ji m b:Int),J):=by
 have f:=h.nt;obtain ⟨q,e,g,_,_⟩:=Xw h hb;have j:=qSu b m.bls.length (by omega);rw[SN];simp only[AI,IN,Abn,h.at_.HI,h.bn,j,Aah,e,IT,g];unfold ji;by_cases h1:(m.bls.getD b (0,0)).1=1
 ·rw[Abm h1,Ad7.2 h1]; rfl
 rw[Abo h1,Acy.2 h1];by_cases a:(m.bls.getD b (0,0)).1=2
 ·rw[Abm a];have d:=Xv k h hb a (k-1) 1 (by omega) (by omega);rw[show k-1+1=k from by omega] at d;have c:DD k k (Bk i) (b:Int) 1 J=_:=d;simp only[a,Abt,By,c,AI,Aah,Ey];rw[WC m b (k-1) m.bls.length 1 (by omega) (by omega)]; rfl
 ·rw[Abo a];simp only[By,Adp.2 a,IS];rfl
theorem Z4 (r d k:Int):0<=words r d k/\words r d k<=218:=Oo r d k
theorem cS (k:Nat) (r d c:Int) (J:Aa):∃ τ,EU (k+3) r d c J=some (qIi ((words r d c+63).tdiv 64),J++τ):=by
 obtain ⟨τ,e⟩:=JD k r d c (J++[Au.cells [qIi r,qIi d,qIi c] Ad true]);have hw:=Z4 r d c;refine ⟨[Au.cells [qIi r,qIi d,qIi c] Ad true]++τ, ?_⟩;rw[ZI];simp only[Ae,Bt,IN,Nat.reduceAdd,Ach,Acj,AI,Ah,e,show ((64:Int)=0)=False from by decide,Abs];have b:Ar (words r d c+64)=words r d c+64:=Ai (by unfold AO; omega);have f:Ar (words r d c+64-1)=words r d c+63:=by rw[Ai (by unfold AO; omega)]; omega
 obtain ⟨n,a⟩:∃ n:Nat,words r d c+63=(n:Int):=⟨(words r d c+63).toNat,by omega⟩;have g:Ar ((words r d c+63).tdiv 64)=(words r d c+63).tdiv 64:=by
  rw[a,show ((n:Int)).tdiv 64=((n/64:Nat):Int) from rfl]; exact Ai (by unfold AO; omega)
 rw[b,f,g,Aae]
theorem Yx (k:Nat) (r d c:Int) (J:Aa):∃ τ,EP (k+3) r d c J=some (.bool (decide (words r d c>32)),J++τ):=by
 obtain ⟨τ,e⟩:=JD k r d c (J++[Au.cells [qIi r,qIi d,qIi c] Ad true]);refine ⟨[Au.cells [qIi r,qIi d,qIi c] Ad true]++τ, ?_⟩;rw[XW];simp only[Ae,Bt,IN,Nat.reduceAdd,Ach,Acj,AI,Ah,e];rw[Aae]
theorem Kk {q:Nat} {x y z:Int} {T:TypeId} (h:J[q]?=some (.cells [qIi x,qIi y,qIi z] T true)):Aj .i64 J q 0=some x/\Aj .i64 J q 1=some y/\Aj .i64 J q 2=some z:=by
 refine ⟨?_, ?_, ?_⟩ <;> simp[Aj,CV,h,Bl]
theorem PU (k:Nat) (h:RG J i m t) (a e:Int) (K:0<=a/\a<4096) {q:Nat} {r d c:Int} (v:J[q]?=some (.cells [qIi r,qIi d,qIi c] Ad true)):∀ (n x f:Nat) (τ:Aa),x+n=t.ob.length->n<f ->
  ∃ w,Dn (k+2) f (Bk i) a e q (x:Int) (J++τ)=some (if cU (t.ob.drop x) a (words r d c) e then (.ret,[qIi 8],J++w) else (.exit 0,[],J++w))
 | 0,x,0,τ,P,L=>by omega
 | 0,x,f+1,τ,P,L=>by
   have z:=h.app τ;rw[LW,Ac5 (by omega)];have q:decide ((x:Int)<((t.ob.length:Nat):Int))=false:=Aac (by omega);exact ⟨τ,by simp only[AI,IN,z.at_.EX,q,By,cU,List.any_nil,Abz,Abs]⟩
 | n+1,x,0,τ,P,L=>by omega
 | n+1,x,f+1,τ,P,L=>by
   have ab:=h.ol;have g:x<t.ob.length:=by omega
   have z:=h.app τ;obtain ⟨j,b,p,A⟩:=z.ath g;have hz:=h.inv.size A.st;have aa:=A.lt;have hw:=oq h.inv A.st;have ac:=Z4 r d c;have M:t.ob[x]=AQ m j:=by
    obtain ⟨j2,X,_,_,Y⟩:=h.drop g;rw[A.all] at X; cases X;rw[Aaj g] at Y; exact Ad8 Y
   have N:cU (t.ob.drop x) a (words r d c) e=(decide ((AQ m j).id≠e/\((2*j:Nat):Int)<a+words r d c/\a<((2*j:Nat):Int)+(sz m j:Int)) || cU (t.ob.drop (x+1)) a (words r d c) e):=by
    rw[Ac2 g,M];unfold cU;rw[List.any_cons,hw,Nk]
   obtain ⟨B,Z⟩:∃ B,Au.cells (Bu (AQ m j) p) Ab true=B:=⟨_,rfl⟩;have st:H0 (J++τ++[Au.cells [qIi 0,qIi 0,qIi 0,qIi 0,qIi 0,.slice none 0 0,.slice none 0 0,.bool false] Ab true]) (J++τ).length 0 [qIi (AQ m j).addr,qIi (AQ m j).id,qIi (AQ m j).r,qIi (AQ m j).d,qIi (AQ m j).k,.slice p.1.1 p.1.2.1 p.1.2.2,.slice p.2.1 p.2.2.1 p.2.2.2,.bool (AQ m j).Ww]=some (J++τ++[B]):=by
    rw[X5,<- Z]; rfl
   have Q:∀ (w:Aa) (o:Nat),Aj .i64 (J++τ++[B]++w) (J++τ).length o=((Bu (AQ m j) p)[o]?).bind (Bl .i64):=fun w o=>by rw[<- Z]; exact G9 _ _ _ _ _ _ _
   have l:∀ (o:Nat),Aj .i64 (J++τ++[B]) (J++τ).length o=((Bu (AQ m j) p)[o]?).bind (Bl .i64):=fun o=>by have:=Q [] o; rwa [Abu] at this
   have O:(J++τ++[B])[q]?=some (.cells [qIi r,qIi d,qIi c] Ad true):=by
    rw[Aae,AT (Af v)]; exact v
   obtain ⟨D,E,F⟩:=Kk O;obtain ⟨C,H⟩:=JD k r d c (J++τ++[B]);obtain ⟨τ2,I⟩:=JD k (Av m j) (Bp m j) (CA m j) (J++τ++[B]++C);rw[(MX h.inv A.st).2.2.2.2.2.2.2] at I;have q0:decide ((x:Int)<((t.ob.length:Nat):Int))=true:=Aad (by omega);have qx:=qSu x t.ob.length (by omega);have S:=wSu x (by omega);have T:Ar (a+words r d c)=a+words r d c:=Ai (by unfold AO; omega);have w3:Ar (((2*j:Nat):Int)+(sz m j:Int))=((2*j:Nat):Int)+(sz m j:Int):=Ai (by unfold AO; omega);have G:((Bu (AQ m j) p)[0]?).bind (Bl .i64)=some ((2*j:Nat):Int):=rfl;have c1:((Bu (AQ m j) p)[1]?).bind (Bl .i64)=some (AQ m j).id:=rfl;have U:((Bu (AQ m j) p)[2]?).bind (Bl .i64)=some (Av m j):=rfl;have V:((Bu (AQ m j) p)[3]?).bind (Bl .i64)=some (Bp m j):=rfl;have W:((Bu (AQ m j) p)[4]?).bind (Bl .i64)=some (CA m j):=rfl;rw[N,LW];simp only[AI,IN,Abn,Adt,Nat.reduceAdd,z.at_.EX,q0,IS,qx,Aah,A.os,IT,A.ld.l0,A.ld.l1,A.ld.l2,A.ld.l3,A.ld.l4,A.ld.l5,A.ld.l6,A.ld.l7,Ae,st,l,c1];by_cases d1:(AQ m j).id=e
   ·obtain ⟨y,s⟩:=PU k h a e K v n (x+1) f (τ++[B]) (by omega) (by omega);refine ⟨y, ?_⟩;have:((AQ m j).id != e)=false:=by rw[d1]; exact Abt _
    rw[Aac (fun h=>h.1 d1),Ag2];simp only[<- Aae] at s;simp only[this,By,AI,S];exact s
   ·have u:((AQ m j).id != e)=true:=Adp.2 d1;by_cases d2:((2*j:Nat):Int)<a+words r d c
    ·by_cases d3:a<((2*j:Nat):Int)+(sz m j:Int)
     ·refine ⟨τ++[B]++C++τ2, ?_⟩;rw[Aad ⟨d1,d2,d3⟩];simp only[u,IS,l,G,AI,D,E,F,H,Ah,T,Aad d2,Q,U,V,W,I,w3,Aad d3,Agu,Aah];simp only[<- Aae]
     ·obtain ⟨y,s⟩:=PU k h a e K v n (x+1) f (τ++[B]++C++τ2) (by omega) (by omega);refine ⟨y, ?_⟩;rw[Aac (fun h=>d3 h.2.2),Ag2];simp only[<- Aae] at s;simp only[u,IS,l,G,AI,D,E,F,H,Ah,T,Aad d2,Q,U,V,W,I,w3,Aac d3,By,S];exact s
    ·obtain ⟨y,s⟩:=PU k h a e K v n (x+1) f (τ++[B]++C) (by omega) (by omega);refine ⟨y, ?_⟩;rw[Aac (fun h=>d2 h.2.1),Ag2];simp only[<- Aae] at s;simp only[u,IS,l,G,AI,D,E,F,H,Ah,T,Aac d2,By,S];exact s
theorem Wo {hi:Nat} {a:Int}:∀ {f x:Nat},Mn m hi a f x=false -> ∃ y o,x<=y/\y<hi/\QM m (y:Int)=some o/\((2*o:Nat):Int)≠a
 | 0,x,h=>by cases h
 | f+1,x,h=>by
   rw[Mn] at h;split at h
   ·rename_i e;split at h
    ·rename_i o d;split at h
     ·obtain ⟨y,o',h1,b⟩:=Wo h;exact ⟨y,o',by omega,b⟩
     ·rename_i c;exact ⟨x,o,Abp _,e,d,c⟩
    ·obtain ⟨y,o',h1,b⟩:=Wo h;exact ⟨y,o',by omega,b⟩
   ·cases h
theorem va (c:Inv m) {a w:Nat} {b d:Int} (r:a % 2=0) (hw:w % 2=0) (n:2<=w) (p:w<=218) (hb:∀ o,Start m o->(((2*o:Nat):Int)=b↔m.wds.getD (2*o) 0=d)):cU (Gp m) (a:Int) (w:Int) d = !Mn m (a+w) b 200 a:=by
 rw[Ag9,Af4];unfold cU Gp;rw[List.any_eq_true];constructor
 ·rintro ⟨o,l,hd⟩;obtain ⟨j,k,rfl⟩:=Ad0.1 l;have hs:=DO.1 k;rw[Adu,oq c hs,Nk] at hd;have t:=c.size hs;cases g:Mn m (a+w) b 200 a with
  | false=>rfl
  | true=>
    have h:=c.fit j hs;by_cases s:a<=2*j
    ·have:=UD g (by omega) ((2*j-a)/2) (by omega) j (by
      rw[show a+2*((2*j-a)/2)=2*j from by omega];unfold QM;rw[Abm (by omega),IT,c.UC hs (by omega) (by omega)]);exact absurd ((hb j hs).1 this) hd.1
    ·have:=UD g (by omega) 0 (by omega) j (by
      unfold QM;rw[Abm (by omega),IT,c.UC hs (by omega) (by omega)]);exact absurd ((hb j hs).1 this) hd.1
 ·intro g;obtain ⟨y,o,h1,q,f,i⟩:=Wo g;unfold QM at f;split at f
  ·rw[IT] at f;obtain ⟨s1,_,u,v⟩:=ni f;refine ⟨AQ m o,Ad0.2 ⟨o,DO.2 s1,rfl⟩, ?_⟩;rw[Adu,oq c s1,Nk];exact ⟨fun e=>i ((hb o s1).2 e),by omega,by omega⟩
  ·cases f
theorem vg (k:Nat) (hk:5000<=k) (h:RG J i m t) (a p g:Int) {r d c:Int} (L:valid r d c=true) (hb:∀ o,Start m o->(((2*o:Nat):Int)=p↔m.wds.getD (2*o) 0=g)):
  ∃ τ,Is (k+4) (Bk i) a r d c g J=some (qIi (Me m a (Pk (num r d c)) p),J++τ):=by
 have aa:=h.nt;have ac:=h.wl;have ab:=h.ol;have j:words r d c=(Pk (num r d c):Int):=by
  obtain ⟨p1,p2,p3,_⟩:=Ke L;rw[jc,p1,p2,p3]
 have K:=Ko L;have M:=L;simp[valid] at M;have C:Pk (num r d c) % 2=0/\2<=Pk (num r d c)/\Pk (num r d c)<=218:=by rw[K]; omega
 obtain ⟨W,F⟩:∃ W,Pk (num r d c)=W:=⟨_,rfl⟩;rw[F] at j C ⊢;obtain ⟨B,V⟩:∃ B,Au.cells [qIi r,qIi d,qIi c] Ad true=B:=⟨_,rfl⟩;have v:=h.app [B];have D:(J++[B])[J.length]?=some (.cells [qIi r,qIi d,qIi c] Ad true):=by rw[<- V]; simp
 rw[TE];simp only[Ae,V];unfold Me;by_cases h0:a<0
 ·rw[Abm (show ¬(0<=a/\a<(m.wds.length:Int)/\a.toNat % 2=0) by omega)];refine ⟨[B], ?_⟩;simp only[Aad h0,IS,AI]
 obtain ⟨n,rfl⟩:∃ n:Nat,a=(n:Int):=⟨a.toNat,by omega⟩;rw[IT];have s:((n:Int)).tmod 2=((n % 2:Nat):Int):=rfl;by_cases h1:n % 2=0;rotate_left
 ·rw[Abm (show ¬(0<=(n:Int)/\(n:Int)<(m.wds.length:Int)/\n % 2=0) by omega)];refine ⟨[B], ?_⟩;have:(((n % 2:Nat):Int) != 0)=true:=Adp.2 (by omega);simp only[Aac h0,By,show ((2:Int)=0)=False from by decide,Abs,s,this,IS,AI]
 have Q:(((n % 2:Nat):Int) != 0)=false:=by rw[h1]; rfl
 have q:Ar (((m.bls.length:Nat):Int)*64)=((m.wds.length:Nat):Int):=by rw[Ai (by unfold AO; omega)]; omega
 by_cases h3:n<m.wds.length;rotate_left
 ·rw[Abm (show ¬(0<=(n:Int)/\(n:Int)<(m.wds.length:Int)/\n % 2=0) by omega)];refine ⟨[B], ?_⟩;simp only[Aac h0,By,show ((2:Int)=0)=False from by decide,Abs,s,Q,AI,IN,Abn,v.at_.HI,v.bn,q,Aad (show (n:Int)>=((m.wds.length:Nat):Int) by omega),IS]
 rw[Abo (show ¬¬(0<=(n:Int)/\(n:Int)<(m.wds.length:Int)/\n % 2=0) by omega)];obtain ⟨b0,b1,b2⟩:=Kk D;obtain ⟨f,eL⟩:=Yx k r d c (J++[B]);have b:=v.app f;have I:(J++[B]++f)[J.length]?=_:=(AT (Af D)).trans D;obtain ⟨d0,d1,d2⟩:=Kk I;have y:n/64<m.bls.length:=by omega
 have wb:Ar (((n:Int)).tdiv 64)=((n/64:Nat):Int):=by rw[show ((n:Int)).tdiv 64=((n/64:Nat):Int) from rfl]; exact Ai (by unfold AO; omega)
 have x:((n:Int)).tmod 64=((n % 64:Nat):Int):=rfl;obtain ⟨qb,U,z,_,_⟩:=Xw b y;have Y:(0<=((n/64:Nat):Int)/\((n/64:Nat):Int)<((m.bls.length:Nat):Int))=True:=Adk (by omega);have loop:∀ Z:Aa,∃ u,((Dn (k+3) (k+3) (Bk i) (n:Int) g J.length (0:Int) (J++[B]++Z)).bind fun l=>if l.1 = .exit 0 then (some (Value.int .i64 (0:Int),l.2.2)) else if l.1 = .ret then (ZS l.2.1 fun O=>some (qIi O,l.2.2)) else none)=some (Value.int .i64 (if Mn m (n+W) p 200 n then 0 else 8),J++u):=by
  intro Z;obtain ⟨u,e⟩:=PU (k+1) v (n:Int) g (by omega) D t.ob.length 0 (k+3) Z (by omega) (by omega);rw[Ac6,h.sim.ob,j,va h.inv h1 C.1 C.2.1 C.2.2 hb,show ((0:Nat):Int)=0 from rfl] at e;have w:Dn (k+3) (k+3) (Bk i) (n:Int) g J.length 0 (J++[B]++Z)=_:=e;refine ⟨[B]++u, ?_⟩;rw[w,<- Aae];cases Mn m (n+W) p 200 n with
  | true=>simp only[Abr,Abz,Abs,AI,Aah]
  | false=>simp only[Ac7,Aah,AI,reduceCtorEq,Abs,Ey,Abz]
 simp only[Aac h0,By,show ((2:Int)=0)=False from by decide,Abs,s,Q,AI,IN,Abn,Nat.reduceAdd,v.at_.HI,v.bn,q,Aac (show ¬ (n:Int)>=((m.wds.length:Nat):Int) by omega),show ((64:Int)=0)=False from by decide,b0,b1,b2,eL,An,j];by_cases X:W<=32
 ·rw[Abm X,Aac (by omega)];simp only[By,b.at_.HI,b.bn,wb,Y,Aah,U,AI,IT,IN,z];by_cases s1:(m.bls.getD (n/64) (0,0)).1=1
  ·obtain ⟨A,T⟩:=JD (k+1) r d c (J++[B]++f);rw[j] at T;have wa:Ar ((n:Int)+(W:Int))=((n+W:Nat):Int):=by rw[Ai (by unfold AO; omega)]; omega
   have wc:Ar (((n+W:Nat):Int)-1)=((n+W-1:Nat):Int):=by rw[Ai (by unfold AO; omega)]; omega
   have wd:Ar ((((n+W-1:Nat):Int)).tdiv 64)=(((n+W-1)/64:Nat):Int):=by rw[show (((n+W-1:Nat):Int)).tdiv 64=(((n+W-1)/64:Nat):Int) from rfl]; exact Ai (by unfold AO; omega)
   simp only[s1,Abt,By,d0,d1,d2,AI,T,Ah,wa,wc,wd];by_cases s2:(n+W-1)/64=n/64
   ·have:((((n+W-1)/64:Nat):Int) != ((n/64:Nat):Int))=false:=by rw[s2]; exact Abt _
    obtain ⟨u,w⟩:=loop (f++A);rw[Abo (fun G=>G.elim (fun h=>h rfl) (fun h=>h s2))];refine ⟨u, ?_⟩;simp only[this,By,AI,Aah];rw[Aae (J++[B])];exact w
   ·have:((((n+W-1)/64:Nat):Int) != ((n/64:Nat):Int))=true:=Adp.2 (by omega);rw[Abm (.inr s2)];refine ⟨[B]++f++A, ?_⟩;simp only[this,IS,AI,reduceCtorEq,Abs,Aah,Ey,Aae]
  ·rw[Abm (.inl s1)];refine ⟨[B]++f, ?_⟩;simp only[Adp.2 s1,IS,AI,reduceCtorEq,Abs,Aah,Ey,Aae]
 ·rw[Abo X,Aad (by omega)];simp only[IS,x];by_cases P:n % 64=0;rotate_left
  ·have:(((n % 64:Nat):Int) != 0)=true:=Adp.2 (by omega);rw[Abm (.inr (.inl P))];refine ⟨[B]++f, ?_⟩;simp only[this,IS,AI,reduceCtorEq,Abs,Aah,Ey,Aae]
  have e0:(((n % 64:Nat):Int) != 0)=false:=by rw[P]; rfl
  simp only[e0,By,b.at_.HI,b.bn,wb,Y,Aah,U,AI,IT,IN,z];by_cases s1:(m.bls.getD (n/64) (0,0)).1=2;rotate_left
  ·rw[Abm (.inl s1)];refine ⟨[B]++f, ?_⟩;simp only[Adp.2 s1,IS,AI,reduceCtorEq,Abs,Aah,Ey,Aae]
  have E:Gx (k+3) (Bk i) ((n/64:Nat):Int) (J++[B]++f)=_:=sy (k+2) (by omega) b y;have N:ji m (n/64)=LA m (n/64):=by unfold ji; rw[Abo (by rw[s1]; decide),Abm s1]
  obtain ⟨A,S⟩:=cS k r d c (J++[B]++f);have H:(words r d c+63).tdiv 64=(((W+63)/64:Nat):Int):=by rw[j]; rfl
  rw[H] at S;simp only[s1,Abt,By,E,AI,Ah,N,d0,d1,d2,S];by_cases s2:LA m (n/64)=(W+63)/64
  ·have:(((LA m (n/64):Nat):Int) != (((W+63)/64:Nat):Int))=false:=by rw[s2]; exact Abt _
   obtain ⟨u,w⟩:=loop (f++A);rw[Abo (fun G=>G.elim (fun h=>h rfl) (fun h=>h.elim (fun h=>h P) (fun h=>h s2)))];refine ⟨u, ?_⟩;simp only[this,By,AI,Aah];rw[Aae (J++[B])];exact w
  ·have:(((LA m (n/64):Nat):Int) != (((W+63)/64:Nat):Int))=true:=Adp.2 (by omega);rw[Abm (.inr (.inr s2))];refine ⟨[B]++f++A, ?_⟩;simp only[this,IS,AI,reduceCtorEq,Abs,Aah,Ey,Aae]
end
section
local instance qRV:AH:=Ao
variable {J:Aa} {m:HM} {t:RM} {i:RI}
theorem Dw.app {s:Bv} {l:List Int} (h:Dw J s l) (τ:Aa):Dw (J++τ) s l:=
 ⟨h.1,fun i=>by
  obtain ⟨b,c,e,d⟩:=h.2.1 i;exact ⟨b,c,e,(AT (Af d)).trans d⟩,fun a g=>by
  obtain ⟨cs,T,w,h1,f⟩:=h.2.2 a g;exact ⟨cs,T,w,(AT (Af h1)).trans h1,f⟩⟩
theorem EE {j:Nat} (hs:Start m j):Ax m ((2*j:Nat):Int)=true:=by
 unfold Ax;rw[Adu,IT,show 2*j/2=j from by omega];exact ⟨by omega,by omega,hs⟩
theorem Zu (k:Nat) (hk:5000<=k) (h:RG J i m t) (L:List Nat) (hL:∀ j ∈ L,Start m j) (U:L.length<=2048) {Z:Nat} (s:Bv) (hs:C8 Z J s (C7 L)):∀ (n x f a:Nat) (τ:Aa) (o:Bv) (R:List (Nat × Nat)),Cq AF 2 (J++τ) o R.length (D0 R)->(∀ q,o.1=some q->J.length<=q.block)->R.length<=x->a<=5000->x+n=L.length->n<f ->
  ∃ e o',Dm (k+3) f (Bk i) s.1 s.2.1 s.2.2 (o.1,o.2.1,o.2.2) (a:Int) (x:Int) (J++τ)=some (.exit 0,[.slice o'.1 o'.2.1 o'.2.2,qIi ((F7 m (L.drop x) a).2:Int)],J++e)/\Cq AF 2 (J++e) o' (R++(F7 m (L.drop x) a).1).length (D0 (R++(F7 m (L.drop x) a).1))/\(∀ q,o'.1=some q->J.length<=q.block)/\(F7 m (L.drop x) a).2<=5000/\(R++(F7 m (L.drop x) a).1).length<=L.length
 | 0,x,0,a,τ,o,R,z,A,X,Q,Y,W=>by omega
 | 0,x,f+1,a,τ,o,R,z,A,X,Q,Y,W=>by
   have al:(C7 L).length=L.length:=by simp[C7]
   have sl:s.2.1=L.length:=by rw[<- al]; exact hs.sl.len
   rw[LV,Ac5 (by omega)];have q:decide ((x:Int)<((s.2.1:Nat):Int))=false:=Aac (by omega);exact ⟨τ,o,by simp only[q,By,F7],by simpa [F7] using z,A,Q,by simp[F7]; omega⟩
 | n+1,x,0,a,τ,o,R,z,A,X,Q,Y,W=>by omega
 | n+1,x,f+1,a,τ,o,R,z,A,X,Q,Y,W=>by
   have al:(C7 L).length=L.length:=by simp[C7]
   have v:x<L.length:=by omega
   have c:=hL _ (Ac4 v);have aa:=h.inv.fit _ c;have hz:=h.inv.size c;have ad:=h.nt;have af:=h.wl;have ae:=c.1;obtain ⟨b1,e1,ab,c1,D⟩:=ints_at hs (x:=x) (by omega);rw[O8 L v] at D;have V:=Af c1;have r:∀ b:Aa,Aj .i64 (J++b) b1 x=some ((2*L[x]:Nat):Int):=fun b=>by
    rw[<- D]; simp only[Aj,CV,AT V]
   have eT:F7 m (L.drop x) a=(Kr a (2*L[x])++(F7 m (L.drop (x+1)) (2*L[x]+sz m L[x])).1,(F7 m (L.drop (x+1)) (2*L[x]+sz m L[x])).2):=by
    rw[Ac2 v]; rfl
   have qx:=qSu x L.length (by omega);have q0:decide ((x:Int)<((L.length:Nat):Int))=true:=Aad (by omega);have w1:=wSu x (by omega);have w2:Ar (((2*L[x]:Nat):Int)+(sz m L[x]:Int))=((2*L[x]+sz m L[x]:Nat):Int):=by rw[Ai (by unfold AO; omega)]; omega
   have ac:(Kr a (2*L[x])).length<=1:=by unfold Kr; split <;> simp
   have tail:∀ (b:Aa) (d:Bv),Cq AF 2 (J++b) d (R++Kr a (2*L[x])).length (D0 (R++Kr a (2*L[x])))->(∀ q,d.1=some q->J.length<=q.block) ->
     ∃ (y l:Nat) (I:i.os.1=some ⟨l,0,none⟩) (e4:y<t.ob.length) (K:Ay (k+3) (Bk i) ((2*L[x]:Nat):Int) (J++b)=some (qIi (y:Int),J++b)) (M:Aj .i64 (J++b) l (y*8+2)=some (Av m L[x])) (N:Aj .i64 (J++b) l (y*8+3)=some (Bp m L[x])) (O:Aj .i64 (J++b) l (y*8+4)=some (CA m L[x])) (g:Aa) (u:Ck (k+3) (Av m L[x]) (Bp m L[x]) (CA m L[x]) (J++b)=some (qIi (sz m L[x]:Int),J++g)) (e:Aa) (o':Bv),
      Dm (k+3) f (Bk i) s.1 s.2.1 s.2.2 (d.1,d.2.1,d.2.2) ((2*L[x]+sz m L[x]:Nat):Int) ((x+1:Nat):Int) (J++g)=some (.exit 0,[.slice o'.1 o'.2.1 o'.2.2,qIi ((F7 m (L.drop x) a).2:Int)],J++e)/\Cq AF 2 (J++e) o' (R++(F7 m (L.drop x) a).1).length (D0 (R++(F7 m (L.drop x) a).1))/\(∀ q,o'.1=some q->J.length<=q.block)/\(F7 m (L.drop x) a).2<=5000/\(R++(F7 m (L.drop x) a).1).length<=L.length:=by
    intro b d s1 n1;have hg:=h.app b;obtain ⟨y,j',l,p,F⟩:=hg.found (EE c);have ej:j'=L[x]:=by have:=F.e; omega
    subst ej;obtain ⟨g,u⟩:=JD (k+1) (Av m L[x]) (Bp m L[x]) (CA m L[x]) (J++b);rw[(MX h.inv c).2.2.2.2.2.2.2,Aae] at u;have s2:Cq AF 2 (J++(b++g)) d (R++Kr a (2*L[x])).length (D0 (R++Kr a (2*L[x]))):=by rw[<- Aae]; exact s1.app g
    obtain ⟨e,o',E,B,G,H,C⟩:=Zu k hk h L hL U s hs n (x+1) f (2*L[x]+sz m L[x]) (b++g) d (R++Kr a (2*L[x])) s2 n1 (by rw[Abe]; omega) (by omega) (by omega) (by omega);rw[eT];rw[Aae] at B C;exact ⟨y,l,F.os,F.xl,by rw[<- F.idx]; exact L9 (k+1) (by omega) hg _,F.ld.l2,F.ld.l3,F.ld.l4,b++g,u,e,o',E,B,G,H,C⟩
   subst e1;rw[LV];simp only[al] at *;by_cases hc:a<2*L[x]
   ·obtain ⟨d,b,ea,s1,n1⟩:=PT xM wR xX rfl rfl (by decide) (by decide) (by decide) J τ o R.length (D0 R) 1 1 (D0 [(a,2*L[x]-a)]) AF (by omega) (by decide) rfl z A;have S:AG P AF (o.1,o.2.1,o.2.2) (some ⟨(J++τ).length,0,none⟩,1,1) (J++τ++[Au.cells [qIi (a:Int),qIi ((2*L[x]-a:Nat):Int)] AF true])=some (d,J++b):=ea;have T:Kr a (2*L[x])=[(a,2*L[x]-a)]:=by unfold Kr; rw[Abm hc]
    obtain ⟨y,l,I,e4,K,M,N,O,g,u,e,o',E,B,G,H,C⟩:=tail b d (by rw[T,Pf,Abe]; exact s1) n1;refine ⟨e,o', ?_,B,G,H,C⟩;have w:Ar (((2*L[x]:Nat):Int)-(a:Int))=((2*L[x]-a:Nat):Int):=by rw[Ai (by unfold AO; omega)]; omega
    have qy:=qSu y t.ob.length (by omega);simp only[q0,IS,qx,Aah,AI,IN,Abn,Adt,Nat.reduceAdd,IT,Acu,r,Aad (show ((2*L[x]:Nat):Int)>(a:Int) by omega),Ae,w,S,HS,(h.app b).at_.EX,K,Ah,qy,I,M,N,O,u,w2,w1];exact E
   ·have T:Kr a (2*L[x])=[]:=by unfold Kr; rw[Abo hc]
    obtain ⟨y,l,I,e4,K,M,N,O,g,u,e,o',E,B,G,H,C⟩:=tail τ o (by rw[T,Abu]; exact z) A;refine ⟨e,o', ?_,B,G,H,C⟩;have qy:=qSu y t.ob.length (by omega);simp only[q0,IS,By,qx,Aah,AI,IN,Abn,Adt,Nat.reduceAdd,IT,Acu,r,Aac (show ¬ ((2*L[x]:Nat):Int)>(a:Int) by omega),HS,(h.app τ).at_.EX,K,Ah,qy,I,M,N,O,u,w2,w1];exact E
def IQ (m:HM) (b:Int):List (Nat × Nat):=if Cb m b=1 then bY m b.toNat else []
theorem gN {b:Int} (h:Cb m b=1):∃ n:Nat,b=(n:Int)/\n<m.bls.length/\(m.bls.getD n (0,0)).1=1:=by
 unfold Cb at h;split at h
 ·rename_i hb;refine ⟨b.toNat,by omega,by omega,h⟩
 ·cases h
theorem fF (m:HM) (b:Int):(IQ m b).length<=33:=by
 have aux:∀ (L:List Nat) (a:Nat),(F7 m L a).1.length<=L.length:=by
  intro L
  induction L with
  | nil=>intro a; exact Abp _
  | cons j L c=>
    intro a;have:=c (2*j+sz m j);have:(Kr a (2*j)).length<=1:=by unfold Kr; split <;> simp
    rw[F7,Abe,Ada]; omega
 unfold IQ;split
 ·unfold bY;have:=aux (DE m (32*b.toNat) 32) (64*b.toNat);have:=Nn m (32*b.toNat) 32;have:(Kr (F7 m (DE m (32*b.toNat) 32) (64*b.toNat)).2 (64*b.toNat+64)).length<=1:=by unfold Kr; split <;> simp
  rw[Abe]; omega
 ·simp
theorem uW (k:Nat) (O:5000<=k) (h:RG J i m t) (b:Int):∃ τ s,Ir (k+4) (Bk i) b J=some (.slice s.1 s.2.1 s.2.2,J++τ)/\Cq AF 2 (J++τ) s (IQ m b).length (D0 (IQ m b)) /\ ∀ a,s.1=some a->J.length<=a.block:=by
 have Q:=h.nt;have T:=h.wl;rw[TA];have H:Ct (k+3) (Bk i) b J=_:=Yy (k+1) h b;simp only[H,AI,Ah];unfold IQ;by_cases g:Cb m b=1;rotate_left
 ·rw[Abo g,Adp.2 g];exact ⟨[],(none,0,0),by simp only[IS,Abu],Cq.nil _ _ _,by intro a f; cases f⟩
 rw[Abm g,g];obtain ⟨n,rfl,Y,S⟩:=gN g;obtain ⟨d,s,r,i1⟩:=kU (k+1) (by omega) h (n:Int);have F:HC m (n:Int)=DE m (32*n) 32:=by unfold HC; rw[Abm (by omega),IT]
 rw[F] at i1;have M:=h.app d;have K:∀ j ∈ DE m (32*n) 32,Start m j:=by
  intro j N;obtain ⟨a,W,c⟩:=LM.1 N;exact ⟨by omega,c⟩
 have L:=Nn m (32*n) 32;obtain ⟨o,l,u,s2,z,x,y⟩:=Zu k O M _ K (by omega) s i1 (DE m (32*n) 32).length 0 (k+3) (64*n) [] (none,0,0) [] (Cq.nil _ _ _) (by intro a f; cases f) (Ade _) (by omega) (by omega) (by omega);rw[Ac6,Aev] at s2 y;rw[Ac6,Abu] at u;rw[Ac6] at x;have e:Dm (k+3) (k+3) (Bk i) s.1 s.2.1 s.2.2 (none,0,0) ((64*n:Nat):Int) 0 (J++d)=_:=u;have B:Ar ((n:Int)*64)=((64*n:Nat):Int):=by rw[Ai (by unfold AO; omega)]; omega
 have C:Ar ((n:Int)+1)=((n+1:Nat):Int):=by rw[Ai (by unfold AO; omega)]; omega
 have D:Ar (((n+1:Nat):Int)*64)=((64*n+64:Nat):Int):=by rw[Ai (by unfold AO; omega)]; omega
 rw[IT];unfold bY;generalize X:F7 m (DE m (32*n) 32) (64*n)=G at e s2 x y;by_cases v:G.2<64*n+64
 ·obtain ⟨A,E,I,V,U⟩:=PT xM wR xX rfl rfl (by decide) (by decide) (by decide) (J++d) o l G.1.length (D0 G.1) 1 1 (D0 [(G.2,64*n+64-G.2)]) AF (by omega) (by decide) rfl s2 z;have p:AG P AF (l.1,l.2.1,l.2.2) (some ⟨(J++d++o).length,0,none⟩,1,1) (J++d++o++[Au.cells [qIi (G.2:Int),qIi ((64*n+64-G.2:Nat):Int)] AF true])=some (A,J++d++E):=I;have q:Kr G.2 (64*n+64)=[(G.2,64*n+64-G.2)]:=by unfold Kr; rw[Abm v]
  have w:Ar (((64*n+64:Nat):Int)-(G.2:Int))=((64*n+64-G.2:Nat):Int):=by rw[Ai (by unfold AO; omega)]; omega
  refine ⟨d++E,A, ?_, ?_,fun a f=>by have:=U a f; simp at this; omega⟩
  ·simp only[Abt,By,r,AI,Ej,B,e,Aah,qk,C,D,Aad (show (G.2:Int)<((64*n+64:Nat):Int) by omega),IS,Ae,w,p,HS];rw[Aae]
  ·rw[q,Pf,Abe,<- Aae]; exact V
 ·have q:Kr G.2 (64*n+64)=[]:=by unfold Kr; rw[Abo v]
  refine ⟨d++o,l, ?_, ?_,fun a f=>by have:=z a f; simp at this; omega⟩
  ·simp only[Abt,By,r,AI,Ej,B,e,Aah,qk,C,D,Aac (show ¬ (G.2:Int)<((64*n+64:Nat):Int) by omega),By,HS];rw[Aae]
  ·rw[q,Abu,<- Aae]; exact s2
end
section
local instance qRW:AH:=Ao
variable {J:Aa} {m:HM} {t:RM} {i:RI}
def Ri (om:List (Bv × Bv)):List Nat:=om.flatMap fun p=>hs p.1++hs p.2
theorem NB (s:Bv):(hs s).Nodup:=by
 unfold hs;cases s.1 <;> simp
theorem RI.JU {j:Nat}:j ∈ i.l↔j=i.hb\/j ∈ hs i.bs\/j ∈ hs i.os\/j ∈ hs i.fs\/j ∈ Ri i.om:=by
 unfold RI.l Ri;simp only[Acv,Aag]
structure Sep (i:RI):Prop where
 hA:i.hb ∉ hs i.bs
 hB:i.hb ∉ hs i.os
 hC:i.hb ∉ hs i.fs
 hD:i.hb ∉ Ri i.om
 AB:∀ a ∈ hs i.bs,a ∉ hs i.os
 AC:∀ a ∈ hs i.bs,a ∉ hs i.fs
 AD:∀ a ∈ hs i.bs,a ∉ Ri i.om
 BC:∀ a ∈ hs i.os,a ∉ hs i.fs
 BD:∀ a ∈ hs i.os,a ∉ Ri i.om
 CD:∀ a ∈ hs i.fs,a ∉ Ri i.om
 D:(Ri i.om).Nodup
theorem Sep.of (h:i.l.Nodup):Sep i:=by
 have h:(i.hb::(hs i.bs++(hs i.os++(hs i.fs++Ri i.om)))).Nodup:=h;obtain ⟨h1,e⟩:=Ae8.1 h;simp only[Aag,Ag7] at h1;obtain ⟨_,f,c⟩:=Adv.1 e;obtain ⟨_,h5,d⟩:=Adv.1 f;obtain ⟨_,g,h8⟩:=Adv.1 h5;exact ⟨h1.1,h1.2.1,h1.2.2.1,h1.2.2.2,fun a b hb=>c a b a (Aag.2 (.inl hb)) rfl,fun a b hb=>c a b a (Aag.2 (.inr (Aag.2 (.inl hb)))) rfl,fun a b hb=>c a b a (Aag.2 (.inr (Aag.2 (.inr hb)))) rfl,
  fun a b hb=>d a b a (Aag.2 (.inl hb)) rfl,fun a b hb=>d a b a (Aag.2 (.inr hb)) rfl,fun a b hb=>h8 a b a hb rfl,g⟩
theorem Sep.nd (h:Sep i):i.l.Nodup:=by
 show (i.hb::(hs i.bs++(hs i.os++(hs i.fs++Ri i.om)))).Nodup;refine Ae8.2 ⟨?_,Adv.2 ⟨NB _,Adv.2 ⟨NB _,Adv.2 ⟨NB _,h.D, ?_⟩, ?_⟩, ?_⟩⟩
 ·simp only[Aag,Ag7];exact ⟨h.hA,h.hB,h.hC,h.hD⟩
 ·intro a c b hb e;subst e;exact h.CD a c hb
 ·intro a c b hb e;subst e;rcases Aag.1 hb with hb | hb
  ·exact h.BC a c hb
  ·exact h.BD a c hb
 ·intro a c b hb e;subst e;rcases Aag.1 hb with hb | hb
  ·exact h.AB a c hb
  ·rcases Aag.1 hb with hb | hb
   ·exact h.AC a c hb
   ·exact h.AD a c hb
theorem JH.sep (h:JH J i t):Sep i:=Sep.of h.nd
theorem Js {om:List (Bv × Bv)} {x b:Nat} (a:x<om.length) (h:b ∈ hs om[x].1\/b ∈ hs om[x].2):b ∈ Ri om:=
 Afk.2 ⟨_,Ac4 a,Aag.2 h⟩
theorem Nu {s:Bv} {q:Nat} (e:s.1=some ⟨q,0,none⟩):q ∈ hs s:=BQ.2 ⟨_,e,rfl⟩
theorem JE {L:List Nat} {q b:Nat} {c:Au} (a:q ∉ L) (hb:b ∈ L):(J.set q c)[b]?=J[b]?:=
 Aaf (fun e:q=b=>a (by rw[e]; exact hb))
structure H4 (i i':RI) (J J':Aa):Prop where
 len:J.length<=J'.length
 same:∀ j,j<J.length->j ∉ i.l->J'[j]?=J[j]?
 new:∀ j,j ∈ i'.l->j ∈ i.l\/J.length<=j
 hb:i'.hb=i.hb
theorem H4.refl (i:RI) (J:Aa):H4 i i J J:=⟨Abp _,fun _ _ _=>rfl,fun _ h=>.inl h,rfl⟩
theorem H4.app (i:RI) (J τ:Aa):H4 i i J (J++τ):=⟨by simp,fun j a _=>AT a,fun _ h=>.inl h,rfl⟩
theorem H4.trans {a b c:Aa} {i k d:RI} (h:H4 i k a b) (g:H4 k d b c):H4 i d a c:=by
 refine ⟨Adj h.len g.len,fun j h1 e=>?_,fun j l=>?_,g.hb.trans h.hb⟩
 ·refine (g.same j (Acz h1 h.len) fun hm=>?_).trans (h.same j h1 e);rcases h.new j hm with f | f
  ·exact e f
  ·omega
 ·rcases g.new j l with h1 | h1
  ·exact h.new j h1
  ·exact .inr (Adj h.len h1)
theorem H4.set {q:Nat} (J:Aa) (c:Au) (h:q ∈ i.l):H4 i i J (J.set q c):=
 ⟨by simp,fun j b a=>Aaf (fun e:q=j=>a (by rw[<- e]; exact h)),fun _ h=>.inl h,rfl⟩
def Fg (mm:Option (Value × Aa)) (J:Aa) (i:RI) (v:Value) (m':HM):Prop:=
 ∃ J' a t',mm=some (v,J')/\JH J' a t'/\Rl m' t'/\LH m'/\H4 i a J J'
theorem Fg.same (h:RG J i m t) (a:LH m) (τ:Aa) {v:Value} {mm:Option (Value × Aa)} (he:mm=some (v,J++τ)):Fg mm J i v m:=
 ⟨J++τ,i,t,he,h.at_.app τ,h.sim,a,H4.app i J τ⟩
theorem Fg.NK (h:RG J i m t) (a:LH m) {v:Value} {mm:Option (Value × Aa)} (he:mm=some (v,J)):Fg mm J i v m:=
 ⟨J,i,t,he,h.at_,h.sim,a,H4.refl i J⟩
theorem JH.kH {Z:Aa} {i:RI} {t:RM} (bl:Cq As 2 Z i.bs t.bl.length (CS t.bl)) (ob:Cq Ab 8 Z i.os t.ob.length (DP t.ob i.om)) (fw:aw Z i.fs t.fw) (ol:i.om.length=t.ob.length)
  (inn:∀ (x:Nat) (h:x<t.ob.length) (c:x<i.om.length),Dw Z i.om[x].1 t.ob[x].refs/\Dw Z i.om[x].2 t.ob[x].data) (sep:Sep i) (lt:∀ j ∈ i.l,j<Z.length):
  JH (Z.set i.hb (.cells [.slice i.bs.1 i.bs.2.1 i.bs.2.2,.slice i.os.1 i.os.2.1 i.os.2.2,.slice i.fs.1 i.fs.2.1 i.fs.2.2,qIi t.born] Db true)) i t where
 hp:=Abq (lt _ i.LK)
 bl:=bl.Aw fun a d=>JE (sep.hA) (BQ.2 ⟨a,d,rfl⟩)
 ob:=ob.Aw fun a d=>JE (sep.hB) (BQ.2 ⟨a,d,rfl⟩)
 fw:=fw.Aw fun a d=>JE (sep.hC) (BQ.2 ⟨a,d,rfl⟩)
 ol:=ol
 inn:=fun x h c=>⟨(inn x h c).1.Aw fun b hb=>JE (sep.hD) (Js c (.inl hb)),(inn x h c).2.Aw fun b hb=>JE (sep.hD) (Js c (.inr hb))⟩
 nd:=sep.nd
 lt:=fun j e=>by rw[Ac8]; exact lt j e
theorem JH.qa (h:JH J i t) {q:Nat} (e:i.bs.1=some ⟨q,0,none⟩) (k:List (Int × Int)) (n:k.length=t.bl.length):JH (J.set q (.cells (CS k) As true)) i { t with bl:=k }:=by
 have sep:=h.sep;have c:=Nu e;have g:=h.lt q (RI.JU.2 (.inr (.inl c)));refine { hp:=?_,bl:=?_,ob:=?_,fw:=?_,ol:=h.ol,inn:=?_,nd:=h.nd,lt:=fun j m=>by rw[Ac8]; exact h.lt j m }
 ·rw[Aaf (fun l:q=i.hb=>sep.hA (by rw[<- l]; exact c))]; exact h.hp
 ·have:=h.bl.form;rw[e] at this;exact .inr ⟨q,by rw[this,n],Ade _,by rw[J2]; omega,Abq g⟩
 ·exact h.ob.Aw fun a f=>JE (sep.AB q c) (BQ.2 ⟨a,f,rfl⟩)
 ·exact h.fw.Aw fun a f=>JE (sep.AC q c) (BQ.2 ⟨a,f,rfl⟩)
 ·intro x h1 d;exact ⟨(h.inn x h1 d).1.Aw fun b hb=>JE (sep.AD q c) (Js d (.inl hb)),(h.inn x h1 d).2.Aw fun b hb=>JE (sep.AD q c) (Js d (.inr hb))⟩
theorem JH.stB (h:JH J i t) {b:Nat} (hb:b<t.bl.length) (x y:Int):∃ q,i.bs.1=some ⟨q,0,none⟩/\H0 J q (b*2) [qIi x,qIi y]=some (J.set q (.cells (CS (t.bl.set b (x,y))) As true)) /\
  JH (J.set q (.cells (CS (t.bl.set b (x,y))) As true)) i { t with bl:=t.bl.set b (x,y) }/\H4 i i J (J.set q (.cells (CS (t.bl.set b (x,y))) As true)):=by
 obtain ⟨q,e,c,d,a⟩:=Xp h.bl hb;refine ⟨q,e, ?_,h.qa e _ (by simp),H4.set _ _ (RI.JU.2 (.inr (.inl (Nu e))))⟩;have:b*2+2<=(CS t.bl).length:=by rw[J2]; omega
 simp only[H0,a,Ada,Adn,IN,Nat.reduceAdd,this,Aah,U8 _ _ _ _ hb]
theorem jL (l:List (Int × Int)) (b:Nat) (x:Int) (hb:b<l.length):(CS l).set (b*2) (qIi x)=CS (l.set b (x,(l.getD b (0,0)).2)):=by
 rw[U8 _ _ _ _ hb];have h1:=(U7 l b hb).2;rw[Af8] at h1;have hlen:=J2 l;apply Ady;intro p;unfold Ba;by_cases hp:p=b*2
 ·subst hp;rw[Abq (by omega),Aae,Acr (by simp; omega)];simp[Adc,Af3 (show b*2<=(CS l).length by omega)]
 ·rw[Aaf (Ac9 hp),Aae];by_cases a:p<b*2
  ·rw[AT (by simp; omega),List.getElem?_take_of_lt a]
  ·rw[Acr (by simp; omega),Adc,Af3 (show b*2<=(CS l).length by omega)];by_cases c:p=b*2+1
   ·subst c;rw[h1,show b*2+1-b*2=1 from by omega];rfl
   ·rw[Acr (by simp; omega),Adq];congr 1;simp only[Ada,Adn];omega
theorem JH.vS (h:JH J i t) {b:Nat} (hb:b<t.bl.length) (x:Int):∃ q,i.bs.1=some ⟨q,0,none⟩/\AX.CX J q (b*2) (qIi x)=some (J.set q (.cells (CS (t.bl.set b (x,(t.bl.getD b (0,0)).2))) As true)) /\
  JH (J.set q (.cells (CS (t.bl.set b (x,(t.bl.getD b (0,0)).2))) As true)) i { t with bl:=t.bl.set b (x,(t.bl.getD b (0,0)).2) }/\H4 i i J (J.set q (.cells (CS (t.bl.set b (x,(t.bl.getD b (0,0)).2))) As true)):=by
 obtain ⟨q,e,c,d,a⟩:=Xp h.bl hb;refine ⟨q,e, ?_,h.qa e _ (by simp),H4.set _ _ (RI.JU.2 (.inr (.inl (Nu e))))⟩;have:b*2<(CS t.bl).length:=by rw[J2]; omega
 simp only[AX.CX,a,this,Aah,jL _ _ _ hb]
theorem Zk (l:List (Int × Int)) (b c:Nat) (e:Int × Int):(l.set b e).getD c (0,0)=if c=b/\b<l.length then e else l.getD c (0,0):=by
 rw[Abi,Ad2];by_cases h:b=c
 ·subst h;by_cases a:b<l.length
  ·simp[a]
  ·simp[a]
 ·rw[Abo h,Abo (fun d=>h d.1.symm),Abi]
theorem ij (b:Nat) (e:Int × Int):∀ (n x:Nat) (l:List (Int × Int)) (c:Nat),b+x+n<=l.length->(VV l b e n x).getD c (0,0)=if b+x<=c/\c<b+x+n then e else l.getD c (0,0)
 | 0,x,l,c,h=>by rw[VV,Abo (by omega)]
 | n+1,x,l,c,h=>by
   rw[VV,ij b e n (x+1) _ c (by rw[Ac8]; omega),Zk];by_cases h1:b+(x+1)<=c/\c<b+(x+1)+n
   ·rw[Abm h1,Abm (show b+x<=c/\c<b+x+(n+1) by omega)]
   ·rw[Abo h1];by_cases a:c=b+x
    ·rw[Abm ⟨a,by omega⟩,Abm (show b+x<=c/\c<b+x+(n+1) by omega)]
    ·rw[Abo (show ¬ (c=b+x/\b+x<l.length) from fun d=>a d.1),Abo (show ¬ (b+x<=c/\c<b+x+(n+1)) by omega)]
def FZ (m:HM):Prop:=∀ c,(m.bls.getD c (0,0)).1=0->(m.bls.getD c (0,0)).2=0
theorem UM {l:List (Int × Int)} {b:Nat} (d:∀ c,(l.getD c (0,0)).1=0->(l.getD c (0,0)).2=0):∀ (n x:Nat),KF l b n x=none ↔ ∀ c,x<=c->c<x+n->(l.getD (b+c) (0,0)).1=0
 | 0,x=>by simp[KF]; intro c h1 a; omega
 | n+1,x=>by
   rw[KF];by_cases h:(l.getD (b+x) (0,0)).1=0
   ·rw[Abm ⟨h,d _ h⟩,UM d n (x+1)];constructor
    ·intro g c h1 a;by_cases e:c=x
     ·rw[e]; exact h
     ·exact g c (by omega) (by omega)
    ·intro g c h1 a;exact g c (by omega) (by omega)
   ·rw[Abo (fun f=>h f.1)];constructor
    ·intro g; cases g
    ·intro g; exact absurd (g x (Abp _) (by omega)) h
end
section
local instance qRX:AH:=Ao
variable {J:Aa} {m:HM} {t:RM} {i:RI}
theorem gC (k:Nat) (h:RG J i m t) (b:Int):Fb (k+1) (Bk i) b J=some (.bool (decide (1<=b/\b<(m.bls.length:Int))),J):=by
 rw[SO];by_cases h0:1<=b
 ·rw[Aad (show b>=1 from h0)];simp only[IS,AI,IN,Abn,h.at_.HI,h.bn,h0,true_and]
 ·rw[Aac (show ¬ b>=1 from h0),Aac (fun a=>h0 a.1)];simp only[By,AI]
theorem gF (k:Nat) (y:Int) (J:Aa):IH (k+1) y J=some (.bool (ZP y),J):=by
 rw[XZ];unfold ZP;by_cases h0:0<=y <;> simp[h0]
theorem sr (k:Nat) (h:RG J i m t) (j:LH m) (v:FZ m) (b s:Int):Fg (Gu (k+2) (Bk i) b s J) J i (qIi (BA m b 1 1 s 0 0).1) (BA m b 1 1 s 0 0).2:=by
 have u:=h.nt;rw[SF];simp only[LD k h,gC k h b,gF k s,AI,An,Abr,By];unfold BA;by_cases d:1<=b/\b<(m.bls.length:Int);rotate_left
 ·rw[Abo (fun a=>d ⟨a.1,a.2.1⟩),Aac d];exact Fg.NK h j (by simp only[Ac7,IS,AI])
 rw[Aad d];simp only[Abr,By,AI];cases hs:ZP s with
 | false=>
   rw[Abo (fun a=>by have:=a.2.2.2.2; cases this)];exact Fg.NK h j (by simp only[Ac7,IS])
 | true=>
   rw[Abm ⟨d.1,d.2,by omega,by omega,rfl⟩];obtain ⟨n,rfl⟩:∃ n:Nat,b=(n:Int):=⟨b.toNat,by omega⟩;have o:n<m.bls.length:=by omega
   obtain ⟨q,e,x,C,B⟩:=Xw h o;have z:=qSu n m.bls.length (by omega);simp only[Abr,By,IN,Abn,h.at_.HI,h.bn,AI,z,Aah,e,IT,x,show (1:Int).toNat=1 from rfl];have hu:KF m.bls n 1 0=none↔(m.bls.getD n (0,0)).1=0:=by
    rw[UM v];constructor
    ·intro g; exact g 0 (Abp _) (by omega)
    ·intro g c h1 A;rw[show c=0 from by omega]; exact g
   by_cases f:(m.bls.getD n (0,0)).1=0
   ·rw[Abm (hu.2 f)];simp only[f,Abt,By];obtain ⟨y,l,p,r,w⟩:=h.at_.stB (b:=n) (by rw[h.bn]; exact o) 1 s;have:y=q:=by rw[e] at l; cases l; rfl
    subst this;refine ⟨_,i,_,by simp only[p,AI],r, ?_, ?_,w⟩
    ·rw[h.sim.bl];have:(VV m.bls n (0,0) 1 0).set n (1,s)=m.bls.set n (1,s):=by
      show (m.bls.set (n+0) (0,0)).set n (1,s)=_;rw[Abn,List.set_set]
     rw[this];exact h.sim.blocks _ (by simp)
    ·exact j.blocks _ (by rw[Ac8,J4])
   ·rw[Abo (fun a=>f (hu.1 a))];simp only[Adp.2 f,IS];exact Fg.NK h j rfl
theorem VE (k:Nat) (h:RG J i m t) (o:FZ m) {b c:Nat} (a:b+c<=m.bls.length):∀ (n x f:Nat),x+n=c->n<f->Cr k f (Bk i) (b:Int) (c:Int) ((b+x:Nat):Int) J=some (match KF m.bls b n x with | none=>(.exit 0,[],J) | some _=>(.ret,[qIi 8],J))
 | 0,x,0,l,d=>by omega
 | 0,x,f+1,l,d=>by
   have j:=h.nt;rw[Jy];have w:Ar ((b:Int)+(c:Int))=((b+c:Nat):Int):=Ai (by unfold AO; omega);simp only[w,Aac (show ¬ ((b+x:Nat):Int)<((b+c:Nat):Int) by omega),By,KF]
 | n+1,x,0,l,d=>by omega
 | n+1,x,f+1,l,d=>by
   have j:=h.nt;rw[Jy,KF];have w:Ar ((b:Int)+(c:Int))=((b+c:Nat):Int):=Ai (by unfold AO; omega);have u:Ar (((b+x:Nat):Int)+1)=((b+(x+1):Nat):Int):=Ai (by unfold AO; omega);obtain ⟨q,e,r,y,v⟩:=Xw h (b:=b+x) (by omega);have s:(0<=((b+x:Nat):Int)/\((b+x:Nat):Int)<((m.bls.length:Nat):Int))=True:=Adk (by omega);simp only[w,Aad (show ((b+x:Nat):Int)<((b+c:Nat):Int) by omega),IS,IN,Abn,h.at_.HI,h.bn,AI,s,Aah,e,IT,r];by_cases g:(m.bls.getD (b+x) (0,0)).1=0
   ·rw[Abm ⟨g,o _ g⟩];simp only[g,Abt,By,u];exact VE k h o a n (x+1) f (by omega) (by omega)
   ·rw[Abo (fun p=>g p.1)];simp only[Adp.2 g,IS]
theorem VF (k:Nat) {b c:Nat} (s:Int):∀ (n x f:Nat) (J:Aa) (t:RM),JH J i t->t.bl.length<=64->b+c<=t.bl.length->x+n=c->n<f ->
  ∃ J',Cs k f (Bk i) (b:Int) (c:Int) s ((b+x:Nat):Int) J=some (.exit 2,[],J')/\JH J' i { t with bl:=VV t.bl b (3,s) n x }/\H4 i i J J'
 | 0,x,0,J,t,h,a,hb,g,d=>by omega
 | 0,x,f+1,J,t,h,a,hb,g,d=>by
   rw[Jz];have w:Ar ((b:Int)+(c:Int))=((b+c:Nat):Int):=Ai (by unfold AO; omega);exact ⟨J,by simp only[w,Aac (show ¬ ((b+x:Nat):Int)<((b+c:Nat):Int) by omega),By],h,H4.refl _ _⟩
 | n+1,x,0,J,t,h,a,hb,g,d=>by omega
 | n+1,x,f+1,J,t,h,a,hb,g,d=>by
   have w:Ar ((b:Int)+(c:Int))=((b+c:Nat):Int):=Ai (by unfold AO; omega);have v:Ar (((b+x:Nat):Int)+1)=((b+(x+1):Nat):Int):=Ai (by unfold AO; omega);obtain ⟨q,e,j,m,p⟩:=h.stB (b:=b+x) (by omega) 3 s;obtain ⟨J',l,o,r⟩:=VF k s n (x+1) f _ _ m (by show (t.bl.set _ _).length<=64; rw[Ac8]; exact a) (by show _<=(t.bl.set _ _).length; rw[Ac8]; exact hb) (by omega) (by omega);refine ⟨J', ?_,o,p.trans r⟩;rw[Jz];have u:(0<=((b+x:Nat):Int)/\((b+x:Nat):Int)<((t.bl.length:Nat):Int))=True:=Adk (by omega);simp only[w,Aad (show ((b+x:Nat):Int)<((b+c:Nat):Int) by omega),IS,IN,Abn,h.HI,AI,u,Aah,e,IT,j,v];exact l
theorem cQ (k:Nat) (H:100<=k) (h:RG J i m t) (e:LH m) (C:FZ m) (b c s:Int) (hb:AO b) (G:AO c):Fg (DT (k+2) (Bk i) b c s J) J i (qIi (BA m b c 2 s 3 s).1) (BA m b c 2 s 3 s).2:=by
 have p:=h.nt;have d:=h.bn;rw[OM];simp only[LD k h,gC k h b,gF k s,AI,An,Abr,By];unfold BA;by_cases g:1<=b/\b<(m.bls.length:Int);rotate_left
 ·rw[Abo (fun a=>g ⟨a.1,a.2.1⟩),Aac g];exact Fg.NK h e (by simp only[Ac7,IS,AI])
 obtain ⟨n,rfl⟩:∃ n:Nat,b=(n:Int):=⟨b.toNat,by omega⟩;have I:n<m.bls.length:=by omega
 have wd:Ar (((m.bls.length:Nat):Int)-(n:Int))=((m.bls.length-n:Nat):Int):=by rw[Ai (by unfold AO; omega)]; omega
 rw[Aad g];simp only[Abr,By,AI];by_cases u:c<1
 ·rw[Abo (fun a=>by have:=a.2.2.1; omega)];exact Fg.NK h e (by simp only[Aad u,IS,AI])
 simp only[Aac u,By,AI,IN,Abn,h.at_.HI,h.bn,wd];by_cases v:c>((m.bls.length-n:Nat):Int)
 ·rw[Abo (fun a=>by have:=a.2.2.2.1; omega)];exact Fg.NK h e (by simp only[Aad v,IS,AI])
 simp only[Aac v,By,AI];cases hs:ZP s with
 | false=>
   rw[Abo (fun a=>by have:=a.2.2.2.2; cases this)];exact Fg.NK h e (by simp only[Ac7,IS])
 | true=>
   rw[Abm ⟨g.1,g.2,by omega,by omega,rfl⟩];obtain ⟨w,rfl⟩:∃ w:Nat,c=(w:Int):=⟨c.toNat,by omega⟩;have hw:n+w<=m.bls.length:=by omega
   have x:Cr (k+1) (k+1) (Bk i) (n:Int) (w:Int) (n:Int) J=_:=VE (k+1) h C hw w 0 (k+1) (by omega) (by omega);simp only[Abr,By,x,AI,IT];cases F:KF m.bls n w 0 with
   | none=>
     simp only[Aah];obtain ⟨J1_,y,h1,D⟩:=VF (i:=i) (k+1) (b:=n) (c:=w) s w 0 (k+1) J t h.at_ (by rw[d]; exact p) (by rw[d]; exact hw) (by omega) (by omega);have l:Cs (k+1) (k+1) (Bk i) (n:Int) (w:Int) s (n:Int) J=_:=y;have o:(VV t.bl n (3,s) w 0).length=m.bls.length:=by rw[J4,d]
     obtain ⟨q,r,z,A,K⟩:=h1.vS (b:=n) (by show n<(VV t.bl n (3,s) w 0).length; omega) 2;have B:((VV t.bl n (3,s) w 0).getD n (0,0)).2=s:=by
      rw[ij n (3,s) w 0 t.bl n (by omega),Abm (by omega)]
     have f:AX.CX J1_ q (n*2) (qIi 2)=some (J1_.set q (.cells (CS ((VV t.bl n (3,s) w 0).set n (2,((VV t.bl n (3,s) w 0).getD n (0,0)).2))) As true)):=z;have j:JH (J1_.set q (.cells (CS ((VV t.bl n (3,s) w 0).set n (2,((VV t.bl n (3,s) w 0).getD n (0,0)).2))) As true)) i { t with bl:=(VV t.bl n (3,s) w 0).set n (2,((VV t.bl n (3,s) w 0).getD n (0,0)).2) }:=A;have ld:Bd J1_ i.hb 0=some (i.bs.1,(VV t.bl n (3,s) w 0).length,(VV t.bl n (3,s) w 0).length):=h1.HI;rw[B] at f j;have E:=qSu n m.bls.length (by omega);refine ⟨J1_.set q (.cells (CS ((VV t.bl n (3,s) w 0).set n (2,s))) As true),i,{ t with bl:=(VV m.bls n (3,s) w 0).set n (2,s) }, ?_, ?_, ?_, ?_⟩
     ·simp only[Aah,l,AI,ld,o,E,Aah,r,IT,IN,f]
     ·rw[<- h.sim.bl]; exact j
     ·exact h.sim.blocks _ (by rw[Ac8,J4])
     ·exact ⟨e.blocks _ (by rw[Ac8,J4]),D.trans (H4.set _ _ (RI.JU.2 (.inr (.inl (Nu r)))))⟩
   | some L=>
     simp only[reduceCtorEq,Abs,Aah,Ey];exact Fg.NK h e rfl
end
section
local instance qRY:AH:=Ao
variable {J:Aa} {m:HM} {t:RM} {i:RI}
theorem Qz {ρ:Type} {x:Option Value} {d top v:Nat} (h:x=some (qIi (v:Int))\/(x=none/\d=v)) (a:v<=top) (K:Nat->Option ρ):bound x d top K=K v:=by
 rcases h with rfl | ⟨rfl,rfl⟩
 ·show (if 0<=(v:Int)/\(v:Int)<=(top:Int) then K (v:Int).toNat else none)=K v;rw[Abm (by omega),IT]
 ·rfl
theorem W9 {E:TypeId} {s:Nat} {g:Bv} {f:Nat} {a:List Value} (h0:Cq E s J g f a) (lo hi:Nat) (k:lo<=hi) (p:hi<=f) (L H:Option Value) (m:L=some (qIi (lo:Int))\/(L=none/\0=lo)) (l:H=some (qIi (hi:Int))\/(H=none/\f=hi)):
  ∃ src c,Gh E s (g.1,f,f) L H none J=some (src,hi-lo,c)/\CZ J s src (hi-lo)=some ((a.drop (lo*s)).take ((hi-lo)*s)):=by
 unfold Gh;simp only[Aem,Ac7,Agu,IS];rw[Qz (v:=f) (.inr ⟨rfl,rfl⟩) (Abp _),Qz l p,Qz m k];rcases h0 with ⟨rfl,rfl,rfl⟩ | ⟨b,rfl,_,q,d⟩
 ·have i:hi=0:=by omega
  have j:lo=0:=by omega
  subst i; subst j;exact ⟨none,0,by simp,by simp[CZ]⟩
 ·have i:elemAt J b=some E:=by simp only[elemAt,d]
  have ld:∀ o n,o+n<=a.length->Nh J b o n=some ((a.drop o).take n):=fun o n h=>by simp only[Nh,d]; rw[Abm h]
  by_cases e:f=lo
  ·have j:hi-lo=0:=by omega
   refine ⟨some ⟨b,0,none⟩,0, ?_, ?_⟩
   ·rw[Abm e,j];simp only[By,i,Aah]
   ·rw[j,Adw];simp only[CZ,Adw];rw[ld 0 0 (by omega)]; rfl
  ·refine ⟨some ⟨b,0+lo*s,none⟩,f-lo, ?_, ?_⟩
   ·rw[Abo e];simp only[AI,i,Aah]
   ·simp only[CZ,IN];refine ld _ _ ?_;rw[q,<- Afv];exact Aeh _ (by omega)
theorem xL {b o:Nat} {cs:List Value} {T:TypeId} (h:J[b]?=some (.cells cs T true)) (a:o<=cs.length):H0 J b o []=some J:=by
 simp only[H0,h,Adn,Abn,a,Aah,Ba,Abu,Ae3];rw[Uz h]
theorem jI {E:TypeId} {s by_:Nat} {z:Value} (hs:HR P E=some s) (hb:bytesOf P E=some by_) (i:FR P E=some z) (f:Gn z=false) (g:z.cells.size=s) (d:0<s)
  (J:Aa) (sl:Bv) (n:Nat) (row:List Value) (src:qOi) (c:Nat) (e:Cq E s J sl n row) (h:CZ J s src 0=some []):
  AG P E sl (src,0,c) J=some (sl,J):=by
 unfold AG LB;simp only[hs,hb,i,AI,h];have h1:(¬ (Gn z=false/\some s=some z.cells.size/\0<z.cells.size))=False:=by
  rw[f,g]; simp[d]
 simp only[h1,Abs];rcases e with ⟨rfl,rfl,rfl⟩ | ⟨b,rfl,hp,j,a⟩
 ·simp only[Abn,Abp,Aah,HQ,IS,qh]
 ·simp only[Abn,Abp,Aah,HQ,Aem,By,AI,IN];rw[xL a (by omega)];simp only[AI,qh]
theorem P9 {E:TypeId} {s by_:Nat} {z:Value} (hs:HR P E=some s) (hb:bytesOf P E=some by_) (w:FR P E=some z) (m:Gn z=false) (o:z.cells.size=s) (l:0<s) (t:0<by_) (u:by_<=1000)
  (J τ:Aa) (sl:Bv) (n:Nat) (row:List Value) (f:Cq E s (J++τ) sl n row) (k:∀ a,sl.1=some a->J.length<=a.block) {p:Bv} {j:Nat} {d:List Value} (h0:Cq E s (J++τ) p j d) (lo hi:Nat) (v:lo<=hi) (C:hi<=j) (G:n+j<=1000000)
  (L H:Option Value) (B:L=some (qIi (lo:Int))\/(L=none/\0=lo)) (A:H=some (qIi (hi:Int))\/(H=none/\j=hi)):
  ∃ src,Gh E s (p.1,j,j) L H none (J++τ)=some src /\ ∃ s' q,AG P E sl (src.1,src.2.1,src.2.2) (J++τ)=some (s',J++q)/\Cq E s (J++q) s' (n+(hi-lo)) (row++(d.drop (lo*s)).take ((hi-lo)*s))/\(∀ a,s'.1=some a->J.length<=a.block):=by
 obtain ⟨src,c,x,r⟩:=W9 h0 lo hi v C L H B A;refine ⟨_,x, ?_⟩;have hlen:((d.drop (lo*s)).take ((hi-lo)*s)).length=(hi-lo)*s:=by
  have F:d.length=j*s:=by
   rcases h0 with ⟨rfl,rfl,rfl⟩ | ⟨b,rfl,_,D,_⟩
   ·simp
   ·exact D
  rw[Adc,Adf,F,<- Nat.sub_mul];exact Af3 (Aeh _ (by omega))
 by_cases i:hi-lo=0
 ·rw[i,Adw,Agk] at r;refine ⟨sl,τ, ?_, ?_,k⟩
  ·simp only[i];exact jI hs hb w m o l _ sl n row src c f r
  ·rw[i,Adw,Agk,Abu]; exact f
 ·obtain ⟨s',J',e,g,h⟩:=VT hs hb w m o l t u (J++τ) sl n row src (hi-lo) c _ (by omega) (by omega) hlen f r;obtain ⟨⟨q,rfl⟩,y⟩:=g.behind k;exact ⟨s',q,e,h,y⟩
theorem szO:HR P Ab=some 8:=by kernel_rfl
theorem byO:bytesOf P Ab=some 96:=by kernel_rfl
theorem zzO:FR P Ab=some (.agg #[qIi 0,qIi 0,qIi 0,qIi 0,qIi 0,.slice none 0 0,.slice none 0 0,.bool false]):=by kernel_rfl
theorem QS:∀ (l b:List RO) (om a:List (Bv × Bv)),om.length=l.length->DP (l++b) (om++a)=DP l om++DP b a
 | [],b,[],a,h=>rfl
 | [],b,p::om,a,h=>by simp at h
 | o::l,b,[],a,h=>by simp at h
 | o::l,b,p::om,a,h=>by
   simp only[Agm,DP,QS l b om a (by simpa using h),Aae]
theorem PM (l:List RO) (om:List (Bv × Bv)) (h:om.length=l.length) (a:Nat) (c:a<=l.length):(DP l om).take (a*8)=DP (l.take a) (om.take a)/\(DP l om).drop (a*8)=DP (l.drop a) (om.drop a):=by
 have e:DP l om=DP (l.take a) (om.take a)++DP (l.drop a) (om.drop a):=by
  rw[<- QS _ _ _ _ (by simp; omega),Ae3,Ae3]
 have b:(DP (l.take a) (om.take a)).length=a*8:=by rw[Ou _ _ (by simp; omega),Adc,Af3 c]
 rw[e];constructor
 ·rw[<- b,List.take_left]
 ·rw[<- b,List.drop_left]
theorem RT (a b:List (Bv × Bv)):Ri (a++b)=Ri a++Ri b:=by unfold Ri; rw[Ahc]
theorem Xn (p:Bv × Bv) (b:List (Bv × Bv)):Ri (p::b)=(hs p.1++hs p.2)++Ri b:=rfl
theorem Ow (om:List (Bv × Bv)) (x:Nat):Ri om=Ri (om.take x)++Ri (om.drop x):=by rw[<- RT,Ae3]
theorem gh {lo:Nat} {s:Bv} (h:∀ a,s.1=some a->lo<=a.block) {j:Nat} (c:j ∈ hs s):lo<=j:=by
 obtain ⟨a,b,rfl⟩:=BQ.1 c;exact h a b
theorem xC (k:Nat) (h:JH J i t) (L:t.ob.length<=5000) {x:Nat} (F:x<t.ob.length):∃ J' p,Jh (k+1) (Bk i) (x:Int) J=some (.tuple #[],J')/\JH J' { i with os:=p,om:=i.om.eraseIdx x } { t with ob:=t.ob.eraseIdx x }/\H4 i { i with os:=p,om:=i.om.eraseIdx x } J J'/\(∀ a,p.1=some a->J.length<=a.block)/\(∀ j,j<J.length->j≠i.hb->J'[j]?=J[j]?):=by
 have sep:=h.sep;have o:=h.ol;have h0:Cq Ab 8 (J++[]) i.os t.ob.length (DP t.ob i.om):=by rw[Abu]; exact h.ob
 obtain ⟨P,I,s1,S,G,v,U⟩:=P9 szO byO zzO rfl rfl (by decide) (by decide) (by decide) J [] (none,0,0) 0 [] (Cq.nil _ _ _) (by intro a d; cases d) h0 0 x (by omega) (by omega) (by omega) none (some (qIi (x:Int))) (.inr ⟨rfl,rfl⟩) (.inl rfl);rw[Adw,Ac6,Ahd,Aev,IN,(PM t.ob i.om o x (by omega)).1] at v;rw[Abu] at I G;have K:=h.app S;obtain ⟨Q,V,s2,q,T,n,H⟩:=P9 szO byO zzO rfl rfl (by decide) (by decide) (by decide) J S s1 x _ v U K.ob (x+1) t.ob.length (by omega) (Abp _) (by omega) (some (qIi ((x+1:Nat):Int))) none (.inl rfl) (.inr ⟨rfl,rfl⟩);rw[(PM t.ob i.om o (x+1) (by omega)).2,Ado (l:=DP (t.ob.drop (x+1)) (i.om.drop (x+1))) (by rw[Ou _ _ (by simp; omega),Adf]; exact Abp _),<- QS _ _ _ _ (by simp; omega)] at n;rw[<- Afg,<- Afg,show x+(t.ob.length-(x+1))=(t.ob.eraseIdx x).length from by rw[Af0 F]; omega] at n;have g:=h.app q;have c:∀ j ∈ Ri (i.om.eraseIdx x),j ∈ Ri i.om:=by
  intro j b;rw[Afg,RT] at b;rw[Ow i.om x,Ac2 (by omega),Xn];rcases Aag.1 b with b | b
  ·exact Aag.2 (.inl b)
  ·exact Aag.2 (.inr (Aag.2 (.inr b)))
 have C:(Ri (i.om.eraseIdx x)).Nodup:=by
  have:=sep.D;rw[Ow i.om x,Ac2 (by omega),Xn] at this;rw[Afg,RT];exact this.sublist (List.Sublist.append (List.Sublist.refl _) (List.sublist_append_right _ _))
 have B:=h.lt;have m:∀ {j},j ∈ i.l->j<J.length:=fun b=>B _ b;have hB:∀ j ∈ hs s2,J.length<=j:=fun j b=>gh H b;have M:∀ j ∈ hs i.bs,j<J.length:=fun j b=>m (RI.JU.2 (.inr (.inl b)));have N:∀ j ∈ hs i.fs,j<J.length:=fun j b=>m (RI.JU.2 (.inr (.inr (.inr (.inl b)))));have O:∀ j ∈ Ri i.om,j<J.length:=fun j b=>m (RI.JU.2 (.inr (.inr (.inr (.inr b)))));have Y:=m i.LK;have u:Sep { i with os:=s2,om:=i.om.eraseIdx x }:=
  { hA:=sep.hA,hB:=fun f=>Ag0.2 (hB _ f) Y,hC:=sep.hC,hD:=fun f=>sep.hD (c _ f),
    AB:=fun a d f=>by have:=hB _ f; have:=M _ d; omega,AC:=sep.AC,AD:=fun a d f=>sep.AD a d (c _ f),
    BC:=fun a d f=>by have:=hB _ d; have:=N _ f; omega,BD:=fun a d f=>by have:=hB _ d; have:=O _ (c _ f); omega,CD:=fun a d f=>sep.CD a d (c _ f),D:=C };have s:∀ j ∈ RI.l { i with os:=s2,om:=i.om.eraseIdx x },j<(J++q).length:=by
  intro j b;rcases RI.JU.1 b with b | b | b | b | b
  ·have A:j=i.hb:=b;rw[A,Abe]; omega
  ·have:=M _ b; simp; omega
  ·obtain ⟨a,d,rfl⟩:=BQ.1 b; exact n.lt a d
  ·have:=N _ b; simp; omega
  ·have:=O _ (c _ b); simp; omega
 have r:∀ (y:Nat) (h1:y<(t.ob.eraseIdx x).length) (W:y<(i.om.eraseIdx x).length),Dw (J++q) (i.om.eraseIdx x)[y].1 (t.ob.eraseIdx x)[y].refs/\Dw (J++q) (i.om.eraseIdx x)[y].2 (t.ob.eraseIdx x)[y].data:=by
  intro y h1 W;rw[List.getElem_eraseIdx,List.getElem_eraseIdx];split
  ·exact g.inn y (by omega) (by omega)
  ·have Z:=Af0 F;exact g.inn (y+1) (by omega) (by omega)
 have X:=JH.kH (i:={ i with os:=s2,om:=i.om.eraseIdx x }) (t:={ t with ob:=t.ob.eraseIdx x }) g.bl n g.fw (by show (i.om.eraseIdx x).length=(t.ob.eraseIdx x).length; rw[Af0 F,Af0 (by omega),o]) r u s;refine ⟨_,s2, ?_,X,⟨by simp,fun j b L=>?_,fun j b=>?_,rfl⟩,H,fun j b E=>?_⟩
 ·rw[Ve];have w:=wSu x (by omega);have z:AX.CX (J++q) i.hb 1 (.slice s2.1 s2.2.1 s2.2.2)=some ((J++q).set i.hb (.cells [.slice i.bs.1 i.bs.2.1 i.bs.2.2,.slice s2.1 s2.2.1 s2.2.2,.slice i.fs.1 i.fs.2.1 i.fs.2.2,qIi t.born] Db true)):=by
   simp[AX.CX,g.hp]
  simp only[AI,IN,h.EX,I,G,K.EX,w,V,T,z]
 ·have:i.hb≠j:=fun e=>L (by rw[<- e]; exact i.LK);rw[Aaf this,AT b]
 ·rcases RI.JU.1 b with b | b | b | b | b
  ·exact .inl (by rw[b]; exact i.LK)
  ·exact .inl (RI.JU.2 (.inr (.inl b)))
  ·exact .inr (hB _ b)
  ·exact .inl (RI.JU.2 (.inr (.inr (.inr (.inl b)))))
  ·exact .inl (RI.JU.2 (.inr (.inr (.inr (.inr (c _ b))))))
 ·rw[Aaf (Ac9 E),AT b]
theorem dg (k:Nat) (h:JH J i t) (m:t.ob.length<=5000) {q:Nat} {a:Int} (l:Aj .i64 J q 0=some a):∀ (n x f:Nat),x+n=t.ob.length->n<f->EA k f (Bk i) q (x:Int) J=some (.exit 0,[qIi ((x+RW (t.ob.drop x) a:Nat):Int)],J)
 | 0,x,0,j,d=>by omega
 | 0,x,f+1,j,d=>by
   rw[MA,Ac5 (by omega)];simp only[AI,IN,h.EX,Aac (show ¬ (x:Int)<((t.ob.length:Nat):Int) by omega),By,RW,Abn]
 | n+1,x,0,j,d=>by omega
 | n+1,x,f+1,j,d=>by
   have c:x<t.ob.length:=by omega
   obtain ⟨b,e,r,L⟩:=h.obj c;have L:=L (by rw[h.ol]; exact c);have o:=qSu x t.ob.length (by omega);have p:=wSu x (by omega);rw[MA,Ac2 c,RW];simp only[AI,IN,Abn,h.EX,Aad (show (x:Int)<((t.ob.length:Nat):Int) by omega),IS,o,Aah,e,IT,L.l0,l];by_cases g:t.ob[x].addr<a
   ·rw[Aad g,Abm g];simp only[IS,p];rw[dg k h m l n (x+1) f (by omega) (by omega),show x+1+RW (t.ob.drop (x+1)) a=x+(RW (t.ob.drop (x+1)) a+1) from by omega]
   ·rw[Aac g,Abo g];simp only[By,Abn]
theorem Zl {α:Type} (l:List α) (n:Nat) (f:n<=l.length) (a:α) (y:Nat) (e:y<(l.take n++a::l.drop n).length):(l.take n++a::l.drop n)[y]=if h:y<n then l[y] else if b:y=n then a else l[y-1]'(by simp at e; omega):=by
 have c:(l.take n).length=n:=by rw[Adc]; omega
 split
 ·rename_i h;rw[Afm (by omega),Aei]
 ·split
  ·rename_i h b;subst b;rw[Aey (by omega)];simp only[c,Afb,Afu]
  ·rename_i h b;obtain ⟨d,rfl⟩:∃ d,y=n+1+d:=⟨y-n-1,by omega⟩;rw[Aey (by omega)];simp only[c,show n+1+d-n=d+1 from by omega,Af9,Aet];congr 1;omega
theorem xE (k:Nat) (hk:5000<=k) (h:JH J i t) (hn:t.ob.length<=4900) (o:RO) (p:Bv × Bv) (af:Dw J p.1 o.refs) (ag:Dw J p.2 o.data) (F:∀ j,j ∈ hs p.1\/j ∈ hs p.2->j<J.length/\j ∉ i.l) (ah:(hs p.1++hs p.2).Nodup):
  ∃ J' G,Hx (k+1) (Bk i) o.addr o.id o.r o.d o.k p.1 p.2 o.Ww J=some (.tuple #[],J')/\JH J' { i with os:=G,om:=i.om.take (RW t.ob o.addr)++p::i.om.drop (RW t.ob o.addr) } { t with ob:=Uq t.ob o } /\
   (∀ j,j<J.length->j≠i.hb->J'[j]?=J[j]?)/\J.length<=J'.length/\(∀ a,G.1=some a->J.length<=a.block)/\(∀ j,j ∈ RI.l { i with os:=G,om:=i.om.take (RW t.ob o.addr)++p::i.om.drop (RW t.ob o.addr) }->j ∈ i.l\/j ∈ hs p.1\/j ∈ hs p.2\/J.length<=j):=by
 have sep:=h.sep;have T:=h.ol;obtain ⟨n,Y⟩:∃ n,RW t.ob o.addr=n:=⟨_,rfl⟩;have w:n<=t.ob.length:=by rw[<- Y]; exact pR _ _
 obtain ⟨B,hB⟩:∃ B,Au.cells (Bu o p) Ab true=B:=⟨_,rfl⟩;have hb:=h.app [B];have K:∀ (τ:Aa) (x:Nat),Aj .i64 (J++([B]++τ)) J.length x=((Bu o p)[x]?).bind (Bl .i64):=fun τ x=>by rw[<- hB]; simp[Aj,CV]
 have U:∀ (τ:Aa) (x:Nat),Bd (J++([B]++τ)) J.length x=((Bu o p)[x]?).bind Ej:=fun τ x=>by rw[<- hB]; simp[Bd,CV]
 have ai:∀ (τ:Aa) (x:Nat),Vu (J++([B]++τ)) J.length x=((Bu o p)[x]?).bind Dk:=fun τ x=>by rw[<- hB]; simp[Vu,CV]
 have e0:=dg k hb (by show t.ob.length<=5000; omega) (q:=J.length) (a:=o.addr) (by have:=K [] 0; rw[Abu] at this; rw[this]; rfl) t.ob.length 0 k (by omega) (by omega);rw[Ac6,IN,Y] at e0;have aa:EA k k (Bk i) J.length 0 (J++[B])=_:=e0;obtain ⟨ak,e1,s1,τ1,a1,W,b1⟩:=P9 szO byO zzO rfl rfl (by decide) (by decide) (by decide) (J++[B]) [] (none,0,0) 0 [] (Cq.nil _ _ _) (by intro a d; cases d) (by rw[Abu]; exact hb.ob) 0 n (by omega) w (by omega) none (some (qIi (n:Int))) (.inr ⟨rfl,rfl⟩) (.inl rfl);rw[Adw,Ac6,Ahd,Aev,IN,(PM t.ob i.om T n w).1] at W;rw[Abu] at e1 a1;obtain ⟨s2,τ2,a2,aj,b2⟩:=PT szO byO zzO rfl rfl (by decide) (by decide) (by decide) (J++[B]) τ1 s1 n _ 1 1 (Bu o p) Ab (by omega) (by decide) rfl W b1;have L:AG P Ab (s1.1,s1.2.1,s1.2.2) (some ⟨(J++[B]++τ1).length,0,none⟩,1,1) (J++[B]++τ1++[Au.cells [qIi o.addr,qIi o.id,qIi o.r,qIi o.d,qIi o.k,.slice p.1.1 p.1.2.1 p.1.2.2,.slice p.2.1 p.2.2.1 p.2.2.2,.bool o.Ww] Ab true])=some (s2,J++[B]++τ2):=a2;have O:=hb.app τ2;obtain ⟨am,e3,z,I,a3,C,b3⟩:=P9 szO byO zzO rfl rfl (by decide) (by decide) (by decide) (J++[B]) τ2 s2 (n+1) _ aj b2 O.ob n t.ob.length w (Abp _) (by omega) (some (qIi (n:Int))) none (.inl rfl) (.inr ⟨rfl,rfl⟩);rw[(PM t.ob i.om T n w).2,Ado (l:=DP (t.ob.drop n) (i.om.drop n)) (by rw[Ou _ _ (by simp; omega),Adf]; exact Abp _),Aae (DP (t.ob.take n) (i.om.take n)) (Bu o p),show Bu o p++DP (t.ob.drop n) (i.om.drop n)=DP (o::t.ob.drop n) (p::i.om.drop n) from rfl,<- QS _ _ _ _ (by simp; omega)] at C;have v:Uq t.ob o=t.ob.take n++o::t.ob.drop n:=by unfold Uq; rw[Y]
 have hlen:(Uq t.ob o).length=n+1+(t.ob.length-n):=by rw[v]; simp; omega
 rw[<- v,<- hlen,Aae] at C;have u:=h.app ([B]++I);have ac:=h.lt;have A:∀ {j},j ∈ i.l->j<J.length:=fun c=>ac _ c;have r:∀ j ∈ hs z,J.length<=j:=fun j c=>by have:=gh b3 c; simp at this; omega
 have mA:∀ j ∈ hs i.bs,j<J.length:=fun j c=>A (RI.JU.2 (.inr (.inl c)));have mC:∀ j ∈ hs i.fs,j<J.length:=fun j c=>A (RI.JU.2 (.inr (.inr (.inr (.inl c)))));have mD:∀ j ∈ Ri i.om,j<J.length:=fun j c=>A (RI.JU.2 (.inr (.inr (.inr (.inr c)))));have mh:=A i.LK;have f:∀ j,j ∈ Ri (i.om.take n++p::i.om.drop n)↔j ∈ Ri i.om\/j ∈ hs p.1\/j ∈ hs p.2:=by
  intro j;rw[RT,Xn,Ow i.om n];simp only[Aag];constructor
  ·rintro (h | (h | h) | h)
   ·exact .inl (.inl h)
   ·exact .inr (.inl h)
   ·exact .inr (.inr h)
   ·exact .inl (.inr h)
  ·rintro ((h | h) | h | h)
   ·exact .inl h
   ·exact .inr (.inr h)
   ·exact .inr (.inl (.inl h))
   ·exact .inr (.inl (.inr h))
 have ad:(Ri (i.om.take n++p::i.om.drop n)).Nodup:=by
  have hD:=sep.D;rw[Ow i.om n] at hD;obtain ⟨d1,d2,d3⟩:=Adv.1 hD;have out:∀ j,j ∈ hs p.1++hs p.2->j ∉ Ri i.om:=fun j c hm=>(F j (Aag.1 c)).2 (RI.JU.2 (.inr (.inr (.inr (.inr hm)))));rw[RT,Xn];refine Adv.2 ⟨d1,Adv.2 ⟨ah,d2, ?_⟩, ?_⟩
  ·intro a d b m e;subst e;exact out a d (by rw[Ow i.om n]; exact Aag.2 (.inr m))
  ·intro a d b m e;subst e;rcases Aag.1 m with m | m
   ·exact out a m (by rw[Ow i.om n]; exact Aag.2 (.inl d))
   ·exact d3 a d a m rfl
 have E:∀ {j},j ∈ Ri (i.om.take n++p::i.om.drop n)->j<J.length:=fun c=>by
  rcases (f _).1 c with c | c
  ·exact mD _ c
  ·exact (F _ c).1
 have H:∀ {j},j ∈ i.hb::(hs i.bs++hs i.fs)->j ∉ Ri (i.om.take n++p::i.om.drop n):=fun {j} c hm=>by
  rcases (f _).1 hm with hm | hm
  ·rcases Acv.1 c with e | c
   ·exact sep.hD (e ▸ hm)
   ·rcases Aag.1 c with c | c
    ·exact sep.AD _ c hm
    ·exact sep.CD _ c hm
  ·refine (F _ hm).2 ?_;rcases Acv.1 c with e | c
   ·rw[e]; exact i.LK
   ·rcases Aag.1 c with c | c
    ·exact RI.JU.2 (.inr (.inl c))
    ·exact RI.JU.2 (.inr (.inr (.inr (.inl c))))
 rw[Y];have V:Sep { i with os:=z,om:=i.om.take n++p::i.om.drop n }:=
  { hA:=sep.hA,hB:=fun g=>Ag0.2 (r _ g) mh,hC:=sep.hC,hD:=fun g=>H (Ac0) g,
    AB:=fun a d g=>by have:=r _ g; have:=mA _ d; omega,AC:=sep.AC,AD:=fun a d g=>H (Abx _ (Aag.2 (.inl d))) g,
    BC:=fun a d g=>by have:=r _ d; have:=mC _ g; omega,BD:=fun a d g=>by have:=r _ d; have:=E g; omega,CD:=fun a d g=>H (Abx _ (Aag.2 (.inr d))) g,D:=ad };have S:∀ j ∈ RI.l { i with os:=z,om:=i.om.take n++p::i.om.drop n },j<(J++([B]++I)).length:=by
  intro j c;rcases RI.JU.1 c with c | c | c | c | c
  ·have ab:j=i.hb:=c;rw[ab,Abe]; omega
  ·have:=mA _ c; simp; omega
  ·obtain ⟨a,d,rfl⟩:=BQ.1 c; exact C.lt a d
  ·have:=mC _ c; simp; omega
  ·have:=E c; simp; omega
 have Q:∀ (y:Nat) (h1:y<(Uq t.ob o).length) (h2:y<(i.om.take n++p::i.om.drop n).length),Dw (J++([B]++I)) (i.om.take n++p::i.om.drop n)[y].1 (Uq t.ob o)[y].refs/\Dw (J++([B]++I)) (i.om.take n++p::i.om.drop n)[y].2 (Uq t.ob o)[y].data:=by
  intro y h1 h2;simp only[v] at h1 ⊢;rw[Zl t.ob n w o y h1,Zl i.om n (by omega) p y h2];have an:(t.ob.take n++o::t.ob.drop n).length=t.ob.length+1:=by simp; omega
  by_cases M:y<n
  ·simp only[M,dite_true];exact u.inn y (by omega) (by omega)
  ·by_cases X:y=n
   ·simp only[M,X,dite_false,dite_true,Aew];exact ⟨af.app _,ag.app _⟩
   ·simp only[M,X,dite_false];exact u.inn (y-1) (by omega) (by omega)
 have hR:=JH.kH (i:={ i with os:=z,om:=i.om.take n++p::i.om.drop n }) (t:={ t with ob:=Uq t.ob o }) u.bl C u.fw (by show (i.om.take n++p::i.om.drop n).length=(Uq t.ob o).length; rw[hlen]; simp; omega) Q V S;refine ⟨_,z, ?_,hR,fun j c ae=>?_,by simp,fun a d=>by have:=b3 a d; simp at this; omega,fun j c=>?_⟩
 ·rw[Vg];have N:AX.CX (J++([B]++I)) i.hb 1 (.slice z.1 z.2.1 z.2.2)=some ((J++([B]++I)).set i.hb (.cells [.slice i.bs.1 i.bs.2.1 i.bs.2.2,.slice z.1 z.2.1 z.2.2,.slice i.fs.1 i.fs.2.1 i.fs.2.2,qIi t.born] Db true)):=by
   have g:=u.hp;generalize J++([B]++I)=Z at g ⊢;simp[AX.CX,g]
  have c0:∀ τ,Aj .i64 (J++[B]++τ) J.length 0=some o.addr:=fun τ=>by rw[Aae,K]; rfl
  have M:∀ τ,Aj .i64 (J++[B]++τ) J.length 1=some o.id:=fun τ=>by rw[Aae,K]; rfl
  have X:∀ τ,Aj .i64 (J++[B]++τ) J.length 2=some o.r:=fun τ=>by rw[Aae,K]; rfl
  have c3:∀ τ,Aj .i64 (J++[B]++τ) J.length 3=some o.d:=fun τ=>by rw[Aae,K]; rfl
  have c4:∀ τ,Aj .i64 (J++[B]++τ) J.length 4=some o.k:=fun τ=>by rw[Aae,K]; rfl
  have c5:∀ τ,Bd (J++[B]++τ) J.length 5=some (p.1.1,p.1.2.1,p.1.2.2):=fun τ=>by rw[Aae,U]; rfl
  have c6:∀ τ,Bd (J++[B]++τ) J.length 6=some (p.2.1,p.2.2.1,p.2.2.2):=fun τ=>by rw[Aae,U]; rfl
  have c7:∀ τ,Vu (J++[B]++τ) J.length 7=some o.Ww:=fun τ=>by rw[Aae,ai]; rfl
  have s:Au.cells [qIi o.addr,qIi o.id,qIi o.r,qIi o.d,qIi o.k,.slice p.1.1 p.1.2.1 p.1.2.2,.slice p.2.1 p.2.2.1 p.2.2.2,.bool o.Ww] Ab true=B:=hB;rw[<- Aae] at N;simp only[Ae,s,aa,AI,Aah,Ey,IN,Adt,Nat.reduceAdd,hb.EX,e1,a1,c0,M,X,c3,c4,c5,c6,c7];rw[<- s] at L ⊢;simp only[L,AI];rw[s];simp only[O.EX,e3,a3,AI,N];simp only[Aae]
 ·rw[Aaf (Ac9 ae),AT c]
 ·rcases RI.JU.1 c with c | c | c | c | c
  ·exact .inl (by rw[c]; exact i.LK)
  ·exact .inl (RI.JU.2 (.inr (.inl c)))
  ·exact .inr (.inr (.inr (r _ c)))
  ·exact .inl (RI.JU.2 (.inr (.inr (.inr (.inl c)))))
  ·rcases (f _).1 c with c | c | c
   ·exact .inl (RI.JU.2 (.inr (.inr (.inr (.inr c)))))
   ·exact .inr (.inl c)
   ·exact .inr (.inr (.inl c))
end
section
local instance qRZ:AH:=Ao
variable {J:Aa} {m:HM} {t:RM} {i:RI}
theorem uX (k:Nat) (o:5000<=k) (h:RG J i m t) (d:LH m) (l:Sh m) (a:Int):Fg (FG (k+4) (Bk i) a J) J i (qIi (Hs m a).1) (Hs m a).2:=by
 have q:=h.ol;rw[TB];have c:=L9 (k+1) (by omega) h a;simp only[Us k o h a,AI,Ah];unfold Hs;cases n:Ax m a with
 | false=>
   simp only[Abz,Abs,ne4,IS];exact Fg.NK h d rfl
 | true=>
   obtain ⟨x,j,b,p,F⟩:=h.found n;obtain ⟨J',s,e,g,r,_,_⟩:=xC (k+2) h.at_ (by omega) F.xl;have f:a.toNat/2=j:=by rw[F.e,IT]; omega
   obtain ⟨s1,s2⟩:=h.sim.kill h.inv l d F.st F.all;rw[f];simp only[Aah,Abt,By,c,AI,Ah,F.idx,e,Gg];exact ⟨J',_,_,rfl,g,s1,s2,r⟩
theorem kK {om:List (Bv × Bv)} (h:(Ri om).Nodup) {y z:Nat} (e:y<om.length) (f:z<om.length) {j:Nat} (c:j ∈ hs om[y].1\/j ∈ hs om[y].2) (d:j ∈ hs om[z].1\/j ∈ hs om[z].2):y=z:=by
 obtain ⟨_,g⟩:=List.pairwise_flatMap.1 h;have b:=Af1.1 g;rcases Aes y z with a | he | a
 ·exact absurd rfl (b y z e f a j (Aag.2 c) j (Aag.2 d))
 ·exact he
 ·exact absurd rfl (b z y f e a j (Aag.2 d) j (Aag.2 c))
theorem pI {om:List (Bv × Bv)} (h:(Ri om).Nodup) {y:Nat} (d:y<om.length) {j:Nat} (b:j ∈ hs om[y].1):j ∉ hs om[y].2:=by
 obtain ⟨h1,_⟩:=List.pairwise_flatMap.1 h;obtain ⟨_,_,a⟩:=Adv.1 (h1 _ (Ac4 d));exact fun c=>a j b j c rfl
theorem cH:∀ (l:List RO) (om:List (Bv × Bv)) (y:Nat) (c:y<l.length) (b:y<om.length) (o:RO),Bu o om[y]=Bu l[y] om[y]->DP (l.set y o) om=DP l om
 | [],om,y,c,_,_,_=>by simp at c
 | a::l,[],y,_,b,_,_=>by simp at b
 | a::l,p::om,0,c,b,o,h=>by
   simp only[Ae9,DP];rw[show Bu o p=Bu a p from h]
 | a::l,p::om,y+1,c,b,o,h=>by
   simp only[Aen,DP];rw[cH l om y (by simpa using c) (by simpa using b) o h]
theorem JH.yr (h:JH J i t) {y b:Nat} (q:y<t.ob.length) (f:y<i.om.length) (hb:b ∈ hs i.om[y].1\/b ∈ hs i.om[y].2) (c:Au) (o:RO) (n:Bu o i.om[y]=Bu t.ob[y] i.om[y]) (m:Dw (J.set b c) i.om[y].1 o.refs/\Dw (J.set b c) i.om[y].2 o.data):
  JH (J.set b c) i { t with ob:=t.ob.set y o }:=by
 have sep:=h.sep;have hm:b ∈ Ri i.om:=Js f hb;refine { hp:=?_,bl:=?_,ob:=?_,fw:=?_,ol:=by show _=(t.ob.set y o).length; rw[Ac8]; exact h.ol,inn:=?_,nd:=h.nd,lt:=fun j p=>by rw[Ac8]; exact h.lt j p }
 ·rw[Aaf (fun e:b=i.hb=>sep.hD (by rw[<- e]; exact hm))]; exact h.hp
 ·exact h.bl.Aw fun a k=>Aaf fun e:b=a.block=>sep.AD a.block (BQ.2 ⟨a,k,rfl⟩) (by rw[<- e]; exact hm)
 ·show Cq _ 8 _ _ (t.ob.set y o).length (DP (t.ob.set y o) i.om);rw[Ac8,cH _ _ _ q f _ n];exact h.ob.Aw fun a k=>Aaf fun e:b=a.block=>sep.BD a.block (BQ.2 ⟨a,k,rfl⟩) (by rw[<- e]; exact hm)
 ·exact h.fw.Aw fun a k=>Aaf fun e:b=a.block=>sep.CD a.block (BQ.2 ⟨a,k,rfl⟩) (by rw[<- e]; exact hm)
 ·intro z h1 l;have g:z<t.ob.length:=by simpa using h1
  show Dw _ i.om[z].1 (t.ob.set y o)[z].refs/\Dw _ i.om[z].2 (t.ob.set y o)[z].data;by_cases e:y=z
  ·subst e;rw[List.getElem_set_self];exact m
  ·rw[List.getElem_set_ne e];exact ⟨(h.inn z g l).1.Aw fun d hd=>Aaf fun e':b=d=>e (kK sep.D f l hb (.inl (by rw[e']; exact hd))),(h.inn z g l).2.Aw fun d hd=>Aaf fun e':b=d=>e (kK sep.D f l hb (.inr (by rw[e']; exact hd)))⟩
theorem zI (h:RG J i m t) (C:LH m) {a:Int} {x j b:Nat} {p:Bv × Bv} (F:Found J i m t a x j b p) (q:Nat) (D:2+q<use m j) (v:Int):
  ∃ f J' t',(if (q:Int)<Av m j then p.1.1=some ⟨f,0,none⟩/\AX.CX J f q (qIi v)=some J' else p.2.1=some ⟨f,0,none⟩/\AX.CX J f (q-(Av m j).toNat) (qIi v)=some J')/\JH J' i t'/\Rl (GW m (2*j+2+q) v) t'/\LH (GW m (2*j+2+q) v)/\H4 i i J J':=by
 have hu:=h.inv.use F.st;obtain ⟨s1,s2⟩:=h.sim.word h.inv C F.st F.all D v;obtain ⟨_,G,H,I,K,_⟩:=MX h.inv F.st;have k:x<i.om.length:=by rw[h.at_.ol]; exact F.xl
 have n:i.om[x]=p:=by have:=F.om; rw[Aaj k] at this; exact Ad8 this
 have y:t.ob[x]'F.xl=AQ m j:=by have:=F.ob; rw[Aaj F.xl] at this; exact Ad8 this
 have sep:=h.at_.sep;have z:(AQ m j).refs.length=(Av m j).toNat:=DC _ _ _;have ld:(AQ m j).data.length=(Bp m j).toNat:=DC _ _ _;by_cases c:(q:Int)<Av m j
 ·rw[Abm c] at s1;obtain ⟨f,l,E,o⟩:=F.rs.pE (x:=q) (by omega);have g:f ∈ hs p.1:=Nu l;have st:=oA o (x:=q) (by omega) v;refine ⟨f,_,_,by rw[Abm c]; exact ⟨l,st⟩,h.at_.yr F.xl k (.inl (by rw[n]; exact g)) _ _ (by rw[y]; rfl) ?_,s1,s2,H4.set _ _ (i.Js k (.inl (by rw[n]; exact g)))⟩;rw[n];refine ⟨⟨by show _=((AQ m j).refs.set q v).length; rw[Ac8]; exact F.rs.1,fun _=>?_,fun a u=>by rw[l] at u; cases u; exact ⟨_,_,_,Abq (Af o),Ade _⟩⟩,F.ds.Aw fun d hd=>Aaf fun e:f=d=>pI sep.D k (j:=f) (by rw[n]; exact g) (by rw[n,e]; exact hd)⟩;obtain ⟨A,r,s,B⟩:=F.rs.2.1 (fun w=>by rw[w] at z; simp at z; omega);rw[s] at l;cases l;exact ⟨f,r,by rw[s]; show _=(some _,((AQ m j).refs.set q v).length,r); rw[Ac8],Abq (Af o)⟩
 ·rw[Abo c] at s1;obtain ⟨f,l,E,o⟩:=F.ds.pE (x:=q-(Av m j).toNat) (by omega);have g:f ∈ hs p.2:=Nu l;have st:=oA o (x:=q-(Av m j).toNat) (by omega) v;refine ⟨f,_,_,by rw[Abo c]; exact ⟨l,st⟩,h.at_.yr F.xl k (.inr (by rw[n]; exact g)) _ _ (by rw[y]; rfl) ?_,s1,s2,H4.set _ _ (i.Js k (.inr (by rw[n]; exact g)))⟩;rw[n];refine ⟨F.rs.Aw fun d hd=>Aaf fun e:f=d=>pI sep.D k (j:=f) (by rw[n,e]; exact hd) (by rw[n]; exact g),⟨by show _=((AQ m j).data.set _ v).length; rw[Ac8]; exact F.ds.1,fun _=>?_,fun a u=>by rw[l] at u; cases u; exact ⟨_,_,_,Abq (Af o),Ade _⟩⟩⟩;obtain ⟨A,r,s,B⟩:=F.ds.2.1 (fun w=>by rw[w] at ld; simp at ld; omega);rw[s] at l;cases l;exact ⟨f,r,by rw[s]; show _=(some _,((AQ m j).data.set _ v).length,r); rw[Ac8],Abq (Af o)⟩
theorem og (k:Nat) (w:5000<=k) (h:RG J i m t) (f:LH m) (a x v:Int):Fg (FX (k+4) (Bk i) a x v J) J i (qIi (BP m a x v).1) (BP m a x v).2:=by
 have G:=h.ol;rw[R3];have q:=L9 (k+1) (by omega) h a;simp only[Us k w h a,AI,Ah];unfold BP BB;cases E:Ax m a with
 | false=>
   simp only[Abz,Abs,ne4,IS,show ((4:Int)=0)=False from by decide];exact Fg.NK h f rfl
 | true=>
   obtain ⟨y,j,b,p,F⟩:=h.found E;have hu:=h.inv.use F.st;obtain ⟨_,N,O,P,Q,_⟩:=MX h.inv F.st;have M:=F.xl;have A:p.1.2.1=(Av m j).toNat:=by rw[F.rs.1]; exact DC _ _ _
   have B:a.toNat/2=j:=by rw[F.e,IT]; omega
   have z:=qSu y t.ob.length (by omega);simp only[Aah,Abt,By,q,AI,Ah,F.idx,B,Abz,Abs];by_cases s:x<0
   ·rw[Abo (show ¬ (0<=x/\x<Av m j) by omega)];simp only[Aad s,IS,AI,show ((1:Int)=0)=False from by decide,Abs];exact Fg.NK h f rfl
   simp only[Aac s,By,IN,h.at_.EX,z,Aah,F.os,AI,IT,F.ld.l5,A];by_cases u:x<Av m j;rotate_left
   ·rw[Abo (show ¬ (0<=x/\x<Av m j) by omega)];simp only[Aad (show x>=(((Av m j).toNat:Nat):Int) by omega),IS,AI,show ((1:Int)=0)=False from by decide,Abs];exact Fg.NK h f rfl
   rw[Abm (show 0<=x/\x<Av m j from ⟨by omega,u⟩)];obtain ⟨n,rfl⟩:∃ n:Nat,x=(n:Int):=⟨x.toNat,by omega⟩;simp only[Aac (show ¬ (n:Int)>=(((Av m j).toNat:Nat):Int) by omega),By,Aah];have C:CL (k+3) (Bk i) v J=_:=ai k w h v;have fin:Fg ((Bd J i.hb 1).bind fun g=>if 0<=(y:Int)/\(y:Int)<(g.2.1:Nat) then g.1.bind fun c=>(Bd J c.block (c.off+y*8+5)).bind fun l=>if 0<=(n:Int)/\(n:Int)<(l.2.1:Nat) then l.1.bind fun d=>(AX.CX J d.block (d.off+((n:Int)).toNat*1) (qIi v)).bind fun r=>some (Value.int .i64 0,r) else none else none) J i (qIi 0) (GW m (a+2+0+(n:Int)).toNat v):=by
    obtain ⟨K,J',t',e,D,s1,s2,H⟩:=zI h f F n (by omega) v;rw[Abm u] at e;have I:=qSu n ((Av m j).toNat) (by omega);rw[show (a+2+0+(n:Int)).toNat=2*j+2+n from by rw[F.e]; omega];exact ⟨J',i,t',by simp only[h.at_.EX,AI,z,Aah,F.os,IN,F.ld.l5,A,I,e.1,IT,Acu,e.2],D,s1,s2,H⟩
   by_cases o:v=0
   ·subst o;simp only[Abt,By,AI,ne_eq,Aez,false_and,Abs];exact fin
   ·simp only[Adp.2 o,IS,C,AI,An];cases L:Ax m v with
    | false=>
      simp only[Ac7,IS,ne_eq,o,Aef,Afp,Aah];exact Fg.NK h f rfl
    | true=>
      simp only[Abr,By,Bool.true_eq_false,and_false,Abs];exact fin
theorem gk:∀ (l:List RO) (om:List (Bv × Bv)) (y:Nat) (c:y<l.length) (b:y<om.length) (v:Bool),(DP l om).set (y*8+7) (.bool v)=DP (l.set y { l[y] with Ww:=v }) om
 | [],om,y,c,_,_=>by simp at c
 | a::l,[],y,_,b,_=>by simp at b
 | a::l,p::om,0,c,b,v=>rfl
 | a::l,p::om,y+1,c,b,v=>by
   have d:=gk l om y (by simpa using c) (by simpa using b) v;simp only[Aen,DP,Af9];rw[<- d,Ae1 _ _ (by simp[Bu]; omega)];congr 2;simp[Bu]; omega
theorem JH.zJ (h:JH J i t) {y b:Nat} (n:y<t.ob.length) (e:i.os.1=some ⟨b,0,none⟩) (m:J[b]?=some (.cells (DP t.ob i.om) Ab true)) (v:Bool):
  AX.CX J b (y*8+7) (.bool v)=some (J.set b (.cells (DP (t.ob.set y { t.ob[y] with Ww:=v }) i.om) Ab true))/\JH (J.set b (.cells (DP (t.ob.set y { t.ob[y] with Ww:=v }) i.om) Ab true)) i { t with ob:=t.ob.set y { t.ob[y] with Ww:=v } }/\H4 i i J (J.set b (.cells (DP (t.ob.set y { t.ob[y] with Ww:=v }) i.om) Ab true)):=by
 have sep:=h.sep;have l:y<i.om.length:=by rw[h.ol]; exact n
 have hb:=Nu e;have q:=Ou t.ob i.om h.ol;refine ⟨?_,{ hp:=?_,bl:=?_,ob:=?_,fw:=?_,ol:=by show _=(t.ob.set y _).length; rw[Ac8]; exact h.ol,inn:=?_,nd:=h.nd,lt:=fun j p=>by rw[Ac8]; exact h.lt j p },H4.set _ _ (RI.JU.2 (.inr (.inr (.inl hb))))⟩
 ·have:y*8+7<(DP t.ob i.om).length:=by omega
  simp only[AX.CX,m,this,Aah,gk t.ob i.om y n l v]
 ·rw[Aaf (fun e:b=i.hb=>sep.hB (by rw[<- e]; exact hb))]; exact h.hp
 ·exact h.bl.Aw fun a k=>Aaf fun e:b=a.block=>sep.AB a.block (BQ.2 ⟨a,k,rfl⟩) (by rw[<- e]; exact hb)
 ·have:=h.ob.form;rw[e] at this;refine .inr ⟨b, ?_,Ade _, ?_,Abq (Af m)⟩
  ·show i.os=(_,(t.ob.set y _).length,(t.ob.set y _).length); rw[Ac8]; exact this
  ·exact Ou _ _ (by rw[Ac8]; exact h.ol)
 ·exact h.fw.Aw fun a k=>Aaf fun e:b=a.block=>sep.BC b hb (by rw[e]; exact BQ.2 ⟨a,k,rfl⟩)
 ·intro z h1 g;have f:z<t.ob.length:=by simpa using h1
  show Dw _ i.om[z].1 (t.ob.set y _)[z].refs/\Dw _ i.om[z].2 (t.ob.set y _)[z].data;have o:=h.inn z f g;have c:Dw (J.set b (.cells (DP (t.ob.set y { t.ob[y] with Ww:=v }) i.om) Ab true)) i.om[z].1 t.ob[z].refs/\Dw (J.set b (.cells (DP (t.ob.set y { t.ob[y] with Ww:=v }) i.om) Ab true)) i.om[z].2 t.ob[z].data:=
   ⟨o.1.Aw fun d hd=>Aaf fun e':b=d=>sep.BD b hb (by rw[e']; exact Js g (.inl hd)),o.2.Aw fun d hd=>Aaf fun e':b=d=>sep.BD b hb (by rw[e']; exact Js g (.inr hd))⟩;by_cases e:y=z
  ·subst e;rw[List.getElem_set_self];exact c
  ·rw[List.getElem_set_ne e];exact c
theorem xD (k:Nat) (o:5000<=k) (h:RG J i m t) (d:LH m) (l:Sh m) (a:Int) (v:Bool):Fg (Ji (k+4) (Bk i) a v J) J i (qIi (MH m a (if v then 1 else 0)).1) (MH m a (if v then 1 else 0)).2:=by
 have q:=h.ol;rw[Vf];have c:=L9 (k+1) (by omega) h a;simp only[Us k o h a,AI,Ah];unfold MH;cases n:Ax m a with
 | false=>
   simp only[Abz,Abs,ne4,IS];exact Fg.NK h d rfl
 | true=>
   obtain ⟨y,j,b,p,F⟩:=h.found n;have r:=F.xl;have f:a.toNat/2=j:=by rw[F.e,IT]; omega
   have u:=qSu y t.ob.length (by omega);obtain ⟨e,h1,s⟩:=h.at_.zJ r F.os F.cell v;obtain ⟨s1,s2⟩:=h.sim.pins h.inv l d F.st F.all v;have g:t.ob[y]'F.xl=AQ m j:=by have:=F.ob; rw[Aaj F.xl] at this; exact Ad8 this
   rw[f];simp only[Aah,Abt,By,IN,h.at_.EX,c,AI,Ah,F.idx,u,F.os,IT,e];exact ⟨_,i,_,rfl,h1,by rw[g]; exact s1,s2,s⟩
theorem xA (k:Nat) (d:5000<=k) (h:RG J i m t) (b:LH m) (c:Sh m) (a:Int):Fg (Gv (k+5) (Bk i) a J) J i (qIi (MH m a 1).1) (MH m a 1).2:=by
 obtain ⟨J',f,t',e,r⟩:=xD k d h b c a true;refine ⟨J',f,t', ?_,r⟩;rw[Vd];simp only[e,AI,Ah,Aah]
end
section
local instance qSA:AH:=Ao
variable {J:Aa} {m:HM} {t:RM} {i:RI}
theorem JH.xF (h:JH J i t) (v:Int):∃ c,AX.CX J i.hb 3 (qIi v)=some (J.set i.hb c)/\JH (J.set i.hb c) i { t with born:=v }:=
 ⟨_,by simp only[AX.CX,h.hp]; rfl,JH.kH (t:={ t with born:=v }) h.bl h.ob h.fw h.ol h.inn h.sep h.lt⟩
theorem X0 (n:Nat):rep n [Value.int .i64 0]=Bm (List.replicate n 0):=by
 simp[rep,Bm]
theorem gB (k:Nat) (hk:5000<=k) (h:RG J i m t) (O:LH m) (hS:Sh m) (hb:m.births<1000000) (a r d c:Int):
  Fg (EZ (k+5) (Bk i) a r d c J) J i (.tuple #[qIi (CW m a r d c).1,qIi (CW m a r d c).2.1]) (CW m a r d c).2.2:=by
 have ah:=h.nt;have aa:=h.wl;have ai:=h.ol;have ae:=h.inv.brt;obtain ⟨S,B⟩:∃ S,Au.cells [qIi r,qIi d,qIi c] Ad true=S:=⟨_,rfl⟩;have hg:=h.app [S];have V:(J++[S])[J.length]?=some (.cells [qIi r,qIi d,qIi c] Ad true):=by rw[<- B]; simp
 obtain ⟨b0,b1,b2⟩:=Kk V;obtain ⟨l,eV⟩:=Xy (k+3) r d c (J++[S]);have F:=hg.app l;have v:(J++[S]++l)[J.length]?=_:=(AT (Af V)).trans V;obtain ⟨d0,d1,d2⟩:=Kk v;have eM:Az (k+4) (Bk i) (J++[S])=_:=LD (k+3) hg;rw[SJ];simp only[Ae,B,eM,AI,An,Abr,By,IN,Nat.reduceAdd,Abn,b0,b1,b2,eV];unfold CW;cases I:valid r d c with
 | false=>
   simp only[Ac7,IS,Abz,Abs];exact Fg.same h O ([S]++l) (by rw[<- Aae])
 | true=>
 obtain ⟨u,eF⟩:=vg k hk F a (-1) 0 I (fun o U=>by
  have:=(h.inv.idn o U).1;constructor
  ·intro e; omega
  ·intro e; omega);simp only[Abr,By,Aah,d0,d1,d2,AI,eF,Ah];by_cases E:Me m a (Pk (num r d c)) (-1)=0;rotate_left
 ·rw[Abo E];simp only[Adp.2 E,IS];exact Fg.same h O ([S]++l++u) (by simp only[<- Aae])
 rw[Abm E];have Y:2<=Pk (num r d c):=by
  have z:=I;rw[Ko I];simp[valid] at z;omega
 obtain ⟨j,rfl,hj,ac,Q⟩:=h.inv.fits aa (YD _) Y E;rw[show ((2*j:Nat):Int).toNat/2=j from by omega];obtain ⟨s1,s2⟩:=h.sim.place h.inv h.inv2 hS O I hj (fun o U=>Q o U (by omega));have G:=F.app u;obtain ⟨C,eS,N⟩:=G.at_.xF (t.born+1);have W:(J++[S]++l++u)[J.length]?=_:=(AT (Af v)).trans v;have af:i.hb<J.length:=h.at_.lt _ i.LK;have s:((J++[S]++l++u).set i.hb C)[J.length]?=_:=(Aaf (show i.hb≠J.length by omega)).trans W;have hlen:((J++[S]++l++u).set i.hb C).length=J.length+1+l.length+u.length:=by simp; omega
 have H:∀ x,x<J.length->x≠i.hb->((J++[S]++l++u).set i.hb C)[x]?=J[x]?:=fun x g p=>by
  rw[Aaf (Ac9 p),Aae,Aae,AT g]
 have K:=G.at_.cq;generalize (J++[S]++l++u).set i.hb C=Z at N eS s hlen H;obtain ⟨c0,c1,c2⟩:=Kk s;have z:=I;simp[valid] at z;obtain ⟨f,rfl⟩:∃ n:Nat,r=(n:Int):=⟨r.toNat,by omega⟩;obtain ⟨b,rfl⟩:∃ n:Nat,d=(n:Int):=⟨d.toNat,by omega⟩;have w:Ar (t.born+1)=t.born+1:=Ai (by rw[h.sim.born]; unfold AO; omega);have qr:(0<=(f:Int)/\(f:Int)<=(f:Int)/\(f:Int)*((8:Nat):Int)<=2 ^ 40/\(f:Int)<=2 ^ 40)=True:=Adk (by omega);have qd:(0<=(b:Int)/\(b:Int)<=(b:Int)/\(b:Int)*((8:Nat):Int)<=2 ^ 40/\(b:Int)<=2 ^ 40)=True:=Adk (by omega);obtain ⟨A,hA⟩:∃ A,Au.cells (Bm (List.replicate f 0)) Ak true=A:=⟨_,rfl⟩;obtain ⟨D,hD⟩:∃ D,Au.cells (Bm (List.replicate b 0)) Ak true=D:=⟨_,rfl⟩;have X:(Z++[A])[J.length]?=_:=(AT (Af s)).trans s;obtain ⟨_,f1,_⟩:=Kk X;have h6:JH (Z++[A]++[D]) i { t with born:=t.born+1 }:=(N.app [A]).app [D];have gA:(Z++[A]++[D])[Z.length]?=some (.cells (Bm (List.replicate f 0)) Ak true):=by rw[hA]; simp
 have gD:(Z++[A]++[D])[(Z++[A]).length]?=some (.cells (Bm (List.replicate b 0)) Ak true):=by rw[hD]; simp
 have ab:∀ x ∈ i.l,x<J.length:=h.at_.lt;obtain ⟨J',aj,eP,hR,y,hle,ad,T⟩:=xE (k+3) (by omega) h6 (by show t.ob.length<=4900; omega) ⟨((2*j:Nat):Int),t.born+1,(f:Int),(b:Int),c,List.replicate f 0,List.replicate b 0,false⟩ ((some ⟨Z.length,0,none⟩,f,f),(some ⟨(Z++[A]).length,0,none⟩,b,b))
  ⟨by simp,fun _=>⟨Z.length,f,by simp,gA⟩,fun a P=>by cases P; exact ⟨_,_,_,gA,Ade _⟩⟩ ⟨by simp,fun _=>⟨(Z++[A]).length,b,by simp,gD⟩,fun a P=>by cases P; exact ⟨_,_,_,gD,Ade _⟩⟩
  (by
   intro x g;have:x=Z.length\/x=(Z++[A]).length:=by
    rcases g with g | g
    ·obtain ⟨q,e,rfl⟩:=BQ.1 g;cases e; exact .inl rfl
    ·obtain ⟨q,e,rfl⟩:=BQ.1 g;cases e; exact .inr rfl
   refine ⟨?_,fun hm=>?_⟩
   ·have hl:(Z++[A]).length=Z.length+1:=by simp
    have ag:(Z++[A]++[D]).length=Z.length+2:=by simp
    rcases this with e | e <;> omega
   ·have:=ab x hm;have hl:(Z++[A]).length=Z.length+1:=by simp
    rcases ‹x=Z.length\/x=(Z++[A]).length› with e | e <;> omega)
  (by simp[hs]);have M:Hx (k+4) (Bk i) ((2*j:Nat):Int) (t.born+1) (f:Int) (b:Int) c (some ⟨Z.length,0,none⟩,f,f) (some ⟨(Z++[A]).length,0,none⟩,b,b) false (Z++[A]++[D])=some (.tuple #[],J'):=eP;refine ⟨J',_,_, ?_,hR,s1,s2,⟨by simp at hle; omega,fun x g hn=>?_,fun x g=>?_,rfl⟩⟩
 ·simp only[Abt,E,By,K,AI,w,eS,N.cq,c0,c1,c2,qr,Aah,IT,X0,hA,f1,qd,hD,M,Gg];have:=hR.cq;simp only at this;rw[this,h.sim.born];rfl
 ·have p:x≠i.hb:=fun e=>hn (by rw[e]; exact i.LK);rw[y x (by simp; omega) p,Aae,AT (by omega),H x g p]
 ·rcases T x g with e | e | e | e
  ·exact .inl e
  ·obtain ⟨q,L,rfl⟩:=BQ.1 e;cases L;exact .inr (by show J.length<=Z.length; omega)
  ·obtain ⟨q,L,rfl⟩:=BQ.1 e;cases L;exact .inr (by show J.length<=(Z++[A]).length; simp; omega)
  ·exact .inr (by simp at e; omega)
end
section
local instance qSB:AH:=Ao
variable {J:Aa} {m:HM} {t:RM} {i:RI}
theorem bu:∀ l a:List (Int × Int),CS (l++a)=CS l++CS a
 | [],a=>rfl
 | e::l,a=>by simp only[Agm,CS,bu l a]
end
end
end Go.Proofs.YtjbledomkmdkmaaGreat
