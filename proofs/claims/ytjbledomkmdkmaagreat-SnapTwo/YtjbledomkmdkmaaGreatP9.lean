/- Part 9. -/
import Derived.Test.YtjbledomkmdkmaaGreatP8
set_option linter.unusedVariables false
set_option linter.unusedSimpArgs false
set_option linter.unusedSectionVars false
namespace Go.Proofs.YtjbledomkmdkmaaGreat
open Go Go.AX
noncomputable section
local instance qGE:AJ:=Ao
section
variable {J:Aa} {m:HM} {s:TC} {nb:Nat}
structure MK (m:HM):Prop where
 inv:Inv m
 inv2:Inv2 m
 sh:Sh m
 fz:FZ m
 b0:B0 m
 nb:2<=m.bls.length
 nt:m.bls.length<=64
theorem MK.new {n:Nat} (h2:2<=n) (h:n<=64):MK (JF n):=⟨Inv.new n,Inv2.new n,⟨by simp[JF],by simp[JF]; omega,by simp[JF]; omega⟩,FZ.new n,B0.new n,by simp[JF]; omega,by simp[JF]; omega⟩
theorem MK.bH (h:MK m) (b c x y a e:Int) (l:x≠0) (f:a≠0\/c=1):MK (BF m b c x y a e).2:=by
 have k:=Zp h.inv h.inv2 b c x y a e;obtain ⟨g,i,d,_⟩:=OJ m b c x y a e;have j:(BF m b c x y a e).2.pnw=m.pnw:=by
  unfold BF;split
  ·split <;> rfl
  ·rfl
 exact ⟨k.inv,k.inv2,⟨by rw[g,d]; exact h.sh.wl,by rw[i,d]; exact h.sh.sl,by rw[j,d]; exact h.sh.pl⟩,rL h.fz _ _ _ _ _ _ l f,(XV m b c x y a e).trans h.b0,by rw[d]; exact h.nb,by rw[d]; exact h.nt⟩
theorem MK.setRef (h:MK m) (a x v:Int):MK (BU m a x v).2:=by
 have k:=je h.inv h.inv2 a x v;obtain ⟨b,c,_,_,d⟩:=N3 m a x v;have e:(BU m a x v).2.wds.length=m.wds.length:=by
  unfold BU;split
  ·split
   ·rfl
   ·show (m.wds.set _ _).length=_; rw[Adj]
  ·rfl
 exact ⟨k.inv,k.inv2,⟨by rw[e,b]; exact h.sh.wl,by rw[c,b]; exact h.sh.sl,by rw[d,b]; exact h.sh.pl⟩,cm h.fz b,by unfold B0; rw[b]; exact h.b0,by rw[b]; exact h.nb,by rw[b]; exact h.nt⟩
theorem MK.W2 (h:MK m) (a:Int) (v:Nat):MK (MM m a v).2:=by
 have k:=sL h.inv h.inv2 a v;obtain ⟨b,c,d,_⟩:=YA m a v;have e:(MM m a v).2.pnw.length=m.pnw.length:=by
  unfold MM; split
  ·exact Ek _ _ _ _
  ·rfl
 exact ⟨k.inv,k.inv2,⟨by rw[d,b]; exact h.sh.wl,by rw[c,b]; exact h.sh.sl,by rw[e,b]; exact h.sh.pl⟩,cm h.fz b,by unfold B0; rw[b]; exact h.b0,by rw[b]; exact h.nb,by rw[b]; exact h.nt⟩
theorem NK (h:Inv m) (c:Sh m) (a:Int):(Hw m a).2.bls=m.bls/\(Hw m a).2.stw.length=m.stw.length/\(Hw m a).2.pnw.length=m.pnw.length/\(Hw m a).2.wds.length=m.wds.length/\(Hw m a).2.fw=m.fw/\(Hw m a).2.births=m.births:=by
 unfold Hw;cases b:Aw m a with
 | false=>exact ⟨rfl,rfl,rfl,rfl,rfl,rfl⟩
 | true=>
   obtain ⟨j,rfl,hs⟩:=AY b;rw[Aay rfl,show ((2*j:Nat):Int).toNat/2=j from by omega];refine ⟨rfl,Ek _ _ _ _,Ek _ _ _ _, ?_,rfl,rfl⟩;show (Pn _ _ _).length=_;have:=h.fit j hs;rw[Ml (by simp; omega)]
theorem MK.kill (h:MK m) (a:Int):MK (Hw m a).2:=by
 have k:=nX h.inv h.inv2 h.sh a;obtain ⟨b,c,d,e,_⟩:=NK h.inv h.sh a;exact ⟨k.inv,k.inv2,⟨by rw[e,b]; exact h.sh.wl,by rw[c,b]; exact h.sh.sl,by rw[d,b]; exact h.sh.pl⟩,cm h.fz b,by unfold B0; rw[b]; exact h.b0,by rw[b]; exact h.nb,by rw[b]; exact h.nt⟩
theorem dm (m:HM) (b:Int):(CZ m b).2.wds=m.wds/\(CZ m b).2.stw=m.stw/\(CZ m b).2.pnw=m.pnw/\(CZ m b).2.fw=m.fw/\(CZ m b).2.births=m.births/\B0 m->B0 (CZ m b).2:=by
 intro hb;have h0:=hb.2.2.2.2.2;unfold CZ;split
 ·split
  ·unfold B0;show ((dk _ _ _).getD 0 (0,0)).1=0;rw[Rd];split
   ·rfl
   ·exact h0
  ·exact h0
 ·exact h0
theorem Qz (m:HM) (b:Int):(CZ m b).2.wds=m.wds/\(CZ m b).2.stw=m.stw/\(CZ m b).2.pnw=m.pnw/\(CZ m b).2.fw=m.fw/\(CZ m b).2.births=m.births:=by
 unfold CZ;split
 ·split <;> exact ⟨rfl,rfl,rfl,rfl,rfl⟩
 ·exact ⟨rfl,rfl,rfl,rfl,rfl⟩
theorem MK.release (h:MK m) (b:Int):MK (CZ m b).2:=by
 have k:=N2 h.inv h.inv2 b;obtain ⟨a,c,d,e,f⟩:=Qz m b;exact ⟨k.inv,k.inv2,⟨by rw[a,k.len]; exact h.sh.wl,by rw[c,k.len]; exact h.sh.sl,by rw[d,k.len]; exact h.sh.pl⟩,lL h.fz b,dm m b ⟨a,c,d,e,f,h.b0⟩,by rw[k.len]; exact h.nb,by rw[k.len]; exact h.nt⟩
theorem PX (m:HM) (a r d c:Int):(CX m a r d c).2.2.bls=m.bls/\(CX m a r d c).2.2.pnw=m.pnw/\(CX m a r d c).2.2.fw=m.fw/\(CX m a r d c).2.2.wds.length=m.wds.length/\(CX m a r d c).2.2.stw.length=m.stw.length:=by
 unfold CX;split
 ·split
  ·exact ⟨rfl,rfl,rfl,by show ((m.wds.set _ _).set _ _).length=_; rw[Adj,Adj],Ek _ _ _ _⟩
  ·exact ⟨rfl,rfl,rfl,rfl,rfl⟩
 ·exact ⟨rfl,rfl,rfl,rfl,rfl⟩
theorem MK.place (h:MK m) (a r d c:Int):MK (CX m a r d c).2.2:=by
 have k:=Uv h.inv h.inv2 h.sh a r d c;obtain ⟨b,e,_,f,g⟩:=PX m a r d c;exact ⟨k.inv,k.inv2,⟨by rw[f,b]; exact h.sh.wl,by rw[g,b]; exact h.sh.sl,by rw[e,b]; exact h.sh.pl⟩,cm h.fz b,by unfold B0; rw[b]; exact h.b0,by rw[b]; exact h.nb,by rw[b]; exact h.nt⟩
def bJ (f:Nat->Bool) (n:Nat):Nat:=((List.range n).filter f).length
theorem UE (f:Nat->Bool) (n:Nat):bJ f (n+1)=bJ f n+(if f n then 1 else 0):=by
 unfold bJ;rw[Agl,Afv,Aaw];cases a:f n <;> simp[a]
theorem pC (f:Nat->Bool) (n:Nat):bJ f n<=n:=by
 unfold bJ;have:=Afc f (List.range n)
 rwa [Agp] at this
theorem XX {f g:Nat->Bool}:∀ n,(∀ i,i<n->f i=true->g i=true)->bJ f n<=bJ g n
 | 0,_=>Aa1 _
 | n+1,h=>by
   rw[UE,UE];have:=XX n fun i hi=>h i (by omega);have:=h n (by omega);cases a:f n <;> cases b:g n <;> simp_all <;> omega
theorem pD {f g:Nat->Bool} {j:Nat}:∀ n,j<n->(∀ i,i<n->f i=true->g i=true)->f j=false->g j=true->bJ f n+1<=bJ g n
 | 0,h,_,_,_=>by omega
 | n+1,h,hm,h1,a=>by
   rw[UE,UE];by_cases e:j=n
   ·subst e;have:=XX j fun i hi=>hm i (by omega);rw[h1,a]; simp; omega
   ·have:=pD n (by omega) (fun i hi=>hm i (by omega)) h1 a;have:=hm n (by omega);cases b:f n <;> cases c:g n <;> simp_all <;> omega
def WZ (nb:Nat) (ws:List (BitVec 64)):Nat:=bJ (fun j=>decide (CJ 2 ws j≠0)) (32*nb)
theorem OB {ws:List (BitVec 64)} (c:ws.length=(32*nb*2+63)/64) {j v:Nat} (b:j<32*nb) (a:v<4) (y:Nat):CJ 2 (FB 2 ws j v) y=if y=j then v else CJ 2 ws y:=by
 by_cases e:y=j
 ·subst e;rw[Aay rfl,EU (.inr (.inl rfl)) a (by omega)]
 ·rw[Aaz e,Cf (.inr (.inl rfl)) a (Adk e)]
theorem UF {ws:List (BitVec 64)} (b:ws.length=(32*nb*2+63)/64) {j v:Nat} (a:j<32*nb) (c:v<4) (h0:v≠0):WZ nb ws<=WZ nb (FB 2 ws j v)/\(CJ 2 ws j=0->WZ nb ws+1<=WZ nb (FB 2 ws j v)):=by
 have key:∀ i,i<32*nb->decide (CJ 2 ws i≠0)=true->decide (CJ 2 (FB 2 ws j v) i≠0)=true:=fun i _ h=>by
  rw[OB b a c];split
  ·exact Aak h0
  ·exact h
 refine ⟨XX _ key,fun d=>pD _ a key ?_ ?_⟩
 ·simp[d]
 ·rw[OB b a c,Aay rfl]; exact Aak h0
structure Qj (nb:Nat) (s:TC):Prop where
 wl:s.ws.length=(32*nb*2+63)/64
 ls:s.list.length<=WZ nb s.ws
 lr:∀ v ∈ s.list,0<=v/\v<4096
 lf:s.left.length<=64
 l0:s.ph≠2->s.left=[]
 s2:s.ph=2->s.list=[]
theorem Qj.len (h:Qj nb s):s.list.length<=32*nb:=Adt h.ls (pC _ _)
theorem Qj.cV (h:Qj nb s) {j v:Nat} (a:j<32*nb) (b:v<4) (h0:v≠0):Qj nb (Eh s ((2*j:Nat):Int) v):=by
 have e:((2*j:Nat):Int).toNat/2=j:=by omega
 unfold Eh;rw[e];exact ⟨by rw[<- h.wl]; exact Ek _ _ _ _,Adt h.ls (UF h.wl a b h0).1,h.lr,h.lf,h.l0,h.s2⟩
theorem Qj.vS (h:Qj m.bls.length s) (g:m.bls.length<=64) (hp:s.ph≠2) (a:Int):Qj m.bls.length (Cx m s a):=by
 unfold Cx;split
 ·rename_i d;obtain ⟨j,rfl,hs⟩:=AY d.1;have e:((2*j:Nat):Int).toNat/2=j:=by omega
  have c:=d.2;unfold C0 at c;rw[e] at c;have f:=hs.1;have:=h.cV f (v:=1) (by decide) (by decide);refine ⟨this.wl, ?_,fun v b=>?_,h.lf,h.l0,fun e=>absurd e hp⟩
  ·show (s.list++_).length<=WZ _ (FB 2 s.ws _ 1);rw[e,Aaw];have:=(UF h.wl f (v:=1) (by decide) (by decide)).2 c;have:=h.ls;simp;omega
  ·rcases Aas.1 b with b | b
   ·exact h.lr v b
   ·rw[Ac1.1 b]; omega
 ·exact h
theorem Nr (m:HM) (s:TC) (a:Int):(Cx m s a).ph=s.ph/\(Cx m s a).left=s.left/\(Cx m s a).look=s.look/\(Cx m s a).freed=s.freed/\(Cx m s a).born=s.born:=by
 unfold Cx; split <;> exact ⟨rfl,rfl,rfl,rfl,rfl⟩
theorem Dx (m:HM):∀ (l:List Int) (s:TC),(AA m s l).ph=s.ph/\(AA m s l).left=s.left/\(AA m s l).look=s.look/\(AA m s l).freed=s.freed/\(AA m s l).born=s.born
 | [],s=>⟨rfl,rfl,rfl,rfl,rfl⟩
 | a::l,s=>by
   obtain ⟨h1,g,h,i,h5⟩:=Dx m l (Cx m s a);obtain ⟨b,c,d,e,f⟩:=Nr m s a;exact ⟨h1.trans b,g.trans c,h.trans d,i.trans e,h5.trans f⟩
theorem Qj.HJ (b:m.bls.length<=64):∀ (l:List Int) (s:TC),Qj m.bls.length s->s.ph≠2->Qj m.bls.length (AA m s l)
 | [],s,h,_=>h
 | a::l,s,h,hp=>Qj.HJ b l (Cx m s a) (h.vS b hp a) (by rw[(Nr m s a).1]; exact hp)
end
section
variable {J:Aa} {m:HM} {r:D4} {s:TC} {i:Cs} {p:PI} {c:CI}
structure Li (J:Aa) (i:Cs) (p:PI) (c:CI) (m:HM) (r:D4) (s:TC):Prop where
 h:Al J i m
 mo:MK m
 rt:Hg J p r
 co:Gk J c i.hb p.rb m.bls.length s
 fp:Fp J [i.l,p.l,c.l]
 tok:Qj m.bls.length s
theorem Li.app (T:Li J i p c m r s) (τ:Aa):Li (J++τ) i p c m r s:=⟨T.h.app τ,T.mo,T.rt.app τ,T.co.app τ,T.fp.app τ,T.tok⟩
theorem Li.Qm {J':Aa} {c':CI} {s':TC} (T:Li J i p c m r s) (a:Gk J' c' i.hb p.rb m.bls.length s') (hm:Mv c.l c'.l J J') (b:Qj m.bls.length s'):Li J' i p c' m r s':=by
 obtain ⟨f,k,_⟩:=T.fp.step 2 (by simp) hm a.lt;exact ⟨T.h.Ax (k 0 (by simp) (by decide)),T.mo,T.rt.Ax (k 1 (by simp) (by decide)),a,f,b⟩
theorem Li.gf {J':Aa} {m':HM} (T:Li J i p c m r s) (a:Al J' i m') (hm:Br i J J') (d:MK m') (b:m'.bls.length=m.bls.length):Li J' i p c m' r s:=by
 obtain ⟨f,k,_⟩:=T.fp.step 0 (by simp) hm.mv a.lt;refine ⟨a,d,T.rt.Ax (k 1 (by simp) (by decide)), ?_,f,by rw[b]; exact T.tok⟩;rw[b];exact T.co.Ax (k 2 (by simp) (by decide))
theorem Li.Ax {J':Aa} (T:Li J i p c m r s) (b:J.length<=J'.length) (h1:∀ q ∈ i.l,J'[q]?=J[q]?) (h2:∀ q ∈ p.l,J'[q]?=J[q]?) (h3:∀ q ∈ c.l,J'[q]?=J[q]?):Li J' i p c m r s:=
 ⟨T.h.Ax h1,T.mo,T.rt.Ax h2,T.co.Ax h3,⟨T.fp.dj,fun L a q d=>Acp (T.fp.lt L a q d) b⟩,T.tok⟩
theorem WS (k:Nat) (T:Li J i p c m r s) (hp:s.ph≠2) (a:Int) (C:AQ a):∃ J' g,Cb (k+11) (Dz c) a J=some (.tuple #[],J')/\Li J' i p g m r (Cx m s a)/\Mv c.l g.l J J'/\g.cb=c.cb:=by
 have hlen:=T.tok.len;have n:=T.mo.nt;have b:=T.tok.vS n hp a;rw[Vu];have z:Bd (k+10) (AU i) a J=_:=Tm (k+6) T.h a C;simp only[AI,IN,Aa0,T.co.H7,z,An];cases e:Aw m a with
 | false=>
   simp only[By,AI,Aat];unfold Cx at b ⊢;rw[Aaz (fun d=>by rw[e] at d; cases d.1)] at b ⊢;exact ⟨J,c,rfl,T,Mv.refl _ _,rfl⟩
 | true=>
   have A:CG (k+10) (Dz c) a J=_:=oq (k+6) T.co e;simp only[IS,A,AI,Ah];by_cases f:C0 s a=0;rotate_left
   ·rw[show ((C0 s a:Int) == 0)=false from by simpa using f];simp only[By,AI,Aat];unfold Cx at b ⊢;rw[Aaz (fun d=>f d.2)] at b ⊢;exact ⟨J,c,rfl,T,Mv.refl _ _,rfl⟩
   ·rw[show ((C0 s a:Int) == 0)=true from by simpa using f];obtain ⟨j,rfl,hs⟩:=AY e;obtain ⟨J1_,x,h1,u⟩:=cW k T.co hs.1 (v:=1) (by decide);obtain ⟨s',Z,t,o,E⟩:=h1.ls.push ((2*j:Nat):Int) Ak (by show s.list.length<=_; omega);have f1:c.ls.2.1=s.list.length:=by have:=h1.ls.form; rw[this]; rfl
    have f2:c.ls.2.2=s.list.length:=by have:=h1.ls.form; rw[this]; rfl
    rw[f1,f2] at t;obtain ⟨J',y,B,w⟩:=h1.qH (fun q D=>D) E o;unfold Cx at b ⊢;rw[Aay ⟨e,f⟩] at b ⊢;refine ⟨J',_, ?_,T.Qm B (u.trans w) b,u.trans w,rfl⟩;have d6:=h1.uT;have l:CO (k+10) (Dz c) ((2*j:Nat):Int) (1:Int) J=some (.tuple #[],J1_):=x;have h:Be J1_ c.cb 6=some (c.ls.1,s.list.length,s.list.length):=d6;simp only[IS,l,AI,Gi,h,Ae,t,y,Aat]
theorem Xw (k:Nat) {sl:Bx} {l:List Int} (F:l.length<=100000) (y:∀ v ∈ l,AQ v) (g:Nat):∀ (n x f:Nat) (J:Aa) (c:CI) (s:TC),Li J i p c m r s->c.cb=g->s.ph≠2->Bf J sl l->(∀ q ∈ hs sl,q ∉ c.l)->x+n=l.length->n<f ->
  ∃ J' d,F5 (k+11) f (some ⟨g,0,none⟩) sl.1 l.length l.length ((l.length:Nat):Int) (x:Int) J=some (.exit 0,[],J')/\Li J' i p d m r (AA m s (l.drop x))/\Mv c.l d.l J J'/\d.cb=g
 | n,x,0,J,c,s,T,h,hp,a,o,z,w=>by omega
 | 0,x,f+1,J,c,s,T,h,hp,a,o,z,w=>by
   rw[Mh];simp only[dFu x l.length (by omega),By];rw[Ade (by omega)];exact ⟨J,c,rfl,T,Mv.refl _ _,h⟩
 | n+1,x,f+1,J,c,s,T,h,hp,a,o,z,w=>by
   obtain ⟨b,e,I,_⟩:=a.ld (x:=x) (by omega);have L:=qSu x l.length (by omega);have M:=wSu x (by omega);have hd:l.drop x=l.getD x 0::l.drop (x+1):=by
    rw[Ac2 (by omega),Aax,Aau (by omega)]; rfl
   have t:AQ (l.getD x 0):=by
    rw[Aax,Aau (show x<l.length by omega)]; exact y _ (Adb _)
   obtain ⟨J1_,D,E,T1,A,B⟩:=WS k T hp (l.getD x 0) t;obtain ⟨G,H,_⟩:=A.DR (X:=hs sl) a.lt o;obtain ⟨J',d,u,T2,K,C⟩:=Xw k F y g n (x+1) f J1_ D _ T1 (B.trans h) (by rw[(Nr m s _).1]; exact hp) (a.Ax G) H (by omega) (by omega);refine ⟨J',d, ?_,by rw[hd]; exact T2,A.trans K,C⟩;rw[Mh];have j:Cb (k+11) (some ⟨g,0,none⟩) (l.getD x 0) J=some (.tuple #[],J1_):=by rw[<- h]; exact E
   rw[e] at u;simp only[dTu x l.length (by omega),IS,L,Aat,e,AI,IT,Acg,IN,I,M,j,Gi,u]
theorem QR (k:Nat) {sl:Bx} {l:List Int} (F:l.length<=100000) (y:∀ v ∈ l,AQ v) (g:Nat):∀ (n x f:Nat) (J:Aa) (c:CI) (s:TC),Li J i p c m r s->c.cb=g->s.ph≠2->Bf J sl l->(∀ q ∈ hs sl,q ∉ c.l)->x+n=l.length->n<f ->
  ∃ J' d,DD (k+11) f (some ⟨g,0,none⟩) sl.1 l.length l.length ((l.length:Nat):Int) (x:Int) J=some (.exit 2,[],J')/\Li J' i p d m r (AA m s (l.drop x))/\Mv c.l d.l J J'/\d.cb=g
 | n,x,0,J,c,s,T,h,hp,a,o,z,w=>by omega
 | 0,x,f+1,J,c,s,T,h,hp,a,o,z,w=>by
   rw[Ku];simp only[dFu x l.length (by omega),By];rw[Ade (by omega)];exact ⟨J,c,rfl,T,Mv.refl _ _,h⟩
 | n+1,x,f+1,J,c,s,T,h,hp,a,o,z,w=>by
   obtain ⟨b,e,I,_⟩:=a.ld (x:=x) (by omega);have L:=qSu x l.length (by omega);have M:=wSu x (by omega);have hd:l.drop x=l.getD x 0::l.drop (x+1):=by
    rw[Ac2 (by omega),Aax,Aau (by omega)]; rfl
   have t:AQ (l.getD x 0):=by
    rw[Aax,Aau (show x<l.length by omega)]; exact y _ (Adb _)
   obtain ⟨J1_,D,E,T1,A,B⟩:=WS k T hp (l.getD x 0) t;obtain ⟨G,H,_⟩:=A.DR (X:=hs sl) a.lt o;obtain ⟨J',d,u,T2,K,C⟩:=QR k F y g n (x+1) f J1_ D _ T1 (B.trans h) (by rw[(Nr m s _).1]; exact hp) (a.Ax G) H (by omega) (by omega);refine ⟨J',d, ?_,by rw[hd]; exact T2,A.trans K,C⟩;rw[Ku];have j:Cb (k+11) (some ⟨g,0,none⟩) (l.getD x 0) J=some (.tuple #[],J1_):=by rw[<- h]; exact E
   rw[e] at u;simp only[dTu x l.length (by omega),IS,L,Aat,e,AI,IT,Acg,IN,I,M,j,Gi,u]
theorem dQ (k:Nat) {sl:Bx} {l:List Int} (F:l.length<=100000) (y:∀ v ∈ l,AQ v) (g:Nat):∀ (n x f:Nat) (J:Aa) (c:CI) (s:TC),Li J i p c m r s->c.cb=g->s.ph≠2->Bf J sl l->(∀ q ∈ hs sl,q ∉ c.l)->x+n=l.length->n<f ->
  ∃ J' d,GA (k+11) f (some ⟨g,0,none⟩) sl.1 l.length l.length ((l.length:Nat):Int) (x:Int) J=some (.exit 1,[],J')/\Li J' i p d m r (AA m s (l.drop x))/\Mv c.l d.l J J'/\d.cb=g
 | n,x,0,J,c,s,T,h,hp,a,o,z,w=>by omega
 | 0,x,f+1,J,c,s,T,h,hp,a,o,z,w=>by
   rw[MZ];simp only[dFu x l.length (by omega),By];rw[Ade (by omega)];exact ⟨J,c,rfl,T,Mv.refl _ _,h⟩
 | n+1,x,f+1,J,c,s,T,h,hp,a,o,z,w=>by
   obtain ⟨b,e,I,_⟩:=a.ld (x:=x) (by omega);have L:=qSu x l.length (by omega);have M:=wSu x (by omega);have hd:l.drop x=l.getD x 0::l.drop (x+1):=by
    rw[Ac2 (by omega),Aax,Aau (by omega)]; rfl
   have t:AQ (l.getD x 0):=by
    rw[Aax,Aau (show x<l.length by omega)]; exact y _ (Adb _)
   obtain ⟨J1_,D,E,T1,A,B⟩:=WS k T hp (l.getD x 0) t;obtain ⟨G,H,_⟩:=A.DR (X:=hs sl) a.lt o;obtain ⟨J',d,u,T2,K,C⟩:=dQ k F y g n (x+1) f J1_ D _ T1 (B.trans h) (by rw[(Nr m s _).1]; exact hp) (a.Ax G) H (by omega) (by omega);refine ⟨J',d, ?_,by rw[hd]; exact T2,A.trans K,C⟩;rw[MZ];have j:Cb (k+11) (some ⟨g,0,none⟩) (l.getD x 0) J=some (.tuple #[],J1_):=by rw[<- h]; exact E
   rw[e] at u;simp only[dTu x l.length (by omega),IS,L,Aat,e,AI,IT,Acg,IN,I,M,j,Gi,u]
theorem kP (h:r.ok):∀ v ∈ AW r,AQ v:=by
 intro v b;rcases gp v r.all [] b with a | a
 ·cases a
 ·exact (h.inn v a).1
theorem gn (h:r.ok):(AW r).length<=144:=by
 have key:∀ (l out:List Int),(l.foldl JN out).length<=out.length+l.length:=by
  intro l
  induction l with
  | nil=>intro out; simp
  | cons a l b=>
    intro out;have:=b (JN out a);have:(JN out a).length<=out.length+1:=by
     unfold JN; split
     ·omega
     ·simp
    simp only[Aef,Adl];omega
 have:=key r.all [];have h1:=h.sl; have c:=h.gl; have d:=h.qu; have e:=h.m4;unfold AW;unfold D4.all at this ⊢;simp only[Aaw,Adx] at this;omega
theorem gH (k:Nat) (n:1000<k) (T:Li J i p c m r s) (hp:s.ph≠2):∃ J' a,EM (k+12) (Dz c) J=some (.tuple #[],J')/\Li J' i p a m r (AA m s (AW r))/\Mv c.l a.l J J'/\a.cb=c.cb:=by
 have hlen:=gn T.rt.ok;obtain ⟨τ,e,h,li,new⟩:=jJ (k+5) (by omega) T.rt;have b:Dd (k+11) (F8 p) J=_:=h;have T1:=T.app τ;obtain ⟨J',a,d,T2,l,g⟩:=Xw k (by omega) (kP T.rt.ok) c.cb (AW r).length 0 (k+11) (J++τ) c s T1 rfl hp li (fun q j hm=>by have:=new q j; have:=T.co.lt q hm; omega) (by omega) (by omega);rw[show ((0:Nat):Int)=0 from rfl] at d;have f:=li.form;have f1:e.2.1=(AW r).length:=by rw[f]
 have f2:e.2.2=(AW r).length:=by rw[f]
 refine ⟨J',a, ?_,T2,(Mv.app c.l J τ).trans l,g⟩;rw[Ue];simp only[AI,IN,Aa0,T.co.Fa,b,Eo,f1,f2,d,Aat]
theorem ax (k:Nat) (T:Li J i p c m r s) (a:Int) (e:AQ a):CP (k+5) (Dz c) a J=some (.bool (B5 m s a),J):=by
 rw[Wq];have b:Bd (k+4) (AU i) a J=_:=Tm k T.h a e;simp only[AI,IN,Aa0,T.co.H7,b,An];unfold B5;cases f:Aw m a with
 | false=>simp only[By,AI,Ag2]
 | true=>
   have d:CG (k+4) (Dz c) a J=_:=oq k T.co f;simp only[IS,d,AI,Ah,Af7];by_cases g:C0 s a=0 <;> simp[g]
end
section
variable {J:Aa} {m:HM} {r:D4} {s:TC} {i:Cs} {p:PI} {c:CI}
theorem iw (k:Nat) (x y:Int) (J:Aa):FG (k+1) x y J=some (.bool (DV x y),J):=by
 rw[ZP];unfold DV;by_cases h0:y=0
 ·subst h0;by_cases h1:x=1
  ·subst h1; rfl
  ·by_cases a:x=2
   ·subst a; rfl
   ·rw[show (x == 1)=false from by simpa using h1,show (x == 2)=false from by simpa using a]; simp[h1,a]
 ·rw[show (y == 0)=false from by simpa using h0];by_cases h1:y=1
  ·subst h1;by_cases a:x=2
   ·subst a; rfl
   ·rw[show (x == 2)=false from by simpa using a]; simp[a]
  ·rw[show (y == 1)=false from by simpa using h1]; simp[h0,h1]
theorem jq (v w:Value):az (.tuple #[v,w])=some [v,w]:=rfl
theorem PD (k:Nat) (h:Al J i m) (a:Int) (b:AQ a):∃ τ,AL (k+6) (AU i) a J=some (.tuple #[.agg #[qIi (Ag m a).1,qIi (Ag m a).2.1,qIi (Ag m a).2.2],qIi (if Aw m a then 0 else 4)],J++τ):=by
 obtain ⟨τ,e⟩:=xa k h a b;rw[mq] at e;exact ⟨τ,e⟩
theorem ik (k:Nat) (h:Al J i m) (a:Int) (b:AQ a):∃ τ,EW (k+7) (AU i) a J=some (qIi (Ag m a).2.2,J++τ):=by
 obtain ⟨τ,e⟩:=PD k h a b;refine ⟨τ++[Au.cells [qIi (Ag m a).1,qIi (Ag m a).2.1,qIi (Ag m a).2.2] Ad true], ?_⟩;rw[ZN];simp only[e,AI,jq,Adl,Adx,IN,Nat.reduceAdd,Aat,Aey,Ae4,HA,Ah,Ae,EA,Bv,Aca,Ace,Aaq]
theorem sQ {b x n:Nat} {row:List Value} {T:TypeId} (v:Int) (c:J[b]?=some (.cells row Ak true)) (g:row.length=n) (e:x<n):
  AH P Ak (some ⟨b,0,none⟩,x,n) (some ⟨J.length,0,none⟩,1,1) (J++[.cells [qIi v] T true])=some ((some ⟨b,0,none⟩,x+1,n),(J++[Au.cells [qIi v] T true]).set b (.cells (row.set x (qIi v)) Ak true)):=by
 have hb:=Af c;have a:(J++[Au.cells [qIi v] T true])[b]?=some (.cells row Ak true):=by rw[AT hb]; exact c
 have d:Da (J++[.cells [qIi v] T true]) 1 (some ⟨J.length,0,none⟩) 1=some [qIi v]:=by simp[Da,Nm]
 have f:(¬ (Gq (qIi 0)=false/\some 1=some (Value.cells (qIi 0)).size/\0<(Value.cells (qIi 0)).size))=False:=by simp[Gq,Value.cells]
 unfold AH LH;simp only[wg,uC,tB,AI,d,f,Aa5,Aay (show x+1<=n from e),HU,Aew,By,IN,Acg];simp only[H5,a,Adl,Adx,IN];rw[Aay (by omega),X9 _ _ _ (by omega)];rfl
theorem aZ (k:Nat) (a:Int) (u:AQ a) {nn b:Nat} (G:nn<=200):∀ (n x f:Nat) (Z:Aa) (row:List Value),Al Z i m->Inv m->b ∉ i.l->Z[b]?=some (.cells row Ak true)->row.length=nn->row.take x=Bl ((List.range x).map fun (x:Nat)=>AE m a (x:Int))->x+n=nn->n<f ->
  ∃ d,Ie (k+7) f (AU i) a (nn:Int) (some ⟨b,0,none⟩,x,nn) (x:Int) Z=some (.exit 0,[.slice (some ⟨b,0,none⟩) nn nn],d)/\d[b]?=some (.cells (Bl ((List.range nn).map fun (x:Nat)=>AE m a (x:Int))) Ak true)/\Mv [b] [b] Z d
 | n,x,0,Z,row,h,o,hb,g,p,l,y,v=>by omega
 | 0,x,f+1,Z,row,h,o,hb,g,p,l,y,v=>by
   rw[OT];have e:x=nn:=by omega
   subst e;simp only[Aaj (show ¬ (x:Int)<(x:Int) by omega),By];rw[Ady (by omega)] at l;exact ⟨Z,rfl,by rw[g,l],Mv.refl _ _⟩
 | n+1,x,f+1,Z,row,h,o,hb,g,p,l,y,v=>by
   have K:=wSu x (by omega);obtain ⟨τ,B⟩:=V7 k h o a (x:Int) u;have h1:=h.app τ;have j:(Z++τ)[b]?=some (.cells row Ak true):=by rw[AT (Af g)]; exact g
   have C:=sQ (T:=Ak) (AE m a (x:Int)) j p (show x<nn by omega);obtain ⟨Z1_,c⟩:∃ Z1_,(Z++τ++[Au.cells [qIi (AE m a (x:Int))] Ak true]).set b (.cells (row.set x (qIi (AE m a (x:Int)))) Ak true)=Z1_:=⟨_,rfl⟩;have F:=Af j;have z:Mv [b] [b] Z Z1_:=by
    rw[<- c];exact ((Mv.app [b] Z τ).trans (Mv.app [b] _ _)).trans (Mv.set _ _ (Ac1.2 rfl))
   have E:Al Z1_ i m:=h.Ax fun q w=>z.same q (h.lt q w) fun hm=>hb (by rw[<- Ac1.1 hm]; exact w);have s:Z1_[b]?=some (.cells (row.set x (qIi (AE m a (x:Int)))) Ak true):=by
    rw[<- c,Aa2 (by rw[Aaw]; omega)]
   obtain ⟨d,D,A,H⟩:=aZ k a u G n (x+1) f Z1_ _ E o hb s (by rw[Adj]; exact p) (by
    rw[Agl,Ae7,KS,<- l];apply Ad8;intro q;have t:(row.take x).length=x:=by rw[Adn]; omega
    rw[Ad2,Aed];by_cases I:q<x
    ·rw[Aay (by omega),Aaz (by omega),AT (by omega),Ad2,Aay I]
    ·by_cases J:q=x
     ·subst J;rw[Aay (by omega),Aay rfl,Aay (by omega),Acf (by omega),t,Afl]; rfl
     ·rw[Aaz (by omega),Acf (by omega),Adr (by simp[Bl]; omega)]) (by omega) (by omega);refine ⟨d, ?_,A,z.trans H⟩;rw[OT];have r:AM (k+7) (AU i) a (x:Int) Z=some (.tuple #[qIi (AE m a (x:Int)),qIi (KD m a (x:Int) false).2],Z++τ):=B;simp only[Aak (show (x:Int)<(nn:Int) by omega),IS,r,AI,B6,Ae,C,c,K,D]
theorem wZ (k:Nat) (K:1000<k) (h:Al J i m) (u:Inv m) (a:Int) (w:AQ a):∃ τ s,KR (k+8) (AU i) a J=some (.slice s.1 s.2.1 s.2.2,J++τ)/\Bf (J++τ) s (Ux m a) /\ ∀ q ∈ hs s,J.length<=q:=by
 obtain ⟨g,j⟩:=PD (k+1) h a w;obtain ⟨s1,s2,B,C⟩:=OE u a;unfold Ux;generalize G:Ag m a=I at j s1 s2 B C;obtain ⟨A,F,H⟩:=I;dsimp only at j s1 s2 B C;obtain ⟨c,rfl⟩:∃ c:Nat,A=(c:Int):=⟨A.toNat,by omega⟩;obtain ⟨S,v⟩:∃ S,Au.cells [qIi (c:Int),qIi F,qIi H] Ad true=S:=⟨_,rfl⟩;obtain ⟨Z,e⟩:∃ Z,J++g++[S]=Z:=⟨_,rfl⟩;have lm:J.length<Z.length:=by rw[<- e,Aaw,Aaw,Ac3]; omega
 have f:Z=J++(g++[S]):=by rw[<- e,Aaq]
 have d:Al Z i m:=by rw[f]; exact h.app _
 have o:Al (Z++[Au.cells (rep c [qIi 0]) Ak true]) i m:=d.app _;have y:∀ τ,Aj .i64 (Z++τ) (J++g).length 0=some (c:Int):=fun τ=>by
  rw[HP _ _ _ (by rw[<- e]; simp),<- e,<- v,Bv]; rfl
 have r:Aj .i64 Z (J++g).length 0=some (c:Int):=by have:=y []; rwa [Ab1] at this
 have n:Z.length ∉ i.l:=fun hm=>by have:=d.lt _ hm; omega
 obtain ⟨D,t,E,z⟩:=aZ k a w (b:=Z.length) (show c<=200 by omega) c 0 (k+7) _ _ o u n (by rw[Ab5]) (by rw[X7,Cm,Aet]) (by simp[Bl]) (by omega) (by omega);obtain ⟨τ,x⟩:∃ τ,D=J++τ:=by
  refine GC (by have:=z.len; simp at this; omega) fun q p=>?_;rw[z.same q (by simp; omega) (fun hm=>by have:=Ac1.1 hm; omega),AT (by omega),f,AT p]
 refine ⟨τ,(some ⟨Z.length,0,none⟩,c,c), ?_, ?_,fun q p=>by simp[hs] at p; omega⟩
 ·rw[ZO];have l:AL (k+7) (AU i) a J=_:=j;rw[show ((0:Nat):Int)=0 from rfl] at t;simp only[l,AI,jq,Adl,Adx,IN,Nat.reduceAdd,Aat,Aey,Ae4,HA,Ah,Ae,EA,v,e,r];rw[Aay (by omega)];simp only[IT,Afm,y,AI,t,Aat,x];rfl
 ·rw[<- x];exact .inl (.inr ⟨Z.length,by simp,Ado _,by simp[Bl],by rw[E]; rfl⟩)
end
section
variable {J:Aa} {m:HM} {r:D4} {s:TC} {i:Cs} {p:PI} {c:CI}
def jn (m:HM) (a:Int) (n:Nat):List Int:=((List.range n).filter fun (x:Nat)=>decide (AE m a (x:Int)≠0) && !DV (Ag m a).2.2 (x:Int)).map fun (x:Nat)=>AE m a (x:Int)
theorem lJ (n:Nat) (Q:Nat->Bool) (f:Nat->Int):((List.range (n+1)).filter Q).map f=((List.range n).filter Q).map f++(if Q n then [f n] else []):=by
 rw[Agl,Afv,Ae7];congr 1;cases h:Q n <;> simp[h]
theorem Rp {ρ:Type} (a:qOi) (n c:Nat) (K:Bx->Option ρ):So [.slice a n c] K=K (a,n,c):=rfl
theorem tt (m:HM) (a:Int) (n:Nat):jn m a (n+1)=jn m a n++(if (decide (AE m a (n:Int)≠0) && !DV (Ag m a).2.2 (n:Int)) then [AE m a (n:Int)] else []):=by
 exact lJ n (fun (x:Nat)=>decide (AE m a (x:Int)≠0) && !DV (Ag m a).2.2 (x:Int)) fun (x:Nat)=>AE m a (x:Int)
theorem mE (m:HM) (a:Int) (n:Nat):(jn m a n).length<=n:=by
 unfold jn;rw[Aeo];have:=Afc (fun (x:Nat)=>decide (AE m a (x:Int)≠0) && !DV (Ag m a).2.2 (x:Int)) (List.range n)
 rwa [Agp] at this
theorem Rw (k:Nat) (a:Int) {nn h0:Nat} (w:nn<=200) {sl:Bx} {rr dd:Int} {T:TypeId}:∀ (n x f:Nat) (Z:Aa) (o:Bx),Bf Z sl ((List.range nn).map fun (x:Nat)=>AE m a (x:Int))->Z[h0]?=some (.cells [qIi rr,qIi dd,qIi (Ag m a).2.2] T true)->Bf Z o (jn m a x)->h0 ∉ hs o->(∀ q ∈ hs sl,q ∉ hs o)->x+n=nn->n<f ->
  ∃ g o',FH (k+1) f h0 sl.1 nn nn (nn:Int) o (x:Int) Z=some (.exit 0,[.slice o'.1 o'.2.1 o'.2.2],g)/\Bf g o' (jn m a nn)/\Mv (hs o) (hs o') Z g
 | n,x,0,Z,o,h,hb,i,d0,d1,y,v=>by omega
 | 0,x,f+1,Z,o,h,hb,i,d0,d1,y,v=>by
   have e:x=nn:=by omega
   subst e;rw[NC];simp only[Aaj (show ¬ (x:Int)<(x:Int) by omega),By];exact ⟨Z,o,rfl,i,Mv.refl _ _⟩
 | n+1,x,f+1,Z,o,h,hb,i,d0,d1,y,v=>by
   have hlen:((List.range nn).map fun (x:Nat)=>AE m a (x:Int)).length=nn:=by simp
   obtain ⟨b,e,A,_⟩:=h.ld (x:=x) (by omega);have G:((List.range nn).map fun (x:Nat)=>AE m a (x:Int)).getD x 0=AE m a (x:Int):=by
    rw[Aax,Aeg,Afo (by omega)]; rfl
   rw[G] at A;have K:(0<=(x:Int)/\(x:Int)<(nn:Int))=True:=Adu (by omega);have L:=wSu x (by omega);have F:Aj .i64 Z h0 2=some (Ag m a).2.2:=(Kr hb).2.2;have E:=mE m a x;have c:=tt m a x;rw[NC];simp only[Aak (show (x:Int)<(nn:Int) by omega),IS,K,Aat,e,AI,IT,Acg,IN,A,L,F,iw,An];have skip:(decide (AE m a (x:Int)≠0) && !DV (Ag m a).2.2 (x:Int))=false -> ∃ g o',FH (k+1) f h0 (some ⟨b,0,none⟩) nn nn (nn:Int) (o.1,o.2.1,o.2.2) ((x+1:Nat):Int) Z=some (.exit 0,[.slice o'.1 o'.2.1 o'.2.2],g)/\Bf g o' (jn m a nn)/\Mv (hs o) (hs o') Z g:=fun d=>by
    rw[d] at c;simp only[Ab8,Aa5,Ab1] at c;have z:=Rw k a w (sl:=sl) (rr:=rr) (dd:=dd) (T:=T) n (x+1) f Z o h hb (by rw[c]; exact i) d0 d1 (by omega) (by omega);rw[e] at z;exact z
   by_cases p:AE m a (x:Int)=0
   ·rw[show (AE m a (x:Int) != 0)=false from by rw[p]; rfl];simp only[By,AI,Aat,HW];exact skip (by rw[p]; rfl)
   ·rw[show (AE m a (x:Int) != 0)=true from Adz.2 p];simp only[IS,AI];cases d:DV (Ag m a).2.2 (x:Int) with
    | true=>
      simp only[Aa4,By,AI,Aat,HW];exact skip (by rw[d]; simp)
    | false=>
      rw[d] at c;rw[Aak p] at c;simp only[Adi,Bool.and_self,Aat] at c;obtain ⟨t,Z1_,B,s,l⟩:=i.push (AE m a (x:Int)) Ak (by omega);have j:Bf Z1_ sl _:=h.Ax fun q d=>l.same q (h.lt q d) (d1 q d);have r:Z1_[h0]?=_:=l.IY hb d0;have I:h0 ∉ hs t:=fun hm=>(l.new h0 hm).elim d0 fun D=>by have:=Af hb; omega
      have J:∀ q ∈ hs sl,q ∉ hs t:=fun q d hm=>(l.new q hm).elim (d1 q d) fun D=>by have:=h.lt q d; omega
      obtain ⟨g,o',u,C,H⟩:=Rw k a w (sl:=sl) (rr:=rr) (dd:=dd) (T:=T) n (x+1) f Z1_ t j r (by rw[c]; exact s) I J (by omega) (by omega);rw[e] at u;refine ⟨g,o', ?_,C,l.trans H⟩;simp only[Adi,IS,Ae,B,AI,Aat,HW,u]
theorem rm (k:Nat) (M:1000<k) (h:Al J i m) (z:Inv m) (a:Int) (B:AQ a):∃ τ o,Jh (k+9) (AU i) a J=some (.slice o.1 o.2.1 o.2.2,J++τ)/\Bf (J++τ) o (Dy m a) /\ ∀ q ∈ hs o,J.length<=q:=by
 obtain ⟨b,I⟩:=PD (k+2) h a B;obtain ⟨s1,s2,P,Q⟩:=OE z a;have l:∀ Z,Al Z i m -> ∃ τ s,KR (k+8) (AU i) a Z=some (.slice s.1 s.2.1 s.2.2,Z++τ)/\Bf (Z++τ) s (Ux m a) /\ ∀ q ∈ hs s,Z.length<=q:=fun Z d=>wZ k M d z a B;have v:Dy m a=jn m a (Ag m a).1.toNat:=rfl;have u:Ux m a=(List.range (Ag m a).1.toNat).map fun (x:Nat)=>AE m a (x:Int):=rfl;rw[v];rw[u] at l;obtain ⟨c,O⟩:∃ c:Nat,(Ag m a).1=(c:Int):=⟨(Ag m a).1.toNat,by omega⟩;have t:(Ag m a).1.toNat=c:=by omega
 rw[t] at l ⊢;obtain ⟨S,A⟩:∃ S,Au.cells [qIi (Ag m a).1,qIi (Ag m a).2.1,qIi (Ag m a).2.2] Ad true=S:=⟨_,rfl⟩;obtain ⟨Z,d⟩:∃ Z,J++b++[S]=Z:=⟨_,rfl⟩;have e:Z=J++(b++[S]):=by rw[<- d,Aaq]
 have lm:(J++b).length<Z.length:=by rw[<- d]; simp
 have r:Al Z i m:=by rw[e]; exact h.app _
 obtain ⟨G,F,K,f,E⟩:=l Z r;have n:(Z++G)[(J++b).length]?=some (.cells [qIi (Ag m a).1,qIi (Ag m a).2.1,qIi (Ag m a).2.2] Ad true):=by
  rw[AT lm,<- d,Ab5,A]
 obtain ⟨H,o',y,L,w⟩:=Rw (k+7) a (show c<=200 by omega) (h0:=(J++b).length) (T:=Ad) c 0 (k+8) (Z++G) (none,0,0) f n (Bf.nil _) (by simp[hs]) (fun q g hm=>by simp[hs] at hm) (by omega) (by omega);rw[show ((0:Nat):Int)=0 from rfl] at y;have C:=f.form;have f1:F.2.1=c:=by rw[C]; simp
 have f2:F.2.2=c:=by rw[C]; simp
 obtain ⟨τ,D⟩:∃ τ,H=J++τ:=by
  refine GC (by have:=w.len; simp at this lm; omega) fun q g=>?_;have N:(J++b).length=J.length+b.length:=Aaw;rw[w.same q (by rw[Aaw]; omega) (by simp[hs]),AT (by omega),e,AT g]
 refine ⟨τ,o', ?_,by rw[<- D]; exact L,fun q g=>?_⟩
 ·rw[Xa];have j:AL (k+8) (AU i) a J=_:=I;simp only[j,AI,jq,Adl,Adx,IN,Nat.reduceAdd,Aat,Aey,Ae4,HA,Ah,Ae,EA,A,d,K,Eo,f1,f2,y,HW,D]
 ·have:=w.new q g;rcases this with p | p
  ·simp[hs] at p
  ·have N:(J++b).length=J.length+b.length:=Aaw;rw[Aaw] at p;omega
theorem rO (m:HM) (s:TC) (l:List Int) (a:Int):Qs m s (l++[a])=Qs m s l++(if B5 m s a && decide ((Ag m a).2.2=2) && B5 m s (AE m a 0) then [AE m a 1] else []):=by
 unfold Qs;rw[Afv,Ae7];congr 1;cases b:(B5 m s a && decide ((Ag m a).2.2=2) && B5 m s (AE m a 0)) <;> simp[b]
theorem kr (m:HM) (s:TC) (l:List Int):(Qs m s l).length<=l.length:=by
 unfold Qs; rw[Aeo]; exact Afc _ _
theorem UO (hi:∀ a,AQ (m.wds.getD a 0)) (a x:Int):AQ (AE m a x):=by
 unfold AE KD;split
 ·exact hi _
 ·unfold AQ; dsimp only; omega
theorem Yr (k:Nat) {sl:Bx} {l:List Int} (hl:l.length<=100000) (Q:∀ v ∈ l,AQ v):∀ (n x f:Nat) (Z:Aa) (o:Bx),Li Z i p c m r s->Bf Z sl l->Bf Z o (Qs m s (l.take x))->(∀ q ∈ hs o,q ∉ i.l/\q ∉ p.l/\q ∉ c.l/\q ∉ hs sl)->x+n=l.length->n<f ->
  ∃ u o',Co (k+8) f (Dz c) sl.1 l.length l.length ((l.length:Nat):Int) o (x:Int) Z=some (.exit 0,[.slice o'.1 o'.2.1 o'.2.2],u)/\Bf u o' (Qs m s l)/\Mv (hs o) (hs o') Z u
 | n,x,0,Z,o,T,h,D,d,hx,X=>by omega
 | 0,x,f+1,Z,o,T,h,D,d,hx,X=>by
   rw[Kt];simp only[dFu x l.length (by omega),By];rw[Ady (by omega)] at D;exact ⟨Z,o,rfl,D,Mv.refl _ _⟩
 | n+1,x,f+1,Z,o,T,h,D,d,hx,X=>by
   obtain ⟨b,e,l1,_⟩:=h.ld (x:=x) (by omega);have qx:=qSu x l.length (by omega);have w1:=wSu x (by omega);have G:l[x]?=some (l.getD x 0):=by
    rw[Aax,Aau (show x<l.length by omega)]; rfl
   have J:l.take (x+1)=l.take x++[l.getD x 0]:=by
    rw[Ago,G]; rfl
   have w:AQ (l.getD x 0):=Q _ (Afx G);generalize l.getD x 0=a at l1 J w;have t:=rO m s (l.take x) a;rw[<- J] at t;have aa:=kr m s (l.take x);have ab:(l.take x).length=x:=by rw[Adn]; omega
   have off:∀ Z1_,Mv (hs o) (hs o) Z Z1_->Li Z1_ i p c m r s/\Bf Z1_ sl l:=fun Z1_ j=>⟨T.Ax j.len (fun q g=>j.same q (T.h.lt q g) fun hm=>(d q hm).1 g) (fun q g=>j.same q (T.rt.lt q g) fun hm=>(d q hm).2.1 g) (fun q g=>j.same q (T.co.lt q g) fun hm=>(d q hm).2.2.1 g),h.Ax fun q g=>j.same q (h.lt q g) fun hm=>(d q hm).2.2.2 g⟩;rw[Kt];have es:CP (k+8) (Dz c) a Z=_:=ax (k+3) T a w;simp only[dTu x l.length (by omega),IS,qx,Aat,e,AI,IT,Acg,IN,Aa0,l1,w1,es,An];have skip:∀ τ,(B5 m s a && decide ((Ag m a).2.2=2) && B5 m s (AE m a 0))=false -> ∃ u o',Co (k+8) f (Dz c) (some ⟨b,0,none⟩) l.length l.length ((l.length:Nat):Int) (o.1,o.2.1,o.2.2) ((x+1:Nat):Int) (Z++τ)=some (.exit 0,[.slice o'.1 o'.2.1 o'.2.2],u)/\Bf u o' (Qs m s l)/\Mv (hs o) (hs o') Z u:=fun τ g=>by
    rw[g] at t;simp only[Ab8,Aa5,Ab1] at t;have j:=Mv.app (hs o) Z τ;obtain ⟨u,o',E,O,U⟩:=Yr k hl Q n (x+1) f (Z++τ) o (off _ j).1 (off _ j).2 (by rw[t]; exact D.app τ) d (by omega) (by omega);rw[e] at E;exact ⟨u,o',E,O,j.trans U⟩
   have y:=skip [];rw[Ab1] at y;cases C:B5 m s a with
   | false=>
     simp only[Adi,IS,AI];exact y (by rw[C]; rfl)
   | true=>
     obtain ⟨z,ek⟩:=ik (k+1) T.h a w;have K:EW (k+8) (AU i) a Z=_:=ek;simp only[Aa4,By,AI,T.co.H7,K,Ah];by_cases A:(Ag m a).2.2=2;rotate_left
     ·rw[show ((Ag m a).2.2 != 2)=true from Adz.2 A];simp only[IS];exact skip z (by rw[C,Aaj A]; rfl)
     ·rw[show ((Ag m a).2.2 != 2)=false from by rw[A]; rfl];have T1:=T.app z;obtain ⟨B,er⟩:=V7 (k+1) T1.h T.mo.inv a 0 w;have L:AM (k+8) (AU i) a 0 (Z++z)=some (.tuple #[qIi (AE m a 0),qIi (KD m a 0 false).2],Z++z++B):=er;have T2:=T1.app B;have N:CP (k+8) (Dz c) (AE m a 0) (Z++z++B)=_:=ax (k+3) T2 _ (UO T.h.wi a 0);simp only[By,T1.co.H7,AI,L,B6,N,An];cases I:B5 m s (AE m a 0) with
      | false=>
        simp only[By,AI,Aat,HW];rw[Aaq];exact skip (z++B) (by rw[I,Bool.and_false])
      | true=>
        obtain ⟨W,M⟩:=V7 (k+1) T2.h T.mo.inv a 1 w;have F:AM (k+8) (AU i) a 1 (Z++z++B)=some (.tuple #[qIi (AE m a 1),qIi (KD m a 1 false).2],Z++z++B++W):=M;have P:=((D.app z).app B).app W;obtain ⟨V,Z1_,e2,S,m2⟩:=P.push (AE m a 1) Ak (by omega);have j:Mv (hs o) (hs V) Z Z1_:=(((Mv.app (hs o) Z z).trans (Mv.app (hs o) _ B)).trans (Mv.app (hs o) _ W)).trans m2;have mo:=fun q (g:q ∈ hs V)=>j.new q g;rw[C,A,I] at t;simp only[Ahf,Bool.and_self,Aat] at t;have T3:Li Z1_ i p c m r s:=T.Ax j.len (fun q g=>j.same q (T.h.lt q g) fun hm=>(d q hm).1 g) (fun q g=>j.same q (T.rt.lt q g) fun hm=>(d q hm).2.1 g) (fun q g=>j.same q (T.co.lt q g) fun hm=>(d q hm).2.2.1 g);have H:Bf Z1_ sl l:=h.Ax fun q g=>j.same q (h.lt q g) fun hm=>(d q hm).2.2.2 g;obtain ⟨u,o',E,O,U⟩:=Yr k hl Q n (x+1) f Z1_ V T3 H (by rw[t]; exact S) (fun q g=>by
         rcases mo q g with Y | Y
         ·exact d q Y
         ·exact ⟨fun hm=>by have:=T.h.lt q hm; omega,fun hm=>by have:=T.rt.lt q hm; omega,fun hm=>by have:=T.co.lt q hm; omega,fun hm=>by have:=h.lt q hm; omega⟩) (by omega) (by omega);rw[e] at E;refine ⟨u,o', ?_,O,j.trans U⟩;simp only[IS,T2.co.H7,AI,F,B6,Ae,e2,Aat,HW,E]
theorem iy (c:m.bls.length<=64):∀ v ∈ DW m,AQ v:=by
 intro v a;unfold DW Cq at a;obtain ⟨j,b,rfl⟩:=Aeb.1 a;have:=(DS.1 b).1;unfold AQ; omega
theorem Q6 (a:m.bls.length<=64):(DW m).length<=2048:=by
 unfold DW Cq FA;rw[Aeo];have:=Ns m 0 (32*m.bls.length);omega
theorem zK (k:Nat) (G:5000<=k) (T:Li J i p c m r s) (hp:s.ph≠2):∃ J' e,Gm (k+12) (Dz c) J=some (.tuple #[],J')/\Li J' i p e m r (NI m s)/\Mv c.l e.l J J'/\e.cb=c.cb:=by
 have h:=T.mo.nt;have C:=Q6 h;obtain ⟨τ,sl,z,li⟩:=aB (k+5) (by omega) T.h;have n:B8 (k+11) (AU i) J=_:=z;have E:=li.ge;have li:Bf (J++τ) sl (DW m):=Bf.ints li;have T1:=T.app τ;obtain ⟨Z,o,t,j,d⟩:=Yr (k+3) (by omega) (iy h) (DW m).length 0 (k+11) (J++τ) (none,0,0) T1 li (Bf.nil _) (fun q b=>by simp[hs] at b) (by omega) (by omega);rw[show ((0:Nat):Int)=0 from rfl] at t;have T2:Li Z i p c m r s:=T1.Ax d.len (fun q b=>d.same q (T1.h.lt q b) (by simp[hs])) (fun q b=>d.same q (T1.rt.lt q b) (by simp[hs])) (fun q b=>d.same q (T1.co.lt q b) (by simp[hs]));have D:=kr m s (DW m);obtain ⟨J',e,u,T3,F,y⟩:=QR k (sl:=o) (l:=Qs m s (DW m)) (by omega) (fun v x=>by
  unfold Qs at x;obtain ⟨a,_,rfl⟩:=Aeb.1 x;exact UO T.h.wi a 1) c.cb (Qs m s (DW m)).length 0 (k+11) Z c s T2 rfl hp j (fun q b hm=>by
   rcases d.new q b with w | w
   ·simp[hs] at w
   ·have:=T1.co.lt q hm; omega) (by omega) (by omega);rw[show ((0:Nat):Int)=0 from rfl] at u;have f:=li.form;have f1:sl.2.1=(DW m).length:=by rw[f]
 have f2:sl.2.2=(DW m).length:=by rw[f]
 have g:=j.form;have A:o.2.1=(Qs m s (DW m)).length:=by rw[g]
 have B:o.2.2=(Qs m s (DW m)).length:=by rw[g]
 refine ⟨J',e, ?_,T3,((Mv.app c.l J τ).trans (d.nil c.l |>.wide (fun q b=>b) fun q b=>.inl b)).trans F,y⟩;rw[Qr];simp only[AI,IN,Aa0,T.co.H7,n,Eo,f1,f2,t,Aat,A,B,Rp,u]
end
section
variable {J:Aa} {m:HM} {r:D4} {s:TC} {i:Cs} {p:PI} {c:CI}
theorem Qe (k:Nat) (a c:Int) (o:AQ a) {nn:Int} (E:nn<=200) {h2:Nat} {rr dd:Int} {T:TypeId}:∀ (n x f:Nat) (acc:Int) (Z:Aa) (m:HM),Al Z i m->MK m->h2 ∉ i.l->Z[h2]?=some (.cells [qIi rr,qIi dd,qIi c] T true)->(x:Int)+n=nn->n<f ->
  ∃ d b,Ee (k+7) f (AU i) a h2 nn acc (x:Int) Z=some (.exit 0,[qIi b],d)/\Al d i (SD a c n x m)/\MK (SD a c n x m)/\(SD a c n x m).bls.length=m.bls.length/\Br i Z d
 | n,x,0,acc,Z,m,h,j,e,p,F,D=>by omega
 | 0,x,f+1,acc,Z,m,h,j,e,p,F,D=>by
   rw[MT];simp only[Aaj (show ¬ (x:Int)<nn by omega),By];exact ⟨Z,acc,rfl,h,j,rfl,Br.refl _ _⟩
 | n+1,x,f+1,acc,Z,m,h,j,e,p,F,D=>by
   have K:=wSu x (by omega);obtain ⟨τ,H⟩:=V7 k h j.inv a (x:Int) o;have t:AM (k+7) (AU i) a (x:Int) Z=some (.tuple #[qIi (AE m a (x:Int)),qIi (KD m a (x:Int) false).2],Z++τ):=H;have h1:=h.app τ;have G:=Br.app i Z τ;have g:(Z++τ)[h2]?=_:=(AT (Af p)).trans p;have J:Aj .i64 (Z++τ) h2 2=some c:=(Kr g).2.2;rw[MT,SD];have es:FG (k+7) c (x:Int) (Z++τ)=_:=iw (k+6) c (x:Int) _;simp only[Aak (show (x:Int)<nn by omega),IS,t,AI,B6,IN,J,es,An,K];have skip:¬ (AE m a (x:Int)≠0/\DV c (x:Int)=true) -> ∃ d b,Ee (k+7) f (AU i) a h2 nn acc ((x+1:Nat):Int) (Z++τ)=some (.exit 0,[qIi b],d)/\Al d i (SD a c n (x+1) (if AE m a (x:Int)≠0/\DV c (x:Int)=true then (BU m a (x:Int) 0).2 else m))/\MK (SD a c n (x+1) (if AE m a (x:Int)≠0/\DV c (x:Int)=true then (BU m a (x:Int) 0).2 else m))/\(SD a c n (x+1) (if AE m a (x:Int)≠0/\DV c (x:Int)=true then (BU m a (x:Int) 0).2 else m)).bls.length=m.bls.length/\Br i Z d:=fun r=>by
    rw[Aaz r];obtain ⟨d,b,u,v,w,y,z⟩:=Qe k a c o E n (x+1) f acc (Z++τ) m h1 j e g (by omega) (by omega);exact ⟨d,b,u,v,w,y,G.trans z⟩
   by_cases s:AE m a (x:Int)=0
   ·rw[show (AE m a (x:Int) != 0)=false from by rw[s]; rfl];simp only[By,AI,Aat,Em];exact skip (fun q=>q.1 s)
   ·rw[show (AE m a (x:Int) != 0)=true from Adz.2 s];simp only[IS,AI];cases r:DV c (x:Int) with
    | false=>
      simp only[By,AI,Aat,Em];have:=skip (fun q=>by rw[r] at q; cases q.2);rw[r] at this;exact this
    | true=>
      rw[Aay ⟨s,rfl⟩];obtain ⟨J1_,I,C,l⟩:=Tq k h1 j.inv a (x:Int) 0 o (by unfold AQ; omega);have A:=j.setRef a (x:Int) 0;have B:J1_[h2]?=_:=(l.same h2 (Af g) e).trans g;obtain ⟨d,b,u,v,w,y,z⟩:=Qe k a c o E n (x+1) f (Ar (acc+1)) J1_ _ C A e B (by omega) (by omega);refine ⟨d,b, ?_,v,w,by rw[y,(N3 m a (x:Int) 0).1],(G.trans l).trans z⟩;simp only[IS,I,AI,Ah,Aat,Em,u]
theorem mO (k:Nat) (Q:1000<k) (h:Al J i m) (n:MK m) (a:Int) (B:AQ a) (D:Value) (K:Int->Bool) (M:∀ τ v,AQ v->GL (k+8) D [qIi v] (J++τ)=some (.bool (K v),J++τ)):
  ∃ J' P,JT (k+9) (AU i) a D J=some (qIi P,J') /\
   Al J' i (if (Ag m a).2.2≠1/\(Ag m a).2.2≠2 then m else if AE m a 0≠0/\K (AE m a 0)=true then m else SD a (Ag m a).2.2 (Ag m a).1.toNat 0 m) /\
   MK (if (Ag m a).2.2≠1/\(Ag m a).2.2≠2 then m else if AE m a 0≠0/\K (AE m a 0)=true then m else SD a (Ag m a).2.2 (Ag m a).1.toNat 0 m) /\
   (if (Ag m a).2.2≠1/\(Ag m a).2.2≠2 then m else if AE m a 0≠0/\K (AE m a 0)=true then m else SD a (Ag m a).2.2 (Ag m a).1.toNat 0 m).bls.length=m.bls.length/\Br i J J':=by
 obtain ⟨b,I⟩:=PD (k+2) h a B;have t:AL (k+8) (AU i) a J=_:=I;obtain ⟨s1,s2,W,X⟩:=OE n.inv a;obtain ⟨S,E⟩:∃ S,Au.cells [qIi (Ag m a).1,qIi (Ag m a).2.1,qIi (Ag m a).2.2] Ad true=S:=⟨_,rfl⟩;have g:(J++b++[S])[(J++b).length]?=some (.cells [qIi (Ag m a).1,qIi (Ag m a).2.1,qIi (Ag m a).2.2] Ad true):=by
  rw[Ab5,E]
 have H:=Kr g;obtain ⟨U,V,O⟩:=H;have e:J++b++[S]=J++(b++[S]):=Aaq _ _ _;have h1:Al (J++b++[S]) i m:=by rw[e]; exact h.app _
 have F:Br i J (J++b++[S]):=by rw[e]; exact Br.app _ _ _
 rw[Wg];simp only[t,AI,jq,Adl,Adx,IN,Nat.reduceAdd,Aat,Aey,Ae4,HA,Ah,Ae,EA,E,O];by_cases j:(Ag m a).2.2≠1/\(Ag m a).2.2≠2
 ·rw[Aay j,Adz.2 j.1,Adz.2 j.2];simp only[IS,AI];exact ⟨_,0,rfl,h1,n,trivial,F⟩
 rw[Aaz j];have hb:((bif ((Ag m a).2.2 != 1) then some (((Ag m a).2.2 != 2),J++b++[S]) else some (false,J++b++[S])):Option (Bool × Aa))=some (false,J++b++[S]):=by
  by_cases G:(Ag m a).2.2=1
  ·rw[G]; rfl
  ·have s:(Ag m a).2.2=2:=by
    by_cases s:(Ag m a).2.2=2
    ·exact s
    ·exact absurd ⟨G,s⟩ j
   rw[s]; rfl
 rw[hb];obtain ⟨d,L⟩:=V7 (k+1) h1 n.inv a 0 B;have w:AM (k+8) (AU i) a 0 (J++b++[S])=some (.tuple #[qIi (AE m a 0),qIi (KD m a 0 false).2],J++b++[S]++d):=L;have h2:=h1.app d;have C:Br i J (J++b++[S]++d):=F.trans (Br.app _ _ _);have o:(J++b++[S]++d)[(J++b).length]?=_:=(AT (Af g)).trans g;have p:=(Kr o).1;simp only[AI,By,w,B6];have l:=M (b++[S]++d) (AE m a 0) (UO h.wi a 0);rw[show J++(b++[S]++d)=J++b++[S]++d from by simp only[Aaq]] at l;have go:¬ (AE m a 0≠0/\K (AE m a 0)=true) -> ∃ f c,Ee (k+8) (k+8) (AU i) a (J++b).length (Ag m a).1 0 0 (J++b++[S]++d)=some (.exit 0,[qIi c],f)/\Al f i (SD a (Ag m a).2.2 (Ag m a).1.toNat 0 m)/\MK (SD a (Ag m a).2.2 (Ag m a).1.toNat 0 m)/\(SD a (Ag m a).2.2 (Ag m a).1.toNat 0 m).bls.length=m.bls.length/\Br i (J++b++[S]++d) f:=fun _=>
  Qe (k+1) a (Ag m a).2.2 B s2 (h2:=(J++b).length) (T:=Ad) (Ag m a).1.toNat 0 (k+8) 0 (J++b++[S]++d) m h2 n (fun hm=>by have:=h.lt _ hm; rw[Aaw] at this; omega) o (by omega) (by omega);by_cases r:AE m a 0=0
 ·have q:¬ (AE m a 0≠0/\K (AE m a 0)=true):=fun e=>e.1 r;rw[Aaz q];obtain ⟨f,c,u,x,y,z,A⟩:=go q;refine ⟨f,c, ?_,x,y,z,C.trans A⟩;rw[show (AE m a 0 != 0)=false from by rw[r]; rfl];simp only[By,AI,p,u,Aat,Em]
 ·rw[show (AE m a 0 != 0)=true from Adz.2 r];simp only[IS,l,AI,An];cases N:K (AE m a 0) with
  | true=>
    rw[Aay ⟨r,rfl⟩];simp only[IS];exact ⟨_,0,rfl,h2,n,trivial,C⟩
  | false=>
    have q:¬ (AE m a 0≠0/\K (AE m a 0)=true):=fun e=>by rw[N] at e; cases e.2
    rw[Aaz (fun e=>by cases e.2)];obtain ⟨f,c,u,x,y,z,A⟩:=go q;refine ⟨f,c, ?_,x,y,z,C.trans A⟩;simp only[By,p,AI,u,Aat,Em]
theorem nv (k:Nat) (a:qOi) (b:Int) (J:Aa):GL k (.func (.func 266) #[qVi a] #[]) [qIi b] J=CP k a b J:=by
 simp only[GL,CP,Ac]; kernel_rfl
theorem tG (k:Nat) (l:1000<k) (T:Li J i p c m r s) (a:Int) (j:AQ a):∃ J' b,Ke (k+10) (AU i) a (.func (.func 266) #[qVi (Dz c)] #[]) J=some (.bool b,J')/\Li J' i p c (Ql m s a) r s/\Mv i.l i.l J J':=by
 obtain ⟨J',o,e,f,g,h,d⟩:=mO k l T.h T.mo a j (.func (.func 266) #[qVi (Dz c)] #[]) (B5 m s) (fun τ v n=>by
  rw[nv];exact ax (k+3) (T.app τ) v n);refine ⟨J',decide (o>0), ?_,T.gf f d g h,d.mv⟩;rw[Yc];simp only[e,AI,Ah]
end
section
variable {J:Aa} {m:HM} {r:D4} {s:TC} {i:Cs} {p:PI} {c:CI}
theorem Wy (k:Nat) (o:1000<k) {sl:Bx} {l:List Int} (z:l.length<=100000) (u:∀ v ∈ l,AQ v) (t:∀ q ∈ hs sl,q ∉ i.l):∀ (n x f:Nat) (J:Aa) (m:HM),Li J i p c m r s->Bf J sl l->x+n=l.length->n<f ->
  ∃ J',G8 (k+10) f (Dz c) sl.1 l.length l.length ((l.length:Nat):Int) (x:Int) J=some (.exit 0,[],J')/\Li J' i p c (Im m s (l.drop x)) r s/\Mv i.l i.l J J'
 | n,x,0,J,m,T,d,A,y=>by omega
 | 0,x,f+1,J,m,T,d,A,y=>by
   rw[MX];simp only[dFu x l.length (by omega),By];rw[Ade (by omega)];exact ⟨J,rfl,T,Mv.refl _ _⟩
 | n+1,x,f+1,J,m,T,d,A,y=>by
   obtain ⟨b,e,B,_⟩:=d.ld (x:=x) (by omega);have G:=qSu x l.length (by omega);have H:=wSu x (by omega);have hd:l.drop x=l.getD x 0::l.drop (x+1):=by
    rw[Ac2 (by omega),Aax,Aau (by omega)]; rfl
   have g:AQ (l.getD x 0):=by
    rw[Aax,Aau (show x<l.length by omega)]; exact u _ (Adb _)
   rw[hd];show ∃ J',_/\Li J' i p c ((l.drop (x+1)).foldl _ _) r s/\_;generalize l.getD x 0=a at B g;have es:CP (k+10) (Dz c) a J=_:=ax (k+5) T a g;rw[MX];simp only[dTu x l.length (by omega),IS,G,Aat,e,AI,IT,Acg,IN,Aa0,B,H,es,An];cases E:B5 m s a with
   | false=>
     obtain ⟨J',h,T2,w⟩:=Wy k o z u t n (x+1) f J m T d (by omega) (by omega);rw[e] at h;refine ⟨J', ?_,T2,w⟩;simp only[By,AI,Aat,h]
   | true=>
     obtain ⟨J1_,I,D,T1,C⟩:=tG k o T a g;have j:Ke (k+10) (AU i) a (.func (.func 266) #[qVi (some ⟨c.cb,0,none⟩)] #[]) J=_:=D;obtain ⟨F,_,_⟩:=C.DR (X:=hs sl) d.lt t;obtain ⟨J',h,T2,w⟩:=Wy k o z u t n (x+1) f J1_ _ T1 (d.Ax F) (by omega) (by omega);rw[e] at h;refine ⟨J', ?_,T2,C.trans w⟩;simp only[IS,T.co.H7,AI,j,An,Aat,h]
def US (m:HM) (n:Nat):List Int:=((List.range n).filter fun (b:Nat)=>decide (Ce m (b:Int)=1\/Ce m (b:Int)=2)).map fun (b:Nat)=>(b:Int)
theorem rH (m:HM) (n:Nat):US m (n+1)=US m n++(if decide (Ce m (n:Int)=1\/Ce m (n:Int)=2)=true then [(n:Int)] else []):=
 lJ n (fun (b:Nat)=>decide (Ce m (b:Int)=1\/Ce m (b:Int)=2)) fun (b:Nat)=>(b:Int)
theorem jX (m:HM) (n:Nat):(US m n).length<=n:=by
 unfold US;rw[Aeo];have:=Afc (fun (b:Nat)=>decide (Ce m (b:Int)=1\/Ce m (b:Int)=2)) (List.range n)
 rwa [Agp] at this
theorem Wz (k:Nat) (o:Nat) {rb nb nn:Nat} (D:nn<=100):∀ (n x f:Nat) (Z:Aa) (c:CI),Al Z i m->Gk Z c i.hb rb nb { s with left:=US m x }->(∀ q ∈ i.l,q ∉ c.l)->c.cb=o->x+n=nn->n<f ->
  ∃ j l,G9 (k+3) f (some ⟨o,0,none⟩) (nn:Int) (x:Int) Z=some (.exit 2,[],j)/\Gk j l i.hb rb nb { s with left:=US m nn }/\Mv c.l l.l Z j/\l.cb=o
 | n,x,0,Z,c,h,d,r,a,E,C=>by omega
 | 0,x,f+1,Z,c,h,d,r,a,E,C=>by
   rw[MY];simp only[Aaj (show ¬ (x:Int)<(nn:Int) by omega),By];have e:x=nn:=by omega
   subst e;exact ⟨Z,c,rfl,d,Mv.refl _ _,a⟩
 | n+1,x,f+1,Z,c,h,d,r,a,E,C=>by
   have T:=wSu x (by omega);have b:=rH m x;have hlen:=jX m x;have v:Bn (k+3) (AU i) (x:Int) Z=_:=ak k h (x:Int);have O:B9 Z o 0=some (AU i):=by rw[<- a]; exact d.H7
   have P:Be Z o 7=some (c.lf.1,(US m x).length,(US m x).length):=by rw[<- a]; exact d.ld7
   rw[MY];simp only[Aak (show (x:Int)<(nn:Int) by omega),IS,AI,IN,Aa0,O,v,Ah,T];have hb:((bif (Ce m (x:Int) == 1) then some (true,Z) else some ((Ce m (x:Int) == 2),Z)):Option (Bool × Aa))=some (decide (Ce m (x:Int)=1\/Ce m (x:Int)=2),Z):=by
    by_cases z:Ce m (x:Int)=1
    ·rw[z]; rfl
    ·rw[show (Ce m (x:Int) == 1)=false from Ach.2 z];by_cases A:Ce m (x:Int)=2
     ·rw[A]; rfl
     ·rw[show (Ce m (x:Int) == 2)=false from Ach.2 A,Aaj (fun L=>L.elim z A)]; rfl
   rw[hb];simp only[AI];cases t:decide (Ce m (x:Int)=1\/Ce m (x:Int)=2) with
   | false=>
     rw[t] at b;simp only[Ab8,Aa5,Ab1] at b;obtain ⟨j,l,p,w,u,F⟩:=Wz k o D n (x+1) f Z c h (by rw[b]; exact d) r a (by omega) (by omega);refine ⟨j,l, ?_,w,u,F⟩;simp only[By,AI,Aat,p]
   | true=>
     rw[t] at b;simp only[Aat] at b;obtain ⟨s',Z1_,B,y,Q⟩:=d.lf.push (x:Int) Ak (by show (US m x).length<=_; omega);have g:=d.lf.form;have I:c.lf.2.1=(US m x).length:=by rw[g]
     have J:c.lf.2.2=(US m x).length:=by rw[g]
     rw[I,J] at B;obtain ⟨Z2_,p,w,u⟩:=d.qG (fun q t=>t) Q y;obtain ⟨M,N,_⟩:=u.DR (X:=i.l) h.lt r;obtain ⟨j,l,H,K,S,G⟩:=Wz k o D n (x+1) f Z2_ _ (h.Ax M) (by rw[b]; exact w) N a (by omega) (by omega);refine ⟨j,l, ?_,K,u.trans S,G⟩;rw[a] at p;simp only[IS,P,AI,Ae,B,p,Aat,H]
theorem xF (k:Nat) (hk:5000<=k) (T:Li J i p c m r s) (hp:s.ph≠2):∃ J' A,Ik (k+13) (Dz c) J=some (.tuple #[],J')/\Li J' i p A (Xm m r s).1 r (Xm m r s).2/\Mv (i.l++c.l) (i.l++A.l) J J'/\A.cb=c.cb:=by
 have n:=T.mo.nt;have aa:=Q6 n;obtain ⟨J1_,d,C,T1,M,w⟩:∃ J1_ d,((bif s.look then ((EM (k+12) (Dz c) J).bind fun r3=>W8 r3.1 (some (.normal,[],r3.2))) else (some (.normal,[],J)):Option Bq))=some (.normal,[],J1_)/\Li J1_ i p d m r (if s.look then AA m s (AW r) else s)/\Mv c.l d.l J J1_/\d.cb=c.cb:=by
  cases s.look with
  | false=>exact ⟨J,c,rfl,T,Mv.refl _ _,rfl⟩
  | true=>
    obtain ⟨J1_,d,C,T1,M,w⟩:=gH k (by omega) T hp;exact ⟨J1_,d,by simp only[IS,C,AI,Gi],T1,M,w⟩
 obtain ⟨s1,h⟩:∃ s1,(if s.look then AA m s (AW r) else s)=s1:=⟨_,rfl⟩;have Z:s1.ph≠2:=by
  rw[<- h]; split
  ·rw[(Dx m _ s).1]; exact hp
  ·exact hp
 rw[h] at T1;obtain ⟨J2_,e,Q,T2,m2,b2⟩:=zK k hk T1 Z;have p2:(NI m s1).ph≠2:=by unfold NI; rw[(Dx m _ s1).1]; exact Z
 obtain ⟨s2,o⟩:∃ s2,NI m s1=s2:=⟨_,rfl⟩;rw[o] at T2 p2;have j:e.cb=c.cb:=b2.trans w;have N:Dz d=Dz c:=by unfold Dz; rw[w]
 have O:Dz e=Dz c:=by unfold Dz; rw[j]
 rw[N] at Q;have v:=M.trans m2;have f:Xm m r s=(if s2.list≠[] then (m,s2) else (Im m s2 (DW m),{ s2 with left:=s2.left++WX (Im m s2 (DW m)),ph:=2 })):=by
  rw[<- o,<- h]; rfl
 rw[f];have d6:Be J2_ c.cb 6=some (e.ls.1,s2.list.length,s2.list.length):=by rw[<- j]; exact T2.co.uT
 rw[Wp];simp only[AI,IN,Aa0,T.co.UL,C,Aat,Q,Gi,d6];by_cases t:s2.list=[];rotate_left
 ·have:0<s2.list.length:=Ae1.2 t;rw[Aay t,Aak (by omega)];exact ⟨J2_,e,rfl,T2,v.right i.l,j⟩
 rw[Aaz (fun H=>H t)];have I:s2.list.length=0:=by rw[t]; rfl
 have d0:B9 J2_ c.cb 0=some (AU i):=by rw[<- j]; exact T2.co.H7
 obtain ⟨τ,sl,e3,li⟩:=aB (k+6) (by omega) T2.h;have D:B8 (k+12) (AU i) J2_=_:=e3;have G:=li.ge;have li:Bf (J2_++τ) sl (DW m):=Bf.ints li;have T3:=T2.app τ;obtain ⟨b,S,T4,m4⟩:=Wy (k+2) (by omega) (sl:=sl) (l:=DW m) (by omega) (iy n) (fun q L hm=>by
  obtain ⟨a,ha,rfl⟩:=BV.1 L;have:=(G a ha).1;have:=T2.h.lt _ hm;omega) (DW m).length 0 (k+12) (J2_++τ) m T3 li (by omega) (by omega);rw[show ((0:Nat):Int)=0 from rfl,O] at S;rw[Adf] at T4;obtain ⟨m',K⟩:∃ m',Im m s2 (DW m)=m':=⟨_,rfl⟩;rw[K] at T4 ⊢;have W:=T4.mo.nt;have u:s2.left=[]:=T2.tok.l0 p2;have B:B9 b c.cb 0=some (AU i):=by rw[<- j]; exact T4.co.H7
 have eb:AF (k+12) (AU i) b=_:=GW (k+10) T4.h;have F:Gk b e i.hb p.rb m'.bls.length { s2 with left:=US m' 0 }:=by
  have:({ s2 with left:=US m' 0 }:TC)=s2:=by
   show ({ s2 with left:=[] }:TC)=s2;rw[<- u]
  rw[this]; exact T4.co
 obtain ⟨J5_,c5,U,h5,X,P⟩:=Wz (s:=s2) (k+9) c.cb (nn:=m'.bls.length) (by omega) m'.bls.length 0 (k+12) b e T4.h F (fun q L hm=>T4.fp.ne (x:=0) (y:=2) (by simp) (by simp) (by decide) q L hm) j (by omega) (by omega);rw[show ((0:Nat):Int)=0 from rfl] at U;obtain ⟨z,V,h6,Y⟩:=h5.vL 2;have E:WX m'=US m' m'.bls.length:=rfl;rw[u,Ae5,E];have tk:Qj m'.bls.length { s2 with left:=US m' m'.bls.length,ph:=2 }:=⟨T4.tok.wl,T4.tok.ls,T4.tok.lr,by have:=jX m' m'.bls.length; show (US m' _).length<=64; omega,fun H=>absurd rfl H,fun _=>t⟩;have T6:=T4.Qm h6 (X.trans Y) tk;refine ⟨z,c5, ?_,T6,((v.right i.l).trans ((Mv.app _ _ τ).trans (m4.left e.l))).trans ((X.trans Y).right i.l),P⟩;have g:=li.form;have g1:sl.2.1=(DW m).length:=by rw[g]
 have g2:sl.2.2=(DW m).length:=by rw[g]
 rw[P] at V;simp only[I,show decide (((0:Nat):Int)>0)=false from rfl,By,d0,AI,D,Eo,g1,g2,S,Aat,B,eb,Ah,U,V]
end
section
variable {J:Aa} {m:HM} {r:D4} {s:TC} {i:Cs} {p:PI} {c:CI}
def TG (mm:Option (Value × Aa)) (J:Aa) (i:Cs) (p:PI) (c:CI) (r:D4) (v:Value) (q:HM × TC):Prop:=
 ∃ J' a,mm=some (v,J')/\Li J' i p a q.1 r q.2/\Mv (i.l++c.l) (i.l++a.l) J J'/\a.cb=c.cb
theorem zY (k:Nat) (hk:5000<=k) (T:Li J i p c m r s) (hp:s.ph≠2) {a:Int} {l:List Int} (f:s.list=a::l):TG (En (k+14) (Dz c) J) J i p c r (.tuple #[]) (m,Xx m s):=by
 have ab:=T.mo.nt;have hlen:=T.tok.len;have aa:=T.tok.lr a (by rw[f]; exact Acj);have E:s.list.length=l.length+1:=by rw[f]; rfl
 have W:AQ a:=by unfold AQ; omega
 have d6:=T.co.uT;have n:Bf J c.ls (a::l):=by rw[<- f]; exact T.co.ls
 obtain ⟨b,U,lb,_⟩:=n.ld (x:=0) (by simp);have G:Aj .i64 J b 0=some a:=lb;obtain ⟨pt,O,P,F⟩:=n.tail;rw[<- f,U] at P;obtain ⟨s',τ1,e2,H,w⟩:=WY (k+12) pt O l (by omega) F;have B:BN (k+13) (pt,l.length,O) J=_:=e2;obtain ⟨J2_,e3,h3,I⟩:=T.co.qH (L:=[]) (fun q d=>by cases d) (Z:=J++τ1) ⟨by simp,fun q d _=>AT d,fun q d=>.inr (w q d)⟩ H;have tk:Qj m.bls.length { s with list:=l }:=⟨T.tok.wl,by have:=T.tok.ls; rw[E] at this; show l.length<=_; exact Nat.le_of_succ_le this,fun v A=>T.tok.lr v (by rw[f]; exact Ab7 _ A),T.tok.lf,T.tok.l0,fun e=>absurd e hp⟩;have T2:=T.Qm h3 I tk;have n1:(s.ph == 2)=false:=Ach.2 hp;have eh:Bd (k+13) (AU i) a J2_=_:=Tm (k+9) T2.h a W;have d0:B9 J2_ c.cb 0=some (AU i):=T2.co.H7;unfold TG;have t:Xx m s=if Aw m a then Eh (AA m { s with list:=l } (Dy m a)) a 2 else { s with list:=l }:=by
  unfold Xx; rw[f]
 rw[t];rw[LP];simp only[AI,IN,Aa0,T.co.eR,n1,By,d6,Aak (show ((s.list.length:Nat):Int)>0 by omega),IS];rw[Aay (by omega)];simp only[U,AI,Afm,Ad6,IN,G,P,B,Eo,e3,d0,eh,An];cases hh:Aw m a with
 | false=>
   simp only[By,AI,Aat,Ab8,Aa5];exact ⟨J2_,_,rfl,T2,I.right i.l,rfl⟩
 | true=>
   obtain ⟨K,o,e4,u,y⟩:=rm (k+4) (by omega) T2.h T.mo.inv a W;have C:Jh (k+13) (AU i) a J2_=_:=e4;have T4:=T2.app K;have ac:(Dy m a).length<=200:=by
    have h1:=mE m a (Ag m a).1.toNat;have h2:=OE T.mo.inv a;have:Dy m a=jn m a (Ag m a).1.toNat:=rfl;rw[this]; omega
   obtain ⟨J5_,N,Q,T5,m5,M⟩:=dQ (k+2) (sl:=o) (l:=Dy m a) (by omega) (fun v A=>by
    unfold Dy at A;obtain ⟨x,_,rfl⟩:=Aeb.1 A;exact UO T2.h.wi a _) c.cb (Dy m a).length 0 (k+13) (J2_++K) _ _ T4 rfl hp u (fun q d hm=>by have:=y q d; have:=T2.co.lt q hm; omega) (by omega) (by omega);rw[show ((0:Nat):Int)=0 from rfl] at Q;rw[Adf] at T5;obtain ⟨j,X,hs⟩:=AY hh;obtain ⟨h,S,V,Y⟩:=cW (k+3) T5.co hs.1 (v:=2) (by decide);rw[<- X] at S V;have z:=T5.tok.cV hs.1 (v:=2) (by decide) (by decide);rw[<- X] at z;have T6:=T5.Qm V Y z;have g:=u.form;have g1:o.2.1=(Dy m a).length:=by rw[g]
   have g2:o.2.2=(Dy m a).length:=by rw[g]
   have D:CO (k+13) (some ⟨c.cb,0,none⟩) a (2:Int) J5_=some (.tuple #[],h):=by
    have:Dz N=some ⟨c.cb,0,none⟩:=by unfold Dz; rw[M]
    rw[<- this]; exact S
   refine ⟨h,N, ?_,T6,(((I.trans (Mv.app _ _ K)).trans m5).trans Y).right i.l,M⟩;simp only[IS,C,AI,g1,g2,Q,Aat,D,Gi]
theorem Wx (ws:List (BitVec 64)):∀ (l:List Int) (q:HM × Int),MK q.1->MK (JE ws l q).1/\(JE ws l q).1.bls.length=q.1.bls.length
 | [],q,h=>⟨h,rfl⟩
 | a::l,q,h=>by
   unfold JE;split
   ·obtain ⟨h1,b⟩:=Wx ws l ((Hw q.1 a).2,Ar (q.2+1)) (h.kill a);exact ⟨h1,b.trans (by rw[(NK h.inv h.sh a).1])⟩
   ·exact Wx ws l q h
theorem UA (k:Nat) {sl:Bx} {l:List Int} (z:l.length<=100000) (nb:Nat) (u:∀ v ∈ l,∃ j:Nat,v=((2*j:Nat):Int)/\j<32*nb) (g:nb<=64):∀ (n x f:Nat) (J:Aa) (m:HM) (s:TC),Li J i p c m r s->m.bls.length=nb->Bf J sl l->(∀ q ∈ hs sl,q ∉ i.l/\q ∉ c.l)->x+n=l.length->n<f ->
  ∃ J',EH (k+12) f (Dz c) sl.1 l.length l.length ((l.length:Nat):Int) (x:Int) J=some (.exit 0,[],J')/\Li J' i p c (JE s.ws (l.drop x) (m,s.freed)).1 r { s with freed:=(JE s.ws (l.drop x) (m,s.freed)).2 }/\Mv (i.l++c.l) (i.l++c.l) J J'
 | n,x,0,J,m,s,T,hb,a,d,B,y=>by omega
 | 0,x,f+1,J,m,s,T,hb,a,d,B,y=>by
   rw[MH];simp only[dFu x l.length (by omega),By];rw[Ade (by omega)];exact ⟨J,rfl,T,Mv.refl _ _⟩
 | n+1,x,f+1,J,m,s,T,hb,a,d,B,y=>by
   obtain ⟨b,e,D,_⟩:=a.ld (x:=x) (by omega);have P:=qSu x l.length (by omega);have Q:=wSu x (by omega);have hd:l.drop x=l.getD x 0::l.drop (x+1):=by
    rw[Ac2 (by omega),Aax,Aau (by omega)]; rfl
   obtain ⟨j,M,N⟩:∃ j:Nat,l.getD x 0=((2*j:Nat):Int)/\j<32*nb:=by
    rw[Aax,Aau (show x<l.length by omega)]; exact u _ (Adb _)
   rw[hd];rw[M] at D ⊢;have I:CG (k+12) (Dz c) ((2*j:Nat):Int) J=_:=yI (k+8) T.co (by omega);rw[MH];simp only[dTu x l.length (by omega),IS,P,Aat,e,AI,IT,Acg,IN,Aa0,D,Q,I,Ah];have H:((2*j:Nat):Int).toNat/2=j:=by omega
   unfold JE;rw[H];by_cases o:CJ 2 s.ws j=0;rotate_left
   ·rw[Aaz o,show ((CJ 2 s.ws j:Int) == 0)=false from by simpa using o];obtain ⟨J',h,T2,t⟩:=UA k z nb u g n (x+1) f J m s T hb a d (by omega) (by omega);rw[e] at h;refine ⟨J', ?_,T2,t⟩;simp only[By,AI,Aat,h]
   ·rw[Aay o,show ((CJ 2 s.ws j:Int) == 0)=true from by simpa using o];obtain ⟨J1_,G,h1,C⟩:=fq k T.h T.mo.inv ((2*j:Nat):Int) (by unfold AQ; omega);have F:=NK T.mo.inv T.mo.sh ((2*j:Nat):Int);have T1:=T.gf h1 C (T.mo.kill _) (by rw[F.1]);obtain ⟨J2_,h,L,t⟩:=T1.co.mj (Ar (s.freed+1));have T2:=T1.Qm L t ⟨T1.tok.wl,T1.tok.ls,T1.tok.lr,T1.tok.lf,T1.tok.l0,T1.tok.s2⟩;have E:Mv (i.l++c.l) (i.l++c.l) J J2_:=(C.mv.left c.l).trans (t.right i.l);obtain ⟨K,S,_⟩:=E.DR (X:=hs sl) a.lt (fun q A hm=>(Aas.1 hm).elim (d q A).1 (d q A).2);obtain ⟨J',w,T3,O⟩:=UA k z nb u g n (x+1) f J2_ _ _ T2 (by rw[F.1]; exact hb) (a.Ax K) d (by omega) (by omega);rw[e] at w;refine ⟨J', ?_,T3,E.trans O⟩;simp only[IS,T.co.H7,AI,G,Ah,T1.co.ld8,h,Aat,w]
theorem fM:∀ (n x:Nat) (ws:List (BitVec 64)),(St ws n x).length=ws.length
 | 0,_,_=>rfl
 | n+1,x,ws=>by rw[St,fM n]; exact Ek _ _ _ _
theorem pN (k:Nat) (C:5000<=k) (T:Li J i p c m r s) (hp:s.ph=2):∃ J',((Be J c.cb 7).bind fun g=>(bif ((g.2.1:Nat):Int) == (0:Int) then ((B9 J c.cb 5).bind fun j=>(B9 J c.cb 5).bind fun l=>(Eg (k+13) l J).bind fun b=>(Bk .i64 b.1).bind fun h=>(FL (k+13) j (0:Int) h (0:Int) b.2).bind fun d=>(Bk .i64 d.1).bind fun A=>(CY d.2 c.cb 4 (qIi (0:Int))).bind fun n=>some (.normal,[],n)) else (some (.normal,[],J)):Option Bq).bind fun e=>if e.1 = .normal then (some (Value.tuple #[],e.2.2)) else none)=some (Value.tuple #[],J')/\Li J' i p c m r (PQ (32*m.bls.length) s)/\Mv c.l c.l J J':=by
 simp only[T.co.ld7,AI];unfold PQ;by_cases a:s.left=[]
 ·rw[Aay a];have h0:s.left.length=0:=by rw[a]; rfl
  have v:Eg (k+13) (some ⟨c.tb,0,none⟩) J=_:=mP (k+11) T.co.tab;obtain ⟨J1_,t,h1,z⟩:=wG (k+4) (by omega) T.co.sep.bc T.co.tab;have f:FL (k+13) (some ⟨c.tb,0,none⟩) 0 ((32*m.bls.length:Nat):Int) 0 J=_:=t;obtain ⟨w,o⟩:=T.co.vO h1 z;obtain ⟨J3_,u,x,q⟩:=w.vL 0;have B:Qj m.bls.length { s with ws:=St s.ws (32*m.bls.length) 0,ph:=0 }:=⟨by show (St _ _ _).length=_; rw[fM]; exact T.tok.wl,by show s.list.length<=_; rw[T.tok.s2 hp]; exact Ado _,T.tok.lr,T.tok.lf,fun _=>a,fun y=>by cases y⟩;refine ⟨J3_, ?_,T.Qm x (o.trans q) B,o.trans q⟩;rw[h0];simp only[show (((0:Nat):Int) == 0)=true from rfl,IS,T.co.ld5,AI,v,Ah,f,u,Aat]
 ·rw[Aaz a];have:0<s.left.length:=Ae1.2 a;refine ⟨J, ?_,T,Mv.refl _ _⟩;rw[show (((s.left.length:Nat):Int) == 0)=false from by simpa using a];simp only[By,AI,Aat]
theorem xM {m:HM} {b:Int}:∀ v ∈ Cq (HI m b),∃ j:Nat,v=((2*j:Nat):Int)/\j<32*m.bls.length:=by
 intro v c;unfold Cq at c;obtain ⟨j,a,rfl⟩:=Aeb.1 c;refine ⟨j,rfl, ?_⟩;unfold HI at a;split at a
 ·have:=LR.1 a;omega
 ·cases a
theorem vf (m:HM) (b:Int):(Cq (HI m b)).length<=32:=by
 unfold Cq HI;rw[Aeo];split
 ·exact Ns _ _ _
 ·simp
theorem vZ (k:Nat) (N:5000<=k) (T:Li J i p c m r s) (hp:s.ph=2):TG (Js (k+14) (Dz c) J) J i p c r (.tuple #[]) (GD m s):=by
 have E:=T.mo.nt;have d7:=T.co.ld7;have aa:=T.tok.lf;unfold TG GD;rw[Vx];cases t:s.left with
 | nil=>
   obtain ⟨J',f,T1,m1⟩:=pN k N T hp;refine ⟨J',c, ?_,T1,m1.right i.l,rfl⟩;rw[t] at d7;simp only[AI,IN,Aa0,d7,Adx,show decide (((0:Nat):Int)>0)=false from rfl,By,Aat];rw[d7] at f;simp only[AI,Adx] at f;exact f
 | cons b l=>
   have ab:s.left.length=l.length+1:=by rw[t]; rfl
   have h:Bf J c.lf (b::l):=by rw[<- t]; exact T.co.lf
   obtain ⟨q,eq,lb,_⟩:=h.ld (x:=0) (by simp);have G:Aj .i64 J q 0=some b:=lb;obtain ⟨U,K,f,F⟩:=h.tail;rw[<- t,eq] at f;obtain ⟨s',τ1,Y,H,n⟩:=WY (k+12) U K l (by omega) F;have w:BN (k+13) (U,l.length,K) J=_:=Y;obtain ⟨J2_,e3,h3,S⟩:=T.co.qG (L:=[]) (fun q e=>by cases e) (Z:=J++τ1) ⟨by simp,fun q e _=>AT e,fun q e=>.inr (n q e)⟩ H;have tk:Qj m.bls.length { s with left:=l }:=⟨T.tok.wl,T.tok.ls,T.tok.lr,by show l.length<=64; omega,fun hh=>absurd hp hh,T.tok.s2⟩;have T2:=T.Qm h3 S tk;have d0:B9 J2_ c.cb 0=some (AU i):=T2.co.H7;obtain ⟨o,sl,e4,d⟩:=rh (k+7) (by omega) T2.h b;have y:Cg (k+13) (AU i) b J2_=_:=e4;have D:=d.ge;have d:Bf (J2_++o) sl (Cq (HI m b)):=Bf.ints d;have T4:=T2.app o;have O:=vf m b;obtain ⟨J5_,M,T5,m5⟩:=UA (k+1) (sl:=sl) (l:=Cq (HI m b)) (by omega) m.bls.length xM E (Cq (HI m b)).length 0 (k+13) (J2_++o) m _ T4 rfl d (fun q e=>by
    obtain ⟨a,ha,rfl⟩:=BV.1 e;have:=(D a ha).1;exact ⟨fun hm=>by have:=T2.h.lt _ hm; omega,fun hm=>by have:=T2.co.lt _ hm; omega⟩) (by omega) (by omega);rw[show ((0:Nat):Int)=0 from rfl] at M;rw[Adf] at T5;obtain ⟨Q,B⟩:∃ Q,JE s.ws (Cq (HI m b)) (m,s.freed)=Q:=⟨_,rfl⟩;have T5:Li J5_ i p { c with lf:=s' } Q.1 r { s with left:=l,freed:=Q.2 }:=by rw[<- B]; exact T5
   have v:B9 J5_ c.cb 0=some (AU i):=T5.co.H7;obtain ⟨V,e6,h6,P⟩:=iq (k+6) (by omega) T5.h b;have A:FX (k+13) (AU i) b J5_=_:=e6;have j:=N2 T5.mo.inv T5.mo.inv2 b;have W:=T5.gf h6 P (T5.mo.release b) j.len;obtain ⟨u,e7,I,m7⟩:=pN k N W hp;have C:(CZ Q.1 b).2.bls.length=m.bls.length:=by
    rw[j.len,<- B]; exact (Wx s.ws _ _ T.mo).2
   rw[C] at I;show ∃ J' X,_/\Li J' i p X (CZ (JE s.ws (Cq (HI m b)) (m,s.freed)).1 b).2 r (PQ (32*m.bls.length) { s with left:=l,freed:=(JE s.ws (Cq (HI m b)) (m,s.freed)).2 })/\_/\_;rw[B];refine ⟨u,{ c with lf:=s' }, ?_,I,((((S.right i.l).trans (Mv.app _ _ o)).trans m5).trans (P.mv.left _)).trans (m7.right i.l),rfl⟩;have g:=d.form;have g1:sl.2.1=(Cq (HI m b)).length:=by rw[g]
   have g2:sl.2.2=(Cq (HI m b)).length:=by rw[g]
   simp only[AI,IN,Aa0,d7,Aak (show ((s.left.length:Nat):Int)>0 by omega),IS];rw[Aay (by omega)];simp only[eq,AI,Afm,Ad6,IN,G,f,w,Eo,e3,d0,y,g1,g2];have z:EH (k+13) (k+13) (Dz c) sl.1 (Cq (HI m b)).length (Cq (HI m b)).length (((Cq (HI m b)).length:Nat):Int) 0 (J2_++o)=some (.exit 0,[],J5_):=M;simp only[z,AI,Aat,v,A,Ah];exact e7
theorem jv (k:Nat) (n:5000<=k) (T:Li J i p c m r s):TG (En (k+15) (Dz c) J) J i p c r (.tuple #[]) (FU m r s):=by
 unfold FU;by_cases hp:s.ph=2
 ·rw[Aay hp];obtain ⟨J',g,e,d,m',f⟩:=vZ k n T hp;refine ⟨J',g, ?_,d,m',f⟩;rw[LP];simp only[AI,IN,Aa0,T.co.eR,show (s.ph == 2)=true from Aei.2 hp,IS,e,Gi,Aat]
 rw[Aaz hp];by_cases b:s.list=[]
 ·rw[Aaz (fun j=>j b)];obtain ⟨J',g,e,d,m',f⟩:=xF (k+1) (by omega) T hp;refine ⟨J',g, ?_,d,m',f⟩;have d6:=T.co.uT;rw[b] at d6;rw[LP];have h:Ik (k+14) (Dz c) J=_:=e;simp only[AI,IN,Aa0,T.co.eR,show (s.ph == 2)=false from Ach.2 hp,By,d6,Adx,show decide (((0:Nat):Int)>0)=false from rfl,h,Gi,Aat]
 ·rw[Aay b];obtain ⟨a,l,e⟩:=List.exists_cons_of_ne_nil b;exact zY (k+1) (by omega) T hp e
end
section
variable {J:Aa} {m:HM} {r:D4} {s:TC} {i:Cs} {p:PI} {c:CI}
def kW (m:HM) (v:Int):Bool:=decide (v=0) || Aw m v
theorem UM {b o:Nat} {x:qOi} (h:B9 J b o=some x) (τ:Aa):B9 (J++τ) b o=some x:=by
 simp only[B9,CW] at h ⊢;cases e:J[b]? with
 | none=>rw[e] at h; cases h
 | some q=>rw[AT (Af e),e]; rw[e] at h; exact h
theorem jA (k:Nat) (h:Al J i m) {h0:Nat} (hb:B9 J h0 0=some (AU i)) (v:Int) (b:AQ v):Hv (k+5) v (some ⟨h0,0,none⟩) J=some (.bool (!kW m v),J):=by
 rw[Yn];have a:Bd (k+4) (AU i) v J=_:=Tm k h v b;simp only[AI,IN,Aa0,hb,a,An];unfold kW;by_cases h0:v=0
 ·subst h0; simp
 ·rw[show (v != 0)=true from Adz.2 h0,Aaj h0]; simp
theorem jC (k:Nat) {h0:Nat} (d:Inv m) (a:Int) (e:AQ a) {nn:Int} (q:nn<=200):∀ (n x f:Nat) (J:Aa),Al J i m->B9 J h0 0=some (AU i)->(x:Int)+n=nn->n<f ->
  ∃ τ,Ki (k+7) f h0 a nn (x:Int) J=some (if ((List.range' x n).all fun (y:Nat)=>kW m (AE m a (y:Int))) then (.exit 2,[],J++τ) else (.ret,[.bool false],J++τ))
 | n,x,0,J,h,hb,j,g=>by omega
 | 0,x,f+1,J,h,hb,j,g=>by
   rw[QP];simp only[Aaj (show ¬ (x:Int)<nn by omega),By];exact ⟨[],by simp⟩
 | n+1,x,f+1,J,h,hb,j,g=>by
   have r:=wSu x (by omega);obtain ⟨τ,l⟩:=V7 k h d a (x:Int) e;have c:AM (k+7) (AU i) a (x:Int) J=some (.tuple #[qIi (AE m a (x:Int)),qIi (KD m a (x:Int) false).2],J++τ):=l;have h1:=h.app τ;have b:=UM hb τ;have p:Hv (k+7) (AE m a (x:Int)) (some ⟨h0,0,none⟩) (J++τ)=_:=jA (k+2) h1 b _ (UO h.wi a _);obtain ⟨s,o⟩:=jC k d a e q n (x+1) f (J++τ) h1 b (by omega) (by omega);rw[QP,Af8,Ah2];simp only[Aak (show (x:Int)<nn by omega),IS,hb,AI,c,B6,p,An,r,o];cases kW m (AE m a (x:Int)) with
   | false=>exact ⟨τ,by simp⟩
   | true=>
     refine ⟨τ++s, ?_⟩;simp only[Aa4,By,Af7,Aaq]
theorem jB (k:Nat) (F:1000<k) {h0:Nat} (r:Inv m) {sl:Bx} {l:List Int} (G:l.length<=100000) (B:∀ v ∈ l,AQ v):∀ (n x f:Nat) (J:Aa),Al J i m->B9 J h0 0=some (AU i)->Bf J sl l->x+n=l.length->n<f ->
  ∃ τ,Kh (k+7) f h0 sl.1 l.length l.length ((l.length:Nat):Int) (x:Int) J=some (if ((l.drop x).all fun a=>(Ux m a).all (kW m)) then (.exit 0,[],J++τ) else (.ret,[.bool false],J++τ))
 | n,x,0,J,h,hb,d,C,A=>by omega
 | 0,x,f+1,J,h,hb,d,C,A=>by
   rw[QO];simp only[dFu x l.length (by omega),By];rw[Ade (by omega)];exact ⟨[],by simp⟩
 | n+1,x,f+1,J,h,hb,d,C,A=>by
   obtain ⟨b,e,D,_⟩:=d.ld (x:=x) (by omega);have I:=qSu x l.length (by omega);have K:=wSu x (by omega);have hd:l.drop x=l.getD x 0::l.drop (x+1):=by
    rw[Ac2 (by omega),Aax,Aau (by omega)]; rfl
   have g:AQ (l.getD x 0):=by
    rw[Aax,Aau (show x<l.length by omega)]; exact B _ (Adb _)
   rw[hd,Ah2];generalize l.getD x 0=a at D g;obtain ⟨c,E⟩:=PD (k+1) h a g;have p:AL (k+7) (AU i) a J=_:=E;obtain ⟨s1,s2,M,N⟩:=OE r a;obtain ⟨S,z⟩:∃ S,Au.cells [qIi (Ag m a).1,qIi (Ag m a).2.1,qIi (Ag m a).2.2] Ad true=S:=⟨_,rfl⟩;have s:(J++c++[S])[(J++c).length]?=some (.cells [qIi (Ag m a).1,qIi (Ag m a).2.1,qIi (Ag m a).2.2] Ad true):=by
    rw[Ab5,z]
   have H:=(Kr s).1;have w:Al (J++c++[S]) i m:=(h.app c).app _;have o:=UM (UM hb c) [S];obtain ⟨j,u⟩:=jC k (h0:=h0) r a g s2 (Ag m a).1.toNat 0 (k+7) (J++c++[S]) w o (by omega) (by omega);rw[show ((0:Nat):Int)=0 from rfl] at u;have t:(Ux m a).all (kW m)=((List.range' 0 (Ag m a).1.toNat).all fun (y:Nat)=>kW m (AE m a (y:Int))):=by
    unfold Ux;rw[List.all_map,List.range_eq_range'];rfl
   rw[t];obtain ⟨L,q⟩:=jB k F (h0:=h0) r G B n (x+1) f (J++c++[S]++j) (w.app j) (UM o j) (((d.app c).app [S]).app j) (by omega) (by omega);rw[e] at q;rw[QO];simp only[dTu x l.length (by omega),IS,I,Aat,e,AI,IT,Acg,IN,D,hb,K,p,jq,Adl,Adx,Nat.reduceAdd,Aey,Ae4,HA,Ah,Ae,EA,z,H,u];cases ((List.range' 0 (Ag m a).1.toNat).all fun (y:Nat)=>kW m (AE m a (y:Int))) with
   | false=>
     refine ⟨c++[S]++j, ?_⟩;simp[oS,Dl]
   | true=>
     refine ⟨c++[S]++j++L, ?_⟩;simp only[Aaq] at q;simp only[Aat,Af7,Aaq,q]
theorem WO (k:Nat) {h0:Nat} {sl:Bx} {l:List Int} (r:l.length<=100000) (p:∀ v ∈ l,AQ v) (h:Al J i m) (hb:B9 J h0 0=some (AU i)) (a:Bf J sl l):∀ (n x f:Nat),x+n=l.length->n<f ->
  ∃ o,Ds (k+5) f sl.1 l.length l.length (.func (.func 166) #[] #[qVi (some ⟨h0,0,none⟩)]) ((l.length:Nat):Int) (x:Int) J=some o/\(((l.drop x).all (kW m))=true->o=(.exit 0,[],J))/\(((l.drop x).all (kW m))=false -> ∃ y:Nat,o=(.ret,[qIi (y:Int)],J))
 | n,x,0,q,j=>by omega
 | 0,x,f+1,q,j=>by
   rw[EZ];simp only[dFu x l.length (by omega),By];rw[Ade (by omega)];exact ⟨_,rfl,fun _=>rfl,fun c=>by cases c⟩
 | n+1,x,f+1,q,j=>by
   obtain ⟨b,e,s,_⟩:=a.ld (x:=x) (by omega);have w:=qSu x l.length (by omega);have z:=wSu x (by omega);have hd:l.drop x=l.getD x 0::l.drop (x+1):=by
    rw[Ac2 (by omega),Aax,Aau (by omega)]; rfl
   have d:AQ (l.getD x 0):=by
    rw[Aax,Aau (show x<l.length by omega)]; exact p _ (Adb _)
   obtain ⟨o,g,t,u⟩:=WO k (h0:=h0) r p h hb a n (x+1) f (by omega) (by omega);rw[hd,Ah2];rw[e] at g;rw[EZ];simp only[dTu x l.length (by omega),IS,w,Aat,e,AI,IT,Acg,IN,s,z,SB,jA k h hb _ d,An];cases kW m (l.getD x 0) with
   | false=>
     refine ⟨_,rfl,fun c=>?_,fun _=>⟨x,rfl⟩⟩;rw[Ag2] at c;cases c
   | true=>
     simp only[Aa4,By,g,Af7];exact ⟨o,rfl,t,u⟩
theorem tn (m:HM) (r:D4):U9 m r=((AW r).all (kW m) && (DW m).all fun a=>(Ux m a).all (kW m)):=rfl
theorem Aa6 (k:Nat) (L:5000<=k) (h:Al J i m) (t:MK m) (hp:Hg J p r):∃ τ,Nj (k+9) (AU i) (F8 p) J=some (.bool (U9 m r),J++τ):=by
 have hlen:=gn hp.ok;have H:=Q6 t.nt;obtain ⟨B,w⟩:∃ B,Au.cells [qVi (AU i)] Fb true=B:=⟨_,rfl⟩;have h1:=h.app [B];have I:=hp.app [B];have A:B9 (J++[B]) J.length 0=some (AU i):=by simp[B9,CW,<- w,HR]
 obtain ⟨τ,sl,C,li,new⟩:=jJ (k+2) (by omega) I;have j:Dd (k+8) (F8 p) (J++[B])=_:=C;have s:=h1.app τ;have e:=UM A τ;obtain ⟨o,v,x,z⟩:=WO (k+1) (h0:=J.length) (by omega) (kP hp.ok) s e li (AW r).length 0 (k+6) (by omega) (by omega);rw[show ((0:Nat):Int)=0 from rfl] at v;rw[Adf] at x z;have f:=li.form;have f1:sl.2.1=(AW r).length:=by rw[f]
 have f2:sl.2.2=(AW r).length:=by rw[f]
 have E:CM (k+8) (sl.1,(AW r).length,(AW r).length) (.func (.func 166) #[] #[qVi (some ⟨J.length,0,none⟩)]) (J++[B]++τ)=some (.bool (!(AW r).all (kW m)),J++[B]++τ):=by
  rw[JU,Lg];simp only[v,AI];cases u:(AW r).all (kW m) with
  | true=>
    rw[x u];simp only[Aat,AI,Ah,Aa4];rfl
  | false=>
    obtain ⟨y,rfl⟩:=z u;simp only[reduceCtorEq,Aa5,Aat,Em,AI,Ah,Adi];rw[Aak (show (y:Int)>=0 by omega)]
 rw[tn,eJ];simp only[Ae,w,j,AI,Eo,f1,f2,E,An];cases u:(AW r).all (kW m) with
 | false=>
   refine ⟨[B]++τ, ?_⟩;simp only[Adi,IS,Ag2,Aaq]
 | true=>
   obtain ⟨d,c,D,b⟩:=aB (k+2) (by omega) s;have n:B8 (k+8) (AU i) (J++[B]++τ)=_:=D;have b:Bf (J++[B]++τ++d) c (DW m):=Bf.ints b;obtain ⟨K,q⟩:=jB (k+1) (by omega) (h0:=J.length) t.inv (sl:=c) (l:=DW m) (by omega) (iy t.nt) (DW m).length 0 (k+8) _ (s.app d) (UM e d) b (by omega) (by omega);rw[show ((0:Nat):Int)=0 from rfl] at q;rw[Adf] at q;have g:=b.form;have F:c.2.1=(DW m).length:=by rw[g]
   have G:c.2.2=(DW m).length:=by rw[g]
   refine ⟨[B]++τ++d++K, ?_⟩;simp only[Aa4,By,e,AI,n,F,G,q,Af7];cases ((DW m).all fun a=>(Ux m a).all (kW m)) with
   | false=>
     simp[oS,Dl]
   | true=>simp only[Aat,Aaq]
theorem ud (k:Nat) (v:5000<=k) (T:Li J i p c m r s) (hp:s.ph=0) (hs:U9 m r=true):TG (Jr (k+13) (Dz c) J) J i p c r (qIi 0) (m,Hd m r s):=by
 obtain ⟨τ,h⟩:=Aa6 (k+3) (by omega) T.h T.mo T.rt;have b:Nj (k+12) (AU i) (F8 p) J=_:=h;have em:AO (k+12) (Dz c) J=_:=Kc (k+11) T.co;have T1:=T.app τ;obtain ⟨J2_,j,o,d⟩:=T1.co.mj 0;have T2:=T1.Qm o d ⟨T.tok.wl,T.tok.ls,T.tok.lr,T.tok.lf,T.tok.l0,T.tok.s2⟩;obtain ⟨J3_,l,q,e⟩:=T2.co.vL 1;have T3:=T2.Qm q e ⟨T.tok.wl,T.tok.ls,T.tok.lr,T.tok.lf,fun _=>T.tok.l0 (by omega),fun t=>by cases t⟩;obtain ⟨a,g,n,T4,u,f⟩:=gH k (by omega) T3 (by show (1:Int)≠2; decide);refine ⟨a,g, ?_,T4,((((Mv.app c.l J τ).trans d).trans e).trans u).right i.l,f⟩;rw[Vv];simp only[em,AI,An,Aa4,By,IN,Aa0,T.co.eR,hp,Abx,T.co.H7,T.co.Fa,b,hs,j,l,n,Gi]
theorem bg (k:Nat) (h:5000<=k) (b:Nat) {N:Nat} (y:N<=10000):∀ (n x f:Nat) (J:Aa) (c:CI) (m:HM) (s:TC),Li J i p c m r s->c.cb=b->x+n=N->n<f ->
  ∃ J' d,G7 (k+15) f (some ⟨b,0,none⟩) (N:Int) (x:Int) J=some (if (Dr r n (m,s)).1<n then (.ret,[qIi ((x+(Dr r n (m,s)).1:Nat):Int),qIi 0],J') else (.exit 0,[],J'))/\Li J' i p d (Dr r n (m,s)).2.1 r (Dr r n (m,s)).2.2/\Mv (i.l++c.l) (i.l++d.l) J J'/\d.cb=b/\(Dr r n (m,s)).1<=n
 | n,x,0,J,c,m,s,T,a,j,g=>by omega
 | 0,x,f+1,J,c,m,s,T,a,j,g=>by
   rw[MW];simp only[Aaj (show ¬ (x:Int)<(N:Int) by omega),By];exact ⟨J,c,rfl,T,Mv.refl _ _,a,Aa1 _⟩
 | n+1,x,f+1,J,c,m,s,T,a,j,g=>by
   have C:=wSu x (by omega);have d4:Aj .i64 J b 4=some s.ph:=by rw[<- a]; exact T.co.eR
   rw[MW,Dr];simp only[Aak (show (x:Int)<(N:Int) by omega),IS,AI,IN,Aa0,d4];by_cases hp:s.ph=0
   ·rw[Aay hp,show (s.ph == 0)=true from Aei.2 hp];simp only[IS];exact ⟨J,c,by rw[Aay (by omega)]; rfl,T,Mv.refl _ _,a,Ado _⟩
   ·rw[Aaz hp,show (s.ph == 0)=false from Ach.2 hp];obtain ⟨J1_,t,v,T1,z,l⟩:=jv k h T;obtain ⟨J2_,u,w,T2,A,o,B⟩:=bg k h b y n (x+1) f J1_ t (FU m r s).1 (FU m r s).2 T1 (l.trans a) (by omega) (by omega);have e:En (k+15) (some ⟨b,0,none⟩) J=some (.tuple #[],J1_):=by rw[<- a]; exact v
    refine ⟨J2_,u, ?_,T2,z.trans A,o,Nat.succ_le_succ B⟩;simp only[By,e,AI,Gi,C,w];by_cases q:(Dr r n (FU m r s)).1<n
    ·rw[Aay q,Aay (by omega)];rw[show x+1+(Dr r n (FU m r s)).1=x+((Dr r n (FU m r s)).1+1) from by omega]
    ·rw[Aaz q,Aaz (by omega)]
theorem xf (k:Nat) (g:20000<=k) (T:Li J i p c m r s) {N:Nat} (h1:1<=N) (f:N<=10000):TG (JW (k+16) (Dz c) (N:Int) J) J i p c r (.tuple #[qIi ((Dr r N (m,s)).1:Int),qIi 0]) (Dr r N (m,s)).2:=by
 have em:AO (k+15) (Dz c) J=_:=Kc (k+14) T.co;obtain ⟨J',d,e,a,m',b,h⟩:=bg k (by omega) c.cb f N 0 (k+15) J c m s T rfl (by omega) (by omega);rw[show ((0:Nat):Int)=0 from rfl] at e;refine ⟨J',d, ?_,a,m',b⟩;rw[Wo];simp only[em,AI,An,Aa4,By,Aaj (show ¬ (N:Int)<1 by omega),Aaj (show ¬ (N:Int)>10000 by omega),e];by_cases q:(Dr r N (m,s)).1<N
 ·rw[Aay q];simp only[reduceCtorEq,Aa5,Aat,UQ,IN]
 ·rw[Aaz q];simp only[Aat];rw[show (Dr r N (m,s)).1=N from by omega]
end
section
variable {J:Aa} {r:D4} {p:PI}
theorem Bf.setAt {s:Bx} {l:List Int} (h:Bf J s l) {x:Nat} (c:x<l.length) (v:Int):∃ b,s.1=some ⟨b,0,none⟩/\b ∈ hs s/\b<J.length/\CY J b x (qIi v)=some (J.set b (.cells (Bl (l.set x v)) Ak true))/\Bf (J.set b (.cells (Bl (l.set x v)) Ak true)) s (l.set x v):=by
 obtain ⟨b,e,_,a⟩:=h.ld c;have hb:=Af a;refine ⟨b,e,Nz e,hb,oO a c v,.inl (.inr ⟨b, ?_,Ado _,by rw[Cm,Acg],Aa2 hb⟩)⟩;have f:=h.form;rw[f,e,Adj]
def Oq (r:D4) (k:Int) (mt ix:Nat):Prop:=(k=0/\mt<r.mu/\ix<16)\/(k=1/\mt=0/\ix<16)\/(k=2/\mt=0/\ix<r.qu.length)
def Hx (r:D4) (k:Int) (mt ix:Nat) (a:Int):D4:=if k=0 then { r with sl:=r.sl.set (16*mt+ix) a } else if k=1 then { r with gl:=r.gl.set ix a } else { r with qu:=r.qu.set ix a }
def Om (r:D4) (k:Int) (mt ix:Nat) (a:Int):Int × D4:=if a<0\/(a=0/\k=2) then (1,r) else (0,Hx r k mt ix a)
def Pm (r:D4) (a:Int):Int × D4:=if a<=0 then (1,r) else if r.qu.length=64 then (6,r) else (0,{ r with qu:=r.qu++[a] })
theorem YB {r:D4} {k:Int} {mt ix:Nat} {a v:Int} (h:v ∈ (Hx r k mt ix a).all):v=a\/v ∈ r.all:=by
 unfold Hx D4.all at h;unfold D4.all;have key:∀ (l:List Int) (x:Nat),v ∈ l.set x a->v=a\/v ∈ l:=fun l x hm=>(Agd hm).symm;split at h
 ·simp only[Aas] at h ⊢;rcases h with (h | h) | h
  ·exact (key _ _ h).imp id fun h=>.inl (.inl h)
  ·exact .inr (.inl (.inr h))
  ·exact .inr (.inr h)
 ·split at h
  ·simp only[Aas] at h ⊢;rcases h with (h | h) | h
   ·exact .inr (.inl (.inl h))
   ·exact (key _ _ h).imp id fun h=>.inl (.inr h)
   ·exact .inr (.inr h)
  ·simp only[Aas] at h ⊢;rcases h with (h | h) | h
   ·exact .inr (.inl (.inl h))
   ·exact .inr (.inl (.inr h))
   ·exact (key _ _ h).imp id fun h=>.inr h
theorem D4.ok.put (h:r.ok) (k:Int) (mt ix:Nat) {a:Int} (c:AQ a) (h0:0<=a):(Hx r k mt ix a).ok:=by
 have hm:∀ v ∈ (Hx r k mt ix a).all,AQ v/\0<=v:=fun v b=>by
  rcases YB b with rfl | b
  ·exact ⟨c,h0⟩
  ·exact h.inn v b
 have e:(Hx r k mt ix a).mu=r.mu/\(Hx r k mt ix a).sl.length=r.sl.length/\(Hx r k mt ix a).gl.length=r.gl.length/\(Hx r k mt ix a).qu.length=r.qu.length:=by
  unfold Hx;split
  ·exact ⟨rfl,Adj,rfl,rfl⟩
  ·split
   ·exact ⟨rfl,rfl,Adj,rfl⟩
   ·exact ⟨rfl,rfl,rfl,Adj⟩
 exact ⟨by rw[e.1]; exact h.m1,by rw[e.1]; exact h.m4,by rw[e.1,e.2.1]; exact h.sl,by rw[e.2.2.1]; exact h.gl,by rw[e.2.2.2]; exact h.qu,hm⟩
theorem th {r:D4} {k:Int} {mt ix:Nat} {a v:Int} (h:v ∈ (Om r k mt ix a).2.all):v=a\/v ∈ r.all:=by
 unfold Om at h;split at h
 ·exact .inr h
 ·exact YB h
theorem o8 {r:D4} {a v:Int} (h:v ∈ (Pm r a).2.all):v=a\/v ∈ r.all:=by
 unfold Pm at h;split at h
 ·exact .inr h
 ·split at h
  ·exact .inr h
  ·unfold D4.all at h ⊢;simp only[Aas,Ac1] at h ⊢;rcases h with h | h | h
   ·exact .inr (.inl h)
   ·exact .inr (.inr h)
   ·exact .inl h
theorem D4.ok.push (h:r.ok) {a:Int} (c:AQ a):(Pm r a).2.ok:=by
 unfold Pm;split
 ·exact h
 ·split
  ·exact h
  ·rename_i h1 d;have e:=h.qu;refine ⟨h.m1,h.m4,h.sl,h.gl,by show (r.qu++[a]).length<=64; rw[Aaw,Ac3]; omega,fun v b=>?_⟩;unfold D4.all at b;simp only[Aas,Ac1] at b;rcases b with b | b | rfl
   ·exact h.inn v (by unfold D4.all; exact Aas.2 (.inl (Aas.2 b)))
   ·exact h.inn v (by unfold D4.all; exact Aas.2 (.inr b))
   ·exact ⟨c,by omega⟩
structure mV (p:PI):Prop where
 a1:∀ q ∈ hs p.s1,q≠p.rb/\q ∉ hs p.s2/\q ∉ hs p.s3
 a2:∀ q ∈ hs p.s2,q≠p.rb/\q ∉ hs p.s3
 a3:∀ q ∈ hs p.s3,q≠p.rb
theorem mV.of (h:p.l.Nodup):mV p:=by
 unfold PI.l at h;rw[Afi,Ad5,Ad5] at h;obtain ⟨h0,h1,⟨c,d,b⟩,h5⟩:=h;simp only[Aas,Ahh] at h0;refine ⟨fun q a=>⟨fun e=>h0.1 (e ▸ a),fun hm=>h5 q a q (Aas.2 (.inl hm)) rfl,fun hm=>h5 q a q (Aas.2 (.inr hm)) rfl⟩,fun q a=>⟨fun e=>h0.2.1 (e ▸ a),fun hm=>b q a q hm rfl⟩,fun q a e=>h0.2.2 (e ▸ a)⟩
theorem mV.nd (h:mV p):p.l.Nodup:=by
 unfold PI.l;rw[Afi,Ad5,Ad5];refine ⟨fun hm=>?_,NJ _,⟨NJ _,NJ _,fun a c b hb e=>(h.a2 a c).2 (e ▸ hb)⟩,fun a c b hb e=>?_⟩
 ·rcases Aas.1 hm with hm | hm
  ·exact (h.a1 _ hm).1 rfl
  rcases Aas.1 hm with hm | hm
  ·exact (h.a2 _ hm).1 rfl
  ·exact h.a3 _ hm rfl
 ·subst e;rcases Aas.1 hb with hb | hb
  ·exact (h.a1 _ c).2.1 hb
  ·exact (h.a1 _ c).2.2 hb
theorem Hg.loc (h:Hg J p r) {k:Int} {mt ix:Nat} (hp:Oq r k mt ix):∃ b o,b ∈ p.l/\(k=0->p.s1.1=some ⟨b,0,none⟩/\o=16*mt+ix)/\(k=1->p.s2.1=some ⟨b,0,none⟩/\o=ix)/\(k=2->p.s3.1=some ⟨b,0,none⟩/\o=ix) /\
  ∀ a,AQ a->0<=a -> ∃ c,CY J b o (qIi a)=some (J.set b c)/\Hg (J.set b c) p (Hx r k mt ix a):=by
 have sep:=mV.of h.nd;have u:=h.ok.sl;have t:=h.ok.gl;rcases hp with ⟨rfl,hm,hi⟩ | ⟨rfl,rfl,hi⟩ | ⟨rfl,rfl,hi⟩
 ·obtain ⟨b,e,hb,_⟩:=h.sl.setAt (x:=16*mt+ix) (by omega) 0;refine ⟨b,16*mt+ix,p.m1 hb,fun _=>⟨e,rfl⟩,(fun d=>by cases d),(fun d=>by cases d),fun a j h0=>?_⟩;obtain ⟨n,i,_,s,es,f⟩:=h.sl.setAt (x:=16*mt+ix) (by omega) a;rw[e] at i; cases i;obtain ⟨l,m,v⟩:=sep.a1 b hb;exact ⟨_,es,(by rw[Aar l]; exact h.cell),f,h.gl.Ax fun q g=>JI m g,h.qu.Ax fun q g=>JI v g,h.ok.put 0 mt ix j h0,h.nd⟩
 ·obtain ⟨b,e,hb,_⟩:=h.gl.setAt (x:=ix) (by omega) 0;refine ⟨b,ix,p.m2 hb,(fun d=>by cases d),fun _=>⟨e,rfl⟩,(fun d=>by cases d),fun a j h0=>?_⟩;obtain ⟨n,i,_,s,es,f⟩:=h.gl.setAt (x:=ix) (by omega) a;rw[e] at i; cases i;obtain ⟨l,m⟩:=sep.a2 b hb;exact ⟨_,es,(by rw[Aar l]; exact h.cell),h.sl.Ax fun q g=>Aar fun e:b=q=>(sep.a1 q g).2.1 (by rw[<- e]; exact hb),f,h.qu.Ax fun q g=>JI m g,h.ok.put 1 0 ix j h0,h.nd⟩
 ·obtain ⟨b,e,hb,_⟩:=h.qu.setAt (x:=ix) hi 0;refine ⟨b,ix,p.m3 hb,(fun d=>by cases d),(fun d=>by cases d),fun _=>⟨e,rfl⟩,fun a j h0=>?_⟩;obtain ⟨n,i,_,s,es,f⟩:=h.qu.setAt (x:=ix) hi a;rw[e] at i; cases i;have l:=sep.a3 b hb;exact ⟨_,es,(by rw[Aar l]; exact h.cell),h.sl.Ax fun q g=>Aar fun e:b=q=>(sep.a1 q g).2.2 (by rw[<- e]; exact hb),h.gl.Ax fun q g=>Aar fun e:b=q=>(sep.a2 q g).2 (by rw[<- e]; exact hb),f,h.ok.put 2 0 ix j h0,h.nd⟩
theorem bA (k:Nat) {b o n c ix h0:Nat} (hi:ix<n) (a:Aj .i64 J h0 2=some (ix:Int)):EG (k+1) (some ⟨b,o,none⟩,n,c) (some ⟨h0,0,none⟩) J=some (qVi (some ⟨b,o+ix,none⟩),J):=by
 rw[RN];simp only[AI,IN,a,Aaj (show ¬ (ix:Int)<0 by omega),By,Aaj (show ¬ (ix:Int)>=(n:Int) by omega)];rw[Aay (by omega)];simp only[IT,Acg]
theorem oL {s:Bx} {l:List Int} (h:Bf J s l) {mt:Nat} {b:Nat} (e:s.1=some ⟨b,0,none⟩) (i:16*mt+16<=l.length):∃ c,Gj Ak 1 (s.1,l.length,l.length) (some (qIi ((16*mt:Nat):Int))) (some (qIi ((16*mt+16:Nat):Int))) none J=some (some ⟨b,16*mt,none⟩,16,c):=by
 have a:J[b]?=some (.cells (Bl l) Ak true):=by
  obtain ⟨g,d,_,a⟩:=h.ld (x:=0) (by omega);rw[e] at d; cases d; exact a
 unfold Gj;simp only[Aew,Adi,Ag4,IS,e];rw[Q8 (v:=l.length) (.inr ⟨rfl,rfl⟩) (Aa1 _),Q8 (v:=16*mt+16) (.inl rfl) (by omega),Q8 (v:=16*mt) (.inl rfl) (by omega)];have f:elemAt J b=some Ak:=by simp only[elemAt,a]
 rw[Aaz (by omega)];simp only[AI,f,Aat,IN,Acg];exact ⟨l.length-16*mt,by simp⟩
theorem Abn (a:Addr):Lq P iS (qVi (some a)) (qVi none)=some false:=by kernel_rfl
theorem y8 (k:Nat) (h:Hg J p r) {kk:Int} {mt ix b o:Nat} (hp:Oq r kk mt ix) (h0:kk=0->p.s1.1=some ⟨b,0,none⟩/\o=16*mt+ix) (h1:kk=1->p.s2.1=some ⟨b,0,none⟩/\o=ix) (h2:kk=2->p.s3.1=some ⟨b,0,none⟩/\o=ix):
  Jn (k+2) (F8 p) kk (mt:Int) (ix:Int) J=some (qVi (some ⟨b,o,none⟩),J++[Au.cells [qIi kk,qIi (mt:Int),qIi (ix:Int)] Am true]):=by
 have l:=h.ok.sl;have i:=h.ok.gl;have j:=h.ok.m4;have a:=h.app [Au.cells [qIi kk,qIi (mt:Int),qIi (ix:Int)] Am true];rw[Vm];simp only[Ae,IN,Bv,Aca,Ace,AI,Ah];have g:Aj .i64 (J++[Au.cells [qIi kk,qIi (mt:Int),qIi (ix:Int)] Am true]) J.length 2=some (ix:Int):=by rw[Bv]; rfl
 rcases hp with ⟨rfl,hm,hi⟩ | ⟨rfl,rfl,hi⟩ | ⟨rfl,rfl,hi⟩
 ·obtain ⟨e,rfl⟩:=h0 rfl;have f:=a.sl.form;have f1:p.s1.2.1=r.sl.length:=by rw[f]
  have f2:p.s1.2.2=r.sl.length:=by rw[f]
  obtain ⟨c,es⟩:=oL a.sl (mt:=mt) e (by omega);have m:Ar ((mt:Int)*16)=((16*mt:Nat):Int):=by rw[Ai (by unfold AQ; omega)]; omega
  have q:=wSu mt (by omega);have s:Ar (((mt+1:Nat):Int)*16)=((16*mt+16:Nat):Int):=by rw[Ai (by unfold AQ; omega)]; omega
  have d:=bA k (b:=b) (o:=16*mt) (c:=c) hi g;simp only[show ((0:Int) == 0)=true from rfl,IS,Aak (show (mt:Int)>=0 by omega),a.H7,AI,Aak (show (mt:Int)<(r.mu:Int) by omega),a.Fa,f1,f2,m,q,s,es,d,HR,Bv,Aca,Ace,Ah]
 ·obtain ⟨e,rfl⟩:=h1 rfl;have f:=a.gl.form;have f1:p.s2.2.1=r.gl.length:=by rw[f]
  have f2:p.s2.2.2=r.gl.length:=by rw[f]
  have d:=bA k (b:=b) (o:=0) (n:=r.gl.length) (c:=r.gl.length) (by omega) g;rw[IN] at d;simp only[show ((1:Int) == 0)=false from rfl,By,AI,show ((1:Int) == 1)=true from rfl,IS,show (((0:Nat):Int) == 0)=true from rfl,a.UL,e,f1,f2,d,HR,Bv,Aca,Ace,Ah]
 ·obtain ⟨e,rfl⟩:=h2 rfl;have f:=a.qu.form;have f1:p.s3.2.1=r.qu.length:=by rw[f]
  have f2:p.s3.2.2=r.qu.length:=by rw[f]
  have d:=bA k (b:=b) (o:=0) (n:=r.qu.length) (c:=r.qu.length) hi g;rw[IN] at d;simp only[show ((2:Int) == 0)=false from rfl,By,AI,show ((2:Int) == 1)=false from rfl,show ((2:Int) == 2)=true from rfl,IS,show (((0:Nat):Int) == 0)=true from rfl,a.cH,e,f1,f2,d,HR,Bv,Aca,Ace,Ah]
theorem mW (k:Nat) (h:Hg J p r) {kk:Int} {mt ix:Nat} (hp:Oq r kk mt ix) (a:Int) (y:AQ a):∃ J',Bc (k+4) (F8 p) kk (mt:Int) (ix:Int) a J=some (qIi (Om r kk mt ix a).1,J')/\Hg J' p (Om r kk mt ix a).2/\Mv p.l p.l J J':=by
 obtain ⟨B,f⟩:∃ B,Au.cells [qIi kk,qIi (mt:Int),qIi (ix:Int)] Am true=B:=⟨_,rfl⟩;have i:=h.app [B,B,B];obtain ⟨b,o,hb,h0,h1,x,m⟩:=i.loc hp;have u:Hg (J++[B]++[B]) p r:=(h.app [B]).app [B];have t:=y8 k u hp h0 h1 x;rw[f] at t;have em:=Nn (k+1) u;have s:∀ Z:Aa,Aj .i64 (Z++[B]) Z.length 0=some kk/\Aj .i64 (Z++[B]) Z.length 1=some (mt:Int)/\Aj .i64 (Z++[B]) Z.length 2=some (ix:Int):=fun Z=>by
  rw[<- f];exact ⟨by rw[Bv]; rfl,by rw[Bv]; rfl,by rw[Bv]; rfl⟩
 obtain ⟨v,C,D⟩:=s J;obtain ⟨E,F,G⟩:=s (J++[B]);have l:J++[B]++[B]++[B]=J++[B,B,B]:=by simp
 have w:DG (k+3) (F8 p) kk (mt:Int) (ix:Int) (J++[B])=some (.tuple #[qVi (some ⟨b,o,none⟩),qIi 0],J++[B,B,B]):=by
  rw[MF];simp only[Ae,f,IN,Nat.reduceAdd,em,AI,An,Aa4,By,E,F,G,t,HR,Abn,l]
 have q:Aj .i64 (J++[B,B,B]) J.length 0=some kk:=by
  rw[show J++[B,B,B]=J++[B]++[B,B] from by simp,HP _ _ _ (by simp)]; exact v
 rw[TU];simp only[Ae,f,IN,Nat.reduceAdd,v,C,D,AI,w,LK,Abx,By];unfold Om;by_cases g:a<0
 ·rw[Aay (.inl g),Aak g];simp only[IS,AI];exact ⟨_,rfl,i,Mv.app _ _ _⟩
 rw[Aaj g];simp only[By];by_cases d:a=0/\kk=2
 ·rw[Aay (.inr d),d.1];rw[d.2] at q;simp only[show ((0:Int) == 0)=true from rfl,IS,q,AI,show ((2:Int) == 2)=true from rfl];exact ⟨_,rfl,i,Mv.app _ _ _⟩
 ·rw[Aaz (fun l=>l.elim g d)];have j:((bif a == 0 then some (kk == 2,J++[B,B,B]) else some (false,J++[B,B,B])):Option (Bool × Aa))=some (false,J++[B,B,B]):=by
   by_cases n:a=0
   ·have A:kk≠2:=fun e=>d ⟨n,e⟩;rw[n,show (kk == 2)=false from Ach.2 A]; rfl
   ·rw[show (a == 0)=false from Ach.2 n]; rfl
  obtain ⟨c,es,z⟩:=m a y (by omega);simp only[q,AI,j,By,es];exact ⟨_,rfl,z,(Mv.app p.l J _).trans (Mv.set _ _ hb)⟩
theorem wY (k:Nat) (h:Hg J p r) (a:Int) (s:AQ a):∃ J' p',G5 (k+2) (F8 p) a J=some (qIi (Pm r a).1,J')/\Hg J' p' (Pm r a).2/\Mv p.l p'.l J J'/\p'.rb=p.rb:=by
 have b:=h.ok.qu;have c:=h.ok.push s;rw[Tb];simp only[Nn k h,AI,An,Aa4,By,IN,h.cH];unfold Pm at c ⊢;by_cases i:a<=0
 ·rw[Aay i,Aak i];exact ⟨_,p,rfl,h,Mv.refl _ _,rfl⟩
 rw[Aaz i] at c ⊢;rw[Aaj i];have f:=h.qu.form;have f1:p.s3.2.1=r.qu.length:=by rw[f]
 have f2:p.s3.2.2=r.qu.length:=by rw[f]
 simp only[By,f1,f2];by_cases m:r.qu.length=64
 ·rw[Aay m,show (((r.qu.length:Nat):Int) == 64)=true from by rw[m]; rfl];exact ⟨_,p,rfl,h,Mv.refl _ _,rfl⟩
 rw[Aaz m] at c ⊢;rw[show (((r.qu.length:Nat):Int) == 64)=false from by rw[Ach]; omega];obtain ⟨s',Z,n,li,d⟩:=h.qu.push a Ak (by omega);rw[f1,f2] at n;have sep:=mV.of h.nd;have lt:=h.lt;have cell:Z[p.rb]?=_:=d.IY h.cell fun hm=>sep.a3 _ hm rfl;have new:∀ q ∈ hs s',q ∈ hs p.s3\/J.length<=q:=d.new;have g:∀ q ∈ hs s',q≠p.rb:=fun q b=>(new q b).elim (sep.a3 q) fun o e=>by have:=lt _ (Acj:p.rb ∈ p.l); omega
 have t:∀ q ∈ hs p.s1,q ∉ hs s':=fun q b hm=>(new q hm).elim (sep.a1 q b).2.2 fun o=>by have:=lt q (p.m1 b); omega
 have u:∀ q ∈ hs p.s2,q ∉ hs s':=fun q b hm=>(new q hm).elim (sep.a2 q b).2 fun o=>by have:=lt q (p.m2 b); omega
 have es:CY Z p.rb 3 (.slice s'.1 s'.2.1 s'.2.2)=some (Z.set p.rb (.cells [qIi (r.mu:Int),.slice p.s1.1 p.s1.2.1 p.s1.2.2,.slice p.s2.1 p.s2.2.1 p.s2.2.2,.slice s'.1 s'.2.1 s'.2.2] MP true)):=by
  simp[CY,cell]
 have j:Bf Z p.s1 r.sl:=h.sl.Ax fun q b=>d.same q (h.sl.lt q b) (sep.a1 q b).2.2;have l:Bf Z p.s2 r.gl:=h.gl.Ax fun q b=>d.same q (h.gl.lt q b) (sep.a2 q b).2;simp only[By,Ae,n,AI,es];refine ⟨_,{ p with s3:=s' },rfl,⟨Aa2 (Af cell),j.Ax fun q b=>Aar (sep.a1 q b).1.symm,l.Ax fun q b=>Aar (sep.a2 q b).1.symm,li.Ax fun q b=>Aar (g q b).symm,c,mV.nd ⟨fun q b=>⟨(sep.a1 q b).1,(sep.a1 q b).2.1,t q b⟩,fun q b=>⟨(sep.a2 q b).1,u q b⟩,g⟩⟩, ?_,rfl⟩;refine (d.wide (K:=p.l) (K':=({ p with s3:=s' }:PI).l) (fun q b=>p.m3 b) fun q b=>?_).trans (Mv.set _ _ Acj);rcases Acd.1 b with rfl | b
 ·exact .inl Acj
 rcases Aas.1 b with b | b
 ·exact .inl (p.m1 b)
 rcases Aas.1 b with b | b
 ·exact .inl (p.m2 b)
 ·exact .inr (.inl b)
theorem vA (k:Nat) {n:Nat} (h1:1<=n) (b:n<=4) (J:Aa):∃ τ p,I6 (k+1) (n:Int) J=some (.tuple #[qVi (F8 p),qIi 0],J++τ)/\Hg (J++τ) p ⟨n,List.replicate (16*n) 0,List.replicate 16 0,[]⟩ /\ ∀ q ∈ p.l,J.length<=q:=by
 have d:Ar ((n:Int)*16)=((16*n:Nat):Int):=by rw[Ai (by unfold AQ; omega)]; omega
 rw[bR];simp only[Aaj (show ¬ (n:Int)<1 by omega),By,Aaj (show ¬ (n:Int)>4 by omega),AI,d,Ae];rw[Aay (by omega),Aay (by decide)];simp only[IT,X7,show (16:Int).toNat=16 from rfl];refine ⟨[.cells (Bl (List.replicate (16*n) 0)) Ak true,.cells (Bl (List.replicate 16 0)) Ak true,.cells [qIi (n:Int),.slice (some ⟨J.length,0,none⟩) (16*n) (16*n),.slice (some ⟨J.length+1,0,none⟩) 16 16,.slice none 0 0] MP true],⟨J.length+2,(some ⟨J.length,0,none⟩,16*n,16*n),(some ⟨J.length+1,0,none⟩,16,16),(none,0,0)⟩, ?_,⟨?_, ?_, ?_,Bf.nil _, ?_, ?_⟩, ?_⟩
 ·simp
 ·simp
 ·exact .inl (.inr ⟨J.length,by simp,Ado _,by simp[Bl],by simp⟩)
 ·exact .inl (.inr ⟨J.length+1,by simp,Ado _,by simp[Bl],by simp⟩)
 ·refine ⟨h1,b,by simp,by simp,by simp,fun v a=>?_⟩;unfold D4.all at a;simp only[Aas,Af9,Aee,Aga] at a;have:v=0:=by rcases a with a | a <;> exact a.2
  subst this;exact ⟨by unfold AQ; omega,Afp _⟩
 ·simp[PI.l,hs]
 ·intro q c;simp[PI.l,hs] at c;omega
end
section
variable {J:Aa} {r:D4}
structure QI where
 qb:Nat
 ss:Bx
 sl:List Bx
 s2:Bx
 s3:Bx
def QI.l (p:QI):List Nat:=p.qb::(hs p.ss++(p.sl.flatMap hs++(hs p.s2++hs p.s3)))
def XB (l:List Bx):List Value:=l.map fun s=>.slice s.1 s.2.1 s.2.2
def chunk (l:List Int) (x:Nat):List Int:=(l.drop (16*x)).take 16
structure Ack (p:QI):Prop where
 a0:∀ q ∈ hs p.ss,q≠p.qb/\q ∉ p.sl.flatMap hs/\q ∉ hs p.s2/\q ∉ hs p.s3
 a1:∀ q ∈ p.sl.flatMap hs,q≠p.qb/\q ∉ hs p.s2/\q ∉ hs p.s3
 a2:∀ q ∈ hs p.s2,q≠p.qb/\q ∉ hs p.s3
 a3:∀ q ∈ hs p.s3,q≠p.qb
 nd:(p.sl.flatMap hs).Nodup
structure F7 (J:Aa) (p:QI) (r:D4):Prop where
 cell:J[p.qb]?=some (.cells [.slice p.ss.1 p.ss.2.1 p.ss.2.2,.slice p.s2.1 p.s2.2.1 p.s2.2.2,.slice p.s3.1 p.s3.2.1 p.s3.2.2] BQ true)
 ss:Ct FR 1 J p.ss r.mu (XB p.sl)
 n:p.sl.length=r.mu
 inn:∀ (x:Nat) (h:x<p.sl.length),Bf J p.sl[x] (chunk r.sl x)
 gl:Bf J p.s2 r.gl
 qu:Bf J p.s3 r.qu
 ok:r.ok
 sep:Ack p
variable {p:QI}
abbrev GS (p:QI):qOi:=some ⟨p.qb,0,none⟩
theorem QI.mem {p:QI} {q:Nat}:q ∈ p.l↔q=p.qb\/q ∈ hs p.ss\/q ∈ p.sl.flatMap hs\/q ∈ hs p.s2\/q ∈ hs p.s3:=by
 unfold QI.l; simp only[Acd,Aas]
theorem QI.mi (p:QI) {x:Nat} (h:x<p.sl.length) {q:Nat} (a:q ∈ hs p.sl[x]):q ∈ p.sl.flatMap hs:=Afu.2 ⟨_,Adb h,a⟩
theorem F7.Ax {J':Aa} (h:F7 J p r) (b:∀ q ∈ p.l,J'[q]?=J[q]?):F7 J' p r:=
 ⟨(b _ (QI.mem.2 (.inl rfl))).trans h.cell,h.ss.Ax fun a d=>b _ (QI.mem.2 (.inr (.inl (BV.2 ⟨a,d,rfl⟩)))),h.n,fun x c=>(h.inn x c).Ax fun q hm=>b q (QI.mem.2 (.inr (.inr (.inl (p.mi c hm))))),h.gl.Ax fun q hm=>b q (QI.mem.2 (.inr (.inr (.inr (.inl hm))))),h.qu.Ax fun q hm=>b q (QI.mem.2 (.inr (.inr (.inr (.inr hm))))),h.ok,h.sep⟩
theorem F7.lt (h:F7 J p r):∀ q ∈ p.l,q<J.length:=by
 intro q b;rcases QI.mem.1 b with rfl | b | b | b | b
 ·exact Af h.cell
 ·obtain ⟨a,d,rfl⟩:=BV.1 b; exact h.ss.lt a d
 ·obtain ⟨s,c,hm⟩:=Afu.1 b;obtain ⟨x,e,rfl⟩:=Ahk c;exact (h.inn x e).lt q hm
 ·exact h.gl.lt q b
 ·exact h.qu.lt q b
theorem F7.app (h:F7 J p r) (τ:Aa):F7 (J++τ) p r:=h.Ax fun q a=>AT (h.lt q a)
theorem F7.H7 (h:F7 J p r):Be J p.qb 0=some (p.ss.1,r.mu,r.mu):=by
 have:=h.ss.form;have a:p.ss.2.1=r.mu:=by rw[this]
 have b:p.ss.2.2=r.mu:=by rw[this]
 simp[Be,CW,h.cell,Eo,a,b]
theorem F7.Fa (h:F7 J p r):Be J p.qb 1=some (p.s2.1,r.gl.length,r.gl.length):=by
 have:=h.gl.form;have a:p.s2.2.1=r.gl.length:=by rw[this]
 have b:p.s2.2.2=r.gl.length:=by rw[this]
 simp[Be,CW,h.cell,Eo,a,b]
theorem F7.UL (h:F7 J p r):Be J p.qb 2=some (p.s3.1,r.qu.length,r.qu.length):=by
 have:=h.qu.form;have a:p.s3.2.1=r.qu.length:=by rw[this]
 have b:p.s3.2.2=r.qu.length:=by rw[this]
 simp[Be,CW,h.cell,Eo,a,b]
theorem Acy (a:Addr):Lq P Hr (qVi (some a)) (qVi none)=some false:=by kernel_rfl
theorem NN (k:Nat) (h:F7 J p r):AZ (k+1) (GS p) J=some (.bool true,J):=by
 have:=h.ok.m1;rw[SZ];simp only[Acy,AI,Adi,IS,IN,Aa0,h.H7];rw[Aak (by omega)]
theorem Xz (k:Nat) (h:F7 J p r):Du (k+2) (GS p) J=some (qIi (r.mu:Int),J):=by
 rw[Px];simp only[NN k h,AI,An,Aa4,By,IN,Aa0,h.H7]
theorem sR (k:Nat) (h:F7 J p r):∃ (s:Bx) (τ:Aa),EF (k+2) (GS p) J=some (.slice s.1 s.2.1 s.2.2,J++τ)/\s.2.1=r.qu.length:=by
 have g:=h.ok.qu;have f:=h.qu.form;have a:p.s3.2.1=r.qu.length:=by rw[f]
 have b:p.s3.2.2=r.qu.length:=by rw[f]
 obtain ⟨s',τ,e,d,_⟩:=rZ J p.s3 r.qu (by omega) h.qu.g;have c:=h.app [Au.cells [] Ak true];rw[a,b] at e;refine ⟨s',[Au.cells [] Ak true]++τ, ?_,d.1⟩;rw[RH];simp only[NN k h,AI,An,Aa4,By,Ae,IN,c.UL,e,Aaq]
theorem XT {l:List Int} {n x:Nat} (a:l.length=16*n) (b:x<n):(chunk l x).length=16:=by
 unfold chunk; rw[Adn,Adp]; omega
theorem rK {l:List Int} {n mt ix:Nat} (d:l.length=16*n) (hm:mt<n) (hi:ix<16) (a:Int) (x:Nat):chunk (l.set (16*mt+ix) a) x=if x=mt then (chunk l x).set ix a else chunk l x:=by
 unfold chunk;apply Ad8;intro q;by_cases e:x=mt
 ·subst e;rw[Aay rfl];simp only[Ad2,Ad0,Aed,Adn,Adp];by_cases b:q<16
  ·rw[Aay b,Aay b];by_cases c:ix=q
   ·subst c;rw[Aay rfl,Aay (by omega),Aay rfl,Aay (by omega)]
   ·rw[Aaz (by omega),Aaz c]
  ·rw[Aaz b,Aaz (by omega),Aaz b]
 ·rw[Aaz e];simp only[Ad2,Ad0,Aed];by_cases b:q<16
  ·rw[Aay b,Aay b,Aaz (by omega)]
  ·rw[Aaz b,Aaz b]
theorem cf:∀ {l:List Bx} (h:(l.flatMap hs).Nodup) {x y:Nat} (b:x<l.length) (c:y<l.length) (a:x≠y) {q:Nat} (h1:q ∈ hs l[x]),q ∉ hs l[y]
 | [],h,x,y,b,c,a,q,h1=>by simp at b
 | s::l,h,x,y,b,c,a,q,h1=>by
   rw[Agq,Ad5] at h;obtain ⟨_,e,d⟩:=h;cases x with
   | zero=>
     cases y with
     | zero=>exact absurd rfl a
     | succ y=>
       intro hm;exact d q h1 q (Afu.2 ⟨_,Adb (by simpa using c),hm⟩) rfl
   | succ x=>
     cases y with
     | zero=>
       intro hm;exact d q hm q (Afu.2 ⟨_,Adb (by simpa using b),h1⟩) rfl
     | succ y=>exact cf e (by simpa using b) (by simpa using c) (by omega) h1
theorem F7.loc (h:F7 J p r) {k:Int} {mt ix:Nat} (hp:Oq r k mt ix):∃ b,b ∈ p.l/\(k=0 -> ∃ (hm:mt<p.sl.length),p.sl[mt].1=some ⟨b,0,none⟩)/\(k=1->p.s2.1=some ⟨b,0,none⟩)/\(k=2->p.s3.1=some ⟨b,0,none⟩) /\
  ∀ a,AQ a->0<=a -> ∃ c,CY J b ix (qIi a)=some (J.set b c)/\F7 (J.set b c) p (Hx r k mt ix a):=by
 have sep:=h.sep;have o:=h.ok.sl;have y:=h.ok.gl;have A:=h.n;rcases hp with ⟨rfl,hm,hi⟩ | ⟨rfl,rfl,hi⟩ | ⟨rfl,rfl,hi⟩
 ·have j:mt<p.sl.length:=by omega
  have w:=XT o hm;obtain ⟨b,e,hb,_⟩:=(h.inn mt j).setAt (x:=ix) (by omega) 0;have n:=p.mi j hb;refine ⟨b,QI.mem.2 (.inr (.inr (.inl n))),fun _=>⟨j,e⟩,(fun g=>by cases g),(fun g=>by cases g),fun a f h0=>?_⟩;obtain ⟨u,l,_,v,es,i⟩:=(h.inn mt j).setAt (x:=ix) (by omega) a;rw[e] at l; cases l;obtain ⟨s,t,z⟩:=sep.a1 b n;refine ⟨_,es,(by rw[Aar s]; exact h.cell),h.ss.Ax fun a f=>Aar fun e:b=a.block=>(sep.a0 _ (BV.2 ⟨a,f,rfl⟩)).2.1 (by rw[<- e]; exact n),h.n,fun x m=>?_,h.gl.Ax fun q d=>JI t d,h.qu.Ax fun q d=>JI z d,h.ok.put 0 mt ix f h0,h.sep⟩;show Bf _ _ (chunk (r.sl.set _ _) x);rw[rK o hm hi];by_cases ex:x=mt
  ·subst ex; rw[Aay rfl]; exact i
  ·rw[Aaz ex];exact (h.inn x m).Ax fun q d=>Aar fun e:b=q=>cf sep.nd j m (Adk ex) hb (by rw[e]; exact d)
 ·obtain ⟨b,e,hb,_⟩:=h.gl.setAt (x:=ix) (by omega) 0;refine ⟨b,QI.mem.2 (.inr (.inr (.inr (.inl hb)))),(fun g=>by cases g),fun _=>e,(fun g=>by cases g),fun a f h0=>?_⟩;obtain ⟨u,l,_,v,es,i⟩:=h.gl.setAt (x:=ix) (by omega) a;rw[e] at l; cases l;obtain ⟨s,t⟩:=sep.a2 b hb;exact ⟨_,es,(by rw[Aar s]; exact h.cell),h.ss.Ax fun a f=>Aar fun e:b=a.block=>(sep.a0 _ (BV.2 ⟨a,f,rfl⟩)).2.2.1 (by rw[<- e]; exact hb),h.n,fun x m=>(h.inn x m).Ax fun q d=>Aar fun e:b=q=>(sep.a1 q (p.mi m d)).2.1 (by rw[<- e]; exact hb),i,h.qu.Ax fun q d=>JI t d,h.ok.put 1 0 ix f h0,h.sep⟩
 ·obtain ⟨b,e,hb,_⟩:=h.qu.setAt (x:=ix) hi 0;refine ⟨b,QI.mem.2 (.inr (.inr (.inr (.inr hb)))),(fun g=>by cases g),(fun g=>by cases g),fun _=>e,fun a f h0=>?_⟩;obtain ⟨u,l,_,v,es,i⟩:=h.qu.setAt (x:=ix) hi a;rw[e] at l; cases l;have s:=sep.a3 b hb;exact ⟨_,es,(by rw[Aar s]; exact h.cell),h.ss.Ax fun a f=>Aar fun e:b=a.block=>(sep.a0 _ (BV.2 ⟨a,f,rfl⟩)).2.2.2 (by rw[<- e]; exact hb),h.n,fun x m=>(h.inn x m).Ax fun q d=>Aar fun e:b=q=>(sep.a1 q (p.mi m d)).2.2 (by rw[<- e]; exact hb),h.gl.Ax fun q d=>Aar fun e:b=q=>(sep.a2 q d).2 (by rw[<- e]; exact hb),i,h.ok.put 2 0 ix f h0,h.sep⟩
theorem qo (k:Nat) (h:F7 J p r) {kk:Int} {mt ix:Nat} (hp:Oq r kk mt ix):FJ (k+1) (GS p) kk (mt:Int) (ix:Int) J=some (.bool true,J++[Au.cells [qIi kk,qIi (mt:Int),qIi (ix:Int)] Am true]):=by
 have a:=h.app [Au.cells [qIi kk,qIi (mt:Int),qIi (ix:Int)] Am true];rw[TR];simp only[Ae,IN,Bv,Aca,Ace,AI,Ah];rcases hp with ⟨rfl,hm,hi⟩ | ⟨rfl,rfl,hi⟩ | ⟨rfl,rfl,hi⟩
 ·simp only[show ((0:Int) == 0)=true from rfl,IS,Aak (show (mt:Int)>=0 by omega),a.H7,AI,dTu mt r.mu (by omega),Aak (show (ix:Int)>=0 by omega),Aak (show (ix:Int)<16 by omega),Bv,Aca,Ace,Ah]
 ·simp only[show ((1:Int) == 0)=false from rfl,By,show ((1:Int) == 1)=true from rfl,IS,show (((0:Nat):Int) == 0)=true from rfl,AI,Aak (show (ix:Int)>=0 by omega),Aak (show (ix:Int)<16 by omega),Bv,Aca,Ace,Ah]
 ·simp only[show ((2:Int) == 0)=false from rfl,By,show ((2:Int) == 1)=false from rfl,show ((2:Int) == 2)=true from rfl,IS,show (((0:Nat):Int) == 0)=true from rfl,AI,Aak (show (ix:Int)>=0 by omega),a.UL,dTu ix r.qu.length (by omega),Bv,Aca,Ace,Ah]
theorem F7.Abr (h:F7 J p r) {x:Nat} (c:x<p.sl.length):∃ q,p.ss.1=some ⟨q,0,none⟩/\Be J q x=some (p.sl[x].1,p.sl[x].2.1,p.sl[x].2.2):=by
 have d:=h.n;rcases h.ss with ⟨h0,_⟩ | ⟨b,e,_,_,a⟩
 ·omega
 ·refine ⟨b,by rw[e], ?_⟩;simp[Be,CW,a,XB,Aau c,Eo]
theorem xS (k:Nat) (h:F7 J p r) {kk:Int} {mt ix:Nat} (hp:Oq r kk mt ix) (a:Int) (o:AQ a) (h0:0<=a):∃ J',Ix (k+1) (GS p) kk (mt:Int) (ix:Int) a J=some (.tuple #[],J')/\F7 J' p (Hx r kk mt ix a)/\Mv p.l p.l J J':=by
 have l:=h.ok.sl;have s:=h.ok.gl;have d:=h.app [Au.cells [qIi kk,qIi (mt:Int),qIi (ix:Int)] Am true];obtain ⟨b,hb,j,h1,n,m⟩:=d.loc hp;obtain ⟨c,es,t⟩:=m a o h0;refine ⟨_, ?_,t,(Mv.app p.l J _).trans (Mv.set _ _ hb)⟩;rw[TS];simp only[Ae,IN,Bv,Aca,Ace,AI,Ah];rcases hp with ⟨rfl,hm,hi⟩ | ⟨rfl,rfl,hi⟩ | ⟨rfl,rfl,hi⟩
 ·obtain ⟨g,e⟩:=j rfl;obtain ⟨q,eq,u⟩:=d.Abr g;have f:=(h.inn mt g).form;have f1:p.sl[mt].2.1=16:=by rw[f]; exact XT l hm
  have v:=qSu mt r.mu (by omega);have i:=qSu ix 16 (by omega);simp only[show ((0:Int) == 0)=true from rfl,IS,d.H7,AI,v,Aat,eq,IT,Acg,IN,u,f1,i,e,es]
 ·have e:=h1 rfl;have i:=qSu ix r.gl.length (by omega);simp only[show ((1:Int) == 0)=false from rfl,By,show ((1:Int) == 1)=true from rfl,IS,d.Fa,AI,i,Aat,e,IT,Acg,IN,es]
 ·have e:=n rfl;have i:=qSu ix r.qu.length (by omega);simp only[show ((2:Int) == 0)=false from rfl,By,show ((2:Int) == 1)=false from rfl,d.UL,AI,i,Aat,e,IT,Acg,IN,es]
theorem ua (k:Nat) (h:F7 J p r) {kk:Int} {mt ix:Nat} (hp:Oq r kk mt ix) (a:Int) (u:AQ a):∃ J',EK (k+2) (GS p) kk (mt:Int) (ix:Int) a J=some (qIi (Om r kk mt ix a).1,J')/\F7 J' p (Om r kk mt ix a).2/\Mv p.l p.l J J':=by
 obtain ⟨B,g⟩:∃ B,Au.cells [qIi kk,qIi (mt:Int),qIi (ix:Int)] Am true=B:=⟨_,rfl⟩;have f:F7 (J++[B]) p r:=h.app [B];have o:=qo k f hp;rw[g] at o;have d:=f.app [B];have em:AZ (k+1) (GS p) (J++[B])=_:=NN k f;have n:∀ τ,Aj .i64 (J++[B]++τ) J.length 0=some kk/\Aj .i64 (J++[B]++τ) J.length 1=some (mt:Int)/\Aj .i64 (J++[B]++τ) J.length 2=some (ix:Int):=fun τ=>by
  rw[<- g];exact ⟨by rw[GB]; rfl,by rw[GB]; rfl,by rw[GB]; rfl⟩
 obtain ⟨q,s,t⟩:=n [];rw[Ab1] at q s t;obtain ⟨l,y,z⟩:=n [B];rw[TP];simp only[Ae,g,IN,Nat.reduceAdd,em,AI,An,Aa4,By,q,s,t,o];unfold Om;by_cases c:a<0
 ·rw[Aay (.inl c),Aak c];simp only[IS,AI];exact ⟨_,rfl,d,(Mv.app _ _ _).trans (Mv.app _ _ _)⟩
 rw[Aaj c];simp only[By];by_cases b:a=0/\kk=2
 ·rw[Aay (.inr b),b.1];rw[b.2] at l;simp only[show ((0:Int) == 0)=true from rfl,IS,l,AI,show ((2:Int) == 2)=true from rfl];exact ⟨_,rfl,d,(Mv.app _ _ _).trans (Mv.app _ _ _)⟩
 ·rw[Aaz (fun v=>v.elim c b)];have i:((bif a == 0 then some (kk == 2,J++[B]++[B]) else some (false,J++[B]++[B])):Option (Bool × Aa))=some (false,J++[B]++[B]):=by
   by_cases j:a=0
   ·have x:kk≠2:=fun e=>b ⟨j,e⟩;rw[j,show (kk == 2)=false from Ach.2 x]; rfl
   ·rw[show (a == 0)=false from Ach.2 j]; rfl
  obtain ⟨J',es,w,m⟩:=xS k d hp a u (by omega);simp only[l,AI,i,By,y,z,es,Gi];exact ⟨_,rfl,w,((Mv.app _ _ _).trans (Mv.app _ _ _)).trans m⟩
theorem wX (k:Nat) (h:F7 J p r) (a:Int) (m:AQ a):∃ J' p',G0 (k+2) (GS p) a J=some (qIi (Pm r a).1,J')/\F7 J' p' (Pm r a).2/\Mv p.l p'.l J J'/\p'.qb=p.qb:=by
 have b:=h.ok.qu;have d:=h.ok.push m;rw[Ta];simp only[NN k h,AI,An,Aa4,By,IN,h.UL];unfold Pm at d ⊢;by_cases j:a<=0
 ·rw[Aay j,Aak j];exact ⟨_,p,rfl,h,Mv.refl _ _,rfl⟩
 rw[Aaz j] at d ⊢;rw[Aaj j];simp only[By];by_cases u:r.qu.length=64
 ·rw[Aay u,Aak (show ((r.qu.length:Nat):Int)>=64 by omega)];exact ⟨_,p,rfl,h,Mv.refl _ _,rfl⟩
 rw[Aaz u] at d ⊢;rw[Aaj (show ¬ ((r.qu.length:Nat):Int)>=64 by omega)];have f:=h.qu.form;have f1:p.s3.2.1=r.qu.length:=by rw[f]
 have f2:p.s3.2.2=r.qu.length:=by rw[f]
 obtain ⟨s',Z,s,li,i⟩:=h.qu.push a Ak (by omega);rw[f1,f2] at s;have sep:=h.sep;have lt:=h.lt;have cell:Z[p.qb]?=_:=i.IY h.cell fun hm=>sep.a3 _ hm rfl;have new:∀ q ∈ hs s',q ∈ hs p.s3\/J.length<=q:=i.new;have g:∀ q ∈ hs s',q≠p.qb:=fun q b=>(new q b).elim (sep.a3 q) fun n e=>by have:=lt _ (QI.mem.2 (.inl rfl):p.qb ∈ p.l); omega
 have w:∀ q ∈ hs p.ss,q ∉ hs s':=fun q b hm=>(new q hm).elim (sep.a0 q b).2.2.2 fun n=>by have:=lt q (QI.mem.2 (.inr (.inl b))); omega
 have y:∀ q ∈ p.sl.flatMap hs,q ∉ hs s':=fun q b hm=>(new q hm).elim (sep.a1 q b).2.2 fun n=>by have:=lt q (QI.mem.2 (.inr (.inr (.inl b)))); omega
 have z:∀ q ∈ hs p.s2,q ∉ hs s':=fun q b hm=>(new q hm).elim (sep.a2 q b).2 fun n=>by have:=lt q (QI.mem.2 (.inr (.inr (.inr (.inl b))))); omega
 have es:CY Z p.qb 2 (.slice s'.1 s'.2.1 s'.2.2)=some (Z.set p.qb (.cells [.slice p.ss.1 p.ss.2.1 p.ss.2.2,.slice p.s2.1 p.s2.2.1 p.s2.2.2,.slice s'.1 s'.2.1 s'.2.2] BQ true)):=by
  simp[CY,cell]
 have l:∀ q,q ∈ p.l->q ∉ hs p.s3->q≠p.qb -> ∀ c,(Z.set p.qb c)[q]?=J[q]?:=fun q b v o c=>by
  rw[Aar o.symm,i.same q (lt q b) v]
 simp only[By,Ae,s,AI,es];refine ⟨_,{ p with s3:=s' },rfl,⟨Aa2 (Af cell),h.ss.Ax fun a m=>?_,h.n,fun x t=>(h.inn x t).Ax fun q b=>?_,h.gl.Ax fun q b=>?_,li.Ax fun q b=>Aar (g q b).symm,d,⟨fun q b=>⟨(sep.a0 q b).1,(sep.a0 q b).2.1,(sep.a0 q b).2.2.1,w q b⟩,fun q b=>⟨(sep.a1 q b).1,(sep.a1 q b).2.1,y q b⟩,fun q b=>⟨(sep.a2 q b).1,z q b⟩,g,sep.nd⟩⟩, ?_,rfl⟩
 ·have hm:a.block ∈ hs p.ss:=BV.2 ⟨a,m,rfl⟩;exact l _ (QI.mem.2 (.inr (.inl hm))) (sep.a0 _ hm).2.2.2 (sep.a0 _ hm).1 _
 ·have hm:=p.mi t b;exact l _ (QI.mem.2 (.inr (.inr (.inl hm)))) (sep.a1 _ hm).2.2 (sep.a1 _ hm).1 _
 ·exact l _ (QI.mem.2 (.inr (.inr (.inr (.inl b))))) (sep.a2 _ b).2 (sep.a2 _ b).1 _
 ·refine (i.wide (K:=p.l) (K':=({ p with s3:=s' }:QI).l) (fun q b=>QI.mem.2 (.inr (.inr (.inr (.inr b))))) fun q b=>?_).trans (Mv.set _ _ (QI.mem.2 (.inl rfl)));rcases QI.mem.1 b with rfl | b | b | b | b
  ·exact .inl (QI.mem.2 (.inl rfl))
  ·exact .inl (QI.mem.2 (.inr (.inl b)))
  ·exact .inl (QI.mem.2 (.inr (.inr (.inl b))))
  ·exact .inl (QI.mem.2 (.inr (.inr (.inr (.inl b)))))
  ·exact .inr (.inl b)
theorem szS:HV P FR=some 1:=by kernel_rfl
theorem byS:bytesOf P FR=some 24:=by kernel_rfl
theorem zzS:FV P FR=some (.slice none 0 0):=by kernel_rfl
theorem nx {n x:Nat} (a:x<n):chunk (List.replicate (16*n) 0) x=List.replicate 16 0:=by
 unfold chunk;rw[List.drop_replicate,List.take_replicate];congr 1; omega
structure wU (lo:Nat) (Z:Aa) (h3 h5 x:Nat) (q:QI):Prop where
 cell:Z[h5]?=some (.cells [.slice q.ss.1 q.ss.2.1 q.ss.2.2,.slice (some ⟨h3,0,none⟩) 16 16,.slice none 0 0] BQ true)
 gl:Z[h3]?=some (.cells (Bl (List.replicate 16 0)) Ak true)
 ss:Ct FR 1 Z q.ss x (XB q.sl)
 n:q.sl.length=x
 inn:∀ (y:Nat) (h:y<q.sl.length),Bf Z q.sl[y] (List.replicate 16 0)
 fl:∀ b ∈ q.sl.flatMap hs,h5<b/\b<Z.length
 f0:∀ b ∈ hs q.ss,h5<b/\b ∉ q.sl.flatMap hs
 nd:(q.sl.flatMap hs).Nodup
 lo3:lo<=h3
 l35:h3<h5
theorem ft (k:Nat) {lo nn:Nat} (U:nn<=4) (h3 h5:Nat):∀ (n x f:Nat) (Z:Aa) (q:QI),wU lo Z h3 h5 x q->x+n=nn->n<f ->
  ∃ l q',Jk (k+1) f (nn:Int) h5 (x:Int) Z=some (.exit 0,[],l)/\wU lo l h3 h5 nn q'/\Z.length<=l.length /\ ∀ b,b<lo->l[b]?=Z[b]?
 | n,x,0,Z,q,S,K,J=>by omega
 | 0,x,f+1,Z,q,S,K,J=>by
   have e:x=nn:=by omega
   subst e;rw[PH];simp only[Aaj (show ¬ (x:Int)<(x:Int) by omega),By];exact ⟨Z,q,rfl,S,Aa1 _,fun _ _=>rfl⟩
 | n+1,x,f+1,Z,q,S,K,J=>by
   have w1:=wSu x (by omega);have w:=S.ss.form;have f1:q.ss.2.1=x:=by rw[w]
   have f2:q.ss.2.2=x:=by rw[w]
   have ld:Be Z h5 0=some (q.ss.1,x,x):=by simp[Be,CW,S.cell,Eo,f1,f2]
   have z:=Af S.cell;have Q:=S.l35;obtain ⟨B,I⟩:∃ B,Au.cells (Bl (List.replicate 16 0)) Ak true=B:=⟨_,rfl⟩;have F:Ct FR 1 (Z++[B]) q.ss x (XB q.sl):=S.ss.app _;obtain ⟨s',Z1_,H,O,E⟩:=NM szS byS zzS rfl rfl (by decide) (by decide) (by decide) (Z++[B]) q.ss x (XB q.sl) 1 1 [.slice (some ⟨Z.length,0,none⟩) 16 16] FR (by omega) (by decide) rfl F;have t:=O.mv;have r:=t.len;simp at r;have M:h5 ∉ hs q.ss:=fun hm=>by have:=(S.f0 _ hm).1; omega
   have Y:h3 ∉ hs q.ss:=fun hm=>by have:=(S.f0 _ hm).1; omega
   have j:Z1_[h5]?=_:=t.IY (o:=.cells [.slice q.ss.1 q.ss.2.1 q.ss.2.2,.slice (some ⟨h3,0,none⟩) 16 16,.slice none 0 0] BQ true) (by rw[AT z]; exact S.cell) M;have es:CY Z1_ h5 0 (.slice s'.1 s'.2.1 s'.2.2)=some (Z1_.set h5 (.cells [.slice s'.1 s'.2.1 s'.2.2,.slice (some ⟨h3,0,none⟩) 16 16,.slice none 0 0] BQ true)):=by simp[CY,j]
   obtain ⟨Z2_,d⟩:∃ Z2_,Z1_.set h5 (.cells [.slice s'.1 s'.2.1 s'.2.2,.slice (some ⟨h3,0,none⟩) 16 16,.slice none 0 0] BQ true)=Z2_:=⟨_,rfl⟩;have L:Z2_.length=Z1_.length:=by rw[<- d]; simp
   have u:∀ b,b<Z.length->b≠h5->b ∉ hs q.ss->Z2_[b]?=Z[b]?:=fun b hb D C=>by
    rw[<- d,Aar D.symm,t.same b (by simp; omega) C,AT hb]
   have c:∀ b ∈ hs s',b ∈ hs q.ss\/Z.length+1<=b:=fun b hb=>(t.new b hb).imp id fun h=>by simpa using h
   have s:Z.length ∉ hs q.ss:=fun hm=>by
    obtain ⟨a,m,e⟩:=BV.1 hm;have:=S.ss.lt a m;omega
   have A:Z2_[Z.length]?=some B:=by
    rw[<- d,Aar (by omega),t.same _ (by simp) s]; simp
   have S2:wU lo Z2_ h3 h5 (x+1) { q with ss:=s',sl:=q.sl++[(some ⟨Z.length,0,none⟩,16,16)] }:=by
    have p:∀ b,b ∈ (q.sl++[((some ⟨Z.length,0,none⟩,16,16):Bx)]).flatMap hs↔b ∈ q.sl.flatMap hs\/b=Z.length:=fun b=>by
     rw[Ahm,Aas]; simp[hs]
    refine ⟨by rw[<- d,Aa2 (by omega)],(u h3 (by omega) (by omega) Y).trans S.gl, ?_,by rw[Aaw,S.n]; rfl,fun y W=>?_,fun b hb=>?_,fun b hb=>?_, ?_,S.lo3,S.l35⟩
    ·have:XB (q.sl++[((some ⟨Z.length,0,none⟩,16,16):Bx)])=XB q.sl++[.slice (some ⟨Z.length,0,none⟩) 16 16]:=by simp[XB]
     show Ct FR 1 Z2_ s' (x+1) (XB (q.sl++_));rw[this];refine E.Ax fun a m=>?_;rw[<- d];refine Aar fun e=>?_;rcases c a.block (BV.2 ⟨a,m,rfl⟩) with g | g
     ·exact M (by rw[e]; exact g)
     ·omega
    ·by_cases i:y<q.sl.length
     ·show Bf Z2_ ((q.sl++_)[y]) _;rw[Afw i];refine (S.inn y i).Ax fun b hb=>u b ((S.inn y i).lt b hb) (fun e=>?_) fun hm=>(S.f0 b hm).2 (q.mi i hb);have:=(S.fl b (q.mi i hb)).1;omega
     ·have G:y<(q.sl++[((some ⟨Z.length,0,none⟩,16,16):Bx)]).length:=W;have:y=q.sl.length:=by rw[Aaw,Ac3] at G; omega
      subst this;show Bf Z2_ ((q.sl++_)[q.sl.length]) _;rw[Ae8 (Aa1 _)];simp only[Afl,Af5];exact .inl (.inr ⟨Z.length,by simp,Ado _,by simp[Bl],by rw[A,<- I]⟩)
    ·rcases (p b).1 hb with hb | rfl
     ·have:=S.fl b hb; omega
     ·omega
    ·have hb:b ∈ hs s':=hb;refine ⟨?_,fun hm=>?_⟩
     ·rcases c b hb with g | g
      ·exact (S.f0 b g).1
      ·omega
     ·rcases (p b).1 hm with hm | rfl
      ·rcases c b hb with g | g
       ·exact (S.f0 b g).2 hm
       ·have:=(S.fl b hm).2; omega
      ·rcases c _ hb with g | g
       ·exact s g
       ·omega
    ·show ((q.sl++_).flatMap hs).Nodup;rw[Ahm,Ad5];refine ⟨S.nd,by simp[hs],fun a m b hb e=>?_⟩;simp[hs] at hb;have:=(S.fl a m).2;omega
   obtain ⟨l,q',N,S3,l3,X⟩:=ft k U h3 h5 n (x+1) f Z2_ _ S2 (by omega) (by omega);have T:=S.lo3;refine ⟨l,q', ?_,S3,by omega,fun b hb=>(X b hb).trans (u b (by omega) (by omega) fun hm=>by have:=(S.f0 b hm).1; omega)⟩;rw[PH];simp only[Aak (show (x:Int)<(nn:Int) by omega),IS,IN,ld,AI];rw[Aay (by decide)];have v:AH P FR (q.ss.1,x,x) (some ⟨Z.length+1,0,none⟩,1,1) (Z++[B]++[Au.cells [.slice (some ⟨Z.length,0,none⟩) 16 16] FR true])=some (s',Z1_):=by
    have:(Z++[B]).length=Z.length+1:=by simp
    rw[this] at H;have V:q.ss=(q.ss.1,x,x):=w;rw[<- V]; exact H
   simp only[X7,show (16:Int).toNat=16 from rfl,Ae,I,Aaw,Ac3,v,AI,es,d,w1,N]
theorem vz (k:Nat) (t:10<=k) {n:Nat} (h1:1<=n) (j:n<=4) (J:Aa):∃ τ p,Iw (k+2) (n:Int) J=some (.tuple #[qVi (GS p),qIi 0],J++τ)/\F7 (J++τ) p ⟨n,List.replicate (16*n) 0,List.replicate 16 0,[]⟩ /\ ∀ q ∈ p.l,J.length<=q:=by
 obtain ⟨Z0_,c⟩:∃ Z0_,J++[Au.cells (Bl (List.replicate 16 0)) Ak true]++[Au.cells [.slice none 0 0,.slice (some ⟨J.length,0,none⟩) 16 16,.slice none 0 0] BQ true]=Z0_:=⟨_,rfl⟩;have m:wU J.length Z0_ J.length (J.length+1) 0 ⟨J.length+1,(none,0,0),[],(some ⟨J.length,0,none⟩,16,16),(none,0,0)⟩:=by
  refine ⟨by rw[<- c]; simp,by rw[<- c]; simp,Ct.nil _ _ _,rfl,fun y s=>by simp at s,fun b hb=>by simp at hb,fun b hb=>by simp[hs] at hb,by simp,Aa1 _,by omega⟩
 obtain ⟨i,q',e,S,u,f⟩:=ft k j J.length (J.length+1) n 0 (k+1) Z0_ _ m (by omega) (by omega);rw[show ((0:Nat):Int)=0 from rfl] at e;have w:Z0_.length=J.length+2:=by rw[<- c]; simp
 obtain ⟨τ,l⟩:∃ τ,i=J++τ:=by
  refine GC (by omega) fun q a=>?_;rw[f q a,<- c,Aaq,AT a]
 refine ⟨τ,⟨J.length+1,q'.ss,q'.sl,(some ⟨J.length,0,none⟩,16,16),(none,0,0)⟩, ?_, ?_,fun q a=>?_⟩
 ·rw[bM];simp only[Aaj (show ¬ (n:Int)<1 by omega),By,Aaj (show ¬ (n:Int)>4 by omega),AI];rw[Aay (by decide)];simp only[X7,show (16:Int).toNat=16 from rfl,Ae,Aaw,Ac3];rw[c];simp only[e,AI,Aat,l]
 ·rw[<- l];refine ⟨S.cell,S.ss,S.n,fun x g=>?_, ?_,Bf.nil _, ?_, ?_⟩
  ·have h:x<n:=by have:=S.n; have g:x<q'.sl.length:=g; omega
   show Bf i q'.sl[x] (chunk (List.replicate (16*n) 0) x);rw[nx h];exact S.inn x g
  ·exact .inl (.inr ⟨J.length,by simp,Ado _,by simp[Bl],S.gl⟩)
  ·refine ⟨h1,j,by simp,by simp,by simp,fun v d=>?_⟩;unfold D4.all at d;simp only[Aas,Af9,Aee,Aga] at d;have:v=0:=by rcases d with d | d <;> exact d.2
   subst this;exact ⟨by unfold AQ; omega,Afp _⟩
  ·have r:∀ b ∈ q'.sl.flatMap hs,J.length+1<b:=fun b hb=>(S.fl b hb).1;have o:∀ b ∈ hs q'.ss,J.length+1<b/\b ∉ q'.sl.flatMap hs:=S.f0;refine ⟨fun q a=>?_,fun q a=>?_,fun q a=>?_,fun q a=>by simp[hs] at a,S.nd⟩
   ·have a:q ∈ hs q'.ss:=a;have:=o q a;refine ⟨by show q≠J.length+1; omega,this.2, ?_,by simp[hs]⟩;simp[hs]; omega
   ·have a:q ∈ q'.sl.flatMap hs:=a;have:=r q a;refine ⟨by show q≠J.length+1; omega, ?_,by simp[hs]⟩;simp[hs]; omega
   ·simp[hs] at a;refine ⟨by show q≠J.length+1; omega,by simp[hs]⟩
 ·rcases QI.mem.1 a with rfl | a | a | a | a
  ·show J.length<=J.length+1; omega
  ·have:=(S.f0 q a).1; omega
  ·have:=(S.fl q a).1; omega
  ·simp[hs] at a; omega
  ·simp[hs] at a
end
section
variable {J:Aa} {m:HM} {t:RM} {j:RI}
def nM (m:HM) (c:Nat):Nat->Nat->Option Nat
 | 0,_=>none
 | n+1,x=>if x+c<=m.bls.length then (if KO m.bls x c 0=none then some x else nM m c n (x+1)) else none
theorem cg {c:Nat}:∀ {n x b:Nat},nM m c n x=some b->x<=b/\b+c<=m.bls.length
 | 0,x,b,h=>by cases h
 | n+1,x,b,h=>by
   unfold nM at h;split at h
   ·split at h
    ·cases h; exact ⟨Aa1 _,by assumption⟩
    ·have:=cg h; omega
   ·cases h
theorem ck (k:Nat) (h:RG J j m t) (d:FZ m) {c x:Nat} (v:x+c<=m.bls.length):∀ (n y f:Nat),y+n=c->n<f->KO m.bls x y 0=none ->
  ∃ r:Nat,Ii (k+2) f (Bj j) (c:Int) (x:Int) (y:Int) J=some (.exit 2,[qIi (r:Int)],J)/\(r=c↔KO m.bls x c 0=none)/\r<=c
 | n,y,0,i,g,hu=>by omega
 | 0,y,f+1,i,g,hu=>by
   rw[OV];obtain rfl:y=c:=by omega
   exact ⟨y,by simp only[Aaj (Int.lt_irrefl _),By,AI],⟨fun _=>hu,fun _=>rfl⟩,Aa1 _⟩
 | n+1,y,f+1,i,g,hu=>by
   have u:=h.nt;rw[OV];have z:Ar ((x:Int)+(y:Int))=((x+y:Nat):Int):=Ai (by unfold AQ; omega);have A:=wSu y (by omega);have es:Ce m ((x+y:Nat):Int)=(m.bls.getD (x+y) (0,0)).1:=by
    unfold Ce; rw[Aay (by omega),IT]
   simp only[Aak (show (y:Int)<(c:Int) by omega),IS,z,YD k h,es,AI,Ah];by_cases q:(m.bls.getD (x+y) (0,0)).1=0
   ·have b:KO m.bls x (y+1) 0=none:=by
     rw[UR d] at hu ⊢;intro e l B;by_cases w:e=y
     ·rw[w]; exact q
     ·exact hu e l (by omega)
    obtain ⟨r,o,p,s⟩:=ck k h d v n (y+1) f (by omega) (by omega) b;exact ⟨r,by simp only[show ((m.bls.getD (x+y) (0,0)).1 == 0)=true from by simpa using q,IS,A,o],p,s⟩
   ·refine ⟨y,by simp only[show ((m.bls.getD (x+y) (0,0)).1 == 0)=false from by simpa using q,By],⟨fun a=>by omega,fun a=>?_⟩,by omega⟩;rw[UR d] at a;exact absurd (a y (by omega) (by omega)) q
theorem cj (k:Nat) (s:5000<=k) (h:RG J j m t) (i:FZ m) {c:Nat} (o:c<=100):∀ (n x f:Nat),m.bls.length<x+n->x<=200->n<f ->
  Ih (k+2) f (Bj j) (c:Int) (x:Int) J=some (match nM m c n x with | some b=>(.ret,[qIi (b:Int)],J) | none=>(.exit 0,[],J))
 | n,x,0,v,d,p=>by omega
 | n,x,f+1,v,d,p=>by
   have u:=h.nt;have y:Ar ((x:Int)+(c:Int))=((x+c:Nat):Int):=Ai (by unfold AQ; omega);have A:=wSu x (by omega);have l:CF (k+2) (Bj j) J=_:=W7 k h;rw[Wi];simp only[l,AI,Ah,y];by_cases q:x+c<=m.bls.length
   ·obtain ⟨n,rfl⟩:∃ w,n=w+1:=⟨n-1,by omega⟩;obtain ⟨r,e,g,B⟩:=ck k h i q c 0 (k+2) (by omega) (by omega) rfl;rw[show ((0:Nat):Int)=0 from rfl] at e;simp only[Aak (show ((x+c:Nat):Int)<=((m.bls.length:Nat):Int) by omega),IS,e,AI,Aat,Em,nM,Aay q,A];by_cases a:KO m.bls x c 0=none
    ·rw[Aay a,show ((r:Int) == (c:Int))=true from by have:=g.2 a; simp[this]]; rfl
    ·rw[Aaz a,show ((r:Int) == (c:Int))=false from by rw[Ach]; intro C; exact a (g.1 (by omega))];simp only[By];exact cj k s h i o n (x+1) f (by omega) (by omega) (by omega)
   ·have z:nM m c n x=none:=by
     cases n with
     | zero=>rfl
     | succ n=>rw[nM,Aaz q]
    simp only[Aaj (show ¬ ((x+c:Nat):Int)<=((m.bls.length:Nat):Int) by omega),By,z]
theorem oY (k:Nat) (d:5000<=k) (h:RG J j m t) (g:FZ m) {c:Nat} (a:c<=100):Iy (k+3) (Bj j) (c:Int) J=some (qIi (match nM m c m.bls.length 1 with | some b=>(b:Int) | none=>0),J):=by
 have f:=h.nt;have e:=cj k d h g a m.bls.length 1 (k+2) (by omega) (by omega) (by omega);rw[show ((1:Nat):Int)=1 from rfl] at e;rw[ZR];simp only[e,AI];cases nM m c m.bls.length 1 with
 | none=>simp only[Aat]
 | some b=>simp only[show (CA.ret=CA.exit 0)=False from by simp,Aa5,Aat,Em]
theorem fY {b:Nat}:∀ (L:List Nat) (p:Nat),(∀ j ∈ L,32*b<=j/\j<32*b+32)->64*b<=p->(∀ g ∈ (F9 m L p).1,64*b<=g.1/\g.1<64*b+64)/\64*b<=(F9 m L p).2
 | [],p,_,hp=>⟨(fun g a=>by cases a),hp⟩
 | j::L,p,c,hp=>by
   obtain ⟨h1,h⟩:=c j Acj;obtain ⟨d,e⟩:=fY L (2*j+sz m j) (fun y f=>c y (Ab7 _ f)) (by omega);refine ⟨fun g a=>?_,e⟩;unfold F9 at a;rcases Aas.1 a with a | a
   ·unfold Ky at a;split at a
    ·rw[Ac1.1 a]; dsimp only; omega
    ·cases a
   ·exact d g a
theorem rW {b:Nat} (hb:b<m.bls.length):∀ g ∈ IV m (b:Int),64*b<=g.1/\g.1<64*b+64:=by
 intro g a;unfold IV at a;split at a;rotate_left
 ·cases a
 rw[IT] at a;unfold cn at a;obtain ⟨h1,d⟩:=fY (m:=m) (b:=b) (D8 m (32*b) 32) (64*b) (fun j c=>by have:=LR.1 c; omega) (Aa1 _);rcases Aas.1 a with a | a
 ·exact h1 g a
 ·unfold Ky at a;split at a
  ·rw[Ac1.1 a]; dsimp only; omega
  ·cases a
def yE (w:Int):List (Nat × Nat)->Option Nat
 | []=>none
 | g::l=>if (g.2:Int)>=w then some g.1 else yE w l
def rX (m:HM) (w sp:Int):Nat->Nat->Option Nat
 | 0,_=>none
 | n+1,b=>if Ce m (b:Int)=1/\MO m (b:Int)=sp then (match yE w (IV m (b:Int)) with | some a=>some a | none=>rX m w sp n (b+1)) else rX m w sp n (b+1)
theorem pL {w:Int}:∀ {l:List (Nat × Nat)} {a:Nat},yE w l=some a -> ∃ g ∈ l,g.1=a
 | [],a,h=>by cases h
 | g::l,a,h=>by
   unfold yE at h;split at h
   ·cases h; exact ⟨g,Acj,rfl⟩
   ·obtain ⟨b,h1,c⟩:=pL h;exact ⟨b,Ab7 _ h1,c⟩
theorem cr {w sp:Int}:∀ {n b a:Nat},rX m w sp n b=some a->b+n<=m.bls.length->Ce m (((a/64:Nat)):Int)=1/\a<64*m.bls.length
 | 0,b,a,h,_=>by cases h
 | n+1,b,a,h,hb=>by
   unfold rX at h;split at h
   ·rename_i c;split at h
    ·rename_i e he;cases h;obtain ⟨g,d,rfl⟩:=pL he;obtain ⟨f,i⟩:=rW (show b<m.bls.length by omega) g d;rw[show g.1/64=b from by omega];exact ⟨c.1,by omega⟩
    ·exact cr h (by omega)
   ·exact cr h (by omega)
theorem yf {s:Bx} {l:List (Nat × Nat)} (h:Ct AG 2 J s l.length (D7 l)) {x:Nat} (d:x<l.length):∃ b,s.1=some ⟨b,0,none⟩/\Aj .i64 J b (x*2)=some ((l.getD x (0,0)).1:Int)/\Aj .i64 J b (x*2+1)=some ((l.getD x (0,0)).2:Int):=by
 rcases h with ⟨h,_⟩ | ⟨b,rfl,_,_,a⟩
 ·omega
 ·obtain ⟨h1,c⟩:=WC l x d;exact ⟨b,rfl,by simp only[Aj,CW,a,h1,AI,Ah],by simp only[Aj,CW,a,c,AI,Ah]⟩
theorem fk (k:Nat) {h0:Nat} {rr d c:Int} {T:TypeId} {sl:Bx} {l:List (Nat × Nat)} (u:l.length<=1000):∀ (n x f:Nat) (J:Aa),Ct AG 2 J sl l.length (D7 l)->J[h0]?=some (.cells [qIi rr,qIi d,qIi c] T true)->x+n=l.length->n<f ->
  ∃ τ,Jl (k+2) f h0 sl.1 l.length l.length (x:Int) J=some (match yE (words rr d c) (l.drop x) with | some a=>(.ret,[qIi (a:Int),.bool true],J++τ) | none=>(.exit 2,[],J++τ))
 | n,x,0,J,h,hb,o,m=>by omega
 | 0,x,f+1,J,h,hb,o,m=>by
   rw[PK];simp only[dFu x l.length (by omega),By];rw[Ade (by omega)];exact ⟨[],by simp[yE]⟩
 | n+1,x,f+1,J,h,hb,o,m=>by
   obtain ⟨b,e,v,w⟩:=yf h (x:=x) (by omega);have y:=qSu x l.length (by omega);have z:=wSu x (by omega);have hd:l.drop x=l.getD x (0,0)::l.drop (x+1):=by
    rw[Ac2 (by omega),Aax,Aau (by omega)]; rfl
   obtain ⟨p,r,s⟩:=Kr hb;obtain ⟨τ,t⟩:=JH k rr d c J;have g:=h.lt ⟨b,0,none⟩ e;have i:Aj .i64 (J++τ) b (x*2)=some ((l.getD x (0,0)).1:Int):=by rw[HP _ _ _ g]; exact v
   obtain ⟨A,j⟩:=fk k (h0:=h0) (rr:=rr) (d:=d) (c:=c) (T:=T) (sl:=sl) u n (x+1) f (J++τ) (h.app τ) (by rw[AT (Af hb)]; exact hb) (by omega) (by omega);rw[e] at j;rw[PK,hd,yE];simp only[dTu x l.length (by omega),IS,y,Aat,e,AI,IT,IN,Aa0,w,p,r,s,t,Ah,z,i];by_cases q:((l.getD x (0,0)).2:Int)>=words rr d c
   ·rw[Aay q,Aak q];exact ⟨τ,rfl⟩
   ·rw[Aaz q,Aaj q];simp only[By,j,Aaq];exact ⟨τ++A,rfl⟩
theorem fj (k:Nat) (v:5000<=k) {h0:Nat} {rr d c sp:Int} {T:TypeId}:∀ (n x f:Nat) (J:Aa),RG J j m t->J[h0]?=some (.cells [qIi rr,qIi d,qIi c] T true)->x+n=m.bls.length->n<f ->
  ∃ τ,GR (k+4) f (Bj j) sp h0 (x:Int) J=some (match rX m (words rr d c) sp n x with | some a=>(.ret,[qIi (a:Int),.bool true],J++τ) | none=>(.exit 0,[],J++τ))
 | n,x,0,J,h,hb,w,u=>by omega
 | 0,x,f+1,J,h,hb,w,u=>by
   have o:CF (k+4) (Bj j) J=_:=W7 (k+2) h;rw[PJ];simp only[o,AI,Ah,dFu x m.bls.length (by omega),By];exact ⟨[],by simp[rX]⟩
 | n+1,x,f+1,J,h,hb,w,u=>by
   have E:=h.nt;have G:=wSu x (by omega);have o:CF (k+4) (Bj j) J=_:=W7 (k+2) h;have C:Cw (k+4) (Bj j) (x:Int) J=_:=YD (k+2) h (x:Int);have B:Fg (k+4) (Bj j) (x:Int) J=_:=sW (k+2) h (x:Int);rw[PJ,rX];simp only[o,AI,Ah,dTu x m.bls.length (by omega),IS,C,G];have skip:∀ τ,∃ z,GR (k+4) f (Bj j) sp h0 ((x+1:Nat):Int) (J++τ)=some (match rX m (words rr d c) sp n (x+1) with | some a=>(.ret,[qIi (a:Int),.bool true],J++z) | none=>(.exit 0,[],J++z)):=fun τ=>by
    obtain ⟨i,g⟩:=fj k v (h0:=h0) (rr:=rr) (d:=d) (c:=c) (sp:=sp) (T:=T) n (x+1) f (J++τ) (h.app τ) (by rw[AT (Af hb)]; exact hb) (by omega) (by omega);exact ⟨τ++i,by rw[g,Aaq]⟩
   have b:=skip [];rw[Ab1] at b;have e:((bif (Ce m (x:Int) != 1) then some (true,J) else (Fg (k+4) (Bj j) (x:Int) J).bind fun y=>(Bk .i64 y.1).bind fun F=>some (F != sp,y.2)):Option (Bool × Aa))=some (!decide (Ce m (x:Int)=1/\MO m (x:Int)=sp),J):=by
    by_cases r:Ce m (x:Int)=1
    ·rw[r];simp only[Abx,By,B,AI,Ah];by_cases s:MO m (x:Int)=sp
     ·rw[s]; simp
     ·rw[Aaj (fun p=>s p.2),Adz.2 s]; rfl
    ·rw[Adz.2 r,Aaj (fun p=>r p.1)]; rfl
   rw[e];simp only[AI];by_cases q:Ce m (x:Int)=1/\MO m (x:Int)=sp;rotate_left
   ·rw[Aaz q,Aaj q];simp only[Adi,IS];exact b
   ·rw[Aay q,Aak q];obtain ⟨τ,sl,A,hs,_⟩:=vx k v h (x:Int);have D:=fW m (x:Int);have f0:=hs.form;have f1:sl.2.1=(IV m (x:Int)).length:=by rw[f0]
    have f2:sl.2.2=(IV m (x:Int)).length:=by rw[f0]
    obtain ⟨i,g⟩:=fk (k+2) (h0:=h0) (rr:=rr) (d:=d) (c:=c) (T:=T) (sl:=sl) (l:=IV m (x:Int)) (by omega) (IV m (x:Int)).length 0 (k+4) (J++τ) hs (by rw[AT (Af hb)]; exact hb) (by omega) (by omega);rw[show ((0:Nat):Int)=0 from rfl,Adf] at g;simp only[Aa4,By,A,AI,Eo,f1,f2,g];cases yE (words rr d c) (IV m (x:Int)) with
    | some a=>
      simp only[reduceCtorEq,Aa5,Aat,ju,Aaq];exact ⟨τ++i,rfl⟩
    | none=>
      simp only[Aat,Aaq];exact skip (τ++i)
theorem yZ (k:Nat) (f:5000<=k) (h:RG J j m t) (rr d c sp:Int):∃ τ,ND (k+5) (Bj j) rr d c sp J=some (match rX m (words rr d c) sp (m.bls.length-1) 1 with | some a=>.tuple #[qIi (a:Int),.bool true] | none=>.tuple #[qIi 0,.bool false],J++τ):=by
 have g:=h.nb;have i:=h.nt;obtain ⟨B,b⟩:∃ B,Au.cells [qIi rr,qIi d,qIi c] Ad true=B:=⟨_,rfl⟩;obtain ⟨τ,e⟩:=fj k f (h0:=J.length) (rr:=rr) (d:=d) (c:=c) (sp:=sp) (T:=Ad) (m.bls.length-1) 1 (k+4) (J++[B]) (h.app _) (by rw[<- b]; simp) (by omega) (by omega);rw[show ((1:Nat):Int)=1 from rfl] at e;refine ⟨[B]++τ, ?_⟩;rw[bN];simp only[Ae,b,e,AI];cases rX m (words rr d c) sp (m.bls.length-1) 1 with
 | none=>simp only[Aat,Aaq]
 | some a=>simp only[reduceCtorEq,Aa5,Aat,ju,Aaq]
def Ok (rr d c:Int):Nat:=((words rr d c+63).tdiv 64).toNat
def firstM (m:HM) (rr d c sp:Int):(Int × Bool) × HM:=
 if words rr d c>32 then (match nM m (Ok rr d c) m.bls.length 1 with
  | none=>((0,false),m)
  | some b=>(((64*b:Nat):Int),(BF m (b:Int) (Ok rr d c:Int) 2 sp 3 sp).1 == 0,(BF m (b:Int) (Ok rr d c:Int) 2 sp 3 sp).2) |> fun x=>((x.1,x.2.1),x.2.2))
 else match rX m (words rr d c) sp (m.bls.length-1) 1 with
  | some a=>(((a:Int),true),m)
  | none=>match nM m 1 m.bls.length 1 with
    | none=>((0,false),m)
    | some b=>((((64*b:Nat):Int),(BF m (b:Int) 1 1 sp 0 0).1 == 0),(BF m (b:Int) 1 1 sp 0 0).2)
theorem qg (rr d c:Int):(words rr d c+63).tdiv 64=(Ok rr d c:Int)/\Ok rr d c<=4/\(words rr d c>32->1<=Ok rr d c):=by
 obtain ⟨h0,h1⟩:=Oy rr d c;unfold Ok;rw[Afn (by omega)];omega
theorem tI (k:Nat) (S:5000<=k) (h:RG J j m t) (o:LN m) (x:FZ m) (rr d c sp:Int):Fk (Kg (k+6) (Bj j) rr d c sp J) J j (.tuple #[qIi (firstM m rr d c sp).1.1,.bool (firstM m rr d c sp).1.2]) (firstM m rr d c sp).2:=by
 have T:=h.nt;obtain ⟨U,V,W⟩:=qg rr d c;obtain ⟨B,D⟩:∃ B,Au.cells [qIi rr,qIi d,qIi c] Ad true=B:=⟨_,rfl⟩;have C:∀ τ,Aj .i64 (J++[B]++τ) J.length 0=some rr/\Aj .i64 (J++[B]++τ) J.length 1=some d/\Aj .i64 (J++[B]++τ) J.length 2=some c:=fun τ=>by
  rw[<- D];exact ⟨by rw[GB]; rfl,by rw[GB]; rfl,by rw[GB]; rfl⟩
 obtain ⟨F,G,H⟩:=C [];rw[Ab1] at F G H;obtain ⟨i,N⟩:=YC (k+2) rr d c (J++[B]);have y:ET (k+5) rr d c (J++[B])=_:=N;obtain ⟨I,K,L⟩:=C i;have l:=(h.app [B]).app i;have run:∀ {E:Option (Value × Aa)} {v:Value} {m':HM} (τ:Aa),Fk E (J++[B]++i++τ) j v m'->Fk E J j v m':=fun τ P=>by
  obtain ⟨J',j',t',e,p,r,s,u⟩:=P;exact ⟨J',j',t',e,p,r,s,(((H9.app j J [B]).trans (H9.app j _ i)).trans (H9.app j _ τ)).trans u⟩
 rw[Yj];simp only[Ae,D,IN,Nat.reduceAdd,F,G,H,AI,y,An];unfold firstM;by_cases q:words rr d c>32
 ·rw[Aay q,Aak q];obtain ⟨g,O⟩:=db (k+2) rr d c (J++[B]++i);have n:EX (k+5) rr d c (J++[B]++i)=_:=O;rw[U] at n;have f:=l.app g;have w:Iy (k+5) (Bj j) (Ok rr d c:Int) (J++[B]++i++g)=_:=oY (k+2) (by omega) f x (by omega);simp only[IS,I,K,L,AI,n,Ah,w];cases z:nM m (Ok rr d c) m.bls.length 1 with
  | none=>
    simp only[show ((0:Int) == 0)=true from rfl,IS];exact run g (Fk.NR f o rfl)
  | some b=>
    obtain ⟨f1,f2⟩:=cg z;have hC:Fk (DY (k+5) (Bj j) (b:Int) (Ok rr d c:Int) sp (J++[B]++i++g)) (J++[B]++i++g) j _ _:=da (k+3) (by omega) f o x (b:Int) (Ok rr d c:Int) sp (by unfold AQ; omega) (by unfold AQ; omega);obtain ⟨J',j',t',e,p,r,s,u⟩:=hC;have A:Ar ((b:Int)*64)=((64*b:Nat):Int):=by rw[Ai (by unfold AQ; omega)]; omega
    simp only[show ((b:Int) == 0)=false from by rw[Ach]; omega,By,e,AI,Ah,A];exact run g ⟨J',j',t',rfl,p,r,s,u⟩
 ·rw[Aaz q,Aaj q];obtain ⟨g,M⟩:=yZ k S l rr d c sp;have f:=l.app g;simp only[By,I,K,L,AI,M];cases Q:rX m (words rr d c) sp (m.bls.length-1) 1 with
  | some a=>
    simp only[Si,IS];exact run g (Fk.NR f o rfl)
  | none=>
    have w:Iy (k+5) (Bj j) ((1:Nat):Int) (J++[B]++i++g)=_:=oY (k+2) (by omega) f x (c:=1) (by omega);rw[show ((1:Nat):Int)=1 from rfl] at w;simp only[Si,By,w,AI,Ah];cases z:nM m 1 m.bls.length 1 with
    | none=>
      simp only[show ((0:Int) == 0)=true from rfl,IS];exact run g (Fk.NR f o rfl)
    | some b=>
      obtain ⟨f1,f2⟩:=cg z;have hC:Fk (Gw (k+5) (Bj j) (b:Int) sp (J++[B]++i++g)) (J++[B]++i++g) j _ _:=sT (k+3) f o x (b:Int) sp;obtain ⟨J',j',t',e,p,r,s,u⟩:=hC;have A:Ar ((b:Int)*64)=((64*b:Nat):Int):=by rw[Ai (by unfold AQ; omega)]; omega
      simp only[show ((b:Int) == 0)=false from by rw[Ach]; omega,By,e,AI,Ah,A];exact run g ⟨J',j',t',rfl,p,r,s,u⟩
end
section
variable {J:Aa} {m mr:HM} {t:RM} {r rq:D4}
structure Nf where
 sb:Nat
 i:Cs
 j:RI
 p:PI
 q:QI
def Nf.Ls (I:Nf):List (List Nat):=[I.i.l,I.j.l,I.p.l,I.q.l,[I.sb]]
def Nf.fl (I:Nf):List Nat:=I.Ls.flatten
abbrev ID (I:Nf):qOi:=some ⟨I.sb,0,none⟩
def HQ (I:Nf):List Value:=[qVi (AU I.i),qVi (F8 I.p),qVi (Bj I.j),qVi (GS I.q)]
structure Sn (J:Aa) (I:Nf) (m mr:HM) (t:RM) (r rq:D4):Prop where
 cell:J[I.sb]?=some (.cells (HQ I) BP true)
 h:Al J I.i m
 mo:MK m
 g:RG J I.j mr t
 P:LN mr
 mor:MK mr
 rt:Hg J I.p r
 rq:F7 J I.q rq
 fp:Fp J I.Ls
variable {I:Nf}
theorem Sn.app (S:Sn J I m mr t r rq) (τ:Aa):Sn (J++τ) I m mr t r rq:=
 ⟨by rw[AT (Af S.cell)]; exact S.cell,S.h.app τ,S.mo,S.g.app τ,S.P,S.mor,S.rt.app τ,S.rq.app τ,S.fp.app τ⟩
theorem Sn.H7 (S:Sn J I m mr t r rq):B9 J I.sb 0=some (AU I.i):=by simp[B9,CW,S.cell,HQ,HR]
theorem Sn.Fa (S:Sn J I m mr t r rq):B9 J I.sb 1=some (F8 I.p):=by simp[B9,CW,S.cell,HQ,HR]
theorem Sn.UL (S:Sn J I m mr t r rq):B9 J I.sb 2=some (Bj I.j):=by simp[B9,CW,S.cell,HQ,HR]
theorem Sn.cH (S:Sn J I m mr t r rq):B9 J I.sb 3=some (GS I.q):=by simp[B9,CW,S.cell,HQ,HR]
theorem Sn.hs (S:Sn J I m mr t r rq) {mm:Option (Value × Aa)} {v:Value} {m':HM} (hA:∃ J1_,mm=some (v,J1_)/\Al J1_ I.i m'/\Br I.i J J1_) (h:MK m'):∃ J',mm=some (v,J')/\Sn J' I m' mr t r rq/\Mv I.fl I.fl J J'/\J'[I.sb]?=J[I.sb]?:=by
 obtain ⟨J',e,c,d⟩:=hA;obtain ⟨f,k,l⟩:=S.fp.step 0 (by simp[Nf.Ls]) (L':=I.i.l) d.mv c.lt;have a:=fun y j b q i=>k y j b q i;have g:=a 4 (by simp[Nf.Ls]) (by decide) I.sb (by simp[Nf.Ls]);exact ⟨J',e,⟨g.trans S.cell,c,h,S.g.Ax (a 1 (by simp[Nf.Ls]) (by decide)) d.len,S.P,S.mor,S.rt.Ax (a 2 (by simp[Nf.Ls]) (by decide)),S.rq.Ax (a 3 (by simp[Nf.Ls]) (by decide)),f⟩,l,g⟩
theorem Sn.js (S:Sn J I m mr t r rq) {mm:Option (Value × Aa)} {v:Value} {m':HM} (h:Fk mm J I.j v m') (a:MK m'):∃ J' j' t',mm=some (v,J')/\Sn J' { I with j:=j' } m m' t' r rq/\Mv I.fl ({ I with j:=j' }:Nf).fl J J'/\J'[I.sb]?=J[I.sb]?:=by
 obtain ⟨J',j',t',e,d,s',p',b⟩:=h;obtain ⟨f,k,i⟩:=S.fp.step 1 (by simp[Nf.Ls]) (L':=j'.l) b.mv d.lt;have c:=k 4 (by simp[Nf.Ls]) (by decide) I.sb (by simp[Nf.Ls]);have g:HQ { I with j:=j' }=HQ I:=by unfold HQ Bj; rw[b.hb]
 exact ⟨J',j',t',e,⟨by rw[g]; exact c.trans S.cell,S.h.Ax (k 0 (by simp[Nf.Ls]) (by decide)),S.mo,⟨d,s',a.inv,a.inv2,a.sh.wl,a.nb,a.nt⟩,p',a,S.rt.Ax (k 2 (by simp[Nf.Ls]) (by decide)),S.rq.Ax (k 3 (by simp[Nf.Ls]) (by decide)),f⟩,i,c⟩
theorem Sn.ps (S:Sn J I m mr t r rq) {J':Aa} {p':PI} {c:D4} (a:Hg J' p' c) (hm:Mv I.p.l p'.l J J') (hb:p'.rb=I.p.rb):Sn J' { I with p:=p' } m mr t c rq/\Mv I.fl ({ I with p:=p' }:Nf).fl J J'/\J'[I.sb]?=J[I.sb]?:=by
 obtain ⟨f,k,e⟩:=S.fp.step 2 (by simp[Nf.Ls]) (L':=p'.l) hm a.lt;have b:=k 4 (by simp[Nf.Ls]) (by decide) I.sb (by simp[Nf.Ls]);have d:HQ { I with p:=p' }=HQ I:=by unfold HQ F8; rw[hb]
 exact ⟨⟨by rw[d]; exact b.trans S.cell,S.h.Ax (k 0 (by simp[Nf.Ls]) (by decide)),S.mo,S.g.Ax (k 1 (by simp[Nf.Ls]) (by decide)) hm.len,S.P,S.mor,a,S.rq.Ax (k 3 (by simp[Nf.Ls]) (by decide)),f⟩,e,b⟩
theorem Sn.qs (S:Sn J I m mr t r rq) {J':Aa} {q':QI} {c:D4} (a:F7 J' q' c) (hm:Mv I.q.l q'.l J J') (hb:q'.qb=I.q.qb):Sn J' { I with q:=q' } m mr t r c/\Mv I.fl ({ I with q:=q' }:Nf).fl J J'/\J'[I.sb]?=J[I.sb]?:=by
 obtain ⟨f,k,e⟩:=S.fp.step 3 (by simp[Nf.Ls]) (L':=q'.l) hm a.lt;have b:=k 4 (by simp[Nf.Ls]) (by decide) I.sb (by simp[Nf.Ls]);have d:HQ { I with q:=q' }=HQ I:=by unfold HQ GS; rw[hb]
 exact ⟨⟨by rw[d]; exact b.trans S.cell,S.h.Ax (k 0 (by simp[Nf.Ls]) (by decide)),S.mo,S.g.Ax (k 1 (by simp[Nf.Ls]) (by decide)) hm.len,S.P,S.mor,S.rt.Ax (k 2 (by simp[Nf.Ls]) (by decide)),a,f⟩,e,b⟩
theorem PS {b:Nat} {J J':Aa} {ρ:Type} (h:J'[b]?=J[b]?) (x:Option ρ):HH (some ⟨b,0,none⟩) J J' x=x:=by
 have:@AJ.k Ao J J' b=true:=by
  unfold Ao;simpa using h
 unfold HH;simp only[this,IS]
def SG (mm:Option (Value × Aa)) (J:Aa) (I:Nf) (v:Value) (m':HM) (b:D4):Prop:=
 ∃ J' a t',mm=some (v,J')/\Sn J' a m' m' t' b b/\Mv I.fl a.fl J J'/\a.sb=I.sb
theorem j7 (k:Nat) (S:Sn J I m mr t r rq) {n:Nat} (j:n<100):Bz (k+1) (ID I) (n:Int) J=some (qIi (ZG mr n),J):=by
 have a:=S.g.Abj;have h:=S.g.ol;rw[Ve];simp only[show ((n:Int) == -77)=false from by rw[Ach]; omega,By,Aaj (show ¬ (n:Int)>=1000 by omega),Aaj (show ¬ (n:Int)<0 by omega),Aaj (show ¬ (n:Int)>=100 by omega),AI,IN,S.UL,S.g.at_.Fa];unfold ZG;by_cases h0:FA mr=[]
 ·have:t.ob.length=0:=by rw[a,h0]; rfl
  rw[Aay h0,this];rfl
 ·rw[Aaz h0];have hp:0<t.ob.length:=by rw[a]; exact Ae1.2 h0
  rw[show (((t.ob.length:Nat):Int) == 0)=false from by rw[Ach]; omega];have c:n % t.ob.length<t.ob.length:=Aev _ hp;obtain ⟨y,f,i,hs,e⟩:=S.g.drop c;obtain ⟨b,g,_,L⟩:=S.g.at_.obj c;have L:=L (by rw[S.g.at_.ol]; exact c);have d:t.ob[n % t.ob.length].addr=((2*y:Nat):Int):=by
   rw[Aau c] at e;rw[Aej e]; rfl
  simp only[By,S.UL,S.g.at_.Fa,AI];rw[Aaz (by omega),Kx,Aay (by omega)];simp only[g,AI,IT,IN,Aa0,L.l0,d];rw[<- a,OH _ (by rw[<- a]; exact c)];have:(FA mr)[n % t.ob.length]'(by rw[<- a]; exact c)=y:=by
   rw[Aau (by rw[<- a]; exact c)] at f;exact Aej f
  rw[this]
theorem jz {n:Nat} (a:MK mr):AQ (ZG mr n)/\0<=ZG mr n:=by
 have b:=a.nt;rcases uu mr n with h | h
 ·rw[h]; exact ⟨by unfold AQ; omega,Afp _⟩
 ·obtain ⟨j,e,hs⟩:=AY h;have:=hs.1;rw[e]; exact ⟨by unfold AQ; omega,by omega⟩
theorem wS (k:Nat) (n:5000<=k) (S:Sn J I m m t r r) (a x v:Int) (f:AQ a) (g:AQ v):SG (HD (k+8) (ID I) a x v J) J I (.bool true) (BU m a x v).2 r:=by
 have c:=S.mo.setRef a x v;have b:Fk (Ga (k+7) (Bj I.j) a x v J) J I.j _ _:=oA (k+3) (by omega) S.g S.P a x v;obtain ⟨J1_,j',t',b,S1,i,d⟩:=S.js b c;obtain ⟨J2_,e,S2,j,l⟩:=S1.hs (Tq k S1.h S.mo.inv a x v f g) c;refine ⟨J2_,_,t', ?_,S2,i.trans j,rfl⟩;rw[SM];have h:B9 J1_ I.sb 0=some (AU I.i):=S1.H7;simp only[AI,IN,Aa0,S.UL,b,Ah,PS d,h,e,Ad1]
theorem qR (k:Nat) (l:5000<=k) (S:Sn J I m m t r r) (a:Int) (f:AQ a):∃ J1_ J2_ j' t',FI (k+12) (Bj I.j) a J=some (qIi (Hw m a).1,J1_)/\J1_[I.sb]?=J[I.sb]?/\B9 J1_ I.sb 0=some (AU I.i)/\Fq (k+12) (AU I.i) a J1_=some (qIi (Hw m a).1,J2_)/\Sn J2_ { I with j:=j' } (Hw m a).2 (Hw m a).2 t' r r/\Mv I.fl ({ I with j:=j' }:Nf).fl J J2_:=by
 have c:=S.mo.kill a;have b:Fk (FI (k+12) (Bj I.j) a J) J I.j _ _:=vy (k+8) (by omega) S.g S.P S.mo.sh a;obtain ⟨J1_,j',t',b,S1,g,d⟩:=S.js b c;obtain ⟨J2_,e,S2,h,i⟩:=S1.hs (fq k S1.h S.mo.inv a f) c;exact ⟨J1_,J2_,j',t',b,d,S1.H7,e,S2,g.trans h⟩
theorem tV (k:Nat) (l:5000<=k) (S:Sn J I m m t r r) (a:Int) (f:AQ a):∃ J1_ J2_ j' t',Gx (k+12) (Bj I.j) a J=some (qIi (MM m a 1).1,J1_)/\J1_[I.sb]?=J[I.sb]?/\B9 J1_ I.sb 0=some (AU I.i)/\HX (k+12) (AU I.i) a J1_=some (qIi (MM m a 1).1,J2_)/\Sn J2_ { I with j:=j' } (MM m a 1).2 (MM m a 1).2 t' r r/\Mv I.fl ({ I with j:=j' }:Nf).fl J J2_:=by
 have c:=S.mo.W2 a 1;have b:Fk (Gx (k+12) (Bj I.j) a J) J I.j _ _:=xX (k+7) (by omega) S.g S.P S.mo.sh a;obtain ⟨J1_,j',t',b,S1,g,d⟩:=S.js b c;obtain ⟨J2_,e,S2,h,i⟩:=S1.hs (tW (k+1) S1.h a f) c;exact ⟨J1_,J2_,j',t',b,d,S1.H7,e,S2,g.trans h⟩
def HN (a n:Nat):Int × Nat × Nat:=if n % 40<24 then (0,n % 40 % a,n % 40/4) else if n % 40<36 then (1,0,n % 40-24) else (2,0,n % 40-36)
theorem uh (k:Nat) (S:Sn J I m mr t r rq) {n:Nat} (o:n<1000000):∃ τ,CE (k+3) (ID I) (n:Int) J=some (.agg #[qIi (HN rq.mu n).1,qIi ((HN rq.mu n).2.1:Int),qIi ((HN rq.mu n).2.2:Int)],J++τ):=by
 have i:=S.rq.ok.m1;have j:=S.rq.ok.m4;have S1:=S.app [Au.cells [qIi 0,qIi 0,qIi 0] Am true];have c:Du (k+2) (GS I.q) (J++[Au.cells [qIi 0,qIi 0,qIi 0] Am true])=_:=Xz k S1.rq;have l:(if (0:Int)>(n:Int) then (0:Int) else (n:Int))=(n:Int):=Aaz (by omega);have b:(n:Int).tmod 40=((n % 40:Nat):Int):=Kx n 40;have d:∀ x y z:Value,Nm (J++[Au.cells [x,y,z] Am true]) J.length 0 3=some [x,y,z]:=fun x y z=>by simp[Nm]
 rw[MD];simp only[Ae,l,b,show ((40:Int)=0)=False from by simp,Aa5];unfold HN;by_cases e:n % 40<24
 ·rw[Aay e,Aak (show ((n % 40:Nat):Int)<24 by omega)];have g:((n % 40:Nat):Int).tmod (rq.mu:Int)=((n % 40 % rq.mu:Nat):Int):=Kx _ _;have h:((n % 40:Nat):Int).tdiv 4=((n % 40/4:Nat):Int):=ZA _ 4;have a:Ar ((n % 40/4:Nat):Int)=((n % 40/4:Nat):Int):=Ai (by unfold AQ; omega);refine ⟨[Au.cells [qIi 0,qIi ((n % 40 % rq.mu:Nat):Int),qIi ((n % 40/4:Nat):Int)] Am true], ?_⟩;simp only[IS,AI,IN,S1.cH,c,Ah];rw[Aaz (by omega),Aaz (by decide)];simp only[g,h,a,EA,AI,d];rfl
 ·rw[Aaz e,Aaj (show ¬ ((n % 40:Nat):Int)<24 by omega)];by_cases f:n % 40<36
  ·rw[Aay f,Aak (show ((n % 40:Nat):Int)<36 by omega)];have a:Ar (((n % 40:Nat):Int)-24)=((n % 40-24:Nat):Int):=by rw[Ai (by unfold AQ; omega)]; omega
   refine ⟨[Au.cells [qIi 1,qIi 0,qIi ((n % 40-24:Nat):Int)] Am true], ?_⟩;simp only[IS,By,a,EA,AI,d];rfl
  ·rw[Aaz f,Aaj (show ¬ ((n % 40:Nat):Int)<36 by omega)];have a:Ar (((n % 40:Nat):Int)-36)=((n % 40-36:Nat):Int):=by rw[Ai (by unfold AQ; omega)]; omega
   refine ⟨[Au.cells [qIi 2,qIi 0,qIi ((n % 40-36:Nat):Int)] Am true], ?_⟩;simp only[By,a,EA,AI,d];rfl
def oH (r:D4) (n:Nat) (a:Int):D4:=if (HN r.mu n).1=2/\r.qu.length<=(HN r.mu n).2.2 then (Pm r a).2 else (Om r (HN r.mu n).1 (HN r.mu n).2.1 (HN r.mu n).2.2 a).2
theorem vN {r:D4} {n:Nat} {a v:Int} (h:v ∈ (oH r n a).all):v=a\/v ∈ r.all:=by
 unfold oH at h;split at h
 ·exact o8 h
 ·exact th h
theorem mK (r:D4) (h:r.ok) (n:Nat) (a:¬ ((HN r.mu n).1=2/\r.qu.length<=(HN r.mu n).2.2)):Oq r (HN r.mu n).1 (HN r.mu n).2.1 (HN r.mu n).2.2:=by
 have e:=h.m1;unfold HN at a ⊢;unfold Oq;split
 ·rename_i b;refine .inl ⟨rfl,Aev _ (by omega),by dsimp only; omega⟩
 ·rename_i b;rw[Aaz b] at a;split
  ·rename_i c;exact .inr (.inl ⟨rfl,rfl,by dsimp only; omega⟩)
  ·rename_i c;rw[Aaz c] at a;refine .inr (.inr ⟨rfl,rfl, ?_⟩);dsimp only at a ⊢;exact Nat.lt_of_not_le fun d=>a ⟨rfl,d⟩
theorem zo (k:Nat) (S:Sn J I m m t r r) {n:Nat} (hn:n<1000000) (a:Int) (w:AQ a):SG (Iq (k+5) (ID I) (n:Int) a J) J I (.bool true) m (oH r n a):=by
 obtain ⟨τ,eW⟩:=uh (k+1) S hn;have i:CE (k+4) (ID I) (n:Int) J=_:=eW;have Q:=S.rt.ok;have j:=mK r Q n;unfold oH;generalize HN r.mu n=W at i j;obtain ⟨c,mt,d⟩:=W;dsimp only at i j ⊢;obtain ⟨B,hB⟩:∃ B,Au.cells [qIi c,qIi (mt:Int),qIi (d:Int)] Am true=B:=⟨_,rfl⟩;have S1:=(S.app τ).app [B];have m1:Mv I.fl I.fl J (J++τ++[B]):=(Mv.app _ _ _).trans (Mv.app _ _ _);have bl:∀ C,Aj .i64 (J++τ++[B]++C) (J++τ).length 0=some c/\Aj .i64 (J++τ++[B]++C) (J++τ).length 1=some (mt:Int)/\Aj .i64 (J++τ++[B]++C) (J++τ).length 2=some (d:Int):=fun C=>by
  rw[<- hB];exact ⟨by rw[GB]; rfl,by rw[GB]; rfl,by rw[GB]; rfl⟩
 obtain ⟨x0,x1,x2⟩:=bl [];rw[Ab1] at x0 x1 x2;obtain ⟨sq,D,eQ,T⟩:=sR (k+2) S1.rq;have H:EF (k+4) (GS I.q) (J++τ++[B])=_:=eQ;have u:(J++τ++[B])[(J++τ).length]?=some B:=by simp
 have kq:∀ {ρ:Type} (x:Option ρ),HH (some ⟨(J++τ).length,0,none⟩) (J++τ++[B]) (J++τ++[B]++D) x=x:=fun x=>PS (by rw[AT (Af u)]) x;obtain ⟨Z,hμ,b,m2,A,y1,y2,v⟩:∃ Z,True/\Sn Z I m m t r r/\Mv I.fl I.fl J Z/\Aj .i64 Z (J++τ).length 0=some c/\Aj .i64 Z (J++τ).length 1=some (mt:Int)/\Aj .i64 Z (J++τ).length 2=some (d:Int)/\((bif c == (2:Int) then (Aj .i64 (J++τ++[B]) (J++τ).length 2).bind fun n9=>(B9 (J++τ++[B]) I.sb 3).bind fun aa=>(EF (k+4) aa (J++τ++[B])).bind fun s=>(Eo s.1).bind fun V=>HH (some ⟨(J++τ).length,0,none⟩) (J++τ++[B]) s.2 (some (decide (n9>=((V.2.1:Nat):Int)),s.2)) else some (false,J++τ++[B])):Option (Bool × Aa))=some (decide (c=2/\r.qu.length<=d),Z):=by
  by_cases z:c=2
  ·obtain ⟨z0,z1,z2⟩:=bl D;refine ⟨J++τ++[B]++D,trivial,S1.app D,m1.trans (Mv.app _ _ _),z0,z1,z2, ?_⟩;rw[show (c == 2)=true from Aei.2 z];simp only[IS,x2,AI,S1.cH,H,Eo,kq,T];congr 2;by_cases q3:r.qu.length<=d
   ·rw[Aak (show (d:Int)>=((r.qu.length:Nat):Int) by omega),Aak ⟨z,q3⟩]
   ·rw[Aaj (show ¬ (d:Int)>=((r.qu.length:Nat):Int) by omega),Aaj (fun P=>q3 P.2)]
  ·refine ⟨J++τ++[B],trivial,S1,m1,x0,x1,x2, ?_⟩;rw[show (c == 2)=false from Ach.2 z,Aaj (fun P=>z P.1)];rfl
 have N:(J++τ).length<Z.length /\ ∃ o,Z[(J++τ).length]?=some o:=by
  simp only[Aj,CW] at A;cases e:Z[(J++τ).length]? with
  | none=>rw[e] at A; cases A
  | some o=>exact ⟨Af e,o,rfl⟩
 have O:∀ L ∈ I.Ls,(J++τ).length ∉ L:=fun L hL hm=>by
  have:=(S.app τ).fp.lt L hL _ hm;omega
 rw[TF];simp only[i,AI,HA,Ae,EA,hB,IN,Nat.reduceAdd,x0,v];by_cases q:c=2/\r.qu.length<=d
 ·rw[Aay q,Aak q];obtain ⟨J3_,q',F,K,y,b3⟩:=wX (k+2) b.rq a w;have g:G0 (k+4) (GS I.q) a Z=_:=F;obtain ⟨S3,l,E⟩:=b.qs K y b3;obtain ⟨f,p',G,M,Y,b4⟩:=wY (k+2) S3.rt a w;have h:G5 (k+4) (F8 I.p) a J3_=_:=G;obtain ⟨S4,p,c4⟩:=S3.ps M Y b4;have U:B9 J3_ I.sb 1=some (F8 I.p):=S3.Fa;refine ⟨f,_,t, ?_,S4,(m2.trans l).trans p,rfl⟩;simp only[IS,b.cH,AI,g,Ah,PS E,U,h,Ad1]
 ·rw[Aaz q,Aaj q];have hp:=j q;obtain ⟨J3_,F,K,y⟩:=ua (k+2) b.rq hp a w;have g:EK (k+4) (GS I.q) c (mt:Int) (d:Int) a Z=_:=F;obtain ⟨S3,l,E⟩:=b.qs K y rfl;obtain ⟨f,G,M,Y⟩:=mW k S3.rt hp a w;have h:Bc (k+4) (F8 I.p) c (mt:Int) (d:Int) a J3_=_:=G;obtain ⟨S4,p,c4⟩:=S3.ps M Y rfl;have U:B9 J3_ I.sb 1=some (F8 I.p):=S3.Fa;have cb:J3_[(J++τ).length]?=Z[(J++τ).length]?:=y.same _ N.1 (O I.q.l (by simp[Nf.Ls]));have X:∀ o,Aj .i64 J3_ (J++τ).length o=Aj .i64 Z (J++τ).length o:=fun o=>by simp only[Aj,CW,cb]
  refine ⟨f,_,t, ?_,S4,(m2.trans l).trans p,rfl⟩;simp only[By,b.cH,AI,A,y1,y2,g,Ah,PS E,PS cb,U,X,h,Ad1]
end
section
variable {J:Aa} {m mr:HM} {t:RM} {r rq:D4} {I:Nf}
theorem kh {b:Nat} {c x y e f:Int} (h:(BF m (b:Int) c x y e f).1=0):Ce m (b:Int)=0/\b<m.bls.length/\1<=b:=by
 unfold BF at h;split at h
 ·rename_i d;split at h
  ·rename_i hu;rw[IT] at hu;obtain ⟨g,a,i,j,_⟩:=d;have:=WL hu 0 (Aa1 _) (by omega);rw[Aa0] at this;refine ⟨?_,by omega,by omega⟩;unfold Ce;rw[Aay ⟨by omega,a⟩,IT,this]
  ·cases h
 ·cases h
inductive aE (m:HM) (rr d c sp:Int):(Int × Bool) × HM->Prop where
 | none (a:Int):aE m rr d c sp ((a,false),m)
 | gap (a:Nat) (h:Ce m ((a/64:Nat):Int)=1) (hl:a<64*m.bls.length):aE m rr d c sp (((a:Int),true),m)
 | bH (b:Nat) (m1:HM) (h0:Ce m (b:Int)=0) (hb:b<m.bls.length) (hb1:1<=b) (hM:MK m->MK m1) (hb2:m1.births=m.births)
   (hw:m1.wds=m.wds/\m1.stw=m.stw/\m1.bls.length=m.bls.length)
   (hc:if words rr d c>32 then BF m (b:Int) (Ok rr d c:Int) 2 sp 3 sp=(0,m1) else BF m (b:Int) 1 1 sp 0 0=(0,m1)):aE m rr d c sp ((((64*b:Nat):Int),true),m1)
theorem Su (l:Inv m) (g:Inv2 m) {rr d c sp:Int} {b:Nat} {n x y a e:Int} (p:x≠0) (h:a≠0\/n=1) (f:if words rr d c>32 then BF m (b:Int) (Ok rr d c:Int) 2 sp 3 sp=BF m (b:Int) n x y a e else BF m (b:Int) 1 1 sp 0 0=BF m (b:Int) n x y a e):
  aE m rr d c sp ((((64*b:Nat):Int),((BF m (b:Int) n x y a e).1 == 0)),(BF m (b:Int) n x y a e).2):=by
 have k:=Zp l g (b:Int) n x y a e;obtain ⟨r,s,t,u⟩:=OJ m (b:Int) n x y a e;by_cases h0:(BF m (b:Int) n x y a e).1=0
 ·obtain ⟨h1,i,j⟩:=kh h0;rw[h0];refine .bH b _ h1 i j (fun o=>o.bH _ _ _ _ _ _ p h) u ⟨r,s,t⟩ ?_;split
  ·rename_i q;rw[Aay q] at f;rw[f,<- h0]
  ·rename_i q;rw[Aaz q] at f;rw[f,<- h0]
 ·rw[k.err h0,show ((BF m (b:Int) n x y a e).1 == 0)=false from Ach.2 h0];exact .none _
theorem kC (e:MK m) (rr d c sp:Int):aE m rr d c sp (firstM m rr d c sp):=by
 have i:=e.nb;unfold firstM;by_cases q:words rr d c>32
 ·rw[Aay q];cases g:nM m (Ok rr d c) m.bls.length 1 with
  | none=>exact .none 0
  | some b=>exact Su e.inv e.inv2 (by decide) (.inl (by decide)) (by rw[Aay q])
 ·rw[Aaz q];cases h:rX m (words rr d c) sp (m.bls.length-1) 1 with
  | some a=>
    obtain ⟨h1,f⟩:=cr h (by omega);exact .gap a h1 f
  | none=>
    cases g:nM m 1 m.bls.length 1 with
    | none=>exact .none 0
    | some b=>exact Su e.inv e.inv2 (by decide) (.inr rfl) (by rw[Aaz q])
def W3 (m:HM) (rr d c sp:Int):HM:=if (firstM m rr d c sp).1.2 then (CX (firstM m rr d c sp).2 (firstM m rr d c sp).1.1 rr d c).2.2 else (firstM m rr d c sp).2
theorem VH (m:HM) (a r d c:Int):(CX m a r d c).2.2.births<=m.births+1:=by
 unfold CX;split
 ·split
  ·exact Afp _
  ·dsimp only; omega
 ·dsimp only; omega
theorem sM (e:MK m) (g:NU m) (rr d c sp:Int):MK (W3 m rr d c sp)/\NU (W3 m rr d c sp)/\(W3 m rr d c sp).births<=m.births+1/\(W3 m rr d c sp).bls.length=m.bls.length:=by
 unfold W3;have h:=kC e rr d c sp;generalize firstM m rr d c sp=F at h;cases h with
 | none a=>exact ⟨e,g,by simp only[Ab8,Aa5]; omega,rfl⟩
 | gap a h1 n=>exact ⟨e.place _ _ _ _,g.place e.inv e.inv2 e.sh _ _ _ _,VH _ _ _ _ _,by simp only[Aat]; rw[(PX _ _ _ _ _).1]⟩
 | bH b j h0 hb k f l hw o=>
   have h1:=f e;have i:NU j:=g.Ax hw.2.2 hw.2.1 hw.1;exact ⟨h1.place _ _ _ _,i.place h1.inv h1.inv2 h1.sh _ _ _ _,by have:=VH j ((64*b:Nat):Int) rr d c; simp only[Aat]; omega,by simp only[Aat]; rw[(PX _ _ _ _ _).1]; exact hw.2.2⟩
theorem tX (k:Nat) (hk:5000<=k) (S:Sn J I m m t r r) (hb:m.births<900000) (rr d c sp:Int) (aw:0<=sp/\sp<3):SG (Hi (k+13) (ID I) rr d c sp J) J I (.bool true) (W3 m rr d c sp) r:=by
 obtain ⟨n1,n2,n3⟩:=qg rr d c;obtain ⟨B,hB⟩:∃ B,Au.cells [qIi rr,qIi d,qIi c] Ad true=B:=⟨_,rfl⟩;have K:=kC S.mo rr d c sp;have S1:=S.app [B];have m1:=Mv.app I.fl J [B];have l:(J++[B])[J.length]?=some B:=by simp
 have g:∀ (I':Nf) (Z:Aa),Mv I.fl I'.fl (J++[B]) Z->Z[J.length]?=some B:=fun I' Z hm=>hm.IY l fun ad=>by
  obtain ⟨L,hL,hq⟩:=Adw.1 ad;have:=S.fp.lt L hL _ hq;omega
 have p:∀ Z:Aa,Z[J.length]?=some B->Aj .i64 Z J.length 0=some rr/\Aj .i64 Z J.length 1=some d/\Aj .i64 Z J.length 2=some c:=fun Z hμ=>by
  rw[<- hB] at hμ;exact Kr hμ
 obtain ⟨x0,x1,x2⟩:=p _ l;obtain ⟨F,hF⟩:∃ F,firstM m rr d c sp=F:=⟨_,rfl⟩;have P:Fk (Kg (k+12) (Bj I.j) rr d c sp (J++[B])) (J++[B]) I.j _ _:=tI (k+6) (by omega) S1.g S1.P S.mo.fz rr d c sp;unfold W3;rw[hF] at K P ⊢;rw[RB];simp only[Ae,hB,IN,Nat.reduceAdd,S1.UL,x0,x1,x2,AI];cases K with
 | none a=>
   obtain ⟨J2_,n,t2,A,S2,o,b2⟩:=S1.js P S.mo;refine ⟨J2_,_,t2, ?_,S2,m1.trans o,rfl⟩;simp only[A,AI,Si,Adi,IS]
 | gap a h1 h2=>
   have ae:=S.mo.nt;obtain ⟨J2_,n,t2,A,S2,o,b2⟩:=S1.js P S.mo;have ed:(a:Int).tdiv 64=((a/64:Nat):Int):=ZA a 64;have w1:Ar ((a/64:Nat):Int)=((a/64:Nat):Int):=Ai (by unfold AQ; omega);have eS:Bn (k+12) (AU I.i) ((a/64:Nat):Int) J2_=_:=ak (k+9) S2.h _;have u:=g _ _ o;obtain ⟨y0,y1,y2⟩:=p _ u;have eP:=gM (k+7) (by omega) S2.g S2.P S.mo.sh (show m.births<1000000 by omega) (a:Int) rr d c;have h:=S.mo.place (a:Int) rr d c;obtain ⟨J3_,j3,t3,e3,S3,z,b3⟩:=S2.js eP h;have v:=g _ _ (o.trans z);obtain ⟨z0,z1,z2⟩:=p _ v;obtain ⟨T,e4,S4,m4,b4⟩:=S3.hs (aT k hk S3.h S.mo.inv (show m.births<1000000 by omega) (a:Int) rr d c (by unfold AQ; omega)) h;have w:B9 J2_ I.sb 0=some (AU I.i):=S2.H7;have af:B9 J2_ I.sb 2=some (Bj n):=S2.UL;have i:B9 J3_ I.sb 0=some (AU I.i):=S3.H7;have W:Ff (k+12) (Bj n) (a:Int) rr d c J2_=_:=e3;refine ⟨T,_,t3, ?_,S4,((m1.trans o).trans z).trans m4,rfl⟩;simp only[A,AI,Si,Aa4,By,show ((64:Int)=0)=False from by simp,Aa5,w,ed,w1,eS,Ah,h1,show ((1:Int) == 0)=false from rfl,Aat,af,y0,y1,y2,W,B6,i,z0,z1,z2,e4,Ad1,IS]
 | bH b x h0 hb av ab E hw Q=>
   have ae:=S.mo.nt;have f:=ab S.mo;obtain ⟨J2_,n,t2,A,S2,o,b2⟩:=S1.js P f;have ed:((64*b:Nat):Int).tdiv 64=(b:Int):=by rw[show ((64:Int))=((64:Nat):Int) from rfl,ZA]; congr 1; omega
   have w1:Ar (b:Int)=(b:Int):=Ai (by unfold AQ; omega);have eS:Bn (k+12) (AU I.i) (b:Int) J2_=_:=ak (k+9) S2.h _;have u:=g _ _ o;obtain ⟨y0,y1,y2⟩:=p _ u;obtain ⟨e,eL⟩:=YC (k+9) rr d c J2_;have aa:ET (k+12) rr d c J2_=_:=eL;have S3:=S2.app e;have z:=o.trans (Mv.app _ _ e);have v:=g _ _ z;obtain ⟨z0,z1,z2⟩:=p _ v;have w:B9 J2_ I.sb 0=some (AU I.i):=S2.H7;have i:B9 (J2_++e) I.sb 0=some (AU I.i):=S3.H7;obtain ⟨J5_,S5,y,ec⟩:∃ J5_,Sn J5_ { I with j:=n } x x t2 r r/\Mv I.fl ({ I with j:=n }:Nf).fl (J++[B]) J5_ /\
     ((bif decide (words rr d c>32) then (B9 (J2_++e) I.sb 0).bind fun ar=>(Aj .i64 (J2_++e) J.length 0).bind fun ai=>(Aj .i64 (J2_++e) J.length 1).bind fun aj=>(Aj .i64 (J2_++e) J.length 2).bind fun am=>(EX (k+12) ai aj am (J2_++e)).bind fun M=>(Bk .i64 M.1).bind fun an=>(Ci (k+12) ar (b:Int) an sp M.2).bind fun N=>(Bk .i64 N.1).bind fun ap=>some (.normal,[qIi ap],N.2) else (B9 (J2_++e) I.sb 0).bind fun au=>(DK (k+12) au (b:Int) sp (J2_++e)).bind fun O=>(Bk .i64 O.1).bind fun aq=>some (.normal,[qIi aq],O.2)):Option Bq)=some (.normal,[qIi 0],J5_):=by
    by_cases q:words rr d c>32
    ·rw[Aay q] at Q;obtain ⟨τ4,eN⟩:=db (k+9) rr d c (J2_++e);have C:EX (k+12) rr d c (J2_++e)=_:=eN;rw[n1] at C;have S4:=S3.app τ4;have D:=Sp (k+5) (by omega) S4.h (b:Int) (Ok rr d c:Int) sp (by unfold AQ; omega) (by unfold AQ; omega);rw[Q] at D;obtain ⟨J5_,X,S5,y,_⟩:=S4.hs D f;have s:Ci (k+12) (AU I.i) (b:Int) (Ok rr d c:Int) sp (J2_++e++τ4)=_:=X;refine ⟨J5_,S5,(z.trans (Mv.app _ _ τ4)).trans y, ?_⟩;rw[Aak q];simp only[IS,i,z0,z1,z2,AI,C,Ah,s]
    ·rw[Aaz q] at Q;have D:=aC (k+5) (by omega) S3.h (b:Int) sp (by unfold AQ; omega);rw[Q] at D;obtain ⟨J5_,X,S5,y,_⟩:=S3.hs D f;have s:DK (k+12) (AU I.i) (b:Int) sp (J2_++e)=_:=X;refine ⟨J5_,S5,z.trans y, ?_⟩;rw[Aaj q];simp only[By,i,AI,s,Ah]
   have ac:=g _ _ y;obtain ⟨u0,u1,u2⟩:=p _ ac;have G:x.births<1000000:=by rw[E]; omega
   have eP:=gM (k+7) (by omega) S5.g S5.P f.sh G ((64*b:Nat):Int) rr d c;have h:=f.place ((64*b:Nat):Int) rr d c;obtain ⟨U,j6,t6,e6,S6,m6,b6⟩:=S5.js eP h;have H:=g _ _ (y.trans m6);obtain ⟨v0,v1,v2⟩:=p _ H;obtain ⟨V,e7,S7,m7,b7⟩:=S6.hs (aT k hk S6.h f.inv G ((64*b:Nat):Int) rr d c (by unfold AQ; omega)) h;have ag:B9 J5_ I.sb 2=some (Bj n):=S5.UL;have ah:B9 U I.sb 0=some (AU I.i):=S6.H7;have Y:Ff (k+12) (Bj n) ((64*b:Nat):Int) rr d c J5_=_:=e6;refine ⟨V,_,t6, ?_,S7,((m1.trans y).trans m6).trans m7,rfl⟩;simp only[A,AI,Si,Aa4,By,show ((64:Int)=0)=False from by simp,Aa5,w,ed,w1,eS,Ah,h0,show ((0:Int) == 0)=true from rfl,IS,y0,y1,y2,aa,An,ec,Aat,Em,Abx,ag,u0,u1,u2,Y,B6,ah,v0,v1,v2,e7,Ad1]
end
section
variable {J:Aa} {m mr:HM} {t:RM} {r rq:D4} {I:Nf}
def LS (x0 x1 x2:Int):Int × Int × Int:=
 if x0.tmod 8=4 then (1+(x1.tmod 5).tmod 3,x2.tmod 6,1)
 else if x0.tmod 8=5 then (2+(x1.tmod 5).tmod 3,x2.tmod 6,2)
 else if x0.tmod 8=6 then (x1.tmod 5,x2.tmod 6,3)
 else if x0.tmod 8=7 then (x1.tmod 5,32+x2.tmod 100,0)
 else (x1.tmod 5,x2.tmod 6,0)
theorem dI (Z:Aa) (cs:List Value) (T:TypeId) (o:Nat) (v:Value) (h:o<cs.length):CY (Z++[.cells cs T true]) Z.length o v=some (Z++[.cells (cs.set o v) T true]):=by
 simp only[CY,Ab5];rw[Aay h,Afb _ _ (Aa1 _)];simp
theorem yg (Z:Aa) (a b c x y z:Value) (T:TypeId) (o:Au):H5 (Z++[.cells [a,b,c] T true]++[o]) Z.length 0 [x,y,z]=some (Z++[.cells [x,y,z] T true]++[o]):=by
 have:(Z++[Au.cells [a,b,c] T true]++[o])[Z.length]?=some (.cells [a,b,c] T true):=by
  rw[AT (by simp)]; simp
 simp only[H5,this];rw[Aay (by simp)];simp only[Bb,Aaq,Ag7];rw[Afb _ _ (Aa1 _)];simp
theorem uU (J τ:Aa) (vs:List Value) (T:TypeId) (o:Nat) (v:Int) (h:vs[o]?=some (.int .u8 v)):Aj .u8 (J++[.cells vs T true]++τ) J.length o=some v:=by
 rw[GB,h]; rfl
theorem jN (k:Nat) {x0 x1 x2 x3:Int} (h0:0<=x0/\x0<256) (h1:0<=x1/\x1<256) (h2:0<=x2/\x2<256) (J:Aa):∃ τ,GI (k+1) x0 x1 x2 x3 J=some (.agg #[qIi (LS x0 x1 x2).1,qIi (LS x0 x1 x2).2.1,qIi (LS x0 x1 x2).2.2],J++τ):=by
 obtain ⟨A,s⟩:∃ A,Au.cells [.int .u8 x0,.int .u8 x1,.int .u8 x2,.int .u8 x3] fF true=A:=⟨_,rfl⟩;have m:∀ τ o v,([Value.int .u8 x0,.int .u8 x1,.int .u8 x2,.int .u8 x3]:List Value)[o]?=some (.int .u8 v)->Aj .u8 (J++[A]++τ) J.length o=some v:=fun τ o v h=>by rw[<- s]; exact uU _ _ _ _ _ _ h
 have L:Ar x1=x1:=Ai (by unfold AQ; omega);have x:Ar x2=x2:=Ai (by unfold AQ; omega);rw[XZ];simp only[Ae,s];rw[Aay (by decide)];have z:Aj .u8 (J++[A]++[Au.cells [qIi 0,qIi 0,qIi 0] Ad true]) J.length (0+(1:Int).toNat*1)=some x1:=m _ 1 x1 rfl;have B:Aj .u8 (J++[A]++[Au.cells [qIi 0,qIi 0,qIi 0] Ad true]) J.length (0+(2:Int).toNat*1)=some x2:=m _ 2 x2 rfl;simp only[z,B,AI,L,x,show ((5:Int)=0)=False from by simp,show ((6:Int)=0)=False from by simp,Aa5];rw[Aay (by decide)];obtain ⟨Z,l⟩:∃ Z,J++[A]++[Au.cells [qIi 0,qIi 0,qIi 0] Ad true]=Z:=⟨_,rfl⟩;rw[l,EA];simp only[AI];rw[Aay (by decide)];have y:∀ o,Aj .u8 (Z++[o]) J.length (0+(0:Int).toNat*1)=some x0:=fun o=>by
  rw[<- l,Aaq]; exact m _ 0 x0 rfl
 have n:∀ o,Aj .u8 (Z++[o]) J.length (0+(2:Int).toNat*1)=some x2:=fun o=>by
  rw[<- l,Aaq]; exact m _ 2 x2 rfl
 simp only[y,AI,show ((8:Int)=0)=False from by simp,Aa5];have fin:∀ (a b c:Int),∃ τ,((H5 (Z++[Au.cells [qIi a,qIi b,qIi c] Ad true]) (J++[A]).length 0 [qIi a,qIi b,qIi c]).bind fun d=>(((Nm d (J++[A]).length 0 3).bind fun q=>some (Value.agg q.toArray)).bind fun r=>some [r]).bind fun e=>some (Lh e,d))=some (.agg #[qIi a,qIi b,qIi c],J++τ):=by
  intro a b c;refine ⟨[A,Au.cells [qIi a,qIi b,qIi c] Ad true,Au.cells [qIi a,qIi b,qIi c] Ad true], ?_⟩;have C:Nm (J++[A]++[Au.cells [qIi a,qIi b,qIi c] Ad true]++[Au.cells [qIi a,qIi b,qIi c] Ad true]) (J++[A]).length 0 3=some [qIi a,qIi b,qIi c]:=by
   simp only[Nm];rw[AT (by simp),Ab5];rfl
  rw[<- l,yg];simp only[AI,C];rw[show J++[A]++[Au.cells [qIi a,qIi b,qIi c] Ad true]++[Au.cells [qIi a,qIi b,qIi c] Ad true]=J++[A,Au.cells [qIi a,qIi b,qIi c] Ad true,Au.cells [qIi a,qIi b,qIi c] Ad true] from by simp];rfl
 have E:=Agm 5 h1.1;have F:=Aft x1 (show (0:Int)<5 by decide);have G:=Agm 3 E;have w:=Aft (x1.tmod 5) (show (0:Int)<3 by decide);have u:=Agm 100 h2.1;have p:=Aft x2 (show (0:Int)<100 by decide);have H:Ar (1+(x1.tmod 5).tmod 3)=1+(x1.tmod 5).tmod 3:=Ai (by unfold AQ; omega);have I:Ar (2+(x1.tmod 5).tmod 3)=2+(x1.tmod 5).tmod 3:=Ai (by unfold AQ; omega);have K:Ar (32+x2.tmod 100)=32+x2.tmod 100:=Ai (by unfold AQ; omega);have s1:∀ (a b c v:Int) (o:Nat),o<3->CY (Z++[Au.cells [qIi a,qIi b,qIi c] Ad true]) Z.length o (qIi v)=some (Z++[Au.cells ([qIi a,qIi b,qIi c].set o (qIi v)) Ad true]):=fun a b c v o D=>dI _ _ _ _ _ (by simpa using D);have t:∀ (a b c:Int),Aj .i64 (Z++[Au.cells [qIi a,qIi b,qIi c] Ad true]) Z.length (0+0)=some a:=fun a b c=>by rw[Bv]; rfl
 unfold LS;by_cases f:x0.tmod 8=4
 ·rw[Aay f,show (x0.tmod 8 == 4)=true from Aei.2 f];simp only[IS,t,AI,show ((3:Int)=0)=False from by simp,Aa5,s1 _ _ _ _ (0+2) (by decide),Aex,Afj,IN,s1 _ _ _ _ 0 (by decide),H,Aat];simp only[Bv,IN,Nat.reduceAdd,Aca,Ace,AI,Ah];exact fin _ _ _
 rw[Aaz f,show (x0.tmod 8 == 4)=false from Ach.2 f];by_cases g:x0.tmod 8=5
 ·rw[Aay g,show (x0.tmod 8 == 5)=true from Aei.2 g];simp only[IS,By,t,AI,show ((3:Int)=0)=False from by simp,Aa5,s1 _ _ _ _ (0+2) (by decide),Aex,Afj,IN,s1 _ _ _ _ 0 (by decide),I,Aat];simp only[Bv,IN,Nat.reduceAdd,Aca,Ace,AI,Ah];exact fin _ _ _
 rw[Aaz g,show (x0.tmod 8 == 5)=false from Ach.2 g];by_cases i:x0.tmod 8=6
 ·rw[Aay i,show (x0.tmod 8 == 6)=true from Aei.2 i];simp only[IS,By,AI,s1 _ _ _ _ (0+2) (by decide),Aex,Afj,Aat];simp only[Bv,IN,Nat.reduceAdd,Aca,Ace,AI,Ah];exact fin _ _ _
 rw[Aaz i,show (x0.tmod 8 == 6)=false from Ach.2 i];by_cases j:x0.tmod 8=7
 ·rw[Aay j,show (x0.tmod 8 == 7)=true from Aei.2 j];rw[Aay (by decide)];simp only[IS,By,n,AI,x,show ((100:Int)=0)=False from by simp,Aa5,s1 _ _ _ _ (0+1) (by decide),Aex,Afj,K,Aat];simp only[Bv,IN,Nat.reduceAdd,Aca,Ace,AI,Ah];exact fin _ _ _
 rw[Aaz j,show (x0.tmod 8 == 7)=false from Ach.2 j];simp only[By,AI,Aat,Bv,IN,Nat.reduceAdd,Aca,Ace,Ah];exact fin _ _ _
structure BL where
 p:qOi
 n:Nat
 c:Nat
 l:List Int
def qM (l:List Int):List Value:=l.map fun v=>.int .u8 v
structure Mo (lo:Nat) (J:Aa) (w:Nat) (b:BL):Prop where
 len:b.l.length=b.n*w
 rng:∀ v ∈ b.l,0<=v/\v<256
 at_:b.n=0 \/ ∃ q T rw,b.p=some ⟨q,0,none⟩/\q<lo/\J[q]?=some (.cells (qM b.l) T rw)
structure Bg where
 bl:Int
 mu:Int
 ob:BL
 de:BL
 li:BL
 pl:BL
 pi:BL
structure qQ (lo:Nat) (J:Aa) (h0:Nat) (B:Bg):Prop where
 cell:J[h0]?=some (.cells [.int .u8 B.bl,.int .u8 B.mu,.slice B.ob.p B.ob.n B.ob.c,.slice B.de.p B.de.n B.de.c,.slice B.li.p B.li.n B.li.c,.slice B.pl.p B.pl.n B.pl.c,.slice B.pi.p B.pi.n B.pi.c] D0 true)
 hl:h0<lo
 b0:0<=B.bl/\B.bl<256
 m0:0<=B.mu/\B.mu<256
 ob:Mo lo J 4 B.ob
 de:Mo lo J 1 B.de
 li:Mo lo J 3 B.li
 pl:Mo lo J 2 B.pl
 pi:Mo lo J 1 B.pi
variable {lo h0:Nat} {B:Bg}
theorem Mo.DR {J':Aa} {w:Nat} {b:BL} (h:Mo lo J w b) (f:∀ q,q<lo->J'[q]?=J[q]?):Mo lo J' w b:=by
 refine ⟨h.len,h.rng,h.at_.imp id fun ⟨q,T,a,e,c,d⟩=>⟨q,T,a,e,c,(f q c).trans d⟩⟩
theorem qQ.DR {J':Aa} (h:qQ lo J h0 B) (a:∀ q,q<lo->J'[q]?=J[q]?):qQ lo J' h0 B:=
 ⟨(a _ h.hl).trans h.cell,h.hl,h.b0,h.m0,h.ob.DR a,h.de.DR a,h.li.DR a,h.pl.DR a,h.pi.DR a⟩
def BL.at (b:BL) (y:Nat):Int:=b.l.getD y 0
theorem Mo.rg {w:Nat} {b:BL} (h:Mo lo J w b) (y:Nat):0<=b.at y/\b.at y<256:=by
 unfold BL.at;rw[Aax];by_cases a:y<b.l.length
 ·rw[Aau a]; exact h.rng _ (Adb a)
 ·rw[Adr (by omega)]; exact ⟨Afp _,by decide⟩
theorem Mo.ld {w:Nat} {b:BL} (h:Mo lo J w b) {x:Nat} (j:x<b.n):∃ q,b.p=some ⟨q,0,none⟩/\q<lo /\ ∀ (Z:Aa),Z[q]?=J[q]? -> ∀ o,o<w->Aj .u8 Z q (x*w+o)=some (b.at (x*w+o)):=by
 rcases h.at_ with h0 | ⟨q,T,g,e,d,c⟩
 ·omega
 ·refine ⟨q,e,d,fun Z f o i=>?_⟩;have a:x*w+o<b.l.length:=by
   rw[h.len];have:(x+1)*w<=b.n*w:=Aer _ (by omega);rw[Af6] at this; omega
  unfold BL.at;simp only[Aj,CW,f,c,qM,Aeg,Aau a,Af3,AI,Aax,Afs,Ah]
theorem qQ.Be (h:qQ lo J h0 B):AX.Be J h0 2=some (B.ob.p,B.ob.n,B.ob.c)/\AX.Be J h0 3=some (B.de.p,B.de.n,B.de.c)/\AX.Be J h0 4=some (B.li.p,B.li.n,B.li.c)/\AX.Be J h0 5=some (B.pl.p,B.pl.n,B.pl.c)/\AX.Be J h0 6=some (B.pi.p,B.pi.n,B.pi.c):=by
 simp[AX.Be,CW,h.cell,Eo]
structure Mk (lo:Nat) (Z:Aa) (I:Nf) (m:HM) (t:RM) (r:D4) (sb h0:Nat) (B:Bg):Prop where
 s:Sn Z I m m t r r
 sb:I.sb=sb
 b:qQ lo Z h0 B
 new:∀ q ∈ I.fl,lo<=q
 ll:lo<=Z.length
theorem Mk.low {Z b:Aa} {I d:Nf} {t:RM} {r:D4} {e:Nat} (M:Mk lo Z I m t r e h0 B) (hm:Mv I.fl d.fl Z b):∀ q,q<lo->b[q]?=Z[q]?:=fun q c=>hm.same q (Acp c M.ll) fun a=>Ae6 _ (Acp c (M.new q a))
theorem Mk.step {Z b:Aa} {I a:Nf} {t t':RM} {m':HM} {r d:D4} {e:Nat} (M:Mk lo Z I m t r e h0 B) (S:Sn b a m' m' t' d d) (hm:Mv I.fl a.fl Z b) (c:a.sb=I.sb):Mk lo b a m' t' d e h0 B:=
 ⟨S,c.trans M.sb,M.b.DR (M.low hm),fun q f=>(hm.new q f).elim (M.new q) fun h=>Adt M.ll h,Adt M.ll hm.len⟩
theorem Mk.app {Z:Aa} {I:Nf} {t:RM} {r:D4} {a:Nat} (M:Mk lo Z I m t r a h0 B) (τ:Aa):Mk lo (Z++τ) I m t r a h0 B:=M.step (M.s.app τ) (Mv.app _ _ _) rfl
def jK (lo h0 c:Nat) (B:Bg) (F:Nat->Aa->Option Bq) (ex:CA) (n:Nat) (m m':HM) (r d:D4):Prop:=
 ∀ f Z I t,n<f->Mk lo Z I m t r c h0 B -> ∃ a b t',F f Z=some (ex,[],a)/\Mk lo a b m' t' d c h0 B/\Mv I.fl b.fl Z a
theorem aN (k:Nat) (o:5000<=k) (B:Bg) (r:D4):∀ (n x:Nat) (m:HM),MK m->NU m->m.births<=x->x+n=min B.ob.n 40 ->
  ∃ m',MK m'/\NU m'/\m'.births<=40/\m'.bls.length=m.bls.length /\ ∀ lo h0 a,jK lo h0 a B (fun f=>C5 (k+13) f h0 a (x:Int)) (.exit 0) n m m' r r
 | 0,x,m,g,i,hb,P=>by
   refine ⟨m,g,i,by omega,rfl,fun lo h0 a f Z I t O M=>?_⟩;obtain ⟨f,rfl⟩:∃ e,f=e+1:=⟨f-1,by omega⟩;refine ⟨Z,I,t, ?_,M,Mv.refl _ _⟩;show C5 _ _ _ _ _ _=_;rw[Lu];simp only[IN,M.b.Be.1,AI];by_cases q:x<B.ob.n
   ·simp only[dTu x B.ob.n (by omega),IS,Aaj (show ¬ (x:Int)<40 by omega),AI,By]
   ·simp only[dFu x B.ob.n (by omega),By,AI]
 | n+1,x,m,g,i,hb,P=>by
   obtain ⟨w,y,W,z⟩:=sM g i (LS (B.ob.at (x*4)) (B.ob.at (x*4+1)) (B.ob.at (x*4+2))).1 (LS (B.ob.at (x*4)) (B.ob.at (x*4+1)) (B.ob.at (x*4+2))).2.1 (LS (B.ob.at (x*4)) (B.ob.at (x*4+1)) (B.ob.at (x*4+2))).2.2 ((B.ob.at (x*4+3)).tmod 3);obtain ⟨m',C,D,E,F,v⟩:=aN k o B r n (x+1) _ w y (by omega) (by omega);refine ⟨m',C,D,E,F.trans z,fun lo h0 a f Z I t O M=>?_⟩;have L:=v lo h0 a;obtain ⟨f,rfl⟩:∃ e,f=e+1:=⟨f-1,by omega⟩;have U:=wSu x (by omega);have h:x<B.ob.n:=by omega
   obtain ⟨q,eq,X,ld⟩:=M.b.ob.ld h;have T:=qSu x B.ob.n (by omega);have S:(0<=(3:Int)/\(3:Int)<((4:Nat):Int))=True:=Adu (by decide);have d0:=ld Z rfl 0 (by decide);have d1:=ld Z rfl 1 (by decide);have d2:=ld Z rfl 2 (by decide);have d3:=ld Z rfl 3 (by decide);rw[Aa0] at d0;have N:=M.b.ob.rg (x*4+3);obtain ⟨τ,K⟩:=jN (k+12) (x3:=B.ob.at (x*4+3)) (M.b.ob.rg (x*4)) (M.b.ob.rg (x*4+1)) (M.b.ob.rg (x*4+2)) Z;have c:=K;rw[show k+12+1=k+13 from rfl] at c;have M1:=M.app τ;have d:Aj .u8 (Z++τ) q (x*4+3)=some (B.ob.at (x*4+3)):=ld (Z++τ) (AT (by have:=M.ll; omega)) 3 (by decide);have V:Ar (B.ob.at (x*4+3))=B.ob.at (x*4+3):=Ai (by unfold AQ; omega);have j:=Agm 3 N.1;have l:=Aft (B.ob.at (x*4+3)) (show (0:Int)<3 by decide);obtain ⟨Z2_,u,t2,H,S2,p,G⟩:=tX k o M1.s (by omega) (LS (B.ob.at (x*4)) (B.ob.at (x*4+1)) (B.ob.at (x*4+2))).1 (LS (B.ob.at (x*4)) (B.ob.at (x*4+1)) (B.ob.at (x*4+2))).2.1 (LS (B.ob.at (x*4)) (B.ob.at (x*4+1)) (B.ob.at (x*4+2))).2.2 ((B.ob.at (x*4+3)).tmod 3) ⟨j,l⟩;have M2:=M1.step S2 p G;obtain ⟨A,s,t',J,M3,Q⟩:=L f Z2_ u t2 (by omega) M2;refine ⟨A,s,t', ?_,M3,((Mv.app _ _ τ).trans p).trans Q⟩;show C5 _ _ _ _ _ _=_;rw[Lu];have b:=H;rw[show ID I=some ⟨a,0,none⟩ from by unfold ID; rw[M.sb]] at b;simp only[IN,M.b.Be.1,M1.b.Be.1,AI,dTu x B.ob.n (by omega),IS,Aak (show (x:Int)<40 by omega),T,Aat,eq,IT,Ad3,Nat.reduceAdd,IN,d0,d1,d2,d3,c,Np,HA,S,show (3:Int).toNat*1=3 from rfl,d,V,show ((3:Int)=0)=False from by simp,Aa5,b,An,Aa4,By,U];exact J
theorem aO (k:Nat) (h:5000<=k) (B:Bg) (r:D4):∀ (n x:Nat) (m:HM),MK m->NU m->x+n=min B.de.n 20 ->
  ∃ m',MK m'/\NU m'/\m'.births=m.births/\m'.bls.length=m.bls.length /\ ∀ lo h0 b,jK lo h0 b B (fun f=>C6 (k+12) f h0 b (x:Int)) (.exit 2) n m m' r r
 | 0,x,m,a,g,H=>by
   refine ⟨m,a,g,rfl,rfl,fun lo h0 b f Z I t G M=>?_⟩;obtain ⟨f,rfl⟩:∃ c,f=c+1:=⟨f-1,by omega⟩;refine ⟨Z,I,t, ?_,M,Mv.refl _ _⟩;show C6 _ _ _ _ _ _=_;rw[Lv];simp only[IN,M.b.Be.2.1,AI];by_cases q:x<B.de.n
   ·simp only[dTu x B.de.n (by omega),IS,Aaj (show ¬ (x:Int)<20 by omega),AI,By]
   ·simp only[dFu x B.de.n (by omega),By,AI]
 | n+1,x,m,a,g,H=>by
   have l:=NK a.inv a.sh (ZG m ((B.de.at x).toNat % 100));obtain ⟨m',u,v,w,z,p⟩:=aO k h B r n (x+1) _ (a.kill (ZG m ((B.de.at x).toNat % 100))) (g.kill a.inv a.sh _) (by omega);refine ⟨m',u,v,by rw[w,l.2.2.2.2.2],by rw[z,l.1],fun lo h0 b f Z I t G M=>?_⟩;have L:=p lo h0 b;obtain ⟨f,rfl⟩:∃ c,f=c+1:=⟨f-1,by omega⟩;have P:=wSu x (by omega);have e:x<B.de.n:=by omega
   obtain ⟨q,eq,S,ld⟩:=M.b.de.ld e;have O:=qSu x B.de.n (by omega);have d0:=ld Z rfl 0 (by decide);rw[Aa0,Acg] at d0;have Q:=M.b.de.rg x;obtain ⟨y,i⟩:∃ y:Nat,B.de.at x=(y:Int):=⟨(B.de.at x).toNat,by omega⟩;rw[i,IT] at L;rw[i] at d0;have w0:Ar (y:Int)=(y:Int):=Ai (by unfold AQ; omega);have em:(y:Int).tmod 100=((y % 100:Nat):Int):=Kx y 100;have F:Bz (k+12) (ID I) ((y % 100:Nat):Int) Z=_:=j7 (k+11) M.s (Aev _ (by decide));obtain ⟨J1_,J2_,j',t2,C,A,J,D,S2,j⟩:=qR k h M.s (ZG m (y % 100)) (jz a).1;have M2:=M.step S2 j rfl;obtain ⟨s,o,t',E,M3,N⟩:=L f J2_ _ t2 (by omega) M2;refine ⟨s,o,t', ?_,M3,j.trans N⟩;have K:B9 Z I.sb 2=some (Bj I.j):=M.s.UL;have d:=M.sb;subst d;show C6 _ _ _ _ _ _=_;rw[Lv];simp only[IN,M.b.Be.2.1,AI,dTu x B.de.n (by omega),IS,Aak (show (x:Int)<20 by omega),O,Aat,eq,IT,Acg,d0,w0,em,show ((100:Int)=0)=False from by simp,Aa5,F,Ah,K,C,PS A,J,D,Abx,By,P];exact E
end
section
variable {J:Aa} {m mr:HM} {t:RM} {r rq:D4} {I:Nf}
def VF (m:HM) (a b c:Nat):HM:=if 0<(Ag m (ZG m (a % 100))).1 then (BU m (ZG m (a % 100)) ((b:Int).tmod (Ag m (ZG m (a % 100))).1) (ZG m (c % 100))).2 else m
theorem uZ (d:MK m) (h:Qi m) (a b c:Nat):MK (VF m a b c)/\Qi (VF m a b c)/\(VF m a b c).births=m.births/\(VF m a b c).bls.length=m.bls.length:=by
 unfold VF;split
 ·have s:=N3 m (ZG m (a % 100)) ((b:Int).tmod (Ag m (ZG m (a % 100))).1) (ZG m (c % 100));exact ⟨d.setRef _ _ _,h.setRef d.inv _ _ _,s.2.2.1,by rw[s.1]⟩
 ·exact ⟨d,h,rfl,rfl⟩
theorem tp (J:Aa) (T:TypeId) (a b c x y z:Value):H5 (J++[.cells [a,b,c] T true]) J.length 0 [x,y,z]=some (J++[.cells [x,y,z] T true]):=EA J T a b c x y z
theorem aP (k:Nat) (hk:5000<=k) (B:Bg) (r:D4):∀ (n x:Nat) (m:HM),MK m->Qi m->x+n=min B.li.n 120 ->
  ∃ m',MK m'/\Qi m'/\m'.births=m.births/\m'.bls.length=m.bls.length /\ ∀ lo h0 E,jK lo h0 E B (fun f=>Cc (k+12) f h0 E (x:Int)) (.exit 4) n m m' r r
 | 0,x,m,l,W,hx=>by
   refine ⟨m,l,W,rfl,rfl,fun lo h0 E f Z I t hf M=>?_⟩;obtain ⟨f,rfl⟩:∃ O,f=O+1:=⟨f-1,by omega⟩;refine ⟨Z,I,t, ?_,M,Mv.refl _ _⟩;show Cc _ _ _ _ _ _=_;rw[Lw];simp only[IN,M.b.Be.2.2.1,AI];by_cases q:x<B.li.n
   ·simp only[dTu x B.li.n (by omega),IS,Aaj (show ¬ (x:Int)<120 by omega),AI,By]
   ·simp only[dFu x B.li.n (by omega),By,AI]
 | n+1,x,m,l,W,hx=>by
   obtain ⟨P1,P2,P3,P4⟩:=uZ l W (B.li.at (x*3)).toNat (B.li.at (x*3+1)).toNat (B.li.at (x*3+2)).toNat;obtain ⟨m',a1,a2,a3,a4,LL⟩:=aP k hk B r n (x+1) _ P1 P2 (by omega);refine ⟨m',a1,a2,a3.trans P3,a4.trans P4,fun lo h0 E f Z I t hf M=>?_⟩;have L:=LL lo h0 E;obtain ⟨f,rfl⟩:∃ O,f=O+1:=⟨f-1,by omega⟩;have w1:=wSu x (by omega);have V:x<B.li.n:=by omega
   obtain ⟨q,eq,hq,ld⟩:=M.b.li.ld V;have qx:=qSu x B.li.n (by omega);have d0:=ld Z rfl 0 (by decide);have d1:=ld Z rfl 1 (by decide);have d2:=ld Z rfl 2 (by decide);rw[Aa0] at d0;have g0:=M.b.li.rg (x*3);have g1:=M.b.li.rg (x*3+1);have g2:=M.b.li.rg (x*3+2);obtain ⟨b,z⟩:∃ y:Nat,B.li.at (x*3)=(y:Int):=⟨(B.li.at (x*3)).toNat,by omega⟩;obtain ⟨g,C⟩:∃ y:Nat,B.li.at (x*3+1)=(y:Int):=⟨(B.li.at (x*3+1)).toNat,by omega⟩;obtain ⟨e,D⟩:∃ y:Nat,B.li.at (x*3+2)=(y:Int):=⟨(B.li.at (x*3+2)).toNat,by omega⟩;rw[z,C,D,IT,IT,IT] at L;rw[z] at d0;rw[C] at d1;rw[D] at d2;have v0:Ar (b:Int)=(b:Int):=Ai (by unfold AQ; omega);have v1:Ar (g:Int)=(g:Int):=Ai (by unfold AQ; omega);have v2:Ar (e:Int)=(e:Int):=Ai (by unfold AQ; omega);have K:(b:Int).tmod 100=((b % 100:Nat):Int):=Kx b 100;have N:(e:Int).tmod 100=((e % 100:Nat):Int):=Kx e 100;obtain ⟨A,hA⟩:∃ A,Au.cells [.int .u8 (b:Int),.int .u8 (g:Int),.int .u8 (e:Int)] fE true=A:=⟨_,rfl⟩;have M1:=M.app [A];have Y:∀ τ o v,([Value.int .u8 (b:Int),.int .u8 (g:Int),.int .u8 (e:Int)]:List Value)[o]?=some (.int .u8 v)->Aj .u8 (Z++[A]++τ) Z.length o=some v:=fun τ o v h=>by rw[<- hA]; exact uU _ _ _ _ _ _ h
   have aa:Aj .u8 (Z++[A]) Z.length 0=some (b:Int):=by have:=Y [] 0 (b:Int) rfl; rwa [Ab1] at this
   have U:=M.sb;subst U;have eA:Bz (k+12) (ID I) ((b % 100:Nat):Int) (Z++[A])=_:=j7 (k+11) M1.s (Aev _ (by decide));have s:=jz (n:=b % 100) l;obtain ⟨a,F⟩:∃ a,ZG m (b % 100)=a:=⟨_,rfl⟩;obtain ⟨c,eS⟩:=sV (k+8) (by omega) M1.s.g a;have p:Gy (k+12) (Bj I.j) a (Z++[A])=_:=eS;rw[mq] at p;obtain ⟨s1,s2,s3,s4⟩:=OE l.inv a;have M2:=M1.app c;obtain ⟨S,hS⟩:∃ S,Au.cells [qIi (Ag m a).1,qIi (Ag m a).2.1,qIi (Ag m a).2.2] Ad true=S:=⟨_,rfl⟩;have M3:=M2.app [S];have lS:Aj .i64 (Z++[A]++c++[S]) (Z++[A]++c).length 0=some (Ag m a).1:=by rw[<- hS,Bv]; rfl
   have l2:B9 (Z++[A]) I.sb 2=some (Bj I.j):=M1.s.UL;have d:Z++[A]++c++[S]=Z++[A]++(c++[S]):=Aaq _ _ _;have ab:Aj .u8 (Z++[A]++c++[S]) Z.length 1=some (g:Int):=by rw[d]; exact Y _ 1 _ rfl
   have ac:Aj .u8 (Z++[A]++c++[S]) Z.length 2=some (e:Int):=by rw[d]; exact Y _ 2 _ rfl
   have mm:Mv I.fl I.fl Z (Z++[A]++c++[S]):=((Mv.app _ _ _).trans (Mv.app _ _ _)).trans (Mv.app _ _ _);have i0:(0<=(0:Int)/\(0:Int)<((3:Nat):Int))=True:=Adu (by decide);have i1:(0<=(1:Int)/\(1:Int)<((3:Nat):Int))=True:=Adu (by decide);have i2:(0<=(2:Int)/\(2:Int)<((3:Nat):Int))=True:=Adu (by decide);have P:(Ag m a).1>0->Aw m a=true:=fun h=>by
    unfold Ag at h;split at h
    ·assumption
    ·exact absurd h (by decide)
   show ∃ i j t',Cc _ _ _ _ _ _=_/\_;rw[Lw];simp only[IN,Ad3,Nat.reduceAdd,M.b.Be.2.2.1,AI,dTu x B.li.n (by omega),IS,Aak (show (x:Int)<120 by omega),qx,Aat,eq,IT,d0,d1,d2,Ae,tp,hA,i0,Afm,Ad6,aa,v0,K,show ((100:Int)=0)=False from by simp,Aa5,eA,Ah,F,l2,p,jq,Adl,Adx,Aey,Ae4,HA,hS];have go:∀ {X:Option Bq},VF m b g e=m->X=Cc (k+12) f h0 I.sb ((x+1:Nat):Int) (Z++[A]++c++[S]) -> ∃ i j t',X=some (.exit 4,[],i)/\Mk lo i j m' t' r I.sb h0 B/\Mv I.fl j.fl Z i:=fun u hX=>by
    rw[u] at L;obtain ⟨i,j,t',e3,H,G⟩:=L f _ I t (by omega) M3;exact ⟨i,j,t',by rw[hX]; exact e3,H,mm.trans G⟩
   by_cases w:0<(Ag m a).1;rotate_left
   ·have u:VF m b g e=m:=by unfold VF; rw[F,Aaz w]
    refine go u ?_;have hb:((bif (if Aw m a then (0:Int) else 4) == (0:Int) then (Aj .i64 (Z++[A]++c++[S]) (Z++[A]++c).length 0).bind fun ad=>some (decide (ad>(0:Int)),Z++[A]++c++[S]) else some (false,Z++[A]++c++[S])):Option (Bool × Aa))=some (false,Z++[A]++c++[S]):=by
     rw[lS];simp only[AI,Aaj (show ¬ (Ag m a).1>0 from w)];cases (if Aw m a then (0:Int) else 4) == (0:Int) <;> rfl
    simp only[hb,AI,By,w1]
   ·have u:VF m b g e=(BU m a ((g:Int).tmod (Ag m a).1) (ZG m (e % 100))).2:=by unfold VF; rw[F,Aay w]
    rw[u] at L;have Q:=P w;have J:Bz (k+12) (ID I) ((e % 100:Nat):Int) (Z++[A]++c++[S])=_:=j7 (k+11) M3.s (Aev _ (by decide));obtain ⟨Z4_,I4,t4,e4,S4,G,b4⟩:=wS (k+4) (by omega) M3.s a ((g:Int).tmod (Ag m a).1) (ZG m (e % 100)) (by rw[<- F]; exact s.1) (jz l).1;have H:=M3.step S4 G b4;obtain ⟨i,j,t',e5,M5,m5⟩:=L f Z4_ I4 t4 (by omega) H;refine ⟨i,j,t', ?_,M5,(mm.trans G).trans m5⟩;have T:(if Aw m a=true then (0:Int) else 4)=0:=by rw[Aay Q]
    simp only[T,show ((0:Int) == 0)=true from rfl,IS,lS,AI,Aak (show (Ag m a).1>0 from w),i1,Aat,show (1:Int).toNat*1=1 from rfl,ab,show ((Ag m a).1=0)=False from Air (by omega),Aa5,i2,show (2:Int).toNat*1=2 from rfl,ac,v2,N,J,Ah,v1,e4,An,Aa4,By,w1];exact e5
theorem aQ (k:Nat) (O:5000<=k) (B:Bg) (m:HM) (u:MK m):∀ (n x:Nat) (r:D4),Mw m r->x+n=min B.pl.n 20 ->
  ∃ e,Mw m e /\ ∀ lo h0 d,jK lo h0 d B (fun f=>C7 (k+12) f h0 d (x:Int)) (.exit 6) n m m r e
 | 0,x,r,o,P=>by
   refine ⟨r,o,fun lo h0 d f Z I t N M=>?_⟩;obtain ⟨f,rfl⟩:∃ h,f=h+1:=⟨f-1,by omega⟩;refine ⟨Z,I,t, ?_,M,Mv.refl _ _⟩;show C7 _ _ _ _ _ _=_;rw[Lx];simp only[IN,M.b.Be.2.2.2.1,AI];by_cases q:x<B.pl.n
   ·simp only[dTu x B.pl.n (by omega),IS,Aaj (show ¬ (x:Int)<20 by omega),AI,By]
   ·simp only[dFu x B.pl.n (by omega),By,AI]
 | n+1,x,r,o,P=>by
   have p:Mw m (oH r (B.pl.at (x*2)).toNat (ZG m ((B.pl.at (x*2+1)).toNat % 100))):=fun v j=>by
    rcases vN j with rfl | j
    ·exact uu m _
    ·exact o v j
   obtain ⟨e,F,C⟩:=aQ k O B m u n (x+1) _ p (by omega);refine ⟨e,F,fun lo h0 d f Z I t N M=>?_⟩;have L:=C lo h0 d;obtain ⟨f,rfl⟩:∃ h,f=h+1:=⟨f-1,by omega⟩;have T:=wSu x (by omega);have l:x<B.pl.n:=by omega
   obtain ⟨q,eq,W,ld⟩:=M.b.pl.ld l;have S:=qSu x B.pl.n (by omega);have d0:=ld Z rfl 0 (by decide);have d1:=ld Z rfl 1 (by decide);rw[Aa0] at d0;have U:=M.b.pl.rg (x*2);have V:=M.b.pl.rg (x*2+1);obtain ⟨s,b⟩:∃ y:Nat,B.pl.at (x*2)=(y:Int):=⟨(B.pl.at (x*2)).toNat,by omega⟩;obtain ⟨a,c⟩:∃ y:Nat,B.pl.at (x*2+1)=(y:Int):=⟨(B.pl.at (x*2+1)).toNat,by omega⟩;rw[b,c,IT,IT] at L;rw[b] at d0;rw[c] at d1;have v0:Ar (s:Int)=(s:Int):=Ai (by unfold AQ; omega);have v1:Ar (a:Int)=(a:Int):=Ai (by unfold AQ; omega);have g:(a:Int).tmod 100=((a % 100:Nat):Int):=Kx a 100;have i:=M.sb;subst i;have K:Bz (k+12) (ID I) ((a % 100:Nat):Int) Z=_:=j7 (k+11) M.s (Aev _ (by decide));obtain ⟨Z4_,A,t4,H,S4,w,G⟩:=zo (k+7) M.s (n:=s) (by omega) (ZG m (a % 100)) (jz u).1;have D:=M.step S4 w G;obtain ⟨E,z,t',J,M5,Q⟩:=L f Z4_ A t4 (by omega) D;refine ⟨E,z,t', ?_,M5,w.trans Q⟩;have i0:(0<=(0:Int)/\(0:Int)<((2:Nat):Int))=True:=Adu (by decide);have i1:(0<=(1:Int)/\(1:Int)<((2:Nat):Int))=True:=Adu (by decide);show C7 _ _ _ _ _ _=_;rw[Lx];simp only[IN,M.b.Be.2.2.2.1,AI,dTu x B.pl.n (by omega),IS,Aak (show (x:Int)<20 by omega),S,Aat,eq,IT,i0,Afm,Ad6,Aa0,d0,i1,show (1:Int).toNat*1=1 from rfl,d1,v0,v1,g,show ((100:Int)=0)=False from by simp,Aa5,K,Ah,H,An,Aa4,By,T];exact J
theorem aR (k:Nat) (i:5000<=k) (B:Bg) (r:D4):∀ (n x:Nat) (m:HM),MK m->Qi m->Mw m r->x+n=min B.pi.n 8 ->
  ∃ m',MK m'/\Qi m'/\Mw m' r/\m'.births=m.births/\m'.bls.length=m.bls.length /\ ∀ lo h0 a,jK lo h0 a B (fun f=>C8 (k+12) f h0 a (x:Int)) (.exit 8) n m m' r r
 | 0,x,m,b,h,d,J=>by
   refine ⟨m,b,h,d,rfl,rfl,fun lo h0 a f Z I t H M=>?_⟩;obtain ⟨f,rfl⟩:∃ c,f=c+1:=⟨f-1,by omega⟩;refine ⟨Z,I,t, ?_,M,Mv.refl _ _⟩;show C8 _ _ _ _ _ _=_;rw[Ly];simp only[IN,M.b.Be.2.2.2.2,AI];by_cases q:x<B.pi.n
   ·simp only[dTu x B.pi.n (by omega),IS,Aaj (show ¬ (x:Int)<8 by omega),AI,By]
   ·simp only[dFu x B.pi.n (by omega),By,AI]
 | n+1,x,m,b,h,d,J=>by
   have pl:=YA m (ZG m ((B.pi.at x).toNat % 100)) 1;obtain ⟨m',u,v,w,z,A,p⟩:=aR k i B r n (x+1) _ (b.W2 (ZG m ((B.pi.at x).toNat % 100)) 1) (h.W2 _ _) (d.Ax (by rw[pl.1]) pl.2.1) (by omega);refine ⟨m',u,v,w,z.trans pl.2.2.2.1,A.trans (by rw[pl.1]),fun lo h0 a f Z I t H M=>?_⟩;have L:=p lo h0 a;obtain ⟨f,rfl⟩:∃ c,f=c+1:=⟨f-1,by omega⟩;have Q:=wSu x (by omega);have g:x<B.pi.n:=by omega
   obtain ⟨q,eq,T,ld⟩:=M.b.pi.ld g;have P:=qSu x B.pi.n (by omega);have d0:=ld Z rfl 0 (by decide);rw[Aa0,Acg] at d0;have S:=M.b.pi.rg x;obtain ⟨y,j⟩:∃ y:Nat,B.pi.at x=(y:Int):=⟨(B.pi.at x).toNat,by omega⟩;rw[j,IT] at L;rw[j] at d0;have w0:Ar (y:Int)=(y:Int):=Ai (by unfold AQ; omega);have em:(y:Int).tmod 100=((y % 100:Nat):Int):=Kx y 100;have G:Bz (k+12) (ID I) ((y % 100:Nat):Int) Z=_:=j7 (k+11) M.s (Aev _ (by decide));obtain ⟨J1_,J2_,j',t2,D,C,K,E,S2,l⟩:=tV k i M.s (ZG m (y % 100)) (jz b).1;have M2:=M.step S2 l rfl;obtain ⟨s,o,t',F,M3,O⟩:=L f J2_ _ t2 (by omega) M2;refine ⟨s,o,t', ?_,M3,l.trans O⟩;have N:B9 Z I.sb 2=some (Bj I.j):=M.s.UL;have e:=M.sb;subst e;show C8 _ _ _ _ _ _=_;rw[Ly];simp only[IN,M.b.Be.2.2.2.2,AI,dTu x B.pi.n (by omega),IS,Aak (show (x:Int)<8 by omega),P,Aat,eq,IT,Acg,d0,w0,em,show ((100:Int)=0)=False from by simp,Aa5,G,Ah,N,D,PS C,K,E,Abx,By,Q];exact F
theorem Acz (a:Addr):Lq P Hq (qVi (some a)) (qVi none)=some false:=by kernel_rfl
theorem Acw (a:Addr):Lq P Fb (qVi (some a)) (qVi none)=some false:=by kernel_rfl
structure Q4 (lo:Nat) (J:Aa) (B:Bg):Prop where
 b0:0<=B.bl/\B.bl<256
 m0:0<=B.mu/\B.mu<256
 ob:Mo lo J 4 B.ob
 de:Mo lo J 1 B.de
 li:Mo lo J 3 B.li
 pl:Mo lo J 2 B.pl
 pi:Mo lo J 1 B.pi
theorem Q4.DR {lo:Nat} {J J':Aa} {B:Bg} (h:Q4 lo J B) (a:∀ q,q<lo->J'[q]?=J[q]?):Q4 lo J' B:=⟨h.b0,h.m0,h.ob.DR a,h.de.DR a,h.li.DR a,h.pl.DR a,h.pi.DR a⟩
theorem Mo.up {lo a:Nat} {J:Aa} {w:Nat} {b:BL} (h:Mo lo J w b) (f:lo<=a):Mo a J w b:=⟨h.len,h.rng,h.at_.imp id fun ⟨q,T,c,e,h1,d⟩=>⟨q,T,c,e,Acp h1 f,d⟩⟩
def vg (k:Nat) (B:Bg) (J:Aa):Option (Value × Aa):=HC k B.bl B.mu (B.ob.p,B.ob.n,B.ob.c) (B.de.p,B.de.n,B.de.c) (B.li.p,B.li.n,B.li.c) (B.pl.p,B.pl.n,B.pl.c) (B.pi.p,B.pi.n,B.pi.c) J
theorem wV (k:Nat) (hk:10000<=k) (B:Bg) (O:0<=B.bl/\B.bl<256) (P:0<=B.mu/\B.mu<256):∃ m r,MK m/\Qi m/\Mw m r/\m.births<=40 /\ ∀ lo J,Q4 lo J B->lo<=J.length ->
  ∃ J' I t,vg (k+14) B J=some (qVi (ID I),J')/\Sn J' I m m t r r/\(∀ q ∈ I.fl,J.length<=q)/\J.length<=J'.length /\ ∀ q,q<J.length->J'[q]?=J[q]?:=by
 have ak:=Agm 23 O.1;have ai:=Aft B.bl (show (0:Int)<23 by decide);have e4:=Agm 4 P.1;have u:=Aft B.mu (show (0:Int)<4 by decide);obtain ⟨nb,ah⟩:∃ nb:Nat,2+B.bl.tmod 23=(nb:Int):=⟨(2+B.bl.tmod 23).toNat,by omega⟩;obtain ⟨f,ag⟩:∃ f:Nat,1+B.mu.tmod 4=(f:Int):=⟨(1+B.mu.tmod 4).toNat,by omega⟩;have b:MK (JF nb):=MK.new (by omega) (by omega);obtain ⟨g,w⟩:∃ g:D4,(⟨f,List.replicate (16*f) 0,List.replicate 16 0,[]⟩:D4)=g:=⟨_,rfl⟩;have af:∀ m,Mw m g:=fun m v y=>by
  rw[<- w] at y;unfold D4.all at y;simp only[Aas,Af9,Aee,Aga] at y;exact .inl (by rcases y with y | y <;> exact y.2)
 obtain ⟨m1,A1,A2,A3,A4,L0⟩:=aN k (by omega) B g (min B.ob.n 40) 0 (JF nb) b (NU.new nb) (by simp[JF]) (by omega);obtain ⟨m2,B1,B2,B3,B4,L1⟩:=aO (k+1) (by omega) B g (min B.de.n 20) 0 m1 A1 A2 (by omega);obtain ⟨m3,C1,C2,C3,C4,L2⟩:=aP (k+1) (by omega) B g (min B.li.n 120) 0 m2 B1 B2.s (by omega);obtain ⟨r4,D1,L3⟩:=aQ (k+1) (by omega) B m3 C1 (min B.pl.n 20) 0 g (af m3) (by omega);obtain ⟨m5,E1,E2,E3,E4,E5,L4⟩:=aR (k+1) (by omega) B r4 (min B.pi.n 8) 0 m3 C1 C2 D1 (by omega);refine ⟨m5,r4,E1,E2,E3,by rw[E4,C3,B3]; exact A3,fun lo J hB am=>?_⟩;obtain ⟨c,h⟩:∃ c,Au.cells [.int .u8 B.bl,.int .u8 B.mu,.slice B.ob.p B.ob.n B.ob.c,.slice B.de.p B.de.n B.de.c,.slice B.li.p B.li.n B.li.c,.slice B.pl.p B.pl.n B.pl.c,.slice B.pi.p B.pi.n B.pi.c] D0 true=c:=⟨_,rfl⟩;have c0:(J++[c])[J.length]?=some c:=by simp
 have l0:(J++[c]).length=J.length+1:=by simp
 obtain ⟨J1_,i,e1,h1,Q,k1⟩:=tR (k+8) (n:=nb) (by omega) (by omega) (J++[c]);have Z:J9 (k+13) (nb:Int) (J++[c])=_:=e1;have aj:=k1.len;have q1:∀ q,q<J.length+1->J1_[q]?=(J++[c])[q]?:=fun q o=>k1.same q (by omega) fun hm=>by have:=Q q hm; omega
 obtain ⟨τ2,p,e2,V,T⟩:=vA (k+12) (n:=f) (by omega) (by omega) J1_;have K:I6 (k+13) (f:Int) J1_=_:=e2;rw[w] at V;obtain ⟨A,hA⟩:∃ A,J1_++τ2=A:=⟨_,rfl⟩;rw[hA] at K V;have lA:A.length=J1_.length+τ2.length:=by rw[<- hA]; simp
 have qA:∀ q,q<J1_.length->A[q]?=J1_[q]?:=fun q o=>by rw[<- hA,AT o]
 obtain ⟨H,N⟩:∃ H,Au.cells [qVi (AU i),qVi (F8 p),qVi none,qVi none] BP true=H:=⟨_,rfl⟩;obtain ⟨τ4,j,e4,h4,z⟩:=xW (k+12) (n:=nb) (by omega) (by omega) (A++[H]);have u:Mb (k+13) (nb:Int) (A++[H])=_:=e4;obtain ⟨C,hC⟩:∃ C,A++[H]++τ4=C:=⟨_,rfl⟩;rw[hC] at u h4;have lC:C.length=A.length+1+τ4.length:=by rw[<- hC]; simp; omega
 have cC:C[A.length]?=some H:=by rw[<- hC,AT (by simp)]; simp
 have qC:∀ q,q<A.length->C[q]?=A[q]?:=fun q o=>by rw[<- hC,Aaq,AT o]
 have s4:CY C A.length 2 (qVi (Bj j))=some (C.set A.length (.cells [qVi (AU i),qVi (F8 p),qVi (Bj j),qVi none] BP true)):=by
  rw[<- N] at cC; simp[CY,cC]
 obtain ⟨D,X⟩:∃ D,C.set A.length (.cells [qVi (AU i),qVi (F8 p),qVi (Bj j),qVi none] BP true)=D:=⟨_,rfl⟩;rw[X] at s4;have lD:D.length=C.length:=by rw[<- X]; simp
 have cD:D[A.length]?=some (.cells [qVi (AU i),qVi (F8 p),qVi (Bj j),qVi none] BP true):=by rw[<- X,Aa2 (by omega)]
 have qD:∀ q,q≠A.length->D[q]?=C[q]?:=fun q o=>by rw[<- X,Aar (Adk o)]
 obtain ⟨τ6,q,e6,W,G⟩:=vz (k+11) (by omega) (n:=f) (by omega) (by omega) D;have M:Iw (k+13) (f:Int) D=_:=e6;rw[w] at W;obtain ⟨E,hE⟩:∃ E,D++τ6=E:=⟨_,rfl⟩;rw[hE] at M W;have qE:∀ q,q<D.length->E[q]?=D[q]?:=fun q o=>by rw[<- hE,AT o]
 have lE:D.length<=E.length:=by rw[<- hE]; simp
 have cE:=(qE A.length (by omega)).trans cD;have s6:CY E A.length 3 (qVi (GS q))=some (E.set A.length (.cells [qVi (AU i),qVi (F8 p),qVi (Bj j),qVi (GS q)] BP true)):=by simp[CY,cE]
 obtain ⟨F,Y⟩:∃ F,E.set A.length (.cells [qVi (AU i),qVi (F8 p),qVi (Bj j),qVi (GS q)] BP true)=F:=⟨_,rfl⟩;rw[Y] at s6;have lF:F.length=E.length:=by rw[<- Y]; simp
 have cF:F[A.length]?=some (.cells [qVi (AU i),qVi (F8 p),qVi (Bj j),qVi (GS q)] BP true):=by rw[<- Y,Aa2 (by omega)]
 have qF:∀ x,x≠A.length->F[x]?=E[x]?:=fun x a=>by rw[<- Y,Aar (Adk a)]
 have low:∀ x,x<A.length->F[x]?=A[x]?:=fun x a=>by rw[qF x (by omega),qE x (by omega),qD x (by omega),qC x a]
 have li:=h1.lt;have lp:=V.lt;have lj:=h4.lt;have lq:=W.lt;have S:Sn F ⟨A.length,i,j,p,q⟩ (JF nb) (JF nb) ⟨List.replicate nb (0,0),[],[],0⟩ g g:=by
  refine ⟨cF,h1.Ax fun x a=>?_,b,⟨h4.Ax (fun x a=>?_) (by omega),Rv.new nb,Inv.new nb,Inv2.new nb,b.sh.wl,b.nb,b.nt⟩,LN.new nb,b,V.Ax fun x a=>low x (lp x a),W.Ax fun x a=>?_,⟨?_,fun L l x a=>?_⟩⟩
  ·have:=li x a;rw[low x (by omega),qA x this]
  ·have U:=z x a;have g2:=lj x a;rw[Aaw,Ac3] at U;rw[qF x (by omega),qE x (by omega),qD x (by omega)]
  ·have U:=G x a;rw[qF x (by omega)]
  ·have d1:∀ x ∈ i.l,x<J1_.length:=li;have d2:∀ x ∈ p.l,J1_.length<=x/\x<A.length:=fun x a=>⟨T x a,lp x a⟩;have d3:∀ x ∈ j.l,A.length<x/\x<D.length:=fun x a=>by
    have U:=z x a;have g2:=lj x a;rw[Aaw,Ac3] at U;omega
   have d4:∀ x ∈ q.l,D.length<=x:=G;show [i.l,j.l,p.l,q.l,[A.length]].Pairwise Dj;simp only[Ad9,Acd,Aee,Aga,forall_eq_or_imp,forall_eq,List.Pairwise.nil,and_true,false_implies,implies_true];refine ⟨⟨?_, ?_, ?_, ?_⟩,⟨?_, ?_, ?_⟩,⟨?_, ?_⟩, ?_⟩
   ·exact fun x a hm=>by have:=d1 x a; have:=d3 x hm; omega
   ·exact fun x a hm=>by have:=d1 x a; have:=d2 x hm; omega
   ·exact fun x a hm=>by have:=d1 x a; have:=d4 x hm; omega
   ·exact fun x a hm=>by have:=d1 x a; have:=Ac1.1 hm; omega
   ·exact fun x a hm=>by have:=d3 x a; have:=d2 x hm; omega
   ·exact fun x a hm=>by have:=d3 x a; have:=d4 x hm; omega
   ·exact fun x a hm=>by have:=d3 x a; have:=Ac1.1 hm; omega
   ·exact fun x a hm=>by have:=d2 x a; have:=d4 x hm; omega
   ·exact fun x a hm=>by have:=d2 x a; have:=Ac1.1 hm; omega
   ·exact fun x a hm=>by have:=d4 x a; have:=Ac1.1 hm; omega
  ·have l:L ∈ [i.l,j.l,p.l,q.l,[A.length]]:=l;simp only[Acd,Aee,Aga] at l;rcases l with rfl | rfl | rfl | rfl | rfl
   ·have:=li x a; omega
   ·have:=lj x a; omega
   ·have:=lp x a; omega
   ·have:=lq x a; omega
   ·have:=Ac1.1 a; omega
 have s:∀ x,x<J.length+1->F[x]?=(J++[c])[x]?:=fun x a=>by rw[low x (by omega),qA x (by omega),q1 x a]
 have e:∀ x,x<J.length->F[x]?=J[x]?:=fun x a=>by rw[s x (by omega),AT a]
 have d:=hB.DR (J':=F) fun x a=>e x (by omega);have M0:Mk (J.length+1) F ⟨A.length,i,j,p,q⟩ (JF nb) ⟨List.replicate nb (0,0),[],[],0⟩ g A.length J.length B:=by
  refine ⟨S,rfl,⟨by rw[s _ (by omega),c0,<- h],by omega,O,P,d.ob.up (by omega),d.de.up (by omega),d.li.up (by omega),d.pl.up (by omega),d.pi.up (by omega)⟩,fun x a=>?_,by omega⟩;obtain ⟨L,l,a⟩:=Adw.1 a;have l:L ∈ [i.l,j.l,p.l,q.l,[A.length]]:=l;simp only[Acd,Aee,Aga] at l;rcases l with rfl | rfl | rfl | rfl | rfl
  ·have:=Q x a; omega
  ·have:=z x a; rw[Aaw] at this; omega
  ·have:=T x a; omega
  ·have:=G x a; omega
  ·have:=Ac1.1 a; omega
 obtain ⟨Z1_,I1,t1,f1,M1,v1⟩:=L0 (J.length+1) J.length A.length (k+13) F _ _ (by omega) M0;obtain ⟨Z2_,I2,t2,f2,M2,v2⟩:=L1 (J.length+1) J.length A.length (k+13) Z1_ _ _ (by omega) M1;obtain ⟨Z3_,I3,t3,f3,M3,v3⟩:=L2 (J.length+1) J.length A.length (k+13) Z2_ _ _ (by omega) M2;obtain ⟨Z4_,I4,t4,f4,M4,v4⟩:=L3 (J.length+1) J.length A.length (k+13) Z3_ _ _ (by omega) M3;obtain ⟨Z5_,I5,t5,f5,M5,v5⟩:=L4 (J.length+1) J.length A.length (k+13) Z4_ _ _ (by omega) M4;have vv:=(((v1.trans v2).trans v3).trans v4).trans v5;refine ⟨Z5_,I5,t5, ?_,M5.s,fun x a=>by have:=M5.new x a; omega,by have:=M5.ll; omega,fun x a=>(M0.low vv x (by omega)).trans (e x a)⟩;have wb:Ar B.bl=B.bl:=Ai (by unfold AQ; omega);have wm:Ar B.mu=B.mu:=Ai (by unfold AQ; omega);have wn:Ar (nb:Int)=(nb:Int):=Ai (by unfold AQ; omega);have wu:Ar (f:Int)=(f:Int):=Ai (by unfold AQ; omega);have x0:Aj .u8 (J++[c]) J.length 0=some B.bl:=by rw[<- h,Bv]; rfl
 have x1:Aj .u8 (J++[c]) J.length 1=some B.mu:=by rw[<- h,Bv]; rfl
 have aa:C5 (k+13) (k+13) J.length A.length 0 F=_:=f1;have ab:C6 (k+13) (k+13) J.length A.length 0 Z1_=_:=f2;have ac:Cc (k+13) (k+13) J.length A.length 0 Z2_=_:=f3;have ad:C7 (k+13) (k+13) J.length A.length 0 Z3_=_:=f4;have ae:C8 (k+13) (k+13) J.length A.length 0 Z4_=_:=f5;unfold vg;rw[SK];simp only[Ae,h,IN,Nat.reduceAdd,x0,x1,AI,wb,wm,ah,ag,wn,wu,show ((23:Int)=0)=False from by simp,show ((4:Int)=0)=False from by simp,Aa5,Z,LK,K,Acw,By,zL,Abx,N,u,s4,M,s6,aa,ab,ac,ad,ae,Aat];unfold ID;rw[M5.sb]
end
section
variable {J:Aa} {m:HM} {r:D4} {s:TC} {i:Cs} {p:PI}
theorem Qj.new {nb:Nat} (look:Bool) (born:Int):Qj nb (Xs nb look born):=
 ⟨by simp[Xs],Ado _,fun v a=>by simp[Xs] at a,Ado _,fun _=>rfl,fun _=>rfl⟩
theorem hY (k:Nat) (G:10<=k) (h:Al J i m) (n:MK m) (j:Hg J p r) (hd:Fp J [i.l,p.l]) (look:Bool) (born:Int):
  ∃ τ c,Nk (k+5) (AU i) (F8 p) look born J=some (.tuple #[qVi (Dz c),qIi 0],J++τ)/\Li (J++τ) i p c m r (Xs m.bls.length look born) /\ ∀ q ∈ c.l,J.length<=q:=by
 have I:=n.nb;have K:=n.nt;have H:=j.ok.m1;have w:∀ Z,Al Z i m->AF (k+4) (AU i) Z=some (qIi ((m.bls.length:Nat):Int),Z):=fun Z M=>GW (k+2) M;have D:Cj (k+4) (F8 p) J=_:=Zb (k+2) j;obtain ⟨b,f⟩:∃ b,Au.cells [qVi (AU i),qVi (F8 p),.bool look,qIi born,qIi (0:Int),qVi none,.slice none 0 0,.slice none 0 0,qIi (0:Int)] Hy true=b:=⟨_,rfl⟩;have h1:=h.app [b];have y:((m.bls.length:Nat):Int)*64=((64*m.bls.length:Nat):Int):=by omega
 have z:Ar ((64*m.bls.length:Nat):Int)=((64*m.bls.length:Nat):Int):=Ai (by unfold AQ; omega);have A:((64*m.bls.length:Nat):Int).tdiv 2=((32*m.bls.length:Nat):Int):=by rw[show ((2:Int))=((2:Nat):Int) from rfl,ZA]; congr 1; omega
 have B:Ar ((32*m.bls.length:Nat):Int)=((32*m.bls.length:Nat):Int):=Ai (by unfold AQ; omega);obtain ⟨τ,tb,wb,C,x,s,t,o⟩:=ji k G (e:=32*m.bls.length) (by omega) (by omega) (J++[b]);rw[Aaw,Ac3] at s t;have O:=x.lt;have v:(J++[b]++τ)[J.length]?=some b:=by rw[AT (by simp)]; simp
 have es:CY (J++[b]++τ) J.length 5 (qVi (some ⟨tb,0,none⟩))=some ((J++[b]++τ).set J.length (.cells (GG ⟨J.length,tb,wb,(none,0,0),(none,0,0)⟩ i.hb p.rb (Xs m.bls.length look born)) Hy true)):=by
  rw[<- f] at v ⊢;simp only[CY,v];rfl
 obtain ⟨F,d⟩:∃ F,(J++[b]++τ).set J.length (.cells (GG ⟨J.length,tb,wb,(none,0,0),(none,0,0)⟩ i.hb p.rb (Xs m.bls.length look born)) Hy true)=F:=⟨_,rfl⟩;rw[d] at es;have N:F.length=J.length+1+τ.length:=by rw[<- d,Adj,Aaw,Aaw,Ac3]
 have low:∀ q,q<J.length->F[q]?=J[q]?:=fun q a=>by rw[<- d,Aar (by omega),Aaq,AT a]
 obtain ⟨u,g⟩:∃ u,F=J++u:=GC (by omega) low;refine ⟨u,⟨J.length,tb,wb,(none,0,0),(none,0,0)⟩, ?_, ?_,fun q a=>?_⟩
 ·rw[iD];simp only[w _ h,AI,Ah,Aaj (show ¬ ((m.bls.length:Nat):Int)<=0 by omega),By,D,show (((r.mu:Nat):Int) == 0)=false from by rw[Ach]; omega,Ae,f,w _ h1,y,z,A,B,show ((2:Int)=0)=False from by simp,Aa5,C,LK,IN,es,g]
 ·rw[<- g];have co:Gk F ⟨J.length,tb,wb,(none,0,0),(none,0,0)⟩ i.hb p.rb m.bls.length (Xs m.bls.length look born):=by
   refine ⟨by rw[<- d]; exact Aa2 (by rw[Aaw,Aaw,Ac3]; omega),x.same (by rw[<- d]; exact Aar (by omega)) (by rw[<- d]; exact Aar (by omega)),Bf.nil _,Bf.nil _,⟨by show J.length≠tb; omega,by show J.length≠wb; omega,o,fun q a=>by simp[hs] at a,fun q a=>by simp[hs] at a⟩⟩
  refine ⟨h.Ax fun q a=>low q (h.lt q a),n,j.Ax fun q a=>low q (j.lt q a),co, ?_,Qj.new look born⟩;have E:∀ q ∈ (⟨J.length,tb,wb,(none,0,0),(none,0,0)⟩:CI).l,J.length<=q:=fun q a=>by
   rcases CI.mem a with a | a | a | a | a
   ·exact Aho a.symm
   ·have a:q=tb:=a; omega
   ·have a:q=wb:=a; omega
   ·simp[hs] at a
   ·simp[hs] at a
  have l:=hd.cons (J':=F) (L:=(⟨J.length,tb,wb,(none,0,0),(none,0,0)⟩:CI).l) (fun q a=>⟨E q a,co.lt q a⟩) (by omega);exact l.sub [1,2,0] (by decide) (by simp) rfl
 ·rcases CI.mem a with a | a | a | a | a
  ·exact Aho a.symm
  ·have a:q=tb:=a; omega
  ·have a:q=wb:=a; omega
  ·simp[hs] at a
  ·simp[hs] at a
structure XI where
 xb:Nat
 kb:Nat
 I:Nf
 c:CI
def XI.Ls (X:XI):List (List Nat):=[X.I.i.l,X.I.p.l,X.c.l,[X.xb],[X.kb],[X.I.sb],X.I.q.l]
abbrev JL (X:XI):qOi:=some ⟨X.xb,0,none⟩
abbrev Jx (X:XI):qOi:=some ⟨X.kb,0,none⟩
structure OG (J:Aa) (X:XI) (m:HM) (r:D4) (s:TC):Prop where
 run:∃ kp lo bn,J[X.xb]?=some (.cells [qVi (ID X.I),qVi (Jx X),kp,lo,bn] AN true)
 col:J[X.kb]?=some (.cells [qVi (Dz X.c)] IE true)
 sc:J[X.I.sb]?=some (.cells (HQ X.I) BP true)
 t:Li J X.I.i X.I.p X.c m r s
 q:∃ rq,F7 J X.I.q rq/\rq.mu=r.mu
 fp:Fp J X.Ls
variable {X:XI}
theorem OG.Fa (h:OG J X m r s):B9 J X.xb 1=some (Jx X):=by
 obtain ⟨_,_,_,e⟩:=h.run;simp[B9,CW,e,HR]
theorem OG.H7 (h:OG J X m r s):B9 J X.xb 0=some (ID X.I):=by
 obtain ⟨_,_,_,e⟩:=h.run;simp[B9,CW,e,HR]
theorem OG.dU (h:OG J X m r s):B9 J X.I.sb 0=some (AU X.I.i):=by simp[B9,CW,h.sc,HQ,HR]
theorem OG.Ax {J':Aa} (h:OG J X m r s) (f:J.length<=J'.length) (d:∀ L ∈ X.Ls,∀ q ∈ L,J'[q]?=J[q]?):OG J' X m r s:=
 ⟨(by obtain ⟨a,b,c,e⟩:=h.run; exact ⟨a,b,c,(d [X.xb] (by simp[XI.Ls]) _ (by simp)).trans e⟩),(d [X.kb] (by simp[XI.Ls]) _ (by simp)).trans h.col,(d [X.I.sb] (by simp[XI.Ls]) _ (by simp)).trans h.sc,h.t.Ax f (d _ (by simp[XI.Ls])) (d _ (by simp[XI.Ls])) (d _ (by simp[XI.Ls])),(by obtain ⟨rq,a,b⟩:=h.q; exact ⟨rq,a.Ax (d _ (by simp[XI.Ls])),b⟩),⟨h.fp.dj,fun L g q hm=>Acp (h.fp.lt L g q hm) f⟩⟩
theorem OG.app (h:OG J X m r s) (τ:Aa):OG (J++τ) X m r s:=h.Ax (by simp) fun L a q b=>AT (h.fp.lt L a q b)
theorem OG.core (k:Nat) (h:OG J X m r s):Ap (k+1) (Jx X) J=some (qVi (Dz X.c),J):=by
 have a:B9 J X.kb 0=some (Dz X.c):=by simp[B9,CW,h.col,HR]
 rw[LB];simp only[show Lq P DU (qVi (Jx X)) (qVi none)=some false from by kernel_rfl,AI,By,IN,a]
theorem OG.turn {J':Aa} {c':CI} {m':HM} {s':TC} (h:OG J X m r s) (T:Li J' X.I.i X.I.p c' m' r s') (hm:Mv (X.I.i.l++X.c.l) (X.I.i.l++c'.l) J J') (hc:c'.cb=X.c.cb):
  OG J' { X with c:=c' } m' r s'/\Mv X.Ls.flatten ({ X with c:=c' }:XI).Ls.flatten J J':=by
 have dj:=fun {a b:Nat} (n:a<X.Ls.length) (hb:b<X.Ls.length) (i:b≠a)=>h.fp.ne n hb i;have l:∀ y (o:y<X.Ls.length),y≠0->y≠2->(∀ q ∈ X.Ls[y],J'[q]?=J[q]?)/\(∀ q ∈ X.Ls[y],q ∉ X.I.i.l++c'.l) /\ ∀ q ∈ X.Ls[y],q<J'.length:=fun y o h0 h2=>hm.DR (fun q d=>h.fp.lt _ (Adb o) q d) fun q d f=>by
  rcases Aas.1 f with f | f
  ·exact h.fp.ne (x:=y) (y:=0) o (by simp[XI.Ls]) (Adk h0) q d f
  ·exact h.fp.ne (x:=y) (y:=2) o (by simp[XI.Ls]) (Adk h2) q d f
 obtain ⟨O,S,Y⟩:=l 3 (by simp[XI.Ls]) (by decide) (by decide);obtain ⟨P,U,Z⟩:=l 4 (by simp[XI.Ls]) (by decide) (by decide);obtain ⟨Q,V,g5⟩:=l 5 (by simp[XI.Ls]) (by decide) (by decide);obtain ⟨p,t,u⟩:=l 6 (by simp[XI.Ls]) (by decide) (by decide);have p:∀ q ∈ X.I.q.l,J'[q]?=J[q]?:=p;have t:∀ q ∈ X.I.q.l,q ∉ X.I.i.l++c'.l:=t;have u:∀ q ∈ X.I.q.l,q<J'.length:=u;have xb:=O X.xb (by simp[XI.Ls]);have kb:=P X.kb (by simp[XI.Ls]);have sb:=Q X.I.sb (by simp[XI.Ls]);have D:∀ {a b:Nat} (n:a<7) (hb:b<7),b≠a->Dj (X.Ls[a]'(by simpa [XI.Ls] using n)) (X.Ls[b]'(by simpa [XI.Ls] using hb)):=fun n hb i=>h.fp.ne _ _ i;refine ⟨⟨(by obtain ⟨a,b,c,e⟩:=h.run; exact ⟨a,b,c,by rw[xb,e]⟩), ?_,sb.trans h.sc,T,(by obtain ⟨rq,a,b⟩:=h.q; exact ⟨rq,a.Ax p,b⟩),⟨?_,fun L g q d=>?_⟩⟩,hm.wide (fun q d=>?_) fun q d=>?_⟩
 ·rw[kb,h.col]; unfold Dz; rw[hc]
 ·have H:=T.fp.ne (x:=0) (y:=1) (by simp) (by simp) (by decide);have I:=T.fp.ne (x:=0) (y:=2) (by simp) (by simp) (by decide);have t12:=T.fp.ne (x:=1) (y:=2) (by simp) (by simp) (by decide);have K:X.xb ∉ X.I.i.l++c'.l:=S _ (by simp[XI.Ls]);have M:X.kb ∉ X.I.i.l++c'.l:=U _ (by simp[XI.Ls]);have N:X.I.sb ∉ X.I.i.l++c'.l:=V _ (by simp[XI.Ls]);have j:∀ {L:List Nat} {q:Nat},q ∉ L->Dj L [q]:=fun k x v f=>k (by rw[<- Ac1.1 f]; exact v);have p3:Dj X.I.p.l [X.xb]:=D (a:=1) (b:=3) (by decide) (by decide) (by decide);have p4:Dj X.I.p.l [X.kb]:=D (a:=1) (b:=4) (by decide) (by decide) (by decide);have p5:Dj X.I.p.l [X.I.sb]:=D (a:=1) (b:=5) (by decide) (by decide) (by decide);have A:Dj [X.xb] [X.kb]:=D (a:=3) (b:=4) (by decide) (by decide) (by decide);have B:Dj [X.xb] [X.I.sb]:=D (a:=3) (b:=5) (by decide) (by decide) (by decide);have E:Dj [X.kb] [X.I.sb]:=D (a:=4) (b:=5) (by decide) (by decide) (by decide);have p6:Dj X.I.p.l X.I.q.l:=D (a:=1) (b:=6) (by decide) (by decide) (by decide);have i6:Dj X.I.i.l X.I.q.l:=D (a:=0) (b:=6) (by decide) (by decide) (by decide);have C:Dj [X.xb] X.I.q.l:=D (a:=3) (b:=6) (by decide) (by decide) (by decide);have F:Dj [X.kb] X.I.q.l:=D (a:=4) (b:=6) (by decide) (by decide) (by decide);have G:Dj [X.I.sb] X.I.q.l:=D (a:=5) (b:=6) (by decide) (by decide) (by decide);have W:Dj c'.l X.I.q.l:=fun x v f=>t x f (Aas.2 (.inr v));show [X.I.i.l,X.I.p.l,c'.l,[X.xb],[X.kb],[X.I.sb],X.I.q.l].Pairwise Dj;have w:∀ {q},q ∉ X.I.i.l++c'.l->q ∉ X.I.i.l:=fun k f=>k (Aas.2 (.inl f));have z:∀ {q},q ∉ X.I.i.l++c'.l->q ∉ c'.l:=fun k f=>k (Aas.2 (.inr f));simp only[Ad9,Acd,Aee,Aga,forall_eq_or_imp,forall_eq,List.Pairwise.nil,and_true,false_implies,implies_true];exact ⟨⟨H,I,j (w K),j (w M),j (w N),i6⟩,⟨t12,p3,p4,p5,p6⟩,⟨j (z K),j (z M),j (z N),W⟩,⟨A,B,C⟩,⟨E,F⟩,G⟩
 ·have g:L ∈ [X.I.i.l,X.I.p.l,c'.l,[X.xb],[X.kb],[X.I.sb],X.I.q.l]:=g;simp only[Acd,Aee,Aga] at g;rcases g with rfl | rfl | rfl | rfl | rfl | rfl | rfl
  ·exact T.h.lt q d
  ·exact T.rt.lt q d
  ·exact T.co.lt q d
  ·exact Y q (by simpa [XI.Ls] using d)
  ·exact Z q (by simpa [XI.Ls] using d)
  ·exact g5 q (by simpa [XI.Ls] using d)
  ·exact u q d
 ·rcases Aas.1 d with d | d
  ·exact Adw.2 ⟨_,by simp[XI.Ls],d⟩
  ·exact Adw.2 ⟨X.c.l,by simp[XI.Ls],d⟩
 ·obtain ⟨L,g,d⟩:=Adw.1 d;have g:L ∈ [X.I.i.l,X.I.p.l,c'.l,[X.xb],[X.kb],[X.I.sb],X.I.q.l]:=g;simp only[Acd,Aee,Aga] at g;rcases g with rfl | rfl | rfl | rfl | rfl | rfl | rfl
  ·exact .inl (Adw.2 ⟨_,by simp[XI.Ls],d⟩)
  ·exact .inl (Adw.2 ⟨X.I.p.l,by simp[XI.Ls],d⟩)
  ·exact .inr (.inl (Aas.2 (.inr d)))
  ·exact .inl (Adw.2 ⟨[X.xb],by simp[XI.Ls],d⟩)
  ·exact .inl (Adw.2 ⟨[X.kb],by simp[XI.Ls],d⟩)
  ·exact .inl (Adw.2 ⟨[X.I.sb],by simp[XI.Ls],d⟩)
  ·exact .inl (Adw.2 ⟨X.I.q.l,by simp[XI.Ls],d⟩)
def XG (mm:Option (Value × Aa)) (J:Aa) (X:XI) (r:D4) (v:Value) (q:HM × TC):Prop:=
 ∃ J' a,mm=some (v,J')/\OG J' a q.1 r q.2/\Mv X.Ls.flatten a.Ls.flatten J J'/\a.xb=X.xb/\a.kb=X.kb
def np (k:Nat) (B:Bg) (J:Aa):Option (Value × Aa):=L5 k B.bl B.mu (B.ob.p,B.ob.n,B.ob.c) (B.de.p,B.de.n,B.de.c) (B.li.p,B.li.n,B.li.c) (B.pl.p,B.pl.n,B.pl.c) (B.pi.p,B.pi.n,B.pi.c) J
end
section
variable {J:Aa} {m:HM} {i:Cs} {j:RI} {t:RM}
theorem RI.sy {j:RI} {q:Nat}:q ∈ j.l↔q=j.hb\/q ∈ hs j.bs\/q ∈ hs j.os\/q ∈ hs j.fs\/q ∈ Rr j.om:=RI.JZ
theorem JM.zZ (h:JM J j t) (x:Int × Int) (H:t.bl.length<=5000) (T:TypeId):∃ s' Z1_ p,AH P As (j.bs.1,t.bl.length,t.bl.length) (some ⟨J.length,0,none⟩,1,1) (J++[.cells [qIi x.1,qIi x.2] T true])=some (s',Z1_) /\
  CY Z1_ j.hb 0 (.slice s'.1 s'.2.1 s'.2.2)=some p/\JM p { j with bs:=s' } { t with bl:=t.bl++[x] }/\Mv j.l ({ j with bs:=s' }:RI).l J p:=by
 have sep:=h.sep;have lt:=h.lt;obtain ⟨s',Z1_,C,D,k⟩:=NM Adc Acr Adh rfl rfl (by decide) (by decide) (by decide) J j.bs t.bl.length (CU t.bl) 1 1 [qIi x.1,qIi x.2] T (by omega) (by decide) rfl h.bl;have G:=D.mv;have F:=h.bl.form;have s:AH P As (j.bs.1,t.bl.length,t.bl.length) (some ⟨J.length,0,none⟩,1,1) (J++[.cells [qIi x.1,qIi x.2] T true])=some (s',Z1_):=by rw[<- F]; exact C
 have f:Mv (hs j.bs) (hs s') J Z1_:=G;have cell:=f.IY h.hp sep.hA;have new:∀ q ∈ hs s',q ∈ hs j.bs\/J.length<=q:=f.new;have A:∀ {L:List Nat},(∀ q ∈ L,q ∈ j.l)->(∀ a ∈ hs j.bs,a ∉ L) -> ∀ q ∈ hs s',q ∉ L:=fun E hd q c hm=>(new q c).elim (fun o=>hd q o hm) fun o=>by have:=lt q (E q hm); omega
 have mem:=fun q=>@RI.sy j q;have n:∀ q ∈ j.l,q ∉ hs j.bs->Z1_[q]?=J[q]?:=fun q c v=>f.same q (lt q c) v;have m:Sep { j with bs:=s' }:=⟨fun hm=>(new _ hm).elim sep.hA fun o=>absurd (lt _ j.LQ) (Aha.2 o),sep.hB,sep.hC,sep.hD,
  A (fun q c=>(mem q).2 (.inr (.inr (.inl c)))) sep.AB,A (fun q c=>(mem q).2 (.inr (.inr (.inr (.inl c))))) sep.AC,A (fun q c=>(mem q).2 (.inr (.inr (.inr (.inr c))))) sep.AD,sep.BC,sep.BD,sep.CD,sep.D⟩;have r:Ct As 2 Z1_ s' (t.bl++[x]).length (CU (t.bl++[x])):=by
  rw[Aaw,show CU (t.bl++[x])=CU t.bl++[qIi x.1,qIi x.2] from bF _ _];exact k
 have B:Ct Ab 8 Z1_ j.os t.ob.length (DT t.ob j.om):=h.ob.Ax fun a g=>n _ ((mem _).2 (.inr (.inr (.inl (BV.2 ⟨a,g,rfl⟩))))) fun hm=>sep.AB _ hm (BV.2 ⟨a,g,rfl⟩);have u:aF Z1_ j.fs t.fw:=h.fw.Ax fun a g=>n _ ((mem _).2 (.inr (.inr (.inr (.inl (BV.2 ⟨a,g,rfl⟩)))))) fun hm=>sep.AC _ hm (BV.2 ⟨a,g,rfl⟩);have l:∀ (y:Nat) (w:y<t.ob.length) (e:y<j.om.length),D2 Z1_ j.om[y].1 t.ob[y].refs/\D2 Z1_ j.om[y].2 t.ob[y].data:=fun y w e=>⟨(h.inn y w e).1.Ax fun b hb=>n _ (j.Ju e (.inl hb)) fun hm=>sep.AD _ hm (Ju e (.inl hb)),(h.inn y w e).2.Ax fun b hb=>n _ (j.Ju e (.inr hb)) fun hm=>sep.AD _ hm (Ju e (.inr hb))⟩;have wide:Mv j.l ({ j with bs:=s' }:RI).l J Z1_:=f.wide (fun q c=>(mem q).2 (.inr (.inl c))) fun q c=>by
  rcases RI.sy.1 c with c | c | c | c | c
  ·exact .inl ((mem q).2 (.inl c))
  ·exact .inr (.inl c)
  ·exact .inl ((mem q).2 (.inr (.inr (.inl c))))
  ·exact .inl ((mem q).2 (.inr (.inr (.inr (.inl c)))))
  ·exact .inl ((mem q).2 (.inr (.inr (.inr (.inr c)))))
 have z:∀ q ∈ ({ j with bs:=s' }:RI).l,q<Z1_.length:=fun q c=>by
  rcases RI.sy.1 c with d | d | d | d | d
  ·exact Acp (lt q ((mem q).2 (.inl d))) f.len
  ·obtain ⟨a,g,rfl⟩:=BV.1 d; exact k.lt a g
  ·exact Acp (lt q ((mem q).2 (.inr (.inr (.inl d))))) f.len
  ·exact Acp (lt q ((mem q).2 (.inr (.inr (.inr (.inl d)))))) f.len
  ·exact Acp (lt q ((mem q).2 (.inr (.inr (.inr (.inr d)))))) f.len
 refine ⟨s',Z1_,_,s,by simp only[CY,cell]; rfl, ?_,wide.trans (Mv.set _ _ (RI.LQ { j with bs:=s' }))⟩;exact JM.kU (i:={ j with bs:=s' }) (t:={ t with bl:=t.bl++[x] }) r B u h.ol l m z
theorem Ra (om:List (Bx × Bx)) (p:Bx × Bx) (q:Nat):q ∈ Rr (om++[p])↔q ∈ Rr om\/q ∈ hs p.1\/q ∈ hs p.2:=by
 rw[Sd,Aas];unfold Rr;simp
theorem JM.Aaa (h:JM J j t) (o:RO) (p:Bx × Bx) (L:t.ob.length<=5000) (T:TypeId) (h1:D2 J p.1 o.refs) (h2:D2 J p.2 o.data) (hp:∀ q,q ∈ hs p.1\/q ∈ hs p.2->q<J.length/\q ∉ j.l) (hd:∀ q ∈ hs p.1,q ∉ hs p.2):∃ s' Z1_ u,AH P Ab (j.os.1,t.ob.length,t.ob.length) (some ⟨J.length,0,none⟩,1,1) (J++[.cells (Bw o p) T true])=some (s',Z1_) /\
  CY Z1_ j.hb 1 (.slice s'.1 s'.2.1 s'.2.2)=some u/\JM u { j with os:=s',om:=j.om++[p] } { t with ob:=t.ob++[o] }/\J.length<=u.length/\(∀ q,q<J.length->q ∉ j.l->u[q]?=J[q]?) /\ ∀ q,q ∈ ({ j with os:=s',om:=j.om++[p] }:RI).l->q ∈ j.l\/J.length<=q\/q ∈ hs p.1\/q ∈ hs p.2:=by
 have sep:=h.sep;have lt:=h.lt;obtain ⟨s',Z1_,G,H,m⟩:=NM szO byO zzO rfl rfl (by decide) (by decide) (by decide) J j.os t.ob.length (DT t.ob j.om) 1 1 (Bw o p) T (by omega) (by decide) rfl h.ob;have g:Mv (hs j.os) (hs s') J Z1_:=H.mv;have I:=h.ob.form;have x:AH P Ab (j.os.1,t.ob.length,t.ob.length) (some ⟨J.length,0,none⟩,1,1) (J++[.cells (Bw o p) T true])=some (s',Z1_):=by rw[<- I]; exact G
 have cell:=g.IY h.hp sep.hB;have mem:=fun q=>@RI.sy j q;have new:∀ q ∈ hs s',q ∈ hs j.os\/J.length<=q:=g.new;have s:∀ q ∈ j.l,q ∉ hs j.os->Z1_[q]?=J[q]?:=fun q f k=>g.same q (lt q f) k;have F:∀ q,q ∈ hs p.1\/q ∈ hs p.2->q ∉ hs j.os:=fun q f hm=>(hp q f).2 ((mem q).2 (.inr (.inr (.inl hm))));have HH:∀ q,q ∈ hs p.1\/q ∈ hs p.2->Z1_[q]?=J[q]?:=fun q f=>g.same q (hp q f).1 (F q f);have v:∀ q ∈ hs s',q ∈ j.l->q ∈ hs j.os:=fun q f hm=>(new q f).elim id fun l=>absurd (lt q hm) (Aha.2 l);have K:∀ q ∈ hs s',¬ (q ∈ hs p.1\/q ∈ hs p.2):=fun q f hm=>(new q f).elim (F q hm) fun l=>absurd (hp q hm).1 (Aha.2 l);have r:Sep { j with os:=s',om:=j.om++[p] }:=by
  refine ⟨sep.hA,fun hm=>sep.hB (v _ hm j.LQ),sep.hC,fun hm=>?_,fun a d hm=>sep.AB a d (v a hm ((mem a).2 (.inr (.inl d)))),sep.AC,fun a d hm=>?_,fun a d hm=>sep.BC a (v a d ((mem a).2 (.inr (.inr (.inr (.inl hm)))))) hm,fun a d hm=>?_,fun a d hm=>?_, ?_⟩
  ·rcases (Ra _ _ _).1 hm with hm | hm
   ·exact sep.hD hm
   ·exact (hp _ hm).2 j.LQ
  ·rcases (Ra _ _ _).1 hm with hm | hm
   ·exact sep.AD a d hm
   ·exact (hp _ hm).2 ((mem a).2 (.inr (.inl d)))
  ·rcases (Ra _ _ _).1 hm with hm | hm
   ·exact sep.BD a (v a d ((mem a).2 (.inr (.inr (.inr (.inr hm)))))) hm
   ·exact K a d hm
  ·rcases (Ra _ _ _).1 hm with hm | hm
   ·exact sep.CD a d hm
   ·exact (hp _ hm).2 ((mem a).2 (.inr (.inr (.inr (.inl d)))))
  ·show (Rr (j.om++[p])).Nodup;rw[Sd,Ad5];refine ⟨sep.D, ?_,fun a d b hb e=>?_⟩
   ·unfold Rr;simp only[Agq,List.flatMap_nil,Ab1];rw[Ad5];exact ⟨NJ _,NJ _,fun a d b hb e=>hd a d (e ▸ hb)⟩
   ·subst e;have hb:a ∈ hs p.1\/a ∈ hs p.2:=by
     unfold Rr at hb;simpa using hb
    exact (hp a hb).2 ((mem a).2 (.inr (.inr (.inr (.inr d)))))
 have w:Ct As 2 Z1_ j.bs t.bl.length (CU t.bl):=h.bl.Ax fun a d=>s _ ((mem _).2 (.inr (.inl (BV.2 ⟨a,d,rfl⟩)))) fun hm=>sep.AB _ (BV.2 ⟨a,d,rfl⟩) hm;have C:Ct Ab 8 Z1_ s' (t.ob++[o]).length (DT (t.ob++[o]) (j.om++[p])):=by
  rw[Aaw,QZ _ _ _ _ h.ol,show DT [o] [p]=Bw o p from by simp[DT]];exact m
 have z:aF Z1_ j.fs t.fw:=h.fw.Ax fun a d=>s _ ((mem _).2 (.inr (.inr (.inr (.inl (BV.2 ⟨a,d,rfl⟩)))))) fun hm=>sep.BC _ hm (BV.2 ⟨a,d,rfl⟩);have D:(j.om++[p]).length=(t.ob++[o]).length:=by rw[Aaw,Aaw,h.ol]; rfl
 have n:∀ (y:Nat) (E:y<(t.ob++[o]).length) (A:y<(j.om++[p]).length),D2 Z1_ (j.om++[p])[y].1 (t.ob++[o])[y].refs/\D2 Z1_ (j.om++[p])[y].2 (t.ob++[o])[y].data:=fun y E A=>by
  by_cases q:y<t.ob.length
  ·have q':y<j.om.length:=by rw[h.ol]; exact q
   rw[Afw q,Afw q'];exact ⟨(h.inn y q q').1.Ax fun b hb=>s _ (j.Ju q' (.inl hb)) fun hm=>sep.BD _ hm (Ju q' (.inl hb)),(h.inn y q q').2.Ax fun b hb=>s _ (j.Ju q' (.inr hb)) fun hm=>sep.BD _ hm (Ju q' (.inr hb))⟩
  ·have e:y=t.ob.length:=by rw[Aaw,Ac3] at E; omega
   subst e;rw[Ae8 (Aa1 _),Ae8 (by rw[h.ol]; exact Aa1 _)];simp only[Afl,h.ol,Af5];exact ⟨h1.Ax fun b hb=>HH b (.inl hb),h2.Ax fun b hb=>HH b (.inr hb)⟩
 have B:∀ q ∈ ({ j with os:=s',om:=j.om++[p] }:RI).l,q<Z1_.length:=fun q f=>by
  rcases RI.sy.1 f with c | c | c | c | c
  ·exact Acp (lt q ((mem q).2 (.inl c))) g.len
  ·exact Acp (lt q ((mem q).2 (.inr (.inl c)))) g.len
  ·obtain ⟨a,d,rfl⟩:=BV.1 c; exact m.lt a d
  ·exact Acp (lt q ((mem q).2 (.inr (.inr (.inr (.inl c)))))) g.len
  ·rcases (Ra _ _ _).1 c with c | c
   ·exact Acp (lt q ((mem q).2 (.inr (.inr (.inr (.inr c)))))) g.len
   ·exact Acp (hp q c).1 g.len
 refine ⟨s',Z1_,_,x,by simp only[CY,cell]; rfl,JM.kU (i:={ j with os:=s',om:=j.om++[p] }) (t:={ t with ob:=t.ob++[o] }) w C z D n r B,by rw[Adj]; exact g.len,fun q f k=>?_,fun q f=>?_⟩
 ·rw[Aar (fun e:j.hb=q=>k (by rw[<- e]; exact j.LQ))];exact g.same q f fun hm=>k ((mem q).2 (.inr (.inr (.inl hm))))
 ·rcases RI.sy.1 f with c | c | c | c | c
  ·exact .inl ((mem q).2 (.inl c))
  ·exact .inl ((mem q).2 (.inr (.inl c)))
  ·exact (new q c).elim (fun l=>.inl ((mem q).2 (.inr (.inr (.inl l))))) fun l=>.inr (.inl l)
  ·exact .inl ((mem q).2 (.inr (.inr (.inr (.inl c)))))
  ·rcases (Ra _ _ _).1 c with c | c
   ·exact .inl ((mem q).2 (.inr (.inr (.inr (.inr c)))))
   ·exact .inr (.inr c)
theorem xq (m:HM) {b:Nat} (hb:b<m.bls.length):(Ce m (b:Int),MO m (b:Int))=m.bls.getD b (0,0):=by
 unfold Ce MO;rw[Aay (by omega),Aay (by omega),IT]
theorem aV (k:Nat) (v:m.bls.length<=64) (h3 lo:Nat):∀ (n x f:Nat) (Z:Aa) (j:RI),Al Z i m->JM Z j ⟨m.bls.take x,[],[],m.births⟩->j.hb=h3->(∀ q ∈ j.l,lo<=q)->(∀ q ∈ i.l,q<lo)->lo<=Z.length->x+n=m.bls.length->n<f ->
  ∃ c j',HZ (k+3) f (AU i) h3 (x:Int) Z=some (.exit 0,[],c)/\JM c j' ⟨m.bls,[],[],m.births⟩/\j'.hb=h3/\(∀ q ∈ j'.l,lo<=q)/\Z.length<=c.length /\ ∀ q,q<lo->c[q]?=Z[q]?
 | n,x,0,Z,j,h,e,d,g,hi,hm,z,y=>by omega
 | 0,x,f+1,Z,j,h,e,d,g,hi,hm,z,y=>by
   have t:AF (k+3) (AU i) Z=_:=GW (k+1) h;rw[OP];simp only[t,AI,Ah,dFu x m.bls.length (by omega),By];rw[Ady (by omega)] at e;exact ⟨Z,j,rfl,e,d,g,Aa1 _,fun _ _=>rfl⟩
 | n+1,x,f+1,Z,j,h,e,d,g,hi,hm,z,y=>by
   have J:=wSu x (by omega);have t:AF (k+3) (AU i) Z=_:=GW (k+1) h;have E:Bn (k+3) (AU i) (x:Int) Z=_:=ak k h (x:Int);have D:BH (k+3) (AU i) (x:Int) Z=_:=xe k h (x:Int);have l:(m.bls.take x).length=x:=by rw[Adn]; omega
   have w:m.bls.take (x+1)=m.bls.take x++[(Ce m (x:Int),MO m (x:Int))]:=by
    rw[xq m (by omega),Ago,Aau (by omega),Aax,Aau (by omega)]; rfl
   obtain ⟨s',Z1_,Z2_,o,B,b,p⟩:=e.zZ (Ce m (x:Int),MO m (x:Int)) (by show (m.bls.take x).length<=5000; omega) As;have b:JM Z2_ { j with bs:=s' } ⟨m.bls.take (x+1),[],[],m.births⟩:=by rw[w]; exact b
   have d0:Be Z h3 0=some (j.bs.1,x,x):=by
    have:=e.H7;rw[<- d];show Be Z j.hb 0=_;rw[this];show some (j.bs.1,(m.bls.take x).length,(m.bls.take x).length)=_;rw[l]
   have low:∀ q,q<lo->Z2_[q]?=Z[q]?:=fun q a=>p.same q (by omega) fun u=>absurd (g q u) (by omega);obtain ⟨c,j',C,I,A,F,G,H⟩:=aV k v h3 lo n (x+1) f Z2_ { j with bs:=s' } (h.Ax fun q a=>low q (hi q a)) b d (fun q a=>(p.new q a).elim (g q) fun K=>by omega) hi (by have:=p.len; omega) (by omega) (by omega);refine ⟨c,j', ?_,I,A,F,Adt p.len G,fun q a=>(H q a).trans (low q a)⟩;rw[OP];have r:AH P As (j.bs.1,x,x) (some ⟨Z.length,0,none⟩,1,1) (Z++[Au.cells [qIi (Ce m (x:Int)),qIi (MO m (x:Int))] As true])=some (s',Z1_):=by
    have o:AH P As (j.bs.1,(m.bls.take x).length,(m.bls.take x).length) (some ⟨Z.length,0,none⟩,1,1) (Z++[Au.cells [qIi (Ce m (x:Int)),qIi (MO m (x:Int))] As true])=some (s',Z1_):=o;rw[l] at o; exact o
   have s:CY Z1_ h3 0 (.slice s'.1 s'.2.1 s'.2.2)=some Z2_:=by rw[<- d]; exact B
   simp only[t,AI,Ah,dTu x m.bls.length (by omega),IS,IN,d0,E,D,Ae,r,s,J,C]
end
section
variable {J:Aa} {m:HM} {i:Cs} {j:RI} {t:RM}
def He (J:Aa) (b:Nat) (o:RO) (p:Bx × Bx):Prop:=J[b]?=some (.cells (Bw o p) Ab true)
theorem He.ld {b:Nat} {o:RO} {p:Bx × Bx} (h:He J b o p):Aj .i64 J b 0=some o.addr/\Aj .i64 J b 1=some o.id/\Aj .i64 J b 2=some o.r/\Aj .i64 J b 3=some o.d/\Aj .i64 J b 4=some o.k/\Be J b 5=some (p.1.1,p.1.2.1,p.1.2.2)/\Be J b 6=some (p.2.1,p.2.2.1,p.2.2.2)/\Vy J b 7=some o.W2:=by
 unfold He at h;simp[Aj,Be,Vy,CW,h,Bw,Bk,Eo,Dl]
def Ms (m:HM) (a x:Int) (data:Bool):Int:=(KD m a x data).1
theorem aX (k:Nat) (I:Inv m) (o:RO) {a:Int} (u:o.addr=a) (J:AQ a) (W:o.r<=1000) (j:Bx) {b:Nat}:∀ (n x f:Nat) (Z:Aa) (s:Bx),Al Z i m->(∀ q ∈ i.l,q<b)->He Z b o (s,j)->Bf Z s ((List.range x).map fun (x:Nat)=>Ms m a (x:Int) false)->(∀ q ∈ hs s,b<q)->(x:Int)+n=o.r->n<f ->
  ∃ p s',Ib (k+7) f (AU i) b (x:Int) Z=some (.exit 4,[],p)/\He p b o (s',j)/\Bf p s' ((List.range o.r.toNat).map fun (x:Nat)=>Ms m a (x:Int) false)/\(∀ q ∈ hs s',b<q)/\Mv (b::hs s) (b::hs s') Z p
 | n,x,0,Z,s,h,hb,c,v,r,M,L=>by omega
 | 0,x,f+1,Z,s,h,hb,c,v,r,M,L=>by
   obtain ⟨O,z1,G,z3,z4,z5,z6,z7⟩:=c.ld;rw[OR];simp only[IN,Aa0,Nat.reduceAdd,G,AI,Aaj (show ¬ (x:Int)<o.r by omega),By];have e:o.r.toNat=x:=by omega
   rw[e];exact ⟨Z,s,rfl,c,v,r,Mv.refl _ _⟩
 | n+1,x,f+1,Z,s,h,hb,c,v,r,M,L=>by
   obtain ⟨O,z1,G,z3,z4,z5,z6,z7⟩:=c.ld;have Y:=wSu x (by omega);obtain ⟨τ,P⟩:=V7 k h I a (x:Int) J;have z:AM (k+7) (AU i) a (x:Int) Z=some (.tuple #[qIi (Ms m a (x:Int) false),qIi (KD m a (x:Int) false).2],Z++τ):=P;have A:=Af c;have t:He (Z++τ) b o (s,j):=by unfold He; rw[AT A]; exact c
   obtain ⟨y0,y1,y2,y3,y4,y5,y6,y7⟩:=t.ld;have B:=v.app τ;have hlen:((List.range x).map fun (x:Nat)=>Ms m a (x:Int) false).length=x:=by simp
   obtain ⟨s',Z1_,Q,D,F⟩:=B.push (Ms m a (x:Int) false) Ak (by rw[hlen]; omega);have nb:b ∉ hs s:=fun hm=>Ae6 _ (r b hm);have l:He Z1_ b o (s,j):=F.IY t nb;have H:∀ q ∈ hs s',b<q:=fun q d=>(F.new q d).elim (r q) fun U=>by rw[Aaw] at U; omega
   have es:CY Z1_ b 5 (.slice s'.1 s'.2.1 s'.2.2)=some (Z1_.set b (.cells (Bw o (s',j)) Ab true)):=by
    unfold He at l;simp[CY,l,Bw]
   obtain ⟨Z2_,g⟩:∃ Z2_,Z1_.set b (.cells (Bw o (s',j)) Ab true)=Z2_:=⟨_,rfl⟩;rw[g] at es;have w:He Z2_ b o (s',j):=by unfold He; rw[<- g,Aa2 (Af l)]
   have N:Mv (b::hs s) (b::hs s') Z Z2_:=by
    rw[<- g];refine (((Mv.app (hs s) Z τ).trans F).wide (K:=b::hs s) (K':=b::hs s') (fun q d=>Ab7 _ d) fun q d=>?_).trans (Mv.set _ _ Acj);rcases Acd.1 d with rfl | d
    ·exact .inl Acj
    ·exact .inr (.inl d)
   have V:Al Z2_ i m:=h.Ax fun q d=>N.same q (h.lt q d) fun hm=>by
    have:=hb q d;rcases Acd.1 hm with hm | hm
    ·omega
    ·have:=r q hm; omega
   have C:Bf Z2_ s' ((List.range (x+1)).map fun (x:Nat)=>Ms m a (x:Int) false):=by
    rw[Agl,Ae7];exact D.Ax fun q d=>by rw[<- g]; exact Aar (by have:=H q d; omega)
   obtain ⟨p,s2,S,y,E,T,X⟩:=aX k I o u J W j n (x+1) f Z2_ s' V hb w C H (by omega) (by omega);refine ⟨p,s2, ?_,y,E,T,N.trans X⟩;rw[OR];simp only[IN,Aa0,Nat.reduceAdd,G,O,u,AI,Aak (show (x:Int)<o.r by omega),IS,z,B6,y5,Ae,Q,es,Y,S]
theorem aY (k:Nat) (I:Inv m) (o:RO) {a:Int} (u:o.addr=a) (J:AQ a) (W:o.d<=1000) (j:Bx) {b:Nat}:∀ (n x f:Nat) (Z:Aa) (s:Bx),Al Z i m->(∀ q ∈ i.l,q<b)->He Z b o (j,s)->Bf Z s ((List.range x).map fun (x:Nat)=>Ms m a (x:Int) true)->(∀ q ∈ hs s,b<q)->(x:Int)+n=o.d->n<f ->
  ∃ p s',Ic (k+7) f (AU i) b (x:Int) Z=some (.exit 6,[],p)/\He p b o (j,s')/\Bf p s' ((List.range o.d.toNat).map fun (x:Nat)=>Ms m a (x:Int) true)/\(∀ q ∈ hs s',b<q)/\Mv (b::hs s) (b::hs s') Z p
 | n,x,0,Z,s,h,hb,c,v,r,M,L=>by omega
 | 0,x,f+1,Z,s,h,hb,c,v,r,M,L=>by
   obtain ⟨O,z1,z2,G,z4,z5,z6,z7⟩:=c.ld;rw[OS];simp only[IN,Aa0,Nat.reduceAdd,G,AI,Aaj (show ¬ (x:Int)<o.d by omega),By];have e:o.d.toNat=x:=by omega
   rw[e];exact ⟨Z,s,rfl,c,v,r,Mv.refl _ _⟩
 | n+1,x,f+1,Z,s,h,hb,c,v,r,M,L=>by
   obtain ⟨O,z1,z2,G,z4,z5,z6,z7⟩:=c.ld;have Y:=wSu x (by omega);obtain ⟨τ,P⟩:=yY k h I a (x:Int) J;have z:Hz (k+7) (AU i) a (x:Int) Z=some (.tuple #[qIi (Ms m a (x:Int) true),qIi (KD m a (x:Int) true).2],Z++τ):=P;have A:=Af c;have t:He (Z++τ) b o (j,s):=by unfold He; rw[AT A]; exact c
   obtain ⟨y0,y1,y2,y3,y4,y5,y6,y7⟩:=t.ld;have B:=v.app τ;have hlen:((List.range x).map fun (x:Nat)=>Ms m a (x:Int) true).length=x:=by simp
   obtain ⟨s',Z1_,Q,D,F⟩:=B.push (Ms m a (x:Int) true) Ak (by rw[hlen]; omega);have nb:b ∉ hs s:=fun hm=>Ae6 _ (r b hm);have l:He Z1_ b o (j,s):=F.IY t nb;have H:∀ q ∈ hs s',b<q:=fun q d=>(F.new q d).elim (r q) fun U=>by rw[Aaw] at U; omega
   have es:CY Z1_ b 6 (.slice s'.1 s'.2.1 s'.2.2)=some (Z1_.set b (.cells (Bw o (j,s')) Ab true)):=by
    unfold He at l;simp[CY,l,Bw]
   obtain ⟨Z2_,g⟩:∃ Z2_,Z1_.set b (.cells (Bw o (j,s')) Ab true)=Z2_:=⟨_,rfl⟩;rw[g] at es;have w:He Z2_ b o (j,s'):=by unfold He; rw[<- g,Aa2 (Af l)]
   have N:Mv (b::hs s) (b::hs s') Z Z2_:=by
    rw[<- g];refine (((Mv.app (hs s) Z τ).trans F).wide (K:=b::hs s) (K':=b::hs s') (fun q d=>Ab7 _ d) fun q d=>?_).trans (Mv.set _ _ Acj);rcases Acd.1 d with rfl | d
    ·exact .inl Acj
    ·exact .inr (.inl d)
   have V:Al Z2_ i m:=h.Ax fun q d=>N.same q (h.lt q d) fun hm=>by
    have:=hb q d;rcases Acd.1 hm with hm | hm
    ·omega
    ·have:=r q hm; omega
   have C:Bf Z2_ s' ((List.range (x+1)).map fun (x:Nat)=>Ms m a (x:Int) true):=by
    rw[Agl,Ae7];exact D.Ax fun q d=>by rw[<- g]; exact Aar (by have:=H q d; omega)
   obtain ⟨p,s2,S,y,E,T,X⟩:=aY k I o u J W j n (x+1) f Z2_ s' V hb w C H (by omega) (by omega);refine ⟨p,s2, ?_,y,E,T,N.trans X⟩;rw[OS];simp only[IN,Aa0,Nat.reduceAdd,G,O,u,AI,Aak (show (x:Int)<o.d by omega),IS,z,B6,y6,Ae,Q,es,Y,S]
theorem vJ (a:Inv m) {y:Nat} (hs:Start m y):(List.range (Av m y).toNat).map (fun (x:Nat)=>Ms m ((2*y:Nat):Int) (x:Int) false)=KM m (2*y+2) (Av m y).toNat:=by
 obtain ⟨_,c,_⟩:=Nc a hs;apply Ad8;intro q;rw[Aeg];by_cases b:q<(Av m y).toNat
 ·rw[Afo b,U4 m _ _ q b];show some (Ms _ _ _ _)=_;unfold Ms KD;rw[RR a hs (show (q:Int)<Av m y by omega),Aay rfl,IT]
 ·rw[Adr (by simp; omega),Adr (by rw[DH]; omega)]; rfl
theorem dA (a:Inv m) {y:Nat} (hs:Start m y):(List.range (Bp m y).toNat).map (fun (x:Nat)=>Ms m ((2*y:Nat):Int) (x:Int) true)=KM m (2*y+2+(Av m y).toNat) (Bp m y).toNat:=by
 obtain ⟨_,c,d,e,_⟩:=Nc a hs;apply Ad8;intro q;rw[Aeg];by_cases b:q<(Bp m y).toNat
 ·rw[Afo b,U4 m _ _ q b];show some (Ms _ _ _ _)=_;unfold Ms KD;rw[Zr a hs (show (q:Int)<Bp m y by omega),Aay rfl,IT]
 ·rw[Adr (by simp; omega),Adr (by rw[DH]; omega)]; rfl
theorem Aah {b o:Nat} {cs vs:List Value} {T:TypeId} (h:J[b]?=some (.cells cs T true)) (a:o+vs.length<=cs.length):H5 J b o vs=some (J.set b (.cells (Bb cs o vs) T true)):=by
 simp only[H5,h];rw[Aay a]
theorem aW (k:Nat) (hk:1000<k) (I:MK m) (h3 lo:Nat) {sl:Bx}:∀ (n x f:Nat) (Z:Aa) (j:RI),Al Z i m->JM Z j ⟨m.bls,(Gr m).take x,[],m.births⟩->j.hb=h3->(∀ q ∈ j.l,lo<=q)->(∀ q ∈ i.l,q<lo)->lo<=Z.length->Bf Z sl (DW m)->(∀ q ∈ hs sl,q ∉ j.l/\lo<=q)->x+n=(DW m).length->n<f ->
  ∃ O j',Ia (k+9) f (AU i) h3 sl.1 (DW m).length (DW m).length (x:Int) Z=some (.exit 2,[],O)/\JM O j' ⟨m.bls,Gr m,[],m.births⟩/\j'.hb=h3/\(∀ q ∈ j'.l,lo<=q)/\Z.length<=O.length /\ ∀ q,q<lo->O[q]?=Z[q]?
 | n,x,0,Z,j,h,C,S,X,hi,hm,p,hd,hx,hf=>by omega
 | 0,x,f+1,Z,j,h,C,S,X,hi,hm,p,hd,hx,hf=>by
   have hlen:(Gr m).length=(DW m).length:=by unfold Gr DW Cq; rw[Aeo,Aeo]
   rw[OQ];simp only[dFu x ((DW m).length) (by omega),By];rw[Ady (by omega)] at C;exact ⟨Z,j,rfl,C,S,X,Aa1 _,fun _ _=>rfl⟩
 | n+1,x,f+1,Z,j,h,C,S,X,hi,hm,p,hd,hx,hf=>by
   have ar:=I.nt;have ap:(DW m).length=(FA m).length:=by unfold DW Cq; rw[Aeo]
   have az:=Q6 ar;have M:x<(FA m).length:=by omega
   obtain ⟨b,e,l1,_⟩:=p.ld (x:=x) (by omega);obtain ⟨y,hy⟩:∃ y,(FA m)[x]=y:=⟨_,rfl⟩;have r:Start m y:=DS.1 (hy ▸ Adb M);have a0:=r.1;have hg:(DW m).getD x 0=((2*y:Nat):Int):=by
    unfold DW; rw[OH _ M,hy]
   rw[hg] at l1;have W:AQ ((2*y:Nat):Int):=by unfold AQ; omega
   have Q:=EI r;have av:(Gr m).take (x+1)=(Gr m).take x++[AR m y]:=by
    have:(Gr m)[x]?=some (AR m y):=by
     unfold Gr; rw[Aeg,Aau M,hy]; rfl
    rw[Ago,this]; rfl
   have ab:((Gr m).take x).length=x:=by
    rw[Adn]; unfold Gr; rw[Aeo]; omega
   have qx:=qSu x ((DW m).length) (by omega);have w1:=wSu x (by omega);have au:=F6 r;obtain ⟨_,r1,r2,r3,r4,_⟩:=Nc I.inv r;have eP:Gt (k+9) (AU i) ((2*y:Nat):Int) Z=_:=rj (k+4) h _ W;have Y:iR m ((2*y:Nat):Int)=(AR m y).W2:=by
    unfold iR; rw[Q,show ((2*y:Nat):Int).toNat/2=y from by omega,Af7]; rfl
   have lt:∀ q,q<lo->q<Z.length:=fun q l=>by omega
   let A:Au:=.cells [qIi ((2*y:Nat):Int),qIi 0,qIi 0,qIi 0,qIi 0,.slice none 0 0,.slice none 0 0,.bool (iR m ((2*y:Nat):Int))] Ab true
   have c0:(Z++[A])[Z.length]?=some A:=by simp
   have h0:=h.app [A];have eI:Dk (k+9) (AU i) ((2*y:Nat):Int) (Z++[A])=some (.tuple #[qIi (m.wds.getD (2*y) 0),qIi 0],Z++[A]):=by
    have:=j9 (k+3) h0 ((2*y:Nat):Int) W;rw[Aay Q,IT] at this;exact this
   have aw:Aj .i64 (Z++[A]) Z.length 0=some ((2*y:Nat):Int):=by rw[Bv]; rfl
   let B:Au:=.cells [qIi ((2*y:Nat):Int),qIi (m.wds.getD (2*y) 0),qIi 0,qIi 0,qIi 0,.slice none 0 0,.slice none 0 0,.bool (iR m ((2*y:Nat):Int))] Ab true
   have s1:CY (Z++[A]) Z.length 1 (qIi (m.wds.getD (2*y) 0))=some (Z++[B]):=by
    rw[dI _ _ _ _ _ (by simp)]; rfl
   have h1:=h.app [B];have ax:Aj .i64 (Z++[B]) Z.length 0=some ((2*y:Nat):Int):=by rw[Bv]; rfl
   obtain ⟨τ1,eS⟩:=PD (k+3) h1 ((2*y:Nat):Int) W;have V:AL (k+9) (AU i) ((2*y:Nat):Int) (Z++[B])=_:=eS;rw[au] at V
   let O2:Au:=.cells (Bw (AR m y) ((none,0,0),(none,0,0))) Ab true
   obtain ⟨Z2_,w⟩:∃ Z2_,(Z++[B]++τ1).set Z.length O2=Z2_:=⟨_,rfl⟩;have l2:Z2_.length=Z.length+1+τ1.length:=by rw[<- w,Adj,Aaw,Aaw,Ac3]
   have c1:(Z++[B]++τ1)[Z.length]?=some B:=by rw[AT (by simp)]; simp
   have s2:H5 (Z++[B]++τ1) Z.length 2 [qIi (Av m y),qIi (Bp m y),qIi (CC m y)]=some Z2_:=by
    rw[Aah c1 (by simp),<- w];congr 2;show Au.cells _ _ _=Au.cells _ _ _;congr 1;rw[Y];rfl
   have E:∀ q,q<Z.length->Z2_[q]?=Z[q]?:=fun q l=>by
    rw[<- w,Aar (by omega),Aaq,AT l]
   have h2:Al Z2_ i m:=h.Ax fun q l=>E q (lt q (hi q l));have af:He Z2_ Z.length (AR m y) ((none,0,0),(none,0,0)):=by
    unfold He;rw[<- w]; exact Aa2 (by rw[Aaw,Aaw,Ac3]; omega)
   have J:∀ q ∈ i.l,q<Z.length:=fun q l=>lt q (hi q l);obtain ⟨Z3_,s,e3,ag,N,g3,m3⟩:=aX (k+2) I.inv (AR m y) rfl W (by show Av m y<=1000; omega) (none,0,0) (Av m y).toNat 0 (k+9) Z2_ (none,0,0) h2 J af (Bf.nil _) (fun q l=>by simp[hs] at l) (by show ((0:Nat):Int)+_=Av m y; omega) (by omega);have an:Al Z3_ i m:=h2.Ax fun q l=>m3.same q (by have:=hi q l; omega) fun o=>by
    rcases Acd.1 o with rfl | o
    ·exact Ae6 _ (J _ l)
    ·simp[hs] at o
   have L:∀ q ∈ hs s,Z.length<q:=g3;obtain ⟨Z4_,v,e4,ah,ad,g4,m4⟩:=aY (k+2) I.inv (AR m y) rfl W (by show Bp m y<=1000; omega) s (Bp m y).toNat 0 (k+9) Z3_ (none,0,0) an J ag (Bf.nil _) (fun q l=>by simp[hs] at l) (by show ((0:Nat):Int)+_=Bp m y; omega) (by omega);rw[show ((0:Nat):Int)=0 from rfl] at e3 e4;have ay:∀ q,q<Z2_.length->q≠Z.length->Z3_[q]?=Z2_[q]?:=fun q l K=>m3.same q l fun o=>by
    rcases Acd.1 o with rfl | o
    ·exact K rfl
    ·simp[hs] at o
   have ae:∀ q,q<Z3_.length->q≠Z.length->Z4_[q]?=Z3_[q]?:=fun q l K=>m4.same q l fun o=>by
    rcases Acd.1 o with rfl | o
    ·exact K rfl
    ·simp[hs] at o
   have l3:=m3.len;have l4:=m4.len;have F:∀ q,q<Z.length->Z4_[q]?=Z[q]?:=fun q l=>by rw[ae q (by omega) (by omega),ay q (by omega) (by omega),E q l]
   have aa:JM Z4_ j ⟨m.bls,(Gr m).take x,[],m.births⟩:=C.Ax (fun q l=>F q (C.lt q l)) (by omega);have t:Bf Z4_ s ((List.range (Av m y).toNat).map fun (x:Nat)=>Ms m ((2*y:Nat):Int) (x:Int) false):=N.Ax fun q l=>ae q (N.lt q l) (by have:=L q l; omega);rw[vJ I.inv r] at t;have D:=ad;rw[show (AR m y).addr=((2*y:Nat):Int) from rfl,show (AR m y).d=Bp m y from rfl,dA I.inv r] at D;have n4:∀ q ∈ hs v,Z3_.length<=q:=fun q l=>by
    rcases m4.new q (Ab7 _ l) with o | o
    ·rcases Acd.1 o with rfl | o
     ·exact absurd (g4 _ l) (Ae6 _)
     ·simp[hs] at o
    ·exact o
   obtain ⟨z,Z5_,Z6_,e5,e6,r6,l6,q6,n6⟩:=aa.Aaa (AR m y) (s,v) (by show ((Gr m).take x).length<=5000; omega) Ab t.g D.g (fun q l=>by
    rcases l with l | l
    ·refine ⟨t.lt q l,fun o=>?_⟩;have:=C.lt q o; have:=L q l; omega
    ·refine ⟨ad.lt q l,fun o=>?_⟩;have:=C.lt q o; have:=n4 q l; omega) (fun q l o=>by have:=N.lt q l; have:=n4 q o; omega);have r6:JM Z6_ { j with os:=z,om:=j.om++[(s,v)] } ⟨m.bls,(Gr m).take (x+1),[],m.births⟩:=by rw[av]; exact r6
   have G:∀ q,q<Z.length->q ∉ j.l->Z6_[q]?=Z[q]?:=fun q l aq=>(q6 q (by omega) aq).trans (F q l);have u:∀ q,q<lo->Z6_[q]?=Z[q]?:=fun q l=>G q (by omega) fun o=>by have:=X q o; omega
   have H:∀ q,q ∈ ({ j with os:=z,om:=j.om++[(s,v)] }:RI).l->q ∈ j.l\/Z.length<q:=fun q l=>by
    rcases n6 q l with l | l | l | l
    ·exact .inl l
    ·exact .inr (by omega)
    ·exact .inr (L q l)
    ·exact .inr (by have:=n4 q l; omega)
   obtain ⟨O,j',e7,r7,b7,l7,n7,q7⟩:=aW k hk I h3 lo (sl:=sl) n (x+1) f Z6_ { j with os:=z,om:=j.om++[(s,v)] } (h.Ax fun q l=>u q (hi q l)) r6 S (fun q l=>(H q l).elim (X q) fun h'=>by omega) hi (by omega) (p.Ax fun q l=>G q (p.lt q l) (hd q l).1) (fun q l=>⟨fun o=>(H q o).elim (hd q l).1 fun h'=>by have:=p.lt q l; omega,(hd q l).2⟩) (by omega) (by omega);refine ⟨O,j', ?_,r7,b7,l7,by omega,fun q l=>(q7 q l).trans (u q l)⟩;rw[e] at e7;obtain ⟨z0,z1,z2,z3,z4,z5,z6,z7⟩:=ah.ld;have ai:Be Z4_ h3 1=some (j.os.1,x,x):=by
    have:=aa.Fa;rw[<- S];show Be Z4_ j.hb 1=_;rw[this];show some (j.os.1,((Gr m).take x).length,((Gr m).take x).length)=_;rw[ab]
   have aj:AH P Ab (j.os.1,x,x) (some ⟨Z4_.length,0,none⟩,1,1) (Z4_++[Au.cells (Bw (AR m y) (s,v)) Ab true])=some (z,Z5_):=by
    have e5:AH P Ab (j.os.1,((Gr m).take x).length,((Gr m).take x).length) (some ⟨Z4_.length,0,none⟩,1,1) (Z4_++[Au.cells (Bw (AR m y) (s,v)) Ab true])=some (z,Z5_):=e5;rw[ab] at e5; exact e5
   have ak:CY Z5_ h3 1 (.slice z.1 z.2.1 z.2.2)=some Z6_:=by rw[<- S]; exact e6
   have T:∀ (a b c d e f g Q:Value),H5 (Z++[Au.cells [qIi 0,qIi 0,qIi 0,qIi 0,qIi 0,.slice none 0 0,.slice none 0 0,.bool false] Ab true]) Z.length 0 [a,b,c,d,e,f,g,Q]=some (Z++[Au.cells [a,b,c,d,e,f,g,Q] Ab true]):=fun a b c d e f g Q=>jm rfl;rw[OQ];simp only[dTu x ((DW m).length) (by omega),IS,qx,Aat,e,AI,IT,Acg,IN,Aa0,Nat.reduceAdd,l1,eP,An,Ae,T];have am:Dk (k+9) (AU i) ((2*y:Nat):Int) (Z++[Au.cells [qIi ((2*y:Nat):Int),qIi 0,qIi 0,qIi 0,qIi 0,.slice none 0 0,.slice none 0 0,.bool (iR m ((2*y:Nat):Int))] Ab true])=_:=eI;have ac:Aj .i64 (Z++[Au.cells [qIi ((2*y:Nat):Int),qIi 0,qIi 0,qIi 0,qIi 0,.slice none 0 0,.slice none 0 0,.bool (iR m ((2*y:Nat):Int))] Ab true]) Z.length 0=_:=aw;have a1:CY (Z++[Au.cells [qIi ((2*y:Nat):Int),qIi 0,qIi 0,qIi 0,qIi 0,.slice none 0 0,.slice none 0 0,.bool (iR m ((2*y:Nat):Int))] Ab true]) Z.length 1 (qIi (m.wds.getD (2*y) 0))=_:=s1;rw[ac,AI,am,AI];show (GV (.tuple #[qIi (m.wds.getD (2*y) 0),qIi 0]) _:Option Bq)=_;rw[B6];show ((CY (Z++[A]) Z.length 1 (qIi (m.wds.getD (2*y) 0))).bind _:Option Bq)=_;rw[s1,AI,ax,AI,V];simp only[AI,jq,Adl,Adx,IN,Nat.reduceAdd,Aat,Aey,Ae4,HA,Ah,s2,e3,e4,ai,z0,z1,z2,z3,z4,z5,z6,z7];have U:AH P Ab (j.os.1,x,x) (some ⟨Z4_.length,0,none⟩,1,1) (Z4_++[Au.cells [qIi (AR m y).addr,qIi (AR m y).id,qIi (AR m y).r,qIi (AR m y).d,qIi (AR m y).k,.slice s.1 s.2.1 s.2.2,.slice v.1 v.2.1 v.2.2,.bool (AR m y).W2] Ab true])=some (z,Z5_):=aj;simp only[U,AI,ak,w1,e7]
theorem im (k:Nat) (P:10000<=k) (h:Al J i m) (t:MK m):∃ τ j,Es (k+10) (AU i) J=some (qVi (Bj j),J++τ)/\JM (J++τ) j ⟨m.bls,Gr m,[],m.births⟩ /\ ∀ q ∈ j.l,J.length<=q:=by
 have d:=t.nt;have D:=Q6 d;have lt:=h.lt;obtain ⟨B,s⟩:∃ B,Au.cells [.slice none 0 0,.slice none 0 0,.slice none 0 0,qIi m.births] Dc true=B:=⟨_,rfl⟩;have o:JM (J++[B]) ⟨J.length,(none,0,0),(none,0,0),(none,0,0),[]⟩ ⟨[],[],[],m.births⟩:=by
  refine ⟨by rw[<- s]; simp,Ct.nil _ _ _,Ct.nil _ _ _,.inl (Ct.nil _ _ _),rfl,fun x E=>by simp at E,by simp[RI.l,hs],fun q b=>?_⟩;simp[RI.l,hs] at b;rw[b]; simp
 have h0:=h.app [B];have A:Dt (k+9) (AU i) J=_:=fh (k+7) h;obtain ⟨Z1_,F,p,v,w,K,H,M⟩:=aV (k+6) d J.length J.length m.bls.length 0 (k+9) (J++[B]) ⟨J.length,(none,0,0),(none,0,0),(none,0,0),[]⟩ h0 o rfl (fun q b=>by simp[RI.l,hs] at b; omega) lt (by simp) (by omega) (by omega);rw[show ((0:Nat):Int)=0 from rfl] at p;rw[Aaw,Ac3] at H;have c:∀ q,q<J.length->Z1_[q]?=J[q]?:=fun q b=>(M q b).trans (AT b);have h1:Al Z1_ i m:=h.Ax fun q b=>c q (lt q b);obtain ⟨e,sl,z,li⟩:=aB (k+3) (by omega) h1;have g:B8 (k+9) (AU i) Z1_=_:=z;have l:=li.ge;have li:Bf (Z1_++e) sl (DW m):=Bf.ints li;obtain ⟨Z3_,G,r,O,y,L,I,N⟩:=aW k (by omega) t J.length J.length (sl:=sl) (DW m).length 0 (k+9) (Z1_++e) F (h1.app e) (by rw[Agu]; exact v.app e) w K lt (by rw[Aaw]; omega) li (fun q b=>by
  obtain ⟨a,C,rfl⟩:=BV.1 b;have:=(l a C).1;exact ⟨fun n=>by have:=v.lt _ n; omega,by omega⟩) (by omega) (by omega);rw[show ((0:Nat):Int)=0 from rfl] at r;obtain ⟨τ,u⟩:∃ τ,Z3_=J++τ:=by
  refine GC (by rw[Aaw] at I; omega) fun q b=>?_;rw[N q b,AT (by omega),c q b]
 refine ⟨τ,G, ?_,by rw[<- u]; exact O,L⟩;have f:=li.form;have f1:sl.2.1=(DW m).length:=by rw[f]
 have f2:sl.2.2=(DW m).length:=by rw[f]
 rw[ZM];simp only[A,AI,Ah,Ae,s,p,Aat,g,Eo,f1,f2,r,u];unfold Bj;rw[y]
end
section
variable {J:Aa} {t:RM} {j j':RI}
theorem aH (k:Nat) {s1 s2:Bx} {l:List Int} (h1:D2 J s1 l) (h2:D2 J s2 l) (i:l.length<=1000000) (a b:Nat):∀ (n x f:Nat),x+n=l.length->n<f ->
  HY k f s1.1 l.length a s2.1 l.length b (x:Int) J=some (.exit 0,[],J)
 | n,x,0,g,e=>by omega
 | 0,x,f+1,g,e=>by
   rw[OO];simp only[dFu x l.length (by omega),By]
 | n+1,x,f+1,g,e=>by
   obtain ⟨q,c,j,_⟩:=h1.qa (x:=x) (by omega);obtain ⟨r,d,m,_⟩:=h2.qa (x:=x) (by omega);have o:=qSu x l.length (by omega);have p:=wSu x (by omega);have h:=aH k h1 h2 i a b n (x+1) f (by omega) (by omega);rw[c,d] at h;rw[OO];simp only[dTu x l.length (by omega),IS,o,Aat,c,d,AI,IT,Acg,IN,j,m,Abx,By,p,h]
theorem ij (k:Nat) {s1 s2:Bx} {l:List Int} (h1:D2 J s1 l) (h2:D2 J s2 l) (b:l.length<=1000000) (a:l.length<k):GH (k+1) (s1.1,s1.2.1,s1.2.2) (s2.1,s2.2.1,s2.2.2) J=some (.bool true,J):=by
 have e:=aH k h1 h2 b s1.2.2 s2.2.2 l.length 0 k (by omega) a;rw[show ((0:Nat):Int)=0 from rfl] at e;rw[ZL];simp only[h1.1,h2.1,Abx,By,e,AI,Aat]
theorem Abo (a b c d e f:Int):Lq P Ad (.agg #[qIi a,qIi b,qIi c]) (.agg #[qIi d,qIi e,qIi f])=(bif a == d then (bif b == e then some (c == f) else some false) else some false):=by kernel_rfl
end
end
end Go.Proofs.YtjbledomkmdkmaaGreat
