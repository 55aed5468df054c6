/- A scene is opened.; A collector over a scene.; A heap read: what was made of it. -/
import Derived.Test.YtjbledomkmdkmaaGreatP29
set_option linter.unusedVariables false
set_option linter.unusedSimpArgs false
set_option linter.unusedSectionVars false
namespace Go.Proofs.YtjbledomkmdkmaaGreat
open Go Go.AX
noncomputable section
local instance yz:AA:=Ap
section
variable {J:Aa} {m mr:HM} {t:RM} {r rq:DX} {I:LK}
def TD (m:HM) (b0 b1 b2:Nat):HM:=if 0<(Aq m (Xj m (b0 % 100))).1 then (Cv m (Xj m (b0 % 100)) ((b1:Int).tmod (Aq m (Xj m (b0 % 100))).1) (Xj m (b2 % 100))).2 else m
theorem pF (hM:MK m) (h:Ox m) (b0 b1 b2:Nat):MK (TD m b0 b1 b2)/\Ox (TD m b0 b1 b2)/\(TD m b0 b1 b2).births=m.births/\(TD m b0 b1 b2).bls.length=m.bls.length:=by
 unfold TD;split
 ·have s:=OH m (Xj m (b0 % 100)) ((b1:Int).tmod (Aq m (Xj m (b0 % 100))).1) (Xj m (b2 % 100));exact ⟨hM.setRef _ _ _,h.setRef hM.inv _ _ _,s.2.2.1,by rw[s.1]⟩
 ·exact ⟨hM,h,rfl,rfl⟩
theorem nD (J:Aa) (T:TypeId) (a b c x y z:Value):H2 (J++[.cells [a,b,c] T true]) J.length 0 [x,y,z]=some (J++[.cells [x,y,z] T true]):=EV J T a b c x y z
theorem XW (k:Nat) (hk:5000<=k) (B:Bg) (r:DX):∀ (n x:Nat) (m:HM),MK m->Ox m->x+n=min B.li.n 120 ->
  ∃ m',MK m'/\Ox m'/\m'.births=m.births/\m'.bls.length=m.bls.length /\ ∀ lo h0 sb,dD lo h0 sb B (fun f=>BH (k+12) f h0 sb (x:Int)) (.exit 4) n m m' r r
 | 0,x,m,hM,hz,hx=>by
   refine ⟨m,hM,hz,rfl,rfl,fun lo h0 sb f Z I t hf M=>?_⟩;obtain ⟨f,rfl⟩:∃ f',f=f'+1:=⟨f-1,by omega⟩;refine ⟨Z,I,t, ?_,M,Mv.refl _ _⟩;show BH _ _ _ _ _ _=_;rw[Ka];simp only[IN,M.b.AR.2.2.1,AI];by_cases q:x<B.li.n
   ·simp only[xZ (show (x:Int)<((B.li.n:Nat):Int) by omega),IT,xY (show ¬ (x:Int)<120 by omega),AI,By]
   ·simp only[xY (show ¬ (x:Int)<((B.li.n:Nat):Int) by omega),By,AI]
 | n+1,x,m,hM,hz,hx=>by
   obtain ⟨P1,P2,P3,P4⟩:=pF hM hz (B.li.at (x*3)).toNat (B.li.at (x*3+1)).toNat (B.li.at (x*3+2)).toNat;obtain ⟨m',a1,a2,a3,a4,LL⟩:=XW k hk B r n (x+1) _ P1 P2 (by omega);refine ⟨m',a1,a2,a3.trans P3,a4.trans P4,fun lo h0 sb f Z I t hf M=>?_⟩;have L:=LL lo h0 sb;obtain ⟨f,rfl⟩:∃ f',f=f'+1:=⟨f-1,by omega⟩;have w1:Ar ((x:Int)+1)=((x+1:Nat):Int):=Ah (by unfold AK; omega);have hxn:x<B.li.n:=by omega
   obtain ⟨q,eq,hq,ld⟩:=M.b.li.ld hxn;have qx:(0<=(x:Int)/\(x:Int)<((B.li.n:Nat):Int))=True:=zl (by omega);have d0:=ld Z rfl 0 (by decide);have d1:=ld Z rfl 1 (by decide);have d2:=ld Z rfl 2 (by decide);rw[yl] at d0;have g0:=M.b.li.rg (x*3);have g1:=M.b.li.rg (x*3+1);have g2:=M.b.li.rg (x*3+2);obtain ⟨y0,hy0⟩:∃ y:Nat,B.li.at (x*3)=(y:Int):=⟨(B.li.at (x*3)).toNat,by omega⟩;obtain ⟨y1,hy1⟩:∃ y:Nat,B.li.at (x*3+1)=(y:Int):=⟨(B.li.at (x*3+1)).toNat,by omega⟩;obtain ⟨y2,hy2⟩:∃ y:Nat,B.li.at (x*3+2)=(y:Int):=⟨(B.li.at (x*3+2)).toNat,by omega⟩;rw[hy0,hy1,hy2,xQ,xQ,xQ] at L;rw[hy0] at d0;rw[hy1] at d1;rw[hy2] at d2;have v0:Ar (y0:Int)=(y0:Int):=Ah (by unfold AK; omega);have v1:Ar (y1:Int)=(y1:Int):=Ah (by unfold AK; omega);have v2:Ar (y2:Int)=(y2:Int):=Ah (by unfold AK; omega);have em0:(y0:Int).tmod 100=((y0 % 100:Nat):Int):=Oq y0 100;have em2:(y2:Int).tmod 100=((y2 % 100:Nat):Int):=Oq y2 100;obtain ⟨A,hA⟩:∃ A,Au.cells [.int .u8 (y0:Int),.int .u8 (y1:Int),.int .u8 (y2:Int)] ax true=A:=⟨_,rfl⟩;have M1:=M.app [A];have la:∀ τ o v,([Value.int .u8 (y0:Int),.int .u8 (y1:Int),.int .u8 (y2:Int)]:List Value)[o]?=some (.int .u8 v)->Ak .u8 (Z++[A]++τ) Z.length o=some v:=fun τ o v h=>by rw[<- hA]; exact pA _ _ _ _ _ _ h
   have la0:Ak .u8 (Z++[A]) Z.length 0=some (y0:Int):=by have:=la [] 0 (y0:Int) rfl; rwa [yw] at this
   have hsb:=M.sb;subst hsb;have eA:Bk (k+12) (Ji I) ((y0 % 100:Nat):Int) (Z++[A])=_:=dq (k+11) M1.s (Aaq _ (by decide));have hain:=dm (n:=y0 % 100) hM;obtain ⟨a,ha⟩:∃ a,Xj m (y0 % 100)=a:=⟨_,rfl⟩;obtain ⟨τ2,eS⟩:=na (k+8) (by omega) M1.s.g a;have eS':FI (k+12) (Bx I.j) a (Z++[A])=_:=eS;rw[gw] at eS';obtain ⟨s1,s2,s3,s4⟩:=Ng hM.inv a;have M2:=M1.app τ2;obtain ⟨S,hS⟩:∃ S,Au.cells [.int .i64 (Aq m a).1,.int .i64 (Aq m a).2.1,.int .i64 (Aq m a).2.2] Ad true=S:=⟨_,rfl⟩;have M3:=M2.app [S];have lS:Ak .i64 (Z++[A]++τ2++[S]) (Z++[A]++τ2).length 0=some (Aq m a).1:=by rw[<- hS,Bh]; rfl
   have l2:BR (Z++[A]) I.sb 2=some (Bx I.j):=M1.s.SE;have hassoc:Z++[A]++τ2++[S]=Z++[A]++(τ2++[S]):=ya _ _ _;have lb1:Ak .u8 (Z++[A]++τ2++[S]) Z.length 1=some (y1:Int):=by rw[hassoc]; exact la _ 1 _ rfl
   have lb2:Ak .u8 (Z++[A]++τ2++[S]) Z.length 2=some (y2:Int):=by rw[hassoc]; exact la _ 2 _ rfl
   have mm:Mv I.fl I.fl Z (Z++[A]++τ2++[S]):=((Mv.app _ _ _).trans (Mv.app _ _ _)).trans (Mv.app _ _ _);have i0:(0<=(0:Int)/\(0:Int)<((3:Nat):Int))=True:=zl (by decide);have i1:(0<=(1:Int)/\(1:Int)<((3:Nat):Int))=True:=zl (by decide);have i2:(0<=(2:Int)/\(2:Int)<((3:Nat):Int))=True:=zl (by decide);have hh0:(Aq m a).1>0->AU m a=true:=fun h=>by
    unfold Aq at h;split at h
    ·assumption
    ·exact absurd h (by decide)
   show ∃ Z' I' t',BH _ _ _ _ _ _=_/\_;rw[Ka];simp only[IN,zu,Nat.reduceAdd,M.b.AR.2.2.1,AI,xZ (show (x:Int)<((B.li.n:Nat):Int) by omega),IT,xZ (show (x:Int)<120 by omega),qx,ye,eq,xQ,d0,d1,d2,Ae,nD,hA,i0,Aau,zw,la0,v0,em0,show ((100:Int)=0)=False from by simp,yq,eA,Ag,ha,l2,eS',j0,ze,zo,Aam,Aat,HG,hS];have go:∀ {X:Option Bl},TD m y0 y1 y2=m->X=BH (k+12) f h0 I.sb ((x+1:Nat):Int) (Z++[A]++τ2++[S]) -> ∃ Z' I' t',X=some (.exit 4,[],Z')/\Mk lo Z' I' m' t' r I.sb h0 B/\Mv I.fl I'.fl Z Z':=fun hl hX=>by
    rw[hl] at L;obtain ⟨Z',I',t',e3,M4,m4⟩:=L f _ I t (by omega) M3;exact ⟨Z',I',t',by rw[hX]; exact e3,M4,mm.trans m4⟩
   by_cases hr:0<(Aq m a).1;rotate_left
   ·have hl:TD m y0 y1 y2=m:=by unfold TD; rw[ha,ym hr]
    refine go hl ?_;have hb:((bif (if AU m a then (0:Int) else 4) == (0:Int) then (Ak .i64 (Z++[A]++τ2++[S]) (Z++[A]++τ2).length 0).bind fun n83=>some (decide (n83>(0:Int)),Z++[A]++τ2++[S]) else some (false,Z++[A]++τ2++[S])):Option (Bool × Aa))=some (false,Z++[A]++τ2++[S]):=by
     rw[lS];simp only[AI,xY (show ¬ (Aq m a).1>0 from hr)];cases (if AU m a then (0:Int) else 4) == (0:Int) <;> rfl
    simp only[hb,AI,By,w1]
   ·have hl:TD m y0 y1 y2=(Cv m a ((y1:Int).tmod (Aq m a).1) (Xj m (y2 % 100))).2:=by unfold TD; rw[ha,yk hr]
    rw[hl] at L;have hha:=hh0 hr;have eA2:Bk (k+12) (Ji I) ((y2 % 100:Nat):Int) (Z++[A]++τ2++[S])=_:=dq (k+11) M3.s (Aaq _ (by decide));obtain ⟨Z4_,I4,t4,e4,S4,m4,b4⟩:=rG (k+4) (by omega) M3.s a ((y1:Int).tmod (Aq m a).1) (Xj m (y2 % 100)) (by rw[<- ha]; exact hain.1) (dm hM).1;have M4:=M3.step S4 m4 b4;obtain ⟨Z',I',t',e5,M5,m5⟩:=L f Z4_ I4 t4 (by omega) M4;refine ⟨Z',I',t', ?_,M5,(mm.trans m4).trans m5⟩;have hif:(if AU m a=true then (0:Int) else 4)=0:=by rw[yk hha]
    simp only[hif,show ((0:Int) == 0)=true from rfl,IT,lS,AI,xZ (show (Aq m a).1>0 from hr),i1,ye,show (1:Int).toNat*1=1 from rfl,lb1,show ((Aq m a).1=0)=False from Ad0 (by omega),yq,i2,show (2:Int).toNat*1=2 from rfl,lb2,v2,em2,eA2,Ag,v1,e4,Ao,yp,By,w1];exact e5
theorem XX (k:Nat) (hk:5000<=k) (B:Bg) (m:HM) (hM:MK m):∀ (n x:Nat) (r:DX),OO m r->x+n=min B.pl.n 20 ->
  ∃ r',OO m r' /\ ∀ lo h0 sb,dD lo h0 sb B (fun f=>Cm (k+12) f h0 sb (x:Int)) (.exit 6) n m m r r'
 | 0,x,r,hz,hx=>by
   refine ⟨r,hz,fun lo h0 sb f Z I t hf M=>?_⟩;obtain ⟨f,rfl⟩:∃ f',f=f'+1:=⟨f-1,by omega⟩;refine ⟨Z,I,t, ?_,M,Mv.refl _ _⟩;show Cm _ _ _ _ _ _=_;rw[Kb];simp only[IN,M.b.AR.2.2.2.1,AI];by_cases q:x<B.pl.n
   ·simp only[xZ (show (x:Int)<((B.pl.n:Nat):Int) by omega),IT,xY (show ¬ (x:Int)<20 by omega),AI,By]
   ·simp only[xY (show ¬ (x:Int)<((B.pl.n:Nat):Int) by omega),By,AI]
 | n+1,x,r,hz,hx=>by
   have hz1:OO m (jl r (B.pl.at (x*2)).toNat (Xj m ((B.pl.at (x*2+1)).toNat % 100))):=fun v hv=>by
    rcases q8 hv with rfl | hv
    ·exact oI m _
    ·exact hz v hv
   obtain ⟨r',a1,LL⟩:=XX k hk B m hM n (x+1) _ hz1 (by omega);refine ⟨r',a1,fun lo h0 sb f Z I t hf M=>?_⟩;have L:=LL lo h0 sb;obtain ⟨f,rfl⟩:∃ f',f=f'+1:=⟨f-1,by omega⟩;have w1:Ar ((x:Int)+1)=((x+1:Nat):Int):=Ah (by unfold AK; omega);have hxn:x<B.pl.n:=by omega
   obtain ⟨q,eq,hq,ld⟩:=M.b.pl.ld hxn;have qx:(0<=(x:Int)/\(x:Int)<((B.pl.n:Nat):Int))=True:=zl (by omega);have d0:=ld Z rfl 0 (by decide);have d1:=ld Z rfl 1 (by decide);rw[yl] at d0;have g0:=M.b.pl.rg (x*2);have g1:=M.b.pl.rg (x*2+1);obtain ⟨y0,hy0⟩:∃ y:Nat,B.pl.at (x*2)=(y:Int):=⟨(B.pl.at (x*2)).toNat,by omega⟩;obtain ⟨y1,hy1⟩:∃ y:Nat,B.pl.at (x*2+1)=(y:Int):=⟨(B.pl.at (x*2+1)).toNat,by omega⟩;rw[hy0,hy1,xQ,xQ] at L;rw[hy0] at d0;rw[hy1] at d1;have v0:Ar (y0:Int)=(y0:Int):=Ah (by unfold AK; omega);have v1:Ar (y1:Int)=(y1:Int):=Ah (by unfold AK; omega);have em1:(y1:Int).tmod 100=((y1 % 100:Nat):Int):=Oq y1 100;have hsb:=M.sb;subst hsb;have eA:Bk (k+12) (Ji I) ((y1 % 100:Nat):Int) Z=_:=dq (k+11) M.s (Aaq _ (by decide));obtain ⟨Z4_,I4,t4,e4,S4,m4,b4⟩:=tX (k+7) M.s (n:=y0) (by omega) (Xj m (y1 % 100)) (dm hM).1;have M4:=M.step S4 m4 b4;obtain ⟨Z',I',t',e5,M5,m5⟩:=L f Z4_ I4 t4 (by omega) M4;refine ⟨Z',I',t', ?_,M5,m4.trans m5⟩;have i0:(0<=(0:Int)/\(0:Int)<((2:Nat):Int))=True:=zl (by decide);have i1:(0<=(1:Int)/\(1:Int)<((2:Nat):Int))=True:=zl (by decide);show Cm _ _ _ _ _ _=_;rw[Kb];simp only[IN,M.b.AR.2.2.2.1,AI,xZ (show (x:Int)<((B.pl.n:Nat):Int) by omega),IT,xZ (show (x:Int)<20 by omega),qx,ye,eq,xQ,i0,Aau,zw,yl,d0,i1,show (1:Int).toNat*1=1 from rfl,d1,v0,v1,em1,show ((100:Int)=0)=False from by simp,yq,eA,Ag,e4,Ao,yp,By,w1];exact e5
theorem XY (k:Nat) (hk:5000<=k) (B:Bg) (r:DX):∀ (n x:Nat) (m:HM),MK m->Ox m->OO m r->x+n=min B.pi.n 8 ->
  ∃ m',MK m'/\Ox m'/\OO m' r/\m'.births=m.births/\m'.bls.length=m.bls.length /\ ∀ lo h0 sb,dD lo h0 sb B (fun f=>Cn (k+12) f h0 sb (x:Int)) (.exit 8) n m m' r r
 | 0,x,m,hM,hz,hl,hx=>by
   refine ⟨m,hM,hz,hl,rfl,rfl,fun lo h0 sb f Z I t hf M=>?_⟩;obtain ⟨f,rfl⟩:∃ f',f=f'+1:=⟨f-1,by omega⟩;refine ⟨Z,I,t, ?_,M,Mv.refl _ _⟩;show Cn _ _ _ _ _ _=_;rw[Kc];simp only[IN,M.b.AR.2.2.2.2,AI];by_cases q:x<B.pi.n
   ·simp only[xZ (show (x:Int)<((B.pi.n:Nat):Int) by omega),IT,xY (show ¬ (x:Int)<8 by omega),AI,By]
   ·simp only[xY (show ¬ (x:Int)<((B.pi.n:Nat):Int) by omega),By,AI]
 | n+1,x,m,hM,hz,hl,hx=>by
   have pl:=Wh m (Xj m ((B.pi.at x).toNat % 100)) 1;obtain ⟨m',a1,a2,a3,a4,a5,LL⟩:=XY k hk B r n (x+1) _ (hM.Wg (Xj m ((B.pi.at x).toNat % 100)) 1) (hz.Wg _ _) (hl.Aw (by rw[pl.1]) pl.2.1) (by omega);refine ⟨m',a1,a2,a3,a4.trans pl.2.2.2.1,a5.trans (by rw[pl.1]),fun lo h0 sb f Z I t hf M=>?_⟩;have L:=LL lo h0 sb;obtain ⟨f,rfl⟩:∃ f',f=f'+1:=⟨f-1,by omega⟩;have w1:Ar ((x:Int)+1)=((x+1:Nat):Int):=Ah (by unfold AK; omega);have hxn:x<B.pi.n:=by omega
   obtain ⟨q,eq,hq,ld⟩:=M.b.pi.ld hxn;have qx:(0<=(x:Int)/\(x:Int)<((B.pi.n:Nat):Int))=True:=zl (by omega);have d0:=ld Z rfl 0 (by decide);rw[yl,yH] at d0;have g0:=M.b.pi.rg x;obtain ⟨y,hy⟩:∃ y:Nat,B.pi.at x=(y:Int):=⟨(B.pi.at x).toNat,by omega⟩;rw[hy,xQ] at L;rw[hy] at d0;have w0:Ar (y:Int)=(y:Int):=Ah (by unfold AK; omega);have em:(y:Int).tmod 100=((y % 100:Nat):Int):=Oq y 100;have eA:Bk (k+12) (Ji I) ((y % 100:Nat):Int) Z=_:=dq (k+11) M.s (Aaq _ (by decide));obtain ⟨J1_,J2_,j',t2,e1,c1,l1,e2,S2,m2⟩:=ou k hk M.s (Xj m (y % 100)) (dm hM).1;have M2:=M.step S2 m2 rfl;obtain ⟨Z',I',t',e3,M3,m3⟩:=L f J2_ _ t2 (by omega) M2;refine ⟨Z',I',t', ?_,M3,m2.trans m3⟩;have l2:BR Z I.sb 2=some (Bx I.j):=M.s.SE;have hsb:=M.sb;subst hsb;show Cn _ _ _ _ _ _=_;rw[Kc];simp only[IN,M.b.AR.2.2.2.2,AI,xZ (show (x:Int)<((B.pi.n:Nat):Int) by omega),IT,xZ (show (x:Int)<8 by omega),qx,ye,eq,xQ,yH,d0,w0,em,show ((100:Int)=0)=False from by simp,yq,eA,Ag,l2,e1,Oe c1,l1,e2,yr,By,w1];exact e3
theorem wN (a:Addr):J9 P G7 (.pointer (some a)) (.pointer none)=some false:=by kernel_rfl
theorem wK (a:Addr):J9 P E7 (.pointer (some a)) (.pointer none)=some false:=by kernel_rfl
structure NS (lo:Nat) (J:Aa) (B:Bg):Prop where
 b0:0<=B.bl/\B.bl<256
 m0:0<=B.mu/\B.mu<256
 ob:KU lo J 4 B.ob
 de:KU lo J 1 B.de
 li:KU lo J 3 B.li
 pl:KU lo J 2 B.pl
 pi:KU lo J 1 B.pi
theorem NS.DH {lo:Nat} {J J':Aa} {B:Bg} (h:NS lo J B) (hq:∀ q,q<lo->J'[q]?=J[q]?):NS lo J' B:=⟨h.b0,h.m0,h.ob.DH hq,h.de.DH hq,h.li.DH hq,h.pl.DH hq,h.pi.DH hq⟩
theorem KU.up {lo lo':Nat} {J:Aa} {w:Nat} {b:BL} (h:KU lo J w b) (hl:lo<=lo'):KU lo' J w b:=⟨h.len,h.rng,h.at_.imp id fun ⟨q,T,rw',e,h1,h2⟩=>⟨q,T,rw',e,yG h1 hl,h2⟩⟩
def pL (k:Nat) (B:Bg) (J:Aa):Option (Value × Aa):=GN k B.bl B.mu (B.ob.p,B.ob.n,B.ob.c) (B.de.p,B.de.n,B.de.c) (B.li.p,B.li.n,B.li.c) (B.pl.p,B.pl.n,B.pl.c) (B.pi.p,B.pi.n,B.pi.c) J
theorem rI (k:Nat) (hk:10000<=k) (B:Bg) (hb0:0<=B.bl/\B.bl<256) (hm0:0<=B.mu/\B.mu<256):∃ m r,MK m/\Ox m/\OO m r/\m.births<=40 /\ ∀ lo J,NS lo J B->lo<=J.length ->
  ∃ J' I t,pL (k+14) B J=some (.pointer (Ji I),J')/\Sn J' I m m t r r/\(∀ q ∈ I.fl,J.length<=q)/\J.length<=J'.length /\ ∀ q,q<J.length->J'[q]?=J[q]?:=by
 have e23:=Abs 23 hb0.1;have e23':=Aa0 B.bl (show (0:Int)<23 by decide);have e4:=Abs 4 hm0.1;have e4':=Aa0 B.mu (show (0:Int)<4 by decide);obtain ⟨nb,hnb⟩:∃ nb:Nat,2+B.bl.tmod 23=(nb:Int):=⟨(2+B.bl.tmod 23).toNat,by omega⟩;obtain ⟨mu,hmu⟩:∃ mu:Nat,1+B.mu.tmod 4=(mu:Int):=⟨(1+B.mu.tmod 4).toNat,by omega⟩;have hM0:MK (I6 nb):=MK.new (by omega) (by omega);obtain ⟨r0,hr0⟩:∃ r0:DX,(⟨mu,List.replicate (16*mu) 0,List.replicate 16 0,[]⟩:DX)=r0:=⟨_,rfl⟩;have hL0:∀ m,OO m r0:=fun m v hv=>by
  rw[<- hr0] at hv;unfold DX.all at hv;simp only[yf,Abf,zE,Abo] at hv;exact .inl (by rcases hv with hv | hv <;> exact hv.2)
 obtain ⟨m1,A1,A2,A3,A4,L0⟩:=XU k (by omega) B r0 (min B.ob.n 40) 0 (I6 nb) hM0 (M7.new nb) (by simp[I6]) (by omega);obtain ⟨m2,B1,B2,B3,B4,L1⟩:=XV (k+1) (by omega) B r0 (min B.de.n 20) 0 m1 A1 A2 (by omega);obtain ⟨m3,C1,C2,C3,C4,L2⟩:=XW (k+1) (by omega) B r0 (min B.li.n 120) 0 m2 B1 B2.s (by omega);obtain ⟨r4,D1,L3⟩:=XX (k+1) (by omega) B m3 C1 (min B.pl.n 20) 0 r0 (hL0 m3) (by omega);obtain ⟨m5,E1,E2,E3,E4,E5,L4⟩:=XY (k+1) (by omega) B r4 (min B.pi.n 8) 0 m3 C1 C2 D1 (by omega);refine ⟨m5,r4,E1,E2,E3,by rw[E4,C3,B3]; exact A3,fun lo J hB hlo=>?_⟩;obtain ⟨BX,hBX⟩:∃ BX,Au.cells [.int .u8 B.bl,.int .u8 B.mu,.slice B.ob.p B.ob.n B.ob.c,.slice B.de.p B.de.n B.de.c,.slice B.li.p B.li.n B.li.c,.slice B.pl.p B.pl.n B.pl.c,.slice B.pi.p B.pi.n B.pi.c] Dc true=BX:=⟨_,rfl⟩;have c0:(J++[BX])[J.length]?=some BX:=by simp
 have l0:(J++[BX]).length=J.length+1:=by simp
 obtain ⟨J1_,i,e1,h1,lo1,k1⟩:=oq (k+8) (n:=nb) (by omega) (by omega) (J++[BX]);have e1':Ix (k+13) (nb:Int) (J++[BX])=_:=e1;have len1:=k1.len;have q1:∀ q,q<J.length+1->J1_[q]?=(J++[BX])[q]?:=fun q hq=>k1.same q (by omega) fun hm=>by have:=lo1 q hm; omega
 obtain ⟨τ2,p,e2,h2,lo2⟩:=qe (k+12) (n:=mu) (by omega) (by omega) J1_;have e2':Hu (k+13) (mu:Int) J1_=_:=e2;rw[hr0] at h2;obtain ⟨A,hA⟩:∃ A,J1_++τ2=A:=⟨_,rfl⟩;rw[hA] at e2' h2;have lA:A.length=J1_.length+τ2.length:=by rw[<- hA]; simp
 have qA:∀ q,q<J1_.length->A[q]?=J1_[q]?:=fun q hq=>by rw[<- hA,AT hq]
 obtain ⟨S0,hS0⟩:∃ S0,Au.cells [.pointer (AM i),.pointer (FD p),.pointer none,.pointer none] B6 true=S0:=⟨_,rfl⟩;obtain ⟨τ4,j,e4,h4,lo4⟩:=sJ (k+12) (n:=nb) (by omega) (by omega) (A++[S0]);have e4':KF (k+13) (nb:Int) (A++[S0])=_:=e4;obtain ⟨C,hC⟩:∃ C,A++[S0]++τ4=C:=⟨_,rfl⟩;rw[hC] at e4' h4;have lC:C.length=A.length+1+τ4.length:=by rw[<- hC]; simp; omega
 have cC:C[A.length]?=some S0:=by rw[<- hC,AT (by simp)]; simp
 have qC:∀ q,q<A.length->C[q]?=A[q]?:=fun q hq=>by rw[<- hC,ya,AT hq]
 have s4:CT C A.length 2 (.pointer (Bx j))=some (C.set A.length (.cells [.pointer (AM i),.pointer (FD p),.pointer (Bx j),.pointer none] B6 true)):=by
  rw[<- hS0] at cC; simp[CT,cC]
 obtain ⟨D,hD⟩:∃ D,C.set A.length (.cells [.pointer (AM i),.pointer (FD p),.pointer (Bx j),.pointer none] B6 true)=D:=⟨_,rfl⟩;rw[hD] at s4;have lD:D.length=C.length:=by rw[<- hD]; simp
 have cD:D[A.length]?=some (.cells [.pointer (AM i),.pointer (FD p),.pointer (Bx j),.pointer none] B6 true):=by rw[<- hD,yo (by omega)]
 have qD:∀ q,q≠A.length->D[q]?=C[q]?:=fun q hq=>by rw[<- hD,yc (yW hq)]
 obtain ⟨τ6,q,e6,h6,lo6⟩:=qc (k+11) (by omega) (n:=mu) (by omega) (by omega) D;have e6':Hq (k+13) (mu:Int) D=_:=e6;rw[hr0] at h6;obtain ⟨E,hE⟩:∃ E,D++τ6=E:=⟨_,rfl⟩;rw[hE] at e6' h6;have qE:∀ q,q<D.length->E[q]?=D[q]?:=fun q hq=>by rw[<- hE,AT hq]
 have lE:D.length<=E.length:=by rw[<- hE]; simp
 have cE:=(qE A.length (by omega)).trans cD;have s6:CT E A.length 3 (.pointer (JA q))=some (E.set A.length (.cells [.pointer (AM i),.pointer (FD p),.pointer (Bx j),.pointer (JA q)] B6 true)):=by simp[CT,cE]
 obtain ⟨F,hF⟩:∃ F,E.set A.length (.cells [.pointer (AM i),.pointer (FD p),.pointer (Bx j),.pointer (JA q)] B6 true)=F:=⟨_,rfl⟩;rw[hF] at s6;have lF:F.length=E.length:=by rw[<- hF]; simp
 have cF:F[A.length]?=some (.cells [.pointer (AM i),.pointer (FD p),.pointer (Bx j),.pointer (JA q)] B6 true):=by rw[<- hF,yo (by omega)]
 have qF:∀ x,x≠A.length->F[x]?=E[x]?:=fun x hx=>by rw[<- hF,yc (yW hx)]
 have low:∀ x,x<A.length->F[x]?=A[x]?:=fun x hx=>by rw[qF x (by omega),qE x (by omega),qD x (by omega),qC x hx]
 have li:=h1.lt;have lp:=h2.lt;have lj:=h4.lt;have lq:=h6.lt;have S:Sn F ⟨A.length,i,j,p,q⟩ (I6 nb) (I6 nb) ⟨List.replicate nb (0,0),[],[],0⟩ r0 r0:=by
  refine ⟨cF,h1.Aw fun x hx=>?_,hM0,⟨h4.Aw (fun x hx=>?_) (by omega),PE.new nb,Inv.new nb,Inv2.new nb,hM0.sh.wl,hM0.nb,hM0.nt⟩,Kw.new nb,hM0,h2.Aw fun x hx=>low x (lp x hx),h6.Aw fun x hx=>?_,⟨?_,fun L hL x hx=>?_⟩⟩
  ·have:=li x hx;rw[low x (by omega),qA x this]
  ·have g1:=lo4 x hx;have g2:=lj x hx;rw[yi,zd] at g1;rw[qF x (by omega),qE x (by omega),qD x (by omega)]
  ·have g1:=lo6 x hx;rw[qF x (by omega)]
  ·have d1:∀ x ∈ i.l,x<J1_.length:=li;have d2:∀ x ∈ p.l,J1_.length<=x/\x<A.length:=fun x hx=>⟨lo2 x hx,lp x hx⟩;have d3:∀ x ∈ j.l,A.length<x/\x<D.length:=fun x hx=>by
    have g1:=lo4 x hx;have g2:=lj x hx;rw[yi,zd] at g1;omega
   have d4:∀ x ∈ q.l,D.length<=x:=lo6;show [i.l,j.l,p.l,q.l,[A.length]].Pairwise Dj;simp only[zB,yL,zE,Abo,forall_eq_or_imp,forall_eq,List.Pairwise.nil,and_true,false_implies,implies_true];refine ⟨⟨?_, ?_, ?_, ?_⟩,⟨?_, ?_, ?_⟩,⟨?_, ?_⟩, ?_⟩
   ·exact fun x hx hm=>by have:=d1 x hx; have:=d3 x hm; omega
   ·exact fun x hx hm=>by have:=d1 x hx; have:=d2 x hm; omega
   ·exact fun x hx hm=>by have:=d1 x hx; have:=d4 x hm; omega
   ·exact fun x hx hm=>by have:=d1 x hx; have:=yP.1 hm; omega
   ·exact fun x hx hm=>by have:=d3 x hx; have:=d2 x hm; omega
   ·exact fun x hx hm=>by have:=d3 x hx; have:=d4 x hm; omega
   ·exact fun x hx hm=>by have:=d3 x hx; have:=yP.1 hm; omega
   ·exact fun x hx hm=>by have:=d2 x hx; have:=d4 x hm; omega
   ·exact fun x hx hm=>by have:=d2 x hx; have:=yP.1 hm; omega
   ·exact fun x hx hm=>by have:=d4 x hx; have:=yP.1 hm; omega
  ·have hL:L ∈ [i.l,j.l,p.l,q.l,[A.length]]:=hL;simp only[yL,zE,Abo] at hL;rcases hL with rfl | rfl | rfl | rfl | rfl
   ·have:=li x hx; omega
   ·have:=lj x hx; omega
   ·have:=lp x hx; omega
   ·have:=lq x hx; omega
   ·have:=yP.1 hx; omega
 have qlow:∀ x,x<J.length+1->F[x]?=(J++[BX])[x]?:=fun x hx=>by rw[low x (by omega),qA x (by omega),q1 x hx]
 have qlow0:∀ x,x<J.length->F[x]?=J[x]?:=fun x hx=>by rw[qlow x (by omega),AT hx]
 have hBF:=hB.DH (J':=F) fun x hx=>qlow0 x (by omega);have M0:Mk (J.length+1) F ⟨A.length,i,j,p,q⟩ (I6 nb) ⟨List.replicate nb (0,0),[],[],0⟩ r0 A.length J.length B:=by
  refine ⟨S,rfl,⟨by rw[qlow _ (by omega),c0,<- hBX],by omega,hb0,hm0,hBF.ob.up (by omega),hBF.de.up (by omega),hBF.li.up (by omega),hBF.pl.up (by omega),hBF.pi.up (by omega)⟩,fun x hx=>?_,by omega⟩;obtain ⟨L,hL,hx⟩:=zm.1 hx;have hL:L ∈ [i.l,j.l,p.l,q.l,[A.length]]:=hL;simp only[yL,zE,Abo] at hL;rcases hL with rfl | rfl | rfl | rfl | rfl
  ·have:=lo1 x hx; omega
  ·have:=lo4 x hx; rw[yi] at this; omega
  ·have:=lo2 x hx; omega
  ·have:=lo6 x hx; omega
  ·have:=yP.1 hx; omega
 obtain ⟨Z1_,I1,t1,f1,M1,v1⟩:=L0 (J.length+1) J.length A.length (k+13) F _ _ (by omega) M0;obtain ⟨Z2_,I2,t2,f2,M2,v2⟩:=L1 (J.length+1) J.length A.length (k+13) Z1_ _ _ (by omega) M1;obtain ⟨Z3_,I3,t3,f3,M3,v3⟩:=L2 (J.length+1) J.length A.length (k+13) Z2_ _ _ (by omega) M2;obtain ⟨Z4_,I4,t4,f4,M4,v4⟩:=L3 (J.length+1) J.length A.length (k+13) Z3_ _ _ (by omega) M3;obtain ⟨Z5_,I5,t5,f5,M5,v5⟩:=L4 (J.length+1) J.length A.length (k+13) Z4_ _ _ (by omega) M4;have vv:=(((v1.trans v2).trans v3).trans v4).trans v5;refine ⟨Z5_,I5,t5, ?_,M5.s,fun x hx=>by have:=M5.new x hx; omega,by have:=M5.ll; omega,fun x hx=>(M0.low vv x (by omega)).trans (qlow0 x hx)⟩;have wb:Ar B.bl=B.bl:=Ah (by unfold AK; omega);have wm:Ar B.mu=B.mu:=Ah (by unfold AK; omega);have wn:Ar (nb:Int)=(nb:Int):=Ah (by unfold AK; omega);have wu:Ar (mu:Int)=(mu:Int):=Ah (by unfold AK; omega);have x0:Ak .u8 (J++[BX]) J.length 0=some B.bl:=by rw[<- hBX,Bh]; rfl
 have x1:Ak .u8 (J++[BX]) J.length 1=some B.mu:=by rw[<- hBX,Bh]; rfl
 have f1':Cj (k+13) (k+13) J.length A.length 0 F=_:=f1;have f2':Ck (k+13) (k+13) J.length A.length 0 Z1_=_:=f2;have f3':BH (k+13) (k+13) J.length A.length 0 Z2_=_:=f3;have f4':Cm (k+13) (k+13) J.length A.length 0 Z3_=_:=f4;have f5':Cn (k+13) (k+13) J.length A.length 0 Z4_=_:=f5;unfold pL;rw[QE];simp only[Ae,hBX,IN,Nat.reduceAdd,x0,x1,AI,wb,wm,hnb,hmu,wn,wu,show ((23:Int)=0)=False from by simp,show ((4:Int)=0)=False from by simp,yq,e1',Ku,e2',wK,By,uw,yr,hS0,e4',s4,e6',s6,f1',f2',f3',f4',f5',ye];unfold Ji;rw[M5.sb]
end
section
variable {J:Aa} {m:HM} {r:DX} {s:TC} {i:Cd} {p:PI}
theorem Sv.new {nb:Nat} (look:Bool) (born:Int):Sv nb (Tt nb look born):=
 ⟨by simp[Tt],zh _,fun v hv=>by simp[Tt] at hv,zh _,fun _=>rfl,fun _=>rfl⟩
theorem bJ (k:Nat) (hk:10<=k) (h:Ai J i m) (hM:MK m) (hr:Gv J p r) (hd:Fp J [i.l,p.l]) (look:Bool) (born:Int):
  ∃ τ c,LO (k+5) (AM i) (FD p) look born J=some (.tuple #[.pointer (Dd c),.int .i64 0],J++τ)/\JT (J++τ) i p c m r (Tt m.bls.length look born) /\ ∀ q ∈ c.l,J.length<=q:=by
 have hnb:=hM.nb;have hnt:=hM.nt;have hm1:=hr.ok.m1;have eB:∀ Z,Ai Z i m->Ax (k+4) (AM i) Z=some (.int .i64 ((m.bls.length:Nat):Int),Z):=fun Z hμ=>Gm (k+2) hμ;have eM:BV (k+4) (FD p) J=_:=W8 (k+2) hr;obtain ⟨S0,hS0⟩:∃ S0,Au.cells [.pointer (AM i),.pointer (FD p),.bool look,.int .i64 born,.int .i64 (0:Int),.pointer none,.slice none 0 0,.slice none 0 0,.int .i64 (0:Int)] GD true=S0:=⟨_,rfl⟩;have h1:=h.app [S0];have e1:((m.bls.length:Nat):Int)*64=((64*m.bls.length:Nat):Int):=by omega
 have e2:Ar ((64*m.bls.length:Nat):Int)=((64*m.bls.length:Nat):Int):=Ah (by unfold AK; omega);have e3:((64*m.bls.length:Nat):Int).tdiv 2=((32*m.bls.length:Nat):Int):=by rw[show ((2:Int))=((2:Nat):Int) from rfl,Xd]; congr 1; omega
 have e4:Ar ((32*m.bls.length:Nat):Int)=((32*m.bls.length:Nat):Int):=Ah (by unfold AK; omega);obtain ⟨τ,tb,wb,e5,ht,lt1,lt2,hne⟩:=cV k hk (e:=32*m.bls.length) (by omega) (by omega) (J++[S0]);rw[yi,zd] at lt1 lt2;have tl:=ht.lt;have c0:(J++[S0]++τ)[J.length]?=some S0:=by rw[AT (by simp)]; simp
 have es:CT (J++[S0]++τ) J.length 5 (.pointer (some ⟨tb,0,none⟩))=some ((J++[S0]++τ).set J.length (.cells (Gb ⟨J.length,tb,wb,(none,0,0),(none,0,0)⟩ i.hb p.rb (Tt m.bls.length look born)) GD true)):=by
  rw[<- hS0] at c0 ⊢;simp only[CT,c0];rfl
 obtain ⟨F,hF⟩:∃ F,(J++[S0]++τ).set J.length (.cells (Gb ⟨J.length,tb,wb,(none,0,0),(none,0,0)⟩ i.hb p.rb (Tt m.bls.length look born)) GD true)=F:=⟨_,rfl⟩;rw[hF] at es;have lF:F.length=J.length+1+τ.length:=by rw[<- hF,yZ,yi,yi,zd]
 have low:∀ q,q<J.length->F[q]?=J[q]?:=fun q hq=>by rw[<- hF,yc (by omega),ya,AT hq]
 obtain ⟨τ',hτ'⟩:∃ τ',F=J++τ':=FV (by omega) low;refine ⟨τ',⟨J.length,tb,wb,(none,0,0),(none,0,0)⟩, ?_, ?_,fun q hq=>?_⟩
 ·rw[bZ];simp only[eB _ h,AI,Ag,xY (show ¬ ((m.bls.length:Nat):Int)<=0 by omega),By,eM,show (((r.mu:Nat):Int) == 0)=false from by rw[yM]; omega,Ae,hS0,eB _ h1,e1,e2,e3,e4,show ((2:Int)=0)=False from by simp,yq,e5,Ku,IN,es,hτ']
 ·rw[<- hτ'];have co:FA F ⟨J.length,tb,wb,(none,0,0),(none,0,0)⟩ i.hb p.rb m.bls.length (Tt m.bls.length look born):=by
   refine ⟨by rw[<- hF]; exact yo (by rw[yi,yi,zd]; omega),ht.same (by rw[<- hF]; exact yc (by omega)) (by rw[<- hF]; exact yc (by omega)),Ba.nil _,Ba.nil _,⟨by show J.length≠tb; omega,by show J.length≠wb; omega,hne,fun q hq=>by simp[hs] at hq,fun q hq=>by simp[hs] at hq⟩⟩
  refine ⟨h.Aw fun q hq=>low q (h.lt q hq),hM,hr.Aw fun q hq=>low q (hr.lt q hq),co, ?_,Sv.new look born⟩;have hc:∀ q ∈ (⟨J.length,tb,wb,(none,0,0),(none,0,0)⟩:CI).l,J.length<=q:=fun q hq=>by
   rcases CI.mem hq with hq | hq | hq | hq | hq
   ·exact Ac0 hq.symm
   ·have hq:q=tb:=hq; omega
   ·have hq:q=wb:=hq; omega
   ·simp[hs] at hq
   ·simp[hs] at hq
  have hF':=hd.cons (J':=F) (L:=(⟨J.length,tb,wb,(none,0,0),(none,0,0)⟩:CI).l) (fun q hq=>⟨hc q hq,co.lt q hq⟩) (by omega);exact hF'.sub [1,2,0] (by decide) (by simp) rfl
 ·rcases CI.mem hq with hq | hq | hq | hq | hq
  ·exact Ac0 hq.symm
  ·have hq:q=tb:=hq; omega
  ·have hq:q=wb:=hq; omega
  ·simp[hs] at hq
  ·simp[hs] at hq
structure XI where
 xb:Nat
 kb:Nat
 I:LK
 c:CI
def XI.Ls (X:XI):List (List Nat):=[X.I.i.l,X.I.p.l,X.c.l,[X.xb],[X.kb],[X.I.sb],X.I.q.l]
abbrev nO (X:XI):Option Addr:=some ⟨X.xb,0,none⟩
abbrev KY (X:XI):Option Addr:=some ⟨X.kb,0,none⟩
structure MF (J:Aa) (X:XI) (m:HM) (r:DX) (s:TC):Prop where
 run:∃ kp lo bn,J[X.xb]?=some (.cells [.pointer (Ji X.I),.pointer (KY X),kp,lo,bn] AW true)
 col:J[X.kb]?=some (.cells [.pointer (Dd X.c)] H0 true)
 sc:J[X.I.sb]?=some (.cells (GV X.I) B6 true)
 t:JT J X.I.i X.I.p X.c m r s
 q:∃ rq,FY J X.I.q rq/\rq.mu=r.mu
 fp:Fp J X.Ls
variable {X:XI}
theorem MF.E6 (h:MF J X m r s):BR J X.xb 1=some (KY X):=by
 obtain ⟨_,_,_,e⟩:=h.run;simp[BR,D5,e,HD]
theorem MF.GK (h:MF J X m r s):BR J X.xb 0=some (Ji X.I):=by
 obtain ⟨_,_,_,e⟩:=h.run;simp[BR,D5,e,HD]
theorem MF.fg (h:MF J X m r s):BR J X.I.sb 0=some (AM X.I.i):=by simp[BR,D5,h.sc,GV,HD]
theorem MF.Aw {J':Aa} (h:MF J X m r s) (hl:J.length<=J'.length) (hq:∀ L ∈ X.Ls,∀ q ∈ L,J'[q]?=J[q]?):MF J' X m r s:=
 ⟨(by obtain ⟨a,b,c,e⟩:=h.run; exact ⟨a,b,c,(hq [X.xb] (by simp[XI.Ls]) _ (by simp)).trans e⟩),(hq [X.kb] (by simp[XI.Ls]) _ (by simp)).trans h.col,(hq [X.I.sb] (by simp[XI.Ls]) _ (by simp)).trans h.sc,h.t.Aw hl (hq _ (by simp[XI.Ls])) (hq _ (by simp[XI.Ls])) (hq _ (by simp[XI.Ls])),(by obtain ⟨rq,a,b⟩:=h.q; exact ⟨rq,a.Aw (hq _ (by simp[XI.Ls])),b⟩),⟨h.fp.dj,fun L hL q hm=>yG (h.fp.lt L hL q hm) hl⟩⟩
theorem MF.app (h:MF J X m r s) (τ:Aa):MF (J++τ) X m r s:=h.Aw (by simp) fun L hL q hq=>AT (h.fp.lt L hL q hq)
theorem MF.core (k:Nat) (h:MF J X m r s):Al (k+1) (KY X) J=some (.pointer (Dd X.c),J):=by
 have l0:BR J X.kb 0=some (Dd X.c):=by simp[BR,D5,h.col,HD]
 rw[Kk];simp only[show J9 P D4 (.pointer (KY X)) (.pointer none)=some false from by kernel_rfl,AI,By,IN,l0]
theorem MF.turn {J':Aa} {c':CI} {m':HM} {s':TC} (h:MF J X m r s) (T:JT J' X.I.i X.I.p c' m' r s') (hm:Mv (X.I.i.l++X.c.l) (X.I.i.l++c'.l) J J') (hc:c'.cb=X.c.cb):
  MF J' { X with c:=c' } m' r s'/\Mv X.Ls.flatten ({ X with c:=c' }:XI).Ls.flatten J J':=by
 have dj:=fun {a b:Nat} (ha:a<X.Ls.length) (hb:b<X.Ls.length) (hne:b≠a)=>h.fp.ne ha hb hne;have DH:∀ y (hy:y<X.Ls.length),y≠0->y≠2->(∀ q ∈ X.Ls[y],J'[q]?=J[q]?)/\(∀ q ∈ X.Ls[y],q ∉ X.I.i.l++c'.l) /\ ∀ q ∈ X.Ls[y],q<J'.length:=fun y hy h0 h2=>hm.DH (fun q hq=>h.fp.lt _ (yU hy) q hq) fun q hq hm'=>by
  rcases yf.1 hm' with hm' | hm'
  ·exact h.fp.ne (x:=y) (y:=0) hy (by simp[XI.Ls]) (yW h0) q hq hm'
  ·exact h.fp.ne (x:=y) (y:=2) hy (by simp[XI.Ls]) (yW h2) q hq hm'
 obtain ⟨a3,b3,g3⟩:=DH 3 (by simp[XI.Ls]) (by decide) (by decide);obtain ⟨a4,b4,g4⟩:=DH 4 (by simp[XI.Ls]) (by decide) (by decide);obtain ⟨a5,b5,g5⟩:=DH 5 (by simp[XI.Ls]) (by decide) (by decide);obtain ⟨a6,b6,g6⟩:=DH 6 (by simp[XI.Ls]) (by decide) (by decide);have a6:∀ q ∈ X.I.q.l,J'[q]?=J[q]?:=a6;have b6:∀ q ∈ X.I.q.l,q ∉ X.I.i.l++c'.l:=b6;have g6:∀ q ∈ X.I.q.l,q<J'.length:=g6;have xb:=a3 X.xb (by simp[XI.Ls]);have kb:=a4 X.kb (by simp[XI.Ls]);have sb:=a5 X.I.sb (by simp[XI.Ls]);have D:∀ {a b:Nat} (ha:a<7) (hb:b<7),b≠a->Dj (X.Ls[a]'(by simpa [XI.Ls] using ha)) (X.Ls[b]'(by simpa [XI.Ls] using hb)):=fun ha hb hne=>h.fp.ne _ _ hne;refine ⟨⟨(by obtain ⟨a,b,c,e⟩:=h.run; exact ⟨a,b,c,by rw[xb,e]⟩), ?_,sb.trans h.sc,T,(by obtain ⟨rq,a,b⟩:=h.q; exact ⟨rq,a.Aw a6,b⟩),⟨?_,fun L hL q hq=>?_⟩⟩,hm.wide (fun q hq=>?_) fun q hq=>?_⟩
 ·rw[kb,h.col]; unfold Dd; rw[hc]
 ·have t01:=T.fp.ne (x:=0) (y:=1) (by simp) (by simp) (by decide);have t02:=T.fp.ne (x:=0) (y:=2) (by simp) (by simp) (by decide);have t12:=T.fp.ne (x:=1) (y:=2) (by simp) (by simp) (by decide);have o3:X.xb ∉ X.I.i.l++c'.l:=b3 _ (by simp[XI.Ls]);have o4:X.kb ∉ X.I.i.l++c'.l:=b4 _ (by simp[XI.Ls]);have o5:X.I.sb ∉ X.I.i.l++c'.l:=b5 _ (by simp[XI.Ls]);have sg:∀ {L:List Nat} {q:Nat},q ∉ L->Dj L [q]:=fun hn x hx hm'=>hn (by rw[<- yP.1 hm']; exact hx);have p3:Dj X.I.p.l [X.xb]:=D (a:=1) (b:=3) (by decide) (by decide) (by decide);have p4:Dj X.I.p.l [X.kb]:=D (a:=1) (b:=4) (by decide) (by decide) (by decide);have p5:Dj X.I.p.l [X.I.sb]:=D (a:=1) (b:=5) (by decide) (by decide) (by decide);have q34:Dj [X.xb] [X.kb]:=D (a:=3) (b:=4) (by decide) (by decide) (by decide);have q35:Dj [X.xb] [X.I.sb]:=D (a:=3) (b:=5) (by decide) (by decide) (by decide);have q45:Dj [X.kb] [X.I.sb]:=D (a:=4) (b:=5) (by decide) (by decide) (by decide);have p6:Dj X.I.p.l X.I.q.l:=D (a:=1) (b:=6) (by decide) (by decide) (by decide);have i6:Dj X.I.i.l X.I.q.l:=D (a:=0) (b:=6) (by decide) (by decide) (by decide);have q36:Dj [X.xb] X.I.q.l:=D (a:=3) (b:=6) (by decide) (by decide) (by decide);have q46:Dj [X.kb] X.I.q.l:=D (a:=4) (b:=6) (by decide) (by decide) (by decide);have q56:Dj [X.I.sb] X.I.q.l:=D (a:=5) (b:=6) (by decide) (by decide) (by decide);have c6:Dj c'.l X.I.q.l:=fun x hx hm'=>b6 x hm' (yf.2 (.inr hx));show [X.I.i.l,X.I.p.l,c'.l,[X.xb],[X.kb],[X.I.sb],X.I.q.l].Pairwise Dj;have n1:∀ {q},q ∉ X.I.i.l++c'.l->q ∉ X.I.i.l:=fun hn hm'=>hn (yf.2 (.inl hm'));have n2:∀ {q},q ∉ X.I.i.l++c'.l->q ∉ c'.l:=fun hn hm'=>hn (yf.2 (.inr hm'));simp only[zB,yL,zE,Abo,forall_eq_or_imp,forall_eq,List.Pairwise.nil,and_true,false_implies,implies_true];exact ⟨⟨t01,t02,sg (n1 o3),sg (n1 o4),sg (n1 o5),i6⟩,⟨t12,p3,p4,p5,p6⟩,⟨sg (n2 o3),sg (n2 o4),sg (n2 o5),c6⟩,⟨q34,q35,q36⟩,⟨q45,q46⟩,q56⟩
 ·have hL:L ∈ [X.I.i.l,X.I.p.l,c'.l,[X.xb],[X.kb],[X.I.sb],X.I.q.l]:=hL;simp only[yL,zE,Abo] at hL;rcases hL with rfl | rfl | rfl | rfl | rfl | rfl | rfl
  ·exact T.h.lt q hq
  ·exact T.rt.lt q hq
  ·exact T.co.lt q hq
  ·exact g3 q (by simpa [XI.Ls] using hq)
  ·exact g4 q (by simpa [XI.Ls] using hq)
  ·exact g5 q (by simpa [XI.Ls] using hq)
  ·exact g6 q hq
 ·rcases yf.1 hq with hq | hq
  ·exact zm.2 ⟨_,by simp[XI.Ls],hq⟩
  ·exact zm.2 ⟨X.c.l,by simp[XI.Ls],hq⟩
 ·obtain ⟨L,hL,hq⟩:=zm.1 hq;have hL:L ∈ [X.I.i.l,X.I.p.l,c'.l,[X.xb],[X.kb],[X.I.sb],X.I.q.l]:=hL;simp only[yL,zE,Abo] at hL;rcases hL with rfl | rfl | rfl | rfl | rfl | rfl | rfl
  ·exact .inl (zm.2 ⟨_,by simp[XI.Ls],hq⟩)
  ·exact .inl (zm.2 ⟨X.I.p.l,by simp[XI.Ls],hq⟩)
  ·exact .inr (.inl (yf.2 (.inr hq)))
  ·exact .inl (zm.2 ⟨[X.xb],by simp[XI.Ls],hq⟩)
  ·exact .inl (zm.2 ⟨[X.kb],by simp[XI.Ls],hq⟩)
  ·exact .inl (zm.2 ⟨[X.I.sb],by simp[XI.Ls],hq⟩)
  ·exact .inl (zm.2 ⟨X.I.q.l,by simp[XI.Ls],hq⟩)
def XG (mm:Option (Value × Aa)) (J:Aa) (X:XI) (r:DX) (v:Value) (q:HM × TC):Prop:=
 ∃ J' X',mm=some (v,J')/\MF J' X' q.1 r q.2/\Mv X.Ls.flatten X'.Ls.flatten J J'/\X'.xb=X.xb/\X'.kb=X.kb
theorem lR (k:Nat) (hk:5000<=k) (h:MF J X m r s) (hp:s.ph=0) (hs:OJ m r=true):XG (B5 (k+14) (KY X) J) J X r (.int .i64 0) (m,OK m r s):=by
 obtain ⟨J',c',e,T,hm,hc⟩:=dG k hk h.t hp hs;obtain ⟨h',m'⟩:=h.turn T hm hc;refine ⟨J',_, ?_,h',m',rfl,rfl⟩;rw[JN];have ec:Al (k+13) (KY X) J=_:=h.core (k+12);simp only[ec,AI,HD,e,Ag]
theorem oS (k:Nat) (hk:20000<=k) (h:MF J X m r s) {N:Nat} (h1:1<=N) (hN:N<=10000):XG (BI (k+17) (KY X) (N:Int) J) J X r (.tuple #[.int .i64 ((Cz r N (m,s)).1:Int),.int .i64 0]) (Cz r N (m,s)).2:=by
 obtain ⟨J',c',e,T,hm,hc⟩:=jH k hk h.t h1 hN;obtain ⟨h',m'⟩:=h.turn T hm hc;refine ⟨J',_, ?_,h',m',rfl,rfl⟩;rw[Kj];have ec:Al (k+16) (KY X) J=_:=h.core (k+15);simp only[ec,AI,HD,e,Cp]
def hJ (k:Nat) (B:Bg) (J:Aa):Option (Value × Aa):=IW k B.bl B.mu (B.ob.p,B.ob.n,B.ob.c) (B.de.p,B.de.n,B.de.c) (B.li.p,B.li.n,B.li.c) (B.pl.p,B.pl.n,B.pl.c) (B.pi.p,B.pi.n,B.pi.c) J
theorem oQ (k:Nat) (hk:10000<=k) (B:Bg) (hb0:0<=B.bl/\B.bl<256) (hm0:0<=B.mu/\B.mu<256):∃ m r,MK m/\Ox m/\OO m r /\ ∀ lo J,NS lo J B->lo<=J.length ->
  ∃ J' X,hJ (k+15) B J=some (.pointer (nO X),J')/\MF J' X m r (Tt m.bls.length false 2)/\(∀ L ∈ X.Ls,∀ q ∈ L,J.length<=q)/\J.length<=J'.length /\ ∀ q,q<J.length->J'[q]?=J[q]?:=by
 obtain ⟨m,r,hM,hR,hL,hB,run⟩:=rI k hk B hb0 hm0;refine ⟨m,r,hM,hR,hL,fun lo J hA hlo=>?_⟩;obtain ⟨BX,hBX⟩:∃ BX,Au.cells [.int .u8 B.bl,.int .u8 B.mu,.slice B.ob.p B.ob.n B.ob.c,.slice B.de.p B.de.n B.de.c,.slice B.li.p B.li.n B.li.c,.slice B.pl.p B.pl.n B.pl.c,.slice B.pi.p B.pi.n B.pi.c] Dc true=BX:=⟨_,rfl⟩;obtain ⟨J1_,I,t,e1,S,n1,l1,q1⟩:=run lo (J++[BX]) (hA.DH fun q hq=>AT (by omega)) (by rw[yi]; omega);rw[yi,zd] at n1 l1 q1;have flm:∀ {L:List Nat},L ∈ I.Ls -> ∀ q ∈ L,J.length+1<=q:=fun hL q hq=>n1 q (zm.2 ⟨_,hL,hq⟩);obtain ⟨τ,c,e2,T,n2⟩:=bJ (k+8) (by omega) S.h S.mo S.rt (S.fp.sub [0,2] (by decide) (by simp[LK.Ls]) rfl) false 2;have e2':LO (k+13) (AM I.i) (FD I.p) false 2 J1_=_:=e2;have S2:=S.app τ;obtain ⟨K0,hK0⟩:∃ K0,Au.cells [.pointer (Dd c)] H0 true=K0:=⟨_,rfl⟩;obtain ⟨R0,hR0⟩:∃ R0,Au.cells [.pointer (Ji I),.pointer (some ⟨(J1_++τ).length,0,none⟩),.slice none 0 0,.slice none 0 0,.int .i64 0] AW true=R0:=⟨_,rfl⟩;have T3:JT (J1_++τ++[K0]++[R0]) I.i I.p c m r (Tt m.bls.length false 2):=(T.app [K0]).app [R0];have S3:=(S2.app [K0]).app [R0];have l2:(J1_++τ).length=J1_.length+τ.length:=yi;refine ⟨J1_++τ++[K0]++[R0],⟨(J1_++τ++[K0]).length,(J1_++τ).length,I,c⟩, ?_,⟨?_, ?_,S3.cell,T3,⟨r,S3.rq,rfl⟩, ?_⟩, ?_, ?_, ?_⟩
 ·have x0:Ak .u8 (J++[BX]) J.length 0=some B.bl:=by rw[<- hBX,Bh]; rfl
  have x1:Ak .u8 (J++[BX]) J.length 1=some B.mu:=by rw[<- hBX,Bh]; rfl
  have x2:AR (J++[BX]) J.length 2=some (B.ob.p,B.ob.n,B.ob.c)/\AR (J++[BX]) J.length 3=some (B.de.p,B.de.n,B.de.c)/\AR (J++[BX]) J.length 4=some (B.li.p,B.li.n,B.li.c)/\AR (J++[BX]) J.length 5=some (B.pl.p,B.pl.n,B.pl.c)/\AR (J++[BX]) J.length 6=some (B.pi.p,B.pi.n,B.pi.c):=by
   simp[AR,D5,<- hBX,ED]
  obtain ⟨y2,y3,y4,y5,y6⟩:=x2;unfold pL at e1;have eI:Jx (k+14) (AM I.i) (FD I.p) J1_=some (.tuple #[.pointer (some ⟨(J1_++τ).length,0,none⟩),.int .i64 0],J1_++τ++[K0]):=by
   rw[show k+14=(k+13)+1 from rfl,T9];simp only[e2',AI,Ku,yr,By,Ae,hK0]
  unfold hJ;rw[VJ];simp only[Ae,hBX,IN,Nat.reduceAdd,x0,x1,y2,y3,y4,y5,y6,AI,e1,HD,wN,By,S.GK,S.E6,eI,Ku,show ∀ a:Addr,J9 P D4 (.pointer (some a)) (.pointer none)=some false from fun a=>by kernel_rfl,yr,hR0]
 ·exact ⟨_,_,_,by rw[yK,<- hR0]⟩
 ·rw[AT (by simp),yK,<- hK0]
 ·have F0:Fp J1_ [I.i.l,I.p.l,[I.sb],I.q.l]:=S.fp.sub [0,2,4,3] (by decide) (by simp[LK.Ls]) rfl;have F1:=F0.cons (J':=J1_++τ) (L:=c.l) (fun q hq=>⟨n2 q hq,T.co.lt q hq⟩) (by omega);have F2:=F1.cons (J':=J1_++τ++[K0]) (L:=[(J1_++τ).length]) (fun q hq=>by rw[yP.1 hq,yi (bs:=[K0])]; simp) (by simp);have F3:=F2.cons (J':=J1_++τ++[K0]++[R0]) (L:=[(J1_++τ++[K0]).length]) (fun q hq=>by rw[yP.1 hq]; simp) (by simp);exact F3.sub [3,4,2,0,1,5,6] (by decide) (by simp) rfl
 ·intro L hL q hq;have hL:L ∈ [I.i.l,I.p.l,c.l,[(J1_++τ++[K0]).length],[(J1_++τ).length],[I.sb],I.q.l]:=hL;simp only[yL,zE,Abo] at hL;rcases hL with rfl | rfl | rfl | rfl | rfl | rfl | rfl
  ·have:=flm (L:=I.i.l) (by simp[LK.Ls]) q hq; omega
  ·have:=flm (L:=I.p.l) (by simp[LK.Ls]) q hq; omega
  ·have:=n2 q hq; omega
  ·have:=yP.1 hq; simp at this; omega
  ·have:=yP.1 hq; omega
  ·have:=flm (L:=[I.sb]) (by simp[LK.Ls]) q hq; omega
  ·have:=flm (L:=I.q.l) (by simp[LK.Ls]) q hq; omega
 ·simp; omega
 ·intro q hq;rw[ya,ya,AT (by omega),q1 q (by omega),AT hq]
end
section
variable {J:Aa} {m:HM} {i:Cd} {j:RI} {t:RM}
theorem RI.mG {j:RI} {q:Nat}:q ∈ j.l↔q=j.hb\/q ∈ hs j.bs\/q ∈ hs j.os\/q ∈ hs j.fs\/q ∈ PB j.om:=RI.IP
theorem Im.uF (h:Im J j t) (x:Int × Int) (hn:t.bl.length<=5000) (T:TypeId):∃ s' Z1_ Z',AF P An (j.bs.1,t.bl.length,t.bl.length) (some ⟨J.length,0,none⟩,1,1) (J++[.cells [.int .i64 x.1,.int .i64 x.2] T true])=some (s',Z1_) /\
  CT Z1_ j.hb 0 (.slice s'.1 s'.2.1 s'.2.2)=some Z'/\Im Z' { j with bs:=s' } { t with bl:=t.bl++[x] }/\Mv j.l ({ j with bs:=s' }:RI).l J Z':=by
 have sep:=h.sep;have lt:=h.lt;obtain ⟨s',Z1_,e1,g1,hs1⟩:=Ms xa wG xf rfl rfl (by decide) (by decide) (by decide) J j.bs t.bl.length (CB t.bl) 1 1 [.int .i64 x.1,.int .i64 x.2] T (by omega) (by decide) rfl h.bl;have m1:=g1.mv;have hf:=h.bl.form;have e1':AF P An (j.bs.1,t.bl.length,t.bl.length) (some ⟨J.length,0,none⟩,1,1) (J++[.cells [.int .i64 x.1,.int .i64 x.2] T true])=some (s',Z1_):=by rw[<- hf]; exact e1
 have m0:Mv (hs j.bs) (hs s') J Z1_:=m1;have cell:=m0.L5 h.hp sep.hA;have new:∀ q ∈ hs s',q ∈ hs j.bs\/J.length<=q:=m0.new;have nn:∀ {L:List Nat},(∀ q ∈ L,q ∈ j.l)->(∀ a ∈ hs j.bs,a ∉ L) -> ∀ q ∈ hs s',q ∉ L:=fun hL hd q hq hm=>(new q hq).elim (fun h'=>hd q h' hm) fun h'=>by have:=lt q (hL q hm); omega
 have mem:=fun q=>@RI.mG j q;have DH:∀ q ∈ j.l,q ∉ hs j.bs->Z1_[q]?=J[q]?:=fun q hq hn'=>m0.same q (lt q hq) hn';have sep':Sep { j with bs:=s' }:=⟨fun hm=>(new _ hm).elim sep.hA fun h'=>absurd (lt _ j.K1) (Ack.2 h'),sep.hB,sep.hC,sep.hD,
  nn (fun q hq=>(mem q).2 (.inr (.inr (.inl hq)))) sep.AB,nn (fun q hq=>(mem q).2 (.inr (.inr (.inr (.inl hq))))) sep.AC,nn (fun q hq=>(mem q).2 (.inr (.inr (.inr (.inr hq))))) sep.AD,sep.BC,sep.BD,sep.CD,sep.D⟩;have bl':Cq An 2 Z1_ s' (t.bl++[x]).length (CB (t.bl++[x])):=by
  rw[yi,show CB (t.bl++[x])=CB t.bl++[.int .i64 x.1,.int .i64 x.2] from Yu _ _];exact hs1
 have ob':Cq Ab 8 Z1_ j.os t.ob.length (D3 t.ob j.om):=h.ob.Aw fun a ha=>DH _ ((mem _).2 (.inr (.inr (.inl (BN.2 ⟨a,ha,rfl⟩))))) fun hm=>sep.AB _ hm (BN.2 ⟨a,ha,rfl⟩);have fw':XO Z1_ j.fs t.fw:=h.fw.Aw fun a ha=>DH _ ((mem _).2 (.inr (.inr (.inr (.inl (BN.2 ⟨a,ha,rfl⟩)))))) fun hm=>sep.AC _ hm (BN.2 ⟨a,ha,rfl⟩);have inn':∀ (y:Nat) (hy:y<t.ob.length) (hy':y<j.om.length),Eg Z1_ j.om[y].1 t.ob[y].refs/\Eg Z1_ j.om[y].2 t.ob[y].data:=fun y hy hy'=>⟨(h.inn y hy hy').1.Aw fun b hb=>DH _ (j.Ih hy' (.inl hb)) fun hm=>sep.AD _ hm (Ih hy' (.inl hb)),(h.inn y hy hy').2.Aw fun b hb=>DH _ (j.Ih hy' (.inr hb)) fun hm=>sep.AD _ hm (Ih hy' (.inr hb))⟩;have wide:Mv j.l ({ j with bs:=s' }:RI).l J Z1_:=m0.wide (fun q hq=>(mem q).2 (.inr (.inl hq))) fun q hq=>by
  rcases RI.mG.1 hq with hq | hq | hq | hq | hq
  ·exact .inl ((mem q).2 (.inl hq))
  ·exact .inr (.inl hq)
  ·exact .inl ((mem q).2 (.inr (.inr (.inl hq))))
  ·exact .inl ((mem q).2 (.inr (.inr (.inr (.inl hq)))))
  ·exact .inl ((mem q).2 (.inr (.inr (.inr (.inr hq)))))
 have lt':∀ q ∈ ({ j with bs:=s' }:RI).l,q<Z1_.length:=fun q hq=>by
  rcases RI.mG.1 hq with hq' | hq' | hq' | hq' | hq'
  ·exact yG (lt q ((mem q).2 (.inl hq'))) m0.len
  ·obtain ⟨a,ha,rfl⟩:=BN.1 hq'; exact hs1.lt a ha
  ·exact yG (lt q ((mem q).2 (.inr (.inr (.inl hq'))))) m0.len
  ·exact yG (lt q ((mem q).2 (.inr (.inr (.inr (.inl hq')))))) m0.len
  ·exact yG (lt q ((mem q).2 (.inr (.inr (.inr (.inr hq')))))) m0.len
 refine ⟨s',Z1_,_,e1',by simp only[CT,cell]; rfl, ?_,wide.trans (Mv.set _ _ (RI.K1 { j with bs:=s' }))⟩;exact Im.ft (i:={ j with bs:=s' }) (t:={ t with bl:=t.bl++[x] }) bl' ob' fw' h.ol inn' sep' lt'
theorem Pn (om:List (Bp × Bp)) (p:Bp × Bp) (q:Nat):q ∈ PB (om++[p])↔q ∈ PB om\/q ∈ hs p.1\/q ∈ hs p.2:=by
 rw[Ql,yf];unfold PB;simp
theorem Im.uG (h:Im J j t) (o:RO) (p:Bp × Bp) (hn:t.ob.length<=5000) (T:TypeId) (h1:Eg J p.1 o.refs) (h2:Eg J p.2 o.data) (hp:∀ q,q ∈ hs p.1\/q ∈ hs p.2->q<J.length/\q ∉ j.l) (hd:∀ q ∈ hs p.1,q ∉ hs p.2):∃ s' Z1_ Z',AF P Ab (j.os.1,t.ob.length,t.ob.length) (some ⟨J.length,0,none⟩,1,1) (J++[.cells (Bi o p) T true])=some (s',Z1_) /\
  CT Z1_ j.hb 1 (.slice s'.1 s'.2.1 s'.2.2)=some Z'/\Im Z' { j with os:=s',om:=j.om++[p] } { t with ob:=t.ob++[o] }/\J.length<=Z'.length/\(∀ q,q<J.length->q ∉ j.l->Z'[q]?=J[q]?) /\ ∀ q,q ∈ ({ j with os:=s',om:=j.om++[p] }:RI).l->q ∈ j.l\/J.length<=q\/q ∈ hs p.1\/q ∈ hs p.2:=by
 have sep:=h.sep;have lt:=h.lt;obtain ⟨s',Z1_,e1,g1,hs1⟩:=Ms vc uX ve rfl rfl (by decide) (by decide) (by decide) J j.os t.ob.length (D3 t.ob j.om) 1 1 (Bi o p) T (by omega) (by decide) rfl h.ob;have m0:Mv (hs j.os) (hs s') J Z1_:=g1.mv;have hf:=h.ob.form;have e1':AF P Ab (j.os.1,t.ob.length,t.ob.length) (some ⟨J.length,0,none⟩,1,1) (J++[.cells (Bi o p) T true])=some (s',Z1_):=by rw[<- hf]; exact e1
 have cell:=m0.L5 h.hp sep.hB;have mem:=fun q=>@RI.mG j q;have new:∀ q ∈ hs s',q ∈ hs j.os\/J.length<=q:=m0.new;have DH:∀ q ∈ j.l,q ∉ hs j.os->Z1_[q]?=J[q]?:=fun q hq hn'=>m0.same q (lt q hq) hn';have pO:∀ q,q ∈ hs p.1\/q ∈ hs p.2->q ∉ hs j.os:=fun q hq hm=>(hp q hq).2 ((mem q).2 (.inr (.inr (.inl hm))));have Km:∀ q,q ∈ hs p.1\/q ∈ hs p.2->Z1_[q]?=J[q]?:=fun q hq=>m0.same q (hp q hq).1 (pO q hq);have nj:∀ q ∈ hs s',q ∈ j.l->q ∈ hs j.os:=fun q hq hm=>(new q hq).elim id fun h'=>absurd (lt q hm) (Ack.2 h');have nP:∀ q ∈ hs s',¬ (q ∈ hs p.1\/q ∈ hs p.2):=fun q hq hm=>(new q hq).elim (pO q hm) fun h'=>absurd (hp q hm).1 (Ack.2 h');have sep':Sep { j with os:=s',om:=j.om++[p] }:=by
  refine ⟨sep.hA,fun hm=>sep.hB (nj _ hm j.K1),sep.hC,fun hm=>?_,fun a ha hm=>sep.AB a ha (nj a hm ((mem a).2 (.inr (.inl ha)))),sep.AC,fun a ha hm=>?_,fun a ha hm=>sep.BC a (nj a ha ((mem a).2 (.inr (.inr (.inr (.inl hm)))))) hm,fun a ha hm=>?_,fun a ha hm=>?_, ?_⟩
  ·rcases (Pn _ _ _).1 hm with hm | hm
   ·exact sep.hD hm
   ·exact (hp _ hm).2 j.K1
  ·rcases (Pn _ _ _).1 hm with hm | hm
   ·exact sep.AD a ha hm
   ·exact (hp _ hm).2 ((mem a).2 (.inr (.inl ha)))
  ·rcases (Pn _ _ _).1 hm with hm | hm
   ·exact sep.BD a (nj a ha ((mem a).2 (.inr (.inr (.inr (.inr hm)))))) hm
   ·exact nP a ha hm
  ·rcases (Pn _ _ _).1 hm with hm | hm
   ·exact sep.CD a ha hm
   ·exact (hp _ hm).2 ((mem a).2 (.inr (.inr (.inr (.inl ha)))))
  ·show (PB (j.om++[p])).Nodup;rw[Ql,zv];refine ⟨sep.D, ?_,fun a ha b hb e=>?_⟩
   ·unfold PB;simp only[Abz,List.flatMap_nil,yw];rw[zv];exact ⟨Mr _,Mr _,fun a ha b hb e=>hd a ha (e ▸ hb)⟩
   ·subst e;have hb:a ∈ hs p.1\/a ∈ hs p.2:=by
     unfold PB at hb;simpa using hb
    exact (hp a hb).2 ((mem a).2 (.inr (.inr (.inr (.inr ha)))))
 have bl':Cq An 2 Z1_ j.bs t.bl.length (CB t.bl):=h.bl.Aw fun a ha=>DH _ ((mem _).2 (.inr (.inl (BN.2 ⟨a,ha,rfl⟩)))) fun hm=>sep.AB _ (BN.2 ⟨a,ha,rfl⟩) hm;have ob':Cq Ab 8 Z1_ s' (t.ob++[o]).length (D3 (t.ob++[o]) (j.om++[p])):=by
  rw[yi,Pm _ _ _ _ h.ol,show D3 [o] [p]=Bi o p from by simp[D3]];exact hs1
 have fw':XO Z1_ j.fs t.fw:=h.fw.Aw fun a ha=>DH _ ((mem _).2 (.inr (.inr (.inr (.inl (BN.2 ⟨a,ha,rfl⟩)))))) fun hm=>sep.BC _ hm (BN.2 ⟨a,ha,rfl⟩);have ol':(j.om++[p]).length=(t.ob++[o]).length:=by rw[yi,yi,h.ol]; rfl
 have inn':∀ (y:Nat) (hy:y<(t.ob++[o]).length) (hy':y<(j.om++[p]).length),Eg Z1_ (j.om++[p])[y].1 (t.ob++[o])[y].refs/\Eg Z1_ (j.om++[p])[y].2 (t.ob++[o])[y].data:=fun y hy hy'=>by
  by_cases q:y<t.ob.length
  ·have q':y<j.om.length:=by rw[h.ol]; exact q
   rw[Aa3 q,Aa3 q'];exact ⟨(h.inn y q q').1.Aw fun b hb=>DH _ (j.Ih q' (.inl hb)) fun hm=>sep.BD _ hm (Ih q' (.inl hb)),(h.inn y q q').2.Aw fun b hb=>DH _ (j.Ih q' (.inr hb)) fun hm=>sep.BD _ hm (Ih q' (.inr hb))⟩
  ·have e:y=t.ob.length:=by rw[yi,zd] at hy; omega
   subst e;rw[Aag (yj _),Aag (by rw[h.ol]; exact yj _)];simp only[Aaf,h.ol,Abc];exact ⟨h1.Aw fun b hb=>Km b (.inl hb),h2.Aw fun b hb=>Km b (.inr hb)⟩
 have lt':∀ q ∈ ({ j with os:=s',om:=j.om++[p] }:RI).l,q<Z1_.length:=fun q hq=>by
  rcases RI.mG.1 hq with hq' | hq' | hq' | hq' | hq'
  ·exact yG (lt q ((mem q).2 (.inl hq'))) m0.len
  ·exact yG (lt q ((mem q).2 (.inr (.inl hq')))) m0.len
  ·obtain ⟨a,ha,rfl⟩:=BN.1 hq'; exact hs1.lt a ha
  ·exact yG (lt q ((mem q).2 (.inr (.inr (.inr (.inl hq')))))) m0.len
  ·rcases (Pn _ _ _).1 hq' with hq' | hq'
   ·exact yG (lt q ((mem q).2 (.inr (.inr (.inr (.inr hq')))))) m0.len
   ·exact yG (hp q hq').1 m0.len
 refine ⟨s',Z1_,_,e1',by simp only[CT,cell]; rfl,Im.ft (i:={ j with os:=s',om:=j.om++[p] }) (t:={ t with ob:=t.ob++[o] }) bl' ob' fw' ol' inn' sep' lt',by rw[yZ]; exact m0.len,fun q hq hn'=>?_,fun q hq=>?_⟩
 ·rw[yc (fun e:j.hb=q=>hn' (by rw[<- e]; exact j.K1))];exact m0.same q hq fun hm=>hn' ((mem q).2 (.inr (.inr (.inl hm))))
 ·rcases RI.mG.1 hq with hq' | hq' | hq' | hq' | hq'
  ·exact .inl ((mem q).2 (.inl hq'))
  ·exact .inl ((mem q).2 (.inr (.inl hq')))
  ·exact (new q hq').elim (fun h'=>.inl ((mem q).2 (.inr (.inr (.inl h'))))) fun h'=>.inr (.inl h')
  ·exact .inl ((mem q).2 (.inr (.inr (.inr (.inl hq')))))
  ·rcases (Pn _ _ _).1 hq' with hq' | hq'
   ·exact .inl ((mem q).2 (.inr (.inr (.inr (.inr hq')))))
   ·exact .inr (.inr hq')
theorem rX (m:HM) {b:Nat} (hb:b<m.bls.length):(Cb m (b:Int),Lx m (b:Int))=m.bls.getD b (0,0):=by
 unfold Cb Lx;rw[yk (by omega),yk (by omega),xQ]
theorem Yb (k:Nat) (hnt:m.bls.length<=64) (h3 lo:Nat):∀ (n x f:Nat) (Z:Aa) (j:RI),Ai Z i m->Im Z j ⟨m.bls.take x,[],[],m.births⟩->j.hb=h3->(∀ q ∈ j.l,lo<=q)->(∀ q ∈ i.l,q<lo)->lo<=Z.length->x+n=m.bls.length->n<f ->
  ∃ Z' j',Hc (k+3) f (AM i) h3 (x:Int) Z=some (.exit 0,[],Z')/\Im Z' j' ⟨m.bls,[],[],m.births⟩/\j'.hb=h3/\(∀ q ∈ j'.l,lo<=q)/\Z.length<=Z'.length /\ ∀ q,q<lo->Z'[q]?=Z[q]?
 | n,x,0,Z,j,h,hr,hj,hl,hi,hm,hx,hf=>by omega
 | 0,x,f+1,Z,j,h,hr,hj,hl,hi,hm,hx,hf=>by
   have eB:Ax (k+3) (AM i) Z=_:=Gm (k+1) h;rw[Nt];simp only[eB,AI,Ag,xY (show ¬ (x:Int)<((m.bls.length:Nat):Int) by omega),By];rw[zp (by omega)] at hr;exact ⟨Z,j,rfl,hr,hj,hl,yj _,fun _ _=>rfl⟩
 | n+1,x,f+1,Z,j,h,hr,hj,hl,hi,hm,hx,hf=>by
   have w1:Ar ((x:Int)+1)=((x+1:Nat):Int):=Ah (by unfold AK; omega);have eB:Ax (k+3) (AM i) Z=_:=Gm (k+1) h;have eS:Bb (k+3) (AM i) (x:Int) Z=_:=XA k h (x:Int);have eP:Bt (k+3) (AM i) (x:Int) Z=_:=rP k h (x:Int);have htl:(m.bls.take x).length=x:=by rw[zx]; omega
   have htk:m.bls.take (x+1)=m.bls.take x++[(Cb m (x:Int),Lx m (x:Int))]:=by
    rw[rX m (by omega),Abx,yg (by omega),yd,yg (by omega)]; rfl
   obtain ⟨s',Z1_,Z2_,e1,e2,hr2,m2⟩:=hr.uF (Cb m (x:Int),Lx m (x:Int)) (by show (m.bls.take x).length<=5000; omega) An;have hr2:Im Z2_ { j with bs:=s' } ⟨m.bls.take (x+1),[],[],m.births⟩:=by rw[htk]; exact hr2
   have d0:AR Z h3 0=some (j.bs.1,x,x):=by
    have:=hr.GK;rw[<- hj];show AR Z j.hb 0=_;rw[this];show some (j.bs.1,(m.bls.take x).length,(m.bls.take x).length)=_;rw[htl]
   have low:∀ q,q<lo->Z2_[q]?=Z[q]?:=fun q hq=>m2.same q (by omega) fun hm'=>absurd (hl q hm') (by omega);obtain ⟨Z',j',e3,r3,b3,l3,n3,q3⟩:=Yb k hnt h3 lo n (x+1) f Z2_ { j with bs:=s' } (h.Aw fun q hq=>low q (hi q hq)) hr2 hj (fun q hq=>(m2.new q hq).elim (hl q) fun h'=>by omega) hi (by have:=m2.len; omega) (by omega) (by omega);refine ⟨Z',j', ?_,r3,b3,l3,zj m2.len n3,fun q hq=>(q3 q hq).trans (low q hq)⟩;rw[Nt];have e1':AF P An (j.bs.1,x,x) (some ⟨Z.length,0,none⟩,1,1) (Z++[Au.cells [.int .i64 (Cb m (x:Int)),.int .i64 (Lx m (x:Int))] An true])=some (s',Z1_):=by
    have e1:AF P An (j.bs.1,(m.bls.take x).length,(m.bls.take x).length) (some ⟨Z.length,0,none⟩,1,1) (Z++[Au.cells [.int .i64 (Cb m (x:Int)),.int .i64 (Lx m (x:Int))] An true])=some (s',Z1_):=e1;rw[htl] at e1; exact e1
   have e2':CT Z1_ h3 0 (.slice s'.1 s'.2.1 s'.2.2)=some Z2_:=by rw[<- hj]; exact e2
   simp only[eB,AI,Ag,xZ (show (x:Int)<((m.bls.length:Nat):Int) by omega),IT,IN,d0,eS,eP,Ae,e1',e2',w1,e3]
end
end
end Go.Proofs.YtjbledomkmdkmaaGreat
