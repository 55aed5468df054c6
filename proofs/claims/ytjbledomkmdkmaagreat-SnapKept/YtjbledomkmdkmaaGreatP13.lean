/- Part 13. -/
import Derived.Test.YtjbledomkmdkmaaGreatP12
import Derived.Test.YtjbledomkmdkmaaGreatP10
set_option linter.unusedVariables false
set_option linter.unusedSimpArgs false
set_option linter.unusedSectionVars false
namespace Go.Proofs.YtjbledomkmdkmaaGreat
open Go Go.AX
noncomputable section
local instance qKM:AH:=Ao
section
variable {J:Aa} {m m':HM} {r:D3} {s:TC} {i:Cp} {p:PI} {c:CI} {kb:Nat}
def zA (m:HM) (s:TC) (a x IX:Int):TC:=if x=0/\(Ag m a).2.2=2 then IA m (IA m s IX) (AA m a 1) else IA m s IX
theorem TG.trans {mm mm':Option (Value × Aa)} {v w:Value} {q q':HM × TC} {J1_:Aa} {a:CI} (h:Mv (i.l++c.l) (i.l++a.l) J J1_) (j:a.cb=c.cb) (g:TG mm J1_ i p a r v q) (e:∀ J',mm=some (v,J')->mm'=some (w,J')):TG mm' J i p c r w q:=by
 obtain ⟨J',d,f,T,hm,b⟩:=g;exact ⟨J',d,e J' f,T,h.trans hm,b.trans j⟩
theorem OX {b:Nat} {v:qOi} {T:TypeId} (h:J[b]?=some (.cells [qVi v] T true)):B7 J b 0=some v:=by simp[B7,CV,h,HO]
theorem uM (k:Nat) (h:VO J kb i p c m r s) (a x IX:Int) (B:AO a) (F:AO IX):KG (Dz (k+14) (KJ kb) a x IX J) J kb i p c r (.tuple #[]) (m,zA m s a x IX):=by
 have G:=OX h.col;obtain ⟨J1_,d,o,h1,z,n⟩:=h.go (XJ (k+1) h.t IX F) (fun _ e=>e);have o:CQ (k+13) (D2 c) IX J=_:=o;have H:=OX h1.col;have v:Co (k+13) (D2 d) J1_=_:=ZV (k+12) h1.t;unfold zA;rw[MN];simp only[AI,IN,Abn,G,o,Gg];by_cases j:x=0;rotate_left
 ·rw[Abo (fun y=>j y.1),show (x == 0)=false from by simpa using j];simp only[By,AI,Aah];exact ⟨J1_,d,rfl,h1,z,n⟩
 rw[show (x == 0)=true from by simpa using j];obtain ⟨τ,q⟩:=gX (k+6) h1.t.h a B;have q:ET (k+13) (AU i) a J1_=_:=q;have b:=h1.app τ;have I:=OX b.col;have w:Co (k+13) (D2 d) (J1_++τ)=_:=ZV (k+12) b.t;simp only[IS,H,v,AI,HO,q,Ah];by_cases g:(Ag m a).2.2=2;rotate_left
 ·rw[Abo (fun y=>g y.2),show ((Ag m a).2.2 == 2)=false from by simpa using g];simp only[By,AI,Aah];exact ⟨J1_++τ,d,rfl,b,z.trans (Mv.app _ _ _),n⟩
 rw[Abm ⟨j,g⟩,show ((Ag m a).2.2 == 2)=true from by simpa using g];obtain ⟨A,t⟩:=Vw (k+6) b.t.h b.t.mo.inv a 1 B;have t:AL (k+13) (AU i) a 1 (J1_++τ)=some (.tuple #[qIi (AA m a 1),qIi (K6 m a 1 false).2],J1_++τ++A):=t;have f:=b.app A;have K:=OX f.col;obtain ⟨l,D,u,E,L,C⟩:=f.go (XJ (k+1) f.t (AA m a 1) (Xx f.t a 1)) (fun _ e=>e);have u:CQ (k+13) (D2 d) (AA m a 1) (J1_++τ++A)=_:=u;refine ⟨l,D, ?_,E,((z.trans (Mv.app _ _ _)).trans (Mv.app _ _ _)).trans L,C.trans n⟩;simp only[IS,I,w,AI,HO,t,B9,K,u,Gg,Aah]
def vS (m:HM) (s:TC) (a x to:Int):TC:=zA (BP m a x to).2 s a x (AA m a x)
theorem fR (k:Nat) (K:20<=k) (h:VO J kb i p c m r s) {a x to:Int} (g:AO a) (j:AO to) (h0:0<=x) (l:x<(Ag m a).1) (E:to=0\/Ax m to=true):KG (Ci (k+15) (KJ kb) a x to J) J kb i p c r (qIi 0) ((BP m a x to).2,vS m s a x to):=by
 obtain ⟨H,V⟩:=Uy h.t.mo.inv h0 l E;obtain ⟨τ,b⟩:=tw (k+6) h.t a x g;rw[oh h.t.mo.inv h0 l] at b;have b:FK (k+14) (D2 c) a x J=_:=b;have h1:=h.app τ;obtain ⟨J2_,d,B,n⟩:=Ti (k+7) h1.t.h h1.t.mo.inv a x to g j;have d:CT (k+14) (AU i) a x to (J++τ)=some (qIi (BP m a x to).1,J2_):=d;rw[H] at d;have T2:=h1.t.fK B n (h1.t.mo.setRef a x to) (by rw[V.bls]);obtain ⟨o,I,f,C,F,t⟩:=h1.go (q:=((BP m a x to).2,s)) (mm:=some (qIi 0,J2_)) (mm':=some (qIi 0,J2_)) (v:=qIi 0) ⟨J2_,c,rfl,T2,n.mv.left c.l,rfl⟩ (fun _ e=>e);obtain ⟨_,rfl⟩:=Prod.mk.inj (Ad8 f);obtain ⟨J3_,w,y,D,G,u⟩:=uM k C a x (AA m a x) g (Xx h.t a x);refine ⟨J3_,w, ?_,D,((Mv.app _ _ _).trans F).trans G,u.trans t⟩;have A:Ap (k+14) (KJ kb) J=_:=h.core (k+13);have z:Co (k+14) (D2 c) (J++τ)=_:=ZV (k+13) h1.t;rw[Pw];simp only[A,AI,HO,b,B9,Abt,By,OX h1.col,IN,Abn,z,d,Ah,y,Gg]
def xi (m:HM) (s:TC) (a x:Int):TC:=if Ee (Ag m a).2.2 x=true then IA m s (AA m a x) else s
theorem uo (k:Nat) (y:20<=k) (h:VO J kb i p c m r s) {a x:Int} (l:AO a) (h0:0<=x) (v:x<(Ag m a).1):KG (EO (k+14) (KJ kb) a x J) J kb i p c r (.tuple #[qIi (AA m a x),qIi 0]) (m,xi m s a x):=by
 obtain ⟨τ,d⟩:=tw (k+5) h.t a x l;rw[oh h.t.mo.inv h0 v] at d;have d:FK (k+13) (D2 c) a x J=_:=d;have h1:=h.app τ;obtain ⟨j,f⟩:=gX (k+6) h1.t.h a l;have f:ET (k+13) (AU i) a (J++τ)=_:=f;have b:=h1.app j;have t:Ap (k+13) (KJ kb) J=_:=h.core (k+12);have q:Co (k+13) (D2 c) (J++τ)=_:=ZV (k+12) h1.t;have es:FE (k+13) (Ag m a).2.2 x (J++τ++j)=_:=ib (k+12) _ x _;unfold xi;rw[Qh];simp only[t,AI,HO,d,B9,Adr,IS,OX h1.col,IN,Abn,q,f,Ah,es,An];cases hs:Ee (Ag m a).2.2 x with
 | false=>
   simp only[By,AI,Aah,Abz,Abs];exact ⟨_,c,rfl,b,(Mv.app _ _ _).trans (Mv.app _ _ _),rfl⟩
 | true=>
   obtain ⟨J3_,o,g,u,w,n⟩:=b.go (XJ (k+1) b.t (AA m a x) (Xx b.t a x)) (fun _ e=>e);have g:CQ (k+13) (D2 c) (AA m a x) (J++τ++j)=_:=g;simp only[IS,OX b.col,AI,g,Gg,Aah];exact ⟨J3_,o,rfl,u,((Mv.app _ _ _).trans (Mv.app _ _ _)).trans w,n⟩
end
section
set_option maxRecDepth 100000
def zZ:D3:=⟨1,List.replicate (16*1) 0,List.replicate 16 0,[]⟩
def awS:TC:=Xm (JB 4).bls.length false 2
def XD:=Ge (JB 4) 0 1 0 0
def tV:=NO (JB 4) awS 0 1 0 0
def dO:=Ge XD.2.1 0 0 0 0
def zi:=NO XD.2.1 tV 0 0 0 0
def bj:D3:=(Of zZ 0 0 0 XD.1.1).2
def zh:=(BP dO.2.1 XD.1.1 0 dO.1.1).2
def zj:=vS dO.2.1 zi XD.1.1 0 dO.1.1
def tW:=U4 zh bj zj
def zY:=(EL bj 1 (zh,tW)).2
def awE:=Aa0 bj zY
def awC:Bool:=decide (XD.1.2=0) && decide (dO.1.2=0) && decide ((Of zZ 0 0 0 XD.1.1).1=0) && decide (0<(Ag dO.2.1 XD.1.1).1) && Ax dO.2.1 dO.1.1 && decide (zj.ph=0) && U3 zh bj && decide (tW.list=[XD.1.1]) && decide ((EL bj 1 (zh,tW)).1=1) && decide (zY.2.list=[dO.1.1]) && decide (wV zY.1 zY.2 XD.1.1=2) && decide (awE.2.ph=0) && decide (awE.2.freed=0) &&
 decide (0<=XD.1.1/\XD.1.1<10000) && decide (0<=dO.1.1/\dO.1.1<10000) && (List.range 128).all (fun j=>decide (CG 2 awS.ws j=0)) && (List.range 128).all (fun j=>decide (CG 2 tV.ws j=0)) && decide (XD.2.1.bls.length=4) && decide (XD.2.1.births=1) && decide (tV.ph=0) && decide (tV.born=2) && decide (awS.ph=0)
theorem tU:awC=true:=by kernel_rfl
theorem awZ {m:HM} {s:TC} (b:m.bls.length=4) (h:∀ j ∈ List.range 128,CG 2 s.ws j=0):Zc m s:=fun j a h0=>absurd (h j (Agv.2 (by rw[b] at a; omega))) h0
theorem VO.vi {J J':Aa} {kb:Nat} {i:Cp} {p:PI} {c:CI} {m:HM} {r b:D3} {s:TC} (h:VO J kb i p c m r s) (f:Ha J' p b) (hm:Mv p.l p.l J J'):VO J' kb i p c m b s:=by
 have g:∀ x ∈ i.l,J'[x]?=J[x]?:=fun x a=>hm.same x (h.t.h.lt x a) (h.t.fp.ne (x:=0) (y:=1) (by simp) (by simp) (by decide) x a);have j:∀ x ∈ c.l,J'[x]?=J[x]?:=fun x a=>hm.same x (h.t.co.lt x a) (h.t.fp.ne (x:=2) (y:=1) (by simp) (by simp) (by decide) x a);exact ⟨(hm.same kb (Af h.col) h.nk.2.1).trans h.col,⟨h.t.h.Aw g,h.t.mo,f,h.t.co.Aw j,⟨h.t.fp.dj,fun L d q e=>Acz (h.t.fp.lt L d q e) hm.len⟩,h.t.tok⟩,h.nk⟩
theorem ig (J:Aa) (v:Int):Bh (J++[Au.cells [qIi v] Ak true]) (some ⟨J.length,0,none⟩,1,1) [v]:=.inl (.inr ⟨J.length,rfl,Ade _,rfl,Abv⟩)
theorem Ab9 (a:Addr):Ll P DQ (qVi (some a)) (qVi none)=some false:=by kernel_rfl
theorem tX (k:Nat) (hk:30000<=k) (J:Aa):∃ J',Lu (k+18) J=some (.bool true,J'):=by
 have C:=tU;unfold awC at C;simp only[Adi,Adu,Afh] at C;obtain ⟨⟨⟨⟨⟨⟨⟨⟨⟨⟨⟨⟨⟨⟨⟨⟨⟨⟨⟨⟨⟨c1,c2⟩,c3⟩,c4⟩,c5⟩,c6⟩,c7⟩,c8⟩,c9⟩,P⟩,Q⟩,S⟩,U⟩,aj⟩,ak⟩,V⟩,W⟩,X⟩,Y⟩,Z⟩,aa⟩,ab⟩:=C;have bn:∀ {s:TC},s.born=2->s.born=0\/s.born=2:=fun h=>by omega
 have i1:AO XD.1.1:=by unfold AO; omega
 have i2:AO dO.1.1:=by unfold AO; omega
 obtain ⟨J1_,i,e1,h1,n1,ai⟩:=tu (k+12) (n:=4) (by decide) (by decide) J;have e1:J5 (k+17) 4 J=_:=e1;obtain ⟨d,p,e2,h2,n2⟩:=uZ (k+16) (n:=1) (by decide) (by decide) J1_;have e2:Iy (k+17) 1 J1_=_:=e2;have F1:Fp J1_ [i.l]:=(Fp.nil J).cons (fun q E=>⟨n1 q E,h1.lt q E⟩) ai.len;have F2:Fp (J1_++d) [i.l,p.l]:=(F1.cons (L:=p.l) (J':=J1_++d) (fun q E=>⟨n2 q E,h2.lt q E⟩) (by simp)).sub [1,0] (by decide) (by simp) rfl;obtain ⟨H,c,e3,T,n3⟩:=gR (k+11) (by omega) (h1.app d) (MK.new (by decide) (by decide)) h2 F2 false 2;have e3:Nf (k+16) (AU i) (F6 p) false 2 (J1_++d)=_:=e3;obtain ⟨K0,B⟩:∃ K0,Au.cells [qVi (D2 c)] IB true=K0:=⟨_,rfl⟩;have e4:Kz (k+17) (AU i) (F6 p) (J1_++d)=some (.tuple #[qVi (KJ (J1_++d++H).length),qIi 0],J1_++d++H++[K0]):=by
  rw[V9];simp only[e3,AI,LF,Abt,By,Ae,B]
 generalize ag:(J1_++d++H).length=kb at *;have A0:VO (J1_++d++H++[K0]) kb i p c (JB 4) zZ awS:=⟨by rw[<- ag,Abv,<- B],T.app [K0],fun D=>by have:=T.h.lt _ D; omega,fun D=>by have:=T.rt.lt _ D; omega,fun D=>by have:=T.co.lt _ D; omega⟩;obtain ⟨J5_,ac,K,A1,_,_⟩:=Yp (k+2) (by omega) A0 (by decide) (awZ rfl V) (.inl ab) (bn rfl) 1 0 0 (sp:=0) (by decide);have K:B6 (k+17) (KJ kb) 1 0 0 0 (J1_++d++H++[K0])=some (.tuple #[qIi XD.1.1,qIi XD.1.2],J5_):=K;have A1:VO J5_ kb i p ac XD.2.1 zZ tV:=A1;obtain ⟨l,w,M,A2,_,_⟩:=Yp (k+2) (by omega) A1 (by rw[Y]; decide) (awZ X W) (.inl Z) (bn aa) 0 0 0 (sp:=0) (by decide);have M:B6 (k+17) (KJ kb) 0 0 0 0 J5_=some (.tuple #[qIi dO.1.1,qIi dO.1.2],l):=M;have A2:VO l kb i p w dO.2.1 zZ zi:=A2;obtain ⟨m,O,ah,m7⟩:=mK (k+13) A2.t.rt (kk:=0) (mt:=0) (ix:=0) (.inl ⟨rfl,by decide,by decide⟩) XD.1.1 i1;have O:Bb (k+17) (F6 p) 0 0 0 XD.1.1 l=some (qIi (Of zZ 0 0 0 XD.1.1).1,m):=O;have A3:VO m kb i p w dO.2.1 bj zi:=A2.vi ah m7;obtain ⟨o,ad,e8,A4,_,_⟩:=fR (k+2) (by omega) A3 (x:=0) i1 i2 (by decide) c4 (.inr c5);have e8:Ci (k+17) (KJ kb) XD.1.1 0 dO.1.1 m=some (qIi 0,o):=e8;have A4:VO o kb i p ad zh bj zj:=A4;obtain ⟨b,ae,e9,A5,_,_⟩:=fQ (k+3) (by omega) A4 c6 c7;have e9:Ch (k+17) (KJ kb) o=some (qIi 0,b):=e9;have A5:VO b kb i p ae zh bj tW:=A5;obtain ⟨l1,g,r,F⟩:=k9 (k+14) A5;have r:Da (k+17) (KJ kb) b=_:=r;rw[c8] at F;have A6:=(A5.app g).app [Au.cells [qIi XD.1.1] Ak true];have x1:=oM (k+16) (F.app [Au.cells [qIi XD.1.1] Ak true]).g (ig (b++g) XD.1.1).g (by decide) (by show 1<_; omega);have x1:Il (k+17) (l1.1,l1.2.1,l1.2.2) (some ⟨(b++g).length,0,none⟩,1,1) (b++g++[Au.cells [qIi XD.1.1] Ak true])=_:=x1;obtain ⟨a,u,f,A7,_,_⟩:=kA k (by omega) A6 (N:=1) (by decide) (by decide);have f:BZ (k+17) (KJ kb) 1 _=some (.tuple #[qIi ((EL bj 1 (zh,tW)).1:Int),qIi 0],a):=f;rw[c9] at f;have A7:VO a kb i p u zY.1 bj zY.2:=A7;obtain ⟨l2,j,t,G⟩:=k9 (k+14) A7;have t:Da (k+17) (KJ kb) a=_:=t;rw[P] at G;have A8:=(A7.app j).app [Au.cells [qIi dO.1.1] Ak true];have x2:=oM (k+16) (G.app [Au.cells [qIi dO.1.1] Ak true]).g (ig (a++j) dO.1.1).g (by decide) (by show 1<_; omega);have x2:Il (k+17) (l2.1,l2.2.1,l2.2.2) (some ⟨(a++j).length,0,none⟩,1,1) (a++j++[Au.cells [qIi dO.1.1] Ak true])=_:=x2;have y:DW (k+17) (KJ kb) XD.1.1 _=_:=nC (k+10) A8 XD.1.1 i1;rw[Q] at y;obtain ⟨e,v,af,I,_,_⟩:=nD k (by omega) A8;have I:VO e kb i p v awE.1 bj awE.2:=I;have z:Be (k+17) (KJ kb) e=_:=UF (k+14) I;have A:Ex (k+17) (KJ kb) e=_:=rH (k+14) I;rw[S] at z;rw[U] at A;rw[c1] at K;rw[c2] at M;rw[c3] at O;refine ⟨e, ?_⟩;rw[XT];simp only[e1,e2,AI,LF,Aa1,zs,By,Abt,e4,Ab9,K,B9,M,O,Ah,e8,e9,r,Ej,Ae,x1,An,Abr,f,t,x2,y,af,Adr,IS,z,A,show (((1:Nat):Int) != 1)=false from rfl]
end
section
variable {J:Aa} {r:D3}
theorem Pm.flt {X:XI} {m:HM} {s:TC} (h:Pm J X m r s):∀ p ∈ X.Ls.flatten,p<J.length:=fun p hp=>by
 obtain ⟨L,a,hp⟩:=Adm.1 hp;exact h.fp.lt L a p hp
theorem Acd (a:Addr):Ll P Ed (qVi (some a)) (qVi none)=some false:=by kernel_rfl
theorem QN {ρ:Type} {a:Addr} {J J':Aa} {m:Option ρ} (h:J'[a.block]?=J[a.block]?):HL (some a) J J' m=m:=by
 have:Ao.k J J' a.block=true:=by unfold Ao; simpa using h
 show (bif Ao.k J J' a.block then m else none)=m;rw[this,IS]
theorem wO {α β:Type} {o:Option α} {f:α->Option β} {v:α} {z:Option β} (h:o=some v) (h2:f v=z):o.bind f=z:=by rw[h]; exact h2
theorem yy (p:qOi):HO (qVi p)=some p:=rfl
theorem gP (a:qOi) (n c:Nat):Ej (.slice a n c)=some (a,n,c):=rfl
end
section
variable {J:Aa}
structure YI where
 X:XI
 k:Bv
 l:Bv
def YI.fl (Y:YI):List Nat:=Y.X.Ls.flatten++(hs Y.k++hs Y.l)
structure YS where
 m:HM
 r:D3
 s:TC
 K:List Int
 L:List Int
 bn:Int
structure Sj (J:Aa) (Y:YI) (z:YS):Prop where
 x:Pm J Y.X z.m z.r z.s
 run:J[Y.X.xb]?=some (.cells [qVi (IM Y.X.I),qVi (Kt Y.X),.slice Y.k.1 Y.k.2.1 Y.k.2.2,.slice Y.l.1 Y.l.2.1 Y.l.2.2,qIi z.bn] AN true)
 kl:Bh J Y.k z.K
 ll:C8 0 J Y.l z.L
 nk:∀ b ∈ hs Y.k,b ∉ Y.X.Ls.flatten
 nl:∀ b ∈ hs Y.l,b ∉ Y.X.Ls.flatten/\b ∉ hs Y.k
variable {Y:YI} {z:YS}
theorem C8.bl {s:Bv} {l:List Int} (h:C8 0 J s l):∀ b ∈ hs s,b<J.length:=(Bh.ints h).lt
theorem C8.lk {J':Aa} {s:Bv} {l:List Int} (h:C8 0 J s l) (d:∀ b ∈ hs s,J'[b]?=J[b]?):C8 0 J' s l:=by
 rcases h with h | ⟨b,h1,rfl,a,c⟩
 ·exact .inl h
 ·exact .inr ⟨b,h1,rfl,a,(d b (BQ.2 ⟨_,rfl,rfl⟩)).trans c⟩
theorem Sj.cq (h:Sj J Y z):Bd J Y.X.xb 3=some (Y.l.1,Y.l.2.1,Y.l.2.2):=by simp[Bd,CV,h.run,Ej]
theorem Sj.st3 {J':Aa} (h:Sj J Y z) (e:J'[Y.X.xb]?=J[Y.X.xb]?) (v:Value):CX J' Y.X.xb 3 v=some (J'.set Y.X.xb (.cells [qVi (IM Y.X.I),qVi (Kt Y.X),.slice Y.k.1 Y.k.2.1 Y.k.2.2,v,qIi z.bn] AN true)):=by simp[CX,e,h.run]
theorem Sj.lt (h:Sj J Y z):∀ b ∈ Y.fl,b<J.length:=fun b hb=>by
 rcases Aag.1 hb with hb | hb
 ·exact h.x.flt b hb
 ·rcases Aag.1 hb with hb | hb
  ·exact h.kl.lt b hb
  ·exact h.ll.bl b hb
theorem Sj.Aw {J':Aa} (h:Sj J Y z) (d:J.length<=J'.length) (a:∀ b ∈ Y.fl,J'[b]?=J[b]?):Sj J' Y z:=by
 have h1:∀ b ∈ Y.X.Ls.flatten,J'[b]?=J[b]?:=fun b hb=>a b (Aag.2 (.inl hb));exact ⟨h.x.Aw d fun L c p hp=>h1 p (Adm.2 ⟨L,c,hp⟩),(h1 _ (Adm.2 ⟨[Y.X.xb],by simp[XI.Ls],by simp⟩)).trans h.run,h.kl.Aw fun b hb=>a b (Aag.2 (.inr (Aag.2 (.inl hb)))),h.ll.lk fun b hb=>a b (Aag.2 (.inr (Aag.2 (.inr hb)))),h.nk,h.nl⟩
theorem Sj.app (h:Sj J Y z) (τ:Aa):Sj (J++τ) Y z:=h.Aw (by simp) fun b hb=>AT (h.lt b hb)
def YG (mm:Option (Value × Aa)) (J:Aa) (Y:YI) (v:Value) (z:YS):Prop:=
 ∃ J' a,mm=some (v,J')/\Sj J' a z/\Mv Y.fl a.fl J J'/\a.X.xb=Y.X.xb/\a.X.kb=Y.X.kb/\a.X.I=Y.X.I
theorem Sj.yA {J':Aa} {a:XI} {m':HM} {e:D3} {s':TC} (h:Sj J Y z) (k:Pm J' a m' e s') (hm:Mv Y.X.Ls.flatten a.Ls.flatten J J') (j:J'[Y.X.xb]?=J[Y.X.xb]?) (f:a.xb=Y.X.xb) (g:a.kb=Y.X.kb) (i:a.I=Y.X.I):
  Sj J' ⟨a,Y.k,Y.l⟩ { z with m:=m',r:=e,s:=s' }/\Mv Y.fl (⟨a,Y.k,Y.l⟩:YI).fl J J':=by
 have c:=hm.DN (X:=hs Y.k) h.kl.lt h.nk;have d:=hm.DN (X:=hs Y.l) h.ll.bl fun b hb=>(h.nl b hb).1;refine ⟨⟨k, ?_,h.kl.Aw c.1,h.ll.lk d.1,c.2.1,fun b hb=>⟨d.2.1 b hb,(h.nl b hb).2⟩⟩,hm.left _⟩;show J'[a.xb]?=_;rw[f,j,h.run];unfold Kt;rw[g,i]
theorem Pm.k {X:XI} {m:HM} {r:D3} {s:TC} (h:Pm J X m r s):VO J X.kb X.I.i X.I.p X.c m r s:=by
 have d:=fun {y:Nat} (b:y<X.Ls.length) (a:y≠4)=>h.fp.ne (x:=4) (y:=y) (by simp[XI.Ls]) b a X.kb (by simp[XI.Ls]);exact ⟨h.col,h.t,d (y:=0) (by simp[XI.Ls]) (by decide),d (y:=1) (by simp[XI.Ls]) (by decide),d (y:=2) (by simp[XI.Ls]) (by decide)⟩
theorem Sj.go (h:Sj J Y z) {mm:Option (Value × Aa)} {v:Value} {q:HM × TC} (g:KG mm J Y.X.kb Y.X.I.i Y.X.I.p Y.X.c z.r v q):YG mm J Y v { z with m:=q.1,s:=q.2 }:=by
 obtain ⟨J',j,e,K,hm,b⟩:=g;obtain ⟨h1,f⟩:=h.x.turn K.t hm b;have d:Y.X.xb ∉ Y.X.I.i.l++Y.X.c.l:=fun c=>(Aag.1 c).elim
  (h.x.fp.ne (x:=3) (y:=0) (by simp[XI.Ls]) (by simp[XI.Ls]) (by decide) Y.X.xb (by simp[XI.Ls]))
  (h.x.fp.ne (x:=3) (y:=2) (by simp[XI.Ls]) (by simp[XI.Ls]) (by decide) Y.X.xb (by simp[XI.Ls]));obtain ⟨a,i⟩:=h.yA h1 f (hm.same _ (Af h.run) d) rfl rfl rfl;exact ⟨J',_,e,a,i,rfl,rfl,rfl⟩
theorem jk (k:Nat) (h:Sj J Y z) {w:Int × Nat × Nat} (hp:Oi z.r w.1 w.2.1 w.2.2) (hw:w.1≠2) {a:Int} (f:AO a) (h0:0<=a):YG (Bb (k+4) (F6 Y.X.I.p) w.1 (w.2.1:Int) (w.2.2:Int) a J) J Y (qIi 0) { z with r:=Ht z.r w.1 w.2.1 w.2.2 a }:=by
 obtain ⟨J',e,c,hm⟩:=mK k h.x.t.rt hp a f;have hs:Of z.r w.1 w.2.1 w.2.2 a=(0,Ht z.r w.1 w.2.1 w.2.2 a):=by unfold Of; rw[Abo (fun b=>b.elim (by omega) fun b=>hw b.2)]
 rw[hs] at e c;obtain ⟨h1,g⟩:=h.x.vi c hm (uR z.r w.1 w.2.1 w.2.2 a).1;obtain ⟨d,i⟩:=h.yA h1 g (hm.same _ (Af h.run) (h.x.fp.ne (x:=3) (y:=1) (by simp[XI.Ls]) (by simp[XI.Ls]) (by decide) Y.X.xb (by simp[XI.Ls]))) rfl rfl rfl;exact ⟨J',_,e,d,i,rfl,rfl,rfl⟩
theorem vO (k:Nat) (h:Sj J Y z) {a x v:Int} (d:AO a) (f:AO v) (h0:0<=x) (i:x<(Ag z.m a).2.1) (c:MK (GQ z.m a x v).2):YG (DA (k+7) (AU Y.X.I.i) a x v J) J Y (qIi 0) { z with m:=(GQ z.m a x v).2 }:=by
 obtain ⟨J',e,g,b⟩:=hY k h.x.t.h h.x.t.mo.inv a x v d f;obtain ⟨j,V⟩:=X1 h.x.t.mo.inv v h0 i;rw[j] at e;have T:=h.x.t.fK g b c (by rw[V.bls]);exact h.go (q:=((GQ z.m a x v).2,z.s)) (h.x.k.go (q:=((GQ z.m a x v).2,z.s)) ⟨J',Y.X.c,e,T,b.mv.left _,rfl⟩ fun _ e=>e)
theorem Sj.loose {J':Aa} {a:Bv} {L':List Int} (h:Sj J Y z) (hm:Mv (hs Y.l) (hs a) J J') (o:C8 0 J' a L'):
  Sj (J'.set Y.X.xb (.cells [qVi (IM Y.X.I),qVi (Kt Y.X),.slice Y.k.1 Y.k.2.1 Y.k.2.2,.slice a.1 a.2.1 a.2.2,qIi z.bn] AN true)) ⟨Y.X,Y.k,a⟩ { z with L:=L' }/\Mv Y.fl (⟨Y.X,Y.k,a⟩:YI).fl J (J'.set Y.X.xb (.cells [qVi (IM Y.X.I),qVi (Kt Y.X),.slice Y.k.1 Y.k.2.1 Y.k.2.2,.slice a.1 a.2.1 a.2.2,qIi z.bn] AN true))/\J'[Y.X.xb]?=J[Y.X.xb]?:=by
 have c:Y.X.xb ∈ Y.X.Ls.flatten:=Adm.2 ⟨[Y.X.xb],by simp[XI.Ls],by simp⟩;have l:=hm.DN (X:=Y.X.Ls.flatten) h.x.flt fun b hb d=>(h.nl b d).1 hb;have m:=hm.DN (X:=hs Y.k) h.kl.lt fun b hb d=>(h.nl b d).2 hb;have i:Pm J' Y.X z.m z.r z.s:=h.x.Aw hm.len fun L n p hp=>l.1 p (Adm.2 ⟨L,n,hp⟩);obtain ⟨k,r⟩:=i.vm (.slice Y.k.1 Y.k.2.1 Y.k.2.2) (.slice a.1 a.2.1 a.2.2) (qIi z.bn);have f:∀ b ∈ hs a,b ∉ Y.X.Ls.flatten/\b ∉ hs Y.k:=fun b hb=>⟨fun j=>l.2.1 b j hb,fun j=>m.2.1 b j hb⟩;have g:∀ b,b≠Y.X.xb->(J'.set Y.X.xb (.cells [qVi (IM Y.X.I),qVi (Kt Y.X),.slice Y.k.1 Y.k.2.1 Y.k.2.2,.slice a.1 a.2.1 a.2.2,qIi z.bn] AN true))[b]?=J'[b]?:=fun b hb=>Aaf (Ac9 hb);refine ⟨⟨k,Abq i.xbl,(h.kl.Aw m.1).Aw fun b hb=>g b fun e=>h.nk b hb (by rw[e]; exact c),o.lk fun b hb=>g b fun e=>(f b hb).1 (by rw[e]; exact c),h.nk,f⟩, ?_,l.1 _ c⟩;have q:Mv Y.fl (⟨Y.X,Y.k,a⟩:YI).fl J J':=hm.wide (fun b hb=>Aag.2 (.inr (Aag.2 (.inr hb)))) fun b hb=>by
  rcases Aag.1 hb with hb | hb
  ·exact .inl (Aag.2 (.inl hb))
  ·rcases Aag.1 hb with hb | hb
   ·exact .inl (Aag.2 (.inr (Aag.2 (.inl hb))))
   ·exact .inr (.inl hb)
 exact q.trans (Mv.set _ _ (Aag.2 (.inl c)))
end
section
variable {J:Aa} {Y:YI} {z:YS} {h1 h5 h8:Nat}
abbrev bp (b:Nat):Value:=qVi (some ⟨b,0,none⟩)
structure qN (J:Aa) (xb h1 h5 h8:Nat):Prop where
 c1:∃ T,J[h1]?=some (.cells [bp xb] T true)
 c5:∃ T,J[h5]?=some (.cells [.func (.func Gl) #[] #[bp h1]] T true)
 c8:∃ T,J[h8]?=some (.cells [.func (.func Gm) #[] #[bp h1,bp h5]] T true)
abbrev zN (h1:Nat):Value:=.func (.func SZ) #[] #[bp h1]
abbrev zP (h1 h5 h8:Nat):Value:=.func (.func Ta) #[] #[bp h8,bp h5,bp h1]
abbrev zO (h1 h8:Nat):Value:=.func (.func Tb) #[] #[bp h8,bp h1]
structure TY (J:Aa) (Y:YI) (z:YS) (h1 h5 h8:Nat):Prop where
 y:Sj J Y z
 t:qN J Y.X.xb h1 h5 h8
 n:∀ b ∈ [h1,h5,h8],b ∉ Y.fl
theorem qN.lt {e:Nat} (h:qN J e h1 h5 h8):∀ b ∈ [h1,h5,h8],b<J.length:=fun b hb=>by
 obtain ⟨_,a⟩:=h.c1;obtain ⟨_,d⟩:=h.c5;obtain ⟨_,c⟩:=h.c8;simp only[Acv,Ad3,Afz] at hb;rcases hb with rfl | rfl | rfl
 ·exact Af a
 ·exact Af d
 ·exact Af c
theorem qN.Aw {e:Nat} {J':Aa} (h:qN J e h1 h5 h8) (d:∀ b ∈ [h1,h5,h8],J'[b]?=J[b]?):qN J' e h1 h5 h8:=by
 obtain ⟨_,a⟩:=h.c1;obtain ⟨_,f⟩:=h.c5;obtain ⟨_,c⟩:=h.c8;exact ⟨⟨_,(d _ (by simp)).trans a⟩,⟨_,(d _ (by simp)).trans f⟩,⟨_,(d _ (by simp)).trans c⟩⟩
theorem TY.app (h:TY J Y z h1 h5 h8) (τ:Aa):TY (J++τ) Y z h1 h5 h8:=⟨h.y.app τ,h.t.Aw fun b hb=>AT (h.t.lt b hb),h.n⟩
theorem TY.to {J':Aa} {c:YI} {z':YS} (h:TY J Y z h1 h5 h8) (g:Sj J' c z') (hm:Mv Y.fl c.fl J J') (e:c.X.xb=Y.X.xb):TY J' c z' h1 h5 h8:=by
 obtain ⟨a,b,_⟩:=hm.DN (X:=[h1,h5,h8]) h.t.lt h.n;refine ⟨g, ?_,b⟩;rw[e]; exact h.t.Aw a
def jF (mm:Option (Value × Aa)) (J:Aa) (Y:YI) (v:Value) (z:YS) (h1 h5 h8:Nat):Prop:=
 ∃ J' a,mm=some (v,J')/\TY J' a z h1 h5 h8/\Mv Y.fl a.fl J J'/\a.X.xb=Y.X.xb/\a.X.kb=Y.X.kb/\a.X.I=Y.X.I
theorem TY.go (h:TY J Y z h1 h5 h8) {mm:Option (Value × Aa)} {v:Value} {z':YS} (g:YG mm J Y v z'):jF mm J Y v z' h1 h5 h8:=by
 obtain ⟨J',b,e,y,m,a,c,d⟩:=g;exact ⟨J',b,e,h.to y m a,m,a,c,d⟩
theorem TY.l1 (h:TY J Y z h1 h5 h8):B7 J h1 0=some (Lj Y.X):=by
 obtain ⟨_,a⟩:=h.t.c1;simp[B7,CV,a,HO]
theorem TY.l5 (h:TY J Y z h1 h5 h8):CV J h5 0=some (.func (.func Gl) #[] #[bp h1]):=by
 obtain ⟨_,a⟩:=h.t.c5;simp[CV,a]
theorem TY.l8 (h:TY J Y z h1 h5 h8):CV J h8 0=some (.func (.func Gm) #[] #[bp h1,bp h5]):=by
 obtain ⟨_,a⟩:=h.t.c8;simp[CV,a]
theorem vF (k:Nat) (h:Sj J Y z):∃ τ h1 h5 h8,FD (k+1) (Lj Y.X) J=some (.agg #[zN h1,zP h1 h5 h8,zO h1 h8],J++τ)/\TY (J++τ) Y z h1 h5 h8:=by
 refine ⟨[.cells [bp Y.X.xb] Ed true,.cells [zN J.length,zP J.length (J.length+2) (J.length+3),zO J.length (J.length+3)] Ho true,.cells [.func (.func Gl) #[] #[bp J.length]] 132 true,.cells [.func (.func Gm) #[] #[bp J.length,bp (J.length+2)]] 133 true],J.length,J.length+2,J.length+3, ?_,h.app _,⟨⟨Ed, ?_⟩,⟨132, ?_⟩,⟨133, ?_⟩⟩,fun b hb=>fun a=>?_⟩
 ·rw[T9];simp[Ae,CX,H0,Nh,Ba,Lb,Aae]
 ·simp
 ·simp
 ·simp
 ·have:=h.lt b a;simp only[Acv,Ad3,Afz] at hb;omega
theorem jZ (k:Nat) (h:TY J Y z h1 h5 h8) (a:Int) (d:AO a) (x:Nat):∃ τ,GK (k+7) a (x:Int) (some ⟨h1,0,none⟩) J=some (.bool (Ee (Ag z.m a).2.2 (x:Int)),J++τ):=by
 obtain ⟨τ,e⟩:=P6 k h.y.x.t.h a d;obtain ⟨B0,b⟩:∃ B0,Au.cells [qIi (Ag z.m a).1,qIi (Ag z.m a).2.1,qIi (Ag z.m a).2.2] Ad true=B0:=⟨_,rfl⟩;have c:∀ Z:Aa,H0 (Z++[Au.cells [qIi 0,qIi 0,qIi 0] Ad true]) Z.length 0 [qIi (Ag z.m a).1,qIi (Ag z.m a).2.1,qIi (Ag z.m a).2.2]=some (Z++[B0]):=fun Z=>by
  rw[<- b]; simp[H0,Ba]
 have ld:∀ Z:Aa,Aj .i64 (Z++[B0]) Z.length 0=some (Ag z.m a).1/\Aj .i64 (Z++[B0]) Z.length (0+1)=some (Ag z.m a).2.1/\Aj .i64 (Z++[B0]) Z.length (0+1+1)=some (Ag z.m a).2.2:=fun Z=>by
  rw[<- b]; simp[Aj,CV,Bl]
 have f1:∀ Z:Aa,Ly (k+6) (Ag z.m a).1 (Ag z.m a).2.1 (Ag z.m a).2.2 (x:Int) Z=some (.bool (Ee (Ag z.m a).2.2 (x:Int)),Z++[B0]++[B0]):=fun Z=>by
  rw[Yb];have es:=aX (k+4) (Ag z.m a).1 (Ag z.m a).2.1 (Ag z.m a).2.2 (x:=x) (Z++[B0]);rw[b] at es;simp only[Ae,b,(ld Z).1,(ld Z).2.1,(ld Z).2.2,AI,es,An,Bool.not_not]
 refine ⟨τ++[B0]++[B0]++[B0], ?_⟩;rw[show J++(τ++[B0]++[B0]++[B0])=J++τ++[B0]++[B0]++[B0] from by simp only[Aae],Q4];have e:AK (k+6) (AU Y.X.I.i) a J=_:=e;simp only[AI,h.l1,IN,Abn,h.y.x.HI,h.y.x.dX,e,jd,Ada,Adn,Nat.reduceAdd,Aah,Aeo,Aeu,H5,Ah,Ae,c,(ld _).1,(ld _).2.1,(ld _).2.2,f1,An]
def VC (m:HM) (a x:Int):List Int:=if AA m a x≠0/\Ee (Ag m a).2.2 x=true then [Bx m (AA m a x)] else []
theorem pH (k:Nat) (M:10000<k) (h:TY J Y z h1 h5 h8) {a:Int} (y:AO a) {x:Nat} (E:(x:Int)<(Ag z.m a).1) (K:z.L.length<=90000):jF (GL (k+9) a (x:Int) (some ⟨h1,0,none⟩) (some ⟨h5,0,none⟩) J) J Y (.tuple #[]) { z with L:=z.L++VC z.m a (x:Int) } h1 h5 h8:=by
 obtain ⟨τ,e⟩:=Vw (k+1) h.y.x.t.h h.y.x.t.mo.inv a (x:Int) y;rw[oh h.y.x.t.mo.inv (by omega) E] at e;have e:AL (k+8) (AU Y.X.I.i) a (x:Int) J=some (.tuple #[qIi (AA z.m a (x:Int)),qIi 0],J++τ):=e;have l:=h.app τ;have D:=Xx h.y.x.t a (x:Int);unfold VC;rw[Q5];simp only[AI,h.l1,IN,Abn,h.y.x.HI,h.y.x.dX,e,B9,Adr,IS];by_cases h0:AA z.m a (x:Int)=0
 ·rw[Abo (fun d=>d.1 h0),show (AA z.m a (x:Int) != 0)=false from by rw[h0]; rfl,Abu];simp only[By,AI,Aah];exact ⟨_,Y,rfl,l,Mv.app _ _ _,rfl,rfl,rfl⟩
 rw[show (AA z.m a (x:Int) != 0)=true from Adp.2 h0];obtain ⟨c,n⟩:=jZ (k+1) l a y x;have n:Ik (k+8) (.func (.func Gl) #[] #[bp h1]) [qIi a,qIi (x:Int)] (J++τ)=_:=(Jw (k+8) a (x:Int) (some ⟨h1,0,none⟩) (J++τ)).trans n;have m:=l.app c;simp only[IS,l.l5,AI,n,An];cases hs:Ee (Ag z.m a).2.2 (x:Int) with
 | false=>
   rw[Abo (fun d=>by cases d.2),Abu];simp only[By,AI,Aah];exact ⟨_,Y,rfl,m,(Mv.app _ _ _).trans (Mv.app _ _ _),rfl,rfl,rfl⟩
 | true=>
   rw[Abm ⟨h0,rfl⟩];obtain ⟨B0,g⟩:∃ B0,Au.cells [qIi (AA z.m a (x:Int))] Ak true=B0:=⟨_,rfl⟩;have w:=m.app [B0];have li:=ig (J++τ++c) (AA z.m a (x:Int));rw[g] at li;obtain ⟨o,j,p,t,C⟩:=kG (k+1) (by omega) w.y.x li (by simp) (fun v d=>by rw[Ac1.1 d]; exact D);have p:DI (k+8) (Lj Y.X) (some ⟨(J++τ++c).length,0,none⟩,1,1) (J++τ++c++[B0])=_:=p;have b:=w.app j;have B:=t.form;obtain ⟨i,f,q,u,s⟩:=WQ (J++τ++c++[B0]++j) Y.l z.L [Bx z.m (AA z.m a (x:Int))] o.1 1 (by simp; omega) b.y.ll (by simp) t.first
   have q:AG P Ak (Y.l.1,Y.l.2.1,Y.l.2.2) (o.1,o.2.1,o.2.2) (J++τ++c++[B0]++j)=some (i,f):=by
    rw[B]; exact q
   obtain ⟨I,A,F⟩:=b.y.loose u.mv s;have r:=m.y.cq;have st:=b.y.st3 F (.slice i.1 i.2.1 i.2.2);have G:f[h1]?=(J++τ++c++[B0]++j)[h1]?:=u.mv.same h1 (b.t.lt h1 (by simp)) fun d=>b.n h1 (by simp) (Aag.2 (.inr (Aag.2 (.inr d))));have H:=(((Mv.app Y.fl J τ).trans (Mv.app _ _ c)).trans (Mv.app _ _ [B0])).trans (Mv.app _ _ j);refine ⟨_,⟨Y.X,Y.k,i⟩, ?_,b.to I A rfl,H.trans A,rfl,rfl,rfl⟩;simp only[IS,m.l1,AI,r,IN,Ae,g,p,Nj,gP,q,QN (a:=⟨h1,0,none⟩) G,st,Aah]
theorem jF.trans {mm mm':Option (Value × Aa)} {v w:Value} {d:YS} {J1_:Aa} {Y1:YI} (hm:Mv Y.fl Y1.fl J J1_) (i:Y1.X.xb=Y.X.xb) (j:Y1.X.kb=Y.X.kb) (k:Y1.X.I=Y.X.I) (g:jF mm J1_ Y1 v d h1 h5 h8) (e:∀ J',mm=some (v,J')->mm'=some (w,J')):jF mm' J Y w d h1 h5 h8:=by
 obtain ⟨J',f,h,t,m,a,b,c⟩:=g;exact ⟨J',f,e J' h,t,hm.trans m,a.trans i,b.trans j,c.trans k⟩
theorem Sj.zn (h:Sj J Y z):B7 J Y.X.xb 1=some (Kt Y.X):=h.x.EX
theorem oB (k:Nat) (j:5000<=k) (h:TY J Y z h1 h5 h8) (hb:z.m.births<1000000) (l:Zc z.m z.s) (g:z.s.ph=0\/z.s.ph=1\/z.s.ph=2) (f:z.s.born=0\/z.s.born=2) (rr d a:Int):
  jF (H6 (k+16) (zN h1) [.agg #[qIi rr,qIi d,qIi a]] J) J Y (.tuple #[qIi (Ge z.m 0 rr d a).1.1,qIi (Ge z.m 0 rr d a).1.2]) { z with m:=(Ge z.m 0 rr d a).2.1,s:=NO z.m z.s 0 rr d a } h1 h5 h8:=by
 obtain ⟨B0,c⟩:∃ B0,Au.cells [qIi rr,qIi d,qIi a] Ad true=B0:=⟨_,rfl⟩;have b:=h.app [B0];have i:(J++[B0])[J.length]?=some B0:=Abv;have ld:Aj .i64 (J++[B0]) J.length 0=some rr/\Aj .i64 (J++[B0]) J.length (0+1)=some d/\Aj .i64 (J++[B0]) J.length (0+1+1)=some a:=by
  simp[Aj,CV,i,<- c,Bl]
 obtain ⟨n,o,p⟩:=ld;refine jF.trans (Mv.app _ _ [B0]) rfl rfl rfl (b.go (z':={ z with m:=(Ge z.m 0 rr d a).2.1,s:=NO z.m z.s 0 rr d a }) (b.y.go (q:=((Ge z.m 0 rr d a).2.1,NO z.m z.s 0 rr d a)) (Yp k j b.y.x.k hb l g f rr d a (sp:=0) (by decide)))) fun J' e=>?_;have e:B6 (k+15) (Kt Y.X) rr d a 0 (J++[B0])=_:=e;refine (MM (k+16) rr d a (some ⟨h1,0,none⟩) J).trans ?_;rw[Q6];simp only[Ae,c,AI,b.l1,IN,b.y.zn,n,o,p,e,B9]
def stL (m:HM) (a x:Int):List Int:=VC m a x++if Ee (Ag m a).2.2 x=true then [0] else []
theorem oC (k:Nat) (hk:20000<=k) (h:TY J Y z h1 h5 h8) {a to:Int} (u:AO a) (w:AO to) {x:Nat} (F:(x:Int)<(Ag z.m a).1) (W:to=0\/Ax z.m to=true) (hL:z.L.length<=80000):
  jF (IE (k+17) (zP h1 h5 h8) [qIi a,qIi (x:Int),qIi to] J) J Y (qIi 0) { z with m:=(BP z.m a (x:Int) to).2,s:=vS z.m z.s a (x:Int) to,L:=z.L++stL z.m a (x:Int) } h1 h5 h8:=by
 obtain ⟨J1_,Y1,o,t1,m1,H,M,Q⟩:=pH (k+7) (by omega) h u F (by omega);have o:Ij (k+16) (.func (.func Gm) #[] #[bp h1,bp h5]) [qIi a,qIi (x:Int)] J=_:=(Jv (k+16) a (x:Int) (some ⟨h1,0,none⟩) (some ⟨h5,0,none⟩) J).trans o;obtain ⟨b,p⟩:=jZ (k+9) t1 a u x;have p:Ik (k+16) (.func (.func Gl) #[] #[bp h1]) [qIi a,qIi (x:Int)] J1_=_:=(Jw (k+16) a (x:Int) (some ⟨h1,0,none⟩) J1_).trans p;have t2:=t1.app b;have key:∃ J3_ Y3,TY J3_ Y3 { z with L:=z.L++stL z.m a (x:Int) } h1 h5 h8/\Mv Y1.fl Y3.fl (J1_++b) J3_/\Y3.X.xb=Y1.X.xb/\Y3.X.kb=Y1.X.kb/\Y3.X.I=Y1.X.I/\(bif Ee (Ag z.m a).2.2 (x:Int) then ((some ⟨h1,0,none⟩:qOi).bind fun D=>(B7 (J1_++b) D.block D.off).bind fun p9=>(some ⟨h1,0,none⟩:qOi).bind fun f=>(B7 (J1_++b) f.block f.off).bind fun B=>B.bind fun g=>(Bd (J1_++b) g.block (g.off+3)).bind fun d=>Ae (J1_++b) (.cells [qIi 0] Ak true) fun t l=>(AG P Ak (d.1,d.2.1,d.2.2) (some ⟨t,0,none⟩,1,1) l).bind fun c=>HL (some ⟨h1,0,none⟩) l c.2 (p9.bind fun i=>(CX c.2 i.block (i.off+3) (.slice c.1.1 c.1.2.1 c.1.2.2)).bind fun C=>some (.normal,[],C))) else (some (.normal,[],J1_++b)):Option Bq)=some (.normal,[],J3_):=by
  unfold stL;cases hs:Ee (Ag z.m a).2.2 (x:Int) with
  | false=>
    refine ⟨J1_++b,Y1, ?_,Mv.refl _ _,rfl,rfl,rfl,rfl⟩;rw[Abo (by decide),Abu];exact t2
  | true=>
    rw[Abm rfl];have t3:=t2.app [Au.cells [qIi 0] Ak true];have hlen:(z.L++VC z.m a (x:Int)).length<=80001:=by
     unfold VC; split <;> simp <;> omega
    obtain ⟨j,e,r,E,A⟩:=WQ (J1_++b++[Au.cells [qIi 0] Ak true]) Y1.l (z.L++VC z.m a (x:Int)) [0] (some ⟨(J1_++b).length,0,none⟩) 1 (by simp at hlen ⊢; omega) t3.y.ll (by simp) (ig (J1_++b) 0).first
    have r:AG P Ak (Y1.l.1,Y1.l.2.1,Y1.l.2.2) (some ⟨(J1_++b).length,0,none⟩,1,1) (J1_++b++[Au.cells [qIi 0] Ak true])=some (j,e):=r;obtain ⟨y7,G,X⟩:=t3.y.loose E.mv A;have y:=t2.y.cq;have st:=t3.y.st3 X (.slice j.1 j.2.1 j.2.2);have Z:e[h1]?=(J1_++b++[Au.cells [qIi 0] Ak true])[h1]?:=E.mv.same h1 (t3.t.lt h1 (by simp)) fun V=>t3.n h1 (by simp) (Aag.2 (.inr (Aag.2 (.inr V))));refine ⟨_,⟨Y1.X,Y1.k,j⟩, ?_,(Mv.app _ _ _).trans G,rfl,rfl,rfl, ?_⟩
    ·have:=t3.to y7 G rfl;rw[Aae] at this;exact this
    ·simp only[IS,t2.l1,AI,y,IN,Ae,r,QN (a:=⟨h1,0,none⟩) Z,st]
 obtain ⟨J3_,Y3,t3,m3,I,N,S,U⟩:=key;obtain ⟨n,Y4,q,t4,m4,K,O,T⟩:=t3.go (t3.y.go (fR (k+1) (by omega) t3.y.x.k u w (by omega) F W));have q:Ci (k+16) (Kt Y3.X) a (x:Int) to J3_=_:=q;refine ⟨n,Y4, ?_,t4,((m1.trans (Mv.app _ _ _)).trans m3).trans m4,K.trans (I.trans H),O.trans (N.trans M),T.trans (S.trans Q)⟩;refine (Nc (k+17) a (x:Int) to (some ⟨h8,0,none⟩) (some ⟨h5,0,none⟩) (some ⟨h1,0,none⟩) J).trans ?_;rw[Q7];simp only[AI,h.l8,o,Gg,t1.l5,p,An];refine wO (v:=(C6.normal,[],J3_)) U ?_;simp only[Aah,t3.l1,AI,IN,t3.y.zn,q,Ah]
end
section
variable {J:Aa} {Y:YI} {z:YS} {h1 h5 h8:Nat}
theorem sV (k:Nat) (r:20000<=k) (h:TY J Y z h1 h5 h8) {a:Int} (e:AO a) {x:Nat} (f:(x:Int)<(Ag z.m a).1) (q:z.L.length<=80000):
  jF (ID (k+17) (zO h1 h8) [qIi a,qIi (x:Int)] J) J Y (.tuple #[qIi (AA z.m a (x:Int)),qIi 0]) { z with s:=xi z.m z.s a (x:Int),L:=z.L++VC z.m a (x:Int) } h1 h5 h8:=by
 obtain ⟨J1_,Y1,c,t1,o,g,j,m⟩:=pH (k+7) (by omega) h e f (by omega);have c:Ij (k+16) (.func (.func Gm) #[] #[bp h1,bp h5]) [qIi a,qIi (x:Int)] J=_:=(Jv (k+16) a (x:Int) (some ⟨h1,0,none⟩) (some ⟨h5,0,none⟩) J).trans c;obtain ⟨b,Y4,d,t4,p,i,l,n⟩:=t1.go (t1.y.go (uo (k+2) (by omega) t1.y.x.k e (x:=(x:Int)) (by omega) f));have d:EO (k+16) (Kt Y1.X) a (x:Int) J1_=_:=d;refine ⟨b,Y4, ?_,t4,o.trans p,i.trans g,l.trans j,n.trans m⟩;refine (Nb (k+17) a (x:Int) (some ⟨h8,0,none⟩) (some ⟨h1,0,none⟩) J).trans ?_;rw[Q8];simp only[AI,h.l8,c,Gg,t1.l1,IN,t1.y.zn,d,B9]
end
section
inductive Td (z:YS):YS->Prop
 | none:Td z z
 | full {m':HM}:(∀ a,Gc z.m m' a)->m'.births=z.m.births->m'.bls.length=z.m.bls.length->Td z { z with m:=m' }
 | new {m':HM} {v:Int} {sh:Int × Int × Int} {w:Int × Nat × Nat}:mH z.m m' v sh->m'.bls.length=z.m.bls.length->Td z { z with m:=m',s:=Eb z.s v (Kv z.s),r:=Ht z.r w.1 w.2.1 w.2.2 v }
 | store {a to:Int} {x:Nat}:a ∈ GC z.m z.r->(x:Int)<(Ag z.m a).1->(to=0\/to ∈ GC z.m z.r)->Td z { z with m:=(BP z.m a (x:Int) to).2,s:=vS z.m z.s a (x:Int) to,L:=z.L++stL z.m a (x:Int) }
 | set {v:Int} {w:Int × Nat × Nat}:(v=0\/v ∈ GC z.m z.r)->Td z { z with r:=Ht z.r w.1 w.2.1 w.2.2 v }
 | load {a:Int} {x:Nat} {w:Int × Nat × Nat}:a ∈ GC z.m z.r->(x:Int)<(Ag z.m a).1->Td z { z with s:=xi z.m z.s a (x:Int),L:=z.L++VC z.m a (x:Int),r:=Ht z.r w.1 w.2.1 w.2.2 (AA z.m a (x:Int)) }
 | data {a x v:Int}:0<=x->x<(Ag z.m a).2.1->Td z { z with m:=(GQ z.m a x v).2 }
theorem eu (m:HM) (s:TC) (a:Int):(IA m s a).ph=s.ph/\(IA m s a).left=s.left/\(IA m s a).look=s.look/\(IA m s a).born=s.born/\(IA m s a).ws.length=s.ws.length/\(s.ph≠1->IA m s a=s):=by
 unfold IA;split
 ·rename_i h;obtain ⟨b,c,d,g,e⟩:=Nl m s a;exact ⟨b,c,d,e,U2 m s a,fun f=>absurd h f⟩
 ·exact ⟨rfl,rfl,rfl,rfl,rfl,fun _=>rfl⟩
theorem PV {m:HM} {s:TC} (h:s.ph=1) (a:Int):IA m s a=AM m s [a]:=by unfold IA; rw[Abm h]; rfl
theorem lV {m m':HM} (h:∀ b,Ax m' b=Ax m b) (s:TC) (a:Int):Cu m' s a=Cu m s a:=by unfold Cu; rw[h]
theorem X3 {m m':HM} (h:∀ b,Ax m' b=Ax m b):∀ (l:List Int) (s:TC),AM m' s l=AM m s l
 | [],s=>rfl
 | a::l,s=>by
   show AM m' (Cu m' s a) l=AM m (Cu m s a) l;rw[lV h,X3 h l]
theorem RQ {r:D3} {k:Int} {mt ix:Nat} {a v:Int} (h:v ∈ (Ht r k mt ix a).all):v=a\/v ∈ r.all:=Yw h
structure Lk (m m':HM):Prop where
 has:∀ a,Ax m' a=Ax m a
 shp:∀ a,Ag m' a=Ag m a
 ref:∀ a x,AA m' a x=AA m a x
theorem Lk.same {m m':HM} (h:∀ a,Gc m m' a):Lk m m':=⟨fun a=>(h a).has,fun a=>(h a).shp,fun a x=>(h a).AA x⟩
theorem Lk.data {m m':HM} (h:Aap m m'):Lk m m':=⟨h.has,h.shp,h.ref⟩
theorem Lk.symm {m m':HM} (h:Lk m m'):Lk m' m:=⟨fun a=>(h.has a).symm,fun a=>(h.shp a).symm,fun a x=>(h.ref a x).symm⟩
theorem Lk.Lf {m m':HM} (h:Lk m m') {a b:Int}:Edge m' a b↔Edge m a b:=by
 unfold Edge;rw[h.shp];simp only[h.ref]
theorem Edge.Aw {m m':HM} {a b:Int} (h:Gc m m' a):Edge m' a b↔Edge m a b:=by
 unfold Edge;rw[h.shp];simp only[h.AA]
theorem Kg {m m':HM} {s:TC} {a:Int} (h:Ax m' a=Ax m a):Bz m' s a=Bz m s a:=by unfold Bz; rw[h]
theorem Cl.Aw {m m':HM} {s:TC} (h:Lk m m') {a:Int} (d:Cl m s a):Cl m' s a:=by
 refine d.min (fun a d=>.seen (by rw[Kg (h.has a)]; exact d)) (fun a b c i f e hb=>.Lf i f (h.Lf.2 e) (by rw[h.has]; exact hb)) fun a c i g j i0 hb=>?_;rw[<- h.ref] at i0 hb ⊢;exact .eph i (by rw[h.shp]; exact g) i0 (by rw[h.has]; exact hb)
theorem Kp.Aw {m m':HM} {R:Int->Prop} (h:Lk m m') {a:Int} (g:Kp m R a):Kp m' R a:=by
 refine g.min ⟨fun a b c e hb=>.Lf c (h.Lf.2 e) (by rw[h.has]; exact hb),fun a c i d hb=>?_⟩ fun a h1 f=>.root h1 (by rw[h.has]; exact f);rw[<- h.ref] at d hb ⊢;exact .eph c (by rw[h.shp]; exact i) d (by rw[h.has]; exact hb)
theorem JI.Aw {m m':HM} {r:D3} {s:TC} (h:JI m r s) (hs:Lk m m') (n:m'.bls.length=m.bls.length):JI m' r s:=by
 have d:=hs.has;refine ⟨fun j l h0=>by rw[d]; exact h.zc j (by rw[<- n]; exact l) h0,h.bn, ?_⟩;rcases h.st with ⟨h1,f⟩ | ⟨h1,f⟩ | ⟨h1,f⟩
 ·exact .inl ⟨h1,fun a c x=>by rw[d] at c; rw[hs.ref,d]; exact f.rf a c x,fun a c=>by rw[d]; exact f.ld a c,fun a c=>f.c0 a (by rw[<- d]; exact c)⟩
 ·refine .inr (.inl ⟨h1,fun a c x=>by rw[d] at c; rw[hs.ref,d]; exact f.rf a c x,fun a c=>by rw[d]; exact f.ld a c,⟨fun a c=>f.mm.c2 a (by rw[<- d]; exact c),fun a c=>f.mm.gl a (by rw[<- d]; exact c),fun a c=>by rw[Kg (d a)]; exact f.mm.ln a c⟩,fun g a b c k e hb=>f.inc g a b (by rw[<- d]; exact c) k (hs.Lf.1 e) (by rw[<- d]; exact hb),fun g=>⟨fun a b c k e hb=>((f.snp g).bl a b (by rw[<- d]; exact c) k (hs.Lf.1 e) (by rw[<- d]; exact hb)).Aw hs,fun a c i=>((f.snp g).rt a c (by rw[<- d]; exact i)).Aw hs⟩⟩)
 ·exact .inr (.inr ⟨h1,fun a c x=>by rw[Kg (d a)] at c; rw[hs.ref,Kg (d _)]; exact f.rf a c x,fun a c=>by rw[Kg (d a)]; exact f.ld a c,fun a c=>f.wh a (by rw[<- d]; exact c)⟩)
def Fit (m:HM) (s:TC) (v:Int):Prop:=v=0\/(Ax m v=true/\(s.ph=1->s.look=false->Cl m s v)/\(s.ph=2->Bz m s v=true))
theorem JI.put {m:HM} {r:D3} {s:TC} (h:JI m r s) {k:Int} {mt ix:Nat} {v:Int} (i:MK m) (f:Fit m s v):JI m (Ht r k mt ix v) s:=by
 refine ⟨h.zc,h.bn, ?_⟩;rcases h.st with ⟨h1,b⟩ | ⟨h1,b⟩ | ⟨h1,b⟩
 ·exact .inl ⟨h1,b.rf,fun a c=>(RQ c).elim (fun e=>by rw[e]; exact f.imp id fun d=>d.1) (b.ld a),b.c0⟩
 ·exact .inr (.inl ⟨h1,b.rf,fun a c=>(RQ c).elim (fun e=>by rw[e]; exact f.imp id fun d=>d.1) (b.ld a),b.mm,b.inc,fun g=>⟨(b.snp g).bl,fun a c d=>(RQ c).elim (fun e=>by
   rcases f with f | f
   ·exact absurd (e.trans f) (PH i d)
   ·rw[e]; exact f.2.1 h1 g) fun c=>(b.snp g).rt a c d⟩⟩)
 ·exact .inr (.inr ⟨h1,b.rf,fun a c=>(RQ c).elim (fun e=>by rw[e]; exact f.imp id fun d=>d.2.2 h1) (b.ld a),b.wh⟩)
theorem JI.fit {m:HM} {r:D3} {s:TC} (h:JI m r s) (d:MK m) {v:Int} (a:v=0\/v ∈ GC m r):Fit m s v:=by
 rcases a with a | a
 ·exact .inl a
 ·have b:=(Ih d r).1 a;right;refine ⟨b.has,fun h1 e=>?_,fun c=>?_⟩
  ·rcases h.st with ⟨x,_⟩ | ⟨_,x⟩ | ⟨x,_⟩
   ·rw[h1] at x; cases x
   ·exact (x.snp e).kept b
   ·rw[h1] at x; cases x
  ·rcases h.st with ⟨x,_⟩ | ⟨x,_⟩ | ⟨_,x⟩
   ·rw[c] at x; cases x
   ·rw[c] at x; cases x
   ·exact x.kept d b
theorem JI.new {m m':HM} {r:D3} {s:TC} (h:JI m r s) (Q:MK m) (C:MK m') (K:Qw m.bls.length s) {v:Int} {M:Int × Int × Int} (V:mH m m' v M) (J:m'.bls.length=m.bls.length) {k:Int} {mt ix:Nat}:JI m' (Ht r k mt ix v) (Eb s v (Kv s)):=by
 have hw:Wl m' s:=by unfold Wl; rw[J]; exact K.wl
 have IX:∀ a,Ax m a=true->a≠v/\Ax m' a=true/\Gc m m' a:=fun a d=>by
  have g:a≠v:=by rintro rfl; rw[V.IX] at d; cases d
  exact ⟨g,by rw[(V.same a g).has]; exact d,V.same a g⟩
 have back:∀ a,Ax m' a=true->a=v\/Ax m a=true:=fun a d=>by
  by_cases g:a=v
  ·exact .inl g
  ·exact .inr (by rw[<- (V.same a g).has]; exact d)
 have q:Kv s<4/\Kv s≠1/\Kv s<=2:=by
  unfold Kv;have I:=h.bn;split
  ·rw[I]; split <;> decide
  ·split <;> decide
 have f:∀ a,Ax m' a=true->C9 (Eb s v (Kv s)) a=if a=v then Kv s else C9 s a:=fun a d=>Yu hw V.has d q.1
 have O:Zc m' (Eb s v (Kv s)):=Zc.cK (fun j L h0=>(IX _ (h.zc j (by rw[<- J]; exact L) h0)).2.1) hw V.has q.1;have t:XG m->XG m':=fun D a d x=>by
  rcases back a d with rfl | hm
  ·exact .inl (V.ref _)
  ·rw[(IX a hm).2.2.AA];exact (D a hm x).imp id fun w=>(IX _ w).2.1
 have Bd:Mq m r->Mq m' (Ht r k mt ix v):=fun D a d=>(RQ d).elim (fun e=>.inr (by rw[e]; exact V.has)) fun d=>(D a d).imp id fun w=>(IX a w).2.1;have E:∀ b,Edge m' v b->Ax m' b=true->False:=fun b ⟨x,_,_,e⟩ hb=>by
  rw[V.ref] at e;rw[<- e,xn C] at hb; cases hb
 have Lf:∀ a b,XG m->Ax m a=true->Edge m' a b->Ax m' b=true->Edge m a b/\Ax m b=true:=fun a b D d e hb=>by
  have A:=(Edge.Aw (IX a d).2.2).1 e;obtain ⟨x,h1,l,H⟩:=A;refine ⟨⟨x,h1,l,H⟩, ?_⟩;rcases D a d x with h0 | h0
  ·rw[<- H,h0,xn C] at hb; cases hb
  ·rw[<- H]; exact h0
 have seen:∀ a,Bz m s a=true->Bz m' (Eb s v (Kv s)) a=true:=fun a d=>by
  obtain ⟨F,G⟩:=AY.1 d;obtain ⟨p,u,_⟩:=IX a F;exact AY.2 ⟨u,by rw[f a u,Abo p]; exact G⟩
 have mono:∀ a,Cl m s a->Cl m' (Eb s v (Kv s)) a:=fun a d=>by
  refine d.min (fun a d=>.seen (seen a d)) (fun a b c i n e hb=>?_) fun a c i y P i0 hb=>?_
  ·obtain ⟨p,u,z⟩:=IX a c.has;exact .Lf i (by rw[f a u,Abo p]; exact n) ((Edge.Aw z).2 e) (IX b hb).2.1
  ·obtain ⟨p,u,z⟩:=IX a c.has;have o:=(IX _ hb).2.1;rw[<- z.AA] at i0 o ⊢;exact .eph i (by rw[z.shp]; exact y) i0 o
 refine ⟨O,h.bn, ?_⟩;rcases h.st with ⟨h1,l⟩ | ⟨h1,l⟩ | ⟨h1,l⟩
 ·refine .inl ⟨h1,t l.rf,Bd l.ld,fun a d=>?_⟩;rw[f a d];split
  ·unfold Kv; rw[h1]; rfl
  ·rename_i g;exact l.c0 a ((back a d).resolve_left g)
 ·refine .inr (.inl ⟨h1,t l.rf,Bd l.ld,⟨fun a d=>?_,fun a d n=>?_,fun a d=>seen a (l.mm.ln a d)⟩,fun y a b d n e hb=>?_,fun y=>⟨fun a b d n e hb=>?_,fun a d w=>?_⟩⟩)
  ·rw[f a d];split
   ·exact q.2.2
   ·rename_i g;exact l.mm.c2 a ((back a d).resolve_left g)
  ·rw[f a d] at n;split at n
   ·exact absurd n q.2.1
   ·rename_i g;exact l.mm.gl a ((back a d).resolve_left g) n
  ·rcases back a d with rfl | hm
   ·exact absurd (E b e hb) id
   ·obtain ⟨p,u,_⟩:=IX a hm;rw[f a d,Abo p] at n;obtain ⟨A,o⟩:=Lf a b l.rf hm e hb;have:=l.inc y a b hm n A o;rw[f b hb,Abo (IX b o).1]; exact this
  ·rcases back a d with rfl | hm
   ·exact absurd (E b e hb) id
   ·obtain ⟨p,u,_⟩:=IX a hm;rw[f a d,Abo p] at n;obtain ⟨A,o⟩:=Lf a b l.rf hm e hb;exact mono b ((l.snp y).bl a b hm n A o)
  ·rcases back a w with rfl | hm
   ·refine .seen (AY.2 ⟨w, ?_⟩);have:s.look=false:=y;rw[f a w,Abm rfl];unfold Kv;rw[Abm h1,h.bn,this]; decide
   ·rcases RQ d with e | d
    ·exact absurd e (IX a hm).1
    ·exact mono a ((l.snp y).rt a d hm)
 ·have B:Kv s=2:=by unfold Kv; rw[h1]; rfl
  have N:Bz m' (Eb s v (Kv s)) v=true:=AY.2 ⟨V.has,by rw[f v V.has,Abm rfl,B]; decide⟩;refine .inr (.inr ⟨h1,fun a d x=>?_,fun a d=>(RQ d).elim (fun e=>.inr (by rw[e]; exact N)) fun d=>(l.ld a d).imp id (seen a),fun a d n=>?_⟩)
  ·obtain ⟨F,G⟩:=AY.1 d;rcases back a F with rfl | hm
   ·exact .inl (V.ref _)
   ·obtain ⟨p,u,z⟩:=IX a hm;rw[f a F,Abo p] at G;rw[z.AA];exact (l.rf a (AY.2 ⟨hm,G⟩) x).imp id (seen _)
  ·rw[f a d] at n;split at n
   ·rw[B] at n; cases n
   ·rename_i g;exact l.wh a ((back a d).resolve_left g) n
end
section
def KQ (m:HM) (a x:Int) (IX:Int):List Int:=IX::if x=0/\(Ag m a).2.2=2 then [AA m a 1] else []
theorem zB {m:HM} {s:TC} (h:s.ph=1) (a x IX:Int):zA m s a x IX=AM m s (KQ m a x IX):=by
 unfold zA KQ;split
 ·rw[PV h,PV (by rw[<- h]; exact (Ff m [IX] s).1)];rfl
 ·rw[PV h]
theorem xq {m:HM} {s:TC} (h:s.ph≠1) (a x IX:Int):zA m s a x IX=s:=by
 have e:∀ b,IA m s b=s:=fun b=>by unfold IA; rw[Abo h]
 unfold zA;split
 ·rw[e,e]
 ·rw[e]
theorem JI.store {m:HM} {r:D3} {s:TC} (h:JI m r s) (z:MK m) (U:Qw m.bls.length s) (M:s.look=false) {a to:Int} {x:Nat} (W:a ∈ GC m r) (hx:(x:Int)<(Ag m a).1) (q:to=0\/to ∈ GC m r):JI (BP m a (x:Int) to).2 r (vS m s a (x:Int) to)/\(vS m s a (x:Int) to).look=false/\(vS m s a (x:Int) to).ph=s.ph:=by
 have ka:=(Ih z r).1 W;have C:to=0\/Ax m to=true:=q.imp id fun d=>((Ih z r).1 d).has;obtain ⟨_,V⟩:=Uy z.inv (a:=a) (x:=(x:Int)) (v:=to) (by omega) hx C;have F:=h.fit z q;have hw:Wl m s:=U.wl;unfold vS;generalize Y:(BP m a (x:Int) to).2=m' at *;have d:=V.has;have E:XG m->XG m':=fun hr b hb y=>by
  rw[d] at hb;rw[V.ref,d];split
  ·exact C
  ·exact hr b hb y
 by_cases hp:s.ph=1;rotate_left
 ·rw[xq hp];refine ⟨⟨fun j B h0=>by rw[d]; exact h.zc j (by rw[V.bls] at B; exact B) h0,h.bn, ?_⟩,M,rfl⟩;rcases h.st with ⟨h1,k⟩ | ⟨h1,_⟩ | ⟨h1,k⟩
  ·exact .inl ⟨h1,E k.rf,fun b hb=>by rw[d]; exact k.ld b hb,fun b hb=>k.c0 b (by rw[<- d]; exact hb)⟩
  ·exact absurd h1 hp
  ·refine .inr (.inr ⟨h1,fun b hb y=>?_,fun b hb=>by rw[Kg (d b)]; exact k.ld b hb,fun b hb=>k.wh b (by rw[<- d]; exact hb)⟩);rw[Kg (d b)] at hb;rw[V.ref,Kg (d _)];split
   ·exact F.imp id fun X=>X.2.2 h1
   ·exact k.rf b hb y
 ·rw[zB hp];have T:AM m' s (KQ m' a (x:Int) (AA m a (x:Int)))=AM m s (KQ m' a (x:Int) (AA m a (x:Int))):=X3 d _ _;rw[T];obtain ⟨O,q2,P,q4,q5⟩:=Ff m (KQ m' a (x:Int) (AA m a (x:Int))) s;have k:tt m r s:=by
   rcases h.st with ⟨y,_⟩ | ⟨_,y⟩ | ⟨y,_⟩
   ·rw[hp] at y; cases y
   ·exact y
   ·rw[hp] at y; cases y
  have f:∀ b,Ax m b=true->b ∈ KQ m' a (x:Int) (AA m a (x:Int))->C9 (AM m s (KQ m' a (x:Int) (AA m a (x:Int)))) b≠0:=fun b hb J=>by
   rw[IL _ _ hw hb];split
   ·decide
   ·rename_i A;exact fun h0=>A ⟨h0,J⟩
  have w:=k.Kj hw (KQ m' a (x:Int) (AA m a (x:Int)));have hz:Zc m (AM m s (KQ m' a (x:Int) (AA m a (x:Int)))):=Zc.Kj _ h.zc hw;have hold:AA m a (x:Int) ∈ KQ m' a (x:Int) (AA m a (x:Int)):=Ac0;have D:(x:Int)=0->(Ag m a).2.2=2->AA m a 1 ∈ KQ m' a (x:Int) (AA m a (x:Int)):=fun e o=>by
   unfold KQ;rw[V.shp,Abm ⟨e,o⟩,V.ref,Abo (fun d=>by omega)];simp
  generalize AM m s (KQ m' a (x:Int) (AA m a (x:Int)))=s2 at *;have p:s2.look=false:=P.trans M;have u:=w.snp p;have mono:∀ b,Cl m s2 b->Cl m' s2 b:=fun b hb=>by
   refine hb.min (fun b hb=>.seen (by rw[Kg (d b)]; exact hb)) (fun y b c i A e hb=>?_) fun y c i o c0 i0 hb=>?_
   ·obtain ⟨n,G,H,l⟩:=e;by_cases g:y=a/\(n:Int)=(x:Int)
    ·obtain ⟨rfl,Z⟩:=g;rw[Z] at l;exact .seen (AY.2 ⟨by rw[d]; exact hb,f b hb (by rw[<- l]; exact hold)⟩)
    ·refine .Lf i A ⟨n,by rw[V.shp]; exact G,by rw[V.shp]; exact H, ?_⟩ (by rw[d]; exact hb);rw[V.ref,Abo g]; exact l
   ·by_cases t:y=a
    ·subst t;by_cases Q:(x:Int)=0
     ·exact .seen (AY.2 ⟨by rw[d]; exact hb,f _ hb (D Q o)⟩)
     ·by_cases S:(x:Int)=1
      ·exact .seen (AY.2 ⟨by rw[d]; exact hb,f _ hb (by rw[<- S]; exact hold)⟩)
      ·have K:AA m' y 0=AA m y 0:=by rw[V.ref,Abo (fun g=>Q g.2.symm)]
       have L:AA m' y 1=AA m y 1:=by rw[V.ref,Abo (fun g=>S g.2.symm)]
       rw[<- K] at i0;rw[<- L] at hb ⊢;exact .eph i (by rw[V.shp]; exact o) i0 (by rw[d]; exact hb)
    ·have K:AA m' y 0=AA m y 0:=by rw[V.ref,Abo (fun g=>t g.1)]
     have L:AA m' y 1=AA m y 1:=by rw[V.ref,Abo (fun g=>t g.1)]
     rw[<- K] at i0;rw[<- L] at hb ⊢;exact .eph i (by rw[V.shp]; exact o) i0 (by rw[d]; exact hb)
  refine ⟨⟨fun j B h0=>by rw[d]; exact hz j (by rw[V.bls] at B; exact B) h0,by rw[q5,P]; exact h.bn,.inr (.inl ⟨O.trans hp,E w.rf,fun b hb=>by rw[d]; exact w.ld b hb,⟨fun b hb=>w.mm.c2 b (by rw[<- d]; exact hb),fun b hb=>w.mm.gl b (by rw[<- d]; exact hb),fun b hb=>by rw[Kg (d b)]; exact w.mm.ln b hb⟩,fun o=>(by rw[p] at o; cases o),fun _=>⟨fun y b N A e hb=>?_,fun b hb I=>mono b (u.rt b hb (by rw[<- d]; exact I))⟩⟩)⟩,p,O⟩;rw[d] at N hb;obtain ⟨n,G,H,l⟩:=e;rw[V.shp] at G H;rw[V.ref] at l;split at l
  ·rcases q with q | q
   ·rw[<- l,q,xn z] at hb; cases hb
   ·rw[<- l];refine mono to ((wD.kept u) ((Ih z r).1 q))
  ·exact mono b (u.bl y b N A ⟨n,G,H,l⟩ hb)
theorem JI.load {m:HM} {r:D3} {s:TC} (h:JI m r s) (f:MK m) (k:Qw m.bls.length s) (g:s.look=false) {a:Int} {x:Nat} (l:a ∈ GC m r) (o:(x:Int)<(Ag m a).1):JI m r (xi m s a (x:Int))/\(xi m s a (x:Int)).look=false/\(xi m s a (x:Int)).ph=s.ph/\Fit m (xi m s a (x:Int)) (AA m a (x:Int)):=by
 have e:=(Ih f r).1 l;have hw:Wl m s:=k.wl;have d:Ee (Ag m a).2.2 (x:Int)=false->Fit m s (AA m a (x:Int)):=fun hs=>by
  by_cases h0:Ax m (AA m a (x:Int))=true
  ·exact h.fit f (.inr ((Ih f r).2 (e.Lf ⟨x,o,hs,rfl⟩ h0)))
  ·left;rcases h.st with ⟨_,b⟩ | ⟨_,b⟩ | ⟨_,b⟩
   ·exact (b.rf a e.has x).resolve_right h0
   ·exact (b.rf a e.has x).resolve_right h0
   ·exact (b.rf a (b.kept f e) x).resolve_right fun c=>h0 (AY.1 c).1
 unfold xi;cases hs:Ee (Ag m a).2.2 (x:Int) with
 | false=>exact ⟨h,g,rfl,d hs⟩
 | true=>
   simp only[Aah];by_cases hp:s.ph=1
   ·rw[PV hp];obtain ⟨i,q,j,t,p⟩:=Ff m [AA m a (x:Int)] s;have b:tt m r s:=by
     rcases h.st with ⟨y,_⟩ | ⟨_,y⟩ | ⟨y,_⟩
     ·rw[hp] at y; cases y
     ·exact y
     ·rw[hp] at y; cases y
    refine ⟨⟨Zc.Kj _ h.zc hw,by rw[p,j]; exact h.bn,.inr (.inl ⟨i.trans hp,b.Kj hw _⟩)⟩,j.trans g,i,(b.rf a e.has x).imp id fun c=>⟨c,fun _ _=>.seen (AY.2 ⟨c, ?_⟩),fun b=>by rw[i,hp] at b; cases b⟩⟩;rw[IL _ _ hw c];split
    ·decide
    ·rename_i n;exact fun h0=>n ⟨h0,by simp⟩
   ·rw[(eu m s (AA m a (x:Int))).2.2.2.2.2 hp];refine ⟨h,g,rfl, ?_⟩;rcases h.st with ⟨h1,b⟩ | ⟨h1,_⟩ | ⟨h1,b⟩
    ·exact (b.rf a e.has x).imp id fun c=>⟨c,fun h=>absurd h hp,fun b=>by rw[h1] at b; cases b⟩
    ·exact absurd h1 hp
    ·exact (b.rf a (b.kept f e) x).imp id fun c=>⟨(AY.1 c).1,fun h=>absurd h hp,fun _=>c⟩
theorem Td.run {z z':YS} (h:Td z z') (b:JI z.m z.r z.s) (d:MK z.m) (k:MK z'.m) (l:Qw z.m.bls.length z.s) (e:z.s.look=false):JI z'.m z'.r z'.s/\z'.s.look=false/\z'.s.ph=z.s.ph/\z'.m.births<=z.m.births+1/\z'.m.bls.length=z.m.bls.length/\z'.K=z.K/\z'.bn=z.bn:=by
 cases h with
 | none=>exact ⟨b,e,rfl,by omega,rfl,rfl,rfl⟩
 | full h1 f c=>exact ⟨b.Aw (Lk.same h1) c,e,rfl,by dsimp only; omega,c,rfl,rfl⟩
 | new V c=>exact ⟨b.new d k l V c,e,rfl,by dsimp only; rw[V.brt]; omega,c,rfl,rfl⟩
 | @store a to x h1 f c=>
   obtain ⟨g,i,j⟩:=b.store d l e h1 f c;obtain ⟨n,p,o,_⟩:=Ny z.m a (x:Int) to;exact ⟨g,i,j,by dsimp only; rw[o]; omega,by dsimp only; rw[n],rfl,rfl⟩
 | set h1=>exact ⟨b.put d (b.fit d h1),e,rfl,by dsimp only; omega,rfl,rfl,rfl⟩
 | load h1 f=>
   obtain ⟨g,i,j,m⟩:=b.load d l e h1 f;exact ⟨g.put d m,i,j,by dsimp only; omega,rfl,rfl,rfl⟩
 | @data a x v h1 f=>
   obtain ⟨_,V⟩:=X1 d.inv v h1 f;exact ⟨b.Aw (Lk.data V) (by rw[V.bls]),e,rfl,by dsimp only; rw[V.brt]; omega,by dsimp only; rw[V.bls],rfl,rfl⟩
end
section
variable {J:Aa} {Y:YI} {z:YS} {h1 h5 h8:Nat}
def cO (l:List Int) (n:Nat):Int:=if l=[]\/200<=n then 0 else l.getD (n % l.length) 0
theorem gq (l:List Int) (n:Nat):cO l n=0\/cO l n ∈ l:=by
 unfold cO;split
 ·exact .inl rfl
 ·rename_i h;have h0:l≠[]:=fun e=>h (.inl e);exact .inr (Ot (Ael _ (Aer.2 h0)))
theorem pJ (k:Nat) {o:Bv} {l:List Int} (e:Bh J o l) {a:Nat} {T:TypeId} (g:J[a]?=some (.cells [.slice o.1 o.2.1 o.2.2] T true)) {n:Nat} (m:n<256):Dl (k+1) (n:Int) (some ⟨a,0,none⟩) J=some (qIi (cO l n),J):=by
 have h:=e.form;have f1:o.2.1=l.length:=by rw[h]
 have ld:Bd J a 0=some (o.1,o.2.1,o.2.2):=by simp[Bd,CV,g,Ej]
 have w:Ar (n:Int)=(n:Int):=Ai (by unfold AO; omega);unfold cO;rw[Q3];simp only[AI,ld,f1,w];by_cases h0:l=[]
 ·rw[Abm (.inl h0),h0];simp only[Adn,show (((0:Nat):Int) == 0)=true from rfl,IS,AI]
 ·have hp:=Aer.2 h0;rw[show (((l.length:Nat):Int) == 0)=false from by rw[Acy]; omega];simp only[By,AI];by_cases d:200<=n
  ·rw[Abm (.inr d),Aad (show (n:Int)>=200 by omega)];rfl
  ·rw[Abo (fun i=>i.elim h0 d),Aac (show ¬ (n:Int)>=200 by omega)];have c:n % l.length<l.length:=Ael _ hp;obtain ⟨b,f,j,_⟩:=e.ld c;simp only[By,ld,f1,Kq,f,AI,IT,Acu,IN,j];rw[Abo (by omega),Abm (by omega)]
theorem iV {a b c:Nat} (h:a<256) (hb:b<256) (i:c<256):valid (LN (a:Int) (b:Int) (c:Int)).1 (LN (a:Int) (b:Int) (c:Int)).2.1 (LN (a:Int) (b:Int) (c:Int)).2.2=true:=by
 have d:(b:Int).tmod 5=((b % 5:Nat):Int):=Kq b 5;have e:((b % 5:Nat):Int).tmod 3=((b % 5 % 3:Nat):Int):=Kq (b % 5) 3;have f:(c:Int).tmod 6=((c % 6:Nat):Int):=Kq c 6;have g:(c:Int).tmod 100=((c % 100:Nat):Int):=Kq c 100;unfold LN valid;rw[d,e,f,g];split
 ·simp; omega
 ·split
  ·simp; omega
  ·split
   ·simp; omega
   ·split
    ·simp; omega
    ·simp; omega
theorem MK.xG {m:HM} (h:MK m) (a x v:Int):MK (GQ m a x v).2:=by
 have b:=(VJ h.inv h.inv2 a x v).inv;have c:=(VJ h.inv h.inv2 a x v).inv2;unfold GQ at b c ⊢;split
 ·rename_i d;rw[Abm d] at b c;refine ⟨b,c,⟨?_,h.sh.sl,h.sh.pl⟩,bX h.fz rfl,h.b0,h.nb,h.nt⟩;show (m.wds.set _ _).length=_;rw[Ac8]; exact h.sh.wl
 ·exact h
theorem px {m:HM} (a:m.bls.length<=64) {v:Int} (h:Ax m v=true):AO v/\0<=v:=by
 obtain ⟨j,rfl,hs⟩:=AV h;have:=hs.1;unfold AO; omega
theorem JI.ro {m:HM} {r:D3} {s:TC} (h:JI m r s) (d:MK m) {a:Int} (e:a ∈ GC m r) (x:Nat):AA m a (x:Int)=0\/Ax m (AA m a (x:Int))=true:=by
 have c:=(Ih d r).1 e;rcases h.st with ⟨_,b⟩ | ⟨_,b⟩ | ⟨_,b⟩
 ·exact b.rf a c.has x
 ·exact b.rf a c.has x
 ·exact (b.rf a (b.kept d c) x).imp id fun f=>(AY.1 f).1
set_option maxHeartbeats 2000000 in
theorem yB (k:Nat) (hk:30000<=k) (h:TY J Y z h1 h5 h8) (hR:JI z.m z.r z.s) (hb:z.m.births<900000) (hL:z.L.length<=80000) {u0 u1 u2 u3 u4 u5 u6 u7:Nat} (v0:u0<256) (v1:u1<256) (v2:u2<256) (v3:u3<256) (v4:u4<256) (v5:u5<256) (v6:u6<256):
  ∃ f,Td z f/\jF (GS (k+20) (IM Y.X.I) (zN h1) (zP h1 h5 h8) (zO h1 h8) (u0:Int) (u1:Int) (u2:Int) (u3:Int) (u4:Int) (u5:Int) (u6:Int) (u7:Int) J) J Y (.bool true) f h1 h5 h8:=by
 have ag:=h.y.x.t.mo.nt;have hM:=h.y.x.t.mo;obtain ⟨E,ba⟩:∃ E,Au.cells [zN h1,zP h1 h5 h8,zO h1 h8] Ho true=E:=⟨_,rfl⟩;obtain ⟨N,bb⟩:∃ N,Au.cells [.int .u8 (u0:Int),.int .u8 (u1:Int),.int .u8 (u2:Int),.int .u8 (u3:Int),.int .u8 (u4:Int),.int .u8 (u5:Int),.int .u8 (u6:Int),.int .u8 (u7:Int)] NM true=N:=⟨_,rfl⟩;have A1:=(h.app [E]).app [N];have lT:∀ ν:Aa,ν[J.length]?=some E->CV ν J.length 0=some (zN h1)/\CV ν J.length 1=some (zP h1 h5 h8)/\CV ν J.length 2=some (zO h1 h8):=fun ν hν=>by
  simp[CV,hν,<- ba]
 obtain ⟨c,bi⟩:∃ c,(J++[E]).length=c:=⟨_,rfl⟩;have lU:∀ ν:Aa,ν[c]?=some N->Aj .u8 ν c 0=some (u0:Int)/\Aj .u8 ν c 1=some (u1:Int)/\Aj .u8 ν c 2=some (u2:Int)/\Aj .u8 ν c 3=some (u3:Int)/\Aj .u8 ν c 4=some (u4:Int)/\Aj .u8 ν c 5=some (u5:Int)/\Aj .u8 ν c 6=some (u6:Int)/\Aj .u8 ν c 7=some (u7:Int):=fun ν hν=>by
  simp[Aj,CV,hν,<- bb,Bl]
 have pT:(J++[E]++[N])[J.length]?=some E:=by rw[AT (by simp),Abv]
 have pU:(J++[E]++[N])[(J++[E]).length]?=some N:=Abv;have m1:Mv Y.fl Y.fl J (J++[E]++[N]):=(Mv.app _ _ _).trans (Mv.app _ _ _);obtain ⟨Z1_,aj⟩:∃ Z1_,J++[E]++[N]=Z1_:=⟨_,rfl⟩;have df:Z1_.length=J.length+2:=by rw[<- aj]; simp
 have b2:(J++[E]).length=J.length+1:=by simp
 rw[aj] at A1 pT pU m1;rw[bi] at pU b2;obtain ⟨o,g,e1,g1,bu⟩:=cm (k+7) (by omega) A1.y.x;have e1:CU (k+19) (IM Y.X.I) Z1_=_:=e1;have T:=uL ag bu;have A2:=A1.app g;obtain ⟨K0,a7⟩:∃ K0,Au.cells [.slice o.1 o.2.1 o.2.2] FP true=K0:=⟨_,rfl⟩;have sK:CX (Z1_++g++[Au.cells [.slice none 0 0] FP true]) (Z1_++g).length 0 (.slice o.1 o.2.1 o.2.2)=some (Z1_++g++[K0]):=by
  rw[<- a7]; exact dA _ _ _ _ _ (by decide)
 have A3:=A2.app [K0];have db:(Ar (u2:Int)).tmod 36=((u2 % 36:Nat):Int):=by rw[Ai (by unfold AO; omega)]; exact Kq u2 36
 obtain ⟨I,e2⟩:=wJ (k+16) A3.y.x (n:=u2 % 36) (by omega);have e2:CB (k+19) (IM Y.X.I) ((u2 % 36:Nat):Int) (Z1_++g++[K0])=_:=e2;have X:(HG z.r.mu (u2 % 36)).1≠2:=by
  unfold HG;rw[show u2 % 36 % 40=u2 % 36 from by omega];split
  ·show (0:Int)≠2; decide
  ·rw[Abm (by omega)]; show (1:Int)≠2; decide
 have ah:=ml z.r h.y.x.t.rt.ok (u2 % 36) fun s=>X s.1;have A4:=A3.app I;generalize dg:HG z.r.mu (u2 % 36)=w at *;obtain ⟨A,a8⟩:∃ A,Au.cells [qIi w.1,qIi (w.2.1:Int),qIi (w.2.2:Int)] Am true=A:=⟨_,rfl⟩;have sP:H0 (Z1_++g++[K0]++I++[Au.cells [qIi 0,qIi 0,qIi 0] Am true]) (Z1_++g++[K0]++I).length 0 [qIi w.1,qIi (w.2.1:Int),qIi (w.2.2:Int)]=some (Z1_++g++[K0]++I++[A]):=by
  rw[<- a8]; exact Ez _ _ _ _ _ _ _ _
 have A5:=A4.app [A];have pK:(Z1_++g++[K0]++I++[A])[(Z1_++g).length]?=some (.cells [.slice o.1 o.2.1 o.2.2] FP true):=by
  rw[a7,AT (by simp only[Abe,Ac3]; omega),AT (by simp only[Abe,Ac3]; omega),Abv]
 have pP:(Z1_++g++[K0]++I++[A])[(Z1_++g++[K0]++I).length]?=some A:=Abv;have Q:∀ b,b<Z1_.length->(Z1_++g++[K0]++I++[A])[b]?=Z1_[b]?:=fun b af=>by
  simp only[Aae]; exact AT af
 have aq:Bh (Z1_++g++[K0]++I++[A]) o (GC z.m z.r):=((g1.li.app [K0]).app I).app [A];have m5:Mv Y.fl Y.fl J (Z1_++g++[K0]++I++[A]):=(((m1.trans (Mv.app _ _ _)).trans (Mv.app _ _ _)).trans (Mv.app _ _ _)).trans (Mv.app _ _ _);have cf:=(lU (Z1_++g++[K0]) (by rw[Aae,AT (by omega)]; exact pU)).2.2.1;obtain ⟨pk,bf⟩:∃ pk,(Z1_++g).length=pk:=⟨_,rfl⟩;obtain ⟨pp,U⟩:∃ pp,(Z1_++g++[K0]++I).length=pp:=⟨_,rfl⟩;have de:J.length<=pp:=by rw[<- U]; simp only[Abe,Ac3]; omega
 have bg:(Z1_++g++[K0]++I++[A]).length=pp+1:=by rw[<- U]; simp only[Abe,Ac3]
 obtain ⟨Z5_,b6⟩:∃ Z5_,Z1_++g++[K0]++I++[A]=Z5_:=⟨_,rfl⟩;rw[U] at sP pP;rw[bf] at sK pK;rw[b6] at sP A5 pK pP Q aq m5 bg;have bv:Z5_[J.length]?=some E:=(Q _ (by omega)).trans pT;have a0:Z5_[c]?=some N:=(Q _ (by omega)).trans pU;obtain ⟨dh,b7,di,b8,dj,dk,dl,dm⟩:=lU _ a0;have t200:(u1:Int).tmod 200=((u1 % 200:Nat):Int):=Kq u1 200;have e3:=pJ (k+18) aq pK (n:=u1 % 200) (by omega);have e4:=pJ (k+18) aq pK (n:=u3) v3;have e3:Dl (k+19) ((u1 % 200:Nat):Int) (some ⟨pk,0,none⟩) Z5_=_:=e3;have e4:Dl (k+19) (u3:Int) (some ⟨pk,0,none⟩) Z5_=_:=e4;have ma:=gq (GC z.m z.r) (u1 % 200);have mt:=gq (GC z.m z.r) u3;generalize cO (GC z.m z.r) (u1 % 200)=a at *;generalize cO (GC z.m z.r) u3=to at *;have ia:AO a/\0<=a:=ma.elim (fun e=>by rw[e]; unfold AO; omega) fun s=>⟨(T a s).1,(T a s).2.1⟩;have it:AO to/\0<=to:=mt.elim (fun e=>by rw[e]; unfold AO; omega) fun s=>⟨(T to s).1,(T to s).2.1⟩;have b5:to=0\/Ax z.m to=true:=mt.imp id fun s=>bu.ob to s;have na:(Ag z.m a).1≠0\/(Ag z.m a).2.1≠0->a ∈ GC z.m z.r:=fun s=>ma.resolve_left fun e=>by
  have:Ag z.m a=(0,0,0):=by unfold Ag; rw[e,xn hM]; rfl
  rw[this] at s; simp at s
 obtain ⟨K,e5⟩:=P6 (k+13) A5.y.x.t.h a ia.1;have e5:AK (k+19) (AU Y.X.I.i) a Z5_=_:=e5;have A6:=A5.app K;obtain ⟨M,a9⟩:∃ M,Au.cells [qIi (Ag z.m a).1,qIi (Ag z.m a).2.1,qIi (Ag z.m a).2.2] Ad true=M:=⟨_,rfl⟩;have sS:H0 (Z5_++K++[Au.cells [qIi 0,qIi 0,qIi 0] Ad true]) (Z5_++K).length 0 [qIi (Ag z.m a).1,qIi (Ag z.m a).2.1,qIi (Ag z.m a).2.2]=some (Z5_++K++[M]):=by
  rw[<- a9]; exact Ez _ _ _ _ _ _ _ _
 have A7:=A6.app [M];have m7:Mv Y.fl Y.fl J (Z5_++K++[M]):=(m5.trans (Mv.app _ _ _)).trans (Mv.app _ _ _);have G:∀ b,b<Z5_.length->(Z5_++K++[M])[b]?=Z5_[b]?:=fun b af=>by rw[Aae]; exact AT af
 have pS:(Z5_++K++[M])[(Z5_++K).length]?=some M:=Abv;have lS:Aj .i64 (Z5_++K++[M]) (Z5_++K).length 0=some (Ag z.m a).1/\Aj .i64 (Z5_++K++[M]) (Z5_++K).length 1=some (Ag z.m a).2.1:=by
  simp[Aj,CV,pS,<- a9,Bl]
 obtain ⟨Z,an⟩:=lS;obtain ⟨ps,bh⟩:∃ ps,(Z5_++K).length=ps:=⟨_,rfl⟩;obtain ⟨Z7_,bm⟩:∃ Z7_,Z5_++K++[M]=Z7_:=⟨_,rfl⟩;have dc:Z5_.length<=Z7_.length:=by rw[<- bm]; simp only[Abe,Ac3]; omega
 rw[bh] at sS Z an;rw[bm] at sS A7 m7 G Z an;have bw:Z7_[J.length]?=some E:=(G _ (Af bv)).trans bv;have c8:Z7_[c]?=some N:=(G _ (Af a0)).trans a0;have az:Z7_[pp]?=some A:=(G _ (Af pP)).trans pP;obtain ⟨b9,dn,am,ca,cb,cc,cd,ce⟩:=lU _ c8;obtain ⟨t70,t71,t72⟩:=lT _ bw;have lP:∀ ν:Aa,ν[pp]?=some A->Aj .i64 ν pp 0=some w.1/\Aj .i64 ν pp 1=some (w.2.1:Int)/\Aj .i64 ν pp 2=some (w.2.2:Int):=fun ν hν=>by
  simp[Aj,CV,hν,<- a8,Bl]
 obtain ⟨av,ax,ay⟩:=lP _ az;have c4:pp ∉ Y.fl:=fun s=>by have:=h.y.lt _ s; omega
 have F:∀ {J':Aa} {L':List Nat},Mv Y.fl L' Z7_ J'->J'[pp]?=some A:=fun hm=>(hm.same pp (Af az) c4).trans az;have lf:∀ v,AO v->0<=v->jF (Bb (k+19) (F6 Y.X.I.p) w.1 (w.2.1:Int) (w.2.2:Int) v Z7_) Z7_ Y (qIi 0) { z with r:=Ht z.r w.1 w.2.1 w.2.2 v } h1 h5 h8:=fun v hv h0=>A7.go (jk (k+15) A7.y ah X hv h0);obtain ⟨H,L⟩:∃ H:Nat,(Ag z.m a).1=(H:Int):=⟨(Ag z.m a).1.toNat,by have:=lX hM.inv a; omega⟩;have dd:0<=(Ag z.m a).2.1:=by
  cases s:Ax z.m a with
  | false=>unfold Ag; rw[s]; simp
  | true=>
    obtain ⟨j,rfl,hs⟩:=AV s;rw[F4 hs];exact (MX hM.inv hs).2.2.2.1
 obtain ⟨nd,be⟩:∃ nd:Nat,(Ag z.m a).2.1=(nd:Int):=⟨(Ag z.m a).2.1.toNat,by omega⟩;have w2:Ar (u2:Int)=(u2:Int):=Ai (by unfold AO; omega);have w3:Ar (u3:Int)=(u3:Int):=Ai (by unfold AO; omega);have da:Ar ((u3:Int)-100)=(u3:Int)-100:=Ai (by unfold AO; omega);have b4:z.s.ph=0\/z.s.ph=1\/z.s.ph=2:=by rcases hR.st with ⟨x,_⟩ | ⟨x,_⟩ | ⟨x,_⟩ <;> omega
 have b3:z.s.born=0\/z.s.born=2:=by rw[hR.bn]; split <;> simp
 have bn:∀ {v:Int} {f:YS},f={ z with r:=Ht z.r w.1 w.2.1 w.2.2 v }->(v=0\/v ∈ GC z.m z.r)->Td z f:=fun e hv=>by rw[e]; exact .set hv
 rw[Tx];simp only[Ae,ba,bb,aj,e1,AI,gP,bi,bf,sK,IN,Abn,Nat.reduceAdd,cf,show ((36:Int)=0)=False from by simp,Abs,db,e2,H5,U,sP,b7,show ((200:Int)=0)=False from by simp,t200,e3,Ah,QN (a:=⟨c,0,none⟩) (show Z5_[c]?=Z5_[c]? from rfl),b8,e4,A5.y.x.dX,e5,jd,Ada,Adn,Aah,Aeo,Aeu,bh,sS,b9,show ((9:Int)=0)=False from by simp];have stop:jF (some (Value.bool true,Z7_)) J Y (.bool true) z h1 h5 h8:=⟨Z7_,Y,rfl,A7,m7,rfl,rfl,rfl⟩;have nz:∀ n:Nat,¬ n=0->((n:Int) == 0)=false/\¬ (n:Int)=0:=fun n hn=>⟨by rw[Acy]; omega,by omega⟩;have ht:(u0:Int).tmod 9=((u0 % 9:Nat):Int):=Kq u0 9;have h9:u0 % 9<9:=Ael _ (by decide);have ac:∀ v,AO v->0<=v->(v=0\/v ∈ GC z.m z.r) -> ∃ J' f,Bb (k+19) (F6 Y.X.I.p) w.1 (w.2.1:Int) (w.2.2:Int) v Z7_=some (qIi 0,J')/\Td z f/\jF (some (Value.bool true,J')) J Y (.bool true) f h1 h5 h8:=fun v hv h0 hk=>by
  obtain ⟨J',Y',e,t,m,a1,a2,a3⟩:=lf v hv h0;exact ⟨J',_,e,bn rfl hk,J',Y',rfl,t,m7.trans m,a1,a2,a3⟩
 have O:∃ f,Td z f/\jF ((CV Z7_ J.length 0).bind fun f38=>(Aj .u8 Z7_ c 4).bind fun cg=>(Aj .u8 Z7_ c 5).bind fun ch=>(Aj .u8 Z7_ c 6).bind fun ci=>(Aj .u8 Z7_ c 7).bind fun cj=>Option.bind (GF (k+19) cg ch ci cj Z7_) fun a4=>Ms a4.1 fun ck cl cn=>HL (some ⟨J.length,0,none⟩) Z7_ a4.2 (Option.bind (H6 (k+19) f38 [.agg #[qIi ck,qIi cl,qIi cn]] a4.2) fun u=>He u.1 fun co bp=>(bif bp == 6 then some (true,u.2) else (bif bp == 0 then (B7 u.2 Y.X.I.sb 1).bind fun c5=>(Aj .i64 u.2 pp 0).bind fun cp=>(Aj .i64 u.2 pp 1).bind fun cq=>(Aj .i64 u.2 pp 2).bind fun cr=>Option.bind (Bb (k+19) c5 cp cq cr co u.2) fun y=>(Bl .i64 y.1).bind fun S=>some (S == 0,y.2) else some (false,u.2)).bind fun bx=>some (bx.1,bx.2)).bind fun d=>some (Value.bool d.1,d.2))) J Y (.bool true) f h1 h5 h8:=by
  obtain ⟨τ8,e8⟩:=jC (k+18) (x0:=u4) (x1:=u5) (x2:=u6) (x3:=u7) (by omega) (by omega) (by omega) Z7_;have e8:GF (k+19) (u4:Int) (u5:Int) (u6:Int) (u7:Int) Z7_=_:=e8;have bk:=iV v4 v5 v6;generalize LN (u4:Int) (u5:Int) (u6:Int)=sh at *;obtain ⟨s0,s1,s2⟩:=sh;have V:=Za hM 0 s0 s1 s2;obtain ⟨i,Y9,C,t9,m9,x9,y9,i9⟩:=oB (k+3) (by omega) (A7.app τ8) (by omega) hR.zc b4 b3 s0 s1 s2;have C:H6 (k+19) (zN h1) [.agg #[qIi s0,qIi s1,qIi s2]] (Z7_++τ8)=_:=C;have au:Mv Y.fl Y9.fl Z7_ i:=(Mv.app _ _ _).trans m9;have kT:(Z7_++τ8)[J.length]?=Z7_[J.length]?:=AT (Af bw);simp only[t70,cb,cc,cd,ce,AI,e8,H5,QN (a:=⟨J.length,0,none⟩) kT,C,B9];have ak:Y9.X.I.sb=Y.X.I.sb:=by rw[i9]
  unfold NO at t9;generalize Ge z.m 0 s0 s1 s2=q at *;rcases V.st with ⟨q0,vn,_⟩ | ⟨q0,q6,so,br⟩
  ·rw[Abm q0] at t9;have bl:=px (by rw[V.len]; exact ag) vn.has;obtain ⟨ad,ae,B,t10,ar,a5,a6,i10⟩:=t9.go (jk (k+15) t9.y (w:=w) ah X bl.1 bl.2);have B:Bb (k+19) (F6 Y9.X.I.p) w.1 (w.2.1:Int) (w.2.2:Int) q.1.1 i=_:=B;obtain ⟨g0,g1,g2⟩:=lP _ (F au);have l1:=t9.y.x.rM;rw[ak] at l1;refine ⟨_,.new vn V.len (w:=w),ad,ae, ?_,t10,m7.trans (au.trans ar),a5.trans x9,a6.trans y9,i10.trans i9⟩;simp only[q0,Int.reduceBEq,IS,By,l1,AI,g0,g1,g2,B,Ah]
  ·have c9:=q6 bk;rw[Abo q0] at t9;refine ⟨_,.full so br V.len,i,Y9, ?_,t9,m7.trans au,x9,y9,i9⟩;simp only[c9,Int.reduceBEq,IS,By,AI]
 have P:∃ f,Td z f/\jF ((Aj .i64 Z7_ ps 0).bind fun cs=>(bif cs == 0 then some (true,Z7_) else (CV Z7_ J.length 1).bind fun f60=>(Aj .u8 Z7_ c 2).bind fun ct=>(Aj .i64 Z7_ ps 0).bind fun bq=>if bq=0 then none else Option.bind (IE (k+19) f60 [qIi a,qIi ((Ar ct).tmod bq),qIi to] Z7_) fun bz=>(Bl .i64 bz.1).bind fun cu=>some (cu == 0,bz.2)).bind fun d=>some (Value.bool d.1,d.2)) J Y (.bool true) f h1 h5 h8:=by
  simp only[Z,AI,L];by_cases h0:H=0
  ·refine ⟨z,.none, ?_⟩;subst h0;exact stop
  ·obtain ⟨b0,b1⟩:=nz H h0;have bd:=Ael u2 (Ahm h0);have hx:((u2 % H:Nat):Int)<(Ag z.m a).1:=by rw[L]; omega
   obtain ⟨i,Y9,C,t9,m9,x9,y9,i9⟩:=oC (k+2) (by omega) A7 ia.1 it.1 hx b5 hL;have C:IE (k+19) (zP h1 h5 h8) [qIi a,qIi ((u2 % H:Nat):Int),qIi to] Z7_=_:=C;refine ⟨_,.store (na (.inl (by rw[L]; omega))) hx mt,i,Y9, ?_,t9,m7.trans m9,x9,y9,i9⟩;simp only[b0,By,t71,AI,am,Abo b1,w2,Kq,C,Ah,Int.reduceBEq]
 have ap:∃ f,Td z f/\jF ((Aj .i64 Z7_ ps 0).bind fun cv=>bif cv == 0 then some (Value.bool true,Z7_) else (CV Z7_ J.length 2).bind fun f81=>(Aj .u8 Z7_ c 2).bind fun cw=>(Aj .i64 Z7_ ps 0).bind fun bs=>if bs=0 then none else Option.bind (ID (k+19) f81 [qIi a,qIi ((Ar cw).tmod bs)] Z7_) fun D=>He D.1 fun cx cy=>(bif cy == 0 then (B7 D.2 Y.X.I.sb 1).bind fun c6=>(Aj .i64 D.2 pp 0).bind fun cz=>(Aj .i64 D.2 pp 1).bind fun c0=>(Aj .i64 D.2 pp 2).bind fun c1=>Option.bind (Bb (k+19) c6 cz c0 c1 cx D.2) fun y=>(Bl .i64 y.1).bind fun S=>some (S == 0,y.2) else some (false,D.2)).bind fun d=>some (Value.bool d.1,d.2)) J Y (.bool true) f h1 h5 h8:=by
  simp only[Z,AI,L];by_cases h0:H=0
  ·refine ⟨z,.none, ?_⟩;subst h0;exact stop
  ·obtain ⟨b0,b1⟩:=nz H h0;have bd:=Ael u2 (Ahm h0);have hx:((u2 % H:Nat):Int)<(Ag z.m a).1:=by rw[L]; omega
   have bc:=na (.inl (by rw[L]; omega));have bj:AO (AA z.m a ((u2 % H:Nat):Int))/\0<=AA z.m a ((u2 % H:Nat):Int):=(hR.ro hM bc (u2 % H)).elim (fun e=>by rw[e]; unfold AO; omega) (px ag);obtain ⟨i,Y9,C,t9,m9,x9,y9,i9⟩:=sV (k+2) (by omega) A7 ia.1 hx hL;have C:ID (k+19) (zO h1 h8) [qIi a,qIi ((u2 % H:Nat):Int)] Z7_=_:=C;have ak:Y9.X.I.sb=Y.X.I.sb:=by rw[i9]
   obtain ⟨ad,ae,B,t10,ar,a5,a6,i10⟩:=t9.go (jk (k+15) t9.y (w:=w) ah X bj.1 bj.2);have B:Bb (k+19) (F6 Y9.X.I.p) w.1 (w.2.1:Int) (w.2.2:Int) (AA z.m a ((u2 % H:Nat):Int)) i=_:=B;obtain ⟨g0,g1,g2⟩:=lP _ (F m9);have l1:=t9.y.x.rM;rw[ak] at l1;refine ⟨_,.load bc hx (w:=w),ad,ae, ?_,t10,m7.trans (m9.trans ar),a5.trans x9,a6.trans y9,i10.trans i9⟩;simp only[b0,By,t72,AI,am,Abo b1,w2,Kq,C,B9,l1,g0,g1,g2,B,Ah,Int.reduceBEq,IS]
 have ao:∃ f,Td z f/\jF ((Aj .i64 Z7_ ps 1).bind fun c2=>(bif c2 == 0 then some (true,Z7_) else (B7 Z7_ Y.X.I.sb 0).bind fun c7=>(Aj .u8 Z7_ c 2).bind fun c3=>(Aj .i64 Z7_ ps 1).bind fun bt=>if bt=0 then none else (Aj .u8 Z7_ c 3).bind fun bo=>Option.bind (DA (k+19) c7 a ((Ar c3).tmod bt) (Ar (Ar bo-100)) Z7_) fun y=>(Bl .i64 y.1).bind fun S=>some (S == 0,y.2)).bind fun d=>some (Value.bool d.1,d.2)) J Y (.bool true) f h1 h5 h8:=by
  simp only[an,AI,be];by_cases h0:nd=0
  ·refine ⟨z,.none, ?_⟩;subst h0;exact stop
  ·obtain ⟨b0,b1⟩:=nz nd h0;have bd:=Ael u2 (Ahm h0);have hx:((u2 % nd:Nat):Int)<(Ag z.m a).2.1:=by rw[be]; omega
   obtain ⟨i,Y9,C,t9,m9,x9,y9,i9⟩:=A7.go (vO (k+12) A7.y (v:=(u3:Int)-100) ia.1 (by unfold AO; omega) (Int.natCast_nonneg (u2 % nd)) hx (hM.xG _ _ _));have C:DA (k+19) (AU Y.X.I.i) a ((u2 % nd:Nat):Int) ((u3:Int)-100) Z7_=_:=C;refine ⟨_,.data (Int.natCast_nonneg (u2 % nd)) hx,i,Y9, ?_,t9,m7.trans m9,x9,y9,i9⟩;simp only[b0,By,A7.y.x.dX,AI,am,ca,Abo b1,w2,w3,da,Kq,C,Ah,Int.reduceBEq]
 have ai:=A7.y.x.rM;obtain ⟨sa,za,ea,aa,ga⟩:=ac to it.1 it.2 mt;obtain ⟨sb,zb,eb,ab,gb⟩:=ac 0 (by unfold AO; omega) (by omega) (.inl rfl);have l:u0 % 9=0\/u0 % 9=1\/u0 % 9=2\/u0 % 9=3\/u0 % 9=4\/u0 % 9=5\/u0 % 9=6\/u0 % 9=7\/u0 % 9=8:=by omega
 have W:∀ n:Nat,u0 % 9=n->(u0:Int).tmod 9=(n:Int):=fun n e=>by rw[ht,e]
 rcases l with l | l | l | l | l | l | l | l | l
 ·have p:(u0:Int).tmod 9=0:=W 0 l;simp only[p,Int.reduceBEq,IS,By];exact O
 ·have p:(u0:Int).tmod 9=1:=W 1 l;simp only[p,Int.reduceBEq,IS,By];exact O
 ·have p:(u0:Int).tmod 9=2:=W 2 l;simp only[p,Int.reduceBEq,IS,By];exact P
 ·have p:(u0:Int).tmod 9=3:=W 3 l;simp only[p,Int.reduceBEq,IS,By];exact P
 ·have p:(u0:Int).tmod 9=4:=W 4 l;simp only[p,Int.reduceBEq,IS,By];refine ⟨za,aa, ?_⟩;simp only[ai,av,ax,ay,AI,ea,Ah,Adr];exact ga
 ·have p:(u0:Int).tmod 9=5:=W 5 l;simp only[p,Int.reduceBEq,IS,By];refine ⟨zb,ab, ?_⟩;simp only[ai,av,ax,ay,AI,eb,Ah,Adr];exact gb
 ·have p:(u0:Int).tmod 9=6:=W 6 l;simp only[p,Int.reduceBEq,IS,By];refine ⟨zb,ab, ?_⟩;simp only[ai,av,ax,ay,AI,eb,Ah,Adr];exact gb
 ·have p:(u0:Int).tmod 9=7:=W 7 l;simp only[p,Int.reduceBEq,IS,By];exact ap
 ·have p:(u0:Int).tmod 9=8:=W 8 l;simp only[p,Int.reduceBEq,IS,By];exact ao
end
section
variable {J:Aa} {j j':RI} {m m':HM} {t t':RM} {q q':QI} {r:D3} {o o':RO} {p p':Bv × Bv} {st:Bv} {l:List Int}
theorem Xt (k:Nat) (b:5000<=k) (h:RG J j m t) (a:Int):D6 (k+5) (Bk j) a J=some (qIi (Bx m a),J):=by
 rw[Yf];simp only[su k b h a,AI];unfold Bx;split
 ·simp only[B9]
 ·simp only[B9]
theorem oR (k:Nat) (h:F5 J q r) {z:Int × Nat × Nat} (hp:Oi r z.1 z.2.1 z.2.2):∃ τ,EF (k+2) (GP q) z.1 (z.2.1:Int) (z.2.2:Int) J=some (.tuple #[qIi (CF r z),qIi 0],J++τ):=by
 obtain ⟨B,a⟩:∃ B,Au.cells [qIi z.1,qIi (z.2.1:Int),qIi (z.2.2:Int)] Am true=B:=⟨_,rfl⟩;have ld:∀ τ,Aj .i64 (J++[B]++τ) J.length 0=some z.1/\Aj .i64 (J++[B]++τ) J.length (0+1)=some (z.2.1:Int)/\Aj .i64 (J++[B]++τ) J.length (0+1+1)=some (z.2.2:Int):=fun τ=>by
  have:(J++[B]++τ)[J.length]?=some B:=by rw[AT (by simp),Abv]
  simp[Aj,CV,this,<- a,Bl]
 have h1:=h.app [B];have c:=pN k h1 hp;rw[a] at c;have d:=iJ k (h1.app [B]) hp;rw[a] at d;have b:=ld [];rw[Abu] at b;refine ⟨[B]++[B]++[B], ?_⟩;rw[TF];simp only[Ae,a,NG k h1,AI,An,Abr,By,b.1,b.2.1,b.2.2,c,(ld [B]).1,(ld [B]).2.1,(ld [B]).2.2,d,Ah];simp only[Aae]
theorem zz (k:Nat) (F:5000<=k) (C:RG J j' m' t') (c:Dw J p.1 o.refs) (f:Dw J p'.1 o'.refs) (D:Bh J st l) (K:l.length<=4000) {x:Nat} (L:x<o.refs.length) (G:x<o'.refs.length)
  (E:(x=0/\(o.k=1\/o.k=2)/\o.refs.getD 0 0 ∉ l)\/(x=1/\o.k=2/\Bx m' (o'.refs.getD 0 0)=0)):
  ∃ τ,N9 (k+6) (Bk j) (Bk j') o.addr o.id o.r o.d o.k (p.1.1,p.1.2.1,p.1.2.2) (p.2.1,p.2.2.1,p.2.2.2) o.Ww o'.addr o'.id o'.r o'.d o'.k (p'.1.1,p'.1.2.1,p'.1.2.2) (p'.2.1,p'.2.2.1,p'.2.2.2) o'.Ww (x:Int) (st.1,st.2.1,st.2.2) J=some (.bool true,J++τ):=by
 obtain ⟨A,t⟩:∃ A,Au.cells (Bu o p) Ab true=A:=⟨_,rfl⟩;obtain ⟨a,e⟩:∃ a,Au.cells (Bu o' p') Ab true=a:=⟨_,rfl⟩;have w:Au.cells [qIi o.addr,qIi o.id,qIi o.r,qIi o.d,qIi o.k,.slice p.1.1 p.1.2.1 p.1.2.2,.slice p.2.1 p.2.2.1 p.2.2.2,.bool o.Ww] Ab true=A:=t;have y:Au.cells [qIi o'.addr,qIi o'.id,qIi o'.r,qIi o'.d,qIi o'.k,.slice p'.1.1 p'.1.2.1 p'.1.2.2,.slice p'.2.1 p'.2.2.1 p'.2.2.2,.bool o'.Ww] Ab true=a:=e;have z:GY (J++[A]++[a]) J.length o p:=by unfold GY; rw[AT (by simp),Abv,t]
 have B:GY (J++[A]++[a]) (J++[A]).length o' p':=by unfold GY; rw[Abv,e]
 obtain ⟨U,V,W,X,n,q,Y,Z⟩:=z.ld;obtain ⟨M,N,O,P,Q,v,S,T⟩:=B.ld;have d:=oL (k+3) ((D.app [A]).app [a]) (by omega) (by omega) (o.refs.getD 0 0);have d:Ix (k+5) (st.1,st.2.1,st.2.2) (o.refs.getD 0 0) (J++[A]++[a])=_:=d;have r:=Xt k F ((C.app [A]).app [a]) (o'.refs.getD 0 0);have c:=(c.app [A]).app [a];have f:=(f.app [A]).app [a];have m:(0<=(0:Int)/\(0:Int)<((o.refs.length:Nat):Int))=True:=Adk (by omega);have u:(0<=(0:Int)/\(0:Int)<((o'.refs.length:Nat):Int))=True:=Adk (by omega);obtain ⟨H,f1,i,_⟩:=c.pE (x:=0) (by omega);obtain ⟨I,f2,s,_⟩:=f.pE (x:=0) (by omega);have t0:(0:Int).toNat*1=0:=rfl;refine ⟨[A]++[a], ?_⟩;rw[bJ];simp only[Ae,w,y];simp only[IN,Nat.reduceAdd,n,q,v,AI,c.1,f.1,m,u,Aah,f1,f2,t0,Abn,i,s,d,r,Ah,An];rcases E with ⟨rfl,b,g⟩ | ⟨rfl,b,g⟩
 ·rw[show (((0:Nat):Int) == 0)=true from rfl];simp only[IS];rcases b with h | h
  ·simp only[h,Int.reduceBEq,IS,AI,Aac g,Ac7,q,c.1,m,Aah,f1,t0,Abn,i,d,An];simp only[Aae]
  ·simp only[h,Int.reduceBEq,IS,By,AI,Aac g,Ac7,n,q,c.1,m,Aah,f1,t0,Abn,i,d,An];simp only[Aae]
 ·rw[show (((1:Nat):Int) == 0)=false from rfl,show (((1:Nat):Int) == 1)=true from rfl];simp only[IS,By,AI,b,Int.reduceBEq,g,n,v,f.1,u,Aah,f2,t0,Abn,s,r,Ah];simp only[Aae]
theorem VQ (k:Nat) (w:5000<=k) (y:l.length<=4000) (u:o'.refs.length=o.refs.length) (r:o.refs.length<=1000) {h5 h6:Nat} {s:Bv}
  (v:∀ x,x<o.refs.length->Bx m (o.refs.getD x 0)=Bx m' (o'.refs.getD x 0)\/(Bx m' (o'.refs.getD x 0)=0/\((x=0/\(o.k=1\/o.k=2)/\o.refs.getD 0 0 ∉ l)\/(x=1/\o.k=2/\Bx m' (o'.refs.getD 0 0)=0)))):
  ∀ (n x f:Nat) (J:Aa),RG J j m t->RG J j' m' t'->Bh J st l->GY J h5 o p->GY J h6 o' p'->Dw J p.1 o.refs->Dw J p'.1 o'.refs->x+n=o.refs.length->n<f ->
  ∃ τ,GX (k+6) f (Bk j) (Bk j') st.1 st.2.1 st.2.2 h5 h6 (s.1,s.2.1,s.2.2) (x:Int) J=some (.exit 2,[.slice s.1 s.2.1 s.2.2],J++τ)
 | n,x,0,J,g,i,q,b,d,a,c,B,A=>by omega
 | 0,x,f+1,J,g,i,q,b,d,a,c,B,A=>by
   obtain ⟨C,D,E,F,G,z,H,I⟩:=b.ld;rw[OP];exact ⟨[],by simp only[IN,z,AI,a.1,Aac (show ¬ (x:Int)<((o.refs.length:Nat):Int) by omega),By,Abu]⟩
 | n+1,x,f+1,J,g,i,q,b,d,a,c,B,A=>by
   have h:x<o.refs.length:=by omega
   obtain ⟨C,D,E,F,G,z,H,I⟩:=b.ld;obtain ⟨S,T,U,V,W,X,Y,Z⟩:=d.ld;have N:=qSu x o.refs.length (by omega);have Q:=wSu x (by omega);obtain ⟨c1,f1,O,_⟩:=a.pE (x:=x) h;obtain ⟨c2,f2,P,_⟩:=c.pE (x:=x) (by omega);have L:=Xt (k+1) (by omega) g (o.refs.getD x 0);have M:=Xt (k+1) (by omega) i (o'.refs.getD x 0);rw[OP];simp only[IN,Abn,Nat.reduceAdd,C,D,E,F,G,z,H,I,S,T,U,V,W,X,Y,Z,AI,a.1,c.1,u,Aad (show (x:Int)<((o.refs.length:Nat):Int) by omega),IS,N,Aah,f1,f2,IT,Acu,O,P,L,M,Ah,Q];by_cases he:Bx m (o.refs.getD x 0)=Bx m' (o'.refs.getD x 0)
   ·obtain ⟨τ,e⟩:=VQ k w y u r v n (x+1) f J g i q b d a c (by omega) (by omega);refine ⟨τ, ?_⟩;rw[Ad7.2 he];simp only[IS,AI];exact e
   ·obtain ⟨h0,hm⟩:=(v x h).resolve_left he;have em:=zz (j:=j) (k:=k) w i a c q y h (by omega) hm;obtain ⟨K,em⟩:=em;rw[a.1,c.1,f1,f2,u] at em;obtain ⟨τ,e⟩:=VQ (s:=s) k w y u r v n (x+1) f (J++K) (g.app _) (i.app _) (q.app _) (by unfold GY at b ⊢; rw[AT (Af b)]; exact b) (by unfold GY at d ⊢; rw[AT (Af d)]; exact d) (a.app _) (c.app _) (by omega) (by omega);refine ⟨K++τ, ?_⟩;rw[Acy.2 he,h0];simp only[By,IS,Int.reduceBEq,em,AI,An,<- Aae];exact e
theorem aE (k:Nat) {h5 h6:Nat} {s:Bv} (hd:o'.data=o.data) (g:o.data.length<=1000) (d:GY J h5 o p) (i:GY J h6 o' p') (b:Dw J p.2 o.data) (c:Dw J p'.2 o'.data):∀ (n x f:Nat),x+n=o.data.length->n<f ->
  Ie k f h5 h6 (s.1,s.2.1,s.2.2) (x:Int) J=some (.exit 4,[.slice s.1 s.2.1 s.2.2],J)
 | n,x,0,l,j=>by omega
 | 0,x,f+1,l,j=>by
   obtain ⟨v,w,y,z,A,B,h,C⟩:=d.ld;rw[OQ];simp only[IN,h,AI,b.1,Aac (show ¬ (x:Int)<((o.data.length:Nat):Int) by omega),By]
 | n+1,x,f+1,l,j=>by
   have a:x<o.data.length:=by omega
   obtain ⟨v,w,y,z,A,B,h,C⟩:=d.ld;obtain ⟨F,G,H,I,K,L,u,M⟩:=i.ld;have m:=qSu x o.data.length (by omega);have t:=wSu x (by omega);rw[hd] at c;obtain ⟨D,f1,q,_⟩:=b.pE (x:=x) a;obtain ⟨E,f2,r,_⟩:=c.pE (x:=x) a;have e:=aE k (s:=s) hd g d i b (by rw[hd]; exact c) n (x+1) f (by omega) (by omega);rw[OQ];simp only[IN,Abn,Nat.reduceAdd,h,u,AI,b.1,c.1,Aad (show (x:Int)<((o.data.length:Nat):Int) by omega),IS,m,Aah,f1,f2,IT,Acu,q,r,Abt,By,Rh,t,e]
structure tx (m m':HM) (l:List Int) (v:Int):Prop where
 has:Ax m v=true
 has':Ax m' v=true
 idn:Bx m' v=Bx m v
 shp:Ag m' v=Ag m v
 ue:∀ y,Mo m' v y true=Mo m v y true
 ref:∀ x:Nat,Bx m (AA m v x)=Bx m' (AA m' v x)\/(Bx m' (AA m' v x)=0/\((x=0/\((Ag m v).2.2=1\/(Ag m v).2.2=2)/\AA m v 0 ∉ l)\/(x=1/\(Ag m v).2.2=2/\Bx m' (AA m' v 0)=0)))
theorem aD (k:Nat) (hk:6000<=k) (hl:l.length<=4000) {s:Bv} (hc:∀ v ∈ l,tx m m' l v):∀ (n x f:Nat) (J:Aa),RG J j m t->RG J j' m' t'->Bh J st l->x+n=l.length->n<f ->
  ∃ τ,EV (k+6) f (Bk j) (Bk j') st.1 st.2.1 st.2.2 (s.1,s.2.1,s.2.2) (x:Int) J=some (.exit 0,[.slice s.1 s.2.1 s.2.2],J++τ)
 | n,x,0,J,g,q,B,U,T=>by omega
 | 0,x,f+1,J,g,q,B,U,T=>by
   have T:=B.form;have f1:st.2.1=l.length:=by rw[T]
   rw[OO];exact ⟨[],by simp only[f1,Aac (show ¬ (x:Int)<((l.length:Nat):Int) by omega),By,Abu]⟩
 | n+1,x,f+1,J,g,q,B,U,T=>by
   have ag:=B.form;have f1:st.2.1=l.length:=by rw[ag]
   have qx:=qSu x l.length (by omega);have w1:=wSu x (by omega);obtain ⟨b,eb,l1,_⟩:=B.ld (x:=x) (by omega);have L:l.getD x 0 ∈ l:=by rw[Abi,Aaj (by omega)]; exact Ac4 _
   have P:=hc _ L;generalize hv:l.getD x 0=v at *;obtain ⟨y,jj,bo,z,F⟩:=g.found P.has;obtain ⟨V,h,an,i,w⟩:=q.found P.has';have ae:h=jj:=by have:=F.e; have:=w.e; omega
   subst ae;have p:=F.e;have ei:Ay (k+6) (Bk j) v J=some (qIi (y:Int),J):=by rw[<- F.idx]; exact L9 (k+4) (by omega) g v
   have qy:(0<=(y:Int)/\(y:Int)<((t.ob.length:Nat):Int))=True:=Adk (by have:=F.xl; omega);have aj:(0<=(V:Int)/\(V:Int)<((t'.ob.length:Nat):Int))=True:=Adk (by have:=w.xl; omega);obtain ⟨A,hA⟩:∃ A,Au.cells (Bu (AQ m h) z) Ab true=A:=⟨_,rfl⟩;obtain ⟨o,E⟩:∃ o,Au.cells (Bu (AQ m' h) i) Ab true=o:=⟨_,rfl⟩;have sa:∀ Z:Aa,H0 (Z++[Au.cells [qIi 0,qIi 0,qIi 0,qIi 0,qIi 0,.slice none 0 0,.slice none 0 0,.bool false] Ab true]) Z.length 0 [qIi (AQ m h).addr,qIi (AQ m h).id,qIi (AQ m h).r,qIi (AQ m h).d,qIi (AQ m h).k,.slice z.1.1 z.1.2.1 z.1.2.2,.slice z.2.1 z.2.2.1 z.2.2.2,.bool (AQ m h).Ww]=some (Z++[A]):=fun Z=>by
    rw[<- hA]; exact X5 _ _ _ _ _ _ _ _ _ _ _ _ _ _ _ _ _ _
   have Q:∀ Z:Aa,H0 (Z++[Au.cells [qIi 0,qIi 0,qIi 0,qIi 0,qIi 0,.slice none 0 0,.slice none 0 0,.bool false] Ab true]) Z.length 0 [qIi (AQ m' h).addr,qIi (AQ m' h).id,qIi (AQ m' h).r,qIi (AQ m' h).d,qIi (AQ m' h).k,.slice i.1.1 i.1.2.1 i.1.2.2,.slice i.2.1 i.2.2.1 i.2.2.2,.bool (AQ m' h).Ww]=some (Z++[o]):=fun Z=>by
    rw[<- E]; exact X5 _ _ _ _ _ _ _ _ _ _ _ _ _ _ _ _ _ _
   have S:GY (J++[A]) J.length (AQ m h) z:=by unfold GY; rw[Abv,hA]
   have r:GY (J++[A]++[o]) J.length (AQ m h) z:=by unfold GY at S ⊢; rw[AT (Af S)]; exact S
   have D:GY (J++[A]++[o]) (J++[A]).length (AQ m' h) i:=by unfold GY; rw[Abv,E]
   obtain ⟨z0,z1,z2,z3,z4,z5,z6,z7⟩:=S.ld;obtain ⟨x0,x1,x2,x3,x4,x5,x6,x7⟩:=r.ld;obtain ⟨y0,y1,y2,y3,y4,y5,y6,y7⟩:=D.ld;have I:(AQ m h).id=(AQ m' h).id:=by
    have:=P.idn;unfold Bx at this;rw[Abm P.has,Abm P.has',p,IT] at this;exact this.symm
   have u:=zG (k+4) (by omega) (q.app [A]) (AQ m h).id;rw[I,show getM m'.pl (AQ m' h).id=some ((2*h:Nat):Int) from (q.inv.idn h w.st).2.2] at u;rw[<- I] at u;have u:Ia (k+6) (Bk j') (AQ m h).id (J++[A])=some (.tuple #[qIi ((2*h:Nat):Int),qIi 0],J++[A]):=u;obtain ⟨am,d,ao,O,F2⟩:=(q.app [A]).found P.has';have ad:Ay (k+6) (Bk j') ((2*h:Nat):Int) (J++[A])=some (qIi (V:Int),J++[A]):=by rw[<- w.idx,<- p]; exact L9 (k+4) (by omega) (q.app [A]) v
   have aa:am=V:=by have:=F2.idx; have:=w.idx; omega
   subst aa;have ab:O=i:=by have a:=F2.om; have b:=w.om; rw[a] at b; exact Ad8 b
   subst ab;have ac:d=h:=by have:=F2.e; omega
   subst ac;have M:Ag m v=((AQ m d).r,(AQ m d).d,(AQ m d).k):=by rw[p,F4 F.st]; rfl
   have N:Ag m' v=((AQ m' d).r,(AQ m' d).d,(AQ m' d).k):=by rw[p,F4 w.st]; rfl
   have hs:=P.shp;rw[M,N] at hs;have s1:(AQ m' d).r=(AQ m d).r:=Ad1 (·.1) hs;have s2:(AQ m' d).d=(AQ m d).d:=Ad1 (·.2.1) hs;have s3:(AQ m' d).k=(AQ m d).k:=Ad1 (·.2.2) hs;simp only[s1,s2,s3] at Q;obtain ⟨_,w2,w3,w4,w5,_⟩:=MX g.inv F.st;have ah:(AQ m d).refs.length=(Av m d).toNat:=by show (KD m _ _).length=_; rw[DC]
   have K:(AQ m' d).refs.length=(Av m' d).toNat:=by show (KD m' _ _).length=_; rw[DC]
   have ap:(AQ m d).data.length=(Bp m d).toNat:=by show (KD m _ _).length=_; rw[DC]
   have ak:Av m' d=Av m d:=s1;have ai:(AQ m' d).refs.length=(AQ m d).refs.length:=by rw[ah,K,ak]
   have af:(AQ m' d).data=(AQ m d).data:=by
    show KD m' _ _=KD m _ _;rw[<- dq g.inv F.st,<- dq q.inv w.st,show Bp m' d=Bp m d from s2];refine Ago fun x _=>?_;have:=P.ue (x:Int);rw[p] at this; exact this
   have G:=(g.app [A]).app [o];have G':=(q.app [A]).app [o];have H:=(B.app [A]).app [o];have R1:=(F.rs.app [A]).app [o];have R2:=F2.rs.app [o];obtain ⟨C,Y⟩:=VQ (s:=s) k (by omega) hl ai (by omega) (fun x U=>by
    have q1:=KO g.inv F.st U;have q2:=KO q.inv w.st (y:=x) (by omega);rw[<- p] at q1 q2;rw[q1.1,q2.1];refine (P.ref x).imp id fun ⟨h0,hh⟩=>⟨h0, ?_⟩;rw[M] at hh;refine hh.imp (fun ⟨a,b,c⟩=>⟨a,b, ?_⟩) fun ⟨a,b,c⟩=>⟨a,b, ?_⟩
    ·have:=KO g.inv F.st (y:=0) (by omega);rw[<- p] at this;rw[this.1]; exact c
    ·have:=KO q.inv w.st (y:=0) (by omega);rw[<- p] at this;rw[this.1]; exact c) (AQ m d).refs.length 0 (k+6) (J++[A]++[o]) G G' H r D R1 R2 (by omega) (by omega);have W:GY (J++[A]++[o]++C) J.length (AQ m d) z:=by unfold GY at r ⊢; rw[AT (Af r)]; exact r
   have X:GY (J++[A]++[o]++C) (J++[A]).length (AQ m' d) O:=by unfold GY at D ⊢; rw[AT (Af D)]; exact D
   have e2:=aE (s:=s) (k+6) af (by omega) W X (((F.ds.app [A]).app [o]).app C) ((F2.ds.app [o]).app C) (AQ m d).data.length 0 (k+6) (by omega) (by omega);rw[show ((0:Nat):Int)=0 from rfl] at Y e2;obtain ⟨τ,e⟩:=aD k hk hl (s:=s) hc n (x+1) f (J++[A]++[o]++C) (G.app _) (G'.app _) (H.app _) (by omega) (by omega);refine ⟨[A]++[o]++C++τ, ?_⟩;rw[eb,f1] at e Y;rw[OO];simp only[f1,Aad (show (x:Int)<((l.length:Nat):Int) by omega),IS,IN,Nat.reduceAdd,g.at_.EX,AI,qx,Aah,eb,IT,Acu,l1,ei,Ah,qy,F.os,Adt,F.ld.l0,F.ld.l1,F.ld.l2,F.ld.l3,F.ld.l4,F.ld.l5,F.ld.l6,F.ld.l7,Ae,sa,z1,u,B9,Abt,By,(q.app [A]).at_.EX,ad,aj,F2.os,F2.ld.l0,F2.ld.l1,F2.ld.l2,F2.ld.l3,F2.ld.l4,F2.ld.l5,F2.ld.l6,F2.ld.l7,Q,y2,y3,y4,x2,x3,x4,s1,s2,s3,Aa4,Adr,Abr,Y,Rh,e2,w1,e];simp only[Aae]
theorem VR (k:Nat) (E:6000<=k) {ps:List (Int × Nat × Nat)} {sl s:Bv} (C:∀ z ∈ ps,Oi r z.1 z.2.1 z.2.2/\(Bx m (CF r z)=0\/Bx m' (CF r z)=Bx m (CF r z))) (l:ps.length<=500):∀ (n x f:Nat) (J:Aa),RG J j m t->RG J j' m' t'->F5 J q r->F5 J q' r->BN J sl ps->x+n=ps.length->n<f ->
  ∃ τ,Gd (k+6) f (Bk j) (GP q) (Bk j') (GP q') sl.1 sl.2.1 sl.2.2 (s.1,s.2.1,s.2.2) (x:Int) J=some (.exit 6,[.slice s.1 s.2.1 s.2.2],J++τ)
 | n,x,0,J,g,i,o,c,d,F,D=>by omega
 | 0,x,f+1,J,g,i,o,c,d,F,D=>by
   have B:=Cq.form d;have f1:sl.2.1=ps.length:=by rw[B]
   rw[OR];exact ⟨[],by simp only[f1,Aac (show ¬ (x:Int)<((ps.length:Nat):Int) by omega),By,Abu]⟩
 | n+1,x,f+1,J,g,i,o,c,d,F,D=>by
   have B:=Cq.form d;have f1:sl.2.1=ps.length:=by rw[B]
   have p:x<ps.length:=by omega
   have L:=qSu x ps.length (by omega);have M:=wSu x (by omega);obtain ⟨b,e,G,H,I,hb⟩:=BN.ld d p;obtain ⟨K,Q⟩:=C _ (Ac4 p);generalize ps[x]=z at *;obtain ⟨a,v⟩:=oR (k+4) o K;have v:EF (k+6) (GP q) z.1 (z.2.1:Int) (z.2.2:Int) J=_:=v;have w:=Xt (k+1) (by omega) (g.app a) (CF r z);have w:D6 (k+6) (Bk j) (CF r z) (J++a)=_:=w;have N:Aj .i64 (J++a) b (x*3)=some z.1:=by rw[HJ _ _ _ hb]; exact G
   have O:Aj .i64 (J++a) b (x*3+1)=some (z.2.1:Int):=by rw[HJ _ _ _ hb]; exact H
   have P:Aj .i64 (J++a) b (x*3+2)=some (z.2.2:Int):=by rw[HJ _ _ _ hb]; exact I
   rw[OR];simp only[f1,Aad (show (x:Int)<((ps.length:Nat):Int) by omega),IS,L,Aah,e,AI,IT,IN,Adt,Nat.reduceAdd,G,H,I,v,B9,w,Ah,M];by_cases h0:Bx m (CF r z)=0
   ·obtain ⟨τ,h⟩:=VR (s:=s) k E C l n (x+1) f (J++a) (g.app _) (i.app _) (o.app _) (c.app _) (BN.app d _) (by omega) (by omega);rw[e,f1] at h;refine ⟨a++τ, ?_⟩;simp only[h0,Adr,IS,h];simp only[Aae]
   ·have h1:=Q.resolve_left h0;obtain ⟨u,y⟩:=oR (k+4) (c.app a) K;have y:EF (k+6) (GP q') z.1 (z.2.1:Int) (z.2.2:Int) (J++a)=_:=y;have A:=Xt (k+1) (by omega) ((i.app a).app u) (CF r z);have A:D6 (k+6) (Bk j') (CF r z) (J++a++u)=_:=A;obtain ⟨τ,h⟩:=VR (s:=s) k E C l n (x+1) f (J++a++u) ((g.app _).app _) ((i.app _).app _) ((o.app _).app _) ((c.app _).app _) (BN.app (BN.app d _) _) (by omega) (by omega);rw[e,f1] at h;refine ⟨a++(u++τ), ?_⟩;rw[Acy.2 h0];simp only[By,N,O,P,AI,y,B9,Abt,A,Ah,h1,Aah,Rh,h];simp only[Aae]
theorem wz (k:Nat) (O:9000<=k) (g:RG J j m t) (u:RG J j' m' t') (h:F5 J q r) (f:F5 J q' r) (w:(Bf r).length<=4000) (L:(NS m (Bf r)).length<=4000) (K:∀ v ∈ NS m (Bf r),tx m m' (NS m (Bf r)) v)
  (M:∀ z ∈ EJ r,Oi r z.1 z.2.1 z.2.2/\(Bx m (CF r z)=0\/Bx m' (CF r z)=Bx m (CF r z))) (x:(EJ r).length<=500):
  ∃ a τ,J6 (k+10) (Bk j) (GP q) (Bk j') (GP q') J=some (.tuple #[.slice a 0 0,qIi 0],J++τ):=by
 obtain ⟨B,I⟩:∃ B,Au.cells [] XA true=B:=⟨_,rfl⟩;have E:Az (k+9) (Bk j) J=_:=LD (k+8) g;have F:Az (k+9) (Bk j') J=_:=LD (k+8) u;have G:AW (k+9) (GP q) J=_:=NG (k+8) h;have H:AW (k+9) (GP q') J=_:=NG (k+8) f;obtain ⟨s1,b,i,y,_⟩:=XF (k+6) (by omega) (h.app [B]);have i:BI (k+9) (GP q) (J++[B])=_:=i;obtain ⟨s2,c,l,A⟩:=jB (k+2) (by omega) ((g.app [B]).app b) y w;have l:GG (k+9) (Bk j) (s1.1,s1.2.1,s1.2.2) true (J++[B]++b)=_:=l;obtain ⟨d,n⟩:=aD (s:=(some ⟨J.length,0,some 0⟩,0,0)) (k+3) (by omega) L K (NS m (Bf r)).length 0 (k+9) (J++[B]++b++c) (((g.app [B]).app b).app c) (((u.app [B]).app b).app c) A.li (by omega) (by omega);have n:EV (k+9) (k+9) (Bk j) (Bk j') s2.1 s2.2.1 s2.2.2 (some ⟨J.length,0,some 0⟩,0,0) 0 (J++[B]++b++c)=_:=n;obtain ⟨D,e,o,C,_⟩:=aN (k+7) (by omega) ((((h.app [B]).app b).app c).app d);have o:Dp (k+9) (GP q) (J++[B]++b++c++d)=_:=o;obtain ⟨N,p⟩:=VR (s:=(some ⟨J.length,0,some 0⟩,0,0)) (k+3) (by omega) M x (EJ r).length 0 (k+9) (J++[B]++b++c++d++e) (((((g.app [B]).app b).app c).app d).app e) (((((u.app [B]).app b).app c).app d).app e) (((((h.app [B]).app b).app c).app d).app e) (((((f.app [B]).app b).app c).app d).app e) C (by omega) (by omega);have p:Gd (k+9) (k+9) (Bk j) (GP q) (Bk j') (GP q') D.1 D.2.1 D.2.2 (some ⟨J.length,0,some 0⟩,0,0) 0 (J++[B]++b++c++d++e)=_:=p;refine ⟨some ⟨J.length,0,some 0⟩,[B]++b++c++d++e++N, ?_⟩;rw[ZL];simp only[E,F,G,H,AI,An,Abr,By,Ae,I,i,gP,l,n,Aah,Rh,o,p];simp only[Aae]
theorem YX (k:Nat) (i:5000<=k) (g:RG J j m t) {sl:Bv} (h:Bh J sl l) (r:l.length<=4000) (c:∀ v ∈ l,Ax m v=true):∀ (n x f:Nat),x+n=l.length->n<f ->
  Gz (k+3) f (Bk j) sl.1 sl.2.1 sl.2.2 (x:Int) J=some (.exit 0,[],J)
 | n,x,0,o,d=>by omega
 | 0,x,f+1,o,d=>by
   have a:=h.form;have f1:sl.2.1=l.length:=by rw[a]
   rw[NW];simp only[f1,Aac (show ¬ (x:Int)<((l.length:Nat):Int) by omega),By]
 | n+1,x,f+1,o,d=>by
   have a:=h.form;have f1:sl.2.1=l.length:=by rw[a]
   have u:=qSu x l.length (by omega);have w:=wSu x (by omega);obtain ⟨b,e,s,_⟩:=h.ld (x:=x) (by omega);have q:=c _ (Ot (show x<l.length by omega));have p:=YX k i g h r c n (x+1) f (by omega) (by omega);rw[f1,e] at p;rw[NW];simp only[f1,Aad (show (x:Int)<((l.length:Nat):Int) by omega),IS,u,Aah,e,AI,IT,Acu,IN,s,ai k i g,q,An,Abr,By,w,p]
theorem RG.Acm (g:RG J j m t) {x:Nat} (c:x<t.ob.length):∃ b a p,j.os.1=some ⟨b,0,none⟩/\Start m a/\tv J b x (AQ m a) p/\Dw J p.1 (AQ m a).refs:=by
 obtain ⟨h,i,_,f⟩:=g.at_.obj c;have d:x<j.om.length:=by rw[g.at_.ol]; exact c
 have hm:t.ob[x] ∈ (F8 m).map (AQ m):=by
  show _ ∈ Gp m;rw[<- g.sim.ob]; exact Ac4 c
 obtain ⟨a,l,k⟩:=Ad0.1 hm;have L:=f d;have e:=(g.at_.inn x c d).1;rw[<- k] at L e;exact ⟨h,a,_,i,DO.1 l,L,e⟩
theorem YZ (k:Nat) (r:5000<=k) (g:RG J j m t) (h0:Ax m 0=false) (s:XG m) {x b:Nat} {d:Nat} (z:x<t.ob.length) (l:j.os.1=some ⟨b,0,none⟩) (hs:Start m d) (L:tv J b x (AQ m d) p) (i:Dw J p.1 (AQ m d).refs):∀ (n y f:Nat),y+n=(AQ m d).refs.length->n<f ->
  Hy (k+3) f (Bk j) (x:Int) (y:Int) J=some (.exit 4,[],J)
 | n,y,0,u,q=>by omega
 | 0,y,f+1,u,q=>by
   have o:=qSu x t.ob.length (by omega);rw[NY];simp only[IN,Abn,g.at_.EX,AI,o,Aah,l,IT,L.l5,i.1,Aac (show ¬ (y:Int)<(((AQ m d).refs.length:Nat):Int) by omega),By]
 | n+1,y,f+1,u,q=>by
   have o:=qSu x t.ob.length (by omega);have A:=qSu y ((AQ m d).refs.length) (by omega);have w:(AQ m d).refs.length=(Av m d).toNat:=by show (KD m _ _).length=_; rw[DC]
   obtain ⟨_,a,D,_⟩:=MX g.inv hs;have C:=wSu y (by omega);obtain ⟨c,f1,B,_⟩:=i.pE (x:=y) (by omega);have v:=YZ k r g h0 s z l hs L i n (y+1) f (by omega) (by omega);have h:=s ((2*d:Nat):Int) (EE hs) y;rw[<- (KO g.inv hs (y:=y) (by omega)).1] at h;rw[NY];simp only[IN,Abn,g.at_.EX,AI,o,Aah,l,IT,L.l5,i.1,Aad (show (y:Int)<(((AQ m d).refs.length:Nat):Int) by omega),IS,A,f1,Acu,B,C];rcases h with h | h
   ·rw[h];simp only[Abt,By,AI,v]
   ·have:((AQ m d).refs.getD y 0 != 0)=true:=Adp.2 fun e=>by rw[e,h0] at h; cases h
    simp only[this,IS,ai k r g,h,AI,An,Abr,By,v]
theorem YY (k:Nat) (h:5000<=k) (g:RG J j m t) (h0:Ax m 0=false) (i:XG m):∀ (n x f:Nat),x+n=t.ob.length->n<f ->
  G0 (k+3) f (Bk j) (x:Int) J=some (.exit 2,[],J)
 | n,x,0,l,e=>by omega
 | 0,x,f+1,l,e=>by
   rw[NX];simp only[AI,IN,Abn,g.at_.EX,Aac (show ¬ (x:Int)<((t.ob.length:Nat):Int) by omega),By]
 | n+1,x,f+1,l,e=>by
   have r:=g.ol;have v:=wSu x (by omega);obtain ⟨b,c,p,o,hs,L,u⟩:=g.Acm (x:=x) (by omega);have q:(AQ m c).refs.length=(Av m c).toNat:=by show (KD m _ _).length=_; rw[DC]
   obtain ⟨_,a,w,y,z,_⟩:=MX g.inv hs;have d:=YZ k h g h0 i (by omega) o hs L u (AQ m c).refs.length 0 (k+3) (by omega) (by omega);rw[show ((0:Nat):Int)=0 from rfl] at d;have s:=YY k h g h0 i n (x+1) f (by omega) (by omega);rw[NX];simp only[AI,IN,Abn,g.at_.EX,Aad (show (x:Int)<((t.ob.length:Nat):Int) by omega),IS,d,Aah,v,s]
theorem tG (k:Nat) (s:9000<=k) (g:RG J j m t) (o:F5 J q r) (h0:Ax m 0=false) (p:XG m) (e:Mq m r) (f:(Bf r).length<=4000):∃ τ,Hp (k+6) (Bk j) (GP q) J=some (.bool true,J++τ):=by
 obtain ⟨s1,a,b,h,_⟩:=XF (k+1) (by omega) o;have b:BI (k+4) (GP q) J=_:=b;have i:=g.app a;have n:=g.ol;have c:=YX (k+1) (by omega) i h f (fun v l=>(e v (KN.1 l).1).resolve_left (KN.1 l).2) (Bf r).length 0 (k+4) (by omega) (by omega);have c:Gz (k+4) (k+4) (Bk j) s1.1 s1.2.1 s1.2.2 0 (J++a)=_:=c;have d:=YY (k+1) (by omega) i h0 p t.ob.length 0 (k+4) (by omega) (by omega);have d:G0 (k+4) (k+4) (Bk j) 0 (J++a)=_:=d;refine ⟨a, ?_⟩;rw[Ye,Ya];simp only[b,AI,gP,c,Aah,d,An]
theorem id0 (a:MK m):Bx m 0=0:=by unfold Bx; rw[xn a]; rfl
theorem Rel.pair (h:Rel (· ∈ GC m r) m m') (i:MK m) (f:MK m') {v:Int} (j:v ∈ GC m r):tx m m' (GC m r) v:=by
 obtain ⟨a,b,c,d,e⟩:=h v j;refine ⟨((Ih i r).1 j).has,a,c,b,d,fun x=>?_⟩;rcases e x with ⟨g,h0⟩ | ⟨g,h0⟩
 ·left;rw[g];rcases h0 with h0 | ⟨_,h0⟩
  ·rw[h0,id0 i,id0 f]
  ·exact h0.symm
 ·right;exact ⟨by rw[g,id0 f],h0.imp id fun ⟨k,l,n⟩=>⟨k,l,by rw[n,id0 f]⟩⟩
theorem Rel.places (h:Rel (· ∈ GC m r) m m') (b:MK m) (e:r.ok):∀ z ∈ EJ r,Oi r z.1 z.2.1 z.2.2/\(Bx m (CF r z)=0\/Bx m' (CF r z)=Bx m (CF r z)):=fun z c=>by
 refine ⟨(RU e c).1, ?_⟩;by_cases a:Ax m (CF r z)=true
 ·right;have d:CF r z ∈ Bf r:=by
   rw[<- Xi,Yq];exact .inr ⟨Ad0.2 ⟨z,c,rfl⟩,PH b a⟩
  exact (h _ ((Ih b r).2 (.root d a))).2.2.1
 ·left;unfold Bx;rw[Abo a]
end
section
variable {K:Int->Prop}
def mN (m:HM) (r:D3) (s:TC):Prop:=∃ J i p c,Lc J i p c m r s
theorem mN.unit {m:HM} {r:D3} {s:TC} (h:mN m r s):mN (HE m r s).1 r (HE m r s).2:=by
 obtain ⟨J,i,p,c,T⟩:=h;obtain ⟨J',b,_,a,_⟩:=jh 5000 (Abp _) T;exact ⟨J',i,p,b,a⟩
def Whole (K:Int->Prop) (m:HM):Prop:=∀ a,K a->Ax m a=true /\ ∀ x:Nat,AA m a (x:Int)=0\/Ax m (AA m a (x:Int))=true
theorem Rel.whole {m m':HM} (h:Rel K m m'):Whole K m':=fun a d=>by
 obtain ⟨h1,_,_,_,b⟩:=h a d;refine ⟨h1,fun x=>?_⟩;rcases b x with ⟨e,c⟩ | ⟨e,_⟩
 ·rw[e]; exact c.imp id fun f=>f.1
 ·exact .inl e
structure Aaq (K:Int->Prop) (r:D3) (q q':HM × TC):Prop where
 run:JI q'.1 r q'.2
 rel:Rel K q.1 q'.1
 ki:KI K q'.1 r q'.2
 brt:q'.1.births=q.1.births
 len:q'.1.bls.length=q.1.bls.length
 hm:MK q'.1
 lk:q'.2.look=q.2.look
theorem X7 (r:D3):∀ (n:Nat) (q:HM × TC),mN q.1 r q.2->JI q.1 r q.2->KI K q.1 r q.2->Whole K q.1->Aaq K r q (EL r n q).2
 | 0,q,b,h,a,d=>by
   obtain ⟨J,i,p,c,T⟩:=b;exact ⟨h,Rel.refl d,a,rfl,rfl,T.mo,rfl⟩
 | n+1,q,b,h,a,d=>by
   obtain ⟨J,i,p,c,T⟩:=id b;rw[EL];split
   ·exact ⟨h,Rel.refl d,a,rfl,rfl,T.mo,rfl⟩
   ·rename_i hp;have U:=xR T.mo T.tok h hp a;have I:=X7 r n (HE q.1 r q.2) b.unit U.run U.ki U.rel.whole;exact ⟨I.run,U.rel.trans I.rel,I.ki,I.brt.trans U.brt,I.len.trans U.len,I.hm,I.lk.trans U.lk⟩
theorem JI.whole {m:HM} {r:D3} {s:TC} (h:JI m r s) (b:MK m):Whole (· ∈ GC m r) m:=fun a c=>⟨((Ih b r).1 c).has,h.ro b c⟩
theorem JI.ki {m:HM} {r:D3} {s:TC} (h:JI m r s) (b:MK m):KI (· ∈ GC m r) m r s:=⟨fun _ a c=>(Ih b r).1 c,fun d a c=>by
 rcases h.st with ⟨e,_⟩ | ⟨e,_⟩ | ⟨_,e⟩
 ·rw[d] at e; cases e
 ·rw[d] at e; cases e
 ·exact e.kept b ((Ih b r).1 c)⟩
theorem JI.Aa8 {m:HM} {r:D3} {s:TC} (h:JI m r s) (b:Qw m.bls.length s) (hp:s.ph=0):s.list=[]:=by
 have hi:IdI m r s:=by
  rcases h.st with ⟨_,e⟩ | ⟨e,_⟩ | ⟨e,_⟩
  ·exact e
  ·rw[hp] at e; cases e
  ·rw[hp] at e; cases e
 have h0:WU m.bls.length s.ws=0:=by
  unfold WU bC;rw[Ad6,List.filter_eq_nil_iff];intro j c;rw[Adu];intro a;refine a ?_;have d:=h.zc j (Agv.1 c) a;have:=hi.c0 _ d;unfold C9 at this;rw[show ((2*j:Nat):Int).toNat/2=j from by omega] at this;exact this
 have:=b.ls;rw[h0] at this;exact Ad6.1 (by omega)
variable {J:Aa} {Y:YI} {z:YS}
theorem sZ (k:Nat) (hk:20000<=k) (h:Sj J Y z) (hp:z.s.ph=0) (A:U3 z.m z.r=true):YG (GU (k+18) (Lj Y.X) J) J Y (.bool true) { m:=z.m,r:=z.r,s:=U4 z.m z.r z.s,K:=(GC z.m z.r).map (Bx z.m),L:=[],bn:=z.m.births }:=by
 obtain ⟨B,c,p,I,o⟩:=cm (k+5) (by omega) h.x;have p:CU (k+17) (IM Y.X.I) J=_:=p;have h1:=h.app c;have n:=h.x.t.mo.nt;obtain ⟨a,j,q,M,X⟩:=kG (k+10) (by omega) h1.x I.li (by have:=o.len n; omega) (fun v Q=>(uL n o v Q).1);have q:DI (k+17) (Lj Y.X) (B.1,B.2.1,B.2.2) (J++c)=_:=q;have l:=h1.app j;have H:Dr (k+17) (AU Y.X.I.i) (J++c++j)=_:=eR (k+15) l.x.t.h;have w:=h.x.flt;have S:=h.x.xbl;have q1:∀ {ρ:Type} (x:Option ρ),FO J (J++c) x=x:=fun x=>Nj _ _ x;have q2:∀ {ρ:Type} (x:Option ρ),FO (J++c) (J++c++j) x=x:=fun x=>Nj _ _ x;have low:∀ b,b<J.length->(J++c++j)[b]?=J[b]?:=fun b hb=>by rw[Aae]; exact AT hb
 have y:J.length<=(J++c++j).length:=by simp only[Abe]; omega
 have g:∀ b ∈ hs a,J.length<=b:=fun b hb=>by have:=X b hb; simp only[Abe] at this; omega
 generalize J++c++j=Z at *;have C:=l.run;have f:=Af C;obtain ⟨u,V⟩:=l.x.vm (.slice a.1 a.2.1 a.2.2) (.slice none 0 0) (qIi z.m.births);obtain ⟨i,d⟩:∃ i,Au.cells [qVi (IM Y.X.I),qVi (Kt Y.X),.slice a.1 a.2.1 a.2.2,.slice none 0 0,qIi z.m.births] AN true=i:=⟨_,rfl⟩;have s1:CX Z Y.X.xb 2 (.slice a.1 a.2.1 a.2.2)=some (Z.set Y.X.xb (.cells [qVi (IM Y.X.I),qVi (Kt Y.X),.slice a.1 a.2.1 a.2.2,.slice Y.l.1 Y.l.2.1 Y.l.2.2,qIi z.bn] AN true)):=by simp[CX,C]
 have F:(Z.set Y.X.xb (.cells [qVi (IM Y.X.I),qVi (Kt Y.X),.slice a.1 a.2.1 a.2.2,.slice Y.l.1 Y.l.2.1 Y.l.2.2,qIi z.bn] AN true))[Y.X.xb]?=some (.cells [qVi (IM Y.X.I),qVi (Kt Y.X),.slice a.1 a.2.1 a.2.2,.slice Y.l.1 Y.l.2.1 Y.l.2.2,qIi z.bn] AN true):=Abq f;have s2:CX (Z.set Y.X.xb (.cells [qVi (IM Y.X.I),qVi (Kt Y.X),.slice a.1 a.2.1 a.2.2,.slice Y.l.1 Y.l.2.1 Y.l.2.2,qIi z.bn] AN true)) Y.X.xb 3 (.slice none 0 0)=some (Z.set Y.X.xb (.cells [qVi (IM Y.X.I),qVi (Kt Y.X),.slice a.1 a.2.1 a.2.2,.slice none 0 0,qIi z.bn] AN true)):=by simp[CX,F]
 have G:(Z.set Y.X.xb (.cells [qVi (IM Y.X.I),qVi (Kt Y.X),.slice a.1 a.2.1 a.2.2,.slice none 0 0,qIi z.bn] AN true))[Y.X.xb]?=some (.cells [qVi (IM Y.X.I),qVi (Kt Y.X),.slice a.1 a.2.1 a.2.2,.slice none 0 0,qIi z.bn] AN true):=Abq f;have s3:CX (Z.set Y.X.xb (.cells [qVi (IM Y.X.I),qVi (Kt Y.X),.slice a.1 a.2.1 a.2.2,.slice none 0 0,qIi z.bn] AN true)) Y.X.xb 4 (qIi z.m.births)=some (Z.set Y.X.xb i):=by simp[CX,G,<- d]
 rw[d] at u V;have ne:∀ b,b≠Y.X.xb->(Z.set Y.X.xb i)[b]?=Z[b]?:=fun b hb=>Aaf (Ac9 hb);have D:Sj (Z.set Y.X.xb i) ⟨Y.X,a,(none,0,0)⟩ { m:=z.m,r:=z.r,s:=z.s,K:=(GC z.m z.r).map (Bx z.m),L:=[],bn:=z.m.births }:=by
  refine ⟨u,by rw[<- d]; exact Abq f,M.Aw fun b hb=>ne b fun e=>?_,.inl ⟨rfl,rfl⟩,fun b hb O=>?_,fun b hb=>by simp[hs] at hb⟩
  ·have:=g b hb; omega
  ·have:=g b hb; have:=w b O; omega
 obtain ⟨J',E,t,N,W,x4,T,i4⟩:=D.go (fQ (k+3) (by omega) D.x.k hp A);have t:Ch (k+17) (Kt Y.X) _=_:=t;have U:Mv Y.fl (⟨Y.X,a,(none,0,0)⟩:YI).fl J (Z.set Y.X.xb i):=by
  refine ⟨by rw[Ac8]; exact y,fun b hb P=>?_,fun b hb=>?_⟩
  ·rw[ne b fun e=>P (by rw[e]; exact Aag.2 (.inl (Adm.2 ⟨[Y.X.xb],by simp[XI.Ls],by simp⟩)))];exact low b hb
  ·rcases Aag.1 hb with hb | hb
   ·exact .inl (Aag.2 (.inl hb))
   ·rcases Aag.1 hb with hb | hb
    ·exact .inr (g b hb)
    ·simp[hs] at hb
 refine ⟨J',E, ?_,N,U.trans W,x4,T,i4⟩;rw[T8];simp only[AI,IN,Abn,h.x.HI,p,q1,gP,q,q2,l.x.HI,l.x.dX,H,Ah,s1,s2,s3,u.EX,t,Adr]
end
section
variable {J:Aa} {Y:YI} {z:YS}
inductive aV (z:YS):YS->Prop
 | start:z.s.ph=0->aV z { m:=z.m,r:=z.r,s:=U4 z.m z.r z.s,K:=(GC z.m z.r).map (Bx z.m),L:=[],bn:=z.m.births }
 | units (N:Nat):aV z { z with m:=(EL z.r N (z.m,z.s)).2.1,s:=(EL z.r N (z.m,z.s)).2.2 }
 | act {z':YS}:Td z z'->aV z z'
def zT (z:YS) (N:Nat):YS:={ z with m:=(EL z.r N (z.m,z.s)).2.1,s:=(EL z.r N (z.m,z.s)).2.2 }
structure mJ (z:YS):Prop where
 run:JI z.m z.r z.s
 lk:z.s.look=false
theorem JI.sound {m:HM} {r:D3} {s:TC} (h:JI m r s) (hp:s.ph≠2):XG m/\Mq m r:=by
 rcases h.st with ⟨_,e⟩ | ⟨_,e⟩ | ⟨e,_⟩
 ·exact ⟨e.rf,e.ld⟩
 ·exact ⟨e.rf,e.ld⟩
 ·exact absurd e hp
theorem vK (k:Nat) (hk:40000<=k) (h:Sj J Y z) (hR:mJ z) {N:Nat} (hN:1<=N/\N<=100) {hb:Nat} {u9:Int} (ah:hb<J.length) (hu:Aj .u8 J hb 9=some u9) (ak:Ar (1+(Ar u9).tmod 6)=(N:Int)):
  YG (((Lj Y.X).bind fun D=>(B7 J D.block (D.off+0)).bind fun au=>au.bind fun E=>(B7 J E.block (E.off+0)).bind fun av=>(En (k+20) av J).bind fun d=>FO J d.2 ((HO d.1).bind fun ax=>(Lj Y.X).bind fun F=>(B7 d.2 F.block (F.off+0)).bind fun ay=>ay.bind fun G=>(B7 d.2 G.block (G.off+1)).bind fun az=>(BR (k+20) az d.2).bind fun j=>(HO j.1).bind fun a0=>(Lj Y.X).bind fun H=>(B7 j.2 H.block (H.off+1)).bind fun a3=>(Aj .u8 j.2 hb (0+9)).bind fun an=>if (6:Int)=0 then none else (BZ (k+20) a3 (Ar ((1:Int)+((Ar (an)).tmod (6:Int)))) j.2).bind fun e=>He e.1 fun bd ao=>(Lj Y.X).bind fun I=>(B7 e.2 I.block (I.off+0)).bind fun a4=>a4.bind fun L=>(B7 e.2 L.block (L.off+0)).bind fun a6=>(En (k+20) a6 e.2).bind fun f=>FO e.2 f.2 ((HO f.1).bind fun ab=>(Lj Y.X).bind fun M=>(B7 f.2 M.block (M.off+0)).bind fun a7=>a7.bind fun O=>(B7 f.2 O.block (O.off+1)).bind fun a8=>(BR (k+20) a8 f.2).bind fun ad=>(HO ad.1).bind fun ac=>(J6 (k+20) ax a0 ab ac ad.2).bind fun u=>vc u.1 fun am ap=>(bif ao == 0 then some (ap == 0,u.2) else some (false,u.2)).bind fun w=>(bif w.1 then some (((am.2.1:Nat):Int) == (0:Int),w.2) else some (false,w.2)).bind fun l=>(bif l.1 then (Lj Y.X).bind fun Q=>(B7 l.2 Q.block (Q.off+1)).bind fun a9=>(Be (k+20) a9 l.2).bind fun y=>(Bl .i64 y.1).bind fun aq=>(bif aq == 2 then some (true,y.2) else (Hp (k+20) ab ac y.2).bind fun g=>(Dk g.1).bind fun p=>some (p,g.2)).bind fun ae=>some (ae.1,ae.2) else some (false,l.2)).bind fun af=>some (.bool af.1,af.2))):Option (Value × Aa))) J Y (.bool true) { z with m:=(EL z.r N (z.m,z.s)).2.1,s:=(EL z.r N (z.m,z.s)).2.2 }:=by
 have q:=h.x.t.mo;have r:=X7 (K:=(· ∈ GC z.m z.r)) z.r N (z.m,z.s) ⟨_,_,_,_,h.x.t⟩ hR.run (hR.run.ki q) (hR.run.whole q);obtain ⟨o,j1,e1,a1,n1⟩:=gZ (k+10) (by omega) h.x.t.h q;have e1:En (k+20) (AU Y.X.I.i) J=_:=e1;have y1:=h.app o;obtain ⟨A,q1,e2,b1,n2⟩:=Rk (k+13) (by omega) y1.x.t.rt;have e2:BR (k+20) (F6 Y.X.I.p) (J++o)=_:=e2;have y2:=y1.app A;have c2:Aj .u8 (J++o++A) hb 9=some u9:=by
  rw[Aae,HJ _ _ _ ah]; exact hu
 have hlen:(J++o++A).length=J.length+o.length+A.length:=by simp only[Abe]
 have a2:=a1.app A;have mA:Mv Y.fl Y.fl J (J++o++A):=(Mv.app _ _ _).trans (Mv.app _ _ _);have ba:∀ {ρ:Type} (x:Option ρ),FO J (J++o) x=x:=fun x=>Nj _ _ x;obtain ⟨a,Y4,e4,B,m4,x4,k4,i4⟩:=y2.go (kA (k+3) (by omega) y2.x.k hN.1 (by omega));have e4:BZ (k+20) (Kt Y.X) (N:Int) (J++o++A)=_:=e4;have T:=h.lt;have g1:JH a j1 ⟨z.m.bls,Gp z.m,[],z.m.births⟩:=a2.Aw (fun b hb=>m4.same b (by have:=a2.lt b hb; omega) fun hh=>by have:=n1 b hb; have:=T b hh; omega) m4.len;have g2:F5 a q1 z.r:=b1.Aw fun b hb=>m4.same b (by have:=b1.lt b hb; omega) fun hh=>by have:=n2 b hb; simp only[Abe] at this; have:=T b hh; omega
 obtain ⟨q',aj⟩:∃ q',EL z.r N (z.m,z.s)=q':=⟨_,rfl⟩;rw[aj] at e4 B r ⊢;obtain ⟨c,j5,e5,a5,_⟩:=gZ (k+10) (by omega) B.x.t.h B.x.t.mo;rw[i4] at e5;have e5:En (k+20) (AU Y.X.I.i) a=_:=e5;have y5:=B.app c;have ag:=y5.x.t.rt;rw[i4] at ag;obtain ⟨i,q6,e6,b6,_⟩:=Rk (k+13) (by omega) ag;have e6:BR (k+20) (F6 Y.X.I.p) (a++c)=_:=e6;have y6:=y5.app i;have bb:∀ {ρ:Type} (x:Option ρ),FO a (a++c) x=x:=fun x=>Nj _ _ x;have R1:=(((RG.read g1 q).app c).app i);have R2:=(RG.read a5 r.hm).app i;have Q1:=(g2.app c).app i;have t:=h.x.t.rt.ok;have U:(Bf z.r).length<=4000:=by have:=cu t; omega
 obtain ⟨_,_,_,_,ar⟩:=cm (k+3) (by omega) h.x;have ai:(GC z.m z.r).length<=4000:=by have:=ar.len q.nt; omega
 obtain ⟨fa,n,e7⟩:=wz (k+10) (by omega) R1 R2 Q1 b6 U (by rw[W0]; exact ai) (by
  rw[W0];intro v hv;have P:=r.rel.pair q r.hm hv;exact ⟨P.has,P.has',P.idn,P.shp,P.ue,P.ref⟩) (r.rel.places q t) (by have:=PQ t; omega);have e7:J6 (k+20) (Bk j1) (GP q1) (Bk j5) (GP q6) (a++c++i)=_:=e7;have y7:=y6.app n;have bc:∀ {ρ:Type} (K:qSi->Int->Option ρ),vc (.tuple #[.slice fa 0 0,qIi 0]) K=K (fa,0,0) 0:=fun K=>xB (fa,0,0) 0 K;have p7:=UF (k+17) y7.x.k;have p7:Be (k+20) (Kt Y4.X) (a++c++i++n)=_:=p7;have kk:Kt Y4.X=Kt Y.X:=by unfold Kt; rw[k4]
 have V:=B.x.HI;have W:=B.x.dX;have X:=y5.x.HI;have Z:=y5.x.rM;have aa:=y7.zn;rw[x4,i4] at V X;rw[i4] at W Z;rw[x4,kk] at aa;rw[kk] at p7;obtain ⟨C,S⟩:∃ C,((bif q'.2.2.ph == 2 then some (true,a++c++i++n) else (Hp (k+20) (Bk j5) (GP q6) (a++c++i++n)).bind fun g=>(Dk g.1).bind fun p=>some (p,g.2)):Option (Bool × Aa))=some (true,a++c++i++n++C):=by
  by_cases h2:q'.2.2.ph=2
  ·exact ⟨[],by rw[h2,Abu]; rfl⟩
  ·obtain ⟨s1,s2⟩:=r.run.sound h2;obtain ⟨C,S⟩:=tG (k+14) (by omega) (R2.app n) (b6.app n) (show Ax q'.2.1 0=false from xn r.hm) s1 s2 U;have S:Hp (k+20) (Bk j5) (GP q6) (a++c++i++n)=_:=S;refine ⟨C, ?_⟩;rw[Acy.2 h2];simp only[By,S,AI,An]
 refine ⟨a++c++i++n++C,Y4, ?_,y7.app C,(((((mA.trans m4).trans (Mv.app _ _ _)).trans (Mv.app _ _ _)).trans (Mv.app _ _ _)).trans (Mv.app _ _ _)),x4,k4,i4⟩;simp only[AI,IN,Abn,h.x.HI,h.x.dX,e1,ba,yy,y1.x.HI,y1.x.rM,e2,y2.zn,c2,show ((6:Int)=0)=False from by simp,Abs,ak,e4,B9,V,W,e5,bb,X,Z,e6,e7,bc,Adr,IS,Int.natCast_zero,aa,p7,Ah];rw[S];rfl
structure B10 (u0 u1 u2 u3 u4 u5 u6 u7 u8 u9:Nat):Prop where
 a:u0<256/\u1<256/\u2<256/\u3<256/\u4<256
 b:u5<256/\u6<256/\u7<256/\u8<256/\u9<256
set_option maxHeartbeats 2000000 in
theorem mw (k:Nat) (hk:40000<=k) (h:Sj J Y z) (B:mJ z) (hb:z.m.births<900000) (hL:z.L.length<=80000) {u0 u1 u2 u3 u4 u5 u6 u7 u8 u9:Nat} (hB:B10 u0 u1 u2 u3 u4 u5 u6 u7 u8 u9):
  ∃ i,aV z i/\(u8 % 4=2->i=zT z (1+u9 % 6))/\YG (Fq (k+21) (Lj Y.X) (u0:Int) (u1:Int) (u2:Int) (u3:Int) (u4:Int) (u5:Int) (u6:Int) (u7:Int) (u8:Int) (u9:Int) J) J Y (.bool true) i:=by
 obtain ⟨⟨v0,v1,v2,v3,v4⟩,v5,v6,v7,v8,v9⟩:=hB;obtain ⟨B0,s⟩:∃ B0,Au.cells [.int .u8 (u0:Int),.int .u8 (u1:Int),.int .u8 (u2:Int),.int .u8 (u3:Int),.int .u8 (u4:Int),.int .u8 (u5:Int),.int .u8 (u6:Int),.int .u8 (u7:Int),.int .u8 (u8:Int),.int .u8 (u9:Int)] Oh true=B0:=⟨_,rfl⟩;have S:∀ Z:Aa,Z[J.length]?=some B0->Aj .u8 Z J.length 0=some (u0:Int)/\Aj .u8 Z J.length 1=some (u1:Int)/\Aj .u8 Z J.length 2=some (u2:Int)/\Aj .u8 Z J.length 3=some (u3:Int)/\Aj .u8 Z J.length 4=some (u4:Int)/\Aj .u8 Z J.length 5=some (u5:Int)/\Aj .u8 Z J.length 6=some (u6:Int)/\Aj .u8 Z J.length 7=some (u7:Int)/\Aj .u8 Z J.length 8=some (u8:Int)/\Aj .u8 Z J.length 9=some (u9:Int):=fun Z hm=>by
  simp[Aj,CV,hm,<- s,Bl]
 have h1:=h.app [B0];have t:J.length<(J++[B0]).length:=by simp
 obtain ⟨_,_,_,_,_,_,_,_,p,l9⟩:=S _ Abv;have hp:=UF (k+17) h1.x.k;have hp:Be (k+20) (Kt Y.X) (J++[B0])=some (qIi z.s.ph,J++[B0]):=hp;have o:(u8:Int).tmod 4=((u8 % 4:Nat):Int):=Kq u8 4;have j:((4:Int)=0)=False:=by simp
 have cut:∀ {U:Option (Value × Aa)} {i:YS},YG U (J++[B0]) Y (.bool true) i->YG U J Y (.bool true) i:=fun ⟨J',X,e,y,m,a,b,c⟩=>⟨J',X,e,y,(Mv.app _ _ _).trans m,a,b,c⟩;rw[Vb];simp only[Ae,s,IN,Abn,Nat.reduceAdd,p,AI,j,Abs,o,h1.zn,hp,Ah];have g:(¬ (u8 % 4=1/\z.s.ph=0))->_:=fun _=>vK k hk h1 B (N:=1+u9 % 6) (by omega) (hb:=J.length) (u9:=(u9:Int)) t l9 (by
  rw[Ai (n:=(u9:Int)) (by unfold AO; omega),show (u9:Int).tmod 6=((u9 % 6:Nat):Int) from Kq u9 6,Ai (by unfold AO; omega)];omega);have h4:u8 % 4=0\/u8 % 4=1\/u8 % 4=2\/u8 % 4=3:=by omega
 have u:(((0:Nat):Int) == 1)=false/\(((0:Nat):Int) == 2)=false:=⟨rfl,rfl⟩;have w:(((1:Nat):Int) == 1)=true/\(((1:Nat):Int) == 2)=false:=⟨rfl,rfl⟩;have V:(((2:Nat):Int) == 1)=false/\(((2:Nat):Int) == 2)=true:=⟨rfl,rfl⟩;have W:(((3:Nat):Int) == 1)=false/\(((3:Nat):Int) == 2)=false:=⟨rfl,rfl⟩;have f:∃ i,aV z i/\YG ((Lj Y.X).bind fun q=>(B7 (J++[B0]) q.block (q.off+0)).bind fun O=>(FD (k+20) (Lj Y.X) (J++[B0])).bind fun d=>oT d.1 fun f60 f61 f62=>HL (Lj Y.X) (J++[B0]) d.2 (HL (some ⟨J.length,0,none⟩) (J++[B0]) d.2 ((Aj .u8 d.2 J.length (0+0)).bind fun E=>(Aj .u8 d.2 J.length (0+0+1)).bind fun F=>(Aj .u8 d.2 J.length (0+0+1+1)).bind fun G=>(Aj .u8 d.2 J.length (0+0+1+1+1)).bind fun H=>(Aj .u8 d.2 J.length (0+0+1+1+1+1)).bind fun I=>(Aj .u8 d.2 J.length (0+0+1+1+1+1+1)).bind fun K=>(Aj .u8 d.2 J.length (0+0+1+1+1+1+1+1)).bind fun L=>(Aj .u8 d.2 J.length (0+0+1+1+1+1+1+1+1)).bind fun M=>(GS (k+20) O (f60) (f61) (f62) E F G H I K L M d.2).bind fun v=>(Dk v.1).bind fun x=>some (.bool x,v.2)))) (J++[B0]) Y (.bool true) i:=by
  obtain ⟨τ,g1,g5,g8,A,t1⟩:=vF (k+19) h1;have A:FD (k+20) (Lj Y.X) (J++[B0])=_:=A;obtain ⟨i,ha,J2_,Y2,r,t2,D,P,C,i2⟩:=yB k (by omega) t1 B.run hb hL (u0:=u0) (u1:=u1) (u2:=u2) (u3:=u3) (u4:=u4) (u5:=u5) (u6:=u6) (u7:=u7) v0 v1 v2 v3 v4 v5 v6;have T:(J++[B0]++τ)[J.length]?=(J++[B0])[J.length]?:=AT t;have kx:(J++[B0]++τ)[Y.X.xb]?=(J++[B0])[Y.X.xb]?:=AT h1.x.xbl;obtain ⟨l0,l1,l2,l3,l4,l5,l6,l7,_,_⟩:=S (J++[B0]++τ) (by rw[T]; exact Abv);refine ⟨i,.act ha,J2_,Y2, ?_,t2.y,(Mv.app _ _ _).trans D,P,C,i2⟩;simp only[AI,IN,Abn,Nat.reduceAdd,h1.x.HI,A,tM,QN (a:=⟨Y.X.xb,0,none⟩) kx,QN (a:=⟨J.length,0,none⟩) T,l0,l1,l2,l3,l4,l5,l6,l7,r,An]
 simp only[IN,Abn,Nat.reduceAdd,AI] at f g;rcases h4 with l | l | l | l
 ·rw[l];simp only[u.1,u.2,By,AI,p,j,Abs,o,l];obtain ⟨i,a,b⟩:=f;exact ⟨i,a,fun _=>by omega,cut b⟩
 ·rw[l];simp only[w.1,w.2,IS,By,AI,p,j,Abs,o,l];by_cases h0:z.s.ph=0
  ·obtain ⟨s1,s2⟩:=B.run.sound (by rw[h0]; decide);obtain ⟨J2_,Y2,r,y2,D,P,C,i2⟩:=sZ (k+2) (by omega) h1 h0 (xJ s1 s2);have r:GU (k+20) (Lj Y.X) (J++[B0])=_:=r;refine ⟨_,.start h0,fun _=>by omega,cut ⟨J2_,Y2, ?_,y2,D,P,C,i2⟩⟩;simp only[h0,Adr,IS,r,AI,An]
  ·rw[Acy.2 h0];simp only[By,IS,AI,p,j,Abs,o,l,w.1,w.2];exact ⟨_,.units (1+u9 % 6),fun _=>rfl,cut (g fun Q=>h0 Q.2)⟩
 ·rw[l];simp only[V.1,V.2,IS,By,AI,p,j,Abs,o,l];exact ⟨_,.units (1+u9 % 6),fun _=>rfl,cut (g fun Q=>by omega)⟩
 ·rw[l];simp only[W.1,W.2,By,AI,p,j,Abs,o,l];obtain ⟨i,a,b⟩:=f;exact ⟨i,a,fun _=>by omega,cut b⟩
end
section
section
variable {J:Aa} {lo:Nat}
theorem qS (k:Nat) (C:10000<=k) (B:Bg) (l:0<=B.bl/\B.bl<256) (n:0<=B.mu/\B.mu<256):∃ m r,MK m/\Qb m/\Mq m r/\m.births<=40 /\ ∀ lo J,Qu lo J B->lo<=J.length ->
  ∃ J' X,mS (k+15) B J=some (qVi (Lj X),J')/\Pm J' X m r (Xm m.bls.length false 2)/\J'[X.xb]?=some (.cells [qVi (IM X.I),qVi (Kt X),.slice none 0 0,.slice none 0 0,qIi 0] AN true)/\(∀ L ∈ X.Ls,∀ q ∈ L,J.length<=q)/\J.length<=J'.length /\ ∀ q,q<J.length->J'[q]?=J[q]?:=by
 obtain ⟨m,r,z,A,g,y,run⟩:=w7 k C B l n;refine ⟨m,r,z,A,g,y,fun lo J x D=>?_⟩;obtain ⟨d,f⟩:∃ d,Au.cells [.int .u8 B.bl,.int .u8 B.mu,.slice B.ob.p B.ob.n B.ob.c,.slice B.de.p B.de.n B.de.c,.slice B.li.p B.li.n B.li.c,.slice B.pl.p B.pl.n B.pl.c,.slice B.pi.p B.pi.n B.pi.c] Dv true=d:=⟨_,rfl⟩;obtain ⟨J1_,I,t,o,S,p,E,u⟩:=run lo (J++[d]) (x.DN fun q b=>AT (by omega)) (by rw[Abe]; omega);rw[Abe,Ac3] at p E u;have e:∀ {L:List Nat},L ∈ I.Ls -> ∀ q ∈ L,J.length+1<=q:=fun g q b=>p q (Adm.2 ⟨_,g,b⟩);obtain ⟨τ,c,v,T,s⟩:=gR (k+8) (by omega) S.h S.mo S.rt (S.fp.sub [0,2] (by decide) (by simp[MZ.Ls]) rfl) false 2;have j:Nf (k+13) (AU I.i) (F6 I.p) false 2 J1_=_:=v;have S2:=S.app τ;obtain ⟨K0,i⟩:∃ K0,Au.cells [qVi (D2 c)] IB true=K0:=⟨_,rfl⟩;obtain ⟨R0,h⟩:∃ R0,Au.cells [qVi (IM I),qVi (some ⟨(J1_++τ).length,0,none⟩),.slice none 0 0,.slice none 0 0,qIi 0] AN true=R0:=⟨_,rfl⟩;have T3:Lc (J1_++τ++[K0]++[R0]) I.i I.p c m r (Xm m.bls.length false 2):=(T.app [K0]).app [R0];have S3:=(S2.app [K0]).app [R0];have U:(J1_++τ).length=J1_.length+τ.length:=Abe;refine ⟨J1_++τ++[K0]++[R0],⟨(J1_++τ++[K0]).length,(J1_++τ).length,I,c⟩, ?_,⟨?_, ?_,S3.cell,T3,⟨r,S3.rq,rfl⟩, ?_⟩, ?_, ?_, ?_, ?_⟩
 ·have F:Aj .u8 (J++[d]) J.length 0=some B.bl:=by rw[<- f,Bt]; rfl
  have G:Aj .u8 (J++[d]) J.length 1=some B.mu:=by rw[<- f,Bt]; rfl
  have H:Bd (J++[d]) J.length 2=some (B.ob.p,B.ob.n,B.ob.c)/\Bd (J++[d]) J.length 3=some (B.de.p,B.de.n,B.de.c)/\Bd (J++[d]) J.length 4=some (B.li.p,B.li.n,B.li.c)/\Bd (J++[d]) J.length 5=some (B.pl.p,B.pl.n,B.pl.c)/\Bd (J++[d]) J.length 6=some (B.pi.p,B.pi.n,B.pi.c):=by
   simp[Bd,CV,<- f,Ej]
  obtain ⟨K,M,N,O,Q⟩:=H;unfold uI at o;have w:Kz (k+14) (AU I.i) (F6 I.p) J1_=some (.tuple #[qVi (some ⟨(J1_++τ).length,0,none⟩),qIi 0],J1_++τ++[K0]):=by
   rw[show k+14=(k+13)+1 from rfl,V9];simp only[j,AI,LF,Abt,By,Ae,i]
  unfold mS;rw[XU];simp only[Ae,f,IN,Nat.reduceAdd,F,G,K,M,N,O,Q,AI,o,HO,Acf,By,S.HI,S.EX,w,LF,show ∀ a:Addr,Ll P DQ (qVi (some a)) (qVi none)=some false from fun a=>by kernel_rfl,Abt,h]
 ·exact ⟨_,_,_,by rw[Abv,<- h]⟩
 ·rw[AT (by simp),Abv,<- i]
 ·have F0:Fp J1_ [I.i.l,I.p.l,[I.sb],I.q.l]:=S.fp.sub [0,2,4,3] (by decide) (by simp[MZ.Ls]) rfl;have F1:=F0.cons (J':=J1_++τ) (L:=c.l) (fun q b=>⟨s q b,T.co.lt q b⟩) (by omega);have F2:=F1.cons (J':=J1_++τ++[K0]) (L:=[(J1_++τ).length]) (fun q b=>by rw[Ac1.1 b,Abe (bs:=[K0])]; simp) (by simp);have F3:=F2.cons (J':=J1_++τ++[K0]++[R0]) (L:=[(J1_++τ++[K0]).length]) (fun q b=>by rw[Ac1.1 b]; simp) (by simp);exact F3.sub [3,4,2,0,1,5,6] (by decide) (by simp) rfl
 ·rw[Abv,<- h]
 ·intro L g q b;have g:L ∈ [I.i.l,I.p.l,c.l,[(J1_++τ++[K0]).length],[(J1_++τ).length],[I.sb],I.q.l]:=g;simp only[Acv,Ad3,Afz] at g;rcases g with rfl | rfl | rfl | rfl | rfl | rfl | rfl
  ·have:=e (L:=I.i.l) (by simp[MZ.Ls]) q b; omega
  ·have:=e (L:=I.p.l) (by simp[MZ.Ls]) q b; omega
  ·have:=s q b; omega
  ·have:=Ac1.1 b; simp at this; omega
  ·have:=Ac1.1 b; omega
  ·have:=e (L:=[I.sb]) (by simp[MZ.Ls]) q b; omega
  ·have:=e (L:=I.q.l) (by simp[MZ.Ls]) q b; omega
 ·simp; omega
 ·intro q b;rw[Aae,Aae,AT (by omega),u q (by omega),AT b]
end
variable {J:Aa} {Y:YI} {z:YS}
theorem uE {m:HM} {r:D3} (d:MK m) (e:Qb m) (c:Mq m r):JI m r (Xm m.bls.length false 2):=by
 have b:∀ j,CG 2 (Xm m.bls.length false 2).ws j=0:=fun j=>Pj _ _ _;exact ⟨fun j _ h=>absurd (b j) h,rfl,.inl ⟨rfl,e.o d.inv,c,fun a _=>b _⟩⟩
abbrev YS.new (m:HM) (r:D3):YS:=⟨m,r,Xm m.bls.length false 2,[],[],0⟩
theorem Sj.new {X:XI} {m:HM} {r:D3} (h:Pm J X m r (Xm m.bls.length false 2)) (a:J[X.xb]?=some (.cells [qVi (IM X.I),qVi (Kt X),.slice none 0 0,.slice none 0 0,qIi 0] AN true)):Sj J ⟨X,(none,0,0),(none,0,0)⟩ (YS.new m r):=
 ⟨h,a,Bh.nil _,.inl ⟨rfl,rfl⟩,fun b hb=>by simp[hs] at hb,fun b hb=>by simp[hs] at hb⟩
theorem aV.run {z z':YS} (h:aV z z') (b:mJ z) (f:mN z.m z.r z.s) (e:MK z'.m):mJ z'/\z'.m.births<=z.m.births+1/\z'.L.length<=z.L.length+3:=by
 obtain ⟨J,i,p,c,T⟩:=id f;have d:=T.mo;cases h with
 | start hp=>exact ⟨⟨(vA d b.run T.tok hp (b.run.Aa8 T.tok hp)).1,((Ff z.m _ _).2.2.1).trans b.lk⟩,by dsimp only; omega,by simp⟩
 | units N=>
   have S:=X7 (K:=(· ∈ GC z.m z.r)) z.r N (z.m,z.s) f b.run (b.run.ki d) (b.run.whole d);exact ⟨⟨S.run,S.lk.trans b.lk⟩,by have:=S.brt; dsimp only at this ⊢; omega,by simp⟩
 | act g=>
   obtain ⟨j,k,m,l,n,o,q⟩:=g.run b.run d e T.tok b.lk;refine ⟨⟨j,k⟩,l, ?_⟩;have nl:∀ a x,(VC z.m a x).length<=1:=fun a x=>by unfold VC; split <;> simp
   cases g with
   | none=>omega
   | full=>simp
   | new=>simp
   | @store a to x=>
     have:=nl a (x:Int);unfold stL;simp only[Abe];split <;> simp <;> omega
   | set=>simp
   | @load a x w=>
     have:=nl a (x:Int);simp only[Abe]; omega
   | data=>simp
theorem dC (r:D3):∀ (n:Nat) (q:HM × TC),mN q.1 r q.2->HF (EL r n q).2.1.bls.length (EL r n q).2.2<=HF q.1.bls.length q.2
 | 0,q,_=>Abp _
 | n+1,q,a=>by
   rw[EL];split
   ·exact Abp _
   ·rename_i hp;obtain ⟨J,i,p,c,T⟩:=id a;obtain ⟨J',e,p',d,b⟩:=a.unit;have:=YE (r:=r) T.mo.nt T.tok b.tok hp;have:=dC r n (HE q.1 r q.2) a.unit;exact Nat.le_of_lt (Nat.lt_of_le_of_lt this (by assumption))
theorem sT (r:D3) {n:Nat} (e:0<n) {q:HM × TC} (a:mN q.1 r q.2) (hp:q.2.ph≠0):HF (EL r n q).2.1.bls.length (EL r n q).2.2<HF q.1.bls.length q.2:=by
 obtain ⟨n,rfl⟩:∃ m,n=m+1:=⟨n-1,by omega⟩;rw[EL,Abo hp];obtain ⟨J,i,p,c,T⟩:=id a;obtain ⟨J',f,p',d,b⟩:=a.unit;exact Nat.lt_of_le_of_lt (dC r n (HE q.1 r q.2) a.unit) (YE (r:=r) T.mo.nt T.tok b.tok hp)
theorem rO {lo:Nat} {J':Aa} {L L':List Nat} {b:BL} {w:Nat} (hm:Mv L L' J J') (e:lo<=J.length) (c:∀ p ∈ L,lo<=p) (d:Mj lo J w b):Mj lo J' w b/\lo<=J'.length /\ ∀ p ∈ L',lo<=p:=by
 have:=hm.len;exact ⟨d.DN fun p hp=>hm.same p (by omega) fun a=>by have:=c p a; omega,by omega,fun p hp=>(hm.new p hp).elim (c p) fun a=>by omega⟩
theorem Ab6 {lo b:Nat} {B:Bg} (h:Qu lo J B) (a:lo<=b):Qu b J B:=⟨h.b0,h.m0,h.ob.up a,h.de.up a,h.li.up a,h.pl.up a,h.pi.up a⟩
end
section
variable {J:Aa} {Y:YI} {z:YS}
theorem wS {lo:Nat} {b:BL} (n:Mj lo J 10 b) {x:Nat} (P:x<b.n):∃ a c d e f h i j k u8 l,b.p=some ⟨a,0,none⟩/\B10 c d e f h i j k u8 l/\Aj .u8 J a (x*10)=some (c:Int)/\Aj .u8 J a (x*10+1)=some (d:Int)/\Aj .u8 J a (x*10+2)=some (e:Int)/\Aj .u8 J a (x*10+3)=some (f:Int)/\Aj .u8 J a (x*10+4)=some (h:Int)/\Aj .u8 J a (x*10+5)=some (i:Int)/\Aj .u8 J a (x*10+6)=some (j:Int)/\Aj .u8 J a (x*10+7)=some (k:Int)/\Aj .u8 J a (x*10+8)=some (u8:Int)/\Aj .u8 J a (x*10+9)=some (l:Int):=by
 obtain ⟨a,M,O,m⟩:=n.ld P;have g:∀ o,o<10 -> ∃ u:Nat,u<256/\Aj .u8 J a (x*10+o)=some (u:Int):=fun o N=>by
  have:=n.rg (x*10+o);exact ⟨(b.at (x*10+o)).toNat,by omega,by rw[m J rfl o N]; congr 1; omega⟩
 obtain ⟨c,p,B⟩:=g 0 (by decide);obtain ⟨d,q,C⟩:=g 1 (by decide);obtain ⟨e,r,D⟩:=g 2 (by decide);obtain ⟨f,s,E⟩:=g 3 (by decide);obtain ⟨h,t,F⟩:=g 4 (by decide);obtain ⟨i,v,G⟩:=g 5 (by decide);obtain ⟨j,w,H⟩:=g 6 (by decide);obtain ⟨k,y,I⟩:=g 7 (by decide);obtain ⟨u8,z,K⟩:=g 8 (by decide);obtain ⟨l,A,L⟩:=g 9 (by decide);exact ⟨a,c,d,e,f,h,i,j,k,u8,l,M,⟨⟨p,q,r,s,t⟩,v,w,y,z,A⟩,B,C,D,E,F,G,H,I,K,L⟩
theorem rN {c x:Nat} {a:Int} {T:Type} (J:T) (h:¬ (x<c/\(x:Int)<a)):(bif decide ((x:Int)<(c:Int)) then some (decide ((x:Int)<a),J) else some (false,J))=some (false,J):=by
 by_cases h1:x<c
 ·rw[Aad (by omega),IS,Aac (fun b=>h ⟨h1,b⟩)]
 ·rw[Aac (by omega),By]
theorem az (k:Nat) (s:40000<=k) {lo:Nat} {b:BL}:∀ (n x f:Nat) (J:Aa) (Y:YI) (z:YS),Sj J Y z->mJ z->z.m.births+n<=800000->z.L.length+3*n<=80000->(∀ p ∈ Y.fl,lo<=p)->lo<=J.length->Mj lo J 10 b->x+n=80->n<f ->
  ∃ J' q g,E9 (k+21) f b.p b.n b.c (Lj Y.X) (x:Int) J=some (.exit 0,[],J')/\Sj J' q g/\mJ g/\q.X.xb=Y.X.xb/\g.m.births<=800000/\g.L.length<=80000
 | n,x,0,J,Y,z,h,d,hb,M,t,c,i,O,N=>by omega
 | n,x,f+1,J,Y,z,h,d,hb,M,t,c,i,O,N=>by
   rw[Rx];by_cases a:x<b.n/\(x:Int)<80;rotate_left
   ·simp only[rN J a,AI,By];exact ⟨J,Y,z,rfl,h,d,rfl,by omega,by omega⟩
   obtain ⟨l,j⟩:=a;obtain ⟨n,rfl⟩:∃ S,n=S+1:=⟨n-1,by omega⟩;have o:=qSu x b.n (by omega);have V:=wSu x (by omega);obtain ⟨pq,u0,u1,u2,u3,u4,u5,u6,u7,u8,u9,r,L,A,B,C,D,E,F,G,H,I,K⟩:=wS i l;obtain ⟨Z,st,_,J1_,Y1,es,v,Q,u,k1,i1⟩:=mw k s h d (by omega) (by omega) L;obtain ⟨U,r2,r3⟩:=st.run d ⟨_,_,_,_,h.x.t⟩ v.x.t.mo;obtain ⟨w,m,T⟩:=rO Q c t i;obtain ⟨J2_,Y2,z2,e,X,R2,W,y,P⟩:=az k s n (x+1) f J1_ Y1 Z v U (by omega) (by omega) T m w (by omega) (by omega);have ex:Lj Y1.X=Lj Y.X:=by unfold Lj; rw[u]
   rw[ex,r] at e;refine ⟨J2_,Y2,z2, ?_,X,R2,W.trans u,y,P⟩;simp only[Aad (show (x:Int)<((b.n:Nat):Int) by omega),IS,Aad j,AI,o,Aah,r,IT,IN,Adt,Nat.reduceAdd,A,B,C,D,E,F,G,H,I,K,es,An,Abr,By,V,e]
theorem aA (k:Nat) (i:40000<=k):∀ (n f:Nat) (J:Aa) (Y:YI) (z:YS),Sj J Y z->mJ z->z.m.births<=800000->z.L.length<=80000->HF z.m.bls.length z.s<=n->n<f ->
  ∃ J',FV (k+21) f (Lj Y.X) J=some (.exit 2,[],J')
 | n,0,J,Y,z,h,a,hb,g,hu,o=>by omega
 | n,f+1,J,Y,z,h,a,hb,g,hu,o=>by
   have hp:=UF (k+18) h.x.k;have hp:Be (k+21) (Kt Y.X) J=some (qIi z.s.ph,J):=hp;rw[Ry];simp only[AI,IN,Abn,h.zn,hp,Ah];by_cases h0:z.s.ph=0
   ·rw[h0];exact ⟨J,rfl⟩
   ·obtain ⟨c,st,b,J1_,Y1,es,j,u,s,t,i1⟩:=mw k i h a (by omega) (by omega) (u0:=0) (u1:=0) (u2:=0) (u3:=0) (u4:=0) (u5:=0) (u6:=0) (u7:=0) (u8:=2) (u9:=5) ⟨by decide,by decide⟩;have b:=b (by decide);obtain ⟨r,v,w⟩:=st.run a ⟨_,_,_,_,h.x.t⟩ j.x.t.mo;have hle:=sT z.r (n:=6) (by decide) (q:=(z.m,z.s)) ⟨_,_,_,_,h.x.t⟩ h0;have l:=X7 (K:=(· ∈ GC z.m z.r)) z.r 6 (z.m,z.s) ⟨_,_,_,_,h.x.t⟩ a.run (a.run.ki h.x.t.mo) (a.run.whole h.x.t.mo);have m:c.m.births=z.m.births:=by rw[b]; exact l.brt
    have d:c.L=z.L:=by rw[b]; rfl
    have p:HF c.m.bls.length c.s<HF z.m.bls.length z.s:=by rw[b]; exact hle
    obtain ⟨J2_,e⟩:=aA k i (n-1) f J1_ Y1 c j r (by omega) (by rw[d]; exact g) (by omega) (by omega);have ex:Lj Y1.X=Lj Y.X:=by unfold Lj; rw[s]
    rw[ex] at e;refine ⟨J2_, ?_⟩;have es:Fq (k+21) (Lj Y.X) 0 0 0 0 0 0 0 0 2 5 J=some (.bool true,J1_):=es;simp only[Adp.2 h0,IS,es,AI,An,Abr,By,e]
theorem jw (k:Nat) (o:40000<=k) (B:Bg) {b:BL} {lo:Nat} (hA:Qu lo J B) (C:Mj lo J 10 b) (D:lo<=J.length):
  ∃ J',Jf (k+22) B.bl B.mu (B.ob.p,B.ob.n,B.ob.c) (B.de.p,B.de.n,B.de.c) (B.li.p,B.li.n,B.li.c) (B.pl.p,B.pl.n,B.pl.c) (B.pi.p,B.pi.n,B.pi.c) (b.p,b.n,b.c) J=some (.bool true,J'):=by
 obtain ⟨m,r,z,A,f,y,run⟩:=qS (k+6) (by omega) B hA.b0 hA.m0;obtain ⟨a,c⟩:∃ a,Au.cells [.int .u8 B.bl,.int .u8 B.mu,.slice B.ob.p B.ob.n B.ob.c,.slice B.de.p B.de.n B.de.c,.slice B.li.p B.li.n B.li.c,.slice B.pl.p B.pl.n B.pl.c,.slice B.pi.p B.pi.n B.pi.c] Dv true=a:=⟨_,rfl⟩;have ld:∀ Z:Aa,Z[J.length]?=some a->Aj .u8 Z J.length 0=some B.bl/\Aj .u8 Z J.length 1=some B.mu/\Bd Z J.length 2=some (B.ob.p,B.ob.n,B.ob.c)/\Bd Z J.length 3=some (B.de.p,B.de.n,B.de.c)/\Bd Z J.length 4=some (B.li.p,B.li.n,B.li.c)/\Bd Z J.length 5=some (B.pl.p,B.pl.n,B.pl.c)/\Bd Z J.length 6=some (B.pi.p,B.pi.n,B.pi.c):=by
  intro Z E;simp[Aj,Bd,CV,E,<- c,gP,Bl]
 obtain ⟨J1_,X,l,x,v,j,F,I⟩:=run lo (J++[a]) (hA.DN fun q s=>AT (by omega)) (by rw[Abe]; omega);have h:∀ q,q<J.length->J1_[q]?=J[q]?:=fun q s=>by rw[I q (by simp; omega),AT s]
 rw[Abe,Ac3] at F j;obtain ⟨K,M,N,O,P,Q,S⟩:=ld (J++[a]) Abv;unfold mS at l;have U:=Sj.new x v;have t:Mj lo J1_ 10 b:=C.DN fun p hp=>h p (by omega);have H:∀ p ∈ (⟨X,(none,0,0),(none,0,0)⟩:YI).fl,lo<=p:=fun p hp=>by
  rcases Aag.1 hp with hp | hp
  ·obtain ⟨L,f,hp⟩:=Adm.1 hp;have:=j L f p hp; omega
  ·simp[hs] at hp
 obtain ⟨J2_,Y2,V,d,i,R2,T,u,G⟩:=az k o 80 0 (k+21) J1_ _ _ U ⟨uE z A f,rfl⟩ (by dsimp only; omega) (by simp) H (by omega) t (by omega) (by omega);rw[show ((0:Nat):Int)=0 from rfl] at d;have d:E9 (k+21) (k+21) b.p b.n b.c (Lj X) 0 J1_=_:=d;have g:=gS i.x.t.tok i.x.t.mo.nt;obtain ⟨J3_,n⟩:=aA k o 7000 (k+21) J2_ Y2 V i R2 u G g (by omega);have ex:Lj Y2.X=Lj X:=by unfold Lj; rw[T]
 rw[ex] at n;obtain ⟨e,w⟩:=tX (k+3) (by omega) J3_;refine ⟨e, ?_⟩;rw[Va];simp only[Ae,c,IN,Nat.reduceAdd,K,M,N,O,P,Q,S,AI,l,yy,Acd,By,d,Aah,n,w,An]
theorem jD (k:Nat) (d:40000<=k) (B:Bg) {lo:Nat} (hA:Qu lo J B) (a:lo<=J.length) {b:BL} (c:Mj J.length J 10 b):
  ∃ J',fn P X H (k+22) 5 [.agg #[.int .u8 B.bl,.int .u8 B.mu,.slice B.ob.p B.ob.n B.ob.c,.slice B.de.p B.de.n B.de.c,.slice B.li.p B.li.n B.li.c,.slice B.pl.p B.pl.n B.pl.c,.slice B.pi.p B.pi.n B.pi.c],.slice b.p b.n b.c] J=some (.bool true,J'):=by
 obtain ⟨J',h⟩:=jw k d B (Ab6 hA a) c (Abp _);exact ⟨J',(Xg (k+22) B.bl B.mu (B.ob.p,B.ob.n,B.ob.c) (B.de.p,B.de.n,B.de.c) (B.li.p,B.li.n,B.li.c) (B.pl.p,B.pl.n,B.pl.c) (B.pi.p,B.pi.n,B.pi.c) (b.p,b.n,b.c) J).trans h⟩
end
end
end Go.Proofs.YtjbledomkmdkmaaGreat
