/- Part 12. -/
import Derived.Test.YtjbledomkmdkmaaGreatP11
import Derived.Test.YtjbledomkmdkmaaGreatP9
set_option linter.unusedVariables false
set_option linter.unusedSimpArgs false
set_option linter.unusedSectionVars false
namespace Go.Proofs.YtjbledomkmdkmaaGreat
open Go Go.AX
noncomputable section
local instance qKT:AJ:=Ao
section
variable {J:Aa} {Y:YI} {z:YS} {h1 h5 h8:Nat}
def cY (l:List Int) (n:Nat):Int:=if l=[]\/200<=n then 0 else l.getD (n % l.length) 0
theorem gE (l:List Int) (n:Nat):cY l n=0\/cY l n ∈ l:=by
 unfold cY;split
 ·exact .inl rfl
 ·rename_i h;have h0:l≠[]:=fun e=>h (.inl e);exact .inr (O7 (Aev _ (Ae1.2 h0)))
theorem qj (k:Nat) {o:Bx} {l:List Int} (e:Bf J o l) {a:Nat} {T:TypeId} (g:J[a]?=some (.cells [.slice o.1 o.2.1 o.2.2] T true)) {n:Nat} (m:n<256):Dm (k+1) (n:Int) (some ⟨a,0,none⟩) J=some (qIi (cY l n),J):=by
 have h:=e.form;have f1:o.2.1=l.length:=by rw[h]
 have ld:Be J a 0=some (o.1,o.2.1,o.2.2):=by simp[Be,CW,g,Eo]
 have w:Ar (n:Int)=(n:Int):=Ai (by unfold AQ; omega);unfold cY;rw[QA];simp only[AI,ld,f1,w];by_cases h0:l=[]
 ·rw[Aay (.inl h0),h0];simp only[Adx,show (((0:Nat):Int) == 0)=true from rfl,IS,AI]
 ·have hp:=Ae1.2 h0;rw[show (((l.length:Nat):Int) == 0)=false from by rw[Ach]; omega];simp only[By,AI];by_cases d:200<=n
  ·rw[Aay (.inr d),Aak (show (n:Int)>=200 by omega)];rfl
  ·rw[Aaz (fun i=>i.elim h0 d),Aaj (show ¬ (n:Int)>=200 by omega)];have c:n % l.length<l.length:=Aev _ hp;obtain ⟨b,f,j,_⟩:=e.ld c;simp only[By,ld,f1,Kx,f,AI,IT,Acg,IN,j];rw[Aaz (by omega),Aay (by omega)]
theorem jg {a b c:Nat} (h:a<256) (hb:b<256) (i:c<256):valid (LS (a:Int) (b:Int) (c:Int)).1 (LS (a:Int) (b:Int) (c:Int)).2.1 (LS (a:Int) (b:Int) (c:Int)).2.2=true:=by
 have d:(b:Int).tmod 5=((b % 5:Nat):Int):=Kx b 5;have e:((b % 5:Nat):Int).tmod 3=((b % 5 % 3:Nat):Int):=Kx (b % 5) 3;have f:(c:Int).tmod 6=((c % 6:Nat):Int):=Kx c 6;have g:(c:Int).tmod 100=((c % 100:Nat):Int):=Kx c 100;unfold LS valid;rw[d,e,f,g];split
 ·simp; omega
 ·split
  ·simp; omega
  ·split
   ·simp; omega
   ·split
    ·simp; omega
    ·simp; omega
theorem MK.yd {m:HM} (h:MK m) (a x v:Int):MK (GU m a x v).2:=by
 have b:=(VN h.inv h.inv2 a x v).inv;have c:=(VN h.inv h.inv2 a x v).inv2;unfold GU at b c ⊢;split
 ·rename_i d;rw[Aay d] at b c;refine ⟨b,c,⟨?_,h.sh.sl,h.sh.pl⟩,cm h.fz rfl,h.b0,h.nb,h.nt⟩;show (m.wds.set _ _).length=_;rw[Adj]; exact h.sh.wl
 ·exact h
theorem pM {m:HM} (a:m.bls.length<=64) {v:Int} (h:Aw m v=true):AQ v/\0<=v:=by
 obtain ⟨j,rfl,hs⟩:=AY h;have:=hs.1;unfold AQ; omega
theorem IF.ro {m:HM} {r:D4} {s:TC} (h:IF m r s) (d:MK m) {a:Int} (e:a ∈ E9 m r) (x:Nat):AE m a (x:Int)=0\/Aw m (AE m a (x:Int))=true:=by
 have c:=(E8 d r).1 e;rcases h.st with ⟨_,b⟩ | ⟨_,b⟩ | ⟨_,b⟩
 ·exact b.rf a c.has x
 ·exact b.rf a c.has x
 ·exact (b.rf a (b.kept d c) x).imp id fun f=>(AP.1 f).1
set_option maxHeartbeats 2000000 in
theorem yW (k:Nat) (hk:30000<=k) (h:TY J Y z h1 h5 h8) (hR:IF z.m z.r z.s) (hb:z.m.births<900000) (hL:z.L.length<=80000) {u0 u1 u2 u3 u4 u5 u6 u7:Nat} (v0:u0<256) (v1:u1<256) (v2:u2<256) (v3:u3<256) (v4:u4<256) (v5:u5<256) (v6:u6<256):
  ∃ f,Tl z f/\jP (GX (k+20) (ID Y.X.I) (tlA h1) (tlS h1 h5 h8) (tlL h1 h8) (u0:Int) (u1:Int) (u2:Int) (u3:Int) (u4:Int) (u5:Int) (u6:Int) (u7:Int) J) J Y (.bool true) f h1 h5 h8:=by
 have ag:=h.y.x.t.mo.nt;have hM:=h.y.x.t.mo;obtain ⟨E,ba⟩:∃ E,Au.cells [tlA h1,tlS h1 h5 h8,tlL h1 h8] Hs true=E:=⟨_,rfl⟩;obtain ⟨N,bb⟩:∃ N,Au.cells [.int .u8 (u0:Int),.int .u8 (u1:Int),.int .u8 (u2:Int),.int .u8 (u3:Int),.int .u8 (u4:Int),.int .u8 (u5:Int),.int .u8 (u6:Int),.int .u8 (u7:Int)] NT true=N:=⟨_,rfl⟩;have A1:=(h.app [E]).app [N];have lT:∀ ν:Aa,ν[J.length]?=some E->CW ν J.length 0=some (tlA h1)/\CW ν J.length 1=some (tlS h1 h5 h8)/\CW ν J.length 2=some (tlL h1 h8):=fun ν hν=>by
  simp[CW,hν,<- ba]
 obtain ⟨c,bj⟩:∃ c,(J++[E]).length=c:=⟨_,rfl⟩;have lU:∀ ν:Aa,ν[c]?=some N->Aj .u8 ν c 0=some (u0:Int)/\Aj .u8 ν c 1=some (u1:Int)/\Aj .u8 ν c 2=some (u2:Int)/\Aj .u8 ν c 3=some (u3:Int)/\Aj .u8 ν c 4=some (u4:Int)/\Aj .u8 ν c 5=some (u5:Int)/\Aj .u8 ν c 6=some (u6:Int)/\Aj .u8 ν c 7=some (u7:Int):=fun ν hν=>by
  simp[Aj,CW,hν,<- bb,Bk]
 have pT:(J++[E]++[N])[J.length]?=some E:=by rw[AT (by simp),Ab5]
 have pU:(J++[E]++[N])[(J++[E]).length]?=some N:=Ab5;have m1:Mv Y.fl Y.fl J (J++[E]++[N]):=(Mv.app _ _ _).trans (Mv.app _ _ _);obtain ⟨Z1_,aj⟩:∃ Z1_,J++[E]++[N]=Z1_:=⟨_,rfl⟩;have df:Z1_.length=J.length+2:=by rw[<- aj]; simp
 have b3:(J++[E]).length=J.length+1:=by simp
 rw[aj] at A1 pT pU m1;rw[bj] at pU b3;obtain ⟨o,g,e1,g1,bv⟩:=Xl (k+7) (by omega) A1.y.x;have e1:BJ (k+19) (ID Y.X.I) Z1_=_:=e1;have T:=vj ag bv;have A2:=A1.app g;obtain ⟨K0,a7⟩:∃ K0,Au.cells [.slice o.1 o.2.1 o.2.2] FR true=K0:=⟨_,rfl⟩;have sK:CY (Z1_++g++[Au.cells [.slice none 0 0] FR true]) (Z1_++g).length 0 (.slice o.1 o.2.1 o.2.2)=some (Z1_++g++[K0]):=by
  rw[<- a7]; exact dI _ _ _ _ _ (by decide)
 have A3:=A2.app [K0];have db:(Ar (u2:Int)).tmod 36=((u2 % 36:Nat):Int):=by rw[Ai (by unfold AQ; omega)]; exact Kx u2 36
 obtain ⟨I,e2⟩:=xi (k+16) A3.y.x (n:=u2 % 36) (by omega);have e2:CE (k+19) (ID Y.X.I) ((u2 % 36:Nat):Int) (Z1_++g++[K0])=_:=e2;have X:(HN z.r.mu (u2 % 36)).1≠2:=by
  unfold HN;rw[show u2 % 36 % 40=u2 % 36 from by omega];split
  ·show (0:Int)≠2; decide
  ·rw[Aay (by omega)]; show (1:Int)≠2; decide
 have ah:=mK z.r h.y.x.t.rt.ok (u2 % 36) fun s=>X s.1;have A4:=A3.app I;generalize dg:HN z.r.mu (u2 % 36)=w at *;obtain ⟨A,a8⟩:∃ A,Au.cells [qIi w.1,qIi (w.2.1:Int),qIi (w.2.2:Int)] Am true=A:=⟨_,rfl⟩;have sP:H5 (Z1_++g++[K0]++I++[Au.cells [qIi 0,qIi 0,qIi 0] Am true]) (Z1_++g++[K0]++I).length 0 [qIi w.1,qIi (w.2.1:Int),qIi (w.2.2:Int)]=some (Z1_++g++[K0]++I++[A]):=by
  rw[<- a8]; exact EA _ _ _ _ _ _ _ _
 have A5:=A4.app [A];have pK:(Z1_++g++[K0]++I++[A])[(Z1_++g).length]?=some (.cells [.slice o.1 o.2.1 o.2.2] FR true):=by
  rw[a7,AT (by simp only[Aaw,Ac3]; omega),AT (by simp only[Aaw,Ac3]; omega),Ab5]
 have pP:(Z1_++g++[K0]++I++[A])[(Z1_++g++[K0]++I).length]?=some A:=Ab5;have Q:∀ b,b<Z1_.length->(Z1_++g++[K0]++I++[A])[b]?=Z1_[b]?:=fun b af=>by
  simp only[Aaq]; exact AT af
 have ar:Bf (Z1_++g++[K0]++I++[A]) o (E9 z.m z.r):=((g1.li.app [K0]).app I).app [A];have m5:Mv Y.fl Y.fl J (Z1_++g++[K0]++I++[A]):=(((m1.trans (Mv.app _ _ _)).trans (Mv.app _ _ _)).trans (Mv.app _ _ _)).trans (Mv.app _ _ _);have cg:=(lU (Z1_++g++[K0]) (by rw[Aaq,AT (by omega)]; exact pU)).2.2.1;obtain ⟨pk,bg⟩:∃ pk,(Z1_++g).length=pk:=⟨_,rfl⟩;obtain ⟨pp,U⟩:∃ pp,(Z1_++g++[K0]++I).length=pp:=⟨_,rfl⟩;have de:J.length<=pp:=by rw[<- U]; simp only[Aaw,Ac3]; omega
 have bh:(Z1_++g++[K0]++I++[A]).length=pp+1:=by rw[<- U]; simp only[Aaw,Ac3]
 obtain ⟨Z5_,b7⟩:∃ Z5_,Z1_++g++[K0]++I++[A]=Z5_:=⟨_,rfl⟩;rw[U] at sP pP;rw[bg] at sK pK;rw[b7] at sP A5 pK pP Q ar m5 bh;have bw:Z5_[J.length]?=some E:=(Q _ (by omega)).trans pT;have a0:Z5_[c]?=some N:=(Q _ (by omega)).trans pU;obtain ⟨dh,b8,di,b9,dj,dk,dl,dm⟩:=lU _ a0;have t200:(u1:Int).tmod 200=((u1 % 200:Nat):Int):=Kx u1 200;have e3:=qj (k+18) ar pK (n:=u1 % 200) (by omega);have e4:=qj (k+18) ar pK (n:=u3) v3;have e3:Dm (k+19) ((u1 % 200:Nat):Int) (some ⟨pk,0,none⟩) Z5_=_:=e3;have e4:Dm (k+19) (u3:Int) (some ⟨pk,0,none⟩) Z5_=_:=e4;have ma:=gE (E9 z.m z.r) (u1 % 200);have mt:=gE (E9 z.m z.r) u3;generalize cY (E9 z.m z.r) (u1 % 200)=a at *;generalize cY (E9 z.m z.r) u3=to at *;have ia:AQ a/\0<=a:=ma.elim (fun e=>by rw[e]; unfold AQ; omega) fun s=>⟨(T a s).1,(T a s).2.1⟩;have it:AQ to/\0<=to:=mt.elim (fun e=>by rw[e]; unfold AQ; omega) fun s=>⟨(T to s).1,(T to s).2.1⟩;have b6:to=0\/Aw z.m to=true:=mt.imp id fun s=>bv.ob to s;have na:(Ag z.m a).1≠0\/(Ag z.m a).2.1≠0->a ∈ E9 z.m z.r:=fun s=>ma.resolve_left fun e=>by
  have:Ag z.m a=(0,0,0):=by unfold Ag; rw[e,xL hM]; rfl
  rw[this] at s; simp at s
 obtain ⟨K,e5⟩:=PD (k+13) A5.y.x.t.h a ia.1;have e5:AL (k+19) (AU Y.X.I.i) a Z5_=_:=e5;have A6:=A5.app K;obtain ⟨M,a9⟩:∃ M,Au.cells [qIi (Ag z.m a).1,qIi (Ag z.m a).2.1,qIi (Ag z.m a).2.2] Ad true=M:=⟨_,rfl⟩;have sS:H5 (Z5_++K++[Au.cells [qIi 0,qIi 0,qIi 0] Ad true]) (Z5_++K).length 0 [qIi (Ag z.m a).1,qIi (Ag z.m a).2.1,qIi (Ag z.m a).2.2]=some (Z5_++K++[M]):=by
  rw[<- a9]; exact EA _ _ _ _ _ _ _ _
 have A7:=A6.app [M];have m7:Mv Y.fl Y.fl J (Z5_++K++[M]):=(m5.trans (Mv.app _ _ _)).trans (Mv.app _ _ _);have G:∀ b,b<Z5_.length->(Z5_++K++[M])[b]?=Z5_[b]?:=fun b af=>by rw[Aaq]; exact AT af
 have pS:(Z5_++K++[M])[(Z5_++K).length]?=some M:=Ab5;have lS:Aj .i64 (Z5_++K++[M]) (Z5_++K).length 0=some (Ag z.m a).1/\Aj .i64 (Z5_++K++[M]) (Z5_++K).length 1=some (Ag z.m a).2.1:=by
  simp[Aj,CW,pS,<- a9,Bk]
 obtain ⟨Z,an⟩:=lS;obtain ⟨ps,bi⟩:∃ ps,(Z5_++K).length=ps:=⟨_,rfl⟩;obtain ⟨Z7_,bn⟩:∃ Z7_,Z5_++K++[M]=Z7_:=⟨_,rfl⟩;have dc:Z5_.length<=Z7_.length:=by rw[<- bn]; simp only[Aaw,Ac3]; omega
 rw[bi] at sS Z an;rw[bn] at sS A7 m7 G Z an;have bx:Z7_[J.length]?=some E:=(G _ (Af bw)).trans bw;have c8:Z7_[c]?=some N:=(G _ (Af a0)).trans a0;have az:Z7_[pp]?=some A:=(G _ (Af pP)).trans pP;obtain ⟨ca,dn,am,cb,cc,cd,ce,cf⟩:=lU _ c8;obtain ⟨t70,t71,t72⟩:=lT _ bx;have lP:∀ ν:Aa,ν[pp]?=some A->Aj .i64 ν pp 0=some w.1/\Aj .i64 ν pp 1=some (w.2.1:Int)/\Aj .i64 ν pp 2=some (w.2.2:Int):=fun ν hν=>by
  simp[Aj,CW,hν,<- a8,Bk]
 obtain ⟨aw,ax,ay⟩:=lP _ az;have c4:pp ∉ Y.fl:=fun s=>by have:=h.y.lt _ s; omega
 have F:∀ {J':Aa} {L':List Nat},Mv Y.fl L' Z7_ J'->J'[pp]?=some A:=fun hm=>(hm.same pp (Af az) c4).trans az;have lf:∀ v,AQ v->0<=v->jP (Bc (k+19) (F8 Y.X.I.p) w.1 (w.2.1:Int) (w.2.2:Int) v Z7_) Z7_ Y (qIi 0) { z with r:=Hx z.r w.1 w.2.1 w.2.2 v } h1 h5 h8:=fun v hv h0=>A7.go (jx (k+15) A7.y ah X hv h0);obtain ⟨H,L⟩:∃ H:Nat,(Ag z.m a).1=(H:Int):=⟨(Ag z.m a).1.toNat,by have:=mw hM.inv a; omega⟩;have dd:0<=(Ag z.m a).2.1:=by
  cases s:Aw z.m a with
  | false=>unfold Ag; rw[s]; simp
  | true=>
    obtain ⟨j,rfl,hs⟩:=AY s;rw[F6 hs];exact (Nc hM.inv hs).2.2.2.1
 obtain ⟨nd,be⟩:∃ nd:Nat,(Ag z.m a).2.1=(nd:Int):=⟨(Ag z.m a).2.1.toNat,by omega⟩;have w2:Ar (u2:Int)=(u2:Int):=Ai (by unfold AQ; omega);have w3:Ar (u3:Int)=(u3:Int):=Ai (by unfold AQ; omega);have da:Ar ((u3:Int)-100)=(u3:Int)-100:=Ai (by unfold AQ; omega);have b5:z.s.ph=0\/z.s.ph=1\/z.s.ph=2:=by rcases hR.st with ⟨x,_⟩ | ⟨x,_⟩ | ⟨x,_⟩ <;> omega
 have b4:z.s.born=0\/z.s.born=2:=by rw[hR.bn]; split <;> simp
 have bo:∀ {v:Int} {f:YS},f={ z with r:=Hx z.r w.1 w.2.1 w.2.2 v }->(v=0\/v ∈ E9 z.m z.r)->Tl z f:=fun e hv=>by rw[e]; exact .set hv
 rw[TE];simp only[Ae,ba,bb,aj,e1,AI,dM,bj,bg,sK,IN,Aa0,Nat.reduceAdd,cg,show ((36:Int)=0)=False from by simp,Aa5,db,e2,HA,U,sP,b8,show ((200:Int)=0)=False from by simp,t200,e3,Ah,Pe (a:=⟨c,0,none⟩) (show Z5_[c]?=Z5_[c]? from rfl),b9,e4,A5.y.x.dU,e5,jq,Adl,Adx,Aat,Aey,Ae4,bi,sS,ca,show ((9:Int)=0)=False from by simp];have stop:jP (some (Value.bool true,Z7_)) J Y (.bool true) z h1 h5 h8:=⟨Z7_,Y,rfl,A7,m7,rfl,rfl,rfl⟩;have nz:∀ n:Nat,¬ n=0->((n:Int) == 0)=false/\¬ (n:Int)=0:=fun n hn=>⟨by rw[Ach]; omega,by omega⟩;have ht:(u0:Int).tmod 9=((u0 % 9:Nat):Int):=Kx u0 9;have h9:u0 % 9<9:=Aev _ (by decide);have ac:∀ v,AQ v->0<=v->(v=0\/v ∈ E9 z.m z.r) -> ∃ J' f,Bc (k+19) (F8 Y.X.I.p) w.1 (w.2.1:Int) (w.2.2:Int) v Z7_=some (qIi 0,J')/\Tl z f/\jP (some (Value.bool true,J')) J Y (.bool true) f h1 h5 h8:=fun v hv h0 hk=>by
  obtain ⟨J',Y',e,t,m,a1,a2,a3⟩:=lf v hv h0;exact ⟨J',_,e,bo rfl hk,J',Y',rfl,t,m7.trans m,a1,a2,a3⟩
 have O:∃ f,Tl z f/\jP ((CW Z7_ J.length 0).bind fun f38=>(Aj .u8 Z7_ c 4).bind fun ch=>(Aj .u8 Z7_ c 5).bind fun ci=>(Aj .u8 Z7_ c 6).bind fun cj=>(Aj .u8 Z7_ c 7).bind fun ck=>Option.bind (GI (k+19) ch ci cj ck Z7_) fun a4=>My a4.1 fun cl cm cn=>HH (some ⟨J.length,0,none⟩) Z7_ a4.2 (Option.bind (HB (k+19) f38 [.agg #[qIi cl,qIi cm,qIi cn]] a4.2) fun u=>GV u.1 fun co bq=>(bif bq == 6 then some (true,u.2) else (bif bq == 0 then (B9 u.2 Y.X.I.sb 1).bind fun c5=>(Aj .i64 u.2 pp 0).bind fun cp=>(Aj .i64 u.2 pp 1).bind fun cq=>(Aj .i64 u.2 pp 2).bind fun cr=>Option.bind (Bc (k+19) c5 cp cq cr co u.2) fun y=>(Bk .i64 y.1).bind fun S=>some (S == 0,y.2) else some (false,u.2)).bind fun bz=>some (bz.1,bz.2)).bind fun d=>some (Value.bool d.1,d.2))) J Y (.bool true) f h1 h5 h8:=by
  obtain ⟨τ8,e8⟩:=jN (k+18) (x0:=u4) (x1:=u5) (x2:=u6) (x3:=u7) (by omega) (by omega) (by omega) Z7_;have e8:GI (k+19) (u4:Int) (u5:Int) (u6:Int) (u7:Int) Z7_=_:=e8;have bl:=jg v4 v5 v6;generalize LS (u4:Int) (u5:Int) (u6:Int)=sh at *;obtain ⟨s0,s1,s2⟩:=sh;have V:=Zk hM 0 s0 s1 s2;obtain ⟨i,Y9,C,t9,m9,x9,y9,i9⟩:=oP (k+3) (by omega) (A7.app τ8) (by omega) hR.zc b5 b4 s0 s1 s2;have C:HB (k+19) (tlA h1) [.agg #[qIi s0,qIi s1,qIi s2]] (Z7_++τ8)=_:=C;have av:Mv Y.fl Y9.fl Z7_ i:=(Mv.app _ _ _).trans m9;have kT:(Z7_++τ8)[J.length]?=Z7_[J.length]?:=AT (Af bx);simp only[t70,cc,cd,ce,cf,AI,e8,HA,Pe (a:=⟨J.length,0,none⟩) kT,C,B6];have ak:Y9.X.I.sb=Y.X.I.sb:=by rw[i9]
  unfold NV at t9;generalize Gg z.m 0 s0 s1 s2=q at *;rcases V.st with ⟨q0,vn,_⟩ | ⟨q0,q6,so,br⟩
  ·rw[Aay q0] at t9;have bm:=pM (by rw[V.len]; exact ag) vn.has;obtain ⟨ad,ae,B,t10,au,a5,a6,i10⟩:=t9.go (jx (k+15) t9.y (w:=w) ah X bm.1 bm.2);have B:Bc (k+19) (F8 Y9.X.I.p) w.1 (w.2.1:Int) (w.2.2:Int) q.1.1 i=_:=B;obtain ⟨g0,g1,g2⟩:=lP _ (F av);have l1:=t9.y.x.su;rw[ak] at l1;refine ⟨_,.new vn V.len (w:=w),ad,ae, ?_,t10,m7.trans (av.trans au),a5.trans x9,a6.trans y9,i10.trans i9⟩;simp only[q0,Int.reduceBEq,IS,By,l1,AI,g0,g1,g2,B,Ah]
  ·have c9:=q6 bl;rw[Aaz q0] at t9;refine ⟨_,.full so br V.len,i,Y9, ?_,t9,m7.trans av,x9,y9,i9⟩;simp only[c9,Int.reduceBEq,IS,By,AI]
 have P:∃ f,Tl z f/\jP ((Aj .i64 Z7_ ps 0).bind fun cs=>(bif cs == 0 then some (true,Z7_) else (CW Z7_ J.length 1).bind fun f60=>(Aj .u8 Z7_ c 2).bind fun ct=>(Aj .i64 Z7_ ps 0).bind fun bs=>if bs=0 then none else Option.bind (II (k+19) f60 [qIi a,qIi ((Ar ct).tmod bs),qIi to] Z7_) fun b2=>(Bk .i64 b2.1).bind fun cu=>some (cu == 0,b2.2)).bind fun d=>some (Value.bool d.1,d.2)) J Y (.bool true) f h1 h5 h8:=by
  simp only[Z,AI,L];by_cases h0:H=0
  ·refine ⟨z,.none, ?_⟩;subst h0;exact stop
  ·obtain ⟨b0,b1⟩:=nz H h0;have bd:=Aev u2 (Ahw h0);have hx:((u2 % H:Nat):Int)<(Ag z.m a).1:=by rw[L]; omega
   obtain ⟨i,Y9,C,t9,m9,x9,y9,i9⟩:=oQ (k+2) (by omega) A7 ia.1 it.1 hx b6 hL;have C:II (k+19) (tlS h1 h5 h8) [qIi a,qIi ((u2 % H:Nat):Int),qIi to] Z7_=_:=C;refine ⟨_,.store (na (.inl (by rw[L]; omega))) hx mt,i,Y9, ?_,t9,m7.trans m9,x9,y9,i9⟩;simp only[b0,By,t71,AI,am,Aaz b1,w2,Kx,C,Ah,Int.reduceBEq]
 have aq:∃ f,Tl z f/\jP ((Aj .i64 Z7_ ps 0).bind fun cv=>bif cv == 0 then some (Value.bool true,Z7_) else (CW Z7_ J.length 2).bind fun f81=>(Aj .u8 Z7_ c 2).bind fun cw=>(Aj .i64 Z7_ ps 0).bind fun bt=>if bt=0 then none else Option.bind (IH (k+19) f81 [qIi a,qIi ((Ar cw).tmod bt)] Z7_) fun D=>GV D.1 fun cx cy=>(bif cy == 0 then (B9 D.2 Y.X.I.sb 1).bind fun c6=>(Aj .i64 D.2 pp 0).bind fun cz=>(Aj .i64 D.2 pp 1).bind fun c0=>(Aj .i64 D.2 pp 2).bind fun c1=>Option.bind (Bc (k+19) c6 cz c0 c1 cx D.2) fun y=>(Bk .i64 y.1).bind fun S=>some (S == 0,y.2) else some (false,D.2)).bind fun d=>some (Value.bool d.1,d.2)) J Y (.bool true) f h1 h5 h8:=by
  simp only[Z,AI,L];by_cases h0:H=0
  ·refine ⟨z,.none, ?_⟩;subst h0;exact stop
  ·obtain ⟨b0,b1⟩:=nz H h0;have bd:=Aev u2 (Ahw h0);have hx:((u2 % H:Nat):Int)<(Ag z.m a).1:=by rw[L]; omega
   have bc:=na (.inl (by rw[L]; omega));have bk:AQ (AE z.m a ((u2 % H:Nat):Int))/\0<=AE z.m a ((u2 % H:Nat):Int):=(hR.ro hM bc (u2 % H)).elim (fun e=>by rw[e]; unfold AQ; omega) (pM ag);obtain ⟨i,Y9,C,t9,m9,x9,y9,i9⟩:=tu (k+2) (by omega) A7 ia.1 hx hL;have C:IH (k+19) (tlL h1 h8) [qIi a,qIi ((u2 % H:Nat):Int)] Z7_=_:=C;have ak:Y9.X.I.sb=Y.X.I.sb:=by rw[i9]
   obtain ⟨ad,ae,B,t10,au,a5,a6,i10⟩:=t9.go (jx (k+15) t9.y (w:=w) ah X bk.1 bk.2);have B:Bc (k+19) (F8 Y9.X.I.p) w.1 (w.2.1:Int) (w.2.2:Int) (AE z.m a ((u2 % H:Nat):Int)) i=_:=B;obtain ⟨g0,g1,g2⟩:=lP _ (F m9);have l1:=t9.y.x.su;rw[ak] at l1;refine ⟨_,.load bc hx (w:=w),ad,ae, ?_,t10,m7.trans (m9.trans au),a5.trans x9,a6.trans y9,i10.trans i9⟩;simp only[b0,By,t72,AI,am,Aaz b1,w2,Kx,C,B6,l1,g0,g1,g2,B,Ah,Int.reduceBEq,IS]
 have ap:∃ f,Tl z f/\jP ((Aj .i64 Z7_ ps 1).bind fun c2=>(bif c2 == 0 then some (true,Z7_) else (B9 Z7_ Y.X.I.sb 0).bind fun c7=>(Aj .u8 Z7_ c 2).bind fun c3=>(Aj .i64 Z7_ ps 1).bind fun bu=>if bu=0 then none else (Aj .u8 Z7_ c 3).bind fun bp=>Option.bind (DF (k+19) c7 a ((Ar c3).tmod bu) (Ar (Ar bp-100)) Z7_) fun y=>(Bk .i64 y.1).bind fun S=>some (S == 0,y.2)).bind fun d=>some (Value.bool d.1,d.2)) J Y (.bool true) f h1 h5 h8:=by
  simp only[an,AI,be];by_cases h0:nd=0
  ·refine ⟨z,.none, ?_⟩;subst h0;exact stop
  ·obtain ⟨b0,b1⟩:=nz nd h0;have bd:=Aev u2 (Ahw h0);have hx:((u2 % nd:Nat):Int)<(Ag z.m a).2.1:=by rw[be]; omega
   obtain ⟨i,Y9,C,t9,m9,x9,y9,i9⟩:=A7.go (w9 (k+12) A7.y (v:=(u3:Int)-100) ia.1 (by unfold AQ; omega) (Int.natCast_nonneg (u2 % nd)) hx (hM.yd _ _ _));have C:DF (k+19) (AU Y.X.I.i) a ((u2 % nd:Nat):Int) ((u3:Int)-100) Z7_=_:=C;refine ⟨_,.data (Int.natCast_nonneg (u2 % nd)) hx,i,Y9, ?_,t9,m7.trans m9,x9,y9,i9⟩;simp only[b0,By,A7.y.x.dU,AI,am,cb,Aaz b1,w2,w3,da,Kx,C,Ah,Int.reduceBEq]
 have ai:=A7.y.x.su;obtain ⟨sa,za,ea,aa,ga⟩:=ac to it.1 it.2 mt;obtain ⟨sb,zb,eb,ab,gb⟩:=ac 0 (by unfold AQ; omega) (by omega) (.inl rfl);have l:u0 % 9=0\/u0 % 9=1\/u0 % 9=2\/u0 % 9=3\/u0 % 9=4\/u0 % 9=5\/u0 % 9=6\/u0 % 9=7\/u0 % 9=8:=by omega
 have W:∀ n:Nat,u0 % 9=n->(u0:Int).tmod 9=(n:Int):=fun n e=>by rw[ht,e]
 rcases l with l | l | l | l | l | l | l | l | l
 ·have p:(u0:Int).tmod 9=0:=W 0 l;simp only[p,Int.reduceBEq,IS,By];exact O
 ·have p:(u0:Int).tmod 9=1:=W 1 l;simp only[p,Int.reduceBEq,IS,By];exact O
 ·have p:(u0:Int).tmod 9=2:=W 2 l;simp only[p,Int.reduceBEq,IS,By];exact P
 ·have p:(u0:Int).tmod 9=3:=W 3 l;simp only[p,Int.reduceBEq,IS,By];exact P
 ·have p:(u0:Int).tmod 9=4:=W 4 l;simp only[p,Int.reduceBEq,IS,By];refine ⟨za,aa, ?_⟩;simp only[ai,aw,ax,ay,AI,ea,Ah,Ad1];exact ga
 ·have p:(u0:Int).tmod 9=5:=W 5 l;simp only[p,Int.reduceBEq,IS,By];refine ⟨zb,ab, ?_⟩;simp only[ai,aw,ax,ay,AI,eb,Ah,Ad1];exact gb
 ·have p:(u0:Int).tmod 9=6:=W 6 l;simp only[p,Int.reduceBEq,IS,By];refine ⟨zb,ab, ?_⟩;simp only[ai,aw,ax,ay,AI,eb,Ah,Ad1];exact gb
 ·have p:(u0:Int).tmod 9=7:=W 7 l;simp only[p,Int.reduceBEq,IS,By];exact aq
 ·have p:(u0:Int).tmod 9=8:=W 8 l;simp only[p,Int.reduceBEq,IS,By];exact ap
end
section
variable {J:Aa} {j j':RI} {m m':HM} {t t':RM} {q q':QI} {r:D4} {o o':RO} {p p':Bx × Bx} {st:Bx} {l:List Int}
theorem X0 (k:Nat) (b:5000<=k) (h:RG J j m t) (a:Int):DB (k+5) (Bj j) a J=some (qIi (B7 m a),J):=by
 rw[Ym];simp only[sU k b h a,AI];unfold B7;split
 ·simp only[B6]
 ·simp only[B6]
theorem pf (k:Nat) (h:F7 J q r) {z:Int × Nat × Nat} (hp:Oq r z.1 z.2.1 z.2.2):∃ τ,EJ (k+2) (GS q) z.1 (z.2.1:Int) (z.2.2:Int) J=some (.tuple #[qIi (CH r z),qIi 0],J++τ):=by
 obtain ⟨B,a⟩:∃ B,Au.cells [qIi z.1,qIi (z.2.1:Int),qIi (z.2.2:Int)] Am true=B:=⟨_,rfl⟩;have ld:∀ τ,Aj .i64 (J++[B]++τ) J.length 0=some z.1/\Aj .i64 (J++[B]++τ) J.length (0+1)=some (z.2.1:Int)/\Aj .i64 (J++[B]++τ) J.length (0+1+1)=some (z.2.2:Int):=fun τ=>by
  have:(J++[B]++τ)[J.length]?=some B:=by rw[AT (by simp),Ab5]
  simp[Aj,CW,this,<- a,Bk]
 have h1:=h.app [B];have c:=qo k h1 hp;rw[a] at c;have d:=iU k (h1.app [B]) hp;rw[a] at d;have b:=ld [];rw[Ab1] at b;refine ⟨[B]++[B]++[B], ?_⟩;rw[TO];simp only[Ae,a,NN k h1,AI,An,Aa4,By,b.1,b.2.1,b.2.2,c,(ld [B]).1,(ld [B]).2.1,(ld [B]).2.2,d,Ah];simp only[Aaq]
theorem zS (k:Nat) (F:5000<=k) (C:RG J j' m' t') (c:D2 J p.1 o.refs) (f:D2 J p'.1 o'.refs) (D:Bf J st l) (K:l.length<=4000) {x:Nat} (L:x<o.refs.length) (G:x<o'.refs.length)
  (E:(x=0/\(o.k=1\/o.k=2)/\o.refs.getD 0 0 ∉ l)\/(x=1/\o.k=2/\B7 m' (o'.refs.getD 0 0)=0)):
  ∃ τ,NF (k+6) (Bj j) (Bj j') o.addr o.id o.r o.d o.k (p.1.1,p.1.2.1,p.1.2.2) (p.2.1,p.2.2.1,p.2.2.2) o.W2 o'.addr o'.id o'.r o'.d o'.k (p'.1.1,p'.1.2.1,p'.1.2.2) (p'.2.1,p'.2.2.1,p'.2.2.2) o'.W2 (x:Int) (st.1,st.2.1,st.2.2) J=some (.bool true,J++τ):=by
 obtain ⟨A,t⟩:∃ A,Au.cells (Bw o p) Ab true=A:=⟨_,rfl⟩;obtain ⟨a,e⟩:∃ a,Au.cells (Bw o' p') Ab true=a:=⟨_,rfl⟩;have w:Au.cells [qIi o.addr,qIi o.id,qIi o.r,qIi o.d,qIi o.k,.slice p.1.1 p.1.2.1 p.1.2.2,.slice p.2.1 p.2.2.1 p.2.2.2,.bool o.W2] Ab true=A:=t;have y:Au.cells [qIi o'.addr,qIi o'.id,qIi o'.r,qIi o'.d,qIi o'.k,.slice p'.1.1 p'.1.2.1 p'.1.2.2,.slice p'.2.1 p'.2.2.1 p'.2.2.2,.bool o'.W2] Ab true=a:=e;have z:He (J++[A]++[a]) J.length o p:=by unfold He; rw[AT (by simp),Ab5,t]
 have B:He (J++[A]++[a]) (J++[A]).length o' p':=by unfold He; rw[Ab5,e]
 obtain ⟨U,V,W,X,n,q,Y,Z⟩:=z.ld;obtain ⟨M,N,O,P,Q,v,S,T⟩:=B.ld;have d:=oZ (k+3) ((D.app [A]).app [a]) (by omega) (by omega) (o.refs.getD 0 0);have d:I0 (k+5) (st.1,st.2.1,st.2.2) (o.refs.getD 0 0) (J++[A]++[a])=_:=d;have r:=X0 k F ((C.app [A]).app [a]) (o'.refs.getD 0 0);have c:=(c.app [A]).app [a];have f:=(f.app [A]).app [a];have m:(0<=(0:Int)/\(0:Int)<((o.refs.length:Nat):Int))=True:=Adu (by omega);have u:(0<=(0:Int)/\(0:Int)<((o'.refs.length:Nat):Int))=True:=Adu (by omega);obtain ⟨H,f1,i,_⟩:=c.qa (x:=0) (by omega);obtain ⟨I,f2,s,_⟩:=f.qa (x:=0) (by omega);have t0:(0:Int).toNat*1=0:=rfl;refine ⟨[A]++[a], ?_⟩;rw[bQ];simp only[Ae,w,y];simp only[IN,Nat.reduceAdd,n,q,v,AI,c.1,f.1,m,u,Aat,f1,f2,t0,Aa0,i,s,d,r,Ah,An];rcases E with ⟨rfl,b,g⟩ | ⟨rfl,b,g⟩
 ·rw[show (((0:Nat):Int) == 0)=true from rfl];simp only[IS];rcases b with h | h
  ·simp only[h,Int.reduceBEq,IS,AI,Aaj g,Adi,q,c.1,m,Aat,f1,t0,Aa0,i,d,An];simp only[Aaq]
  ·simp only[h,Int.reduceBEq,IS,By,AI,Aaj g,Adi,n,q,c.1,m,Aat,f1,t0,Aa0,i,d,An];simp only[Aaq]
 ·rw[show (((1:Nat):Int) == 0)=false from rfl,show (((1:Nat):Int) == 1)=true from rfl];simp only[IS,By,AI,b,Int.reduceBEq,g,n,v,f.1,u,Aat,f2,t0,Aa0,s,r,Ah];simp only[Aaq]
theorem VU (k:Nat) (w:5000<=k) (y:l.length<=4000) (u:o'.refs.length=o.refs.length) (r:o.refs.length<=1000) {h5 h6:Nat} {s:Bx}
  (v:∀ x,x<o.refs.length->B7 m (o.refs.getD x 0)=B7 m' (o'.refs.getD x 0)\/(B7 m' (o'.refs.getD x 0)=0/\((x=0/\(o.k=1\/o.k=2)/\o.refs.getD 0 0 ∉ l)\/(x=1/\o.k=2/\B7 m' (o'.refs.getD 0 0)=0)))):
  ∀ (n x f:Nat) (J:Aa),RG J j m t->RG J j' m' t'->Bf J st l->He J h5 o p->He J h6 o' p'->D2 J p.1 o.refs->D2 J p'.1 o'.refs->x+n=o.refs.length->n<f ->
  ∃ τ,Hc (k+6) f (Bj j) (Bj j') st.1 st.2.1 st.2.2 h5 h6 (s.1,s.2.1,s.2.2) (x:Int) J=some (.exit 2,[.slice s.1 s.2.1 s.2.2],J++τ)
 | n,x,0,J,g,i,q,b,d,a,c,B,A=>by omega
 | 0,x,f+1,J,g,i,q,b,d,a,c,B,A=>by
   obtain ⟨C,D,E,F,G,z,H,I⟩:=b.ld;rw[OX];exact ⟨[],by simp only[IN,z,AI,a.1,dFu x o.refs.length (by omega),By,Ab1]⟩
 | n+1,x,f+1,J,g,i,q,b,d,a,c,B,A=>by
   have h:x<o.refs.length:=by omega
   obtain ⟨C,D,E,F,G,z,H,I⟩:=b.ld;obtain ⟨S,T,U,V,W,X,Y,Z⟩:=d.ld;have N:=qSu x o.refs.length (by omega);have Q:=wSu x (by omega);obtain ⟨c1,f1,O,_⟩:=a.qa (x:=x) h;obtain ⟨c2,f2,P,_⟩:=c.qa (x:=x) (by omega);have L:=X0 (k+1) (by omega) g (o.refs.getD x 0);have M:=X0 (k+1) (by omega) i (o'.refs.getD x 0);rw[OX];simp only[IN,Aa0,Nat.reduceAdd,C,D,E,F,G,z,H,I,S,T,U,V,W,X,Y,Z,AI,a.1,c.1,u,dTu x o.refs.length (by omega),IS,N,Aat,f1,f2,IT,Acg,O,P,L,M,Ah,Q];by_cases he:B7 m (o.refs.getD x 0)=B7 m' (o'.refs.getD x 0)
   ·obtain ⟨τ,e⟩:=VU k w y u r v n (x+1) f J g i q b d a c (by omega) (by omega);refine ⟨τ, ?_⟩;rw[Aei.2 he];simp only[IS,AI];exact e
   ·obtain ⟨h0,hm⟩:=(v x h).resolve_left he;have em:=zS (j:=j) (k:=k) w i a c q y h (by omega) hm;obtain ⟨K,em⟩:=em;rw[a.1,c.1,f1,f2,u] at em;obtain ⟨τ,e⟩:=VU (s:=s) k w y u r v n (x+1) f (J++K) (g.app _) (i.app _) (q.app _) (by unfold He at b ⊢; rw[AT (Af b)]; exact b) (by unfold He at d ⊢; rw[AT (Af d)]; exact d) (a.app _) (c.app _) (by omega) (by omega);refine ⟨K++τ, ?_⟩;rw[Ach.2 he,h0];simp only[By,IS,Int.reduceBEq,em,AI,An,<- Aaq];exact e
theorem aL (k:Nat) {h5 h6:Nat} {s:Bx} (hd:o'.data=o.data) (g:o.data.length<=1000) (d:He J h5 o p) (i:He J h6 o' p') (b:D2 J p.2 o.data) (c:D2 J p'.2 o'.data):∀ (n x f:Nat),x+n=o.data.length->n<f ->
  Ij k f h5 h6 (s.1,s.2.1,s.2.2) (x:Int) J=some (.exit 4,[.slice s.1 s.2.1 s.2.2],J)
 | n,x,0,l,j=>by omega
 | 0,x,f+1,l,j=>by
   obtain ⟨v,w,y,z,A,B,h,C⟩:=d.ld;rw[OY];simp only[IN,h,AI,b.1,dFu x o.data.length (by omega),By]
 | n+1,x,f+1,l,j=>by
   have a:x<o.data.length:=by omega
   obtain ⟨v,w,y,z,A,B,h,C⟩:=d.ld;obtain ⟨F,G,H,I,K,L,u,M⟩:=i.ld;have m:=qSu x o.data.length (by omega);have t:=wSu x (by omega);rw[hd] at c;obtain ⟨D,f1,q,_⟩:=b.qa (x:=x) a;obtain ⟨E,f2,r,_⟩:=c.qa (x:=x) a;have e:=aL k (s:=s) hd g d i b (by rw[hd]; exact c) n (x+1) f (by omega) (by omega);rw[OY];simp only[IN,Aa0,Nat.reduceAdd,h,u,AI,b.1,c.1,dTu x o.data.length (by omega),IS,m,Aat,f1,f2,IT,Acg,q,r,Abx,By,Rp,t,e]
structure tU (m m':HM) (l:List Int) (v:Int):Prop where
 has:Aw m v=true
 has':Aw m' v=true
 idn:B7 m' v=B7 m v
 shp:Ag m' v=Ag m v
 uF:∀ y,Ms m' v y true=Ms m v y true
 ref:∀ x:Nat,B7 m (AE m v x)=B7 m' (AE m' v x)\/(B7 m' (AE m' v x)=0/\((x=0/\((Ag m v).2.2=1\/(Ag m v).2.2=2)/\AE m v 0 ∉ l)\/(x=1/\(Ag m v).2.2=2/\B7 m' (AE m' v 0)=0)))
theorem aK (k:Nat) (hk:6000<=k) (hl:l.length<=4000) {s:Bx} (hc:∀ v ∈ l,tU m m' l v):∀ (n x f:Nat) (J:Aa),RG J j m t->RG J j' m' t'->Bf J st l->x+n=l.length->n<f ->
  ∃ τ,EY (k+6) f (Bj j) (Bj j') st.1 st.2.1 st.2.2 (s.1,s.2.1,s.2.2) (x:Int) J=some (.exit 0,[.slice s.1 s.2.1 s.2.2],J++τ)
 | n,x,0,J,g,q,B,U,T=>by omega
 | 0,x,f+1,J,g,q,B,U,T=>by
   have T:=B.form;have f1:st.2.1=l.length:=by rw[T]
   rw[OW];exact ⟨[],by simp only[f1,dFu x l.length (by omega),By,Ab1]⟩
 | n+1,x,f+1,J,g,q,B,U,T=>by
   have ag:=B.form;have f1:st.2.1=l.length:=by rw[ag]
   have qx:=qSu x l.length (by omega);have w1:=wSu x (by omega);obtain ⟨b,eb,l1,_⟩:=B.ld (x:=x) (by omega);have L:l.getD x 0 ∈ l:=by rw[Aax,Aau (by omega)]; exact Adb _
   have P:=hc _ L;generalize hv:l.getD x 0=v at *;obtain ⟨y,jj,bo,z,F⟩:=g.found P.has;obtain ⟨V,h,an,i,w⟩:=q.found P.has';have ae:h=jj:=by have:=F.e; have:=w.e; omega
   subst ae;have p:=F.e;have ei:Ay (k+6) (Bj j) v J=some (qIi (y:Int),J):=by rw[<- F.idx]; exact LF (k+4) (by omega) g v
   have qy:(0<=(y:Int)/\(y:Int)<((t.ob.length:Nat):Int))=True:=Adu (by have:=F.xl; omega);have aj:(0<=(V:Int)/\(V:Int)<((t'.ob.length:Nat):Int))=True:=Adu (by have:=w.xl; omega);obtain ⟨A,hA⟩:∃ A,Au.cells (Bw (AR m h) z) Ab true=A:=⟨_,rfl⟩;obtain ⟨o,E⟩:∃ o,Au.cells (Bw (AR m' h) i) Ab true=o:=⟨_,rfl⟩;have sa:∀ Z:Aa,H5 (Z++[Au.cells [qIi 0,qIi 0,qIi 0,qIi 0,qIi 0,.slice none 0 0,.slice none 0 0,.bool false] Ab true]) Z.length 0 [qIi (AR m h).addr,qIi (AR m h).id,qIi (AR m h).r,qIi (AR m h).d,qIi (AR m h).k,.slice z.1.1 z.1.2.1 z.1.2.2,.slice z.2.1 z.2.2.1 z.2.2.2,.bool (AR m h).W2]=some (Z++[A]):=fun Z=>by
    rw[<- hA]; exact XC _ _ _ _ _ _ _ _ _ _ _ _ _ _ _ _ _ _
   have Q:∀ Z:Aa,H5 (Z++[Au.cells [qIi 0,qIi 0,qIi 0,qIi 0,qIi 0,.slice none 0 0,.slice none 0 0,.bool false] Ab true]) Z.length 0 [qIi (AR m' h).addr,qIi (AR m' h).id,qIi (AR m' h).r,qIi (AR m' h).d,qIi (AR m' h).k,.slice i.1.1 i.1.2.1 i.1.2.2,.slice i.2.1 i.2.2.1 i.2.2.2,.bool (AR m' h).W2]=some (Z++[o]):=fun Z=>by
    rw[<- E]; exact XC _ _ _ _ _ _ _ _ _ _ _ _ _ _ _ _ _ _
   have S:He (J++[A]) J.length (AR m h) z:=by unfold He; rw[Ab5,hA]
   have r:He (J++[A]++[o]) J.length (AR m h) z:=by unfold He at S ⊢; rw[AT (Af S)]; exact S
   have D:He (J++[A]++[o]) (J++[A]).length (AR m' h) i:=by unfold He; rw[Ab5,E]
   obtain ⟨z0,z1,z2,z3,z4,z5,z6,z7⟩:=S.ld;obtain ⟨x0,x1,x2,x3,x4,x5,x6,x7⟩:=r.ld;obtain ⟨y0,y1,y2,y3,y4,y5,y6,y7⟩:=D.ld;have I:(AR m h).id=(AR m' h).id:=by
    have:=P.idn;unfold B7 at this;rw[Aay P.has,Aay P.has',p,IT] at this;exact this.symm
   have u:=Aab (k+4) (by omega) (q.app [A]) (AR m h).id;rw[I,show getM m'.pl (AR m' h).id=some ((2*h:Nat):Int) from (q.inv.idn h w.st).2.2] at u;rw[<- I] at u;have u:Ig (k+6) (Bj j') (AR m h).id (J++[A])=some (.tuple #[qIi ((2*h:Nat):Int),qIi 0],J++[A]):=u;obtain ⟨am,d,ap,O,F2⟩:=(q.app [A]).found P.has';have ad:Ay (k+6) (Bj j') ((2*h:Nat):Int) (J++[A])=some (qIi (V:Int),J++[A]):=by rw[<- w.idx,<- p]; exact LF (k+4) (by omega) (q.app [A]) v
   have aa:am=V:=by have:=F2.idx; have:=w.idx; omega
   subst aa;have ab:O=i:=by have a:=F2.om; have b:=w.om; rw[a] at b; exact Aej b
   subst ab;have ac:d=h:=by have:=F2.e; omega
   subst ac;have M:Ag m v=((AR m d).r,(AR m d).d,(AR m d).k):=by rw[p,F6 F.st]; rfl
   have N:Ag m' v=((AR m' d).r,(AR m' d).d,(AR m' d).k):=by rw[p,F6 w.st]; rfl
   have hs:=P.shp;rw[M,N] at hs;have s1:(AR m' d).r=(AR m d).r:=Aec (·.1) hs;have s2:(AR m' d).d=(AR m d).d:=Aec (·.2.1) hs;have s3:(AR m' d).k=(AR m d).k:=Aec (·.2.2) hs;simp only[s1,s2,s3] at Q;obtain ⟨_,w2,w3,w4,w5,_⟩:=Nc g.inv F.st;have ah:(AR m d).refs.length=(Av m d).toNat:=by show (KM m _ _).length=_; rw[DH]
   have K:(AR m' d).refs.length=(Av m' d).toNat:=by show (KM m' _ _).length=_; rw[DH]
   have aq:(AR m d).data.length=(Bp m d).toNat:=by show (KM m _ _).length=_; rw[DH]
   have ak:Av m' d=Av m d:=s1;have ai:(AR m' d).refs.length=(AR m d).refs.length:=by rw[ah,K,ak]
   have af:(AR m' d).data=(AR m d).data:=by
    show KM m' _ _=KM m _ _;rw[<- dA g.inv F.st,<- dA q.inv w.st,show Bp m' d=Bp m d from s2];refine Agy fun x _=>?_;have:=P.uF (x:Int);rw[p] at this; exact this
   have G:=(g.app [A]).app [o];have G':=(q.app [A]).app [o];have H:=(B.app [A]).app [o];have R1:=(F.rs.app [A]).app [o];have R2:=F2.rs.app [o];obtain ⟨C,Y⟩:=VU (s:=s) k (by omega) hl ai (by omega) (fun x U=>by
    have q1:=KT g.inv F.st U;have q2:=KT q.inv w.st (y:=x) (by omega);rw[<- p] at q1 q2;rw[q1.1,q2.1];refine (P.ref x).imp id fun ⟨h0,hh⟩=>⟨h0, ?_⟩;rw[M] at hh;refine hh.imp (fun ⟨a,b,c⟩=>⟨a,b, ?_⟩) fun ⟨a,b,c⟩=>⟨a,b, ?_⟩
    ·have:=KT g.inv F.st (y:=0) (by omega);rw[<- p] at this;rw[this.1]; exact c
    ·have:=KT q.inv w.st (y:=0) (by omega);rw[<- p] at this;rw[this.1]; exact c) (AR m d).refs.length 0 (k+6) (J++[A]++[o]) G G' H r D R1 R2 (by omega) (by omega);have W:He (J++[A]++[o]++C) J.length (AR m d) z:=by unfold He at r ⊢; rw[AT (Af r)]; exact r
   have X:He (J++[A]++[o]++C) (J++[A]).length (AR m' d) O:=by unfold He at D ⊢; rw[AT (Af D)]; exact D
   have e2:=aL (s:=s) (k+6) af (by omega) W X (((F.ds.app [A]).app [o]).app C) ((F2.ds.app [o]).app C) (AR m d).data.length 0 (k+6) (by omega) (by omega);rw[show ((0:Nat):Int)=0 from rfl] at Y e2;obtain ⟨τ,e⟩:=aK k hk hl (s:=s) hc n (x+1) f (J++[A]++[o]++C) (G.app _) (G'.app _) (H.app _) (by omega) (by omega);refine ⟨[A]++[o]++C++τ, ?_⟩;rw[eb,f1] at e Y;rw[OW];simp only[f1,dTu x l.length (by omega),IS,IN,Nat.reduceAdd,g.at_.Fa,AI,qx,Aat,eb,IT,Acg,l1,ei,Ah,qy,F.os,Ad3,F.ld.l0,F.ld.l1,F.ld.l2,F.ld.l3,F.ld.l4,F.ld.l5,F.ld.l6,F.ld.l7,Ae,sa,z1,u,B6,Abx,By,(q.app [A]).at_.Fa,ad,aj,F2.os,F2.ld.l0,F2.ld.l1,F2.ld.l2,F2.ld.l3,F2.ld.l4,F2.ld.l5,F2.ld.l6,F2.ld.l7,Q,y2,y3,y4,x2,x3,x4,s1,s2,s3,Abo,Ad1,Aa4,Y,Rp,e2,w1,e];simp only[Aaq]
theorem VV (k:Nat) (E:6000<=k) {ps:List (Int × Nat × Nat)} {sl s:Bx} (C:∀ z ∈ ps,Oq r z.1 z.2.1 z.2.2/\(B7 m (CH r z)=0\/B7 m' (CH r z)=B7 m (CH r z))) (l:ps.length<=500):∀ (n x f:Nat) (J:Aa),RG J j m t->RG J j' m' t'->F7 J q r->F7 J q' r->BR J sl ps->x+n=ps.length->n<f ->
  ∃ τ,Gf (k+6) f (Bj j) (GS q) (Bj j') (GS q') sl.1 sl.2.1 sl.2.2 (s.1,s.2.1,s.2.2) (x:Int) J=some (.exit 6,[.slice s.1 s.2.1 s.2.2],J++τ)
 | n,x,0,J,g,i,o,c,d,F,D=>by omega
 | 0,x,f+1,J,g,i,o,c,d,F,D=>by
   have B:=Ct.form d;have f1:sl.2.1=ps.length:=by rw[B]
   rw[OZ];exact ⟨[],by simp only[f1,dFu x ps.length (by omega),By,Ab1]⟩
 | n+1,x,f+1,J,g,i,o,c,d,F,D=>by
   have B:=Ct.form d;have f1:sl.2.1=ps.length:=by rw[B]
   have p:x<ps.length:=by omega
   have L:=qSu x ps.length (by omega);have M:=wSu x (by omega);obtain ⟨b,e,G,H,I,hb⟩:=BR.ld d p;obtain ⟨K,Q⟩:=C _ (Adb p);generalize ps[x]=z at *;obtain ⟨a,v⟩:=pf (k+4) o K;have v:EJ (k+6) (GS q) z.1 (z.2.1:Int) (z.2.2:Int) J=_:=v;have w:=X0 (k+1) (by omega) (g.app a) (CH r z);have w:DB (k+6) (Bj j) (CH r z) (J++a)=_:=w;have N:Aj .i64 (J++a) b (x*3)=some z.1:=by rw[HP _ _ _ hb]; exact G
   have O:Aj .i64 (J++a) b (x*3+1)=some (z.2.1:Int):=by rw[HP _ _ _ hb]; exact H
   have P:Aj .i64 (J++a) b (x*3+2)=some (z.2.2:Int):=by rw[HP _ _ _ hb]; exact I
   rw[OZ];simp only[f1,dTu x ps.length (by omega),IS,L,Aat,e,AI,IT,IN,Ad3,Nat.reduceAdd,G,H,I,v,B6,w,Ah,M];by_cases h0:B7 m (CH r z)=0
   ·obtain ⟨τ,h⟩:=VV (s:=s) k E C l n (x+1) f (J++a) (g.app _) (i.app _) (o.app _) (c.app _) (BR.app d _) (by omega) (by omega);rw[e,f1] at h;refine ⟨a++τ, ?_⟩;simp only[h0,Ad1,IS,h];simp only[Aaq]
   ·have h1:=Q.resolve_left h0;obtain ⟨u,y⟩:=pf (k+4) (c.app a) K;have y:EJ (k+6) (GS q') z.1 (z.2.1:Int) (z.2.2:Int) (J++a)=_:=y;have A:=X0 (k+1) (by omega) ((i.app a).app u) (CH r z);have A:DB (k+6) (Bj j') (CH r z) (J++a++u)=_:=A;obtain ⟨τ,h⟩:=VV (s:=s) k E C l n (x+1) f (J++a++u) ((g.app _).app _) ((i.app _).app _) ((o.app _).app _) ((c.app _).app _) (BR.app (BR.app d _) _) (by omega) (by omega);rw[e,f1] at h;refine ⟨a++(u++τ), ?_⟩;rw[Ach.2 h0];simp only[By,N,O,P,AI,y,B6,Abx,A,Ah,h1,Aat,Rp,h];simp only[Aaq]
theorem wT (k:Nat) (O:9000<=k) (g:RG J j m t) (u:RG J j' m' t') (h:F7 J q r) (f:F7 J q' r) (w:(AW r).length<=4000) (L:(NZ m (AW r)).length<=4000) (K:∀ v ∈ NZ m (AW r),tU m m' (NZ m (AW r)) v)
  (M:∀ z ∈ EN r,Oq r z.1 z.2.1 z.2.2/\(B7 m (CH r z)=0\/B7 m' (CH r z)=B7 m (CH r z))) (x:(EN r).length<=500):
  ∃ a τ,JA (k+10) (Bj j) (GS q) (Bj j') (GS q') J=some (.tuple #[.slice a 0 0,qIi 0],J++τ):=by
 obtain ⟨B,I⟩:∃ B,Au.cells [] XH true=B:=⟨_,rfl⟩;have E:Az (k+9) (Bj j) J=_:=LJ (k+8) g;have F:Az (k+9) (Bj j') J=_:=LJ (k+8) u;have G:AZ (k+9) (GS q) J=_:=NN (k+8) h;have H:AZ (k+9) (GS q') J=_:=NN (k+8) f;obtain ⟨s1,b,i,y,_⟩:=XN (k+6) (by omega) (h.app [B]);have i:BO (k+9) (GS q) (J++[B])=_:=i;obtain ⟨s2,c,l,A⟩:=jM (k+2) (by omega) ((g.app [B]).app b) y w;have l:GJ (k+9) (Bj j) (s1.1,s1.2.1,s1.2.2) true (J++[B]++b)=_:=l;obtain ⟨d,n⟩:=aK (s:=(some ⟨J.length,0,some 0⟩,0,0)) (k+3) (by omega) L K (NZ m (AW r)).length 0 (k+9) (J++[B]++b++c) (((g.app [B]).app b).app c) (((u.app [B]).app b).app c) A.li (by omega) (by omega);have n:EY (k+9) (k+9) (Bj j) (Bj j') s2.1 s2.2.1 s2.2.2 (some ⟨J.length,0,some 0⟩,0,0) 0 (J++[B]++b++c)=_:=n;obtain ⟨D,e,o,C,_⟩:=aU (k+7) (by omega) ((((h.app [B]).app b).app c).app d);have o:Dq (k+9) (GS q) (J++[B]++b++c++d)=_:=o;obtain ⟨N,p⟩:=VV (s:=(some ⟨J.length,0,some 0⟩,0,0)) (k+3) (by omega) M x (EN r).length 0 (k+9) (J++[B]++b++c++d++e) (((((g.app [B]).app b).app c).app d).app e) (((((u.app [B]).app b).app c).app d).app e) (((((h.app [B]).app b).app c).app d).app e) (((((f.app [B]).app b).app c).app d).app e) C (by omega) (by omega);have p:Gf (k+9) (k+9) (Bj j) (GS q) (Bj j') (GS q') D.1 D.2.1 D.2.2 (some ⟨J.length,0,some 0⟩,0,0) 0 (J++[B]++b++c++d++e)=_:=p;refine ⟨some ⟨J.length,0,some 0⟩,[B]++b++c++d++e++N, ?_⟩;rw[ZT];simp only[E,F,G,H,AI,An,Aa4,By,Ae,I,i,dM,l,n,Aat,Rp,o,p];simp only[Aaq]
theorem Zh (k:Nat) (i:5000<=k) (g:RG J j m t) {sl:Bx} (h:Bf J sl l) (r:l.length<=4000) (c:∀ v ∈ l,Aw m v=true):∀ (n x f:Nat),x+n=l.length->n<f ->
  G1 (k+3) f (Bj j) sl.1 sl.2.1 sl.2.2 (x:Int) J=some (.exit 0,[],J)
 | n,x,0,o,d=>by omega
 | 0,x,f+1,o,d=>by
   have a:=h.form;have f1:sl.2.1=l.length:=by rw[a]
   rw[Od];simp only[f1,dFu x l.length (by omega),By]
 | n+1,x,f+1,o,d=>by
   have a:=h.form;have f1:sl.2.1=l.length:=by rw[a]
   have u:=qSu x l.length (by omega);have w:=wSu x (by omega);obtain ⟨b,e,s,_⟩:=h.ld (x:=x) (by omega);have q:=c _ (O7 (show x<l.length by omega));have p:=Zh k i g h r c n (x+1) f (by omega) (by omega);rw[f1,e] at p;rw[Od];simp only[f1,dTu x l.length (by omega),IS,u,Aat,e,AI,IT,Acg,IN,s,aw k i g,q,An,Aa4,By,w,p]
theorem RG.Ac6 (g:RG J j m t) {x:Nat} (c:x<t.ob.length):∃ b a p,j.os.1=some ⟨b,0,none⟩/\Start m a/\tS J b x (AR m a) p/\D2 J p.1 (AR m a).refs:=by
 obtain ⟨h,i,_,f⟩:=g.at_.obj c;have d:x<j.om.length:=by rw[g.at_.ol]; exact c
 have hm:t.ob[x] ∈ (FA m).map (AR m):=by
  show _ ∈ Gr m;rw[<- g.sim.ob]; exact Adb c
 obtain ⟨a,l,k⟩:=Aeb.1 hm;have L:=f d;have e:=(g.at_.inn x c d).1;rw[<- k] at L e;exact ⟨h,a,_,i,DS.1 l,L,e⟩
theorem Zj (k:Nat) (r:5000<=k) (g:RG J j m t) (h0:Aw m 0=false) (s:XO m) {x b:Nat} {d:Nat} (z:x<t.ob.length) (l:j.os.1=some ⟨b,0,none⟩) (hs:Start m d) (L:tS J b x (AR m d) p) (i:D2 J p.1 (AR m d).refs):∀ (n y f:Nat),y+n=(AR m d).refs.length->n<f ->
  H3 (k+3) f (Bj j) (x:Int) (y:Int) J=some (.exit 4,[],J)
 | n,y,0,u,q=>by omega
 | 0,y,f+1,u,q=>by
   have o:=qSu x t.ob.length (by omega);rw[Of];simp only[IN,Aa0,g.at_.Fa,AI,o,Aat,l,IT,L.l5,i.1,dFu y ((AR m d).refs.length) (by omega),By]
 | n+1,y,f+1,u,q=>by
   have o:=qSu x t.ob.length (by omega);have A:=qSu y ((AR m d).refs.length) (by omega);have w:(AR m d).refs.length=(Av m d).toNat:=by show (KM m _ _).length=_; rw[DH]
   obtain ⟨_,a,D,_⟩:=Nc g.inv hs;have C:=wSu y (by omega);obtain ⟨c,f1,B,_⟩:=i.qa (x:=y) (by omega);have v:=Zj k r g h0 s z l hs L i n (y+1) f (by omega) (by omega);have h:=s ((2*d:Nat):Int) (EI hs) y;rw[<- (KT g.inv hs (y:=y) (by omega)).1] at h;rw[Of];simp only[IN,Aa0,g.at_.Fa,AI,o,Aat,l,IT,L.l5,i.1,dTu y ((AR m d).refs.length) (by omega),IS,A,f1,Acg,B,C];rcases h with h | h
   ·rw[h];simp only[Abx,By,AI,v]
   ·have:((AR m d).refs.getD y 0 != 0)=true:=Adz.2 fun e=>by rw[e,h0] at h; cases h
    simp only[this,IS,aw k r g,h,AI,An,Aa4,By,v]
theorem Zi (k:Nat) (h:5000<=k) (g:RG J j m t) (h0:Aw m 0=false) (i:XO m):∀ (n x f:Nat),x+n=t.ob.length->n<f ->
  G2 (k+3) f (Bj j) (x:Int) J=some (.exit 2,[],J)
 | n,x,0,l,e=>by omega
 | 0,x,f+1,l,e=>by
   rw[Oe];simp only[AI,IN,Aa0,g.at_.Fa,dFu x t.ob.length (by omega),By]
 | n+1,x,f+1,l,e=>by
   have r:=g.ol;have v:=wSu x (by omega);obtain ⟨b,c,p,o,hs,L,u⟩:=g.Ac6 (x:=x) (by omega);have q:(AR m c).refs.length=(Av m c).toNat:=by show (KM m _ _).length=_; rw[DH]
   obtain ⟨_,a,w,y,z,_⟩:=Nc g.inv hs;have d:=Zj k h g h0 i (by omega) o hs L u (AR m c).refs.length 0 (k+3) (by omega) (by omega);rw[show ((0:Nat):Int)=0 from rfl] at d;have s:=Zi k h g h0 i n (x+1) f (by omega) (by omega);rw[Oe];simp only[AI,IN,Aa0,g.at_.Fa,dTu x t.ob.length (by omega),IS,d,Aat,v,s]
theorem uc (k:Nat) (s:9000<=k) (g:RG J j m t) (o:F7 J q r) (h0:Aw m 0=false) (p:XO m) (e:Mw m r) (f:(AW r).length<=4000):∃ τ,Ht (k+6) (Bj j) (GS q) J=some (.bool true,J++τ):=by
 obtain ⟨s1,a,b,h,_⟩:=XN (k+1) (by omega) o;have b:BO (k+4) (GS q) J=_:=b;have i:=g.app a;have n:=g.ol;have c:=Zh (k+1) (by omega) i h f (fun v l=>(e v (Jt.1 l).1).resolve_left (Jt.1 l).2) (AW r).length 0 (k+4) (by omega) (by omega);have c:G1 (k+4) (k+4) (Bj j) s1.1 s1.2.1 s1.2.2 0 (J++a)=_:=c;have d:=Zi (k+1) (by omega) i h0 p t.ob.length 0 (k+4) (by omega) (by omega);have d:G2 (k+4) (k+4) (Bj j) 0 (J++a)=_:=d;refine ⟨a, ?_⟩;rw[Yl,Yh];simp only[b,AI,dM,c,Aat,d,An]
theorem id0 (a:MK m):B7 m 0=0:=by unfold B7; rw[xL a]; rfl
theorem Rel.pair (h:Rel (· ∈ E9 m r) m m') (i:MK m) (f:MK m') {v:Int} (j:v ∈ E9 m r):tU m m' (E9 m r) v:=by
 obtain ⟨a,b,c,d,e⟩:=h v j;refine ⟨((E8 i r).1 j).has,a,c,b,d,fun x=>?_⟩;rcases e x with ⟨g,h0⟩ | ⟨g,h0⟩
 ·left;rw[g];rcases h0 with h0 | ⟨_,h0⟩
  ·rw[h0,id0 i,id0 f]
  ·exact h0.symm
 ·right;exact ⟨by rw[g,id0 f],h0.imp id fun ⟨k,l,n⟩=>⟨k,l,by rw[n,id0 f]⟩⟩
theorem Rel.places (h:Rel (· ∈ E9 m r) m m') (b:MK m) (e:r.ok):∀ z ∈ EN r,Oq r z.1 z.2.1 z.2.2/\(B7 m (CH r z)=0\/B7 m' (CH r z)=B7 m (CH r z)):=fun z c=>by
 refine ⟨(Se e c).1, ?_⟩;by_cases a:Aw m (CH r z)=true
 ·right;have d:CH r z ∈ AW r:=by
   rw[<- Xo,Y5];exact .inr ⟨Aeb.2 ⟨z,c,rfl⟩,Nx b a⟩
  exact (h _ ((E8 b r).2 (.root d a))).2.2.1
 ·left;unfold B7;rw[Aaz a]
end
section
variable {K:Int->Prop}
def jR (m:HM) (r:D4) (s:TC):Prop:=∃ J i p c,Li J i p c m r s
theorem jR.unit {m:HM} {r:D4} {s:TC} (h:jR m r s):jR (FU m r s).1 r (FU m r s).2:=by
 obtain ⟨J,i,p,c,T⟩:=h;obtain ⟨J',b,_,a,_⟩:=jv 5000 (Aa1 _) T;exact ⟨J',i,p,b,a⟩
def Whole (K:Int->Prop) (m:HM):Prop:=∀ a,K a->Aw m a=true /\ ∀ x:Nat,AE m a (x:Int)=0\/Aw m (AE m a (x:Int))=true
theorem Rel.whole {m m':HM} (h:Rel K m m'):Whole K m':=fun a d=>by
 obtain ⟨h1,_,_,_,b⟩:=h a d;refine ⟨h1,fun x=>?_⟩;rcases b x with ⟨e,c⟩ | ⟨e,_⟩
 ·rw[e]; exact c.imp id fun f=>f.1
 ·exact .inl e
structure Abb (K:Int->Prop) (r:D4) (q q':HM × TC):Prop where
 run:IF q'.1 r q'.2
 rel:Rel K q.1 q'.1
 ki:KI K q'.1 r q'.2
 brt:q'.1.births=q.1.births
 len:q'.1.bls.length=q.1.bls.length
 hm:MK q'.1
 lk:q'.2.look=q.2.look
theorem Ro (r:D4):∀ (n:Nat) (q:HM × TC),jR q.1 r q.2->IF q.1 r q.2->KI K q.1 r q.2->Whole K q.1->Abb K r q (Dr r n q).2
 | 0,q,b,h,a,d=>by
   obtain ⟨J,i,p,c,T⟩:=b;exact ⟨h,Rel.refl d,a,rfl,rfl,T.mo,rfl⟩
 | n+1,q,b,h,a,d=>by
   obtain ⟨J,i,p,c,T⟩:=id b;rw[Dr];split
   ·exact ⟨h,Rel.refl d,a,rfl,rfl,T.mo,rfl⟩
   ·rename_i hp;have U:=qO T.mo T.tok h hp a;have I:=Ro r n (FU q.1 r q.2) b.unit U.run U.ki U.rel.whole;exact ⟨I.run,U.rel.trans I.rel,I.ki,I.brt.trans U.brt,I.len.trans U.len,I.hm,I.lk.trans U.lk⟩
theorem IF.whole {m:HM} {r:D4} {s:TC} (h:IF m r s) (b:MK m):Whole (· ∈ E9 m r) m:=fun a c=>⟨((E8 b r).1 c).has,h.ro b c⟩
theorem IF.ki {m:HM} {r:D4} {s:TC} (h:IF m r s) (b:MK m):KI (· ∈ E9 m r) m r s:=⟨fun _ a c=>(E8 b r).1 c,fun d a c=>by
 rcases h.st with ⟨e,_⟩ | ⟨e,_⟩ | ⟨_,e⟩
 ·rw[d] at e; cases e
 ·rw[d] at e; cases e
 ·exact e.kept b ((E8 b r).1 c)⟩
theorem IF.va {m:HM} {r:D4} {s:TC} (h:IF m r s) (b:Qj m.bls.length s) (hp:s.ph=0):s.list=[]:=by
 have hi:IdI m r s:=by
  rcases h.st with ⟨_,e⟩ | ⟨e,_⟩ | ⟨e,_⟩
  ·exact e
  ·rw[hp] at e; cases e
  ·rw[hp] at e; cases e
 have h0:WZ m.bls.length s.ws=0:=by
  unfold WZ bJ;rw[Aeh,List.filter_eq_nil_iff];intro j c;rw[Ad4];intro a;refine a ?_;have d:=h.zc j (Ag5.1 c) a;have:=hi.c0 _ d;unfold C0 at this;rw[show ((2*j:Nat):Int).toNat/2=j from by omega] at this;exact this
 have:=b.ls;rw[h0] at this;exact Aeh.1 (by omega)
variable {J:Aa} {Y:YI} {z:YS}
theorem tA (k:Nat) (hk:20000<=k) (h:Rq J Y z) (hp:z.s.ph=0) (A:U9 z.m z.r=true):YG (GY (k+18) (JL Y.X) J) J Y (.bool true) { m:=z.m,r:=z.r,s:=Hd z.m z.r z.s,K:=(E9 z.m z.r).map (B7 z.m),L:=[],bn:=z.m.births }:=by
 obtain ⟨B,c,p,I,o⟩:=Xl (k+5) (by omega) h.x;have p:BJ (k+17) (ID Y.X.I) J=_:=p;have h1:=h.app c;have n:=h.x.t.mo.nt;obtain ⟨a,j,q,M,X⟩:=kS (k+10) (by omega) h1.x I.li (by have:=o.len n; omega) (fun v Q=>(vj n o v Q).1);have q:DM (k+17) (JL Y.X) (B.1,B.2.1,B.2.2) (J++c)=_:=q;have l:=h1.app j;have H:Dt (k+17) (AU Y.X.I.i) (J++c++j)=_:=fh (k+15) l.x.t.h;have w:=h.x.flt;have S:=h.x.xbl;have q1:∀ {ρ:Type} (x:Option ρ),FQ J (J++c) x=x:=fun x=>Np _ _ x;have q2:∀ {ρ:Type} (x:Option ρ),FQ (J++c) (J++c++j) x=x:=fun x=>Np _ _ x;have low:∀ b,b<J.length->(J++c++j)[b]?=J[b]?:=fun b hb=>by rw[Aaq]; exact AT hb
 have y:J.length<=(J++c++j).length:=by simp only[Aaw]; omega
 have g:∀ b ∈ hs a,J.length<=b:=fun b hb=>by have:=X b hb; simp only[Aaw] at this; omega
 generalize J++c++j=Z at *;have C:=l.run;have f:=Af C;obtain ⟨u,V⟩:=l.x.vM (.slice a.1 a.2.1 a.2.2) (.slice none 0 0) (qIi z.m.births);obtain ⟨i,d⟩:∃ i,Au.cells [qVi (ID Y.X.I),qVi (Jx Y.X),.slice a.1 a.2.1 a.2.2,.slice none 0 0,qIi z.m.births] AN true=i:=⟨_,rfl⟩;have s1:CY Z Y.X.xb 2 (.slice a.1 a.2.1 a.2.2)=some (Z.set Y.X.xb (.cells [qVi (ID Y.X.I),qVi (Jx Y.X),.slice a.1 a.2.1 a.2.2,.slice Y.l.1 Y.l.2.1 Y.l.2.2,qIi z.bn] AN true)):=by simp[CY,C]
 have F:(Z.set Y.X.xb (.cells [qVi (ID Y.X.I),qVi (Jx Y.X),.slice a.1 a.2.1 a.2.2,.slice Y.l.1 Y.l.2.1 Y.l.2.2,qIi z.bn] AN true))[Y.X.xb]?=some (.cells [qVi (ID Y.X.I),qVi (Jx Y.X),.slice a.1 a.2.1 a.2.2,.slice Y.l.1 Y.l.2.1 Y.l.2.2,qIi z.bn] AN true):=Aa2 f;have s2:CY (Z.set Y.X.xb (.cells [qVi (ID Y.X.I),qVi (Jx Y.X),.slice a.1 a.2.1 a.2.2,.slice Y.l.1 Y.l.2.1 Y.l.2.2,qIi z.bn] AN true)) Y.X.xb 3 (.slice none 0 0)=some (Z.set Y.X.xb (.cells [qVi (ID Y.X.I),qVi (Jx Y.X),.slice a.1 a.2.1 a.2.2,.slice none 0 0,qIi z.bn] AN true)):=by simp[CY,F]
 have G:(Z.set Y.X.xb (.cells [qVi (ID Y.X.I),qVi (Jx Y.X),.slice a.1 a.2.1 a.2.2,.slice none 0 0,qIi z.bn] AN true))[Y.X.xb]?=some (.cells [qVi (ID Y.X.I),qVi (Jx Y.X),.slice a.1 a.2.1 a.2.2,.slice none 0 0,qIi z.bn] AN true):=Aa2 f;have s3:CY (Z.set Y.X.xb (.cells [qVi (ID Y.X.I),qVi (Jx Y.X),.slice a.1 a.2.1 a.2.2,.slice none 0 0,qIi z.bn] AN true)) Y.X.xb 4 (qIi z.m.births)=some (Z.set Y.X.xb i):=by simp[CY,G,<- d]
 rw[d] at u V;have ne:∀ b,b≠Y.X.xb->(Z.set Y.X.xb i)[b]?=Z[b]?:=fun b hb=>Aar (Adk hb);have D:Rq (Z.set Y.X.xb i) ⟨Y.X,a,(none,0,0)⟩ { m:=z.m,r:=z.r,s:=z.s,K:=(E9 z.m z.r).map (B7 z.m),L:=[],bn:=z.m.births }:=by
  refine ⟨u,by rw[<- d]; exact Aa2 f,M.Ax fun b hb=>ne b fun e=>?_,.inl ⟨rfl,rfl⟩,fun b hb O=>?_,fun b hb=>by simp[hs] at hb⟩
  ·have:=g b hb; omega
  ·have:=g b hb; have:=w b O; omega
 obtain ⟨J',E,t,N,W,x4,T,i4⟩:=D.go (Yy (k+3) (by omega) D.x.k hp A);have t:Bt (k+17) (Jx Y.X) _=_:=t;have U:Mv Y.fl (⟨Y.X,a,(none,0,0)⟩:YI).fl J (Z.set Y.X.xb i):=by
  refine ⟨by rw[Adj]; exact y,fun b hb P=>?_,fun b hb=>?_⟩
  ·rw[ne b fun e=>P (by rw[e]; exact Aas.2 (.inl (Adw.2 ⟨[Y.X.xb],by simp[XI.Ls],by simp⟩)))];exact low b hb
  ·rcases Aas.1 hb with hb | hb
   ·exact .inl (Aas.2 (.inl hb))
   ·rcases Aas.1 hb with hb | hb
    ·exact .inr (g b hb)
    ·simp[hs] at hb
 refine ⟨J',E, ?_,N,U.trans W,x4,T,i4⟩;rw[TI];simp only[AI,IN,Aa0,h.x.H7,p,q1,dM,q,q2,l.x.H7,l.x.dU,H,Ah,s1,s2,s3,u.Fa,t,Ad1]
end
section
variable {J:Aa} {Y:YI} {z:YS}
inductive bf (z:YS):YS->Prop
 | start:z.s.ph=0->bf z { m:=z.m,r:=z.r,s:=Hd z.m z.r z.s,K:=(E9 z.m z.r).map (B7 z.m),L:=[],bn:=z.m.births }
 | units (N:Nat):bf z { z with m:=(Dr z.r N (z.m,z.s)).2.1,s:=(Dr z.r N (z.m,z.s)).2.2 }
 | act {z':YS}:Tl z z'->bf z z'
def Aao (z:YS) (N:Nat):YS:={ z with m:=(Dr z.r N (z.m,z.s)).2.1,s:=(Dr z.r N (z.m,z.s)).2.2 }
structure ir (z:YS):Prop where
 run:IF z.m z.r z.s
 lk:z.s.look=false
theorem IF.sound {m:HM} {r:D4} {s:TC} (h:IF m r s) (hp:s.ph≠2):XO m/\Mw m r:=by
 rcases h.st with ⟨_,e⟩ | ⟨_,e⟩ | ⟨e,_⟩
 ·exact ⟨e.rf,e.ld⟩
 ·exact ⟨e.rf,e.ld⟩
 ·exact absurd e hp
theorem wz (k:Nat) (hk:40000<=k) (h:Rq J Y z) (hR:ir z) {N:Nat} (hN:1<=N/\N<=100) {hb:Nat} {u9:Int} (ah:hb<J.length) (hu:Aj .u8 J hb 9=some u9) (ak:Ar (1+(Ar u9).tmod 6)=(N:Int)):
  YG (((JL Y.X).bind fun D=>(B9 J D.block (D.off+0)).bind fun av=>av.bind fun E=>(B9 J E.block (E.off+0)).bind fun aw=>(Es (k+20) aw J).bind fun d=>FQ J d.2 ((HR d.1).bind fun ax=>(JL Y.X).bind fun F=>(B9 d.2 F.block (F.off+0)).bind fun ay=>ay.bind fun G=>(B9 d.2 G.block (G.off+1)).bind fun az=>(BW (k+20) az d.2).bind fun j=>(HR j.1).bind fun a0=>(JL Y.X).bind fun H=>(B9 j.2 H.block (H.off+1)).bind fun a3=>(Aj .u8 j.2 hb (0+9)).bind fun an=>if (6:Int)=0 then none else (Cd (k+20) a3 (Ar ((1:Int)+((Ar (an)).tmod (6:Int)))) j.2).bind fun e=>GV e.1 fun bd ap=>(JL Y.X).bind fun I=>(B9 e.2 I.block (I.off+0)).bind fun a4=>a4.bind fun L=>(B9 e.2 L.block (L.off+0)).bind fun a6=>(Es (k+20) a6 e.2).bind fun f=>FQ e.2 f.2 ((HR f.1).bind fun ab=>(JL Y.X).bind fun M=>(B9 f.2 M.block (M.off+0)).bind fun a7=>a7.bind fun O=>(B9 f.2 O.block (O.off+1)).bind fun a8=>(BW (k+20) a8 f.2).bind fun ad=>(HR ad.1).bind fun ac=>(JA (k+20) ax a0 ab ac ad.2).bind fun u=>vC u.1 fun am aq=>(bif ap == 0 then some (aq == 0,u.2) else some (false,u.2)).bind fun w=>(bif w.1 then some (((am.2.1:Nat):Int) == (0:Int),w.2) else some (false,w.2)).bind fun l=>(bif l.1 then (JL Y.X).bind fun Q=>(B9 l.2 Q.block (Q.off+1)).bind fun a9=>(Bs (k+20) a9 l.2).bind fun y=>(Bk .i64 y.1).bind fun ar=>(bif ar == 2 then some (true,y.2) else (Ht (k+20) ab ac y.2).bind fun g=>(Dl g.1).bind fun p=>some (p,g.2)).bind fun ae=>some (ae.1,ae.2) else some (false,l.2)).bind fun af=>some (.bool af.1,af.2))):Option (Value × Aa))) J Y (.bool true) { z with m:=(Dr z.r N (z.m,z.s)).2.1,s:=(Dr z.r N (z.m,z.s)).2.2 }:=by
 have q:=h.x.t.mo;have r:=Ro (K:=(· ∈ E9 z.m z.r)) z.r N (z.m,z.s) ⟨_,_,_,_,h.x.t⟩ hR.run (hR.run.ki q) (hR.run.whole q);obtain ⟨o,j1,e1,a1,n1⟩:=im (k+10) (by omega) h.x.t.h q;have e1:Es (k+20) (AU Y.X.I.i) J=_:=e1;have y1:=h.app o;obtain ⟨A,q1,e2,b1,n2⟩:=Ru (k+13) (by omega) y1.x.t.rt;have e2:BW (k+20) (F8 Y.X.I.p) (J++o)=_:=e2;have y2:=y1.app A;have c2:Aj .u8 (J++o++A) hb 9=some u9:=by
  rw[Aaq,HP _ _ _ ah]; exact hu
 have hlen:(J++o++A).length=J.length+o.length+A.length:=by simp only[Aaw]
 have a2:=a1.app A;have mA:Mv Y.fl Y.fl J (J++o++A):=(Mv.app _ _ _).trans (Mv.app _ _ _);have ba:∀ {ρ:Type} (x:Option ρ),FQ J (J++o) x=x:=fun x=>Np _ _ x;obtain ⟨a,Y4,e4,B,m4,x4,k4,i4⟩:=y2.go (kM (k+3) (by omega) y2.x.k hN.1 (by omega));have e4:Cd (k+20) (Jx Y.X) (N:Int) (J++o++A)=_:=e4;have T:=h.lt;have g1:JM a j1 ⟨z.m.bls,Gr z.m,[],z.m.births⟩:=a2.Ax (fun b hb=>m4.same b (by have:=a2.lt b hb; omega) fun hh=>by have:=n1 b hb; have:=T b hh; omega) m4.len;have g2:F7 a q1 z.r:=b1.Ax fun b hb=>m4.same b (by have:=b1.lt b hb; omega) fun hh=>by have:=n2 b hb; simp only[Aaw] at this; have:=T b hh; omega
 obtain ⟨q',aj⟩:∃ q',Dr z.r N (z.m,z.s)=q':=⟨_,rfl⟩;rw[aj] at e4 B r ⊢;obtain ⟨c,j5,e5,a5,_⟩:=im (k+10) (by omega) B.x.t.h B.x.t.mo;rw[i4] at e5;have e5:Es (k+20) (AU Y.X.I.i) a=_:=e5;have y5:=B.app c;have ag:=y5.x.t.rt;rw[i4] at ag;obtain ⟨i,q6,e6,b6,_⟩:=Ru (k+13) (by omega) ag;have e6:BW (k+20) (F8 Y.X.I.p) (a++c)=_:=e6;have y6:=y5.app i;have bb:∀ {ρ:Type} (x:Option ρ),FQ a (a++c) x=x:=fun x=>Np _ _ x;have R1:=(((RG.read g1 q).app c).app i);have R2:=(RG.read a5 r.hm).app i;have Q1:=(g2.app c).app i;have t:=h.x.t.rt.ok;have U:(AW z.r).length<=4000:=by have:=cJ t; omega
 obtain ⟨_,_,_,_,au⟩:=Xl (k+3) (by omega) h.x;have ai:(E9 z.m z.r).length<=4000:=by have:=au.len q.nt; omega
 obtain ⟨fa,n,e7⟩:=wT (k+10) (by omega) R1 R2 Q1 b6 U (by rw[W9]; exact ai) (by
  rw[W9];intro v hv;have P:=r.rel.pair q r.hm hv;exact ⟨P.has,P.has',P.idn,P.shp,P.uF,P.ref⟩) (r.rel.places q t) (by have:=PY t; omega);have e7:JA (k+20) (Bj j1) (GS q1) (Bj j5) (GS q6) (a++c++i)=_:=e7;have y7:=y6.app n;have bc:∀ {ρ:Type} (K:qSi->Int->Option ρ),vC (.tuple #[.slice fa 0 0,qIi 0]) K=K (fa,0,0) 0:=fun K=>xY (fa,0,0) 0 K;have p7:=Yx (k+17) y7.x.k;have p7:Bs (k+20) (Jx Y4.X) (a++c++i++n)=_:=p7;have kk:Jx Y4.X=Jx Y.X:=by unfold Jx; rw[k4]
 have V:=B.x.H7;have W:=B.x.dU;have X:=y5.x.H7;have Z:=y5.x.su;have aa:=y7.xr;rw[x4,i4] at V X;rw[i4] at W Z;rw[x4,kk] at aa;rw[kk] at p7;obtain ⟨C,S⟩:∃ C,((bif q'.2.2.ph == 2 then some (true,a++c++i++n) else (Ht (k+20) (Bj j5) (GS q6) (a++c++i++n)).bind fun g=>(Dl g.1).bind fun p=>some (p,g.2)):Option (Bool × Aa))=some (true,a++c++i++n++C):=by
  by_cases h2:q'.2.2.ph=2
  ·exact ⟨[],by rw[h2,Ab1]; rfl⟩
  ·obtain ⟨s1,s2⟩:=r.run.sound h2;obtain ⟨C,S⟩:=uc (k+14) (by omega) (R2.app n) (b6.app n) (show Aw q'.2.1 0=false from xL r.hm) s1 s2 U;have S:Ht (k+20) (Bj j5) (GS q6) (a++c++i++n)=_:=S;refine ⟨C, ?_⟩;rw[Ach.2 h2];simp only[By,S,AI,An]
 refine ⟨a++c++i++n++C,Y4, ?_,y7.app C,(((((mA.trans m4).trans (Mv.app _ _ _)).trans (Mv.app _ _ _)).trans (Mv.app _ _ _)).trans (Mv.app _ _ _)),x4,k4,i4⟩;simp only[AI,IN,Aa0,h.x.H7,h.x.dU,e1,ba,yR,y1.x.H7,y1.x.su,e2,y2.xr,c2,show ((6:Int)=0)=False from by simp,Aa5,ak,e4,B6,V,W,e5,bb,X,Z,e6,e7,bc,Ad1,IS,Int.natCast_zero,aa,p7,Ah];rw[S];rfl
structure B10 (u0 u1 u2 u3 u4 u5 u6 u7 u8 u9:Nat):Prop where
 a:u0<256/\u1<256/\u2<256/\u3<256/\u4<256
 b:u5<256/\u6<256/\u7<256/\u8<256/\u9<256
set_option maxHeartbeats 2000000 in
theorem wA (k:Nat) (hk:40000<=k) (h:Rq J Y z) (B:ir z) (hb:z.m.births<900000) (hL:z.L.length<=80000) {u0 u1 u2 u3 u4 u5 u6 u7 u8 u9:Nat} (hB:B10 u0 u1 u2 u3 u4 u5 u6 u7 u8 u9):
  ∃ i,bf z i/\(u8 % 4=2->i=Aao z (1+u9 % 6))/\YG (Jg (k+21) (JL Y.X) (u0:Int) (u1:Int) (u2:Int) (u3:Int) (u4:Int) (u5:Int) (u6:Int) (u7:Int) (u8:Int) (u9:Int) J) J Y (.bool true) i:=by
 obtain ⟨⟨v0,v1,v2,v3,v4⟩,v5,v6,v7,v8,v9⟩:=hB;obtain ⟨B0,s⟩:∃ B0,Au.cells [.int .u8 (u0:Int),.int .u8 (u1:Int),.int .u8 (u2:Int),.int .u8 (u3:Int),.int .u8 (u4:Int),.int .u8 (u5:Int),.int .u8 (u6:Int),.int .u8 (u7:Int),.int .u8 (u8:Int),.int .u8 (u9:Int)] Oo true=B0:=⟨_,rfl⟩;have S:∀ Z:Aa,Z[J.length]?=some B0->Aj .u8 Z J.length 0=some (u0:Int)/\Aj .u8 Z J.length 1=some (u1:Int)/\Aj .u8 Z J.length 2=some (u2:Int)/\Aj .u8 Z J.length 3=some (u3:Int)/\Aj .u8 Z J.length 4=some (u4:Int)/\Aj .u8 Z J.length 5=some (u5:Int)/\Aj .u8 Z J.length 6=some (u6:Int)/\Aj .u8 Z J.length 7=some (u7:Int)/\Aj .u8 Z J.length 8=some (u8:Int)/\Aj .u8 Z J.length 9=some (u9:Int):=fun Z hm=>by
  simp[Aj,CW,hm,<- s,Bk]
 have h1:=h.app [B0];have t:J.length<(J++[B0]).length:=by simp
 obtain ⟨_,_,_,_,_,_,_,_,p,l9⟩:=S _ Ab5;have hp:=Yx (k+17) h1.x.k;have hp:Bs (k+20) (Jx Y.X) (J++[B0])=some (qIi z.s.ph,J++[B0]):=hp;have o:(u8:Int).tmod 4=((u8 % 4:Nat):Int):=Kx u8 4;have j:((4:Int)=0)=False:=by simp
 have cut:∀ {U:Option (Value × Aa)} {i:YS},YG U (J++[B0]) Y (.bool true) i->YG U J Y (.bool true) i:=fun ⟨J',X,e,y,m,a,b,c⟩=>⟨J',X,e,y,(Mv.app _ _ _).trans m,a,b,c⟩;rw[Vf];simp only[Ae,s,IN,Aa0,Nat.reduceAdd,p,AI,j,Aa5,o,h1.xr,hp,Ah];have g:(¬ (u8 % 4=1/\z.s.ph=0))->_:=fun _=>wz k hk h1 B (N:=1+u9 % 6) (by omega) (hb:=J.length) (u9:=(u9:Int)) t l9 (by
  rw[Ai (n:=(u9:Int)) (by unfold AQ; omega),show (u9:Int).tmod 6=((u9 % 6:Nat):Int) from Kx u9 6,Ai (by unfold AQ; omega)];omega);have h4:u8 % 4=0\/u8 % 4=1\/u8 % 4=2\/u8 % 4=3:=by omega
 have u:(((0:Nat):Int) == 1)=false/\(((0:Nat):Int) == 2)=false:=⟨rfl,rfl⟩;have w:(((1:Nat):Int) == 1)=true/\(((1:Nat):Int) == 2)=false:=⟨rfl,rfl⟩;have V:(((2:Nat):Int) == 1)=false/\(((2:Nat):Int) == 2)=true:=⟨rfl,rfl⟩;have W:(((3:Nat):Int) == 1)=false/\(((3:Nat):Int) == 2)=false:=⟨rfl,rfl⟩;have f:∃ i,bf z i/\YG ((JL Y.X).bind fun q=>(B9 (J++[B0]) q.block (q.off+0)).bind fun O=>(FF (k+20) (JL Y.X) (J++[B0])).bind fun d=>pv d.1 fun f60 f61 f62=>HH (JL Y.X) (J++[B0]) d.2 (HH (some ⟨J.length,0,none⟩) (J++[B0]) d.2 ((Aj .u8 d.2 J.length (0+0)).bind fun E=>(Aj .u8 d.2 J.length (0+0+1)).bind fun F=>(Aj .u8 d.2 J.length (0+0+1+1)).bind fun G=>(Aj .u8 d.2 J.length (0+0+1+1+1)).bind fun H=>(Aj .u8 d.2 J.length (0+0+1+1+1+1)).bind fun I=>(Aj .u8 d.2 J.length (0+0+1+1+1+1+1)).bind fun K=>(Aj .u8 d.2 J.length (0+0+1+1+1+1+1+1)).bind fun L=>(Aj .u8 d.2 J.length (0+0+1+1+1+1+1+1+1)).bind fun M=>(GX (k+20) O (f60) (f61) (f62) E F G H I K L M d.2).bind fun v=>(Dl v.1).bind fun x=>some (.bool x,v.2)))) (J++[B0]) Y (.bool true) i:=by
  obtain ⟨τ,g1,g5,g8,A,t1⟩:=wj (k+19) h1;have A:FF (k+20) (JL Y.X) (J++[B0])=_:=A;obtain ⟨i,ha,J2_,Y2,r,t2,D,P,C,i2⟩:=yW k (by omega) t1 B.run hb hL (u0:=u0) (u1:=u1) (u2:=u2) (u3:=u3) (u4:=u4) (u5:=u5) (u6:=u6) (u7:=u7) v0 v1 v2 v3 v4 v5 v6;have T:(J++[B0]++τ)[J.length]?=(J++[B0])[J.length]?:=AT t;have kx:(J++[B0]++τ)[Y.X.xb]?=(J++[B0])[Y.X.xb]?:=AT h1.x.xbl;obtain ⟨l0,l1,l2,l3,l4,l5,l6,l7,_,_⟩:=S (J++[B0]++τ) (by rw[T]; exact Ab5);refine ⟨i,.act ha,J2_,Y2, ?_,t2.y,(Mv.app _ _ _).trans D,P,C,i2⟩;simp only[AI,IN,Aa0,Nat.reduceAdd,h1.x.H7,A,ui,Pe (a:=⟨Y.X.xb,0,none⟩) kx,Pe (a:=⟨J.length,0,none⟩) T,l0,l1,l2,l3,l4,l5,l6,l7,r,An]
 simp only[IN,Aa0,Nat.reduceAdd,AI] at f g;rcases h4 with l | l | l | l
 ·rw[l];simp only[u.1,u.2,By,AI,p,j,Aa5,o,l];obtain ⟨i,a,b⟩:=f;exact ⟨i,a,fun _=>by omega,cut b⟩
 ·rw[l];simp only[w.1,w.2,IS,By,AI,p,j,Aa5,o,l];by_cases h0:z.s.ph=0
  ·obtain ⟨s1,s2⟩:=B.run.sound (by rw[h0]; decide);obtain ⟨J2_,Y2,r,y2,D,P,C,i2⟩:=tA (k+2) (by omega) h1 h0 (qK s1 s2);have r:GY (k+20) (JL Y.X) (J++[B0])=_:=r;refine ⟨_,.start h0,fun _=>by omega,cut ⟨J2_,Y2, ?_,y2,D,P,C,i2⟩⟩;simp only[h0,Ad1,IS,r,AI,An]
  ·rw[Ach.2 h0];simp only[By,IS,AI,p,j,Aa5,o,l,w.1,w.2];exact ⟨_,.units (1+u9 % 6),fun _=>rfl,cut (g fun Q=>h0 Q.2)⟩
 ·rw[l];simp only[V.1,V.2,IS,By,AI,p,j,Aa5,o,l];exact ⟨_,.units (1+u9 % 6),fun _=>rfl,cut (g fun Q=>by omega)⟩
 ·rw[l];simp only[W.1,W.2,By,AI,p,j,Aa5,o,l];obtain ⟨i,a,b⟩:=f;exact ⟨i,a,fun _=>by omega,cut b⟩
end
section
section
variable {J:Aa} {lo:Nat}
theorem rE (k:Nat) (C:10000<=k) (B:Bg) (l:0<=B.bl/\B.bl<256) (n:0<=B.mu/\B.mu<256):∃ m r,MK m/\Qi m/\Mw m r/\m.births<=40 /\ ∀ lo J,Q4 lo J B->lo<=J.length ->
  ∃ J' X,np (k+15) B J=some (qVi (JL X),J')/\OG J' X m r (Xs m.bls.length false 2)/\J'[X.xb]?=some (.cells [qVi (ID X.I),qVi (Jx X),.slice none 0 0,.slice none 0 0,qIi 0] AN true)/\(∀ L ∈ X.Ls,∀ q ∈ L,J.length<=q)/\J.length<=J'.length /\ ∀ q,q<J.length->J'[q]?=J[q]?:=by
 obtain ⟨m,r,z,A,g,y,run⟩:=wV k C B l n;refine ⟨m,r,z,A,g,y,fun lo J x D=>?_⟩;obtain ⟨d,f⟩:∃ d,Au.cells [.int .u8 B.bl,.int .u8 B.mu,.slice B.ob.p B.ob.n B.ob.c,.slice B.de.p B.de.n B.de.c,.slice B.li.p B.li.n B.li.c,.slice B.pl.p B.pl.n B.pl.c,.slice B.pi.p B.pi.n B.pi.c] D0 true=d:=⟨_,rfl⟩;obtain ⟨J1_,I,t,o,S,p,E,u⟩:=run lo (J++[d]) (x.DR fun q b=>AT (by omega)) (by rw[Aaw]; omega);rw[Aaw,Ac3] at p E u;have e:∀ {L:List Nat},L ∈ I.Ls -> ∀ q ∈ L,J.length+1<=q:=fun g q b=>p q (Adw.2 ⟨_,g,b⟩);obtain ⟨τ,c,v,T,s⟩:=hY (k+8) (by omega) S.h S.mo S.rt (S.fp.sub [0,2] (by decide) (by simp[Nf.Ls]) rfl) false 2;have j:Nk (k+13) (AU I.i) (F8 I.p) false 2 J1_=_:=v;have S2:=S.app τ;obtain ⟨K0,i⟩:∃ K0,Au.cells [qVi (Dz c)] IE true=K0:=⟨_,rfl⟩;obtain ⟨R0,h⟩:∃ R0,Au.cells [qVi (ID I),qVi (some ⟨(J1_++τ).length,0,none⟩),.slice none 0 0,.slice none 0 0,qIi 0] AN true=R0:=⟨_,rfl⟩;have T3:Li (J1_++τ++[K0]++[R0]) I.i I.p c m r (Xs m.bls.length false 2):=(T.app [K0]).app [R0];have S3:=(S2.app [K0]).app [R0];have U:(J1_++τ).length=J1_.length+τ.length:=Aaw;refine ⟨J1_++τ++[K0]++[R0],⟨(J1_++τ++[K0]).length,(J1_++τ).length,I,c⟩, ?_,⟨?_, ?_,S3.cell,T3,⟨r,S3.rq,rfl⟩, ?_⟩, ?_, ?_, ?_, ?_⟩
 ·have F:Aj .u8 (J++[d]) J.length 0=some B.bl:=by rw[<- f,Bv]; rfl
  have G:Aj .u8 (J++[d]) J.length 1=some B.mu:=by rw[<- f,Bv]; rfl
  have H:Be (J++[d]) J.length 2=some (B.ob.p,B.ob.n,B.ob.c)/\Be (J++[d]) J.length 3=some (B.de.p,B.de.n,B.de.c)/\Be (J++[d]) J.length 4=some (B.li.p,B.li.n,B.li.c)/\Be (J++[d]) J.length 5=some (B.pl.p,B.pl.n,B.pl.c)/\Be (J++[d]) J.length 6=some (B.pi.p,B.pi.n,B.pi.c):=by
   simp[Be,CW,<- f,Eo]
  obtain ⟨K,M,N,O,Q⟩:=H;unfold vg at o;have w:KB (k+14) (AU I.i) (F8 I.p) J1_=some (.tuple #[qVi (some ⟨(J1_++τ).length,0,none⟩),qIi 0],J1_++τ++[K0]):=by
   rw[show k+14=(k+13)+1 from rfl,VD];simp only[j,AI,LK,Abx,By,Ae,i]
  unfold np;rw[Yb];simp only[Ae,f,IN,Nat.reduceAdd,F,G,K,M,N,O,Q,AI,o,HR,Acz,By,S.H7,S.Fa,w,LK,show ∀ a:Addr,Lq P DU (qVi (some a)) (qVi none)=some false from fun a=>by kernel_rfl,Abx,h]
 ·exact ⟨_,_,_,by rw[Ab5,<- h]⟩
 ·rw[AT (by simp),Ab5,<- i]
 ·have F0:Fp J1_ [I.i.l,I.p.l,[I.sb],I.q.l]:=S.fp.sub [0,2,4,3] (by decide) (by simp[Nf.Ls]) rfl;have F1:=F0.cons (J':=J1_++τ) (L:=c.l) (fun q b=>⟨s q b,T.co.lt q b⟩) (by omega);have F2:=F1.cons (J':=J1_++τ++[K0]) (L:=[(J1_++τ).length]) (fun q b=>by rw[Ac1.1 b,Aaw (bs:=[K0])]; simp) (by simp);have F3:=F2.cons (J':=J1_++τ++[K0]++[R0]) (L:=[(J1_++τ++[K0]).length]) (fun q b=>by rw[Ac1.1 b]; simp) (by simp);exact F3.sub [3,4,2,0,1,5,6] (by decide) (by simp) rfl
 ·rw[Ab5,<- h]
 ·intro L g q b;have g:L ∈ [I.i.l,I.p.l,c.l,[(J1_++τ++[K0]).length],[(J1_++τ).length],[I.sb],I.q.l]:=g;simp only[Acd,Aee,Aga] at g;rcases g with rfl | rfl | rfl | rfl | rfl | rfl | rfl
  ·have:=e (L:=I.i.l) (by simp[Nf.Ls]) q b; omega
  ·have:=e (L:=I.p.l) (by simp[Nf.Ls]) q b; omega
  ·have:=s q b; omega
  ·have:=Ac1.1 b; simp at this; omega
  ·have:=Ac1.1 b; omega
  ·have:=e (L:=[I.sb]) (by simp[Nf.Ls]) q b; omega
  ·have:=e (L:=I.q.l) (by simp[Nf.Ls]) q b; omega
 ·simp; omega
 ·intro q b;rw[Aaq,Aaq,AT (by omega),u q (by omega),AT b]
end
variable {J:Aa} {Y:YI} {z:YS}
theorem vc {m:HM} {r:D4} (d:MK m) (e:Qi m) (c:Mw m r):IF m r (Xs m.bls.length false 2):=by
 have b:∀ j,CJ 2 (Xs m.bls.length false 2).ws j=0:=fun j=>Ps _ _ _;exact ⟨fun j _ h=>absurd (b j) h,rfl,.inl ⟨rfl,e.o d.inv,c,fun a _=>b _⟩⟩
abbrev YS.new (m:HM) (r:D4):YS:=⟨m,r,Xs m.bls.length false 2,[],[],0⟩
theorem Rq.new {X:XI} {m:HM} {r:D4} (h:OG J X m r (Xs m.bls.length false 2)) (a:J[X.xb]?=some (.cells [qVi (ID X.I),qVi (Jx X),.slice none 0 0,.slice none 0 0,qIi 0] AN true)):Rq J ⟨X,(none,0,0),(none,0,0)⟩ (YS.new m r):=
 ⟨h,a,Bf.nil _,.inl ⟨rfl,rfl⟩,fun b hb=>by simp[hs] at hb,fun b hb=>by simp[hs] at hb⟩
theorem bf.run {z z':YS} (h:bf z z') (b:ir z) (f:jR z.m z.r z.s) (e:MK z'.m):ir z'/\z'.m.births<=z.m.births+1/\z'.L.length<=z.L.length+3:=by
 obtain ⟨J,i,p,c,T⟩:=id f;have d:=T.mo;cases h with
 | start hp=>exact ⟨⟨(dK d b.run T.tok hp (b.run.va T.tok hp)).1,((Dx z.m _ _).2.2.1).trans b.lk⟩,by dsimp only; omega,by simp⟩
 | units N=>
   have S:=Ro (K:=(· ∈ E9 z.m z.r)) z.r N (z.m,z.s) f b.run (b.run.ki d) (b.run.whole d);exact ⟨⟨S.run,S.lk.trans b.lk⟩,by have:=S.brt; dsimp only at this ⊢; omega,by simp⟩
 | act g=>
   obtain ⟨j,k,m,l,n,o,q⟩:=g.run b.run d e T.tok b.lk;refine ⟨⟨j,k⟩,l, ?_⟩;have nl:∀ a x,(VG z.m a x).length<=1:=fun a x=>by unfold VG; split <;> simp
   cases g with
   | none=>omega
   | full=>simp
   | new=>simp
   | @store a to x=>
     have:=nl a (x:Int);unfold stL;simp only[Aaw];split <;> simp <;> omega
   | set=>simp
   | @load a x w=>
     have:=nl a (x:Int);simp only[Aaw]; omega
   | data=>simp
theorem sx {lo:Nat} {J':Aa} {L L':List Nat} {b:BL} {w:Nat} (hm:Mv L L' J J') (e:lo<=J.length) (c:∀ p ∈ L,lo<=p) (d:Mo lo J w b):Mo lo J' w b/\lo<=J'.length /\ ∀ p ∈ L',lo<=p:=by
 have:=hm.len;exact ⟨d.DR fun p hp=>hm.same p (by omega) fun a=>by have:=c p a; omega,by omega,fun p hp=>(hm.new p hp).elim (c p) fun a=>by omega⟩
theorem Acq {lo b:Nat} {B:Bg} (h:Q4 lo J B) (a:lo<=b):Q4 b J B:=⟨h.b0,h.m0,h.ob.up a,h.de.up a,h.li.up a,h.pl.up a,h.pi.up a⟩
end
section
variable {J:Aa} {Y:YI} {z:YS}
theorem xu {lo:Nat} {b:BL} (n:Mo lo J 10 b) {x:Nat} (P:x<b.n):∃ a c d e f h i j k u8 l,b.p=some ⟨a,0,none⟩/\B10 c d e f h i j k u8 l/\Aj .u8 J a (x*10)=some (c:Int)/\Aj .u8 J a (x*10+1)=some (d:Int)/\Aj .u8 J a (x*10+2)=some (e:Int)/\Aj .u8 J a (x*10+3)=some (f:Int)/\Aj .u8 J a (x*10+4)=some (h:Int)/\Aj .u8 J a (x*10+5)=some (i:Int)/\Aj .u8 J a (x*10+6)=some (j:Int)/\Aj .u8 J a (x*10+7)=some (k:Int)/\Aj .u8 J a (x*10+8)=some (u8:Int)/\Aj .u8 J a (x*10+9)=some (l:Int):=by
 obtain ⟨a,M,O,m⟩:=n.ld P;have g:∀ o,o<10 -> ∃ u:Nat,u<256/\Aj .u8 J a (x*10+o)=some (u:Int):=fun o N=>by
  have:=n.rg (x*10+o);exact ⟨(b.at (x*10+o)).toNat,by omega,by rw[m J rfl o N]; congr 1; omega⟩
 obtain ⟨c,p,B⟩:=g 0 (by decide);obtain ⟨d,q,C⟩:=g 1 (by decide);obtain ⟨e,r,D⟩:=g 2 (by decide);obtain ⟨f,s,E⟩:=g 3 (by decide);obtain ⟨h,t,F⟩:=g 4 (by decide);obtain ⟨i,v,G⟩:=g 5 (by decide);obtain ⟨j,w,H⟩:=g 6 (by decide);obtain ⟨k,y,I⟩:=g 7 (by decide);obtain ⟨u8,z,K⟩:=g 8 (by decide);obtain ⟨l,A,L⟩:=g 9 (by decide);exact ⟨a,c,d,e,f,h,i,j,k,u8,l,M,⟨⟨p,q,r,s,t⟩,v,w,y,z,A⟩,B,C,D,E,F,G,H,I,K,L⟩
theorem sv {c x:Nat} {a:Int} {T:Type} (J:T) (h:¬ (x<c/\(x:Int)<a)):(bif decide ((x:Int)<(c:Int)) then some (decide ((x:Int)<a),J) else some (false,J))=some (false,J):=by
 by_cases h1:x<c
 ·rw[Aak (by omega),IS,Aaj (fun b=>h ⟨h1,b⟩)]
 ·rw[Aaj (by omega),By]
end
section
variable {m:HM} {r:D4} {s:TC} {U:Int->Prop}
def pg (U:Int->Prop) (m:HM) (s:TC):Prop:=∀ a,B5 m s a=true->U a
theorem pg.HJ (h:pg U m s) (hw:Wl m s) {l:List Int} (f:∀ a ∈ l,Aw m a=true->U a):pg U m (AA m s l):=fun a d=>by
 obtain ⟨b,c⟩:=AP.1 d;rw[HK _ _ hw b] at c;split at c
 ·rename_i e;exact f a e.2 b
 ·exact h a (AP.2 ⟨b,c⟩)
theorem pg.pop (h:pg U m s) (hw:Wl m s) (hm:tC m r s) (hC:tF m U):pg U m (Xx m s):=by
 unfold Xx;cases p:s.list with
 | nil=>exact h
 | cons a l=>
   simp only;have c:=hm.mm.ln a (by rw[p]; exact Acj);obtain ⟨j,q⟩:=AP.1 c;rw[Aay j];have f:Wl m { s with list:=l }:=hw;have n:pg U m { s with list:=l }:=h;have o:=n.HJ f (l:=Dy m a) fun b hb d=>hC.Ko a b (h a c) (W0.1 hb).1 d;have g:Wl m (AA m { s with list:=l } (Dy m a)):=by unfold Wl; rw[KW]; exact hw
   intro b hb;obtain ⟨k,i⟩:=AP.1 hb;rw[UN g j k (by decide)] at i;split at i
   ·rename_i e;rw[e]; exact h a c
   ·exact o b (AP.2 ⟨k,i⟩)
theorem pg.ao (h:pg U m s) (hw:Wl m s) (hC:tF m U):pg U m (NI m s):=by
 unfold NI;refine h.HJ hw fun a e f=>?_;obtain ⟨b,_,h1,c,d,rfl⟩:=qe.1 e;exact hC.ao b (h b h1) c (h _ d) f
theorem we (m:HM) (s:TC) (h:(GD m s).2.ph=2):(GD m s).2.ws=s.ws:=by
 unfold GD at h ⊢;cases a:s.left with
 | nil=>
   rw[a] at h;simp only at h ⊢;unfold PQ at h ⊢;rw[Aay a] at h;cases h
 | cons b l=>
   rw[a] at h;simp only at h ⊢;unfold PQ at h ⊢;split at h
   ·cases h
   ·rename_i c;rw[Aaz c]
def UpI (U:Int->Prop) (m:HM) (r:D4) (s:TC):Prop:=(s.ph=1->pg U m s/\tF m U /\ ∀ a ∈ r.all,Aw m a=true->U a)/\(s.ph=2->pg U m s)
theorem yn (g:MK m) (A:Qj m.bls.length s) (h:IF m r s) (hp:s.ph≠0) (p:UpI U m r s):UpI U (FU m r s).1 r (FU m r s).2/\((FU m r s).2.ph=0 -> ∀ a,Aw (FU m r s).1 a=true->U a):=by
 have hw:Wl m s:=A.wl;rcases h.st with ⟨h0,_⟩ | ⟨h1,hm⟩ | ⟨j,hs⟩
 ·exact absurd h0 hp
 ·have d:s.ph≠2:=by rw[h1]; decide
  obtain ⟨e,i,l⟩:=p.1 h1;unfold FU;rw[Aaz d];by_cases f:s.list≠[]
  ·rw[Aay f];obtain ⟨_,_,_,_,q⟩:=qk g hw hm;exact ⟨⟨fun _=>⟨e.pop hw hm i,i,l⟩,fun b=>absurd (q.symm.trans b) d⟩,fun b=>absurd (q.symm.trans b) hp⟩
  ·rw[Aaz f];have f:s.list=[]:=Af0.1 f;unfold Xm;simp only;have k:pg U m (if s.look=true then AA m s (AW r) else s)/\Wl m (if s.look=true then AA m s (AW r) else s)/\(if s.look=true then AA m s (AW r) else s).ph=s.ph:=by
    split
    ·exact ⟨e.HJ hw fun a c b=>l a (Jt.1 c).1 b,by unfold Wl; rw[KW]; exact hw,(Dx m (AW r) s).1⟩
    ·exact ⟨e,hw,rfl⟩
   by_cases he:(NI m (if s.look=true then AA m s (AW r) else s)).list≠[]
   ·rw[Aay he];have o:(NI m (if s.look=true then AA m s (AW r) else s)).ph=s.ph:=by
     unfold NI;exact (Dx m _ _).1.trans k.2.2
    exact ⟨⟨fun _=>⟨k.1.ao k.2.1 i,i,l⟩,fun b=>absurd (o.symm.trans b) d⟩,fun b=>absurd (o.symm.trans b) hp⟩
   ·have he:(NI m (if s.look then AA m s (AW r) else s)).list=[]:=Af0.1 he;rw[Aaz (by rw[he]; simp)];have z:NI m (if s.look=true then AA m s (AW r) else s)=s:=(Yz g hw f he).1;obtain ⟨_,_,_,_,u,_⟩:=pX (K:=fun _=>False) g hw hm f he fun _ b=>b.elim;rw[z];refine ⟨⟨fun b=>(by cases b),fun _ a c=>e a ?_⟩,fun b=>(by cases b)⟩;have:B5 (Im m s (DW m)) s a=true:=c;rw[u] at this; exact this
 ·have e:=p.2 j;unfold FU;rw[Aay j];obtain ⟨v,B,C,D,E,F,G,w,y⟩:=mF g hw j hs;refine ⟨⟨fun b=>?_,fun b a c=>e a ?_⟩,fun b a c=>e a (y b a c)⟩
  ·rcases v with ⟨x,_⟩ | ⟨x,_⟩
   ·rw[x] at b; cases b
   ·rw[x] at b; cases b
  ·obtain ⟨t,n⟩:=AP.1 c;refine AP.2 ⟨by rw[<- (w a t).has]; exact t, ?_⟩;have:=we m s b;unfold C0 at n ⊢;rw[this] at n; exact n
theorem mB (r:D4):∀ (n:Nat) (q:HM × TC),jR q.1 r q.2->IF q.1 r q.2->UpI U q.1 r q.2->q.2.ph≠0->(Dr r n q).2.2.ph=0 -> ∀ a,Aw (Dr r n q).2.1 a=true->U a
 | 0,q,b,h,f,hp,h0=>absurd h0 hp
 | n+1,q,b,h,f,hp,h0=>by
   obtain ⟨J,i,p,c,T⟩:=id b;have O:=qO (K:=fun _=>False) T.mo T.tok h hp ⟨fun _ _ d=>d.elim,fun _ _ d=>d.elim⟩;have up:=yn T.mo T.tok h hp f;rw[Dr,Aaz hp] at h0 ⊢;by_cases h1:(FU q.1 r q.2).2.ph=0
   ·have e:Dr r n (FU q.1 r q.2)=(0,FU q.1 r q.2):=by
     cases n with
     | zero=>rfl
     | succ n=>rw[Dr,Aay h1]
    dsimp only at h0 ⊢;rw[e];exact up.2 h1
   ·exact mB r n (FU q.1 r q.2) b.unit O.run up.1 h1 h0
theorem vY (g:MK m) (h:IF m r s) (i:Qj m.bls.length s) (hp:s.ph=0):UpI (Kp m (· ∈ AW r)) m r (Hd m r s):=by
 have hi:IdI m r s:=by
  rcases h.st with ⟨_,e⟩ | ⟨e,_⟩ | ⟨e,_⟩
  ·exact e
  ·rw[hp] at e; cases e
  ·rw[hp] at e; cases e
 have f:(Hd m r s).ph=1:=(Dx m _ _).1;have hw:Wl m { s with freed:=0,ph:=1 }:=i.wl;refine ⟨fun _=>⟨?_,⟨fun a b c e hb=>.Ko c e hb,fun a c j h0 hb=>.ao c j h0 hb⟩,fun a c d=>.root (Jt.2 ⟨c,Nx g d⟩) d⟩,fun d=>by rw[f] at d; cases d⟩;have k:pg (Kp m (· ∈ AW r)) m { s with freed:=0,ph:=1 }:=fun a c=>by
  obtain ⟨l,n⟩:=AP.1 c;exact absurd (hi.c0 a l) n
 exact k.HJ hw fun a c d=>.root c d
theorem Kp.rel {m':HM} {R:Int->Prop} (o:MK m) (h:Rel (Kp m R) m m') {a:Int} (p:Kp m R a):Kp m' R a:=by
 have key:Kp m R a/\Kp m' R a:=by
  refine p.min (C:=fun a=>Kp m R a/\Kp m' R a) ⟨fun a b d e hb=>?_,fun a d c g hb=>?_⟩ fun a h1 n=>⟨.root h1 n,.root h1 (h a (.root h1 n)).1⟩
  ·have kb:Kp m R b:=.Ko d.1 e hb;refine ⟨kb,.Ko d.2 ?_ (h b kb).1⟩;obtain ⟨x,r,f,s⟩:=e;obtain ⟨_,j,_,_,i⟩:=h a d.1;refine ⟨x,by rw[j]; exact r,by rw[j]; exact f, ?_⟩;rcases i x with ⟨e,_⟩ | ⟨_,⟨rfl,c,_⟩ | ⟨rfl,c,_⟩⟩
   ·rw[e]; exact s
   ·exfalso;unfold DV at f;rcases c with c | c <;> rw[c] at f <;> simp at f
   ·exfalso;unfold DV at f;rw[c] at f; simp at f
  ·have kb:Kp m R (AE m a 1):=.ao d.1 c g.1 hb;obtain ⟨_,j,_,_,i⟩:=h a d.1;have k:AE m' a 0=AE m a 0:=by
    rcases i 0 with ⟨e,_⟩ | ⟨_,⟨_,_,q⟩ | ⟨e,_⟩⟩
    ·exact e
    ·exact absurd g.1 q
    ·cases e
   have l:AE m' a 1=AE m a 1:=by
    rcases i 1 with ⟨e,_⟩ | ⟨_,⟨e,_⟩ | ⟨_,_,e⟩⟩
    ·exact e
    ·cases e
    ·rw[k] at e;exact absurd e (Nx o g.1.has)
   have:=Kp.ao d.2 (by rw[j]; exact c) (by rw[k]; exact g.2) (by rw[l]; exact (h _ kb).1);rw[l] at this;exact ⟨kb,this⟩
 exact key.2
theorem kn (n:Nat) (u:jR m r s) (f:jR m r (Hd m r s)) (h:IF m r s) (hp:s.ph=0) (he:(Dr r n (m,Hd m r s)).2.2.ph=0):
  IF (Dr r n (m,Hd m r s)).2.1 r (Dr r n (m,Hd m r s)).2.2/\MK (Dr r n (m,Hd m r s)).2.1/\(∀ a,Aw (Dr r n (m,Hd m r s)).2.1 a=true↔a ∈ E9 m r) /\ ∀ a,a ∈ E9 (Dr r n (m,Hd m r s)).2.1 r↔a ∈ E9 m r:=by
 obtain ⟨J,i,p,c,T⟩:=id u;have b:=T.mo;obtain ⟨g,y⟩:=dK b h T.tok hp (h.va T.tok hp);have S:=Ro (K:=(· ∈ E9 m r)) r n (m,Hd m r s) f g (g.ki b) (g.whole b);have up:=mB r n (m,Hd m r s) f g (vY b h T.tok hp) (by dsimp only; rw[y]; decide) he;have t:Rel (Kp m (· ∈ AW r)) m (Dr r n (m,Hd m r s)).2.1:=fun a d=>by
  obtain ⟨j,k,l,o,q⟩:=S.rel a ((E8 b r).2 d);exact ⟨j,k,l,o,fun x=>(q x).imp id fun ⟨e,v⟩=>⟨e,v.imp (fun ⟨z,A,B⟩=>⟨z,A,fun w=>B ((E8 b r).2 w)⟩) id⟩⟩
 refine ⟨S.run,S.hm,fun a=>⟨fun d=>(E8 b r).2 (up a d),fun d=>(S.rel a d).1⟩,fun a=>⟨fun d=>(E8 b r).2 (up a ((E8 S.hm r).1 d).has),fun d=>(E8 S.hm r).2 (Kp.rel b t ((E8 b r).1 d))⟩⟩
end
section
variable {J:Aa} {Y:YI} {z:YS}
theorem fC (k:Nat) (s:40000<=k) {lo:Nat} {b:BL}:∀ (n x f:Nat) (J:Aa) (Y:YI) (z:YS),Rq J Y z->ir z->z.m.births+n<=800000->z.L.length+3*n<=80000->(∀ p ∈ Y.fl,lo<=p)->lo<=J.length->Mo lo J 10 b->x+n=40->n<f ->
  ∃ J' q g,Fc (k+21) f b.p b.n b.c (JL Y.X) (x:Int) J=some (.exit 0,[],J')/\Rq J' q g/\ir g/\q.X.xb=Y.X.xb/\g.m.births<=800000/\g.L.length<=80000
 | n,x,0,J,Y,z,h,d,hb,M,t,c,i,O,N=>by omega
 | n,x,f+1,J,Y,z,h,d,hb,M,t,c,i,O,N=>by
   rw[SN];by_cases a:x<b.n/\(x:Int)<40;rotate_left
   ·simp only[sv J a,AI,By];exact ⟨J,Y,z,rfl,h,d,rfl,by omega,by omega⟩
   obtain ⟨l,j⟩:=a;obtain ⟨n,rfl⟩:∃ S,n=S+1:=⟨n-1,by omega⟩;have o:=qSu x b.n (by omega);have V:=wSu x (by omega);obtain ⟨pq,u0,u1,u2,u3,u4,u5,u6,u7,u8,u9,r,L,A,B,C,D,E,F,G,H,I,K⟩:=xu i l;obtain ⟨Z,st,_,J1_,Y1,es,v,Q,u,k1,i1⟩:=wA k s h d (by omega) (by omega) L;obtain ⟨U,r2,r3⟩:=st.run d ⟨_,_,_,_,h.x.t⟩ v.x.t.mo;obtain ⟨w,m,T⟩:=sx Q c t i;obtain ⟨J2_,Y2,z2,e,X,R2,W,y,P⟩:=fC k s n (x+1) f J1_ Y1 Z v U (by omega) (by omega) T m w (by omega) (by omega);have ex:JL Y1.X=JL Y.X:=by unfold JL; rw[u]
   rw[ex,r] at e;refine ⟨J2_,Y2,z2, ?_,X,R2,W.trans u,y,P⟩;simp only[dTu x b.n (by omega),IS,Aak j,AI,o,Aat,r,IT,IN,Ad3,Nat.reduceAdd,A,B,C,D,E,F,G,H,I,K,es,An,Aa4,By,V,e]
theorem dT (k:Nat) (a:20000<=k) (h:Rq J Y z):YG (Bm (k+17) (Jx Y.X) J) J Y (.tuple #[qIi ((Dr z.r 7000 (z.m,z.s)).1:Int),qIi 0]) { z with m:=(bS z.r (z.m,z.s)).1,s:=(bS z.r (z.m,z.s)).2 }/\(bS z.r (z.m,z.s)).2.ph=0:=⟨h.go (cz k a h.x.k),(nu k a h.x).2⟩
def zf (z:YS):Prop:=∀ a,Aw z.m a=true↔a ∈ E9 z.m z.r
theorem fD (k:Nat) (F:40000<=k):∀ (n x f:Nat) (J:Aa) (Y:YI) (z:YS),Rq J Y z->ir z->z.s.ph=0->x+n=2->n<f ->
  ∃ J' l g,Fe (k+17) f (JL Y.X) (x:Int) J=some (.exit 2,[],J')/\Rq J' l g/\ir g/\g.s.ph=0/\l.X.xb=Y.X.xb/\(zf z\/0<n->zf g)
 | n,x,0,J,Y,z,h,b,hp,t,r=>by omega
 | 0,x,f+1,J,Y,z,h,b,hp,t,r=>by
   rw[MS];simp only[Aaj (show ¬ (x:Int)<2 by omega),By];exact ⟨J,Y,z,rfl,h,b,hp,rfl,fun h=>h.resolve_right (by decide)⟩
 | n+1,x,f+1,J,Y,z,h,b,hp,t,r=>by
   have I:=wSu x (by omega);obtain ⟨s1,s2⟩:=b.run.sound (by rw[hp]; decide);obtain ⟨J1_,Y1,i,e,T,d,Q,i1⟩:=h.go (Yy (k+3) (by omega) h.x.k hp (qK s1 s2));have i:Bt (k+17) (Jx Y.X) J=_:=i;obtain ⟨⟨J2_,Y2,C,M,U,u,S,i2⟩,q⟩:=dT k (by omega) e;obtain ⟨y,P,A,B⟩:=kn 7000 ⟨_,_,_,_,h.x.t⟩ ⟨_,_,_,_,e.x.t⟩ b.run hp q;have E:=Ro (K:=fun _=>False) z.r 7000 (z.m,Hd z.m z.r z.s) ⟨_,_,_,_,e.x.t⟩ (dK h.x.t.mo b.run h.x.t.tok hp (b.run.va h.x.t.tok hp)).1 ⟨fun _ _ c=>c.elim,fun _ _ c=>c.elim⟩ fun _ c=>c.elim;have R2:ir { z with m:=(bS z.r (z.m,Hd z.m z.r z.s)).1,s:=(bS z.r (z.m,Hd z.m z.r z.s)).2 }:=⟨y,E.lk.trans (((Dx z.m _ _).2.2.1).trans b.lk)⟩;have v:zf { z with m:=(bS z.r (z.m,Hd z.m z.r z.s)).1,s:=(bS z.r (z.m,Hd z.m z.r z.s)).2 }:=fun a=>(A a).trans (B a).symm;obtain ⟨J3_,Y3,O,p,N,w,H,L,G⟩:=fD k F n (x+1) f J2_ Y2 _ M R2 q (by omega) (by omega);have D:JL Y1.X=JL Y.X:=by unfold JL; rw[d]
   have j:JL Y2.X=JL Y.X:=by unfold JL; rw[u,d]
   have o:=e.xr;rw[d] at o;rw[j] at p;refine ⟨J3_,Y3,O, ?_,N,w,H,L.trans (u.trans d),fun _=>G (.inl v)⟩;rw[MS];simp only[Aak (show (x:Int)<2 by omega),IS,AI,IN,h.xr,i,Ah,Abx,By,o,C,B6,I,p]
theorem pR:∀ {l d:List Int},l.Pairwise (·<·)->d.Pairwise (·<·)->(∀ a,a ∈ l↔a ∈ d)->l=d
 | [],[],_,_,_=>rfl
 | [],b::d,_,_,h=>by have:=(h b).2 Acj; cases this
 | a::l,[],_,_,h=>by have:=(h a).1 Acj; cases this
 | a::l,b::d,h1,k,h=>by
   have i:=Ad9.1 h1;have j:=Ad9.1 k;have g:a=b:=by
    rcases Acd.1 ((h a).1 Acj) with e | e
    ·exact e
    ·rcases Acd.1 ((h b).2 Acj) with f | f
     ·exact f.symm
     ·have:=i.1 b f; have:=j.1 a e; omega
   subst g;congr 1;refine pR i.2 j.2 fun x=>⟨fun c=>?_,fun c=>?_⟩
   ·rcases Acd.1 ((h x).1 (Ab7 _ c)) with e | e
    ·subst e; have:=i.1 x c; omega
    ·exact e
   ·rcases Acd.1 ((h x).2 (Ab7 _ c)) with e | e
    ·subst e; have:=j.1 x c; omega
    ·exact e
theorem rA {m:HM} {r:D4} (b:D3 m (E9 m r)) (h:∀ a,Aw m a=true↔a ∈ E9 m r):DW m=E9 m r:=by
 refine pR ?_ b.so fun a=>QU.symm.trans (h a);unfold DW Cq;exact Ahz.2 ((K1 m).imp fun h=>by omega)
theorem nc (k:Nat) (hk:40000<=k) (B:Bg) {b:BL} {lo:Nat} (hA:Q4 lo J B) (hU:Mo lo J 10 b) (ac:lo<=J.length):
  ∃ J',JS (k+22) B.bl B.mu (B.ob.p,B.ob.n,B.ob.c) (B.de.p,B.de.n,B.de.c) (B.li.p,B.li.n,B.li.c) (B.pl.p,B.pl.n,B.pl.c) (B.pi.p,B.pi.n,B.pi.c) (b.p,b.n,b.c) J=some (.bool true,J'):=by
 obtain ⟨m,r,hM,hR,E,aa,run⟩:=rE (k+6) (by omega) B hA.b0 hA.m0;obtain ⟨e,i⟩:∃ e,Au.cells [.int .u8 B.bl,.int .u8 B.mu,.slice B.ob.p B.ob.n B.ob.c,.slice B.de.p B.de.n B.de.c,.slice B.li.p B.li.n B.li.c,.slice B.pl.p B.pl.n B.pl.c,.slice B.pi.p B.pi.n B.pi.c] D0 true=e:=⟨_,rfl⟩;have ld:∀ Z:Aa,Z[J.length]?=some e->Aj .u8 Z J.length 0=some B.bl/\Aj .u8 Z J.length 1=some B.mu/\Be Z J.length 2=some (B.ob.p,B.ob.n,B.ob.c)/\Be Z J.length 3=some (B.de.p,B.de.n,B.de.c)/\Be Z J.length 4=some (B.li.p,B.li.n,B.li.c)/\Be Z J.length 5=some (B.pl.p,B.pl.n,B.pl.c)/\Be Z J.length 6=some (B.pi.p,B.pi.n,B.pi.c):=by
  intro Z hμ;simp[Aj,Be,CW,hμ,<- i,dM,Bk]
 obtain ⟨J1_,X,M,g1,U,I,l1,q1⟩:=run lo (J++[e]) (hA.DR fun q P=>AT (by omega)) (by rw[Aaw]; omega);have G:∀ q,q<J.length->J1_[q]?=J[q]?:=fun q P=>by rw[q1 q (by simp; omega),AT P]
 rw[Aaw,Ac3] at l1 I;obtain ⟨u0,u1,u2,u3,u4,u5,u6⟩:=ld (J++[e]) Ab5;unfold np at M;have y1:=Rq.new g1 U;have T:Mo lo J1_ 10 b:=hU.DR fun p hp=>G p (by omega);have n0:∀ p ∈ (⟨X,(none,0,0),(none,0,0)⟩:YI).fl,lo<=p:=fun p hp=>by
  rcases Aas.1 hp with hp | hp
  ·obtain ⟨L,E,hp⟩:=Adw.1 hp;have:=I L E p hp; omega
  ·simp[hs] at hp
 obtain ⟨J2_,Y2,s,u,o,R2,v,b2,l2⟩:=fC k hk 40 0 (k+21) J1_ _ _ y1 ⟨vc hM hR E,rfl⟩ (by dsimp only; omega) (by simp) n0 (by omega) T (by omega) (by omega);rw[show ((0:Nat):Int)=0 from rfl] at u;have u:Fc (k+21) (k+21) b.p b.n b.c (JL X) 0 J1_=_:=u;obtain ⟨⟨J3_,Y3,y,y3,m3,Q,k3,i3⟩,h3⟩:=dT (k+4) (by omega) o;have y:Bm (k+21) (Jx Y2.X) J2_=_:=y;have O:=Ro (K:=(· ∈ E9 s.m s.r)) s.r 7000 (s.m,s.s) ⟨_,_,_,_,o.x.t⟩ R2.run (R2.run.ki o.x.t.mo) (R2.run.whole o.x.t.mo);obtain ⟨c,Y4,w,g,d,R4,p4,x4,j4⟩:=fD (k+4) (by omega) 2 0 (k+21) J3_ Y3 _ y3 ⟨O.run,O.lk.trans R2.lk⟩ h3 (by omega) (by omega);rw[show ((0:Nat):Int)=0 from rfl] at g;have g:Fe (k+21) (k+21) (JL Y3.X) 0 J3_=_:=g;have Y:JL Y2.X=JL X:=by unfold JL; rw[v]
 have C:JL Y3.X=JL X:=by unfold JL; rw[Q,v]
 rw[C] at g;have f:=o.xr;rw[v] at f;have hJ:=j4 (.inr (by decide));obtain ⟨t,s5,z,N⟩:=aB (k+15) (by omega) d.x.t.h;have z:B8 (k+21) (AU Y4.X.I.i) c=_:=z;have S:=d.app t;obtain ⟨o6,H,A,g6,n⟩:=Xl (k+9) (by omega) S.x;have A:BJ (k+21) (ID Y4.X.I) (c++t)=_:=A;have D:Cq (D8 w.m 0 (32*w.m.bls.length))=E9 w.m w.r:=rA n hJ;rw[D] at N;have ab:=n.len d.x.t.mo.nt;have V:=ij (J:=c++t++H) (k+20) ((Bf.ints N).app H).g g6.li.g (by omega) (by omega);obtain ⟨x,W⟩:=uy (k+3) (by omega) (c++t++H);have j:=d.x.H7;have F:=d.x.dU;have l:=S.x.H7;have h:Y4.X.xb=X.xb:=x4.trans (Q.trans v);rw[h] at j l;have kp:(c++t)[X.xb]?=c[X.xb]?:=AT (by rw[<- h]; exact d.x.xbl);refine ⟨x, ?_⟩;rw[Wf];simp only[Ae,i,IN,Aa0,Nat.reduceAdd,u0,u1,u2,u3,u4,u5,u6,AI,M,yR,Acx,By,u,Aat,f,y,B6,Abx,g,j,F,z,dM,Pe (a:=⟨X.xb,0,none⟩) kp,l,A,V,An,IS,W]
theorem mX (k:Nat) (d:40000<=k) (B:Bg) {lo:Nat} (hA:Q4 lo J B) (a:lo<=J.length) {b:BL} (c:Mo J.length J 10 b):
  ∃ J',fn P X H (k+22) 8 [.agg #[.int .u8 B.bl,.int .u8 B.mu,.slice B.ob.p B.ob.n B.ob.c,.slice B.de.p B.de.n B.de.c,.slice B.li.p B.li.n B.li.c,.slice B.pl.p B.pl.n B.pl.c,.slice B.pi.p B.pi.n B.pi.c],.slice b.p b.n b.c] J=some (.bool true,J'):=by
 obtain ⟨J',h⟩:=nc k d B (Acq hA a) c (Aa1 _);exact ⟨J',(Y0 (k+22) B.bl B.mu (B.ob.p,B.ob.n,B.ob.c) (B.de.p,B.de.n,B.de.c) (B.li.p,B.li.n,B.li.c) (B.pl.p,B.pl.n,B.pl.c) (B.pi.p,B.pi.n,B.pi.c) (b.p,b.n,b.c) J).trans h⟩
end
end
end Go.Proofs.YtjbledomkmdkmaaGreat
