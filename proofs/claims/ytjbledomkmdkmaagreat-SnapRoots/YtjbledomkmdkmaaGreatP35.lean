/- A run: what is kept by name, the begin of a cycle, a cycle to its end, places that are set.; What calls change of a heap, as it is seen: objects, shap -/
import Derived.Test.YtjbledomkmdkmaaGreatP34
import Derived.Test.YtjbledomkmdkmaaGreatP25
set_option linter.unusedVariables false
set_option linter.unusedSimpArgs false
set_option linter.unusedSectionVars false
namespace Go.Proofs.YtjbledomkmdkmaaGreat
open Go Go.AX
noncomputable section
local instance yI:AA:=Ap
section
variable {J:Aa} {m:HM} {r:DX} {s:TC} {X:XI} {i:Cd} {p:PI} {q:QI}
def LH (nb:Nat) (s:TC):Nat:=2*(32*nb-Xk nb s.ws)+s.list.length
def JS (nb:Nat) (s:TC):Nat:=if s.ph=0 then 0 else if s.ph=2 then s.left.length+1 else LH nb s+67
theorem rZ (nb:Nat) (ws:List (BitVec 64)):Xk nb ws<=32*nb:=jQ _ _
theorem jm (h:Sv m.bls.length s) (a:Int):LH m.bls.length (Dl m s a)+(Dl m s a).list.length<=LH m.bls.length s+s.list.length/\s.list.length<=(Dl m s a).list.length:=by
 unfold Dl;split
 ·rename_i hc;obtain ⟨j,rfl,hs⟩:=Bd hc.1;have e:((2*j:Nat):Int).toNat/2=j:=by omega
  have hz:=hc.2;unfold F5 at hz;rw[e] at hz;have h1:=(S8 h.wl hs.1 (v:=1) (by decide) (by decide)).2 hz;have h2:=rZ m.bls.length (Fm 2 s.ws j 1);unfold LH Ij;simp only[e,yi,ze,zo];omega
 ·exact ⟨yj _,yj _⟩
theorem Oo (hn:m.bls.length<=64):∀ (l:List Int) (s:TC),Sv m.bls.length s->s.ph≠2->LH m.bls.length (CA m s l)+(CA m s l).list.length<=LH m.bls.length s+s.list.length/\s.list.length<=(CA m s l).list.length
 | [],s,h,hp=>⟨yj _,yj _⟩
 | a::l,s,h,hp=>by
   obtain ⟨a1,a2⟩:=jm h a;obtain ⟨b1,b2⟩:=Oo hn l (Dl m s a) (h.qI hn hp a) (by rw[(Nf m s a).1]; exact hp);exact ⟨zj b1 a1,zj a2 b2⟩
theorem nJ (hn:m.bls.length<=64) (h:Sv m.bls.length s) (h':Sv (Jq m r s).1.bls.length (Jq m r s).2) (hp:s.ph≠0):JS (Jq m r s).1.bls.length (Jq m r s).2<JS m.bls.length s:=by
 have hu:JS m.bls.length s=if s.ph=2 then s.left.length+1 else LH m.bls.length s+67:=by unfold JS; rw[ym hp]
 rw[hu];by_cases h2:s.ph=2
 ·rw[yk h2];unfold Jq;rw[yk h2];unfold ZC;cases hl:s.left with
  | nil=>
    simp only;have:JS m.bls.length (TB (32*m.bls.length) s)=0:=by unfold TB JS; rw[yk hl]; simp
    rw[this]; simp
  | cons b l=>
    simp only;unfold TB;by_cases hl0:l=[]
    ·simp only[hl0,ye];unfold JS; simp
    ·simp only[ym hl0];unfold JS;simp[h2]
 ·rw[ym h2];unfold Jq;rw[ym h2];by_cases hl:s.list≠[]
  ·rw[yk hl];simp only;unfold mU;cases hq:s.list with
   | nil=>exact absurd hq hl
   | cons a l=>
     simp only;have h1:Sv m.bls.length { s with list:=l }:=⟨h.wl,by have:=h.ls; rw[hq] at this; simp at this ⊢; omega,fun v hv=>h.lr v (by rw[hq]; exact yJ _ hv),h.lf,h.l0,fun e=>absurd e h2⟩;have hL:LH m.bls.length s=LH m.bls.length { s with list:=l }+1:=by unfold LH; rw[hq]; simp; omega
     split
     ·rename_i ha;obtain ⟨j,rfl,hs⟩:=Bd ha;have h3:=Oo hn (IC m ((2*j:Nat):Int)) { s with list:=l } h1 h2;have h4:=Sv.Sq hn (IC m ((2*j:Nat):Int)) { s with list:=l } h1 h2;have hph:=(HA m (IC m ((2*j:Nat):Int)) { s with list:=l }).1;generalize CA m { s with list:=l } (IC m ((2*j:Nat):Int))=s2 at *;have e:((2*j:Nat):Int).toNat/2=j:=by omega
      have h5:=(S8 h4.wl hs.1 (v:=2) (by decide) (by decide)).1;have h6:LH m.bls.length (Ij s2 ((2*j:Nat):Int) 2)<=LH m.bls.length s2:=by unfold LH Ij; simp only[e]; omega
      have h7:(Ij s2 ((2*j:Nat):Int) 2).ph=s.ph:=hph;unfold JS;rw[h7,ym hp,ym h2];omega
     ·unfold JS;rw[ym (show ¬ ({ s with list:=l }:TC).ph=0 from hp),ym (show ¬ ({ s with list:=l }:TC).ph=2 from h2)];omega
  ·rw[ym hl];have hl:s.list=[]:=Aca.1 hl;unfold YY;have hs1:∃ s1,(if s.look then CA m s (Eu r) else s)=s1/\Sv m.bls.length s1/\s1.ph=s.ph/\LH m.bls.length s1+s1.list.length<=LH m.bls.length s:=by
    refine ⟨_,rfl, ?_⟩;split
    ·have:=Oo hn (Eu r) s h h2;rw[hl] at this;exact ⟨Sv.Sq hn _ _ h h2,(HA m _ s).1,by simpa using this.1⟩
    ·exact ⟨h,rfl,by rw[hl]; simp⟩
   obtain ⟨s1,e1,t1,p1,n1⟩:=hs1;simp only[e1];have hs2:∃ s2,dZ m s1=s2/\s2.ph=s.ph/\LH m.bls.length s2+s2.list.length<=LH m.bls.length s:=by
    refine ⟨_,rfl, ?_⟩;unfold dZ;have hp1:s1.ph≠2:=by rw[p1]; exact h2
    have:=(Oo hn (Un m s1 (Ga m)) s1 t1 hp1).1;exact ⟨((HA m _ s1).1).trans p1,by omega⟩
   obtain ⟨s2,e2,p2,n2⟩:=hs2;unfold Jq YY at h';rw[ym h2,ym (by rw[hl]; simp)] at h';simp only[e1,e2] at h' ⊢;by_cases hl2:s2.list≠[]
   ·rw[yk hl2];simp only;have:0<s2.list.length:=Aba.2 hl2;unfold JS;rw[p2,ym hp,ym h2];omega
   ·rw[ym hl2] at h' ⊢;simp only at h' ⊢;have hlf:(s2.left++XB (Sy m s2 (Ga m))).length<=64:=h'.lf;unfold JS;simp only[ye,show ((2:Int)=0)=False from by simp,yq];omega
theorem bK (h:Sv m.bls.length s) (hn:m.bls.length<=64):JS m.bls.length s<=7000:=by
 have:=h.len;have:=h.lf;unfold JS LH;split
 ·omega
 ·split <;> omega
theorem PC (k:Nat) (hk:5000<=k) (cb:Nat):∀ (n x f:Nat) (J:Aa) (c:CI) (m:HM) (s:TC),JT J i p c m r s->c.cb=cb->JS m.bls.length s<=n->n<f->x+n<=30000 ->
  ∃ J' c',ET (k+15) f (some ⟨cb,0,none⟩) (x:Int) J=some (.exit 0,[.int .i64 ((x+(Cz r n (m,s)).1:Nat):Int)],J')/\JT J' i p c' (Cz r n (m,s)).2.1 r (Cz r n (m,s)).2.2/\Mv (i.l++c.l) (i.l++c'.l) J J'/\c'.cb=cb/\(Cz r n (m,s)).2.2.ph=0
 | n,x,0,J,c,m,s,T,hc,hu,hf,hx=>by omega
 | 0,x,f+1,J,c,m,s,T,hc,hu,hf,hx=>by
   have d4:Ak .i64 J cb 4=some s.ph:=by rw[<- hc]; exact T.co.ZV
   have hp:s.ph=0:=by
    apply zk;intro hp;unfold JS at hu;rw[ym hp] at hu;split at hu <;> omega
   rw[KM];simp only[AI,IN,yl,d4,hp,yr,By];exact ⟨J,c,rfl,T,Mv.refl _ _,hc,hp⟩
 | n+1,x,f+1,J,c,m,s,T,hc,hu,hf,hx=>by
   have w1:Ar ((x:Int)+1)=((x+1:Nat):Int):=Ah (by unfold AK; omega);have d4:Ak .i64 J cb 4=some s.ph:=by rw[<- hc]; exact T.co.ZV
   rw[KM,Cz];simp only[AI,IN,yl,d4];by_cases hp:s.ph=0
   ·rw[yk hp,show (s.ph != 0)=false from by rw[hp]; rfl];simp only[By];exact ⟨J,c,rfl,T,Mv.refl _ _,hc,hp⟩
   ·rw[ym hp,show (s.ph != 0)=true from zr.2 hp];obtain ⟨J1_,c1,e1,T1,m1,b1⟩:=kN k hk T;have hless:=nJ (r:=r) T.mo.nt T.tok T1.tok hp;obtain ⟨J2_,c2,e2,T2,m2,b2,n2⟩:=PC k hk cb n (x+1) f J1_ c1 (Jq m r s).1 (Jq m r s).2 T1 (b1.trans hc) (by omega) (by omega) (by omega);have e1':DJ (k+15) (some ⟨cb,0,none⟩) J=some (.tuple #[],J1_):=by rw[<- hc]; exact e1
    refine ⟨J2_,c2, ?_,T2,m1.trans m2,b2,n2⟩;simp only[IT,e1',AI,Gs,w1,e2];rw[show x+1+(Cz r n (Jq m r s)).1=x+((Cz r n (Jq m r s)).1+1) from by omega]
abbrev VV (r:DX) (q:HM × TC):HM × TC:=(Cz r 7000 q).2
theorem Yw (k:Nat) (hk:20000<=k) (h:MF J X m r s):XG (BF (k+17) (KY X) J) J X r (.tuple #[.int .i64 ((Cz r 7000 (m,s)).1:Int),.int .i64 0]) (VV r (m,s))/\(VV r (m,s)).2.ph=0:=by
 have em:AE (k+15) (Dd X.c) J=_:=HH (k+14) h.t.co;obtain ⟨J',c',e,T',m',b',n'⟩:=PC k (by omega) X.c.cb 7000 0 (k+15) J X.c m s h.t rfl (bK h.t.tok h.t.mo.nt) (by omega) (by omega);rw[show ((0:Nat):Int)=0 from rfl] at e;have ef:Gr (k+16) (Dd X.c) J=some (.tuple #[.int .i64 ((Cz r 7000 (m,s)).1:Int),.int .i64 0],J'):=by
  rw[Mq];simp only[em,AI,Ao,yp,By,e,ye,D7,IN]
 obtain ⟨h',mm'⟩:=h.turn T' m' b';refine ⟨⟨J',_, ?_,h',mm',rfl,rfl⟩,n'⟩;rw[Jw];have ec:Al (k+16) (KY X) J=_:=h.core (k+15);simp only[ec,AI,HD,ef,Cp]
theorem aA (k:Nat) (h:MF J X m r s):Bz (k+3) (KY X) J=some (.int .i64 s.freed,J):=by
 rw[JM];have ec:Al (k+2) (KY X) J=_:=h.core (k+1);have ep:GJ (k+2) (Dd X.c) J=some (.int .i64 s.freed,J):=by
  rw[MM];have em:AE (k+1) (Dd X.c) J=_:=HH k h.t.co;simp only[em,AI,Ao,yp,By,IN,yl,h.t.co.wR]
 simp only[ec,AI,HD,ep,Ag]
theorem MF.vG (h:MF J X m r s):BR J X.I.sb 1=some (FD X.I.p):=by simp[BR,D5,h.sc,GV,HD]
theorem MF.wS (h:MF J X m r s):BR J X.I.sb 3=some (JA X.I.q):=by simp[BR,D5,h.sc,GV,HD]
theorem MF.xD (h:MF J X m r s):X.I.sb<J.length:=Af h.sc
theorem MF.xH (h:MF J X m r s):X.xb<J.length:=by
 obtain ⟨_,_,_,e⟩:=h.run;exact Af e
theorem MF.uL (h:MF J X m r s) (kp lo bn:Value):MF (J.set X.xb (.cells [.pointer (Ji X.I),.pointer (KY X),kp,lo,bn] AW true)) X m r s/\Mv X.Ls.flatten X.Ls.flatten J (J.set X.xb (.cells [.pointer (Ji X.I),.pointer (KY X),kp,lo,bn] AW true)):=by
 have dj:=fun {a b:Nat} (ha:a<X.Ls.length) (hb:b<X.Ls.length) (hne:b≠a)=>h.fp.ne ha hb hne;have kq:∀ y (hy:y<X.Ls.length),y≠3 -> ∀ x ∈ X.Ls[y],(J.set X.xb (.cells [.pointer (Ji X.I),.pointer (KY X),kp,lo,bn] AW true))[x]?=J[x]?:=fun y hy hn x hx=>by
  refine yc fun e=>?_;exact dj (a:=y) (b:=3) hy (by simp[XI.Ls]) (yW hn) x hx (by rw[<- e]; simp[XI.Ls])
 refine ⟨⟨⟨kp,lo,bn,yo h.xH⟩,(kq 4 (by simp[XI.Ls]) (by decide) X.kb (by simp[XI.Ls])).trans h.col,(kq 5 (by simp[XI.Ls]) (by decide) X.I.sb (by simp[XI.Ls])).trans h.sc,h.t.Aw (by simp) (kq 0 (by simp[XI.Ls]) (by decide)) (kq 1 (by simp[XI.Ls]) (by decide)) (kq 2 (by simp[XI.Ls]) (by decide)), ?_,⟨h.fp.dj,fun L hL x hx=>by rw[yZ]; exact h.fp.lt L hL x hx⟩⟩,Mv.set _ _ (zm.2 ⟨[X.xb],by simp[XI.Ls],by simp⟩)⟩;obtain ⟨rq,a,b⟩:=h.q;exact ⟨rq,a.Aw (kq 6 (by simp[XI.Ls]) (by decide)),b⟩
theorem MF.qp {J':Aa} {r':DX} (h:MF J X m r s) (hr:Gv J' X.I.p r') (hm:Mv X.I.p.l X.I.p.l J J') (hmu:r'.mu=r.mu):MF J' X m r' s/\Mv X.Ls.flatten X.Ls.flatten J J':=by
 have kq:∀ y (hy:y<X.Ls.length),y≠1 -> ∀ x ∈ X.Ls[y],J'[x]?=J[x]?:=fun y hy hn x hx=>hm.same x (h.fp.lt _ (yU hy) x hx) (h.fp.ne (x:=y) (y:=1) hy (by simp[XI.Ls]) (yW hn) x hx);refine ⟨⟨?_,(kq 4 (by simp[XI.Ls]) (by decide) X.kb (by simp[XI.Ls])).trans h.col,(kq 5 (by simp[XI.Ls]) (by decide) X.I.sb (by simp[XI.Ls])).trans h.sc,⟨h.t.h.Aw (kq 0 (by simp[XI.Ls]) (by decide)),h.t.mo,hr,h.t.co.Aw (kq 2 (by simp[XI.Ls]) (by decide)),⟨h.t.fp.dj,fun L hL x hx=>yG (h.t.fp.lt L hL x hx) hm.len⟩,h.t.tok⟩, ?_,⟨h.fp.dj,fun L hL x hx=>yG (h.fp.lt L hL x hx) hm.len⟩⟩,hm.wide (fun x hx=>zm.2 ⟨X.I.p.l,by simp[XI.Ls],hx⟩) fun x hx=>.inl hx⟩
 ·obtain ⟨a,b,c,e⟩:=h.run;exact ⟨a,b,c,(kq 3 (by simp[XI.Ls]) (by decide) X.xb (by simp[XI.Ls])).trans e⟩
 ·obtain ⟨rq,a,b⟩:=h.q;exact ⟨rq,a.Aw (kq 6 (by simp[XI.Ls]) (by decide)),b.trans hmu.symm⟩
theorem te (k:Nat) (h:MF J X m r s) {z:Int × Nat × Nat} (hp:OP r z.1 z.2.1 z.2.2) (hz:z.1≠2) {a:Int} (ha:AK a) (h0:0<=a):∃ J',BA (k+4) (FD X.I.p) z.1 (z.2.1:Int) (z.2.2:Int) a J=some (.int .i64 0,J')/\MF J' X m (Jn r z.1 z.2.1 z.2.2 a) s/\Mv X.Ls.flatten X.Ls.flatten J J':=by
 obtain ⟨J',e,hr,hm⟩:=gT k h.t.rt hp a ha;have hs:MQ r z.1 z.2.1 z.2.2 a=(0,Jn r z.1 z.2.1 z.2.2 a):=by unfold MQ; rw[ym (fun hh=>hh.elim (by omega) fun hh=>hz hh.2)]
 rw[hs] at e hr;obtain ⟨h1,h2⟩:=h.qp hr hm (pU r z.1 z.2.1 z.2.2 a).1;exact ⟨J',e,h1,h2⟩
theorem rR (k:Nat) (h:MF J X m r s) {n:Nat} (hn:n<1000000):∃ τ,Cs (k+3) (Ji X.I) (n:Int) J=some (.agg #[.int .i64 (Gu r.mu n).1,.int .i64 ((Gu r.mu n).2.1:Int),.int .i64 ((Gu r.mu n).2.2:Int)],J++τ):=by
 obtain ⟨rq,hq,hmu⟩:=h.q;have hm1:=hq.ok.m1;have hm4:=hq.ok.m4;have h1:=h.app [Au.cells [.int .i64 0,.int .i64 0,.int .i64 0] Am true];have emu:CZ (k+2) (JA X.I.q) (J++[Au.cells [.int .i64 0,.int .i64 0,.int .i64 0] Am true])=_:=Vi k (hq.app _);rw[hmu] at emu hm1 hm4;have mx:(if (0:Int)>(n:Int) then (0:Int) else (n:Int))=(n:Int):=ym (by omega);have e40:(n:Int).tmod 40=((n % 40:Nat):Int):=Oq n 40;have hN:∀ x y z:Value,M9 (J++[Au.cells [x,y,z] Am true]) J.length 0 3=some [x,y,z]:=fun x y z=>by simp[M9]
 rw[Ll];simp only[Ae,mx,e40,show ((40:Int)=0)=False from by simp,yq];unfold Gu;by_cases q1:n % 40<24
 ·rw[yk q1,xZ (show ((n % 40:Nat):Int)<24 by omega)];have e1:((n % 40:Nat):Int).tmod (r.mu:Int)=((n % 40 % r.mu:Nat):Int):=Oq _ _;have e2:((n % 40:Nat):Int).tdiv 4=((n % 40/4:Nat):Int):=Xd _ 4;have w2:Ar ((n % 40/4:Nat):Int)=((n % 40/4:Nat):Int):=Ah (by unfold AK; omega);refine ⟨[Au.cells [.int .i64 0,.int .i64 ((n % 40 % r.mu:Nat):Int),.int .i64 ((n % 40/4:Nat):Int)] Am true], ?_⟩;simp only[IT,AI,IN,h1.wS,emu,Ag];rw[ym (by omega),ym (by decide)];simp only[e1,e2,w2,EV,AI,hN];rfl
 ·rw[ym q1,xY (show ¬ ((n % 40:Nat):Int)<24 by omega)];by_cases q2:n % 40<36
  ·rw[yk q2,xZ (show ((n % 40:Nat):Int)<36 by omega)];have w2:Ar (((n % 40:Nat):Int)-24)=((n % 40-24:Nat):Int):=by rw[Ah (by unfold AK; omega)]; omega
   refine ⟨[Au.cells [.int .i64 1,.int .i64 0,.int .i64 ((n % 40-24:Nat):Int)] Am true], ?_⟩;simp only[IT,By,w2,EV,AI,hN];rfl
  ·rw[ym q2,xY (show ¬ ((n % 40:Nat):Int)<36 by omega)];have w2:Ar (((n % 40:Nat):Int)-36)=((n % 40-36:Nat):Int):=by rw[Ah (by unfold AK; omega)]; omega
   refine ⟨[Au.cells [.int .i64 2,.int .i64 0,.int .i64 ((n % 40-36:Nat):Int)] Am true], ?_⟩;simp only[By,w2,EV,AI,hN];rfl
def GR (m:HM) (a:Int):Int:=if AU m a then m.wds.getD a.toNat 0 else 0
theorem WS (k:Nat) {sl:Bp} {l:List Int} (hl:l.length<=10000) (hi:∀ v ∈ l,AK v):∀ (n x f:Nat) (J:Aa) (o:Bp) (out:List Int),MF J X m r s->Ba J sl l->Ba J o out->(∀ b ∈ hs o,b ∉ X.Ls.flatten/\b ∉ hs sl)->out.length+n<=20000->x+n=l.length->n<f ->
  ∃ o' J',EL (k+6) f (nO X) sl.1 l.length l.length (o.1,o.2.1,o.2.2) (x:Int) J=some (.exit 0,[.slice o'.1 o'.2.1 o'.2.2],J')/\Ba J' o' (out++(l.drop x).map (GR m))/\Mv (hs o) (hs o') J J'
 | n,x,0,J,o,out,h,hS,hO,hd,hb,hx,hf=>by omega
 | 0,x,f+1,J,o,out,h,hS,hO,hd,hb,hx,hf=>by
   rw[KC];simp only[xY (show ¬ (x:Int)<((l.length:Nat):Int) by omega),By];rw[yS (by omega)];exact ⟨o,J,rfl,by simpa using hO,Mv.refl _ _⟩
 | n+1,x,f+1,J,o,out,h,hS,hO,hd,hb,hx,hf=>by
   obtain ⟨b,e,l1,_⟩:=hS.ld (x:=x) (by omega);have hmem:l.getD x 0 ∈ l:=Pg (by omega);have qx:(0<=(x:Int)/\(x:Int)<((l.length:Nat):Int))=True:=zl (by omega);have w1:Ar ((x:Int)+1)=((x+1:Nat):Int):=Ah (by unfold AK; omega);obtain ⟨ec,ei⟩:∃ ec,CS (k+6) (AM X.I.i) (l.getD x 0) J=some (.tuple #[.int .i64 (GR m (l.getD x 0)),.int .i64 ec],J):=by
    have:=du k h.t.h (l.getD x 0) (hi _ hmem);unfold GR;cases hh:AU m (l.getD x 0) with
    | true=>rw[hh] at this; exact ⟨0,by simpa using this⟩
    | false=>rw[hh] at this; exact ⟨4,by simpa using this⟩
   obtain ⟨o1,J1_,e1,g1,m1⟩:=hO.push (GR m (l.getD x 0)) Aj (by omega);have kp:∀ c,c<J.length->c ∉ hs o->J1_[c]?=J[c]?:=fun c hc hn=>m1.same c hc hn;have h1:MF J1_ X m r s:=h.Aw m1.len fun L hL c hc=>kp c (h.fp.lt L hL c hc) fun hm=>(hd c hm).1 (zm.2 ⟨L,hL,hc⟩);have hS1:Ba J1_ sl l:=hS.Aw fun c hc=>kp c (hS.lt c hc) fun hm=>(hd c hm).2 hc;obtain ⟨o2,J2_,e2,g2,m2⟩:=WS k hl hi n (x+1) f J1_ o1 _ h1 hS1 g1 (fun c hc=>by
    rcases m1.new c hc with hh | hh
    ·exact hd c hh
    ·refine ⟨fun hm=>?_,fun hm=>by have:=hS.lt c hm; omega⟩;obtain ⟨L,hL,hc'⟩:=zm.1 hm;have:=h.fp.lt L hL c hc'; omega) (by simp; omega) (by omega) (by omega);rw[e] at e2;rw[JD (l:=l) (x:=x) (by omega),zD];rw[KC];simp only[xZ (show (x:Int)<((l.length:Nat):Int) by omega),IT,AI,IN,yl,h.GK,h.fg,qx,ye,e,xQ,yH,l1,ei,Cp,Ae,e1,w1,e2];rw[ya] at g2;exact ⟨o2,J2_,rfl,g2,m1.trans m2⟩
theorem pH (k:Nat) (hk:10000<k) (h:MF J X m r s) {sl:Bp} {l:List Int} (hS:Ba J sl l) (hl:l.length<=10000) (hi:∀ v ∈ l,AK v):
  ∃ o τ,Gp (k+7) (nO X) (sl.1,sl.2.1,sl.2.2) J=some (.slice o.1 o.2.1 o.2.2,J++τ)/\Ba (J++τ) o (l.map (GR m)) /\ ∀ b ∈ hs o,J.length<=b:=by
 have hf:=hS.form;have f1:sl.2.1=l.length:=by rw[hf]
 have f2:sl.2.2=l.length:=by rw[hf]
 obtain ⟨B0,hB0⟩:∃ B0,Au.cells [] Aj true=B0:=⟨_,rfl⟩;have n0:Ba (J++[B0]) (some ⟨J.length,0,some 0⟩,0,0) []:=by rw[<- hB0]; exact (Qv.nil J true []).li
 have hsz:∀ b ∈ hs ((some ⟨J.length,0,some 0⟩,0,0):Bp),b=J.length:=fun b hb=>by simpa [hs] using hb
 obtain ⟨o,J',e1,g1,m1⟩:=WS k hl hi l.length 0 (k+6) (J++[B0]) (some ⟨J.length,0,some 0⟩,0,0) [] (h.app _) (hS.app _) n0 (fun b hb=>by
  rw[hsz b hb];refine ⟨fun hm=>?_,fun hm=>by have:=hS.lt _ hm; omega⟩;obtain ⟨L,hL,hc'⟩:=zm.1 hm;have:=h.fp.lt L hL _ hc'; omega) (by simp; omega) (by omega) (by omega);have hl':J.length<=J'.length:=by have:=m1.len; rw[yi] at this; omega
 obtain ⟨τ,rfl⟩:=FV (J:=J) (J':=J') hl' fun b hb=>by
  rw[m1.same b (by rw[yi]; omega) (fun hm=>by have:=hsz b hm; omega),AT hb]
 rw[show ((0:Nat):Int)=0 from rfl] at e1;rw[Aac,yV] at g1;refine ⟨o,τ, ?_,g1,fun b hb=>?_⟩
 ·rw[Rw];simp only[Ae,hB0,f1,f2,e1,AI,ye,Tv]
 ·rcases m1.new b hb with hh | hh
  ·rw[hsz b hh]; exact yj _
  ·rw[yi] at hh; omega
theorem pP (hn:m.bls.length<=64) {l:List Int} (h:Eh m l):∀ v ∈ l,AK v/\0<=v/\v<4096:=by
 intro v hv;obtain ⟨j,rfl,hs⟩:=Bd (h.ob v hv);have:=hs.1;unfold AK; omega
theorem ff (k:Nat) (hk:10000<=k) (h:MF J X m r s):∃ o τ,CE (k+12) (Ji X.I) J=some (.slice o.1 o.2.1 o.2.2,J++τ)/\Qv (J++τ) o (YW m r)/\Eh m (YW m r):=
 ru k hk h.fg h.vG h.xD h.t.h h.t.mo h.t.rt
theorem bL (k:Nat) (hk:20000<=k) (h:MF J X m r s) (hp:s.ph=0) (hs:OJ m r=true):XG (Ei (k+18) (nO X) J) J X r (.bool true) (m,OK m r s):=by
 obtain ⟨o1,τ1,e1,g1,ok1⟩:=ff (k+5) (by omega) h;have e1:CE (k+17) (Ji X.I) J=_:=e1;have h1:=h.app τ1;have hnt:=h.t.mo.nt;obtain ⟨o2,τ2,e2,g2,_⟩:=pH (k+10) (by omega) h1 g1.li (by have:=ok1.len hnt; omega) (fun v hv=>(pP hnt ok1 v hv).1);have e2:Gp (k+17) (nO X) (o1.1,o1.2.1,o1.2.2) (J++τ1)=_:=e2;have h2:=h1.app τ2;have e3:CY (k+17) (AM X.I.i) (J++τ1++τ2)=_:=aj (k+15) h2.t.h;obtain ⟨kp,lo,bn,hc⟩:=h2.run;generalize hμ:J++τ1++τ2=Z at *;have hlt:=Af hc;obtain ⟨h3,m3⟩:=h2.uL (.slice o2.1 o2.2.1 o2.2.2) (.slice none 0 0) (.int .i64 m.births);have s1:CT Z X.xb 2 (.slice o2.1 o2.2.1 o2.2.2)=some (Z.set X.xb (.cells [.pointer (Ji X.I),.pointer (KY X),.slice o2.1 o2.2.1 o2.2.2,lo,bn] AW true)):=by simp[CT,hc]
 have c1:(Z.set X.xb (.cells [.pointer (Ji X.I),.pointer (KY X),.slice o2.1 o2.2.1 o2.2.2,lo,bn] AW true))[X.xb]?=some (.cells [.pointer (Ji X.I),.pointer (KY X),.slice o2.1 o2.2.1 o2.2.2,lo,bn] AW true):=yo hlt;have s2:CT (Z.set X.xb (.cells [.pointer (Ji X.I),.pointer (KY X),.slice o2.1 o2.2.1 o2.2.2,lo,bn] AW true)) X.xb 3 (.slice none 0 0)=some (Z.set X.xb (.cells [.pointer (Ji X.I),.pointer (KY X),.slice o2.1 o2.2.1 o2.2.2,.slice none 0 0,bn] AW true)):=by simp[CT,c1]
 have c2:(Z.set X.xb (.cells [.pointer (Ji X.I),.pointer (KY X),.slice o2.1 o2.2.1 o2.2.2,.slice none 0 0,bn] AW true))[X.xb]?=some (.cells [.pointer (Ji X.I),.pointer (KY X),.slice o2.1 o2.2.1 o2.2.2,.slice none 0 0,bn] AW true):=yo hlt;have s3:CT (Z.set X.xb (.cells [.pointer (Ji X.I),.pointer (KY X),.slice o2.1 o2.2.1 o2.2.2,.slice none 0 0,bn] AW true)) X.xb 4 (.int .i64 m.births)=some (Z.set X.xb (.cells [.pointer (Ji X.I),.pointer (KY X),.slice o2.1 o2.2.1 o2.2.2,.slice none 0 0,.int .i64 m.births] AW true)):=by simp[CT,c2]
 obtain ⟨J',X',e4,h4,m4,hx,hk'⟩:=lR (k+3) (by omega) h3 hp hs;have e4:B5 (k+17) (KY X) _=_:=e4;have q1:∀ {ρ:Type} (x:Option ρ),G9 J (J++τ1) x=x:=fun x=>Nb _ _ x;have q2:∀ {ρ:Type} (x:Option ρ),G9 (J++τ1) Z x=x:=fun x=>by rw[<- hμ]; exact Nb _ _ x
 refine ⟨J',X', ?_,h4, ?_,hx,hk'⟩
 ·rw[Rx];simp only[AI,IN,yl,h.GK,e1,q1,ED,e2,q2,h2.GK,h2.fg,e3,Ag,s1,s2,s3,h3.E6,e4,z9]
 ·have:Mv X.Ls.flatten X.Ls.flatten J Z:=by rw[<- hμ]; exact (Mv.app _ _ _).trans (Mv.app _ _ _)
  exact (this.trans m3).trans m4
end
section
variable {m m':HM}
structure JU (m m':HM) (a:Int):Prop where
 has:AU m' a=AU m a
 shp:Aq m' a=Aq m a
 idn:GR m' a=GR m a
 ref:∀ x d,J0 m' a x d=J0 m a x d
theorem JU.refl (m:HM) (a:Int):JU m m a:=⟨rfl,rfl,rfl,fun _ _=>rfl⟩
theorem JU.trans {m1 m2 m3:HM} {a:Int} (h:JU m1 m2 a) (g:JU m2 m3 a):JU m1 m3 a:=
 ⟨g.has.trans h.has,g.shp.trans h.shp,g.idn.trans h.idn,fun x d=>(g.ref x d).trans (h.ref x d)⟩
theorem JU.Bj {a:Int} (h:JU m m' a) (x:Int):Go.Proofs.YtjbledomkmdkmaaGreat.Bj m' a x=Go.Proofs.YtjbledomkmdkmaaGreat.Bj m a x:=zC Prod.fst (h.ref x false)
theorem JU.vy {a:Int} (h:JU m m' a) (x:Int):L7 m' a x true=L7 m a x true:=zC Prod.fst (h.ref x true)
theorem Ly (j:Nat):((2*j:Nat):Int).toNat/2=j:=by omega
theorem sO (hI:Inv m) {j:Nat} (hs:Start m j) (hs':Start m' j) (hw:∀ t,t<use m j->m'.wds.getD (2*j+t) 0=m.wds.getD (2*j+t) 0):JU m m' ((2*j:Nat):Int):=by
 obtain ⟨u1,u2,u3⟩:=hI.use hs;have h1:=hw 1 (by omega);have h0:=hw 0 (by omega);rw[yl] at h0;have er:Av m' j=Av m j:=by unfold Av; rw[h1]
 have ed:Bf m' j=Bf m j:=by unfold Bf; rw[h1]
 have ek:Cr m' j=Cr m j:=by unfold Cr; rw[h1]
 obtain ⟨z1,z2,z3,z4,z5,z6⟩:=hI.size hs;refine ⟨by rw[Fi hs,Fi hs'],by rw[JC hs,JC hs',er,ed,ek], ?_,fun x d=>?_⟩
 ·unfold GR;rw[Fi hs,Fi hs',yk rfl,yk rfl,xQ,h0]
 ·have ef:B9 m' ((2*j:Nat):Int) x d=B9 m ((2*j:Nat):Int) x d:=by
   unfold B9;rw[Fi hs,Fi hs'];simp only[ye,Ly,er,ed]
  unfold J0;rw[ef];split
  ·rename_i hc;obtain ⟨j',t,hs2,e2,hw2,ht,_⟩:=Qe (w:=(B9 m ((2*j:Nat):Int) x d).1) hI (Ac5 rfl hc);have:j'=j:=by omega
   subst this;rw[hw2,xQ,show 2*j'+2+t=2*j'+(2+t) from by omega,hw _ ht]
  ·rfl
theorem nx {a:Int} (h:AU m a=false) (h':AU m' a=false):JU m m' a:=by
 refine ⟨by rw[h,h'],by unfold Aq; rw[h,h']; rfl,by unfold GR; rw[h,h']; rfl,fun x d=>?_⟩;unfold J0 B9;rw[h,h'];rfl
theorem qq (hw:m'.wds=m.wds) (hs:m'.stw=m.stw) (hl:m'.bls.length=m.bls.length) (a:Int):JU m m' a:=by
 have hh:=YR hl hs a;have er:∀ j,Av m' j=Av m j:=fun j=>by unfold Av; rw[hw]
 have ed:∀ j,Bf m' j=Bf m j:=fun j=>by unfold Bf; rw[hw]
 have ek:∀ j,Cr m' j=Cr m j:=fun j=>by unfold Cr; rw[hw]
 refine ⟨hh,by unfold Aq; rw[hh,er,ed,ek],by unfold GR; rw[hh,hw],fun x d=>?_⟩;unfold J0 B9;rw[hh,hw];simp only[er,ed]
theorem ic (m:HM) (b c x y x' y' a:Int):JU m (Bs m b c x y x' y').2 a:=by
 obtain ⟨e1,e2,e3,_⟩:=Nm m b c x y x' y';exact qq e1 e2 e3 a
structure wB (m m':HM) (a x v:Int):Prop where
 has:∀ b,AU m' b=AU m b
 shp:∀ b,Aq m' b=Aq m b
 idn:∀ b,GR m' b=GR m b
 ref:∀ b y,Bj m' b y=if b=a/\y=x then v else Bj m b y
 vy:∀ b y,L7 m' b y true=L7 m b y true
 bls:m'.bls=m.bls
 brt:m'.births=m.births
theorem Zq {a x:Int} {d:Bool} (h:¬ (0<=x/\x<if d then (Aq m a).2.1 else (Aq m a).1)):(J0 m a x d).1=0:=by
 unfold J0;rw[ym];intro hf;unfold B9 at hf;unfold Aq at h;split at hf
 ·rename_i hh;simp only[hh,ye] at h;cases d with
  | false=>
    simp only[y8,yq] at hf h;rw[ym h] at hf; simp at hf
  | true=>
    simp only[ye] at hf h;rw[ym h] at hf; simp at hf
 ·simp at hf
theorem nM (hI:Inv m) {j t:Nat} (hs:Start m j) (ht:2+t<use m j) (v:Int):(∀ b,AU (Gz m (2*j+2+t) v) b=AU m b)/\(∀ b,Aq (Gz m (2*j+2+t) v) b=Aq m b)/\(∀ b,GR (Gz m (2*j+2+t) v) b=GR m b) /\ ∀ b y d,(J0 (Gz m (2*j+2+t) v) b y d)=if b=((2*j:Nat):Int)/\(B9 m b y d)=(((2*j+2+t:Nat):Int),0) then (v,0) else J0 m b y d:=by
 have hus:=hI.use hs;have hfit:=hI.fit j hs;have key:=Vx hI hs (t:=t) (by omega) v;have hh:∀ b,AU (Gz m (2*j+2+t) v) b=AU m b:=fun b=>rfl;have e1:∀ y,Start m y->Av (Gz m (2*j+2+t) v) y=Av m y/\Bf (Gz m (2*j+2+t) v) y=Bf m y/\Cr (Gz m (2*j+2+t) v) y=Cr m y:=fun y hy=>by
  have:=key y hy 1 (by decide);exact ⟨by unfold Av; rw[this],by unfold Bf; rw[this],by unfold Cr; rw[this]⟩
 have ef:∀ b y d,B9 (Gz m (2*j+2+t) v) b y d=B9 m b y d:=fun b y d=>by
  unfold B9;rw[hh];cases hb:AU m b with
  | false=>rfl
  | true=>
    obtain ⟨z,rfl,hz⟩:=Bd hb;obtain ⟨a1,a2,_⟩:=e1 z hz;simp only[ye,Ly,a1,a2]
 refine ⟨hh,fun b=>?_,fun b=>?_,fun b y d=>?_⟩
 ·unfold Aq;rw[hh];cases hb:AU m b with
  | false=>rfl
  | true=>
    obtain ⟨z,rfl,hz⟩:=Bd hb;obtain ⟨a1,a2,a3⟩:=e1 z hz;simp only[ye,Ly,a1,a2,a3]
 ·unfold GR;rw[hh];cases hb:AU m b with
  | false=>rfl
  | true=>
    obtain ⟨z,rfl,hz⟩:=Bd hb;have:=key z hz 0 (by decide);rw[yl] at this;rw[yk rfl,yk rfl,xQ]; exact this
 ·unfold J0;rw[ef];by_cases hf:(B9 m b y d).2=0
  ·rw[yk hf,yk hf];obtain ⟨z,q,hz,rfl,hw,hq,_⟩:=Qe (w:=(B9 m b y d).1) hI (Ac5 rfl hf);have huz:=hI.use hz;rw[hw,xQ];show ((m.wds.set _ _).getD _ 0,(0:Int))=_;rw[Ca];by_cases he:2*j+2+t=2*z+2+q
   ·have hzj:z=j:=UM hI hz hs (a:=2*j+2+t) (by omega) (by omega) (by omega) (by omega);subst hzj;rw[yk ⟨he,by omega⟩,yk ⟨rfl,Ac5 (by rw[hw,he]) hf⟩]
   ·rw[ym (fun hc=>he hc.1),ym];rintro ⟨h1,h2⟩;have:=zC Prod.fst h2;rw[hw] at this;simp only at this;omega
  ·rw[ym hf,ym hf,ym];rintro ⟨h1,h2⟩;exact hf (by rw[h2])
theorem Z6 {a x:Int} (h:x<(Aq m a).1) (h0:0<=x):AU m a=true:=by
 cases hh:AU m a with
 | true=>rfl
 | false=>unfold Aq at h; rw[hh] at h; simp at h; omega
theorem gu (hI:Inv m) {a x v:Int} (h0:0<=x) (hx:x<(Aq m a).1) (hv:v=0\/AU m v=true):(Cv m a x v).1=0/\wB m (Cv m a x v).2 a x v:=by
 have hh:=Z6 hx h0;obtain ⟨j,rfl,hs⟩:=Bd hh;rw[JC hs] at hx;simp only at hx;obtain ⟨n,rfl⟩:∃ n:Nat,x=(n:Int):=⟨x.toNat,by omega⟩;have hf:=Qd hI hs hx;have hus:=hI.use hs;obtain ⟨z1,z2,z3,z4,z5,z6⟩:=hI.size hs;have hgo:Cv m ((2*j:Nat):Int) (n:Int) v=(0,Gz m (2*j+2+n) v):=by
  unfold Cv;rw[hf];simp only[ye,xQ];rw[ym];rintro ⟨h1,h2⟩;rcases hv with hv | hv
  ·exact h1 hv
  ·rw[hv] at h2; cases h2
 rw[hgo];obtain ⟨w1,w2,w3,w4⟩:=nM hI hs (t:=n) (by omega) v;have inj:∀ y d,B9 m ((2*j:Nat):Int) y d=(((2*j+2+n:Nat):Int),0)->d=false/\y=(n:Int):=by
  intro y d hd;unfold B9 at hd;rw[hh] at hd;simp only[ye,Ly] at hd;cases d with
  | false=>
    simp only[y8,yq] at hd;split at hd
    ·have:=zC Prod.fst hd;simp only at this;exact ⟨rfl,by omega⟩
    ·have:=zC Prod.snd hd; simp at this
  | true=>
    simp only[ye] at hd;split at hd
    ·have:=zC Prod.fst hd;simp only at this;omega
    ·have:=zC Prod.snd hd; simp at this
 refine ⟨rfl,w1,w2,w3,fun b y=>?_,fun b y=>?_,rfl,rfl⟩
 ·unfold Bj;rw[w4];by_cases hc:b=((2*j:Nat):Int)/\y=(n:Int)
  ·obtain ⟨rfl,rfl⟩:=hc;rw[yk ⟨rfl,hf⟩,yk ⟨rfl,rfl⟩]
  ·rw[ym hc,ym];rintro ⟨rfl,h2⟩;exact hc ⟨rfl,(inj _ _ h2).2⟩
 ·unfold L7;rw[w4,ym];rintro ⟨rfl,h2⟩;exact absurd (inj _ _ h2).1 (by decide)
structure oo (m m':HM) (a:Int) (sh:Int × Int × Int):Prop where
 L5:AU m a=false
 has:AU m' a=true
 same:∀ b,b≠a->JU m m' b
 shp:Aq m' a=sh
 idn:GR m' a=m.births+1
 ref:∀ x,Bj m' a x=0
 brt:m'.births=m.births+1
theorem iY (hI:Inv m) (hI2:Inv2 m) (hS:Sh m) {a r d c:Int} (h:(CF m a r d c).2.1=0):oo m (CF m a r d c).2.2 a (r,d,c)/\valid r d c=true:=by
 unfold CF at h ⊢;cases hv:valid r d c with
 | false=>rw[hv] at h; simp at h
 | true=>
   rw[hv] at h;simp only[ye] at h ⊢;by_cases hf:KO m a (NH (num r d c)) (-1)=0;rotate_left
   ·rw[ym hf] at h; exact absurd h hf
   rw[yk hf];have hw2:2<=NH (num r d c):=by
    have hv':=hv;rw[Jp hv];simp[valid] at hv';omega
   obtain ⟨j,rfl,hj,hfit,hap⟩:=hI.fits hS.wl (Wv _) hw2 hf;rw[Ly];have hap':∀ o,Start m o->2*o+sz m o<=2*j\/2*j+NH (num r d c)<=2*o:=fun o ho=>hap o ho (by omega);obtain ⟨p1,p2,p3,_⟩:=Je hv;have hsz:=Jp hv;have hv':=hv;simp[valid] at hv';have hnj:¬ Start m j:=fun hs=>by
    have:=hap' j hs;have:=hI.size hs;omega
   have hnone:AU m ((2*j:Nat):Int)=false:=by
    cases hb:AU m ((2*j:Nat):Int) with
    | false=>rfl
    | true=>
      obtain ⟨y,e,hy⟩:=Bd hb;exact absurd (show j=y by omega ▸ hy) (by
       intro e2; exact hnj (by rw[show j=y from by omega]; exact hy))
   have hs':Start (C9 m j (num r d c)) j:=(Is hS.sl hj).2 (.inl rfl);have wd:=fun x=>Hz hS hj (num r d c) x;have hr:Av (C9 m j (num r d c)) j=r:=by unfold Av; rw[wd,yk rfl,p1]
   have hd:Bf (C9 m j (num r d c)) j=d:=by unfold Bf; rw[wd,yk rfl,p2]
   have hk:Cr (C9 m j (num r d c)) j=c:=by unfold Cr; rw[wd,yk rfl,p3]
   have hIn:Inv (C9 m j (num r d c)):=by
    have:=(Sc hI hI2 hS ((2*j:Nat):Int) r d c).inv;unfold CF at this;rw[hv,yk rfl,yk hf,Ly] at this;exact this
   refine ⟨⟨hnone,Fi hs',fun b hb=>?_,by rw[JC hs',hr,hd,hk], ?_,fun x=>?_,rfl⟩,trivial⟩
   ·cases hh:AU m b with
    | true=>
      obtain ⟨y,rfl,hy⟩:=Bd hh;refine sO hI hy ((Is hS.sl hj).2 (.inr hy)) fun t ht=>?_;have:=hap' y hy;have:=hI.use hy;rw[wd,ym (by omega),ym (by omega)]
    | false=>
      refine nx hh ?_;cases hb':AU (C9 m j (num r d c)) b with
      | false=>rfl
      | true=>
        obtain ⟨y,rfl,hy⟩:=Bd hb';rcases (Is hS.sl hj).1 hy with rfl | hy'
        ·exact absurd rfl hb
        ·rw[Fi hy'] at hh; cases hh
   ·unfold GR;rw[Fi hs',yk rfl,xQ,wd,ym (by omega),yk rfl]
   ·by_cases hc:0<=x/\x<r
    ·obtain ⟨n,rfl⟩:∃ n:Nat,x=(n:Int):=⟨x.toNat,by omega⟩;rw[cJ hIn hs' (by rw[hr]; exact hc.2),wd,ym (by omega),ym (by omega)];refine hI2.zero _ fun y hy q1 q2=>?_;have:=hap' y hy;have:=hI.use hy;omega
    ·refine Zq ?_;rw[JC hs',hr];simpa using hc
def Edge (m:HM) (a b:Int):Prop:=∃ x:Nat,(x:Int)<(Aq m a).1/\Kq (Aq m a).2.2 (x:Int)=false/\Bj m a (x:Int)=b
inductive Kp (m:HM) (R:Int->Prop):Int->Prop
 | root {a:Int}:R a->AU m a=true->Kp m R a
 | edge {a b:Int}:Kp m R a->Edge m a b->AU m b=true->Kp m R b
 | eph {a:Int}:Kp m R a->(Aq m a).2.2=2->Kp m R (Bj m a 0)->AU m (Bj m a 1)=true->Kp m R (Bj m a 1)
variable {R:Int->Prop}
theorem Kp.has {a:Int} (h:Kp m R a):AU m a=true:=by cases h <;> assumption
structure xt (m:HM) (C:Int->Prop):Prop where
 edge:∀ a b,C a->Edge m a b->AU m b=true->C b
 eph:∀ a,C a->(Aq m a).2.2=2->C (Bj m a 0)->AU m (Bj m a 1)=true->C (Bj m a 1)
theorem Kp.min {C:Int->Prop} (hC:xt m C) (hR:∀ a,R a->AU m a=true->C a) {a:Int} (h:Kp m R a):C a:=by
 induction h with
 | root h1 h2=>exact hR _ h1 h2
 | edge _ h1 h2 ih=>exact hC.edge _ _ ih h1 h2
 | eph _ h1 _ h2 i1 i2=>exact hC.eph _ i1 h1 i2 h2
end
section
variable {m m':HM} {r:DX} {s s':TC}
def Wl (m:HM) (s:TC):Prop:=s.ws.length=(32*m.bls.length*2+63)/64
theorem Pw {a:Int}:Ko m s a=true↔AU m a=true/\F5 s a≠0:=by unfold Ko; simp
theorem mR (hw:Wl m s) {a b:Int} (ha:AU m a=true) (hb:AU m b=true) {v:Nat} (hv:v<4):F5 (Ij s a v) b=if b=a then v else F5 s b:=by
 obtain ⟨j,rfl,hs⟩:=Bd ha;obtain ⟨y,rfl,hy⟩:=Bd hb;unfold F5 Ij;simp only[Ly];rw[Pp hw hs.1 hv];by_cases h:y=j
 ·rw[yk h,yk (by rw[h])]
 ·rw[ym h,ym (by omega)]
theorem Z5 (m:HM) (s:TC) (a:Int):(Dl m s a).ws.length=s.ws.length:=by
 unfold Dl;split
 ·exact EW _ _ _ _
 ·rfl
theorem bD (hw:Wl m s) (a:Int) {b:Int} (hb:AU m b=true):F5 (Dl m s a) b=if F5 s b=0/\b=a then 1 else F5 s b:=by
 unfold Dl;by_cases hc:AU m a=true/\F5 s a=0
 ·rw[yk hc];show F5 (Ij s a 1) b=_;rw[mR hw hc.1 hb (by decide)];by_cases h:b=a
  ·rw[yk h,yk ⟨by rw[h]; exact hc.2,h⟩]
  ·rw[ym h,ym (fun hh=>h hh.2)]
 ·rw[ym hc,ym];rintro ⟨h1,rfl⟩;exact hc ⟨hb,h1⟩
theorem LS:∀ (l:List Int) (s:TC),Wl m s -> ∀ {b:Int},AU m b=true->F5 (CA m s l) b=if F5 s b=0/\b ∈ l then 1 else F5 s b
 | [],s,hw,b,hb=>by rw[ym (by simp)]; rfl
 | a::l,s,hw,b,hb=>by
   have h1:=bD hw a hb;have h2:=LS l (Dl m s a) (by unfold Wl; rw[Z5]; exact hw) hb;show F5 (CA m (Dl m s a) l) b=_;rw[h2];by_cases h0:F5 s b=0
   ·by_cases ha:b=a
    ·have h1:F5 (Dl m s a) b=1:=by rw[h1,yk ⟨h0,ha⟩]
     rw[h1,ym (by simp),yk ⟨h0,by rw[ha]; exact zi⟩]
    ·have h1:F5 (Dl m s a) b=F5 s b:=by rw[h1,ym fun hh=>ha hh.2]
     rw[h1];by_cases hl:b ∈ l
     ·rw[yk ⟨h0,hl⟩,yk ⟨h0,yJ _ hl⟩]
     ·rw[ym (fun hh=>hl hh.2),ym (fun hh=>(yL.1 hh.2).elim ha hl)]
   ·have h1:F5 (Dl m s a) b=F5 s b:=by rw[h1,ym fun hh=>h0 hh.1]
    rw[h1,ym (fun hh=>h0 hh.1),ym (fun hh=>h0 hh.1)]
theorem Sr:∀ (l:List Int) (s:TC),Wl m s -> ∀ x,x ∈ (CA m s l).list↔x ∈ s.list\/(x ∈ l/\AU m x=true/\F5 s x=0)
 | [],s,hw,x=>by simp[CA]
 | a::l,s,hw,x=>by
   show x ∈ (CA m (Dl m s a) l).list↔_;rw[Sr l (Dl m s a) (by unfold Wl; rw[Z5]; exact hw)];by_cases hx:AU m x=true
   ·rw[bD hw a hx];have hl:x ∈ (Dl m s a).list↔x ∈ s.list\/(x=a/\F5 s x=0):=by
     unfold Dl;split
     ·rename_i hc;simp only[yf,yP];exact or_congr Iff.rfl ⟨fun e=>⟨e,by rw[e]; exact hc.2⟩,fun e=>e.1⟩
     ·rename_i hc;refine ⟨.inl,fun h=>h.elim id fun e=>absurd ⟨by rw[<- e.1]; exact hx,by rw[<- e.1]; exact e.2⟩ hc⟩
    rw[hl];by_cases h0:F5 s x=0
    ·by_cases ha:x=a
     ·have h0':F5 s a=0:=by rw[<- ha]; exact h0
      have hx':AU m a=true:=by rw[<- ha]; exact hx
      simp[ha,h0',hx']
     ·simp[h0,ha,hx]
    ·simp[h0]
   ·have hl:x ∈ (Dl m s a).list↔x ∈ s.list:=by
     unfold Dl;split
     ·rename_i hc;simp only[yf,yP];exact ⟨fun h=>h.elim id fun e=>absurd (by rw[e]; exact hc.1) hx,.inl⟩
     ·exact Iff.rfl
    rw[hl];simp[hx]
def vm (m:HM):Prop:=∀ a,AU m a=true -> ∀ x:Nat,Bj m a (x:Int)=0\/AU m (Bj m a (x:Int))=true
theorem qi {a:Int} {x:Nat} (h:¬ (x:Int)<(Aq m a).1):Bj m a (x:Int)=0:=Zq (by simp only[y8,yq]; exact fun hh=>h hh.2)
theorem Ox.o (h:Ox m) (hI:Inv m):vm m:=by
 intro a ha x;by_cases hx:(x:Int)<(Aq m a).1
 ·obtain ⟨j,rfl,hs⟩:=Bd ha;rw[JC hs] at hx;rw[cJ hI hs hx];exact h j hs x hx
 ·exact .inl (qi hx)
structure vZ (m:HM) (s:TC):Prop where
 c2:∀ a,AU m a=true->F5 s a<=2
 gl:∀ a,AU m a=true->F5 s a=1->a ∈ s.list
 ln:∀ a ∈ s.list,Ko m s a=true
theorem vZ.Sq (h:vZ m s) (hw:Wl m s) (l:List Int):vZ m (CA m s l):=by
 refine ⟨fun a ha=>?_,fun a ha h1=>?_,fun a ha=>?_⟩
 ·rw[LS l s hw ha]; split
  ·decide
  ·exact h.c2 a ha
 ·rw[LS l s hw ha] at h1;rw[Sr l s hw];split at h1
  ·rename_i hc; exact .inr ⟨hc.2,ha,hc.1⟩
  ·exact .inl (h.gl a ha h1)
 ·rcases (Sr l s hw a).1 ha with h1 | ⟨h1,h2,h3⟩
  ·obtain ⟨g1,g2⟩:=Pw.1 (h.ln a h1);refine Pw.2 ⟨g1, ?_⟩;rw[LS l s hw g1]; split
   ·decide
   ·exact g2
  ·refine Pw.2 ⟨h2, ?_⟩;rw[LS l s hw h2,yk ⟨h3,h1⟩]; decide
inductive Cl (m:HM) (s:TC):Int->Prop
 | seen {a:Int}:Ko m s a=true->Cl m s a
 | edge {a b:Int}:Cl m s a->F5 s a≠2->Edge m a b->AU m b=true->Cl m s b
 | eph {a:Int}:Cl m s a->(Aq m a).2.2=2->Cl m s (Bj m a 0)->AU m (Bj m a 1)=true->Cl m s (Bj m a 1)
theorem Cl.has {a:Int} (h:Cl m s a):AU m a=true:=by
 cases h with
 | seen h=>exact (Pw.1 h).1
 | edge _ _ _ h=>exact h
 | eph _ _ _ h=>exact h
theorem Cl.min {P:Int->Prop} (h1:∀ a,Ko m s a=true->P a) (h2:∀ a b,Cl m s a->P a->F5 s a≠2->Edge m a b->AU m b=true->P b) (h3:∀ a,Cl m s a->P a->(Aq m a).2.2=2->Cl m s (Bj m a 0)->P (Bj m a 0)->AU m (Bj m a 1)=true->P (Bj m a 1)) {a:Int} (h:Cl m s a):P a:=by
 induction h with
 | seen h=>exact h1 _ h
 | edge c h e hb ih=>exact h2 _ _ c ih h e hb
 | eph c h c0 hb i1 i2=>exact h3 _ c i1 h c0 i2 hb
structure we (m:HM) (r:DX) (s:TC):Prop where
 bl:∀ a b,AU m a=true->F5 s a=2->Edge m a b->AU m b=true->Cl m s b
 rt:∀ a ∈ r.all,AU m a=true->Cl m s a
theorem Cl.up (hg:∀ a,AU m a=true->F5 s' a=F5 s a\/(F5 s a=0/\F5 s' a=1)) {a:Int} (h:Cl m s a):Cl m s' a:=by
 refine h.min (fun a ha=>?_) (fun a b c ih hc e hb=>.edge ih ?_ e hb) fun a c ih hk c0 i0 hb=>.eph ih hk i0 hb
 ·obtain ⟨h1,h2⟩:=Pw.1 ha;refine .seen (Pw.2 ⟨h1, ?_⟩);rcases hg a h1 with h | ⟨h,h'⟩
  ·rw[h]; exact h2
  ·rw[h']; decide
 ·rcases hg a c.has with h | ⟨h,h'⟩
  ·rw[h]; exact hc
  ·rw[h']; decide
theorem bE (hw:Wl m s) (l:List Int):∀ a,AU m a=true->F5 (CA m s l) a=F5 s a\/(F5 s a=0/\F5 (CA m s l) a=1):=by
 intro a ha;rw[LS l s hw ha];split
 ·rename_i h; exact .inr ⟨h.1,rfl⟩
 ·exact .inl rfl
theorem we.up (h:we m r s) (hg:∀ a,AU m a=true->F5 s' a=F5 s a\/(F5 s a=0/\F5 s' a=1)):we m r s' where
 bl:=fun a b ha hc e hb=>by
  rcases hg a ha with h1 | ⟨h1,h2⟩
  ·exact (h.bl a b ha (by rw[<- h1]; exact hc) e hb).up hg
  ·rw[h2] at hc; cases hc
 rt:=fun a ha hh=>(h.rt a ha hh).up hg
def vY (m:HM) (s:TC):Prop:=∀ a b,AU m a=true->F5 s a=2->Edge m a b->AU m b=true->F5 s b≠0
theorem vY.up (h:vY m s) (hg:∀ a,AU m a=true->F5 s' a=F5 s a\/(F5 s a=0/\F5 s' a=1)):vY m s':=by
 intro a b ha hc e hb;have h1:F5 s a=2:=by
  rcases hg a ha with h1 | ⟨h1,h2⟩
  ·rw[<- h1]; exact hc
  ·rw[h2] at hc; cases hc
 have h2:=h a b ha h1 e hb;rcases hg b hb with h3 | ⟨h3,h4⟩
 ·rw[h3]; exact h2
 ·rw[h4]; decide
structure w8 (m:HM) (r:DX) (s:TC):Prop where
 rf:vm m
 ld:OO m r
 mm:vZ m s
 inc:s.look=true->vY m s
 snp:s.look=false->we m r s
theorem w8.Sq (h:w8 m r s) (hw:Wl m s) (l:List Int):w8 m r (CA m s l):=by
 have hl:(CA m s l).look=s.look:=(HA m l s).2.2.1;exact ⟨h.rf,h.ld,h.mm.Sq hw l,fun hh=>(h.inc (hl ▸ hh)).up (bE hw l),fun hh=>(h.snp (hl ▸ hh)).up (bE hw l)⟩
structure bN (m m':HM) (Q:Int->Int->Bool):Prop where
 has:∀ b,AU m' b=AU m b
 shp:∀ b,Aq m' b=Aq m b
 idn:∀ b,GR m' b=GR m b
 ref:∀ b y,Bj m' b y=if Q b y=true then 0 else Bj m b y
 vy:∀ b y,L7 m' b y true=L7 m b y true
 bls:m'.bls=m.bls
 brt:m'.births=m.births
theorem bN.refl (m:HM):bN m m fun _ _=>false:=⟨fun _=>rfl,fun _=>rfl,fun _=>rfl,fun _ _=>rfl,fun _ _=>rfl,rfl,rfl⟩
theorem bN.trans {m1 m2 m3:HM} {Q1 Q2 Q:Int->Int->Bool} (h:bN m1 m2 Q1) (g:bN m2 m3 Q2) (hq:∀ b y,Q b y=(Q1 b y || Q2 b y)):bN m1 m3 Q:=
 ⟨fun b=>(g.has b).trans (h.has b),fun b=>(g.shp b).trans (h.shp b),fun b=>(g.idn b).trans (h.idn b),fun b y=>by
  rw[g.ref,h.ref,hq];cases Q1 b y <;> cases Q2 b y <;> rfl,fun b y=>(g.vy b y).trans (h.vy b y),g.bls.trans h.bls,g.brt.trans h.brt⟩
theorem bN.to {Q Q':Int->Int->Bool} (h:bN m m' Q) (hq:∀ b y,Q' b y=Q b y\/Bj m b y=0):bN m m' Q':=
 ⟨h.has,h.shp,h.idn,fun b y=>by
  rw[h.ref];rcases hq b y with e | e
  ·rw[e]
  ·rw[e]; simp,h.vy,h.bls,h.brt⟩
def Rel (K:Int->Prop) (m m':HM):Prop:=∀ a,K a->AU m' a=true/\Aq m' a=Aq m a/\GR m' a=GR m a/\(∀ y,L7 m' a y true=L7 m a y true) /\
 ∀ x:Nat,(Bj m' a (x:Int)=Bj m a (x:Int)/\(Bj m a (x:Int)=0\/(AU m' (Bj m a (x:Int))=true/\GR m' (Bj m a (x:Int))=GR m (Bj m a (x:Int))))) \/
  (Bj m' a (x:Int)=0/\((x=0/\((Aq m a).2.2=1\/(Aq m a).2.2=2)/\¬ K (Bj m a 0))\/(x=1/\(Aq m a).2.2=2/\Bj m' a 0=0)))
variable {K:Int->Prop}
theorem Rel.refl (h:∀ a,K a->AU m a=true /\ ∀ x:Nat,Bj m a (x:Int)=0\/AU m (Bj m a (x:Int))=true):Rel K m m:=
 fun a ha=>⟨(h a ha).1,rfl,rfl,fun _=>rfl,fun x=>.inl ⟨rfl,((h a ha).2 x).imp id fun h=>⟨h,rfl⟩⟩⟩
theorem Rel.trans {m1 m2 m3:HM} (h:Rel K m1 m2) (g:Rel K m2 m3):Rel K m1 m3:=by
 intro a ha;obtain ⟨h1,h2,h3,h4,h5⟩:=h a ha;obtain ⟨g1,g2,g3,g4,g5⟩:=g a ha;refine ⟨g1,g2.trans h2,g3.trans h3,fun y=>(g4 y).trans (h4 y),fun x=>?_⟩;have z0:Bj m2 a 0=0->Bj m3 a 0=0:=fun h0=>by
  have:=g5 0;rw[show ((0:Nat):Int)=0 from rfl] at this;rcases this with ⟨e,_⟩ | ⟨e,_⟩
  ·rw[e,h0]
  ·exact e
 rcases h5 x with ⟨e1,l1⟩ | ⟨e1,c1⟩
 ·rcases g5 x with ⟨e2,l2⟩ | ⟨e2,c2⟩
  ·left;rw[e1] at e2 l2;refine ⟨e2, ?_⟩;rcases l1 with l1 | ⟨_,i1⟩
   ·exact .inl l1
   ·rcases l2 with l2 | ⟨b2,i2⟩
    ·exact .inl l2
    ·exact .inr ⟨b2,i2.trans i1⟩
  ·right;refine ⟨e2, ?_⟩;rw[h2] at c2;rcases c2 with ⟨rfl,k2,n2⟩ | c2
   ·left;rw[show ((0:Nat):Int)=0 from rfl] at e1;exact ⟨rfl,k2,by rw[<- e1]; exact n2⟩
   ·exact .inr c2
 ·right;refine ⟨?_,c1.imp id fun ⟨a1,a2,a3⟩=>⟨a1,a2,z0 a3⟩⟩;rcases g5 x with ⟨e2,_⟩ | ⟨e2,_⟩
  ·rw[e2,e1]
  ·exact e2
def Zc (m:HM) (s:TC):Prop:=∀ j,j<32*m.bls.length->CR 2 s.ws j≠0->AU m ((2*j:Nat):Int)=true
theorem Zc.fJ (hz:Zc m s) (hw:Wl m s) {a:Int} (ha:AU m a=true) {v:Nat} (hv:v<4):Zc m (Ij s a v):=by
 obtain ⟨y,rfl,hs⟩:=Bd ha;intro j hj h0;unfold Ij at h0;simp only[Ly] at h0;rw[Pp hw hs.1 hv] at h0;by_cases he:j=y
 ·rw[he]; exact Fi hs
 ·rw[ym he] at h0; exact hz j hj h0
theorem Zc.Sq:∀ (l:List Int) {s:TC},Zc m s->Wl m s->Zc m (CA m s l)
 | [],s,hz,hw=>hz
 | a::l,s,hz,hw=>by
   show Zc m (CA m (Dl m s a) l);refine Zc.Sq l ?_ (by unfold Wl; rw[Z5]; exact hw);unfold Dl;split
   ·rename_i hc; exact hz.fJ hw hc.1 (v:=1) (by decide)
   ·exact hz
end
section
variable {J:Aa} {m m':HM} {r:DX} {s:TC} {i:Cd} {p:PI} {c:CI}
def vX (m m':HM):Prop:=m'=m \/ ∃ b c x y x' y':Int,x≠0/\(x'≠0\/c=1)/\m'=(Bs m b c x y x' y').2
theorem vX.ok (hM:MK m) (h:vX m m'):MK m'/\(∀ a,JU m m' a)/\m'.births=m.births/\m'.bls.length=m.bls.length:=by
 rcases h with rfl | ⟨b,c,x,y,x',y',h1,h2,rfl⟩
 ·exact ⟨hM,JU.refl _,rfl,rfl⟩
 ·obtain ⟨_,_,e3,e4⟩:=Nm m b c x y x' y';exact ⟨hM.Yy b c x y x' y' h1 h2,ic m b c x y x' y',e4,e3⟩
def sD (m:HM) (a:AS) (w:Int):PR:=if w>32 then YX m a w else OL m a (YO m a.s 0 w.toNat)
theorem kr (m:HM) (a:AS) (w:Int):vX m (sD m a w).2.1/\(sD m a w).2.2=a:=by
 unfold sD;split
 ·unfold YX;split
  ·rename_i b hb;exact ⟨.inr ⟨_,_,_,_,_,_,by decide,.inl (by decide),rfl⟩,rfl⟩
  ·exact ⟨.inl rfl,rfl⟩
 ·unfold OL;split
  ·exact ⟨.inl rfl,rfl⟩
  ·split
   ·exact ⟨.inr ⟨_,_,_,_,_,_,by decide,.inr rfl,rfl⟩,rfl⟩
   ·exact ⟨.inl rfl,rfl⟩
theorem mg (hl:m.bls.length<=64) {s:Int} {w:Nat}:∀ g ∈ YO m s 0 w,g.1<=4096:=by
 intro g hg;unfold YO at hg;obtain ⟨g0,h0,hc⟩:=List.mem_filterMap.1 hg;unfold Wa at h0;obtain ⟨b,_,hb⟩:=Aa1.1 h0;have:=aJ hl _ g0 hb;unfold ZQ at hc;split at hc
 ·rename_i hw;cases hc; dsimp only; omega
 ·cases hc
theorem kl {c:Nat} {s:Int}:∀ {n x b:Nat},re m c s n x=some b->b<=m.bls.length
 | 0,x,b,h=>by cases h
 | n+1,x,b,h=>by
   unfold re at h;split at h
   ·split at h
    ·cases h; omega
    ·exact kl h
   ·cases h
theorem sE (hl:m.bls.length<=64) (a:AS) (w:Int):0<=(sD m a w).1.1/\(sD m a w).1.1<=10000:=by
 unfold sD;split
 ·unfold YX;split
  ·rename_i b hb;have:=kl hb;dsimp only; omega
  ·dsimp only; omega
 ·unfold OL;split
  ·rename_i g l hg;have:=mg (m:=m) hl (s:=a.s) (w:=w.toNat) g (by rw[hg]; exact zi);dsimp only; omega
  ·split
   ·rename_i b hb;have:=iz hb;dsimp only; omega
   ·dsimp only; omega
structure xg (m m':HM) (v e:Int) (sh:Int × Int × Int):Prop where
 hm:MK m'
 len:m'.bls.length=m.bls.length
 b2:m'.births<=m.births+1
 st:(e=0/\oo m m' v sh/\valid sh.1 sh.2.1 sh.2.2=true)\/(e≠0/\(valid sh.1 sh.2.1 sh.2.2=true->e=6)/\(∀ a,JU m m' a)/\m'.births=m.births)
theorem oo.back {m1 m2 m3:HM} {a:Int} {sh:Int × Int × Int} (h:∀ a,JU m1 m2 a) (hb:m2.births=m1.births) (g:oo m2 m3 a sh):oo m1 m3 a sh:=
 ⟨by rw[<- (h a).has]; exact g.L5,g.has,fun b hne=>(h b).trans (g.same b hne),g.shp,by rw[g.idn,hb],g.ref,by rw[g.brt,hb]⟩
theorem dK (hM:MK m) (a:AS) (rr d kd:Int) (pr:PR) (hc:vX m pr.2.1):xg m (PG m a rr d kd pr).2.1 (PG m a rr d kd pr).1.1 (PG m a rr d kd pr).1.2 (rr,d,kd):=by
 obtain ⟨c1,c2,c3,c4⟩:=hc.ok hM;unfold PG;split
 ·rename_i hv;split
  ·split
   ·split
    ·rename_i h0;obtain ⟨v1,_⟩:=iY c1.inv c1.inv2 c1.sh h0;refine ⟨c1.place _ _ _ _, ?_, ?_,.inl ⟨rfl,v1.back c2 c3,hv⟩⟩
     ·show (CF _ _ _ _ _).2.2.bls.length=_;rw[(Ok _ _ _ _ _).1,c4]
     ·show (CF _ _ _ _ _).2.2.births<=_;rw[v1.brt,c3]; exact Aas _
    ·rename_i h0;have e:(CF pr.2.1 pr.1.1 rr d kd).2.2=pr.2.1:=(Sc c1.inv c1.inv2 c1.sh pr.1.1 rr d kd).err h0;refine ⟨by show MK (CF _ _ _ _ _).2.2; rw[e]; exact c1,by show (CF _ _ _ _ _).2.2.bls.length=_; rw[e]; exact c4,by show (CF _ _ _ _ _).2.2.births<=_; rw[e,c3]; omega,.inr ⟨by dsimp only; decide,fun _=>rfl, ?_, ?_⟩⟩
     ·show ∀ a,JU m (CF _ _ _ _ _).2.2 a;rw[e]; exact c2
     ·show (CF _ _ _ _ _).2.2.births=_;rw[e]; exact c3
   ·exact ⟨c1,c4,by dsimp only; omega,.inr ⟨by dsimp only; decide,fun _=>rfl,c2,c3⟩⟩
  ·exact ⟨c1,c4,by dsimp only; omega,.inr ⟨by dsimp only; decide,fun _=>rfl,c2,c3⟩⟩
 ·rename_i hv;exact ⟨hM,rfl,by dsimp only; omega,.inr ⟨by dsimp only; decide,fun hh=>absurd hh hv,JU.refl m,rfl⟩⟩
theorem vR {nb:Nat} {ws:List (BitVec 64)} (hl:ws.length=(32*nb*2+63)/64) {j:Nat} (hj:j<32*nb) (h0:CR 2 ws j=0) (y:Nat):CR 2 (Fm 2 ws j 0) y=CR 2 ws y:=by
 rw[Pp hl hj (by decide)];split
 ·rename_i e; rw[e,h0]
 ·rfl
theorem Sv.uD {nb:Nat} (h:Sv nb s) {j v:Nat} (hj:j<32*nb) (hv:v<4) (h0:v≠0\/CR 2 s.ws j=0):Sv nb (Ij s ((2*j:Nat):Int) v):=by
 by_cases hz:v=0
 ·subst hz;have h0:=h0.resolve_left (fun h=>h rfl);have e:Xk nb (Fm 2 s.ws j 0)=Xk nb s.ws:=by
   unfold Xk;congr 1;funext y;rw[vR h.wl hj h0]
  refine ⟨by show (Fm 2 s.ws _ 0).length=_; rw[EW]; exact h.wl, ?_,h.lr,h.lf,h.l0,h.s2⟩;show s.list.length<=Xk nb (Fm 2 s.ws (((2*j:Nat):Int).toNat/2) 0);rw[Ly,e]; exact h.ls
 ·exact h.fJ hj hv hz
theorem dQ (k:Nat) (p:Option Addr) (n:Int) (J:Aa):H4 k (.func (.method "dustcart/alloc.place") #[Zm 0] #[]) [.pointer p,.int .i64 n] J=Gw k p n J:=by
 simp only[H4,Gw,Ac]; kernel_rfl
theorem kO (k:Nat) (hk:5000<=k) {ab:Nat} {a:AS} (hp:a.p=0) (h:Ai J i m) (hA:DD J ab i a) (hab:ab ∉ i.l) (ho:a.ok) (hM:MK m) (hb:m.births<1000000) (rr d kd:Int):
  tg (CL (k+13) (Oy ab) rr d kd J) J i ab (PG m a rr d kd (sD m a (words rr d kd))):=by
 obtain ⟨cl,ea⟩:=kr m a (words rr d kd);obtain ⟨c1,_,c3,_⟩:=cl.ok hM;refine nT k hk h hA hab ho _ (fun hv J0_ g0 A0=>?_) (fun hv=>c1.inv) (fun hv=>by rw[c3]; exact hb) (fun hv=>sE hM.nt a _) (fun hv=>by rw[ea]);have hw:=nN hv;obtain ⟨w,hww⟩:∃ w:Nat,words rr d kd=(w:Int):=⟨(words rr d kd).toNat,by omega⟩;rw[hww];unfold sD wx;rw[xQ];by_cases q:(w:Int)>32
 ·rw[yk q,yk q,KW];exact py (k+3) (by omega) g0 A0 hab (by omega)
 ·rw[ym q,ym q,hp,show (0:Int).toNat=0 from rfl,dQ];exact YI k (by omega) g0 A0 hab ho hM.inv hM.b0 (by omega)
def GW (m:HM) (sp rr d kd:Int):(Int × Int) × HM × AS:=PG m ⟨sp,0,0,0,0,0⟩ rr d kd (sD m ⟨sp,0,0,0,0,0⟩ (words rr d kd))
theorem dJ (hM:MK m) (sp rr d kd:Int):xg m (GW m sp rr d kd).2.1 (GW m sp rr d kd).1.1 (GW m sp rr d kd).1.2 (rr,d,kd):=dK hM _ rr d kd _ (kr _ _ _).1
def Yv (s:TC):Nat:=if s.ph=1 then s.born.toNat else if s.ph=2 then 2 else 0
def Rk (m:HM) (s:TC) (sp rr d kd:Int):TC:=if (GW m sp rr d kd).1.2=0 then Ij s (GW m sp rr d kd).1.1 (Yv s) else s
theorem gE (k:Nat) (hk:5000<=k) (T:JT J i p c m r s) (hb:m.births<1000000) (hz:Zc m s) (hph:s.ph=0\/s.ph=1\/s.ph=2) (hbn:s.born=0\/s.born=2) (rr d kd:Int) {sp:Int} (hsp:0<=sp/\sp<8):
  ∃ J',HY (k+14) (Dd c) rr d kd sp J=some (.tuple #[.int .i64 (GW m sp rr d kd).1.1,.int .i64 (GW m sp rr d kd).1.2],J')/\JT J' i p c (GW m sp rr d kd).2.1 r (Rk m s sp rr d kd)/\Mv (i.l++c.l) (i.l++c.l) J J':=by
 obtain ⟨B0,hB0⟩:∃ B0,Au.cells [.int .i64 rr,.int .i64 d,.int .i64 kd] Ad true=B0:=⟨_,rfl⟩;have ldb:∀ Z:Aa,Z[J.length]?=some B0->Ak .i64 Z J.length 0=some rr/\Ak .i64 Z J.length (0+1)=some d/\Ak .i64 Z J.length (0+1+1)=some kd:=fun Z hm=>by
  simp[Ak,D5,hm,<- hB0,Bn]
 have T1:=T.app [B0];have b1:(J++[B0])[J.length]?=some B0:=yK;obtain ⟨l0,l1,l2⟩:=ldb _ b1;have em:AE (k+13) (Dd c) (J++[B0])=_:=HH (k+12) T1.co;obtain ⟨τ1,e1⟩:=Ma (k+12) rr d kd (J++[B0]);have e1:Ex (k+13) rr d kd (J++[B0])=_:=e1;rw[Tk];simp only[Ae,hB0,em,AI,Ao,yp,By,l0,l1,l2,e1];cases hv:valid rr d kd with
 | false=>
   simp only[yY,IT];have ez:GW m sp rr d kd=((0,2),m,⟨sp,0,0,0,0,0⟩):=by unfold GW PG; rw[hv]; rfl
   refine ⟨_,by rw[ez], ?_,(Mv.app _ _ _).trans (Mv.app _ _ _)⟩;unfold Rk;rw[ez,ym (show ¬ (2:Int)=0 by decide)];exact T1.app τ1
 | true=>
   have T2:=T1.app τ1;obtain ⟨J1_,e2,⟨τ2,hτ2⟩⟩:=ri (k+10) T2.h sp 0;have e2:K8 (k+13) (AM i) sp 0 (J++[B0]++τ1)=_:=e2;rw[yk ⟨hsp,by decide⟩] at e2;obtain ⟨A0,hA0⟩:∃ A0,Au.cells ((⟨sp,0,0,0,0,0⟩:AS).row i.hb) Ci true=A0:=⟨_,rfl⟩;rw[hA0] at e2;have T3:JT (J1_++[A0]) i p c m r s:=by rw[hτ2]; exact (T2.app τ2).app _
   have hA:DD (J1_++[A0]) J1_.length i ⟨sp,0,0,0,0,0⟩:=by rw[<- hA0]; exact yK
   have lsig:J.length<J1_.length:=by rw[hτ2]; simp only[yi,zd]; omega
   have hab:J1_.length ∉ i.l:=fun hh=>by have:=T.h.lt _ hh; omega
   have b3:(J1_++[A0])[J.length]?=some B0:=by
    rw[hτ2,AT (by simp only[yi,zd]; omega),AT (by simp only[yi,zd]; omega),AT (by simp)];exact b1
   obtain ⟨l3,l4,l5⟩:=ldb _ b3;obtain ⟨J2_,e3,h3,_,k3⟩:=kO k hk (a:=⟨sp,0,0,0,0,0⟩) rfl T3.h hA hab ⟨hsp,by dsimp only; omega,by dsimp only; omega,by dsimp only; omega,by dsimp only; omega,by dsimp only; omega⟩ T.mo hb rr d kd;have V:=dJ T.mo sp rr d kd;have e3:CL (k+13) (Oy J1_.length) rr d kd (J1_++[A0])=some (.tuple #[.int .i64 (GW m sp rr d kd).1.1,.int .i64 (GW m sp rr d kd).1.2],J2_):=e3;have h3:Ai J2_ i (GW m sp rr d kd).2.1:=h3;unfold Rk;generalize GW m sp rr d kd=z at *;obtain ⟨⟨v,e⟩,m',a'⟩:=z;simp only at e3 h3 V ⊢;have T4:JT J2_ i p c m' r s/\Mv (i.l++c.l) (i.l++c.l) J J2_:=by
    have hl:=k3.len;rw[yi,zd] at hl;have low:∀ q,q<J.length->(J1_++[A0])[q]?=J[q]?:=fun q hq=>by
     rw[hτ2,AT (by simp only[yi,zd]; omega),AT (by simp only[yi,zd]; omega),AT (by simp only[yi,zd]; omega),AT hq]
    have ks:Be i J J2_:=⟨by omega,fun q hq hn=>by rw[k3.same q (by rw[yi]; omega) hn (by omega),low q hq]⟩;exact ⟨T.eZ h3 ks V.hm V.len,ks.mv.left c.l⟩
   simp only[yp,By,AI,T2.co.GK,IN,yl] at *;simp only[e2,Ku,yr,By,l3,l4,l5,AI,e3,Cp];by_cases h0:e=0
   ·subst h0;rcases V.st with ⟨_,vn,_⟩ | ⟨hh,_⟩
    rotate_left
    ·exact absurd rfl hh
    obtain ⟨j,rfl,hs⟩:=Bd vn.has;have hcol:Yv s<4:=by
     unfold Yv;split
     ·rcases hbn with h | h <;> rw[h] <;> decide
     ·split <;> decide
    have hj:j<32*m.bls.length:=by have:=hs.1; rw[V.len] at this; exact this
    obtain ⟨J3_,e4,h4,m4⟩:=Zk (k+3) T4.1.co hs.1 hcol;have e4:C0 (k+13) (Dd c) ((2*j:Nat):Int) (Yv s:Int) J2_=_:=e4;have hzero:CR 2 s.ws j=0:=zk fun hh=>by
     have:=hz j hj hh;rw[vn.L5] at this; cases this
    have tk:Sv m'.bls.length (Ij s ((2*j:Nat):Int) (Yv s)):=T4.1.tok.uD hs.1 hcol (.inr hzero);refine ⟨J3_, ?_, ?_,T4.2.trans (m4.right i.l)⟩
    ·have hc:∃ v25,([.int .i64 0,.int .i64 s.born,.int .i64 2]:List Value)[s.ph.toNat*1]?=some v25/\Bn .i64 v25=some (Yv s:Int)/\(0<=s.ph/\s.ph<((3:Nat):Int)):=by
      unfold Yv;rcases hph with h | h | h <;> rw[h]
      ·exact ⟨_,rfl,rfl,by decide⟩
      ·rcases hbn with h' | h' <;> rw[h'] <;> exact ⟨_,rfl,rfl,by decide⟩
      ·exact ⟨_,rfl,rfl,by decide⟩
     obtain ⟨v25,c1,c2,c3⟩:=hc;have ZJ:Ak .i64 J2_ c.cb 3=some s.born:=by simp[Ak,D5,T4.1.co.cell,Gb,Bn]
     simp only[z9,IT,AI,ZJ,T4.1.co.ZV,yk c3,c1,c2,e4,Gs,ye]
    ·rw[yk rfl];exact T4.1.Oz h4 m4 tk
   ·rw[show (e == 0)=false from by simpa using h0];simp only[By,AI,ye];exact ⟨J2_,rfl,by rw[ym h0]; exact T4.1,T4.2⟩
end
end
end Go.Proofs.YtjbledomkmdkmaaGreat
