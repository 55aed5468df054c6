/- The document's heap: objects placed and moved.; The document's heap: objects moved.; The document's heap: a new one, and a copy.; The program's heap,  -/
import Derived.Test.YtjbledomkmdkmaaGreatP23
import Derived.Test.YtjbledomkmdkmaaGreatP21
import Derived.Test.YtjbledomkmdkmaaGreatP19
import Derived.Test.YtjbledomkmdkmaaGreatP18
import Derived.Test.YtjbledomkmdkmaaGreatP20
set_option linter.unusedVariables false
set_option linter.unusedSimpArgs false
set_option linter.unusedSectionVars false
namespace Go.Proofs.YtjbledomkmdkmaaGreat
open Go Go.AX
noncomputable section
local instance zb:AA:=Ap
section
variable {J:Aa} {m:HM} {t:RM} {i:RI}
theorem Im.sP (h:Im J i t) (v:Int):∃ c,AX.CT J i.hb 3 (.int .i64 v)=some (J.set i.hb c)/\Im (J.set i.hb c) i { t with born:=v }:=
 ⟨_,by simp only[AX.CT,h.hp]; rfl,Im.ft (t:={ t with born:=v }) h.bl h.ob h.fw h.ol h.inn h.sep h.lt⟩
theorem Vn (n:Nat):rep n [Value.int .i64 0]=AZ (List.replicate n 0):=by
 simp[rep,AZ]
theorem bu (k:Nat) (hk:5000<=k) (h:RG J i m t) (hP:Kw m) (hS:Sh m) (hb:m.births<1000000) (a r d c:Int):
  EE (E8 (k+5) (Bx i) a r d c J) J i (.tuple #[.int .i64 (CF m a r d c).1,.int .i64 (CF m a r d c).2.1]) (CF m a r d c).2.2:=by
 have hnt:=h.nt;have hwl:=h.wl;have hol:=h.ol;have hbr:=h.inv.brt;obtain ⟨S,hSS⟩:∃ S,Au.cells [.int .i64 r,.int .i64 d,.int .i64 c] Ad true=S:=⟨_,rfl⟩;have hg:=h.app [S];have hq:(J++[S])[J.length]?=some (.cells [.int .i64 r,.int .i64 d,.int .i64 c] Ad true):=by rw[<- hSS]; simp
 obtain ⟨b0,b1,b2⟩:=Jj hq;obtain ⟨τ1,eV⟩:=Vm (k+3) r d c (J++[S]);have hg1:=hg.app τ1;have hq1:(J++[S]++τ1)[J.length]?=_:=(AT (Af hq)).trans hq;obtain ⟨d0,d1,d2⟩:=Jj hq1;have eM:AL (k+4) (Bx i) (J++[S])=_:=MV (k+3) hg;rw[QL];simp only[Ae,hSS,eM,AI,Ao,yp,By,IN,Nat.reduceAdd,yl,b0,b1,b2,eV];unfold CF;cases hv:valid r d c with
 | false=>
   simp only[yY,IT,y8,yq];exact EE.same h hP ([S]++τ1) (by rw[<- ya])
 | true=>
 obtain ⟨τ2,eF⟩:=ql k hk hg1 a (-1) 0 hv (fun o ho=>by
  have:=(h.inv.idn o ho).1;constructor
  ·intro e; omega
  ·intro e; omega);simp only[yp,By,ye,d0,d1,d2,AI,eF,Ag];by_cases hf:KO m a (NH (num r d c)) (-1)=0;rotate_left
 ·rw[ym hf];simp only[zr.2 hf,IT];exact EE.same h hP ([S]++τ1++τ2) (by simp only[<- ya])
 rw[yk hf];have hw2:2<=NH (num r d c):=by
  have hv':=hv;rw[Jp hv];simp[valid] at hv';omega
 obtain ⟨j,rfl,hj,hfit,hap⟩:=h.inv.fits hwl (Wv _) hw2 hf;rw[show ((2*j:Nat):Int).toNat/2=j from by omega];obtain ⟨s1,s2⟩:=h.sim.place h.inv h.inv2 hS hP hv hj (fun o ho=>hap o ho (by omega));have hg2:=hg1.app τ2;obtain ⟨C,eS,h4⟩:=hg2.at_.sP (t.born+1);have hq2:(J++[S]++τ1++τ2)[J.length]?=_:=(AT (Af hq1)).trans hq1;have hhb:i.hb<J.length:=h.at_.lt _ i.K1;have hq3:((J++[S]++τ1++τ2).set i.hb C)[J.length]?=_:=(yc (show i.hb≠J.length by omega)).trans hq2;have hlen:((J++[S]++τ1++τ2).set i.hb C).length=J.length+1+τ1.length+τ2.length:=by simp; omega
 have hs4:∀ x,x<J.length->x≠i.hb->((J++[S]++τ1++τ2).set i.hb C)[x]?=J[x]?:=fun x hx hne=>by
  rw[yc (yW hne),ya,ya,AT hx]
 have ld3':=hg2.at_.ZJ;generalize (J++[S]++τ1++τ2).set i.hb C=Z at h4 eS hq3 hlen hs4;obtain ⟨c0,c1,c2⟩:=Jj hq3;have hv':=hv;simp[valid] at hv';obtain ⟨rn,rfl⟩:∃ n:Nat,r=(n:Int):=⟨r.toNat,by omega⟩;obtain ⟨dn,rfl⟩:∃ n:Nat,d=(n:Int):=⟨d.toNat,by omega⟩;have w:Ar (t.born+1)=t.born+1:=Ah (by rw[h.sim.born]; unfold AK; omega);have qr:(0<=(rn:Int)/\(rn:Int)<=(rn:Int)/\(rn:Int)*((8:Nat):Int)<=2 ^ 40/\(rn:Int)<=2 ^ 40)=True:=zl (by omega);have qd:(0<=(dn:Int)/\(dn:Int)<=(dn:Int)/\(dn:Int)*((8:Nat):Int)<=2 ^ 40/\(dn:Int)<=2 ^ 40)=True:=zl (by omega);obtain ⟨A,hA⟩:∃ A,Au.cells (AZ (List.replicate rn 0)) Aj true=A:=⟨_,rfl⟩;obtain ⟨D,hD⟩:∃ D,Au.cells (AZ (List.replicate dn 0)) Aj true=D:=⟨_,rfl⟩;have hq5:(Z++[A])[J.length]?=_:=(AT (Af hq3)).trans hq3;obtain ⟨_,f1,_⟩:=Jj hq5;have h6:Im (Z++[A]++[D]) i { t with born:=t.born+1 }:=(h4.app [A]).app [D];have gA:(Z++[A]++[D])[Z.length]?=some (.cells (AZ (List.replicate rn 0)) Aj true):=by rw[hA]; simp
 have gD:(Z++[A]++[D])[(Z++[A]).length]?=some (.cells (AZ (List.replicate dn 0)) Aj true):=by rw[hD]; simp
 have ltl:∀ x ∈ i.l,x<J.length:=h.at_.lt;obtain ⟨J',os',eP,hR,hsame,hle,hnew,hin⟩:=sN (k+3) (by omega) h6 (by show t.ob.length<=4900; omega) ⟨((2*j:Nat):Int),t.born+1,(rn:Int),(dn:Int),c,List.replicate rn 0,List.replicate dn 0,false⟩ ((some ⟨Z.length,0,none⟩,rn,rn),(some ⟨(Z++[A]).length,0,none⟩,dn,dn))
  ⟨by simp,fun _=>⟨Z.length,rn,by simp,gA⟩,fun a ha=>by cases ha; exact ⟨_,_,_,gA,zh _⟩⟩ ⟨by simp,fun _=>⟨(Z++[A]).length,dn,by simp,gD⟩,fun a ha=>by cases ha; exact ⟨_,_,_,gD,zh _⟩⟩
  (by
   intro x hx;have:x=Z.length\/x=(Z++[A]).length:=by
    rcases hx with hx | hx
    ·obtain ⟨q,e,rfl⟩:=BN.1 hx;cases e; exact .inl rfl
    ·obtain ⟨q,e,rfl⟩:=BN.1 hx;cases e; exact .inr rfl
   refine ⟨?_,fun hm=>?_⟩
   ·have hl:(Z++[A]).length=Z.length+1:=by simp
    have hl2:(Z++[A]++[D]).length=Z.length+2:=by simp
    rcases this with e | e <;> omega
   ·have:=ltl x hm;have hl:(Z++[A]).length=Z.length+1:=by simp
    rcases ‹x=Z.length\/x=(Z++[A]).length› with e | e <;> omega)
  (by simp[hs]);have eP':GH (k+4) (Bx i) ((2*j:Nat):Int) (t.born+1) (rn:Int) (dn:Int) c (some ⟨Z.length,0,none⟩,rn,rn) (some ⟨(Z++[A]).length,0,none⟩,dn,dn) false (Z++[A]++[D])=some (.tuple #[],J'):=eP;refine ⟨J',_,_, ?_,hR,s1,s2,⟨by simp at hle; omega,fun x hx hn=>?_,fun x hx=>?_,rfl⟩⟩
 ·simp only[yr,hf,By,ld3',AI,w,eS,h4.ZJ,c0,c1,c2,qr,ye,xQ,Vn,hA,f1,qd,hD,eP',Gs];have:=hR.ZJ;simp only at this;rw[this,h.sim.born];rfl
 ·have hne:x≠i.hb:=fun e=>hn (by rw[e]; exact i.K1);rw[hsame x (by simp; omega) hne,ya,AT (by omega),hs4 x hx hne]
 ·rcases hin x hx with e | e | e | e
  ·exact .inl e
  ·obtain ⟨q,e',rfl⟩:=BN.1 e;cases e';exact .inr (by show J.length<=Z.length; omega)
  ·obtain ⟨q,e',rfl⟩:=BN.1 e;cases e';exact .inr (by show J.length<=(Z++[A]).length; simp; omega)
  ·exact .inr (by simp at e; omega)
end
section
variable {J:Aa} {m:HM} {t:RM} {i:RI}
theorem Yu:∀ l l':List (Int × Int),CB (l++l')=CB l++CB l'
 | [],l'=>rfl
 | e::l,l'=>by simp only[Ab6,CB,Yu l l']
end
section
variable {J:Aa} {m:HM} {t:RM} {i:RI}
theorem aX (n j:Nat):¬ Start (I6 n) j:=by
 rintro ⟨_,h⟩;have:CR 1 (I6 n).stw j=0:=Qt _ _ _;omega
theorem PE.new (n:Nat):PE (I6 n) ⟨List.replicate n (0,0),[],[],0⟩:=by
 refine ⟨rfl, ?_,rfl,fun a=>rfl,rfl,trivial,trivial⟩;have:EY (I6 n)=[]:=by
  cases h:EY (I6 n) with
  | nil=>rfl
  | cons j l=>exact absurd (Dh.1 (by rw[h]; exact zi)) (aX n j)
 show []=F7 (I6 n);unfold F7;rw[this]; rfl
theorem Kw.new (n:Nat):Kw (I6 n):=fun j _ _=>Qt _ _ _
theorem FZ.new (n:Nat):FZ (I6 n):=by
 intro c _;show ((List.replicate n ((0:Int),(0:Int))).getD c (0,0)).2=0;rw[yd,zM];split <;> rfl
theorem sJ (k:Nat) {n:Nat} (h2:2<=n) (h64:n<=64) (J:Aa):∃ τ i,KF (k+1) (n:Int) J=some (.tuple #[.pointer (Bx i),.int .i64 0],J++τ)/\Im (J++τ) i ⟨List.replicate n (0,0),[],[],0⟩ /\ ∀ j ∈ i.l,J.length<=j:=by
 rw[Y1];simp only[show decide ((n:Int)<2)=false from xY (by omega),By,show decide ((n:Int)>64)=false from xY (by omega),AI,Ae];rw[yk (by omega)];simp only[xQ,kB];obtain ⟨A,hA⟩:∃ A,Au.cells (CB (List.replicate n (0,0))) An true=A:=⟨_,rfl⟩;rw[hA];refine ⟨[A]++[Au.cells [.slice (some ⟨J.length,0,none⟩) n n,.slice none 0 0,.slice none 0 0,.int .i64 0] CH true],⟨(J++[A]).length,(some ⟨J.length,0,none⟩,n,n),(none,0,0),(none,0,0),[]⟩,by rw[ya], ?_, ?_⟩
 ·rw[<- ya];refine { hp:=by simp,bl:=.inr ⟨J.length,by simp,zh _,by rw[Iu]; omega,by rw[AT (by simp),<- hA]; simp⟩,ob:=.inl ⟨rfl,rfl,rfl⟩,fw:=.inl (.inl ⟨rfl,rfl,rfl⟩),ol:=rfl,inn:=fun x h=>by simp at h,nd:=?_,lt:=?_ }
  ·simp[RI.l,hs]
  ·intro j hj;simp[RI.l,hs] at hj;simp;omega
 ·intro j hj;simp[RI.l,hs] at hj;omega
theorem Rl {E:TypeId} {s by_:Nat} {z:Value} (hs:GY P E=some s) (hb:bytesOf P E=some by_) (hz:Fq P E=some z) (hz1:Gi z=false) (hz2:z.cells.size=s) (hs0:0<s) (hb0:0<by_) (hb1:by_<=1000)
  (J:Aa) (p:Option Addr) (n c:Nat) (hn1:n<=100000) (row:List Value) (hr:row.length=n*s) (hf:CQ (J++[.cells [] E true]) s p n=some row):
  ∃ s' τ,AF P E (some ⟨J.length,0,some 0⟩,0,0) (p,n,c) (J++[.cells [] E true])=some (s',J++[.cells [] E true]++τ)/\(0<n->s'=(some ⟨J.length+1,0,none⟩,n,n)/\(J++[.cells [] E true]++τ)[J.length+1]?=some (.cells row E true))/\(n=0->s'=(some ⟨J.length,0,some 0⟩,0,0)):=by
 by_cases h0:n=0
 ·subst h0;refine ⟨(some ⟨J.length,0,some 0⟩,0,0),[], ?_,fun h=>absurd h (Aad _),fun _=>rfl⟩;unfold AF La;have h1:(¬ (Gi z=false/\some s=some z.cells.size/\0<z.cells.size))=False:=by
   rw[hz1,hz2]; simp[hs0]
  simp only[hs,hb,hz,hf,AI,h1,yq,yl,yj,ye,Ie,Ac6,IT,nR,yw]
 ·have e:=gY hs hb hz hz1 hz2 hs0 hb0 hb1 J p n c (by omega) hn1 row hf;refine ⟨_,[.cells row E true], ?_,fun _=>⟨rfl, ?_⟩,fun h=>absurd h h0⟩
  ·rw[e]; simp
  ·rw[yD (by simp)]; simp
theorem Eg.first {s:Bp} {l:List Int} (h:Eg J s l):CQ J 1 s.1 l.length=some (AZ l):=by
 by_cases hl:l=[]
 ·subst hl;cases hs:s.1 with
  | none=>rfl
  | some a=>
    obtain ⟨cs,T,w,h1,h2⟩:=h.2.2 a hs;simp only[CQ,M9,h1,zo,zw,yl,h2,ye,Ab3];rfl
 ·obtain ⟨b,c,rfl,hc⟩:=h.2.1 hl;simp only[CQ,M9,hc,C8,IN,yH,yj,ye,yV];rw[zp (by rw[C8]; exact yj _)]
theorem Cq.first {E:TypeId} {s n:Nat} {sl:Bp} {row:List Value} (h:Cq E s J sl n row):CQ J s sl.1 n=some row:=by
 rcases h with ⟨rfl,rfl,rfl⟩ | ⟨b,rfl,_,hl,hc⟩
 ·rfl
 ·simp only[CQ,M9,hc,hl,IN,yj,ye,yV];rw[zp (Ac0 hl)]
theorem mq (J:Aa) (s:Bp) (l:List Int) (hl:l.length<=100000) (h:Eg J s l):
  ∃ s' τ,AF P Aj (some ⟨J.length,0,some 0⟩,0,0) (s.1,s.2.1,s.2.2) (J++[.cells [] Aj true])=some (s',J++[.cells [] Aj true]++τ)/\Eg (J++[.cells [] Aj true]++τ) s' l/\hs s'≠[] /\ ∀ j ∈ hs s',j=J.length\/j=J.length+1/\j<(J++[Au.cells [] Aj true]++τ).length:=by
 have hf:=(h.app [.cells [] Aj true]).first
 rw[<- h.1] at hf;obtain ⟨s',τ,e,h1,h2⟩:=Rl rh qX nS rfl rfl (by decide) (by decide) (by decide) J s.1 s.2.1 s.2.2 (by rw[h.1]; exact hl) (AZ l) (by rw[C8,h.1,yH]) hf;refine ⟨s',τ,e, ?_, ?_, ?_⟩
 ·by_cases h0:s.2.1=0
  ·rw[h2 h0];have hl0:l=[]:=zV.1 (by rw[<- h.1]; exact h0);subst hl0;exact ⟨rfl,fun hn=>absurd rfl hn,fun a ha=>by cases ha; exact ⟨[],Aj,true,by rw[AT (by simp)]; simp,yj _⟩⟩
  ·obtain ⟨q1,q2⟩:=h1 (by omega);rw[q1];exact ⟨h.1,fun _=>⟨J.length+1,s.2.1,by rw[h.1],q2⟩,fun a ha=>by cases ha; exact ⟨_,_,_,q2,zh _⟩⟩
 ·by_cases h0:s.2.1=0
  ·rw[h2 h0]; simp[hs]
  ·rw[(h1 (by omega)).1]; simp[hs]
 ·intro j hj;by_cases h0:s.2.1=0
  ·rw[h2 h0] at hj; simp[hs] at hj; exact .inl hj
  ·obtain ⟨q1,q2⟩:=h1 (by omega);rw[q1] at hj; simp only[hs,yP] at hj;exact .inr ⟨hj,by rw[hj]; exact Af q2⟩
theorem xa:GY P An=some 2:=by kernel_rfl
theorem wG:bytesOf P An=some 16:=by kernel_rfl
theorem xf:Fq P An=some (.agg #[.int .i64 0,.int .i64 0]):=by kernel_rfl
end
section
variable {J:Aa} {m:HM} {i:Cd}
theorem qU (k:Nat) (h:Ai J i m) {b:Int} (hb:¬ (0<=b/\b<(m.bls.length:Int))):EK (k+3) (AM i) b J=some (.bool false,J):=by
 rw[MG];simp only[XJ _ h,AI,Ao,xY (show ¬ (1<=b/\b<(m.bls.length:Int)) by omega),By]
theorem XA (k:Nat) (h:Ai J i m) (b:Int):Bb (k+3) (AM i) b J=some (.int .i64 (Cb m b),J):=by
 unfold Cb;by_cases hb:0<=b/\b<(m.bls.length:Int)
 ·rw[yk hb];obtain ⟨n,rfl⟩:∃ n:Nat,b=(n:Int):=⟨b.toNat,by omega⟩;rw[xQ];exact dH k h (by omega)
 ·rw[ym hb,Mm];by_cases h0:b<0
  ·simp only[xZ h0,IT,AI]
  ·simp only[xY h0,By,Gm k h,AI,Ag,xZ (show b>=((m.bls.length:Nat):Int) by omega),IT]
theorem rP (k:Nat) (h:Ai J i m) (b:Int):Bt (k+3) (AM i) b J=some (.int .i64 (Lx m b),J):=by
 unfold Lx;by_cases hb:0<=b/\b<(m.bls.length:Int)
 ·rw[yk hb];obtain ⟨n,rfl⟩:∃ n:Nat,b=(n:Int):=⟨b.toNat,by omega⟩;rw[xQ];exact Yj k h (by omega)
 ·rw[ym hb,Ju];by_cases h0:b<0
  ·simp only[xZ h0,IT,AI]
  ·simp only[xY h0,By,Gm k h,AI,Ag,xZ (show b>=((m.bls.length:Nat):Int) by omega),IT]
theorem kY (k:Nat) (hk:5000<=k) (h:Ai J i m) (b:Int):∃ τ s,BQ (k+6) (AM i) b J=some (.slice s.1 s.2.1 s.2.2,J++τ)/\Dt J.length (J++τ) s (CK (Jy m b)):=by
 unfold Jy;by_cases hb:0<=b/\b<(m.bls.length:Int)
 ·rw[yk hb];obtain ⟨n,rfl⟩:∃ n:Nat,b=(n:Int):=⟨b.toNat,by omega⟩;rw[xQ];exact TS k hk h (by omega)
 ·rw[ym hb,Lf];refine ⟨[],(none,0,0), ?_,.inl ⟨rfl,rfl⟩⟩;simp only[IM _ h,AI,Ao,yp,By,yw];by_cases h0:b<0
  ·simp only[xZ h0,IT,AI]
  ·simp only[xY h0,By,AI,IN,h.GK,xZ (show b>=((m.bls.length:Nat):Int) by omega),IT]
theorem tN (k:Nat) (hk:5000<=k) (h:Ai J i m) (hI:Inv m) (h0:B0 m) (b:Int):
  ∃ τ s,GG (k+7) (AM i) b J=some (.slice s.1 s.2.1 s.2.2,J++τ)/\Cq Ay 2 (J++τ) s (HC m b).length (Dk (HC m b)) /\ ∀ a,s.1=some a->J.length<=a.block:=by
 by_cases hb:0<=b/\b<(m.bls.length:Int)
 ·obtain ⟨n,rfl⟩:∃ n:Nat,b=(n:Int):=⟨b.toNat,by omega⟩;have e:HC m (n:Int)=aL m n:=by
   unfold HC aL Cb;rw[yk hb,xQ];by_cases hs:(m.bls.getD n (0,0)).1=1
   ·have:1<=n:=by
     rcases Nat.eq_zero_or_pos n with rfl | h1
     ·have:=h0; unfold B0 at this; omega
     ·exact h1
    rw[yk hs,yk ⟨this,hs⟩]
   ·rw[ym hs,ym (fun hh=>hs hh.2)]
  rw[e];obtain ⟨τ,s,e1,e2,_,e4⟩:=rm k hk h hI (b:=n) (by omega);exact ⟨τ,s,e1,e2,e4⟩
 ·have e:HC m b=[]:=by
   unfold HC Cb;rw[ym hb,ym (by decide)]
  rw[e];refine ⟨[],(none,0,0), ?_,Cq.nil _ _ _,by intro a ha; cases ha⟩;rw[JP];have hu:EK (k+6) (AM i) b J=_:=qU (k+3) h hb;simp only[hu,AI,Ao,yY,IT,yw]
theorem rN (k:Nat) (h:Ai J i m) (a:Int) (ha:AK a):∃ τ,AN (k+6) (AM i) a J=some (.tuple #[if AU m a then jo m (a.toNat/2) else jn,.int .i64 (if AU m a then 0 else 4)],J++τ):=by
 cases hh:AU m a with
 | true=>
   obtain ⟨j,rfl,hs⟩:=Bd hh;obtain ⟨τ,e⟩:=o9 k h hs;refine ⟨τ, ?_⟩;rw[e,show ((2*j:Nat):Int).toNat/2=j from by omega];rfl
 | false=>
   rw[Ml];simp only[Ae];have h1:=h.app [Au.cells [Value.int .i64 0,.int .i64 0,.int .i64 0] Ad true];have hN:∀ x y z:Value,M9 (J++[Au.cells [x,y,z] Ad true]) J.length 0 3=some [x,y,z]:=fun x y z=>by simp[M9]
   refine ⟨[Au.cells [.int .i64 0,.int .i64 0,.int .i64 0] Ad true], ?_⟩;simp only[MZ k h1 a ha,hh,y8,yq,AI,Ag,vK,IT,EV,hN,KR];rfl
theorem UJ (k:Nat) (h:Ai J i m) (hI:Inv m) (a x:Int) (ha:AK a):∃ τ,AG (k+7) (AM i) a x J=some (.tuple #[.int .i64 (J0 m a x false).1,.int .i64 (J0 m a x false).2],J++τ):=by
 obtain ⟨τ,e⟩:=YD k h hI a x ha false;refine ⟨τ, ?_⟩;rw[Ub];simp only[e,AI,Cp];unfold J0;by_cases h0:(B9 m a x false).2=0
 ·rw[yk h0];have hf:0<=(B9 m a x false).1/\(B9 m a x false).1<(m.wds.length:Int):=by
   unfold B9 at h0 ⊢;split at h0
   ·rename_i hh;obtain ⟨j,rfl,hs⟩:=Bd hh;have hfit:=hI.fit j hs;have hz:=hI.size hs;simp only[show ((2*j:Nat):Int).toNat/2=j from by omega,y8,yq] at h0 ⊢;split at h0
    ·rename_i hx;rw[yk (Qg hs),yk hx];dsimp only;omega
    ·cases h0
   ·cases h0
  obtain ⟨n,hn⟩:∃ n:Nat,(B9 m a x false).1=(n:Int):=⟨(B9 m a x false).1.toNat,by omega⟩;have qx:(0<=(n:Int)/\(n:Int)<((m.wds.length:Nat):Int))=True:=zl (by omega);simp only[h0,hn,yr,By,IN,(h.app τ).E6,AI,qx,ye,xQ,yH,(h.app τ).pD (show n<m.wds.length by omega)]
 ·rw[ym h0];simp only[zr.2 h0,IT]
theorem tL (k:Nat) (h:Ai J i m) (hI:Inv m) (a x:Int) (ha:AK a):∃ τ,GF (k+7) (AM i) a x J=some (.tuple #[.int .i64 (J0 m a x true).1,.int .i64 (J0 m a x true).2],J++τ):=by
 obtain ⟨τ,e⟩:=YD k h hI a x ha true;refine ⟨τ, ?_⟩;rw[SN];simp only[e,AI,Cp];unfold J0;by_cases h0:(B9 m a x true).2=0
 ·rw[yk h0];have hf:0<=(B9 m a x true).1/\(B9 m a x true).1<(m.wds.length:Int):=by
   unfold B9 at h0 ⊢;split at h0
   ·rename_i hh;obtain ⟨j,rfl,hs⟩:=Bd hh;have hfit:=hI.fit j hs;have hz:=hI.size hs;simp only[show ((2*j:Nat):Int).toNat/2=j from by omega,ye] at h0 ⊢;split at h0
    ·rename_i hx;rw[yk (Qg hs),yk hx];dsimp only;omega
    ·cases h0
   ·cases h0
  obtain ⟨n,hn⟩:∃ n:Nat,(B9 m a x true).1=(n:Int):=⟨(B9 m a x true).1.toNat,by omega⟩;have qx:(0<=(n:Int)/\(n:Int)<((m.wds.length:Nat):Int))=True:=zl (by omega);simp only[h0,hn,yr,By,IN,(h.app τ).E6,AI,qx,ye,xQ,yH,(h.app τ).pD (show n<m.wds.length by omega)]
 ·rw[ym h0];simp only[zr.2 h0,IT]
theorem jW {c:Prop} [Decidable c] {r r':Int × HM} (h:c->FZ r.2) (h':¬ c->FZ r'.2):FZ (if c then r else r').2:=by
 split
 ·exact h ‹_›
 ·exact h' ‹_›
theorem cj {m':HM} (h:FZ m) (hb:m'.bls=m.bls):FZ m':=by unfold FZ; rw[hb]; exact h
theorem lU (h:FZ m) (b c x y x' y':Int) (hx:x≠0) (hx':x'≠0\/c=1):FZ (Bs m b c x y x' y').2:=by
 unfold Bs;refine jW (fun hc=>jW (fun hu=>?_) fun _=>h) fun _=>h;intro d hd;have hd:(((TW m.bls b.toNat (x',y') c.toNat 0).set b.toNat (x,y)).getD d (0,0)).1=0:=hd;show (((TW m.bls b.toNat (x',y') c.toNat 0).set b.toNat (x,y)).getD d (0,0)).2=0;rw[WM,Iw] at hd ⊢;by_cases h1:d=b.toNat/\b.toNat<m.bls.length
 ·rw[yk h1] at hd; exact absurd hd hx
 ·rw[ym h1] at hd ⊢;rw[bX _ _ _ _ _ _ (by omega)] at hd ⊢;split at hd
  ·rename_i hr;rcases hx' with hx' | rfl
   ·exact absurd hd hx'
   ·rw[show (1:Int).toNat=1 from rfl] at hr;exact absurd ⟨by omega,by omega⟩ h1
  ·rename_i hr;rw[ym hr]; exact h d hd
theorem fW (h:FZ m) (b:Int):FZ (Di m b).2:=by
 unfold Di;refine jW (fun hc=>jW (fun hu=>?_) fun _=>h) fun _=>h;intro d hd;have hd:((Zs m.bls b.toNat (Kr m b.toNat)).getD d (0,0)).1=0:=hd;show ((Zs m.bls b.toNat (Kr m b.toNat)).getD d (0,0)).2=0;rw[Pr] at hd ⊢;split
 ·rfl
 ·rename_i hr;rw[ym hr] at hd; exact h d hd
end
section
variable {J:Aa} {m:HM} {t:RM} {i:Cd} {j:RI}
structure wF (J:Aa) (i:Cd) (j:RI) (m:HM) (t:RM):Prop where
 h:Ai J i m
 g:RG J j m t
 P:Kw m
 z:FZ m
 b0:B0 m
 off:∀ q ∈ i.l,q ∉ j.l
 br:m.births<=1000
 fl:m.fw.length<=1000
theorem wF.app (T:wF J i j m t) (τ:Aa):wF (J++τ) i j m t:=⟨T.h.app τ,T.g.app τ,T.P,T.z,T.b0,T.off,T.br,T.fl⟩
def Aq (m:HM) (a:Int):Int × Int × Int:=if AU m a then (Av m (a.toNat/2),Bf m (a.toNat/2),Cr m (a.toNat/2)) else (0,0,0)
theorem gw (m:HM) (a:Int):(if AU m a then jo m (a.toNat/2) else jn) = .agg #[.int .i64 (Aq m a).1,.int .i64 (Aq m a).2.1,.int .i64 (Aq m a).2.2]:=by
 unfold Aq; split <;> rfl
theorem Ng (hI:Inv m) (a:Int):0<=(Aq m a).1/\(Aq m a).1<=200/\0<=(Aq m a).2.1/\(Aq m a).2.1<=200:=by
 unfold Aq;split
 ·rename_i hh;obtain ⟨j,rfl,hs⟩:=Bd hh;obtain ⟨_,r1,r2,r3,r4,_⟩:=Ot hI hs;rw[show ((2*j:Nat):Int).toNat/2=j from by omega];dsimp only;omega
 ·dsimp only; omega
end
section
variable {J:Aa} {m:HM} {t:RM} {i:Cd} {j:RI}
theorem uh {s:Bp} {l:List Int} (h:Cq Aj 1 J s l.length (AZ l)) {x:Nat} (hx:x<l.length):∃ b,s.1=some ⟨b,0,none⟩/\Ak .i64 J b x=some (l.getD x 0):=by
 rcases h with ⟨h,_⟩ | ⟨b,rfl,_,_,hc⟩
 ·omega
 ·exact ⟨b,rfl,iK hc hx⟩
theorem qJ {s:Bp} {l:List (Nat × Nat)} (h:Cq Ay 2 J s l.length (Dk l)) {x:Nat} (hx:x<l.length):∃ b,s.1=some ⟨b,0,none⟩/\Ak .i64 J b (x*2)=some ((l.getD x (0,0)).1:Int)/\Ak .i64 J b (x*2+1)=some ((l.getD x (0,0)).2:Int):=by
 rcases h with ⟨h,_⟩ | ⟨b,rfl,_,_,hc⟩
 ·omega
 ·obtain ⟨h1,h2⟩:=U1 l x hx;exact ⟨b,rfl,by simp only[Ak,D5,hc,h1,AI,Ag],by simp only[Ak,D5,hc,h2,AI,Ag]⟩
end
section
variable {J:Aa} {i:Cd} {m:HM}
structure AS where
 s:Int
 p:Int
 c:Int
 l:Int
 oc:Int
 ol:Int
def AS.row (a:AS) (hb:Nat):List Value:=[.pointer (some ⟨hb,0,none⟩),.int .i64 a.s,.int .i64 a.p,.int .i64 a.c,.int .i64 a.l,.int .i64 a.oc,.int .i64 a.ol]
def DD (J:Aa) (ab:Nat) (i:Cd) (a:AS):Prop:=J[ab]?=some (.cells (a.row i.hb) Ci true)
structure AS.ok (a:AS):Prop where
 s0:0<=a.s/\a.s<8
 p0:0<=a.p/\a.p<5
 c0:0<=a.c/\a.c<=10000
 l0:0<=a.l/\a.l<=10000
 oc0:0<=a.oc/\a.oc<=10000
 ol0:0<=a.ol/\a.ol<=10000
abbrev Oy (ab:Nat):Option Addr:=some ⟨ab,0,none⟩
variable {ab:Nat} {a:AS}
theorem DD.fg (h:DD J ab i a):BR J ab 0=some (AM i):=by unfold DD AS.row at h; simp[BR,D5,h,HD]
theorem DD.l1 (h:DD J ab i a):Ak .i64 J ab 1=some a.s:=by unfold DD AS.row at h; simp[Ak,D5,h,Bn]
theorem DD.l2 (h:DD J ab i a):Ak .i64 J ab 2=some a.p:=by unfold DD AS.row at h; simp[Ak,D5,h,Bn]
theorem DD.l3 (h:DD J ab i a):Ak .i64 J ab 3=some a.c:=by unfold DD AS.row at h; simp[Ak,D5,h,Bn]
theorem DD.l4 (h:DD J ab i a):Ak .i64 J ab 4=some a.l:=by unfold DD AS.row at h; simp[Ak,D5,h,Bn]
theorem DD.l5 (h:DD J ab i a):Ak .i64 J ab 5=some a.oc:=by unfold DD AS.row at h; simp[Ak,D5,h,Bn]
theorem DD.l6 (h:DD J ab i a):Ak .i64 J ab 6=some a.ol:=by unfold DD AS.row at h; simp[Ak,D5,h,Bn]
theorem DD.lt (h:DD J ab i a):ab<J.length:=Af h
theorem DD.Aw {J':Aa} (h:DD J ab i a) (hs:J'[ab]?=J[ab]?):DD J' ab i a:=by unfold DD; rw[hs]; exact h
theorem DD.app (h:DD J ab i a) (τ:Aa):DD (J++τ) ab i a:=h.Aw (AT h.lt)
theorem DD.DH {J':Aa} (h:DD J ab i a) (k:Be i J J') (hab:ab ∉ i.l):DD J' ab i a:=h.Aw (k.same ab h.lt hab)
theorem DD.put (h:DD J ab i a) (a':AS):DD (J.set ab (.cells (a'.row i.hb) Ci true)) ab i a':=by
 unfold DD; rw[yo h.lt]
theorem DD.st (h:DD J ab i a) (o:Nat) (vs:List Value) (a':AS) (hv:AP (a.row i.hb) o vs=a'.row i.hb) (hl:o+vs.length<=7):H2 J ab o vs=some (J.set ab (.cells (a'.row i.hb) Ci true)):=by
 have h':=h;unfold DD at h';simp only[H2,h'];rw[yk (by simpa [AS.row] using hl),hv]
theorem DD.CT (h:DD J ab i a) (o:Nat) (v:Value) (a':AS) (hv:(a.row i.hb).set o v=a'.row i.hb) (hl:o<7):AX.CT J ab o v=some (J.set ab (.cells (a'.row i.hb) Ci true)):=by
 have h':=h;unfold DD at h';simp only[AX.CT,h'];rw[yk (by simpa [AS.row] using hl),hv]
structure FX (i:Cd) (ab:Nat) (J J':Aa):Prop where
 len:J.length<=J'.length
 same:∀ j,j<J.length->j ∉ i.l->j≠ab->J'[j]?=J[j]?
theorem FX.of {J':Aa} (h:Be i J J'):FX i ab J J':=⟨h.len,fun j h1 h2 _=>h.same j h1 h2⟩
theorem FX.trans {x y z:Aa} (h:FX i ab x y) (g:FX i ab y z):FX i ab x z:=
 ⟨zj h.len g.len,fun j h1 h2 h3=>(g.same j (yG h1 h.len) h2 h3).trans (h.same j h1 h2 h3)⟩
theorem FX.app (J τ:Aa):FX i ab J (J++τ):=.of (Be.app i J τ)
theorem FX.set (J:Aa) (o:Au):FX i ab J (J.set ab o):=⟨by simp,fun j _ _ h=>yc fun e=>h e.symm⟩
theorem FX.refl (J:Aa):FX i ab J J:=.of (Be.refl i J)
theorem Ai.vO (h:Ai J i m) (hab:ab ∉ i.l) (o:Au):Ai (J.set ab o) i m:=h.Aw fun j hj=>yc fun e=>hab (by rw[e]; exact hj)
theorem wH (x:Addr):J9 P I7 (.pointer (some x)) (.pointer none)=some false:=by kernel_rfl
theorem vB (x:Addr):J9 P E7 (.pointer (some x)) (.pointer none)=some false:=by kernel_rfl
theorem oE (k:Nat) (hA:DD J ab i a):EZ (k+1) (Oy ab) J=some (.bool true,J):=by
 rw[NJ];simp only[wH,AI,yY,IT,IN,yl,hA.fg,vB]
def TA (m:HM):Nat->Nat->Option Nat
 | 0,_=>none
 | n+1,x=>if (m.bls.getD x (0,0)).1=0/\(m.bls.getD x (0,0)).2=0 then some x else TA m n (x+1)
def eX (m:HM):Option Nat:=TA m (m.bls.length-1) 1
def VC (m:HM) (b:Nat) (s:Int):HM:=(Bs m (b:Int) 1 1 s 0 0).2
theorem lV (m:HM) {x:Nat} {s:Int} (h1:1<=x) (hx:x<m.bls.length) (hs:0<=s/\s<8):
  Bs m (x:Int) 1 1 s 0 0=if (m.bls.getD x (0,0)).1=0/\(m.bls.getD x (0,0)).2=0 then (0,VC m x s) else (8,m):=by
 have e:(1<=(x:Int)/\(x:Int)<(m.bls.length:Int)/\(1:Int)<=1/\(1:Int)<=(m.bls.length:Int)-(x:Int)/\X0 s=true):=⟨by omega,by omega,by omega,by omega,by unfold X0; simpa using hs⟩;have u:J5 m.bls x 1 0=if (m.bls.getD x (0,0)).1=0/\(m.bls.getD x (0,0)).2=0 then none else some 0:=by
  simp only[J5,yl]
 unfold VC Bs;rw[yk e,xQ,show (1:Int).toNat=1 from rfl,u];by_cases hf:(m.bls.getD x (0,0)).1=0/\(m.bls.getD x (0,0)).2=0
 ·simp only[hf,Abg,ye]
 ·simp only[hf,yq]; simp
theorem iz {n x b:Nat} (h:TA m n x=some b):x<=b/\b<x+n/\(m.bls.getD b (0,0)).1=0/\(m.bls.getD b (0,0)).2=0:=by
 induction n generalizing x with
 | zero=>cases h
 | succ n ih=>
   unfold TA at h;split at h
   ·cases h; omega
   ·have:=ih h; omega
def Tz (x y:Int):Au:=.cells [.int .i64 x,.int .i64 y] Me true
theorem WE (k:Nat) (hk:5000<=k) (hab:ab ∉ i.l) (hs:0<=a.s/\a.s<8) {h1:Nat} (hh1:h1 ∉ i.l) (hha:h1≠ab):∀ (n x f:Nat) (J:Aa),Ai J i m->DD J ab i a->J[h1]?=some (Tz 0 0)->1<=x->x+n=m.bls.length->n<f ->
  ∃ J',CM (k+8) f (Oy ab) h1 (x:Int) J=some (match TA m n x with | some b=>(.ret,[.bool true],J') | none=>(.exit 0,[],J'))/\Ai J' i (match TA m n x with | some b=>VC m b a.s | none=>m) /\
   J'[h1]?=some (match TA m n x with | some b=>Tz (64*(b:Int)) (64*(b:Int)+64) | none=>Tz 0 0)/\J.length<=J'.length /\ ∀ q,q<J.length->q ∉ i.l->q≠h1->J'[q]?=J[q]?
 | n,x,0,J,h,hA,hc,hx,hn,hf=>by omega
 | 0,x,f+1,J,h,hA,hc,hx,hn,hf=>by
   rw[Io];refine ⟨J, ?_,h,hc,yj _,fun _ _ _ _=>rfl⟩;simp only[AI,yl,hA.fg,Gm (k+6) h,Ag,xY (show ¬ (x:Int)<((m.bls.length:Nat):Int) by omega),By,TA]
 | n+1,x,f+1,J,h,hA,hc,hx,hn,hf=>by
   have hnt:=h.nt;obtain ⟨J1_,e1,g1,k1⟩:=XK (k+1) (by omega) h (x:Int) a.s (by unfold AK; omega);have hA1:=hA.DH k1 hab;rw[lV m hx (by omega) hs] at e1 g1;have hc1:=(k1.same h1 (Af hc) hh1).trans hc;have w1:Ar ((x:Int)+1)=((x+1:Nat):Int):=Ah (by unfold AK; omega);have w2:Ar ((x:Int)*64)=64*(x:Int):=by rw[Ah (by unfold AK; omega)]; omega
   have w3:Ar (((x+1:Nat):Int)*64)=64*(x:Int)+64:=by rw[Ah (by unfold AK; omega)]; omega
   rw[Io];simp only[AI,yl,hA.fg,Gm (k+6) h,Ag,xZ (show (x:Int)<((m.bls.length:Nat):Int) by omega),IT,IN,hA.l1,e1,TA];by_cases hfr:(m.bls.getD x (0,0)).1=0/\(m.bls.getD x (0,0)).2=0
   ·simp only[hfr,Abg,ye] at g1 ⊢;refine ⟨J1_.set h1 (Tz (64*(x:Int)) (64*(x:Int)+64)), ?_,g1.Aw fun j hj=>yc fun e=>hh1 (by rw[e]; exact hj),by rw[yo (Af hc1)],by simpa using k1.len,fun q hq h2 h3=>by rw[yc (fun e=>h3 e.symm)]; exact k1.same q hq h2⟩;simp only[z9,IT,w1,w2,w3,H2,hc1,Tz];rfl
   ·simp only[hfr,yq] at g1 ⊢;obtain ⟨J2_,e2,g2,c2,l2,s2⟩:=WE k hk hab hs hh1 hha n (x+1) f J1_ g1 hA1 hc1 (by omega) (by omega) (by omega);refine ⟨J2_, ?_,g2,c2,zj k1.len l2,fun q hq h2 h3=>by rw[s2 q (yG hq k1.len) h2 h3]; exact k1.same q hq h2⟩;simp only[show ((8:Int) == 0)=false from rfl,By,w1,e2]
def oO (m:HM):Int × Int × Bool:=match eX m with | some b=>(64*(b:Int),64*(b:Int)+64,true) | none=>(0,0,false)
def um (m:HM) (s:Int):HM:=match eX m with | some b=>VC m b s | none=>m
theorem oP (k:Nat) (hk:5000<=k) (h:Ai J i m) (hA:DD J ab i a) (hab:ab ∉ i.l) (hs:0<=a.s/\a.s<8):
  ∃ J',EF (k+9) (Oy ab) J=some (.tuple #[.agg #[.int .i64 (oO m).1,.int .i64 (oO m).2.1],.bool (oO m).2.2],J')/\Ai J' i (um m a.s)/\Be i J J':=by
 have hnt:=h.nt; have hnb:=h.nb;have hlt:=hA.lt;obtain ⟨J1_,e1,g1,c1,l1,s1⟩:=WE k hk hab hs (h1:=J.length) (fun hm=>Aad _ (h.lt _ hm)) (by omega) (m.bls.length-1) 1 (k+8) (J++[Tz 0 0]) (h.app _) (hA.app _) (by simp) (yj _) (by omega) (by omega);have kp:Be i J J1_:=⟨by simp at l1; omega,fun q hq h2=>by rw[s1 q (by simp; omega) h2 (by omega),AT hq]⟩;rw[Np];simp only[Ae,show (Au.cells [.int .i64 0,.int .i64 0] Me true)=Tz 0 0 from rfl];rw[show ((1:Nat):Int)=1 from rfl] at e1;unfold oO um eX;simp only[e1];cases hfr:TA m (m.bls.length-1) 1 with
 | none=>
   simp only[hfr] at g1 c1;refine ⟨J1_.set J.length (Tz 0 0), ?_,g1.Aw fun j hj=>yc fun e=>Aad J.length (by have:=h.lt _ hj; omega),kp.trans ⟨by simp,fun q hq h2=>?_⟩⟩
   ·simp only[AI,ye,H2,c1,Tz,M9];simp[AP,KR,yo (Af c1)]
   ·rcases Aaa q J.length with e | e | e
    ·rw[yc (by omega)]
    ·rw[e,yo (Af c1),c1]
    ·rw[yc (by omega)]
 | some b=>
   simp only[hfr] at g1 c1;refine ⟨J1_, ?_,g1,kp⟩;simp only[AI,show (Cc.ret=Cc.exit 0)=False from by simp,yq,ye,j4,M9,c1,Tz];rfl
def qM (m:HM) (b:Int):Int:=if 0<=b/\b<(m.bls.length:Int) then (m.bls.getD b.toNat (0,0)).2 else -1
theorem rO (k:Nat) (h:Ai J i m) (b:Int):Bt (k+3) (AM i) b J=some (.int .i64 (qM m b),J):=by
 unfold qM;by_cases hb:0<=b/\b<(m.bls.length:Int)
 ·rw[yk hb];obtain ⟨n,rfl⟩:∃ n:Nat,b=(n:Int):=⟨b.toNat,by omega⟩;rw[xQ];exact Yj k h (by omega)
 ·rw[ym hb,Ju];by_cases h0:b<0
  ·simp only[xZ h0,IT,AI]
  ·simp only[xY h0,By,Gm k h,AI,Ag,xZ (show b>=((m.bls.length:Nat):Int) by omega),IT]
end
section
variable {J:Aa} {i:Cd} {m:HM} {ab:Nat} {a:AS}
def AS.li (a:AS) (v:Bool):Int:=bif v then a.ol else a.l
def AS.put (a:AS) (v:Bool) (x y:Int):AS:=bif v then { a with oc:=x,ol:=y } else { a with c:=x,l:=y }
def xB (v:Bool):Nat:=bif v then 5 else 3
theorem DD.ll (h:DD J ab i a) (v:Bool):Ak .i64 J ab (xB v+1)=some (a.li v):=match v with | false=>h.l4 | true=>h.l6
theorem AS.ok.put (h:a.ok) (v:Bool) {x y:Int} (hx:0<=x/\x<=10000) (hy:0<=y/\y<=10000):(a.put v x y).ok:=by
 cases v
 ·exact ⟨h.s0,h.p0,hx,hy,h.oc0,h.ol0⟩
 ·exact ⟨h.s0,h.p0,h.c0,h.l0,hx,hy⟩
theorem vP (Z:Aa) (T:TypeId) (p q x y:Value):H2 (Z++[.cells [p,q] T true]) Z.length 0 [x,y]=some (Z++[.cells [x,y] T true]):=by
 simp[H2,AP]
theorem SE (Z:Aa) (T:TypeId) (x y:Int):Ak .i64 (Z++[.cells [.int .i64 x,.int .i64 y] T true]) Z.length 0=some x/\Ak .i64 (Z++[.cells [.int .i64 x,.int .i64 y] T true]) Z.length 1=some y:=by
 simp[Ak,D5,Bn]
abbrev PR:=(Int × Bool) × HM × AS
def ox (mm:Option (Value × Aa)) (J:Aa) (i:Cd) (ab:Nat) (r:PR):Prop:=
 ∃ J',mm=some (.tuple #[.int .i64 r.1.1,.bool r.1.2],J')/\Ai J' i r.2.1/\DD J' ab i r.2.2/\FX i ab J J'
theorem ib {b c x y x' y':Int} (h:(Bs m b c x y x' y').1≠0):(Bs m b c x y x' y').2=m:=by
 unfold Bs at *;split at h
 ·split at h
  ·exact absurd rfl h
  ·rename_i h1 h2; rw[yk h1,ym h2]
 ·rename_i h1; rw[ym h1]
def re (m:HM) (c:Nat) (s:Int):Nat->Nat->Option Nat
 | 0,_=>none
 | n+1,x=>if x+c<=m.bls.length then (if (Bs m (x:Int) (c:Int) 2 s 3 s).1=0 then some x else re m c s n (x+1)) else none
theorem WO (k:Nat) (hk:5000<=k) (hab:ab ∉ i.l) {c:Nat} (hc:c<=100):∀ (n x f:Nat) (J:Aa),Ai J i m->DD J ab i a->x<=100->m.bls.length<x+n->n<f ->
  ∃ J',CN (k+8) f (Oy ab) (c:Int) (x:Int) J=some (match re m c a.s n x with | some b=>(.ret,[.int .i64 (64*(b:Int)),.bool true],J') | none=>(.exit 0,[],J'))/\Ai J' i (match re m c a.s n x with | some b=>(Bs m (b:Int) (c:Int) 2 a.s 3 a.s).2 | none=>m)/\Be i J J'
 | n,x,0,J,h,hA,hx,hn,hf=>by omega
 | n,x,f+1,J,h,hA,hx,hn,hf=>by
   have hnt:=h.nt;have w0:Ar ((x:Int)+(c:Int))=((x+c:Nat):Int):=Ah (by unfold AK; omega);rw[Mj];simp only[AI,yl,IN,hA.fg,Gm (k+6) h,Ag,w0];by_cases q:x+c<=m.bls.length
   ·obtain ⟨n,rfl⟩:∃ n',n=n'+1:=⟨n-1,by omega⟩;obtain ⟨J1_,e1,g1,k1⟩:=Qu (k+1) (by omega) h (x:Int) (c:Int) a.s (by unfold AK; omega) (by unfold AK; omega);simp only[xZ (show ((x+c:Nat):Int)<=((m.bls.length:Nat):Int) by omega),IT,hA.l1,AI,e1,Ag,re,yk q];by_cases q2:(Bs m (x:Int) (c:Int) 2 a.s 3 a.s).1=0
    ·refine ⟨J1_, ?_, ?_,k1⟩
     ·simp only[q2,z9,IT,ye];rw[show Ar ((x:Int)*64)=64*(x:Int) from by rw[Ah (by unfold AK; omega)]; omega]
     ·simp only[q2,ye]; exact g1
    ·rw[ib q2] at g1;obtain ⟨J2_,e2,g2,k2⟩:=WO k hk hab hc n (x+1) f J1_ g1 (hA.DH k1 hab) (by omega) (by omega) (by omega);refine ⟨J2_, ?_, ?_,k1.trans k2⟩
     ·simp only[show ((Bs m (x:Int) (c:Int) 2 a.s 3 a.s).1 == 0)=false from by simpa using q2,By,ym q2];rw[show Ar ((x:Int)+1)=((x+1:Nat):Int) from Ah (by unfold AK; omega)];exact e2
     ·simp only[ym q2]; exact g2
   ·have z:re m c a.s n x=none:=by
     cases n with
     | zero=>rfl
     | succ n=>simp only[re,ym q]
    refine ⟨J, ?_, ?_,Be.refl _ _⟩
    ·simp only[xY (show ¬ ((x+c:Nat):Int)<=((m.bls.length:Nat):Int) by omega),By,z]
    ·simp only[z]; exact h
def YX (m:HM) (a:AS) (w:Int):PR:=
 match re m ((w.toNat+63)/64) a.s m.bls.length 1 with
 | some b=>((64*(b:Int),true),(Bs m (b:Int) (((w.toNat+63)/64:Nat):Int) 2 a.s 3 a.s).2,a)
 | none=>((0,false),m,a)
theorem py (k:Nat) (hk:5000<=k) (h:Ai J i m) (hA:DD J ab i a) (hab:ab ∉ i.l) {w:Int} (hw:0<=w/\w<=1000):
  ox (EG (k+9) (Oy ab) w J) J i ab (YX m a w):=by
 have hnt:=h.nt;obtain ⟨w,rfl⟩:∃ n:Nat,w=(n:Int):=⟨w.toNat,by omega⟩;have e1:Ar (Ar (Ar ((w:Int)+64)-1))=Ar (Ar ((w:Int)+64)-1):=by
  rw[Ah (show AK ((w:Int)+64) by unfold AK; omega),Ah (show AK ((w:Int)+64-1) by unfold AK; omega),Ah (by unfold AK; omega)]
 have e2:Ar ((Ar (Ar ((w:Int)+64)-1)).tdiv 64)=(((w+63)/64:Nat):Int):=by
  rw[Ah (show AK ((w:Int)+64) by unfold AK; omega),Ah (show AK ((w:Int)+64-1) by unfold AK; omega),show (w:Int)+64-1=((w+63:Nat):Int) from by omega,show (((w+63:Nat):Int).tdiv 64)=(((w+63)/64:Nat):Int) from rfl];exact Ah (by unfold AK; omega)
 obtain ⟨J1_,e3,g1,k1⟩:=WO k hk hab (c:=(w+63)/64) (a:=a) (by omega) m.bls.length 1 (k+8) J h hA (by omega) (by omega) (by omega);rw[show ((1:Nat):Int)=1 from rfl] at e3;rw[Nq];rw[ym (by decide)];unfold YX ox;simp only[e2,e3,xQ,AI];cases hl:re m ((w+63)/64) a.s m.bls.length 1 with
 | none=>
   simp only[hl] at g1 ⊢;exact ⟨J1_,by simp only[ye],g1,hA.DH k1 hab,FX.of k1⟩
 | some b=>
   simp only[hl] at g1 ⊢;exact ⟨J1_,by simp only[show (Cc.ret=Cc.exit 0)=False from by simp,yq,ye,dg],g1,hA.DH k1 hab,FX.of k1⟩
end
section
variable {J:Aa} {i:Cd} {m:HM} {ab:Nat} {a:AS}
def wV:Nat->TypeId
 | 0=>Ik
 | 1=>ae
 | 2=>ai
 | 3=>ah
 | _=>ZD
def Zm (n:Nat):Value:=.iface (wV n) (.agg #[])
def iZ:Au:=.cells [Zm 0,Zm 1,Zm 2,Zm 3,Zm 4] Q5 true
theorem WV (k:Nat) (J:Aa):EH (k+1) J=some (.slice (some ⟨J.length,0,none⟩) 5 5,J++[iZ]):=by
 rw[SM]; rfl
def wx (p w:Int):Value:=if w>32 then .func (.func Kl) #[] #[] else .func (.method "dustcart/alloc.place") #[Zm p.toNat] #[]
def PG (m:HM) (a:AS) (r d c:Int) (pr:PR):(Int × Int) × HM × AS:=
 if valid r d c=true then
  (if pr.1.2=true then
   (if qM pr.2.1 (pr.1.1.tdiv 64)=a.s then
    (if (CF pr.2.1 pr.1.1 r d c).2.1=0 then ((pr.1.1,0),(CF pr.2.1 pr.1.1 r d c).2.2,pr.2.2) else ((0,6),(CF pr.2.1 pr.1.1 r d c).2.2,a))
   else ((0,6),pr.2.1,a))
  else ((0,6),pr.2.1,pr.2.2))
 else ((0,2),m,a)
def tg (mm:Option (Value × Aa)) (J:Aa) (i:Cd) (ab:Nat) (r:(Int × Int) × HM × AS):Prop:=
 ∃ J',mm=some (.tuple #[.int .i64 r.1.1,.int .i64 r.1.2],J')/\Ai J' i r.2.1/\DD J' ab i r.2.2/\FX i ab J J'
theorem wY (Z:Aa) (T:TypeId) (p q x y z u w p' q' x' y' z' u' w':Value):H2 (Z++[.cells [p,q,x,y,z,u,w] T true]) Z.length 0 [p',q',x',y',z',u',w']=some (Z++[.cells [p',q',x',y',z',u',w'] T true]):=by
 simp[H2,AP]
set_option maxHeartbeats 1000000 in
theorem nT (k:Nat) (hk:5000<=k) (h:Ai J i m) (hA:DD J ab i a) (hab:ab ∉ i.l) (ho:a.ok) {r d c:Int} (pr:PR)
  (hp:valid r d c=true -> ∀ J0_,Ai J0_ i m->DD J0_ ab i a->ox (H4 (k+12) (wx a.p (words r d c)) [.pointer (Oy ab),.int .i64 (words r d c)] J0_) J0_ i ab pr)
  (hI:valid r d c=true->Inv pr.2.1) (hb:valid r d c=true->pr.2.1.births<1000000) (hadr:valid r d c=true->0<=pr.1.1/\pr.1.1<=10000) (hps:valid r d c=true->pr.2.2.s=a.s):
  tg (CL (k+13) (Oy ab) r d c J) J i ab (PG m a r d c pr):=by
 have hlt:=hA.lt;rw[Nn];simp only[Ae];obtain ⟨Z0_,hμ0⟩:∃ Z0_,J++[Au.cells [Value.int .i64 r,.int .i64 d,.int .i64 c] Ad true]=Z0_:=⟨_,rfl⟩;rw[hμ0];have h0:Ai Z0_ i m:=hμ0 ▸ h.app _;have A0:DD Z0_ ab i a:=hμ0 ▸ hA.app _;have K0:FX i ab J Z0_:=hμ0 ▸ FX.app J _;have S0:Z0_[J.length]?=some (Au.cells [Value.int .i64 r,.int .i64 d,.int .i64 c] Ad true):=by rw[<- hμ0]; simp
 have bx:∀ {Z:Aa},Z[J.length]?=some (Au.cells [Value.int .i64 r,.int .i64 d,.int .i64 c] Ad true)->Ak .i64 Z J.length 0=some r/\Ak .i64 Z J.length 1=some d/\Ak .i64 Z J.length 2=some c:=by
  intro Z hm; simp[Ak,D5,hm,Bn]
 obtain ⟨b0,b1,b2⟩:=bx S0;obtain ⟨τ1,e1⟩:=Ma (k+11) r d c Z0_;simp only[oE (k+11) A0,AI,Ao,yp,By,IN,Nat.reduceAdd,b0,b1,b2,e1];unfold PG;cases hv:valid r d c with
 | false=>
   simp only[yY,IT,y8,yq];exact ⟨Z0_++τ1,rfl,h0.app _,A0.app _,K0.trans (FX.app _ _)⟩
 | true=>
   have ha1:=hadr hv;obtain ⟨τ2,e2⟩:=OA (k+10) r d c (Z0_++τ1);have S1:(Z0_++τ1)[J.length]?=some (Au.cells [Value.int .i64 r,.int .i64 d,.int .i64 c] Ad true):=by rw[AT (Af S0)]; exact S0
   obtain ⟨c0,c1,c2⟩:=bx S1;obtain ⟨Z2_,hμ2⟩:∃ Z2_,Z0_++τ1++τ2=Z2_:=⟨_,rfl⟩;rw[hμ2] at e2;have h2:Ai Z2_ i m:=hμ2 ▸ (h0.app _).app _;have A2:DD Z2_ ab i a:=hμ2 ▸ (A0.app _).app _;have K2:FX i ab J Z2_:=hμ2 ▸ (K0.trans (FX.app _ _)).trans (FX.app _ _);have S2:Z2_[J.length]?=some (Au.cells [Value.int .i64 r,.int .i64 d,.int .i64 c] Ad true):=by rw[<- hμ2,AT (Af S1)]; exact S1
   obtain ⟨Z3_,hμ3⟩:∃ Z3_,Z2_++[iZ]=Z3_:=⟨_,rfl⟩;have e3:EH (k+12) Z2_=_:=WV (k+11) Z2_;rw[hμ3] at e3;have h3:Ai Z3_ i m:=hμ3 ▸ h2.app _;have A3:DD Z3_ ab i a:=hμ3 ▸ A2.app _;have K3:FX i ab J Z3_:=hμ3 ▸ K2.trans (FX.app _ _);have S3:Z3_[J.length]?=some (Au.cells [Value.int .i64 r,.int .i64 d,.int .i64 c] Ad true):=by rw[<- hμ3,AT (Af S2)]; exact S2
   have p0:=ho.p0;have lp:D5 Z3_ Z2_.length a.p.toNat=some (Zm a.p.toNat):=by
    rw[<- hμ3]; unfold iZ; rw[ki];obtain ⟨n,hn⟩:∃ n:Nat,a.p=(n:Int):=⟨a.p.toNat,by omega⟩;rw[hn,xQ]
    match n,(show n<5 by omega) with
    | 0,_=>rfl
    | 1,_=>rfl
    | 2,_=>rfl
    | 3,_=>rfl
    | 4,_=>rfl
   have hnil:∀ (n:Nat) (K:Value->Option (Value × Aa)),iP (Zm n) K=K (Zm n):=fun _ _=>rfl;obtain ⟨Z4_,hμ4⟩:∃ Z4_,Z3_++[Au.cells (a.row i.hb) Ci true]=Z4_:=⟨_,rfl⟩;have h4:Ai Z4_ i m:=hμ4 ▸ h3.app _;have A4:DD Z4_ ab i a:=hμ4 ▸ A3.app _;have K4:FX i ab J Z4_:=hμ4 ▸ K3.trans (FX.app _ _);have S4:Z4_[J.length]?=some (Au.cells [Value.int .i64 r,.int .i64 d,.int .i64 c] Ad true):=by rw[<- hμ4,AT (Af S3)]; exact S3
   have W4:DD Z4_ Z3_.length i a:=by unfold DD; rw[<- hμ4]; simp
   have n3:Z3_.length ∉ i.l:=fun hm=>Aad _ (h3.lt _ hm);have ns:J.length ∉ i.l:=fun hm=>Aad _ (h.lt _ hm);have lab3:=A3.lt;have l03:=K3.len;obtain ⟨Z5_,e5,h5,A5,K5⟩:=hp hv Z4_ h4 A4;have W5:DD Z5_ Z3_.length i a:=W4.Aw (K5.same _ W4.lt n3 (by omega));have S5:Z5_[J.length]?=some (Au.cells [Value.int .i64 r,.int .i64 d,.int .i64 c] Ad true):=by rw[K5.same _ (Af S4) ns (by omega)]; exact S4
   have K05:=K4.trans K5;simp only[yp,By,c0,c1,c2,e2,AI,Ag,e3,ED,A3.l2,IN,yH,lp,hnil];rw[yk (show 0<=a.p/\a.p<((5:Nat):Int) by omega)];have hsel:∀ (K:Bl->Option (Value × Aa)),((bif decide (words r d c>32) then (some (Cc.normal,[Value.func (.func Kl) #[] #[]],Z3_)) else (some (Cc.normal,[(Value.func (.method "dustcart/alloc.place") #[Zm a.p.toNat] #[])],Z3_)):Option Bl).bind K)=K (.normal,[wx a.p (words r d c)],Z3_):=by
    intro K;unfold wx;by_cases q:words r d c>32
    ·rw[xZ q,yk q]; rfl
    ·rw[xY q,ym q]; rfl
   have hst:H2 (Z3_++[Au.cells [.pointer none,.int .i64 (0:Int),.int .i64 (0:Int),.int .i64 (0:Int),.int .i64 (0:Int),.int .i64 (0:Int),.int .i64 (0:Int)] Ci true]) Z3_.length 0 [.pointer (AM i),.int .i64 a.s,.int .i64 a.p,.int .i64 a.c,.int .i64 a.l,.int .i64 a.oc,.int .i64 a.ol]=some Z4_:=by
    rw[wY,<- hμ4]; rfl
   rw[hsel];simp only[ye,uP,AI,A3.fg,A3.l1,A3.l2,A3.l3,A3.l4,A3.l5,A3.l6,hst,e5,Qo];cases hok:pr.1.2 with
   | false=>
     simp only[yY,IT,y8,yq];exact ⟨Z5_,rfl,h5,A5,K05⟩
   | true=>
     have wq:Ar (pr.1.1.tdiv 64)=pr.1.1.tdiv 64:=by
      rw[Aav ha1.1]; exact Ah (by unfold AK; omega)
     have e6:Bt (k+12) (AM i) (pr.1.1.tdiv 64) Z5_=_:=rO (k+9) h5 (pr.1.1.tdiv 64);simp only[yp,By,A5.fg,AI,wq,e6,Ag,A5.l1,hps hv,ye];rw[ym (by decide)];have restore:∀ {Z:Aa} {a':AS},DD Z ab i a'->H2 Z ab 0 [.pointer (AM i),.int .i64 a.s,.int .i64 a.p,.int .i64 a.c,.int .i64 a.l,.int .i64 a.oc,.int .i64 a.ol]=some (Z.set ab (.cells (a.row i.hb) Ci true)):=fun hh=>hh.st 0 _ a rfl (by simp);by_cases q:qM pr.2.1 (pr.1.1.tdiv 64)=a.s
     ·obtain ⟨s0,s1,s2⟩:=bx S5;obtain ⟨Z6_,e7,h6,k6⟩:=Ya k hk h5 (hI hv) (hb hv) pr.1.1 r d c (by unfold AK; omega);have A6:=A5.DH k6 hab;have W6:DD Z6_ Z3_.length i a:=W5.DH k6 n3;have K06:=K05.trans (FX.of k6);simp only[q,z9,IT,s0,s1,s2,AI,e7,Cp,ye,D7];by_cases q2:(CF pr.2.1 pr.1.1 r d c).2.1=0
      ·simp only[q2,yr,By,ye];exact ⟨Z6_,rfl,h6,A6,K06⟩
      ·simp only[show ((CF pr.2.1 pr.1.1 r d c).2.1 != 0)=true from by simpa using q2,IT,ym q2,W6.fg,W6.l1,W6.l2,W6.l3,W6.l4,W6.l5,W6.l6,AI,restore A6];exact ⟨_,rfl,h6.vO hab _,A6.put a,K06.trans (FX.set _ _)⟩
     ·simp only[show (qM pr.2.1 (pr.1.1.tdiv 64) == a.s)=false from by simpa using q,By,AI,ye,D7,show ((5:Int) != 0)=true from rfl,IT,ym q,W5.fg,W5.l1,W5.l2,W5.l3,W5.l4,W5.l5,W5.l6,restore A5];exact ⟨_,rfl,h5.vO hab _,A5.put a,K05.trans (FX.set _ _)⟩
theorem ri (k:Nat) (h:Ai J i m) (s p:Int):∃ J1_,K8 (k+3) (AM i) s p J=(if (0<=s/\s<8)/\(0<=p/\p<5) then some (.tuple #[.pointer (Oy J1_.length),.int .i64 0],J1_++[Au.cells ((⟨s,p,0,0,0,0⟩:AS).row i.hb) Ci true]) else some (.tuple #[.pointer none,.int .i64 1],J1_)) /\ ∃ τ,J1_=J++τ:=by
 have hnb:=h.nb;rw[Y0];have q0:(((m.bls.length:Nat):Int) == 0)=false:=yM.2 (by omega);simp only[Gm k h,AI,Ag,q0,By];by_cases h1:s<0
 ·refine ⟨J, ?_,[],by simp⟩;simp only[xZ h1,AI,IT,ym (show ¬ ((0<=s/\s<8)/\(0<=p/\p<5)) by omega)]
 simp only[xY h1,AI,By];by_cases h2:s>=8
 ·refine ⟨J, ?_,[],by simp⟩;simp only[xZ h2,AI,IT,ym (show ¬ ((0<=s/\s<8)/\(0<=p/\p<5)) by omega)]
 simp only[xY h2,AI,By];by_cases h3:p<0
 ·refine ⟨J, ?_,[],by simp⟩;simp only[xZ h3,AI,IT,ym (show ¬ ((0<=s/\s<8)/\(0<=p/\p<5)) by omega)]
 simp only[xY h3,AI,By,WV,ED];by_cases h4:p>=((5:Nat):Int)
 ·refine ⟨J++[iZ], ?_,[iZ],rfl⟩;simp only[xZ h4,IT,ym (show ¬ ((0<=s/\s<8)/\(0<=p/\p<5)) by omega)]
 ·refine ⟨J++[iZ], ?_,[iZ],rfl⟩;simp only[xY h4,By,yk (show (0<=s/\s<8)/\(0<=p/\p<5) by omega),Ae];rfl
end
section
variable {J:Aa} {i:Cd} {m:HM} {ab:Nat} {a:AS}
structure tK (m:HM) (a:AS) (r:(Int × Int) × HM × AS):Prop where
 inv:Inv r.2.1
 inv2:Inv2 r.2.1
 b1:m.births<=r.2.1.births
 b2:r.2.1.births<=m.births+1
 len:r.2.1.bls.length=m.bls.length
 s:r.2.2.s=a.s
 p:r.2.2.p=a.p
 ok:r.2.2.ok
theorem nN {r d c:Int} (h:valid r d c=true):2<=words r d c/\words r d c<=218/\words r d c % 2=0:=by
 unfold words;rw[h];simp only[IT];simp[valid] at h;omega
end
end
end Go.Proofs.YtjbledomkmdkmaaGreat
