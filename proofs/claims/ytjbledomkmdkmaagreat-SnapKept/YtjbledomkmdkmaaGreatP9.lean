/- Part 9. -/
import Derived.Test.YtjbledomkmdkmaaGreatP8
import Derived.Test.YtjbledomkmdkmaaGreatP7
set_option linter.unusedVariables false
set_option linter.unusedSimpArgs false
set_option linter.unusedSectionVars false
namespace Go.Proofs.YtjbledomkmdkmaaGreat
open Go Go.AX
noncomputable section
local instance qSC:AH:=Ao
section
variable {J:Aa} {m:HM} {t:RM} {i:RI}
theorem gi (n j:Nat):¬ Start (JB n) j:=by
 rintro ⟨_,h⟩;have:CG 1 (JB n).stw j=0:=Pj _ _ _;omega
theorem Rl.new (n:Nat):Rl (JB n) ⟨List.replicate n (0,0),[],[],0⟩:=by
 refine ⟨rfl, ?_,rfl,fun a=>rfl,rfl,trivial,trivial⟩;have:F8 (JB n)=[]:=by
  cases h:F8 (JB n) with
  | nil=>rfl
  | cons j l=>exact absurd (DO.1 (by rw[h]; exact Ac0)) (gi n j)
 show []=Gp (JB n);unfold Gp;rw[this]; rfl
theorem LH.new (n:Nat):LH (JB n):=fun j _ _=>Pj _ _ _
theorem FZ.new (n:Nat):FZ (JB n):=by
 intro c _;show ((List.replicate n ((0:Int),(0:Int))).getD c (0,0)).2=0;rw[Abi,Aec];split <;> rfl
theorem xz (k:Nat) {n:Nat} (h2:2<=n) (c:n<=64) (J:Aa):∃ τ i,LX (k+1) (n:Int) J=some (.tuple #[qVi (Bk i),qIi 0],J++τ)/\JH (J++τ) i ⟨List.replicate n (0,0),[],[],0⟩ /\ ∀ j ∈ i.l,J.length<=j:=by
 rw[bE];simp only[show decide ((n:Int)<2)=false from Aac (by omega),By,show decide ((n:Int)>64)=false from Aac (by omega),AI,Ae];rw[Abm (by omega)];simp only[IT,pV];obtain ⟨A,b⟩:∃ A,Au.cells (CS (List.replicate n (0,0))) As true=A:=⟨_,rfl⟩;rw[b];refine ⟨[A]++[Au.cells [.slice (some ⟨J.length,0,none⟩) n n,.slice none 0 0,.slice none 0 0,qIi 0] Db true],⟨(J++[A]).length,(some ⟨J.length,0,none⟩,n,n),(none,0,0),(none,0,0),[]⟩,by rw[Aae], ?_, ?_⟩
 ·rw[<- Aae];refine { hp:=by simp,bl:=.inr ⟨J.length,by simp,Ade _,by rw[J2]; omega,by rw[AT (by simp),<- b]; simp⟩,ob:=.inl ⟨rfl,rfl,rfl⟩,fw:=.inl (.inl ⟨rfl,rfl,rfl⟩),ol:=rfl,inn:=fun x h=>by simp at h,nd:=?_,lt:=?_ }
  ·simp[RI.l,hs]
  ·intro j a;simp[RI.l,hs] at a;simp;omega
 ·intro j a;simp[RI.l,hs] at a;omega
theorem Tl {E:TypeId} {s by_:Nat} {z:Value} (hs:HR P E=some s) (hb:bytesOf P E=some by_) (k:FR P E=some z) (b:Gn z=false) (d:z.cells.size=s) (a:0<s) (f:0<by_) (g:by_<=1000)
  (J:Aa) (p:qOi) (n c:Nat) (i:n<=100000) (row:List Value) (l:row.length=n*s) (j:CZ (J++[.cells [] E true]) s p n=some row):
  ∃ s' τ,AG P E (some ⟨J.length,0,some 0⟩,0,0) (p,n,c) (J++[.cells [] E true])=some (s',J++[.cells [] E true]++τ)/\(0<n->s'=(some ⟨J.length+1,0,none⟩,n,n)/\(J++[.cells [] E true]++τ)[J.length+1]?=some (.cells row E true))/\(n=0->s'=(some ⟨J.length,0,some 0⟩,0,0)):=by
 by_cases h0:n=0
 ·subst h0;refine ⟨(some ⟨J.length,0,some 0⟩,0,0),[], ?_,fun h=>absurd h (Aew _),fun _=>rfl⟩;unfold AG LB;have h1:(¬ (Gn z=false/\some s=some z.cells.size/\0<z.cells.size))=False:=by
   rw[b,d]; simp[a]
  simp only[hs,hb,k,j,AI,h1,Abs,Abn,Abp,Aah,HQ,Ahk,IS,qh,Abu]
 ·have e:=mQ hs hb k b d a f g J p n c (by omega) i row j;refine ⟨_,[.cells row E true], ?_,fun _=>⟨rfl, ?_⟩,fun h=>absurd h h0⟩
  ·rw[e]; simp
  ·rw[Acr (by simp)]; simp
theorem Dw.first {s:Bv} {l:List Int} (h:Dw J s l):CZ J 1 s.1 l.length=some (Bm l):=by
 by_cases d:l=[]
 ·subst d;cases hs:s.1 with
  | none=>rfl
  | some a=>
    obtain ⟨cs,T,w,h1,e⟩:=h.2.2 a hs;simp only[CZ,Nh,h1,Adn,Adw,Abn,e,Aah,Agk];rfl
 ·obtain ⟨b,c,rfl,f⟩:=h.2.1 d;simp only[CZ,Nh,f,Cj,IN,Acu,Abp,Aah,Ac6];rw[Ado (by rw[Cj]; exact Abp _)]
theorem Cq.first {E:TypeId} {s n:Nat} {sl:Bv} {row:List Value} (h:Cq E s J sl n row):CZ J s sl.1 n=some row:=by
 rcases h with ⟨rfl,rfl,rfl⟩ | ⟨b,rfl,_,a,c⟩
 ·rfl
 ·simp only[CZ,Nh,c,a,IN,Abp,Aah,Ac6];rw[Ado (Ahe a)]
theorem rE (J:Aa) (s:Bv) (l:List Int) (m:l.length<=100000) (h:Dw J s l):
  ∃ s' τ,AG P Ak (some ⟨J.length,0,some 0⟩,0,0) (s.1,s.2.1,s.2.2) (J++[.cells [] Ak true])=some (s',J++[.cells [] Ak true]++τ)/\Dw (J++[.cells [] Ak true]++τ) s' l/\hs s'≠[] /\ ∀ j ∈ hs s',j=J.length\/j=J.length+1/\j<(J++[Au.cells [] Ak true]++τ).length:=by
 have k:=(h.app [.cells [] Ak true]).first
 rw[<- h.1] at k;obtain ⟨s',τ,e,h1,d⟩:=Tl vE ub ta rfl rfl (by decide) (by decide) (by decide) J s.1 s.2.1 s.2.2 (by rw[h.1]; exact m) (Bm l) (by rw[Cj,h.1,Acu]) k;refine ⟨s',τ,e, ?_, ?_, ?_⟩
 ·by_cases h0:s.2.1=0
  ·rw[d h0];have g:l=[]:=Ad6.1 (by rw[<- h.1]; exact h0);subst g;exact ⟨rfl,fun n=>absurd rfl n,fun a f=>by cases f; exact ⟨[],Ak,true,by rw[AT (by simp)]; simp,Abp _⟩⟩
  ·obtain ⟨i,c⟩:=h1 (by omega);rw[i];exact ⟨h.1,fun _=>⟨J.length+1,s.2.1,by rw[h.1],c⟩,fun a f=>by cases f; exact ⟨_,_,_,c,Ade _⟩⟩
 ·by_cases h0:s.2.1=0
  ·rw[d h0]; simp[hs]
  ·rw[(h1 (by omega)).1]; simp[hs]
 ·intro j b;by_cases h0:s.2.1=0
  ·rw[d h0] at b; simp[hs] at b; exact .inl b
  ·obtain ⟨i,c⟩:=h1 (by omega);rw[i] at b; simp only[hs,Ac1] at b;exact .inr ⟨b,by rw[b]; exact Af c⟩
theorem Acs:HR P As=some 2:=by kernel_rfl
theorem Ab7:bytesOf P As=some 16:=by kernel_rfl
theorem Acx:FR P As=some (.agg #[qIi 0,qIi 0]):=by kernel_rfl
end
section
variable {J:Aa} {m:HM} {i:Cp}
theorem vL (k:Nat) (h:Al J i m) {b:Int} (hb:¬ (0<=b/\b<(m.bls.length:Int))):Fm (k+3) (AU i) b J=some (.bool false,J):=by
 rw[NU];simp only[ak _ h,AI,An,Aac (show ¬ (1<=b/\b<(m.bls.length:Int)) by omega),By]
theorem ZX (k:Nat) (h:Al J i m) (b:Int):Bn (k+3) (AU i) b J=some (qIi (Cb m b),J):=by
 unfold Cb;by_cases hb:0<=b/\b<(m.bls.length:Int)
 ·rw[Abm hb];obtain ⟨n,rfl⟩:∃ n:Nat,b=(n:Int):=⟨b.toNat,by omega⟩;rw[IT];exact jE k h (by omega)
 ·rw[Abo hb,N6];by_cases h0:b<0
  ·simp only[Aad h0,IS,AI]
  ·simp only[Aac h0,By,GR k h,AI,Ah,Aad (show b>=((m.bls.length:Nat):Int) by omega),IS]
theorem wF (k:Nat) (h:Al J i m) (b:Int):BE (k+3) (AU i) b J=some (qIi (MJ m b),J):=by
 unfold MJ;by_cases hb:0<=b/\b<(m.bls.length:Int)
 ·rw[Abm hb];obtain ⟨n,rfl⟩:∃ n:Nat,b=(n:Int):=⟨b.toNat,by omega⟩;rw[IT];exact aU k h (by omega)
 ·rw[Abo hb,Kx];by_cases h0:b<0
  ·simp only[Aad h0,IS,AI]
  ·simp only[Aac h0,By,GR k h,AI,Ah,Aad (show b>=((m.bls.length:Nat):Int) by omega),IS]
theorem qG (k:Nat) (a:5000<=k) (h:Al J i m) (b:Int):∃ τ s,Cd (k+6) (AU i) b J=some (.slice s.1 s.2.1 s.2.2,J++τ)/\C8 J.length (J++τ) s (C7 (HC m b)):=by
 unfold HC;by_cases hb:0<=b/\b<(m.bls.length:Int)
 ·rw[Abm hb];obtain ⟨n,rfl⟩:∃ n:Nat,b=(n:Int):=⟨b.toNat,by omega⟩;rw[IT];exact VS k a h (by omega)
 ·rw[Abo hb,My];refine ⟨[],(none,0,0), ?_,.inl ⟨rfl,rfl⟩⟩;simp only[JT _ h,AI,An,Abr,By,Abu];by_cases h0:b<0
  ·simp only[Aad h0,IS,AI]
  ·simp only[Aac h0,By,AI,IN,h.HI,Aad (show b>=((m.bls.length:Nat):Int) by omega),IS]
theorem yF (k:Nat) (o:5000<=k) (h:Al J i m) (g:Inv m) (h0:B0 m) (b:Int):
  ∃ τ s,Hw (k+7) (AU i) b J=some (.slice s.1 s.2.1 s.2.2,J++τ)/\Cq AF 2 (J++τ) s (IQ m b).length (D0 (IQ m b)) /\ ∀ a,s.1=some a->J.length<=a.block:=by
 by_cases hb:0<=b/\b<(m.bls.length:Int)
 ·obtain ⟨n,rfl⟩:∃ n:Nat,b=(n:Int):=⟨b.toNat,by omega⟩;have e:IQ m (n:Int)=fG m n:=by
   unfold IQ fG Cb;rw[Abm hb,IT];by_cases hs:(m.bls.getD n (0,0)).1=1
   ·have:1<=n:=by
     rcases Nat.eq_zero_or_pos n with rfl | h1
     ·have:=h0; unfold B0 at this; omega
     ·exact h1
    rw[Abm hs,Abm ⟨this,hs⟩]
   ·rw[Abo hs,Abo (fun l=>hs l.2)]
  rw[e];obtain ⟨τ,s,c,d,_,f⟩:=vW k o h g (b:=n) (by omega);exact ⟨τ,s,c,d,f⟩
 ·have e:IQ m b=[]:=by
   unfold IQ Cb;rw[Abo hb,Abo (by decide)]
  rw[e];refine ⟨[],(none,0,0), ?_,Cq.nil _ _ _,by intro a j; cases j⟩;rw[Le];have hu:Fm (k+6) (AU i) b J=_:=vL (k+3) h hb;simp only[hu,AI,An,Ac7,IS,Abu]
theorem wC (k:Nat) (h:Al J i m) (a:Int) (d:AO a):∃ τ,AK (k+6) (AU i) a J=some (.tuple #[if Ax m a then o6 m (a.toNat/2) else oz,qIi (if Ax m a then 0 else 4)],J++τ):=by
 cases b:Ax m a with
 | true=>
   obtain ⟨j,rfl,hs⟩:=AV b;obtain ⟨τ,e⟩:=tF k h hs;refine ⟨τ, ?_⟩;rw[e,show ((2*j:Nat):Int).toNat/2=j from by omega];rfl
 | false=>
   rw[N5];simp only[Ae];have h1:=h.app [Au.cells [Value.int .i64 0,qIi 0,qIi 0] Ad true];have c:∀ x y z:Value,Nh (J++[Au.cells [x,y,z] Ad true]) J.length 0 3=some [x,y,z]:=fun x y z=>by simp[Nh]
   refine ⟨[Au.cells [qIi 0,qIi 0,qIi 0] Ad true], ?_⟩;simp only[Ov k h1 a d,b,Abz,Abs,AI,Ah,ne4,IS,Ez,c,Lb];rfl
theorem Vw (k:Nat) (h:Al J i m) (b:Inv m) (a x:Int) (d:AO a):∃ τ,AL (k+7) (AU i) a x J=some (.tuple #[qIi (K6 m a x false).1,qIi (K6 m a x false).2],J++τ):=by
 obtain ⟨τ,e⟩:=Xd k h b a x d false;refine ⟨τ, ?_⟩;rw[VZ];simp only[e,AI,B9];unfold K6;by_cases h0:(BB m a x false).2=0
 ·rw[Abm h0];have p:0<=(BB m a x false).1/\(BB m a x false).1<(m.wds.length:Int):=by
   unfold BB at h0 ⊢;split at h0
   ·rename_i f;obtain ⟨j,rfl,hs⟩:=AV f;have c:=b.fit j hs;have q:=b.size hs;simp only[show ((2*j:Nat):Int).toNat/2=j from by omega,Abz,Abs] at h0 ⊢;split at h0
    ·rename_i l;rw[Abm (RJ hs),Abm l];dsimp only;omega
    ·cases h0
   ·cases h0
  obtain ⟨n,g⟩:∃ n:Nat,(BB m a x false).1=(n:Int):=⟨(BB m a x false).1.toNat,by omega⟩;have o:=qSu n m.wds.length (by omega);simp only[h0,g,Abt,By,IN,(h.app τ).EX,AI,o,Aah,IT,Acu,(h.app τ).uB (show n<m.wds.length by omega)]
 ·rw[Abo h0];simp only[Adp.2 h0,IS]
theorem yD (k:Nat) (h:Al J i m) (b:Inv m) (a x:Int) (d:AO a):∃ τ,Hv (k+7) (AU i) a x J=some (.tuple #[qIi (K6 m a x true).1,qIi (K6 m a x true).2],J++τ):=by
 obtain ⟨τ,e⟩:=Xd k h b a x d true;refine ⟨τ, ?_⟩;rw[UP];simp only[e,AI,B9];unfold K6;by_cases h0:(BB m a x true).2=0
 ·rw[Abm h0];have p:0<=(BB m a x true).1/\(BB m a x true).1<(m.wds.length:Int):=by
   unfold BB at h0 ⊢;split at h0
   ·rename_i f;obtain ⟨j,rfl,hs⟩:=AV f;have c:=b.fit j hs;have q:=b.size hs;simp only[show ((2*j:Nat):Int).toNat/2=j from by omega,Aah] at h0 ⊢;split at h0
    ·rename_i l;rw[Abm (RJ hs),Abm l];dsimp only;omega
    ·cases h0
   ·cases h0
  obtain ⟨n,g⟩:∃ n:Nat,(BB m a x true).1=(n:Int):=⟨(BB m a x true).1.toNat,by omega⟩;have o:=qSu n m.wds.length (by omega);simp only[h0,g,Abt,By,IN,(h.app τ).EX,AI,o,Aah,IT,Acu,(h.app τ).uB (show n<m.wds.length by omega)]
 ·rw[Abo h0];simp only[Adp.2 h0,IS]
theorem pg {c:Prop} [Decidable c] {r a:Int × HM} (h:c->FZ r.2) (b:¬ c->FZ a.2):FZ (if c then r else a).2:=by
 split
 ·exact h ‹_›
 ·exact b ‹_›
theorem bX {m':HM} (h:FZ m) (hb:m'.bls=m.bls):FZ m':=by unfold FZ; rw[hb]; exact h
theorem re (h:FZ m) (b c x y e g:Int) (i:x≠0) (a:e≠0\/c=1):FZ (BA m b c x y e g).2:=by
 unfold BA;refine pg (fun j=>pg (fun hu=>?_) fun _=>h) fun _=>h;intro d hd;have hd:(((VV m.bls b.toNat (e,g) c.toNat 0).set b.toNat (x,y)).getD d (0,0)).1=0:=hd;show (((VV m.bls b.toNat (e,g) c.toNat 0).set b.toNat (x,y)).getD d (0,0)).2=0;rw[Zk,J4] at hd ⊢;by_cases h1:d=b.toNat/\b.toNat<m.bls.length
 ·rw[Abm h1] at hd; exact absurd hd i
 ·rw[Abo h1] at hd ⊢;rw[ij _ _ _ _ _ _ (by omega)] at hd ⊢;split at hd
  ·rename_i f;rcases a with a | rfl
   ·exact absurd hd a
   ·rw[show (1:Int).toNat=1 from rfl] at f;exact absurd ⟨by omega,by omega⟩ h1
  ·rename_i f;rw[Abo f]; exact h d hd
theorem kY (h:FZ m) (b:Int):FZ (CY m b).2:=by
 unfold CY;refine pg (fun c=>pg (fun hu=>?_) fun _=>h) fun _=>h;intro d hd;have hd:((cZ m.bls b.toNat (LA m b.toNat)).getD d (0,0)).1=0:=hd;show ((cZ m.bls b.toNat (LA m b.toNat)).getD d (0,0)).2=0;rw[QW] at hd ⊢;split
 ·rfl
 ·rename_i a;rw[Abo a] at hd; exact h d hd
end
section
variable {J:Aa} {m:HM} {t:RM} {i:Cp} {j:RI}
structure Two (J:Aa) (i:Cp) (j:RI) (m:HM) (t:RM):Prop where
 h:Al J i m
 g:RG J j m t
 P:LH m
 z:FZ m
 b0:B0 m
 off:∀ q ∈ i.l,q ∉ j.l
 br:m.births<=1000
 fl:m.fw.length<=1000
theorem Two.app (T:Two J i j m t) (τ:Aa):Two (J++τ) i j m t:=⟨T.h.app τ,T.g.app τ,T.P,T.z,T.b0,T.off,T.br,T.fl⟩
def Ag (m:HM) (a:Int):Int × Int × Int:=if Ax m a then (Av m (a.toNat/2),Bp m (a.toNat/2),CA m (a.toNat/2)) else (0,0,0)
theorem lW (m:HM) (a:Int):(if Ax m a then o6 m (a.toNat/2) else oz) = .agg #[qIi (Ag m a).1,qIi (Ag m a).2.1,qIi (Ag m a).2.2]:=by
 unfold Ag; split <;> rfl
theorem O7 (b:Inv m) (a:Int):0<=(Ag m a).1/\(Ag m a).1<=200/\0<=(Ag m a).2.1/\(Ag m a).2.1<=200:=by
 unfold Ag;split
 ·rename_i c;obtain ⟨j,rfl,hs⟩:=AV c;obtain ⟨_,d,e,f,g,_⟩:=MX b hs;rw[show ((2*j:Nat):Int).toNat/2=j from by omega];dsimp only;omega
 ·dsimp only; omega
end
section
variable {J:Aa} {m:HM} {t:RM} {i:Cp} {j:RI}
theorem zg {s:Bv} {l:List Int} (h:Cq Ak 1 J s l.length (Bm l)) {x:Nat} (c:x<l.length):∃ b,s.1=some ⟨b,0,none⟩/\Aj .i64 J b x=some (l.getD x 0):=by
 rcases h with ⟨h,_⟩ | ⟨b,rfl,_,_,a⟩
 ·omega
 ·exact ⟨b,rfl,nL a c⟩
theorem vw {s:Bv} {l:List (Nat × Nat)} (h:Cq AF 2 J s l.length (D0 l)) {x:Nat} (d:x<l.length):∃ b,s.1=some ⟨b,0,none⟩/\Aj .i64 J b (x*2)=some ((l.getD x (0,0)).1:Int)/\Aj .i64 J b (x*2+1)=some ((l.getD x (0,0)).2:Int):=by
 rcases h with ⟨h,_⟩ | ⟨b,rfl,_,_,a⟩
 ·omega
 ·obtain ⟨h1,c⟩:=W3 l x d;exact ⟨b,rfl,by simp only[Aj,CV,a,h1,AI,Ah],by simp only[Aj,CV,a,c,AI,Ah]⟩
end
section
variable {J:Aa} {i:Cp} {m:HM}
structure AS where
 s:Int
 p:Int
 c:Int
 l:Int
 oc:Int
 ol:Int
def AS.row (a:AS) (hb:Nat):List Value:=[qVi (some ⟨hb,0,none⟩),qIi a.s,qIi a.p,qIi a.c,qIi a.l,qIi a.oc,qIi a.ol]
def DX (J:Aa) (ab:Nat) (i:Cp) (a:AS):Prop:=J[ab]?=some (.cells (a.row i.hb) Cw true)
structure AS.ok (a:AS):Prop where
 s0:0<=a.s/\a.s<8
 p0:0<=a.p/\a.p<5
 c0:0<=a.c/\a.c<=10000
 l0:0<=a.l/\a.l<=10000
 oc0:0<=a.oc/\a.oc<=10000
 ol0:0<=a.ol/\a.ol<=10000
abbrev Qc (ab:Nat):qOi:=some ⟨ab,0,none⟩
variable {ab:Nat} {a:AS}
theorem DX.dX (h:DX J ab i a):B7 J ab 0=some (AU i):=by unfold DX AS.row at h; simp[B7,CV,h,HO]
theorem DX.l1 (h:DX J ab i a):Aj .i64 J ab 1=some a.s:=by unfold DX AS.row at h; simp[Aj,CV,h,Bl]
theorem DX.l2 (h:DX J ab i a):Aj .i64 J ab 2=some a.p:=by unfold DX AS.row at h; simp[Aj,CV,h,Bl]
theorem DX.l3 (h:DX J ab i a):Aj .i64 J ab 3=some a.c:=by unfold DX AS.row at h; simp[Aj,CV,h,Bl]
theorem DX.l4 (h:DX J ab i a):Aj .i64 J ab 4=some a.l:=by unfold DX AS.row at h; simp[Aj,CV,h,Bl]
theorem DX.l5 (h:DX J ab i a):Aj .i64 J ab 5=some a.oc:=by unfold DX AS.row at h; simp[Aj,CV,h,Bl]
theorem DX.l6 (h:DX J ab i a):Aj .i64 J ab 6=some a.ol:=by unfold DX AS.row at h; simp[Aj,CV,h,Bl]
theorem DX.lt (h:DX J ab i a):ab<J.length:=Af h
theorem DX.Aw {J':Aa} (h:DX J ab i a) (hs:J'[ab]?=J[ab]?):DX J' ab i a:=by unfold DX; rw[hs]; exact h
theorem DX.app (h:DX J ab i a) (τ:Aa):DX (J++τ) ab i a:=h.Aw (AT h.lt)
theorem DX.DN {J':Aa} (h:DX J ab i a) (k:Br i J J') (b:ab ∉ i.l):DX J' ab i a:=h.Aw (k.same ab h.lt b)
theorem DX.put (h:DX J ab i a) (b:AS):DX (J.set ab (.cells (b.row i.hb) Cw true)) ab i b:=by
 unfold DX; rw[Abq h.lt]
theorem DX.st (h:DX J ab i a) (o:Nat) (vs:List Value) (b:AS) (e:Ba (a.row i.hb) o vs=b.row i.hb) (d:o+vs.length<=7):H0 J ab o vs=some (J.set ab (.cells (b.row i.hb) Cw true)):=by
 have c:=h;unfold DX at c;simp only[H0,c];rw[Abm (by simpa [AS.row] using d),e]
theorem DX.CX (h:DX J ab i a) (o:Nat) (v:Value) (b:AS) (e:(a.row i.hb).set o v=b.row i.hb) (d:o<7):AX.CX J ab o v=some (J.set ab (.cells (b.row i.hb) Cw true)):=by
 have c:=h;unfold DX at c;simp only[AX.CX,c];rw[Abm (by simpa [AS.row] using d),e]
structure GB (i:Cp) (ab:Nat) (J J':Aa):Prop where
 len:J.length<=J'.length
 same:∀ j,j<J.length->j ∉ i.l->j≠ab->J'[j]?=J[j]?
theorem GB.of {J':Aa} (h:Br i J J'):GB i ab J J':=⟨h.len,fun j h1 a _=>h.same j h1 a⟩
theorem GB.trans {x y z:Aa} (h:GB i ab x y) (g:GB i ab y z):GB i ab x z:=
 ⟨Adj h.len g.len,fun j h1 a b=>(g.same j (Acz h1 h.len) a b).trans (h.same j h1 a b)⟩
theorem GB.app (J τ:Aa):GB i ab J (J++τ):=.of (Br.app i J τ)
theorem GB.set (J:Aa) (o:Au):GB i ab J (J.set ab o):=⟨by simp,fun j _ _ h=>Aaf fun e=>h e.symm⟩
theorem GB.refl (J:Aa):GB i ab J J:=.of (Br.refl i J)
theorem Al.Abd (h:Al J i m) (a:ab ∉ i.l) (o:Au):Al (J.set ab o) i m:=h.Aw fun j b=>Aaf fun e=>a (by rw[e]; exact b)
theorem Ab8 (x:Addr):Ll P JC (qVi (some x)) (qVi none)=some false:=by kernel_rfl
theorem Aa2 (x:Addr):Ll P EY (qVi (some x)) (qVi none)=some false:=by kernel_rfl
theorem tP (k:Nat) (hA:DX J ab i a):FA (k+1) (Qc ab) J=some (.bool true,J):=by
 rw[Po];simp only[Ab8,AI,Ac7,IS,IN,Abn,hA.dX,Aa2]
def VA (m:HM):Nat->Nat->Option Nat
 | 0,_=>none
 | n+1,x=>if (m.bls.getD x (0,0)).1=0/\(m.bls.getD x (0,0)).2=0 then some x else VA m n (x+1)
def ko (m:HM):Option Nat:=VA m (m.bls.length-1) 1
def XN (m:HM) (b:Nat) (s:Int):HM:=(BA m (b:Int) 1 1 s 0 0).2
theorem rh (m:HM) {x:Nat} {s:Int} (h1:1<=x) (b:x<m.bls.length) (hs:0<=s/\s<8):
  BA m (x:Int) 1 1 s 0 0=if (m.bls.getD x (0,0)).1=0/\(m.bls.getD x (0,0)).2=0 then (0,XN m x s) else (8,m):=by
 have e:(1<=(x:Int)/\(x:Int)<(m.bls.length:Int)/\(1:Int)<=1/\(1:Int)<=(m.bls.length:Int)-(x:Int)/\ZP s=true):=⟨by omega,by omega,by omega,by omega,by unfold ZP; simpa using hs⟩;have u:KF m.bls x 1 0=if (m.bls.getD x (0,0)).1=0/\(m.bls.getD x (0,0)).2=0 then none else some 0:=by
  simp only[KF,Abn]
 unfold XN BA;rw[Abm e,IT,show (1:Int).toNat=1 from rfl,u];by_cases a:(m.bls.getD x (0,0)).1=0/\(m.bls.getD x (0,0)).2=0
 ·simp only[a,Afp,Aah]
 ·simp only[a,Abs]; simp
theorem ny {n x b:Nat} (h:VA m n x=some b):x<=b/\b<x+n/\(m.bls.getD b (0,0)).1=0/\(m.bls.getD b (0,0)).2=0:=by
 induction n generalizing x with
 | zero=>cases h
 | succ n a=>
   unfold VA at h;split at h
   ·cases h; omega
   ·have:=a h; omega
def Vz (x y:Int):Au:=.cells [qIi x,qIi y] Nz true
theorem Zb (k:Nat) (I:5000<=k) (p:ab ∉ i.l) (hs:0<=a.s/\a.s<8) {h1:Nat} (d:h1 ∉ i.l) (y:h1≠ab):∀ (n x f:Nat) (J:Aa),Al J i m->DX J ab i a->J[h1]?=some (Vz 0 0)->1<=x->x+n=m.bls.length->n<f ->
  ∃ J',De (k+8) f (Qc ab) h1 (x:Int) J=some (match VA m n x with | some b=>(.ret,[.bool true],J') | none=>(.exit 0,[],J'))/\Al J' i (match VA m n x with | some b=>XN m b a.s | none=>m) /\
   J'[h1]?=some (match VA m n x with | some b=>Vz (64*(b:Int)) (64*(b:Int)+64) | none=>Vz 0 0)/\J.length<=J'.length /\ ∀ q,q<J.length->q ∉ i.l->q≠h1->J'[q]?=J[q]?
 | n,x,0,J,h,l,r,z,C,B=>by omega
 | 0,x,f+1,J,h,l,r,z,C,B=>by
   rw[Jx];refine ⟨J, ?_,h,r,Abp _,fun _ _ _ _=>rfl⟩;simp only[AI,Abn,l.dX,GR (k+6) h,Ah,Aac (show ¬ (x:Int)<((m.bls.length:Nat):Int) by omega),By,VA]
 | n+1,x,f+1,J,h,l,r,z,C,B=>by
   have K:=h.nt;obtain ⟨J1_,A,o,g⟩:=aq (k+1) (by omega) h (x:Int) a.s (by unfold AO; omega);have w:=l.DN g p;rw[rh m z (by omega) hs] at A o;have c:=(g.same h1 (Af r) d).trans r;have D:=wSu x (by omega);have M:Ar ((x:Int)*64)=64*(x:Int):=by rw[Ai (by unfold AO; omega)]; omega
   have N:Ar (((x+1:Nat):Int)*64)=64*(x:Int)+64:=by rw[Ai (by unfold AO; omega)]; omega
   rw[Jx];simp only[AI,Abn,l.dX,GR (k+6) h,Ah,Aad (show (x:Int)<((m.bls.length:Nat):Int) by omega),IS,IN,l.l1,A,VA];by_cases s:(m.bls.getD x (0,0)).1=0/\(m.bls.getD x (0,0)).2=0
   ·simp only[s,Afp,Aah] at o ⊢;refine ⟨J1_.set h1 (Vz (64*(x:Int)) (64*(x:Int)+64)), ?_,o.Aw fun j H=>Aaf fun e=>d (by rw[e]; exact H),by rw[Abq (Af c)],by simpa using g.len,fun q u t v=>by rw[Aaf (fun e=>v e.symm)]; exact g.same q u t⟩;simp only[Adr,IS,D,M,N,H0,c,Vz];rfl
   ·simp only[s,Abs] at o ⊢;obtain ⟨J2_,F,G,E,L,s2⟩:=Zb k I p hs d y n (x+1) f J1_ o w c (by omega) (by omega) (by omega);refine ⟨J2_, ?_,G,E,Adj g.len L,fun q u t v=>by rw[s2 q (Acz u g.len) t v]; exact g.same q u t⟩;simp only[show ((8:Int) == 0)=false from rfl,By,D,F]
def tZ (m:HM):Int × Int × Bool:=match ko m with | some b=>(64*(b:Int),64*(b:Int)+64,true) | none=>(0,0,false)
def zk (m:HM) (s:Int):HM:=match ko m with | some b=>XN m b s | none=>m
theorem ua (k:Nat) (s:5000<=k) (h:Al J i m) (hA:DX J ab i a) (g:ab ∉ i.l) (hs:0<=a.s/\a.s<8):
  ∃ J',Fh (k+9) (Qc ab) J=some (.tuple #[.agg #[qIi (tZ m).1,qIi (tZ m).2.1],.bool (tZ m).2.2],J')/\Al J' i (zk m a.s)/\Br i J J':=by
 have v:=h.nt; have u:=h.nb;have t:=hA.lt;obtain ⟨J1_,l,f,c,w,s1⟩:=Zb k s g hs (h1:=J.length) (fun hm=>Aew _ (h.lt _ hm)) (by omega) (m.bls.length-1) 1 (k+8) (J++[Vz 0 0]) (h.app _) (hA.app _) (by simp) (Abp _) (by omega) (by omega);have p:Br i J J1_:=⟨by simp at w; omega,fun q o n=>by rw[s1 q (by simp; omega) n (by omega),AT o]⟩;rw[OC];simp only[Ae,show (Au.cells [qIi 0,qIi 0] Nz true)=Vz 0 0 from rfl];rw[show ((1:Nat):Int)=1 from rfl] at l;unfold tZ zk ko;simp only[l];cases d:VA m (m.bls.length-1) 1 with
 | none=>
   simp only[d] at f c;refine ⟨J1_.set J.length (Vz 0 0), ?_,f.Aw fun j r=>Aaf fun e=>Aew J.length (by have:=h.lt _ r; omega),p.trans ⟨by simp,fun q o n=>?_⟩⟩
   ·simp only[AI,Aah,H0,c,Vz,Nh];simp[Ba,Lb,Abq (Af c)]
   ·rcases Aes q J.length with e | e | e
    ·rw[Aaf (by omega)]
    ·rw[e,Abq (Af c),c]
    ·rw[Aaf (by omega)]
 | some b=>
   simp only[d] at f c;refine ⟨J1_, ?_,f,p⟩;simp only[AI,show (C6.ret=C6.exit 0)=False from by simp,Abs,Aah,oF,Nh,c,Vz];rfl
def vy (m:HM) (b:Int):Int:=if 0<=b/\b<(m.bls.length:Int) then (m.bls.getD b.toNat (0,0)).2 else -1
theorem wE (k:Nat) (h:Al J i m) (b:Int):BE (k+3) (AU i) b J=some (qIi (vy m b),J):=by
 unfold vy;by_cases hb:0<=b/\b<(m.bls.length:Int)
 ·rw[Abm hb];obtain ⟨n,rfl⟩:∃ n:Nat,b=(n:Int):=⟨b.toNat,by omega⟩;rw[IT];exact aU k h (by omega)
 ·rw[Abo hb,Kx];by_cases h0:b<0
  ·simp only[Aad h0,IS,AI]
  ·simp only[Aac h0,By,GR k h,AI,Ah,Aad (show b>=((m.bls.length:Nat):Int) by omega),IS]
end
section
variable {J:Aa} {i:Cp} {m:HM} {ab:Nat} {a:AS}
def AS.li (a:AS) (v:Bool):Int:=bif v then a.ol else a.l
def AS.put (a:AS) (v:Bool) (x y:Int):AS:=bif v then { a with oc:=x,ol:=y } else { a with c:=x,l:=y }
def ofs (v:Bool):Nat:=bif v then 5 else 3
theorem DX.ll (h:DX J ab i a) (v:Bool):Aj .i64 J ab (ofs v+1)=some (a.li v):=match v with | false=>h.l4 | true=>h.l6
theorem AS.ok.put (h:a.ok) (v:Bool) {x y:Int} (b:0<=x/\x<=10000) (c:0<=y/\y<=10000):(a.put v x y).ok:=by
 cases v
 ·exact ⟨h.s0,h.p0,b,c,h.oc0,h.ol0⟩
 ·exact ⟨h.s0,h.p0,h.c0,h.l0,b,c⟩
theorem Abf (Z:Aa) (T:TypeId) (p q x y:Value):H0 (Z++[.cells [p,q] T true]) Z.length 0 [x,y]=some (Z++[.cells [x,y] T true]):=by
 simp[H0,Ba]
theorem UH (Z:Aa) (T:TypeId) (x y:Int):Aj .i64 (Z++[.cells [qIi x,qIi y] T true]) Z.length 0=some x/\Aj .i64 (Z++[.cells [qIi x,qIi y] T true]) Z.length 1=some y:=by
 simp[Aj,CV,Bl]
abbrev PR:=(Int × Bool) × HM × AS
def tC (mm:Option (Value × Aa)) (J:Aa) (i:Cp) (ab:Nat) (r:PR):Prop:=
 ∃ J',mm=some (.tuple #[qIi r.1.1,.bool r.1.2],J')/\Al J' i r.2.1/\DX J' ab i r.2.2/\GB i ab J J'
theorem mV {b c x y a d:Int} (h:(BA m b c x y a d).1≠0):(BA m b c x y a d).2=m:=by
 unfold BA at *;split at h
 ·split at h
  ·exact absurd rfl h
  ·rename_i h1 e; rw[Abm h1,Abo e]
 ·rename_i h1; rw[Abo h1]
def vR (m:HM) (c:Nat) (s:Int):Nat->Nat->Option Nat
 | 0,_=>none
 | n+1,x=>if x+c<=m.bls.length then (if (BA m (x:Int) (c:Int) 2 s 3 s).1=0 then some x else vR m c s n (x+1)) else none
theorem Zm (k:Nat) (u:5000<=k) (e:ab ∉ i.l) {c:Nat} (s:c<=100):∀ (n x f:Nat) (J:Aa),Al J i m->DX J ab i a->x<=100->m.bls.length<x+n->n<f ->
  ∃ J',Df (k+8) f (Qc ab) (c:Int) (x:Int) J=some (match vR m c a.s n x with | some b=>(.ret,[qIi (64*(b:Int)),.bool true],J') | none=>(.exit 0,[],J'))/\Al J' i (match vR m c a.s n x with | some b=>(BA m (b:Int) (c:Int) 2 a.s 3 a.s).2 | none=>m)/\Br i J J'
 | n,x,0,J,h,g,y,v,t=>by omega
 | n,x,f+1,J,h,g,y,v,t=>by
   have w:=h.nt;have w0:Ar ((x:Int)+(c:Int))=((x+c:Nat):Int):=Ai (by unfold AO; omega);rw[N4];simp only[AI,Abn,IN,g.dX,GR (k+6) h,Ah,w0];by_cases q:x+c<=m.bls.length
   ·obtain ⟨n,rfl⟩:∃ B,n=B+1:=⟨n-1,by omega⟩;obtain ⟨J1_,o,j,l⟩:=Sd (k+1) (by omega) h (x:Int) (c:Int) a.s (by unfold AO; omega) (by unfold AO; omega);simp only[Aad (show ((x+c:Nat):Int)<=((m.bls.length:Nat):Int) by omega),IS,g.l1,AI,o,Ah,vR,Abm q];by_cases d:(BA m (x:Int) (c:Int) 2 a.s 3 a.s).1=0
    ·refine ⟨J1_, ?_, ?_,l⟩
     ·simp only[d,Adr,IS,Aah];rw[show Ar ((x:Int)*64)=64*(x:Int) from by rw[Ai (by unfold AO; omega)]; omega]
     ·simp only[d,Aah]; exact j
    ·rw[mV d] at j;obtain ⟨J2_,p,r,A⟩:=Zm k u e s n (x+1) f J1_ j (g.DN l e) (by omega) (by omega) (by omega);refine ⟨J2_, ?_, ?_,l.trans A⟩
     ·simp only[show ((BA m (x:Int) (c:Int) 2 a.s 3 a.s).1 == 0)=false from by simpa using d,By,Abo d];rw[show Ar ((x:Int)+1)=((x+1:Nat):Int) from Ai (by unfold AO; omega)];exact p
     ·simp only[Abo d]; exact r
   ·have z:vR m c a.s n x=none:=by
     cases n with
     | zero=>rfl
     | succ n=>simp only[vR,Abo q]
    refine ⟨J, ?_, ?_,Br.refl _ _⟩
    ·simp only[Aac (show ¬ ((x+c:Nat):Int)<=((m.bls.length:Nat):Int) by omega),By,z]
    ·simp only[z]; exact h
def cn (m:HM) (a:AS) (w:Int):PR:=
 match vR m ((w.toNat+63)/64) a.s m.bls.length 1 with
 | some b=>((64*(b:Int),true),(BA m (b:Int) (((w.toNat+63)/64:Nat):Int) 2 a.s 3 a.s).2,a)
 | none=>((0,false),m,a)
theorem uw (k:Nat) (o:5000<=k) (h:Al J i m) (hA:DX J ab i a) (d:ab ∉ i.l) {w:Int} (hw:0<=w/\w<=1000):
  tC (Fi (k+9) (Qc ab) w J) J i ab (cn m a w):=by
 have p:=h.nt;obtain ⟨w,rfl⟩:∃ n:Nat,w=(n:Int):=⟨w.toNat,by omega⟩;have q:Ar (Ar (Ar ((w:Int)+64)-1))=Ar (Ar ((w:Int)+64)-1):=by
  rw[Ai (show AO ((w:Int)+64) by unfold AO; omega),Ai (show AO ((w:Int)+64-1) by unfold AO; omega),Ai (by unfold AO; omega)]
 have l:Ar ((Ar (Ar ((w:Int)+64)-1)).tdiv 64)=(((w+63)/64:Nat):Int):=by
  rw[Ai (show AO ((w:Int)+64) by unfold AO; omega),Ai (show AO ((w:Int)+64-1) by unfold AO; omega),show (w:Int)+64-1=((w+63:Nat):Int) from by omega,show (((w+63:Nat):Int).tdiv 64)=(((w+63)/64:Nat):Int) from rfl];exact Ai (by unfold AO; omega)
 obtain ⟨J1_,g,e,f⟩:=Zm k o d (c:=(w+63)/64) (a:=a) (by omega) m.bls.length 1 (k+8) J h hA (by omega) (by omega) (by omega);rw[show ((1:Nat):Int)=1 from rfl] at g;rw[OD];rw[Abo (by decide)];unfold cn tC;simp only[l,g,IT,AI];cases j:vR m ((w+63)/64) a.s m.bls.length 1 with
 | none=>
   simp only[j] at e ⊢;exact ⟨J1_,by simp only[Aah],e,hA.DN f d,GB.of f⟩
 | some b=>
   simp only[j] at e ⊢;exact ⟨J1_,by simp only[show (C6.ret=C6.exit 0)=False from by simp,Abs,Aah,jg],e,hA.DN f d,GB.of f⟩
end
section
variable {J:Aa} {i:Cp} {m:HM} {ab:Nat} {a:AS}
def Acn:Nat->TypeId
 | 0=>Ju
 | 1=>eE
 | 2=>eK
 | 3=>eJ
 | _=>dE
def cP (n:Nat):Value:=.iface (Acn n) (.agg #[])
def oa:Au:=.cells [cP 0,cP 1,cP 2,cP 3,cP 4] St true
theorem Zt (k:Nat) (J:Aa):Fj (k+1) J=some (.slice (some ⟨J.length,0,none⟩) 5 5,J++[oa]):=by
 rw[UO]; rfl
def plV (p w:Int):Value:=if w>32 then .func (.func L7) #[] #[] else .func (.method "dustcart/alloc.place") #[cP p.toNat] #[]
def Ro (m:HM) (a:AS) (r d c:Int) (b:PR):(Int × Int) × HM × AS:=
 if valid r d c=true then
  (if b.1.2=true then
   (if vy b.2.1 (b.1.1.tdiv 64)=a.s then
    (if (CW b.2.1 b.1.1 r d c).2.1=0 then ((b.1.1,0),(CW b.2.1 b.1.1 r d c).2.2,b.2.2) else ((0,6),(CW b.2.1 b.1.1 r d c).2.2,a))
   else ((0,6),b.2.1,a))
  else ((0,6),b.2.1,b.2.2))
 else ((0,2),m,a)
def xY (mm:Option (Value × Aa)) (J:Aa) (i:Cp) (ab:Nat) (r:(Int × Int) × HM × AS):Prop:=
 ∃ J',mm=some (.tuple #[qIi r.1.1,qIi r.1.2],J')/\Al J' i r.2.1/\DX J' ab i r.2.2/\GB i ab J J'
theorem Acq (Z:Aa) (T:TypeId) (p q x y z u w p' q' b c z' a w':Value):H0 (Z++[.cells [p,q,x,y,z,u,w] T true]) Z.length 0 [p',q',b,c,z',a,w']=some (Z++[.cells [p',q',b,c,z',a,w'] T true]):=by
 simp[H0,Ba]
set_option maxHeartbeats 1000000 in
theorem td (k:Nat) (hk:5000<=k) (h:Al J i m) (hA:DX J ab i a) (l:ab ∉ i.l) (ho:a.ok) {r d c:Int} (b:PR)
  (hp:valid r d c=true -> ∀ J0_,Al J0_ i m->DX J0_ ab i a->tC (IF (k+12) (plV a.p (words r d c)) [qVi (Qc ab),qIi (words r d c)] J0_) J0_ i ab b)
  (Y:valid r d c=true->Inv b.2.1) (hb:valid r d c=true->b.2.1.births<1000000) (o:valid r d c=true->0<=b.1.1/\b.1.1<=10000) (y:valid r d c=true->b.2.2.s=a.s):
  xY (Dd (k+13) (Qc ab) r d c J) J i ab (Ro m a r d c b):=by
 have aa:=hA.lt;rw[OB];simp only[Ae];obtain ⟨Z0_,g⟩:∃ Z0_,J++[Au.cells [Value.int .i64 r,qIi d,qIi c] Ad true]=Z0_:=⟨_,rfl⟩;rw[g];have h0:Al Z0_ i m:=g ▸ h.app _;have A0:DX Z0_ ab i a:=g ▸ hA.app _;have K0:GB i ab J Z0_:=g ▸ GB.app J _;have v:Z0_[J.length]?=some (Au.cells [Value.int .i64 r,qIi d,qIi c] Ad true):=by rw[<- g]; simp
 have w:∀ {Z:Aa},Z[J.length]?=some (Au.cells [Value.int .i64 r,qIi d,qIi c] Ad true)->Aj .i64 Z J.length 0=some r/\Aj .i64 Z J.length 1=some d/\Aj .i64 Z J.length 2=some c:=by
  intro Z hm; simp[Aj,CV,hm,Bl]
 obtain ⟨L,M,N⟩:=w v;obtain ⟨u,S⟩:=Nt (k+11) r d c Z0_;simp only[tP (k+11) A0,AI,An,Abr,By,IN,Nat.reduceAdd,L,M,N,S];unfold Ro;cases t:valid r d c with
 | false=>
   simp only[Ac7,IS,Abz,Abs];exact ⟨Z0_++u,rfl,h0.app _,A0.app _,K0.trans (GB.app _ _)⟩
 | true=>
   have x:=o t;obtain ⟨τ2,C⟩:=Ql (k+10) r d c (Z0_++u);have S1:(Z0_++u)[J.length]?=some (Au.cells [Value.int .i64 r,qIi d,qIi c] Ad true):=by rw[AT (Af v)]; exact v
   obtain ⟨O,P,Q⟩:=w S1;obtain ⟨Z2_,j⟩:∃ Z2_,Z0_++u++τ2=Z2_:=⟨_,rfl⟩;rw[j] at C;have W:Al Z2_ i m:=j ▸ (h0.app _).app _;have A2:DX Z2_ ab i a:=j ▸ (A0.app _).app _;have K2:GB i ab J Z2_:=j ▸ (K0.trans (GB.app _ _)).trans (GB.app _ _);have S2:Z2_[J.length]?=some (Au.cells [Value.int .i64 r,qIi d,qIi c] Ad true):=by rw[<- j,AT (Af S1)]; exact S1
   obtain ⟨Z3_,e⟩:∃ Z3_,Z2_++[oa]=Z3_:=⟨_,rfl⟩;have D:Fj (k+12) Z2_=_:=Zt (k+11) Z2_;rw[e] at D;have E:Al Z3_ i m:=e ▸ W.app _;have A3:DX Z3_ ab i a:=e ▸ A2.app _;have K3:GB i ab J Z3_:=e ▸ K2.trans (GB.app _ _);have S3:Z3_[J.length]?=some (Au.cells [Value.int .i64 r,qIi d,qIi c] Ad true):=by rw[<- e,AT (Af S2)]; exact S2
   have p0:=ho.p0;have lp:CV Z3_ Z2_.length a.p.toNat=some (cP a.p.toNat):=by
    rw[<- e]; unfold oa; rw[pC];obtain ⟨n,hn⟩:∃ n:Nat,a.p=(n:Int):=⟨a.p.toNat,by omega⟩;rw[hn,IT]
    match n,(show n<5 by omega) with
    | 0,_=>rfl
    | 1,_=>rfl
    | 2,_=>rfl
    | 3,_=>rfl
    | 4,_=>rfl
   have p:∀ (n:Nat) (K:Value->Option (Value × Aa)),nQ (cP n) K=K (cP n):=fun _ _=>rfl;obtain ⟨Z4_,f⟩:∃ Z4_,Z3_++[Au.cells (a.row i.hb) Cw true]=Z4_:=⟨_,rfl⟩;have X:Al Z4_ i m:=f ▸ E.app _;have A4:DX Z4_ ab i a:=f ▸ A3.app _;have K4:GB i ab J Z4_:=f ▸ K3.trans (GB.app _ _);have S4:Z4_[J.length]?=some (Au.cells [Value.int .i64 r,qIi d,qIi c] Ad true):=by rw[<- f,AT (Af S3)]; exact S3
   have W4:DX Z4_ Z3_.length i a:=by unfold DX; rw[<- f]; simp
   have H:Z3_.length ∉ i.l:=fun hm=>Aew _ (E.lt _ hm);have ns:J.length ∉ i.l:=fun hm=>Aew _ (h.lt _ hm);have G:=A3.lt;have ad:=K3.len;obtain ⟨Z5_,T,h5,A5,K5⟩:=hp t Z4_ X A4;have W5:DX Z5_ Z3_.length i a:=W4.Aw (K5.same _ W4.lt H (by omega));have S5:Z5_[J.length]?=some (Au.cells [Value.int .i64 r,qIi d,qIi c] Ad true):=by rw[K5.same _ (Af S4) ns (by omega)]; exact S4
   have K05:=K4.trans K5;simp only[Abr,By,O,P,Q,C,AI,Ah,D,Ej,A3.l2,IN,Acu,lp,p];rw[Abm (show 0<=a.p/\a.p<((5:Nat):Int) by omega)];have s:∀ (K:Bq->Option (Value × Aa)),((bif decide (words r d c>32) then (some (C6.normal,[Value.func (.func L7) #[] #[]],Z3_)) else (some (C6.normal,[(Value.func (.method "dustcart/alloc.place") #[cP a.p.toNat] #[])],Z3_)):Option Bq).bind K)=K (.normal,[plV a.p (words r d c)],Z3_):=by
    intro K;unfold plV;by_cases q:words r d c>32
    ·rw[Aad q,Abm q]; rfl
    ·rw[Aac q,Abo q]; rfl
   have z:H0 (Z3_++[Au.cells [qVi none,qIi (0:Int),qIi (0:Int),qIi (0:Int),qIi (0:Int),qIi (0:Int),qIi (0:Int)] Cw true]) Z3_.length 0 [qVi (AU i),qIi a.s,qIi a.p,qIi a.c,qIi a.l,qIi a.oc,qIi a.ol]=some Z4_:=by
    rw[Acq,<- f]; rfl
   rw[s];simp only[Aah,zR,AI,A3.dX,A3.l1,A3.l2,A3.l3,A3.l4,A3.l5,A3.l6,z,T,RX];cases ac:b.1.2 with
   | false=>
     simp only[Ac7,IS,Abz,Abs];exact ⟨Z5_,rfl,h5,A5,K05⟩
   | true=>
     have wq:Ar (b.1.1.tdiv 64)=b.1.1.tdiv 64:=by
      rw[Afd x.1]; exact Ai (by unfold AO; omega)
     have U:BE (k+12) (AU i) (b.1.1.tdiv 64) Z5_=_:=wE (k+9) h5 (b.1.1.tdiv 64);simp only[Abr,By,A5.dX,AI,wq,U,Ah,A5.l1,y t,Aah];rw[Abo (by decide)];have restore:∀ {Z:Aa} {I:AS},DX Z ab i I->H0 Z ab 0 [qVi (AU i),qIi a.s,qIi a.p,qIi a.c,qIi a.l,qIi a.oc,qIi a.ol]=some (Z.set ab (.cells (a.row i.hb) Cw true)):=fun hh=>hh.st 0 _ a rfl (by simp);by_cases q:vy b.2.1 (b.1.1.tdiv 64)=a.s
     ·obtain ⟨s0,s1,s2⟩:=w S5;obtain ⟨Z6_,V,F,A⟩:=aM k hk h5 (Y t) (hb t) b.1.1 r d c (by unfold AO; omega);have A6:=A5.DN A l;have W6:DX Z6_ Z3_.length i a:=W5.DN A H;have K06:=K05.trans (GB.of A);simp only[q,Adr,IS,s0,s1,s2,AI,V,B9,Aah,Ey];by_cases B:(CW b.2.1 b.1.1 r d c).2.1=0
      ·simp only[B,Abt,By,Aah];exact ⟨Z6_,rfl,F,A6,K06⟩
      ·simp only[show ((CW b.2.1 b.1.1 r d c).2.1 != 0)=true from by simpa using B,IS,Abo B,W6.dX,W6.l1,W6.l2,W6.l3,W6.l4,W6.l5,W6.l6,AI,restore A6];exact ⟨_,rfl,F.Abd l _,A6.put a,K06.trans (GB.set _ _)⟩
     ·simp only[show (vy b.2.1 (b.1.1.tdiv 64) == a.s)=false from by simpa using q,By,AI,Aah,Ey,show ((5:Int) != 0)=true from rfl,IS,Abo q,W5.dX,W5.l1,W5.l2,W5.l3,W5.l4,W5.l5,W5.l6,restore A5];exact ⟨_,rfl,h5.Abd l _,A5.put a,K05.trans (GB.set _ _)⟩
theorem vT (k:Nat) (h:Al J i m) (s p:Int):∃ J1_,LP (k+3) (AU i) s p J=(if (0<=s/\s<8)/\(0<=p/\p<5) then some (.tuple #[qVi (Qc J1_.length),qIi 0],J1_++[Au.cells ((⟨s,p,0,0,0,0⟩:AS).row i.hb) Cw true]) else some (.tuple #[qVi none,qIi 1],J1_)) /\ ∃ τ,J1_=J++τ:=by
 have d:=h.nb;rw[bD];have e:(((m.bls.length:Nat):Int) == 0)=false:=Acy.2 (by omega);simp only[GR k h,AI,Ah,e,By];by_cases h1:s<0
 ·refine ⟨J, ?_,[],by simp⟩;simp only[Aad h1,AI,IS,Abo (show ¬ ((0<=s/\s<8)/\(0<=p/\p<5)) by omega)]
 simp only[Aac h1,AI,By];by_cases a:s>=8
 ·refine ⟨J, ?_,[],by simp⟩;simp only[Aad a,AI,IS,Abo (show ¬ ((0<=s/\s<8)/\(0<=p/\p<5)) by omega)]
 simp only[Aac a,AI,By];by_cases b:p<0
 ·refine ⟨J, ?_,[],by simp⟩;simp only[Aad b,AI,IS,Abo (show ¬ ((0<=s/\s<8)/\(0<=p/\p<5)) by omega)]
 simp only[Aac b,AI,By,Zt,Ej];by_cases c:p>=((5:Nat):Int)
 ·refine ⟨J++[oa], ?_,[oa],rfl⟩;simp only[Aad c,IS,Abo (show ¬ ((0<=s/\s<8)/\(0<=p/\p<5)) by omega)]
 ·refine ⟨J++[oa], ?_,[oa],rfl⟩;simp only[Aac c,By,Abm (show (0<=s/\s<8)/\(0<=p/\p<5) by omega),Ae];rfl
end
section
variable {J:Aa} {i:Cp} {m:HM} {ab:Nat} {a:AS}
structure yC (m:HM) (a:AS) (r:(Int × Int) × HM × AS):Prop where
 inv:Inv r.2.1
 inv2:Inv2 r.2.1
 b1:m.births<=r.2.1.births
 b2:r.2.1.births<=m.births+1
 len:r.2.1.bls.length=m.bls.length
 s:r.2.2.s=a.s
 p:r.2.2.p=a.p
 ok:r.2.2.ok
theorem sY {r d c:Int} (h:valid r d c=true):2<=words r d c/\words r d c<=218/\words r d c % 2=0:=by
 unfold words;rw[h];simp only[IS];simp[valid] at h;omega
end
section
variable {J:Aa} {i:Cp} {m:HM} {ab:Nat} {a:AS}
def J3 (m:HM) (s:Int) (n:Nat):List Nat:=(List.range n).filter fun b=>decide ((m.bls.getD b (0,0)).1=1/\(m.bls.getD b (0,0)).2=s)
def ZO (l:List Nat):List Int:=l.map fun b:Nat=>(b:Int)
theorem WR (m:HM) (s:Int) (n:Nat):J3 m s (n+1)=J3 m s n++if (m.bls.getD n (0,0)).1=1/\(m.bls.getD n (0,0)).2=s then [n] else []:=by
 unfold J3;rw[Aga,Afl];congr 1;by_cases q:(m.bls.getD n (0,0)).1=1/\(m.bls.getD n (0,0)).2=s
 ·rw[Abm q,Aeq,Abm (Aad q)]; rfl
 ·rw[Abo q,Aeq,Abo (by rw[Aac q]; decide)]; rfl
theorem Zd (m:HM) (s:Int) (n:Nat):(J3 m s n).length<=n:=by
 have:=Ae2 (fun b=>decide ((m.bls.getD b (0,0)).1=1/\(m.bls.getD b (0,0)).2=s)) (List.range n);rw[Agf] at this; exact this
theorem kE {m:HM} {s:Int} {n b:Nat}:b ∈ J3 m s n↔b<n/\(m.bls.getD b (0,0)).1=1/\(m.bls.getD b (0,0)).2=s:=by
 unfold J3; simp[Adz]
theorem wN {α:Type} (x u y v:Int) (s:α):(bif x == u then some (y == v,s) else some (false,s))=some (decide (x=u/\y=v),s):=by
 by_cases q:x=u
 ·subst q;by_cases a:y=v
  ·subst a; simp
  ·simp[a]
 ·rw[show (x == u)=false from by simpa using q]; simp[q]
theorem Rq (k:Nat) (h:Al J i m) (hA:DX J ab i a):∀ (n x f:Nat) (τ:Aa) (s:Bv),x+n=m.bls.length->C8 J.length (J++τ) s (ZO (J3 m a.s x))->n<f ->
  ∃ o s',Ce (k+4) f (Qc ab) ((m.bls.length:Nat):Int) s (x:Int) (J++τ)=some (.exit 0,[.slice s'.1 s'.2.1 s'.2.2],J++o)/\C8 J.length (J++o) s' (ZO (J3 m a.s m.bls.length))
 | n,x,0,τ,s,l,hs,j=>by omega
 | 0,x,f+1,τ,s,l,hs,j=>by
   obtain rfl:x=m.bls.length:=by omega
   rw[IZ];exact ⟨τ,s,by simp only[Aac (Int.lt_irrefl _),By],hs⟩
 | n+1,x,f+1,τ,s,l,hs,j=>by
   have u:=h.nt;have b:x<m.bls.length:=by omega
   have g:=h.app τ;have A:=hA.app τ;have v:=wSu x (by omega);have p:Bn (k+4) (AU i) (x:Int) (J++τ)=_:=jE (k+1) g b;have r:BE (k+4) (AU i) (x:Int) (J++τ)=_:=aU (k+1) g b;rw[IZ];simp only[Aad (show (x:Int)<((m.bls.length:Nat):Int) by omega),IS,AI,Abn,IN,A.dX,p,r,Ah,A.l1,v];rw[wN];by_cases q:(m.bls.getD x (0,0)).1=1/\(m.bls.getD x (0,0)).2=a.s
   ·obtain ⟨s1,w,t,i1⟩:=ck J τ s _ (x:Int) (by have:=Zd m a.s x; simp[ZO]; omega) hs;have c:AG P Ak (s.1,s.2.1,s.2.2) (some ⟨(J++τ).length,0,none⟩,1,1) (J++τ++[.cells [qIi (x:Int)] Ak true])=_:=t;obtain ⟨e,s2,d,i2⟩:=Rq k h hA n (x+1) f w s1 (by omega) (by rw[WR,Abm q]; simpa [ZO] using i1) (by omega);refine ⟨e,s2, ?_,i2⟩;simp only[Aad q,AI,IS,Ae,c,Aah,HS];exact d
   ·obtain ⟨e,s2,d,i2⟩:=Rq k h hA n (x+1) f τ s (by omega) (by rw[WR,Abo q,Abu]; exact hs) (by omega);refine ⟨e,s2, ?_,i2⟩;simp only[Aac q,AI,By,Aah,HS];exact d
theorem qY (k:Nat) (f:100<=k) (h:Al J i m) (hA:DX J ab i a):
  ∃ τ s,D4 (k+5) (Qc ab) J=some (.slice s.1 s.2.1 s.2.2,J++τ)/\C8 J.length (J++τ) s (ZO (J3 m a.s m.bls.length)):=by
 have d:=h.nt;obtain ⟨τ,s,e,hs⟩:=Rq k h hA m.bls.length 0 (k+4) [] (none,0,0) (by omega) (.inl ⟨rfl,rfl⟩) (by omega);rw[Abu] at e;refine ⟨τ,s, ?_,hs⟩;have b:Ce (k+4) (k+4) (Qc ab) ((m.bls.length:Nat):Int) (none,0,0) 0 J=_:=e;have c:AE (k+4) (AU i) J=_:=GR (k+2) h;rw[Oj];simp only[AI,Abn,hA.dX,c,Ah,b,Aah,HS]
def dR (f w:Nat) (g:Nat × Nat):Option (Nat × Nat):=if w<=g.1+g.2-max f g.1 then some (max f g.1,g.1+g.2-max f g.1) else none
theorem Aco (Z:Aa) (T:TypeId) (p q x:Value):CX (Z++[.cells [p,q] T true]) Z.length 0 x=some (Z++[.cells [x,q] T true]):=by
 simp[CX]
theorem Acp (Z:Aa) (T:TypeId) (p q x:Value):CX (Z++[.cells [p,q] T true]) Z.length 1 x=some (Z++[.cells [p,x] T true]):=by
 simp[CX]
theorem wW (g:Nat × Nat) (fr w:Nat) (f:fr<=10000) (hw:1<=w) (i:g.1+g.2<=10000) (Z:Aa):
  ∃ st sz:Int,((bif decide (Ar ((fr:Int)-(g.1:Int))>0) then ((CX (Z++[.cells [qIi (g.1:Int),qIi (g.2:Int)] AF true]) Z.length 0 (qIi (fr:Int))).bind fun b=>(CX b Z.length 1 (qIi (Ar ((g.2:Int)-Ar ((fr:Int)-(g.1:Int)))))).bind fun c=>some (.normal,[],c)) else (some (.normal,[],Z++[.cells [qIi (g.1:Int),qIi (g.2:Int)] AF true])):Option Bq) =
   some (.normal,[],Z++[.cells [qIi st,qIi sz] AF true]))/\(match dR fr w g with | some d=>sz>=(w:Int)/\st=(d.1:Int)/\sz=(d.2:Int) | none=>¬ sz>=(w:Int)):=by
 have e:Ar ((fr:Int)-(g.1:Int))=(fr:Int)-(g.1:Int):=Ai (by unfold AO; omega);have h:Ar ((g.2:Int)-((fr:Int)-(g.1:Int)))=(g.2:Int)-((fr:Int)-(g.1:Int)):=Ai (by unfold AO; omega);rw[e];unfold dR;by_cases q:(fr:Int)-(g.1:Int)>0
 ·refine ⟨(fr:Int),(g.2:Int)-((fr:Int)-(g.1:Int)), ?_, ?_⟩
  ·rw[Aad q];simp only[IS,e,h,AI,Aco,Acp]
  ·rw[Nat.max_eq_left (by omega)];by_cases a:w<=g.1+g.2-fr
   ·rw[Abm a]; dsimp only; omega
   ·rw[Abo a]; dsimp only; omega
 ·refine ⟨(g.1:Int),(g.2:Int), ?_, ?_⟩
  ·rw[Aac q]; rfl
  ·rw[Nat.max_eq_right (by omega)];by_cases a:w<=g.1+g.2-g.1
   ·rw[Abm a]; dsimp only; omega
   ·rw[Abo a]; dsimp only; omega
def Apt (s o:Bv):Prop:=∀ a,o.1=some a -> ∀ b,s.1=some b->a.block≠b.block
theorem GZ.sl {E:TypeId} {z n:Nat} {row:List Value} {J':Aa} {s o o':Bv} (g:GZ J o J' o') (h:Cq E z J s n row) (c:Apt s o):Cq E z J' s n row/\Apt s o':=by
 refine ⟨h.Aw fun b hb=>?_,fun x a b hb=>?_⟩
 ·exact g.same b.block (h.lt b hb) fun x a=>c x a b hb
 ·rcases g.new with rfl | hw
  ·exact c x a b hb
  ·have:=hw x a; have:=h.lt b hb; omega
theorem Wp (k:Nat) {fr w:Nat} (e:fr<=10000) (hw:1<=w/\w<=1000) {R:List (Nat × Nat)} (z:R.length<=100) (d:∀ g ∈ R,g.1+g.2<=10000) (s:Bv):∀ (n x f:Nat) (Z:Aa) (o:Bv) (R0:List (Nat × Nat)),Cq AF 2 Z s R.length (D0 R)->Cq AF 2 Z o R0.length (D0 R0)->Apt s o->R0.length+n<=100000->x+n=R.length->n<f ->
  ∃ c o',CJ k f (fr:Int) (w:Int) s.1 R.length s.2.2 ((R.length:Nat):Int) o (x:Int) Z=some (.exit 2,[.slice o'.1 o'.2.1 o'.2.2],c)/\GZ Z o c o'/\Cq AF 2 c o' (R0++(R.drop x).filterMap (dR fr w)).length (D0 (R0++(R.drop x).filterMap (dR fr w)))
 | n,x,0,Z,o,R0,hs,l,hd,B,C,A=>by omega
 | 0,x,f+1,Z,o,R0,hs,l,hd,B,C,A=>by
   rw[JM];refine ⟨Z,o,by simp only[Aac (show ¬ (x:Int)<((R.length:Nat):Int) by omega),By],GZ.refl _ _, ?_⟩;rw[List.drop_of_length_le (by omega)];simpa using l
 | n+1,x,f+1,Z,o,R0,hs,l,hd,B,C,A=>by
   have h:x<R.length:=by omega
   obtain ⟨b,p,D,E⟩:=vw hs h;have J:R.getD x (0,0)=R[x]:=by rw[Abi,Aaj h]; rfl
   rw[J] at D E;have L:=qSu x R.length (by omega);have M:=wSu x (by omega);obtain ⟨st,sz,I,m⟩:=wW R[x] fr w e hw.1 (d _ (Ac4 _)) Z;have v:∀ (st sz:Int),Aj .i64 (Z++[.cells [qIi st,qIi sz] AF true]) Z.length 0=some st/\Aj .i64 (Z++[.cells [qIi st,qIi sz] AF true]) Z.length 1=some sz:=fun st sz=>UH Z AF st sz;have j:R.drop x=R[x]::R.drop (x+1):=Ac2 h;rw[JM];simp only[Aad (show (x:Int)<((R.length:Nat):Int) by omega),IS,L,Aah,p,AI,IT,IN,Abn,D,E,Ae,Abf,(v _ _).1,I,(v _ _).2,M];have u:Cq AF 2 (Z++[.cells [qIi st,qIi sz] AF true]) s R.length (D0 R):=hs.app _;cases a:dR fr w R[x] with
   | none=>
     rw[a] at m;simp only[Aac (show ¬ sz>=(w:Int) from m),By,AI,Aah,HS];obtain ⟨c,o',i,r,t⟩:=Wp k e hw z d s n (x+1) f (Z++[.cells [qIi st,qIi sz] AF true]) o R0 u (l.app _) hd (by omega) (by omega) (by omega);rw[p] at i;refine ⟨c,o',i,(GZ.app _ _ _).trans r, ?_⟩;rw[j,List.filterMap_cons_none a]; exact t
   | some g=>
     rw[a] at m;obtain ⟨G,rfl,rfl⟩:=m;simp only[Aad (show ((g.2:Nat):Int)>=(w:Int) from G),IS,AI];obtain ⟨F,Z1_,H,K,h1⟩:=NF xM wR xX rfl rfl (by decide) (by decide) (by decide) (Z++[.cells [qIi (g.1:Int),qIi (g.2:Int)] AF true]) o R0.length (D0 R0) 1 1 [qIi (g.1:Int),qIi (g.2:Int)] AF (by omega) (by decide) rfl (l.app _);have q:AG P AF (o.1,o.2.1,o.2.2) (some ⟨(Z++[Au.cells [qIi (g.1:Int),qIi (g.2:Int)] AF true]).length,0,none⟩,1,1) (Z++[Au.cells [qIi (g.1:Int),qIi (g.2:Int)] AF true]++[Au.cells [qIi (g.1:Int),qIi (g.2:Int)] AF true])=_:=H;have y:GZ Z o Z1_ F:=(GZ.app _ _ _).trans K;obtain ⟨s1,d1⟩:=y.sl hs hd;rw[show D0 R0++[Value.int .i64 (g.1:Int),qIi (g.2:Int)]=D0 (R0++[g]) from by rw[Pf]; rfl,show R0.length+1=(R0++[g]).length from by simp] at h1;obtain ⟨c,o',i,r,t⟩:=Wp k e hw z d s n (x+1) f Z1_ F (R0++[g]) s1 h1 d1 (by simp; omega) (by omega) (by omega);rw[p] at i;refine ⟨c,o', ?_,y.trans r, ?_⟩
     ·simp only[q,AI,Aah,HS];exact i
     ·rw[j,List.filterMap_cons_some a]; simpa using t
def Yo (m:HM) (l:List Nat):List (Nat × Nat):=l.flatMap fun b:Nat=>IQ m (b:Int)
def bZ (m:HM) (s:Int) (f w:Nat):List (Nat × Nat):=(Yo m (J3 m s m.bls.length)).filterMap (dR f w)
theorem pj {a e M:Nat} (c:e<=M):∀ g ∈ Kr a e,g.1+g.2<=M:=by
 intro g b;unfold Kr at b;split at b
 ·simp at b; subst b; dsimp only; omega
 ·simp at b
theorem fE (i:m.bls.length<=64) (b:Int):∀ g ∈ IQ m b,g.1+g.2<=4096:=by
 have aux:∀ (L:List Nat) (a:Nat),(∀ j ∈ L,2*j<=4096) -> ∀ g ∈ (F7 m L a).1,g.1+g.2<=4096:=by
  intro L
  induction L with
  | nil=>intro a _ g c; simp[F7] at c
  | cons j L k=>
    intro a f g c;rw[F7] at c;rcases Aag.1 c with h | h
    ·exact pj (f j (by simp)) g h
    ·exact k _ (fun j d=>f j (by simp[d])) g h
 intro g c;unfold IQ at c;split at c
 ·rename_i e;obtain ⟨n,rfl,l,_⟩:=gN e;rw[IT] at c;unfold bY at c;rcases Aag.1 c with h | h
  ·exact aux _ _ (fun j d=>by have:=LM.1 d; omega) g h
  ·exact pj (by omega) g h
 ·simp at c
theorem ui (a:m.bls.length<=64) (b:Int):∀ g ∈ IQ m b,g.1+g.2<=10000:=fun g c=>by have:=fE a b g c; omega
theorem rQ {L:List Nat} {x:Nat} (a:x<L.length):(ZO L).getD x 0=((L[x]:Nat):Int):=by
 unfold ZO;rw[Abi,Ad5,Aaj a]; rfl
theorem ca (k:Nat) (K:5000<=k) (I:Inv m) (h0:B0 m) {fr w:Nat} (g:fr<=10000) (hw:1<=w/\w<=1000) {L:List Nat} (U:∀ b ∈ L,b<m.bls.length) (v:L.length<=64) (s:Bv):∀ (n x f:Nat) (Z:Aa) (o:Bv) (R0:List (Nat × Nat)),Al Z i m->DX Z ab i a->Cq Ak 1 Z s (ZO L).length (Bm (ZO L))->Cq AF 2 Z o R0.length (D0 R0)->Apt s o->Off i o->(∀ x,o.1=some x->x.block≠ab)->R0.length+33*n<=50000->x+n=L.length->n<f ->
  ∃ r o',CH (k+7) f (Qc ab) (fr:Int) (w:Int) s.1 L.length s.2.2 ((L.length:Nat):Int) o (x:Int) Z=some (.exit 0,[.slice o'.1 o'.2.1 o'.2.2],r)/\GZ Z o r o'/\Cq AF 2 r o' (R0++(Yo m (L.drop x)).filterMap (dR fr w)).length (D0 (R0++(Yo m (L.drop x)).filterMap (dR fr w)))
 | n,x,0,Z,o,R0,h,p,hs,j,hd,d,c,M,q,J=>by omega
 | 0,x,f+1,Z,o,R0,h,p,hs,j,hd,d,c,M,q,J=>by
   rw[JL];refine ⟨Z,o,by simp only[Aac (show ¬ (x:Int)<((L.length:Nat):Int) by omega),By],GZ.refl _ _, ?_⟩;rw[List.drop_of_length_le (by omega)];simpa [Yo] using j
 | n+1,x,f+1,Z,o,R0,h,p,hs,j,hd,d,c,M,q,J=>by
   have e:x<L.length:=by omega
   obtain ⟨b,D,N⟩:=zg hs (show x<(ZO L).length by unfold ZO; simpa using e);rw[rQ e] at N;have X:=qSu x L.length (by omega);have w1:=wSu x (by omega);obtain ⟨τ,s1,P,h1,A⟩:=yF k K h I h0 ((L[x]:Nat):Int);have hlen:=fF m ((L[x]:Nat):Int);have F:GZ Z o (Z++τ) o:=GZ.app _ _ _;obtain ⟨Y,_⟩:=F.sl hs hd;have d1:Apt s1 o:=fun x q b hb=>by have:=j.lt x q; have:=A b hb; omega
   obtain ⟨Z1_,O,Q,S,G⟩:=Wp (k+7) g hw (R:=IQ m ((L[x]:Nat):Int)) (by omega) (ui h.nt _) s1 (IQ m ((L[x]:Nat):Int)).length 0 (k+7) (Z++τ) o R0 h1 (j.app _) d1 (by omega) (by omega) (by omega);rw[Ac6] at G;have l:GZ Z o Z1_ O:=F.trans S;obtain ⟨y,C⟩:=l.heap h d;obtain ⟨u,B⟩:=l.other p c;obtain ⟨z,d2⟩:=l.sl hs hd;have V:((IQ m ((L[x]:Nat):Int)).filterMap (dR fr w)).length<=33:=Adj (List.length_filterMap_le _ _) hlen;obtain ⟨Z2_,W,E,T,H⟩:=ca k K I h0 g hw U v s n (x+1) f Z1_ O _ y u z G d2 C B (by rw[Abe]; omega) (by omega) (by omega);rw[D] at E;refine ⟨Z2_,W, ?_,l.trans T, ?_⟩
   ·have t:CJ (k+7) (k+7) (fr:Int) (w:Int) s1.1 (IQ m ((L[x]:Nat):Int)).length s1.2.2 (((IQ m ((L[x]:Nat):Int)).length:Nat):Int) (o.1,o.2.1,o.2.2) 0 (Z++τ)=_:=Q;rw[JL];simp only[Aad (show (x:Int)<((L.length:Nat):Int) by omega),IS,X,Aah,D,AI,IT,IN,Abn,Acu,N,p.dX,P,Ej,h1.len,t,HS,w1];exact E
   ·rw[Ac2 e];simp only[Yo,Agg,List.filterMap_append,Aae] at H ⊢;exact H
theorem xa (k:Nat) (t:5000<=k) (h:Al J i m) (hA:DX J ab i a) (q:Inv m) (h0:B0 m) {fr w:Nat} (f:fr<=10000) (hw:1<=w/\w<=1000):
  ∃ τ s,Ek (k+8) (Qc ab) (fr:Int) (w:Int) J=some (.slice s.1 s.2.1 s.2.2,J++τ)/\Cq AF 2 (J++τ) s (bZ m a.s fr w).length (D0 (bZ m a.s fr w)) /\ ∀ x,s.1=some x->J.length<=x.block:=by
 have u:=h.nt;obtain ⟨g,s1,j,h1⟩:=qY (k+2) (by omega) h hA;have r:=Zd m a.s m.bls.length;obtain ⟨Z,o,l,n,p⟩:=ca (ab:=ab) (a:=a) k t q h0 f hw (L:=J3 m a.s m.bls.length) (fun b hb=>(kE.1 hb).1) (by omega) s1 (J3 m a.s m.bls.length).length 0 (k+7) (J++g) (none,0,0) [] (h.app _) (hA.app _) h1.sl (Cq.nil _ _ _) (fun x c=>by cases c) (fun x c=>by cases c) (fun x c=>by cases c) (by simp; omega) (by omega) (by omega);obtain ⟨⟨τ,rfl⟩,hb⟩:=(show GZ (J++g) (none,0,0) Z o from n).behind (fun x c=>by cases c);refine ⟨τ,o, ?_,by simpa [bZ] using p,hb⟩;have d:D4 (k+7) (Qc ab) J=_:=j;have e:CH (k+7) (k+7) (Qc ab) (fr:Int) (w:Int) s1.1 (J3 m a.s m.bls.length).length s1.2.2 (((J3 m a.s m.bls.length).length:Nat):Int) (none,0,0) 0 (J++g)=_:=l;have hlen:s1.2.1=(J3 m a.s m.bls.length).length:=by rw[h1.len]; simp[ZO]
 rw[Pn];simp only[d,AI,Ej,hlen,e,Aah,HS]
end
section
variable {J:Aa} {i:Cp} {m:HM} {ab:Nat} {a:AS}
def Qs (m:HM) (a:AS) (l:List (Nat × Nat)):PR:=
 match l with
 | g::_=>(((g.1:Int),true),m,a)
 | []=>match ko m with
   | some b=>((64*(b:Int),true),XN m b a.s,a)
   | none=>((0,false),m,a)
theorem vB (k:Nat) (q:5000<=k) (h:Al J i m) (hA:DX J ab i a) (e:ab ∉ i.l) (r:a.ok) {sl:Bv} {l:List (Nat × Nat)} (hs:Cq AF 2 J sl l.length (D0 l)):
  tC (DS (k+10) (Qc ab) sl J) J i ab (Qs m a l):=by
 rw[OE];cases l with
 | cons g l=>
   obtain ⟨b,o,n,_⟩:=vw hs (x:=0) (by simp);rw[hs.len];rw[Adw] at n;refine ⟨J, ?_,h,hA,GB.refl _⟩;simp only[Aad (show (((g::l).length:Nat):Int)>0 by simp only[Ada]; omega),IS,Abm (show (0:Int)<=0/\(0:Int)<(((g::l).length:Nat):Int) by simp only[Ada]; omega),o,AI,Afc,Adw,Abn,n,Qs];rfl
 | nil=>
   obtain ⟨J1_,p,f,j⟩:=ua k q h hA e r.s0;have d:=hA.DN j e;rw[hs.len];simp only[Adn,Aac (show ¬ ((0:Nat):Int)>0 by omega),By,p,AI,an,Ada,Aeo,Aeu,wK,An,Ae,Abf,IN,Nat.reduceAdd,Aah,(UH _ _ _ _).1];unfold tZ zk at *;cases c:ko m with
   | none=>
     simp only[c] at f ⊢;rw[show Qs m a []=((0,false),m,a) from by simp only[Qs,c]];exact ⟨_,rfl,f.app _,d.app _,(GB.of j).trans (GB.app _ _)⟩
   | some b=>
     simp only[c] at f ⊢;rw[show Qs m a []=((64*(b:Int),true),XN m b a.s,a) from by simp only[Qs,c]];exact ⟨_,rfl,f.app _,d.app _,(GB.of j).trans (GB.app _ _)⟩
theorem bS (k:Nat) (p:5000<=k) (h:Al J i m) (hA:DX J ab i a) (d:ab ∉ i.l) (n:a.ok) (l:Inv m) (h0:B0 m) {w:Nat} (hw:1<=w/\w<=1000):
  tC (Hb (k+12) (Qc ab) (w:Int) J) J i ab (Qs m a (bZ m a.s 0 w)):=by
 obtain ⟨τ,s,f,h1,_⟩:=xa (k+3) (by omega) (h.app [.cells [] Ju true]) (hA.app _) l h0 (fr:=0) (by decide) hw;obtain ⟨J2_,g,j,e,o⟩:=vB (k+1) (by omega) ((h.app [.cells [] Ju true]).app τ) ((hA.app _).app _) d n h1;refine ⟨J2_, ?_,j,e,((GB.app _ _).trans (GB.app _ _)).trans o⟩;have b:Ek (k+11) (Qc ab) 0 (w:Int) (J++[.cells [] Ju true])=_:=f;have c:DS (k+11) (Qc ab) (s.1,s.2.1,s.2.2) (J++[.cells [] Ju true]++τ)=_:=g;rw[Rs];simp only[Ae,b,AI,Ej,c,RX]
end
section
variable {J:Aa}
structure Mv (L L':List Nat) (J J':Aa):Prop where
 len:J.length<=J'.length
 same:∀ q,q<J.length->q ∉ L->J'[q]?=J[q]?
 new:∀ q,q ∈ L'->q ∈ L\/J.length<=q
theorem Mv.refl (L:List Nat) (J:Aa):Mv L L J J:=⟨Abp _,fun _ _ _=>rfl,fun _ h=>.inl h⟩
theorem Mv.app (L:List Nat) (J τ:Aa):Mv L L J (J++τ):=⟨by simp,fun q h _=>AT h,fun _ h=>.inl h⟩
theorem Mv.trans {L L' d:List Nat} {a b c:Aa} (h:Mv L L' a b) (g:Mv L' d b c):Mv L d a c:=by
 refine ⟨Adj h.len g.len,fun q h1 e=>?_,fun q i=>?_⟩
 ·refine (g.same q (Acz h1 h.len) fun hm=>?_).trans (h.same q h1 e);rcases h.new q hm with f | f
  ·exact e f
  ·omega
 ·rcases g.new q i with h1 | h1
  ·exact h.new q h1
  ·exact .inr (Adj h.len h1)
theorem Mv.wide {L L' K K':List Nat} {a b:Aa} (h:Mv L L' a b) (h1:∀ q ∈ L,q ∈ K) (h2:∀ q ∈ K',q ∈ K\/q ∈ L'\/a.length<=q):Mv K K' a b:=
 ⟨h.len,fun q c d=>h.same q c fun hm=>d (h1 q hm),fun q c=>by
  rcases h2 q c with e | e | e
  ·exact .inl e
  ·exact (h.new q e).imp (h1 q) id
  ·exact .inr e⟩
theorem Mv.left {L L':List Nat} {a b:Aa} (h:Mv L L' a b) (X:List Nat):Mv (L++X) (L'++X) a b:=
 h.wide (fun q c=>Aag.2 (.inl c)) fun q c=>(Aag.1 c).elim (fun e=>.inr (.inl e)) fun e=>.inl (Aag.2 (.inr e))
theorem Mv.right {L L':List Nat} {a b:Aa} (h:Mv L L' a b) (X:List Nat):Mv (X++L) (X++L') a b:=
 h.wide (fun q c=>Aag.2 (.inr c)) fun q c=>(Aag.1 c).elim (fun e=>.inl (Aag.2 (.inl e))) fun e=>.inr (.inl e)
theorem Mv.DN {L L' X:List Nat} {a b:Aa} (h:Mv L L' a b) (d:∀ q ∈ X,q<a.length) (hd:∀ q ∈ X,q ∉ L):(∀ q ∈ X,b[q]?=a[q]?)/\(∀ q ∈ X,q ∉ L') /\ ∀ q ∈ X,q<b.length:=
 ⟨fun q c=>h.same q (d q c) (hd q c),fun q c hm=>(h.new q hm).elim (hd q c) fun e=>absurd (d q c) (Ag0.2 e),fun q c=>Acz (d q c) h.len⟩
theorem Mv.nil {L':List Nat} {a b:Aa} (h:Mv [] L' a b) (L:List Nat):Mv L (L'++L) a b:=by
 have:=h.left L;rw[Aev] at this;exact this
theorem Br.mv {i:Cp} {a b:Aa} (h:Br i a b):Mv i.l i.l a b:=⟨h.len,h.same,fun _ h=>.inl h⟩
theorem H4.mv {i c:RI} {a b:Aa} (h:H4 i c a b):Mv i.l c.l a b:=⟨h.len,h.same,h.new⟩
theorem Mv.set {L:List Nat} {q:Nat} (J:Aa) (o:Au) (h:q ∈ L):Mv L L J (J.set q o):=
 ⟨by simp,fun j _ a=>Aaf (fun e=>a (by rw[<- e]; exact h)),fun _ h=>.inl h⟩
theorem Mv.IX {L L':List Nat} {a b:Aa} (h:Mv L L' a b) {q:Nat} {o:Au} (c:a[q]?=some o) (d:q ∉ L):b[q]?=some o:=(h.same q (Af c) d).trans c
def Bh (J:Aa) (s:Bv) (l:List Int):Prop:=Cq Ak 1 J s l.length (Bm l)\/(l=[] /\ ∃ b cs T w,s=(some ⟨b,0,some 0⟩,0,0)/\J[b]?=some (.cells cs T w))
theorem Bh.Aw {J':Aa} {s:Bv} {l:List Int} (h:Bh J s l) (c:∀ b ∈ hs s,J'[b]?=J[b]?):Bh J' s l:=by
 rcases h with h | ⟨h0,b,cs,T,w,rfl,e⟩
 ·exact .inl (h.Aw fun a d=>c _ (BQ.2 ⟨a,d,rfl⟩))
 ·exact .inr ⟨h0,b,cs,T,w,rfl,(c _ (BQ.2 ⟨_,rfl,rfl⟩)).trans e⟩
theorem Bh.lt {s:Bv} {l:List Int} (h:Bh J s l):∀ b ∈ hs s,b<J.length:=by
 intro b hb;obtain ⟨a,c,rfl⟩:=BQ.1 hb;rcases h with h | ⟨h0,b,cs,T,w,rfl,d⟩
 ·exact h.lt a c
 ·cases c; exact Af d
theorem Bh.app {s:Bv} {l:List Int} (h:Bh J s l) (τ:Aa):Bh (J++τ) s l:=h.Aw fun b hb=>AT (h.lt b hb)
theorem Bh.nil (J:Aa):Bh J (none,0,0) []:=.inl (Cq.nil _ _ _)
theorem Bh.form {s:Bv} {l:List Int} (h:Bh J s l):s=(s.1,l.length,l.length):=by
 rcases h with h | ⟨rfl,b,cs,T,w,rfl,a⟩
 ·exact h.form
 ·rfl
theorem Bh.ints {lo:Nat} {s:Bv} {l:List Int} (h:C8 lo J s l):Bh J s l:=.inl h.sl
theorem Bh.ld {s:Bv} {l:List Int} (h:Bh J s l) {x:Nat} (c:x<l.length):∃ b,s.1=some ⟨b,0,none⟩/\Aj .i64 J b x=some (l.getD x 0)/\J[b]?=some (.cells (Bm l) Ak true):=by
 rcases h with (⟨h,_⟩ | ⟨b,rfl,_,_,a⟩) | ⟨rfl,_⟩
 ·omega
 ·exact ⟨b,rfl,nL a c,a⟩
 ·simp at c
theorem Bh.first {s:Bv} {l:List Int} (h:Bh J s l):CZ J 1 s.1 l.length=some (Bm l):=by
 rcases h with h | ⟨rfl,b,cs,T,w,rfl,a⟩
 ·exact h.first
 ·simp[CZ,Nh,a,Bm]
theorem Bh.g {s:Bv} {l:List Int} (h:Bh J s l):Dw J s l:=by
 rcases h with (⟨h,e,rfl⟩ | ⟨b,rfl,_,_,d⟩) | ⟨rfl,b,cs,T,w,rfl,d⟩
 ·have:l=[]:=Ad6.1 h;subst this;exact ⟨rfl,fun h=>absurd rfl h,fun a c=>by cases c⟩
 ·exact ⟨rfl,fun _=>⟨b,_,rfl,d⟩,fun a c=>by cases c; exact ⟨_,_,_,d,Ade _⟩⟩
 ·exact ⟨rfl,fun h=>absurd rfl h,fun a c=>by cases c; exact ⟨_,_,_,d,Ade _⟩⟩
theorem GZ.mv {J':Aa} {s s':Bv} (g:GZ J s J' s'):Mv (hs s) (hs s') J J':=by
 refine ⟨g.len,fun q b d=>g.same q b fun a c e=>d (BQ.2 ⟨a,c,e⟩),fun q b=>?_⟩;rcases g.new with rfl | hw
 ·exact .inl b
 ·obtain ⟨a,c,rfl⟩:=BQ.1 b;exact .inr (hw a c)
theorem Bh.push {s:Bv} {l:List Int} (h:Bh J s l) (x:Int) (T:TypeId) (j:l.length<=900000):
  ∃ s' J',AG P Ak (s.1,s.2.1,s.2.2) (some ⟨J.length,0,none⟩,1,1) (J++[.cells [qIi x] T true])=some (s',J')/\Bh J' s' (l++[x])/\Mv (hs s) (hs s') J J':=by
 rcases h with h | ⟨rfl,b,cs,U,w,rfl,i⟩
 ·obtain ⟨s',J',e,g,c⟩:=NF vE ub ta rfl rfl (by decide) (by decide) (by decide) J s l.length (Bm l) 1 1 [qIi x] T (by omega) (by decide) rfl h;refine ⟨s',J',e,.inl ?_,g.mv⟩;rw[Abe,KM];exact c
 ·refine ⟨(some ⟨J.length+1,0,none⟩,1,1),J++[.cells [qIi x] T true]++[.cells [qIi x] Ak true], ?_,.inl (.inr ⟨J.length+1,rfl,Ade _,rfl,by simp[Bm]⟩), ?_⟩
  ·have d:CZ (J++[.cells [qIi x] T true]) 1 (some ⟨J.length,0,none⟩) 1=some [qIi x]:=by simp[CZ,Nh]
   have f:(¬ (Gn (qIi 0)=false/\some 1=some (Value.cells (qIi 0)).size/\0<(Value.cells (qIi 0)).size))=False:=by simp[Gn,Value.cells]
   have r:K8 (0+1) 8/\0<8:=by unfold K8; decide
   unfold AG LB;simp only[vE,ub,ta,AI,d,f,Abs,show ¬ (0+1<=0) from by decide,r,Afp,Aah,HQ,Ahk,IS,qh,Abe,Ada,Adn,IN]
  ·refine ⟨by simp,fun q a _=>by rw[Aae,AT a],fun q a=>.inr ?_⟩;simp[hs] at a;omega
def Dj (A B:List Nat):Prop:=∀ q ∈ A,q ∉ B
theorem Dj.symm {A B:List Nat} (h:Dj A B):Dj B A:=fun q a hm=>h q hm a
structure Fp (J:Aa) (Ls:List (List Nat)):Prop where
 dj:Ls.Pairwise Dj
 lt:∀ L ∈ Ls,∀ q ∈ L,q<J.length
theorem uV {α:Type} {R:α->α->Prop} (hs:∀ a b,R a b->R b a):∀ (l:List α) (x:Nat) (b:α),l.Pairwise R->(∀ y (e:y<l.length),y≠x->R b l[y])->(l.set x b).Pairwise R
 | [],_,_,_,_=>by simp
 | a::l,0,b,h,hb=>by
   rw[Ae9];obtain ⟨_,f⟩:=Ad9.1 h;refine Ad9.2 ⟨fun c d=>?_,f⟩;obtain ⟨y,e,rfl⟩:=Aha d;exact hb (y+1) (by simpa using e) (by omega)
 | a::l,x+1,b,h,hb=>by
   rw[Aen];obtain ⟨h1,f⟩:=Ad9.1 h;refine Ad9.2 ⟨fun c d=>?_,uV hs l x b f fun y e g=>hb (y+1) (by simpa using e) (by omega)⟩;rcases Af2 d with d | rfl
   ·exact h1 c d
   ·exact hs _ _ (hb 0 (by simp) (by omega))
theorem uU {α:Type} {R:α->α->Prop} (hs:∀ a b,R a b->R b a) {l:List α} (h:l.Pairwise R) {x y:Nat} (e:x<l.length) (f:y<l.length) (d:y≠x):R l[x] l[y]:=by
 rcases Nat.lt_or_gt_of_ne d with c | c
 ·exact hs _ _ (Af1.1 h y x f e c)
 ·exact Af1.1 h x y e f c
theorem Fp.step {Ls:List (List Nat)} {L':List Nat} {J':Aa} (h:Fp J Ls) (x:Nat) (i:x<Ls.length) (hm:Mv Ls[x] L' J J') (k:∀ q ∈ L',q<J'.length):
  Fp J' (Ls.set x L')/\(∀ y (c:y<Ls.length),y≠x -> ∀ q ∈ Ls[y],J'[q]?=J[q]?)/\Mv Ls.flatten (Ls.set x L').flatten J J':=by
 have key:∀ y (c:y<Ls.length),y≠x->(∀ q ∈ Ls[y],J'[q]?=J[q]?)/\Dj L' Ls[y]:=by
  intro y c b;obtain ⟨h1,j,_⟩:=hm.DN (X:=Ls[y]) (fun q a=>h.lt _ (Ac4 c) q a) (fun q a d=>uU (fun _ _=>Dj.symm) h.dj c i (Ac9 b) q a d);exact ⟨h1,fun q a d=>j q d a⟩
 refine ⟨⟨uV (fun _ _=>Dj.symm) Ls x L' h.dj fun y c b=>(key y c b).2,fun L g q a=>?_⟩,fun y c b=>(key y c b).1,hm.wide (fun q a=>Adm.2 ⟨_,Ac4 i,a⟩) fun q a=>?_⟩
 ·rcases Af2 g with g | rfl
  ·exact Acz (h.lt L g q a) hm.len
  ·exact k q a
 ·obtain ⟨K,e,f⟩:=Adm.1 a;rcases Af2 e with e | e
  ·exact .inl (Adm.2 ⟨K,e,f⟩)
  ·exact .inr (.inl (e ▸ f))
theorem Fp.app {Ls:List (List Nat)} (h:Fp J Ls) (τ:Aa):Fp (J++τ) Ls:=⟨h.dj,fun L a q b=>by have:=h.lt L a q b; rw[Abe]; omega⟩
theorem Fp.cons {Ls:List (List Nat)} {L:List Nat} {J':Aa} (h:Fp J Ls) (c:∀ q ∈ L,J.length<=q/\q<J'.length) (hs:J.length<=J'.length):Fp J' (L::Ls):=
 ⟨Ad9.2 ⟨fun K a q b hm=>by have:=h.lt K a q hm; have:=(c q b).1; omega,h.dj⟩,fun K a q b=>by
  rcases Acv.1 a with rfl | a
  ·exact (c q b).2
  ·exact Acz (h.lt K a q b) hs⟩
theorem Fp.nil (J:Aa):Fp J []:=⟨List.Pairwise.nil,fun L a=>by cases a⟩
theorem Fp.ne {Ls:List (List Nat)} (h:Fp J Ls) {x y:Nat} (b:x<Ls.length) (c:y<Ls.length) (a:y≠x):Dj Ls[x] Ls[y]:=uU (fun _ _=>Dj.symm) h.dj b c a
theorem Fp.sub {Ls i:List (List Nat)} (h:Fp J Ls) (f:List Nat) (m:f.Nodup) (c:∀ x ∈ f,x<Ls.length) (n:i=f.map fun x=>Ls.getD x []):Fp J i:=by
 subst n;have e:∀ x (d:x<Ls.length),Ls.getD x []=Ls[x]:=fun x d=>by rw[Abi,Aaj d]; rfl
 refine ⟨List.pairwise_map.2 (m.imp_of_mem fun {a b} l hb g=>?_),fun L k q j=>?_⟩
 ·rw[e a (c a l),e b (c b hb)];exact h.ne _ _ (Ac9 g)
 ·obtain ⟨x,d,rfl⟩:=Ad0.1 k;rw[e x (c x d)] at j;exact h.lt _ (Ac4 (c x d)) q j
end
section
structure D3 where
 mu:Nat
 sl:List Int
 gl:List Int
 qu:List Int
def D3.all (r:D3):List Int:=r.sl++r.gl++r.qu
structure D3.ok (r:D3):Prop where
 m1:1<=r.mu
 m4:r.mu<=4
 sl:r.sl.length=16*r.mu
 gl:r.gl.length=16
 qu:r.qu.length<=64
 inn:∀ v ∈ r.all,AO v/\0<=v
def JJ (out:List Int) (a:Int):List Int:=if a=0\/a ∈ out then out else out++[a]
def Bf (r:D3):List Int:=r.all.foldl JJ []
structure TC where
 look:Bool
 born:Int
 ph:Int
 ws:List (BitVec 64)
 list:List Int
 left:List Int
 freed:Int
variable (m:HM) (r:D3) (s:TC)
def C9 (a:Int):Nat:=CG 2 s.ws (a.toNat/2)
def Eb (s:TC) (a:Int) (c:Nat):TC:={ s with ws:=F9 2 s.ws (a.toNat/2) c }
def Cu (s:TC) (a:Int):TC:=if Ax m a=true/\C9 s a=0 then { Eb s a 1 with list:=s.list++[a] } else s
def AM (s:TC) (l:List Int):TC:=l.foldl (Cu m) s
def Bz (a:Int):Bool:=Ax m a && decide (C9 s a≠0)
def AA (a x:Int):Int:=(K6 m a x false).1
def Ee (k:Int) (x:Int):Bool:=(decide (x=0) && (decide (k=1) || decide (k=2))) || (decide (x=1) && decide (k=2))
def Ur (a:Int):List Int:=(List.range (Ag m a).1.toNat).map fun (x:Nat)=>AA m a (x:Int)
def DR (a:Int):List Int:=((List.range (Ag m a).1.toNat).filter fun (x:Nat)=>decide (AA m a (x:Int)≠0) && !Ee (Ag m a).2.2 (x:Int)).map fun (x:Nat)=>AA m a (x:Int)
def Qk (l:List Int):List Int:=(l.filter fun a=>Bz m s a && decide ((Ag m a).2.2=2) && Bz m s (AA m a 0)).map fun a=>AA m a 1
def Ei:List Int:=C7 (F8 m)
def RD:TC:=AM m s (Qk m s (Ei m))
def Sy (a k:Int):Nat->Nat->HM->HM
 | 0,_,m=>m
 | n+1,x,m=>Sy a k n (x+1) (if AA m a (x:Int)≠0/\Ee k (x:Int)=true then (BP m a (x:Int) 0).2 else m)
def Qd (a:Int):HM:=
 if (Ag m a).2.2≠1/\(Ag m a).2.2≠2 then m
 else if AA m a 0≠0/\Bz m s (AA m a 0)=true then m
 else Sy a (Ag m a).2.2 (Ag m a).1.toNat 0 m
def IV (l:List Int):HM:=l.foldl (fun m a=>if Bz m s a then Qd m s a else m) m
def WS:List Int:=((List.range m.bls.length).filter fun (b:Nat)=>decide (Cb m (b:Int)=1\/Cb m (b:Int)=2)).map fun (b:Nat)=>(b:Int)
def Zn:HM × TC:=
 let s1:=if s.look then AM m s (Bf r) else s
 let s2:=RD m s1
 if s2.list≠[] then (m,s2)
 else
  let m':=IV m s2 (Ei m)
  (m',{ s2 with left:=s2.left++WS m',ph:=2 })
def JA (ws:List (BitVec 64)):List Int->HM × Int->HM × Int
 | [],q=>q
 | a::l,q=>JA ws l (if CG 2 ws (a.toNat/2)=0 then ((Hs q.1 a).2,Ar (q.2+1)) else q)
def Sk (ws:List (BitVec 64)):Nat->Nat->List (BitVec 64)
 | 0,_=>ws
 | n+1,x=>Sk (F9 2 ws x 0) n (x+1)
def Sp (n:Nat) (s:TC):TC:=if s.left=[] then { s with ws:=Sk s.ws n 0,ph:=0 } else s
def Hn:HM × TC:=
 match s.left with
 | []=>(m,Sp (32*m.bls.length) s)
 | b::l=>
   let q:=JA s.ws (C7 (HC m b)) (m,s.freed)
   ((CY q.1 b).2,Sp (32*m.bls.length) { s with left:=l,freed:=q.2 })
def ZQ:TC:=
 match s.list with
 | []=>s
 | a::l=>
   if Ax m a then Eb (AM m { s with list:=l } (DR m a)) a 2 else { s with list:=l }
def HE:HM × TC:=
 if s.ph=2 then Hn m s
 else if s.list≠[] then (m,ZQ m s)
 else Zn m r s
def EL (r:D3):Nat->HM × TC->Nat × HM × TC
 | 0,q=>(0,q)
 | n+1,q=>if q.2.ph=0 then (0,q) else
   let z:=EL r n (HE q.1 r q.2)
   (z.1+1,z.2)
def U4:TC:=AM m { s with freed:=0,ph:=1 } (Bf r)
def U3:Bool:=(Bf r).all (fun a=>decide (a=0) || Ax m a) && (Ei m).all fun a=>(Ur m a).all fun v=>decide (v=0) || Ax m v
def Xm (n:Nat) (look:Bool) (born:Int):TC:=⟨look,born,0,List.replicate ((32*n*2+63)/64) 0#64,[],[],0⟩
end
section
variable {m:HM} {r:D3}
def NN (m:HM):Prop:=∀ j,Start m j -> ∀ x:Nat,(x:Int)<Av m j->m.wds.getD (2*j+2+x) 0=0
def Qb (m:HM):Prop:=∀ j,Start m j -> ∀ x:Nat,(x:Int)<Av m j->m.wds.getD (2*j+2+x) 0=0\/Ax m (m.wds.getD (2*j+2+x) 0)=true
theorem NN.s (h:NN m):Qb m:=fun j hs x a=>.inl (h j hs x a)
def Mq (m:HM) (r:D3):Prop:=∀ v ∈ r.all,v=0\/Ax m v=true
theorem YC {m':HM} (a:m'.bls.length=m.bls.length) (hs:m'.stw=m.stw) (j:Nat):Start m' j↔Start m j:=by unfold Start; rw[a,hs]
theorem cf {m':HM} (b:m'.bls.length=m.bls.length) (hs:m'.stw=m.stw) (a:Int):Ax m' a=Ax m a:=by
 unfold Ax; simp only[YC b hs]
theorem NN.Aw {m':HM} (h:NN m) (c:m'.bls.length=m.bls.length) (hs:m'.stw=m.stw) (hw:m'.wds=m.wds):NN m':=by
 intro j b x a;rw[hw];exact h j ((YC c hs j).1 b) x (by unfold Av at a ⊢; rw[hw] at a; exact a)
theorem Qb.Aw {m':HM} (h:Qb m) (b:m'.bls.length=m.bls.length) (hs:m'.stw=m.stw) (hw:m'.wds=m.wds):Qb m':=by
 intro j c x a;rw[hw,cf b hs];exact h j ((YC b hs j).1 c) x (by unfold Av at a ⊢; rw[hw] at a; exact a)
theorem Mq.Aw {m':HM} (h:Mq m r) (a:m'.bls.length=m.bls.length) (hs:m'.stw=m.stw):Mq m' r:=fun v b=>by rw[cf a hs]; exact h v b
theorem OA (m:HM) (b c x y a d:Int):(BA m b c x y a d).2.wds=m.wds/\(BA m b c x y a d).2.stw=m.stw/\(BA m b c x y a d).2.bls.length=m.bls.length/\(BA m b c x y a d).2.births=m.births:=by
 unfold BA;split
 ·split
  ·exact ⟨rfl,rfl,by rw[Ac8,J4],rfl⟩
  ·exact ⟨rfl,rfl,rfl,rfl⟩
 ·exact ⟨rfl,rfl,rfl,rfl⟩
theorem NN.bA (h:NN m) (b c x y a d:Int):NN (BA m b c x y a d).2:=by
 obtain ⟨e,f,g,_⟩:=OA m b c x y a d;exact h.Aw g f e
theorem NN.new (n:Nat):NN (JB n):=fun j hs=>absurd hs (gi n j)
theorem NN.place (h:NN m) (l:Inv m) (n:Inv2 m) (g:Sh m) (a r d c:Int):NN (CW m a r d c).2.2:=by
 unfold CW;cases k:valid r d c with
 | false=>exact h
 | true=>
   simp only[Aah];by_cases q:Me m a (Pk (num r d c)) (-1)=0;rotate_left
   ·rw[Abo q]; exact h
   rw[Abm q];have u:2<=Pk (num r d c):=by
    have f:=k;rw[Ko k];simp[valid] at f;omega
   obtain ⟨j,rfl,i,z,p⟩:=l.fits g.wl (YD _) u q;rw[show ((2*j:Nat):Int).toNat/2=j from by omega];have e:∀ o,Start m o->2*o+sz m o<=2*j\/2*j+Pk (num r d c)<=2*o:=fun o s=>p o s (by omega);obtain ⟨D,E,F,_⟩:=Ke k;have C:=Ko k;have f:=k;simp[valid] at f;intro o s x v;rcases (J0 g.sl i).1 s with rfl | b
   ·have t:Av (CR m o (num r d c)) o=r:=by
     unfold Av; rw[I9 g i,Abm rfl,D]
    rw[t] at v;rw[I9 g i,Abo (by omega),Abo (by omega)];refine n.zero _ fun y A G H=>?_;have:=e y A;have:=l.use A;omega
   ·have hu:=l.use b;have w:=e o b;have B:o≠j:=by
     rintro rfl;omega
    have t:Av (CR m j (num r d c)) o=Av m o:=by
     unfold Av; rw[I9 g i,Abo (by omega),Abo (by omega)]
    rw[t] at v;obtain ⟨_,I,J,K,L,_⟩:=MX l b;rw[I9 g i,Abo (by omega),Abo (by omega)];exact h o b x v
theorem rJ (b:Inv m) (d:Sh m) {j y:Nat} (hs:Start m j) (c:Start m y) (a:y≠j):Av (HN m j) y=Av m y/\CA (HN m j) y=CA m y /\ ∀ x:Nat,(x:Int)<Av m y->(HN m j).wds.getD (2*y+2+x) 0=m.wds.getD (2*y+2+x) 0:=by
 have g:=b.size c;have e:(HN m j).wds.getD (2*y+1) 0=m.wds.getD (2*y+1) 0:=Ng b hs c a (by omega) (by omega);refine ⟨by unfold Av; rw[e],by unfold CA; rw[e],fun x f=>Ng b hs c a (by omega) (by omega)⟩
theorem NN.kill (h:NN m) (i:Inv m) (e:Sh m) (a:Int):NN (Hs m a).2:=by
 unfold Hs;cases k:Ax m a with
 | false=>exact h
 | true=>
   obtain ⟨j,rfl,hs⟩:=AV k;rw[Abm rfl,show ((2*j:Nat):Int).toNat/2=j from by omega];show NN (HN m j);intro y l x d;obtain ⟨c,b⟩:=(JG e.sl hs.1).1 l;obtain ⟨f,_,g⟩:=rJ i e hs b c;rw[f] at d;show (HN m j).wds.getD _ 0=0;rw[g x d];exact h y b x d
theorem Qb.setRef (h:Qb m) (c:Inv m) (a x v:Int):Qb (BP m a x v).2:=by
 unfold BP;by_cases d:(BB m a x false).2=0;rotate_left
 ·rw[Abo d]; exact h
 rw[Abm d];by_cases f:v≠0/\Ax m v=false
 ·rw[Abm f]; exact h
 rw[Abo f];have g:v=0\/Ax m v=true:=by
  by_cases h0:v=0
  ·exact .inl h0
  ·refine .inr ?_;cases e:Ax m v with
   | true=>rfl
   | false=>exact absurd ⟨h0,e⟩ f
 obtain ⟨j,t,hs,rfl,hw,hu,o⟩:=OV (w:=(BB m a x false).1) c (Ahj rfl d);rw[hw,IT];have l:=c.use hs;have key:=XC c hs (t:=t) (by omega) v;intro y n z i;have b:Start m y:=n;have k:Av (GW m (2*j+2+t) v) y=Av m y:=by unfold Av; rw[key y b 1 (by decide)]
 rw[k] at i;have e:∀ q,Ax (GW m (2*j+2+t) v) q=Ax m q:=fun q=>rfl;rw[e];show (m.wds.set _ _).getD _ 0=0\/Ax m ((m.wds.set _ _).getD _ 0)=true;rw[Cn];split
 ·exact g
 ·exact h y b z i
theorem Ny (m:HM) (a x v:Int):(BP m a x v).2.bls=m.bls/\(BP m a x v).2.stw=m.stw/\(BP m a x v).2.births=m.births/\(BP m a x v).2.fw=m.fw/\(BP m a x v).2.pnw=m.pnw:=by
 unfold BP;split
 ·split <;> exact ⟨rfl,rfl,rfl,rfl,rfl⟩
 ·exact ⟨rfl,rfl,rfl,rfl,rfl⟩
theorem Yv (m:HM) (a:Int) (v:Nat):(MH m a v).2.bls=m.bls/\(MH m a v).2.stw=m.stw/\(MH m a v).2.wds=m.wds/\(MH m a v).2.births=m.births/\(MH m a v).2.fw=m.fw:=by
 unfold MH;split <;> exact ⟨rfl,rfl,rfl,rfl,rfl⟩
theorem Qb.Ww (h:Qb m) (a:Int) (v:Nat):Qb (MH m a v).2:=by
 obtain ⟨b,c,d,_⟩:=Yv m a v;exact h.Aw (by rw[b]) c d
theorem iN (a:Inv m) {j x:Nat} (hs:Start m j) (b:(x:Int)<Av m j):AA m ((2*j:Nat):Int) (x:Int)=m.wds.getD (2*j+2+x) 0:=by
 unfold AA K6;rw[RE a hs b,Abm rfl,IT]
theorem F4 {j:Nat} (hs:Start m j):Ag m ((2*j:Nat):Int)=(Av m j,Bp m j,CA m j):=by
 unfold Ag;rw[Abm (EE hs),show ((2*j:Nat):Int).toNat/2=j from by omega]
theorem fY (v:Int):∀ (l out:List Int),v ∈ l.foldl JJ out->v ∈ out\/v ∈ l
 | [],out,h=>.inl h
 | a::l,out,h=>by
   rcases fY v l (JJ out a) h with h | h
   ·unfold JJ at h;split at h
    ·exact .inl h
    ·rcases Aag.1 h with h | h
     ·exact .inl h
     ·rw[Ac1.1 h]; exact .inr Ac0
   ·exact .inr (Abx _ h)
def Z8 (m:HM) (n:Nat):Int:=if F8 m=[] then 0 else (C7 (F8 m)).getD (n % (F8 m).length) 0
theorem tT (m:HM) (n:Nat):Z8 m n=0\/Ax m (Z8 m n)=true:=by
 unfold Z8;split
 ·exact .inl rfl
 ·rename_i h;have a:n % (F8 m).length<(F8 m).length:=Ael _ (Aer.2 h);rw[O8 _ a];exact .inr (EE (DO.1 (Ac4 a)))
end
section
variable {J:Aa}
def Holds (J:Aa) (p:qOi) (l:List Int):Prop:=CZ J 1 p l.length=some (Bm l)/\((∃ a,p=some a)\/l=[])
theorem bR {J:Aa} {p:qOi} {n:Nat} {row:List Value} (τ:Aa) (h:CZ J 1 p n=some row):CZ (J++τ) 1 p n=some row:=by
 cases p with
 | none=>exact h
 | some a=>
   simp only[CZ,Nh] at h ⊢;cases e:J[a.block]? with
   | none=>rw[e] at h; cases h
   | some o=>rw[AT (Af e),e]; rw[e] at h; exact h
theorem WT (k:Nat) (p:qOi) (c:Nat) (l:List Int) (j:l.length<=100000) (h:Holds J p l):
  ∃ s τ,BH (k+1) (p,l.length,c) J=some (.slice s.1 s.2.1 s.2.2,J++τ)/\Bh (J++τ) s l /\ ∀ b ∈ hs s,J.length<=b:=by
 rw[SY];cases p with
 | none=>
   have d:l=[]:=by
    rcases h.2 with ⟨a,g⟩ | h
    ·cases g
    ·exact h
   subst d;refine ⟨(none,0,0),[], ?_,.inl (Cq.nil _ _ _),fun b hb=>by simp[hs] at hb⟩;rw[show ([]:List Int).length=0 from rfl];rw[show ∀ n c,Ll P FP (.slice none n c) (.slice none 0 0)=some true from fun n c=>by kernel_rfl];simp only[AI,IS,Abu]
 | some a=>
   have i:=bR [Au.cells [] Ak true] h.1;obtain ⟨s',τ,e,h1,f⟩:=Tl vE ub ta rfl rfl (by decide) (by decide) (by decide) J (some a) l.length c j (Bm l) (by rw[Cj,Acu]) i;simp only[eqW,AI,By,Ae,e];refine ⟨s',[Au.cells [] Ak true]++τ,by rw[<- Aae], ?_, ?_⟩
   ·by_cases h0:l.length=0
    ·have d:l=[]:=Ad6.1 h0;refine .inr ⟨d,J.length,[],Ak,true,f h0, ?_⟩;rw[Acr (Abp _)]; simp
    ·obtain ⟨m,o⟩:=h1 (by omega);refine .inl (.inr ⟨J.length+1,m,Ade _,by rw[Cj,Acu], ?_⟩);rw[<- Aae]; exact o
   ·intro b hb;by_cases h0:l.length=0
    ·rw[f h0] at hb; simp[hs] at hb; omega
    ·rw[(h1 (by omega)).1] at hb; simp[hs] at hb; omega
theorem Bh.holds {s:Bv} {l:List Int} (h:Bh J s l):Holds J s.1 l:=by
 refine ⟨h.first, ?_⟩;rcases h with (⟨h,_,rfl⟩ | ⟨b,rfl,_⟩) | ⟨rfl,b,cs,T,w,rfl,a⟩
 ·exact .inr (Ad6.1 h)
 ·exact .inl ⟨_,rfl⟩
 ·exact .inr rfl
theorem Bh.tail {s:Bv} {a:Int} {l:List Int} (h:Bh J s (a::l)):∃ p c,Gh Ak 1 (s.1,(a::l).length,(a::l).length) (some (qIi (1:Int))) none none J=some (p,l.length,c)/\Holds J p l:=by
 rcases h with h | ⟨h,_⟩
 ·obtain ⟨p,c,e,d⟩:=W9 h 1 (a::l).length (by simp) (Abp _) (some (qIi ((1:Nat):Int))) none (.inl rfl) (.inr ⟨rfl,rfl⟩);have f:(a::l).length-1=l.length:=by simp
  rw[f] at e d;refine ⟨p,c,e, ?_, ?_⟩
  ·rw[d];simp only[Bm,Aea,Acu,Aih,Agn,Ac6];rw[Ado (by simp)]
  ·cases p with
   | some a=>exact .inl ⟨_,rfl⟩
   | none=>
     right;cases l with
     | nil=>rfl
     | cons b l=>
       exfalso;simp only[CZ,Ada] at d;rw[Abo (by omega)] at d;cases d
 ·cases h
theorem YO (k:Nat) {s:Bv} {l:List Int} (h:Bh J s l) (i:l.length<=1000000) (v:Int):∀ (n x f:Nat),x+n=l.length->n<f ->
  ∃ o,EN k f s.1 l.length l.length v ((l.length:Nat):Int) (x:Int) J=some o/\(v ∈ l.drop x -> ∃ y:Nat,o=(.ret,[qIi (y:Int)],J))/\(v ∉ l.drop x->o=(.exit 0,[],J))
 | n,x,0,d,c=>by omega
 | 0,x,f+1,d,c=>by
   rw[II];simp only[Aac (show ¬ (x:Int)<((l.length:Nat):Int) by omega),By];refine ⟨_,rfl,fun hm=>?_,fun _=>rfl⟩;rw[Ac5 (by omega)] at hm;cases hm
 | n+1,x,f+1,d,c=>by
   obtain ⟨b,e,m,_⟩:=h.ld (x:=x) (by omega);have p:=qSu x l.length (by omega);have r:=wSu x (by omega);obtain ⟨o,a,h1,g⟩:=YO k h i v n (x+1) f (by omega) (by omega);have hd:l.drop x=l.getD x 0::l.drop (x+1):=by
    rw[Ac2 (by omega),Abi,Aaj (by omega)]; rfl
   rw[II];simp only[Aad (show (x:Int)<((l.length:Nat):Int) by omega),IS,p,Aah,e,AI,IT,Acu,IN,m,r];by_cases q:v=l.getD x 0
   ·rw[show (v == l.getD x 0)=true from Ad7.2 q];simp only[IS];exact ⟨_,rfl,fun _=>⟨x,rfl⟩,fun hm=>absurd (by rw[hd,q]; exact Ac0) hm⟩
   ·rw[show (v == l.getD x 0)=false from Acy.2 q];rw[e] at a;simp only[By,a];refine ⟨o,rfl,fun hm=>h1 ?_,fun hm=>g fun j=>hm (by rw[hd]; exact Abx _ j)⟩;rw[hd] at hm;rcases Acv.1 hm with hm | hm
    ·exact absurd hm q
    ·exact hm
theorem YJ (k:Nat) {s:Bv} {l:List Int} (h:Bh J s l) (g:l.length<=1000000) (f:l.length<k) (v:Int):C5 (k+2) (s.1,s.2.1,s.2.2) v J=some (.bool (decide (v ∈ l)),J):=by
 obtain ⟨o,e,h1,a⟩:=YO (k) h g v l.length 0 k (by omega) f;rw[show ((0:Nat):Int)=0 from rfl] at e;rw[L5,MQ];have b:=h.form;have c:s.2.1=l.length:=by rw[b]
 have d:s.2.2=l.length:=by rw[b]
 simp only[c,d,e,AI];rw[Ac6] at h1 a;by_cases hm:v ∈ l
 ·obtain ⟨y,rfl⟩:=h1 hm;rw[Aad hm];simp only[reduceCtorEq,Abs,Aah,Ey,AI,Ah];rw[Aad (show (y:Int)>=0 by omega)]
 ·rw[a hm,Aac hm];simp only[Aah,AI,Ah];rfl
theorem iX (k:Nat) (i:10<=k) {e:Nat} (h0:0<e) (h1:e<=4096) (J:Aa):∃ τ tb wb,J7 (k+4) (e:Int) 2 J=some (.tuple #[qVi (some ⟨tb,0,none⟩),qIi 0],J++τ) /\
  DF (J++τ) tb wb e 2 (List.replicate ((e*2+63)/64) 0#64)/\J.length<=tb/\J.length<=wb/\tb≠wb:=by
 obtain ⟨Z,a⟩:∃ Z,J++[Au.cells [Value.int .i64 1,qIi 2,qIi 4,qIi 8] Ak true]=Z:=⟨_,rfl⟩;have j:Z.length=J.length+1:=by rw[<- a]; simp
 have h:Bh Z (some ⟨J.length,0,none⟩,4,4) [1,2,4,8]:=.inl (.inr ⟨J.length,rfl,by decide,rfl,by rw[<- a]; simp[Bm]⟩);have hC:C5 (k+3) (some ⟨J.length,0,none⟩,4,4) 2 Z=some (.bool true,Z):=YJ (k+1) h (by decide) (by simp; omega) 2;rw[V8];simp only[show decide ((e:Int)<1)=false from Aac (by omega),By,show decide ((e:Int)>4096)=false from Aac (by omega),AI,Ae,a,hC,An,Abr];have b:Ar ((e:Int)*2)=((e*2:Nat):Int):=by rw[Ai (by unfold AO; omega)]; omega
 have c:Ar (((e*2:Nat):Int)+64)=((e*2+64:Nat):Int):=Ai (by unfold AO; omega);have d:Ar (((e*2+64:Nat):Int)-1)=((e*2+63:Nat):Int):=by rw[Ai (by unfold AO; omega)]; omega
 have f:((e*2+63:Nat):Int).tdiv 64=(((e*2+63)/64:Nat):Int):=rfl;have g:Ar (((e*2+63)/64:Nat):Int)=(((e*2+63)/64:Nat):Int):=Ai (by unfold AO; omega);simp only[b,c,d,f,g,show ((64:Int)=0)=False from by simp,Abs];rw[Abm (by omega)];simp only[IT,pW];refine ⟨[Au.cells [Value.int .i64 1,qIi 2,qIi 4,qIi 8] Ak true,.cells (rowOf (List.replicate ((e*2+63)/64) 0#64)) B8 true,.cells [qIi (e:Int),qIi 2,.slice (some ⟨J.length+1,0,none⟩) ((e*2+63)/64) ((e*2+63)/64)] N0 true],J.length+2,J.length+1, ?_, ?_,by omega,by omega,by omega⟩
 ·rw[<- a]; simp
 ·refine ⟨?_, ?_,by simp,h0,h1,.inr (.inl rfl)⟩
  ·simp
  ·simp
theorem m8 (k:Nat) {tb wb e w:Nat} {ws:List (BitVec 64)} (h:DF J tb wb e w ws):Ea (k+2) (some ⟨tb,0,none⟩) J=some (qIi (e:Int),J):=by
 rw[QD];simp only[Xk k h,AI,An,Abr,By,IN,Abn,h.ldE]
theorem au (k:Nat) {tb wb e:Nat} (a:tb≠wb):∀ (n x f:Nat) (J:Aa) (ws:List (BitVec 64)),DF J tb wb e 2 ws->x+n=e->n<f ->
  ∃ J',Fu (k+3) f (some ⟨tb,0,none⟩) (0:Int) (0:Int) (e:Int) (x:Int) J=some (.exit 0,[],J')/\DF J' tb wb e 2 (Sk ws n x)/\Mv [wb] [wb] J J'
 | n,x,0,J,ws,h,c,b=>by omega
 | 0,x,f+1,J,ws,h,c,b=>by
   rw[Ma];simp only[Aac (show ¬ (x:Int)<(e:Int) by omega),By];exact ⟨J,rfl,h,Mv.refl _ _⟩
 | n+1,x,f+1,J,ws,h,c,b=>by
   have l:=h.top;have w0:Ar (0+(x:Int))=(x:Int):=by rw[Ai (by unfold AO; omega)]; omega
   have i:=wSu x (by omega);have hp:=uS (k+1) h (j:=x) (v:=0) (by omega);rw[show ((0:Nat):Int)=0 from rfl] at hp;obtain ⟨J',d,g,m'⟩:=au k a n (x+1) f _ _ (h.put a x 0) (by omega) (by omega);rw[Ma];simp only[Aad (show (x:Int)<(e:Int) by omega),IS,w0,i,hp,AI,Gg,d];exact ⟨J',rfl,g,(Mv.set J _ (Ac1.2 rfl)).trans m'⟩
theorem vU (k:Nat) (i:5000<=k) {tb wb e:Nat} (a:tb≠wb) {ws:List (BitVec 64)} (h:DF J tb wb e 2 ws):
  ∃ J',FJ (k+9) (some ⟨tb,0,none⟩) (0:Int) (e:Int) (0:Int) J=some (qIi 0,J')/\DF J' tb wb e 2 (Sk ws e 0)/\Mv [tb,wb] [tb,wb] J J':=by
 have hp:=h.pos;have j:=h.top;have h1:=h.app [.cells [qIi (0:Int)] Ak true];obtain ⟨τ,g⟩:=jR k h1 (0:Int) (0:Int) J.length (by simp[Aj,CV,Bl]) (by simp);have d:=h1.app τ;obtain ⟨J',c,f,m'⟩:=au (k+5) a e 0 (k+8) _ _ d (by omega) (by omega);rw[show ((0:Nat):Int)=0 from rfl] at c;have w0:Ar ((e:Int)-0)=(e:Int):=by rw[Ai (by unfold AO; omega)]; omega
 refine ⟨J', ?_,f,(((Mv.app [wb] J _).trans (Mv.app [wb] _ τ)).trans m').wide (fun q b=>Abx _ b) fun q b=>.inl b⟩;rw[TN];simp only[Ae];rw[g,Abm (by have:=Ag8 2; omega)];simp only[AI,Ah,Abt,By,Aac (show ¬ (e:Int)<1 by omega),IN,Abn,d.ldE,w0,Aac (show ¬ (e:Int)>(e:Int) by omega),c,Aah]
end
section
variable {J:Aa} {r:D3}
structure PI where
 rb:Nat
 s1:Bv
 s2:Bv
 s3:Bv
def PI.l (p:PI):List Nat:=p.rb::(hs p.s1++(hs p.s2++hs p.s3))
structure Ha (J:Aa) (p:PI) (r:D3):Prop where
 cell:J[p.rb]?=some (.cells [qIi (r.mu:Int),.slice p.s1.1 p.s1.2.1 p.s1.2.2,.slice p.s2.1 p.s2.2.1 p.s2.2.2,.slice p.s3.1 p.s3.2.1 p.s3.2.2] ML true)
 sl:Bh J p.s1 r.sl
 gl:Bh J p.s2 r.gl
 qu:Bh J p.s3 r.qu
 ok:r.ok
 nd:p.l.Nodup
variable {p:PI}
abbrev F6 (p:PI):qOi:=some ⟨p.rb,0,none⟩
theorem PI.m1 (p:PI) {b:Nat} (h:b ∈ hs p.s1):b ∈ p.l:=Abx _ (Aag.2 (.inl h))
theorem PI.m2 (p:PI) {b:Nat} (h:b ∈ hs p.s2):b ∈ p.l:=Abx _ (Aag.2 (.inr (Aag.2 (.inl h))))
theorem PI.m3 (p:PI) {b:Nat} (h:b ∈ hs p.s3):b ∈ p.l:=Abx _ (Aag.2 (.inr (Aag.2 (.inr h))))
theorem Ha.Aw {J':Aa} (h:Ha J p r) (a:∀ q ∈ p.l,J'[q]?=J[q]?):Ha J' p r:=
 ⟨(a _ Ac0).trans h.cell,h.sl.Aw fun b hb=>a b (p.m1 hb),h.gl.Aw fun b hb=>a b (p.m2 hb),h.qu.Aw fun b hb=>a b (p.m3 hb),h.ok,h.nd⟩
theorem Ha.lt (h:Ha J p r):∀ q ∈ p.l,q<J.length:=by
 intro q a;rcases Acv.1 a with rfl | a
 ·exact Af h.cell
 rcases Aag.1 a with a | a
 ·exact h.sl.lt q a
 rcases Aag.1 a with a | a
 ·exact h.gl.lt q a
 ·exact h.qu.lt q a
theorem Ha.app (h:Ha J p r) (τ:Aa):Ha (J++τ) p r:=h.Aw fun q a=>AT (h.lt q a)
theorem Ha.HI (h:Ha J p r):Aj .i64 J p.rb 0=some (r.mu:Int):=by simp[Aj,CV,h.cell,Bl]
theorem Ha.EX (h:Ha J p r):Bd J p.rb 1=some (p.s1.1,p.s1.2.1,p.s1.2.2):=by simp[Bd,CV,h.cell,Ej]
theorem Ha.UH (h:Ha J p r):Bd J p.rb 2=some (p.s2.1,p.s2.2.1,p.s2.2.2):=by simp[Bd,CV,h.cell,Ej]
theorem Ha.cq (h:Ha J p r):Bd J p.rb 3=some (p.s3.1,p.s3.2.1,p.s3.2.2):=by simp[Bd,CV,h.cell,Ej]
theorem zs (a:Addr):Ll P FM (qVi (some a)) (qVi none)=some false:=by kernel_rfl
theorem Ni (k:Nat) (h:Ha J p r):Bi (k+1) (F6 p) J=some (.bool true,J):=by
 have:=h.ok.m1;rw[SU];simp only[zs,AI,Ac7,IS,IN,Abn,h.HI];rw[Aad (by omega)]
theorem YR (k:Nat) (h:Ha J p r):Cg (k+2) (F6 p) J=some (qIi (r.mu:Int),J):=by
 rw[Pr];simp only[Ni k h,AI,An,Abr,By,IN,Abn,h.HI]
theorem GA {J J':Aa} (b:J.length<=J'.length) (a:∀ q,q<J.length->J'[q]?=J[q]?):∃ τ,J'=J++τ:=by
 refine ⟨J'.drop J.length, ?_⟩;apply Ady;intro q;by_cases h:q<J.length
 ·rw[AT h,a q h]
 ·rw[Acr (by omega),Adq];congr 1; omega
structure aC (Z:Aa) (h3 h6 top:Nat) (out:List Int):Prop where
 box:∃ s,Z[h3]?=some (.cells [.slice s.1 s.2.1 s.2.2] FP true)/\Bh Z s out /\ ∀ b ∈ hs s,top<b
 rc:Z[h6]?=some (.loop 168 .ready (Hf 0 26 [(3,qVi (some ⟨h3,0,none⟩))]))
 h3t:h3<=top
 h6t:h6<=top
 ne:h3≠h6
 tl:top<Z.length
structure Su (h3 top:Nat) (Z Z':Aa):Prop where
 len:Z.length<=Z'.length
 same:∀ q,q<=top->q≠h3->Z'[q]?=Z[q]?
theorem Su.refl (h3 top:Nat) (Z:Aa):Su h3 top Z Z:=⟨Abp _,fun _ _ _=>rfl⟩
theorem Su.trans {h3 top:Nat} {a b c:Aa} (h:Su h3 top a b) (g:Su h3 top b c):Su h3 top a c:=⟨Adj h.len g.len,fun q h1 d=>(g.same q h1 d).trans (h.same q h1 d)⟩
theorem Su.app {h3 top:Nat} {Z:Aa} (a:top<Z.length) (τ:Aa):Su h3 top Z (Z++τ):=⟨by simp,fun q h1 _=>AT (by omega)⟩
theorem aC.app {Z:Aa} {h3 h6 top:Nat} {out:List Int} (h:aC Z h3 h6 top out) (τ:Aa):aC (Z++τ) h3 h6 top out:=by
 obtain ⟨s,e,l,n⟩:=h.box;have a:=h.h3t; have b:=h.h6t; have c:=h.tl;exact ⟨⟨s,by rw[AT (by omega)]; exact e,l.app τ,n⟩,by rw[AT (by omega)]; exact h.rc,a,b,h.ne,by rw[Abe]; omega⟩
theorem aC.behind {Z a:Aa} {h3 h6 top:Nat} {out:List Int} (h:aC Z h3 h6 top out) (g:Z.length<=a.length) (f:∀ q,q<Z.length->a[q]?=Z[q]?):aC a h3 h6 top out:=by
 obtain ⟨s,e,l,n⟩:=h.box;have c:=h.h3t; have d:=h.h6t; have i:=h.tl;exact ⟨⟨s,by rw[f _ (by omega)]; exact e,l.Aw fun b hb=>f b (l.lt b hb),n⟩,by rw[f _ (by omega)]; exact h.rc,c,d,h.ne,by omega⟩
theorem Ph {ρ:Type} {Z:Aa} {h:Nat} {f:FuncId} {o n:yb} {g:Bo} (a:Z[h]?=some (.loop f o g)) (K:FuncId->Bo->Aa->Option ρ):Kn h Z o n K=K f g (Z.set h (.loop f n g)):=by
 unfold Kn; rw[a]; simp
theorem mG (k:Nat) {Z:Aa} {h3 h6 top:Nat} {out:List Int} (h:aC Z h3 h6 top out) (S:out.length<=1000) (Q:1000<k) (N O P:Int) {b x:Nat} {v:Int} (G:Aj .i64 Z b x=some v) (h0:v≠0) (z:b≠h6):
  ∃ t,HH (k+2) (C5 (k+2)) h6 h3 N O P (some ⟨b,x,none⟩) Z=some (.bool true,t)/\aC t h3 h6 top (JJ out v)/\Su h3 top Z t:=by
 obtain ⟨s,e,l,n⟩:=h.box;have i:=h.h3t; have j:=h.h6t; have U:=h.tl;have c:∀ q ∈ hs s,q≠h3/\q≠h6:=fun q a=>by have:=n q a; omega
 obtain ⟨u,m⟩:∃ u,Au.loop 168 .busy (Hf 0 26 [(3,qVi (some ⟨h3,0,none⟩))])=u:=⟨_,rfl⟩;obtain ⟨Z1_,d⟩:∃ Z1_,Z.set h6 u=Z1_:=⟨_,rfl⟩;have T:Z1_.length=Z.length:=by rw[<- d]; simp
 have r:∀ q,q≠h6->Z1_[q]?=Z[q]?:=fun q a=>by rw[<- d,Aaf (Ac9 a)]
 have D:Z1_[h6]?=some (.loop 168 .busy (Hf 0 26 [(3,qVi (some ⟨h3,0,none⟩))])):=by rw[<- d,Abq (by omega),m]
 have w:Z1_[h3]?=some (.cells [.slice s.1 s.2.1 s.2.2] FP true):=by rw[r _ h.ne]; exact e
 have f:Bh Z1_ s out:=l.Aw fun q a=>r q (c q a).2;have A:Bd Z1_ h3 0=some (s.1,s.2.1,s.2.2):=by simp[Bd,CV,w,Ej]
 have B:Aj .i64 Z1_ b x=some v:=by
  have:Z1_[b]?=Z[b]?:=r b z;simp only[Aj,CV,this] at G ⊢;exact G
 have hC:=YJ k f (by omega) (by omega) v;unfold HH;rw[Ph h.rc,m,d];simp only[A,AI,B,hC,An];by_cases hm:v ∈ out
 ·rw[Aad hm];simp only[Abr,By,AI,Aah];rw[Ph D];have y:JJ out v=out:=by unfold JJ; rw[Abm (.inr hm)]
  refine ⟨_,rfl, ?_, ?_⟩
  ·rw[y];refine ⟨⟨s,by rw[Aaf h.ne.symm]; exact w,f.Aw fun q a=>Aaf (c q a).2.symm,n⟩,Abq (by omega),i,j,h.ne,by simp; omega⟩
  ·refine ⟨by simp; omega,fun q a F=>?_⟩;by_cases g:q=h6
   ·subst g; rw[Abq (by omega),h.rc]
   ·rw[Aaf (Ac9 g),r q g]
 ·rw[Aac hm];have y:JJ out v=out++[v]:=by unfold JJ; rw[Abo (fun E=>E.elim h0 hm)]
  obtain ⟨s',Z2_,M,C,p⟩:=f.push v Ak (by omega);have o:∀ q ∈ hs s',top<q:=fun q a=>(p.new q a).elim (n q) fun E=>by omega
  have J:Z2_[h3]?=some (.cells [.slice s.1 s.2.1 s.2.2] FP true):=p.IX w fun hm=>(c _ hm).1 rfl;have K:Z2_[h6]?=some (.loop 168 .busy (Hf 0 26 [(3,qVi (some ⟨h3,0,none⟩))])):=p.IX D fun hm=>(c _ hm).2 rfl;have H:=p.len;have st:CX Z2_ h3 0 (.slice s'.1 s'.2.1 s'.2.2)=some (Z2_.set h3 (.cells [.slice s'.1 s'.2.1 s'.2.2] FP true)):=by simp[CX,J]
  have L:(Z2_.set h3 (.cells [.slice s'.1 s'.2.1 s'.2.2] FP true))[h6]?=some (.loop 168 .busy (Hf 0 26 [(3,qVi (some ⟨h3,0,none⟩))])):=by rw[Aaf h.ne]; exact K
  simp only[Ac7,IS,AI,Ae,M,st,Aah];rw[Ph L];have I:=h.ne;refine ⟨_,rfl, ?_, ?_⟩
  ·rw[y];refine ⟨⟨s', ?_,C.Aw fun q a=>?_,o⟩,Abq (by simp; omega),i,j,h.ne,by simp; omega⟩
   ·rw[Aaf h.ne.symm,Abq (by omega)]
   ·have:=o q a;rw[Aaf (by omega),Aaf (by omega)]
  ·refine ⟨by simp; omega,fun q a F=>?_⟩;by_cases g:q=h6
   ·subst g; rw[Abq (by simp; omega),h.rc]
   ·rw[Aaf (Ac9 g),Aaf (Ac9 F),p.same q (by omega) (fun hm=>by have:=n q hm; omega),r q g]
theorem Qy (k:Nat) (A:1000<k) {h3 h6 top:Nat} (i1:Int) (sl:Bv) (l:List Int) (I:l.length<=200):∀ (n x f:Nat) (Z:Aa) (out:List Int),aC Z h3 h6 top out->Bh Z sl l->(∀ b ∈ hs sl,b<=top/\b≠h3/\b≠h6)->x+n=l.length->out.length+n<=1000->n<f ->
  ∃ d,Dh (k+3) f (.func (.yield h6) #[] #[]) i1 sl.1 l.length l.length ((l.length:Nat):Int) (x:Int) Z=some (.exit 2,[],d)/\aC d h3 h6 top ((l.drop x).foldl JJ out)/\Su h3 top Z d/\((l.drop x).foldl JJ out).length<=out.length+n
 | n,x,0,Z,out,h,a,hb,K,r,H=>by omega
 | 0,x,f+1,Z,out,h,a,hb,K,r,H=>by
   rw[FI];simp only[Aac (show ¬ (x:Int)<((l.length:Nat):Int) by omega),By];rw[Ac5 (by omega)];exact ⟨Z,rfl,h,Su.refl _ _ _,by simp⟩
 | n+1,x,f+1,Z,out,h,a,hb,K,r,H=>by
   obtain ⟨b,e,N,_⟩:=a.ld (x:=x) (by omega);have P:=h.tl;have w:=hb b (Nu e);have O:=qSu x l.length (by omega);have Q:=wSu x (by omega);have hd:l.drop x=l.getD x 0::l.drop (x+1):=by
    rw[Ac2 (by omega),Abi,Aaj (by omega)]; rfl
   rw[hd,Ad4];rw[FI];simp only[Aad (show (x:Int)<((l.length:Nat):Int) by omega),IS,Ae,Ez,AI];have i:∃ y z,((bif i1 == (0:Int) then (if (16:Int)=0 then none else if (16:Int)=0 then none else (CX (Z++[Au.cells [qIi i1,qIi 0,qIi (x:Int)] Am true]) Z.length (0+1) (qIi (Ar ((x:Int).tdiv (16:Int))))).bind fun D=>(CX D Z.length (0+2) (qIi ((x:Int).tmod (16:Int)))).bind fun E=>some (.normal,[],E)) else (some (.normal,[],Z++[Au.cells [qIi i1,qIi 0,qIi (x:Int)] Am true])):Option Bq))=some (.normal,[],Z++[Au.cells [qIi i1,qIi y,qIi z] Am true]):=by
    cases h0:i1 == (0:Int) with
    | true=>
      simp only[IS,show ((16:Int)=0)=False from by simp,Abs];refine ⟨Ar ((x:Int).tdiv 16),(x:Int).tmod 16, ?_⟩;simp only[CX,Abv,Ada,Adn,IN,show 1<0+1+1+1 from by omega,Aah,AI,Aen,Ae9];rw[Ae1 _ _ (Abp _)];simp
    | false=>exact ⟨0,(x:Int),rfl⟩
   obtain ⟨y,z,M⟩:=i;rw[M];obtain ⟨B,G⟩:∃ B,Au.cells [qIi i1,qIi y,qIi z] Am true=B:=⟨_,rfl⟩;have h1:=h.app [B];have c:=a.app [B];have m:Aj .i64 (Z++[B]) b x=some (l.getD x 0):=by rw[HJ _ _ _ (by omega)]; exact N
   have f1:Su h3 top Z (Z++[B]):=Su.app P _;rw[G];simp only[AI,Aah,O,e,IT,Acu,IN,m,Q];by_cases s:l.getD x 0=0
   ·have L:JJ out (l.getD x 0)=out:=by unfold JJ; rw[Abm (.inl s)]
    rw[L];obtain ⟨d,p,t,f2,S⟩:=Qy k A i1 sl l I n (x+1) f _ out h1 c hb (by omega) (by omega) (by omega);rw[e] at p;refine ⟨d, ?_,t,f1.trans f2,by omega⟩;rw[show (l.getD x 0 != 0)=false from by rw[s]; rfl];simp only[By,AI];exact p
   ·have g:∀ o v,o<3->[i1,y,z][o]?=some v->Aj .i64 (Z++[B]) Z.length o=some v:=by
     intro o v r C;rw[<- G,Bt]
     match o,r with
     | 0,_=>cases C; rfl
     | 1,_=>cases C; rfl
     | 2,_=>cases C; rfl
    obtain ⟨Z2_,p,t,f2⟩:=mG k h1 (by omega) A i1 y z m s w.2.2;have j:Bh Z2_ sl l:=c.Aw fun q J=>f2.same q (hb q J).1 (hb q J).2.1;have hlen:(JJ out (l.getD x 0)).length<=out.length+1:=by
     unfold JJ; split
     ·omega
     ·simp
    obtain ⟨d,F,u,f3,T⟩:=Qy k A i1 sl l I n (x+1) f _ _ t j hb (by omega) (by omega) (by omega);rw[e] at F;refine ⟨d, ?_,u,(f1.trans f2).trans f3,by omega⟩;rw[show (l.getD x 0 != 0)=true from Adp.2 s];simp only[IS,g 0 i1 (by omega) rfl,g 1 y (by omega) rfl,g 2 z (by omega) rfl,AI];rw[Mt _ _ _ _ _ _ _ _ h1.rc,p];simp only[AI,An,Abr,By];exact F
theorem j8 (k:Nat) (hk:1000<k) (h:Ha J p r):∃ τ s,Dc (k+6) (F6 p) J=some (.slice s.1 s.2.1 s.2.2,J++τ)/\Bh (J++τ) s (Bf r) /\ ∀ b ∈ hs s,J.length<=b:=by
 have f:=h.ok;have N:=f.sl;have aa:=f.m4;have hg:=f.gl;have e:=f.qu;have x:=h.lt;rw[R8];have em:Bi (k+5) (F6 p) J=_:=Ni (k+4) h;simp only[em,AI,An,Abr,By,Ae];rw[NA];simp only[Ae,AI,kz,IS];rw[JK];rw[LZ];simp only[Ae];obtain ⟨u,l⟩:∃ O,Au.cells [.slice none 0 0] FP true=O:=⟨_,rfl⟩;obtain ⟨O2,m⟩:∃ O,Au.cells [qVi (F6 p)] FM true=O:=⟨_,rfl⟩;obtain ⟨O3,n⟩:∃ O,Au.loop 168 .ready (Hf 0 26 [(3,qVi (some ⟨J.length,0,none⟩))])=O:=⟨_,rfl⟩;rw[l,m,n];obtain ⟨Z,z⟩:∃ Z,J++[u]++[O2]++[O3]=Z:=⟨_,rfl⟩;have lm:Z.length=J.length+3:=by rw[<- z]; simp
 have d:Z=J++[u,O2,O3]:=by rw[<- z]; simp
 have lb:(J++[u]++[O2]).length=J.length+2:=by simp
 have la:(J++[u]).length=J.length+1:=by simp
 rw[z,lb,la];have g:Ha Z p r:=by rw[d]; exact h.app _
 have B:B7 Z (J.length+1) 0=some (F6 p):=by
  rw[d];simp only[B7,CV];rw[Acr (by omega),show J.length+1-J.length=1 from by omega];simp only[Acj,Ach,<- m];rfl
 simp only[AI,B,IN,Abn,g.EX,g.UH,g.cq];obtain ⟨O4,o⟩:∃ O,Au.cells [.slice p.s1.1 p.s1.2.1 p.s1.2.2,.slice p.s2.1 p.s2.2.1 p.s2.2.2,.slice p.s3.1 p.s3.2.1 p.s3.2.2] FP true=O:=⟨_,rfl⟩;rw[o];have c:Ha (Z++[O4]) p r:=g.app _;have T:aC (Z++[O4]) J.length (J.length+2) (J.length+3) []:=by
  refine ⟨⟨(none,0,0), ?_,Bh.nil _,fun b hb=>by simp[hs] at hb⟩, ?_,by omega,by omega,by omega,by simp[lm]⟩
  ·rw[d,Aae,Acr (Abp _),Afb,<- l]; rfl
  ·rw[d,Aae,Acr (by omega),show J.length+2-J.length=2 from by omega,<- n]; rfl
 have I:(Z++[O4])[J.length+3]?=some O4:=by rw[<- lm]; simp
 have a:∀ b ∈ p.l,b<=J.length+3/\b≠J.length/\b≠J.length+2:=fun b hb=>by have:=x b hb; omega
 have f1:=c.sl.form;have f2:=c.gl.form;have f3:=c.qu.form;have all:r.all.length<=144:=by unfold D3.all; rw[Abe,Abe]; omega
 obtain ⟨Z1_,K,S1,F1,Q⟩:=Qy (k+1) (by omega) (h3:=J.length) (h6:=J.length+2) (top:=J.length+3) 0 p.s1 r.sl (by omega) r.sl.length 0 (k+4) _ [] T c.sl (fun b hb=>a b (p.m1 hb)) (by omega) (by simp; omega) (by omega);have k1:∀ q ∈ p.l,Z1_[q]?=(Z++[O4])[q]?:=fun q e=>F1.same q (a q e).1 (a q e).2.1;have S:=c.Aw k1;have d1:Z1_[J.length+3]?=some O4:=(F1.same _ (Abp _) (by omega)).trans I;obtain ⟨Z2_,L,S2,F2,n2⟩:=Qy (k+1) (by omega) (h3:=J.length) (h6:=J.length+2) (top:=J.length+3) 1 p.s2 r.gl (by omega) r.gl.length 0 (k+4) _ _ S1 S.gl (fun b hb=>a b (p.m2 hb)) (by omega) (by simp at Q ⊢; omega) (by omega);have k2:∀ q ∈ p.l,Z2_[q]?=Z1_[q]?:=fun q e=>F2.same q (a q e).1 (a q e).2.1;have p2:=S.Aw k2;have d2:Z2_[J.length+3]?=some O4:=(F2.same _ (Abp _) (by omega)).trans d1;obtain ⟨Z3_,M,S3,F3,n3⟩:=Qy (k+1) (by omega) (h3:=J.length) (h6:=J.length+2) (top:=J.length+3) 2 p.s3 r.qu (by omega) r.qu.length 0 (k+4) _ _ S2 p2.qu (fun b hb=>a b (p.m3 hb)) (by omega) (by simp at Q n2 ⊢; omega) (by omega);have j:((List.drop 0 r.qu).foldl JJ ((List.drop 0 r.gl).foldl JJ ((List.drop 0 r.sl).foldl JJ [])))=Bf r:=by
  unfold Bf D3.all;simp only[Ac6,Afq]
 rw[j] at S3;have v:∀ (ν:Aa),ν[J.length+3]?=some O4->Bd ν (J.length+3) 0=some (p.s1.1,p.s1.2.1,p.s1.2.2)/\Bd ν (J.length+3) 1=some (p.s2.1,p.s2.2.1,p.s2.2.2)/\Bd ν (J.length+3) 2=some (p.s3.1,p.s3.2.1,p.s3.2.2):=by
  intro ν hν;simp[Bd,CV,hν,<- o,Ej]
 have w1:Ar ((0:Int)+1)=1:=by decide
 have w2:Ar ((1:Int)+1)=2:=by decide
 have w3:Ar ((2:Int)+1)=3:=by decide
 have C:p.s1.2.1=r.sl.length:=by rw[f1]
 have D:p.s1.2.2=r.sl.length:=by rw[f1]
 have E:p.s2.2.1=r.gl.length:=by rw[f2]
 have F:p.s2.2.2=r.gl.length:=by rw[f2]
 have G:p.s3.2.1=r.qu.length:=by rw[f3]
 have H:p.s3.2.2=r.qu.length:=by rw[f3]
 rw[show ((0:Nat):Int)=0 from rfl] at K L M;have X:Dg (k+4) (k+4) (.func (.yield (J.length+2)) #[] #[]) (J.length+3) ((3:Nat):Int) 0 (Z++[O4])=some (.exit 0,[],Z3_):=by
  obtain ⟨U,_,_⟩:=v _ I;obtain ⟨_,V,_⟩:=v _ d1;obtain ⟨_,_,W⟩:=v _ d2;rw[BO];simp only[show decide ((0:Int)<((3:Nat):Int))=true from rfl,IS,show ((0:Int)<=0/\(0:Int)<((3:Nat):Int))=True from by simp,Aah,Afc,Adw,IN,U,AI,C,D,K,w1];rw[BO];simp only[show decide ((1:Int)<((3:Nat):Int))=true from rfl,IS,show ((0:Int)<=1/\(1:Int)<((3:Nat):Int))=True from by simp,Aah,show (1:Int).toNat=1 from rfl,Acu,IN,V,AI,E,F,L,w2];rw[BO];simp only[show decide ((2:Int)<((3:Nat):Int))=true from rfl,IS,show ((0:Int)<=2/\(2:Int)<((3:Nat):Int))=True from by simp,Aah,show (2:Int).toNat=2 from rfl,Acu,IN,W,AI,G,H,M,w3];rw[BO];simp only[show decide ((3:Int)<((3:Nat):Int))=false from rfl,By]
 obtain ⟨s,t,w,i⟩:=S3.box;have y:=S3.rc;have P:Z.length+1<=Z3_.length:=by
  have Y:=F1.len;have g2:=F2.len;have g3:=F3.len;simp at Y;omega
 obtain ⟨τ,A⟩:∃ τ,Z3_.set (J.length+2) .dead=J++τ:=by
  refine GA (by simp; omega) fun q e=>?_;rw[Aaf (by omega),F3.same q (by omega) (by omega),F2.same q (by omega) (by omega),F1.same q (by omega) (by omega),d,Aae,AT e]
 refine ⟨τ,s, ?_, ?_,fun b hb=>by have:=i b hb; omega⟩
 ·rw[lm];simp only[X,Aah,AI];unfold OU;rw[y];have:Bd (Z3_.set (J.length+2) .dead) J.length 0=some (s.1,s.2.1,s.2.2):=by
   simp only[Bd,CV];rw[Aaf (by omega),t];rfl
  rw[A] at this;simp only[Aah,A,this,AI]
 ·rw[<- A];exact w.Aw fun q e=>Aaf (by have:=i q e; omega)
end
section
variable {J:Aa} {m:HM} {r:D3} {s:TC} {i:Cp} {p:PI}
structure CI where
 cb:Nat
 tb:Nat
 wb:Nat
 ls:Bv
 lf:Bv
def CI.l (c:CI):List Nat:=c.cb::c.tb::c.wb::(hs c.ls++hs c.lf)
structure Aai (c:CI):Prop where
 ab:c.cb≠c.tb
 ac:c.cb≠c.wb
 bc:c.tb≠c.wb
 al:∀ q ∈ hs c.ls,q≠c.cb/\q≠c.tb/\q≠c.wb/\q ∉ hs c.lf
 ar:∀ q ∈ hs c.lf,q≠c.cb/\q≠c.tb/\q≠c.wb
def GD (c:CI) (hb rb:Nat) (s:TC):List Value:=[qVi (some ⟨hb,0,none⟩),qVi (some ⟨rb,0,none⟩),.bool s.look,qIi s.born,qIi s.ph,qVi (some ⟨c.tb,0,none⟩),.slice c.ls.1 c.ls.2.1 c.ls.2.2,.slice c.lf.1 c.lf.2.1 c.lf.2.2,qIi s.freed]
structure Gi (J:Aa) (c:CI) (hb rb nb:Nat) (s:TC):Prop where
 cell:J[c.cb]?=some (.cells (GD c hb rb s) Hu true)
 tab:DF J c.tb c.wb (32*nb) 2 s.ws
 ls:Bh J c.ls s.list
 lf:Bh J c.lf s.left
 sep:Aai c
variable {c:CI} {hb rb nb:Nat}
abbrev D2 (c:CI):qOi:=some ⟨c.cb,0,none⟩
theorem CI.m0 (c:CI):c.cb ∈ c.l:=Ac0
theorem CI.m1 (c:CI):c.tb ∈ c.l:=Abx _ Ac0
theorem CI.m2 (c:CI):c.wb ∈ c.l:=Abx _ (Abx _ Ac0)
theorem CI.m3 (c:CI) {q:Nat} (h:q ∈ hs c.ls):q ∈ c.l:=Abx _ (Abx _ (Abx _ (Aag.2 (.inl h))))
theorem CI.m4 (c:CI) {q:Nat} (h:q ∈ hs c.lf):q ∈ c.l:=Abx _ (Abx _ (Abx _ (Aag.2 (.inr h))))
theorem CI.mem {c:CI} {q:Nat} (h:q ∈ c.l):q=c.cb\/q=c.tb\/q=c.wb\/q ∈ hs c.ls\/q ∈ hs c.lf:=by
 unfold CI.l at h;simp only[Acv,Aag] at h;exact h
theorem Gi.Aw {J':Aa} (h:Gi J c hb rb nb s) (a:∀ q ∈ c.l,J'[q]?=J[q]?):Gi J' c hb rb nb s:=
 ⟨(a _ c.m0).trans h.cell,h.tab.same (a _ c.m1) (a _ c.m2),h.ls.Aw fun b hb=>a b (c.m3 hb),h.lf.Aw fun b hb=>a b (c.m4 hb),h.sep⟩
theorem Gi.lt (h:Gi J c hb rb nb s):∀ q ∈ c.l,q<J.length:=by
 intro q a;rcases CI.mem a with rfl | rfl | rfl | a | a
 ·exact Af h.cell
 ·exact h.tab.lt.1
 ·exact h.tab.lt.2
 ·exact h.ls.lt q a
 ·exact h.lf.lt q a
theorem Gi.app (h:Gi J c hb rb nb s) (τ:Aa):Gi (J++τ) c hb rb nb s:=h.Aw fun q a=>AT (h.lt q a)
theorem Gi.HI (h:Gi J c hb rb nb s):B7 J c.cb 0=some (some ⟨hb,0,none⟩):=by simp[B7,CV,h.cell,GD,HO]
theorem Gi.EX (h:Gi J c hb rb nb s):B7 J c.cb 1=some (some ⟨rb,0,none⟩):=by simp[B7,CV,h.cell,GD,HO]
theorem Gi.UH (h:Gi J c hb rb nb s):Vu J c.cb 2=some s.look:=by simp[Vu,CV,h.cell,GD,Dk]
theorem Gi.dW (h:Gi J c hb rb nb s):Aj .i64 J c.cb 4=some s.ph:=by simp[Aj,CV,h.cell,GD,Bl]
theorem Gi.ld5 (h:Gi J c hb rb nb s):B7 J c.cb 5=some (some ⟨c.tb,0,none⟩):=by simp[B7,CV,h.cell,GD,HO]
theorem Gi.ux (h:Gi J c hb rb nb s):Bd J c.cb 6=some (c.ls.1,s.list.length,s.list.length):=by
 have:=h.ls.form;have a:c.ls.2.1=s.list.length:=by rw[this]
 have b:c.ls.2.2=s.list.length:=by rw[this]
 simp[Bd,CV,h.cell,GD,Ej,a,b]
theorem Gi.ld7 (h:Gi J c hb rb nb s):Bd J c.cb 7=some (c.lf.1,s.left.length,s.left.length):=by
 have:=h.lf.form;have a:c.lf.2.1=s.left.length:=by rw[this]
 have b:c.lf.2.2=s.left.length:=by rw[this]
 simp[Bd,CV,h.cell,GD,Ej,a,b]
theorem Gi.ld8 (h:Gi J c hb rb nb s):Aj .i64 J c.cb 8=some s.freed:=by simp[Aj,CV,h.cell,GD,Bl]
theorem Gi.ae {Z:Aa} {c c':CI} {s':TC} (f:c'.tb=c.tb) (g:c'.wb=c.wb) (a:c'.cb=c.cb) (e:c.cb<Z.length) (d:DF Z c'.tb c'.wb (32*nb) 2 s'.ws) (ls:Bh Z c'.ls s'.list) (h:Bh Z c'.lf s'.left) (sep:Aai c'):Gi (Z.set c.cb (.cells (GD c' hb rb s') Hu true)) c' hb rb nb s':=by
 refine ⟨by rw[a,Abq e],d.same ?_ ?_,ls.Aw fun q b=>?_,h.Aw fun q b=>?_,sep⟩
 ·rw[<- a]; exact Aaf sep.ab
 ·rw[<- a]; exact Aaf sep.ac
 ·rw[<- a]; exact Aaf (sep.al q b).1.symm
 ·rw[<- a]; exact Aaf (sep.ar q b).1.symm
theorem Gi.vl (h:Gi J c hb rb nb s) (v:Int):∃ J',CX J c.cb 4 (qIi v)=some J'/\Gi J' c hb rb nb { s with ph:=v }/\Mv c.l c.l J J':=by
 refine ⟨J.set c.cb (.cells (GD c hb rb { s with ph:=v }) Hu true),by simp[CX,h.cell,GD],Gi.ae rfl rfl rfl (Af h.cell) h.tab h.ls h.lf h.sep,Mv.set _ _ c.m0⟩
theorem Gi.lQ (h:Gi J c hb rb nb s) (v:Int):∃ J',CX J c.cb 8 (qIi v)=some J'/\Gi J' c hb rb nb { s with freed:=v }/\Mv c.l c.l J J':=by
 refine ⟨J.set c.cb (.cells (GD c hb rb { s with freed:=v }) Hu true),by simp[CX,h.cell,GD],Gi.ae rfl rfl rfl (Af h.cell) h.tab h.ls h.lf h.sep,Mv.set _ _ c.m0⟩
theorem CI.Abk {c:CI} {s':Bv} {L:List Nat} {a b:Aa} (h:Mv L (hs s') a b) (e:∀ q ∈ L,q ∈ c.l):Mv c.l ({ c with ls:=s' }:CI).l a b:=
 h.wide e fun q d=>by
  rcases CI.mem d with rfl | rfl | rfl | d | d
  ·exact .inl c.m0
  ·exact .inl c.m1
  ·exact .inl c.m2
  ·exact .inr (.inl d)
  ·exact .inl (c.m4 d)
theorem CI.Abj {c:CI} {s':Bv} {L:List Nat} {a b:Aa} (h:Mv L (hs s') a b) (e:∀ q ∈ L,q ∈ c.l):Mv c.l ({ c with lf:=s' }:CI).l a b:=
 h.wide e fun q d=>by
  rcases CI.mem d with rfl | rfl | rfl | d | d
  ·exact .inl c.m0
  ·exact .inl c.m1
  ·exact .inl c.m2
  ·exact .inl (c.m3 d)
  ·exact .inr (.inl d)
theorem Gi.qe {Z:Aa} (h:Gi J c hb rb nb s) {s':Bv} {g:List Int} {L:List Nat} (f:∀ q ∈ L,q ∈ hs c.ls) (hm:Mv L (hs s') J Z) (i:Bh Z s' g):
  ∃ J',CX Z c.cb 6 (.slice s'.1 s'.2.1 s'.2.2)=some J'/\Gi J' { c with ls:=s' } hb rb nb { s with list:=g }/\Mv c.l ({ c with ls:=s' }:CI).l J J':=by
 have lt:=h.lt;have d:∀ q ∈ L,q≠c.cb/\q≠c.tb/\q≠c.wb/\q ∉ hs c.lf:=fun q b=>h.sep.al q (f q b);have cell:Z[c.cb]?=_:=hm.IX h.cell fun a=>(d _ a).1 rfl;have new:∀ q ∈ hs s',q ∈ hs c.ls\/J.length<=q:=fun q b=>(hm.new q b).imp (f q) id;refine ⟨Z.set c.cb (.cells (GD { c with ls:=s' } hb rb { s with list:=g }) Hu true),by simp[CX,cell,GD], ?_,(CI.Abk hm fun q b=>c.m3 (f q b)).trans (Mv.set _ _ (CI.m0 { c with ls:=s' }))⟩;refine Gi.ae (c:=c) rfl rfl rfl (Af cell) (h.tab.same (hm.same _ h.tab.lt.1 fun a=>(d _ a).2.1 rfl) (hm.same _ h.tab.lt.2 fun a=>(d _ a).2.2.1 rfl)) i (h.lf.Aw fun q b=>hm.same q (h.lf.lt q b) fun a=>(d q a).2.2.2 b) ⟨h.sep.ab,h.sep.ac,h.sep.bc,fun q b=>?_,h.sep.ar⟩;rcases new q b with h1 | h1
 ·exact h.sep.al q h1
 ·refine ⟨?_, ?_, ?_, ?_⟩
  ·have:=lt _ c.m0; intro e; have e:q=c.cb:=e; omega
  ·have:=lt _ c.m1; intro e; have e:q=c.tb:=e; omega
  ·have:=lt _ c.m2; intro e; have e:q=c.wb:=e; omega
  ·intro a; have:=h.lf.lt q a; omega
theorem Gi.qc {Z:Aa} (h:Gi J c hb rb nb s) {s':Bv} {g:List Int} {L:List Nat} (d:∀ q ∈ L,q ∈ hs c.lf) (hm:Mv L (hs s') J Z) (m:Bh Z s' g):
  ∃ J',CX Z c.cb 7 (.slice s'.1 s'.2.1 s'.2.2)=some J'/\Gi J' { c with lf:=s' } hb rb nb { s with left:=g }/\Mv c.l ({ c with lf:=s' }:CI).l J J':=by
 have lt:=h.lt;have f:∀ q ∈ L,q≠c.cb/\q≠c.tb/\q≠c.wb/\q ∉ hs c.ls:=fun q b=>⟨(h.sep.ar q (d q b)).1,(h.sep.ar q (d q b)).2.1,(h.sep.ar q (d q b)).2.2,fun a=>(h.sep.al q a).2.2.2 (d q b)⟩;have cell:Z[c.cb]?=_:=hm.IX h.cell fun a=>(f _ a).1 rfl;have new:∀ q ∈ hs s',q ∈ hs c.lf\/J.length<=q:=fun q b=>(hm.new q b).imp (d q) id;refine ⟨Z.set c.cb (.cells (GD { c with lf:=s' } hb rb { s with left:=g }) Hu true),by simp[CX,cell,GD], ?_,(CI.Abj hm fun q b=>c.m4 (d q b)).trans (Mv.set _ _ (CI.m0 { c with lf:=s' }))⟩;refine Gi.ae (c:=c) rfl rfl rfl (Af cell) (h.tab.same (hm.same _ h.tab.lt.1 fun a=>(f _ a).2.1 rfl) (hm.same _ h.tab.lt.2 fun a=>(f _ a).2.2.1 rfl)) (h.ls.Aw fun q b=>hm.same q (h.ls.lt q b) fun a=>(f q a).2.2.2 b) m ⟨h.sep.ab,h.sep.ac,h.sep.bc,fun q b=>?_,fun q b=>?_⟩
 ·obtain ⟨i,j,k,l⟩:=h.sep.al q b;refine ⟨i,j,k,fun a=>?_⟩;rcases new q a with h1 | h1
  ·exact l h1
  ·have:=h.ls.lt q b; omega
 ·rcases new q b with h1 | h1
  ·exact h.sep.ar q h1
  ·refine ⟨?_, ?_, ?_⟩
   ·have:=lt _ c.m0; intro e; have e:q=c.cb:=e; omega
   ·have:=lt _ c.m1; intro e; have e:q=c.tb:=e; omega
   ·have:=lt _ c.m2; intro e; have e:q=c.wb:=e; omega
theorem Gi.vp {J':Aa} {ws:List (BitVec 64)} (h:Gi J c hb rb nb s) (e:DF J' c.tb c.wb (32*nb) 2 ws) (hm:Mv [c.tb,c.wb] [c.tb,c.wb] J J'):Gi J' c hb rb nb { s with ws:=ws }/\Mv c.l c.l J J':=by
 have b:∀ q,q≠c.tb->q≠c.wb->q ∉ [c.tb,c.wb]:=fun q h1 d a=>by simp at a; exact a.elim h1 d
 refine ⟨⟨hm.IX h.cell (b _ h.sep.ab h.sep.ac),e,h.ls.Aw fun q a=>hm.same q (h.ls.lt q a) (b _ (h.sep.al q a).2.1 (h.sep.al q a).2.2.1),h.lf.Aw fun q a=>hm.same q (h.lf.lt q a) (b _ (h.sep.ar q a).2.1 (h.sep.ar q a).2.2),h.sep⟩,hm.wide (fun q a=>?_) fun q a=>.inl a⟩;simp at a;rcases a with rfl | rfl
 ·exact c.m1
 ·exact c.m2
theorem Aca (a:Addr):Ll P PS (qVi (some a)) (qVi none)=some false:=by kernel_rfl
theorem Aa1 (a:Addr):Ll P EY (qVi (some a)) (qVi none)=some false:=by kernel_rfl
theorem KH (k:Nat) (h:Gi J c hb rb nb s):AP (k+1) (D2 c) J=some (.bool true,J):=by
 rw[Wh];simp only[Aca,AI,Ac7,IS,IN,Abn,h.HI,Aa1]
theorem yo (k:Nat) (h:Gi J c hb rb nb s) {j:Nat} (d:j<32*nb):CE (k+4) (D2 c) ((2*j:Nat):Int) J=some (qIi (CG 2 s.ws j:Int),J):=by
 have e:=h.tab.top;have a:((2*j:Nat):Int).tdiv 2=(j:Int):=by
  rw[show ((2:Int))=((2:Nat):Int) from rfl,Z2]; congr 1; omega
 have b:Ar (j:Int)=(j:Int):=Ai (by unfold AO; omega);rw[Yh];simp only[AI,IN,Abn,h.ld5,show ((2:Int)=0)=False from by simp,Abs,a,b,mB k h.tab,Ah];rw[Abm (by omega),IT]
theorem nT (k:Nat) (h:Gi J c hb rb m.bls.length s) {a:Int} (b:Ax m a=true):CE (k+4) (D2 c) a J=some (qIi (C9 s a:Int),J):=by
 obtain ⟨j,rfl,hs⟩:=AV b;rw[yo k h hs.1];unfold C9;rw[show ((2*j:Nat):Int).toNat/2=j from by omega]
theorem cM (k:Nat) (h:Gi J c hb rb nb s) {j v:Nat} (f:j<32*nb) (g:v<4):∃ J',CM (k+10) (D2 c) ((2*j:Nat):Int) (v:Int) J=some (.tuple #[],J')/\Gi J' c hb rb nb (Eb s ((2*j:Nat):Int) v)/\Mv c.l c.l J J':=by
 have i:=h.tab.top;have b:((2*j:Nat):Int).tdiv 2=(j:Int):=by
  rw[show ((2:Int))=((2:Nat):Int) from rfl,Z2]; congr 1; omega
 have d:Ar (j:Int)=(j:Int):=Ai (by unfold AO; omega);obtain ⟨τ,es⟩:=aT k h.tab f (v:=v) g;have hp:=(h.tab.app τ).put h.sep.bc j v;obtain ⟨e,m'⟩:=h.vp hp (((Mv.app [c.wb] J τ).trans (Mv.set _ _ (Ac1.2 rfl))).wide (fun q a=>Abx _ a) fun q a=>.inl a);refine ⟨_, ?_, ?_,m'⟩
 ·rw[Vs];simp only[AI,IN,Abn,h.ld5,show ((2:Int)=0)=False from by simp,Abs,b,d,es,Ah]
 ·unfold Eb;rw[show ((2*j:Nat):Int).toNat/2=j from by omega];exact e
end
section
variable {J:Aa} {m:HM} {s:TC} {nb:Nat}
structure MK (m:HM):Prop where
 inv:Inv m
 inv2:Inv2 m
 sh:Sh m
 fz:FZ m
 b0:B0 m
 nb:2<=m.bls.length
 nt:m.bls.length<=64
theorem MK.new {n:Nat} (h2:2<=n) (h:n<=64):MK (JB n):=⟨Inv.new n,Inv2.new n,⟨by simp[JB],by simp[JB]; omega,by simp[JB]; omega⟩,FZ.new n,B0.new n,by simp[JB]; omega,by simp[JB]; omega⟩
theorem MK.bA (h:MK m) (b c x y a e:Int) (l:x≠0) (f:a≠0\/c=1):MK (BA m b c x y a e).2:=by
 have k:=Zg h.inv h.inv2 b c x y a e;obtain ⟨g,i,d,_⟩:=OA m b c x y a e;have j:(BA m b c x y a e).2.pnw=m.pnw:=by
  unfold BA;split
  ·split <;> rfl
  ·rfl
 exact ⟨k.inv,k.inv2,⟨by rw[g,d]; exact h.sh.wl,by rw[i,d]; exact h.sh.sl,by rw[j,d]; exact h.sh.pl⟩,re h.fz _ _ _ _ _ _ l f,(XO m b c x y a e).trans h.b0,by rw[d]; exact h.nb,by rw[d]; exact h.nt⟩
theorem MK.setRef (h:MK m) (a x v:Int):MK (BP m a x v).2:=by
 have k:=iT h.inv h.inv2 a x v;obtain ⟨b,c,_,_,d⟩:=Ny m a x v;have e:(BP m a x v).2.wds.length=m.wds.length:=by
  unfold BP;split
  ·split
   ·rfl
   ·show (m.wds.set _ _).length=_; rw[Ac8]
  ·rfl
 exact ⟨k.inv,k.inv2,⟨by rw[e,b]; exact h.sh.wl,by rw[c,b]; exact h.sh.sl,by rw[d,b]; exact h.sh.pl⟩,bX h.fz b,by unfold B0; rw[b]; exact h.b0,by rw[b]; exact h.nb,by rw[b]; exact h.nt⟩
theorem MK.Ww (h:MK m) (a:Int) (v:Nat):MK (MH m a v).2:=by
 have k:=sd h.inv h.inv2 a v;obtain ⟨b,c,d,_⟩:=Yv m a v;have e:(MH m a v).2.pnw.length=m.pnw.length:=by
  unfold MH; split
  ·exact Eg _ _ _ _
  ·rfl
 exact ⟨k.inv,k.inv2,⟨by rw[d,b]; exact h.sh.wl,by rw[c,b]; exact h.sh.sl,by rw[e,b]; exact h.sh.pl⟩,bX h.fz b,by unfold B0; rw[b]; exact h.b0,by rw[b]; exact h.nb,by rw[b]; exact h.nt⟩
theorem NC (h:Inv m) (c:Sh m) (a:Int):(Hs m a).2.bls=m.bls/\(Hs m a).2.stw.length=m.stw.length/\(Hs m a).2.pnw.length=m.pnw.length/\(Hs m a).2.wds.length=m.wds.length/\(Hs m a).2.fw=m.fw/\(Hs m a).2.births=m.births:=by
 unfold Hs;cases b:Ax m a with
 | false=>exact ⟨rfl,rfl,rfl,rfl,rfl,rfl⟩
 | true=>
   obtain ⟨j,rfl,hs⟩:=AV b;rw[Abm rfl,show ((2*j:Nat):Int).toNat/2=j from by omega];refine ⟨rfl,Eg _ _ _ _,Eg _ _ _ _, ?_,rfl,rfl⟩;show (Pd _ _ _).length=_;have:=h.fit j hs;rw[Mg (by simp; omega)]
theorem MK.kill (h:MK m) (a:Int):MK (Hs m a).2:=by
 have k:=nJ h.inv h.inv2 h.sh a;obtain ⟨b,c,d,e,_⟩:=NC h.inv h.sh a;exact ⟨k.inv,k.inv2,⟨by rw[e,b]; exact h.sh.wl,by rw[c,b]; exact h.sh.sl,by rw[d,b]; exact h.sh.pl⟩,bX h.fz b,by unfold B0; rw[b]; exact h.b0,by rw[b]; exact h.nb,by rw[b]; exact h.nt⟩
theorem da (m:HM) (b:Int):(CY m b).2.wds=m.wds/\(CY m b).2.stw=m.stw/\(CY m b).2.pnw=m.pnw/\(CY m b).2.fw=m.fw/\(CY m b).2.births=m.births/\B0 m->B0 (CY m b).2:=by
 intro hb;have h0:=hb.2.2.2.2.2;unfold CY;split
 ·split
  ·unfold B0;show ((cZ _ _ _).getD 0 (0,0)).1=0;rw[QW];split
   ·rfl
   ·exact h0
  ·exact h0
 ·exact h0
theorem Qr (m:HM) (b:Int):(CY m b).2.wds=m.wds/\(CY m b).2.stw=m.stw/\(CY m b).2.pnw=m.pnw/\(CY m b).2.fw=m.fw/\(CY m b).2.births=m.births:=by
 unfold CY;split
 ·split <;> exact ⟨rfl,rfl,rfl,rfl,rfl⟩
 ·exact ⟨rfl,rfl,rfl,rfl,rfl⟩
theorem MK.release (h:MK m) (b:Int):MK (CY m b).2:=by
 have k:=Nx h.inv h.inv2 b;obtain ⟨a,c,d,e,f⟩:=Qr m b;exact ⟨k.inv,k.inv2,⟨by rw[a,k.len]; exact h.sh.wl,by rw[c,k.len]; exact h.sh.sl,by rw[d,k.len]; exact h.sh.pl⟩,kY h.fz b,da m b ⟨a,c,d,e,f,h.b0⟩,by rw[k.len]; exact h.nb,by rw[k.len]; exact h.nt⟩
theorem PO (m:HM) (a r d c:Int):(CW m a r d c).2.2.bls=m.bls/\(CW m a r d c).2.2.pnw=m.pnw/\(CW m a r d c).2.2.fw=m.fw/\(CW m a r d c).2.2.wds.length=m.wds.length/\(CW m a r d c).2.2.stw.length=m.stw.length:=by
 unfold CW;split
 ·split
  ·exact ⟨rfl,rfl,rfl,by show ((m.wds.set _ _).set _ _).length=_; rw[Ac8,Ac8],Eg _ _ _ _⟩
  ·exact ⟨rfl,rfl,rfl,rfl,rfl⟩
 ·exact ⟨rfl,rfl,rfl,rfl,rfl⟩
theorem MK.place (h:MK m) (a r d c:Int):MK (CW m a r d c).2.2:=by
 have k:=Up h.inv h.inv2 h.sh a r d c;obtain ⟨b,e,_,f,g⟩:=PO m a r d c;exact ⟨k.inv,k.inv2,⟨by rw[f,b]; exact h.sh.wl,by rw[g,b]; exact h.sh.sl,by rw[e,b]; exact h.sh.pl⟩,bX h.fz b,by unfold B0; rw[b]; exact h.b0,by rw[b]; exact h.nb,by rw[b]; exact h.nt⟩
def bC (f:Nat->Bool) (n:Nat):Nat:=((List.range n).filter f).length
theorem U9 (f:Nat->Bool) (n:Nat):bC f (n+1)=bC f n+(if f n then 1 else 0):=by
 unfold bC;rw[Aga,Afl,Abe];cases a:f n <;> simp[a]
theorem oZ (f:Nat->Bool) (n:Nat):bC f n<=n:=by
 unfold bC;have:=Ae2 f (List.range n)
 rwa [Agf] at this
theorem XQ {f g:Nat->Bool}:∀ n,(∀ i,i<n->f i=true->g i=true)->bC f n<=bC g n
 | 0,_=>Abp _
 | n+1,h=>by
   rw[U9,U9];have:=XQ n fun i hi=>h i (by omega);have:=h n (by omega);cases a:f n <;> cases b:g n <;> simp_all <;> omega
theorem pa {f g:Nat->Bool} {j:Nat}:∀ n,j<n->(∀ i,i<n->f i=true->g i=true)->f j=false->g j=true->bC f n+1<=bC g n
 | 0,h,_,_,_=>by omega
 | n+1,h,hm,h1,a=>by
   rw[U9,U9];by_cases e:j=n
   ·subst e;have:=XQ j fun i hi=>hm i (by omega);rw[h1,a]; simp; omega
   ·have:=pa n (by omega) (fun i hi=>hm i (by omega)) h1 a;have:=hm n (by omega);cases b:f n <;> cases c:g n <;> simp_all <;> omega
def WU (nb:Nat) (ws:List (BitVec 64)):Nat:=bC (fun j=>decide (CG 2 ws j≠0)) (32*nb)
theorem Ox {ws:List (BitVec 64)} (c:ws.length=(32*nb*2+63)/64) {j v:Nat} (b:j<32*nb) (a:v<4) (y:Nat):CG 2 (F9 2 ws j v) y=if y=j then v else CG 2 ws y:=by
 by_cases e:y=j
 ·subst e;rw[Abm rfl,ER (.inr (.inl rfl)) a (by omega)]
 ·rw[Abo e,Cc (.inr (.inl rfl)) a (Ac9 e)]
theorem UA {ws:List (BitVec 64)} (b:ws.length=(32*nb*2+63)/64) {j v:Nat} (a:j<32*nb) (c:v<4) (h0:v≠0):WU nb ws<=WU nb (F9 2 ws j v)/\(CG 2 ws j=0->WU nb ws+1<=WU nb (F9 2 ws j v)):=by
 have key:∀ i,i<32*nb->decide (CG 2 ws i≠0)=true->decide (CG 2 (F9 2 ws j v) i≠0)=true:=fun i _ h=>by
  rw[Ox b a c];split
  ·exact Aad h0
  ·exact h
 refine ⟨XQ _ key,fun d=>pa _ a key ?_ ?_⟩
 ·simp[d]
 ·rw[Ox b a c,Abm rfl]; exact Aad h0
structure Qw (nb:Nat) (s:TC):Prop where
 wl:s.ws.length=(32*nb*2+63)/64
 ls:s.list.length<=WU nb s.ws
 lr:∀ v ∈ s.list,0<=v/\v<4096
 lf:s.left.length<=64
 l0:s.ph≠2->s.left=[]
 s2:s.ph=2->s.list=[]
theorem Qw.len (h:Qw nb s):s.list.length<=32*nb:=Adj h.ls (oZ _ _)
theorem Qw.cK (h:Qw nb s) {j v:Nat} (a:j<32*nb) (b:v<4) (h0:v≠0):Qw nb (Eb s ((2*j:Nat):Int) v):=by
 have e:((2*j:Nat):Int).toNat/2=j:=by omega
 unfold Eb;rw[e];exact ⟨by rw[<- h.wl]; exact Eg _ _ _ _,Adj h.ls (UA h.wl a b h0).1,h.lr,h.lf,h.l0,h.s2⟩
theorem Qw.vu (h:Qw m.bls.length s) (g:m.bls.length<=64) (hp:s.ph≠2) (a:Int):Qw m.bls.length (Cu m s a):=by
 unfold Cu;split
 ·rename_i d;obtain ⟨j,rfl,hs⟩:=AV d.1;have e:((2*j:Nat):Int).toNat/2=j:=by omega
  have c:=d.2;unfold C9 at c;rw[e] at c;have f:=hs.1;have:=h.cK f (v:=1) (by decide) (by decide);refine ⟨this.wl, ?_,fun v b=>?_,h.lf,h.l0,fun e=>absurd e hp⟩
  ·show (s.list++_).length<=WU _ (F9 2 s.ws _ 1);rw[e,Abe];have:=(UA h.wl f (v:=1) (by decide) (by decide)).2 c;have:=h.ls;simp;omega
  ·rcases Aag.1 b with b | b
   ·exact h.lr v b
   ·rw[Ac1.1 b]; omega
 ·exact h
theorem Nl (m:HM) (s:TC) (a:Int):(Cu m s a).ph=s.ph/\(Cu m s a).left=s.left/\(Cu m s a).look=s.look/\(Cu m s a).freed=s.freed/\(Cu m s a).born=s.born:=by
 unfold Cu; split <;> exact ⟨rfl,rfl,rfl,rfl,rfl⟩
theorem Ff (m:HM):∀ (l:List Int) (s:TC),(AM m s l).ph=s.ph/\(AM m s l).left=s.left/\(AM m s l).look=s.look/\(AM m s l).freed=s.freed/\(AM m s l).born=s.born
 | [],s=>⟨rfl,rfl,rfl,rfl,rfl⟩
 | a::l,s=>by
   obtain ⟨h1,g,h,i,h5⟩:=Ff m l (Cu m s a);obtain ⟨b,c,d,e,f⟩:=Nl m s a;exact ⟨h1.trans b,g.trans c,h.trans d,i.trans e,h5.trans f⟩
theorem Qw.Kj (b:m.bls.length<=64):∀ (l:List Int) (s:TC),Qw m.bls.length s->s.ph≠2->Qw m.bls.length (AM m s l)
 | [],s,h,_=>h
 | a::l,s,h,hp=>Qw.Kj b l (Cu m s a) (h.vu b hp a) (by rw[(Nl m s a).1]; exact hp)
end
section
variable {J:Aa} {m:HM} {r:D3} {s:TC} {i:Cp} {p:PI} {c:CI}
structure Lc (J:Aa) (i:Cp) (p:PI) (c:CI) (m:HM) (r:D3) (s:TC):Prop where
 h:Al J i m
 mo:MK m
 rt:Ha J p r
 co:Gi J c i.hb p.rb m.bls.length s
 fp:Fp J [i.l,p.l,c.l]
 tok:Qw m.bls.length s
theorem Lc.app (T:Lc J i p c m r s) (τ:Aa):Lc (J++τ) i p c m r s:=⟨T.h.app τ,T.mo,T.rt.app τ,T.co.app τ,T.fp.app τ,T.tok⟩
theorem Lc.Qe {J':Aa} {c':CI} {s':TC} (T:Lc J i p c m r s) (a:Gi J' c' i.hb p.rb m.bls.length s') (hm:Mv c.l c'.l J J') (b:Qw m.bls.length s'):Lc J' i p c' m r s':=by
 obtain ⟨f,k,_⟩:=T.fp.step 2 (by simp) hm a.lt;exact ⟨T.h.Aw (k 0 (by simp) (by decide)),T.mo,T.rt.Aw (k 1 (by simp) (by decide)),a,f,b⟩
theorem Lc.fK {J':Aa} {m':HM} (T:Lc J i p c m r s) (a:Al J' i m') (hm:Br i J J') (d:MK m') (b:m'.bls.length=m.bls.length):Lc J' i p c m' r s:=by
 obtain ⟨f,k,_⟩:=T.fp.step 0 (by simp) hm.mv a.lt;refine ⟨a,d,T.rt.Aw (k 1 (by simp) (by decide)), ?_,f,by rw[b]; exact T.tok⟩;rw[b];exact T.co.Aw (k 2 (by simp) (by decide))
theorem Lc.Aw {J':Aa} (T:Lc J i p c m r s) (b:J.length<=J'.length) (h1:∀ q ∈ i.l,J'[q]?=J[q]?) (h2:∀ q ∈ p.l,J'[q]?=J[q]?) (h3:∀ q ∈ c.l,J'[q]?=J[q]?):Lc J' i p c m r s:=
 ⟨T.h.Aw h1,T.mo,T.rt.Aw h2,T.co.Aw h3,⟨T.fp.dj,fun L a q d=>Acz (T.fp.lt L a q d) b⟩,T.tok⟩
theorem WM (k:Nat) (T:Lc J i p c m r s) (hp:s.ph≠2) (a:Int) (C:AO a):∃ J' g,BV (k+11) (D2 c) a J=some (.tuple #[],J')/\Lc J' i p g m r (Cu m s a)/\Mv c.l g.l J J'/\g.cb=c.cb:=by
 have hlen:=T.tok.len;have n:=T.mo.nt;have b:=T.tok.vu n hp a;rw[Vq];have z:Bc (k+10) (AU i) a J=_:=Te (k+6) T.h a C;simp only[AI,IN,Abn,T.co.HI,z,An];cases e:Ax m a with
 | false=>
   simp only[By,AI,Aah];unfold Cu at b ⊢;rw[Abo (fun d=>by rw[e] at d; cases d.1)] at b ⊢;exact ⟨J,c,rfl,T,Mv.refl _ _,rfl⟩
 | true=>
   have A:CE (k+10) (D2 c) a J=_:=nT (k+6) T.co e;simp only[IS,A,AI,Ah];by_cases f:C9 s a=0;rotate_left
   ·rw[show ((C9 s a:Int) == 0)=false from by simpa using f];simp only[By,AI,Aah];unfold Cu at b ⊢;rw[Abo (fun d=>f d.2)] at b ⊢;exact ⟨J,c,rfl,T,Mv.refl _ _,rfl⟩
   ·rw[show ((C9 s a:Int) == 0)=true from by simpa using f];obtain ⟨j,rfl,hs⟩:=AV e;obtain ⟨J1_,x,h1,u⟩:=cM k T.co hs.1 (v:=1) (by decide);obtain ⟨s',Z,t,o,E⟩:=h1.ls.push ((2*j:Nat):Int) Ak (by show s.list.length<=_; omega);have f1:c.ls.2.1=s.list.length:=by have:=h1.ls.form; rw[this]; rfl
    have f2:c.ls.2.2=s.list.length:=by have:=h1.ls.form; rw[this]; rfl
    rw[f1,f2] at t;obtain ⟨J',y,B,w⟩:=h1.qe (fun q D=>D) E o;unfold Cu at b ⊢;rw[Abm ⟨e,f⟩] at b ⊢;refine ⟨J',_, ?_,T.Qe B (u.trans w) b,u.trans w,rfl⟩;have d6:=h1.ux;have l:CM (k+10) (D2 c) ((2*j:Nat):Int) (1:Int) J=some (.tuple #[],J1_):=x;have h:Bd J1_ c.cb 6=some (c.ls.1,s.list.length,s.list.length):=d6;simp only[IS,l,AI,Gg,h,Ae,t,y,Aah]
theorem Xq (k:Nat) {sl:Bv} {l:List Int} (F:l.length<=100000) (y:∀ v ∈ l,AO v) (g:Nat):∀ (n x f:Nat) (J:Aa) (c:CI) (s:TC),Lc J i p c m r s->c.cb=g->s.ph≠2->Bh J sl l->(∀ q ∈ hs sl,q ∉ c.l)->x+n=l.length->n<f ->
  ∃ J' d,Fz (k+11) f (some ⟨g,0,none⟩) sl.1 l.length l.length ((l.length:Nat):Int) (x:Int) J=some (.exit 0,[],J')/\Lc J' i p d m r (AM m s (l.drop x))/\Mv c.l d.l J J'/\d.cb=g
 | n,x,0,J,c,s,T,h,hp,a,o,z,w=>by omega
 | 0,x,f+1,J,c,s,T,h,hp,a,o,z,w=>by
   rw[Md];simp only[Aac (show ¬ (x:Int)<((l.length:Nat):Int) by omega),By];rw[Ac5 (by omega)];exact ⟨J,c,rfl,T,Mv.refl _ _,h⟩
 | n+1,x,f+1,J,c,s,T,h,hp,a,o,z,w=>by
   obtain ⟨b,e,I,_⟩:=a.ld (x:=x) (by omega);have L:=qSu x l.length (by omega);have M:=wSu x (by omega);have hd:l.drop x=l.getD x 0::l.drop (x+1):=by
    rw[Ac2 (by omega),Abi,Aaj (by omega)]; rfl
   have t:AO (l.getD x 0):=by
    rw[Abi,Aaj (show x<l.length by omega)]; exact y _ (Ac4 _)
   obtain ⟨J1_,D,E,T1,A,B⟩:=WM k T hp (l.getD x 0) t;obtain ⟨G,H,_⟩:=A.DN (X:=hs sl) a.lt o;obtain ⟨J',d,u,T2,K,C⟩:=Xq k F y g n (x+1) f J1_ D _ T1 (B.trans h) (by rw[(Nl m s _).1]; exact hp) (a.Aw G) H (by omega) (by omega);refine ⟨J',d, ?_,by rw[hd]; exact T2,A.trans K,C⟩;rw[Md];have j:BV (k+11) (some ⟨g,0,none⟩) (l.getD x 0) J=some (.tuple #[],J1_):=by rw[<- h]; exact E
   rw[e] at u;simp only[Aad (show (x:Int)<((l.length:Nat):Int) by omega),IS,L,Aah,e,AI,IT,Acu,IN,I,M,j,Gg,u]
theorem QK (k:Nat) {sl:Bv} {l:List Int} (F:l.length<=100000) (y:∀ v ∈ l,AO v) (g:Nat):∀ (n x f:Nat) (J:Aa) (c:CI) (s:TC),Lc J i p c m r s->c.cb=g->s.ph≠2->Bh J sl l->(∀ q ∈ hs sl,q ∉ c.l)->x+n=l.length->n<f ->
  ∃ J' d,D8 (k+11) f (some ⟨g,0,none⟩) sl.1 l.length l.length ((l.length:Nat):Int) (x:Int) J=some (.exit 2,[],J')/\Lc J' i p d m r (AM m s (l.drop x))/\Mv c.l d.l J J'/\d.cb=g
 | n,x,0,J,c,s,T,h,hp,a,o,z,w=>by omega
 | 0,x,f+1,J,c,s,T,h,hp,a,o,z,w=>by
   rw[Km];simp only[Aac (show ¬ (x:Int)<((l.length:Nat):Int) by omega),By];rw[Ac5 (by omega)];exact ⟨J,c,rfl,T,Mv.refl _ _,h⟩
 | n+1,x,f+1,J,c,s,T,h,hp,a,o,z,w=>by
   obtain ⟨b,e,I,_⟩:=a.ld (x:=x) (by omega);have L:=qSu x l.length (by omega);have M:=wSu x (by omega);have hd:l.drop x=l.getD x 0::l.drop (x+1):=by
    rw[Ac2 (by omega),Abi,Aaj (by omega)]; rfl
   have t:AO (l.getD x 0):=by
    rw[Abi,Aaj (show x<l.length by omega)]; exact y _ (Ac4 _)
   obtain ⟨J1_,D,E,T1,A,B⟩:=WM k T hp (l.getD x 0) t;obtain ⟨G,H,_⟩:=A.DN (X:=hs sl) a.lt o;obtain ⟨J',d,u,T2,K,C⟩:=QK k F y g n (x+1) f J1_ D _ T1 (B.trans h) (by rw[(Nl m s _).1]; exact hp) (a.Aw G) H (by omega) (by omega);refine ⟨J',d, ?_,by rw[hd]; exact T2,A.trans K,C⟩;rw[Km];have j:BV (k+11) (some ⟨g,0,none⟩) (l.getD x 0) J=some (.tuple #[],J1_):=by rw[<- h]; exact E
   rw[e] at u;simp only[Aad (show (x:Int)<((l.length:Nat):Int) by omega),IS,L,Aah,e,AI,IT,Acu,IN,I,M,j,Gg,u]
theorem dH (k:Nat) {sl:Bv} {l:List Int} (F:l.length<=100000) (y:∀ v ∈ l,AO v) (g:Nat):∀ (n x f:Nat) (J:Aa) (c:CI) (s:TC),Lc J i p c m r s->c.cb=g->s.ph≠2->Bh J sl l->(∀ q ∈ hs sl,q ∉ c.l)->x+n=l.length->n<f ->
  ∃ J' d,G8 (k+11) f (some ⟨g,0,none⟩) sl.1 l.length l.length ((l.length:Nat):Int) (x:Int) J=some (.exit 1,[],J')/\Lc J' i p d m r (AM m s (l.drop x))/\Mv c.l d.l J J'/\d.cb=g
 | n,x,0,J,c,s,T,h,hp,a,o,z,w=>by omega
 | 0,x,f+1,J,c,s,T,h,hp,a,o,z,w=>by
   rw[MU];simp only[Aac (show ¬ (x:Int)<((l.length:Nat):Int) by omega),By];rw[Ac5 (by omega)];exact ⟨J,c,rfl,T,Mv.refl _ _,h⟩
 | n+1,x,f+1,J,c,s,T,h,hp,a,o,z,w=>by
   obtain ⟨b,e,I,_⟩:=a.ld (x:=x) (by omega);have L:=qSu x l.length (by omega);have M:=wSu x (by omega);have hd:l.drop x=l.getD x 0::l.drop (x+1):=by
    rw[Ac2 (by omega),Abi,Aaj (by omega)]; rfl
   have t:AO (l.getD x 0):=by
    rw[Abi,Aaj (show x<l.length by omega)]; exact y _ (Ac4 _)
   obtain ⟨J1_,D,E,T1,A,B⟩:=WM k T hp (l.getD x 0) t;obtain ⟨G,H,_⟩:=A.DN (X:=hs sl) a.lt o;obtain ⟨J',d,u,T2,K,C⟩:=dH k F y g n (x+1) f J1_ D _ T1 (B.trans h) (by rw[(Nl m s _).1]; exact hp) (a.Aw G) H (by omega) (by omega);refine ⟨J',d, ?_,by rw[hd]; exact T2,A.trans K,C⟩;rw[MU];have j:BV (k+11) (some ⟨g,0,none⟩) (l.getD x 0) J=some (.tuple #[],J1_):=by rw[<- h]; exact E
   rw[e] at u;simp only[Aad (show (x:Int)<((l.length:Nat):Int) by omega),IS,L,Aah,e,AI,IT,Acu,IN,I,M,j,Gg,u]
theorem kD (h:r.ok):∀ v ∈ Bf r,AO v:=by
 intro v b;rcases fY v r.all [] b with a | a
 ·cases a
 ·exact (h.inn v a).1
theorem fX (h:r.ok):(Bf r).length<=144:=by
 have key:∀ (l out:List Int),(l.foldl JJ out).length<=out.length+l.length:=by
  intro l
  induction l with
  | nil=>intro out; simp
  | cons a l b=>
    intro out;have:=b (JJ out a);have:(JJ out a).length<=out.length+1:=by
     unfold JJ; split
     ·omega
     ·simp
    simp only[Ad4,Ada];omega
 have:=key r.all [];have h1:=h.sl; have c:=h.gl; have d:=h.qu; have e:=h.m4;unfold Bf;unfold D3.all at this ⊢;simp only[Abe,Adn] at this;omega
theorem gx (k:Nat) (n:1000<k) (T:Lc J i p c m r s) (hp:s.ph≠2):∃ J' a,EI (k+12) (D2 c) J=some (.tuple #[],J')/\Lc J' i p a m r (AM m s (Bf r))/\Mv c.l a.l J J'/\a.cb=c.cb:=by
 have hlen:=fX T.rt.ok;obtain ⟨τ,e,h,li,new⟩:=j8 (k+5) (by omega) T.rt;have b:Dc (k+11) (F6 p) J=_:=h;have T1:=T.app τ;obtain ⟨J',a,d,T2,l,g⟩:=Xq k (by omega) (kD T.rt.ok) c.cb (Bf r).length 0 (k+11) (J++τ) c s T1 rfl hp li (fun q j hm=>by have:=new q j; have:=T.co.lt q hm; omega) (by omega) (by omega);rw[show ((0:Nat):Int)=0 from rfl] at d;have f:=li.form;have f1:e.2.1=(Bf r).length:=by rw[f]
 have f2:e.2.2=(Bf r).length:=by rw[f]
 refine ⟨J',a, ?_,T2,(Mv.app c.l J τ).trans l,g⟩;rw[TW];simp only[AI,IN,Abn,T.co.EX,b,Ej,f1,f2,d,Aah]
theorem aj (k:Nat) (T:Lc J i p c m r s) (a:Int) (e:AO a):CN (k+5) (D2 c) a J=some (.bool (Bz m s a),J):=by
 rw[Wk];have b:Bc (k+4) (AU i) a J=_:=Te k T.h a e;simp only[AI,IN,Abn,T.co.HI,b,An];unfold Bz;cases f:Ax m a with
 | false=>simp only[By,AI,Ags]
 | true=>
   have d:CE (k+4) (D2 c) a J=_:=nT k T.co f;simp only[IS,d,AI,Ah,Afw];by_cases g:C9 s a=0 <;> simp[g]
end
section
variable {J:Aa} {m:HM} {r:D3} {s:TC} {i:Cp} {p:PI} {c:CI}
theorem ib (k:Nat) (x y:Int) (J:Aa):FE (k+1) x y J=some (.bool (Ee x y),J):=by
 rw[ZH];unfold Ee;by_cases h0:y=0
 ·subst h0;by_cases h1:x=1
  ·subst h1; rfl
  ·by_cases a:x=2
   ·subst a; rfl
   ·rw[show (x == 1)=false from by simpa using h1,show (x == 2)=false from by simpa using a]; simp[h1,a]
 ·rw[show (y == 0)=false from by simpa using h0];by_cases h1:y=1
  ·subst h1;by_cases a:x=2
   ·subst a; rfl
   ·rw[show (x == 2)=false from by simpa using a]; simp[a]
  ·rw[show (y == 1)=false from by simpa using h1]; simp[h0,h1]
theorem jd (v w:Value):an (.tuple #[v,w])=some [v,w]:=rfl
theorem P6 (k:Nat) (h:Al J i m) (a:Int) (b:AO a):∃ τ,AK (k+6) (AU i) a J=some (.tuple #[.agg #[qIi (Ag m a).1,qIi (Ag m a).2.1,qIi (Ag m a).2.2],qIi (if Ax m a then 0 else 4)],J++τ):=by
 obtain ⟨τ,e⟩:=wC k h a b;rw[lW] at e;exact ⟨τ,e⟩
theorem gX (k:Nat) (h:Al J i m) (a:Int) (b:AO a):∃ τ,ET (k+7) (AU i) a J=some (qIi (Ag m a).2.2,J++τ):=by
 obtain ⟨τ,e⟩:=P6 k h a b;refine ⟨τ++[Au.cells [qIi (Ag m a).1,qIi (Ag m a).2.1,qIi (Ag m a).2.2] Ad true], ?_⟩;rw[ZF];simp only[e,AI,jd,Ada,Adn,IN,Nat.reduceAdd,Aah,Aeo,Aeu,H5,Ah,Ae,Ez,Bt,Ach,Acj,Aae]
theorem sj {b x n:Nat} {row:List Value} {T:TypeId} (v:Int) (c:J[b]?=some (.cells row Ak true)) (g:row.length=n) (e:x<n):
  AG P Ak (some ⟨b,0,none⟩,x,n) (some ⟨J.length,0,none⟩,1,1) (J++[.cells [qIi v] T true])=some ((some ⟨b,0,none⟩,x+1,n),(J++[Au.cells [qIi v] T true]).set b (.cells (row.set x (qIi v)) Ak true)):=by
 have hb:=Af c;have a:(J++[Au.cells [qIi v] T true])[b]?=some (.cells row Ak true):=by rw[AT hb]; exact c
 have d:CZ (J++[.cells [qIi v] T true]) 1 (some ⟨J.length,0,none⟩) 1=some [qIi v]:=by simp[CZ,Nh]
 have f:(¬ (Gn (qIi 0)=false/\some 1=some (Value.cells (qIi 0)).size/\0<(Value.cells (qIi 0)).size))=False:=by simp[Gn,Value.cells]
 unfold AG LB;simp only[vE,ub,ta,AI,d,f,Abs,Abm (show x+1<=n from e),HQ,Aem,By,IN,Acu];simp only[H0,a,Ada,Adn,IN];rw[Abm (by omega),X2 _ _ _ (by omega)];rfl
theorem aS (k:Nat) (a:Int) (u:AO a) {nn b:Nat} (G:nn<=200):∀ (n x f:Nat) (Z:Aa) (row:List Value),Al Z i m->Inv m->b ∉ i.l->Z[b]?=some (.cells row Ak true)->row.length=nn->row.take x=Bm ((List.range x).map fun (x:Nat)=>AA m a (x:Int))->x+n=nn->n<f ->
  ∃ d,HZ (k+7) f (AU i) a (nn:Int) (some ⟨b,0,none⟩,x,nn) (x:Int) Z=some (.exit 0,[.slice (some ⟨b,0,none⟩) nn nn],d)/\d[b]?=some (.cells (Bm ((List.range nn).map fun (x:Nat)=>AA m a (x:Int))) Ak true)/\Mv [b] [b] Z d
 | n,x,0,Z,row,h,o,hb,g,p,l,y,v=>by omega
 | 0,x,f+1,Z,row,h,o,hb,g,p,l,y,v=>by
   rw[OL];have e:x=nn:=by omega
   subst e;simp only[Aac (show ¬ (x:Int)<(x:Int) by omega),By];rw[Ado (by omega)] at l;exact ⟨Z,rfl,by rw[g,l],Mv.refl _ _⟩
 | n+1,x,f+1,Z,row,h,o,hb,g,p,l,y,v=>by
   have K:=wSu x (by omega);obtain ⟨τ,B⟩:=Vw k h o a (x:Int) u;have h1:=h.app τ;have j:(Z++τ)[b]?=some (.cells row Ak true):=by rw[AT (Af g)]; exact g
   have C:=sj (T:=Ak) (AA m a (x:Int)) j p (show x<nn by omega);obtain ⟨Z1_,c⟩:∃ Z1_,(Z++τ++[Au.cells [qIi (AA m a (x:Int))] Ak true]).set b (.cells (row.set x (qIi (AA m a (x:Int)))) Ak true)=Z1_:=⟨_,rfl⟩;have F:=Af j;have z:Mv [b] [b] Z Z1_:=by
    rw[<- c];exact ((Mv.app [b] Z τ).trans (Mv.app [b] _ _)).trans (Mv.set _ _ (Ac1.2 rfl))
   have E:Al Z1_ i m:=h.Aw fun q w=>z.same q (h.lt q w) fun hm=>hb (by rw[<- Ac1.1 hm]; exact w);have s:Z1_[b]?=some (.cells (row.set x (qIi (AA m a (x:Int)))) Ak true):=by
    rw[<- c,Abq (by rw[Abe]; omega)]
   obtain ⟨d,D,A,H⟩:=aS k a u G n (x+1) f Z1_ _ E o hb s (by rw[Ac8]; exact p) (by
    rw[Aga,Aex,KM,<- l];apply Ady;intro q;have t:(row.take x).length=x:=by rw[Adc]; omega
    rw[Ads,Ad2];by_cases I:q<x
    ·rw[Abm (by omega),Abo (by omega),AT (by omega),Ads,Abm I]
    ·by_cases J:q=x
     ·subst J;rw[Abm (by omega),Abm rfl,Abm (by omega),Acr (by omega),t,Afb]; rfl
     ·rw[Abo (by omega),Acr (by omega),Adh (by simp[Bm]; omega)]) (by omega) (by omega);refine ⟨d, ?_,A,z.trans H⟩;rw[OL];have r:AL (k+7) (AU i) a (x:Int) Z=some (.tuple #[qIi (AA m a (x:Int)),qIi (K6 m a (x:Int) false).2],Z++τ):=B;simp only[Aad (show (x:Int)<(nn:Int) by omega),IS,r,AI,B9,Ae,C,c,K,D]
theorem wB (k:Nat) (K:1000<k) (h:Al J i m) (u:Inv m) (a:Int) (w:AO a):∃ τ s,KL (k+8) (AU i) a J=some (.slice s.1 s.2.1 s.2.2,J++τ)/\Bh (J++τ) s (Ur m a) /\ ∀ q ∈ hs s,J.length<=q:=by
 obtain ⟨g,j⟩:=P6 (k+1) h a w;obtain ⟨s1,s2,B,C⟩:=O7 u a;unfold Ur;generalize G:Ag m a=I at j s1 s2 B C;obtain ⟨A,F,H⟩:=I;dsimp only at j s1 s2 B C;obtain ⟨c,rfl⟩:∃ c:Nat,A=(c:Int):=⟨A.toNat,by omega⟩;obtain ⟨S,v⟩:∃ S,Au.cells [qIi (c:Int),qIi F,qIi H] Ad true=S:=⟨_,rfl⟩;obtain ⟨Z,e⟩:∃ Z,J++g++[S]=Z:=⟨_,rfl⟩;have lm:J.length<Z.length:=by rw[<- e,Abe,Abe,Ac3]; omega
 have f:Z=J++(g++[S]):=by rw[<- e,Aae]
 have d:Al Z i m:=by rw[f]; exact h.app _
 have o:Al (Z++[Au.cells (rep c [qIi 0]) Ak true]) i m:=d.app _;have y:∀ τ,Aj .i64 (Z++τ) (J++g).length 0=some (c:Int):=fun τ=>by
  rw[HJ _ _ _ (by rw[<- e]; simp),<- e,<- v,Bt]; rfl
 have r:Aj .i64 Z (J++g).length 0=some (c:Int):=by have:=y []; rwa [Abu] at this
 have n:Z.length ∉ i.l:=fun hm=>by have:=d.lt _ hm; omega
 obtain ⟨D,t,E,z⟩:=aS k a w (b:=Z.length) (show c<=200 by omega) c 0 (k+7) _ _ o u n (by rw[Abv]) (by rw[X0,Cj,Aej]) (by simp[Bm]) (by omega) (by omega);obtain ⟨τ,x⟩:∃ τ,D=J++τ:=by
  refine GA (by have:=z.len; simp at this; omega) fun q p=>?_;rw[z.same q (by simp; omega) (fun hm=>by have:=Ac1.1 hm; omega),AT (by omega),f,AT p]
 refine ⟨τ,(some ⟨Z.length,0,none⟩,c,c), ?_, ?_,fun q p=>by simp[hs] at p; omega⟩
 ·rw[ZG];have l:AK (k+7) (AU i) a J=_:=j;rw[show ((0:Nat):Int)=0 from rfl] at t;simp only[l,AI,jd,Ada,Adn,IN,Nat.reduceAdd,Aah,Aeo,Aeu,H5,Ah,Ae,Ez,v,e,r];rw[Abm (by omega)];simp only[IT,Afc,y,AI,t,Aah,x];rfl
 ·rw[<- x];exact .inl (.inr ⟨Z.length,by simp,Ade _,by simp[Bm],by rw[E]; rfl⟩)
end
section
variable {J:Aa} {m:HM} {r:D3} {s:TC} {i:Cp} {p:PI} {c:CI}
def jb (m:HM) (a:Int) (n:Nat):List Int:=((List.range n).filter fun (x:Nat)=>decide (AA m a (x:Int)≠0) && !Ee (Ag m a).2.2 (x:Int)).map fun (x:Nat)=>AA m a (x:Int)
theorem kW (n:Nat) (Q:Nat->Bool) (f:Nat->Int):((List.range (n+1)).filter Q).map f=((List.range n).filter Q).map f++(if Q n then [f n] else []):=by
 rw[Aga,Afl,Aex];congr 1;cases h:Q n <;> simp[h]
theorem Rh {ρ:Type} (a:qOi) (n c:Nat) (K:Bv->Option ρ):Sc [.slice a n c] K=K (a,n,c):=rfl
theorem sU (m:HM) (a:Int) (n:Nat):jb m a (n+1)=jb m a n++(if (decide (AA m a (n:Int)≠0) && !Ee (Ag m a).2.2 (n:Int)) then [AA m a (n:Int)] else []):=by
 exact kW n (fun (x:Nat)=>decide (AA m a (x:Int)≠0) && !Ee (Ag m a).2.2 (x:Int)) fun (x:Nat)=>AA m a (x:Int)
theorem mc (m:HM) (a:Int) (n:Nat):(jb m a n).length<=n:=by
 unfold jb;rw[Aee];have:=Ae2 (fun (x:Nat)=>decide (AA m a (x:Int)≠0) && !Ee (Ag m a).2.2 (x:Int)) (List.range n)
 rwa [Agf] at this
theorem Rm (k:Nat) (a:Int) {nn h0:Nat} (w:nn<=200) {sl:Bv} {rr dd:Int} {T:TypeId}:∀ (n x f:Nat) (Z:Aa) (o:Bv),Bh Z sl ((List.range nn).map fun (x:Nat)=>AA m a (x:Int))->Z[h0]?=some (.cells [qIi rr,qIi dd,qIi (Ag m a).2.2] T true)->Bh Z o (jb m a x)->h0 ∉ hs o->(∀ q ∈ hs sl,q ∉ hs o)->x+n=nn->n<f ->
  ∃ g o',FF (k+1) f h0 sl.1 nn nn (nn:Int) o (x:Int) Z=some (.exit 0,[.slice o'.1 o'.2.1 o'.2.2],g)/\Bh g o' (jb m a nn)/\Mv (hs o) (hs o') Z g
 | n,x,0,Z,o,h,hb,i,d0,d1,y,v=>by omega
 | 0,x,f+1,Z,o,h,hb,i,d0,d1,y,v=>by
   have e:x=nn:=by omega
   subst e;rw[N7];simp only[Aac (show ¬ (x:Int)<(x:Int) by omega),By];exact ⟨Z,o,rfl,i,Mv.refl _ _⟩
 | n+1,x,f+1,Z,o,h,hb,i,d0,d1,y,v=>by
   have hlen:((List.range nn).map fun (x:Nat)=>AA m a (x:Int)).length=nn:=by simp
   obtain ⟨b,e,A,_⟩:=h.ld (x:=x) (by omega);have G:((List.range nn).map fun (x:Nat)=>AA m a (x:Int)).getD x 0=AA m a (x:Int):=by
    rw[Abi,Ad5,Afe (by omega)]; rfl
   rw[G] at A;have K:(0<=(x:Int)/\(x:Int)<(nn:Int))=True:=Adk (by omega);have L:=wSu x (by omega);have F:Aj .i64 Z h0 2=some (Ag m a).2.2:=(Kk hb).2.2;have E:=mc m a x;have c:=sU m a x;rw[N7];simp only[Aad (show (x:Int)<(nn:Int) by omega),IS,K,Aah,e,AI,IT,Acu,IN,A,L,F,ib,An];have skip:(decide (AA m a (x:Int)≠0) && !Ee (Ag m a).2.2 (x:Int))=false -> ∃ g o',FF (k+1) f h0 (some ⟨b,0,none⟩) nn nn (nn:Int) (o.1,o.2.1,o.2.2) ((x+1:Nat):Int) Z=some (.exit 0,[.slice o'.1 o'.2.1 o'.2.2],g)/\Bh g o' (jb m a nn)/\Mv (hs o) (hs o') Z g:=fun d=>by
    rw[d] at c;simp only[Abz,Abs,Abu] at c;have z:=Rm k a w (sl:=sl) (rr:=rr) (dd:=dd) (T:=T) n (x+1) f Z o h hb (by rw[c]; exact i) d0 d1 (by omega) (by omega);rw[e] at z;exact z
   by_cases p:AA m a (x:Int)=0
   ·rw[show (AA m a (x:Int) != 0)=false from by rw[p]; rfl];simp only[By,AI,Aah,HS];exact skip (by rw[p]; rfl)
   ·rw[show (AA m a (x:Int) != 0)=true from Adp.2 p];simp only[IS,AI];cases d:Ee (Ag m a).2.2 (x:Int) with
    | true=>
      simp only[Abr,By,AI,Aah,HS];exact skip (by rw[d]; simp)
    | false=>
      rw[d] at c;rw[Aad p] at c;simp only[Ac7,Bool.and_self,Aah] at c;obtain ⟨t,Z1_,B,s,l⟩:=i.push (AA m a (x:Int)) Ak (by omega);have j:Bh Z1_ sl _:=h.Aw fun q d=>l.same q (h.lt q d) (d1 q d);have r:Z1_[h0]?=_:=l.IX hb d0;have I:h0 ∉ hs t:=fun hm=>(l.new h0 hm).elim d0 fun D=>by have:=Af hb; omega
      have J:∀ q ∈ hs sl,q ∉ hs t:=fun q d hm=>(l.new q hm).elim (d1 q d) fun D=>by have:=h.lt q d; omega
      obtain ⟨g,o',u,C,H⟩:=Rm k a w (sl:=sl) (rr:=rr) (dd:=dd) (T:=T) n (x+1) f Z1_ t j r (by rw[c]; exact s) I J (by omega) (by omega);rw[e] at u;refine ⟨g,o', ?_,C,l.trans H⟩;simp only[Ac7,IS,Ae,B,AI,Aah,HS,u]
theorem qK (k:Nat) (M:1000<k) (h:Al J i m) (z:Inv m) (a:Int) (B:AO a):∃ τ o,Jg (k+9) (AU i) a J=some (.slice o.1 o.2.1 o.2.2,J++τ)/\Bh (J++τ) o (DR m a) /\ ∀ q ∈ hs o,J.length<=q:=by
 obtain ⟨b,I⟩:=P6 (k+2) h a B;obtain ⟨s1,s2,P,Q⟩:=O7 z a;have l:∀ Z,Al Z i m -> ∃ τ s,KL (k+8) (AU i) a Z=some (.slice s.1 s.2.1 s.2.2,Z++τ)/\Bh (Z++τ) s (Ur m a) /\ ∀ q ∈ hs s,Z.length<=q:=fun Z d=>wB k M d z a B;have v:DR m a=jb m a (Ag m a).1.toNat:=rfl;have u:Ur m a=(List.range (Ag m a).1.toNat).map fun (x:Nat)=>AA m a (x:Int):=rfl;rw[v];rw[u] at l;obtain ⟨c,O⟩:∃ c:Nat,(Ag m a).1=(c:Int):=⟨(Ag m a).1.toNat,by omega⟩;have t:(Ag m a).1.toNat=c:=by omega
 rw[t] at l ⊢;obtain ⟨S,A⟩:∃ S,Au.cells [qIi (Ag m a).1,qIi (Ag m a).2.1,qIi (Ag m a).2.2] Ad true=S:=⟨_,rfl⟩;obtain ⟨Z,d⟩:∃ Z,J++b++[S]=Z:=⟨_,rfl⟩;have e:Z=J++(b++[S]):=by rw[<- d,Aae]
 have lm:(J++b).length<Z.length:=by rw[<- d]; simp
 have r:Al Z i m:=by rw[e]; exact h.app _
 obtain ⟨G,F,K,f,E⟩:=l Z r;have n:(Z++G)[(J++b).length]?=some (.cells [qIi (Ag m a).1,qIi (Ag m a).2.1,qIi (Ag m a).2.2] Ad true):=by
  rw[AT lm,<- d,Abv,A]
 obtain ⟨H,o',y,L,w⟩:=Rm (k+7) a (show c<=200 by omega) (h0:=(J++b).length) (T:=Ad) c 0 (k+8) (Z++G) (none,0,0) f n (Bh.nil _) (by simp[hs]) (fun q g hm=>by simp[hs] at hm) (by omega) (by omega);rw[show ((0:Nat):Int)=0 from rfl] at y;have C:=f.form;have f1:F.2.1=c:=by rw[C]; simp
 have f2:F.2.2=c:=by rw[C]; simp
 obtain ⟨τ,D⟩:∃ τ,H=J++τ:=by
  refine GA (by have:=w.len; simp at this lm; omega) fun q g=>?_;have N:(J++b).length=J.length+b.length:=Abe;rw[w.same q (by rw[Abe]; omega) (by simp[hs]),AT (by omega),e,AT g]
 refine ⟨τ,o', ?_,by rw[<- D]; exact L,fun q g=>?_⟩
 ·rw[WV];have j:AK (k+8) (AU i) a J=_:=I;simp only[j,AI,jd,Ada,Adn,IN,Nat.reduceAdd,Aah,Aeo,Aeu,H5,Ah,Ae,Ez,A,d,K,Ej,f1,f2,y,HS,D]
 ·have:=w.new q g;rcases this with p | p
  ·simp[hs] at p
  ·have N:(J++b).length=J.length+b.length:=Abe;rw[Abe] at p;omega
theorem rj (m:HM) (s:TC) (l:List Int) (a:Int):Qk m s (l++[a])=Qk m s l++(if Bz m s a && decide ((Ag m a).2.2=2) && Bz m s (AA m a 0) then [AA m a 1] else []):=by
 unfold Qk;rw[Afl,Aex];congr 1;cases b:(Bz m s a && decide ((Ag m a).2.2=2) && Bz m s (AA m a 0)) <;> simp[b]
theorem jW (m:HM) (s:TC) (l:List Int):(Qk m s l).length<=l.length:=by
 unfold Qk; rw[Aee]; exact Ae2 _ _
theorem UJ (hi:∀ a,AO (m.wds.getD a 0)) (a x:Int):AO (AA m a x):=by
 unfold AA K6;split
 ·exact hi _
 ·unfold AO; dsimp only; omega
theorem Yk (k:Nat) {sl:Bv} {l:List Int} (hl:l.length<=100000) (Q:∀ v ∈ l,AO v):∀ (n x f:Nat) (Z:Aa) (o:Bv),Lc Z i p c m r s->Bh Z sl l->Bh Z o (Qk m s (l.take x))->(∀ q ∈ hs o,q ∉ i.l/\q ∉ p.l/\q ∉ c.l/\q ∉ hs sl)->x+n=l.length->n<f ->
  ∃ u o',Cm (k+8) f (D2 c) sl.1 l.length l.length ((l.length:Nat):Int) o (x:Int) Z=some (.exit 0,[.slice o'.1 o'.2.1 o'.2.2],u)/\Bh u o' (Qk m s l)/\Mv (hs o) (hs o') Z u
 | n,x,0,Z,o,T,h,D,d,hx,X=>by omega
 | 0,x,f+1,Z,o,T,h,D,d,hx,X=>by
   rw[Kl];simp only[Aac (show ¬ (x:Int)<((l.length:Nat):Int) by omega),By];rw[Ado (by omega)] at D;exact ⟨Z,o,rfl,D,Mv.refl _ _⟩
 | n+1,x,f+1,Z,o,T,h,D,d,hx,X=>by
   obtain ⟨b,e,l1,_⟩:=h.ld (x:=x) (by omega);have qx:=qSu x l.length (by omega);have w1:=wSu x (by omega);have G:l[x]?=some (l.getD x 0):=by
    rw[Abi,Aaj (show x<l.length by omega)]; rfl
   have J:l.take (x+1)=l.take x++[l.getD x 0]:=by
    rw[Age,G]; rfl
   have w:AO (l.getD x 0):=Q _ (Afn G);generalize l.getD x 0=a at l1 J w;have t:=rj m s (l.take x) a;rw[<- J] at t;have aa:=jW m s (l.take x);have ab:(l.take x).length=x:=by rw[Adc]; omega
   have off:∀ Z1_,Mv (hs o) (hs o) Z Z1_->Lc Z1_ i p c m r s/\Bh Z1_ sl l:=fun Z1_ j=>⟨T.Aw j.len (fun q g=>j.same q (T.h.lt q g) fun hm=>(d q hm).1 g) (fun q g=>j.same q (T.rt.lt q g) fun hm=>(d q hm).2.1 g) (fun q g=>j.same q (T.co.lt q g) fun hm=>(d q hm).2.2.1 g),h.Aw fun q g=>j.same q (h.lt q g) fun hm=>(d q hm).2.2.2 g⟩;rw[Kl];have es:CN (k+8) (D2 c) a Z=_:=aj (k+3) T a w;simp only[Aad (show (x:Int)<((l.length:Nat):Int) by omega),IS,qx,Aah,e,AI,IT,Acu,IN,Abn,l1,w1,es,An];have skip:∀ τ,(Bz m s a && decide ((Ag m a).2.2=2) && Bz m s (AA m a 0))=false -> ∃ u o',Cm (k+8) f (D2 c) (some ⟨b,0,none⟩) l.length l.length ((l.length:Nat):Int) (o.1,o.2.1,o.2.2) ((x+1:Nat):Int) (Z++τ)=some (.exit 0,[.slice o'.1 o'.2.1 o'.2.2],u)/\Bh u o' (Qk m s l)/\Mv (hs o) (hs o') Z u:=fun τ g=>by
    rw[g] at t;simp only[Abz,Abs,Abu] at t;have j:=Mv.app (hs o) Z τ;obtain ⟨u,o',E,O,U⟩:=Yk k hl Q n (x+1) f (Z++τ) o (off _ j).1 (off _ j).2 (by rw[t]; exact D.app τ) d (by omega) (by omega);rw[e] at E;exact ⟨u,o',E,O,j.trans U⟩
   have y:=skip [];rw[Abu] at y;cases C:Bz m s a with
   | false=>
     simp only[Ac7,IS,AI];exact y (by rw[C]; rfl)
   | true=>
     obtain ⟨z,ek⟩:=gX (k+1) T.h a w;have K:ET (k+8) (AU i) a Z=_:=ek;simp only[Abr,By,AI,T.co.HI,K,Ah];by_cases A:(Ag m a).2.2=2;rotate_left
     ·rw[show ((Ag m a).2.2 != 2)=true from Adp.2 A];simp only[IS];exact skip z (by rw[C,Aac A]; rfl)
     ·rw[show ((Ag m a).2.2 != 2)=false from by rw[A]; rfl];have T1:=T.app z;obtain ⟨B,er⟩:=Vw (k+1) T1.h T.mo.inv a 0 w;have L:AL (k+8) (AU i) a 0 (Z++z)=some (.tuple #[qIi (AA m a 0),qIi (K6 m a 0 false).2],Z++z++B):=er;have T2:=T1.app B;have N:CN (k+8) (D2 c) (AA m a 0) (Z++z++B)=_:=aj (k+3) T2 _ (UJ T.h.wi a 0);simp only[By,T1.co.HI,AI,L,B9,N,An];cases I:Bz m s (AA m a 0) with
      | false=>
        simp only[By,AI,Aah,HS];rw[Aae];exact skip (z++B) (by rw[I,Bool.and_false])
      | true=>
        obtain ⟨W,M⟩:=Vw (k+1) T2.h T.mo.inv a 1 w;have F:AL (k+8) (AU i) a 1 (Z++z++B)=some (.tuple #[qIi (AA m a 1),qIi (K6 m a 1 false).2],Z++z++B++W):=M;have P:=((D.app z).app B).app W;obtain ⟨V,Z1_,e2,S,m2⟩:=P.push (AA m a 1) Ak (by omega);have j:Mv (hs o) (hs V) Z Z1_:=(((Mv.app (hs o) Z z).trans (Mv.app (hs o) _ B)).trans (Mv.app (hs o) _ W)).trans m2;have mo:=fun q (g:q ∈ hs V)=>j.new q g;rw[C,A,I] at t;simp only[Ag5,Bool.and_self,Aah] at t;have T3:Lc Z1_ i p c m r s:=T.Aw j.len (fun q g=>j.same q (T.h.lt q g) fun hm=>(d q hm).1 g) (fun q g=>j.same q (T.rt.lt q g) fun hm=>(d q hm).2.1 g) (fun q g=>j.same q (T.co.lt q g) fun hm=>(d q hm).2.2.1 g);have H:Bh Z1_ sl l:=h.Aw fun q g=>j.same q (h.lt q g) fun hm=>(d q hm).2.2.2 g;obtain ⟨u,o',E,O,U⟩:=Yk k hl Q n (x+1) f Z1_ V T3 H (by rw[t]; exact S) (fun q g=>by
         rcases mo q g with Y | Y
         ·exact d q Y
         ·exact ⟨fun hm=>by have:=T.h.lt q hm; omega,fun hm=>by have:=T.rt.lt q hm; omega,fun hm=>by have:=T.co.lt q hm; omega,fun hm=>by have:=h.lt q hm; omega⟩) (by omega) (by omega);rw[e] at E;refine ⟨u,o', ?_,O,j.trans U⟩;simp only[IS,T2.co.HI,AI,F,B9,Ae,e2,Aah,HS,E]
theorem ic (c:m.bls.length<=64):∀ v ∈ Ei m,AO v:=by
 intro v a;unfold Ei C7 at a;obtain ⟨j,b,rfl⟩:=Ad0.1 a;have:=(DO.1 b).1;unfold AO; omega
theorem Qx (a:m.bls.length<=64):(Ei m).length<=2048:=by
 unfold Ei C7 F8;rw[Aee];have:=Nn m 0 (32*m.bls.length);omega
theorem zr (k:Nat) (G:5000<=k) (T:Lc J i p c m r s) (hp:s.ph≠2):∃ J' e,Gk (k+12) (D2 c) J=some (.tuple #[],J')/\Lc J' i p e m r (RD m s)/\Mv c.l e.l J J'/\e.cb=c.cb:=by
 have h:=T.mo.nt;have C:=Qx h;obtain ⟨τ,sl,z,li⟩:=gV (k+5) (by omega) T.h;have n:Ca (k+11) (AU i) J=_:=z;have E:=li.ge;have li:Bh (J++τ) sl (Ei m):=Bh.ints li;have T1:=T.app τ;obtain ⟨Z,o,t,j,d⟩:=Yk (k+3) (by omega) (ic h) (Ei m).length 0 (k+11) (J++τ) (none,0,0) T1 li (Bh.nil _) (fun q b=>by simp[hs] at b) (by omega) (by omega);rw[show ((0:Nat):Int)=0 from rfl] at t;have T2:Lc Z i p c m r s:=T1.Aw d.len (fun q b=>d.same q (T1.h.lt q b) (by simp[hs])) (fun q b=>d.same q (T1.rt.lt q b) (by simp[hs])) (fun q b=>d.same q (T1.co.lt q b) (by simp[hs]));have D:=jW m s (Ei m);obtain ⟨J',e,u,T3,F,y⟩:=QK k (sl:=o) (l:=Qk m s (Ei m)) (by omega) (fun v x=>by
  unfold Qk at x;obtain ⟨a,_,rfl⟩:=Ad0.1 x;exact UJ T.h.wi a 1) c.cb (Qk m s (Ei m)).length 0 (k+11) Z c s T2 rfl hp j (fun q b hm=>by
   rcases d.new q b with w | w
   ·simp[hs] at w
   ·have:=T1.co.lt q hm; omega) (by omega) (by omega);rw[show ((0:Nat):Int)=0 from rfl] at u;have f:=li.form;have f1:sl.2.1=(Ei m).length:=by rw[f]
 have f2:sl.2.2=(Ei m).length:=by rw[f]
 have g:=j.form;have A:o.2.1=(Qk m s (Ei m)).length:=by rw[g]
 have B:o.2.2=(Qk m s (Ei m)).length:=by rw[g]
 refine ⟨J',e, ?_,T3,((Mv.app c.l J τ).trans (d.nil c.l |>.wide (fun q b=>b) fun q b=>.inl b)).trans F,y⟩;rw[Qj];simp only[AI,IN,Abn,T.co.HI,n,Ej,f1,f2,t,Aah,A,B,Rh,u]
end
section
variable {J:Aa} {m:HM} {r:D3} {s:TC} {i:Cp} {p:PI} {c:CI}
theorem PX (k:Nat) (a c:Int) (o:AO a) {nn:Int} (E:nn<=200) {h2:Nat} {rr dd:Int} {T:TypeId}:∀ (n x f:Nat) (acc:Int) (Z:Aa) (m:HM),Al Z i m->MK m->h2 ∉ i.l->Z[h2]?=some (.cells [qIi rr,qIi dd,qIi c] T true)->(x:Int)+n=nn->n<f ->
  ∃ d b,DZ (k+7) f (AU i) a h2 nn acc (x:Int) Z=some (.exit 0,[qIi b],d)/\Al d i (Sy a c n x m)/\MK (Sy a c n x m)/\(Sy a c n x m).bls.length=m.bls.length/\Br i Z d
 | n,x,0,acc,Z,m,h,j,e,p,F,D=>by omega
 | 0,x,f+1,acc,Z,m,h,j,e,p,F,D=>by
   rw[MO];simp only[Aac (show ¬ (x:Int)<nn by omega),By];exact ⟨Z,acc,rfl,h,j,rfl,Br.refl _ _⟩
 | n+1,x,f+1,acc,Z,m,h,j,e,p,F,D=>by
   have K:=wSu x (by omega);obtain ⟨τ,H⟩:=Vw k h j.inv a (x:Int) o;have t:AL (k+7) (AU i) a (x:Int) Z=some (.tuple #[qIi (AA m a (x:Int)),qIi (K6 m a (x:Int) false).2],Z++τ):=H;have h1:=h.app τ;have G:=Br.app i Z τ;have g:(Z++τ)[h2]?=_:=(AT (Af p)).trans p;have J:Aj .i64 (Z++τ) h2 2=some c:=(Kk g).2.2;rw[MO,Sy];have es:FE (k+7) c (x:Int) (Z++τ)=_:=ib (k+6) c (x:Int) _;simp only[Aad (show (x:Int)<nn by omega),IS,t,AI,B9,IN,J,es,An,K];have skip:¬ (AA m a (x:Int)≠0/\Ee c (x:Int)=true) -> ∃ d b,DZ (k+7) f (AU i) a h2 nn acc ((x+1:Nat):Int) (Z++τ)=some (.exit 0,[qIi b],d)/\Al d i (Sy a c n (x+1) (if AA m a (x:Int)≠0/\Ee c (x:Int)=true then (BP m a (x:Int) 0).2 else m))/\MK (Sy a c n (x+1) (if AA m a (x:Int)≠0/\Ee c (x:Int)=true then (BP m a (x:Int) 0).2 else m))/\(Sy a c n (x+1) (if AA m a (x:Int)≠0/\Ee c (x:Int)=true then (BP m a (x:Int) 0).2 else m)).bls.length=m.bls.length/\Br i Z d:=fun r=>by
    rw[Abo r];obtain ⟨d,b,u,v,w,y,z⟩:=PX k a c o E n (x+1) f acc (Z++τ) m h1 j e g (by omega) (by omega);exact ⟨d,b,u,v,w,y,G.trans z⟩
   by_cases s:AA m a (x:Int)=0
   ·rw[show (AA m a (x:Int) != 0)=false from by rw[s]; rfl];simp only[By,AI,Aah,Ey];exact skip (fun q=>q.1 s)
   ·rw[show (AA m a (x:Int) != 0)=true from Adp.2 s];simp only[IS,AI];cases r:Ee c (x:Int) with
    | false=>
      simp only[By,AI,Aah,Ey];have:=skip (fun q=>by rw[r] at q; cases q.2);rw[r] at this;exact this
    | true=>
      rw[Abm ⟨s,rfl⟩];obtain ⟨J1_,I,C,l⟩:=Ti k h1 j.inv a (x:Int) 0 o (by unfold AO; omega);have A:=j.setRef a (x:Int) 0;have B:J1_[h2]?=_:=(l.same h2 (Af g) e).trans g;obtain ⟨d,b,u,v,w,y,z⟩:=PX k a c o E n (x+1) f (Ar (acc+1)) J1_ _ C A e B (by omega) (by omega);refine ⟨d,b, ?_,v,w,by rw[y,(Ny m a (x:Int) 0).1],(G.trans l).trans z⟩;simp only[IS,I,AI,Ah,Aah,Ey,u]
theorem mz (k:Nat) (Q:1000<k) (h:Al J i m) (n:MK m) (a:Int) (B:AO a) (D:Value) (K:Int->Bool) (M:∀ τ v,AO v->GI (k+8) D [qIi v] (J++τ)=some (.bool (K v),J++τ)):
  ∃ J' P,JO (k+9) (AU i) a D J=some (qIi P,J') /\
   Al J' i (if (Ag m a).2.2≠1/\(Ag m a).2.2≠2 then m else if AA m a 0≠0/\K (AA m a 0)=true then m else Sy a (Ag m a).2.2 (Ag m a).1.toNat 0 m) /\
   MK (if (Ag m a).2.2≠1/\(Ag m a).2.2≠2 then m else if AA m a 0≠0/\K (AA m a 0)=true then m else Sy a (Ag m a).2.2 (Ag m a).1.toNat 0 m) /\
   (if (Ag m a).2.2≠1/\(Ag m a).2.2≠2 then m else if AA m a 0≠0/\K (AA m a 0)=true then m else Sy a (Ag m a).2.2 (Ag m a).1.toNat 0 m).bls.length=m.bls.length/\Br i J J':=by
 obtain ⟨b,I⟩:=P6 (k+2) h a B;have t:AK (k+8) (AU i) a J=_:=I;obtain ⟨s1,s2,W,X⟩:=O7 n.inv a;obtain ⟨S,E⟩:∃ S,Au.cells [qIi (Ag m a).1,qIi (Ag m a).2.1,qIi (Ag m a).2.2] Ad true=S:=⟨_,rfl⟩;have g:(J++b++[S])[(J++b).length]?=some (.cells [qIi (Ag m a).1,qIi (Ag m a).2.1,qIi (Ag m a).2.2] Ad true):=by
  rw[Abv,E]
 have H:=Kk g;obtain ⟨U,V,O⟩:=H;have e:J++b++[S]=J++(b++[S]):=Aae _ _ _;have h1:Al (J++b++[S]) i m:=by rw[e]; exact h.app _
 have F:Br i J (J++b++[S]):=by rw[e]; exact Br.app _ _ _
 rw[Wb];simp only[t,AI,jd,Ada,Adn,IN,Nat.reduceAdd,Aah,Aeo,Aeu,H5,Ah,Ae,Ez,E,O];by_cases j:(Ag m a).2.2≠1/\(Ag m a).2.2≠2
 ·rw[Abm j,Adp.2 j.1,Adp.2 j.2];simp only[IS,AI];exact ⟨_,0,rfl,h1,n,trivial,F⟩
 rw[Abo j];have hb:((bif ((Ag m a).2.2 != 1) then some (((Ag m a).2.2 != 2),J++b++[S]) else some (false,J++b++[S])):Option (Bool × Aa))=some (false,J++b++[S]):=by
  by_cases G:(Ag m a).2.2=1
  ·rw[G]; rfl
  ·have s:(Ag m a).2.2=2:=by
    by_cases s:(Ag m a).2.2=2
    ·exact s
    ·exact absurd ⟨G,s⟩ j
   rw[s]; rfl
 rw[hb];obtain ⟨d,L⟩:=Vw (k+1) h1 n.inv a 0 B;have w:AL (k+8) (AU i) a 0 (J++b++[S])=some (.tuple #[qIi (AA m a 0),qIi (K6 m a 0 false).2],J++b++[S]++d):=L;have h2:=h1.app d;have C:Br i J (J++b++[S]++d):=F.trans (Br.app _ _ _);have o:(J++b++[S]++d)[(J++b).length]?=_:=(AT (Af g)).trans g;have p:=(Kk o).1;simp only[AI,By,w,B9];have l:=M (b++[S]++d) (AA m a 0) (UJ h.wi a 0);rw[show J++(b++[S]++d)=J++b++[S]++d from by simp only[Aae]] at l;have go:¬ (AA m a 0≠0/\K (AA m a 0)=true) -> ∃ f c,DZ (k+8) (k+8) (AU i) a (J++b).length (Ag m a).1 0 0 (J++b++[S]++d)=some (.exit 0,[qIi c],f)/\Al f i (Sy a (Ag m a).2.2 (Ag m a).1.toNat 0 m)/\MK (Sy a (Ag m a).2.2 (Ag m a).1.toNat 0 m)/\(Sy a (Ag m a).2.2 (Ag m a).1.toNat 0 m).bls.length=m.bls.length/\Br i (J++b++[S]++d) f:=fun _=>
  PX (k+1) a (Ag m a).2.2 B s2 (h2:=(J++b).length) (T:=Ad) (Ag m a).1.toNat 0 (k+8) 0 (J++b++[S]++d) m h2 n (fun hm=>by have:=h.lt _ hm; rw[Abe] at this; omega) o (by omega) (by omega);by_cases r:AA m a 0=0
 ·have q:¬ (AA m a 0≠0/\K (AA m a 0)=true):=fun e=>e.1 r;rw[Abo q];obtain ⟨f,c,u,x,y,z,A⟩:=go q;refine ⟨f,c, ?_,x,y,z,C.trans A⟩;rw[show (AA m a 0 != 0)=false from by rw[r]; rfl];simp only[By,AI,p,u,Aah,Ey]
 ·rw[show (AA m a 0 != 0)=true from Adp.2 r];simp only[IS,l,AI,An];cases N:K (AA m a 0) with
  | true=>
    rw[Abm ⟨r,rfl⟩];simp only[IS];exact ⟨_,0,rfl,h2,n,trivial,C⟩
  | false=>
    have q:¬ (AA m a 0≠0/\K (AA m a 0)=true):=fun e=>by rw[N] at e; cases e.2
    rw[Abo (fun e=>by cases e.2)];obtain ⟨f,c,u,x,y,z,A⟩:=go q;refine ⟨f,c, ?_,x,y,z,C.trans A⟩;simp only[By,p,AI,u,Aah,Ey]
theorem mT (k:Nat) (a:qOi) (b:Int) (J:Aa):GI k (.func (.func 266) #[qVi a] #[]) [qIi b] J=CN k a b J:=by
 simp only[GI,CN,Ac]; kernel_rfl
theorem te (k:Nat) (l:1000<k) (T:Lc J i p c m r s) (a:Int) (j:AO a):∃ J' b,JX (k+10) (AU i) a (.func (.func 266) #[qVi (D2 c)] #[]) J=some (.bool b,J')/\Lc J' i p c (Qd m s a) r s/\Mv i.l i.l J J':=by
 obtain ⟨J',o,e,f,g,h,d⟩:=mz k l T.h T.mo a j (.func (.func 266) #[qVi (D2 c)] #[]) (Bz m s) (fun τ v n=>by
  rw[mT];exact aj (k+3) (T.app τ) v n);refine ⟨J',decide (o>0), ?_,T.fK f d g h,d.mv⟩;rw[XV];simp only[e,AI,Ah]
end
section
variable {J:Aa} {m:HM} {r:D3} {s:TC} {i:Cp} {p:PI} {c:CI}
theorem Wt (k:Nat) (o:1000<k) {sl:Bv} {l:List Int} (z:l.length<=100000) (u:∀ v ∈ l,AO v) (t:∀ q ∈ hs sl,q ∉ i.l):∀ (n x f:Nat) (J:Aa) (m:HM),Lc J i p c m r s->Bh J sl l->x+n=l.length->n<f ->
  ∃ J',G6 (k+10) f (D2 c) sl.1 l.length l.length ((l.length:Nat):Int) (x:Int) J=some (.exit 0,[],J')/\Lc J' i p c (IV m s (l.drop x)) r s/\Mv i.l i.l J J'
 | n,x,0,J,m,T,d,A,y=>by omega
 | 0,x,f+1,J,m,T,d,A,y=>by
   rw[MS];simp only[Aac (show ¬ (x:Int)<((l.length:Nat):Int) by omega),By];rw[Ac5 (by omega)];exact ⟨J,rfl,T,Mv.refl _ _⟩
 | n+1,x,f+1,J,m,T,d,A,y=>by
   obtain ⟨b,e,B,_⟩:=d.ld (x:=x) (by omega);have G:=qSu x l.length (by omega);have H:=wSu x (by omega);have hd:l.drop x=l.getD x 0::l.drop (x+1):=by
    rw[Ac2 (by omega),Abi,Aaj (by omega)]; rfl
   have g:AO (l.getD x 0):=by
    rw[Abi,Aaj (show x<l.length by omega)]; exact u _ (Ac4 _)
   rw[hd];show ∃ J',_/\Lc J' i p c ((l.drop (x+1)).foldl _ _) r s/\_;generalize l.getD x 0=a at B g;have es:CN (k+10) (D2 c) a J=_:=aj (k+5) T a g;rw[MS];simp only[Aad (show (x:Int)<((l.length:Nat):Int) by omega),IS,G,Aah,e,AI,IT,Acu,IN,Abn,B,H,es,An];cases E:Bz m s a with
   | false=>
     obtain ⟨J',h,T2,w⟩:=Wt k o z u t n (x+1) f J m T d (by omega) (by omega);rw[e] at h;refine ⟨J', ?_,T2,w⟩;simp only[By,AI,Aah,h]
   | true=>
     obtain ⟨J1_,I,D,T1,C⟩:=te k o T a g;have j:JX (k+10) (AU i) a (.func (.func 266) #[qVi (some ⟨c.cb,0,none⟩)] #[]) J=_:=D;obtain ⟨F,_,_⟩:=C.DN (X:=hs sl) d.lt t;obtain ⟨J',h,T2,w⟩:=Wt k o z u t n (x+1) f J1_ _ T1 (d.Aw F) (by omega) (by omega);rw[e] at h;refine ⟨J', ?_,T2,C.trans w⟩;simp only[IS,T.co.HI,AI,j,An,Aah,h]
def UN (m:HM) (n:Nat):List Int:=((List.range n).filter fun (b:Nat)=>decide (Cb m (b:Int)=1\/Cb m (b:Int)=2)).map fun (b:Nat)=>(b:Int)
theorem qW (m:HM) (n:Nat):UN m (n+1)=UN m n++(if decide (Cb m (n:Int)=1\/Cb m (n:Int)=2)=true then [(n:Int)] else []):=
 kW n (fun (b:Nat)=>decide (Cb m (b:Int)=1\/Cb m (b:Int)=2)) fun (b:Nat)=>(b:Int)
theorem jM (m:HM) (n:Nat):(UN m n).length<=n:=by
 unfold UN;rw[Aee];have:=Ae2 (fun (b:Nat)=>decide (Cb m (b:Int)=1\/Cb m (b:Int)=2)) (List.range n)
 rwa [Agf] at this
theorem Wu (k:Nat) (o:Nat) {rb nb nn:Nat} (D:nn<=100):∀ (n x f:Nat) (Z:Aa) (c:CI),Al Z i m->Gi Z c i.hb rb nb { s with left:=UN m x }->(∀ q ∈ i.l,q ∉ c.l)->c.cb=o->x+n=nn->n<f ->
  ∃ j l,G7 (k+3) f (some ⟨o,0,none⟩) (nn:Int) (x:Int) Z=some (.exit 2,[],j)/\Gi j l i.hb rb nb { s with left:=UN m nn }/\Mv c.l l.l Z j/\l.cb=o
 | n,x,0,Z,c,h,d,r,a,E,C=>by omega
 | 0,x,f+1,Z,c,h,d,r,a,E,C=>by
   rw[MT];simp only[Aac (show ¬ (x:Int)<(nn:Int) by omega),By];have e:x=nn:=by omega
   subst e;exact ⟨Z,c,rfl,d,Mv.refl _ _,a⟩
 | n+1,x,f+1,Z,c,h,d,r,a,E,C=>by
   have T:=wSu x (by omega);have b:=qW m x;have hlen:=jM m x;have v:Bn (k+3) (AU i) (x:Int) Z=_:=ZX k h (x:Int);have O:B7 Z o 0=some (AU i):=by rw[<- a]; exact d.HI
   have P:Bd Z o 7=some (c.lf.1,(UN m x).length,(UN m x).length):=by rw[<- a]; exact d.ld7
   rw[MT];simp only[Aad (show (x:Int)<(nn:Int) by omega),IS,AI,IN,Abn,O,v,Ah,T];have hb:((bif (Cb m (x:Int) == 1) then some (true,Z) else some ((Cb m (x:Int) == 2),Z)):Option (Bool × Aa))=some (decide (Cb m (x:Int)=1\/Cb m (x:Int)=2),Z):=by
    by_cases z:Cb m (x:Int)=1
    ·rw[z]; rfl
    ·rw[show (Cb m (x:Int) == 1)=false from Acy.2 z];by_cases A:Cb m (x:Int)=2
     ·rw[A]; rfl
     ·rw[show (Cb m (x:Int) == 2)=false from Acy.2 A,Aac (fun L=>L.elim z A)]; rfl
   rw[hb];simp only[AI];cases t:decide (Cb m (x:Int)=1\/Cb m (x:Int)=2) with
   | false=>
     rw[t] at b;simp only[Abz,Abs,Abu] at b;obtain ⟨j,l,p,w,u,F⟩:=Wu k o D n (x+1) f Z c h (by rw[b]; exact d) r a (by omega) (by omega);refine ⟨j,l, ?_,w,u,F⟩;simp only[By,AI,Aah,p]
   | true=>
     rw[t] at b;simp only[Aah] at b;obtain ⟨s',Z1_,B,y,Q⟩:=d.lf.push (x:Int) Ak (by show (UN m x).length<=_; omega);have g:=d.lf.form;have I:c.lf.2.1=(UN m x).length:=by rw[g]
     have J:c.lf.2.2=(UN m x).length:=by rw[g]
     rw[I,J] at B;obtain ⟨Z2_,p,w,u⟩:=d.qc (fun q t=>t) Q y;obtain ⟨M,N,_⟩:=u.DN (X:=i.l) h.lt r;obtain ⟨j,l,H,K,S,G⟩:=Wu k o D n (x+1) f Z2_ _ (h.Aw M) (by rw[b]; exact w) N a (by omega) (by omega);refine ⟨j,l, ?_,K,u.trans S,G⟩;rw[a] at p;simp only[IS,P,AI,Ae,B,p,Aah,H]
theorem xf (k:Nat) (hk:5000<=k) (T:Lc J i p c m r s) (hp:s.ph≠2):∃ J' A,Ig (k+13) (D2 c) J=some (.tuple #[],J')/\Lc J' i p A (Zn m r s).1 r (Zn m r s).2/\Mv (i.l++c.l) (i.l++A.l) J J'/\A.cb=c.cb:=by
 have n:=T.mo.nt;have aa:=Qx n;obtain ⟨J1_,d,C,T1,M,w⟩:∃ J1_ d,((bif s.look then ((EI (k+12) (D2 c) J).bind fun r3=>Wz r3.1 (some (.normal,[],r3.2))) else (some (.normal,[],J)):Option Bq))=some (.normal,[],J1_)/\Lc J1_ i p d m r (if s.look then AM m s (Bf r) else s)/\Mv c.l d.l J J1_/\d.cb=c.cb:=by
  cases s.look with
  | false=>exact ⟨J,c,rfl,T,Mv.refl _ _,rfl⟩
  | true=>
    obtain ⟨J1_,d,C,T1,M,w⟩:=gx k (by omega) T hp;exact ⟨J1_,d,by simp only[IS,C,AI,Gg],T1,M,w⟩
 obtain ⟨s1,h⟩:∃ s1,(if s.look then AM m s (Bf r) else s)=s1:=⟨_,rfl⟩;have Z:s1.ph≠2:=by
  rw[<- h]; split
  ·rw[(Ff m _ s).1]; exact hp
  ·exact hp
 rw[h] at T1;obtain ⟨J2_,e,Q,T2,m2,b2⟩:=zr k hk T1 Z;have p2:(RD m s1).ph≠2:=by unfold RD; rw[(Ff m _ s1).1]; exact Z
 obtain ⟨s2,o⟩:∃ s2,RD m s1=s2:=⟨_,rfl⟩;rw[o] at T2 p2;have j:e.cb=c.cb:=b2.trans w;have N:D2 d=D2 c:=by unfold D2; rw[w]
 have O:D2 e=D2 c:=by unfold D2; rw[j]
 rw[N] at Q;have v:=M.trans m2;have f:Zn m r s=(if s2.list≠[] then (m,s2) else (IV m s2 (Ei m),{ s2 with left:=s2.left++WS (IV m s2 (Ei m)),ph:=2 })):=by
  rw[<- o,<- h]; rfl
 rw[f];have d6:Bd J2_ c.cb 6=some (e.ls.1,s2.list.length,s2.list.length):=by rw[<- j]; exact T2.co.ux
 rw[Wj];simp only[AI,IN,Abn,T.co.UH,C,Aah,Q,Gg,d6];by_cases t:s2.list=[];rotate_left
 ·have:0<s2.list.length:=Aer.2 t;rw[Abm t,Aad (by omega)];exact ⟨J2_,e,rfl,T2,v.right i.l,j⟩
 rw[Abo (fun H=>H t)];have I:s2.list.length=0:=by rw[t]; rfl
 have d0:B7 J2_ c.cb 0=some (AU i):=by rw[<- j]; exact T2.co.HI
 obtain ⟨τ,sl,e3,li⟩:=gV (k+6) (by omega) T2.h;have D:Ca (k+12) (AU i) J2_=_:=e3;have G:=li.ge;have li:Bh (J2_++τ) sl (Ei m):=Bh.ints li;have T3:=T2.app τ;obtain ⟨b,S,T4,m4⟩:=Wt (k+2) (by omega) (sl:=sl) (l:=Ei m) (by omega) (ic n) (fun q L hm=>by
  obtain ⟨a,ha,rfl⟩:=BQ.1 L;have:=(G a ha).1;have:=T2.h.lt _ hm;omega) (Ei m).length 0 (k+12) (J2_++τ) m T3 li (by omega) (by omega);rw[show ((0:Nat):Int)=0 from rfl,O] at S;rw[Ac6] at T4;obtain ⟨m',K⟩:∃ m',IV m s2 (Ei m)=m':=⟨_,rfl⟩;rw[K] at T4 ⊢;have W:=T4.mo.nt;have u:s2.left=[]:=T2.tok.l0 p2;have B:B7 b c.cb 0=some (AU i):=by rw[<- j]; exact T4.co.HI
 have eb:AE (k+12) (AU i) b=_:=GR (k+10) T4.h;have F:Gi b e i.hb p.rb m'.bls.length { s2 with left:=UN m' 0 }:=by
  have:({ s2 with left:=UN m' 0 }:TC)=s2:=by
   show ({ s2 with left:=[] }:TC)=s2;rw[<- u]
  rw[this]; exact T4.co
 obtain ⟨J5_,c5,U,h5,X,P⟩:=Wu (s:=s2) (k+9) c.cb (nn:=m'.bls.length) (by omega) m'.bls.length 0 (k+12) b e T4.h F (fun q L hm=>T4.fp.ne (x:=0) (y:=2) (by simp) (by simp) (by decide) q L hm) j (by omega) (by omega);rw[show ((0:Nat):Int)=0 from rfl] at U;obtain ⟨z,V,h6,Y⟩:=h5.vl 2;have E:WS m'=UN m' m'.bls.length:=rfl;rw[u,Aev,E];have tk:Qw m'.bls.length { s2 with left:=UN m' m'.bls.length,ph:=2 }:=⟨T4.tok.wl,T4.tok.ls,T4.tok.lr,by have:=jM m' m'.bls.length; show (UN m' _).length<=64; omega,fun H=>absurd rfl H,fun _=>t⟩;have T6:=T4.Qe h6 (X.trans Y) tk;refine ⟨z,c5, ?_,T6,((v.right i.l).trans ((Mv.app _ _ τ).trans (m4.left e.l))).trans ((X.trans Y).right i.l),P⟩;have g:=li.form;have g1:sl.2.1=(Ei m).length:=by rw[g]
 have g2:sl.2.2=(Ei m).length:=by rw[g]
 rw[P] at V;simp only[I,show decide (((0:Nat):Int)>0)=false from rfl,By,d0,AI,D,Ej,g1,g2,S,Aah,B,eb,Ah,U,V]
end
section
variable {J:Aa} {m:HM} {r:D3} {s:TC} {i:Cp} {p:PI} {c:CI}
def TG (mm:Option (Value × Aa)) (J:Aa) (i:Cp) (p:PI) (c:CI) (r:D3) (v:Value) (q:HM × TC):Prop:=
 ∃ J' a,mm=some (v,J')/\Lc J' i p a q.1 r q.2/\Mv (i.l++c.l) (i.l++a.l) J J'/\a.cb=c.cb
theorem zD (k:Nat) (hk:5000<=k) (T:Lc J i p c m r s) (hp:s.ph≠2) {a:Int} {l:List Int} (f:s.list=a::l):TG (Eh (k+14) (D2 c) J) J i p c r (.tuple #[]) (m,ZQ m s):=by
 have ab:=T.mo.nt;have hlen:=T.tok.len;have aa:=T.tok.lr a (by rw[f]; exact Ac0);have E:s.list.length=l.length+1:=by rw[f]; rfl
 have W:AO a:=by unfold AO; omega
 have d6:=T.co.ux;have n:Bh J c.ls (a::l):=by rw[<- f]; exact T.co.ls
 obtain ⟨b,U,lb,_⟩:=n.ld (x:=0) (by simp);have G:Aj .i64 J b 0=some a:=lb;obtain ⟨pt,O,P,F⟩:=n.tail;rw[<- f,U] at P;obtain ⟨s',τ1,e2,H,w⟩:=WT (k+12) pt O l (by omega) F;have B:BH (k+13) (pt,l.length,O) J=_:=e2;obtain ⟨J2_,e3,h3,I⟩:=T.co.qe (L:=[]) (fun q d=>by cases d) (Z:=J++τ1) ⟨by simp,fun q d _=>AT d,fun q d=>.inr (w q d)⟩ H;have tk:Qw m.bls.length { s with list:=l }:=⟨T.tok.wl,by have:=T.tok.ls; rw[E] at this; show l.length<=_; exact Nat.le_of_succ_le this,fun v A=>T.tok.lr v (by rw[f]; exact Abx _ A),T.tok.lf,T.tok.l0,fun e=>absurd e hp⟩;have T2:=T.Qe h3 I tk;have n1:(s.ph == 2)=false:=Acy.2 hp;have eh:Bc (k+13) (AU i) a J2_=_:=Te (k+9) T2.h a W;have d0:B7 J2_ c.cb 0=some (AU i):=T2.co.HI;unfold TG;have t:ZQ m s=if Ax m a then Eb (AM m { s with list:=l } (DR m a)) a 2 else { s with list:=l }:=by
  unfold ZQ; rw[f]
 rw[t];rw[LJ];simp only[AI,IN,Abn,T.co.dW,n1,By,d6,Aad (show ((s.list.length:Nat):Int)>0 by omega),IS];rw[Abm (by omega)];simp only[U,AI,Afc,Adw,IN,G,P,B,Ej,e3,d0,eh,An];cases hh:Ax m a with
 | false=>
   simp only[By,AI,Aah,Abz,Abs];exact ⟨J2_,_,rfl,T2,I.right i.l,rfl⟩
 | true=>
   obtain ⟨K,o,e4,u,y⟩:=qK (k+4) (by omega) T2.h T.mo.inv a W;have C:Jg (k+13) (AU i) a J2_=_:=e4;have T4:=T2.app K;have ac:(DR m a).length<=200:=by
    have h1:=mc m a (Ag m a).1.toNat;have h2:=O7 T.mo.inv a;have:DR m a=jb m a (Ag m a).1.toNat:=rfl;rw[this]; omega
   obtain ⟨J5_,N,Q,T5,m5,M⟩:=dH (k+2) (sl:=o) (l:=DR m a) (by omega) (fun v A=>by
    unfold DR at A;obtain ⟨x,_,rfl⟩:=Ad0.1 A;exact UJ T2.h.wi a _) c.cb (DR m a).length 0 (k+13) (J2_++K) _ _ T4 rfl hp u (fun q d hm=>by have:=y q d; have:=T2.co.lt q hm; omega) (by omega) (by omega);rw[show ((0:Nat):Int)=0 from rfl] at Q;rw[Ac6] at T5;obtain ⟨j,X,hs⟩:=AV hh;obtain ⟨h,S,V,Y⟩:=cM (k+3) T5.co hs.1 (v:=2) (by decide);rw[<- X] at S V;have z:=T5.tok.cK hs.1 (v:=2) (by decide) (by decide);rw[<- X] at z;have T6:=T5.Qe V Y z;have g:=u.form;have g1:o.2.1=(DR m a).length:=by rw[g]
   have g2:o.2.2=(DR m a).length:=by rw[g]
   have D:CM (k+13) (some ⟨c.cb,0,none⟩) a (2:Int) J5_=some (.tuple #[],h):=by
    have:D2 N=some ⟨c.cb,0,none⟩:=by unfold D2; rw[M]
    rw[<- this]; exact S
   refine ⟨h,N, ?_,T6,(((I.trans (Mv.app _ _ K)).trans m5).trans Y).right i.l,M⟩;simp only[IS,C,AI,g1,g2,Q,Aah,D,Gg]
theorem Ws (ws:List (BitVec 64)):∀ (l:List Int) (q:HM × Int),MK q.1->MK (JA ws l q).1/\(JA ws l q).1.bls.length=q.1.bls.length
 | [],q,h=>⟨h,rfl⟩
 | a::l,q,h=>by
   unfold JA;split
   ·obtain ⟨h1,b⟩:=Ws ws l ((Hs q.1 a).2,Ar (q.2+1)) (h.kill a);exact ⟨h1,b.trans (by rw[(NC h.inv h.sh a).1])⟩
   ·exact Ws ws l q h
theorem U5 (k:Nat) {sl:Bv} {l:List Int} (z:l.length<=100000) (nb:Nat) (u:∀ v ∈ l,∃ j:Nat,v=((2*j:Nat):Int)/\j<32*nb) (g:nb<=64):∀ (n x f:Nat) (J:Aa) (m:HM) (s:TC),Lc J i p c m r s->m.bls.length=nb->Bh J sl l->(∀ q ∈ hs sl,q ∉ i.l/\q ∉ c.l)->x+n=l.length->n<f ->
  ∃ J',ED (k+12) f (D2 c) sl.1 l.length l.length ((l.length:Nat):Int) (x:Int) J=some (.exit 0,[],J')/\Lc J' i p c (JA s.ws (l.drop x) (m,s.freed)).1 r { s with freed:=(JA s.ws (l.drop x) (m,s.freed)).2 }/\Mv (i.l++c.l) (i.l++c.l) J J'
 | n,x,0,J,m,s,T,hb,a,d,B,y=>by omega
 | 0,x,f+1,J,m,s,T,hb,a,d,B,y=>by
   rw[MD];simp only[Aac (show ¬ (x:Int)<((l.length:Nat):Int) by omega),By];rw[Ac5 (by omega)];exact ⟨J,rfl,T,Mv.refl _ _⟩
 | n+1,x,f+1,J,m,s,T,hb,a,d,B,y=>by
   obtain ⟨b,e,D,_⟩:=a.ld (x:=x) (by omega);have P:=qSu x l.length (by omega);have Q:=wSu x (by omega);have hd:l.drop x=l.getD x 0::l.drop (x+1):=by
    rw[Ac2 (by omega),Abi,Aaj (by omega)]; rfl
   obtain ⟨j,M,N⟩:∃ j:Nat,l.getD x 0=((2*j:Nat):Int)/\j<32*nb:=by
    rw[Abi,Aaj (show x<l.length by omega)]; exact u _ (Ac4 _)
   rw[hd];rw[M] at D ⊢;have I:CE (k+12) (D2 c) ((2*j:Nat):Int) J=_:=yo (k+8) T.co (by omega);rw[MD];simp only[Aad (show (x:Int)<((l.length:Nat):Int) by omega),IS,P,Aah,e,AI,IT,Acu,IN,Abn,D,Q,I,Ah];have H:((2*j:Nat):Int).toNat/2=j:=by omega
   unfold JA;rw[H];by_cases o:CG 2 s.ws j=0;rotate_left
   ·rw[Abo o,show ((CG 2 s.ws j:Int) == 0)=false from by simpa using o];obtain ⟨J',h,T2,t⟩:=U5 k z nb u g n (x+1) f J m s T hb a d (by omega) (by omega);rw[e] at h;refine ⟨J', ?_,T2,t⟩;simp only[By,AI,Aah,h]
   ·rw[Abm o,show ((CG 2 s.ws j:Int) == 0)=true from by simpa using o];obtain ⟨J1_,G,h1,C⟩:=eY k T.h T.mo.inv ((2*j:Nat):Int) (by unfold AO; omega);have F:=NC T.mo.inv T.mo.sh ((2*j:Nat):Int);have T1:=T.fK h1 C (T.mo.kill _) (by rw[F.1]);obtain ⟨J2_,h,L,t⟩:=T1.co.lQ (Ar (s.freed+1));have T2:=T1.Qe L t ⟨T1.tok.wl,T1.tok.ls,T1.tok.lr,T1.tok.lf,T1.tok.l0,T1.tok.s2⟩;have E:Mv (i.l++c.l) (i.l++c.l) J J2_:=(C.mv.left c.l).trans (t.right i.l);obtain ⟨K,S,_⟩:=E.DN (X:=hs sl) a.lt (fun q A hm=>(Aag.1 hm).elim (d q A).1 (d q A).2);obtain ⟨J',w,T3,O⟩:=U5 k z nb u g n (x+1) f J2_ _ _ T2 (by rw[F.1]; exact hb) (a.Aw K) d (by omega) (by omega);rw[e] at w;refine ⟨J', ?_,T3,E.trans O⟩;simp only[IS,T.co.HI,AI,G,Ah,T1.co.ld8,h,Aah,w]
theorem ft:∀ (n x:Nat) (ws:List (BitVec 64)),(Sk ws n x).length=ws.length
 | 0,_,_=>rfl
 | n+1,x,ws=>by rw[Sk,ft n]; exact Eg _ _ _ _
theorem py (k:Nat) (C:5000<=k) (T:Lc J i p c m r s) (hp:s.ph=2):∃ J',((Bd J c.cb 7).bind fun g=>(bif ((g.2.1:Nat):Int) == (0:Int) then ((B7 J c.cb 5).bind fun j=>(B7 J c.cb 5).bind fun l=>(Ea (k+13) l J).bind fun b=>(Bl .i64 b.1).bind fun h=>(FJ (k+13) j (0:Int) h (0:Int) b.2).bind fun d=>(Bl .i64 d.1).bind fun A=>(CX d.2 c.cb 4 (qIi (0:Int))).bind fun n=>some (.normal,[],n)) else (some (.normal,[],J)):Option Bq).bind fun e=>if e.1 = .normal then (some (Value.tuple #[],e.2.2)) else none)=some (Value.tuple #[],J')/\Lc J' i p c m r (Sp (32*m.bls.length) s)/\Mv c.l c.l J J':=by
 simp only[T.co.ld7,AI];unfold Sp;by_cases a:s.left=[]
 ·rw[Abm a];have h0:s.left.length=0:=by rw[a]; rfl
  have v:Ea (k+13) (some ⟨c.tb,0,none⟩) J=_:=m8 (k+11) T.co.tab;obtain ⟨J1_,t,h1,z⟩:=vU (k+4) (by omega) T.co.sep.bc T.co.tab;have f:FJ (k+13) (some ⟨c.tb,0,none⟩) 0 ((32*m.bls.length:Nat):Int) 0 J=_:=t;obtain ⟨w,o⟩:=T.co.vp h1 z;obtain ⟨J3_,u,x,q⟩:=w.vl 0;have B:Qw m.bls.length { s with ws:=Sk s.ws (32*m.bls.length) 0,ph:=0 }:=⟨by show (Sk _ _ _).length=_; rw[ft]; exact T.tok.wl,by show s.list.length<=_; rw[T.tok.s2 hp]; exact Ade _,T.tok.lr,T.tok.lf,fun _=>a,fun y=>by cases y⟩;refine ⟨J3_, ?_,T.Qe x (o.trans q) B,o.trans q⟩;rw[h0];simp only[show (((0:Nat):Int) == 0)=true from rfl,IS,T.co.ld5,AI,v,Ah,f,u,Aah]
 ·rw[Abo a];have:0<s.left.length:=Aer.2 a;refine ⟨J, ?_,T,Mv.refl _ _⟩;rw[show (((s.left.length:Nat):Int) == 0)=false from by simpa using a];simp only[By,AI,Aah]
theorem xo {m:HM} {b:Int}:∀ v ∈ C7 (HC m b),∃ j:Nat,v=((2*j:Nat):Int)/\j<32*m.bls.length:=by
 intro v c;unfold C7 at c;obtain ⟨j,a,rfl⟩:=Ad0.1 c;refine ⟨j,rfl, ?_⟩;unfold HC at a;split at a
 ·have:=LM.1 a;omega
 ·cases a
theorem uH (m:HM) (b:Int):(C7 (HC m b)).length<=32:=by
 unfold C7 HC;rw[Aee];split
 ·exact Nn _ _ _
 ·simp
theorem vD (k:Nat) (N:5000<=k) (T:Lc J i p c m r s) (hp:s.ph=2):TG (Jr (k+14) (D2 c) J) J i p c r (.tuple #[]) (Hn m s):=by
 have E:=T.mo.nt;have d7:=T.co.ld7;have aa:=T.tok.lf;unfold TG Hn;rw[Vt];cases t:s.left with
 | nil=>
   obtain ⟨J',f,T1,m1⟩:=py k N T hp;refine ⟨J',c, ?_,T1,m1.right i.l,rfl⟩;rw[t] at d7;simp only[AI,IN,Abn,d7,Adn,show decide (((0:Nat):Int)>0)=false from rfl,By,Aah];rw[d7] at f;simp only[AI,Adn] at f;exact f
 | cons b l=>
   have ab:s.left.length=l.length+1:=by rw[t]; rfl
   have h:Bh J c.lf (b::l):=by rw[<- t]; exact T.co.lf
   obtain ⟨q,eq,lb,_⟩:=h.ld (x:=0) (by simp);have G:Aj .i64 J q 0=some b:=lb;obtain ⟨U,K,f,F⟩:=h.tail;rw[<- t,eq] at f;obtain ⟨s',τ1,Y,H,n⟩:=WT (k+12) U K l (by omega) F;have w:BH (k+13) (U,l.length,K) J=_:=Y;obtain ⟨J2_,e3,h3,S⟩:=T.co.qc (L:=[]) (fun q e=>by cases e) (Z:=J++τ1) ⟨by simp,fun q e _=>AT e,fun q e=>.inr (n q e)⟩ H;have tk:Qw m.bls.length { s with left:=l }:=⟨T.tok.wl,T.tok.ls,T.tok.lr,by show l.length<=64; omega,fun hh=>absurd hp hh,T.tok.s2⟩;have T2:=T.Qe h3 S tk;have d0:B7 J2_ c.cb 0=some (AU i):=T2.co.HI;obtain ⟨o,sl,e4,d⟩:=qG (k+7) (by omega) T2.h b;have y:Cd (k+13) (AU i) b J2_=_:=e4;have D:=d.ge;have d:Bh (J2_++o) sl (C7 (HC m b)):=Bh.ints d;have T4:=T2.app o;have O:=uH m b;obtain ⟨J5_,M,T5,m5⟩:=U5 (k+1) (sl:=sl) (l:=C7 (HC m b)) (by omega) m.bls.length xo E (C7 (HC m b)).length 0 (k+13) (J2_++o) m _ T4 rfl d (fun q e=>by
    obtain ⟨a,ha,rfl⟩:=BQ.1 e;have:=(D a ha).1;exact ⟨fun hm=>by have:=T2.h.lt _ hm; omega,fun hm=>by have:=T2.co.lt _ hm; omega⟩) (by omega) (by omega);rw[show ((0:Nat):Int)=0 from rfl] at M;rw[Ac6] at T5;obtain ⟨Q,B⟩:∃ Q,JA s.ws (C7 (HC m b)) (m,s.freed)=Q:=⟨_,rfl⟩;have T5:Lc J5_ i p { c with lf:=s' } Q.1 r { s with left:=l,freed:=Q.2 }:=by rw[<- B]; exact T5
   have v:B7 J5_ c.cb 0=some (AU i):=T5.co.HI;obtain ⟨V,e6,h6,P⟩:=hJ (k+6) (by omega) T5.h b;have A:FT (k+13) (AU i) b J5_=_:=e6;have j:=Nx T5.mo.inv T5.mo.inv2 b;have W:=T5.fK h6 P (T5.mo.release b) j.len;obtain ⟨u,e7,I,m7⟩:=py k N W hp;have C:(CY Q.1 b).2.bls.length=m.bls.length:=by
    rw[j.len,<- B]; exact (Ws s.ws _ _ T.mo).2
   rw[C] at I;show ∃ J' X,_/\Lc J' i p X (CY (JA s.ws (C7 (HC m b)) (m,s.freed)).1 b).2 r (Sp (32*m.bls.length) { s with left:=l,freed:=(JA s.ws (C7 (HC m b)) (m,s.freed)).2 })/\_/\_;rw[B];refine ⟨u,{ c with lf:=s' }, ?_,I,((((S.right i.l).trans (Mv.app _ _ o)).trans m5).trans (P.mv.left _)).trans (m7.right i.l),rfl⟩;have g:=d.form;have g1:sl.2.1=(C7 (HC m b)).length:=by rw[g]
   have g2:sl.2.2=(C7 (HC m b)).length:=by rw[g]
   simp only[AI,IN,Abn,d7,Aad (show ((s.left.length:Nat):Int)>0 by omega),IS];rw[Abm (by omega)];simp only[eq,AI,Afc,Adw,IN,G,f,w,Ej,e3,d0,y,g1,g2];have z:ED (k+13) (k+13) (D2 c) sl.1 (C7 (HC m b)).length (C7 (HC m b)).length (((C7 (HC m b)).length:Nat):Int) 0 (J2_++o)=some (.exit 0,[],J5_):=M;simp only[z,AI,Aah,v,A,Ah];exact e7
theorem jh (k:Nat) (n:5000<=k) (T:Lc J i p c m r s):TG (Eh (k+15) (D2 c) J) J i p c r (.tuple #[]) (HE m r s):=by
 unfold HE;by_cases hp:s.ph=2
 ·rw[Abm hp];obtain ⟨J',g,e,d,m',f⟩:=vD k n T hp;refine ⟨J',g, ?_,d,m',f⟩;rw[LJ];simp only[AI,IN,Abn,T.co.dW,show (s.ph == 2)=true from Ad7.2 hp,IS,e,Gg,Aah]
 rw[Abo hp];by_cases b:s.list=[]
 ·rw[Abo (fun j=>j b)];obtain ⟨J',g,e,d,m',f⟩:=xf (k+1) (by omega) T hp;refine ⟨J',g, ?_,d,m',f⟩;have d6:=T.co.ux;rw[b] at d6;rw[LJ];have h:Ig (k+14) (D2 c) J=_:=e;simp only[AI,IN,Abn,T.co.dW,show (s.ph == 2)=false from Acy.2 hp,By,d6,Adn,show decide (((0:Nat):Int)>0)=false from rfl,h,Gg,Aah]
 ·rw[Abm b];obtain ⟨a,l,e⟩:=List.exists_cons_of_ne_nil b;exact zD (k+1) (by omega) T hp e
end
section
variable {J:Aa} {m:HM} {r:D3} {s:TC} {i:Cp} {p:PI} {c:CI}
def kJ (m:HM) (v:Int):Bool:=decide (v=0) || Ax m v
theorem UI {b o:Nat} {x:qOi} (h:B7 J b o=some x) (τ:Aa):B7 (J++τ) b o=some x:=by
 simp only[B7,CV] at h ⊢;cases e:J[b]? with
 | none=>rw[e] at h; cases h
 | some q=>rw[AT (Af e),e]; rw[e] at h; exact h
theorem jt (k:Nat) (h:Al J i m) {h0:Nat} (hb:B7 J h0 0=some (AU i)) (v:Int) (b:AO v):Hr (k+5) v (some ⟨h0,0,none⟩) J=some (.bool (!kJ m v),J):=by
 rw[Yg];have a:Bc (k+4) (AU i) v J=_:=Te k h v b;simp only[AI,IN,Abn,hb,a,An];unfold kJ;by_cases h0:v=0
 ·subst h0; simp
 ·rw[show (v != 0)=true from Adp.2 h0,Aac h0]; simp
theorem jv (k:Nat) {h0:Nat} (d:Inv m) (a:Int) (e:AO a) {nn:Int} (q:nn<=200):∀ (n x f:Nat) (J:Aa),Al J i m->B7 J h0 0=some (AU i)->(x:Int)+n=nn->n<f ->
  ∃ τ,Kb (k+7) f h0 a nn (x:Int) J=some (if ((List.range' x n).all fun (y:Nat)=>kJ m (AA m a (y:Int))) then (.exit 2,[],J++τ) else (.ret,[.bool false],J++τ))
 | n,x,0,J,h,hb,j,g=>by omega
 | 0,x,f+1,J,h,hb,j,g=>by
   rw[QH];simp only[Aac (show ¬ (x:Int)<nn by omega),By];exact ⟨[],by simp⟩
 | n+1,x,f+1,J,h,hb,j,g=>by
   have r:=wSu x (by omega);obtain ⟨τ,l⟩:=Vw k h d a (x:Int) e;have c:AL (k+7) (AU i) a (x:Int) J=some (.tuple #[qIi (AA m a (x:Int)),qIi (K6 m a (x:Int) false).2],J++τ):=l;have h1:=h.app τ;have b:=UI hb τ;have p:Hr (k+7) (AA m a (x:Int)) (some ⟨h0,0,none⟩) (J++τ)=_:=jt (k+2) h1 b _ (UJ h.wi a _);obtain ⟨s,o⟩:=jv k d a e q n (x+1) f (J++τ) h1 b (by omega) (by omega);rw[QH,Afx,Ahr];simp only[Aad (show (x:Int)<nn by omega),IS,hb,AI,c,B9,p,An,r,o];cases kJ m (AA m a (x:Int)) with
   | false=>exact ⟨τ,by simp⟩
   | true=>
     refine ⟨τ++s, ?_⟩;simp only[Abr,By,Afw,Aae]
theorem ju (k:Nat) (F:1000<k) {h0:Nat} (r:Inv m) {sl:Bv} {l:List Int} (G:l.length<=100000) (B:∀ v ∈ l,AO v):∀ (n x f:Nat) (J:Aa),Al J i m->B7 J h0 0=some (AU i)->Bh J sl l->x+n=l.length->n<f ->
  ∃ τ,Ka (k+7) f h0 sl.1 l.length l.length ((l.length:Nat):Int) (x:Int) J=some (if ((l.drop x).all fun a=>(Ur m a).all (kJ m)) then (.exit 0,[],J++τ) else (.ret,[.bool false],J++τ))
 | n,x,0,J,h,hb,d,C,A=>by omega
 | 0,x,f+1,J,h,hb,d,C,A=>by
   rw[QG];simp only[Aac (show ¬ (x:Int)<((l.length:Nat):Int) by omega),By];rw[Ac5 (by omega)];exact ⟨[],by simp⟩
 | n+1,x,f+1,J,h,hb,d,C,A=>by
   obtain ⟨b,e,D,_⟩:=d.ld (x:=x) (by omega);have I:=qSu x l.length (by omega);have K:=wSu x (by omega);have hd:l.drop x=l.getD x 0::l.drop (x+1):=by
    rw[Ac2 (by omega),Abi,Aaj (by omega)]; rfl
   have g:AO (l.getD x 0):=by
    rw[Abi,Aaj (show x<l.length by omega)]; exact B _ (Ac4 _)
   rw[hd,Ahr];generalize l.getD x 0=a at D g;obtain ⟨c,E⟩:=P6 (k+1) h a g;have p:AK (k+7) (AU i) a J=_:=E;obtain ⟨s1,s2,M,N⟩:=O7 r a;obtain ⟨S,z⟩:∃ S,Au.cells [qIi (Ag m a).1,qIi (Ag m a).2.1,qIi (Ag m a).2.2] Ad true=S:=⟨_,rfl⟩;have s:(J++c++[S])[(J++c).length]?=some (.cells [qIi (Ag m a).1,qIi (Ag m a).2.1,qIi (Ag m a).2.2] Ad true):=by
    rw[Abv,z]
   have H:=(Kk s).1;have w:Al (J++c++[S]) i m:=(h.app c).app _;have o:=UI (UI hb c) [S];obtain ⟨j,u⟩:=jv k (h0:=h0) r a g s2 (Ag m a).1.toNat 0 (k+7) (J++c++[S]) w o (by omega) (by omega);rw[show ((0:Nat):Int)=0 from rfl] at u;have t:(Ur m a).all (kJ m)=((List.range' 0 (Ag m a).1.toNat).all fun (y:Nat)=>kJ m (AA m a (y:Int))):=by
    unfold Ur;rw[List.all_map,List.range_eq_range'];rfl
   rw[t];obtain ⟨L,q⟩:=ju k F (h0:=h0) r G B n (x+1) f (J++c++[S]++j) (w.app j) (UI o j) (((d.app c).app [S]).app j) (by omega) (by omega);rw[e] at q;rw[QG];simp only[Aad (show (x:Int)<((l.length:Nat):Int) by omega),IS,I,Aah,e,AI,IT,Acu,IN,D,hb,K,p,jd,Ada,Adn,Nat.reduceAdd,Aeo,Aeu,H5,Ah,Ae,Ez,z,H,u];cases ((List.range' 0 (Ag m a).1.toNat).all fun (y:Nat)=>kJ m (AA m a (y:Int))) with
   | false=>
     refine ⟨c++[S]++j, ?_⟩;simp[oE,Dk]
   | true=>
     refine ⟨c++[S]++j++L, ?_⟩;simp only[Aae] at q;simp only[Aah,Afw,Aae,q]
theorem WJ (k:Nat) {h0:Nat} {sl:Bv} {l:List Int} (r:l.length<=100000) (p:∀ v ∈ l,AO v) (h:Al J i m) (hb:B7 J h0 0=some (AU i)) (a:Bh J sl l):∀ (n x f:Nat),x+n=l.length->n<f ->
  ∃ o,Dq (k+5) f sl.1 l.length l.length (.func (.func 166) #[] #[qVi (some ⟨h0,0,none⟩)]) ((l.length:Nat):Int) (x:Int) J=some o/\(((l.drop x).all (kJ m))=true->o=(.exit 0,[],J))/\(((l.drop x).all (kJ m))=false -> ∃ y:Nat,o=(.ret,[qIi (y:Int)],J))
 | n,x,0,q,j=>by omega
 | 0,x,f+1,q,j=>by
   rw[EW];simp only[Aac (show ¬ (x:Int)<((l.length:Nat):Int) by omega),By];rw[Ac5 (by omega)];exact ⟨_,rfl,fun _=>rfl,fun c=>by cases c⟩
 | n+1,x,f+1,q,j=>by
   obtain ⟨b,e,s,_⟩:=a.ld (x:=x) (by omega);have w:=qSu x l.length (by omega);have z:=wSu x (by omega);have hd:l.drop x=l.getD x 0::l.drop (x+1):=by
    rw[Ac2 (by omega),Abi,Aaj (by omega)]; rfl
   have d:AO (l.getD x 0):=by
    rw[Abi,Aaj (show x<l.length by omega)]; exact p _ (Ac4 _)
   obtain ⟨o,g,t,u⟩:=WJ k (h0:=h0) r p h hb a n (x+1) f (by omega) (by omega);rw[hd,Ahr];rw[e] at g;rw[EW];simp only[Aad (show (x:Int)<((l.length:Nat):Int) by omega),IS,w,Aah,e,AI,IT,Acu,IN,s,z,Sw,jt k h hb _ d,An];cases kJ m (l.getD x 0) with
   | false=>
     refine ⟨_,rfl,fun c=>?_,fun _=>⟨x,rfl⟩⟩;rw[Ags] at c;cases c
   | true=>
     simp only[Abr,By,g,Afw];exact ⟨o,rfl,t,u⟩
theorem sN (m:HM) (r:D3):U3 m r=((Bf r).all (kJ m) && (Ei m).all fun a=>(Ur m a).all (kJ m)):=rfl
theorem Aak (k:Nat) (L:5000<=k) (h:Al J i m) (t:MK m) (hp:Ha J p r):∃ τ,Nd (k+9) (AU i) (F6 p) J=some (.bool (U3 m r),J++τ):=by
 have hlen:=fX hp.ok;have H:=Qx t.nt;obtain ⟨B,w⟩:∃ B,Au.cells [qVi (AU i)] EY true=B:=⟨_,rfl⟩;have h1:=h.app [B];have I:=hp.app [B];have A:B7 (J++[B]) J.length 0=some (AU i):=by simp[B7,CV,<- w,HO]
 obtain ⟨τ,sl,C,li,new⟩:=j8 (k+2) (by omega) I;have j:Dc (k+8) (F6 p) (J++[B])=_:=C;have s:=h1.app τ;have e:=UI A τ;obtain ⟨o,v,x,z⟩:=WJ (k+1) (h0:=J.length) (by omega) (kD hp.ok) s e li (Bf r).length 0 (k+6) (by omega) (by omega);rw[show ((0:Nat):Int)=0 from rfl] at v;rw[Ac6] at x z;have f:=li.form;have f1:sl.2.1=(Bf r).length:=by rw[f]
 have f2:sl.2.2=(Bf r).length:=by rw[f]
 have E:CK (k+8) (sl.1,(Bf r).length,(Bf r).length) (.func (.func 166) #[] #[qVi (some ⟨J.length,0,none⟩)]) (J++[B]++τ)=some (.bool (!(Bf r).all (kJ m)),J++[B]++τ):=by
  rw[JP,La];simp only[v,AI];cases u:(Bf r).all (kJ m) with
  | true=>
    rw[x u];simp only[Aah,AI,Ah,Abr];rfl
  | false=>
    obtain ⟨y,rfl⟩:=z u;simp only[reduceCtorEq,Abs,Aah,Ey,AI,Ah,Ac7];rw[Aad (show (y:Int)>=0 by omega)]
 rw[sN,dU];simp only[Ae,w,j,AI,Ej,f1,f2,E,An];cases u:(Bf r).all (kJ m) with
 | false=>
   refine ⟨[B]++τ, ?_⟩;simp only[Ac7,IS,Ags,Aae]
 | true=>
   obtain ⟨d,c,D,b⟩:=gV (k+2) (by omega) s;have n:Ca (k+8) (AU i) (J++[B]++τ)=_:=D;have b:Bh (J++[B]++τ++d) c (Ei m):=Bh.ints b;obtain ⟨K,q⟩:=ju (k+1) (by omega) (h0:=J.length) t.inv (sl:=c) (l:=Ei m) (by omega) (ic t.nt) (Ei m).length 0 (k+8) _ (s.app d) (UI e d) b (by omega) (by omega);rw[show ((0:Nat):Int)=0 from rfl] at q;rw[Ac6] at q;have g:=b.form;have F:c.2.1=(Ei m).length:=by rw[g]
   have G:c.2.2=(Ei m).length:=by rw[g]
   refine ⟨[B]++τ++d++K, ?_⟩;simp only[Abr,By,e,AI,n,F,G,q,Afw];cases ((Ei m).all fun a=>(Ur m a).all (kJ m)) with
   | false=>
     simp[oE,Dk]
   | true=>simp only[Aah,Aae]
theorem tH (k:Nat) (v:5000<=k) (T:Lc J i p c m r s) (hp:s.ph=0) (hs:U3 m r=true):TG (Jq (k+13) (D2 c) J) J i p c r (qIi 0) (m,U4 m r s):=by
 obtain ⟨τ,h⟩:=Aak (k+3) (by omega) T.h T.mo T.rt;have b:Nd (k+12) (AU i) (F6 p) J=_:=h;have em:AP (k+12) (D2 c) J=_:=KH (k+11) T.co;have T1:=T.app τ;obtain ⟨J2_,j,o,d⟩:=T1.co.lQ 0;have T2:=T1.Qe o d ⟨T.tok.wl,T.tok.ls,T.tok.lr,T.tok.lf,T.tok.l0,T.tok.s2⟩;obtain ⟨J3_,l,q,e⟩:=T2.co.vl 1;have T3:=T2.Qe q e ⟨T.tok.wl,T.tok.ls,T.tok.lr,T.tok.lf,fun _=>T.tok.l0 (by omega),fun t=>by cases t⟩;obtain ⟨a,g,n,T4,u,f⟩:=gx k (by omega) T3 (by show (1:Int)≠2; decide);refine ⟨a,g, ?_,T4,((((Mv.app c.l J τ).trans d).trans e).trans u).right i.l,f⟩;rw[Vr];simp only[em,AI,An,Abr,By,IN,Abn,T.co.dW,hp,Abt,T.co.HI,T.co.EX,b,hs,j,l,n,Gg]
theorem aW (k:Nat) (h:5000<=k) (b:Nat) {N:Nat} (y:N<=10000):∀ (n x f:Nat) (J:Aa) (c:CI) (m:HM) (s:TC),Lc J i p c m r s->c.cb=b->x+n=N->n<f ->
  ∃ J' d,G5 (k+15) f (some ⟨b,0,none⟩) (N:Int) (x:Int) J=some (if (EL r n (m,s)).1<n then (.ret,[qIi ((x+(EL r n (m,s)).1:Nat):Int),qIi 0],J') else (.exit 0,[],J'))/\Lc J' i p d (EL r n (m,s)).2.1 r (EL r n (m,s)).2.2/\Mv (i.l++c.l) (i.l++d.l) J J'/\d.cb=b/\(EL r n (m,s)).1<=n
 | n,x,0,J,c,m,s,T,a,j,g=>by omega
 | 0,x,f+1,J,c,m,s,T,a,j,g=>by
   rw[MR];simp only[Aac (show ¬ (x:Int)<(N:Int) by omega),By];exact ⟨J,c,rfl,T,Mv.refl _ _,a,Abp _⟩
 | n+1,x,f+1,J,c,m,s,T,a,j,g=>by
   have C:=wSu x (by omega);have d4:Aj .i64 J b 4=some s.ph:=by rw[<- a]; exact T.co.dW
   rw[MR,EL];simp only[Aad (show (x:Int)<(N:Int) by omega),IS,AI,IN,Abn,d4];by_cases hp:s.ph=0
   ·rw[Abm hp,show (s.ph == 0)=true from Ad7.2 hp];simp only[IS];exact ⟨J,c,by rw[Abm (by omega)]; rfl,T,Mv.refl _ _,a,Ade _⟩
   ·rw[Abo hp,show (s.ph == 0)=false from Acy.2 hp];obtain ⟨J1_,t,v,T1,z,l⟩:=jh k h T;obtain ⟨J2_,u,w,T2,A,o,B⟩:=aW k h b y n (x+1) f J1_ t (HE m r s).1 (HE m r s).2 T1 (l.trans a) (by omega) (by omega);have e:Eh (k+15) (some ⟨b,0,none⟩) J=some (.tuple #[],J1_):=by rw[<- a]; exact v
    refine ⟨J2_,u, ?_,T2,z.trans A,o,Nat.succ_le_succ B⟩;simp only[By,e,AI,Gg,C,w];by_cases q:(EL r n (HE m r s)).1<n
    ·rw[Abm q,Abm (by omega)];rw[show x+1+(EL r n (HE m r s)).1=x+((EL r n (HE m r s)).1+1) from by omega]
    ·rw[Abo q,Abo (by omega)]
theorem wG (k:Nat) (g:20000<=k) (T:Lc J i p c m r s) {N:Nat} (h1:1<=N) (f:N<=10000):TG (JR (k+16) (D2 c) (N:Int) J) J i p c r (.tuple #[qIi ((EL r N (m,s)).1:Int),qIi 0]) (EL r N (m,s)).2:=by
 have em:AP (k+15) (D2 c) J=_:=KH (k+14) T.co;obtain ⟨J',d,e,a,m',b,h⟩:=aW k (by omega) c.cb f N 0 (k+15) J c m s T rfl (by omega) (by omega);rw[show ((0:Nat):Int)=0 from rfl] at e;refine ⟨J',d, ?_,a,m',b⟩;rw[Wi];simp only[em,AI,An,Abr,By,Aac (show ¬ (N:Int)<1 by omega),Aac (show ¬ (N:Int)>10000 by omega),e];by_cases q:(EL r N (m,s)).1<N
 ·rw[Abm q];simp only[reduceCtorEq,Abs,Aah,UL,IN]
 ·rw[Abo q];simp only[Aah];rw[show (EL r N (m,s)).1=N from by omega]
end
end
end Go.Proofs.YtjbledomkmdkmaaGreat
