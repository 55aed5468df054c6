/- Roots of the program: made, set, pushed.; The document's roots: made, set, pushed. -/
import Derived.Test.YtjbledomkmdkmaaGreatP27
set_option linter.unusedVariables false
set_option linter.unusedSimpArgs false
set_option linter.unusedSectionVars false
namespace Go.Proofs.YtjbledomkmdkmaaGreat
open Go Go.AX
noncomputable section
local instance yt:AA:=Ap
section
variable {J:Aa} {r:DX} {p:PI}
theorem Ba.setAt {s:Bp} {l:List Int} (h:Ba J s l) {x:Nat} (hx:x<l.length) (v:Int):∃ b,s.1=some ⟨b,0,none⟩/\b ∈ hs s/\b<J.length/\CT J b x (.int .i64 v)=some (J.set b (.cells (AZ (l.set x v)) Aj true))/\Ba (J.set b (.cells (AZ (l.set x v)) Aj true)) s (l.set x v):=by
 obtain ⟨b,e,_,hc⟩:=h.ld hx;have hb:=Af hc;refine ⟨b,e,Mb e,hb,jv hc hx v,.inl (.inr ⟨b, ?_,zh _,by rw[C8,yH],yo hb⟩)⟩;have f:=h.form;rw[f,e,yZ]
def OP (r:DX) (k:Int) (mt ix:Nat):Prop:=(k=0/\mt<r.mu/\ix<16)\/(k=1/\mt=0/\ix<16)\/(k=2/\mt=0/\ix<r.qu.length)
def Jn (r:DX) (k:Int) (mt ix:Nat) (a:Int):DX:=if k=0 then { r with sl:=r.sl.set (16*mt+ix) a } else if k=1 then { r with gl:=r.gl.set ix a } else { r with qu:=r.qu.set ix a }
def MQ (r:DX) (k:Int) (mt ix:Nat) (a:Int):Int × DX:=if a<0\/(a=0/\k=2) then (1,r) else (0,Jn r k mt ix a)
def N9 (r:DX) (a:Int):Int × DX:=if a<=0 then (1,r) else if r.qu.length=64 then (6,r) else (0,{ r with qu:=r.qu++[a] })
theorem bq {r:DX} {k:Int} {mt ix:Nat} {a v:Int} (h:v ∈ (Jn r k mt ix a).all):v=a\/v ∈ r.all:=by
 unfold Jn DX.all at h;unfold DX.all;have key:∀ (l:List Int) (x:Nat),v ∈ l.set x a->v=a\/v ∈ l:=fun l x hm=>(Abj hm).symm;split at h
 ·simp only[yf] at h ⊢;rcases h with (h | h) | h
  ·exact (key _ _ h).imp id fun h=>.inl (.inl h)
  ·exact .inr (.inl (.inr h))
  ·exact .inr (.inr h)
 ·split at h
  ·simp only[yf] at h ⊢;rcases h with (h | h) | h
   ·exact .inr (.inl (.inl h))
   ·exact (key _ _ h).imp id fun h=>.inl (.inr h)
   ·exact .inr (.inr h)
  ·simp only[yf] at h ⊢;rcases h with (h | h) | h
   ·exact .inr (.inl (.inl h))
   ·exact .inr (.inl (.inr h))
   ·exact (key _ _ h).imp id fun h=>.inr h
theorem DX.ok.put (h:r.ok) (k:Int) (mt ix:Nat) {a:Int} (ha:AK a) (h0:0<=a):(Jn r k mt ix a).ok:=by
 have hm:∀ v ∈ (Jn r k mt ix a).all,AK v/\0<=v:=fun v hv=>by
  rcases bq hv with rfl | hv
  ·exact ⟨ha,h0⟩
  ·exact h.inn v hv
 have e:(Jn r k mt ix a).mu=r.mu/\(Jn r k mt ix a).sl.length=r.sl.length/\(Jn r k mt ix a).gl.length=r.gl.length/\(Jn r k mt ix a).qu.length=r.qu.length:=by
  unfold Jn;split
  ·exact ⟨rfl,yZ,rfl,rfl⟩
  ·split
   ·exact ⟨rfl,rfl,yZ,rfl⟩
   ·exact ⟨rfl,rfl,rfl,yZ⟩
 exact ⟨by rw[e.1]; exact h.m1,by rw[e.1]; exact h.m4,by rw[e.1,e.2.1]; exact h.sl,by rw[e.2.2.1]; exact h.gl,by rw[e.2.2.2]; exact h.qu,hm⟩
theorem nz {r:DX} {k:Int} {mt ix:Nat} {a v:Int} (h:v ∈ (MQ r k mt ix a).2.all):v=a\/v ∈ r.all:=by
 unfold MQ at h;split at h
 ·exact .inr h
 ·exact bq h
theorem ja {r:DX} {a v:Int} (h:v ∈ (N9 r a).2.all):v=a\/v ∈ r.all:=by
 unfold N9 at h;split at h
 ·exact .inr h
 ·split at h
  ·exact .inr h
  ·unfold DX.all at h ⊢;simp only[yf,yP] at h ⊢;rcases h with h | h | h
   ·exact .inr (.inl h)
   ·exact .inr (.inr h)
   ·exact .inl h
theorem DX.ok.push (h:r.ok) {a:Int} (ha:AK a):(N9 r a).2.ok:=by
 unfold N9;split
 ·exact h
 ·split
  ·exact h
  ·rename_i h1 h2;have hq:=h.qu;refine ⟨h.m1,h.m4,h.sl,h.gl,by show (r.qu++[a]).length<=64; rw[yi,zd]; omega,fun v hv=>?_⟩;unfold DX.all at hv;simp only[yf,yP] at hv;rcases hv with hv | hv | rfl
   ·exact h.inn v (by unfold DX.all; exact yf.2 (.inl (yf.2 hv)))
   ·exact h.inn v (by unfold DX.all; exact yf.2 (.inr hv))
   ·exact ⟨ha,by omega⟩
structure gR (p:PI):Prop where
 a1:∀ q ∈ hs p.s1,q≠p.rb/\q ∉ hs p.s2/\q ∉ hs p.s3
 a2:∀ q ∈ hs p.s2,q≠p.rb/\q ∉ hs p.s3
 a3:∀ q ∈ hs p.s3,q≠p.rb
theorem gR.of (h:p.l.Nodup):gR p:=by
 unfold PI.l at h;rw[Aa9,zv,zv] at h;obtain ⟨h0,h1,⟨h2,h3,h4⟩,h5⟩:=h;simp only[yf,Acr] at h0;refine ⟨fun q hq=>⟨fun e=>h0.1 (e ▸ hq),fun hm=>h5 q hq q (yf.2 (.inl hm)) rfl,fun hm=>h5 q hq q (yf.2 (.inr hm)) rfl⟩,fun q hq=>⟨fun e=>h0.2.1 (e ▸ hq),fun hm=>h4 q hq q hm rfl⟩,fun q hq e=>h0.2.2 (e ▸ hq)⟩
theorem gR.nd (h:gR p):p.l.Nodup:=by
 unfold PI.l;rw[Aa9,zv,zv];refine ⟨fun hm=>?_,Mr _,⟨Mr _,Mr _,fun a ha b hb e=>(h.a2 a ha).2 (e ▸ hb)⟩,fun a ha b hb e=>?_⟩
 ·rcases yf.1 hm with hm | hm
  ·exact (h.a1 _ hm).1 rfl
  rcases yf.1 hm with hm | hm
  ·exact (h.a2 _ hm).1 rfl
  ·exact h.a3 _ hm rfl
 ·subst e;rcases yf.1 hb with hb | hb
  ·exact (h.a1 _ ha).2.1 hb
  ·exact (h.a1 _ ha).2.2 hb
theorem Gv.loc (h:Gv J p r) {k:Int} {mt ix:Nat} (hp:OP r k mt ix):∃ b o,b ∈ p.l/\(k=0->p.s1.1=some ⟨b,0,none⟩/\o=16*mt+ix)/\(k=1->p.s2.1=some ⟨b,0,none⟩/\o=ix)/\(k=2->p.s3.1=some ⟨b,0,none⟩/\o=ix) /\
  ∀ a,AK a->0<=a -> ∃ c,CT J b o (.int .i64 a)=some (J.set b c)/\Gv (J.set b c) p (Jn r k mt ix a):=by
 have sep:=gR.of h.nd;have hsl:=h.ok.sl;have hgl:=h.ok.gl;rcases hp with ⟨rfl,hm,hi⟩ | ⟨rfl,rfl,hi⟩ | ⟨rfl,rfl,hi⟩
 ·obtain ⟨b,e,hb,_⟩:=h.sl.setAt (x:=16*mt+ix) (by omega) 0;refine ⟨b,16*mt+ix,p.m1 hb,fun _=>⟨e,rfl⟩,(fun hh=>by cases hh),(fun hh=>by cases hh),fun a ha h0=>?_⟩;obtain ⟨b',e',_,hl,es,hl'⟩:=h.sl.setAt (x:=16*mt+ix) (by omega) a;rw[e] at e'; cases e';obtain ⟨n1,n2,n3⟩:=sep.a1 b hb;exact ⟨_,es,(by rw[yc n1]; exact h.cell),hl',h.gl.Aw fun q hq=>IA n2 hq,h.qu.Aw fun q hq=>IA n3 hq,h.ok.put 0 mt ix ha h0,h.nd⟩
 ·obtain ⟨b,e,hb,_⟩:=h.gl.setAt (x:=ix) (by omega) 0;refine ⟨b,ix,p.m2 hb,(fun hh=>by cases hh),fun _=>⟨e,rfl⟩,(fun hh=>by cases hh),fun a ha h0=>?_⟩;obtain ⟨b',e',_,hl,es,hl'⟩:=h.gl.setAt (x:=ix) (by omega) a;rw[e] at e'; cases e';obtain ⟨n1,n2⟩:=sep.a2 b hb;exact ⟨_,es,(by rw[yc n1]; exact h.cell),h.sl.Aw fun q hq=>yc fun e:b=q=>(sep.a1 q hq).2.1 (by rw[<- e]; exact hb),hl',h.qu.Aw fun q hq=>IA n2 hq,h.ok.put 1 0 ix ha h0,h.nd⟩
 ·obtain ⟨b,e,hb,_⟩:=h.qu.setAt (x:=ix) hi 0;refine ⟨b,ix,p.m3 hb,(fun hh=>by cases hh),(fun hh=>by cases hh),fun _=>⟨e,rfl⟩,fun a ha h0=>?_⟩;obtain ⟨b',e',_,hl,es,hl'⟩:=h.qu.setAt (x:=ix) hi a;rw[e] at e'; cases e';have n1:=sep.a3 b hb;exact ⟨_,es,(by rw[yc n1]; exact h.cell),h.sl.Aw fun q hq=>yc fun e:b=q=>(sep.a1 q hq).2.2 (by rw[<- e]; exact hb),h.gl.Aw fun q hq=>yc fun e:b=q=>(sep.a2 q hq).2 (by rw[<- e]; exact hb),hl',h.ok.put 2 0 ix ha h0,h.nd⟩
theorem Yp (k:Nat) {b o n c ix h0:Nat} (hi:ix<n) (hl:Ak .i64 J h0 2=some (ix:Int)):Ed (k+1) (some ⟨b,o,none⟩,n,c) (some ⟨h0,0,none⟩) J=some (.pointer (some ⟨b,o+ix,none⟩),J):=by
 rw[Qa];simp only[AI,IN,hl,xY (show ¬ (ix:Int)<0 by omega),By,xY (show ¬ (ix:Int)>=(n:Int) by omega)];rw[yk (by omega)];simp only[xQ,yH]
theorem jq {s:Bp} {l:List Int} (h:Ba J s l) {mt:Nat} {b:Nat} (e:s.1=some ⟨b,0,none⟩) (hl:16*mt+16<=l.length):∃ c,F8 Aj 1 (s.1,l.length,l.length) (some (.int .i64 ((16*mt:Nat):Int))) (some (.int .i64 ((16*mt+16:Nat):Int))) none J=some (some ⟨b,16*mt,none⟩,16,c):=by
 have hc:J[b]?=some (.cells (AZ l) Aj true):=by
  obtain ⟨b',e',_,hc⟩:=h.ld (x:=0) (by omega);rw[e] at e'; cases e'; exact hc
 unfold F8;simp only[Aab,yY,Acf,IT,e];rw[OR (v:=l.length) (.inr ⟨rfl,rfl⟩) (yj _),OR (v:=16*mt+16) (.inl rfl) (by omega),OR (v:=16*mt) (.inl rfl) (by omega)];have e1:elemAt J b=some Aj:=by simp only[elemAt,hc]
 rw[ym (by omega)];simp only[AI,e1,ye,IN,yH];exact ⟨l.length-16*mt,by simp⟩
theorem vC (a:Addr):J9 P cz (.pointer (some a)) (.pointer none)=some false:=by kernel_rfl
theorem tq (k:Nat) (h:Gv J p r) {kk:Int} {mt ix b o:Nat} (hp:OP r kk mt ix) (h0:kk=0->p.s1.1=some ⟨b,0,none⟩/\o=16*mt+ix) (h1:kk=1->p.s2.1=some ⟨b,0,none⟩/\o=ix) (h2:kk=2->p.s3.1=some ⟨b,0,none⟩/\o=ix):
  HX (k+2) (FD p) kk (mt:Int) (ix:Int) J=some (.pointer (some ⟨b,o,none⟩),J++[Au.cells [.int .i64 kk,.int .i64 (mt:Int),.int .i64 (ix:Int)] Am true]):=by
 have hsl:=h.ok.sl;have hgl:=h.ok.gl;have hm4:=h.ok.m4;have hA:=h.app [Au.cells [.int .i64 kk,.int .i64 (mt:Int),.int .i64 (ix:Int)] Am true];rw[Tf];simp only[Ae,IN,Bh,yy,yB,AI,Ag];have l2:Ak .i64 (J++[Au.cells [.int .i64 kk,.int .i64 (mt:Int),.int .i64 (ix:Int)] Am true]) J.length 2=some (ix:Int):=by rw[Bh]; rfl
 rcases hp with ⟨rfl,hm,hi⟩ | ⟨rfl,rfl,hi⟩ | ⟨rfl,rfl,hi⟩
 ·obtain ⟨e,rfl⟩:=h0 rfl;have f:=hA.sl.form;have f1:p.s1.2.1=r.sl.length:=by rw[f]
  have f2:p.s1.2.2=r.sl.length:=by rw[f]
  obtain ⟨c,es⟩:=jq hA.sl (mt:=mt) e (by omega);have w1:Ar ((mt:Int)*16)=((16*mt:Nat):Int):=by rw[Ah (by unfold AK; omega)]; omega
  have w2:Ar ((mt:Int)+1)=((mt+1:Nat):Int):=Ah (by unfold AK; omega);have w3:Ar (((mt+1:Nat):Int)*16)=((16*mt+16:Nat):Int):=by rw[Ah (by unfold AK; omega)]; omega
  have ec:=Yp k (b:=b) (o:=16*mt) (c:=c) hi l2;simp only[show ((0:Int) == 0)=true from rfl,IT,xZ (show (mt:Int)>=0 by omega),hA.GK,AI,xZ (show (mt:Int)<(r.mu:Int) by omega),hA.E6,f1,f2,w1,w2,w3,es,ec,HD,Bh,yy,yB,Ag]
 ·obtain ⟨e,rfl⟩:=h1 rfl;have f:=hA.gl.form;have f1:p.s2.2.1=r.gl.length:=by rw[f]
  have f2:p.s2.2.2=r.gl.length:=by rw[f]
  have ec:=Yp k (b:=b) (o:=0) (n:=r.gl.length) (c:=r.gl.length) (by omega) l2;rw[IN] at ec;simp only[show ((1:Int) == 0)=false from rfl,By,AI,show ((1:Int) == 1)=true from rfl,IT,show (((0:Nat):Int) == 0)=true from rfl,hA.SE,e,f1,f2,ec,HD,Bh,yy,yB,Ag]
 ·obtain ⟨e,rfl⟩:=h2 rfl;have f:=hA.qu.form;have f1:p.s3.2.1=r.qu.length:=by rw[f]
  have f2:p.s3.2.2=r.qu.length:=by rw[f]
  have ec:=Yp k (b:=b) (o:=0) (n:=r.qu.length) (c:=r.qu.length) hi l2;rw[IN] at ec;simp only[show ((2:Int) == 0)=false from rfl,By,AI,show ((2:Int) == 1)=false from rfl,show ((2:Int) == 2)=true from rfl,IT,show (((0:Nat):Int) == 0)=true from rfl,hA.ZJ,e,f1,f2,ec,HD,Bh,yy,yB,Ag]
theorem gT (k:Nat) (h:Gv J p r) {kk:Int} {mt ix:Nat} (hp:OP r kk mt ix) (a:Int) (ha:AK a):∃ J',BA (k+4) (FD p) kk (mt:Int) (ix:Int) a J=some (.int .i64 (MQ r kk mt ix a).1,J')/\Gv J' p (MQ r kk mt ix a).2/\Mv p.l p.l J J':=by
 obtain ⟨B,hB⟩:∃ B,Au.cells [.int .i64 kk,.int .i64 (mt:Int),.int .i64 (ix:Int)] Am true=B:=⟨_,rfl⟩;have h3:=h.app [B,B,B];obtain ⟨b,o,hb,h0,h1,h2,hst⟩:=h3.loc hp;have hA:Gv (J++[B]++[B]) p r:=(h.app [B]).app [B];have ea:=tq k hA hp h0 h1 h2;rw[hB] at ea;have em:=LP (k+1) hA;have bl:∀ Z:Aa,Ak .i64 (Z++[B]) Z.length 0=some kk/\Ak .i64 (Z++[B]) Z.length 1=some (mt:Int)/\Ak .i64 (Z++[B]) Z.length 2=some (ix:Int):=fun Z=>by
  rw[<- hB];exact ⟨by rw[Bh]; rfl,by rw[Bh]; rfl,by rw[Bh]; rfl⟩
 obtain ⟨x0,x1,x2⟩:=bl J;obtain ⟨y0,y1,y2⟩:=bl (J++[B]);have hh:J++[B]++[B]++[B]=J++[B,B,B]:=by simp
 have ep:Ds (k+3) (FD p) kk (mt:Int) (ix:Int) (J++[B])=some (.tuple #[.pointer (some ⟨b,o,none⟩),.int .i64 0],J++[B,B,B]):=by
  rw[Ln];simp only[Ae,hB,IN,Nat.reduceAdd,em,AI,Ao,yp,By,y0,y1,y2,ea,HD,vC,hh]
 have z0:Ak .i64 (J++[B,B,B]) J.length 0=some kk:=by
  rw[show J++[B,B,B]=J++[B]++[B,B] from by simp,Jm _ _ _ (by simp)]; exact x0
 rw[R8];simp only[Ae,hB,IN,Nat.reduceAdd,x0,x1,x2,AI,ep,Ku,yr,By];unfold MQ;by_cases q1:a<0
 ·rw[yk (.inl q1),xZ q1];simp only[IT,AI];exact ⟨_,rfl,h3,Mv.app _ _ _⟩
 rw[xY q1];simp only[By];by_cases q2:a=0/\kk=2
 ·rw[yk (.inr q2),q2.1];rw[q2.2] at z0;simp only[show ((0:Int) == 0)=true from rfl,IT,z0,AI,show ((2:Int) == 2)=true from rfl];exact ⟨_,rfl,h3,Mv.app _ _ _⟩
 ·rw[ym (fun hh=>hh.elim q1 q2)];have hb2:((bif a == 0 then some (kk == 2,J++[B,B,B]) else some (false,J++[B,B,B])):Option (Bool × Aa))=some (false,J++[B,B,B]):=by
   by_cases q3:a=0
   ·have q4:kk≠2:=fun e=>q2 ⟨q3,e⟩;rw[q3,show (kk == 2)=false from yM.2 q4]; rfl
   ·rw[show (a == 0)=false from yM.2 q3]; rfl
  obtain ⟨c,es,hr⟩:=hst a ha (by omega);simp only[z0,AI,hb2,By,es];exact ⟨_,rfl,hr,(Mv.app p.l J _).trans (Mv.set _ _ hb)⟩
theorem rL (k:Nat) (h:Gv J p r) (a:Int) (ha:AK a):∃ J' p',FN (k+2) (FD p) a J=some (.int .i64 (N9 r a).1,J')/\Gv J' p' (N9 r a).2/\Mv p.l p'.l J J'/\p'.rb=p.rb:=by
 have hq:=h.ok.qu;have hok:=h.ok.push ha;rw[QU];simp only[LP k h,AI,Ao,yp,By,IN,h.ZJ];unfold N9 at hok ⊢;by_cases q1:a<=0
 ·rw[yk q1,xZ q1];exact ⟨_,p,rfl,h,Mv.refl _ _,rfl⟩
 rw[ym q1] at hok ⊢;rw[xY q1];have f:=h.qu.form;have f1:p.s3.2.1=r.qu.length:=by rw[f]
 have f2:p.s3.2.2=r.qu.length:=by rw[f]
 simp only[By,f1,f2];by_cases q2:r.qu.length=64
 ·rw[yk q2,show (((r.qu.length:Nat):Int) == 64)=true from by rw[q2]; rfl];exact ⟨_,p,rfl,h,Mv.refl _ _,rfl⟩
 rw[ym q2] at hok ⊢;rw[show (((r.qu.length:Nat):Int) == 64)=false from by rw[yM]; omega];obtain ⟨s',Z,e1,li,m1⟩:=h.qu.push a Aj (by omega);rw[f1,f2] at e1;have sep:=gR.of h.nd;have lt:=h.lt;have cell:Z[p.rb]?=_:=m1.L5 h.cell fun hm=>sep.a3 _ hm rfl;have new:∀ q ∈ hs s',q ∈ hs p.s3\/J.length<=q:=m1.new;have nrb:∀ q ∈ hs s',q≠p.rb:=fun q hq=>(new q hq).elim (sep.a3 q) fun hh e=>by have:=lt _ (zi:p.rb ∈ p.l); omega
 have n1:∀ q ∈ hs p.s1,q ∉ hs s':=fun q hq hm=>(new q hm).elim (sep.a1 q hq).2.2 fun hh=>by have:=lt q (p.m1 hq); omega
 have n2:∀ q ∈ hs p.s2,q ∉ hs s':=fun q hq hm=>(new q hm).elim (sep.a2 q hq).2 fun hh=>by have:=lt q (p.m2 hq); omega
 have es:CT Z p.rb 3 (.slice s'.1 s'.2.1 s'.2.2)=some (Z.set p.rb (.cells [.int .i64 (r.mu:Int),.slice p.s1.1 p.s1.2.1 p.s1.2.2,.slice p.s2.1 p.s2.2.1 p.s2.2.2,.slice s'.1 s'.2.1 s'.2.2] Lz true)):=by
  simp[CT,cell]
 have li1:Ba Z p.s1 r.sl:=h.sl.Aw fun q hq=>m1.same q (h.sl.lt q hq) (sep.a1 q hq).2.2;have li2:Ba Z p.s2 r.gl:=h.gl.Aw fun q hq=>m1.same q (h.gl.lt q hq) (sep.a2 q hq).2;simp only[By,Ae,e1,AI,es];refine ⟨_,{ p with s3:=s' },rfl,⟨yo (Af cell),li1.Aw fun q hq=>yc (sep.a1 q hq).1.symm,li2.Aw fun q hq=>yc (sep.a2 q hq).1.symm,li.Aw fun q hq=>yc (nrb q hq).symm,hok,gR.nd ⟨fun q hq=>⟨(sep.a1 q hq).1,(sep.a1 q hq).2.1,n1 q hq⟩,fun q hq=>⟨(sep.a2 q hq).1,n2 q hq⟩,nrb⟩⟩, ?_,rfl⟩;refine (m1.wide (K:=p.l) (K':=({ p with s3:=s' }:PI).l) (fun q hq=>p.m3 hq) fun q hq=>?_).trans (Mv.set _ _ zi);rcases yL.1 hq with rfl | hq
 ·exact .inl zi
 rcases yf.1 hq with hq | hq
 ·exact .inl (p.m1 hq)
 rcases yf.1 hq with hq | hq
 ·exact .inl (p.m2 hq)
 ·exact .inr (.inl hq)
theorem qe (k:Nat) {n:Nat} (h1:1<=n) (h4:n<=4) (J:Aa):∃ τ p,Hu (k+1) (n:Int) J=some (.tuple #[.pointer (FD p),.int .i64 0],J++τ)/\Gv (J++τ) p ⟨n,List.replicate (16*n) 0,List.replicate 16 0,[]⟩ /\ ∀ q ∈ p.l,J.length<=q:=by
 have w1:Ar ((n:Int)*16)=((16*n:Nat):Int):=by rw[Ah (by unfold AK; omega)]; omega
 rw[Y8];simp only[xY (show ¬ (n:Int)<1 by omega),By,xY (show ¬ (n:Int)>4 by omega),AI,w1,Ae];rw[yk (by omega),yk (by decide)];simp only[xQ,Vn,show (16:Int).toNat=16 from rfl];refine ⟨[.cells (AZ (List.replicate (16*n) 0)) Aj true,.cells (AZ (List.replicate 16 0)) Aj true,.cells [.int .i64 (n:Int),.slice (some ⟨J.length,0,none⟩) (16*n) (16*n),.slice (some ⟨J.length+1,0,none⟩) 16 16,.slice none 0 0] Lz true],⟨J.length+2,(some ⟨J.length,0,none⟩,16*n,16*n),(some ⟨J.length+1,0,none⟩,16,16),(none,0,0)⟩, ?_,⟨?_, ?_, ?_,Ba.nil _, ?_, ?_⟩, ?_⟩
 ·simp
 ·simp
 ·exact .inl (.inr ⟨J.length,by simp,zh _,by simp[AZ],by simp⟩)
 ·exact .inl (.inr ⟨J.length+1,by simp,zh _,by simp[AZ],by simp⟩)
 ·refine ⟨h1,h4,by simp,by simp,by simp,fun v hv=>?_⟩;unfold DX.all at hv;simp only[yf,Abf,zE,Abo] at hv;have:v=0:=by rcases hv with hv | hv <;> exact hv.2
  subst this;exact ⟨by unfold AK; omega,Aas _⟩
 ·simp[PI.l,hs]
 ·intro q hq;simp[PI.l,hs] at hq;omega
end
section
variable {J:Aa} {r:DX}
structure QI where
 qb:Nat
 ss:Bp
 sl:List Bp
 s2:Bp
 s3:Bp
def QI.l (p:QI):List Nat:=p.qb::(hs p.ss++(p.sl.flatMap hs++(hs p.s2++hs p.s3)))
def Vr (l:List Bp):List Value:=l.map fun s=>.slice s.1 s.2.1 s.2.2
def chunk (l:List Int) (x:Nat):List Int:=(l.drop (16*x)).take 16
structure wA (p:QI):Prop where
 a0:∀ q ∈ hs p.ss,q≠p.qb/\q ∉ p.sl.flatMap hs/\q ∉ hs p.s2/\q ∉ hs p.s3
 a1:∀ q ∈ p.sl.flatMap hs,q≠p.qb/\q ∉ hs p.s2/\q ∉ hs p.s3
 a2:∀ q ∈ hs p.s2,q≠p.qb/\q ∉ hs p.s3
 a3:∀ q ∈ hs p.s3,q≠p.qb
 nd:(p.sl.flatMap hs).Nodup
structure FY (J:Aa) (p:QI) (r:DX):Prop where
 cell:J[p.qb]?=some (.cells [.slice p.ss.1 p.ss.2.1 p.ss.2.2,.slice p.s2.1 p.s2.2.1 p.s2.2.2,.slice p.s3.1 p.s3.2.1 p.s3.2.2] B7 true)
 ss:Cq Gt 1 J p.ss r.mu (Vr p.sl)
 n:p.sl.length=r.mu
 inn:∀ (x:Nat) (h:x<p.sl.length),Ba J p.sl[x] (chunk r.sl x)
 gl:Ba J p.s2 r.gl
 qu:Ba J p.s3 r.qu
 ok:r.ok
 sep:wA p
variable {p:QI}
abbrev JA (p:QI):Option Addr:=some ⟨p.qb,0,none⟩
theorem QI.mem {p:QI} {q:Nat}:q ∈ p.l↔q=p.qb\/q ∈ hs p.ss\/q ∈ p.sl.flatMap hs\/q ∈ hs p.s2\/q ∈ hs p.s3:=by
 unfold QI.l; simp only[yL,yf]
theorem QI.mi (p:QI) {x:Nat} (h:x<p.sl.length) {q:Nat} (hq:q ∈ hs p.sl[x]):q ∈ p.sl.flatMap hs:=Aa1.2 ⟨_,yU h,hq⟩
theorem FY.Aw {J':Aa} (h:FY J p r) (hq:∀ q ∈ p.l,J'[q]?=J[q]?):FY J' p r:=
 ⟨(hq _ (QI.mem.2 (.inl rfl))).trans h.cell,h.ss.Aw fun a ha=>hq _ (QI.mem.2 (.inr (.inl (BN.2 ⟨a,ha,rfl⟩)))),h.n,fun x hx=>(h.inn x hx).Aw fun q hm=>hq q (QI.mem.2 (.inr (.inr (.inl (p.mi hx hm))))),h.gl.Aw fun q hm=>hq q (QI.mem.2 (.inr (.inr (.inr (.inl hm))))),h.qu.Aw fun q hm=>hq q (QI.mem.2 (.inr (.inr (.inr (.inr hm))))),h.ok,h.sep⟩
theorem FY.lt (h:FY J p r):∀ q ∈ p.l,q<J.length:=by
 intro q hq;rcases QI.mem.1 hq with rfl | hq | hq | hq | hq
 ·exact Af h.cell
 ·obtain ⟨a,ha,rfl⟩:=BN.1 hq; exact h.ss.lt a ha
 ·obtain ⟨s,hs',hm⟩:=Aa1.1 hq;obtain ⟨x,hx,rfl⟩:=Acv hs';exact (h.inn x hx).lt q hm
 ·exact h.gl.lt q hq
 ·exact h.qu.lt q hq
theorem FY.app (h:FY J p r) (τ:Aa):FY (J++τ) p r:=h.Aw fun q hq=>AT (h.lt q hq)
theorem FY.GK (h:FY J p r):AR J p.qb 0=some (p.ss.1,r.mu,r.mu):=by
 have:=h.ss.form;have e1:p.ss.2.1=r.mu:=by rw[this]
 have e2:p.ss.2.2=r.mu:=by rw[this]
 simp[AR,D5,h.cell,ED,e1,e2]
theorem FY.E6 (h:FY J p r):AR J p.qb 1=some (p.s2.1,r.gl.length,r.gl.length):=by
 have:=h.gl.form;have e1:p.s2.2.1=r.gl.length:=by rw[this]
 have e2:p.s2.2.2=r.gl.length:=by rw[this]
 simp[AR,D5,h.cell,ED,e1,e2]
theorem FY.SE (h:FY J p r):AR J p.qb 2=some (p.s3.1,r.qu.length,r.qu.length):=by
 have:=h.qu.form;have e1:p.s3.2.1=r.qu.length:=by rw[this]
 have e2:p.s3.2.2=r.qu.length:=by rw[this]
 simp[AR,D5,h.cell,ED,e1,e2]
theorem wM (a:Addr):J9 P G8 (.pointer (some a)) (.pointer none)=some false:=by kernel_rfl
theorem Se (k:Nat) (h:FY J p r):Bo (k+1) (JA p) J=some (.bool true,J):=by
 have:=h.ok.m1;rw[QS];simp only[wM,AI,yY,IT,IN,yl,h.GK];rw[xZ (by omega)]
theorem Vi (k:Nat) (h:FY J p r):CZ (k+2) (JA p) J=some (.int .i64 (r.mu:Int),J):=by
 rw[NL];simp only[Se k h,AI,Ao,yp,By,IN,yl,h.GK]
theorem mY (k:Nat) (h:FY J p r):∃ (s:Bp) (τ:Aa),Ec (k+2) (JA p) J=some (.slice s.1 s.2.1 s.2.2,J++τ)/\s.2.1=r.qu.length:=by
 have hq:=h.ok.qu;have f:=h.qu.form;have e1:p.s3.2.1=r.qu.length:=by rw[f]
 have e2:p.s3.2.2=r.qu.length:=by rw[f]
 obtain ⟨s',τ,e,hg,_⟩:=mq J p.s3 r.qu (by omega) h.qu.g;have hA:=h.app [Au.cells [] Aj true];rw[e1,e2] at e;refine ⟨s',[Au.cells [] Aj true]++τ, ?_,hg.1⟩;rw[PV];simp only[Se k h,AI,Ao,yp,By,Ae,IN,hA.SE,e,ya]
theorem VB {l:List Int} {n x:Nat} (hl:l.length=16*n) (hx:x<n):(chunk l x).length=16:=by
 unfold chunk; rw[zx,zz]; omega
theorem lT {l:List Int} {n mt ix:Nat} (hl:l.length=16*n) (hm:mt<n) (hi:ix<16) (a:Int) (x:Nat):chunk (l.set (16*mt+ix) a) x=if x=mt then (chunk l x).set ix a else chunk l x:=by
 unfold chunk;apply zy;intro q;by_cases e:x=mt
 ·subst e;rw[yk rfl];simp only[zt,zs,z8,zx,zz];by_cases q1:q<16
  ·rw[yk q1,yk q1];by_cases q2:ix=q
   ·subst q2;rw[yk rfl,yk (by omega),yk rfl,yk (by omega)]
   ·rw[ym (by omega),ym q2]
  ·rw[ym q1,ym (by omega),ym q1]
 ·rw[ym e];simp only[zt,zs,z8];by_cases q1:q<16
  ·rw[yk q1,yk q1,ym (by omega)]
  ·rw[ym q1,ym q1]
theorem YJ:∀ {l:List Bp} (h:(l.flatMap hs).Nodup) {x y:Nat} (hx:x<l.length) (hy:y<l.length) (hne:x≠y) {q:Nat} (h1:q ∈ hs l[x]),q ∉ hs l[y]
 | [],h,x,y,hx,hy,hne,q,h1=>by simp at hx
 | s::l,h,x,y,hx,hy,hne,q,h1=>by
   rw[Abz,zv] at h;obtain ⟨_,h2,h3⟩:=h;cases x with
   | zero=>
     cases y with
     | zero=>exact absurd rfl hne
     | succ y=>
       intro hm;exact h3 q h1 q (Aa1.2 ⟨_,yU (by simpa using hy),hm⟩) rfl
   | succ x=>
     cases y with
     | zero=>
       intro hm;exact h3 q hm q (Aa1.2 ⟨_,yU (by simpa using hx),h1⟩) rfl
     | succ y=>exact YJ h2 (by simpa using hx) (by simpa using hy) (by omega) h1
theorem FY.loc (h:FY J p r) {k:Int} {mt ix:Nat} (hp:OP r k mt ix):∃ b,b ∈ p.l/\(k=0 -> ∃ (hm:mt<p.sl.length),p.sl[mt].1=some ⟨b,0,none⟩)/\(k=1->p.s2.1=some ⟨b,0,none⟩)/\(k=2->p.s3.1=some ⟨b,0,none⟩) /\
  ∀ a,AK a->0<=a -> ∃ c,CT J b ix (.int .i64 a)=some (J.set b c)/\FY (J.set b c) p (Jn r k mt ix a):=by
 have sep:=h.sep;have hsl:=h.ok.sl;have hgl:=h.ok.gl;have hn:=h.n;rcases hp with ⟨rfl,hm,hi⟩ | ⟨rfl,rfl,hi⟩ | ⟨rfl,rfl,hi⟩
 ·have hmx:mt<p.sl.length:=by omega
  have hcl:=VB hsl hm;obtain ⟨b,e,hb,_⟩:=(h.inn mt hmx).setAt (x:=ix) (by omega) 0;have hbf:=p.mi hmx hb;refine ⟨b,QI.mem.2 (.inr (.inr (.inl hbf))),fun _=>⟨hmx,e⟩,(fun hh=>by cases hh),(fun hh=>by cases hh),fun a ha h0=>?_⟩;obtain ⟨b',e',_,hl,es,hl'⟩:=(h.inn mt hmx).setAt (x:=ix) (by omega) a;rw[e] at e'; cases e';obtain ⟨n1,n2,n3⟩:=sep.a1 b hbf;refine ⟨_,es,(by rw[yc n1]; exact h.cell),h.ss.Aw fun a ha=>yc fun e:b=a.block=>(sep.a0 _ (BN.2 ⟨a,ha,rfl⟩)).2.1 (by rw[<- e]; exact hbf),h.n,fun x hx=>?_,h.gl.Aw fun q hq=>IA n2 hq,h.qu.Aw fun q hq=>IA n3 hq,h.ok.put 0 mt ix ha h0,h.sep⟩;show Ba _ _ (chunk (r.sl.set _ _) x);rw[lT hsl hm hi];by_cases ex:x=mt
  ·subst ex; rw[yk rfl]; exact hl'
  ·rw[ym ex];exact (h.inn x hx).Aw fun q hq=>yc fun e:b=q=>YJ sep.nd hmx hx (yW ex) hb (by rw[e]; exact hq)
 ·obtain ⟨b,e,hb,_⟩:=h.gl.setAt (x:=ix) (by omega) 0;refine ⟨b,QI.mem.2 (.inr (.inr (.inr (.inl hb)))),(fun hh=>by cases hh),fun _=>e,(fun hh=>by cases hh),fun a ha h0=>?_⟩;obtain ⟨b',e',_,hl,es,hl'⟩:=h.gl.setAt (x:=ix) (by omega) a;rw[e] at e'; cases e';obtain ⟨n1,n2⟩:=sep.a2 b hb;exact ⟨_,es,(by rw[yc n1]; exact h.cell),h.ss.Aw fun a ha=>yc fun e:b=a.block=>(sep.a0 _ (BN.2 ⟨a,ha,rfl⟩)).2.2.1 (by rw[<- e]; exact hb),h.n,fun x hx=>(h.inn x hx).Aw fun q hq=>yc fun e:b=q=>(sep.a1 q (p.mi hx hq)).2.1 (by rw[<- e]; exact hb),hl',h.qu.Aw fun q hq=>IA n2 hq,h.ok.put 1 0 ix ha h0,h.sep⟩
 ·obtain ⟨b,e,hb,_⟩:=h.qu.setAt (x:=ix) hi 0;refine ⟨b,QI.mem.2 (.inr (.inr (.inr (.inr hb)))),(fun hh=>by cases hh),(fun hh=>by cases hh),fun _=>e,fun a ha h0=>?_⟩;obtain ⟨b',e',_,hl,es,hl'⟩:=h.qu.setAt (x:=ix) hi a;rw[e] at e'; cases e';have n1:=sep.a3 b hb;exact ⟨_,es,(by rw[yc n1]; exact h.cell),h.ss.Aw fun a ha=>yc fun e:b=a.block=>(sep.a0 _ (BN.2 ⟨a,ha,rfl⟩)).2.2.2 (by rw[<- e]; exact hb),h.n,fun x hx=>(h.inn x hx).Aw fun q hq=>yc fun e:b=q=>(sep.a1 q (p.mi hx hq)).2.2 (by rw[<- e]; exact hb),h.gl.Aw fun q hq=>yc fun e:b=q=>(sep.a2 q hq).2 (by rw[<- e]; exact hb),hl',h.ok.put 2 0 ix ha h0,h.sep⟩
theorem sG (k:Nat) (h:FY J p r) {kk:Int} {mt ix:Nat} (hp:OP r kk mt ix):Hr (k+1) (JA p) kk (mt:Int) (ix:Int) J=some (.bool true,J++[Au.cells [.int .i64 kk,.int .i64 (mt:Int),.int .i64 (ix:Int)] Am true]):=by
 have hA:=h.app [Au.cells [.int .i64 kk,.int .i64 (mt:Int),.int .i64 (ix:Int)] Am true];rw[R5];simp only[Ae,IN,Bh,yy,yB,AI,Ag];rcases hp with ⟨rfl,hm,hi⟩ | ⟨rfl,rfl,hi⟩ | ⟨rfl,rfl,hi⟩
 ·simp only[show ((0:Int) == 0)=true from rfl,IT,xZ (show (mt:Int)>=0 by omega),hA.GK,AI,xZ (show (mt:Int)<((r.mu:Nat):Int) by omega),xZ (show (ix:Int)>=0 by omega),xZ (show (ix:Int)<16 by omega),Bh,yy,yB,Ag]
 ·simp only[show ((1:Int) == 0)=false from rfl,By,show ((1:Int) == 1)=true from rfl,IT,show (((0:Nat):Int) == 0)=true from rfl,AI,xZ (show (ix:Int)>=0 by omega),xZ (show (ix:Int)<16 by omega),Bh,yy,yB,Ag]
 ·simp only[show ((2:Int) == 0)=false from rfl,By,show ((2:Int) == 1)=false from rfl,show ((2:Int) == 2)=true from rfl,IT,show (((0:Nat):Int) == 0)=true from rfl,AI,xZ (show (ix:Int)>=0 by omega),hA.SE,xZ (show (ix:Int)<((r.qu.length:Nat):Int) by omega),Bh,yy,yB,Ag]
theorem FY.vH (h:FY J p r) {x:Nat} (hx:x<p.sl.length):∃ q,p.ss.1=some ⟨q,0,none⟩/\AR J q x=some (p.sl[x].1,p.sl[x].2.1,p.sl[x].2.2):=by
 have hn:=h.n;rcases h.ss with ⟨h0,_⟩ | ⟨b,e,_,_,hc⟩
 ·omega
 ·refine ⟨b,by rw[e], ?_⟩;simp[AR,D5,hc,Vr,yg hx,ED]
theorem sH (k:Nat) (h:FY J p r) {kk:Int} {mt ix:Nat} (hp:OP r kk mt ix) (a:Int) (ha:AK a) (h0:0<=a):∃ J',Hs (k+1) (JA p) kk (mt:Int) (ix:Int) a J=some (.tuple #[],J')/\FY J' p (Jn r kk mt ix a)/\Mv p.l p.l J J':=by
 have hsl:=h.ok.sl;have hgl:=h.ok.gl;have hA:=h.app [Au.cells [.int .i64 kk,.int .i64 (mt:Int),.int .i64 (ix:Int)] Am true];obtain ⟨b,hb,h0',h1,h2,hst⟩:=hA.loc hp;obtain ⟨c,es,hr⟩:=hst a ha h0;refine ⟨_, ?_,hr,(Mv.app p.l J _).trans (Mv.set _ _ hb)⟩;rw[R6];simp only[Ae,IN,Bh,yy,yB,AI,Ag];rcases hp with ⟨rfl,hm,hi⟩ | ⟨rfl,rfl,hi⟩ | ⟨rfl,rfl,hi⟩
 ·obtain ⟨hmx,e⟩:=h0' rfl;obtain ⟨q,eq,lq⟩:=hA.vH hmx;have f:=(h.inn mt hmx).form;have f1:p.sl[mt].2.1=16:=by rw[f]; exact VB hsl hm
  have q1:(0<=(mt:Int)/\(mt:Int)<((r.mu:Nat):Int))=True:=zl (by omega);have q2:(0<=(ix:Int)/\(ix:Int)<((16:Nat):Int))=True:=zl (by omega);simp only[show ((0:Int) == 0)=true from rfl,IT,hA.GK,AI,q1,ye,eq,xQ,yH,IN,lq,f1,q2,e,es]
 ·have e:=h1 rfl;have q2:(0<=(ix:Int)/\(ix:Int)<((r.gl.length:Nat):Int))=True:=zl (by omega);simp only[show ((1:Int) == 0)=false from rfl,By,show ((1:Int) == 1)=true from rfl,IT,hA.E6,AI,q2,ye,e,xQ,yH,IN,es]
 ·have e:=h2 rfl;have q2:(0<=(ix:Int)/\(ix:Int)<((r.qu.length:Nat):Int))=True:=zl (by omega);simp only[show ((2:Int) == 0)=false from rfl,By,show ((2:Int) == 1)=false from rfl,hA.SE,AI,q2,ye,e,xQ,yH,IN,es]
theorem o7 (k:Nat) (h:FY J p r) {kk:Int} {mt ix:Nat} (hp:OP r kk mt ix) (a:Int) (ha:AK a):∃ J',Ej (k+2) (JA p) kk (mt:Int) (ix:Int) a J=some (.int .i64 (MQ r kk mt ix a).1,J')/\FY J' p (MQ r kk mt ix a).2/\Mv p.l p.l J J':=by
 obtain ⟨B,hB⟩:∃ B,Au.cells [.int .i64 kk,.int .i64 (mt:Int),.int .i64 (ix:Int)] Am true=B:=⟨_,rfl⟩;have hA:FY (J++[B]) p r:=h.app [B];have eh:=sG k hA hp;rw[hB] at eh;have h2:=hA.app [B];have em:Bo (k+1) (JA p) (J++[B])=_:=Se k hA;have bl:∀ τ,Ak .i64 (J++[B]++τ) J.length 0=some kk/\Ak .i64 (J++[B]++τ) J.length 1=some (mt:Int)/\Ak .i64 (J++[B]++τ) J.length 2=some (ix:Int):=fun τ=>by
  rw[<- hB];exact ⟨by rw[FU]; rfl,by rw[FU]; rfl,by rw[FU]; rfl⟩
 obtain ⟨x0,x1,x2⟩:=bl [];rw[yw] at x0 x1 x2;obtain ⟨y0,y1,y2⟩:=bl [B];rw[R3];simp only[Ae,hB,IN,Nat.reduceAdd,em,AI,Ao,yp,By,x0,x1,x2,eh];unfold MQ;by_cases q1:a<0
 ·rw[yk (.inl q1),xZ q1];simp only[IT,AI];exact ⟨_,rfl,h2,(Mv.app _ _ _).trans (Mv.app _ _ _)⟩
 rw[xY q1];simp only[By];by_cases q2:a=0/\kk=2
 ·rw[yk (.inr q2),q2.1];rw[q2.2] at y0;simp only[show ((0:Int) == 0)=true from rfl,IT,y0,AI,show ((2:Int) == 2)=true from rfl];exact ⟨_,rfl,h2,(Mv.app _ _ _).trans (Mv.app _ _ _)⟩
 ·rw[ym (fun hh=>hh.elim q1 q2)];have hb2:((bif a == 0 then some (kk == 2,J++[B]++[B]) else some (false,J++[B]++[B])):Option (Bool × Aa))=some (false,J++[B]++[B]):=by
   by_cases q3:a=0
   ·have q4:kk≠2:=fun e=>q2 ⟨q3,e⟩;rw[q3,show (kk == 2)=false from yM.2 q4]; rfl
   ·rw[show (a == 0)=false from yM.2 q3]; rfl
  obtain ⟨J',es,hr,m⟩:=sH k h2 hp a ha (by omega);simp only[y0,AI,hb2,By,y1,y2,es,Gs];exact ⟨_,rfl,hr,((Mv.app _ _ _).trans (Mv.app _ _ _)).trans m⟩
theorem rK (k:Nat) (h:FY J p r) (a:Int) (ha:AK a):∃ J' p',FK (k+2) (JA p) a J=some (.int .i64 (N9 r a).1,J')/\FY J' p' (N9 r a).2/\Mv p.l p'.l J J'/\p'.qb=p.qb:=by
 have hq:=h.ok.qu;have hok:=h.ok.push ha;rw[QT];simp only[Se k h,AI,Ao,yp,By,IN,h.SE];unfold N9 at hok ⊢;by_cases q1:a<=0
 ·rw[yk q1,xZ q1];exact ⟨_,p,rfl,h,Mv.refl _ _,rfl⟩
 rw[ym q1] at hok ⊢;rw[xY q1];simp only[By];by_cases q2:r.qu.length=64
 ·rw[yk q2,xZ (show ((r.qu.length:Nat):Int)>=64 by omega)];exact ⟨_,p,rfl,h,Mv.refl _ _,rfl⟩
 rw[ym q2] at hok ⊢;rw[xY (show ¬ ((r.qu.length:Nat):Int)>=64 by omega)];have f:=h.qu.form;have f1:p.s3.2.1=r.qu.length:=by rw[f]
 have f2:p.s3.2.2=r.qu.length:=by rw[f]
 obtain ⟨s',Z,e1,li,m1⟩:=h.qu.push a Aj (by omega);rw[f1,f2] at e1;have sep:=h.sep;have lt:=h.lt;have cell:Z[p.qb]?=_:=m1.L5 h.cell fun hm=>sep.a3 _ hm rfl;have new:∀ q ∈ hs s',q ∈ hs p.s3\/J.length<=q:=m1.new;have nrb:∀ q ∈ hs s',q≠p.qb:=fun q hq=>(new q hq).elim (sep.a3 q) fun hh e=>by have:=lt _ (QI.mem.2 (.inl rfl):p.qb ∈ p.l); omega
 have n0:∀ q ∈ hs p.ss,q ∉ hs s':=fun q hq hm=>(new q hm).elim (sep.a0 q hq).2.2.2 fun hh=>by have:=lt q (QI.mem.2 (.inr (.inl hq))); omega
 have n1:∀ q ∈ p.sl.flatMap hs,q ∉ hs s':=fun q hq hm=>(new q hm).elim (sep.a1 q hq).2.2 fun hh=>by have:=lt q (QI.mem.2 (.inr (.inr (.inl hq)))); omega
 have n2:∀ q ∈ hs p.s2,q ∉ hs s':=fun q hq hm=>(new q hm).elim (sep.a2 q hq).2 fun hh=>by have:=lt q (QI.mem.2 (.inr (.inr (.inr (.inl hq))))); omega
 have es:CT Z p.qb 2 (.slice s'.1 s'.2.1 s'.2.2)=some (Z.set p.qb (.cells [.slice p.ss.1 p.ss.2.1 p.ss.2.2,.slice p.s2.1 p.s2.2.1 p.s2.2.2,.slice s'.1 s'.2.1 s'.2.2] B7 true)):=by
  simp[CT,cell]
 have DH:∀ q,q ∈ p.l->q ∉ hs p.s3->q≠p.qb -> ∀ c,(Z.set p.qb c)[q]?=J[q]?:=fun q hq hn hne c=>by
  rw[yc hne.symm,m1.same q (lt q hq) hn]
 simp only[By,Ae,e1,AI,es];refine ⟨_,{ p with s3:=s' },rfl,⟨yo (Af cell),h.ss.Aw fun a ha=>?_,h.n,fun x hx=>(h.inn x hx).Aw fun q hq=>?_,h.gl.Aw fun q hq=>?_,li.Aw fun q hq=>yc (nrb q hq).symm,hok,⟨fun q hq=>⟨(sep.a0 q hq).1,(sep.a0 q hq).2.1,(sep.a0 q hq).2.2.1,n0 q hq⟩,fun q hq=>⟨(sep.a1 q hq).1,(sep.a1 q hq).2.1,n1 q hq⟩,fun q hq=>⟨(sep.a2 q hq).1,n2 q hq⟩,nrb,sep.nd⟩⟩, ?_,rfl⟩
 ·have hm:a.block ∈ hs p.ss:=BN.2 ⟨a,ha,rfl⟩;exact DH _ (QI.mem.2 (.inr (.inl hm))) (sep.a0 _ hm).2.2.2 (sep.a0 _ hm).1 _
 ·have hm:=p.mi hx hq;exact DH _ (QI.mem.2 (.inr (.inr (.inl hm)))) (sep.a1 _ hm).2.2 (sep.a1 _ hm).1 _
 ·exact DH _ (QI.mem.2 (.inr (.inr (.inr (.inl hq))))) (sep.a2 _ hq).2 (sep.a2 _ hq).1 _
 ·refine (m1.wide (K:=p.l) (K':=({ p with s3:=s' }:QI).l) (fun q hq=>QI.mem.2 (.inr (.inr (.inr (.inr hq))))) fun q hq=>?_).trans (Mv.set _ _ (QI.mem.2 (.inl rfl)));rcases QI.mem.1 hq with rfl | hq | hq | hq | hq
  ·exact .inl (QI.mem.2 (.inl rfl))
  ·exact .inl (QI.mem.2 (.inr (.inl hq)))
  ·exact .inl (QI.mem.2 (.inr (.inr (.inl hq))))
  ·exact .inl (QI.mem.2 (.inr (.inr (.inr (.inl hq)))))
  ·exact .inr (.inl hq)
theorem xG:GY P Gt=some 1:=by kernel_rfl
theorem xy:bytesOf P Gt=some 24:=by kernel_rfl
theorem xJ:Fq P Gt=some (.slice none 0 0):=by kernel_rfl
theorem ia {n x:Nat} (hx:x<n):chunk (List.replicate (16*n) 0) x=List.replicate 16 0:=by
 unfold chunk;rw[List.drop_replicate,List.take_replicate];congr 1; omega
structure rH (lo:Nat) (Z:Aa) (h3 h5 x:Nat) (q:QI):Prop where
 cell:Z[h5]?=some (.cells [.slice q.ss.1 q.ss.2.1 q.ss.2.2,.slice (some ⟨h3,0,none⟩) 16 16,.slice none 0 0] B7 true)
 gl:Z[h3]?=some (.cells (AZ (List.replicate 16 0)) Aj true)
 ss:Cq Gt 1 Z q.ss x (Vr q.sl)
 n:q.sl.length=x
 inn:∀ (y:Nat) (h:y<q.sl.length),Ba Z q.sl[y] (List.replicate 16 0)
 fl:∀ b ∈ q.sl.flatMap hs,h5<b/\b<Z.length
 f0:∀ b ∈ hs q.ss,h5<b/\b ∉ q.sl.flatMap hs
 nd:(q.sl.flatMap hs).Nodup
 lo3:lo<=h3
 l35:h3<h5
theorem aq (k:Nat) {lo nn:Nat} (hn:nn<=4) (h3 h5:Nat):∀ (n x f:Nat) (Z:Aa) (q:QI),rH lo Z h3 h5 x q->x+n=nn->n<f ->
  ∃ Z' q',HT (k+1) f (nn:Int) h5 (x:Int) Z=some (.exit 0,[],Z')/\rH lo Z' h3 h5 nn q'/\Z.length<=Z'.length /\ ∀ b,b<lo->Z'[b]?=Z[b]?
 | n,x,0,Z,q,S,hx,hf=>by omega
 | 0,x,f+1,Z,q,S,hx,hf=>by
   have e:x=nn:=by omega
   subst e;rw[NX];simp only[xY (show ¬ (x:Int)<(x:Int) by omega),By];exact ⟨Z,q,rfl,S,yj _,fun _ _=>rfl⟩
 | n+1,x,f+1,Z,q,S,hx,hf=>by
   have w1:Ar ((x:Int)+1)=((x+1:Nat):Int):=Ah (by unfold AK; omega);have fm:=S.ss.form;have f1:q.ss.2.1=x:=by rw[fm]
   have f2:q.ss.2.2=x:=by rw[fm]
   have ld:AR Z h5 0=some (q.ss.1,x,x):=by simp[AR,D5,S.cell,ED,f1,f2]
   have h5l:=Af S.cell;have h35:=S.l35;obtain ⟨B,hB⟩:∃ B,Au.cells (AZ (List.replicate 16 0)) Aj true=B:=⟨_,rfl⟩;have hss:Cq Gt 1 (Z++[B]) q.ss x (Vr q.sl):=S.ss.app _;obtain ⟨s',Z1_,e1,g1,hs1⟩:=Ms xG xy xJ rfl rfl (by decide) (by decide) (by decide) (Z++[B]) q.ss x (Vr q.sl) 1 1 [.slice (some ⟨Z.length,0,none⟩) 16 16] Gt (by omega) (by decide) rfl hss;have m1:=g1.mv;have len1:=m1.len;simp at len1;have o5:h5 ∉ hs q.ss:=fun hm=>by have:=(S.f0 _ hm).1; omega
   have o3:h3 ∉ hs q.ss:=fun hm=>by have:=(S.f0 _ hm).1; omega
   have cell1:Z1_[h5]?=_:=m1.L5 (o:=.cells [.slice q.ss.1 q.ss.2.1 q.ss.2.2,.slice (some ⟨h3,0,none⟩) 16 16,.slice none 0 0] B7 true) (by rw[AT h5l]; exact S.cell) o5;have es:CT Z1_ h5 0 (.slice s'.1 s'.2.1 s'.2.2)=some (Z1_.set h5 (.cells [.slice s'.1 s'.2.1 s'.2.2,.slice (some ⟨h3,0,none⟩) 16 16,.slice none 0 0] B7 true)):=by simp[CT,cell1]
   obtain ⟨Z2_,hμ2⟩:∃ Z2_,Z1_.set h5 (.cells [.slice s'.1 s'.2.1 s'.2.2,.slice (some ⟨h3,0,none⟩) 16 16,.slice none 0 0] B7 true)=Z2_:=⟨_,rfl⟩;have len2:Z2_.length=Z1_.length:=by rw[<- hμ2]; simp
   have DH:∀ b,b<Z.length->b≠h5->b ∉ hs q.ss->Z2_[b]?=Z[b]?:=fun b hb hne hn'=>by
    rw[<- hμ2,yc hne.symm,m1.same b (by simp; omega) hn',AT hb]
   have newS:∀ b ∈ hs s',b ∈ hs q.ss\/Z.length+1<=b:=fun b hb=>(m1.new b hb).imp id fun h=>by simpa using h
   have lim:Z.length ∉ hs q.ss:=fun hm=>by
    obtain ⟨a,ha,e⟩:=BN.1 hm;have:=S.ss.lt a ha;omega
   have hBm:Z2_[Z.length]?=some B:=by
    rw[<- hμ2,yc (by omega),m1.same _ (by simp) lim]; simp
   have S2:rH lo Z2_ h3 h5 (x+1) { q with ss:=s',sl:=q.sl++[(some ⟨Z.length,0,none⟩,16,16)] }:=by
    have hfm:∀ b,b ∈ (q.sl++[((some ⟨Z.length,0,none⟩,16,16):Bp)]).flatMap hs↔b ∈ q.sl.flatMap hs\/b=Z.length:=fun b=>by
     rw[Acy,yf]; simp[hs]
    refine ⟨by rw[<- hμ2,yo (by omega)],(DH h3 (by omega) (by omega) o3).trans S.gl, ?_,by rw[yi,S.n]; rfl,fun y hy=>?_,fun b hb=>?_,fun b hb=>?_, ?_,S.lo3,S.l35⟩
    ·have:Vr (q.sl++[((some ⟨Z.length,0,none⟩,16,16):Bp)])=Vr q.sl++[.slice (some ⟨Z.length,0,none⟩) 16 16]:=by simp[Vr]
     show Cq Gt 1 Z2_ s' (x+1) (Vr (q.sl++_));rw[this];refine hs1.Aw fun a ha=>?_;rw[<- hμ2];refine yc fun e=>?_;rcases newS a.block (BN.2 ⟨a,ha,rfl⟩) with h' | h'
     ·exact o5 (by rw[e]; exact h')
     ·omega
    ·by_cases hy2:y<q.sl.length
     ·show Ba Z2_ ((q.sl++_)[y]) _;rw[Aa3 hy2];refine (S.inn y hy2).Aw fun b hb=>DH b ((S.inn y hy2).lt b hb) (fun e=>?_) fun hm=>(S.f0 b hm).2 (q.mi hy2 hb);have:=(S.fl b (q.mi hy2 hb)).1;omega
     ·have hy':y<(q.sl++[((some ⟨Z.length,0,none⟩,16,16):Bp)]).length:=hy;have:y=q.sl.length:=by rw[yi,zd] at hy'; omega
      subst this;show Ba Z2_ ((q.sl++_)[q.sl.length]) _;rw[Aag (yj _)];simp only[Aaf,Abc];exact .inl (.inr ⟨Z.length,by simp,zh _,by simp[AZ],by rw[hBm,<- hB]⟩)
    ·rcases (hfm b).1 hb with hb | rfl
     ·have:=S.fl b hb; omega
     ·omega
    ·have hb:b ∈ hs s':=hb;refine ⟨?_,fun hm=>?_⟩
     ·rcases newS b hb with h' | h'
      ·exact (S.f0 b h').1
      ·omega
     ·rcases (hfm b).1 hm with hm | rfl
      ·rcases newS b hb with h' | h'
       ·exact (S.f0 b h').2 hm
       ·have:=(S.fl b hm).2; omega
      ·rcases newS _ hb with h' | h'
       ·exact lim h'
       ·omega
    ·show ((q.sl++_).flatMap hs).Nodup;rw[Acy,zv];refine ⟨S.nd,by simp[hs],fun a ha b hb e=>?_⟩;simp[hs] at hb;have:=(S.fl a ha).2;omega
   obtain ⟨Z',q',e3,S3,l3,k3⟩:=aq k hn h3 h5 n (x+1) f Z2_ _ S2 (by omega) (by omega);have hlo:=S.lo3;refine ⟨Z',q', ?_,S3,by omega,fun b hb=>(k3 b hb).trans (DH b (by omega) (by omega) fun hm=>by have:=(S.f0 b hm).1; omega)⟩;rw[NX];simp only[xZ (show (x:Int)<(nn:Int) by omega),IT,IN,ld,AI];rw[yk (by decide)];have e1':AF P Gt (q.ss.1,x,x) (some ⟨Z.length+1,0,none⟩,1,1) (Z++[B]++[Au.cells [.slice (some ⟨Z.length,0,none⟩) 16 16] Gt true])=some (s',Z1_):=by
    have:(Z++[B]).length=Z.length+1:=by simp
    rw[this] at e1;have hq:q.ss=(q.ss.1,x,x):=fm;rw[<- hq]; exact e1
   simp only[Vn,show (16:Int).toNat=16 from rfl,Ae,hB,yi,zd,e1',AI,es,hμ2,w1,e3]
theorem qc (k:Nat) (hk:10<=k) {n:Nat} (h1:1<=n) (h4:n<=4) (J:Aa):∃ τ p,Hq (k+2) (n:Int) J=some (.tuple #[.pointer (JA p),.int .i64 0],J++τ)/\FY (J++τ) p ⟨n,List.replicate (16*n) 0,List.replicate 16 0,[]⟩ /\ ∀ q ∈ p.l,J.length<=q:=by
 obtain ⟨Z0_,hμ0⟩:∃ Z0_,J++[Au.cells (AZ (List.replicate 16 0)) Aj true]++[Au.cells [.slice none 0 0,.slice (some ⟨J.length,0,none⟩) 16 16,.slice none 0 0] B7 true]=Z0_:=⟨_,rfl⟩;have S0:rH J.length Z0_ J.length (J.length+1) 0 ⟨J.length+1,(none,0,0),[],(some ⟨J.length,0,none⟩,16,16),(none,0,0)⟩:=by
  refine ⟨by rw[<- hμ0]; simp,by rw[<- hμ0]; simp,Cq.nil _ _ _,rfl,fun y hy=>by simp at hy,fun b hb=>by simp at hb,fun b hb=>by simp[hs] at hb,by simp,yj _,by omega⟩
 obtain ⟨Z',q',e,S,hl,hk'⟩:=aq k h4 J.length (J.length+1) n 0 (k+1) Z0_ _ S0 (by omega) (by omega);rw[show ((0:Nat):Int)=0 from rfl] at e;have l0:Z0_.length=J.length+2:=by rw[<- hμ0]; simp
 obtain ⟨τ,hτ⟩:∃ τ,Z'=J++τ:=by
  refine FV (by omega) fun q hq=>?_;rw[hk' q hq,<- hμ0,ya,AT hq]
 refine ⟨τ,⟨J.length+1,q'.ss,q'.sl,(some ⟨J.length,0,none⟩,16,16),(none,0,0)⟩, ?_, ?_,fun q hq=>?_⟩
 ·rw[Y2];simp only[xY (show ¬ (n:Int)<1 by omega),By,xY (show ¬ (n:Int)>4 by omega),AI];rw[yk (by decide)];simp only[Vn,show (16:Int).toNat=16 from rfl,Ae,yi,zd];rw[hμ0];simp only[e,AI,ye,hτ]
 ·rw[<- hτ];refine ⟨S.cell,S.ss,S.n,fun x hx=>?_, ?_,Ba.nil _, ?_, ?_⟩
  ·have hx':x<n:=by have:=S.n; have hx:x<q'.sl.length:=hx; omega
   show Ba Z' q'.sl[x] (chunk (List.replicate (16*n) 0) x);rw[ia hx'];exact S.inn x hx
  ·exact .inl (.inr ⟨J.length,by simp,zh _,by simp[AZ],S.gl⟩)
  ·refine ⟨h1,h4,by simp,by simp,by simp,fun v hv=>?_⟩;unfold DX.all at hv;simp only[yf,Abf,zE,Abo] at hv;have:v=0:=by rcases hv with hv | hv <;> exact hv.2
   subst this;exact ⟨by unfold AK; omega,Aas _⟩
  ·have g1:∀ b ∈ q'.sl.flatMap hs,J.length+1<b:=fun b hb=>(S.fl b hb).1;have g0:∀ b ∈ hs q'.ss,J.length+1<b/\b ∉ q'.sl.flatMap hs:=S.f0;refine ⟨fun q hq=>?_,fun q hq=>?_,fun q hq=>?_,fun q hq=>by simp[hs] at hq,S.nd⟩
   ·have hq:q ∈ hs q'.ss:=hq;have:=g0 q hq;refine ⟨by show q≠J.length+1; omega,this.2, ?_,by simp[hs]⟩;simp[hs]; omega
   ·have hq:q ∈ q'.sl.flatMap hs:=hq;have:=g1 q hq;refine ⟨by show q≠J.length+1; omega, ?_,by simp[hs]⟩;simp[hs]; omega
   ·simp[hs] at hq;refine ⟨by show q≠J.length+1; omega,by simp[hs]⟩
 ·rcases QI.mem.1 hq with rfl | hq | hq | hq | hq
  ·show J.length<=J.length+1; omega
  ·have:=(S.f0 q hq).1; omega
  ·have:=(S.fl q hq).1; omega
  ·simp[hs] at hq; omega
  ·simp[hs] at hq
end
end
end Go.Proofs.YtjbledomkmdkmaaGreat
