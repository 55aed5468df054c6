/- Part 10. -/
import Derived.Test.YtjbledomkmdkmaaGreatP9
set_option linter.unusedVariables false
set_option linter.unusedSimpArgs false
set_option linter.unusedSectionVars false
namespace Go.Proofs.YtjbledomkmdkmaaGreat
open Go Go.AX
noncomputable section
local instance qGQ:AH:=Ao
section
variable {J:Aa} {r:D3} {p:PI}
theorem Bh.setAt {s:Bv} {l:List Int} (h:Bh J s l) {x:Nat} (c:x<l.length) (v:Int):∃ b,s.1=some ⟨b,0,none⟩/\b ∈ hs s/\b<J.length/\CX J b x (qIi v)=some (J.set b (.cells (Bm (l.set x v)) Ak true))/\Bh (J.set b (.cells (Bm (l.set x v)) Ak true)) s (l.set x v):=by
 obtain ⟨b,e,_,a⟩:=h.ld c;have hb:=Af a;refine ⟨b,e,Nu e,hb,oA a c v,.inl (.inr ⟨b, ?_,Ade _,by rw[Cj,Acu],Abq hb⟩)⟩;have f:=h.form;rw[f,e,Ac8]
def Oi (r:D3) (k:Int) (mt ix:Nat):Prop:=(k=0/\mt<r.mu/\ix<16)\/(k=1/\mt=0/\ix<16)\/(k=2/\mt=0/\ix<r.qu.length)
def Ht (r:D3) (k:Int) (mt ix:Nat) (a:Int):D3:=if k=0 then { r with sl:=r.sl.set (16*mt+ix) a } else if k=1 then { r with gl:=r.gl.set ix a } else { r with qu:=r.qu.set ix a }
def Of (r:D3) (k:Int) (mt ix:Nat) (a:Int):Int × D3:=if a<0\/(a=0/\k=2) then (1,r) else (0,Ht r k mt ix a)
def Pc (r:D3) (a:Int):Int × D3:=if a<=0 then (1,r) else if r.qu.length=64 then (6,r) else (0,{ r with qu:=r.qu++[a] })
theorem Yw {r:D3} {k:Int} {mt ix:Nat} {a v:Int} (h:v ∈ (Ht r k mt ix a).all):v=a\/v ∈ r.all:=by
 unfold Ht D3.all at h;unfold D3.all;have key:∀ (l:List Int) (x:Nat),v ∈ l.set x a->v=a\/v ∈ l:=fun l x hm=>(Af2 hm).symm;split at h
 ·simp only[Aag] at h ⊢;rcases h with (h | h) | h
  ·exact (key _ _ h).imp id fun h=>.inl (.inl h)
  ·exact .inr (.inl (.inr h))
  ·exact .inr (.inr h)
 ·split at h
  ·simp only[Aag] at h ⊢;rcases h with (h | h) | h
   ·exact .inr (.inl (.inl h))
   ·exact (key _ _ h).imp id fun h=>.inl (.inr h)
   ·exact .inr (.inr h)
  ·simp only[Aag] at h ⊢;rcases h with (h | h) | h
   ·exact .inr (.inl (.inl h))
   ·exact .inr (.inl (.inr h))
   ·exact (key _ _ h).imp id fun h=>.inr h
theorem D3.ok.put (h:r.ok) (k:Int) (mt ix:Nat) {a:Int} (c:AO a) (h0:0<=a):(Ht r k mt ix a).ok:=by
 have hm:∀ v ∈ (Ht r k mt ix a).all,AO v/\0<=v:=fun v b=>by
  rcases Yw b with rfl | b
  ·exact ⟨c,h0⟩
  ·exact h.inn v b
 have e:(Ht r k mt ix a).mu=r.mu/\(Ht r k mt ix a).sl.length=r.sl.length/\(Ht r k mt ix a).gl.length=r.gl.length/\(Ht r k mt ix a).qu.length=r.qu.length:=by
  unfold Ht;split
  ·exact ⟨rfl,Ac8,rfl,rfl⟩
  ·split
   ·exact ⟨rfl,rfl,Ac8,rfl⟩
   ·exact ⟨rfl,rfl,rfl,Ac8⟩
 exact ⟨by rw[e.1]; exact h.m1,by rw[e.1]; exact h.m4,by rw[e.1,e.2.1]; exact h.sl,by rw[e.2.2.1]; exact h.gl,by rw[e.2.2.2]; exact h.qu,hm⟩
theorem sI {r:D3} {k:Int} {mt ix:Nat} {a v:Int} (h:v ∈ (Of r k mt ix a).2.all):v=a\/v ∈ r.all:=by
 unfold Of at h;split at h
 ·exact .inr h
 ·exact Yw h
theorem od {r:D3} {a v:Int} (h:v ∈ (Pc r a).2.all):v=a\/v ∈ r.all:=by
 unfold Pc at h;split at h
 ·exact .inr h
 ·split at h
  ·exact .inr h
  ·unfold D3.all at h ⊢;simp only[Aag,Ac1] at h ⊢;rcases h with h | h | h
   ·exact .inr (.inl h)
   ·exact .inr (.inr h)
   ·exact .inl h
theorem D3.ok.push (h:r.ok) {a:Int} (c:AO a):(Pc r a).2.ok:=by
 unfold Pc;split
 ·exact h
 ·split
  ·exact h
  ·rename_i h1 d;have e:=h.qu;refine ⟨h.m1,h.m4,h.sl,h.gl,by show (r.qu++[a]).length<=64; rw[Abe,Ac3]; omega,fun v b=>?_⟩;unfold D3.all at b;simp only[Aag,Ac1] at b;rcases b with b | b | rfl
   ·exact h.inn v (by unfold D3.all; exact Aag.2 (.inl (Aag.2 b)))
   ·exact h.inn v (by unfold D3.all; exact Aag.2 (.inr b))
   ·exact ⟨c,by omega⟩
structure mI (p:PI):Prop where
 a1:∀ q ∈ hs p.s1,q≠p.rb/\q ∉ hs p.s2/\q ∉ hs p.s3
 a2:∀ q ∈ hs p.s2,q≠p.rb/\q ∉ hs p.s3
 a3:∀ q ∈ hs p.s3,q≠p.rb
theorem mI.of (h:p.l.Nodup):mI p:=by
 unfold PI.l at h;rw[Ae8,Adv,Adv] at h;obtain ⟨h0,h1,⟨c,d,b⟩,h5⟩:=h;simp only[Aag,Ag7] at h0;refine ⟨fun q a=>⟨fun e=>h0.1 (e ▸ a),fun hm=>h5 q a q (Aag.2 (.inl hm)) rfl,fun hm=>h5 q a q (Aag.2 (.inr hm)) rfl⟩,fun q a=>⟨fun e=>h0.2.1 (e ▸ a),fun hm=>b q a q hm rfl⟩,fun q a e=>h0.2.2 (e ▸ a)⟩
theorem mI.nd (h:mI p):p.l.Nodup:=by
 unfold PI.l;rw[Ae8,Adv,Adv];refine ⟨fun hm=>?_,NB _,⟨NB _,NB _,fun a c b hb e=>(h.a2 a c).2 (e ▸ hb)⟩,fun a c b hb e=>?_⟩
 ·rcases Aag.1 hm with hm | hm
  ·exact (h.a1 _ hm).1 rfl
  rcases Aag.1 hm with hm | hm
  ·exact (h.a2 _ hm).1 rfl
  ·exact h.a3 _ hm rfl
 ·subst e;rcases Aag.1 hb with hb | hb
  ·exact (h.a1 _ c).2.1 hb
  ·exact (h.a1 _ c).2.2 hb
theorem Ha.loc (h:Ha J p r) {k:Int} {mt ix:Nat} (hp:Oi r k mt ix):∃ b o,b ∈ p.l/\(k=0->p.s1.1=some ⟨b,0,none⟩/\o=16*mt+ix)/\(k=1->p.s2.1=some ⟨b,0,none⟩/\o=ix)/\(k=2->p.s3.1=some ⟨b,0,none⟩/\o=ix) /\
  ∀ a,AO a->0<=a -> ∃ c,CX J b o (qIi a)=some (J.set b c)/\Ha (J.set b c) p (Ht r k mt ix a):=by
 have sep:=mI.of h.nd;have u:=h.ok.sl;have t:=h.ok.gl;rcases hp with ⟨rfl,hm,hi⟩ | ⟨rfl,rfl,hi⟩ | ⟨rfl,rfl,hi⟩
 ·obtain ⟨b,e,hb,_⟩:=h.sl.setAt (x:=16*mt+ix) (by omega) 0;refine ⟨b,16*mt+ix,p.m1 hb,fun _=>⟨e,rfl⟩,(fun d=>by cases d),(fun d=>by cases d),fun a j h0=>?_⟩;obtain ⟨n,i,_,s,es,f⟩:=h.sl.setAt (x:=16*mt+ix) (by omega) a;rw[e] at i; cases i;obtain ⟨l,m,v⟩:=sep.a1 b hb;exact ⟨_,es,(by rw[Aaf l]; exact h.cell),f,h.gl.Aw fun q g=>JE m g,h.qu.Aw fun q g=>JE v g,h.ok.put 0 mt ix j h0,h.nd⟩
 ·obtain ⟨b,e,hb,_⟩:=h.gl.setAt (x:=ix) (by omega) 0;refine ⟨b,ix,p.m2 hb,(fun d=>by cases d),fun _=>⟨e,rfl⟩,(fun d=>by cases d),fun a j h0=>?_⟩;obtain ⟨n,i,_,s,es,f⟩:=h.gl.setAt (x:=ix) (by omega) a;rw[e] at i; cases i;obtain ⟨l,m⟩:=sep.a2 b hb;exact ⟨_,es,(by rw[Aaf l]; exact h.cell),h.sl.Aw fun q g=>Aaf fun e:b=q=>(sep.a1 q g).2.1 (by rw[<- e]; exact hb),f,h.qu.Aw fun q g=>JE m g,h.ok.put 1 0 ix j h0,h.nd⟩
 ·obtain ⟨b,e,hb,_⟩:=h.qu.setAt (x:=ix) hi 0;refine ⟨b,ix,p.m3 hb,(fun d=>by cases d),(fun d=>by cases d),fun _=>⟨e,rfl⟩,fun a j h0=>?_⟩;obtain ⟨n,i,_,s,es,f⟩:=h.qu.setAt (x:=ix) hi a;rw[e] at i; cases i;have l:=sep.a3 b hb;exact ⟨_,es,(by rw[Aaf l]; exact h.cell),h.sl.Aw fun q g=>Aaf fun e:b=q=>(sep.a1 q g).2.2 (by rw[<- e]; exact hb),h.gl.Aw fun q g=>Aaf fun e:b=q=>(sep.a2 q g).2 (by rw[<- e]; exact hb),f,h.ok.put 2 0 ix j h0,h.nd⟩
theorem bh (k:Nat) {b o n c ix h0:Nat} (hi:ix<n) (a:Aj .i64 J h0 2=some (ix:Int)):EC (k+1) (some ⟨b,o,none⟩,n,c) (some ⟨h0,0,none⟩) J=some (qVi (some ⟨b,o+ix,none⟩),J):=by
 rw[RA];simp only[AI,IN,a,Aac (show ¬ (ix:Int)<0 by omega),By,Aac (show ¬ (ix:Int)>=(n:Int) by omega)];rw[Abm (by omega)];simp only[IT,Acu]
theorem o7 {s:Bv} {l:List Int} (h:Bh J s l) {mt:Nat} {b:Nat} (e:s.1=some ⟨b,0,none⟩) (i:16*mt+16<=l.length):∃ c,Gh Ak 1 (s.1,l.length,l.length) (some (qIi ((16*mt:Nat):Int))) (some (qIi ((16*mt+16:Nat):Int))) none J=some (some ⟨b,16*mt,none⟩,16,c):=by
 have a:J[b]?=some (.cells (Bm l) Ak true):=by
  obtain ⟨g,d,_,a⟩:=h.ld (x:=0) (by omega);rw[e] at d; cases d; exact a
 unfold Gh;simp only[Aem,Ac7,Agu,IS,e];rw[Qz (v:=l.length) (.inr ⟨rfl,rfl⟩) (Abp _),Qz (v:=16*mt+16) (.inl rfl) (by omega),Qz (v:=16*mt) (.inl rfl) (by omega)];have f:elemAt J b=some Ak:=by simp only[elemAt,a]
 rw[Abo (by omega)];simp only[AI,f,Aah,IN,Acu];exact ⟨l.length-16*mt,by simp⟩
theorem Aa3 (a:Addr):Ll P iH (qVi (some a)) (qVi none)=some false:=by kernel_rfl
theorem yf (k:Nat) (h:Ha J p r) {kk:Int} {mt ix b o:Nat} (hp:Oi r kk mt ix) (h0:kk=0->p.s1.1=some ⟨b,0,none⟩/\o=16*mt+ix) (h1:kk=1->p.s2.1=some ⟨b,0,none⟩/\o=ix) (h2:kk=2->p.s3.1=some ⟨b,0,none⟩/\o=ix):
  Jm (k+2) (F6 p) kk (mt:Int) (ix:Int) J=some (qVi (some ⟨b,o,none⟩),J++[Au.cells [qIi kk,qIi (mt:Int),qIi (ix:Int)] Am true]):=by
 have l:=h.ok.sl;have i:=h.ok.gl;have j:=h.ok.m4;have a:=h.app [Au.cells [qIi kk,qIi (mt:Int),qIi (ix:Int)] Am true];rw[Vi];simp only[Ae,IN,Bt,Ach,Acj,AI,Ah];have g:Aj .i64 (J++[Au.cells [qIi kk,qIi (mt:Int),qIi (ix:Int)] Am true]) J.length 2=some (ix:Int):=by rw[Bt]; rfl
 rcases hp with ⟨rfl,hm,hi⟩ | ⟨rfl,rfl,hi⟩ | ⟨rfl,rfl,hi⟩
 ·obtain ⟨e,rfl⟩:=h0 rfl;have f:=a.sl.form;have f1:p.s1.2.1=r.sl.length:=by rw[f]
  have f2:p.s1.2.2=r.sl.length:=by rw[f]
  obtain ⟨c,es⟩:=o7 a.sl (mt:=mt) e (by omega);have m:Ar ((mt:Int)*16)=((16*mt:Nat):Int):=by rw[Ai (by unfold AO; omega)]; omega
  have q:=wSu mt (by omega);have s:Ar (((mt+1:Nat):Int)*16)=((16*mt+16:Nat):Int):=by rw[Ai (by unfold AO; omega)]; omega
  have d:=bh k (b:=b) (o:=16*mt) (c:=c) hi g;simp only[show ((0:Int) == 0)=true from rfl,IS,Aad (show (mt:Int)>=0 by omega),a.HI,AI,Aad (show (mt:Int)<(r.mu:Int) by omega),a.EX,f1,f2,m,q,s,es,d,HO,Bt,Ach,Acj,Ah]
 ·obtain ⟨e,rfl⟩:=h1 rfl;have f:=a.gl.form;have f1:p.s2.2.1=r.gl.length:=by rw[f]
  have f2:p.s2.2.2=r.gl.length:=by rw[f]
  have d:=bh k (b:=b) (o:=0) (n:=r.gl.length) (c:=r.gl.length) (by omega) g;rw[IN] at d;simp only[show ((1:Int) == 0)=false from rfl,By,AI,show ((1:Int) == 1)=true from rfl,IS,show (((0:Nat):Int) == 0)=true from rfl,a.UH,e,f1,f2,d,HO,Bt,Ach,Acj,Ah]
 ·obtain ⟨e,rfl⟩:=h2 rfl;have f:=a.qu.form;have f1:p.s3.2.1=r.qu.length:=by rw[f]
  have f2:p.s3.2.2=r.qu.length:=by rw[f]
  have d:=bh k (b:=b) (o:=0) (n:=r.qu.length) (c:=r.qu.length) hi g;rw[IN] at d;simp only[show ((2:Int) == 0)=false from rfl,By,AI,show ((2:Int) == 1)=false from rfl,show ((2:Int) == 2)=true from rfl,IS,show (((0:Nat):Int) == 0)=true from rfl,a.cq,e,f1,f2,d,HO,Bt,Ach,Acj,Ah]
theorem mK (k:Nat) (h:Ha J p r) {kk:Int} {mt ix:Nat} (hp:Oi r kk mt ix) (a:Int) (y:AO a):∃ J',Bb (k+4) (F6 p) kk (mt:Int) (ix:Int) a J=some (qIi (Of r kk mt ix a).1,J')/\Ha J' p (Of r kk mt ix a).2/\Mv p.l p.l J J':=by
 obtain ⟨B,f⟩:∃ B,Au.cells [qIi kk,qIi (mt:Int),qIi (ix:Int)] Am true=B:=⟨_,rfl⟩;have i:=h.app [B,B,B];obtain ⟨b,o,hb,h0,h1,x,m⟩:=i.loc hp;have u:Ha (J++[B]++[B]) p r:=(h.app [B]).app [B];have t:=yf k u hp h0 h1 x;rw[f] at t;have em:=Ni (k+1) u;have s:∀ Z:Aa,Aj .i64 (Z++[B]) Z.length 0=some kk/\Aj .i64 (Z++[B]) Z.length 1=some (mt:Int)/\Aj .i64 (Z++[B]) Z.length 2=some (ix:Int):=fun Z=>by
  rw[<- f];exact ⟨by rw[Bt]; rfl,by rw[Bt]; rfl,by rw[Bt]; rfl⟩
 obtain ⟨v,C,D⟩:=s J;obtain ⟨E,F,G⟩:=s (J++[B]);have l:J++[B]++[B]++[B]=J++[B,B,B]:=by simp
 have w:DB (k+3) (F6 p) kk (mt:Int) (ix:Int) (J++[B])=some (.tuple #[qVi (some ⟨b,o,none⟩),qIi 0],J++[B,B,B]):=by
  rw[MB];simp only[Ae,f,IN,Nat.reduceAdd,em,AI,An,Abr,By,E,F,G,t,HO,Aa3,l]
 have q:Aj .i64 (J++[B,B,B]) J.length 0=some kk:=by
  rw[show J++[B,B,B]=J++[B]++[B,B] from by simp,HJ _ _ _ (by simp)]; exact v
 rw[TM];simp only[Ae,f,IN,Nat.reduceAdd,v,C,D,AI,w,LF,Abt,By];unfold Of;by_cases g:a<0
 ·rw[Abm (.inl g),Aad g];simp only[IS,AI];exact ⟨_,rfl,i,Mv.app _ _ _⟩
 rw[Aac g];simp only[By];by_cases d:a=0/\kk=2
 ·rw[Abm (.inr d),d.1];rw[d.2] at q;simp only[show ((0:Int) == 0)=true from rfl,IS,q,AI,show ((2:Int) == 2)=true from rfl];exact ⟨_,rfl,i,Mv.app _ _ _⟩
 ·rw[Abo (fun l=>l.elim g d)];have j:((bif a == 0 then some (kk == 2,J++[B,B,B]) else some (false,J++[B,B,B])):Option (Bool × Aa))=some (false,J++[B,B,B]):=by
   by_cases n:a=0
   ·have A:kk≠2:=fun e=>d ⟨n,e⟩;rw[n,show (kk == 2)=false from Acy.2 A]; rfl
   ·rw[show (a == 0)=false from Acy.2 n]; rfl
  obtain ⟨c,es,z⟩:=m a y (by omega);simp only[q,AI,j,By,es];exact ⟨_,rfl,z,(Mv.app p.l J _).trans (Mv.set _ _ hb)⟩
theorem wA (k:Nat) (h:Ha J p r) (a:Int) (s:AO a):∃ J' p',G3 (k+2) (F6 p) a J=some (qIi (Pc r a).1,J')/\Ha J' p' (Pc r a).2/\Mv p.l p'.l J J'/\p'.rb=p.rb:=by
 have b:=h.ok.qu;have c:=h.ok.push s;rw[SS];simp only[Ni k h,AI,An,Abr,By,IN,h.cq];unfold Pc at c ⊢;by_cases i:a<=0
 ·rw[Abm i,Aad i];exact ⟨_,p,rfl,h,Mv.refl _ _,rfl⟩
 rw[Abo i] at c ⊢;rw[Aac i];have f:=h.qu.form;have f1:p.s3.2.1=r.qu.length:=by rw[f]
 have f2:p.s3.2.2=r.qu.length:=by rw[f]
 simp only[By,f1,f2];by_cases m:r.qu.length=64
 ·rw[Abm m,show (((r.qu.length:Nat):Int) == 64)=true from by rw[m]; rfl];exact ⟨_,p,rfl,h,Mv.refl _ _,rfl⟩
 rw[Abo m] at c ⊢;rw[show (((r.qu.length:Nat):Int) == 64)=false from by rw[Acy]; omega];obtain ⟨s',Z,n,li,d⟩:=h.qu.push a Ak (by omega);rw[f1,f2] at n;have sep:=mI.of h.nd;have lt:=h.lt;have cell:Z[p.rb]?=_:=d.IX h.cell fun hm=>sep.a3 _ hm rfl;have new:∀ q ∈ hs s',q ∈ hs p.s3\/J.length<=q:=d.new;have g:∀ q ∈ hs s',q≠p.rb:=fun q b=>(new q b).elim (sep.a3 q) fun o e=>by have:=lt _ (Ac0:p.rb ∈ p.l); omega
 have t:∀ q ∈ hs p.s1,q ∉ hs s':=fun q b hm=>(new q hm).elim (sep.a1 q b).2.2 fun o=>by have:=lt q (p.m1 b); omega
 have u:∀ q ∈ hs p.s2,q ∉ hs s':=fun q b hm=>(new q hm).elim (sep.a2 q b).2 fun o=>by have:=lt q (p.m2 b); omega
 have es:CX Z p.rb 3 (.slice s'.1 s'.2.1 s'.2.2)=some (Z.set p.rb (.cells [qIi (r.mu:Int),.slice p.s1.1 p.s1.2.1 p.s1.2.2,.slice p.s2.1 p.s2.2.1 p.s2.2.2,.slice s'.1 s'.2.1 s'.2.2] ML true)):=by
  simp[CX,cell]
 have j:Bh Z p.s1 r.sl:=h.sl.Aw fun q b=>d.same q (h.sl.lt q b) (sep.a1 q b).2.2;have l:Bh Z p.s2 r.gl:=h.gl.Aw fun q b=>d.same q (h.gl.lt q b) (sep.a2 q b).2;simp only[By,Ae,n,AI,es];refine ⟨_,{ p with s3:=s' },rfl,⟨Abq (Af cell),j.Aw fun q b=>Aaf (sep.a1 q b).1.symm,l.Aw fun q b=>Aaf (sep.a2 q b).1.symm,li.Aw fun q b=>Aaf (g q b).symm,c,mI.nd ⟨fun q b=>⟨(sep.a1 q b).1,(sep.a1 q b).2.1,t q b⟩,fun q b=>⟨(sep.a2 q b).1,u q b⟩,g⟩⟩, ?_,rfl⟩;refine (d.wide (K:=p.l) (K':=({ p with s3:=s' }:PI).l) (fun q b=>p.m3 b) fun q b=>?_).trans (Mv.set _ _ Ac0);rcases Acv.1 b with rfl | b
 ·exact .inl Ac0
 rcases Aag.1 b with b | b
 ·exact .inl (p.m1 b)
 rcases Aag.1 b with b | b
 ·exact .inl (p.m2 b)
 ·exact .inr (.inl b)
theorem uZ (k:Nat) {n:Nat} (h1:1<=n) (b:n<=4) (J:Aa):∃ τ p,Iy (k+1) (n:Int) J=some (.tuple #[qVi (F6 p),qIi 0],J++τ)/\Ha (J++τ) p ⟨n,List.replicate (16*n) 0,List.replicate 16 0,[]⟩ /\ ∀ q ∈ p.l,J.length<=q:=by
 have d:Ar ((n:Int)*16)=((16*n:Nat):Int):=by rw[Ai (by unfold AO; omega)]; omega
 rw[bK];simp only[Aac (show ¬ (n:Int)<1 by omega),By,Aac (show ¬ (n:Int)>4 by omega),AI,d,Ae];rw[Abm (by omega),Abm (by decide)];simp only[IT,X0,show (16:Int).toNat=16 from rfl];refine ⟨[.cells (Bm (List.replicate (16*n) 0)) Ak true,.cells (Bm (List.replicate 16 0)) Ak true,.cells [qIi (n:Int),.slice (some ⟨J.length,0,none⟩) (16*n) (16*n),.slice (some ⟨J.length+1,0,none⟩) 16 16,.slice none 0 0] ML true],⟨J.length+2,(some ⟨J.length,0,none⟩,16*n,16*n),(some ⟨J.length+1,0,none⟩,16,16),(none,0,0)⟩, ?_,⟨?_, ?_, ?_,Bh.nil _, ?_, ?_⟩, ?_⟩
 ·simp
 ·simp
 ·exact .inl (.inr ⟨J.length,by simp,Ade _,by simp[Bm],by simp⟩)
 ·exact .inl (.inr ⟨J.length+1,by simp,Ade _,by simp[Bm],by simp⟩)
 ·refine ⟨h1,b,by simp,by simp,by simp,fun v a=>?_⟩;unfold D3.all at a;simp only[Aag,Afy,Ad3,Afz] at a;have:v=0:=by rcases a with a | a <;> exact a.2
  subst this;exact ⟨by unfold AO; omega,Aff _⟩
 ·simp[PI.l,hs]
 ·intro q c;simp[PI.l,hs] at c;omega
end
section
variable {J:Aa} {r:D3}
structure QI where
 qb:Nat
 ss:Bv
 sl:List Bv
 s2:Bv
 s3:Bv
def QI.l (p:QI):List Nat:=p.qb::(hs p.ss++(p.sl.flatMap hs++(hs p.s2++hs p.s3)))
def X4 (l:List Bv):List Value:=l.map fun s=>.slice s.1 s.2.1 s.2.2
def chunk (l:List Int) (x:Nat):List Int:=(l.drop (16*x)).take 16
structure Ab0 (p:QI):Prop where
 a0:∀ q ∈ hs p.ss,q≠p.qb/\q ∉ p.sl.flatMap hs/\q ∉ hs p.s2/\q ∉ hs p.s3
 a1:∀ q ∈ p.sl.flatMap hs,q≠p.qb/\q ∉ hs p.s2/\q ∉ hs p.s3
 a2:∀ q ∈ hs p.s2,q≠p.qb/\q ∉ hs p.s3
 a3:∀ q ∈ hs p.s3,q≠p.qb
 nd:(p.sl.flatMap hs).Nodup
structure F5 (J:Aa) (p:QI) (r:D3):Prop where
 cell:J[p.qb]?=some (.cells [.slice p.ss.1 p.ss.2.1 p.ss.2.2,.slice p.s2.1 p.s2.2.1 p.s2.2.2,.slice p.s3.1 p.s3.2.1 p.s3.2.2] BM true)
 ss:Cq FP 1 J p.ss r.mu (X4 p.sl)
 n:p.sl.length=r.mu
 inn:∀ (x:Nat) (h:x<p.sl.length),Bh J p.sl[x] (chunk r.sl x)
 gl:Bh J p.s2 r.gl
 qu:Bh J p.s3 r.qu
 ok:r.ok
 sep:Ab0 p
variable {p:QI}
abbrev GP (p:QI):qOi:=some ⟨p.qb,0,none⟩
theorem QI.mem {p:QI} {q:Nat}:q ∈ p.l↔q=p.qb\/q ∈ hs p.ss\/q ∈ p.sl.flatMap hs\/q ∈ hs p.s2\/q ∈ hs p.s3:=by
 unfold QI.l; simp only[Acv,Aag]
theorem QI.mi (p:QI) {x:Nat} (h:x<p.sl.length) {q:Nat} (a:q ∈ hs p.sl[x]):q ∈ p.sl.flatMap hs:=Afk.2 ⟨_,Ac4 h,a⟩
theorem F5.Aw {J':Aa} (h:F5 J p r) (b:∀ q ∈ p.l,J'[q]?=J[q]?):F5 J' p r:=
 ⟨(b _ (QI.mem.2 (.inl rfl))).trans h.cell,h.ss.Aw fun a d=>b _ (QI.mem.2 (.inr (.inl (BQ.2 ⟨a,d,rfl⟩)))),h.n,fun x c=>(h.inn x c).Aw fun q hm=>b q (QI.mem.2 (.inr (.inr (.inl (p.mi c hm))))),h.gl.Aw fun q hm=>b q (QI.mem.2 (.inr (.inr (.inr (.inl hm))))),h.qu.Aw fun q hm=>b q (QI.mem.2 (.inr (.inr (.inr (.inr hm))))),h.ok,h.sep⟩
theorem F5.lt (h:F5 J p r):∀ q ∈ p.l,q<J.length:=by
 intro q b;rcases QI.mem.1 b with rfl | b | b | b | b
 ·exact Af h.cell
 ·obtain ⟨a,d,rfl⟩:=BQ.1 b; exact h.ss.lt a d
 ·obtain ⟨s,c,hm⟩:=Afk.1 b;obtain ⟨x,e,rfl⟩:=Aha c;exact (h.inn x e).lt q hm
 ·exact h.gl.lt q b
 ·exact h.qu.lt q b
theorem F5.app (h:F5 J p r) (τ:Aa):F5 (J++τ) p r:=h.Aw fun q a=>AT (h.lt q a)
theorem F5.HI (h:F5 J p r):Bd J p.qb 0=some (p.ss.1,r.mu,r.mu):=by
 have:=h.ss.form;have a:p.ss.2.1=r.mu:=by rw[this]
 have b:p.ss.2.2=r.mu:=by rw[this]
 simp[Bd,CV,h.cell,Ej,a,b]
theorem F5.EX (h:F5 J p r):Bd J p.qb 1=some (p.s2.1,r.gl.length,r.gl.length):=by
 have:=h.gl.form;have a:p.s2.2.1=r.gl.length:=by rw[this]
 have b:p.s2.2.2=r.gl.length:=by rw[this]
 simp[Bd,CV,h.cell,Ej,a,b]
theorem F5.UH (h:F5 J p r):Bd J p.qb 2=some (p.s3.1,r.qu.length,r.qu.length):=by
 have:=h.qu.form;have a:p.s3.2.1=r.qu.length:=by rw[this]
 have b:p.s3.2.2=r.qu.length:=by rw[this]
 simp[Bd,CV,h.cell,Ej,a,b]
theorem Ace (a:Addr):Ll P Hm (qVi (some a)) (qVi none)=some false:=by kernel_rfl
theorem NG (k:Nat) (h:F5 J p r):AW (k+1) (GP p) J=some (.bool true,J):=by
 have:=h.ok.m1;rw[SQ];simp only[Ace,AI,Ac7,IS,IN,Abn,h.HI];rw[Aad (by omega)]
theorem Xs (k:Nat) (h:F5 J p r):Ds (k+2) (GP p) J=some (qIi (r.mu:Int),J):=by
 rw[Pq];simp only[NG k h,AI,An,Abr,By,IN,Abn,h.HI]
theorem sk (k:Nat) (h:F5 J p r):∃ (s:Bv) (τ:Aa),EB (k+2) (GP p) J=some (.slice s.1 s.2.1 s.2.2,J++τ)/\s.2.1=r.qu.length:=by
 have g:=h.ok.qu;have f:=h.qu.form;have a:p.s3.2.1=r.qu.length:=by rw[f]
 have b:p.s3.2.2=r.qu.length:=by rw[f]
 obtain ⟨s',τ,e,d,_⟩:=rE J p.s3 r.qu (by omega) h.qu.g;have c:=h.app [Au.cells [] Ak true];rw[a,b] at e;refine ⟨s',[Au.cells [] Ak true]++τ, ?_,d.1⟩;rw[R6];simp only[NG k h,AI,An,Abr,By,Ae,IN,c.UH,e,Aae]
theorem XM {l:List Int} {n x:Nat} (a:l.length=16*n) (b:x<n):(chunk l x).length=16:=by
 unfold chunk; rw[Adc,Adf]; omega
theorem qZ {l:List Int} {n mt ix:Nat} (d:l.length=16*n) (hm:mt<n) (hi:ix<16) (a:Int) (x:Nat):chunk (l.set (16*mt+ix) a) x=if x=mt then (chunk l x).set ix a else chunk l x:=by
 unfold chunk;apply Ady;intro q;by_cases e:x=mt
 ·subst e;rw[Abm rfl];simp only[Ads,Adq,Ad2,Adc,Adf];by_cases b:q<16
  ·rw[Abm b,Abm b];by_cases c:ix=q
   ·subst c;rw[Abm rfl,Abm (by omega),Abm rfl,Abm (by omega)]
   ·rw[Abo (by omega),Abo c]
  ·rw[Abo b,Abo (by omega),Abo b]
 ·rw[Abo e];simp only[Ads,Adq,Ad2];by_cases b:q<16
  ·rw[Abm b,Abm b,Abo (by omega)]
  ·rw[Abo b,Abo b]
theorem bT:∀ {l:List Bv} (h:(l.flatMap hs).Nodup) {x y:Nat} (b:x<l.length) (c:y<l.length) (a:x≠y) {q:Nat} (h1:q ∈ hs l[x]),q ∉ hs l[y]
 | [],h,x,y,b,c,a,q,h1=>by simp at b
 | s::l,h,x,y,b,c,a,q,h1=>by
   rw[Agg,Adv] at h;obtain ⟨_,e,d⟩:=h;cases x with
   | zero=>
     cases y with
     | zero=>exact absurd rfl a
     | succ y=>
       intro hm;exact d q h1 q (Afk.2 ⟨_,Ac4 (by simpa using c),hm⟩) rfl
   | succ x=>
     cases y with
     | zero=>
       intro hm;exact d q hm q (Afk.2 ⟨_,Ac4 (by simpa using b),h1⟩) rfl
     | succ y=>exact bT e (by simpa using b) (by simpa using c) (by omega) h1
theorem F5.loc (h:F5 J p r) {k:Int} {mt ix:Nat} (hp:Oi r k mt ix):∃ b,b ∈ p.l/\(k=0 -> ∃ (hm:mt<p.sl.length),p.sl[mt].1=some ⟨b,0,none⟩)/\(k=1->p.s2.1=some ⟨b,0,none⟩)/\(k=2->p.s3.1=some ⟨b,0,none⟩) /\
  ∀ a,AO a->0<=a -> ∃ c,CX J b ix (qIi a)=some (J.set b c)/\F5 (J.set b c) p (Ht r k mt ix a):=by
 have sep:=h.sep;have o:=h.ok.sl;have y:=h.ok.gl;have A:=h.n;rcases hp with ⟨rfl,hm,hi⟩ | ⟨rfl,rfl,hi⟩ | ⟨rfl,rfl,hi⟩
 ·have j:mt<p.sl.length:=by omega
  have w:=XM o hm;obtain ⟨b,e,hb,_⟩:=(h.inn mt j).setAt (x:=ix) (by omega) 0;have n:=p.mi j hb;refine ⟨b,QI.mem.2 (.inr (.inr (.inl n))),fun _=>⟨j,e⟩,(fun g=>by cases g),(fun g=>by cases g),fun a f h0=>?_⟩;obtain ⟨u,l,_,v,es,i⟩:=(h.inn mt j).setAt (x:=ix) (by omega) a;rw[e] at l; cases l;obtain ⟨s,t,z⟩:=sep.a1 b n;refine ⟨_,es,(by rw[Aaf s]; exact h.cell),h.ss.Aw fun a f=>Aaf fun e:b=a.block=>(sep.a0 _ (BQ.2 ⟨a,f,rfl⟩)).2.1 (by rw[<- e]; exact n),h.n,fun x m=>?_,h.gl.Aw fun q d=>JE t d,h.qu.Aw fun q d=>JE z d,h.ok.put 0 mt ix f h0,h.sep⟩;show Bh _ _ (chunk (r.sl.set _ _) x);rw[qZ o hm hi];by_cases ex:x=mt
  ·subst ex; rw[Abm rfl]; exact i
  ·rw[Abo ex];exact (h.inn x m).Aw fun q d=>Aaf fun e:b=q=>bT sep.nd j m (Ac9 ex) hb (by rw[e]; exact d)
 ·obtain ⟨b,e,hb,_⟩:=h.gl.setAt (x:=ix) (by omega) 0;refine ⟨b,QI.mem.2 (.inr (.inr (.inr (.inl hb)))),(fun g=>by cases g),fun _=>e,(fun g=>by cases g),fun a f h0=>?_⟩;obtain ⟨u,l,_,v,es,i⟩:=h.gl.setAt (x:=ix) (by omega) a;rw[e] at l; cases l;obtain ⟨s,t⟩:=sep.a2 b hb;exact ⟨_,es,(by rw[Aaf s]; exact h.cell),h.ss.Aw fun a f=>Aaf fun e:b=a.block=>(sep.a0 _ (BQ.2 ⟨a,f,rfl⟩)).2.2.1 (by rw[<- e]; exact hb),h.n,fun x m=>(h.inn x m).Aw fun q d=>Aaf fun e:b=q=>(sep.a1 q (p.mi m d)).2.1 (by rw[<- e]; exact hb),i,h.qu.Aw fun q d=>JE t d,h.ok.put 1 0 ix f h0,h.sep⟩
 ·obtain ⟨b,e,hb,_⟩:=h.qu.setAt (x:=ix) hi 0;refine ⟨b,QI.mem.2 (.inr (.inr (.inr (.inr hb)))),(fun g=>by cases g),(fun g=>by cases g),fun _=>e,fun a f h0=>?_⟩;obtain ⟨u,l,_,v,es,i⟩:=h.qu.setAt (x:=ix) hi a;rw[e] at l; cases l;have s:=sep.a3 b hb;exact ⟨_,es,(by rw[Aaf s]; exact h.cell),h.ss.Aw fun a f=>Aaf fun e:b=a.block=>(sep.a0 _ (BQ.2 ⟨a,f,rfl⟩)).2.2.2 (by rw[<- e]; exact hb),h.n,fun x m=>(h.inn x m).Aw fun q d=>Aaf fun e:b=q=>(sep.a1 q (p.mi m d)).2.2 (by rw[<- e]; exact hb),h.gl.Aw fun q d=>Aaf fun e:b=q=>(sep.a2 q d).2 (by rw[<- e]; exact hb),i,h.ok.put 2 0 ix f h0,h.sep⟩
theorem pN (k:Nat) (h:F5 J p r) {kk:Int} {mt ix:Nat} (hp:Oi r kk mt ix):FH (k+1) (GP p) kk (mt:Int) (ix:Int) J=some (.bool true,J++[Au.cells [qIi kk,qIi (mt:Int),qIi (ix:Int)] Am true]):=by
 have a:=h.app [Au.cells [qIi kk,qIi (mt:Int),qIi (ix:Int)] Am true];rw[TJ];simp only[Ae,IN,Bt,Ach,Acj,AI,Ah];rcases hp with ⟨rfl,hm,hi⟩ | ⟨rfl,rfl,hi⟩ | ⟨rfl,rfl,hi⟩
 ·simp only[show ((0:Int) == 0)=true from rfl,IS,Aad (show (mt:Int)>=0 by omega),a.HI,AI,Aad (show (mt:Int)<((r.mu:Nat):Int) by omega),Aad (show (ix:Int)>=0 by omega),Aad (show (ix:Int)<16 by omega),Bt,Ach,Acj,Ah]
 ·simp only[show ((1:Int) == 0)=false from rfl,By,show ((1:Int) == 1)=true from rfl,IS,show (((0:Nat):Int) == 0)=true from rfl,AI,Aad (show (ix:Int)>=0 by omega),Aad (show (ix:Int)<16 by omega),Bt,Ach,Acj,Ah]
 ·simp only[show ((2:Int) == 0)=false from rfl,By,show ((2:Int) == 1)=false from rfl,show ((2:Int) == 2)=true from rfl,IS,show (((0:Nat):Int) == 0)=true from rfl,AI,Aad (show (ix:Int)>=0 by omega),a.UH,Aad (show (ix:Int)<((r.qu.length:Nat):Int) by omega),Bt,Ach,Acj,Ah]
theorem F5.Aa7 (h:F5 J p r) {x:Nat} (c:x<p.sl.length):∃ q,p.ss.1=some ⟨q,0,none⟩/\Bd J q x=some (p.sl[x].1,p.sl[x].2.1,p.sl[x].2.2):=by
 have d:=h.n;rcases h.ss with ⟨h0,_⟩ | ⟨b,e,_,_,a⟩
 ·omega
 ·refine ⟨b,by rw[e], ?_⟩;simp[Bd,CV,a,X4,Aaj c,Ej]
theorem xw (k:Nat) (h:F5 J p r) {kk:Int} {mt ix:Nat} (hp:Oi r kk mt ix) (a:Int) (o:AO a) (h0:0<=a):∃ J',Iu (k+1) (GP p) kk (mt:Int) (ix:Int) a J=some (.tuple #[],J')/\F5 J' p (Ht r kk mt ix a)/\Mv p.l p.l J J':=by
 have l:=h.ok.sl;have s:=h.ok.gl;have d:=h.app [Au.cells [qIi kk,qIi (mt:Int),qIi (ix:Int)] Am true];obtain ⟨b,hb,j,h1,n,m⟩:=d.loc hp;obtain ⟨c,es,t⟩:=m a o h0;refine ⟨_, ?_,t,(Mv.app p.l J _).trans (Mv.set _ _ hb)⟩;rw[TK];simp only[Ae,IN,Bt,Ach,Acj,AI,Ah];rcases hp with ⟨rfl,hm,hi⟩ | ⟨rfl,rfl,hi⟩ | ⟨rfl,rfl,hi⟩
 ·obtain ⟨g,e⟩:=j rfl;obtain ⟨q,eq,u⟩:=d.Aa7 g;have f:=(h.inn mt g).form;have f1:p.sl[mt].2.1=16:=by rw[f]; exact XM l hm
  have v:=qSu mt r.mu (by omega);have i:=qSu ix 16 (by omega);simp only[show ((0:Int) == 0)=true from rfl,IS,d.HI,AI,v,Aah,eq,IT,Acu,IN,u,f1,i,e,es]
 ·have e:=h1 rfl;have i:=qSu ix r.gl.length (by omega);simp only[show ((1:Int) == 0)=false from rfl,By,show ((1:Int) == 1)=true from rfl,IS,d.EX,AI,i,Aah,e,IT,Acu,IN,es]
 ·have e:=n rfl;have i:=qSu ix r.qu.length (by omega);simp only[show ((2:Int) == 0)=false from rfl,By,show ((2:Int) == 1)=false from rfl,d.UH,AI,i,Aah,e,IT,Acu,IN,es]
theorem tE (k:Nat) (h:F5 J p r) {kk:Int} {mt ix:Nat} (hp:Oi r kk mt ix) (a:Int) (u:AO a):∃ J',EG (k+2) (GP p) kk (mt:Int) (ix:Int) a J=some (qIi (Of r kk mt ix a).1,J')/\F5 J' p (Of r kk mt ix a).2/\Mv p.l p.l J J':=by
 obtain ⟨B,g⟩:∃ B,Au.cells [qIi kk,qIi (mt:Int),qIi (ix:Int)] Am true=B:=⟨_,rfl⟩;have f:F5 (J++[B]) p r:=h.app [B];have o:=pN k f hp;rw[g] at o;have d:=f.app [B];have em:AW (k+1) (GP p) (J++[B])=_:=NG k f;have n:∀ τ,Aj .i64 (J++[B]++τ) J.length 0=some kk/\Aj .i64 (J++[B]++τ) J.length 1=some (mt:Int)/\Aj .i64 (J++[B]++τ) J.length 2=some (ix:Int):=fun τ=>by
  rw[<- g];exact ⟨by rw[G9]; rfl,by rw[G9]; rfl,by rw[G9]; rfl⟩
 obtain ⟨q,s,t⟩:=n [];rw[Abu] at q s t;obtain ⟨l,y,z⟩:=n [B];rw[TH];simp only[Ae,g,IN,Nat.reduceAdd,em,AI,An,Abr,By,q,s,t,o];unfold Of;by_cases c:a<0
 ·rw[Abm (.inl c),Aad c];simp only[IS,AI];exact ⟨_,rfl,d,(Mv.app _ _ _).trans (Mv.app _ _ _)⟩
 rw[Aac c];simp only[By];by_cases b:a=0/\kk=2
 ·rw[Abm (.inr b),b.1];rw[b.2] at l;simp only[show ((0:Int) == 0)=true from rfl,IS,l,AI,show ((2:Int) == 2)=true from rfl];exact ⟨_,rfl,d,(Mv.app _ _ _).trans (Mv.app _ _ _)⟩
 ·rw[Abo (fun v=>v.elim c b)];have i:((bif a == 0 then some (kk == 2,J++[B]++[B]) else some (false,J++[B]++[B])):Option (Bool × Aa))=some (false,J++[B]++[B]):=by
   by_cases j:a=0
   ·have x:kk≠2:=fun e=>b ⟨j,e⟩;rw[j,show (kk == 2)=false from Acy.2 x]; rfl
   ·rw[show (a == 0)=false from Acy.2 j]; rfl
  obtain ⟨J',es,w,m⟩:=xw k d hp a u (by omega);simp only[l,AI,i,By,y,z,es,Gg];exact ⟨_,rfl,w,((Mv.app _ _ _).trans (Mv.app _ _ _)).trans m⟩
theorem w9 (k:Nat) (h:F5 J p r) (a:Int) (m:AO a):∃ J' p',Gy (k+2) (GP p) a J=some (qIi (Pc r a).1,J')/\F5 J' p' (Pc r a).2/\Mv p.l p'.l J J'/\p'.qb=p.qb:=by
 have b:=h.ok.qu;have d:=h.ok.push m;rw[SR];simp only[NG k h,AI,An,Abr,By,IN,h.UH];unfold Pc at d ⊢;by_cases j:a<=0
 ·rw[Abm j,Aad j];exact ⟨_,p,rfl,h,Mv.refl _ _,rfl⟩
 rw[Abo j] at d ⊢;rw[Aac j];simp only[By];by_cases u:r.qu.length=64
 ·rw[Abm u,Aad (show ((r.qu.length:Nat):Int)>=64 by omega)];exact ⟨_,p,rfl,h,Mv.refl _ _,rfl⟩
 rw[Abo u] at d ⊢;rw[Aac (show ¬ ((r.qu.length:Nat):Int)>=64 by omega)];have f:=h.qu.form;have f1:p.s3.2.1=r.qu.length:=by rw[f]
 have f2:p.s3.2.2=r.qu.length:=by rw[f]
 obtain ⟨s',Z,s,li,i⟩:=h.qu.push a Ak (by omega);rw[f1,f2] at s;have sep:=h.sep;have lt:=h.lt;have cell:Z[p.qb]?=_:=i.IX h.cell fun hm=>sep.a3 _ hm rfl;have new:∀ q ∈ hs s',q ∈ hs p.s3\/J.length<=q:=i.new;have g:∀ q ∈ hs s',q≠p.qb:=fun q b=>(new q b).elim (sep.a3 q) fun n e=>by have:=lt _ (QI.mem.2 (.inl rfl):p.qb ∈ p.l); omega
 have w:∀ q ∈ hs p.ss,q ∉ hs s':=fun q b hm=>(new q hm).elim (sep.a0 q b).2.2.2 fun n=>by have:=lt q (QI.mem.2 (.inr (.inl b))); omega
 have y:∀ q ∈ p.sl.flatMap hs,q ∉ hs s':=fun q b hm=>(new q hm).elim (sep.a1 q b).2.2 fun n=>by have:=lt q (QI.mem.2 (.inr (.inr (.inl b)))); omega
 have z:∀ q ∈ hs p.s2,q ∉ hs s':=fun q b hm=>(new q hm).elim (sep.a2 q b).2 fun n=>by have:=lt q (QI.mem.2 (.inr (.inr (.inr (.inl b))))); omega
 have es:CX Z p.qb 2 (.slice s'.1 s'.2.1 s'.2.2)=some (Z.set p.qb (.cells [.slice p.ss.1 p.ss.2.1 p.ss.2.2,.slice p.s2.1 p.s2.2.1 p.s2.2.2,.slice s'.1 s'.2.1 s'.2.2] BM true)):=by
  simp[CX,cell]
 have l:∀ q,q ∈ p.l->q ∉ hs p.s3->q≠p.qb -> ∀ c,(Z.set p.qb c)[q]?=J[q]?:=fun q b v o c=>by
  rw[Aaf o.symm,i.same q (lt q b) v]
 simp only[By,Ae,s,AI,es];refine ⟨_,{ p with s3:=s' },rfl,⟨Abq (Af cell),h.ss.Aw fun a m=>?_,h.n,fun x t=>(h.inn x t).Aw fun q b=>?_,h.gl.Aw fun q b=>?_,li.Aw fun q b=>Aaf (g q b).symm,d,⟨fun q b=>⟨(sep.a0 q b).1,(sep.a0 q b).2.1,(sep.a0 q b).2.2.1,w q b⟩,fun q b=>⟨(sep.a1 q b).1,(sep.a1 q b).2.1,y q b⟩,fun q b=>⟨(sep.a2 q b).1,z q b⟩,g,sep.nd⟩⟩, ?_,rfl⟩
 ·have hm:a.block ∈ hs p.ss:=BQ.2 ⟨a,m,rfl⟩;exact l _ (QI.mem.2 (.inr (.inl hm))) (sep.a0 _ hm).2.2.2 (sep.a0 _ hm).1 _
 ·have hm:=p.mi t b;exact l _ (QI.mem.2 (.inr (.inr (.inl hm)))) (sep.a1 _ hm).2.2 (sep.a1 _ hm).1 _
 ·exact l _ (QI.mem.2 (.inr (.inr (.inr (.inl b))))) (sep.a2 _ b).2 (sep.a2 _ b).1 _
 ·refine (i.wide (K:=p.l) (K':=({ p with s3:=s' }:QI).l) (fun q b=>QI.mem.2 (.inr (.inr (.inr (.inr b))))) fun q b=>?_).trans (Mv.set _ _ (QI.mem.2 (.inl rfl)));rcases QI.mem.1 b with rfl | b | b | b | b
  ·exact .inl (QI.mem.2 (.inl rfl))
  ·exact .inl (QI.mem.2 (.inr (.inl b)))
  ·exact .inl (QI.mem.2 (.inr (.inr (.inl b))))
  ·exact .inl (QI.mem.2 (.inr (.inr (.inr (.inl b)))))
  ·exact .inr (.inl b)
theorem szS:HR P FP=some 1:=by kernel_rfl
theorem byS:bytesOf P FP=some 24:=by kernel_rfl
theorem zzS:FR P FP=some (.slice none 0 0):=by kernel_rfl
theorem mU {n x:Nat} (a:x<n):chunk (List.replicate (16*n) 0) x=List.replicate 16 0:=by
 unfold chunk;rw[List.drop_replicate,List.take_replicate];congr 1; omega
structure w6 (lo:Nat) (Z:Aa) (h3 h5 x:Nat) (q:QI):Prop where
 cell:Z[h5]?=some (.cells [.slice q.ss.1 q.ss.2.1 q.ss.2.2,.slice (some ⟨h3,0,none⟩) 16 16,.slice none 0 0] BM true)
 gl:Z[h3]?=some (.cells (Bm (List.replicate 16 0)) Ak true)
 ss:Cq FP 1 Z q.ss x (X4 q.sl)
 n:q.sl.length=x
 inn:∀ (y:Nat) (h:y<q.sl.length),Bh Z q.sl[y] (List.replicate 16 0)
 fl:∀ b ∈ q.sl.flatMap hs,h5<b/\b<Z.length
 f0:∀ b ∈ hs q.ss,h5<b/\b ∉ q.sl.flatMap hs
 nd:(q.sl.flatMap hs).Nodup
 lo3:lo<=h3
 l35:h3<h5
theorem eZ (k:Nat) {lo nn:Nat} (U:nn<=4) (h3 h5:Nat):∀ (n x f:Nat) (Z:Aa) (q:QI),w6 lo Z h3 h5 x q->x+n=nn->n<f ->
  ∃ l q',Jj (k+1) f (nn:Int) h5 (x:Int) Z=some (.exit 0,[],l)/\w6 lo l h3 h5 nn q'/\Z.length<=l.length /\ ∀ b,b<lo->l[b]?=Z[b]?
 | n,x,0,Z,q,S,K,J=>by omega
 | 0,x,f+1,Z,q,S,K,J=>by
   have e:x=nn:=by omega
   subst e;rw[PA];simp only[Aac (show ¬ (x:Int)<(x:Int) by omega),By];exact ⟨Z,q,rfl,S,Abp _,fun _ _=>rfl⟩
 | n+1,x,f+1,Z,q,S,K,J=>by
   have w1:=wSu x (by omega);have w:=S.ss.form;have f1:q.ss.2.1=x:=by rw[w]
   have f2:q.ss.2.2=x:=by rw[w]
   have ld:Bd Z h5 0=some (q.ss.1,x,x):=by simp[Bd,CV,S.cell,Ej,f1,f2]
   have z:=Af S.cell;have Q:=S.l35;obtain ⟨B,I⟩:∃ B,Au.cells (Bm (List.replicate 16 0)) Ak true=B:=⟨_,rfl⟩;have F:Cq FP 1 (Z++[B]) q.ss x (X4 q.sl):=S.ss.app _;obtain ⟨s',Z1_,H,O,E⟩:=NF szS byS zzS rfl rfl (by decide) (by decide) (by decide) (Z++[B]) q.ss x (X4 q.sl) 1 1 [.slice (some ⟨Z.length,0,none⟩) 16 16] FP (by omega) (by decide) rfl F;have t:=O.mv;have r:=t.len;simp at r;have M:h5 ∉ hs q.ss:=fun hm=>by have:=(S.f0 _ hm).1; omega
   have Y:h3 ∉ hs q.ss:=fun hm=>by have:=(S.f0 _ hm).1; omega
   have j:Z1_[h5]?=_:=t.IX (o:=.cells [.slice q.ss.1 q.ss.2.1 q.ss.2.2,.slice (some ⟨h3,0,none⟩) 16 16,.slice none 0 0] BM true) (by rw[AT z]; exact S.cell) M;have es:CX Z1_ h5 0 (.slice s'.1 s'.2.1 s'.2.2)=some (Z1_.set h5 (.cells [.slice s'.1 s'.2.1 s'.2.2,.slice (some ⟨h3,0,none⟩) 16 16,.slice none 0 0] BM true)):=by simp[CX,j]
   obtain ⟨Z2_,d⟩:∃ Z2_,Z1_.set h5 (.cells [.slice s'.1 s'.2.1 s'.2.2,.slice (some ⟨h3,0,none⟩) 16 16,.slice none 0 0] BM true)=Z2_:=⟨_,rfl⟩;have L:Z2_.length=Z1_.length:=by rw[<- d]; simp
   have u:∀ b,b<Z.length->b≠h5->b ∉ hs q.ss->Z2_[b]?=Z[b]?:=fun b hb D C=>by
    rw[<- d,Aaf D.symm,t.same b (by simp; omega) C,AT hb]
   have c:∀ b ∈ hs s',b ∈ hs q.ss\/Z.length+1<=b:=fun b hb=>(t.new b hb).imp id fun h=>by simpa using h
   have s:Z.length ∉ hs q.ss:=fun hm=>by
    obtain ⟨a,m,e⟩:=BQ.1 hm;have:=S.ss.lt a m;omega
   have A:Z2_[Z.length]?=some B:=by
    rw[<- d,Aaf (by omega),t.same _ (by simp) s]; simp
   have S2:w6 lo Z2_ h3 h5 (x+1) { q with ss:=s',sl:=q.sl++[(some ⟨Z.length,0,none⟩,16,16)] }:=by
    have p:∀ b,b ∈ (q.sl++[((some ⟨Z.length,0,none⟩,16,16):Bv)]).flatMap hs↔b ∈ q.sl.flatMap hs\/b=Z.length:=fun b=>by
     rw[Ahc,Aag]; simp[hs]
    refine ⟨by rw[<- d,Abq (by omega)],(u h3 (by omega) (by omega) Y).trans S.gl, ?_,by rw[Abe,S.n]; rfl,fun y W=>?_,fun b hb=>?_,fun b hb=>?_, ?_,S.lo3,S.l35⟩
    ·have:X4 (q.sl++[((some ⟨Z.length,0,none⟩,16,16):Bv)])=X4 q.sl++[.slice (some ⟨Z.length,0,none⟩) 16 16]:=by simp[X4]
     show Cq FP 1 Z2_ s' (x+1) (X4 (q.sl++_));rw[this];refine E.Aw fun a m=>?_;rw[<- d];refine Aaf fun e=>?_;rcases c a.block (BQ.2 ⟨a,m,rfl⟩) with g | g
     ·exact M (by rw[e]; exact g)
     ·omega
    ·by_cases i:y<q.sl.length
     ·show Bh Z2_ ((q.sl++_)[y]) _;rw[Afm i];refine (S.inn y i).Aw fun b hb=>u b ((S.inn y i).lt b hb) (fun e=>?_) fun hm=>(S.f0 b hm).2 (q.mi i hb);have:=(S.fl b (q.mi i hb)).1;omega
     ·have G:y<(q.sl++[((some ⟨Z.length,0,none⟩,16,16):Bv)]).length:=W;have:y=q.sl.length:=by rw[Abe,Ac3] at G; omega
      subst this;show Bh Z2_ ((q.sl++_)[q.sl.length]) _;rw[Aey (Abp _)];simp only[Afb,Afu];exact .inl (.inr ⟨Z.length,by simp,Ade _,by simp[Bm],by rw[A,<- I]⟩)
    ·rcases (p b).1 hb with hb | rfl
     ·have:=S.fl b hb; omega
     ·omega
    ·have hb:b ∈ hs s':=hb;refine ⟨?_,fun hm=>?_⟩
     ·rcases c b hb with g | g
      ·exact (S.f0 b g).1
      ·omega
     ·rcases (p b).1 hm with hm | rfl
      ·rcases c b hb with g | g
       ·exact (S.f0 b g).2 hm
       ·have:=(S.fl b hm).2; omega
      ·rcases c _ hb with g | g
       ·exact s g
       ·omega
    ·show ((q.sl++_).flatMap hs).Nodup;rw[Ahc,Adv];refine ⟨S.nd,by simp[hs],fun a m b hb e=>?_⟩;simp[hs] at hb;have:=(S.fl a m).2;omega
   obtain ⟨l,q',N,S3,l3,X⟩:=eZ k U h3 h5 n (x+1) f Z2_ _ S2 (by omega) (by omega);have T:=S.lo3;refine ⟨l,q', ?_,S3,by omega,fun b hb=>(X b hb).trans (u b (by omega) (by omega) fun hm=>by have:=(S.f0 b hm).1; omega)⟩;rw[PA];simp only[Aad (show (x:Int)<(nn:Int) by omega),IS,IN,ld,AI];rw[Abm (by decide)];have v:AG P FP (q.ss.1,x,x) (some ⟨Z.length+1,0,none⟩,1,1) (Z++[B]++[Au.cells [.slice (some ⟨Z.length,0,none⟩) 16 16] FP true])=some (s',Z1_):=by
    have:(Z++[B]).length=Z.length+1:=by simp
    rw[this] at H;have V:q.ss=(q.ss.1,x,x):=w;rw[<- V]; exact H
   simp only[X0,show (16:Int).toNat=16 from rfl,Ae,I,Abe,Ac3,v,AI,es,d,w1,N]
theorem uY (k:Nat) (t:10<=k) {n:Nat} (h1:1<=n) (j:n<=4) (J:Aa):∃ τ p,It (k+2) (n:Int) J=some (.tuple #[qVi (GP p),qIi 0],J++τ)/\F5 (J++τ) p ⟨n,List.replicate (16*n) 0,List.replicate 16 0,[]⟩ /\ ∀ q ∈ p.l,J.length<=q:=by
 obtain ⟨Z0_,c⟩:∃ Z0_,J++[Au.cells (Bm (List.replicate 16 0)) Ak true]++[Au.cells [.slice none 0 0,.slice (some ⟨J.length,0,none⟩) 16 16,.slice none 0 0] BM true]=Z0_:=⟨_,rfl⟩;have m:w6 J.length Z0_ J.length (J.length+1) 0 ⟨J.length+1,(none,0,0),[],(some ⟨J.length,0,none⟩,16,16),(none,0,0)⟩:=by
  refine ⟨by rw[<- c]; simp,by rw[<- c]; simp,Cq.nil _ _ _,rfl,fun y s=>by simp at s,fun b hb=>by simp at hb,fun b hb=>by simp[hs] at hb,by simp,Abp _,by omega⟩
 obtain ⟨i,q',e,S,u,f⟩:=eZ k j J.length (J.length+1) n 0 (k+1) Z0_ _ m (by omega) (by omega);rw[show ((0:Nat):Int)=0 from rfl] at e;have w:Z0_.length=J.length+2:=by rw[<- c]; simp
 obtain ⟨τ,l⟩:∃ τ,i=J++τ:=by
  refine GA (by omega) fun q a=>?_;rw[f q a,<- c,Aae,AT a]
 refine ⟨τ,⟨J.length+1,q'.ss,q'.sl,(some ⟨J.length,0,none⟩,16,16),(none,0,0)⟩, ?_, ?_,fun q a=>?_⟩
 ·rw[bF];simp only[Aac (show ¬ (n:Int)<1 by omega),By,Aac (show ¬ (n:Int)>4 by omega),AI];rw[Abm (by decide)];simp only[X0,show (16:Int).toNat=16 from rfl,Ae,Abe,Ac3];rw[c];simp only[e,AI,Aah,l]
 ·rw[<- l];refine ⟨S.cell,S.ss,S.n,fun x g=>?_, ?_,Bh.nil _, ?_, ?_⟩
  ·have h:x<n:=by have:=S.n; have g:x<q'.sl.length:=g; omega
   show Bh i q'.sl[x] (chunk (List.replicate (16*n) 0) x);rw[mU h];exact S.inn x g
  ·exact .inl (.inr ⟨J.length,by simp,Ade _,by simp[Bm],S.gl⟩)
  ·refine ⟨h1,j,by simp,by simp,by simp,fun v d=>?_⟩;unfold D3.all at d;simp only[Aag,Afy,Ad3,Afz] at d;have:v=0:=by rcases d with d | d <;> exact d.2
   subst this;exact ⟨by unfold AO; omega,Aff _⟩
  ·have r:∀ b ∈ q'.sl.flatMap hs,J.length+1<b:=fun b hb=>(S.fl b hb).1;have o:∀ b ∈ hs q'.ss,J.length+1<b/\b ∉ q'.sl.flatMap hs:=S.f0;refine ⟨fun q a=>?_,fun q a=>?_,fun q a=>?_,fun q a=>by simp[hs] at a,S.nd⟩
   ·have a:q ∈ hs q'.ss:=a;have:=o q a;refine ⟨by show q≠J.length+1; omega,this.2, ?_,by simp[hs]⟩;simp[hs]; omega
   ·have a:q ∈ q'.sl.flatMap hs:=a;have:=r q a;refine ⟨by show q≠J.length+1; omega, ?_,by simp[hs]⟩;simp[hs]; omega
   ·simp[hs] at a;refine ⟨by show q≠J.length+1; omega,by simp[hs]⟩
 ·rcases QI.mem.1 a with rfl | a | a | a | a
  ·show J.length<=J.length+1; omega
  ·have:=(S.f0 q a).1; omega
  ·have:=(S.fl q a).1; omega
  ·simp[hs] at a; omega
  ·simp[hs] at a
end
section
variable {J:Aa} {m:HM} {t:RM} {j:RI}
def nx (m:HM) (c:Nat):Nat->Nat->Option Nat
 | 0,_=>none
 | n+1,x=>if x+c<=m.bls.length then (if KF m.bls x c 0=none then some x else nx m c n (x+1)) else none
theorem bU {c:Nat}:∀ {n x b:Nat},nx m c n x=some b->x<=b/\b+c<=m.bls.length
 | 0,x,b,h=>by cases h
 | n+1,x,b,h=>by
   unfold nx at h;split at h
   ·split at h
    ·cases h; exact ⟨Abp _,by assumption⟩
    ·have:=bU h; omega
   ·cases h
theorem bW (k:Nat) (h:RG J j m t) (d:FZ m) {c x:Nat} (v:x+c<=m.bls.length):∀ (n y f:Nat),y+n=c->n<f->KF m.bls x y 0=none ->
  ∃ r:Nat,Ic (k+2) f (Bk j) (c:Int) (x:Int) (y:Int) J=some (.exit 2,[qIi (r:Int)],J)/\(r=c↔KF m.bls x c 0=none)/\r<=c
 | n,y,0,i,g,hu=>by omega
 | 0,y,f+1,i,g,hu=>by
   rw[ON];obtain rfl:y=c:=by omega
   exact ⟨y,by simp only[Aac (Int.lt_irrefl _),By,AI],⟨fun _=>hu,fun _=>rfl⟩,Abp _⟩
 | n+1,y,f+1,i,g,hu=>by
   have u:=h.nt;rw[ON];have z:Ar ((x:Int)+(y:Int))=((x+y:Nat):Int):=Ai (by unfold AO; omega);have A:=wSu y (by omega);have es:Cb m ((x+y:Nat):Int)=(m.bls.getD (x+y) (0,0)).1:=by
    unfold Cb; rw[Abm (by omega),IT]
   simp only[Aad (show (y:Int)<(c:Int) by omega),IS,z,Yy k h,es,AI,Ah];by_cases q:(m.bls.getD (x+y) (0,0)).1=0
   ·have b:KF m.bls x (y+1) 0=none:=by
     rw[UM d] at hu ⊢;intro e l B;by_cases w:e=y
     ·rw[w]; exact q
     ·exact hu e l (by omega)
    obtain ⟨r,o,p,s⟩:=bW k h d v n (y+1) f (by omega) (by omega) b;exact ⟨r,by simp only[show ((m.bls.getD (x+y) (0,0)).1 == 0)=true from by simpa using q,IS,A,o],p,s⟩
   ·refine ⟨y,by simp only[show ((m.bls.getD (x+y) (0,0)).1 == 0)=false from by simpa using q,By],⟨fun a=>by omega,fun a=>?_⟩,by omega⟩;rw[UM d] at a;exact absurd (a y (by omega) (by omega)) q
theorem bV (k:Nat) (s:5000<=k) (h:RG J j m t) (i:FZ m) {c:Nat} (o:c<=100):∀ (n x f:Nat),m.bls.length<x+n->x<=200->n<f ->
  Ib (k+2) f (Bk j) (c:Int) (x:Int) J=some (match nx m c n x with | some b=>(.ret,[qIi (b:Int)],J) | none=>(.exit 0,[],J))
 | n,x,0,v,d,p=>by omega
 | n,x,f+1,v,d,p=>by
   have u:=h.nt;have y:Ar ((x:Int)+(c:Int))=((x+c:Nat):Int):=Ai (by unfold AO; omega);have A:=wSu x (by omega);have l:CC (k+2) (Bk j) J=_:=Wy k h;rw[Wd];simp only[l,AI,Ah,y];by_cases q:x+c<=m.bls.length
   ·obtain ⟨n,rfl⟩:∃ w,n=w+1:=⟨n-1,by omega⟩;obtain ⟨r,e,g,B⟩:=bW k h i q c 0 (k+2) (by omega) (by omega) rfl;rw[show ((0:Nat):Int)=0 from rfl] at e;simp only[Aad (show ((x+c:Nat):Int)<=((m.bls.length:Nat):Int) by omega),IS,e,AI,Aah,Ey,nx,Abm q,A];by_cases a:KF m.bls x c 0=none
    ·rw[Abm a,show ((r:Int) == (c:Int))=true from by have:=g.2 a; simp[this]]; rfl
    ·rw[Abo a,show ((r:Int) == (c:Int))=false from by rw[Acy]; intro C; exact a (g.1 (by omega))];simp only[By];exact bV k s h i o n (x+1) f (by omega) (by omega) (by omega)
   ·have z:nx m c n x=none:=by
     cases n with
     | zero=>rfl
     | succ n=>rw[nx,Abo q]
    simp only[Aac (show ¬ ((x+c:Nat):Int)<=((m.bls.length:Nat):Int) by omega),By,z]
theorem oK (k:Nat) (d:5000<=k) (h:RG J j m t) (g:FZ m) {c:Nat} (a:c<=100):Iv (k+3) (Bk j) (c:Int) J=some (qIi (match nx m c m.bls.length 1 with | some b=>(b:Int) | none=>0),J):=by
 have f:=h.nt;have e:=bV k d h g a m.bls.length 1 (k+2) (by omega) (by omega) (by omega);rw[show ((1:Nat):Int)=1 from rfl] at e;rw[ZJ];simp only[e,AI];cases nx m c m.bls.length 1 with
 | none=>simp only[Aah]
 | some b=>simp only[show (C6.ret=C6.exit 0)=False from by simp,Abs,Aah,Ey]
theorem fH {b:Nat}:∀ (L:List Nat) (p:Nat),(∀ j ∈ L,32*b<=j/\j<32*b+32)->64*b<=p->(∀ g ∈ (F7 m L p).1,64*b<=g.1/\g.1<64*b+64)/\64*b<=(F7 m L p).2
 | [],p,_,hp=>⟨(fun g a=>by cases a),hp⟩
 | j::L,p,c,hp=>by
   obtain ⟨h1,h⟩:=c j Ac0;obtain ⟨d,e⟩:=fH L (2*j+sz m j) (fun y f=>c y (Abx _ f)) (by omega);refine ⟨fun g a=>?_,e⟩;unfold F7 at a;rcases Aag.1 a with a | a
   ·unfold Kr at a;split at a
    ·rw[Ac1.1 a]; dsimp only; omega
    ·cases a
   ·exact d g a
theorem rB {b:Nat} (hb:b<m.bls.length):∀ g ∈ IQ m (b:Int),64*b<=g.1/\g.1<64*b+64:=by
 intro g a;unfold IQ at a;split at a;rotate_left
 ·cases a
 rw[IT] at a;unfold bY at a;obtain ⟨h1,d⟩:=fH (m:=m) (b:=b) (DE m (32*b) 32) (64*b) (fun j c=>by have:=LM.1 c; omega) (Abp _);rcases Aag.1 a with a | a
 ·exact h1 g a
 ·unfold Kr at a;split at a
  ·rw[Ac1.1 a]; dsimp only; omega
  ·cases a
def yk (w:Int):List (Nat × Nat)->Option Nat
 | []=>none
 | g::l=>if (g.2:Int)>=w then some g.1 else yk w l
def rC (m:HM) (w sp:Int):Nat->Nat->Option Nat
 | 0,_=>none
 | n+1,b=>if Cb m (b:Int)=1/\MJ m (b:Int)=sp then (match yk w (IQ m (b:Int)) with | some a=>some a | none=>rC m w sp n (b+1)) else rC m w sp n (b+1)
theorem pv {w:Int}:∀ {l:List (Nat × Nat)} {a:Nat},yk w l=some a -> ∃ g ∈ l,g.1=a
 | [],a,h=>by cases h
 | g::l,a,h=>by
   unfold yk at h;split at h
   ·cases h; exact ⟨g,Ac0,rfl⟩
   ·obtain ⟨b,h1,c⟩:=pv h;exact ⟨b,Abx _ h1,c⟩
theorem cd {w sp:Int}:∀ {n b a:Nat},rC m w sp n b=some a->b+n<=m.bls.length->Cb m (((a/64:Nat)):Int)=1/\a<64*m.bls.length
 | 0,b,a,h,_=>by cases h
 | n+1,b,a,h,hb=>by
   unfold rC at h;split at h
   ·rename_i c;split at h
    ·rename_i e he;cases h;obtain ⟨g,d,rfl⟩:=pv he;obtain ⟨f,i⟩:=rB (show b<m.bls.length by omega) g d;rw[show g.1/64=b from by omega];exact ⟨c.1,by omega⟩
    ·exact cd h (by omega)
   ·exact cd h (by omega)
theorem xI {s:Bv} {l:List (Nat × Nat)} (h:Cq AF 2 J s l.length (D0 l)) {x:Nat} (d:x<l.length):∃ b,s.1=some ⟨b,0,none⟩/\Aj .i64 J b (x*2)=some ((l.getD x (0,0)).1:Int)/\Aj .i64 J b (x*2+1)=some ((l.getD x (0,0)).2:Int):=by
 rcases h with ⟨h,_⟩ | ⟨b,rfl,_,_,a⟩
 ·omega
 ·obtain ⟨h1,c⟩:=W3 l x d;exact ⟨b,rfl,by simp only[Aj,CV,a,h1,AI,Ah],by simp only[Aj,CV,a,c,AI,Ah]⟩
theorem eX (k:Nat) {h0:Nat} {rr d c:Int} {T:TypeId} {sl:Bv} {l:List (Nat × Nat)} (u:l.length<=1000):∀ (n x f:Nat) (J:Aa),Cq AF 2 J sl l.length (D0 l)->J[h0]?=some (.cells [qIi rr,qIi d,qIi c] T true)->x+n=l.length->n<f ->
  ∃ τ,Jk (k+2) f h0 sl.1 l.length l.length (x:Int) J=some (match yk (words rr d c) (l.drop x) with | some a=>(.ret,[qIi (a:Int),.bool true],J++τ) | none=>(.exit 2,[],J++τ))
 | n,x,0,J,h,hb,o,m=>by omega
 | 0,x,f+1,J,h,hb,o,m=>by
   rw[PC];simp only[Aac (show ¬ (x:Int)<((l.length:Nat):Int) by omega),By];rw[Ac5 (by omega)];exact ⟨[],by simp[yk]⟩
 | n+1,x,f+1,J,h,hb,o,m=>by
   obtain ⟨b,e,v,w⟩:=xI h (x:=x) (by omega);have y:=qSu x l.length (by omega);have z:=wSu x (by omega);have hd:l.drop x=l.getD x (0,0)::l.drop (x+1):=by
    rw[Ac2 (by omega),Abi,Aaj (by omega)]; rfl
   obtain ⟨p,r,s⟩:=Kk hb;obtain ⟨τ,t⟩:=JD k rr d c J;have g:=h.lt ⟨b,0,none⟩ e;have i:Aj .i64 (J++τ) b (x*2)=some ((l.getD x (0,0)).1:Int):=by rw[HJ _ _ _ g]; exact v
   obtain ⟨A,j⟩:=eX k (h0:=h0) (rr:=rr) (d:=d) (c:=c) (T:=T) (sl:=sl) u n (x+1) f (J++τ) (h.app τ) (by rw[AT (Af hb)]; exact hb) (by omega) (by omega);rw[e] at j;rw[PC,hd,yk];simp only[Aad (show (x:Int)<((l.length:Nat):Int) by omega),IS,y,Aah,e,AI,IT,IN,Abn,w,p,r,s,t,Ah,z,i];by_cases q:((l.getD x (0,0)).2:Int)>=words rr d c
   ·rw[Abm q,Aad q];exact ⟨τ,rfl⟩
   ·rw[Abo q,Aac q];simp only[By,j,Aae];exact ⟨τ++A,rfl⟩
theorem eU (k:Nat) (v:5000<=k) {h0:Nat} {rr d c sp:Int} {T:TypeId}:∀ (n x f:Nat) (J:Aa),RG J j m t->J[h0]?=some (.cells [qIi rr,qIi d,qIi c] T true)->x+n=m.bls.length->n<f ->
  ∃ τ,GO (k+4) f (Bk j) sp h0 (x:Int) J=some (match rC m (words rr d c) sp n x with | some a=>(.ret,[qIi (a:Int),.bool true],J++τ) | none=>(.exit 0,[],J++τ))
 | n,x,0,J,h,hb,w,u=>by omega
 | 0,x,f+1,J,h,hb,w,u=>by
   have o:CC (k+4) (Bk j) J=_:=Wy (k+2) h;rw[PB];simp only[o,AI,Ah,Aac (show ¬ (x:Int)<((m.bls.length:Nat):Int) by omega),By];exact ⟨[],by simp[rC]⟩
 | n+1,x,f+1,J,h,hb,w,u=>by
   have E:=h.nt;have G:=wSu x (by omega);have o:CC (k+4) (Bk j) J=_:=Wy (k+2) h;have C:Ct (k+4) (Bk j) (x:Int) J=_:=Yy (k+2) h (x:Int);have B:Fa (k+4) (Bk j) (x:Int) J=_:=sx (k+2) h (x:Int);rw[PB,rC];simp only[o,AI,Ah,Aad (show (x:Int)<((m.bls.length:Nat):Int) by omega),IS,C,G];have skip:∀ τ,∃ z,GO (k+4) f (Bk j) sp h0 ((x+1:Nat):Int) (J++τ)=some (match rC m (words rr d c) sp n (x+1) with | some a=>(.ret,[qIi (a:Int),.bool true],J++z) | none=>(.exit 0,[],J++z)):=fun τ=>by
    obtain ⟨i,g⟩:=eU k v (h0:=h0) (rr:=rr) (d:=d) (c:=c) (sp:=sp) (T:=T) n (x+1) f (J++τ) (h.app τ) (by rw[AT (Af hb)]; exact hb) (by omega) (by omega);exact ⟨τ++i,by rw[g,Aae]⟩
   have b:=skip [];rw[Abu] at b;have e:((bif (Cb m (x:Int) != 1) then some (true,J) else (Fa (k+4) (Bk j) (x:Int) J).bind fun y=>(Bl .i64 y.1).bind fun F=>some (F != sp,y.2)):Option (Bool × Aa))=some (!decide (Cb m (x:Int)=1/\MJ m (x:Int)=sp),J):=by
    by_cases r:Cb m (x:Int)=1
    ·rw[r];simp only[Abt,By,B,AI,Ah];by_cases s:MJ m (x:Int)=sp
     ·rw[s]; simp
     ·rw[Aac (fun p=>s p.2),Adp.2 s]; rfl
    ·rw[Adp.2 r,Aac (fun p=>r p.1)]; rfl
   rw[e];simp only[AI];by_cases q:Cb m (x:Int)=1/\MJ m (x:Int)=sp;rotate_left
   ·rw[Abo q,Aac q];simp only[Ac7,IS];exact b
   ·rw[Abm q,Aad q];obtain ⟨τ,sl,A,hs,_⟩:=uW k v h (x:Int);have D:=fF m (x:Int);have f0:=hs.form;have f1:sl.2.1=(IQ m (x:Int)).length:=by rw[f0]
    have f2:sl.2.2=(IQ m (x:Int)).length:=by rw[f0]
    obtain ⟨i,g⟩:=eX (k+2) (h0:=h0) (rr:=rr) (d:=d) (c:=c) (T:=T) (sl:=sl) (l:=IQ m (x:Int)) (by omega) (IQ m (x:Int)).length 0 (k+4) (J++τ) hs (by rw[AT (Af hb)]; exact hb) (by omega) (by omega);rw[show ((0:Nat):Int)=0 from rfl,Ac6] at g;simp only[Abr,By,A,AI,Ej,f1,f2,g];cases yk (words rr d c) (IQ m (x:Int)) with
    | some a=>
      simp only[reduceCtorEq,Abs,Aah,jg,Aae];exact ⟨τ++i,rfl⟩
    | none=>
      simp only[Aah,Aae];exact skip (τ++i)
theorem yE (k:Nat) (f:5000<=k) (h:RG J j m t) (rr d c sp:Int):∃ τ,N8 (k+5) (Bk j) rr d c sp J=some (match rC m (words rr d c) sp (m.bls.length-1) 1 with | some a=>.tuple #[qIi (a:Int),.bool true] | none=>.tuple #[qIi 0,.bool false],J++τ):=by
 have g:=h.nb;have i:=h.nt;obtain ⟨B,b⟩:∃ B,Au.cells [qIi rr,qIi d,qIi c] Ad true=B:=⟨_,rfl⟩;obtain ⟨τ,e⟩:=eU k f (h0:=J.length) (rr:=rr) (d:=d) (c:=c) (sp:=sp) (T:=Ad) (m.bls.length-1) 1 (k+4) (J++[B]) (h.app _) (by rw[<- b]; simp) (by omega) (by omega);rw[show ((1:Nat):Int)=1 from rfl] at e;refine ⟨[B]++τ, ?_⟩;rw[bG];simp only[Ae,b,e,AI];cases rC m (words rr d c) sp (m.bls.length-1) 1 with
 | none=>simp only[Aah,Aae]
 | some a=>simp only[reduceCtorEq,Abs,Aah,jg,Aae]
def Od (rr d c:Int):Nat:=((words rr d c+63).tdiv 64).toNat
def firstM (m:HM) (rr d c sp:Int):(Int × Bool) × HM:=
 if words rr d c>32 then (match nx m (Od rr d c) m.bls.length 1 with
  | none=>((0,false),m)
  | some b=>(((64*b:Nat):Int),(BA m (b:Int) (Od rr d c:Int) 2 sp 3 sp).1 == 0,(BA m (b:Int) (Od rr d c:Int) 2 sp 3 sp).2) |> fun x=>((x.1,x.2.1),x.2.2))
 else match rC m (words rr d c) sp (m.bls.length-1) 1 with
  | some a=>(((a:Int),true),m)
  | none=>match nx m 1 m.bls.length 1 with
    | none=>((0,false),m)
    | some b=>((((64*b:Nat):Int),(BA m (b:Int) 1 1 sp 0 0).1 == 0),(BA m (b:Int) 1 1 sp 0 0).2)
theorem pG (rr d c:Int):(words rr d c+63).tdiv 64=(Od rr d c:Int)/\Od rr d c<=4/\(words rr d c>32->1<=Od rr d c):=by
 obtain ⟨h0,h1⟩:=Oo rr d c;unfold Od;rw[Afd (by omega)];omega
theorem tg (k:Nat) (S:5000<=k) (h:RG J j m t) (o:LH m) (x:FZ m) (rr d c sp:Int):Fg (JZ (k+6) (Bk j) rr d c sp J) J j (.tuple #[qIi (firstM m rr d c sp).1.1,.bool (firstM m rr d c sp).1.2]) (firstM m rr d c sp).2:=by
 have T:=h.nt;obtain ⟨U,V,W⟩:=pG rr d c;obtain ⟨B,D⟩:∃ B,Au.cells [qIi rr,qIi d,qIi c] Ad true=B:=⟨_,rfl⟩;have C:∀ τ,Aj .i64 (J++[B]++τ) J.length 0=some rr/\Aj .i64 (J++[B]++τ) J.length 1=some d/\Aj .i64 (J++[B]++τ) J.length 2=some c:=fun τ=>by
  rw[<- D];exact ⟨by rw[G9]; rfl,by rw[G9]; rfl,by rw[G9]; rfl⟩
 obtain ⟨F,G,H⟩:=C [];rw[Abu] at F G H;obtain ⟨i,N⟩:=Yx (k+2) rr d c (J++[B]);have y:EP (k+5) rr d c (J++[B])=_:=N;obtain ⟨I,K,L⟩:=C i;have l:=(h.app [B]).app i;have run:∀ {E:Option (Value × Aa)} {v:Value} {m':HM} (τ:Aa),Fg E (J++[B]++i++τ) j v m'->Fg E J j v m':=fun τ P=>by
  obtain ⟨J',j',t',e,p,r,s,u⟩:=P;exact ⟨J',j',t',e,p,r,s,(((H4.app j J [B]).trans (H4.app j _ i)).trans (H4.app j _ τ)).trans u⟩
 rw[Yc];simp only[Ae,D,IN,Nat.reduceAdd,F,G,H,AI,y,An];unfold firstM;by_cases q:words rr d c>32
 ·rw[Abm q,Aad q];obtain ⟨g,O⟩:=cS (k+2) rr d c (J++[B]++i);have n:EU (k+5) rr d c (J++[B]++i)=_:=O;rw[U] at n;have f:=l.app g;have w:Iv (k+5) (Bk j) (Od rr d c:Int) (J++[B]++i++g)=_:=oK (k+2) (by omega) f x (by omega);simp only[IS,I,K,L,AI,n,Ah,w];cases z:nx m (Od rr d c) m.bls.length 1 with
  | none=>
    simp only[show ((0:Int) == 0)=true from rfl,IS];exact run g (Fg.NK f o rfl)
  | some b=>
    obtain ⟨f1,f2⟩:=bU z;have hC:Fg (DT (k+5) (Bk j) (b:Int) (Od rr d c:Int) sp (J++[B]++i++g)) (J++[B]++i++g) j _ _:=cQ (k+3) (by omega) f o x (b:Int) (Od rr d c:Int) sp (by unfold AO; omega) (by unfold AO; omega);obtain ⟨J',j',t',e,p,r,s,u⟩:=hC;have A:Ar ((b:Int)*64)=((64*b:Nat):Int):=by rw[Ai (by unfold AO; omega)]; omega
    simp only[show ((b:Int) == 0)=false from by rw[Acy]; omega,By,e,AI,Ah,A];exact run g ⟨J',j',t',rfl,p,r,s,u⟩
 ·rw[Abo q,Aac q];obtain ⟨g,M⟩:=yE k S l rr d c sp;have f:=l.app g;simp only[By,I,K,L,AI,M];cases Q:rC m (words rr d c) sp (m.bls.length-1) 1 with
  | some a=>
    simp only[RX,IS];exact run g (Fg.NK f o rfl)
  | none=>
    have w:Iv (k+5) (Bk j) ((1:Nat):Int) (J++[B]++i++g)=_:=oK (k+2) (by omega) f x (c:=1) (by omega);rw[show ((1:Nat):Int)=1 from rfl] at w;simp only[RX,By,w,AI,Ah];cases z:nx m 1 m.bls.length 1 with
    | none=>
      simp only[show ((0:Int) == 0)=true from rfl,IS];exact run g (Fg.NK f o rfl)
    | some b=>
      obtain ⟨f1,f2⟩:=bU z;have hC:Fg (Gu (k+5) (Bk j) (b:Int) sp (J++[B]++i++g)) (J++[B]++i++g) j _ _:=sr (k+3) f o x (b:Int) sp;obtain ⟨J',j',t',e,p,r,s,u⟩:=hC;have A:Ar ((b:Int)*64)=((64*b:Nat):Int):=by rw[Ai (by unfold AO; omega)]; omega
      simp only[show ((b:Int) == 0)=false from by rw[Acy]; omega,By,e,AI,Ah,A];exact run g ⟨J',j',t',rfl,p,r,s,u⟩
end
section
variable {J:Aa} {m mr:HM} {t:RM} {r rq:D3}
structure MZ where
 sb:Nat
 i:Cp
 j:RI
 p:PI
 q:QI
def MZ.Ls (I:MZ):List (List Nat):=[I.i.l,I.j.l,I.p.l,I.q.l,[I.sb]]
def MZ.fl (I:MZ):List Nat:=I.Ls.flatten
abbrev IM (I:MZ):qOi:=some ⟨I.sb,0,none⟩
def HK (I:MZ):List Value:=[qVi (AU I.i),qVi (F6 I.p),qVi (Bk I.j),qVi (GP I.q)]
structure Sn (J:Aa) (I:MZ) (m mr:HM) (t:RM) (r rq:D3):Prop where
 cell:J[I.sb]?=some (.cells (HK I) BJ true)
 h:Al J I.i m
 mo:MK m
 g:RG J I.j mr t
 P:LH mr
 mor:MK mr
 rt:Ha J I.p r
 rq:F5 J I.q rq
 fp:Fp J I.Ls
variable {I:MZ}
theorem Sn.app (S:Sn J I m mr t r rq) (τ:Aa):Sn (J++τ) I m mr t r rq:=
 ⟨by rw[AT (Af S.cell)]; exact S.cell,S.h.app τ,S.mo,S.g.app τ,S.P,S.mor,S.rt.app τ,S.rq.app τ,S.fp.app τ⟩
theorem Sn.HI (S:Sn J I m mr t r rq):B7 J I.sb 0=some (AU I.i):=by simp[B7,CV,S.cell,HK,HO]
theorem Sn.EX (S:Sn J I m mr t r rq):B7 J I.sb 1=some (F6 I.p):=by simp[B7,CV,S.cell,HK,HO]
theorem Sn.UH (S:Sn J I m mr t r rq):B7 J I.sb 2=some (Bk I.j):=by simp[B7,CV,S.cell,HK,HO]
theorem Sn.cq (S:Sn J I m mr t r rq):B7 J I.sb 3=some (GP I.q):=by simp[B7,CV,S.cell,HK,HO]
theorem Sn.hs (S:Sn J I m mr t r rq) {mm:Option (Value × Aa)} {v:Value} {m':HM} (hA:∃ J1_,mm=some (v,J1_)/\Al J1_ I.i m'/\Br I.i J J1_) (h:MK m'):∃ J',mm=some (v,J')/\Sn J' I m' mr t r rq/\Mv I.fl I.fl J J'/\J'[I.sb]?=J[I.sb]?:=by
 obtain ⟨J',e,c,d⟩:=hA;obtain ⟨f,k,l⟩:=S.fp.step 0 (by simp[MZ.Ls]) (L':=I.i.l) d.mv c.lt;have a:=fun y j b q i=>k y j b q i;have g:=a 4 (by simp[MZ.Ls]) (by decide) I.sb (by simp[MZ.Ls]);exact ⟨J',e,⟨g.trans S.cell,c,h,S.g.Aw (a 1 (by simp[MZ.Ls]) (by decide)) d.len,S.P,S.mor,S.rt.Aw (a 2 (by simp[MZ.Ls]) (by decide)),S.rq.Aw (a 3 (by simp[MZ.Ls]) (by decide)),f⟩,l,g⟩
theorem Sn.js (S:Sn J I m mr t r rq) {mm:Option (Value × Aa)} {v:Value} {m':HM} (h:Fg mm J I.j v m') (a:MK m'):∃ J' j' t',mm=some (v,J')/\Sn J' { I with j:=j' } m m' t' r rq/\Mv I.fl ({ I with j:=j' }:MZ).fl J J'/\J'[I.sb]?=J[I.sb]?:=by
 obtain ⟨J',j',t',e,d,s',p',b⟩:=h;obtain ⟨f,k,i⟩:=S.fp.step 1 (by simp[MZ.Ls]) (L':=j'.l) b.mv d.lt;have c:=k 4 (by simp[MZ.Ls]) (by decide) I.sb (by simp[MZ.Ls]);have g:HK { I with j:=j' }=HK I:=by unfold HK Bk; rw[b.hb]
 exact ⟨J',j',t',e,⟨by rw[g]; exact c.trans S.cell,S.h.Aw (k 0 (by simp[MZ.Ls]) (by decide)),S.mo,⟨d,s',a.inv,a.inv2,a.sh.wl,a.nb,a.nt⟩,p',a,S.rt.Aw (k 2 (by simp[MZ.Ls]) (by decide)),S.rq.Aw (k 3 (by simp[MZ.Ls]) (by decide)),f⟩,i,c⟩
theorem Sn.ps (S:Sn J I m mr t r rq) {J':Aa} {p':PI} {c:D3} (a:Ha J' p' c) (hm:Mv I.p.l p'.l J J') (hb:p'.rb=I.p.rb):Sn J' { I with p:=p' } m mr t c rq/\Mv I.fl ({ I with p:=p' }:MZ).fl J J'/\J'[I.sb]?=J[I.sb]?:=by
 obtain ⟨f,k,e⟩:=S.fp.step 2 (by simp[MZ.Ls]) (L':=p'.l) hm a.lt;have b:=k 4 (by simp[MZ.Ls]) (by decide) I.sb (by simp[MZ.Ls]);have d:HK { I with p:=p' }=HK I:=by unfold HK F6; rw[hb]
 exact ⟨⟨by rw[d]; exact b.trans S.cell,S.h.Aw (k 0 (by simp[MZ.Ls]) (by decide)),S.mo,S.g.Aw (k 1 (by simp[MZ.Ls]) (by decide)) hm.len,S.P,S.mor,a,S.rq.Aw (k 3 (by simp[MZ.Ls]) (by decide)),f⟩,e,b⟩
theorem Sn.qs (S:Sn J I m mr t r rq) {J':Aa} {q':QI} {c:D3} (a:F5 J' q' c) (hm:Mv I.q.l q'.l J J') (hb:q'.qb=I.q.qb):Sn J' { I with q:=q' } m mr t r c/\Mv I.fl ({ I with q:=q' }:MZ).fl J J'/\J'[I.sb]?=J[I.sb]?:=by
 obtain ⟨f,k,e⟩:=S.fp.step 3 (by simp[MZ.Ls]) (L':=q'.l) hm a.lt;have b:=k 4 (by simp[MZ.Ls]) (by decide) I.sb (by simp[MZ.Ls]);have d:HK { I with q:=q' }=HK I:=by unfold HK GP; rw[hb]
 exact ⟨⟨by rw[d]; exact b.trans S.cell,S.h.Aw (k 0 (by simp[MZ.Ls]) (by decide)),S.mo,S.g.Aw (k 1 (by simp[MZ.Ls]) (by decide)) hm.len,S.P,S.mor,S.rt.Aw (k 2 (by simp[MZ.Ls]) (by decide)),a,f⟩,e,b⟩
theorem PJ {b:Nat} {J J':Aa} {ρ:Type} (h:J'[b]?=J[b]?) (x:Option ρ):HL (some ⟨b,0,none⟩) J J' x=x:=by
 have:@AH.k Ao J J' b=true:=by
  unfold Ao;simpa using h
 unfold HL;simp only[this,IS]
def SG (mm:Option (Value × Aa)) (J:Aa) (I:MZ) (v:Value) (m':HM) (b:D3):Prop:=
 ∃ J' a t',mm=some (v,J')/\Sn J' a m' m' t' b b/\Mv I.fl a.fl J J'/\a.sb=I.sb
theorem jo (k:Nat) (S:Sn J I m mr t r rq) {n:Nat} (j:n<100):Bw (k+1) (IM I) (n:Int) J=some (qIi (Z8 mr n),J):=by
 have a:=S.g.Aay;have h:=S.g.ol;rw[UZ];simp only[show ((n:Int) == -77)=false from by rw[Acy]; omega,By,Aac (show ¬ (n:Int)>=1000 by omega),Aac (show ¬ (n:Int)<0 by omega),Aac (show ¬ (n:Int)>=100 by omega),AI,IN,S.UH,S.g.at_.EX];unfold Z8;by_cases h0:F8 mr=[]
 ·have:t.ob.length=0:=by rw[a,h0]; rfl
  rw[Abm h0,this];rfl
 ·rw[Abo h0];have hp:0<t.ob.length:=by rw[a]; exact Aer.2 h0
  rw[show (((t.ob.length:Nat):Int) == 0)=false from by rw[Acy]; omega];have c:n % t.ob.length<t.ob.length:=Ael _ hp;obtain ⟨y,f,i,hs,e⟩:=S.g.drop c;obtain ⟨b,g,_,L⟩:=S.g.at_.obj c;have L:=L (by rw[S.g.at_.ol]; exact c);have d:t.ob[n % t.ob.length].addr=((2*y:Nat):Int):=by
   rw[Aaj c] at e;rw[Ad8 e]; rfl
  simp only[By,S.UH,S.g.at_.EX,AI];rw[Abo (by omega),Kq,Abm (by omega)];simp only[g,AI,IT,IN,Abn,L.l0,d];rw[<- a,O8 _ (by rw[<- a]; exact c)];have:(F8 mr)[n % t.ob.length]'(by rw[<- a]; exact c)=y:=by
   rw[Aaj (by rw[<- a]; exact c)] at f;exact Ad8 f
  rw[this]
theorem jm {n:Nat} (a:MK mr):AO (Z8 mr n)/\0<=Z8 mr n:=by
 have b:=a.nt;rcases tT mr n with h | h
 ·rw[h]; exact ⟨by unfold AO; omega,Aff _⟩
 ·obtain ⟨j,e,hs⟩:=AV h;have:=hs.1;rw[e]; exact ⟨by unfold AO; omega,by omega⟩
theorem wy (k:Nat) (n:5000<=k) (S:Sn J I m m t r r) (a x v:Int) (f:AO a) (g:AO v):SG (H8 (k+8) (IM I) a x v J) J I (.bool true) (BP m a x v).2 r:=by
 have c:=S.mo.setRef a x v;have b:Fg (FX (k+7) (Bk I.j) a x v J) J I.j _ _:=og (k+3) (by omega) S.g S.P a x v;obtain ⟨J1_,j',t',b,S1,i,d⟩:=S.js b c;obtain ⟨J2_,e,S2,j,l⟩:=S1.hs (Ti k S1.h S.mo.inv a x v f g) c;refine ⟨J2_,_,t', ?_,S2,i.trans j,rfl⟩;rw[SE];have h:B7 J1_ I.sb 0=some (AU I.i):=S1.HI;simp only[AI,IN,Abn,S.UH,b,Ah,PJ d,h,e,Adr]
theorem qo (k:Nat) (l:5000<=k) (S:Sn J I m m t r r) (a:Int) (f:AO a):∃ J1_ J2_ j' t',FG (k+12) (Bk I.j) a J=some (qIi (Hs m a).1,J1_)/\J1_[I.sb]?=J[I.sb]?/\B7 J1_ I.sb 0=some (AU I.i)/\Fk (k+12) (AU I.i) a J1_=some (qIi (Hs m a).1,J2_)/\Sn J2_ { I with j:=j' } (Hs m a).2 (Hs m a).2 t' r r/\Mv I.fl ({ I with j:=j' }:MZ).fl J J2_:=by
 have c:=S.mo.kill a;have b:Fg (FG (k+12) (Bk I.j) a J) J I.j _ _:=uX (k+8) (by omega) S.g S.P S.mo.sh a;obtain ⟨J1_,j',t',b,S1,g,d⟩:=S.js b c;obtain ⟨J2_,e,S2,h,i⟩:=S1.hs (eY k S1.h S.mo.inv a f) c;exact ⟨J1_,J2_,j',t',b,d,S1.HI,e,S2,g.trans h⟩
theorem tz (k:Nat) (l:5000<=k) (S:Sn J I m m t r r) (a:Int) (f:AO a):∃ J1_ J2_ j' t',Gv (k+12) (Bk I.j) a J=some (qIi (MH m a 1).1,J1_)/\J1_[I.sb]?=J[I.sb]?/\B7 J1_ I.sb 0=some (AU I.i)/\HT (k+12) (AU I.i) a J1_=some (qIi (MH m a 1).1,J2_)/\Sn J2_ { I with j:=j' } (MH m a 1).2 (MH m a 1).2 t' r r/\Mv I.fl ({ I with j:=j' }:MZ).fl J J2_:=by
 have c:=S.mo.Ww a 1;have b:Fg (Gv (k+12) (Bk I.j) a J) J I.j _ _:=xA (k+7) (by omega) S.g S.P S.mo.sh a;obtain ⟨J1_,j',t',b,S1,g,d⟩:=S.js b c;obtain ⟨J2_,e,S2,h,i⟩:=S1.hs (tA (k+1) S1.h a f) c;exact ⟨J1_,J2_,j',t',b,d,S1.HI,e,S2,g.trans h⟩
def HG (a n:Nat):Int × Nat × Nat:=if n % 40<24 then (0,n % 40 % a,n % 40/4) else if n % 40<36 then (1,0,n % 40-24) else (2,0,n % 40-36)
theorem tL (k:Nat) (S:Sn J I m mr t r rq) {n:Nat} (o:n<1000000):∃ τ,CB (k+3) (IM I) (n:Int) J=some (.agg #[qIi (HG rq.mu n).1,qIi ((HG rq.mu n).2.1:Int),qIi ((HG rq.mu n).2.2:Int)],J++τ):=by
 have i:=S.rq.ok.m1;have j:=S.rq.ok.m4;have S1:=S.app [Au.cells [qIi 0,qIi 0,qIi 0] Am true];have c:Ds (k+2) (GP I.q) (J++[Au.cells [qIi 0,qIi 0,qIi 0] Am true])=_:=Xs k S1.rq;have l:(if (0:Int)>(n:Int) then (0:Int) else (n:Int))=(n:Int):=Abo (by omega);have b:(n:Int).tmod 40=((n % 40:Nat):Int):=Kq n 40;have d:∀ x y z:Value,Nh (J++[Au.cells [x,y,z] Am true]) J.length 0 3=some [x,y,z]:=fun x y z=>by simp[Nh]
 rw[M9];simp only[Ae,l,b,show ((40:Int)=0)=False from by simp,Abs];unfold HG;by_cases e:n % 40<24
 ·rw[Abm e,Aad (show ((n % 40:Nat):Int)<24 by omega)];have g:((n % 40:Nat):Int).tmod (rq.mu:Int)=((n % 40 % rq.mu:Nat):Int):=Kq _ _;have h:((n % 40:Nat):Int).tdiv 4=((n % 40/4:Nat):Int):=Z2 _ 4;have a:Ar ((n % 40/4:Nat):Int)=((n % 40/4:Nat):Int):=Ai (by unfold AO; omega);refine ⟨[Au.cells [qIi 0,qIi ((n % 40 % rq.mu:Nat):Int),qIi ((n % 40/4:Nat):Int)] Am true], ?_⟩;simp only[IS,AI,IN,S1.cq,c,Ah];rw[Abo (by omega),Abo (by decide)];simp only[g,h,a,Ez,AI,d];rfl
 ·rw[Abo e,Aac (show ¬ ((n % 40:Nat):Int)<24 by omega)];by_cases f:n % 40<36
  ·rw[Abm f,Aad (show ((n % 40:Nat):Int)<36 by omega)];have a:Ar (((n % 40:Nat):Int)-24)=((n % 40-24:Nat):Int):=by rw[Ai (by unfold AO; omega)]; omega
   refine ⟨[Au.cells [qIi 1,qIi 0,qIi ((n % 40-24:Nat):Int)] Am true], ?_⟩;simp only[IS,By,a,Ez,AI,d];rfl
  ·rw[Abo f,Aac (show ¬ ((n % 40:Nat):Int)<36 by omega)];have a:Ar (((n % 40:Nat):Int)-36)=((n % 40-36:Nat):Int):=by rw[Ai (by unfold AO; omega)]; omega
   refine ⟨[Au.cells [qIi 2,qIi 0,qIi ((n % 40-36:Nat):Int)] Am true], ?_⟩;simp only[By,a,Ez,AI,d];rfl
def ox (r:D3) (n:Nat) (a:Int):D3:=if (HG r.mu n).1=2/\r.qu.length<=(HG r.mu n).2.2 then (Pc r a).2 else (Of r (HG r.mu n).1 (HG r.mu n).2.1 (HG r.mu n).2.2 a).2
theorem vo {r:D3} {n:Nat} {a v:Int} (h:v ∈ (ox r n a).all):v=a\/v ∈ r.all:=by
 unfold ox at h;split at h
 ·exact od h
 ·exact sI h
theorem ml (r:D3) (h:r.ok) (n:Nat) (a:¬ ((HG r.mu n).1=2/\r.qu.length<=(HG r.mu n).2.2)):Oi r (HG r.mu n).1 (HG r.mu n).2.1 (HG r.mu n).2.2:=by
 have e:=h.m1;unfold HG at a ⊢;unfold Oi;split
 ·rename_i b;refine .inl ⟨rfl,Ael _ (by omega),by dsimp only; omega⟩
 ·rename_i b;rw[Abo b] at a;split
  ·rename_i c;exact .inr (.inl ⟨rfl,rfl,by dsimp only; omega⟩)
  ·rename_i c;rw[Abo c] at a;refine .inr (.inr ⟨rfl,rfl, ?_⟩);dsimp only at a ⊢;exact Nat.lt_of_not_le fun d=>a ⟨rfl,d⟩
theorem yO (k:Nat) (S:Sn J I m m t r r) {n:Nat} (hn:n<1000000) (a:Int) (w:AO a):SG (Im (k+5) (IM I) (n:Int) a J) J I (.bool true) m (ox r n a):=by
 obtain ⟨τ,eW⟩:=tL (k+1) S hn;have i:CB (k+4) (IM I) (n:Int) J=_:=eW;have Q:=S.rt.ok;have j:=ml r Q n;unfold ox;generalize HG r.mu n=W at i j;obtain ⟨c,mt,d⟩:=W;dsimp only at i j ⊢;obtain ⟨B,hB⟩:∃ B,Au.cells [qIi c,qIi (mt:Int),qIi (d:Int)] Am true=B:=⟨_,rfl⟩;have S1:=(S.app τ).app [B];have m1:Mv I.fl I.fl J (J++τ++[B]):=(Mv.app _ _ _).trans (Mv.app _ _ _);have bl:∀ C,Aj .i64 (J++τ++[B]++C) (J++τ).length 0=some c/\Aj .i64 (J++τ++[B]++C) (J++τ).length 1=some (mt:Int)/\Aj .i64 (J++τ++[B]++C) (J++τ).length 2=some (d:Int):=fun C=>by
  rw[<- hB];exact ⟨by rw[G9]; rfl,by rw[G9]; rfl,by rw[G9]; rfl⟩
 obtain ⟨x0,x1,x2⟩:=bl [];rw[Abu] at x0 x1 x2;obtain ⟨sq,D,eQ,T⟩:=sk (k+2) S1.rq;have H:EB (k+4) (GP I.q) (J++τ++[B])=_:=eQ;have u:(J++τ++[B])[(J++τ).length]?=some B:=by simp
 have kq:∀ {ρ:Type} (x:Option ρ),HL (some ⟨(J++τ).length,0,none⟩) (J++τ++[B]) (J++τ++[B]++D) x=x:=fun x=>PJ (by rw[AT (Af u)]) x;obtain ⟨Z,hμ,b,m2,A,y1,y2,v⟩:∃ Z,True/\Sn Z I m m t r r/\Mv I.fl I.fl J Z/\Aj .i64 Z (J++τ).length 0=some c/\Aj .i64 Z (J++τ).length 1=some (mt:Int)/\Aj .i64 Z (J++τ).length 2=some (d:Int)/\((bif c == (2:Int) then (Aj .i64 (J++τ++[B]) (J++τ).length 2).bind fun n9=>(B7 (J++τ++[B]) I.sb 3).bind fun aa=>(EB (k+4) aa (J++τ++[B])).bind fun s=>(Ej s.1).bind fun V=>HL (some ⟨(J++τ).length,0,none⟩) (J++τ++[B]) s.2 (some (decide (n9>=((V.2.1:Nat):Int)),s.2)) else some (false,J++τ++[B])):Option (Bool × Aa))=some (decide (c=2/\r.qu.length<=d),Z):=by
  by_cases z:c=2
  ·obtain ⟨z0,z1,z2⟩:=bl D;refine ⟨J++τ++[B]++D,trivial,S1.app D,m1.trans (Mv.app _ _ _),z0,z1,z2, ?_⟩;rw[show (c == 2)=true from Ad7.2 z];simp only[IS,x2,AI,S1.cq,H,Ej,kq,T];congr 2;by_cases q3:r.qu.length<=d
   ·rw[Aad (show (d:Int)>=((r.qu.length:Nat):Int) by omega),Aad ⟨z,q3⟩]
   ·rw[Aac (show ¬ (d:Int)>=((r.qu.length:Nat):Int) by omega),Aac (fun P=>q3 P.2)]
  ·refine ⟨J++τ++[B],trivial,S1,m1,x0,x1,x2, ?_⟩;rw[show (c == 2)=false from Acy.2 z,Aac (fun P=>z P.1)];rfl
 have N:(J++τ).length<Z.length /\ ∃ o,Z[(J++τ).length]?=some o:=by
  simp only[Aj,CV] at A;cases e:Z[(J++τ).length]? with
  | none=>rw[e] at A; cases A
  | some o=>exact ⟨Af e,o,rfl⟩
 have O:∀ L ∈ I.Ls,(J++τ).length ∉ L:=fun L hL hm=>by
  have:=(S.app τ).fp.lt L hL _ hm;omega
 rw[Ty];simp only[i,AI,H5,Ae,Ez,hB,IN,Nat.reduceAdd,x0,v];by_cases q:c=2/\r.qu.length<=d
 ·rw[Abm q,Aad q];obtain ⟨J3_,q',F,K,y,b3⟩:=w9 (k+2) b.rq a w;have g:Gy (k+4) (GP I.q) a Z=_:=F;obtain ⟨S3,l,E⟩:=b.qs K y b3;obtain ⟨f,p',G,M,Y,b4⟩:=wA (k+2) S3.rt a w;have h:G3 (k+4) (F6 I.p) a J3_=_:=G;obtain ⟨S4,p,c4⟩:=S3.ps M Y b4;have U:B7 J3_ I.sb 1=some (F6 I.p):=S3.EX;refine ⟨f,_,t, ?_,S4,(m2.trans l).trans p,rfl⟩;simp only[IS,b.cq,AI,g,Ah,PJ E,U,h,Adr]
 ·rw[Abo q,Aac q];have hp:=j q;obtain ⟨J3_,F,K,y⟩:=tE (k+2) b.rq hp a w;have g:EG (k+4) (GP I.q) c (mt:Int) (d:Int) a Z=_:=F;obtain ⟨S3,l,E⟩:=b.qs K y rfl;obtain ⟨f,G,M,Y⟩:=mK k S3.rt hp a w;have h:Bb (k+4) (F6 I.p) c (mt:Int) (d:Int) a J3_=_:=G;obtain ⟨S4,p,c4⟩:=S3.ps M Y rfl;have U:B7 J3_ I.sb 1=some (F6 I.p):=S3.EX;have cb:J3_[(J++τ).length]?=Z[(J++τ).length]?:=y.same _ N.1 (O I.q.l (by simp[MZ.Ls]));have X:∀ o,Aj .i64 J3_ (J++τ).length o=Aj .i64 Z (J++τ).length o:=fun o=>by simp only[Aj,CV,cb]
  refine ⟨f,_,t, ?_,S4,(m2.trans l).trans p,rfl⟩;simp only[By,b.cq,AI,A,y1,y2,g,Ah,PJ E,PJ cb,U,X,h,Adr]
end
section
variable {J:Aa} {m mr:HM} {t:RM} {r rq:D3} {I:MZ}
theorem jS {b:Nat} {c x y e f:Int} (h:(BA m (b:Int) c x y e f).1=0):Cb m (b:Int)=0/\b<m.bls.length/\1<=b:=by
 unfold BA at h;split at h
 ·rename_i d;split at h
  ·rename_i hu;rw[IT] at hu;obtain ⟨g,a,i,j,_⟩:=d;have:=WE hu 0 (Abp _) (by omega);rw[Abn] at this;refine ⟨?_,by omega,by omega⟩;unfold Cb;rw[Abm ⟨by omega,a⟩,IT,this]
  ·cases h
 ·cases h
inductive av (m:HM) (rr d c sp:Int):(Int × Bool) × HM->Prop where
 | none (a:Int):av m rr d c sp ((a,false),m)
 | gap (a:Nat) (h:Cb m ((a/64:Nat):Int)=1) (hl:a<64*m.bls.length):av m rr d c sp (((a:Int),true),m)
 | bA (b:Nat) (m1:HM) (h0:Cb m (b:Int)=0) (hb:b<m.bls.length) (hb1:1<=b) (hM:MK m->MK m1) (hb2:m1.births=m.births)
   (hw:m1.wds=m.wds/\m1.stw=m.stw/\m1.bls.length=m.bls.length)
   (hc:if words rr d c>32 then BA m (b:Int) (Od rr d c:Int) 2 sp 3 sp=(0,m1) else BA m (b:Int) 1 1 sp 0 0=(0,m1)):av m rr d c sp ((((64*b:Nat):Int),true),m1)
theorem Sl (l:Inv m) (g:Inv2 m) {rr d c sp:Int} {b:Nat} {n x y a e:Int} (p:x≠0) (h:a≠0\/n=1) (f:if words rr d c>32 then BA m (b:Int) (Od rr d c:Int) 2 sp 3 sp=BA m (b:Int) n x y a e else BA m (b:Int) 1 1 sp 0 0=BA m (b:Int) n x y a e):
  av m rr d c sp ((((64*b:Nat):Int),((BA m (b:Int) n x y a e).1 == 0)),(BA m (b:Int) n x y a e).2):=by
 have k:=Zg l g (b:Int) n x y a e;obtain ⟨r,s,t,u⟩:=OA m (b:Int) n x y a e;by_cases h0:(BA m (b:Int) n x y a e).1=0
 ·obtain ⟨h1,i,j⟩:=jS h0;rw[h0];refine .bA b _ h1 i j (fun o=>o.bA _ _ _ _ _ _ p h) u ⟨r,s,t⟩ ?_;split
  ·rename_i q;rw[Abm q] at f;rw[f,<- h0]
  ·rename_i q;rw[Abo q] at f;rw[f,<- h0]
 ·rw[k.err h0,show ((BA m (b:Int) n x y a e).1 == 0)=false from Acy.2 h0];exact .none _
theorem kg (e:MK m) (rr d c sp:Int):av m rr d c sp (firstM m rr d c sp):=by
 have i:=e.nb;unfold firstM;by_cases q:words rr d c>32
 ·rw[Abm q];cases g:nx m (Od rr d c) m.bls.length 1 with
  | none=>exact .none 0
  | some b=>exact Sl e.inv e.inv2 (by decide) (.inl (by decide)) (by rw[Abm q])
 ·rw[Abo q];cases h:rC m (words rr d c) sp (m.bls.length-1) 1 with
  | some a=>
    obtain ⟨h1,f⟩:=cd h (by omega);exact .gap a h1 f
  | none=>
    cases g:nx m 1 m.bls.length 1 with
    | none=>exact .none 0
    | some b=>exact Sl e.inv e.inv2 (by decide) (.inr rfl) (by rw[Abo q])
def Wx (m:HM) (rr d c sp:Int):HM:=if (firstM m rr d c sp).1.2 then (CW (firstM m rr d c sp).2 (firstM m rr d c sp).1.1 rr d c).2.2 else (firstM m rr d c sp).2
theorem VD (m:HM) (a r d c:Int):(CW m a r d c).2.2.births<=m.births+1:=by
 unfold CW;split
 ·split
  ·exact Aff _
  ·dsimp only; omega
 ·dsimp only; omega
theorem se (e:MK m) (g:NN m) (rr d c sp:Int):MK (Wx m rr d c sp)/\NN (Wx m rr d c sp)/\(Wx m rr d c sp).births<=m.births+1/\(Wx m rr d c sp).bls.length=m.bls.length:=by
 unfold Wx;have h:=kg e rr d c sp;generalize firstM m rr d c sp=F at h;cases h with
 | none a=>exact ⟨e,g,by simp only[Abz,Abs]; omega,rfl⟩
 | gap a h1 n=>exact ⟨e.place _ _ _ _,g.place e.inv e.inv2 e.sh _ _ _ _,VD _ _ _ _ _,by simp only[Aah]; rw[(PO _ _ _ _ _).1]⟩
 | bA b j h0 hb k f l hw o=>
   have h1:=f e;have i:NN j:=g.Aw hw.2.2 hw.2.1 hw.1;exact ⟨h1.place _ _ _ _,i.place h1.inv h1.inv2 h1.sh _ _ _ _,by have:=VD j ((64*b:Nat):Int) rr d c; simp only[Aah]; omega,by simp only[Aah]; rw[(PO _ _ _ _ _).1]; exact hw.2.2⟩
theorem tB (k:Nat) (hk:5000<=k) (S:Sn J I m m t r r) (hb:m.births<900000) (rr d c sp:Int) (av:0<=sp/\sp<3):SG (Hc (k+13) (IM I) rr d c sp J) J I (.bool true) (Wx m rr d c sp) r:=by
 obtain ⟨n1,n2,n3⟩:=pG rr d c;obtain ⟨B,hB⟩:∃ B,Au.cells [qIi rr,qIi d,qIi c] Ad true=B:=⟨_,rfl⟩;have K:=kg S.mo rr d c sp;have S1:=S.app [B];have m1:=Mv.app I.fl J [B];have l:(J++[B])[J.length]?=some B:=by simp
 have g:∀ (I':MZ) (Z:Aa),Mv I.fl I'.fl (J++[B]) Z->Z[J.length]?=some B:=fun I' Z hm=>hm.IX l fun ad=>by
  obtain ⟨L,hL,hq⟩:=Adm.1 ad;have:=S.fp.lt L hL _ hq;omega
 have p:∀ Z:Aa,Z[J.length]?=some B->Aj .i64 Z J.length 0=some rr/\Aj .i64 Z J.length 1=some d/\Aj .i64 Z J.length 2=some c:=fun Z hμ=>by
  rw[<- hB] at hμ;exact Kk hμ
 obtain ⟨x0,x1,x2⟩:=p _ l;obtain ⟨F,hF⟩:∃ F,firstM m rr d c sp=F:=⟨_,rfl⟩;have P:Fg (JZ (k+12) (Bk I.j) rr d c sp (J++[B])) (J++[B]) I.j _ _:=tg (k+6) (by omega) S1.g S1.P S.mo.fz rr d c sp;unfold Wx;rw[hF] at K P ⊢;rw[Rw];simp only[Ae,hB,IN,Nat.reduceAdd,S1.UH,x0,x1,x2,AI];cases K with
 | none a=>
   obtain ⟨J2_,n,t2,A,S2,o,b2⟩:=S1.js P S.mo;refine ⟨J2_,_,t2, ?_,S2,m1.trans o,rfl⟩;simp only[A,AI,RX,Ac7,IS]
 | gap a h1 h2=>
   have ae:=S.mo.nt;obtain ⟨J2_,n,t2,A,S2,o,b2⟩:=S1.js P S.mo;have ed:(a:Int).tdiv 64=((a/64:Nat):Int):=Z2 a 64;have w1:Ar ((a/64:Nat):Int)=((a/64:Nat):Int):=Ai (by unfold AO; omega);have eS:Bn (k+12) (AU I.i) ((a/64:Nat):Int) J2_=_:=ZX (k+9) S2.h _;have u:=g _ _ o;obtain ⟨y0,y1,y2⟩:=p _ u;have eP:=gB (k+7) (by omega) S2.g S2.P S.mo.sh (show m.births<1000000 by omega) (a:Int) rr d c;have h:=S.mo.place (a:Int) rr d c;obtain ⟨J3_,j3,t3,e3,S3,z,b3⟩:=S2.js eP h;have v:=g _ _ (o.trans z);obtain ⟨z0,z1,z2⟩:=p _ v;obtain ⟨T,e4,S4,m4,b4⟩:=S3.hs (aM k hk S3.h S.mo.inv (show m.births<1000000 by omega) (a:Int) rr d c (by unfold AO; omega)) h;have w:B7 J2_ I.sb 0=some (AU I.i):=S2.HI;have af:B7 J2_ I.sb 2=some (Bk n):=S2.UH;have i:B7 J3_ I.sb 0=some (AU I.i):=S3.HI;have W:EZ (k+12) (Bk n) (a:Int) rr d c J2_=_:=e3;refine ⟨T,_,t3, ?_,S4,((m1.trans o).trans z).trans m4,rfl⟩;simp only[A,AI,RX,Abr,By,show ((64:Int)=0)=False from by simp,Abs,w,ed,w1,eS,Ah,h1,show ((1:Int) == 0)=false from rfl,Aah,af,y0,y1,y2,W,B9,i,z0,z1,z2,e4,Adr,IS]
 | bA b x h0 hb au ab E hw Q=>
   have ae:=S.mo.nt;have f:=ab S.mo;obtain ⟨J2_,n,t2,A,S2,o,b2⟩:=S1.js P f;have ed:((64*b:Nat):Int).tdiv 64=(b:Int):=by rw[show ((64:Int))=((64:Nat):Int) from rfl,Z2]; congr 1; omega
   have w1:Ar (b:Int)=(b:Int):=Ai (by unfold AO; omega);have eS:Bn (k+12) (AU I.i) (b:Int) J2_=_:=ZX (k+9) S2.h _;have u:=g _ _ o;obtain ⟨y0,y1,y2⟩:=p _ u;obtain ⟨e,eL⟩:=Yx (k+9) rr d c J2_;have aa:EP (k+12) rr d c J2_=_:=eL;have S3:=S2.app e;have z:=o.trans (Mv.app _ _ e);have v:=g _ _ z;obtain ⟨z0,z1,z2⟩:=p _ v;have w:B7 J2_ I.sb 0=some (AU I.i):=S2.HI;have i:B7 (J2_++e) I.sb 0=some (AU I.i):=S3.HI;obtain ⟨J5_,S5,y,ec⟩:∃ J5_,Sn J5_ { I with j:=n } x x t2 r r/\Mv I.fl ({ I with j:=n }:MZ).fl (J++[B]) J5_ /\
     ((bif decide (words rr d c>32) then (B7 (J2_++e) I.sb 0).bind fun ap=>(Aj .i64 (J2_++e) J.length 0).bind fun ai=>(Aj .i64 (J2_++e) J.length 1).bind fun aj=>(Aj .i64 (J2_++e) J.length 2).bind fun ak=>(EU (k+12) ai aj ak (J2_++e)).bind fun M=>(Bl .i64 M.1).bind fun am=>(Cf (k+12) ap (b:Int) am sp M.2).bind fun N=>(Bl .i64 N.1).bind fun an=>some (.normal,[qIi an],N.2) else (B7 (J2_++e) I.sb 0).bind fun ar=>(DG (k+12) ar (b:Int) sp (J2_++e)).bind fun O=>(Bl .i64 O.1).bind fun ao=>some (.normal,[qIi ao],O.2)):Option Bq)=some (.normal,[qIi 0],J5_):=by
    by_cases q:words rr d c>32
    ·rw[Abm q] at Q;obtain ⟨τ4,eN⟩:=cS (k+9) rr d c (J2_++e);have C:EU (k+12) rr d c (J2_++e)=_:=eN;rw[n1] at C;have S4:=S3.app τ4;have D:=Sd (k+5) (by omega) S4.h (b:Int) (Od rr d c:Int) sp (by unfold AO; omega) (by unfold AO; omega);rw[Q] at D;obtain ⟨J5_,X,S5,y,_⟩:=S4.hs D f;have s:Cf (k+12) (AU I.i) (b:Int) (Od rr d c:Int) sp (J2_++e++τ4)=_:=X;refine ⟨J5_,S5,(z.trans (Mv.app _ _ τ4)).trans y, ?_⟩;rw[Aad q];simp only[IS,i,z0,z1,z2,AI,C,Ah,s]
    ·rw[Abo q] at Q;have D:=aq (k+5) (by omega) S3.h (b:Int) sp (by unfold AO; omega);rw[Q] at D;obtain ⟨J5_,X,S5,y,_⟩:=S3.hs D f;have s:DG (k+12) (AU I.i) (b:Int) sp (J2_++e)=_:=X;refine ⟨J5_,S5,z.trans y, ?_⟩;rw[Aac q];simp only[By,i,AI,s,Ah]
   have ac:=g _ _ y;obtain ⟨u0,u1,u2⟩:=p _ ac;have G:x.births<1000000:=by rw[E]; omega
   have eP:=gB (k+7) (by omega) S5.g S5.P f.sh G ((64*b:Nat):Int) rr d c;have h:=f.place ((64*b:Nat):Int) rr d c;obtain ⟨U,j6,t6,e6,S6,m6,b6⟩:=S5.js eP h;have H:=g _ _ (y.trans m6);obtain ⟨v0,v1,v2⟩:=p _ H;obtain ⟨V,e7,S7,m7,b7⟩:=S6.hs (aM k hk S6.h f.inv G ((64*b:Nat):Int) rr d c (by unfold AO; omega)) h;have ag:B7 J5_ I.sb 2=some (Bk n):=S5.UH;have ah:B7 U I.sb 0=some (AU I.i):=S6.HI;have Y:EZ (k+12) (Bk n) ((64*b:Nat):Int) rr d c J5_=_:=e6;refine ⟨V,_,t6, ?_,S7,((m1.trans y).trans m6).trans m7,rfl⟩;simp only[A,AI,RX,Abr,By,show ((64:Int)=0)=False from by simp,Abs,w,ed,w1,eS,Ah,h0,show ((0:Int) == 0)=true from rfl,IS,y0,y1,y2,aa,An,ec,Aah,Ey,Abt,ag,u0,u1,u2,Y,B9,ah,v0,v1,v2,e7,Adr]
end
section
variable {J:Aa} {m mr:HM} {t:RM} {r rq:D3} {I:MZ}
def LN (x0 x1 x2:Int):Int × Int × Int:=
 if x0.tmod 8=4 then (1+(x1.tmod 5).tmod 3,x2.tmod 6,1)
 else if x0.tmod 8=5 then (2+(x1.tmod 5).tmod 3,x2.tmod 6,2)
 else if x0.tmod 8=6 then (x1.tmod 5,x2.tmod 6,3)
 else if x0.tmod 8=7 then (x1.tmod 5,32+x2.tmod 100,0)
 else (x1.tmod 5,x2.tmod 6,0)
theorem dA (Z:Aa) (cs:List Value) (T:TypeId) (o:Nat) (v:Value) (h:o<cs.length):CX (Z++[.cells cs T true]) Z.length o v=some (Z++[.cells (cs.set o v) T true]):=by
 simp only[CX,Abv];rw[Abm h,Ae1 _ _ (Abp _)];simp
theorem xK (Z:Aa) (a b c x y z:Value) (T:TypeId) (o:Au):H0 (Z++[.cells [a,b,c] T true]++[o]) Z.length 0 [x,y,z]=some (Z++[.cells [x,y,z] T true]++[o]):=by
 have:(Z++[Au.cells [a,b,c] T true]++[o])[Z.length]?=some (.cells [a,b,c] T true):=by
  rw[AT (by simp)]; simp
 simp only[H0,this];rw[Abm (by simp)];simp only[Ba,Aae,Agx];rw[Ae1 _ _ (Abp _)];simp
theorem uy (J τ:Aa) (vs:List Value) (T:TypeId) (o:Nat) (v:Int) (h:vs[o]?=some (.int .u8 v)):Aj .u8 (J++[.cells vs T true]++τ) J.length o=some v:=by
 rw[G9,h]; rfl
theorem jC (k:Nat) {x0 x1 x2 x3:Int} (h0:0<=x0/\x0<256) (h1:0<=x1/\x1<256) (h2:0<=x2/\x2<256) (J:Aa):∃ τ,GF (k+1) x0 x1 x2 x3 J=some (.agg #[qIi (LN x0 x1 x2).1,qIi (LN x0 x1 x2).2.1,qIi (LN x0 x1 x2).2.2],J++τ):=by
 obtain ⟨A,s⟩:∃ A,Au.cells [.int .u8 x0,.int .u8 x1,.int .u8 x2,.int .u8 x3] ff true=A:=⟨_,rfl⟩;have m:∀ τ o v,([Value.int .u8 x0,.int .u8 x1,.int .u8 x2,.int .u8 x3]:List Value)[o]?=some (.int .u8 v)->Aj .u8 (J++[A]++τ) J.length o=some v:=fun τ o v h=>by rw[<- s]; exact uy _ _ _ _ _ _ h
 have L:Ar x1=x1:=Ai (by unfold AO; omega);have x:Ar x2=x2:=Ai (by unfold AO; omega);rw[XS];simp only[Ae,s];rw[Abm (by decide)];have z:Aj .u8 (J++[A]++[Au.cells [qIi 0,qIi 0,qIi 0] Ad true]) J.length (0+(1:Int).toNat*1)=some x1:=m _ 1 x1 rfl;have B:Aj .u8 (J++[A]++[Au.cells [qIi 0,qIi 0,qIi 0] Ad true]) J.length (0+(2:Int).toNat*1)=some x2:=m _ 2 x2 rfl;simp only[z,B,AI,L,x,show ((5:Int)=0)=False from by simp,show ((6:Int)=0)=False from by simp,Abs];rw[Abm (by decide)];obtain ⟨Z,l⟩:∃ Z,J++[A]++[Au.cells [qIi 0,qIi 0,qIi 0] Ad true]=Z:=⟨_,rfl⟩;rw[l,Ez];simp only[AI];rw[Abm (by decide)];have y:∀ o,Aj .u8 (Z++[o]) J.length (0+(0:Int).toNat*1)=some x0:=fun o=>by
  rw[<- l,Aae]; exact m _ 0 x0 rfl
 have n:∀ o,Aj .u8 (Z++[o]) J.length (0+(2:Int).toNat*1)=some x2:=fun o=>by
  rw[<- l,Aae]; exact m _ 2 x2 rfl
 simp only[y,AI,show ((8:Int)=0)=False from by simp,Abs];have fin:∀ (a b c:Int),∃ τ,((H0 (Z++[Au.cells [qIi a,qIi b,qIi c] Ad true]) (J++[A]).length 0 [qIi a,qIi b,qIi c]).bind fun d=>(((Nh d (J++[A]).length 0 3).bind fun q=>some (Value.agg q.toArray)).bind fun r=>some [r]).bind fun e=>some (Lb e,d))=some (.agg #[qIi a,qIi b,qIi c],J++τ):=by
  intro a b c;refine ⟨[A,Au.cells [qIi a,qIi b,qIi c] Ad true,Au.cells [qIi a,qIi b,qIi c] Ad true], ?_⟩;have C:Nh (J++[A]++[Au.cells [qIi a,qIi b,qIi c] Ad true]++[Au.cells [qIi a,qIi b,qIi c] Ad true]) (J++[A]).length 0 3=some [qIi a,qIi b,qIi c]:=by
   simp only[Nh];rw[AT (by simp),Abv];rfl
  rw[<- l,xK];simp only[AI,C];rw[show J++[A]++[Au.cells [qIi a,qIi b,qIi c] Ad true]++[Au.cells [qIi a,qIi b,qIi c] Ad true]=J++[A,Au.cells [qIi a,qIi b,qIi c] Ad true,Au.cells [qIi a,qIi b,qIi c] Ad true] from by simp];rfl
 have E:=Agb 5 h1.1;have F:=Afj x1 (show (0:Int)<5 by decide);have G:=Agb 3 E;have w:=Afj (x1.tmod 5) (show (0:Int)<3 by decide);have u:=Agb 100 h2.1;have p:=Afj x2 (show (0:Int)<100 by decide);have H:Ar (1+(x1.tmod 5).tmod 3)=1+(x1.tmod 5).tmod 3:=Ai (by unfold AO; omega);have I:Ar (2+(x1.tmod 5).tmod 3)=2+(x1.tmod 5).tmod 3:=Ai (by unfold AO; omega);have K:Ar (32+x2.tmod 100)=32+x2.tmod 100:=Ai (by unfold AO; omega);have s1:∀ (a b c v:Int) (o:Nat),o<3->CX (Z++[Au.cells [qIi a,qIi b,qIi c] Ad true]) Z.length o (qIi v)=some (Z++[Au.cells ([qIi a,qIi b,qIi c].set o (qIi v)) Ad true]):=fun a b c v o D=>dA _ _ _ _ _ (by simpa using D);have t:∀ (a b c:Int),Aj .i64 (Z++[Au.cells [qIi a,qIi b,qIi c] Ad true]) Z.length (0+0)=some a:=fun a b c=>by rw[Bt]; rfl
 unfold LN;by_cases f:x0.tmod 8=4
 ·rw[Abm f,show (x0.tmod 8 == 4)=true from Ad7.2 f];simp only[IS,t,AI,show ((3:Int)=0)=False from by simp,Abs,s1 _ _ _ _ (0+2) (by decide),Aen,Ae9,IN,s1 _ _ _ _ 0 (by decide),H,Aah];simp only[Bt,IN,Nat.reduceAdd,Ach,Acj,AI,Ah];exact fin _ _ _
 rw[Abo f,show (x0.tmod 8 == 4)=false from Acy.2 f];by_cases g:x0.tmod 8=5
 ·rw[Abm g,show (x0.tmod 8 == 5)=true from Ad7.2 g];simp only[IS,By,t,AI,show ((3:Int)=0)=False from by simp,Abs,s1 _ _ _ _ (0+2) (by decide),Aen,Ae9,IN,s1 _ _ _ _ 0 (by decide),I,Aah];simp only[Bt,IN,Nat.reduceAdd,Ach,Acj,AI,Ah];exact fin _ _ _
 rw[Abo g,show (x0.tmod 8 == 5)=false from Acy.2 g];by_cases i:x0.tmod 8=6
 ·rw[Abm i,show (x0.tmod 8 == 6)=true from Ad7.2 i];simp only[IS,By,AI,s1 _ _ _ _ (0+2) (by decide),Aen,Ae9,Aah];simp only[Bt,IN,Nat.reduceAdd,Ach,Acj,AI,Ah];exact fin _ _ _
 rw[Abo i,show (x0.tmod 8 == 6)=false from Acy.2 i];by_cases j:x0.tmod 8=7
 ·rw[Abm j,show (x0.tmod 8 == 7)=true from Ad7.2 j];rw[Abm (by decide)];simp only[IS,By,n,AI,x,show ((100:Int)=0)=False from by simp,Abs,s1 _ _ _ _ (0+1) (by decide),Aen,Ae9,K,Aah];simp only[Bt,IN,Nat.reduceAdd,Ach,Acj,AI,Ah];exact fin _ _ _
 rw[Abo j,show (x0.tmod 8 == 7)=false from Acy.2 j];simp only[By,AI,Aah,Bt,IN,Nat.reduceAdd,Ach,Acj,Ah];exact fin _ _ _
structure BL where
 p:qOi
 n:Nat
 c:Nat
 l:List Int
def qj (l:List Int):List Value:=l.map fun v=>.int .u8 v
structure Mj (lo:Nat) (J:Aa) (w:Nat) (b:BL):Prop where
 len:b.l.length=b.n*w
 rng:∀ v ∈ b.l,0<=v/\v<256
 at_:b.n=0 \/ ∃ q T rw,b.p=some ⟨q,0,none⟩/\q<lo/\J[q]?=some (.cells (qj b.l) T rw)
structure Bg where
 bl:Int
 mu:Int
 ob:BL
 de:BL
 li:BL
 pl:BL
 pi:BL
structure qm (lo:Nat) (J:Aa) (h0:Nat) (B:Bg):Prop where
 cell:J[h0]?=some (.cells [.int .u8 B.bl,.int .u8 B.mu,.slice B.ob.p B.ob.n B.ob.c,.slice B.de.p B.de.n B.de.c,.slice B.li.p B.li.n B.li.c,.slice B.pl.p B.pl.n B.pl.c,.slice B.pi.p B.pi.n B.pi.c] Dv true)
 hl:h0<lo
 b0:0<=B.bl/\B.bl<256
 m0:0<=B.mu/\B.mu<256
 ob:Mj lo J 4 B.ob
 de:Mj lo J 1 B.de
 li:Mj lo J 3 B.li
 pl:Mj lo J 2 B.pl
 pi:Mj lo J 1 B.pi
variable {lo h0:Nat} {B:Bg}
theorem Mj.DN {J':Aa} {w:Nat} {b:BL} (h:Mj lo J w b) (f:∀ q,q<lo->J'[q]?=J[q]?):Mj lo J' w b:=by
 refine ⟨h.len,h.rng,h.at_.imp id fun ⟨q,T,a,e,c,d⟩=>⟨q,T,a,e,c,(f q c).trans d⟩⟩
theorem qm.DN {J':Aa} (h:qm lo J h0 B) (a:∀ q,q<lo->J'[q]?=J[q]?):qm lo J' h0 B:=
 ⟨(a _ h.hl).trans h.cell,h.hl,h.b0,h.m0,h.ob.DN a,h.de.DN a,h.li.DN a,h.pl.DN a,h.pi.DN a⟩
def BL.at (b:BL) (y:Nat):Int:=b.l.getD y 0
theorem Mj.rg {w:Nat} {b:BL} (h:Mj lo J w b) (y:Nat):0<=b.at y/\b.at y<256:=by
 unfold BL.at;rw[Abi];by_cases a:y<b.l.length
 ·rw[Aaj a]; exact h.rng _ (Ac4 a)
 ·rw[Adh (by omega)]; exact ⟨Aff _,by decide⟩
theorem Mj.ld {w:Nat} {b:BL} (h:Mj lo J w b) {x:Nat} (j:x<b.n):∃ q,b.p=some ⟨q,0,none⟩/\q<lo /\ ∀ (Z:Aa),Z[q]?=J[q]? -> ∀ o,o<w->Aj .u8 Z q (x*w+o)=some (b.at (x*w+o)):=by
 rcases h.at_ with h0 | ⟨q,T,g,e,d,c⟩
 ·omega
 ·refine ⟨q,e,d,fun Z f o i=>?_⟩;have a:x*w+o<b.l.length:=by
   rw[h.len];have:(x+1)*w<=b.n*w:=Aeh _ (by omega);rw[Afv] at this; omega
  unfold BL.at;simp only[Aj,CV,f,c,qj,Ad5,Aaj a,Afs,AI,Abi,Afi,Ah]
theorem qm.Bd (h:qm lo J h0 B):AX.Bd J h0 2=some (B.ob.p,B.ob.n,B.ob.c)/\AX.Bd J h0 3=some (B.de.p,B.de.n,B.de.c)/\AX.Bd J h0 4=some (B.li.p,B.li.n,B.li.c)/\AX.Bd J h0 5=some (B.pl.p,B.pl.n,B.pl.c)/\AX.Bd J h0 6=some (B.pi.p,B.pi.n,B.pi.c):=by
 simp[AX.Bd,CV,h.cell,Ej]
structure Mk (lo:Nat) (Z:Aa) (I:MZ) (m:HM) (t:RM) (r:D3) (sb h0:Nat) (B:Bg):Prop where
 s:Sn Z I m m t r r
 sb:I.sb=sb
 b:qm lo Z h0 B
 new:∀ q ∈ I.fl,lo<=q
 ll:lo<=Z.length
theorem Mk.low {Z b:Aa} {I d:MZ} {t:RM} {r:D3} {e:Nat} (M:Mk lo Z I m t r e h0 B) (hm:Mv I.fl d.fl Z b):∀ q,q<lo->b[q]?=Z[q]?:=fun q c=>hm.same q (Acz c M.ll) fun a=>Aew _ (Acz c (M.new q a))
theorem Mk.step {Z b:Aa} {I a:MZ} {t t':RM} {m':HM} {r d:D3} {e:Nat} (M:Mk lo Z I m t r e h0 B) (S:Sn b a m' m' t' d d) (hm:Mv I.fl a.fl Z b) (c:a.sb=I.sb):Mk lo b a m' t' d e h0 B:=
 ⟨S,c.trans M.sb,M.b.DN (M.low hm),fun q f=>(hm.new q f).elim (M.new q) fun h=>Adj M.ll h,Adj M.ll hm.len⟩
theorem Mk.app {Z:Aa} {I:MZ} {t:RM} {r:D3} {a:Nat} (M:Mk lo Z I m t r a h0 B) (τ:Aa):Mk lo (Z++τ) I m t r a h0 B:=M.step (M.s.app τ) (Mv.app _ _ _) rfl
def j9 (lo h0 c:Nat) (B:Bg) (F:Nat->Aa->Option Bq) (ex:C6) (n:Nat) (m m':HM) (r d:D3):Prop:=
 ∀ f Z I t,n<f->Mk lo Z I m t r c h0 B -> ∃ a b t',F f Z=some (ex,[],a)/\Mk lo a b m' t' d c h0 B/\Mv I.fl b.fl Z a
theorem aG (k:Nat) (o:5000<=k) (B:Bg) (r:D3):∀ (n x:Nat) (m:HM),MK m->NN m->m.births<=x->x+n=min B.ob.n 40 ->
  ∃ m',MK m'/\NN m'/\m'.births<=40/\m'.bls.length=m.bls.length /\ ∀ lo h0 a,j9 lo h0 a B (fun f=>Cx (k+13) f h0 a (x:Int)) (.exit 0) n m m' r r
 | 0,x,m,g,i,hb,P=>by
   refine ⟨m,g,i,by omega,rfl,fun lo h0 a f Z I t O M=>?_⟩;obtain ⟨f,rfl⟩:∃ e,f=e+1:=⟨f-1,by omega⟩;refine ⟨Z,I,t, ?_,M,Mv.refl _ _⟩;show Cx _ _ _ _ _ _=_;rw[Lo];simp only[IN,M.b.Bd.1,AI];by_cases q:x<B.ob.n
   ·simp only[Aad (show (x:Int)<((B.ob.n:Nat):Int) by omega),IS,Aac (show ¬ (x:Int)<40 by omega),AI,By]
   ·simp only[Aac (show ¬ (x:Int)<((B.ob.n:Nat):Int) by omega),By,AI]
 | n+1,x,m,g,i,hb,P=>by
   obtain ⟨w,y,W,z⟩:=se g i (LN (B.ob.at (x*4)) (B.ob.at (x*4+1)) (B.ob.at (x*4+2))).1 (LN (B.ob.at (x*4)) (B.ob.at (x*4+1)) (B.ob.at (x*4+2))).2.1 (LN (B.ob.at (x*4)) (B.ob.at (x*4+1)) (B.ob.at (x*4+2))).2.2 ((B.ob.at (x*4+3)).tmod 3);obtain ⟨m',C,D,E,F,v⟩:=aG k o B r n (x+1) _ w y (by omega) (by omega);refine ⟨m',C,D,E,F.trans z,fun lo h0 a f Z I t O M=>?_⟩;have L:=v lo h0 a;obtain ⟨f,rfl⟩:∃ e,f=e+1:=⟨f-1,by omega⟩;have U:=wSu x (by omega);have h:x<B.ob.n:=by omega
   obtain ⟨q,eq,X,ld⟩:=M.b.ob.ld h;have T:=qSu x B.ob.n (by omega);have S:(0<=(3:Int)/\(3:Int)<((4:Nat):Int))=True:=Adk (by decide);have d0:=ld Z rfl 0 (by decide);have d1:=ld Z rfl 1 (by decide);have d2:=ld Z rfl 2 (by decide);have d3:=ld Z rfl 3 (by decide);rw[Abn] at d0;have N:=M.b.ob.rg (x*4+3);obtain ⟨τ,K⟩:=jC (k+12) (x3:=B.ob.at (x*4+3)) (M.b.ob.rg (x*4)) (M.b.ob.rg (x*4+1)) (M.b.ob.rg (x*4+2)) Z;have c:=K;rw[show k+12+1=k+13 from rfl] at c;have M1:=M.app τ;have d:Aj .u8 (Z++τ) q (x*4+3)=some (B.ob.at (x*4+3)):=ld (Z++τ) (AT (by have:=M.ll; omega)) 3 (by decide);have V:Ar (B.ob.at (x*4+3))=B.ob.at (x*4+3):=Ai (by unfold AO; omega);have j:=Agb 3 N.1;have l:=Afj (B.ob.at (x*4+3)) (show (0:Int)<3 by decide);obtain ⟨Z2_,u,t2,H,S2,p,G⟩:=tB k o M1.s (by omega) (LN (B.ob.at (x*4)) (B.ob.at (x*4+1)) (B.ob.at (x*4+2))).1 (LN (B.ob.at (x*4)) (B.ob.at (x*4+1)) (B.ob.at (x*4+2))).2.1 (LN (B.ob.at (x*4)) (B.ob.at (x*4+1)) (B.ob.at (x*4+2))).2.2 ((B.ob.at (x*4+3)).tmod 3) ⟨j,l⟩;have M2:=M1.step S2 p G;obtain ⟨A,s,t',J,M3,Q⟩:=L f Z2_ u t2 (by omega) M2;refine ⟨A,s,t', ?_,M3,((Mv.app _ _ τ).trans p).trans Q⟩;show Cx _ _ _ _ _ _=_;rw[Lo];have b:=H;rw[show IM I=some ⟨a,0,none⟩ from by unfold IM; rw[M.sb]] at b;simp only[IN,M.b.Bd.1,M1.b.Bd.1,AI,Aad (show (x:Int)<((B.ob.n:Nat):Int) by omega),IS,Aad (show (x:Int)<40 by omega),T,Aah,eq,IT,Adt,Nat.reduceAdd,IN,d0,d1,d2,d3,c,Nj,H5,S,show (3:Int).toNat*1=3 from rfl,d,V,show ((3:Int)=0)=False from by simp,Abs,b,An,Abr,By,U];exact J
theorem aH (k:Nat) (h:5000<=k) (B:Bg) (r:D3):∀ (n x:Nat) (m:HM),MK m->NN m->x+n=min B.de.n 20 ->
  ∃ m',MK m'/\NN m'/\m'.births=m.births/\m'.bls.length=m.bls.length /\ ∀ lo h0 b,j9 lo h0 b B (fun f=>Cy (k+12) f h0 b (x:Int)) (.exit 2) n m m' r r
 | 0,x,m,a,g,H=>by
   refine ⟨m,a,g,rfl,rfl,fun lo h0 b f Z I t G M=>?_⟩;obtain ⟨f,rfl⟩:∃ c,f=c+1:=⟨f-1,by omega⟩;refine ⟨Z,I,t, ?_,M,Mv.refl _ _⟩;show Cy _ _ _ _ _ _=_;rw[Lp];simp only[IN,M.b.Bd.2.1,AI];by_cases q:x<B.de.n
   ·simp only[Aad (show (x:Int)<((B.de.n:Nat):Int) by omega),IS,Aac (show ¬ (x:Int)<20 by omega),AI,By]
   ·simp only[Aac (show ¬ (x:Int)<((B.de.n:Nat):Int) by omega),By,AI]
 | n+1,x,m,a,g,H=>by
   have l:=NC a.inv a.sh (Z8 m ((B.de.at x).toNat % 100));obtain ⟨m',u,v,w,z,p⟩:=aH k h B r n (x+1) _ (a.kill (Z8 m ((B.de.at x).toNat % 100))) (g.kill a.inv a.sh _) (by omega);refine ⟨m',u,v,by rw[w,l.2.2.2.2.2],by rw[z,l.1],fun lo h0 b f Z I t G M=>?_⟩;have L:=p lo h0 b;obtain ⟨f,rfl⟩:∃ c,f=c+1:=⟨f-1,by omega⟩;have P:=wSu x (by omega);have e:x<B.de.n:=by omega
   obtain ⟨q,eq,S,ld⟩:=M.b.de.ld e;have O:=qSu x B.de.n (by omega);have d0:=ld Z rfl 0 (by decide);rw[Abn,Acu] at d0;have Q:=M.b.de.rg x;obtain ⟨y,i⟩:∃ y:Nat,B.de.at x=(y:Int):=⟨(B.de.at x).toNat,by omega⟩;rw[i,IT] at L;rw[i] at d0;have w0:Ar (y:Int)=(y:Int):=Ai (by unfold AO; omega);have em:(y:Int).tmod 100=((y % 100:Nat):Int):=Kq y 100;have F:Bw (k+12) (IM I) ((y % 100:Nat):Int) Z=_:=jo (k+11) M.s (Ael _ (by decide));obtain ⟨J1_,J2_,j',t2,C,A,J,D,S2,j⟩:=qo k h M.s (Z8 m (y % 100)) (jm a).1;have M2:=M.step S2 j rfl;obtain ⟨s,o,t',E,M3,N⟩:=L f J2_ _ t2 (by omega) M2;refine ⟨s,o,t', ?_,M3,j.trans N⟩;have K:B7 Z I.sb 2=some (Bk I.j):=M.s.UH;have d:=M.sb;subst d;show Cy _ _ _ _ _ _=_;rw[Lp];simp only[IN,M.b.Bd.2.1,AI,Aad (show (x:Int)<((B.de.n:Nat):Int) by omega),IS,Aad (show (x:Int)<20 by omega),O,Aah,eq,IT,Acu,d0,w0,em,show ((100:Int)=0)=False from by simp,Abs,F,Ah,K,C,PJ A,J,D,Abt,By,P];exact E
end
section
variable {J:Aa} {m mr:HM} {t:RM} {r rq:D3} {I:MZ}
def VB (m:HM) (a b c:Nat):HM:=if 0<(Ag m (Z8 m (a % 100))).1 then (BP m (Z8 m (a % 100)) ((b:Int).tmod (Ag m (Z8 m (a % 100))).1) (Z8 m (c % 100))).2 else m
theorem uD (d:MK m) (h:Qb m) (a b c:Nat):MK (VB m a b c)/\Qb (VB m a b c)/\(VB m a b c).births=m.births/\(VB m a b c).bls.length=m.bls.length:=by
 unfold VB;split
 ·have s:=Ny m (Z8 m (a % 100)) ((b:Int).tmod (Ag m (Z8 m (a % 100))).1) (Z8 m (c % 100));exact ⟨d.setRef _ _ _,h.setRef d.inv _ _ _,s.2.2.1,by rw[s.1]⟩
 ·exact ⟨d,h,rfl,rfl⟩
theorem sO (J:Aa) (T:TypeId) (a b c x y z:Value):H0 (J++[.cells [a,b,c] T true]) J.length 0 [x,y,z]=some (J++[.cells [x,y,z] T true]):=Ez J T a b c x y z
theorem aI (k:Nat) (hk:5000<=k) (B:Bg) (r:D3):∀ (n x:Nat) (m:HM),MK m->Qb m->x+n=min B.li.n 120 ->
  ∃ m',MK m'/\Qb m'/\m'.births=m.births/\m'.bls.length=m.bls.length /\ ∀ lo h0 E,j9 lo h0 E B (fun f=>BW (k+12) f h0 E (x:Int)) (.exit 4) n m m' r r
 | 0,x,m,l,W,hx=>by
   refine ⟨m,l,W,rfl,rfl,fun lo h0 E f Z I t hf M=>?_⟩;obtain ⟨f,rfl⟩:∃ O,f=O+1:=⟨f-1,by omega⟩;refine ⟨Z,I,t, ?_,M,Mv.refl _ _⟩;show BW _ _ _ _ _ _=_;rw[Lq];simp only[IN,M.b.Bd.2.2.1,AI];by_cases q:x<B.li.n
   ·simp only[Aad (show (x:Int)<((B.li.n:Nat):Int) by omega),IS,Aac (show ¬ (x:Int)<120 by omega),AI,By]
   ·simp only[Aac (show ¬ (x:Int)<((B.li.n:Nat):Int) by omega),By,AI]
 | n+1,x,m,l,W,hx=>by
   obtain ⟨P1,P2,P3,P4⟩:=uD l W (B.li.at (x*3)).toNat (B.li.at (x*3+1)).toNat (B.li.at (x*3+2)).toNat;obtain ⟨m',a1,a2,a3,a4,LL⟩:=aI k hk B r n (x+1) _ P1 P2 (by omega);refine ⟨m',a1,a2,a3.trans P3,a4.trans P4,fun lo h0 E f Z I t hf M=>?_⟩;have L:=LL lo h0 E;obtain ⟨f,rfl⟩:∃ O,f=O+1:=⟨f-1,by omega⟩;have w1:=wSu x (by omega);have V:x<B.li.n:=by omega
   obtain ⟨q,eq,hq,ld⟩:=M.b.li.ld V;have qx:=qSu x B.li.n (by omega);have d0:=ld Z rfl 0 (by decide);have d1:=ld Z rfl 1 (by decide);have d2:=ld Z rfl 2 (by decide);rw[Abn] at d0;have g0:=M.b.li.rg (x*3);have g1:=M.b.li.rg (x*3+1);have g2:=M.b.li.rg (x*3+2);obtain ⟨b,z⟩:∃ y:Nat,B.li.at (x*3)=(y:Int):=⟨(B.li.at (x*3)).toNat,by omega⟩;obtain ⟨g,C⟩:∃ y:Nat,B.li.at (x*3+1)=(y:Int):=⟨(B.li.at (x*3+1)).toNat,by omega⟩;obtain ⟨e,D⟩:∃ y:Nat,B.li.at (x*3+2)=(y:Int):=⟨(B.li.at (x*3+2)).toNat,by omega⟩;rw[z,C,D,IT,IT,IT] at L;rw[z] at d0;rw[C] at d1;rw[D] at d2;have v0:Ar (b:Int)=(b:Int):=Ai (by unfold AO; omega);have v1:Ar (g:Int)=(g:Int):=Ai (by unfold AO; omega);have v2:Ar (e:Int)=(e:Int):=Ai (by unfold AO; omega);have K:(b:Int).tmod 100=((b % 100:Nat):Int):=Kq b 100;have N:(e:Int).tmod 100=((e % 100:Nat):Int):=Kq e 100;obtain ⟨A,hA⟩:∃ A,Au.cells [.int .u8 (b:Int),.int .u8 (g:Int),.int .u8 (e:Int)] fe true=A:=⟨_,rfl⟩;have M1:=M.app [A];have Y:∀ τ o v,([Value.int .u8 (b:Int),.int .u8 (g:Int),.int .u8 (e:Int)]:List Value)[o]?=some (.int .u8 v)->Aj .u8 (Z++[A]++τ) Z.length o=some v:=fun τ o v h=>by rw[<- hA]; exact uy _ _ _ _ _ _ h
   have aa:Aj .u8 (Z++[A]) Z.length 0=some (b:Int):=by have:=Y [] 0 (b:Int) rfl; rwa [Abu] at this
   have U:=M.sb;subst U;have eA:Bw (k+12) (IM I) ((b % 100:Nat):Int) (Z++[A])=_:=jo (k+11) M1.s (Ael _ (by decide));have s:=jm (n:=b % 100) l;obtain ⟨a,F⟩:∃ a,Z8 m (b % 100)=a:=⟨_,rfl⟩;obtain ⟨c,eS⟩:=sv (k+8) (by omega) M1.s.g a;have p:Gw (k+12) (Bk I.j) a (Z++[A])=_:=eS;rw[lW] at p;obtain ⟨s1,s2,s3,s4⟩:=O7 l.inv a;have M2:=M1.app c;obtain ⟨S,hS⟩:∃ S,Au.cells [qIi (Ag m a).1,qIi (Ag m a).2.1,qIi (Ag m a).2.2] Ad true=S:=⟨_,rfl⟩;have M3:=M2.app [S];have lS:Aj .i64 (Z++[A]++c++[S]) (Z++[A]++c).length 0=some (Ag m a).1:=by rw[<- hS,Bt]; rfl
   have l2:B7 (Z++[A]) I.sb 2=some (Bk I.j):=M1.s.UH;have d:Z++[A]++c++[S]=Z++[A]++(c++[S]):=Aae _ _ _;have ab:Aj .u8 (Z++[A]++c++[S]) Z.length 1=some (g:Int):=by rw[d]; exact Y _ 1 _ rfl
   have ac:Aj .u8 (Z++[A]++c++[S]) Z.length 2=some (e:Int):=by rw[d]; exact Y _ 2 _ rfl
   have mm:Mv I.fl I.fl Z (Z++[A]++c++[S]):=((Mv.app _ _ _).trans (Mv.app _ _ _)).trans (Mv.app _ _ _);have i0:(0<=(0:Int)/\(0:Int)<((3:Nat):Int))=True:=Adk (by decide);have i1:(0<=(1:Int)/\(1:Int)<((3:Nat):Int))=True:=Adk (by decide);have i2:(0<=(2:Int)/\(2:Int)<((3:Nat):Int))=True:=Adk (by decide);have P:(Ag m a).1>0->Ax m a=true:=fun h=>by
    unfold Ag at h;split at h
    ·assumption
    ·exact absurd h (by decide)
   show ∃ i j t',BW _ _ _ _ _ _=_/\_;rw[Lq];simp only[IN,Adt,Nat.reduceAdd,M.b.Bd.2.2.1,AI,Aad (show (x:Int)<((B.li.n:Nat):Int) by omega),IS,Aad (show (x:Int)<120 by omega),qx,Aah,eq,IT,d0,d1,d2,Ae,sO,hA,i0,Afc,Adw,aa,v0,K,show ((100:Int)=0)=False from by simp,Abs,eA,Ah,F,l2,p,jd,Ada,Adn,Aeo,Aeu,H5,hS];have go:∀ {X:Option Bq},VB m b g e=m->X=BW (k+12) f h0 I.sb ((x+1:Nat):Int) (Z++[A]++c++[S]) -> ∃ i j t',X=some (.exit 4,[],i)/\Mk lo i j m' t' r I.sb h0 B/\Mv I.fl j.fl Z i:=fun u hX=>by
    rw[u] at L;obtain ⟨i,j,t',e3,H,G⟩:=L f _ I t (by omega) M3;exact ⟨i,j,t',by rw[hX]; exact e3,H,mm.trans G⟩
   by_cases w:0<(Ag m a).1;rotate_left
   ·have u:VB m b g e=m:=by unfold VB; rw[F,Abo w]
    refine go u ?_;have hb:((bif (if Ax m a then (0:Int) else 4) == (0:Int) then (Aj .i64 (Z++[A]++c++[S]) (Z++[A]++c).length 0).bind fun ad=>some (decide (ad>(0:Int)),Z++[A]++c++[S]) else some (false,Z++[A]++c++[S])):Option (Bool × Aa))=some (false,Z++[A]++c++[S]):=by
     rw[lS];simp only[AI,Aac (show ¬ (Ag m a).1>0 from w)];cases (if Ax m a then (0:Int) else 4) == (0:Int) <;> rfl
    simp only[hb,AI,By,w1]
   ·have u:VB m b g e=(BP m a ((g:Int).tmod (Ag m a).1) (Z8 m (e % 100))).2:=by unfold VB; rw[F,Abm w]
    rw[u] at L;have Q:=P w;have J:Bw (k+12) (IM I) ((e % 100:Nat):Int) (Z++[A]++c++[S])=_:=jo (k+11) M3.s (Ael _ (by decide));obtain ⟨Z4_,I4,t4,e4,S4,G,b4⟩:=wy (k+4) (by omega) M3.s a ((g:Int).tmod (Ag m a).1) (Z8 m (e % 100)) (by rw[<- F]; exact s.1) (jm l).1;have H:=M3.step S4 G b4;obtain ⟨i,j,t',e5,M5,m5⟩:=L f Z4_ I4 t4 (by omega) H;refine ⟨i,j,t', ?_,M5,(mm.trans G).trans m5⟩;have T:(if Ax m a=true then (0:Int) else 4)=0:=by rw[Abm Q]
    simp only[T,show ((0:Int) == 0)=true from rfl,IS,lS,AI,Aad (show (Ag m a).1>0 from w),i1,Aah,show (1:Int).toNat*1=1 from rfl,ab,show ((Ag m a).1=0)=False from Aig (by omega),Abs,i2,show (2:Int).toNat*1=2 from rfl,ac,v2,N,J,Ah,v1,e4,An,Abr,By,w1];exact e5
theorem aJ (k:Nat) (O:5000<=k) (B:Bg) (m:HM) (u:MK m):∀ (n x:Nat) (r:D3),Mq m r->x+n=min B.pl.n 20 ->
  ∃ e,Mq m e /\ ∀ lo h0 d,j9 lo h0 d B (fun f=>Cz (k+12) f h0 d (x:Int)) (.exit 6) n m m r e
 | 0,x,r,o,P=>by
   refine ⟨r,o,fun lo h0 d f Z I t N M=>?_⟩;obtain ⟨f,rfl⟩:∃ h,f=h+1:=⟨f-1,by omega⟩;refine ⟨Z,I,t, ?_,M,Mv.refl _ _⟩;show Cz _ _ _ _ _ _=_;rw[Lr];simp only[IN,M.b.Bd.2.2.2.1,AI];by_cases q:x<B.pl.n
   ·simp only[Aad (show (x:Int)<((B.pl.n:Nat):Int) by omega),IS,Aac (show ¬ (x:Int)<20 by omega),AI,By]
   ·simp only[Aac (show ¬ (x:Int)<((B.pl.n:Nat):Int) by omega),By,AI]
 | n+1,x,r,o,P=>by
   have p:Mq m (ox r (B.pl.at (x*2)).toNat (Z8 m ((B.pl.at (x*2+1)).toNat % 100))):=fun v j=>by
    rcases vo j with rfl | j
    ·exact tT m _
    ·exact o v j
   obtain ⟨e,F,C⟩:=aJ k O B m u n (x+1) _ p (by omega);refine ⟨e,F,fun lo h0 d f Z I t N M=>?_⟩;have L:=C lo h0 d;obtain ⟨f,rfl⟩:∃ h,f=h+1:=⟨f-1,by omega⟩;have T:=wSu x (by omega);have l:x<B.pl.n:=by omega
   obtain ⟨q,eq,W,ld⟩:=M.b.pl.ld l;have S:=qSu x B.pl.n (by omega);have d0:=ld Z rfl 0 (by decide);have d1:=ld Z rfl 1 (by decide);rw[Abn] at d0;have U:=M.b.pl.rg (x*2);have V:=M.b.pl.rg (x*2+1);obtain ⟨s,b⟩:∃ y:Nat,B.pl.at (x*2)=(y:Int):=⟨(B.pl.at (x*2)).toNat,by omega⟩;obtain ⟨a,c⟩:∃ y:Nat,B.pl.at (x*2+1)=(y:Int):=⟨(B.pl.at (x*2+1)).toNat,by omega⟩;rw[b,c,IT,IT] at L;rw[b] at d0;rw[c] at d1;have v0:Ar (s:Int)=(s:Int):=Ai (by unfold AO; omega);have v1:Ar (a:Int)=(a:Int):=Ai (by unfold AO; omega);have g:(a:Int).tmod 100=((a % 100:Nat):Int):=Kq a 100;have i:=M.sb;subst i;have K:Bw (k+12) (IM I) ((a % 100:Nat):Int) Z=_:=jo (k+11) M.s (Ael _ (by decide));obtain ⟨Z4_,A,t4,H,S4,w,G⟩:=yO (k+7) M.s (n:=s) (by omega) (Z8 m (a % 100)) (jm u).1;have D:=M.step S4 w G;obtain ⟨E,z,t',J,M5,Q⟩:=L f Z4_ A t4 (by omega) D;refine ⟨E,z,t', ?_,M5,w.trans Q⟩;have i0:(0<=(0:Int)/\(0:Int)<((2:Nat):Int))=True:=Adk (by decide);have i1:(0<=(1:Int)/\(1:Int)<((2:Nat):Int))=True:=Adk (by decide);show Cz _ _ _ _ _ _=_;rw[Lr];simp only[IN,M.b.Bd.2.2.2.1,AI,Aad (show (x:Int)<((B.pl.n:Nat):Int) by omega),IS,Aad (show (x:Int)<20 by omega),S,Aah,eq,IT,i0,Afc,Adw,Abn,d0,i1,show (1:Int).toNat*1=1 from rfl,d1,v0,v1,g,show ((100:Int)=0)=False from by simp,Abs,K,Ah,H,An,Abr,By,T];exact J
theorem aK (k:Nat) (i:5000<=k) (B:Bg) (r:D3):∀ (n x:Nat) (m:HM),MK m->Qb m->Mq m r->x+n=min B.pi.n 8 ->
  ∃ m',MK m'/\Qb m'/\Mq m' r/\m'.births=m.births/\m'.bls.length=m.bls.length /\ ∀ lo h0 a,j9 lo h0 a B (fun f=>C0 (k+12) f h0 a (x:Int)) (.exit 8) n m m' r r
 | 0,x,m,b,h,d,J=>by
   refine ⟨m,b,h,d,rfl,rfl,fun lo h0 a f Z I t H M=>?_⟩;obtain ⟨f,rfl⟩:∃ c,f=c+1:=⟨f-1,by omega⟩;refine ⟨Z,I,t, ?_,M,Mv.refl _ _⟩;show C0 _ _ _ _ _ _=_;rw[Lt];simp only[IN,M.b.Bd.2.2.2.2,AI];by_cases q:x<B.pi.n
   ·simp only[Aad (show (x:Int)<((B.pi.n:Nat):Int) by omega),IS,Aac (show ¬ (x:Int)<8 by omega),AI,By]
   ·simp only[Aac (show ¬ (x:Int)<((B.pi.n:Nat):Int) by omega),By,AI]
 | n+1,x,m,b,h,d,J=>by
   have pl:=Yv m (Z8 m ((B.pi.at x).toNat % 100)) 1;obtain ⟨m',u,v,w,z,A,p⟩:=aK k i B r n (x+1) _ (b.Ww (Z8 m ((B.pi.at x).toNat % 100)) 1) (h.Ww _ _) (d.Aw (by rw[pl.1]) pl.2.1) (by omega);refine ⟨m',u,v,w,z.trans pl.2.2.2.1,A.trans (by rw[pl.1]),fun lo h0 a f Z I t H M=>?_⟩;have L:=p lo h0 a;obtain ⟨f,rfl⟩:∃ c,f=c+1:=⟨f-1,by omega⟩;have Q:=wSu x (by omega);have g:x<B.pi.n:=by omega
   obtain ⟨q,eq,T,ld⟩:=M.b.pi.ld g;have P:=qSu x B.pi.n (by omega);have d0:=ld Z rfl 0 (by decide);rw[Abn,Acu] at d0;have S:=M.b.pi.rg x;obtain ⟨y,j⟩:∃ y:Nat,B.pi.at x=(y:Int):=⟨(B.pi.at x).toNat,by omega⟩;rw[j,IT] at L;rw[j] at d0;have w0:Ar (y:Int)=(y:Int):=Ai (by unfold AO; omega);have em:(y:Int).tmod 100=((y % 100:Nat):Int):=Kq y 100;have G:Bw (k+12) (IM I) ((y % 100:Nat):Int) Z=_:=jo (k+11) M.s (Ael _ (by decide));obtain ⟨J1_,J2_,j',t2,D,C,K,E,S2,l⟩:=tz k i M.s (Z8 m (y % 100)) (jm b).1;have M2:=M.step S2 l rfl;obtain ⟨s,o,t',F,M3,O⟩:=L f J2_ _ t2 (by omega) M2;refine ⟨s,o,t', ?_,M3,l.trans O⟩;have N:B7 Z I.sb 2=some (Bk I.j):=M.s.UH;have e:=M.sb;subst e;show C0 _ _ _ _ _ _=_;rw[Lt];simp only[IN,M.b.Bd.2.2.2.2,AI,Aad (show (x:Int)<((B.pi.n:Nat):Int) by omega),IS,Aad (show (x:Int)<8 by omega),P,Aah,eq,IT,Acu,d0,w0,em,show ((100:Int)=0)=False from by simp,Abs,G,Ah,N,D,PJ C,K,E,Abt,By,Q];exact F
theorem Acf (a:Addr):Ll P Hl (qVi (some a)) (qVi none)=some false:=by kernel_rfl
theorem Acb (a:Addr):Ll P EY (qVi (some a)) (qVi none)=some false:=by kernel_rfl
structure Qu (lo:Nat) (J:Aa) (B:Bg):Prop where
 b0:0<=B.bl/\B.bl<256
 m0:0<=B.mu/\B.mu<256
 ob:Mj lo J 4 B.ob
 de:Mj lo J 1 B.de
 li:Mj lo J 3 B.li
 pl:Mj lo J 2 B.pl
 pi:Mj lo J 1 B.pi
theorem Qu.DN {lo:Nat} {J J':Aa} {B:Bg} (h:Qu lo J B) (a:∀ q,q<lo->J'[q]?=J[q]?):Qu lo J' B:=⟨h.b0,h.m0,h.ob.DN a,h.de.DN a,h.li.DN a,h.pl.DN a,h.pi.DN a⟩
theorem Mj.up {lo a:Nat} {J:Aa} {w:Nat} {b:BL} (h:Mj lo J w b) (f:lo<=a):Mj a J w b:=⟨h.len,h.rng,h.at_.imp id fun ⟨q,T,c,e,h1,d⟩=>⟨q,T,c,e,Acz h1 f,d⟩⟩
def uI (k:Nat) (B:Bg) (J:Aa):Option (Value × Aa):=H7 k B.bl B.mu (B.ob.p,B.ob.n,B.ob.c) (B.de.p,B.de.n,B.de.c) (B.li.p,B.li.n,B.li.c) (B.pl.p,B.pl.n,B.pl.c) (B.pi.p,B.pi.n,B.pi.c) J
theorem w7 (k:Nat) (hk:10000<=k) (B:Bg) (O:0<=B.bl/\B.bl<256) (P:0<=B.mu/\B.mu<256):∃ m r,MK m/\Qb m/\Mq m r/\m.births<=40 /\ ∀ lo J,Qu lo J B->lo<=J.length ->
  ∃ J' I t,uI (k+14) B J=some (qVi (IM I),J')/\Sn J' I m m t r r/\(∀ q ∈ I.fl,J.length<=q)/\J.length<=J'.length /\ ∀ q,q<J.length->J'[q]?=J[q]?:=by
 have ak:=Agb 23 O.1;have ai:=Afj B.bl (show (0:Int)<23 by decide);have e4:=Agb 4 P.1;have u:=Afj B.mu (show (0:Int)<4 by decide);obtain ⟨nb,ah⟩:∃ nb:Nat,2+B.bl.tmod 23=(nb:Int):=⟨(2+B.bl.tmod 23).toNat,by omega⟩;obtain ⟨f,ag⟩:∃ f:Nat,1+B.mu.tmod 4=(f:Int):=⟨(1+B.mu.tmod 4).toNat,by omega⟩;have b:MK (JB nb):=MK.new (by omega) (by omega);obtain ⟨g,w⟩:∃ g:D3,(⟨f,List.replicate (16*f) 0,List.replicate 16 0,[]⟩:D3)=g:=⟨_,rfl⟩;have af:∀ m,Mq m g:=fun m v y=>by
  rw[<- w] at y;unfold D3.all at y;simp only[Aag,Afy,Ad3,Afz] at y;exact .inl (by rcases y with y | y <;> exact y.2)
 obtain ⟨m1,A1,A2,A3,A4,L0⟩:=aG k (by omega) B g (min B.ob.n 40) 0 (JB nb) b (NN.new nb) (by simp[JB]) (by omega);obtain ⟨m2,B1,B2,B3,B4,L1⟩:=aH (k+1) (by omega) B g (min B.de.n 20) 0 m1 A1 A2 (by omega);obtain ⟨m3,C1,C2,C3,C4,L2⟩:=aI (k+1) (by omega) B g (min B.li.n 120) 0 m2 B1 B2.s (by omega);obtain ⟨r4,D1,L3⟩:=aJ (k+1) (by omega) B m3 C1 (min B.pl.n 20) 0 g (af m3) (by omega);obtain ⟨m5,E1,E2,E3,E4,E5,L4⟩:=aK (k+1) (by omega) B r4 (min B.pi.n 8) 0 m3 C1 C2 D1 (by omega);refine ⟨m5,r4,E1,E2,E3,by rw[E4,C3,B3]; exact A3,fun lo J hB am=>?_⟩;obtain ⟨c,h⟩:∃ c,Au.cells [.int .u8 B.bl,.int .u8 B.mu,.slice B.ob.p B.ob.n B.ob.c,.slice B.de.p B.de.n B.de.c,.slice B.li.p B.li.n B.li.c,.slice B.pl.p B.pl.n B.pl.c,.slice B.pi.p B.pi.n B.pi.c] Dv true=c:=⟨_,rfl⟩;have c0:(J++[c])[J.length]?=some c:=by simp
 have l0:(J++[c]).length=J.length+1:=by simp
 obtain ⟨J1_,i,e1,h1,Q,k1⟩:=tu (k+8) (n:=nb) (by omega) (by omega) (J++[c]);have Z:J5 (k+13) (nb:Int) (J++[c])=_:=e1;have aj:=k1.len;have q1:∀ q,q<J.length+1->J1_[q]?=(J++[c])[q]?:=fun q o=>k1.same q (by omega) fun hm=>by have:=Q q hm; omega
 obtain ⟨τ2,p,e2,V,T⟩:=uZ (k+12) (n:=f) (by omega) (by omega) J1_;have K:Iy (k+13) (f:Int) J1_=_:=e2;rw[w] at V;obtain ⟨A,hA⟩:∃ A,J1_++τ2=A:=⟨_,rfl⟩;rw[hA] at K V;have lA:A.length=J1_.length+τ2.length:=by rw[<- hA]; simp
 have qA:∀ q,q<J1_.length->A[q]?=J1_[q]?:=fun q o=>by rw[<- hA,AT o]
 obtain ⟨H,N⟩:∃ H,Au.cells [qVi (AU i),qVi (F6 p),qVi none,qVi none] BJ true=H:=⟨_,rfl⟩;obtain ⟨τ4,j,e4,h4,z⟩:=xz (k+12) (n:=nb) (by omega) (by omega) (A++[H]);have u:LX (k+13) (nb:Int) (A++[H])=_:=e4;obtain ⟨C,hC⟩:∃ C,A++[H]++τ4=C:=⟨_,rfl⟩;rw[hC] at u h4;have lC:C.length=A.length+1+τ4.length:=by rw[<- hC]; simp; omega
 have cC:C[A.length]?=some H:=by rw[<- hC,AT (by simp)]; simp
 have qC:∀ q,q<A.length->C[q]?=A[q]?:=fun q o=>by rw[<- hC,Aae,AT o]
 have s4:CX C A.length 2 (qVi (Bk j))=some (C.set A.length (.cells [qVi (AU i),qVi (F6 p),qVi (Bk j),qVi none] BJ true)):=by
  rw[<- N] at cC; simp[CX,cC]
 obtain ⟨D,X⟩:∃ D,C.set A.length (.cells [qVi (AU i),qVi (F6 p),qVi (Bk j),qVi none] BJ true)=D:=⟨_,rfl⟩;rw[X] at s4;have lD:D.length=C.length:=by rw[<- X]; simp
 have cD:D[A.length]?=some (.cells [qVi (AU i),qVi (F6 p),qVi (Bk j),qVi none] BJ true):=by rw[<- X,Abq (by omega)]
 have qD:∀ q,q≠A.length->D[q]?=C[q]?:=fun q o=>by rw[<- X,Aaf (Ac9 o)]
 obtain ⟨τ6,q,e6,W,G⟩:=uY (k+11) (by omega) (n:=f) (by omega) (by omega) D;have M:It (k+13) (f:Int) D=_:=e6;rw[w] at W;obtain ⟨E,hE⟩:∃ E,D++τ6=E:=⟨_,rfl⟩;rw[hE] at M W;have qE:∀ q,q<D.length->E[q]?=D[q]?:=fun q o=>by rw[<- hE,AT o]
 have lE:D.length<=E.length:=by rw[<- hE]; simp
 have cE:=(qE A.length (by omega)).trans cD;have s6:CX E A.length 3 (qVi (GP q))=some (E.set A.length (.cells [qVi (AU i),qVi (F6 p),qVi (Bk j),qVi (GP q)] BJ true)):=by simp[CX,cE]
 obtain ⟨F,Y⟩:∃ F,E.set A.length (.cells [qVi (AU i),qVi (F6 p),qVi (Bk j),qVi (GP q)] BJ true)=F:=⟨_,rfl⟩;rw[Y] at s6;have lF:F.length=E.length:=by rw[<- Y]; simp
 have cF:F[A.length]?=some (.cells [qVi (AU i),qVi (F6 p),qVi (Bk j),qVi (GP q)] BJ true):=by rw[<- Y,Abq (by omega)]
 have qF:∀ x,x≠A.length->F[x]?=E[x]?:=fun x a=>by rw[<- Y,Aaf (Ac9 a)]
 have low:∀ x,x<A.length->F[x]?=A[x]?:=fun x a=>by rw[qF x (by omega),qE x (by omega),qD x (by omega),qC x a]
 have li:=h1.lt;have lp:=V.lt;have lj:=h4.lt;have lq:=W.lt;have S:Sn F ⟨A.length,i,j,p,q⟩ (JB nb) (JB nb) ⟨List.replicate nb (0,0),[],[],0⟩ g g:=by
  refine ⟨cF,h1.Aw fun x a=>?_,b,⟨h4.Aw (fun x a=>?_) (by omega),Rl.new nb,Inv.new nb,Inv2.new nb,b.sh.wl,b.nb,b.nt⟩,LH.new nb,b,V.Aw fun x a=>low x (lp x a),W.Aw fun x a=>?_,⟨?_,fun L l x a=>?_⟩⟩
  ·have:=li x a;rw[low x (by omega),qA x this]
  ·have U:=z x a;have g2:=lj x a;rw[Abe,Ac3] at U;rw[qF x (by omega),qE x (by omega),qD x (by omega)]
  ·have U:=G x a;rw[qF x (by omega)]
  ·have d1:∀ x ∈ i.l,x<J1_.length:=li;have d2:∀ x ∈ p.l,J1_.length<=x/\x<A.length:=fun x a=>⟨T x a,lp x a⟩;have d3:∀ x ∈ j.l,A.length<x/\x<D.length:=fun x a=>by
    have U:=z x a;have g2:=lj x a;rw[Abe,Ac3] at U;omega
   have d4:∀ x ∈ q.l,D.length<=x:=G;show [i.l,j.l,p.l,q.l,[A.length]].Pairwise Dj;simp only[Ad9,Acv,Ad3,Afz,forall_eq_or_imp,forall_eq,List.Pairwise.nil,and_true,false_implies,implies_true];refine ⟨⟨?_, ?_, ?_, ?_⟩,⟨?_, ?_, ?_⟩,⟨?_, ?_⟩, ?_⟩
   ·exact fun x a hm=>by have:=d1 x a; have:=d3 x hm; omega
   ·exact fun x a hm=>by have:=d1 x a; have:=d2 x hm; omega
   ·exact fun x a hm=>by have:=d1 x a; have:=d4 x hm; omega
   ·exact fun x a hm=>by have:=d1 x a; have:=Ac1.1 hm; omega
   ·exact fun x a hm=>by have:=d3 x a; have:=d2 x hm; omega
   ·exact fun x a hm=>by have:=d3 x a; have:=d4 x hm; omega
   ·exact fun x a hm=>by have:=d3 x a; have:=Ac1.1 hm; omega
   ·exact fun x a hm=>by have:=d2 x a; have:=d4 x hm; omega
   ·exact fun x a hm=>by have:=d2 x a; have:=Ac1.1 hm; omega
   ·exact fun x a hm=>by have:=d4 x a; have:=Ac1.1 hm; omega
  ·have l:L ∈ [i.l,j.l,p.l,q.l,[A.length]]:=l;simp only[Acv,Ad3,Afz] at l;rcases l with rfl | rfl | rfl | rfl | rfl
   ·have:=li x a; omega
   ·have:=lj x a; omega
   ·have:=lp x a; omega
   ·have:=lq x a; omega
   ·have:=Ac1.1 a; omega
 have s:∀ x,x<J.length+1->F[x]?=(J++[c])[x]?:=fun x a=>by rw[low x (by omega),qA x (by omega),q1 x a]
 have e:∀ x,x<J.length->F[x]?=J[x]?:=fun x a=>by rw[s x (by omega),AT a]
 have d:=hB.DN (J':=F) fun x a=>e x (by omega);have M0:Mk (J.length+1) F ⟨A.length,i,j,p,q⟩ (JB nb) ⟨List.replicate nb (0,0),[],[],0⟩ g A.length J.length B:=by
  refine ⟨S,rfl,⟨by rw[s _ (by omega),c0,<- h],by omega,O,P,d.ob.up (by omega),d.de.up (by omega),d.li.up (by omega),d.pl.up (by omega),d.pi.up (by omega)⟩,fun x a=>?_,by omega⟩;obtain ⟨L,l,a⟩:=Adm.1 a;have l:L ∈ [i.l,j.l,p.l,q.l,[A.length]]:=l;simp only[Acv,Ad3,Afz] at l;rcases l with rfl | rfl | rfl | rfl | rfl
  ·have:=Q x a; omega
  ·have:=z x a; rw[Abe] at this; omega
  ·have:=T x a; omega
  ·have:=G x a; omega
  ·have:=Ac1.1 a; omega
 obtain ⟨Z1_,I1,t1,f1,M1,v1⟩:=L0 (J.length+1) J.length A.length (k+13) F _ _ (by omega) M0;obtain ⟨Z2_,I2,t2,f2,M2,v2⟩:=L1 (J.length+1) J.length A.length (k+13) Z1_ _ _ (by omega) M1;obtain ⟨Z3_,I3,t3,f3,M3,v3⟩:=L2 (J.length+1) J.length A.length (k+13) Z2_ _ _ (by omega) M2;obtain ⟨Z4_,I4,t4,f4,M4,v4⟩:=L3 (J.length+1) J.length A.length (k+13) Z3_ _ _ (by omega) M3;obtain ⟨Z5_,I5,t5,f5,M5,v5⟩:=L4 (J.length+1) J.length A.length (k+13) Z4_ _ _ (by omega) M4;have vv:=(((v1.trans v2).trans v3).trans v4).trans v5;refine ⟨Z5_,I5,t5, ?_,M5.s,fun x a=>by have:=M5.new x a; omega,by have:=M5.ll; omega,fun x a=>(M0.low vv x (by omega)).trans (e x a)⟩;have wb:Ar B.bl=B.bl:=Ai (by unfold AO; omega);have wm:Ar B.mu=B.mu:=Ai (by unfold AO; omega);have wn:Ar (nb:Int)=(nb:Int):=Ai (by unfold AO; omega);have wu:Ar (f:Int)=(f:Int):=Ai (by unfold AO; omega);have x0:Aj .u8 (J++[c]) J.length 0=some B.bl:=by rw[<- h,Bt]; rfl
 have x1:Aj .u8 (J++[c]) J.length 1=some B.mu:=by rw[<- h,Bt]; rfl
 have aa:Cx (k+13) (k+13) J.length A.length 0 F=_:=f1;have ab:Cy (k+13) (k+13) J.length A.length 0 Z1_=_:=f2;have ac:BW (k+13) (k+13) J.length A.length 0 Z2_=_:=f3;have ad:Cz (k+13) (k+13) J.length A.length 0 Z3_=_:=f4;have ae:C0 (k+13) (k+13) J.length A.length 0 Z4_=_:=f5;unfold uI;rw[SC];simp only[Ae,h,IN,Nat.reduceAdd,x0,x1,AI,wb,wm,ah,ag,wn,wu,show ((23:Int)=0)=False from by simp,show ((4:Int)=0)=False from by simp,Abs,Z,LF,K,Acb,By,zs,Abt,N,u,s4,M,s6,aa,ab,ac,ad,ae,Aah];unfold IM;rw[M5.sb]
end
section
variable {J:Aa} {m:HM} {r:D3} {s:TC} {i:Cp} {p:PI}
theorem Qw.new {nb:Nat} (look:Bool) (born:Int):Qw nb (Xm nb look born):=
 ⟨by simp[Xm],Ade _,fun v a=>by simp[Xm] at a,Ade _,fun _=>rfl,fun _=>rfl⟩
theorem gR (k:Nat) (G:10<=k) (h:Al J i m) (n:MK m) (j:Ha J p r) (hd:Fp J [i.l,p.l]) (look:Bool) (born:Int):
  ∃ τ c,Nf (k+5) (AU i) (F6 p) look born J=some (.tuple #[qVi (D2 c),qIi 0],J++τ)/\Lc (J++τ) i p c m r (Xm m.bls.length look born) /\ ∀ q ∈ c.l,J.length<=q:=by
 have I:=n.nb;have K:=n.nt;have H:=j.ok.m1;have w:∀ Z,Al Z i m->AE (k+4) (AU i) Z=some (qIi ((m.bls.length:Nat):Int),Z):=fun Z M=>GR (k+2) M;have D:Cg (k+4) (F6 p) J=_:=YR (k+2) j;obtain ⟨b,f⟩:∃ b,Au.cells [qVi (AU i),qVi (F6 p),.bool look,qIi born,qIi (0:Int),qVi none,.slice none 0 0,.slice none 0 0,qIi (0:Int)] Hu true=b:=⟨_,rfl⟩;have h1:=h.app [b];have y:((m.bls.length:Nat):Int)*64=((64*m.bls.length:Nat):Int):=by omega
 have z:Ar ((64*m.bls.length:Nat):Int)=((64*m.bls.length:Nat):Int):=Ai (by unfold AO; omega);have A:((64*m.bls.length:Nat):Int).tdiv 2=((32*m.bls.length:Nat):Int):=by rw[show ((2:Int))=((2:Nat):Int) from rfl,Z2]; congr 1; omega
 have B:Ar ((32*m.bls.length:Nat):Int)=((32*m.bls.length:Nat):Int):=Ai (by unfold AO; omega);obtain ⟨τ,tb,wb,C,x,s,t,o⟩:=iX k G (e:=32*m.bls.length) (by omega) (by omega) (J++[b]);rw[Abe,Ac3] at s t;have O:=x.lt;have v:(J++[b]++τ)[J.length]?=some b:=by rw[AT (by simp)]; simp
 have es:CX (J++[b]++τ) J.length 5 (qVi (some ⟨tb,0,none⟩))=some ((J++[b]++τ).set J.length (.cells (GD ⟨J.length,tb,wb,(none,0,0),(none,0,0)⟩ i.hb p.rb (Xm m.bls.length look born)) Hu true)):=by
  rw[<- f] at v ⊢;simp only[CX,v];rfl
 obtain ⟨F,d⟩:∃ F,(J++[b]++τ).set J.length (.cells (GD ⟨J.length,tb,wb,(none,0,0),(none,0,0)⟩ i.hb p.rb (Xm m.bls.length look born)) Hu true)=F:=⟨_,rfl⟩;rw[d] at es;have N:F.length=J.length+1+τ.length:=by rw[<- d,Ac8,Abe,Abe,Ac3]
 have low:∀ q,q<J.length->F[q]?=J[q]?:=fun q a=>by rw[<- d,Aaf (by omega),Aae,AT a]
 obtain ⟨u,g⟩:∃ u,F=J++u:=GA (by omega) low;refine ⟨u,⟨J.length,tb,wb,(none,0,0),(none,0,0)⟩, ?_, ?_,fun q a=>?_⟩
 ·rw[il];simp only[w _ h,AI,Ah,Aac (show ¬ ((m.bls.length:Nat):Int)<=0 by omega),By,D,show (((r.mu:Nat):Int) == 0)=false from by rw[Acy]; omega,Ae,f,w _ h1,y,z,A,B,show ((2:Int)=0)=False from by simp,Abs,C,LF,IN,es,g]
 ·rw[<- g];have co:Gi F ⟨J.length,tb,wb,(none,0,0),(none,0,0)⟩ i.hb p.rb m.bls.length (Xm m.bls.length look born):=by
   refine ⟨by rw[<- d]; exact Abq (by rw[Abe,Abe,Ac3]; omega),x.same (by rw[<- d]; exact Aaf (by omega)) (by rw[<- d]; exact Aaf (by omega)),Bh.nil _,Bh.nil _,⟨by show J.length≠tb; omega,by show J.length≠wb; omega,o,fun q a=>by simp[hs] at a,fun q a=>by simp[hs] at a⟩⟩
  refine ⟨h.Aw fun q a=>low q (h.lt q a),n,j.Aw fun q a=>low q (j.lt q a),co, ?_,Qw.new look born⟩;have E:∀ q ∈ (⟨J.length,tb,wb,(none,0,0),(none,0,0)⟩:CI).l,J.length<=q:=fun q a=>by
   rcases CI.mem a with a | a | a | a | a
   ·exact Ahe a.symm
   ·have a:q=tb:=a; omega
   ·have a:q=wb:=a; omega
   ·simp[hs] at a
   ·simp[hs] at a
  have l:=hd.cons (J':=F) (L:=(⟨J.length,tb,wb,(none,0,0),(none,0,0)⟩:CI).l) (fun q a=>⟨E q a,co.lt q a⟩) (by omega);exact l.sub [1,2,0] (by decide) (by simp) rfl
 ·rcases CI.mem a with a | a | a | a | a
  ·exact Ahe a.symm
  ·have a:q=tb:=a; omega
  ·have a:q=wb:=a; omega
  ·simp[hs] at a
  ·simp[hs] at a
structure XI where
 xb:Nat
 kb:Nat
 I:MZ
 c:CI
def XI.Ls (X:XI):List (List Nat):=[X.I.i.l,X.I.p.l,X.c.l,[X.xb],[X.kb],[X.I.sb],X.I.q.l]
abbrev Lj (X:XI):qOi:=some ⟨X.xb,0,none⟩
abbrev Kt (X:XI):qOi:=some ⟨X.kb,0,none⟩
structure Pm (J:Aa) (X:XI) (m:HM) (r:D3) (s:TC):Prop where
 run:∃ kp lo bn,J[X.xb]?=some (.cells [qVi (IM X.I),qVi (Kt X),kp,lo,bn] AN true)
 col:J[X.kb]?=some (.cells [qVi (D2 X.c)] IB true)
 sc:J[X.I.sb]?=some (.cells (HK X.I) BJ true)
 t:Lc J X.I.i X.I.p X.c m r s
 q:∃ rq,F5 J X.I.q rq/\rq.mu=r.mu
 fp:Fp J X.Ls
variable {X:XI}
theorem Pm.EX (h:Pm J X m r s):B7 J X.xb 1=some (Kt X):=by
 obtain ⟨_,_,_,e⟩:=h.run;simp[B7,CV,e,HO]
theorem Pm.HI (h:Pm J X m r s):B7 J X.xb 0=some (IM X.I):=by
 obtain ⟨_,_,_,e⟩:=h.run;simp[B7,CV,e,HO]
theorem Pm.dX (h:Pm J X m r s):B7 J X.I.sb 0=some (AU X.I.i):=by simp[B7,CV,h.sc,HK,HO]
theorem Pm.Aw {J':Aa} (h:Pm J X m r s) (f:J.length<=J'.length) (d:∀ L ∈ X.Ls,∀ q ∈ L,J'[q]?=J[q]?):Pm J' X m r s:=
 ⟨(by obtain ⟨a,b,c,e⟩:=h.run; exact ⟨a,b,c,(d [X.xb] (by simp[XI.Ls]) _ (by simp)).trans e⟩),(d [X.kb] (by simp[XI.Ls]) _ (by simp)).trans h.col,(d [X.I.sb] (by simp[XI.Ls]) _ (by simp)).trans h.sc,h.t.Aw f (d _ (by simp[XI.Ls])) (d _ (by simp[XI.Ls])) (d _ (by simp[XI.Ls])),(by obtain ⟨rq,a,b⟩:=h.q; exact ⟨rq,a.Aw (d _ (by simp[XI.Ls])),b⟩),⟨h.fp.dj,fun L g q hm=>Acz (h.fp.lt L g q hm) f⟩⟩
theorem Pm.app (h:Pm J X m r s) (τ:Aa):Pm (J++τ) X m r s:=h.Aw (by simp) fun L a q b=>AT (h.fp.lt L a q b)
theorem Pm.core (k:Nat) (h:Pm J X m r s):Ap (k+1) (Kt X) J=some (qVi (D2 X.c),J):=by
 have a:B7 J X.kb 0=some (D2 X.c):=by simp[B7,CV,h.col,HO]
 rw[L6];simp only[show Ll P DQ (qVi (Kt X)) (qVi none)=some false from by kernel_rfl,AI,By,IN,a]
theorem Pm.turn {J':Aa} {c':CI} {m':HM} {s':TC} (h:Pm J X m r s) (T:Lc J' X.I.i X.I.p c' m' r s') (hm:Mv (X.I.i.l++X.c.l) (X.I.i.l++c'.l) J J') (hc:c'.cb=X.c.cb):
  Pm J' { X with c:=c' } m' r s'/\Mv X.Ls.flatten ({ X with c:=c' }:XI).Ls.flatten J J':=by
 have dj:=fun {a b:Nat} (n:a<X.Ls.length) (hb:b<X.Ls.length) (i:b≠a)=>h.fp.ne n hb i;have l:∀ y (o:y<X.Ls.length),y≠0->y≠2->(∀ q ∈ X.Ls[y],J'[q]?=J[q]?)/\(∀ q ∈ X.Ls[y],q ∉ X.I.i.l++c'.l) /\ ∀ q ∈ X.Ls[y],q<J'.length:=fun y o h0 h2=>hm.DN (fun q d=>h.fp.lt _ (Ac4 o) q d) fun q d f=>by
  rcases Aag.1 f with f | f
  ·exact h.fp.ne (x:=y) (y:=0) o (by simp[XI.Ls]) (Ac9 h0) q d f
  ·exact h.fp.ne (x:=y) (y:=2) o (by simp[XI.Ls]) (Ac9 h2) q d f
 obtain ⟨O,S,Y⟩:=l 3 (by simp[XI.Ls]) (by decide) (by decide);obtain ⟨P,U,Z⟩:=l 4 (by simp[XI.Ls]) (by decide) (by decide);obtain ⟨Q,V,g5⟩:=l 5 (by simp[XI.Ls]) (by decide) (by decide);obtain ⟨p,t,u⟩:=l 6 (by simp[XI.Ls]) (by decide) (by decide);have p:∀ q ∈ X.I.q.l,J'[q]?=J[q]?:=p;have t:∀ q ∈ X.I.q.l,q ∉ X.I.i.l++c'.l:=t;have u:∀ q ∈ X.I.q.l,q<J'.length:=u;have xb:=O X.xb (by simp[XI.Ls]);have kb:=P X.kb (by simp[XI.Ls]);have sb:=Q X.I.sb (by simp[XI.Ls]);have D:∀ {a b:Nat} (n:a<7) (hb:b<7),b≠a->Dj (X.Ls[a]'(by simpa [XI.Ls] using n)) (X.Ls[b]'(by simpa [XI.Ls] using hb)):=fun n hb i=>h.fp.ne _ _ i;refine ⟨⟨(by obtain ⟨a,b,c,e⟩:=h.run; exact ⟨a,b,c,by rw[xb,e]⟩), ?_,sb.trans h.sc,T,(by obtain ⟨rq,a,b⟩:=h.q; exact ⟨rq,a.Aw p,b⟩),⟨?_,fun L g q d=>?_⟩⟩,hm.wide (fun q d=>?_) fun q d=>?_⟩
 ·rw[kb,h.col]; unfold D2; rw[hc]
 ·have H:=T.fp.ne (x:=0) (y:=1) (by simp) (by simp) (by decide);have I:=T.fp.ne (x:=0) (y:=2) (by simp) (by simp) (by decide);have t12:=T.fp.ne (x:=1) (y:=2) (by simp) (by simp) (by decide);have K:X.xb ∉ X.I.i.l++c'.l:=S _ (by simp[XI.Ls]);have M:X.kb ∉ X.I.i.l++c'.l:=U _ (by simp[XI.Ls]);have N:X.I.sb ∉ X.I.i.l++c'.l:=V _ (by simp[XI.Ls]);have j:∀ {L:List Nat} {q:Nat},q ∉ L->Dj L [q]:=fun k x v f=>k (by rw[<- Ac1.1 f]; exact v);have p3:Dj X.I.p.l [X.xb]:=D (a:=1) (b:=3) (by decide) (by decide) (by decide);have p4:Dj X.I.p.l [X.kb]:=D (a:=1) (b:=4) (by decide) (by decide) (by decide);have p5:Dj X.I.p.l [X.I.sb]:=D (a:=1) (b:=5) (by decide) (by decide) (by decide);have A:Dj [X.xb] [X.kb]:=D (a:=3) (b:=4) (by decide) (by decide) (by decide);have B:Dj [X.xb] [X.I.sb]:=D (a:=3) (b:=5) (by decide) (by decide) (by decide);have E:Dj [X.kb] [X.I.sb]:=D (a:=4) (b:=5) (by decide) (by decide) (by decide);have p6:Dj X.I.p.l X.I.q.l:=D (a:=1) (b:=6) (by decide) (by decide) (by decide);have i6:Dj X.I.i.l X.I.q.l:=D (a:=0) (b:=6) (by decide) (by decide) (by decide);have C:Dj [X.xb] X.I.q.l:=D (a:=3) (b:=6) (by decide) (by decide) (by decide);have F:Dj [X.kb] X.I.q.l:=D (a:=4) (b:=6) (by decide) (by decide) (by decide);have G:Dj [X.I.sb] X.I.q.l:=D (a:=5) (b:=6) (by decide) (by decide) (by decide);have W:Dj c'.l X.I.q.l:=fun x v f=>t x f (Aag.2 (.inr v));show [X.I.i.l,X.I.p.l,c'.l,[X.xb],[X.kb],[X.I.sb],X.I.q.l].Pairwise Dj;have w:∀ {q},q ∉ X.I.i.l++c'.l->q ∉ X.I.i.l:=fun k f=>k (Aag.2 (.inl f));have z:∀ {q},q ∉ X.I.i.l++c'.l->q ∉ c'.l:=fun k f=>k (Aag.2 (.inr f));simp only[Ad9,Acv,Ad3,Afz,forall_eq_or_imp,forall_eq,List.Pairwise.nil,and_true,false_implies,implies_true];exact ⟨⟨H,I,j (w K),j (w M),j (w N),i6⟩,⟨t12,p3,p4,p5,p6⟩,⟨j (z K),j (z M),j (z N),W⟩,⟨A,B,C⟩,⟨E,F⟩,G⟩
 ·have g:L ∈ [X.I.i.l,X.I.p.l,c'.l,[X.xb],[X.kb],[X.I.sb],X.I.q.l]:=g;simp only[Acv,Ad3,Afz] at g;rcases g with rfl | rfl | rfl | rfl | rfl | rfl | rfl
  ·exact T.h.lt q d
  ·exact T.rt.lt q d
  ·exact T.co.lt q d
  ·exact Y q (by simpa [XI.Ls] using d)
  ·exact Z q (by simpa [XI.Ls] using d)
  ·exact g5 q (by simpa [XI.Ls] using d)
  ·exact u q d
 ·rcases Aag.1 d with d | d
  ·exact Adm.2 ⟨_,by simp[XI.Ls],d⟩
  ·exact Adm.2 ⟨X.c.l,by simp[XI.Ls],d⟩
 ·obtain ⟨L,g,d⟩:=Adm.1 d;have g:L ∈ [X.I.i.l,X.I.p.l,c'.l,[X.xb],[X.kb],[X.I.sb],X.I.q.l]:=g;simp only[Acv,Ad3,Afz] at g;rcases g with rfl | rfl | rfl | rfl | rfl | rfl | rfl
  ·exact .inl (Adm.2 ⟨_,by simp[XI.Ls],d⟩)
  ·exact .inl (Adm.2 ⟨X.I.p.l,by simp[XI.Ls],d⟩)
  ·exact .inr (.inl (Aag.2 (.inr d)))
  ·exact .inl (Adm.2 ⟨[X.xb],by simp[XI.Ls],d⟩)
  ·exact .inl (Adm.2 ⟨[X.kb],by simp[XI.Ls],d⟩)
  ·exact .inl (Adm.2 ⟨[X.I.sb],by simp[XI.Ls],d⟩)
  ·exact .inl (Adm.2 ⟨X.I.q.l,by simp[XI.Ls],d⟩)
def mS (k:Nat) (B:Bg) (J:Aa):Option (Value × Aa):=Lv k B.bl B.mu (B.ob.p,B.ob.n,B.ob.c) (B.de.p,B.de.n,B.de.c) (B.li.p,B.li.n,B.li.c) (B.pl.p,B.pl.n,B.pl.c) (B.pi.p,B.pi.n,B.pi.c) J
end
section
variable {J:Aa} {m:HM} {i:Cp} {j:RI} {t:RM}
theorem RI.rP {j:RI} {q:Nat}:q ∈ j.l↔q=j.hb\/q ∈ hs j.bs\/q ∈ hs j.os\/q ∈ hs j.fs\/q ∈ Ri j.om:=RI.JU
theorem JH.zE (h:JH J j t) (x:Int × Int) (H:t.bl.length<=5000) (T:TypeId):∃ s' Z1_ p,AG P As (j.bs.1,t.bl.length,t.bl.length) (some ⟨J.length,0,none⟩,1,1) (J++[.cells [qIi x.1,qIi x.2] T true])=some (s',Z1_) /\
  CX Z1_ j.hb 0 (.slice s'.1 s'.2.1 s'.2.2)=some p/\JH p { j with bs:=s' } { t with bl:=t.bl++[x] }/\Mv j.l ({ j with bs:=s' }:RI).l J p:=by
 have sep:=h.sep;have lt:=h.lt;obtain ⟨s',Z1_,C,D,k⟩:=NF Acs Ab7 Acx rfl rfl (by decide) (by decide) (by decide) J j.bs t.bl.length (CS t.bl) 1 1 [qIi x.1,qIi x.2] T (by omega) (by decide) rfl h.bl;have G:=D.mv;have F:=h.bl.form;have s:AG P As (j.bs.1,t.bl.length,t.bl.length) (some ⟨J.length,0,none⟩,1,1) (J++[.cells [qIi x.1,qIi x.2] T true])=some (s',Z1_):=by rw[<- F]; exact C
 have f:Mv (hs j.bs) (hs s') J Z1_:=G;have cell:=f.IX h.hp sep.hA;have new:∀ q ∈ hs s',q ∈ hs j.bs\/J.length<=q:=f.new;have A:∀ {L:List Nat},(∀ q ∈ L,q ∈ j.l)->(∀ a ∈ hs j.bs,a ∉ L) -> ∀ q ∈ hs s',q ∉ L:=fun E hd q c hm=>(new q c).elim (fun o=>hd q o hm) fun o=>by have:=lt q (E q hm); omega
 have mem:=fun q=>@RI.rP j q;have n:∀ q ∈ j.l,q ∉ hs j.bs->Z1_[q]?=J[q]?:=fun q c v=>f.same q (lt q c) v;have m:Sep { j with bs:=s' }:=⟨fun hm=>(new _ hm).elim sep.hA fun o=>absurd (lt _ j.LK) (Ag0.2 o),sep.hB,sep.hC,sep.hD,
  A (fun q c=>(mem q).2 (.inr (.inr (.inl c)))) sep.AB,A (fun q c=>(mem q).2 (.inr (.inr (.inr (.inl c))))) sep.AC,A (fun q c=>(mem q).2 (.inr (.inr (.inr (.inr c))))) sep.AD,sep.BC,sep.BD,sep.CD,sep.D⟩;have r:Cq As 2 Z1_ s' (t.bl++[x]).length (CS (t.bl++[x])):=by
  rw[Abe,show CS (t.bl++[x])=CS t.bl++[qIi x.1,qIi x.2] from bu _ _];exact k
 have B:Cq Ab 8 Z1_ j.os t.ob.length (DP t.ob j.om):=h.ob.Aw fun a g=>n _ ((mem _).2 (.inr (.inr (.inl (BQ.2 ⟨a,g,rfl⟩))))) fun hm=>sep.AB _ hm (BQ.2 ⟨a,g,rfl⟩);have u:aw Z1_ j.fs t.fw:=h.fw.Aw fun a g=>n _ ((mem _).2 (.inr (.inr (.inr (.inl (BQ.2 ⟨a,g,rfl⟩)))))) fun hm=>sep.AC _ hm (BQ.2 ⟨a,g,rfl⟩);have l:∀ (y:Nat) (w:y<t.ob.length) (e:y<j.om.length),Dw Z1_ j.om[y].1 t.ob[y].refs/\Dw Z1_ j.om[y].2 t.ob[y].data:=fun y w e=>⟨(h.inn y w e).1.Aw fun b hb=>n _ (j.Js e (.inl hb)) fun hm=>sep.AD _ hm (Js e (.inl hb)),(h.inn y w e).2.Aw fun b hb=>n _ (j.Js e (.inr hb)) fun hm=>sep.AD _ hm (Js e (.inr hb))⟩;have wide:Mv j.l ({ j with bs:=s' }:RI).l J Z1_:=f.wide (fun q c=>(mem q).2 (.inr (.inl c))) fun q c=>by
  rcases RI.rP.1 c with c | c | c | c | c
  ·exact .inl ((mem q).2 (.inl c))
  ·exact .inr (.inl c)
  ·exact .inl ((mem q).2 (.inr (.inr (.inl c))))
  ·exact .inl ((mem q).2 (.inr (.inr (.inr (.inl c)))))
  ·exact .inl ((mem q).2 (.inr (.inr (.inr (.inr c)))))
 have z:∀ q ∈ ({ j with bs:=s' }:RI).l,q<Z1_.length:=fun q c=>by
  rcases RI.rP.1 c with d | d | d | d | d
  ·exact Acz (lt q ((mem q).2 (.inl d))) f.len
  ·obtain ⟨a,g,rfl⟩:=BQ.1 d; exact k.lt a g
  ·exact Acz (lt q ((mem q).2 (.inr (.inr (.inl d))))) f.len
  ·exact Acz (lt q ((mem q).2 (.inr (.inr (.inr (.inl d)))))) f.len
  ·exact Acz (lt q ((mem q).2 (.inr (.inr (.inr (.inr d)))))) f.len
 refine ⟨s',Z1_,_,s,by simp only[CX,cell]; rfl, ?_,wide.trans (Mv.set _ _ (RI.LK { j with bs:=s' }))⟩;exact JH.kH (i:={ j with bs:=s' }) (t:={ t with bl:=t.bl++[x] }) r B u h.ol l m z
theorem QT (om:List (Bv × Bv)) (p:Bv × Bv) (q:Nat):q ∈ Ri (om++[p])↔q ∈ Ri om\/q ∈ hs p.1\/q ∈ hs p.2:=by
 rw[RT,Aag];unfold Ri;simp
theorem JH.zF (h:JH J j t) (o:RO) (p:Bv × Bv) (L:t.ob.length<=5000) (T:TypeId) (h1:Dw J p.1 o.refs) (h2:Dw J p.2 o.data) (hp:∀ q,q ∈ hs p.1\/q ∈ hs p.2->q<J.length/\q ∉ j.l) (hd:∀ q ∈ hs p.1,q ∉ hs p.2):∃ s' Z1_ u,AG P Ab (j.os.1,t.ob.length,t.ob.length) (some ⟨J.length,0,none⟩,1,1) (J++[.cells (Bu o p) T true])=some (s',Z1_) /\
  CX Z1_ j.hb 1 (.slice s'.1 s'.2.1 s'.2.2)=some u/\JH u { j with os:=s',om:=j.om++[p] } { t with ob:=t.ob++[o] }/\J.length<=u.length/\(∀ q,q<J.length->q ∉ j.l->u[q]?=J[q]?) /\ ∀ q,q ∈ ({ j with os:=s',om:=j.om++[p] }:RI).l->q ∈ j.l\/J.length<=q\/q ∈ hs p.1\/q ∈ hs p.2:=by
 have sep:=h.sep;have lt:=h.lt;obtain ⟨s',Z1_,G,H,m⟩:=NF szO byO zzO rfl rfl (by decide) (by decide) (by decide) J j.os t.ob.length (DP t.ob j.om) 1 1 (Bu o p) T (by omega) (by decide) rfl h.ob;have g:Mv (hs j.os) (hs s') J Z1_:=H.mv;have I:=h.ob.form;have x:AG P Ab (j.os.1,t.ob.length,t.ob.length) (some ⟨J.length,0,none⟩,1,1) (J++[.cells (Bu o p) T true])=some (s',Z1_):=by rw[<- I]; exact G
 have cell:=g.IX h.hp sep.hB;have mem:=fun q=>@RI.rP j q;have new:∀ q ∈ hs s',q ∈ hs j.os\/J.length<=q:=g.new;have s:∀ q ∈ j.l,q ∉ hs j.os->Z1_[q]?=J[q]?:=fun q f k=>g.same q (lt q f) k;have F:∀ q,q ∈ hs p.1\/q ∈ hs p.2->q ∉ hs j.os:=fun q f hm=>(hp q f).2 ((mem q).2 (.inr (.inr (.inl hm))));have HL:∀ q,q ∈ hs p.1\/q ∈ hs p.2->Z1_[q]?=J[q]?:=fun q f=>g.same q (hp q f).1 (F q f);have v:∀ q ∈ hs s',q ∈ j.l->q ∈ hs j.os:=fun q f hm=>(new q f).elim id fun l=>absurd (lt q hm) (Ag0.2 l);have K:∀ q ∈ hs s',¬ (q ∈ hs p.1\/q ∈ hs p.2):=fun q f hm=>(new q f).elim (F q hm) fun l=>absurd (hp q hm).1 (Ag0.2 l);have r:Sep { j with os:=s',om:=j.om++[p] }:=by
  refine ⟨sep.hA,fun hm=>sep.hB (v _ hm j.LK),sep.hC,fun hm=>?_,fun a d hm=>sep.AB a d (v a hm ((mem a).2 (.inr (.inl d)))),sep.AC,fun a d hm=>?_,fun a d hm=>sep.BC a (v a d ((mem a).2 (.inr (.inr (.inr (.inl hm)))))) hm,fun a d hm=>?_,fun a d hm=>?_, ?_⟩
  ·rcases (QT _ _ _).1 hm with hm | hm
   ·exact sep.hD hm
   ·exact (hp _ hm).2 j.LK
  ·rcases (QT _ _ _).1 hm with hm | hm
   ·exact sep.AD a d hm
   ·exact (hp _ hm).2 ((mem a).2 (.inr (.inl d)))
  ·rcases (QT _ _ _).1 hm with hm | hm
   ·exact sep.BD a (v a d ((mem a).2 (.inr (.inr (.inr (.inr hm)))))) hm
   ·exact K a d hm
  ·rcases (QT _ _ _).1 hm with hm | hm
   ·exact sep.CD a d hm
   ·exact (hp _ hm).2 ((mem a).2 (.inr (.inr (.inr (.inl d)))))
  ·show (Ri (j.om++[p])).Nodup;rw[RT,Adv];refine ⟨sep.D, ?_,fun a d b hb e=>?_⟩
   ·unfold Ri;simp only[Agg,List.flatMap_nil,Abu];rw[Adv];exact ⟨NB _,NB _,fun a d b hb e=>hd a d (e ▸ hb)⟩
   ·subst e;have hb:a ∈ hs p.1\/a ∈ hs p.2:=by
     unfold Ri at hb;simpa using hb
    exact (hp a hb).2 ((mem a).2 (.inr (.inr (.inr (.inr d)))))
 have w:Cq As 2 Z1_ j.bs t.bl.length (CS t.bl):=h.bl.Aw fun a d=>s _ ((mem _).2 (.inr (.inl (BQ.2 ⟨a,d,rfl⟩)))) fun hm=>sep.AB _ (BQ.2 ⟨a,d,rfl⟩) hm;have C:Cq Ab 8 Z1_ s' (t.ob++[o]).length (DP (t.ob++[o]) (j.om++[p])):=by
  rw[Abe,QS _ _ _ _ h.ol,show DP [o] [p]=Bu o p from by simp[DP]];exact m
 have z:aw Z1_ j.fs t.fw:=h.fw.Aw fun a d=>s _ ((mem _).2 (.inr (.inr (.inr (.inl (BQ.2 ⟨a,d,rfl⟩)))))) fun hm=>sep.BC _ hm (BQ.2 ⟨a,d,rfl⟩);have D:(j.om++[p]).length=(t.ob++[o]).length:=by rw[Abe,Abe,h.ol]; rfl
 have n:∀ (y:Nat) (E:y<(t.ob++[o]).length) (A:y<(j.om++[p]).length),Dw Z1_ (j.om++[p])[y].1 (t.ob++[o])[y].refs/\Dw Z1_ (j.om++[p])[y].2 (t.ob++[o])[y].data:=fun y E A=>by
  by_cases q:y<t.ob.length
  ·have q':y<j.om.length:=by rw[h.ol]; exact q
   rw[Afm q,Afm q'];exact ⟨(h.inn y q q').1.Aw fun b hb=>s _ (j.Js q' (.inl hb)) fun hm=>sep.BD _ hm (Js q' (.inl hb)),(h.inn y q q').2.Aw fun b hb=>s _ (j.Js q' (.inr hb)) fun hm=>sep.BD _ hm (Js q' (.inr hb))⟩
  ·have e:y=t.ob.length:=by rw[Abe,Ac3] at E; omega
   subst e;rw[Aey (Abp _),Aey (by rw[h.ol]; exact Abp _)];simp only[Afb,h.ol,Afu];exact ⟨h1.Aw fun b hb=>HL b (.inl hb),h2.Aw fun b hb=>HL b (.inr hb)⟩
 have B:∀ q ∈ ({ j with os:=s',om:=j.om++[p] }:RI).l,q<Z1_.length:=fun q f=>by
  rcases RI.rP.1 f with c | c | c | c | c
  ·exact Acz (lt q ((mem q).2 (.inl c))) g.len
  ·exact Acz (lt q ((mem q).2 (.inr (.inl c)))) g.len
  ·obtain ⟨a,d,rfl⟩:=BQ.1 c; exact m.lt a d
  ·exact Acz (lt q ((mem q).2 (.inr (.inr (.inr (.inl c)))))) g.len
  ·rcases (QT _ _ _).1 c with c | c
   ·exact Acz (lt q ((mem q).2 (.inr (.inr (.inr (.inr c)))))) g.len
   ·exact Acz (hp q c).1 g.len
 refine ⟨s',Z1_,_,x,by simp only[CX,cell]; rfl,JH.kH (i:={ j with os:=s',om:=j.om++[p] }) (t:={ t with ob:=t.ob++[o] }) w C z D n r B,by rw[Ac8]; exact g.len,fun q f k=>?_,fun q f=>?_⟩
 ·rw[Aaf (fun e:j.hb=q=>k (by rw[<- e]; exact j.LK))];exact g.same q f fun hm=>k ((mem q).2 (.inr (.inr (.inl hm))))
 ·rcases RI.rP.1 f with c | c | c | c | c
  ·exact .inl ((mem q).2 (.inl c))
  ·exact .inl ((mem q).2 (.inr (.inl c)))
  ·exact (new q c).elim (fun l=>.inl ((mem q).2 (.inr (.inr (.inl l))))) fun l=>.inr (.inl l)
  ·exact .inl ((mem q).2 (.inr (.inr (.inr (.inl c)))))
  ·rcases (QT _ _ _).1 c with c | c
   ·exact .inl ((mem q).2 (.inr (.inr (.inr (.inr c)))))
   ·exact .inr (.inr c)
theorem wQ (m:HM) {b:Nat} (hb:b<m.bls.length):(Cb m (b:Int),MJ m (b:Int))=m.bls.getD b (0,0):=by
 unfold Cb MJ;rw[Abm (by omega),Abm (by omega),IT]
theorem aO (k:Nat) (v:m.bls.length<=64) (h3 lo:Nat):∀ (n x f:Nat) (Z:Aa) (j:RI),Al Z i m->JH Z j ⟨m.bls.take x,[],[],m.births⟩->j.hb=h3->(∀ q ∈ j.l,lo<=q)->(∀ q ∈ i.l,q<lo)->lo<=Z.length->x+n=m.bls.length->n<f ->
  ∃ c j',HV (k+3) f (AU i) h3 (x:Int) Z=some (.exit 0,[],c)/\JH c j' ⟨m.bls,[],[],m.births⟩/\j'.hb=h3/\(∀ q ∈ j'.l,lo<=q)/\Z.length<=c.length /\ ∀ q,q<lo->c[q]?=Z[q]?
 | n,x,0,Z,j,h,e,d,g,hi,hm,z,y=>by omega
 | 0,x,f+1,Z,j,h,e,d,g,hi,hm,z,y=>by
   have t:AE (k+3) (AU i) Z=_:=GR (k+1) h;rw[OH];simp only[t,AI,Ah,Aac (show ¬ (x:Int)<((m.bls.length:Nat):Int) by omega),By];rw[Ado (by omega)] at e;exact ⟨Z,j,rfl,e,d,g,Abp _,fun _ _=>rfl⟩
 | n+1,x,f+1,Z,j,h,e,d,g,hi,hm,z,y=>by
   have J:=wSu x (by omega);have t:AE (k+3) (AU i) Z=_:=GR (k+1) h;have E:Bn (k+3) (AU i) (x:Int) Z=_:=ZX k h (x:Int);have D:BE (k+3) (AU i) (x:Int) Z=_:=wF k h (x:Int);have l:(m.bls.take x).length=x:=by rw[Adc]; omega
   have w:m.bls.take (x+1)=m.bls.take x++[(Cb m (x:Int),MJ m (x:Int))]:=by
    rw[wQ m (by omega),Age,Aaj (by omega),Abi,Aaj (by omega)]; rfl
   obtain ⟨s',Z1_,Z2_,o,B,b,p⟩:=e.zE (Cb m (x:Int),MJ m (x:Int)) (by show (m.bls.take x).length<=5000; omega) As;have b:JH Z2_ { j with bs:=s' } ⟨m.bls.take (x+1),[],[],m.births⟩:=by rw[w]; exact b
   have d0:Bd Z h3 0=some (j.bs.1,x,x):=by
    have:=e.HI;rw[<- d];show Bd Z j.hb 0=_;rw[this];show some (j.bs.1,(m.bls.take x).length,(m.bls.take x).length)=_;rw[l]
   have low:∀ q,q<lo->Z2_[q]?=Z[q]?:=fun q a=>p.same q (by omega) fun u=>absurd (g q u) (by omega);obtain ⟨c,j',C,I,A,F,G,H⟩:=aO k v h3 lo n (x+1) f Z2_ { j with bs:=s' } (h.Aw fun q a=>low q (hi q a)) b d (fun q a=>(p.new q a).elim (g q) fun K=>by omega) hi (by have:=p.len; omega) (by omega) (by omega);refine ⟨c,j', ?_,I,A,F,Adj p.len G,fun q a=>(H q a).trans (low q a)⟩;rw[OH];have r:AG P As (j.bs.1,x,x) (some ⟨Z.length,0,none⟩,1,1) (Z++[Au.cells [qIi (Cb m (x:Int)),qIi (MJ m (x:Int))] As true])=some (s',Z1_):=by
    have o:AG P As (j.bs.1,(m.bls.take x).length,(m.bls.take x).length) (some ⟨Z.length,0,none⟩,1,1) (Z++[Au.cells [qIi (Cb m (x:Int)),qIi (MJ m (x:Int))] As true])=some (s',Z1_):=o;rw[l] at o; exact o
   have s:CX Z1_ h3 0 (.slice s'.1 s'.2.1 s'.2.2)=some Z2_:=by rw[<- d]; exact B
   simp only[t,AI,Ah,Aad (show (x:Int)<((m.bls.length:Nat):Int) by omega),IS,IN,d0,E,D,Ae,r,s,J,C]
end
section
variable {J:Aa} {m:HM} {i:Cp} {j:RI} {t:RM}
def GY (J:Aa) (b:Nat) (o:RO) (p:Bv × Bv):Prop:=J[b]?=some (.cells (Bu o p) Ab true)
theorem GY.ld {b:Nat} {o:RO} {p:Bv × Bv} (h:GY J b o p):Aj .i64 J b 0=some o.addr/\Aj .i64 J b 1=some o.id/\Aj .i64 J b 2=some o.r/\Aj .i64 J b 3=some o.d/\Aj .i64 J b 4=some o.k/\Bd J b 5=some (p.1.1,p.1.2.1,p.1.2.2)/\Bd J b 6=some (p.2.1,p.2.2.1,p.2.2.2)/\Vu J b 7=some o.Ww:=by
 unfold GY at h;simp[Aj,Bd,Vu,CV,h,Bu,Bl,Ej,Dk]
def Mo (m:HM) (a x:Int) (data:Bool):Int:=(K6 m a x data).1
theorem aQ (k:Nat) (I:Inv m) (o:RO) {a:Int} (u:o.addr=a) (J:AO a) (W:o.r<=1000) (j:Bv) {b:Nat}:∀ (n x f:Nat) (Z:Aa) (s:Bv),Al Z i m->(∀ q ∈ i.l,q<b)->GY Z b o (s,j)->Bh Z s ((List.range x).map fun (x:Nat)=>Mo m a (x:Int) false)->(∀ q ∈ hs s,b<q)->(x:Int)+n=o.r->n<f ->
  ∃ p s',HX (k+7) f (AU i) b (x:Int) Z=some (.exit 4,[],p)/\GY p b o (s',j)/\Bh p s' ((List.range o.r.toNat).map fun (x:Nat)=>Mo m a (x:Int) false)/\(∀ q ∈ hs s',b<q)/\Mv (b::hs s) (b::hs s') Z p
 | n,x,0,Z,s,h,hb,c,v,r,M,L=>by omega
 | 0,x,f+1,Z,s,h,hb,c,v,r,M,L=>by
   obtain ⟨O,z1,G,z3,z4,z5,z6,z7⟩:=c.ld;rw[OJ];simp only[IN,Abn,Nat.reduceAdd,G,AI,Aac (show ¬ (x:Int)<o.r by omega),By];have e:o.r.toNat=x:=by omega
   rw[e];exact ⟨Z,s,rfl,c,v,r,Mv.refl _ _⟩
 | n+1,x,f+1,Z,s,h,hb,c,v,r,M,L=>by
   obtain ⟨O,z1,G,z3,z4,z5,z6,z7⟩:=c.ld;have Y:=wSu x (by omega);obtain ⟨τ,P⟩:=Vw k h I a (x:Int) J;have z:AL (k+7) (AU i) a (x:Int) Z=some (.tuple #[qIi (Mo m a (x:Int) false),qIi (K6 m a (x:Int) false).2],Z++τ):=P;have A:=Af c;have t:GY (Z++τ) b o (s,j):=by unfold GY; rw[AT A]; exact c
   obtain ⟨y0,y1,y2,y3,y4,y5,y6,y7⟩:=t.ld;have B:=v.app τ;have hlen:((List.range x).map fun (x:Nat)=>Mo m a (x:Int) false).length=x:=by simp
   obtain ⟨s',Z1_,Q,D,F⟩:=B.push (Mo m a (x:Int) false) Ak (by rw[hlen]; omega);have nb:b ∉ hs s:=fun hm=>Aew _ (r b hm);have l:GY Z1_ b o (s,j):=F.IX t nb;have H:∀ q ∈ hs s',b<q:=fun q d=>(F.new q d).elim (r q) fun U=>by rw[Abe] at U; omega
   have es:CX Z1_ b 5 (.slice s'.1 s'.2.1 s'.2.2)=some (Z1_.set b (.cells (Bu o (s',j)) Ab true)):=by
    unfold GY at l;simp[CX,l,Bu]
   obtain ⟨Z2_,g⟩:∃ Z2_,Z1_.set b (.cells (Bu o (s',j)) Ab true)=Z2_:=⟨_,rfl⟩;rw[g] at es;have w:GY Z2_ b o (s',j):=by unfold GY; rw[<- g,Abq (Af l)]
   have N:Mv (b::hs s) (b::hs s') Z Z2_:=by
    rw[<- g];refine (((Mv.app (hs s) Z τ).trans F).wide (K:=b::hs s) (K':=b::hs s') (fun q d=>Abx _ d) fun q d=>?_).trans (Mv.set _ _ Ac0);rcases Acv.1 d with rfl | d
    ·exact .inl Ac0
    ·exact .inr (.inl d)
   have V:Al Z2_ i m:=h.Aw fun q d=>N.same q (h.lt q d) fun hm=>by
    have:=hb q d;rcases Acv.1 hm with hm | hm
    ·omega
    ·have:=r q hm; omega
   have C:Bh Z2_ s' ((List.range (x+1)).map fun (x:Nat)=>Mo m a (x:Int) false):=by
    rw[Aga,Aex];exact D.Aw fun q d=>by rw[<- g]; exact Aaf (by have:=H q d; omega)
   obtain ⟨p,s2,S,y,E,T,X⟩:=aQ k I o u J W j n (x+1) f Z2_ s' V hb w C H (by omega) (by omega);refine ⟨p,s2, ?_,y,E,T,N.trans X⟩;rw[OJ];simp only[IN,Abn,Nat.reduceAdd,G,O,u,AI,Aad (show (x:Int)<o.r by omega),IS,z,B9,y5,Ae,Q,es,Y,S]
theorem aR (k:Nat) (I:Inv m) (o:RO) {a:Int} (u:o.addr=a) (J:AO a) (W:o.d<=1000) (j:Bv) {b:Nat}:∀ (n x f:Nat) (Z:Aa) (s:Bv),Al Z i m->(∀ q ∈ i.l,q<b)->GY Z b o (j,s)->Bh Z s ((List.range x).map fun (x:Nat)=>Mo m a (x:Int) true)->(∀ q ∈ hs s,b<q)->(x:Int)+n=o.d->n<f ->
  ∃ p s',HY (k+7) f (AU i) b (x:Int) Z=some (.exit 6,[],p)/\GY p b o (j,s')/\Bh p s' ((List.range o.d.toNat).map fun (x:Nat)=>Mo m a (x:Int) true)/\(∀ q ∈ hs s',b<q)/\Mv (b::hs s) (b::hs s') Z p
 | n,x,0,Z,s,h,hb,c,v,r,M,L=>by omega
 | 0,x,f+1,Z,s,h,hb,c,v,r,M,L=>by
   obtain ⟨O,z1,z2,G,z4,z5,z6,z7⟩:=c.ld;rw[OK];simp only[IN,Abn,Nat.reduceAdd,G,AI,Aac (show ¬ (x:Int)<o.d by omega),By];have e:o.d.toNat=x:=by omega
   rw[e];exact ⟨Z,s,rfl,c,v,r,Mv.refl _ _⟩
 | n+1,x,f+1,Z,s,h,hb,c,v,r,M,L=>by
   obtain ⟨O,z1,z2,G,z4,z5,z6,z7⟩:=c.ld;have Y:=wSu x (by omega);obtain ⟨τ,P⟩:=yD k h I a (x:Int) J;have z:Hv (k+7) (AU i) a (x:Int) Z=some (.tuple #[qIi (Mo m a (x:Int) true),qIi (K6 m a (x:Int) true).2],Z++τ):=P;have A:=Af c;have t:GY (Z++τ) b o (j,s):=by unfold GY; rw[AT A]; exact c
   obtain ⟨y0,y1,y2,y3,y4,y5,y6,y7⟩:=t.ld;have B:=v.app τ;have hlen:((List.range x).map fun (x:Nat)=>Mo m a (x:Int) true).length=x:=by simp
   obtain ⟨s',Z1_,Q,D,F⟩:=B.push (Mo m a (x:Int) true) Ak (by rw[hlen]; omega);have nb:b ∉ hs s:=fun hm=>Aew _ (r b hm);have l:GY Z1_ b o (j,s):=F.IX t nb;have H:∀ q ∈ hs s',b<q:=fun q d=>(F.new q d).elim (r q) fun U=>by rw[Abe] at U; omega
   have es:CX Z1_ b 6 (.slice s'.1 s'.2.1 s'.2.2)=some (Z1_.set b (.cells (Bu o (j,s')) Ab true)):=by
    unfold GY at l;simp[CX,l,Bu]
   obtain ⟨Z2_,g⟩:∃ Z2_,Z1_.set b (.cells (Bu o (j,s')) Ab true)=Z2_:=⟨_,rfl⟩;rw[g] at es;have w:GY Z2_ b o (j,s'):=by unfold GY; rw[<- g,Abq (Af l)]
   have N:Mv (b::hs s) (b::hs s') Z Z2_:=by
    rw[<- g];refine (((Mv.app (hs s) Z τ).trans F).wide (K:=b::hs s) (K':=b::hs s') (fun q d=>Abx _ d) fun q d=>?_).trans (Mv.set _ _ Ac0);rcases Acv.1 d with rfl | d
    ·exact .inl Ac0
    ·exact .inr (.inl d)
   have V:Al Z2_ i m:=h.Aw fun q d=>N.same q (h.lt q d) fun hm=>by
    have:=hb q d;rcases Acv.1 hm with hm | hm
    ·omega
    ·have:=r q hm; omega
   have C:Bh Z2_ s' ((List.range (x+1)).map fun (x:Nat)=>Mo m a (x:Int) true):=by
    rw[Aga,Aex];exact D.Aw fun q d=>by rw[<- g]; exact Aaf (by have:=H q d; omega)
   obtain ⟨p,s2,S,y,E,T,X⟩:=aR k I o u J W j n (x+1) f Z2_ s' V hb w C H (by omega) (by omega);refine ⟨p,s2, ?_,y,E,T,N.trans X⟩;rw[OK];simp only[IN,Abn,Nat.reduceAdd,G,O,u,AI,Aad (show (x:Int)<o.d by omega),IS,z,B9,y6,Ae,Q,es,Y,S]
theorem vj (a:Inv m) {y:Nat} (hs:Start m y):(List.range (Av m y).toNat).map (fun (x:Nat)=>Mo m ((2*y:Nat):Int) (x:Int) false)=KD m (2*y+2) (Av m y).toNat:=by
 obtain ⟨_,c,_⟩:=MX a hs;apply Ady;intro q;rw[Ad5];by_cases b:q<(Av m y).toNat
 ·rw[Afe b,Uw m _ _ q b];show some (Mo _ _ _ _)=_;unfold Mo K6;rw[RE a hs (show (q:Int)<Av m y by omega),Abm rfl,IT]
 ·rw[Adh (by simp; omega),Adh (by rw[DC]; omega)]; rfl
theorem dq (a:Inv m) {y:Nat} (hs:Start m y):(List.range (Bp m y).toNat).map (fun (x:Nat)=>Mo m ((2*y:Nat):Int) (x:Int) true)=KD m (2*y+2+(Av m y).toNat) (Bp m y).toNat:=by
 obtain ⟨_,c,d,e,_⟩:=MX a hs;apply Ady;intro q;rw[Ad5];by_cases b:q<(Bp m y).toNat
 ·rw[Afe b,Uw m _ _ q b];show some (Mo _ _ _ _)=_;unfold Mo K6;rw[Zi a hs (show (q:Int)<Bp m y by omega),Abm rfl,IT]
 ·rw[Adh (by simp; omega),Adh (by rw[DC]; omega)]; rfl
theorem zM {b o:Nat} {cs vs:List Value} {T:TypeId} (h:J[b]?=some (.cells cs T true)) (a:o+vs.length<=cs.length):H0 J b o vs=some (J.set b (.cells (Ba cs o vs) T true)):=by
 simp only[H0,h];rw[Abm a]
theorem aP (k:Nat) (hk:1000<k) (I:MK m) (h3 lo:Nat) {sl:Bv}:∀ (n x f:Nat) (Z:Aa) (j:RI),Al Z i m->JH Z j ⟨m.bls,(Gp m).take x,[],m.births⟩->j.hb=h3->(∀ q ∈ j.l,lo<=q)->(∀ q ∈ i.l,q<lo)->lo<=Z.length->Bh Z sl (Ei m)->(∀ q ∈ hs sl,q ∉ j.l/\lo<=q)->x+n=(Ei m).length->n<f ->
  ∃ O j',HW (k+9) f (AU i) h3 sl.1 (Ei m).length (Ei m).length (x:Int) Z=some (.exit 2,[],O)/\JH O j' ⟨m.bls,Gp m,[],m.births⟩/\j'.hb=h3/\(∀ q ∈ j'.l,lo<=q)/\Z.length<=O.length /\ ∀ q,q<lo->O[q]?=Z[q]?
 | n,x,0,Z,j,h,C,S,X,hi,hm,p,hd,hx,hf=>by omega
 | 0,x,f+1,Z,j,h,C,S,X,hi,hm,p,hd,hx,hf=>by
   have hlen:(Gp m).length=(Ei m).length:=by unfold Gp Ei C7; rw[Aee,Aee]
   rw[OI];simp only[Aac (show ¬ (x:Int)<(((Ei m).length:Nat):Int) by omega),By];rw[Ado (by omega)] at C;exact ⟨Z,j,rfl,C,S,X,Abp _,fun _ _=>rfl⟩
 | n+1,x,f+1,Z,j,h,C,S,X,hi,hm,p,hd,hx,hf=>by
   have aq:=I.nt;have ao:(Ei m).length=(F8 m).length:=by unfold Ei C7; rw[Aee]
   have az:=Qx aq;have M:x<(F8 m).length:=by omega
   obtain ⟨b,e,l1,_⟩:=p.ld (x:=x) (by omega);obtain ⟨y,hy⟩:∃ y,(F8 m)[x]=y:=⟨_,rfl⟩;have r:Start m y:=DO.1 (hy ▸ Ac4 M);have a0:=r.1;have hg:(Ei m).getD x 0=((2*y:Nat):Int):=by
    unfold Ei; rw[O8 _ M,hy]
   rw[hg] at l1;have W:AO ((2*y:Nat):Int):=by unfold AO; omega
   have Q:=EE r;have au:(Gp m).take (x+1)=(Gp m).take x++[AQ m y]:=by
    have:(Gp m)[x]?=some (AQ m y):=by
     unfold Gp; rw[Ad5,Aaj M,hy]; rfl
    rw[Age,this]; rfl
   have ab:((Gp m).take x).length=x:=by
    rw[Adc]; unfold Gp; rw[Aee]; omega
   have qx:=qSu x ((Ei m).length) (by omega);have w1:=wSu x (by omega);have ar:=F4 r;obtain ⟨_,r1,r2,r3,r4,_⟩:=MX I.inv r;have eP:Gr (k+9) (AU i) ((2*y:Nat):Int) Z=_:=qI (k+4) h _ W;have Y:iG m ((2*y:Nat):Int)=(AQ m y).Ww:=by
    unfold iG; rw[Q,show ((2*y:Nat):Int).toNat/2=y from by omega,Afw]; rfl
   have lt:∀ q,q<lo->q<Z.length:=fun q l=>by omega
   let A:Au:=.cells [qIi ((2*y:Nat):Int),qIi 0,qIi 0,qIi 0,qIi 0,.slice none 0 0,.slice none 0 0,.bool (iG m ((2*y:Nat):Int))] Ab true
   have c0:(Z++[A])[Z.length]?=some A:=by simp
   have h0:=h.app [A];have eI:Di (k+9) (AU i) ((2*y:Nat):Int) (Z++[A])=some (.tuple #[qIi (m.wds.getD (2*y) 0),qIi 0],Z++[A]):=by
    have:=jr (k+3) h0 ((2*y:Nat):Int) W;rw[Abm Q,IT] at this;exact this
   have av:Aj .i64 (Z++[A]) Z.length 0=some ((2*y:Nat):Int):=by rw[Bt]; rfl
   let B:Au:=.cells [qIi ((2*y:Nat):Int),qIi (m.wds.getD (2*y) 0),qIi 0,qIi 0,qIi 0,.slice none 0 0,.slice none 0 0,.bool (iG m ((2*y:Nat):Int))] Ab true
   have s1:CX (Z++[A]) Z.length 1 (qIi (m.wds.getD (2*y) 0))=some (Z++[B]):=by
    rw[dA _ _ _ _ _ (by simp)]; rfl
   have h1:=h.app [B];have ax:Aj .i64 (Z++[B]) Z.length 0=some ((2*y:Nat):Int):=by rw[Bt]; rfl
   obtain ⟨τ1,eS⟩:=P6 (k+3) h1 ((2*y:Nat):Int) W;have V:AK (k+9) (AU i) ((2*y:Nat):Int) (Z++[B])=_:=eS;rw[ar] at V
   let O2:Au:=.cells (Bu (AQ m y) ((none,0,0),(none,0,0))) Ab true
   obtain ⟨Z2_,w⟩:∃ Z2_,(Z++[B]++τ1).set Z.length O2=Z2_:=⟨_,rfl⟩;have l2:Z2_.length=Z.length+1+τ1.length:=by rw[<- w,Ac8,Abe,Abe,Ac3]
   have c1:(Z++[B]++τ1)[Z.length]?=some B:=by rw[AT (by simp)]; simp
   have s2:H0 (Z++[B]++τ1) Z.length 2 [qIi (Av m y),qIi (Bp m y),qIi (CA m y)]=some Z2_:=by
    rw[zM c1 (by simp),<- w];congr 2;show Au.cells _ _ _=Au.cells _ _ _;congr 1;rw[Y];rfl
   have E:∀ q,q<Z.length->Z2_[q]?=Z[q]?:=fun q l=>by
    rw[<- w,Aaf (by omega),Aae,AT l]
   have h2:Al Z2_ i m:=h.Aw fun q l=>E q (lt q (hi q l));have af:GY Z2_ Z.length (AQ m y) ((none,0,0),(none,0,0)):=by
    unfold GY;rw[<- w]; exact Abq (by rw[Abe,Abe,Ac3]; omega)
   have J:∀ q ∈ i.l,q<Z.length:=fun q l=>lt q (hi q l);obtain ⟨Z3_,s,e3,ag,N,g3,m3⟩:=aQ (k+2) I.inv (AQ m y) rfl W (by show Av m y<=1000; omega) (none,0,0) (Av m y).toNat 0 (k+9) Z2_ (none,0,0) h2 J af (Bh.nil _) (fun q l=>by simp[hs] at l) (by show ((0:Nat):Int)+_=Av m y; omega) (by omega);have an:Al Z3_ i m:=h2.Aw fun q l=>m3.same q (by have:=hi q l; omega) fun o=>by
    rcases Acv.1 o with rfl | o
    ·exact Aew _ (J _ l)
    ·simp[hs] at o
   have L:∀ q ∈ hs s,Z.length<q:=g3;obtain ⟨Z4_,v,e4,ah,ad,g4,m4⟩:=aR (k+2) I.inv (AQ m y) rfl W (by show Bp m y<=1000; omega) s (Bp m y).toNat 0 (k+9) Z3_ (none,0,0) an J ag (Bh.nil _) (fun q l=>by simp[hs] at l) (by show ((0:Nat):Int)+_=Bp m y; omega) (by omega);rw[show ((0:Nat):Int)=0 from rfl] at e3 e4;have ay:∀ q,q<Z2_.length->q≠Z.length->Z3_[q]?=Z2_[q]?:=fun q l K=>m3.same q l fun o=>by
    rcases Acv.1 o with rfl | o
    ·exact K rfl
    ·simp[hs] at o
   have ae:∀ q,q<Z3_.length->q≠Z.length->Z4_[q]?=Z3_[q]?:=fun q l K=>m4.same q l fun o=>by
    rcases Acv.1 o with rfl | o
    ·exact K rfl
    ·simp[hs] at o
   have l3:=m3.len;have l4:=m4.len;have F:∀ q,q<Z.length->Z4_[q]?=Z[q]?:=fun q l=>by rw[ae q (by omega) (by omega),ay q (by omega) (by omega),E q l]
   have aa:JH Z4_ j ⟨m.bls,(Gp m).take x,[],m.births⟩:=C.Aw (fun q l=>F q (C.lt q l)) (by omega);have t:Bh Z4_ s ((List.range (Av m y).toNat).map fun (x:Nat)=>Mo m ((2*y:Nat):Int) (x:Int) false):=N.Aw fun q l=>ae q (N.lt q l) (by have:=L q l; omega);rw[vj I.inv r] at t;have D:=ad;rw[show (AQ m y).addr=((2*y:Nat):Int) from rfl,show (AQ m y).d=Bp m y from rfl,dq I.inv r] at D;have n4:∀ q ∈ hs v,Z3_.length<=q:=fun q l=>by
    rcases m4.new q (Abx _ l) with o | o
    ·rcases Acv.1 o with rfl | o
     ·exact absurd (g4 _ l) (Aew _)
     ·simp[hs] at o
    ·exact o
   obtain ⟨z,Z5_,Z6_,e5,e6,r6,l6,q6,n6⟩:=aa.zF (AQ m y) (s,v) (by show ((Gp m).take x).length<=5000; omega) Ab t.g D.g (fun q l=>by
    rcases l with l | l
    ·refine ⟨t.lt q l,fun o=>?_⟩;have:=C.lt q o; have:=L q l; omega
    ·refine ⟨ad.lt q l,fun o=>?_⟩;have:=C.lt q o; have:=n4 q l; omega) (fun q l o=>by have:=N.lt q l; have:=n4 q o; omega);have r6:JH Z6_ { j with os:=z,om:=j.om++[(s,v)] } ⟨m.bls,(Gp m).take (x+1),[],m.births⟩:=by rw[au]; exact r6
   have G:∀ q,q<Z.length->q ∉ j.l->Z6_[q]?=Z[q]?:=fun q l ap=>(q6 q (by omega) ap).trans (F q l);have u:∀ q,q<lo->Z6_[q]?=Z[q]?:=fun q l=>G q (by omega) fun o=>by have:=X q o; omega
   have H:∀ q,q ∈ ({ j with os:=z,om:=j.om++[(s,v)] }:RI).l->q ∈ j.l\/Z.length<q:=fun q l=>by
    rcases n6 q l with l | l | l | l
    ·exact .inl l
    ·exact .inr (by omega)
    ·exact .inr (L q l)
    ·exact .inr (by have:=n4 q l; omega)
   obtain ⟨O,j',e7,r7,b7,l7,n7,q7⟩:=aP k hk I h3 lo (sl:=sl) n (x+1) f Z6_ { j with os:=z,om:=j.om++[(s,v)] } (h.Aw fun q l=>u q (hi q l)) r6 S (fun q l=>(H q l).elim (X q) fun h'=>by omega) hi (by omega) (p.Aw fun q l=>G q (p.lt q l) (hd q l).1) (fun q l=>⟨fun o=>(H q o).elim (hd q l).1 fun h'=>by have:=p.lt q l; omega,(hd q l).2⟩) (by omega) (by omega);refine ⟨O,j', ?_,r7,b7,l7,by omega,fun q l=>(q7 q l).trans (u q l)⟩;rw[e] at e7;obtain ⟨z0,z1,z2,z3,z4,z5,z6,z7⟩:=ah.ld;have ai:Bd Z4_ h3 1=some (j.os.1,x,x):=by
    have:=aa.EX;rw[<- S];show Bd Z4_ j.hb 1=_;rw[this];show some (j.os.1,((Gp m).take x).length,((Gp m).take x).length)=_;rw[ab]
   have aj:AG P Ab (j.os.1,x,x) (some ⟨Z4_.length,0,none⟩,1,1) (Z4_++[Au.cells (Bu (AQ m y) (s,v)) Ab true])=some (z,Z5_):=by
    have e5:AG P Ab (j.os.1,((Gp m).take x).length,((Gp m).take x).length) (some ⟨Z4_.length,0,none⟩,1,1) (Z4_++[Au.cells (Bu (AQ m y) (s,v)) Ab true])=some (z,Z5_):=e5;rw[ab] at e5; exact e5
   have ak:CX Z5_ h3 1 (.slice z.1 z.2.1 z.2.2)=some Z6_:=by rw[<- S]; exact e6
   have T:∀ (a b c d e f g Q:Value),H0 (Z++[Au.cells [qIi 0,qIi 0,qIi 0,qIi 0,qIi 0,.slice none 0 0,.slice none 0 0,.bool false] Ab true]) Z.length 0 [a,b,c,d,e,f,g,Q]=some (Z++[Au.cells [a,b,c,d,e,f,g,Q] Ab true]):=fun a b c d e f g Q=>ja rfl;rw[OI];simp only[Aad (show (x:Int)<(((Ei m).length:Nat):Int) by omega),IS,qx,Aah,e,AI,IT,Acu,IN,Abn,Nat.reduceAdd,l1,eP,An,Ae,T];have am:Di (k+9) (AU i) ((2*y:Nat):Int) (Z++[Au.cells [qIi ((2*y:Nat):Int),qIi 0,qIi 0,qIi 0,qIi 0,.slice none 0 0,.slice none 0 0,.bool (iG m ((2*y:Nat):Int))] Ab true])=_:=eI;have ac:Aj .i64 (Z++[Au.cells [qIi ((2*y:Nat):Int),qIi 0,qIi 0,qIi 0,qIi 0,.slice none 0 0,.slice none 0 0,.bool (iG m ((2*y:Nat):Int))] Ab true]) Z.length 0=_:=av;have a1:CX (Z++[Au.cells [qIi ((2*y:Nat):Int),qIi 0,qIi 0,qIi 0,qIi 0,.slice none 0 0,.slice none 0 0,.bool (iG m ((2*y:Nat):Int))] Ab true]) Z.length 1 (qIi (m.wds.getD (2*y) 0))=_:=s1;rw[ac,AI,am,AI];show (He (.tuple #[qIi (m.wds.getD (2*y) 0),qIi 0]) _:Option Bq)=_;rw[B9];show ((CX (Z++[A]) Z.length 1 (qIi (m.wds.getD (2*y) 0))).bind _:Option Bq)=_;rw[s1,AI,ax,AI,V];simp only[AI,jd,Ada,Adn,IN,Nat.reduceAdd,Aah,Aeo,Aeu,H5,Ah,s2,e3,e4,ai,z0,z1,z2,z3,z4,z5,z6,z7];have U:AG P Ab (j.os.1,x,x) (some ⟨Z4_.length,0,none⟩,1,1) (Z4_++[Au.cells [qIi (AQ m y).addr,qIi (AQ m y).id,qIi (AQ m y).r,qIi (AQ m y).d,qIi (AQ m y).k,.slice s.1 s.2.1 s.2.2,.slice v.1 v.2.1 v.2.2,.bool (AQ m y).Ww] Ab true])=some (z,Z5_):=aj;simp only[U,AI,ak,w1,e7]
theorem gZ (k:Nat) (P:10000<=k) (h:Al J i m) (t:MK m):∃ τ j,En (k+10) (AU i) J=some (qVi (Bk j),J++τ)/\JH (J++τ) j ⟨m.bls,Gp m,[],m.births⟩ /\ ∀ q ∈ j.l,J.length<=q:=by
 have d:=t.nt;have D:=Qx d;have lt:=h.lt;obtain ⟨B,s⟩:∃ B,Au.cells [.slice none 0 0,.slice none 0 0,.slice none 0 0,qIi m.births] Db true=B:=⟨_,rfl⟩;have o:JH (J++[B]) ⟨J.length,(none,0,0),(none,0,0),(none,0,0),[]⟩ ⟨[],[],[],m.births⟩:=by
  refine ⟨by rw[<- s]; simp,Cq.nil _ _ _,Cq.nil _ _ _,.inl (Cq.nil _ _ _),rfl,fun x E=>by simp at E,by simp[RI.l,hs],fun q b=>?_⟩;simp[RI.l,hs] at b;rw[b]; simp
 have h0:=h.app [B];have A:Dr (k+9) (AU i) J=_:=eR (k+7) h;obtain ⟨Z1_,F,p,v,w,K,H,M⟩:=aO (k+6) d J.length J.length m.bls.length 0 (k+9) (J++[B]) ⟨J.length,(none,0,0),(none,0,0),(none,0,0),[]⟩ h0 o rfl (fun q b=>by simp[RI.l,hs] at b; omega) lt (by simp) (by omega) (by omega);rw[show ((0:Nat):Int)=0 from rfl] at p;rw[Abe,Ac3] at H;have c:∀ q,q<J.length->Z1_[q]?=J[q]?:=fun q b=>(M q b).trans (AT b);have h1:Al Z1_ i m:=h.Aw fun q b=>c q (lt q b);obtain ⟨e,sl,z,li⟩:=gV (k+3) (by omega) h1;have g:Ca (k+9) (AU i) Z1_=_:=z;have l:=li.ge;have li:Bh (Z1_++e) sl (Ei m):=Bh.ints li;obtain ⟨Z3_,G,r,O,y,L,I,N⟩:=aP k (by omega) t J.length J.length (sl:=sl) (Ei m).length 0 (k+9) (Z1_++e) F (h1.app e) (by rw[Agk]; exact v.app e) w K lt (by rw[Abe]; omega) li (fun q b=>by
  obtain ⟨a,C,rfl⟩:=BQ.1 b;have:=(l a C).1;exact ⟨fun n=>by have:=v.lt _ n; omega,by omega⟩) (by omega) (by omega);rw[show ((0:Nat):Int)=0 from rfl] at r;obtain ⟨τ,u⟩:∃ τ,Z3_=J++τ:=by
  refine GA (by rw[Abe] at I; omega) fun q b=>?_;rw[N q b,AT (by omega),c q b]
 refine ⟨τ,G, ?_,by rw[<- u]; exact O,L⟩;have f:=li.form;have f1:sl.2.1=(Ei m).length:=by rw[f]
 have f2:sl.2.2=(Ei m).length:=by rw[f]
 rw[ZE];simp only[A,AI,Ah,Ae,s,p,Aah,g,Ej,f1,f2,r,u];unfold Bk;rw[y]
end
section
variable {J:Aa} {t:RM} {j j':RI}
theorem ay (k:Nat) {s1 s2:Bv} {l:List Int} (h1:Dw J s1 l) (h2:Dw J s2 l) (i:l.length<=1000000) (a b:Nat):∀ (n x f:Nat),x+n=l.length->n<f ->
  HU k f s1.1 l.length a s2.1 l.length b (x:Int) J=some (.exit 0,[],J)
 | n,x,0,g,e=>by omega
 | 0,x,f+1,g,e=>by
   rw[OG];simp only[Aac (show ¬ (x:Int)<((l.length:Nat):Int) by omega),By]
 | n+1,x,f+1,g,e=>by
   obtain ⟨q,c,j,_⟩:=h1.pE (x:=x) (by omega);obtain ⟨r,d,m,_⟩:=h2.pE (x:=x) (by omega);have o:=qSu x l.length (by omega);have p:=wSu x (by omega);have h:=ay k h1 h2 i a b n (x+1) f (by omega) (by omega);rw[c,d] at h;rw[OG];simp only[Aad (show (x:Int)<((l.length:Nat):Int) by omega),IS,o,Aah,c,d,AI,IT,Acu,IN,j,m,Abt,By,p,h]
theorem oM (k:Nat) {s1 s2:Bv} {l:List Int} (h1:Dw J s1 l) (h2:Dw J s2 l) (b:l.length<=1000000) (a:l.length<k):Il (k+1) (s1.1,s1.2.1,s1.2.2) (s2.1,s2.2.1,s2.2.2) J=some (.bool true,J):=by
 have e:=ay k h1 h2 b s1.2.2 s2.2.2 l.length 0 k (by omega) a;rw[show ((0:Nat):Int)=0 from rfl] at e;rw[ZD];simp only[h1.1,h2.1,Abt,By,e,AI,Aah]
theorem Aa4 (a b c d e f:Int):Ll P Ad (.agg #[qIi a,qIi b,qIi c]) (.agg #[qIi d,qIi e,qIi f])=(bif a == d then (bif b == e then some (c == f) else some false) else some false):=by kernel_rfl
end
end
end Go.Proofs.YtjbledomkmdkmaaGreat
