/- The program's roots: all places that are not empty, what a place is, the queue.; The program's roots read into the document's.; The document's roots:  -/
import Derived.Test.YtjbledomkmdkmaaGreatP33
set_option linter.unusedVariables false
set_option linter.unusedSimpArgs false
set_option linter.unusedSectionVars false
namespace Go.Proofs.YtjbledomkmdkmaaGreat
open Go Go.AX
noncomputable section
local instance yF:AA:=Ap
section
variable {J:Aa} {p:PI} {r:DX}
def Sa:List (Int × Nat × Nat)->List Value
 | []=>[]
 | x::l=>.int .i64 x.1 :: .int .i64 (x.2.1:Int) :: .int .i64 (x.2.2:Int)::Sa l
def DI (kk:Int) (x:Nat):Int × Nat × Nat:=(kk,if kk=0 then x/16 else 0,if kk=0 then x % 16 else x)
def OE (kk:Int):List Int->Nat->List (Int × Nat × Nat)
 | [],_=>[]
 | v::l,x=>(if v=0 then [] else [DI kk x])++OE kk l (x+1)
def F9 (r:DX):List (Int × Nat × Nat):=OE 0 r.sl 0++OE 1 r.gl 0++OE 2 r.qu 0
theorem bg:∀ l l',Sa (l++l')=Sa l++Sa l'
 | [],_=>rfl
 | x::l,l'=>by simp only[Sa,Ab6,bg l l']
theorem Pq (kk:Int):∀ (l:List Int) (x:Nat),(OE kk l x).length<=l.length
 | [],_=>yj _
 | v::l,x=>by
   have:=Pq kk l (x+1);simp only[OE,yi,ze];split <;> simp <;> omega
theorem Sd (h:r.ok):(F9 r).length<=144:=by
 have h1:=Pq 0 r.sl 0;have h2:=Pq 1 r.gl 0;have h3:=Pq 2 r.qu 0;have h4:=h.sl; have h5:=h.gl; have h6:=h.qu; have h7:=h.m4;unfold F9;rw[yi,yi];omega
abbrev BP (J:Aa) (s:Bp) (l:List (Int × Nat × Nat)):Prop:=Cq Am 3 J s l.length (Sa l)
theorem xF:GY P Am=some 3:=by kernel_rfl
theorem xx:bytesOf P Am=some 24:=by kernel_rfl
theorem xI:Fq P Am=some (.agg #[.int .i64 0,.int .i64 0,.int .i64 0]):=by kernel_rfl
theorem BP.lt {s:Bp} {l:List (Int × Nat × Nat)} (h:BP J s l):∀ b ∈ hs s,b<J.length:=by
 intro b hb;rcases h with ⟨_,_,rfl⟩ | ⟨x,rfl,_,_,hc⟩
 ·simp[hs] at hb
 ·simp[hs] at hb; subst hb; exact Af hc
theorem BP.Aw {J':Aa} {s:Bp} {l:List (Int × Nat × Nat)} (h:BP J s l) (hq:∀ b ∈ hs s,J'[b]?=J[b]?):BP J' s l:=by
 rcases h with h | ⟨x,rfl,h1,h2,hc⟩
 ·exact .inl h
 ·exact .inr ⟨x,rfl,h1,h2,by rw[hq x (by simp[hs])]; exact hc⟩
theorem BP.app {s:Bp} {l:List (Int × Nat × Nat)} (h:BP J s l) (τ:Aa):BP (J++τ) s l:=BP.Aw h fun b hb=>AT (BP.lt h b hb)
theorem BP.nil (J:Aa):BP J (none,0,0) []:=.inl ⟨rfl,rfl,rfl⟩
theorem bh:∀ (l:List (Int × Nat × Nat)) (x:Nat) (hx:x<l.length),(Sa l)[x*3]?=some (.int .i64 l[x].1)/\(Sa l)[x*3+1]?=some (.int .i64 (l[x].2.1:Int))/\(Sa l)[x*3+2]?=some (.int .i64 (l[x].2.2:Int))
 | y::l,0,hx=>⟨rfl,rfl,rfl⟩
 | y::l,x+1,hx=>by
   have:=bh l x (by simpa using hx);rw[show (x+1)*3=x*3+3 from by omega];simpa [Sa] using this
theorem BP.ld {s:Bp} {l:List (Int × Nat × Nat)} (h:BP J s l) {x:Nat} (hx:x<l.length):∃ b,s.1=some ⟨b,0,none⟩/\Ak .i64 J b (x*3)=some l[x].1/\Ak .i64 J b (x*3+1)=some (l[x].2.1:Int)/\Ak .i64 J b (x*3+2)=some (l[x].2.2:Int)/\b<J.length:=by
 rcases h with ⟨h0,_⟩ | ⟨b,rfl,_,_,hc⟩
 ·omega
 ·obtain ⟨a1,a2,a3⟩:=bh l x hx;exact ⟨b,rfl,by simp[Ak,D5,hc,a1,Bn],by simp[Ak,D5,hc,a2,Bn],by simp[Ak,D5,hc,a3,Bn],Af hc⟩
theorem BP.push {s:Bp} {l:List (Int × Nat × Nat)} (h:BP J s l) (x:Int × Nat × Nat) (T:TypeId) (hl:l.length<=900000):
  ∃ s' J',AF P Am (s.1,s.2.1,s.2.2) (some ⟨J.length,0,none⟩,1,1) (J++[.cells [.int .i64 x.1,.int .i64 (x.2.1:Int),.int .i64 (x.2.2:Int)] T true])=some (s',J')/\BP J' s' (l++[x])/\Mv (hs s) (hs s') J J':=by
 obtain ⟨s',J',e,g,h'⟩:=Ms xF xx xI rfl rfl (by decide) (by decide) (by decide) J s l.length (Sa l) 1 1 [.int .i64 x.1,.int .i64 (x.2.1:Int),.int .i64 (x.2.2:Int)] T (by omega) (by decide) rfl h;refine ⟨s',J',e, ?_,g.mv⟩;unfold BP;rw[yi,bg];exact h'
structure XZ (Z:Aa) (h3 h6 top:Nat) (out:List (Int × Nat × Nat)):Prop where
 box:∃ s:Bp,Z[h3]?=some (.cells [.slice s.1 s.2.1 s.2.2] IB true)/\BP Z s out /\ ∀ b ∈ hs s,top<b
 rc:Z[h6]?=some (.loop 96 .ready (GU 0 17 [(3,.pointer (some ⟨h3,0,none⟩))]))
 h3t:h3<=top
 h6t:h6<=top
 ne:h3≠h6
 tl:top<Z.length
theorem XZ.behind {Z Z':Aa} {h3 h6 top:Nat} {out:List (Int × Nat × Nat)} (h:XZ Z h3 h6 top out) (hl:Z.length<=Z'.length) (hq:∀ q,q<Z.length->Z'[q]?=Z[q]?):XZ Z' h3 h6 top out:=by
 obtain ⟨s,e,l,n⟩:=h.box;have h3t:=h.h3t; have h6t:=h.h6t; have tl:=h.tl;exact ⟨⟨s,by rw[hq _ (by omega)]; exact e,BP.Aw l fun b hb=>hq b (BP.lt l b hb),n⟩,by rw[hq _ (by omega)]; exact h.rc,h3t,h6t,h.ne,by omega⟩
theorem XZ.app {Z:Aa} {h3 h6 top:Nat} {out:List (Int × Nat × Nat)} (h:XZ Z h3 h6 top out) (τ:Aa):XZ (Z++τ) h3 h6 top out:=h.behind (by simp) fun q hq=>AT hq
theorem dE (k:Nat) {Z:Aa} {h3 h6 top:Nat} {out:List (Int × Nat × Nat)} (h:XZ Z h3 h6 top out) (ho:out.length<=1000) (z:Int × Nat × Nat) (z1:Option Addr):
  ∃ Z',G0 k h6 h3 z.1 (z.2.1:Int) (z.2.2:Int) z1 Z=some (.bool true,Z')/\XZ Z' h3 h6 top (out++[z])/\Q6 h3 top Z Z':=by
 obtain ⟨s,e,l,n⟩:=h.box;have h3t:=h.h3t; have h6t:=h.h6t; have tl:=h.tl;have hn3:∀ q ∈ hs s,q≠h3/\q≠h6:=fun q hq=>by have:=n q hq; omega
 obtain ⟨A,hA⟩:∃ A,Au.cells [.int .i64 z.1,.int .i64 (z.2.1:Int),.int .i64 (z.2.2:Int)] Am true=A:=⟨_,rfl⟩;obtain ⟨bz,hbz⟩:∃ bz,Au.loop 96 .busy (GU 0 17 [(3,.pointer (some ⟨h3,0,none⟩))])=bz:=⟨_,rfl⟩;have hr0:(Z++[A])[h6]?=some (.loop 96 .ready (GU 0 17 [(3,.pointer (some ⟨h3,0,none⟩))])):=by rw[AT (by omega)]; exact h.rc
 obtain ⟨Z1_,hμ1⟩:∃ Z1_,(Z++[A]).set h6 bz=Z1_:=⟨_,rfl⟩;have l1:Z1_.length=Z.length+1:=by rw[<- hμ1]; simp
 have q1:∀ q,q≠h6->Z1_[q]?=(Z++[A])[q]?:=fun q hq=>by rw[<- hμ1,yc (yW hq)]
 have q1':∀ q,q≠h6->q<Z.length->Z1_[q]?=Z[q]?:=fun q hq hl=>by rw[q1 q hq,AT hl]
 have c1:Z1_[h6]?=some (.loop 96 .busy (GU 0 17 [(3,.pointer (some ⟨h3,0,none⟩))])):=by rw[<- hμ1,yo (by simp; omega),hbz]
 have e1:Z1_[h3]?=some (.cells [.slice s.1 s.2.1 s.2.2] IB true):=by rw[q1' _ h.ne (by omega)]; exact e
 have li1:BP Z1_ s out:=BP.Aw l fun q hq=>q1' q (hn3 q hq).2 (BP.lt l q hq);have ldb:AR Z1_ h3 0=some (s.1,s.2.1,s.2.2):=by simp[AR,D5,e1,ED]
 have a1:Z1_[Z.length]?=some A:=by rw[q1 _ (by omega),yK]
 have x0:Ak .i64 Z1_ Z.length 0=some z.1:=by simp[Ak,D5,a1,<- hA,Bn]
 have x1:Ak .i64 Z1_ Z.length 1=some (z.2.1:Int):=by simp[Ak,D5,a1,<- hA,Bn]
 have x2:Ak .i64 Z1_ Z.length 2=some (z.2.2:Int):=by simp[Ak,D5,a1,<- hA,Bn]
 unfold G0;simp only[Ae,EV,AI];rw[hA,NG hr0,hbz,hμ1];obtain ⟨s',Z2_,e2,li2,m2⟩:=BP.push li1 z Am (by omega);have hs':∀ q ∈ hs s',top<q:=fun q hq=>(m2.new q hq).elim (n q) fun hh=>by omega
 have b2:Z2_[h3]?=some (.cells [.slice s.1 s.2.1 s.2.2] IB true):=m2.L5 e1 fun hm=>(hn3 _ hm).1 rfl;have c2:Z2_[h6]?=some (.loop 96 .busy (GU 0 17 [(3,.pointer (some ⟨h3,0,none⟩))])):=m2.L5 c1 fun hm=>(hn3 _ hm).2 rfl;have len2:=m2.len;have st:CT Z2_ h3 0 (.slice s'.1 s'.2.1 s'.2.2)=some (Z2_.set h3 (.cells [.slice s'.1 s'.2.1 s'.2.2] IB true)):=by simp[CT,b2]
 have c3:(Z2_.set h3 (.cells [.slice s'.1 s'.2.1 s'.2.2] IB true))[h6]?=some (.loop 96 .busy (GU 0 17 [(3,.pointer (some ⟨h3,0,none⟩))])):=by rw[yc h.ne]; exact c2
 simp only[ldb,IN,Nat.reduceAdd,x0,x1,x2,AI,e2,st];rw[NG c3];have ne36:=h.ne;refine ⟨_,rfl, ?_, ?_⟩
 ·refine ⟨⟨s', ?_,BP.Aw li2 fun q hq=>?_,hs'⟩,yo (by simp; omega),h3t,h6t,h.ne,by simp; omega⟩
  ·rw[yc h.ne.symm,yo (by omega)]
  ·have:=hs' q hq;rw[yc (by omega),yc (by omega)]
 ·refine ⟨by simp; omega,fun q hq hn=>?_⟩;by_cases q6:q=h6
  ·subst q6; rw[yo (by simp; omega),h.rc]
  ·rw[yc (yW q6),yc (yW hn),m2.same q (by omega) (fun hm=>by have:=n q hm; omega),q1' q q6 (by omega)]
theorem Sb (k:Nat) {h3 h6 top:Nat} {i1:Int} (hi1:i1=0\/i1=1\/i1=2) (sl:Bp) (l:List Int) (hl:l.length<=200):∀ (n x f:Nat) (Z:Aa) (out:List (Int × Nat × Nat)),XZ Z h3 h6 top out->Ba Z sl l->(∀ b ∈ hs sl,b<=top/\b≠h3/\b≠h6)->x+n=l.length->out.length+n<=1000->n<f ->
  ∃ Z',CP (k+3) f (.func (.yield h6) #[] #[]) i1 sl.1 l.length l.length ((l.length:Nat):Int) (x:Int) Z=some (.exit 2,[],Z')/\XZ Z' h3 h6 top (out++OE i1 (l.drop x) x)/\Q6 h3 top Z Z'
 | n,x,0,Z,out,h,hli,hb,hx,ho,hf=>by omega
 | 0,x,f+1,Z,out,h,hli,hb,hx,ho,hf=>by
   rw[Fg];simp only[xY (show ¬ (x:Int)<((l.length:Nat):Int) by omega),By];rw[yS (by omega)];exact ⟨Z,rfl,by simpa [OE] using h,Q6.refl _ _ _⟩
 | n+1,x,f+1,Z,out,h,hli,hb,hx,ho,hf=>by
   obtain ⟨b,e,l1,_⟩:=hli.ld (x:=x) (by omega);have tl:=h.tl;have hbt:=hb b (Mb e);have qx:(0<=(x:Int)/\(x:Int)<((l.length:Nat):Int))=True:=zl (by omega);have w1:Ar ((x:Int)+1)=((x+1:Nat):Int):=Ah (by unfold AK; omega);rw[JD (l:=l) (x:=x) (by omega),OE];rw[Fg];simp only[xZ (show (x:Int)<((l.length:Nat):Int) by omega),IT,Ae,EV,AI];have hbox:((bif i1 == (0:Int) then (if (16:Int)=0 then none else if (16:Int)=0 then none else (CT (Z++[Au.cells [.int .i64 i1,.int .i64 0,.int .i64 (x:Int)] Am true]) Z.length (0+1) (.int .i64 (Ar ((x:Int).tdiv (16:Int))))).bind fun s19=>(CT s19 Z.length (0+2) (.int .i64 ((x:Int).tmod (16:Int)))).bind fun s20=>some (.normal,[],s20)) else (some (.normal,[],Z++[Au.cells [.int .i64 i1,.int .i64 0,.int .i64 (x:Int)] Am true])):Option Bl))=some (.normal,[],Z++[Au.cells [.int .i64 (DI i1 x).1,.int .i64 ((DI i1 x).2.1:Int),.int .i64 ((DI i1 x).2.2:Int)] Am true]):=by
    unfold DI;by_cases h0:i1=0
    ·subst h0;have t1:(x:Int).tdiv 16=((x/16:Nat):Int):=Xd x 16;have t2:(x:Int).tmod 16=((x % 16:Nat):Int):=Oq x 16;have t3:Ar ((x/16:Nat):Int)=((x/16:Nat):Int):=Ah (by unfold AK; omega);simp only[show ((0:Int) == 0)=true from rfl,IT,show ((16:Int)=0)=False from by simp,yq,ye,t1,t2,t3];simp only[CT,yK,ze,zo,IN,show 1<0+1+1+1 from by omega,ye,AI,zW,zX];rw[zS _ _ (yj _)];simp
    ·simp only[show (i1 == (0:Int))=false from yM.2 h0,By,ym h0];rfl
   rw[hbox];obtain ⟨B,hB⟩:∃ B,Au.cells [.int .i64 (DI i1 x).1,.int .i64 ((DI i1 x).2.1:Int),.int .i64 ((DI i1 x).2.2:Int)] Am true=B:=⟨_,rfl⟩;have h1:=h.app [B];have hli1:=hli.app [B];have l1':Ak .i64 (Z++[B]) b x=some (l.getD x 0):=by rw[Jm _ _ _ (by omega)]; exact l1
   have f1:Q6 h3 top Z (Z++[B]):=Q6.app tl _;rw[hB];simp only[AI,ye,qx,e,xQ,yH,IN,l1',w1];by_cases hz:l.getD x 0=0
   ·obtain ⟨Z',e2,h2,f2⟩:=Sb k hi1 sl l hl n (x+1) f _ out h1 hli1 hb (by omega) (by omega) (by omega);rw[e] at e2;rw[yk hz,Aac];refine ⟨Z', ?_,h2,f1.trans f2⟩;rw[show (l.getD x 0 != 0)=false from by rw[hz]; rfl];simp only[By,AI];exact e2
   ·have y0:Ak .i64 (Z++[B]) Z.length 0=some (DI i1 x).1:=by rw[<- hB,Bh]; rfl
    have y1:Ak .i64 (Z++[B]) Z.length 1=some ((DI i1 x).2.1:Int):=by rw[<- hB,Bh]; rfl
    have y2:Ak .i64 (Z++[B]) Z.length 2=some ((DI i1 x).2.2:Int):=by rw[<- hB,Bh]; rfl
    obtain ⟨Z2_,e2,h2,f2⟩:=dE (k+2) h1 (by omega) (DI i1 x) (some ⟨b,x,none⟩);have hli2:Ba Z2_ sl l:=hli1.Aw fun q hq=>f2.same q (hb q hq).1 (hb q hq).2.1;obtain ⟨Z',e3,h3',f3⟩:=Sb k hi1 sl l hl n (x+1) f _ _ h2 hli2 hb (by omega) (by simp; omega) (by omega);rw[e] at e3;rw[ym hz];refine ⟨Z', ?_,by rw[<- ya]; exact h3',(f1.trans f2).trans f3⟩;rw[show (l.getD x 0 != 0)=true from zr.2 hz];simp only[IT,Nat.reduceAdd,y0,y1,y2,AI];rw[KV _ _ _ _ _ _ _ _ h1.rc,e2];simp only[AI,Ao,yp,By];exact e3
theorem lh (k:Nat) (hk:1000<k) (h:Gv J p r):∃ τ s,EO (k+6) (FD p) J=some (.slice s.1 s.2.1 s.2.2,J++τ)/\BP (J++τ) s (F9 r) /\ ∀ b ∈ hs s,J.length<=b:=by
 have hok:=h.ok;have hs16:=hok.sl;have hm4:=hok.m4;have hg:=hok.gl;have hq:=hok.qu;have hpl:=h.lt;rw[OX];have em:AV (k+5) (FD p) J=_:=LP (k+4) h;simp only[em,AI,Ao,yp,By,Ae];rw[Mp];simp only[Ae,AI,fc,IT];rw[ID];rw[KJ];simp only[Ae];obtain ⟨O1,hO1⟩:∃ O,Au.cells [.slice none 0 0] IB true=O:=⟨_,rfl⟩;obtain ⟨O2,hO2⟩:∃ O,Au.cells [.pointer (FD p)] Fk true=O:=⟨_,rfl⟩;obtain ⟨O3,hO3⟩:∃ O,Au.loop 96 .ready (GU 0 17 [(3,.pointer (some ⟨J.length,0,none⟩))])=O:=⟨_,rfl⟩;rw[hO1,hO2,hO3];obtain ⟨Z,hμ⟩:∃ Z,J++[O1]++[O2]++[O3]=Z:=⟨_,rfl⟩;have lm:Z.length=J.length+3:=by rw[<- hμ]; simp
 have hμ':Z=J++[O1,O2,O3]:=by rw[<- hμ]; simp
 have lb:(J++[O1]++[O2]).length=J.length+2:=by simp
 have la:(J++[O1]).length=J.length+1:=by simp
 rw[hμ,lb,la];have hμp:Gv Z p r:=by rw[hμ']; exact h.app _
 have ldp:BR Z (J.length+1) 0=some (FD p):=by
  rw[hμ'];simp only[BR,D5];rw[yD (by omega),show J.length+1-J.length=1 from by omega];simp only[yB,yy,<- hO2];rfl
 simp only[AI,ldp,IN,yl,hμp.E6,hμp.SE,hμp.ZJ];obtain ⟨O4,hO4⟩:∃ O,Au.cells [.slice p.s1.1 p.s1.2.1 p.s1.2.2,.slice p.s2.1 p.s2.2.1 p.s2.2.2,.slice p.s3.1 p.s3.2.1 p.s3.2.2] Gt true=O:=⟨_,rfl⟩;rw[hO4];have hm1:Gv (Z++[O4]) p r:=hμp.app _;have S0:XZ (Z++[O4]) J.length (J.length+2) (J.length+3) []:=by
  refine ⟨⟨(none,0,0), ?_,BP.nil _,fun b hb=>by simp[hs] at hb⟩, ?_,by omega,by omega,by omega,by simp[lm]⟩
  ·rw[hμ',ya,yD (yj _),Aaf,<- hO1]; rfl
  ·rw[hμ',ya,yD (by omega),show J.length+2-J.length=2 from by omega,<- hO3]; rfl
 have c4:(Z++[O4])[J.length+3]?=some O4:=by rw[<- lm]; simp
 have bnd:∀ b ∈ p.l,b<=J.length+3/\b≠J.length/\b≠J.length+2:=fun b hb=>by have:=hpl b hb; omega
 have f1:=hm1.sl.form;have f2:=hm1.gl.form;have f3:=hm1.qu.form;have n1:=Pq 0 r.sl 0;have n2:=Pq 1 r.gl 0;obtain ⟨Z1_,e1,S1,F1⟩:=Sb (k+1) (h3:=J.length) (h6:=J.length+2) (top:=J.length+3) (i1:=0) (by simp) p.s1 r.sl (by omega) r.sl.length 0 (k+4) _ [] S0 hm1.sl (fun b hb=>bnd b (p.m1 hb)) (by omega) (by simp; omega) (by omega);rw[Aac,yV] at S1;have k1:∀ q ∈ p.l,Z1_[q]?=(Z++[O4])[q]?:=fun q hq=>F1.same q (bnd q hq).1 (bnd q hq).2.1;have p1:=hm1.Aw k1;have d1:Z1_[J.length+3]?=some O4:=(F1.same _ (yj _) (by omega)).trans c4;obtain ⟨Z2_,e2,S2,F2⟩:=Sb (k+1) (h3:=J.length) (h6:=J.length+2) (top:=J.length+3) (i1:=1) (by simp) p.s2 r.gl (by omega) r.gl.length 0 (k+4) _ _ S1 p1.gl (fun b hb=>bnd b (p.m2 hb)) (by omega) (by omega) (by omega);rw[yV] at S2;have k2:∀ q ∈ p.l,Z2_[q]?=Z1_[q]?:=fun q hq=>F2.same q (bnd q hq).1 (bnd q hq).2.1;have p2:=p1.Aw k2;have d2:Z2_[J.length+3]?=some O4:=(F2.same _ (yj _) (by omega)).trans d1;obtain ⟨Z3_,e3,S3,F3⟩:=Sb (k+1) (h3:=J.length) (h6:=J.length+2) (top:=J.length+3) (i1:=2) (by simp) p.s3 r.qu (by omega) r.qu.length 0 (k+4) _ _ S2 p2.qu (fun b hb=>bnd b (p.m3 hb)) (by omega) (by simp; omega) (by omega);rw[yV] at S3;have ZV:∀ (ν:Aa),ν[J.length+3]?=some O4->AR ν (J.length+3) 0=some (p.s1.1,p.s1.2.1,p.s1.2.2)/\AR ν (J.length+3) 1=some (p.s2.1,p.s2.2.1,p.s2.2.2)/\AR ν (J.length+3) 2=some (p.s3.1,p.s3.2.1,p.s3.2.2):=by
  intro ν hν;simp[AR,D5,hν,<- hO4,ED]
 have w1:Ar ((0:Int)+1)=1:=by decide
 have w2:Ar ((1:Int)+1)=2:=by decide
 have w3:Ar ((2:Int)+1)=3:=by decide
 have s11:p.s1.2.1=r.sl.length:=by rw[f1]
 have s12:p.s1.2.2=r.sl.length:=by rw[f1]
 have s21:p.s2.2.1=r.gl.length:=by rw[f2]
 have s22:p.s2.2.2=r.gl.length:=by rw[f2]
 have s31:p.s3.2.1=r.qu.length:=by rw[f3]
 have s32:p.s3.2.2=r.qu.length:=by rw[f3]
 rw[show ((0:Nat):Int)=0 from rfl] at e1 e2 e3;have eL:CO (k+4) (k+4) (.func (.yield (J.length+2)) #[] #[]) (J.length+3) ((3:Nat):Int) 0 (Z++[O4])=some (.exit 0,[],Z3_):=by
  obtain ⟨a1,_,_⟩:=ZV _ c4;obtain ⟨_,a2,_⟩:=ZV _ d1;obtain ⟨_,_,a3⟩:=ZV _ d2;rw[B8];simp only[show decide ((0:Int)<((3:Nat):Int))=true from rfl,IT,show ((0:Int)<=0/\(0:Int)<((3:Nat):Int))=True from by simp,ye,Aau,zw,IN,a1,AI,s11,s12,e1,w1];rw[B8];simp only[show decide ((1:Int)<((3:Nat):Int))=true from rfl,IT,show ((0:Int)<=1/\(1:Int)<((3:Nat):Int))=True from by simp,ye,show (1:Int).toNat=1 from rfl,yH,IN,a2,AI,s21,s22,e2,w2];rw[B8];simp only[show decide ((2:Int)<((3:Nat):Int))=true from rfl,IT,show ((0:Int)<=2/\(2:Int)<((3:Nat):Int))=True from by simp,ye,show (2:Int).toNat=2 from rfl,yH,IN,a3,AI,s31,s32,e3,w3];rw[B8];simp only[show decide ((3:Int)<((3:Nat):Int))=false from rfl,By]
 obtain ⟨s,hbox,hli,hnew⟩:=S3.box;have hrc:=S3.rc;have len3:Z.length+1<=Z3_.length:=by
  have g1:=F1.len;have g2:=F2.len;have g3:=F3.len;simp at g1;omega
 obtain ⟨τ,hτ⟩:∃ τ,Z3_.set (J.length+2) .dead=J++τ:=by
  refine FV (by simp; omega) fun q hq=>?_;rw[yc (by omega),F3.same q (by omega) (by omega),F2.same q (by omega) (by omega),F1.same q (by omega) (by omega),hμ',ya,AT hq]
 refine ⟨τ,s, ?_, ?_,fun b hb=>by have:=hnew b hb; omega⟩
 ·rw[lm];simp only[eL,ye,AI];unfold N1;rw[hrc];have:AR (Z3_.set (J.length+2) .dead) J.length 0=some (s.1,s.2.1,s.2.2):=by
   simp only[AR,D5];rw[yc (by omega),hbox];rfl
  rw[hτ] at this;simp only[ye,hτ,this,AI]
 ·rw[<- hτ];exact BP.Aw hli fun q hq=>yc (by have:=hnew q hq; omega)
def Eo (r:DX) (z:Int × Nat × Nat):Int:=if z.1=0 then r.sl.getD (16*z.2.1+z.2.2) 0 else if z.1=1 then r.gl.getD z.2.2 0 else r.qu.getD z.2.2 0
theorem Gv.wT (h:Gv J p r) {z:Int × Nat × Nat} (hp:OP r z.1 z.2.1 z.2.2):∃ b o,(z.1=0->p.s1.1=some ⟨b,0,none⟩/\o=16*z.2.1+z.2.2)/\(z.1=1->p.s2.1=some ⟨b,0,none⟩/\o=z.2.2)/\(z.1=2->p.s3.1=some ⟨b,0,none⟩/\o=z.2.2)/\Ak .i64 J b o=some (Eo r z)/\b<J.length:=by
 have hsl:=h.ok.sl;have hgl:=h.ok.gl;unfold Eo;rcases hp with ⟨e,hm,hi⟩ | ⟨e,_,hi⟩ | ⟨e,_,hi⟩
 ·obtain ⟨b,e1,e2,e3⟩:=h.sl.ld (x:=16*z.2.1+z.2.2) (by omega);rw[yk e];exact ⟨b,_,fun _=>⟨e1,rfl⟩,fun h=>by omega,fun h=>by omega,e2,Af e3⟩
 ·obtain ⟨b,e1,e2,e3⟩:=h.gl.ld (x:=z.2.2) (by omega);rw[ym (by omega),yk e];exact ⟨b,_,fun h=>by omega,fun _=>⟨e1,rfl⟩,fun h=>by omega,e2,Af e3⟩
 ·obtain ⟨b,e1,e2,e3⟩:=h.qu.ld (x:=z.2.2) (by omega);rw[ym (by omega),ym (by omega)];exact ⟨b,_,fun h=>by omega,fun h=>by omega,fun _=>⟨e1,rfl⟩,e2,Af e3⟩
theorem tO (k:Nat) (h:Gv J p r) {z:Int × Nat × Nat} (hp:OP r z.1 z.2.1 z.2.2):∃ τ,Hv (k+4) (FD p) z.1 (z.2.1:Int) (z.2.2:Int) J=some (.tuple #[.int .i64 (Eo r z),.int .i64 0],J++τ):=by
 obtain ⟨B,hB⟩:∃ B,Au.cells [.int .i64 z.1,.int .i64 (z.2.1:Int),.int .i64 (z.2.2:Int)] Am true=B:=⟨_,rfl⟩;obtain ⟨b,o,h0,h1,h2,hld,hlt⟩:=h.wT hp;have hA:Gv (J++[B]++[B]) p r:=(h.app [B]).app [B];have ea:=tq k hA hp h0 h1 h2;rw[hB] at ea;have em:=LP (k+1) hA;have bl:∀ Z:Aa,Ak .i64 (Z++[B]) Z.length 0=some z.1/\Ak .i64 (Z++[B]) Z.length 1=some (z.2.1:Int)/\Ak .i64 (Z++[B]) Z.length 2=some (z.2.2:Int):=fun Z=>by
  rw[<- hB];exact ⟨by rw[Bh]; rfl,by rw[Bh]; rfl,by rw[Bh]; rfl⟩
 obtain ⟨x0,x1,x2⟩:=bl J;obtain ⟨y0,y1,y2⟩:=bl (J++[B]);have hh:J++[B]++[B]++[B]=J++[B,B,B]:=by simp
 have ep:Ds (k+3) (FD p) z.1 (z.2.1:Int) (z.2.2:Int) (J++[B])=some (.tuple #[.pointer (some ⟨b,o,none⟩),.int .i64 0],J++[B,B,B]):=by
  rw[Ln];simp only[Ae,hB,IN,Nat.reduceAdd,em,AI,Ao,yp,By,y0,y1,y2,ea,HD,vC,hh]
 have hl3:Ak .i64 (J++[B,B,B]) b o=some (Eo r z):=by rw[Jm _ _ _ hlt]; exact hld
 refine ⟨[B,B,B], ?_⟩;rw[R7];simp only[Ae,hB,IN,Nat.reduceAdd,x0,x1,x2,AI,ep,Ku,yr,By,hl3]
theorem oy (k:Nat) (h:Gv J p r):∃ s τ,Fy (k+2) (FD p) J=some (.slice s.1 s.2.1 s.2.2,J++τ)/\Ba (J++τ) s r.qu /\ ∀ b ∈ hs s,J.length<=b:=by
 have hq:=h.ok.qu;have hf:=h.qu.form;have f1:p.s3.2.1=r.qu.length:=by rw[hf]
 obtain ⟨s,τ,e,g1,g2⟩:=UO k p.s3.1 p.s3.2.2 r.qu (by omega) h.qu.holds;refine ⟨s,τ, ?_,g1,g2⟩;rw[PY];simp only[LP k h,AI,Ao,yp,By,IN,h.ZJ,f1,e,ED]
end
section
variable {J:Aa} {p:PI} {r rq:DX} {q:QI}
def Q4:List Int->Nat->List Int->List Int
 | [],_,acc=>acc
 | v::l,x,acc=>Q4 l (x+1) (if v=0 then acc else acc.set x v)
theorem U6 {s:List Int}:∀ (l:List Int) (x:Nat) (acc:List Int),l=s.drop x->x<=s.length->acc=s.take x++List.replicate (s.length-x) 0->Q4 l x acc=s
 | [],x,acc,hl,hx,ha=>by
   have:s.length<=x:=by
    have:=zC List.length hl;rw[zz] at this; simp at this; omega
   rw[Q4,ha,zp this,show s.length-x=0 from by omega]; simp
 | v::l,x,acc,hl,hx,ha=>by
   have hlt:x<s.length:=by
    have:=zC List.length hl;rw[zz] at this; simp at this; omega
   rw[JD hlt] at hl;obtain ⟨hv,hl'⟩:=Aal hl;rw[Q4];refine U6 l (x+1) _ hl' hlt ?_;have e1:s.length-x=(s.length-(x+1))+1:=by omega
   have e2:s.take (x+1)=s.take x++[v]:=by
    rw[Abx,hv,yd,yg hlt]; rfl
   have hlx:(s.take x).length=x:=by rw[zx]; omega
   rw[e2,ha,e1,zU];split
   ·rename_i h0; rw[h0]; simp
   ·rw[zS _ _ (by omega),hlx,Aaf]; simp
theorem Z4 {s:List Int}:∀ (l:List Int) (x:Nat),l=s.drop x->Q4 l x s=s
 | [],x,_=>rfl
 | v::l,x,hl=>by
   have hlt:x<s.length:=by
    have:=zC List.length hl;rw[zz] at this; simp at this; omega
   rw[JD hlt] at hl;obtain ⟨hv,hl'⟩:=Aal hl;rw[Q4];have:(if v=0 then s else s.set x v)=s:=by
    split
    ·rfl
    ·rw[hv,yd,yg hlt];show s.set x s[x]=s;exact List.set_getElem_self hlt
   rw[this];exact Z4 l (x+1) hl'
def MR (r:DX) (ps:List (Int × Nat × Nat)) (rq:DX):DX:=ps.foldl (fun q z=>Jn q z.1 z.2.1 z.2.2 (Eo r z)) rq
theorem Py (r:DX) (a b:List (Int × Nat × Nat)) (rq:DX):MR r (a++b) rq=MR r b (MR r a rq):=by unfold MR; rw[Aa6]
theorem qB (r:DX):∀ (l:List Int) (x:Nat) (rq:DX),l=r.sl.drop x->MR r (OE 0 l x) rq={ rq with sl:=Q4 l x rq.sl }
 | [],_,_,_=>rfl
 | v::l,x,rq,hl=>by
   have hlt:x<r.sl.length:=by
    have:=zC List.length hl;rw[zz] at this; simp at this; omega
   rw[JD hlt] at hl;obtain ⟨hv,hl'⟩:=Aal hl;have e16:16*(x/16)+x % 16=x:=Ab9 x 16;rw[OE,Py,Q4];by_cases h0:v=0
   ·rw[yk h0,yk h0];exact qB r l (x+1) rq hl'
   ·rw[ym h0,ym h0];have:MR r [DI 0 x] rq={ rq with sl:=rq.sl.set x v }:=by
     unfold MR Jn Eo DI;simp only[zF,Ac7,ye,e16,<- hv]
    rw[this];exact qB r l (x+1) _ hl'
theorem qG (r:DX):∀ (l:List Int) (x:Nat) (rq:DX),l=r.gl.drop x->MR r (OE 1 l x) rq={ rq with gl:=Q4 l x rq.gl }
 | [],_,_,_=>rfl
 | v::l,x,rq,hl=>by
   have hlt:x<r.gl.length:=by
    have:=zC List.length hl;rw[zz] at this; simp at this; omega
   rw[JD hlt] at hl;obtain ⟨hv,hl'⟩:=Aal hl;rw[OE,Py,Q4];by_cases h0:v=0
   ·rw[yk h0,yk h0];exact qG r l (x+1) rq hl'
   ·rw[ym h0,ym h0];have:MR r [DI 1 x] rq={ rq with gl:=rq.gl.set x v }:=by
     unfold MR Jn Eo DI;simp only[zF,Ac7,show ((1:Int)=0)=False from by simp,yq,ye,<- hv]
    rw[this];exact qG r l (x+1) _ hl'
theorem qH (r:DX):∀ (l:List Int) (x:Nat) (rq:DX),l=r.qu.drop x->MR r (OE 2 l x) rq={ rq with qu:=Q4 l x rq.qu }
 | [],_,_,_=>rfl
 | v::l,x,rq,hl=>by
   have hlt:x<r.qu.length:=by
    have:=zC List.length hl;rw[zz] at this; simp at this; omega
   rw[JD hlt] at hl;obtain ⟨hv,hl'⟩:=Aal hl;rw[OE,Py,Q4];by_cases h0:v=0
   ·rw[yk h0,yk h0];exact qH r l (x+1) rq hl'
   ·rw[ym h0,ym h0];have:MR r [DI 2 x] rq={ rq with qu:=rq.qu.set x v }:=by
     unfold MR Jn Eo DI;simp only[zF,Ac7,show ((2:Int)=0)=False from by simp,show ((2:Int)=1)=False from by simp,yq,<- hv]
    rw[this];exact qH r l (x+1) _ hl'
theorem nA (h:r.ok):MR r (F9 r) ⟨r.mu,List.replicate (16*r.mu) 0,List.replicate 16 0,r.qu⟩=r:=by
 unfold F9;rw[Py,Py,qB r r.sl 0 _ rfl,qG r r.gl 0 _ rfl,qH r r.qu 0 _ rfl];simp only;rw[U6 r.sl 0 _ rfl (zh _) (by rw[h.sl]; simp),U6 r.gl 0 _ rfl (zh _) (by rw[h.gl]; simp),Z4 r.qu 0 rfl]
theorem Vd {kk:Int} {z:Int × Nat × Nat}:∀ {l:List Int} {x:Nat},z ∈ OE kk l x -> ∃ y,y<l.length/\z=DI kk (x+y)/\l.getD y 0≠0
 | [],x,h=>by cases h
 | v::l,x,h=>by
   rw[OE,yf] at h;rcases h with h | h
   ·split at h
    ·cases h
    ·rename_i h0;rw[yP] at h;exact ⟨0,by simp,h,by simpa using h0⟩
   ·obtain ⟨y,h1,h2,h3⟩:=Vd h;exact ⟨y+1,by simp; omega,by rw[h2]; congr 1; omega,by simpa using h3⟩
theorem Pg {l:List Int} {x:Nat} (h:x<l.length):l.getD x 0 ∈ l:=by rw[yd,yg h]; exact yU h
theorem Uy (h:r.ok) {z:Int × Nat × Nat} (hz:z ∈ F9 r):OP r z.1 z.2.1 z.2.2/\AK (Eo r z)/\0<Eo r z:=by
 have key:∀ v ∈ r.all,v≠0->AK v/\0<v:=fun v hv h0=>by
  obtain ⟨h1,h2⟩:=h.inn v hv;exact ⟨h1,by omega⟩
 have hsl:=h.sl;have hgl:=h.gl;unfold F9 at hz;rw[yf,yf] at hz;rcases hz with (hz | hz) | hz
 ·obtain ⟨y,h1,rfl,h3⟩:=Vd hz;rw[IN];have e16:16*(y/16)+y % 16=y:=Ab9 y 16;refine ⟨.inl ⟨rfl,by simp only[DI,ye]; omega,by simp only[DI,ye]; omega⟩, ?_⟩;have:Eo r (DI 0 y)=r.sl.getD y 0:=by unfold Eo DI; simp only[ye,e16]
  rw[this];exact key _ (by unfold DX.all; rw[yf,yf]; exact .inl (.inl (Pg h1))) h3
 ·obtain ⟨y,h1,rfl,h3⟩:=Vd hz;rw[IN];refine ⟨.inr (.inl ⟨rfl,rfl,by simp[DI]; omega⟩), ?_⟩;have:Eo r (DI 1 y)=r.gl.getD y 0:=rfl;rw[this];exact key _ (by unfold DX.all; rw[yf,yf]; exact .inl (.inr (Pg h1))) h3
 ·obtain ⟨y,h1,rfl,h3⟩:=Vd hz;rw[IN];refine ⟨.inr (.inr ⟨rfl,rfl,by simp[DI]; omega⟩), ?_⟩;have:Eo r (DI 2 y)=r.qu.getD y 0:=rfl;rw[this];exact key _ (by unfold DX.all; rw[yf,yf]; exact .inr (Pg h1)) h3
theorem pU (rq:DX) (k:Int) (mt ix:Nat) (a:Int):(Jn rq k mt ix a).mu=rq.mu/\(Jn rq k mt ix a).qu.length=rq.qu.length:=by
 unfold Jn;split
 ·exact ⟨rfl,rfl⟩
 ·split
  ·exact ⟨rfl,rfl⟩
  ·exact ⟨rfl,yZ⟩
theorem Qw (k:Nat) {s:Bp} {ps:List (Int × Nat × Nat)} (hz:∀ z ∈ ps,OP r z.1 z.2.1 z.2.2/\AK (Eo r z)/\0<Eo r z) (hps:ps.length<=1000) (hd:∀ b ∈ q.l,b ∉ p.l/\b ∉ hs s):∀ (n x f:Nat) (J:Aa) (rq:DX),Gv J p r->FY J q rq->BP J s ps->rq.mu=r.mu->rq.qu.length=r.qu.length->x+n=ps.length->n<f ->
  ∃ J',DE (k+4) f (FD p) (JA q) s.1 ps.length ps.length (x:Int) J=some (.exit 0,[],J')/\FY J' q (MR r (ps.drop x) rq)/\Mv q.l q.l J J'
 | n,x,0,J,rq,hr,hq,hp,hm,hl,hx,hf=>by omega
 | 0,x,f+1,J,rq,hr,hq,hp,hm,hl,hx,hf=>by
   rw[KB];simp only[xY (show ¬ (x:Int)<((ps.length:Nat):Int) by omega),By];rw[yS (by omega)];exact ⟨J,rfl,hq,Mv.refl _ _⟩
 | n+1,x,f+1,J,rq,hr,hq,hp,hm,hl,hx,hf=>by
   have hxl:x<ps.length:=by omega
   have qx:(0<=(x:Int)/\(x:Int)<((ps.length:Nat):Int))=True:=zl (by omega);have w1:Ar ((x:Int)+1)=((x+1:Nat):Int):=Ah (by unfold AK; omega);obtain ⟨b,e,l0,l1,l2,hb⟩:=BP.ld hp hxl;obtain ⟨z1,z2,z3⟩:=hz _ (yU hxl);have hdrop:ps.drop x=ps[x]::ps.drop (x+1):=yO hxl;rw[hdrop];generalize ps[x]=z at *;obtain ⟨τ,eg⟩:=tO k hr z1;have hr1:=hr.app τ;have hq1:=hq.app τ;have hp1:=BP.app hp τ;have zq:OP rq z.1 z.2.1 z.2.2:=by
    rcases z1 with ⟨a,b,c⟩ | h | ⟨a,b,c⟩
    ·exact .inl ⟨a,by omega,c⟩
    ·exact .inr (.inl h)
    ·exact .inr (.inr ⟨a,b,by omega⟩)
   obtain ⟨J2_,es,hq2,m2⟩:=o7 (k+2) hq1 zq (Eo r z) z2;have hset:MQ rq z.1 z.2.1 z.2.2 (Eo r z)=(0,Jn rq z.1 z.2.1 z.2.2 (Eo r z)):=by unfold MQ; rw[ym (by omega)]
   rw[hset] at es hq2;obtain ⟨g1,g2⟩:=pU rq z.1 z.2.1 z.2.2 (Eo r z);have kp:∀ c,c<(J++τ).length->(c ∉ q.l)->J2_[c]?=(J++τ)[c]?:=fun c hc hn=>m2.same c hc hn;obtain ⟨J3_,e3,hq3,m3⟩:=Qw k hz hps hd n (x+1) f J2_ _ (hr1.Aw fun c hc=>kp c (hr1.lt c hc) fun hm'=>(hd c hm').1 hc) hq2 (BP.Aw hp1 fun c hc=>kp c (BP.lt hp1 c hc) fun hm'=>(hd c hm').2 hc) (by rw[g1]; exact hm) (by rw[g2]; exact hl) (by omega) (by omega);have y0:Ak .i64 (J++τ) b (x*3)=some z.1:=by rw[Jm _ _ _ hb]; exact l0
   have y1:Ak .i64 (J++τ) b (x*3+1)=some (z.2.1:Int):=by rw[Jm _ _ _ hb]; exact l1
   have y2:Ak .i64 (J++τ) b (x*3+2)=some (z.2.2:Int):=by rw[Jm _ _ _ hb]; exact l2
   rw[e] at e3;refine ⟨J3_, ?_,by unfold MR at hq3 ⊢; rw[zF]; exact hq3,((Mv.app q.l J τ).trans m2).trans m3⟩;rw[KB];simp only[xZ (show (x:Int)<((ps.length:Nat):Int) by omega),IT,qx,ye,e,AI,xQ,IN,zu,Nat.reduceAdd,l0,l1,l2,eg,Cp,y0,y1,y2,es,Ag,w1,e3]
theorem FY.vW (h:FY J q rq) {s':Bp} {l:List Int} (li:Ba J s' l) (hl:l.length<=64) (hi:∀ v ∈ l,AK v/\0<=v) (hn:∀ b ∈ hs s',b ∉ q.l):
  ∃ c,CT J q.qb 2 (.slice s'.1 s'.2.1 s'.2.2)=some (J.set q.qb c)/\FY (J.set q.qb c) { q with s3:=s' } { rq with qu:=l }:=by
 have sep:=h.sep;have hok:({ rq with qu:=l }:DX).ok:=⟨h.ok.m1,h.ok.m4,h.ok.sl,h.ok.gl,hl,fun v hv=>by
  unfold DX.all at hv;rw[yf] at hv;rcases hv with hv | hv
  ·exact h.ok.inn v (by unfold DX.all; rw[yf]; exact .inl hv)
  ·exact hi v hv⟩;refine ⟨.cells [.slice q.ss.1 q.ss.2.1 q.ss.2.2,.slice q.s2.1 q.s2.2.1 q.s2.2.2,.slice s'.1 s'.2.1 s'.2.2] B7 true,by simp[CT,h.cell], ?_⟩;have DH:∀ x,x≠q.qb -> ∀ c,(J.set q.qb c)[x]?=J[x]?:=fun x hx c=>yc hx.symm;refine ⟨yo (Af h.cell),h.ss.Aw fun a ha=>DH _ (sep.a0 _ (BN.2 ⟨a,ha,rfl⟩)).1 _,h.n,fun x hx=>(h.inn x hx).Aw fun b hb=>DH _ (sep.a1 _ (q.mi hx hb)).1 _,h.gl.Aw fun b hb=>DH _ (sep.a2 _ hb).1 _,li.Aw fun b hb=>DH _ (fun e=>hn b hb (by rw[e]; exact QI.mem.2 (.inl rfl))) _,hok,⟨fun b hb=>⟨(sep.a0 b hb).1,(sep.a0 b hb).2.1,(sep.a0 b hb).2.2.1,fun hm=>hn b hm (QI.mem.2 (.inr (.inl hb)))⟩,fun b hb=>⟨(sep.a1 b hb).1,(sep.a1 b hb).2.1,fun hm=>hn b hm (QI.mem.2 (.inr (.inr (.inl hb))))⟩,fun b hb=>⟨(sep.a2 b hb).1,fun hm=>hn b hm (QI.mem.2 (.inr (.inr (.inr (.inl hb)))))⟩,fun b hb e=>hn b hb (by rw[e]; exact QI.mem.2 (.inl rfl)),sep.nd⟩⟩
theorem bR (k:Nat) (hk:5000<=k) (h:Gv J p r):∃ τ q,Gn (k+7) (FD p) J=some (.pointer (JA q),J++τ)/\FY (J++τ) q r /\ ∀ b ∈ q.l,J.length<=b:=by
 have hok:=h.ok;have hpl:=h.lt;obtain ⟨τ1,q0,e1,hq0,n0⟩:=qc (k+4) (by omega) hok.m1 hok.m4 J;have e1:Hq (k+6) (r.mu:Int) J=_:=e1;have h1:=h.app τ1;have em:BV (k+6) (FD p) J=_:=W8 (k+4) h;obtain ⟨s2,τ2,e2,li2,g2⟩:=oy (k+4) h1;have e2:Fy (k+6) (FD p) (J++τ1)=_:=e2;have f2:=li2.form;obtain ⟨s3,τ3,e3,li3,g3⟩:=dt (k+5) li2 (by have:=hok.qu; omega);have e3:G5 (k+6) (s2.1,s2.2.1,s2.2.2) (J++τ1++τ2)=_:=e3;have hq1:FY (J++τ1++τ2++τ3) q0 ⟨r.mu,List.replicate (16*r.mu) 0,List.replicate 16 0,[]⟩:=(hq0.app τ2).app τ3;have hl1:∀ b ∈ q0.l,b<(J++τ1).length:=hq0.lt;obtain ⟨c,es,hq2⟩:=hq1.vW li3.li hok.qu (fun v hv=>hok.inn v (by unfold DX.all; rw[yf]; exact .inr hv)) (fun b hb hm=>by
  have h1:=g3 b hb;have h2:=hl1 b hm;rw[yi] at h1;omega);generalize hμ:(J++τ1++τ2++τ3).set q0.qb c=Z at *;have qbl:J.length<=q0.qb:=n0 _ (QI.mem.2 (.inl rfl));have low:∀ b,b<J.length->Z[b]?=J[b]?:=fun b hb=>by
  rw[<- hμ,yc (by omega),ya,ya,AT hb]
 have lμ:J.length<=Z.length:=by rw[<- hμ]; simp
 have h2:Gv Z p r:=h.Aw fun b hb=>low b (hpl b hb);obtain ⟨τ4,s4,e4,pl,g4⟩:=lh k (by omega) h2;have e4:EO (k+6) (FD p) Z=_:=e4;have nq:∀ b ∈ ({ q0 with s3:=s3 }:QI).l,J.length<=b/\b<Z.length:=fun b hb=>by
  refine ⟨?_,hq2.lt b hb⟩;rcases QI.mem.1 hb with rfl | hb | hb | hb | hb
  ·exact qbl
  ·exact n0 b (QI.mem.2 (.inr (.inl hb)))
  ·exact n0 b (QI.mem.2 (.inr (.inr (.inl hb))))
  ·exact n0 b (QI.mem.2 (.inr (.inr (.inr (.inl hb)))))
  ·have:=g3 b hb; simp at this; omega
 have fp:s4.2.1=(F9 r).length/\s4.2.2=(F9 r).length:=by
  have:=Cq.form pl;constructor <;> rw[this]
 obtain ⟨J5_,e5,hq5,m5⟩:=Qw (k+2) (q:={ q0 with s3:=s3 }) (s:=s4) (ps:=F9 r) (fun z hz=>Uy hok hz) (by have:=Sd hok; omega) (fun b hb=>⟨fun hm=>by have:=hpl b hm; have:=(nq b hb).1; omega,fun hm=>by have:=g4 b hm; have:=(nq b hb).2; omega⟩) (F9 r).length 0 (k+6) (Z++τ4) _ (h2.app τ4) (hq2.app τ4) pl rfl rfl (by omega) (by have:=Sd hok; omega);have e5:DE (k+6) (k+6) (FD p) (JA q0) s4.1 (F9 r).length (F9 r).length 0 (Z++τ4)=_:=e5;rw[yV,nA hok] at hq5;obtain ⟨τ,hτ⟩:∃ τ,J5_=J++τ:=FV (by have:=m5.len; rw[yi] at this; omega) fun b hb=>by
  rw[m5.same b (by rw[yi]; omega) (fun hm=>by have:=(nq b hm).1; omega),AT (by omega),low b hb]
 subst hτ;refine ⟨τ,{ q0 with s3:=s3 }, ?_,hq5,fun b hb=>(nq b hb).1⟩;rw[Rt];simp only[em,AI,Ag,e1,Ku,yr,By,e2,ED,e3,IN,es,e4,fp.1,fp.2,e5,ye]
end
section
variable {J:Aa} {p:PI} {r:DX} {q:QI}
def M8 (r:DX):List (Int × Nat × Nat):=(List.range' 0 (16*r.mu)).map (DI 0)++(List.range' 0 16).map (DI 1)++(List.range' 0 r.qu.length).map (DI 2)
theorem S9 {r:DX} {kk:Int}:∀ (l:List Int) (x:Nat),(∀ y,y<l.length->Eo r (DI kk (x+y))=l.getD y 0)->((List.range' x l.length).map (DI kk)).filter (fun z=>decide (Eo r z≠0))=OE kk l x
 | [],_,_=>rfl
 | v::l,x,h=>by
   have h0:=h 0 (by simp);rw[yl] at h0;have h0:Eo r (DI kk x)=v:=h0;have ih:=S9 l (x+1) fun y hy=>by
    have:=h (y+1) (by simpa using hy);rw[show x+1+y=x+(y+1) from by omega,this]; rfl
   rw[ze,Abe,zD,zZ,OE,h0,ih];by_cases hv:v=0
   ·rw[ym (by simp[hv]),yk hv]; rfl
   ·rw[yk (by simp[hv]),ym hv]; rfl
theorem vE {r:DX} (y:Nat):Eo r (DI 0 y)=r.sl.getD y 0:=by
 have e16:16*(y/16)+y % 16=y:=Ab9 y 16;unfold Eo DI; simp only[ye,e16]
theorem ca (h:r.ok):(M8 r).filter (fun z=>decide (Eo r z≠0))=F9 r:=by
 have h0:=S9 (r:=r) (kk:=0) r.sl 0 fun y _=>by rw[IN]; exact vE y
 have h1:=S9 (r:=r) (kk:=1) r.gl 0 fun y _=>by rw[IN]; rfl
 have h2:=S9 (r:=r) (kk:=2) r.qu 0 fun y _=>by rw[IN]; rfl
 rw[h.sl] at h0;rw[h.gl] at h1;unfold M8 F9;rw[Aa2,Aa2,h0,h1,h2]
theorem lH (out:List Int):Jr out 0=out:=by unfold Jr; rw[yk (.inl rfl)]
theorem SC {r:DX} {kk:Int}:∀ (l:List Int) (x:Nat) (out:List Int),(∀ y,y<l.length->Eo r (DI kk (x+y))=l.getD y 0)->((OE kk l x).map (Eo r)).foldl Jr out=l.foldl Jr out
 | [],_,_,_=>rfl
 | v::l,x,out,h=>by
   have h0:=h 0 (by simp);rw[yl] at h0;have h0:Eo r (DI kk x)=v:=h0;have ih:=fun out=>SC l (x+1) out fun y hy=>by
    have:=h (y+1) (by simpa using hy);rw[show x+1+y=x+(y+1) from by omega,this]; rfl
   rw[OE,Aae,Aa6,zF,ih];by_cases hv:v=0
   ·rw[yk hv,hv,lH]; rfl
   ·rw[ym hv,zD,List.map_nil,zF,Ac7,h0]
theorem cm (r:DX):((F9 r).map (Eo r)).foldl Jr []=Eu r:=by
 unfold F9 Eu DX.all;rw[Aae,Aae,Aa6,Aa6,Aa6,Aa6];rw[SC r.sl 0 [] fun y _=>by rw[IN]; exact vE y];rw[SC r.gl 0 _ fun y _=>by rw[IN]; rfl];rw[SC r.qu 0 _ fun y _=>by rw[IN]; rfl]
theorem oX (h:r.ok) {z:Int × Nat × Nat} (hz:z ∈ M8 r):OP r z.1 z.2.1 z.2.2:=by
 unfold M8 at hz;rw[yf,yf] at hz;rcases hz with (hz | hz) | hz
 ·obtain ⟨y,hy,rfl⟩:=zK.1 hz;have:=(Abw.1 hy).2;exact .inl ⟨rfl,by simp only[DI,ye]; omega,by simp only[DI,ye]; omega⟩
 ·obtain ⟨y,hy,rfl⟩:=zK.1 hz;have:=(Abw.1 hy).2;exact .inr (.inl ⟨rfl,rfl,by simp[DI]; omega⟩)
 ·obtain ⟨y,hy,rfl⟩:=zK.1 hz;have:=(Abw.1 hy).2;exact .inr (.inr ⟨rfl,rfl,by simp[DI]; omega⟩)
theorem mb (h:r.ok):(M8 r).length<=144:=by
 have:=h.m4;have:=h.qu;unfold M8;simp;omega
theorem Wz (k:Nat) {mt:Nat} (hm:mt<1000):∀ (n x f:Nat) (J:Aa) (s:Bp) (out:List (Int × Nat × Nat)),BP J s out->out.length+n<=1000->x+n=16->n<f ->
  ∃ s' J',DP k f (mt:Int) (s.1,s.2.1,s.2.2) (x:Int) J=some (.exit 2,[.slice s'.1 s'.2.1 s'.2.2],J')/\BP J' s' (out++(List.range' (16*mt+x) n).map (DI 0))/\Mv (hs s) (hs s') J J'
 | n,x,0,J,s,out,h,hl,hx,hf=>by omega
 | 0,x,f+1,J,s,out,h,hl,hx,hf=>by
   rw[JG];simp only[xY (show ¬ (x:Int)<16 by omega),By];exact ⟨s,J,rfl,by simpa using h,Mv.refl _ _⟩
 | n+1,x,f+1,J,s,out,h,hl,hx,hf=>by
   have w1:Ar ((x:Int)+1)=((x+1:Nat):Int):=Ah (by unfold AK; omega);obtain ⟨s1,J1_,e1,h1,m1⟩:=BP.push h (0,mt,x) Am (by omega);obtain ⟨s2,J2_,e2,h2,m2⟩:=Wz k hm n (x+1) f J1_ s1 _ h1 (by simp; omega) (by omega) (by omega);have hp:DI 0 (16*mt+x)=(0,mt,x):=by
    unfold DI;simp only[ye];rw[show (16*mt+x)/16=mt from by omega,show (16*mt+x) % 16=x from by omega]
   rw[JG];simp only[xZ (show (x:Int)<16 by omega),IT,Ae,e1,AI,w1,e2];refine ⟨s2,J2_,rfl, ?_,m1.trans m2⟩;rw[Abe,zD,hp];rw[ya] at h2;exact h2
theorem Wy (k:Nat) (hk:20<=k):∀ (n x f:Nat) (J:Aa) (s:Bp) (out:List (Int × Nat × Nat)),FY J q r->BP J s out->(∀ b ∈ hs s,b ∉ q.l)->out.length+16*n<=900->x+n=r.mu->n<f ->
  ∃ s' J',DO k f (JA q) (s.1,s.2.1,s.2.2) (x:Int) J=some (.exit 0,[.slice s'.1 s'.2.1 s'.2.2],J')/\BP J' s' (out++(List.range' (16*x) (16*n)).map (DI 0))/\Mv (hs s) (hs s') J J'
 | n,x,0,J,s,out,hq,h,hd,hl,hx,hf=>by omega
 | 0,x,f+1,J,s,out,hq,h,hd,hl,hx,hf=>by
   rw[JF];simp only[IN,yl,hq.GK,AI,xY (show ¬ (x:Int)<((r.mu:Nat):Int) by omega),By];exact ⟨s,J,rfl,by simpa using h,Mv.refl _ _⟩
 | n+1,x,f+1,J,s,out,hq,h,hd,hl,hx,hf=>by
   have hm4:=hq.ok.m4;have w1:Ar ((x:Int)+1)=((x+1:Nat):Int):=Ah (by unfold AK; omega);obtain ⟨s1,J1_,e1,h1,m1⟩:=Wz k (mt:=x) (by omega) 16 0 k J s out h (by omega) (by omega) (by omega);rw[show ((0:Nat):Int)=0 from rfl] at e1;have hq1:FY J1_ q r:=hq.Aw fun b hb=>m1.same b (hq.lt b hb) fun hm=>hd b hm hb;obtain ⟨s2,J2_,e2,h2,m2⟩:=Wy k hk n (x+1) f J1_ s1 _ hq1 h1 (fun b hb hm=>by
    rcases m1.new b hb with hh | hh
    ·exact hd b hh hm
    ·have:=hq.lt b hm; omega) (by simp; omega) (by omega) (by omega);rw[JF];simp only[IN,yl,hq.GK,AI,xZ (show (x:Int)<((r.mu:Nat):Int) by omega),IT,e1,ye,Tv,w1,e2];refine ⟨s2,J2_,rfl, ?_,m1.trans m2⟩;have:List.range' (16*x) (16*(n+1))=List.range' (16*x+0) 16++List.range' (16*(x+1)) (16*n):=by
    rw[show 16*(n+1)=16+16*n from by omega,<- List.range'_append_1];rfl
   rw[this,Aae,<- ya];exact h2
theorem W0 (k:Nat):∀ (n x f:Nat) (J:Aa) (s:Bp) (out:List (Int × Nat × Nat)),BP J s out->out.length+n<=1000->x+n=16->n<f ->
  ∃ s' J',DQ k f (s.1,s.2.1,s.2.2) (x:Int) J=some (.exit 4,[.slice s'.1 s'.2.1 s'.2.2],J')/\BP J' s' (out++(List.range' x n).map (DI 1))/\Mv (hs s) (hs s') J J'
 | n,x,0,J,s,out,h,hl,hx,hf=>by omega
 | 0,x,f+1,J,s,out,h,hl,hx,hf=>by
   rw[JH];simp only[xY (show ¬ (x:Int)<16 by omega),By];exact ⟨s,J,rfl,by simpa using h,Mv.refl _ _⟩
 | n+1,x,f+1,J,s,out,h,hl,hx,hf=>by
   have w1:Ar ((x:Int)+1)=((x+1:Nat):Int):=Ah (by unfold AK; omega);obtain ⟨s1,J1_,e1,h1,m1⟩:=BP.push h (1,0,x) Am (by omega);rw[show ((0:Nat):Int)=0 from rfl] at e1;obtain ⟨s2,J2_,e2,h2,m2⟩:=W0 k n (x+1) f J1_ s1 _ h1 (by simp; omega) (by omega) (by omega);rw[JH];simp only[xZ (show (x:Int)<16 by omega),IT,Ae,e1,AI,w1,e2];refine ⟨s2,J2_,rfl, ?_,m1.trans m2⟩;rw[Abe,zD];rw[ya] at h2;exact h2
theorem W1 (k:Nat):∀ (n x f:Nat) (J:Aa) (s:Bp) (out:List (Int × Nat × Nat)),FY J q r->BP J s out->(∀ b ∈ hs s,b ∉ q.l)->out.length+n<=1000->x+n=r.qu.length->n<f ->
  ∃ s' J',DR k f (JA q) (s.1,s.2.1,s.2.2) (x:Int) J=some (.exit 6,[.slice s'.1 s'.2.1 s'.2.2],J')/\BP J' s' (out++(List.range' x n).map (DI 2))/\Mv (hs s) (hs s') J J'
 | n,x,0,J,s,out,hq,h,hd,hl,hx,hf=>by omega
 | 0,x,f+1,J,s,out,hq,h,hd,hl,hx,hf=>by
   rw[JI];simp only[IN,yl,hq.SE,AI,xY (show ¬ (x:Int)<((r.qu.length:Nat):Int) by omega),By];exact ⟨s,J,rfl,by simpa using h,Mv.refl _ _⟩
 | n+1,x,f+1,J,s,out,hq,h,hd,hl,hx,hf=>by
   have hqu:=hq.ok.qu;have w1:Ar ((x:Int)+1)=((x+1:Nat):Int):=Ah (by unfold AK; omega);obtain ⟨s1,J1_,e1,h1,m1⟩:=BP.push h (2,0,x) Am (by omega);rw[show ((0:Nat):Int)=0 from rfl] at e1;have hq1:FY J1_ q r:=hq.Aw fun b hb=>m1.same b (hq.lt b hb) fun hm=>hd b hm hb;obtain ⟨s2,J2_,e2,h2,m2⟩:=W1 k n (x+1) f J1_ s1 _ hq1 h1 (fun b hb hm=>by
    rcases m1.new b hb with hh | hh
    ·exact hd b hh hm
    ·have:=hq.lt b hm; omega) (by simp; omega) (by omega) (by omega);rw[JI];simp only[IN,yl,hq.SE,AI,xZ (show (x:Int)<((r.qu.length:Nat):Int) by omega),IT,Ae,e1,w1,e2];refine ⟨s2,J2_,rfl, ?_,m1.trans m2⟩;rw[Abe,zD];rw[ya] at h2;exact h2
theorem nV (k:Nat) (hk:200<=k) (h:FY J q r):∃ s τ,Gy (k+1) (JA q) J=some (.slice s.1 s.2.1 s.2.2,J++τ)/\BP (J++τ) s (M8 r) /\ ∀ b ∈ hs s,J.length<=b:=by
 have hok:=h.ok;have hm4:=hok.m4;have hqu:=hok.qu;obtain ⟨k,rfl⟩:∃ k',k=k'+1:=⟨k-1,by omega⟩;obtain ⟨s1,J1_,e1,h1,m1⟩:=Wy (k+1) (by omega) r.mu 0 (k+1) J (none,0,0) [] h (BP.nil J) (fun b hb=>by simp[hs] at hb) (by simp; omega) (by omega) (by omega);obtain ⟨s2,J2_,e2,h2,m2⟩:=W0 (k+1) 16 0 (k+1) J1_ s1 _ h1 (by simp; omega) (by omega) (by omega);have m12:=m1.trans m2;have hq2:FY J2_ q r:=h.Aw fun b hb=>m12.same b (h.lt b hb) (by simp[hs]);obtain ⟨s3,J3_,e3,h3,m3⟩:=W1 (k+1) r.qu.length 0 (k+1) J2_ s2 _ hq2 h2 (fun b hb hm=>by
  rcases m12.new b hb with hh | hh
  ·simp[hs] at hh
  ·have:=h.lt b hm; omega) (by simp; omega) (by omega) (by omega);have m:=m12.trans m3;obtain ⟨τ,rfl⟩:=FV m.len fun b hb=>m.same b hb (by simp[hs]);rw[show ((0:Nat):Int)=0 from rfl] at e1 e2 e3;refine ⟨s3,τ, ?_,by simpa [M8] using h3,fun b hb=>(m.new b hb).elim (fun hh=>by simp[hs] at hh) id⟩;rw[PT];simp only[Se k h,AI,Ao,yp,By,e1,ye,Tv,e2,e3]
theorem ku (k:Nat) (h:FY J q r) {z:Int × Nat × Nat} (hp:OP r z.1 z.2.1 z.2.2):Ff (k+1) (JA q) z.1 (z.2.1:Int) (z.2.2:Int) J=some (.int .i64 (Eo r z),J++[Au.cells [.int .i64 z.1,.int .i64 (z.2.1:Int),.int .i64 (z.2.2:Int)] Am true]):=by
 have hsl:=h.ok.sl;have hgl:=h.ok.gl;obtain ⟨kk,mt,ix⟩:=z;have hp:OP r kk mt ix:=hp;have hA:=h.app [Au.cells [.int .i64 kk,.int .i64 (mt:Int),.int .i64 (ix:Int)] Am true];rw[R4];simp only[Ae,IN,Bh,yy,yB,AI,Ag];unfold Eo;rcases hp with ⟨rfl,hm,hi⟩ | ⟨rfl,rfl,hi⟩ | ⟨rfl,rfl,hi⟩
 ·have hmx:mt<q.sl.length:=by rw[h.n]; exact hm
  obtain ⟨c,eq,lq⟩:=hA.vH hmx;have f:=(h.inn mt hmx).form;have hcl:=VB hsl hm;have f1:q.sl[mt].2.1=16:=by rw[f]; exact hcl
  obtain ⟨b,eb,lb,_⟩:=(hA.inn mt hmx).ld (x:=ix) (by omega);have hch:(chunk r.sl mt).getD ix 0=r.sl.getD (16*mt+ix) 0:=by
   unfold chunk;rw[yd,yd,zt,yk hi,zs]
  rw[hch] at lb;have q1:(0<=(mt:Int)/\(mt:Int)<((r.mu:Nat):Int))=True:=zl (by omega);have q2:(0<=(ix:Int)/\(ix:Int)<((16:Nat):Int))=True:=zl (by omega);simp only[show ((0:Int) == 0)=true from rfl,IT,hA.GK,AI,q1,ye,eq,xQ,yH,IN,lq,f1,q2,eb,lb]
 ·obtain ⟨b,eb,lb,_⟩:=hA.gl.ld (x:=ix) (by omega);have q2:(0<=(ix:Int)/\(ix:Int)<((r.gl.length:Nat):Int))=True:=zl (by omega);simp only[show ((1:Int) == 0)=false from rfl,By,show ((1:Int) == 1)=true from rfl,IT,hA.E6,AI,q2,ye,eb,xQ,yH,IN,lb,show ((1:Int)=0)=False from by simp,yq]
 ·obtain ⟨b,eb,lb,_⟩:=hA.qu.ld (x:=ix) (by omega);have q2:(0<=(ix:Int)/\(ix:Int)<((r.qu.length:Nat):Int))=True:=zl (by omega);simp only[show ((2:Int) == 0)=false from rfl,By,show ((2:Int) == 1)=false from rfl,hA.SE,AI,q2,ye,eb,xQ,yH,IN,lb,show ((2:Int)=0)=False from by simp,show ((2:Int)=1)=False from by simp,yq]
theorem PD (k:Nat) {sl:Bp} {ps:List (Int × Nat × Nat)} (hz:∀ z ∈ ps,OP r z.1 z.2.1 z.2.2) (hps:ps.length<=500):∀ (n x f:Nat) (J:Aa) (s:Bp) (out:List (Int × Nat × Nat)),FY J q r->BP J sl ps->BP J s out->(∀ b ∈ hs s,b ∉ q.l/\b ∉ hs sl)->out.length+n<=900->x+n=ps.length->n<f ->
  ∃ s' J',DB (k+1) f (JA q) sl.1 ps.length ps.length (s.1,s.2.1,s.2.2) (x:Int) J=some (.exit 0,[.slice s'.1 s'.2.1 s'.2.2],J')/\BP J' s' (out++(ps.drop x).filter (fun z=>decide (Eo r z≠0)))/\Mv (hs s) (hs s') J J'
 | n,x,0,J,s,out,hq,hp,h,hd,hl,hx,hf=>by omega
 | 0,x,f+1,J,s,out,hq,hp,h,hd,hl,hx,hf=>by
   rw[Jv];simp only[xY (show ¬ (x:Int)<((ps.length:Nat):Int) by omega),By];rw[yS (by omega)];exact ⟨s,J,rfl,by simpa using h,Mv.refl _ _⟩
 | n+1,x,f+1,J,s,out,hq,hp,h,hd,hl,hx,hf=>by
   have hxl:x<ps.length:=by omega
   have qx:(0<=(x:Int)/\(x:Int)<((ps.length:Nat):Int))=True:=zl (by omega);have w1:Ar ((x:Int)+1)=((x+1:Nat):Int):=Ah (by unfold AK; omega);obtain ⟨b,e,l0,l1,l2,hb⟩:=BP.ld hp hxl;have z1:=hz _ (yU hxl);have hdrop:ps.drop x=ps[x]::ps.drop (x+1):=yO hxl;rw[hdrop];generalize ps[x]=z at *;obtain ⟨B,hB⟩:∃ B,Au.cells [.int .i64 z.1,.int .i64 (z.2.1:Int),.int .i64 (z.2.2:Int)] Am true=B:=⟨_,rfl⟩;have eg:=ku k hq z1;rw[hB] at eg;have hq1:=hq.app [B];have hp1:=BP.app hp [B];have h1:=BP.app h [B];have y0:Ak .i64 (J++[B]) b (x*3)=some z.1:=by rw[Jm _ _ _ hb]; exact l0
   have y1:Ak .i64 (J++[B]) b (x*3+1)=some (z.2.1:Int):=by rw[Jm _ _ _ hb]; exact l1
   have y2:Ak .i64 (J++[B]) b (x*3+2)=some (z.2.2:Int):=by rw[Jm _ _ _ hb]; exact l2
   rw[Jv];simp only[xZ (show (x:Int)<((ps.length:Nat):Int) by omega),IT,qx,ye,e,AI,xQ,IN,zu,Nat.reduceAdd,l0,l1,l2,eg,Ag];by_cases hv:Eo r z=0
   ·obtain ⟨s2,J2_,e2,h2,m2⟩:=PD k hz hps n (x+1) f (J++[B]) s out hq1 hp1 h1 hd (by omega) (by omega) (by omega);rw[e] at e2;rw[zZ,ym (by simp[hv])];simp only[show (Eo r z != 0)=false from by rw[hv]; rfl,By,AI,ye,Tv,w1,e2];exact ⟨s2,J2_,rfl,h2,(Mv.app _ _ _).trans m2⟩
   ·obtain ⟨s1,J1_,e1,g1,m1⟩:=BP.push h1 z Am (by omega);have kp:∀ c,c<(J++[B]).length->c ∉ hs s->J1_[c]?=(J++[B])[c]?:=fun c hc hn=>m1.same c hc hn;have hq2:FY J1_ q r:=hq1.Aw fun c hc=>kp c (hq1.lt c hc) fun hm=>(hd c hm).1 hc;have hp2:BP J1_ sl ps:=BP.Aw hp1 fun c hc=>kp c (BP.lt hp1 c hc) fun hm=>(hd c hm).2 hc;obtain ⟨s2,J2_,e2,h2,m2⟩:=PD k hz hps n (x+1) f J1_ s1 _ hq2 hp2 g1 (fun c hc=>by
     rcases m1.new c hc with hh | hh
     ·exact hd c hh
     ·exact ⟨fun hm=>by have:=hq1.lt c hm; omega,fun hm=>by have:=BP.lt hp1 c hm; omega⟩) (by simp; omega) (by omega) (by omega);rw[e] at e2;rw[zZ,yk (by simp[hv])];simp only[show (Eo r z != 0)=true from zr.2 hv,IT,y0,y1,y2,AI,Ae,e1,ye,Tv,w1,e2];rw[ya] at h2;exact ⟨s2,J2_,rfl,h2,((Mv.app _ _ _).trans m1).trans m2⟩
theorem gS (k:Nat) (hk:600<=k) (h:FY J q r):∃ s τ,Gg (k+2) (JA q) J=some (.slice s.1 s.2.1 s.2.2,J++τ)/\BP (J++τ) s (F9 r) /\ ∀ b ∈ hs s,J.length<=b:=by
 obtain ⟨s1,τ1,e1,g1,n1⟩:=nV k (by omega) h;have fm:=Cq.form g1;have f1:s1.2.1=(M8 r).length:=by rw[fm]
 have f2:s1.2.2=(M8 r).length:=by rw[fm]
 have hle:=mb h.ok;obtain ⟨s2,J2_,e2,g2,m2⟩:=PD k (sl:=s1) (ps:=M8 r) (fun z hz=>oX h.ok hz) (by omega) (M8 r).length 0 (k+1) (J++τ1) (none,0,0) [] (h.app τ1) g1 (BP.nil _) (fun b hb=>by simp[hs] at hb) (by simp; omega) (by omega) (by omega);rw[yV,Aac,ca h.ok] at g2;have m:=(Mv.app [] J τ1).trans m2;obtain ⟨τ,rfl⟩:=FV m.len fun b hb=>m.same b hb (by simp);rw[show ((0:Nat):Int)=0 from rfl] at e2;refine ⟨s2,τ, ?_,g2,fun b hb=>(m.new b hb).elim (fun hh=>by simp at hh) id⟩;rw[OV];simp only[e1,AI,ED,f1,f2,e2,ye,Tv]
theorem W7 (k:Nat) {s:Bp} {l:List Int} (h:Ba J s l) (hl:l.length<=1000000) (v:Int):∀ (n x f:Nat) (fd:Bool),x+n=l.length->n<f ->
  DT k f s.1 l.length l.length v fd (x:Int) J=some (.exit 2,[.bool (fd || decide (v ∈ l.drop x))],J)
 | n,x,0,fd,hx,hf=>by omega
 | 0,x,f+1,fd,hx,hf=>by
   rw[JK];simp only[xY (show ¬ (x:Int)<((l.length:Nat):Int) by omega),By];rw[yS (by omega)];simp
 | n+1,x,f+1,fd,hx,hf=>by
   obtain ⟨b,e,l1,_⟩:=h.ld (x:=x) (by omega);have qx:(0<=(x:Int)/\(x:Int)<((l.length:Nat):Int))=True:=zl (by omega);have w1:Ar ((x:Int)+1)=((x+1:Nat):Int):=Ah (by unfold AK; omega);have ih:=fun fd=>W7 k h hl v n (x+1) f fd (by omega) (by omega);rw[e] at ih;rw[JD (l:=l) (x:=x) (by omega)];rw[JK];simp only[xZ (show (x:Int)<((l.length:Nat):Int) by omega),IT,qx,ye,e,AI,xQ,yH,IN,l1,w1];cases fd with
   | true=>
     simp only[IT,AI,ih,Acf]
   | false=>
     simp only[By,AI,ih,Acm];have:(l.getD x 0 == v || decide (v ∈ l.drop (x+1)))=decide (v ∈ l.getD x 0::l.drop (x+1)):=by
      rw[Acu];simp only[Aap,zJ,zA,yL];exact ⟨fun h=>h.imp Eq.symm id,fun h=>h.imp Eq.symm id⟩
     rw[this]
theorem Rd (k:Nat) (hk:1000<k) {sl:Bp} {ps:List (Int × Nat × Nat)} (hz:∀ z ∈ ps,OP r z.1 z.2.1 z.2.2/\Eo r z≠0) (hps:ps.length<=500):∀ (n x f:Nat) (J:Aa) (s:Bp) (out:List Int),FY J q r->BP J sl ps->Ba J s out->(∀ b ∈ hs s,b ∉ q.l/\b ∉ hs sl)->out.length+n<=900->x+n=ps.length->n<f ->
  ∃ s' J',DS (k+1) f (JA q) sl.1 ps.length ps.length (s.1,s.2.1,s.2.2) (x:Int) J=some (.exit 0,[.slice s'.1 s'.2.1 s'.2.2],J')/\Ba J' s' (((ps.drop x).map (Eo r)).foldl Jr out)/\Mv (hs s) (hs s') J J'
 | n,x,0,J,s,out,hq,hp,h,hd,hl,hx,hf=>by omega
 | 0,x,f+1,J,s,out,hq,hp,h,hd,hl,hx,hf=>by
   rw[JJ];simp only[xY (show ¬ (x:Int)<((ps.length:Nat):Int) by omega),By];rw[yS (by omega)];exact ⟨s,J,rfl,by simpa using h,Mv.refl _ _⟩
 | n+1,x,f+1,J,s,out,hq,hp,h,hd,hl,hx,hf=>by
   have hxl:x<ps.length:=by omega
   have qx:(0<=(x:Int)/\(x:Int)<((ps.length:Nat):Int))=True:=zl (by omega);have w1:Ar ((x:Int)+1)=((x+1:Nat):Int):=Ah (by unfold AK; omega);obtain ⟨b,e,l0,l1,l2,hb⟩:=BP.ld hp hxl;obtain ⟨z1,z2⟩:=hz _ (yU hxl);have hdrop:ps.drop x=ps[x]::ps.drop (x+1):=yO hxl;rw[hdrop];generalize ps[x]=z at *;obtain ⟨B,hB⟩:∃ B,Au.cells [.int .i64 z.1,.int .i64 (z.2.1:Int),.int .i64 (z.2.2:Int)] Am true=B:=⟨_,rfl⟩;have eg:=ku k hq z1;rw[hB] at eg;have hq1:=hq.app [B];have hp1:=BP.app hp [B];have h1:=h.app [B];have hfm:=h.form;have f1:s.2.1=out.length:=by rw[hfm]
   have f2:s.2.2=out.length:=by rw[hfm]
   have el:=W7 (k+1) h1 (by omega) (Eo r z) out.length 0 (k+1) false (by omega) (by omega);rw[show ((0:Nat):Int)=0 from rfl,yV,Acm] at el;rw[zD,zF];rw[JJ];simp only[xZ (show (x:Int)<((ps.length:Nat):Int) by omega),IT,qx,ye,e,AI,xQ,IN,zu,Nat.reduceAdd,l0,l1,l2,eg,Ag,f1,f2,el,j4];by_cases hv:Eo r z ∈ out
   ·have ea:Jr out (Eo r z)=out:=by unfold Jr; rw[yk (.inr hv)]
    rw[ea];obtain ⟨s2,J2_,e2,h2,m2⟩:=Rd k hk hz hps n (x+1) f (J++[B]) s out hq1 hp1 h1 hd (by omega) (by omega) (by omega);rw[e,f1,f2] at e2;simp only[xZ hv,yp,By,AI,ye,Tv,w1,e2];exact ⟨s2,J2_,rfl,h2,(Mv.app _ _ _).trans m2⟩
   ·have ea:Jr out (Eo r z)=out++[Eo r z]:=by unfold Jr; rw[ym fun hh=>hh.elim z2 hv]
    rw[ea];obtain ⟨s1,J1_,e1,g1,m1⟩:=h1.push (Eo r z) Aj (by omega);rw[f1,f2] at e1;have kp:∀ c,c<(J++[B]).length->c ∉ hs s->J1_[c]?=(J++[B])[c]?:=fun c hc hn=>m1.same c hc hn;have hq2:FY J1_ q r:=hq1.Aw fun c hc=>kp c (hq1.lt c hc) fun hm=>(hd c hm).1 hc;have hp2:BP J1_ sl ps:=BP.Aw hp1 fun c hc=>kp c (BP.lt hp1 c hc) fun hm=>(hd c hm).2 hc;obtain ⟨s2,J2_,e2,h2,m2⟩:=Rd k hk hz hps n (x+1) f J1_ s1 _ hq2 hp2 g1 (fun c hc=>by
     rcases m1.new c hc with hh | hh
     ·exact hd c hh
     ·exact ⟨fun hm=>by have:=hq1.lt c hm; omega,fun hm=>by have:=BP.lt hp1 c hm; omega⟩) (by simp; omega) (by omega) (by omega);rw[e] at e2;simp only[xY hv,yY,IT,AI,Ae,e1,ye,Tv,w1,e2];exact ⟨s2,J2_,rfl,h2,((Mv.app _ _ _).trans m1).trans m2⟩
theorem lk (k:Nat) (hk:1000<k) (h:FY J q r):∃ s τ,Fx (k+3) (JA q) J=some (.slice s.1 s.2.1 s.2.2,J++τ)/\Ba (J++τ) s (Eu r) /\ ∀ b ∈ hs s,J.length<=b:=by
 obtain ⟨s1,τ1,e1,g1,n1⟩:=gS k (by omega) h;have fm:=Cq.form g1;have f1:s1.2.1=(F9 r).length:=by rw[fm]
 have f2:s1.2.2=(F9 r).length:=by rw[fm]
 have hle:=Sd h.ok;obtain ⟨s2,J2_,e2,g2,m2⟩:=Rd (k+1) (by omega) (sl:=s1) (ps:=F9 r) (fun z hz=>⟨(Uy h.ok hz).1,by have:=(Uy h.ok hz).2.2; omega⟩) (by omega) (F9 r).length 0 (k+2) (J++τ1) (none,0,0) [] (h.app τ1) g1 (Ba.nil _) (fun b hb=>by simp[hs] at hb) (by simp; omega) (by omega) (by omega);rw[yV,cm] at g2;have m:=(Mv.app [] J τ1).trans m2;obtain ⟨τ,rfl⟩:=FV m.len fun b hb=>m.same b hb (by simp);rw[show ((0:Nat):Int)=0 from rfl] at e2;refine ⟨s2,τ, ?_,g2,fun b hb=>(m.new b hb).elim (fun hh=>by simp at hh) id⟩;rw[PU];simp only[e1,AI,ED,f1,f2,e2,ye,Tv]
theorem YT (m:HM):Wb (iQ m)=Wb m:=rfl
theorem kh (m:HM) (kd:Int):∀ (rs:List Int) (x:Nat) (out:List Int),kg (iQ m) kd rs x out=kg m kd rs x out
 | [],_,_=>rfl
 | r::rs,x,out=>by rw[kg,kg,YT]; exact kh m kd rs _ _
theorem pJ (m:HM):Uv (iQ m)=Uv m:=by
 funext out a;unfold Uv;simp only[kh,YT];rfl
theorem jh (m:HM) (out:List Int):MC (iQ m) out=MC m out:=by unfold MC; rw[pJ]
theorem WX (m:HM):∀ (n:Nat) (out:List Int),OG (iQ m) n out=OG m n out
 | 0,_=>rfl
 | n+1,out=>by rw[OG,OG,jh,WX m n]
theorem jd (m:HM) (l:List Int):Wk (iQ m) l=Wk m l:=by unfold Wk; rw[WX,YT]
def YW (m:HM) (r:DX):List Int:=Wk m (Eu r)
theorem iL (h:r.ok):(Eu r).length<=144:=by
 have key:∀ (l out:List Int),(l.foldl Jr out).length<=out.length+l.length:=by
  intro l
  induction l with
  | nil=>intro out; simp
  | cons v l ih=>
    intro out;rw[zF];have h1:=ih (Jr out v);have h2:(Jr out v).length<=out.length+1:=by
     unfold Jr; split
     ·omega
     ·simp
    simp only[ze]; omega
 have h1:=key r.all [];have h2:=h.sl;have h3:=h.gl;have h4:=h.qu;have h5:=h.m4;unfold Eu;unfold DX.all at h1 ⊢;simp only[yi,zo] at h1;omega
theorem ru (k:Nat) (hk:10000<=k) {m:HM} {i:Cd} {sb:Nat} (l0:BR J sb 0=some (AM i)) (l1:BR J sb 1=some (FD p)) (hsb:sb<J.length) (h:Ai J i m) (hM:MK m) (hr:Gv J p r):
  ∃ s τ,CE (k+12) (some ⟨sb,0,none⟩) J=some (.slice s.1 s.2.1 s.2.2,J++τ)/\Qv (J++τ) s (YW m r)/\Eh m (YW m r):=by
 obtain ⟨τ1,j,e1,ra,_⟩:=bS (k+1) (by omega) h hM;have e1:G3 (k+11) (AM i) J=_:=e1;obtain ⟨τ2,q,e2,rq,_⟩:=bR (k+4) (by omega) (hr.app τ1);have e2:Gn (k+11) (FD p) (J++τ1)=_:=e2;obtain ⟨s3,τ3,e3,li,_⟩:=lk (k+8) (by omega) rq;have e3:Fx (k+11) (JA q) (J++τ1++τ2)=_:=e3;have hl:=iL hr.ok;obtain ⟨s4,τ4,e4,ls⟩:=oz (k+4) (by omega) (RG.read ((ra.app τ2).app τ3) hM) li (by omega);have e4:Ja (k+11) (Bx j) (s3.1,s3.2.1,s3.2.2) true (J++τ1++τ2++τ3)=_:=e4;have y1:BR (J++τ1) sb 1=some (FD p):=by simp only[BR,D5] at l1 ⊢; rw[AT hsb]; exact l1
 have hk1:∀ {ρ:Type} (x:Option ρ),Km (some ⟨sb,0,none⟩) J (J++τ1) x=x:=fun x=>Oe (AT hsb) x;refine ⟨s4,τ1++(τ2++(τ3++τ4)), ?_, ?_, ?_⟩
 ·rw[QG];simp only[IN,yl,l0,AI,e1,HD,hk1,y1,e2,e3,ED,e4];simp only[ya]
 ·rw[<- ya,<- ya,<- ya];rw[jd] at ls; exact ls
 ·unfold YW Wk;have:∀ (n:Nat) (out:List Int),Eh m out->Eh m (OG m n out):=by
   intro n
   induction n with
   | zero=>intro out h; exact h
   | succ n ih=>
     intro out h;rw[OG];split
     ·exact h.round
     ·exact ih _ h.round
  exact this _ _ (Eh.fold (fun o a h=>h.inc a) _ [] (Eh.nil m))
end
end
end Go.Proofs.YtjbledomkmdkmaaGreat
