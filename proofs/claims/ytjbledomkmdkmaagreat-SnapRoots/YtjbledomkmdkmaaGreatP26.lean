/- The program's roots in memory; Leads.; A core in memory: looks and stores.; What holds of every heap that is made by calls; bounds of a core.; Shading -/
import Derived.Test.YtjbledomkmdkmaaGreatP25
set_option linter.unusedVariables false
set_option linter.unusedSimpArgs false
set_option linter.unusedSectionVars false
namespace Go.Proofs.YtjbledomkmdkmaaGreat
open Go Go.AX
noncomputable section
local instance yh:AA:=Ap
section
variable {J:Aa} {r:DX}
structure PI where
 rb:Nat
 s1:Bp
 s2:Bp
 s3:Bp
def PI.l (p:PI):List Nat:=p.rb::(hs p.s1++(hs p.s2++hs p.s3))
structure Gv (J:Aa) (p:PI) (r:DX):Prop where
 cell:J[p.rb]?=some (.cells [.int .i64 (r.mu:Int),.slice p.s1.1 p.s1.2.1 p.s1.2.2,.slice p.s2.1 p.s2.2.1 p.s2.2.2,.slice p.s3.1 p.s3.2.1 p.s3.2.2] Lz true)
 sl:Ba J p.s1 r.sl
 gl:Ba J p.s2 r.gl
 qu:Ba J p.s3 r.qu
 ok:r.ok
 nd:p.l.Nodup
variable {p:PI}
abbrev FD (p:PI):Option Addr:=some ⟨p.rb,0,none⟩
theorem PI.m1 (p:PI) {b:Nat} (h:b ∈ hs p.s1):b ∈ p.l:=yJ _ (yf.2 (.inl h))
theorem PI.m2 (p:PI) {b:Nat} (h:b ∈ hs p.s2):b ∈ p.l:=yJ _ (yf.2 (.inr (yf.2 (.inl h))))
theorem PI.m3 (p:PI) {b:Nat} (h:b ∈ hs p.s3):b ∈ p.l:=yJ _ (yf.2 (.inr (yf.2 (.inr h))))
theorem Gv.Aw {J':Aa} (h:Gv J p r) (hs':∀ q ∈ p.l,J'[q]?=J[q]?):Gv J' p r:=
 ⟨(hs' _ zi).trans h.cell,h.sl.Aw fun b hb=>hs' b (p.m1 hb),h.gl.Aw fun b hb=>hs' b (p.m2 hb),h.qu.Aw fun b hb=>hs' b (p.m3 hb),h.ok,h.nd⟩
theorem Gv.lt (h:Gv J p r):∀ q ∈ p.l,q<J.length:=by
 intro q hq;rcases yL.1 hq with rfl | hq
 ·exact Af h.cell
 rcases yf.1 hq with hq | hq
 ·exact h.sl.lt q hq
 rcases yf.1 hq with hq | hq
 ·exact h.gl.lt q hq
 ·exact h.qu.lt q hq
theorem Gv.app (h:Gv J p r) (τ:Aa):Gv (J++τ) p r:=h.Aw fun q hq=>AT (h.lt q hq)
theorem Gv.GK (h:Gv J p r):Ak .i64 J p.rb 0=some (r.mu:Int):=by simp[Ak,D5,h.cell,Bn]
theorem Gv.E6 (h:Gv J p r):AR J p.rb 1=some (p.s1.1,p.s1.2.1,p.s1.2.2):=by simp[AR,D5,h.cell,ED]
theorem Gv.SE (h:Gv J p r):AR J p.rb 2=some (p.s2.1,p.s2.2.1,p.s2.2.2):=by simp[AR,D5,h.cell,ED]
theorem Gv.ZJ (h:Gv J p r):AR J p.rb 3=some (p.s3.1,p.s3.2.1,p.s3.2.2):=by simp[AR,D5,h.cell,ED]
theorem uw (a:Addr):J9 P Fk (.pointer (some a)) (.pointer none)=some false:=by kernel_rfl
theorem LP (k:Nat) (h:Gv J p r):AV (k+1) (FD p) J=some (.bool true,J):=by
 have:=h.ok.m1;rw[QV];simp only[uw,AI,yY,IT,IN,yl,h.GK];rw[xZ (by omega)]
theorem W8 (k:Nat) (h:Gv J p r):BV (k+2) (FD p) J=some (.int .i64 (r.mu:Int),J):=by
 rw[NM];simp only[LP k h,AI,Ao,yp,By,IN,yl,h.GK]
theorem FV {J J':Aa} (hl:J.length<=J'.length) (hq:∀ q,q<J.length->J'[q]?=J[q]?):∃ τ,J'=J++τ:=by
 refine ⟨J'.drop J.length, ?_⟩;apply zy;intro q;by_cases h:q<J.length
 ·rw[AT h,hq q h]
 ·rw[yD (by omega),zs];congr 1; omega
structure XS (Z:Aa) (h3 h6 top:Nat) (out:List Int):Prop where
 box:∃ s,Z[h3]?=some (.cells [.slice s.1 s.2.1 s.2.2] Gt true)/\Ba Z s out /\ ∀ b ∈ hs s,top<b
 rc:Z[h6]?=some (.loop 168 .ready (GU 0 26 [(3,.pointer (some ⟨h3,0,none⟩))]))
 h3t:h3<=top
 h6t:h6<=top
 ne:h3≠h6
 tl:top<Z.length
structure Q6 (h3 top:Nat) (Z Z':Aa):Prop where
 len:Z.length<=Z'.length
 same:∀ q,q<=top->q≠h3->Z'[q]?=Z[q]?
theorem Q6.refl (h3 top:Nat) (Z:Aa):Q6 h3 top Z Z:=⟨yj _,fun _ _ _=>rfl⟩
theorem Q6.trans {h3 top:Nat} {a b c:Aa} (h:Q6 h3 top a b) (g:Q6 h3 top b c):Q6 h3 top a c:=⟨zj h.len g.len,fun q h1 h2=>(g.same q h1 h2).trans (h.same q h1 h2)⟩
theorem Q6.app {h3 top:Nat} {Z:Aa} (ht:top<Z.length) (τ:Aa):Q6 h3 top Z (Z++τ):=⟨by simp,fun q h1 _=>AT (by omega)⟩
theorem XS.app {Z:Aa} {h3 h6 top:Nat} {out:List Int} (h:XS Z h3 h6 top out) (τ:Aa):XS (Z++τ) h3 h6 top out:=by
 obtain ⟨s,e,l,n⟩:=h.box;have h3t:=h.h3t; have h6t:=h.h6t; have tl:=h.tl;exact ⟨⟨s,by rw[AT (by omega)]; exact e,l.app τ,n⟩,by rw[AT (by omega)]; exact h.rc,h3t,h6t,h.ne,by rw[yi]; omega⟩
theorem XS.behind {Z Z':Aa} {h3 h6 top:Nat} {out:List Int} (h:XS Z h3 h6 top out) (hl:Z.length<=Z'.length) (hq:∀ q,q<Z.length->Z'[q]?=Z[q]?):XS Z' h3 h6 top out:=by
 obtain ⟨s,e,l,n⟩:=h.box;have h3t:=h.h3t; have h6t:=h.h6t; have tl:=h.tl;exact ⟨⟨s,by rw[hq _ (by omega)]; exact e,l.Aw fun b hb=>hq b (l.lt b hb),n⟩,by rw[hq _ (by omega)]; exact h.rc,h3t,h6t,h.ne,by omega⟩
theorem NG {ρ:Type} {Z:Aa} {h:Nat} {f:FuncId} {o n:ti} {g:Bc} (hr:Z[h]?=some (.loop f o g)) (K:FuncId->Bc->Aa->Option ρ):Jo h Z o n K=K f g (Z.set h (.loop f n g)):=by
 unfold Jo; rw[hr]; simp
theorem gQ (k:Nat) {Z:Aa} {h3 h6 top:Nat} {out:List Int} (h:XS Z h3 h6 top out) (ho:out.length<=1000) (hk:1000<k) (z0 z1 z2:Int) {b x:Nat} {v:Int} (hv:Ak .i64 Z b x=some v) (h0:v≠0) (hb6:b≠h6):
  ∃ Z',GS (k+2) (Co (k+2)) h6 h3 z0 z1 z2 (some ⟨b,x,none⟩) Z=some (.bool true,Z')/\XS Z' h3 h6 top (Jr out v)/\Q6 h3 top Z Z':=by
 obtain ⟨s,e,l,n⟩:=h.box;have h3t:=h.h3t; have h6t:=h.h6t; have tl:=h.tl;have hn3:∀ q ∈ hs s,q≠h3/\q≠h6:=fun q hq=>by have:=n q hq; omega
 obtain ⟨bz,hbz⟩:∃ bz,Au.loop 168 .busy (GU 0 26 [(3,.pointer (some ⟨h3,0,none⟩))])=bz:=⟨_,rfl⟩;obtain ⟨Z1_,hμ1⟩:∃ Z1_,Z.set h6 bz=Z1_:=⟨_,rfl⟩;have l1:Z1_.length=Z.length:=by rw[<- hμ1]; simp
 have q1:∀ q,q≠h6->Z1_[q]?=Z[q]?:=fun q hq=>by rw[<- hμ1,yc (yW hq)]
 have c1:Z1_[h6]?=some (.loop 168 .busy (GU 0 26 [(3,.pointer (some ⟨h3,0,none⟩))])):=by rw[<- hμ1,yo (by omega),hbz]
 have e1:Z1_[h3]?=some (.cells [.slice s.1 s.2.1 s.2.2] Gt true):=by rw[q1 _ h.ne]; exact e
 have li1:Ba Z1_ s out:=l.Aw fun q hq=>q1 q (hn3 q hq).2;have ldb:AR Z1_ h3 0=some (s.1,s.2.1,s.2.2):=by simp[AR,D5,e1,ED]
 have ldv:Ak .i64 Z1_ b x=some v:=by
  have:Z1_[b]?=Z[b]?:=q1 b hb6;simp only[Ak,D5,this] at hv ⊢;exact hv
 have hC:=Wx k li1 (by omega) (by omega) v;unfold GS;rw[NG h.rc,hbz,hμ1];simp only[ldb,AI,ldv,hC,Ao];by_cases hm:v ∈ out
 ·rw[xZ hm];simp only[yp,By,AI,ye];rw[NG c1];have ea:Jr out v=out:=by unfold Jr; rw[yk (.inr hm)]
  refine ⟨_,rfl, ?_, ?_⟩
  ·rw[ea];refine ⟨⟨s,by rw[yc h.ne.symm]; exact e1,li1.Aw fun q hq=>yc (hn3 q hq).2.symm,n⟩,yo (by omega),h3t,h6t,h.ne,by simp; omega⟩
  ·refine ⟨by simp; omega,fun q hq hn=>?_⟩;by_cases q6:q=h6
   ·subst q6; rw[yo (by omega),h.rc]
   ·rw[yc (yW q6),q1 q q6]
 ·rw[xY hm];have ea:Jr out v=out++[v]:=by unfold Jr; rw[ym (fun hh=>hh.elim h0 hm)]
  obtain ⟨s',Z2_,e2,li2,m2⟩:=li1.push v Aj (by omega);have hs':∀ q ∈ hs s',top<q:=fun q hq=>(m2.new q hq).elim (n q) fun hh=>by omega
  have b2:Z2_[h3]?=some (.cells [.slice s.1 s.2.1 s.2.2] Gt true):=m2.L5 e1 fun hm=>(hn3 _ hm).1 rfl;have c2:Z2_[h6]?=some (.loop 168 .busy (GU 0 26 [(3,.pointer (some ⟨h3,0,none⟩))])):=m2.L5 c1 fun hm=>(hn3 _ hm).2 rfl;have len2:=m2.len;have st:CT Z2_ h3 0 (.slice s'.1 s'.2.1 s'.2.2)=some (Z2_.set h3 (.cells [.slice s'.1 s'.2.1 s'.2.2] Gt true)):=by simp[CT,b2]
  have c3:(Z2_.set h3 (.cells [.slice s'.1 s'.2.1 s'.2.2] Gt true))[h6]?=some (.loop 168 .busy (GU 0 26 [(3,.pointer (some ⟨h3,0,none⟩))])):=by rw[yc h.ne]; exact c2
  simp only[yY,IT,AI,Ae,e2,st,ye];rw[NG c3];have ne36:=h.ne;refine ⟨_,rfl, ?_, ?_⟩
  ·rw[ea];refine ⟨⟨s', ?_,li2.Aw fun q hq=>?_,hs'⟩,yo (by simp; omega),h3t,h6t,h.ne,by simp; omega⟩
   ·rw[yc h.ne.symm,yo (by omega)]
   ·have:=hs' q hq;rw[yc (by omega),yc (by omega)]
  ·refine ⟨by simp; omega,fun q hq hn=>?_⟩;by_cases q6:q=h6
   ·subst q6; rw[yo (by simp; omega),h.rc]
   ·rw[yc (yW q6),yc (yW hn),m2.same q (by omega) (fun hm=>by have:=n q hm; omega),q1 q q6]
theorem OQ (k:Nat) (hk:1000<k) {h3 h6 top:Nat} (i1:Int) (sl:Bp) (l:List Int) (hl:l.length<=200):∀ (n x f:Nat) (Z:Aa) (out:List Int),XS Z h3 h6 top out->Ba Z sl l->(∀ b ∈ hs sl,b<=top/\b≠h3/\b≠h6)->x+n=l.length->out.length+n<=1000->n<f ->
  ∃ Z',CP (k+3) f (.func (.yield h6) #[] #[]) i1 sl.1 l.length l.length ((l.length:Nat):Int) (x:Int) Z=some (.exit 2,[],Z')/\XS Z' h3 h6 top ((l.drop x).foldl Jr out)/\Q6 h3 top Z Z'/\((l.drop x).foldl Jr out).length<=out.length+n
 | n,x,0,Z,out,h,hli,hb,hx,ho,hf=>by omega
 | 0,x,f+1,Z,out,h,hli,hb,hx,ho,hf=>by
   rw[Fg];simp only[xY (show ¬ (x:Int)<((l.length:Nat):Int) by omega),By];rw[yS (by omega)];exact ⟨Z,rfl,h,Q6.refl _ _ _,by simp⟩
 | n+1,x,f+1,Z,out,h,hli,hb,hx,ho,hf=>by
   obtain ⟨b,e,l1,_⟩:=hli.ld (x:=x) (by omega);have tl:=h.tl;have hbt:=hb b (Mb e);have qx:(0<=(x:Int)/\(x:Int)<((l.length:Nat):Int))=True:=zl (by omega);have w1:Ar ((x:Int)+1)=((x+1:Nat):Int):=Ah (by unfold AK; omega);have hd:l.drop x=l.getD x 0::l.drop (x+1):=by
    rw[yO (by omega),yd,yg (by omega)]; rfl
   rw[hd,zF];rw[Fg];simp only[xZ (show (x:Int)<((l.length:Nat):Int) by omega),IT,Ae,EV,AI];have hbox:∃ y z,((bif i1 == (0:Int) then (if (16:Int)=0 then none else if (16:Int)=0 then none else (CT (Z++[Au.cells [.int .i64 i1,.int .i64 0,.int .i64 (x:Int)] Am true]) Z.length (0+1) (.int .i64 (Ar ((x:Int).tdiv (16:Int))))).bind fun s19=>(CT s19 Z.length (0+2) (.int .i64 ((x:Int).tmod (16:Int)))).bind fun s20=>some (.normal,[],s20)) else (some (.normal,[],Z++[Au.cells [.int .i64 i1,.int .i64 0,.int .i64 (x:Int)] Am true])):Option Bl))=some (.normal,[],Z++[Au.cells [.int .i64 i1,.int .i64 y,.int .i64 z] Am true]):=by
    cases h0:i1 == (0:Int) with
    | true=>
      simp only[IT,show ((16:Int)=0)=False from by simp,yq];refine ⟨Ar ((x:Int).tdiv 16),(x:Int).tmod 16, ?_⟩;simp only[CT,yK,ze,zo,IN,show 1<0+1+1+1 from by omega,ye,AI,zW,zX];rw[zS _ _ (yj _)];simp
    | false=>exact ⟨0,(x:Int),rfl⟩
   obtain ⟨y,z,eb⟩:=hbox;rw[eb];obtain ⟨B,hB⟩:∃ B,Au.cells [.int .i64 i1,.int .i64 y,.int .i64 z] Am true=B:=⟨_,rfl⟩;have h1:=h.app [B];have hli1:=hli.app [B];have l1':Ak .i64 (Z++[B]) b x=some (l.getD x 0):=by rw[Jm _ _ _ (by omega)]; exact l1
   have f1:Q6 h3 top Z (Z++[B]):=Q6.app tl _;rw[hB];simp only[AI,ye,qx,e,xQ,yH,IN,l1',w1];by_cases hz:l.getD x 0=0
   ·have ea:Jr out (l.getD x 0)=out:=by unfold Jr; rw[yk (.inl hz)]
    rw[ea];obtain ⟨Z',e2,h2,f2,n2⟩:=OQ k hk i1 sl l hl n (x+1) f _ out h1 hli1 hb (by omega) (by omega) (by omega);rw[e] at e2;refine ⟨Z', ?_,h2,f1.trans f2,by omega⟩;rw[show (l.getD x 0 != 0)=false from by rw[hz]; rfl];simp only[By,AI];exact e2
   ·have hBl:∀ o v,o<3->[i1,y,z][o]?=some v->Ak .i64 (Z++[B]) Z.length o=some v:=by
     intro o v ho hv;rw[<- hB,Bh]
     match o,ho with
     | 0,_=>cases hv; rfl
     | 1,_=>cases hv; rfl
     | 2,_=>cases hv; rfl
    obtain ⟨Z2_,e2,h2,f2⟩:=gQ k h1 (by omega) hk i1 y z l1' hz hbt.2.2;have hli2:Ba Z2_ sl l:=hli1.Aw fun q hq=>f2.same q (hb q hq).1 (hb q hq).2.1;have hlen:(Jr out (l.getD x 0)).length<=out.length+1:=by
     unfold Jr; split
     ·omega
     ·simp
    obtain ⟨Z',e3,h3',f3,n3⟩:=OQ k hk i1 sl l hl n (x+1) f _ _ h2 hli2 hb (by omega) (by omega) (by omega);rw[e] at e3;refine ⟨Z', ?_,h3',(f1.trans f2).trans f3,by omega⟩;rw[show (l.getD x 0 != 0)=true from zr.2 hz];simp only[IT,hBl 0 i1 (by omega) rfl,hBl 1 y (by omega) rfl,hBl 2 z (by omega) rfl,AI];rw[Lb _ _ _ _ _ _ _ _ h1.rc,e2];simp only[AI,Ao,yp,By];exact e3
theorem dC (k:Nat) (hk:1000<k) (h:Gv J p r):∃ τ s,CJ (k+6) (FD p) J=some (.slice s.1 s.2.1 s.2.2,J++τ)/\Ba (J++τ) s (Eu r) /\ ∀ b ∈ hs s,J.length<=b:=by
 have hok:=h.ok;have hs16:=hok.sl;have hm4:=hok.m4;have hg:=hok.gl;have hq:=hok.qu;have hpl:=h.lt;rw[PX];have em:AV (k+5) (FD p) J=_:=LP (k+4) h;simp only[em,AI,Ao,yp,By,Ae];rw[Mp];simp only[Ae,AI,fc,IT];rw[ID];rw[KJ];simp only[Ae];obtain ⟨O1,hO1⟩:∃ O,Au.cells [.slice none 0 0] Gt true=O:=⟨_,rfl⟩;obtain ⟨O2,hO2⟩:∃ O,Au.cells [.pointer (FD p)] Fk true=O:=⟨_,rfl⟩;obtain ⟨O3,hO3⟩:∃ O,Au.loop 168 .ready (GU 0 26 [(3,.pointer (some ⟨J.length,0,none⟩))])=O:=⟨_,rfl⟩;rw[hO1,hO2,hO3];obtain ⟨Z,hμ⟩:∃ Z,J++[O1]++[O2]++[O3]=Z:=⟨_,rfl⟩;have lm:Z.length=J.length+3:=by rw[<- hμ]; simp
 have hμ':Z=J++[O1,O2,O3]:=by rw[<- hμ]; simp
 have lb:(J++[O1]++[O2]).length=J.length+2:=by simp
 have la:(J++[O1]).length=J.length+1:=by simp
 rw[hμ,lb,la];have hμp:Gv Z p r:=by rw[hμ']; exact h.app _
 have ldp:BR Z (J.length+1) 0=some (FD p):=by
  rw[hμ'];simp only[BR,D5];rw[yD (by omega),show J.length+1-J.length=1 from by omega];simp only[yB,yy,<- hO2];rfl
 simp only[AI,ldp,IN,yl,hμp.E6,hμp.SE,hμp.ZJ];obtain ⟨O4,hO4⟩:∃ O,Au.cells [.slice p.s1.1 p.s1.2.1 p.s1.2.2,.slice p.s2.1 p.s2.2.1 p.s2.2.2,.slice p.s3.1 p.s3.2.1 p.s3.2.2] Gt true=O:=⟨_,rfl⟩;rw[hO4];have hm1:Gv (Z++[O4]) p r:=hμp.app _;have S0:XS (Z++[O4]) J.length (J.length+2) (J.length+3) []:=by
  refine ⟨⟨(none,0,0), ?_,Ba.nil _,fun b hb=>by simp[hs] at hb⟩, ?_,by omega,by omega,by omega,by simp[lm]⟩
  ·rw[hμ',ya,yD (yj _),Aaf,<- hO1]; rfl
  ·rw[hμ',ya,yD (by omega),show J.length+2-J.length=2 from by omega,<- hO3]; rfl
 have c4:(Z++[O4])[J.length+3]?=some O4:=by rw[<- lm]; simp
 have bnd:∀ b ∈ p.l,b<=J.length+3/\b≠J.length/\b≠J.length+2:=fun b hb=>by have:=hpl b hb; omega
 have f1:=hm1.sl.form;have f2:=hm1.gl.form;have f3:=hm1.qu.form;have all:r.all.length<=144:=by unfold DX.all; rw[yi,yi]; omega
 obtain ⟨Z1_,e1,S1,F1,n1⟩:=OQ (k+1) (by omega) (h3:=J.length) (h6:=J.length+2) (top:=J.length+3) 0 p.s1 r.sl (by omega) r.sl.length 0 (k+4) _ [] S0 hm1.sl (fun b hb=>bnd b (p.m1 hb)) (by omega) (by simp; omega) (by omega);have k1:∀ q ∈ p.l,Z1_[q]?=(Z++[O4])[q]?:=fun q hq=>F1.same q (bnd q hq).1 (bnd q hq).2.1;have p1:=hm1.Aw k1;have d1:Z1_[J.length+3]?=some O4:=(F1.same _ (yj _) (by omega)).trans c4;obtain ⟨Z2_,e2,S2,F2,n2⟩:=OQ (k+1) (by omega) (h3:=J.length) (h6:=J.length+2) (top:=J.length+3) 1 p.s2 r.gl (by omega) r.gl.length 0 (k+4) _ _ S1 p1.gl (fun b hb=>bnd b (p.m2 hb)) (by omega) (by simp at n1 ⊢; omega) (by omega);have k2:∀ q ∈ p.l,Z2_[q]?=Z1_[q]?:=fun q hq=>F2.same q (bnd q hq).1 (bnd q hq).2.1;have p2:=p1.Aw k2;have d2:Z2_[J.length+3]?=some O4:=(F2.same _ (yj _) (by omega)).trans d1;obtain ⟨Z3_,e3,S3,F3,n3⟩:=OQ (k+1) (by omega) (h3:=J.length) (h6:=J.length+2) (top:=J.length+3) 2 p.s3 r.qu (by omega) r.qu.length 0 (k+4) _ _ S2 p2.qu (fun b hb=>bnd b (p.m3 hb)) (by omega) (by simp at n1 n2 ⊢; omega) (by omega);have hfold:((List.drop 0 r.qu).foldl Jr ((List.drop 0 r.gl).foldl Jr ((List.drop 0 r.sl).foldl Jr [])))=Eu r:=by
  unfold Eu DX.all;simp only[yV,Aa6]
 rw[hfold] at S3;have ZV:∀ (ν:Aa),ν[J.length+3]?=some O4->AR ν (J.length+3) 0=some (p.s1.1,p.s1.2.1,p.s1.2.2)/\AR ν (J.length+3) 1=some (p.s2.1,p.s2.2.1,p.s2.2.2)/\AR ν (J.length+3) 2=some (p.s3.1,p.s3.2.1,p.s3.2.2):=by
  intro ν hν;simp[AR,D5,hν,<- hO4,ED]
 have w1:Ar ((0:Int)+1)=1:=by decide
 have w2:Ar ((1:Int)+1)=2:=by decide
 have w3:Ar ((2:Int)+1)=3:=by decide
 have s11:p.s1.2.1=r.sl.length:=by rw[f1]
 have s12:p.s1.2.2=r.sl.length:=by rw[f1]
 have s21:p.s2.2.1=r.gl.length:=by rw[f2]
 have s22:p.s2.2.2=r.gl.length:=by rw[f2]
 have s31:p.s3.2.1=r.qu.length:=by rw[f3]
 have s32:p.s3.2.2=r.qu.length:=by rw[f3]
 rw[show ((0:Nat):Int)=0 from rfl] at e1 e2 e3;have eL:CO (k+4) (k+4) (.func (.yield (J.length+2)) #[] #[]) (J.length+3) ((3:Nat):Int) 0 (Z++[O4])=some (.exit 0,[],Z3_):=by
  obtain ⟨a1,_,_⟩:=ZV _ c4;obtain ⟨_,a2,_⟩:=ZV _ d1;obtain ⟨_,_,a3⟩:=ZV _ d2;rw[B8];simp only[show decide ((0:Int)<((3:Nat):Int))=true from rfl,IT,show ((0:Int)<=0/\(0:Int)<((3:Nat):Int))=True from by simp,ye,Aau,zw,IN,a1,AI,s11,s12,e1,w1];rw[B8];simp only[show decide ((1:Int)<((3:Nat):Int))=true from rfl,IT,show ((0:Int)<=1/\(1:Int)<((3:Nat):Int))=True from by simp,ye,show (1:Int).toNat=1 from rfl,yH,IN,a2,AI,s21,s22,e2,w2];rw[B8];simp only[show decide ((2:Int)<((3:Nat):Int))=true from rfl,IT,show ((0:Int)<=2/\(2:Int)<((3:Nat):Int))=True from by simp,ye,show (2:Int).toNat=2 from rfl,yH,IN,a3,AI,s31,s32,e3,w3];rw[B8];simp only[show decide ((3:Int)<((3:Nat):Int))=false from rfl,By]
 obtain ⟨s,hbox,hli,hnew⟩:=S3.box;have hrc:=S3.rc;have len3:Z.length+1<=Z3_.length:=by
  have g1:=F1.len;have g2:=F2.len;have g3:=F3.len;simp at g1;omega
 obtain ⟨τ,hτ⟩:∃ τ,Z3_.set (J.length+2) .dead=J++τ:=by
  refine FV (by simp; omega) fun q hq=>?_;rw[yc (by omega),F3.same q (by omega) (by omega),F2.same q (by omega) (by omega),F1.same q (by omega) (by omega),hμ',ya,AT hq]
 refine ⟨τ,s, ?_, ?_,fun b hb=>by have:=hnew b hb; omega⟩
 ·rw[lm];simp only[eL,ye,AI];unfold N1;rw[hrc];have:AR (Z3_.set (J.length+2) .dead) J.length 0=some (s.1,s.2.1,s.2.2):=by
   simp only[AR,D5];rw[yc (by omega),hbox];rfl
  rw[hτ] at this;simp only[ye,hτ,this,AI]
 ·rw[<- hτ];exact hli.Aw fun q hq=>yc (by have:=hnew q hq; omega)
end
section
variable {J:Aa} {m:HM} {r:DX} {s:TC} {i:Cd} {p:PI}
structure CI where
 cb:Nat
 tb:Nat
 wb:Nat
 ls:Bp
 lf:Bp
def CI.l (c:CI):List Nat:=c.cb::c.tb::c.wb::(hs c.ls++hs c.lf)
structure vg (c:CI):Prop where
 ab:c.cb≠c.tb
 ac:c.cb≠c.wb
 bc:c.tb≠c.wb
 al:∀ q ∈ hs c.ls,q≠c.cb/\q≠c.tb/\q≠c.wb/\q ∉ hs c.lf
 ar:∀ q ∈ hs c.lf,q≠c.cb/\q≠c.tb/\q≠c.wb
def Gb (c:CI) (hb rb:Nat) (s:TC):List Value:=[.pointer (some ⟨hb,0,none⟩),.pointer (some ⟨rb,0,none⟩),.bool s.look,.int .i64 s.born,.int .i64 s.ph,.pointer (some ⟨c.tb,0,none⟩),.slice c.ls.1 c.ls.2.1 c.ls.2.2,.slice c.lf.1 c.lf.2.1 c.lf.2.2,.int .i64 s.freed]
structure FA (J:Aa) (c:CI) (hb rb nb:Nat) (s:TC):Prop where
 cell:J[c.cb]?=some (.cells (Gb c hb rb s) GD true)
 tab:Dv J c.tb c.wb (32*nb) 2 s.ws
 ls:Ba J c.ls s.list
 lf:Ba J c.lf s.left
 sep:vg c
variable {c:CI} {hb rb nb:Nat}
abbrev Dd (c:CI):Option Addr:=some ⟨c.cb,0,none⟩
theorem CI.m0 (c:CI):c.cb ∈ c.l:=zi
theorem CI.m1 (c:CI):c.tb ∈ c.l:=yJ _ zi
theorem CI.m2 (c:CI):c.wb ∈ c.l:=yJ _ (yJ _ zi)
theorem CI.m3 (c:CI) {q:Nat} (h:q ∈ hs c.ls):q ∈ c.l:=yJ _ (yJ _ (yJ _ (yf.2 (.inl h))))
theorem CI.m4 (c:CI) {q:Nat} (h:q ∈ hs c.lf):q ∈ c.l:=yJ _ (yJ _ (yJ _ (yf.2 (.inr h))))
theorem CI.mem {c:CI} {q:Nat} (h:q ∈ c.l):q=c.cb\/q=c.tb\/q=c.wb\/q ∈ hs c.ls\/q ∈ hs c.lf:=by
 unfold CI.l at h;simp only[yL,yf] at h;exact h
theorem FA.Aw {J':Aa} (h:FA J c hb rb nb s) (hq:∀ q ∈ c.l,J'[q]?=J[q]?):FA J' c hb rb nb s:=
 ⟨(hq _ c.m0).trans h.cell,h.tab.same (hq _ c.m1) (hq _ c.m2),h.ls.Aw fun b hb=>hq b (c.m3 hb),h.lf.Aw fun b hb=>hq b (c.m4 hb),h.sep⟩
theorem FA.lt (h:FA J c hb rb nb s):∀ q ∈ c.l,q<J.length:=by
 intro q hq;rcases CI.mem hq with rfl | rfl | rfl | hq | hq
 ·exact Af h.cell
 ·exact h.tab.lt.1
 ·exact h.tab.lt.2
 ·exact h.ls.lt q hq
 ·exact h.lf.lt q hq
theorem FA.app (h:FA J c hb rb nb s) (τ:Aa):FA (J++τ) c hb rb nb s:=h.Aw fun q hq=>AT (h.lt q hq)
theorem FA.GK (h:FA J c hb rb nb s):BR J c.cb 0=some (some ⟨hb,0,none⟩):=by simp[BR,D5,h.cell,Gb,HD]
theorem FA.E6 (h:FA J c hb rb nb s):BR J c.cb 1=some (some ⟨rb,0,none⟩):=by simp[BR,D5,h.cell,Gb,HD]
theorem FA.SE (h:FA J c hb rb nb s):Tq J c.cb 2=some s.look:=by simp[Tq,D5,h.cell,Gb,DK]
theorem FA.ZV (h:FA J c hb rb nb s):Ak .i64 J c.cb 4=some s.ph:=by simp[Ak,D5,h.cell,Gb,Bn]
theorem FA.wv (h:FA J c hb rb nb s):BR J c.cb 5=some (some ⟨c.tb,0,none⟩):=by simp[BR,D5,h.cell,Gb,HD]
theorem FA.pz (h:FA J c hb rb nb s):AR J c.cb 6=some (c.ls.1,s.list.length,s.list.length):=by
 have:=h.ls.form;have e1:c.ls.2.1=s.list.length:=by rw[this]
 have e2:c.ls.2.2=s.list.length:=by rw[this]
 simp[AR,D5,h.cell,Gb,ED,e1,e2]
theorem FA.wQ (h:FA J c hb rb nb s):AR J c.cb 7=some (c.lf.1,s.left.length,s.left.length):=by
 have:=h.lf.form;have e1:c.lf.2.1=s.left.length:=by rw[this]
 have e2:c.lf.2.2=s.left.length:=by rw[this]
 simp[AR,D5,h.cell,Gb,ED,e1,e2]
theorem FA.wR (h:FA J c hb rb nb s):Ak .i64 J c.cb 8=some s.freed:=by simp[Ak,D5,h.cell,Gb,Bn]
theorem FA.XE {Z:Aa} {c c':CI} {s':TC} (htb:c'.tb=c.tb) (hwb:c'.wb=c.wb) (hcb:c'.cb=c.cb) (hl:c.cb<Z.length) (tab:Dv Z c'.tb c'.wb (32*nb) 2 s'.ws) (ls:Ba Z c'.ls s'.list) (lf:Ba Z c'.lf s'.left) (sep:vg c'):FA (Z.set c.cb (.cells (Gb c' hb rb s') GD true)) c' hb rb nb s':=by
 refine ⟨by rw[hcb,yo hl],tab.same ?_ ?_,ls.Aw fun q hq=>?_,lf.Aw fun q hq=>?_,sep⟩
 ·rw[<- hcb]; exact yc sep.ab
 ·rw[<- hcb]; exact yc sep.ac
 ·rw[<- hcb]; exact yc (sep.al q hq).1.symm
 ·rw[<- hcb]; exact yc (sep.ar q hq).1.symm
theorem FA.qz (h:FA J c hb rb nb s) (v:Int):∃ J',CT J c.cb 4 (.int .i64 v)=some J'/\FA J' c hb rb nb { s with ph:=v }/\Mv c.l c.l J J':=by
 refine ⟨J.set c.cb (.cells (Gb c hb rb { s with ph:=v }) GD true),by simp[CT,h.cell,Gb],FA.XE rfl rfl rfl (Af h.cell) h.tab h.ls h.lf h.sep,Mv.set _ _ c.m0⟩
theorem FA.gq (h:FA J c hb rb nb s) (v:Int):∃ J',CT J c.cb 8 (.int .i64 v)=some J'/\FA J' c hb rb nb { s with freed:=v }/\Mv c.l c.l J J':=by
 refine ⟨J.set c.cb (.cells (Gb c hb rb { s with freed:=v }) GD true),by simp[CT,h.cell,Gb],FA.XE rfl rfl rfl (Af h.cell) h.tab h.ls h.lf h.sep,Mv.set _ _ c.m0⟩
theorem CI.vV {c:CI} {s':Bp} {L:List Nat} {a b:Aa} (h:Mv L (hs s') a b) (hL:∀ q ∈ L,q ∈ c.l):Mv c.l ({ c with ls:=s' }:CI).l a b:=
 h.wide hL fun q hq=>by
  rcases CI.mem hq with rfl | rfl | rfl | hq | hq
  ·exact .inl c.m0
  ·exact .inl c.m1
  ·exact .inl c.m2
  ·exact .inr (.inl hq)
  ·exact .inl (c.m4 hq)
theorem CI.vU {c:CI} {s':Bp} {L:List Nat} {a b:Aa} (h:Mv L (hs s') a b) (hL:∀ q ∈ L,q ∈ c.l):Mv c.l ({ c with lf:=s' }:CI).l a b:=
 h.wide hL fun q hq=>by
  rcases CI.mem hq with rfl | rfl | rfl | hq | hq
  ·exact .inl c.m0
  ·exact .inl c.m1
  ·exact .inl c.m2
  ·exact .inl (c.m3 hq)
  ·exact .inr (.inl hq)
theorem FA.kH {Z:Aa} (h:FA J c hb rb nb s) {s':Bp} {l':List Int} {L:List Nat} (hL:∀ q ∈ L,q ∈ hs c.ls) (hm:Mv L (hs s') J Z) (hl:Ba Z s' l'):
  ∃ J',CT Z c.cb 6 (.slice s'.1 s'.2.1 s'.2.2)=some J'/\FA J' { c with ls:=s' } hb rb nb { s with list:=l' }/\Mv c.l ({ c with ls:=s' }:CI).l J J':=by
 have lt:=h.lt;have hn:∀ q ∈ L,q≠c.cb/\q≠c.tb/\q≠c.wb/\q ∉ hs c.lf:=fun q hq=>h.sep.al q (hL q hq);have cell:Z[c.cb]?=_:=hm.L5 h.cell fun hm'=>(hn _ hm').1 rfl;have new:∀ q ∈ hs s',q ∈ hs c.ls\/J.length<=q:=fun q hq=>(hm.new q hq).imp (hL q) id;refine ⟨Z.set c.cb (.cells (Gb { c with ls:=s' } hb rb { s with list:=l' }) GD true),by simp[CT,cell,Gb], ?_,(CI.vV hm fun q hq=>c.m3 (hL q hq)).trans (Mv.set _ _ (CI.m0 { c with ls:=s' }))⟩;refine FA.XE (c:=c) rfl rfl rfl (Af cell) (h.tab.same (hm.same _ h.tab.lt.1 fun hm'=>(hn _ hm').2.1 rfl) (hm.same _ h.tab.lt.2 fun hm'=>(hn _ hm').2.2.1 rfl)) hl (h.lf.Aw fun q hq=>hm.same q (h.lf.lt q hq) fun hm'=>(hn q hm').2.2.2 hq) ⟨h.sep.ab,h.sep.ac,h.sep.bc,fun q hq=>?_,h.sep.ar⟩;rcases new q hq with h1 | h1
 ·exact h.sep.al q h1
 ·refine ⟨?_, ?_, ?_, ?_⟩
  ·have:=lt _ c.m0; intro e; have e:q=c.cb:=e; omega
  ·have:=lt _ c.m1; intro e; have e:q=c.tb:=e; omega
  ·have:=lt _ c.m2; intro e; have e:q=c.wb:=e; omega
  ·intro hm'; have:=h.lf.lt q hm'; omega
theorem FA.kG {Z:Aa} (h:FA J c hb rb nb s) {s':Bp} {l':List Int} {L:List Nat} (hL:∀ q ∈ L,q ∈ hs c.lf) (hm:Mv L (hs s') J Z) (hl:Ba Z s' l'):
  ∃ J',CT Z c.cb 7 (.slice s'.1 s'.2.1 s'.2.2)=some J'/\FA J' { c with lf:=s' } hb rb nb { s with left:=l' }/\Mv c.l ({ c with lf:=s' }:CI).l J J':=by
 have lt:=h.lt;have hn:∀ q ∈ L,q≠c.cb/\q≠c.tb/\q≠c.wb/\q ∉ hs c.ls:=fun q hq=>⟨(h.sep.ar q (hL q hq)).1,(h.sep.ar q (hL q hq)).2.1,(h.sep.ar q (hL q hq)).2.2,fun hm'=>(h.sep.al q hm').2.2.2 (hL q hq)⟩;have cell:Z[c.cb]?=_:=hm.L5 h.cell fun hm'=>(hn _ hm').1 rfl;have new:∀ q ∈ hs s',q ∈ hs c.lf\/J.length<=q:=fun q hq=>(hm.new q hq).imp (hL q) id;refine ⟨Z.set c.cb (.cells (Gb { c with lf:=s' } hb rb { s with left:=l' }) GD true),by simp[CT,cell,Gb], ?_,(CI.vU hm fun q hq=>c.m4 (hL q hq)).trans (Mv.set _ _ (CI.m0 { c with lf:=s' }))⟩;refine FA.XE (c:=c) rfl rfl rfl (Af cell) (h.tab.same (hm.same _ h.tab.lt.1 fun hm'=>(hn _ hm').2.1 rfl) (hm.same _ h.tab.lt.2 fun hm'=>(hn _ hm').2.2.1 rfl)) (h.ls.Aw fun q hq=>hm.same q (h.ls.lt q hq) fun hm'=>(hn q hm').2.2.2 hq) hl ⟨h.sep.ab,h.sep.ac,h.sep.bc,fun q hq=>?_,fun q hq=>?_⟩
 ·obtain ⟨a1,a2,a3,a4⟩:=h.sep.al q hq;refine ⟨a1,a2,a3,fun hm'=>?_⟩;rcases new q hm' with h1 | h1
  ·exact a4 h1
  ·have:=h.ls.lt q hq; omega
 ·rcases new q hq with h1 | h1
  ·exact h.sep.ar q h1
  ·refine ⟨?_, ?_, ?_⟩
   ·have:=lt _ c.m0; intro e; have e:q=c.cb:=e; omega
   ·have:=lt _ c.m1; intro e; have e:q=c.tb:=e; omega
   ·have:=lt _ c.m2; intro e; have e:q=c.wb:=e; omega
theorem FA.q9 {J':Aa} {ws:List (BitVec 64)} (h:FA J c hb rb nb s) (ht:Dv J' c.tb c.wb (32*nb) 2 ws) (hm:Mv [c.tb,c.wb] [c.tb,c.wb] J J'):FA J' c hb rb nb { s with ws:=ws }/\Mv c.l c.l J J':=by
 have hn:∀ q,q≠c.tb->q≠c.wb->q ∉ [c.tb,c.wb]:=fun q h1 h2 hq=>by simp at hq; exact hq.elim h1 h2
 refine ⟨⟨hm.L5 h.cell (hn _ h.sep.ab h.sep.ac),ht,h.ls.Aw fun q hq=>hm.same q (h.ls.lt q hq) (hn _ (h.sep.al q hq).2.1 (h.sep.al q hq).2.2.1),h.lf.Aw fun q hq=>hm.same q (h.lf.lt q hq) (hn _ (h.sep.ar q hq).2.1 (h.sep.ar q hq).2.2),h.sep⟩,hm.wide (fun q hq=>?_) fun q hq=>.inl hq⟩;simp at hq;rcases hq with rfl | rfl
 ·exact c.m1
 ·exact c.m2
theorem wJ (a:Addr):J9 P Ol (.pointer (some a)) (.pointer none)=some false:=by kernel_rfl
theorem vA (a:Addr):J9 P E7 (.pointer (some a)) (.pointer none)=some false:=by kernel_rfl
theorem HH (k:Nat) (h:FA J c hb rb nb s):AE (k+1) (Dd c) J=some (.bool true,J):=by
 rw[Ui];simp only[wJ,AI,yY,IT,IN,yl,h.GK,vA]
theorem tB (k:Nat) (h:FA J c hb rb nb s) {j:Nat} (hj:j<32*nb):Cu (k+4) (Dd c) ((2*j:Nat):Int) J=some (.int .i64 (CR 2 s.ws j:Int),J):=by
 have ht:=h.tab.top;have e1:((2*j:Nat):Int).tdiv 2=(j:Int):=by
  rw[show ((2:Int))=((2:Nat):Int) from rfl,Xd]; congr 1; omega
 have e2:Ar (j:Int)=(j:Int):=Ah (by unfold AK; omega);rw[VS];simp only[AI,IN,yl,h.wv,show ((2:Int)=0)=False from by simp,yq,e1,e2,gN k h.tab,Ag];rw[yk (by omega),xQ]
theorem iS (k:Nat) (h:FA J c hb rb m.bls.length s) {a:Int} (ha:AU m a=true):Cu (k+4) (Dd c) a J=some (.int .i64 (F5 s a:Int),J):=by
 obtain ⟨j,rfl,hs⟩:=Bd ha;rw[tB k h hs.1];unfold F5;rw[show ((2*j:Nat):Int).toNat/2=j from by omega]
theorem Zk (k:Nat) (h:FA J c hb rb nb s) {j v:Nat} (hj:j<32*nb) (hv:v<4):∃ J',C0 (k+10) (Dd c) ((2*j:Nat):Int) (v:Int) J=some (.tuple #[],J')/\FA J' c hb rb nb (Ij s ((2*j:Nat):Int) v)/\Mv c.l c.l J J':=by
 have ht:=h.tab.top;have e1:((2*j:Nat):Int).tdiv 2=(j:Int):=by
  rw[show ((2:Int))=((2:Nat):Int) from rfl,Xd]; congr 1; omega
 have e2:Ar (j:Int)=(j:Int):=Ah (by unfold AK; omega);obtain ⟨τ,es⟩:=Yi k h.tab hj (v:=v) hv;have hp:=(h.tab.app τ).put h.sep.bc j v;obtain ⟨h',m'⟩:=h.q9 hp (((Mv.app [c.wb] J τ).trans (Mv.set _ _ (yP.2 rfl))).wide (fun q hq=>yJ _ hq) fun q hq=>.inl hq);refine ⟨_, ?_, ?_,m'⟩
 ·rw[To];simp only[AI,IN,yl,h.wv,show ((2:Int)=0)=False from by simp,yq,e1,e2,es,Ag]
 ·unfold Ij;rw[show ((2*j:Nat):Int).toNat/2=j from by omega];exact h'
end
section
variable {J:Aa} {m:HM} {s:TC} {nb:Nat}
structure MK (m:HM):Prop where
 inv:Inv m
 inv2:Inv2 m
 sh:Sh m
 fz:FZ m
 b0:B0 m
 nb:2<=m.bls.length
 nt:m.bls.length<=64
theorem MK.new {n:Nat} (h2:2<=n) (h:n<=64):MK (I6 n):=⟨Inv.new n,Inv2.new n,⟨by simp[I6],by simp[I6]; omega,by simp[I6]; omega⟩,FZ.new n,B0.new n,by simp[I6]; omega,by simp[I6]; omega⟩
theorem MK.Yy (h:MK m) (b c x y x' y':Int) (hx:x≠0) (hx':x'≠0\/c=1):MK (Bs m b c x y x' y').2:=by
 have k:=WJ h.inv h.inv2 b c x y x' y';obtain ⟨e1,e2,e3,_⟩:=Nm m b c x y x' y';have e4:(Bs m b c x y x' y').2.pnw=m.pnw:=by
  unfold Bs;split
  ·split <;> rfl
  ·rfl
 exact ⟨k.inv,k.inv2,⟨by rw[e1,e3]; exact h.sh.wl,by rw[e2,e3]; exact h.sh.sl,by rw[e4,e3]; exact h.sh.pl⟩,lU h.fz _ _ _ _ _ _ hx hx',(VD m b c x y x' y').trans h.b0,by rw[e3]; exact h.nb,by rw[e3]; exact h.nt⟩
theorem MK.setRef (h:MK m) (a x v:Int):MK (Cv m a x v).2:=by
 have k:=cQ h.inv h.inv2 a x v;obtain ⟨e1,e2,_,_,e5⟩:=OH m a x v;have e6:(Cv m a x v).2.wds.length=m.wds.length:=by
  unfold Cv;split
  ·split
   ·rfl
   ·show (m.wds.set _ _).length=_; rw[yZ]
  ·rfl
 exact ⟨k.inv,k.inv2,⟨by rw[e6,e1]; exact h.sh.wl,by rw[e2,e1]; exact h.sh.sl,by rw[e5,e1]; exact h.sh.pl⟩,cj h.fz e1,by unfold B0; rw[e1]; exact h.b0,by rw[e1]; exact h.nb,by rw[e1]; exact h.nt⟩
theorem MK.Wg (h:MK m) (a:Int) (v:Nat):MK (Lv m a v).2:=by
 have k:=mS h.inv h.inv2 a v;obtain ⟨e1,e2,e3,_⟩:=Wh m a v;have e4:(Lv m a v).2.pnw.length=m.pnw.length:=by
  unfold Lv; split
  ·exact EW _ _ _ _
  ·rfl
 exact ⟨k.inv,k.inv2,⟨by rw[e3,e1]; exact h.sh.wl,by rw[e2,e1]; exact h.sh.sl,by rw[e4,e1]; exact h.sh.pl⟩,cj h.fz e1,by unfold B0; rw[e1]; exact h.b0,by rw[e1]; exact h.nb,by rw[e1]; exact h.nt⟩
theorem Og (h:Inv m) (hS:Sh m) (a:Int):(Ig m a).2.bls=m.bls/\(Ig m a).2.stw.length=m.stw.length/\(Ig m a).2.pnw.length=m.pnw.length/\(Ig m a).2.wds.length=m.wds.length/\(Ig m a).2.fw=m.fw/\(Ig m a).2.births=m.births:=by
 unfold Ig;cases hh:AU m a with
 | false=>exact ⟨rfl,rfl,rfl,rfl,rfl,rfl⟩
 | true=>
   obtain ⟨j,rfl,hs⟩:=Bd hh;rw[yk rfl,show ((2*j:Nat):Int).toNat/2=j from by omega];refine ⟨rfl,EW _ _ _ _,EW _ _ _ _, ?_,rfl,rfl⟩;show (NA _ _ _).length=_;have:=h.fit j hs;rw[KQ (by simp; omega)]
theorem MK.kill (h:MK m) (a:Int):MK (Ig m a).2:=by
 have k:=iI h.inv h.inv2 h.sh a;obtain ⟨e1,e2,e3,e4,_⟩:=Og h.inv h.sh a;exact ⟨k.inv,k.inv2,⟨by rw[e4,e1]; exact h.sh.wl,by rw[e2,e1]; exact h.sh.sl,by rw[e3,e1]; exact h.sh.pl⟩,cj h.fz e1,by unfold B0; rw[e1]; exact h.b0,by rw[e1]; exact h.nb,by rw[e1]; exact h.nt⟩
theorem Zt (m:HM) (b:Int):(Di m b).2.wds=m.wds/\(Di m b).2.stw=m.stw/\(Di m b).2.pnw=m.pnw/\(Di m b).2.fw=m.fw/\(Di m b).2.births=m.births/\B0 m->B0 (Di m b).2:=by
 intro hb;have h0:=hb.2.2.2.2.2;unfold Di;split
 ·split
  ·unfold B0;show ((Zs _ _ _).getD 0 (0,0)).1=0;rw[Pr];split
   ·rfl
   ·exact h0
  ·exact h0
 ·exact h0
theorem ZZ (m:HM) (b:Int):(Di m b).2.wds=m.wds/\(Di m b).2.stw=m.stw/\(Di m b).2.pnw=m.pnw/\(Di m b).2.fw=m.fw/\(Di m b).2.births=m.births:=by
 unfold Di;split
 ·split <;> exact ⟨rfl,rfl,rfl,rfl,rfl⟩
 ·exact ⟨rfl,rfl,rfl,rfl,rfl⟩
theorem MK.release (h:MK m) (b:Int):MK (Di m b).2:=by
 have k:=TJ h.inv h.inv2 b;obtain ⟨e1,e2,e3,e4,e5⟩:=ZZ m b;exact ⟨k.inv,k.inv2,⟨by rw[e1,k.len]; exact h.sh.wl,by rw[e2,k.len]; exact h.sh.sl,by rw[e3,k.len]; exact h.sh.pl⟩,fW h.fz b,Zt m b ⟨e1,e2,e3,e4,e5,h.b0⟩,by rw[k.len]; exact h.nb,by rw[k.len]; exact h.nt⟩
theorem Ok (m:HM) (a r d c:Int):(CF m a r d c).2.2.bls=m.bls/\(CF m a r d c).2.2.pnw=m.pnw/\(CF m a r d c).2.2.fw=m.fw/\(CF m a r d c).2.2.wds.length=m.wds.length/\(CF m a r d c).2.2.stw.length=m.stw.length:=by
 unfold CF;split
 ·split
  ·exact ⟨rfl,rfl,rfl,by show ((m.wds.set _ _).set _ _).length=_; rw[yZ,yZ],EW _ _ _ _⟩
  ·exact ⟨rfl,rfl,rfl,rfl,rfl⟩
 ·exact ⟨rfl,rfl,rfl,rfl,rfl⟩
theorem MK.place (h:MK m) (a r d c:Int):MK (CF m a r d c).2.2:=by
 have k:=Sc h.inv h.inv2 h.sh a r d c;obtain ⟨e1,e2,_,e4,e5⟩:=Ok m a r d c;exact ⟨k.inv,k.inv2,⟨by rw[e4,e1]; exact h.sh.wl,by rw[e5,e1]; exact h.sh.sl,by rw[e2,e1]; exact h.sh.pl⟩,cj h.fz e1,by unfold B0; rw[e1]; exact h.b0,by rw[e1]; exact h.nb,by rw[e1]; exact h.nt⟩
def ZP (f:Nat->Bool) (n:Nat):Nat:=((List.range n).filter f).length
theorem Sz (f:Nat->Bool) (n:Nat):ZP f (n+1)=ZP f n+(if f n then 1 else 0):=by
 unfold ZP;rw[Abr,Aa2,yi];cases hf:f n <;> simp[hf]
theorem jQ (f:Nat->Bool) (n:Nat):ZP f n<=n:=by
 unfold ZP;have:=Aaj f (List.range n)
 rwa [Aby] at this
theorem VF {f g:Nat->Bool}:∀ n,(∀ i,i<n->f i=true->g i=true)->ZP f n<=ZP g n
 | 0,_=>yj _
 | n+1,h=>by
   rw[Sz,Sz];have:=VF n fun i hi=>h i (by omega);have:=h n (by omega);cases hf:f n <;> cases hg:g n <;> simp_all <;> omega
theorem jR {f g:Nat->Bool} {j:Nat}:∀ n,j<n->(∀ i,i<n->f i=true->g i=true)->f j=false->g j=true->ZP f n+1<=ZP g n
 | 0,h,_,_,_=>by omega
 | n+1,h,hm,h1,h2=>by
   rw[Sz,Sz];by_cases e:j=n
   ·subst e;have:=VF j fun i hi=>hm i (by omega);rw[h1,h2]; simp; omega
   ·have:=jR n (by omega) (fun i hi=>hm i (by omega)) h1 h2;have:=hm n (by omega);cases hf:f n <;> cases hg:g n <;> simp_all <;> omega
def Xk (nb:Nat) (ws:List (BitVec 64)):Nat:=ZP (fun j=>decide (CR 2 ws j≠0)) (32*nb)
theorem Pp {ws:List (BitVec 64)} (hl:ws.length=(32*nb*2+63)/64) {j v:Nat} (hj:j<32*nb) (hv:v<4) (y:Nat):CR 2 (Fm 2 ws j v) y=if y=j then v else CR 2 ws y:=by
 by_cases e:y=j
 ·subst e;rw[yk rfl,Ew (.inr (.inl rfl)) hv (by omega)]
 ·rw[ym e,BO (.inr (.inl rfl)) hv (yW e)]
theorem S8 {ws:List (BitVec 64)} (hl:ws.length=(32*nb*2+63)/64) {j v:Nat} (hj:j<32*nb) (hv:v<4) (h0:v≠0):Xk nb ws<=Xk nb (Fm 2 ws j v)/\(CR 2 ws j=0->Xk nb ws+1<=Xk nb (Fm 2 ws j v)):=by
 have key:∀ i,i<32*nb->decide (CR 2 ws i≠0)=true->decide (CR 2 (Fm 2 ws j v) i≠0)=true:=fun i _ h=>by
  rw[Pp hl hj hv];split
  ·exact xZ h0
  ·exact h
 refine ⟨VF _ key,fun hz=>jR _ hj key ?_ ?_⟩
 ·simp[hz]
 ·rw[Pp hl hj hv,yk rfl]; exact xZ h0
structure Sv (nb:Nat) (s:TC):Prop where
 wl:s.ws.length=(32*nb*2+63)/64
 ls:s.list.length<=Xk nb s.ws
 lr:∀ v ∈ s.list,0<=v/\v<4096
 lf:s.left.length<=64
 l0:s.ph≠2->s.left=[]
 s2:s.ph=2->s.list=[]
theorem Sv.len (h:Sv nb s):s.list.length<=32*nb:=zj h.ls (jQ _ _)
theorem Sv.fJ (h:Sv nb s) {j v:Nat} (hj:j<32*nb) (hv:v<4) (h0:v≠0):Sv nb (Ij s ((2*j:Nat):Int) v):=by
 have e:((2*j:Nat):Int).toNat/2=j:=by omega
 unfold Ij;rw[e];exact ⟨by rw[<- h.wl]; exact EW _ _ _ _,zj h.ls (S8 h.wl hj hv h0).1,h.lr,h.lf,h.l0,h.s2⟩
theorem Sv.qI (h:Sv m.bls.length s) (hn:m.bls.length<=64) (hp:s.ph≠2) (a:Int):Sv m.bls.length (Dl m s a):=by
 unfold Dl;split
 ·rename_i hc;obtain ⟨j,rfl,hs⟩:=Bd hc.1;have e:((2*j:Nat):Int).toNat/2=j:=by omega
  have hz:=hc.2;unfold F5 at hz;rw[e] at hz;have hj:=hs.1;have:=h.fJ hj (v:=1) (by decide) (by decide);refine ⟨this.wl, ?_,fun v hv=>?_,h.lf,h.l0,fun e=>absurd e hp⟩
  ·show (s.list++_).length<=Xk _ (Fm 2 s.ws _ 1);rw[e,yi];have:=(S8 h.wl hj (v:=1) (by decide) (by decide)).2 hz;have:=h.ls;simp;omega
  ·rcases yf.1 hv with hv | hv
   ·exact h.lr v hv
   ·rw[yP.1 hv]; omega
 ·exact h
theorem Nf (m:HM) (s:TC) (a:Int):(Dl m s a).ph=s.ph/\(Dl m s a).left=s.left/\(Dl m s a).look=s.look/\(Dl m s a).freed=s.freed/\(Dl m s a).born=s.born:=by
 unfold Dl; split <;> exact ⟨rfl,rfl,rfl,rfl,rfl⟩
theorem HA (m:HM):∀ (l:List Int) (s:TC),(CA m s l).ph=s.ph/\(CA m s l).left=s.left/\(CA m s l).look=s.look/\(CA m s l).freed=s.freed/\(CA m s l).born=s.born
 | [],s=>⟨rfl,rfl,rfl,rfl,rfl⟩
 | a::l,s=>by
   obtain ⟨h1,h2,h3,h4,h5⟩:=HA m l (Dl m s a);obtain ⟨g1,g2,g3,g4,g5⟩:=Nf m s a;exact ⟨h1.trans g1,h2.trans g2,h3.trans g3,h4.trans g4,h5.trans g5⟩
theorem Sv.Sq (hn:m.bls.length<=64):∀ (l:List Int) (s:TC),Sv m.bls.length s->s.ph≠2->Sv m.bls.length (CA m s l)
 | [],s,h,_=>h
 | a::l,s,h,hp=>Sv.Sq hn l (Dl m s a) (h.qI hn hp a) (by rw[(Nf m s a).1]; exact hp)
end
section
variable {J:Aa} {m:HM} {r:DX} {s:TC} {i:Cd} {p:PI} {c:CI}
structure JT (J:Aa) (i:Cd) (p:PI) (c:CI) (m:HM) (r:DX) (s:TC):Prop where
 h:Ai J i m
 mo:MK m
 rt:Gv J p r
 co:FA J c i.hb p.rb m.bls.length s
 fp:Fp J [i.l,p.l,c.l]
 tok:Sv m.bls.length s
theorem JT.app (T:JT J i p c m r s) (τ:Aa):JT (J++τ) i p c m r s:=⟨T.h.app τ,T.mo,T.rt.app τ,T.co.app τ,T.fp.app τ,T.tok⟩
theorem JT.Oz {J':Aa} {c':CI} {s':TC} (T:JT J i p c m r s) (h':FA J' c' i.hb p.rb m.bls.length s') (hm:Mv c.l c'.l J J') (tk:Sv m.bls.length s'):JT J' i p c' m r s':=by
 obtain ⟨f,k,_⟩:=T.fp.step 2 (by simp) hm h'.lt;exact ⟨T.h.Aw (k 0 (by simp) (by decide)),T.mo,T.rt.Aw (k 1 (by simp) (by decide)),h',f,tk⟩
theorem JT.eZ {J':Aa} {m':HM} (T:JT J i p c m r s) (h':Ai J' i m') (hm:Be i J J') (mo:MK m') (hl:m'.bls.length=m.bls.length):JT J' i p c m' r s:=by
 obtain ⟨f,k,_⟩:=T.fp.step 0 (by simp) hm.mv h'.lt;refine ⟨h',mo,T.rt.Aw (k 1 (by simp) (by decide)), ?_,f,by rw[hl]; exact T.tok⟩;rw[hl];exact T.co.Aw (k 2 (by simp) (by decide))
theorem JT.Aw {J':Aa} (T:JT J i p c m r s) (hl:J.length<=J'.length) (h1:∀ q ∈ i.l,J'[q]?=J[q]?) (h2:∀ q ∈ p.l,J'[q]?=J[q]?) (h3:∀ q ∈ c.l,J'[q]?=J[q]?):JT J' i p c m r s:=
 ⟨T.h.Aw h1,T.mo,T.rt.Aw h2,T.co.Aw h3,⟨T.fp.dj,fun L hL q hq=>yG (T.fp.lt L hL q hq) hl⟩,T.tok⟩
theorem UK (k:Nat) (T:JT J i p c m r s) (hp:s.ph≠2) (a:Int) (ha:AK a):∃ J' c',BG (k+11) (Dd c) a J=some (.tuple #[],J')/\JT J' i p c' m r (Dl m s a)/\Mv c.l c'.l J J'/\c'.cb=c.cb:=by
 have hlen:=T.tok.len;have hnt:=T.mo.nt;have tk:=T.tok.qI hnt hp a;rw[Tm];have eh:AQ (k+10) (AM i) a J=_:=Rb (k+6) T.h a ha;simp only[AI,IN,yl,T.co.GK,eh,Ao];cases hh:AU m a with
 | false=>
   simp only[By,AI,ye];unfold Dl at tk ⊢;rw[ym (fun hc=>by rw[hh] at hc; cases hc.1)] at tk ⊢;exact ⟨J,c,rfl,T,Mv.refl _ _,rfl⟩
 | true=>
   have eo:Cu (k+10) (Dd c) a J=_:=iS (k+6) T.co hh;simp only[IT,eo,AI,Ag];by_cases hz:F5 s a=0;rotate_left
   ·rw[show ((F5 s a:Int) == 0)=false from by simpa using hz];simp only[By,AI,ye];unfold Dl at tk ⊢;rw[ym (fun hc=>hz hc.2)] at tk ⊢;exact ⟨J,c,rfl,T,Mv.refl _ _,rfl⟩
   ·rw[show ((F5 s a:Int) == 0)=true from by simpa using hz];obtain ⟨j,rfl,hs⟩:=Bd hh;obtain ⟨J1_,e1,h1,m1⟩:=Zk k T.co hs.1 (v:=1) (by decide);obtain ⟨s',Z,e2,li2,m2⟩:=h1.ls.push ((2*j:Nat):Int) Aj (by show s.list.length<=_; omega);have f1:c.ls.2.1=s.list.length:=by have:=h1.ls.form; rw[this]; rfl
    have f2:c.ls.2.2=s.list.length:=by have:=h1.ls.form; rw[this]; rfl
    rw[f1,f2] at e2;obtain ⟨J',e3,h3,m3⟩:=h1.kH (fun q hq=>hq) m2 li2;unfold Dl at tk ⊢;rw[yk ⟨hh,hz⟩] at tk ⊢;refine ⟨J',_, ?_,T.Oz h3 (m1.trans m3) tk,m1.trans m3,rfl⟩;have d6:=h1.pz;have e1':C0 (k+10) (Dd c) ((2*j:Nat):Int) (1:Int) J=some (.tuple #[],J1_):=e1;have d6':AR J1_ c.cb 6=some (c.ls.1,s.list.length,s.list.length):=d6;simp only[IT,e1',AI,Gs,d6',Ae,e2,e3,ye]
theorem Vg (k:Nat) {sl:Bp} {l:List Int} (hl:l.length<=100000) (hv:∀ v ∈ l,AK v) (cb:Nat):∀ (n x f:Nat) (J:Aa) (c:CI) (s:TC),JT J i p c m r s->c.cb=cb->s.ph≠2->Ba J sl l->(∀ q ∈ hs sl,q ∉ c.l)->x+n=l.length->n<f ->
  ∃ J' c',EU (k+11) f (some ⟨cb,0,none⟩) sl.1 l.length l.length ((l.length:Nat):Int) (x:Int) J=some (.exit 0,[],J')/\JT J' i p c' m r (CA m s (l.drop x))/\Mv c.l c'.l J J'/\c'.cb=cb
 | n,x,0,J,c,s,T,hc,hp,hli,ho,hx,hf=>by omega
 | 0,x,f+1,J,c,s,T,hc,hp,hli,ho,hx,hf=>by
   rw[KN];simp only[xY (show ¬ (x:Int)<((l.length:Nat):Int) by omega),By];rw[yS (by omega)];exact ⟨J,c,rfl,T,Mv.refl _ _,hc⟩
 | n+1,x,f+1,J,c,s,T,hc,hp,hli,ho,hx,hf=>by
   obtain ⟨b,e,l1,_⟩:=hli.ld (x:=x) (by omega);have qx:(0<=(x:Int)/\(x:Int)<((l.length:Nat):Int))=True:=zl (by omega);have w1:Ar ((x:Int)+1)=((x+1:Nat):Int):=Ah (by unfold AK; omega);have hd:l.drop x=l.getD x 0::l.drop (x+1):=by
    rw[yO (by omega),yd,yg (by omega)]; rfl
   have hvx:AK (l.getD x 0):=by
    rw[yd,yg (show x<l.length by omega)]; exact hv _ (yU _)
   obtain ⟨J1_,c1,e1,T1,m1,b1⟩:=UK k T hp (l.getD x 0) hvx;obtain ⟨k1,k2,_⟩:=m1.DH (X:=hs sl) hli.lt ho;obtain ⟨J',c',e2,T2,m2,b2⟩:=Vg k hl hv cb n (x+1) f J1_ c1 _ T1 (b1.trans hc) (by rw[(Nf m s _).1]; exact hp) (hli.Aw k1) k2 (by omega) (by omega);refine ⟨J',c', ?_,by rw[hd]; exact T2,m1.trans m2,b2⟩;rw[KN];have e1':BG (k+11) (some ⟨cb,0,none⟩) (l.getD x 0) J=some (.tuple #[],J1_):=by rw[<- hc]; exact e1
   rw[e] at e2;simp only[xZ (show (x:Int)<((l.length:Nat):Int) by omega),IT,qx,ye,e,AI,xQ,yH,IN,l1,w1,e1',Gs,e2]
theorem Pd (k:Nat) {sl:Bp} {l:List Int} (hl:l.length<=100000) (hv:∀ v ∈ l,AK v) (cb:Nat):∀ (n x f:Nat) (J:Aa) (c:CI) (s:TC),JT J i p c m r s->c.cb=cb->s.ph≠2->Ba J sl l->(∀ q ∈ hs sl,q ∉ c.l)->x+n=l.length->n<f ->
  ∃ J' c',Dq (k+11) f (some ⟨cb,0,none⟩) sl.1 l.length l.length ((l.length:Nat):Int) (x:Int) J=some (.exit 2,[],J')/\JT J' i p c' m r (CA m s (l.drop x))/\Mv c.l c'.l J J'/\c'.cb=cb
 | n,x,0,J,c,s,T,hc,hp,hli,ho,hx,hf=>by omega
 | 0,x,f+1,J,c,s,T,hc,hp,hli,ho,hx,hf=>by
   rw[Jl];simp only[xY (show ¬ (x:Int)<((l.length:Nat):Int) by omega),By];rw[yS (by omega)];exact ⟨J,c,rfl,T,Mv.refl _ _,hc⟩
 | n+1,x,f+1,J,c,s,T,hc,hp,hli,ho,hx,hf=>by
   obtain ⟨b,e,l1,_⟩:=hli.ld (x:=x) (by omega);have qx:(0<=(x:Int)/\(x:Int)<((l.length:Nat):Int))=True:=zl (by omega);have w1:Ar ((x:Int)+1)=((x+1:Nat):Int):=Ah (by unfold AK; omega);have hd:l.drop x=l.getD x 0::l.drop (x+1):=by
    rw[yO (by omega),yd,yg (by omega)]; rfl
   have hvx:AK (l.getD x 0):=by
    rw[yd,yg (show x<l.length by omega)]; exact hv _ (yU _)
   obtain ⟨J1_,c1,e1,T1,m1,b1⟩:=UK k T hp (l.getD x 0) hvx;obtain ⟨k1,k2,_⟩:=m1.DH (X:=hs sl) hli.lt ho;obtain ⟨J',c',e2,T2,m2,b2⟩:=Pd k hl hv cb n (x+1) f J1_ c1 _ T1 (b1.trans hc) (by rw[(Nf m s _).1]; exact hp) (hli.Aw k1) k2 (by omega) (by omega);refine ⟨J',c', ?_,by rw[hd]; exact T2,m1.trans m2,b2⟩;rw[Jl];have e1':BG (k+11) (some ⟨cb,0,none⟩) (l.getD x 0) J=some (.tuple #[],J1_):=by rw[<- hc]; exact e1
   rw[e] at e2;simp only[xZ (show (x:Int)<((l.length:Nat):Int) by omega),IT,qx,ye,e,AI,xQ,yH,IN,l1,w1,e1',Gs,e2]
theorem ZG (k:Nat) {sl:Bp} {l:List Int} (hl:l.length<=100000) (hv:∀ v ∈ l,AK v) (cb:Nat):∀ (n x f:Nat) (J:Aa) (c:CI) (s:TC),JT J i p c m r s->c.cb=cb->s.ph≠2->Ba J sl l->(∀ q ∈ hs sl,q ∉ c.l)->x+n=l.length->n<f ->
  ∃ J' c',FT (k+11) f (some ⟨cb,0,none⟩) sl.1 l.length l.length ((l.length:Nat):Int) (x:Int) J=some (.exit 1,[],J')/\JT J' i p c' m r (CA m s (l.drop x))/\Mv c.l c'.l J J'/\c'.cb=cb
 | n,x,0,J,c,s,T,hc,hp,hli,ho,hx,hf=>by omega
 | 0,x,f+1,J,c,s,T,hc,hp,hli,ho,hx,hf=>by
   rw[LF];simp only[xY (show ¬ (x:Int)<((l.length:Nat):Int) by omega),By];rw[yS (by omega)];exact ⟨J,c,rfl,T,Mv.refl _ _,hc⟩
 | n+1,x,f+1,J,c,s,T,hc,hp,hli,ho,hx,hf=>by
   obtain ⟨b,e,l1,_⟩:=hli.ld (x:=x) (by omega);have qx:(0<=(x:Int)/\(x:Int)<((l.length:Nat):Int))=True:=zl (by omega);have w1:Ar ((x:Int)+1)=((x+1:Nat):Int):=Ah (by unfold AK; omega);have hd:l.drop x=l.getD x 0::l.drop (x+1):=by
    rw[yO (by omega),yd,yg (by omega)]; rfl
   have hvx:AK (l.getD x 0):=by
    rw[yd,yg (show x<l.length by omega)]; exact hv _ (yU _)
   obtain ⟨J1_,c1,e1,T1,m1,b1⟩:=UK k T hp (l.getD x 0) hvx;obtain ⟨k1,k2,_⟩:=m1.DH (X:=hs sl) hli.lt ho;obtain ⟨J',c',e2,T2,m2,b2⟩:=ZG k hl hv cb n (x+1) f J1_ c1 _ T1 (b1.trans hc) (by rw[(Nf m s _).1]; exact hp) (hli.Aw k1) k2 (by omega) (by omega);refine ⟨J',c', ?_,by rw[hd]; exact T2,m1.trans m2,b2⟩;rw[LF];have e1':BG (k+11) (some ⟨cb,0,none⟩) (l.getD x 0) J=some (.tuple #[],J1_):=by rw[<- hc]; exact e1
   rw[e] at e2;simp only[xZ (show (x:Int)<((l.length:Nat):Int) by omega),IT,qx,ye,e,AI,xQ,yH,IN,l1,w1,e1',Gs,e2]
theorem fk (h:r.ok):∀ v ∈ Eu r,AK v:=by
 intro v hv;rcases Wc v r.all [] hv with h' | h'
 ·cases h'
 ·exact (h.inn v h').1
theorem aS (h:r.ok):(Eu r).length<=144:=by
 have key:∀ (l out:List Int),(l.foldl Jr out).length<=out.length+l.length:=by
  intro l
  induction l with
  | nil=>intro out; simp
  | cons a l ih=>
    intro out;have:=ih (Jr out a);have:(Jr out a).length<=out.length+1:=by
     unfold Jr; split
     ·omega
     ·simp
    simp only[zF,ze];omega
 have:=key r.all [];have h1:=h.sl; have h2:=h.gl; have h3:=h.qu; have h4:=h.m4;unfold Eu;unfold DX.all at this ⊢;simp only[yi,zo] at this;omega
theorem bj (k:Nat) (hk:1000<k) (T:JT J i p c m r s) (hp:s.ph≠2):∃ J' c',En (k+12) (Dd c) J=some (.tuple #[],J')/\JT J' i p c' m r (CA m s (Eu r))/\Mv c.l c'.l J J'/\c'.cb=c.cb:=by
 have hlen:=aS T.rt.ok;obtain ⟨τ,sl,e1,li,new⟩:=dC (k+5) (by omega) T.rt;have e1':CJ (k+11) (FD p) J=_:=e1;have T1:=T.app τ;obtain ⟨J',c',e2,T2,m2,b2⟩:=Vg k (by omega) (fk T.rt.ok) c.cb (Eu r).length 0 (k+11) (J++τ) c s T1 rfl hp li (fun q hq hm=>by have:=new q hq; have:=T.co.lt q hm; omega) (by omega) (by omega);rw[show ((0:Nat):Int)=0 from rfl] at e2;have f:=li.form;have f1:sl.2.1=(Eu r).length:=by rw[f]
 have f2:sl.2.2=(Eu r).length:=by rw[f]
 refine ⟨J',c', ?_,T2,(Mv.app c.l J τ).trans m2,b2⟩;rw[RH];simp only[AI,IN,yl,T.co.E6,e1',ED,f1,f2,e2,ye]
theorem XH (k:Nat) (T:JT J i p c m r s) (a:Int) (ha:AK a):C5 (k+5) (Dd c) a J=some (.bool (Ko m s a),J):=by
 rw[Ul];have eh:AQ (k+4) (AM i) a J=_:=Rb k T.h a ha;simp only[AI,IN,yl,T.co.GK,eh,Ao];unfold Ko;cases hh:AU m a with
 | false=>simp only[By,AI,Acd]
 | true=>
   have eo:Cu (k+4) (Dd c) a J=_:=iS k T.co hh;simp only[IT,eo,AI,Ag,Abm];by_cases hz:F5 s a=0 <;> simp[hz]
end
section
variable {J:Aa} {m:HM} {r:DX} {s:TC} {i:Cd} {p:PI} {c:CI}
theorem jG (k:Nat) (x y:Int) (J:Aa):Hn (k+1) x y J=some (.bool (Kq x y),J):=by
 rw[Xt];unfold Kq;by_cases h0:y=0
 ·subst h0;by_cases h1:x=1
  ·subst h1; rfl
  ·by_cases h2:x=2
   ·subst h2; rfl
   ·rw[show (x == 1)=false from by simpa using h1,show (x == 2)=false from by simpa using h2]; simp[h1,h2]
 ·rw[show (y == 0)=false from by simpa using h0];by_cases h1:y=1
  ·subst h1;by_cases h2:x=2
   ·subst h2; rfl
   ·rw[show (x == 2)=false from by simpa using h2]; simp[h2]
  ·rw[show (y == 1)=false from by simpa using h1]; simp[h0,h1]
theorem j0 (v w:Value):bH (.tuple #[v,w])=some [v,w]:=rfl
theorem Su (k:Nat) (h:Ai J i m) (a:Int) (ha:AK a):∃ τ,AN (k+6) (AM i) a J=some (.tuple #[.agg #[.int .i64 (Aq m a).1,.int .i64 (Aq m a).2.1,.int .i64 (Aq m a).2.2],.int .i64 (if AU m a then 0 else 4)],J++τ):=by
 obtain ⟨τ,e⟩:=rN k h a ha;rw[gw] at e;exact ⟨τ,e⟩
theorem jB (k:Nat) (h:Ai J i m) (a:Int) (ha:AK a):∃ τ,G4 (k+7) (AM i) a J=some (.int .i64 (Aq m a).2.2,J++τ):=by
 obtain ⟨τ,e⟩:=Su k h a ha;refine ⟨τ++[Au.cells [.int .i64 (Aq m a).1,.int .i64 (Aq m a).2.1,.int .i64 (Aq m a).2.2] Ad true], ?_⟩;rw[Xr];simp only[e,AI,j0,ze,zo,IN,Nat.reduceAdd,ye,Aam,Aat,HG,Ag,Ae,EV,Bh,yy,yB,ya]
theorem mX {b x n:Nat} {row:List Value} {T:TypeId} (v:Int) (hc:J[b]?=some (.cells row Aj true)) (hr:row.length=n) (hx:x<n):
  AF P Aj (some ⟨b,0,none⟩,x,n) (some ⟨J.length,0,none⟩,1,1) (J++[.cells [.int .i64 v] T true])=some ((some ⟨b,0,none⟩,x+1,n),(J++[Au.cells [.int .i64 v] T true]).set b (.cells (row.set x (.int .i64 v)) Aj true)):=by
 have hb:=Af hc;have hc':(J++[Au.cells [.int .i64 v] T true])[b]?=some (.cells row Aj true):=by rw[AT hb]; exact hc
 have hf:CQ (J++[.cells [.int .i64 v] T true]) 1 (some ⟨J.length,0,none⟩) 1=some [.int .i64 v]:=by simp[CQ,M9]
 have hz:(¬ (Gi (.int .i64 0)=false/\some 1=some (Value.cells (.int .i64 0)).size/\0<(Value.cells (.int .i64 0)).size))=False:=by simp[Gi,Value.cells]
 unfold AF La;simp only[rh,qX,nS,AI,hf,hz,yq,yk (show x+1<=n from hx),Ie,Aab,By,IN,yH];simp only[H2,hc',ze,zo,IN];rw[yk (by omega),Vp _ _ _ (by omega)];rfl
theorem Yf (k:Nat) (a:Int) (ha:AK a) {nn b:Nat} (hn:nn<=200):∀ (n x f:Nat) (Z:Aa) (row:List Value),Ai Z i m->Inv m->b ∉ i.l->Z[b]?=some (.cells row Aj true)->row.length=nn->row.take x=AZ ((List.range x).map fun (x:Nat)=>Bj m a (x:Int))->x+n=nn->n<f ->
  ∃ Z',Hg (k+7) f (AM i) a (nn:Int) (some ⟨b,0,none⟩,x,nn) (x:Int) Z=some (.exit 0,[.slice (some ⟨b,0,none⟩) nn nn],Z')/\Z'[b]?=some (.cells (AZ ((List.range nn).map fun (x:Nat)=>Bj m a (x:Int))) Aj true)/\Mv [b] [b] Z Z'
 | n,x,0,Z,row,h,hI,hb,hc,hr,ht,hx,hf=>by omega
 | 0,x,f+1,Z,row,h,hI,hb,hc,hr,ht,hx,hf=>by
   rw[Nx];have e:x=nn:=by omega
   subst e;simp only[xY (show ¬ (x:Int)<(x:Int) by omega),By];rw[zp (by omega)] at ht;exact ⟨Z,rfl,by rw[hc,ht],Mv.refl _ _⟩
 | n+1,x,f+1,Z,row,h,hI,hb,hc,hr,ht,hx,hf=>by
   have w1:Ar ((x:Int)+1)=((x+1:Nat):Int):=Ah (by unfold AK; omega);obtain ⟨τ,e1⟩:=UJ k h hI a (x:Int) ha;have h1:=h.app τ;have hc1:(Z++τ)[b]?=some (.cells row Aj true):=by rw[AT (Af hc)]; exact hc
   have e2:=mX (T:=Aj) (Bj m a (x:Int)) hc1 hr (show x<nn by omega);obtain ⟨Z1_,hμ1⟩:∃ Z1_,(Z++τ++[Au.cells [.int .i64 (Bj m a (x:Int))] Aj true]).set b (.cells (row.set x (.int .i64 (Bj m a (x:Int)))) Aj true)=Z1_:=⟨_,rfl⟩;have hbl:=Af hc1;have m1:Mv [b] [b] Z Z1_:=by
    rw[<- hμ1];exact ((Mv.app [b] Z τ).trans (Mv.app [b] _ _)).trans (Mv.set _ _ (yP.2 rfl))
   have h2:Ai Z1_ i m:=h.Aw fun q hq=>m1.same q (h.lt q hq) fun hm=>hb (by rw[<- yP.1 hm]; exact hq);have hc2:Z1_[b]?=some (.cells (row.set x (.int .i64 (Bj m a (x:Int)))) Aj true):=by
    rw[<- hμ1,yo (by rw[yi]; omega)]
   obtain ⟨Z',e3,c3,m3⟩:=Yf k a ha hn n (x+1) f Z1_ _ h2 hI hb hc2 (by rw[yZ]; exact hr) (by
    rw[Abr,Aae,Lr,<- ht];apply zy;intro q;have htl:(row.take x).length=x:=by rw[zx]; omega
    rw[zt,z8];by_cases q1:q<x
    ·rw[yk (by omega),ym (by omega),AT (by omega),zt,yk q1]
    ·by_cases q2:q=x
     ·subst q2;rw[yk (by omega),yk rfl,yk (by omega),yD (by omega),htl,Aaf]; rfl
     ·rw[ym (by omega),yD (by omega),zg (by simp[AZ]; omega)]) (by omega) (by omega);refine ⟨Z', ?_,c3,m1.trans m3⟩;rw[Nx];have e1':AG (k+7) (AM i) a (x:Int) Z=some (.tuple #[.int .i64 (Bj m a (x:Int)),.int .i64 (J0 m a (x:Int) false).2],Z++τ):=e1;simp only[xZ (show (x:Int)<(nn:Int) by omega),IT,e1',AI,Cp,Ae,e2,hμ1,w1,e3]
theorem rM (k:Nat) (hk:1000<k) (h:Ai J i m) (hI:Inv m) (a:Int) (ha:AK a):∃ τ s,J8 (k+8) (AM i) a J=some (.slice s.1 s.2.1 s.2.2,J++τ)/\Ba (J++τ) s (Si m a) /\ ∀ q ∈ hs s,J.length<=q:=by
 obtain ⟨τ1,e1⟩:=Su (k+1) h a ha;obtain ⟨s1,s2,s3,s4⟩:=Ng hI a;unfold Si;generalize hsg:Aq m a=sh at e1 s1 s2 s3 s4;obtain ⟨rr,dd,kk⟩:=sh;dsimp only at e1 s1 s2 s3 s4;obtain ⟨nn,rfl⟩:∃ nn:Nat,rr=(nn:Int):=⟨rr.toNat,by omega⟩;obtain ⟨S,hS⟩:∃ S,Au.cells [.int .i64 (nn:Int),.int .i64 dd,.int .i64 kk] Ad true=S:=⟨_,rfl⟩;obtain ⟨Z,hμ⟩:∃ Z,J++τ1++[S]=Z:=⟨_,rfl⟩;have lm:J.length<Z.length:=by rw[<- hμ,yi,yi,zd]; omega
 have hμσ:Z=J++(τ1++[S]):=by rw[<- hμ,ya]
 have hm0:Ai Z i m:=by rw[hμσ]; exact h.app _
 have hm1:Ai (Z++[Au.cells (rep nn [.int .i64 0]) Aj true]) i m:=hm0.app _;have lS:∀ τ,Ak .i64 (Z++τ) (J++τ1).length 0=some (nn:Int):=fun τ=>by
  rw[Jm _ _ _ (by rw[<- hμ]; simp),<- hμ,<- hS,Bh]; rfl
 have lS0:Ak .i64 Z (J++τ1).length 0=some (nn:Int):=by have:=lS []; rwa [yw] at this
 have hbn:Z.length ∉ i.l:=fun hm=>by have:=hm0.lt _ hm; omega
 obtain ⟨Z',e2,c2,m2⟩:=Yf k a ha (b:=Z.length) (show nn<=200 by omega) nn 0 (k+7) _ _ hm1 hI hbn (by rw[yK]) (by rw[Vn,C8,zT]) (by simp[AZ]) (by omega) (by omega);obtain ⟨τ,hτ⟩:∃ τ,Z'=J++τ:=by
  refine FV (by have:=m2.len; simp at this; omega) fun q hq=>?_;rw[m2.same q (by simp; omega) (fun hm=>by have:=yP.1 hm; omega),AT (by omega),hμσ,AT hq]
 refine ⟨τ,(some ⟨Z.length,0,none⟩,nn,nn), ?_, ?_,fun q hq=>by simp[hs] at hq; omega⟩
 ·rw[Xs];have e1':AN (k+7) (AM i) a J=_:=e1;rw[show ((0:Nat):Int)=0 from rfl] at e2;simp only[e1',AI,j0,ze,zo,IN,Nat.reduceAdd,ye,Aam,Aat,HG,Ag,Ae,EV,hS,hμ,lS0];rw[yk (by omega)];simp only[xQ,Aau,lS,AI,e2,ye,hτ];rfl
 ·rw[<- hτ];exact .inl (.inr ⟨Z.length,by simp,zh _,by simp[AZ],by rw[c2]; rfl⟩)
end
end
end Go.Proofs.YtjbledomkmdkmaaGreat
