/- Strong references; ephemerons; clearing.; Clearing; the last look.; A unit of work.; Units: one popped, one swept; steps.; Sound heaps; a cycle begun; -/
import Derived.Test.YtjbledomkmdkmaaGreatP26
set_option linter.unusedVariables false
set_option linter.unusedSimpArgs false
set_option linter.unusedSectionVars false
namespace Go.Proofs.YtjbledomkmdkmaaGreat
open Go Go.AX
noncomputable section
local instance yn:AA:=Ap
section
variable {J:Aa} {m:HM} {r:DX} {s:TC} {i:Cd} {p:PI} {c:CI}
def cZ (m:HM) (a:Int) (n:Nat):List Int:=((List.range n).filter fun (x:Nat)=>decide (Bj m a (x:Int)≠0) && !Kq (Aq m a).2.2 (x:Int)).map fun (x:Nat)=>Bj m a (x:Int)
theorem fS (n:Nat) (Q:Nat->Bool) (f:Nat->Int):((List.range (n+1)).filter Q).map f=((List.range n).filter Q).map f++(if Q n then [f n] else []):=by
 rw[Abr,Aa2,Aae];congr 1;cases h:Q n <;> simp[h]
theorem Tv {ρ:Type} (a:Option Addr) (n c:Nat) (K:Bp->Option ρ):Tu [.slice a n c] K=K (a,n,c):=rfl
theorem nG (m:HM) (a:Int) (n:Nat):cZ m a (n+1)=cZ m a n++(if (decide (Bj m a (n:Int)≠0) && !Kq (Aq m a).2.2 (n:Int)) then [Bj m a (n:Int)] else []):=by
 exact fS n (fun (x:Nat)=>decide (Bj m a (x:Int)≠0) && !Kq (Aq m a).2.2 (x:Int)) fun (x:Nat)=>Bj m a (x:Int)
theorem g9 (m:HM) (a:Int) (n:Nat):(cZ m a n).length<=n:=by
 unfold cZ;rw[zI];have:=Aaj (fun (x:Nat)=>decide (Bj m a (x:Int)≠0) && !Kq (Aq m a).2.2 (x:Int)) (List.range n)
 rwa [Aby] at this
theorem PF (k:Nat) (a:Int) {nn h0:Nat} (hn:nn<=200) {sl:Bp} {rr dd:Int} {T:TypeId}:∀ (n x f:Nat) (Z:Aa) (o:Bp),Ba Z sl ((List.range nn).map fun (x:Nat)=>Bj m a (x:Int))->Z[h0]?=some (.cells [.int .i64 rr,.int .i64 dd,.int .i64 (Aq m a).2.2] T true)->Ba Z o (cZ m a x)->h0 ∉ hs o->(∀ q ∈ hs sl,q ∉ hs o)->x+n=nn->n<f ->
  ∃ Z' o',Fc (k+1) f h0 sl.1 nn nn (nn:Int) o (x:Int) Z=some (.exit 0,[.slice o'.1 o'.2.1 o'.2.2],Z')/\Ba Z' o' (cZ m a nn)/\Mv (hs o) (hs o') Z Z'
 | n,x,0,Z,o,hl,hb,ho,d0,d1,hx,hf=>by omega
 | 0,x,f+1,Z,o,hl,hb,ho,d0,d1,hx,hf=>by
   have e:x=nn:=by omega
   subst e;rw[Mn];simp only[xY (show ¬ (x:Int)<(x:Int) by omega),By];exact ⟨Z,o,rfl,ho,Mv.refl _ _⟩
 | n+1,x,f+1,Z,o,hl,hb,ho,d0,d1,hx,hf=>by
   have hlen:((List.range nn).map fun (x:Nat)=>Bj m a (x:Int)).length=nn:=by simp
   obtain ⟨b,e,l1,_⟩:=hl.ld (x:=x) (by omega);have lx:((List.range nn).map fun (x:Nat)=>Bj m a (x:Int)).getD x 0=Bj m a (x:Int):=by
    rw[yd,zG,Aaw (by omega)]; rfl
   rw[lx] at l1;have qx:(0<=(x:Int)/\(x:Int)<(nn:Int))=True:=zl (by omega);have w1:Ar ((x:Int)+1)=((x+1:Nat):Int):=Ah (by unfold AK; omega);have l2:Ak .i64 Z h0 2=some (Aq m a).2.2:=(Jj hb).2.2;have hsl:=g9 m a x;have hsu:=nG m a x;rw[Mn];simp only[xZ (show (x:Int)<(nn:Int) by omega),IT,qx,ye,e,AI,xQ,yH,IN,l1,w1,l2,jG,Ao];have skip:(decide (Bj m a (x:Int)≠0) && !Kq (Aq m a).2.2 (x:Int))=false -> ∃ Z' o',Fc (k+1) f h0 (some ⟨b,0,none⟩) nn nn (nn:Int) (o.1,o.2.1,o.2.2) ((x+1:Nat):Int) Z=some (.exit 0,[.slice o'.1 o'.2.1 o'.2.2],Z')/\Ba Z' o' (cZ m a nn)/\Mv (hs o) (hs o') Z Z':=fun hq=>by
    rw[hq] at hsu;simp only[y8,yq,yw] at hsu;have ih:=PF k a hn (sl:=sl) (rr:=rr) (dd:=dd) (T:=T) n (x+1) f Z o hl hb (by rw[hsu]; exact ho) d0 d1 (by omega) (by omega);rw[e] at ih;exact ih
   by_cases hz:Bj m a (x:Int)=0
   ·rw[show (Bj m a (x:Int) != 0)=false from by rw[hz]; rfl];simp only[By,AI,ye,GZ];exact skip (by rw[hz]; rfl)
   ·rw[show (Bj m a (x:Int) != 0)=true from zr.2 hz];simp only[IT,AI];cases hq:Kq (Aq m a).2.2 (x:Int) with
    | true=>
      simp only[yp,By,AI,ye,GZ];exact skip (by rw[hq]; simp)
    | false=>
      rw[hq] at hsu;rw[xZ hz] at hsu;simp only[yY,Bool.and_self,ye] at hsu;obtain ⟨o1,Z1_,e2,li2,m2⟩:=ho.push (Bj m a (x:Int)) Aj (by omega);have hsl1:Ba Z1_ sl _:=hl.Aw fun q hq=>m2.same q (hl.lt q hq) (d1 q hq);have hb1:Z1_[h0]?=_:=m2.L5 hb d0;have n0:h0 ∉ hs o1:=fun hm=>(m2.new h0 hm).elim d0 fun hh=>by have:=Af hb; omega
      have n1:∀ q ∈ hs sl,q ∉ hs o1:=fun q hq hm=>(m2.new q hm).elim (d1 q hq) fun hh=>by have:=hl.lt q hq; omega
      obtain ⟨Z',o',e3,h3,m3⟩:=PF k a hn (sl:=sl) (rr:=rr) (dd:=dd) (T:=T) n (x+1) f Z1_ o1 hsl1 hb1 (by rw[hsu]; exact li2) n0 n1 (by omega) (by omega);rw[e] at e3;refine ⟨Z',o', ?_,h3,m2.trans m3⟩;simp only[yY,IT,Ae,e2,AI,ye,GZ,e3]
theorem lu (k:Nat) (hk:1000<k) (h:Ai J i m) (hI:Inv m) (a:Int) (ha:AK a):∃ τ o,HQ (k+9) (AM i) a J=some (.slice o.1 o.2.1 o.2.2,J++τ)/\Ba (J++τ) o (IC m a) /\ ∀ q ∈ hs o,J.length<=q:=by
 obtain ⟨τ1,e1⟩:=Su (k+2) h a ha;obtain ⟨s1,s2,s3,s4⟩:=Ng hI a;have hR:∀ Z,Ai Z i m -> ∃ τ s,J8 (k+8) (AM i) a Z=some (.slice s.1 s.2.1 s.2.2,Z++τ)/\Ba (Z++τ) s (Si m a) /\ ∀ q ∈ hs s,Z.length<=q:=fun Z hμ=>rM k hk hμ hI a ha;have hst:IC m a=cZ m a (Aq m a).1.toNat:=rfl;have hrf:Si m a=(List.range (Aq m a).1.toNat).map fun (x:Nat)=>Bj m a (x:Int):=rfl;rw[hst];rw[hrf] at hR;obtain ⟨nn,hnn⟩:∃ nn:Nat,(Aq m a).1=(nn:Int):=⟨(Aq m a).1.toNat,by omega⟩;have hnt:(Aq m a).1.toNat=nn:=by omega
 rw[hnt] at hR ⊢;obtain ⟨S,hS⟩:∃ S,Au.cells [.int .i64 (Aq m a).1,.int .i64 (Aq m a).2.1,.int .i64 (Aq m a).2.2] Ad true=S:=⟨_,rfl⟩;obtain ⟨Z,hμ⟩:∃ Z,J++τ1++[S]=Z:=⟨_,rfl⟩;have hμσ:Z=J++(τ1++[S]):=by rw[<- hμ,ya]
 have lm:(J++τ1).length<Z.length:=by rw[<- hμ]; simp
 have hm0:Ai Z i m:=by rw[hμσ]; exact h.app _
 obtain ⟨τ2,sl,e2,li2,new2⟩:=hR Z hm0;have hS2:(Z++τ2)[(J++τ1).length]?=some (.cells [.int .i64 (Aq m a).1,.int .i64 (Aq m a).2.1,.int .i64 (Aq m a).2.2] Ad true):=by
  rw[AT lm,<- hμ,yK,hS]
 obtain ⟨Z',o',e3,h3,m3⟩:=PF (k+7) a (show nn<=200 by omega) (h0:=(J++τ1).length) (T:=Ad) nn 0 (k+8) (Z++τ2) (none,0,0) li2 hS2 (Ba.nil _) (by simp[hs]) (fun q hq hm=>by simp[hs] at hm) (by omega) (by omega);rw[show ((0:Nat):Int)=0 from rfl] at e3;have hf:=li2.form;have f1:sl.2.1=nn:=by rw[hf]; simp
 have f2:sl.2.2=nn:=by rw[hf]; simp
 obtain ⟨τ,hτ⟩:∃ τ,Z'=J++τ:=by
  refine FV (by have:=m3.len; simp at this lm; omega) fun q hq=>?_;have hl:(J++τ1).length=J.length+τ1.length:=yi;rw[m3.same q (by rw[yi]; omega) (by simp[hs]),AT (by omega),hμσ,AT hq]
 refine ⟨τ,o', ?_,by rw[<- hτ]; exact h3,fun q hq=>?_⟩
 ·rw[UP];have e1':AN (k+8) (AM i) a J=_:=e1;simp only[e1',AI,j0,ze,zo,IN,Nat.reduceAdd,ye,Aam,Aat,HG,Ag,Ae,EV,hS,hμ,e2,ED,f1,f2,e3,GZ,hτ]
 ·have:=m3.new q hq;rcases this with hh | hh
  ·simp[hs] at hh
  ·have hl:(J++τ1).length=J.length+τ1.length:=yi;rw[yi] at hh;omega
theorem lX (m:HM) (s:TC) (l:List Int) (a:Int):Un m s (l++[a])=Un m s l++(if Ko m s a && decide ((Aq m a).2.2=2) && Ko m s (Bj m a 0) then [Bj m a 1] else []):=by
 unfold Un;rw[Aa2,Aae];congr 1;cases hq:(Ko m s a && decide ((Aq m a).2.2=2) && Ko m s (Bj m a 0)) <;> simp[hq]
theorem dY (m:HM) (s:TC) (l:List Int):(Un m s l).length<=l.length:=by
 unfold Un; rw[zI]; exact Aaj _ _
theorem SH (hi:∀ a,AK (m.wds.getD a 0)) (a x:Int):AK (Bj m a x):=by
 unfold Bj J0;split
 ·exact hi _
 ·unfold AK; dsimp only; omega
theorem VW (k:Nat) {sl:Bp} {l:List Int} (hl:l.length<=100000) (hv:∀ v ∈ l,AK v):∀ (n x f:Nat) (Z:Aa) (o:Bp),JT Z i p c m r s->Ba Z sl l->Ba Z o (Un m s (l.take x))->(∀ q ∈ hs o,q ∉ i.l/\q ∉ p.l/\q ∉ c.l/\q ∉ hs sl)->x+n=l.length->n<f ->
  ∃ Z' o',BZ (k+8) f (Dd c) sl.1 l.length l.length ((l.length:Nat):Int) o (x:Int) Z=some (.exit 0,[.slice o'.1 o'.2.1 o'.2.2],Z')/\Ba Z' o' (Un m s l)/\Mv (hs o) (hs o') Z Z'
 | n,x,0,Z,o,T,hli,ho,d,hx,hf=>by omega
 | 0,x,f+1,Z,o,T,hli,ho,d,hx,hf=>by
   rw[Jk];simp only[xY (show ¬ (x:Int)<((l.length:Nat):Int) by omega),By];rw[zp (by omega)] at ho;exact ⟨Z,o,rfl,ho,Mv.refl _ _⟩
 | n+1,x,f+1,Z,o,T,hli,ho,d,hx,hf=>by
   obtain ⟨b,e,l1,_⟩:=hli.ld (x:=x) (by omega);have qx:(0<=(x:Int)/\(x:Int)<((l.length:Nat):Int))=True:=zl (by omega);have w1:Ar ((x:Int)+1)=((x+1:Nat):Int):=Ah (by unfold AK; omega);have hgd:l[x]?=some (l.getD x 0):=by
    rw[yd,yg (show x<l.length by omega)]; rfl
   have htk:l.take (x+1)=l.take x++[l.getD x 0]:=by
    rw[Abx,hgd]; rfl
   have hvx:AK (l.getD x 0):=hv _ (Aa4 hgd);generalize l.getD x 0=a at l1 htk hvx;have hsn:=lX m s (l.take x) a;rw[<- htk] at hsn;have hdl:=dY m s (l.take x);have htl:(l.take x).length=x:=by rw[zx]; omega
   have off:∀ Z1_,Mv (hs o) (hs o) Z Z1_->JT Z1_ i p c m r s/\Ba Z1_ sl l:=fun Z1_ m1=>⟨T.Aw m1.len (fun q hq=>m1.same q (T.h.lt q hq) fun hm=>(d q hm).1 hq) (fun q hq=>m1.same q (T.rt.lt q hq) fun hm=>(d q hm).2.1 hq) (fun q hq=>m1.same q (T.co.lt q hq) fun hm=>(d q hm).2.2.1 hq),hli.Aw fun q hq=>m1.same q (hli.lt q hq) fun hm=>(d q hm).2.2.2 hq⟩;rw[Jk];have es:C5 (k+8) (Dd c) a Z=_:=XH (k+3) T a hvx;simp only[xZ (show (x:Int)<((l.length:Nat):Int) by omega),IT,qx,ye,e,AI,xQ,yH,IN,yl,l1,w1,es,Ao];have skip:∀ τ,(Ko m s a && decide ((Aq m a).2.2=2) && Ko m s (Bj m a 0))=false -> ∃ Z' o',BZ (k+8) f (Dd c) (some ⟨b,0,none⟩) l.length l.length ((l.length:Nat):Int) (o.1,o.2.1,o.2.2) ((x+1:Nat):Int) (Z++τ)=some (.exit 0,[.slice o'.1 o'.2.1 o'.2.2],Z')/\Ba Z' o' (Un m s l)/\Mv (hs o) (hs o') Z Z':=fun τ hq=>by
    rw[hq] at hsn;simp only[y8,yq,yw] at hsn;have m1:=Mv.app (hs o) Z τ;obtain ⟨Z',o',e3,h3,m3⟩:=VW k hl hv n (x+1) f (Z++τ) o (off _ m1).1 (off _ m1).2 (by rw[hsn]; exact ho.app τ) d (by omega) (by omega);rw[e] at e3;exact ⟨Z',o',e3,h3,m1.trans m3⟩
   have skip0:=skip [];rw[yw] at skip0;cases hsa:Ko m s a with
   | false=>
     simp only[yY,IT,AI];exact skip0 (by rw[hsa]; rfl)
   | true=>
     obtain ⟨τ1,ek⟩:=jB (k+1) T.h a hvx;have ek':G4 (k+8) (AM i) a Z=_:=ek;simp only[yp,By,AI,T.co.GK,ek',Ag];by_cases hk2:(Aq m a).2.2=2;rotate_left
     ·rw[show ((Aq m a).2.2 != 2)=true from zr.2 hk2];simp only[IT];exact skip τ1 (by rw[hsa,xY hk2]; rfl)
     ·rw[show ((Aq m a).2.2 != 2)=false from by rw[hk2]; rfl];have T1:=T.app τ1;obtain ⟨τ2,er⟩:=UJ (k+1) T1.h T.mo.inv a 0 hvx;have er':AG (k+8) (AM i) a 0 (Z++τ1)=some (.tuple #[.int .i64 (Bj m a 0),.int .i64 (J0 m a 0 false).2],Z++τ1++τ2):=er;have T2:=T1.app τ2;have es2:C5 (k+8) (Dd c) (Bj m a 0) (Z++τ1++τ2)=_:=XH (k+3) T2 _ (SH T.h.wi a 0);simp only[By,T1.co.GK,AI,er',Cp,es2,Ao];cases hs2:Ko m s (Bj m a 0) with
      | false=>
        simp only[By,AI,ye,GZ];rw[ya];exact skip (τ1++τ2) (by rw[hs2,Bool.and_false])
      | true=>
        obtain ⟨τ3,er3⟩:=UJ (k+1) T2.h T.mo.inv a 1 hvx;have er3':AG (k+8) (AM i) a 1 (Z++τ1++τ2)=some (.tuple #[.int .i64 (Bj m a 1),.int .i64 (J0 m a 1 false).2],Z++τ1++τ2++τ3):=er3;have ho3:=((ho.app τ1).app τ2).app τ3;obtain ⟨o1,Z1_,e2,li2,m2⟩:=ho3.push (Bj m a 1) Aj (by omega);have m1:Mv (hs o) (hs o1) Z Z1_:=(((Mv.app (hs o) Z τ1).trans (Mv.app (hs o) _ τ2)).trans (Mv.app (hs o) _ τ3)).trans m2;have mo:=fun q (hq:q ∈ hs o1)=>m1.new q hq;rw[hsa,hk2,hs2] at hsn;simp only[Acp,Bool.and_self,ye] at hsn;have T3:JT Z1_ i p c m r s:=T.Aw m1.len (fun q hq=>m1.same q (T.h.lt q hq) fun hm=>(d q hm).1 hq) (fun q hq=>m1.same q (T.rt.lt q hq) fun hm=>(d q hm).2.1 hq) (fun q hq=>m1.same q (T.co.lt q hq) fun hm=>(d q hm).2.2.1 hq);have hli3:Ba Z1_ sl l:=hli.Aw fun q hq=>m1.same q (hli.lt q hq) fun hm=>(d q hm).2.2.2 hq;obtain ⟨Z',o',e3,h3,m3⟩:=VW k hl hv n (x+1) f Z1_ o1 T3 hli3 (by rw[hsn]; exact li2) (fun q hq=>by
         rcases mo q hq with hh | hh
         ·exact d q hh
         ·exact ⟨fun hm=>by have:=T.h.lt q hm; omega,fun hm=>by have:=T.rt.lt q hm; omega,fun hm=>by have:=T.co.lt q hm; omega,fun hm=>by have:=hli.lt q hm; omega⟩) (by omega) (by omega);rw[e] at e3;refine ⟨Z',o', ?_,h3,m1.trans m3⟩;simp only[IT,T2.co.GK,AI,er3',Cp,Ae,e2,ye,GZ,e3]
theorem bV (hn:m.bls.length<=64):∀ v ∈ Ga m,AK v:=by
 intro v hv;unfold Ga CK at hv;obtain ⟨j,hj,rfl⟩:=zK.1 hv;have:=(Dh.1 hj).1;unfold AK; omega
theorem Nk (hn:m.bls.length<=64):(Ga m).length<=2048:=by
 unfold Ga CK EY;rw[zI];have:=LV m 0 (32*m.bls.length);omega
theorem uv (k:Nat) (hk:5000<=k) (T:JT J i p c m r s) (hp:s.ph≠2):∃ J' c',FC (k+12) (Dd c) J=some (.tuple #[],J')/\JT J' i p c' m r (dZ m s)/\Mv c.l c'.l J J'/\c'.cb=c.cb:=by
 have hnt:=T.mo.nt;have hal:=Nk hnt;obtain ⟨τ,sl,e1,li⟩:=bM (k+5) (by omega) T.h;have e1':BJ (k+11) (AM i) J=_:=e1;have hge:=li.ge;have li:Ba (J++τ) sl (Ga m):=Ba.ints li;have T1:=T.app τ;obtain ⟨Z,o,e2,li2,m2⟩:=VW (k+3) (by omega) (bV hnt) (Ga m).length 0 (k+11) (J++τ) (none,0,0) T1 li (Ba.nil _) (fun q hq=>by simp[hs] at hq) (by omega) (by omega);rw[show ((0:Nat):Int)=0 from rfl] at e2;have T2:JT Z i p c m r s:=T1.Aw m2.len (fun q hq=>m2.same q (T1.h.lt q hq) (by simp[hs])) (fun q hq=>m2.same q (T1.rt.lt q hq) (by simp[hs])) (fun q hq=>m2.same q (T1.co.lt q hq) (by simp[hs]));have hdl:=dY m s (Ga m);obtain ⟨J',c',e3,T3,m3,b3⟩:=Pd k (sl:=o) (l:=Un m s (Ga m)) (by omega) (fun v hv=>by
  unfold Un at hv;obtain ⟨a,_,rfl⟩:=zK.1 hv;exact SH T.h.wi a 1) c.cb (Un m s (Ga m)).length 0 (k+11) Z c s T2 rfl hp li2 (fun q hq hm=>by
   rcases m2.new q hq with hh | hh
   ·simp[hs] at hh
   ·have:=T1.co.lt q hm; omega) (by omega) (by omega);rw[show ((0:Nat):Int)=0 from rfl] at e3;have f:=li.form;have f1:sl.2.1=(Ga m).length:=by rw[f]
 have f2:sl.2.2=(Ga m).length:=by rw[f]
 have g:=li2.form;have g1:o.2.1=(Un m s (Ga m)).length:=by rw[g]
 have g2:o.2.2=(Un m s (Ga m)).length:=by rw[g]
 refine ⟨J',c', ?_,T3,((Mv.app c.l J τ).trans (m2.nil c.l |>.wide (fun q hq=>hq) fun q hq=>.inl hq)).trans m3,b3⟩;rw[O9];simp only[AI,IN,yl,T.co.GK,e1',ED,f1,f2,e2,ye,g1,g2,Tv,e3]
end
section
variable {J:Aa} {m:HM} {r:DX} {s:TC} {i:Cd} {p:PI} {c:CI}
theorem Ou (k:Nat) (a kd:Int) (ha:AK a) {nn:Int} (hn:nn<=200) {h2:Nat} {rr dd:Int} {T:TypeId}:∀ (n x f:Nat) (acc:Int) (Z:Aa) (m:HM),Ai Z i m->MK m->h2 ∉ i.l->Z[h2]?=some (.cells [.int .i64 rr,.int .i64 dd,.int .i64 kd] T true)->(x:Int)+n=nn->n<f ->
  ∃ Z' acc',DF (k+7) f (AM i) a h2 nn acc (x:Int) Z=some (.exit 0,[.int .i64 acc'],Z')/\Ai Z' i (TX a kd n x m)/\MK (TX a kd n x m)/\(TX a kd n x m).bls.length=m.bls.length/\Be i Z Z'
 | n,x,0,acc,Z,m,h,hM,hn2,hc,hx,hf=>by omega
 | 0,x,f+1,acc,Z,m,h,hM,hn2,hc,hx,hf=>by
   rw[L9];simp only[xY (show ¬ (x:Int)<nn by omega),By];exact ⟨Z,acc,rfl,h,hM,rfl,Be.refl _ _⟩
 | n+1,x,f+1,acc,Z,m,h,hM,hn2,hc,hx,hf=>by
   have w1:Ar ((x:Int)+1)=((x+1:Nat):Int):=Ah (by unfold AK; omega);obtain ⟨τ,e1⟩:=UJ k h hM.inv a (x:Int) ha;have e1':AG (k+7) (AM i) a (x:Int) Z=some (.tuple #[.int .i64 (Bj m a (x:Int)),.int .i64 (J0 m a (x:Int) false).2],Z++τ):=e1;have h1:=h.app τ;have k1:=Be.app i Z τ;have hc1:(Z++τ)[h2]?=_:=(AT (Af hc)).trans hc;have l2:Ak .i64 (Z++τ) h2 2=some kd:=(Jj hc1).2.2;rw[L9,TX];have es:Hn (k+7) kd (x:Int) (Z++τ)=_:=jG (k+6) kd (x:Int) _;simp only[xZ (show (x:Int)<nn by omega),IT,e1',AI,Cp,IN,l2,es,Ao,w1];have skip:¬ (Bj m a (x:Int)≠0/\Kq kd (x:Int)=true) -> ∃ Z' acc',DF (k+7) f (AM i) a h2 nn acc ((x+1:Nat):Int) (Z++τ)=some (.exit 0,[.int .i64 acc'],Z')/\Ai Z' i (TX a kd n (x+1) (if Bj m a (x:Int)≠0/\Kq kd (x:Int)=true then (Cv m a (x:Int) 0).2 else m))/\MK (TX a kd n (x+1) (if Bj m a (x:Int)≠0/\Kq kd (x:Int)=true then (Cv m a (x:Int) 0).2 else m))/\(TX a kd n (x+1) (if Bj m a (x:Int)≠0/\Kq kd (x:Int)=true then (Cv m a (x:Int) 0).2 else m)).bls.length=m.bls.length/\Be i Z Z':=fun hq=>by
    rw[ym hq];obtain ⟨Z',acc',e3,g1,g2,g3,g4⟩:=Ou k a kd ha hn n (x+1) f acc (Z++τ) m h1 hM hn2 hc1 (by omega) (by omega);exact ⟨Z',acc',e3,g1,g2,g3,k1.trans g4⟩
   by_cases hz:Bj m a (x:Int)=0
   ·rw[show (Bj m a (x:Int) != 0)=false from by rw[hz]; rfl];simp only[By,AI,ye,D7];exact skip (fun hh=>hh.1 hz)
   ·rw[show (Bj m a (x:Int) != 0)=true from zr.2 hz];simp only[IT,AI];cases hq:Kq kd (x:Int) with
    | false=>
      simp only[By,AI,ye,D7];have:=skip (fun hh=>by rw[hq] at hh; cases hh.2);rw[hq] at this;exact this
    | true=>
      rw[yk ⟨hz,rfl⟩];obtain ⟨J1_,e2,hh2,kk2⟩:=Rh k h1 hM.inv a (x:Int) 0 ha (by unfold AK; omega);have hM2:=hM.setRef a (x:Int) 0;have hc2:J1_[h2]?=_:=(kk2.same h2 (Af hc1) hn2).trans hc1;obtain ⟨Z',acc',e3,g1,g2,g3,g4⟩:=Ou k a kd ha hn n (x+1) f (Ar (acc+1)) J1_ _ hh2 hM2 hn2 hc2 (by omega) (by omega);refine ⟨Z',acc', ?_,g1,g2,by rw[g3,(OH m a (x:Int) 0).1],(k1.trans kk2).trans g4⟩;simp only[IT,e2,AI,Ag,ye,D7,e3]
theorem gL (k:Nat) (hk:1000<k) (h:Ai J i m) (hM:MK m) (a:Int) (ha:AK a) (fv:Value) (K:Int->Bool) (hK:∀ τ v,AK v->Gd (k+8) fv [.int .i64 v] (J++τ)=some (.bool (K v),J++τ)):
  ∃ J' n',IH (k+9) (AM i) a fv J=some (.int .i64 n',J') /\
   Ai J' i (if (Aq m a).2.2≠1/\(Aq m a).2.2≠2 then m else if Bj m a 0≠0/\K (Bj m a 0)=true then m else TX a (Aq m a).2.2 (Aq m a).1.toNat 0 m) /\
   MK (if (Aq m a).2.2≠1/\(Aq m a).2.2≠2 then m else if Bj m a 0≠0/\K (Bj m a 0)=true then m else TX a (Aq m a).2.2 (Aq m a).1.toNat 0 m) /\
   (if (Aq m a).2.2≠1/\(Aq m a).2.2≠2 then m else if Bj m a 0≠0/\K (Bj m a 0)=true then m else TX a (Aq m a).2.2 (Aq m a).1.toNat 0 m).bls.length=m.bls.length/\Be i J J':=by
 obtain ⟨τ1,e1⟩:=Su (k+2) h a ha;have e1':AN (k+8) (AM i) a J=_:=e1;obtain ⟨s1,s2,s3,s4⟩:=Ng hM.inv a;obtain ⟨S,hS⟩:∃ S,Au.cells [.int .i64 (Aq m a).1,.int .i64 (Aq m a).2.1,.int .i64 (Aq m a).2.2] Ad true=S:=⟨_,rfl⟩;have hS2:(J++τ1++[S])[(J++τ1).length]?=some (.cells [.int .i64 (Aq m a).1,.int .i64 (Aq m a).2.1,.int .i64 (Aq m a).2.2] Ad true):=by
  rw[yK,hS]
 have bx:=Jj hS2;obtain ⟨l0,l1,l2⟩:=bx;have hh:J++τ1++[S]=J++(τ1++[S]):=ya _ _ _;have h1:Ai (J++τ1++[S]) i m:=by rw[hh]; exact h.app _
 have k1:Be i J (J++τ1++[S]):=by rw[hh]; exact Be.app _ _ _
 rw[Ud];simp only[e1',AI,j0,ze,zo,IN,Nat.reduceAdd,ye,Aam,Aat,HG,Ag,Ae,EV,hS,l2];by_cases c1:(Aq m a).2.2≠1/\(Aq m a).2.2≠2
 ·rw[yk c1,zr.2 c1.1,zr.2 c1.2];simp only[IT,AI];exact ⟨_,0,rfl,h1,hM,trivial,k1⟩
 rw[ym c1];have hb:((bif ((Aq m a).2.2 != 1) then some (((Aq m a).2.2 != 2),J++τ1++[S]) else some (false,J++τ1++[S])):Option (Bool × Aa))=some (false,J++τ1++[S]):=by
  by_cases q1:(Aq m a).2.2=1
  ·rw[q1]; rfl
  ·have q2:(Aq m a).2.2=2:=by
    by_cases q2:(Aq m a).2.2=2
    ·exact q2
    ·exact absurd ⟨q1,q2⟩ c1
   rw[q2]; rfl
 rw[hb];obtain ⟨τ2,er⟩:=UJ (k+1) h1 hM.inv a 0 ha;have er':AG (k+8) (AM i) a 0 (J++τ1++[S])=some (.tuple #[.int .i64 (Bj m a 0),.int .i64 (J0 m a 0 false).2],J++τ1++[S]++τ2):=er;have h2:=h1.app τ2;have k2:Be i J (J++τ1++[S]++τ2):=k1.trans (Be.app _ _ _);have hS3:(J++τ1++[S]++τ2)[(J++τ1).length]?=_:=(AT (Af hS2)).trans hS2;have l0':=(Jj hS3).1;simp only[AI,By,er',Cp];have hK':=hK (τ1++[S]++τ2) (Bj m a 0) (SH h.wi a 0);rw[show J++(τ1++[S]++τ2)=J++τ1++[S]++τ2 from by simp only[ya]] at hK';have go:¬ (Bj m a 0≠0/\K (Bj m a 0)=true) -> ∃ Z' acc',DF (k+8) (k+8) (AM i) a (J++τ1).length (Aq m a).1 0 0 (J++τ1++[S]++τ2)=some (.exit 0,[.int .i64 acc'],Z')/\Ai Z' i (TX a (Aq m a).2.2 (Aq m a).1.toNat 0 m)/\MK (TX a (Aq m a).2.2 (Aq m a).1.toNat 0 m)/\(TX a (Aq m a).2.2 (Aq m a).1.toNat 0 m).bls.length=m.bls.length/\Be i (J++τ1++[S]++τ2) Z':=fun _=>
  Ou (k+1) a (Aq m a).2.2 ha s2 (h2:=(J++τ1).length) (T:=Ad) (Aq m a).1.toNat 0 (k+8) 0 (J++τ1++[S]++τ2) m h2 hM (fun hm=>by have:=h.lt _ hm; rw[yi] at this; omega) hS3 (by omega) (by omega);by_cases hz:Bj m a 0=0
 ·have hn:¬ (Bj m a 0≠0/\K (Bj m a 0)=true):=fun hh=>hh.1 hz;rw[ym hn];obtain ⟨Z',acc',e3,g1,g2,g3,g4⟩:=go hn;refine ⟨Z',acc', ?_,g1,g2,g3,k2.trans g4⟩;rw[show (Bj m a 0 != 0)=false from by rw[hz]; rfl];simp only[By,AI,l0',e3,ye,D7]
 ·rw[show (Bj m a 0 != 0)=true from zr.2 hz];simp only[IT,hK',AI,Ao];cases hq:K (Bj m a 0) with
  | true=>
    rw[yk ⟨hz,rfl⟩];simp only[IT];exact ⟨_,0,rfl,h2,hM,trivial,k2⟩
  | false=>
    have hn:¬ (Bj m a 0≠0/\K (Bj m a 0)=true):=fun hh=>by rw[hq] at hh; cases hh.2
    rw[ym (fun hh=>by cases hh.2)];obtain ⟨Z',acc',e3,g1,g2,g3,g4⟩:=go hn;refine ⟨Z',acc', ?_,g1,g2,g3,k2.trans g4⟩;simp only[By,l0',AI,e3,ye,D7]
theorem hY (k:Nat) (x0:Option Addr) (x1:Int) (J:Aa):Gd k (.func (.func 266) #[.pointer x0] #[]) [.int .i64 x1] J=C5 k x0 x1 J:=by
 simp only[Gd,C5,Ac]; kernel_rfl
theorem nU (k:Nat) (hk:1000<k) (T:JT J i p c m r s) (a:Int) (ha:AK a):∃ J' b,IX (k+10) (AM i) a (.func (.func 266) #[.pointer (Dd c)] #[]) J=some (.bool b,J')/\JT J' i p c (oU m s a) r s/\Mv i.l i.l J J':=by
 obtain ⟨J',n',e,g1,g2,g3,g4⟩:=gL k hk T.h T.mo a ha (.func (.func 266) #[.pointer (Dd c)] #[]) (Ko m s) (fun τ v hv=>by
  rw[hY];exact XH (k+3) (T.app τ) v hv);refine ⟨J',decide (n'>0), ?_,T.eZ g1 g4 g2 g3,g4.mv⟩;rw[VK];simp only[e,AI,Ag]
end
section
variable {J:Aa} {m:HM} {r:DX} {s:TC} {i:Cd} {p:PI} {c:CI}
theorem Us (k:Nat) (hk:1000<k) {sl:Bp} {l:List Int} (hl:l.length<=100000) (hv:∀ v ∈ l,AK v) (ho:∀ q ∈ hs sl,q ∉ i.l):∀ (n x f:Nat) (J:Aa) (m:HM),JT J i p c m r s->Ba J sl l->x+n=l.length->n<f ->
  ∃ J',FQ (k+10) f (Dd c) sl.1 l.length l.length ((l.length:Nat):Int) (x:Int) J=some (.exit 0,[],J')/\JT J' i p c (Sy m s (l.drop x)) r s/\Mv i.l i.l J J'
 | n,x,0,J,m,T,hli,hx,hf=>by omega
 | 0,x,f+1,J,m,T,hli,hx,hf=>by
   rw[LC];simp only[xY (show ¬ (x:Int)<((l.length:Nat):Int) by omega),By];rw[yS (by omega)];exact ⟨J,rfl,T,Mv.refl _ _⟩
 | n+1,x,f+1,J,m,T,hli,hx,hf=>by
   obtain ⟨b,e,l1,_⟩:=hli.ld (x:=x) (by omega);have qx:(0<=(x:Int)/\(x:Int)<((l.length:Nat):Int))=True:=zl (by omega);have w1:Ar ((x:Int)+1)=((x+1:Nat):Int):=Ah (by unfold AK; omega);have hd:l.drop x=l.getD x 0::l.drop (x+1):=by
    rw[yO (by omega),yd,yg (by omega)]; rfl
   have hvx:AK (l.getD x 0):=by
    rw[yd,yg (show x<l.length by omega)]; exact hv _ (yU _)
   rw[hd];show ∃ J',_/\JT J' i p c ((l.drop (x+1)).foldl _ _) r s/\_;generalize l.getD x 0=a at l1 hvx;have es:C5 (k+10) (Dd c) a J=_:=XH (k+5) T a hvx;rw[LC];simp only[xZ (show (x:Int)<((l.length:Nat):Int) by omega),IT,qx,ye,e,AI,xQ,yH,IN,yl,l1,w1,es,Ao];cases hsa:Ko m s a with
   | false=>
     obtain ⟨J',e2,T2,m2⟩:=Us k hk hl hv ho n (x+1) f J m T hli (by omega) (by omega);rw[e] at e2;refine ⟨J', ?_,T2,m2⟩;simp only[By,AI,ye,e2]
   | true=>
     obtain ⟨J1_,b1,e1,T1,m1⟩:=nU k hk T a hvx;have e1':IX (k+10) (AM i) a (.func (.func 266) #[.pointer (some ⟨c.cb,0,none⟩)] #[]) J=_:=e1;obtain ⟨k1,_,_⟩:=m1.DH (X:=hs sl) hli.lt ho;obtain ⟨J',e2,T2,m2⟩:=Us k hk hl hv ho n (x+1) f J1_ _ T1 (hli.Aw k1) (by omega) (by omega);rw[e] at e2;refine ⟨J', ?_,T2,m1.trans m2⟩;simp only[IT,T.co.GK,AI,e1',Ao,ye,e2]
def SL (m:HM) (n:Nat):List Int:=((List.range n).filter fun (b:Nat)=>decide (Cb m (b:Int)=1\/Cb m (b:Int)=2)).map fun (b:Nat)=>(b:Int)
theorem lN (m:HM) (n:Nat):SL m (n+1)=SL m n++(if decide (Cb m (n:Int)=1\/Cb m (n:Int)=2)=true then [(n:Int)] else []):=
 fS n (fun (b:Nat)=>decide (Cb m (b:Int)=1\/Cb m (b:Int)=2)) fun (b:Nat)=>(b:Int)
theorem dP (m:HM) (n:Nat):(SL m n).length<=n:=by
 unfold SL;rw[zI];have:=Aaj (fun (b:Nat)=>decide (Cb m (b:Int)=1\/Cb m (b:Int)=2)) (List.range n)
 rwa [Aby] at this
theorem Ut (k:Nat) (cb:Nat) {rb nb nn:Nat} (hn:nn<=100):∀ (n x f:Nat) (Z:Aa) (c:CI),Ai Z i m->FA Z c i.hb rb nb { s with left:=SL m x }->(∀ q ∈ i.l,q ∉ c.l)->c.cb=cb->x+n=nn->n<f ->
  ∃ Z' c',FR (k+3) f (some ⟨cb,0,none⟩) (nn:Int) (x:Int) Z=some (.exit 2,[],Z')/\FA Z' c' i.hb rb nb { s with left:=SL m nn }/\Mv c.l c'.l Z Z'/\c'.cb=cb
 | n,x,0,Z,c,h,hc,ho,hcb,hx,hf=>by omega
 | 0,x,f+1,Z,c,h,hc,ho,hcb,hx,hf=>by
   rw[LD];simp only[xY (show ¬ (x:Int)<(nn:Int) by omega),By];have e:x=nn:=by omega
   subst e;exact ⟨Z,c,rfl,hc,Mv.refl _ _,hcb⟩
 | n+1,x,f+1,Z,c,h,hc,ho,hcb,hx,hf=>by
   have w1:Ar ((x:Int)+1)=((x+1:Nat):Int):=Ah (by unfold AK; omega);have hsu:=lN m x;have hlen:=dP m x;have est:Bb (k+3) (AM i) (x:Int) Z=_:=XA k h (x:Int);have l0:BR Z cb 0=some (AM i):=by rw[<- hcb]; exact hc.GK
   have l7:AR Z cb 7=some (c.lf.1,(SL m x).length,(SL m x).length):=by rw[<- hcb]; exact hc.wQ
   rw[LD];simp only[xZ (show (x:Int)<(nn:Int) by omega),IT,AI,IN,yl,l0,est,Ag,w1];have hb:((bif (Cb m (x:Int) == 1) then some (true,Z) else some ((Cb m (x:Int) == 2),Z)):Option (Bool × Aa))=some (decide (Cb m (x:Int)=1\/Cb m (x:Int)=2),Z):=by
    by_cases q1:Cb m (x:Int)=1
    ·rw[q1]; rfl
    ·rw[show (Cb m (x:Int) == 1)=false from yM.2 q1];by_cases q2:Cb m (x:Int)=2
     ·rw[q2]; rfl
     ·rw[show (Cb m (x:Int) == 2)=false from yM.2 q2,xY (fun hh=>hh.elim q1 q2)]; rfl
   rw[hb];simp only[AI];cases hq:decide (Cb m (x:Int)=1\/Cb m (x:Int)=2) with
   | false=>
     rw[hq] at hsu;simp only[y8,yq,yw] at hsu;obtain ⟨Z',c',e2,h2,m2,b2⟩:=Ut k cb hn n (x+1) f Z c h (by rw[hsu]; exact hc) ho hcb (by omega) (by omega);refine ⟨Z',c', ?_,h2,m2,b2⟩;simp only[By,AI,ye,e2]
   | true=>
     rw[hq] at hsu;simp only[ye] at hsu;obtain ⟨s',Z1_,e1,li1,m1⟩:=hc.lf.push (x:Int) Aj (by show (SL m x).length<=_; omega);have g:=hc.lf.form;have g1:c.lf.2.1=(SL m x).length:=by rw[g]
     have g2:c.lf.2.2=(SL m x).length:=by rw[g]
     rw[g1,g2] at e1;obtain ⟨Z2_,e2,h2,m2⟩:=hc.kG (fun q hq=>hq) m1 li1;obtain ⟨k1,k2,_⟩:=m2.DH (X:=i.l) h.lt ho;obtain ⟨Z',c',e3,h3,m3,b3⟩:=Ut k cb hn n (x+1) f Z2_ _ (h.Aw k1) (by rw[hsu]; exact h2) k2 hcb (by omega) (by omega);refine ⟨Z',c', ?_,h3,m2.trans m3,b3⟩;rw[hcb] at e2;simp only[IT,l7,AI,Ae,e1,e2,ye,e3]
theorem su (k:Nat) (hk:5000<=k) (T:JT J i p c m r s) (hp:s.ph≠2):∃ J' c',Hj (k+13) (Dd c) J=some (.tuple #[],J')/\JT J' i p c' (YY m r s).1 r (YY m r s).2/\Mv (i.l++c.l) (i.l++c'.l) J J'/\c'.cb=c.cb:=by
 have hnt:=T.mo.nt;have hal:=Nk hnt;obtain ⟨J1_,c1,e1,T1,m1,b1⟩:∃ J1_ c1,((bif s.look then ((En (k+12) (Dd c) J).bind fun r3=>Vz r3.1 (some (.normal,[],r3.2))) else (some (.normal,[],J)):Option Bl))=some (.normal,[],J1_)/\JT J1_ i p c1 m r (if s.look then CA m s (Eu r) else s)/\Mv c.l c1.l J J1_/\c1.cb=c.cb:=by
  cases s.look with
  | false=>exact ⟨J,c,rfl,T,Mv.refl _ _,rfl⟩
  | true=>
    obtain ⟨J1_,c1,e1,T1,m1,b1⟩:=bj k (by omega) T hp;exact ⟨J1_,c1,by simp only[IT,e1,AI,Gs],T1,m1,b1⟩
 obtain ⟨s1,hs1⟩:∃ s1,(if s.look then CA m s (Eu r) else s)=s1:=⟨_,rfl⟩;have p1:s1.ph≠2:=by
  rw[<- hs1]; split
  ·rw[(HA m _ s).1]; exact hp
  ·exact hp
 rw[hs1] at T1;obtain ⟨J2_,c2,e2,T2,m2,b2⟩:=uv k hk T1 p1;have p2:(dZ m s1).ph≠2:=by unfold dZ; rw[(HA m _ s1).1]; exact p1
 obtain ⟨s2,hs2⟩:∃ s2,dZ m s1=s2:=⟨_,rfl⟩;rw[hs2] at T2 p2;have bb:c2.cb=c.cb:=b2.trans b1;have tp1:Dd c1=Dd c:=by unfold Dd; rw[b1]
 have tp2:Dd c2=Dd c:=by unfold Dd; rw[bb]
 rw[tp1] at e2;have m12:=m1.trans m2;have hlast:YY m r s=(if s2.list≠[] then (m,s2) else (Sy m s2 (Ga m),{ s2 with left:=s2.left++XB (Sy m s2 (Ga m)),ph:=2 })):=by
  rw[<- hs2,<- hs1]; rfl
 rw[hlast];have d6:AR J2_ c.cb 6=some (c2.ls.1,s2.list.length,s2.list.length):=by rw[<- bb]; exact T2.co.pz
 rw[Uk];simp only[AI,IN,yl,T.co.SE,e1,ye,e2,Gs,d6];by_cases hz:s2.list=[];rotate_left
 ·have:0<s2.list.length:=Aba.2 hz;rw[yk hz,xZ (by omega)];exact ⟨J2_,c2,rfl,T2,m12.right i.l,bb⟩
 rw[ym (fun hh=>hh hz)];have hl0:s2.list.length=0:=by rw[hz]; rfl
 have d0:BR J2_ c.cb 0=some (AM i):=by rw[<- bb]; exact T2.co.GK
 obtain ⟨τ,sl,e3,li⟩:=bM (k+6) (by omega) T2.h;have e3':BJ (k+12) (AM i) J2_=_:=e3;have hge:=li.ge;have li:Ba (J2_++τ) sl (Ga m):=Ba.ints li;have T3:=T2.app τ;obtain ⟨J4_,e4,T4,m4⟩:=Us (k+2) (by omega) (sl:=sl) (l:=Ga m) (by omega) (bV hnt) (fun q hq hm=>by
  obtain ⟨a,ha,rfl⟩:=BN.1 hq;have:=(hge a ha).1;have:=T2.h.lt _ hm;omega) (Ga m).length 0 (k+12) (J2_++τ) m T3 li (by omega) (by omega);rw[show ((0:Nat):Int)=0 from rfl,tp2] at e4;rw[yV] at T4;obtain ⟨m',hm'⟩:∃ m',Sy m s2 (Ga m)=m':=⟨_,rfl⟩;rw[hm'] at T4 ⊢;have hnt4:=T4.mo.nt;have l20:s2.left=[]:=T2.tok.l0 p2;have dd0:BR J4_ c.cb 0=some (AM i):=by rw[<- bb]; exact T4.co.GK
 have eb:Ax (k+12) (AM i) J4_=_:=Gm (k+10) T4.h;have hco:FA J4_ c2 i.hb p.rb m'.bls.length { s2 with left:=SL m' 0 }:=by
  have:({ s2 with left:=SL m' 0 }:TC)=s2:=by
   show ({ s2 with left:=[] }:TC)=s2;rw[<- l20]
  rw[this]; exact T4.co
 obtain ⟨J5_,c5,e5,h5,m5,b5⟩:=Ut (s:=s2) (k+9) c.cb (nn:=m'.bls.length) (by omega) m'.bls.length 0 (k+12) J4_ c2 T4.h hco (fun q hq hm=>T4.fp.ne (x:=0) (y:=2) (by simp) (by simp) (by decide) q hq hm) bb (by omega) (by omega);rw[show ((0:Nat):Int)=0 from rfl] at e5;obtain ⟨J6_,e6,h6,m6⟩:=h5.qz 2;have hbk:XB m'=SL m' m'.bls.length:=rfl;rw[l20,Aac,hbk];have tk:Sv m'.bls.length { s2 with left:=SL m' m'.bls.length,ph:=2 }:=⟨T4.tok.wl,T4.tok.ls,T4.tok.lr,by have:=dP m' m'.bls.length; show (SL m' _).length<=64; omega,fun hh=>absurd rfl hh,fun _=>hz⟩;have T6:=T4.Oz h6 (m5.trans m6) tk;refine ⟨J6_,c5, ?_,T6,((m12.right i.l).trans ((Mv.app _ _ τ).trans (m4.left c2.l))).trans ((m5.trans m6).right i.l),b5⟩;have g:=li.form;have g1:sl.2.1=(Ga m).length:=by rw[g]
 have g2:sl.2.2=(Ga m).length:=by rw[g]
 rw[b5] at e6;simp only[hl0,show decide (((0:Nat):Int)>0)=false from rfl,By,d0,AI,e3',ED,g1,g2,e4,ye,dd0,eb,Ag,e5,e6]
end
section
variable {J:Aa} {m:HM} {r:DX} {s:TC} {i:Cd} {p:PI} {c:CI}
def TG (mm:Option (Value × Aa)) (J:Aa) (i:Cd) (p:PI) (c:CI) (r:DX) (v:Value) (q:HM × TC):Prop:=
 ∃ J' c',mm=some (v,J')/\JT J' i p c' q.1 r q.2/\Mv (i.l++c.l) (i.l++c'.l) J J'/\c'.cb=c.cb
theorem uE (k:Nat) (hk:5000<=k) (T:JT J i p c m r s) (hp:s.ph≠2) {a:Int} {l:List Int} (hl:s.list=a::l):TG (DJ (k+14) (Dd c) J) J i p c r (.tuple #[]) (m,mU m s):=by
 have hnt:=T.mo.nt;have hlen:=T.tok.len;have har:=T.tok.lr a (by rw[hl]; exact zi);have hll:s.list.length=l.length+1:=by rw[hl]; rfl
 have ha:AK a:=by unfold AK; omega
 have d6:=T.co.pz;have hls:Ba J c.ls (a::l):=by rw[<- hl]; exact T.co.ls
 obtain ⟨b,eb,lb,_⟩:=hls.ld (x:=0) (by simp);have lb':Ak .i64 J b 0=some a:=lb;obtain ⟨pt,ct,e1,hol⟩:=hls.tail;rw[<- hl,eb] at e1;obtain ⟨s',τ1,e2,li1,new1⟩:=UO (k+12) pt ct l (by omega) hol;have e2':Bw (k+13) (pt,l.length,ct) J=_:=e2;obtain ⟨J2_,e3,h3,m3⟩:=T.co.kH (L:=[]) (fun q hq=>by cases hq) (Z:=J++τ1) ⟨by simp,fun q hq _=>AT hq,fun q hq=>.inr (new1 q hq)⟩ li1;have tk:Sv m.bls.length { s with list:=l }:=⟨T.tok.wl,by have:=T.tok.ls; rw[hll] at this; show l.length<=_; exact Nat.le_of_succ_le this,fun v hv=>T.tok.lr v (by rw[hl]; exact yJ _ hv),T.tok.lf,T.tok.l0,fun e=>absurd e hp⟩;have T2:=T.Oz h3 m3 tk;have n1:(s.ph == 2)=false:=yM.2 hp;have eh:AQ (k+13) (AM i) a J2_=_:=Rb (k+9) T2.h a ha;have d0:BR J2_ c.cb 0=some (AM i):=T2.co.GK;unfold TG;have hpop:mU m s=if AU m a then Ij (CA m { s with list:=l } (IC m a)) a 2 else { s with list:=l }:=by
  unfold mU; rw[hl]
 rw[hpop];rw[Kz];simp only[AI,IN,yl,T.co.ZV,n1,By,d6,xZ (show ((s.list.length:Nat):Int)>0 by omega),IT];rw[yk (by omega)];simp only[eb,AI,Aau,zw,IN,lb',e1,e2',ED,e3,d0,eh,Ao];cases hh:AU m a with
 | false=>
   simp only[By,AI,ye,y8,yq];exact ⟨J2_,_,rfl,T2,m3.right i.l,rfl⟩
 | true=>
   obtain ⟨τ4,o,e4,li4,new4⟩:=lu (k+4) (by omega) T2.h T.mo.inv a ha;have e4':HQ (k+13) (AM i) a J2_=_:=e4;have T4:=T2.app τ4;have hsl:(IC m a).length<=200:=by
    have h1:=g9 m a (Aq m a).1.toNat;have h2:=Ng T.mo.inv a;have:IC m a=cZ m a (Aq m a).1.toNat:=rfl;rw[this]; omega
   obtain ⟨J5_,c5,e5,T5,m5,b5⟩:=ZG (k+2) (sl:=o) (l:=IC m a) (by omega) (fun v hv=>by
    unfold IC at hv;obtain ⟨x,_,rfl⟩:=zK.1 hv;exact SH T2.h.wi a _) c.cb (IC m a).length 0 (k+13) (J2_++τ4) _ _ T4 rfl hp li4 (fun q hq hm=>by have:=new4 q hq; have:=T2.co.lt q hm; omega) (by omega) (by omega);rw[show ((0:Nat):Int)=0 from rfl] at e5;rw[yV] at T5;obtain ⟨j,hj,hs⟩:=Bd hh;obtain ⟨J6_,e6,h6,m6⟩:=Zk (k+3) T5.co hs.1 (v:=2) (by decide);rw[<- hj] at e6 h6;have tk6:=T5.tok.fJ hs.1 (v:=2) (by decide) (by decide);rw[<- hj] at tk6;have T6:=T5.Oz h6 m6 tk6;have g:=li4.form;have g1:o.2.1=(IC m a).length:=by rw[g]
   have g2:o.2.2=(IC m a).length:=by rw[g]
   have e6':C0 (k+13) (some ⟨c.cb,0,none⟩) a (2:Int) J5_=some (.tuple #[],J6_):=by
    have:Dd c5=some ⟨c.cb,0,none⟩:=by unfold Dd; rw[b5]
    rw[<- this]; exact e6
   refine ⟨J6_,c5, ?_,T6,(((m3.trans (Mv.app _ _ τ4)).trans m5).trans m6).right i.l,b5⟩;simp only[IT,e4',AI,g1,g2,e5,ye,e6',Gs]
theorem Ur (ws:List (BitVec 64)):∀ (l:List Int) (q:HM × Int),MK q.1->MK (N4 ws l q).1/\(N4 ws l q).1.bls.length=q.1.bls.length
 | [],q,h=>⟨h,rfl⟩
 | a::l,q,h=>by
   unfold N4;split
   ·obtain ⟨h1,h2⟩:=Ur ws l ((Ig q.1 a).2,Ar (q.2+1)) (h.kill a);exact ⟨h1,h2.trans (by rw[(Og h.inv h.sh a).1])⟩
   ·exact Ur ws l q h
theorem Ss (k:Nat) {sl:Bp} {l:List Int} (hl:l.length<=100000) (nb:Nat) (hv:∀ v ∈ l,∃ j:Nat,v=((2*j:Nat):Int)/\j<32*nb) (hnb:nb<=64):∀ (n x f:Nat) (J:Aa) (m:HM) (s:TC),JT J i p c m r s->m.bls.length=nb->Ba J sl l->(∀ q ∈ hs sl,q ∉ i.l/\q ∉ c.l)->x+n=l.length->n<f ->
  ∃ J',Ee (k+12) f (Dd c) sl.1 l.length l.length ((l.length:Nat):Int) (x:Int) J=some (.exit 0,[],J')/\JT J' i p c (N4 s.ws (l.drop x) (m,s.freed)).1 r { s with freed:=(N4 s.ws (l.drop x) (m,s.freed)).2 }/\Mv (i.l++c.l) (i.l++c.l) J J'
 | n,x,0,J,m,s,T,hb,hli,ho,hx,hf=>by omega
 | 0,x,f+1,J,m,s,T,hb,hli,ho,hx,hf=>by
   rw[Lp];simp only[xY (show ¬ (x:Int)<((l.length:Nat):Int) by omega),By];rw[yS (by omega)];exact ⟨J,rfl,T,Mv.refl _ _⟩
 | n+1,x,f+1,J,m,s,T,hb,hli,ho,hx,hf=>by
   obtain ⟨b,e,l1,_⟩:=hli.ld (x:=x) (by omega);have qx:(0<=(x:Int)/\(x:Int)<((l.length:Nat):Int))=True:=zl (by omega);have w1:Ar ((x:Int)+1)=((x+1:Nat):Int):=Ah (by unfold AK; omega);have hd:l.drop x=l.getD x 0::l.drop (x+1):=by
    rw[yO (by omega),yd,yg (by omega)]; rfl
   obtain ⟨j,hj,hjb⟩:∃ j:Nat,l.getD x 0=((2*j:Nat):Int)/\j<32*nb:=by
    rw[yd,yg (show x<l.length by omega)]; exact hv _ (yU _)
   rw[hd];rw[hj] at l1 ⊢;have eo:Cu (k+12) (Dd c) ((2*j:Nat):Int) J=_:=tB (k+8) T.co (by omega);rw[Lp];simp only[xZ (show (x:Int)<((l.length:Nat):Int) by omega),IT,qx,ye,e,AI,xQ,yH,IN,yl,l1,w1,eo,Ag];have ej:((2*j:Nat):Int).toNat/2=j:=by omega
   unfold N4;rw[ej];by_cases hz:CR 2 s.ws j=0;rotate_left
   ·rw[ym hz,show ((CR 2 s.ws j:Int) == 0)=false from by simpa using hz];obtain ⟨J',e2,T2,m2⟩:=Ss k hl nb hv hnb n (x+1) f J m s T hb hli ho (by omega) (by omega);rw[e] at e2;refine ⟨J', ?_,T2,m2⟩;simp only[By,AI,ye,e2]
   ·rw[yk hz,show ((CR 2 s.ws j:Int) == 0)=true from by simpa using hz];obtain ⟨J1_,e1,h1,k1⟩:=ao k T.h T.mo.inv ((2*j:Nat):Int) (by unfold AK; omega);have sh:=Og T.mo.inv T.mo.sh ((2*j:Nat):Int);have T1:=T.eZ h1 k1 (T.mo.kill _) (by rw[sh.1]);obtain ⟨J2_,e2,h2,m2⟩:=T1.co.gq (Ar (s.freed+1));have T2:=T1.Oz h2 m2 ⟨T1.tok.wl,T1.tok.ls,T1.tok.lr,T1.tok.lf,T1.tok.l0,T1.tok.s2⟩;have mm:Mv (i.l++c.l) (i.l++c.l) J J2_:=(k1.mv.left c.l).trans (m2.right i.l);obtain ⟨g1,g2,_⟩:=mm.DH (X:=hs sl) hli.lt (fun q hq hm=>(yf.1 hm).elim (ho q hq).1 (ho q hq).2);obtain ⟨J',e3,T3,m3⟩:=Ss k hl nb hv hnb n (x+1) f J2_ _ _ T2 (by rw[sh.1]; exact hb) (hli.Aw g1) ho (by omega) (by omega);rw[e] at e3;refine ⟨J', ?_,T3,mm.trans m3⟩;simp only[IT,T.co.GK,AI,e1,Ag,T1.co.wR,e2,ye,e3]
theorem aE:∀ (n x:Nat) (ws:List (BitVec 64)),(WL ws n x).length=ws.length
 | 0,_,_=>rfl
 | n+1,x,ws=>by rw[WL,aE n]; exact EW _ _ _ _
theorem jZ (k:Nat) (hk:5000<=k) (T:JT J i p c m r s) (hp:s.ph=2):∃ J',((AR J c.cb 7).bind fun l38=>(bif ((l38.2.1:Nat):Int) == (0:Int) then ((BR J c.cb 5).bind fun p40=>(BR J c.cb 5).bind fun p42=>(DG (k+13) p42 J).bind fun r43=>(Bn .i64 r43.1).bind fun n44=>(Fh (k+13) p40 (0:Int) n44 (0:Int) r43.2).bind fun r45=>(Bn .i64 r45.1).bind fun n46=>(CT r45.2 c.cb 4 (.int .i64 (0:Int))).bind fun s48=>some (.normal,[],s48)) else (some (.normal,[],J)):Option Bl).bind fun r49=>if r49.1 = .normal then (some (Value.tuple #[],r49.2.2)) else none)=some (Value.tuple #[],J')/\JT J' i p c m r (TB (32*m.bls.length) s)/\Mv c.l c.l J J':=by
 simp only[T.co.wQ,AI];unfold TB;by_cases hz:s.left=[]
 ·rw[yk hz];have h0:s.left.length=0:=by rw[hz]; rfl
  have ee:DG (k+13) (some ⟨c.tb,0,none⟩) J=_:=gM (k+11) T.co.tab;obtain ⟨J1_,e1,h1,m1⟩:=rj (k+4) (by omega) T.co.sep.bc T.co.tab;have e1':Fh (k+13) (some ⟨c.tb,0,none⟩) 0 ((32*m.bls.length:Nat):Int) 0 J=_:=e1;obtain ⟨h2,m2⟩:=T.co.q9 h1 m1;obtain ⟨J3_,e3,h3,m3⟩:=h2.qz 0;have tk:Sv m.bls.length { s with ws:=WL s.ws (32*m.bls.length) 0,ph:=0 }:=⟨by show (WL _ _ _).length=_; rw[aE]; exact T.tok.wl,by show s.list.length<=_; rw[T.tok.s2 hp]; exact zh _,T.tok.lr,T.tok.lf,fun _=>hz,fun hh=>by cases hh⟩;refine ⟨J3_, ?_,T.Oz h3 (m2.trans m3) tk,m2.trans m3⟩;rw[h0];simp only[show (((0:Nat):Int) == 0)=true from rfl,IT,T.co.wv,AI,ee,Ag,e1',e3,ye]
 ·rw[ym hz];have:0<s.left.length:=Aba.2 hz;refine ⟨J, ?_,T,Mv.refl _ _⟩;rw[show (((s.left.length:Nat):Int) == 0)=false from by simpa using hz];simp only[By,AI,ye]
theorem sB {m:HM} {b:Int}:∀ v ∈ CK (Jy m b),∃ j:Nat,v=((2*j:Nat):Int)/\j<32*m.bls.length:=by
 intro v hv;unfold CK at hv;obtain ⟨j,hj,rfl⟩:=zK.1 hv;refine ⟨j,rfl, ?_⟩;unfold Jy at hj;split at hj
 ·have:=K6.1 hj;omega
 ·cases hj
theorem pK (m:HM) (b:Int):(CK (Jy m b)).length<=32:=by
 unfold CK Jy;rw[zI];split
 ·exact LV _ _ _
 ·simp
theorem qP (k:Nat) (hk:5000<=k) (T:JT J i p c m r s) (hp:s.ph=2):TG (Ic (k+14) (Dd c) J) J i p c r (.tuple #[]) (ZC m s):=by
 have hnt:=T.mo.nt;have d7:=T.co.wQ;have hlf:=T.tok.lf;unfold TG ZC;rw[Tp];cases hl:s.left with
 | nil=>
   obtain ⟨J',e1,T1,m1⟩:=jZ k hk T hp;refine ⟨J',c, ?_,T1,m1.right i.l,rfl⟩;rw[hl] at d7;simp only[AI,IN,yl,d7,zo,show decide (((0:Nat):Int)>0)=false from rfl,By,ye];rw[d7] at e1;simp only[AI,zo] at e1;exact e1
 | cons b l=>
   have hll:s.left.length=l.length+1:=by rw[hl]; rfl
   have hls:Ba J c.lf (b::l):=by rw[<- hl]; exact T.co.lf
   obtain ⟨q,eq,lb,_⟩:=hls.ld (x:=0) (by simp);have lb':Ak .i64 J q 0=some b:=lb;obtain ⟨pt,ct,e1,hol⟩:=hls.tail;rw[<- hl,eq] at e1;obtain ⟨s',τ1,e2,li1,new1⟩:=UO (k+12) pt ct l (by omega) hol;have e2':Bw (k+13) (pt,l.length,ct) J=_:=e2;obtain ⟨J2_,e3,h3,m3⟩:=T.co.kG (L:=[]) (fun q hq=>by cases hq) (Z:=J++τ1) ⟨by simp,fun q hq _=>AT hq,fun q hq=>.inr (new1 q hq)⟩ li1;have tk:Sv m.bls.length { s with left:=l }:=⟨T.tok.wl,T.tok.ls,T.tok.lr,by show l.length<=64; omega,fun hh=>absurd hp hh,T.tok.s2⟩;have T2:=T.Oz h3 m3 tk;have d0:BR J2_ c.cb 0=some (AM i):=T2.co.GK;obtain ⟨τ4,sl,e4,li4⟩:=kY (k+7) (by omega) T2.h b;have e4':BQ (k+13) (AM i) b J2_=_:=e4;have hge:=li4.ge;have li4:Ba (J2_++τ4) sl (CK (Jy m b)):=Ba.ints li4;have T4:=T2.app τ4;have hol2:=pK m b;obtain ⟨J5_,e5,T5,m5⟩:=Ss (k+1) (sl:=sl) (l:=CK (Jy m b)) (by omega) m.bls.length sB hnt (CK (Jy m b)).length 0 (k+13) (J2_++τ4) m _ T4 rfl li4 (fun q hq=>by
    obtain ⟨a,ha,rfl⟩:=BN.1 hq;have:=(hge a ha).1;exact ⟨fun hm=>by have:=T2.h.lt _ hm; omega,fun hm=>by have:=T2.co.lt _ hm; omega⟩) (by omega) (by omega);rw[show ((0:Nat):Int)=0 from rfl] at e5;rw[yV] at T5;obtain ⟨Q,hQ⟩:∃ Q,N4 s.ws (CK (Jy m b)) (m,s.freed)=Q:=⟨_,rfl⟩;have T5:JT J5_ i p { c with lf:=s' } Q.1 r { s with left:=l,freed:=Q.2 }:=by rw[<- hQ]; exact T5
   have d05:BR J5_ c.cb 0=some (AM i):=T5.co.GK;obtain ⟨J6_,e6,h6,k6⟩:=bT (k+6) (by omega) T5.h b;have e6':Fs (k+13) (AM i) b J5_=_:=e6;have hrk:=TJ T5.mo.inv T5.mo.inv2 b;have T6:=T5.eZ h6 k6 (T5.mo.release b) hrk.len;obtain ⟨J7_,e7,T7,m7⟩:=jZ k hk T6 hp;have hbl:(Di Q.1 b).2.bls.length=m.bls.length:=by
    rw[hrk.len,<- hQ]; exact (Ur s.ws _ _ T.mo).2
   rw[hbl] at T7;show ∃ J' c',_/\JT J' i p c' (Di (N4 s.ws (CK (Jy m b)) (m,s.freed)).1 b).2 r (TB (32*m.bls.length) { s with left:=l,freed:=(N4 s.ws (CK (Jy m b)) (m,s.freed)).2 })/\_/\_;rw[hQ];refine ⟨J7_,{ c with lf:=s' }, ?_,T7,((((m3.right i.l).trans (Mv.app _ _ τ4)).trans m5).trans (k6.mv.left _)).trans (m7.right i.l),rfl⟩;have g:=li4.form;have g1:sl.2.1=(CK (Jy m b)).length:=by rw[g]
   have g2:sl.2.2=(CK (Jy m b)).length:=by rw[g]
   simp only[AI,IN,yl,d7,xZ (show ((s.left.length:Nat):Int)>0 by omega),IT];rw[yk (by omega)];simp only[eq,AI,Aau,zw,IN,lb',e1,e2',ED,e3,d0,e4',g1,g2];have e5':Ee (k+13) (k+13) (Dd c) sl.1 (CK (Jy m b)).length (CK (Jy m b)).length (((CK (Jy m b)).length:Nat):Int) 0 (J2_++τ4)=some (.exit 0,[],J5_):=e5;simp only[e5',AI,ye,d05,e6',Ag];exact e7
theorem kN (k:Nat) (hk:5000<=k) (T:JT J i p c m r s):TG (DJ (k+15) (Dd c) J) J i p c r (.tuple #[]) (Jq m r s):=by
 unfold Jq;by_cases hp:s.ph=2
 ·rw[yk hp];obtain ⟨J',c',e,T',m',b'⟩:=qP k hk T hp;refine ⟨J',c', ?_,T',m',b'⟩;rw[Kz];simp only[AI,IN,yl,T.co.ZV,show (s.ph == 2)=true from zJ.2 hp,IT,e,Gs,ye]
 rw[ym hp];by_cases hl:s.list=[]
 ·rw[ym (fun hh=>hh hl)];obtain ⟨J',c',e,T',m',b'⟩:=su (k+1) (by omega) T hp;refine ⟨J',c', ?_,T',m',b'⟩;have d6:=T.co.pz;rw[hl] at d6;rw[Kz];have e':Hj (k+14) (Dd c) J=_:=e;simp only[AI,IN,yl,T.co.ZV,show (s.ph == 2)=false from yM.2 hp,By,d6,zo,show decide (((0:Nat):Int)>0)=false from rfl,e',Gs,ye]
 ·rw[yk hl];obtain ⟨a,l,e⟩:=List.exists_cons_of_ne_nil hl;exact uE (k+1) (by omega) T hp e
end
section
variable {J:Aa} {m:HM} {r:DX} {s:TC} {i:Cd} {p:PI} {c:CI}
def fy (m:HM) (v:Int):Bool:=decide (v=0) || AU m v
theorem SF {b o:Nat} {x:Option Addr} (h:BR J b o=some x) (τ:Aa):BR (J++τ) b o=some x:=by
 simp only[BR,D5] at h ⊢;cases e:J[b]? with
 | none=>rw[e] at h; cases h
 | some q=>rw[AT (Af e),e]; rw[e] at h; exact h
theorem dv (k:Nat) (h:Ai J i m) {h0:Nat} (hb:BR J h0 0=some (AM i)) (v:Int) (hv:AK v):GC (k+5) v (some ⟨h0,0,none⟩) J=some (.bool (!fy m v),J):=by
 rw[VR];have eh:AQ (k+4) (AM i) v J=_:=Rb k h v hv;simp only[AI,IN,yl,hb,eh,Ao];unfold fy;by_cases h0:v=0
 ·subst h0; simp
 ·rw[show (v != 0)=true from zr.2 h0,xY h0]; simp
theorem dx (k:Nat) {h0:Nat} (hI:Inv m) (a:Int) (ha:AK a) {nn:Int} (hn:nn<=200):∀ (n x f:Nat) (J:Aa),Ai J i m->BR J h0 0=some (AM i)->(x:Int)+n=nn->n<f ->
  ∃ τ,Jc (k+7) f h0 a nn (x:Int) J=some (if ((List.range' x n).all fun (y:Nat)=>fy m (Bj m a (y:Int))) then (.exit 2,[],J++τ) else (.ret,[.bool false],J++τ))
 | n,x,0,J,h,hb,hx,hf=>by omega
 | 0,x,f+1,J,h,hb,hx,hf=>by
   rw[Pb];simp only[xY (show ¬ (x:Int)<nn by omega),By];exact ⟨[],by simp⟩
 | n+1,x,f+1,J,h,hb,hx,hf=>by
   have w1:Ar ((x:Int)+1)=((x+1:Nat):Int):=Ah (by unfold AK; omega);obtain ⟨τ,e1⟩:=UJ k h hI a (x:Int) ha;have e1':AG (k+7) (AM i) a (x:Int) J=some (.tuple #[.int .i64 (Bj m a (x:Int)),.int .i64 (J0 m a (x:Int) false).2],J++τ):=e1;have h1:=h.app τ;have hb1:=SF hb τ;have ec:GC (k+7) (Bj m a (x:Int)) (some ⟨h0,0,none⟩) (J++τ)=_:=dv (k+2) h1 hb1 _ (SH h.wi a _);obtain ⟨τ2,e2⟩:=dx k hI a ha hn n (x+1) f (J++τ) h1 hb1 (by omega) (by omega);rw[Pb,Abe,Adb];simp only[xZ (show (x:Int)<nn by omega),IT,hb,AI,e1',Cp,ec,Ao,w1,e2];cases fy m (Bj m a (x:Int)) with
   | false=>exact ⟨τ,by simp⟩
   | true=>
     refine ⟨τ++τ2, ?_⟩;simp only[yp,By,Abm,ya]
theorem dw (k:Nat) (hk:1000<k) {h0:Nat} (hI:Inv m) {sl:Bp} {l:List Int} (hl:l.length<=100000) (hv:∀ v ∈ l,AK v):∀ (n x f:Nat) (J:Aa),Ai J i m->BR J h0 0=some (AM i)->Ba J sl l->x+n=l.length->n<f ->
  ∃ τ,Jb (k+7) f h0 sl.1 l.length l.length ((l.length:Nat):Int) (x:Int) J=some (if ((l.drop x).all fun a=>(Si m a).all (fy m)) then (.exit 0,[],J++τ) else (.ret,[.bool false],J++τ))
 | n,x,0,J,h,hb,hli,hx,hf=>by omega
 | 0,x,f+1,J,h,hb,hli,hx,hf=>by
   rw[Pa];simp only[xY (show ¬ (x:Int)<((l.length:Nat):Int) by omega),By];rw[yS (by omega)];exact ⟨[],by simp⟩
 | n+1,x,f+1,J,h,hb,hli,hx,hf=>by
   obtain ⟨b,e,l1,_⟩:=hli.ld (x:=x) (by omega);have qx:(0<=(x:Int)/\(x:Int)<((l.length:Nat):Int))=True:=zl (by omega);have w1:Ar ((x:Int)+1)=((x+1:Nat):Int):=Ah (by unfold AK; omega);have hd:l.drop x=l.getD x 0::l.drop (x+1):=by
    rw[yO (by omega),yd,yg (by omega)]; rfl
   have hvx:AK (l.getD x 0):=by
    rw[yd,yg (show x<l.length by omega)]; exact hv _ (yU _)
   rw[hd,Adb];generalize l.getD x 0=a at l1 hvx;obtain ⟨τ1,e1⟩:=Su (k+1) h a hvx;have e1':AN (k+7) (AM i) a J=_:=e1;obtain ⟨s1,s2,s3,s4⟩:=Ng hI a;obtain ⟨S,hS⟩:∃ S,Au.cells [.int .i64 (Aq m a).1,.int .i64 (Aq m a).2.1,.int .i64 (Aq m a).2.2] Ad true=S:=⟨_,rfl⟩;have hS2:(J++τ1++[S])[(J++τ1).length]?=some (.cells [.int .i64 (Aq m a).1,.int .i64 (Aq m a).2.1,.int .i64 (Aq m a).2.2] Ad true):=by
    rw[yK,hS]
   have l0:=(Jj hS2).1;have h2:Ai (J++τ1++[S]) i m:=(h.app τ1).app _;have hb2:=SF (SF hb τ1) [S];obtain ⟨τ2,e2⟩:=dx k (h0:=h0) hI a hvx s2 (Aq m a).1.toNat 0 (k+7) (J++τ1++[S]) h2 hb2 (by omega) (by omega);rw[show ((0:Nat):Int)=0 from rfl] at e2;have hrf:(Si m a).all (fy m)=((List.range' 0 (Aq m a).1.toNat).all fun (y:Nat)=>fy m (Bj m a (y:Int))):=by
    unfold Si;rw[List.all_map,List.range_eq_range'];rfl
   rw[hrf];obtain ⟨τ3,e3⟩:=dw k hk (h0:=h0) hI hl hv n (x+1) f (J++τ1++[S]++τ2) (h2.app τ2) (SF hb2 τ2) (((hli.app τ1).app [S]).app τ2) (by omega) (by omega);rw[e] at e3;rw[Pa];simp only[xZ (show (x:Int)<((l.length:Nat):Int) by omega),IT,qx,ye,e,AI,xQ,yH,IN,l1,hb,w1,e1',j0,ze,zo,Nat.reduceAdd,Aam,Aat,HG,Ag,Ae,EV,hS,l0,e2];cases ((List.range' 0 (Aq m a).1.toNat).all fun (y:Nat)=>fy m (Bj m a (y:Int))) with
   | false=>
     refine ⟨τ1++[S]++τ2, ?_⟩;simp[kM,DK]
   | true=>
     refine ⟨τ1++[S]++τ2++τ3, ?_⟩;simp only[ya] at e3;simp only[ye,Abm,ya,e3]
theorem UF (k:Nat) {h0:Nat} {sl:Bp} {l:List Int} (hl:l.length<=100000) (hv:∀ v ∈ l,AK v) (h:Ai J i m) (hb:BR J h0 0=some (AM i)) (hli:Ba J sl l):∀ (n x f:Nat),x+n=l.length->n<f ->
  ∃ o,CX (k+5) f sl.1 l.length l.length (.func (.func 166) #[] #[.pointer (some ⟨h0,0,none⟩)]) ((l.length:Nat):Int) (x:Int) J=some o/\(((l.drop x).all (fy m))=true->o=(.exit 0,[],J))/\(((l.drop x).all (fy m))=false -> ∃ y:Nat,o=(.ret,[.int .i64 (y:Int)],J))
 | n,x,0,hx,hf=>by omega
 | 0,x,f+1,hx,hf=>by
   rw[Ez];simp only[xY (show ¬ (x:Int)<((l.length:Nat):Int) by omega),By];rw[yS (by omega)];exact ⟨_,rfl,fun _=>rfl,fun hh=>by cases hh⟩
 | n+1,x,f+1,hx,hf=>by
   obtain ⟨b,e,l1,_⟩:=hli.ld (x:=x) (by omega);have qx:(0<=(x:Int)/\(x:Int)<((l.length:Nat):Int))=True:=zl (by omega);have w1:Ar ((x:Int)+1)=((x+1:Nat):Int):=Ah (by unfold AK; omega);have hd:l.drop x=l.getD x 0::l.drop (x+1):=by
    rw[yO (by omega),yd,yg (by omega)]; rfl
   have hvx:AK (l.getD x 0):=by
    rw[yd,yg (show x<l.length by omega)]; exact hv _ (yU _)
   obtain ⟨o,e2,o1,o2⟩:=UF k (h0:=h0) hl hv h hb hli n (x+1) f (by omega) (by omega);rw[hd,Adb];rw[e] at e2;rw[Ez];simp only[xZ (show (x:Int)<((l.length:Nat):Int) by omega),IT,qx,ye,e,AI,xQ,yH,IN,l1,w1,Q8,dv k h hb _ hvx,Ao];cases fy m (l.getD x 0) with
   | false=>
     refine ⟨_,rfl,fun hh=>?_,fun _=>⟨x,rfl⟩⟩;rw[Acd] at hh;cases hh
   | true=>
     simp only[yp,By,e2,Abm];exact ⟨o,rfl,o1,o2⟩
theorem nC (m:HM) (r:DX):OJ m r=((Eu r).all (fy m) && (Ga m).all fun a=>(Si m a).all (fy m)):=rfl
theorem vi (k:Nat) (hk:5000<=k) (h:Ai J i m) (hM:MK m) (hp:Gv J p r):∃ τ,LN (k+9) (AM i) (FD p) J=some (.bool (OJ m r),J++τ):=by
 have hlen:=aS hp.ok;have hal:=Nk hM.nt;obtain ⟨B,hB⟩:∃ B,Au.cells [.pointer (AM i)] E7 true=B:=⟨_,rfl⟩;have h1:=h.app [B];have p1:=hp.app [B];have b1:BR (J++[B]) J.length 0=some (AM i):=by simp[BR,D5,<- hB,HD]
 obtain ⟨τ,sl,e1,li,new⟩:=dC (k+2) (by omega) p1;have e1':CJ (k+8) (FD p) (J++[B])=_:=e1;have h2:=h1.app τ;have b2:=SF b1 τ;obtain ⟨o,e2,o1,o2⟩:=UF (k+1) (h0:=J.length) (by omega) (fk hp.ok) h2 b2 li (Eu r).length 0 (k+6) (by omega) (by omega);rw[show ((0:Nat):Int)=0 from rfl] at e2;rw[yV] at o1 o2;have f:=li.form;have f1:sl.2.1=(Eu r).length:=by rw[f]
 have f2:sl.2.2=(Eu r).length:=by rw[f]
 have eC:Cy (k+8) (sl.1,(Eu r).length,(Eu r).length) (.func (.func 166) #[] #[.pointer (some ⟨J.length,0,none⟩)]) (J++[B]++τ)=some (.bool (!(Eu r).all (fy m)),J++[B]++τ):=by
  rw[II,JL];simp only[e2,AI];cases hq:(Eu r).all (fy m) with
  | true=>
    rw[o1 hq];simp only[ye,AI,Ag,yp];rfl
  | false=>
    obtain ⟨y,rfl⟩:=o2 hq;simp only[reduceCtorEq,yq,ye,D7,AI,Ag,yY];rw[xZ (show (y:Int)>=0 by omega)]
 rw[nC,ZT];simp only[Ae,hB,e1',AI,ED,f1,f2,eC,Ao];cases hq:(Eu r).all (fy m) with
 | false=>
   refine ⟨[B]++τ, ?_⟩;simp only[yY,IT,Acd,ya]
 | true=>
   obtain ⟨τ3,s3,e3,li3⟩:=bM (k+2) (by omega) h2;have e3':BJ (k+8) (AM i) (J++[B]++τ)=_:=e3;have li3:Ba (J++[B]++τ++τ3) s3 (Ga m):=Ba.ints li3;obtain ⟨τ4,e4⟩:=dw (k+1) (by omega) (h0:=J.length) hM.inv (sl:=s3) (l:=Ga m) (by omega) (bV hM.nt) (Ga m).length 0 (k+8) _ (h2.app τ3) (SF b2 τ3) li3 (by omega) (by omega);rw[show ((0:Nat):Int)=0 from rfl] at e4;rw[yV] at e4;have g:=li3.form;have g1:s3.2.1=(Ga m).length:=by rw[g]
   have g2:s3.2.2=(Ga m).length:=by rw[g]
   refine ⟨[B]++τ++τ3++τ4, ?_⟩;simp only[yp,By,b2,AI,e3',g1,g2,e4,Abm];cases ((Ga m).all fun a=>(Si m a).all (fy m)) with
   | false=>
     simp[kM,DK]
   | true=>simp only[ye,ya]
theorem dG (k:Nat) (hk:5000<=k) (T:JT J i p c m r s) (hp:s.ph=0) (hs:OJ m r=true):TG (Ib (k+13) (Dd c) J) J i p c r (.int .i64 0) (m,OK m r s):=by
 obtain ⟨τ,e1⟩:=vi (k+3) (by omega) T.h T.mo T.rt;have e1':LN (k+12) (AM i) (FD p) J=_:=e1;have em:AE (k+12) (Dd c) J=_:=HH (k+11) T.co;have T1:=T.app τ;obtain ⟨J2_,e2,h2,m2⟩:=T1.co.gq 0;have T2:=T1.Oz h2 m2 ⟨T.tok.wl,T.tok.ls,T.tok.lr,T.tok.lf,T.tok.l0,T.tok.s2⟩;obtain ⟨J3_,e3,h3,m3⟩:=T2.co.qz 1;have T3:=T2.Oz h3 m3 ⟨T.tok.wl,T.tok.ls,T.tok.lr,T.tok.lf,fun _=>T.tok.l0 (by omega),fun hh=>by cases hh⟩;obtain ⟨J4_,c4,e4,T4,m4,b4⟩:=bj k (by omega) T3 (by show (1:Int)≠2; decide);refine ⟨J4_,c4, ?_,T4,((((Mv.app c.l J τ).trans m2).trans m3).trans m4).right i.l,b4⟩;rw[Tn];simp only[em,AI,Ao,yp,By,IN,yl,T.co.ZV,hp,yr,T.co.GK,T.co.E6,e1',hs,e2,e3,e4,Gs]
theorem Yk (k:Nat) (hk:5000<=k) (cb:Nat) {N:Nat} (hN:N<=10000):∀ (n x f:Nat) (J:Aa) (c:CI) (m:HM) (s:TC),JT J i p c m r s->c.cb=cb->x+n=N->n<f ->
  ∃ J' c',FP (k+15) f (some ⟨cb,0,none⟩) (N:Int) (x:Int) J=some (if (Cz r n (m,s)).1<n then (.ret,[.int .i64 ((x+(Cz r n (m,s)).1:Nat):Int),.int .i64 0],J') else (.exit 0,[],J'))/\JT J' i p c' (Cz r n (m,s)).2.1 r (Cz r n (m,s)).2.2/\Mv (i.l++c.l) (i.l++c'.l) J J'/\c'.cb=cb/\(Cz r n (m,s)).1<=n
 | n,x,0,J,c,m,s,T,hc,hx,hf=>by omega
 | 0,x,f+1,J,c,m,s,T,hc,hx,hf=>by
   rw[LB];simp only[xY (show ¬ (x:Int)<(N:Int) by omega),By];exact ⟨J,c,rfl,T,Mv.refl _ _,hc,yj _⟩
 | n+1,x,f+1,J,c,m,s,T,hc,hx,hf=>by
   have w1:Ar ((x:Int)+1)=((x+1:Nat):Int):=Ah (by unfold AK; omega);have d4:Ak .i64 J cb 4=some s.ph:=by rw[<- hc]; exact T.co.ZV
   rw[LB,Cz];simp only[xZ (show (x:Int)<(N:Int) by omega),IT,AI,IN,yl,d4];by_cases hp:s.ph=0
   ·rw[yk hp,show (s.ph == 0)=true from zJ.2 hp];simp only[IT];exact ⟨J,c,by rw[yk (by omega)]; rfl,T,Mv.refl _ _,hc,zh _⟩
   ·rw[ym hp,show (s.ph == 0)=false from yM.2 hp];obtain ⟨J1_,c1,e1,T1,m1,b1⟩:=kN k hk T;obtain ⟨J2_,c2,e2,T2,m2,b2,n2⟩:=Yk k hk cb hN n (x+1) f J1_ c1 (Jq m r s).1 (Jq m r s).2 T1 (b1.trans hc) (by omega) (by omega);have e1':DJ (k+15) (some ⟨cb,0,none⟩) J=some (.tuple #[],J1_):=by rw[<- hc]; exact e1
    refine ⟨J2_,c2, ?_,T2,m1.trans m2,b2,Nat.succ_le_succ n2⟩;simp only[By,e1',AI,Gs,w1,e2];by_cases q:(Cz r n (Jq m r s)).1<n
    ·rw[yk q,yk (by omega)];rw[show x+1+(Cz r n (Jq m r s)).1=x+((Cz r n (Jq m r s)).1+1) from by omega]
    ·rw[ym q,ym (by omega)]
theorem jH (k:Nat) (hk:20000<=k) (T:JT J i p c m r s) {N:Nat} (h1:1<=N) (hN:N<=10000):TG (IK (k+16) (Dd c) (N:Int) J) J i p c r (.tuple #[.int .i64 ((Cz r N (m,s)).1:Int),.int .i64 0]) (Cz r N (m,s)).2:=by
 have em:AE (k+15) (Dd c) J=_:=HH (k+14) T.co;obtain ⟨J',c',e,T',m',b',n'⟩:=Yk k (by omega) c.cb hN N 0 (k+15) J c m s T rfl (by omega) (by omega);rw[show ((0:Nat):Int)=0 from rfl] at e;refine ⟨J',c', ?_,T',m',b'⟩;rw[Uj];simp only[em,AI,Ao,yp,By,xY (show ¬ (N:Int)<1 by omega),xY (show ¬ (N:Int)>10000 by omega),e];by_cases q:(Cz r N (m,s)).1<N
 ·rw[yk q];simp only[reduceCtorEq,yq,ye,Vv,IN]
 ·rw[ym q];simp only[ye];rw[show (Cz r N (m,s)).1=N from by omega]
end
end
end Go.Proofs.YtjbledomkmdkmaaGreat
