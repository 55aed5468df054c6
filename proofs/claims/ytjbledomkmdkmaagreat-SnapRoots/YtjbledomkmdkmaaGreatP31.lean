/- The objects of a heap, read.; Lists and heaps compared. -/
import Derived.Test.YtjbledomkmdkmaaGreatP30
set_option linter.unusedVariables false
set_option linter.unusedSimpArgs false
set_option linter.unusedSectionVars false
namespace Go.Proofs.YtjbledomkmdkmaaGreat
open Go Go.AX
noncomputable section
local instance yA:AA:=Ap
section
variable {J:Aa} {m:HM} {i:Cd} {j:RI} {t:RM}
def J6 (J:Aa) (b:Nat) (o:RO) (p:Bp × Bp):Prop:=J[b]?=some (.cells (Bi o p) Ab true)
theorem J6.ld {b:Nat} {o:RO} {p:Bp × Bp} (h:J6 J b o p):Ak .i64 J b 0=some o.addr/\Ak .i64 J b 1=some o.id/\Ak .i64 J b 2=some o.r/\Ak .i64 J b 3=some o.d/\Ak .i64 J b 4=some o.k/\AR J b 5=some (p.1.1,p.1.2.1,p.1.2.2)/\AR J b 6=some (p.2.1,p.2.2.1,p.2.2.2)/\Tq J b 7=some o.Wg:=by
 unfold J6 at h;simp[Ak,AR,Tq,D5,h,Bi,Bn,ED,DK]
def L7 (m:HM) (a x:Int) (data:Bool):Int:=(J0 m a x data).1
theorem Yd (k:Nat) (hI:Inv m) (o:RO) {a:Int} (hoa:o.addr=a) (ha:AK a) (hn:o.r<=1000) (pO:Bp) {b:Nat}:∀ (n x f:Nat) (Z:Aa) (s:Bp),Ai Z i m->(∀ q ∈ i.l,q<b)->J6 Z b o (s,pO)->Ba Z s ((List.range x).map fun (x:Nat)=>L7 m a (x:Int) false)->(∀ q ∈ hs s,b<q)->(x:Int)+n=o.r->n<f ->
  ∃ Z' s',He (k+7) f (AM i) b (x:Int) Z=some (.exit 4,[],Z')/\J6 Z' b o (s',pO)/\Ba Z' s' ((List.range o.r.toNat).map fun (x:Nat)=>L7 m a (x:Int) false)/\(∀ q ∈ hs s',b<q)/\Mv (b::hs s) (b::hs s') Z Z'
 | n,x,0,Z,s,h,hb,hx',hl,hg,hx,hf=>by omega
 | 0,x,f+1,Z,s,h,hb,hx',hl,hg,hx,hf=>by
   obtain ⟨z0,z1,z2,z3,z4,z5,z6,z7⟩:=hx'.ld;rw[Nv];simp only[IN,yl,Nat.reduceAdd,z2,AI,xY (show ¬ (x:Int)<o.r by omega),By];have e:o.r.toNat=x:=by omega
   rw[e];exact ⟨Z,s,rfl,hx',hl,hg,Mv.refl _ _⟩
 | n+1,x,f+1,Z,s,h,hb,hx',hl,hg,hx,hf=>by
   obtain ⟨z0,z1,z2,z3,z4,z5,z6,z7⟩:=hx'.ld;have w1:Ar ((x:Int)+1)=((x+1:Nat):Int):=Ah (by unfold AK; omega);obtain ⟨τ,e1⟩:=UJ k h hI a (x:Int) ha;have e1':AG (k+7) (AM i) a (x:Int) Z=some (.tuple #[.int .i64 (L7 m a (x:Int) false),.int .i64 (J0 m a (x:Int) false).2],Z++τ):=e1;have hbl:=Af hx';have bx1:J6 (Z++τ) b o (s,pO):=by unfold J6; rw[AT hbl]; exact hx'
   obtain ⟨y0,y1,y2,y3,y4,y5,y6,y7⟩:=bx1.ld;have hl1:=hl.app τ;have hlen:((List.range x).map fun (x:Nat)=>L7 m a (x:Int) false).length=x:=by simp
   obtain ⟨s',Z1_,e2,li2,m2⟩:=hl1.push (L7 m a (x:Int) false) Aj (by rw[hlen]; omega);have nb:b ∉ hs s:=fun hm=>Aad _ (hg b hm);have bx2:J6 Z1_ b o (s,pO):=m2.L5 bx1 nb;have g2:∀ q ∈ hs s',b<q:=fun q hq=>(m2.new q hq).elim (hg q) fun h'=>by rw[yi] at h'; omega
   have es:CT Z1_ b 5 (.slice s'.1 s'.2.1 s'.2.2)=some (Z1_.set b (.cells (Bi o (s',pO)) Ab true)):=by
    unfold J6 at bx2;simp[CT,bx2,Bi]
   obtain ⟨Z2_,hμ2⟩:∃ Z2_,Z1_.set b (.cells (Bi o (s',pO)) Ab true)=Z2_:=⟨_,rfl⟩;rw[hμ2] at es;have bx3:J6 Z2_ b o (s',pO):=by unfold J6; rw[<- hμ2,yo (Af bx2)]
   have m3:Mv (b::hs s) (b::hs s') Z Z2_:=by
    rw[<- hμ2];refine (((Mv.app (hs s) Z τ).trans m2).wide (K:=b::hs s) (K':=b::hs s') (fun q hq=>yJ _ hq) fun q hq=>?_).trans (Mv.set _ _ zi);rcases yL.1 hq with rfl | hq
    ·exact .inl zi
    ·exact .inr (.inl hq)
   have h3:Ai Z2_ i m:=h.Aw fun q hq=>m3.same q (h.lt q hq) fun hm=>by
    have:=hb q hq;rcases yL.1 hm with hm | hm
    ·omega
    ·have:=hg q hm; omega
   have hl3:Ba Z2_ s' ((List.range (x+1)).map fun (x:Nat)=>L7 m a (x:Int) false):=by
    rw[Abr,Aae];exact li2.Aw fun q hq=>by rw[<- hμ2]; exact yc (by have:=g2 q hq; omega)
   obtain ⟨Z',s2,e3,bx4,li4,g4,m4⟩:=Yd k hI o hoa ha hn pO n (x+1) f Z2_ s' h3 hb bx3 hl3 g2 (by omega) (by omega);refine ⟨Z',s2, ?_,bx4,li4,g4,m3.trans m4⟩;rw[Nv];simp only[IN,yl,Nat.reduceAdd,z2,z0,hoa,AI,xZ (show (x:Int)<o.r by omega),IT,e1',Cp,y5,Ae,e2,es,w1,e3]
theorem Ye (k:Nat) (hI:Inv m) (o:RO) {a:Int} (hoa:o.addr=a) (ha:AK a) (hn:o.d<=1000) (pO:Bp) {b:Nat}:∀ (n x f:Nat) (Z:Aa) (s:Bp),Ai Z i m->(∀ q ∈ i.l,q<b)->J6 Z b o (pO,s)->Ba Z s ((List.range x).map fun (x:Nat)=>L7 m a (x:Int) true)->(∀ q ∈ hs s,b<q)->(x:Int)+n=o.d->n<f ->
  ∃ Z' s',Hf (k+7) f (AM i) b (x:Int) Z=some (.exit 6,[],Z')/\J6 Z' b o (pO,s')/\Ba Z' s' ((List.range o.d.toNat).map fun (x:Nat)=>L7 m a (x:Int) true)/\(∀ q ∈ hs s',b<q)/\Mv (b::hs s) (b::hs s') Z Z'
 | n,x,0,Z,s,h,hb,hx',hl,hg,hx,hf=>by omega
 | 0,x,f+1,Z,s,h,hb,hx',hl,hg,hx,hf=>by
   obtain ⟨z0,z1,z2,z3,z4,z5,z6,z7⟩:=hx'.ld;rw[Nw];simp only[IN,yl,Nat.reduceAdd,z3,AI,xY (show ¬ (x:Int)<o.d by omega),By];have e:o.d.toNat=x:=by omega
   rw[e];exact ⟨Z,s,rfl,hx',hl,hg,Mv.refl _ _⟩
 | n+1,x,f+1,Z,s,h,hb,hx',hl,hg,hx,hf=>by
   obtain ⟨z0,z1,z2,z3,z4,z5,z6,z7⟩:=hx'.ld;have w1:Ar ((x:Int)+1)=((x+1:Nat):Int):=Ah (by unfold AK; omega);obtain ⟨τ,e1⟩:=tL k h hI a (x:Int) ha;have e1':GF (k+7) (AM i) a (x:Int) Z=some (.tuple #[.int .i64 (L7 m a (x:Int) true),.int .i64 (J0 m a (x:Int) true).2],Z++τ):=e1;have hbl:=Af hx';have bx1:J6 (Z++τ) b o (pO,s):=by unfold J6; rw[AT hbl]; exact hx'
   obtain ⟨y0,y1,y2,y3,y4,y5,y6,y7⟩:=bx1.ld;have hl1:=hl.app τ;have hlen:((List.range x).map fun (x:Nat)=>L7 m a (x:Int) true).length=x:=by simp
   obtain ⟨s',Z1_,e2,li2,m2⟩:=hl1.push (L7 m a (x:Int) true) Aj (by rw[hlen]; omega);have nb:b ∉ hs s:=fun hm=>Aad _ (hg b hm);have bx2:J6 Z1_ b o (pO,s):=m2.L5 bx1 nb;have g2:∀ q ∈ hs s',b<q:=fun q hq=>(m2.new q hq).elim (hg q) fun h'=>by rw[yi] at h'; omega
   have es:CT Z1_ b 6 (.slice s'.1 s'.2.1 s'.2.2)=some (Z1_.set b (.cells (Bi o (pO,s')) Ab true)):=by
    unfold J6 at bx2;simp[CT,bx2,Bi]
   obtain ⟨Z2_,hμ2⟩:∃ Z2_,Z1_.set b (.cells (Bi o (pO,s')) Ab true)=Z2_:=⟨_,rfl⟩;rw[hμ2] at es;have bx3:J6 Z2_ b o (pO,s'):=by unfold J6; rw[<- hμ2,yo (Af bx2)]
   have m3:Mv (b::hs s) (b::hs s') Z Z2_:=by
    rw[<- hμ2];refine (((Mv.app (hs s) Z τ).trans m2).wide (K:=b::hs s) (K':=b::hs s') (fun q hq=>yJ _ hq) fun q hq=>?_).trans (Mv.set _ _ zi);rcases yL.1 hq with rfl | hq
    ·exact .inl zi
    ·exact .inr (.inl hq)
   have h3:Ai Z2_ i m:=h.Aw fun q hq=>m3.same q (h.lt q hq) fun hm=>by
    have:=hb q hq;rcases yL.1 hm with hm | hm
    ·omega
    ·have:=hg q hm; omega
   have hl3:Ba Z2_ s' ((List.range (x+1)).map fun (x:Nat)=>L7 m a (x:Int) true):=by
    rw[Abr,Aae];exact li2.Aw fun q hq=>by rw[<- hμ2]; exact yc (by have:=g2 q hq; omega)
   obtain ⟨Z',s2,e3,bx4,li4,g4,m4⟩:=Ye k hI o hoa ha hn pO n (x+1) f Z2_ s' h3 hb bx3 hl3 g2 (by omega) (by omega);refine ⟨Z',s2, ?_,bx4,li4,g4,m3.trans m4⟩;rw[Nw];simp only[IN,yl,Nat.reduceAdd,z3,z0,hoa,AI,xZ (show (x:Int)<o.d by omega),IT,e1',Cp,y6,Ae,e2,es,w1,e3]
theorem qv (hI:Inv m) {y:Nat} (hs:Start m y):(List.range (Av m y).toNat).map (fun (x:Nat)=>L7 m ((2*y:Nat):Int) (x:Int) false)=L8 m (2*y+2) (Av m y).toNat:=by
 obtain ⟨_,r1,_⟩:=Ot hI hs;apply zy;intro q;rw[zG];by_cases hq:q<(Av m y).toNat
 ·rw[Aaw hq,Sm m _ _ q hq];show some (L7 _ _ _ _)=_;unfold L7 J0;rw[Qd hI hs (show (q:Int)<Av m y by omega),yk rfl,xQ]
 ·rw[zg (by simp; omega),zg (by rw[Gk]; omega)]; rfl
theorem qt (hI:Inv m) {y:Nat} (hs:Start m y):(List.range (Bf m y).toNat).map (fun (x:Nat)=>L7 m ((2*y:Nat):Int) (x:Int) true)=L8 m (2*y+2+(Av m y).toNat) (Bf m y).toNat:=by
 obtain ⟨_,r1,r2,r3,_⟩:=Ot hI hs;apply zy;intro q;rw[zG];by_cases hq:q<(Bf m y).toNat
 ·rw[Aaw hq,Sm m _ _ q hq];show some (L7 _ _ _ _)=_;unfold L7 J0;rw[ey hI hs (show (q:Int)<Bf m y by omega),yk rfl,xQ]
 ·rw[zg (by simp; omega),zg (by rw[Gk]; omega)]; rfl
theorem ju {b o:Nat} {cs vs:List Value} {T:TypeId} (h:J[b]?=some (.cells cs T true)) (hl:o+vs.length<=cs.length):H2 J b o vs=some (J.set b (.cells (AP cs o vs) T true)):=by
 simp only[H2,h];rw[yk hl]
theorem Yc (k:Nat) (hk:1000<k) (hM:MK m) (h3 lo:Nat) {sl:Bp}:∀ (n x f:Nat) (Z:Aa) (j:RI),Ai Z i m->Im Z j ⟨m.bls,(F7 m).take x,[],m.births⟩->j.hb=h3->(∀ q ∈ j.l,lo<=q)->(∀ q ∈ i.l,q<lo)->lo<=Z.length->Ba Z sl (Ga m)->(∀ q ∈ hs sl,q ∉ j.l/\lo<=q)->x+n=(Ga m).length->n<f ->
  ∃ Z' j',Hd (k+9) f (AM i) h3 sl.1 (Ga m).length (Ga m).length (x:Int) Z=some (.exit 2,[],Z')/\Im Z' j' ⟨m.bls,F7 m,[],m.births⟩/\j'.hb=h3/\(∀ q ∈ j'.l,lo<=q)/\Z.length<=Z'.length /\ ∀ q,q<lo->Z'[q]?=Z[q]?
 | n,x,0,Z,j,h,hr,hj,hl,hi,hm,hli,hd,hx,hf=>by omega
 | 0,x,f+1,Z,j,h,hr,hj,hl,hi,hm,hli,hd,hx,hf=>by
   have hlen:(F7 m).length=(Ga m).length:=by unfold F7 Ga CK; rw[zI,zI]
   rw[Nu];simp only[xY (show ¬ (x:Int)<(((Ga m).length:Nat):Int) by omega),By];rw[zp (by omega)] at hr;exact ⟨Z,j,rfl,hr,hj,hl,yj _,fun _ _=>rfl⟩
 | n+1,x,f+1,Z,j,h,hr,hj,hl,hi,hm,hli,hd,hx,hf=>by
   have hnt:=hM.nt;have hlenA:(Ga m).length=(EY m).length:=by unfold Ga CK; rw[zI]
   have hal:=Nk hnt;have hxS:x<(EY m).length:=by omega
   obtain ⟨b,e,l1,_⟩:=hli.ld (x:=x) (by omega);obtain ⟨y,hy⟩:∃ y,(EY m)[x]=y:=⟨_,rfl⟩;have hsy:Start m y:=Dh.1 (hy ▸ yU hxS);have hyl:=hsy.1;have hg:(Ga m).getD x 0=((2*y:Nat):Int):=by
    unfold Ga; rw[Nj _ hxS,hy]
   rw[hg] at l1;have ha:AK ((2*y:Nat):Int):=by unfold AK; omega
   have hh:=Fi hsy;have htk:(F7 m).take (x+1)=(F7 m).take x++[Bm m y]:=by
    have:(F7 m)[x]?=some (Bm m y):=by
     unfold F7; rw[zG,yg hxS,hy]; rfl
    rw[Abx,this]; rfl
   have htl:((F7 m).take x).length=x:=by
    rw[zx]; unfold F7; rw[zI]; omega
   have qx:(0<=(x:Int)/\(x:Int)<(((Ga m).length:Nat):Int))=True:=zl (by omega);have w1:Ar ((x:Int)+1)=((x+1:Nat):Int):=Ah (by unfold AK; omega);have hst:=JC hsy;obtain ⟨_,r1,r2,r3,r4,_⟩:=Ot hM.inv hsy;have eP:FE (k+9) (AM i) ((2*y:Nat):Int) Z=_:=lg (k+4) h _ ha;have hpin:cy m ((2*y:Nat):Int)=(Bm m y).Wg:=by
    unfold cy; rw[hh,show ((2*y:Nat):Int).toNat/2=y from by omega,Abm]; rfl
   have lt:∀ q,q<lo->q<Z.length:=fun q hq=>by omega
   let O0:Au:=.cells [.int .i64 ((2*y:Nat):Int),.int .i64 0,.int .i64 0,.int .i64 0,.int .i64 0,.slice none 0 0,.slice none 0 0,.bool (cy m ((2*y:Nat):Int))] Ab true
   have c0:(Z++[O0])[Z.length]?=some O0:=by simp
   have h0:=h.app [O0];have eI:CS (k+9) (AM i) ((2*y:Nat):Int) (Z++[O0])=some (.tuple #[.int .i64 (m.wds.getD (2*y) 0),.int .i64 0],Z++[O0]):=by
    have:=du (k+3) h0 ((2*y:Nat):Int) ha;rw[yk hh,xQ] at this;exact this
   have l00:Ak .i64 (Z++[O0]) Z.length 0=some ((2*y:Nat):Int):=by rw[Bh]; rfl
   let O1:Au:=.cells [.int .i64 ((2*y:Nat):Int),.int .i64 (m.wds.getD (2*y) 0),.int .i64 0,.int .i64 0,.int .i64 0,.slice none 0 0,.slice none 0 0,.bool (cy m ((2*y:Nat):Int))] Ab true
   have s1:CT (Z++[O0]) Z.length 1 (.int .i64 (m.wds.getD (2*y) 0))=some (Z++[O1]):=by
    rw[g7 _ _ _ _ _ (by simp)]; rfl
   have h1:=h.app [O1];have l10:Ak .i64 (Z++[O1]) Z.length 0=some ((2*y:Nat):Int):=by rw[Bh]; rfl
   obtain ⟨τ1,eS⟩:=Su (k+3) h1 ((2*y:Nat):Int) ha;have eS':AN (k+9) (AM i) ((2*y:Nat):Int) (Z++[O1])=_:=eS;rw[hst] at eS'
   let O2:Au:=.cells (Bi (Bm m y) ((none,0,0),(none,0,0))) Ab true
   obtain ⟨Z2_,hμ2⟩:∃ Z2_,(Z++[O1]++τ1).set Z.length O2=Z2_:=⟨_,rfl⟩;have l2:Z2_.length=Z.length+1+τ1.length:=by rw[<- hμ2,yZ,yi,yi,zd]
   have c1:(Z++[O1]++τ1)[Z.length]?=some O1:=by rw[AT (by simp)]; simp
   have s2:H2 (Z++[O1]++τ1) Z.length 2 [.int .i64 (Av m y),.int .i64 (Bf m y),.int .i64 (Cr m y)]=some Z2_:=by
    rw[ju c1 (by simp),<- hμ2];congr 2;show Au.cells _ _ _=Au.cells _ _ _;congr 1;rw[hpin];rfl
   have low2:∀ q,q<Z.length->Z2_[q]?=Z[q]?:=fun q hq=>by
    rw[<- hμ2,yc (by omega),ya,AT hq]
   have h2:Ai Z2_ i m:=h.Aw fun q hq=>low2 q (lt q (hi q hq));have bx2:J6 Z2_ Z.length (Bm m y) ((none,0,0),(none,0,0)):=by
    unfold J6;rw[<- hμ2]; exact yo (by rw[yi,yi,zd]; omega)
   have hin:∀ q ∈ i.l,q<Z.length:=fun q hq=>lt q (hi q hq);obtain ⟨Z3_,p3,e3,bx3,li3,g3,m3⟩:=Yd (k+2) hM.inv (Bm m y) rfl ha (by show Av m y<=1000; omega) (none,0,0) (Av m y).toNat 0 (k+9) Z2_ (none,0,0) h2 hin bx2 (Ba.nil _) (fun q hq=>by simp[hs] at hq) (by show ((0:Nat):Int)+_=Av m y; omega) (by omega);have h3':Ai Z3_ i m:=h2.Aw fun q hq=>m3.same q (by have:=hi q hq; omega) fun hm'=>by
    rcases yL.1 hm' with rfl | hm'
    ·exact Aad _ (hin _ hq)
    ·simp[hs] at hm'
   have hp3:∀ q ∈ hs p3,Z.length<q:=g3;obtain ⟨Z4_,p4,e4,bx4,li4,g4,m4⟩:=Ye (k+2) hM.inv (Bm m y) rfl ha (by show Bf m y<=1000; omega) p3 (Bf m y).toNat 0 (k+9) Z3_ (none,0,0) h3' hin bx3 (Ba.nil _) (fun q hq=>by simp[hs] at hq) (by show ((0:Nat):Int)+_=Bf m y; omega) (by omega);rw[show ((0:Nat):Int)=0 from rfl] at e3 e4;have m34:∀ q,q<Z2_.length->q≠Z.length->Z3_[q]?=Z2_[q]?:=fun q hq hne=>m3.same q hq fun hm'=>by
    rcases yL.1 hm' with rfl | hm'
    ·exact hne rfl
    ·simp[hs] at hm'
   have m45:∀ q,q<Z3_.length->q≠Z.length->Z4_[q]?=Z3_[q]?:=fun q hq hne=>m4.same q hq fun hm'=>by
    rcases yL.1 hm' with rfl | hm'
    ·exact hne rfl
    ·simp[hs] at hm'
   have l3:=m3.len;have l4:=m4.len;have low4:∀ q,q<Z.length->Z4_[q]?=Z[q]?:=fun q hq=>by rw[m45 q (by omega) (by omega),m34 q (by omega) (by omega),low2 q hq]
   have hr4:Im Z4_ j ⟨m.bls,(F7 m).take x,[],m.births⟩:=hr.Aw (fun q hq=>low4 q (hr.lt q hq)) (by omega);have li3':Ba Z4_ p3 ((List.range (Av m y).toNat).map fun (x:Nat)=>L7 m ((2*y:Nat):Int) (x:Int) false):=li3.Aw fun q hq=>m45 q (li3.lt q hq) (by have:=hp3 q hq; omega);rw[qv hM.inv hsy] at li3';have li4':=li4;rw[show (Bm m y).addr=((2*y:Nat):Int) from rfl,show (Bm m y).d=Bf m y from rfl,qt hM.inv hsy] at li4';have n4:∀ q ∈ hs p4,Z3_.length<=q:=fun q hq=>by
    rcases m4.new q (yJ _ hq) with hm' | hm'
    ·rcases yL.1 hm' with rfl | hm'
     ·exact absurd (g4 _ hq) (Aad _)
     ·simp[hs] at hm'
    ·exact hm'
   obtain ⟨s5,Z5_,Z6_,e5,e6,r6,l6,q6,n6⟩:=hr4.uG (Bm m y) (p3,p4) (by show ((F7 m).take x).length<=5000; omega) Ab li3'.g li4'.g (fun q hq=>by
    rcases hq with hq | hq
    ·refine ⟨li3'.lt q hq,fun hm'=>?_⟩;have:=hr.lt q hm'; have:=hp3 q hq; omega
    ·refine ⟨li4.lt q hq,fun hm'=>?_⟩;have:=hr.lt q hm'; have:=n4 q hq; omega) (fun q hq hm'=>by have:=li3.lt q hq; have:=n4 q hm'; omega);have r6:Im Z6_ { j with os:=s5,om:=j.om++[(p3,p4)] } ⟨m.bls,(F7 m).take (x+1),[],m.births⟩:=by rw[htk]; exact r6
   have low6:∀ q,q<Z.length->q ∉ j.l->Z6_[q]?=Z[q]?:=fun q hq hn'=>(q6 q (by omega) hn').trans (low4 q hq);have lowlo:∀ q,q<lo->Z6_[q]?=Z[q]?:=fun q hq=>low6 q (by omega) fun hm'=>by have:=hl q hm'; omega
   have new6:∀ q,q ∈ ({ j with os:=s5,om:=j.om++[(p3,p4)] }:RI).l->q ∈ j.l\/Z.length<q:=fun q hq=>by
    rcases n6 q hq with hq | hq | hq | hq
    ·exact .inl hq
    ·exact .inr (by omega)
    ·exact .inr (hp3 q hq)
    ·exact .inr (by have:=n4 q hq; omega)
   obtain ⟨Z',j',e7,r7,b7,l7,n7,q7⟩:=Yc k hk hM h3 lo (sl:=sl) n (x+1) f Z6_ { j with os:=s5,om:=j.om++[(p3,p4)] } (h.Aw fun q hq=>lowlo q (hi q hq)) r6 hj (fun q hq=>(new6 q hq).elim (hl q) fun h'=>by omega) hi (by omega) (hli.Aw fun q hq=>low6 q (hli.lt q hq) (hd q hq).1) (fun q hq=>⟨fun hm'=>(new6 q hm').elim (hd q hq).1 fun h'=>by have:=hli.lt q hq; omega,(hd q hq).2⟩) (by omega) (by omega);refine ⟨Z',j', ?_,r7,b7,l7,by omega,fun q hq=>(q7 q hq).trans (lowlo q hq)⟩;rw[e] at e7;obtain ⟨z0,z1,z2,z3,z4,z5,z6,z7⟩:=bx4.ld;have dob:AR Z4_ h3 1=some (j.os.1,x,x):=by
    have:=hr4.E6;rw[<- hj];show AR Z4_ j.hb 1=_;rw[this];show some (j.os.1,((F7 m).take x).length,((F7 m).take x).length)=_;rw[htl]
   have e5':AF P Ab (j.os.1,x,x) (some ⟨Z4_.length,0,none⟩,1,1) (Z4_++[Au.cells (Bi (Bm m y) (p3,p4)) Ab true])=some (s5,Z5_):=by
    have e5:AF P Ab (j.os.1,((F7 m).take x).length,((F7 m).take x).length) (some ⟨Z4_.length,0,none⟩,1,1) (Z4_++[Au.cells (Bi (Bm m y) (p3,p4)) Ab true])=some (s5,Z5_):=e5;rw[htl] at e5; exact e5
   have e6':CT Z5_ h3 1 (.slice s5.1 s5.2.1 s5.2.2)=some Z6_:=by rw[<- hj]; exact e6
   have box8:∀ (a b c d e f g hh:Value),H2 (Z++[Au.cells [.int .i64 0,.int .i64 0,.int .i64 0,.int .i64 0,.int .i64 0,.slice none 0 0,.slice none 0 0,.bool false] Ab true]) Z.length 0 [a,b,c,d,e,f,g,hh]=some (Z++[Au.cells [a,b,c,d,e,f,g,hh] Ab true]):=fun a b c d e f g hh=>cY rfl;rw[Nu];simp only[xZ (show (x:Int)<(((Ga m).length:Nat):Int) by omega),IT,qx,ye,e,AI,xQ,yH,IN,yl,Nat.reduceAdd,l1,eP,Ao,Ae,box8];have eI':CS (k+9) (AM i) ((2*y:Nat):Int) (Z++[Au.cells [.int .i64 ((2*y:Nat):Int),.int .i64 0,.int .i64 0,.int .i64 0,.int .i64 0,.slice none 0 0,.slice none 0 0,.bool (cy m ((2*y:Nat):Int))] Ab true])=_:=eI;have l00':Ak .i64 (Z++[Au.cells [.int .i64 ((2*y:Nat):Int),.int .i64 0,.int .i64 0,.int .i64 0,.int .i64 0,.slice none 0 0,.slice none 0 0,.bool (cy m ((2*y:Nat):Int))] Ab true]) Z.length 0=_:=l00;have s1':CT (Z++[Au.cells [.int .i64 ((2*y:Nat):Int),.int .i64 0,.int .i64 0,.int .i64 0,.int .i64 0,.slice none 0 0,.slice none 0 0,.bool (cy m ((2*y:Nat):Int))] Ab true]) Z.length 1 (.int .i64 (m.wds.getD (2*y) 0))=_:=s1;rw[l00',AI,eI',AI];show (I8 (.tuple #[.int .i64 (m.wds.getD (2*y) 0),.int .i64 0]) _:Option Bl)=_;rw[Cp];show ((CT (Z++[O0]) Z.length 1 (.int .i64 (m.wds.getD (2*y) 0))).bind _:Option Bl)=_;rw[s1,AI,l10,AI,eS'];simp only[AI,j0,ze,zo,IN,Nat.reduceAdd,ye,Aam,Aat,HG,Ag,s2,e3,e4,dob,z0,z1,z2,z3,z4,z5,z6,z7];have e5'':AF P Ab (j.os.1,x,x) (some ⟨Z4_.length,0,none⟩,1,1) (Z4_++[Au.cells [.int .i64 (Bm m y).addr,.int .i64 (Bm m y).id,.int .i64 (Bm m y).r,.int .i64 (Bm m y).d,.int .i64 (Bm m y).k,.slice p3.1 p3.2.1 p3.2.2,.slice p4.1 p4.2.1 p4.2.2,.bool (Bm m y).Wg] Ab true])=some (s5,Z5_):=e5';simp only[e5'',AI,e6',w1,e7]
theorem bS (k:Nat) (hk:10000<=k) (h:Ai J i m) (hM:MK m):∃ τ j,G3 (k+10) (AM i) J=some (.pointer (Bx j),J++τ)/\Im (J++τ) j ⟨m.bls,F7 m,[],m.births⟩ /\ ∀ q ∈ j.l,J.length<=q:=by
 have hnt:=hM.nt;have hal:=Nk hnt;have lt:=h.lt;obtain ⟨B,hB⟩:∃ B,Au.cells [.slice none 0 0,.slice none 0 0,.slice none 0 0,.int .i64 m.births] CH true=B:=⟨_,rfl⟩;have hr0:Im (J++[B]) ⟨J.length,(none,0,0),(none,0,0),(none,0,0),[]⟩ ⟨[],[],[],m.births⟩:=by
  refine ⟨by rw[<- hB]; simp,Cq.nil _ _ _,Cq.nil _ _ _,.inl (Cq.nil _ _ _),rfl,fun x hx=>by simp at hx,by simp[RI.l,hs],fun q hq=>?_⟩;simp[RI.l,hs] at hq;rw[hq]; simp
 have h0:=h.app [B];have eB:CY (k+9) (AM i) J=_:=aj (k+7) h;obtain ⟨Z1_,j1,e1,r1,b1,n1,l1,q1⟩:=Yb (k+6) hnt J.length J.length m.bls.length 0 (k+9) (J++[B]) ⟨J.length,(none,0,0),(none,0,0),(none,0,0),[]⟩ h0 hr0 rfl (fun q hq=>by simp[RI.l,hs] at hq; omega) lt (by simp) (by omega) (by omega);rw[show ((0:Nat):Int)=0 from rfl] at e1;rw[yi,zd] at l1;have low1:∀ q,q<J.length->Z1_[q]?=J[q]?:=fun q hq=>(q1 q hq).trans (AT hq);have h1:Ai Z1_ i m:=h.Aw fun q hq=>low1 q (lt q hq);obtain ⟨τ2,sl,e2,li⟩:=bM (k+3) (by omega) h1;have e2':BJ (k+9) (AM i) Z1_=_:=e2;have hge:=li.ge;have li:Ba (Z1_++τ2) sl (Ga m):=Ba.ints li;obtain ⟨Z3_,j3,e3,r3,b3,n3,l3,q3⟩:=Yc k (by omega) hM J.length J.length (sl:=sl) (Ga m).length 0 (k+9) (Z1_++τ2) j1 (h1.app τ2) (by rw[Ab3]; exact r1.app τ2) b1 n1 lt (by rw[yi]; omega) li (fun q hq=>by
  obtain ⟨a,ha,rfl⟩:=BN.1 hq;have:=(hge a ha).1;exact ⟨fun hm'=>by have:=r1.lt _ hm'; omega,by omega⟩) (by omega) (by omega);rw[show ((0:Nat):Int)=0 from rfl] at e3;obtain ⟨τ,hτ⟩:∃ τ,Z3_=J++τ:=by
  refine FV (by rw[yi] at l3; omega) fun q hq=>?_;rw[q3 q hq,AT (by omega),low1 q hq]
 refine ⟨τ,j3, ?_,by rw[<- hτ]; exact r3,n3⟩;have f:=li.form;have f1:sl.2.1=(Ga m).length:=by rw[f]
 have f2:sl.2.2=(Ga m).length:=by rw[f]
 rw[Xq];simp only[eB,AI,Ag,Ae,hB,e1,ye,e2',ED,f1,f2,e3,hτ];unfold Bx;rw[b3]
end
section
variable {J:Aa} {t:RM} {j j':RI}
theorem XQ (k:Nat) {s1 s2:Bp} {l:List Int} (h1:Eg J s1 l) (h2:Eg J s2 l) (hl:l.length<=1000000) (c1 c2:Nat):∀ (n x f:Nat),x+n=l.length->n<f ->
  Hb k f s1.1 l.length c1 s2.1 l.length c2 (x:Int) J=some (.exit 0,[],J)
 | n,x,0,hx,hf=>by omega
 | 0,x,f+1,hx,hf=>by
   rw[Ns];simp only[xY (show ¬ (x:Int)<((l.length:Nat):Int) by omega),By]
 | n+1,x,f+1,hx,hf=>by
   obtain ⟨b1,e1,l1,_⟩:=h1.u9 (x:=x) (by omega);obtain ⟨b2,e2,l2,_⟩:=h2.u9 (x:=x) (by omega);have qx:(0<=(x:Int)/\(x:Int)<((l.length:Nat):Int))=True:=zl (by omega);have w1:Ar ((x:Int)+1)=((x+1:Nat):Int):=Ah (by unfold AK; omega);have ih:=XQ k h1 h2 hl c1 c2 n (x+1) f (by omega) (by omega);rw[e1,e2] at ih;rw[Ns];simp only[xZ (show (x:Int)<((l.length:Nat):Int) by omega),IT,qx,ye,e1,e2,AI,xQ,yH,IN,l1,l2,yr,By,w1,ih]
theorem X8 (k:Nat) {s1 s2:Bp} {l:List Int} (h1:Eg J s1 l) (h2:Eg J s2 l) (hl:l.length<=1000000) (hk:l.length<k):DN (k+1) (s1.1,s1.2.1,s1.2.2) (s2.1,s2.2.1,s2.2.2) J=some (.bool true,J):=by
 have e:=XQ k h1 h2 hl s1.2.2 s2.2.2 l.length 0 k (by omega) hk;rw[show ((0:Nat):Int)=0 from rfl] at e;rw[Xp];simp only[h1.1,h2.1,yr,By,e,AI,ye]
theorem vz (x y x' y':Int):J9 P An (.agg #[.int .i64 x,.int .i64 y]) (.agg #[.int .i64 x',.int .i64 y'])=(bif x == x' then some (y == y') else some false):=by kernel_rfl
theorem vD (a b c a' b' c':Int):J9 P Ad (.agg #[.int .i64 a,.int .i64 b,.int .i64 c]) (.agg #[.int .i64 a',.int .i64 b',.int .i64 c'])=(bif a == a' then (bif b == b' then some (c == c') else some false) else some false):=by kernel_rfl
theorem Yg (k:Nat) (h1:Im J j t) (h2:Im J j' t) (hn:t.bl.length<=1000):∀ (n x f:Nat),x+n=t.bl.length->n<f ->
  Fu k f (Bx j) (Bx j') (x:Int) J=some (.exit 0,[],J)
 | n,x,0,hx,hf=>by omega
 | 0,x,f+1,hx,hf=>by
   rw[Lj];simp only[AI,IN,yl,h1.GK,xY (show ¬ (x:Int)<((t.bl.length:Nat):Int) by omega),By]
 | n+1,x,f+1,hx,hf=>by
   obtain ⟨b1,e1,l1,l1',_⟩:=Qm h1.bl (x:=x) (by omega);obtain ⟨b2,e2,l2,l2',_⟩:=Qm h2.bl (x:=x) (by omega);have qx:(0<=(x:Int)/\(x:Int)<((t.bl.length:Nat):Int))=True:=zl (by omega);have w1:Ar ((x:Int)+1)=((x+1:Nat):Int):=Ah (by unfold AK; omega);have ih:=Yg k h1 h2 hn n (x+1) f (by omega) (by omega);rw[Lj];simp only[AI,IN,yl,h1.GK,h2.GK,xZ (show (x:Int)<((t.bl.length:Nat):Int) by omega),IT,qx,ye,e1,e2,xQ,l1,l1',l2,l2',vz,z9,yp,By,w1,ih]
theorem Yh (k:Nat) (hk:1000<k) (hn:t.ob.length<=5000) (hsm:∀ o ∈ t.ob,o.refs.length<=500/\o.data.length<=500):∀ (n x f:Nat) (J:Aa),Im J j t->Im J j' t->x+n=t.ob.length->n<f ->
  ∃ τ,Fv (k+1) f (Bx j) (Bx j') (x:Int) J=some (.exit 2,[],J++τ)
 | n,x,0,J,h1,h2,hx,hf=>by omega
 | 0,x,f+1,J,h1,h2,hx,hf=>by
   rw[Lk];exact ⟨[],by simp only[AI,IN,yl,h1.E6,xY (show ¬ (x:Int)<((t.ob.length:Nat):Int) by omega),By,yw]⟩
 | n+1,x,f+1,J,h1,h2,hx,hf=>by
   have hxl:x<t.ob.length:=by omega
   obtain ⟨b1,e1,_,L1⟩:=h1.obj hxl;obtain ⟨b2,e2,_,L2⟩:=h2.obj hxl;have ho1:x<j.om.length:=by rw[h1.ol]; exact hxl
   have ho2:x<j'.om.length:=by rw[h2.ol]; exact hxl
   have L1:=L1 ho1;have L2:=L2 ho2;obtain ⟨n1,n2⟩:=h1.inn x hxl ho1;obtain ⟨n3,n4⟩:=h2.inn x hxl ho2;obtain ⟨s1,s2⟩:=hsm _ (yU hxl);generalize t.ob[x]=o at L1 L2 n1 n2 n3 n4 s1 s2;generalize j.om[x]=p at L1 n1 n2;generalize j'.om[x]=p' at L2 n3 n4;have qx:(0<=(x:Int)/\(x:Int)<((t.ob.length:Nat):Int))=True:=zl (by omega);have w1:Ar ((x:Int)+1)=((x+1:Nat):Int):=Ah (by unfold AK; omega);obtain ⟨A,hA⟩:∃ A,Au.cells (Bi o p) Ab true=A:=⟨_,rfl⟩;obtain ⟨A',hA'⟩:∃ A',Au.cells (Bi o p') Ab true=A':=⟨_,rfl⟩;obtain ⟨Z,hμ⟩:∃ Z,J++[A]++[A']=Z:=⟨_,rfl⟩;have hμσ:Z=J++([A]++[A']):=by rw[<- hμ,ya]
   have bx1:J6 Z J.length o p:=by unfold J6; rw[<- hμ,AT (by simp),yK,hA]
   have bx2:J6 Z (J.length+1) o p':=by
    unfold J6;have:(J++[A]).length=J.length+1:=by simp
    rw[<- hμ,<- this,yK,hA']
   obtain ⟨z0,z1,z2,z3,z4,z5,z6,z7⟩:=bx1.ld;obtain ⟨y0,y1,y2,y3,y4,y5,y6,y7⟩:=bx2.ld;have eI1:DN (k+1) (p.1.1,p.1.2.1,p.1.2.2) (p'.1.1,p'.1.2.1,p'.1.2.2) Z=_:=X8 k (l:=o.refs) (by rw[hμσ]; exact n1.app _) (by rw[hμσ]; exact n3.app _) (by omega) (by omega);have eI2:DN (k+1) (p.2.1,p.2.2.1,p.2.2.2) (p'.2.1,p'.2.2.1,p'.2.2.2) Z=_:=X8 k (l:=o.data) (by rw[hμσ]; exact n2.app _) (by rw[hμσ]; exact n4.app _) (by omega) (by omega);obtain ⟨τ,e3⟩:=Yh k hk hn hsm n (x+1) f Z (by rw[hμσ]; exact h1.app _) (by rw[hμσ]; exact h2.app _) (by omega) (by omega);refine ⟨[A]++[A']++τ, ?_⟩;have sa1:H2 (J++[Au.cells [.int .i64 0,.int .i64 0,.int .i64 0,.int .i64 0,.int .i64 0,.slice none 0 0,.slice none 0 0,.bool false] Ab true]++[Au.cells [.int .i64 0,.int .i64 0,.int .i64 0,.int .i64 0,.int .i64 0,.slice none 0 0,.slice none 0 0,.bool false] Ab true]) J.length 0 [.int .i64 o.addr,.int .i64 o.id,.int .i64 o.r,.int .i64 o.d,.int .i64 o.k,.slice p.1.1 p.1.2.1 p.1.2.2,.slice p.2.1 p.2.2.1 p.2.2.2,.bool o.Wg]=some (J++[A]++[Au.cells [.int .i64 0,.int .i64 0,.int .i64 0,.int .i64 0,.int .i64 0,.slice none 0 0,.slice none 0 0,.bool false] Ab true]):=by
    have hc:(J++[Au.cells [.int .i64 0,.int .i64 0,.int .i64 0,.int .i64 0,.int .i64 0,.slice none 0 0,.slice none 0 0,.bool false] Ab true]++[Au.cells [.int .i64 0,.int .i64 0,.int .i64 0,.int .i64 0,.int .i64 0,.slice none 0 0,.slice none 0 0,.bool false] Ab true])[J.length]?=some (.cells [.int .i64 0,.int .i64 0,.int .i64 0,.int .i64 0,.int .i64 0,.slice none 0 0,.slice none 0 0,.bool false] Ab true):=by
     rw[AT (by simp),yK]
    rw[ju hc (by simp)];rw[ya,zS _ _ (yj _),Aaf];simp only[Abt,zX,AP];rw[ya,<- hA];simp[Bi]
   have lz:(J++[Au.cells [.int .i64 0,.int .i64 0,.int .i64 0,.int .i64 0,.int .i64 0,.slice none 0 0,.slice none 0 0,.bool false] Ab true]).length=J.length+1:=by simp
   have sa2:H2 (J++[A]++[Au.cells [.int .i64 0,.int .i64 0,.int .i64 0,.int .i64 0,.int .i64 0,.slice none 0 0,.slice none 0 0,.bool false] Ab true]) (J.length+1) 0 [.int .i64 o.addr,.int .i64 o.id,.int .i64 o.r,.int .i64 o.d,.int .i64 o.k,.slice p'.1.1 p'.1.2.1 p'.1.2.2,.slice p'.2.1 p'.2.2.1 p'.2.2.2,.bool o.Wg]=some Z:=by
    have:(J++[A]).length=J.length+1:=by simp
    rw[<- this,ju (yK) (by simp),zS _ _ (yj _),Aaf,<- hμ];simp only[zX,AP];rw[<- hA'];simp[Bi]
   rw[Lk];simp only[AI,IN,yl,Nat.reduceAdd,h1.E6,h2.E6,xZ (show (x:Int)<((t.ob.length:Nat):Int) by omega),IT,qx,ye,e1,e2,xQ,zu,L1.l0,L1.l1,L1.l2,L1.l3,L1.l4,L1.l5,L1.l6,L1.l7,L2.l0,L2.l1,L2.l2,L2.l3,L2.l4,L2.l5,L2.l6,L2.l7,Ae,lz,sa1,sa2,z0,y0,yr,By,z1,y1,z2,z3,z4,y2,y3,y4,vD,z9,yp,z7,y7,z5,y5,eI1,Ao,z6,y6,eI2,w1];rw[e3,hμσ];simp only[ya]
theorem dF (k:Nat) (hk:10000<=k) (h1:Im J j t) (h2:Im J j' t) (hb:t.bl.length<=1000) (hn:t.ob.length<=5000) (hsm:∀ o ∈ t.ob,o.refs.length<=500/\o.data.length<=500):∃ τ,HP (k+2) (Bx j) (Bx j') J=some (.bool true,J++τ):=by
 have e1:=Yg (k+1) h1 h2 hb t.bl.length 0 (k+1) (by omega) (by omega);obtain ⟨τ,e2⟩:=Yh k (by omega) hn hsm t.ob.length 0 (k+1) J h1 h2 (by omega) (by omega);rw[show ((0:Nat):Int)=0 from rfl] at e1 e2;refine ⟨τ, ?_⟩;rw[SX];simp only[AI,IN,yl,h1.GK,h2.GK,yr,By,h1.E6,h2.E6,h1.ZJ,h2.ZJ,e1,e2,ye]
end
end
end Go.Proofs.YtjbledomkmdkmaaGreat
