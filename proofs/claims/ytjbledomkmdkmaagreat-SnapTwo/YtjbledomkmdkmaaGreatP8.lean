/- Part 8. -/
import Derived.Test.YtjbledomkmdkmaaGreatP7
set_option linter.unusedVariables false
set_option linter.unusedSimpArgs false
set_option linter.unusedSectionVars false
namespace Go.Proofs.YtjbledomkmdkmaaGreat
open Go Go.AX
noncomputable section
section
local instance qCF:AJ:=Ao
variable {J:Aa} {i:Cs} {m:HM}
def D7:List (Nat × Nat)->List Value
 | []=>[]
 | r::l=>qIi (r.1:Int) :: qIi (r.2:Int)::D7 l
theorem Pp:∀ l a,D7 (l++a)=D7 l++D7 a
 | [],a=>rfl
 | r::l,a=>by simp[D7,Pp l a]
theorem WC:∀ (l:List (Nat × Nat)) (x:Nat),x<l.length->(D7 l)[x*2]?=some (qIi ((l.getD x (0,0)).1:Int))/\(D7 l)[x*2+1]?=some (qIi ((l.getD x (0,0)).2:Int))
 | [],x,h=>by simp at h
 | r::l,0,h=>by simp[D7]
 | r::l,x+1,h=>by
   have a:=WC l x (by simpa using h);rw[show (x+1)*2=x*2+1+1 from by omega];simpa [D7,Ace] using a
def Ky (a e:Nat):List (Nat × Nat):=if a<e then [(a,e-a)] else []
def F9 (m:HM):List Nat->Nat->List (Nat × Nat) × Nat
 | [],a=>([],a)
 | j::L,a=>(Ky a (2*j)++(F9 m L (2*j+sz m j)).1,(F9 m L (2*j+sz m j)).2)
def cn (m:HM) (b:Nat):List (Nat × Nat):=(F9 m (D8 m (32*b) 32) (64*b)).1++Ky (F9 m (D8 m (32*b) 32) (64*b)).2 (64*b+64)
def fX (m:HM) (b:Nat):List (Nat × Nat):=if 1<=b/\(m.bls.getD b (0,0)).1=1 then cn m b else []
theorem yi:HV P AG=some 2:=by kernel_rfl
theorem xt:bytesOf P AG=some 16:=by kernel_rfl
theorem yt:FV P AG=some (.agg #[qIi 0,qIi 0]):=by kernel_rfl
structure WN (lo h5 h3:Nat) (J:Aa) (a:Nat) (o:Bx) (R:List (Nat × Nat)):Prop where
 at_:J[h5]?=some (.cells [qIi (a:Int)] Ak true)
 out:J[h3]?=some (.cells [.slice o.1 o.2.1 o.2.2] Sl true)
 sl:Ct AG 2 J o R.length (D7 R)
 new:∀ a,o.1=some a->lo<=a.block
 l5:h5<lo
 l3:h3<lo
 ne:h5≠h3
 ll:lo<=J.length
theorem WN.Ax {lo h5 h3 a:Nat} {J J':Aa} {o:Bx} {R:List (Nat × Nat)} (h:WN lo h5 h3 J a o R) (hs:∀ q,q<J.length->J'[q]?=J[q]?) (c:J.length<=J'.length):WN lo h5 h3 J' a o R:=
 ⟨(hs _ (Af h.at_)).trans h.at_,(hs _ (Af h.out)).trans h.out,h.sl.Ax fun a b=>hs _ (h.sl.lt a b),h.new,h.l5,h.l3,h.ne,Adt h.ll c⟩
theorem uI (k:Nat) {lo h5 h3 a x:Nat} {o:Bx} {R:List (Nat × Nat)} (h:WN lo h5 h3 J a o R) (B:R.length<=5000) (C:a<=5000) (D:x<=5000):
  ∃ J' o',DE (k+1) (x:Int) (some ⟨h5,0,none⟩) (some ⟨h3,0,none⟩) J=some (.tuple #[],J')/\WN lo h5 h3 J' a o' (R++Ky a x)/\(∀ q,q<lo->q≠h3->J'[q]?=J[q]?)/\J.length<=J'.length:=by
 have u:Aj .i64 J h5 0=some (a:Int):=by simp[Aj,CW,h.at_,Bk]
 have A:Be J h3 0=some (o.1,o.2.1,o.2.2):=by simp[Be,CW,h.out,Eo]
 by_cases s:a<x
 ·obtain ⟨g,J1_,v,j,s1⟩:=NM yi xt yt rfl rfl (by decide) (by decide) (by decide) J o R.length (D7 R) 1 1 (D7 [(a,x-a)]) AG (by omega) (by decide) rfl h.sl;have n:AH P AG (o.1,o.2.1,o.2.2) (some ⟨J.length,0,none⟩,1,1) (J++[Au.cells [qIi (a:Int),qIi ((x-a:Nat):Int)] AG true])=some (g,J1_):=v;have i:∀ q,q<lo -> ∀ d,o.1=some d->d.block≠q:=fun q m d b=>by have:=h.new d b; omega
  have t:=(j.same h3 (Af h.out) (i h3 h.l3)).trans h.out;have z:=(j.same h5 (Af h.at_) (i h5 h.l5)).trans h.at_;obtain ⟨J2_,f⟩:∃ J2_,J1_.set h3 (.cells [.slice g.1 g.2.1 g.2.2] Sl true)=J2_:=⟨_,rfl⟩;have p:CY J1_ h3 0 (.slice g.1 g.2.1 g.2.2)=some J2_:=by
   rw[<- f]; simp[CY,t]
  have c:∀ q,q≠h3->J2_[q]?=J1_[q]?:=fun q m=>by rw[<- f,Aar (Adk m)]
  have y:=h.ll;have l:∀ d,g.1=some d->lo<=d.block:=by
   intro d b;rcases j.new with e | e
   ·rw[e] at b; exact h.new d b
   ·have:=e d b; omega
  refine ⟨J2_,g, ?_,⟨(c _ h.ne).trans z,by rw[<- f,Aa2 (Af t)], ?_,l,h.l5,h.l3,h.ne, ?_⟩, ?_, ?_⟩
  ·rw[M7];have q:decide ((x:Int)>(a:Int))=true:=Aak (by omega);have w:Ar ((x:Int)-(a:Int))=((x-a:Nat):Int):=by rw[Ai (by unfold AQ; omega)]; omega
   simp only[AI,u,q,IS,A,Ae,w,n,p,Aat]
  ·unfold Ky;rw[Aay s,Pp,Aaw];exact s1.Ax fun d b=>c _ (fun e=>by have:=l d b; have:=h.l3; omega)
  ·rw[<- f]; have:=j.len; simp; omega
  ·intro q m r;rw[c q r,j.same q (by omega) (i q m)]
  ·rw[<- f]; have:=j.len; simp; omega
 ·refine ⟨J,o, ?_, ?_,fun _ _ _=>rfl,Aa1 _⟩
  ·rw[M7];have q:decide ((x:Int)>(a:Int))=false:=Aaj (by omega);simp only[AI,u,q,By,Aat]
  ·unfold Ky;rw[Aaz s,Ab1];exact h
theorem aG (k:Nat) (L:List Nat) (W:∀ j ∈ L,Start m j) (K:L.length<=2048) (w:∀ j ∈ L,2*j+sz m j<=5000) {lo h5 h3 z:Nat} (s:Bx) (v:∀ a,s.1=some a->a.block<lo/\a.block≠h3/\a.block≠h5) (hi:∀ j ∈ i.l,j<lo/\j≠h3/\j≠h5):∀ (n x f:Nat) (J:Aa) (a:Nat) (o:Bx) (R:List (Nat × Nat)),Al J i m->WN lo h5 h3 J a o R->CB z J s (Cq L)->R.length<=x->a<=5000->x+n=L.length->n<f ->
  ∃ J' o',EB (k+3) f (AU i) h5 h3 s.1 s.2.1 s.2.2 (L.length:Int) (x:Int) J=some (.exit 0,[],J')/\Al J' i m/\WN lo h5 h3 J' (F9 m (L.drop x) a).2 o' (R++(F9 m (L.drop x) a).1)/\(∀ q,q<lo->q≠h3->q≠h5->J'[q]?=J[q]?)/\J.length<=J'.length/\(F9 m (L.drop x) a).2<=5000/\(R++(F9 m (L.drop x) a).1).length<=L.length
 | 0,x,0,J,a,o,R,h,u,hs,P,p,T,N=>by omega
 | 0,x,f+1,J,a,o,R,h,u,hs,P,p,T,N=>by
   rw[M8,Ade (by omega)];have q:decide ((x:Int)<(L.length:Int))=false:=Aaj (by omega);exact ⟨J,o,by simp only[q,By],h,by simpa [F9] using u,fun _ _ _ _=>rfl,Aa1 _,p,by simp[F9]; omega⟩
 | n+1,x,0,J,a,o,R,h,u,hs,P,p,T,N=>by omega
 | n+1,x,f+1,J,a,o,R,h,u,hs,P,p,T,N=>by
   have al:(Cq L).length=L.length:=by simp[Cq]
   have g:x<L.length:=by omega
   have S:=W _ (Adb g);have hle:=w _ (Adb g);have ac:=h.nt;have Q:=S.1;obtain ⟨B,e1,M,c1,y⟩:=ints_at hs (x:=x) (by omega);subst e1;rw[OH L g] at y;obtain ⟨n1,n2,n3⟩:=v _ rfl;simp only at n1 n2 n3;obtain ⟨J1_,o1,eG,U,d,X⟩:=uI (k+2) u (x:=2*L[x]) (by omega) p (by omega);have G:DE (k+3) ((2*L[x]:Nat):Int) (some ⟨h5,0,none⟩) (some ⟨h3,0,none⟩) J=_:=eG;have h1:Al J1_ i m:=h.Ax fun j t=>d j (hi j t).1 (hi j t).2.1;obtain ⟨A,e2⟩:=jk k h1 Q;have c:=U.Ax (J':=J1_++A) (fun q O=>AT O) (by simp);obtain ⟨J3_,l⟩:∃ J3_,(J1_++A).set h5 (.cells [qIi ((2*L[x]+sz m L[x]:Nat):Int)] Ak true)=J3_:=⟨_,rfl⟩;have H:CY (J1_++A) h5 0 (qIi ((2*L[x]+sz m L[x]:Nat):Int))=some J3_:=by
    rw[<- l]; simp[CY,c.at_]
   have b:∀ q,q≠h5->J3_[q]?=(J1_++A)[q]?:=fun q O=>by rw[<- l,Aar (Adk O)]
   have ab:=U.ll;have l3:J3_.length=J1_.length+A.length:=by rw[<- l]; simp
   have g3:WN lo h5 h3 J3_ (2*L[x]+sz m L[x]) o1 (R++Ky a (2*L[x])):=⟨by rw[<- l,Aa2 (Af c.at_)],(b _ (Adk c.ne)).trans c.out,
    c.sl.Ax fun a p=>b _ (fun e=>by have:=c.new a p; have:=c.l5; omega),c.new,c.l5,c.l3,c.ne,by omega⟩;have VL:∀ q,q<lo->q≠h3->q≠h5->J3_[q]?=J[q]?:=fun q C D E=>by
    rw[b q E,AT (by omega),d q C D]
   have I:Al J3_ i m:=h.Ax fun j t=>VL j (hi j t).1 (hi j t).2.1 (hi j t).2.2;have s3:CB z J3_ (some ⟨B,0,none⟩,(Cq L).length,(Cq L).length) (Cq L):=.inr ⟨B,M,rfl,fun e=>by rw[e] at al; simp at al; omega,by rw[VL B n1 n2 n3]; exact c1⟩;have aa:(Ky a (2*L[x])).length<=1:=by unfold Ky; split <;> simp
   obtain ⟨F,o4,e4,h4,V,r,Y,m4,Z⟩:=aG k L W K w (some ⟨B,0,none⟩,(Cq L).length,(Cq L).length) v hi n (x+1) f J3_ (2*L[x]+sz m L[x]) o1 (R++Ky a (2*L[x])) I g3 s3 (by rw[Aaw]; omega) hle (by omega) (by omega);have eT:F9 m (L.drop x) a=(Ky a (2*L[x])++(F9 m (L.drop (x+1)) (2*L[x]+sz m L[x])).1,(F9 m (L.drop (x+1)) (2*L[x]+sz m L[x])).2):=by
    rw[Ac2 g]; rfl
   rw[eT];rw[Aaq] at V Z;refine ⟨F,o4, ?_,h4,V,fun q C D E=>(r q C D E).trans (VL q C D E),by omega,m4,Z⟩;rw[M8];have q:decide ((x:Int)<(L.length:Int))=true:=Aak (by omega);have w1:=wSu x (by omega);have w2:Ar (((2*L[x]:Nat):Int)+(sz m L[x]:Int))=((2*L[x]+sz m L[x]:Nat):Int):=by rw[Ai (by unfold AQ; omega)]; omega
   simp only[q,IS];rw[Aay (by omega)];simp only[AI,IN,IT,Acg,y,G,Gi,e2,Ah,w2,H,w1];exact e4
theorem wI (k:Nat) (P:5000<=k) (h:Al J i m) (N:Inv m) {b:Nat} (hb:b<m.bls.length):
  ∃ τ s,H0 (k+7) (AU i) (b:Int) J=some (.slice s.1 s.2.1 s.2.2,J++τ)/\Ct AG 2 (J++τ) s (fX m b).length (D7 (fX m b))/\(fX m b).length<=33 /\ ∀ a,s.1=some a->J.length<=a.block:=by
 have hu:Ft (k+6) (AU i) (b:Int) J=_:=yp (k+3) h hb;unfold fX;by_cases r:1<=b/\(m.bls.getD b (0,0)).1=1;rotate_left
 ·rw[Aaz r];refine ⟨[],(none,0,0), ?_,Ct.nil _ _ _,by simp,by intro a f; cases f⟩;rw[Ll];simp only[hu,AI,An,Aaj r,Adi,IS,Ab1]
 rw[Aay r];have Q:=h.nt;have S:=h.wl;obtain ⟨J1_,e⟩:∃ J1_,J++[Au.cells [.slice none 0 0] Sl true]=J1_:=⟨_,rfl⟩;have l1:J1_.length=J.length+1:=by rw[<- e]; simp
 obtain ⟨J2_,d⟩:∃ J2_,J1_++[Au.cells [qIi ((64*b:Nat):Int)] Ak true]=J2_:=⟨_,rfl⟩;have w:CY (J1_++[Au.cells [qIi 0] Ak true]) J1_.length 0 (qIi ((64*b:Nat):Int))=some J2_:=by
  rw[<- d]; simp[CY]
 have l2:J2_.length=J.length+2:=by rw[<- d]; simp; omega
 have E:Al J2_ i m:=d ▸ (e ▸ h.app _:Al J1_ i m).app _;obtain ⟨o,s,K,i3⟩:=VW k P E hb;have F:∀ j ∈ D8 m (32*b) 32,Start m j:=by
  intro j n;obtain ⟨a,Z,c⟩:=LR.1 n;exact ⟨by omega,c⟩
 have O:=Ns m (32*b) 32;have A:=h.lt;have M:WN (J2_++o).length J1_.length J.length (J2_++o) (64*b) (none,0,0) []:=by
  refine { at_:=?_,out:=?_,sl:=Ct.nil _ _ _,new:=(by intro a f; cases f),l5:=(by simp; omega),l3:=(by simp; omega),ne:=(by omega),ll:=Aa1 _ }
  ·rw[AT (by omega),<- d]; simp
  ·rw[AT (by omega),<- d,AT (by omega),<- e]; simp
 obtain ⟨u,o4,B,h4,D,g,H,U,V⟩:=aG (k+3) _ F (by omega) (fun j n=>by have:=N.fit j (F j n); omega) s (fun a f=>by have:=i3.ge a f; simp only[Aaw] at *; omega) (fun j n=>by have:=A j n; simp; omega)
  (D8 m (32*b) 32).length 0 (k+6) (J2_++o) (64*b) (none,0,0) [] (E.app o) M i3 (Ado _) (by omega) (by omega) (by omega);rw[Adf,Ae5] at D V;rw[Adf] at U;obtain ⟨J5_,t,L,p,l,I⟩:=uI (k+5) D (x:=64*b+64) (by omega) (by omega) (by omega);have z:=p.ll;have hle:J.length<=J5_.length:=by simp at z; omega
 have C:J5_=J++J5_.drop J.length:=by
  apply Ad8;intro q;by_cases G:q<J.length
  ·rw[AT G,l q (by simp; omega) (by omega),g q (by simp; omega) (by omega) (by omega),AT (by omega),<- d,AT (by omega),<- e,AT G]
  ·rw[Acf (by omega),Ad0,show J.length+(q-J.length)=q from by omega]
 refine ⟨J5_.drop J.length,t, ?_,by rw[<- C]; exact p.sl, ?_,fun a f=>by have:=p.new a f; simp at this; omega⟩
 ·have y:=i3.len;rw[show (Cq (D8 m (32*b) 32)).length=(D8 m (32*b) 32).length from by simp[Cq]] at y;rw[<- C,Ll];have W:Ar ((b:Int)*64)=((64*b:Nat):Int):=by rw[Ai (by unfold AQ; omega)]; omega
  have X:Ar ((b:Int)+1)=((b+1:Nat):Int):=by rw[Ai (by unfold AQ; omega)]; omega
  have Y:Ar (((b+1:Nat):Int)*64)=((64*b+64:Nat):Int):=by rw[Ai (by unfold AQ; omega)]; omega
  have T:Be J5_ J.length 0=some (t.1,t.2.1,t.2.2):=by simp[Be,CW,p.out,Eo]
  have v:EB (k+6) (k+6) (AU i) J1_.length J.length s.1 (D8 m (32*b) 32).length s.2.2 (((D8 m (32*b) 32).length:Nat):Int) 0 (J2_++o)=some (.exit 0,[],u):=by rw[y] at B; exact B
  simp only[hu,AI,An,Aak r,Aa4,By,Ae,e,W,w,K,Eo,y,v,Aat,X,Y,L,Gi,T]
 ·unfold cn;rw[Aaw];have:(Ky (F9 m (D8 m (32*b) 32) (64*b)).2 (64*b+64)).length<=1:=by unfold Ky; split <;> simp
  omega
end
section
variable {m:HM}
structure RO where
 addr:Int
 id:Int
 r:Int
 d:Int
 k:Int
 refs:List Int
 data:List Int
 W2:Bool
structure RM where
 bl:List (Int × Int)
 ob:List RO
 fw:List (Int × Int)
 born:Int
def RO.w (o:RO):Int:=words o.r o.d o.k
def AR (m:HM) (j:Nat):RO:=⟨((2*j:Nat):Int),m.wds.getD (2*j) 0,Av m j,Bp m j,CC m j,KM m (2*j+2) (Av m j).toNat,KM m (2*j+2+(Av m j).toNat) (Bp m j).toNat,decide (CJ 1 m.pnw j=1)⟩
def FA (m:HM):List Nat:=D8 m 0 (32*m.bls.length)
def Gr (m:HM):List RO:=(FA m).map (AR m)
structure Rv (m:HM) (t:RM):Prop where
 bl:t.bl=m.bls
 ob:t.ob=Gr m
 born:t.born=m.births
 fw:∀ a,getM t.fw a=getM m.fw a
 fl:t.fw.length=m.fw.length
 o1:SA t.fw
 o2:SA m.fw
theorem WH:∀ {l d:List Nat},l.Pairwise (·<·)->d.Pairwise (·<·)->(∀ a,a ∈ l↔a ∈ d)->l=d
 | [],[],_,_,_=>rfl
 | [],b::d,_,_,h=>by have:=(h b).2 Acj; cases this
 | a::l,[],_,_,h=>by have:=(h a).1 Acj; cases this
 | a::l,b::d,h1,k,h=>by
   have i:=Ad9.1 h1;have j:=Ad9.1 k;have g:a=b:=by
    rcases Acd.1 ((h a).1 Acj) with e | e
    ·exact e
    ·rcases Acd.1 ((h b).2 Acj) with f | f
     ·exact f.symm
     ·have:=i.1 b f; have:=j.1 a e; omega
   subst g;congr 1;refine WH i.2 j.2 fun x=>⟨fun c=>?_,fun c=>?_⟩
   ·rcases Acd.1 ((h x).1 (Ab7 _ c)) with e | e
    ·subst e; have:=i.1 x c; omega
    ·exact e
   ·rcases Acd.1 ((h x).2 (Ab7 _ c)) with e | e
    ·subst e; have:=j.1 x c; omega
    ·exact e
theorem K1 (m:HM):(FA m).Pairwise (·<·):=(List.pairwise_lt_range' (step:=1) (by decide)).filter _
theorem DS {j:Nat}:j ∈ FA m↔Start m j:=xJ
theorem ja {m':HM} {l:List Nat} (hs:l.Pairwise (·<·)) (hm:∀ j,j ∈ l↔Start m' j):Gr m'=l.map (AR m'):=by
 unfold Gr;rw[WH (K1 m') hs (fun a=>by rw[DS,hm])]
def Ow:List RO->Int->Option Nat
 | [],_=>none
 | o::l,a=>if o.addr=a then some 0 else (Ow l a).map (·+1)
theorem lB (f:Nat->RO) (i:∀ j,(f j).addr=((2*j:Nat):Int)):∀ (L:List Nat) (a:Int),(∀ x,Ow (L.map f) a=some x->x<L.length /\ ∀ h:x<L.length,a=((2*L[x]:Nat):Int))/\(Ow (L.map f) a=none -> ∀ j ∈ L,a≠((2*j:Nat):Int))
 | [],a=>⟨fun x h=>(by cases h),fun _ j m=>(by cases m)⟩
 | j::L,a=>by
   obtain ⟨h1,l⟩:=lB f i L a;simp only[Aek,Ow,i];constructor
   ·intro x b;split at b
    ·rename_i e;cases b;exact ⟨by simp,fun _=>e.symm⟩
    ·cases d:Ow (L.map f) a with
     | none=>rw[d] at b; cases b
     | some y=>
       rw[d] at b; cases b;obtain ⟨k,n⟩:=h1 y d;exact ⟨by simpa using k,fun h=>by simpa using n k⟩
   ·intro b;split at b
    ·cases b
    ·rename_i e;cases d:Ow (L.map f) a with
     | none=>
       intro j' c g;rcases Acd.1 c with rfl | c
       ·exact e g.symm
       ·exact l d j' c g
     | some y=>rw[d] at b; cases b
theorem Nq (m:HM) (j:Nat):(AR m j).addr=((2*j:Nat):Int):=rfl
theorem Rv.idx {t:RM} (h:Rv m t) (a:Int):(∀ x,Ow t.ob a=some x->x<t.ob.length /\ ∃ j,Start m j/\a=((2*j:Nat):Int)/\Aw m a=true/\(FA m)[x]?=some j/\t.ob[x]?=some (AR m j))/\(Ow t.ob a=none->Aw m a=false):=by
 obtain ⟨h1,f⟩:=lB (AR m) (Nq m) (FA m) a;rw[h.ob];constructor
 ·intro x c;obtain ⟨b,d⟩:=h1 x c;have hs:Start m (FA m)[x]:=DS.1 (Adb b);refine ⟨by simpa [Gr] using b,(FA m)[x],hs,d b,by rw[d b]; exact RU hs,Aau b, ?_⟩;unfold Gr;rw[Aeg,Aau b]; rfl
 ·intro c;cases g:Aw m a with
  | false=>rfl
  | true=>
    obtain ⟨j,e,hs⟩:=AY g;exact absurd e (f c j (DS.2 hs))
theorem Rv.has {t:RM} (h:Rv m t) (a:Int):(Ow t.ob a).isSome=Aw m a:=by
 obtain ⟨h1,c⟩:=h.idx a;cases b:Ow t.ob a with
 | none=>rw[c b]; rfl
 | some x=>obtain ⟨_,j,_,_,e,_⟩:=h1 x b; rw[e]; rfl
theorem oD (a:Inv m) {j:Nat} (hs:Start m j):(AR m j).w=(sz m j:Int):=(Nc a hs).2.2.2.2.2.2.2
def xU:List RO->Int->Option Int
 | [],_=>none
 | o::l,n=>if o.id=n then some o.addr else xU l n
theorem qp (n:Int):∀ (L:List Nat),(xU (L.map (AR m)) n=none -> ∀ j ∈ L,m.wds.getD (2*j) 0≠n)/\(∀ a,xU (L.map (AR m)) n=some a -> ∃ j ∈ L,a=((2*j:Nat):Int)/\m.wds.getD (2*j) 0=n)
 | []=>⟨fun _ j g=>(by cases g),fun a h=>(by cases h)⟩
 | j::L=>by
   obtain ⟨h1,f⟩:=qp n L;simp only[Aek,xU,Nq];have d:(AR m j).id=m.wds.getD (2*j) 0:=rfl;rw[d];constructor
   ·intro c;split at c
    ·cases c
    ·rename_i e;intro j' b;rcases Acd.1 b with rfl | b
     ·exact e
     ·exact h1 c j' b
   ·intro a c;split at c
    ·rename_i e;cases c;exact ⟨j,Acj,rfl,e⟩
    ·obtain ⟨j',i,k⟩:=f a c;exact ⟨j',Ab7 _ i,k⟩
theorem Rv.at {t:RM} (h:Rv m t) (b:Inv m) (n:Int):xU t.ob n=getM m.pl n:=by
 rw[h.ob];obtain ⟨h1,d⟩:=qp (m:=m) n (FA m);have i:Gr m=(FA m).map (AR m):=rfl;rw[i];cases c:xU ((FA m).map (AR m)) n with
 | none=>
   cases f:getM m.pl n with
   | none=>rfl
   | some a=>
     obtain ⟨j,rfl,s1,s2⟩:=b.plc _ _ f;exact absurd s2 (h1 c j (DS.2 s1))
 | some a=>
   obtain ⟨j,g,rfl,e⟩:=d a c;have:=(b.idn j (DS.1 g)).2.2;rw[e] at this;exact this.symm
def dc (l:List RO) (a w b:Int):Bool:=l.any fun o=>decide (o.id≠b/\o.addr<a+w/\a<o.addr+o.w)
end
section
variable {m:HM} {t:RM}
def LN (m:HM):Prop:=∀ j,j<32*m.bls.length->¬ Start m j->CJ 1 m.pnw j=0
theorem dq (f:Inv m) {m':HM} {j j':Nat} (hs:Start m j) (hw:∀ c,c<sz m j->m'.wds.getD (2*j'+c) 0=m.wds.getD (2*j+c) 0) (hp:CJ 1 m'.pnw j'=CJ 1 m.pnw j):AR m' j'={ AR m j with addr:=((2*j':Nat):Int) }:=by
 have h:=f.size hs;have a:=hw 1 (by omega);obtain ⟨_,_,e,b⟩:=VO (m:=m) (m':=m') (j:=j) (j':=j') a;have d:CC m' j'=CC m j:=by unfold CC; rw[a]
 have w0:=hw 0 (by omega);rw[Aa0,Aa0] at w0;unfold AR;rw[w0,e,b,d,hp,UP (m:=m) (m':=m') (Av m j).toNat (2*j+2) (2*j'+2) (fun q g=>by
  have:=hw (2+q) (by omega);rw[Ad3,Ad3]; exact this),UP (m:=m) (m':=m') (Bp m j).toNat (2*j+2+(Av m j).toNat) (2*j'+2+(Av m j).toNat) (fun q g=>by
  have:=hw (2+(Av m j).toNat+q) (by omega);rw[Ad3 (2*j'),Ad3 (2*j'),Ad3 (2*j),Ad3 (2*j)]; exact this)]
theorem OD (a:Inv m) {m':HM} {j:Nat} (hs:Start m j) (hw:∀ c,c<sz m j->m'.wds.getD (2*j+c) 0=m.wds.getD (2*j+c) 0) (hp:CJ 1 m'.pnw j=CJ 1 m.pnw j):AR m' j=AR m j:=dq a hs hw hp
def Sg:List RO->Int->Nat
 | [],_=>0
 | o::l,a=>if o.addr<a then Sg l a+1 else 0
def Uw (l:List RO) (o:RO):List RO:=l.take (Sg l o.addr)++o::l.drop (Sg l o.addr)
theorem qq:∀ (l:List RO) (a:Int),Sg l a<=l.length
 | [],_=>Aa1 _
 | o::l,a=>by
   rw[Sg];split
   ·have:=qq l a; simp; omega
   ·simp
theorem lI (f:Nat->RO) (c:∀ j,(f j).addr=((2*j:Nat):Int)) (j:Nat):∀ (L:List Nat),L.Pairwise (·<·)->(∀ y ∈ L.take (Sg (L.map f) ((2*j:Nat):Int)),y<j)/\(∀ y ∈ L.drop (Sg (L.map f) ((2*j:Nat):Int)),j<=y)
 | [],_=>⟨fun y h=>(by simp at h),fun y h=>(by simp at h)⟩
 | b::L,h=>by
   have p:=Ad9.1 h;obtain ⟨h1,d⟩:=lI f c j L p.2;simp only[Aek,Sg,c];split
   ·rw[Ahl,Agx];refine ⟨fun y a=>?_,d⟩;rcases Acd.1 a with rfl | a
    ·omega
    ·exact h1 y a
   ·rw[Agu,Adf];refine ⟨fun y a=>(by cases a),fun y a=>?_⟩;rcases Acd.1 a with rfl | a
    ·omega
    ·have:=p.1 y a; omega
theorem lG {m':HM} {L:List Nat} {j:Nat} {o:RO} (hs:L.Pairwise (·<·)) (r:j ∉ L) (g:∀ y,Start m' y↔y=j\/y ∈ L) (f:Nat->RO) (q:∀ j,(f j).addr=((2*j:Nat):Int)) (d:∀ y ∈ L,AR m' y=f y) (k:AR m' j=o):Gr m'=Uw (L.map f) o:=by
 have n:o.addr=((2*j:Nat):Int):=by rw[<- k]; rfl
 obtain ⟨h1,i⟩:=lI f q j L hs;unfold Uw;rw[n];obtain ⟨p,hp⟩:∃ p,Sg (L.map f) ((2*j:Nat):Int)=p:=⟨_,rfl⟩;rw[hp] at h1 i ⊢;have a:=Afd p L;have c:(L.take p++L.drop p).Pairwise (·<·):=by rw[a]; exact hs
 rw[Ahg] at c;rw[ja (l:=L.take p++j::L.drop p) ?_ ?_,Ae7,Aek,<- List.map_take,<- List.map_drop,k]
 ·congr 1
  ·exact Agy fun y b=>d y (Agr b)
  ·congr 1;exact Agy fun y b=>d y (Agg b)
 ·rw[Ahg,Ad9];refine ⟨c.1,⟨fun y b=>?_,c.2.1⟩,fun x m y b=>?_⟩
  ·have:=i y b;have:y≠j:=fun e=>r (e ▸ Agg b);omega
  ·rcases Acd.1 b with rfl | b
   ·exact h1 x m
   ·exact c.2.2 x m y b
 ·intro y;rw[g y,Aas,Acd];constructor
  ·rintro (h | h | h)
   ·exact .inr (Agr h)
   ·exact .inl h
   ·exact .inr (Agg h)
  ·rintro (h | h)
   ·exact .inr (.inl h)
   ·rw[<- a,Aas] at h;rcases h with h | h
    ·exact .inl h
    ·exact .inr (.inr h)
theorem YN {m':HM}:∀ (n a:Nat),(∀ q,q<n->m'.wds.getD (a+q) 0=0)->KM m' a n=List.replicate n 0
 | 0,a,h=>rfl
 | n+1,a,h=>by
   rw[Rj,Aeu,YN n (a+1) (fun q b=>by have:=h (q+1) (by omega); rw[show a+1+q=a+(q+1) from by omega]; exact this)];have:=h 0 (by omega);rw[Aa0] at this;rw[this]
theorem Rv.Ax {m':HM} {t':RM} (h:Rv m t) (hb:t'.bl=m'.bls) (c:t'.ob=Gr m') (b:t'.born=m'.births) (a:t'.fw=t.fw) (hm:m'.fw=m.fw):Rv m' t':=
 ⟨hb,c,b,by rw[a,hm]; exact h.fw,by rw[a,hm]; exact h.fl,by rw[a]; exact h.o1,by rw[hm]; exact h.o2⟩
theorem IB (c:Sh m) {j:Nat} (d:j<32*m.bls.length) (n:Int) (a:Nat):(CT m j n).wds.getD a 0=if a=2*j+1 then n else if a=2*j then m.births+1 else m.wds.getD a 0:=by
 have:=c.wl;show ((m.wds.set (2*j) (m.births+1)).set (2*j+1) n).getD a 0=_;rw[Cp,Cp,Adj];by_cases h1:a=2*j+1
 ·subst h1; rw[Aay ⟨rfl,by omega⟩,Aay rfl]
 ·rw[Aaz (fun h=>h1 h.1.symm),Aaz h1];by_cases b:a=2*j
  ·subst b; rw[Aay ⟨rfl,by omega⟩,Aay rfl]
  ·rw[Aaz (fun h=>b h.1.symm),Aaz b]
theorem Rv.place (h:Rv m t) (s:Inv m) (u:Inv2 m) (n:Sh m) (A:LN m) {j:Nat} {r d k:Int} (w:valid r d k=true) (l:j<32*m.bls.length)
  (i:∀ o,Start m o->2*o+sz m o<=2*j\/2*j+Pt (num r d k)<=2*o):Rv (CT m j (num r d k)) { t with born:=t.born+1,ob:=Uw t.ob ⟨((2*j:Nat):Int),t.born+1,r,d,k,List.replicate r.toNat 0,List.replicate d.toNat 0,false⟩ }/\LN (CT m j (num r d k)):=by
 have p:=n.sl;obtain ⟨I,J,K,_⟩:=Kk w;have f:=Kw w;have x:=w;simp[valid] at x;have b:¬ Start m j:=by
  intro hs;have:=i j hs;have:=s.size hs;rcases this with ⟨_,_⟩
  rw[f] at *;omega
 have v:∀ y,Start (CT m j (num r d k)) y↔y=j\/y ∈ FA m:=fun y=>by rw[J4 p l,DS]
 have key:Gr (CT m j (num r d k))=Uw (Gr m) ⟨((2*j:Nat):Int),m.births+1,r,d,k,List.replicate r.toNat 0,List.replicate d.toNat 0,false⟩:=by
  refine lG (K1 m) (fun hm=>b (DS.1 hm)) v (AR m) (Nq m) (fun y g=>?_) ?_
  ·have g:=DS.1 g;have G:y≠j:=fun e=>b (e ▸ g);have N:=s.size g;have:=i y g;refine OD s g (fun c M=>?_) rfl;rw[IB n l,Aaz (by rw[f] at this; omega),Aaz (by rw[f] at this; omega)]
  ·have w0:(CT m j (num r d k)).wds.getD (2*j) 0=m.births+1:=by rw[IB n l,Aaz (by omega),Aay rfl]
   have z:(CT m j (num r d k)).wds.getD (2*j+1) 0=num r d k:=by rw[IB n l,Aay rfl]
   have C:Av (CT m j (num r d k)) j=r:=by unfold Av; rw[z,I]
   have D:Bp (CT m j (num r d k)) j=d:=by unfold Bp; rw[z,J]
   have E:CC (CT m j (num r d k)) j=k:=by unfold CC; rw[z,K]
   have hzero:∀ a,2*j+2<=a->a<2*j+Pt (num r d k)->(CT m j (num r d k)).wds.getD a 0=0:=by
    intro a h1 L;rw[IB n l,Aaz (by omega),Aaz (by omega)];refine u.zero a fun o B O P=>?_;have:=i o B;have:=s.use B;omega
   unfold AR;rw[w0,C,D,E,YN,YN]
   ·have:CJ 1 (CT m j (num r d k)).pnw j=0:=A j l b;rw[this]; rfl
   ·intro q H; exact hzero _ (by omega) (by rw[f]; omega)
   ·intro q H; exact hzero _ (by omega) (by rw[f]; omega)
 refine ⟨h.Ax h.bl ?_ ?_ rfl rfl,fun y g F=>?_⟩
 ·show Uw t.ob _=_;rw[key,h.ob,h.born]
 ·show t.born+1=m.births+1;rw[h.born]
 ·exact A y g fun hs=>F ((J4 p l).2 (.inr hs))
theorem gw {α β:Type} (f:α->β):∀ (l:List α) (x:Nat),(l.map f).eraseIdx x=(l.eraseIdx x).map f
 | [],_=>rfl
 | _::_,0=>rfl
 | a::l,x+1=>by simp[List.eraseIdx_cons_succ,gw f l x]
theorem fK {m':HM} {x j:Nat} (h:(FA m)[x]?=some j) (f:∀ y,Start m' y↔y≠j/\Start m y) (g:∀ y,Start m y->y≠j->AR m' y=AR m y):Gr m'=(Gr m).eraseIdx x/\((FA m).eraseIdx x).Pairwise (·<·)/\(∀ y,y ∈ (FA m).eraseIdx x↔y≠j/\Start m y)/\(Gr m).eraseIdx x=((FA m).eraseIdx x).map (AR m):=by
 obtain ⟨k,b⟩:=Ab6.1 h;have hs:=(K1 m).sublist (List.eraseIdx_sublist (FA m) x);have d:(FA m).Nodup:=XD _ _;have hm:∀ y,y ∈ (FA m).eraseIdx x↔y≠j/\Start m y:=by
  intro y;rw[List.mem_eraseIdx_iff_getElem];constructor
  ·rintro ⟨i,hi,a,rfl⟩;refine ⟨fun e=>a ?_,DS.1 (Adb _)⟩;exact (List.getElem_inj d).1 (e.trans b.symm)
  ·rintro ⟨a,c⟩;obtain ⟨i,hi,rfl⟩:=Ad7.1 (DS.2 c);exact ⟨i,hi,fun e=>a (by subst e; exact b),rfl⟩
 have he:(Gr m).eraseIdx x=((FA m).eraseIdx x).map (AR m):=by
  unfold Gr; rw[gw]
 refine ⟨?_,hs,hm,he⟩;rw[ja hs (fun y=>by rw[hm,f]),he];exact Agy fun y c=>g y ((hm y).1 c).2 ((hm y).1 c).1
theorem Rv.kill (h:Rv m t) (g:Inv m) (i:Sh m) (l:LN m) {x j:Nat} (hs:Start m j) (r:(FA m)[x]?=some j):Rv (HS m j) { t with ob:=t.ob.eraseIdx x }/\LN (HS m j):=by
 have f:=i.sl;have p:=i.pl;have n:=hs.1;have b:∀ y,Start (HS m j) y↔y≠j/\Start m y:=fun y=>JK f n;obtain ⟨k,_⟩:=fK r b (fun y d a=>OD g d (fun c s=>Nl g hs d a (by omega) (by omega)) (by
  show CJ 1 (FB 1 m.pnw j 0) y=_;rw[Cf (.inl rfl) (by decide) (Adk a)]));refine ⟨h.Ax h.bl ?_ h.born rfl rfl,fun y d o=>?_⟩
 ·show t.ob.eraseIdx x=_;rw[k,h.ob]
 ·show CJ 1 (FB 1 m.pnw j 0) y=0;by_cases e:y=j
  ·subst e; rw[EU (.inl rfl) (by decide) (by omega)]
  ·rw[Cf (.inl rfl) (by decide) (Adk e)];exact l y d fun q=>o ((b y).2 ⟨e,q⟩)
theorem SA.getM_none {k:Int}:∀ {l:List (Int × Int)},getM l k=none -> ∀ e ∈ l,e.1≠k
 | [],_,e,he=>by cases he
 | a::l,h,e,he=>by
   unfold getM at h;rw[Af2] at h;cases b:(k == a.1) with
   | true=>rw[b] at h; cases h
   | false=>
     rw[b] at h;rcases Acd.1 he with rfl | he
     ·exact fun c=>by rw[c] at b; simp at b
     ·exact SA.getM_none (l:=l) h e he
theorem Kj (a k:Int) (b:Int) (l:List (Int × Int)):getM ((a,b)::l) k=if k=a then some b else getM l k:=by
 unfold getM;rw[Af2];by_cases h:k=a
 ·rw[Aay h]; simp[h]
 ·rw[Aaz h];have:(k == a)=false:=by simpa using h
  simp only[this]
def xV (l:List (Int × Int)) (a b:Int):List (Int × Int):=(l.filter fun e=>e.1 != a)++[(a,b)]
theorem kI (l a:List (Int × Int)) (k:Int):getM (l++a) k=(getM l k).or (getM a k):=by
 induction l with
 | nil=>simp[getM]
 | cons e l b=>
   obtain ⟨x,y⟩:=e;rw[Agw,Kj,Kj,b];split <;> simp
theorem Uj (a k:Int):∀ l:List (Int × Int),getM (l.filter fun e=>e.1 != a) k=if k=a then none else getM l k
 | []=>by simp[getM]
 | (x,y)::l=>by
   rw[Ae0];have c:=Uj a k l;by_cases h:x=a
   ·subst h;simp only[Abx,Ab8,Aa5];rw[c,Kj];by_cases b:k=x
    ·rw[Aay b,Aay b]
    ·rw[Aaz b,Aaz b,Aaz b]
   ·have:(x != a)=true:=Adz.2 h;simp only[this,Aat];rw[Kj,c,Kj];by_cases b:k=x
    ·rw[Aay b,Aay b,Aaz (by omega)]
    ·rw[Aaz b,Aaz b]
theorem Ur (p:Int × Int->Bool):∀ l,SA l->SA (l.filter p)
 | [],_=>trivial
 | e::l,h=>by
   rw[Ae0];split
   ·refine ⟨?_,Ur p l h.2⟩;have h1:=h.1;cases c:getM (l.filter p) e.1 with
    | none=>rfl
    | some v=>
      unfold getM at c;cases b:(l.filter p).find? (fun a=>e.1 == a.1) with
      | none=>rw[b] at c; cases c
      | some a=>
        have hm:=List.mem_of_find?_eq_some b;have he:=List.find?_some b;have:=SA.getM_none h1 a (Aea.1 hm).1;simp at he;exact absurd he.symm this
   ·exact Ur p l h.2
theorem bX (a:Int):∀ l:List (Int × Int),SA l->(l.filter fun e=>e.1 != a).length+(if (getM l a).isSome then 1 else 0)=l.length
 | [],_=>by simp[getM]
 | (x,y)::l,h=>by
   have b:=bX a l h.2;rw[Ae0,Kj];by_cases he:x=a
   ·subst he;have h1:getM l x=none:=h.1;rw[h1] at b;simp at b ⊢;exact b
   ·have:(x != a)=true:=Adz.2 he;simp only[this,Aat];rw[Aaz (Adk he)];simp only[Adl];omega
theorem ml (a b:Int):∀ l:List (Int × Int),(PA a b l).length=if (getM l a).isSome then l.length else l.length+1
 | []=>by simp[PA,getM]
 | (x,y)::l=>by
   have c:=ml a b l;rw[PA,Kj];by_cases he:a=x
   ·subst he; simp
   ·have:(a == (x,y).1)=false:=by simpa using he
    simp only[this,Ab8,Aa5,Aaz he,Adl,c];split <;> rfl
theorem gB (a b:Int):∀ l:List (Int × Int),SA l->getM l a=none->SA (l++[(a,b)])
 | [],_,_=>⟨rfl,trivial⟩
 | (x,y)::l,h,c=>by
   rw[Kj] at c;have d:a≠x:=fun e=>by rw[Aay e] at c; cases c
   rw[Aaz d] at c;refine ⟨?_,gB a b l h.2 c⟩;show getM (l++[(a,b)]) x=none;rw[kI,show getM l x=none from h.1,Kj,Aaz (Adk d)]; rfl
theorem Rv.fwd {m':HM} {t':RM} (h:Rv m t) (a b:Int) (hb:t'.bl=m'.bls) (j:t'.ob=Gr m') (i:t'.born=m'.births) (d:t'.fw=xV t.fw a b) (hm:m'.fw=PA a b m.fw):Rv m' t':=by
 have f:getM (t.fw.filter fun e=>e.1 != a) a=none:=by rw[Uj,Aay rfl]
 refine ⟨hb,j,i,fun k=>?_, ?_, ?_,by rw[hm]; exact Us _ _ _ h.o2⟩
 ·rw[d,hm,Pd];unfold xV;rw[kI,Uj,Kj];by_cases c:k=a
  ·rw[Aay c,Aay c,Aay c]; rfl
  ·rw[Aaz c,Aaz c,Aaz c,<- h.fw k];cases getM t.fw k <;> rfl
 ·rw[d,hm,ml];unfold xV;have h1:=bX a t.fw h.o1;rw[h.fw a] at h1;have l:=h.fl;rw[Aaw];simp only[Adl,Adx];cases g:(getM m.fw a).isSome with
  | true=>rw[g] at h1; simp only[Aat] at h1 ⊢; omega
  | false=>rw[g] at h1; simp only[Ab8,Aa5] at h1 ⊢; omega
 ·rw[d];exact gB _ _ _ (Ur _ _ h.o1) f
theorem Rv.move (h:Rv m t) (a:Inv m) (q:Sh m) (C:LN m) {x j u:Nat} (hs:Start m j) (F:(FA m)[x]?=some j) (hu:u<32*m.bls.length) (b:2*u+sz m j<=m.wds.length)
  (g:∀ o,Start m o->o≠j->2*o+sz m o<=2*u\/2*u+sz m j<=2*o):Rv (Ph m j u) { t with ob:=Uw (t.ob.eraseIdx x) { AR m j with addr:=((2*u:Nat):Int) },fw:=xV t.fw ((2*j:Nat):Int) ((2*u:Nat):Int) }/\LN (Ph m j u):=by
 have r:=q.sl;have D:=q.pl;have G:=a.size hs;have s:=yk 1 m.pnw j;have f:=fun y=>dJ (m:=m) q (j:=j) (t:=u) (j':=y) hs.1 hu;have k:∀ o,Start m o->o≠j->o≠u:=by
  rintro o z e rfl;have:=g o z e;have:=a.size z;omega
 obtain ⟨_,A,p,B⟩:=fK (m':=HS m j) F (fun y=>JK r hs.1) (fun y d i=>OD a d (fun c v=>Nl a hs d i (by omega) (by omega)) (by
  show CJ 1 (FB 1 m.pnw j 0) y=_;rw[Cf (.inl rfl) (by decide) (Adk i)]));have key:Gr (Ph m j u)=Uw ((Gr m).eraseIdx x) { AR m j with addr:=((2*u:Nat):Int) }:=by
  rw[B];refine lG (j:=u) A (fun hm=>?_) (fun y=>?_) (AR m) (Nq m) (fun y d=>?_) ?_
  ·obtain ⟨l,n⟩:=(p u).1 hm;exact k u n l rfl
  ·rw[f,p]
  ·obtain ⟨l,n⟩:=(p y).1 d;refine OD a n (fun c v=>cP a hs b g n l (by omega) (by omega)) ?_;show CJ 1 (FB 1 (FB 1 m.pnw j 0) u (CJ 1 m.pnw j)) y=_;rw[Cf (.inl rfl) s (Adk (k y n l)),Cf (.inl rfl) (by decide) (Adk l)]
  ·refine dq a hs (fun c v=>?_) ?_
   ·rw[Sb a hs b,Aay (by omega),show 2*j+(2*u+c-2*u)=2*j+c from by omega]
   ·show CJ 1 (FB 1 (FB 1 m.pnw j 0) u (CJ 1 m.pnw j)) u=_;rw[EU (.inl rfl) s (by rw[Ek]; omega)]
 refine ⟨h.fwd _ _ h.bl ?_ h.born rfl rfl,fun y d w=>?_⟩
 ·show Uw (t.ob.eraseIdx x) _=_;rw[key,h.ob]
 ·show CJ 1 (FB 1 (FB 1 m.pnw j 0) u (CJ 1 m.pnw j)) y=0;have d:y<32*m.bls.length:=d;have h1:y≠u:=fun e=>w ((f y).2 (.inl e));rw[Cf (.inl rfl) s (Adk h1)];by_cases e:y=j
  ·subst e; rw[EU (.inl rfl) (by decide) (by omega)]
  ·rw[Cf (.inl rfl) (by decide) (Adk e)];exact C y d fun E=>w ((f y).2 (.inr ⟨e,E⟩))
theorem qI {m':HM} {x j:Nat} {o:RO} (h:(FA m)[x]?=some j) (d:∀ y,Start m' y↔Start m y) (p:∀ y,Start m y->y≠j->AR m' y=AR m y) (l:AR m' j=o):Gr m'=(Gr m).set x o:=by
 obtain ⟨g,f⟩:=Ab6.1 h;have c:(FA m).Nodup:=XD _ _;rw[ja (K1 m) (fun y=>by rw[DS,d])];apply Ad8;intro i;unfold Gr;rw[Aeg,Aed,Aeo,Aeg];by_cases e:x=i
 ·subst e;rw[Aay rfl,Aay g,h,<- l]; rfl
 ·rw[Aaz e];cases n:(FA m)[i]? with
  | none=>rfl
  | some y=>
    obtain ⟨b,a⟩:=Ab6.1 n;have q:Start m y:=DS.1 (a ▸ Adb b);show some _=some _;rw[p y q (fun k=>e ((List.getElem_inj c).1 (f.trans (k.symm.trans a.symm))))]
theorem mg {m':HM} {a i n:Nat} {v:Int} (hi:i<n) (b:a+i<m.wds.length) (hw:m'.wds=m.wds.set (a+i) v):KM m' a n=(KM m a n).set i v:=by
 apply Ad8;intro q;rw[Aed,DH];by_cases c:q<n
 ·rw[U4 m' n a q c,hw,Cp];by_cases e:i=q
  ·subst e; rw[Aay ⟨rfl,b⟩,Aay rfl,Aay hi]
  ·rw[Aaz (fun h=>e (by omega)),Aaz e,U4 m n a q c]
 ·rw[Adr (by rw[DH]; omega),Aaz (by omega),Adr (by rw[DH]; omega)]
theorem mf {m':HM} {a n p:Nat} {v:Int} (h:p<a\/a+n<=p) (hw:m'.wds=m.wds.set p v):KM m' a n=KM m a n:=
 UP n a a fun q b=>by rw[hw,Cp,Aaz (by omega)]
theorem Rv.word (h:Rv m t) (b:Inv m) (z:LN m) {x j q:Nat} (hs:Start m j) (A:(FA m)[x]?=some j) (B:2+q<use m j) (v:Int):
  Rv (Hb m (2*j+2+q) v) { t with ob:=t.ob.set x (if (q:Int)<Av m j then { AR m j with refs:=(AR m j).refs.set q v } else { AR m j with data:=(AR m j).data.set (q-(Av m j).toNat) v }) }/\LN (Hb m (2*j+2+q) v):=by
 have hu:=b.use hs;have l:=b.fit j hs;have k:∀ y,Start (Hb m (2*j+2+q) v) y↔Start m y:=fun y=>Iff.rfl;obtain ⟨_,C,D,E,F,_⟩:=Nc b hs;have key:=XK b hs (t:=q) (by omega) v;have e:Gr (Hb m (2*j+2+q) v)=(Gr m).set x (if (q:Int)<Av m j then { AR m j with refs:=(AR m j).refs.set q v } else { AR m j with data:=(AR m j).data.set (q-(Av m j).toNat) v }):=by
  refine qI A k (fun y n i=>?_) ?_
  ·refine OD b n (fun c g=>?_) rfl;show (m.wds.set _ _).getD _ 0=_;rw[Cp,Aaz];rintro ⟨e,_⟩;exact i (WU b n hs (a:=2*j+2+q) (by omega) (by omega) (by omega) (by omega))
  ·have o:=key j hs 0 (by decide);have r:=key j hs 1 (by decide);obtain ⟨_,_,w,s⟩:=VO (m:=m) (m':=Hb m (2*j+2+q) v) (j:=j) (j':=j) r;have u:CC (Hb m (2*j+2+q) v) j=CC m j:=by unfold CC; rw[r]
   simp only[Aa0] at o;unfold AR;rw[o,w,s,u];by_cases g:(q:Int)<Av m j
   ·have d:KM (Hb m (2*j+2+q) v) (2*j+2) (Av m j).toNat=(KM m (2*j+2) (Av m j).toNat).set q v:=mg (by omega) (by omega) rfl;have f:KM (Hb m (2*j+2+q) v) (2*j+2+(Av m j).toNat) (Bp m j).toNat=KM m (2*j+2+(Av m j).toNat) (Bp m j).toNat:=mf (p:=2*j+2+q) (v:=v) (by omega) rfl;rw[Aay g,d,f];rfl
   ·have d:KM (Hb m (2*j+2+q) v) (2*j+2) (Av m j).toNat=KM m (2*j+2) (Av m j).toNat:=mf (p:=2*j+2+q) (v:=v) (by omega) rfl;have f:KM (Hb m (2*j+2+q) v) (2*j+2+(Av m j).toNat) (Bp m j).toNat=(KM m (2*j+2+(Av m j).toNat) (Bp m j).toNat).set (q-(Av m j).toNat) v:=mg (by omega) (by omega) (by
     show m.wds.set _ _=_;rw[show 2*j+2+q=2*j+2+(Av m j).toNat+(q-(Av m j).toNat) from by omega]);rw[Aaz g,d,f];rfl
 exact ⟨h.Ax h.bl (by show t.ob.set x _=_; rw[e,h.ob]) h.born rfl rfl,z⟩
theorem Rv.pins (h:Rv m t) (g:Inv m) (k:Sh m) (i:LN m) {x j:Nat} (hs:Start m j) (n:(FA m)[x]?=some j) (b:Bool):
  Rv { m with pnw:=FB 1 m.pnw j (if b then 1 else 0) } { t with ob:=t.ob.set x { AR m j with W2:=b } }/\LN { m with pnw:=FB 1 m.pnw j (if b then 1 else 0) }:=by
 have l:=k.pl;have p:=hs.1;have hb:(if b then 1 else 0)<2 ^ 1:=by cases b <;> decide
 have e:Gr { m with pnw:=FB 1 m.pnw j (if b then 1 else 0) }=(Gr m).set x { AR m j with W2:=b }:=by
  refine qI n (fun y=>Iff.rfl) (fun y d a=>OD g d (fun c o=>rfl) ?_) ?_
  ·show CJ 1 (FB 1 m.pnw j _) y=_;rw[Cf (.inl rfl) hb (Adk a)]
  ·show (⟨_,_,_,_,_,_,_,decide (CJ 1 (FB 1 m.pnw j (if b then 1 else 0)) j=1)⟩:RO)=_;rw[EU (.inl rfl) hb (by omega)];cases b <;> rfl
 refine ⟨h.Ax h.bl (by show t.ob.set x _=_; rw[e,h.ob]) h.born rfl rfl,fun y d f=>?_⟩;show CJ 1 (FB 1 m.pnw j _) y=0;have a:y≠j:=fun e=>f (e ▸ hs);rw[Cf (.inl rfl) hb (Adk a)];exact i y d f
theorem Rv.forget (h:Rv m t):Rv { m with fw:=[] } { t with fw:=[] }:=⟨h.bl,h.ob,h.born,fun _=>rfl,rfl,trivial,trivial⟩
theorem Rv.blocks (h:Rv m t) (l:List (Int × Int)) (a:l.length=m.bls.length):Rv { m with bls:=l } { t with bl:=l }:=by
 refine h.Ax rfl ?_ h.born rfl rfl;show t.ob=_;rw[h.ob];unfold Gr FA;show _=(D8 { m with bls:=l } 0 (32*l.length)).map _;rw[a]; rfl
theorem LN.blocks (b:LN m) (l:List (Int × Int)) (d:l.length=m.bls.length):LN { m with bls:=l }:=by
 intro y a c;have a:y<32*l.length:=a;refine b y (by omega) fun hs=>c ⟨?_,hs.2⟩;show y<32*l.length;exact a
end
section
local instance qRR:AJ:=Ao
variable {J:Aa} {m:HM} {t:RM}
def D2 (J:Aa) (s:Bx) (l:List Int):Prop:=s.2.1=l.length/\(l≠[] -> ∃ b c,s=(some ⟨b,0,none⟩,l.length,c)/\J[b]?=some (.cells (Bl l) Ak true)) /\ ∀ a,s.1=some a -> ∃ cs T w,J[a.block]?=some (.cells cs T w)/\a.off<=cs.length
def hs (s:Bx):List Nat:=match s.1 with
 | some a=>[a.block]
 | none=>[]
theorem BV {s:Bx} {b:Nat}:b ∈ hs s ↔ ∃ a,s.1=some a/\a.block=b:=by
 unfold hs;cases s.1 with
 | none=>simp
 | some a=>simp[eq_comm]
def Bw (o:RO) (p:Bx × Bx):List Value:=[qIi o.addr,qIi o.id,qIi o.r,qIi o.d,qIi o.k,.slice p.1.1 p.1.2.1 p.1.2.2,.slice p.2.1 p.2.2.1 p.2.2.2,.bool o.W2]
def DT:List RO->List (Bx × Bx)->List Value
 | o::l,p::om=>Bw o p++DT l om
 | _,_=>[]
theorem O8:∀ (l:List RO) (om:List (Bx × Bx)),om.length=l.length->(DT l om).length=l.length*8
 | [],[],_=>rfl
 | [],p::om,h=>by simp at h
 | o::l,[],h=>by simp at h
 | o::l,p::om,h=>by
   have:=O8 l om (by simpa using h);simp[DT,Bw,this]; omega
theorem gz:∀ (l:List RO) (om:List (Bx × Bx)) (x:Nat) (h:x<l.length) (a:x<om.length) (q:Nat),q<8->(DT l om)[x*8+q]?=(Bw l[x] om[x])[q]?
 | [],om,x,h,_,_,_=>by simp at h
 | o::l,[],x,_,a,_,_=>by simp at a
 | o::l,p::om,0,h,a,q,b=>by
   simp only[DT,Ad6,IN,Af5];rw[AT (by simp[Bw]; omega)]
 | o::l,p::om,x+1,h,a,q,b=>by
   have c:=gz l om x (by simpa using h) (by simpa using a) q b;simp only[DT,Agk];rw[Acf (by simp[Bw]; omega),show (x+1)*8+q-(Bw o p).length=x*8+q from by simp[Bw]; omega,c]
def aF (J:Aa) (s:Bx) (l:List (Int × Int)):Prop:=Ct ZB 2 J s l.length (CU l)\/(l=[] /\ ∃ b cs T w,s=(some ⟨b,0,some 0⟩,0,0)/\J[b]?=some (.cells cs T w))
theorem aF.Ax {J':Aa} {s:Bx} {l:List (Int × Int)} (h:aF J s l) (hs:∀ a,s.1=some a->J'[a.block]?=J[a.block]?):aF J' s l:=by
 rcases h with h | ⟨h0,b,cs,T,w,rfl,c⟩
 ·exact .inl (h.Ax hs)
 ·exact .inr ⟨h0,b,cs,T,w,rfl,(hs _ rfl).trans c⟩
theorem aF.form {s:Bx} {l:List (Int × Int)} (h:aF J s l):s=(s.1,l.length,l.length):=by
 rcases h with h | ⟨rfl,b,cs,T,w,rfl,a⟩
 ·exact h.form
 ·rfl
theorem aF.sl {s:Bx} {l:List (Int × Int)} (h:aF J s l) {x:Nat} (a:x<l.length):Ct ZB 2 J s l.length (CU l):=by
 rcases h with h | ⟨rfl,_⟩
 ·exact h
 ·simp at a
structure RI where
 hb:Nat
 bs:Bx
 os:Bx
 fs:Bx
 om:List (Bx × Bx)
def RI.l (i:RI):List Nat:=i.hb::(hs i.bs++(hs i.os++(hs i.fs++i.om.flatMap fun p=>hs p.1++hs p.2)))
structure JM (J:Aa) (i:RI) (t:RM):Prop where
 hp:J[i.hb]?=some (.cells [.slice i.bs.1 i.bs.2.1 i.bs.2.2,.slice i.os.1 i.os.2.1 i.os.2.2,.slice i.fs.1 i.fs.2.1 i.fs.2.2,qIi t.born] Dc true)
 bl:Ct As 2 J i.bs t.bl.length (CU t.bl)
 ob:Ct Ab 8 J i.os t.ob.length (DT t.ob i.om)
 fw:aF J i.fs t.fw
 ol:i.om.length=t.ob.length
 inn:∀ (x:Nat) (h:x<t.ob.length) (h':x<i.om.length),D2 J i.om[x].1 t.ob[x].refs/\D2 J i.om[x].2 t.ob[x].data
 nd:i.l.Nodup
 lt:∀ j ∈ i.l,j<J.length
theorem D2.Ax {J':Aa} {s:Bx} {l:List Int} (h:D2 J s l) (hs:∀ b ∈ hs s,J'[b]?=J[b]?):D2 J' s l:=by
 refine ⟨h.1,fun g=>?_,fun a d=>?_⟩
 ·obtain ⟨b,c,rfl,f⟩:=h.2.1 g;exact ⟨b,c,rfl,(hs b (BV.2 ⟨_,rfl,rfl⟩)).trans f⟩
 ·obtain ⟨cs,T,w,h1,e⟩:=h.2.2 a d;exact ⟨cs,T,w,(hs _ (BV.2 ⟨a,d,rfl⟩)).trans h1,e⟩
theorem RI.LQ (i:RI):i.hb ∈ i.l:=Acj
theorem RI.zI (i:RI) {b:Nat} (h:b ∈ hs i.bs):b ∈ i.l:=Ab7 _ (Aas.2 (.inl h))
theorem RI.zU (i:RI) {b:Nat} (h:b ∈ hs i.os):b ∈ i.l:=Ab7 _ (Aas.2 (.inr (Aas.2 (.inl h))))
theorem RI.zN (i:RI) {b:Nat} (h:b ∈ hs i.fs):b ∈ i.l:=Ab7 _ (Aas.2 (.inr (Aas.2 (.inr (Aas.2 (.inl h))))))
theorem RI.Ju (i:RI) {b x:Nat} (a:x<i.om.length) (h:b ∈ hs i.om[x].1\/b ∈ hs i.om[x].2):b ∈ i.l:=
 Ab7 _ (Aas.2 (.inr (Aas.2 (.inr (Aas.2 (.inr (Afu.2 ⟨_,Adb a,Aas.2 h⟩)))))))
theorem JM.Ax {J':Aa} {i:RI} (h:JM J i t) (hs:∀ j ∈ i.l,J'[j]?=J[j]?) (e:J.length<=J'.length):JM J' i t where
 hp:=(hs _ i.LQ).trans h.hp
 bl:=h.bl.Ax fun a c=>hs _ (i.zI (BV.2 ⟨a,c,rfl⟩))
 ob:=h.ob.Ax fun a c=>hs _ (i.zU (BV.2 ⟨a,c,rfl⟩))
 fw:=h.fw.Ax fun a c=>hs _ (i.zN (BV.2 ⟨a,c,rfl⟩))
 ol:=h.ol
 inn:=fun x p q=>⟨(h.inn x p q).1.Ax fun b hb=>hs _ (i.Ju q (.inl hb)),(h.inn x p q).2.Ax fun b hb=>hs _ (i.Ju q (.inr hb))⟩
 nd:=h.nd
 lt:=fun j d=>Acp (h.lt j d) e
theorem JM.app {i:RI} (h:JM J i t) (τ:Aa):JM (J++τ) i t:=h.Ax (fun j a=>AT (h.lt j a)) (by simp)
abbrev Bj (i:RI):qOi:=some ⟨i.hb,0,none⟩
variable {i:RI}
theorem JM.H7 (h:JM J i t):Be J i.hb 0=some (i.bs.1,t.bl.length,t.bl.length):=by
 have:=h.bl.form;simp only[Be,CW,h.hp];rw[this]; simp[Eo]
theorem JM.Fa (h:JM J i t):Be J i.hb 1=some (i.os.1,t.ob.length,t.ob.length):=by
 have:=h.ob.form;simp only[Be,CW,h.hp];rw[this]; simp[Eo]
theorem JM.UL (h:JM J i t):Be J i.hb 2=some (i.fs.1,t.fw.length,t.fw.length):=by
 have:=h.fw.form;simp only[Be,CW,h.hp];rw[this]; simp[Eo]
theorem JM.cH (h:JM J i t):Aj .i64 J i.hb 3=some t.born:=by simp[Aj,CW,h.hp,Bk]
theorem Xv {E:TypeId} {sl:Bx} {l:List (Int × Int)} (h:Ct E 2 J sl l.length (CU l)) {x:Nat} (e:x<l.length):∃ b,sl.1=some ⟨b,0,none⟩/\Aj .i64 J b (x*2)=some (l.getD x (0,0)).1/\Aj .i64 J b (x*2+1)=some (l.getD x (0,0)).2/\J[b]?=some (.cells (CU l) E true):=by
 rcases h with ⟨h0,_⟩ | ⟨b,rfl,_,_,a⟩
 ·omega
 ·obtain ⟨c,d⟩:=UC l x e;rw[Agj] at c d;refine ⟨b,rfl, ?_, ?_,a⟩
  ·simp only[Aj,CW,a,c,AI,Ah]
  ·simp only[Aj,CW,a,d,AI,Ah]
structure tS (J:Aa) (b x:Nat) (o:RO) (p:Bx × Bx):Prop where
 l0:Aj .i64 J b (x*8)=some o.addr
 l1:Aj .i64 J b (x*8+1)=some o.id
 l2:Aj .i64 J b (x*8+2)=some o.r
 l3:Aj .i64 J b (x*8+3)=some o.d
 l4:Aj .i64 J b (x*8+4)=some o.k
 l5:Be J b (x*8+5)=some (p.1.1,p.1.2.1,p.1.2.2)
 l6:Be J b (x*8+6)=some (p.2.1,p.2.2.1,p.2.2.2)
 l7:Vy J b (x*8+7)=some o.W2
theorem JM.obj (h:JM J i t) {x:Nat} (j:x<t.ob.length):∃ b,i.os.1=some ⟨b,0,none⟩/\J[b]?=some (.cells (DT t.ob i.om) Ab true) /\ ∀ (d:x<i.om.length),tS J b x t.ob[x] i.om[x]:=by
 rcases h.ob with ⟨h0,_⟩ | ⟨b,e,_,_,a⟩
 ·omega
 ·refine ⟨b,by rw[e],a,fun d=>?_⟩;have g:=fun q f=>gz t.ob i.om x j d q f;have c:=g 0 (by decide);rw[Aa0] at c;constructor
  ·simp only[Aj,CW,a,c]; rfl
  ·simp only[Aj,CW,a,g 1 (by decide)]; rfl
  ·simp only[Aj,CW,a,g 2 (by decide)]; rfl
  ·simp only[Aj,CW,a,g 3 (by decide)]; rfl
  ·simp only[Aj,CW,a,g 4 (by decide)]; rfl
  ·simp only[Be,CW,a,g 5 (by decide)]; rfl
  ·simp only[Be,CW,a,g 6 (by decide)]; rfl
  ·simp only[Vy,CW,a,g 7 (by decide)]; rfl
theorem dp (k:Nat) (h:JM J i t) (hb:t.bl≠[]):Az (k+1) (Bj i) J=some (.bool true,J):=by
 have:0<t.bl.length:=Ae1.2 hb;rw[TM];simp only[bT,AI,Adi,IS,IN,Aa0,h.H7];rw[Aak (by omega)]
theorem X1 (k:Nat) (h:JM J i t) (l:t.ob.length<=5000) (a:Int):∀ (n x f:Nat),x+n=t.ob.length->n<f->EP k f (Bj i) a (x:Int) J=some (match Ow (t.ob.drop x) a with | some y=>(.ret,[qIi ((x+y:Nat):Int)],J) | none=>(.exit 0,[],J))
 | 0,x,0,g,d=>by omega
 | 0,x,f+1,g,d=>by
   rw[L6,Ade (by omega)];have q:decide ((x:Int)<((t.ob.length:Nat):Int))=false:=Aaj (by omega);simp only[AI,IN,Aa0,h.Fa,q,By,Ow]
 | n+1,x,0,g,d=>by omega
 | n+1,x,f+1,g,d=>by
   have c:x<t.ob.length:=by omega
   have m:=X1 k h l a n (x+1) f (by omega) (by omega);obtain ⟨b,j,_,L⟩:=h.obj c;have L:=L (by rw[h.ol]; exact c);rw[Ac2 c,L6,Ow];have q:decide ((x:Int)<((t.ob.length:Nat):Int))=true:=Aak (by omega);have o:=qSu x t.ob.length (by omega);have p:=wSu x (by omega);simp only[AI,IN,Aa0,h.Fa,q,IS,o,Aat,j,IT,L.l0,p];by_cases e:t.ob[x].addr=a
   ·rw[Aay e,Aei.2 e]; simp only[IS,Aa0]
   ·rw[Aaz e,Ach.2 e];simp only[By,m];cases Ow (t.ob.drop (x+1)) a with
    | none=>rfl
    | some y=>simp only[Af3,show x+(y+1)=x+1+y from by omega]
def iI (l:List RO) (a:Int):Int:=match Ow l a with
 | some x=>(x:Int)
 | none=>-1
theorem gL (k:Nat) (c:5000<=k) (h:JM J i t) (hb:t.bl≠[]) (b:t.ob.length<=5000) (a:Int):Ay (k+2) (Bj i) a J=some (qIi (iI t.ob a),J):=by
 have e:=X1 (k+1) h b a t.ob.length 0 (k+1) (by omega) (by omega);rw[Adf,show ((0:Nat):Int)=0 from rfl] at e;rw[SQ];simp only[dp k h hb,AI,An,Aa4,By,e,iI];cases Ow t.ob a with
 | none=>simp only[Aat]
 | some y=>simp only[reduceCtorEq,Aa5,Aat,Em,IN]
theorem uL {l:List RO} {a:Int}:decide (iI l a<0)=(Ow l a).isNone:=by
 unfold iI;cases Ow l a with
 | none=>rfl
 | some y=>exact Aaj (show ¬ (y:Int)<0 by omega)
theorem tc (k:Nat) (b:5000<=k) (h:JM J i t) (hb:t.bl≠[]) (c:t.ob.length<=5000) (a:Int):BA (k+3) (Bj i) a J=some (qIi (if (Ow t.ob a).isSome then 0 else 4),J):=by
 rw[SY];simp only[dp (k+1) h hb,AI,An,Aa4,By,gL k b h hb c a,Ah,uL];cases Ow t.ob a <;> rfl
end
section
local instance qRS:AJ:=Ao
variable {J:Aa} {m:HM} {t:RM} {i:RI}
structure RG (J:Aa) (i:RI) (m:HM) (t:RM):Prop where
 at_:JM J i t
 sim:Rv m t
 inv:Inv m
 inv2:Inv2 m
 wl:m.wds.length=64*m.bls.length
 nb:2<=m.bls.length
 nt:m.bls.length<=64
theorem RG.app (h:RG J i m t) (τ:Aa):RG (J++τ) i m t:=⟨h.at_.app τ,h.sim,h.inv,h.inv2,h.wl,h.nb,h.nt⟩
theorem RG.Ax {J':Aa} (h:RG J i m t) (hs:∀ j ∈ i.l,J'[j]?=J[j]?) (a:J.length<=J'.length):RG J' i m t:=⟨h.at_.Ax hs a,h.sim,h.inv,h.inv2,h.wl,h.nb,h.nt⟩
theorem RG.bn (h:RG J i m t):t.bl.length=m.bls.length:=by rw[h.sim.bl]
theorem RG.ne (h:RG J i m t):t.bl≠[]:=by
 intro e;have:=h.bn;have:=h.nb;rw[e] at *;simp at *;omega
theorem RG.ol (h:RG J i m t):t.ob.length<=2048:=by
 rw[h.sim.ob];have:=Ns m 0 (32*m.bls.length);have:=h.nt;unfold Gr FA;rw[Aeo];omega
theorem LJ (k:Nat) (h:RG J i m t):Az (k+1) (Bj i) J=some (.bool true,J):=dp k h.at_ h.ne
theorem D2.qa {s:Bx} {l:List Int} (h:D2 J s l) {x:Nat} (a:x<l.length):∃ b,s.1=some ⟨b,0,none⟩/\Aj .i64 J b x=some (l.getD x 0)/\J[b]?=some (.cells (Bl l) Ak true):=by
 obtain ⟨b,c,rfl,d⟩:=h.2.1 (fun e=>by rw[e] at a; simp at a);exact ⟨b,rfl,nZ d a,d⟩
structure Found (J:Aa) (i:RI) (m:HM) (t:RM) (a:Int) (x j b:Nat) (p:Bx × Bx):Prop where
 idx:iI t.ob a=(x:Int)
 idx':Ow t.ob a=some x
 xl:x<t.ob.length
 st:Start m j
 e:a=((2*j:Nat):Int)
 all:(FA m)[x]?=some j
 ob:t.ob[x]?=some (AR m j)
 os:i.os.1=some ⟨b,0,none⟩
 cell:J[b]?=some (.cells (DT t.ob i.om) Ab true)
 om:i.om[x]?=some p
 ld:tS J b x (AR m j) p
 rs:D2 J p.1 (AR m j).refs
 ds:D2 J p.2 (AR m j).data
theorem RG.found (h:RG J i m t) {a:Int} (k:Aw m a=true):∃ x j b p,Found J i m t a x j b p:=by
 obtain ⟨h1,r⟩:=h.sim.idx a;cases e:Ow t.ob a with
 | none=>rw[r e] at k; cases k
 | some x=>
   obtain ⟨d,j,s,u,_,v,f⟩:=h1 x e;obtain ⟨b,o,q,L⟩:=h.at_.obj d;have c:x<i.om.length:=by rw[h.at_.ol]; exact d
   have g:t.ob[x]=AR m j:=by rw[Aau d] at f; exact Aej f
   have L:=L c;rw[g] at L;obtain ⟨l,n⟩:=h.at_.inn x d c;rw[g] at l n;exact ⟨x,j,b,i.om[x],by unfold iI; rw[e],e,d,s,u,v,f,o,q,Aau c,L,l,n⟩
theorem RG.lost (h:RG J i m t) {a:Int} (b:Aw m a=false):iI t.ob a = -1/\Ow t.ob a=none:=by
 have:=h.sim.has a;rw[b] at this;unfold iI;cases c:Ow t.ob a with
 | none=>exact ⟨rfl,rfl⟩
 | some x=>rw[c] at this; cases this
theorem LF (k:Nat) (b:5000<=k) (h:RG J i m t) (a:Int):Ay (k+2) (Bj i) a J=some (qIi (iI t.ob a),J):=gL k b h.at_ h.ne (by have:=h.ol; omega) a
theorem Uy (k:Nat) (b:5000<=k) (h:RG J i m t) (a:Int):BA (k+3) (Bj i) a J=some (qIi (if Aw m a then 0 else 4),J):=by
 rw[tc k b h.at_ h.ne (by have:=h.ol; omega) a,h.sim.has]
theorem aw (k:Nat) (d:5000<=k) (h:RG J i m t) (a:Int):CN (k+3) (Bj i) a J=some (.bool (Aw m a),J):=by
 rw[Vg];simp only[LF k d h a,AI,Ah];cases c:Aw m a with
 | true=>
   obtain ⟨x,j,b,p,F⟩:=h.found c;rw[F.idx,Aak (by omega)]
 | false=>rw[(h.lost c).1]; rfl
theorem ne4:((4:Int) != 0)=true:=rfl
theorem sU (k:Nat) (e:5000<=k) (h:RG J i m t) (a:Int):HE (k+4) (Bj i) a J=some (if Aw m a then .tuple #[qIi (m.wds.getD a.toNat 0),qIi 0] else .tuple #[qIi 0,qIi 4],J):=by
 rw[SP];have c:=LF (k+1) (by omega) h a;simp only[Uy k e h a,AI,Ah];cases d:Aw m a with
 | true=>
   obtain ⟨x,j,b,p,F⟩:=h.found d;have f:=F.xl;simp only[Aat,Abx,By,AI,IN,h.at_.Fa,c,Ah,F.idx];rw[Aay (by omega)];simp only[F.os,AI,IT,IN,F.ld.l1];rw[F.e,IT]; rfl
 | false=>simp only[Ab8,Aa5,ne4,IS]
theorem jm {J:Aa} {cs vs:List Value} {T:TypeId} (h:vs.length=cs.length):H5 (J++[.cells cs T true]) J.length 0 vs=some (J++[.cells vs T true]):=by
 simp only[H5,Ab5];rw[Aay (by omega)];simp[Bb,h]
theorem EA (J:Aa) (T:TypeId) (a b c x y z:Value):H5 (J++[.cells [a,b,c] T true]) J.length 0 [x,y,z]=some (J++[.cells [x,y,z] T true]):=jm rfl
theorem XC (J:Aa) (T:TypeId) (a b c d e f g h x y z u v w p q:Value):H5 (J++[.cells [a,b,c,d,e,f,g,h] T true]) J.length 0 [x,y,z,u,v,w,p,q]=some (J++[.cells [x,y,z,u,v,w,p,q] T true]):=jm rfl
def oK (m:HM) (j:Nat):Value:=.agg #[qIi (Av m j),qIi (Bp m j),qIi (CC m j)]
def oJ:Value:=.agg #[qIi 0,qIi 0,qIi 0]
theorem sV (k:Nat) (f:5000<=k) (h:RG J i m t) (a:Int):∃ τ,Gy (k+4) (Bj i) a J=some (.tuple #[if Aw m a then oK m (a.toNat/2) else oJ,qIi (if Aw m a then 0 else 4)],J++τ):=by
 rw[SS];simp only[Ae];have h1:=h.app [Au.cells [qIi (0:Int),qIi (0:Int),qIi (0:Int)] Ad true];have c:=LF (k+1) (by omega) h1 a;simp only[Uy k f h1 a,AI,Ah];have d:∀ x y z:Value,Nm (J++[Au.cells [x,y,z] Ad true]) J.length 0 3=some [x,y,z]:=fun x y z=>by simp[Nm]
 cases e:Aw m a with
 | true=>
   obtain ⟨x,j,b,p,F⟩:=h1.found e;have g:=F.xl;refine ⟨[Au.cells [qIi (Av m j),qIi (Bp m j),qIi (CC m j)] Ad true], ?_⟩;simp only[Aat,Abx,By,AI,IN,h1.at_.Fa,c,Ah,F.idx];rw[Aay (by omega)];simp only[F.os,AI,IT,IN,Ad3,Nat.reduceAdd,F.ld.l2,F.ld.l3,F.ld.l4,EA,d,Lh];rw[F.e,IT,show 2*j/2=j from by omega]; rfl
 | false=>
   refine ⟨[Au.cells [qIi 0,qIi 0,qIi 0] Ad true], ?_⟩;simp only[Ab8,Aa5,ne4,IS,EA,AI,d,Lh];rfl
def KD (m:HM) (a x:Int) (data:Bool):Int × Int:=if (BG m a x data).2=0 then (m.wds.getD (BG m a x data).1.toNat 0,0) else (0,(BG m a x data).2)
theorem W7 (k:Nat) (h:RG J i m t):CF (k+2) (Bj i) J=some (qIi ((m.bls.length:Nat):Int),J):=by
 rw[RC];simp only[LJ k h,AI,An,Aa4,By,IN,Aa0,h.at_.H7,h.bn]
def Ce (m:HM) (b:Int):Int:=if 0<=b/\b<(m.bls.length:Int) then (m.bls.getD b.toNat (0,0)).1 else -1
def MO (m:HM) (b:Int):Int:=if 0<=b/\b<(m.bls.length:Int) then (m.bls.getD b.toNat (0,0)).2 else -1
theorem YD (k:Nat) (h:RG J i m t) (b:Int):Cw (k+2) (Bj i) b J=some (qIi (Ce m b),J):=by
 rw[SV];simp only[LJ k h,AI,An,Aa4,By];unfold Ce;by_cases h0:b<0
 ·rw[Aak h0,Aaz (by omega)];simp only[IS,AI]
 rw[Aaj h0];simp only[By,AI,IN,Aa0,h.at_.H7,h.bn];by_cases h1:b>=(m.bls.length:Int)
 ·have q:(0<=b/\b<(m.bls.length:Int))=False:=Air (by omega);simp only[Aak h1,q,Aa5,IS]
 rw[Aaj h1,Aay (by omega),Aay (by omega)];obtain ⟨n,rfl⟩:∃ n:Nat,b=(n:Int):=⟨b.toNat,by omega⟩;obtain ⟨q,e,a,c,_⟩:=Xv h.at_.bl (x:=n) (by rw[h.bn]; omega);rw[h.sim.bl] at a;simp only[By,e,AI,IT,IN,a]
theorem sW (k:Nat) (h:RG J i m t) (b:Int):Fg (k+2) (Bj i) b J=some (qIi (MO m b),J):=by
 rw[SU];simp only[LJ k h,AI,An,Aa4,By];unfold MO;by_cases h0:b<0
 ·rw[Aak h0,Aaz (by omega)];simp only[IS,AI]
 rw[Aaj h0];simp only[By,AI,IN,Aa0,h.at_.H7,h.bn];by_cases h1:b>=(m.bls.length:Int)
 ·have q:(0<=b/\b<(m.bls.length:Int))=False:=Air (by omega);simp only[Aak h1,q,Aa5,IS]
 rw[Aaj h1,Aay (by omega),Aay (by omega)];obtain ⟨n,rfl⟩:∃ n:Nat,b=(n:Int):=⟨b.toNat,by omega⟩;obtain ⟨q,e,c,a,_⟩:=Xv h.at_.bl (x:=n) (by rw[h.bn]; omega);rw[h.sim.bl] at a;simp only[By,e,AI,IT,IN,a]
end
section
local instance qRT:AJ:=Ao
variable {J:Aa} {m:HM} {t:RM} {i:RI}
theorem X5 (k:Nat) (a b c:Int) (J:Aa):ZE (IK (k+1) a b c J) J (.bool (valid a b c)):=by
 simp only[ZE,Ye,Ae,Bv,IN,Aca,Ace,AI,Ah,lz];by_cases l:a<0\/a>15\/b<0\/b>200
 ·have h1:(bif bif bif decide (a<0) then true else decide (a>15) then true else decide (b<0) then true else decide (b>200))=true:=by
   simp[Ah7]; omega
  have d:valid a b c=false:=by simp[valid]; omega
  rw[h1,d];exact ⟨_,rfl⟩
 ·have h1:(bif bif bif decide (a<0) then true else decide (a>15) then true else decide (b<0) then true else decide (b>200))=false:=by
   simp[Ah7]; omega
  rw[h1];simp only[By];by_cases h0:c=0
  ·subst h0;have d:valid a b 0=true:=by simp[valid]; omega
   rw[d];exact ⟨_,rfl⟩
  have h:(c == 0)=false:=by simpa using h0
  by_cases f:c=3
  ·subst f;have d:valid a b 3=true:=by simp[valid]; omega
   rw[d];exact ⟨_,rfl⟩
  have i:(c == 3)=false:=by simpa using f
  simp only[h,i,By,AI,Aat,oT];by_cases g:c=1
  ·subst g;have d:valid a b 1=decide (a>=1):=by rw[valid,Ahb]; simp; omega
   rw[d];simp only[Ah9,IS,Bv,Aca,AI,Ah];exact ⟨_,rfl⟩
  have e:(c == 1)=false:=by simpa using g
  by_cases h5:c=2
  ·subst h5;have d:valid a b 2=decide (a>=2):=by rw[valid,Ahb]; simp; omega
   rw[d];simp only[e,By,Ah9,IS,Bv,Aca,AI,Ah];exact ⟨_,rfl⟩
  have j:(c == 2)=false:=by simpa using h5
  have d:valid a b c=false:=by simp[valid]; omega
  simp only[e,j,By,d];exact ⟨_,rfl⟩
theorem JH (k:Nat) (a b c:Int) (J:Aa):ZE (Cn (k+2) a b c J) J (qIi (words a b c)):=by
 unfold ZE;rw[Yf];simp only[Ae,Bv,IN,Aca,Ace,AI,Ah];rw[(X5 _ _ _ _ _).eq];simp only[AI,An,GB,Aca,Ace,Ah];unfold words;rcases Bool.eq_false_or_eq_true (valid a b c) with d | d
 rotate_left
 ·simp only[d,Adi,IS,By,Aaq];exact ⟨_,rfl⟩
 ·simp only[d,Aa4,IS,By,Aaq];simp[valid] at d;simp only[show ((2:Int)=0)=False from by simp,Aa5];refine ⟨_,Aec some (Aht (Aec (Value.int .i64) ?_) rfl)⟩;simp only[Ar];have e:IntKind.i64.wrap (2+a)=2+a:=by rw[Afk]; omega
  have f:IntKind.i64.wrap (2+a+b)=2+a+b:=by rw[Afk]; omega
  rw[e,f,Agt (by omega),Afk];omega
theorem Qa {E:TypeId} {s by_:Nat} {z:Value} (hs:HV P E=some s) (hb:bytesOf P E=some by_) (u:FV P E=some z) (o:Gq z=false) (p:z.cells.size=s) (l:0<s) (f:0<by_) (i:by_<=1000)
  (J τ:Aa) (sl:Bx) (n:Nat) (row:List Value) (n' c:Nat) (b:List Value) (T:TypeId) (r:n+n'<=1000000) (k:0<n') (t:b.length=n'*s) (m:Ct E s (J++τ) sl n row) (j:∀ a,sl.1=some a->J.length<=a.block):
  ∃ s' d,AH P E sl (some ⟨(J++τ).length,0,none⟩,n',c) (J++τ++[.cells b T true])=some (s',J++d)/\Ct E s (J++d) s' (n+n') (row++b)/\(∀ a,s'.1=some a->J.length<=a.block):=by
 obtain ⟨s',J',e,g,h⟩:=NM hs hb u o p l f i (J++τ) sl n row n' c b T r k t m;obtain ⟨⟨d,rfl⟩,q⟩:=g.behind j;exact ⟨s',d,e,h,q⟩
theorem Ct.ints {lo:Nat} {s:Bx} {l:List Int} (h:Ct Ak 1 J s l.length (Bl l)) (f:∀ a,s.1=some a->lo<=a.block) (c:l=[]->s=(none,0,0)):CB lo J s l:=by
 by_cases e:l=[]
 ·exact .inl ⟨e,c e⟩
 ·rcases h with ⟨h1,_,_⟩ | ⟨b,rfl,_,_,d⟩
  ·exact absurd (Aeh.1 h1) e
  ·exact .inr ⟨b,f _ rfl,rfl,e,d⟩
theorem cy (J τ:Aa) (s:Bx) (l:List Int) (x:Int) (f:l.length<=900000) (hs:CB J.length (J++τ) s l):
  ∃ s' b,AH P Ak s (some ⟨(J++τ).length,0,none⟩,1,1) (J++τ++[.cells [qIi x] Ak true])=some (s',J++b)/\CB J.length (J++b) s' (l++[x]):=by
 obtain ⟨s',b,e,h1,c⟩:=Qa wg uC tB rfl rfl (by decide) (by decide) (by decide) J τ s l.length (Bl l) 1 1 [qIi x] Ak (by omega) (by decide) rfl hs.sl (fun a d=>(hs.ge a d).1);refine ⟨s',b,e,Ct.ints ?_ c (fun e=>by simp at e)⟩;rw[KS,Aaw];exact h1
theorem RG.drop (h:RG J i m t) {x:Nat} (c:x<t.ob.length):∃ j,(FA m)[x]?=some j/\x<(FA m).length/\Start m j/\t.ob[x]?=some (AR m j):=by
 have b:t.ob.length=(FA m).length:=by rw[h.sim.ob]; simp[Gr]
 have a:x<(FA m).length:=by omega
 refine ⟨(FA m)[x],Aau a,a,DS.1 (Adb a), ?_⟩;rw[h.sim.ob];unfold Gr;rw[Aeg,Aau a]; rfl
theorem RG.Abj (h:RG J i m t):t.ob.length=(FA m).length:=by rw[h.sim.ob]; simp[Gr]
structure At (J:Aa) (i:RI) (m:HM) (t:RM) (x j b:Nat) (p:Bx × Bx):Prop where
 st:Start m j
 all:(FA m)[x]?=some j
 xl:x<(FA m).length
 os:i.os.1=some ⟨b,0,none⟩
 cell:J[b]?=some (.cells (DT t.ob i.om) Ab true)
 om:i.om[x]?=some p
 ld:tS J b x (AR m j) p
 lt:j<2048
 dr:(FA m).drop x=j::(FA m).drop (x+1)
theorem RG.ath (h:RG J i m t) {x:Nat} (c:x<t.ob.length):∃ j b p,At J i m t x j b p:=by
 obtain ⟨j,h1,d,e,f⟩:=h.drop c;obtain ⟨b,g,k,L⟩:=h.at_.obj c;have a:x<i.om.length:=by rw[h.at_.ol]; exact c
 have l:t.ob[x]=AR m j:=by rw[Aau c] at f; exact Aej f
 have L:=L a;rw[l] at L;have:=e.1;have:=h.nt;refine ⟨j,b,i.om[x],e,h1,d,g,k,Aau a,L,by omega, ?_⟩;rw[Ac2 d];rw[Aau d] at h1;rw[Aej h1]
def xE (L:List Nat) (b:Int):List Nat:=L.filter fun j=>decide (((2*j/64:Nat):Int)=b)
theorem Po (k:Nat) (h:RG J i m t) (bk:Int):∀ (n x f:Nat) (τ:Aa) (s:Bx),x+n=t.ob.length->CB J.length (J++τ) s (Cq (xE ((FA m).take x) bk))->n<f ->
  ∃ B s',DZ (k+1) f (Bj i) bk s (x:Int) (J++τ)=some (.exit 0,[.slice s'.1 s'.2.1 s'.2.2],J++B)/\CB J.length (J++B) s' (Cq (xE (FA m) bk))
 | 0,x,0,τ,s,o,hs,l=>by omega
 | 0,x,f+1,τ,s,o,hs,l=>by
   have G:=h.Abj;have a:=h.app τ;rw[HF];have q:decide ((x:Int)<((t.ob.length:Nat):Int))=false:=Aaj (by omega);rw[Ady (by omega)] at hs;exact ⟨τ,s,by simp only[LJ k a,AI,An,IS,IN,a.at_.Fa,q,By],hs⟩
 | n+1,x,0,τ,s,o,hs,l=>by omega
 | n+1,x,f+1,τ,s,o,hs,l=>by
   have E:=h.ol;have r:x<t.ob.length:=by omega
   have a:=h.app τ;obtain ⟨j,b,p,A⟩:=a.ath r;have D:=A.lt;have q:decide ((x:Int)<((t.ob.length:Nat):Int))=true:=Aak (by omega);have w:=qSu x t.ob.length (by omega);have y:=wSu x (by omega);have z:Ar ((((2*j:Nat):Int)).tdiv 64)=((2*j/64:Nat):Int):=by rw[show (((2*j:Nat):Int)).tdiv 64=((2*j/64:Nat):Int) from rfl]; exact Ai (by unfold AQ; omega)
   have v:Aj .i64 (J++τ) b (x*8)=some ((2*j:Nat):Int):=A.ld.l0;have c:xE ((FA m).take (x+1)) bk=xE ((FA m).take x) bk++(if ((2*j/64:Nat):Int)=bk then [j] else []):=by
    rw[Ago,A.all];unfold xE;rw[Afv];congr 1;show List.filter _ [j]=_;by_cases e:((2*j/64:Nat):Int)=bk
    ·rw[Aay e,Ae0,Aay (Aak e),List.filter_nil]
    ·rw[Aaz e,Ae0,Aaz (by rw[Ad4]; exact e),List.filter_nil]
   by_cases e:((2*j/64:Nat):Int)=bk
   ·obtain ⟨s1,F,C,i1⟩:=cy J τ s _ ((2*j:Nat):Int) (by
     have:=Afc (fun j=>decide (((2*j/64:Nat):Int)=bk)) ((FA m).take x);simp[Cq,xE] at this ⊢; omega) hs;have d:AH P Ak (s.1,s.2.1,s.2.2) (some ⟨(J++τ).length,0,none⟩,1,1) (J++τ++[.cells [qIi ((2*j:Nat):Int)] Ak true])=_:=C;obtain ⟨u,s2,g,i2⟩:=Po k h bk n (x+1) f F s1 (by omega) (by
     rw[c,Aay e];simpa [Cq] using i1) (by omega);refine ⟨u,s2, ?_,i2⟩;rw[HF];simp only[LJ k a,AI,An,IS,IN,Aa0,a.at_.Fa,q,w,Aat,A.os,IT,v,show ((64:Int)=0)=False from by decide,Aa5,z,Aei.2 e,Ae,d,HW,y];exact g
   ·obtain ⟨u,s2,g,i2⟩:=Po k h bk n (x+1) f τ s (by omega) (by
     rw[c,Aaz e,Ab1];exact hs) (by omega);refine ⟨u,s2, ?_,i2⟩;rw[HF];simp only[LJ k a,AI,An,IS,IN,Aa0,a.at_.Fa,q,w,Aat,A.os,IT,v,show ((64:Int)=0)=False from by decide,Aa5,z,Ach.2 e,By,HW,y];exact g
def HI (m:HM) (b:Int):List Nat:=if 0<=b/\b<(m.bls.length:Int) then D8 m (32*b.toNat) 32 else []
theorem zO (m:HM) (b:Int):xE (FA m) b=HI m b:=by
 unfold HI;split
 ·rename_i hb;refine WH ((K1 m).filter _) ((List.pairwise_lt_range' (step:=1) (by decide)).filter _) fun a=>?_;unfold xE;rw[Aea,DS,Ad4];show _↔a ∈ D8 m (32*b.toNat) 32;rw[LR];constructor
  ·rintro ⟨h1,c⟩; exact ⟨by omega,by omega,h1.2⟩
  ·rintro ⟨h1,c,d⟩; exact ⟨⟨by omega,d⟩,by omega⟩
 ·rename_i hb;unfold xE;rw[List.filter_eq_nil_iff];intro j e;have:=(DS.1 e).1;rw[Ad4];omega
theorem lH (k:Nat) (c:5000<=k) (h:RG J i m t) (b:Int):∃ τ s,GP (k+2) (Bj i) b J=some (.slice s.1 s.2.1 s.2.2,J++τ)/\CB J.length (J++τ) s (Cq (HI m b)):=by
 have a:=h.ol;obtain ⟨τ,s,e,hs⟩:=Po k h b t.ob.length 0 (k+1) [] (none,0,0) (by omega) (.inl ⟨rfl,rfl⟩) (by omega);rw[Ab1,show ((0:Nat):Int)=0 from rfl] at e;rw[zO] at hs;refine ⟨τ,s, ?_,hs⟩;rw[QH];simp only[e,AI,Aat,HW]
theorem gK (k:Nat) (h:RG J i m t) (id:Int):∀ (n x f:Nat),x+n=t.ob.length->n<f->Gv k f (Bj i) id (x:Int) J=some (match xU (t.ob.drop x) id with | some a=>(.ret,[qIi a,qIi 0],J) | none=>(.exit 0,[],J))
 | 0,x,0,g,d=>by omega
 | 0,x,f+1,g,d=>by
   rw[MU,Ade (by omega)];have q:decide ((x:Int)<((t.ob.length:Nat):Int))=false:=Aaj (by omega);simp only[AI,IN,h.at_.Fa,q,By,xU]
 | n+1,x,0,g,d=>by omega
 | n+1,x,f+1,g,d=>by
   have l:=h.ol;have c:x<t.ob.length:=by omega
   have o:=gK k h id n (x+1) f (by omega) (by omega);obtain ⟨b,j,_,L⟩:=h.at_.obj c;have L:=L (by rw[h.at_.ol]; exact c);rw[Ac2 c,MU,xU];have q:decide ((x:Int)<((t.ob.length:Nat):Int))=true:=Aak (by omega);have p:=qSu x t.ob.length (by omega);have r:=wSu x (by omega);simp only[AI,IN,Aa0,h.at_.Fa,q,IS,p,Aat,j,IT,L.l0,L.l1,r];by_cases e:t.ob[x].id=id
   ·rw[Aay e,Aei.2 e]; simp only[IS]
   ·rw[Aaz e,Ach.2 e];simp only[By,o]
theorem Aab (k:Nat) (c:5000<=k) (h:RG J i m t) (id:Int):Ig (k+2) (Bj i) id J=some (match getM m.pl id with | some a=>.tuple #[qIi a,qIi 0] | none=>.tuple #[qIi 0,qIi 4],J):=by
 have b:=h.ol;have e:=gK (k+1) h id t.ob.length 0 (k+1) (by omega) (by omega);rw[Adf,h.sim.at h.inv,show ((0:Nat):Int)=0 from rfl] at e;rw[Wh];simp only[LJ k h,AI,An,Aa4,By,e];cases getM m.pl id with
 | none=>simp only[Aat]
 | some a=>simp only[reduceCtorEq,Aa5,Aat,UQ]
end
section
local instance qRU:AJ:=Ao
variable {J:Aa} {m:HM} {t:RM} {i:RI}
theorem X3 (h:RG J i m t) {b:Nat} (hb:b<m.bls.length):∃ q,i.bs.1=some ⟨q,0,none⟩/\Aj .i64 J q (b*2)=some (m.bls.getD b (0,0)).1/\Aj .i64 J q (b*2+1)=some (m.bls.getD b (0,0)).2/\J[q]?=some (.cells (CU m.bls) As true):=by
 obtain ⟨q,e,c,d,a⟩:=Xv h.at_.bl (x:=b) (by rw[h.bn]; exact hb);rw[h.sim.bl] at c d a;exact ⟨q,e,c,d,a⟩
theorem X2 (k:Nat) (h:RG J i m t) {b:Nat} (hb:b<m.bls.length) (a:(m.bls.getD b (0,0)).1=2):∀ (f n:Nat),m.bls.length<=b+n+f->n<=m.bls.length->DI k (f+1) (Bj i) (b:Int) (n:Int) J=some (.exit 0,[qIi (Ka m b f n:Int)],J)
 | 0,n,h1,l=>by
   have g:=h.nt;rw[L7,Ka];have w:Ar ((b:Int)+(n:Int))=((b+n:Nat):Int):=by rw[Ai (by unfold AQ; omega)]; omega
   have q:decide (((b+n:Nat):Int)<((m.bls.length:Nat):Int))=false:=Aaj (by omega);simp only[AI,IN,Aa0,h.at_.H7,h.bn,w,q,By]
 | f+1,n,h1,l=>by
   have g:=h.nt;rw[L7,Ka];have w:Ar ((b:Int)+(n:Int))=((b+n:Nat):Int):=by rw[Ai (by unfold AQ; omega)]; omega
   have s:=wSu n (by omega);simp only[AI,IN,Aa0,h.at_.H7,h.bn,w,a,true_and];by_cases d:b+n<m.bls.length
   ·obtain ⟨q,e,o,_,_⟩:=X3 h d;have j:decide (((b+n:Nat):Int)<((m.bls.length:Nat):Int))=true:=Aak (by omega);have r:(0<=((b+n:Nat):Int)/\((b+n:Nat):Int)<((m.bls.length:Nat):Int))=True:=Adu (by omega);simp only[j,IS,r,Aat,e,AI,IT,IN,o];by_cases c:(m.bls.getD (b+n) (0,0)).1=3
    ·rw[Aay ⟨d,c⟩,Aei.2 c];simp only[IS,s];exact X2 k h hb a f (n+1) (by omega) (by omega)
    ·rw[Aaz (fun h=>c h.2),Ach.2 c];simp only[By]
   ·have j:decide (((b+n:Nat):Int)<((m.bls.length:Nat):Int))=false:=Aaj (by omega);have p:(b+n<m.bls.length/\(m.bls.getD (b+n) (0,0)).1=3)=False:=Air (fun h=>d h.1);simp only[j,By,AI,p,Aa5]
def jw (m:HM) (b:Nat):Nat:=if (m.bls.getD b (0,0)).1=1 then 1 else if (m.bls.getD b (0,0)).1=2 then LG m b else 0
theorem sX (k:Nat) (l:100<=k) (h:RG J i m t) {b:Nat} (hb:b<m.bls.length):Gz (k+1) (Bj i) (b:Int) J=some (qIi (jw m b:Int),J):=by
 have f:=h.nt;obtain ⟨q,e,g,_,_⟩:=X3 h hb;have j:=qSu b m.bls.length (by omega);rw[SW];simp only[AI,IN,Aa0,h.at_.H7,h.bn,j,Aat,e,IT,g];unfold jw;by_cases h1:(m.bls.getD b (0,0)).1=1
 ·rw[Aay h1,Aei.2 h1]; rfl
 rw[Aaz h1,Ach.2 h1];by_cases a:(m.bls.getD b (0,0)).1=2
 ·rw[Aay a];have d:=X2 k h hb a (k-1) 1 (by omega) (by omega);rw[show k-1+1=k from by omega] at d;have c:DI k k (Bj i) (b:Int) 1 J=_:=d;simp only[a,Abx,By,c,AI,Aat,Em];rw[WJ m b (k-1) m.bls.length 1 (by omega) (by omega)]; rfl
 ·rw[Aaz a];simp only[By,Adz.2 a,IS];rfl
theorem ZC (r d k:Int):0<=words r d k/\words r d k<=218:=Oy r d k
theorem db (k:Nat) (r d c:Int) (J:Aa):∃ τ,EX (k+3) r d c J=some (qIi ((words r d c+63).tdiv 64),J++τ):=by
 obtain ⟨τ,e⟩:=JH k r d c (J++[Au.cells [qIi r,qIi d,qIi c] Ad true]);have hw:=ZC r d c;refine ⟨[Au.cells [qIi r,qIi d,qIi c] Ad true]++τ, ?_⟩;rw[ZQ];simp only[Ae,Bv,IN,Nat.reduceAdd,Aca,Ace,AI,Ah,e,show ((64:Int)=0)=False from by decide,Aa5];have b:Ar (words r d c+64)=words r d c+64:=Ai (by unfold AQ; omega);have f:Ar (words r d c+64-1)=words r d c+63:=by rw[Ai (by unfold AQ; omega)]; omega
 obtain ⟨n,a⟩:∃ n:Nat,words r d c+63=(n:Int):=⟨(words r d c+63).toNat,by omega⟩;have g:Ar ((words r d c+63).tdiv 64)=(words r d c+63).tdiv 64:=by
  rw[a,show ((n:Int)).tdiv 64=((n/64:Nat):Int) from rfl]; exact Ai (by unfold AQ; omega)
 rw[b,f,g,Aaq]
theorem YC (k:Nat) (r d c:Int) (J:Aa):∃ τ,ET (k+3) r d c J=some (.bool (decide (words r d c>32)),J++τ):=by
 obtain ⟨τ,e⟩:=JH k r d c (J++[Au.cells [qIi r,qIi d,qIi c] Ad true]);refine ⟨[Au.cells [qIi r,qIi d,qIi c] Ad true]++τ, ?_⟩;rw[Yd];simp only[Ae,Bv,IN,Nat.reduceAdd,Aca,Ace,AI,Ah,e];rw[Aaq]
theorem Kr {q:Nat} {x y z:Int} {T:TypeId} (h:J[q]?=some (.cells [qIi x,qIi y,qIi z] T true)):Aj .i64 J q 0=some x/\Aj .i64 J q 1=some y/\Aj .i64 J q 2=some z:=by
 refine ⟨?_, ?_, ?_⟩ <;> simp[Aj,CW,h,Bk]
theorem Qb (k:Nat) (h:RG J i m t) (a e:Int) (K:0<=a/\a<4096) {q:Nat} {r d c:Int} (v:J[q]?=some (.cells [qIi r,qIi d,qIi c] Ad true)):∀ (n x f:Nat) (τ:Aa),x+n=t.ob.length->n<f ->
  ∃ w,Dp (k+2) f (Bj i) a e q (x:Int) (J++τ)=some (if dc (t.ob.drop x) a (words r d c) e then (.ret,[qIi 8],J++w) else (.exit 0,[],J++w))
 | 0,x,0,τ,P,L=>by omega
 | 0,x,f+1,τ,P,L=>by
   have z:=h.app τ;rw[Ma,Ade (by omega)];have q:decide ((x:Int)<((t.ob.length:Nat):Int))=false:=Aaj (by omega);exact ⟨τ,by simp only[AI,IN,z.at_.Fa,q,By,dc,List.any_nil,Ab8,Aa5]⟩
 | n+1,x,0,τ,P,L=>by omega
 | n+1,x,f+1,τ,P,L=>by
   have ab:=h.ol;have g:x<t.ob.length:=by omega
   have z:=h.app τ;obtain ⟨j,b,p,A⟩:=z.ath g;have hz:=h.inv.size A.st;have aa:=A.lt;have hw:=oD h.inv A.st;have ac:=ZC r d c;have M:t.ob[x]=AR m j:=by
    obtain ⟨j2,X,_,_,Y⟩:=h.drop g;rw[A.all] at X; cases X;rw[Aau g] at Y; exact Aej Y
   have N:dc (t.ob.drop x) a (words r d c) e=(decide ((AR m j).id≠e/\((2*j:Nat):Int)<a+words r d c/\a<((2*j:Nat):Int)+(sz m j:Int)) || dc (t.ob.drop (x+1)) a (words r d c) e):=by
    rw[Ac2 g,M];unfold dc;rw[List.any_cons,hw,Nq]
   obtain ⟨B,Z⟩:∃ B,Au.cells (Bw (AR m j) p) Ab true=B:=⟨_,rfl⟩;have st:H5 (J++τ++[Au.cells [qIi 0,qIi 0,qIi 0,qIi 0,qIi 0,.slice none 0 0,.slice none 0 0,.bool false] Ab true]) (J++τ).length 0 [qIi (AR m j).addr,qIi (AR m j).id,qIi (AR m j).r,qIi (AR m j).d,qIi (AR m j).k,.slice p.1.1 p.1.2.1 p.1.2.2,.slice p.2.1 p.2.2.1 p.2.2.2,.bool (AR m j).W2]=some (J++τ++[B]):=by
    rw[XC,<- Z]; rfl
   have Q:∀ (w:Aa) (o:Nat),Aj .i64 (J++τ++[B]++w) (J++τ).length o=((Bw (AR m j) p)[o]?).bind (Bk .i64):=fun w o=>by rw[<- Z]; exact GB _ _ _ _ _ _ _
   have l:∀ (o:Nat),Aj .i64 (J++τ++[B]) (J++τ).length o=((Bw (AR m j) p)[o]?).bind (Bk .i64):=fun o=>by have:=Q [] o; rwa [Ab1] at this
   have O:(J++τ++[B])[q]?=some (.cells [qIi r,qIi d,qIi c] Ad true):=by
    rw[Aaq,AT (Af v)]; exact v
   obtain ⟨D,E,F⟩:=Kr O;obtain ⟨C,H⟩:=JH k r d c (J++τ++[B]);obtain ⟨τ2,I⟩:=JH k (Av m j) (Bp m j) (CC m j) (J++τ++[B]++C);rw[(Nc h.inv A.st).2.2.2.2.2.2.2] at I;have q0:decide ((x:Int)<((t.ob.length:Nat):Int))=true:=Aak (by omega);have qx:=qSu x t.ob.length (by omega);have S:=wSu x (by omega);have T:Ar (a+words r d c)=a+words r d c:=Ai (by unfold AQ; omega);have w3:Ar (((2*j:Nat):Int)+(sz m j:Int))=((2*j:Nat):Int)+(sz m j:Int):=Ai (by unfold AQ; omega);have G:((Bw (AR m j) p)[0]?).bind (Bk .i64)=some ((2*j:Nat):Int):=rfl;have c1:((Bw (AR m j) p)[1]?).bind (Bk .i64)=some (AR m j).id:=rfl;have U:((Bw (AR m j) p)[2]?).bind (Bk .i64)=some (Av m j):=rfl;have V:((Bw (AR m j) p)[3]?).bind (Bk .i64)=some (Bp m j):=rfl;have W:((Bw (AR m j) p)[4]?).bind (Bk .i64)=some (CC m j):=rfl;rw[N,Ma];simp only[AI,IN,Aa0,Ad3,Nat.reduceAdd,z.at_.Fa,q0,IS,qx,Aat,A.os,IT,A.ld.l0,A.ld.l1,A.ld.l2,A.ld.l3,A.ld.l4,A.ld.l5,A.ld.l6,A.ld.l7,Ae,st,l,c1];by_cases d1:(AR m j).id=e
   ·obtain ⟨y,s⟩:=Qb k h a e K v n (x+1) f (τ++[B]) (by omega) (by omega);refine ⟨y, ?_⟩;have:((AR m j).id != e)=false:=by rw[d1]; exact Abx _
    rw[Aaj (fun h=>h.1 d1),Ahc];simp only[<- Aaq] at s;simp only[this,By,AI,S];exact s
   ·have u:((AR m j).id != e)=true:=Adz.2 d1;by_cases d2:((2*j:Nat):Int)<a+words r d c
    ·by_cases d3:a<((2*j:Nat):Int)+(sz m j:Int)
     ·refine ⟨τ++[B]++C++τ2, ?_⟩;rw[Aak ⟨d1,d2,d3⟩];simp only[u,IS,l,G,AI,D,E,F,H,Ah,T,Aak d2,Q,U,V,W,I,w3,Aak d3,Ag4,Aat];simp only[<- Aaq]
     ·obtain ⟨y,s⟩:=Qb k h a e K v n (x+1) f (τ++[B]++C++τ2) (by omega) (by omega);refine ⟨y, ?_⟩;rw[Aaj (fun h=>d3 h.2.2),Ahc];simp only[<- Aaq] at s;simp only[u,IS,l,G,AI,D,E,F,H,Ah,T,Aak d2,Q,U,V,W,I,w3,Aaj d3,By,S];exact s
    ·obtain ⟨y,s⟩:=Qb k h a e K v n (x+1) f (τ++[B]++C) (by omega) (by omega);refine ⟨y, ?_⟩;rw[Aaj (fun h=>d2 h.2.1),Ahc];simp only[<- Aaq] at s;simp only[u,IS,l,G,AI,D,E,F,H,Ah,T,Aaj d2,By,S];exact s
theorem Wt {hi:Nat} {a:Int}:∀ {f x:Nat},Mr m hi a f x=false -> ∃ y o,x<=y/\y<hi/\QT m (y:Int)=some o/\((2*o:Nat):Int)≠a
 | 0,x,h=>by cases h
 | f+1,x,h=>by
   rw[Mr] at h;split at h
   ·rename_i e;split at h
    ·rename_i o d;split at h
     ·obtain ⟨y,o',h1,b⟩:=Wt h;exact ⟨y,o',by omega,b⟩
     ·rename_i c;exact ⟨x,o,Aa1 _,e,d,c⟩
    ·obtain ⟨y,o',h1,b⟩:=Wt h;exact ⟨y,o',by omega,b⟩
   ·cases h
theorem vB (c:Inv m) {a w:Nat} {b d:Int} (r:a % 2=0) (hw:w % 2=0) (n:2<=w) (p:w<=218) (hb:∀ o,Start m o->(((2*o:Nat):Int)=b↔m.wds.getD (2*o) 0=d)):dc (Gr m) (a:Int) (w:Int) d = !Mr m (a+w) b 200 a:=by
 rw[Ahj,Agf];unfold dc Gr;rw[List.any_eq_true];constructor
 ·rintro ⟨o,l,hd⟩;obtain ⟨j,k,rfl⟩:=Aeb.1 l;have hs:=DS.1 k;rw[Ad4,oD c hs,Nq] at hd;have t:=c.size hs;cases g:Mr m (a+w) b 200 a with
  | false=>rfl
  | true=>
    have h:=c.fit j hs;by_cases s:a<=2*j
    ·have:=UI g (by omega) ((2*j-a)/2) (by omega) j (by
      rw[show a+2*((2*j-a)/2)=2*j from by omega];unfold QT;rw[Aay (by omega),IT,c.UH hs (by omega) (by omega)]);exact absurd ((hb j hs).1 this) hd.1
    ·have:=UI g (by omega) 0 (by omega) j (by
      unfold QT;rw[Aay (by omega),IT,c.UH hs (by omega) (by omega)]);exact absurd ((hb j hs).1 this) hd.1
 ·intro g;obtain ⟨y,o,h1,q,f,i⟩:=Wt g;unfold QT at f;split at f
  ·rw[IT] at f;obtain ⟨s1,_,u,v⟩:=nI f;refine ⟨AR m o,Aeb.2 ⟨o,DS.2 s1,rfl⟩, ?_⟩;rw[Ad4,oD c s1,Nq];exact ⟨fun e=>i ((hb o s1).2 e),by omega,by omega⟩
  ·cases f
theorem vG (k:Nat) (hk:5000<=k) (h:RG J i m t) (a p g:Int) {r d c:Int} (L:valid r d c=true) (hb:∀ o,Start m o->(((2*o:Nat):Int)=p↔m.wds.getD (2*o) 0=g)):
  ∃ τ,Iv (k+4) (Bj i) a r d c g J=some (qIi (Mi m a (Pt (num r d c)) p),J++τ):=by
 have aa:=h.nt;have ac:=h.wl;have ab:=h.ol;have j:words r d c=(Pt (num r d c):Int):=by
  obtain ⟨p1,p2,p3,_⟩:=Kk L;rw[jo,p1,p2,p3]
 have K:=Kw L;have M:=L;simp[valid] at M;have C:Pt (num r d c) % 2=0/\2<=Pt (num r d c)/\Pt (num r d c)<=218:=by rw[K]; omega
 obtain ⟨W,F⟩:∃ W,Pt (num r d c)=W:=⟨_,rfl⟩;rw[F] at j C ⊢;obtain ⟨B,V⟩:∃ B,Au.cells [qIi r,qIi d,qIi c] Ad true=B:=⟨_,rfl⟩;have v:=h.app [B];have D:(J++[B])[J.length]?=some (.cells [qIi r,qIi d,qIi c] Ad true):=by rw[<- V]; simp
 rw[TN];simp only[Ae,V];unfold Mi;by_cases h0:a<0
 ·rw[Aay (show ¬(0<=a/\a<(m.wds.length:Int)/\a.toNat % 2=0) by omega)];refine ⟨[B], ?_⟩;simp only[Aak h0,IS,AI]
 obtain ⟨n,rfl⟩:∃ n:Nat,a=(n:Int):=⟨a.toNat,by omega⟩;rw[IT];have s:((n:Int)).tmod 2=((n % 2:Nat):Int):=rfl;by_cases h1:n % 2=0;rotate_left
 ·rw[Aay (show ¬(0<=(n:Int)/\(n:Int)<(m.wds.length:Int)/\n % 2=0) by omega)];refine ⟨[B], ?_⟩;have:(((n % 2:Nat):Int) != 0)=true:=Adz.2 (by omega);simp only[Aaj h0,By,show ((2:Int)=0)=False from by decide,Aa5,s,this,IS,AI]
 have Q:(((n % 2:Nat):Int) != 0)=false:=by rw[h1]; rfl
 have q:Ar (((m.bls.length:Nat):Int)*64)=((m.wds.length:Nat):Int):=by rw[Ai (by unfold AQ; omega)]; omega
 by_cases h3:n<m.wds.length;rotate_left
 ·rw[Aay (show ¬(0<=(n:Int)/\(n:Int)<(m.wds.length:Int)/\n % 2=0) by omega)];refine ⟨[B], ?_⟩;simp only[Aaj h0,By,show ((2:Int)=0)=False from by decide,Aa5,s,Q,AI,IN,Aa0,v.at_.H7,v.bn,q,Aak (show (n:Int)>=((m.wds.length:Nat):Int) by omega),IS]
 rw[Aaz (show ¬¬(0<=(n:Int)/\(n:Int)<(m.wds.length:Int)/\n % 2=0) by omega)];obtain ⟨b0,b1,b2⟩:=Kr D;obtain ⟨f,eL⟩:=YC k r d c (J++[B]);have b:=v.app f;have I:(J++[B]++f)[J.length]?=_:=(AT (Af D)).trans D;obtain ⟨d0,d1,d2⟩:=Kr I;have y:n/64<m.bls.length:=by omega
 have wb:Ar (((n:Int)).tdiv 64)=((n/64:Nat):Int):=by rw[show ((n:Int)).tdiv 64=((n/64:Nat):Int) from rfl]; exact Ai (by unfold AQ; omega)
 have x:((n:Int)).tmod 64=((n % 64:Nat):Int):=rfl;obtain ⟨qb,U,z,_,_⟩:=X3 b y;have Y:(0<=((n/64:Nat):Int)/\((n/64:Nat):Int)<((m.bls.length:Nat):Int))=True:=Adu (by omega);have loop:∀ Z:Aa,∃ u,((Dp (k+3) (k+3) (Bj i) (n:Int) g J.length (0:Int) (J++[B]++Z)).bind fun l=>if l.1 = .exit 0 then (some (Value.int .i64 (0:Int),l.2.2)) else if l.1 = .ret then (ZZ l.2.1 fun O=>some (qIi O,l.2.2)) else none)=some (Value.int .i64 (if Mr m (n+W) p 200 n then 0 else 8),J++u):=by
  intro Z;obtain ⟨u,e⟩:=Qb (k+1) v (n:Int) g (by omega) D t.ob.length 0 (k+3) Z (by omega) (by omega);rw[Adf,h.sim.ob,j,vB h.inv h1 C.1 C.2.1 C.2.2 hb,show ((0:Nat):Int)=0 from rfl] at e;have w:Dp (k+3) (k+3) (Bj i) (n:Int) g J.length 0 (J++[B]++Z)=_:=e;refine ⟨[B]++u, ?_⟩;rw[w,<- Aaq];cases Mr m (n+W) p 200 n with
  | true=>simp only[Aa4,Ab8,Aa5,AI,Aat]
  | false=>simp only[Adi,Aat,AI,reduceCtorEq,Aa5,Em,Ab8]
 simp only[Aaj h0,By,show ((2:Int)=0)=False from by decide,Aa5,s,Q,AI,IN,Aa0,Nat.reduceAdd,v.at_.H7,v.bn,q,Aaj (show ¬ (n:Int)>=((m.wds.length:Nat):Int) by omega),show ((64:Int)=0)=False from by decide,b0,b1,b2,eL,An,j];by_cases X:W<=32
 ·rw[Aay X,Aaj (by omega)];simp only[By,b.at_.H7,b.bn,wb,Y,Aat,U,AI,IT,IN,z];by_cases s1:(m.bls.getD (n/64) (0,0)).1=1
  ·obtain ⟨A,T⟩:=JH (k+1) r d c (J++[B]++f);rw[j] at T;have wa:Ar ((n:Int)+(W:Int))=((n+W:Nat):Int):=by rw[Ai (by unfold AQ; omega)]; omega
   have wc:Ar (((n+W:Nat):Int)-1)=((n+W-1:Nat):Int):=by rw[Ai (by unfold AQ; omega)]; omega
   have wd:Ar ((((n+W-1:Nat):Int)).tdiv 64)=(((n+W-1)/64:Nat):Int):=by rw[show (((n+W-1:Nat):Int)).tdiv 64=(((n+W-1)/64:Nat):Int) from rfl]; exact Ai (by unfold AQ; omega)
   simp only[s1,Abx,By,d0,d1,d2,AI,T,Ah,wa,wc,wd];by_cases s2:(n+W-1)/64=n/64
   ·have:((((n+W-1)/64:Nat):Int) != ((n/64:Nat):Int))=false:=by rw[s2]; exact Abx _
    obtain ⟨u,w⟩:=loop (f++A);rw[Aaz (fun G=>G.elim (fun h=>h rfl) (fun h=>h s2))];refine ⟨u, ?_⟩;simp only[this,By,AI,Aat];rw[Aaq (J++[B])];exact w
   ·have:((((n+W-1)/64:Nat):Int) != ((n/64:Nat):Int))=true:=Adz.2 (by omega);rw[Aay (.inr s2)];refine ⟨[B]++f++A, ?_⟩;simp only[this,IS,AI,reduceCtorEq,Aa5,Aat,Em,Aaq]
  ·rw[Aay (.inl s1)];refine ⟨[B]++f, ?_⟩;simp only[Adz.2 s1,IS,AI,reduceCtorEq,Aa5,Aat,Em,Aaq]
 ·rw[Aaz X,Aak (by omega)];simp only[IS,x];by_cases P:n % 64=0;rotate_left
  ·have:(((n % 64:Nat):Int) != 0)=true:=Adz.2 (by omega);rw[Aay (.inr (.inl P))];refine ⟨[B]++f, ?_⟩;simp only[this,IS,AI,reduceCtorEq,Aa5,Aat,Em,Aaq]
  have e0:(((n % 64:Nat):Int) != 0)=false:=by rw[P]; rfl
  simp only[e0,By,b.at_.H7,b.bn,wb,Y,Aat,U,AI,IT,IN,z];by_cases s1:(m.bls.getD (n/64) (0,0)).1=2;rotate_left
  ·rw[Aay (.inl s1)];refine ⟨[B]++f, ?_⟩;simp only[Adz.2 s1,IS,AI,reduceCtorEq,Aa5,Aat,Em,Aaq]
  have E:Gz (k+3) (Bj i) ((n/64:Nat):Int) (J++[B]++f)=_:=sX (k+2) (by omega) b y;have N:jw m (n/64)=LG m (n/64):=by unfold jw; rw[Aaz (by rw[s1]; decide),Aay s1]
  obtain ⟨A,S⟩:=db k r d c (J++[B]++f);have H:(words r d c+63).tdiv 64=(((W+63)/64:Nat):Int):=by rw[j]; rfl
  rw[H] at S;simp only[s1,Abx,By,E,AI,Ah,N,d0,d1,d2,S];by_cases s2:LG m (n/64)=(W+63)/64
  ·have:(((LG m (n/64):Nat):Int) != (((W+63)/64:Nat):Int))=false:=by rw[s2]; exact Abx _
   obtain ⟨u,w⟩:=loop (f++A);rw[Aaz (fun G=>G.elim (fun h=>h rfl) (fun h=>h.elim (fun h=>h P) (fun h=>h s2)))];refine ⟨u, ?_⟩;simp only[this,By,AI,Aat];rw[Aaq (J++[B])];exact w
  ·have:(((LG m (n/64):Nat):Int) != (((W+63)/64:Nat):Int))=true:=Adz.2 (by omega);rw[Aay (.inr (.inr s2))];refine ⟨[B]++f++A, ?_⟩;simp only[this,IS,AI,reduceCtorEq,Aa5,Aat,Em,Aaq]
end
section
local instance qRV:AJ:=Ao
variable {J:Aa} {m:HM} {t:RM} {i:RI}
theorem D2.app {s:Bx} {l:List Int} (h:D2 J s l) (τ:Aa):D2 (J++τ) s l:=
 ⟨h.1,fun i=>by
  obtain ⟨b,c,e,d⟩:=h.2.1 i;exact ⟨b,c,e,(AT (Af d)).trans d⟩,fun a g=>by
  obtain ⟨cs,T,w,h1,f⟩:=h.2.2 a g;exact ⟨cs,T,w,(AT (Af h1)).trans h1,f⟩⟩
theorem EI {j:Nat} (hs:Start m j):Aw m ((2*j:Nat):Int)=true:=by
 unfold Aw;rw[Ad4,IT,show 2*j/2=j from by omega];exact ⟨by omega,by omega,hs⟩
theorem Z2 (k:Nat) (hk:5000<=k) (h:RG J i m t) (L:List Nat) (hL:∀ j ∈ L,Start m j) (U:L.length<=2048) {Z:Nat} (s:Bx) (hs:CB Z J s (Cq L)):∀ (n x f a:Nat) (τ:Aa) (o:Bx) (R:List (Nat × Nat)),Ct AG 2 (J++τ) o R.length (D7 R)->(∀ q,o.1=some q->J.length<=q.block)->R.length<=x->a<=5000->x+n=L.length->n<f ->
  ∃ e o',Dn (k+3) f (Bj i) s.1 s.2.1 s.2.2 (o.1,o.2.1,o.2.2) (a:Int) (x:Int) (J++τ)=some (.exit 0,[.slice o'.1 o'.2.1 o'.2.2,qIi ((F9 m (L.drop x) a).2:Int)],J++e)/\Ct AG 2 (J++e) o' (R++(F9 m (L.drop x) a).1).length (D7 (R++(F9 m (L.drop x) a).1))/\(∀ q,o'.1=some q->J.length<=q.block)/\(F9 m (L.drop x) a).2<=5000/\(R++(F9 m (L.drop x) a).1).length<=L.length
 | 0,x,0,a,τ,o,R,z,A,X,Q,Y,W=>by omega
 | 0,x,f+1,a,τ,o,R,z,A,X,Q,Y,W=>by
   have al:(Cq L).length=L.length:=by simp[Cq]
   have sl:s.2.1=L.length:=by rw[<- al]; exact hs.sl.len
   rw[LZ,Ade (by omega)];have q:decide ((x:Int)<((s.2.1:Nat):Int))=false:=Aaj (by omega);exact ⟨τ,o,by simp only[q,By,F9],by simpa [F9] using z,A,Q,by simp[F9]; omega⟩
 | n+1,x,0,a,τ,o,R,z,A,X,Q,Y,W=>by omega
 | n+1,x,f+1,a,τ,o,R,z,A,X,Q,Y,W=>by
   have al:(Cq L).length=L.length:=by simp[Cq]
   have v:x<L.length:=by omega
   have c:=hL _ (Adb v);have aa:=h.inv.fit _ c;have hz:=h.inv.size c;have ad:=h.nt;have af:=h.wl;have ae:=c.1;obtain ⟨b1,e1,ab,c1,D⟩:=ints_at hs (x:=x) (by omega);rw[OH L v] at D;have V:=Af c1;have r:∀ b:Aa,Aj .i64 (J++b) b1 x=some ((2*L[x]:Nat):Int):=fun b=>by
    rw[<- D]; simp only[Aj,CW,AT V]
   have eT:F9 m (L.drop x) a=(Ky a (2*L[x])++(F9 m (L.drop (x+1)) (2*L[x]+sz m L[x])).1,(F9 m (L.drop (x+1)) (2*L[x]+sz m L[x])).2):=by
    rw[Ac2 v]; rfl
   have qx:=qSu x L.length (by omega);have q0:decide ((x:Int)<((L.length:Nat):Int))=true:=Aak (by omega);have w1:=wSu x (by omega);have w2:Ar (((2*L[x]:Nat):Int)+(sz m L[x]:Int))=((2*L[x]+sz m L[x]:Nat):Int):=by rw[Ai (by unfold AQ; omega)]; omega
   have ac:(Ky a (2*L[x])).length<=1:=by unfold Ky; split <;> simp
   have tail:∀ (b:Aa) (d:Bx),Ct AG 2 (J++b) d (R++Ky a (2*L[x])).length (D7 (R++Ky a (2*L[x])))->(∀ q,d.1=some q->J.length<=q.block) ->
     ∃ (y l:Nat) (I:i.os.1=some ⟨l,0,none⟩) (e4:y<t.ob.length) (K:Ay (k+3) (Bj i) ((2*L[x]:Nat):Int) (J++b)=some (qIi (y:Int),J++b)) (M:Aj .i64 (J++b) l (y*8+2)=some (Av m L[x])) (N:Aj .i64 (J++b) l (y*8+3)=some (Bp m L[x])) (O:Aj .i64 (J++b) l (y*8+4)=some (CC m L[x])) (g:Aa) (u:Cn (k+3) (Av m L[x]) (Bp m L[x]) (CC m L[x]) (J++b)=some (qIi (sz m L[x]:Int),J++g)) (e:Aa) (o':Bx),
      Dn (k+3) f (Bj i) s.1 s.2.1 s.2.2 (d.1,d.2.1,d.2.2) ((2*L[x]+sz m L[x]:Nat):Int) ((x+1:Nat):Int) (J++g)=some (.exit 0,[.slice o'.1 o'.2.1 o'.2.2,qIi ((F9 m (L.drop x) a).2:Int)],J++e)/\Ct AG 2 (J++e) o' (R++(F9 m (L.drop x) a).1).length (D7 (R++(F9 m (L.drop x) a).1))/\(∀ q,o'.1=some q->J.length<=q.block)/\(F9 m (L.drop x) a).2<=5000/\(R++(F9 m (L.drop x) a).1).length<=L.length:=by
    intro b d s1 n1;have hg:=h.app b;obtain ⟨y,j',l,p,F⟩:=hg.found (EI c);have ej:j'=L[x]:=by have:=F.e; omega
    subst ej;obtain ⟨g,u⟩:=JH (k+1) (Av m L[x]) (Bp m L[x]) (CC m L[x]) (J++b);rw[(Nc h.inv c).2.2.2.2.2.2.2,Aaq] at u;have s2:Ct AG 2 (J++(b++g)) d (R++Ky a (2*L[x])).length (D7 (R++Ky a (2*L[x]))):=by rw[<- Aaq]; exact s1.app g
    obtain ⟨e,o',E,B,G,H,C⟩:=Z2 k hk h L hL U s hs n (x+1) f (2*L[x]+sz m L[x]) (b++g) d (R++Ky a (2*L[x])) s2 n1 (by rw[Aaw]; omega) (by omega) (by omega) (by omega);rw[eT];rw[Aaq] at B C;exact ⟨y,l,F.os,F.xl,by rw[<- F.idx]; exact LF (k+1) (by omega) hg _,F.ld.l2,F.ld.l3,F.ld.l4,b++g,u,e,o',E,B,G,H,C⟩
   subst e1;rw[LZ];simp only[al] at *;by_cases hc:a<2*L[x]
   ·obtain ⟨d,b,ea,s1,n1⟩:=Qa yi xt yt rfl rfl (by decide) (by decide) (by decide) J τ o R.length (D7 R) 1 1 (D7 [(a,2*L[x]-a)]) AG (by omega) (by decide) rfl z A;have S:AH P AG (o.1,o.2.1,o.2.2) (some ⟨(J++τ).length,0,none⟩,1,1) (J++τ++[Au.cells [qIi (a:Int),qIi ((2*L[x]-a:Nat):Int)] AG true])=some (d,J++b):=ea;have T:Ky a (2*L[x])=[(a,2*L[x]-a)]:=by unfold Ky; rw[Aay hc]
    obtain ⟨y,l,I,e4,K,M,N,O,g,u,e,o',E,B,G,H,C⟩:=tail b d (by rw[T,Pp,Aaw]; exact s1) n1;refine ⟨e,o', ?_,B,G,H,C⟩;have w:Ar (((2*L[x]:Nat):Int)-(a:Int))=((2*L[x]-a:Nat):Int):=by rw[Ai (by unfold AQ; omega)]; omega
    have qy:=qSu y t.ob.length (by omega);simp only[q0,IS,qx,Aat,AI,IN,Aa0,Ad3,Nat.reduceAdd,IT,Acg,r,Aak (show ((2*L[x]:Nat):Int)>(a:Int) by omega),Ae,w,S,HW,(h.app b).at_.Fa,K,Ah,qy,I,M,N,O,u,w2,w1];exact E
   ·have T:Ky a (2*L[x])=[]:=by unfold Ky; rw[Aaz hc]
    obtain ⟨y,l,I,e4,K,M,N,O,g,u,e,o',E,B,G,H,C⟩:=tail τ o (by rw[T,Ab1]; exact z) A;refine ⟨e,o', ?_,B,G,H,C⟩;have qy:=qSu y t.ob.length (by omega);simp only[q0,IS,By,qx,Aat,AI,IN,Aa0,Ad3,Nat.reduceAdd,IT,Acg,r,Aaj (show ¬ ((2*L[x]:Nat):Int)>(a:Int) by omega),HW,(h.app τ).at_.Fa,K,Ah,qy,I,M,N,O,u,w2,w1];exact E
def IV (m:HM) (b:Int):List (Nat × Nat):=if Ce m b=1 then cn m b.toNat else []
theorem gX {b:Int} (h:Ce m b=1):∃ n:Nat,b=(n:Int)/\n<m.bls.length/\(m.bls.getD n (0,0)).1=1:=by
 unfold Ce at h;split at h
 ·rename_i hb;refine ⟨b.toNat,by omega,by omega,h⟩
 ·cases h
theorem fW (m:HM) (b:Int):(IV m b).length<=33:=by
 have aux:∀ (L:List Nat) (a:Nat),(F9 m L a).1.length<=L.length:=by
  intro L
  induction L with
  | nil=>intro a; exact Aa1 _
  | cons j L c=>
    intro a;have:=c (2*j+sz m j);have:(Ky a (2*j)).length<=1:=by unfold Ky; split <;> simp
    rw[F9,Aaw,Adl]; omega
 unfold IV;split
 ·unfold cn;have:=aux (D8 m (32*b.toNat) 32) (64*b.toNat);have:=Ns m (32*b.toNat) 32;have:(Ky (F9 m (D8 m (32*b.toNat) 32) (64*b.toNat)).2 (64*b.toNat+64)).length<=1:=by unfold Ky; split <;> simp
  rw[Aaw]; omega
 ·simp
theorem vx (k:Nat) (O:5000<=k) (h:RG J i m t) (b:Int):∃ τ s,Iu (k+4) (Bj i) b J=some (.slice s.1 s.2.1 s.2.2,J++τ)/\Ct AG 2 (J++τ) s (IV m b).length (D7 (IV m b)) /\ ∀ a,s.1=some a->J.length<=a.block:=by
 have Q:=h.nt;have T:=h.wl;rw[TK];have H:Cw (k+3) (Bj i) b J=_:=YD (k+1) h b;simp only[H,AI,Ah];unfold IV;by_cases g:Ce m b=1;rotate_left
 ·rw[Aaz g,Adz.2 g];exact ⟨[],(none,0,0),by simp only[IS,Ab1],Ct.nil _ _ _,by intro a f; cases f⟩
 rw[Aay g,g];obtain ⟨n,rfl,Y,S⟩:=gX g;obtain ⟨d,s,r,i1⟩:=lH (k+1) (by omega) h (n:Int);have F:HI m (n:Int)=D8 m (32*n) 32:=by unfold HI; rw[Aay (by omega),IT]
 rw[F] at i1;have M:=h.app d;have K:∀ j ∈ D8 m (32*n) 32,Start m j:=by
  intro j N;obtain ⟨a,W,c⟩:=LR.1 N;exact ⟨by omega,c⟩
 have L:=Ns m (32*n) 32;obtain ⟨o,l,u,s2,z,x,y⟩:=Z2 k O M _ K (by omega) s i1 (D8 m (32*n) 32).length 0 (k+3) (64*n) [] (none,0,0) [] (Ct.nil _ _ _) (by intro a f; cases f) (Ado _) (by omega) (by omega) (by omega);rw[Adf,Ae5] at s2 y;rw[Adf,Ab1] at u;rw[Adf] at x;have e:Dn (k+3) (k+3) (Bj i) s.1 s.2.1 s.2.2 (none,0,0) ((64*n:Nat):Int) 0 (J++d)=_:=u;have B:Ar ((n:Int)*64)=((64*n:Nat):Int):=by rw[Ai (by unfold AQ; omega)]; omega
 have C:Ar ((n:Int)+1)=((n+1:Nat):Int):=by rw[Ai (by unfold AQ; omega)]; omega
 have D:Ar (((n+1:Nat):Int)*64)=((64*n+64:Nat):Int):=by rw[Ai (by unfold AQ; omega)]; omega
 rw[IT];unfold cn;generalize X:F9 m (D8 m (32*n) 32) (64*n)=G at e s2 x y;by_cases v:G.2<64*n+64
 ·obtain ⟨A,E,I,V,U⟩:=Qa yi xt yt rfl rfl (by decide) (by decide) (by decide) (J++d) o l G.1.length (D7 G.1) 1 1 (D7 [(G.2,64*n+64-G.2)]) AG (by omega) (by decide) rfl s2 z;have p:AH P AG (l.1,l.2.1,l.2.2) (some ⟨(J++d++o).length,0,none⟩,1,1) (J++d++o++[Au.cells [qIi (G.2:Int),qIi ((64*n+64-G.2:Nat):Int)] AG true])=some (A,J++d++E):=I;have q:Ky G.2 (64*n+64)=[(G.2,64*n+64-G.2)]:=by unfold Ky; rw[Aay v]
  have w:Ar (((64*n+64:Nat):Int)-(G.2:Int))=((64*n+64-G.2:Nat):Int):=by rw[Ai (by unfold AQ; omega)]; omega
  refine ⟨d++E,A, ?_, ?_,fun a f=>by have:=U a f; simp at this; omega⟩
  ·simp only[Abx,By,r,AI,Eo,B,e,Aat,qN,C,D,Aak (show (G.2:Int)<((64*n+64:Nat):Int) by omega),IS,Ae,w,p,HW];rw[Aaq]
  ·rw[q,Pp,Aaw,<- Aaq]; exact V
 ·have q:Ky G.2 (64*n+64)=[]:=by unfold Ky; rw[Aaz v]
  refine ⟨d++o,l, ?_, ?_,fun a f=>by have:=z a f; simp at this; omega⟩
  ·simp only[Abx,By,r,AI,Eo,B,e,Aat,qN,C,D,Aaj (show ¬ (G.2:Int)<((64*n+64:Nat):Int) by omega),By,HW];rw[Aaq]
  ·rw[q,Ab1,<- Aaq]; exact s2
end
section
local instance qRW:AJ:=Ao
variable {J:Aa} {m:HM} {t:RM} {i:RI}
def Rr (om:List (Bx × Bx)):List Nat:=om.flatMap fun p=>hs p.1++hs p.2
theorem NJ (s:Bx):(hs s).Nodup:=by
 unfold hs;cases s.1 <;> simp
theorem RI.JZ {j:Nat}:j ∈ i.l↔j=i.hb\/j ∈ hs i.bs\/j ∈ hs i.os\/j ∈ hs i.fs\/j ∈ Rr i.om:=by
 unfold RI.l Rr;simp only[Acd,Aas]
structure Sep (i:RI):Prop where
 hA:i.hb ∉ hs i.bs
 hB:i.hb ∉ hs i.os
 hC:i.hb ∉ hs i.fs
 hD:i.hb ∉ Rr i.om
 AB:∀ a ∈ hs i.bs,a ∉ hs i.os
 AC:∀ a ∈ hs i.bs,a ∉ hs i.fs
 AD:∀ a ∈ hs i.bs,a ∉ Rr i.om
 BC:∀ a ∈ hs i.os,a ∉ hs i.fs
 BD:∀ a ∈ hs i.os,a ∉ Rr i.om
 CD:∀ a ∈ hs i.fs,a ∉ Rr i.om
 D:(Rr i.om).Nodup
theorem Sep.of (h:i.l.Nodup):Sep i:=by
 have h:(i.hb::(hs i.bs++(hs i.os++(hs i.fs++Rr i.om)))).Nodup:=h;obtain ⟨h1,e⟩:=Afi.1 h;simp only[Aas,Ahh] at h1;obtain ⟨_,f,c⟩:=Ad5.1 e;obtain ⟨_,h5,d⟩:=Ad5.1 f;obtain ⟨_,g,h8⟩:=Ad5.1 h5;exact ⟨h1.1,h1.2.1,h1.2.2.1,h1.2.2.2,fun a b hb=>c a b a (Aas.2 (.inl hb)) rfl,fun a b hb=>c a b a (Aas.2 (.inr (Aas.2 (.inl hb)))) rfl,fun a b hb=>c a b a (Aas.2 (.inr (Aas.2 (.inr hb)))) rfl,
  fun a b hb=>d a b a (Aas.2 (.inl hb)) rfl,fun a b hb=>d a b a (Aas.2 (.inr hb)) rfl,fun a b hb=>h8 a b a hb rfl,g⟩
theorem Sep.nd (h:Sep i):i.l.Nodup:=by
 show (i.hb::(hs i.bs++(hs i.os++(hs i.fs++Rr i.om)))).Nodup;refine Afi.2 ⟨?_,Ad5.2 ⟨NJ _,Ad5.2 ⟨NJ _,Ad5.2 ⟨NJ _,h.D, ?_⟩, ?_⟩, ?_⟩⟩
 ·simp only[Aas,Ahh];exact ⟨h.hA,h.hB,h.hC,h.hD⟩
 ·intro a c b hb e;subst e;exact h.CD a c hb
 ·intro a c b hb e;subst e;rcases Aas.1 hb with hb | hb
  ·exact h.BC a c hb
  ·exact h.BD a c hb
 ·intro a c b hb e;subst e;rcases Aas.1 hb with hb | hb
  ·exact h.AB a c hb
  ·rcases Aas.1 hb with hb | hb
   ·exact h.AC a c hb
   ·exact h.AD a c hb
theorem JM.sep (h:JM J i t):Sep i:=Sep.of h.nd
theorem Ju {om:List (Bx × Bx)} {x b:Nat} (a:x<om.length) (h:b ∈ hs om[x].1\/b ∈ hs om[x].2):b ∈ Rr om:=
 Afu.2 ⟨_,Adb a,Aas.2 h⟩
theorem Nz {s:Bx} {q:Nat} (e:s.1=some ⟨q,0,none⟩):q ∈ hs s:=BV.2 ⟨_,e,rfl⟩
theorem JI {L:List Nat} {q b:Nat} {c:Au} (a:q ∉ L) (hb:b ∈ L):(J.set q c)[b]?=J[b]?:=
 Aar (fun e:q=b=>a (by rw[e]; exact hb))
structure H9 (i i':RI) (J J':Aa):Prop where
 len:J.length<=J'.length
 same:∀ j,j<J.length->j ∉ i.l->J'[j]?=J[j]?
 new:∀ j,j ∈ i'.l->j ∈ i.l\/J.length<=j
 hb:i'.hb=i.hb
theorem H9.refl (i:RI) (J:Aa):H9 i i J J:=⟨Aa1 _,fun _ _ _=>rfl,fun _ h=>.inl h,rfl⟩
theorem H9.app (i:RI) (J τ:Aa):H9 i i J (J++τ):=⟨by simp,fun j a _=>AT a,fun _ h=>.inl h,rfl⟩
theorem H9.trans {a b c:Aa} {i k d:RI} (h:H9 i k a b) (g:H9 k d b c):H9 i d a c:=by
 refine ⟨Adt h.len g.len,fun j h1 e=>?_,fun j l=>?_,g.hb.trans h.hb⟩
 ·refine (g.same j (Acp h1 h.len) fun hm=>?_).trans (h.same j h1 e);rcases h.new j hm with f | f
  ·exact e f
  ·omega
 ·rcases g.new j l with h1 | h1
  ·exact h.new j h1
  ·exact .inr (Adt h.len h1)
theorem H9.set {q:Nat} (J:Aa) (c:Au) (h:q ∈ i.l):H9 i i J (J.set q c):=
 ⟨by simp,fun j b a=>Aar (fun e:q=j=>a (by rw[<- e]; exact h)),fun _ h=>.inl h,rfl⟩
def Fk (mm:Option (Value × Aa)) (J:Aa) (i:RI) (v:Value) (m':HM):Prop:=
 ∃ J' a t',mm=some (v,J')/\JM J' a t'/\Rv m' t'/\LN m'/\H9 i a J J'
theorem Fk.same (h:RG J i m t) (a:LN m) (τ:Aa) {v:Value} {mm:Option (Value × Aa)} (he:mm=some (v,J++τ)):Fk mm J i v m:=
 ⟨J++τ,i,t,he,h.at_.app τ,h.sim,a,H9.app i J τ⟩
theorem Fk.NR (h:RG J i m t) (a:LN m) {v:Value} {mm:Option (Value × Aa)} (he:mm=some (v,J)):Fk mm J i v m:=
 ⟨J,i,t,he,h.at_,h.sim,a,H9.refl i J⟩
theorem JM.kU {Z:Aa} {i:RI} {t:RM} (bl:Ct As 2 Z i.bs t.bl.length (CU t.bl)) (ob:Ct Ab 8 Z i.os t.ob.length (DT t.ob i.om)) (fw:aF Z i.fs t.fw) (ol:i.om.length=t.ob.length)
  (inn:∀ (x:Nat) (h:x<t.ob.length) (c:x<i.om.length),D2 Z i.om[x].1 t.ob[x].refs/\D2 Z i.om[x].2 t.ob[x].data) (sep:Sep i) (lt:∀ j ∈ i.l,j<Z.length):
  JM (Z.set i.hb (.cells [.slice i.bs.1 i.bs.2.1 i.bs.2.2,.slice i.os.1 i.os.2.1 i.os.2.2,.slice i.fs.1 i.fs.2.1 i.fs.2.2,qIi t.born] Dc true)) i t where
 hp:=Aa2 (lt _ i.LQ)
 bl:=bl.Ax fun a d=>JI (sep.hA) (BV.2 ⟨a,d,rfl⟩)
 ob:=ob.Ax fun a d=>JI (sep.hB) (BV.2 ⟨a,d,rfl⟩)
 fw:=fw.Ax fun a d=>JI (sep.hC) (BV.2 ⟨a,d,rfl⟩)
 ol:=ol
 inn:=fun x h c=>⟨(inn x h c).1.Ax fun b hb=>JI (sep.hD) (Ju c (.inl hb)),(inn x h c).2.Ax fun b hb=>JI (sep.hD) (Ju c (.inr hb))⟩
 nd:=sep.nd
 lt:=fun j e=>by rw[Adj]; exact lt j e
theorem JM.qB (h:JM J i t) {q:Nat} (e:i.bs.1=some ⟨q,0,none⟩) (k:List (Int × Int)) (n:k.length=t.bl.length):JM (J.set q (.cells (CU k) As true)) i { t with bl:=k }:=by
 have sep:=h.sep;have c:=Nz e;have g:=h.lt q (RI.JZ.2 (.inr (.inl c)));refine { hp:=?_,bl:=?_,ob:=?_,fw:=?_,ol:=h.ol,inn:=?_,nd:=h.nd,lt:=fun j m=>by rw[Adj]; exact h.lt j m }
 ·rw[Aar (fun l:q=i.hb=>sep.hA (by rw[<- l]; exact c))]; exact h.hp
 ·have:=h.bl.form;rw[e] at this;exact .inr ⟨q,by rw[this,n],Ado _,by rw[J6]; omega,Aa2 g⟩
 ·exact h.ob.Ax fun a f=>JI (sep.AB q c) (BV.2 ⟨a,f,rfl⟩)
 ·exact h.fw.Ax fun a f=>JI (sep.AC q c) (BV.2 ⟨a,f,rfl⟩)
 ·intro x h1 d;exact ⟨(h.inn x h1 d).1.Ax fun b hb=>JI (sep.AD q c) (Ju d (.inl hb)),(h.inn x h1 d).2.Ax fun b hb=>JI (sep.AD q c) (Ju d (.inr hb))⟩
theorem JM.stB (h:JM J i t) {b:Nat} (hb:b<t.bl.length) (x y:Int):∃ q,i.bs.1=some ⟨q,0,none⟩/\H5 J q (b*2) [qIi x,qIi y]=some (J.set q (.cells (CU (t.bl.set b (x,y))) As true)) /\
  JM (J.set q (.cells (CU (t.bl.set b (x,y))) As true)) i { t with bl:=t.bl.set b (x,y) }/\H9 i i J (J.set q (.cells (CU (t.bl.set b (x,y))) As true)):=by
 obtain ⟨q,e,c,d,a⟩:=Xv h.bl hb;refine ⟨q,e, ?_,h.qB e _ (by simp),H9.set _ _ (RI.JZ.2 (.inr (.inl (Nz e))))⟩;have:b*2+2<=(CU t.bl).length:=by rw[J6]; omega
 simp only[H5,a,Adl,Adx,IN,Nat.reduceAdd,this,Aat,UD _ _ _ _ hb]
theorem jW (l:List (Int × Int)) (b:Nat) (x:Int) (hb:b<l.length):(CU l).set (b*2) (qIi x)=CU (l.set b (x,(l.getD b (0,0)).2)):=by
 rw[UD _ _ _ _ hb];have h1:=(UC l b hb).2;rw[Agj] at h1;have hlen:=J6 l;apply Ad8;intro p;unfold Bb;by_cases hp:p=b*2
 ·subst hp;rw[Aa2 (by omega),Aaq,Acf (by simp; omega)];simp[Adn,Age (show b*2<=(CU l).length by omega)]
 ·rw[Aar (Adk hp),Aaq];by_cases a:p<b*2
  ·rw[AT (by simp; omega),List.getElem?_take_of_lt a]
  ·rw[Acf (by simp; omega),Adn,Age (show b*2<=(CU l).length by omega)];by_cases c:p=b*2+1
   ·subst c;rw[h1,show b*2+1-b*2=1 from by omega];rfl
   ·rw[Acf (by simp; omega),Ad0];congr 1;simp only[Adl,Adx];omega
theorem JM.wE (h:JM J i t) {b:Nat} (hb:b<t.bl.length) (x:Int):∃ q,i.bs.1=some ⟨q,0,none⟩/\AX.CY J q (b*2) (qIi x)=some (J.set q (.cells (CU (t.bl.set b (x,(t.bl.getD b (0,0)).2))) As true)) /\
  JM (J.set q (.cells (CU (t.bl.set b (x,(t.bl.getD b (0,0)).2))) As true)) i { t with bl:=t.bl.set b (x,(t.bl.getD b (0,0)).2) }/\H9 i i J (J.set q (.cells (CU (t.bl.set b (x,(t.bl.getD b (0,0)).2))) As true)):=by
 obtain ⟨q,e,c,d,a⟩:=Xv h.bl hb;refine ⟨q,e, ?_,h.qB e _ (by simp),H9.set _ _ (RI.JZ.2 (.inr (.inl (Nz e))))⟩;have:b*2<(CU t.bl).length:=by rw[J6]; omega
 simp only[AX.CY,a,this,Aat,jW _ _ _ hb]
theorem Zt (l:List (Int × Int)) (b c:Nat) (e:Int × Int):(l.set b e).getD c (0,0)=if c=b/\b<l.length then e else l.getD c (0,0):=by
 rw[Aax,Aed];by_cases h:b=c
 ·subst h;by_cases a:b<l.length
  ·simp[a]
  ·simp[a]
 ·rw[Aaz h,Aaz (fun d=>h d.1.symm),Aax]
theorem iB (b:Nat) (e:Int × Int):∀ (n x:Nat) (l:List (Int × Int)) (c:Nat),b+x+n<=l.length->(VZ l b e n x).getD c (0,0)=if b+x<=c/\c<b+x+n then e else l.getD c (0,0)
 | 0,x,l,c,h=>by rw[VZ,Aaz (by omega)]
 | n+1,x,l,c,h=>by
   rw[VZ,iB b e n (x+1) _ c (by rw[Adj]; omega),Zt];by_cases h1:b+(x+1)<=c/\c<b+(x+1)+n
   ·rw[Aay h1,Aay (show b+x<=c/\c<b+x+(n+1) by omega)]
   ·rw[Aaz h1];by_cases a:c=b+x
    ·rw[Aay ⟨a,by omega⟩,Aay (show b+x<=c/\c<b+x+(n+1) by omega)]
    ·rw[Aaz (show ¬ (c=b+x/\b+x<l.length) from fun d=>a d.1),Aaz (show ¬ (b+x<=c/\c<b+x+(n+1)) by omega)]
def FZ (m:HM):Prop:=∀ c,(m.bls.getD c (0,0)).1=0->(m.bls.getD c (0,0)).2=0
theorem UR {l:List (Int × Int)} {b:Nat} (d:∀ c,(l.getD c (0,0)).1=0->(l.getD c (0,0)).2=0):∀ (n x:Nat),KO l b n x=none ↔ ∀ c,x<=c->c<x+n->(l.getD (b+c) (0,0)).1=0
 | 0,x=>by simp[KO]; intro c h1 a; omega
 | n+1,x=>by
   rw[KO];by_cases h:(l.getD (b+x) (0,0)).1=0
   ·rw[Aay ⟨h,d _ h⟩,UR d n (x+1)];constructor
    ·intro g c h1 a;by_cases e:c=x
     ·rw[e]; exact h
     ·exact g c (by omega) (by omega)
    ·intro g c h1 a;exact g c (by omega) (by omega)
   ·rw[Aaz (fun f=>h f.1)];constructor
    ·intro g; cases g
    ·intro g; exact absurd (g x (Aa1 _) (by omega)) h
end
section
local instance qRX:AJ:=Ao
variable {J:Aa} {m:HM} {t:RM} {i:RI}
theorem gN (k:Nat) (h:RG J i m t) (b:Int):Fh (k+1) (Bj i) b J=some (.bool (decide (1<=b/\b<(m.bls.length:Int))),J):=by
 rw[SX];by_cases h0:1<=b
 ·rw[Aak (show b>=1 from h0)];simp only[IS,AI,IN,Aa0,h.at_.H7,h.bn,h0,true_and]
 ·rw[Aaj (show ¬ b>=1 from h0),Aaj (fun a=>h0 a.1)];simp only[By,AI]
theorem gP (k:Nat) (y:Int) (J:Aa):IL (k+1) y J=some (.bool (ZX y),J):=by
 rw[Yg];unfold ZX;by_cases h0:0<=y <;> simp[h0]
theorem sT (k:Nat) (h:RG J i m t) (j:LN m) (v:FZ m) (b s:Int):Fk (Gw (k+2) (Bj i) b s J) J i (qIi (BF m b 1 1 s 0 0).1) (BF m b 1 1 s 0 0).2:=by
 have u:=h.nt;rw[SO];simp only[LJ k h,gN k h b,gP k s,AI,An,Aa4,By];unfold BF;by_cases d:1<=b/\b<(m.bls.length:Int);rotate_left
 ·rw[Aaz (fun a=>d ⟨a.1,a.2.1⟩),Aaj d];exact Fk.NR h j (by simp only[Adi,IS,AI])
 rw[Aak d];simp only[Aa4,By,AI];cases hs:ZX s with
 | false=>
   rw[Aaz (fun a=>by have:=a.2.2.2.2; cases this)];exact Fk.NR h j (by simp only[Adi,IS])
 | true=>
   rw[Aay ⟨d.1,d.2,by omega,by omega,rfl⟩];obtain ⟨n,rfl⟩:∃ n:Nat,b=(n:Int):=⟨b.toNat,by omega⟩;have o:n<m.bls.length:=by omega
   obtain ⟨q,e,x,C,B⟩:=X3 h o;have z:=qSu n m.bls.length (by omega);simp only[Aa4,By,IN,Aa0,h.at_.H7,h.bn,AI,z,Aat,e,IT,x,show (1:Int).toNat=1 from rfl];have hu:KO m.bls n 1 0=none↔(m.bls.getD n (0,0)).1=0:=by
    rw[UR v];constructor
    ·intro g; exact g 0 (Aa1 _) (by omega)
    ·intro g c h1 A;rw[show c=0 from by omega]; exact g
   by_cases f:(m.bls.getD n (0,0)).1=0
   ·rw[Aay (hu.2 f)];simp only[f,Abx,By];obtain ⟨y,l,p,r,w⟩:=h.at_.stB (b:=n) (by rw[h.bn]; exact o) 1 s;have:y=q:=by rw[e] at l; cases l; rfl
    subst this;refine ⟨_,i,_,by simp only[p,AI],r, ?_, ?_,w⟩
    ·rw[h.sim.bl];have:(VZ m.bls n (0,0) 1 0).set n (1,s)=m.bls.set n (1,s):=by
      show (m.bls.set (n+0) (0,0)).set n (1,s)=_;rw[Aa0,List.set_set]
     rw[this];exact h.sim.blocks _ (by simp)
    ·exact j.blocks _ (by rw[Adj,J8])
   ·rw[Aaz (fun a=>f (hu.1 a))];simp only[Adz.2 f,IS];exact Fk.NR h j rfl
theorem VI (k:Nat) (h:RG J i m t) (o:FZ m) {b c:Nat} (a:b+c<=m.bls.length):∀ (n x f:Nat),x+n=c->n<f->Cu k f (Bj i) (b:Int) (c:Int) ((b+x:Nat):Int) J=some (match KO m.bls b n x with | none=>(.exit 0,[],J) | some _=>(.ret,[qIi 8],J))
 | 0,x,0,l,d=>by omega
 | 0,x,f+1,l,d=>by
   have j:=h.nt;rw[J1];have w:Ar ((b:Int)+(c:Int))=((b+c:Nat):Int):=Ai (by unfold AQ; omega);simp only[w,Aaj (show ¬ ((b+x:Nat):Int)<((b+c:Nat):Int) by omega),By,KO]
 | n+1,x,0,l,d=>by omega
 | n+1,x,f+1,l,d=>by
   have j:=h.nt;rw[J1,KO];have w:Ar ((b:Int)+(c:Int))=((b+c:Nat):Int):=Ai (by unfold AQ; omega);have u:Ar (((b+x:Nat):Int)+1)=((b+(x+1):Nat):Int):=Ai (by unfold AQ; omega);obtain ⟨q,e,r,y,v⟩:=X3 h (b:=b+x) (by omega);have s:(0<=((b+x:Nat):Int)/\((b+x:Nat):Int)<((m.bls.length:Nat):Int))=True:=Adu (by omega);simp only[w,Aak (show ((b+x:Nat):Int)<((b+c:Nat):Int) by omega),IS,IN,Aa0,h.at_.H7,h.bn,AI,s,Aat,e,IT,r];by_cases g:(m.bls.getD (b+x) (0,0)).1=0
   ·rw[Aay ⟨g,o _ g⟩];simp only[g,Abx,By,u];exact VI k h o a n (x+1) f (by omega) (by omega)
   ·rw[Aaz (fun p=>g p.1)];simp only[Adz.2 g,IS]
theorem VJ (k:Nat) {b c:Nat} (s:Int):∀ (n x f:Nat) (J:Aa) (t:RM),JM J i t->t.bl.length<=64->b+c<=t.bl.length->x+n=c->n<f ->
  ∃ J',Cv k f (Bj i) (b:Int) (c:Int) s ((b+x:Nat):Int) J=some (.exit 2,[],J')/\JM J' i { t with bl:=VZ t.bl b (3,s) n x }/\H9 i i J J'
 | 0,x,0,J,t,h,a,hb,g,d=>by omega
 | 0,x,f+1,J,t,h,a,hb,g,d=>by
   rw[J3];have w:Ar ((b:Int)+(c:Int))=((b+c:Nat):Int):=Ai (by unfold AQ; omega);exact ⟨J,by simp only[w,Aaj (show ¬ ((b+x:Nat):Int)<((b+c:Nat):Int) by omega),By],h,H9.refl _ _⟩
 | n+1,x,0,J,t,h,a,hb,g,d=>by omega
 | n+1,x,f+1,J,t,h,a,hb,g,d=>by
   have w:Ar ((b:Int)+(c:Int))=((b+c:Nat):Int):=Ai (by unfold AQ; omega);have v:Ar (((b+x:Nat):Int)+1)=((b+(x+1):Nat):Int):=Ai (by unfold AQ; omega);obtain ⟨q,e,j,m,p⟩:=h.stB (b:=b+x) (by omega) 3 s;obtain ⟨J',l,o,r⟩:=VJ k s n (x+1) f _ _ m (by show (t.bl.set _ _).length<=64; rw[Adj]; exact a) (by show _<=(t.bl.set _ _).length; rw[Adj]; exact hb) (by omega) (by omega);refine ⟨J', ?_,o,p.trans r⟩;rw[J3];have u:(0<=((b+x:Nat):Int)/\((b+x:Nat):Int)<((t.bl.length:Nat):Int))=True:=Adu (by omega);simp only[w,Aak (show ((b+x:Nat):Int)<((b+c:Nat):Int) by omega),IS,IN,Aa0,h.H7,AI,u,Aat,e,IT,j,v];exact l
theorem da (k:Nat) (H:100<=k) (h:RG J i m t) (e:LN m) (C:FZ m) (b c s:Int) (hb:AQ b) (G:AQ c):Fk (DY (k+2) (Bj i) b c s J) J i (qIi (BF m b c 2 s 3 s).1) (BF m b c 2 s 3 s).2:=by
 have p:=h.nt;have d:=h.bn;rw[OU];simp only[LJ k h,gN k h b,gP k s,AI,An,Aa4,By];unfold BF;by_cases g:1<=b/\b<(m.bls.length:Int);rotate_left
 ·rw[Aaz (fun a=>g ⟨a.1,a.2.1⟩),Aaj g];exact Fk.NR h e (by simp only[Adi,IS,AI])
 obtain ⟨n,rfl⟩:∃ n:Nat,b=(n:Int):=⟨b.toNat,by omega⟩;have I:n<m.bls.length:=by omega
 have wd:Ar (((m.bls.length:Nat):Int)-(n:Int))=((m.bls.length-n:Nat):Int):=by rw[Ai (by unfold AQ; omega)]; omega
 rw[Aak g];simp only[Aa4,By,AI];by_cases u:c<1
 ·rw[Aaz (fun a=>by have:=a.2.2.1; omega)];exact Fk.NR h e (by simp only[Aak u,IS,AI])
 simp only[Aaj u,By,AI,IN,Aa0,h.at_.H7,h.bn,wd];by_cases v:c>((m.bls.length-n:Nat):Int)
 ·rw[Aaz (fun a=>by have:=a.2.2.2.1; omega)];exact Fk.NR h e (by simp only[Aak v,IS,AI])
 simp only[Aaj v,By,AI];cases hs:ZX s with
 | false=>
   rw[Aaz (fun a=>by have:=a.2.2.2.2; cases this)];exact Fk.NR h e (by simp only[Adi,IS])
 | true=>
   rw[Aay ⟨g.1,g.2,by omega,by omega,rfl⟩];obtain ⟨w,rfl⟩:∃ w:Nat,c=(w:Int):=⟨c.toNat,by omega⟩;have hw:n+w<=m.bls.length:=by omega
   have x:Cu (k+1) (k+1) (Bj i) (n:Int) (w:Int) (n:Int) J=_:=VI (k+1) h C hw w 0 (k+1) (by omega) (by omega);simp only[Aa4,By,x,AI,IT];cases F:KO m.bls n w 0 with
   | none=>
     simp only[Aat];obtain ⟨J1_,y,h1,D⟩:=VJ (i:=i) (k+1) (b:=n) (c:=w) s w 0 (k+1) J t h.at_ (by rw[d]; exact p) (by rw[d]; exact hw) (by omega) (by omega);have l:Cv (k+1) (k+1) (Bj i) (n:Int) (w:Int) s (n:Int) J=_:=y;have o:(VZ t.bl n (3,s) w 0).length=m.bls.length:=by rw[J8,d]
     obtain ⟨q,r,z,A,K⟩:=h1.wE (b:=n) (by show n<(VZ t.bl n (3,s) w 0).length; omega) 2;have B:((VZ t.bl n (3,s) w 0).getD n (0,0)).2=s:=by
      rw[iB n (3,s) w 0 t.bl n (by omega),Aay (by omega)]
     have f:AX.CY J1_ q (n*2) (qIi 2)=some (J1_.set q (.cells (CU ((VZ t.bl n (3,s) w 0).set n (2,((VZ t.bl n (3,s) w 0).getD n (0,0)).2))) As true)):=z;have j:JM (J1_.set q (.cells (CU ((VZ t.bl n (3,s) w 0).set n (2,((VZ t.bl n (3,s) w 0).getD n (0,0)).2))) As true)) i { t with bl:=(VZ t.bl n (3,s) w 0).set n (2,((VZ t.bl n (3,s) w 0).getD n (0,0)).2) }:=A;have ld:Be J1_ i.hb 0=some (i.bs.1,(VZ t.bl n (3,s) w 0).length,(VZ t.bl n (3,s) w 0).length):=h1.H7;rw[B] at f j;have E:=qSu n m.bls.length (by omega);refine ⟨J1_.set q (.cells (CU ((VZ t.bl n (3,s) w 0).set n (2,s))) As true),i,{ t with bl:=(VZ m.bls n (3,s) w 0).set n (2,s) }, ?_, ?_, ?_, ?_⟩
     ·simp only[Aat,l,AI,ld,o,E,Aat,r,IT,IN,f]
     ·rw[<- h.sim.bl]; exact j
     ·exact h.sim.blocks _ (by rw[Adj,J8])
     ·exact ⟨e.blocks _ (by rw[Adj,J8]),D.trans (H9.set _ _ (RI.JZ.2 (.inr (.inl (Nz r)))))⟩
   | some L=>
     simp only[reduceCtorEq,Aa5,Aat,Em];exact Fk.NR h e rfl
end
section
local instance qRY:AJ:=Ao
variable {J:Aa} {m:HM} {t:RM} {i:RI}
theorem Q8 {ρ:Type} {x:Option Value} {d top v:Nat} (h:x=some (qIi (v:Int))\/(x=none/\d=v)) (a:v<=top) (K:Nat->Option ρ):bound x d top K=K v:=by
 rcases h with rfl | ⟨rfl,rfl⟩
 ·show (if 0<=(v:Int)/\(v:Int)<=(top:Int) then K (v:Int).toNat else none)=K v;rw[Aay (by omega),IT]
 ·rfl
theorem WG {E:TypeId} {s:Nat} {g:Bx} {f:Nat} {a:List Value} (h0:Ct E s J g f a) (lo hi:Nat) (k:lo<=hi) (p:hi<=f) (L H:Option Value) (m:L=some (qIi (lo:Int))\/(L=none/\0=lo)) (l:H=some (qIi (hi:Int))\/(H=none/\f=hi)):
  ∃ src c,Gj E s (g.1,f,f) L H none J=some (src,hi-lo,c)/\Da J s src (hi-lo)=some ((a.drop (lo*s)).take ((hi-lo)*s)):=by
 unfold Gj;simp only[Aew,Adi,Ag4,IS];rw[Q8 (v:=f) (.inr ⟨rfl,rfl⟩) (Aa1 _),Q8 l p,Q8 m k];rcases h0 with ⟨rfl,rfl,rfl⟩ | ⟨b,rfl,_,q,d⟩
 ·have i:hi=0:=by omega
  have j:lo=0:=by omega
  subst i; subst j;exact ⟨none,0,by simp,by simp[Da]⟩
 ·have i:elemAt J b=some E:=by simp only[elemAt,d]
  have ld:∀ o n,o+n<=a.length->Nm J b o n=some ((a.drop o).take n):=fun o n h=>by simp only[Nm,d]; rw[Aay h]
  by_cases e:f=lo
  ·have j:hi-lo=0:=by omega
   refine ⟨some ⟨b,0,none⟩,0, ?_, ?_⟩
   ·rw[Aay e,j];simp only[By,i,Aat]
   ·rw[j,Ad6];simp only[Da,Ad6];rw[ld 0 0 (by omega)]; rfl
  ·refine ⟨some ⟨b,0+lo*s,none⟩,f-lo, ?_, ?_⟩
   ·rw[Aaz e];simp only[AI,i,Aat]
   ·simp only[Da,IN];refine ld _ _ ?_;rw[q,<- Af6];exact Aer _ (by omega)
theorem yh {b o:Nat} {cs:List Value} {T:TypeId} (h:J[b]?=some (.cells cs T true)) (a:o<=cs.length):H5 J b o []=some J:=by
 simp only[H5,h,Adx,Aa0,a,Aat,Bb,Ab1,Afd];rw[U7 h]
theorem jT {E:TypeId} {s by_:Nat} {z:Value} (hs:HV P E=some s) (hb:bytesOf P E=some by_) (i:FV P E=some z) (f:Gq z=false) (g:z.cells.size=s) (d:0<s)
  (J:Aa) (sl:Bx) (n:Nat) (row:List Value) (src:qOi) (c:Nat) (e:Ct E s J sl n row) (h:Da J s src 0=some []):
  AH P E sl (src,0,c) J=some (sl,J):=by
 unfold AH LH;simp only[hs,hb,i,AI,h];have h1:(¬ (Gq z=false/\some s=some z.cells.size/\0<z.cells.size))=False:=by
  rw[f,g]; simp[d]
 simp only[h1,Aa5];rcases e with ⟨rfl,rfl,rfl⟩ | ⟨b,rfl,hp,j,a⟩
 ·simp only[Aa0,Aa1,Aat,HU,IS,qJ]
 ·simp only[Aa0,Aa1,Aat,HU,Aew,By,AI,IN];rw[yh a (by omega)];simp only[AI,qJ]
theorem PG {E:TypeId} {s by_:Nat} {z:Value} (hs:HV P E=some s) (hb:bytesOf P E=some by_) (w:FV P E=some z) (m:Gq z=false) (o:z.cells.size=s) (l:0<s) (t:0<by_) (u:by_<=1000)
  (J τ:Aa) (sl:Bx) (n:Nat) (row:List Value) (f:Ct E s (J++τ) sl n row) (k:∀ a,sl.1=some a->J.length<=a.block) {p:Bx} {j:Nat} {d:List Value} (h0:Ct E s (J++τ) p j d) (lo hi:Nat) (v:lo<=hi) (C:hi<=j) (G:n+j<=1000000)
  (L H:Option Value) (B:L=some (qIi (lo:Int))\/(L=none/\0=lo)) (A:H=some (qIi (hi:Int))\/(H=none/\j=hi)):
  ∃ src,Gj E s (p.1,j,j) L H none (J++τ)=some src /\ ∃ s' q,AH P E sl (src.1,src.2.1,src.2.2) (J++τ)=some (s',J++q)/\Ct E s (J++q) s' (n+(hi-lo)) (row++(d.drop (lo*s)).take ((hi-lo)*s))/\(∀ a,s'.1=some a->J.length<=a.block):=by
 obtain ⟨src,c,x,r⟩:=WG h0 lo hi v C L H B A;refine ⟨_,x, ?_⟩;have hlen:((d.drop (lo*s)).take ((hi-lo)*s)).length=(hi-lo)*s:=by
  have F:d.length=j*s:=by
   rcases h0 with ⟨rfl,rfl,rfl⟩ | ⟨b,rfl,_,D,_⟩
   ·simp
   ·exact D
  rw[Adn,Adp,F,<- Nat.sub_mul];exact Age (Aer _ (by omega))
 by_cases i:hi-lo=0
 ·rw[i,Ad6,Agu] at r;refine ⟨sl,τ, ?_, ?_,k⟩
  ·simp only[i];exact jT hs hb w m o l _ sl n row src c f r
  ·rw[i,Ad6,Agu,Ab1]; exact f
 ·obtain ⟨s',J',e,g,h⟩:=VX hs hb w m o l t u (J++τ) sl n row src (hi-lo) c _ (by omega) (by omega) hlen f r;obtain ⟨⟨q,rfl⟩,y⟩:=g.behind k;exact ⟨s',q,e,h,y⟩
theorem szO:HV P Ab=some 8:=by kernel_rfl
theorem byO:bytesOf P Ab=some 96:=by kernel_rfl
theorem zzO:FV P Ab=some (.agg #[qIi 0,qIi 0,qIi 0,qIi 0,qIi 0,.slice none 0 0,.slice none 0 0,.bool false]):=by kernel_rfl
theorem QZ:∀ (l b:List RO) (om a:List (Bx × Bx)),om.length=l.length->DT (l++b) (om++a)=DT l om++DT b a
 | [],b,[],a,h=>rfl
 | [],b,p::om,a,h=>by simp at h
 | o::l,b,[],a,h=>by simp at h
 | o::l,b,p::om,a,h=>by
   simp only[Agw,DT,QZ l b om a (by simpa using h),Aaq]
theorem PV (l:List RO) (om:List (Bx × Bx)) (h:om.length=l.length) (a:Nat) (c:a<=l.length):(DT l om).take (a*8)=DT (l.take a) (om.take a)/\(DT l om).drop (a*8)=DT (l.drop a) (om.drop a):=by
 have e:DT l om=DT (l.take a) (om.take a)++DT (l.drop a) (om.drop a):=by
  rw[<- QZ _ _ _ _ (by simp; omega),Afd,Afd]
 have b:(DT (l.take a) (om.take a)).length=a*8:=by rw[O8 _ _ (by simp; omega),Adn,Age c]
 rw[e];constructor
 ·rw[<- b,List.take_left]
 ·rw[<- b,List.drop_left]
theorem Sd (a b:List (Bx × Bx)):Rr (a++b)=Rr a++Rr b:=by unfold Rr; rw[Ahm]
theorem Xt (p:Bx × Bx) (b:List (Bx × Bx)):Rr (p::b)=(hs p.1++hs p.2)++Rr b:=rfl
theorem OA (om:List (Bx × Bx)) (x:Nat):Rr om=Rr (om.take x)++Rr (om.drop x):=by rw[<- Sd,Afd]
theorem gx {lo:Nat} {s:Bx} (h:∀ a,s.1=some a->lo<=a.block) {j:Nat} (c:j ∈ hs s):lo<=j:=by
 obtain ⟨a,b,rfl⟩:=BV.1 c;exact h a b
theorem xZ (k:Nat) (h:JM J i t) (L:t.ob.length<=5000) {x:Nat} (F:x<t.ob.length):∃ J' p,Ji (k+1) (Bj i) (x:Int) J=some (.tuple #[],J')/\JM J' { i with os:=p,om:=i.om.eraseIdx x } { t with ob:=t.ob.eraseIdx x }/\H9 i { i with os:=p,om:=i.om.eraseIdx x } J J'/\(∀ a,p.1=some a->J.length<=a.block)/\(∀ j,j<J.length->j≠i.hb->J'[j]?=J[j]?):=by
 have sep:=h.sep;have o:=h.ol;have h0:Ct Ab 8 (J++[]) i.os t.ob.length (DT t.ob i.om):=by rw[Ab1]; exact h.ob
 obtain ⟨P,I,s1,S,G,v,U⟩:=PG szO byO zzO rfl rfl (by decide) (by decide) (by decide) J [] (none,0,0) 0 [] (Ct.nil _ _ _) (by intro a d; cases d) h0 0 x (by omega) (by omega) (by omega) none (some (qIi (x:Int))) (.inr ⟨rfl,rfl⟩) (.inl rfl);rw[Ad6,Adf,Ahn,Ae5,IN,(PV t.ob i.om o x (by omega)).1] at v;rw[Ab1] at I G;have K:=h.app S;obtain ⟨Q,V,s2,q,T,n,H⟩:=PG szO byO zzO rfl rfl (by decide) (by decide) (by decide) J S s1 x _ v U K.ob (x+1) t.ob.length (by omega) (Aa1 _) (by omega) (some (qIi ((x+1:Nat):Int))) none (.inl rfl) (.inr ⟨rfl,rfl⟩);rw[(PV t.ob i.om o (x+1) (by omega)).2,Ady (l:=DT (t.ob.drop (x+1)) (i.om.drop (x+1))) (by rw[O8 _ _ (by simp; omega),Adp]; exact Aa1 _),<- QZ _ _ _ _ (by simp; omega)] at n;rw[<- Afq,<- Afq,show x+(t.ob.length-(x+1))=(t.ob.eraseIdx x).length from by rw[Agb F]; omega] at n;have g:=h.app q;have c:∀ j ∈ Rr (i.om.eraseIdx x),j ∈ Rr i.om:=by
  intro j b;rw[Afq,Sd] at b;rw[OA i.om x,Ac2 (by omega),Xt];rcases Aas.1 b with b | b
  ·exact Aas.2 (.inl b)
  ·exact Aas.2 (.inr (Aas.2 (.inr b)))
 have C:(Rr (i.om.eraseIdx x)).Nodup:=by
  have:=sep.D;rw[OA i.om x,Ac2 (by omega),Xt] at this;rw[Afq,Sd];exact this.sublist (List.Sublist.append (List.Sublist.refl _) (List.sublist_append_right _ _))
 have B:=h.lt;have m:∀ {j},j ∈ i.l->j<J.length:=fun b=>B _ b;have hB:∀ j ∈ hs s2,J.length<=j:=fun j b=>gx H b;have M:∀ j ∈ hs i.bs,j<J.length:=fun j b=>m (RI.JZ.2 (.inr (.inl b)));have N:∀ j ∈ hs i.fs,j<J.length:=fun j b=>m (RI.JZ.2 (.inr (.inr (.inr (.inl b)))));have O:∀ j ∈ Rr i.om,j<J.length:=fun j b=>m (RI.JZ.2 (.inr (.inr (.inr (.inr b)))));have Y:=m i.LQ;have u:Sep { i with os:=s2,om:=i.om.eraseIdx x }:=
  { hA:=sep.hA,hB:=fun f=>Aha.2 (hB _ f) Y,hC:=sep.hC,hD:=fun f=>sep.hD (c _ f),
    AB:=fun a d f=>by have:=hB _ f; have:=M _ d; omega,AC:=sep.AC,AD:=fun a d f=>sep.AD a d (c _ f),
    BC:=fun a d f=>by have:=hB _ d; have:=N _ f; omega,BD:=fun a d f=>by have:=hB _ d; have:=O _ (c _ f); omega,CD:=fun a d f=>sep.CD a d (c _ f),D:=C };have s:∀ j ∈ RI.l { i with os:=s2,om:=i.om.eraseIdx x },j<(J++q).length:=by
  intro j b;rcases RI.JZ.1 b with b | b | b | b | b
  ·have A:j=i.hb:=b;rw[A,Aaw]; omega
  ·have:=M _ b; simp; omega
  ·obtain ⟨a,d,rfl⟩:=BV.1 b; exact n.lt a d
  ·have:=N _ b; simp; omega
  ·have:=O _ (c _ b); simp; omega
 have r:∀ (y:Nat) (h1:y<(t.ob.eraseIdx x).length) (W:y<(i.om.eraseIdx x).length),D2 (J++q) (i.om.eraseIdx x)[y].1 (t.ob.eraseIdx x)[y].refs/\D2 (J++q) (i.om.eraseIdx x)[y].2 (t.ob.eraseIdx x)[y].data:=by
  intro y h1 W;rw[List.getElem_eraseIdx,List.getElem_eraseIdx];split
  ·exact g.inn y (by omega) (by omega)
  ·have Z:=Agb F;exact g.inn (y+1) (by omega) (by omega)
 have X:=JM.kU (i:={ i with os:=s2,om:=i.om.eraseIdx x }) (t:={ t with ob:=t.ob.eraseIdx x }) g.bl n g.fw (by show (i.om.eraseIdx x).length=(t.ob.eraseIdx x).length; rw[Agb F,Agb (by omega),o]) r u s;refine ⟨_,s2, ?_,X,⟨by simp,fun j b L=>?_,fun j b=>?_,rfl⟩,H,fun j b E=>?_⟩
 ·rw[Vi];have w:=wSu x (by omega);have z:AX.CY (J++q) i.hb 1 (.slice s2.1 s2.2.1 s2.2.2)=some ((J++q).set i.hb (.cells [.slice i.bs.1 i.bs.2.1 i.bs.2.2,.slice s2.1 s2.2.1 s2.2.2,.slice i.fs.1 i.fs.2.1 i.fs.2.2,qIi t.born] Dc true)):=by
   simp[AX.CY,g.hp]
  simp only[AI,IN,h.Fa,I,G,K.Fa,w,V,T,z]
 ·have:i.hb≠j:=fun e=>L (by rw[<- e]; exact i.LQ);rw[Aar this,AT b]
 ·rcases RI.JZ.1 b with b | b | b | b | b
  ·exact .inl (by rw[b]; exact i.LQ)
  ·exact .inl (RI.JZ.2 (.inr (.inl b)))
  ·exact .inr (hB _ b)
  ·exact .inl (RI.JZ.2 (.inr (.inr (.inr (.inl b)))))
  ·exact .inl (RI.JZ.2 (.inr (.inr (.inr (.inr (c _ b))))))
 ·rw[Aar (Adk E),AT b]
theorem du (k:Nat) (h:JM J i t) (m:t.ob.length<=5000) {q:Nat} {a:Int} (l:Aj .i64 J q 0=some a):∀ (n x f:Nat),x+n=t.ob.length->n<f->EE k f (Bj i) q (x:Int) J=some (.exit 0,[qIi ((x+Sg (t.ob.drop x) a:Nat):Int)],J)
 | 0,x,0,j,d=>by omega
 | 0,x,f+1,j,d=>by
   rw[ME,Ade (by omega)];simp only[AI,IN,h.Fa,dFu x t.ob.length (by omega),By,Sg,Aa0]
 | n+1,x,0,j,d=>by omega
 | n+1,x,f+1,j,d=>by
   have c:x<t.ob.length:=by omega
   obtain ⟨b,e,r,L⟩:=h.obj c;have L:=L (by rw[h.ol]; exact c);have o:=qSu x t.ob.length (by omega);have p:=wSu x (by omega);rw[ME,Ac2 c,Sg];simp only[AI,IN,Aa0,h.Fa,dTu x t.ob.length (by omega),IS,o,Aat,e,IT,L.l0,l];by_cases g:t.ob[x].addr<a
   ·rw[Aak g,Aay g];simp only[IS,p];rw[du k h m l n (x+1) f (by omega) (by omega),show x+1+Sg (t.ob.drop (x+1)) a=x+(Sg (t.ob.drop (x+1)) a+1) from by omega]
   ·rw[Aaj g,Aaz g];simp only[By,Aa0]
theorem Zu {α:Type} (l:List α) (n:Nat) (f:n<=l.length) (a:α) (y:Nat) (e:y<(l.take n++a::l.drop n).length):(l.take n++a::l.drop n)[y]=if h:y<n then l[y] else if b:y=n then a else l[y-1]'(by simp at e; omega):=by
 have c:(l.take n).length=n:=by rw[Adn]; omega
 split
 ·rename_i h;rw[Afw (by omega),Aes]
 ·split
  ·rename_i h b;subst b;rw[Ae8 (by omega)];simp only[c,Afl,Af5]
  ·rename_i h b;obtain ⟨d,rfl⟩:∃ d,y=n+1+d:=⟨y-n-1,by omega⟩;rw[Ae8 (by omega)];simp only[c,show n+1+d-n=d+1 from by omega,Agk,Ae3];congr 1;omega
theorem yb (k:Nat) (hk:5000<=k) (h:JM J i t) (hn:t.ob.length<=4900) (o:RO) (p:Bx × Bx) (af:D2 J p.1 o.refs) (ag:D2 J p.2 o.data) (F:∀ j,j ∈ hs p.1\/j ∈ hs p.2->j<J.length/\j ∉ i.l) (ah:(hs p.1++hs p.2).Nodup):
  ∃ J' G,H2 (k+1) (Bj i) o.addr o.id o.r o.d o.k p.1 p.2 o.W2 J=some (.tuple #[],J')/\JM J' { i with os:=G,om:=i.om.take (Sg t.ob o.addr)++p::i.om.drop (Sg t.ob o.addr) } { t with ob:=Uw t.ob o } /\
   (∀ j,j<J.length->j≠i.hb->J'[j]?=J[j]?)/\J.length<=J'.length/\(∀ a,G.1=some a->J.length<=a.block)/\(∀ j,j ∈ RI.l { i with os:=G,om:=i.om.take (Sg t.ob o.addr)++p::i.om.drop (Sg t.ob o.addr) }->j ∈ i.l\/j ∈ hs p.1\/j ∈ hs p.2\/J.length<=j):=by
 have sep:=h.sep;have T:=h.ol;obtain ⟨n,Y⟩:∃ n,Sg t.ob o.addr=n:=⟨_,rfl⟩;have w:n<=t.ob.length:=by rw[<- Y]; exact qq _ _
 obtain ⟨B,hB⟩:∃ B,Au.cells (Bw o p) Ab true=B:=⟨_,rfl⟩;have hb:=h.app [B];have K:∀ (τ:Aa) (x:Nat),Aj .i64 (J++([B]++τ)) J.length x=((Bw o p)[x]?).bind (Bk .i64):=fun τ x=>by rw[<- hB]; simp[Aj,CW]
 have U:∀ (τ:Aa) (x:Nat),Be (J++([B]++τ)) J.length x=((Bw o p)[x]?).bind Eo:=fun τ x=>by rw[<- hB]; simp[Be,CW]
 have ai:∀ (τ:Aa) (x:Nat),Vy (J++([B]++τ)) J.length x=((Bw o p)[x]?).bind Dl:=fun τ x=>by rw[<- hB]; simp[Vy,CW]
 have e0:=du k hb (by show t.ob.length<=5000; omega) (q:=J.length) (a:=o.addr) (by have:=K [] 0; rw[Ab1] at this; rw[this]; rfl) t.ob.length 0 k (by omega) (by omega);rw[Adf,IN,Y] at e0;have aa:EE k k (Bj i) J.length 0 (J++[B])=_:=e0;obtain ⟨ak,e1,s1,τ1,a1,W,b1⟩:=PG szO byO zzO rfl rfl (by decide) (by decide) (by decide) (J++[B]) [] (none,0,0) 0 [] (Ct.nil _ _ _) (by intro a d; cases d) (by rw[Ab1]; exact hb.ob) 0 n (by omega) w (by omega) none (some (qIi (n:Int))) (.inr ⟨rfl,rfl⟩) (.inl rfl);rw[Ad6,Adf,Ahn,Ae5,IN,(PV t.ob i.om T n w).1] at W;rw[Ab1] at e1 a1;obtain ⟨s2,τ2,a2,aj,b2⟩:=Qa szO byO zzO rfl rfl (by decide) (by decide) (by decide) (J++[B]) τ1 s1 n _ 1 1 (Bw o p) Ab (by omega) (by decide) rfl W b1;have L:AH P Ab (s1.1,s1.2.1,s1.2.2) (some ⟨(J++[B]++τ1).length,0,none⟩,1,1) (J++[B]++τ1++[Au.cells [qIi o.addr,qIi o.id,qIi o.r,qIi o.d,qIi o.k,.slice p.1.1 p.1.2.1 p.1.2.2,.slice p.2.1 p.2.2.1 p.2.2.2,.bool o.W2] Ab true])=some (s2,J++[B]++τ2):=a2;have O:=hb.app τ2;obtain ⟨am,e3,z,I,a3,C,b3⟩:=PG szO byO zzO rfl rfl (by decide) (by decide) (by decide) (J++[B]) τ2 s2 (n+1) _ aj b2 O.ob n t.ob.length w (Aa1 _) (by omega) (some (qIi (n:Int))) none (.inl rfl) (.inr ⟨rfl,rfl⟩);rw[(PV t.ob i.om T n w).2,Ady (l:=DT (t.ob.drop n) (i.om.drop n)) (by rw[O8 _ _ (by simp; omega),Adp]; exact Aa1 _),Aaq (DT (t.ob.take n) (i.om.take n)) (Bw o p),show Bw o p++DT (t.ob.drop n) (i.om.drop n)=DT (o::t.ob.drop n) (p::i.om.drop n) from rfl,<- QZ _ _ _ _ (by simp; omega)] at C;have v:Uw t.ob o=t.ob.take n++o::t.ob.drop n:=by unfold Uw; rw[Y]
 have hlen:(Uw t.ob o).length=n+1+(t.ob.length-n):=by rw[v]; simp; omega
 rw[<- v,<- hlen,Aaq] at C;have u:=h.app ([B]++I);have ac:=h.lt;have A:∀ {j},j ∈ i.l->j<J.length:=fun c=>ac _ c;have r:∀ j ∈ hs z,J.length<=j:=fun j c=>by have:=gx b3 c; simp at this; omega
 have mA:∀ j ∈ hs i.bs,j<J.length:=fun j c=>A (RI.JZ.2 (.inr (.inl c)));have mC:∀ j ∈ hs i.fs,j<J.length:=fun j c=>A (RI.JZ.2 (.inr (.inr (.inr (.inl c)))));have mD:∀ j ∈ Rr i.om,j<J.length:=fun j c=>A (RI.JZ.2 (.inr (.inr (.inr (.inr c)))));have mh:=A i.LQ;have f:∀ j,j ∈ Rr (i.om.take n++p::i.om.drop n)↔j ∈ Rr i.om\/j ∈ hs p.1\/j ∈ hs p.2:=by
  intro j;rw[Sd,Xt,OA i.om n];simp only[Aas];constructor
  ·rintro (h | (h | h) | h)
   ·exact .inl (.inl h)
   ·exact .inr (.inl h)
   ·exact .inr (.inr h)
   ·exact .inl (.inr h)
  ·rintro ((h | h) | h | h)
   ·exact .inl h
   ·exact .inr (.inr h)
   ·exact .inr (.inl (.inl h))
   ·exact .inr (.inl (.inr h))
 have ad:(Rr (i.om.take n++p::i.om.drop n)).Nodup:=by
  have hD:=sep.D;rw[OA i.om n] at hD;obtain ⟨d1,d2,d3⟩:=Ad5.1 hD;have out:∀ j,j ∈ hs p.1++hs p.2->j ∉ Rr i.om:=fun j c hm=>(F j (Aas.1 c)).2 (RI.JZ.2 (.inr (.inr (.inr (.inr hm)))));rw[Sd,Xt];refine Ad5.2 ⟨d1,Ad5.2 ⟨ah,d2, ?_⟩, ?_⟩
  ·intro a d b m e;subst e;exact out a d (by rw[OA i.om n]; exact Aas.2 (.inr m))
  ·intro a d b m e;subst e;rcases Aas.1 m with m | m
   ·exact out a m (by rw[OA i.om n]; exact Aas.2 (.inl d))
   ·exact d3 a d a m rfl
 have E:∀ {j},j ∈ Rr (i.om.take n++p::i.om.drop n)->j<J.length:=fun c=>by
  rcases (f _).1 c with c | c
  ·exact mD _ c
  ·exact (F _ c).1
 have H:∀ {j},j ∈ i.hb::(hs i.bs++hs i.fs)->j ∉ Rr (i.om.take n++p::i.om.drop n):=fun {j} c hm=>by
  rcases (f _).1 hm with hm | hm
  ·rcases Acd.1 c with e | c
   ·exact sep.hD (e ▸ hm)
   ·rcases Aas.1 c with c | c
    ·exact sep.AD _ c hm
    ·exact sep.CD _ c hm
  ·refine (F _ hm).2 ?_;rcases Acd.1 c with e | c
   ·rw[e]; exact i.LQ
   ·rcases Aas.1 c with c | c
    ·exact RI.JZ.2 (.inr (.inl c))
    ·exact RI.JZ.2 (.inr (.inr (.inr (.inl c))))
 rw[Y];have V:Sep { i with os:=z,om:=i.om.take n++p::i.om.drop n }:=
  { hA:=sep.hA,hB:=fun g=>Aha.2 (r _ g) mh,hC:=sep.hC,hD:=fun g=>H (Acj) g,
    AB:=fun a d g=>by have:=r _ g; have:=mA _ d; omega,AC:=sep.AC,AD:=fun a d g=>H (Ab7 _ (Aas.2 (.inl d))) g,
    BC:=fun a d g=>by have:=r _ d; have:=mC _ g; omega,BD:=fun a d g=>by have:=r _ d; have:=E g; omega,CD:=fun a d g=>H (Ab7 _ (Aas.2 (.inr d))) g,D:=ad };have S:∀ j ∈ RI.l { i with os:=z,om:=i.om.take n++p::i.om.drop n },j<(J++([B]++I)).length:=by
  intro j c;rcases RI.JZ.1 c with c | c | c | c | c
  ·have ab:j=i.hb:=c;rw[ab,Aaw]; omega
  ·have:=mA _ c; simp; omega
  ·obtain ⟨a,d,rfl⟩:=BV.1 c; exact C.lt a d
  ·have:=mC _ c; simp; omega
  ·have:=E c; simp; omega
 have Q:∀ (y:Nat) (h1:y<(Uw t.ob o).length) (h2:y<(i.om.take n++p::i.om.drop n).length),D2 (J++([B]++I)) (i.om.take n++p::i.om.drop n)[y].1 (Uw t.ob o)[y].refs/\D2 (J++([B]++I)) (i.om.take n++p::i.om.drop n)[y].2 (Uw t.ob o)[y].data:=by
  intro y h1 h2;simp only[v] at h1 ⊢;rw[Zu t.ob n w o y h1,Zu i.om n (by omega) p y h2];have an:(t.ob.take n++o::t.ob.drop n).length=t.ob.length+1:=by simp; omega
  by_cases M:y<n
  ·simp only[M,dite_true];exact u.inn y (by omega) (by omega)
  ·by_cases X:y=n
   ·simp only[M,X,dite_false,dite_true,Ae6];exact ⟨af.app _,ag.app _⟩
   ·simp only[M,X,dite_false];exact u.inn (y-1) (by omega) (by omega)
 have hR:=JM.kU (i:={ i with os:=z,om:=i.om.take n++p::i.om.drop n }) (t:={ t with ob:=Uw t.ob o }) u.bl C u.fw (by show (i.om.take n++p::i.om.drop n).length=(Uw t.ob o).length; rw[hlen]; simp; omega) Q V S;refine ⟨_,z, ?_,hR,fun j c ae=>?_,by simp,fun a d=>by have:=b3 a d; simp at this; omega,fun j c=>?_⟩
 ·rw[Vk];have N:AX.CY (J++([B]++I)) i.hb 1 (.slice z.1 z.2.1 z.2.2)=some ((J++([B]++I)).set i.hb (.cells [.slice i.bs.1 i.bs.2.1 i.bs.2.2,.slice z.1 z.2.1 z.2.2,.slice i.fs.1 i.fs.2.1 i.fs.2.2,qIi t.born] Dc true)):=by
   have g:=u.hp;generalize J++([B]++I)=Z at g ⊢;simp[AX.CY,g]
  have c0:∀ τ,Aj .i64 (J++[B]++τ) J.length 0=some o.addr:=fun τ=>by rw[Aaq,K]; rfl
  have M:∀ τ,Aj .i64 (J++[B]++τ) J.length 1=some o.id:=fun τ=>by rw[Aaq,K]; rfl
  have X:∀ τ,Aj .i64 (J++[B]++τ) J.length 2=some o.r:=fun τ=>by rw[Aaq,K]; rfl
  have c3:∀ τ,Aj .i64 (J++[B]++τ) J.length 3=some o.d:=fun τ=>by rw[Aaq,K]; rfl
  have c4:∀ τ,Aj .i64 (J++[B]++τ) J.length 4=some o.k:=fun τ=>by rw[Aaq,K]; rfl
  have c5:∀ τ,Be (J++[B]++τ) J.length 5=some (p.1.1,p.1.2.1,p.1.2.2):=fun τ=>by rw[Aaq,U]; rfl
  have c6:∀ τ,Be (J++[B]++τ) J.length 6=some (p.2.1,p.2.2.1,p.2.2.2):=fun τ=>by rw[Aaq,U]; rfl
  have c7:∀ τ,Vy (J++[B]++τ) J.length 7=some o.W2:=fun τ=>by rw[Aaq,ai]; rfl
  have s:Au.cells [qIi o.addr,qIi o.id,qIi o.r,qIi o.d,qIi o.k,.slice p.1.1 p.1.2.1 p.1.2.2,.slice p.2.1 p.2.2.1 p.2.2.2,.bool o.W2] Ab true=B:=hB;rw[<- Aaq] at N;simp only[Ae,s,aa,AI,Aat,Em,IN,Ad3,Nat.reduceAdd,hb.Fa,e1,a1,c0,M,X,c3,c4,c5,c6,c7];rw[<- s] at L ⊢;simp only[L,AI];rw[s];simp only[O.Fa,e3,a3,AI,N];simp only[Aaq]
 ·rw[Aar (Adk ae),AT c]
 ·rcases RI.JZ.1 c with c | c | c | c | c
  ·exact .inl (by rw[c]; exact i.LQ)
  ·exact .inl (RI.JZ.2 (.inr (.inl c)))
  ·exact .inr (.inr (.inr (r _ c)))
  ·exact .inl (RI.JZ.2 (.inr (.inr (.inr (.inl c)))))
  ·rcases (f _).1 c with c | c | c
   ·exact .inl (RI.JZ.2 (.inr (.inr (.inr (.inr c)))))
   ·exact .inr (.inl c)
   ·exact .inr (.inr (.inl c))
end
section
local instance qRZ:AJ:=Ao
variable {J:Aa} {m:HM} {t:RM} {i:RI}
theorem vy (k:Nat) (o:5000<=k) (h:RG J i m t) (d:LN m) (l:Sh m) (a:Int):Fk (FI (k+4) (Bj i) a J) J i (qIi (Hw m a).1) (Hw m a).2:=by
 have q:=h.ol;rw[TL];have c:=LF (k+1) (by omega) h a;simp only[Uy k o h a,AI,Ah];unfold Hw;cases n:Aw m a with
 | false=>
   simp only[Ab8,Aa5,ne4,IS];exact Fk.NR h d rfl
 | true=>
   obtain ⟨x,j,b,p,F⟩:=h.found n;obtain ⟨J',s,e,g,r,_,_⟩:=xZ (k+2) h.at_ (by omega) F.xl;have f:a.toNat/2=j:=by rw[F.e,IT]; omega
   obtain ⟨s1,s2⟩:=h.sim.kill h.inv l d F.st F.all;rw[f];simp only[Aat,Abx,By,c,AI,Ah,F.idx,e,Gi];exact ⟨J',_,_,rfl,g,s1,s2,r⟩
theorem kX {om:List (Bx × Bx)} (h:(Rr om).Nodup) {y z:Nat} (e:y<om.length) (f:z<om.length) {j:Nat} (c:j ∈ hs om[y].1\/j ∈ hs om[y].2) (d:j ∈ hs om[z].1\/j ∈ hs om[z].2):y=z:=by
 obtain ⟨_,g⟩:=List.pairwise_flatMap.1 h;have b:=Agc.1 g;rcases Ae2 y z with a | he | a
 ·exact absurd rfl (b y z e f a j (Aas.2 c) j (Aas.2 d))
 ·exact he
 ·exact absurd rfl (b z y f e a j (Aas.2 d) j (Aas.2 c))
theorem qi {om:List (Bx × Bx)} (h:(Rr om).Nodup) {y:Nat} (d:y<om.length) {j:Nat} (b:j ∈ hs om[y].1):j ∉ hs om[y].2:=by
 obtain ⟨h1,_⟩:=List.pairwise_flatMap.1 h;obtain ⟨_,_,a⟩:=Ad5.1 (h1 _ (Adb d));exact fun c=>a j b j c rfl
theorem cQ:∀ (l:List RO) (om:List (Bx × Bx)) (y:Nat) (c:y<l.length) (b:y<om.length) (o:RO),Bw o om[y]=Bw l[y] om[y]->DT (l.set y o) om=DT l om
 | [],om,y,c,_,_,_=>by simp at c
 | a::l,[],y,_,b,_,_=>by simp at b
 | a::l,p::om,0,c,b,o,h=>by
   simp only[Afj,DT];rw[show Bw o p=Bw a p from h]
 | a::l,p::om,y+1,c,b,o,h=>by
   simp only[Aex,DT];rw[cQ l om y (by simpa using c) (by simpa using b) o h]
theorem JM.yL (h:JM J i t) {y b:Nat} (q:y<t.ob.length) (f:y<i.om.length) (hb:b ∈ hs i.om[y].1\/b ∈ hs i.om[y].2) (c:Au) (o:RO) (n:Bw o i.om[y]=Bw t.ob[y] i.om[y]) (m:D2 (J.set b c) i.om[y].1 o.refs/\D2 (J.set b c) i.om[y].2 o.data):
  JM (J.set b c) i { t with ob:=t.ob.set y o }:=by
 have sep:=h.sep;have hm:b ∈ Rr i.om:=Ju f hb;refine { hp:=?_,bl:=?_,ob:=?_,fw:=?_,ol:=by show _=(t.ob.set y o).length; rw[Adj]; exact h.ol,inn:=?_,nd:=h.nd,lt:=fun j p=>by rw[Adj]; exact h.lt j p }
 ·rw[Aar (fun e:b=i.hb=>sep.hD (by rw[<- e]; exact hm))]; exact h.hp
 ·exact h.bl.Ax fun a k=>Aar fun e:b=a.block=>sep.AD a.block (BV.2 ⟨a,k,rfl⟩) (by rw[<- e]; exact hm)
 ·show Ct _ 8 _ _ (t.ob.set y o).length (DT (t.ob.set y o) i.om);rw[Adj,cQ _ _ _ q f _ n];exact h.ob.Ax fun a k=>Aar fun e:b=a.block=>sep.BD a.block (BV.2 ⟨a,k,rfl⟩) (by rw[<- e]; exact hm)
 ·exact h.fw.Ax fun a k=>Aar fun e:b=a.block=>sep.CD a.block (BV.2 ⟨a,k,rfl⟩) (by rw[<- e]; exact hm)
 ·intro z h1 l;have g:z<t.ob.length:=by simpa using h1
  show D2 _ i.om[z].1 (t.ob.set y o)[z].refs/\D2 _ i.om[z].2 (t.ob.set y o)[z].data;by_cases e:y=z
  ·subst e;rw[List.getElem_set_self];exact m
  ·rw[List.getElem_set_ne e];exact ⟨(h.inn z g l).1.Ax fun d hd=>Aar fun e':b=d=>e (kX sep.D f l hb (.inl (by rw[e']; exact hd))),(h.inn z g l).2.Ax fun d hd=>Aar fun e':b=d=>e (kX sep.D f l hb (.inr (by rw[e']; exact hd)))⟩
theorem Aad (h:RG J i m t) (C:LN m) {a:Int} {x j b:Nat} {p:Bx × Bx} (F:Found J i m t a x j b p) (q:Nat) (D:2+q<use m j) (v:Int):
  ∃ f J' t',(if (q:Int)<Av m j then p.1.1=some ⟨f,0,none⟩/\AX.CY J f q (qIi v)=some J' else p.2.1=some ⟨f,0,none⟩/\AX.CY J f (q-(Av m j).toNat) (qIi v)=some J')/\JM J' i t'/\Rv (Hb m (2*j+2+q) v) t'/\LN (Hb m (2*j+2+q) v)/\H9 i i J J':=by
 have hu:=h.inv.use F.st;obtain ⟨s1,s2⟩:=h.sim.word h.inv C F.st F.all D v;obtain ⟨_,G,H,I,K,_⟩:=Nc h.inv F.st;have k:x<i.om.length:=by rw[h.at_.ol]; exact F.xl
 have n:i.om[x]=p:=by have:=F.om; rw[Aau k] at this; exact Aej this
 have y:t.ob[x]'F.xl=AR m j:=by have:=F.ob; rw[Aau F.xl] at this; exact Aej this
 have sep:=h.at_.sep;have z:(AR m j).refs.length=(Av m j).toNat:=DH _ _ _;have ld:(AR m j).data.length=(Bp m j).toNat:=DH _ _ _;by_cases c:(q:Int)<Av m j
 ·rw[Aay c] at s1;obtain ⟨f,l,E,o⟩:=F.rs.qa (x:=q) (by omega);have g:f ∈ hs p.1:=Nz l;have st:=oO o (x:=q) (by omega) v;refine ⟨f,_,_,by rw[Aay c]; exact ⟨l,st⟩,h.at_.yL F.xl k (.inl (by rw[n]; exact g)) _ _ (by rw[y]; rfl) ?_,s1,s2,H9.set _ _ (i.Ju k (.inl (by rw[n]; exact g)))⟩;rw[n];refine ⟨⟨by show _=((AR m j).refs.set q v).length; rw[Adj]; exact F.rs.1,fun _=>?_,fun a u=>by rw[l] at u; cases u; exact ⟨_,_,_,Aa2 (Af o),Ado _⟩⟩,F.ds.Ax fun d hd=>Aar fun e:f=d=>qi sep.D k (j:=f) (by rw[n]; exact g) (by rw[n,e]; exact hd)⟩;obtain ⟨A,r,s,B⟩:=F.rs.2.1 (fun w=>by rw[w] at z; simp at z; omega);rw[s] at l;cases l;exact ⟨f,r,by rw[s]; show _=(some _,((AR m j).refs.set q v).length,r); rw[Adj],Aa2 (Af o)⟩
 ·rw[Aaz c] at s1;obtain ⟨f,l,E,o⟩:=F.ds.qa (x:=q-(Av m j).toNat) (by omega);have g:f ∈ hs p.2:=Nz l;have st:=oO o (x:=q-(Av m j).toNat) (by omega) v;refine ⟨f,_,_,by rw[Aaz c]; exact ⟨l,st⟩,h.at_.yL F.xl k (.inr (by rw[n]; exact g)) _ _ (by rw[y]; rfl) ?_,s1,s2,H9.set _ _ (i.Ju k (.inr (by rw[n]; exact g)))⟩;rw[n];refine ⟨F.rs.Ax fun d hd=>Aar fun e:f=d=>qi sep.D k (j:=f) (by rw[n,e]; exact hd) (by rw[n]; exact g),⟨by show _=((AR m j).data.set _ v).length; rw[Adj]; exact F.ds.1,fun _=>?_,fun a u=>by rw[l] at u; cases u; exact ⟨_,_,_,Aa2 (Af o),Ado _⟩⟩⟩;obtain ⟨A,r,s,B⟩:=F.ds.2.1 (fun w=>by rw[w] at ld; simp at ld; omega);rw[s] at l;cases l;exact ⟨f,r,by rw[s]; show _=(some _,((AR m j).data.set _ v).length,r); rw[Adj],Aa2 (Af o)⟩
theorem oA (k:Nat) (w:5000<=k) (h:RG J i m t) (f:LN m) (a x v:Int):Fk (Ga (k+4) (Bj i) a x v J) J i (qIi (BU m a x v).1) (BU m a x v).2:=by
 have G:=h.ol;rw[RD];have q:=LF (k+1) (by omega) h a;simp only[Uy k w h a,AI,Ah];unfold BU BG;cases E:Aw m a with
 | false=>
   simp only[Ab8,Aa5,ne4,IS,show ((4:Int)=0)=False from by decide];exact Fk.NR h f rfl
 | true=>
   obtain ⟨y,j,b,p,F⟩:=h.found E;have hu:=h.inv.use F.st;obtain ⟨_,N,O,P,Q,_⟩:=Nc h.inv F.st;have M:=F.xl;have A:p.1.2.1=(Av m j).toNat:=by rw[F.rs.1]; exact DH _ _ _
   have B:a.toNat/2=j:=by rw[F.e,IT]; omega
   have z:=qSu y t.ob.length (by omega);simp only[Aat,Abx,By,q,AI,Ah,F.idx,B,Ab8,Aa5];by_cases s:x<0
   ·rw[Aaz (show ¬ (0<=x/\x<Av m j) by omega)];simp only[Aak s,IS,AI,show ((1:Int)=0)=False from by decide,Aa5];exact Fk.NR h f rfl
   simp only[Aaj s,By,IN,h.at_.Fa,z,Aat,F.os,AI,IT,F.ld.l5,A];by_cases u:x<Av m j;rotate_left
   ·rw[Aaz (show ¬ (0<=x/\x<Av m j) by omega)];simp only[Aak (show x>=(((Av m j).toNat:Nat):Int) by omega),IS,AI,show ((1:Int)=0)=False from by decide,Aa5];exact Fk.NR h f rfl
   rw[Aay (show 0<=x/\x<Av m j from ⟨by omega,u⟩)];obtain ⟨n,rfl⟩:∃ n:Nat,x=(n:Int):=⟨x.toNat,by omega⟩;simp only[Aaj (show ¬ (n:Int)>=(((Av m j).toNat:Nat):Int) by omega),By,Aat];have C:CN (k+3) (Bj i) v J=_:=aw k w h v;have fin:Fk ((Be J i.hb 1).bind fun g=>if 0<=(y:Int)/\(y:Int)<(g.2.1:Nat) then g.1.bind fun c=>(Be J c.block (c.off+y*8+5)).bind fun l=>if 0<=(n:Int)/\(n:Int)<(l.2.1:Nat) then l.1.bind fun d=>(AX.CY J d.block (d.off+((n:Int)).toNat*1) (qIi v)).bind fun r=>some (Value.int .i64 0,r) else none else none) J i (qIi 0) (Hb m (a+2+0+(n:Int)).toNat v):=by
    obtain ⟨K,J',t',e,D,s1,s2,H⟩:=Aad h f F n (by omega) v;rw[Aay u] at e;have I:=qSu n ((Av m j).toNat) (by omega);rw[show (a+2+0+(n:Int)).toNat=2*j+2+n from by rw[F.e]; omega];exact ⟨J',i,t',by simp only[h.at_.Fa,AI,z,Aat,F.os,IN,F.ld.l5,A,I,e.1,IT,Acg,e.2],D,s1,s2,H⟩
   by_cases o:v=0
   ·subst o;simp only[Abx,By,AI,ne_eq,Ae9,false_and,Aa5];exact fin
   ·simp only[Adz.2 o,IS,C,AI,An];cases L:Aw m v with
    | false=>
      simp only[Adi,IS,ne_eq,o,Aep,Afz,Aat];exact Fk.NR h f rfl
    | true=>
      simp only[Aa4,By,Bool.true_eq_false,and_false,Aa5];exact fin
theorem g7:∀ (l:List RO) (om:List (Bx × Bx)) (y:Nat) (c:y<l.length) (b:y<om.length) (v:Bool),(DT l om).set (y*8+7) (.bool v)=DT (l.set y { l[y] with W2:=v }) om
 | [],om,y,c,_,_=>by simp at c
 | a::l,[],y,_,b,_=>by simp at b
 | a::l,p::om,0,c,b,v=>rfl
 | a::l,p::om,y+1,c,b,v=>by
   have d:=g7 l om y (by simpa using c) (by simpa using b) v;simp only[Aex,DT,Agk];rw[<- d,Afb _ _ (by simp[Bw]; omega)];congr 2;simp[Bw]; omega
theorem JM.Aae (h:JM J i t) {y b:Nat} (n:y<t.ob.length) (e:i.os.1=some ⟨b,0,none⟩) (m:J[b]?=some (.cells (DT t.ob i.om) Ab true)) (v:Bool):
  AX.CY J b (y*8+7) (.bool v)=some (J.set b (.cells (DT (t.ob.set y { t.ob[y] with W2:=v }) i.om) Ab true))/\JM (J.set b (.cells (DT (t.ob.set y { t.ob[y] with W2:=v }) i.om) Ab true)) i { t with ob:=t.ob.set y { t.ob[y] with W2:=v } }/\H9 i i J (J.set b (.cells (DT (t.ob.set y { t.ob[y] with W2:=v }) i.om) Ab true)):=by
 have sep:=h.sep;have l:y<i.om.length:=by rw[h.ol]; exact n
 have hb:=Nz e;have q:=O8 t.ob i.om h.ol;refine ⟨?_,{ hp:=?_,bl:=?_,ob:=?_,fw:=?_,ol:=by show _=(t.ob.set y _).length; rw[Adj]; exact h.ol,inn:=?_,nd:=h.nd,lt:=fun j p=>by rw[Adj]; exact h.lt j p },H9.set _ _ (RI.JZ.2 (.inr (.inr (.inl hb))))⟩
 ·have:y*8+7<(DT t.ob i.om).length:=by omega
  simp only[AX.CY,m,this,Aat,g7 t.ob i.om y n l v]
 ·rw[Aar (fun e:b=i.hb=>sep.hB (by rw[<- e]; exact hb))]; exact h.hp
 ·exact h.bl.Ax fun a k=>Aar fun e:b=a.block=>sep.AB a.block (BV.2 ⟨a,k,rfl⟩) (by rw[<- e]; exact hb)
 ·have:=h.ob.form;rw[e] at this;refine .inr ⟨b, ?_,Ado _, ?_,Aa2 (Af m)⟩
  ·show i.os=(_,(t.ob.set y _).length,(t.ob.set y _).length); rw[Adj]; exact this
  ·exact O8 _ _ (by rw[Adj]; exact h.ol)
 ·exact h.fw.Ax fun a k=>Aar fun e:b=a.block=>sep.BC b hb (by rw[e]; exact BV.2 ⟨a,k,rfl⟩)
 ·intro z h1 g;have f:z<t.ob.length:=by simpa using h1
  show D2 _ i.om[z].1 (t.ob.set y _)[z].refs/\D2 _ i.om[z].2 (t.ob.set y _)[z].data;have o:=h.inn z f g;have c:D2 (J.set b (.cells (DT (t.ob.set y { t.ob[y] with W2:=v }) i.om) Ab true)) i.om[z].1 t.ob[z].refs/\D2 (J.set b (.cells (DT (t.ob.set y { t.ob[y] with W2:=v }) i.om) Ab true)) i.om[z].2 t.ob[z].data:=
   ⟨o.1.Ax fun d hd=>Aar fun e':b=d=>sep.BD b hb (by rw[e']; exact Ju g (.inl hd)),o.2.Ax fun d hd=>Aar fun e':b=d=>sep.BD b hb (by rw[e']; exact Ju g (.inr hd))⟩;by_cases e:y=z
  ·subst e;rw[List.getElem_set_self];exact c
  ·rw[List.getElem_set_ne e];exact c
theorem ya (k:Nat) (o:5000<=k) (h:RG J i m t) (d:LN m) (l:Sh m) (a:Int) (v:Bool):Fk (Jj (k+4) (Bj i) a v J) J i (qIi (MM m a (if v then 1 else 0)).1) (MM m a (if v then 1 else 0)).2:=by
 have q:=h.ol;rw[Vj];have c:=LF (k+1) (by omega) h a;simp only[Uy k o h a,AI,Ah];unfold MM;cases n:Aw m a with
 | false=>
   simp only[Ab8,Aa5,ne4,IS];exact Fk.NR h d rfl
 | true=>
   obtain ⟨y,j,b,p,F⟩:=h.found n;have r:=F.xl;have f:a.toNat/2=j:=by rw[F.e,IT]; omega
   have u:=qSu y t.ob.length (by omega);obtain ⟨e,h1,s⟩:=h.at_.Aae r F.os F.cell v;obtain ⟨s1,s2⟩:=h.sim.pins h.inv l d F.st F.all v;have g:t.ob[y]'F.xl=AR m j:=by have:=F.ob; rw[Aau F.xl] at this; exact Aej this
   rw[f];simp only[Aat,Abx,By,IN,h.at_.Fa,c,AI,Ah,F.idx,u,F.os,IT,e];exact ⟨_,i,_,rfl,h1,by rw[g]; exact s1,s2,s⟩
theorem xX (k:Nat) (d:5000<=k) (h:RG J i m t) (b:LN m) (c:Sh m) (a:Int):Fk (Gx (k+5) (Bj i) a J) J i (qIi (MM m a 1).1) (MM m a 1).2:=by
 obtain ⟨J',f,t',e,r⟩:=ya k d h b c a true;refine ⟨J',f,t', ?_,r⟩;rw[Vh];simp only[e,AI,Ah,Aat]
end
section
local instance qSA:AJ:=Ao
variable {J:Aa} {m:HM} {t:RM} {i:RI}
theorem JM.yc (h:JM J i t) (v:Int):∃ c,AX.CY J i.hb 3 (qIi v)=some (J.set i.hb c)/\JM (J.set i.hb c) i { t with born:=v }:=
 ⟨_,by simp only[AX.CY,h.hp]; rfl,JM.kU (t:={ t with born:=v }) h.bl h.ob h.fw h.ol h.inn h.sep h.lt⟩
theorem X7 (n:Nat):rep n [Value.int .i64 0]=Bl (List.replicate n 0):=by
 simp[rep,Bl]
theorem gM (k:Nat) (hk:5000<=k) (h:RG J i m t) (O:LN m) (hS:Sh m) (hb:m.births<1000000) (a r d c:Int):
  Fk (Ff (k+5) (Bj i) a r d c J) J i (.tuple #[qIi (CX m a r d c).1,qIi (CX m a r d c).2.1]) (CX m a r d c).2.2:=by
 have ah:=h.nt;have aa:=h.wl;have ai:=h.ol;have ae:=h.inv.brt;obtain ⟨S,B⟩:∃ S,Au.cells [qIi r,qIi d,qIi c] Ad true=S:=⟨_,rfl⟩;have hg:=h.app [S];have V:(J++[S])[J.length]?=some (.cells [qIi r,qIi d,qIi c] Ad true):=by rw[<- B]; simp
 obtain ⟨b0,b1,b2⟩:=Kr V;obtain ⟨l,eV⟩:=X5 (k+3) r d c (J++[S]);have F:=hg.app l;have v:(J++[S]++l)[J.length]?=_:=(AT (Af V)).trans V;obtain ⟨d0,d1,d2⟩:=Kr v;have eM:Az (k+4) (Bj i) (J++[S])=_:=LJ (k+3) hg;rw[SR];simp only[Ae,B,eM,AI,An,Aa4,By,IN,Nat.reduceAdd,Aa0,b0,b1,b2,eV];unfold CX;cases I:valid r d c with
 | false=>
   simp only[Adi,IS,Ab8,Aa5];exact Fk.same h O ([S]++l) (by rw[<- Aaq])
 | true=>
 obtain ⟨u,eF⟩:=vG k hk F a (-1) 0 I (fun o U=>by
  have:=(h.inv.idn o U).1;constructor
  ·intro e; omega
  ·intro e; omega);simp only[Aa4,By,Aat,d0,d1,d2,AI,eF,Ah];by_cases E:Mi m a (Pt (num r d c)) (-1)=0;rotate_left
 ·rw[Aaz E];simp only[Adz.2 E,IS];exact Fk.same h O ([S]++l++u) (by simp only[<- Aaq])
 rw[Aay E];have Y:2<=Pt (num r d c):=by
  have z:=I;rw[Kw I];simp[valid] at z;omega
 obtain ⟨j,rfl,hj,ac,Q⟩:=h.inv.fits aa (YQ _) Y E;rw[show ((2*j:Nat):Int).toNat/2=j from by omega];obtain ⟨s1,s2⟩:=h.sim.place h.inv h.inv2 hS O I hj (fun o U=>Q o U (by omega));have G:=F.app u;obtain ⟨C,eS,N⟩:=G.at_.yc (t.born+1);have W:(J++[S]++l++u)[J.length]?=_:=(AT (Af v)).trans v;have af:i.hb<J.length:=h.at_.lt _ i.LQ;have s:((J++[S]++l++u).set i.hb C)[J.length]?=_:=(Aar (show i.hb≠J.length by omega)).trans W;have hlen:((J++[S]++l++u).set i.hb C).length=J.length+1+l.length+u.length:=by simp; omega
 have H:∀ x,x<J.length->x≠i.hb->((J++[S]++l++u).set i.hb C)[x]?=J[x]?:=fun x g p=>by
  rw[Aar (Adk p),Aaq,Aaq,AT g]
 have K:=G.at_.cH;generalize (J++[S]++l++u).set i.hb C=Z at N eS s hlen H;obtain ⟨c0,c1,c2⟩:=Kr s;have z:=I;simp[valid] at z;obtain ⟨f,rfl⟩:∃ n:Nat,r=(n:Int):=⟨r.toNat,by omega⟩;obtain ⟨b,rfl⟩:∃ n:Nat,d=(n:Int):=⟨d.toNat,by omega⟩;have w:Ar (t.born+1)=t.born+1:=Ai (by rw[h.sim.born]; unfold AQ; omega);have qr:(0<=(f:Int)/\(f:Int)<=(f:Int)/\(f:Int)*((8:Nat):Int)<=2 ^ 40/\(f:Int)<=2 ^ 40)=True:=Adu (by omega);have qd:(0<=(b:Int)/\(b:Int)<=(b:Int)/\(b:Int)*((8:Nat):Int)<=2 ^ 40/\(b:Int)<=2 ^ 40)=True:=Adu (by omega);obtain ⟨A,hA⟩:∃ A,Au.cells (Bl (List.replicate f 0)) Ak true=A:=⟨_,rfl⟩;obtain ⟨D,hD⟩:∃ D,Au.cells (Bl (List.replicate b 0)) Ak true=D:=⟨_,rfl⟩;have X:(Z++[A])[J.length]?=_:=(AT (Af s)).trans s;obtain ⟨_,f1,_⟩:=Kr X;have h6:JM (Z++[A]++[D]) i { t with born:=t.born+1 }:=(N.app [A]).app [D];have gA:(Z++[A]++[D])[Z.length]?=some (.cells (Bl (List.replicate f 0)) Ak true):=by rw[hA]; simp
 have gD:(Z++[A]++[D])[(Z++[A]).length]?=some (.cells (Bl (List.replicate b 0)) Ak true):=by rw[hD]; simp
 have ab:∀ x ∈ i.l,x<J.length:=h.at_.lt;obtain ⟨J',aj,eP,hR,y,hle,ad,T⟩:=yb (k+3) (by omega) h6 (by show t.ob.length<=4900; omega) ⟨((2*j:Nat):Int),t.born+1,(f:Int),(b:Int),c,List.replicate f 0,List.replicate b 0,false⟩ ((some ⟨Z.length,0,none⟩,f,f),(some ⟨(Z++[A]).length,0,none⟩,b,b))
  ⟨by simp,fun _=>⟨Z.length,f,by simp,gA⟩,fun a P=>by cases P; exact ⟨_,_,_,gA,Ado _⟩⟩ ⟨by simp,fun _=>⟨(Z++[A]).length,b,by simp,gD⟩,fun a P=>by cases P; exact ⟨_,_,_,gD,Ado _⟩⟩
  (by
   intro x g;have:x=Z.length\/x=(Z++[A]).length:=by
    rcases g with g | g
    ·obtain ⟨q,e,rfl⟩:=BV.1 g;cases e; exact .inl rfl
    ·obtain ⟨q,e,rfl⟩:=BV.1 g;cases e; exact .inr rfl
   refine ⟨?_,fun hm=>?_⟩
   ·have hl:(Z++[A]).length=Z.length+1:=by simp
    have ag:(Z++[A]++[D]).length=Z.length+2:=by simp
    rcases this with e | e <;> omega
   ·have:=ab x hm;have hl:(Z++[A]).length=Z.length+1:=by simp
    rcases ‹x=Z.length\/x=(Z++[A]).length› with e | e <;> omega)
  (by simp[hs]);have M:H2 (k+4) (Bj i) ((2*j:Nat):Int) (t.born+1) (f:Int) (b:Int) c (some ⟨Z.length,0,none⟩,f,f) (some ⟨(Z++[A]).length,0,none⟩,b,b) false (Z++[A]++[D])=some (.tuple #[],J'):=eP;refine ⟨J',_,_, ?_,hR,s1,s2,⟨by simp at hle; omega,fun x g hn=>?_,fun x g=>?_,rfl⟩⟩
 ·simp only[Abx,E,By,K,AI,w,eS,N.cH,c0,c1,c2,qr,Aat,IT,X7,hA,f1,qd,hD,M,Gi];have:=hR.cH;simp only at this;rw[this,h.sim.born];rfl
 ·have p:x≠i.hb:=fun e=>hn (by rw[e]; exact i.LQ);rw[y x (by simp; omega) p,Aaq,AT (by omega),H x g p]
 ·rcases T x g with e | e | e | e
  ·exact .inl e
  ·obtain ⟨q,L,rfl⟩:=BV.1 e;cases L;exact .inr (by show J.length<=Z.length; omega)
  ·obtain ⟨q,L,rfl⟩:=BV.1 e;cases L;exact .inr (by show J.length<=(Z++[A]).length; simp; omega)
  ·exact .inr (by simp at e; omega)
end
section
local instance qSB:AJ:=Ao
variable {J:Aa} {m:HM} {t:RM} {i:RI}
theorem bF:∀ l a:List (Int × Int),CU (l++a)=CU l++CU a
 | [],a=>rfl
 | e::l,a=>by simp only[Agw,CU,bF l a]
end
section
local instance qSC:AJ:=Ao
variable {J:Aa} {m:HM} {t:RM} {i:RI}
theorem gy (n j:Nat):¬ Start (JF n) j:=by
 rintro ⟨_,h⟩;have:CJ 1 (JF n).stw j=0:=Ps _ _ _;omega
theorem Rv.new (n:Nat):Rv (JF n) ⟨List.replicate n (0,0),[],[],0⟩:=by
 refine ⟨rfl, ?_,rfl,fun a=>rfl,rfl,trivial,trivial⟩;have:FA (JF n)=[]:=by
  cases h:FA (JF n) with
  | nil=>rfl
  | cons j l=>exact absurd (DS.1 (by rw[h]; exact Acj)) (gy n j)
 show []=Gr (JF n);unfold Gr;rw[this]; rfl
theorem LN.new (n:Nat):LN (JF n):=fun j _ _=>Ps _ _ _
theorem FZ.new (n:Nat):FZ (JF n):=by
 intro c _;show ((List.replicate n ((0:Int),(0:Int))).getD c (0,0)).2=0;rw[Aax,Aem];split <;> rfl
theorem xW (k:Nat) {n:Nat} (h2:2<=n) (c:n<=64) (J:Aa):∃ τ i,Mb (k+1) (n:Int) J=some (.tuple #[qVi (Bj i),qIi 0],J++τ)/\JM (J++τ) i ⟨List.replicate n (0,0),[],[],0⟩ /\ ∀ j ∈ i.l,J.length<=j:=by
 rw[bL];simp only[show decide ((n:Int)<2)=false from Aaj (by omega),By,show decide ((n:Int)>64)=false from Aaj (by omega),AI,Ae];rw[Aay (by omega)];simp only[IT,qt];obtain ⟨A,b⟩:∃ A,Au.cells (CU (List.replicate n (0,0))) As true=A:=⟨_,rfl⟩;rw[b];refine ⟨[A]++[Au.cells [.slice (some ⟨J.length,0,none⟩) n n,.slice none 0 0,.slice none 0 0,qIi 0] Dc true],⟨(J++[A]).length,(some ⟨J.length,0,none⟩,n,n),(none,0,0),(none,0,0),[]⟩,by rw[Aaq], ?_, ?_⟩
 ·rw[<- Aaq];refine { hp:=by simp,bl:=.inr ⟨J.length,by simp,Ado _,by rw[J6]; omega,by rw[AT (by simp),<- b]; simp⟩,ob:=.inl ⟨rfl,rfl,rfl⟩,fw:=.inl (.inl ⟨rfl,rfl,rfl⟩),ol:=rfl,inn:=fun x h=>by simp at h,nd:=?_,lt:=?_ }
  ·simp[RI.l,hs]
  ·intro j a;simp[RI.l,hs] at a;simp;omega
 ·intro j a;simp[RI.l,hs] at a;omega
theorem Tv {E:TypeId} {s by_:Nat} {z:Value} (hs:HV P E=some s) (hb:bytesOf P E=some by_) (k:FV P E=some z) (b:Gq z=false) (d:z.cells.size=s) (a:0<s) (f:0<by_) (g:by_<=1000)
  (J:Aa) (p:qOi) (n c:Nat) (i:n<=100000) (row:List Value) (l:row.length=n*s) (j:Da (J++[.cells [] E true]) s p n=some row):
  ∃ s' τ,AH P E (some ⟨J.length,0,some 0⟩,0,0) (p,n,c) (J++[.cells [] E true])=some (s',J++[.cells [] E true]++τ)/\(0<n->s'=(some ⟨J.length+1,0,none⟩,n,n)/\(J++[.cells [] E true]++τ)[J.length+1]?=some (.cells row E true))/\(n=0->s'=(some ⟨J.length,0,some 0⟩,0,0)):=by
 by_cases h0:n=0
 ·subst h0;refine ⟨(some ⟨J.length,0,some 0⟩,0,0),[], ?_,fun h=>absurd h (Ae6 _),fun _=>rfl⟩;unfold AH LH;have h1:(¬ (Gq z=false/\some s=some z.cells.size/\0<z.cells.size))=False:=by
   rw[b,d]; simp[a]
  simp only[hs,hb,k,j,AI,h1,Aa5,Aa0,Aa1,Aat,HU,Ahu,IS,qJ,Ab1]
 ·have e:=nh hs hb k b d a f g J p n c (by omega) i row j;refine ⟨_,[.cells row E true], ?_,fun _=>⟨rfl, ?_⟩,fun h=>absurd h h0⟩
  ·rw[e]; simp
  ·rw[Acf (by simp)]; simp
theorem D2.first {s:Bx} {l:List Int} (h:D2 J s l):Da J 1 s.1 l.length=some (Bl l):=by
 by_cases d:l=[]
 ·subst d;cases hs:s.1 with
  | none=>rfl
  | some a=>
    obtain ⟨cs,T,w,h1,e⟩:=h.2.2 a hs;simp only[Da,Nm,h1,Adx,Ad6,Aa0,e,Aat,Agu];rfl
 ·obtain ⟨b,c,rfl,f⟩:=h.2.1 d;simp only[Da,Nm,f,Cm,IN,Acg,Aa1,Aat,Adf];rw[Ady (by rw[Cm]; exact Aa1 _)]
theorem Ct.first {E:TypeId} {s n:Nat} {sl:Bx} {row:List Value} (h:Ct E s J sl n row):Da J s sl.1 n=some row:=by
 rcases h with ⟨rfl,rfl,rfl⟩ | ⟨b,rfl,_,a,c⟩
 ·rfl
 ·simp only[Da,Nm,c,a,IN,Aa1,Aat,Adf];rw[Ady (Aho a)]
theorem rZ (J:Aa) (s:Bx) (l:List Int) (m:l.length<=100000) (h:D2 J s l):
  ∃ s' τ,AH P Ak (some ⟨J.length,0,some 0⟩,0,0) (s.1,s.2.1,s.2.2) (J++[.cells [] Ak true])=some (s',J++[.cells [] Ak true]++τ)/\D2 (J++[.cells [] Ak true]++τ) s' l/\hs s'≠[] /\ ∀ j ∈ hs s',j=J.length\/j=J.length+1/\j<(J++[Au.cells [] Ak true]++τ).length:=by
 have k:=(h.app [.cells [] Ak true]).first
 rw[<- h.1] at k;obtain ⟨s',τ,e,h1,d⟩:=Tv wg uC tB rfl rfl (by decide) (by decide) (by decide) J s.1 s.2.1 s.2.2 (by rw[h.1]; exact m) (Bl l) (by rw[Cm,h.1,Acg]) k;refine ⟨s',τ,e, ?_, ?_, ?_⟩
 ·by_cases h0:s.2.1=0
  ·rw[d h0];have g:l=[]:=Aeh.1 (by rw[<- h.1]; exact h0);subst g;exact ⟨rfl,fun n=>absurd rfl n,fun a f=>by cases f; exact ⟨[],Ak,true,by rw[AT (by simp)]; simp,Aa1 _⟩⟩
  ·obtain ⟨i,c⟩:=h1 (by omega);rw[i];exact ⟨h.1,fun _=>⟨J.length+1,s.2.1,by rw[h.1],c⟩,fun a f=>by cases f; exact ⟨_,_,_,c,Ado _⟩⟩
 ·by_cases h0:s.2.1=0
  ·rw[d h0]; simp[hs]
  ·rw[(h1 (by omega)).1]; simp[hs]
 ·intro j b;by_cases h0:s.2.1=0
  ·rw[d h0] at b; simp[hs] at b; exact .inl b
  ·obtain ⟨i,c⟩:=h1 (by omega);rw[i] at b; simp only[hs,Ac1] at b;exact .inr ⟨b,by rw[b]; exact Af c⟩
theorem Adc:HV P As=some 2:=by kernel_rfl
theorem Acr:bytesOf P As=some 16:=by kernel_rfl
theorem Adh:FV P As=some (.agg #[qIi 0,qIi 0]):=by kernel_rfl
end
section
local instance qSD:AJ:=Ao
variable {J:Aa} {m:HM} {i:Cs}
theorem w6 (k:Nat) (h:Al J i m) {b:Int} (hb:¬ (0<=b/\b<(m.bls.length:Int))):Ft (k+3) (AU i) b J=some (.bool false,J):=by
 rw[Ob];simp only[ay _ h,AI,An,Aaj (show ¬ (1<=b/\b<(m.bls.length:Int)) by omega),By]
theorem ak (k:Nat) (h:Al J i m) (b:Int):Bn (k+3) (AU i) b J=some (qIi (Ce m b),J):=by
 unfold Ce;by_cases hb:0<=b/\b<(m.bls.length:Int)
 ·rw[Aay hb];obtain ⟨n,rfl⟩:∃ n:Nat,b=(n:Int):=⟨b.toNat,by omega⟩;rw[IT];exact jO k h (by omega)
 ·rw[Aaz hb,NB];by_cases h0:b<0
  ·simp only[Aak h0,IS,AI]
  ·simp only[Aaj h0,By,GW k h,AI,Ah,Aak (show b>=((m.bls.length:Nat):Int) by omega),IS]
theorem xe (k:Nat) (h:Al J i m) (b:Int):BH (k+3) (AU i) b J=some (qIi (MO m b),J):=by
 unfold MO;by_cases hb:0<=b/\b<(m.bls.length:Int)
 ·rw[Aay hb];obtain ⟨n,rfl⟩:∃ n:Nat,b=(n:Int):=⟨b.toNat,by omega⟩;rw[IT];exact bd k h (by omega)
 ·rw[Aaz hb,K8];by_cases h0:b<0
  ·simp only[Aak h0,IS,AI]
  ·simp only[Aaj h0,By,GW k h,AI,Ah,Aak (show b>=((m.bls.length:Nat):Int) by omega),IS]
theorem rh (k:Nat) (a:5000<=k) (h:Al J i m) (b:Int):∃ τ s,Cg (k+6) (AU i) b J=some (.slice s.1 s.2.1 s.2.2,J++τ)/\CB J.length (J++τ) s (Cq (HI m b)):=by
 unfold HI;by_cases hb:0<=b/\b<(m.bls.length:Int)
 ·rw[Aay hb];obtain ⟨n,rfl⟩:∃ n:Nat,b=(n:Int):=⟨b.toNat,by omega⟩;rw[IT];exact VW k a h (by omega)
 ·rw[Aaz hb,M9];refine ⟨[],(none,0,0), ?_,.inl ⟨rfl,rfl⟩⟩;simp only[JY _ h,AI,An,Aa4,By,Ab1];by_cases h0:b<0
  ·simp only[Aak h0,IS,AI]
  ·simp only[Aaj h0,By,AI,IN,h.H7,Aak (show b>=((m.bls.length:Nat):Int) by omega),IS]
theorem zd (k:Nat) (o:5000<=k) (h:Al J i m) (g:Inv m) (h0:B0 m) (b:Int):
  ∃ τ s,H0 (k+7) (AU i) b J=some (.slice s.1 s.2.1 s.2.2,J++τ)/\Ct AG 2 (J++τ) s (IV m b).length (D7 (IV m b)) /\ ∀ a,s.1=some a->J.length<=a.block:=by
 by_cases hb:0<=b/\b<(m.bls.length:Int)
 ·obtain ⟨n,rfl⟩:∃ n:Nat,b=(n:Int):=⟨b.toNat,by omega⟩;have e:IV m (n:Int)=fX m n:=by
   unfold IV fX Ce;rw[Aay hb,IT];by_cases hs:(m.bls.getD n (0,0)).1=1
   ·have:1<=n:=by
     rcases Nat.eq_zero_or_pos n with rfl | h1
     ·have:=h0; unfold B0 at this; omega
     ·exact h1
    rw[Aay hs,Aay ⟨this,hs⟩]
   ·rw[Aaz hs,Aaz (fun l=>hs l.2)]
  rw[e];obtain ⟨τ,s,c,d,_,f⟩:=wI k o h g (b:=n) (by omega);exact ⟨τ,s,c,d,f⟩
 ·have e:IV m b=[]:=by
   unfold IV Ce;rw[Aaz hb,Aaz (by decide)]
  rw[e];refine ⟨[],(none,0,0), ?_,Ct.nil _ _ _,by intro a j; cases j⟩;rw[Ll];have hu:Ft (k+6) (AU i) b J=_:=w6 (k+3) h hb;simp only[hu,AI,An,Adi,IS,Ab1]
theorem xa (k:Nat) (h:Al J i m) (a:Int) (d:AQ a):∃ τ,AL (k+6) (AU i) a J=some (.tuple #[if Aw m a then oK m (a.toNat/2) else oJ,qIi (if Aw m a then 0 else 4)],J++τ):=by
 cases b:Aw m a with
 | true=>
   obtain ⟨j,rfl,hs⟩:=AY b;obtain ⟨τ,e⟩:=ub k h hs;refine ⟨τ, ?_⟩;rw[e,show ((2*j:Nat):Int).toNat/2=j from by omega];rfl
 | false=>
   rw[NA];simp only[Ae];have h1:=h.app [Au.cells [Value.int .i64 0,qIi 0,qIi 0] Ad true];have c:∀ x y z:Value,Nm (J++[Au.cells [x,y,z] Ad true]) J.length 0 3=some [x,y,z]:=fun x y z=>by simp[Nm]
   refine ⟨[Au.cells [qIi 0,qIi 0,qIi 0] Ad true], ?_⟩;simp only[O9 k h1 a d,b,Ab8,Aa5,AI,Ah,ne4,IS,EA,c,Lh];rfl
theorem V7 (k:Nat) (h:Al J i m) (b:Inv m) (a x:Int) (d:AQ a):∃ τ,AM (k+7) (AU i) a x J=some (.tuple #[qIi (KD m a x false).1,qIi (KD m a x false).2],J++τ):=by
 obtain ⟨τ,e⟩:=Xi k h b a x d false;refine ⟨τ, ?_⟩;rw[Wd];simp only[e,AI,B6];unfold KD;by_cases h0:(BG m a x false).2=0
 ·rw[Aay h0];have p:0<=(BG m a x false).1/\(BG m a x false).1<(m.wds.length:Int):=by
   unfold BG at h0 ⊢;split at h0
   ·rename_i f;obtain ⟨j,rfl,hs⟩:=AY f;have c:=b.fit j hs;have q:=b.size hs;simp only[show ((2*j:Nat):Int).toNat/2=j from by omega,Ab8,Aa5] at h0 ⊢;split at h0
    ·rename_i l;rw[Aay (RU hs),Aay l];dsimp only;omega
    ·cases h0
   ·cases h0
  obtain ⟨n,g⟩:∃ n:Nat,(BG m a x false).1=(n:Int):=⟨(BG m a x false).1.toNat,by omega⟩;have o:=qSu n m.wds.length (by omega);simp only[h0,g,Abx,By,IN,(h.app τ).Fa,AI,o,Aat,IT,Acg,(h.app τ).uX (show n<m.wds.length by omega)]
 ·rw[Aaz h0];simp only[Adz.2 h0,IS]
theorem yY (k:Nat) (h:Al J i m) (b:Inv m) (a x:Int) (d:AQ a):∃ τ,Hz (k+7) (AU i) a x J=some (.tuple #[qIi (KD m a x true).1,qIi (KD m a x true).2],J++τ):=by
 obtain ⟨τ,e⟩:=Xi k h b a x d true;refine ⟨τ, ?_⟩;rw[UU];simp only[e,AI,B6];unfold KD;by_cases h0:(BG m a x true).2=0
 ·rw[Aay h0];have p:0<=(BG m a x true).1/\(BG m a x true).1<(m.wds.length:Int):=by
   unfold BG at h0 ⊢;split at h0
   ·rename_i f;obtain ⟨j,rfl,hs⟩:=AY f;have c:=b.fit j hs;have q:=b.size hs;simp only[show ((2*j:Nat):Int).toNat/2=j from by omega,Aat] at h0 ⊢;split at h0
    ·rename_i l;rw[Aay (RU hs),Aay l];dsimp only;omega
    ·cases h0
   ·cases h0
  obtain ⟨n,g⟩:∃ n:Nat,(BG m a x true).1=(n:Int):=⟨(BG m a x true).1.toNat,by omega⟩;have o:=qSu n m.wds.length (by omega);simp only[h0,g,Abx,By,IN,(h.app τ).Fa,AI,o,Aat,IT,Acg,(h.app τ).uX (show n<m.wds.length by omega)]
 ·rw[Aaz h0];simp only[Adz.2 h0,IS]
theorem pI {c:Prop} [Decidable c] {r a:Int × HM} (h:c->FZ r.2) (b:¬ c->FZ a.2):FZ (if c then r else a).2:=by
 split
 ·exact h ‹_›
 ·exact b ‹_›
theorem cm {m':HM} (h:FZ m) (hb:m'.bls=m.bls):FZ m':=by unfold FZ; rw[hb]; exact h
theorem rL (h:FZ m) (b c x y e g:Int) (i:x≠0) (a:e≠0\/c=1):FZ (BF m b c x y e g).2:=by
 unfold BF;refine pI (fun j=>pI (fun hu=>?_) fun _=>h) fun _=>h;intro d hd;have hd:(((VZ m.bls b.toNat (e,g) c.toNat 0).set b.toNat (x,y)).getD d (0,0)).1=0:=hd;show (((VZ m.bls b.toNat (e,g) c.toNat 0).set b.toNat (x,y)).getD d (0,0)).2=0;rw[Zt,J8] at hd ⊢;by_cases h1:d=b.toNat/\b.toNat<m.bls.length
 ·rw[Aay h1] at hd; exact absurd hd i
 ·rw[Aaz h1] at hd ⊢;rw[iB _ _ _ _ _ _ (by omega)] at hd ⊢;split at hd
  ·rename_i f;rcases a with a | rfl
   ·exact absurd hd a
   ·rw[show (1:Int).toNat=1 from rfl] at f;exact absurd ⟨by omega,by omega⟩ h1
  ·rename_i f;rw[Aaz f]; exact h d hd
theorem lL (h:FZ m) (b:Int):FZ (CZ m b).2:=by
 unfold CZ;refine pI (fun c=>pI (fun hu=>?_) fun _=>h) fun _=>h;intro d hd;have hd:((dk m.bls b.toNat (LG m b.toNat)).getD d (0,0)).1=0:=hd;show ((dk m.bls b.toNat (LG m b.toNat)).getD d (0,0)).2=0;rw[Rd] at hd ⊢;split
 ·rfl
 ·rename_i a;rw[Aaz a] at hd; exact h d hd
end
section
local instance qSE:AJ:=Ao
variable {J:Aa} {m:HM} {t:RM} {i:Cs} {j:RI}
structure Two (J:Aa) (i:Cs) (j:RI) (m:HM) (t:RM):Prop where
 h:Al J i m
 g:RG J j m t
 P:LN m
 z:FZ m
 b0:B0 m
 off:∀ q ∈ i.l,q ∉ j.l
 br:m.births<=1000
 fl:m.fw.length<=1000
theorem Two.app (T:Two J i j m t) (τ:Aa):Two (J++τ) i j m t:=⟨T.h.app τ,T.g.app τ,T.P,T.z,T.b0,T.off,T.br,T.fl⟩
def Ag (m:HM) (a:Int):Int × Int × Int:=if Aw m a then (Av m (a.toNat/2),Bp m (a.toNat/2),CC m (a.toNat/2)) else (0,0,0)
theorem mq (m:HM) (a:Int):(if Aw m a then oK m (a.toNat/2) else oJ) = .agg #[qIi (Ag m a).1,qIi (Ag m a).2.1,qIi (Ag m a).2.2]:=by
 unfold Ag; split <;> rfl
theorem OE (b:Inv m) (a:Int):0<=(Ag m a).1/\(Ag m a).1<=200/\0<=(Ag m a).2.1/\(Ag m a).2.1<=200:=by
 unfold Ag;split
 ·rename_i c;obtain ⟨j,rfl,hs⟩:=AY c;obtain ⟨_,d,e,f,g,_⟩:=Nc b hs;rw[show ((2*j:Nat):Int).toNat/2=j from by omega];dsimp only;omega
 ·dsimp only; omega
end
section
local instance qSG:AJ:=Ao
variable {J:Aa} {m:HM} {t:RM} {i:Cs} {j:RI}
theorem zB {s:Bx} {l:List Int} (h:Ct Ak 1 J s l.length (Bl l)) {x:Nat} (c:x<l.length):∃ b,s.1=some ⟨b,0,none⟩/\Aj .i64 J b x=some (l.getD x 0):=by
 rcases h with ⟨h,_⟩ | ⟨b,rfl,_,_,a⟩
 ·omega
 ·exact ⟨b,rfl,nZ a c⟩
theorem vT {s:Bx} {l:List (Nat × Nat)} (h:Ct AG 2 J s l.length (D7 l)) {x:Nat} (d:x<l.length):∃ b,s.1=some ⟨b,0,none⟩/\Aj .i64 J b (x*2)=some ((l.getD x (0,0)).1:Int)/\Aj .i64 J b (x*2+1)=some ((l.getD x (0,0)).2:Int):=by
 rcases h with ⟨h,_⟩ | ⟨b,rfl,_,_,a⟩
 ·omega
 ·obtain ⟨h1,c⟩:=WC l x d;exact ⟨b,rfl,by simp only[Aj,CW,a,h1,AI,Ah],by simp only[Aj,CW,a,c,AI,Ah]⟩
end
section
local instance qEA:AJ:=Ao
variable {J:Aa} {i:Cs} {m:HM}
structure AS where
 s:Int
 p:Int
 c:Int
 l:Int
 oc:Int
 ol:Int
def AS.row (a:AS) (hb:Nat):List Value:=[qVi (some ⟨hb,0,none⟩),qIi a.s,qIi a.p,qIi a.c,qIi a.l,qIi a.oc,qIi a.ol]
def Ec (J:Aa) (ab:Nat) (i:Cs) (a:AS):Prop:=J[ab]?=some (.cells (a.row i.hb) Cz true)
structure AS.ok (a:AS):Prop where
 s0:0<=a.s/\a.s<8
 p0:0<=a.p/\a.p<5
 c0:0<=a.c/\a.c<=10000
 l0:0<=a.l/\a.l<=10000
 oc0:0<=a.oc/\a.oc<=10000
 ol0:0<=a.ol/\a.ol<=10000
abbrev Qk (ab:Nat):qOi:=some ⟨ab,0,none⟩
variable {ab:Nat} {a:AS}
theorem Ec.dU (h:Ec J ab i a):B9 J ab 0=some (AU i):=by unfold Ec AS.row at h; simp[B9,CW,h,HR]
theorem Ec.l1 (h:Ec J ab i a):Aj .i64 J ab 1=some a.s:=by unfold Ec AS.row at h; simp[Aj,CW,h,Bk]
theorem Ec.l2 (h:Ec J ab i a):Aj .i64 J ab 2=some a.p:=by unfold Ec AS.row at h; simp[Aj,CW,h,Bk]
theorem Ec.l3 (h:Ec J ab i a):Aj .i64 J ab 3=some a.c:=by unfold Ec AS.row at h; simp[Aj,CW,h,Bk]
theorem Ec.l4 (h:Ec J ab i a):Aj .i64 J ab 4=some a.l:=by unfold Ec AS.row at h; simp[Aj,CW,h,Bk]
theorem Ec.l5 (h:Ec J ab i a):Aj .i64 J ab 5=some a.oc:=by unfold Ec AS.row at h; simp[Aj,CW,h,Bk]
theorem Ec.l6 (h:Ec J ab i a):Aj .i64 J ab 6=some a.ol:=by unfold Ec AS.row at h; simp[Aj,CW,h,Bk]
theorem Ec.lt (h:Ec J ab i a):ab<J.length:=Af h
theorem Ec.Ax {J':Aa} (h:Ec J ab i a) (hs:J'[ab]?=J[ab]?):Ec J' ab i a:=by unfold Ec; rw[hs]; exact h
theorem Ec.app (h:Ec J ab i a) (τ:Aa):Ec (J++τ) ab i a:=h.Ax (AT h.lt)
theorem Ec.DR {J':Aa} (h:Ec J ab i a) (k:Br i J J') (b:ab ∉ i.l):Ec J' ab i a:=h.Ax (k.same ab h.lt b)
theorem Ec.put (h:Ec J ab i a) (b:AS):Ec (J.set ab (.cells (b.row i.hb) Cz true)) ab i b:=by
 unfold Ec; rw[Aa2 h.lt]
theorem Ec.st (h:Ec J ab i a) (o:Nat) (vs:List Value) (b:AS) (e:Bb (a.row i.hb) o vs=b.row i.hb) (d:o+vs.length<=7):H5 J ab o vs=some (J.set ab (.cells (b.row i.hb) Cz true)):=by
 have c:=h;unfold Ec at c;simp only[H5,c];rw[Aay (by simpa [AS.row] using d),e]
theorem Ec.CY (h:Ec J ab i a) (o:Nat) (v:Value) (b:AS) (e:(a.row i.hb).set o v=b.row i.hb) (d:o<7):AX.CY J ab o v=some (J.set ab (.cells (b.row i.hb) Cz true)):=by
 have c:=h;unfold Ec at c;simp only[AX.CY,c];rw[Aay (by simpa [AS.row] using d),e]
structure GF (i:Cs) (ab:Nat) (J J':Aa):Prop where
 len:J.length<=J'.length
 same:∀ j,j<J.length->j ∉ i.l->j≠ab->J'[j]?=J[j]?
theorem GF.of {J':Aa} (h:Br i J J'):GF i ab J J':=⟨h.len,fun j h1 a _=>h.same j h1 a⟩
theorem GF.trans {x y z:Aa} (h:GF i ab x y) (g:GF i ab y z):GF i ab x z:=
 ⟨Adt h.len g.len,fun j h1 a b=>(g.same j (Acp h1 h.len) a b).trans (h.same j h1 a b)⟩
theorem GF.app (J τ:Aa):GF i ab J (J++τ):=.of (Br.app i J τ)
theorem GF.set (J:Aa) (o:Au):GF i ab J (J.set ab o):=⟨by simp,fun j _ _ h=>Aar fun e=>h e.symm⟩
theorem GF.refl (J:Aa):GF i ab J J:=.of (Br.refl i J)
theorem Al.Abw (h:Al J i m) (a:ab ∉ i.l) (o:Au):Al (J.set ab o) i m:=h.Ax fun j b=>Aar fun e=>a (by rw[e]; exact b)
theorem Acs (x:Addr):Lq P JG (qVi (some x)) (qVi none)=some false:=by kernel_rfl
theorem Abm (x:Addr):Lq P Fb (qVi (some x)) (qVi none)=some false:=by kernel_rfl
theorem um (k:Nat) (hA:Ec J ab i a):FC (k+1) (Qk ab) J=some (.bool true,J):=by
 rw[Pv];simp only[Acs,AI,Adi,IS,IN,Aa0,hA.dU,Abm]
def VE (m:HM):Nat->Nat->Option Nat
 | 0,_=>none
 | n+1,x=>if (m.bls.getD x (0,0)).1=0/\(m.bls.getD x (0,0)).2=0 then some x else VE m n (x+1)
def kH (m:HM):Option Nat:=VE m (m.bls.length-1) 1
def XU (m:HM) (b:Nat) (s:Int):HM:=(BF m (b:Int) 1 1 s 0 0).2
theorem rM (m:HM) {x:Nat} {s:Int} (h1:1<=x) (b:x<m.bls.length) (hs:0<=s/\s<8):
  BF m (x:Int) 1 1 s 0 0=if (m.bls.getD x (0,0)).1=0/\(m.bls.getD x (0,0)).2=0 then (0,XU m x s) else (8,m):=by
 have e:(1<=(x:Int)/\(x:Int)<(m.bls.length:Int)/\(1:Int)<=1/\(1:Int)<=(m.bls.length:Int)-(x:Int)/\ZX s=true):=⟨by omega,by omega,by omega,by omega,by unfold ZX; simpa using hs⟩;have u:KO m.bls x 1 0=if (m.bls.getD x (0,0)).1=0/\(m.bls.getD x (0,0)).2=0 then none else some 0:=by
  simp only[KO,Aa0]
 unfold XU BF;rw[Aay e,IT,show (1:Int).toNat=1 from rfl,u];by_cases a:(m.bls.getD x (0,0)).1=0/\(m.bls.getD x (0,0)).2=0
 ·simp only[a,Afz,Aat]
 ·simp only[a,Aa5]; simp
theorem nN {n x b:Nat} (h:VE m n x=some b):x<=b/\b<x+n/\(m.bls.getD b (0,0)).1=0/\(m.bls.getD b (0,0)).2=0:=by
 induction n generalizing x with
 | zero=>cases h
 | succ n a=>
   unfold VE at h;split at h
   ·cases h; omega
   ·have:=a h; omega
def VA (x y:Int):Au:=.cells [qIi x,qIi y] N4 true
theorem Zl (k:Nat) (I:5000<=k) (p:ab ∉ i.l) (hs:0<=a.s/\a.s<8) {h1:Nat} (d:h1 ∉ i.l) (y:h1≠ab):∀ (n x f:Nat) (J:Aa),Al J i m->Ec J ab i a->J[h1]?=some (VA 0 0)->1<=x->x+n=m.bls.length->n<f ->
  ∃ J',Df (k+8) f (Qk ab) h1 (x:Int) J=some (match VE m n x with | some b=>(.ret,[.bool true],J') | none=>(.exit 0,[],J'))/\Al J' i (match VE m n x with | some b=>XU m b a.s | none=>m) /\
   J'[h1]?=some (match VE m n x with | some b=>VA (64*(b:Int)) (64*(b:Int)+64) | none=>VA 0 0)/\J.length<=J'.length /\ ∀ q,q<J.length->q ∉ i.l->q≠h1->J'[q]?=J[q]?
 | n,x,0,J,h,l,r,z,C,B=>by omega
 | 0,x,f+1,J,h,l,r,z,C,B=>by
   rw[J0];refine ⟨J, ?_,h,r,Aa1 _,fun _ _ _ _=>rfl⟩;simp only[AI,Aa0,l.dU,GW (k+6) h,Ah,dFu x m.bls.length (by omega),By,VE]
 | n+1,x,f+1,J,h,l,r,z,C,B=>by
   have K:=h.nt;obtain ⟨J1_,A,o,g⟩:=aC (k+1) (by omega) h (x:Int) a.s (by unfold AQ; omega);have w:=l.DR g p;rw[rM m z (by omega) hs] at A o;have c:=(g.same h1 (Af r) d).trans r;have D:=wSu x (by omega);have M:Ar ((x:Int)*64)=64*(x:Int):=by rw[Ai (by unfold AQ; omega)]; omega
   have N:Ar (((x+1:Nat):Int)*64)=64*(x:Int)+64:=by rw[Ai (by unfold AQ; omega)]; omega
   rw[J0];simp only[AI,Aa0,l.dU,GW (k+6) h,Ah,dTu x m.bls.length (by omega),IS,IN,l.l1,A,VE];by_cases s:(m.bls.getD x (0,0)).1=0/\(m.bls.getD x (0,0)).2=0
   ·simp only[s,Afz,Aat] at o ⊢;refine ⟨J1_.set h1 (VA (64*(x:Int)) (64*(x:Int)+64)), ?_,o.Ax fun j H=>Aar fun e=>d (by rw[e]; exact H),by rw[Aa2 (Af c)],by simpa using g.len,fun q u t v=>by rw[Aar (fun e=>v e.symm)]; exact g.same q u t⟩;simp only[Ad1,IS,D,M,N,H5,c,VA];rfl
   ·simp only[s,Aa5] at o ⊢;obtain ⟨J2_,F,G,E,L,s2⟩:=Zl k I p hs d y n (x+1) f J1_ o w c (by omega) (by omega) (by omega);refine ⟨J2_, ?_,G,E,Adt g.len L,fun q u t v=>by rw[s2 q (Acp u g.len) t v]; exact g.same q u t⟩;simp only[show ((8:Int) == 0)=false from rfl,By,D,F]
def uA (m:HM):Int × Int × Bool:=match kH m with | some b=>(64*(b:Int),64*(b:Int)+64,true) | none=>(0,0,false)
def zF (m:HM) (s:Int):HM:=match kH m with | some b=>XU m b s | none=>m
theorem uB (k:Nat) (s:5000<=k) (h:Al J i m) (hA:Ec J ab i a) (g:ab ∉ i.l) (hs:0<=a.s/\a.s<8):
  ∃ J',Fl (k+9) (Qk ab) J=some (.tuple #[.agg #[qIi (uA m).1,qIi (uA m).2.1],.bool (uA m).2.2],J')/\Al J' i (zF m a.s)/\Br i J J':=by
 have v:=h.nt; have u:=h.nb;have t:=hA.lt;obtain ⟨J1_,l,f,c,w,s1⟩:=Zl k s g hs (h1:=J.length) (fun hm=>Ae6 _ (h.lt _ hm)) (by omega) (m.bls.length-1) 1 (k+8) (J++[VA 0 0]) (h.app _) (hA.app _) (by simp) (Aa1 _) (by omega) (by omega);have p:Br i J J1_:=⟨by simp at w; omega,fun q o n=>by rw[s1 q (by simp; omega) n (by omega),AT o]⟩;rw[OL];simp only[Ae,show (Au.cells [qIi 0,qIi 0] N4 true)=VA 0 0 from rfl];rw[show ((1:Nat):Int)=1 from rfl] at l;unfold uA zF kH;simp only[l];cases d:VE m (m.bls.length-1) 1 with
 | none=>
   simp only[d] at f c;refine ⟨J1_.set J.length (VA 0 0), ?_,f.Ax fun j r=>Aar fun e=>Ae6 J.length (by have:=h.lt _ r; omega),p.trans ⟨by simp,fun q o n=>?_⟩⟩
   ·simp only[AI,Aat,H5,c,VA,Nm];simp[Bb,Lh,Aa2 (Af c)]
   ·rcases Ae2 q J.length with e | e | e
    ·rw[Aar (by omega)]
    ·rw[e,Aa2 (Af c),c]
    ·rw[Aar (by omega)]
 | some b=>
   simp only[d] at f c;refine ⟨J1_, ?_,f,p⟩;simp only[AI,show (CA.ret=CA.exit 0)=False from by simp,Aa5,Aat,oT,Nm,c,VA];rfl
def vV (m:HM) (b:Int):Int:=if 0<=b/\b<(m.bls.length:Int) then (m.bls.getD b.toNat (0,0)).2 else -1
theorem xd (k:Nat) (h:Al J i m) (b:Int):BH (k+3) (AU i) b J=some (qIi (vV m b),J):=by
 unfold vV;by_cases hb:0<=b/\b<(m.bls.length:Int)
 ·rw[Aay hb];obtain ⟨n,rfl⟩:∃ n:Nat,b=(n:Int):=⟨b.toNat,by omega⟩;rw[IT];exact bd k h (by omega)
 ·rw[Aaz hb,K8];by_cases h0:b<0
  ·simp only[Aak h0,IS,AI]
  ·simp only[Aaj h0,By,GW k h,AI,Ah,Aak (show b>=((m.bls.length:Nat):Int) by omega),IS]
end
section
local instance qEB:AJ:=Ao
variable {J:Aa} {i:Cs} {m:HM} {ab:Nat} {a:AS}
def AS.li (a:AS) (v:Bool):Int:=bif v then a.ol else a.l
def AS.put (a:AS) (v:Bool) (x y:Int):AS:=bif v then { a with oc:=x,ol:=y } else { a with c:=x,l:=y }
def ofs (v:Bool):Nat:=bif v then 5 else 3
theorem Ec.ll (h:Ec J ab i a) (v:Bool):Aj .i64 J ab (ofs v+1)=some (a.li v):=match v with | false=>h.l4 | true=>h.l6
theorem AS.ok.put (h:a.ok) (v:Bool) {x y:Int} (b:0<=x/\x<=10000) (c:0<=y/\y<=10000):(a.put v x y).ok:=by
 cases v
 ·exact ⟨h.s0,h.p0,b,c,h.oc0,h.ol0⟩
 ·exact ⟨h.s0,h.p0,h.c0,h.l0,b,c⟩
theorem Aby (Z:Aa) (T:TypeId) (p q x y:Value):H5 (Z++[.cells [p,q] T true]) Z.length 0 [x,y]=some (Z++[.cells [x,y] T true]):=by
 simp[H5,Bb]
theorem UL (Z:Aa) (T:TypeId) (x y:Int):Aj .i64 (Z++[.cells [qIi x,qIi y] T true]) Z.length 0=some x/\Aj .i64 (Z++[.cells [qIi x,qIi y] T true]) Z.length 1=some y:=by
 simp[Aj,CW,Bk]
abbrev PR:=(Int × Bool) × HM × AS
def tY (mm:Option (Value × Aa)) (J:Aa) (i:Cs) (ab:Nat) (r:PR):Prop:=
 ∃ J',mm=some (.tuple #[qIi r.1.1,.bool r.1.2],J')/\Al J' i r.2.1/\Ec J' ab i r.2.2/\GF i ab J J'
theorem ny {b c x y a d:Int} (h:(BF m b c x y a d).1≠0):(BF m b c x y a d).2=m:=by
 unfold BF at *;split at h
 ·split at h
  ·exact absurd rfl h
  ·rename_i h1 e; rw[Aay h1,Aaz e]
 ·rename_i h1; rw[Aaz h1]
def wD (m:HM) (c:Nat) (s:Int):Nat->Nat->Option Nat
 | 0,_=>none
 | n+1,x=>if x+c<=m.bls.length then (if (BF m (x:Int) (c:Int) 2 s 3 s).1=0 then some x else wD m c s n (x+1)) else none
theorem Zv (k:Nat) (u:5000<=k) (e:ab ∉ i.l) {c:Nat} (s:c<=100):∀ (n x f:Nat) (J:Aa),Al J i m->Ec J ab i a->x<=100->m.bls.length<x+n->n<f ->
  ∃ J',Dg (k+8) f (Qk ab) (c:Int) (x:Int) J=some (match wD m c a.s n x with | some b=>(.ret,[qIi (64*(b:Int)),.bool true],J') | none=>(.exit 0,[],J'))/\Al J' i (match wD m c a.s n x with | some b=>(BF m (b:Int) (c:Int) 2 a.s 3 a.s).2 | none=>m)/\Br i J J'
 | n,x,0,J,h,g,y,v,t=>by omega
 | n,x,f+1,J,h,g,y,v,t=>by
   have w:=h.nt;have w0:Ar ((x:Int)+(c:Int))=((x+c:Nat):Int):=Ai (by unfold AQ; omega);rw[N9];simp only[AI,Aa0,IN,g.dU,GW (k+6) h,Ah,w0];by_cases q:x+c<=m.bls.length
   ·obtain ⟨n,rfl⟩:∃ B,n=B+1:=⟨n-1,by omega⟩;obtain ⟨J1_,o,j,l⟩:=Sp (k+1) (by omega) h (x:Int) (c:Int) a.s (by unfold AQ; omega) (by unfold AQ; omega);simp only[Aak (show ((x+c:Nat):Int)<=((m.bls.length:Nat):Int) by omega),IS,g.l1,AI,o,Ah,wD,Aay q];by_cases d:(BF m (x:Int) (c:Int) 2 a.s 3 a.s).1=0
    ·refine ⟨J1_, ?_, ?_,l⟩
     ·simp only[d,Ad1,IS,Aat];rw[show Ar ((x:Int)*64)=64*(x:Int) from by rw[Ai (by unfold AQ; omega)]; omega]
     ·simp only[d,Aat]; exact j
    ·rw[ny d] at j;obtain ⟨J2_,p,r,A⟩:=Zv k u e s n (x+1) f J1_ j (g.DR l e) (by omega) (by omega) (by omega);refine ⟨J2_, ?_, ?_,l.trans A⟩
     ·simp only[show ((BF m (x:Int) (c:Int) 2 a.s 3 a.s).1 == 0)=false from by simpa using d,By,Aaz d];rw[show Ar ((x:Int)+1)=((x+1:Nat):Int) from Ai (by unfold AQ; omega)];exact p
     ·simp only[Aaz d]; exact r
   ·have z:wD m c a.s n x=none:=by
     cases n with
     | zero=>rfl
     | succ n=>simp only[wD,Aaz q]
    refine ⟨J, ?_, ?_,Br.refl _ _⟩
    ·simp only[Aaj (show ¬ ((x+c:Nat):Int)<=((m.bls.length:Nat):Int) by omega),By,z]
    ·simp only[z]; exact h
def cA (m:HM) (a:AS) (w:Int):PR:=
 match wD m ((w.toNat+63)/64) a.s m.bls.length 1 with
 | some b=>((64*(b:Int),true),(BF m (b:Int) (((w.toNat+63)/64:Nat):Int) 2 a.s 3 a.s).2,a)
 | none=>((0,false),m,a)
theorem uS (k:Nat) (o:5000<=k) (h:Al J i m) (hA:Ec J ab i a) (d:ab ∉ i.l) {w:Int} (hw:0<=w/\w<=1000):
  tY (Fm (k+9) (Qk ab) w J) J i ab (cA m a w):=by
 have p:=h.nt;obtain ⟨w,rfl⟩:∃ n:Nat,w=(n:Int):=⟨w.toNat,by omega⟩;have q:Ar (Ar (Ar ((w:Int)+64)-1))=Ar (Ar ((w:Int)+64)-1):=by
  rw[Ai (show AQ ((w:Int)+64) by unfold AQ; omega),Ai (show AQ ((w:Int)+64-1) by unfold AQ; omega),Ai (by unfold AQ; omega)]
 have l:Ar ((Ar (Ar ((w:Int)+64)-1)).tdiv 64)=(((w+63)/64:Nat):Int):=by
  rw[Ai (show AQ ((w:Int)+64) by unfold AQ; omega),Ai (show AQ ((w:Int)+64-1) by unfold AQ; omega),show (w:Int)+64-1=((w+63:Nat):Int) from by omega,show (((w+63:Nat):Int).tdiv 64)=(((w+63)/64:Nat):Int) from rfl];exact Ai (by unfold AQ; omega)
 obtain ⟨J1_,g,e,f⟩:=Zv k o d (c:=(w+63)/64) (a:=a) (by omega) m.bls.length 1 (k+8) J h hA (by omega) (by omega) (by omega);rw[show ((1:Nat):Int)=1 from rfl] at g;rw[OM];rw[Aaz (by decide)];unfold cA tY;simp only[l,g,IT,AI];cases j:wD m ((w+63)/64) a.s m.bls.length 1 with
 | none=>
   simp only[j] at e ⊢;exact ⟨J1_,by simp only[Aat],e,hA.DR f d,GF.of f⟩
 | some b=>
   simp only[j] at e ⊢;exact ⟨J1_,by simp only[show (CA.ret=CA.exit 0)=False from by simp,Aa5,Aat,ju],e,hA.DR f d,GF.of f⟩
end
section
local instance qEC:AJ:=Ao
variable {J:Aa} {i:Cs} {m:HM} {ab:Nat} {a:AS}
def Ac7:Nat->TypeId
 | 0=>Jw
 | 1=>fe
 | 2=>fg
 | 3=>ff
 | _=>dN
def cZ (n:Nat):Value:=.iface (Ac7 n) (.agg #[])
def o7:Au:=.cells [cZ 0,cZ 1,cZ 2,cZ 3,cZ 4] S8 true
theorem Z1 (k:Nat) (J:Aa):Fo (k+1) J=some (.slice (some ⟨J.length,0,none⟩) 5 5,J++[o7]):=by
 rw[UT]; rfl
def plV (p w:Int):Value:=if w>32 then .func (.func LC) #[] #[] else .func (.method "dustcart/alloc.place") #[cZ p.toNat] #[]
def Ry (m:HM) (a:AS) (r d c:Int) (b:PR):(Int × Int) × HM × AS:=
 if valid r d c=true then
  (if b.1.2=true then
   (if vV b.2.1 (b.1.1.tdiv 64)=a.s then
    (if (CX b.2.1 b.1.1 r d c).2.1=0 then ((b.1.1,0),(CX b.2.1 b.1.1 r d c).2.2,b.2.2) else ((0,6),(CX b.2.1 b.1.1 r d c).2.2,a))
   else ((0,6),b.2.1,a))
  else ((0,6),b.2.1,b.2.2))
 else ((0,2),m,a)
def yu (mm:Option (Value × Aa)) (J:Aa) (i:Cs) (ab:Nat) (r:(Int × Int) × HM × AS):Prop:=
 ∃ J',mm=some (.tuple #[qIi r.1.1,qIi r.1.2],J')/\Al J' i r.2.1/\Ec J' ab i r.2.2/\GF i ab J J'
theorem Ada (Z:Aa) (T:TypeId) (p q x y z u w p' q' b c z' a w':Value):H5 (Z++[.cells [p,q,x,y,z,u,w] T true]) Z.length 0 [p',q',b,c,z',a,w']=some (Z++[.cells [p',q',b,c,z',a,w'] T true]):=by
 simp[H5,Bb]
set_option maxHeartbeats 1000000 in
theorem tE (k:Nat) (hk:5000<=k) (h:Al J i m) (hA:Ec J ab i a) (l:ab ∉ i.l) (ho:a.ok) {r d c:Int} (b:PR)
  (hp:valid r d c=true -> ∀ J0_,Al J0_ i m->Ec J0_ ab i a->tY (IJ (k+12) (plV a.p (words r d c)) [qVi (Qk ab),qIi (words r d c)] J0_) J0_ i ab b)
  (Y:valid r d c=true->Inv b.2.1) (hb:valid r d c=true->b.2.1.births<1000000) (o:valid r d c=true->0<=b.1.1/\b.1.1<=10000) (y:valid r d c=true->b.2.2.s=a.s):
  yu (De (k+13) (Qk ab) r d c J) J i ab (Ry m a r d c b):=by
 have aa:=hA.lt;rw[OK];simp only[Ae];obtain ⟨Z0_,g⟩:∃ Z0_,J++[Au.cells [Value.int .i64 r,qIi d,qIi c] Ad true]=Z0_:=⟨_,rfl⟩;rw[g];have h0:Al Z0_ i m:=g ▸ h.app _;have A0:Ec Z0_ ab i a:=g ▸ hA.app _;have K0:GF i ab J Z0_:=g ▸ GF.app J _;have v:Z0_[J.length]?=some (Au.cells [Value.int .i64 r,qIi d,qIi c] Ad true):=by rw[<- g]; simp
 have w:∀ {Z:Aa},Z[J.length]?=some (Au.cells [Value.int .i64 r,qIi d,qIi c] Ad true)->Aj .i64 Z J.length 0=some r/\Aj .i64 Z J.length 1=some d/\Aj .i64 Z J.length 2=some c:=by
  intro Z hm; simp[Aj,CW,hm,Bk]
 obtain ⟨L,M,N⟩:=w v;obtain ⟨u,S⟩:=Ny (k+11) r d c Z0_;simp only[um (k+11) A0,AI,An,Aa4,By,IN,Nat.reduceAdd,L,M,N,S];unfold Ry;cases t:valid r d c with
 | false=>
   simp only[Adi,IS,Ab8,Aa5];exact ⟨Z0_++u,rfl,h0.app _,A0.app _,K0.trans (GF.app _ _)⟩
 | true=>
   have x:=o t;obtain ⟨τ2,C⟩:=Qt (k+10) r d c (Z0_++u);have S1:(Z0_++u)[J.length]?=some (Au.cells [Value.int .i64 r,qIi d,qIi c] Ad true):=by rw[AT (Af v)]; exact v
   obtain ⟨O,P,Q⟩:=w S1;obtain ⟨Z2_,j⟩:∃ Z2_,Z0_++u++τ2=Z2_:=⟨_,rfl⟩;rw[j] at C;have W:Al Z2_ i m:=j ▸ (h0.app _).app _;have A2:Ec Z2_ ab i a:=j ▸ (A0.app _).app _;have K2:GF i ab J Z2_:=j ▸ (K0.trans (GF.app _ _)).trans (GF.app _ _);have S2:Z2_[J.length]?=some (Au.cells [Value.int .i64 r,qIi d,qIi c] Ad true):=by rw[<- j,AT (Af S1)]; exact S1
   obtain ⟨Z3_,e⟩:∃ Z3_,Z2_++[o7]=Z3_:=⟨_,rfl⟩;have D:Fo (k+12) Z2_=_:=Z1 (k+11) Z2_;rw[e] at D;have E:Al Z3_ i m:=e ▸ W.app _;have A3:Ec Z3_ ab i a:=e ▸ A2.app _;have K3:GF i ab J Z3_:=e ▸ K2.trans (GF.app _ _);have S3:Z3_[J.length]?=some (Au.cells [Value.int .i64 r,qIi d,qIi c] Ad true):=by rw[<- e,AT (Af S2)]; exact S2
   have p0:=ho.p0;have lp:CW Z3_ Z2_.length a.p.toNat=some (cZ a.p.toNat):=by
    rw[<- e]; unfold o7; rw[pY];obtain ⟨n,hn⟩:∃ n:Nat,a.p=(n:Int):=⟨a.p.toNat,by omega⟩;rw[hn,IT]
    match n,(show n<5 by omega) with
    | 0,_=>rfl
    | 1,_=>rfl
    | 2,_=>rfl
    | 3,_=>rfl
    | 4,_=>rfl
   have p:∀ (n:Nat) (K:Value->Option (Value × Aa)),og (cZ n) K=K (cZ n):=fun _ _=>rfl;obtain ⟨Z4_,f⟩:∃ Z4_,Z3_++[Au.cells (a.row i.hb) Cz true]=Z4_:=⟨_,rfl⟩;have X:Al Z4_ i m:=f ▸ E.app _;have A4:Ec Z4_ ab i a:=f ▸ A3.app _;have K4:GF i ab J Z4_:=f ▸ K3.trans (GF.app _ _);have S4:Z4_[J.length]?=some (Au.cells [Value.int .i64 r,qIi d,qIi c] Ad true):=by rw[<- f,AT (Af S3)]; exact S3
   have W4:Ec Z4_ Z3_.length i a:=by unfold Ec; rw[<- f]; simp
   have H:Z3_.length ∉ i.l:=fun hm=>Ae6 _ (E.lt _ hm);have ns:J.length ∉ i.l:=fun hm=>Ae6 _ (h.lt _ hm);have G:=A3.lt;have ad:=K3.len;obtain ⟨Z5_,T,h5,A5,K5⟩:=hp t Z4_ X A4;have W5:Ec Z5_ Z3_.length i a:=W4.Ax (K5.same _ W4.lt H (by omega));have S5:Z5_[J.length]?=some (Au.cells [Value.int .i64 r,qIi d,qIi c] Ad true):=by rw[K5.same _ (Af S4) ns (by omega)]; exact S4
   have K05:=K4.trans K5;simp only[Aa4,By,O,P,Q,C,AI,Ah,D,Eo,A3.l2,IN,Acg,lp,p];rw[Aay (show 0<=a.p/\a.p<((5:Nat):Int) by omega)];have s:∀ (K:Bq->Option (Value × Aa)),((bif decide (words r d c>32) then (some (CA.normal,[Value.func (.func LC) #[] #[]],Z3_)) else (some (CA.normal,[(Value.func (.method "dustcart/alloc.place") #[cZ a.p.toNat] #[])],Z3_)):Option Bq).bind K)=K (.normal,[plV a.p (words r d c)],Z3_):=by
    intro K;unfold plV;by_cases q:words r d c>32
    ·rw[Aak q,Aay q]; rfl
    ·rw[Aaj q,Aaz q]; rfl
   have z:H5 (Z3_++[Au.cells [qVi none,qIi (0:Int),qIi (0:Int),qIi (0:Int),qIi (0:Int),qIi (0:Int),qIi (0:Int)] Cz true]) Z3_.length 0 [qVi (AU i),qIi a.s,qIi a.p,qIi a.c,qIi a.l,qIi a.oc,qIi a.ol]=some Z4_:=by
    rw[Ada,<- f]; rfl
   rw[s];simp only[Aat,Aam,AI,A3.dU,A3.l1,A3.l2,A3.l3,A3.l4,A3.l5,A3.l6,z,T,Si];cases ac:b.1.2 with
   | false=>
     simp only[Adi,IS,Ab8,Aa5];exact ⟨Z5_,rfl,h5,A5,K05⟩
   | true=>
     have wq:Ar (b.1.1.tdiv 64)=b.1.1.tdiv 64:=by
      rw[Afn x.1]; exact Ai (by unfold AQ; omega)
     have U:BH (k+12) (AU i) (b.1.1.tdiv 64) Z5_=_:=xd (k+9) h5 (b.1.1.tdiv 64);simp only[Aa4,By,A5.dU,AI,wq,U,Ah,A5.l1,y t,Aat];rw[Aaz (by decide)];have restore:∀ {Z:Aa} {I:AS},Ec Z ab i I->H5 Z ab 0 [qVi (AU i),qIi a.s,qIi a.p,qIi a.c,qIi a.l,qIi a.oc,qIi a.ol]=some (Z.set ab (.cells (a.row i.hb) Cz true)):=fun hh=>hh.st 0 _ a rfl (by simp);by_cases q:vV b.2.1 (b.1.1.tdiv 64)=a.s
     ·obtain ⟨s0,s1,s2⟩:=w S5;obtain ⟨Z6_,V,F,A⟩:=aT k hk h5 (Y t) (hb t) b.1.1 r d c (by unfold AQ; omega);have A6:=A5.DR A l;have W6:Ec Z6_ Z3_.length i a:=W5.DR A H;have K06:=K05.trans (GF.of A);simp only[q,Ad1,IS,s0,s1,s2,AI,V,B6,Aat,Em];by_cases B:(CX b.2.1 b.1.1 r d c).2.1=0
      ·simp only[B,Abx,By,Aat];exact ⟨Z6_,rfl,F,A6,K06⟩
      ·simp only[show ((CX b.2.1 b.1.1 r d c).2.1 != 0)=true from by simpa using B,IS,Aaz B,W6.dU,W6.l1,W6.l2,W6.l3,W6.l4,W6.l5,W6.l6,AI,restore A6];exact ⟨_,rfl,F.Abw l _,A6.put a,K06.trans (GF.set _ _)⟩
     ·simp only[show (vV b.2.1 (b.1.1.tdiv 64) == a.s)=false from by simpa using q,By,AI,Aat,Em,show ((5:Int) != 0)=true from rfl,IS,Aaz q,W5.dU,W5.l1,W5.l2,W5.l3,W5.l4,W5.l5,W5.l6,restore A5];exact ⟨_,rfl,h5.Abw l _,A5.put a,K05.trans (GF.set _ _)⟩
theorem wF (k:Nat) (h:Al J i m) (s p:Int):∃ J1_,LU (k+3) (AU i) s p J=(if (0<=s/\s<8)/\(0<=p/\p<5) then some (.tuple #[qVi (Qk J1_.length),qIi 0],J1_++[Au.cells ((⟨s,p,0,0,0,0⟩:AS).row i.hb) Cz true]) else some (.tuple #[qVi none,qIi 1],J1_)) /\ ∃ τ,J1_=J++τ:=by
 have d:=h.nb;rw[bK];have e:(((m.bls.length:Nat):Int) == 0)=false:=Ach.2 (by omega);simp only[GW k h,AI,Ah,e,By];by_cases h1:s<0
 ·refine ⟨J, ?_,[],by simp⟩;simp only[Aak h1,AI,IS,Aaz (show ¬ ((0<=s/\s<8)/\(0<=p/\p<5)) by omega)]
 simp only[Aaj h1,AI,By];by_cases a:s>=8
 ·refine ⟨J, ?_,[],by simp⟩;simp only[Aak a,AI,IS,Aaz (show ¬ ((0<=s/\s<8)/\(0<=p/\p<5)) by omega)]
 simp only[Aaj a,AI,By];by_cases b:p<0
 ·refine ⟨J, ?_,[],by simp⟩;simp only[Aak b,AI,IS,Aaz (show ¬ ((0<=s/\s<8)/\(0<=p/\p<5)) by omega)]
 simp only[Aaj b,AI,By,Z1,Eo];by_cases c:p>=((5:Nat):Int)
 ·refine ⟨J++[o7], ?_,[o7],rfl⟩;simp only[Aak c,IS,Aaz (show ¬ ((0<=s/\s<8)/\(0<=p/\p<5)) by omega)]
 ·refine ⟨J++[o7], ?_,[o7],rfl⟩;simp only[Aaj c,By,Aay (show (0<=s/\s<8)/\(0<=p/\p<5) by omega),Ae];rfl
end
section
local instance qEK:AJ:=Ao
variable {J:Aa} {i:Cs} {m:HM} {ab:Nat} {a:AS}
structure yX (m:HM) (a:AS) (r:(Int × Int) × HM × AS):Prop where
 inv:Inv r.2.1
 inv2:Inv2 r.2.1
 b1:m.births<=r.2.1.births
 b2:r.2.1.births<=m.births+1
 len:r.2.1.bls.length=m.bls.length
 s:r.2.2.s=a.s
 p:r.2.2.p=a.p
 ok:r.2.2.ok
theorem tz {r d c:Int} (h:valid r d c=true):2<=words r d c/\words r d c<=218/\words r d c % 2=0:=by
 unfold words;rw[h];simp only[IS];simp[valid] at h;omega
end
section
local instance qEE:AJ:=Ao
variable {J:Aa} {i:Cs} {m:HM} {ab:Nat} {a:AS}
def J7 (m:HM) (s:Int) (n:Nat):List Nat:=(List.range n).filter fun b=>decide ((m.bls.getD b (0,0)).1=1/\(m.bls.getD b (0,0)).2=s)
def ZW (l:List Nat):List Int:=l.map fun b:Nat=>(b:Int)
theorem WW (m:HM) (s:Int) (n:Nat):J7 m s (n+1)=J7 m s n++if (m.bls.getD n (0,0)).1=1/\(m.bls.getD n (0,0)).2=s then [n] else []:=by
 unfold J7;rw[Agl,Afv];congr 1;by_cases q:(m.bls.getD n (0,0)).1=1/\(m.bls.getD n (0,0)).2=s
 ·rw[Aay q,Ae0,Aay (Aak q)]; rfl
 ·rw[Aaz q,Ae0,Aaz (by rw[Aaj q]; decide)]; rfl
theorem Zm (m:HM) (s:Int) (n:Nat):(J7 m s n).length<=n:=by
 have:=Afc (fun b=>decide ((m.bls.getD b (0,0)).1=1/\(m.bls.getD b (0,0)).2=s)) (List.range n);rw[Agp] at this; exact this
theorem kQ {m:HM} {s:Int} {n b:Nat}:b ∈ J7 m s n↔b<n/\(m.bls.getD b (0,0)).1=1/\(m.bls.getD b (0,0)).2=s:=by
 unfold J7; simp[Aea]
theorem xn {α:Type} (x u y v:Int) (s:α):(bif x == u then some (y == v,s) else some (false,s))=some (decide (x=u/\y=v),s):=by
 by_cases q:x=u
 ·subst q;by_cases a:y=v
  ·subst a; simp
  ·simp[a]
 ·rw[show (x == u)=false from by simpa using q]; simp[q]
theorem R5 (k:Nat) (h:Al J i m) (hA:Ec J ab i a):∀ (n x f:Nat) (τ:Aa) (s:Bx),x+n=m.bls.length->CB J.length (J++τ) s (ZW (J7 m a.s x))->n<f ->
  ∃ o s',Ch (k+4) f (Qk ab) ((m.bls.length:Nat):Int) s (x:Int) (J++τ)=some (.exit 0,[.slice s'.1 s'.2.1 s'.2.2],J++o)/\CB J.length (J++o) s' (ZW (J7 m a.s m.bls.length))
 | n,x,0,τ,s,l,hs,j=>by omega
 | 0,x,f+1,τ,s,l,hs,j=>by
   obtain rfl:x=m.bls.length:=by omega
   rw[Ja];exact ⟨τ,s,by simp only[Aaj (Int.lt_irrefl _),By],hs⟩
 | n+1,x,f+1,τ,s,l,hs,j=>by
   have u:=h.nt;have b:x<m.bls.length:=by omega
   have g:=h.app τ;have A:=hA.app τ;have v:=wSu x (by omega);have p:Bn (k+4) (AU i) (x:Int) (J++τ)=_:=jO (k+1) g b;have r:BH (k+4) (AU i) (x:Int) (J++τ)=_:=bd (k+1) g b;rw[Ja];simp only[dTu x m.bls.length (by omega),IS,AI,Aa0,IN,A.dU,p,r,Ah,A.l1,v];rw[xn];by_cases q:(m.bls.getD x (0,0)).1=1/\(m.bls.getD x (0,0)).2=a.s
   ·obtain ⟨s1,w,t,i1⟩:=cy J τ s _ (x:Int) (by have:=Zm m a.s x; simp[ZW]; omega) hs;have c:AH P Ak (s.1,s.2.1,s.2.2) (some ⟨(J++τ).length,0,none⟩,1,1) (J++τ++[.cells [qIi (x:Int)] Ak true])=_:=t;obtain ⟨e,s2,d,i2⟩:=R5 k h hA n (x+1) f w s1 (by omega) (by rw[WW,Aay q]; simpa [ZW] using i1) (by omega);refine ⟨e,s2, ?_,i2⟩;simp only[Aak q,AI,IS,Ae,c,Aat,HW];exact d
   ·obtain ⟨e,s2,d,i2⟩:=R5 k h hA n (x+1) f τ s (by omega) (by rw[WW,Aaz q,Ab1]; exact hs) (by omega);refine ⟨e,s2, ?_,i2⟩;simp only[Aaj q,AI,By,Aat,HW];exact d
theorem rJ (k:Nat) (f:100<=k) (h:Al J i m) (hA:Ec J ab i a):
  ∃ τ s,D9 (k+5) (Qk ab) J=some (.slice s.1 s.2.1 s.2.2,J++τ)/\CB J.length (J++τ) s (ZW (J7 m a.s m.bls.length)):=by
 have d:=h.nt;obtain ⟨τ,s,e,hs⟩:=R5 k h hA m.bls.length 0 (k+4) [] (none,0,0) (by omega) (.inl ⟨rfl,rfl⟩) (by omega);rw[Ab1] at e;refine ⟨τ,s, ?_,hs⟩;have b:Ch (k+4) (k+4) (Qk ab) ((m.bls.length:Nat):Int) (none,0,0) 0 J=_:=e;have c:AF (k+4) (AU i) J=_:=GW (k+2) h;rw[Ot];simp only[AI,Aa0,hA.dU,c,Ah,b,Aat,HW]
def ey (f w:Nat) (g:Nat × Nat):Option (Nat × Nat):=if w<=g.1+g.2-max f g.1 then some (max f g.1,g.1+g.2-max f g.1) else none
theorem Ac8 (Z:Aa) (T:TypeId) (p q x:Value):CY (Z++[.cells [p,q] T true]) Z.length 0 x=some (Z++[.cells [x,q] T true]):=by
 simp[CY]
theorem Ac9 (Z:Aa) (T:TypeId) (p q x:Value):CY (Z++[.cells [p,q] T true]) Z.length 1 x=some (Z++[.cells [p,x] T true]):=by
 simp[CY]
theorem xy (g:Nat × Nat) (fr w:Nat) (f:fr<=10000) (hw:1<=w) (i:g.1+g.2<=10000) (Z:Aa):
  ∃ st sz:Int,((bif decide (Ar ((fr:Int)-(g.1:Int))>0) then ((CY (Z++[.cells [qIi (g.1:Int),qIi (g.2:Int)] AG true]) Z.length 0 (qIi (fr:Int))).bind fun b=>(CY b Z.length 1 (qIi (Ar ((g.2:Int)-Ar ((fr:Int)-(g.1:Int)))))).bind fun c=>some (.normal,[],c)) else (some (.normal,[],Z++[.cells [qIi (g.1:Int),qIi (g.2:Int)] AG true])):Option Bq) =
   some (.normal,[],Z++[.cells [qIi st,qIi sz] AG true]))/\(match ey fr w g with | some d=>sz>=(w:Int)/\st=(d.1:Int)/\sz=(d.2:Int) | none=>¬ sz>=(w:Int)):=by
 have e:Ar ((fr:Int)-(g.1:Int))=(fr:Int)-(g.1:Int):=Ai (by unfold AQ; omega);have h:Ar ((g.2:Int)-((fr:Int)-(g.1:Int)))=(g.2:Int)-((fr:Int)-(g.1:Int)):=Ai (by unfold AQ; omega);rw[e];unfold ey;by_cases q:(fr:Int)-(g.1:Int)>0
 ·refine ⟨(fr:Int),(g.2:Int)-((fr:Int)-(g.1:Int)), ?_, ?_⟩
  ·rw[Aak q];simp only[IS,e,h,AI,Ac8,Ac9]
  ·rw[Nat.max_eq_left (by omega)];by_cases a:w<=g.1+g.2-fr
   ·rw[Aay a]; dsimp only; omega
   ·rw[Aaz a]; dsimp only; omega
 ·refine ⟨(g.1:Int),(g.2:Int), ?_, ?_⟩
  ·rw[Aaj q]; rfl
  ·rw[Nat.max_eq_right (by omega)];by_cases a:w<=g.1+g.2-g.1
   ·rw[Aay a]; dsimp only; omega
   ·rw[Aaz a]; dsimp only; omega
def Apt (s o:Bx):Prop:=∀ a,o.1=some a -> ∀ b,s.1=some b->a.block≠b.block
theorem Hf.sl {E:TypeId} {z n:Nat} {row:List Value} {J':Aa} {s o o':Bx} (g:Hf J o J' o') (h:Ct E z J s n row) (c:Apt s o):Ct E z J' s n row/\Apt s o':=by
 refine ⟨h.Ax fun b hb=>?_,fun x a b hb=>?_⟩
 ·exact g.same b.block (h.lt b hb) fun x a=>c x a b hb
 ·rcases g.new with rfl | hw
  ·exact c x a b hb
  ·have:=hw x a; have:=h.lt b hb; omega
theorem Wu (k:Nat) {fr w:Nat} (e:fr<=10000) (hw:1<=w/\w<=1000) {R:List (Nat × Nat)} (z:R.length<=100) (d:∀ g ∈ R,g.1+g.2<=10000) (s:Bx):∀ (n x f:Nat) (Z:Aa) (o:Bx) (R0:List (Nat × Nat)),Ct AG 2 Z s R.length (D7 R)->Ct AG 2 Z o R0.length (D7 R0)->Apt s o->R0.length+n<=100000->x+n=R.length->n<f ->
  ∃ c o',CL k f (fr:Int) (w:Int) s.1 R.length s.2.2 ((R.length:Nat):Int) o (x:Int) Z=some (.exit 2,[.slice o'.1 o'.2.1 o'.2.2],c)/\Hf Z o c o'/\Ct AG 2 c o' (R0++(R.drop x).filterMap (ey fr w)).length (D7 (R0++(R.drop x).filterMap (ey fr w)))
 | n,x,0,Z,o,R0,hs,l,hd,B,C,A=>by omega
 | 0,x,f+1,Z,o,R0,hs,l,hd,B,C,A=>by
   rw[JQ];refine ⟨Z,o,by simp only[dFu x R.length (by omega),By],Hf.refl _ _, ?_⟩;rw[List.drop_of_length_le (by omega)];simpa using l
 | n+1,x,f+1,Z,o,R0,hs,l,hd,B,C,A=>by
   have h:x<R.length:=by omega
   obtain ⟨b,p,D,E⟩:=vT hs h;have J:R.getD x (0,0)=R[x]:=by rw[Aax,Aau h]; rfl
   rw[J] at D E;have L:=qSu x R.length (by omega);have M:=wSu x (by omega);obtain ⟨st,sz,I,m⟩:=xy R[x] fr w e hw.1 (d _ (Adb _)) Z;have v:∀ (st sz:Int),Aj .i64 (Z++[.cells [qIi st,qIi sz] AG true]) Z.length 0=some st/\Aj .i64 (Z++[.cells [qIi st,qIi sz] AG true]) Z.length 1=some sz:=fun st sz=>UL Z AG st sz;have j:R.drop x=R[x]::R.drop (x+1):=Ac2 h;rw[JQ];simp only[dTu x R.length (by omega),IS,L,Aat,p,AI,IT,IN,Aa0,D,E,Ae,Aby,(v _ _).1,I,(v _ _).2,M];have u:Ct AG 2 (Z++[.cells [qIi st,qIi sz] AG true]) s R.length (D7 R):=hs.app _;cases a:ey fr w R[x] with
   | none=>
     rw[a] at m;simp only[Aaj (show ¬ sz>=(w:Int) from m),By,AI,Aat,HW];obtain ⟨c,o',i,r,t⟩:=Wu k e hw z d s n (x+1) f (Z++[.cells [qIi st,qIi sz] AG true]) o R0 u (l.app _) hd (by omega) (by omega) (by omega);rw[p] at i;refine ⟨c,o',i,(Hf.app _ _ _).trans r, ?_⟩;rw[j,List.filterMap_cons_none a]; exact t
   | some g=>
     rw[a] at m;obtain ⟨G,rfl,rfl⟩:=m;simp only[Aak (show ((g.2:Nat):Int)>=(w:Int) from G),IS,AI];obtain ⟨F,Z1_,H,K,h1⟩:=NM yi xt yt rfl rfl (by decide) (by decide) (by decide) (Z++[.cells [qIi (g.1:Int),qIi (g.2:Int)] AG true]) o R0.length (D7 R0) 1 1 [qIi (g.1:Int),qIi (g.2:Int)] AG (by omega) (by decide) rfl (l.app _);have q:AH P AG (o.1,o.2.1,o.2.2) (some ⟨(Z++[Au.cells [qIi (g.1:Int),qIi (g.2:Int)] AG true]).length,0,none⟩,1,1) (Z++[Au.cells [qIi (g.1:Int),qIi (g.2:Int)] AG true]++[Au.cells [qIi (g.1:Int),qIi (g.2:Int)] AG true])=_:=H;have y:Hf Z o Z1_ F:=(Hf.app _ _ _).trans K;obtain ⟨s1,d1⟩:=y.sl hs hd;rw[show D7 R0++[Value.int .i64 (g.1:Int),qIi (g.2:Int)]=D7 (R0++[g]) from by rw[Pp]; rfl,show R0.length+1=(R0++[g]).length from by simp] at h1;obtain ⟨c,o',i,r,t⟩:=Wu k e hw z d s n (x+1) f Z1_ F (R0++[g]) s1 h1 d1 (by simp; omega) (by omega) (by omega);rw[p] at i;refine ⟨c,o', ?_,y.trans r, ?_⟩
     ·simp only[q,AI,Aat,HW];exact i
     ·rw[j,List.filterMap_cons_some a]; simpa using t
def Yv (m:HM) (l:List Nat):List (Nat × Nat):=l.flatMap fun b:Nat=>IV m (b:Int)
def cp (m:HM) (s:Int) (f w:Nat):List (Nat × Nat):=(Yv m (J7 m s m.bls.length)).filterMap (ey f w)
theorem pJ {a e M:Nat} (c:e<=M):∀ g ∈ Ky a e,g.1+g.2<=M:=by
 intro g b;unfold Ky at b;split at b
 ·simp at b; subst b; dsimp only; omega
 ·simp at b
theorem fU (i:m.bls.length<=64) (b:Int):∀ g ∈ IV m b,g.1+g.2<=4096:=by
 have aux:∀ (L:List Nat) (a:Nat),(∀ j ∈ L,2*j<=4096) -> ∀ g ∈ (F9 m L a).1,g.1+g.2<=4096:=by
  intro L
  induction L with
  | nil=>intro a _ g c; simp[F9] at c
  | cons j L k=>
    intro a f g c;rw[F9] at c;rcases Aas.1 c with h | h
    ·exact pJ (f j (by simp)) g h
    ·exact k _ (fun j d=>f j (by simp[d])) g h
 intro g c;unfold IV at c;split at c
 ·rename_i e;obtain ⟨n,rfl,l,_⟩:=gX e;rw[IT] at c;unfold cn at c;rcases Aas.1 c with h | h
  ·exact aux _ _ (fun j d=>by have:=LR.1 d; omega) g h
  ·exact pJ (by omega) g h
 ·simp at c
theorem uJ (a:m.bls.length<=64) (b:Int):∀ g ∈ IV m b,g.1+g.2<=10000:=fun g c=>by have:=fU a b g c; omega
theorem sA {L:List Nat} {x:Nat} (a:x<L.length):(ZW L).getD x 0=((L[x]:Nat):Int):=by
 unfold ZW;rw[Aax,Aeg,Aau a]; rfl
theorem cq (k:Nat) (K:5000<=k) (I:Inv m) (h0:B0 m) {fr w:Nat} (g:fr<=10000) (hw:1<=w/\w<=1000) {L:List Nat} (U:∀ b ∈ L,b<m.bls.length) (v:L.length<=64) (s:Bx):∀ (n x f:Nat) (Z:Aa) (o:Bx) (R0:List (Nat × Nat)),Al Z i m->Ec Z ab i a->Ct Ak 1 Z s (ZW L).length (Bl (ZW L))->Ct AG 2 Z o R0.length (D7 R0)->Apt s o->Off i o->(∀ x,o.1=some x->x.block≠ab)->R0.length+33*n<=50000->x+n=L.length->n<f ->
  ∃ r o',CK (k+7) f (Qk ab) (fr:Int) (w:Int) s.1 L.length s.2.2 ((L.length:Nat):Int) o (x:Int) Z=some (.exit 0,[.slice o'.1 o'.2.1 o'.2.2],r)/\Hf Z o r o'/\Ct AG 2 r o' (R0++(Yv m (L.drop x)).filterMap (ey fr w)).length (D7 (R0++(Yv m (L.drop x)).filterMap (ey fr w)))
 | n,x,0,Z,o,R0,h,p,hs,j,hd,d,c,M,q,J=>by omega
 | 0,x,f+1,Z,o,R0,h,p,hs,j,hd,d,c,M,q,J=>by
   rw[JP];refine ⟨Z,o,by simp only[dFu x L.length (by omega),By],Hf.refl _ _, ?_⟩;rw[List.drop_of_length_le (by omega)];simpa [Yv] using j
 | n+1,x,f+1,Z,o,R0,h,p,hs,j,hd,d,c,M,q,J=>by
   have e:x<L.length:=by omega
   obtain ⟨b,D,N⟩:=zB hs (show x<(ZW L).length by unfold ZW; simpa using e);rw[sA e] at N;have X:=qSu x L.length (by omega);have w1:=wSu x (by omega);obtain ⟨τ,s1,P,h1,A⟩:=zd k K h I h0 ((L[x]:Nat):Int);have hlen:=fW m ((L[x]:Nat):Int);have F:Hf Z o (Z++τ) o:=Hf.app _ _ _;obtain ⟨Y,_⟩:=F.sl hs hd;have d1:Apt s1 o:=fun x q b hb=>by have:=j.lt x q; have:=A b hb; omega
   obtain ⟨Z1_,O,Q,S,G⟩:=Wu (k+7) g hw (R:=IV m ((L[x]:Nat):Int)) (by omega) (uJ h.nt _) s1 (IV m ((L[x]:Nat):Int)).length 0 (k+7) (Z++τ) o R0 h1 (j.app _) d1 (by omega) (by omega) (by omega);rw[Adf] at G;have l:Hf Z o Z1_ O:=F.trans S;obtain ⟨y,C⟩:=l.heap h d;obtain ⟨u,B⟩:=l.other p c;obtain ⟨z,d2⟩:=l.sl hs hd;have V:((IV m ((L[x]:Nat):Int)).filterMap (ey fr w)).length<=33:=Adt (List.length_filterMap_le _ _) hlen;obtain ⟨Z2_,W,E,T,H⟩:=cq k K I h0 g hw U v s n (x+1) f Z1_ O _ y u z G d2 C B (by rw[Aaw]; omega) (by omega) (by omega);rw[D] at E;refine ⟨Z2_,W, ?_,l.trans T, ?_⟩
   ·have t:CL (k+7) (k+7) (fr:Int) (w:Int) s1.1 (IV m ((L[x]:Nat):Int)).length s1.2.2 (((IV m ((L[x]:Nat):Int)).length:Nat):Int) (o.1,o.2.1,o.2.2) 0 (Z++τ)=_:=Q;rw[JP];simp only[dTu x L.length (by omega),IS,X,Aat,D,AI,IT,IN,Aa0,Acg,N,p.dU,P,Eo,h1.len,t,HW,w1];exact E
   ·rw[Ac2 e];simp only[Yv,Agq,List.filterMap_append,Aaq] at H ⊢;exact H
theorem xC (k:Nat) (t:5000<=k) (h:Al J i m) (hA:Ec J ab i a) (q:Inv m) (h0:B0 m) {fr w:Nat} (f:fr<=10000) (hw:1<=w/\w<=1000):
  ∃ τ s,Ep (k+8) (Qk ab) (fr:Int) (w:Int) J=some (.slice s.1 s.2.1 s.2.2,J++τ)/\Ct AG 2 (J++τ) s (cp m a.s fr w).length (D7 (cp m a.s fr w)) /\ ∀ x,s.1=some x->J.length<=x.block:=by
 have u:=h.nt;obtain ⟨g,s1,j,h1⟩:=rJ (k+2) (by omega) h hA;have r:=Zm m a.s m.bls.length;obtain ⟨Z,o,l,n,p⟩:=cq (ab:=ab) (a:=a) k t q h0 f hw (L:=J7 m a.s m.bls.length) (fun b hb=>(kQ.1 hb).1) (by omega) s1 (J7 m a.s m.bls.length).length 0 (k+7) (J++g) (none,0,0) [] (h.app _) (hA.app _) h1.sl (Ct.nil _ _ _) (fun x c=>by cases c) (fun x c=>by cases c) (fun x c=>by cases c) (by simp; omega) (by omega) (by omega);obtain ⟨⟨τ,rfl⟩,hb⟩:=(show Hf (J++g) (none,0,0) Z o from n).behind (fun x c=>by cases c);refine ⟨τ,o, ?_,by simpa [cp] using p,hb⟩;have d:D9 (k+7) (Qk ab) J=_:=j;have e:CK (k+7) (k+7) (Qk ab) (fr:Int) (w:Int) s1.1 (J7 m a.s m.bls.length).length s1.2.2 (((J7 m a.s m.bls.length).length:Nat):Int) (none,0,0) 0 (J++g)=_:=l;have hlen:s1.2.1=(J7 m a.s m.bls.length).length:=by rw[h1.len]; simp[ZW]
 rw[Pu];simp only[d,AI,Eo,hlen,e,Aat,HW]
end
section
local instance qEF:AJ:=Ao
variable {J:Aa} {i:Cs} {m:HM} {ab:Nat} {a:AS}
def Q0 (m:HM) (a:AS) (l:List (Nat × Nat)):PR:=
 match l with
 | g::_=>(((g.1:Int),true),m,a)
 | []=>match kH m with
   | some b=>((64*(b:Int),true),XU m b a.s,a)
   | none=>((0,false),m,a)
theorem vX (k:Nat) (q:5000<=k) (h:Al J i m) (hA:Ec J ab i a) (e:ab ∉ i.l) (r:a.ok) {sl:Bx} {l:List (Nat × Nat)} (hs:Ct AG 2 J sl l.length (D7 l)):
  tY (DX (k+10) (Qk ab) sl J) J i ab (Q0 m a l):=by
 rw[ON];cases l with
 | cons g l=>
   obtain ⟨b,o,n,_⟩:=vT hs (x:=0) (by simp);rw[hs.len];rw[Ad6] at n;refine ⟨J, ?_,h,hA,GF.refl _⟩;simp only[Aak (show (((g::l).length:Nat):Int)>0 by simp only[Adl]; omega),IS,Aay (show (0:Int)<=0/\(0:Int)<(((g::l).length:Nat):Int) by simp only[Adl]; omega),o,AI,Afm,Ad6,Aa0,n,Q0];rfl
 | nil=>
   obtain ⟨J1_,p,f,j⟩:=uB k q h hA e r.s0;have d:=hA.DR j e;rw[hs.len];simp only[Adx,Aaj (show ¬ ((0:Nat):Int)>0 by omega),By,p,AI,az,Adl,Aey,Ae4,xj,An,Ae,Aby,IN,Nat.reduceAdd,Aat,(UL _ _ _ _).1];unfold uA zF at *;cases c:kH m with
   | none=>
     simp only[c] at f ⊢;rw[show Q0 m a []=((0,false),m,a) from by simp only[Q0,c]];exact ⟨_,rfl,f.app _,d.app _,(GF.of j).trans (GF.app _ _)⟩
   | some b=>
     simp only[c] at f ⊢;rw[show Q0 m a []=((64*(b:Int),true),XU m b a.s,a) from by simp only[Q0,c]];exact ⟨_,rfl,f.app _,d.app _,(GF.of j).trans (GF.app _ _)⟩
theorem cd (k:Nat) (p:5000<=k) (h:Al J i m) (hA:Ec J ab i a) (d:ab ∉ i.l) (n:a.ok) (l:Inv m) (h0:B0 m) {w:Nat} (hw:1<=w/\w<=1000):
  tY (Hh (k+12) (Qk ab) (w:Int) J) J i ab (Q0 m a (cp m a.s 0 w)):=by
 obtain ⟨τ,s,f,h1,_⟩:=xC (k+3) (by omega) (h.app [.cells [] Jw true]) (hA.app _) l h0 (fr:=0) (by decide) hw;obtain ⟨J2_,g,j,e,o⟩:=vX (k+1) (by omega) ((h.app [.cells [] Jw true]).app τ) ((hA.app _).app _) d n h1;refine ⟨J2_, ?_,j,e,((GF.app _ _).trans (GF.app _ _)).trans o⟩;have b:Ep (k+11) (Qk ab) 0 (w:Int) (J++[.cells [] Jw true])=_:=f;have c:DX (k+11) (Qk ab) (s.1,s.2.1,s.2.2) (J++[.cells [] Jw true]++τ)=_:=g;rw[R7];simp only[Ae,b,AI,Eo,c,Si]
end
section
local instance qGA:AJ:=Ao
variable {J:Aa}
structure Mv (L L':List Nat) (J J':Aa):Prop where
 len:J.length<=J'.length
 same:∀ q,q<J.length->q ∉ L->J'[q]?=J[q]?
 new:∀ q,q ∈ L'->q ∈ L\/J.length<=q
theorem Mv.refl (L:List Nat) (J:Aa):Mv L L J J:=⟨Aa1 _,fun _ _ _=>rfl,fun _ h=>.inl h⟩
theorem Mv.app (L:List Nat) (J τ:Aa):Mv L L J (J++τ):=⟨by simp,fun q h _=>AT h,fun _ h=>.inl h⟩
theorem Mv.trans {L L' d:List Nat} {a b c:Aa} (h:Mv L L' a b) (g:Mv L' d b c):Mv L d a c:=by
 refine ⟨Adt h.len g.len,fun q h1 e=>?_,fun q i=>?_⟩
 ·refine (g.same q (Acp h1 h.len) fun hm=>?_).trans (h.same q h1 e);rcases h.new q hm with f | f
  ·exact e f
  ·omega
 ·rcases g.new q i with h1 | h1
  ·exact h.new q h1
  ·exact .inr (Adt h.len h1)
theorem Mv.wide {L L' K K':List Nat} {a b:Aa} (h:Mv L L' a b) (h1:∀ q ∈ L,q ∈ K) (h2:∀ q ∈ K',q ∈ K\/q ∈ L'\/a.length<=q):Mv K K' a b:=
 ⟨h.len,fun q c d=>h.same q c fun hm=>d (h1 q hm),fun q c=>by
  rcases h2 q c with e | e | e
  ·exact .inl e
  ·exact (h.new q e).imp (h1 q) id
  ·exact .inr e⟩
theorem Mv.left {L L':List Nat} {a b:Aa} (h:Mv L L' a b) (X:List Nat):Mv (L++X) (L'++X) a b:=
 h.wide (fun q c=>Aas.2 (.inl c)) fun q c=>(Aas.1 c).elim (fun e=>.inr (.inl e)) fun e=>.inl (Aas.2 (.inr e))
theorem Mv.right {L L':List Nat} {a b:Aa} (h:Mv L L' a b) (X:List Nat):Mv (X++L) (X++L') a b:=
 h.wide (fun q c=>Aas.2 (.inr c)) fun q c=>(Aas.1 c).elim (fun e=>.inl (Aas.2 (.inl e))) fun e=>.inr (.inl e)
theorem Mv.DR {L L' X:List Nat} {a b:Aa} (h:Mv L L' a b) (d:∀ q ∈ X,q<a.length) (hd:∀ q ∈ X,q ∉ L):(∀ q ∈ X,b[q]?=a[q]?)/\(∀ q ∈ X,q ∉ L') /\ ∀ q ∈ X,q<b.length:=
 ⟨fun q c=>h.same q (d q c) (hd q c),fun q c hm=>(h.new q hm).elim (hd q c) fun e=>absurd (d q c) (Aha.2 e),fun q c=>Acp (d q c) h.len⟩
theorem Mv.nil {L':List Nat} {a b:Aa} (h:Mv [] L' a b) (L:List Nat):Mv L (L'++L) a b:=by
 have:=h.left L;rw[Ae5] at this;exact this
theorem Br.mv {i:Cs} {a b:Aa} (h:Br i a b):Mv i.l i.l a b:=⟨h.len,h.same,fun _ h=>.inl h⟩
theorem H9.mv {i c:RI} {a b:Aa} (h:H9 i c a b):Mv i.l c.l a b:=⟨h.len,h.same,h.new⟩
theorem Mv.set {L:List Nat} {q:Nat} (J:Aa) (o:Au) (h:q ∈ L):Mv L L J (J.set q o):=
 ⟨by simp,fun j _ a=>Aar (fun e=>a (by rw[<- e]; exact h)),fun _ h=>.inl h⟩
theorem Mv.IY {L L':List Nat} {a b:Aa} (h:Mv L L' a b) {q:Nat} {o:Au} (c:a[q]?=some o) (d:q ∉ L):b[q]?=some o:=(h.same q (Af c) d).trans c
def Bf (J:Aa) (s:Bx) (l:List Int):Prop:=Ct Ak 1 J s l.length (Bl l)\/(l=[] /\ ∃ b cs T w,s=(some ⟨b,0,some 0⟩,0,0)/\J[b]?=some (.cells cs T w))
theorem Bf.Ax {J':Aa} {s:Bx} {l:List Int} (h:Bf J s l) (c:∀ b ∈ hs s,J'[b]?=J[b]?):Bf J' s l:=by
 rcases h with h | ⟨h0,b,cs,T,w,rfl,e⟩
 ·exact .inl (h.Ax fun a d=>c _ (BV.2 ⟨a,d,rfl⟩))
 ·exact .inr ⟨h0,b,cs,T,w,rfl,(c _ (BV.2 ⟨_,rfl,rfl⟩)).trans e⟩
theorem Bf.lt {s:Bx} {l:List Int} (h:Bf J s l):∀ b ∈ hs s,b<J.length:=by
 intro b hb;obtain ⟨a,c,rfl⟩:=BV.1 hb;rcases h with h | ⟨h0,b,cs,T,w,rfl,d⟩
 ·exact h.lt a c
 ·cases c; exact Af d
theorem Bf.app {s:Bx} {l:List Int} (h:Bf J s l) (τ:Aa):Bf (J++τ) s l:=h.Ax fun b hb=>AT (h.lt b hb)
theorem Bf.nil (J:Aa):Bf J (none,0,0) []:=.inl (Ct.nil _ _ _)
theorem Bf.form {s:Bx} {l:List Int} (h:Bf J s l):s=(s.1,l.length,l.length):=by
 rcases h with h | ⟨rfl,b,cs,T,w,rfl,a⟩
 ·exact h.form
 ·rfl
theorem Bf.ints {lo:Nat} {s:Bx} {l:List Int} (h:CB lo J s l):Bf J s l:=.inl h.sl
theorem Bf.ld {s:Bx} {l:List Int} (h:Bf J s l) {x:Nat} (c:x<l.length):∃ b,s.1=some ⟨b,0,none⟩/\Aj .i64 J b x=some (l.getD x 0)/\J[b]?=some (.cells (Bl l) Ak true):=by
 rcases h with (⟨h,_⟩ | ⟨b,rfl,_,_,a⟩) | ⟨rfl,_⟩
 ·omega
 ·exact ⟨b,rfl,nZ a c,a⟩
 ·simp at c
theorem Bf.first {s:Bx} {l:List Int} (h:Bf J s l):Da J 1 s.1 l.length=some (Bl l):=by
 rcases h with h | ⟨rfl,b,cs,T,w,rfl,a⟩
 ·exact h.first
 ·simp[Da,Nm,a,Bl]
theorem Bf.g {s:Bx} {l:List Int} (h:Bf J s l):D2 J s l:=by
 rcases h with (⟨h,e,rfl⟩ | ⟨b,rfl,_,_,d⟩) | ⟨rfl,b,cs,T,w,rfl,d⟩
 ·have:l=[]:=Aeh.1 h;subst this;exact ⟨rfl,fun h=>absurd rfl h,fun a c=>by cases c⟩
 ·exact ⟨rfl,fun _=>⟨b,_,rfl,d⟩,fun a c=>by cases c; exact ⟨_,_,_,d,Ado _⟩⟩
 ·exact ⟨rfl,fun h=>absurd rfl h,fun a c=>by cases c; exact ⟨_,_,_,d,Ado _⟩⟩
theorem Hf.mv {J':Aa} {s s':Bx} (g:Hf J s J' s'):Mv (hs s) (hs s') J J':=by
 refine ⟨g.len,fun q b d=>g.same q b fun a c e=>d (BV.2 ⟨a,c,e⟩),fun q b=>?_⟩;rcases g.new with rfl | hw
 ·exact .inl b
 ·obtain ⟨a,c,rfl⟩:=BV.1 b;exact .inr (hw a c)
theorem Bf.push {s:Bx} {l:List Int} (h:Bf J s l) (x:Int) (T:TypeId) (j:l.length<=900000):
  ∃ s' J',AH P Ak (s.1,s.2.1,s.2.2) (some ⟨J.length,0,none⟩,1,1) (J++[.cells [qIi x] T true])=some (s',J')/\Bf J' s' (l++[x])/\Mv (hs s) (hs s') J J':=by
 rcases h with h | ⟨rfl,b,cs,U,w,rfl,i⟩
 ·obtain ⟨s',J',e,g,c⟩:=NM wg uC tB rfl rfl (by decide) (by decide) (by decide) J s l.length (Bl l) 1 1 [qIi x] T (by omega) (by decide) rfl h;refine ⟨s',J',e,.inl ?_,g.mv⟩;rw[Aaw,KS];exact c
 ·refine ⟨(some ⟨J.length+1,0,none⟩,1,1),J++[.cells [qIi x] T true]++[.cells [qIi x] Ak true], ?_,.inl (.inr ⟨J.length+1,rfl,Ado _,rfl,by simp[Bl]⟩), ?_⟩
  ·have d:Da (J++[.cells [qIi x] T true]) 1 (some ⟨J.length,0,none⟩) 1=some [qIi x]:=by simp[Da,Nm]
   have f:(¬ (Gq (qIi 0)=false/\some 1=some (Value.cells (qIi 0)).size/\0<(Value.cells (qIi 0)).size))=False:=by simp[Gq,Value.cells]
   have r:KF (0+1) 8/\0<8:=by unfold KF; decide
   unfold AH LH;simp only[wg,uC,tB,AI,d,f,Aa5,show ¬ (0+1<=0) from by decide,r,Afz,Aat,HU,Ahu,IS,qJ,Aaw,Adl,Adx,IN]
  ·refine ⟨by simp,fun q a _=>by rw[Aaq,AT a],fun q a=>.inr ?_⟩;simp[hs] at a;omega
def Dj (A B:List Nat):Prop:=∀ q ∈ A,q ∉ B
theorem Dj.symm {A B:List Nat} (h:Dj A B):Dj B A:=fun q a hm=>h q hm a
structure Fp (J:Aa) (Ls:List (List Nat)):Prop where
 dj:Ls.Pairwise Dj
 lt:∀ L ∈ Ls,∀ q ∈ L,q<J.length
theorem vw {α:Type} {R:α->α->Prop} (hs:∀ a b,R a b->R b a):∀ (l:List α) (x:Nat) (b:α),l.Pairwise R->(∀ y (e:y<l.length),y≠x->R b l[y])->(l.set x b).Pairwise R
 | [],_,_,_,_=>by simp
 | a::l,0,b,h,hb=>by
   rw[Afj];obtain ⟨_,f⟩:=Ad9.1 h;refine Ad9.2 ⟨fun c d=>?_,f⟩;obtain ⟨y,e,rfl⟩:=Ahk d;exact hb (y+1) (by simpa using e) (by omega)
 | a::l,x+1,b,h,hb=>by
   rw[Aex];obtain ⟨h1,f⟩:=Ad9.1 h;refine Ad9.2 ⟨fun c d=>?_,vw hs l x b f fun y e g=>hb (y+1) (by simpa using e) (by omega)⟩;rcases Agd d with d | rfl
   ·exact h1 c d
   ·exact hs _ _ (hb 0 (by simp) (by omega))
theorem vu {α:Type} {R:α->α->Prop} (hs:∀ a b,R a b->R b a) {l:List α} (h:l.Pairwise R) {x y:Nat} (e:x<l.length) (f:y<l.length) (d:y≠x):R l[x] l[y]:=by
 rcases Nat.lt_or_gt_of_ne d with c | c
 ·exact hs _ _ (Agc.1 h y x f e c)
 ·exact Agc.1 h x y e f c
theorem Fp.step {Ls:List (List Nat)} {L':List Nat} {J':Aa} (h:Fp J Ls) (x:Nat) (i:x<Ls.length) (hm:Mv Ls[x] L' J J') (k:∀ q ∈ L',q<J'.length):
  Fp J' (Ls.set x L')/\(∀ y (c:y<Ls.length),y≠x -> ∀ q ∈ Ls[y],J'[q]?=J[q]?)/\Mv Ls.flatten (Ls.set x L').flatten J J':=by
 have key:∀ y (c:y<Ls.length),y≠x->(∀ q ∈ Ls[y],J'[q]?=J[q]?)/\Dj L' Ls[y]:=by
  intro y c b;obtain ⟨h1,j,_⟩:=hm.DR (X:=Ls[y]) (fun q a=>h.lt _ (Adb c) q a) (fun q a d=>vu (fun _ _=>Dj.symm) h.dj c i (Adk b) q a d);exact ⟨h1,fun q a d=>j q d a⟩
 refine ⟨⟨vw (fun _ _=>Dj.symm) Ls x L' h.dj fun y c b=>(key y c b).2,fun L g q a=>?_⟩,fun y c b=>(key y c b).1,hm.wide (fun q a=>Adw.2 ⟨_,Adb i,a⟩) fun q a=>?_⟩
 ·rcases Agd g with g | rfl
  ·exact Acp (h.lt L g q a) hm.len
  ·exact k q a
 ·obtain ⟨K,e,f⟩:=Adw.1 a;rcases Agd e with e | e
  ·exact .inl (Adw.2 ⟨K,e,f⟩)
  ·exact .inr (.inl (e ▸ f))
theorem Fp.app {Ls:List (List Nat)} (h:Fp J Ls) (τ:Aa):Fp (J++τ) Ls:=⟨h.dj,fun L a q b=>by have:=h.lt L a q b; rw[Aaw]; omega⟩
theorem Fp.cons {Ls:List (List Nat)} {L:List Nat} {J':Aa} (h:Fp J Ls) (c:∀ q ∈ L,J.length<=q/\q<J'.length) (hs:J.length<=J'.length):Fp J' (L::Ls):=
 ⟨Ad9.2 ⟨fun K a q b hm=>by have:=h.lt K a q hm; have:=(c q b).1; omega,h.dj⟩,fun K a q b=>by
  rcases Acd.1 a with rfl | a
  ·exact (c q b).2
  ·exact Acp (h.lt K a q b) hs⟩
theorem Fp.nil (J:Aa):Fp J []:=⟨List.Pairwise.nil,fun L a=>by cases a⟩
theorem Fp.ne {Ls:List (List Nat)} (h:Fp J Ls) {x y:Nat} (b:x<Ls.length) (c:y<Ls.length) (a:y≠x):Dj Ls[x] Ls[y]:=vu (fun _ _=>Dj.symm) h.dj b c a
theorem Fp.sub {Ls i:List (List Nat)} (h:Fp J Ls) (f:List Nat) (m:f.Nodup) (c:∀ x ∈ f,x<Ls.length) (n:i=f.map fun x=>Ls.getD x []):Fp J i:=by
 subst n;have e:∀ x (d:x<Ls.length),Ls.getD x []=Ls[x]:=fun x d=>by rw[Aax,Aau d]; rfl
 refine ⟨Ahz.2 (m.imp_of_mem fun {a b} l hb g=>?_),fun L k q j=>?_⟩
 ·rw[e a (c a l),e b (c b hb)];exact h.ne _ _ (Adk g)
 ·obtain ⟨x,d,rfl⟩:=Aeb.1 k;rw[e x (c x d)] at j;exact h.lt _ (Adb (c x d)) q j
end
section
local instance qGB:AJ:=Ao
structure D4 where
 mu:Nat
 sl:List Int
 gl:List Int
 qu:List Int
def D4.all (r:D4):List Int:=r.sl++r.gl++r.qu
structure D4.ok (r:D4):Prop where
 m1:1<=r.mu
 m4:r.mu<=4
 sl:r.sl.length=16*r.mu
 gl:r.gl.length=16
 qu:r.qu.length<=64
 inn:∀ v ∈ r.all,AQ v/\0<=v
def JN (out:List Int) (a:Int):List Int:=if a=0\/a ∈ out then out else out++[a]
def AW (r:D4):List Int:=r.all.foldl JN []
structure TC where
 look:Bool
 born:Int
 ph:Int
 ws:List (BitVec 64)
 list:List Int
 left:List Int
 freed:Int
variable (m:HM) (r:D4) (s:TC)
def C0 (a:Int):Nat:=CJ 2 s.ws (a.toNat/2)
def Eh (s:TC) (a:Int) (c:Nat):TC:={ s with ws:=FB 2 s.ws (a.toNat/2) c }
def Cx (s:TC) (a:Int):TC:=if Aw m a=true/\C0 s a=0 then { Eh s a 1 with list:=s.list++[a] } else s
def AA (s:TC) (l:List Int):TC:=l.foldl (Cx m) s
def B5 (a:Int):Bool:=Aw m a && decide (C0 s a≠0)
def AE (a x:Int):Int:=(KD m a x false).1
def DV (k:Int) (x:Int):Bool:=(decide (x=0) && (decide (k=1) || decide (k=2))) || (decide (x=1) && decide (k=2))
def Ux (a:Int):List Int:=(List.range (Ag m a).1.toNat).map fun (x:Nat)=>AE m a (x:Int)
def Dy (a:Int):List Int:=((List.range (Ag m a).1.toNat).filter fun (x:Nat)=>decide (AE m a (x:Int)≠0) && !DV (Ag m a).2.2 (x:Int)).map fun (x:Nat)=>AE m a (x:Int)
def Qs (l:List Int):List Int:=(l.filter fun a=>B5 m s a && decide ((Ag m a).2.2=2) && B5 m s (AE m a 0)).map fun a=>AE m a 1
def DW:List Int:=Cq (FA m)
def NI:TC:=AA m s (Qs m s (DW m))
def SD (a k:Int):Nat->Nat->HM->HM
 | 0,_,m=>m
 | n+1,x,m=>SD a k n (x+1) (if AE m a (x:Int)≠0/\DV k (x:Int)=true then (BU m a (x:Int) 0).2 else m)
def Ql (a:Int):HM:=
 if (Ag m a).2.2≠1/\(Ag m a).2.2≠2 then m
 else if AE m a 0≠0/\B5 m s (AE m a 0)=true then m
 else SD a (Ag m a).2.2 (Ag m a).1.toNat 0 m
def Im (l:List Int):HM:=l.foldl (fun m a=>if B5 m s a then Ql m s a else m) m
def WX:List Int:=((List.range m.bls.length).filter fun (b:Nat)=>decide (Ce m (b:Int)=1\/Ce m (b:Int)=2)).map fun (b:Nat)=>(b:Int)
def Xm:HM × TC:=
 let s1:=if s.look then AA m s (AW r) else s
 let s2:=NI m s1
 if s2.list≠[] then (m,s2)
 else
  let m':=Im m s2 (DW m)
  (m',{ s2 with left:=s2.left++WX m',ph:=2 })
def JE (ws:List (BitVec 64)):List Int->HM × Int->HM × Int
 | [],q=>q
 | a::l,q=>JE ws l (if CJ 2 ws (a.toNat/2)=0 then ((Hw q.1 a).2,Ar (q.2+1)) else q)
def St (ws:List (BitVec 64)):Nat->Nat->List (BitVec 64)
 | 0,_=>ws
 | n+1,x=>St (FB 2 ws x 0) n (x+1)
def PQ (n:Nat) (s:TC):TC:=if s.left=[] then { s with ws:=St s.ws n 0,ph:=0 } else s
def GD:HM × TC:=
 match s.left with
 | []=>(m,PQ (32*m.bls.length) s)
 | b::l=>
   let q:=JE s.ws (Cq (HI m b)) (m,s.freed)
   ((CZ q.1 b).2,PQ (32*m.bls.length) { s with left:=l,freed:=q.2 })
def Xx:TC:=
 match s.list with
 | []=>s
 | a::l=>
   if Aw m a then Eh (AA m { s with list:=l } (Dy m a)) a 2 else { s with list:=l }
def FU:HM × TC:=
 if s.ph=2 then GD m s
 else if s.list≠[] then (m,Xx m s)
 else Xm m r s
def Dr (r:D4):Nat->HM × TC->Nat × HM × TC
 | 0,q=>(0,q)
 | n+1,q=>if q.2.ph=0 then (0,q) else
   let z:=Dr r n (FU q.1 r q.2)
   (z.1+1,z.2)
def Hd:TC:=AA m { s with freed:=0,ph:=1 } (AW r)
def U9:Bool:=(AW r).all (fun a=>decide (a=0) || Aw m a) && (DW m).all fun a=>(Ux m a).all fun v=>decide (v=0) || Aw m v
def Xs (n:Nat) (look:Bool) (born:Int):TC:=⟨look,born,0,List.replicate ((32*n*2+63)/64) 0#64,[],[],0⟩
end
section
local instance qGG:AJ:=Ao
variable {m:HM} {r:D4}
def NU (m:HM):Prop:=∀ j,Start m j -> ∀ x:Nat,(x:Int)<Av m j->m.wds.getD (2*j+2+x) 0=0
def Qi (m:HM):Prop:=∀ j,Start m j -> ∀ x:Nat,(x:Int)<Av m j->m.wds.getD (2*j+2+x) 0=0\/Aw m (m.wds.getD (2*j+2+x) 0)=true
theorem NU.s (h:NU m):Qi m:=fun j hs x a=>.inl (h j hs x a)
def Mw (m:HM) (r:D4):Prop:=∀ v ∈ r.all,v=0\/Aw m v=true
theorem YP {m':HM} (a:m'.bls.length=m.bls.length) (hs:m'.stw=m.stw) (j:Nat):Start m' j↔Start m j:=by unfold Start; rw[a,hs]
theorem cu {m':HM} (b:m'.bls.length=m.bls.length) (hs:m'.stw=m.stw) (a:Int):Aw m' a=Aw m a:=by
 unfold Aw; simp only[YP b hs]
theorem NU.Ax {m':HM} (h:NU m) (c:m'.bls.length=m.bls.length) (hs:m'.stw=m.stw) (hw:m'.wds=m.wds):NU m':=by
 intro j b x a;rw[hw];exact h j ((YP c hs j).1 b) x (by unfold Av at a ⊢; rw[hw] at a; exact a)
theorem Qi.Ax {m':HM} (h:Qi m) (b:m'.bls.length=m.bls.length) (hs:m'.stw=m.stw) (hw:m'.wds=m.wds):Qi m':=by
 intro j c x a;rw[hw,cu b hs];exact h j ((YP b hs j).1 c) x (by unfold Av at a ⊢; rw[hw] at a; exact a)
theorem Mw.Ax {m':HM} (h:Mw m r) (a:m'.bls.length=m.bls.length) (hs:m'.stw=m.stw):Mw m' r:=fun v b=>by rw[cu a hs]; exact h v b
theorem OJ (m:HM) (b c x y a d:Int):(BF m b c x y a d).2.wds=m.wds/\(BF m b c x y a d).2.stw=m.stw/\(BF m b c x y a d).2.bls.length=m.bls.length/\(BF m b c x y a d).2.births=m.births:=by
 unfold BF;split
 ·split
  ·exact ⟨rfl,rfl,by rw[Adj,J8],rfl⟩
  ·exact ⟨rfl,rfl,rfl,rfl⟩
 ·exact ⟨rfl,rfl,rfl,rfl⟩
theorem NU.bH (h:NU m) (b c x y a d:Int):NU (BF m b c x y a d).2:=by
 obtain ⟨e,f,g,_⟩:=OJ m b c x y a d;exact h.Ax g f e
theorem NU.new (n:Nat):NU (JF n):=fun j hs=>absurd hs (gy n j)
theorem NU.place (h:NU m) (l:Inv m) (n:Inv2 m) (g:Sh m) (a r d c:Int):NU (CX m a r d c).2.2:=by
 unfold CX;cases k:valid r d c with
 | false=>exact h
 | true=>
   simp only[Aat];by_cases q:Mi m a (Pt (num r d c)) (-1)=0;rotate_left
   ·rw[Aaz q]; exact h
   rw[Aay q];have u:2<=Pt (num r d c):=by
    have f:=k;rw[Kw k];simp[valid] at f;omega
   obtain ⟨j,rfl,i,z,p⟩:=l.fits g.wl (YQ _) u q;rw[show ((2*j:Nat):Int).toNat/2=j from by omega];have e:∀ o,Start m o->2*o+sz m o<=2*j\/2*j+Pt (num r d c)<=2*o:=fun o s=>p o s (by omega);obtain ⟨D,E,F,_⟩:=Kk k;have C:=Kw k;have f:=k;simp[valid] at f;intro o s x v;rcases (J4 g.sl i).1 s with rfl | b
   ·have t:Av (CT m o (num r d c)) o=r:=by
     unfold Av; rw[IB g i,Aay rfl,D]
    rw[t] at v;rw[IB g i,Aaz (by omega),Aaz (by omega)];refine n.zero _ fun y A G H=>?_;have:=e y A;have:=l.use A;omega
   ·have hu:=l.use b;have w:=e o b;have B:o≠j:=by
     rintro rfl;omega
    have t:Av (CT m j (num r d c)) o=Av m o:=by
     unfold Av; rw[IB g i,Aaz (by omega),Aaz (by omega)]
    rw[t] at v;obtain ⟨_,I,J,K,L,_⟩:=Nc l b;rw[IB g i,Aaz (by omega),Aaz (by omega)];exact h o b x v
theorem sj (b:Inv m) (d:Sh m) {j y:Nat} (hs:Start m j) (c:Start m y) (a:y≠j):Av (HS m j) y=Av m y/\CC (HS m j) y=CC m y /\ ∀ x:Nat,(x:Int)<Av m y->(HS m j).wds.getD (2*y+2+x) 0=m.wds.getD (2*y+2+x) 0:=by
 have g:=b.size c;have e:(HS m j).wds.getD (2*y+1) 0=m.wds.getD (2*y+1) 0:=Nl b hs c a (by omega) (by omega);refine ⟨by unfold Av; rw[e],by unfold CC; rw[e],fun x f=>Nl b hs c a (by omega) (by omega)⟩
theorem NU.kill (h:NU m) (i:Inv m) (e:Sh m) (a:Int):NU (Hw m a).2:=by
 unfold Hw;cases k:Aw m a with
 | false=>exact h
 | true=>
   obtain ⟨j,rfl,hs⟩:=AY k;rw[Aay rfl,show ((2*j:Nat):Int).toNat/2=j from by omega];show NU (HS m j);intro y l x d;obtain ⟨c,b⟩:=(JK e.sl hs.1).1 l;obtain ⟨f,_,g⟩:=sj i e hs b c;rw[f] at d;show (HS m j).wds.getD _ 0=0;rw[g x d];exact h y b x d
theorem Qi.setRef (h:Qi m) (c:Inv m) (a x v:Int):Qi (BU m a x v).2:=by
 unfold BU;by_cases d:(BG m a x false).2=0;rotate_left
 ·rw[Aaz d]; exact h
 rw[Aay d];by_cases f:v≠0/\Aw m v=false
 ·rw[Aay f]; exact h
 rw[Aaz f];have g:v=0\/Aw m v=true:=by
  by_cases h0:v=0
  ·exact .inl h0
  ·refine .inr ?_;cases e:Aw m v with
   | true=>rfl
   | false=>exact absurd ⟨h0,e⟩ f
 obtain ⟨j,t,hs,rfl,hw,hu,o⟩:=Pc (w:=(BG m a x false).1) c (Aht rfl d);rw[hw,IT];have l:=c.use hs;have key:=XK c hs (t:=t) (by omega) v;intro y n z i;have b:Start m y:=n;have k:Av (Hb m (2*j+2+t) v) y=Av m y:=by unfold Av; rw[key y b 1 (by decide)]
 rw[k] at i;have e:∀ q,Aw (Hb m (2*j+2+t) v) q=Aw m q:=fun q=>rfl;rw[e];show (m.wds.set _ _).getD _ 0=0\/Aw m ((m.wds.set _ _).getD _ 0)=true;rw[Cp];split
 ·exact g
 ·exact h y b z i
theorem N3 (m:HM) (a x v:Int):(BU m a x v).2.bls=m.bls/\(BU m a x v).2.stw=m.stw/\(BU m a x v).2.births=m.births/\(BU m a x v).2.fw=m.fw/\(BU m a x v).2.pnw=m.pnw:=by
 unfold BU;split
 ·split <;> exact ⟨rfl,rfl,rfl,rfl,rfl⟩
 ·exact ⟨rfl,rfl,rfl,rfl,rfl⟩
theorem YA (m:HM) (a:Int) (v:Nat):(MM m a v).2.bls=m.bls/\(MM m a v).2.stw=m.stw/\(MM m a v).2.wds=m.wds/\(MM m a v).2.births=m.births/\(MM m a v).2.fw=m.fw:=by
 unfold MM;split <;> exact ⟨rfl,rfl,rfl,rfl,rfl⟩
theorem Qi.W2 (h:Qi m) (a:Int) (v:Nat):Qi (MM m a v).2:=by
 obtain ⟨b,c,d,_⟩:=YA m a v;exact h.Ax (by rw[b]) c d
theorem iY (a:Inv m) {j x:Nat} (hs:Start m j) (b:(x:Int)<Av m j):AE m ((2*j:Nat):Int) (x:Int)=m.wds.getD (2*j+2+x) 0:=by
 unfold AE KD;rw[RR a hs b,Aay rfl,IT]
theorem F6 {j:Nat} (hs:Start m j):Ag m ((2*j:Nat):Int)=(Av m j,Bp m j,CC m j):=by
 unfold Ag;rw[Aay (EI hs),show ((2*j:Nat):Int).toNat/2=j from by omega]
theorem gp (v:Int):∀ (l out:List Int),v ∈ l.foldl JN out->v ∈ out\/v ∈ l
 | [],out,h=>.inl h
 | a::l,out,h=>by
   rcases gp v l (JN out a) h with h | h
   ·unfold JN at h;split at h
    ·exact .inl h
    ·rcases Aas.1 h with h | h
     ·exact .inl h
     ·rw[Ac1.1 h]; exact .inr Acj
   ·exact .inr (Ab7 _ h)
def ZG (m:HM) (n:Nat):Int:=if FA m=[] then 0 else (Cq (FA m)).getD (n % (FA m).length) 0
theorem uu (m:HM) (n:Nat):ZG m n=0\/Aw m (ZG m n)=true:=by
 unfold ZG;split
 ·exact .inl rfl
 ·rename_i h;have a:n % (FA m).length<(FA m).length:=Aev _ (Ae1.2 h);rw[OH _ a];exact .inr (EI (DS.1 (Adb a)))
end
section
local instance qGC:AJ:=Ao
variable {J:Aa}
def Holds (J:Aa) (p:qOi) (l:List Int):Prop:=Da J 1 p l.length=some (Bl l)/\((∃ a,p=some a)\/l=[])
theorem bZ {J:Aa} {p:qOi} {n:Nat} {row:List Value} (τ:Aa) (h:Da J 1 p n=some row):Da (J++τ) 1 p n=some row:=by
 cases p with
 | none=>exact h
 | some a=>
   simp only[Da,Nm] at h ⊢;cases e:J[a.block]? with
   | none=>rw[e] at h; cases h
   | some o=>rw[AT (Af e),e]; rw[e] at h; exact h
theorem WY (k:Nat) (p:qOi) (c:Nat) (l:List Int) (j:l.length<=100000) (h:Holds J p l):
  ∃ s τ,BN (k+1) (p,l.length,c) J=some (.slice s.1 s.2.1 s.2.2,J++τ)/\Bf (J++τ) s l /\ ∀ b ∈ hs s,J.length<=b:=by
 rw[Tg];cases p with
 | none=>
   have d:l=[]:=by
    rcases h.2 with ⟨a,g⟩ | h
    ·cases g
    ·exact h
   subst d;refine ⟨(none,0,0),[], ?_,.inl (Ct.nil _ _ _),fun b hb=>by simp[hs] at hb⟩;rw[show ([]:List Int).length=0 from rfl];rw[show ∀ n c,Lq P FR (.slice none n c) (.slice none 0 0)=some true from fun n c=>by kernel_rfl];simp only[AI,IS,Ab1]
 | some a=>
   have i:=bZ [Au.cells [] Ak true] h.1;obtain ⟨s',τ,e,h1,f⟩:=Tv wg uC tB rfl rfl (by decide) (by decide) (by decide) J (some a) l.length c j (Bl l) (by rw[Cm,Acg]) i;simp only[eqW,AI,By,Ae,e];refine ⟨s',[Au.cells [] Ak true]++τ,by rw[<- Aaq], ?_, ?_⟩
   ·by_cases h0:l.length=0
    ·have d:l=[]:=Aeh.1 h0;refine .inr ⟨d,J.length,[],Ak,true,f h0, ?_⟩;rw[Acf (Aa1 _)]; simp
    ·obtain ⟨m,o⟩:=h1 (by omega);refine .inl (.inr ⟨J.length+1,m,Ado _,by rw[Cm,Acg], ?_⟩);rw[<- Aaq]; exact o
   ·intro b hb;by_cases h0:l.length=0
    ·rw[f h0] at hb; simp[hs] at hb; omega
    ·rw[(h1 (by omega)).1] at hb; simp[hs] at hb; omega
theorem Bf.holds {s:Bx} {l:List Int} (h:Bf J s l):Holds J s.1 l:=by
 refine ⟨h.first, ?_⟩;rcases h with (⟨h,_,rfl⟩ | ⟨b,rfl,_⟩) | ⟨rfl,b,cs,T,w,rfl,a⟩
 ·exact .inr (Aeh.1 h)
 ·exact .inl ⟨_,rfl⟩
 ·exact .inr rfl
theorem Bf.tail {s:Bx} {a:Int} {l:List Int} (h:Bf J s (a::l)):∃ p c,Gj Ak 1 (s.1,(a::l).length,(a::l).length) (some (qIi (1:Int))) none none J=some (p,l.length,c)/\Holds J p l:=by
 rcases h with h | ⟨h,_⟩
 ·obtain ⟨p,c,e,d⟩:=WG h 1 (a::l).length (by simp) (Aa1 _) (some (qIi ((1:Nat):Int))) none (.inl rfl) (.inr ⟨rfl,rfl⟩);have f:(a::l).length-1=l.length:=by simp
  rw[f] at e d;refine ⟨p,c,e, ?_, ?_⟩
  ·rw[d];simp only[Bl,Aek,Acg,Ais,Agx,Adf];rw[Ady (by simp)]
  ·cases p with
   | some a=>exact .inl ⟨_,rfl⟩
   | none=>
     right;cases l with
     | nil=>rfl
     | cons b l=>
       exfalso;simp only[Da,Adl] at d;rw[Aaz (by omega)] at d;cases d
 ·cases h
theorem YY (k:Nat) {s:Bx} {l:List Int} (h:Bf J s l) (i:l.length<=1000000) (v:Int):∀ (n x f:Nat),x+n=l.length->n<f ->
  ∃ o,ER k f s.1 l.length l.length v ((l.length:Nat):Int) (x:Int) J=some o/\(v ∈ l.drop x -> ∃ y:Nat,o=(.ret,[qIi (y:Int)],J))/\(v ∉ l.drop x->o=(.exit 0,[],J))
 | n,x,0,d,c=>by omega
 | 0,x,f+1,d,c=>by
   rw[IM];simp only[dFu x l.length (by omega),By];refine ⟨_,rfl,fun hm=>?_,fun _=>rfl⟩;rw[Ade (by omega)] at hm;cases hm
 | n+1,x,f+1,d,c=>by
   obtain ⟨b,e,m,_⟩:=h.ld (x:=x) (by omega);have p:=qSu x l.length (by omega);have r:=wSu x (by omega);obtain ⟨o,a,h1,g⟩:=YY k h i v n (x+1) f (by omega) (by omega);have hd:l.drop x=l.getD x 0::l.drop (x+1):=by
    rw[Ac2 (by omega),Aax,Aau (by omega)]; rfl
   rw[IM];simp only[dTu x l.length (by omega),IS,p,Aat,e,AI,IT,Acg,IN,m,r];by_cases q:v=l.getD x 0
   ·rw[show (v == l.getD x 0)=true from Aei.2 q];simp only[IS];exact ⟨_,rfl,fun _=>⟨x,rfl⟩,fun hm=>absurd (by rw[hd,q]; exact Acj) hm⟩
   ·rw[show (v == l.getD x 0)=false from Ach.2 q];rw[e] at a;simp only[By,a];refine ⟨o,rfl,fun hm=>h1 ?_,fun hm=>g fun j=>hm (by rw[hd]; exact Ab7 _ j)⟩;rw[hd] at hm;rcases Acd.1 hm with hm | hm
    ·exact absurd hm q
    ·exact hm
theorem YT (k:Nat) {s:Bx} {l:List Int} (h:Bf J s l) (g:l.length<=1000000) (f:l.length<k) (v:Int):C9 (k+2) (s.1,s.2.1,s.2.2) v J=some (.bool (decide (v ∈ l)),J):=by
 obtain ⟨o,e,h1,a⟩:=YY (k) h g v l.length 0 k (by omega) f;rw[show ((0:Nat):Int)=0 from rfl] at e;rw[LA,MV];have b:=h.form;have c:s.2.1=l.length:=by rw[b]
 have d:s.2.2=l.length:=by rw[b]
 simp only[c,d,e,AI];rw[Adf] at h1 a;by_cases hm:v ∈ l
 ·obtain ⟨y,rfl⟩:=h1 hm;rw[Aak hm];simp only[reduceCtorEq,Aa5,Aat,Em,AI,Ah];rw[Aak (show (y:Int)>=0 by omega)]
 ·rw[a hm,Aaj hm];simp only[Aat,AI,Ah];rfl
theorem ji (k:Nat) (i:10<=k) {e:Nat} (h0:0<e) (h1:e<=4096) (J:Aa):∃ τ tb wb,JB (k+4) (e:Int) 2 J=some (.tuple #[qVi (some ⟨tb,0,none⟩),qIi 0],J++τ) /\
  DJ (J++τ) tb wb e 2 (List.replicate ((e*2+63)/64) 0#64)/\J.length<=tb/\J.length<=wb/\tb≠wb:=by
 obtain ⟨Z,a⟩:∃ Z,J++[Au.cells [Value.int .i64 1,qIi 2,qIi 4,qIi 8] Ak true]=Z:=⟨_,rfl⟩;have j:Z.length=J.length+1:=by rw[<- a]; simp
 have h:Bf Z (some ⟨J.length,0,none⟩,4,4) [1,2,4,8]:=.inl (.inr ⟨J.length,rfl,by decide,rfl,by rw[<- a]; simp[Bl]⟩);have hC:C9 (k+3) (some ⟨J.length,0,none⟩,4,4) 2 Z=some (.bool true,Z):=YT (k+1) h (by decide) (by simp; omega) 2;rw[VC];simp only[show decide ((e:Int)<1)=false from Aaj (by omega),By,show decide ((e:Int)>4096)=false from Aaj (by omega),AI,Ae,a,hC,An,Aa4];have b:Ar ((e:Int)*2)=((e*2:Nat):Int):=by rw[Ai (by unfold AQ; omega)]; omega
 have c:Ar (((e*2:Nat):Int)+64)=((e*2+64:Nat):Int):=Ai (by unfold AQ; omega);have d:Ar (((e*2+64:Nat):Int)-1)=((e*2+63:Nat):Int):=by rw[Ai (by unfold AQ; omega)]; omega
 have f:((e*2+63:Nat):Int).tdiv 64=(((e*2+63)/64:Nat):Int):=rfl;have g:Ar (((e*2+63)/64:Nat):Int)=(((e*2+63)/64:Nat):Int):=Ai (by unfold AQ; omega);simp only[b,c,d,f,g,show ((64:Int)=0)=False from by simp,Aa5];rw[Aay (by omega)];simp only[IT,qv];refine ⟨[Au.cells [Value.int .i64 1,qIi 2,qIi 4,qIi 8] Ak true,.cells (rowOf (List.replicate ((e*2+63)/64) 0#64)) BE true,.cells [qIi (e:Int),qIi 2,.slice (some ⟨J.length+1,0,none⟩) ((e*2+63)/64) ((e*2+63)/64)] N5 true],J.length+2,J.length+1, ?_, ?_,by omega,by omega,by omega⟩
 ·rw[<- a]; simp
 ·refine ⟨?_, ?_,by simp,h0,h1,.inr (.inl rfl)⟩
  ·simp
  ·simp
theorem mP (k:Nat) {tb wb e w:Nat} {ws:List (BitVec 64)} (h:DJ J tb wb e w ws):Eg (k+2) (some ⟨tb,0,none⟩) J=some (qIi (e:Int),J):=by
 rw[QM];simp only[Xq k h,AI,An,Aa4,By,IN,Aa0,h.ldE]
theorem aD (k:Nat) {tb wb e:Nat} (a:tb≠wb):∀ (n x f:Nat) (J:Aa) (ws:List (BitVec 64)),DJ J tb wb e 2 ws->x+n=e->n<f ->
  ∃ J',Fx (k+3) f (some ⟨tb,0,none⟩) (0:Int) (0:Int) (e:Int) (x:Int) J=some (.exit 0,[],J')/\DJ J' tb wb e 2 (St ws n x)/\Mv [wb] [wb] J J'
 | n,x,0,J,ws,h,c,b=>by omega
 | 0,x,f+1,J,ws,h,c,b=>by
   rw[Me];simp only[Aaj (show ¬ (x:Int)<(e:Int) by omega),By];exact ⟨J,rfl,h,Mv.refl _ _⟩
 | n+1,x,f+1,J,ws,h,c,b=>by
   have l:=h.top;have w0:Ar (0+(x:Int))=(x:Int):=by rw[Ai (by unfold AQ; omega)]; omega
   have i:=wSu x (by omega);have hp:=vr (k+1) h (j:=x) (v:=0) (by omega);rw[show ((0:Nat):Int)=0 from rfl] at hp;obtain ⟨J',d,g,m'⟩:=aD k a n (x+1) f _ _ (h.put a x 0) (by omega) (by omega);rw[Me];simp only[Aak (show (x:Int)<(e:Int) by omega),IS,w0,i,hp,AI,Gi,d];exact ⟨J',rfl,g,(Mv.set J _ (Ac1.2 rfl)).trans m'⟩
theorem wG (k:Nat) (i:5000<=k) {tb wb e:Nat} (a:tb≠wb) {ws:List (BitVec 64)} (h:DJ J tb wb e 2 ws):
  ∃ J',FL (k+9) (some ⟨tb,0,none⟩) (0:Int) (e:Int) (0:Int) J=some (qIi 0,J')/\DJ J' tb wb e 2 (St ws e 0)/\Mv [tb,wb] [tb,wb] J J':=by
 have hp:=h.pos;have j:=h.top;have h1:=h.app [.cells [qIi (0:Int)] Ak true];obtain ⟨τ,g⟩:=kg k h1 (0:Int) (0:Int) J.length (by simp[Aj,CW,Bk]) (by simp);have d:=h1.app τ;obtain ⟨J',c,f,m'⟩:=aD (k+5) a e 0 (k+8) _ _ d (by omega) (by omega);rw[show ((0:Nat):Int)=0 from rfl] at c;have w0:Ar ((e:Int)-0)=(e:Int):=by rw[Ai (by unfold AQ; omega)]; omega
 refine ⟨J', ?_,f,(((Mv.app [wb] J _).trans (Mv.app [wb] _ τ)).trans m').wide (fun q b=>Ab7 _ b) fun q b=>.inl b⟩;rw[TW];simp only[Ae];rw[g,Aay (by have:=Ahi 2; omega)];simp only[AI,Ah,Abx,By,Aaj (show ¬ (e:Int)<1 by omega),IN,Aa0,d.ldE,w0,Aaj (show ¬ (e:Int)>(e:Int) by omega),c,Aat]
end
section
local instance qGD:AJ:=Ao
variable {J:Aa} {r:D4}
structure PI where
 rb:Nat
 s1:Bx
 s2:Bx
 s3:Bx
def PI.l (p:PI):List Nat:=p.rb::(hs p.s1++(hs p.s2++hs p.s3))
structure Hg (J:Aa) (p:PI) (r:D4):Prop where
 cell:J[p.rb]?=some (.cells [qIi (r.mu:Int),.slice p.s1.1 p.s1.2.1 p.s1.2.2,.slice p.s2.1 p.s2.2.1 p.s2.2.2,.slice p.s3.1 p.s3.2.1 p.s3.2.2] MP true)
 sl:Bf J p.s1 r.sl
 gl:Bf J p.s2 r.gl
 qu:Bf J p.s3 r.qu
 ok:r.ok
 nd:p.l.Nodup
variable {p:PI}
abbrev F8 (p:PI):qOi:=some ⟨p.rb,0,none⟩
theorem PI.m1 (p:PI) {b:Nat} (h:b ∈ hs p.s1):b ∈ p.l:=Ab7 _ (Aas.2 (.inl h))
theorem PI.m2 (p:PI) {b:Nat} (h:b ∈ hs p.s2):b ∈ p.l:=Ab7 _ (Aas.2 (.inr (Aas.2 (.inl h))))
theorem PI.m3 (p:PI) {b:Nat} (h:b ∈ hs p.s3):b ∈ p.l:=Ab7 _ (Aas.2 (.inr (Aas.2 (.inr h))))
theorem Hg.Ax {J':Aa} (h:Hg J p r) (a:∀ q ∈ p.l,J'[q]?=J[q]?):Hg J' p r:=
 ⟨(a _ Acj).trans h.cell,h.sl.Ax fun b hb=>a b (p.m1 hb),h.gl.Ax fun b hb=>a b (p.m2 hb),h.qu.Ax fun b hb=>a b (p.m3 hb),h.ok,h.nd⟩
theorem Hg.lt (h:Hg J p r):∀ q ∈ p.l,q<J.length:=by
 intro q a;rcases Acd.1 a with rfl | a
 ·exact Af h.cell
 rcases Aas.1 a with a | a
 ·exact h.sl.lt q a
 rcases Aas.1 a with a | a
 ·exact h.gl.lt q a
 ·exact h.qu.lt q a
theorem Hg.app (h:Hg J p r) (τ:Aa):Hg (J++τ) p r:=h.Ax fun q a=>AT (h.lt q a)
theorem Hg.H7 (h:Hg J p r):Aj .i64 J p.rb 0=some (r.mu:Int):=by simp[Aj,CW,h.cell,Bk]
theorem Hg.Fa (h:Hg J p r):Be J p.rb 1=some (p.s1.1,p.s1.2.1,p.s1.2.2):=by simp[Be,CW,h.cell,Eo]
theorem Hg.UL (h:Hg J p r):Be J p.rb 2=some (p.s2.1,p.s2.2.1,p.s2.2.2):=by simp[Be,CW,h.cell,Eo]
theorem Hg.cH (h:Hg J p r):Be J p.rb 3=some (p.s3.1,p.s3.2.1,p.s3.2.2):=by simp[Be,CW,h.cell,Eo]
theorem zL (a:Addr):Lq P FO (qVi (some a)) (qVi none)=some false:=by kernel_rfl
theorem Nn (k:Nat) (h:Hg J p r):Bh (k+1) (F8 p) J=some (.bool true,J):=by
 have:=h.ok.m1;rw[Tc];simp only[zL,AI,Adi,IS,IN,Aa0,h.H7];rw[Aak (by omega)]
theorem Zb (k:Nat) (h:Hg J p r):Cj (k+2) (F8 p) J=some (qIi (r.mu:Int),J):=by
 rw[Py];simp only[Nn k h,AI,An,Aa4,By,IN,Aa0,h.H7]
theorem GC {J J':Aa} (b:J.length<=J'.length) (a:∀ q,q<J.length->J'[q]?=J[q]?):∃ τ,J'=J++τ:=by
 refine ⟨J'.drop J.length, ?_⟩;apply Ad8;intro q;by_cases h:q<J.length
 ·rw[AT h,a q h]
 ·rw[Acf (by omega),Ad0];congr 1; omega
structure aJ (Z:Aa) (h3 h6 top:Nat) (out:List Int):Prop where
 box:∃ s,Z[h3]?=some (.cells [.slice s.1 s.2.1 s.2.2] FR true)/\Bf Z s out /\ ∀ b ∈ hs s,top<b
 rc:Z[h6]?=some (.loop 168 .ready (Hk 0 26 [(3,qVi (some ⟨h3,0,none⟩))]))
 h3t:h3<=top
 h6t:h6<=top
 ne:h3≠h6
 tl:top<Z.length
structure S9 (h3 top:Nat) (Z Z':Aa):Prop where
 len:Z.length<=Z'.length
 same:∀ q,q<=top->q≠h3->Z'[q]?=Z[q]?
theorem S9.refl (h3 top:Nat) (Z:Aa):S9 h3 top Z Z:=⟨Aa1 _,fun _ _ _=>rfl⟩
theorem S9.trans {h3 top:Nat} {a b c:Aa} (h:S9 h3 top a b) (g:S9 h3 top b c):S9 h3 top a c:=⟨Adt h.len g.len,fun q h1 d=>(g.same q h1 d).trans (h.same q h1 d)⟩
theorem S9.app {h3 top:Nat} {Z:Aa} (a:top<Z.length) (τ:Aa):S9 h3 top Z (Z++τ):=⟨by simp,fun q h1 _=>AT (by omega)⟩
theorem aJ.app {Z:Aa} {h3 h6 top:Nat} {out:List Int} (h:aJ Z h3 h6 top out) (τ:Aa):aJ (Z++τ) h3 h6 top out:=by
 obtain ⟨s,e,l,n⟩:=h.box;have a:=h.h3t; have b:=h.h6t; have c:=h.tl;exact ⟨⟨s,by rw[AT (by omega)]; exact e,l.app τ,n⟩,by rw[AT (by omega)]; exact h.rc,a,b,h.ne,by rw[Aaw]; omega⟩
theorem aJ.behind {Z a:Aa} {h3 h6 top:Nat} {out:List Int} (h:aJ Z h3 h6 top out) (g:Z.length<=a.length) (f:∀ q,q<Z.length->a[q]?=Z[q]?):aJ a h3 h6 top out:=by
 obtain ⟨s,e,l,n⟩:=h.box;have c:=h.h3t; have d:=h.h6t; have i:=h.tl;exact ⟨⟨s,by rw[f _ (by omega)]; exact e,l.Ax fun b hb=>f b (l.lt b hb),n⟩,by rw[f _ (by omega)]; exact h.rc,c,d,h.ne,by omega⟩
theorem Pr {ρ:Type} {Z:Aa} {h:Nat} {f:FuncId} {o n:yw} {g:Bo} (a:Z[h]?=some (.loop f o g)) (K:FuncId->Bo->Aa->Option ρ):Kv h Z o n K=K f g (Z.set h (.loop f n g)):=by
 unfold Kv; rw[a]; simp
theorem mT (k:Nat) {Z:Aa} {h3 h6 top:Nat} {out:List Int} (h:aJ Z h3 h6 top out) (S:out.length<=1000) (Q:1000<k) (N O P:Int) {b x:Nat} {v:Int} (G:Aj .i64 Z b x=some v) (h0:v≠0) (z:b≠h6):
  ∃ t,HO (k+2) (C9 (k+2)) h6 h3 N O P (some ⟨b,x,none⟩) Z=some (.bool true,t)/\aJ t h3 h6 top (JN out v)/\S9 h3 top Z t:=by
 obtain ⟨s,e,l,n⟩:=h.box;have i:=h.h3t; have j:=h.h6t; have U:=h.tl;have c:∀ q ∈ hs s,q≠h3/\q≠h6:=fun q a=>by have:=n q a; omega
 obtain ⟨u,m⟩:∃ u,Au.loop 168 .busy (Hk 0 26 [(3,qVi (some ⟨h3,0,none⟩))])=u:=⟨_,rfl⟩;obtain ⟨Z1_,d⟩:∃ Z1_,Z.set h6 u=Z1_:=⟨_,rfl⟩;have T:Z1_.length=Z.length:=by rw[<- d]; simp
 have r:∀ q,q≠h6->Z1_[q]?=Z[q]?:=fun q a=>by rw[<- d,Aar (Adk a)]
 have D:Z1_[h6]?=some (.loop 168 .busy (Hk 0 26 [(3,qVi (some ⟨h3,0,none⟩))])):=by rw[<- d,Aa2 (by omega),m]
 have w:Z1_[h3]?=some (.cells [.slice s.1 s.2.1 s.2.2] FR true):=by rw[r _ h.ne]; exact e
 have f:Bf Z1_ s out:=l.Ax fun q a=>r q (c q a).2;have A:Be Z1_ h3 0=some (s.1,s.2.1,s.2.2):=by simp[Be,CW,w,Eo]
 have B:Aj .i64 Z1_ b x=some v:=by
  have:Z1_[b]?=Z[b]?:=r b z;simp only[Aj,CW,this] at G ⊢;exact G
 have hC:=YT k f (by omega) (by omega) v;unfold HO;rw[Pr h.rc,m,d];simp only[A,AI,B,hC,An];by_cases hm:v ∈ out
 ·rw[Aak hm];simp only[Aa4,By,AI,Aat];rw[Pr D];have y:JN out v=out:=by unfold JN; rw[Aay (.inr hm)]
  refine ⟨_,rfl, ?_, ?_⟩
  ·rw[y];refine ⟨⟨s,by rw[Aar h.ne.symm]; exact w,f.Ax fun q a=>Aar (c q a).2.symm,n⟩,Aa2 (by omega),i,j,h.ne,by simp; omega⟩
  ·refine ⟨by simp; omega,fun q a F=>?_⟩;by_cases g:q=h6
   ·subst g; rw[Aa2 (by omega),h.rc]
   ·rw[Aar (Adk g),r q g]
 ·rw[Aaj hm];have y:JN out v=out++[v]:=by unfold JN; rw[Aaz (fun E=>E.elim h0 hm)]
  obtain ⟨s',Z2_,M,C,p⟩:=f.push v Ak (by omega);have o:∀ q ∈ hs s',top<q:=fun q a=>(p.new q a).elim (n q) fun E=>by omega
  have J:Z2_[h3]?=some (.cells [.slice s.1 s.2.1 s.2.2] FR true):=p.IY w fun hm=>(c _ hm).1 rfl;have K:Z2_[h6]?=some (.loop 168 .busy (Hk 0 26 [(3,qVi (some ⟨h3,0,none⟩))])):=p.IY D fun hm=>(c _ hm).2 rfl;have H:=p.len;have st:CY Z2_ h3 0 (.slice s'.1 s'.2.1 s'.2.2)=some (Z2_.set h3 (.cells [.slice s'.1 s'.2.1 s'.2.2] FR true)):=by simp[CY,J]
  have L:(Z2_.set h3 (.cells [.slice s'.1 s'.2.1 s'.2.2] FR true))[h6]?=some (.loop 168 .busy (Hk 0 26 [(3,qVi (some ⟨h3,0,none⟩))])):=by rw[Aar h.ne]; exact K
  simp only[Adi,IS,AI,Ae,M,st,Aat];rw[Pr L];have I:=h.ne;refine ⟨_,rfl, ?_, ?_⟩
  ·rw[y];refine ⟨⟨s', ?_,C.Ax fun q a=>?_,o⟩,Aa2 (by simp; omega),i,j,h.ne,by simp; omega⟩
   ·rw[Aar h.ne.symm,Aa2 (by omega)]
   ·have:=o q a;rw[Aar (by omega),Aar (by omega)]
  ·refine ⟨by simp; omega,fun q a F=>?_⟩;by_cases g:q=h6
   ·subst g; rw[Aa2 (by simp; omega),h.rc]
   ·rw[Aar (Adk g),Aar (Adk F),p.same q (by omega) (fun hm=>by have:=n q hm; omega),r q g]
theorem Q7 (k:Nat) (A:1000<k) {h3 h6 top:Nat} (i1:Int) (sl:Bx) (l:List Int) (I:l.length<=200):∀ (n x f:Nat) (Z:Aa) (out:List Int),aJ Z h3 h6 top out->Bf Z sl l->(∀ b ∈ hs sl,b<=top/\b≠h3/\b≠h6)->x+n=l.length->out.length+n<=1000->n<f ->
  ∃ d,Di (k+3) f (.func (.yield h6) #[] #[]) i1 sl.1 l.length l.length ((l.length:Nat):Int) (x:Int) Z=some (.exit 2,[],d)/\aJ d h3 h6 top ((l.drop x).foldl JN out)/\S9 h3 top Z d/\((l.drop x).foldl JN out).length<=out.length+n
 | n,x,0,Z,out,h,a,hb,K,r,H=>by omega
 | 0,x,f+1,Z,out,h,a,hb,K,r,H=>by
   rw[FK];simp only[dFu x l.length (by omega),By];rw[Ade (by omega)];exact ⟨Z,rfl,h,S9.refl _ _ _,by simp⟩
 | n+1,x,f+1,Z,out,h,a,hb,K,r,H=>by
   obtain ⟨b,e,N,_⟩:=a.ld (x:=x) (by omega);have P:=h.tl;have w:=hb b (Nz e);have O:=qSu x l.length (by omega);have Q:=wSu x (by omega);have hd:l.drop x=l.getD x 0::l.drop (x+1):=by
    rw[Ac2 (by omega),Aax,Aau (by omega)]; rfl
   rw[hd,Aef];rw[FK];simp only[dTu x l.length (by omega),IS,Ae,EA,AI];have i:∃ y z,((bif i1 == (0:Int) then (if (16:Int)=0 then none else if (16:Int)=0 then none else (CY (Z++[Au.cells [qIi i1,qIi 0,qIi (x:Int)] Am true]) Z.length (0+1) (qIi (Ar ((x:Int).tdiv (16:Int))))).bind fun D=>(CY D Z.length (0+2) (qIi ((x:Int).tmod (16:Int)))).bind fun E=>some (.normal,[],E)) else (some (.normal,[],Z++[Au.cells [qIi i1,qIi 0,qIi (x:Int)] Am true])):Option Bq))=some (.normal,[],Z++[Au.cells [qIi i1,qIi y,qIi z] Am true]):=by
    cases h0:i1 == (0:Int) with
    | true=>
      simp only[IS,show ((16:Int)=0)=False from by simp,Aa5];refine ⟨Ar ((x:Int).tdiv 16),(x:Int).tmod 16, ?_⟩;simp only[CY,Ab5,Adl,Adx,IN,show 1<0+1+1+1 from by omega,Aat,AI,Aex,Afj];rw[Afb _ _ (Aa1 _)];simp
    | false=>exact ⟨0,(x:Int),rfl⟩
   obtain ⟨y,z,M⟩:=i;rw[M];obtain ⟨B,G⟩:∃ B,Au.cells [qIi i1,qIi y,qIi z] Am true=B:=⟨_,rfl⟩;have h1:=h.app [B];have c:=a.app [B];have m:Aj .i64 (Z++[B]) b x=some (l.getD x 0):=by rw[HP _ _ _ (by omega)]; exact N
   have f1:S9 h3 top Z (Z++[B]):=S9.app P _;rw[G];simp only[AI,Aat,O,e,IT,Acg,IN,m,Q];by_cases s:l.getD x 0=0
   ·have L:JN out (l.getD x 0)=out:=by unfold JN; rw[Aay (.inl s)]
    rw[L];obtain ⟨d,p,t,f2,S⟩:=Q7 k A i1 sl l I n (x+1) f _ out h1 c hb (by omega) (by omega) (by omega);rw[e] at p;refine ⟨d, ?_,t,f1.trans f2,by omega⟩;rw[show (l.getD x 0 != 0)=false from by rw[s]; rfl];simp only[By,AI];exact p
   ·have g:∀ o v,o<3->[i1,y,z][o]?=some v->Aj .i64 (Z++[B]) Z.length o=some v:=by
     intro o v r C;rw[<- G,Bv]
     match o,r with
     | 0,_=>cases C; rfl
     | 1,_=>cases C; rfl
     | 2,_=>cases C; rfl
    obtain ⟨Z2_,p,t,f2⟩:=mT k h1 (by omega) A i1 y z m s w.2.2;have j:Bf Z2_ sl l:=c.Ax fun q J=>f2.same q (hb q J).1 (hb q J).2.1;have hlen:(JN out (l.getD x 0)).length<=out.length+1:=by
     unfold JN; split
     ·omega
     ·simp
    obtain ⟨d,F,u,f3,T⟩:=Q7 k A i1 sl l I n (x+1) f _ _ t j hb (by omega) (by omega) (by omega);rw[e] at F;refine ⟨d, ?_,u,(f1.trans f2).trans f3,by omega⟩;rw[show (l.getD x 0 != 0)=true from Adz.2 s];simp only[IS,g 0 i1 (by omega) rfl,g 1 y (by omega) rfl,g 2 z (by omega) rfl,AI];rw[Mz _ _ _ _ _ _ _ _ h1.rc,p];simp only[AI,An,Aa4,By];exact F
theorem jJ (k:Nat) (hk:1000<k) (h:Hg J p r):∃ τ s,Dd (k+6) (F8 p) J=some (.slice s.1 s.2.1 s.2.2,J++τ)/\Bf (J++τ) s (AW r) /\ ∀ b ∈ hs s,J.length<=b:=by
 have f:=h.ok;have N:=f.sl;have aa:=f.m4;have hg:=f.gl;have e:=f.qu;have x:=h.lt;rw[RK];have em:Bh (k+5) (F8 p) J=_:=Nn (k+4) h;simp only[em,AI,An,Aa4,By,Ae];rw[NG];simp only[Ae,AI,kK,IS];rw[JO];rw[Md];simp only[Ae];obtain ⟨u,l⟩:∃ O,Au.cells [.slice none 0 0] FR true=O:=⟨_,rfl⟩;obtain ⟨O2,m⟩:∃ O,Au.cells [qVi (F8 p)] FO true=O:=⟨_,rfl⟩;obtain ⟨O3,n⟩:∃ O,Au.loop 168 .ready (Hk 0 26 [(3,qVi (some ⟨J.length,0,none⟩))])=O:=⟨_,rfl⟩;rw[l,m,n];obtain ⟨Z,z⟩:∃ Z,J++[u]++[O2]++[O3]=Z:=⟨_,rfl⟩;have lm:Z.length=J.length+3:=by rw[<- z]; simp
 have d:Z=J++[u,O2,O3]:=by rw[<- z]; simp
 have lb:(J++[u]++[O2]).length=J.length+2:=by simp
 have la:(J++[u]).length=J.length+1:=by simp
 rw[z,lb,la];have g:Hg Z p r:=by rw[d]; exact h.app _
 have B:B9 Z (J.length+1) 0=some (F8 p):=by
  rw[d];simp only[B9,CW];rw[Acf (by omega),show J.length+1-J.length=1 from by omega];simp only[Ace,Aca,<- m];rfl
 simp only[AI,B,IN,Aa0,g.Fa,g.UL,g.cH];obtain ⟨O4,o⟩:∃ O,Au.cells [.slice p.s1.1 p.s1.2.1 p.s1.2.2,.slice p.s2.1 p.s2.2.1 p.s2.2.2,.slice p.s3.1 p.s3.2.1 p.s3.2.2] FR true=O:=⟨_,rfl⟩;rw[o];have c:Hg (Z++[O4]) p r:=g.app _;have T:aJ (Z++[O4]) J.length (J.length+2) (J.length+3) []:=by
  refine ⟨⟨(none,0,0), ?_,Bf.nil _,fun b hb=>by simp[hs] at hb⟩, ?_,by omega,by omega,by omega,by simp[lm]⟩
  ·rw[d,Aaq,Acf (Aa1 _),Afl,<- l]; rfl
  ·rw[d,Aaq,Acf (by omega),show J.length+2-J.length=2 from by omega,<- n]; rfl
 have I:(Z++[O4])[J.length+3]?=some O4:=by rw[<- lm]; simp
 have a:∀ b ∈ p.l,b<=J.length+3/\b≠J.length/\b≠J.length+2:=fun b hb=>by have:=x b hb; omega
 have f1:=c.sl.form;have f2:=c.gl.form;have f3:=c.qu.form;have all:r.all.length<=144:=by unfold D4.all; rw[Aaw,Aaw]; omega
 obtain ⟨Z1_,K,S1,F1,Q⟩:=Q7 (k+1) (by omega) (h3:=J.length) (h6:=J.length+2) (top:=J.length+3) 0 p.s1 r.sl (by omega) r.sl.length 0 (k+4) _ [] T c.sl (fun b hb=>a b (p.m1 hb)) (by omega) (by simp; omega) (by omega);have k1:∀ q ∈ p.l,Z1_[q]?=(Z++[O4])[q]?:=fun q e=>F1.same q (a q e).1 (a q e).2.1;have S:=c.Ax k1;have d1:Z1_[J.length+3]?=some O4:=(F1.same _ (Aa1 _) (by omega)).trans I;obtain ⟨Z2_,L,S2,F2,n2⟩:=Q7 (k+1) (by omega) (h3:=J.length) (h6:=J.length+2) (top:=J.length+3) 1 p.s2 r.gl (by omega) r.gl.length 0 (k+4) _ _ S1 S.gl (fun b hb=>a b (p.m2 hb)) (by omega) (by simp at Q ⊢; omega) (by omega);have k2:∀ q ∈ p.l,Z2_[q]?=Z1_[q]?:=fun q e=>F2.same q (a q e).1 (a q e).2.1;have p2:=S.Ax k2;have d2:Z2_[J.length+3]?=some O4:=(F2.same _ (Aa1 _) (by omega)).trans d1;obtain ⟨Z3_,M,S3,F3,n3⟩:=Q7 (k+1) (by omega) (h3:=J.length) (h6:=J.length+2) (top:=J.length+3) 2 p.s3 r.qu (by omega) r.qu.length 0 (k+4) _ _ S2 p2.qu (fun b hb=>a b (p.m3 hb)) (by omega) (by simp at Q n2 ⊢; omega) (by omega);have j:((List.drop 0 r.qu).foldl JN ((List.drop 0 r.gl).foldl JN ((List.drop 0 r.sl).foldl JN [])))=AW r:=by
  unfold AW D4.all;simp only[Adf,Af1]
 rw[j] at S3;have v:∀ (ν:Aa),ν[J.length+3]?=some O4->Be ν (J.length+3) 0=some (p.s1.1,p.s1.2.1,p.s1.2.2)/\Be ν (J.length+3) 1=some (p.s2.1,p.s2.2.1,p.s2.2.2)/\Be ν (J.length+3) 2=some (p.s3.1,p.s3.2.1,p.s3.2.2):=by
  intro ν hν;simp[Be,CW,hν,<- o,Eo]
 have w1:Ar ((0:Int)+1)=1:=by decide
 have w2:Ar ((1:Int)+1)=2:=by decide
 have w3:Ar ((2:Int)+1)=3:=by decide
 have C:p.s1.2.1=r.sl.length:=by rw[f1]
 have D:p.s1.2.2=r.sl.length:=by rw[f1]
 have E:p.s2.2.1=r.gl.length:=by rw[f2]
 have F:p.s2.2.2=r.gl.length:=by rw[f2]
 have G:p.s3.2.1=r.qu.length:=by rw[f3]
 have H:p.s3.2.2=r.qu.length:=by rw[f3]
 rw[show ((0:Nat):Int)=0 from rfl] at K L M;have X:Dh (k+4) (k+4) (.func (.yield (J.length+2)) #[] #[]) (J.length+3) ((3:Nat):Int) 0 (Z++[O4])=some (.exit 0,[],Z3_):=by
  obtain ⟨U,_,_⟩:=v _ I;obtain ⟨_,V,_⟩:=v _ d1;obtain ⟨_,_,W⟩:=v _ d2;rw[BS];simp only[show decide ((0:Int)<((3:Nat):Int))=true from rfl,IS,show ((0:Int)<=0/\(0:Int)<((3:Nat):Int))=True from by simp,Aat,Afm,Ad6,IN,U,AI,C,D,K,w1];rw[BS];simp only[show decide ((1:Int)<((3:Nat):Int))=true from rfl,IS,show ((0:Int)<=1/\(1:Int)<((3:Nat):Int))=True from by simp,Aat,show (1:Int).toNat=1 from rfl,Acg,IN,V,AI,E,F,L,w2];rw[BS];simp only[show decide ((2:Int)<((3:Nat):Int))=true from rfl,IS,show ((0:Int)<=2/\(2:Int)<((3:Nat):Int))=True from by simp,Aat,show (2:Int).toNat=2 from rfl,Acg,IN,W,AI,G,H,M,w3];rw[BS];simp only[show decide ((3:Int)<((3:Nat):Int))=false from rfl,By]
 obtain ⟨s,t,w,i⟩:=S3.box;have y:=S3.rc;have P:Z.length+1<=Z3_.length:=by
  have Y:=F1.len;have g2:=F2.len;have g3:=F3.len;simp at Y;omega
 obtain ⟨τ,A⟩:∃ τ,Z3_.set (J.length+2) .dead=J++τ:=by
  refine GC (by simp; omega) fun q e=>?_;rw[Aar (by omega),F3.same q (by omega) (by omega),F2.same q (by omega) (by omega),F1.same q (by omega) (by omega),d,Aaq,AT e]
 refine ⟨τ,s, ?_, ?_,fun b hb=>by have:=i b hb; omega⟩
 ·rw[lm];simp only[X,Aat,AI];unfold Pb;rw[y];have:Be (Z3_.set (J.length+2) .dead) J.length 0=some (s.1,s.2.1,s.2.2):=by
   simp only[Be,CW];rw[Aar (by omega),t];rfl
  rw[A] at this;simp only[Aat,A,this,AI]
 ·rw[<- A];exact w.Ax fun q e=>Aar (by have:=i q e; omega)
end
section
local instance qGH:AJ:=Ao
variable {J:Aa} {m:HM} {r:D4} {s:TC} {i:Cs} {p:PI}
structure CI where
 cb:Nat
 tb:Nat
 wb:Nat
 ls:Bx
 lf:Bx
def CI.l (c:CI):List Nat:=c.cb::c.tb::c.wb::(hs c.ls++hs c.lf)
structure Aa3 (c:CI):Prop where
 ab:c.cb≠c.tb
 ac:c.cb≠c.wb
 bc:c.tb≠c.wb
 al:∀ q ∈ hs c.ls,q≠c.cb/\q≠c.tb/\q≠c.wb/\q ∉ hs c.lf
 ar:∀ q ∈ hs c.lf,q≠c.cb/\q≠c.tb/\q≠c.wb
def GG (c:CI) (hb rb:Nat) (s:TC):List Value:=[qVi (some ⟨hb,0,none⟩),qVi (some ⟨rb,0,none⟩),.bool s.look,qIi s.born,qIi s.ph,qVi (some ⟨c.tb,0,none⟩),.slice c.ls.1 c.ls.2.1 c.ls.2.2,.slice c.lf.1 c.lf.2.1 c.lf.2.2,qIi s.freed]
structure Gk (J:Aa) (c:CI) (hb rb nb:Nat) (s:TC):Prop where
 cell:J[c.cb]?=some (.cells (GG c hb rb s) Hy true)
 tab:DJ J c.tb c.wb (32*nb) 2 s.ws
 ls:Bf J c.ls s.list
 lf:Bf J c.lf s.left
 sep:Aa3 c
variable {c:CI} {hb rb nb:Nat}
abbrev Dz (c:CI):qOi:=some ⟨c.cb,0,none⟩
theorem CI.m0 (c:CI):c.cb ∈ c.l:=Acj
theorem CI.m1 (c:CI):c.tb ∈ c.l:=Ab7 _ Acj
theorem CI.m2 (c:CI):c.wb ∈ c.l:=Ab7 _ (Ab7 _ Acj)
theorem CI.m3 (c:CI) {q:Nat} (h:q ∈ hs c.ls):q ∈ c.l:=Ab7 _ (Ab7 _ (Ab7 _ (Aas.2 (.inl h))))
theorem CI.m4 (c:CI) {q:Nat} (h:q ∈ hs c.lf):q ∈ c.l:=Ab7 _ (Ab7 _ (Ab7 _ (Aas.2 (.inr h))))
theorem CI.mem {c:CI} {q:Nat} (h:q ∈ c.l):q=c.cb\/q=c.tb\/q=c.wb\/q ∈ hs c.ls\/q ∈ hs c.lf:=by
 unfold CI.l at h;simp only[Acd,Aas] at h;exact h
theorem Gk.Ax {J':Aa} (h:Gk J c hb rb nb s) (a:∀ q ∈ c.l,J'[q]?=J[q]?):Gk J' c hb rb nb s:=
 ⟨(a _ c.m0).trans h.cell,h.tab.same (a _ c.m1) (a _ c.m2),h.ls.Ax fun b hb=>a b (c.m3 hb),h.lf.Ax fun b hb=>a b (c.m4 hb),h.sep⟩
theorem Gk.lt (h:Gk J c hb rb nb s):∀ q ∈ c.l,q<J.length:=by
 intro q a;rcases CI.mem a with rfl | rfl | rfl | a | a
 ·exact Af h.cell
 ·exact h.tab.lt.1
 ·exact h.tab.lt.2
 ·exact h.ls.lt q a
 ·exact h.lf.lt q a
theorem Gk.app (h:Gk J c hb rb nb s) (τ:Aa):Gk (J++τ) c hb rb nb s:=h.Ax fun q a=>AT (h.lt q a)
theorem Gk.H7 (h:Gk J c hb rb nb s):B9 J c.cb 0=some (some ⟨hb,0,none⟩):=by simp[B9,CW,h.cell,GG,HR]
theorem Gk.Fa (h:Gk J c hb rb nb s):B9 J c.cb 1=some (some ⟨rb,0,none⟩):=by simp[B9,CW,h.cell,GG,HR]
theorem Gk.UL (h:Gk J c hb rb nb s):Vy J c.cb 2=some s.look:=by simp[Vy,CW,h.cell,GG,Dl]
theorem Gk.eR (h:Gk J c hb rb nb s):Aj .i64 J c.cb 4=some s.ph:=by simp[Aj,CW,h.cell,GG,Bk]
theorem Gk.ld5 (h:Gk J c hb rb nb s):B9 J c.cb 5=some (some ⟨c.tb,0,none⟩):=by simp[B9,CW,h.cell,GG,HR]
theorem Gk.uT (h:Gk J c hb rb nb s):Be J c.cb 6=some (c.ls.1,s.list.length,s.list.length):=by
 have:=h.ls.form;have a:c.ls.2.1=s.list.length:=by rw[this]
 have b:c.ls.2.2=s.list.length:=by rw[this]
 simp[Be,CW,h.cell,GG,Eo,a,b]
theorem Gk.ld7 (h:Gk J c hb rb nb s):Be J c.cb 7=some (c.lf.1,s.left.length,s.left.length):=by
 have:=h.lf.form;have a:c.lf.2.1=s.left.length:=by rw[this]
 have b:c.lf.2.2=s.left.length:=by rw[this]
 simp[Be,CW,h.cell,GG,Eo,a,b]
theorem Gk.ld8 (h:Gk J c hb rb nb s):Aj .i64 J c.cb 8=some s.freed:=by simp[Aj,CW,h.cell,GG,Bk]
theorem Gk.au {Z:Aa} {c c':CI} {s':TC} (f:c'.tb=c.tb) (g:c'.wb=c.wb) (a:c'.cb=c.cb) (e:c.cb<Z.length) (d:DJ Z c'.tb c'.wb (32*nb) 2 s'.ws) (ls:Bf Z c'.ls s'.list) (h:Bf Z c'.lf s'.left) (sep:Aa3 c'):Gk (Z.set c.cb (.cells (GG c' hb rb s') Hy true)) c' hb rb nb s':=by
 refine ⟨by rw[a,Aa2 e],d.same ?_ ?_,ls.Ax fun q b=>?_,h.Ax fun q b=>?_,sep⟩
 ·rw[<- a]; exact Aar sep.ab
 ·rw[<- a]; exact Aar sep.ac
 ·rw[<- a]; exact Aar (sep.al q b).1.symm
 ·rw[<- a]; exact Aar (sep.ar q b).1.symm
theorem Gk.vL (h:Gk J c hb rb nb s) (v:Int):∃ J',CY J c.cb 4 (qIi v)=some J'/\Gk J' c hb rb nb { s with ph:=v }/\Mv c.l c.l J J':=by
 refine ⟨J.set c.cb (.cells (GG c hb rb { s with ph:=v }) Hy true),by simp[CY,h.cell,GG],Gk.au rfl rfl rfl (Af h.cell) h.tab h.ls h.lf h.sep,Mv.set _ _ c.m0⟩
theorem Gk.mj (h:Gk J c hb rb nb s) (v:Int):∃ J',CY J c.cb 8 (qIi v)=some J'/\Gk J' c hb rb nb { s with freed:=v }/\Mv c.l c.l J J':=by
 refine ⟨J.set c.cb (.cells (GG c hb rb { s with freed:=v }) Hy true),by simp[CY,h.cell,GG],Gk.au rfl rfl rfl (Af h.cell) h.tab h.ls h.lf h.sep,Mv.set _ _ c.m0⟩
theorem CI.Ab3 {c:CI} {s':Bx} {L:List Nat} {a b:Aa} (h:Mv L (hs s') a b) (e:∀ q ∈ L,q ∈ c.l):Mv c.l ({ c with ls:=s' }:CI).l a b:=
 h.wide e fun q d=>by
  rcases CI.mem d with rfl | rfl | rfl | d | d
  ·exact .inl c.m0
  ·exact .inl c.m1
  ·exact .inl c.m2
  ·exact .inr (.inl d)
  ·exact .inl (c.m4 d)
theorem CI.Ab2 {c:CI} {s':Bx} {L:List Nat} {a b:Aa} (h:Mv L (hs s') a b) (e:∀ q ∈ L,q ∈ c.l):Mv c.l ({ c with lf:=s' }:CI).l a b:=
 h.wide e fun q d=>by
  rcases CI.mem d with rfl | rfl | rfl | d | d
  ·exact .inl c.m0
  ·exact .inl c.m1
  ·exact .inl c.m2
  ·exact .inl (c.m3 d)
  ·exact .inr (.inl d)
theorem Gk.qH {Z:Aa} (h:Gk J c hb rb nb s) {s':Bx} {g:List Int} {L:List Nat} (f:∀ q ∈ L,q ∈ hs c.ls) (hm:Mv L (hs s') J Z) (i:Bf Z s' g):
  ∃ J',CY Z c.cb 6 (.slice s'.1 s'.2.1 s'.2.2)=some J'/\Gk J' { c with ls:=s' } hb rb nb { s with list:=g }/\Mv c.l ({ c with ls:=s' }:CI).l J J':=by
 have lt:=h.lt;have d:∀ q ∈ L,q≠c.cb/\q≠c.tb/\q≠c.wb/\q ∉ hs c.lf:=fun q b=>h.sep.al q (f q b);have cell:Z[c.cb]?=_:=hm.IY h.cell fun a=>(d _ a).1 rfl;have new:∀ q ∈ hs s',q ∈ hs c.ls\/J.length<=q:=fun q b=>(hm.new q b).imp (f q) id;refine ⟨Z.set c.cb (.cells (GG { c with ls:=s' } hb rb { s with list:=g }) Hy true),by simp[CY,cell,GG], ?_,(CI.Ab3 hm fun q b=>c.m3 (f q b)).trans (Mv.set _ _ (CI.m0 { c with ls:=s' }))⟩;refine Gk.au (c:=c) rfl rfl rfl (Af cell) (h.tab.same (hm.same _ h.tab.lt.1 fun a=>(d _ a).2.1 rfl) (hm.same _ h.tab.lt.2 fun a=>(d _ a).2.2.1 rfl)) i (h.lf.Ax fun q b=>hm.same q (h.lf.lt q b) fun a=>(d q a).2.2.2 b) ⟨h.sep.ab,h.sep.ac,h.sep.bc,fun q b=>?_,h.sep.ar⟩;rcases new q b with h1 | h1
 ·exact h.sep.al q h1
 ·refine ⟨?_, ?_, ?_, ?_⟩
  ·have:=lt _ c.m0; intro e; have e:q=c.cb:=e; omega
  ·have:=lt _ c.m1; intro e; have e:q=c.tb:=e; omega
  ·have:=lt _ c.m2; intro e; have e:q=c.wb:=e; omega
  ·intro a; have:=h.lf.lt q a; omega
theorem Gk.qG {Z:Aa} (h:Gk J c hb rb nb s) {s':Bx} {g:List Int} {L:List Nat} (d:∀ q ∈ L,q ∈ hs c.lf) (hm:Mv L (hs s') J Z) (m:Bf Z s' g):
  ∃ J',CY Z c.cb 7 (.slice s'.1 s'.2.1 s'.2.2)=some J'/\Gk J' { c with lf:=s' } hb rb nb { s with left:=g }/\Mv c.l ({ c with lf:=s' }:CI).l J J':=by
 have lt:=h.lt;have f:∀ q ∈ L,q≠c.cb/\q≠c.tb/\q≠c.wb/\q ∉ hs c.ls:=fun q b=>⟨(h.sep.ar q (d q b)).1,(h.sep.ar q (d q b)).2.1,(h.sep.ar q (d q b)).2.2,fun a=>(h.sep.al q a).2.2.2 (d q b)⟩;have cell:Z[c.cb]?=_:=hm.IY h.cell fun a=>(f _ a).1 rfl;have new:∀ q ∈ hs s',q ∈ hs c.lf\/J.length<=q:=fun q b=>(hm.new q b).imp (d q) id;refine ⟨Z.set c.cb (.cells (GG { c with lf:=s' } hb rb { s with left:=g }) Hy true),by simp[CY,cell,GG], ?_,(CI.Ab2 hm fun q b=>c.m4 (d q b)).trans (Mv.set _ _ (CI.m0 { c with lf:=s' }))⟩;refine Gk.au (c:=c) rfl rfl rfl (Af cell) (h.tab.same (hm.same _ h.tab.lt.1 fun a=>(f _ a).2.1 rfl) (hm.same _ h.tab.lt.2 fun a=>(f _ a).2.2.1 rfl)) (h.ls.Ax fun q b=>hm.same q (h.ls.lt q b) fun a=>(f q a).2.2.2 b) m ⟨h.sep.ab,h.sep.ac,h.sep.bc,fun q b=>?_,fun q b=>?_⟩
 ·obtain ⟨i,j,k,l⟩:=h.sep.al q b;refine ⟨i,j,k,fun a=>?_⟩;rcases new q a with h1 | h1
  ·exact l h1
  ·have:=h.ls.lt q b; omega
 ·rcases new q b with h1 | h1
  ·exact h.sep.ar q h1
  ·refine ⟨?_, ?_, ?_⟩
   ·have:=lt _ c.m0; intro e; have e:q=c.cb:=e; omega
   ·have:=lt _ c.m1; intro e; have e:q=c.tb:=e; omega
   ·have:=lt _ c.m2; intro e; have e:q=c.wb:=e; omega
theorem Gk.vO {J':Aa} {ws:List (BitVec 64)} (h:Gk J c hb rb nb s) (e:DJ J' c.tb c.wb (32*nb) 2 ws) (hm:Mv [c.tb,c.wb] [c.tb,c.wb] J J'):Gk J' c hb rb nb { s with ws:=ws }/\Mv c.l c.l J J':=by
 have b:∀ q,q≠c.tb->q≠c.wb->q ∉ [c.tb,c.wb]:=fun q h1 d a=>by simp at a; exact a.elim h1 d
 refine ⟨⟨hm.IY h.cell (b _ h.sep.ab h.sep.ac),e,h.ls.Ax fun q a=>hm.same q (h.ls.lt q a) (b _ (h.sep.al q a).2.1 (h.sep.al q a).2.2.1),h.lf.Ax fun q a=>hm.same q (h.lf.lt q a) (b _ (h.sep.ar q a).2.1 (h.sep.ar q a).2.2),h.sep⟩,hm.wide (fun q a=>?_) fun q a=>.inl a⟩;simp at a;rcases a with rfl | rfl
 ·exact c.m1
 ·exact c.m2
theorem Acv (a:Addr):Lq P PZ (qVi (some a)) (qVi none)=some false:=by kernel_rfl
theorem Abl (a:Addr):Lq P Fb (qVi (some a)) (qVi none)=some false:=by kernel_rfl
theorem Kc (k:Nat) (h:Gk J c hb rb nb s):AO (k+1) (Dz c) J=some (.bool true,J):=by
 rw[Wn];simp only[Acv,AI,Adi,IS,IN,Aa0,h.H7,Abl]
theorem yI (k:Nat) (h:Gk J c hb rb nb s) {j:Nat} (d:j<32*nb):CG (k+4) (Dz c) ((2*j:Nat):Int) J=some (qIi (CJ 2 s.ws j:Int),J):=by
 have e:=h.tab.top;have a:((2*j:Nat):Int).tdiv 2=(j:Int):=by
  rw[show ((2:Int))=((2:Nat):Int) from rfl,ZA]; congr 1; omega
 have b:Ar (j:Int)=(j:Int):=Ai (by unfold AQ; omega);rw[Yo];simp only[AI,IN,Aa0,h.ld5,show ((2:Int)=0)=False from by simp,Aa5,a,b,mQ k h.tab,Ah];rw[Aay (by omega),IT]
theorem oq (k:Nat) (h:Gk J c hb rb m.bls.length s) {a:Int} (b:Aw m a=true):CG (k+4) (Dz c) a J=some (qIi (C0 s a:Int),J):=by
 obtain ⟨j,rfl,hs⟩:=AY b;rw[yI k h hs.1];unfold C0;rw[show ((2*j:Nat):Int).toNat/2=j from by omega]
theorem cW (k:Nat) (h:Gk J c hb rb nb s) {j v:Nat} (f:j<32*nb) (g:v<4):∃ J',CO (k+10) (Dz c) ((2*j:Nat):Int) (v:Int) J=some (.tuple #[],J')/\Gk J' c hb rb nb (Eh s ((2*j:Nat):Int) v)/\Mv c.l c.l J J':=by
 have i:=h.tab.top;have b:((2*j:Nat):Int).tdiv 2=(j:Int):=by
  rw[show ((2:Int))=((2:Nat):Int) from rfl,ZA]; congr 1; omega
 have d:Ar (j:Int)=(j:Int):=Ai (by unfold AQ; omega);obtain ⟨τ,es⟩:=ba k h.tab f (v:=v) g;have hp:=(h.tab.app τ).put h.sep.bc j v;obtain ⟨e,m'⟩:=h.vO hp (((Mv.app [c.wb] J τ).trans (Mv.set _ _ (Ac1.2 rfl))).wide (fun q a=>Ab7 _ a) fun q a=>.inl a);refine ⟨_, ?_, ?_,m'⟩
 ·rw[Vw];simp only[AI,IN,Aa0,h.ld5,show ((2:Int)=0)=False from by simp,Aa5,b,d,es,Ah]
 ·unfold Eh;rw[show ((2*j:Nat):Int).toNat/2=j from by omega];exact e
end
end
end Go.Proofs.YtjbledomkmdkmaaGreat
