/- The first place for an object, as the document has it.; A scene: both heaps, both roots.; An object placed in both heaps.; A beginning in memory; its  -/
import Derived.Test.YtjbledomkmdkmaaGreatP28
set_option linter.unusedVariables false
set_option linter.unusedSimpArgs false
set_option linter.unusedSectionVars false
namespace Go.Proofs.YtjbledomkmdkmaaGreat
open Go Go.AX
noncomputable section
local instance yv:AA:=Ap
section
variable {J:Aa} {m:HM} {t:RM} {j:RI}
def iy (m:HM) (c:Nat):Nat->Nat->Option Nat
 | 0,_=>none
 | n+1,x=>if x+c<=m.bls.length then (if J5 m.bls x c 0=none then some x else iy m c n (x+1)) else none
theorem YK {c:Nat}:∀ {n x b:Nat},iy m c n x=some b->x<=b/\b+c<=m.bls.length
 | 0,x,b,h=>by cases h
 | n+1,x,b,h=>by
   unfold iy at h;split at h
   ·split at h
    ·cases h; exact ⟨yj _,by assumption⟩
    ·have:=YK h; omega
   ·cases h
theorem YM (k:Nat) (h:RG J j m t) (hz:FZ m) {c x:Nat} (hx:x+c<=m.bls.length):∀ (n y f:Nat),y+n=c->n<f->J5 m.bls x y 0=none ->
  ∃ r:Nat,Hi (k+2) f (Bx j) (c:Int) (x:Int) (y:Int) J=some (.exit 2,[.int .i64 (r:Int)],J)/\(r=c↔J5 m.bls x c 0=none)/\r<=c
 | n,y,0,hy,hf,hu=>by omega
 | 0,y,f+1,hy,hf,hu=>by
   rw[Nz];obtain rfl:y=c:=by omega
   exact ⟨y,by simp only[xY (Int.lt_irrefl _),By,AI],⟨fun _=>hu,fun _=>rfl⟩,yj _⟩
 | n+1,y,f+1,hy,hf,hu=>by
   have hnt:=h.nt;rw[Nz];have w1:Ar ((x:Int)+(y:Int))=((x+y:Nat):Int):=Ah (by unfold AK; omega);have w2:Ar ((y:Int)+1)=((y+1:Nat):Int):=Ah (by unfold AK; omega);have es:Cb m ((x+y:Nat):Int)=(m.bls.getD (x+y) (0,0)).1:=by
    unfold Cb; rw[yk (by omega),xQ]
   simp only[xZ (show (y:Int)<(c:Int) by omega),IT,w1,Wj k h,es,AI,Ag];by_cases q:(m.bls.getD (x+y) (0,0)).1=0
   ·have hu':J5 m.bls x (y+1) 0=none:=by
     rw[SK hz] at hu ⊢;intro c' c1 c2;by_cases q2:c'=y
     ·rw[q2]; exact q
     ·exact hu c' c1 (by omega)
    obtain ⟨r,e1,e2,e3⟩:=YM k h hz hx n (y+1) f (by omega) (by omega) hu';exact ⟨r,by simp only[show ((m.bls.getD (x+y) (0,0)).1 == 0)=true from by simpa using q,IT,w2,e1],e2,e3⟩
   ·refine ⟨y,by simp only[show ((m.bls.getD (x+y) (0,0)).1 == 0)=false from by simpa using q,By],⟨fun hh=>by omega,fun hh=>?_⟩,by omega⟩;rw[SK hz] at hh;exact absurd (hh y (by omega) (by omega)) q
theorem YL (k:Nat) (hk:5000<=k) (h:RG J j m t) (hz:FZ m) {c:Nat} (hc:c<=100):∀ (n x f:Nat),m.bls.length<x+n->x<=200->n<f ->
  Hh (k+2) f (Bx j) (c:Int) (x:Int) J=some (match iy m c n x with | some b=>(.ret,[.int .i64 (b:Int)],J) | none=>(.exit 0,[],J))
 | n,x,0,hx,hx2,hf=>by omega
 | n,x,f+1,hx,hx2,hf=>by
   have hnt:=h.nt;have w1:Ar ((x:Int)+(c:Int))=((x+c:Nat):Int):=Ah (by unfold AK; omega);have w2:Ar ((x:Int)+1)=((x+1:Nat):Int):=Ah (by unfold AK; omega);have eb:Ct (k+2) (Bx j) J=_:=Uz k h;rw[Ue];simp only[eb,AI,Ag,w1];by_cases q:x+c<=m.bls.length
   ·obtain ⟨n,rfl⟩:∃ n',n=n'+1:=⟨n-1,by omega⟩;obtain ⟨r,e1,e2,e3⟩:=YM k h hz q c 0 (k+2) (by omega) (by omega) rfl;rw[show ((0:Nat):Int)=0 from rfl] at e1;simp only[xZ (show ((x+c:Nat):Int)<=((m.bls.length:Nat):Int) by omega),IT,e1,AI,ye,D7,iy,yk q,w2];by_cases q2:J5 m.bls x c 0=none
    ·rw[yk q2,show ((r:Int) == (c:Int))=true from by have:=e2.2 q2; simp[this]]; rfl
    ·rw[ym q2,show ((r:Int) == (c:Int))=false from by rw[yM]; intro hh; exact q2 (e2.1 (by omega))];simp only[By];exact YL k hk h hz hc n (x+1) f (by omega) (by omega) (by omega)
   ·have z:iy m c n x=none:=by
     cases n with
     | zero=>rfl
     | succ n=>rw[iy,ym q]
    simp only[xY (show ¬ ((x+c:Nat):Int)<=((m.bls.length:Nat):Int) by omega),By,z]
theorem jA (k:Nat) (hk:5000<=k) (h:RG J j m t) (hz:FZ m) {c:Nat} (hc:c<=100):Ht (k+3) (Bx j) (c:Int) J=some (.int .i64 (match iy m c m.bls.length 1 with | some b=>(b:Int) | none=>0),J):=by
 have hnt:=h.nt;have e:=YL k hk h hz hc m.bls.length 1 (k+2) (by omega) (by omega) (by omega);rw[show ((1:Nat):Int)=1 from rfl] at e;rw[Xv];simp only[e,AI];cases iy m c m.bls.length 1 with
 | none=>simp only[ye]
 | some b=>simp only[show (Cc.ret=Cc.exit 0)=False from by simp,yq,ye,D7]
theorem aM {b:Nat}:∀ (L:List Nat) (p:Nat),(∀ j ∈ L,32*b<=j/\j<32*b+32)->64*b<=p->(∀ g ∈ (EX m L p).1,64*b<=g.1/\g.1<64*b+64)/\64*b<=(EX m L p).2
 | [],p,_,hp=>⟨(fun g hg=>by cases hg),hp⟩
 | j::L,p,hL,hp=>by
   obtain ⟨h1,h2⟩:=hL j zi;obtain ⟨g1,g2⟩:=aM L (2*j+sz m j) (fun y hy=>hL y (yJ _ hy)) (by omega);refine ⟨fun g hg=>?_,g2⟩;unfold EX at hg;rcases yf.1 hg with hg | hg
   ·unfold Js at hg;split at hg
    ·rw[yP.1 hg]; dsimp only; omega
    ·cases hg
   ·exact g1 g hg
theorem mj {b:Nat} (hb:b<m.bls.length):∀ g ∈ HC m (b:Int),64*b<=g.1/\g.1<64*b+64:=by
 intro g hg;unfold HC at hg;split at hg;rotate_left
 ·cases hg
 rw[xQ] at hg;unfold YN at hg;obtain ⟨h1,h2⟩:=aM (m:=m) (b:=b) (D6 m (32*b) 32) (64*b) (fun j hj=>by have:=K6.1 hj; omega) (yj _);rcases yf.1 hg with hg | hg
 ·exact h1 g hg
 ·unfold Js at hg;split at hg
  ·rw[yP.1 hg]; dsimp only; omega
  ·cases hg
def tw (w:Int):List (Nat × Nat)->Option Nat
 | []=>none
 | g::l=>if (g.2:Int)>=w then some g.1 else tw w l
def ml (m:HM) (w sp:Int):Nat->Nat->Option Nat
 | 0,_=>none
 | n+1,b=>if Cb m (b:Int)=1/\Lx m (b:Int)=sp then (match tw w (HC m (b:Int)) with | some a=>some a | none=>ml m w sp n (b+1)) else ml m w sp n (b+1)
theorem jY {w:Int}:∀ {l:List (Nat × Nat)} {a:Nat},tw w l=some a -> ∃ g ∈ l,g.1=a
 | [],a,h=>by cases h
 | g::l,a,h=>by
   unfold tw at h;split at h
   ·cases h; exact ⟨g,zi,rfl⟩
   ·obtain ⟨g',h1,h2⟩:=jY h;exact ⟨g',yJ _ h1,h2⟩
theorem YQ {w sp:Int}:∀ {n b a:Nat},ml m w sp n b=some a->b+n<=m.bls.length->Cb m (((a/64:Nat)):Int)=1/\a<64*m.bls.length
 | 0,b,a,h,_=>by cases h
 | n+1,b,a,h,hb=>by
   unfold ml at h;split at h
   ·rename_i hc;split at h
    ·rename_i a' he;cases h;obtain ⟨g,hg,rfl⟩:=jY he;obtain ⟨p1,p2⟩:=mj (show b<m.bls.length by omega) g hg;rw[show g.1/64=b from by omega];exact ⟨hc.1,by omega⟩
    ·exact YQ h (by omega)
   ·exact YQ h (by omega)
theorem sR {s:Bp} {l:List (Nat × Nat)} (h:Cq Ay 2 J s l.length (Dk l)) {x:Nat} (hx:x<l.length):∃ b,s.1=some ⟨b,0,none⟩/\Ak .i64 J b (x*2)=some ((l.getD x (0,0)).1:Int)/\Ak .i64 J b (x*2+1)=some ((l.getD x (0,0)).2:Int):=by
 rcases h with ⟨h,_⟩ | ⟨b,rfl,_,_,hc⟩
 ·omega
 ·obtain ⟨h1,h2⟩:=U1 l x hx;exact ⟨b,rfl,by simp only[Ak,D5,hc,h1,AI,Ag],by simp only[Ak,D5,hc,h2,AI,Ag]⟩
theorem an (k:Nat) {h0:Nat} {rr d c:Int} {T:TypeId} {sl:Bp} {l:List (Nat × Nat)} (hl:l.length<=1000):∀ (n x f:Nat) (J:Aa),Cq Ay 2 J sl l.length (Dk l)->J[h0]?=some (.cells [.int .i64 rr,.int .i64 d,.int .i64 c] T true)->x+n=l.length->n<f ->
  ∃ τ,HV (k+2) f h0 sl.1 l.length l.length (x:Int) J=some (match tw (words rr d c) (l.drop x) with | some a=>(.ret,[.int .i64 (a:Int),.bool true],J++τ) | none=>(.exit 2,[],J++τ))
 | n,x,0,J,h,hb,hx,hf=>by omega
 | 0,x,f+1,J,h,hb,hx,hf=>by
   rw[NZ];simp only[xY (show ¬ (x:Int)<((l.length:Nat):Int) by omega),By];rw[yS (by omega)];exact ⟨[],by simp[tw]⟩
 | n+1,x,f+1,J,h,hb,hx,hf=>by
   obtain ⟨b,e,l1,l2⟩:=sR h (x:=x) (by omega);have qx:(0<=(x:Int)/\(x:Int)<((l.length:Nat):Int))=True:=zl (by omega);have w1:Ar ((x:Int)+1)=((x+1:Nat):Int):=Ah (by unfold AK; omega);have hd:l.drop x=l.getD x (0,0)::l.drop (x+1):=by
    rw[yO (by omega),yd,yg (by omega)]; rfl
   obtain ⟨b0,b1,b2⟩:=Jj hb;obtain ⟨τ,ew⟩:=I9 k rr d c J;have hbl:=h.lt ⟨b,0,none⟩ e;have l1':Ak .i64 (J++τ) b (x*2)=some ((l.getD x (0,0)).1:Int):=by rw[Jm _ _ _ hbl]; exact l1
   obtain ⟨τ2,e2⟩:=an k (h0:=h0) (rr:=rr) (d:=d) (c:=c) (T:=T) (sl:=sl) hl n (x+1) f (J++τ) (h.app τ) (by rw[AT (Af hb)]; exact hb) (by omega) (by omega);rw[e] at e2;rw[NZ,hd,tw];simp only[xZ (show (x:Int)<((l.length:Nat):Int) by omega),IT,qx,ye,e,AI,xQ,IN,yl,l2,b0,b1,b2,ew,Ag,w1,l1'];by_cases q:((l.getD x (0,0)).2:Int)>=words rr d c
   ·rw[yk q,xZ q];exact ⟨τ,rfl⟩
   ·rw[ym q,xY q];simp only[By,e2,ya];exact ⟨τ++τ2,rfl⟩
theorem ak (k:Nat) (hk:5000<=k) {h0:Nat} {rr d c sp:Int} {T:TypeId}:∀ (n x f:Nat) (J:Aa),RG J j m t->J[h0]?=some (.cells [.int .i64 rr,.int .i64 d,.int .i64 c] T true)->x+n=m.bls.length->n<f ->
  ∃ τ,Gh (k+4) f (Bx j) sp h0 (x:Int) J=some (match ml m (words rr d c) sp n x with | some a=>(.ret,[.int .i64 (a:Int),.bool true],J++τ) | none=>(.exit 0,[],J++τ))
 | n,x,0,J,h,hb,hx,hf=>by omega
 | 0,x,f+1,J,h,hb,hx,hf=>by
   have eB:Ct (k+4) (Bx j) J=_:=Uz (k+2) h;rw[NY];simp only[eB,AI,Ag,xY (show ¬ (x:Int)<((m.bls.length:Nat):Int) by omega),By];exact ⟨[],by simp[ml]⟩
 | n+1,x,f+1,J,h,hb,hx,hf=>by
   have hnt:=h.nt;have w1:Ar ((x:Int)+1)=((x+1:Nat):Int):=Ah (by unfold AK; omega);have eB:Ct (k+4) (Bx j) J=_:=Uz (k+2) h;have eS:Cg (k+4) (Bx j) (x:Int) J=_:=Wj (k+2) h (x:Int);have eP:E9 (k+4) (Bx j) (x:Int) J=_:=nc (k+2) h (x:Int);rw[NY,ml];simp only[eB,AI,Ag,xZ (show (x:Int)<((m.bls.length:Nat):Int) by omega),IT,eS,w1];have skip:∀ τ,∃ τ',Gh (k+4) f (Bx j) sp h0 ((x+1:Nat):Int) (J++τ)=some (match ml m (words rr d c) sp n (x+1) with | some a=>(.ret,[.int .i64 (a:Int),.bool true],J++τ') | none=>(.exit 0,[],J++τ')):=fun τ=>by
    obtain ⟨τ2,e2⟩:=ak k hk (h0:=h0) (rr:=rr) (d:=d) (c:=c) (sp:=sp) (T:=T) n (x+1) f (J++τ) (h.app τ) (by rw[AT (Af hb)]; exact hb) (by omega) (by omega);exact ⟨τ++τ2,by rw[e2,ya]⟩
   have skip0:=skip [];rw[yw] at skip0;have hcnd:((bif (Cb m (x:Int) != 1) then some (true,J) else (E9 (k+4) (Bx j) (x:Int) J).bind fun r7=>(Bn .i64 r7.1).bind fun n8=>some (n8 != sp,r7.2)):Option (Bool × Aa))=some (!decide (Cb m (x:Int)=1/\Lx m (x:Int)=sp),J):=by
    by_cases q1:Cb m (x:Int)=1
    ·rw[q1];simp only[yr,By,eP,AI,Ag];by_cases q2:Lx m (x:Int)=sp
     ·rw[q2]; simp
     ·rw[xY (fun hh=>q2 hh.2),zr.2 q2]; rfl
    ·rw[zr.2 q1,xY (fun hh=>q1 hh.1)]; rfl
   rw[hcnd];simp only[AI];by_cases q:Cb m (x:Int)=1/\Lx m (x:Int)=sp;rotate_left
   ·rw[ym q,xY q];simp only[yY,IT];exact skip0
   ·rw[yk q,xZ q];obtain ⟨τ,sl,eG,hs,_⟩:=pZ k hk h (x:Int);have hgl:=aK m (x:Int);have f0:=hs.form;have f1:sl.2.1=(HC m (x:Int)).length:=by rw[f0]
    have f2:sl.2.2=(HC m (x:Int)).length:=by rw[f0]
    obtain ⟨τ2,e2⟩:=an (k+2) (h0:=h0) (rr:=rr) (d:=d) (c:=c) (T:=T) (sl:=sl) (l:=HC m (x:Int)) (by omega) (HC m (x:Int)).length 0 (k+4) (J++τ) hs (by rw[AT (Af hb)]; exact hb) (by omega) (by omega);rw[show ((0:Nat):Int)=0 from rfl,yV] at e2;simp only[yp,By,eG,AI,ED,f1,f2,e2];cases tw (words rr d c) (HC m (x:Int)) with
    | some a=>
      simp only[reduceCtorEq,yq,ye,dg,ya];exact ⟨τ++τ2,rfl⟩
    | none=>
      simp only[ye,ya];exact skip (τ++τ2)
theorem tM (k:Nat) (hk:5000<=k) (h:RG J j m t) (rr d c sp:Int):∃ τ,Mo (k+5) (Bx j) rr d c sp J=some (match ml m (words rr d c) sp (m.bls.length-1) 1 with | some a=>.tuple #[.int .i64 (a:Int),.bool true] | none=>.tuple #[.int .i64 0,.bool false],J++τ):=by
 have hnb:=h.nb;have hnt:=h.nt;obtain ⟨B,hB⟩:∃ B,Au.cells [.int .i64 rr,.int .i64 d,.int .i64 c] Ad true=B:=⟨_,rfl⟩;obtain ⟨τ,e⟩:=ak k hk (h0:=J.length) (rr:=rr) (d:=d) (c:=c) (sp:=sp) (T:=Ad) (m.bls.length-1) 1 (k+4) (J++[B]) (h.app _) (by rw[<- hB]; simp) (by omega) (by omega);rw[show ((1:Nat):Int)=1 from rfl] at e;refine ⟨[B]++τ, ?_⟩;rw[Y3];simp only[Ae,hB,e,AI];cases ml m (words rr d c) sp (m.bls.length-1) 1 with
 | none=>simp only[ye,ya]
 | some a=>simp only[reduceCtorEq,yq,ye,dg,ya]
def MO (rr d c:Int):Nat:=((words rr d c+63).tdiv 64).toNat
def firstM (m:HM) (rr d c sp:Int):(Int × Bool) × HM:=
 if words rr d c>32 then (match iy m (MO rr d c) m.bls.length 1 with
  | none=>((0,false),m)
  | some b=>(((64*b:Nat):Int),(Bs m (b:Int) (MO rr d c:Int) 2 sp 3 sp).1 == 0,(Bs m (b:Int) (MO rr d c:Int) 2 sp 3 sp).2) |> fun x=>((x.1,x.2.1),x.2.2))
 else match ml m (words rr d c) sp (m.bls.length-1) 1 with
  | some a=>(((a:Int),true),m)
  | none=>match iy m 1 m.bls.length 1 with
    | none=>((0,false),m)
    | some b=>((((64*b:Nat):Int),(Bs m (b:Int) 1 1 sp 0 0).1 == 0),(Bs m (b:Int) 1 1 sp 0 0).2)
theorem km (rr d c:Int):(words rr d c+63).tdiv 64=(MO rr d c:Int)/\MO rr d c<=4/\(words rr d c>32->1<=MO rr d c):=by
 obtain ⟨h0,h1⟩:=MX rr d c;unfold MO;rw[Aav (by omega)];omega
theorem nW (k:Nat) (hk:5000<=k) (h:RG J j m t) (hP:Kw m) (hz:FZ m) (rr d c sp:Int):EE (IZ (k+6) (Bx j) rr d c sp J) J j (.tuple #[.int .i64 (firstM m rr d c sp).1.1,.bool (firstM m rr d c sp).1.2]) (firstM m rr d c sp).2:=by
 have hnt:=h.nt;obtain ⟨n1,n2,n3⟩:=km rr d c;obtain ⟨B,hB⟩:∃ B,Au.cells [.int .i64 rr,.int .i64 d,.int .i64 c] Ad true=B:=⟨_,rfl⟩;have bl:∀ τ,Ak .i64 (J++[B]++τ) J.length 0=some rr/\Ak .i64 (J++[B]++τ) J.length 1=some d/\Ak .i64 (J++[B]++τ) J.length 2=some c:=fun τ=>by
  rw[<- hB];exact ⟨by rw[FU]; rfl,by rw[FU]; rfl,by rw[FU]; rfl⟩
 obtain ⟨x0,x1,x2⟩:=bl [];rw[yw] at x0 x1 x2;obtain ⟨τ1,eL⟩:=Wi (k+2) rr d c (J++[B]);have eL':Et (k+5) rr d c (J++[B])=_:=eL;obtain ⟨y0,y1,y2⟩:=bl τ1;have hg1:=(h.app [B]).app τ1;have run:∀ {mm:Option (Value × Aa)} {v:Value} {m':HM} (τ:Aa),EE mm (J++[B]++τ1++τ) j v m'->EE mm J j v m':=fun τ hg=>by
  obtain ⟨J',j',t',e,r1,r2,r3,r4⟩:=hg;exact ⟨J',j',t',e,r1,r2,r3,(((GM.app j J [B]).trans (GM.app j _ τ1)).trans (GM.app j _ τ)).trans r4⟩
 rw[VP];simp only[Ae,hB,IN,Nat.reduceAdd,x0,x1,x2,AI,eL',Ao];unfold firstM;by_cases q:words rr d c>32
 ·rw[yk q,xZ q];obtain ⟨τ2,eN⟩:=Zo (k+2) rr d c (J++[B]++τ1);have eN':Ey (k+5) rr d c (J++[B]++τ1)=_:=eN;rw[n1] at eN';have hg2:=hg1.app τ2;have eF:Ht (k+5) (Bx j) (MO rr d c:Int) (J++[B]++τ1++τ2)=_:=jA (k+2) (by omega) hg2 hz (by omega);simp only[IT,y0,y1,y2,AI,eN',Ag,eF];cases hf:iy m (MO rr d c) m.bls.length 1 with
  | none=>
    simp only[show ((0:Int) == 0)=true from rfl,IT];exact run τ2 (EE.My hg2 hP rfl)
  | some b=>
    obtain ⟨f1,f2⟩:=YK hf;have hC:EE (D9 (k+5) (Bx j) (b:Int) (MO rr d c:Int) sp (J++[B]++τ1++τ2)) (J++[B]++τ1++τ2) j _ _:=Zn (k+3) (by omega) hg2 hP hz (b:Int) (MO rr d c:Int) sp (by unfold AK; omega) (by unfold AK; omega);obtain ⟨J',j',t',e,r1,r2,r3,r4⟩:=hC;have w1:Ar ((b:Int)*64)=((64*b:Nat):Int):=by rw[Ah (by unfold AK; omega)]; omega
    simp only[show ((b:Int) == 0)=false from by rw[yM]; omega,By,e,AI,Ag,w1];exact run τ2 ⟨J',j',t',rfl,r1,r2,r3,r4⟩
 ·rw[ym q,xY q];obtain ⟨τ2,eG⟩:=tM k hk hg1 rr d c sp;have hg2:=hg1.app τ2;simp only[By,y0,y1,y2,AI,eG];cases hgp:ml m (words rr d c) sp (m.bls.length-1) 1 with
  | some a=>
    simp only[Qo,IT];exact run τ2 (EE.My hg2 hP rfl)
  | none=>
    have eF:Ht (k+5) (Bx j) ((1:Nat):Int) (J++[B]++τ1++τ2)=_:=jA (k+2) (by omega) hg2 hz (c:=1) (by omega);rw[show ((1:Nat):Int)=1 from rfl] at eF;simp only[Qo,By,eF,AI,Ag];cases hf:iy m 1 m.bls.length 1 with
    | none=>
      simp only[show ((0:Int) == 0)=true from rfl,IT];exact run τ2 (EE.My hg2 hP rfl)
    | some b=>
      obtain ⟨f1,f2⟩:=YK hf;have hC:EE (FG (k+5) (Bx j) (b:Int) sp (J++[B]++τ1++τ2)) (J++[B]++τ1++τ2) j _ _:=mZ (k+3) hg2 hP hz (b:Int) sp;obtain ⟨J',j',t',e,r1,r2,r3,r4⟩:=hC;have w1:Ar ((b:Int)*64)=((64*b:Nat):Int):=by rw[Ah (by unfold AK; omega)]; omega
      simp only[show ((b:Int) == 0)=false from by rw[yM]; omega,By,e,AI,Ag,w1];exact run τ2 ⟨J',j',t',rfl,r1,r2,r3,r4⟩
end
section
variable {J:Aa} {m mr:HM} {t:RM} {r rq:DX}
structure LK where
 sb:Nat
 i:Cd
 j:RI
 p:PI
 q:QI
def LK.Ls (I:LK):List (List Nat):=[I.i.l,I.j.l,I.p.l,I.q.l,[I.sb]]
def LK.fl (I:LK):List Nat:=I.Ls.flatten
abbrev Ji (I:LK):Option Addr:=some ⟨I.sb,0,none⟩
def GV (I:LK):List Value:=[.pointer (AM I.i),.pointer (FD I.p),.pointer (Bx I.j),.pointer (JA I.q)]
structure Sn (J:Aa) (I:LK) (m mr:HM) (t:RM) (r rq:DX):Prop where
 cell:J[I.sb]?=some (.cells (GV I) B6 true)
 h:Ai J I.i m
 mo:MK m
 g:RG J I.j mr t
 P:Kw mr
 mor:MK mr
 rt:Gv J I.p r
 rq:FY J I.q rq
 fp:Fp J I.Ls
variable {I:LK}
theorem Sn.app (S:Sn J I m mr t r rq) (τ:Aa):Sn (J++τ) I m mr t r rq:=
 ⟨by rw[AT (Af S.cell)]; exact S.cell,S.h.app τ,S.mo,S.g.app τ,S.P,S.mor,S.rt.app τ,S.rq.app τ,S.fp.app τ⟩
theorem Sn.GK (S:Sn J I m mr t r rq):BR J I.sb 0=some (AM I.i):=by simp[BR,D5,S.cell,GV,HD]
theorem Sn.E6 (S:Sn J I m mr t r rq):BR J I.sb 1=some (FD I.p):=by simp[BR,D5,S.cell,GV,HD]
theorem Sn.SE (S:Sn J I m mr t r rq):BR J I.sb 2=some (Bx I.j):=by simp[BR,D5,S.cell,GV,HD]
theorem Sn.ZJ (S:Sn J I m mr t r rq):BR J I.sb 3=some (JA I.q):=by simp[BR,D5,S.cell,GV,HD]
theorem Sn.hs (S:Sn J I m mr t r rq) {mm:Option (Value × Aa)} {v:Value} {m':HM} (hA:∃ J1_,mm=some (v,J1_)/\Ai J1_ I.i m'/\Be I.i J J1_) (hM:MK m'):∃ J',mm=some (v,J')/\Sn J' I m' mr t r rq/\Mv I.fl I.fl J J'/\J'[I.sb]?=J[I.sb]?:=by
 obtain ⟨J',e,h',k'⟩:=hA;obtain ⟨f,k,mv⟩:=S.fp.step 0 (by simp[LK.Ls]) (L':=I.i.l) k'.mv h'.lt;have kk:=fun y hy hne q hq=>k y hy hne q hq;have k4:=kk 4 (by simp[LK.Ls]) (by decide) I.sb (by simp[LK.Ls]);exact ⟨J',e,⟨k4.trans S.cell,h',hM,S.g.Aw (kk 1 (by simp[LK.Ls]) (by decide)) k'.len,S.P,S.mor,S.rt.Aw (kk 2 (by simp[LK.Ls]) (by decide)),S.rq.Aw (kk 3 (by simp[LK.Ls]) (by decide)),f⟩,mv,k4⟩
theorem Sn.js (S:Sn J I m mr t r rq) {mm:Option (Value × Aa)} {v:Value} {m':HM} (hg:EE mm J I.j v m') (hM:MK m'):∃ J' j' t',mm=some (v,J')/\Sn J' { I with j:=j' } m m' t' r rq/\Mv I.fl ({ I with j:=j' }:LK).fl J J'/\J'[I.sb]?=J[I.sb]?:=by
 obtain ⟨J',j',t',e,r',s',p',k'⟩:=hg;obtain ⟨f,k,mv⟩:=S.fp.step 1 (by simp[LK.Ls]) (L':=j'.l) k'.mv r'.lt;have k4:=k 4 (by simp[LK.Ls]) (by decide) I.sb (by simp[LK.Ls]);have hc:GV { I with j:=j' }=GV I:=by unfold GV Bx; rw[k'.hb]
 exact ⟨J',j',t',e,⟨by rw[hc]; exact k4.trans S.cell,S.h.Aw (k 0 (by simp[LK.Ls]) (by decide)),S.mo,⟨r',s',hM.inv,hM.inv2,hM.sh.wl,hM.nb,hM.nt⟩,p',hM,S.rt.Aw (k 2 (by simp[LK.Ls]) (by decide)),S.rq.Aw (k 3 (by simp[LK.Ls]) (by decide)),f⟩,mv,k4⟩
theorem Sn.ps (S:Sn J I m mr t r rq) {J':Aa} {p':PI} {r':DX} (h':Gv J' p' r') (hm:Mv I.p.l p'.l J J') (hb:p'.rb=I.p.rb):Sn J' { I with p:=p' } m mr t r' rq/\Mv I.fl ({ I with p:=p' }:LK).fl J J'/\J'[I.sb]?=J[I.sb]?:=by
 obtain ⟨f,k,mv⟩:=S.fp.step 2 (by simp[LK.Ls]) (L':=p'.l) hm h'.lt;have k4:=k 4 (by simp[LK.Ls]) (by decide) I.sb (by simp[LK.Ls]);have hc:GV { I with p:=p' }=GV I:=by unfold GV FD; rw[hb]
 exact ⟨⟨by rw[hc]; exact k4.trans S.cell,S.h.Aw (k 0 (by simp[LK.Ls]) (by decide)),S.mo,S.g.Aw (k 1 (by simp[LK.Ls]) (by decide)) hm.len,S.P,S.mor,h',S.rq.Aw (k 3 (by simp[LK.Ls]) (by decide)),f⟩,mv,k4⟩
theorem Sn.qs (S:Sn J I m mr t r rq) {J':Aa} {q':QI} {r':DX} (h':FY J' q' r') (hm:Mv I.q.l q'.l J J') (hb:q'.qb=I.q.qb):Sn J' { I with q:=q' } m mr t r r'/\Mv I.fl ({ I with q:=q' }:LK).fl J J'/\J'[I.sb]?=J[I.sb]?:=by
 obtain ⟨f,k,mv⟩:=S.fp.step 3 (by simp[LK.Ls]) (L':=q'.l) hm h'.lt;have k4:=k 4 (by simp[LK.Ls]) (by decide) I.sb (by simp[LK.Ls]);have hc:GV { I with q:=q' }=GV I:=by unfold GV JA; rw[hb]
 exact ⟨⟨by rw[hc]; exact k4.trans S.cell,S.h.Aw (k 0 (by simp[LK.Ls]) (by decide)),S.mo,S.g.Aw (k 1 (by simp[LK.Ls]) (by decide)) hm.len,S.P,S.mor,S.rt.Aw (k 2 (by simp[LK.Ls]) (by decide)),h',f⟩,mv,k4⟩
theorem Oe {b:Nat} {J J':Aa} {ρ:Type} (h:J'[b]?=J[b]?) (x:Option ρ):Km (some ⟨b,0,none⟩) J J' x=x:=by
 have:@AA.k Ap J J' b=true:=by
  unfold Ap;simpa using h
 unfold Km;simp only[this,IT]
def SG (mm:Option (Value × Aa)) (J:Aa) (I:LK) (v:Value) (m':HM) (r':DX):Prop:=
 ∃ J' I' t',mm=some (v,J')/\Sn J' I' m' m' t' r' r'/\Mv I.fl I'.fl J J'/\I'.sb=I.sb
theorem dq (k:Nat) (S:Sn J I m mr t r rq) {n:Nat} (hn:n<100):Bk (k+1) (Ji I) (n:Int) J=some (.int .i64 (Xj mr n),J):=by
 have hal:=S.g.vw;have hol:=S.g.ol;rw[SY];simp only[show ((n:Int) == -77)=false from by rw[yM]; omega,By,xY (show ¬ (n:Int)>=1000 by omega),xY (show ¬ (n:Int)<0 by omega),xY (show ¬ (n:Int)>=100 by omega),AI,IN,S.SE,S.g.at_.E6];unfold Xj;by_cases h0:EY mr=[]
 ·have:t.ob.length=0:=by rw[hal,h0]; rfl
  rw[yk h0,this];rfl
 ·rw[ym h0];have hp:0<t.ob.length:=by rw[hal]; exact Aba.2 h0
  rw[show (((t.ob.length:Nat):Int) == 0)=false from by rw[yM]; omega];have hx:n % t.ob.length<t.ob.length:=Aaq _ hp;obtain ⟨y,hy,hyl,hs,ho⟩:=S.g.drop hx;obtain ⟨b,eb,_,L⟩:=S.g.at_.obj hx;have L:=L (by rw[S.g.at_.ol]; exact hx);have hadr:t.ob[n % t.ob.length].addr=((2*y:Nat):Int):=by
   rw[yg hx] at ho;rw[zH ho]; rfl
  simp only[By,S.SE,S.g.at_.E6,AI];rw[ym (by omega),Oq,yk (by omega)];simp only[eb,AI,xQ,IN,yl,L.l0,hadr];rw[<- hal,Nj _ (by rw[<- hal]; exact hx)];have:(EY mr)[n % t.ob.length]'(by rw[<- hal]; exact hx)=y:=by
   rw[yg (by rw[<- hal]; exact hx)] at hy;exact zH hy
  rw[this]
theorem dm {n:Nat} (hM:MK mr):AK (Xj mr n)/\0<=Xj mr n:=by
 have hnt:=hM.nt;rcases oI mr n with h | h
 ·rw[h]; exact ⟨by unfold AK; omega,Aas _⟩
 ·obtain ⟨j,e,hs⟩:=Bd h;have:=hs.1;rw[e]; exact ⟨by unfold AK; omega,by omega⟩
theorem rG (k:Nat) (hk:5000<=k) (S:Sn J I m m t r r) (a x v:Int) (ha:AK a) (hv:AK v):SG (GO (k+8) (Ji I) a x v J) J I (.bool true) (Cv m a x v).2 r:=by
 have hM:=S.mo.setRef a x v;have e1:EE (Fw (k+7) (Bx I.j) a x v J) J I.j _ _:=jc (k+3) (by omega) S.g S.P a x v;obtain ⟨J1_,j',t',e1,S1,m1,b1⟩:=S.js e1 hM;obtain ⟨J2_,e2,S2,m2,b2⟩:=S1.hs (Rh k S1.h S.mo.inv a x v ha hv) hM;refine ⟨J2_,_,t', ?_,S2,m1.trans m2,rfl⟩;rw[QH];have l0:BR J1_ I.sb 0=some (AM I.i):=S1.GK;simp only[AI,IN,yl,S.SE,e1,Ag,Oe b1,l0,e2,z9]
theorem kQ (k:Nat) (hk:5000<=k) (S:Sn J I m m t r r) (a:Int) (ha:AK a):∃ J1_ J2_ j' t',Fe (k+12) (Bx I.j) a J=some (.int .i64 (Ig m a).1,J1_)/\J1_[I.sb]?=J[I.sb]?/\BR J1_ I.sb 0=some (AM I.i)/\EI (k+12) (AM I.i) a J1_=some (.int .i64 (Ig m a).1,J2_)/\Sn J2_ { I with j:=j' } (Ig m a).2 (Ig m a).2 t' r r/\Mv I.fl ({ I with j:=j' }:LK).fl J J2_:=by
 have hM:=S.mo.kill a;have e1:EE (Fe (k+12) (Bx I.j) a J) J I.j _ _:=qa (k+8) (by omega) S.g S.P S.mo.sh a;obtain ⟨J1_,j',t',e1,S1,m1,b1⟩:=S.js e1 hM;obtain ⟨J2_,e2,S2,m2,b2⟩:=S1.hs (ao k S1.h S.mo.inv a ha) hM;exact ⟨J1_,J2_,j',t',e1,b1,S1.GK,e2,S2,m1.trans m2⟩
theorem ou (k:Nat) (hk:5000<=k) (S:Sn J I m m t r r) (a:Int) (ha:AK a):∃ J1_ J2_ j' t',FH (k+12) (Bx I.j) a J=some (.int .i64 (Lv m a 1).1,J1_)/\J1_[I.sb]?=J[I.sb]?/\BR J1_ I.sb 0=some (AM I.i)/\Ha (k+12) (AM I.i) a J1_=some (.int .i64 (Lv m a 1).1,J2_)/\Sn J2_ { I with j:=j' } (Lv m a 1).2 (Lv m a 1).2 t' r r/\Mv I.fl ({ I with j:=j' }:LK).fl J J2_:=by
 have hM:=S.mo.Wg a 1;have e1:EE (FH (k+12) (Bx I.j) a J) J I.j _ _:=sK (k+7) (by omega) S.g S.P S.mo.sh a;obtain ⟨J1_,j',t',e1,S1,m1,b1⟩:=S.js e1 hM;obtain ⟨J2_,e2,S2,m2,b2⟩:=S1.hs (ov (k+1) S1.h a ha) hM;exact ⟨J1_,J2_,j',t',e1,b1,S1.GK,e2,S2,m1.trans m2⟩
def Gu (mu n:Nat):Int × Nat × Nat:=if n % 40<24 then (0,n % 40 % mu,n % 40/4) else if n % 40<36 then (1,0,n % 40-24) else (2,0,n % 40-36)
theorem oC (k:Nat) (S:Sn J I m mr t r rq) {n:Nat} (hn:n<1000000):∃ τ,Cs (k+3) (Ji I) (n:Int) J=some (.agg #[.int .i64 (Gu rq.mu n).1,.int .i64 ((Gu rq.mu n).2.1:Int),.int .i64 ((Gu rq.mu n).2.2:Int)],J++τ):=by
 have hm1:=S.rq.ok.m1;have hm4:=S.rq.ok.m4;have S1:=S.app [Au.cells [.int .i64 0,.int .i64 0,.int .i64 0] Am true];have emu:CZ (k+2) (JA I.q) (J++[Au.cells [.int .i64 0,.int .i64 0,.int .i64 0] Am true])=_:=Vi k S1.rq;have mx:(if (0:Int)>(n:Int) then (0:Int) else (n:Int))=(n:Int):=ym (by omega);have e40:(n:Int).tmod 40=((n % 40:Nat):Int):=Oq n 40;have hN:∀ x y z:Value,M9 (J++[Au.cells [x,y,z] Am true]) J.length 0 3=some [x,y,z]:=fun x y z=>by simp[M9]
 rw[Ll];simp only[Ae,mx,e40,show ((40:Int)=0)=False from by simp,yq];unfold Gu;by_cases q1:n % 40<24
 ·rw[yk q1,xZ (show ((n % 40:Nat):Int)<24 by omega)];have e1:((n % 40:Nat):Int).tmod (rq.mu:Int)=((n % 40 % rq.mu:Nat):Int):=Oq _ _;have e2:((n % 40:Nat):Int).tdiv 4=((n % 40/4:Nat):Int):=Xd _ 4;have w2:Ar ((n % 40/4:Nat):Int)=((n % 40/4:Nat):Int):=Ah (by unfold AK; omega);refine ⟨[Au.cells [.int .i64 0,.int .i64 ((n % 40 % rq.mu:Nat):Int),.int .i64 ((n % 40/4:Nat):Int)] Am true], ?_⟩;simp only[IT,AI,IN,S1.ZJ,emu,Ag];rw[ym (by omega),ym (by decide)];simp only[e1,e2,w2,EV,AI,hN];rfl
 ·rw[ym q1,xY (show ¬ ((n % 40:Nat):Int)<24 by omega)];by_cases q2:n % 40<36
  ·rw[yk q2,xZ (show ((n % 40:Nat):Int)<36 by omega)];have w2:Ar (((n % 40:Nat):Int)-24)=((n % 40-24:Nat):Int):=by rw[Ah (by unfold AK; omega)]; omega
   refine ⟨[Au.cells [.int .i64 1,.int .i64 0,.int .i64 ((n % 40-24:Nat):Int)] Am true], ?_⟩;simp only[IT,By,w2,EV,AI,hN];rfl
  ·rw[ym q2,xY (show ¬ ((n % 40:Nat):Int)<36 by omega)];have w2:Ar (((n % 40:Nat):Int)-36)=((n % 40-36:Nat):Int):=by rw[Ah (by unfold AK; omega)]; omega
   refine ⟨[Au.cells [.int .i64 2,.int .i64 0,.int .i64 ((n % 40-36:Nat):Int)] Am true], ?_⟩;simp only[By,w2,EV,AI,hN];rfl
def jl (r:DX) (n:Nat) (a:Int):DX:=if (Gu r.mu n).1=2/\r.qu.length<=(Gu r.mu n).2.2 then (N9 r a).2 else (MQ r (Gu r.mu n).1 (Gu r.mu n).2.1 (Gu r.mu n).2.2 a).2
theorem q8 {r:DX} {n:Nat} {a v:Int} (h:v ∈ (jl r n a).all):v=a\/v ∈ r.all:=by
 unfold jl at h;split at h
 ·exact ja h
 ·exact nz h
theorem gH (r:DX) (h:r.ok) (n:Nat) (hq:¬ ((Gu r.mu n).1=2/\r.qu.length<=(Gu r.mu n).2.2)):OP r (Gu r.mu n).1 (Gu r.mu n).2.1 (Gu r.mu n).2.2:=by
 have hm1:=h.m1;unfold Gu at hq ⊢;unfold OP;split
 ·rename_i q1;refine .inl ⟨rfl,Aaq _ (by omega),by dsimp only; omega⟩
 ·rename_i q1;rw[ym q1] at hq;split
  ·rename_i q2;exact .inr (.inl ⟨rfl,rfl,by dsimp only; omega⟩)
  ·rename_i q2;rw[ym q2] at hq;refine .inr (.inr ⟨rfl,rfl, ?_⟩);dsimp only at hq ⊢;exact Nat.lt_of_not_le fun hh=>hq ⟨rfl,hh⟩
theorem tX (k:Nat) (S:Sn J I m m t r r) {n:Nat} (hn:n<1000000) (a:Int) (ha:AK a):SG (Hl (k+5) (Ji I) (n:Int) a J) J I (.bool true) m (jl r n a):=by
 obtain ⟨τ,eW⟩:=oC (k+1) S hn;have eW':Cs (k+4) (Ji I) (n:Int) J=_:=eW;have hok:=S.rt.ok;have hwo:=gH r hok n;unfold jl;generalize Gu r.mu n=W at eW' hwo;obtain ⟨kk,mt,ix⟩:=W;dsimp only at eW' hwo ⊢;obtain ⟨B,hB⟩:∃ B,Au.cells [.int .i64 kk,.int .i64 (mt:Int),.int .i64 (ix:Int)] Am true=B:=⟨_,rfl⟩;have S1:=(S.app τ).app [B];have m1:Mv I.fl I.fl J (J++τ++[B]):=(Mv.app _ _ _).trans (Mv.app _ _ _);have bl:∀ τ',Ak .i64 (J++τ++[B]++τ') (J++τ).length 0=some kk/\Ak .i64 (J++τ++[B]++τ') (J++τ).length 1=some (mt:Int)/\Ak .i64 (J++τ++[B]++τ') (J++τ).length 2=some (ix:Int):=fun τ'=>by
  rw[<- hB];exact ⟨by rw[FU]; rfl,by rw[FU]; rfl,by rw[FU]; rfl⟩
 obtain ⟨x0,x1,x2⟩:=bl [];rw[yw] at x0 x1 x2;obtain ⟨sq,τ2,eQ,hsq⟩:=mY (k+2) S1.rq;have eQ':Ec (k+4) (JA I.q) (J++τ++[B])=_:=eQ;have hbox:(J++τ++[B])[(J++τ).length]?=some B:=by simp
 have kq:∀ {ρ:Type} (x:Option ρ),Km (some ⟨(J++τ).length,0,none⟩) (J++τ++[B]) (J++τ++[B]++τ2) x=x:=fun x=>Oe (by rw[AT (Af hbox)]) x;obtain ⟨Z,hμ,hS2,m2,y0,y1,y2,hcnd⟩:∃ Z,True/\Sn Z I m m t r r/\Mv I.fl I.fl J Z/\Ak .i64 Z (J++τ).length 0=some kk/\Ak .i64 Z (J++τ).length 1=some (mt:Int)/\Ak .i64 Z (J++τ).length 2=some (ix:Int)/\((bif kk == (2:Int) then (Ak .i64 (J++τ++[B]) (J++τ).length 2).bind fun n9=>(BR (J++τ++[B]) I.sb 3).bind fun p11=>(Ec (k+4) p11 (J++τ++[B])).bind fun r12=>(ED r12.1).bind fun l13=>Km (some ⟨(J++τ).length,0,none⟩) (J++τ++[B]) r12.2 (some (decide (n9>=((l13.2.1:Nat):Int)),r12.2)) else some (false,J++τ++[B])):Option (Bool × Aa))=some (decide (kk=2/\r.qu.length<=ix),Z):=by
  by_cases q2:kk=2
  ·obtain ⟨z0,z1,z2⟩:=bl τ2;refine ⟨J++τ++[B]++τ2,trivial,S1.app τ2,m1.trans (Mv.app _ _ _),z0,z1,z2, ?_⟩;rw[show (kk == 2)=true from zJ.2 q2];simp only[IT,x2,AI,S1.ZJ,eQ',ED,kq,hsq];congr 2;by_cases q3:r.qu.length<=ix
   ·rw[xZ (show (ix:Int)>=((r.qu.length:Nat):Int) by omega),xZ ⟨q2,q3⟩]
   ·rw[xY (show ¬ (ix:Int)>=((r.qu.length:Nat):Int) by omega),xY (fun hh=>q3 hh.2)]
  ·refine ⟨J++τ++[B],trivial,S1,m1,x0,x1,x2, ?_⟩;rw[show (kk == 2)=false from yM.2 q2,xY (fun hh=>q2 hh.1)];rfl
 have hbl:(J++τ).length<Z.length /\ ∃ o,Z[(J++τ).length]?=some o:=by
  simp only[Ak,D5] at y0;cases e:Z[(J++τ).length]? with
  | none=>rw[e] at y0; cases y0
  | some o=>exact ⟨Af e,o,rfl⟩
 have hbn:∀ L ∈ I.Ls,(J++τ).length ∉ L:=fun L hL hm=>by
  have:=(S.app τ).fp.lt L hL _ hm;omega
 rw[Ru];simp only[eW',AI,HG,Ae,EV,hB,IN,Nat.reduceAdd,x0,hcnd];by_cases q:kk=2/\r.qu.length<=ix
 ·rw[yk q,xZ q];obtain ⟨J3_,q',e3,h3,m3,b3⟩:=rK (k+2) hS2.rq a ha;have e3':FK (k+4) (JA I.q) a Z=_:=e3;obtain ⟨S3,mm3,c3⟩:=hS2.qs h3 m3 b3;obtain ⟨J4_,p',e4,h4,m4,b4⟩:=rL (k+2) S3.rt a ha;have e4':FN (k+4) (FD I.p) a J3_=_:=e4;obtain ⟨S4,mm4,c4⟩:=S3.ps h4 m4 b4;have l1:BR J3_ I.sb 1=some (FD I.p):=S3.E6;refine ⟨J4_,_,t, ?_,S4,(m2.trans mm3).trans mm4,rfl⟩;simp only[IT,hS2.ZJ,AI,e3',Ag,Oe c3,l1,e4',z9]
 ·rw[ym q,xY q];have hp:=hwo q;obtain ⟨J3_,e3,h3,m3⟩:=o7 (k+2) hS2.rq hp a ha;have e3':Ej (k+4) (JA I.q) kk (mt:Int) (ix:Int) a Z=_:=e3;obtain ⟨S3,mm3,c3⟩:=hS2.qs h3 m3 rfl;obtain ⟨J4_,e4,h4,m4⟩:=gT k S3.rt hp a ha;have e4':BA (k+4) (FD I.p) kk (mt:Int) (ix:Int) a J3_=_:=e4;obtain ⟨S4,mm4,c4⟩:=S3.ps h4 m4 rfl;have l1:BR J3_ I.sb 1=some (FD I.p):=S3.E6;have cb:J3_[(J++τ).length]?=Z[(J++τ).length]?:=m3.same _ hbl.1 (hbn I.q.l (by simp[LK.Ls]));have ldk:∀ o,Ak .i64 J3_ (J++τ).length o=Ak .i64 Z (J++τ).length o:=fun o=>by simp only[Ak,D5,cb]
  refine ⟨J4_,_,t, ?_,S4,(m2.trans mm3).trans mm4,rfl⟩;simp only[By,hS2.ZJ,AI,y0,y1,y2,e3',Ag,Oe c3,Oe cb,l1,ldk,e4',z9]
end
section
variable {J:Aa} {m mr:HM} {t:RM} {r rq:DX} {I:LK}
theorem dV {b:Nat} {c x y x' y':Int} (h:(Bs m (b:Int) c x y x' y').1=0):Cb m (b:Int)=0/\b<m.bls.length/\1<=b:=by
 unfold Bs at h;split at h
 ·rename_i hc;split at h
  ·rename_i hu;rw[xQ] at hu;obtain ⟨c1,c2,c3,c4,_⟩:=hc;have:=UC hu 0 (yj _) (by omega);rw[yl] at this;refine ⟨?_,by omega,by omega⟩;unfold Cb;rw[yk ⟨by omega,c2⟩,xQ,this]
  ·cases h
 ·cases h
inductive XN (m:HM) (rr d c sp:Int):(Int × Bool) × HM->Prop where
 | none (a:Int):XN m rr d c sp ((a,false),m)
 | gap (a:Nat) (h:Cb m ((a/64:Nat):Int)=1) (hl:a<64*m.bls.length):XN m rr d c sp (((a:Int),true),m)
 | Yy (b:Nat) (m1:HM) (h0:Cb m (b:Int)=0) (hb:b<m.bls.length) (hb1:1<=b) (hM:MK m->MK m1) (hb2:m1.births=m.births)
   (hw:m1.wds=m.wds/\m1.stw=m.stw/\m1.bls.length=m.bls.length)
   (hc:if words rr d c>32 then Bs m (b:Int) (MO rr d c:Int) 2 sp 3 sp=(0,m1) else Bs m (b:Int) 1 1 sp 0 0=(0,m1)):XN m rr d c sp ((((64*b:Nat):Int),true),m1)
theorem Qx (hI:Inv m) (hI2:Inv2 m) {rr d c sp:Int} {b:Nat} {n x y x' y':Int} (hx:x≠0) (hx':x'≠0\/n=1) (hc:if words rr d c>32 then Bs m (b:Int) (MO rr d c:Int) 2 sp 3 sp=Bs m (b:Int) n x y x' y' else Bs m (b:Int) 1 1 sp 0 0=Bs m (b:Int) n x y x' y'):
  XN m rr d c sp ((((64*b:Nat):Int),((Bs m (b:Int) n x y x' y').1 == 0)),(Bs m (b:Int) n x y x' y').2):=by
 have k:=WJ hI hI2 (b:Int) n x y x' y';obtain ⟨w1,w2,w3,w4⟩:=Nm m (b:Int) n x y x' y';by_cases h0:(Bs m (b:Int) n x y x' y').1=0
 ·obtain ⟨h1,h2,h3⟩:=dV h0;rw[h0];refine .Yy b _ h1 h2 h3 (fun hM=>hM.Yy _ _ _ _ _ _ hx hx') w4 ⟨w1,w2,w3⟩ ?_;split
  ·rename_i q;rw[yk q] at hc;rw[hc,<- h0]
  ·rename_i q;rw[ym q] at hc;rw[hc,<- h0]
 ·rw[k.err h0,show ((Bs m (b:Int) n x y x' y').1 == 0)=false from yM.2 h0];exact .none _
theorem eE (hM:MK m) (rr d c sp:Int):XN m rr d c sp (firstM m rr d c sp):=by
 have hnb:=hM.nb;unfold firstM;by_cases q:words rr d c>32
 ·rw[yk q];cases hf:iy m (MO rr d c) m.bls.length 1 with
  | none=>exact .none 0
  | some b=>exact Qx hM.inv hM.inv2 (by decide) (.inl (by decide)) (by rw[yk q])
 ·rw[ym q];cases hg:ml m (words rr d c) sp (m.bls.length-1) 1 with
  | some a=>
    obtain ⟨h1,h2⟩:=YQ hg (by omega);exact .gap a h1 h2
  | none=>
    cases hf:iy m 1 m.bls.length 1 with
    | none=>exact .none 0
    | some b=>exact Qx hM.inv hM.inv2 (by decide) (.inr rfl) (by rw[ym q])
def Ux (m:HM) (rr d c sp:Int):HM:=if (firstM m rr d c sp).1.2 then (CF (firstM m rr d c sp).2 (firstM m rr d c sp).1.1 rr d c).2.2 else (firstM m rr d c sp).2
theorem TF (m:HM) (a r d c:Int):(CF m a r d c).2.2.births<=m.births+1:=by
 unfold CF;split
 ·split
  ·exact Aas _
  ·dsimp only; omega
 ·dsimp only; omega
theorem mT (hM:MK m) (hz:M7 m) (rr d c sp:Int):MK (Ux m rr d c sp)/\M7 (Ux m rr d c sp)/\(Ux m rr d c sp).births<=m.births+1/\(Ux m rr d c sp).bls.length=m.bls.length:=by
 unfold Ux;have h:=eE hM rr d c sp;generalize firstM m rr d c sp=F at h;cases h with
 | none a=>exact ⟨hM,hz,by simp only[y8,yq]; omega,rfl⟩
 | gap a h1 h2=>exact ⟨hM.place _ _ _ _,hz.place hM.inv hM.inv2 hM.sh _ _ _ _,TF _ _ _ _ _,by simp only[ye]; rw[(Ok _ _ _ _ _).1]⟩
 | Yy b m1 h0 hb hb1 hM1 hb2 hw hc=>
   have h1:=hM1 hM;have hz1:M7 m1:=hz.Aw hw.2.2 hw.2.1 hw.1;exact ⟨h1.place _ _ _ _,hz1.place h1.inv h1.inv2 h1.sh _ _ _ _,by have:=TF m1 ((64*b:Nat):Int) rr d c; simp only[ye]; omega,by simp only[ye]; rw[(Ok _ _ _ _ _).1]; exact hw.2.2⟩
theorem ow (k:Nat) (hk:5000<=k) (S:Sn J I m m t r r) (hb:m.births<900000) (rr d c sp:Int) (hsp:0<=sp/\sp<3):SG (Gx (k+13) (Ji I) rr d c sp J) J I (.bool true) (Ux m rr d c sp) r:=by
 obtain ⟨n1,n2,n3⟩:=km rr d c;obtain ⟨B,hB⟩:∃ B,Au.cells [.int .i64 rr,.int .i64 d,.int .i64 c] Ad true=B:=⟨_,rfl⟩;have hfc:=eE S.mo rr d c sp;have S1:=S.app [B];have m1:=Mv.app I.fl J [B];have hbox:(J++[B])[J.length]?=some B:=by simp
 have hbn:∀ (I':LK) (Z:Aa),Mv I.fl I'.fl (J++[B]) Z->Z[J.length]?=some B:=fun I' Z hm=>hm.L5 hbox fun hm'=>by
  obtain ⟨L,hL,hq⟩:=zm.1 hm';have:=S.fp.lt L hL _ hq;omega
 have bl:∀ Z:Aa,Z[J.length]?=some B->Ak .i64 Z J.length 0=some rr/\Ak .i64 Z J.length 1=some d/\Ak .i64 Z J.length 2=some c:=fun Z hμ=>by
  rw[<- hB] at hμ;exact Jj hμ
 obtain ⟨x0,x1,x2⟩:=bl _ hbox;obtain ⟨F,hF⟩:∃ F,firstM m rr d c sp=F:=⟨_,rfl⟩;have eF:EE (IZ (k+12) (Bx I.j) rr d c sp (J++[B])) (J++[B]) I.j _ _:=nW (k+6) (by omega) S1.g S1.P S.mo.fz rr d c sp;unfold Ux;rw[hF] at hfc eF ⊢;rw[PO];simp only[Ae,hB,IN,Nat.reduceAdd,S1.SE,x0,x1,x2,AI];cases hfc with
 | none a=>
   obtain ⟨J2_,j2,t2,e2,S2,m2,b2⟩:=S1.js eF S.mo;refine ⟨J2_,_,t2, ?_,S2,m1.trans m2,rfl⟩;simp only[e2,AI,Qo,yY,IT]
 | gap a h1 h2=>
   have hnt:=S.mo.nt;obtain ⟨J2_,j2,t2,e2,S2,m2,b2⟩:=S1.js eF S.mo;have ed:(a:Int).tdiv 64=((a/64:Nat):Int):=Xd a 64;have w1:Ar ((a/64:Nat):Int)=((a/64:Nat):Int):=Ah (by unfold AK; omega);have eS:Bb (k+12) (AM I.i) ((a/64:Nat):Int) J2_=_:=XA (k+9) S2.h _;have hb2:=hbn _ _ m2;obtain ⟨y0,y1,y2⟩:=bl _ hb2;have eP:=bu (k+7) (by omega) S2.g S2.P S.mo.sh (show m.births<1000000 by omega) (a:Int) rr d c;have hMp:=S.mo.place (a:Int) rr d c;obtain ⟨J3_,j3,t3,e3,S3,m3,b3⟩:=S2.js eP hMp;have hb3:=hbn _ _ (m2.trans m3);obtain ⟨z0,z1,z2⟩:=bl _ hb3;obtain ⟨J4_,e4,S4,m4,b4⟩:=S3.hs (Ya k hk S3.h S.mo.inv (show m.births<1000000 by omega) (a:Int) rr d c (by unfold AK; omega)) hMp;have l20:BR J2_ I.sb 0=some (AM I.i):=S2.GK;have l22:BR J2_ I.sb 2=some (Bx j2):=S2.SE;have l30:BR J3_ I.sb 0=some (AM I.i):=S3.GK;have e3':E8 (k+12) (Bx j2) (a:Int) rr d c J2_=_:=e3;refine ⟨J4_,_,t3, ?_,S4,((m1.trans m2).trans m3).trans m4,rfl⟩;simp only[e2,AI,Qo,yp,By,show ((64:Int)=0)=False from by simp,yq,l20,ed,w1,eS,Ag,h1,show ((1:Int) == 0)=false from rfl,ye,l22,y0,y1,y2,e3',Cp,l30,z0,z1,z2,e4,z9,IT]
 | Yy b m1' h0 hb hb1 hM1 hb2' hw hc=>
   have hnt:=S.mo.nt;have hMc:=hM1 S.mo;obtain ⟨J2_,j2,t2,e2,S2,m2,b2⟩:=S1.js eF hMc;have ed:((64*b:Nat):Int).tdiv 64=(b:Int):=by rw[show ((64:Int))=((64:Nat):Int) from rfl,Xd]; congr 1; omega
   have w1:Ar (b:Int)=(b:Int):=Ah (by unfold AK; omega);have eS:Bb (k+12) (AM I.i) (b:Int) J2_=_:=XA (k+9) S2.h _;have hb2:=hbn _ _ m2;obtain ⟨y0,y1,y2⟩:=bl _ hb2;obtain ⟨τ3,eL⟩:=Wi (k+9) rr d c J2_;have eL':Et (k+12) rr d c J2_=_:=eL;have S3:=S2.app τ3;have m3:=m2.trans (Mv.app _ _ τ3);have hb3:=hbn _ _ m3;obtain ⟨z0,z1,z2⟩:=bl _ hb3;have l20:BR J2_ I.sb 0=some (AM I.i):=S2.GK;have l30:BR (J2_++τ3) I.sb 0=some (AM I.i):=S3.GK;obtain ⟨J5_,S5,m5,ec⟩:∃ J5_,Sn J5_ { I with j:=j2 } m1' m1' t2 r r/\Mv I.fl ({ I with j:=j2 }:LK).fl (J++[B]) J5_ /\
     ((bif decide (words rr d c>32) then (BR (J2_++τ3) I.sb 0).bind fun p22=>(Ak .i64 (J2_++τ3) J.length 0).bind fun n23=>(Ak .i64 (J2_++τ3) J.length 1).bind fun n24=>(Ak .i64 (J2_++τ3) J.length 2).bind fun n25=>(Ey (k+12) n23 n24 n25 (J2_++τ3)).bind fun r26=>(Bn .i64 r26.1).bind fun n27=>(BU (k+12) p22 (b:Int) n27 sp r26.2).bind fun r28=>(Bn .i64 r28.1).bind fun n29=>some (.normal,[.int .i64 n29],r28.2) else (BR (J2_++τ3) I.sb 0).bind fun p31=>(Dw (k+12) p31 (b:Int) sp (J2_++τ3)).bind fun r32=>(Bn .i64 r32.1).bind fun n33=>some (.normal,[.int .i64 n33],r32.2)):Option Bl)=some (.normal,[.int .i64 0],J5_):=by
    by_cases q:words rr d c>32
    ·rw[yk q] at hc;obtain ⟨τ4,eN⟩:=Zo (k+9) rr d c (J2_++τ3);have eN':Ey (k+12) rr d c (J2_++τ3)=_:=eN;rw[n1] at eN';have S4:=S3.app τ4;have hG:=Qu (k+5) (by omega) S4.h (b:Int) (MO rr d c:Int) sp (by unfold AK; omega) (by unfold AK; omega);rw[hc] at hG;obtain ⟨J5_,e5,S5,m5,_⟩:=S4.hs hG hMc;have e5':BU (k+12) (AM I.i) (b:Int) (MO rr d c:Int) sp (J2_++τ3++τ4)=_:=e5;refine ⟨J5_,S5,(m3.trans (Mv.app _ _ τ4)).trans m5, ?_⟩;rw[xZ q];simp only[IT,l30,z0,z1,z2,AI,eN',Ag,e5']
    ·rw[ym q] at hc;have hG:=XK (k+5) (by omega) S3.h (b:Int) sp (by unfold AK; omega);rw[hc] at hG;obtain ⟨J5_,e5,S5,m5,_⟩:=S3.hs hG hMc;have e5':Dw (k+12) (AM I.i) (b:Int) sp (J2_++τ3)=_:=e5;refine ⟨J5_,S5,m3.trans m5, ?_⟩;rw[xY q];simp only[By,l30,AI,e5',Ag]
   have hb5:=hbn _ _ m5;obtain ⟨u0,u1,u2⟩:=bl _ hb5;have hb6:m1'.births<1000000:=by rw[hb2']; omega
   have eP:=bu (k+7) (by omega) S5.g S5.P hMc.sh hb6 ((64*b:Nat):Int) rr d c;have hMp:=hMc.place ((64*b:Nat):Int) rr d c;obtain ⟨J6_,j6,t6,e6,S6,m6,b6⟩:=S5.js eP hMp;have hb6':=hbn _ _ (m5.trans m6);obtain ⟨v0,v1,v2⟩:=bl _ hb6';obtain ⟨J7_,e7,S7,m7,b7⟩:=S6.hs (Ya k hk S6.h hMc.inv hb6 ((64*b:Nat):Int) rr d c (by unfold AK; omega)) hMp;have l52:BR J5_ I.sb 2=some (Bx j2):=S5.SE;have l60:BR J6_ I.sb 0=some (AM I.i):=S6.GK;have e6':E8 (k+12) (Bx j2) ((64*b:Nat):Int) rr d c J5_=_:=e6;refine ⟨J7_,_,t6, ?_,S7,((m1.trans m5).trans m6).trans m7,rfl⟩;simp only[e2,AI,Qo,yp,By,show ((64:Int)=0)=False from by simp,yq,l20,ed,w1,eS,Ag,h0,show ((0:Int) == 0)=true from rfl,IT,y0,y1,y2,eL',Ao,ec,ye,D7,yr,l52,u0,u1,u2,e6',Cp,l60,v0,v1,v2,e7,z9]
end
section
variable {J:Aa} {m mr:HM} {t:RM} {r rq:DX} {I:LK}
def OI (x0 x1 x2:Int):Int × Int × Int:=
 if x0.tmod 8=4 then (1+(x1.tmod 5).tmod 3,x2.tmod 6,1)
 else if x0.tmod 8=5 then (2+(x1.tmod 5).tmod 3,x2.tmod 6,2)
 else if x0.tmod 8=6 then (x1.tmod 5,x2.tmod 6,3)
 else if x0.tmod 8=7 then (x1.tmod 5,32+x2.tmod 100,0)
 else (x1.tmod 5,x2.tmod 6,0)
theorem g7 (Z:Aa) (cs:List Value) (T:TypeId) (o:Nat) (v:Value) (h:o<cs.length):CT (Z++[.cells cs T true]) Z.length o v=some (Z++[.cells (cs.set o v) T true]):=by
 simp only[CT,yK];rw[yk h,zS _ _ (yj _)];simp
theorem sS (Z:Aa) (a b c x y z:Value) (T:TypeId) (o:Au):H2 (Z++[.cells [a,b,c] T true]++[o]) Z.length 0 [x,y,z]=some (Z++[.cells [x,y,z] T true]++[o]):=by
 have:(Z++[Au.cells [a,b,c] T true]++[o])[Z.length]?=some (.cells [a,b,c] T true):=by
  rw[AT (by simp)]; simp
 simp only[H2,this];rw[yk (by simp)];simp only[AP,ya,Abt];rw[zS _ _ (yj _)];simp
theorem pA (J τ:Aa) (vs:List Value) (T:TypeId) (o:Nat) (v:Int) (h:vs[o]?=some (.int .u8 v)):Ak .u8 (J++[.cells vs T true]++τ) J.length o=some v:=by
 rw[FU,h]; rfl
theorem o8 (k:Nat) {x0 x1 x2 x3:Int} (h0:0<=x0/\x0<256) (h1:0<=x1/\x1<256) (h2:0<=x2/\x2<256) (J:Aa):∃ τ,Ke (k+1) x0 x1 x2 x3 J=some (.agg #[.int .i64 (OI x0 x1 x2).1,.int .i64 (OI x0 x1 x2).2.1,.int .i64 (OI x0 x1 x2).2.2],J++τ):=by
 obtain ⟨A,hA⟩:∃ A,Au.cells [.int .u8 x0,.int .u8 x1,.int .u8 x2,.int .u8 x3] ay true=A:=⟨_,rfl⟩;have lb:∀ τ o v,([Value.int .u8 x0,.int .u8 x1,.int .u8 x2,.int .u8 x3]:List Value)[o]?=some (.int .u8 v)->Ak .u8 (J++[A]++τ) J.length o=some v:=fun τ o v h=>by rw[<- hA]; exact pA _ _ _ _ _ _ h
 have w1:Ar x1=x1:=Ah (by unfold AK; omega);have w2:Ar x2=x2:=Ah (by unfold AK; omega);rw[VH];simp only[Ae,hA];rw[yk (by decide)];have e1:Ak .u8 (J++[A]++[Au.cells [.int .i64 0,.int .i64 0,.int .i64 0] Ad true]) J.length (0+(1:Int).toNat*1)=some x1:=lb _ 1 x1 rfl;have e2:Ak .u8 (J++[A]++[Au.cells [.int .i64 0,.int .i64 0,.int .i64 0] Ad true]) J.length (0+(2:Int).toNat*1)=some x2:=lb _ 2 x2 rfl;simp only[e1,e2,AI,w1,w2,show ((5:Int)=0)=False from by simp,show ((6:Int)=0)=False from by simp,yq];rw[yk (by decide)];obtain ⟨Z,hμ⟩:∃ Z,J++[A]++[Au.cells [.int .i64 0,.int .i64 0,.int .i64 0] Ad true]=Z:=⟨_,rfl⟩;rw[hμ,EV];simp only[AI];rw[yk (by decide)];have e0:∀ o,Ak .u8 (Z++[o]) J.length (0+(0:Int).toNat*1)=some x0:=fun o=>by
  rw[<- hμ,ya]; exact lb _ 0 x0 rfl
 have e2':∀ o,Ak .u8 (Z++[o]) J.length (0+(2:Int).toNat*1)=some x2:=fun o=>by
  rw[<- hμ,ya]; exact lb _ 2 x2 rfl
 simp only[e0,AI,show ((8:Int)=0)=False from by simp,yq];have fin:∀ (a b c:Int),∃ τ,((H2 (Z++[Au.cells [.int .i64 a,.int .i64 b,.int .i64 c] Ad true]) (J++[A]).length 0 [.int .i64 a,.int .i64 b,.int .i64 c]).bind fun s27=>(((M9 s27 (J++[A]).length 0 3).bind fun v28=>some (Value.agg v28.toArray)).bind fun v29=>some [v29]).bind fun vs30=>some (KR vs30,s27))=some (.agg #[.int .i64 a,.int .i64 b,.int .i64 c],J++τ):=by
  intro a b c;refine ⟨[A,Au.cells [.int .i64 a,.int .i64 b,.int .i64 c] Ad true,Au.cells [.int .i64 a,.int .i64 b,.int .i64 c] Ad true], ?_⟩;have hN:M9 (J++[A]++[Au.cells [.int .i64 a,.int .i64 b,.int .i64 c] Ad true]++[Au.cells [.int .i64 a,.int .i64 b,.int .i64 c] Ad true]) (J++[A]).length 0 3=some [.int .i64 a,.int .i64 b,.int .i64 c]:=by
   simp only[M9];rw[AT (by simp),yK];rfl
  rw[<- hμ,sS];simp only[AI,hN];rw[show J++[A]++[Au.cells [.int .i64 a,.int .i64 b,.int .i64 c] Ad true]++[Au.cells [.int .i64 a,.int .i64 b,.int .i64 c] Ad true]=J++[A,Au.cells [.int .i64 a,.int .i64 b,.int .i64 c] Ad true,Au.cells [.int .i64 a,.int .i64 b,.int .i64 c] Ad true] from by simp];rfl
 have m5:=Abs 5 h1.1;have m5':=Aa0 x1 (show (0:Int)<5 by decide);have m53:=Abs 3 m5;have m53':=Aa0 (x1.tmod 5) (show (0:Int)<3 by decide);have m100:=Abs 100 h2.1;have m100':=Aa0 x2 (show (0:Int)<100 by decide);have q1:Ar (1+(x1.tmod 5).tmod 3)=1+(x1.tmod 5).tmod 3:=Ah (by unfold AK; omega);have q2:Ar (2+(x1.tmod 5).tmod 3)=2+(x1.tmod 5).tmod 3:=Ah (by unfold AK; omega);have q3:Ar (32+x2.tmod 100)=32+x2.tmod 100:=Ah (by unfold AK; omega);have s1:∀ (a b c v:Int) (o:Nat),o<3->CT (Z++[Au.cells [.int .i64 a,.int .i64 b,.int .i64 c] Ad true]) Z.length o (.int .i64 v)=some (Z++[Au.cells ([.int .i64 a,.int .i64 b,.int .i64 c].set o (.int .i64 v)) Ad true]):=fun a b c v o ho=>g7 _ _ _ _ _ (by simpa using ho);have ln:∀ (a b c:Int),Ak .i64 (Z++[Au.cells [.int .i64 a,.int .i64 b,.int .i64 c] Ad true]) Z.length (0+0)=some a:=fun a b c=>by rw[Bh]; rfl
 unfold OI;by_cases c4:x0.tmod 8=4
 ·rw[yk c4,show (x0.tmod 8 == 4)=true from zJ.2 c4];simp only[IT,ln,AI,show ((3:Int)=0)=False from by simp,yq,s1 _ _ _ _ (0+2) (by decide),zW,zX,IN,s1 _ _ _ _ 0 (by decide),q1,ye];simp only[Bh,IN,Nat.reduceAdd,yy,yB,AI,Ag];exact fin _ _ _
 rw[ym c4,show (x0.tmod 8 == 4)=false from yM.2 c4];by_cases c5:x0.tmod 8=5
 ·rw[yk c5,show (x0.tmod 8 == 5)=true from zJ.2 c5];simp only[IT,By,ln,AI,show ((3:Int)=0)=False from by simp,yq,s1 _ _ _ _ (0+2) (by decide),zW,zX,IN,s1 _ _ _ _ 0 (by decide),q2,ye];simp only[Bh,IN,Nat.reduceAdd,yy,yB,AI,Ag];exact fin _ _ _
 rw[ym c5,show (x0.tmod 8 == 5)=false from yM.2 c5];by_cases c6:x0.tmod 8=6
 ·rw[yk c6,show (x0.tmod 8 == 6)=true from zJ.2 c6];simp only[IT,By,AI,s1 _ _ _ _ (0+2) (by decide),zW,zX,ye];simp only[Bh,IN,Nat.reduceAdd,yy,yB,AI,Ag];exact fin _ _ _
 rw[ym c6,show (x0.tmod 8 == 6)=false from yM.2 c6];by_cases c7:x0.tmod 8=7
 ·rw[yk c7,show (x0.tmod 8 == 7)=true from zJ.2 c7];rw[yk (by decide)];simp only[IT,By,e2',AI,w2,show ((100:Int)=0)=False from by simp,yq,s1 _ _ _ _ (0+1) (by decide),zW,zX,q3,ye];simp only[Bh,IN,Nat.reduceAdd,yy,yB,AI,Ag];exact fin _ _ _
 rw[ym c7,show (x0.tmod 8 == 7)=false from yM.2 c7];simp only[By,AI,ye,Bh,IN,Nat.reduceAdd,yy,yB,Ag];exact fin _ _ _
structure BL where
 p:Option Addr
 n:Nat
 c:Nat
 l:List Int
def kK (l:List Int):List Value:=l.map fun v=>.int .u8 v
structure KU (lo:Nat) (J:Aa) (w:Nat) (b:BL):Prop where
 len:b.l.length=b.n*w
 rng:∀ v ∈ b.l,0<=v/\v<256
 at_:b.n=0 \/ ∃ q T rw,b.p=some ⟨q,0,none⟩/\q<lo/\J[q]?=some (.cells (kK b.l) T rw)
structure Bg where
 bl:Int
 mu:Int
 ob:BL
 de:BL
 li:BL
 pl:BL
 pi:BL
structure kP (lo:Nat) (J:Aa) (h0:Nat) (B:Bg):Prop where
 cell:J[h0]?=some (.cells [.int .u8 B.bl,.int .u8 B.mu,.slice B.ob.p B.ob.n B.ob.c,.slice B.de.p B.de.n B.de.c,.slice B.li.p B.li.n B.li.c,.slice B.pl.p B.pl.n B.pl.c,.slice B.pi.p B.pi.n B.pi.c] Dc true)
 hl:h0<lo
 b0:0<=B.bl/\B.bl<256
 m0:0<=B.mu/\B.mu<256
 ob:KU lo J 4 B.ob
 de:KU lo J 1 B.de
 li:KU lo J 3 B.li
 pl:KU lo J 2 B.pl
 pi:KU lo J 1 B.pi
variable {lo h0:Nat} {B:Bg}
theorem KU.DH {J':Aa} {w:Nat} {b:BL} (h:KU lo J w b) (hq:∀ q,q<lo->J'[q]?=J[q]?):KU lo J' w b:=by
 refine ⟨h.len,h.rng,h.at_.imp id fun ⟨q,T,rw',e,hl,hc⟩=>⟨q,T,rw',e,hl,(hq q hl).trans hc⟩⟩
theorem kP.DH {J':Aa} (h:kP lo J h0 B) (hq:∀ q,q<lo->J'[q]?=J[q]?):kP lo J' h0 B:=
 ⟨(hq _ h.hl).trans h.cell,h.hl,h.b0,h.m0,h.ob.DH hq,h.de.DH hq,h.li.DH hq,h.pl.DH hq,h.pi.DH hq⟩
def BL.at (b:BL) (y:Nat):Int:=b.l.getD y 0
theorem KU.rg {w:Nat} {b:BL} (h:KU lo J w b) (y:Nat):0<=b.at y/\b.at y<256:=by
 unfold BL.at;rw[yd];by_cases hy:y<b.l.length
 ·rw[yg hy]; exact h.rng _ (yU hy)
 ·rw[zg (by omega)]; exact ⟨Aas _,by decide⟩
theorem KU.ld {w:Nat} {b:BL} (h:KU lo J w b) {x:Nat} (hx:x<b.n):∃ q,b.p=some ⟨q,0,none⟩/\q<lo /\ ∀ (Z:Aa),Z[q]?=J[q]? -> ∀ o,o<w->Ak .u8 Z q (x*w+o)=some (b.at (x*w+o)):=by
 rcases h.at_ with h0 | ⟨q,T,rw',e,hl,hc⟩
 ·omega
 ·refine ⟨q,e,hl,fun Z hμ o ho=>?_⟩;have hlt:x*w+o<b.l.length:=by
   rw[h.len];have:(x+1)*w<=b.n*w:=zR _ (by omega);rw[Abd] at this; omega
  unfold BL.at;simp only[Ak,D5,hμ,hc,kK,zG,yg hlt,Aa8,AI,yd,Aaz,Ag]
theorem kP.AR (h:kP lo J h0 B):AX.AR J h0 2=some (B.ob.p,B.ob.n,B.ob.c)/\AX.AR J h0 3=some (B.de.p,B.de.n,B.de.c)/\AX.AR J h0 4=some (B.li.p,B.li.n,B.li.c)/\AX.AR J h0 5=some (B.pl.p,B.pl.n,B.pl.c)/\AX.AR J h0 6=some (B.pi.p,B.pi.n,B.pi.c):=by
 simp[AX.AR,D5,h.cell,ED]
structure Mk (lo:Nat) (Z:Aa) (I:LK) (m:HM) (t:RM) (r:DX) (sb h0:Nat) (B:Bg):Prop where
 s:Sn Z I m m t r r
 sb:I.sb=sb
 b:kP lo Z h0 B
 new:∀ q ∈ I.fl,lo<=q
 ll:lo<=Z.length
theorem Mk.low {Z Z':Aa} {I I':LK} {t:RM} {r:DX} {sb:Nat} (M:Mk lo Z I m t r sb h0 B) (hm:Mv I.fl I'.fl Z Z'):∀ q,q<lo->Z'[q]?=Z[q]?:=fun q hq=>hm.same q (yG hq M.ll) fun hm'=>Aad _ (yG hq (M.new q hm'))
theorem Mk.step {Z Z':Aa} {I I':LK} {t t':RM} {m':HM} {r r':DX} {sb:Nat} (M:Mk lo Z I m t r sb h0 B) (S:Sn Z' I' m' m' t' r' r') (hm:Mv I.fl I'.fl Z Z') (hs':I'.sb=I.sb):Mk lo Z' I' m' t' r' sb h0 B:=
 ⟨S,hs'.trans M.sb,M.b.DH (M.low hm),fun q hq=>(hm.new q hq).elim (M.new q) fun h=>zj M.ll h,zj M.ll hm.len⟩
theorem Mk.app {Z:Aa} {I:LK} {t:RM} {r:DX} {sb:Nat} (M:Mk lo Z I m t r sb h0 B) (τ:Aa):Mk lo (Z++τ) I m t r sb h0 B:=M.step (M.s.app τ) (Mv.app _ _ _) rfl
def dD (lo h0 sb:Nat) (B:Bg) (F:Nat->Aa->Option Bl) (ex:Cc) (n:Nat) (m m':HM) (r r':DX):Prop:=
 ∀ f Z I t,n<f->Mk lo Z I m t r sb h0 B -> ∃ Z' I' t',F f Z=some (ex,[],Z')/\Mk lo Z' I' m' t' r' sb h0 B/\Mv I.fl I'.fl Z Z'
theorem XU (k:Nat) (hk:5000<=k) (B:Bg) (r:DX):∀ (n x:Nat) (m:HM),MK m->M7 m->m.births<=x->x+n=min B.ob.n 40 ->
  ∃ m',MK m'/\M7 m'/\m'.births<=40/\m'.bls.length=m.bls.length /\ ∀ lo h0 sb,dD lo h0 sb B (fun f=>Cj (k+13) f h0 sb (x:Int)) (.exit 0) n m m' r r
 | 0,x,m,hM,hz,hb,hx=>by
   refine ⟨m,hM,hz,by omega,rfl,fun lo h0 sb f Z I t hf M=>?_⟩;obtain ⟨f,rfl⟩:∃ f',f=f'+1:=⟨f-1,by omega⟩;refine ⟨Z,I,t, ?_,M,Mv.refl _ _⟩;show Cj _ _ _ _ _ _=_;rw[JY];simp only[IN,M.b.AR.1,AI];by_cases q:x<B.ob.n
   ·simp only[xZ (show (x:Int)<((B.ob.n:Nat):Int) by omega),IT,xY (show ¬ (x:Int)<40 by omega),AI,By]
   ·simp only[xY (show ¬ (x:Int)<((B.ob.n:Nat):Int) by omega),By,AI]
 | n+1,x,m,hM,hz,hb,hx=>by
   obtain ⟨P1,P2,P3,P4⟩:=mT hM hz (OI (B.ob.at (x*4)) (B.ob.at (x*4+1)) (B.ob.at (x*4+2))).1 (OI (B.ob.at (x*4)) (B.ob.at (x*4+1)) (B.ob.at (x*4+2))).2.1 (OI (B.ob.at (x*4)) (B.ob.at (x*4+1)) (B.ob.at (x*4+2))).2.2 ((B.ob.at (x*4+3)).tmod 3);obtain ⟨m',a1,a2,a3,a4,LL⟩:=XU k hk B r n (x+1) _ P1 P2 (by omega) (by omega);refine ⟨m',a1,a2,a3,a4.trans P4,fun lo h0 sb f Z I t hf M=>?_⟩;have L:=LL lo h0 sb;obtain ⟨f,rfl⟩:∃ f',f=f'+1:=⟨f-1,by omega⟩;have w1:Ar ((x:Int)+1)=((x+1:Nat):Int):=Ah (by unfold AK; omega);have hxn:x<B.ob.n:=by omega
   obtain ⟨q,eq,hq,ld⟩:=M.b.ob.ld hxn;have qx:(0<=(x:Int)/\(x:Int)<((B.ob.n:Nat):Int))=True:=zl (by omega);have q3:(0<=(3:Int)/\(3:Int)<((4:Nat):Int))=True:=zl (by decide);have d0:=ld Z rfl 0 (by decide);have d1:=ld Z rfl 1 (by decide);have d2:=ld Z rfl 2 (by decide);have d3:=ld Z rfl 3 (by decide);rw[yl] at d0;have g3:=M.b.ob.rg (x*4+3);obtain ⟨τ,eS⟩:=o8 (k+12) (x3:=B.ob.at (x*4+3)) (M.b.ob.rg (x*4)) (M.b.ob.rg (x*4+1)) (M.b.ob.rg (x*4+2)) Z;have eS':=eS;rw[show k+12+1=k+13 from rfl] at eS';have M1:=M.app τ;have d3':Ak .u8 (Z++τ) q (x*4+3)=some (B.ob.at (x*4+3)):=ld (Z++τ) (AT (by have:=M.ll; omega)) 3 (by decide);have w3:Ar (B.ob.at (x*4+3))=B.ob.at (x*4+3):=Ah (by unfold AK; omega);have sp0:=Abs 3 g3.1;have sp1:=Aa0 (B.ob.at (x*4+3)) (show (0:Int)<3 by decide);obtain ⟨Z2_,I2,t2,e2,S2,m2,b2⟩:=ow k hk M1.s (by omega) (OI (B.ob.at (x*4)) (B.ob.at (x*4+1)) (B.ob.at (x*4+2))).1 (OI (B.ob.at (x*4)) (B.ob.at (x*4+1)) (B.ob.at (x*4+2))).2.1 (OI (B.ob.at (x*4)) (B.ob.at (x*4+1)) (B.ob.at (x*4+2))).2.2 ((B.ob.at (x*4+3)).tmod 3) ⟨sp0,sp1⟩;have M2:=M1.step S2 m2 b2;obtain ⟨Z',I',t',e3,M3,m3⟩:=L f Z2_ I2 t2 (by omega) M2;refine ⟨Z',I',t', ?_,M3,((Mv.app _ _ τ).trans m2).trans m3⟩;show Cj _ _ _ _ _ _=_;rw[JY];have e2':=e2;rw[show Ji I=some ⟨sb,0,none⟩ from by unfold Ji; rw[M.sb]] at e2';simp only[IN,M.b.AR.1,M1.b.AR.1,AI,xZ (show (x:Int)<((B.ob.n:Nat):Int) by omega),IT,xZ (show (x:Int)<40 by omega),qx,ye,eq,xQ,zu,Nat.reduceAdd,IN,d0,d1,d2,d3,eS',Nb,HG,q3,show (3:Int).toNat*1=3 from rfl,d3',w3,show ((3:Int)=0)=False from by simp,yq,e2',Ao,yp,By,w1];exact e3
theorem XV (k:Nat) (hk:5000<=k) (B:Bg) (r:DX):∀ (n x:Nat) (m:HM),MK m->M7 m->x+n=min B.de.n 20 ->
  ∃ m',MK m'/\M7 m'/\m'.births=m.births/\m'.bls.length=m.bls.length /\ ∀ lo h0 sb,dD lo h0 sb B (fun f=>Ck (k+12) f h0 sb (x:Int)) (.exit 2) n m m' r r
 | 0,x,m,hM,hz,hx=>by
   refine ⟨m,hM,hz,rfl,rfl,fun lo h0 sb f Z I t hf M=>?_⟩;obtain ⟨f,rfl⟩:∃ f',f=f'+1:=⟨f-1,by omega⟩;refine ⟨Z,I,t, ?_,M,Mv.refl _ _⟩;show Ck _ _ _ _ _ _=_;rw[JZ];simp only[IN,M.b.AR.2.1,AI];by_cases q:x<B.de.n
   ·simp only[xZ (show (x:Int)<((B.de.n:Nat):Int) by omega),IT,xY (show ¬ (x:Int)<20 by omega),AI,By]
   ·simp only[xY (show ¬ (x:Int)<((B.de.n:Nat):Int) by omega),By,AI]
 | n+1,x,m,hM,hz,hx=>by
   have sh:=Og hM.inv hM.sh (Xj m ((B.de.at x).toNat % 100));obtain ⟨m',a1,a2,a3,a4,LL⟩:=XV k hk B r n (x+1) _ (hM.kill (Xj m ((B.de.at x).toNat % 100))) (hz.kill hM.inv hM.sh _) (by omega);refine ⟨m',a1,a2,by rw[a3,sh.2.2.2.2.2],by rw[a4,sh.1],fun lo h0 sb f Z I t hf M=>?_⟩;have L:=LL lo h0 sb;obtain ⟨f,rfl⟩:∃ f',f=f'+1:=⟨f-1,by omega⟩;have w1:Ar ((x:Int)+1)=((x+1:Nat):Int):=Ah (by unfold AK; omega);have hxn:x<B.de.n:=by omega
   obtain ⟨q,eq,hq,ld⟩:=M.b.de.ld hxn;have qx:(0<=(x:Int)/\(x:Int)<((B.de.n:Nat):Int))=True:=zl (by omega);have d0:=ld Z rfl 0 (by decide);rw[yl,yH] at d0;have g0:=M.b.de.rg x;obtain ⟨y,hy⟩:∃ y:Nat,B.de.at x=(y:Int):=⟨(B.de.at x).toNat,by omega⟩;rw[hy,xQ] at L;rw[hy] at d0;have w0:Ar (y:Int)=(y:Int):=Ah (by unfold AK; omega);have em:(y:Int).tmod 100=((y % 100:Nat):Int):=Oq y 100;have eA:Bk (k+12) (Ji I) ((y % 100:Nat):Int) Z=_:=dq (k+11) M.s (Aaq _ (by decide));obtain ⟨J1_,J2_,j',t2,e1,c1,l1,e2,S2,m2⟩:=kQ k hk M.s (Xj m (y % 100)) (dm hM).1;have M2:=M.step S2 m2 rfl;obtain ⟨Z',I',t',e3,M3,m3⟩:=L f J2_ _ t2 (by omega) M2;refine ⟨Z',I',t', ?_,M3,m2.trans m3⟩;have l2:BR Z I.sb 2=some (Bx I.j):=M.s.SE;have hsb:=M.sb;subst hsb;show Ck _ _ _ _ _ _=_;rw[JZ];simp only[IN,M.b.AR.2.1,AI,xZ (show (x:Int)<((B.de.n:Nat):Int) by omega),IT,xZ (show (x:Int)<20 by omega),qx,ye,eq,xQ,yH,d0,w0,em,show ((100:Int)=0)=False from by simp,yq,eA,Ag,l2,e1,Oe c1,l1,e2,yr,By,w1];exact e3
end
end
end Go.Proofs.YtjbledomkmdkmaaGreat
