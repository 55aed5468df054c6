/- The allocator's blocks and gaps.; The policies first, next, lines.; What a call leaves of a memory; lists of ints that grow.; What the collectors of l -/
import Derived.Test.YtjbledomkmdkmaaGreatP24
set_option linter.unusedVariables false
set_option linter.unusedSimpArgs false
set_option linter.unusedSectionVars false
namespace Go.Proofs.YtjbledomkmdkmaaGreat
open Go Go.AX
noncomputable section
local instance yb:AA:=Ap
section
variable {J:Aa} {i:Cd} {m:HM} {ab:Nat} {a:AS}
def Iv (m:HM) (s:Int) (n:Nat):List Nat:=(List.range n).filter fun b=>decide ((m.bls.getD b (0,0)).1=1/\(m.bls.getD b (0,0)).2=s)
def Xz (l:List Nat):List Int:=l.map fun b:Nat=>(b:Int)
theorem UN (m:HM) (s:Int) (n:Nat):Iv m s (n+1)=Iv m s n++if (m.bls.getD n (0,0)).1=1/\(m.bls.getD n (0,0)).2=s then [n] else []:=by
 unfold Iv;rw[Abr,Aa2];congr 1;by_cases q:(m.bls.getD n (0,0)).1=1/\(m.bls.getD n (0,0)).2=s
 ·rw[yk q,zZ,yk (xZ q)]; rfl
 ·rw[ym q,zZ,ym (by rw[xY q]; decide)]; rfl
theorem WG (m:HM) (s:Int) (n:Nat):(Iv m s n).length<=n:=by
 have:=Aaj (fun b=>decide ((m.bls.getD b (0,0)).1=1/\(m.bls.getD b (0,0)).2=s)) (List.range n);rw[Aby] at this; exact this
theorem fq {m:HM} {s:Int} {n b:Nat}:b ∈ Iv m s n↔b<n/\(m.bls.getD b (0,0)).1=1/\(m.bls.getD b (0,0)).2=s:=by
 unfold Iv; simp[zO]
theorem rV {α:Type} (x u y v:Int) (s:α):(bif x == u then some (y == v,s) else some (false,s))=some (decide (x=u/\y=v),s):=by
 by_cases q:x=u
 ·subst q;by_cases q2:y=v
  ·subst q2; simp
  ·simp[q2]
 ·rw[show (x == u)=false from by simpa using q]; simp[q]
theorem PJ (k:Nat) (h:Ai J i m) (hA:DD J ab i a):∀ (n x f:Nat) (τ:Aa) (s:Bp),x+n=m.bls.length->Dt J.length (J++τ) s (Xz (Iv m a.s x))->n<f ->
  ∃ τ' s',BS (k+4) f (Oy ab) ((m.bls.length:Nat):Int) s (x:Int) (J++τ)=some (.exit 0,[.slice s'.1 s'.2.1 s'.2.2],J++τ')/\Dt J.length (J++τ') s' (Xz (Iv m a.s m.bls.length))
 | n,x,0,τ,s,hx,hs,hf=>by omega
 | 0,x,f+1,τ,s,hx,hs,hf=>by
   obtain rfl:x=m.bls.length:=by omega
   rw[HI];exact ⟨τ,s,by simp only[xY (Int.lt_irrefl _),By],hs⟩
 | n+1,x,f+1,τ,s,hx,hs,hf=>by
   have hnt:=h.nt;have hxl:x<m.bls.length:=by omega
   have g:=h.app τ;have A:=hA.app τ;have w1:Ar ((x:Int)+1)=((x+1:Nat):Int):=Ah (by unfold AK; omega);have e1:Bb (k+4) (AM i) (x:Int) (J++τ)=_:=dH (k+1) g hxl;have e2:Bt (k+4) (AM i) (x:Int) (J++τ)=_:=Yj (k+1) g hxl;rw[HI];simp only[xZ (show (x:Int)<((m.bls.length:Nat):Int) by omega),IT,AI,yl,IN,A.fg,e1,e2,Ag,A.l1,w1];rw[rV];by_cases q:(m.bls.getD x (0,0)).1=1/\(m.bls.getD x (0,0)).2=a.s
   ·obtain ⟨s1,τ1,e3,i1⟩:=YU J τ s _ (x:Int) (by have:=WG m a.s x; simp[Xz]; omega) hs;have e3':AF P Aj (s.1,s.2.1,s.2.2) (some ⟨(J++τ).length,0,none⟩,1,1) (J++τ++[.cells [.int .i64 (x:Int)] Aj true])=_:=e3;obtain ⟨τ2,s2,e4,i2⟩:=PJ k h hA n (x+1) f τ1 s1 (by omega) (by rw[UN,yk q]; simpa [Xz] using i1) (by omega);refine ⟨τ2,s2, ?_,i2⟩;simp only[xZ q,AI,IT,Ae,e3',ye,GZ];exact e4
   ·obtain ⟨τ2,s2,e4,i2⟩:=PJ k h hA n (x+1) f τ s (by omega) (by rw[UN,ym q,yw]; exact hs) (by omega);refine ⟨τ2,s2, ?_,i2⟩;simp only[xY q,AI,By,ye,GZ];exact e4
theorem lQ (k:Nat) (hk:100<=k) (h:Ai J i m) (hA:DD J ab i a):
  ∃ τ s,Dm (k+5) (Oy ab) J=some (.slice s.1 s.2.1 s.2.2,J++τ)/\Dt J.length (J++τ) s (Xz (Iv m a.s m.bls.length)):=by
 have hnt:=h.nt;obtain ⟨τ,s,e,hs⟩:=PJ k h hA m.bls.length 0 (k+4) [] (none,0,0) (by omega) (.inl ⟨rfl,rfl⟩) (by omega);rw[yw] at e;refine ⟨τ,s, ?_,hs⟩;have e':BS (k+4) (k+4) (Oy ab) ((m.bls.length:Nat):Int) (none,0,0) 0 J=_:=e;have e0:Ax (k+4) (AM i) J=_:=Gm (k+2) h;rw[MS];simp only[AI,yl,hA.fg,e0,Ag,e',ye,GZ]
def ZQ (f w:Nat) (g:Nat × Nat):Option (Nat × Nat):=if w<=g.1+g.2-max f g.1 then some (max f g.1,g.1+g.2-max f g.1) else none
theorem wW (Z:Aa) (T:TypeId) (p q x:Value):CT (Z++[.cells [p,q] T true]) Z.length 0 x=some (Z++[.cells [x,q] T true]):=by
 simp[CT]
theorem wX (Z:Aa) (T:TypeId) (p q x:Value):CT (Z++[.cells [p,q] T true]) Z.length 1 x=some (Z++[.cells [p,x] T true]):=by
 simp[CT]
theorem se (g:Nat × Nat) (fr w:Nat) (hfr:fr<=10000) (hw:1<=w) (hg:g.1+g.2<=10000) (Z:Aa):
  ∃ st sz:Int,((bif decide (Ar ((fr:Int)-(g.1:Int))>0) then ((CT (Z++[.cells [.int .i64 (g.1:Int),.int .i64 (g.2:Int)] Ay true]) Z.length 0 (.int .i64 (fr:Int))).bind fun s17=>(CT s17 Z.length 1 (.int .i64 (Ar ((g.2:Int)-Ar ((fr:Int)-(g.1:Int)))))).bind fun s18=>some (.normal,[],s18)) else (some (.normal,[],Z++[.cells [.int .i64 (g.1:Int),.int .i64 (g.2:Int)] Ay true])):Option Bl) =
   some (.normal,[],Z++[.cells [.int .i64 st,.int .i64 sz] Ay true]))/\(match ZQ fr w g with | some g'=>sz>=(w:Int)/\st=(g'.1:Int)/\sz=(g'.2:Int) | none=>¬ sz>=(w:Int)):=by
 have w1:Ar ((fr:Int)-(g.1:Int))=(fr:Int)-(g.1:Int):=Ah (by unfold AK; omega);have w2:Ar ((g.2:Int)-((fr:Int)-(g.1:Int)))=(g.2:Int)-((fr:Int)-(g.1:Int)):=Ah (by unfold AK; omega);rw[w1];unfold ZQ;by_cases q:(fr:Int)-(g.1:Int)>0
 ·refine ⟨(fr:Int),(g.2:Int)-((fr:Int)-(g.1:Int)), ?_, ?_⟩
  ·rw[xZ q];simp only[IT,w1,w2,AI,wW,wX]
  ·rw[Nat.max_eq_left (by omega)];by_cases q2:w<=g.1+g.2-fr
   ·rw[yk q2]; dsimp only; omega
   ·rw[ym q2]; dsimp only; omega
 ·refine ⟨(g.1:Int),(g.2:Int), ?_, ?_⟩
  ·rw[xY q]; rfl
  ·rw[Nat.max_eq_right (by omega)];by_cases q2:w<=g.1+g.2-g.1
   ·rw[yk q2]; dsimp only; omega
   ·rw[ym q2]; dsimp only; omega
def vf (s o:Bp):Prop:=∀ a,o.1=some a -> ∀ b,s.1=some b->a.block≠b.block
theorem GA.sl {E:TypeId} {z n:Nat} {row:List Value} {J':Aa} {s o o':Bp} (g:GA J o J' o') (h:Cq E z J s n row) (ha:vf s o):Cq E z J' s n row/\vf s o':=by
 refine ⟨h.Aw fun b hb=>?_,fun x hx b hb=>?_⟩
 ·exact g.same b.block (h.lt b hb) fun x hx=>ha x hx b hb
 ·rcases g.new with rfl | hw
  ·exact ha x hx b hb
  ·have:=hw x hx; have:=h.lt b hb; omega
theorem Up (k:Nat) {fr w:Nat} (hfr:fr<=10000) (hw:1<=w/\w<=1000) {R:List (Nat × Nat)} (hR:R.length<=100) (hRb:∀ g ∈ R,g.1+g.2<=10000) (s:Bp):∀ (n x f:Nat) (Z:Aa) (o:Bp) (R0:List (Nat × Nat)),Cq Ay 2 Z s R.length (Dk R)->Cq Ay 2 Z o R0.length (Dk R0)->vf s o->R0.length+n<=100000->x+n=R.length->n<f ->
  ∃ Z' o',Cx k f (fr:Int) (w:Int) s.1 R.length s.2.2 ((R.length:Nat):Int) o (x:Int) Z=some (.exit 2,[.slice o'.1 o'.2.1 o'.2.2],Z')/\GA Z o Z' o'/\Cq Ay 2 Z' o' (R0++(R.drop x).filterMap (ZQ fr w)).length (Dk (R0++(R.drop x).filterMap (ZQ fr w)))
 | n,x,0,Z,o,R0,hs,ho,hd,hl,hx,hf=>by omega
 | 0,x,f+1,Z,o,R0,hs,ho,hd,hl,hx,hf=>by
   rw[IF];refine ⟨Z,o,by simp only[xY (show ¬ (x:Int)<((R.length:Nat):Int) by omega),By],GA.refl _ _, ?_⟩;rw[List.drop_of_length_le (by omega)];simpa using ho
 | n+1,x,f+1,Z,o,R0,hs,ho,hd,hl,hx,hf=>by
   have hxl:x<R.length:=by omega
   obtain ⟨b,e0,l0,l1⟩:=qJ hs hxl;have eg:R.getD x (0,0)=R[x]:=by rw[yd,yg hxl]; rfl
   rw[eg] at l0 l1;have qx:(0<=(x:Int)/\(x:Int)<((R.length:Nat):Int))=True:=zl (by omega);have w1:Ar ((x:Int)+1)=((x+1:Nat):Int):=Ah (by unfold AK; omega);obtain ⟨st,sz,eb,hc⟩:=se R[x] fr w hfr hw.1 (hRb _ (yU _)) Z;have ea:∀ (st sz:Int),Ak .i64 (Z++[.cells [.int .i64 st,.int .i64 sz] Ay true]) Z.length 0=some st/\Ak .i64 (Z++[.cells [.int .i64 st,.int .i64 sz] Ay true]) Z.length 1=some sz:=fun st sz=>SE Z Ay st sz;have hdr:R.drop x=R[x]::R.drop (x+1):=yO hxl;rw[IF];simp only[xZ (show (x:Int)<((R.length:Nat):Int) by omega),IT,qx,ye,e0,AI,xQ,IN,yl,l0,l1,Ae,vP,(ea _ _).1,eb,(ea _ _).2,w1];have hg1:Cq Ay 2 (Z++[.cells [.int .i64 st,.int .i64 sz] Ay true]) s R.length (Dk R):=hs.app _;cases hcg:ZQ fr w R[x] with
   | none=>
     rw[hcg] at hc;simp only[xY (show ¬ sz>=(w:Int) from hc),By,AI,ye,GZ];obtain ⟨Z',o',e2,g2,h2⟩:=Up k hfr hw hR hRb s n (x+1) f (Z++[.cells [.int .i64 st,.int .i64 sz] Ay true]) o R0 hg1 (ho.app _) hd (by omega) (by omega) (by omega);rw[e0] at e2;refine ⟨Z',o',e2,(GA.app _ _ _).trans g2, ?_⟩;rw[hdr,List.filterMap_cons_none hcg]; exact h2
   | some g=>
     rw[hcg] at hc;obtain ⟨c1,rfl,rfl⟩:=hc;simp only[xZ (show ((g.2:Nat):Int)>=(w:Int) from c1),IT,AI];obtain ⟨o1,Z1_,e1,g1,h1⟩:=Ms sU rY tf rfl rfl (by decide) (by decide) (by decide) (Z++[.cells [.int .i64 (g.1:Int),.int .i64 (g.2:Int)] Ay true]) o R0.length (Dk R0) 1 1 [.int .i64 (g.1:Int),.int .i64 (g.2:Int)] Ay (by omega) (by decide) rfl (ho.app _);have e1':AF P Ay (o.1,o.2.1,o.2.2) (some ⟨(Z++[Au.cells [.int .i64 (g.1:Int),.int .i64 (g.2:Int)] Ay true]).length,0,none⟩,1,1) (Z++[Au.cells [.int .i64 (g.1:Int),.int .i64 (g.2:Int)] Ay true]++[Au.cells [.int .i64 (g.1:Int),.int .i64 (g.2:Int)] Ay true])=_:=e1;have gA:GA Z o Z1_ o1:=(GA.app _ _ _).trans g1;obtain ⟨s1,d1⟩:=gA.sl hs hd;rw[show Dk R0++[Value.int .i64 (g.1:Int),.int .i64 (g.2:Int)]=Dk (R0++[g]) from by rw[ND]; rfl,show R0.length+1=(R0++[g]).length from by simp] at h1;obtain ⟨Z',o',e2,g2,h2⟩:=Up k hfr hw hR hRb s n (x+1) f Z1_ o1 (R0++[g]) s1 h1 d1 (by simp; omega) (by omega) (by omega);rw[e0] at e2;refine ⟨Z',o', ?_,gA.trans g2, ?_⟩
     ·simp only[e1',AI,ye,GZ];exact e2
     ·rw[hdr,List.filterMap_cons_some hcg]; simpa using h2
def Wa (m:HM) (l:List Nat):List (Nat × Nat):=l.flatMap fun b:Nat=>HC m (b:Int)
def YO (m:HM) (s:Int) (f w:Nat):List (Nat × Nat):=(Wa m (Iv m s m.bls.length)).filterMap (ZQ f w)
theorem jX {a e M:Nat} (hM:e<=M):∀ g ∈ Js a e,g.1+g.2<=M:=by
 intro g hg;unfold Js at hg;split at hg
 ·simp at hg; subst hg; dsimp only; omega
 ·simp at hg
theorem aJ (hnt:m.bls.length<=64) (b:Int):∀ g ∈ HC m b,g.1+g.2<=4096:=by
 have aux:∀ (L:List Nat) (a:Nat),(∀ j ∈ L,2*j<=4096) -> ∀ g ∈ (EX m L a).1,g.1+g.2<=4096:=by
  intro L
  induction L with
  | nil=>intro a _ g hg; simp[EX] at hg
  | cons j L ih=>
    intro a hL g hg;rw[EX] at hg;rcases yf.1 hg with h | h
    ·exact jX (hL j (by simp)) g h
    ·exact ih _ (fun j hj=>hL j (by simp[hj])) g h
 intro g hg;unfold HC at hg;split at hg
 ·rename_i hst;obtain ⟨n,rfl,hn,_⟩:=bF hst;rw[xQ] at hg;unfold YN at hg;rcases yf.1 hg with h | h
  ·exact aux _ _ (fun j hj=>by have:=K6.1 hj; omega) g h
  ·exact jX (by omega) g h
 ·simp at hg
theorem pa (hnt:m.bls.length<=64) (b:Int):∀ g ∈ HC m b,g.1+g.2<=10000:=fun g hg=>by have:=aJ hnt b g hg; omega
theorem mH {L:List Nat} {x:Nat} (hx:x<L.length):(Xz L).getD x 0=((L[x]:Nat):Int):=by
 unfold Xz;rw[yd,zG,yg hx]; rfl
theorem YP (k:Nat) (hk:5000<=k) (hI:Inv m) (h0:B0 m) {fr w:Nat} (hfr:fr<=10000) (hw:1<=w/\w<=1000) {L:List Nat} (hL:∀ b ∈ L,b<m.bls.length) (hLl:L.length<=64) (s:Bp):∀ (n x f:Nat) (Z:Aa) (o:Bp) (R0:List (Nat × Nat)),Ai Z i m->DD Z ab i a->Cq Aj 1 Z s (Xz L).length (AZ (Xz L))->Cq Ay 2 Z o R0.length (Dk R0)->vf s o->w9 i o->(∀ x,o.1=some x->x.block≠ab)->R0.length+33*n<=50000->x+n=L.length->n<f ->
  ∃ Z' o',Cw (k+7) f (Oy ab) (fr:Int) (w:Int) s.1 L.length s.2.2 ((L.length:Nat):Int) o (x:Int) Z=some (.exit 0,[.slice o'.1 o'.2.1 o'.2.2],Z')/\GA Z o Z' o'/\Cq Ay 2 Z' o' (R0++(Wa m (L.drop x)).filterMap (ZQ fr w)).length (Dk (R0++(Wa m (L.drop x)).filterMap (ZQ fr w)))
 | n,x,0,Z,o,R0,h,hA,hs,ho,hd,hof,hoa,hl,hx,hf=>by omega
 | 0,x,f+1,Z,o,R0,h,hA,hs,ho,hd,hof,hoa,hl,hx,hf=>by
   rw[IE];refine ⟨Z,o,by simp only[xY (show ¬ (x:Int)<((L.length:Nat):Int) by omega),By],GA.refl _ _, ?_⟩;rw[List.drop_of_length_le (by omega)];simpa [Wa] using ho
 | n+1,x,f+1,Z,o,R0,h,hA,hs,ho,hd,hof,hoa,hl,hx,hf=>by
   have hxl:x<L.length:=by omega
   obtain ⟨b,e0,l0⟩:=uh hs (show x<(Xz L).length by unfold Xz; simpa using hxl);rw[mH hxl] at l0;have qx:(0<=(x:Int)/\(x:Int)<((L.length:Nat):Int))=True:=zl (by omega);have w1:Ar ((x:Int)+1)=((x+1:Nat):Int):=Ah (by unfold AK; omega);obtain ⟨τ,s1,e1,h1,lo1⟩:=tN k hk h hI h0 ((L[x]:Nat):Int);have hlen:=aK m ((L[x]:Nat):Int);have gA:GA Z o (Z++τ) o:=GA.app _ _ _;obtain ⟨sl1,_⟩:=gA.sl hs hd;have d1:vf s1 o:=fun x hx b hb=>by have:=ho.lt x hx; have:=lo1 b hb; omega
   obtain ⟨Z1_,o1,e2,g1,h2⟩:=Up (k+7) hfr hw (R:=HC m ((L[x]:Nat):Int)) (by omega) (pa h.nt _) s1 (HC m ((L[x]:Nat):Int)).length 0 (k+7) (Z++τ) o R0 h1 (ho.app _) d1 (by omega) (by omega) (by omega);rw[yV] at h2;have g2:GA Z o Z1_ o1:=gA.trans g1;obtain ⟨hh1,of1⟩:=g2.heap h hof;obtain ⟨hA1,oa1⟩:=g2.other hA hoa;obtain ⟨hs1,d2⟩:=g2.sl hs hd;have hfl:((HC m ((L[x]:Nat):Int)).filterMap (ZQ fr w)).length<=33:=zj (List.length_filterMap_le _ _) hlen;obtain ⟨Z2_,o2,e3,g3,h3⟩:=YP k hk hI h0 hfr hw hL hLl s n (x+1) f Z1_ o1 _ hh1 hA1 hs1 h2 d2 of1 oa1 (by rw[yi]; omega) (by omega) (by omega);rw[e0] at e3;refine ⟨Z2_,o2, ?_,g2.trans g3, ?_⟩
   ·have e2':Cx (k+7) (k+7) (fr:Int) (w:Int) s1.1 (HC m ((L[x]:Nat):Int)).length s1.2.2 (((HC m ((L[x]:Nat):Int)).length:Nat):Int) (o.1,o.2.1,o.2.2) 0 (Z++τ)=_:=e2;rw[IE];simp only[xZ (show (x:Int)<((L.length:Nat):Int) by omega),IT,qx,ye,e0,AI,xQ,IN,yl,yH,l0,hA.fg,e1,ED,h1.len,e2',GZ,w1];exact e3
   ·rw[yO hxl];simp only[Wa,Abz,List.filterMap_append,ya] at h3 ⊢;exact h3
theorem sk (k:Nat) (hk:5000<=k) (h:Ai J i m) (hA:DD J ab i a) (hI:Inv m) (h0:B0 m) {fr w:Nat} (hfr:fr<=10000) (hw:1<=w/\w<=1000):
  ∃ τ s,DL (k+8) (Oy ab) (fr:Int) (w:Int) J=some (.slice s.1 s.2.1 s.2.2,J++τ)/\Cq Ay 2 (J++τ) s (YO m a.s fr w).length (Dk (YO m a.s fr w)) /\ ∀ x,s.1=some x->J.length<=x.block:=by
 have hnt:=h.nt;obtain ⟨τ1,s1,e1,h1⟩:=lQ (k+2) (by omega) h hA;have hbl:=WG m a.s m.bls.length;obtain ⟨Z,o,e2,g2,h2⟩:=YP (ab:=ab) (a:=a) k hk hI h0 hfr hw (L:=Iv m a.s m.bls.length) (fun b hb=>(fq.1 hb).1) (by omega) s1 (Iv m a.s m.bls.length).length 0 (k+7) (J++τ1) (none,0,0) [] (h.app _) (hA.app _) h1.sl (Cq.nil _ _ _) (fun x hx=>by cases hx) (fun x hx=>by cases hx) (fun x hx=>by cases hx) (by simp; omega) (by omega) (by omega);obtain ⟨⟨τ,rfl⟩,hb⟩:=(show GA (J++τ1) (none,0,0) Z o from g2).behind (fun x hx=>by cases hx);refine ⟨τ,o, ?_,by simpa [YO] using h2,hb⟩;have e1':Dm (k+7) (Oy ab) J=_:=e1;have e2':Cw (k+7) (k+7) (Oy ab) (fr:Int) (w:Int) s1.1 (Iv m a.s m.bls.length).length s1.2.2 (((Iv m a.s m.bls.length).length:Nat):Int) (none,0,0) 0 (J++τ1)=_:=e2;have hlen:s1.2.1=(Iv m a.s m.bls.length).length:=by rw[h1.len]; simp[Xz]
 rw[NI];simp only[e1',AI,ED,hlen,e2',ye,GZ]
end
section
variable {J:Aa} {i:Cd} {m:HM} {ab:Nat} {a:AS}
def OL (m:HM) (a:AS) (l:List (Nat × Nat)):PR:=
 match l with
 | g::_=>(((g.1:Int),true),m,a)
 | []=>match eX m with
   | some b=>((64*(b:Int),true),VC m b a.s,a)
   | none=>((0,false),m,a)
theorem qO (k:Nat) (hk:5000<=k) (h:Ai J i m) (hA:DD J ab i a) (hab:ab ∉ i.l) (ho:a.ok) {sl:Bp} {l:List (Nat × Nat)} (hs:Cq Ay 2 J sl l.length (Dk l)):
  ox (D8 (k+10) (Oy ab) sl J) J i ab (OL m a l):=by
 rw[Nr];cases l with
 | cons g l=>
   obtain ⟨b,e0,l0,_⟩:=qJ hs (x:=0) (by simp);rw[hs.len];rw[zw] at l0;refine ⟨J, ?_,h,hA,FX.refl _⟩;simp only[xZ (show (((g::l).length:Nat):Int)>0 by simp only[ze]; omega),IT,yk (show (0:Int)<=0/\(0:Int)<(((g::l).length:Nat):Int) by simp only[ze]; omega),e0,AI,Aau,zw,yl,l0,OL];rfl
 | nil=>
   obtain ⟨J1_,e1,g1,k1⟩:=oP k hk h hA hab ho.s0;have hA1:=hA.DH k1 hab;rw[hs.len];simp only[zo,xY (show ¬ ((0:Nat):Int)>0 by omega),By,e1,AI,bH,ze,Aam,Aat,rS,Ao,Ae,vP,IN,Nat.reduceAdd,ye,(SE _ _ _ _).1];unfold oO um at *;cases hfr:eX m with
   | none=>
     simp only[hfr] at g1 ⊢;rw[show OL m a []=((0,false),m,a) from by simp only[OL,hfr]];exact ⟨_,rfl,g1.app _,hA1.app _,(FX.of k1).trans (FX.app _ _)⟩
   | some b=>
     simp only[hfr] at g1 ⊢;rw[show OL m a []=((64*(b:Int),true),VC m b a.s,a) from by simp only[OL,hfr]];exact ⟨_,rfl,g1.app _,hA1.app _,(FX.of k1).trans (FX.app _ _)⟩
theorem YI (k:Nat) (hk:5000<=k) (h:Ai J i m) (hA:DD J ab i a) (hab:ab ∉ i.l) (ho:a.ok) (hI:Inv m) (h0:B0 m) {w:Nat} (hw:1<=w/\w<=1000):
  ox (Gw (k+12) (Oy ab) (w:Int) J) J i ab (OL m a (YO m a.s 0 w)):=by
 obtain ⟨τ,s,e1,h1,_⟩:=sk (k+3) (by omega) (h.app [.cells [] Ik true]) (hA.app _) hI h0 (fr:=0) (by decide) hw;obtain ⟨J2_,e2,g2,a2,k2⟩:=qO (k+1) (by omega) ((h.app [.cells [] Ik true]).app τ) ((hA.app _).app _) hab ho h1;refine ⟨J2_, ?_,g2,a2,((FX.app _ _).trans (FX.app _ _)).trans k2⟩;have e1':DL (k+11) (Oy ab) 0 (w:Int) (J++[.cells [] Ik true])=_:=e1;have e2':D8 (k+11) (Oy ab) (s.1,s.2.1,s.2.2) (J++[.cells [] Ik true]++τ)=_:=e2;rw[PL];simp only[Ae,e1',AI,ED,e2',Qo]
end
section
variable {J:Aa}
structure Mv (L L':List Nat) (J J':Aa):Prop where
 len:J.length<=J'.length
 same:∀ q,q<J.length->q ∉ L->J'[q]?=J[q]?
 new:∀ q,q ∈ L'->q ∈ L\/J.length<=q
theorem Mv.refl (L:List Nat) (J:Aa):Mv L L J J:=⟨yj _,fun _ _ _=>rfl,fun _ h=>.inl h⟩
theorem Mv.app (L:List Nat) (J τ:Aa):Mv L L J (J++τ):=⟨by simp,fun q h _=>AT h,fun _ h=>.inl h⟩
theorem Mv.trans {L L' L'':List Nat} {a b c:Aa} (h:Mv L L' a b) (g:Mv L' L'' b c):Mv L L'' a c:=by
 refine ⟨zj h.len g.len,fun q h1 h2=>?_,fun q hq=>?_⟩
 ·refine (g.same q (yG h1 h.len) fun hm=>?_).trans (h.same q h1 h2);rcases h.new q hm with h3 | h3
  ·exact h2 h3
  ·omega
 ·rcases g.new q hq with h1 | h1
  ·exact h.new q h1
  ·exact .inr (zj h.len h1)
theorem Mv.wide {L L' K K':List Nat} {a b:Aa} (h:Mv L L' a b) (h1:∀ q ∈ L,q ∈ K) (h2:∀ q ∈ K',q ∈ K\/q ∈ L'\/a.length<=q):Mv K K' a b:=
 ⟨h.len,fun q hq hn=>h.same q hq fun hm=>hn (h1 q hm),fun q hq=>by
  rcases h2 q hq with e | e | e
  ·exact .inl e
  ·exact (h.new q e).imp (h1 q) id
  ·exact .inr e⟩
theorem Mv.left {L L':List Nat} {a b:Aa} (h:Mv L L' a b) (X:List Nat):Mv (L++X) (L'++X) a b:=
 h.wide (fun q hq=>yf.2 (.inl hq)) fun q hq=>(yf.1 hq).elim (fun e=>.inr (.inl e)) fun e=>.inl (yf.2 (.inr e))
theorem Mv.right {L L':List Nat} {a b:Aa} (h:Mv L L' a b) (X:List Nat):Mv (X++L) (X++L') a b:=
 h.wide (fun q hq=>yf.2 (.inr hq)) fun q hq=>(yf.1 hq).elim (fun e=>.inl (yf.2 (.inl e))) fun e=>.inr (.inl e)
theorem Mv.DH {L L' X:List Nat} {a b:Aa} (h:Mv L L' a b) (hx:∀ q ∈ X,q<a.length) (hd:∀ q ∈ X,q ∉ L):(∀ q ∈ X,b[q]?=a[q]?)/\(∀ q ∈ X,q ∉ L') /\ ∀ q ∈ X,q<b.length:=
 ⟨fun q hq=>h.same q (hx q hq) (hd q hq),fun q hq hm=>(h.new q hm).elim (hd q hq) fun e=>absurd (hx q hq) (Ack.2 e),fun q hq=>yG (hx q hq) h.len⟩
theorem Mv.nil {L':List Nat} {a b:Aa} (h:Mv [] L' a b) (L:List Nat):Mv L (L'++L) a b:=by
 have:=h.left L;rw[Aac] at this;exact this
theorem Be.mv {i:Cd} {a b:Aa} (h:Be i a b):Mv i.l i.l a b:=⟨h.len,h.same,fun _ h=>.inl h⟩
theorem GM.mv {i i':RI} {a b:Aa} (h:GM i i' a b):Mv i.l i'.l a b:=⟨h.len,h.same,h.new⟩
theorem Mv.set {L:List Nat} {q:Nat} (J:Aa) (o:Au) (h:q ∈ L):Mv L L J (J.set q o):=
 ⟨by simp,fun j _ h2=>yc (fun e=>h2 (by rw[<- e]; exact h)),fun _ h=>.inl h⟩
theorem Mv.L5 {L L':List Nat} {a b:Aa} (h:Mv L L' a b) {q:Nat} {o:Au} (hq:a[q]?=some o) (hn:q ∉ L):b[q]?=some o:=(h.same q (Af hq) hn).trans hq
def Ba (J:Aa) (s:Bp) (l:List Int):Prop:=Cq Aj 1 J s l.length (AZ l)\/(l=[] /\ ∃ b cs T w,s=(some ⟨b,0,some 0⟩,0,0)/\J[b]?=some (.cells cs T w))
theorem Ba.Aw {J':Aa} {s:Bp} {l:List Int} (h:Ba J s l) (hq:∀ b ∈ hs s,J'[b]?=J[b]?):Ba J' s l:=by
 rcases h with h | ⟨h0,b,cs,T,w,rfl,hc⟩
 ·exact .inl (h.Aw fun a ha=>hq _ (BN.2 ⟨a,ha,rfl⟩))
 ·exact .inr ⟨h0,b,cs,T,w,rfl,(hq _ (BN.2 ⟨_,rfl,rfl⟩)).trans hc⟩
theorem Ba.lt {s:Bp} {l:List Int} (h:Ba J s l):∀ b ∈ hs s,b<J.length:=by
 intro b hb;obtain ⟨a,ha,rfl⟩:=BN.1 hb;rcases h with h | ⟨h0,b,cs,T,w,rfl,hc⟩
 ·exact h.lt a ha
 ·cases ha; exact Af hc
theorem Ba.app {s:Bp} {l:List Int} (h:Ba J s l) (τ:Aa):Ba (J++τ) s l:=h.Aw fun b hb=>AT (h.lt b hb)
theorem Ba.nil (J:Aa):Ba J (none,0,0) []:=.inl (Cq.nil _ _ _)
theorem Ba.form {s:Bp} {l:List Int} (h:Ba J s l):s=(s.1,l.length,l.length):=by
 rcases h with h | ⟨rfl,b,cs,T,w,rfl,hc⟩
 ·exact h.form
 ·rfl
theorem Ba.ints {lo:Nat} {s:Bp} {l:List Int} (h:Dt lo J s l):Ba J s l:=.inl h.sl
theorem Ba.ld {s:Bp} {l:List Int} (h:Ba J s l) {x:Nat} (hx:x<l.length):∃ b,s.1=some ⟨b,0,none⟩/\Ak .i64 J b x=some (l.getD x 0)/\J[b]?=some (.cells (AZ l) Aj true):=by
 rcases h with (⟨h,_⟩ | ⟨b,rfl,_,_,hc⟩) | ⟨rfl,_⟩
 ·omega
 ·exact ⟨b,rfl,iK hc hx,hc⟩
 ·simp at hx
theorem Ba.first {s:Bp} {l:List Int} (h:Ba J s l):CQ J 1 s.1 l.length=some (AZ l):=by
 rcases h with h | ⟨rfl,b,cs,T,w,rfl,hc⟩
 ·exact h.first
 ·simp[CQ,M9,hc,AZ]
theorem Ba.g {s:Bp} {l:List Int} (h:Ba J s l):Eg J s l:=by
 rcases h with (⟨h,h2,rfl⟩ | ⟨b,rfl,_,_,hc⟩) | ⟨rfl,b,cs,T,w,rfl,hc⟩
 ·have:l=[]:=zV.1 h;subst this;exact ⟨rfl,fun h=>absurd rfl h,fun a ha=>by cases ha⟩
 ·exact ⟨rfl,fun _=>⟨b,_,rfl,hc⟩,fun a ha=>by cases ha; exact ⟨_,_,_,hc,zh _⟩⟩
 ·exact ⟨rfl,fun h=>absurd rfl h,fun a ha=>by cases ha; exact ⟨_,_,_,hc,zh _⟩⟩
theorem GA.mv {J':Aa} {s s':Bp} (g:GA J s J' s'):Mv (hs s) (hs s') J J':=by
 refine ⟨g.len,fun q hq hn=>g.same q hq fun a ha e=>hn (BN.2 ⟨a,ha,e⟩),fun q hq=>?_⟩;rcases g.new with rfl | hw
 ·exact .inl hq
 ·obtain ⟨a,ha,rfl⟩:=BN.1 hq;exact .inr (hw a ha)
theorem Ba.push {s:Bp} {l:List Int} (h:Ba J s l) (x:Int) (T:TypeId) (hl:l.length<=900000):
  ∃ s' J',AF P Aj (s.1,s.2.1,s.2.2) (some ⟨J.length,0,none⟩,1,1) (J++[.cells [.int .i64 x] T true])=some (s',J')/\Ba J' s' (l++[x])/\Mv (hs s) (hs s') J J':=by
 rcases h with h | ⟨rfl,b,cs,U,w,rfl,hc⟩
 ·obtain ⟨s',J',e,g,h'⟩:=Ms rh qX nS rfl rfl (by decide) (by decide) (by decide) J s l.length (AZ l) 1 1 [.int .i64 x] T (by omega) (by decide) rfl h;refine ⟨s',J',e,.inl ?_,g.mv⟩;rw[yi,Lr];exact h'
 ·refine ⟨(some ⟨J.length+1,0,none⟩,1,1),J++[.cells [.int .i64 x] T true]++[.cells [.int .i64 x] Aj true], ?_,.inl (.inr ⟨J.length+1,rfl,zh _,rfl,by simp[AZ]⟩), ?_⟩
  ·have hf:CQ (J++[.cells [.int .i64 x] T true]) 1 (some ⟨J.length,0,none⟩) 1=some [.int .i64 x]:=by simp[CQ,M9]
   have hz:(¬ (Gi (.int .i64 0)=false/\some 1=some (Value.cells (.int .i64 0)).size/\0<(Value.cells (.int .i64 0)).size))=False:=by simp[Gi,Value.cells]
   have r:LR (0+1) 8/\0<8:=by unfold LR; decide
   unfold AF La;simp only[rh,qX,nS,AI,hf,hz,yq,show ¬ (0+1<=0) from by decide,r,Abg,ye,Ie,Ac6,IT,nR,yi,ze,zo,IN]
  ·refine ⟨by simp,fun q hq _=>by rw[ya,AT hq],fun q hq=>.inr ?_⟩;simp[hs] at hq;omega
def Dj (A B:List Nat):Prop:=∀ q ∈ A,q ∉ B
theorem Dj.symm {A B:List Nat} (h:Dj A B):Dj B A:=fun q hq hm=>h q hm hq
structure Fp (J:Aa) (Ls:List (List Nat)):Prop where
 dj:Ls.Pairwise Dj
 lt:∀ L ∈ Ls,∀ q ∈ L,q<J.length
theorem pY {α:Type} {R:α->α->Prop} (hs:∀ a b,R a b->R b a):∀ (l:List α) (x:Nat) (b:α),l.Pairwise R->(∀ y (hy:y<l.length),y≠x->R b l[y])->(l.set x b).Pairwise R
 | [],_,_,_,_=>by simp
 | a::l,0,b,h,hb=>by
   rw[zX];obtain ⟨_,h2⟩:=zB.1 h;refine zB.2 ⟨fun c hc=>?_,h2⟩;obtain ⟨y,hy,rfl⟩:=Acv hc;exact hb (y+1) (by simpa using hy) (by omega)
 | a::l,x+1,b,h,hb=>by
   rw[zW];obtain ⟨h1,h2⟩:=zB.1 h;refine zB.2 ⟨fun c hc=>?_,pY hs l x b h2 fun y hy hne=>hb (y+1) (by simpa using hy) (by omega)⟩;rcases Abj hc with hc | rfl
   ·exact h1 c hc
   ·exact hs _ _ (hb 0 (by simp) (by omega))
theorem pX {α:Type} {R:α->α->Prop} (hs:∀ a b,R a b->R b a) {l:List α} (h:l.Pairwise R) {x y:Nat} (hx:x<l.length) (hy:y<l.length) (hne:y≠x):R l[x] l[y]:=by
 rcases Nat.lt_or_gt_of_ne hne with h' | h'
 ·exact hs _ _ (Abi.1 h y x hy hx h')
 ·exact Abi.1 h x y hx hy h'
theorem Fp.step {Ls:List (List Nat)} {L':List Nat} {J':Aa} (h:Fp J Ls) (x:Nat) (hx:x<Ls.length) (hm:Mv Ls[x] L' J J') (hl:∀ q ∈ L',q<J'.length):
  Fp J' (Ls.set x L')/\(∀ y (hy:y<Ls.length),y≠x -> ∀ q ∈ Ls[y],J'[q]?=J[q]?)/\Mv Ls.flatten (Ls.set x L').flatten J J':=by
 have key:∀ y (hy:y<Ls.length),y≠x->(∀ q ∈ Ls[y],J'[q]?=J[q]?)/\Dj L' Ls[y]:=by
  intro y hy hne;obtain ⟨h1,h2,_⟩:=hm.DH (X:=Ls[y]) (fun q hq=>h.lt _ (yU hy) q hq) (fun q hq hm'=>pX (fun _ _=>Dj.symm) h.dj hy hx (yW hne) q hq hm');exact ⟨h1,fun q hq hm'=>h2 q hm' hq⟩
 refine ⟨⟨pY (fun _ _=>Dj.symm) Ls x L' h.dj fun y hy hne=>(key y hy hne).2,fun L hL q hq=>?_⟩,fun y hy hne=>(key y hy hne).1,hm.wide (fun q hq=>zm.2 ⟨_,yU hx,hq⟩) fun q hq=>?_⟩
 ·rcases Abj hL with hL | rfl
  ·exact yG (h.lt L hL q hq) hm.len
  ·exact hl q hq
 ·obtain ⟨K,hK,hqK⟩:=zm.1 hq;rcases Abj hK with hK | hK
  ·exact .inl (zm.2 ⟨K,hK,hqK⟩)
  ·exact .inr (.inl (hK ▸ hqK))
theorem Fp.app {Ls:List (List Nat)} (h:Fp J Ls) (τ:Aa):Fp (J++τ) Ls:=⟨h.dj,fun L hL q hq=>by have:=h.lt L hL q hq; rw[yi]; omega⟩
theorem Fp.cons {Ls:List (List Nat)} {L:List Nat} {J':Aa} (h:Fp J Ls) (hl:∀ q ∈ L,J.length<=q/\q<J'.length) (hs:J.length<=J'.length):Fp J' (L::Ls):=
 ⟨zB.2 ⟨fun K hK q hq hm=>by have:=h.lt K hK q hm; have:=(hl q hq).1; omega,h.dj⟩,fun K hK q hq=>by
  rcases yL.1 hK with rfl | hK
  ·exact (hl q hq).2
  ·exact yG (h.lt K hK q hq) hs⟩
theorem Fp.nil (J:Aa):Fp J []:=⟨List.Pairwise.nil,fun L hL=>by cases hL⟩
theorem Fp.ne {Ls:List (List Nat)} (h:Fp J Ls) {x y:Nat} (hx:x<Ls.length) (hy:y<Ls.length) (hne:y≠x):Dj Ls[x] Ls[y]:=pX (fun _ _=>Dj.symm) h.dj hx hy hne
theorem Fp.sub {Ls Ks:List (List Nat)} (h:Fp J Ls) (f:List Nat) (hf:f.Nodup) (hlt:∀ x ∈ f,x<Ls.length) (hk:Ks=f.map fun x=>Ls.getD x []):Fp J Ks:=by
 subst hk;have hg:∀ x (hx:x<Ls.length),Ls.getD x []=Ls[x]:=fun x hx=>by rw[yd,yg hx]; rfl
 refine ⟨List.pairwise_map.2 (hf.imp_of_mem fun {a b} ha hb hne=>?_),fun L hL q hq=>?_⟩
 ·rw[hg a (hlt a ha),hg b (hlt b hb)];exact h.ne _ _ (yW hne)
 ·obtain ⟨x,hx,rfl⟩:=zK.1 hL;rw[hg x (hlt x hx)] at hq;exact h.lt _ (yU (hlt x hx)) q hq
end
section
structure DX where
 mu:Nat
 sl:List Int
 gl:List Int
 qu:List Int
def DX.all (r:DX):List Int:=r.sl++r.gl++r.qu
structure DX.ok (r:DX):Prop where
 m1:1<=r.mu
 m4:r.mu<=4
 sl:r.sl.length=16*r.mu
 gl:r.gl.length=16
 qu:r.qu.length<=64
 inn:∀ v ∈ r.all,AK v/\0<=v
def Jr (out:List Int) (a:Int):List Int:=if a=0\/a ∈ out then out else out++[a]
def Eu (r:DX):List Int:=r.all.foldl Jr []
structure TC where
 look:Bool
 born:Int
 ph:Int
 ws:List (BitVec 64)
 list:List Int
 left:List Int
 freed:Int
variable (m:HM) (r:DX) (s:TC)
def F5 (a:Int):Nat:=CR 2 s.ws (a.toNat/2)
def Ij (s:TC) (a:Int) (c:Nat):TC:={ s with ws:=Fm 2 s.ws (a.toNat/2) c }
def Dl (s:TC) (a:Int):TC:=if AU m a=true/\F5 s a=0 then { Ij s a 1 with list:=s.list++[a] } else s
def CA (s:TC) (l:List Int):TC:=l.foldl (Dl m) s
def Ko (a:Int):Bool:=AU m a && decide (F5 s a≠0)
def Bj (a x:Int):Int:=(J0 m a x false).1
def Kq (k:Int) (x:Int):Bool:=(decide (x=0) && (decide (k=1) || decide (k=2))) || (decide (x=1) && decide (k=2))
def Si (a:Int):List Int:=(List.range (Aq m a).1.toNat).map fun (x:Nat)=>Bj m a (x:Int)
def IC (a:Int):List Int:=((List.range (Aq m a).1.toNat).filter fun (x:Nat)=>decide (Bj m a (x:Int)≠0) && !Kq (Aq m a).2.2 (x:Int)).map fun (x:Nat)=>Bj m a (x:Int)
def Un (l:List Int):List Int:=(l.filter fun a=>Ko m s a && decide ((Aq m a).2.2=2) && Ko m s (Bj m a 0)).map fun a=>Bj m a 1
def Ga:List Int:=CK (EY m)
def dZ:TC:=CA m s (Un m s (Ga m))
def TX (a k:Int):Nat->Nat->HM->HM
 | 0,_,m=>m
 | n+1,x,m=>TX a k n (x+1) (if Bj m a (x:Int)≠0/\Kq k (x:Int)=true then (Cv m a (x:Int) 0).2 else m)
def oU (a:Int):HM:=
 if (Aq m a).2.2≠1/\(Aq m a).2.2≠2 then m
 else if Bj m a 0≠0/\Ko m s (Bj m a 0)=true then m
 else TX a (Aq m a).2.2 (Aq m a).1.toNat 0 m
def Sy (l:List Int):HM:=l.foldl (fun m a=>if Ko m s a then oU m s a else m) m
def XB:List Int:=((List.range m.bls.length).filter fun (b:Nat)=>decide (Cb m (b:Int)=1\/Cb m (b:Int)=2)).map fun (b:Nat)=>(b:Int)
def YY:HM × TC:=
 let s1:=if s.look then CA m s (Eu r) else s
 let s2:=dZ m s1
 if s2.list≠[] then (m,s2)
 else
  let m':=Sy m s2 (Ga m)
  (m',{ s2 with left:=s2.left++XB m',ph:=2 })
def N4 (ws:List (BitVec 64)):List Int->HM × Int->HM × Int
 | [],q=>q
 | a::l,q=>N4 ws l (if CR 2 ws (a.toNat/2)=0 then ((Ig q.1 a).2,Ar (q.2+1)) else q)
def WL (ws:List (BitVec 64)):Nat->Nat->List (BitVec 64)
 | 0,_=>ws
 | n+1,x=>WL (Fm 2 ws x 0) n (x+1)
def TB (n:Nat) (s:TC):TC:=if s.left=[] then { s with ws:=WL s.ws n 0,ph:=0 } else s
def ZC:HM × TC:=
 match s.left with
 | []=>(m,TB (32*m.bls.length) s)
 | b::l=>
   let q:=N4 s.ws (CK (Jy m b)) (m,s.freed)
   ((Di q.1 b).2,TB (32*m.bls.length) { s with left:=l,freed:=q.2 })
def mU:TC:=
 match s.list with
 | []=>s
 | a::l=>
   if AU m a then Ij (CA m { s with list:=l } (IC m a)) a 2 else { s with list:=l }
def Jq:HM × TC:=
 if s.ph=2 then ZC m s
 else if s.list≠[] then (m,mU m s)
 else YY m r s
def Cz (r:DX):Nat->HM × TC->Nat × HM × TC
 | 0,q=>(0,q)
 | n+1,q=>if q.2.ph=0 then (0,q) else
   let z:=Cz r n (Jq q.1 r q.2)
   (z.1+1,z.2)
theorem SJ (r:DX):∀ (a c:Nat) (q:HM × TC),Cz r (a+c) q=((Cz r a q).1+(Cz r c (Cz r a q).2).1,(Cz r c (Cz r a q).2).2)
 | 0,c,q=>by simp[Cz]
 | a+1,c,q=>by
   rw[show a+1+c=(a+c)+1 from by omega,Cz,Cz];by_cases h:q.2.ph=0
   ·rw[yk h,yk h];cases c with
    | zero=>simp[Cz]
    | succ c=>simp[Cz,h]
   ·rw[ym h,ym h,SJ r a c];simp only[Nat.add_right_comm]
def OK:TC:=CA m { s with freed:=0,ph:=1 } (Eu r)
def OJ:Bool:=(Eu r).all (fun a=>decide (a=0) || AU m a) && (Ga m).all fun a=>(Si m a).all fun v=>decide (v=0) || AU m v
def Tt (n:Nat) (look:Bool) (born:Int):TC:=⟨look,born,0,List.replicate ((32*n*2+63)/64) 0#64,[],[],0⟩
end
section
variable {m:HM} {r:DX}
def M7 (m:HM):Prop:=∀ j,Start m j -> ∀ x:Nat,(x:Int)<Av m j->m.wds.getD (2*j+2+x) 0=0
def Ox (m:HM):Prop:=∀ j,Start m j -> ∀ x:Nat,(x:Int)<Av m j->m.wds.getD (2*j+2+x) 0=0\/AU m (m.wds.getD (2*j+2+x) 0)=true
theorem M7.s (h:M7 m):Ox m:=fun j hs x hx=>.inl (h j hs x hx)
def OO (m:HM) (r:DX):Prop:=∀ v ∈ r.all,v=0\/AU m v=true
theorem Wu {m':HM} (hl:m'.bls.length=m.bls.length) (hs:m'.stw=m.stw) (j:Nat):Start m' j↔Start m j:=by unfold Start; rw[hl,hs]
theorem YR {m':HM} (hl:m'.bls.length=m.bls.length) (hs:m'.stw=m.stw) (a:Int):AU m' a=AU m a:=by
 unfold AU; simp only[Wu hl hs]
theorem M7.Aw {m':HM} (h:M7 m) (hl:m'.bls.length=m.bls.length) (hs:m'.stw=m.stw) (hw:m'.wds=m.wds):M7 m':=by
 intro j hj x hx;rw[hw];exact h j ((Wu hl hs j).1 hj) x (by unfold Av at hx ⊢; rw[hw] at hx; exact hx)
theorem Ox.Aw {m':HM} (h:Ox m) (hl:m'.bls.length=m.bls.length) (hs:m'.stw=m.stw) (hw:m'.wds=m.wds):Ox m':=by
 intro j hj x hx;rw[hw,YR hl hs];exact h j ((Wu hl hs j).1 hj) x (by unfold Av at hx ⊢; rw[hw] at hx; exact hx)
theorem OO.Aw {m':HM} (h:OO m r) (hl:m'.bls.length=m.bls.length) (hs:m'.stw=m.stw):OO m' r:=fun v hv=>by rw[YR hl hs]; exact h v hv
theorem Nm (m:HM) (b c x y x' y':Int):(Bs m b c x y x' y').2.wds=m.wds/\(Bs m b c x y x' y').2.stw=m.stw/\(Bs m b c x y x' y').2.bls.length=m.bls.length/\(Bs m b c x y x' y').2.births=m.births:=by
 unfold Bs;split
 ·split
  ·exact ⟨rfl,rfl,by rw[yZ,Iw],rfl⟩
  ·exact ⟨rfl,rfl,rfl,rfl⟩
 ·exact ⟨rfl,rfl,rfl,rfl⟩
theorem M7.Yy (h:M7 m) (b c x y x' y':Int):M7 (Bs m b c x y x' y').2:=by
 obtain ⟨e1,e2,e3,_⟩:=Nm m b c x y x' y';exact h.Aw e3 e2 e1
theorem M7.new (n:Nat):M7 (I6 n):=fun j hs=>absurd hs (aX n j)
theorem M7.place (h:M7 m) (hI:Inv m) (hI2:Inv2 m) (hS:Sh m) (a r d c:Int):M7 (CF m a r d c).2.2:=by
 unfold CF;cases hv:valid r d c with
 | false=>exact h
 | true=>
   simp only[ye];by_cases hf:KO m a (NH (num r d c)) (-1)=0;rotate_left
   ·rw[ym hf]; exact h
   rw[yk hf];have hw2:2<=NH (num r d c):=by
    have hv':=hv;rw[Jp hv];simp[valid] at hv';omega
   obtain ⟨j,rfl,hj,hfit,hap⟩:=hI.fits hS.wl (Wv _) hw2 hf;rw[show ((2*j:Nat):Int).toNat/2=j from by omega];have hap':∀ o,Start m o->2*o+sz m o<=2*j\/2*j+NH (num r d c)<=2*o:=fun o ho=>hap o ho (by omega);obtain ⟨p1,p2,p3,_⟩:=Je hv;have hsz:=Jp hv;have hv':=hv;simp[valid] at hv';intro o ho x hx;rcases (Is hS.sl hj).1 ho with rfl | ho'
   ·have hr:Av (C9 m o (num r d c)) o=r:=by
     unfold Av; rw[Hz hS hj,yk rfl,p1]
    rw[hr] at hx;rw[Hz hS hj,ym (by omega),ym (by omega)];refine hI2.zero _ fun y hy q1 q2=>?_;have:=hap' y hy;have:=hI.use hy;omega
   ·have hu:=hI.use ho';have hap2:=hap' o ho';have hne:o≠j:=by
     rintro rfl;omega
    have hr:Av (C9 m j (num r d c)) o=Av m o:=by
     unfold Av; rw[Hz hS hj,ym (by omega),ym (by omega)]
    rw[hr] at hx;obtain ⟨_,r1,r2,r3,r4,_⟩:=Ot hI ho';rw[Hz hS hj,ym (by omega),ym (by omega)];exact h o ho' x hx
theorem mE (hI:Inv m) (hS:Sh m) {j y:Nat} (hs:Start m j) (hy:Start m y) (hne:y≠j):Av (Ir m j) y=Av m y/\Cr (Ir m j) y=Cr m y /\ ∀ x:Nat,(x:Int)<Av m y->(Ir m j).wds.getD (2*y+2+x) 0=m.wds.getD (2*y+2+x) 0:=by
 have hz:=hI.size hy;have e:(Ir m j).wds.getD (2*y+1) 0=m.wds.getD (2*y+1) 0:=N3 hI hs hy hne (by omega) (by omega);refine ⟨by unfold Av; rw[e],by unfold Cr; rw[e],fun x hx=>N3 hI hs hy hne (by omega) (by omega)⟩
theorem M7.kill (h:M7 m) (hI:Inv m) (hS:Sh m) (a:Int):M7 (Ig m a).2:=by
 unfold Ig;cases hh:AU m a with
 | false=>exact h
 | true=>
   obtain ⟨j,rfl,hs⟩:=Bd hh;rw[yk rfl,show ((2*j:Nat):Int).toNat/2=j from by omega];show M7 (Ir m j);intro y hy x hx;obtain ⟨hne,hy'⟩:=(LU hS.sl hs.1).1 hy;obtain ⟨e1,_,e2⟩:=mE hI hS hs hy' hne;rw[e1] at hx;show (Ir m j).wds.getD _ 0=0;rw[e2 x hx];exact h y hy' x hx
theorem Ox.setRef (h:Ox m) (hI:Inv m) (a x v:Int):Ox (Cv m a x v).2:=by
 unfold Cv;by_cases hf:(B9 m a x false).2=0;rotate_left
 ·rw[ym hf]; exact h
 rw[yk hf];by_cases hv:v≠0/\AU m v=false
 ·rw[yk hv]; exact h
 rw[ym hv];have hv':v=0\/AU m v=true:=by
  by_cases h0:v=0
  ·exact .inl h0
  ·refine .inr ?_;cases hh:AU m v with
   | true=>rfl
   | false=>exact absurd ⟨h0,hh⟩ hv
 obtain ⟨j,t,hs,rfl,hw,hu,ht⟩:=Qe (w:=(B9 m a x false).1) hI (Ac5 rfl hf);rw[hw,xQ];have hus:=hI.use hs;have key:=Vx hI hs (t:=t) (by omega) v;intro y hy z hz;have hy':Start m y:=hy;have e1:Av (Gz m (2*j+2+t) v) y=Av m y:=by unfold Av; rw[key y hy' 1 (by decide)]
 rw[e1] at hz;have hh:∀ q,AU (Gz m (2*j+2+t) v) q=AU m q:=fun q=>rfl;rw[hh];show (m.wds.set _ _).getD _ 0=0\/AU m ((m.wds.set _ _).getD _ 0)=true;rw[Ca];split
 ·exact hv'
 ·exact h y hy' z hz
theorem OH (m:HM) (a x v:Int):(Cv m a x v).2.bls=m.bls/\(Cv m a x v).2.stw=m.stw/\(Cv m a x v).2.births=m.births/\(Cv m a x v).2.fw=m.fw/\(Cv m a x v).2.pnw=m.pnw:=by
 unfold Cv;split
 ·split <;> exact ⟨rfl,rfl,rfl,rfl,rfl⟩
 ·exact ⟨rfl,rfl,rfl,rfl,rfl⟩
theorem Wh (m:HM) (a:Int) (v:Nat):(Lv m a v).2.bls=m.bls/\(Lv m a v).2.stw=m.stw/\(Lv m a v).2.wds=m.wds/\(Lv m a v).2.births=m.births/\(Lv m a v).2.fw=m.fw:=by
 unfold Lv;split <;> exact ⟨rfl,rfl,rfl,rfl,rfl⟩
theorem Ox.Wg (h:Ox m) (a:Int) (v:Nat):Ox (Lv m a v).2:=by
 obtain ⟨e1,e2,e3,_⟩:=Wh m a v;exact h.Aw (by rw[e1]) e2 e3
theorem cJ (hI:Inv m) {j x:Nat} (hs:Start m j) (hx:(x:Int)<Av m j):Bj m ((2*j:Nat):Int) (x:Int)=m.wds.getD (2*j+2+x) 0:=by
 unfold Bj J0;rw[Qd hI hs hx,yk rfl,xQ]
theorem JC {j:Nat} (hs:Start m j):Aq m ((2*j:Nat):Int)=(Av m j,Bf m j,Cr m j):=by
 unfold Aq;rw[yk (Fi hs),show ((2*j:Nat):Int).toNat/2=j from by omega]
theorem Wc (v:Int):∀ (l out:List Int),v ∈ l.foldl Jr out->v ∈ out\/v ∈ l
 | [],out,h=>.inl h
 | a::l,out,h=>by
   rcases Wc v l (Jr out a) h with h | h
   ·unfold Jr at h;split at h
    ·exact .inl h
    ·rcases yf.1 h with h | h
     ·exact .inl h
     ·rw[yP.1 h]; exact .inr zi
   ·exact .inr (yJ _ h)
theorem qK (hI:Inv m) (h:Ox m) (hr:OO m r):OJ m r=true:=by
 unfold OJ;rw[zn];constructor
 ·rw[Aay];intro v hv;rcases Wc v r.all [] hv with h | h
  ·cases h
  ·rcases hr v h with h0 | h0 <;> simp[h0]
 ·rw[Aay];intro a ha;unfold Ga CK at ha;obtain ⟨j,hj,rfl⟩:=zK.1 ha;have hs:=Dh.1 hj;rw[Aay];intro v hv;unfold Si at hv;rw[JC hs] at hv;obtain ⟨x,hx,rfl⟩:=zK.1 hv;have hx:=List.mem_range.1 hx;obtain ⟨_,r1,_⟩:=Ot hI hs;dsimp only at hx;rw[cJ hI hs (by omega)];rcases h j hs x (by omega) with h0 | h0
  ·rw[h0]; rfl
  ·rw[h0,Bool.or_true]
def Xj (m:HM) (n:Nat):Int:=if EY m=[] then 0 else (CK (EY m)).getD (n % (EY m).length) 0
theorem oI (m:HM) (n:Nat):Xj m n=0\/AU m (Xj m n)=true:=by
 unfold Xj;split
 ·exact .inl rfl
 ·rename_i h;have hl:n % (EY m).length<(EY m).length:=Aaq _ (Aba.2 h);rw[Nj _ hl];exact .inr (Fi (Dh.1 (yU hl)))
end
section
variable {J:Aa}
def Holds (J:Aa) (p:Option Addr) (l:List Int):Prop:=CQ J 1 p l.length=some (AZ l)/\((∃ a,p=some a)\/l=[])
theorem YH {J:Aa} {p:Option Addr} {n:Nat} {row:List Value} (τ:Aa) (h:CQ J 1 p n=some row):CQ (J++τ) 1 p n=some row:=by
 cases p with
 | none=>exact h
 | some a=>
   simp only[CQ,M9] at h ⊢;cases e:J[a.block]? with
   | none=>rw[e] at h; cases h
   | some o=>rw[AT (Af e),e]; rw[e] at h; exact h
theorem UO (k:Nat) (p:Option Addr) (c:Nat) (l:List Int) (hl:l.length<=100000) (h:Holds J p l):
  ∃ s τ,Bw (k+1) (p,l.length,c) J=some (.slice s.1 s.2.1 s.2.2,J++τ)/\Ba (J++τ) s l /\ ∀ b ∈ hs s,J.length<=b:=by
 rw[QZ];cases p with
 | none=>
   have hl0:l=[]:=by
    rcases h.2 with ⟨a,ha⟩ | h
    ·cases ha
    ·exact h
   subst hl0;refine ⟨(none,0,0),[], ?_,.inl (Cq.nil _ _ _),fun b hb=>by simp[hs] at hb⟩;rw[show ([]:List Int).length=0 from rfl];rw[show ∀ n c,J9 P Gt (.slice none n c) (.slice none 0 0)=some true from fun n c=>by kernel_rfl];simp only[AI,IT,yw]
 | some a=>
   have hf:=YH [Au.cells [] Aj true] h.1;obtain ⟨s',τ,e,h1,h2⟩:=Rl rh qX nS rfl rfl (by decide) (by decide) (by decide) J (some a) l.length c hl (AZ l) (by rw[C8,yH]) hf;simp only[xz,AI,By,Ae,e];refine ⟨s',[Au.cells [] Aj true]++τ,by rw[<- ya], ?_, ?_⟩
   ·by_cases h0:l.length=0
    ·have hl0:l=[]:=zV.1 h0;refine .inr ⟨hl0,J.length,[],Aj,true,h2 h0, ?_⟩;rw[yD (yj _)]; simp
    ·obtain ⟨q1,q2⟩:=h1 (by omega);refine .inl (.inr ⟨J.length+1,q1,zh _,by rw[C8,yH], ?_⟩);rw[<- ya]; exact q2
   ·intro b hb;by_cases h0:l.length=0
    ·rw[h2 h0] at hb; simp[hs] at hb; omega
    ·rw[(h1 (by omega)).1] at hb; simp[hs] at hb; omega
theorem Ba.holds {s:Bp} {l:List Int} (h:Ba J s l):Holds J s.1 l:=by
 refine ⟨h.first, ?_⟩;rcases h with (⟨h,_,rfl⟩ | ⟨b,rfl,_⟩) | ⟨rfl,b,cs,T,w,rfl,hc⟩
 ·exact .inr (zV.1 h)
 ·exact .inl ⟨_,rfl⟩
 ·exact .inr rfl
theorem Ba.tail {s:Bp} {a:Int} {l:List Int} (h:Ba J s (a::l)):∃ p c,F8 Aj 1 (s.1,(a::l).length,(a::l).length) (some (.int .i64 (1:Int))) none none J=some (p,l.length,c)/\Holds J p l:=by
 rcases h with h | ⟨h,_⟩
 ·obtain ⟨p,c,e1,e2⟩:=U7 h 1 (a::l).length (by simp) (yj _) (some (.int .i64 ((1:Nat):Int))) none (.inl rfl) (.inr ⟨rfl,rfl⟩);have hn:(a::l).length-1=l.length:=by simp
  rw[hn] at e1 e2;refine ⟨p,c,e1, ?_, ?_⟩
  ·rw[e2];simp only[AZ,zD,yH,Ad2,Ab7,yV];rw[zp (by simp)]
  ·cases p with
   | some a=>exact .inl ⟨_,rfl⟩
   | none=>
     right;cases l with
     | nil=>rfl
     | cons b l=>
       exfalso;simp only[CQ,ze] at e2;rw[ym (by omega)] at e2;cases e2
 ·cases h
theorem W2 (k:Nat) {s:Bp} {l:List Int} (h:Ba J s l) (hl:l.length<=1000000) (v:Int):∀ (n x f:Nat),x+n=l.length->n<f ->
  ∃ o,Es k f s.1 l.length l.length v ((l.length:Nat):Int) (x:Int) J=some o/\(v ∈ l.drop x -> ∃ y:Nat,o=(.ret,[.int .i64 (y:Int)],J))/\(v ∉ l.drop x->o=(.exit 0,[],J))
 | n,x,0,hx,hf=>by omega
 | 0,x,f+1,hx,hf=>by
   rw[H7];simp only[xY (show ¬ (x:Int)<((l.length:Nat):Int) by omega),By];refine ⟨_,rfl,fun hm=>?_,fun _=>rfl⟩;rw[yS (by omega)] at hm;cases hm
 | n+1,x,f+1,hx,hf=>by
   obtain ⟨b,e,l1,_⟩:=h.ld (x:=x) (by omega);have qx:(0<=(x:Int)/\(x:Int)<((l.length:Nat):Int))=True:=zl (by omega);have w1:Ar ((x:Int)+1)=((x+1:Nat):Int):=Ah (by unfold AK; omega);obtain ⟨o,e2,h1,h2⟩:=W2 k h hl v n (x+1) f (by omega) (by omega);have hd:l.drop x=l.getD x 0::l.drop (x+1):=by
    rw[yO (by omega),yd,yg (by omega)]; rfl
   rw[H7];simp only[xZ (show (x:Int)<((l.length:Nat):Int) by omega),IT,qx,ye,e,AI,xQ,yH,IN,l1,w1];by_cases q:v=l.getD x 0
   ·rw[show (v == l.getD x 0)=true from zJ.2 q];simp only[IT];exact ⟨_,rfl,fun _=>⟨x,rfl⟩,fun hm=>absurd (by rw[hd,q]; exact zi) hm⟩
   ·rw[show (v == l.getD x 0)=false from yM.2 q];rw[e] at e2;simp only[By,e2];refine ⟨o,rfl,fun hm=>h1 ?_,fun hm=>h2 fun hn=>hm (by rw[hd]; exact yJ _ hn)⟩;rw[hd] at hm;rcases yL.1 hm with hm | hm
    ·exact absurd hm q
    ·exact hm
theorem Wx (k:Nat) {s:Bp} {l:List Int} (h:Ba J s l) (hl:l.length<=1000000) (hk:l.length<k) (v:Int):Co (k+2) (s.1,s.2.1,s.2.2) v J=some (.bool (decide (v ∈ l)),J):=by
 obtain ⟨o,e,h1,h2⟩:=W2 (k) h hl v l.length 0 k (by omega) hk;rw[show ((0:Nat):Int)=0 from rfl] at e;rw[Ki,LA];have hf:=h.form;have e1:s.2.1=l.length:=by rw[hf]
 have e2:s.2.2=l.length:=by rw[hf]
 simp only[e1,e2,e,AI];rw[yV] at h1 h2;by_cases hm:v ∈ l
 ·obtain ⟨y,rfl⟩:=h1 hm;rw[xZ hm];simp only[reduceCtorEq,yq,ye,D7,AI,Ag];rw[xZ (show (y:Int)>=0 by omega)]
 ·rw[h2 hm,xY hm];simp only[ye,AI,Ag];rfl
theorem cV (k:Nat) (hk:10<=k) {e:Nat} (h0:0<e) (h1:e<=4096) (J:Aa):∃ τ tb wb,Iy (k+4) (e:Int) 2 J=some (.tuple #[.pointer (some ⟨tb,0,none⟩),.int .i64 0],J++τ) /\
  Dv (J++τ) tb wb e 2 (List.replicate ((e*2+63)/64) 0#64)/\J.length<=tb/\J.length<=wb/\tb≠wb:=by
 obtain ⟨Z,hμ⟩:∃ Z,J++[Au.cells [Value.int .i64 1,.int .i64 2,.int .i64 4,.int .i64 8] Aj true]=Z:=⟨_,rfl⟩;have hl:Z.length=J.length+1:=by rw[<- hμ]; simp
 have hA:Ba Z (some ⟨J.length,0,none⟩,4,4) [1,2,4,8]:=.inl (.inr ⟨J.length,rfl,by decide,rfl,by rw[<- hμ]; simp[AZ]⟩);have hC:Co (k+3) (some ⟨J.length,0,none⟩,4,4) 2 Z=some (.bool true,Z):=Wx (k+1) hA (by decide) (by simp; omega) 2;rw[T8];simp only[show decide ((e:Int)<1)=false from xY (by omega),By,show decide ((e:Int)>4096)=false from xY (by omega),AI,Ae,hμ,hC,Ao,yp];have e1:Ar ((e:Int)*2)=((e*2:Nat):Int):=by rw[Ah (by unfold AK; omega)]; omega
 have e2:Ar (((e*2:Nat):Int)+64)=((e*2+64:Nat):Int):=Ah (by unfold AK; omega);have e3:Ar (((e*2+64:Nat):Int)-1)=((e*2+63:Nat):Int):=by rw[Ah (by unfold AK; omega)]; omega
 have e4:((e*2+63:Nat):Int).tdiv 64=(((e*2+63)/64:Nat):Int):=rfl;have e5:Ar (((e*2+63)/64:Nat):Int)=(((e*2+63)/64:Nat):Int):=Ah (by unfold AK; omega);simp only[e1,e2,e3,e4,e5,show ((64:Int)=0)=False from by simp,yq];rw[yk (by omega)];simp only[xQ,kC];refine ⟨[Au.cells [Value.int .i64 1,.int .i64 2,.int .i64 4,.int .i64 8] Aj true,.cells (rowOf (List.replicate ((e*2+63)/64) 0#64)) Bq true,.cells [.int .i64 (e:Int),.int .i64 2,.slice (some ⟨J.length+1,0,none⟩) ((e*2+63)/64) ((e*2+63)/64)] Mf true],J.length+2,J.length+1, ?_, ?_,by omega,by omega,by omega⟩
 ·rw[<- hμ]; simp
 ·refine ⟨?_, ?_,by simp,h0,h1,.inr (.inl rfl)⟩
  ·simp
  ·simp
theorem gM (k:Nat) {tb wb e w:Nat} {ws:List (BitVec 64)} (h:Dv J tb wb e w ws):DG (k+2) (some ⟨tb,0,none⟩) J=some (.int .i64 (e:Int),J):=by
 rw[OY];simp only[Vc k h,AI,Ao,yp,By,IN,yl,h.uY]
theorem XM (k:Nat) {tb wb e:Nat} (hne:tb≠wb):∀ (n x f:Nat) (J:Aa) (ws:List (BitVec 64)),Dv J tb wb e 2 ws->x+n=e->n<f ->
  ∃ J',EP (k+3) f (some ⟨tb,0,none⟩) (0:Int) (0:Int) (e:Int) (x:Int) J=some (.exit 0,[],J')/\Dv J' tb wb e 2 (WL ws n x)/\Mv [wb] [wb] J J'
 | n,x,0,J,ws,h,hx,hf=>by omega
 | 0,x,f+1,J,ws,h,hx,hf=>by
   rw[KK];simp only[xY (show ¬ (x:Int)<(e:Int) by omega),By];exact ⟨J,rfl,h,Mv.refl _ _⟩
 | n+1,x,f+1,J,ws,h,hx,hf=>by
   have ht:=h.top;have w0:Ar (0+(x:Int))=(x:Int):=by rw[Ah (by unfold AK; omega)]; omega
   have w1:Ar ((x:Int)+1)=((x+1:Nat):Int):=Ah (by unfold AK; omega);have hp:=pV (k+1) h (j:=x) (v:=0) (by omega);rw[show ((0:Nat):Int)=0 from rfl] at hp;obtain ⟨J',e',h',m'⟩:=XM k hne n (x+1) f _ _ (h.put hne x 0) (by omega) (by omega);rw[KK];simp only[xZ (show (x:Int)<(e:Int) by omega),IT,w0,w1,hp,AI,Gs,e'];exact ⟨J',rfl,h',(Mv.set J _ (yP.2 rfl)).trans m'⟩
theorem rj (k:Nat) (hk:5000<=k) {tb wb e:Nat} (hne:tb≠wb) {ws:List (BitVec 64)} (h:Dv J tb wb e 2 ws):
  ∃ J',Fh (k+9) (some ⟨tb,0,none⟩) (0:Int) (e:Int) (0:Int) J=some (.int .i64 0,J')/\Dv J' tb wb e 2 (WL ws e 0)/\Mv [tb,wb] [tb,wb] J J':=by
 have hp:=h.pos;have ht:=h.top;have h1:=h.app [.cells [.int .i64 (0:Int)] Aj true];obtain ⟨τ,hc⟩:=dU k h1 (0:Int) (0:Int) J.length (by simp[Ak,D5,Bn]) (by simp);have h2:=h1.app τ;obtain ⟨J',e',h',m'⟩:=XM (k+5) hne e 0 (k+8) _ _ h2 (by omega) (by omega);rw[show ((0:Nat):Int)=0 from rfl] at e';have w0:Ar ((e:Int)-0)=(e:Int):=by rw[Ah (by unfold AK; omega)]; omega
 refine ⟨J', ?_,h',(((Mv.app [wb] J _).trans (Mv.app [wb] _ τ)).trans m').wide (fun q hq=>yJ _ hq) fun q hq=>.inl hq⟩;rw[R9];simp only[Ae];rw[hc,yk (by have:=Acs 2; omega)];simp only[AI,Ag,yr,By,xY (show ¬ (e:Int)<1 by omega),IN,yl,h2.uY,w0,xY (show ¬ (e:Int)>(e:Int) by omega),e',ye]
end
end
end Go.Proofs.YtjbledomkmdkmaaGreat
