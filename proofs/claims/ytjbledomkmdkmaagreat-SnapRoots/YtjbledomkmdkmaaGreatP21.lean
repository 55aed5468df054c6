/- Looks at a heap: Blocks, State, Space, Shape, Ref, Data, Pinned, Forward; slices that grow.; Clone.; Block 0; used blocks; objects of a used block; Li -/
import Derived.Test.YtjbledomkmdkmaaGreatP20
set_option linter.unusedVariables false
set_option linter.unusedSimpArgs false
set_option linter.unusedSectionVars false
namespace Go.Proofs.YtjbledomkmdkmaaGreat
open Go Go.AX
noncomputable section
section
local instance xR:AA:=Ap
variable {J:Aa} {i:Cd} {m:HM}
theorem Gm (k:Nat) (h:Ai J i m):Ax (k+2) (AM i) J=some (.int .i64 ((m.bls.length:Nat):Int),J):=by
 rw[QA,IM _ h];simp only[AI,Ao,yp,By,IN,yl,h.GK]
theorem dH (k:Nat) (h:Ai J i m) {b:Nat} (hb:b<m.bls.length):Bb (k+3) (AM i) (b:Int) J=some (.int .i64 (m.bls.getD b (0,0)).1,J):=by
 rw[Mm];have q1:decide ((b:Int)<0)=false:=xY (by omega);have q2:decide ((b:Int)>=((m.bls.length:Nat):Int))=false:=xY (by omega);simp only[q1,By,Gm _ h,AI,Ag,q2,IN,yl,h.GK];rw[yk (by omega)];simp only[AI,xQ,IN,(h.Tq hb).1]
theorem Yj (k:Nat) (h:Ai J i m) {b:Nat} (hb:b<m.bls.length):Bt (k+3) (AM i) (b:Int) J=some (.int .i64 (m.bls.getD b (0,0)).2,J):=by
 rw[Ju];have q1:decide ((b:Int)<0)=false:=xY (by omega);have q2:decide ((b:Int)>=((m.bls.length:Nat):Int))=false:=xY (by omega);simp only[q1,By,Gm _ h,AI,Ag,q2,IN,yl,h.GK];rw[yk (by omega)];simp only[AI,xQ,IN,(h.Tq hb).2]
def cy (m:HM) (a:Int):Bool:=AU m a && decide (CR 1 m.pnw (a.toNat/2)=1)
theorem lg (k:Nat) (h:Ai J i m) (a:Int) (ha:AK a):FE (k+5) (AM i) a J=some (.bool (cy m a),J):=by
 have ht:=h.nt;rw[QB,Rb _ h a ha];simp only[AI,Ao];unfold cy;cases hh:AU m a with
 | false=>simp only[By,AI,Acd]
 | true=>
   obtain ⟨j,rfl,hs⟩:=Bd hh;have hj:=hs.1;have t1:((2*j:Nat):Int).tdiv 2=(j:Int):=by
    rw[show ((2*j:Nat):Int).tdiv 2=(((2*j)/2:Nat):Int) from rfl]; omega
   have e1:Ar (j:Int)=(j:Int):=Ah (by unfold AK; omega);have hG:Dp (k+4) (some ⟨i.pn,0,none⟩) (j:Int) J=some (.int .i64 (CR 1 m.pnw j:Int),J):=by
    have:=gN (k+1) h.pn (j:Int);rw[yk (by omega),xQ] at this;exact this
   have hb:(((CR 1 m.pnw j:Nat):Int) == 1)=decide (CR 1 m.pnw j=1):=by
    by_cases hq:CR 1 m.pnw j=1
    ·simp[hq]
    ·have:¬ ((CR 1 m.pnw j:Nat):Int)=1:=by omega
     simp[hq,this]
   simp only[IT,IN,h.ZJ,AI,show ((2:Int)=0)=False from by simp,yq,t1,e1,hG,Ag,Abm,show ((2*j:Nat):Int).toNat/2=j from by omega,hb]
def Cr (m:HM) (j:Nat):Int:=(m.wds.getD (2*j+1) 0).tdiv 4096
theorem o9 (k:Nat) (h:Ai J i m) {j:Nat} (hs:Start m j):∃ τ,AN (k+6) (AM i) ((2*j:Nat):Int) J=some (.tuple #[.agg #[.int .i64 (Av m j),.int .i64 (Bf m j),.int .i64 (Cr m j)],.int .i64 0],J++τ):=by
 have hw:=h.wl;have ht:=h.nt;have hj:=hs.1;rw[Ml];simp only[Ae];have h1:=h.app [Au.cells [Value.int .i64 0,.int .i64 0,.int .i64 0] Ad true];obtain ⟨τ,hsh⟩:=Z7 (k+4) (m.wds.getD (2*j+1) 0) (h.wi _) (J++[Au.cells [Value.int .i64 0,.int .i64 0,.int .i64 0] Ad true]);have e1:Ar (((2*j:Nat):Int)+1)=((2*j+1:Nat):Int):=Ah (by unfold AK; omega);simp only[MZ _ h1 _ (show AK ((2*j:Nat):Int) by unfold AK; omega),Qg hs,ye,AI,Ag,yr,By,IN,h1.E6,e1,xQ,yH];rw[yk (by omega)];simp only[h1.pD (show 2*j+1<m.wds.length by omega),AI,hsh,HG];rw[show ((m.wds.getD (2*j+1) 0).tmod 4096).tdiv 16=Bf m j from rfl,show (m.wds.getD (2*j+1) 0).tmod 16=Av m j from rfl,show (m.wds.getD (2*j+1) 0).tdiv 4096=Cr m j from rfl];refine ⟨[Au.cells [.int .i64 (Av m j),.int .i64 (Bf m j),.int .i64 (Cr m j)] Ad true]++τ, ?_⟩;have e2:∀ x y z u v w:Value,H2 (J++[Au.cells [x,y,z] Ad true]++τ) J.length 0 [u,v,w]=some (J++[Au.cells [u,v,w] Ad true]++τ):=by
  intro x y z u v w; simp[H2,AP]
 have e3:∀ u v w:Value,M9 (J++[Au.cells [u,v,w] Ad true]++τ) J.length 0 3=some [u,v,w]:=by
  intro u v w; simp[M9]
 rw[<- ya];simp only[e2,AI,e3,KR]
theorem Qd (h:Inv m) {j x:Nat} (hs:Start m j) (hx:(x:Int)<Av m j):B9 m ((2*j:Nat):Int) (x:Int) false=(((2*j+2+x:Nat):Int),0):=by
 unfold B9;rw[Qg hs];simp only[ye,show ((2*j:Nat):Int).toNat/2=j from by omega,y8,yq];rw[yk (by omega)];congr 1
theorem ey (h:Inv m) {j x:Nat} (hs:Start m j) (hx:(x:Int)<Bf m j):B9 m ((2*j:Nat):Int) (x:Int) true=(((2*j+2+(Av m j).toNat+x:Nat):Int),0):=by
 have:=h.size hs;unfold B9;rw[Qg hs];simp only[ye,show ((2*j:Nat):Int).toNat/2=j from by omega];rw[yk (by omega)];congr 1;omega
theorem LV (m:HM) (lo n:Nat):(D6 m lo n).length<=n:=by
 have:(D6 m lo n).length<=(List.range' lo n).length:=Aaj _ _;simpa using this
structure GA (J:Aa) (s:Bp) (J':Aa) (s':Bp):Prop where
 len:J.length<=J'.length
 same:∀ q,q<J.length->(∀ a,s.1=some a->a.block≠q)->J'[q]?=J[q]?
 new:s'=s \/ ∀ a,s'.1=some a->J.length<=a.block
theorem GA.refl (J:Aa) (s:Bp):GA J s J s:=⟨yj _,fun _ _ _=>rfl,.inl rfl⟩
theorem GA.app (J:Aa) (s:Bp) (τ:Aa):GA J s (J++τ) s:=⟨by simp,fun q hq _=>AT hq,.inl rfl⟩
theorem GA.trans {a b c:Aa} {s t u:Bp} (h:GA a s b t) (g:GA b t c u):GA a s c u:=by
 refine ⟨zj h.len g.len,fun q hq hn=>?_, ?_⟩
 ·refine (g.same q (yG hq h.len) fun x hx=>?_).trans (h.same q hq hn);rcases h.new with rfl | hw
  ·exact hn x hx
  ·have:=hw x hx; omega
 ·rcases g.new with rfl | hw
  ·exact h.new
  ·exact .inr fun x hx=>zj h.len (hw x hx)
def w9 (i:Cd) (s:Bp):Prop:=∀ a,s.1=some a->a.block ∉ i.l
theorem GA.heap {J':Aa} {s s':Bp} (g:GA J s J' s') (h:Ai J i m) (ho:w9 i s):Ai J' i m/\w9 i s':=by
 refine ⟨h.Aw fun j hj=>g.same j (h.lt j hj) fun a ha e=>ho a ha (e ▸ hj), ?_⟩;rcases g.new with rfl | hw
 ·exact ho
 ·intro a ha hm;have:=hw a ha;have:=h.lt _ hm;omega
theorem GA.other {J':Aa} {s s':Bp} (g:GA J s J' s') {q:Nat} {o:Au} (h:J[q]?=some o) (hs:∀ a,s.1=some a->a.block≠q):J'[q]?=some o /\ ∀ a,s'.1=some a->a.block≠q:=by
 have hq:=Af h;refine ⟨(g.same q hq hs).trans h, ?_⟩;rcases g.new with rfl | hw
 ·exact hs
 ·intro a ha e;have:=hw a ha;omega
def L8 (m:HM) (a n:Nat):List Int:=(List.range' a n).map fun x=>m.wds.getD x 0
theorem Px (m:HM) (a n:Nat):L8 m a (n+1)=m.wds.getD a 0::L8 m (a+1) n:=by simp[L8,Abe]
theorem Gk (m:HM) (a n:Nat):(L8 m a n).length=n:=by simp[L8]
theorem Dt.up {lo:Nat} {s:Bp} {l:List Int} (h:Dt 0 J s l) (hn:∀ a,s.1=some a->lo<=a.block):Dt lo J s l:=by
 rcases h with h | ⟨b,_,rfl,h⟩
 ·exact .inl h
 ·exact .inr ⟨b,hn _ rfl,rfl,h⟩
theorem GA.behind {J J':Aa} {τ:Aa} {s s':Bp} (g:GA (J++τ) s J' s') (hs:∀ a,s.1=some a->J.length<=a.block):(∃ τ',J'=J++τ') /\ ∀ a,s'.1=some a->J.length<=a.block:=by
 refine ⟨⟨J'.drop J.length, ?_⟩, ?_⟩
 ·have hlen:=g.len;simp at hlen;apply zy;intro q;by_cases hq:q<J.length
  ·rw[AT hq,g.same q (by simp; omega) (fun a ha e=>by have:=hs a ha; omega),AT hq]
  ·rw[yD (by omega),zs];congr 1; omega
 ·rcases g.new with rfl | hw
  ·exact hs
  ·intro a ha;have:=hw a ha;simp at this; omega
end
section
local instance xX:AA:=Ap
variable {J:Aa} {i:Cd} {m:HM}
theorem xz (a:Addr) (n c:Nat):J9 P Gt (.slice (some a) n c) (.slice none 0 0)=some false:=by kernel_rfl
theorem gY {E:TypeId} {s by_:Nat} {z:Value} (hs:GY P E=some s) (hb:bytesOf P E=some by_) (hz:Fq P E=some z) (hz1:Gi z=false) (hz2:z.cells.size=s) (hs0:0<s) (hb0:0<by_) (hb1:by_<=1000)
  (J:Aa) (p:Option Addr) (n c:Nat) (hn:0<n) (hn1:n<=100000) (row:List Value) (hf:CQ (J++[.cells [] E true]) s p n=some row):
  AF P E (some ⟨J.length,0,some 0⟩,0,0) (p,n,c) (J++[.cells [] E true])=some ((some ⟨J.length+1,0,none⟩,n,n),J++[Au.cells [] E true,.cells row E true]):=by
 unfold AF La;have h1:(¬ (Gi z=false/\some s=some z.cells.size/\0<z.cells.size))=False:=by
  rw[hz1,hz2]; simp[hs0]
 have r:LR (0+n) by_/\0<by_:=by
  unfold LR;have:(0+n)*by_<=100000*1000:=Nat.mul_le_mul (by omega) hb1;refine ⟨⟨by omega,by omega⟩,hb0⟩
 have e1:elemAt (J++[.cells [] E true]) J.length=some E:=by simp[elemAt]
 have e2:M9 (J++[.cells [] E true]) J.length 0 (0*s)=some []:=by simp[M9]
 have e3:Il (J++[.cells [] E true]) J.length=true:=by simp[Il]
 simp only[hs,hb,hz,hf,AI,h1,yq,show ¬ (0+n<=0) from by omega,r,Abg,ye,Ie,Ac6,IT,nR];simp
theorem Nb (J τ:Aa) {ρ:Type} (x:Option ρ):G9 J (J++τ) x=x:=cG J τ x
end
section
local instance yQ:AA:=Ap
variable {J:Aa} {i:Cd} {m:HM}
def B0 (m:HM):Prop:=(m.bls.getD 0 (0,0)).1=0
def BK (m:HM) (r:Int × HM):Prop:=(r.2.bls.getD 0 (0,0)).1=(m.bls.getD 0 (0,0)).1
theorem HB {c:Prop} [Decidable c] {r r':Int × HM} (h:c->BK m r) (h':¬ c->BK m r'):BK m (if c then r else r'):=by
 split
 ·exact h ‹_›
 ·exact h' ‹_›
theorem rW {r:Int × HM} (h:r.2.bls=m.bls):BK m r:=by unfold BK; rw[h]
theorem VD (m:HM) (b c x y x' y':Int):BK m (Bs m b c x y x' y'):=by
 unfold Bs;refine HB (fun h1=>HB (fun _=>?_) fun _=>rfl) fun _=>rfl;unfold BK;rw[yd,z8,ym (by omega),<- yd,Yx _ _ _ _ _ _ (by omega)]
theorem uu (m:HM) (x:Xh):BK m (wk m x):=by
 unfold wk;refine HB (fun _=>VD _ _ _ _ _ _ _) fun _=>HB (fun _=>VD _ _ _ _ _ _ _) fun _=>HB (fun _=>?_) fun _=>HB (fun _=>?_) fun _=>HB (fun _=>?_) fun _=>HB (fun _=>?_) fun _=>HB (fun _=>?_) fun _=>HB (fun _=>?_) fun _=>HB (fun _=>?_) fun _=>HB (fun _=>?_) fun _=>HB (fun _=>?_) fun _=>HB (fun _=>?_) fun _=>HB (fun _=>rfl) fun _=>rfl
 ·unfold Di;refine HB (fun hh=>HB (fun _=>?_) fun _=>rfl) fun _=>rfl;obtain ⟨n,e,h1,_⟩:=YS hh;unfold BK;rw[Pr,ym (by omega)]
 ·unfold qk;exact HB (fun hh=>bG _ _ _ _ _) fun _=>rfl
 ·apply rW;unfold CF;split
  ·split <;> rfl
  ·rfl
 ·unfold Ig; exact HB (fun _=>rfl) fun _=>rfl
 ·unfold tA; exact HB (fun _=>HB (fun _=>rfl) fun _=>rfl) fun _=>rfl
 ·unfold Cv; exact HB (fun _=>HB (fun _=>rfl) fun _=>rfl) fun _=>rfl
 ·unfold gp; exact HB (fun _=>rfl) fun _=>rfl
 ·unfold tC; refine HB (fun _=>?_) fun _=>rfl;split
  ·rfl
  ·exact HB (fun _=>rfl) fun _=>rfl
 ·unfold Lv; exact HB (fun _=>rfl) fun _=>rfl
 ·unfold Lv; exact HB (fun _=>rfl) fun _=>rfl
theorem B0.do (h:B0 m) (x:Xh):B0 (wk m x).2:=(uu m x).trans h
theorem B0.run:∀ (l:List Xh) (m:HM),B0 m->B0 (runM m l)
 | [],m,h=>h
 | x::l,m,h=>B0.run l _ (h.do x)
theorem B0.new (n:Nat):B0 (I6 n):=by
 unfold B0 I6;simp only[yd,zM];split <;> rfl
theorem ta (k:Nat) (h:Ai J i m) {b:Nat} (hb:b<m.bls.length):EK (k+3) (AM i) (b:Int) J=some (.bool (decide (1<=b/\(m.bls.getD b (0,0)).1=1)),J):=by
 rw[MG];simp only[XJ _ h,AI,Ao];by_cases h1:1<=b
 ·rw[xZ (show 1<=(b:Int)/\(b:Int)<((m.bls.length:Nat):Int) by omega)];simp only[IT,AI,IN,yl,h.GK];rw[yk (by omega)];simp only[AI,xQ,IN,(h.Tq hb).1,h1,true_and];rfl
 ·rw[xY (show ¬ (1<=(b:Int)/\(b:Int)<((m.bls.length:Nat):Int)) by omega)];simp[h1]
theorem Xd (a b:Nat):(a:Int).tdiv (b:Int)=((a/b:Nat):Int):=rfl
theorem Oq (a b:Nat):(a:Int).tmod (b:Int)=((a % b:Nat):Int):=rfl
theorem Sp {α:Type} {l:List α} {q:Nat} {x:α} (h:l[q]?=some x):l.set q x=l:=by
 apply zy;intro p;rw[z8];split
 ·rename_i e;subst e;rw[yk (Af h),h]
 ·rfl
theorem Dt.ge {lo:Nat} {s:Bp} {l:List Int} (h:Dt lo J s l):∀ a,s.1=some a->lo<=a.block/\a.block<J.length:=by
 rcases h with ⟨_,rfl⟩ | ⟨b,h1,rfl,_,h2⟩
 ·intro a e; cases e
 ·intro a e; cases e; exact ⟨h1,Af h2⟩
end
section
local instance xL:AA:=Ap
variable {J:Aa} {i:Cd} {m:HM}
def Cq (E:TypeId) (s:Nat) (J:Aa) (sl:Bp) (n:Nat) (row:List Value):Prop:=
 (n=0/\row=[]/\sl=(none,0,0)) \/ ∃ b,sl=(some ⟨b,0,none⟩,n,n)/\0<=n/\row.length=n*s/\J[b]?=some (.cells row E true)
theorem Cq.len {E:TypeId} {s n:Nat} {sl:Bp} {row:List Value} (h:Cq E s J sl n row):sl.2.1=n:=by
 rcases h with ⟨rfl,_,rfl⟩ | ⟨b,rfl,_⟩ <;> rfl
theorem Cq.form {E:TypeId} {s n:Nat} {sl:Bp} {row:List Value} (h:Cq E s J sl n row):sl=(sl.1,n,n):=by
 rcases h with ⟨rfl,_,rfl⟩ | ⟨b,rfl,_⟩ <;> rfl
theorem Cq.nil (E:TypeId) (s:Nat) (J:Aa):Cq E s J (none,0,0) 0 []:=.inl ⟨rfl,rfl,rfl⟩
theorem Cq.Aw {E:TypeId} {s n:Nat} {J':Aa} {sl:Bp} {row:List Value} (h:Cq E s J sl n row) (hs:∀ a,sl.1=some a->J'[a.block]?=J[a.block]?):Cq E s J' sl n row:=by
 rcases h with h | ⟨b,rfl,h1,h2,h3⟩
 ·exact .inl h
 ·exact .inr ⟨b,rfl,h1,h2,by rw[hs _ rfl]; exact h3⟩
theorem Cq.lt {E:TypeId} {s n:Nat} {sl:Bp} {row:List Value} (h:Cq E s J sl n row):∀ a,sl.1=some a->a.block<J.length:=by
 rcases h with ⟨_,_,rfl⟩ | ⟨b,rfl,h1,h2,h3⟩
 ·intro a e; cases e
 ·intro a e; cases e; exact Af h3
theorem Cq.app {E:TypeId} {s n:Nat} {sl:Bp} {row:List Value} (h:Cq E s J sl n row) (τ:Aa):Cq E s (J++τ) sl n row:=
 h.Aw fun a ha=>AT (h.lt a ha)
theorem Dt.sl {lo:Nat} {s:Bp} {l:List Int} (h:Dt lo J s l):Cq Aj 1 J s l.length (AZ l):=by
 rcases h with ⟨rfl,rfl⟩ | ⟨b,h1,rfl,h3,h4⟩
 ·exact .inl ⟨rfl,rfl,rfl⟩
 ·exact .inr ⟨b,rfl,zh _,by rw[C8,yH],h4⟩
theorem TT {E:TypeId} {s by_:Nat} {z:Value} (hs:GY P E=some s) (hb:bytesOf P E=some by_) (hz:Fq P E=some z) (hz1:Gi z=false) (hz2:z.cells.size=s) (hs0:0<s) (hb0:0<by_) (hb1:by_<=1000)
  (J:Aa) (sl:Bp) (n:Nat) (row:List Value) (src:Option Addr) (n' c:Nat) (row':List Value) (hn:n+n'<=1000000) (hn0:0<n') (hr:row'.length=n'*s) (hsl:Cq E s J sl n row) (hx:CQ J s src n'=some row'):
  ∃ s' J',AF P E sl (src,n',c) J=some (s',J')/\GA J sl J' s'/\Cq E s J' s' (n+n') (row++row'):=by
 unfold AF La;simp only[hs,hb,hz,AI,hx];have h1:(¬ (Gi z=false/\some s=some z.cells.size/\0<z.cells.size))=False:=by
  rw[hz1,hz2]; simp[hs0]
 simp only[h1,yq];have hm:(n+n')*by_<=1000000*1000:=Nat.mul_le_mul hn hb1;have r:LR (n+n') by_/\0<by_:=⟨⟨by omega,by omega⟩,hb0⟩;rcases hsl with ⟨rfl,rfl,rfl⟩ | ⟨b,rfl,hp,hl,hcell⟩
 ·simp only[show ¬ (0+n'<=0) from by omega,yq,r,Abg,ye,Ie,IT,nR];refine ⟨_,_,rfl,⟨by simp,fun q hq _=>AT hq,.inr fun a ha=>by cases ha; exact yj _⟩,.inr ⟨J.length,by simp,by omega,by simpa using hr,by simp⟩⟩
 ·have hb2:=Af hcell;have e1:elemAt J b=some E:=by simp[elemAt,hcell]
  have e2:M9 J b 0 (n*s)=some row:=by
   simp only[M9,hcell,hl,IN,yj,ye,yV];rw[zp (Ac0 hl)]
  have e3:Il J b=true:=by simp[Il,hcell]
  simp only[show ¬ (n+n'<=n) from by omega,yq,r,Abg,ye,Ie,Aab,By,AI,e1,e2,e3,IT,nR];refine ⟨_,_,rfl,⟨by simp,fun q hq hn=>?_,.inr fun a ha=>?_⟩,.inr ⟨J.length,rfl,by omega,by rw[yi,hl,hr,Abd],by simp⟩⟩
  ·rw[AT (by simpa using hq),yc (hn _ rfl)]
  ·cases ha; exact yj _
theorem Ms {E:TypeId} {s by_:Nat} {z:Value} (hs:GY P E=some s) (hb:bytesOf P E=some by_) (hz:Fq P E=some z) (hz1:Gi z=false) (hz2:z.cells.size=s) (hs0:0<s) (hb0:0<by_) (hb1:by_<=1000)
  (J:Aa) (sl:Bp) (n:Nat) (row:List Value) (n' c:Nat) (row':List Value) (T:TypeId) (hn:n+n'<=1000000) (hn0:0<n') (hr:row'.length=n'*s) (hsl:Cq E s J sl n row):
  ∃ s' J',AF P E sl (some ⟨J.length,0,none⟩,n',c) (J++[.cells row' T true])=some (s',J')/\GA J sl J' s'/\Cq E s J' s' (n+n') (row++row'):=by
 obtain ⟨s',J',e,g,h⟩:=TT hs hb hz hz1 hz2 hs0 hb0 hb1 (J++[.cells row' T true]) sl n row (some ⟨J.length,0,none⟩) n' c row' hn hn0 hr (hsl.app _) (by
  simp only[CQ,M9,yK,hr,IN,yj,ye,yV];rw[zp (Ac0 hr)]);exact ⟨s',J',e,(GA.app _ _ _).trans g,h⟩
theorem ints_at {lo:Nat} {s:Bp} {l:List Int} (h:Dt lo J s l) {x:Nat} (hx:x<l.length):∃ b,s=(some ⟨b,0,none⟩,l.length,l.length)/\lo<=b/\J[b]?=some (.cells (AZ l) Aj true)/\Ak .i64 J b x=some (l.getD x 0):=by
 rcases h with ⟨he,_⟩ | ⟨b,h1,h2,h3,h4⟩
 ·rw[he] at hx; simp at hx
 ·refine ⟨b,h2,h1,h4, ?_⟩;have h':Dt lo J (some ⟨b,0,none⟩,l.length,l.length) l:=.inr ⟨b,h1,rfl,h3,h4⟩;exact h'.ld hx
theorem iK {b x:Nat} {l:List Int} {T:TypeId} {rw':Bool} (h:J[b]?=some (.cells (AZ l) T rw')) (hx:x<l.length):Ak .i64 J b x=some (l.getD x 0):=by
 simp only[Ak,D5,h];simp[AZ,zG,yg hx,yd,Bn]
theorem jv {b x:Nat} {l:List Int} {T:TypeId} (h:J[b]?=some (.cells (AZ l) T true)) (hx:x<l.length) (v:Int):CT J b x (.int .i64 v)=some (J.set b (.cells (AZ (l.set x v)) T true)):=by
 simp only[CT,h];rw[yk (by rw[C8]; exact hx),aO]
theorem Ot (hI:Inv m) {j:Nat} (hs:Start m j):m.wds.getD (2*j+1) 0=Av m j+16*Bf m j+4096*Cr m j/\0<=Av m j/\Av m j<=15/\0<=Bf m j/\Bf m j<=200/\0<=Cr m j/\Cr m j<=3/\words (Av m j) (Bf m j) (Cr m j)=(sz m j:Int):=by
 obtain ⟨r,d,k,hv,he⟩:=hI.good j hs;obtain ⟨p1,p2,p3,_⟩:=Je hv;have e1:Av m j=r:=by unfold Av; rw[he,p1]
 have e2:Bf m j=d:=by unfold Bf; rw[he,p2]
 have e3:Cr m j=k:=by unfold Cr; rw[he,p3]
 have hw:words (Av m j) (Bf m j) (Cr m j)=(sz m j:Int):=by
  unfold sz;rw[da]; rfl
 rw[e1,e2,e3] at *;refine ⟨he, ?_⟩;simp[valid] at hv;refine ⟨hv.1,hv.2.1,hv.2.2.1,hv.2.2.2.1,hv.2.2.2.2.1,hv.2.2.2.2.2.1,hw⟩
theorem SI {m m':HM}:∀ (n a a':Nat),(∀ q,q<n->m'.wds.getD (a'+q) 0=m.wds.getD (a+q) 0)->L8 m' a' n=L8 m a n
 | 0,a,a',h=>rfl
 | n+1,a,a',h=>by
   rw[Px,Px,SI n (a+1) (a'+1) (fun q hq=>by have:=h (q+1) (by omega); rw[show a'+1+q=a'+(q+1) from by omega,show a+1+q=a+(q+1) from by omega]; exact this)];have:=h 0 (by omega);rw[yl,yl] at this;rw[this]
theorem Sm (m:HM):∀ (n a q:Nat),q<n->(L8 m a n)[q]?=some (m.wds.getD (a+q) 0)
 | 0,a,q,h=>by omega
 | n+1,a,0,h=>by rw[Px]; rfl
 | n+1,a,q+1,h=>by rw[Px,yB,Sm m n (a+1) q (by omega),show a+1+q=a+(q+1) from by omega]
end
section
local instance xM:AA:=Ap
variable {J:Aa} {i:Cd} {m:HM}
def Dk:List (Nat × Nat)->List Value
 | []=>[]
 | r::l=>.int .i64 (r.1:Int) :: .int .i64 (r.2:Int)::Dk l
theorem ND:∀ l l',Dk (l++l')=Dk l++Dk l'
 | [],l'=>rfl
 | r::l,l'=>by simp[Dk,ND l l']
theorem U1:∀ (l:List (Nat × Nat)) (x:Nat),x<l.length->(Dk l)[x*2]?=some (.int .i64 ((l.getD x (0,0)).1:Int))/\(Dk l)[x*2+1]?=some (.int .i64 ((l.getD x (0,0)).2:Int))
 | [],x,h=>by simp at h
 | r::l,0,h=>by simp[Dk]
 | r::l,x+1,h=>by
   have ih:=U1 l x (by simpa using h);rw[show (x+1)*2=x*2+1+1 from by omega];simpa [Dk,yB] using ih
def Js (a e:Nat):List (Nat × Nat):=if a<e then [(a,e-a)] else []
def EX (m:HM):List Nat->Nat->List (Nat × Nat) × Nat
 | [],a=>([],a)
 | j::L,a=>(Js a (2*j)++(EX m L (2*j+sz m j)).1,(EX m L (2*j+sz m j)).2)
def YN (m:HM) (b:Nat):List (Nat × Nat):=(EX m (D6 m (32*b) 32) (64*b)).1++Js (EX m (D6 m (32*b) 32) (64*b)).2 (64*b+64)
def aL (m:HM) (b:Nat):List (Nat × Nat):=if 1<=b/\(m.bls.getD b (0,0)).1=1 then YN m b else []
theorem sU:GY P Ay=some 2:=by kernel_rfl
theorem rY:bytesOf P Ay=some 16:=by kernel_rfl
theorem tf:Fq P Ay=some (.agg #[.int .i64 0,.int .i64 0]):=by kernel_rfl
structure UE (lo h5 h3:Nat) (J:Aa) (a:Nat) (o:Bp) (R:List (Nat × Nat)):Prop where
 at_:J[h5]?=some (.cells [.int .i64 (a:Int)] Aj true)
 out:J[h3]?=some (.cells [.slice o.1 o.2.1 o.2.2] Qr true)
 sl:Cq Ay 2 J o R.length (Dk R)
 new:∀ a,o.1=some a->lo<=a.block
 l5:h5<lo
 l3:h3<lo
 ne:h5≠h3
 ll:lo<=J.length
theorem UE.Aw {lo h5 h3 a:Nat} {J J':Aa} {o:Bp} {R:List (Nat × Nat)} (h:UE lo h5 h3 J a o R) (hs:∀ q,q<J.length->J'[q]?=J[q]?) (hl:J.length<=J'.length):UE lo h5 h3 J' a o R:=
 ⟨(hs _ (Af h.at_)).trans h.at_,(hs _ (Af h.out)).trans h.out,h.sl.Aw fun a ha=>hs _ (h.sl.lt a ha),h.new,h.l5,h.l3,h.ne,zj h.ll hl⟩
theorem oZ (k:Nat) {lo h5 h3 a x:Nat} {o:Bp} {R:List (Nat × Nat)} (h:UE lo h5 h3 J a o R) (hR:R.length<=5000) (ha:a<=5000) (hx:x<=5000):
  ∃ J' o',Dr (k+1) (x:Int) (some ⟨h5,0,none⟩) (some ⟨h3,0,none⟩) J=some (.tuple #[],J')/\UE lo h5 h3 J' a o' (R++Js a x)/\(∀ q,q<lo->q≠h3->J'[q]?=J[q]?)/\J.length<=J'.length:=by
 have lA:Ak .i64 J h5 0=some (a:Int):=by simp[Ak,D5,h.at_,Bn]
 have lO:AR J h3 0=some (o.1,o.2.1,o.2.2):=by simp[AR,D5,h.out,ED]
 by_cases hc:a<x
 ·obtain ⟨o1,J1_,e1,g1,s1⟩:=Ms sU rY tf rfl rfl (by decide) (by decide) (by decide) J o R.length (Dk R) 1 1 (Dk [(a,x-a)]) Ay (by omega) (by decide) rfl h.sl;have e1':AF P Ay (o.1,o.2.1,o.2.2) (some ⟨J.length,0,none⟩,1,1) (J++[Au.cells [.int .i64 (a:Int),.int .i64 ((x-a:Nat):Int)] Ay true])=some (o1,J1_):=e1;have hnO:∀ q,q<lo -> ∀ a',o.1=some a'->a'.block≠q:=fun q hq a' ha'=>by have:=h.new a' ha'; omega
  have k3:=(g1.same h3 (Af h.out) (hnO h3 h.l3)).trans h.out;have k5:=(g1.same h5 (Af h.at_) (hnO h5 h.l5)).trans h.at_;obtain ⟨J2_,hσ2⟩:∃ J2_,J1_.set h3 (.cells [.slice o1.1 o1.2.1 o1.2.2] Qr true)=J2_:=⟨_,rfl⟩;have est:CT J1_ h3 0 (.slice o1.1 o1.2.1 o1.2.2)=some J2_:=by
   rw[<- hσ2]; simp[CT,k3]
  have same2:∀ q,q≠h3->J2_[q]?=J1_[q]?:=fun q hq=>by rw[<- hσ2,yc (yW hq)]
  have hll:=h.ll;have hn1:∀ a',o1.1=some a'->lo<=a'.block:=by
   intro a' ha';rcases g1.new with e | e
   ·rw[e] at ha'; exact h.new a' ha'
   ·have:=e a' ha'; omega
  refine ⟨J2_,o1, ?_,⟨(same2 _ h.ne).trans k5,by rw[<- hσ2,yo (Af k3)], ?_,hn1,h.l5,h.l3,h.ne, ?_⟩, ?_, ?_⟩
  ·rw[Ld];have q:decide ((x:Int)>(a:Int))=true:=xZ (by omega);have w:Ar ((x:Int)-(a:Int))=((x-a:Nat):Int):=by rw[Ah (by unfold AK; omega)]; omega
   simp only[AI,lA,q,IT,lO,Ae,w,e1',est,ye]
  ·unfold Js;rw[yk hc,ND,yi];exact s1.Aw fun a' ha'=>same2 _ (fun e=>by have:=hn1 a' ha'; have:=h.l3; omega)
  ·rw[<- hσ2]; have:=g1.len; simp; omega
  ·intro q hq hne;rw[same2 q hne,g1.same q (by omega) (hnO q hq)]
  ·rw[<- hσ2]; have:=g1.len; simp; omega
 ·refine ⟨J,o, ?_, ?_,fun _ _ _=>rfl,yj _⟩
  ·rw[Ld];have q:decide ((x:Int)>(a:Int))=false:=xY (by omega);simp only[AI,lA,q,By,ye]
  ·unfold Js;rw[ym hc,yw];exact h
theorem XP (k:Nat) (L:List Nat) (hL:∀ j ∈ L,Start m j) (hLl:L.length<=2048) (hwl:∀ j ∈ L,2*j+sz m j<=5000) {lo h5 h3 lo':Nat} (s:Bp) (hs3:∀ a,s.1=some a->a.block<lo/\a.block≠h3/\a.block≠h5) (hi:∀ j ∈ i.l,j<lo/\j≠h3/\j≠h5):∀ (n x f:Nat) (J:Aa) (a:Nat) (o:Bp) (R:List (Nat × Nat)),Ai J i m->UE lo h5 h3 J a o R->Dt lo' J s (CK L)->R.length<=x->a<=5000->x+n=L.length->n<f ->
  ∃ J' o',DY (k+3) f (AM i) h5 h3 s.1 s.2.1 s.2.2 (L.length:Int) (x:Int) J=some (.exit 0,[],J')/\Ai J' i m/\UE lo h5 h3 J' (EX m (L.drop x) a).2 o' (R++(EX m (L.drop x) a).1)/\(∀ q,q<lo->q≠h3->q≠h5->J'[q]?=J[q]?)/\J.length<=J'.length/\(EX m (L.drop x) a).2<=5000/\(R++(EX m (L.drop x) a).1).length<=L.length
 | 0,x,0,J,a,o,R,h,hg,hs,hr,ha,hx,hf=>by omega
 | 0,x,f+1,J,a,o,R,h,hg,hs,hr,ha,hx,hf=>by
   rw[Le,yS (by omega)];have q:decide ((x:Int)<(L.length:Int))=false:=xY (by omega);exact ⟨J,o,by simp only[q,By],h,by simpa [EX] using hg,fun _ _ _ _=>rfl,yj _,ha,by simp[EX]; omega⟩
 | n+1,x,0,J,a,o,R,h,hg,hs,hr,ha,hx,hf=>by omega
 | n+1,x,f+1,J,a,o,R,h,hg,hs,hr,ha,hx,hf=>by
   have al:(CK L).length=L.length:=by simp[CK]
   have hxl:x<L.length:=by omega
   have hst:=hL _ (yU hxl);have hle:=hwl _ (yU hxl);have hnt:=h.nt;have hsj:=hst.1;obtain ⟨b1,e1,hb1,c1,ldA⟩:=ints_at hs (x:=x) (by omega);subst e1;rw[Nj L hxl] at ldA;obtain ⟨n1,n2,n3⟩:=hs3 _ rfl;simp only at n1 n2 n3;obtain ⟨J1_,o1,eG,g1,same1,len1⟩:=oZ (k+2) hg (x:=2*L[x]) (by omega) ha (by omega);have eG':Dr (k+3) ((2*L[x]:Nat):Int) (some ⟨h5,0,none⟩) (some ⟨h3,0,none⟩) J=_:=eG;have h1:Ai J1_ i m:=h.Aw fun j hj=>same1 j (hi j hj).1 (hi j hj).2.1;obtain ⟨τ2,e2⟩:=cW k h1 hsj;have g2:=g1.Aw (J':=J1_++τ2) (fun q hq=>AT hq) (by simp);obtain ⟨J3_,hσ3⟩:∃ J3_,(J1_++τ2).set h5 (.cells [.int .i64 ((2*L[x]+sz m L[x]:Nat):Int)] Aj true)=J3_:=⟨_,rfl⟩;have est:CT (J1_++τ2) h5 0 (.int .i64 ((2*L[x]+sz m L[x]:Nat):Int))=some J3_:=by
    rw[<- hσ3]; simp[CT,g2.at_]
   have same3:∀ q,q≠h5->J3_[q]?=(J1_++τ2)[q]?:=fun q hq=>by rw[<- hσ3,yc (yW hq)]
   have hll:=g1.ll;have l3:J3_.length=J1_.length+τ2.length:=by rw[<- hσ3]; simp
   have g3:UE lo h5 h3 J3_ (2*L[x]+sz m L[x]) o1 (R++Js a (2*L[x])):=⟨by rw[<- hσ3,yo (Af g2.at_)],(same3 _ (yW g2.ne)).trans g2.out,
    g2.sl.Aw fun a ha=>same3 _ (fun e=>by have:=g2.new a ha; have:=g2.l5; omega),g2.new,g2.l5,g2.l3,g2.ne,by omega⟩;have TL:∀ q,q<lo->q≠h3->q≠h5->J3_[q]?=J[q]?:=fun q p1 p2 p3=>by
    rw[same3 q p3,AT (by omega),same1 q p1 p2]
   have h3':Ai J3_ i m:=h.Aw fun j hj=>TL j (hi j hj).1 (hi j hj).2.1 (hi j hj).2.2;have s3:Dt lo' J3_ (some ⟨b1,0,none⟩,(CK L).length,(CK L).length) (CK L):=.inr ⟨b1,hb1,rfl,fun e=>by rw[e] at al; simp at al; omega,by rw[TL b1 n1 n2 n3]; exact c1⟩;have hgl:(Js a (2*L[x])).length<=1:=by unfold Js; split <;> simp
   obtain ⟨J4_,o4,e4,h4,g4,same4,len4,m4,m5⟩:=XP k L hL hLl hwl (some ⟨b1,0,none⟩,(CK L).length,(CK L).length) hs3 hi n (x+1) f J3_ (2*L[x]+sz m L[x]) o1 (R++Js a (2*L[x])) h3' g3 s3 (by rw[yi]; omega) hle (by omega) (by omega);have eT:EX m (L.drop x) a=(Js a (2*L[x])++(EX m (L.drop (x+1)) (2*L[x]+sz m L[x])).1,(EX m (L.drop (x+1)) (2*L[x]+sz m L[x])).2):=by
    rw[yO hxl]; rfl
   rw[eT];rw[ya] at g4 m5;refine ⟨J4_,o4, ?_,h4,g4,fun q p1 p2 p3=>(same4 q p1 p2 p3).trans (TL q p1 p2 p3),by omega,m4,m5⟩;rw[Le];have q:decide ((x:Int)<(L.length:Int))=true:=xZ (by omega);have w1:Ar ((x:Int)+1)=((x+1:Nat):Int):=Ah (by unfold AK; omega);have w2:Ar (((2*L[x]:Nat):Int)+(sz m L[x]:Int))=((2*L[x]+sz m L[x]:Nat):Int):=by rw[Ah (by unfold AK; omega)]; omega
   simp only[q,IT];rw[yk (by omega)];simp only[AI,IN,xQ,yH,ldA,eG',Gs,e2,Ag,w2,est,w1];exact e4
theorem rm (k:Nat) (hk:5000<=k) (h:Ai J i m) (hI:Inv m) {b:Nat} (hb:b<m.bls.length):
  ∃ τ s,GG (k+7) (AM i) (b:Int) J=some (.slice s.1 s.2.1 s.2.2,J++τ)/\Cq Ay 2 (J++τ) s (aL m b).length (Dk (aL m b))/\(aL m b).length<=33 /\ ∀ a,s.1=some a->J.length<=a.block:=by
 have hu:EK (k+6) (AM i) (b:Int) J=_:=ta (k+3) h hb;unfold aL;by_cases hc:1<=b/\(m.bls.getD b (0,0)).1=1;rotate_left
 ·rw[ym hc];refine ⟨[],(none,0,0), ?_,Cq.nil _ _ _,by simp,by intro a ha; cases ha⟩;rw[JP];simp only[hu,AI,Ao,xY hc,yY,IT,yw]
 rw[yk hc];have hnt:=h.nt;have hwl:=h.wl;obtain ⟨J1_,hσ1⟩:∃ J1_,J++[Au.cells [.slice none 0 0] Qr true]=J1_:=⟨_,rfl⟩;have l1:J1_.length=J.length+1:=by rw[<- hσ1]; simp
 obtain ⟨J2_,hσ2⟩:∃ J2_,J1_++[Au.cells [.int .i64 ((64*b:Nat):Int)] Aj true]=J2_:=⟨_,rfl⟩;have est:CT (J1_++[Au.cells [.int .i64 0] Aj true]) J1_.length 0 (.int .i64 ((64*b:Nat):Int))=some J2_:=by
  rw[<- hσ2]; simp[CT]
 have l2:J2_.length=J.length+2:=by rw[<- hσ2]; simp; omega
 have h2:Ai J2_ i m:=hσ2 ▸ (hσ1 ▸ h.app _:Ai J1_ i m).app _;obtain ⟨τ3,s,e3,i3⟩:=TS k hk h2 hb;have hL:∀ j ∈ D6 m (32*b) 32,Start m j:=by
  intro j hj;obtain ⟨a,b',c⟩:=K6.1 hj;exact ⟨by omega,c⟩
 have hLl:=LV m (32*b) 32;have hlt:=h.lt;have g0:UE (J2_++τ3).length J1_.length J.length (J2_++τ3) (64*b) (none,0,0) []:=by
  refine { at_:=?_,out:=?_,sl:=Cq.nil _ _ _,new:=(by intro a ha; cases ha),l5:=(by simp; omega),l3:=(by simp; omega),ne:=(by omega),ll:=yj _ }
  ·rw[AT (by omega),<- hσ2]; simp
  ·rw[AT (by omega),<- hσ2,AT (by omega),<- hσ1]; simp
 obtain ⟨J4_,o4,e4,h4,g4,same4,len4,m4,m5⟩:=XP (k+3) _ hL (by omega) (fun j hj=>by have:=hI.fit j (hL j hj); omega) s (fun a ha=>by have:=i3.ge a ha; simp only[yi] at *; omega) (fun j hj=>by have:=hlt j hj; simp; omega)
  (D6 m (32*b) 32).length 0 (k+6) (J2_++τ3) (64*b) (none,0,0) [] (h2.app τ3) g0 i3 (zh _) (by omega) (by omega) (by omega);rw[yV,Aac] at g4 m5;rw[yV] at m4;obtain ⟨J5_,o5,e5,g5,same5,len5⟩:=oZ (k+5) g4 (x:=64*b+64) (by omega) (by omega) (by omega);have hll:=g5.ll;have hle:J.length<=J5_.length:=by simp at hll; omega
 have eσ:J5_=J++J5_.drop J.length:=by
  apply zy;intro q;by_cases hq:q<J.length
  ·rw[AT hq,same5 q (by simp; omega) (by omega),same4 q (by simp; omega) (by omega) (by omega),AT (by omega),<- hσ2,AT (by omega),<- hσ1,AT hq]
  ·rw[yD (by omega),zs,show J.length+(q-J.length)=q from by omega]
 refine ⟨J5_.drop J.length,o5, ?_,by rw[<- eσ]; exact g5.sl, ?_,fun a ha=>by have:=g5.new a ha; simp at this; omega⟩
 ·have hl:=i3.len;rw[show (CK (D6 m (32*b) 32)).length=(D6 m (32*b) 32).length from by simp[CK]] at hl;rw[<- eσ,JP];have w1:Ar ((b:Int)*64)=((64*b:Nat):Int):=by rw[Ah (by unfold AK; omega)]; omega
  have w2:Ar ((b:Int)+1)=((b+1:Nat):Int):=by rw[Ah (by unfold AK; omega)]; omega
  have w3:Ar (((b+1:Nat):Int)*64)=((64*b+64:Nat):Int):=by rw[Ah (by unfold AK; omega)]; omega
  have lO:AR J5_ J.length 0=some (o5.1,o5.2.1,o5.2.2):=by simp[AR,D5,g5.out,ED]
  have e4':DY (k+6) (k+6) (AM i) J1_.length J.length s.1 (D6 m (32*b) 32).length s.2.2 (((D6 m (32*b) 32).length:Nat):Int) 0 (J2_++τ3)=some (.exit 0,[],J4_):=by rw[hl] at e4; exact e4
  simp only[hu,AI,Ao,xZ hc,yp,By,Ae,hσ1,w1,est,e3,ED,hl,e4',ye,w2,w3,e5,Gs,lO]
 ·unfold YN;rw[yi];have:(Js (EX m (D6 m (32*b) 32) (64*b)).2 (64*b+64)).length<=1:=by unfold Js; split <;> simp
  omega
end
section
variable {m:HM}
structure RO where
 addr:Int
 id:Int
 r:Int
 d:Int
 k:Int
 refs:List Int
 data:List Int
 Wg:Bool
structure RM where
 bl:List (Int × Int)
 ob:List RO
 fw:List (Int × Int)
 born:Int
def RO.w (o:RO):Int:=words o.r o.d o.k
def Bm (m:HM) (j:Nat):RO:=⟨((2*j:Nat):Int),m.wds.getD (2*j) 0,Av m j,Bf m j,Cr m j,L8 m (2*j+2) (Av m j).toNat,L8 m (2*j+2+(Av m j).toNat) (Bf m j).toNat,decide (CR 1 m.pnw j=1)⟩
def EY (m:HM):List Nat:=D6 m 0 (32*m.bls.length)
def F7 (m:HM):List RO:=(EY m).map (Bm m)
structure PE (m:HM) (t:RM):Prop where
 bl:t.bl=m.bls
 ob:t.ob=F7 m
 born:t.born=m.births
 fw:∀ a,getM t.fw a=getM m.fw a
 fl:t.fw.length=m.fw.length
 o1:Q7 t.fw
 o2:Q7 m.fw
theorem U8:∀ {l l':List Nat},l.Pairwise (·<·)->l'.Pairwise (·<·)->(∀ a,a ∈ l↔a ∈ l')->l=l'
 | [],[],_,_,_=>rfl
 | [],b::l',_,_,h=>by have:=(h b).2 zi; cases this
 | a::l,[],_,_,h=>by have:=(h a).1 zi; cases this
 | a::l,b::l',h1,h2,h=>by
   have p1:=zB.1 h1;have p2:=zB.1 h2;have hab:a=b:=by
    rcases yL.1 ((h a).1 zi) with e | e
    ·exact e
    ·rcases yL.1 ((h b).2 zi) with e' | e'
     ·exact e'.symm
     ·have:=p1.1 b e'; have:=p2.1 a e; omega
   subst hab;congr 1;refine U8 p1.2 p2.2 fun x=>⟨fun hx=>?_,fun hx=>?_⟩
   ·rcases yL.1 ((h x).1 (yJ _ hx)) with e | e
    ·subst e; have:=p1.1 x hx; omega
    ·exact e
   ·rcases yL.1 ((h x).2 (yJ _ hx)) with e | e
    ·subst e; have:=p2.1 x hx; omega
    ·exact e
theorem Mg (m:HM):(EY m).Pairwise (·<·):=(List.pairwise_lt_range' (step:=1) (by decide)).filter _
theorem Dh {j:Nat}:j ∈ EY m↔Start m j:=sy
theorem cM {m':HM} {l:List Nat} (hs:l.Pairwise (·<·)) (hm:∀ j,j ∈ l↔Start m' j):F7 m'=l.map (Bm m'):=by
 unfold F7;rw[U8 (Mg m') hs (fun a=>by rw[Dh,hm])]
def MU:List RO->Int->Option Nat
 | [],_=>none
 | o::l,a=>if o.addr=a then some 0 else (MU l a).map (·+1)
theorem fL (f:Nat->RO) (hf:∀ j,(f j).addr=((2*j:Nat):Int)):∀ (L:List Nat) (a:Int),(∀ x,MU (L.map f) a=some x->x<L.length /\ ∀ h:x<L.length,a=((2*L[x]:Nat):Int))/\(MU (L.map f) a=none -> ∀ j ∈ L,a≠((2*j:Nat):Int))
 | [],a=>⟨fun x h=>(by cases h),fun _ j hj=>(by cases hj)⟩
 | j::L,a=>by
   obtain ⟨h1,h2⟩:=fL f hf L a;simp only[zD,MU,hf];constructor
   ·intro x hx;split at hx
    ·rename_i e;cases hx;exact ⟨by simp,fun _=>e.symm⟩
    ·cases hq:MU (L.map f) a with
     | none=>rw[hq] at hx; cases hx
     | some y=>
       rw[hq] at hx; cases hx;obtain ⟨q1,q2⟩:=h1 y hq;exact ⟨by simpa using q1,fun h=>by simpa using q2 q1⟩
   ·intro hx;split at hx
    ·cases hx
    ·rename_i e;cases hq:MU (L.map f) a with
     | none=>
       intro j' hj' e';rcases yL.1 hj' with rfl | hj'
       ·exact e e'.symm
       ·exact h2 hq j' hj' e'
     | some y=>rw[hq] at hx; cases hx
theorem LQ (m:HM) (j:Nat):(Bm m j).addr=((2*j:Nat):Int):=rfl
theorem PE.idx {t:RM} (h:PE m t) (a:Int):(∀ x,MU t.ob a=some x->x<t.ob.length /\ ∃ j,Start m j/\a=((2*j:Nat):Int)/\AU m a=true/\(EY m)[x]?=some j/\t.ob[x]?=some (Bm m j))/\(MU t.ob a=none->AU m a=false):=by
 obtain ⟨h1,h2⟩:=fL (Bm m) (LQ m) (EY m) a;rw[h.ob];constructor
 ·intro x hx;obtain ⟨q1,q2⟩:=h1 x hx;have hs:Start m (EY m)[x]:=Dh.1 (yU q1);refine ⟨by simpa [F7] using q1,(EY m)[x],hs,q2 q1,by rw[q2 q1]; exact Qg hs,yg q1, ?_⟩;unfold F7;rw[zG,yg q1]; rfl
 ·intro hx;cases hq:AU m a with
  | false=>rfl
  | true=>
    obtain ⟨j,e,hs⟩:=Bd hq;exact absurd e (h2 hx j (Dh.2 hs))
theorem PE.has {t:RM} (h:PE m t) (a:Int):(MU t.ob a).isSome=AU m a:=by
 obtain ⟨h1,h2⟩:=h.idx a;cases hq:MU t.ob a with
 | none=>rw[h2 hq]; rfl
 | some x=>obtain ⟨_,j,_,_,e,_⟩:=h1 x hq; rw[e]; rfl
theorem jf (hI:Inv m) {j:Nat} (hs:Start m j):(Bm m j).w=(sz m j:Int):=(Ot hI hs).2.2.2.2.2.2.2
def uZ:List RO->Int->Option Int
 | [],_=>none
 | o::l,n=>if o.id=n then some o.addr else uZ l n
theorem kz (n:Int):∀ (L:List Nat),(uZ (L.map (Bm m)) n=none -> ∀ j ∈ L,m.wds.getD (2*j) 0≠n)/\(∀ a,uZ (L.map (Bm m)) n=some a -> ∃ j ∈ L,a=((2*j:Nat):Int)/\m.wds.getD (2*j) 0=n)
 | []=>⟨fun _ j hj=>(by cases hj),fun a h=>(by cases h)⟩
 | j::L=>by
   obtain ⟨h1,h2⟩:=kz n L;simp only[zD,uZ,LQ];have e0:(Bm m j).id=m.wds.getD (2*j) 0:=rfl;rw[e0];constructor
   ·intro hx;split at hx
    ·cases hx
    ·rename_i e;intro j' hj';rcases yL.1 hj' with rfl | hj'
     ·exact e
     ·exact h1 hx j' hj'
   ·intro a hx;split at hx
    ·rename_i e;cases hx;exact ⟨j,zi,rfl,e⟩
    ·obtain ⟨j',q1,q2⟩:=h2 a hx;exact ⟨j',yJ _ q1,q2⟩
theorem PE.at {t:RM} (h:PE m t) (hI:Inv m) (n:Int):uZ t.ob n=getM m.pl n:=by
 rw[h.ob];obtain ⟨h1,h2⟩:=kz (m:=m) n (EY m);have hr:F7 m=(EY m).map (Bm m):=rfl;rw[hr];cases hq:uZ ((EY m).map (Bm m)) n with
 | none=>
   cases hg:getM m.pl n with
   | none=>rfl
   | some a=>
     obtain ⟨j,rfl,s1,s2⟩:=hI.plc _ _ hg;exact absurd s2 (h1 hq j (Dh.2 s1))
 | some a=>
   obtain ⟨j,hj,rfl,e⟩:=h2 a hq;have:=(hI.idn j (Dh.1 hj)).2.2;rw[e] at this;exact this.symm
def Zp (l:List RO) (a w but:Int):Bool:=l.any fun o=>decide (o.id≠but/\o.addr<a+w/\a<o.addr+o.w)
end
section
variable {m:HM} {t:RM}
def Kw (m:HM):Prop:=∀ j,j<32*m.bls.length->¬ Start m j->CR 1 m.pnw j=0
theorem Zv (hI:Inv m) {m':HM} {j j':Nat} (hs:Start m j) (hw:∀ c,c<sz m j->m'.wds.getD (2*j'+c) 0=m.wds.getD (2*j+c) 0) (hp:CR 1 m'.pnw j'=CR 1 m.pnw j):Bm m' j'={ Bm m j with addr:=((2*j':Nat):Int) }:=by
 have hz:=hI.size hs;have w1:=hw 1 (by omega);obtain ⟨_,_,er,ed⟩:=TN (m:=m) (m':=m') (j:=j) (j':=j') w1;have ek:Cr m' j'=Cr m j:=by unfold Cr; rw[w1]
 have w0:=hw 0 (by omega);rw[yl,yl] at w0;unfold Bm;rw[w0,er,ed,ek,hp,SI (m:=m) (m':=m') (Av m j).toNat (2*j+2) (2*j'+2) (fun q hq=>by
  have:=hw (2+q) (by omega);rw[zu,zu]; exact this),SI (m:=m) (m':=m') (Bf m j).toNat (2*j+2+(Av m j).toNat) (2*j'+2+(Av m j).toNat) (fun q hq=>by
  have:=hw (2+(Av m j).toNat+q) (by omega);rw[zu (2*j'),zu (2*j'),zu (2*j),zu (2*j)]; exact this)]
theorem Nd (hI:Inv m) {m':HM} {j:Nat} (hs:Start m j) (hw:∀ c,c<sz m j->m'.wds.getD (2*j+c) 0=m.wds.getD (2*j+c) 0) (hp:CR 1 m'.pnw j=CR 1 m.pnw j):Bm m' j=Bm m j:=Zv hI hs hw hp
def Qn:List RO->Int->Nat
 | [],_=>0
 | o::l,a=>if o.addr<a then Qn l a+1 else 0
def Sg (l:List RO) (o:RO):List RO:=l.take (Qn l o.addr)++o::l.drop (Qn l o.addr)
theorem kA:∀ (l:List RO) (a:Int),Qn l a<=l.length
 | [],_=>yj _
 | o::l,a=>by
   rw[Qn];split
   ·have:=kA l a; simp; omega
   ·simp
theorem fR (f:Nat->RO) (hf:∀ j,(f j).addr=((2*j:Nat):Int)) (j:Nat):∀ (L:List Nat),L.Pairwise (·<·)->(∀ y ∈ L.take (Qn (L.map f) ((2*j:Nat):Int)),y<j)/\(∀ y ∈ L.drop (Qn (L.map f) ((2*j:Nat):Int)),j<=y)
 | [],_=>⟨fun y h=>(by simp at h),fun y h=>(by simp at h)⟩
 | b::L,h=>by
   have p:=zB.1 h;obtain ⟨h1,h2⟩:=fR f hf j L p.2;simp only[zD,Qn,hf];split
   ·rw[Acw,Ab7];refine ⟨fun y hy=>?_,h2⟩;rcases yL.1 hy with rfl | hy
    ·omega
    ·exact h1 y hy
   ·rw[Ab3,yV];refine ⟨fun y hy=>(by cases hy),fun y hy=>?_⟩;rcases yL.1 hy with rfl | hy
    ·omega
    ·have:=p.1 y hy; omega
theorem fM {m':HM} {L:List Nat} {j:Nat} {o:RO} (hs:L.Pairwise (·<·)) (hj:j ∉ L) (hst:∀ y,Start m' y↔y=j\/y ∈ L) (f:Nat->RO) (hf:∀ j,(f j).addr=((2*j:Nat):Int)) (hfL:∀ y ∈ L,Bm m' y=f y) (ho:Bm m' j=o):F7 m'=Sg (L.map f) o:=by
 have ha:o.addr=((2*j:Nat):Int):=by rw[<- ho]; rfl
 obtain ⟨h1,h2⟩:=fR f hf j L hs;unfold Sg;rw[ha];obtain ⟨p,hp⟩:∃ p,Qn (L.map f) ((2*j:Nat):Int)=p:=⟨_,rfl⟩;rw[hp] at h1 h2 ⊢;have hsplit:=Aak p L;have hs':(L.take p++L.drop p).Pairwise (·<·):=by rw[hsplit]; exact hs
 rw[Acq] at hs';rw[cM (l:=L.take p++j::L.drop p) ?_ ?_,Aae,zD,<- List.map_take,<- List.map_drop,ho]
 ·congr 1
  ·exact Acx fun y hy=>hfL y (Ab0 hy)
  ·congr 1;exact Acx fun y hy=>hfL y (Abl hy)
 ·rw[Acq,zB];refine ⟨hs'.1,⟨fun y hy=>?_,hs'.2.1⟩,fun x hx y hy=>?_⟩
  ·have:=h2 y hy;have:y≠j:=fun e=>hj (e ▸ Abl hy);omega
  ·rcases yL.1 hy with rfl | hy
   ·exact h1 x hx
   ·exact hs'.2.2 x hx y hy
 ·intro y;rw[hst y,yf,yL];constructor
  ·rintro (h | h | h)
   ·exact .inr (Ab0 h)
   ·exact .inl h
   ·exact .inr (Abl h)
  ·rintro (h | h)
   ·exact .inr (.inl h)
   ·rw[<- hsplit,yf] at h;rcases h with h | h
    ·exact .inl h
    ·exact .inr (.inr h)
theorem Ws {m':HM}:∀ (n a:Nat),(∀ q,q<n->m'.wds.getD (a+q) 0=0)->L8 m' a n=List.replicate n 0
 | 0,a,h=>rfl
 | n+1,a,h=>by
   rw[Px,zU,Ws n (a+1) (fun q hq=>by have:=h (q+1) (by omega); rw[show a+1+q=a+(q+1) from by omega]; exact this)];have:=h 0 (by omega);rw[yl] at this;rw[this]
theorem PE.Aw {m':HM} {t':RM} (h:PE m t) (hb:t'.bl=m'.bls) (ho:t'.ob=F7 m') (hn:t'.born=m'.births) (hf:t'.fw=t.fw) (hm:m'.fw=m.fw):PE m' t':=
 ⟨hb,ho,hn,by rw[hf,hm]; exact h.fw,by rw[hf,hm]; exact h.fl,by rw[hf]; exact h.o1,by rw[hm]; exact h.o2⟩
theorem Hz (hS:Sh m) {j:Nat} (hj:j<32*m.bls.length) (n:Int) (a:Nat):(C9 m j n).wds.getD a 0=if a=2*j+1 then n else if a=2*j then m.births+1 else m.wds.getD a 0:=by
 have:=hS.wl;show ((m.wds.set (2*j) (m.births+1)).set (2*j+1) n).getD a 0=_;rw[Ca,Ca,yZ];by_cases h1:a=2*j+1
 ·subst h1; rw[yk ⟨rfl,by omega⟩,yk rfl]
 ·rw[ym (fun h=>h1 h.1.symm),ym h1];by_cases h2:a=2*j
  ·subst h2; rw[yk ⟨rfl,by omega⟩,yk rfl]
  ·rw[ym (fun h=>h2 h.1.symm),ym h2]
theorem PE.place (h:PE m t) (hI:Inv m) (hI2:Inv2 m) (hS:Sh m) (hP:Kw m) {j:Nat} {r d k:Int} (hv:valid r d k=true) (hj:j<32*m.bls.length)
  (hap:∀ o,Start m o->2*o+sz m o<=2*j\/2*j+NH (num r d k)<=2*o):PE (C9 m j (num r d k)) { t with born:=t.born+1,ob:=Sg t.ob ⟨((2*j:Nat):Int),t.born+1,r,d,k,List.replicate r.toNat 0,List.replicate d.toNat 0,false⟩ }/\Kw (C9 m j (num r d k)):=by
 have hsl:=hS.sl;obtain ⟨p1,p2,p3,_⟩:=Je hv;have hsz:=Jp hv;have hv':=hv;simp[valid] at hv';have hnot:¬ Start m j:=by
  intro hs;have:=hap j hs;have:=hI.size hs;rcases this with ⟨_,_⟩
  rw[hsz] at *;omega
 have hst:∀ y,Start (C9 m j (num r d k)) y↔y=j\/y ∈ EY m:=fun y=>by rw[Is hsl hj,Dh]
 have key:F7 (C9 m j (num r d k))=Sg (F7 m) ⟨((2*j:Nat):Int),m.births+1,r,d,k,List.replicate r.toNat 0,List.replicate d.toNat 0,false⟩:=by
  refine fM (Mg m) (fun hm=>hnot (Dh.1 hm)) hst (Bm m) (LQ m) (fun y hy=>?_) ?_
  ·have hy:=Dh.1 hy;have hne:y≠j:=fun e=>hnot (e ▸ hy);have hz:=hI.size hy;have:=hap y hy;refine Nd hI hy (fun c hc=>?_) rfl;rw[Hz hS hj,ym (by rw[hsz] at this; omega),ym (by rw[hsz] at this; omega)]
  ·have w0:(C9 m j (num r d k)).wds.getD (2*j) 0=m.births+1:=by rw[Hz hS hj,ym (by omega),yk rfl]
   have w1:(C9 m j (num r d k)).wds.getD (2*j+1) 0=num r d k:=by rw[Hz hS hj,yk rfl]
   have e1:Av (C9 m j (num r d k)) j=r:=by unfold Av; rw[w1,p1]
   have e2:Bf (C9 m j (num r d k)) j=d:=by unfold Bf; rw[w1,p2]
   have e3:Cr (C9 m j (num r d k)) j=k:=by unfold Cr; rw[w1,p3]
   have hzero:∀ a,2*j+2<=a->a<2*j+NH (num r d k)->(C9 m j (num r d k)).wds.getD a 0=0:=by
    intro a h1 h2;rw[Hz hS hj,ym (by omega),ym (by omega)];refine hI2.zero a fun o ho q1 q2=>?_;have:=hap o ho;have:=hI.use ho;omega
   unfold Bm;rw[w0,e1,e2,e3,Ws,Ws]
   ·have:CR 1 (C9 m j (num r d k)).pnw j=0:=hP j hj hnot;rw[this]; rfl
   ·intro q hq; exact hzero _ (by omega) (by rw[hsz]; omega)
   ·intro q hq; exact hzero _ (by omega) (by rw[hsz]; omega)
 refine ⟨h.Aw h.bl ?_ ?_ rfl rfl,fun y hy hn=>?_⟩
 ·show Sg t.ob _=_;rw[key,h.ob,h.born]
 ·show t.born+1=m.births+1;rw[h.born]
 ·exact hP y hy fun hs=>hn ((Is hsl hj).2 (.inr hs))
theorem aV {α β:Type} (f:α->β):∀ (l:List α) (x:Nat),(l.map f).eraseIdx x=(l.eraseIdx x).map f
 | [],_=>rfl
 | _::_,0=>rfl
 | a::l,x+1=>by simp[List.eraseIdx_cons_succ,aV f l x]
theorem aD {m':HM} {x j:Nat} (hx:(EY m)[x]?=some j) (hst:∀ y,Start m' y↔y≠j/\Start m y) (hr:∀ y,Start m y->y≠j->Bm m' y=Bm m y):F7 m'=(F7 m).eraseIdx x/\((EY m).eraseIdx x).Pairwise (·<·)/\(∀ y,y ∈ (EY m).eraseIdx x↔y≠j/\Start m y)/\(F7 m).eraseIdx x=((EY m).eraseIdx x).map (Bm m):=by
 obtain ⟨hxl,hxe⟩:=yu.1 hx;have hs:=(Mg m).sublist (List.eraseIdx_sublist (EY m) x);have hnd:(EY m).Nodup:=Vs _ _;have hm:∀ y,y ∈ (EY m).eraseIdx x↔y≠j/\Start m y:=by
  intro y;rw[List.mem_eraseIdx_iff_getElem];constructor
  ·rintro ⟨i,hi,hne,rfl⟩;refine ⟨fun e=>hne ?_,Dh.1 (yU _)⟩;exact (List.getElem_inj hnd).1 (e.trans hxe.symm)
  ·rintro ⟨hne,hy⟩;obtain ⟨i,hi,rfl⟩:=Ab4.1 (Dh.2 hy);exact ⟨i,hi,fun e=>hne (by subst e; exact hxe),rfl⟩
 have he:(F7 m).eraseIdx x=((EY m).eraseIdx x).map (Bm m):=by
  unfold F7; rw[aV]
 refine ⟨?_,hs,hm,he⟩;rw[cM hs (fun y=>by rw[hm,hst]),he];exact Acx fun y hy=>hr y ((hm y).1 hy).2 ((hm y).1 hy).1
theorem PE.kill (h:PE m t) (hI:Inv m) (hS:Sh m) (hP:Kw m) {x j:Nat} (hs:Start m j) (hx:(EY m)[x]?=some j):PE (Ir m j) { t with ob:=t.ob.eraseIdx x }/\Kw (Ir m j):=by
 have hsl:=hS.sl;have hpl:=hS.pl;have hj:=hs.1;have hst:∀ y,Start (Ir m j) y↔y≠j/\Start m y:=fun y=>LU hsl hj;obtain ⟨e1,_⟩:=aD hx hst (fun y hy hne=>Nd hI hy (fun c hc=>N3 hI hs hy hne (by omega) (by omega)) (by
  show CR 1 (Fm 1 m.pnw j 0) y=_;rw[BO (.inl rfl) (by decide) (yW hne)]));refine ⟨h.Aw h.bl ?_ h.born rfl rfl,fun y hy hn=>?_⟩
 ·show t.ob.eraseIdx x=_;rw[e1,h.ob]
 ·show CR 1 (Fm 1 m.pnw j 0) y=0;by_cases e:y=j
  ·subst e; rw[Ew (.inl rfl) (by decide) (by omega)]
  ·rw[BO (.inl rfl) (by decide) (yW e)];exact hP y hy fun hq=>hn ((hst y).2 ⟨e,hq⟩)
theorem Q7.getM_none {k:Int}:∀ {l:List (Int × Int)},getM l k=none -> ∀ e ∈ l,e.1≠k
 | [],_,e,he=>by cases he
 | a::l,h,e,he=>by
   unfold getM at h;rw[Aa7] at h;cases hq:(k == a.1) with
   | true=>rw[hq] at h; cases h
   | false=>
     rw[hq] at h;rcases yL.1 he with rfl | he
     ·exact fun e'=>by rw[e'] at hq; simp at hq
     ·exact Q7.getM_none (l:=l) h e he
theorem Jd (a k:Int) (b:Int) (l:List (Int × Int)):getM ((a,b)::l) k=if k=a then some b else getM l k:=by
 unfold getM;rw[Aa7];by_cases h:k=a
 ·rw[yk h]; simp[h]
 ·rw[ym h];have:(k == a)=false:=by simpa using h
  simp only[this]
def sI (l:List (Int × Int)) (a b:Int):List (Int × Int):=(l.filter fun e=>e.1 != a)++[(a,b)]
theorem eY (l l':List (Int × Int)) (k:Int):getM (l++l') k=(getM l k).or (getM l' k):=by
 induction l with
 | nil=>simp[getM]
 | cons e l ih=>
   obtain ⟨x,y⟩:=e;rw[Ab6,Jd,Jd,ih];split <;> simp
theorem RP (a k:Int):∀ l:List (Int × Int),getM (l.filter fun e=>e.1 != a) k=if k=a then none else getM l k
 | []=>by simp[getM]
 | (x,y)::l=>by
   rw[zZ];have ih:=RP a k l;by_cases h:x=a
   ·subst h;simp only[yr,y8,yq];rw[ih,Jd];by_cases hk:k=x
    ·rw[yk hk,yk hk]
    ·rw[ym hk,ym hk,ym hk]
   ·have:(x != a)=true:=zr.2 h;simp only[this,ye];rw[Jd,ih,Jd];by_cases hk:k=x
    ·rw[yk hk,yk hk,ym (by omega)]
    ·rw[ym hk,ym hk]
theorem RY (p:Int × Int->Bool):∀ l,Q7 l->Q7 (l.filter p)
 | [],_=>trivial
 | e::l,h=>by
   rw[zZ];split
   ·refine ⟨?_,RY p l h.2⟩;have h1:=h.1;cases hq:getM (l.filter p) e.1 with
    | none=>rfl
    | some v=>
      unfold getM at hq;cases hf:(l.filter p).find? (fun e'=>e.1 == e'.1) with
      | none=>rw[hf] at hq; cases hq
      | some e'=>
        have hm:=List.mem_of_find?_eq_some hf;have he:=List.find?_some hf;have:=Q7.getM_none h1 e' (zO.1 hm).1;simp at he;exact absurd he.symm this
   ·exact RY p l h.2
theorem YE (a:Int):∀ l:List (Int × Int),Q7 l->(l.filter fun e=>e.1 != a).length+(if (getM l a).isSome then 1 else 0)=l.length
 | [],_=>by simp[getM]
 | (x,y)::l,h=>by
   have ih:=YE a l h.2;rw[zZ,Jd];by_cases he:x=a
   ·subst he;have h1:getM l x=none:=h.1;rw[h1] at ih;simp at ih ⊢;exact ih
   ·have:(x != a)=true:=zr.2 he;simp only[this,ye];rw[ym (yW he)];simp only[ze];omega
theorem gr (a b:Int):∀ l:List (Int × Int),(NR a b l).length=if (getM l a).isSome then l.length else l.length+1
 | []=>by simp[NR,getM]
 | (x,y)::l=>by
   have ih:=gr a b l;rw[NR,Jd];by_cases he:a=x
   ·subst he; simp
   ·have:(a == (x,y).1)=false:=by simpa using he
    simp only[this,y8,yq,ym he,ze,ih];split <;> rfl
theorem bd (a b:Int):∀ l:List (Int × Int),Q7 l->getM l a=none->Q7 (l++[(a,b)])
 | [],_,_=>⟨rfl,trivial⟩
 | (x,y)::l,h,hn=>by
   rw[Jd] at hn;have hne:a≠x:=fun e=>by rw[yk e] at hn; cases hn
   rw[ym hne] at hn;refine ⟨?_,bd a b l h.2 hn⟩;show getM (l++[(a,b)]) x=none;rw[eY,show getM l x=none from h.1,Jd,ym (yW hne)]; rfl
theorem PE.fwd {m':HM} {t':RM} (h:PE m t) (a b:Int) (hb:t'.bl=m'.bls) (ho:t'.ob=F7 m') (hn:t'.born=m'.births) (hf:t'.fw=sI t.fw a b) (hm:m'.fw=NR a b m.fw):PE m' t':=by
 have hno:getM (t.fw.filter fun e=>e.1 != a) a=none:=by rw[RP,yk rfl]
 refine ⟨hb,ho,hn,fun k=>?_, ?_, ?_,by rw[hm]; exact RZ _ _ _ h.o2⟩
 ·rw[hf,hm,N2];unfold sI;rw[eY,RP,Jd];by_cases hk:k=a
  ·rw[yk hk,yk hk,yk hk]; rfl
  ·rw[ym hk,ym hk,ym hk,<- h.fw k];cases getM t.fw k <;> rfl
 ·rw[hf,hm,gr];unfold sI;have h1:=YE a t.fw h.o1;rw[h.fw a] at h1;have h2:=h.fl;rw[yi];simp only[ze,zo];cases hq:(getM m.fw a).isSome with
  | true=>rw[hq] at h1; simp only[ye] at h1 ⊢; omega
  | false=>rw[hq] at h1; simp only[y8,yq] at h1 ⊢; omega
 ·rw[hf];exact bd _ _ _ (RY _ _ h.o1) hno
theorem PE.move (h:PE m t) (hI:Inv m) (hS:Sh m) (hP:Kw m) {x j u:Nat} (hs:Start m j) (hx:(EY m)[x]?=some j) (hu:u<32*m.bls.length) (hfit:2*u+sz m j<=m.wds.length)
  (hap:∀ o,Start m o->o≠j->2*o+sz m o<=2*u\/2*u+sz m j<=2*o):PE (N6 m j u) { t with ob:=Sg (t.ob.eraseIdx x) { Bm m j with addr:=((2*u:Nat):Int) },fw:=sI t.fw ((2*j:Nat):Int) ((2*u:Nat):Int) }/\Kw (N6 m j u):=by
 have hsl:=hS.sl;have hpl:=hS.pl;have hz:=hI.size hs;have tl:=sW 1 m.pnw j;have hst:=fun y=>ZB (m:=m) hS (j:=j) (t:=u) (j':=y) hs.1 hu;have hno:∀ o,Start m o->o≠j->o≠u:=by
  rintro o ho e rfl;have:=hap o ho e;have:=hI.size ho;omega
 obtain ⟨_,e2,e3,e4⟩:=aD (m':=Ir m j) hx (fun y=>LU hsl hs.1) (fun y hy hne=>Nd hI hy (fun c hc=>N3 hI hs hy hne (by omega) (by omega)) (by
  show CR 1 (Fm 1 m.pnw j 0) y=_;rw[BO (.inl rfl) (by decide) (yW hne)]));have key:F7 (N6 m j u)=Sg ((F7 m).eraseIdx x) { Bm m j with addr:=((2*u:Nat):Int) }:=by
  rw[e4];refine fM (j:=u) e2 (fun hm=>?_) (fun y=>?_) (Bm m) (LQ m) (fun y hy=>?_) ?_
  ·obtain ⟨q1,q2⟩:=(e3 u).1 hm;exact hno u q2 q1 rfl
  ·rw[hst,e3]
  ·obtain ⟨q1,q2⟩:=(e3 y).1 hy;refine Nd hI q2 (fun c hc=>Zg hI hs hfit hap q2 q1 (by omega) (by omega)) ?_;show CR 1 (Fm 1 (Fm 1 m.pnw j 0) u (CR 1 m.pnw j)) y=_;rw[BO (.inl rfl) tl (yW (hno y q2 q1)),BO (.inl rfl) (by decide) (yW q1)]
  ·refine Zv hI hs (fun c hc=>?_) ?_
   ·rw[Qj hI hs hfit,yk (by omega),show 2*j+(2*u+c-2*u)=2*j+c from by omega]
   ·show CR 1 (Fm 1 (Fm 1 m.pnw j 0) u (CR 1 m.pnw j)) u=_;rw[Ew (.inl rfl) tl (by rw[EW]; omega)]
 refine ⟨h.fwd _ _ h.bl ?_ h.born rfl rfl,fun y hy hn=>?_⟩
 ·show Sg (t.ob.eraseIdx x) _=_;rw[key,h.ob]
 ·show CR 1 (Fm 1 (Fm 1 m.pnw j 0) u (CR 1 m.pnw j)) y=0;have hy:y<32*m.bls.length:=hy;have h1:y≠u:=fun e=>hn ((hst y).2 (.inl e));rw[BO (.inl rfl) tl (yW h1)];by_cases e:y=j
  ·subst e; rw[Ew (.inl rfl) (by decide) (by omega)]
  ·rw[BO (.inl rfl) (by decide) (yW e)];exact hP y hy fun hq=>hn ((hst y).2 (.inr ⟨e,hq⟩))
theorem kI {m':HM} {x j:Nat} {o:RO} (hx:(EY m)[x]?=some j) (hst:∀ y,Start m' y↔Start m y) (hr:∀ y,Start m y->y≠j->Bm m' y=Bm m y) (ho:Bm m' j=o):F7 m'=(F7 m).set x o:=by
 obtain ⟨hxl,hxe⟩:=yu.1 hx;have hnd:(EY m).Nodup:=Vs _ _;rw[cM (Mg m) (fun y=>by rw[Dh,hst])];apply zy;intro i;unfold F7;rw[zG,z8,zI,zG];by_cases e:x=i
 ·subst e;rw[yk rfl,yk hxl,hx,<- ho]; rfl
 ·rw[ym e];cases hq:(EY m)[i]? with
  | none=>rfl
  | some y=>
    obtain ⟨hil,hie⟩:=yu.1 hq;have hy:Start m y:=Dh.1 (hie ▸ yU hil);show some _=some _;rw[hr y hy (fun e'=>e ((List.getElem_inj hnd).1 (hxe.trans (e'.symm.trans hie.symm))))]
theorem gn {m':HM} {a i n:Nat} {v:Int} (hi:i<n) (hal:a+i<m.wds.length) (hw:m'.wds=m.wds.set (a+i) v):L8 m' a n=(L8 m a n).set i v:=by
 apply zy;intro q;rw[z8,Gk];by_cases hq:q<n
 ·rw[Sm m' n a q hq,hw,Ca];by_cases e:i=q
  ·subst e; rw[yk ⟨rfl,hal⟩,yk rfl,yk hi]
  ·rw[ym (fun h=>e (by omega)),ym e,Sm m n a q hq]
 ·rw[zg (by rw[Gk]; omega),ym (by omega),zg (by rw[Gk]; omega)]
theorem gm {m':HM} {a n p:Nat} {v:Int} (h:p<a\/a+n<=p) (hw:m'.wds=m.wds.set p v):L8 m' a n=L8 m a n:=
 SI n a a fun q hq=>by rw[hw,Ca,ym (by omega)]
theorem PE.word (h:PE m t) (hI:Inv m) (hP:Kw m) {x j q:Nat} (hs:Start m j) (hx:(EY m)[x]?=some j) (hq:2+q<use m j) (v:Int):
  PE (Gz m (2*j+2+q) v) { t with ob:=t.ob.set x (if (q:Int)<Av m j then { Bm m j with refs:=(Bm m j).refs.set q v } else { Bm m j with data:=(Bm m j).data.set (q-(Av m j).toNat) v }) }/\Kw (Gz m (2*j+2+q) v):=by
 have hu:=hI.use hs;have hfit:=hI.fit j hs;have hst:∀ y,Start (Gz m (2*j+2+q) v) y↔Start m y:=fun y=>Iff.rfl;obtain ⟨_,r1,r2,r3,r4,_⟩:=Ot hI hs;have key:=Vx hI hs (t:=q) (by omega) v;have e:F7 (Gz m (2*j+2+q) v)=(F7 m).set x (if (q:Int)<Av m j then { Bm m j with refs:=(Bm m j).refs.set q v } else { Bm m j with data:=(Bm m j).data.set (q-(Av m j).toNat) v }):=by
  refine kI hx hst (fun y hy hne=>?_) ?_
  ·refine Nd hI hy (fun c hc=>?_) rfl;show (m.wds.set _ _).getD _ 0=_;rw[Ca,ym];rintro ⟨e,_⟩;exact hne (UM hI hy hs (a:=2*j+2+q) (by omega) (by omega) (by omega) (by omega))
  ·have k0:=key j hs 0 (by decide);have k1:=key j hs 1 (by decide);obtain ⟨_,_,er,ed⟩:=TN (m:=m) (m':=Gz m (2*j+2+q) v) (j:=j) (j':=j) k1;have ek:Cr (Gz m (2*j+2+q) v) j=Cr m j:=by unfold Cr; rw[k1]
   simp only[yl] at k0;unfold Bm;rw[k0,er,ed,ek];by_cases hc:(q:Int)<Av m j
   ·have a1:L8 (Gz m (2*j+2+q) v) (2*j+2) (Av m j).toNat=(L8 m (2*j+2) (Av m j).toNat).set q v:=gn (by omega) (by omega) rfl;have a2:L8 (Gz m (2*j+2+q) v) (2*j+2+(Av m j).toNat) (Bf m j).toNat=L8 m (2*j+2+(Av m j).toNat) (Bf m j).toNat:=gm (p:=2*j+2+q) (v:=v) (by omega) rfl;rw[yk hc,a1,a2];rfl
   ·have a1:L8 (Gz m (2*j+2+q) v) (2*j+2) (Av m j).toNat=L8 m (2*j+2) (Av m j).toNat:=gm (p:=2*j+2+q) (v:=v) (by omega) rfl;have a2:L8 (Gz m (2*j+2+q) v) (2*j+2+(Av m j).toNat) (Bf m j).toNat=(L8 m (2*j+2+(Av m j).toNat) (Bf m j).toNat).set (q-(Av m j).toNat) v:=gn (by omega) (by omega) (by
     show m.wds.set _ _=_;rw[show 2*j+2+q=2*j+2+(Av m j).toNat+(q-(Av m j).toNat) from by omega]);rw[ym hc,a1,a2];rfl
 exact ⟨h.Aw h.bl (by show t.ob.set x _=_; rw[e,h.ob]) h.born rfl rfl,hP⟩
theorem PE.pins (h:PE m t) (hI:Inv m) (hS:Sh m) (hP:Kw m) {x j:Nat} (hs:Start m j) (hx:(EY m)[x]?=some j) (b:Bool):
  PE { m with pnw:=Fm 1 m.pnw j (if b then 1 else 0) } { t with ob:=t.ob.set x { Bm m j with Wg:=b } }/\Kw { m with pnw:=Fm 1 m.pnw j (if b then 1 else 0) }:=by
 have hpl:=hS.pl;have hj:=hs.1;have hb:(if b then 1 else 0)<2 ^ 1:=by cases b <;> decide
 have e:F7 { m with pnw:=Fm 1 m.pnw j (if b then 1 else 0) }=(F7 m).set x { Bm m j with Wg:=b }:=by
  refine kI hx (fun y=>Iff.rfl) (fun y hy hne=>Nd hI hy (fun c hc=>rfl) ?_) ?_
  ·show CR 1 (Fm 1 m.pnw j _) y=_;rw[BO (.inl rfl) hb (yW hne)]
  ·show (⟨_,_,_,_,_,_,_,decide (CR 1 (Fm 1 m.pnw j (if b then 1 else 0)) j=1)⟩:RO)=_;rw[Ew (.inl rfl) hb (by omega)];cases b <;> rfl
 refine ⟨h.Aw h.bl (by show t.ob.set x _=_; rw[e,h.ob]) h.born rfl rfl,fun y hy hn=>?_⟩;show CR 1 (Fm 1 m.pnw j _) y=0;have hne:y≠j:=fun e=>hn (e ▸ hs);rw[BO (.inl rfl) hb (yW hne)];exact hP y hy hn
theorem PE.forget (h:PE m t):PE { m with fw:=[] } { t with fw:=[] }:=⟨h.bl,h.ob,h.born,fun _=>rfl,rfl,trivial,trivial⟩
theorem PE.blocks (h:PE m t) (l:List (Int × Int)) (hl:l.length=m.bls.length):PE { m with bls:=l } { t with bl:=l }:=by
 refine h.Aw rfl ?_ h.born rfl rfl;show t.ob=_;rw[h.ob];unfold F7 EY;show _=(D6 { m with bls:=l } 0 (32*l.length)).map _;rw[hl]; rfl
theorem Kw.blocks (hP:Kw m) (l:List (Int × Int)) (hl:l.length=m.bls.length):Kw { m with bls:=l }:=by
 intro y hy hn;have hy:y<32*l.length:=hy;refine hP y (by omega) fun hs=>hn ⟨?_,hs.2⟩;show y<32*l.length;exact hy
end
end
end Go.Proofs.YtjbledomkmdkmaaGreat
