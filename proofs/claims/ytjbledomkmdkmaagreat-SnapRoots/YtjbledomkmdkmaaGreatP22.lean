/- The document's heap in memory; looks.; The document's heap: looks at one object, one block, one word.; The document's heap: lists of objects, gaps, li -/
import Derived.Test.YtjbledomkmdkmaaGreatP21
set_option linter.unusedVariables false
set_option linter.unusedSimpArgs false
set_option linter.unusedSectionVars false
namespace Go.Proofs.YtjbledomkmdkmaaGreat
open Go Go.AX
noncomputable section
local instance yR:AA:=Ap
section
variable {J:Aa} {m:HM} {t:RM}
def Eg (J:Aa) (s:Bp) (l:List Int):Prop:=s.2.1=l.length/\(l≠[] -> ∃ b c,s=(some ⟨b,0,none⟩,l.length,c)/\J[b]?=some (.cells (AZ l) Aj true)) /\ ∀ a,s.1=some a -> ∃ cs T w,J[a.block]?=some (.cells cs T w)/\a.off<=cs.length
def hs (s:Bp):List Nat:=match s.1 with
 | some a=>[a.block]
 | none=>[]
theorem BN {s:Bp} {b:Nat}:b ∈ hs s ↔ ∃ a,s.1=some a/\a.block=b:=by
 unfold hs;cases s.1 with
 | none=>simp
 | some a=>simp[eq_comm]
def Bi (o:RO) (p:Bp × Bp):List Value:=[.int .i64 o.addr,.int .i64 o.id,.int .i64 o.r,.int .i64 o.d,.int .i64 o.k,.slice p.1.1 p.1.2.1 p.1.2.2,.slice p.2.1 p.2.2.1 p.2.2.2,.bool o.Wg]
def D3:List RO->List (Bp × Bp)->List Value
 | o::l,p::om=>Bi o p++D3 l om
 | _,_=>[]
theorem MY:∀ (l:List RO) (om:List (Bp × Bp)),om.length=l.length->(D3 l om).length=l.length*8
 | [],[],_=>rfl
 | [],p::om,h=>by simp at h
 | o::l,[],h=>by simp at h
 | o::l,p::om,h=>by
   have:=MY l om (by simpa using h);simp[D3,Bi,this]; omega
theorem aY:∀ (l:List RO) (om:List (Bp × Bp)) (x:Nat) (h:x<l.length) (h':x<om.length) (q:Nat),q<8->(D3 l om)[x*8+q]?=(Bi l[x] om[x])[q]?
 | [],om,x,h,_,_,_=>by simp at h
 | o::l,[],x,_,h',_,_=>by simp at h'
 | o::l,p::om,0,h,h',q,hq=>by
   simp only[D3,zw,IN,Abc];rw[AT (by simp[Bi]; omega)]
 | o::l,p::om,x+1,h,h',q,hq=>by
   have ih:=aY l om x (by simpa using h) (by simpa using h') q hq;simp only[D3,Abq];rw[yD (by simp[Bi]; omega),show (x+1)*8+q-(Bi o p).length=x*8+q from by simp[Bi]; omega,ih]
def XO (J:Aa) (s:Bp) (l:List (Int × Int)):Prop:=Cq Xe 2 J s l.length (CB l)\/(l=[] /\ ∃ b cs T w,s=(some ⟨b,0,some 0⟩,0,0)/\J[b]?=some (.cells cs T w))
theorem XO.Aw {J':Aa} {s:Bp} {l:List (Int × Int)} (h:XO J s l) (hs:∀ a,s.1=some a->J'[a.block]?=J[a.block]?):XO J' s l:=by
 rcases h with h | ⟨h0,b,cs,T,w,rfl,hc⟩
 ·exact .inl (h.Aw hs)
 ·exact .inr ⟨h0,b,cs,T,w,rfl,(hs _ rfl).trans hc⟩
theorem XO.form {s:Bp} {l:List (Int × Int)} (h:XO J s l):s=(s.1,l.length,l.length):=by
 rcases h with h | ⟨rfl,b,cs,T,w,rfl,hc⟩
 ·exact h.form
 ·rfl
theorem XO.sl {s:Bp} {l:List (Int × Int)} (h:XO J s l) {x:Nat} (hx:x<l.length):Cq Xe 2 J s l.length (CB l):=by
 rcases h with h | ⟨rfl,_⟩
 ·exact h
 ·simp at hx
structure RI where
 hb:Nat
 bs:Bp
 os:Bp
 fs:Bp
 om:List (Bp × Bp)
def RI.l (i:RI):List Nat:=i.hb::(hs i.bs++(hs i.os++(hs i.fs++i.om.flatMap fun p=>hs p.1++hs p.2)))
structure Im (J:Aa) (i:RI) (t:RM):Prop where
 hp:J[i.hb]?=some (.cells [.slice i.bs.1 i.bs.2.1 i.bs.2.2,.slice i.os.1 i.os.2.1 i.os.2.2,.slice i.fs.1 i.fs.2.1 i.fs.2.2,.int .i64 t.born] CH true)
 bl:Cq An 2 J i.bs t.bl.length (CB t.bl)
 ob:Cq Ab 8 J i.os t.ob.length (D3 t.ob i.om)
 fw:XO J i.fs t.fw
 ol:i.om.length=t.ob.length
 inn:∀ (x:Nat) (h:x<t.ob.length) (h':x<i.om.length),Eg J i.om[x].1 t.ob[x].refs/\Eg J i.om[x].2 t.ob[x].data
 nd:i.l.Nodup
 lt:∀ j ∈ i.l,j<J.length
theorem Eg.Aw {J':Aa} {s:Bp} {l:List Int} (h:Eg J s l) (hs:∀ b ∈ hs s,J'[b]?=J[b]?):Eg J' s l:=by
 refine ⟨h.1,fun hn=>?_,fun a ha=>?_⟩
 ·obtain ⟨b,c,rfl,hc⟩:=h.2.1 hn;exact ⟨b,c,rfl,(hs b (BN.2 ⟨_,rfl,rfl⟩)).trans hc⟩
 ·obtain ⟨cs,T,w,h1,h2⟩:=h.2.2 a ha;exact ⟨cs,T,w,(hs _ (BN.2 ⟨a,ha,rfl⟩)).trans h1,h2⟩
theorem RI.K1 (i:RI):i.hb ∈ i.l:=zi
theorem RI.ur (i:RI) {b:Nat} (h:b ∈ hs i.bs):b ∈ i.l:=yJ _ (yf.2 (.inl h))
theorem RI.uC (i:RI) {b:Nat} (h:b ∈ hs i.os):b ∈ i.l:=yJ _ (yf.2 (.inr (yf.2 (.inl h))))
theorem RI.uy (i:RI) {b:Nat} (h:b ∈ hs i.fs):b ∈ i.l:=yJ _ (yf.2 (.inr (yf.2 (.inr (yf.2 (.inl h))))))
theorem RI.Ih (i:RI) {b x:Nat} (hx:x<i.om.length) (h:b ∈ hs i.om[x].1\/b ∈ hs i.om[x].2):b ∈ i.l:=
 yJ _ (yf.2 (.inr (yf.2 (.inr (yf.2 (.inr (Aa1.2 ⟨_,yU hx,yf.2 h⟩)))))))
theorem Im.Aw {J':Aa} {i:RI} (h:Im J i t) (hs:∀ j ∈ i.l,J'[j]?=J[j]?) (hl:J.length<=J'.length):Im J' i t where
 hp:=(hs _ i.K1).trans h.hp
 bl:=h.bl.Aw fun a ha=>hs _ (i.ur (BN.2 ⟨a,ha,rfl⟩))
 ob:=h.ob.Aw fun a ha=>hs _ (i.uC (BN.2 ⟨a,ha,rfl⟩))
 fw:=h.fw.Aw fun a ha=>hs _ (i.uy (BN.2 ⟨a,ha,rfl⟩))
 ol:=h.ol
 inn:=fun x p q=>⟨(h.inn x p q).1.Aw fun b hb=>hs _ (i.Ih q (.inl hb)),(h.inn x p q).2.Aw fun b hb=>hs _ (i.Ih q (.inr hb))⟩
 nd:=h.nd
 lt:=fun j hj=>yG (h.lt j hj) hl
theorem Im.app {i:RI} (h:Im J i t) (τ:Aa):Im (J++τ) i t:=h.Aw (fun j hj=>AT (h.lt j hj)) (by simp)
abbrev Bx (i:RI):Option Addr:=some ⟨i.hb,0,none⟩
variable {i:RI}
theorem Im.GK (h:Im J i t):AR J i.hb 0=some (i.bs.1,t.bl.length,t.bl.length):=by
 have:=h.bl.form;simp only[AR,D5,h.hp];rw[this]; simp[ED]
theorem Im.E6 (h:Im J i t):AR J i.hb 1=some (i.os.1,t.ob.length,t.ob.length):=by
 have:=h.ob.form;simp only[AR,D5,h.hp];rw[this]; simp[ED]
theorem Im.SE (h:Im J i t):AR J i.hb 2=some (i.fs.1,t.fw.length,t.fw.length):=by
 have:=h.fw.form;simp only[AR,D5,h.hp];rw[this]; simp[ED]
theorem Im.ZJ (h:Im J i t):Ak .i64 J i.hb 3=some t.born:=by simp[Ak,D5,h.hp,Bn]
theorem Qm {E:TypeId} {sl:Bp} {l:List (Int × Int)} (h:Cq E 2 J sl l.length (CB l)) {x:Nat} (hx:x<l.length):∃ b,sl.1=some ⟨b,0,none⟩/\Ak .i64 J b (x*2)=some (l.getD x (0,0)).1/\Ak .i64 J b (x*2+1)=some (l.getD x (0,0)).2/\J[b]?=some (.cells (CB l) E true):=by
 rcases h with ⟨h0,_⟩ | ⟨b,rfl,_,_,hc⟩
 ·omega
 ·obtain ⟨g0,g1⟩:=Sw l x hx;rw[Abp] at g0 g1;refine ⟨b,rfl, ?_, ?_,hc⟩
  ·simp only[Ak,D5,hc,g0,AI,Ag]
  ·simp only[Ak,D5,hc,g1,AI,Ag]
structure tU (J:Aa) (b x:Nat) (o:RO) (p:Bp × Bp):Prop where
 l0:Ak .i64 J b (x*8)=some o.addr
 l1:Ak .i64 J b (x*8+1)=some o.id
 l2:Ak .i64 J b (x*8+2)=some o.r
 l3:Ak .i64 J b (x*8+3)=some o.d
 l4:Ak .i64 J b (x*8+4)=some o.k
 l5:AR J b (x*8+5)=some (p.1.1,p.1.2.1,p.1.2.2)
 l6:AR J b (x*8+6)=some (p.2.1,p.2.2.1,p.2.2.2)
 l7:Tq J b (x*8+7)=some o.Wg
theorem Im.obj (h:Im J i t) {x:Nat} (hx:x<t.ob.length):∃ b,i.os.1=some ⟨b,0,none⟩/\J[b]?=some (.cells (D3 t.ob i.om) Ab true) /\ ∀ (h':x<i.om.length),tU J b x t.ob[x] i.om[x]:=by
 rcases h.ob with ⟨h0,_⟩ | ⟨b,e,_,_,hc⟩
 ·omega
 ·refine ⟨b,by rw[e],hc,fun h'=>?_⟩;have g:=fun q hq=>aY t.ob i.om x hx h' q hq;have g0:=g 0 (by decide);rw[yl] at g0;constructor
  ·simp only[Ak,D5,hc,g0]; rfl
  ·simp only[Ak,D5,hc,g 1 (by decide)]; rfl
  ·simp only[Ak,D5,hc,g 2 (by decide)]; rfl
  ·simp only[Ak,D5,hc,g 3 (by decide)]; rfl
  ·simp only[Ak,D5,hc,g 4 (by decide)]; rfl
  ·simp only[AR,D5,hc,g 5 (by decide)]; rfl
  ·simp only[AR,D5,hc,g 6 (by decide)]; rfl
  ·simp only[Tq,D5,hc,g 7 (by decide)]; rfl
theorem Zu (k:Nat) (h:Im J i t) (hb:t.bl≠[]):AL (k+1) (Bx i) J=some (.bool true,J):=by
 have:0<t.bl.length:=Aba.2 hb;rw[R1];simp only[Y9,AI,yY,IT,IN,yl,h.GK];rw[xZ (by omega)]
theorem Vj (k:Nat) (h:Im J i t) (hn:t.ob.length<=5000) (a:Int):∀ (n x f:Nat),x+n=t.ob.length->n<f->Er k f (Bx i) a (x:Int) J=some (match MU (t.ob.drop x) a with | some y=>(.ret,[.int .i64 ((x+y:Nat):Int)],J) | none=>(.exit 0,[],J))
 | 0,x,0,hx,hf=>by omega
 | 0,x,f+1,hx,hf=>by
   rw[Kf,yS (by omega)];have q:decide ((x:Int)<((t.ob.length:Nat):Int))=false:=xY (by omega);simp only[AI,IN,yl,h.E6,q,By,MU]
 | n+1,x,0,hx,hf=>by omega
 | n+1,x,f+1,hx,hf=>by
   have hxl:x<t.ob.length:=by omega
   have ih:=Vj k h hn a n (x+1) f (by omega) (by omega);obtain ⟨b,eb,_,L⟩:=h.obj hxl;have L:=L (by rw[h.ol]; exact hxl);rw[yO hxl,Kf,MU];have q:decide ((x:Int)<((t.ob.length:Nat):Int))=true:=xZ (by omega);have qx:(0<=(x:Int)/\(x:Int)<((t.ob.length:Nat):Int))=True:=zl (by omega);have w1:Ar ((x:Int)+1)=((x+1:Nat):Int):=Ah (by unfold AK; omega);simp only[AI,IN,yl,h.E6,q,IT,qx,ye,eb,xQ,L.l0,w1];by_cases e:t.ob[x].addr=a
   ·rw[yk e,zJ.2 e]; simp only[IT,yl]
   ·rw[ym e,yM.2 e];simp only[By,ih];cases MU (t.ob.drop (x+1)) a with
    | none=>rfl
    | some y=>simp only[Aa8,show x+(y+1)=x+1+y from by omega]
def ck (l:List RO) (a:Int):Int:=match MU l a with
 | some x=>(x:Int)
 | none=>-1
theorem bt (k:Nat) (hk:5000<=k) (h:Im J i t) (hb:t.bl≠[]) (hn:t.ob.length<=5000) (a:Int):AH (k+2) (Bx i) a J=some (.int .i64 (ck t.ob a),J):=by
 have e:=Vj (k+1) h hn a t.ob.length 0 (k+1) (by omega) (by omega);rw[yV,show ((0:Nat):Int)=0 from rfl] at e;rw[QK];simp only[Zu k h hb,AI,Ao,yp,By,e,ck];cases MU t.ob a with
 | none=>simp only[ye]
 | some y=>simp only[reduceCtorEq,yq,ye,D7,IN]
theorem pe {l:List RO} {a:Int}:decide (ck l a<0)=(MU l a).isNone:=by
 unfold ck;cases MU l a with
 | none=>rfl
 | some y=>exact xY (show ¬ (y:Int)<0 by omega)
theorem ni (k:Nat) (hk:5000<=k) (h:Im J i t) (hb:t.bl≠[]) (hn:t.ob.length<=5000) (a:Int):BM (k+3) (Bx i) a J=some (.int .i64 (if (MU t.ob a).isSome then 0 else 4),J):=by
 rw[QR];simp only[Zu (k+1) h hb,AI,Ao,yp,By,bt k hk h hb hn a,Ag,pe];cases MU t.ob a <;> rfl
end
section
variable {J:Aa} {m:HM} {t:RM} {i:RI}
structure RG (J:Aa) (i:RI) (m:HM) (t:RM):Prop where
 at_:Im J i t
 sim:PE m t
 inv:Inv m
 inv2:Inv2 m
 wl:m.wds.length=64*m.bls.length
 nb:2<=m.bls.length
 nt:m.bls.length<=64
theorem RG.app (h:RG J i m t) (τ:Aa):RG (J++τ) i m t:=⟨h.at_.app τ,h.sim,h.inv,h.inv2,h.wl,h.nb,h.nt⟩
theorem RG.Aw {J':Aa} (h:RG J i m t) (hs:∀ j ∈ i.l,J'[j]?=J[j]?) (hl:J.length<=J'.length):RG J' i m t:=⟨h.at_.Aw hs hl,h.sim,h.inv,h.inv2,h.wl,h.nb,h.nt⟩
theorem RG.bn (h:RG J i m t):t.bl.length=m.bls.length:=by rw[h.sim.bl]
theorem RG.ne (h:RG J i m t):t.bl≠[]:=by
 intro e;have:=h.bn;have:=h.nb;rw[e] at *;simp at *;omega
theorem RG.ol (h:RG J i m t):t.ob.length<=2048:=by
 rw[h.sim.ob];have:=LV m 0 (32*m.bls.length);have:=h.nt;unfold F7 EY;rw[zI];omega
theorem MV (k:Nat) (h:RG J i m t):AL (k+1) (Bx i) J=some (.bool true,J):=Zu k h.at_ h.ne
theorem Eg.u9 {s:Bp} {l:List Int} (h:Eg J s l) {x:Nat} (hx:x<l.length):∃ b,s.1=some ⟨b,0,none⟩/\Ak .i64 J b x=some (l.getD x 0)/\J[b]?=some (.cells (AZ l) Aj true):=by
 obtain ⟨b,c,rfl,hc⟩:=h.2.1 (fun e=>by rw[e] at hx; simp at hx);exact ⟨b,rfl,iK hc hx,hc⟩
structure Found (J:Aa) (i:RI) (m:HM) (t:RM) (a:Int) (x j b:Nat) (p:Bp × Bp):Prop where
 idx:ck t.ob a=(x:Int)
 idx':MU t.ob a=some x
 xl:x<t.ob.length
 st:Start m j
 e:a=((2*j:Nat):Int)
 all:(EY m)[x]?=some j
 ob:t.ob[x]?=some (Bm m j)
 os:i.os.1=some ⟨b,0,none⟩
 cell:J[b]?=some (.cells (D3 t.ob i.om) Ab true)
 om:i.om[x]?=some p
 ld:tU J b x (Bm m j) p
 rs:Eg J p.1 (Bm m j).refs
 ds:Eg J p.2 (Bm m j).data
theorem RG.found (h:RG J i m t) {a:Int} (hh:AU m a=true):∃ x j b p,Found J i m t a x j b p:=by
 obtain ⟨h1,h2⟩:=h.sim.idx a;cases hq:MU t.ob a with
 | none=>rw[h2 hq] at hh; cases hh
 | some x=>
   obtain ⟨q1,j,q2,q3,_,q5,q6⟩:=h1 x hq;obtain ⟨b,e1,e2,L⟩:=h.at_.obj q1;have hom:x<i.om.length:=by rw[h.at_.ol]; exact q1
   have eo:t.ob[x]=Bm m j:=by rw[yg q1] at q6; exact zH q6
   have L:=L hom;rw[eo] at L;obtain ⟨n1,n2⟩:=h.at_.inn x q1 hom;rw[eo] at n1 n2;exact ⟨x,j,b,i.om[x],by unfold ck; rw[hq],hq,q1,q2,q3,q5,q6,e1,e2,yg hom,L,n1,n2⟩
theorem RG.lost (h:RG J i m t) {a:Int} (hh:AU m a=false):ck t.ob a = -1/\MU t.ob a=none:=by
 have:=h.sim.has a;rw[hh] at this;unfold ck;cases hq:MU t.ob a with
 | none=>exact ⟨rfl,rfl⟩
 | some x=>rw[hq] at this; cases this
theorem NB (k:Nat) (hk:5000<=k) (h:RG J i m t) (a:Int):AH (k+2) (Bx i) a J=some (.int .i64 (ck t.ob a),J):=bt k hk h.at_ h.ne (by have:=h.ol; omega) a
theorem Vo (k:Nat) (hk:5000<=k) (h:RG J i m t) (a:Int):BM (k+3) (Bx i) a J=some (.int .i64 (if AU m a then 0 else 4),J):=by
 rw[ni k hk h.at_ h.ne (by have:=h.ol; omega) a,h.sim.has]
theorem k9 (k:Nat) (hk:5000<=k) (h:RG J i m t) (a:Int):EM (k+3) (Bx i) a J=some (.bool (AU m a),J):=by
 rw[SZ];simp only[NB k hk h a,AI,Ag];cases hh:AU m a with
 | true=>
   obtain ⟨x,j,b,p,F⟩:=h.found hh;rw[F.idx,xZ (by omega)]
 | false=>rw[(h.lost hh).1]; rfl
theorem vK:((4:Int) != 0)=true:=rfl
theorem cY {J:Aa} {cs vs:List Value} {T:TypeId} (h:vs.length=cs.length):H2 (J++[.cells cs T true]) J.length 0 vs=some (J++[.cells vs T true]):=by
 simp only[H2,yK];rw[yk (by omega)];simp[AP,h]
theorem EV (J:Aa) (T:TypeId) (a b c x y z:Value):H2 (J++[.cells [a,b,c] T true]) J.length 0 [x,y,z]=some (J++[.cells [x,y,z] T true]):=cY rfl
theorem g8 (J:Aa) (T:TypeId) (a b c d e f g h x y z u v w p q:Value):H2 (J++[.cells [a,b,c,d,e,f,g,h] T true]) J.length 0 [x,y,z,u,v,w,p,q]=some (J++[.cells [x,y,z,u,v,w,p,q] T true]):=cY rfl
def jo (m:HM) (j:Nat):Value:=.agg #[.int .i64 (Av m j),.int .i64 (Bf m j),.int .i64 (Cr m j)]
def jn:Value:=.agg #[.int .i64 0,.int .i64 0,.int .i64 0]
theorem na (k:Nat) (hk:5000<=k) (h:RG J i m t) (a:Int):∃ τ,FI (k+4) (Bx i) a J=some (.tuple #[if AU m a then jo m (a.toNat/2) else jn,.int .i64 (if AU m a then 0 else 4)],J++τ):=by
 rw[QM];simp only[Ae];have h1:=h.app [Au.cells [.int .i64 (0:Int),.int .i64 (0:Int),.int .i64 (0:Int)] Ad true];have hix:=NB (k+1) (by omega) h1 a;simp only[Vo k hk h1 a,AI,Ag];have hN:∀ x y z:Value,M9 (J++[Au.cells [x,y,z] Ad true]) J.length 0 3=some [x,y,z]:=fun x y z=>by simp[M9]
 cases hh:AU m a with
 | true=>
   obtain ⟨x,j,b,p,F⟩:=h1.found hh;have hx:=F.xl;refine ⟨[Au.cells [.int .i64 (Av m j),.int .i64 (Bf m j),.int .i64 (Cr m j)] Ad true], ?_⟩;simp only[ye,yr,By,AI,IN,h1.at_.E6,hix,Ag,F.idx];rw[yk (by omega)];simp only[F.os,AI,xQ,IN,zu,Nat.reduceAdd,F.ld.l2,F.ld.l3,F.ld.l4,EV,hN,KR];rw[F.e,xQ,show 2*j/2=j from by omega]; rfl
 | false=>
   refine ⟨[Au.cells [.int .i64 0,.int .i64 0,.int .i64 0] Ad true], ?_⟩;simp only[y8,yq,vK,IT,EV,AI,hN,KR];rfl
def J0 (m:HM) (a x:Int) (data:Bool):Int × Int:=if (B9 m a x data).2=0 then (m.wds.getD (B9 m a x data).1.toNat 0,0) else (0,(B9 m a x data).2)
theorem Uz (k:Nat) (h:RG J i m t):Ct (k+2) (Bx i) J=some (.int .i64 ((m.bls.length:Nat):Int),J):=by
 rw[PQ];simp only[MV k h,AI,Ao,yp,By,IN,yl,h.at_.GK,h.bn]
def Cb (m:HM) (b:Int):Int:=if 0<=b/\b<(m.bls.length:Int) then (m.bls.getD b.toNat (0,0)).1 else -1
def Lx (m:HM) (b:Int):Int:=if 0<=b/\b<(m.bls.length:Int) then (m.bls.getD b.toNat (0,0)).2 else -1
theorem Wj (k:Nat) (h:RG J i m t) (b:Int):Cg (k+2) (Bx i) b J=some (.int .i64 (Cb m b),J):=by
 rw[QO];simp only[MV k h,AI,Ao,yp,By];unfold Cb;by_cases h0:b<0
 ·rw[xZ h0,ym (by omega)];simp only[IT,AI]
 rw[xY h0];simp only[By,AI,IN,yl,h.at_.GK,h.bn];by_cases h1:b>=(m.bls.length:Int)
 ·have q:(0<=b/\b<(m.bls.length:Int))=False:=Ad0 (by omega);simp only[xZ h1,q,yq,IT]
 rw[xY h1,yk (by omega),yk (by omega)];obtain ⟨n,rfl⟩:∃ n:Nat,b=(n:Int):=⟨b.toNat,by omega⟩;obtain ⟨q,e,l0,l1,_⟩:=Qm h.at_.bl (x:=n) (by rw[h.bn]; omega);rw[h.sim.bl] at l0;simp only[By,e,AI,xQ,IN,l0]
theorem nc (k:Nat) (h:RG J i m t) (b:Int):E9 (k+2) (Bx i) b J=some (.int .i64 (Lx m b),J):=by
 rw[QN];simp only[MV k h,AI,Ao,yp,By];unfold Lx;by_cases h0:b<0
 ·rw[xZ h0,ym (by omega)];simp only[IT,AI]
 rw[xY h0];simp only[By,AI,IN,yl,h.at_.GK,h.bn];by_cases h1:b>=(m.bls.length:Int)
 ·have q:(0<=b/\b<(m.bls.length:Int))=False:=Ad0 (by omega);simp only[xZ h1,q,yq,IT]
 rw[xY h1,yk (by omega),yk (by omega)];obtain ⟨n,rfl⟩:∃ n:Nat,b=(n:Int):=⟨b.toNat,by omega⟩;obtain ⟨q,e,l0,l1,_⟩:=Qm h.at_.bl (x:=n) (by rw[h.bn]; omega);rw[h.sim.bl] at l1;simp only[By,e,AI,xQ,IN,l1]
end
section
variable {J:Aa} {m:HM} {t:RM} {i:RI}
theorem Vm (k:Nat) (a b c:Int) (J:Aa):Xi (H5 (k+1) a b c J) J (.bool (valid a b c)):=by
 simp only[Xi,VM,Ae,Bh,IN,yy,yB,AI,Ag,fK];by_cases hA:a<0\/a>15\/b<0\/b>200
 ·have h1:(bif bif bif decide (a<0) then true else decide (a>15) then true else decide (b<0) then true else decide (b>200))=true:=by
   simp[Adh]; omega
  have h2:valid a b c=false:=by simp[valid]; omega
  rw[h1,h2];exact ⟨_,rfl⟩
 ·have h1:(bif bif bif decide (a<0) then true else decide (a>15) then true else decide (b<0) then true else decide (b>200))=false:=by
   simp[Adh]; omega
  rw[h1];simp only[By];by_cases h0:c=0
  ·subst h0;have h2:valid a b 0=true:=by simp[valid]; omega
   rw[h2];exact ⟨_,rfl⟩
  have e0:(c == 0)=false:=by simpa using h0
  by_cases h3:c=3
  ·subst h3;have h2:valid a b 3=true:=by simp[valid]; omega
   rw[h2];exact ⟨_,rfl⟩
  have e3:(c == 3)=false:=by simpa using h3
  simp only[e0,e3,By,AI,ye,j4];by_cases h4:c=1
  ·subst h4;have h2:valid a b 1=decide (a>=1):=by rw[valid,Acl]; simp; omega
   rw[h2];simp only[Adj,IT,Bh,yy,AI,Ag];exact ⟨_,rfl⟩
  have e4:(c == 1)=false:=by simpa using h4
  by_cases h5:c=2
  ·subst h5;have h2:valid a b 2=decide (a>=2):=by rw[valid,Acl]; simp; omega
   rw[h2];simp only[e4,By,Adj,IT,Bh,yy,AI,Ag];exact ⟨_,rfl⟩
  have e5:(c == 2)=false:=by simpa using h5
  have h2:valid a b c=false:=by simp[valid]; omega
  simp only[e4,e5,By,h2];exact ⟨_,rfl⟩
theorem I9 (k:Nat) (a b c:Int) (J:Aa):Xi (BW (k+2) a b c J) J (.int .i64 (words a b c)):=by
 unfold Xi;rw[VN];simp only[Ae,Bh,IN,yy,yB,AI,Ag];rw[(Vm _ _ _ _ _).eq];simp only[AI,Ao,FU,yy,yB,Ag];unfold words;rcases Bool.eq_false_or_eq_true (valid a b c) with hv | hv
 rotate_left
 ·simp only[hv,yY,IT,By,ya];exact ⟨_,rfl⟩
 ·simp only[hv,yp,IT,By,ya];simp[valid] at hv;simp only[show ((2:Int)=0)=False from by simp,yq];refine ⟨_,zC some (Ac5 (zC (Value.int .i64) ?_) rfl)⟩;simp only[Ar];have e1:IntKind.i64.wrap (2+a)=2+a:=by rw[Aar]; omega
  have e2:IntKind.i64.wrap (2+a+b)=2+a+b:=by rw[Aar]; omega
  rw[e1,e2,Ab2 (by omega),Aar];omega
theorem Om {E:TypeId} {s by_:Nat} {z:Value} (hs:GY P E=some s) (hb:bytesOf P E=some by_) (hz:Fq P E=some z) (hz1:Gi z=false) (hz2:z.cells.size=s) (hs0:0<s) (hb0:0<by_) (hb1:by_<=1000)
  (J τ:Aa) (sl:Bp) (n:Nat) (row:List Value) (n' c:Nat) (row':List Value) (T:TypeId) (hn:n+n'<=1000000) (hn0:0<n') (hr:row'.length=n'*s) (hsl:Cq E s (J++τ) sl n row) (hbh:∀ a,sl.1=some a->J.length<=a.block):
  ∃ s' τ',AF P E sl (some ⟨(J++τ).length,0,none⟩,n',c) (J++τ++[.cells row' T true])=some (s',J++τ')/\Cq E s (J++τ') s' (n+n') (row++row')/\(∀ a,s'.1=some a->J.length<=a.block):=by
 obtain ⟨s',J',e,g,h⟩:=Ms hs hb hz hz1 hz2 hs0 hb0 hb1 (J++τ) sl n row n' c row' T hn hn0 hr hsl;obtain ⟨⟨τ',rfl⟩,h2⟩:=g.behind hbh;exact ⟨s',τ',e,h,h2⟩
theorem Cq.ints {lo:Nat} {s:Bp} {l:List Int} (h:Cq Aj 1 J s l.length (AZ l)) (hl:∀ a,s.1=some a->lo<=a.block) (hne:l=[]->s=(none,0,0)):Dt lo J s l:=by
 by_cases e:l=[]
 ·exact .inl ⟨e,hne e⟩
 ·rcases h with ⟨h1,_,_⟩ | ⟨b,rfl,_,_,hc⟩
  ·exact absurd (zV.1 h1) e
  ·exact .inr ⟨b,hl _ rfl,rfl,e,hc⟩
theorem YU (J τ:Aa) (s:Bp) (l:List Int) (x:Int) (hl:l.length<=900000) (hs:Dt J.length (J++τ) s l):
  ∃ s' τ',AF P Aj s (some ⟨(J++τ).length,0,none⟩,1,1) (J++τ++[.cells [.int .i64 x] Aj true])=some (s',J++τ')/\Dt J.length (J++τ') s' (l++[x]):=by
 obtain ⟨s',τ',e,h1,h2⟩:=Om rh qX nS rfl rfl (by decide) (by decide) (by decide) J τ s l.length (AZ l) 1 1 [.int .i64 x] Aj (by omega) (by decide) rfl hs.sl (fun a ha=>(hs.ge a ha).1);refine ⟨s',τ',e,Cq.ints ?_ h2 (fun e=>by simp at e)⟩;rw[Lr,yi];exact h1
theorem RG.drop (h:RG J i m t) {x:Nat} (hx:x<t.ob.length):∃ j,(EY m)[x]?=some j/\x<(EY m).length/\Start m j/\t.ob[x]?=some (Bm m j):=by
 have hl:t.ob.length=(EY m).length:=by rw[h.sim.ob]; simp[F7]
 have hx':x<(EY m).length:=by omega
 refine ⟨(EY m)[x],yg hx',hx',Dh.1 (yU hx'), ?_⟩;rw[h.sim.ob];unfold F7;rw[zG,yg hx']; rfl
theorem RG.vw (h:RG J i m t):t.ob.length=(EY m).length:=by rw[h.sim.ob]; simp[F7]
structure At (J:Aa) (i:RI) (m:HM) (t:RM) (x j b:Nat) (p:Bp × Bp):Prop where
 st:Start m j
 all:(EY m)[x]?=some j
 xl:x<(EY m).length
 os:i.os.1=some ⟨b,0,none⟩
 cell:J[b]?=some (.cells (D3 t.ob i.om) Ab true)
 om:i.om[x]?=some p
 ld:tU J b x (Bm m j) p
 lt:j<2048
 dr:(EY m).drop x=j::(EY m).drop (x+1)
theorem RG.xi (h:RG J i m t) {x:Nat} (hx:x<t.ob.length):∃ j b p,At J i m t x j b p:=by
 obtain ⟨j,h1,h2,h3,h4⟩:=h.drop hx;obtain ⟨b,e1,e2,L⟩:=h.at_.obj hx;have hom:x<i.om.length:=by rw[h.at_.ol]; exact hx
 have eo:t.ob[x]=Bm m j:=by rw[yg hx] at h4; exact zH h4
 have L:=L hom;rw[eo] at L;have:=h3.1;have:=h.nt;refine ⟨j,b,i.om[x],h3,h1,h2,e1,e2,yg hom,L,by omega, ?_⟩;rw[yO h2];rw[yg h2] at h1;rw[zH h1]
def sr (L:List Nat) (b:Int):List Nat:=L.filter fun j=>decide (((2*j/64:Nat):Int)=b)
theorem NC (k:Nat) (h:RG J i m t) (bk:Int):∀ (n x f:Nat) (τ:Aa) (s:Bp),x+n=t.ob.length->Dt J.length (J++τ) s (CK (sr ((EY m).take x) bk))->n<f ->
  ∃ τ' s',DA (k+1) f (Bx i) bk s (x:Int) (J++τ)=some (.exit 0,[.slice s'.1 s'.2.1 s'.2.2],J++τ')/\Dt J.length (J++τ') s' (CK (sr (EY m) bk))
 | 0,x,0,τ,s,hx,hs,hf=>by omega
 | 0,x,f+1,τ,s,hx,hs,hf=>by
   have ha:=h.vw;have hg:=h.app τ;rw[GP];have q:decide ((x:Int)<((t.ob.length:Nat):Int))=false:=xY (by omega);rw[zp (by omega)] at hs;exact ⟨τ,s,by simp only[MV k hg,AI,Ao,IT,IN,hg.at_.E6,q,By],hs⟩
 | n+1,x,0,τ,s,hx,hs,hf=>by omega
 | n+1,x,f+1,τ,s,hx,hs,hf=>by
   have hol:=h.ol;have hxl:x<t.ob.length:=by omega
   have hg:=h.app τ;obtain ⟨j,b,p,A⟩:=hg.xi hxl;have hjl:=A.lt;have q:decide ((x:Int)<((t.ob.length:Nat):Int))=true:=xZ (by omega);have qx:(0<=(x:Int)/\(x:Int)<((t.ob.length:Nat):Int))=True:=zl (by omega);have w1:Ar ((x:Int)+1)=((x+1:Nat):Int):=Ah (by unfold AK; omega);have w2:Ar ((((2*j:Nat):Int)).tdiv 64)=((2*j/64:Nat):Int):=by rw[show (((2*j:Nat):Int)).tdiv 64=((2*j/64:Nat):Int) from rfl]; exact Ah (by unfold AK; omega)
   have l0:Ak .i64 (J++τ) b (x*8)=some ((2*j:Nat):Int):=A.ld.l0;have htk:sr ((EY m).take (x+1)) bk=sr ((EY m).take x) bk++(if ((2*j/64:Nat):Int)=bk then [j] else []):=by
    rw[Abx,A.all];unfold sr;rw[Aa2];congr 1;show List.filter _ [j]=_;by_cases e:((2*j/64:Nat):Int)=bk
    ·rw[yk e,zZ,yk (xZ e),List.filter_nil]
    ·rw[ym e,zZ,ym (by rw[zA]; exact e),List.filter_nil]
   by_cases e:((2*j/64:Nat):Int)=bk
   ·obtain ⟨s1,τ1,e1,i1⟩:=YU J τ s _ ((2*j:Nat):Int) (by
     have:=Aaj (fun j=>decide (((2*j/64:Nat):Int)=bk)) ((EY m).take x);simp[CK,sr] at this ⊢; omega) hs;have e1':AF P Aj (s.1,s.2.1,s.2.2) (some ⟨(J++τ).length,0,none⟩,1,1) (J++τ++[.cells [.int .i64 ((2*j:Nat):Int)] Aj true])=_:=e1;obtain ⟨τ2,s2,e2,i2⟩:=NC k h bk n (x+1) f τ1 s1 (by omega) (by
     rw[htk,yk e];simpa [CK] using i1) (by omega);refine ⟨τ2,s2, ?_,i2⟩;rw[GP];simp only[MV k hg,AI,Ao,IT,IN,yl,hg.at_.E6,q,qx,ye,A.os,xQ,l0,show ((64:Int)=0)=False from by decide,yq,w2,zJ.2 e,Ae,e1',GZ,w1];exact e2
   ·obtain ⟨τ2,s2,e2,i2⟩:=NC k h bk n (x+1) f τ s (by omega) (by
     rw[htk,ym e,yw];exact hs) (by omega);refine ⟨τ2,s2, ?_,i2⟩;rw[GP];simp only[MV k hg,AI,Ao,IT,IN,yl,hg.at_.E6,q,qx,ye,A.os,xQ,l0,show ((64:Int)=0)=False from by decide,yq,w2,yM.2 e,By,GZ,w1];exact e2
def Jy (m:HM) (b:Int):List Nat:=if 0<=b/\b<(m.bls.length:Int) then D6 m (32*b.toNat) 32 else []
theorem uz (m:HM) (b:Int):sr (EY m) b=Jy m b:=by
 unfold Jy;split
 ·rename_i hb;refine U8 ((Mg m).filter _) ((List.pairwise_lt_range' (step:=1) (by decide)).filter _) fun a=>?_;unfold sr;rw[zO,Dh,zA];show _↔a ∈ D6 m (32*b.toNat) 32;rw[K6];constructor
  ·rintro ⟨h1,h2⟩; exact ⟨by omega,by omega,h1.2⟩
  ·rintro ⟨h1,h2,h3⟩; exact ⟨⟨by omega,h3⟩,by omega⟩
 ·rename_i hb;unfold sr;rw[List.filter_eq_nil_iff];intro j hj;have:=(Dh.1 hj).1;rw[zA];omega
theorem fQ (k:Nat) (hk:5000<=k) (h:RG J i m t) (b:Int):∃ τ s,Gf (k+2) (Bx i) b J=some (.slice s.1 s.2.1 s.2.2,J++τ)/\Dt J.length (J++τ) s (CK (Jy m b)):=by
 have hol:=h.ol;obtain ⟨τ,s,e,hs⟩:=NC k h b t.ob.length 0 (k+1) [] (none,0,0) (by omega) (.inl ⟨rfl,rfl⟩) (by omega);rw[yw,show ((0:Nat):Int)=0 from rfl] at e;rw[uz] at hs;refine ⟨τ,s, ?_,hs⟩;rw[OU];simp only[e,AI,ye,GZ]
end
section
variable {J:Aa} {m:HM} {t:RM} {i:RI}
theorem Vl (h:RG J i m t) {b:Nat} (hb:b<m.bls.length):∃ q,i.bs.1=some ⟨q,0,none⟩/\Ak .i64 J q (b*2)=some (m.bls.getD b (0,0)).1/\Ak .i64 J q (b*2+1)=some (m.bls.getD b (0,0)).2/\J[q]?=some (.cells (CB m.bls) An true):=by
 obtain ⟨q,e,l0,l1,hc⟩:=Qm h.at_.bl (x:=b) (by rw[h.bn]; exact hb);rw[h.sim.bl] at l0 l1 hc;exact ⟨q,e,l0,l1,hc⟩
theorem Vk (k:Nat) (h:RG J i m t) {b:Nat} (hb:b<m.bls.length) (hst:(m.bls.getD b (0,0)).1=2):∀ (f n:Nat),m.bls.length<=b+n+f->n<=m.bls.length->Du k (f+1) (Bx i) (b:Int) (n:Int) J=some (.exit 0,[.int .i64 (IQ m b f n:Int)],J)
 | 0,n,h1,h2=>by
   have hnt:=h.nt;rw[Kg,IQ];have w:Ar ((b:Int)+(n:Int))=((b+n:Nat):Int):=by rw[Ah (by unfold AK; omega)]; omega
   have q:decide (((b+n:Nat):Int)<((m.bls.length:Nat):Int))=false:=xY (by omega);simp only[AI,IN,yl,h.at_.GK,h.bn,w,q,By]
 | f+1,n,h1,h2=>by
   have hnt:=h.nt;rw[Kg,IQ];have w:Ar ((b:Int)+(n:Int))=((b+n:Nat):Int):=by rw[Ah (by unfold AK; omega)]; omega
   have w1:Ar ((n:Int)+1)=((n+1:Nat):Int):=Ah (by unfold AK; omega);simp only[AI,IN,yl,h.at_.GK,h.bn,w,hst,true_and];by_cases hc:b+n<m.bls.length
   ·obtain ⟨q,e,l0,_,_⟩:=Vl h hc;have q1:decide (((b+n:Nat):Int)<((m.bls.length:Nat):Int))=true:=xZ (by omega);have qx:(0<=((b+n:Nat):Int)/\((b+n:Nat):Int)<((m.bls.length:Nat):Int))=True:=zl (by omega);simp only[q1,IT,qx,ye,e,AI,xQ,IN,l0];by_cases h3:(m.bls.getD (b+n) (0,0)).1=3
    ·rw[yk ⟨hc,h3⟩,zJ.2 h3];simp only[IT,w1];exact Vk k h hb hst f (n+1) (by omega) (by omega)
    ·rw[ym (fun h=>h3 h.2),yM.2 h3];simp only[By]
   ·have q1:decide (((b+n:Nat):Int)<((m.bls.length:Nat):Int))=false:=xY (by omega);have qn:(b+n<m.bls.length/\(m.bls.getD (b+n) (0,0)).1=3)=False:=Ad0 (fun h=>hc h.1);simp only[q1,By,AI,qn,yq]
def dh (m:HM) (b:Nat):Nat:=if (m.bls.getD b (0,0)).1=1 then 1 else if (m.bls.getD b (0,0)).1=2 then Kr m b else 0
theorem nf (k:Nat) (hk:100<=k) (h:RG J i m t) {b:Nat} (hb:b<m.bls.length):FJ (k+1) (Bx i) (b:Int) J=some (.int .i64 (dh m b:Int),J):=by
 have hnt:=h.nt;obtain ⟨q,e,l0,_,_⟩:=Vl h hb;have qx:(0<=(b:Int)/\(b:Int)<((m.bls.length:Nat):Int))=True:=zl (by omega);rw[QP];simp only[AI,IN,yl,h.at_.GK,h.bn,qx,ye,e,xQ,l0];unfold dh;by_cases h1:(m.bls.getD b (0,0)).1=1
 ·rw[yk h1,zJ.2 h1]; rfl
 rw[ym h1,yM.2 h1];by_cases h2:(m.bls.getD b (0,0)).1=2
 ·rw[yk h2];have e1:=Vk k h hb h2 (k-1) 1 (by omega) (by omega);rw[show k-1+1=k from by omega] at e1;have e1':Du k k (Bx i) (b:Int) 1 J=_:=e1;simp only[h2,yr,By,e1',AI,ye,D7];rw[UA m b (k-1) m.bls.length 1 (by omega) (by omega)]; rfl
 ·rw[ym h2];simp only[By,zr.2 h2,IT];rfl
theorem Xg (r d k:Int):0<=words r d k/\words r d k<=218:=MX r d k
theorem Zo (k:Nat) (r d c:Int) (J:Aa):∃ τ,Ey (k+3) r d c J=some (.int .i64 ((words r d c+63).tdiv 64),J++τ):=by
 obtain ⟨τ,e⟩:=I9 k r d c (J++[Au.cells [.int .i64 r,.int .i64 d,.int .i64 c] Ad true]);have hw:=Xg r d c;refine ⟨[Au.cells [.int .i64 r,.int .i64 d,.int .i64 c] Ad true]++τ, ?_⟩;rw[Xu];simp only[Ae,Bh,IN,Nat.reduceAdd,yy,yB,AI,Ag,e,show ((64:Int)=0)=False from by decide,yq];have w1:Ar (words r d c+64)=words r d c+64:=Ah (by unfold AK; omega);have w2:Ar (words r d c+64-1)=words r d c+63:=by rw[Ah (by unfold AK; omega)]; omega
 obtain ⟨n,hn⟩:∃ n:Nat,words r d c+63=(n:Int):=⟨(words r d c+63).toNat,by omega⟩;have w3:Ar ((words r d c+63).tdiv 64)=(words r d c+63).tdiv 64:=by
  rw[hn,show ((n:Int)).tdiv 64=((n/64:Nat):Int) from rfl]; exact Ah (by unfold AK; omega)
 rw[w1,w2,w3,ya]
theorem Wi (k:Nat) (r d c:Int) (J:Aa):∃ τ,Et (k+3) r d c J=some (.bool (decide (words r d c>32)),J++τ):=by
 obtain ⟨τ,e⟩:=I9 k r d c (J++[Au.cells [.int .i64 r,.int .i64 d,.int .i64 c] Ad true]);refine ⟨[Au.cells [.int .i64 r,.int .i64 d,.int .i64 c] Ad true]++τ, ?_⟩;rw[VL];simp only[Ae,Bh,IN,Nat.reduceAdd,yy,yB,AI,Ag,e];rw[ya]
theorem Jj {q:Nat} {x y z:Int} {T:TypeId} (h:J[q]?=some (.cells [.int .i64 x,.int .i64 y,.int .i64 z] T true)):Ak .i64 J q 0=some x/\Ak .i64 J q 1=some y/\Ak .i64 J q 2=some z:=by
 refine ⟨?_, ?_, ?_⟩ <;> simp[Ak,D5,h,Bn]
theorem On (k:Nat) (h:RG J i m t) (a but:Int) (ha:0<=a/\a<4096) {q:Nat} {r d c:Int} (hq:J[q]?=some (.cells [.int .i64 r,.int .i64 d,.int .i64 c] Ad true)):∀ (n x f:Nat) (τ:Aa),x+n=t.ob.length->n<f ->
  ∃ τ',CW (k+2) f (Bx i) a but q (x:Int) (J++τ)=some (if Zp (t.ob.drop x) a (words r d c) but then (.ret,[.int .i64 8],J++τ') else (.exit 0,[],J++τ'))
 | 0,x,0,τ,hx,hf=>by omega
 | 0,x,f+1,τ,hx,hf=>by
   have hg:=h.app τ;rw[KE,yS (by omega)];have q:decide ((x:Int)<((t.ob.length:Nat):Int))=false:=xY (by omega);exact ⟨τ,by simp only[AI,IN,hg.at_.E6,q,By,Zp,List.any_nil,y8,yq]⟩
 | n+1,x,0,τ,hx,hf=>by omega
 | n+1,x,f+1,τ,hx,hf=>by
   have hol:=h.ol;have hxl:x<t.ob.length:=by omega
   have hg:=h.app τ;obtain ⟨j,b,p,A⟩:=hg.xi hxl;have hz:=h.inv.size A.st;have hjl:=A.lt;have hw:=jf h.inv A.st;have hwr:=Xg r d c;have hoj:t.ob[x]=Bm m j:=by
    obtain ⟨j2,g1,_,_,g4⟩:=h.drop hxl;rw[A.all] at g1; cases g1;rw[yg hxl] at g4; exact zH g4
   have hov:Zp (t.ob.drop x) a (words r d c) but=(decide ((Bm m j).id≠but/\((2*j:Nat):Int)<a+words r d c/\a<((2*j:Nat):Int)+(sz m j:Int)) || Zp (t.ob.drop (x+1)) a (words r d c) but):=by
    rw[yO hxl,hoj];unfold Zp;rw[List.any_cons,hw,LQ]
   obtain ⟨B,hB⟩:∃ B,Au.cells (Bi (Bm m j) p) Ab true=B:=⟨_,rfl⟩;have st:H2 (J++τ++[Au.cells [.int .i64 0,.int .i64 0,.int .i64 0,.int .i64 0,.int .i64 0,.slice none 0 0,.slice none 0 0,.bool false] Ab true]) (J++τ).length 0 [.int .i64 (Bm m j).addr,.int .i64 (Bm m j).id,.int .i64 (Bm m j).r,.int .i64 (Bm m j).d,.int .i64 (Bm m j).k,.slice p.1.1 p.1.2.1 p.1.2.2,.slice p.2.1 p.2.2.1 p.2.2.2,.bool (Bm m j).Wg]=some (J++τ++[B]):=by
    rw[g8,<- hB]; rfl
   have lb:∀ (τ':Aa) (o:Nat),Ak .i64 (J++τ++[B]++τ') (J++τ).length o=((Bi (Bm m j) p)[o]?).bind (Bn .i64):=fun τ' o=>by rw[<- hB]; exact FU _ _ _ _ _ _ _
   have lb0:∀ (o:Nat),Ak .i64 (J++τ++[B]) (J++τ).length o=((Bi (Bm m j) p)[o]?).bind (Bn .i64):=fun o=>by have:=lb [] o; rwa [yw] at this
   have hq':(J++τ++[B])[q]?=some (.cells [.int .i64 r,.int .i64 d,.int .i64 c] Ad true):=by
    rw[ya,AT (Af hq)]; exact hq
   obtain ⟨b0,b1,b2⟩:=Jj hq';obtain ⟨τ1,e1⟩:=I9 k r d c (J++τ++[B]);obtain ⟨τ2,e2⟩:=I9 k (Av m j) (Bf m j) (Cr m j) (J++τ++[B]++τ1);rw[(Ot h.inv A.st).2.2.2.2.2.2.2] at e2;have q0:decide ((x:Int)<((t.ob.length:Nat):Int))=true:=xZ (by omega);have qx:(0<=(x:Int)/\(x:Int)<((t.ob.length:Nat):Int))=True:=zl (by omega);have w1:Ar ((x:Int)+1)=((x+1:Nat):Int):=Ah (by unfold AK; omega);have w2:Ar (a+words r d c)=a+words r d c:=Ah (by unfold AK; omega);have w3:Ar (((2*j:Nat):Int)+(sz m j:Int))=((2*j:Nat):Int)+(sz m j:Int):=Ah (by unfold AK; omega);have c0:((Bi (Bm m j) p)[0]?).bind (Bn .i64)=some ((2*j:Nat):Int):=rfl;have c1:((Bi (Bm m j) p)[1]?).bind (Bn .i64)=some (Bm m j).id:=rfl;have c2:((Bi (Bm m j) p)[2]?).bind (Bn .i64)=some (Av m j):=rfl;have c3:((Bi (Bm m j) p)[3]?).bind (Bn .i64)=some (Bf m j):=rfl;have c4:((Bi (Bm m j) p)[4]?).bind (Bn .i64)=some (Cr m j):=rfl;rw[hov,KE];simp only[AI,IN,yl,zu,Nat.reduceAdd,hg.at_.E6,q0,IT,qx,ye,A.os,xQ,A.ld.l0,A.ld.l1,A.ld.l2,A.ld.l3,A.ld.l4,A.ld.l5,A.ld.l6,A.ld.l7,Ae,st,lb0,c1];by_cases d1:(Bm m j).id=but
   ·obtain ⟨τ3,e3⟩:=On k h a but ha hq n (x+1) f (τ++[B]) (by omega) (by omega);refine ⟨τ3, ?_⟩;have:((Bm m j).id != but)=false:=by rw[d1]; exact yr _
    rw[xY (fun h=>h.1 d1),Acm];simp only[<- ya] at e3;simp only[this,By,AI,w1];exact e3
   ·have hb1:((Bm m j).id != but)=true:=zr.2 d1;by_cases d2:((2*j:Nat):Int)<a+words r d c
    ·by_cases d3:a<((2*j:Nat):Int)+(sz m j:Int)
     ·refine ⟨τ++[B]++τ1++τ2, ?_⟩;rw[xZ ⟨d1,d2,d3⟩];simp only[hb1,IT,lb0,c0,AI,b0,b1,b2,e1,Ag,w2,xZ d2,lb,c2,c3,c4,e2,w3,xZ d3,Acf,ye];simp only[<- ya]
     ·obtain ⟨τ3,e3⟩:=On k h a but ha hq n (x+1) f (τ++[B]++τ1++τ2) (by omega) (by omega);refine ⟨τ3, ?_⟩;rw[xY (fun h=>d3 h.2.2),Acm];simp only[<- ya] at e3;simp only[hb1,IT,lb0,c0,AI,b0,b1,b2,e1,Ag,w2,xZ d2,lb,c2,c3,c4,e2,w3,xY d3,By,w1];exact e3
    ·obtain ⟨τ3,e3⟩:=On k h a but ha hq n (x+1) f (τ++[B]++τ1) (by omega) (by omega);refine ⟨τ3, ?_⟩;rw[xY (fun h=>d2 h.2.1),Acm];simp only[<- ya] at e3;simp only[hb1,IT,lb0,c0,AI,b0,b1,b2,e1,Ag,w2,xY d2,By,w1];exact e3
theorem Uo {hi:Nat} {but:Int}:∀ {f x:Nat},KX m hi but f x=false -> ∃ y o,x<=y/\y<hi/\Pf m (y:Int)=some o/\((2*o:Nat):Int)≠but
 | 0,x,h=>by cases h
 | f+1,x,h=>by
   rw[KX] at h;split at h
   ·rename_i hx;split at h
    ·rename_i o ho;split at h
     ·obtain ⟨y,o',h1,h2⟩:=Uo h;exact ⟨y,o',by omega,h2⟩
     ·rename_i hne;exact ⟨x,o,yj _,hx,ho,hne⟩
    ·obtain ⟨y,o',h1,h2⟩:=Uo h;exact ⟨y,o',by omega,h2⟩
   ·cases h
theorem qg (hI:Inv m) {a w:Nat} {but bid:Int} (ha:a % 2=0) (hw:w % 2=0) (hw0:2<=w) (hwl:w<=218) (hb:∀ o,Start m o->(((2*o:Nat):Int)=but↔m.wds.getD (2*o) 0=bid)):Zp (F7 m) (a:Int) (w:Int) bid = !KX m (a+w) but 200 a:=by
 rw[Acu,Abv];unfold Zp F7;rw[List.any_eq_true];constructor
 ·rintro ⟨o,ho,hd⟩;obtain ⟨j,hj,rfl⟩:=zK.1 ho;have hs:=Dh.1 hj;rw[zA,jf hI hs,LQ] at hd;have hz:=hI.size hs;cases hf:KX m (a+w) but 200 a with
  | false=>rfl
  | true=>
    have hfit:=hI.fit j hs;by_cases hc:a<=2*j
    ·have:=SB hf (by omega) ((2*j-a)/2) (by omega) j (by
      rw[show a+2*((2*j-a)/2)=2*j from by omega];unfold Pf;rw[yk (by omega),xQ,hI.SA hs (by omega) (by omega)]);exact absurd ((hb j hs).1 this) hd.1
    ·have:=SB hf (by omega) 0 (by omega) j (by
      unfold Pf;rw[yk (by omega),xQ,hI.SA hs (by omega) (by omega)]);exact absurd ((hb j hs).1 this) hd.1
 ·intro hf;obtain ⟨y,o,h1,h2,h3,h4⟩:=Uo hf;unfold Pf at h3;split at h3
  ·rw[xQ] at h3;obtain ⟨s1,_,s3,s4⟩:=iq h3;refine ⟨Bm m o,zK.2 ⟨o,Dh.2 s1,rfl⟩, ?_⟩;rw[zA,jf hI s1,LQ];exact ⟨fun e=>h4 ((hb o s1).2 e),by omega,by omega⟩
  ·cases h3
theorem ql (k:Nat) (hk:5000<=k) (h:RG J i m t) (a but bid:Int) {r d c:Int} (hv:valid r d c=true) (hb:∀ o,Start m o->(((2*o:Nat):Int)=but↔m.wds.getD (2*o) 0=bid)):
  ∃ τ,Hp (k+4) (Bx i) a r d c bid J=some (.int .i64 (KO m a (NH (num r d c)) but),J++τ):=by
 have hnt:=h.nt;have hwl:=h.wl;have hol:=h.ol;have hsz:words r d c=(NH (num r d c):Int):=by
  obtain ⟨p1,p2,p3,_⟩:=Je hv;rw[da,p1,p2,p3]
 have hs2:=Jp hv;have hv':=hv;simp[valid] at hv';have hW:NH (num r d c) % 2=0/\2<=NH (num r d c)/\NH (num r d c)<=218:=by rw[hs2]; omega
 obtain ⟨W,hWe⟩:∃ W,NH (num r d c)=W:=⟨_,rfl⟩;rw[hWe] at hsz hW ⊢;obtain ⟨B,hB⟩:∃ B,Au.cells [.int .i64 r,.int .i64 d,.int .i64 c] Ad true=B:=⟨_,rfl⟩;have hg:=h.app [B];have hq:(J++[B])[J.length]?=some (.cells [.int .i64 r,.int .i64 d,.int .i64 c] Ad true):=by rw[<- hB]; simp
 rw[R2];simp only[Ae,hB];unfold KO;by_cases h0:a<0
 ·rw[yk (show ¬(0<=a/\a<(m.wds.length:Int)/\a.toNat % 2=0) by omega)];refine ⟨[B], ?_⟩;simp only[xZ h0,IT,AI]
 obtain ⟨n,rfl⟩:∃ n:Nat,a=(n:Int):=⟨a.toNat,by omega⟩;rw[xQ];have hm2:((n:Int)).tmod 2=((n % 2:Nat):Int):=rfl;by_cases h1:n % 2=0;rotate_left
 ·rw[yk (show ¬(0<=(n:Int)/\(n:Int)<(m.wds.length:Int)/\n % 2=0) by omega)];refine ⟨[B], ?_⟩;have:(((n % 2:Nat):Int) != 0)=true:=zr.2 (by omega);simp only[xY h0,By,show ((2:Int)=0)=False from by decide,yq,hm2,this,IT,AI]
 have e2:(((n % 2:Nat):Int) != 0)=false:=by rw[h1]; rfl
 have w64l:Ar (((m.bls.length:Nat):Int)*64)=((m.wds.length:Nat):Int):=by rw[Ah (by unfold AK; omega)]; omega
 by_cases h3:n<m.wds.length;rotate_left
 ·rw[yk (show ¬(0<=(n:Int)/\(n:Int)<(m.wds.length:Int)/\n % 2=0) by omega)];refine ⟨[B], ?_⟩;simp only[xY h0,By,show ((2:Int)=0)=False from by decide,yq,hm2,e2,AI,IN,yl,hg.at_.GK,hg.bn,w64l,xZ (show (n:Int)>=((m.wds.length:Nat):Int) by omega),IT]
 rw[ym (show ¬¬(0<=(n:Int)/\(n:Int)<(m.wds.length:Int)/\n % 2=0) by omega)];obtain ⟨b0,b1,b2⟩:=Jj hq;obtain ⟨τ1,eL⟩:=Wi k r d c (J++[B]);have hg1:=hg.app τ1;have hq1:(J++[B]++τ1)[J.length]?=_:=(AT (Af hq)).trans hq;obtain ⟨d0,d1,d2⟩:=Jj hq1;have hnb:n/64<m.bls.length:=by omega
 have wb:Ar (((n:Int)).tdiv 64)=((n/64:Nat):Int):=by rw[show ((n:Int)).tdiv 64=((n/64:Nat):Int) from rfl]; exact Ah (by unfold AK; omega)
 have hm64:((n:Int)).tmod 64=((n % 64:Nat):Int):=rfl;obtain ⟨qb,eb,lb0,_,_⟩:=Vl hg1 hnb;have qx:(0<=((n/64:Nat):Int)/\((n/64:Nat):Int)<((m.bls.length:Nat):Int))=True:=zl (by omega);have loop:∀ Z:Aa,∃ τ',((CW (k+3) (k+3) (Bx i) (n:Int) bid J.length (0:Int) (J++[B]++Z)).bind fun r67=>if r67.1 = .exit 0 then (some (Value.int .i64 (0:Int),r67.2.2)) else if r67.1 = .ret then (Xf r67.2.1 fun n68=>some (.int .i64 n68,r67.2.2)) else none)=some (Value.int .i64 (if KX m (n+W) but 200 n then 0 else 8),J++τ'):=by
  intro Z;obtain ⟨τ',e⟩:=On (k+1) hg (n:Int) bid (by omega) hq t.ob.length 0 (k+3) Z (by omega) (by omega);rw[yV,h.sim.ob,hsz,qg h.inv h1 hW.1 hW.2.1 hW.2.2 hb,show ((0:Nat):Int)=0 from rfl] at e;have e':CW (k+3) (k+3) (Bx i) (n:Int) bid J.length 0 (J++[B]++Z)=_:=e;refine ⟨[B]++τ', ?_⟩;rw[e',<- ya];cases KX m (n+W) but 200 n with
  | true=>simp only[yp,y8,yq,AI,ye]
  | false=>simp only[yY,ye,AI,reduceCtorEq,yq,D7,y8]
 simp only[xY h0,By,show ((2:Int)=0)=False from by decide,yq,hm2,e2,AI,IN,yl,Nat.reduceAdd,hg.at_.GK,hg.bn,w64l,xY (show ¬ (n:Int)>=((m.wds.length:Nat):Int) by omega),show ((64:Int)=0)=False from by decide,b0,b1,b2,eL,Ao,hsz];by_cases hL:W<=32
 ·rw[yk hL,xY (by omega)];simp only[By,hg1.at_.GK,hg1.bn,wb,qx,ye,eb,AI,xQ,IN,lb0];by_cases s1:(m.bls.getD (n/64) (0,0)).1=1
  ·obtain ⟨τ2,eW⟩:=I9 (k+1) r d c (J++[B]++τ1);rw[hsz] at eW;have wa:Ar ((n:Int)+(W:Int))=((n+W:Nat):Int):=by rw[Ah (by unfold AK; omega)]; omega
   have wc:Ar (((n+W:Nat):Int)-1)=((n+W-1:Nat):Int):=by rw[Ah (by unfold AK; omega)]; omega
   have wd:Ar ((((n+W-1:Nat):Int)).tdiv 64)=(((n+W-1)/64:Nat):Int):=by rw[show (((n+W-1:Nat):Int)).tdiv 64=(((n+W-1)/64:Nat):Int) from rfl]; exact Ah (by unfold AK; omega)
   simp only[s1,yr,By,d0,d1,d2,AI,eW,Ag,wa,wc,wd];by_cases s2:(n+W-1)/64=n/64
   ·have:((((n+W-1)/64:Nat):Int) != ((n/64:Nat):Int))=false:=by rw[s2]; exact yr _
    obtain ⟨τ',e'⟩:=loop (τ1++τ2);rw[ym (fun hh=>hh.elim (fun h=>h rfl) (fun h=>h s2))];refine ⟨τ', ?_⟩;simp only[this,By,AI,ye];rw[ya (J++[B])];exact e'
   ·have:((((n+W-1)/64:Nat):Int) != ((n/64:Nat):Int))=true:=zr.2 (by omega);rw[yk (.inr s2)];refine ⟨[B]++τ1++τ2, ?_⟩;simp only[this,IT,AI,reduceCtorEq,yq,ye,D7,ya]
  ·rw[yk (.inl s1)];refine ⟨[B]++τ1, ?_⟩;simp only[zr.2 s1,IT,AI,reduceCtorEq,yq,ye,D7,ya]
 ·rw[ym hL,xZ (by omega)];simp only[IT,hm64];by_cases s0:n % 64=0;rotate_left
  ·have:(((n % 64:Nat):Int) != 0)=true:=zr.2 (by omega);rw[yk (.inr (.inl s0))];refine ⟨[B]++τ1, ?_⟩;simp only[this,IT,AI,reduceCtorEq,yq,ye,D7,ya]
  have e0:(((n % 64:Nat):Int) != 0)=false:=by rw[s0]; rfl
  simp only[e0,By,hg1.at_.GK,hg1.bn,wb,qx,ye,eb,AI,xQ,IN,lb0];by_cases s1:(m.bls.getD (n/64) (0,0)).1=2;rotate_left
  ·rw[yk (.inl s1)];refine ⟨[B]++τ1, ?_⟩;simp only[zr.2 s1,IT,AI,reduceCtorEq,yq,ye,D7,ya]
  have eWh:FJ (k+3) (Bx i) ((n/64:Nat):Int) (J++[B]++τ1)=_:=nf (k+2) (by omega) hg1 hnb;have hwn:dh m (n/64)=Kr m (n/64):=by unfold dh; rw[ym (by rw[s1]; decide),yk s1]
  obtain ⟨τ2,eN⟩:=Zo k r d c (J++[B]++τ1);have hnd:(words r d c+63).tdiv 64=(((W+63)/64:Nat):Int):=by rw[hsz]; rfl
  rw[hnd] at eN;simp only[s1,yr,By,eWh,AI,Ag,hwn,d0,d1,d2,eN];by_cases s2:Kr m (n/64)=(W+63)/64
  ·have:(((Kr m (n/64):Nat):Int) != (((W+63)/64:Nat):Int))=false:=by rw[s2]; exact yr _
   obtain ⟨τ',e'⟩:=loop (τ1++τ2);rw[ym (fun hh=>hh.elim (fun h=>h rfl) (fun h=>h.elim (fun h=>h s0) (fun h=>h s2)))];refine ⟨τ', ?_⟩;simp only[this,By,AI,ye];rw[ya (J++[B])];exact e'
  ·have:(((Kr m (n/64):Nat):Int) != (((W+63)/64:Nat):Int))=true:=zr.2 (by omega);rw[yk (.inr (.inr s2))];refine ⟨[B]++τ1++τ2, ?_⟩;simp only[this,IT,AI,reduceCtorEq,yq,ye,D7,ya]
end
section
variable {J:Aa} {m:HM} {t:RM} {i:RI}
theorem Eg.app {s:Bp} {l:List Int} (h:Eg J s l) (τ:Aa):Eg (J++τ) s l:=
 ⟨h.1,fun hn=>by
  obtain ⟨b,c,e,hc⟩:=h.2.1 hn;exact ⟨b,c,e,(AT (Af hc)).trans hc⟩,fun a ha=>by
  obtain ⟨cs,T,w,h1,h2⟩:=h.2.2 a ha;exact ⟨cs,T,w,(AT (Af h1)).trans h1,h2⟩⟩
theorem Fi {j:Nat} (hs:Start m j):AU m ((2*j:Nat):Int)=true:=by
 unfold AU;rw[zA,xQ,show 2*j/2=j from by omega];exact ⟨by omega,by omega,hs⟩
theorem WW (k:Nat) (hk:5000<=k) (h:RG J i m t) (L:List Nat) (hL:∀ j ∈ L,Start m j) (hLl:L.length<=2048) {lo':Nat} (s:Bp) (hs:Dt lo' J s (CK L)):∀ (n x f a:Nat) (τ:Aa) (o:Bp) (R:List (Nat × Nat)),Cq Ay 2 (J++τ) o R.length (Dk R)->(∀ q,o.1=some q->J.length<=q.block)->R.length<=x->a<=5000->x+n=L.length->n<f ->
  ∃ τ' o',CV (k+3) f (Bx i) s.1 s.2.1 s.2.2 (o.1,o.2.1,o.2.2) (a:Int) (x:Int) (J++τ)=some (.exit 0,[.slice o'.1 o'.2.1 o'.2.2,.int .i64 ((EX m (L.drop x) a).2:Int)],J++τ')/\Cq Ay 2 (J++τ') o' (R++(EX m (L.drop x) a).1).length (Dk (R++(EX m (L.drop x) a).1))/\(∀ q,o'.1=some q->J.length<=q.block)/\(EX m (L.drop x) a).2<=5000/\(R++(EX m (L.drop x) a).1).length<=L.length
 | 0,x,0,a,τ,o,R,hR,ho,hr,ha,hx,hf=>by omega
 | 0,x,f+1,a,τ,o,R,hR,ho,hr,ha,hx,hf=>by
   have al:(CK L).length=L.length:=by simp[CK]
   have sl:s.2.1=L.length:=by rw[<- al]; exact hs.sl.len
   rw[KD,yS (by omega)];have q:decide ((x:Int)<((s.2.1:Nat):Int))=false:=xY (by omega);exact ⟨τ,o,by simp only[q,By,EX],by simpa [EX] using hR,ho,ha,by simp[EX]; omega⟩
 | n+1,x,0,a,τ,o,R,hR,ho,hr,ha,hx,hf=>by omega
 | n+1,x,f+1,a,τ,o,R,hR,ho,hr,ha,hx,hf=>by
   have al:(CK L).length=L.length:=by simp[CK]
   have hxl:x<L.length:=by omega
   have hst:=hL _ (yU hxl);have hfit:=h.inv.fit _ hst;have hz:=h.inv.size hst;have hnt:=h.nt;have hwl:=h.wl;have hsj:=hst.1;obtain ⟨b1,e1,hb1,c1,ldA⟩:=ints_at hs (x:=x) (by omega);rw[Nj L hxl] at ldA;have hbl:=Af c1;have ldA':∀ τ1:Aa,Ak .i64 (J++τ1) b1 x=some ((2*L[x]:Nat):Int):=fun τ1=>by
    rw[<- ldA]; simp only[Ak,D5,AT hbl]
   have eT:EX m (L.drop x) a=(Js a (2*L[x])++(EX m (L.drop (x+1)) (2*L[x]+sz m L[x])).1,(EX m (L.drop (x+1)) (2*L[x]+sz m L[x])).2):=by
    rw[yO hxl]; rfl
   have qx:(0<=(x:Int)/\(x:Int)<((L.length:Nat):Int))=True:=zl (by omega);have q0:decide ((x:Int)<((L.length:Nat):Int))=true:=xZ (by omega);have w1:Ar ((x:Int)+1)=((x+1:Nat):Int):=Ah (by unfold AK; omega);have w2:Ar (((2*L[x]:Nat):Int)+(sz m L[x]:Int))=((2*L[x]+sz m L[x]:Nat):Int):=by rw[Ah (by unfold AK; omega)]; omega
   have hgl:(Js a (2*L[x])).length<=1:=by unfold Js; split <;> simp
   have tail:∀ (τ1:Aa) (o1:Bp),Cq Ay 2 (J++τ1) o1 (R++Js a (2*L[x])).length (Dk (R++Js a (2*L[x])))->(∀ q,o1.1=some q->J.length<=q.block) ->
     ∃ (y b2:Nat) (e3:i.os.1=some ⟨b2,0,none⟩) (e4:y<t.ob.length) (e5:AH (k+3) (Bx i) ((2*L[x]:Nat):Int) (J++τ1)=some (.int .i64 (y:Int),J++τ1)) (e6:Ak .i64 (J++τ1) b2 (y*8+2)=some (Av m L[x])) (e7:Ak .i64 (J++τ1) b2 (y*8+3)=some (Bf m L[x])) (e8:Ak .i64 (J++τ1) b2 (y*8+4)=some (Cr m L[x])) (τ2:Aa) (e9:BW (k+3) (Av m L[x]) (Bf m L[x]) (Cr m L[x]) (J++τ1)=some (.int .i64 (sz m L[x]:Int),J++τ2)) (τ':Aa) (o':Bp),
      CV (k+3) f (Bx i) s.1 s.2.1 s.2.2 (o1.1,o1.2.1,o1.2.2) ((2*L[x]+sz m L[x]:Nat):Int) ((x+1:Nat):Int) (J++τ2)=some (.exit 0,[.slice o'.1 o'.2.1 o'.2.2,.int .i64 ((EX m (L.drop x) a).2:Int)],J++τ')/\Cq Ay 2 (J++τ') o' (R++(EX m (L.drop x) a).1).length (Dk (R++(EX m (L.drop x) a).1))/\(∀ q,o'.1=some q->J.length<=q.block)/\(EX m (L.drop x) a).2<=5000/\(R++(EX m (L.drop x) a).1).length<=L.length:=by
    intro τ1 o1 s1 n1;have hg:=h.app τ1;obtain ⟨y,j',b2,p,F⟩:=hg.found (Fi hst);have ej:j'=L[x]:=by have:=F.e; omega
    subst ej;obtain ⟨τ2,e9⟩:=I9 (k+1) (Av m L[x]) (Bf m L[x]) (Cr m L[x]) (J++τ1);rw[(Ot h.inv hst).2.2.2.2.2.2.2,ya] at e9;have s2:Cq Ay 2 (J++(τ1++τ2)) o1 (R++Js a (2*L[x])).length (Dk (R++Js a (2*L[x]))):=by rw[<- ya]; exact s1.app τ2
    obtain ⟨τ',o',r1,r2,r3,r4,r5⟩:=WW k hk h L hL hLl s hs n (x+1) f (2*L[x]+sz m L[x]) (τ1++τ2) o1 (R++Js a (2*L[x])) s2 n1 (by rw[yi]; omega) (by omega) (by omega) (by omega);rw[eT];rw[ya] at r2 r5;exact ⟨y,b2,F.os,F.xl,by rw[<- F.idx]; exact NB (k+1) (by omega) hg _,F.ld.l2,F.ld.l3,F.ld.l4,τ1++τ2,e9,τ',o',r1,r2,r3,r4,r5⟩
   subst e1;rw[KD];simp only[al] at *;by_cases hc:a<2*L[x]
   ·obtain ⟨o1,τ1,ea,s1,n1⟩:=Om sU rY tf rfl rfl (by decide) (by decide) (by decide) J τ o R.length (Dk R) 1 1 (Dk [(a,2*L[x]-a)]) Ay (by omega) (by decide) rfl hR ho;have ea':AF P Ay (o.1,o.2.1,o.2.2) (some ⟨(J++τ).length,0,none⟩,1,1) (J++τ++[Au.cells [.int .i64 (a:Int),.int .i64 ((2*L[x]-a:Nat):Int)] Ay true])=some (o1,J++τ1):=ea;have gl:Js a (2*L[x])=[(a,2*L[x]-a)]:=by unfold Js; rw[yk hc]
    obtain ⟨y,b2,e3,e4,e5,e6,e7,e8,τ2,e9,τ',o',r1,r2,r3,r4,r5⟩:=tail τ1 o1 (by rw[gl,ND,yi]; exact s1) n1;refine ⟨τ',o', ?_,r2,r3,r4,r5⟩;have w:Ar (((2*L[x]:Nat):Int)-(a:Int))=((2*L[x]-a:Nat):Int):=by rw[Ah (by unfold AK; omega)]; omega
    have qy:(0<=(y:Int)/\(y:Int)<((t.ob.length:Nat):Int))=True:=zl (by omega);simp only[q0,IT,qx,ye,AI,IN,yl,zu,Nat.reduceAdd,xQ,yH,ldA',xZ (show ((2*L[x]:Nat):Int)>(a:Int) by omega),Ae,w,ea',GZ,(h.app τ1).at_.E6,e5,Ag,qy,e3,e6,e7,e8,e9,w2,w1];exact r1
   ·have gl:Js a (2*L[x])=[]:=by unfold Js; rw[ym hc]
    obtain ⟨y,b2,e3,e4,e5,e6,e7,e8,τ2,e9,τ',o',r1,r2,r3,r4,r5⟩:=tail τ o (by rw[gl,yw]; exact hR) ho;refine ⟨τ',o', ?_,r2,r3,r4,r5⟩;have qy:(0<=(y:Int)/\(y:Int)<((t.ob.length:Nat):Int))=True:=zl (by omega);simp only[q0,IT,By,qx,ye,AI,IN,yl,zu,Nat.reduceAdd,xQ,yH,ldA',xY (show ¬ ((2*L[x]:Nat):Int)>(a:Int) by omega),GZ,(h.app τ).at_.E6,e5,Ag,qy,e3,e6,e7,e8,e9,w2,w1];exact r1
def HC (m:HM) (b:Int):List (Nat × Nat):=if Cb m b=1 then YN m b.toNat else []
theorem bF {b:Int} (h:Cb m b=1):∃ n:Nat,b=(n:Int)/\n<m.bls.length/\(m.bls.getD n (0,0)).1=1:=by
 unfold Cb at h;split at h
 ·rename_i hb;refine ⟨b.toNat,by omega,by omega,h⟩
 ·cases h
theorem aK (m:HM) (b:Int):(HC m b).length<=33:=by
 have aux:∀ (L:List Nat) (a:Nat),(EX m L a).1.length<=L.length:=by
  intro L
  induction L with
  | nil=>intro a; exact yj _
  | cons j L ih=>
    intro a;have:=ih (2*j+sz m j);have:(Js a (2*j)).length<=1:=by unfold Js; split <;> simp
    rw[EX,yi,ze]; omega
 unfold HC;split
 ·unfold YN;have:=aux (D6 m (32*b.toNat) 32) (64*b.toNat);have:=LV m (32*b.toNat) 32;have:(Js (EX m (D6 m (32*b.toNat) 32) (64*b.toNat)).2 (64*b.toNat+64)).length<=1:=by unfold Js; split <;> simp
  rw[yi]; omega
 ·simp
theorem pZ (k:Nat) (hk:5000<=k) (h:RG J i m t) (b:Int):∃ τ s,Ho (k+4) (Bx i) b J=some (.slice s.1 s.2.1 s.2.2,J++τ)/\Cq Ay 2 (J++τ) s (HC m b).length (Dk (HC m b)) /\ ∀ a,s.1=some a->J.length<=a.block:=by
 have hnt:=h.nt;have hwl:=h.wl;rw[Ry];have eS:Cg (k+3) (Bx i) b J=_:=Wj (k+1) h b;simp only[eS,AI,Ag];unfold HC;by_cases hc:Cb m b=1;rotate_left
 ·rw[ym hc,zr.2 hc];exact ⟨[],(none,0,0),by simp only[IT,yw],Cq.nil _ _ _,by intro a ha; cases ha⟩
 rw[yk hc,hc];obtain ⟨n,rfl,hn,hst⟩:=bF hc;obtain ⟨τ1,s,e1,i1⟩:=fQ (k+1) (by omega) h (n:Int);have eO:Jy m (n:Int)=D6 m (32*n) 32:=by unfold Jy; rw[yk (by omega),xQ]
 rw[eO] at i1;have hg:=h.app τ1;have hL:∀ j ∈ D6 m (32*n) 32,Start m j:=by
  intro j hj;obtain ⟨a,b',c⟩:=K6.1 hj;exact ⟨by omega,c⟩
 have hLl:=LV m (32*n) 32;obtain ⟨τ2,o2,e2,s2,n2,m4,m5⟩:=WW k hk hg _ hL (by omega) s i1 (D6 m (32*n) 32).length 0 (k+3) (64*n) [] (none,0,0) [] (Cq.nil _ _ _) (by intro a ha; cases ha) (zh _) (by omega) (by omega) (by omega);rw[yV,Aac] at s2 m5;rw[yV,yw] at e2;rw[yV] at m4;have e2':CV (k+3) (k+3) (Bx i) s.1 s.2.1 s.2.2 (none,0,0) ((64*n:Nat):Int) 0 (J++τ1)=_:=e2;have w1:Ar ((n:Int)*64)=((64*n:Nat):Int):=by rw[Ah (by unfold AK; omega)]; omega
 have w2:Ar ((n:Int)+1)=((n+1:Nat):Int):=by rw[Ah (by unfold AK; omega)]; omega
 have w3:Ar (((n+1:Nat):Int)*64)=((64*n+64:Nat):Int):=by rw[Ah (by unfold AK; omega)]; omega
 rw[xQ];unfold YN;generalize hG:EX m (D6 m (32*n) 32) (64*n)=G at e2' s2 m4 m5;by_cases hq:G.2<64*n+64
 ·obtain ⟨o3,τ3,ea,s3,n3⟩:=Om sU rY tf rfl rfl (by decide) (by decide) (by decide) (J++τ1) τ2 o2 G.1.length (Dk G.1) 1 1 (Dk [(G.2,64*n+64-G.2)]) Ay (by omega) (by decide) rfl s2 n2;have ea':AF P Ay (o2.1,o2.2.1,o2.2.2) (some ⟨(J++τ1++τ2).length,0,none⟩,1,1) (J++τ1++τ2++[Au.cells [.int .i64 (G.2:Int),.int .i64 ((64*n+64-G.2:Nat):Int)] Ay true])=some (o3,J++τ1++τ3):=ea;have gl:Js G.2 (64*n+64)=[(G.2,64*n+64-G.2)]:=by unfold Js; rw[yk hq]
  have w:Ar (((64*n+64:Nat):Int)-(G.2:Int))=((64*n+64-G.2:Nat):Int):=by rw[Ah (by unfold AK; omega)]; omega
  refine ⟨τ1++τ3,o3, ?_, ?_,fun a ha=>by have:=n3 a ha; simp at this; omega⟩
  ·simp only[yr,By,e1,AI,ED,w1,e2',ye,kL,w2,w3,xZ (show (G.2:Int)<((64*n+64:Nat):Int) by omega),IT,Ae,w,ea',GZ];rw[ya]
  ·rw[gl,ND,yi,<- ya]; exact s3
 ·have gl:Js G.2 (64*n+64)=[]:=by unfold Js; rw[ym hq]
  refine ⟨τ1++τ2,o2, ?_, ?_,fun a ha=>by have:=n2 a ha; simp at this; omega⟩
  ·simp only[yr,By,e1,AI,ED,w1,e2',ye,kL,w2,w3,xY (show ¬ (G.2:Int)<((64*n+64:Nat):Int) by omega),By,GZ];rw[ya]
  ·rw[gl,yw,<- ya]; exact s2
end
end
end Go.Proofs.YtjbledomkmdkmaaGreat
