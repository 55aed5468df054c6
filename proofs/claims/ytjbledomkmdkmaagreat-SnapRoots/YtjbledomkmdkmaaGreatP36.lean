/- A collector over a core: its calls.; Stores and loads that a concurrent collector sees.; The chapter's example.; Small things of two runs.; SnapRoots: -/
import Derived.Test.YtjbledomkmdkmaaGreatP35
import Derived.Test.YtjbledomkmdkmaaGreatP31
set_option linter.unusedVariables false
set_option linter.unusedSimpArgs false
set_option linter.unusedSectionVars false
namespace Go.Proofs.YtjbledomkmdkmaaGreat
open Go Go.AX
noncomputable section
local instance yN:AA:=Ap
section
variable {J:Aa} {m m':HM} {r:DX} {s:TC} {i:Cd} {p:PI} {c:CI} {kb:Nat}
abbrev JW (kb:Nat):Option Addr:=some ⟨kb,0,none⟩
structure UG (J:Aa) (kb:Nat) (i:Cd) (p:PI) (c:CI) (m:HM) (r:DX) (s:TC):Prop where
 col:J[kb]?=some (.cells [.pointer (Dd c)] H0 true)
 t:JT J i p c m r s
 nk:kb ∉ i.l/\kb ∉ p.l/\kb ∉ c.l
theorem UG.app (h:UG J kb i p c m r s) (τ:Aa):UG (J++τ) kb i p c m r s:=⟨(AT (Af h.col)).trans h.col,h.t.app τ,h.nk⟩
theorem UG.core (k:Nat) (h:UG J kb i p c m r s):Al (k+1) (JW kb) J=some (.pointer (Dd c),J):=by
 have l0:BR J kb 0=some (Dd c):=by simp[BR,D5,h.col,HD]
 rw[Kk];simp only[show J9 P D4 (.pointer (JW kb)) (.pointer none)=some false from by kernel_rfl,AI,By,IN,l0]
def KG (mm:Option (Value × Aa)) (J:Aa) (kb:Nat) (i:Cd) (p:PI) (c:CI) (r:DX) (v:Value) (q:HM × TC):Prop:=
 ∃ J' c',mm=some (v,J')/\UG J' kb i p c' q.1 r q.2/\Mv (i.l++c.l) (i.l++c'.l) J J'/\c'.cb=c.cb
theorem UG.go (h:UG J kb i p c m r s) {mm mm':Option (Value × Aa)} {v w:Value} {q:HM × TC} (g:TG mm J i p c r v q) (e:∀ J',mm=some (v,J')->mm'=some (w,J')):KG mm' J kb i p c r w q:=by
 obtain ⟨J',c',e1,T,hm,hc⟩:=g;have hn:kb ∉ i.l++c.l:=fun hh=>(yf.1 hh).elim h.nk.1 h.nk.2.2;have lt:=Af h.col;refine ⟨J',c',e J' e1,⟨?_,T,h.nk.1,h.nk.2.1,fun hh=>?_⟩,hm,hc⟩
 ·rw[hm.same kb lt hn,h.col]; unfold Dd; rw[hc]
 ·rcases hm.new kb (yf.2 (.inr hh)) with h1 | h1
  ·exact hn h1
  ·omega
theorem m9 (k:Nat) (hk:5000<=k) (h:UG J kb i p c m r s) (hp:s.ph=0) (hs:OJ m r=true):KG (B5 (k+14) (JW kb) J) J kb i p c r (.int .i64 0) (m,OK m r s):=
 h.go (dG k hk h.t hp hs) fun J' e=>by
  rw[JN];have ec:Al (k+13) (JW kb) J=_:=h.core (k+12);simp only[ec,AI,HD,e,Ag]
theorem pg (k:Nat) (hk:20000<=k) (h:UG J kb i p c m r s) {N:Nat} (h1:1<=N) (hN:N<=10000):KG (BI (k+17) (JW kb) (N:Int) J) J kb i p c r (.tuple #[.int .i64 ((Cz r N (m,s)).1:Int),.int .i64 0]) (Cz r N (m,s)).2:=
 h.go (jH k hk h.t h1 hN) fun J' e=>by
  rw[Kj];have ec:Al (k+16) (JW kb) J=_:=h.core (k+15);simp only[ec,AI,HD,e,Cp]
theorem iD (k:Nat) (hk:20000<=k) (h:UG J kb i p c m r s):KG (BF (k+17) (JW kb) J) J kb i p c r (.tuple #[.int .i64 ((Cz r 7000 (m,s)).1:Int),.int .i64 0]) (VV r (m,s)):=by
 have em:AE (k+15) (Dd c) J=_:=HH (k+14) h.t.co;obtain ⟨J',c',e,T',m',b',n'⟩:=PC k (by omega) c.cb 7000 0 (k+15) J c m s h.t rfl (bK h.t.tok h.t.mo.nt) (by omega) (by omega);rw[show ((0:Nat):Int)=0 from rfl] at e;have ef:Gr (k+16) (Dd c) J=some (.tuple #[.int .i64 ((Cz r 7000 (m,s)).1:Int),.int .i64 0],J'):=by
  rw[Mq];simp only[em,AI,Ao,yp,By,e,ye,D7,IN]
 refine h.go ⟨J',c',ef,T',m',b'⟩ fun J' e=>?_;rw[Jw];have ec:Al (k+16) (JW kb) J=_:=h.core (k+15);simp only[ec,AI,HD,e,Cp]
theorem m8 (k:Nat) (h:UG J kb i p c m r s):DV (k+3) (JW kb) J=some (.int .i64 s.ph,J):=by
 rw[NO];have ec:Al (k+2) (JW kb) J=_:=h.core (k+1);have ep:Ia (k+2) (Dd c) J=some (.int .i64 s.ph,J):=by
  rw[Tl];simp only[HH k h.t.co,AI,Ao,yp,By,IN,yl,h.t.co.ZV]
 simp only[ec,AI,HD,ep,Ag]
theorem mz (k:Nat) (h:UG J kb i p c m r s):Bz (k+3) (JW kb) J=some (.int .i64 s.freed,J):=by
 rw[JM];have ec:Al (k+2) (JW kb) J=_:=h.core (k+1);have ep:GJ (k+2) (Dd c) J=some (.int .i64 s.freed,J):=by
  rw[MM];have em:AE (k+1) (Dd c) J=_:=HH k h.t.co;simp only[em,AI,Ao,yp,By,IN,yl,h.t.co.wR]
 simp only[ec,AI,HD,ep,Ag]
theorem fe (k:Nat) (h:UG J kb i p c m r s):∃ l τ,CG (k+3) (JW kb) J=some (.slice l.1 l.2.1 l.2.2,J++τ)/\Ba (J++τ) l s.list:=by
 have hnt:=h.t.mo.nt;have hlen:=h.t.tok.len;obtain ⟨l,τ,ec2,li,_⟩:=UO k c.ls.1 s.list.length s.list (by omega) h.t.co.ls.holds;refine ⟨l,τ, ?_,li⟩;rw[O8];have ec:Al (k+2) (JW kb) J=_:=h.core (k+1);have ep:IJ (k+2) (Dd c) J=some (.slice l.1 l.2.1 l.2.2,J++τ):=by
  rw[Uh];have em:AE (k+1) (Dd c) J=_:=HH k h.t.co;simp only[em,AI,Ao,yp,By,IN,yl,h.t.co.pz,ec2,ED]
 simp only[ec,AI,HD,ep,ED]
def sd (m:HM) (s:TC) (a:Int):Int:=if AU m a then (F5 s a:Int) else -1
theorem iC (k:Nat) (h:UG J kb i p c m r s) (a:Int) (ha:AK a):DC (k+7) (JW kb) a J=some (.int .i64 (sd m s a),J):=by
 have ec:Al (k+6) (JW kb) J=_:=h.core (k+5);have em:AE (k+5) (Dd c) J=_:=HH (k+4) h.t.co;have eh:AQ (k+5) (AM i) a J=_:=Rb (k+1) h.t.h a ha;have ep:Hy (k+6) (Dd c) a J=some (.int .i64 (sd m s a),J):=by
  rw[RE];simp only[em,AI,Ao,yp,By,IN,yl,h.t.co.GK,eh];unfold sd;cases hh:AU m a with
  | false=>rfl
  | true=>
    have eo:Cu (k+5) (Dd c) a J=_:=iS (k+1) h.t.co hh;simp only[yp,By,eo,AI,Ag,ye]
 rw[N0];simp only[ec,AI,HD,ep,Ag]
theorem aP (k:Nat) (hk:5000<=k) (h:UG J kb i p c m r s) (hb:m.births<1000000) (hz:Zc m s) (hph:s.ph=0\/s.ph=1\/s.ph=2) (hbn:s.born=0\/s.born=2) (rr d kd:Int) {sp:Int} (hsp:0<=sp/\sp<8):
  KG (C7 (k+15) (JW kb) rr d kd sp J) J kb i p c r (.tuple #[.int .i64 (GW m sp rr d kd).1.1,.int .i64 (GW m sp rr d kd).1.2]) ((GW m sp rr d kd).2.1,Rk m s sp rr d kd):=by
 obtain ⟨B0,hB0⟩:∃ B0,Au.cells [.int .i64 rr,.int .i64 d,.int .i64 kd] Ad true=B0:=⟨_,rfl⟩;have h1:=h.app [B0];obtain ⟨J',e,T,hm⟩:=gE k hk h1.t hb hz hph hbn rr d kd hsp;have b1:(J++[B0])[J.length]?=some B0:=yK;have ld:Ak .i64 (J++[B0]) J.length 0=some rr/\Ak .i64 (J++[B0]) J.length (0+1)=some d/\Ak .i64 (J++[B0]) J.length (0+1+1)=some kd:=by
  simp[Ak,D5,b1,<- hB0,Bn]
 obtain ⟨l0,l1,l2⟩:=ld;obtain ⟨J2_,c2,e2,h2,m2,b2⟩:=h1.go (q:=((GW m sp rr d kd).2.1,Rk m s sp rr d kd)) ⟨J',c,e,T,hm,rfl⟩ (mm':=some (.tuple #[.int .i64 (GW m sp rr d kd).1.1,.int .i64 (GW m sp rr d kd).1.2],J')) (fun J' e'=>by rw[e] at e'; rw[zH e']);refine ⟨J2_,c2, ?_,h2,(Mv.app _ _ _).trans m2,b2⟩;have ec:Al (k+14) (JW kb) (J++[B0])=_:=h1.core (k+13);rw[NN];simp only[Ae,hB0,ec,AI,HD,l0,l1,l2,e,Cp];exact e2
def Vq (m:HM) (s:TC) (a:Int):TC:=if s.ph=1 then Dl m s a else s
theorem av (k:Nat) (T:JT J i p c m r s) (a:Int) (ha:AK a):TG (Em (k+12) (Dd c) a J) J i p c r (.tuple #[]) (m,Vq m s a):=by
 rw[RF];simp only[AI,IN,T.co.ZV];unfold Vq;by_cases h:s.ph=1
 ·obtain ⟨J',c',e,T',hm,hc⟩:=UK k T (by rw[h]; decide) a ha;rw[yk h,show (s.ph == 1)=true from by rw[h]; rfl];refine ⟨J',c', ?_,T',hm.right i.l,hc⟩;simp only[IT,e,AI,Gs,ye]
 ·rw[ym h,show (s.ph == 1)=false from by simpa using h];simp only[By,AI,ye];exact ⟨J,c,rfl,T,Mv.refl _ _,rfl⟩
theorem tV (k:Nat) (T:JT J i p c m r s) (a x:Int) (ha:AK a):∃ τ,HZ (k+8) (Dd c) a x J=some (.tuple #[.int .i64 (Bj m a x),.int .i64 (J0 m a x false).2],J++τ):=by
 obtain ⟨τ,e⟩:=UJ k T.h T.mo.inv a x ha;have e:AG (k+7) (AM i) a x J=some (.tuple #[.int .i64 (Bj m a x),.int .i64 (J0 m a x false).2],J++τ):=e;refine ⟨τ, ?_⟩;rw[UR];have em:AE (k+7) (Dd c) J=_:=HH (k+6) T.co;simp only[em,AI,Ao,yp,By,IN,yl,T.co.GK,e,Cp]
theorem bP (k:Nat) (T:JT J i p c m r s):Dg (k+1) (Dd c) J=some (.pointer (AM i),J):=by
 rw[Ug];simp only[AI,IN,T.co.GK]
theorem uH (hI:Inv m) {a x:Int} (h0:0<=x) (hx:x<(Aq m a).1):(J0 m a x false).2=0:=by
 have hh:=Z6 hx h0;obtain ⟨j,rfl,hs⟩:=Bd hh;rw[JC hs] at hx;obtain ⟨n,rfl⟩:∃ n:Nat,x=(n:Int):=⟨x.toNat,by omega⟩;unfold J0;rw[Qd hI hs hx,yk rfl]
theorem fU (T:JT J i p c m r s) (a x:Int):AK (Bj m a x):=SH T.h.wi a x
end
section
variable {J:Aa} {m m':HM} {r:DX} {s:TC} {i:Cd} {p:PI} {c:CI} {kb:Nat}
def wU (m:HM) (s:TC) (a x L5:Int):TC:=if x=0/\(Aq m a).2.2=2 then Vq m (Vq m s L5) (Bj m a 1) else Vq m s L5
theorem TG.trans {mm mm':Option (Value × Aa)} {v w:Value} {q q':HM × TC} {J1_:Aa} {c1:CI} (h:Mv (i.l++c.l) (i.l++c1.l) J J1_) (hc:c1.cb=c.cb) (g:TG mm J1_ i p c1 r v q) (e:∀ J',mm=some (v,J')->mm'=some (w,J')):TG mm' J i p c r w q:=by
 obtain ⟨J',c',e1,T,hm,hc'⟩:=g;exact ⟨J',c',e J' e1,T,h.trans hm,hc'.trans hc⟩
theorem RT {b:Nat} {v:Option Addr} {T:TypeId} (h:J[b]?=some (.cells [.pointer v] T true)):BR J b 0=some v:=by simp[BR,D5,h,HD]
theorem pQ (k:Nat) (h:UG J kb i p c m r s) (a x L5:Int) (ha:AK a) (ho:AK L5):KG (Df (k+14) (JW kb) a x L5 J) J kb i p c r (.tuple #[]) (m,wU m s a x L5):=by
 have l0:=RT h.col;obtain ⟨J1_,c1,e1,h1,m1,b1⟩:=h.go (av (k+1) h.t L5 ho) (fun _ e=>e);have e1:Em (k+13) (Dd c) L5 J=_:=e1;have l1:=RT h1.col;have eH1:Dg (k+13) (Dd c1) J1_=_:=bP (k+12) h1.t;unfold wU;rw[L6];simp only[AI,IN,yl,l0,e1,Gs];by_cases hx:x=0;rotate_left
 ·rw[ym (fun hh=>hx hh.1),show (x == 0)=false from by simpa using hx];simp only[By,AI,ye];exact ⟨J1_,c1,rfl,h1,m1,b1⟩
 rw[show (x == 0)=true from by simpa using hx];obtain ⟨τ,e2⟩:=jB (k+6) h1.t.h a ha;have e2:G4 (k+13) (AM i) a J1_=_:=e2;have h2:=h1.app τ;have l2:=RT h2.col;have eH2:Dg (k+13) (Dd c1) (J1_++τ)=_:=bP (k+12) h2.t;simp only[IT,l1,eH1,AI,HD,e2,Ag];by_cases hk:(Aq m a).2.2=2;rotate_left
 ·rw[ym (fun hh=>hk hh.2),show ((Aq m a).2.2 == 2)=false from by simpa using hk];simp only[By,AI,ye];exact ⟨J1_++τ,c1,rfl,h2,m1.trans (Mv.app _ _ _),b1⟩
 rw[yk ⟨hx,hk⟩,show ((Aq m a).2.2 == 2)=true from by simpa using hk];obtain ⟨τ2,e3⟩:=UJ (k+6) h2.t.h h2.t.mo.inv a 1 ha;have e3:AG (k+13) (AM i) a 1 (J1_++τ)=some (.tuple #[.int .i64 (Bj m a 1),.int .i64 (J0 m a 1 false).2],J1_++τ++τ2):=e3;have h3:=h2.app τ2;have l3:=RT h3.col;obtain ⟨J4_,c4,e4,h4,m4,b4⟩:=h3.go (av (k+1) h3.t (Bj m a 1) (fU h3.t a 1)) (fun _ e=>e);have e4:Em (k+13) (Dd c1) (Bj m a 1) (J1_++τ++τ2)=_:=e4;refine ⟨J4_,c4, ?_,h4,((m1.trans (Mv.app _ _ _)).trans (Mv.app _ _ _)).trans m4,b4.trans b1⟩;simp only[IT,l2,eH2,AI,HD,e3,Cp,l3,e4,Gs,ye]
def wy (m:HM) (s:TC) (a x to:Int):TC:=wU (Cv m a x to).2 s a x (Bj m a x)
theorem mB (k:Nat) (hk:20<=k) (h:UG J kb i p c m r s) {a x to:Int} (ha:AK a) (hto:AK to) (h0:0<=x) (hx:x<(Aq m a).1) (hv:to=0\/AU m to=true):KG (DW (k+15) (JW kb) a x to J) J kb i p c r (.int .i64 0) ((Cv m a x to).2,wy m s a x to):=by
 obtain ⟨z1,V⟩:=gu h.t.mo.inv h0 hx hv;obtain ⟨τ,e1⟩:=tV (k+6) h.t a x ha;rw[uH h.t.mo.inv h0 hx] at e1;have e1:HZ (k+14) (Dd c) a x J=_:=e1;have h1:=h.app τ;obtain ⟨J2_,e2,g2,k2⟩:=Rh (k+7) h1.t.h h1.t.mo.inv a x to ha hto;have e2:CC (k+14) (AM i) a x to (J++τ)=some (.int .i64 (Cv m a x to).1,J2_):=e2;rw[z1] at e2;have T2:=h1.t.eZ g2 k2 (h1.t.mo.setRef a x to) (by rw[V.bls]);obtain ⟨J2',c2,e2',h2,m2,b2⟩:=h1.go (q:=((Cv m a x to).2,s)) (mm:=some (.int .i64 0,J2_)) (mm':=some (.int .i64 0,J2_)) (v:=.int .i64 0) ⟨J2_,c,rfl,T2,k2.mv.left c.l,rfl⟩ (fun _ e=>e);obtain ⟨_,rfl⟩:=Prod.mk.inj (zH e2');obtain ⟨J3_,c3,e3,h3,m3,b3⟩:=pQ k h2 a x (Bj m a x) ha (fU h.t a x);refine ⟨J3_,c3, ?_,h3,((Mv.app _ _ _).trans m2).trans m3,b3.trans b2⟩;have ec:Al (k+14) (JW kb) J=_:=h.core (k+13);have eH:Dg (k+14) (Dd c) (J++τ)=_:=bP (k+13) h1.t;rw[NP];simp only[ec,AI,HD,e1,Cp,yr,By,RT h1.col,IN,yl,eH,e2,Ag,e3,Gs]
end
section
set_option maxRecDepth 100000
def uV:DX:=⟨1,List.replicate (16*1) 0,List.replicate 16 0,[]⟩
def wj:TC:=Tt (I6 4).bls.length false 2
def Vy:=GW (I6 4) 0 1 0 0
def oK:=Rk (I6 4) wj 0 1 0 0
def ZM:=GW Vy.2.1 0 0 0 0
def uj:=Rk Vy.2.1 oK 0 0 0 0
def Yq:DX:=(MQ uV 0 0 0 Vy.1.1).2
def ui:=(Cv ZM.2.1 Vy.1.1 0 ZM.1.1).2
def uk:=wy ZM.2.1 uj Vy.1.1 0 ZM.1.1
def oL:=OK ui Yq uk
def uU:=(Cz Yq 1 (ui,oL)).2
def wh:=VV Yq uU
def xj:Bool:=decide (Vy.1.2=0) && decide (ZM.1.2=0) && decide ((MQ uV 0 0 0 Vy.1.1).1=0) && decide (0<(Aq ZM.2.1 Vy.1.1).1) && AU ZM.2.1 ZM.1.1 && decide (uk.ph=0) && OJ ui Yq && decide (oL.list=[Vy.1.1]) && decide ((Cz Yq 1 (ui,oL)).1=1) && decide (uU.2.list=[ZM.1.1]) && decide (sd uU.1 uU.2 Vy.1.1=2) && decide (wh.2.ph=0) && decide (wh.2.freed=0) &&
 decide (0<=Vy.1.1/\Vy.1.1<10000) && decide (0<=ZM.1.1/\ZM.1.1<10000) && (List.range 128).all (fun j=>decide (CR 2 wj.ws j=0)) && (List.range 128).all (fun j=>decide (CR 2 oK.ws j=0)) && decide (Vy.2.1.bls.length=4) && decide (Vy.2.1.births=1) && decide (oK.ph=0) && decide (oK.born=2) && decide (wj.ph=0)
theorem oJ:xj=true:=by kernel_rfl
theorem xk {m:HM} {s:TC} (hl:m.bls.length=4) (h:∀ j ∈ List.range 128,CR 2 s.ws j=0):Zc m s:=fun j hj h0=>absurd (h j (List.mem_range.2 (by rw[hl] at hj; omega))) h0
theorem UG.qp {J J':Aa} {kb:Nat} {i:Cd} {p:PI} {c:CI} {m:HM} {r r':DX} {s:TC} (h:UG J kb i p c m r s) (hr:Gv J' p r') (hm:Mv p.l p.l J J'):UG J' kb i p c m r' s:=by
 have k0:∀ x ∈ i.l,J'[x]?=J[x]?:=fun x hx=>hm.same x (h.t.h.lt x hx) (h.t.fp.ne (x:=0) (y:=1) (by simp) (by simp) (by decide) x hx);have k2:∀ x ∈ c.l,J'[x]?=J[x]?:=fun x hx=>hm.same x (h.t.co.lt x hx) (h.t.fp.ne (x:=2) (y:=1) (by simp) (by simp) (by decide) x hx);exact ⟨(hm.same kb (Af h.col) h.nk.2.1).trans h.col,⟨h.t.h.Aw k0,h.t.mo,hr,h.t.co.Aw k2,⟨h.t.fp.dj,fun L hL q hq=>yG (h.t.fp.lt L hL q hq) hm.len⟩,h.t.tok⟩,h.nk⟩
theorem oR (J:Aa) (v:Int):Ba (J++[Au.cells [.int .i64 v] Aj true]) (some ⟨J.length,0,none⟩,1,1) [v]:=.inl (.inr ⟨J.length,rfl,zh _,rfl,yK⟩)
theorem wI (a:Addr):J9 P D4 (.pointer (some a)) (.pointer none)=some false:=by kernel_rfl
theorem oM (k:Nat) (hk:30000<=k) (J:Aa):∃ J',IV (k+18) J=some (.bool true,J'):=by
 have C:=oJ;unfold xj at C;simp only[zn,zA,Aay] at C;obtain ⟨⟨⟨⟨⟨⟨⟨⟨⟨⟨⟨⟨⟨⟨⟨⟨⟨⟨⟨⟨⟨c1,c2⟩,c3⟩,c4⟩,c5⟩,c6⟩,c7⟩,c8⟩,c9⟩,c10⟩,c11⟩,c12⟩,c13⟩,c14⟩,c15⟩,c16⟩,c17⟩,c18⟩,c19⟩,c20⟩,c21⟩,c22⟩:=C;have bn:∀ {s:TC},s.born=2->s.born=0\/s.born=2:=fun h=>by omega
 have i1:AK Vy.1.1:=by unfold AK; omega
 have i2:AK ZM.1.1:=by unfold AK; omega
 obtain ⟨J1_,i,e1,h1,n1,kp1⟩:=oq (k+12) (n:=4) (by decide) (by decide) J;have e1:Ix (k+17) 4 J=_:=e1;obtain ⟨τ2,p,e2,h2,n2⟩:=qe (k+16) (n:=1) (by decide) (by decide) J1_;have e2:Hu (k+17) 1 J1_=_:=e2;have F1:Fp J1_ [i.l]:=(Fp.nil J).cons (fun q hq=>⟨n1 q hq,h1.lt q hq⟩) kp1.len;have F2:Fp (J1_++τ2) [i.l,p.l]:=(F1.cons (L:=p.l) (J':=J1_++τ2) (fun q hq=>⟨n2 q hq,h2.lt q hq⟩) (by simp)).sub [1,0] (by decide) (by simp) rfl;obtain ⟨τ3,c,e3,T,n3⟩:=bJ (k+11) (by omega) (h1.app τ2) (MK.new (by decide) (by decide)) h2 F2 false 2;have e3:LO (k+16) (AM i) (FD p) false 2 (J1_++τ2)=_:=e3;obtain ⟨K0,hK0⟩:∃ K0,Au.cells [.pointer (Dd c)] H0 true=K0:=⟨_,rfl⟩;have e4:Jx (k+17) (AM i) (FD p) (J1_++τ2)=some (.tuple #[.pointer (JW (J1_++τ2++τ3).length),.int .i64 0],J1_++τ2++τ3++[K0]):=by
  rw[T9];simp only[e3,AI,Ku,yr,By,Ae,hK0]
 generalize hkb:(J1_++τ2++τ3).length=kb at *;have A0:UG (J1_++τ2++τ3++[K0]) kb i p c (I6 4) uV wj:=⟨by rw[<- hkb,yK,<- hK0],T.app [K0],fun hh=>by have:=T.h.lt _ hh; omega,fun hh=>by have:=T.rt.lt _ hh; omega,fun hh=>by have:=T.co.lt _ hh; omega⟩;obtain ⟨J5_,c5',e5,A1,_,_⟩:=aP (k+2) (by omega) A0 (by decide) (xk rfl c16) (.inl c22) (bn rfl) 1 0 0 (sp:=0) (by decide);have e5:C7 (k+17) (JW kb) 1 0 0 0 (J1_++τ2++τ3++[K0])=some (.tuple #[.int .i64 Vy.1.1,.int .i64 Vy.1.2],J5_):=e5;have A1:UG J5_ kb i p c5' Vy.2.1 uV oK:=A1;obtain ⟨J6_,c6',e6,A2,_,_⟩:=aP (k+2) (by omega) A1 (by rw[c19]; decide) (xk c18 c17) (.inl c20) (bn c21) 0 0 0 (sp:=0) (by decide);have e6:C7 (k+17) (JW kb) 0 0 0 0 J5_=some (.tuple #[.int .i64 ZM.1.1,.int .i64 ZM.1.2],J6_):=e6;have A2:UG J6_ kb i p c6' ZM.2.1 uV uj:=A2;obtain ⟨J7_,e7,hr7,m7⟩:=gT (k+13) A2.t.rt (kk:=0) (mt:=0) (ix:=0) (.inl ⟨rfl,by decide,by decide⟩) Vy.1.1 i1;have e7:BA (k+17) (FD p) 0 0 0 Vy.1.1 J6_=some (.int .i64 (MQ uV 0 0 0 Vy.1.1).1,J7_):=e7;have A3:UG J7_ kb i p c6' ZM.2.1 Yq uj:=A2.qp hr7 m7;obtain ⟨J8_,c8',e8,A4,_,_⟩:=mB (k+2) (by omega) A3 (x:=0) i1 i2 (by decide) c4 (.inr c5);have e8:DW (k+17) (JW kb) Vy.1.1 0 ZM.1.1 J7_=some (.int .i64 0,J8_):=e8;have A4:UG J8_ kb i p c8' ui Yq uk:=A4;obtain ⟨J9_,c9',e9,A5,_,_⟩:=m9 (k+3) (by omega) A4 c6 c7;have e9:B5 (k+17) (JW kb) J8_=some (.int .i64 0,J9_):=e9;have A5:UG J9_ kb i p c9' ui Yq oL:=A5;obtain ⟨l1,τ10,e10,li1⟩:=fe (k+14) A5;have e10:CG (k+17) (JW kb) J9_=_:=e10;rw[c8] at li1;have A6:=(A5.app τ10).app [Au.cells [.int .i64 Vy.1.1] Aj true];have x1:=X8 (k+16) (li1.app [Au.cells [.int .i64 Vy.1.1] Aj true]).g (oR (J9_++τ10) Vy.1.1).g (by decide) (by show 1<_; omega);have x1:DN (k+17) (l1.1,l1.2.1,l1.2.2) (some ⟨(J9_++τ10).length,0,none⟩,1,1) (J9_++τ10++[Au.cells [.int .i64 Vy.1.1] Aj true])=_:=x1;obtain ⟨J11,c11',e11,A7,_,_⟩:=pg k (by omega) A6 (N:=1) (by decide) (by decide);have e11:BI (k+17) (JW kb) 1 _=some (.tuple #[.int .i64 ((Cz Yq 1 (ui,oL)).1:Int),.int .i64 0],J11):=e11;rw[c9] at e11;have A7:UG J11 kb i p c11' uU.1 Yq uU.2:=A7;obtain ⟨l2,τ12,e12,li2⟩:=fe (k+14) A7;have e12:CG (k+17) (JW kb) J11=_:=e12;rw[c10] at li2;have A8:=(A7.app τ12).app [Au.cells [.int .i64 ZM.1.1] Aj true];have x2:=X8 (k+16) (li2.app [Au.cells [.int .i64 ZM.1.1] Aj true]).g (oR (J11++τ12) ZM.1.1).g (by decide) (by show 1<_; omega);have x2:DN (k+17) (l2.1,l2.2.1,l2.2.2) (some ⟨(J11++τ12).length,0,none⟩,1,1) (J11++τ12++[Au.cells [.int .i64 ZM.1.1] Aj true])=_:=x2;have e13:DC (k+17) (JW kb) Vy.1.1 _=_:=iC (k+10) A8 Vy.1.1 i1;rw[c11] at e13;obtain ⟨J14,c14',e14,A9,_,_⟩:=iD k (by omega) A8;have A9:UG J14 kb i p c14' wh.1 Yq wh.2:=A9;have e15:DV (k+17) (JW kb) J14=_:=m8 (k+14) A9;have e16:Bz (k+17) (JW kb) J14=_:=mz (k+14) A9;rw[c12] at e15;rw[c13] at e16;rw[c1] at e5;rw[c2] at e6;rw[c3] at e7;refine ⟨J14, ?_⟩;rw[VI];simp only[e1,e2,AI,Ku,vA,uw,By,yr,e4,wI,e5,Cp,e6,e7,Ag,e8,e9,e10,ED,Ae,x1,Ao,yp,e11,e12,x2,e13,e14,z9,IT,e15,e16,show (((1:Nat):Int) != 1)=false from rfl]
end
section
variable {J:Aa} {r:DX}
theorem MF.xo {X:XI} {m:HM} {s:TC} (h:MF J X m r s):∀ p ∈ X.Ls.flatten,p<J.length:=fun p hp=>by
 obtain ⟨L,hL,hp⟩:=zm.1 hp;exact h.fp.lt L hL p hp
theorem jg {m:HM} (hM:MK m):∀ o ∈ F7 m,o.refs.length<=500/\o.data.length<=500:=by
 intro o ho;obtain ⟨j,hj,rfl⟩:=zK.1 ho;obtain ⟨_,a,b,c,d,_⟩:=Ot hM.inv (Dh.1 hj);exact ⟨by show (L8 m _ _).length<=500; rw[Gk]; omega,by show (L8 m _ _).length<=500; rw[Gk]; omega⟩
theorem qo {m:HM} (hM:MK m):(F7 m).length<=5000:=by
 have:=Nk hM.nt;unfold Ga CK at this;unfold F7;rw[zI] at this ⊢;omega
theorem wL (a:Addr):J9 P Gj (.pointer (some a)) (.pointer none)=some false:=by kernel_rfl
theorem po {ρ:Type} {a:Addr} {J J':Aa} {m:Option ρ} (h:J'[a.block]?=J[a.block]?):Km (some a) J J' m=m:=by
 have:Ap.k J J' a.block=true:=by unfold Ap; simpa using h
 show (bif Ap.k J J' a.block then m else none)=m;rw[this,IT]
theorem jN {α β:Type} {o:Option α} {f:α->Option β} {v:α} {z:Option β} (h:o=some v) (h2:f v=z):o.bind f=z:=by rw[h]; exact h2
theorem vQ (p:Option Addr):HD (.pointer p)=some p:=rfl
theorem tI (a:Option Addr) (n c:Nat):ED (.slice a n c)=some (a,n,c):=rfl
end
section
variable {J:Aa} {m:HM} {r:DX} {s:TC} {X Y:XI}
theorem nK {m:HM} {s:TC} (hl:s.look=false) (r r':DX):Jq m r s=Jq m r' s/\(Jq m r s).2.look=false:=by
 unfold Jq;split
 ·refine ⟨rfl, ?_⟩;unfold ZC;split
  ·unfold TB; split <;> exact hl
  ·unfold TB; simp only; split <;> exact hl
 ·split
  ·refine ⟨rfl, ?_⟩;simp only;unfold mU;split
   ·exact hl
   ·split
    ·show (Ij (CA m _ _) _ 2).look=false;exact ((HA m _ _).2.2.1).trans hl
    ·exact hl
  ·unfold YY;simp only[hl,y8,yq];refine ⟨trivial, ?_⟩;have he:(dZ m s).look=false:=((HA m _ s).2.2.1).trans hl;split
   ·exact he
   ·exact he
theorem LW (r r':DX):∀ (n:Nat) (q:HM × TC),q.2.look=false->Cz r n q=Cz r' n q/\(Cz r n q).2.2.look=false
 | 0,q,h=>⟨rfl,h⟩
 | n+1,q,h=>by
   rw[Cz,Cz];split
   ·exact ⟨rfl,h⟩
   ·obtain ⟨a,b⟩:=nK h r r';obtain ⟨c,d⟩:=LW r r' n (Jq q.1 r q.2) b;rw[<- a];exact ⟨by rw[c],d⟩
theorem jx (r:DX) {q:HM × TC} (h:q.2.ph=0):∀ n,Cz r n q=(0,q)
 | 0=>rfl
 | n+1=>by rw[Cz,yk h]
theorem oW (r rx ry:DX) {q:HM × TC} (hl:q.2.look=false) (k:Nat) (he:(VV ry q).2.ph=0):VV rx (Cz r k q).2=VV ry q:=by
 unfold VV at *;obtain ⟨a,b⟩:=LW r r k q hl;rw[(LW rx ry 7000 (Cz r k q).2 b).1];rw[(LW r ry k q hl).1];have h1:=SJ ry k 7000 q;have h2:=SJ ry 7000 k q;rw[Nat.add_comm] at h2;rw[h1,jx ry he] at h2;exact zC (fun z=>z.2) h2
structure PZ (J:Aa) (X Y:XI) (rx ry:DX) (qx qy:HM × TC):Prop where
 x:MF J X qx.1 rx qx.2
 y:MF J Y qy.1 ry qy.2
 dj:Dj X.Ls.flatten Y.Ls.flatten
variable {rx ry rx':DX} {qx qy qx':HM × TC}
theorem PZ.symm (P:PZ J X Y rx ry qx qy):PZ J Y X ry rx qy qx:=⟨P.y,P.x,P.dj.symm⟩
theorem PZ.app (P:PZ J X Y rx ry qx qy) (τ:Aa):PZ (J++τ) X Y rx ry qx qy:=⟨P.x.app τ,P.y.app τ,P.dj⟩
theorem PZ.go {J':Aa} {X':XI} (P:PZ J X Y rx ry qx qy) (h:MF J' X' qx'.1 rx' qx'.2) (hm:Mv X.Ls.flatten X'.Ls.flatten J J'):PZ J' X' Y rx' ry qx' qy:=by
 obtain ⟨a,b,_⟩:=hm.DH (X:=Y.Ls.flatten) P.y.xo fun p hp hp'=>P.dj p hp' hp;exact ⟨h,P.y.Aw hm.len fun L hL p hp=>a p (zm.2 ⟨L,hL,hp⟩),fun p hp hp'=>b p hp' hp⟩
theorem Vb {lo:Nat} {J':Aa} {b:BL} {w:Nat} (hm:Mv X.Ls.flatten Y.Ls.flatten J J') (hlo:lo<=J.length) (hn:∀ p ∈ X.Ls.flatten,lo<=p) (hU:KU lo J w b):KU lo J' w b/\lo<=J'.length /\ ∀ p ∈ Y.Ls.flatten,lo<=p:=by
 have:=hm.len;exact ⟨hU.DH fun p hp=>hm.same p (by omega) fun hh=>by have:=hn p hh; omega,by omega,fun p hp=>(hm.new p hp).elim (hn p) fun hh=>by omega⟩
theorem WD (k:Nat) (hk:40000<=k) (r0:DX) {lo:Nat} {b:BL}:∀ (n x f:Nat) (J:Aa) (X:XI) (rx:DX) (qx:HM × TC),PZ J X Y rx ry qx qy->(∀ p ∈ X.Ls.flatten,lo<=p)->lo<=J.length->KU lo J 3 b->qx.2.look=false->x+n=30->n<f ->
  ∃ J' X' rx' kk,CU (k+17) f b.p b.n b.c (nO X) (x:Int) J=some (.exit 0,[],J')/\PZ J' X' Y rx' ry (Cz r0 kk qx).2 qy/\X'.xb=X.xb/\X'.kb=X.kb
 | n,x,0,J,X,rx,qx,P,hn,hlo,hU,hlk,hx,hf=>by omega
 | n,x,f+1,J,X,rx,qx,P,hn,hlo,hU,hlk,hx,hf=>by
   rw[OT];by_cases hend:x<b.n/\n≠0;rotate_left
   ·have hc:(bif decide ((x:Int)<((b.n:Nat):Int)) then some (decide ((x:Int)<30),J) else some (false,J))=some (false,J):=by
     by_cases h1:x<b.n
     ·have h0:n=0:=Aca.1 fun hh=>hend ⟨h1,hh⟩;rw[xZ (by omega),IT,xY (by omega)]
     ·rw[xY (by omega),By]
    simp only[hc,AI,By];exact ⟨J,X,rx,0,rfl,P,rfl,rfl⟩
   obtain ⟨hxn,hn0⟩:=hend;obtain ⟨n,rfl⟩:∃ n',n=n'+1:=⟨n-1,by omega⟩;have qx1:(0<=(x:Int)/\(x:Int)<((b.n:Nat):Int))=True:=zl (by omega);have w1:Ar ((x:Int)+1)=((x+1:Nat):Int):=Ah (by unfold AK; omega);obtain ⟨pq,ep,hpq,hld⟩:=hU.ld hxn;obtain ⟨u0,hu0,lu0⟩:∃ u:Nat,b.at (x*3+0)=(u:Int)/\u<256:=⟨(b.at (x*3+0)).toNat,by have:=hU.rg (x*3+0); omega,by have:=hU.rg (x*3+0); omega⟩;obtain ⟨u1,hu1,lu1⟩:∃ u:Nat,b.at (x*3+1)=(u:Int)/\u<256:=⟨(b.at (x*3+1)).toNat,by have:=hU.rg (x*3+1); omega,by have:=hU.rg (x*3+1); omega⟩;obtain ⟨u2,hu2,lu2⟩:∃ u:Nat,b.at (x*3+2)=(u:Int)/\u<256:=⟨(b.at (x*3+2)).toNat,by have:=hU.rg (x*3+2); omega,by have:=hU.rg (x*3+2); omega⟩;obtain ⟨o,τ1,e1,g1,ok1⟩:=ff (k+5) (by omega) P.x;have e1:CE (k+17) (Ji X.I) J=_:=e1;have hnt:=P.x.t.mo.nt;have hfo:=g1.form;have f1:o.2.1=(YW qx.1 rx).length:=by rw[hfo]
   have hol:=pP hnt ok1;generalize YW qx.1 rx=l at *;have P1:=P.app τ1;obtain ⟨a,ha,ha0,hsel⟩:∃ a:Int,AK a/\0<=a /\ ∀ {ρ:Type} (K:Value->Aa->Option ρ),True:=⟨0,by unfold AK; omega,Aas _,fun _=>trivial⟩;clear hsel ha ha0 a;have hby:∀ (Z:Aa),(∀ p,p<lo->Z[p]?=J[p]?)->Ak .u8 Z pq (x*3+0)=some (u0:Int)/\Ak .u8 Z pq (x*3+1)=some (u1:Int)/\Ak .u8 Z pq (x*3+2)=some (u2:Int):=fun Z hμ=>by
    have:=hld Z (hμ pq hpq);exact ⟨by rw[this 0 (by decide),hu0],by rw[this 1 (by decide),hu1],by rw[this 2 (by decide),hu2]⟩
   have hlow1:∀ p,p<lo->(J++τ1)[p]?=J[p]?:=fun p hp=>AT (by omega);obtain ⟨y0,y1,y2⟩:=hby _ hlow1
   let a:Int:=if 0<l.length/\u1<200 then l.getD (u1 % l.length) 0 else 0
   have ha:AK a/\0<=a:=by
    show AK (if 0<l.length/\u1<200 then l.getD (u1 % l.length) 0 else 0)/\0<=(if 0<l.length/\u1<200 then l.getD (u1 % l.length) 0 else 0);split
    ·rename_i hh;have:=hol _ (Pg (l:=l) (x:=u1 % l.length) (Aaq _ hh.1));exact ⟨this.1,this.2.1⟩
    ·unfold AK; omega
   have t36:(u0:Int).tmod 36=((u0 % 36:Nat):Int):=Oq u0 36;have wu0:Ar (u0:Int)=(u0:Int):=Ah (by unfold AK; omega);have wu1:Ar (u1:Int)=(u1:Int):=Ah (by unfold AK; omega);obtain ⟨τ2,e2⟩:=rR (k+14) P1.x (n:=u0 % 36) (by omega);have e2:Cs (k+17) (Ji X.I) ((u0 % 36:Nat):Int) (J++τ1)=_:=e2;have P2:=P1.app τ2;have hk2:(Gu rx.mu (u0 % 36)).1≠2:=by
    unfold Gu;rw[show u0 % 36 % 40=u0 % 36 from by omega];split
    ·show (0:Int)≠2; decide
    ·rw[yk (by omega)]; show (1:Int)≠2; decide
   have hpl:=gH rx P.x.t.rt.ok (u0 % 36) fun hh=>hk2 hh.1;obtain ⟨J3_,e3,h3,m3⟩:=te (k+13) P2.x hpl hk2 ha.1 ha.2;have e3:BA (k+17) (FD X.I.p) _ _ _ a (J++τ1++τ2)=_:=e3;have P3:=P2.go h3 m3;have mm:Mv X.Ls.flatten X.Ls.flatten J J3_:=((Mv.app _ _ _).trans (Mv.app _ _ _)).trans m3;obtain ⟨U3,lo3,n3⟩:=Vb mm hlo hn hU;have hlow3:∀ p,p<lo->J3_[p]?=J[p]?:=fun p hp=>mm.same p (by omega) fun hh=>by have:=hn p hh; omega
   obtain ⟨_,_,v2⟩:=hby _ hlow3;have t2:(u2:Int).tmod 2=((u2 % 2:Nat):Int):=Oq u2 2;obtain ⟨J4_,X4,kk,P4,n4,lo4,U4,hlk4,hxb,hkb,hun⟩:∃ J4_ X4 kk,PZ J4_ X4 Y (Jn rx (Gu rx.mu (u0 % 36)).1 (Gu rx.mu (u0 % 36)).2.1 (Gu rx.mu (u0 % 36)).2.2 a) ry (Cz r0 kk qx).2 qy/\(∀ p ∈ X4.Ls.flatten,lo<=p)/\lo<=J4_.length/\KU lo J4_ 3 b/\(Cz r0 kk qx).2.2.look=false/\X4.xb=X.xb/\X4.kb=X.kb/\(bif (((u2 % 2:Nat):Int) == (1:Int)) then (some ⟨X.xb,0,none⟩:Option Addr).bind fun a61=>(BR J3_ a61.block (a61.off+1)).bind fun p62=>(BI (k+17) p62 (1:Int) J3_).bind fun r63=>I8 r63.1 fun n64 n65=>bif n65 != (0:Int) then (some (Cc.ret,[Value.bool false],r63.2):Option Bl) else (some (.normal,[],r63.2)) else (some (.normal,[],J3_)))=some (.normal,[],J4_):=by
    by_cases hst:u2 % 2=1
    ·obtain ⟨J4_,X4,e4,h4,m4,hx4,hk4⟩:=oS k (by omega) P3.x (N:=1) (by omega) (by omega);rw[show ((1:Nat):Int)=1 from rfl] at e4;obtain ⟨U4,lo4,n4⟩:=Vb m4 lo3 n3 U3;have hlook:=LW r0 r0 1 qx hlk;rw[(LW _ r0 1 qx hlk).1] at e4 h4;refine ⟨J4_,X4,1,P3.go h4 m4,n4,lo4,U4,hlook.2,hx4,hk4, ?_⟩;simp only[hst,show (((1:Nat):Int) == 1)=true from rfl,IT,AI,IN,P3.x.E6,e4,Cp,yr,By]
    ·have h0:u2 % 2=0:=by omega
     refine ⟨J3_,X,0,P3,n3,lo3,U3,hlk,rfl,rfl, ?_⟩;simp only[h0,show (((0:Nat):Int) == 1)=false from rfl,By]
   obtain ⟨J',X',rx',kk',e5,P5,hx5,hk5⟩:=WD k hk r0 n (x+1) f J4_ X4 _ _ P4 n4 lo4 U4 hlk4 (by omega) (by omega);have e5:CU (k+17) f b.p b.n b.c (some ⟨X.xb,0,none⟩) ((x+1:Nat):Int) J4_=some (.exit 0,[],J'):=by rw[<- hxb]; exact e5
   have hst2:(Cz r0 kk' (Cz r0 kk qx).2).2=(Cz r0 (kk+kk') qx).2:=by rw[SJ]
   rw[hst2] at P5;refine ⟨J',X',rx',kk+kk', ?_,P5,hx5.trans hxb,hk5.trans hkb⟩;have c1:((1:Int).toNat*1)=1:=rfl;have c0:((0:Int).toNat*1)=0:=rfl;have c2:((2:Int).toNat*1)=2:=rfl;have k1:((0:Int)<=1/\(1:Int)<((3:Nat):Int))=True:=zl (by omega);have k0:((0:Int)<=0/\(0:Int)<((3:Nat):Int))=True:=zl (by omega);have k2:((0:Int)<=2/\(2:Int)<((3:Nat):Int))=True:=zl (by omega);have hsel:(bif decide (((l.length:Nat):Int)>(0:Int)) then some (decide ((u1:Int)<(200:Int)),J++τ1) else some (false,J++τ1))=some (decide (0<l.length/\u1<200),J++τ1):=by
    have d1:decide (((l.length:Nat):Int)>0)=decide (0<l.length):=by rw[Acl]; omega
    have d2:decide ((u1:Int)<200)=decide (u1<200):=by rw[Acl]; omega
    rw[d1,d2];by_cases h1:0<l.length
    ·by_cases h2:u1<200
     ·rw[xZ h1,xZ h2,xZ ⟨h1,h2⟩,IT]
     ·rw[xZ h1,xY h2,xY (show ¬ (0<l.length/\u1<200) from fun hh=>h2 hh.2),IT]
    ·rw[xY h1,xY (show ¬ (0<l.length/\u1<200) from fun hh=>h1 hh.1),By]
   rw[yl] at y0;simp only[AI,IN] at hun;simp only[xZ (show (x:Int)<((b.n:Nat):Int) by omega),IT,xZ (show (x:Int)<30 by omega),AI,IN,yl,P.x.GK,e1,tI,f1,qx1,ye,ep,xQ,c1,k1,y1,hsel];refine jN (v:=(Cc.normal,[.int .i64 a],J++τ1)) ?_ ?_
   ·by_cases hh:0<l.length/\u1<200
    ·have ea:a=l.getD (u1 % l.length) 0:=yk hh;have tl:(u1:Int).tmod ((l.length:Nat):Int)=((u1 % l.length:Nat):Int):=Oq u1 l.length;have hml:u1 % l.length<l.length:=Aaq _ hh.1;obtain ⟨bo,eo,lo',_⟩:=g1.li.ld hml;rw[xZ hh];simp only[IT,qx1,ye,ep,AI,k1,c1,y1,IN,wu1,tl];rw[ym (by omega),yk (by omega)];simp only[eo,AI,xQ,yH,IN,lo',ea]
    ·have ea:a=0:=ym hh;rw[xY hh,ea];simp only[By]
   ·have q2:∀ {ρ:Type} (x:Option ρ),G9 (J++τ1) (J++τ1++τ2) x=x:=fun x=>Nb _ _ x;simp only[ye,D7,AI,IN,yl,P1.x.GK,P1.x.vG,qx1,ep,k0,c0,xQ,y0,show ((36:Int)=0)=False from by simp,yq,wu0,t36,e2,q2,HG,e3,Ag,yr,By,k2,c2,v2,show ((2:Int)=0)=False from by simp,t2];refine jN (v:=(Cc.normal,[],J4_)) hun ?_;simp only[ye,w1];rw[<- ep]; exact e5
theorem NS.up {lo lo':Nat} {B:Bg} (h:NS lo J B) (hl:lo<=lo'):NS lo' J B:=⟨h.b0,h.m0,h.ob.up hl,h.de.up hl,h.li.up hl,h.pl.up hl,h.pi.up hl⟩
theorem jw (m:HM) (r:DX) (s:TC):(OK m r s).look=s.look:=(HA m _ _).2.2.1
set_option maxHeartbeats 1000000 in
theorem o6 (k:Nat) (hk:40000<=k) (B:Bg) {b:BL} {lo:Nat} (hA:NS lo J B) (hU:KU lo J 3 b) (hlo:lo<=J.length):
  ∃ J',Hm (k+21) B.bl B.mu (B.ob.p,B.ob.n,B.ob.c) (B.de.p,B.de.n,B.de.c) (B.li.p,B.li.n,B.li.c) (B.pl.p,B.pl.n,B.pl.c) (B.pi.p,B.pi.n,B.pi.c) (b.p,b.n,b.c) J=some (.bool true,J'):=by
 obtain ⟨m,r,hM,hR,hL,run⟩:=oQ (k+5) (by omega) B hA.b0 hA.m0;have hS:OJ m r=true:=qK hM.inv hR hL;obtain ⟨BX,hBX⟩:∃ BX,Au.cells [.int .u8 B.bl,.int .u8 B.mu,.slice B.ob.p B.ob.n B.ob.c,.slice B.de.p B.de.n B.de.c,.slice B.li.p B.li.n B.li.c,.slice B.pl.p B.pl.n B.pl.c,.slice B.pi.p B.pi.n B.pi.c] Dc true=BX:=⟨_,rfl⟩;have ld:∀ Z:Aa,Z[J.length]?=some BX->Ak .u8 Z J.length 0=some B.bl/\Ak .u8 Z J.length 1=some B.mu/\AR Z J.length 2=some (B.ob.p,B.ob.n,B.ob.c)/\AR Z J.length 3=some (B.de.p,B.de.n,B.de.c)/\AR Z J.length 4=some (B.li.p,B.li.n,B.li.c)/\AR Z J.length 5=some (B.pl.p,B.pl.n,B.pl.c)/\AR Z J.length 6=some (B.pi.p,B.pi.n,B.pi.c):=by
  intro Z hμ;simp[Ak,AR,D5,hμ,<- hBX,tI,Bn]
 obtain ⟨J1_,X,e1,g1,a1,l1,q1⟩:=run lo (J++[BX]) (hA.DH fun q hq=>AT (by omega)) (by rw[yi]; omega);have sq1:∀ q,q<J.length->J1_[q]?=J[q]?:=fun q hq=>by rw[q1 q (by simp; omega),AT hq]
 rw[yi,zd] at l1 a1;obtain ⟨J2_,Y,e2,g2,a2,l2,q2⟩:=run lo J1_ (hA.DH fun q hq=>sq1 q (by omega)) (by omega);have b0:(J++[BX])[J.length]?=some BX:=yK;have b1:J1_[J.length]?=some BX:=by rw[q1 _ (by simp),b0]
 obtain ⟨u0,u1,u2,u3,u4,u5,u6⟩:=ld _ b0;obtain ⟨w0,w1,w2,w3,w4,w5,w6⟩:=ld _ b1;unfold hJ at e1 e2;have P0:PZ J2_ X Y r r (m,Tt m.bls.length false 2) (m,Tt m.bls.length false 2):=
  ⟨g1.Aw l2 fun L hL p hp=>q2 p (g1.fp.lt L hL p hp),g2,fun p hp hp'=>by
   obtain ⟨L,hL,hp'⟩:=zm.1 hp';have:=g1.xo p hp;have:=a2 L hL p hp';omega⟩;have n0:∀ p ∈ X.Ls.flatten,lo<=p:=fun p hp=>by
  obtain ⟨L,hL,hp⟩:=zm.1 hp;have:=a1 L hL p hp; omega
 have ny:∀ p ∈ Y.Ls.flatten,lo<=p:=fun p hp=>by
  obtain ⟨L,hL,hp⟩:=zm.1 hp;have:=a2 L hL p hp; omega
 have U2:KU lo J2_ 3 b:=hU.DH fun p hp=>by rw[q2 p (by omega),sq1 p (by omega)]
 obtain ⟨J3_,X3,e3,h3,m3,hx3,hk3⟩:=bL (k+2) (by omega) P0.x rfl hS;have P3:=P0.go h3 m3;obtain ⟨U3,lo3,n3⟩:=Vb m3 (by omega) n0 U2;obtain ⟨J4_,Y4,e4,h4,m4,hy4,hl4⟩:=bL (k+2) (by omega) P3.symm.x rfl hS;have P4:=(P3.symm.go h4 m4).symm;obtain ⟨U4,lo4,_⟩:=Vb m4 lo3 ny U3;have hlook:(OK m r (Tt m.bls.length false 2)).look=false:=jw _ _ _;have P4:PZ J4_ X3 Y4 r r (m,OK m r (Tt m.bls.length false 2)) (m,OK m r (Tt m.bls.length false 2)):=P4;generalize hq0:((m,OK m r (Tt m.bls.length false 2)):HM × TC)=q0 at P4;have hlook:q0.2.look=false:=by rw[<- hq0]; exact hlook
 obtain ⟨J5_,X5,rx,kk,e5,P5,hx5,hk5⟩:=WD (k+3) (by omega) r 30 0 (k+20) J4_ X3 r q0 P4 n3 lo4 U4 hlook (by omega) (by omega);rw[show ((0:Nat):Int)=0 from rfl] at e5;obtain ⟨⟨J6_,X6,e6,h6,m6,hx6,hk6⟩,_⟩:=Yw (k+3) (by omega) P5.x;have P6:=P5.go h6 m6;obtain ⟨⟨J7_,Y7,e7,h7,m7,hy7,hl7⟩,hidle⟩:=Yw (k+3) (by omega) P6.symm.x;have P7:=(P6.symm.go h7 m7).symm;have hsame:VV rx (Cz r kk q0).2=VV r q0:=oW r rx r hlook kk hidle;have P7:PZ J7_ X6 Y7 rx r (VV r q0) (VV r q0):=by rw[<- hsame] at P7 ⊢; rw[hsame]; rw[hsame] at P7; exact P7
 have e8:=aA (k+17) P7.x;have e9:=aA (k+17) P7.y;obtain ⟨τ1,j,f1,ra,_⟩:=bS (k+10) (by omega) P7.x.t.h P7.x.t.mo;have P8:=P7.app τ1;obtain ⟨τ2,j',f2,rb,_⟩:=bS (k+10) (by omega) P8.y.t.h P8.y.t.mo;have hm:=P7.x.t.mo;have hnt:=hm.nt;obtain ⟨τ3,f3⟩:=dF (k+18) (by omega) (ra.app τ2) rb (by show (VV r q0).1.bls.length<=1000; omega) (qo hm) (jg hm);have i3:BR J4_ X.xb 1=some (KY X3):=by rw[<- hx3]; exact P4.x.E6
 have x1:BR J5_ X.xb 1=some (KY X5):=by rw[<- hx3,<- hx5]; exact P5.x.E6
 have x2:BR J7_ X.xb 1=some (KY X6):=by rw[<- hx3,<- hx5,<- hx6]; exact P7.x.E6
 have x3:BR J7_ X.xb 0=some (Ji X6.I):=by rw[<- hx3,<- hx5,<- hx6]; exact P7.x.GK
 have y1:BR J6_ Y.xb 1=some (KY Y4):=by rw[<- hy4]; exact P6.y.E6
 have y2:BR J7_ Y.xb 1=some (KY Y7):=by rw[<- hy4,<- hy7]; exact P7.y.E6
 have y3:BR (J7_++τ1) Y.xb 0=some (Ji Y7.I):=by rw[<- hy4,<- hy7]; exact P8.y.GK
 have e5':CU (k+20) (k+20) b.p b.n b.c (some ⟨X.xb,0,none⟩) 0 J4_=some (.exit 0,[],J5_):=by rw[<- hx3]; exact e5
 have e3':Ei (k+20) (some ⟨X.xb,0,none⟩) J2_=some (.bool true,J3_):=e3;have e4':Ei (k+20) (some ⟨Y.xb,0,none⟩) J3_=some (.bool true,J4_):=e4;obtain ⟨J8_,ea⟩:=oM (k+2) (by omega) (J7_++τ1++τ2++τ3);have ea:IV (k+20) (J7_++τ1++τ2++τ3)=_:=ea;rw[Rv];simp only[Ae,hBX,IN,Nat.reduceAdd,u0,u1,u2,u3,u4,u5,u6,AI,e1,vQ,po (a:=⟨J.length,0,none⟩) (b1.trans b0.symm),w0,w1,w2,w3,w4,w5,w6,e2,wL,By,e3',Ao,yp,e4',e5',ye,x1,e6,Cp,y1,e7,z9,IT,x2,e8,Ag,y2,e9,x3,P7.x.fg,f1,Nb,y3,P8.y.fg,f2,f3,ea,yl];exact ⟨_,rfl⟩
theorem bU (k:Nat) (hk:40000<=k) (B:Bg) {lo:Nat} (hA:NS lo J B) (hlo:lo<=J.length) {b:BL} (hU:KU J.length J 3 b):
  ∃ J',fn P Go.Proofs.YtjbledomkmdkmaaGreat.X H (k+21) 4 [.agg #[.int .u8 B.bl,.int .u8 B.mu,.slice B.ob.p B.ob.n B.ob.c,.slice B.de.p B.de.n B.de.c,.slice B.li.p B.li.n B.li.c,.slice B.pl.p B.pl.n B.pl.c,.slice B.pi.p B.pi.n B.pi.c],.slice b.p b.n b.c] J=some (.bool true,J'):=by
 obtain ⟨J',h⟩:=o6 k hk B (hA.up hlo) hU (yj _);exact ⟨J',(Uu (k+21) B.bl B.mu (B.ob.p,B.ob.n,B.ob.c) (B.de.p,B.de.n,B.de.c) (B.li.p,B.li.n,B.li.c) (B.pl.p,B.pl.n,B.pl.c) (B.pi.p,B.pi.n,B.pi.c) (b.p,b.n,b.c) J).trans h⟩
end
end
end Go.Proofs.YtjbledomkmdkmaaGreat
