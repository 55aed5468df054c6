/- PRINTED BY A PROGRAM OF THIS SESSION'S OWN (hlgen.py): how a beginning and slices of bytes are read.; Lists of numbers: whether one is in a list, a co -/
import Derived.OpenShut
import Derived.Test.YtjbledomkmdkmaaGreatP32
import Derived.Test.YtjbledomkmdkmaaGreatP30
import Derived.Test.YtjbledomkmdkmaaGreatP31
set_option linter.unusedVariables false
set_option linter.unusedSimpArgs false
set_option linter.unusedSectionVars false
namespace Go.Proofs.YtjbledomkmdkmaaGreat
open Go Go.AX Go.RowKit Go.ChangeShapes Go.WideShapes Go.ChangeAt
noncomputable section
section
set_option maxRecDepth 100000
variable {H:Type} {enc:TypeId × Value->H} {W:World} {base:Nat} {sp:Nat->Bool} {hd:Bool} {fuel:Nat} {cs:List Value} {x:DataW H × List MemPlace}
def xu (v:Value):Prop:=∃ n,v = .int .u8 n/\0<=n/\n<256
def dk (T:TypeId) (z:Nat):Prop:=∀ {H:Type} {enc:TypeId × Value->H} {W:World} {base:Nat} {sp:Nat->Bool} {hd:Bool} {fuel:Nat} {cs:List Value} {x:DataW H × List MemPlace},cs.length=z->DataW.trod enc Tryz.prog W base sp hd fuel T cs=some x -> ∀ v ∈ cs,xu v
theorem qQ {n:Int} (h:(Lit.int .u8 n).wf=true):0<=n/\n<256:=by
 rw[Lit.wf_int_iff] at h;have h1:IntKind.u8.min=0:=by decide
 have h2:IntKind.u8.max=255:=by decide
 rw[h1,h2] at h;omega
theorem rT {T:TypeId} (ht:Tryz.prog.underlying T=some (.int .u8)):dk T 1:=by
 intro H enc W base sp hd fuel cs x hl hf v hv;obtain ⟨n,rfl,_,w⟩:=DataW.trod_int ht hf;rw[yP.1 hv];exact ⟨n,rfl,qQ w⟩
theorem Yn {T e:TypeId} {n z:Nat} (ht:Tryz.prog.underlying T=some (.array n e)) (hz:Tryz.prog.cellsOf e=z) (h:dk e z) (h0:0<z):dk T (n*z):=by
 intro H enc W base sp hd fuel cs x hl hf v hv;obtain ⟨xs,m,_,_,_,hn,hel⟩:=DataW.trod_array ht hf;obtain ⟨q,hq,rfl⟩:=Ab4.1 hv;have h1:q/z<n:=by rw[hl] at hq; exact Nat.div_lt_of_lt_mul (by rw[Abp]; exact hq)
 have h2:=hel (q/z) h1;have h3:q/z*z+z<=n*z:=by
  have:(q/z+1)*z<=n*z:=zR _ h1;rw[Abd,Ad2] at this; exact this
 rw[hz,yg (by omega)] at h2;refine h (by rw[zx,zz,hl]; omega) h2 _ ?_;have h4:=Ab9 q z;have h5:=Aaq q h0;rw[Abp] at h4;refine Ab4.2 ⟨q % z,by rw[zx,zz,hl]; omega, ?_⟩;rw[Acg,List.getElem_drop];congr 1
def ZE (T:TypeId) (z:Nat):El (Nat->Int):=⟨T,z,fun y=>(List.range z).map fun q=>.int .u8 (y q),fun y=>∀ q,q<z->0<=y q/\y q<256⟩
def qR (v:Option Value):Int:=match v with | some (.int .u8 n)=>n | _=>0
theorem df {T:TypeId} {z:Nat} (hz:Tryz.prog.cellsOf T=z) (z0:0<z) (h:dk T z):XL (ZE T z) where
 zc:=hz
 z0:=z0
 len:=fun y=>by simp[ZE]
 one:=fun y v hv=>by
  simp only[ZE,zK] at hv;obtain ⟨q,_,rfl⟩:=hv;exact .inl ⟨_,_,rfl⟩
 rd:=fun {H enc W base sp hd fuel cs x} hl hf=>by
  have hl:cs.length=z:=hl;have ha:=h hl hf;have hg:∀ q,q<z -> ∃ n,cs[q]?=some (.int .u8 n)/\0<=n/\n<256:=fun q hq=>by
   rw[yg (by omega)];obtain ⟨n,h1,h2⟩:=ha _ (yU (by omega:q<cs.length));exact ⟨n,by rw[h1],h2⟩
  refine ⟨fun q=>qR cs[q]?,fun q hq=>?_,zy fun q=>?_⟩
  ·obtain ⟨n,h1,h2⟩:=hg q hq;simp only[h1,qR];exact h2
  ·by_cases hq:q<z
   ·obtain ⟨n,h1,_⟩:=hg q hq;simp[ZE,hq,h1,qR]
   ·rw[zg (by omega),zg (by simp[ZE]; omega)]
def Qy (z:Nat) (l:List (Nat->Int)):List Int:=l.flatMap fun y=>(List.range z).map y
theorem aH (z:Nat):∀ l,(Qy z l).length=l.length*z
 | []=>by simp[Qy]
 | y::l=>by
   have:=aH z l;unfold Qy at this ⊢;rw[Abz,yi,this,zI,Aby,ze,Abd,Ad2,Nat.add_comm]
theorem aI (T:TypeId) (z:Nat):∀ l,kK (Qy z l)=(ZE T z).row l
 | []=>rfl
 | y::l=>by
   have:=aI T z l;unfold Qy kK at this ⊢;rw[Abz,Aae,this];simp[El.row,ZE]
theorem Ri.u8 {T:TypeId} {z:Nat} {J:Aa} {pt:Option Addr} {l:List (Nat->Int)} {W:World} {v:Value} (h:Ri (ZE T z) J pt l) (ho:NU (ZE T z) W v l) (c:Nat):KU J.length J z ⟨pt,l.length,c,Qy z l⟩:=by
 refine ⟨aH z l,fun v hv=>?_, ?_⟩
 ·simp only[Qy,Aa1,zK,List.mem_range] at hv;obtain ⟨y,hy,q,hq,rfl⟩:=hv;exact ho.1 y hy q hq
 ·rcases h with rfl | ⟨ab,h1,h2⟩
  ·exact .inl rfl
  ·exact .inr ⟨ab,T,false,h1,(yu.1 h2).1,by rw[h2,<- aI T z]; rfl⟩
theorem jK:dk 5 1:=rT (by kernel_rfl)
theorem uf:dk 61 4:=Yn Tryz.underlying61 (by kernel_rfl) jK (by decide)
theorem iF:XL (ZE 61 4):=df (by kernel_rfl) (by decide) uf
theorem ue:dk 52 3:=Yn Tryz.underlying52 (by kernel_rfl) jK (by decide)
theorem YV:XL (ZE 52 3):=df (by kernel_rfl) (by decide) ue
theorem rU:dk 161 2:=Yn Tryz.underlying161 (by kernel_rfl) jK (by decide)
theorem iE:XL (ZE 161 2):=df (by kernel_rfl) (by decide) rU
theorem ke:XL (ZE 5 1):=df (by kernel_rfl) (by decide) jK
theorem gZ {b0:Nat} {v:Value} {d:DataW H} {p:List MemPlace} (hval:Value.okWide Tryz.prog W .any b0 27 v) (h:DataW.Trod enc Tryz.prog W 0 (fun _=>true) true 27 v d p):
  ∃ b m o de li pl pi,v = .agg #[.int .u8 b,.int .u8 m,o,de,li,pl,pi]/\(0<=b/\b<256)/\(0<=m/\m<256)/\(∀ w ∈ [o,de,li,pl,pi],∃ a n c,w = .slice a n c)/\(∃ l,NU (ZE 61 4) W o l)/\(∃ l,NU (ZE 5 1) W de l)/\(∃ l,NU (ZE 52 3) W li l)/\(∃ l,NU (ZE 161 2) W pl l) /\ ∃ l,NU (ZE 5 1) W pi l:=by
 obtain ⟨cs,rfl,hsz⟩:=okWide_struct Tryz.underlying27 hval;obtain ⟨fuel,hf⟩:=h;have z:Tryz.prog.cellsOf 27=7:=by kernel_rfl
 have z1:Tryz.prog.cellsOf 5=1:=by kernel_rfl
 have zz2:Tryz.prog.cellsOf 22=1:=by kernel_rfl
 have nS:Tryz.prog.cellsOf 23=1:=by kernel_rfl
 have zz4:Tryz.prog.cellsOf 24=1:=by kernel_rfl
 have zz5:Tryz.prog.cellsOf 25=1:=by kernel_rfl
 have zz6:Tryz.prog.cellsOf 23=1:=by kernel_rfl
 obtain ⟨c0,c1,c2,c3,c4,c5,c6,hcs⟩:=tz cs.toList (by simpa [z] using hsz);have hcs':cs = #[c0,c1,c2,c3,c4,c5,c6]:=by apply Aci.1; rw[hcs]
 subst hcs';have hf:DataW.trod enc Tryz.prog W 0 (fun _=>true) true fuel 27 [c0,c1,c2,c3,c4,c5,c6]=_:=hf;obtain ⟨xs,n,_,_,_,hlen,hff⟩:=DataW.trod_struct Tryz.underlying27 hf;obtain ⟨y0,y1,y2,y3,y4,y5,y6,rfl⟩:=tz xs hlen;have k0:=hff 0 _ rfl;have k1:=hff 1 _ rfl;have k2:=hff 2 _ rfl;have k3:=hff 3 _ rfl;have k4:=hff 4 _ rfl;have k5:=hff 5 _ rfl;have k6:=hff 6 _ rfl;simp only[z1,zz2,nS,zz4,zz5,zz6,Ab7,yV,Acw,Ab3,yy,yB] at k0 k1 k2 k3 k4 k5 k6;obtain ⟨a0,e0,_,w0⟩:=DataW.trod_int (k:=.u8) (by kernel_rfl) k0;obtain ⟨a1,e1,_,w1⟩:=DataW.trod_int (k:=.u8) (by kernel_rfl) k1;obtain ⟨v2,e2,q2,s2⟩:=Pz iF (ST:=22) Tryz.underlying22 k2;obtain ⟨v3,e3,q3,s3⟩:=Pz ke (ST:=23) Tryz.underlying23 k3;obtain ⟨v4,e4,q4,s4⟩:=Pz YV (ST:=24) Tryz.underlying24 k4;obtain ⟨v5,e5,q5,s5⟩:=Pz iE (ST:=25) Tryz.underlying25 k5;obtain ⟨v6,e6,q6,s6⟩:=Pz ke (ST:=23) Tryz.underlying23 k6;obtain ⟨rfl,_⟩:=Aal e0;obtain ⟨rfl,_⟩:=Aal e1;obtain ⟨rfl,_⟩:=Aal e2;obtain ⟨rfl,_⟩:=Aal e3;obtain ⟨rfl,_⟩:=Aal e4;obtain ⟨rfl,_⟩:=Aal e5;obtain ⟨rfl,_⟩:=Aal e6;refine ⟨_,_,_,_,_,_,_,rfl,qQ w0,qQ w1,fun w hw=>?_,s2,s3,s4,s5,s6⟩;simp only[yL,zE,Abo] at hw;rcases hw with rfl | rfl | rfl | rfl | rfl <;> assumption
theorem NS.app {J:Aa} {B:Bg} (h:NS J.length J B) (τ:Aa):NS (J++τ).length (J++τ) B:=by
 have up:∀ {w:Nat} {b:BL},KU J.length J w b->KU (J++τ).length (J++τ) w b:=fun hu=>
  ⟨hu.len,hu.rng,hu.at_.imp id fun ⟨q,T,rw',a,b',c⟩=>⟨q,T,rw',a,by rw[yi]; omega,by rw[AT b']; exact c⟩⟩;exact ⟨h.b0,h.m0,up h.ob,up h.de,up h.li,up h.pl,up h.pi⟩
theorem lK {J:Aa} {Z:Mu} (O:Ow W J Z) {b m:Int} {o de li pl pi:Value} (hb:0<=b/\b<256) (hm:0<=m/\m<256) (hw:∀ w ∈ [o,de,li,pl,pi],∃ a n c,w = .slice a n c)
  (s2:∃ l,NU (ZE 61 4) W o l) (s3:∃ l,NU (ZE 5 1) W de l) (s4:∃ l,NU (ZE 52 3) W li l) (s5:∃ l,NU (ZE 161 2) W pl l) (s6:∃ l,NU (ZE 5 1) W pi l):
  ∃ (B:Bg) (τ:Aa) (Z':Mu),NS (J++τ).length (J++τ) B/\Ow W (J++τ) Z'/\(∀ x y,RV Z x y->RV Z' x y)/\RV Z' (.agg #[.int .u8 B.bl,.int .u8 B.mu,.slice B.ob.p B.ob.n B.ob.c,.slice B.de.p B.de.n B.de.c,.slice B.li.p B.li.n B.li.c,.slice B.pl.p B.pl.n B.pl.c,.slice B.pi.p B.pi.n B.pi.c]) (.agg #[.int .u8 b,.int .u8 m,o,de,li,pl,pi]):=by
 obtain ⟨l2,s2⟩:=s2;obtain ⟨l3,s3⟩:=s3;obtain ⟨l4,s4⟩:=s4;obtain ⟨l5,s5⟩:=s5;obtain ⟨l6,s6⟩:=s6;obtain ⟨p2,c2,τ2,Z2_,O2,S2,V2,M2,_⟩:=O.add s2;obtain ⟨p3,c3,τ3,Z3_,O3,S3,V3,M3,_⟩:=O2.add s3;obtain ⟨p4,c4,τ4,Z4_,O4,S4,V4,M4,_⟩:=O3.add s4;obtain ⟨p5,c5,τ5,Z5_,O5,S5,V5,M5,_⟩:=O4.add s5;obtain ⟨p6,c6,τ6,Z6_,O6,S6,V6,M6,_⟩:=O5.add s6;have S2:=(((S2.app τ3).app τ4).app τ5).app τ6;have S3:=((S3.app τ4).app τ5).app τ6;have S4:=(S4.app τ5).app τ6;have S5:=S5.app τ6;have V2:=M6 _ _ (M5 _ _ (M4 _ _ (M3 _ _ V2)));have V3:=M6 _ _ (M5 _ _ (M4 _ _ V3));have V4:=M6 _ _ (M5 _ _ V4);have V5:=M6 _ _ V5;have ha:J++τ2++τ3++τ4++τ5++τ6=J++(τ2++τ3++τ4++τ5++τ6):=by simp[ya]
 rw[ha] at O6 S2 S3 S4 S5 S6;refine ⟨⟨b,m,⟨p2,l2.length,c2,Qy 4 l2⟩,⟨p3,l3.length,c3,Qy 1 l3⟩,⟨p4,l4.length,c4,Qy 3 l4⟩,⟨p5,l5.length,c5,Qy 2 l5⟩,⟨p6,l6.length,c6,Qy 1 l6⟩⟩,_,_,⟨hb,hm,S2.u8 s2 c2,S3.u8 s3 c3,S4.u8 s4 c4,S5.u8 s5 c5,S6.u8 s6 c6⟩,O6,fun x y h=>M6 _ _ (M5 _ _ (M4 _ _ (M3 _ _ (M2 _ _ h)))), ?_⟩;refine .agg (.cons (.int _ _) (.cons (.int _ _) (.cons V2 (.cons V3 (.cons V4 (.cons V5 (.cons V6 .nil))))))) ?_;intro v hv;simp at hv;rcases hv with rfl | rfl | rfl | rfl | rfl | rfl | rfl <;> rfl
end
end
end Go.Proofs.YtjbledomkmdkmaaGreat
namespace Go.Proofs.YtjbledomkmdkmaaGreat
open Go Go.AX
noncomputable section
section
local instance xC:AA:=Ap
variable {J:Aa}
def Qv (J:Aa) (s:Bp) (l:List Int):Prop:=Cq Aj 1 J s l.length (AZ l)\/(l=[] /\ ∃ b cs w,s=(some ⟨b,0,some 0⟩,0,0)/\J[b]?=some (.cells cs Aj w))
theorem Qv.li {s:Bp} {l:List Int} (h:Qv J s l):Ba J s l:=by
 rcases h with h | ⟨rfl,b,cs,w,h1,h2⟩
 ·exact .inl h
 ·exact .inr ⟨rfl,b,cs,_,w,h1,h2⟩
theorem Qv.lt {s:Bp} {l:List Int} (h:Qv J s l):∀ b ∈ hs s,b<J.length:=h.li.lt
theorem Qv.Aw {J':Aa} {s:Bp} {l:List Int} (h:Qv J s l) (hq:∀ b ∈ hs s,J'[b]?=J[b]?):Qv J' s l:=by
 rcases h with (h | ⟨b,rfl,h1,h2,h3⟩) | ⟨rfl,b,cs,w,rfl,h2⟩
 ·exact .inl (.inl h)
 ·exact .inl (.inr ⟨b,rfl,h1,h2,by rw[hq b (by simp[hs])]; exact h3⟩)
 ·exact .inr ⟨rfl,b,cs,w,rfl,by rw[hq b (by simp[hs])]; exact h2⟩
theorem Qv.app {s:Bp} {l:List Int} (h:Qv J s l) (τ:Aa):Qv (J++τ) s l:=h.Aw fun b hb=>AT (h.lt b hb)
theorem Qv.form {s:Bp} {l:List Int} (h:Qv J s l):s=(s.1,l.length,l.length):=h.li.form
theorem Qv.nil (J:Aa) (w:Bool) (cs:List Value):Qv (J++[.cells cs Aj w]) (some ⟨J.length,0,some 0⟩,0,0) []:=.inr ⟨rfl,J.length,cs,w,rfl,yK⟩
theorem Qv.part {s:Bp} {l:List Int} (h:Qv J s l) {a b:Nat} (hab:a<=b) (hb:b<=l.length) (L H:Option Value) (hL:L=some (.int .i64 (a:Int))\/(L=none/\0=a)) (hH:H=some (.int .i64 (b:Int))\/(H=none/\l.length=b)):
  ∃ p c,F8 Aj 1 (s.1,l.length,l.length) L H none J=some (p,b-a,c)/\CQ J 1 p (b-a)=some (AZ ((l.drop a).take (b-a))):=by
 rcases h with h | ⟨rfl,x,cs,w,rfl,hc⟩
 ·obtain ⟨p,c,e1,e2⟩:=U7 h a b hab hb L H hL hH;refine ⟨p,c,e1, ?_⟩;rw[e2];simp[AZ,List.map_take,List.map_drop]
 ·have hb0:b=0:=by simpa using hb
  have ha0:a=0:=by omega
  subst hb0; subst ha0;have e1:elemAt J x=some Aj:=by simp only[elemAt,hc]
  refine ⟨some ⟨x,0,some 0⟩,0, ?_, ?_⟩
  ·rcases hL with rfl | ⟨rfl,_⟩ <;> rcases hH with rfl | ⟨rfl,_⟩ <;> simp[F8,bound,e1]
  ·simp[CQ,M9,hc,AZ]
theorem JD {l:List Int} {x:Nat} (h:x<l.length):l.drop x=l.getD x 0::l.drop (x+1):=by
 rw[yO h,yd,yg h]; rfl
theorem dp (k:Nat) {s:Bp} {l:List Int} (h:Ba J s l) (hl:l.length<=1000000) (v:Int):∀ (n x f:Nat),x+n=l.length->n<f ->
  ∃ o,IY k f s.1 l.length l.length v (x:Int) J=some o/\(v ∈ l.drop x -> ∃ y:Nat,o=(.ret,[.int .i64 (y:Int)],J))/\(v ∉ l.drop x->o=(.exit 0,[],J))
 | n,x,0,hx,hf=>by omega
 | 0,x,f+1,hx,hf=>by
   rw[OW];simp only[xY (show ¬ (x:Int)<((l.length:Nat):Int) by omega),By];refine ⟨_,rfl,fun hm=>?_,fun _=>rfl⟩;rw[yS (by omega)] at hm;cases hm
 | n+1,x,f+1,hx,hf=>by
   obtain ⟨b,e,l1,_⟩:=h.ld (x:=x) (by omega);have qx:(0<=(x:Int)/\(x:Int)<((l.length:Nat):Int))=True:=zl (by omega);have w1:Ar ((x:Int)+1)=((x+1:Nat):Int):=Ah (by unfold AK; omega);obtain ⟨o,e2,h1,h2⟩:=dp k h hl v n (x+1) f (by omega) (by omega);have hd:=JD (l:=l) (x:=x) (by omega);rw[OW];simp only[xZ (show (x:Int)<((l.length:Nat):Int) by omega),IT,qx,ye,e,AI,xQ,yH,IN,l1,w1];by_cases q:l.getD x 0=v
   ·rw[show (l.getD x 0 == v)=true from zJ.2 q];simp only[IT];exact ⟨_,rfl,fun _=>⟨x,rfl⟩,fun hm=>absurd (by rw[hd,q]; exact zi) hm⟩
   ·rw[show (l.getD x 0 == v)=false from yM.2 q];rw[e] at e2;simp only[By,e2];refine ⟨o,rfl,fun hm=>h1 ?_,fun hm=>h2 fun hn=>hm (by rw[hd]; exact yJ _ hn)⟩;rw[hd] at hm;rcases yL.1 hm with hm | hm
    ·exact absurd hm.symm q
    ·exact hm
theorem rp (k:Nat) {s:Bp} {l:List Int} (h:Ba J s l) (hl:l.length<=1000000) (hk:l.length<k) (v:Int):KH (k+2) (s.1,s.2.1,s.2.2) v J=some (.bool (decide (v ∈ l)),J):=by
 obtain ⟨o,e,h1,h2⟩:=dp k h hl v l.length 0 k (by omega) hk;rw[show ((0:Nat):Int)=0 from rfl] at e;rw[Y5,ZS];have hf:=h.form;have e1:s.2.1=l.length:=by rw[hf]
 have e2:s.2.2=l.length:=by rw[hf]
 simp only[e1,e2,e,AI];rw[yV] at h1 h2;by_cases hm:v ∈ l
 ·obtain ⟨y,rfl⟩:=h1 hm;rw[xZ hm];simp only[reduceCtorEq,yq,ye,D7,AI,Ag];rw[xZ (show (y:Int)>=0 by omega)]
 ·rw[h2 hm,xY hm];simp only[ye,AI,Ag];rfl
theorem jS {p:Option Addr} {c:Nat} {l:List Int} (hl:l.length<=100000) (hf:CQ (J++[.cells [] Aj true]) 1 p l.length=some (AZ l)):
  ∃ s τ,AF P Aj (some ⟨J.length,0,some 0⟩,0,0) (p,l.length,c) (J++[.cells [] Aj true])=some (s,J++[.cells [] Aj true]++τ)/\Qv (J++[.cells [] Aj true]++τ) s l /\ ∀ b ∈ hs s,J.length<=b:=by
 obtain ⟨s',τ,e,h1,h2⟩:=Rl rh qX nS rfl rfl (by decide) (by decide) (by decide) J p l.length c hl (AZ l) (by rw[C8,yH]) hf;refine ⟨s',τ,e, ?_, ?_⟩
 ·by_cases h0:l.length=0
  ·have hl0:l=[]:=zV.1 h0;refine .inr ⟨hl0,J.length,[],true,h2 h0, ?_⟩;rw[ya,yD (yj _)]; simp
  ·obtain ⟨q1,q2⟩:=h1 (by omega);exact .inl (.inr ⟨J.length+1,q1,zh _,by rw[C8,yH],q2⟩)
 ·intro b hb;by_cases h0:l.length=0
  ·rw[h2 h0] at hb; simp[hs] at hb; omega
  ·rw[(h1 (by omega)).1] at hb; simp[hs] at hb; omega
theorem dt (k:Nat) {s:Bp} {l:List Int} (h:Ba J s l) (hl:l.length<=100000):
  ∃ s' τ,G5 (k+1) (s.1,s.2.1,s.2.2) J=some (.slice s'.1 s'.2.1 s'.2.2,J++τ)/\Qv (J++τ) s' l /\ ∀ b ∈ hs s',J.length<=b:=by
 obtain ⟨s',τ,e,h1,h2⟩:=jS (c:=s.2.2) hl (YH [Au.cells [] Aj true] h.first);have hf:=h.form;have e1:s.2.1=l.length:=by rw[hf]
 refine ⟨s',[.cells [] Aj true]++τ, ?_,by rw[<- ya]; exact h1,h2⟩;rw[Xw];simp only[Ae,e1,e,AI,ya]
def Fj (l:List Int) (n:Int):Nat:=(l.takeWhile fun a=>decide (a<n)).length
def cA (l:List Int) (n:Int):List Int:=if l[Fj l n]?=some n then l else l.take (Fj l n)++[n]++l.drop (Fj l n)
theorem ko (l:List Int) (n:Int):Fj l n<=l.length:=(List.takeWhile_sublist _).length_le
theorem mV (a:Int) (l:List Int) (n:Int):Fj (a::l) n=if a<n then Fj l n+1 else 0:=by
 unfold Fj;rw[List.takeWhile_cons];by_cases h:a<n <;> simp[h]
theorem au (k:Nat) {s:Bp} {l:List Int} (h:Ba J s l) (hl:l.length<=1000000) (v:Int):∀ (n x f:Nat),x+n=l.length->n<f ->
  HW k f s.1 l.length l.length v (x:Int) J=some (.exit 0,[.int .i64 ((x+Fj (l.drop x) v:Nat):Int)],J)
 | n,x,0,hx,hf=>by omega
 | 0,x,f+1,hx,hf=>by
   rw[Oa];simp only[xY (show ¬ (x:Int)<((l.length:Nat):Int) by omega),By,AI];rw[yS (by omega)]; rfl
 | n+1,x,f+1,hx,hf=>by
   obtain ⟨b,e,l1,_⟩:=h.ld (x:=x) (by omega);have qx:(0<=(x:Int)/\(x:Int)<((l.length:Nat):Int))=True:=zl (by omega);have w1:Ar ((x:Int)+1)=((x+1:Nat):Int):=Ah (by unfold AK; omega);have e2:=au k h hl v n (x+1) f (by omega) (by omega);rw[JD (l:=l) (x:=x) (by omega),mV];rw[Oa];simp only[xZ (show (x:Int)<((l.length:Nat):Int) by omega),IT,qx,ye,e,AI,xQ,yH,IN,l1,w1];by_cases q:l.getD x 0<v
   ·rw[e] at e2;simp only[xZ q,IT,e2,yk q];rw[show x+1+Fj (l.drop (x+1)) v=x+(Fj (l.drop (x+1)) v+1) from by omega]
   ·simp only[xY q,By,ym q,yl]
theorem pk {ρ:Type} {a:Option Addr} {J J':Aa} {m:Option ρ} (h:∀ b,a=some b->b.block<J.length/\J'[b.block]?=J[b.block]?):aQ a J J' m=m:=by
 cases a with
 | none=>rfl
 | some a=>
   obtain ⟨h1,h2⟩:=h a rfl;have:AA.k J J' a.block=true:=by unfold AA.k xC Ap; simpa using h2
   show (bif Nat.blt a.block J.length && AA.k J J' a.block then m else none)=m;rw[this,Bool.and_true,show Nat.blt a.block J.length=true from by rw[Ac2]; exact h1,IT]
theorem oF {b:Nat} {row row':List Value} {n n':Nat} {p:Option Addr} {c:Nat} (hn0:0<n) (hr0:row.length=n) (hc:J[b]?=some (.cells row Aj true)) (hn:n+n'<=1000000) (hr:row'.length=n') (hx:CQ J 1 p n'=some row'):
  ∃ s' J',AF P Aj (some ⟨b,0,none⟩,n,n) (p,n',c) J=some (s',J')/\Mv [b] (hs s') J J'/\Cq Aj 1 J' s' (n+n') (row++row'):=by
 by_cases h0:n'=0
 ·subst h0;have hr':row'=[]:=zV.1 hr;subst hr';have hz:(¬ (Gi (.int .i64 0)=false/\some 1=some (Value.cells (.int .i64 0)).size/\0<(Value.cells (.int .i64 0)).size))=False:=by simp[Gi,Value.cells]
  refine ⟨(some ⟨b,0,none⟩,n,n),J.set b (.cells row Aj true), ?_,Mv.set J _ (by simp),.inr ⟨b,by simp,zh _,by simp[hr0], ?_⟩⟩
  ·unfold AF La;simp only[rh,qX,nS,AI,hx,hz,yq,yl,yj,ye,Ie,Aab,By,IN,yH,H2,hc,zo,hr0,AP,yw,nR];rw[<- hr0,Aak]
  ·rw[yw,yo (Af hc)]
 ·obtain ⟨s',J',e,g,h⟩:=TT rh qX nS rfl rfl (by decide) (by decide) (by decide) J (some ⟨b,0,none⟩,n,n) n row p n' c row' hn (by omega) (by omega) (.inr ⟨b,rfl,zh _,by omega,hc⟩) hx;exact ⟨s',J',e,g.mv,h⟩
theorem tW (k:Nat) {s:Bp} {l:List Int} (h:Qv J s l) (hl:l.length<=100000) (hk:l.length<k) (v:Int):
  ∃ s' τ,KI (k+1) (s.1,s.2.1,s.2.2) v J=some (.slice s'.1 s'.2.1 s'.2.2,J++τ)/\Qv (J++τ) s' (cA l v) /\ ∀ b ∈ hs s',b ∈ hs s\/J.length<=b:=by
 have e0:=au k h.li (by omega) v l.length 0 k (by omega) hk;rw[show ((0:Nat):Int)=0 from rfl,yV,IN] at e0;have hf:=h.form;have e1:s.2.1=l.length:=by rw[hf]
 have e2:s.2.2=l.length:=by rw[hf]
 have hp:=ko l v;have wq:Ar ((Fj l v:Nat):Int)=((Fj l v:Nat):Int):=Ah (by unfold AK; omega);rw[Y6];simp only[e1,e2,e0,AI,ye,D7];by_cases hin:l[Fj l v]?=some v
 ·have hlt:Fj l v<l.length:=(yu.1 hin).1;obtain ⟨b,eb,l1,_⟩:=h.li.ld hlt;have qx:(0<=((Fj l v:Nat):Int)/\((Fj l v:Nat):Int)<((l.length:Nat):Int))=True:=zl (by omega);have hv:l.getD (Fj l v) 0=v:=by rw[yd,hin]; rfl
  simp only[xZ (show ((Fj l v:Nat):Int)<((l.length:Nat):Int) by omega),IT,qx,ye,eb,AI,xQ,yH,IN,l1,hv,z9];refine ⟨s,[], ?_, ?_,fun b hb=>.inl hb⟩
  ·rw[yw,<- eb,e1,e2]
  ·unfold cA;rw[yk hin,yw]; exact h
 ·have hcond:(bif decide (((Fj l v:Nat):Int)<((l.length:Nat):Int)) then (if 0<=((Fj l v:Nat):Int)/\((Fj l v:Nat):Int)<((l.length:Nat):Int) then s.1.bind fun a6=>(Ak .i64 J a6.block (a6.off+((Fj l v:Nat):Int).toNat*1)).bind fun n7=>some (n7 == v,J) else none) else some (false,J))=some (false,J):=by
   by_cases hlt:Fj l v<l.length
   ·obtain ⟨b,eb,l1,_⟩:=h.li.ld hlt;have hv:(l.getD (Fj l v) 0 == v)=false:=by
     rw[yM];intro hh;have e3:l[Fj l v]?=some (l.getD (Fj l v) 0):=by rw[yd,yg hlt]; rfl
     rw[hh] at e3;exact hin e3
    rw[xZ (show ((Fj l v:Nat):Int)<((l.length:Nat):Int) by omega),IT,yk (by omega),eb,AI,xQ,yH,IN,l1,AI,hv]
   ·rw[xY (by omega),By]
  simp only[hcond,AI,By,Ae];obtain ⟨p1,c1,g1,g2⟩:=(h.app [.cells [] Aj true]).part (a:=0) (b:=Fj l v) (zh _) hp none (some (.int .i64 ((Fj l v:Nat):Int))) (.inr ⟨rfl,rfl⟩) (.inl rfl);rw[Acz,yV] at g2;rw[Acz] at g1;have hl1:(l.take (Fj l v)).length=Fj l v:=by rw[zx]; omega
  obtain ⟨s1,τ1,a1,a2,a3⟩:=jS (J:=J) (c:=c1) (l:=l.take (Fj l v)) (by rw[hl1]; omega) (by rw[hl1]; exact g2);rw[hl1] at a1;obtain ⟨Z1_,hμ1⟩:∃ Z1_,J++[Au.cells [] Aj true]++τ1=Z1_:=⟨_,rfl⟩;rw[hμ1] at a1 a2;have lμ1:J.length<=Z1_.length:=by rw[<- hμ1]; simp
  have sμ1:∀ q,q<J.length->Z1_[q]?=J[q]?:=fun q hq=>by rw[<- hμ1,ya,AT hq]
  obtain ⟨s2,Z2_,b1,b2,b3⟩:=a2.li.push v Aj (by rw[hl1]; omega);have sμ2:∀ q,q<J.length->Z2_[q]?=J[q]?:=fun q hq=>by rw[b3.same q (by omega) fun hm=>by have:=a3 q hm; omega,sμ1 q hq]
  have kq:∀ {ρ:Type} (x:Option ρ),aQ s.1 (Z1_++[.cells [.int .i64 v] Aj true]) Z2_ x=x:=fun x=>pk fun b hb=>by
   have:=h.lt b.block (BN.2 ⟨b,hb,rfl⟩);refine ⟨by rw[yi]; omega, ?_⟩;rw[sμ2 _ this,AT (by omega),sμ1 _ this]
  have q1:∀ {ρ:Type} (x:Option ρ),G9 (J++[Au.cells [] Aj true]) Z1_ x=x:=fun x=>by rw[<- hμ1]; exact Nb _ _ x
  obtain ⟨p2,c2,g3,g4⟩:=(h.Aw (J':=Z2_) fun b hb=>sμ2 b (h.lt b hb)).part (a:=Fj l v) (b:=l.length) hp (yj _) (some (.int .i64 ((Fj l v:Nat):Int))) none (.inl rfl) (.inr ⟨rfl,rfl⟩);have hn:¬ l.take (Fj l v)++[v]=[]:=by simp
  obtain ⟨x2,rfl,hx2,hx3⟩:∃ x2,s2=(some ⟨x2,0,none⟩,Fj l v+1,Fj l v+1)/\Z2_[x2]?=some (.cells (AZ (l.take (Fj l v)++[v])) Aj true)/\J.length<=x2:=by
   have hl2:(l.take (Fj l v)++[v]).length=Fj l v+1:=by rw[yi,hl1]; rfl
   rcases b2 with (⟨h0,_⟩ | ⟨x2,e,_,_,e4⟩) | ⟨h0,_⟩
   ·omega
   ·refine ⟨x2,by rw[e,hl2],e4, ?_⟩;rcases b3.new x2 (by rw[e]; simp[hs]) with hm | hm
    ·exact a3 _ hm
    ·omega
   ·exact absurd h0 hn
  obtain ⟨s3,J3_,d1,d2,d3⟩:=oF (n:=Fj l v+1) (n':=l.length-Fj l v) (p:=p2) (c:=c2) (by omega) (by rw[C8,yi,hl1]; rfl) hx2 (by omega) (by rw[C8,zx,zz]; omega) g4;have l3:J.length<=J3_.length:=by have:=b3.len; have:=d2.len; omega
  have s3q:∀ q,q<J.length->J3_[q]?=J[q]?:=fun q hq=>by
   have:=b3.len;rw[d2.same q (by omega) (by simp; omega),sμ2 q hq]
  obtain ⟨τ,rfl⟩:=FV l3 s3q;refine ⟨s3,τ, ?_, ?_,fun b hb=>.inr ?_⟩
  ·have b1':AF P Aj (s1.1,s1.2.1,s1.2.2) (some ⟨Z1_.length,0,none⟩,1,1) (Z1_++[.cells [.int .i64 v] Aj true])=some ((some ⟨x2,0,none⟩,Fj l v+1,Fj l v+1),Z2_):=b1;simp only[g1,AI,a1,q1,Ae,b1',kq,g3,d1]
  ·left;unfold cA;rw[ym hin];rw[show Fj l v+1+(l.length-Fj l v)=(l.take (Fj l v)++[v]++l.drop (Fj l v)).length from by simp; omega,show (l.drop (Fj l v)).take (l.length-Fj l v)=l.drop (Fj l v) from zp (by rw[zz]; exact yj _),<- Lr] at d3;exact d3
  ·rcases d2.new b hb with hm | hm
   ·rw[yP.1 hm]; exact hx3
   ·have:=b3.len; omega
end
section
local instance yE:AA:=Ap
variable {J:Aa} {m:HM} {t:RM} {j:RI}
def Wb (m:HM) (l:List Int) (a:Int):List Int:=if AU m a then cA l a else l
def kg (m:HM) (kd:Int):List Int->Nat->List Int->List Int
 | [],_,out=>out
 | r::rs,x,out=>kg m kd rs (x+1) (if Kq kd (x:Int) then out else Wb m out r)
def Uv (m:HM) (out:List Int) (a:Int):List Int:=
 let o:=Bm m (a.toNat/2)
 let out1:=kg m o.k o.refs 0 out
 if o.k=2/\o.refs.getD 0 0 ∈ out1 then Wb m out1 (o.refs.getD 1 0) else out1
def MC (m:HM) (out:List Int):List Int:=out.foldl (Uv m) out
def OG (m:HM):Nat->List Int->List Int
 | 0,out=>out
 | n+1,out=>if (MC m out).length=out.length then MC m out else OG m n (MC m out)
def Wk (m:HM) (start:List Int):List Int:=OG m 2050 (start.foldl (Wb m) [])
structure Eh (m:HM) (l:List Int):Prop where
 so:l.Pairwise (·<·)
 ob:∀ a ∈ l,AU m a=true
theorem Eh.nil (m:HM):Eh m []:=⟨List.Pairwise.nil,fun a h=>by cases h⟩
theorem jb (l:List Int) (v:Int):l.take (Fj l v)=l.takeWhile (fun a=>decide (a<v))/\l.drop (Fj l v)=l.dropWhile (fun a=>decide (a<v)):=by
 have h:=List.takeWhile_append_dropWhile (p:=fun a=>decide (a<v)) (l:=l);have h1:=List.take_left (l₁:=l.takeWhile fun a=>decide (a<v)) (l₂:=l.dropWhile fun a=>decide (a<v));have h2:=List.drop_left (l₁:=l.takeWhile fun a=>decide (a<v)) (l₂:=l.dropWhile fun a=>decide (a<v));rw[h] at h1 h2;exact ⟨h1,h2⟩
theorem pG {l:List Int} {v a:Int}:a ∈ cA l v↔a=v\/a ∈ l:=by
 unfold cA;split
 ·rename_i h;have:=Aa4 h;exact ⟨.inr,fun h=>h.elim (fun e=>by rw[e]; exact this) id⟩
 ·rw[ya,yf,yf,yP];have:a ∈ l↔a ∈ l.take (Fj l v)\/a ∈ l.drop (Fj l v):=by rw[<- yf,Aak]
  rw[this];constructor
  ·rintro (h | h | h)
   ·exact .inr (.inl h)
   ·exact .inl h
   ·exact .inr (.inr h)
  ·rintro (h | h | h)
   ·exact .inr (.inl h)
   ·exact .inl h
   ·exact .inr (.inr h)
theorem Qb:∀ {l:List Int} {v:Int},l.Pairwise (·<·) -> ∀ a ∈ l.dropWhile (fun a=>decide (a<v)),v<=a
 | [],v,_,a,ha=>by cases ha
 | b::l,v,h,a,ha=>by
   obtain ⟨h1,h2⟩:=zB.1 h;rw[List.dropWhile_cons] at ha;by_cases hb:b<v
   ·rw[yk (by simpa using hb)] at ha;exact Qb h2 a ha
   ·rw[ym (by simpa using hb)] at ha;rcases yL.1 ha with rfl | ha
    ·omega
    ·have:=h1 a ha; omega
theorem Vt {v:Int}:∀ {l:List Int},∀ a ∈ l.takeWhile (fun a=>decide (a<v)),a<v
 | [],a,ha=>by cases ha
 | b::l,a,ha=>by
   rw[List.takeWhile_cons] at ha;by_cases hb:b<v
   ·rw[yk (by simpa using hb)] at ha;rcases yL.1 ha with rfl | ha
    ·exact hb
    ·exact Vt a ha
   ·rw[ym (by simpa using hb)] at ha;cases ha
theorem sF {l:List Int} {v:Int} (h:l.Pairwise (·<·)):(cA l v).Pairwise (·<·):=by
 unfold cA;split
 ·exact h
 ·rename_i hn;obtain ⟨e1,e2⟩:=jb l v;have hd:∀ a ∈ l.drop (Fj l v),v<a:=by
   intro a ha;have h1:v<=a:=Qb h a (by rw[<- e2]; exact ha);by_cases hav:a=v
   ·exfalso;obtain ⟨x,hx⟩:=List.mem_iff_getElem?.1 ha;cases hq:l[Fj l v]? with
    | none=>
      rw[List.getElem?_eq_none_iff] at hq;rw[yS hq] at ha; cases ha
    | some b=>
      have hb:v<=b:=Qb h b (by rw[<- e2]; exact Aa4 (i:=0) (by rw[zs,yl]; exact hq));rw[zs] at hx;by_cases hx0:x=0
      ·subst hx0;rw[yl,hav] at hx;exact hn hx
      ·have l1:=(yu.1 hq);have l2:=(yu.1 hx);obtain ⟨g1,g2⟩:=l1;obtain ⟨g3,g4⟩:=l2;have:=Abi.1 h (Fj l v) (Fj l v+x) g1 g3 (by omega);omega
   ·omega
  rw[ya,Acq];refine ⟨h.sublist (List.take_sublist _ _), ?_, ?_⟩
  ·rw[Abt,zB];exact ⟨hd,h.sublist (List.drop_sublist _ _)⟩
  ·intro a ha b hb;have h1:a<v:=Vt a (by rw[<- e1]; exact ha);rcases yf.1 hb with hb | hb
   ·rw[yP.1 hb]; exact h1
   ·have:=hd b hb; omega
theorem Eh.inc {l:List Int} (h:Eh m l) (a:Int):Eh m (Wb m l a):=by
 unfold Wb;split
 ·rename_i ha;exact ⟨sF h.so,fun b hb=>(pG.1 hb).elim (fun e=>by rw[e]; exact ha) (h.ob b)⟩
 ·exact h
theorem Eh.l3 (kd:Int):∀ (rs:List Int) (x:Nat) (out:List Int),Eh m out->Eh m (kg m kd rs x out)
 | [],_,_,h=>h
 | r::rs,x,out,h=>by
   unfold kg;refine Eh.l3 kd rs _ _ ?_;split
   ·exact h
   ·exact h.inc r
theorem Eh.Uv {out:List Int} (h:Eh m out) (a:Int):Eh m (Uv m out a):=by
 unfold Go.Proofs.YtjbledomkmdkmaaGreat.Uv;simp only;split
 ·exact (Eh.l3 _ _ _ _ h).inc _
 ·exact Eh.l3 _ _ _ _ h
theorem Eh.fold {f:List Int->Int->List Int} (hf:∀ out a,Eh m out->Eh m (f out a)):∀ (l:List Int) (out:List Int),Eh m out->Eh m (l.foldl f out)
 | [],_,h=>h
 | a::l,out,h=>Eh.fold hf l _ (hf out a h)
theorem Eh.round {out:List Int} (h:Eh m out):Eh m (MC m out):=Eh.fold (fun o a h=>h.Uv a) out out h
theorem TE:∀ {l k:List Int},l.Nodup->(∀ a ∈ l,a ∈ k)->l.length<=k.length
 | [],k,_,_=>zh _
 | a::l,k,h,hs=>by
   obtain ⟨h1,h2⟩:=Aa9.1 h;have ha:a ∈ k:=hs a zi;have:=TE (l:=l) (k:=k.erase a) h2 fun b hb=>(List.mem_erase_of_ne (by rintro rfl; exact h1 hb)).2 (hs b (yJ _ hb));rw[List.length_erase_of_mem ha] at this;have hk:0<k.length:=List.length_pos_of_mem ha;simp only[ze]; omega
theorem pc {a:Int}:AU m a=true↔a ∈ Ga m:=by
 unfold Ga CK;rw[zK];constructor
 ·intro h;obtain ⟨j,e,hj⟩:=Bd h;exact ⟨j,Dh.2 hj,e.symm⟩
 ·rintro ⟨j,hj,rfl⟩;exact Qg (Dh.1 hj)
theorem Eh.len {l:List Int} (h:Eh m l) (hn:m.bls.length<=64):l.length<=2048:=
 zj (TE (h.so.imp fun hab=>by omega) fun a ha=>pc.1 (h.ob a ha)) (Nk hn)
theorem kc (l:List Int) (a:Int):l.length<=(Wb m l a).length:=by
 unfold Wb cA;split
 ·split
  ·exact yj _
  ·have:=ko l a;simp; omega
 ·exact yj _
theorem iJ (kd:Int):∀ (rs:List Int) (x:Nat) (out:List Int),out.length<=(kg m kd rs x out).length
 | [],_,_=>yj _
 | r::rs,x,out=>by
   unfold kg;refine zj ?_ (iJ kd rs _ _);split
   ·exact yj _
   ·exact kc _ _
theorem pI (out:List Int) (a:Int):out.length<=(Uv m out a).length:=by
 unfold Uv;simp only;split
 ·exact zj (iJ _ _ _ _) (kc _ _)
 ·exact iJ _ _ _ _
theorem eK {f:List Int->Int->List Int} (hf:∀ out a,out.length<=(f out a).length):∀ (l out:List Int),out.length<=(l.foldl f out).length
 | [],_=>yj _
 | a::l,out=>zj (hf out a) (eK hf l _)
theorem nu (out:List Int):out.length<=(MC m out).length:=eK pI out out
theorem vN (hI:Inv m) {y:Nat} (hs:Start m y) (hk:Cr m y=2):2<=Av m y:=by
 obtain ⟨r,d,k,hv,he⟩:=hI.good y hs;obtain ⟨p1,p2,p3,_⟩:=Je hv;have e1:Av m y=r:=by unfold Av; rw[he,p1]
 have e3:Cr m y=k:=by unfold Cr; rw[he,p3]
 rw[e3] at hk;unfold valid at hv;rw[zA] at hv;rw[e1]; exact hv.2.2.2.2.2.2.2 hk
def iQ (m:HM):HM:={ m with fw:=[] }
theorem RG.read (h:Im J j ⟨m.bls,F7 m,[],m.births⟩) (hM:MK m):RG J j (iQ m) ⟨m.bls,F7 m,[],m.births⟩:=
 ⟨h,⟨rfl,rfl,rfl,fun _=>rfl,rfl,trivial,trivial⟩,⟨hM.inv.good,hM.inv.fit,hM.inv.apart,hM.inv.idn,hM.inv.plc,hM.inv.brt,hM.inv.onc⟩,⟨hM.inv2.kind,hM.inv2.zero⟩,hM.sh.wl,hM.nb,hM.nt⟩
theorem TQ (k:Nat) (hk:5000<=k) (h:RG J j m t) {s:Bp} {l:List Int} (hs':Qv J s l) (hl:l.length<=4000) (a:Int):
  ∃ s' τ,De (k+4) (Bx j) (s.1,s.2.1,s.2.2) a J=some (.slice s'.1 s'.2.1 s'.2.2,J++τ)/\Qv (J++τ) s' (Wb m l a) /\ ∀ b ∈ hs s',b ∈ hs s\/J.length<=b:=by
 rw[Uf];simp only[k9 k hk h a,AI,Ao];unfold Wb;cases ha:AU m a with
 | true=>
   obtain ⟨s',τ,e,h1,h2⟩:=tW (k+2) hs' (by omega) (by omega) a;have e':KI (k+3) (s.1,s.2.1,s.2.2) a J=_:=e;simp only[yp,By,e',AI,ED,ye];exact ⟨s',τ,rfl,h1,h2⟩
 | false=>
   simp only[yY,IT,y8,yq];exact ⟨s,[],by rw[yw],by rw[yw]; exact hs',fun b hb=>.inl hb⟩
theorem gU (k:Nat) (r d kd:Int) {x:Nat} (J:Aa):HU (k+1) r d kd (x:Int) J=some (.bool (!Kq kd (x:Int)),J++[.cells [.int .i64 r,.int .i64 d,.int .i64 kd] Ad true]):=by
 rw[UQ];have e2:Ak .i64 (J++[Au.cells [.int .i64 r,.int .i64 d,.int .i64 kd] Ad true]) J.length 2=some kd:=by rw[Bh]; rfl
 simp only[Ae,IN,e2,AI];generalize J++[Au.cells [.int .i64 r,.int .i64 d,.int .i64 kd] Ad true]=Z at e2 ⊢;generalize J.length=n at e2 ⊢;unfold Kq;by_cases hx:x=0
 ·subst hx;by_cases h1:kd=1
  ·subst h1; simp
  ·by_cases h2:kd=2
   ·subst h2; simp
   ·have b1:(kd != 1)=true:=zr.2 h1;have b2:(kd != 2)=true:=zr.2 h2;simp[b1,b2,h1,h2]
 ·have hx0:decide ((x:Int)>0)=true:=xZ (by omega);by_cases h1:kd=1
  ·subst h1;have b1:((1:Int) != 1)=false:=rfl;simp only[b1,By,AI,hx0,IT,e2,z9];simp[hx]
  ·have b1:(kd != 1)=true:=zr.2 h1;have b3:(kd == 1)=false:=yM.2 h1;by_cases h2:kd=2
   ·subst h2;have b2:((2:Int) != 2)=false:=rfl;simp only[b1,b2,b3,By,AI,hx0,IT,e2];by_cases hx1:x=1
    ·subst hx1; simp
    ·have hx2:decide ((x:Int)>1)=true:=xZ (by omega);rw[hx2];simp[hx,hx1]; omega
   ·have b2:(kd != 2)=true:=zr.2 h2;simp[b1,b2,h1,h2]
theorem px (k:Nat) (hk:5000<=k) (hn:m.bls.length<=64) {o:RO} {p:Bp × Bp} {h26:Nat}:∀ (n x f:Nat) (J:Aa) (s:Bp) (out:List Int),RG J j m t->J6 J h26 o p->Eg J p.1 o.refs->o.refs.length<=500->Qv J s out->Eh m out->x+n=o.refs.length->n<f ->
  ∃ s' τ,FM (k+4) f (Bx j) h26 (s.1,s.2.1,s.2.2) (x:Int) J=some (.exit 6,[.slice s'.1 s'.2.1 s'.2.2],J++τ)/\Qv (J++τ) s' (kg m o.k (o.refs.drop x) x out)
 | n,x,0,J,s,out,h,hB,hI,hr,hs',ho,hx,hf=>by omega
 | 0,x,f+1,J,s,out,h,hB,hI,hr,hs',ho,hx,hf=>by
   obtain ⟨z0,z1,z2,z3,z4,z5,z6,z7⟩:=hB.ld;rw[ML];simp only[IN,z5,AI,hI.1,xY (show ¬ (x:Int)<((o.refs.length:Nat):Int) by omega),By];refine ⟨s,[],by rw[yw], ?_⟩;rw[yS (by omega),yw];exact hs'
 | n+1,x,f+1,J,s,out,h,hB,hI,hr,hs',ho,hx,hf=>by
   obtain ⟨z0,z1,z2,z3,z4,z5,z6,z7⟩:=hB.ld;have qx:(0<=(x:Int)/\(x:Int)<((o.refs.length:Nat):Int))=True:=zl (by omega);have w1:Ar ((x:Int)+1)=((x+1:Nat):Int):=Ah (by unfold AK; omega);obtain ⟨S0,hS0⟩:∃ S0,Au.cells [.int .i64 o.r,.int .i64 o.d,.int .i64 o.k] Ad true=S0:=⟨_,rfl⟩;have es:HU (k+4) o.r o.d o.k (x:Int) J=some (.bool (!Kq o.k (x:Int)),J++[S0]):=by rw[<- hS0]; exact gU (k+3) o.r o.d o.k J
   have hB1:J6 (J++[S0]) h26 o p:=by unfold J6 at hB ⊢; rw[AT (Af hB)]; exact hB
   obtain ⟨_,_,_,_,_,y5,_,_⟩:=hB1.ld;have hd:o.refs.drop x=o.refs.getD x 0::o.refs.drop (x+1):=JD (by omega);rw[hd,kg];rw[ML];simp only[IN,Nat.reduceAdd,z5,AI,hI.1,xZ (show (x:Int)<((o.refs.length:Nat):Int) by omega),IT,z2,z3,z4,es,Ao];cases hsf:Kq o.k (x:Int) with
   | true=>
     obtain ⟨s',τ,e,h1⟩:=px k hk hn n (x+1) f (J++[S0]) s out (h.app _) hB1 (hI.app _) hr (hs'.app _) ho (by omega) (by omega);simp only[yp,By,AI,ye,Tv,w1,e];exact ⟨s',[S0]++τ,by simp only[ya],by rw[<- ya]; exact h1⟩
   | false=>
     obtain ⟨b,e1,l1,_⟩:=(hI.app [S0]).u9 (x:=x) (by omega);obtain ⟨s1,τ1,e2,g1,_⟩:=TQ k hk (h.app [S0]) (hs'.app [S0]) (by have:=ho.len hn; omega) (o.refs.getD x 0);have hB2:J6 (J++[S0]++τ1) h26 o p:=by unfold J6 at hB1 ⊢; rw[AT (Af hB1)]; exact hB1
     obtain ⟨s',τ,e,h1⟩:=px k hk hn n (x+1) f (J++[S0]++τ1) s1 _ ((h.app _).app _) hB2 ((hI.app _).app _) hr g1 (ho.inc _) (by omega) (by omega);simp only[yY,IT,y5,AI,hI.1,qx,ye,e1,xQ,yH,IN,l1,e2,ED,Tv,w1,e];exact ⟨s',[S0]++(τ1++τ),by simp only[ya],by rw[<- ya,<- ya]; exact h1⟩
theorem W9 (k:Nat) (hk:5000<=k) (hn:m.bls.length<=64) {st:Bp} {l:List Int} (hl:l.length<=1000000):∀ (n x f:Nat) (J:Aa) (s:Bp) (out:List Int),RG J j m t->Ba J st l->Qv J s out->Eh m out->x+n=l.length->n<f ->
  ∃ s' τ,FL (k+4) f (Bx j) st.1 l.length l.length (s.1,s.2.1,s.2.2) (x:Int) J=some (.exit 0,[.slice s'.1 s'.2.1 s'.2.2],J++τ)/\Qv (J++τ) s' ((l.drop x).foldl (Wb m) out)
 | n,x,0,J,s,out,h,hS,hs',ho,hx,hf=>by omega
 | 0,x,f+1,J,s,out,h,hS,hs',ho,hx,hf=>by
   rw[MI];simp only[xY (show ¬ (x:Int)<((l.length:Nat):Int) by omega),By];refine ⟨s,[],by rw[yw], ?_⟩;rw[yS (by omega),yw];exact hs'
 | n+1,x,f+1,J,s,out,h,hS,hs',ho,hx,hf=>by
   have qx:(0<=(x:Int)/\(x:Int)<((l.length:Nat):Int))=True:=zl (by omega);have w1:Ar ((x:Int)+1)=((x+1:Nat):Int):=Ah (by unfold AK; omega);obtain ⟨b,e1,l1,_⟩:=hS.ld (x:=x) (by omega);obtain ⟨s1,τ1,e2,g1,_⟩:=TQ k hk h hs' (by have:=ho.len hn; omega) (l.getD x 0);obtain ⟨s',τ,e,h1⟩:=W9 k hk hn hl n (x+1) f (J++τ1) s1 _ (h.app _) (hS.app _) g1 (ho.inc _) (by omega) (by omega);rw[e1] at e;rw[JD (l:=l) (x:=x) (by omega),zF];rw[MI];simp only[xZ (show (x:Int)<((l.length:Nat):Int) by omega),IT,qx,ye,e1,AI,xQ,yH,IN,l1,e2,ED,w1,e];exact ⟨s',τ1++τ,by simp only[ya],by rw[<- ya]; exact h1⟩
theorem WB (k:Nat) (hk:5000<=k) (hn:m.bls.length<=64) {st:Bp} {l:List Int} (hl:l.length<=1000000) (hob:∀ a ∈ l,AU m a=true):∀ (n x f:Nat) (J:Aa) (s:Bp) (out:List Int),RG J j m t->Ba J st l->Qv J s out->Eh m out->x+n=l.length->n<f ->
  ∃ s' τ,EN (k+5) f (Bx j) true st.1 l.length l.length (s.1,s.2.1,s.2.2) (x:Int) J=some (.exit 4,[.slice s'.1 s'.2.1 s'.2.2],J++τ)/\Qv (J++τ) s' ((l.drop x).foldl (Uv m) out)
 | n,x,0,J,s,out,h,hS,hs',ho,hx,hf=>by omega
 | 0,x,f+1,J,s,out,h,hS,hs',ho,hx,hf=>by
   rw[MJ];simp only[xY (show ¬ (x:Int)<((l.length:Nat):Int) by omega),By];refine ⟨s,[],by rw[yw], ?_⟩;rw[yS (by omega),yw];exact hs'
 | n+1,x,f+1,J,s,out,h,hS,hs',ho,hx,hf=>by
   have qx:(0<=(x:Int)/\(x:Int)<((l.length:Nat):Int))=True:=zl (by omega);have w1:Ar ((x:Int)+1)=((x+1:Nat):Int):=Ah (by unfold AK; omega);obtain ⟨b,e1,l1,_⟩:=hS.ld (x:=x) (by omega);have hmem:l.getD x 0 ∈ l:=by rw[yd,yg (by omega)]; exact yU _
   generalize hv:l.getD x 0=v at *;obtain ⟨y,jj,bo,p,F⟩:=h.found (hob v hmem);have ei:AH (k+5) (Bx j) v J=some (.int .i64 (y:Int),J):=by rw[<- F.idx]; exact NB (k+3) (by omega) h v
   have qy:(0<=(y:Int)/\(y:Int)<((t.ob.length:Nat):Int))=True:=zl (by have:=F.xl; omega);have ej:v.toNat/2=jj:=by rw[F.e]; omega
   obtain ⟨_,w2,w3,_⟩:=Ot h.inv F.st;have hlr:(Bm m jj).refs.length=(Av m jj).toNat:=by show (L8 m _ _).length=_; rw[Gk]
   obtain ⟨A,hA⟩:∃ A,Au.cells (Bi (Bm m jj) p) Ab true=A:=⟨_,rfl⟩;have sa:H2 (J++[Au.cells [.int .i64 0,.int .i64 0,.int .i64 0,.int .i64 0,.int .i64 0,.slice none 0 0,.slice none 0 0,.bool false] Ab true]) J.length 0 [.int .i64 (Bm m jj).addr,.int .i64 (Bm m jj).id,.int .i64 (Bm m jj).r,.int .i64 (Bm m jj).d,.int .i64 (Bm m jj).k,.slice p.1.1 p.1.2.1 p.1.2.2,.slice p.2.1 p.2.2.1 p.2.2.2,.bool (Bm m jj).Wg]=some (J++[A]):=by
    rw[<- hA]; exact g8 _ _ _ _ _ _ _ _ _ _ _ _ _ _ _ _ _ _
   have bx:J6 (J++[A]) J.length (Bm m jj) p:=by unfold J6; rw[yK,hA]
   obtain ⟨s1,τ1,e3,g1⟩:=px (k+1) (by omega) hn (Bm m jj).refs.length 0 (k+5) (J++[A]) s out (h.app _) bx (F.rs.app _) (by omega) (hs'.app _) ho (by omega) (by omega);have e3:FM (k+5) (k+5) (Bx j) J.length (s.1,s.2.1,s.2.2) 0 (J++[A])=_:=e3;rw[yV] at g1;have ho1:Eh m (kg m (Bm m jj).k (Bm m jj).refs 0 out):=Eh.l3 _ _ _ _ ho;have bx1:J6 (J++[A]++τ1) J.length (Bm m jj) p:=by unfold J6 at bx ⊢; rw[AT (Af bx)]; exact bx
   obtain ⟨z0,z1,z2,z3,z4,z5,z6,z7⟩:=bx1.ld;have h1:=(h.app [A]).app τ1;have hS1:=(hS.app [A]).app τ1;have hI1:=(F.rs.app [A]).app τ1;have hl1:=ho1.len hn;obtain ⟨s2,τ2,e4,g2,ho2⟩:∃ (s2:Bp) (τ2:Aa),((bif ((Bm m jj).k == 2) then (AR (J++[A]++τ1) J.length 5).bind fun l46=>if 0<=(0:Int)/\(0:Int)<(l46.2.1:Nat) then l46.1.bind fun a47=>(Ak .i64 (J++[A]++τ1) a47.block (a47.off+(0:Int).toNat*1)).bind fun n48=>(KH (k+5) (s1.1,s1.2.1,s1.2.2) n48 (J++[A]++τ1)).bind fun r49=>(DK r49.1).bind fun b50=>some (b50,r49.2) else none else some (false,J++[A]++τ1)).bind fun r51=>(bif r51.1 then ((AR r51.2 J.length 5).bind fun l52=>if 0<=(1:Int)/\(1:Int)<(l52.2.1:Nat) then l52.1.bind fun a53=>(Ak .i64 r51.2 a53.block (a53.off+(1:Int).toNat*1)).bind fun n54=>(De (k+5) (Bx j) (s1.1,s1.2.1,s1.2.2) n54 r51.2).bind fun r55=>(ED r55.1).bind fun l56=>some (Cc.normal,[Value.slice l56.1 l56.2.1 l56.2.2],r55.2) else none) else (some (Cc.normal,[Value.slice s1.1 s1.2.1 s1.2.2],r51.2)):Option Bl))=some (Cc.normal,[Value.slice s2.1 s2.2.1 s2.2.2],J++[A]++τ1++τ2)/\Qv (J++[A]++τ1++τ2) s2 (Uv m out v)/\Eh m (Uv m out v):=by
    have hoo:=ho.Uv v;unfold Uv at hoo ⊢;simp only[ej] at hoo ⊢;by_cases hk2:(Bm m jj).k=2
    ·have hr2:2<=Av m jj:=vN h.inv F.st hk2;obtain ⟨b0,f0,f1,_⟩:=hI1.u9 (x:=0) (by omega);obtain ⟨b1,f2,f3,_⟩:=hI1.u9 (x:=1) (by omega);rw[f0] at f2;cases f2;have eh:=rp (k+3) g1.li (by omega) (by omega) ((Bm m jj).refs.getD 0 0);have q0:(0<=(0:Int)/\(0:Int)<(((Bm m jj).refs.length:Nat):Int))=True:=zl (by omega);have q1:(0<=(1:Int)/\(1:Int)<(((Bm m jj).refs.length:Nat):Int))=True:=zl (by omega);have t0:(0:Int).toNat*1=0:=rfl;have t1:(1:Int).toNat*1=1:=rfl;simp only[show ((Bm m jj).k == 2)=true from zJ.2 hk2,IT,z5,AI,hI1.1,q0,ye,f0,t0,yl,f1,eh,Ao];by_cases hin:(Bm m jj).refs.getD 0 0 ∈ kg m (Bm m jj).k (Bm m jj).refs 0 out
     ·obtain ⟨s2,τ2,e5,g2,_⟩:=TQ (k+1) (by omega) h1 g1 (by omega) ((Bm m jj).refs.getD 1 0);have e5:De (k+5) (Bx j) (s1.1,s1.2.1,s1.2.2) ((Bm m jj).refs.getD 1 0) (J++[A]++τ1)=_:=e5;refine ⟨s2,τ2, ?_, ?_,hoo⟩
      ·simp only[xZ hin,IT,z5,AI,hI1.1,q1,ye,f0,t1,IN,f3,e5,ED]
      ·rw[yk ⟨hk2,hin⟩]; exact g2
     ·refine ⟨s1,[], ?_, ?_,hoo⟩
      ·simp only[xY hin,By,yw]
      ·rw[ym fun hh=>hin hh.2,yw]; exact g1
    ·refine ⟨s1,[], ?_, ?_,hoo⟩
     ·simp only[show ((Bm m jj).k == 2)=false from yM.2 hk2,By,AI,yw]
     ·rw[ym fun hh=>hk2 hh.1,yw]; exact g1
   obtain ⟨s',τ,e,h2⟩:=WB k hk hn hl hob n (x+1) f (J++[A]++τ1++τ2) s2 _ (h1.app _) (hS1.app _) g2 ho2 (by omega) (by omega);rw[e1] at e;rw[JD (l:=l) (x:=x) (by omega),zF,hv];rw[MJ];simp only[xZ (show (x:Int)<((l.length:Nat):Int) by omega),IT,IN,Nat.reduceAdd,h.at_.E6,AI,qx,ye,e1,xQ,yH,l1,ei,Ag,qy,F.os,zu,F.ld.l0,F.ld.l1,F.ld.l2,F.ld.l3,F.ld.l4,F.ld.l5,F.ld.l6,F.ld.l7,Ae,sa,e3,Tv,z4];refine ⟨s',[A]++(τ1++(τ2++τ)), ?_,by simpa [ya] using h2⟩;have e':EN (k+5) f (Bx j) true (some ⟨b,0,none⟩) l.length l.length (s2.1,s2.2.1,s2.2.2) ((x+1:Nat):Int) (J++[A]++τ1++τ2)=some (.exit 4,[.slice s'.1 s'.2.1 s'.2.2],J++([A]++(τ1++(τ2++τ)))):=by rw[e]; simp[ya]
   simp only[yH] at e4;rw[<- Acb,e4];simp only[AI,ye,Tv,w1,e']
theorem WA (k:Nat) (hk:5000<=k) (hn:m.bls.length<=64):∀ (n f:Nat) (J:Aa) (s:Bp) (out:List Int) (nn:Int),RG J j m t->Qv J s out->Eh m out->(nn=(out.length:Int)\/(nn≠(out.length:Int)/\2050<=n+out.length))->n<f ->
  ∃ s' τ,GI (k+6) f (Bx j) true (s.1,s.2.1,s.2.2) nn J=some (.exit 2,[.slice s'.1 s'.2.1 s'.2.2],J++τ)/\Qv (J++τ) s' (if nn=(out.length:Int) then out else OG m n out)
 | n,0,J,s,out,nn,h,hs',ho,hc,hf=>by omega
 | n,f+1,J,s,out,nn,h,hs',ho,hc,hf=>by
   have hl:=ho.len hn;have hfm:=hs'.form;have f1:s.2.1=out.length:=by rw[hfm]
   rw[Te];by_cases hq:nn=(out.length:Int)
   ·rw[yk hq];simp only[f1,show (nn != ((out.length:Nat):Int))=false from by rw[hq]; simp,By];exact ⟨s,[],by rw[yw,<- f1],by rw[yw]; exact hs'⟩
   ·rw[ym hq];have h2:=(hc.resolve_left hq).2;cases n with
    | zero=>omega
    | succ n=>
      have hlt:n<f:=by omega
      obtain ⟨s1,τ1,e1,g1,_⟩:=dt (k+5) hs'.li (by omega);have e1:G5 (k+6) (s.1,s.2.1,s.2.2) J=_:=e1;have g1f:=g1.form;have f2:s1.2.1=out.length:=by rw[g1f]
      have f3:s1.2.2=out.length:=by rw[g1f]
      obtain ⟨s2,τ2,e2,g2⟩:=WB (k+1) (by omega) hn (st:=s1) (l:=out) (by omega) ho.ob out.length 0 (k+6) (J++τ1) s out (h.app _) g1.li (hs'.app _) ho (by omega) (by omega);have e2:EN (k+6) (k+6) (Bx j) true s1.1 out.length out.length (s.1,s.2.1,s.2.2) 0 (J++τ1)=_:=e2;rw[yV] at g2;have g2:Qv (J++τ1++τ2) s2 (MC m out):=g2;have hrl:=nu (m:=m) out;obtain ⟨s',τ,e,g3⟩:=WA k hk hn n f (J++τ1++τ2) s2 (MC m out) ((out.length:Nat):Int) ((h.app _).app _) g2 ho.round (by
       by_cases hh:((out.length:Nat):Int)=(((MC m out).length:Nat):Int)
       ·exact .inl hh
       ·exact .inr ⟨hh,by omega⟩) hlt;rw[f1] at e1 e2;simp only[f1,show (nn != ((out.length:Nat):Int))=true from by rw[zr]; exact hq,IT,e1,AI,ED,f2,f3,e2,ye,Tv,e];refine ⟨s',τ1++(τ2++τ),by simp only[ya], ?_⟩;rw[<- ya,<- ya,OG];by_cases hh:(MC m out).length=out.length
      ·rw[yk (by rw[hh])] at g3;rw[yk hh]; exact g3
      ·rw[ym (by omega)] at g3;rw[ym hh]; exact g3
theorem oz (k:Nat) (hk:5000<=k) (h:RG J j m t) {st:Bp} {l:List Int} (hS:Ba J st l) (hl:l.length<=4000):
  ∃ s' τ,Ja (k+7) (Bx j) (st.1,st.2.1,st.2.2) true J=some (.slice s'.1 s'.2.1 s'.2.2,J++τ)/\Qv (J++τ) s' (Wk m l):=by
 have hn:=h.nt;have hf:=hS.form;have f1:st.2.1=l.length:=by rw[hf]
 have f2:st.2.2=l.length:=by rw[hf]
 obtain ⟨B0,hB0⟩:∃ B0,Au.cells [] Aj true=B0:=⟨_,rfl⟩;have h1:=h.app [B0];have n0:Qv (J++[B0]) (some ⟨J.length,0,some 0⟩,0,0) []:=by rw[<- hB0]; exact Qv.nil J true []
 obtain ⟨s1,τ1,e1,g1⟩:=W9 (k+2) (by omega) hn (st:=st) (l:=l) (by omega) l.length 0 (k+6) (J++[B0]) (some ⟨J.length,0,some 0⟩,0,0) [] h1 (hS.app _) n0 (Eh.nil m) (by omega) (by omega);have e1:FL (k+6) (k+6) (Bx j) st.1 l.length l.length (some ⟨J.length,0,some 0⟩,0,0) 0 (J++[B0])=_:=e1;rw[yV] at g1;have ho1:Eh m (l.foldl (Wb m) []):=Eh.fold (fun o a h=>h.inc a) l [] (Eh.nil m);obtain ⟨s2,τ2,e2,g2⟩:=WA k hk hn 2050 (k+6) (J++[B0]++τ1) s1 _ (-1) (h1.app _) g1 ho1 (.inr ⟨by omega,by omega⟩) (by omega);rw[ym (by omega)] at g2;rw[VQ];simp only[Ae,hB0,f1,f2,e1,AI,ye,Tv,e2];exact ⟨s2,[B0]++(τ1++τ2),by simp only[ya],by rw[<- ya,<- ya]; exact g2⟩
end
end
end Go.Proofs.YtjbledomkmdkmaaGreat
