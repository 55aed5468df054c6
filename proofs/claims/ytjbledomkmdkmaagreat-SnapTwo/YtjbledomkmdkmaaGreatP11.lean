/- Part 11. -/
import Derived.OpenShut
import Derived.Test.YtjbledomkmdkmaaGreatP10
import Derived.Test.YtjbledomkmdkmaaGreatP9
import Derived.Test.YtjbledomkmdkmaaGreatP8
set_option linter.unusedVariables false
set_option linter.unusedSimpArgs false
set_option linter.unusedSectionVars false
namespace Go.Proofs.YtjbledomkmdkmaaGreat
open Go Go.AX Go.RowKit Go.ChangeShapes Go.WideShapes Go.ChangeAt
noncomputable section
section
set_option maxRecDepth 100000
variable {H:Type} {enc:TypeId × Value->H} {W:World} {base:Nat} {sp:Nat->Bool} {hd:Bool} {fuel:Nat} {cs:List Value} {x:DataW H × List MemPlace}
def IsU (v:Value):Prop:=∃ n,v = .int .u8 n/\0<=n/\n<256
def dV (T:TypeId) (z:Nat):Prop:=∀ {H:Type} {enc:TypeId × Value->H} {W:World} {base:Nat} {sp:Nat->Bool} {hd:Bool} {fuel:Nat} {cs:List Value} {x:DataW H × List MemPlace},cs.length=z->DataW.trod enc Tryz.prog W base sp hd fuel T cs=some x -> ∀ v ∈ cs,IsU v
theorem wk {n:Int} (h:(Lit.int .u8 n).wf=true):0<=n/\n<256:=by
 rw[Lit.wf_int_iff] at h;have h1:IntKind.u8.min=0:=by decide
 have a:IntKind.u8.max=255:=by decide
 rw[h1,a] at h;omega
theorem xk {T:TypeId} (b:Tryz.prog.underlying T=some (.int .u8)):dV T 1:=by
 intro H enc W base sp hd fuel cs x d a v c;obtain ⟨n,rfl,_,w⟩:=DataW.trod_int b a;rw[Ac1.1 c];exact ⟨n,rfl,wk w⟩
theorem bu {T e:TypeId} {n z:Nat} (i:Tryz.prog.underlying T=some (.array n e)) (k:Tryz.prog.cellsOf e=z) (h:dV e z) (h0:0<z):dV T (n*z):=by
 intro H enc W base sp hd fuel cs x b g v j;obtain ⟨xs,m,_,_,_,o,a⟩:=DataW.trod_array i g;obtain ⟨q,d,rfl⟩:=Ad7.1 j;have h1:q/z<n:=by rw[b] at d; exact Nat.div_lt_of_lt_mul (by rw[Agj]; exact d)
 have c:=a (q/z) h1;have l:q/z*z+z<=n*z:=by
  have:(q/z+1)*z<=n*z:=Aer _ h1;rw[Af6,Ais] at this; exact this
 rw[k,Aau (by omega)] at c;refine h (by rw[Adn,Adp,b]; omega) c _ ?_;have f:=Ag0 q z;have h5:=Aev q h0;rw[Agj] at f;refine Ad7.2 ⟨q % z,by rw[Adn,Adp,b]; omega, ?_⟩;rw[Aes,Ae3];congr 1
def aA (T:TypeId) (z:Nat):El (Nat->Int):=⟨T,z,fun y=>(List.range z).map fun q=>.int .u8 (y q),fun y=>∀ q,q<z->0<=y q/\y q<256⟩
def wv (v:Option Value):Int:=match v with | some (.int .u8 n)=>n | _=>0
theorem dO {T:TypeId} {z:Nat} (i:Tryz.prog.cellsOf T=z) (z0:0<z) (h:dV T z):ZF (aA T z) where
 zc:=i
 z0:=z0
 len:=fun y=>by simp[aA]
 one:=fun y v e=>by
  simp only[aA,Aeb] at e;obtain ⟨q,_,rfl⟩:=e;exact .inl ⟨_,_,rfl⟩
 rd:=fun {H enc W base sp hd fuel cs x} c g=>by
  have c:cs.length=z:=c;have f:=h c g;have d:∀ q,q<z -> ∃ n,cs[q]?=some (.int .u8 n)/\0<=n/\n<256:=fun q a=>by
   rw[Aau (by omega)];obtain ⟨n,h1,b⟩:=f _ (Adb (by omega:q<cs.length));exact ⟨n,by rw[h1],b⟩
  refine ⟨fun q=>wv cs[q]?,fun q a=>?_,Ad8 fun q=>?_⟩
  ·obtain ⟨n,h1,b⟩:=d q a;simp only[h1,wv];exact b
  ·by_cases a:q<z
   ·obtain ⟨n,h1,_⟩:=d q a;simp[aA,a,h1,wv]
   ·rw[Adr (by omega),Adr (by simp[aA]; omega)]
def Sv (z:Nat) (l:List (Nat->Int)):List Int:=l.flatMap fun y=>(List.range z).map y
theorem fS (z:Nat):∀ l,(Sv z l).length=l.length*z
 | []=>by simp[Sv]
 | y::l=>by
   have:=fS z l;unfold Sv at this ⊢;rw[Agq,Aaw,this,Aeo,Agp,Adl,Af6,Ais,Nat.add_comm]
theorem fT (T:TypeId) (z:Nat):∀ l,qM (Sv z l)=(aA T z).row l
 | []=>rfl
 | y::l=>by
   have:=fT T z l;unfold Sv qM at this ⊢;rw[Agq,Ae7,this];simp[El.row,aA]
theorem Tt.u8 {T:TypeId} {z:Nat} {J:Aa} {d:qOi} {l:List (Nat->Int)} {W:World} {v:Value} (h:Tt (aA T z) J d l) (e:PE (aA T z) W v l) (c:Nat):Mo J.length J z ⟨d,l.length,c,Sv z l⟩:=by
 refine ⟨fS z l,fun v b=>?_, ?_⟩
 ·simp only[Sv,Afu,Aeb,Ag5] at b;obtain ⟨y,g,q,f,rfl⟩:=b;exact e.1 y g q f
 ·rcases h with rfl | ⟨ab,h1,a⟩
  ·exact .inl rfl
  ·exact .inr ⟨ab,T,false,h1,(Ab6.1 a).1,by rw[a,<- fT T z]; rfl⟩
theorem V9:dV 5 1:=xk (by kernel_rfl)
theorem uk:dV 61 4:=bu Tryz.underlying61 (by kernel_rfl) V9 (by decide)
theorem nU:ZF (aA 61 4):=dO (by kernel_rfl) (by decide) uk
theorem zz:dV 52 3:=bu Tryz.underlying52 (by kernel_rfl) V9 (by decide)
theorem nT:ZF (aA 52 3):=dO (by kernel_rfl) (by decide) zz
theorem xm:dV 161 2:=bu Tryz.underlying161 (by kernel_rfl) V9 (by decide)
theorem nS:ZF (aA 161 2):=dO (by kernel_rfl) (by decide) xm
theorem pV:ZF (aA 5 1):=dO (by kernel_rfl) (by decide) V9
theorem z8:dV 63 8:=by
 intro H enc W base sp hd fuel cs x b h v i;obtain ⟨xs,n,_,_,_,hlen,a⟩:=Ah1 Tryz.underlying63 h;have hlen:xs.length=5:=hlen;obtain ⟨q,w,rfl⟩:=Ad7.1 i;have j:Tryz.prog.cellsOf 5=1:=by kernel_rfl
 have c:DataW.trod enc Tryz.prog W base sp hd n 5 ((cs.drop 0).take (Tryz.prog.cellsOf 5))=xs[0]?:=a 0 _ rfl;rw[j,Aau (show 0<xs.length by omega)] at c;by_cases p:0<=q/\q<1
 ·refine V9 (fuel:=n) (x:=xs[0]) (cs:=(cs.drop 0).take 1) (by simp[Adn,Adp,b]) c _ ?_;refine Ad7.2 ⟨q-0,by rw[Adn,Adp,b]; omega, ?_⟩;rw[Aes,Ae3];congr 1; omega
 have k:Tryz.prog.cellsOf 5=1:=by kernel_rfl
 have d:DataW.trod enc Tryz.prog W base sp hd n 5 ((cs.drop 1).take (Tryz.prog.cellsOf 5))=xs[1]?:=a 1 _ rfl;rw[k,Aau (show 1<xs.length by omega)] at d;by_cases r:1<=q/\q<2
 ·refine V9 (fuel:=n) (x:=xs[1]) (cs:=(cs.drop 1).take 1) (by simp[Adn,Adp,b]) d _ ?_;refine Ad7.2 ⟨q-1,by rw[Adn,Adp,b]; omega, ?_⟩;rw[Aes,Ae3];congr 1; omega
 have l:Tryz.prog.cellsOf 5=1:=by kernel_rfl
 have e:DataW.trod enc Tryz.prog W base sp hd n 5 ((cs.drop 2).take (Tryz.prog.cellsOf 5))=xs[2]?:=a 2 _ rfl;rw[l,Aau (show 2<xs.length by omega)] at e;by_cases s:2<=q/\q<3
 ·refine V9 (fuel:=n) (x:=xs[2]) (cs:=(cs.drop 2).take 1) (by simp[Adn,Adp,b]) e _ ?_;refine Ad7.2 ⟨q-2,by rw[Adn,Adp,b]; omega, ?_⟩;rw[Aes,Ae3];congr 1; omega
 have m:Tryz.prog.cellsOf 5=1:=by kernel_rfl
 have f:DataW.trod enc Tryz.prog W base sp hd n 5 ((cs.drop 3).take (Tryz.prog.cellsOf 5))=xs[3]?:=a 3 _ rfl;rw[m,Aau (show 3<xs.length by omega)] at f;by_cases t:3<=q/\q<4
 ·refine V9 (fuel:=n) (x:=xs[3]) (cs:=(cs.drop 3).take 1) (by simp[Adn,Adp,b]) f _ ?_;refine Ad7.2 ⟨q-3,by rw[Adn,Adp,b]; omega, ?_⟩;rw[Aes,Ae3];congr 1; omega
 have o:Tryz.prog.cellsOf 61=4:=by kernel_rfl
 have g:DataW.trod enc Tryz.prog W base sp hd n 61 ((cs.drop 4).take (Tryz.prog.cellsOf 61))=xs[4]?:=a 4 _ rfl;rw[o,Aau (show 4<xs.length by omega)] at g;by_cases u:4<=q/\q<8
 ·refine uk (fuel:=n) (x:=xs[4]) (cs:=(cs.drop 4).take 4) (by simp[Adn,Adp,b]) g _ ?_;refine Ad7.2 ⟨q-4,by rw[Adn,Adp,b]; omega, ?_⟩;rw[Aes,Ae3];congr 1; omega
 omega
theorem z9:dV 65 10:=by
 intro H enc W base sp hd fuel cs x b f v g;obtain ⟨xs,n,_,_,_,hlen,a⟩:=Ah1 Tryz.underlying65 f;have hlen:xs.length=3:=hlen;obtain ⟨q,o,rfl⟩:=Ad7.1 g;have h:Tryz.prog.cellsOf 63=8:=by kernel_rfl
 have c:DataW.trod enc Tryz.prog W base sp hd n 63 ((cs.drop 0).take (Tryz.prog.cellsOf 63))=xs[0]?:=a 0 _ rfl;rw[h,Aau (show 0<xs.length by omega)] at c;by_cases k:0<=q/\q<8
 ·refine z8 (fuel:=n) (x:=xs[0]) (cs:=(cs.drop 0).take 8) (by simp[Adn,Adp,b]) c _ ?_;refine Ad7.2 ⟨q-0,by rw[Adn,Adp,b]; omega, ?_⟩;rw[Aes,Ae3];congr 1; omega
 have i:Tryz.prog.cellsOf 5=1:=by kernel_rfl
 have d:DataW.trod enc Tryz.prog W base sp hd n 5 ((cs.drop 8).take (Tryz.prog.cellsOf 5))=xs[1]?:=a 1 _ rfl;rw[i,Aau (show 1<xs.length by omega)] at d;by_cases l:8<=q/\q<9
 ·refine V9 (fuel:=n) (x:=xs[1]) (cs:=(cs.drop 8).take 1) (by simp[Adn,Adp,b]) d _ ?_;refine Ad7.2 ⟨q-8,by rw[Adn,Adp,b]; omega, ?_⟩;rw[Aes,Ae3];congr 1; omega
 have j:Tryz.prog.cellsOf 5=1:=by kernel_rfl
 have e:DataW.trod enc Tryz.prog W base sp hd n 5 ((cs.drop 9).take (Tryz.prog.cellsOf 5))=xs[2]?:=a 2 _ rfl;rw[j,Aau (show 2<xs.length by omega)] at e;by_cases m:9<=q/\q<10
 ·refine V9 (fuel:=n) (x:=xs[2]) (cs:=(cs.drop 9).take 1) (by simp[Adn,Adp,b]) e _ ?_;refine Ad7.2 ⟨q-9,by rw[Adn,Adp,b]; omega, ?_⟩;rw[Aes,Ae3];congr 1; omega
 omega
theorem Ww:ZF (aA 65 10):=dO (by kernel_rfl) (by decide) z9
theorem ni {O:Nat} {v:Value} {d:DataW H} {p:List MemPlace} (g:Value.okWide Tryz.prog W .any O 27 v) (h:DataW.Trod enc Tryz.prog W 0 (fun _=>true) true 27 v d p):
  ∃ b m o i li pl pi,v = .agg #[.int .u8 b,.int .u8 m,o,i,li,pl,pi]/\(0<=b/\b<256)/\(0<=m/\m<256)/\(∀ w ∈ [o,i,li,pl,pi],∃ a n c,w = .slice a n c)/\(∃ l,PE (aA 61 4) W o l)/\(∃ l,PE (aA 5 1) W i l)/\(∃ l,PE (aA 52 3) W li l)/\(∃ l,PE (aA 161 2) W pl l) /\ ∃ l,PE (aA 5 1) W pi l:=by
 obtain ⟨cs,rfl,r⟩:=okWide_struct Tryz.underlying27 g;obtain ⟨fuel,q⟩:=h;have z:Tryz.prog.cellsOf 27=7:=by kernel_rfl
 have z1:Tryz.prog.cellsOf 5=1:=by kernel_rfl
 have s:Tryz.prog.cellsOf 22=1:=by kernel_rfl
 have tB:Tryz.prog.cellsOf 23=1:=by kernel_rfl
 have t:Tryz.prog.cellsOf 24=1:=by kernel_rfl
 have u:Tryz.prog.cellsOf 25=1:=by kernel_rfl
 have x:Tryz.prog.cellsOf 23=1:=by kernel_rfl
 obtain ⟨y,A,B,C,D,E,F,j⟩:=yG cs.toList (by simpa [z] using r);have f:cs = #[y,A,B,C,D,E,F]:=by apply Ag8.1; rw[j]
 subst f;have q:DataW.trod enc Tryz.prog W 0 (fun _=>true) true fuel 27 [y,A,B,C,D,E,F]=_:=q;obtain ⟨xs,n,_,_,_,hlen,e⟩:=Ah1 Tryz.underlying27 q;obtain ⟨y0,y1,y2,y3,y4,y5,y6,rfl⟩:=yG xs hlen;have G:=e 0 _ rfl;have I:=e 1 _ rfl;have J:=e 2 _ rfl;have K:=e 3 _ rfl;have L:=e 4 _ rfl;have M:=e 5 _ rfl;have N:=e 6 _ rfl;simp only[z1,s,tB,t,u,x,Agx,Adf,Ahl,Agu,Aca,Ace] at G I J K L M N;obtain ⟨a0,P,_,w0⟩:=DataW.trod_int (k:=.u8) (by kernel_rfl) G;obtain ⟨a1,Q,_,w1⟩:=DataW.trod_int (k:=.u8) (by kernel_rfl) I;obtain ⟨v2,S,q2,s2⟩:=Rl nU (ST:=22) Tryz.underlying22 J;obtain ⟨v3,T,q3,Y⟩:=Rl pV (ST:=23) Tryz.underlying23 K;obtain ⟨v4,U,q4,Z⟩:=Rl nT (ST:=24) Tryz.underlying24 L;obtain ⟨v5,V,q5,s5⟩:=Rl nS (ST:=25) Tryz.underlying25 M;obtain ⟨v6,X,q6,s6⟩:=Rl pV (ST:=23) Tryz.underlying23 N;obtain ⟨rfl,_⟩:=Afe P;obtain ⟨rfl,_⟩:=Afe Q;obtain ⟨rfl,_⟩:=Afe S;obtain ⟨rfl,_⟩:=Afe T;obtain ⟨rfl,_⟩:=Afe U;obtain ⟨rfl,_⟩:=Afe V;obtain ⟨rfl,_⟩:=Afe X;refine ⟨_,_,_,_,_,_,_,rfl,wk w0,wk w1,fun w hw=>?_,s2,Y,Z,s5,s6⟩;simp only[Acd,Aee,Aga] at hw;rcases hw with rfl | rfl | rfl | rfl | rfl <;> assumption
theorem Q4.app {J:Aa} {B:Bg} (h:Q4 J.length J B) (τ:Aa):Q4 (J++τ).length (J++τ) B:=by
 have up:∀ {w:Nat} {b:BL},Mo J.length J w b->Mo (J++τ).length (J++τ) w b:=fun hu=>
  ⟨hu.len,hu.rng,hu.at_.imp id fun ⟨q,T,d,a,e,c⟩=>⟨q,T,d,a,by rw[Aaw]; omega,by rw[AT e]; exact c⟩⟩;exact ⟨h.b0,h.m0,up h.ob,up h.de,up h.li,up h.pl,up h.pi⟩
theorem rD {J:Aa} {Z:Mu} (O:Qh W J Z) {b m:Int} {o A li pl pi:Value} (hb:0<=b/\b<256) (hm:0<=m/\m<256) (hw:∀ w ∈ [o,A,li,pl,pi],∃ a n c,w = .slice a n c)
  (s2:∃ l,PE (aA 61 4) W o l) (g:∃ l,PE (aA 5 1) W A l) (i:∃ l,PE (aA 52 3) W li l) (j:∃ l,PE (aA 161 2) W pl l) (k:∃ l,PE (aA 5 1) W pi l):
  ∃ (B:Bg) (τ:Aa) (z:Mu),Q4 (J++τ).length (J++τ) B/\Qh W (J++τ) z/\(∀ x y,RV Z x y->RV z x y)/\RV z (.agg #[.int .u8 B.bl,.int .u8 B.mu,.slice B.ob.p B.ob.n B.ob.c,.slice B.de.p B.de.n B.de.c,.slice B.li.p B.li.n B.li.c,.slice B.pl.p B.pl.n B.pl.c,.slice B.pi.p B.pi.n B.pi.c]) (.agg #[.int .u8 b,.int .u8 m,o,A,li,pl,pi]):=by
 obtain ⟨L,s2⟩:=s2;obtain ⟨M,g⟩:=g;obtain ⟨N,i⟩:=i;obtain ⟨P,j⟩:=j;obtain ⟨Q,k⟩:=k;obtain ⟨V,E,S,Z2_,O2,S2,r,M2,_⟩:=O.add s2;obtain ⟨X,F,C,Z3_,O3,S3,s,M3,_⟩:=O2.add g;obtain ⟨Y,G,p,Z4_,O4,S4,t,q,_⟩:=O3.add i;obtain ⟨p5,H,f,Z5_,O5,S5,u,M5,_⟩:=O4.add j;obtain ⟨p6,I,d,Z6_,D,S6,T,e,_⟩:=O5.add k;have S2:=(((S2.app C).app p).app f).app d;have S3:=((S3.app p).app f).app d;have S4:=(S4.app f).app d;have S5:=S5.app d;have r:=e _ _ (M5 _ _ (q _ _ (M3 _ _ r)));have s:=e _ _ (M5 _ _ (q _ _ s));have t:=e _ _ (M5 _ _ t);have u:=e _ _ u;have U:J++S++C++p++f++d=J++(S++C++p++f++d):=by simp[Aaq]
 rw[U] at D S2 S3 S4 S5 S6;refine ⟨⟨b,m,⟨V,L.length,E,Sv 4 L⟩,⟨X,M.length,F,Sv 1 M⟩,⟨Y,N.length,G,Sv 3 N⟩,⟨p5,P.length,H,Sv 2 P⟩,⟨p6,Q.length,I,Sv 1 Q⟩⟩,_,_,⟨hb,hm,S2.u8 s2 E,S3.u8 g F,S4.u8 i G,S5.u8 j H,S6.u8 k I⟩,D,fun x y h=>e _ _ (M5 _ _ (q _ _ (M3 _ _ (M2 _ _ h)))), ?_⟩;refine .agg (.cons (.int _ _) (.cons (.int _ _) (.cons r (.cons s (.cons t (.cons u (.cons T .nil))))))) ?_;intro v K;simp at K;rcases K with rfl | rfl | rfl | rfl | rfl | rfl | rfl <;> rfl
end
end
end Go.Proofs.YtjbledomkmdkmaaGreat
namespace Go.Proofs.YtjbledomkmdkmaaGreat
open Go Go.AX
noncomputable section
section
local instance qKA:AJ:=Ao
variable {J:Aa}
def Sr (J:Aa) (s:Bx) (l:List Int):Prop:=Ct Ak 1 J s l.length (Bl l)\/(l=[] /\ ∃ b cs w,s=(some ⟨b,0,some 0⟩,0,0)/\J[b]?=some (.cells cs Ak w))
theorem Sr.li {s:Bx} {l:List Int} (h:Sr J s l):Bf J s l:=by
 rcases h with h | ⟨rfl,b,cs,w,h1,a⟩
 ·exact .inl h
 ·exact .inr ⟨rfl,b,cs,_,w,h1,a⟩
theorem Sr.lt {s:Bx} {l:List Int} (h:Sr J s l):∀ b ∈ hs s,b<J.length:=h.li.lt
theorem Sr.Ax {J':Aa} {s:Bx} {l:List Int} (h:Sr J s l) (c:∀ b ∈ hs s,J'[b]?=J[b]?):Sr J' s l:=by
 rcases h with (h | ⟨b,rfl,h1,a,d⟩) | ⟨rfl,b,cs,w,rfl,a⟩
 ·exact .inl (.inl h)
 ·exact .inl (.inr ⟨b,rfl,h1,a,by rw[c b (by simp[hs])]; exact d⟩)
 ·exact .inr ⟨rfl,b,cs,w,rfl,by rw[c b (by simp[hs])]; exact a⟩
theorem Sr.app {s:Bx} {l:List Int} (h:Sr J s l) (τ:Aa):Sr (J++τ) s l:=h.Ax fun b hb=>AT (h.lt b hb)
theorem Sr.form {s:Bx} {l:List Int} (h:Sr J s l):s=(s.1,l.length,l.length):=h.li.form
theorem Sr.nil (J:Aa) (w:Bool) (cs:List Value):Sr (J++[.cells cs Ak w]) (some ⟨J.length,0,some 0⟩,0,0) []:=.inr ⟨rfl,J.length,cs,w,rfl,Ab5⟩
theorem Sr.part {s:Bx} {l:List Int} (h:Sr J s l) {a b:Nat} (f:a<=b) (hb:b<=l.length) (L H:Option Value) (j:L=some (qIi (a:Int))\/(L=none/\0=a)) (i:H=some (qIi (b:Int))\/(H=none/\l.length=b)):
  ∃ p c,Gj Ak 1 (s.1,l.length,l.length) L H none J=some (p,b-a,c)/\Da J 1 p (b-a)=some (Bl ((l.drop a).take (b-a))):=by
 rcases h with h | ⟨rfl,x,cs,w,rfl,k⟩
 ·obtain ⟨p,c,d,m⟩:=WG h a b f hb L H j i;refine ⟨p,c,d, ?_⟩;rw[m];simp[Bl,List.map_take,List.map_drop]
 ·have g:b=0:=by simpa using hb
  have e:a=0:=by omega
  subst g; subst e;have d:elemAt J x=some Ak:=by simp only[elemAt,k]
  refine ⟨some ⟨x,0,some 0⟩,0, ?_, ?_⟩
  ·rcases j with rfl | ⟨rfl,_⟩ <;> rcases i with rfl | ⟨rfl,_⟩ <;> simp[Gj,bound,d]
  ·simp[Da,Nm,k,Bl]
theorem KX {l:List Int} {x:Nat} (h:x<l.length):l.drop x=l.getD x 0::l.drop (x+1):=by
 rw[Ac2 h,Aax,Aau h]; rfl
theorem j0 (k:Nat) {s:Bx} {l:List Int} (h:Bf J s l) (i:l.length<=1000000) (v:Int):∀ (n x f:Nat),x+n=l.length->n<f ->
  ∃ o,Kf k f s.1 l.length l.length v (x:Int) J=some o/\(v ∈ l.drop x -> ∃ y:Nat,o=(.ret,[qIi (y:Int)],J))/\(v ∉ l.drop x->o=(.exit 0,[],J))
 | n,x,0,d,c=>by omega
 | 0,x,f+1,d,c=>by
   rw[QK];simp only[dFu x l.length (by omega),By];refine ⟨_,rfl,fun hm=>?_,fun _=>rfl⟩;rw[Ade (by omega)] at hm;cases hm
 | n+1,x,f+1,d,c=>by
   obtain ⟨b,e,m,_⟩:=h.ld (x:=x) (by omega);have p:=qSu x l.length (by omega);have r:=wSu x (by omega);obtain ⟨o,a,h1,g⟩:=j0 k h i v n (x+1) f (by omega) (by omega);have hd:=KX (l:=l) (x:=x) (by omega);rw[QK];simp only[dTu x l.length (by omega),IS,p,Aat,e,AI,IT,Acg,IN,m,r];by_cases q:l.getD x 0=v
   ·rw[show (l.getD x 0 == v)=true from Aei.2 q];simp only[IS];exact ⟨_,rfl,fun _=>⟨x,rfl⟩,fun hm=>absurd (by rw[hd,q]; exact Acj) hm⟩
   ·rw[show (l.getD x 0 == v)=false from Ach.2 q];rw[e] at a;simp only[By,a];refine ⟨o,rfl,fun hm=>h1 ?_,fun hm=>g fun j=>hm (by rw[hd]; exact Ab7 _ j)⟩;rw[hd] at hm;rcases Acd.1 hm with hm | hm
    ·exact absurd hm.symm q
    ·exact hm
theorem oZ (k:Nat) {s:Bx} {l:List Int} (h:Bf J s l) (g:l.length<=1000000) (f:l.length<k) (v:Int):I0 (k+2) (s.1,s.2.1,s.2.2) v J=some (.bool (decide (v ∈ l)),J):=by
 obtain ⟨o,e,h1,a⟩:=j0 k h g v l.length 0 k (by omega) f;rw[show ((0:Nat):Int)=0 from rfl] at e;rw[bO,eE];have b:=h.form;have c:s.2.1=l.length:=by rw[b]
 have d:s.2.2=l.length:=by rw[b]
 simp only[c,d,e,AI];rw[Adf] at h1 a;by_cases hm:v ∈ l
 ·obtain ⟨y,rfl⟩:=h1 hm;rw[Aak hm];simp only[reduceCtorEq,Aa5,Aat,Em,AI,Ah];rw[Aak (show (y:Int)>=0 by omega)]
 ·rw[a hm,Aaj hm];simp only[Aat,AI,Ah];rfl
theorem pE {p:qOi} {c:Nat} {l:List Int} (g:l.length<=100000) (f:Da (J++[.cells [] Ak true]) 1 p l.length=some (Bl l)):
  ∃ s τ,AH P Ak (some ⟨J.length,0,some 0⟩,0,0) (p,l.length,c) (J++[.cells [] Ak true])=some (s,J++[.cells [] Ak true]++τ)/\Sr (J++[.cells [] Ak true]++τ) s l /\ ∀ b ∈ hs s,J.length<=b:=by
 obtain ⟨s',τ,e,h1,d⟩:=Tv wg uC tB rfl rfl (by decide) (by decide) (by decide) J p l.length c g (Bl l) (by rw[Cm,Acg]) f;refine ⟨s',τ,e, ?_, ?_⟩
 ·by_cases h0:l.length=0
  ·have a:l=[]:=Aeh.1 h0;refine .inr ⟨a,J.length,[],true,d h0, ?_⟩;rw[Aaq,Acf (Aa1 _)]; simp
  ·obtain ⟨h,i⟩:=h1 (by omega);exact .inl (.inr ⟨J.length+1,h,Ado _,by rw[Cm,Acg],i⟩)
 ·intro b hb;by_cases h0:l.length=0
  ·rw[d h0] at hb; simp[hs] at hb; omega
  ·rw[(h1 (by omega)).1] at hb; simp[hs] at hb; omega
theorem j8 (k:Nat) {s:Bx} {l:List Int} (h:Bf J s l) (g:l.length<=100000):
  ∃ s' τ,Ho (k+1) (s.1,s.2.1,s.2.2) J=some (.slice s'.1 s'.2.1 s'.2.2,J++τ)/\Sr (J++τ) s' l /\ ∀ b ∈ hs s',J.length<=b:=by
 obtain ⟨s',τ,e,h1,d⟩:=pE (c:=s.2.2) g (bZ [Au.cells [] Ak true] h.first);have f:=h.form;have a:s.2.1=l.length:=by rw[f]
 refine ⟨s',[.cells [] Ak true]++τ, ?_,by rw[<- Aaq]; exact h1,d⟩;rw[ZS];simp only[Ae,a,e,AI,Aaq]
def FN (l:List Int) (n:Int):Nat:=(l.takeWhile fun a=>decide (a<n)).length
def iT (l:List Int) (n:Int):List Int:=if l[FN l n]?=some n then l else l.take (FN l n)++[n]++l.drop (FN l n)
theorem ql (l:List Int) (n:Int):FN l n<=l.length:=(List.takeWhile_sublist _).length_le
theorem sN (a:Int) (l:List Int) (n:Int):FN (a::l) n=if a<n then FN l n+1 else 0:=by
 unfold FN;rw[List.takeWhile_cons];by_cases h:a<n <;> simp[h]
theorem fu (k:Nat) {s:Bx} {l:List Int} (h:Bf J s l) (g:l.length<=1000000) (v:Int):∀ (n x f:Nat),x+n=l.length->n<f ->
  Jm k f s.1 l.length l.length v (x:Int) J=some (.exit 0,[qIi ((x+FN (l.drop x) v:Nat):Int)],J)
 | n,x,0,d,c=>by omega
 | 0,x,f+1,d,c=>by
   rw[PL];simp only[dFu x l.length (by omega),By,AI];rw[Ade (by omega)]; rfl
 | n+1,x,f+1,d,c=>by
   obtain ⟨b,e,i,_⟩:=h.ld (x:=x) (by omega);have j:=qSu x l.length (by omega);have m:=wSu x (by omega);have a:=fu k h g v n (x+1) f (by omega) (by omega);rw[KX (l:=l) (x:=x) (by omega),sN];rw[PL];simp only[dTu x l.length (by omega),IS,j,Aat,e,AI,IT,Acg,IN,i,m];by_cases q:l.getD x 0<v
   ·rw[e] at a;simp only[Aak q,IS,a,Aay q];rw[show x+1+FN (l.drop (x+1)) v=x+(FN (l.drop (x+1)) v+1) from by omega]
   ·simp only[Aaj q,By,Aaz q,Aa0]
theorem uP {ρ:Type} {a:qOi} {J J':Aa} {m:Option ρ} (h:∀ b,a=some b->b.block<J.length/\J'[b.block]?=J[b.block]?):gj a J J' m=m:=by
 cases a with
 | none=>rfl
 | some a=>
   obtain ⟨h1,c⟩:=h a rfl;have:AJ.k J J' a.block=true:=by unfold AJ.k qKA Ao; simpa using c
   show (bif Nat.blt a.block J.length && AJ.k J J' a.block then m else none)=m;rw[this,Bool.and_true,show Nat.blt a.block J.length=true from by rw[Ahq]; exact h1,IS]
theorem uo {b:Nat} {row a:List Value} {n n':Nat} {p:qOi} {c:Nat} (l:0<n) (d:row.length=n) (f:J[b]?=some (.cells row Ak true)) (k:n+n'<=1000000) (m:a.length=n') (j:Da J 1 p n'=some a):
  ∃ s' J',AH P Ak (some ⟨b,0,none⟩,n,n) (p,n',c) J=some (s',J')/\Mv [b] (hs s') J J'/\Ct Ak 1 J' s' (n+n') (row++a):=by
 by_cases h0:n'=0
 ·subst h0;have i:a=[]:=Aeh.1 m;subst i;have o:(¬ (Gq (qIi 0)=false/\some 1=some (Value.cells (qIi 0)).size/\0<(Value.cells (qIi 0)).size))=False:=by simp[Gq,Value.cells]
  refine ⟨(some ⟨b,0,none⟩,n,n),J.set b (.cells row Ak true), ?_,Mv.set J _ (by simp),.inr ⟨b,by simp,Ado _,by simp[d], ?_⟩⟩
  ·unfold AH LH;simp only[wg,uC,tB,AI,j,o,Aa5,Aa0,Aa1,Aat,HU,Aew,By,IN,Acg,H5,f,Adx,d,Bb,Ab1,qJ];rw[<- d,Afd]
  ·rw[Ab1,Aa2 (Af f)]
 ·obtain ⟨s',J',e,g,h⟩:=VX wg uC tB rfl rfl (by decide) (by decide) (by decide) J (some ⟨b,0,none⟩,n,n) n row p n' c a k (by omega) (by omega) (.inr ⟨b,rfl,Ado _,by omega,f⟩) j;exact ⟨s',J',e,g.mv,h⟩
theorem zn (k:Nat) {s:Bx} {l:List Int} (h:Sr J s l) (hl:l.length<=100000) (hk:l.length<k) (v:Int):
  ∃ s' τ,Mc (k+1) (s.1,s.2.1,s.2.2) v J=some (.slice s'.1 s'.2.1 s'.2.2,J++τ)/\Sr (J++τ) s' (iT l v) /\ ∀ b ∈ hs s',b ∈ hs s\/J.length<=b:=by
 have K:=fu k h.li (by omega) v l.length 0 k (by omega) hk;rw[show ((0:Nat):Int)=0 from rfl,Adf,IN] at K;have S:=h.form;have L:s.2.1=l.length:=by rw[S]
 have M:s.2.2=l.length:=by rw[S]
 have hp:=ql l v;have wq:Ar ((FN l v:Nat):Int)=((FN l v:Nat):Int):=Ai (by unfold AQ; omega);rw[bP];simp only[L,M,K,AI,Aat,Em];by_cases f:l[FN l v]?=some v
 ·have g:FN l v<l.length:=(Ab6.1 f).1;obtain ⟨b,w,E,_⟩:=h.li.ld g;have qx:(0<=((FN l v:Nat):Int)/\((FN l v:Nat):Int)<((l.length:Nat):Int))=True:=Adu (by omega);have B:l.getD (FN l v) 0=v:=by rw[Aax,f]; rfl
  simp only[Aak (show ((FN l v:Nat):Int)<((l.length:Nat):Int) by omega),IS,qx,Aat,w,AI,IT,Acg,IN,E,B,Ad1];refine ⟨s,[], ?_, ?_,fun b hb=>.inl hb⟩
  ·rw[Ab1,<- w,L,M]
  ·unfold iT;rw[Aay f,Ab1]; exact h
 ·have m:(bif decide (((FN l v:Nat):Int)<((l.length:Nat):Int)) then (if 0<=((FN l v:Nat):Int)/\((FN l v:Nat):Int)<((l.length:Nat):Int) then s.1.bind fun I=>(Aj .i64 J I.block (I.off+((FN l v:Nat):Int).toNat*1)).bind fun n7=>some (n7 == v,J) else none) else some (false,J))=some (false,J):=by
   by_cases g:FN l v<l.length
   ·obtain ⟨b,w,E,_⟩:=h.li.ld g;have B:(l.getD (FN l v) 0 == v)=false:=by
     rw[Ach];intro hh;have N:l[FN l v]?=some (l.getD (FN l v) 0):=by rw[Aax,Aau g]; rfl
     rw[hh] at N;exact f N
    rw[Aak (show ((FN l v:Nat):Int)<((l.length:Nat):Int) by omega),IS,Aay (by omega),w,AI,IT,Acg,IN,E,AI,B]
   ·rw[Aaj (by omega),By]
  simp only[m,AI,By,Ae];obtain ⟨p1,V,O,Q⟩:=(h.app [.cells [] Ak true]).part (a:=0) (b:=FN l v) (Ado _) hp none (some (qIi ((FN l v:Nat):Int))) (.inr ⟨rfl,rfl⟩) (.inl rfl);rw[Ahn,Adf] at Q;rw[Ahn] at O;have d:(l.take (FN l v)).length=FN l v:=by rw[Adn]; omega
  obtain ⟨s1,τ1,y,G,H⟩:=pE (J:=J) (c:=V) (l:=l.take (FN l v)) (by rw[d]; omega) (by rw[d]; exact Q);rw[d] at y;obtain ⟨Z1_,i⟩:∃ Z1_,J++[Au.cells [] Ak true]++τ1=Z1_:=⟨_,rfl⟩;rw[i] at y G;have aa:J.length<=Z1_.length:=by rw[<- i]; simp
  have u:∀ q,q<J.length->Z1_[q]?=J[q]?:=fun q t=>by rw[<- i,Aaq,AT t]
  obtain ⟨s2,Z2_,T,U,r⟩:=G.li.push v Ak (by rw[d]; omega);have o:∀ q,q<J.length->Z2_[q]?=J[q]?:=fun q t=>by rw[r.same q (by omega) fun hm=>by have:=H q hm; omega,u q t]
  have kq:∀ {ρ:Type} (x:Option ρ),gj s.1 (Z1_++[.cells [qIi v] Ak true]) Z2_ x=x:=fun x=>uP fun b hb=>by
   have:=h.lt b.block (BV.2 ⟨b,hb,rfl⟩);refine ⟨by rw[Aaw]; omega, ?_⟩;rw[o _ this,AT (by omega),u _ this]
  have q1:∀ {ρ:Type} (x:Option ρ),FQ (J++[Au.cells [] Ak true]) Z1_ x=x:=fun x=>by rw[<- i]; exact Np _ _ x
  obtain ⟨p2,W,Y,Z⟩:=(h.Ax (J':=Z2_) fun b hb=>o b (h.lt b hb)).part (a:=FN l v) (b:=l.length) hp (Aa1 _) (some (qIi ((FN l v:Nat):Int))) none (.inl rfl) (.inr ⟨rfl,rfl⟩);have hn:¬ l.take (FN l v)++[v]=[]:=by simp
  obtain ⟨j,rfl,C,D⟩:∃ j,s2=(some ⟨j,0,none⟩,FN l v+1,FN l v+1)/\Z2_[j]?=some (.cells (Bl (l.take (FN l v)++[v])) Ak true)/\J.length<=j:=by
   have A:(l.take (FN l v)++[v]).length=FN l v+1:=by rw[Aaw,d]; rfl
   rcases U with (⟨h0,_⟩ | ⟨j,e,_,_,X⟩) | ⟨h0,_⟩
   ·omega
   ·refine ⟨j,by rw[e,A],X, ?_⟩;rcases r.new j (by rw[e]; simp[hs]) with hm | hm
    ·exact H _ hm
    ·omega
   ·exact absurd h0 hn
  obtain ⟨s3,J3_,d1,d2,d3⟩:=uo (n:=FN l v+1) (n':=l.length-FN l v) (p:=p2) (c:=W) (by omega) (by rw[Cm,Aaw,d]; rfl) C (by omega) (by rw[Cm,Adn,Adp]; omega) Z;have l3:J.length<=J3_.length:=by have:=r.len; have:=d2.len; omega
  have F:∀ q,q<J.length->J3_[q]?=J[q]?:=fun q t=>by
   have:=r.len;rw[d2.same q (by omega) (by simp; omega),o q t]
  obtain ⟨τ,rfl⟩:=GC l3 F;refine ⟨s3,τ, ?_, ?_,fun b hb=>.inr ?_⟩
  ·have z:AH P Ak (s1.1,s1.2.1,s1.2.2) (some ⟨Z1_.length,0,none⟩,1,1) (Z1_++[.cells [qIi v] Ak true])=some ((some ⟨j,0,none⟩,FN l v+1,FN l v+1),Z2_):=T;simp only[O,AI,y,q1,Ae,z,kq,Y,d1]
  ·left;unfold iT;rw[Aaz f];rw[show FN l v+1+(l.length-FN l v)=(l.take (FN l v)++[v]++l.drop (FN l v)).length from by simp; omega,show (l.drop (FN l v)).take (l.length-FN l v)=l.drop (FN l v) from Ady (by rw[Adp]; exact Aa1 _),<- KS] at d3;exact d3
  ·rcases d2.new b hb with hm | hm
   ·rw[Ac1.1 hm]; exact D
   ·have:=r.len; omega
end
section
local instance qKB:AJ:=Ao
variable {J:Aa} {m:HM} {t:RM} {j:RI}
def Uk (m:HM) (l:List Int) (a:Int):List Int:=if Aw m a then iT l a else l
def gk (m:HM) (a:Int):List Int->Nat->List Int->List Int
 | [],_,out=>out
 | r::rs,x,out=>gk m a rs (x+1) (if DV a (x:Int) then out else Uk m out r)
def Ov (m:HM) (out:List Int) (a:Int):List Int:=
 let o:=AR m (a.toNat/2)
 let b:=gk m o.k o.refs 0 out
 if o.k=2/\o.refs.getD 0 0 ∈ b then Uk m b (o.refs.getD 1 0) else b
def KH (m:HM) (out:List Int):List Int:=out.foldl (Ov m) out
def Ln (m:HM):Nat->List Int->List Int
 | 0,out=>out
 | n+1,out=>if (KH m out).length=out.length then KH m out else Ln m n (KH m out)
def NZ (m:HM) (start:List Int):List Int:=Ln m 2050 (start.foldl (Uk m) [])
structure D3 (m:HM) (l:List Int):Prop where
 so:l.Pairwise (·<·)
 ob:∀ a ∈ l,Aw m a=true
theorem D3.nil (m:HM):D3 m []:=⟨List.Pairwise.nil,fun a h=>by cases h⟩
theorem o9 (l:List Int) (v:Int):l.take (FN l v)=l.takeWhile (fun a=>decide (a<v))/\l.drop (FN l v)=l.dropWhile (fun a=>decide (a<v)):=by
 have h:=List.takeWhile_append_dropWhile (p:=fun a=>decide (a<v)) (l:=l);have h1:=List.take_left (l₁:=l.takeWhile fun a=>decide (a<v)) (l₂:=l.dropWhile fun a=>decide (a<v));have b:=List.drop_left (l₁:=l.takeWhile fun a=>decide (a<v)) (l₂:=l.dropWhile fun a=>decide (a<v));rw[h] at h1 b;exact ⟨h1,b⟩
theorem kR {l:List Int} {v a:Int}:a ∈ iT l v↔a=v\/a ∈ l:=by
 unfold iT;split
 ·rename_i h;have:=Afx h;exact ⟨.inr,fun h=>h.elim (fun e=>by rw[e]; exact this) id⟩
 ·rw[Aaq,Aas,Aas,Ac1];have:a ∈ l↔a ∈ l.take (FN l v)\/a ∈ l.drop (FN l v):=by rw[<- Aas,Afd]
  rw[this];constructor
  ·rintro (h | h | h)
   ·exact .inr (.inl h)
   ·exact .inl h
   ·exact .inr (.inr h)
  ·rintro (h | h | h)
   ·exact .inr (.inl h)
   ·exact .inl h
   ·exact .inr (.inr h)
theorem RP:∀ {l:List Int} {v:Int},l.Pairwise (·<·) -> ∀ a ∈ l.dropWhile (fun a=>decide (a<v)),v<=a
 | [],v,_,a,c=>by cases c
 | b::l,v,h,a,c=>by
   obtain ⟨h1,d⟩:=Ad9.1 h;rw[List.dropWhile_cons] at c;by_cases hb:b<v
   ·rw[Aay (by simpa using hb)] at c;exact RP d a c
   ·rw[Aaz (by simpa using hb)] at c;rcases Acd.1 c with rfl | c
    ·omega
    ·have:=h1 a c; omega
theorem XE {v:Int}:∀ {l:List Int},∀ a ∈ l.takeWhile (fun a=>decide (a<v)),a<v
 | [],a,c=>by cases c
 | b::l,a,c=>by
   rw[List.takeWhile_cons] at c;by_cases hb:b<v
   ·rw[Aay (by simpa using hb)] at c;rcases Acd.1 c with rfl | c
    ·exact hb
    ·exact XE a c
   ·rw[Aaz (by simpa using hb)] at c;cases c
theorem xR {l:List Int} {v:Int} (h:l.Pairwise (·<·)):(iT l v).Pairwise (·<·):=by
 unfold iT;split
 ·exact h
 ·rename_i o;obtain ⟨k,j⟩:=o9 l v;have hd:∀ a ∈ l.drop (FN l v),v<a:=by
   intro a c;have h1:v<=a:=RP h a (by rw[<- j]; exact c);by_cases f:a=v
   ·exfalso;obtain ⟨x,e⟩:=List.mem_iff_getElem?.1 c;cases d:l[FN l v]? with
    | none=>
      rw[List.getElem?_eq_none_iff] at d;rw[Ade d] at c; cases c
    | some b=>
      have hb:v<=b:=RP h b (by rw[<- j]; exact Afx (i:=0) (by rw[Ad0,Aa0]; exact d));rw[Ad0] at e;by_cases g:x=0
      ·subst g;rw[Aa0,f] at e;exact o e
      ·have p:=(Ab6.1 d);have q:=(Ab6.1 e);obtain ⟨m,r⟩:=p;obtain ⟨n,s⟩:=q;have:=Agc.1 h (FN l v) (FN l v+x) m n (by omega);omega
   ·omega
  rw[Aaq,Ahg];refine ⟨h.sublist (List.take_sublist _ _), ?_, ?_⟩
  ·rw[Ag7,Ad9];exact ⟨hd,h.sublist (List.drop_sublist _ _)⟩
  ·intro a c b hb;have h1:a<v:=XE a (by rw[<- k]; exact c);rcases Aas.1 hb with hb | hb
   ·rw[Ac1.1 hb]; exact h1
   ·have:=hd b hb; omega
theorem D3.inc {l:List Int} (h:D3 m l) (a:Int):D3 m (Uk m l a):=by
 unfold Uk;split
 ·rename_i c;exact ⟨xR h.so,fun b hb=>(kR.1 hb).elim (fun e=>by rw[e]; exact c) (h.ob b)⟩
 ·exact h
theorem QX {l:List Int} {a b:Int}:b ∈ Uk m l a↔b ∈ l\/(b=a/\Aw m a=true):=by
 unfold Uk;split
 ·rename_i h;rw[kR];exact ⟨fun hb=>hb.elim (fun e=>.inr ⟨e,h⟩) .inl,fun hb=>hb.elim .inr fun e=>.inl e.1⟩
 ·rename_i h;exact ⟨.inl,fun hb=>hb.elim id fun e=>absurd e.2 h⟩
theorem D3.l3 (a:Int):∀ (rs:List Int) (x:Nat) (out:List Int),D3 m out->D3 m (gk m a rs x out)
 | [],_,_,h=>h
 | r::rs,x,out,h=>by
   unfold gk;refine D3.l3 a rs _ _ ?_;split
   ·exact h
   ·exact h.inc r
theorem D3.Ov {out:List Int} (h:D3 m out) (a:Int):D3 m (Ov m out a):=by
 unfold Go.Proofs.YtjbledomkmdkmaaGreat.Ov;simp only;split
 ·exact (D3.l3 _ _ _ _ h).inc _
 ·exact D3.l3 _ _ _ _ h
theorem D3.fold {f:List Int->Int->List Int} (b:∀ out a,D3 m out->D3 m (f out a)):∀ (l:List Int) (out:List Int),D3 m out->D3 m (l.foldl f out)
 | [],_,h=>h
 | a::l,out,h=>D3.fold b l _ (b out a h)
theorem D3.round {out:List Int} (h:D3 m out):D3 m (KH m out):=D3.fold (fun o a h=>h.Ov a) out out h
theorem Qx:∀ {l k:List Int},l.Nodup->(∀ a ∈ l,a ∈ k)->l.length<=k.length
 | [],k,_,_=>Ado _
 | a::l,k,h,hs=>by
   obtain ⟨h1,d⟩:=Afi.1 h;have c:a ∈ k:=hs a Acj;have:=Qx (l:=l) (k:=k.erase a) d fun b hb=>(List.mem_erase_of_ne (by rintro rfl; exact h1 hb)).2 (hs b (Ab7 _ hb));rw[List.length_erase_of_mem c] at this;have e:0<k.length:=List.length_pos_of_mem c;simp only[Adl]; omega
theorem QU {a:Int}:Aw m a=true↔a ∈ DW m:=by
 unfold DW Cq;rw[Aeb];constructor
 ·intro h;obtain ⟨j,e,b⟩:=AY h;exact ⟨j,DS.2 b,e.symm⟩
 ·rintro ⟨j,b,rfl⟩;exact RU (DS.1 b)
theorem D3.len {l:List Int} (h:D3 m l) (d:m.bls.length<=64):l.length<=2048:=
 Adt (Qx (h.so.imp fun c=>by omega) fun a b=>QU.1 (h.ob a b)) (Q6 d)
theorem pQ (l:List Int) (a:Int):l.length<=(Uk m l a).length:=by
 unfold Uk iT;split
 ·split
  ·exact Aa1 _
  ·have:=ql l a;simp; omega
 ·exact Aa1 _
theorem nY (a:Int):∀ (rs:List Int) (x:Nat) (out:List Int),out.length<=(gk m a rs x out).length
 | [],_,_=>Aa1 _
 | r::rs,x,out=>by
   unfold gk;refine Adt ?_ (nY a rs _ _);split
   ·exact Aa1 _
   ·exact pQ _ _
theorem vd (out:List Int) (a:Int):out.length<=(Ov m out a).length:=by
 unfold Ov;simp only;split
 ·exact Adt (nY _ _ _ _) (pQ _ _)
 ·exact nY _ _ _ _
theorem kE {f:List Int->Int->List Int} (b:∀ out a,out.length<=(f out a).length):∀ (l out:List Int),out.length<=(l.foldl f out).length
 | [],_=>Aa1 _
 | a::l,out=>Adt (b out a) (kE b l _)
theorem gO (out:List Int):out.length<=(KH m out).length:=kE vd out out
theorem yK (f:Inv m) {y:Nat} (hs:Start m y) (b:CC m y=2):2<=Av m y:=by
 obtain ⟨r,d,k,a,he⟩:=f.good y hs;obtain ⟨g,i,h,_⟩:=Kk a;have c:Av m y=r:=by unfold Av; rw[he,g]
 have e:CC m y=k:=by unfold CC; rw[he,h]
 rw[e] at b;unfold valid at a;rw[Ad4] at a;rw[c]; exact a.2.2.2.2.2.2.2 b
def oh (m:HM):HM:={ m with fw:=[] }
theorem RG.read (h:JM J j ⟨m.bls,Gr m,[],m.births⟩) (a:MK m):RG J j (oh m) ⟨m.bls,Gr m,[],m.births⟩:=
 ⟨h,⟨rfl,rfl,rfl,fun _=>rfl,rfl,trivial,trivial⟩,⟨a.inv.good,a.inv.fit,a.inv.apart,a.inv.idn,a.inv.plc,a.inv.brt,a.inv.onc⟩,⟨a.inv2.kind,a.inv2.zero⟩,a.sh.wl,a.nb,a.nt⟩
theorem VR (k:Nat) (g:5000<=k) (h:RG J j m t) {s:Bx} {l:List Int} (c:Sr J s l) (n:l.length<=4000) (a:Int):
  ∃ s' τ,D5 (k+4) (Bj j) (s.1,s.2.1,s.2.2) a J=some (.slice s'.1 s'.2.1 s'.2.2,J++τ)/\Sr (J++τ) s' (Uk m l a) /\ ∀ b ∈ hs s',b ∈ hs s\/J.length<=b:=by
 rw[Wj];simp only[aw k g h a,AI,An];unfold Uk;cases i:Aw m a with
 | true=>
   obtain ⟨s',τ,e,h1,f⟩:=zn (k+2) c (by omega) (by omega) a;have d:Mc (k+3) (s.1,s.2.1,s.2.2) a J=_:=e;simp only[Aa4,By,d,AI,Eo,Aat];exact ⟨s',τ,rfl,h1,f⟩
 | false=>
   simp only[Adi,IS,Ab8,Aa5];exact ⟨s,[],by rw[Ab1],by rw[Ab1]; exact c,fun b hb=>.inl hb⟩
theorem bh (k:Nat) (r d a:Int) {x:Nat} (J:Aa):GQ (k+1) r d a (x:Int) J=some (.bool (!DV a (x:Int)),J++[.cells [qIi r,qIi d,qIi a] Ad true]):=by
 rw[Xb];have f:Aj .i64 (J++[Au.cells [qIi r,qIi d,qIi a] Ad true]) J.length 2=some a:=by rw[Bv]; rfl
 simp only[Ae,IN,f,AI];generalize J++[Au.cells [qIi r,qIi d,qIi a] Ad true]=Z at f ⊢;generalize J.length=n at f ⊢;unfold DV;by_cases i:x=0
 ·subst i;by_cases h1:a=1
  ·subst h1; simp
  ·by_cases b:a=2
   ·subst b; simp
   ·have c:(a != 1)=true:=Adz.2 h1;have e:(a != 2)=true:=Adz.2 b;simp[c,e,h1,b]
 ·have g:decide ((x:Int)>0)=true:=Aak (by omega);by_cases h1:a=1
  ·subst h1;have c:((1:Int) != 1)=false:=rfl;simp only[c,By,AI,g,IS,f,Ad1];simp[i]
  ·have c:(a != 1)=true:=Adz.2 h1;have l:(a == 1)=false:=Ach.2 h1;by_cases b:a=2
   ·subst b;have e:((2:Int) != 2)=false:=rfl;simp only[c,e,l,By,AI,g,IS,f];by_cases h:x=1
    ·subst h; simp
    ·have j:decide ((x:Int)>1)=true:=Aak (by omega);rw[j];simp[i,h]; omega
   ·have e:(a != 2)=true:=Adz.2 b;simp[c,e,h1,b]
theorem uR (k:Nat) (w:5000<=k) (y:m.bls.length<=64) {o:RO} {p:Bx × Bx} {g:Nat}:∀ (n x f:Nat) (J:Aa) (s:Bx) (out:List Int),RG J j m t->He J g o p->D2 J p.1 o.refs->o.refs.length<=500->Sr J s out->D3 m out->x+n=o.refs.length->n<f ->
  ∃ s' τ,G4 (k+4) f (Bj j) g (s.1,s.2.1,s.2.2) (x:Int) J=some (.exit 6,[.slice s'.1 s'.2.1 s'.2.2],J++τ)/\Sr (J++τ) s' (gk m o.k (o.refs.drop x) x out)
 | n,x,0,J,s,out,h,l,i,r,d,q,C,B=>by omega
 | 0,x,f+1,J,s,out,h,l,i,r,d,q,C,B=>by
   obtain ⟨P,Q,E,F,G,z,S,T⟩:=l.ld;rw[Oi];simp only[IN,z,AI,i.1,dFu x o.refs.length (by omega),By];refine ⟨s,[],by rw[Ab1], ?_⟩;rw[Ade (by omega),Ab1];exact d
 | n+1,x,f+1,J,s,out,h,l,i,r,d,q,C,B=>by
   obtain ⟨P,Q,E,F,G,z,S,T⟩:=l.ld;have N:=qSu x o.refs.length (by omega);have D:=wSu x (by omega);obtain ⟨a,v⟩:∃ a,Au.cells [qIi o.r,qIi o.d,qIi o.k] Ad true=a:=⟨_,rfl⟩;have es:GQ (k+4) o.r o.d o.k (x:Int) J=some (.bool (!DV o.k (x:Int)),J++[a]):=by rw[<- v]; exact bh (k+3) o.r o.d o.k J
   have c:He (J++[a]) g o p:=by unfold He at l ⊢; rw[AT (Af l)]; exact l
   obtain ⟨_,_,_,_,_,O,_,_⟩:=c.ld;have hd:o.refs.drop x=o.refs.getD x 0::o.refs.drop (x+1):=KX (by omega);rw[hd,gk];rw[Oi];simp only[IN,Nat.reduceAdd,z,AI,i.1,dTu x o.refs.length (by omega),IS,E,F,G,es,An];cases L:DV o.k (x:Int) with
   | true=>
     obtain ⟨s',τ,e,h1⟩:=uR k w y n (x+1) f (J++[a]) s out (h.app _) c (i.app _) r (d.app _) q (by omega) (by omega);simp only[Aa4,By,AI,Aat,Rp,D,e];exact ⟨s',[a]++τ,by simp only[Aaq],by rw[<- Aaq]; exact h1⟩
   | false=>
     obtain ⟨b,H,M,_⟩:=(i.app [a]).qa (x:=x) (by omega);obtain ⟨s1,A,I,K,_⟩:=VR k w (h.app [a]) (d.app [a]) (by have:=q.len y; omega) (o.refs.getD x 0);have u:He (J++[a]++A) g o p:=by unfold He at c ⊢; rw[AT (Af c)]; exact c
     obtain ⟨s',τ,e,h1⟩:=uR k w y n (x+1) f (J++[a]++A) s1 _ ((h.app _).app _) u ((i.app _).app _) r K (q.inc _) (by omega) (by omega);simp only[Adi,IS,O,AI,i.1,N,Aat,H,IT,Acg,IN,M,I,Eo,Rp,D,e];exact ⟨s',[a]++(A++τ),by simp only[Aaq],by rw[<- Aaq,<- Aaq]; exact h1⟩
theorem Zd (k:Nat) (o:5000<=k) (p:m.bls.length<=64) {st:Bx} {l:List Int} (w:l.length<=1000000):∀ (n x f:Nat) (J:Aa) (s:Bx) (out:List Int),RG J j m t->Bf J st l->Sr J s out->D3 m out->x+n=l.length->n<f ->
  ∃ s' τ,G3 (k+4) f (Bj j) st.1 l.length l.length (s.1,s.2.1,s.2.2) (x:Int) J=some (.exit 0,[.slice s'.1 s'.2.1 s'.2.2],J++τ)/\Sr (J++τ) s' ((l.drop x).foldl (Uk m) out)
 | n,x,0,J,s,out,h,c,a,d,q,i=>by omega
 | 0,x,f+1,J,s,out,h,c,a,d,q,i=>by
   rw[Og];simp only[dFu x l.length (by omega),By];refine ⟨s,[],by rw[Ab1], ?_⟩;rw[Ade (by omega),Ab1];exact a
 | n+1,x,f+1,J,s,out,h,c,a,d,q,i=>by
   have z:=qSu x l.length (by omega);have A:=wSu x (by omega);obtain ⟨b,g,y,_⟩:=c.ld (x:=x) (by omega);obtain ⟨s1,r,u,v,_⟩:=VR k o h a (by have:=d.len p; omega) (l.getD x 0);obtain ⟨s',τ,e,h1⟩:=Zd k o p w n (x+1) f (J++r) s1 _ (h.app _) (c.app _) v (d.inc _) (by omega) (by omega);rw[g] at e;rw[KX (l:=l) (x:=x) (by omega),Aef];rw[Og];simp only[dTu x l.length (by omega),IS,z,Aat,g,AI,IT,Acg,IN,y,u,Eo,A,e];exact ⟨s',r++τ,by simp only[Aaq],by rw[<- Aaq]; exact h1⟩
theorem Zf (k:Nat) (hk:5000<=k) (X:m.bls.length<=64) {st:Bx} {l:List Int} (hl:l.length<=1000000) (H:∀ a ∈ l,Aw m a=true):∀ (n x f:Nat) (J:Aa) (s:Bx) (out:List Int),RG J j m t->Bf J st l->Sr J s out->D3 m out->x+n=l.length->n<f ->
  ∃ s' τ,Fv (k+5) f (Bj j) true st.1 l.length l.length (s.1,s.2.1,s.2.2) (x:Int) J=some (.exit 4,[.slice s'.1 s'.2.1 s'.2.2],J++τ)/\Sr (J++τ) s' ((l.drop x).foldl (Ov m) out)
 | n,x,0,J,s,out,h,O,u,G,hx,hf=>by omega
 | 0,x,f+1,J,s,out,h,O,u,G,hx,hf=>by
   rw[Oh];simp only[dFu x l.length (by omega),By];refine ⟨s,[],by rw[Ab1], ?_⟩;rw[Ade (by omega),Ab1];exact u
 | n+1,x,f+1,J,s,out,h,O,u,G,hx,hf=>by
   have qx:=qSu x l.length (by omega);have w1:=wSu x (by omega);obtain ⟨b,e1,l1,_⟩:=O.ld (x:=x) (by omega);have E:l.getD x 0 ∈ l:=by rw[Aax,Aau (by omega)]; exact Adb _
   generalize hv:l.getD x 0=v at *;obtain ⟨y,c,bo,p,F⟩:=h.found (H v E);have ei:Ay (k+5) (Bj j) v J=some (qIi (y:Int),J):=by rw[<- F.idx]; exact LF (k+3) (by omega) h v
   have qy:(0<=(y:Int)/\(y:Int)<((t.ob.length:Nat):Int))=True:=Adu (by have:=F.xl; omega);have ej:v.toNat/2=c:=by rw[F.e]; omega
   obtain ⟨_,w2,w3,_⟩:=Nc h.inv F.st;have ad:(AR m c).refs.length=(Av m c).toNat:=by show (KM m _ _).length=_; rw[DH]
   obtain ⟨A,hA⟩:∃ A,Au.cells (Bw (AR m c) p) Ab true=A:=⟨_,rfl⟩;have sa:H5 (J++[Au.cells [qIi 0,qIi 0,qIi 0,qIi 0,qIi 0,.slice none 0 0,.slice none 0 0,.bool false] Ab true]) J.length 0 [qIi (AR m c).addr,qIi (AR m c).id,qIi (AR m c).r,qIi (AR m c).d,qIi (AR m c).k,.slice p.1.1 p.1.2.1 p.1.2.2,.slice p.2.1 p.2.2.1 p.2.2.2,.bool (AR m c).W2]=some (J++[A]):=by
    rw[<- hA]; exact XC _ _ _ _ _ _ _ _ _ _ _ _ _ _ _ _ _ _
   have N:He (J++[A]) J.length (AR m c) p:=by unfold He; rw[Ab5,hA]
   obtain ⟨s1,d,S,D⟩:=uR (k+1) (by omega) X (AR m c).refs.length 0 (k+5) (J++[A]) s out (h.app _) N (F.rs.app _) (by omega) (u.app _) G (by omega) (by omega);have S:G4 (k+5) (k+5) (Bj j) J.length (s.1,s.2.1,s.2.2) 0 (J++[A])=_:=S;rw[Adf] at D;have Y:D3 m (gk m (AR m c).k (AR m c).refs 0 out):=D3.l3 _ _ _ _ G;have Q:He (J++[A]++d) J.length (AR m c) p:=by unfold He at N ⊢; rw[AT (Af N)]; exact N
   obtain ⟨z0,z1,z2,z3,z4,z5,z6,z7⟩:=Q.ld;have h1:=(h.app [A]).app d;have V:=(O.app [A]).app d;have q:=(F.rs.app [A]).app d;have ac:=Y.len X;obtain ⟨s2,w,e4,U,Z⟩:∃ (s2:Bx) (w:Aa),((bif ((AR m c).k == 2) then (Be (J++[A]++d) J.length 5).bind fun I=>if 0<=(0:Int)/\(0:Int)<(I.2.1:Nat) then I.1.bind fun B=>(Aj .i64 (J++[A]++d) B.block (B.off+(0:Int).toNat*1)).bind fun aa=>(I0 (k+5) (s1.1,s1.2.1,s1.2.2) aa (J++[A]++d)).bind fun L=>(Dl L.1).bind fun P=>some (P,L.2) else none else some (false,J++[A]++d)).bind fun o=>(bif o.1 then ((Be o.2 J.length 5).bind fun K=>if 0<=(1:Int)/\(1:Int)<(K.2.1:Nat) then K.1.bind fun C=>(Aj .i64 o.2 C.block (C.off+(1:Int).toNat*1)).bind fun ab=>(D5 (k+5) (Bj j) (s1.1,s1.2.1,s1.2.2) ab o.2).bind fun M=>(Eo M.1).bind fun z=>some (CA.normal,[Value.slice z.1 z.2.1 z.2.2],M.2) else none) else (some (CA.normal,[Value.slice s1.1 s1.2.1 s1.2.2],o.2)):Option Bq))=some (CA.normal,[Value.slice s2.1 s2.2.1 s2.2.2],J++[A]++d++w)/\Sr (J++[A]++d++w) s2 (Ov m out v)/\D3 m (Ov m out v):=by
    have i:=G.Ov v;unfold Ov at i ⊢;simp only[ej] at i ⊢;by_cases g:(AR m c).k=2
    ·have ae:2<=Av m c:=yK h.inv F.st g;obtain ⟨b0,f0,f1,_⟩:=q.qa (x:=0) (by omega);obtain ⟨b1,f2,f3,_⟩:=q.qa (x:=1) (by omega);rw[f0] at f2;cases f2;have eh:=oZ (k+3) D.li (by omega) (by omega) ((AR m c).refs.getD 0 0);have q0:(0<=(0:Int)/\(0:Int)<(((AR m c).refs.length:Nat):Int))=True:=Adu (by omega);have q1:(0<=(1:Int)/\(1:Int)<(((AR m c).refs.length:Nat):Int))=True:=Adu (by omega);have t0:(0:Int).toNat*1=0:=rfl;have t1:(1:Int).toNat*1=1:=rfl;simp only[show ((AR m c).k == 2)=true from Aei.2 g,IS,z5,AI,q.1,q0,Aat,f0,t0,Aa0,f1,eh,An];by_cases r:(AR m c).refs.getD 0 0 ∈ gk m (AR m c).k (AR m c).refs 0 out
     ·obtain ⟨s2,w,T,U,_⟩:=VR (k+1) (by omega) h1 D (by omega) ((AR m c).refs.getD 1 0);have T:D5 (k+5) (Bj j) (s1.1,s1.2.1,s1.2.2) ((AR m c).refs.getD 1 0) (J++[A]++d)=_:=T;refine ⟨s2,w, ?_, ?_,i⟩
      ·simp only[Aak r,IS,z5,AI,q.1,q1,Aat,f0,t1,IN,f3,T,Eo]
      ·rw[Aay ⟨g,r⟩]; exact U
     ·refine ⟨s1,[], ?_, ?_,i⟩
      ·simp only[Aaj r,By,Ab1]
      ·rw[Aaz fun W=>r W.2,Ab1]; exact D
    ·refine ⟨s1,[], ?_, ?_,i⟩
     ·simp only[show ((AR m c).k == 2)=false from Ach.2 g,By,AI,Ab1]
     ·rw[Aaz fun W=>g W.1,Ab1]; exact D
   obtain ⟨s',τ,e,h2⟩:=Zf k hk X hl H n (x+1) f (J++[A]++d++w) s2 _ (h1.app _) (V.app _) U Z (by omega) (by omega);rw[e1] at e;rw[KX (l:=l) (x:=x) (by omega),Aef,hv];rw[Oh];simp only[dTu x l.length (by omega),IS,IN,Nat.reduceAdd,h.at_.Fa,AI,qx,Aat,e1,IT,Acg,l1,ei,Ah,qy,F.os,Ad3,F.ld.l0,F.ld.l1,F.ld.l2,F.ld.l3,F.ld.l4,F.ld.l5,F.ld.l6,F.ld.l7,Ae,sa,S,Rp,z4];refine ⟨s',[A]++(d++(w++τ)), ?_,by simpa [Aaq] using h2⟩;have e':Fv (k+5) f (Bj j) true (some ⟨b,0,none⟩) l.length l.length (s2.1,s2.2.1,s2.2.2) ((x+1:Nat):Int) (J++[A]++d++w)=some (.exit 4,[.slice s'.1 s'.2.1 s'.2.2],J++([A]++(d++(w++τ)))):=by rw[e]; simp[Aaq]
   simp only[Acg] at e4;rw[<- Ag1,e4];simp only[AI,Aat,Rp,w1,e']
theorem Ze (k:Nat) (C:5000<=k) (x:m.bls.length<=64):∀ (n f:Nat) (J:Aa) (s:Bx) (out:List Int) (b:Int),RG J j m t->Sr J s out->D3 m out->(b=(out.length:Int)\/(b≠(out.length:Int)/\2050<=n+out.length))->n<f ->
  ∃ s' τ,H4 (k+6) f (Bj j) true (s.1,s.2.1,s.2.2) b J=some (.exit 2,[.slice s'.1 s'.2.1 s'.2.2],J++τ)/\Sr (J++τ) s' (if b=(out.length:Int) then out else Ln m n out)
 | n,0,J,s,out,b,h,a,g,A,B=>by omega
 | n,f+1,J,s,out,b,h,a,g,A,B=>by
   have F:=g.len x;have v:=a.form;have f1:s.2.1=out.length:=by rw[v]
   rw[Vl];by_cases i:b=(out.length:Int)
   ·rw[Aay i];simp only[f1,show (b != ((out.length:Nat):Int))=false from by rw[i]; simp,By];exact ⟨s,[],by rw[Ab1,<- f1],by rw[Ab1]; exact a⟩
   ·rw[Aaz i];have E:=(A.resolve_left i).2;cases n with
    | zero=>omega
    | succ n=>
      have w:n<f:=by omega
      obtain ⟨s1,o,p,z,_⟩:=j8 (k+5) a.li (by omega);have p:Ho (k+6) (s.1,s.2.1,s.2.2) J=_:=p;have d:=z.form;have f2:s1.2.1=out.length:=by rw[d]
      have f3:s1.2.2=out.length:=by rw[d]
      obtain ⟨s2,y,q,r⟩:=Zf (k+1) (by omega) x (st:=s1) (l:=out) (by omega) g.ob out.length 0 (k+6) (J++o) s out (h.app _) z.li (a.app _) g (by omega) (by omega);have q:Fv (k+6) (k+6) (Bj j) true s1.1 out.length out.length (s.1,s.2.1,s.2.2) 0 (J++o)=_:=q;rw[Adf] at r;have r:Sr (J++o++y) s2 (KH m out):=r;have D:=gO (m:=m) out;obtain ⟨s',τ,e,u⟩:=Ze k C x n f (J++o++y) s2 (KH m out) ((out.length:Nat):Int) ((h.app _).app _) r g.round (by
       by_cases c:((out.length:Nat):Int)=(((KH m out).length:Nat):Int)
       ·exact .inl c
       ·exact .inr ⟨c,by omega⟩) w;rw[f1] at p q;simp only[f1,show (b != ((out.length:Nat):Int))=true from by rw[Adz]; exact i,IS,p,AI,Eo,f2,f3,q,Aat,Rp,e];refine ⟨s',o++(y++τ),by simp only[Aaq], ?_⟩;rw[<- Aaq,<- Aaq,Ln];by_cases c:(KH m out).length=out.length
      ·rw[Aay (by rw[c])] at u;rw[Aay c]; exact u
      ·rw[Aaz (by omega)] at u;rw[Aaz c]; exact u
theorem jM (k:Nat) (r:5000<=k) (h:RG J j m t) {st:Bx} {l:List Int} (g:Bf J st l) (v:l.length<=4000):
  ∃ s' τ,GJ (k+7) (Bj j) (st.1,st.2.1,st.2.2) true J=some (.slice s'.1 s'.2.1 s'.2.2,J++τ)/\Sr (J++τ) s' (NZ m l):=by
 have n:=h.nt;have i:=g.form;have f1:st.2.1=l.length:=by rw[i]
 have f2:st.2.2=l.length:=by rw[i]
 obtain ⟨B0,b⟩:∃ B0,Au.cells [] Ak true=B0:=⟨_,rfl⟩;have h1:=h.app [B0];have s:Sr (J++[B0]) (some ⟨J.length,0,some 0⟩,0,0) []:=by rw[<- b]; exact Sr.nil J true []
 obtain ⟨s1,p,c,e⟩:=Zd (k+2) (by omega) n (st:=st) (l:=l) (by omega) l.length 0 (k+6) (J++[B0]) (some ⟨J.length,0,some 0⟩,0,0) [] h1 (g.app _) s (D3.nil m) (by omega) (by omega);have c:G3 (k+6) (k+6) (Bj j) st.1 l.length l.length (some ⟨J.length,0,some 0⟩,0,0) 0 (J++[B0])=_:=c;rw[Adf] at e;have d:D3 m (l.foldl (Uk m) []):=D3.fold (fun o a h=>h.inc a) l [] (D3.nil m);obtain ⟨s2,u,q,f⟩:=Ze k r n 2050 (k+6) (J++[B0]++p) s1 _ (-1) (h1.app _) e d (.inr ⟨by omega,by omega⟩) (by omega);rw[Aaz (by omega)] at f;rw[Yk];simp only[Ae,b,f1,f2,c,AI,Aat,Rp,q];exact ⟨s2,[B0]++(p++u),by simp only[Aaq],by rw[<- Aaq,<- Aaq]; exact f⟩
end
section
local instance qKC:AJ:=Ao
variable {J:Aa} {p:PI} {r:D4}
def Ut:List (Int × Nat × Nat)->List Value
 | []=>[]
 | x::l=>qIi x.1 :: qIi (x.2.1:Int) :: qIi (x.2.2:Int)::Ut l
def Ei (kk:Int) (x:Nat):Int × Nat × Nat:=(kk,if kk=0 then x/16 else 0,if kk=0 then x % 16 else x)
def Qy (kk:Int):List Int->Nat->List (Int × Nat × Nat)
 | [],_=>[]
 | v::l,x=>(if v=0 then [] else [Ei kk x])++Qy kk l (x+1)
def EN (r:D4):List (Int × Nat × Nat):=Qy 0 r.sl 0++Qy 1 r.gl 0++Qy 2 r.qu 0
theorem gF:∀ l a,Ut (l++a)=Ut l++Ut a
 | [],_=>rfl
 | x::l,a=>by simp only[Ut,Agw,gF l a]
theorem Rc (kk:Int):∀ (l:List Int) (x:Nat),(Qy kk l x).length<=l.length
 | [],_=>Aa1 _
 | v::l,x=>by
   have:=Rc kk l (x+1);simp only[Qy,Aaw,Adl];split <;> simp <;> omega
theorem PY (h:r.ok):(EN r).length<=144:=by
 have h1:=Rc 0 r.sl 0;have a:=Rc 1 r.gl 0;have b:=Rc 2 r.qu 0;have c:=h.sl; have h5:=h.gl; have d:=h.qu; have e:=h.m4;unfold EN;rw[Aaw,Aaw];omega
abbrev BR (J:Aa) (s:Bx) (l:List (Int × Nat × Nat)):Prop:=Ct Am 3 J s l.length (Ut l)
theorem szP:HV P Am=some 3:=by kernel_rfl
theorem byP:bytesOf P Am=some 24:=by kernel_rfl
theorem zzP:FV P Am=some (.agg #[qIi 0,qIi 0,qIi 0]):=by kernel_rfl
theorem BR.lt {s:Bx} {l:List (Int × Nat × Nat)} (h:BR J s l):∀ b ∈ hs s,b<J.length:=by
 intro b hb;rcases h with ⟨_,_,rfl⟩ | ⟨x,rfl,_,_,a⟩
 ·simp[hs] at hb
 ·simp[hs] at hb; subst hb; exact Af a
theorem BR.Ax {J':Aa} {s:Bx} {l:List (Int × Nat × Nat)} (h:BR J s l) (d:∀ b ∈ hs s,J'[b]?=J[b]?):BR J' s l:=by
 rcases h with h | ⟨x,rfl,h1,a,c⟩
 ·exact .inl h
 ·exact .inr ⟨x,rfl,h1,a,by rw[d x (by simp[hs])]; exact c⟩
theorem BR.app {s:Bx} {l:List (Int × Nat × Nat)} (h:BR J s l) (τ:Aa):BR (J++τ) s l:=BR.Ax h fun b hb=>AT (BR.lt h b hb)
theorem BR.nil (J:Aa):BR J (none,0,0) []:=.inl ⟨rfl,rfl,rfl⟩
theorem gG:∀ (l:List (Int × Nat × Nat)) (x:Nat) (a:x<l.length),(Ut l)[x*3]?=some (qIi l[x].1)/\(Ut l)[x*3+1]?=some (qIi (l[x].2.1:Int))/\(Ut l)[x*3+2]?=some (qIi (l[x].2.2:Int))
 | y::l,0,a=>⟨rfl,rfl,rfl⟩
 | y::l,x+1,a=>by
   have:=gG l x (by simpa using a);rw[show (x+1)*3=x*3+3 from by omega];simpa [Ut] using this
theorem BR.ld {s:Bx} {l:List (Int × Nat × Nat)} (h:BR J s l) {x:Nat} (f:x<l.length):∃ b,s.1=some ⟨b,0,none⟩/\Aj .i64 J b (x*3)=some l[x].1/\Aj .i64 J b (x*3+1)=some (l[x].2.1:Int)/\Aj .i64 J b (x*3+2)=some (l[x].2.2:Int)/\b<J.length:=by
 rcases h with ⟨h0,_⟩ | ⟨b,rfl,_,_,a⟩
 ·omega
 ·obtain ⟨c,d,e⟩:=gG l x f;exact ⟨b,rfl,by simp[Aj,CW,a,c,Bk],by simp[Aj,CW,a,d,Bk],by simp[Aj,CW,a,e,Bk],Af a⟩
theorem BR.push {s:Bx} {l:List (Int × Nat × Nat)} (h:BR J s l) (x:Int × Nat × Nat) (T:TypeId) (b:l.length<=900000):
  ∃ s' J',AH P Am (s.1,s.2.1,s.2.2) (some ⟨J.length,0,none⟩,1,1) (J++[.cells [qIi x.1,qIi (x.2.1:Int),qIi (x.2.2:Int)] T true])=some (s',J')/\BR J' s' (l++[x])/\Mv (hs s) (hs s') J J':=by
 obtain ⟨s',J',e,g,a⟩:=NM szP byP zzP rfl rfl (by decide) (by decide) (by decide) J s l.length (Ut l) 1 1 [qIi x.1,qIi (x.2.1:Int),qIi (x.2.2:Int)] T (by omega) (by decide) rfl h;refine ⟨s',J',e, ?_,g.mv⟩;unfold BR;rw[Aaw,gF];exact a
structure aS (Z:Aa) (h3 h6 top:Nat) (out:List (Int × Nat × Nat)):Prop where
 box:∃ s:Bx,Z[h3]?=some (.cells [.slice s.1 s.2.1 s.2.2] JJ true)/\BR Z s out /\ ∀ b ∈ hs s,top<b
 rc:Z[h6]?=some (.loop 96 .ready (Hk 0 17 [(3,qVi (some ⟨h3,0,none⟩))]))
 h3t:h3<=top
 h6t:h6<=top
 ne:h3≠h6
 tl:top<Z.length
theorem aS.behind {Z a:Aa} {h3 h6 top:Nat} {out:List (Int × Nat × Nat)} (h:aS Z h3 h6 top out) (g:Z.length<=a.length) (f:∀ q,q<Z.length->a[q]?=Z[q]?):aS a h3 h6 top out:=by
 obtain ⟨s,e,l,n⟩:=h.box;have c:=h.h3t; have d:=h.h6t; have i:=h.tl;exact ⟨⟨s,by rw[f _ (by omega)]; exact e,BR.Ax l fun b hb=>f b (BR.lt l b hb),n⟩,by rw[f _ (by omega)]; exact h.rc,c,d,h.ne,by omega⟩
theorem aS.app {Z:Aa} {h3 h6 top:Nat} {out:List (Int × Nat × Nat)} (h:aS Z h3 h6 top out) (τ:Aa):aS (Z++τ) h3 h6 top out:=h.behind (by simp) fun q a=>AT a
theorem jL (k:Nat) {Z:Aa} {h3 h6 top:Nat} {out:List (Int × Nat × Nat)} (h:aS Z h3 h6 top out) (S:out.length<=1000) (z:Int × Nat × Nat) (P:qOi):
  ∃ m,Hl k h6 h3 z.1 (z.2.1:Int) (z.2.2:Int) P Z=some (.bool true,m)/\aS m h3 h6 top (out++[z])/\S9 h3 top Z m:=by
 obtain ⟨s,e,l,n⟩:=h.box;have r:=h.h3t; have t:=h.h6t; have U:=h.tl;have c:∀ q ∈ hs s,q≠h3/\q≠h6:=fun q a=>by have:=n q a; omega
 obtain ⟨A,j⟩:∃ A,Au.cells [qIi z.1,qIi (z.2.1:Int),qIi (z.2.2:Int)] Am true=A:=⟨_,rfl⟩;obtain ⟨p,f⟩:∃ p,Au.loop 96 .busy (Hk 0 17 [(3,qVi (some ⟨h3,0,none⟩))])=p:=⟨_,rfl⟩;have u:(Z++[A])[h6]?=some (.loop 96 .ready (Hk 0 17 [(3,qVi (some ⟨h3,0,none⟩))])):=by rw[AT (by omega)]; exact h.rc
 obtain ⟨Z1_,b⟩:∃ Z1_,(Z++[A]).set h6 p=Z1_:=⟨_,rfl⟩;have T:Z1_.length=Z.length+1:=by rw[<- b]; simp
 have E:∀ q,q≠h6->Z1_[q]?=(Z++[A])[q]?:=fun q a=>by rw[<- b,Aar (Adk a)]
 have d:∀ q,q≠h6->q<Z.length->Z1_[q]?=Z[q]?:=fun q a K=>by rw[E q a,AT K]
 have G:Z1_[h6]?=some (.loop 96 .busy (Hk 0 17 [(3,qVi (some ⟨h3,0,none⟩))])):=by rw[<- b,Aa2 (by simp; omega),f]
 have B:Z1_[h3]?=some (.cells [.slice s.1 s.2.1 s.2.2] JJ true):=by rw[d _ h.ne (by omega)]; exact e
 have w:BR Z1_ s out:=BR.Ax l fun q a=>d q (c q a).2 (BR.lt l q a);have v:Be Z1_ h3 0=some (s.1,s.2.1,s.2.2):=by simp[Be,CW,B,Eo]
 have o:Z1_[Z.length]?=some A:=by rw[E _ (by omega),Ab5]
 have M:Aj .i64 Z1_ Z.length 0=some z.1:=by simp[Aj,CW,o,<- j,Bk]
 have N:Aj .i64 Z1_ Z.length 1=some (z.2.1:Int):=by simp[Aj,CW,o,<- j,Bk]
 have O:Aj .i64 Z1_ Z.length 2=some (z.2.2:Int):=by simp[Aj,CW,o,<- j,Bk]
 unfold Hl;simp only[Ae,EA,AI];rw[j,Pr u,f,b];obtain ⟨s',Z2_,J,x,i⟩:=BR.push w z Am (by omega);have g:∀ q ∈ hs s',top<q:=fun q a=>(i.new q a).elim (n q) fun Q=>by omega
 have F:Z2_[h3]?=some (.cells [.slice s.1 s.2.1 s.2.2] JJ true):=i.IY B fun hm=>(c _ hm).1 rfl;have H:Z2_[h6]?=some (.loop 96 .busy (Hk 0 17 [(3,qVi (some ⟨h3,0,none⟩))])):=i.IY G fun hm=>(c _ hm).2 rfl;have C:=i.len;have st:CY Z2_ h3 0 (.slice s'.1 s'.2.1 s'.2.2)=some (Z2_.set h3 (.cells [.slice s'.1 s'.2.1 s'.2.2] JJ true)):=by simp[CY,F]
 have I:(Z2_.set h3 (.cells [.slice s'.1 s'.2.1 s'.2.2] JJ true))[h6]?=some (.loop 96 .busy (Hk 0 17 [(3,qVi (some ⟨h3,0,none⟩))])):=by rw[Aar h.ne]; exact H
 simp only[v,IN,Nat.reduceAdd,M,N,O,AI,J,st];rw[Pr I];have D:=h.ne;refine ⟨_,rfl, ?_, ?_⟩
 ·refine ⟨⟨s', ?_,BR.Ax x fun q a=>?_,g⟩,Aa2 (by simp; omega),r,t,h.ne,by simp; omega⟩
  ·rw[Aar h.ne.symm,Aa2 (by omega)]
  ·have:=g q a;rw[Aar (by omega),Aar (by omega)]
 ·refine ⟨by simp; omega,fun q a L=>?_⟩;by_cases y:q=h6
  ·subst y; rw[Aa2 (by simp; omega),h.rc]
  ·rw[Aar (Adk y),Aar (Adk L),i.same q (by omega) (fun hm=>by have:=n q hm; omega),d q y (by omega)]
theorem Uu (k:Nat) {h3 h6 top:Nat} {i1:Int} (i:i1=0\/i1=1\/i1=2) (sl:Bx) (l:List Int) (z:l.length<=200):∀ (n x f:Nat) (Z:Aa) (out:List (Int × Nat × Nat)),aS Z h3 h6 top out->Bf Z sl l->(∀ b ∈ hs sl,b<=top/\b≠h3/\b≠h6)->x+n=l.length->out.length+n<=1000->n<f ->
  ∃ d,Di (k+3) f (.func (.yield h6) #[] #[]) i1 sl.1 l.length l.length ((l.length:Nat):Int) (x:Int) Z=some (.exit 2,[],d)/\aS d h3 h6 top (out++Qy i1 (l.drop x) x)/\S9 h3 top Z d
 | n,x,0,Z,out,h,a,hb,D,A,y=>by omega
 | 0,x,f+1,Z,out,h,a,hb,D,A,y=>by
   rw[FK];simp only[dFu x l.length (by omega),By];rw[Ade (by omega)];exact ⟨Z,rfl,by simpa [Qy] using h,S9.refl _ _ _⟩
 | n+1,x,f+1,Z,out,h,a,hb,D,A,y=>by
   obtain ⟨b,e,F,_⟩:=a.ld (x:=x) (by omega);have H:=h.tl;have E:=hb b (Nz e);have G:=qSu x l.length (by omega);have I:=wSu x (by omega);rw[KX (l:=l) (x:=x) (by omega),Qy];rw[FK];simp only[dTu x l.length (by omega),IS,Ae,EA,AI];have g:((bif i1 == (0:Int) then (if (16:Int)=0 then none else if (16:Int)=0 then none else (CY (Z++[Au.cells [qIi i1,qIi 0,qIi (x:Int)] Am true]) Z.length (0+1) (qIi (Ar ((x:Int).tdiv (16:Int))))).bind fun u=>(CY u Z.length (0+2) (qIi ((x:Int).tmod (16:Int)))).bind fun v=>some (.normal,[],v)) else (some (.normal,[],Z++[Au.cells [qIi i1,qIi 0,qIi (x:Int)] Am true])):Option Bq))=some (.normal,[],Z++[Au.cells [qIi (Ei i1 x).1,qIi ((Ei i1 x).2.1:Int),qIi ((Ei i1 x).2.2:Int)] Am true]):=by
    unfold Ei;by_cases h0:i1=0
    ·subst h0;have t1:(x:Int).tdiv 16=((x/16:Nat):Int):=ZA x 16;have t2:(x:Int).tmod 16=((x % 16:Nat):Int):=Kx x 16;have t3:Ar ((x/16:Nat):Int)=((x/16:Nat):Int):=Ai (by unfold AQ; omega);simp only[show ((0:Int) == 0)=true from rfl,IS,show ((16:Int)=0)=False from by simp,Aa5,Aat,t1,t2,t3];simp only[CY,Ab5,Adl,Adx,IN,show 1<0+1+1+1 from by omega,Aat,AI,Aex,Afj];rw[Afb _ _ (Aa1 _)];simp
    ·simp only[show (i1 == (0:Int))=false from Ach.2 h0,By,Aaz h0];rfl
   rw[g];obtain ⟨B,o⟩:∃ B,Au.cells [qIi (Ei i1 x).1,qIi ((Ei i1 x).2.1:Int),qIi ((Ei i1 x).2.2:Int)] Am true=B:=⟨_,rfl⟩;have h1:=h.app [B];have c:=a.app [B];have t:Aj .i64 (Z++[B]) b x=some (l.getD x 0):=by rw[HP _ _ _ (by omega)]; exact F
   have f1:S9 h3 top Z (Z++[B]):=S9.app H _;rw[o];simp only[AI,Aat,G,e,IT,Acg,IN,t,I];by_cases p:l.getD x 0=0
   ·obtain ⟨d,m,r,f2⟩:=Uu k i sl l z n (x+1) f _ out h1 c hb (by omega) (by omega) (by omega);rw[e] at m;rw[Aay p,Ae5];refine ⟨d, ?_,r,f1.trans f2⟩;rw[show (l.getD x 0 != 0)=false from by rw[p]; rfl];simp only[By,AI];exact m
   ·have J:Aj .i64 (Z++[B]) Z.length 0=some (Ei i1 x).1:=by rw[<- o,Bv]; rfl
    have K:Aj .i64 (Z++[B]) Z.length 1=some ((Ei i1 x).2.1:Int):=by rw[<- o,Bv]; rfl
    have L:Aj .i64 (Z++[B]) Z.length 2=some ((Ei i1 x).2.2:Int):=by rw[<- o,Bv]; rfl
    obtain ⟨Z2_,m,r,f2⟩:=jL (k+2) h1 (by omega) (Ei i1 x) (some ⟨b,x,none⟩);have j:Bf Z2_ sl l:=c.Ax fun q C=>f2.same q (hb q C).1 (hb q C).2.1;obtain ⟨d,w,s,f3⟩:=Uu k i sl l z n (x+1) f _ _ r j hb (by omega) (by simp; omega) (by omega);rw[e] at w;rw[Aaz p];refine ⟨d, ?_,by rw[<- Aaq]; exact s,(f1.trans f2).trans f3⟩;rw[show (l.getD x 0 != 0)=true from Adz.2 p];simp only[IS,Nat.reduceAdd,J,K,L,AI];rw[Mp _ _ _ _ _ _ _ _ h1.rc,m];simp only[AI,An,Aa4,By];exact w
theorem rk (k:Nat) (hk:1000<k) (h:Hg J p r):∃ τ s,Fw (k+6) (F8 p) J=some (.slice s.1 s.2.1 s.2.2,J++τ)/\BR (J++τ) s (EN r) /\ ∀ b ∈ hs s,J.length<=b:=by
 have f:=h.ok;have M:=f.sl;have X:=f.m4;have hg:=f.gl;have e:=f.qu;have w:=h.lt;rw[QL];have em:Bh (k+5) (F8 p) J=_:=Nn (k+4) h;simp only[em,AI,An,Aa4,By,Ae];rw[NG];simp only[Ae,AI,kK,IS];rw[JO];rw[Md];simp only[Ae];obtain ⟨t,j⟩:∃ O,Au.cells [.slice none 0 0] JJ true=O:=⟨_,rfl⟩;obtain ⟨O2,l⟩:∃ O,Au.cells [qVi (F8 p)] FO true=O:=⟨_,rfl⟩;obtain ⟨O3,m⟩:∃ O,Au.loop 96 .ready (Hk 0 17 [(3,qVi (some ⟨J.length,0,none⟩))])=O:=⟨_,rfl⟩;rw[j,l,m];obtain ⟨Z,y⟩:∃ Z,J++[t]++[O2]++[O3]=Z:=⟨_,rfl⟩;have lm:Z.length=J.length+3:=by rw[<- y]; simp
 have d:Z=J++[t,O2,O3]:=by rw[<- y]; simp
 have lb:(J++[t]++[O2]).length=J.length+2:=by simp
 have la:(J++[t]).length=J.length+1:=by simp
 rw[y,lb,la];have g:Hg Z p r:=by rw[d]; exact h.app _
 have A:B9 Z (J.length+1) 0=some (F8 p):=by
  rw[d];simp only[B9,CW];rw[Acf (by omega),show J.length+1-J.length=1 from by omega];simp only[Ace,Aca,<- l];rfl
 simp only[AI,A,IN,Aa0,g.Fa,g.UL,g.cH];obtain ⟨O4,n⟩:∃ O,Au.cells [.slice p.s1.1 p.s1.2.1 p.s1.2.2,.slice p.s2.1 p.s2.2.1 p.s2.2.2,.slice p.s3.1 p.s3.2.1 p.s3.2.2] FR true=O:=⟨_,rfl⟩;rw[n];have c:Hg (Z++[O4]) p r:=g.app _;have Q:aS (Z++[O4]) J.length (J.length+2) (J.length+3) []:=by
  refine ⟨⟨(none,0,0), ?_,BR.nil _,fun b hb=>by simp[hs] at hb⟩, ?_,by omega,by omega,by omega,by simp[lm]⟩
  ·rw[d,Aaq,Acf (Aa1 _),Afl,<- j]; rfl
  ·rw[d,Aaq,Acf (by omega),show J.length+2-J.length=2 from by omega,<- m]; rfl
 have H:(Z++[O4])[J.length+3]?=some O4:=by rw[<- lm]; simp
 have a:∀ b ∈ p.l,b<=J.length+3/\b≠J.length/\b≠J.length+2:=fun b hb=>by have:=w b hb; omega
 have f1:=c.sl.form;have f2:=c.gl.form;have f3:=c.qu.form;have n1:=Rc 0 r.sl 0;have n2:=Rc 1 r.gl 0;obtain ⟨Z1_,I,S1,F1⟩:=Uu (k+1) (h3:=J.length) (h6:=J.length+2) (top:=J.length+3) (i1:=0) (by simp) p.s1 r.sl (by omega) r.sl.length 0 (k+4) _ [] Q c.sl (fun b hb=>a b (p.m1 hb)) (by omega) (by simp; omega) (by omega);rw[Ae5,Adf] at S1;have k1:∀ q ∈ p.l,Z1_[q]?=(Z++[O4])[q]?:=fun q e=>F1.same q (a q e).1 (a q e).2.1;have P:=c.Ax k1;have d1:Z1_[J.length+3]?=some O4:=(F1.same _ (Aa1 _) (by omega)).trans H;obtain ⟨Z2_,K,S2,F2⟩:=Uu (k+1) (h3:=J.length) (h6:=J.length+2) (top:=J.length+3) (i1:=1) (by simp) p.s2 r.gl (by omega) r.gl.length 0 (k+4) _ _ S1 P.gl (fun b hb=>a b (p.m2 hb)) (by omega) (by omega) (by omega);rw[Adf] at S2;have k2:∀ q ∈ p.l,Z2_[q]?=Z1_[q]?:=fun q e=>F2.same q (a q e).1 (a q e).2.1;have p2:=P.Ax k2;have d2:Z2_[J.length+3]?=some O4:=(F2.same _ (Aa1 _) (by omega)).trans d1;obtain ⟨Z3_,L,S3,F3⟩:=Uu (k+1) (h3:=J.length) (h6:=J.length+2) (top:=J.length+3) (i1:=2) (by simp) p.s3 r.qu (by omega) r.qu.length 0 (k+4) _ _ S2 p2.qu (fun b hb=>a b (p.m3 hb)) (by omega) (by simp; omega) (by omega);rw[Adf] at S3;have u:∀ (ν:Aa),ν[J.length+3]?=some O4->Be ν (J.length+3) 0=some (p.s1.1,p.s1.2.1,p.s1.2.2)/\Be ν (J.length+3) 1=some (p.s2.1,p.s2.2.1,p.s2.2.2)/\Be ν (J.length+3) 2=some (p.s3.1,p.s3.2.1,p.s3.2.2):=by
  intro ν Y;simp[Be,CW,Y,<- n,Eo]
 have w1:Ar ((0:Int)+1)=1:=by decide
 have w2:Ar ((1:Int)+1)=2:=by decide
 have w3:Ar ((2:Int)+1)=3:=by decide
 have B:p.s1.2.1=r.sl.length:=by rw[f1]
 have C:p.s1.2.2=r.sl.length:=by rw[f1]
 have D:p.s2.2.1=r.gl.length:=by rw[f2]
 have E:p.s2.2.2=r.gl.length:=by rw[f2]
 have F:p.s3.2.1=r.qu.length:=by rw[f3]
 have G:p.s3.2.2=r.qu.length:=by rw[f3]
 rw[show ((0:Nat):Int)=0 from rfl] at I K L;have V:Dh (k+4) (k+4) (.func (.yield (J.length+2)) #[] #[]) (J.length+3) ((3:Nat):Int) 0 (Z++[O4])=some (.exit 0,[],Z3_):=by
  obtain ⟨S,_,_⟩:=u _ H;obtain ⟨_,T,_⟩:=u _ d1;obtain ⟨_,_,U⟩:=u _ d2;rw[BS];simp only[show decide ((0:Int)<((3:Nat):Int))=true from rfl,IS,show ((0:Int)<=0/\(0:Int)<((3:Nat):Int))=True from by simp,Aat,Afm,Ad6,IN,S,AI,B,C,I,w1];rw[BS];simp only[show decide ((1:Int)<((3:Nat):Int))=true from rfl,IS,show ((0:Int)<=1/\(1:Int)<((3:Nat):Int))=True from by simp,Aat,show (1:Int).toNat=1 from rfl,Acg,IN,T,AI,D,E,K,w2];rw[BS];simp only[show decide ((2:Int)<((3:Nat):Int))=true from rfl,IS,show ((0:Int)<=2/\(2:Int)<((3:Nat):Int))=True from by simp,Aat,show (2:Int).toNat=2 from rfl,Acg,IN,U,AI,F,G,L,w3];rw[BS];simp only[show decide ((3:Int)<((3:Nat):Int))=false from rfl,By]
 obtain ⟨s,o,v,i⟩:=S3.box;have x:=S3.rc;have N:Z.length+1<=Z3_.length:=by
  have W:=F1.len;have g2:=F2.len;have g3:=F3.len;simp at W;omega
 obtain ⟨τ,z⟩:∃ τ,Z3_.set (J.length+2) .dead=J++τ:=by
  refine GC (by simp; omega) fun q e=>?_;rw[Aar (by omega),F3.same q (by omega) (by omega),F2.same q (by omega) (by omega),F1.same q (by omega) (by omega),d,Aaq,AT e]
 refine ⟨τ,s, ?_, ?_,fun b hb=>by have:=i b hb; omega⟩
 ·rw[lm];simp only[V,Aat,AI];unfold Pb;rw[x];have:Be (Z3_.set (J.length+2) .dead) J.length 0=some (s.1,s.2.1,s.2.2):=by
   simp only[Be,CW];rw[Aar (by omega),o];rfl
  rw[z] at this;simp only[Aat,z,this,AI]
 ·rw[<- z];exact BR.Ax v fun q e=>Aar (by have:=i q e; omega)
def CH (r:D4) (z:Int × Nat × Nat):Int:=if z.1=0 then r.sl.getD (16*z.2.1+z.2.2) 0 else if z.1=1 then r.gl.getD z.2.2 0 else r.qu.getD z.2.2 0
theorem Hg.Ac5 (h:Hg J p r) {z:Int × Nat × Nat} (hp:Oq r z.1 z.2.1 z.2.2):∃ b o,(z.1=0->p.s1.1=some ⟨b,0,none⟩/\o=16*z.2.1+z.2.2)/\(z.1=1->p.s2.1=some ⟨b,0,none⟩/\o=z.2.2)/\(z.1=2->p.s3.1=some ⟨b,0,none⟩/\o=z.2.2)/\Aj .i64 J b o=some (CH r z)/\b<J.length:=by
 have g:=h.ok.sl;have f:=h.ok.gl;unfold CH;rcases hp with ⟨e,hm,hi⟩ | ⟨e,_,hi⟩ | ⟨e,_,hi⟩
 ·obtain ⟨b,a,c,d⟩:=h.sl.ld (x:=16*z.2.1+z.2.2) (by omega);rw[Aay e];exact ⟨b,_,fun _=>⟨a,rfl⟩,fun h=>by omega,fun h=>by omega,c,Af d⟩
 ·obtain ⟨b,a,c,d⟩:=h.gl.ld (x:=z.2.2) (by omega);rw[Aaz (by omega),Aay e];exact ⟨b,_,fun h=>by omega,fun _=>⟨a,rfl⟩,fun h=>by omega,c,Af d⟩
 ·obtain ⟨b,a,c,d⟩:=h.qu.ld (x:=z.2.2) (by omega);rw[Aaz (by omega),Aaz (by omega)];exact ⟨b,_,fun h=>by omega,fun h=>by omega,fun _=>⟨a,rfl⟩,c,Af d⟩
theorem ze (k:Nat) (h:Hg J p r) {z:Int × Nat × Nat} (hp:Oq r z.1 z.2.1 z.2.2):∃ τ,I7 (k+4) (F8 p) z.1 (z.2.1:Int) (z.2.2:Int) J=some (.tuple #[qIi (CH r z),qIi 0],J++τ):=by
 obtain ⟨B,a⟩:∃ B,Au.cells [qIi z.1,qIi (z.2.1:Int),qIi (z.2.2:Int)] Am true=B:=⟨_,rfl⟩;obtain ⟨b,o,h0,h1,l,d,e⟩:=h.Ac5 hp;have i:Hg (J++[B]++[B]) p r:=(h.app [B]).app [B];have g:=y8 k i hp h0 h1 l;rw[a] at g;have em:=Nn (k+1) i;have f:∀ Z:Aa,Aj .i64 (Z++[B]) Z.length 0=some z.1/\Aj .i64 (Z++[B]) Z.length 1=some (z.2.1:Int)/\Aj .i64 (Z++[B]) Z.length 2=some (z.2.2:Int):=fun Z=>by
  rw[<- a];exact ⟨by rw[Bv]; rfl,by rw[Bv]; rfl,by rw[Bv]; rfl⟩
 obtain ⟨n,q,s⟩:=f J;obtain ⟨t,u,v⟩:=f (J++[B]);have m:J++[B]++[B]++[B]=J++[B,B,B]:=by simp
 have j:DG (k+3) (F8 p) z.1 (z.2.1:Int) (z.2.2:Int) (J++[B])=some (.tuple #[qVi (some ⟨b,o,none⟩),qIi 0],J++[B,B,B]):=by
  rw[MF];simp only[Ae,a,IN,Nat.reduceAdd,em,AI,An,Aa4,By,t,u,v,g,HR,Abn,m]
 have c:Aj .i64 (J++[B,B,B]) b o=some (CH r z):=by rw[HP _ _ _ e]; exact d
 refine ⟨[B,B,B], ?_⟩;rw[TT];simp only[Ae,a,IN,Nat.reduceAdd,n,q,s,AI,j,LK,Abx,By,c]
theorem tZ (k:Nat) (h:Hg J p r):∃ s τ,Gb (k+2) (F8 p) J=some (.slice s.1 s.2.1 s.2.2,J++τ)/\Bf (J++τ) s r.qu /\ ∀ b ∈ hs s,J.length<=b:=by
 have f:=h.ok.qu;have d:=h.qu.form;have f1:p.s3.2.1=r.qu.length:=by rw[d]
 obtain ⟨s,τ,e,a,c⟩:=WY k p.s3.1 p.s3.2.2 r.qu (by omega) h.qu.holds;refine ⟨s,τ, ?_,a,c⟩;rw[RL];simp only[Nn k h,AI,An,Aa4,By,IN,h.cH,f1,e,Eo]
end
section
local instance qKD:AJ:=Ao
variable {J:Aa} {p:PI} {r rq:D4} {q:QI}
def Sz:List Int->Nat->List Int->List Int
 | [],_,acc=>acc
 | v::l,x,acc=>Sz l (x+1) (if v=0 then acc else acc.set x v)
theorem WE {s:List Int}:∀ (l:List Int) (x:Nat) (acc:List Int),l=s.drop x->x<=s.length->acc=s.take x++List.replicate (s.length-x) 0->Sz l x acc=s
 | [],x,acc,b,i,c=>by
   have:s.length<=x:=by
    have:=Aec List.length b;rw[Adp] at this; simp at this; omega
   rw[Sz,c,Ady this,show s.length-x=0 from by omega]; simp
 | v::l,x,acc,b,i,c=>by
   have a:x<s.length:=by
    have:=Aec List.length b;rw[Adp] at this; simp at this; omega
   rw[KX a] at b;obtain ⟨h,d⟩:=Afe b;rw[Sz];refine WE l (x+1) _ d a ?_;have f:s.length-x=(s.length-(x+1))+1:=by omega
   have g:s.take (x+1)=s.take x++[v]:=by
    rw[Ago,h,Aax,Aau a]; rfl
   have e:(s.take x).length=x:=by rw[Adn]; omega
   rw[g,c,f,Aeu];split
   ·rename_i h0; rw[h0]; simp
   ·rw[Afb _ _ (by omega),e,Afl]; simp
theorem dC {s:List Int}:∀ (l:List Int) (x:Nat),l=s.drop x->Sz l x s=s
 | [],x,_=>rfl
 | v::l,x,b=>by
   have a:x<s.length:=by
    have:=Aec List.length b;rw[Adp] at this; simp at this; omega
   rw[KX a] at b;obtain ⟨d,c⟩:=Afe b;rw[Sz];have:(if v=0 then s else s.set x v)=s:=by
    split
    ·rfl
    ·rw[d,Aax,Aau a];show s.set x s[x]=s;exact List.set_getElem_self a
   rw[this];exact dC l (x+1) c
def On (r:D4) (ps:List (Int × Nat × Nat)) (rq:D4):D4:=ps.foldl (fun q z=>Hx q z.1 z.2.1 z.2.2 (CH r z)) rq
theorem Rk (r:D4) (a b:List (Int × Nat × Nat)) (rq:D4):On r (a++b) rq=On r b (On r a rq):=by unfold On; rw[Af1]
theorem vP (r:D4):∀ (l:List Int) (x:Nat) (rq:D4),l=r.sl.drop x->On r (Qy 0 l x) rq={ rq with sl:=Sz l x rq.sl }
 | [],_,_,_=>rfl
 | v::l,x,rq,c=>by
   have d:x<r.sl.length:=by
    have:=Aec List.length c;rw[Adp] at this; simp at this; omega
   rw[KX d] at c;obtain ⟨e,a⟩:=Afe c;have b:16*(x/16)+x % 16=x:=Ag0 x 16;rw[Qy,Rk,Sz];by_cases h0:v=0
   ·rw[Aay h0,Aay h0];exact vP r l (x+1) rq a
   ·rw[Aaz h0,Aaz h0];have:On r [Ei 0 x] rq={ rq with sl:=rq.sl.set x v }:=by
     unfold On Hx CH Ei;simp only[Aef,Ahv,Aat,b,<- e]
    rw[this];exact vP r l (x+1) _ a
theorem vQ (r:D4):∀ (l:List Int) (x:Nat) (rq:D4),l=r.gl.drop x->On r (Qy 1 l x) rq={ rq with gl:=Sz l x rq.gl }
 | [],_,_,_=>rfl
 | v::l,x,rq,b=>by
   have c:x<r.gl.length:=by
    have:=Aec List.length b;rw[Adp] at this; simp at this; omega
   rw[KX c] at b;obtain ⟨d,a⟩:=Afe b;rw[Qy,Rk,Sz];by_cases h0:v=0
   ·rw[Aay h0,Aay h0];exact vQ r l (x+1) rq a
   ·rw[Aaz h0,Aaz h0];have:On r [Ei 1 x] rq={ rq with gl:=rq.gl.set x v }:=by
     unfold On Hx CH Ei;simp only[Aef,Ahv,show ((1:Int)=0)=False from by simp,Aa5,Aat,<- d]
    rw[this];exact vQ r l (x+1) _ a
theorem vR (r:D4):∀ (l:List Int) (x:Nat) (rq:D4),l=r.qu.drop x->On r (Qy 2 l x) rq={ rq with qu:=Sz l x rq.qu }
 | [],_,_,_=>rfl
 | v::l,x,rq,b=>by
   have c:x<r.qu.length:=by
    have:=Aec List.length b;rw[Adp] at this; simp at this; omega
   rw[KX c] at b;obtain ⟨d,a⟩:=Afe b;rw[Qy,Rk,Sz];by_cases h0:v=0
   ·rw[Aay h0,Aay h0];exact vR r l (x+1) rq a
   ·rw[Aaz h0,Aaz h0];have:On r [Ei 2 x] rq={ rq with qu:=rq.qu.set x v }:=by
     unfold On Hx CH Ei;simp only[Aef,Ahv,show ((2:Int)=0)=False from by simp,show ((2:Int)=1)=False from by simp,Aa5,<- d]
    rw[this];exact vR r l (x+1) _ a
theorem ti (h:r.ok):On r (EN r) ⟨r.mu,List.replicate (16*r.mu) 0,List.replicate 16 0,r.qu⟩=r:=by
 unfold EN;rw[Rk,Rk,vP r r.sl 0 _ rfl,vQ r r.gl 0 _ rfl,vR r r.qu 0 _ rfl];simp only;rw[WE r.sl 0 _ rfl (Ado _) (by rw[h.sl]; simp),WE r.gl 0 _ rfl (Ado _) (by rw[h.gl]; simp),dC r.qu 0 rfl]
theorem Xr {kk:Int} {z:Int × Nat × Nat}:∀ {l:List Int} {x:Nat},z ∈ Qy kk l x -> ∃ y,y<l.length/\z=Ei kk (x+y)/\l.getD y 0≠0
 | [],x,h=>by cases h
 | v::l,x,h=>by
   rw[Qy,Aas] at h;rcases h with h | h
   ·split at h
    ·cases h
    ·rename_i h0;rw[Ac1] at h;exact ⟨0,by simp,h,by simpa using h0⟩
   ·obtain ⟨y,h1,a,b⟩:=Xr h;exact ⟨y+1,by simp; omega,by rw[a]; congr 1; omega,by simpa using b⟩
theorem O7 {l:List Int} {x:Nat} (h:x<l.length):l.getD x 0 ∈ l:=by rw[Aax,Aau h]; exact Adb h
theorem Se (h:r.ok) {z:Int × Nat × Nat} (a:z ∈ EN r):Oq r z.1 z.2.1 z.2.2/\AQ (CH r z)/\0<CH r z:=by
 have key:∀ v ∈ r.all,v≠0->AQ v/\0<v:=fun v f h0=>by
  obtain ⟨h1,g⟩:=h.inn v f;exact ⟨h1,by omega⟩
 have e:=h.sl;have d:=h.gl;unfold EN at a;rw[Aas,Aas] at a;rcases a with (a | a) | a
 ·obtain ⟨y,h1,rfl,b⟩:=Xr a;rw[IN];have c:16*(y/16)+y % 16=y:=Ag0 y 16;refine ⟨.inl ⟨rfl,by simp only[Ei,Aat]; omega,by simp only[Ei,Aat]; omega⟩, ?_⟩;have:CH r (Ei 0 y)=r.sl.getD y 0:=by unfold CH Ei; simp only[Aat,c]
  rw[this];exact key _ (by unfold D4.all; rw[Aas,Aas]; exact .inl (.inl (O7 h1))) b
 ·obtain ⟨y,h1,rfl,b⟩:=Xr a;rw[IN];refine ⟨.inr (.inl ⟨rfl,rfl,by simp[Ei]; omega⟩), ?_⟩;have:CH r (Ei 1 y)=r.gl.getD y 0:=rfl;rw[this];exact key _ (by unfold D4.all; rw[Aas,Aas]; exact .inl (.inr (O7 h1))) b
 ·obtain ⟨y,h1,rfl,b⟩:=Xr a;rw[IN];refine ⟨.inr (.inr ⟨rfl,rfl,by simp[Ei]; omega⟩), ?_⟩;have:CH r (Ei 2 y)=r.qu.getD y 0:=rfl;rw[this];exact key _ (by unfold D4.all; rw[Aas,Aas]; exact .inr (O7 h1)) b
theorem vq (rq:D4) (k:Int) (mt ix:Nat) (a:Int):(Hx rq k mt ix a).mu=rq.mu/\(Hx rq k mt ix a).qu.length=rq.qu.length:=by
 unfold Hx;split
 ·exact ⟨rfl,rfl⟩
 ·split
  ·exact ⟨rfl,rfl⟩
  ·exact ⟨rfl,Adj⟩
theorem Ss (k:Nat) {s:Bx} {ps:List (Int × Nat × Nat)} (F:∀ z ∈ ps,Oq r z.1 z.2.1 z.2.2/\AQ (CH r z)/\0<CH r z) (A:ps.length<=1000) (hd:∀ b ∈ q.l,b ∉ p.l/\b ∉ hs s):∀ (n x f:Nat) (J:Aa) (rq:D4),Hg J p r->F7 J q rq->BR J s ps->rq.mu=r.mu->rq.qu.length=r.qu.length->x+n=ps.length->n<f ->
  ∃ J',Ed (k+4) f (F8 p) (GS q) s.1 ps.length ps.length (x:Int) J=some (.exit 0,[],J')/\F7 J' q (On r (ps.drop x) rq)/\Mv q.l q.l J J'
 | n,x,0,J,rq,w,v,hp,hm,y,E,D=>by omega
 | 0,x,f+1,J,rq,w,v,hp,hm,y,E,D=>by
   rw[LX];simp only[dFu x ps.length (by omega),By];rw[Ade (by omega)];exact ⟨J,rfl,v,Mv.refl _ _⟩
 | n+1,x,f+1,J,rq,w,v,hp,hm,y,E,D=>by
   have j:x<ps.length:=by omega
   have T:=qSu x ps.length (by omega);have U:=wSu x (by omega);obtain ⟨b,e,H,I,K,hb⟩:=BR.ld hp j;obtain ⟨M,Y,z3⟩:=F _ (Adb j);have g:ps.drop x=ps[x]::ps.drop (x+1):=Ac2 j;rw[g];generalize ps[x]=z at *;obtain ⟨τ,N⟩:=ze k w M;have t:=w.app τ;have B:=v.app τ;have l:=BR.app hp τ;have Z:Oq rq z.1 z.2.1 z.2.2:=by
    rcases M with ⟨a,b,c⟩ | h | ⟨a,b,c⟩
    ·exact .inl ⟨a,by omega,c⟩
    ·exact .inr (.inl h)
    ·exact .inr (.inr ⟨a,b,by omega⟩)
   obtain ⟨J2_,es,m,L⟩:=ua (k+2) B Z (CH r z) Y;have u:Om rq z.1 z.2.1 z.2.2 (CH r z)=(0,Hx rq z.1 z.2.1 z.2.2 (CH r z)):=by unfold Om; rw[Aaz (by omega)]
   rw[u] at es m;obtain ⟨O,P⟩:=vq rq z.1 z.2.1 z.2.2 (CH r z);have G:∀ c,c<(J++τ).length->(c ∉ q.l)->J2_[c]?=(J++τ)[c]?:=fun c d Q=>L.same c d Q;obtain ⟨J3_,C,o,S⟩:=Ss k F A hd n (x+1) f J2_ _ (t.Ax fun c d=>G c (t.lt c d) fun i=>(hd c i).1 d) m (BR.Ax l fun c d=>G c (BR.lt l c d) fun i=>(hd c i).2 d) (by rw[O]; exact hm) (by rw[P]; exact y) (by omega) (by omega);have V:Aj .i64 (J++τ) b (x*3)=some z.1:=by rw[HP _ _ _ hb]; exact H
   have W:Aj .i64 (J++τ) b (x*3+1)=some (z.2.1:Int):=by rw[HP _ _ _ hb]; exact I
   have X:Aj .i64 (J++τ) b (x*3+2)=some (z.2.2:Int):=by rw[HP _ _ _ hb]; exact K
   rw[e] at C;refine ⟨J3_, ?_,by unfold On at o ⊢; rw[Aef]; exact o,((Mv.app q.l J τ).trans L).trans S⟩;rw[LX];simp only[dTu x ps.length (by omega),IS,T,Aat,e,AI,IT,IN,Ad3,Nat.reduceAdd,H,I,K,N,B6,V,W,X,es,Ah,U,C]
theorem F7.Ab4 (h:F7 J q rq) {s':Bx} {l:List Int} (li:Bf J s' l) (m:l.length<=64) (hi:∀ v ∈ l,AQ v/\0<=v) (f:∀ b ∈ hs s',b ∉ q.l):
  ∃ c,CY J q.qb 2 (.slice s'.1 s'.2.1 s'.2.2)=some (J.set q.qb c)/\F7 (J.set q.qb c) { q with s3:=s' } { rq with qu:=l }:=by
 have sep:=h.sep;have j:({ rq with qu:=l }:D4).ok:=⟨h.ok.m1,h.ok.m4,h.ok.sl,h.ok.gl,m,fun v d=>by
  unfold D4.all at d;rw[Aas] at d;rcases d with d | d
  ·exact h.ok.inn v (by unfold D4.all; rw[Aas]; exact .inl d)
  ·exact hi v d⟩;refine ⟨.cells [.slice q.ss.1 q.ss.2.1 q.ss.2.2,.slice q.s2.1 q.s2.2.1 q.s2.2.2,.slice s'.1 s'.2.1 s'.2.2] BQ true,by simp[CY,h.cell], ?_⟩;have g:∀ x,x≠q.qb -> ∀ c,(J.set q.qb c)[x]?=J[x]?:=fun x i c=>Aar i.symm;refine ⟨Aa2 (Af h.cell),h.ss.Ax fun a k=>g _ (sep.a0 _ (BV.2 ⟨a,k,rfl⟩)).1 _,h.n,fun x i=>(h.inn x i).Ax fun b hb=>g _ (sep.a1 _ (q.mi i hb)).1 _,h.gl.Ax fun b hb=>g _ (sep.a2 _ hb).1 _,li.Ax fun b hb=>g _ (fun e=>f b hb (by rw[e]; exact QI.mem.2 (.inl rfl))) _,j,⟨fun b hb=>⟨(sep.a0 b hb).1,(sep.a0 b hb).2.1,(sep.a0 b hb).2.2.1,fun hm=>f b hm (QI.mem.2 (.inr (.inl hb)))⟩,fun b hb=>⟨(sep.a1 b hb).1,(sep.a1 b hb).2.1,fun hm=>f b hm (QI.mem.2 (.inr (.inr (.inl hb))))⟩,fun b hb=>⟨(sep.a2 b hb).1,fun hm=>f b hm (QI.mem.2 (.inr (.inr (.inr (.inl hb)))))⟩,fun b hb e=>f b hb (by rw[e]; exact QI.mem.2 (.inl rfl)),sep.nd⟩⟩
theorem Ru (k:Nat) (T:5000<=k) (h:Hg J p r):∃ τ q,BW (k+7) (F8 p) J=some (qVi (GS q),J++τ)/\F7 (J++τ) q r /\ ∀ b ∈ q.l,J.length<=b:=by
 have a:=h.ok;have f:=h.lt;obtain ⟨e,d,w,g,m⟩:=vz (k+4) (by omega) a.m1 a.m4 J;have w:Iw (k+6) (r.mu:Int) J=_:=w;have h1:=h.app e;have em:Cj (k+6) (F8 p) J=_:=Zb (k+4) h;obtain ⟨s2,t,x,l,S⟩:=tZ (k+4) h1;have x:Gb (k+6) (F8 p) (J++e)=_:=x;have f2:=l.form;obtain ⟨s3,H,y,F,K⟩:=j8 (k+5) l (by have:=a.qu; omega);have y:Ho (k+6) (s2.1,s2.2.1,s2.2.2) (J++e++t)=_:=y;have E:F7 (J++e++t++H) d ⟨r.mu,List.replicate (16*r.mu) 0,List.replicate 16 0,[]⟩:=(g.app t).app H;have D:∀ b ∈ d.l,b<(J++e).length:=g.lt;obtain ⟨c,es,i⟩:=E.Ab4 F.li a.qu (fun v O=>a.inn v (by unfold D4.all; rw[Aas]; exact .inr O)) (fun b hb hm=>by
  have h1:=K b hb;have C:=D b hm;rw[Aaw] at h1;omega);generalize L:(J++e++t++H).set d.qb c=Z at *;have G:J.length<=d.qb:=m _ (QI.mem.2 (.inl rfl));have low:∀ b,b<J.length->Z[b]?=J[b]?:=fun b hb=>by
  rw[<- L,Aar (by omega),Aaq,Aaq,AT hb]
 have U:J.length<=Z.length:=by rw[<- L]; simp
 have C:Hg Z p r:=h.Ax fun b hb=>low b (f b hb);obtain ⟨u,o,A,pl,N⟩:=rk k (by omega) C;have A:Fw (k+6) (F8 p) Z=_:=A;have n:∀ b ∈ ({ d with s3:=s3 }:QI).l,J.length<=b/\b<Z.length:=fun b hb=>by
  refine ⟨?_,i.lt b hb⟩;rcases QI.mem.1 hb with rfl | hb | hb | hb | hb
  ·exact G
  ·exact m b (QI.mem.2 (.inr (.inl hb)))
  ·exact m b (QI.mem.2 (.inr (.inr (.inl hb))))
  ·exact m b (QI.mem.2 (.inr (.inr (.inr (.inl hb)))))
  ·have:=K b hb; simp at this; omega
 have I:o.2.1=(EN r).length/\o.2.2=(EN r).length:=by
  have:=Ct.form pl;constructor <;> rw[this]
 obtain ⟨J5_,B,j,M⟩:=Ss (k+2) (q:={ d with s3:=s3 }) (s:=o) (ps:=EN r) (fun z P=>Se a P) (by have:=PY a; omega) (fun b hb=>⟨fun hm=>by have:=f b hm; have:=(n b hb).1; omega,fun hm=>by have:=N b hm; have:=(n b hb).2; omega⟩) (EN r).length 0 (k+6) (Z++u) _ (C.app u) (i.app u) pl rfl rfl (by omega) (by have:=PY a; omega);have B:Ed (k+6) (k+6) (F8 p) (GS d) o.1 (EN r).length (EN r).length 0 (Z++u)=_:=B;rw[Adf,ti a] at j;obtain ⟨τ,Q⟩:∃ τ,J5_=J++τ:=GC (by have:=M.len; rw[Aaw] at this; omega) fun b hb=>by
  rw[M.same b (by rw[Aaw]; omega) (fun hm=>by have:=(n b hm).1; omega),AT (by omega),low b hb]
 subst Q;refine ⟨τ,{ d with s3:=s3 }, ?_,j,fun b hb=>(n b hb).1⟩;rw[TD];simp only[em,AI,Ah,w,LK,Abx,By,x,Eo,y,IN,es,A,I.1,I.2,B,Aat]
end
section
local instance qKE:AJ:=Ao
variable {J:Aa} {p:PI} {r:D4} {q:QI}
def NW (r:D4):List (Int × Nat × Nat):=(List.range' 0 (16*r.mu)).map (Ei 0)++(List.range' 0 16).map (Ei 1)++(List.range' 0 r.qu.length).map (Ei 2)
theorem UG {r:D4} {kk:Int}:∀ (l:List Int) (x:Nat),(∀ y,y<l.length->CH r (Ei kk (x+y))=l.getD y 0)->((List.range' x l.length).map (Ei kk)).filter (fun z=>decide (CH r z≠0))=Qy kk l x
 | [],_,_=>rfl
 | v::l,x,h=>by
   have h0:=h 0 (by simp);rw[Aa0] at h0;have h0:CH r (Ei kk x)=v:=h0;have c:=UG l (x+1) fun y b=>by
    have:=h (y+1) (by simpa using b);rw[show x+1+y=x+(y+1) from by omega,this]; rfl
   rw[Adl,Af8,Aek,Ae0,Qy,h0,c];by_cases a:v=0
   ·rw[Aaz (by simp[a]),Aay a]; rfl
   ·rw[Aay (by simp[a]),Aaz a]; rfl
theorem Abp {r:D4} (y:Nat):CH r (Ei 0 y)=r.sl.getD y 0:=by
 have a:16*(y/16)+y % 16=y:=Ag0 y 16;unfold CH Ei; simp only[Aat,a]
theorem iE (h:r.ok):(NW r).filter (fun z=>decide (CH r z≠0))=EN r:=by
 have h0:=UG (r:=r) (kk:=0) r.sl 0 fun y _=>by rw[IN]; exact Abp y
 have h1:=UG (r:=r) (kk:=1) r.gl 0 fun y _=>by rw[IN]; rfl
 have a:=UG (r:=r) (kk:=2) r.qu 0 fun y _=>by rw[IN]; rfl
 rw[h.sl] at h0;rw[h.gl] at h1;unfold NW EN;rw[Afv,Afv,h0,h1,a]
theorem rz (out:List Int):JN out 0=out:=by unfold JN; rw[Aay (.inl rfl)]
theorem UJ {r:D4} {kk:Int}:∀ (l:List Int) (x:Nat) (out:List Int),(∀ y,y<l.length->CH r (Ei kk (x+y))=l.getD y 0)->((Qy kk l x).map (CH r)).foldl JN out=l.foldl JN out
 | [],_,_,_=>rfl
 | v::l,x,out,h=>by
   have h0:=h 0 (by simp);rw[Aa0] at h0;have h0:CH r (Ei kk x)=v:=h0;have c:=fun out=>UJ l (x+1) out fun y b=>by
    have:=h (y+1) (by simpa using b);rw[show x+1+y=x+(y+1) from by omega,this]; rfl
   rw[Qy,Ae7,Af1,Aef,c];by_cases a:v=0
   ·rw[Aay a,a,rz]; rfl
   ·rw[Aaz a,Aek,List.map_nil,Aef,Ahv,h0]
theorem Xo (r:D4):((EN r).map (CH r)).foldl JN []=AW r:=by
 unfold EN AW D4.all;rw[Ae7,Ae7,Af1,Af1,Af1,Af1];rw[UJ r.sl 0 [] fun y _=>by rw[IN]; exact Abp y];rw[UJ r.gl 0 _ fun y _=>by rw[IN]; rfl];rw[UJ r.qu 0 _ fun y _=>by rw[IN]; rfl]
theorem uG (h:r.ok) {z:Int × Nat × Nat} (a:z ∈ NW r):Oq r z.1 z.2.1 z.2.2:=by
 unfold NW at a;rw[Aas,Aas] at a;rcases a with (a | a) | a
 ·obtain ⟨y,b,rfl⟩:=Aeb.1 a;have:=(Agh.1 b).2;exact .inl ⟨rfl,by simp only[Ei,Aat]; omega,by simp only[Ei,Aat]; omega⟩
 ·obtain ⟨y,b,rfl⟩:=Aeb.1 a;have:=(Agh.1 b).2;exact .inr (.inl ⟨rfl,rfl,by simp[Ei]; omega⟩)
 ·obtain ⟨y,b,rfl⟩:=Aeb.1 a;have:=(Agh.1 b).2;exact .inr (.inr ⟨rfl,rfl,by simp[Ei]; omega⟩)
theorem rS (h:r.ok):(NW r).length<=144:=by
 have:=h.m4;have:=h.qu;unfold NW;simp;omega
theorem YV (k:Nat) {mt:Nat} (hm:mt<1000):∀ (n x f:Nat) (J:Aa) (s:Bx) (out:List (Int × Nat × Nat)),BR J s out->out.length+n<=1000->x+n=16->n<f ->
  ∃ s' J',Eu k f (mt:Int) (s.1,s.2.1,s.2.2) (x:Int) J=some (.exit 2,[.slice s'.1 s'.2.1 s'.2.2],J')/\BR J' s' (out++(List.range' (16*mt+x) n).map (Ei 0))/\Mv (hs s) (hs s') J J'
 | n,x,0,J,s,out,h,c,d,b=>by omega
 | 0,x,f+1,J,s,out,h,c,d,b=>by
   rw[Lb];simp only[Aaj (show ¬ (x:Int)<16 by omega),By];exact ⟨s,J,rfl,by simpa using h,Mv.refl _ _⟩
 | n+1,x,f+1,J,s,out,h,c,d,b=>by
   have l:=wSu x (by omega);obtain ⟨s1,J1_,e,h1,i⟩:=BR.push h (0,mt,x) Am (by omega);obtain ⟨s2,J2_,g,a,j⟩:=YV k hm n (x+1) f J1_ s1 _ h1 (by simp; omega) (by omega) (by omega);have hp:Ei 0 (16*mt+x)=(0,mt,x):=by
    unfold Ei;simp only[Aat];rw[show (16*mt+x)/16=mt from by omega,show (16*mt+x) % 16=x from by omega]
   rw[Lb];simp only[Aak (show (x:Int)<16 by omega),IS,Ae,e,AI,l,g];refine ⟨s2,J2_,rfl, ?_,i.trans j⟩;rw[Af8,Aek,hp];rw[Aaq] at a;exact a
theorem YU (k:Nat) (p:20<=k):∀ (n x f:Nat) (J:Aa) (s:Bx) (out:List (Int × Nat × Nat)),F7 J q r->BR J s out->(∀ b ∈ hs s,b ∉ q.l)->out.length+16*n<=900->x+n=r.mu->n<f ->
  ∃ s' J',Et k f (GS q) (s.1,s.2.1,s.2.2) (x:Int) J=some (.exit 0,[.slice s'.1 s'.2.1 s'.2.2],J')/\BR J' s' (out++(List.range' (16*x) (16*n)).map (Ei 0))/\Mv (hs s) (hs s') J J'
 | n,x,0,J,s,out,a,h,hd,j,l,g=>by omega
 | 0,x,f+1,J,s,out,a,h,hd,j,l,g=>by
   rw[La];simp only[IN,Aa0,a.H7,AI,dFu x r.mu (by omega),By];exact ⟨s,J,rfl,by simpa using h,Mv.refl _ _⟩
 | n+1,x,f+1,J,s,out,a,h,hd,j,l,g=>by
   have t:=a.ok.m4;have v:=wSu x (by omega);obtain ⟨s1,J1_,e,h1,d⟩:=YV k (mt:=x) (by omega) 16 0 k J s out h (by omega) (by omega) (by omega);rw[show ((0:Nat):Int)=0 from rfl] at e;have c:F7 J1_ q r:=a.Ax fun b hb=>d.same b (a.lt b hb) fun hm=>hd b hm hb;obtain ⟨s2,J2_,m,o,u⟩:=YU k p n (x+1) f J1_ s1 _ c h1 (fun b hb hm=>by
    rcases d.new b hb with i | i
    ·exact hd b i hm
    ·have:=a.lt b hm; omega) (by simp; omega) (by omega) (by omega);rw[La];simp only[IN,Aa0,a.H7,AI,dTu x r.mu (by omega),IS,e,Aat,Rp,v,m];refine ⟨s2,J2_,rfl, ?_,d.trans u⟩;have:List.range' (16*x) (16*(n+1))=List.range' (16*x+0) 16++List.range' (16*(x+1)) (16*n):=by
    rw[show 16*(n+1)=16+16*n from by omega,<- List.range'_append_1];rfl
   rw[this,Ae7,<- Aaq];exact o
theorem YW (k:Nat):∀ (n x f:Nat) (J:Aa) (s:Bx) (out:List (Int × Nat × Nat)),BR J s out->out.length+n<=1000->x+n=16->n<f ->
  ∃ s' J',Ew k f (s.1,s.2.1,s.2.2) (x:Int) J=some (.exit 4,[.slice s'.1 s'.2.1 s'.2.2],J')/\BR J' s' (out++(List.range' x n).map (Ei 1))/\Mv (hs s) (hs s') J J'
 | n,x,0,J,s,out,h,d,e,c=>by omega
 | 0,x,f+1,J,s,out,h,d,e,c=>by
   rw[Lc];simp only[Aaj (show ¬ (x:Int)<16 by omega),By];exact ⟨s,J,rfl,by simpa using h,Mv.refl _ _⟩
 | n+1,x,f+1,J,s,out,h,d,e,c=>by
   have l:=wSu x (by omega);obtain ⟨s1,J1_,a,h1,i⟩:=BR.push h (1,0,x) Am (by omega);rw[show ((0:Nat):Int)=0 from rfl] at a;obtain ⟨s2,J2_,g,b,j⟩:=YW k n (x+1) f J1_ s1 _ h1 (by simp; omega) (by omega) (by omega);rw[Lc];simp only[Aak (show (x:Int)<16 by omega),IS,Ae,a,AI,l,g];refine ⟨s2,J2_,rfl, ?_,i.trans j⟩;rw[Af8,Aek];rw[Aaq] at b;exact b
theorem YX (k:Nat):∀ (n x f:Nat) (J:Aa) (s:Bx) (out:List (Int × Nat × Nat)),F7 J q r->BR J s out->(∀ b ∈ hs s,b ∉ q.l)->out.length+n<=1000->x+n=r.qu.length->n<f ->
  ∃ s' J',Ex k f (GS q) (s.1,s.2.1,s.2.2) (x:Int) J=some (.exit 6,[.slice s'.1 s'.2.1 s'.2.2],J')/\BR J' s' (out++(List.range' x n).map (Ei 2))/\Mv (hs s) (hs s') J J'
 | n,x,0,J,s,out,a,h,hd,l,m,i=>by omega
 | 0,x,f+1,J,s,out,a,h,hd,l,m,i=>by
   rw[Ld];simp only[IN,Aa0,a.UL,AI,dFu x r.qu.length (by omega),By];exact ⟨s,J,rfl,by simpa using h,Mv.refl _ _⟩
 | n+1,x,f+1,J,s,out,a,h,hd,l,m,i=>by
   have p:=a.ok.qu;have u:=wSu x (by omega);obtain ⟨s1,J1_,e,h1,d⟩:=BR.push h (2,0,x) Am (by omega);rw[show ((0:Nat):Int)=0 from rfl] at e;have c:F7 J1_ q r:=a.Ax fun b hb=>d.same b (a.lt b hb) fun hm=>hd b hm hb;obtain ⟨s2,J2_,o,g,t⟩:=YX k n (x+1) f J1_ s1 _ c h1 (fun b hb hm=>by
    rcases d.new b hb with j | j
    ·exact hd b j hm
    ·have:=a.lt b hm; omega) (by simp; omega) (by omega) (by omega);rw[Ld];simp only[IN,Aa0,a.UL,AI,dTu x r.qu.length (by omega),IS,Ae,e,u,o];refine ⟨s2,J2_,rfl, ?_,d.trans t⟩;rw[Af8,Aek];rw[Aaq] at g;exact g
theorem tH (k:Nat) (x:200<=k) (h:F7 J q r):∃ s τ,Hj (k+1) (GS q) J=some (.slice s.1 s.2.1 s.2.2,J++τ)/\BR (J++τ) s (NW r) /\ ∀ b ∈ hs s,J.length<=b:=by
 have c:=h.ok;have n:=c.m4;have o:=c.qu;obtain ⟨k,rfl⟩:∃ p,k=p+1:=⟨k-1,by omega⟩;obtain ⟨s1,J1_,f,h1,t⟩:=YU (k+1) (by omega) r.mu 0 (k+1) J (none,0,0) [] h (BR.nil J) (fun b hb=>by simp[hs] at hb) (by simp; omega) (by omega) (by omega);obtain ⟨s2,J2_,g,j,u⟩:=YW (k+1) 16 0 (k+1) J1_ s1 _ h1 (by simp; omega) (by omega) (by omega);have a:=t.trans u;have e:F7 J2_ q r:=h.Ax fun b hb=>a.same b (h.lt b hb) (by simp[hs]);obtain ⟨w,J3_,i,l,v⟩:=YX (k+1) r.qu.length 0 (k+1) J2_ s2 _ e j (fun b hb hm=>by
  rcases a.new b hb with d | d
  ·simp[hs] at d
  ·have:=h.lt b hm; omega) (by simp; omega) (by omega) (by omega);have m:=a.trans v;obtain ⟨τ,rfl⟩:=GC m.len fun b hb=>m.same b hb (by simp[hs]);rw[show ((0:Nat):Int)=0 from rfl] at f g i;refine ⟨w,τ, ?_,by simpa [NW] using l,fun b hb=>(m.new b hb).elim (fun d=>by simp[hs] at d) id⟩;rw[RE];simp only[NN k h,AI,An,Aa4,By,f,Aat,Rp,g,i]
theorem iU (k:Nat) (h:F7 J q r) {z:Int × Nat × Nat} (hp:Oq r z.1 z.2.1 z.2.2):DN (k+1) (GS q) z.1 (z.2.1:Int) (z.2.2:Int) J=some (qIi (CH r z),J++[Au.cells [qIi z.1,qIi (z.2.1:Int),qIi (z.2.2:Int)] Am true]):=by
 have n:=h.ok.sl;have p:=h.ok.gl;obtain ⟨o,mt,a⟩:=z;have hp:Oq r o mt a:=hp;have d:=h.app [Au.cells [qIi o,qIi (mt:Int),qIi (a:Int)] Am true];rw[TQ];simp only[Ae,IN,Bv,Aca,Ace,AI,Ah];unfold CH;rcases hp with ⟨rfl,hm,hi⟩ | ⟨rfl,rfl,hi⟩ | ⟨rfl,rfl,hi⟩
 ·have e:mt<q.sl.length:=by rw[h.n]; exact hm
  obtain ⟨c,eq,s⟩:=d.Abr e;have f:=(h.inn mt e).form;have m:=XT n hm;have f1:q.sl[mt].2.1=16:=by rw[f]; exact m
  obtain ⟨b,i,g,_⟩:=(d.inn mt e).ld (x:=a) (by omega);have l:(chunk r.sl mt).getD a 0=r.sl.getD (16*mt+a) 0:=by
   unfold chunk;rw[Aax,Aax,Ad2,Aay hi,Ad0]
  rw[l] at g;have t:=qSu mt r.mu (by omega);have j:=qSu a 16 (by omega);simp only[show ((0:Int) == 0)=true from rfl,IS,d.H7,AI,t,Aat,eq,IT,Acg,IN,s,f1,j,i,g]
 ·obtain ⟨b,i,g,_⟩:=d.gl.ld (x:=a) (by omega);have j:=qSu a r.gl.length (by omega);simp only[show ((1:Int) == 0)=false from rfl,By,show ((1:Int) == 1)=true from rfl,IS,d.Fa,AI,j,Aat,i,IT,Acg,IN,g,show ((1:Int)=0)=False from by simp,Aa5]
 ·obtain ⟨b,i,g,_⟩:=d.qu.ld (x:=a) (by omega);have j:=qSu a r.qu.length (by omega);simp only[show ((2:Int) == 0)=false from rfl,By,show ((2:Int) == 1)=false from rfl,d.UL,AI,j,Aat,i,IT,Acg,IN,g,show ((2:Int)=0)=False from by simp,show ((2:Int)=1)=False from by simp,Aa5]
theorem Rt (k:Nat) {sl:Bx} {ps:List (Int × Nat × Nat)} (w:∀ z ∈ ps,Oq r z.1 z.2.1 z.2.2) (m:ps.length<=500):∀ (n x f:Nat) (J:Aa) (s:Bx) (out:List (Int × Nat × Nat)),F7 J q r->BR J sl ps->BR J s out->(∀ b ∈ hs s,b ∉ q.l/\b ∉ hs sl)->out.length+n<=900->x+n=ps.length->n<f ->
  ∃ s' J',Ea (k+1) f (GS q) sl.1 ps.length ps.length (s.1,s.2.1,s.2.2) (x:Int) J=some (.exit 0,[.slice s'.1 s'.2.1 s'.2.2],J')/\BR J' s' (out++(ps.drop x).filter (fun z=>decide (CH r z≠0)))/\Mv (hs s) (hs s') J J'
 | n,x,0,J,s,out,p,hp,h,hd,F,G,D=>by omega
 | 0,x,f+1,J,s,out,p,hp,h,hd,F,G,D=>by
   rw[K9];simp only[dFu x ps.length (by omega),By];rw[Ade (by omega)];exact ⟨s,J,rfl,by simpa using h,Mv.refl _ _⟩
 | n+1,x,f+1,J,s,out,p,hp,h,hd,F,G,D=>by
   have j:x<ps.length:=by omega
   have S:=qSu x ps.length (by omega);have M:=wSu x (by omega);obtain ⟨b,e,I,K,L,hb⟩:=BR.ld hp j;have W:=w _ (Adb j);have i:ps.drop x=ps[x]::ps.drop (x+1):=Ac2 j;rw[i];generalize ps[x]=z at *;obtain ⟨B,P⟩:∃ B,Au.cells [qIi z.1,qIi (z.2.1:Int),qIi (z.2.2:Int)] Am true=B:=⟨_,rfl⟩;have C:=iU k p W;rw[P] at C;have g:=p.app [B];have d:=BR.app hp [B];have h1:=BR.app h [B];have T:Aj .i64 (J++[B]) b (x*3)=some z.1:=by rw[HP _ _ _ hb]; exact I
   have U:Aj .i64 (J++[B]) b (x*3+1)=some (z.2.1:Int):=by rw[HP _ _ _ hb]; exact K
   have V:Aj .i64 (J++[B]) b (x*3+2)=some (z.2.2:Int):=by rw[HP _ _ _ hb]; exact L
   rw[K9];simp only[dTu x ps.length (by omega),IS,S,Aat,e,AI,IT,IN,Ad3,Nat.reduceAdd,I,K,L,C,Ah];by_cases t:CH r z=0
   ·obtain ⟨s2,J2_,l,o,A⟩:=Rt k w m n (x+1) f (J++[B]) s out g d h1 hd (by omega) (by omega) (by omega);rw[e] at l;rw[Ae0,Aaz (by simp[t])];simp only[show (CH r z != 0)=false from by rw[t]; rfl,By,AI,Aat,Rp,M,l];exact ⟨s2,J2_,rfl,o,(Mv.app _ _ _).trans A⟩
   ·obtain ⟨s1,J1_,N,O,y⟩:=BR.push h1 z Am (by omega);have H:∀ c,c<(J++[B]).length->c ∉ hs s->J1_[c]?=(J++[B])[c]?:=fun c a Q=>y.same c a Q;have v:F7 J1_ q r:=g.Ax fun c a=>H c (g.lt c a) fun hm=>(hd c hm).1 a;have u:BR J1_ sl ps:=BR.Ax d fun c a=>H c (BR.lt d c a) fun hm=>(hd c hm).2 a;obtain ⟨s2,J2_,l,o,A⟩:=Rt k w m n (x+1) f J1_ s1 _ v u O (fun c a=>by
     rcases y.new c a with E | E
     ·exact hd c E
     ·exact ⟨fun hm=>by have:=g.lt c hm; omega,fun hm=>by have:=BR.lt d c hm; omega⟩) (by simp; omega) (by omega) (by omega);rw[e] at l;rw[Ae0,Aay (by simp[t])];simp only[show (CH r z != 0)=true from Adz.2 t,IS,T,U,V,AI,Ae,N,Aat,Rp,M,l];rw[Aaq] at o;exact ⟨s2,J2_,rfl,o,((Mv.app _ _ _).trans y).trans A⟩
theorem aU (k:Nat) (n:600<=k) (h:F7 J q r):∃ s τ,Dq (k+2) (GS q) J=some (.slice s.1 s.2.1 s.2.2,J++τ)/\BR (J++τ) s (EN r) /\ ∀ b ∈ hs s,J.length<=b:=by
 obtain ⟨s1,a,g,e,o⟩:=tH k (by omega) h;have d:=Ct.form e;have f1:s1.2.1=(NW r).length:=by rw[d]
 have f2:s1.2.2=(NW r).length:=by rw[d]
 have hle:=rS h.ok;obtain ⟨s2,J2_,c,f,l⟩:=Rt k (sl:=s1) (ps:=NW r) (fun z j=>uG h.ok j) (by omega) (NW r).length 0 (k+1) (J++a) (none,0,0) [] (h.app a) e (BR.nil _) (fun b hb=>by simp[hs] at hb) (by simp; omega) (by omega) (by omega);rw[Adf,Ae5,iE h.ok] at f;have m:=(Mv.app [] J a).trans l;obtain ⟨τ,rfl⟩:=GC m.len fun b hb=>m.same b hb (by simp);rw[show ((0:Nat):Int)=0 from rfl] at c;refine ⟨s2,τ, ?_,f,fun b hb=>(m.new b hb).elim (fun i=>by simp at i) id⟩;rw[QJ];simp only[g,AI,Eo,f1,f2,c,Aat,Rp]
theorem Za (k:Nat) {s:Bx} {l:List Int} (h:Bf J s l) (g:l.length<=1000000) (v:Int):∀ (n x f:Nat) (fd:Bool),x+n=l.length->n<f ->
  Ez k f s.1 l.length l.length v fd (x:Int) J=some (.exit 2,[.bool (fd || decide (v ∈ l.drop x))],J)
 | n,x,0,fd,d,c=>by omega
 | 0,x,f+1,fd,d,c=>by
   rw[Lf];simp only[dFu x l.length (by omega),By];rw[Ade (by omega)];simp
 | n+1,x,f+1,fd,d,c=>by
   obtain ⟨b,e,i,_⟩:=h.ld (x:=x) (by omega);have j:=qSu x l.length (by omega);have m:=wSu x (by omega);have a:=fun fd=>Za k h g v n (x+1) f fd (by omega) (by omega);rw[e] at a;rw[KX (l:=l) (x:=x) (by omega)];rw[Lf];simp only[dTu x l.length (by omega),IS,j,Aat,e,AI,IT,Acg,IN,i,m];cases fd with
   | true=>
     simp only[IS,AI,a,Ag4]
   | false=>
     simp only[By,AI,a,Ahc];have:(l.getD x 0 == v || decide (v ∈ l.drop (x+1)))=decide (v ∈ l.getD x 0::l.drop (x+1)):=by
      rw[Ahj];simp only[Afh,Aei,Ad4,Acd];exact ⟨fun h=>h.imp Eq.symm id,fun h=>h.imp Eq.symm id⟩
     rw[this]
theorem To (k:Nat) (I:1000<k) {sl:Bx} {ps:List (Int × Nat × Nat)} (C:∀ z ∈ ps,Oq r z.1 z.2.1 z.2.2/\CH r z≠0) (o:ps.length<=500):∀ (n x f:Nat) (J:Aa) (s:Bx) (out:List Int),F7 J q r->BR J sl ps->Bf J s out->(∀ b ∈ hs s,b ∉ q.l/\b ∉ hs sl)->out.length+n<=900->x+n=ps.length->n<f ->
  ∃ s' J',Ey (k+1) f (GS q) sl.1 ps.length ps.length (s.1,s.2.1,s.2.2) (x:Int) J=some (.exit 0,[.slice s'.1 s'.2.1 s'.2.2],J')/\Bf J' s' (((ps.drop x).map (CH r)).foldl JN out)/\Mv (hs s) (hs s') J J'
 | n,x,0,J,s,out,t,hp,h,hd,K,L,H=>by omega
 | 0,x,f+1,J,s,out,t,hp,h,hd,K,L,H=>by
   rw[Le];simp only[dFu x ps.length (by omega),By];rw[Ade (by omega)];exact ⟨s,J,rfl,by simpa using h,Mv.refl _ _⟩
 | n+1,x,f+1,J,s,out,t,hp,h,hd,K,L,H=>by
   have j:x<ps.length:=by omega
   have V:=qSu x ps.length (by omega);have N:=wSu x (by omega);obtain ⟨b,e,S,T,U,hb⟩:=BR.ld hp j;obtain ⟨W,X⟩:=C _ (Adb j);have i:ps.drop x=ps[x]::ps.drop (x+1):=Ac2 j;rw[i];generalize ps[x]=z at *;obtain ⟨B,P⟩:∃ B,Au.cells [qIi z.1,qIi (z.2.1:Int),qIi (z.2.2:Int)] Am true=B:=⟨_,rfl⟩;have G:=iU k t W;rw[P] at G;have g:=t.app [B];have d:=BR.app hp [B];have h1:=h.app [B];have m:=h.form;have f1:s.2.1=out.length:=by rw[m]
   have f2:s.2.2=out.length:=by rw[m]
   have el:=Za (k+1) h1 (by omega) (CH r z) out.length 0 (k+1) false (by omega) (by omega);rw[show ((0:Nat):Int)=0 from rfl,Adf,Ahc] at el;rw[Aek,Aef];rw[Le];simp only[dTu x ps.length (by omega),IS,V,Aat,e,AI,IT,IN,Ad3,Nat.reduceAdd,S,T,U,G,Ah,f1,f2,el,oT];by_cases u:CH r z ∈ out
   ·have v:JN out (CH r z)=out:=by unfold JN; rw[Aay (.inr u)]
    rw[v];obtain ⟨s2,J2_,l,w,E⟩:=To k I C o n (x+1) f (J++[B]) s out g d h1 hd (by omega) (by omega) (by omega);rw[e,f1,f2] at l;simp only[Aak u,Aa4,By,AI,Aat,Rp,N,l];exact ⟨s2,J2_,rfl,w,(Mv.app _ _ _).trans E⟩
   ·have v:JN out (CH r z)=out++[CH r z]:=by unfold JN; rw[Aaz fun p=>p.elim X u]
    rw[v];obtain ⟨s1,J1_,F,O,D⟩:=h1.push (CH r z) Ak (by omega);rw[f1,f2] at F;have M:∀ c,c<(J++[B]).length->c ∉ hs s->J1_[c]?=(J++[B])[c]?:=fun c a Q=>D.same c a Q;have A:F7 J1_ q r:=g.Ax fun c a=>M c (g.lt c a) fun hm=>(hd c hm).1 a;have y:BR J1_ sl ps:=BR.Ax d fun c a=>M c (BR.lt d c a) fun hm=>(hd c hm).2 a;obtain ⟨s2,J2_,l,w,E⟩:=To k I C o n (x+1) f J1_ s1 _ A y O (fun c a=>by
     rcases D.new c a with p | p
     ·exact hd c p
     ·exact ⟨fun hm=>by have:=g.lt c hm; omega,fun hm=>by have:=BR.lt d c hm; omega⟩) (by simp; omega) (by omega) (by omega);rw[e] at l;simp only[Aaj u,Adi,IS,AI,Ae,F,Aat,Rp,N,l];exact ⟨s2,J2_,rfl,w,((Mv.app _ _ _).trans D).trans E⟩
theorem XN (k:Nat) (n:1000<k) (h:F7 J q r):∃ s τ,BO (k+3) (GS q) J=some (.slice s.1 s.2.1 s.2.2,J++τ)/\Bf (J++τ) s (AW r) /\ ∀ b ∈ hs s,J.length<=b:=by
 obtain ⟨s1,a,i,e,o⟩:=aU k (by omega) h;have d:=Ct.form e;have f1:s1.2.1=(EN r).length:=by rw[d]
 have f2:s1.2.2=(EN r).length:=by rw[d]
 have hle:=PY h.ok;obtain ⟨s2,J2_,c,f,l⟩:=To (k+1) (by omega) (sl:=s1) (ps:=EN r) (fun z g=>⟨(Se h.ok g).1,by have:=(Se h.ok g).2.2; omega⟩) (by omega) (EN r).length 0 (k+2) (J++a) (none,0,0) [] (h.app a) e (Bf.nil _) (fun b hb=>by simp[hs] at hb) (by simp; omega) (by omega) (by omega);rw[Adf,Xo] at f;have m:=(Mv.app [] J a).trans l;obtain ⟨τ,rfl⟩:=GC m.len fun b hb=>m.same b hb (by simp);rw[show ((0:Nat):Int)=0 from rfl] at c;refine ⟨s2,τ, ?_,f,fun b hb=>(m.new b hb).elim (fun j=>by simp at j) id⟩;rw[RF];simp only[i,AI,Eo,f1,f2,c,Aat,Rp]
theorem cx (m:HM):Uk (oh m)=Uk m:=rfl
theorem pW (m:HM) (a:Int):∀ (rs:List Int) (x:Nat) (out:List Int),gk (oh m) a rs x out=gk m a rs x out
 | [],_,_=>rfl
 | r::rs,x,out=>by rw[gk,gk,cx]; exact pW m a rs _ _
theorem ve (m:HM):Ov (oh m)=Ov m:=by
 funext out a;unfold Ov;simp only[pW,cx];rfl
theorem oE (m:HM) (out:List Int):KH (oh m) out=KH m out:=by unfold KH; rw[ve]
theorem Z3 (m:HM):∀ (n:Nat) (out:List Int),Ln (oh m) n out=Ln m n out
 | 0,_=>rfl
 | n+1,out=>by rw[Ln,Ln,oE,Z3 m n]
theorem W9 (m:HM) (l:List Int):NZ (oh m) l=NZ m l:=by unfold NZ; rw[Z3,cx]
def E9 (m:HM) (r:D4):List Int:=NZ m (AW r)
theorem cJ (h:r.ok):(AW r).length<=144:=by
 have key:∀ (l out:List Int),(l.foldl JN out).length<=out.length+l.length:=by
  intro l
  induction l with
  | nil=>intro out; simp
  | cons v l b=>
    intro out;rw[Aef];have h1:=b (JN out v);have a:(JN out v).length<=out.length+1:=by
     unfold JN; split
     ·omega
     ·simp
    simp only[Adl]; omega
 have h1:=key r.all [];have a:=h.sl;have c:=h.gl;have d:=h.qu;have h5:=h.m4;unfold AW;unfold D4.all at h1 ⊢;simp only[Aaw,Adx] at h1;omega
theorem wJ (k:Nat) (H:10000<=k) {m:HM} {i:Cs} {c:Nat} (C:B9 J c 0=some (AU i)) (A:B9 J c 1=some (F8 p)) (d:c<J.length) (h:Al J i m) (y:MK m) (z:Hg J p r):
  ∃ s τ,BJ (k+12) (some ⟨c,0,none⟩) J=some (.slice s.1 s.2.1 s.2.2,J++τ)/\Sr (J++τ) s (E9 m r)/\D3 m (E9 m r):=by
 obtain ⟨b,j,f,D,_⟩:=im (k+1) (by omega) h y;have f:Es (k+11) (AU i) J=_:=f;obtain ⟨e,q,g,rq,_⟩:=Ru (k+4) (by omega) (z.app b);have g:BW (k+11) (F8 p) (J++b)=_:=g;obtain ⟨v,w,l,li,_⟩:=XN (k+8) (by omega) rq;have l:BO (k+11) (GS q) (J++b++e)=_:=l;have I:=cJ z.ok;obtain ⟨E,G,t,ls⟩:=jM (k+4) (by omega) (RG.read ((D.app e).app w) y) li (by omega);have t:GJ (k+11) (Bj j) (v.1,v.2.1,v.2.2) true (J++b++e++w)=_:=t;have F:B9 (J++b) c 1=some (F8 p):=by simp only[B9,CW] at A ⊢; rw[AT d]; exact A
 have u:∀ {ρ:Type} (x:Option ρ),HH (some ⟨c,0,none⟩) J (J++b) x=x:=fun x=>PS (AT d) x;refine ⟨E,b++(e++(w++G)), ?_, ?_, ?_⟩
 ·rw[SL];simp only[IN,Aa0,C,AI,f,HR,u,F,g,l,Eo,t];simp only[Aaq]
 ·rw[<- Aaq,<- Aaq,<- Aaq];rw[W9] at ls; exact ls
 ·unfold E9 NZ;have:∀ (n:Nat) (out:List Int),D3 m out->D3 m (Ln m n out):=by
   intro n
   induction n with
   | zero=>intro out h; exact h
   | succ n B=>
     intro out h;rw[Ln];split
     ·exact h.round
     ·exact B _ h.round
  exact this _ _ (D3.fold (fun o a h=>h.inc a) _ [] (D3.nil m))
end
section
local instance qKF:AJ:=Ao
variable {J:Aa} {m:HM} {r:D4} {s:TC} {X:XI} {i:Cs} {p:PI} {q:QI}
def Nb (nb:Nat) (s:TC):Nat:=2*(32*nb-WZ nb s.ws)+s.list.length
def Lp (nb:Nat) (s:TC):Nat:=if s.ph=0 then 0 else if s.ph=2 then s.left.length+1 else Nb nb s+67
theorem xw (nb:Nat) (ws:List (BitVec 64)):WZ nb ws<=32*nb:=pC _ _
theorem oI (h:Qj m.bls.length s) (a:Int):Nb m.bls.length (Cx m s a)+(Cx m s a).list.length<=Nb m.bls.length s+s.list.length/\s.list.length<=(Cx m s a).list.length:=by
 unfold Cx;split
 ·rename_i c;obtain ⟨j,rfl,hs⟩:=AY c.1;have e:((2*j:Nat):Int).toNat/2=j:=by omega
  have b:=c.2;unfold C0 at b;rw[e] at b;have h1:=(UF h.wl hs.1 (v:=1) (by decide) (by decide)).2 b;have d:=xw m.bls.length (FB 2 s.ws j 1);unfold Nb Eh;simp only[e,Aaw,Adl,Adx];omega
 ·exact ⟨Aa1 _,Aa1 _⟩
theorem Qd (b:m.bls.length<=64):∀ (l:List Int) (s:TC),Qj m.bls.length s->s.ph≠2->Nb m.bls.length (AA m s l)+(AA m s l).list.length<=Nb m.bls.length s+s.list.length/\s.list.length<=(AA m s l).list.length
 | [],s,h,hp=>⟨Aa1 _,Aa1 _⟩
 | a::l,s,h,hp=>by
   obtain ⟨c,d⟩:=oI h a;obtain ⟨e,f⟩:=Qd b l (Cx m s a) (h.vS b hp a) (by rw[(Nr m s a).1]; exact hp);exact ⟨Adt e c,Adt d f⟩
theorem tx (k:m.bls.length<=64) (h:Qj m.bls.length s) (g:Qj (FU m r s).1.bls.length (FU m r s).2) (hp:s.ph≠0):Lp (FU m r s).1.bls.length (FU m r s).2<Lp m.bls.length s:=by
 have hu:Lp m.bls.length s=if s.ph=2 then s.left.length+1 else Nb m.bls.length s+67:=by unfold Lp; rw[Aaz hp]
 rw[hu];by_cases c:s.ph=2
 ·rw[Aay c];unfold FU;rw[Aay c];unfold GD;cases d:s.left with
  | nil=>
    simp only;have:Lp m.bls.length (PQ (32*m.bls.length) s)=0:=by unfold PQ Lp; rw[Aay d]; simp
    rw[this]; simp
  | cons b l=>
    simp only;unfold PQ;by_cases i:l=[]
    ·simp only[i,Aat];unfold Lp; simp
    ·simp only[Aaz i];unfold Lp;simp[c]
 ·rw[Aaz c];unfold FU;rw[Aaz c];by_cases d:s.list≠[]
  ·rw[Aay d];simp only;unfold Xx;cases n:s.list with
   | nil=>exact absurd n d
   | cons a l=>
     simp only;have h1:Qj m.bls.length { s with list:=l }:=⟨h.wl,by have:=h.ls; rw[n] at this; simp at this ⊢; omega,fun v C=>h.lr v (by rw[n]; exact Ab7 _ C),h.lf,h.l0,fun e=>absurd e c⟩;have G:Nb m.bls.length s=Nb m.bls.length { s with list:=l }+1:=by unfold Nb; rw[n]; simp; omega
     split
     ·rename_i A;obtain ⟨j,rfl,hs⟩:=AY A;have E:=Qd k (Dy m ((2*j:Nat):Int)) { s with list:=l } h1 c;have y:=Qj.HJ k (Dy m ((2*j:Nat):Int)) { s with list:=l } h1 c;have p:=(Dx m (Dy m ((2*j:Nat):Int)) { s with list:=l }).1;generalize AA m { s with list:=l } (Dy m ((2*j:Nat):Int))=s2 at *;have e:((2*j:Nat):Int).toNat/2=j:=by omega
      have h5:=(UF y.wl hs.1 (v:=2) (by decide) (by decide)).1;have F:Nb m.bls.length (Eh s2 ((2*j:Nat):Int) 2)<=Nb m.bls.length s2:=by unfold Nb Eh; simp only[e]; omega
      have z:(Eh s2 ((2*j:Nat):Int) 2).ph=s.ph:=p;unfold Lp;rw[z,Aaz hp,Aaz c];omega
     ·unfold Lp;rw[Aaz (show ¬ ({ s with list:=l }:TC).ph=0 from hp),Aaz (show ¬ ({ s with list:=l }:TC).ph=2 from c)];omega
  ·rw[Aaz d];have d:s.list=[]:=Af0.1 d;unfold Xm;have q:∃ s1,(if s.look then AA m s (AW r) else s)=s1/\Qj m.bls.length s1/\s1.ph=s.ph/\Nb m.bls.length s1+s1.list.length<=Nb m.bls.length s:=by
    refine ⟨_,rfl, ?_⟩;split
    ·have:=Qd k (AW r) s h c;rw[d] at this;exact ⟨Qj.HJ k _ _ h c,(Dx m _ s).1,by simpa using this.1⟩
    ·exact ⟨h,rfl,by rw[d]; simp⟩
   obtain ⟨s1,u,t1,w,H⟩:=q;simp only[u];have t:∃ s2,NI m s1=s2/\s2.ph=s.ph/\Nb m.bls.length s2+s2.list.length<=Nb m.bls.length s:=by
    refine ⟨_,rfl, ?_⟩;unfold NI;have o:s1.ph≠2:=by rw[w]; exact c
    have:=(Qd k (Qs m s1 (DW m)) s1 t1 o).1;exact ⟨((Dx m _ s1).1).trans w,by omega⟩
   obtain ⟨s2,x,D,I⟩:=t;unfold FU Xm at g;rw[Aaz c,Aaz (by rw[d]; simp)] at g;simp only[u,x] at g ⊢;by_cases f:s2.list≠[]
   ·rw[Aay f];simp only;have:0<s2.list.length:=Ae1.2 f;unfold Lp;rw[D,Aaz hp,Aaz c];omega
   ·rw[Aaz f] at g ⊢;simp only at g ⊢;have B:(s2.left++WX (Im m s2 (DW m))).length<=64:=g.lf;unfold Lp;simp only[Aat,show ((2:Int)=0)=False from by simp,Aa5];omega
theorem ib (h:Qj m.bls.length s) (a:m.bls.length<=64):Lp m.bls.length s<=7000:=by
 have:=h.len;have:=h.lf;unfold Lp Nb;split
 ·omega
 ·split <;> omega
theorem Rs (k:Nat) (j:5000<=k) (b:Nat):∀ (n x f:Nat) (J:Aa) (c:CI) (m:HM) (s:TC),Li J i p c m r s->c.cb=b->Lp m.bls.length s<=n->n<f->x+n<=30000 ->
  ∃ J' d,F4 (k+15) f (some ⟨b,0,none⟩) (x:Int) J=some (.exit 0,[qIi ((x+(Dr r n (m,s)).1:Nat):Int)],J')/\Li J' i p d (Dr r n (m,s)).2.1 r (Dr r n (m,s)).2.2/\Mv (i.l++c.l) (i.l++d.l) J J'/\d.cb=b/\(Dr r n (m,s)).2.2.ph=0
 | n,x,0,J,c,m,s,T,a,hu,h,l=>by omega
 | 0,x,f+1,J,c,m,s,T,a,hu,h,l=>by
   have d4:Aj .i64 J b 4=some s.ph:=by rw[<- a]; exact T.co.eR
   have hp:s.ph=0:=by
    apply Adv;intro hp;unfold Lp at hu;rw[Aaz hp] at hu;split at hu <;> omega
   rw[Mg];simp only[AI,IN,Aa0,d4,hp,Abx,By];exact ⟨J,c,rfl,T,Mv.refl _ _,a,hp⟩
 | n+1,x,f+1,J,c,m,s,T,a,hu,h,l=>by
   have B:=wSu x (by omega);have d4:Aj .i64 J b 4=some s.ph:=by rw[<- a]; exact T.co.eR
   rw[Mg,Dr];simp only[AI,IN,Aa0,d4];by_cases hp:s.ph=0
   ·rw[Aay hp,show (s.ph != 0)=false from by rw[hp]; rfl];simp only[By];exact ⟨J,c,rfl,T,Mv.refl _ _,a,hp⟩
   ·rw[Aaz hp,show (s.ph != 0)=true from Adz.2 hp];obtain ⟨J1_,t,v,T1,y,o⟩:=jv k j T;have g:=tx (r:=r) T.mo.nt T.tok T1.tok hp;obtain ⟨J2_,u,w,T2,z,q,A⟩:=Rs k j b n (x+1) f J1_ t (FU m r s).1 (FU m r s).2 T1 (o.trans a) (by omega) (by omega) (by omega);have e:En (k+15) (some ⟨b,0,none⟩) J=some (.tuple #[],J1_):=by rw[<- a]; exact v
    refine ⟨J2_,u, ?_,T2,y.trans z,q,A⟩;simp only[IS,e,AI,Gi,B,w];rw[show x+1+(Dr r n (FU m r s)).1=x+((Dr r n (FU m r s)).1+1) from by omega]
abbrev bS (r:D4) (q:HM × TC):HM × TC:=(Dr r 7000 q).2
theorem nu (k:Nat) (l:20000<=k) (h:OG J X m r s):XG (Bm (k+17) (Jx X) J) J X r (.tuple #[qIi ((Dr r 7000 (m,s)).1:Int),qIi 0]) (bS r (m,s))/\(bS r (m,s)).2.ph=0:=by
 have em:AO (k+15) (Dz X.c) J=_:=Kc (k+14) h.t.co;obtain ⟨J',j,e,b,m',c,i⟩:=Rs k (by omega) X.c.cb 7000 0 (k+15) J X.c m s h.t rfl (ib h.t.tok h.t.mo.nt) (by omega) (by omega);rw[show ((0:Nat):Int)=0 from rfl] at e;have f:Ha (k+16) (Dz X.c) J=some (.tuple #[qIi ((Dr r 7000 (m,s)).1:Int),qIi 0],J'):=by
  rw[NH];simp only[em,AI,An,Aa4,By,e,Aat,Em,IN]
 obtain ⟨g,a⟩:=h.turn b m' c;refine ⟨⟨J',_, ?_,g,a,rfl,rfl⟩,i⟩;rw[KA];have d:Ap (k+16) (Jx X) J=_:=h.core (k+15);simp only[d,AI,HR,f,B6]
theorem OG.su (h:OG J X m r s):B9 J X.I.sb 1=some (F8 X.I.p):=by simp[B9,CW,h.sc,HQ,HR]
theorem OG.Ac4 (h:OG J X m r s):B9 J X.I.sb 3=some (GS X.I.q):=by simp[B9,CW,h.sc,HQ,HR]
theorem OG.sbl (h:OG J X m r s):X.I.sb<J.length:=Af h.sc
theorem OG.xbl (h:OG J X m r s):X.xb<J.length:=by
 obtain ⟨_,_,_,e⟩:=h.run;exact Af e
theorem OG.vM (h:OG J X m r s) (d lo bn:Value):OG (J.set X.xb (.cells [qVi (ID X.I),qVi (Jx X),d,lo,bn] AN true)) X m r s/\Mv X.Ls.flatten X.Ls.flatten J (J.set X.xb (.cells [qVi (ID X.I),qVi (Jx X),d,lo,bn] AN true)):=by
 have j:=fun {a b:Nat} (l:a<X.Ls.length) (hb:b<X.Ls.length) (f:b≠a)=>h.fp.ne l hb f;have c:∀ y (i:y<X.Ls.length),y≠3 -> ∀ x ∈ X.Ls[y],(J.set X.xb (.cells [qVi (ID X.I),qVi (Jx X),d,lo,bn] AN true))[x]?=J[x]?:=fun y i n x g=>by
  refine Aar fun e=>?_;exact j (a:=y) (b:=3) i (by simp[XI.Ls]) (Adk n) x g (by rw[<- e]; simp[XI.Ls])
 refine ⟨⟨⟨d,lo,bn,Aa2 h.xbl⟩,(c 4 (by simp[XI.Ls]) (by decide) X.kb (by simp[XI.Ls])).trans h.col,(c 5 (by simp[XI.Ls]) (by decide) X.I.sb (by simp[XI.Ls])).trans h.sc,h.t.Ax (by simp) (c 0 (by simp[XI.Ls]) (by decide)) (c 1 (by simp[XI.Ls]) (by decide)) (c 2 (by simp[XI.Ls]) (by decide)), ?_,⟨h.fp.dj,fun L k x g=>by rw[Adj]; exact h.fp.lt L k x g⟩⟩,Mv.set _ _ (Adw.2 ⟨[X.xb],by simp[XI.Ls],by simp⟩)⟩;obtain ⟨rq,a,b⟩:=h.q;exact ⟨rq,a.Ax (c 6 (by simp[XI.Ls]) (by decide)),b⟩
theorem OG.vI {J':Aa} {k:D4} (h:OG J X m r s) (n:Hg J' X.I.p k) (hm:Mv X.I.p.l X.I.p.l J J') (i:k.mu=r.mu):OG J' X m k s/\Mv X.Ls.flatten X.Ls.flatten J J':=by
 have f:∀ y (j:y<X.Ls.length),y≠1 -> ∀ x ∈ X.Ls[y],J'[x]?=J[x]?:=fun y j l x d=>hm.same x (h.fp.lt _ (Adb j) x d) (h.fp.ne (x:=y) (y:=1) j (by simp[XI.Ls]) (Adk l) x d);refine ⟨⟨?_,(f 4 (by simp[XI.Ls]) (by decide) X.kb (by simp[XI.Ls])).trans h.col,(f 5 (by simp[XI.Ls]) (by decide) X.I.sb (by simp[XI.Ls])).trans h.sc,⟨h.t.h.Ax (f 0 (by simp[XI.Ls]) (by decide)),h.t.mo,n,h.t.co.Ax (f 2 (by simp[XI.Ls]) (by decide)),⟨h.t.fp.dj,fun L g x d=>Acp (h.t.fp.lt L g x d) hm.len⟩,h.t.tok⟩, ?_,⟨h.fp.dj,fun L g x d=>Acp (h.fp.lt L g x d) hm.len⟩⟩,hm.wide (fun x d=>Adw.2 ⟨X.I.p.l,by simp[XI.Ls],d⟩) fun x d=>.inl d⟩
 ·obtain ⟨a,b,c,e⟩:=h.run;exact ⟨a,b,c,(f 3 (by simp[XI.Ls]) (by decide) X.xb (by simp[XI.Ls])).trans e⟩
 ·obtain ⟨rq,a,b⟩:=h.q;exact ⟨rq,a.Ax (f 6 (by simp[XI.Ls]) (by decide)),b.trans i.symm⟩
theorem xi (k:Nat) (h:OG J X m r s) {n:Nat} (t:n<1000000):∃ τ,CE (k+3) (ID X.I) (n:Int) J=some (.agg #[qIi (HN r.mu n).1,qIi ((HN r.mu n).2.1:Int),qIi ((HN r.mu n).2.2:Int)],J++τ):=by
 obtain ⟨rq,i,g⟩:=h.q;have e:=i.ok.m1;have f:=i.ok.m4;have h1:=h.app [Au.cells [qIi 0,qIi 0,qIi 0] Am true];have a:Du (k+2) (GS X.I.q) (J++[Au.cells [qIi 0,qIi 0,qIi 0] Am true])=_:=Xz k (i.app _);rw[g] at a e f;have q:(if (0:Int)>(n:Int) then (0:Int) else (n:Int))=(n:Int):=Aaz (by omega);have c:(n:Int).tmod 40=((n % 40:Nat):Int):=Kx n 40;have d:∀ x y z:Value,Nm (J++[Au.cells [x,y,z] Am true]) J.length 0 3=some [x,y,z]:=fun x y z=>by simp[Nm]
 rw[MD];simp only[Ae,q,c,show ((40:Int)=0)=False from by simp,Aa5];unfold HN;by_cases j:n % 40<24
 ·rw[Aay j,Aak (show ((n % 40:Nat):Int)<24 by omega)];have o:((n % 40:Nat):Int).tmod (r.mu:Int)=((n % 40 % r.mu:Nat):Int):=Kx _ _;have p:((n % 40:Nat):Int).tdiv 4=((n % 40/4:Nat):Int):=ZA _ 4;have b:Ar ((n % 40/4:Nat):Int)=((n % 40/4:Nat):Int):=Ai (by unfold AQ; omega);refine ⟨[Au.cells [qIi 0,qIi ((n % 40 % r.mu:Nat):Int),qIi ((n % 40/4:Nat):Int)] Am true], ?_⟩;simp only[IS,AI,IN,h1.Ac4,a,Ah];rw[Aaz (by omega),Aaz (by decide)];simp only[o,p,b,EA,AI,d];rfl
 ·rw[Aaz j,Aaj (show ¬ ((n % 40:Nat):Int)<24 by omega)];by_cases l:n % 40<36
  ·rw[Aay l,Aak (show ((n % 40:Nat):Int)<36 by omega)];have b:Ar (((n % 40:Nat):Int)-24)=((n % 40-24:Nat):Int):=by rw[Ai (by unfold AQ; omega)]; omega
   refine ⟨[Au.cells [qIi 1,qIi 0,qIi ((n % 40-24:Nat):Int)] Am true], ?_⟩;simp only[IS,By,b,EA,AI,d];rfl
  ·rw[Aaz l,Aaj (show ¬ ((n % 40:Nat):Int)<36 by omega)];have b:Ar (((n % 40:Nat):Int)-36)=((n % 40-36:Nat):Int):=by rw[Ai (by unfold AQ; omega)]; omega
   refine ⟨[Au.cells [qIi 2,qIi 0,qIi ((n % 40-36:Nat):Int)] Am true], ?_⟩;simp only[By,b,EA,AI,d];rfl
def B7 (m:HM) (a:Int):Int:=if Aw m a then m.wds.getD a.toNat 0 else 0
theorem Zy (k:Nat) {sl:Bx} {l:List Int} (G:l.length<=10000) (hi:∀ v ∈ l,AQ v):∀ (n x f:Nat) (J:Aa) (o:Bx) (out:List Int),OG J X m r s->Bf J sl l->Bf J o out->(∀ b ∈ hs o,b ∉ X.Ls.flatten/\b ∉ hs sl)->out.length+n<=20000->x+n=l.length->n<f ->
  ∃ o' J',Fu (k+6) f (JL X) sl.1 l.length l.length (o.1,o.2.1,o.2.2) (x:Int) J=some (.exit 0,[.slice o'.1 o'.2.1 o'.2.2],J')/\Bf J' o' (out++(l.drop x).map (B7 m))/\Mv (hs o) (hs o') J J'
 | n,x,0,J,o,out,h,d,p,hd,hb,B,A=>by omega
 | 0,x,f+1,J,o,out,h,d,p,hd,hb,B,A=>by
   rw[LY];simp only[dFu x l.length (by omega),By];rw[Ade (by omega)];exact ⟨o,J,rfl,by simpa using p,Mv.refl _ _⟩
 | n+1,x,f+1,J,o,out,h,d,p,hd,hb,B,A=>by
   obtain ⟨b,e,I,_⟩:=d.ld (x:=x) (by omega);have i:l.getD x 0 ∈ l:=O7 (by omega);have O:=qSu x l.length (by omega);have P:=wSu x (by omega);obtain ⟨y,E⟩:∃ y,Dk (k+6) (AU X.I.i) (l.getD x 0) J=some (.tuple #[qIi (B7 m (l.getD x 0)),qIi y],J):=by
    have:=j9 k h.t.h (l.getD x 0) (hi _ i);unfold B7;cases g:Aw m (l.getD x 0) with
    | true=>rw[g] at this; exact ⟨0,by simpa using this⟩
    | false=>rw[g] at this; exact ⟨4,by simpa using this⟩
   obtain ⟨M,J1_,D,F,q⟩:=p.push (B7 m (l.getD x 0)) Ak (by omega);have C:∀ c,c<J.length->c ∉ hs o->J1_[c]?=J[c]?:=fun c a H=>q.same c a H;have h1:OG J1_ X m r s:=h.Ax q.len fun L j c a=>C c (h.fp.lt L j c a) fun hm=>(hd c hm).1 (Adw.2 ⟨L,j,a⟩);have t:Bf J1_ sl l:=d.Ax fun c a=>C c (d.lt c a) fun hm=>(hd c hm).2 a;obtain ⟨N,J2_,w,z,K⟩:=Zy k G hi n (x+1) f J1_ M _ h1 t F (fun c a=>by
    rcases q.new c a with g | g
    ·exact hd c g
    ·refine ⟨fun hm=>?_,fun hm=>by have:=d.lt c hm; omega⟩;obtain ⟨L,j,u⟩:=Adw.1 hm;have:=h.fp.lt L j c u; omega) (by simp; omega) (by omega) (by omega);rw[e] at w;rw[KX (l:=l) (x:=x) (by omega),Aek];rw[LY];simp only[dTu x l.length (by omega),IS,AI,IN,Aa0,h.H7,h.dU,O,Aat,e,IT,Acg,I,E,B6,Ae,D,P,w];rw[Aaq] at z;exact ⟨N,J2_,rfl,z,q.trans K⟩
theorem kS (k:Nat) (w:10000<k) (h:OG J X m r s) {sl:Bx} {l:List Int} (d:Bf J sl l) (t:l.length<=10000) (hi:∀ v ∈ l,AQ v):
  ∃ o τ,DM (k+7) (JL X) (sl.1,sl.2.1,sl.2.2) J=some (.slice o.1 o.2.1 o.2.2,J++τ)/\Bf (J++τ) o (l.map (B7 m)) /\ ∀ b ∈ hs o,J.length<=b:=by
 have p:=d.form;have f1:sl.2.1=l.length:=by rw[p]
 have f2:sl.2.2=l.length:=by rw[p]
 obtain ⟨B0,c⟩:∃ B0,Au.cells [] Ak true=B0:=⟨_,rfl⟩;have u:Bf (J++[B0]) (some ⟨J.length,0,some 0⟩,0,0) []:=by rw[<- c]; exact (Sr.nil J true []).li
 have a:∀ b ∈ hs ((some ⟨J.length,0,some 0⟩,0,0):Bx),b=J.length:=fun b hb=>by simpa [hs] using hb
 obtain ⟨o,J',j,n,i⟩:=Zy k t hi l.length 0 (k+6) (J++[B0]) (some ⟨J.length,0,some 0⟩,0,0) [] (h.app _) (d.app _) u (fun b hb=>by
  rw[a b hb];refine ⟨fun hm=>?_,fun hm=>by have:=d.lt _ hm; omega⟩;obtain ⟨L,q,e⟩:=Adw.1 hm;have:=h.fp.lt L q _ e; omega) (by simp; omega) (by omega) (by omega);have g:J.length<=J'.length:=by have:=i.len; rw[Aaw] at this; omega
 obtain ⟨τ,rfl⟩:=GC (J:=J) (J':=J') g fun b hb=>by
  rw[i.same b (by rw[Aaw]; omega) (fun hm=>by have:=a b hm; omega),AT hb]
 rw[show ((0:Nat):Int)=0 from rfl] at j;rw[Ae5,Adf] at n;refine ⟨o,τ, ?_,n,fun b hb=>?_⟩
 ·rw[TH];simp only[Ae,c,f1,f2,j,AI,Aat,Rp]
 ·rcases i.new b hb with f | f
  ·rw[a b f]; exact Aa1 _
  ·rw[Aaw] at f; omega
theorem vj (b:m.bls.length<=64) {l:List Int} (h:D3 m l):∀ v ∈ l,AQ v/\0<=v/\v<4096:=by
 intro v a;obtain ⟨j,rfl,hs⟩:=AY (h.ob v a);have:=hs.1;unfold AQ; omega
theorem Xl (k:Nat) (a:10000<=k) (h:OG J X m r s):∃ o τ,BJ (k+12) (ID X.I) J=some (.slice o.1 o.2.1 o.2.2,J++τ)/\Sr (J++τ) o (E9 m r)/\D3 m (E9 m r):=
 wJ k a h.dU h.su h.sbl h.t.h h.t.mo h.t.rt
end
section
local instance qKH:AJ:=Ao
variable {m m':HM}
structure Ge (m m':HM) (a:Int):Prop where
 has:Aw m' a=Aw m a
 shp:Ag m' a=Ag m a
 idn:B7 m' a=B7 m a
 ref:∀ x d,KD m' a x d=KD m a x d
theorem Ge.refl (m:HM) (a:Int):Ge m m a:=⟨rfl,rfl,rfl,fun _ _=>rfl⟩
theorem Ge.trans {b c e:HM} {a:Int} (h:Ge b c a) (g:Ge c e a):Ge b e a:=
 ⟨g.has.trans h.has,g.shp.trans h.shp,g.idn.trans h.idn,fun x d=>(g.ref x d).trans (h.ref x d)⟩
theorem Ge.AE {a:Int} (h:Ge m m' a) (x:Int):Go.Proofs.YtjbledomkmdkmaaGreat.AE m' a x=Go.Proofs.YtjbledomkmdkmaaGreat.AE m a x:=Aec Prod.fst (h.ref x false)
theorem Ge.uF {a:Int} (h:Ge m m' a) (x:Int):Ms m' a x true=Ms m a x true:=Aec Prod.fst (h.ref x true)
theorem HL (j:Nat):((2*j:Nat):Int).toNat/2=j:=by omega
theorem q9 (b:Inv m) {j:Nat} (hs:Start m j) (a:Start m' j) (hw:∀ t,t<use m j->m'.wds.getD (2*j+t) 0=m.wds.getD (2*j+t) 0):Ge m m' ((2*j:Nat):Int):=by
 obtain ⟨o,p,q⟩:=b.use hs;have h1:=hw 1 (by omega);have h0:=hw 0 (by omega);rw[Aa0] at h0;have f:Av m' j=Av m j:=by unfold Av; rw[h1]
 have e:Bp m' j=Bp m j:=by unfold Bp; rw[h1]
 have h:CC m' j=CC m j:=by unfold CC; rw[h1]
 obtain ⟨r,s,u,v,y,z⟩:=b.size hs;refine ⟨by rw[EI hs,EI a],by rw[F6 hs,F6 a,f,e,h], ?_,fun x d=>?_⟩
 ·unfold B7;rw[EI hs,EI a,Aay rfl,Aay rfl,IT,h0]
 ·have g:BG m' ((2*j:Nat):Int) x d=BG m ((2*j:Nat):Int) x d:=by
   unfold BG;rw[EI hs,EI a];simp only[Aat,HL,f,e]
  unfold KD;rw[g];split
  ·rename_i i;obtain ⟨j',t,k,n,c,l,_⟩:=Pc (w:=(BG m ((2*j:Nat):Int) x d).1) b (Aht rfl i);have:j'=j:=by omega
   subst this;rw[c,IT,show 2*j'+2+t=2*j'+(2+t) from by omega,hw _ l]
  ·rfl
theorem gS {a:Int} (h:Aw m a=false) (b:Aw m' a=false):Ge m m' a:=by
 refine ⟨by rw[h,b],by unfold Ag; rw[h,b]; rfl,by unfold B7; rw[h,b]; rfl,fun x d=>?_⟩;unfold KD BG;rw[h,b];rfl
theorem me (hw:m'.wds=m.wds) (hs:m'.stw=m.stw) (g:m'.bls.length=m.bls.length) (a:Int):Ge m m' a:=by
 have b:=cu g hs a;have e:∀ j,Av m' j=Av m j:=fun j=>by unfold Av; rw[hw]
 have c:∀ j,Bp m' j=Bp m j:=fun j=>by unfold Bp; rw[hw]
 have f:∀ j,CC m' j=CC m j:=fun j=>by unfold CC; rw[hw]
 refine ⟨b,by unfold Ag; rw[b,e,c,f],by unfold B7; rw[b,hw],fun x d=>?_⟩;unfold KD BG;rw[b,hw];simp only[e,c]
theorem sk (f:Inv m) (i:Sh m) {a b:Int} (h:b≠a):Ge m (Hw m a).2 b:=by
 unfold Hw;cases k:Aw m a with
 | false=>exact Ge.refl _ _
 | true=>
   obtain ⟨j,rfl,hs⟩:=AY k;rw[Aay rfl,HL];show Ge m (HS m j) b;cases hb:Aw m b with
   | true=>
     obtain ⟨y,rfl,d⟩:=AY hb;have c:y≠j:=fun e=>h (by rw[e]);refine q9 f d ((JK i.sl hs.1).2 ⟨c,d⟩) fun t l=>?_;have:=f.use d;exact Nl f hs d c (by omega) (by omega)
   | false=>
     refine gS hb ?_;cases g:Aw (HS m j) b with
     | false=>rfl
     | true=>
       obtain ⟨y,rfl,d⟩:=AY g;have:=((JK i.sl hs.1).1 d).2;rw[EI this] at hb; cases hb
theorem si (d:Sh m) (a:Int):Aw (Hw m a).2 a=false:=by
 unfold Hw;cases c:Aw m a with
 | false=>exact c
 | true=>
   obtain ⟨j,rfl,hs⟩:=AY c;rw[Aay rfl,HL];show Aw (HS m j) ((2*j:Nat):Int)=false;cases b:Aw (HS m j) ((2*j:Nat):Int) with
   | false=>rfl
   | true=>
     obtain ⟨y,e,f⟩:=AY b;have:=(JK d.sl hs.1).1 f;exact absurd (show y=j by omega) this.1
theorem X6 (m:HM) (b:Int) (e:(CZ m b).2.bls.length=m.bls.length) (a:Int):Ge m (CZ m b).2 a:=by
 obtain ⟨c,d,_⟩:=Qz m b;exact me c d e a
theorem nA (m:HM) (b c x y d e a:Int):Ge m (BF m b c x y d e).2 a:=by
 obtain ⟨f,g,h,_⟩:=OJ m b c x y d e;exact me f g h a
structure Acl (m m':HM) (a x v:Int):Prop where
 has:∀ b,Aw m' b=Aw m b
 shp:∀ b,Ag m' b=Ag m b
 idn:∀ b,B7 m' b=B7 m b
 ref:∀ b y,AE m' b y=if b=a/\y=x then v else AE m b y
 uF:∀ b y,Ms m' b y true=Ms m b y true
 bls:m'.bls=m.bls
 brt:m'.births=m.births
theorem WA {a x:Int} {d:Bool} (h:¬ (0<=x/\x<if d then (Ag m a).2.1 else (Ag m a).1)):(KD m a x d).1=0:=by
 unfold KD;rw[Aaz];intro b;unfold BG at b;unfold Ag at h;split at b
 ·rename_i c;simp only[c,Aat] at h;cases d with
  | false=>
    simp only[Ab8,Aa5] at b h;rw[Aaz h] at b; simp at b
  | true=>
    simp only[Aat] at b h;rw[Aaz h] at b; simp at b
 ·simp at b
theorem ie (f:Inv m) {j t:Nat} (hs:Start m j) (C:2+t<use m j) (v:Int):(∀ b,Aw (Hb m (2*j+2+t) v) b=Aw m b)/\(∀ b,Ag (Hb m (2*j+2+t) v) b=Ag m b)/\(∀ b,B7 (Hb m (2*j+2+t) v) b=B7 m b) /\ ∀ b y d,(KD (Hb m (2*j+2+t) v) b y d)=if b=((2*j:Nat):Int)/\(BG m b y d)=(((2*j+2+t:Nat):Int),0) then (v,0) else KD m b y d:=by
 have u:=f.use hs;have o:=f.fit j hs;have key:=XK f hs (t:=t) (by omega) v;have g:∀ b,Aw (Hb m (2*j+2+t) v) b=Aw m b:=fun b=>rfl;have n:∀ y,Start m y->Av (Hb m (2*j+2+t) v) y=Av m y/\Bp (Hb m (2*j+2+t) v) y=Bp m y/\CC (Hb m (2*j+2+t) v) y=CC m y:=fun y A=>by
  have:=key y A 1 (by decide);exact ⟨by unfold Av; rw[this],by unfold Bp; rw[this],by unfold CC; rw[this]⟩
 have r:∀ b y d,BG (Hb m (2*j+2+t) v) b y d=BG m b y d:=fun b y d=>by
  unfold BG;rw[g];cases hb:Aw m b with
  | false=>rfl
  | true=>
    obtain ⟨z,rfl,c⟩:=AY hb;obtain ⟨h,i,_⟩:=n z c;simp only[Aat,HL,h,i]
 refine ⟨g,fun b=>?_,fun b=>?_,fun b y d=>?_⟩
 ·unfold Ag;rw[g];cases hb:Aw m b with
  | false=>rfl
  | true=>
    obtain ⟨z,rfl,c⟩:=AY hb;obtain ⟨h,i,p⟩:=n z c;simp only[Aat,HL,h,i,p]
 ·unfold B7;rw[g];cases hb:Aw m b with
  | false=>rfl
  | true=>
    obtain ⟨z,rfl,c⟩:=AY hb;have:=key z c 0 (by decide);rw[Aa0] at this;rw[Aay rfl,Aay rfl,IT]; exact this
 ·unfold KD;rw[r];by_cases e:(BG m b y d).2=0
  ·rw[Aay e,Aay e];obtain ⟨z,q,c,rfl,hw,B,_⟩:=Pc (w:=(BG m b y d).1) f (Aht rfl e);have x:=f.use c;rw[hw,IT];show ((m.wds.set _ _).getD _ 0,(0:Int))=_;rw[Cp];by_cases he:2*j+2+t=2*z+2+q
   ·have l:z=j:=WU f c hs (a:=2*j+2+t) (by omega) (by omega) (by omega) (by omega);subst l;rw[Aay ⟨he,by omega⟩,Aay ⟨rfl,Aht (by rw[hw,he]) e⟩]
   ·rw[Aaz (fun s=>he s.1),Aaz];rintro ⟨h1,k⟩;have:=Aec Prod.fst k;rw[hw] at this;simp only at this;omega
  ·rw[Aaz e,Aaz e,Aaz];rintro ⟨h1,k⟩;exact e (by rw[k])
theorem dD {a x:Int} (h:x<(Ag m a).1) (h0:0<=x):Aw m a=true:=by
 cases b:Aw m a with
 | true=>rfl
 | false=>unfold Ag at h; rw[b] at h; simp at h; omega
theorem U6 (f:Inv m) {a x v:Int} (h0:0<=x) (g:x<(Ag m a).1) (e:v=0\/Aw m v=true):(BU m a x v).1=0/\Acl m (BU m a x v).2 a x v:=by
 have l:=dD g h0;obtain ⟨j,rfl,hs⟩:=AY l;rw[F6 hs] at g;simp only at g;obtain ⟨n,rfl⟩:∃ n:Nat,x=(n:Int):=⟨x.toNat,by omega⟩;have k:=RR f hs g;have p:=f.use hs;obtain ⟨u,w,z,A,B,C⟩:=f.size hs;have i:BU m ((2*j:Nat):Int) (n:Int) v=(0,Hb m (2*j+2+n) v):=by
  unfold BU;rw[k];simp only[Aat,IT];rw[Aaz];rintro ⟨h1,c⟩;rcases e with e | e
  ·exact h1 e
  ·rw[e] at c; cases c
 rw[i];obtain ⟨q,r,s,o⟩:=ie f hs (t:=n) (by omega) v;have inj:∀ y d,BG m ((2*j:Nat):Int) y d=(((2*j+2+n:Nat):Int),0)->d=false/\y=(n:Int):=by
  intro y d hd;unfold BG at hd;rw[l] at hd;simp only[Aat,HL] at hd;cases d with
  | false=>
    simp only[Ab8,Aa5] at hd;split at hd
    ·have:=Aec Prod.fst hd;simp only at this;exact ⟨rfl,by omega⟩
    ·have:=Aec Prod.snd hd; simp at this
  | true=>
    simp only[Aat] at hd;split at hd
    ·have:=Aec Prod.fst hd;simp only at this;omega
    ·have:=Aec Prod.snd hd; simp at this
 refine ⟨rfl,q,r,s,fun b y=>?_,fun b y=>?_,rfl,rfl⟩
 ·unfold AE;rw[o];by_cases h:b=((2*j:Nat):Int)/\y=(n:Int)
  ·obtain ⟨rfl,rfl⟩:=h;rw[Aay ⟨rfl,k⟩,Aay ⟨rfl,rfl⟩]
  ·rw[Aaz h,Aaz];rintro ⟨rfl,c⟩;exact h ⟨rfl,(inj _ _ c).2⟩
 ·unfold Ms;rw[o,Aaz];rintro ⟨rfl,c⟩;exact absurd (inj _ _ c).1 (by decide)
structure Aba (m m':HM):Prop where
 has:∀ b,Aw m' b=Aw m b
 shp:∀ b,Ag m' b=Ag m b
 idn:∀ b,B7 m' b=B7 m b
 ref:∀ b y,AE m' b y=AE m b y
 bls:m'.bls=m.bls
 brt:m'.births=m.births
theorem X8 (e:Inv m) {a x:Int} (v:Int) (h0:0<=x) (d:x<(Ag m a).2.1):(GU m a x v).1=0/\Aba m (GU m a x v).2:=by
 have f:Aw m a=true:=by
  cases f:Aw m a with
  | true=>rfl
  | false=>unfold Ag at d; rw[f] at d; simp at d; omega
 obtain ⟨j,rfl,hs⟩:=AY f;rw[F6 hs] at d;simp only at d;obtain ⟨n,rfl⟩:∃ n:Nat,x=(n:Int):=⟨x.toNat,by omega⟩;have h:=Zr e hs d;have i:=e.use hs;obtain ⟨q,r,s,u,w,z⟩:=e.size hs;have g:GU m ((2*j:Nat):Int) (n:Int) v=(0,Hb m (2*j+2+((Av m j).toNat+n)) v):=by
  unfold GU;rw[h];simp only[Aat,IT];rw[show 2*j+2+(Av m j).toNat+n=2*j+2+((Av m j).toNat+n) from by omega]
 rw[g];obtain ⟨k,l,o,p⟩:=ie e hs (t:=(Av m j).toNat+n) (by omega) v;refine ⟨rfl,k,l,o,fun b y=>?_,rfl,rfl⟩;unfold AE;rw[p,Aaz];rintro ⟨rfl,c⟩;unfold BG at c;rw[f] at c;simp only[Aat,HL,Ab8,Aa5] at c;split at c
 ·have:=Aec Prod.fst c;simp only at this;omega
 ·have:=Aec Prod.snd c; simp at this
structure mU (m m':HM) (a:Int) (sh:Int × Int × Int):Prop where
 IY:Aw m a=false
 has:Aw m' a=true
 same:∀ b,b≠a->Ge m m' b
 shp:Ag m' a=sh
 idn:B7 m' a=m.births+1
 ref:∀ x,AE m' a x=0
 brt:m'.births=m.births+1
theorem oz (q:Inv m) (u:Inv2 m) (s:Sh m) {a r d c:Int} (h:(CX m a r d c).2.1=0):mU m (CX m a r d c).2.2 a (r,d,c)/\valid r d c=true:=by
 unfold CX at h ⊢;cases k:valid r d c with
 | false=>rw[k] at h; simp at h
 | true=>
   rw[k] at h;simp only[Aat] at h ⊢;by_cases v:Mi m a (Pt (num r d c)) (-1)=0;rotate_left
   ·rw[Aaz v] at h; exact absurd h v
   rw[Aay v];have E:2<=Pt (num r d c):=by
    have p:=k;rw[Kw k];simp[valid] at p;omega
   obtain ⟨j,rfl,z,H,A⟩:=q.fits s.wl (YQ _) E v;rw[HL];have g:∀ o,Start m o->2*o+sz m o<=2*j\/2*j+Pt (num r d c)<=2*o:=fun o J=>A o J (by omega);obtain ⟨L,M,N,_⟩:=Kk k;have K:=Kw k;have p:=k;simp[valid] at p;have C:¬ Start m j:=fun hs=>by
    have:=g j hs;have:=q.size hs;omega
   have l:Aw m ((2*j:Nat):Int)=false:=by
    cases hb:Aw m ((2*j:Nat):Int) with
    | false=>rfl
    | true=>
      obtain ⟨y,e,f⟩:=AY hb;exact absurd (show j=y by omega ▸ f) (by
       intro O; exact C (by rw[show j=y from by omega]; exact f))
   have i:Start (CT m j (num r d c)) j:=(J4 s.sl z).2 (.inl rfl);have wd:=fun x=>IB s z (num r d c) x;have D:Av (CT m j (num r d c)) j=r:=by unfold Av; rw[wd,Aay rfl,L]
   have hd:Bp (CT m j (num r d c)) j=d:=by unfold Bp; rw[wd,Aay rfl,M]
   have I:CC (CT m j (num r d c)) j=c:=by unfold CC; rw[wd,Aay rfl,N]
   have hIn:Inv (CT m j (num r d c)):=by
    have:=(Uv q u s ((2*j:Nat):Int) r d c).inv;unfold CX at this;rw[k,Aay rfl,Aay v,HL] at this;exact this
   refine ⟨⟨l,EI i,fun b hb=>?_,by rw[F6 i,D,hd,I], ?_,fun x=>?_,rfl⟩,trivial⟩
   ·cases w:Aw m b with
    | true=>
      obtain ⟨y,rfl,f⟩:=AY w;refine q9 q f ((J4 s.sl z).2 (.inr f)) fun t P=>?_;have:=g y f;have:=q.use f;rw[wd,Aaz (by omega),Aaz (by omega)]
    | false=>
      refine gS w ?_;cases B:Aw (CT m j (num r d c)) b with
      | false=>rfl
      | true=>
        obtain ⟨y,rfl,f⟩:=AY B;rcases (J4 s.sl z).1 f with rfl | F
        ·exact absurd rfl hb
        ·rw[EI F] at w; cases w
   ·unfold B7;rw[EI i,Aay rfl,IT,wd,Aaz (by omega),Aay rfl]
   ·by_cases G:0<=x/\x<r
    ·obtain ⟨n,rfl⟩:∃ n:Nat,x=(n:Int):=⟨x.toNat,by omega⟩;rw[iY hIn i (by rw[D]; exact G.2),wd,Aaz (by omega),Aaz (by omega)];refine u.zero _ fun y f Q S=>?_;have:=g y f;have:=q.use f;omega
    ·refine WA ?_;rw[F6 i,D];simpa using G
def Edge (m:HM) (a b:Int):Prop:=∃ x:Nat,(x:Int)<(Ag m a).1/\DV (Ag m a).2.2 (x:Int)=false/\AE m a (x:Int)=b
inductive Kp (m:HM) (R:Int->Prop):Int->Prop
 | root {a:Int}:R a->Aw m a=true->Kp m R a
 | Ko {a b:Int}:Kp m R a->Edge m a b->Aw m b=true->Kp m R b
 | ao {a:Int}:Kp m R a->(Ag m a).2.2=2->Kp m R (AE m a 0)->Aw m (AE m a 1)=true->Kp m R (AE m a 1)
variable {R:Int->Prop}
theorem Kp.has {a:Int} (h:Kp m R a):Aw m a=true:=by cases h <;> assumption
structure tF (m:HM) (C:Int->Prop):Prop where
 Ko:∀ a b,C a->Edge m a b->Aw m b=true->C b
 ao:∀ a,C a->(Ag m a).2.2=2->C (AE m a 0)->Aw m (AE m a 1)=true->C (AE m a 1)
theorem Kp.min {C:Int->Prop} (hC:tF m C) (c:∀ a,R a->Aw m a=true->C a) {a:Int} (h:Kp m R a):C a:=by
 induction h with
 | root h1 b=>exact c _ h1 b
 | Ko _ h1 b d=>exact hC.Ko _ _ d h1 b
 | ao _ h1 _ b i1 i2=>exact hC.ao _ i1 h1 i2 b
theorem Kp.xv (m:HM) (R:Int->Prop):tF m (Kp m R):=⟨fun _ _ h e hb=>.Ko h e hb,fun _ h e a hb=>.ao h e a hb⟩
theorem iJ {e b:Int}:∀ {rs:List Int} {x:Nat} {out:List Int},b ∈ gk m e rs x out↔b ∈ out \/ ∃ y,y<rs.length/\DV e ((x+y:Nat):Int)=false/\rs.getD y 0=b/\Aw m b=true
 | [],x,out=>by simp[gk]
 | r::rs,x,out=>by
   rw[gk,iJ];constructor
   ·rintro (h | ⟨y,h1,a,c,d⟩)
    ·split at h
     ·exact .inl h
     ·rename_i hs;rcases QX.1 h with h | ⟨rfl,h⟩
      ·exact .inl h
      ·exact .inr ⟨0,by simp,by simpa using hs,rfl,h⟩
    ·exact .inr ⟨y+1,by simpa using h1,by rw[show x+(y+1)=x+1+y from by omega]; exact a,c,d⟩
   ·rintro (h | ⟨y,h1,a,c,d⟩)
    ·left;split
     ·exact h
     ·exact QX.2 (.inl h)
    ·cases y with
     | zero=>
       rw[Aa0] at a;left;rw[Aaz (by rw[a]; simp)];exact QX.2 (.inr ⟨c.symm,by rw[show r=b from c]; exact d⟩)
     | succ y=>exact .inr ⟨y,by simpa using h1,by rw[show x+1+y=x+(y+1) from by omega]; exact a,c,d⟩
theorem KT (a:Inv m) {j:Nat} (hs:Start m j) {y:Nat} (c:y<(AR m j).refs.length):(AR m j).refs.getD y 0=AE m ((2*j:Nat):Int) (y:Int)/\(y:Int)<(Ag m ((2*j:Nat):Int)).1:=by
 have b:(AR m j).refs.length=(Av m j).toNat:=DH _ _ _;have h1:(y:Int)<Av m j:=by omega
 refine ⟨?_,by rw[F6 hs]; exact h1⟩;rw[iY a hs h1];show (KM m (2*j+2) (Av m j).toNat).getD y 0=_;unfold KM;rw[Aax,Aeg,List.getElem?_range' (by omega)];simp
theorem NL (e:Inv m) {out:List Int} {a b:Int} (t:Aw m a=true):b ∈ Ov m out a↔b ∈ out\/(Edge m a b/\Aw m b=true)\/((Ag m a).2.2=2/\(AE m a 0 ∈ out\/(Edge m a (AE m a 0)/\Aw m (AE m a 0)=true))/\b=AE m a 1/\Aw m b=true):=by
 obtain ⟨j,rfl,hs⟩:=AY t;have u:(AR m j).refs.length=(Av m j).toNat:=DH _ _ _;obtain ⟨_,w,_⟩:=Nc e hs;have c:(AR m j).k=(Ag m ((2*j:Nat):Int)).2.2:=by rw[F6 hs]; rfl
 have i:∀ b,b ∈ gk m (AR m j).k (AR m j).refs 0 out↔b ∈ out\/(Edge m ((2*j:Nat):Int) b/\Aw m b=true):=by
  intro b;rw[iJ];refine or_congr Iff.rfl ⟨?_, ?_⟩
  ·rintro ⟨y,h1,g,o,h5⟩;obtain ⟨d,s⟩:=KT e hs h1;rw[IN,c] at g;exact ⟨⟨y,s,g,by rw[<- d]; exact o⟩,h5⟩
  ·rintro ⟨⟨y,h1,g,o⟩,h5⟩;have f:=h1;rw[F6 hs] at f;simp only at f;have r:y<(AR m j).refs.length:=by omega
   obtain ⟨d,_⟩:=KT e hs r;exact ⟨y,r,by rw[IN,c]; exact g,by rw[d]; exact o,h5⟩
 have v:(Ag m ((2*j:Nat):Int)).2.2=2->2<=(AR m j).refs.length:=by
  intro h;rw[F6 hs] at h;rw[u];have:=yK e hs h;omega
 unfold Ov;simp only[HL];rw[c];by_cases k:(Ag m ((2*j:Nat):Int)).2.2=2
 ·have g:=v k;obtain ⟨q,_⟩:=KT e hs (y:=0) (by omega);obtain ⟨d,_⟩:=KT e hs (y:=1) (by omega);rw[show ((0:Nat):Int)=0 from rfl] at q;rw[show ((1:Nat):Int)=1 from rfl] at d;rw[q,d,<- c];by_cases l:AE m ((2*j:Nat):Int) 0 ∈ gk m (AR m j).k (AR m j).refs 0 out
  ·rw[Aay ⟨c.trans k,l⟩,QX,i];have p:=(i _).1 l;constructor
   ·rintro ((h | h) | ⟨h,n⟩)
    ·exact .inl h
    ·exact .inr (.inl h)
    ·exact .inr (.inr ⟨c.trans k,p,h,by rw[h]; exact n⟩)
   ·rintro (h | h | ⟨_,_,h,n⟩)
    ·exact .inl (.inl h)
    ·exact .inl (.inr h)
    ·exact .inr ⟨h,by rw[<- h]; exact n⟩
  ·rw[Aaz (fun h=>l h.2),i];constructor
   ·rintro (h | h)
    ·exact .inl h
    ·exact .inr (.inl h)
   ·rintro (h | h | ⟨_,h,_⟩)
    ·exact .inl h
    ·exact .inr h
    ·exact absurd ((i _).2 h) l
 ·rw[Aaz (fun h=>k h.1),<- c,i];constructor
  ·rintro (h | h)
   ·exact .inl h
   ·exact .inr (.inl h)
  ·rintro (h | h | ⟨h,_⟩)
   ·exact .inl h
   ·exact .inr h
   ·exact absurd (c ▸ h) k
theorem RT (m:HM):∀ (l out:List Int) (b:Int),b ∈ out->b ∈ l.foldl (Ov m) out
 | [],_,_,h=>h
 | a::l,out,b,h=>RT m l _ b (by
   unfold Ov;simp only;have:b ∈ gk m (AR m (a.toNat/2)).k (AR m (a.toNat/2)).refs 0 out:=iJ.2 (.inl h);split
   ·exact QX.2 (.inl this)
   ·exact this)
theorem tf {out:List Int} {b:Int} (h:b ∈ out):b ∈ KH m out:=RT m out out b h
theorem Zs (e:Inv m):∀ (l out:List Int) (a b:Int),a ∈ l->(∀ a ∈ l,Aw m a=true)->b ∈ Ov m out a->b ∈ l.foldl (Ov m) out
 | c::l,out,a,b,f,i,hb=>by
   rcases Acd.1 f with rfl | f
   ·exact RT m l _ b hb
   ·refine Zs e l _ a b f (fun x j=>i x (Ab7 _ j)) ?_;have d:∀ x,x ∈ out->x ∈ Ov m out c:=fun x j=>(NL e (i c Acj)).2 (.inl j);have g:=i a (Ab7 _ f);rcases (NL e g).1 hb with h | h | ⟨h1,k,n⟩
    ·exact (NL e g).2 (.inl (d _ h))
    ·exact (NL e g).2 (.inr (.inl h))
    ·exact (NL e g).2 (.inr (.inr ⟨h1,k.imp (d _) id,n⟩))
theorem Xj (g:Inv m) {C:Int->Prop} (hC:tF m C):∀ (l out:List Int),(∀ a ∈ l,C a/\Aw m a=true)->(∀ a ∈ out,C a) -> ∀ b ∈ l.foldl (Ov m) out,C b
 | [],out,_,h,b,hb=>h b hb
 | a::l,out,i,h,b,hb=>by
   obtain ⟨d,j⟩:=i a Acj;refine Xj g hC l _ (fun x e=>i x (Ab7 _ e)) (fun x e=>?_) b hb;rcases (NL g j).1 e with k | ⟨h1,c⟩ | ⟨h1,c,n,f⟩
   ·exact h x k
   ·exact hC.Ko _ _ d h1 c
   ·rw[n] at f ⊢;exact hC.ao _ d h1 (c.elim (h _) fun c=>hC.Ko _ _ d c.1 c.2) f
theorem dg (c:Inv m) {C:Int->Prop} (hC:tF m C):∀ (n:Nat) (out:List Int),D3 m out->(∀ a ∈ out,C a) -> ∀ b ∈ Ln m n out,C b
 | 0,out,_,h,b,hb=>h b hb
 | n+1,out,e,h,b,hb=>by
   have h1:=Xj c hC out out (fun a d=>⟨h a d,e.ob a d⟩) h;rw[Ln] at hb;split at hb
   ·exact h1 b hb
   ·exact dg c hC n _ e.round h1 b hb
theorem tm:∀ {l k:List Int},l.Pairwise (·<·)->k.Pairwise (·<·)->(∀ a ∈ l,a ∈ k)->k.length<=l.length -> ∀ a ∈ k,a ∈ l:=by
 intro l k d g hs i a c;by_cases h:a ∈ l
 ·exact h
 ·have h1:(a::l).Nodup:=Afi.2 ⟨h,d.imp fun h=>by omega⟩;have b:=Qx h1 (k:=k) fun x f=>(Acd.1 f).elim (fun e=>by rw[e]; exact c) (hs x);rw[Adl] at b;omega
theorem df (g:Inv m) (h:m.bls.length<=64):∀ (n:Nat) (out:List Int),D3 m out->2049<=n+out.length->D3 m (Ln m n out)/\(∀ a ∈ out,a ∈ Ln m n out)/\tF m (· ∈ Ln m n out)
 | 0,out,d,o=>by have:=d.len h; omega
 | n+1,out,d,o=>by
   rw[Ln];have f:=d.round;have hs:∀ a ∈ out,a ∈ KH m out:=fun a c=>tf c;split
   ·rename_i he;refine ⟨f,hs, ?_⟩;have back:=tm d.so f.so hs (by omega);have step:∀ a,a ∈ KH m out -> ∀ b,b ∈ Ov m out a->b ∈ KH m out:=fun a c b hb=>Zs g out out a b (back a c) d.ob hb;refine ⟨fun a b c e hb=>step a c b ((NL g (f.ob a c)).2 (.inr (.inl ⟨e,hb⟩))),fun a c l h0 hb=>?_⟩;exact step a c _ ((NL g (f.ob a c)).2 (.inr (.inr ⟨l,.inl (back _ h0),rfl,hb⟩)))
   ·rename_i he;have:=gO (m:=m) out;obtain ⟨i,j,k⟩:=df g h n (KH m out) f (by omega);exact ⟨i,fun a c=>j a (hs a c),k⟩
theorem RZ {a:Int}:∀ {l out:List Int},a ∈ l.foldl (Uk m) out↔a ∈ out\/(a ∈ l/\Aw m a=true)
 | [],out=>by simp
 | b::l,out=>by
   rw[Aef,RZ,QX];constructor
   ·rintro ((h | ⟨rfl,h⟩) | ⟨h,c⟩)
    ·exact .inl h
    ·exact .inr ⟨Acj,h⟩
    ·exact .inr ⟨Ab7 _ h,c⟩
   ·rintro (h | ⟨h,c⟩)
    ·exact .inl (.inl h)
    ·rcases Acd.1 h with rfl | h
     ·exact .inl (.inr ⟨rfl,c⟩)
     ·exact .inr ⟨h,c⟩
theorem sZ (c:Inv m) (j:m.bls.length<=64) (l:List Int):D3 m (NZ m l) /\ ∀ a,a ∈ NZ m l↔Kp m (· ∈ l) a:=by
 have h0:D3 m (l.foldl (Uk m) []):=D3.fold (fun o a h=>h.inc a) l [] (D3.nil m);obtain ⟨d,e,f⟩:=df c j 2050 _ h0 (by omega);refine ⟨d,fun a=>⟨fun h=>?_,fun h=>?_⟩⟩
 ·refine dg c (Kp.xv m (· ∈ l)) 2050 _ h0 (fun b hb=>?_) a h;rcases RZ.1 hb with hb | ⟨h1,g⟩
  ·cases hb
  ·exact .root h1 g
 ·exact h.min f fun b hb i=>e b (RZ.2 (.inr ⟨hb,i⟩))
theorem E8 (b:MK m) (r:D4) {a:Int}:a ∈ E9 m r↔Kp m (· ∈ AW r) a:=(sZ b.inv b.nt _).2 a
end
section
local instance qKI:AJ:=Ao
variable {m m':HM} {r:D4} {s s':TC}
def Wl (m:HM) (s:TC):Prop:=s.ws.length=(32*m.bls.length*2+63)/64
theorem AP {a:Int}:B5 m s a=true↔Aw m a=true/\C0 s a≠0:=by unfold B5; simp
theorem UN (hw:Wl m s) {a b:Int} (c:Aw m a=true) (hb:Aw m b=true) {v:Nat} (d:v<4):C0 (Eh s a v) b=if b=a then v else C0 s b:=by
 obtain ⟨j,rfl,hs⟩:=AY c;obtain ⟨y,rfl,e⟩:=AY hb;unfold C0 Eh;simp only[HL];rw[OB hw hs.1 d];by_cases h:y=j
 ·rw[Aay h,Aay (by rw[h])]
 ·rw[Aaz h,Aaz (by omega)]
theorem vl (s:TC) (a:Int) (v:Nat):(Eh s a v).ws.length=s.ws.length:=Ek _ _ _ _
theorem U8 (m:HM) (s:TC) (a:Int):(Cx m s a).ws.length=s.ws.length:=by
 unfold Cx;split
 ·exact Ek _ _ _ _
 ·rfl
theorem KW (m:HM):∀ (l:List Int) (s:TC),(AA m s l).ws.length=s.ws.length
 | [],s=>rfl
 | a::l,s=>(KW m l (Cx m s a)).trans (U8 m s a)
theorem gT (hw:Wl m s) (a:Int) {b:Int} (hb:Aw m b=true):C0 (Cx m s a) b=if C0 s b=0/\b=a then 1 else C0 s b:=by
 unfold Cx;by_cases c:Aw m a=true/\C0 s a=0
 ·rw[Aay c];show C0 (Eh s a 1) b=_;rw[UN hw c.1 hb (by decide)];by_cases h:b=a
  ·rw[Aay h,Aay ⟨by rw[h]; exact c.2,h⟩]
  ·rw[Aaz h,Aaz (fun d=>h d.2)]
 ·rw[Aaz c,Aaz];rintro ⟨h1,rfl⟩;exact c ⟨hb,h1⟩
theorem HK:∀ (l:List Int) (s:TC),Wl m s -> ∀ {b:Int},Aw m b=true->C0 (AA m s l) b=if C0 s b=0/\b ∈ l then 1 else C0 s b
 | [],s,hw,b,hb=>by rw[Aaz (by simp)]; rfl
 | a::l,s,hw,b,hb=>by
   have h1:=gT hw a hb;have f:=HK l (Cx m s a) (by unfold Wl; rw[U8]; exact hw) hb;show C0 (AA m (Cx m s a) l) b=_;rw[f];by_cases h0:C0 s b=0
   ·by_cases d:b=a
    ·have h1:C0 (Cx m s a) b=1:=by rw[h1,Aay ⟨h0,d⟩]
     rw[h1,Aaz (by simp),Aay ⟨h0,by rw[d]; exact Acj⟩]
    ·have h1:C0 (Cx m s a) b=C0 s b:=by rw[h1,Aaz fun c=>d c.2]
     rw[h1];by_cases e:b ∈ l
     ·rw[Aay ⟨h0,e⟩,Aay ⟨h0,Ab7 _ e⟩]
     ·rw[Aaz (fun c=>e c.2),Aaz (fun c=>(Acd.1 c.2).elim d e)]
   ·have h1:C0 (Cx m s a) b=C0 s b:=by rw[h1,Aaz fun c=>h0 c.1]
    rw[h1,Aaz (fun c=>h0 c.1),Aaz (fun c=>h0 c.1)]
theorem KN:∀ (l:List Int) (s:TC),Wl m s -> ∀ x,x ∈ (AA m s l).list↔x ∈ s.list\/(x ∈ l/\Aw m x=true/\C0 s x=0)
 | [],s,hw,x=>by simp[AA]
 | a::l,s,hw,x=>by
   show x ∈ (AA m (Cx m s a) l).list↔_;rw[KN l (Cx m s a) (by unfold Wl; rw[U8]; exact hw)];by_cases b:Aw m x=true
   ·rw[gT hw a b];have g:x ∈ (Cx m s a).list↔x ∈ s.list\/(x=a/\C0 s x=0):=by
     unfold Cx;split
     ·rename_i c;simp only[Aas,Ac1];exact or_congr Iff.rfl ⟨fun e=>⟨e,by rw[e]; exact c.2⟩,fun e=>e.1⟩
     ·rename_i c;refine ⟨.inl,fun h=>h.elim id fun e=>absurd ⟨by rw[<- e.1]; exact b,by rw[<- e.1]; exact e.2⟩ c⟩
    rw[g];by_cases h0:C0 s x=0
    ·by_cases d:x=a
     ·have f:C0 s a=0:=by rw[<- d]; exact h0
      have i:Aw m a=true:=by rw[<- d]; exact b
      simp[d,f,i]
     ·simp[h0,d,b]
    ·simp[h0]
   ·have g:x ∈ (Cx m s a).list↔x ∈ s.list:=by
     unfold Cx;split
     ·rename_i c;simp only[Aas,Ac1];exact ⟨fun h=>h.elim id fun e=>absurd (by rw[e]; exact c.1) b,.inl⟩
     ·exact Iff.rfl
    rw[g];simp[b]
theorem gU:∀ (l:List Int) (s:TC),(∀ a ∈ l,Aw m a=true->C0 s a≠0)->AA m s l=s
 | [],s,_=>rfl
 | a::l,s,h=>by
   have:Cx m s a=s:=by
    unfold Cx;rw[Aaz];rintro ⟨h1,c⟩;exact h a Acj h1 c
   show AA m (Cx m s a) l=s;rw[this];exact gU l s fun b hb=>h b (Ab7 _ hb)
theorem Z7 (hw:Wl m s) {l:List Int} (h:(AA m s l).list=[]):AA m s l=s /\ ∀ a ∈ l,Aw m a=true->C0 s a≠0:=by
 have key:∀ a ∈ l,Aw m a=true->C0 s a≠0:=fun a b c h0=>by
  have:=(KN l s hw a).2 (.inr ⟨b,c,h0⟩);rw[h] at this; cases this
 exact ⟨gU l s key,key⟩
theorem qe {l:List Int} {v:Int}:v ∈ Qs m s l ↔ ∃ a,a ∈ l/\B5 m s a=true/\(Ag m a).2.2=2/\B5 m s (AE m a 0)=true/\v=AE m a 1:=by
 unfold Qs;simp only[Aeb,Aea,Ads,Ad4];constructor
 ·rintro ⟨a,⟨h1,⟨b,c⟩,d⟩,h5⟩; exact ⟨a,h1,b,c,d,h5.symm⟩
 ·rintro ⟨a,h1,b,c,d,h5⟩; exact ⟨a,⟨h1,⟨b,c⟩,d⟩,h5.symm⟩
theorem W0 {a b:Int}:b ∈ Dy m a↔Edge m a b/\b≠0:=by
 unfold Dy Edge;simp only[Aeb,Aea,Ag5,Ads,Ad4,Agf];constructor
 ·rintro ⟨x,⟨h1,c,d⟩,rfl⟩;exact ⟨⟨x,by omega,d,rfl⟩,c⟩
 ·rintro ⟨⟨x,h1,c,rfl⟩,d⟩;exact ⟨x,⟨by omega,d,c⟩,rfl⟩
theorem xL (a:MK m):Aw m 0=false:=by
 cases c:Aw m 0 with
 | false=>rfl
 | true=>
   obtain ⟨j,e,hs⟩:=AY c;have:j=0:=by omega
   subst this;have b:=a.inv2.kind 0 hs;have h0:(m.bls.getD 0 (0,0)).1=0:=a.b0;by_cases hw:sz m 0<=32
   ·have:=(b.1 hw).1;rw[show 2*0/64=0 from rfl,h0] at this; cases this
   ·have:=(b.2 (by omega)).1;rw[show 2*0/64=0 from rfl,h0] at this; cases this
theorem Nx (b:MK m) {a:Int} (h:Aw m a=true):a≠0:=by
 rintro rfl;rw[xL b] at h; cases h
theorem gg (d:MK m) {a:Int} (h:Aw m a=true):∃ b:Nat,a/64=(b:Int)/\b<m.bls.length/\(Ce m (b:Int)=1\/Ce m (b:Int)=2)/\a ∈ Cq (HI m (b:Int)):=by
 obtain ⟨j,rfl,hs⟩:=AY h;have f:=hs.1;have c:=d.inv2.kind j hs;have e:2*j/64=j/32:=by omega
 refine ⟨j/32,by omega,by omega, ?_, ?_⟩
 ·unfold Ce;rw[Aay (by omega),IT,<- e];by_cases hw:sz m j<=32
  ·exact .inl (c.1 hw).1
  ·exact .inr (c.2 (by omega)).1
 ·unfold HI Cq;rw[Aay (by omega),IT];refine Aeb.2 ⟨j, ?_,rfl⟩;unfold D8;exact Aea.2 ⟨Agh.2 ⟨by omega,by omega⟩,by simpa using hs.2⟩
theorem Y5:∀ (l out:List Int) (v:Int),v ∈ l.foldl JN out↔v ∈ out\/(v ∈ l/\v≠0)
 | [],out,v=>by simp
 | a::l,out,v=>by
   rw[Aef,Y5 l];unfold JN;split
   ·rename_i c;constructor
    ·rintro (h | h)
     ·exact .inl h
     ·exact .inr ⟨Ab7 _ h.1,h.2⟩
    ·rintro (h | ⟨h,b⟩)
     ·exact .inl h
     ·rcases Acd.1 h with rfl | h
      ·exact c.elim (fun e=>absurd e b) .inl
      ·exact .inr ⟨h,b⟩
   ·rename_i c;rw[Aas,Ac1];constructor
    ·rintro ((h | rfl) | h)
     ·exact .inl h
     ·exact .inr ⟨Acj,fun e=>c (.inl e)⟩
     ·exact .inr ⟨Ab7 _ h.1,h.2⟩
    ·rintro (h | ⟨h,b⟩)
     ·exact .inl (.inl h)
     ·rcases Acd.1 h with rfl | h
      ·exact .inl (.inr rfl)
      ·exact .inr ⟨h,b⟩
theorem Jt {v:Int}:v ∈ AW r↔v ∈ r.all/\v≠0:=by
 unfold AW;rw[Y5];simp
def XO (m:HM):Prop:=∀ a,Aw m a=true -> ∀ x:Nat,AE m a (x:Int)=0\/Aw m (AE m a (x:Int))=true
theorem dh {a:Int} {x:Nat} (h:¬ (x:Int)<(Ag m a).1):AE m a (x:Int)=0:=WA (by simp only[Ab8,Aa5]; exact fun b=>h b.2)
theorem Qi.o (h:Qi m) (c:Inv m):XO m:=by
 intro a d x;by_cases b:(x:Int)<(Ag m a).1
 ·obtain ⟨j,rfl,hs⟩:=AY d;rw[F6 hs] at b;rw[iY c hs b];exact h j hs x b
 ·exact .inl (dh b)
theorem qK (h:XO m) (e:Mw m r):U9 m r=true:=by
 unfold U9;rw[Ads];constructor
 ·rw[Afr];intro v b;rcases e v (Jt.1 b).1 with h0 | h0 <;> simp[h0]
 ·rw[Afr];intro a c;have d:=QU.2 c;rw[Afr];intro v b;unfold Ux at b;obtain ⟨x,f,rfl⟩:=Aeb.1 b;rcases h a d x with h0 | h0 <;> simp[h0]
structure MkI (m:HM) (s:TC):Prop where
 c2:∀ a,Aw m a=true->C0 s a<=2
 gl:∀ a,Aw m a=true->C0 s a=1->a ∈ s.list
 ln:∀ a ∈ s.list,B5 m s a=true
theorem MkI.HJ (h:MkI m s) (hw:Wl m s) (l:List Int):MkI m (AA m s l):=by
 refine ⟨fun a b=>?_,fun a b h1=>?_,fun a b=>?_⟩
 ·rw[HK l s hw b]; split
  ·decide
  ·exact h.c2 a b
 ·rw[HK l s hw b] at h1;rw[KN l s hw];split at h1
  ·rename_i e; exact .inr ⟨e.2,b,e.1⟩
  ·exact .inl (h.gl a b h1)
 ·rcases (KN l s hw a).1 b with h1 | ⟨h1,d,g⟩
  ·obtain ⟨c,f⟩:=AP.1 (h.ln a h1);refine AP.2 ⟨c, ?_⟩;rw[HK l s hw c]; split
   ·decide
   ·exact f
  ·refine AP.2 ⟨d, ?_⟩;rw[HK l s hw d,Aay ⟨g,h1⟩]; decide
inductive Cl (m:HM) (s:TC):Int->Prop
 | seen {a:Int}:B5 m s a=true->Cl m s a
 | Ko {a b:Int}:Cl m s a->C0 s a≠2->Edge m a b->Aw m b=true->Cl m s b
 | ao {a:Int}:Cl m s a->(Ag m a).2.2=2->Cl m s (AE m a 0)->Aw m (AE m a 1)=true->Cl m s (AE m a 1)
theorem Cl.has {a:Int} (h:Cl m s a):Aw m a=true:=by
 cases h with
 | seen h=>exact (AP.1 h).1
 | Ko _ _ _ h=>exact h
 | ao _ _ _ h=>exact h
theorem Cl.min {P:Int->Prop} (h1:∀ a,B5 m s a=true->P a) (h2:∀ a b,Cl m s a->P a->C0 s a≠2->Edge m a b->Aw m b=true->P b) (h3:∀ a,Cl m s a->P a->(Ag m a).2.2=2->Cl m s (AE m a 0)->P (AE m a 0)->Aw m (AE m a 1)=true->P (AE m a 1)) {a:Int} (h:Cl m s a):P a:=by
 induction h with
 | seen h=>exact h1 _ h
 | Ko c h e hb f=>exact h2 _ _ c f h e hb
 | ao c h d hb i1 i2=>exact h3 _ c i1 h d i2 hb
structure xc (m:HM) (r:D4) (s:TC):Prop where
 bl:∀ a b,Aw m a=true->C0 s a=2->Edge m a b->Aw m b=true->Cl m s b
 rt:∀ a ∈ r.all,Aw m a=true->Cl m s a
theorem xc.xv (h:xc m r s):tF m (Cl m s) where
 Ko:=fun a b c e hb=>by
  by_cases d:C0 s a=2
  ·exact h.bl a b c.has d e hb
  ·exact .Ko c d e hb
 ao:=fun a c f h0 hb=>.ao c f h0 hb
theorem xc.kept (h:xc m r s) {a:Int} (c:Kp m (· ∈ AW r) a):Cl m s a:=c.min h.xv fun a h1 b=>h.rt a (Jt.1 h1).1 b
theorem Cl.up (g:∀ a,Aw m a=true->C0 s' a=C0 s a\/(C0 s a=0/\C0 s' a=1)) {a:Int} (h:Cl m s a):Cl m s' a:=by
 refine h.min (fun a j=>?_) (fun a b c f k e hb=>.Ko f ?_ e hb) fun a c f l n i0 hb=>.ao f l i0 hb
 ·obtain ⟨h1,i⟩:=AP.1 j;refine .seen (AP.2 ⟨h1, ?_⟩);rcases g a h1 with h | ⟨h,d⟩
  ·rw[h]; exact i
  ·rw[d]; decide
 ·rcases g a c.has with h | ⟨h,d⟩
  ·rw[h]; exact k
  ·rw[d]; decide
theorem gV (hw:Wl m s) (l:List Int):∀ a,Aw m a=true->C0 (AA m s l) a=C0 s a\/(C0 s a=0/\C0 (AA m s l) a=1):=by
 intro a b;rw[HK l s hw b];split
 ·rename_i h; exact .inr ⟨h.1,rfl⟩
 ·exact .inl rfl
theorem xc.up (h:xc m r s) (f:∀ a,Aw m a=true->C0 s' a=C0 s a\/(C0 s a=0/\C0 s' a=1)):xc m r s' where
 bl:=fun a b c d e hb=>by
  rcases f a c with h1 | ⟨h1,g⟩
  ·exact (h.bl a b c (by rw[<- h1]; exact d) e hb).up f
  ·rw[g] at d; cases d
 rt:=fun a c i=>(h.rt a c i).up f
def InI (m:HM) (s:TC):Prop:=∀ a b,Aw m a=true->C0 s a=2->Edge m a b->Aw m b=true->C0 s b≠0
theorem InI.up (h:InI m s) (i:∀ a,Aw m a=true->C0 s' a=C0 s a\/(C0 s a=0/\C0 s' a=1)):InI m s':=by
 intro a b g d e hb;have h1:C0 s a=2:=by
  rcases i a g with h1 | ⟨h1,c⟩
  ·rw[<- h1]; exact d
  ·rw[c] at d; cases d
 have c:=h a b g h1 e hb;rcases i b hb with f | ⟨f,j⟩
 ·rw[f]; exact c
 ·rw[j]; decide
structure tC (m:HM) (r:D4) (s:TC):Prop where
 rf:XO m
 ld:Mw m r
 mm:MkI m s
 inc:s.look=true->InI m s
 snp:s.look=false->xc m r s
theorem tC.HJ (h:tC m r s) (hw:Wl m s) (l:List Int):tC m r (AA m s l):=by
 have b:(AA m s l).look=s.look:=(Dx m l s).2.2.1;exact ⟨h.rf,h.ld,h.mm.HJ hw l,fun a=>(h.inc (b ▸ a)).up (gV hw l),fun a=>(h.snp (b ▸ a)).up (gV hw l)⟩
theorem qk (H:MK m) (hw:Wl m s) (h:tC m r s):tC m r (Xx m s)/\(Xx m s).ws.length=s.ws.length/\(Xx m s).look=s.look/\(Xx m s).born=s.born/\(Xx m s).ph=s.ph:=by
 unfold Xx;cases B:s.list with
 | nil=>exact ⟨h,rfl,rfl,rfl,rfl⟩
 | cons a l=>
   simp only;have I:=h.mm.ln a (by rw[B]; exact Acj);obtain ⟨G,P⟩:=AP.1 I;rw[Aay G]
   let k:TC:={ s with list:=l }
   have p:Wl m k:=hw;have D:Wl m (AA m k (Dy m a)):=by unfold Wl; rw[KW]; exact p
   obtain ⟨K,Q,L,S,M⟩:=Dx m (Dy m a) k;have d:∀ b,Aw m b=true->C0 (Eh (AA m k (Dy m a)) a 2) b=if b=a then 2 else if C0 s b=0/\b ∈ Dy m a then 1 else C0 s b:=fun b hb=>by
    rw[UN D G hb (by decide),HK _ _ p hb]; rfl
   have i:∀ x,x ∈ (Eh (AA m k (Dy m a)) a 2).list↔x ∈ l\/(x ∈ Dy m a/\Aw m x=true/\C0 s x=0):=fun x=>KN _ k p x;show tC m r (Eh (AA m k (Dy m a)) a 2)/\(Eh (AA m k (Dy m a)) a 2).ws.length=s.ws.length/\(Eh (AA m k (Dy m a)) a 2).look=s.look/\(Eh (AA m k (Dy m a)) a 2).born=s.born/\(Eh (AA m k (Dy m a)) a 2).ph=s.ph;generalize o:Eh (AA m k (Dy m a)) a 2=s2 at d i ⊢;have f:s2.look=s.look:=by rw[<- o]; exact L
   have t:∀ b,Aw m b=true->C0 s b≠0->C0 s2 b≠0:=fun b hb h0=>by
    rw[d b hb]; split
    ·decide
    ·split
     ·decide
     ·exact h0
   have Ko:∀ b,Edge m a b->Aw m b=true->C0 s2 b≠0:=fun b e hb=>by
    rw[d b hb]; split
    ·decide
    ·split
     ·decide
     ·rename_i J;exact fun h0=>J ⟨h0,W0.2 ⟨e,Nx H hb⟩⟩
   have mono:∀ b,Cl m s b->Cl m s2 b:=fun b hb=>by
    refine hb.min (fun x q=>?_) (fun x y c E n e j=>?_) fun x c E u N i0 j=>.ao E u i0 j
    ·obtain ⟨v,z⟩:=AP.1 q;exact .seen (AP.2 ⟨v,t x v z⟩)
    ·by_cases w:x=a
     ·subst w;exact .seen (AP.2 ⟨j,Ko y e j⟩)
     ·refine .Ko E ?_ e j;rw[d x c.has,Aaz w]; split
      ·decide
      ·exact n
   have F:∀ b,Aw m b=true->C0 s2 b=2->b=a\/C0 s b=2:=fun b hb g=>by
    rw[d b hb] at g;split at g
    ·rename_i e; exact .inl e
    ·split at g
     ·cases g
     ·exact .inr g
   refine ⟨⟨h.rf,h.ld,⟨fun b hb=>?_,fun b hb h1=>?_,fun b hb=>?_⟩,fun u x y q g e j=>?_,fun u=>⟨fun x y q g e j=>?_,fun b hb A=>mono b ((h.snp (f ▸ u)).rt b hb A)⟩⟩, ?_,f, ?_, ?_⟩
   ·rw[d b hb]; split
    ·decide
    ·split
     ·decide
     ·exact h.mm.c2 b hb
   ·rw[i];rw[d b hb] at h1;split at h1
    ·cases h1
    ·rename_i C;split at h1
     ·rename_i n; exact .inr ⟨n.2,hb,n.1⟩
     ·have:=h.mm.gl b hb h1;rw[B] at this;exact (Acd.1 this).elim (fun e=>absurd e C) .inl
   ·rcases (i b).1 hb with h1 | ⟨h1,g,O⟩
    ·obtain ⟨v,z⟩:=AP.1 (h.mm.ln b (by rw[B]; exact Ab7 _ h1));exact AP.2 ⟨v,t b v z⟩
    ·exact AP.2 ⟨g,Ko b (W0.1 h1).1 g⟩
   ·rcases F x q g with rfl | g
    ·exact Ko y e j
    ·exact t y j (h.inc (f ▸ u) x y q g e j)
   ·rcases F x q g with rfl | g
    ·exact .seen (AP.2 ⟨j,Ko y e j⟩)
    ·exact mono y ((h.snp (f ▸ u)).bl x y q g e j)
   ·rw[<- o,vl,KW]
   ·rw[<- o]; exact M
   ·rw[<- o]; exact K
theorem Yz (i:MK m) (hw:Wl m s) (j:s.list=[]) (he:(NI m (if s.look then AA m s (AW r) else s)).list=[]):NI m (if s.look then AA m s (AW r) else s)=s/\(s.look=true -> ∀ a ∈ r.all,Aw m a=true->C0 s a≠0) /\ ∀ a,B5 m s a=true->(Ag m a).2.2=2->B5 m s (AE m a 0)=true->Aw m (AE m a 1)=true->C0 s (AE m a 1)≠0:=by
 have h1:(if s.look then AA m s (AW r) else s)=s/\(s.look=true -> ∀ a ∈ AW r,Aw m a=true->C0 s a≠0):=by
  cases d:s.look with
  | false=>exact ⟨rfl,fun h=>by cases h⟩
  | true=>
    rw[d,Aay rfl] at he;have g:Wl m (AA m s (AW r)):=by unfold Wl; rw[KW]; exact hw
    have f:(AA m s (AW r)).list=[]:=by
     apply List.eq_nil_iff_forall_not_mem.2;intro x c;have:=(KN (Qs m (AA m s (AW r)) (DW m)) (AA m s (AW r)) g x).2 (.inl c);unfold NI at he;rw[he] at this; cases this
    obtain ⟨a,b⟩:=Z7 hw f;exact ⟨by rw[Aay rfl]; exact a,fun _=>b⟩
 rw[h1.1] at he ⊢;unfold NI at he ⊢;obtain ⟨a,b⟩:=Z7 hw he;exact ⟨a,fun d x c e=>h1.2 d x (Jt.2 ⟨c,Nx i e⟩) e,fun x c d h0 e=>b _ (qe.2 ⟨x,QU.1 (AP.1 c).1,c,d,h0,rfl⟩) e⟩
structure Qf (m m':HM) (Q:Int->Int->Bool):Prop where
 has:∀ b,Aw m' b=Aw m b
 shp:∀ b,Ag m' b=Ag m b
 idn:∀ b,B7 m' b=B7 m b
 ref:∀ b y,AE m' b y=if Q b y=true then 0 else AE m b y
 uF:∀ b y,Ms m' b y true=Ms m b y true
 bls:m'.bls=m.bls
 brt:m'.births=m.births
theorem Qf.refl (m:HM):Qf m m fun _ _=>false:=⟨fun _=>rfl,fun _=>rfl,fun _=>rfl,fun _ _=>rfl,fun _ _=>rfl,rfl,rfl⟩
theorem Qf.trans {d e f:HM} {a c Q:Int->Int->Bool} (h:Qf d e a) (g:Qf e f c) (i:∀ b y,Q b y=(a b y || c b y)):Qf d f Q:=
 ⟨fun b=>(g.has b).trans (h.has b),fun b=>(g.shp b).trans (h.shp b),fun b=>(g.idn b).trans (h.idn b),fun b y=>by
  rw[g.ref,h.ref,i];cases a b y <;> cases c b y <;> rfl,fun b y=>(g.uF b y).trans (h.uF b y),g.bls.trans h.bls,g.brt.trans h.brt⟩
theorem Qf.to {Q a:Int->Int->Bool} (h:Qf m m' Q) (c:∀ b y,a b y=Q b y\/AE m b y=0):Qf m m' a:=
 ⟨h.has,h.shp,h.idn,fun b y=>by
  rw[h.ref];rcases c b y with e | e
  ·rw[e]
  ·rw[e]; simp,h.uF,h.bls,h.brt⟩
theorem km (a k:Int):∀ (n x:Nat) (m:HM),MK m->Aw m a=true->((x+n:Nat):Int)<=(Ag m a).1->MK (SD a k n x m)/\Qf m (SD a k n x m) fun b y=>decide (b=a) && decide ((x:Int)<=y/\y<((x+n:Nat):Int)) && DV k y
 | 0,x,m,e,g,j=>⟨e,(Qf.refl m).to fun b y=>.inl (by
   have:decide ((x:Int)<=y/\y<((x+0:Nat):Int))=false:=Aaj (by omega);rw[this]; simp)⟩
 | n+1,x,m,e,g,j=>by
   rw[SD];have h1:MK (if AE m a (x:Int)≠0/\DV k (x:Int)=true then (BU m a (x:Int) 0).2 else m)/\Qf m (if AE m a (x:Int)≠0/\DV k (x:Int)=true then (BU m a (x:Int) 0).2 else m) (fun b y=>decide (b=a/\y=(x:Int)) && DV k (x:Int)):=by
    split
    ·rename_i f;obtain ⟨_,d⟩:=U6 e.inv (a:=a) (x:=(x:Int)) (v:=0) (by omega) (by omega) (.inl rfl);refine ⟨e.setRef _ _ _,d.has,d.shp,d.idn,fun b y=>?_,d.uF,d.bls,d.brt⟩;rw[d.ref,f.2];by_cases c:b=a/\y=(x:Int)
     ·rw[Aay c,Aay (by simp[c])]
     ·rw[Aaz c,Aaz (by simpa using c)]
    ·rename_i f;refine ⟨e,(Qf.refl m).to fun b y=>?_⟩;by_cases c:b=a/\y=(x:Int)
     ·obtain ⟨rfl,rfl⟩:=c;by_cases h0:AE m b (x:Int)=0
      ·exact .inr h0
      ·left;have:DV k (x:Int)=false:=by
        cases hs:DV k (x:Int) with
        | false=>rfl
        | true=>exact absurd ⟨h0,hs⟩ f
       rw[this]; simp
     ·left; simp[c]
   obtain ⟨l,v1⟩:=h1;obtain ⟨o,v2⟩:=km a k n (x+1) _ l (by rw[v1.has]; exact g) (by rw[v1.shp]; omega);refine ⟨o,v1.trans v2 fun b y=>?_⟩;by_cases hb:b=a
   ·by_cases i:y=(x:Int)
    ·subst hb; subst i;rw[show decide ((x:Int)<=(x:Int)/\(x:Int)<((x+(n+1):Nat):Int))=true from Aak (by omega),show decide (((x+1:Nat):Int)<=(x:Int)/\(x:Int)<((x+1+n:Nat):Int))=false from Aaj (by omega)];simp
    ·rw[show decide (b=a/\y=(x:Int))=false from Aaj fun h=>i h.2,show decide ((x:Int)<=y/\y<((x+(n+1):Nat):Int))=decide (((x+1:Nat):Int)<=y/\y<((x+1+n:Nat):Int)) from by rw[Ahb]; omega];simp
   ·rw[show decide (b=a)=false from Aaj hb,show decide (b=a/\y=(x:Int))=false from Aaj fun h=>hb h.1];simp
def SC (m:HM) (s:TC) (a:Int):Bool:=B5 m s a && decide ((Ag m a).2.2=1\/(Ag m a).2.2=2) && !(decide (AE m a 0≠0) && B5 m s (AE m a 0))
theorem mw (c:Inv m) (a:Int):0<=(Ag m a).1:=by
 cases b:Aw m a with
 | false=>unfold Ag; rw[b]; simp
 | true=>
   obtain ⟨j,rfl,hs⟩:=AY b;rw[F6 hs];exact (Nc c hs).2.1
theorem nB (d:MK m) {a:Int} (f:B5 m s a=true):MK (Ql m s a)/\Qf m (Ql m s a) fun b y=>decide (b=a) && SC m s a && DV (Ag m a).2.2 y:=by
 unfold Ql;split
 ·rename_i h;refine ⟨d,(Qf.refl m).to fun b y=>.inl ?_⟩;have:SC m s a=false:=by
   unfold SC;rw[Aaj (fun e=>e.elim h.1 h.2)]; simp
  rw[this]; simp
 ·rename_i h;split
  ·rename_i c;refine ⟨d,(Qf.refl m).to fun b y=>.inl ?_⟩;have:SC m s a=false:=by
    unfold SC;rw[Aak c.1,c.2]; simp
   rw[this]; simp
  ·rename_i c;have e:=(AP.1 f).1;have l:=mw d.inv a;obtain ⟨k,v1⟩:=km a (Ag m a).2.2 (Ag m a).1.toNat 0 m d e (by omega);refine ⟨k,v1.to fun b y=>?_⟩;have i:SC m s a=true:=by
    unfold SC;rw[f,Aak (by omega)];have:(decide (AE m a 0≠0) && B5 m s (AE m a 0))=false:=by
     cases g:(decide (AE m a 0≠0) && B5 m s (AE m a 0)) with
     | false=>rfl
     | true=>
       rw[Ads,Ad4] at g;exact absurd g c
    rw[this]; rfl
   rw[i,Bool.and_true];by_cases j:0<=y/\y<(Ag m a).1
   ·left;rw[show decide (((0:Nat):Int)<=y/\y<((0+(Ag m a).1.toNat:Nat):Int))=true from Aak (by omega),Bool.and_true]
   ·by_cases hb:b=a
    ·right; subst hb;exact WA (by simpa using j)
    ·left; simp[hb]
theorem Tx:∀ (l:List Int) (m:HM),MK m->l.Nodup->MK (Im m s l)/\Qf m (Im m s l) fun b y=>decide (b ∈ l) && SC m s b && DV (Ag m b).2.2 y
 | [],m,e,_=>⟨e,(Qf.refl m).to fun b y=>.inl (by simp)⟩
 | a::l,m,e,g=>by
   obtain ⟨n,o⟩:=Afi.1 g;have h1:MK (if B5 m s a=true then Ql m s a else m)/\Qf m (if B5 m s a=true then Ql m s a else m) (fun b y=>decide (b=a) && SC m s a && DV (Ag m a).2.2 y):=by
    split
    ·rename_i h; exact nB e h
    ·rename_i h;refine ⟨e,(Qf.refl m).to fun b y=>.inl ?_⟩;have:SC m s a=false:=by unfold SC; rw[Bool.not_eq_true] at h; rw[h]; simp
     rw[this]; simp
   obtain ⟨j,v1⟩:=h1;obtain ⟨k,v2⟩:=Tx l _ j o;refine ⟨k,v1.trans v2 fun b y=>?_⟩;have d:∀ c,B5 (if B5 m s a=true then Ql m s a else m) s c=B5 m s c:=fun c=>by
    show (Aw _ c && decide (C0 s c≠0))=(Aw m c && decide (C0 s c≠0));rw[v1.has]
   by_cases hb:b=a
   ·subst hb;rw[Aak (show b=b from rfl),Aak (Acj (a:=b) (l:=l)),Aaj n];simp
   ·rw[Aaj hb,show decide (b ∈ a::l)=decide (b ∈ l) from by rw[Ahb]; simp[hb]];have f:SC (if B5 m s a=true then Ql m s a else m) s b=SC m s b:=by
     unfold SC;have i:AE (if B5 m s a=true then Ql m s a else m) b 0=AE m b 0:=by rw[v1.ref,Aaz (by simp[hb])]
     rw[d,v1.shp,i,d]
    rw[f,v1.shp];simp
structure SwI (m:HM) (r:D4) (s:TC):Prop where
 rf:∀ a,B5 m s a=true -> ∀ x:Nat,AE m a (x:Int)=0\/B5 m s (AE m a (x:Int))=true
 ld:∀ a ∈ r.all,a=0\/B5 m s a=true
 wh:∀ a,Aw m a=true->C0 s a=0->a/64 ∈ s.left
structure IdI (m:HM) (r:D4) (s:TC):Prop where
 rf:XO m
 ld:Mw m r
 c0:∀ a,Aw m a=true->C0 s a=0
theorem SwI.kept (d:MK m) (h:SwI m r s) {a:Int} (c:Kp m (· ∈ AW r) a):B5 m s a=true:=by
 refine c.min (C:=(B5 m s ·=true)) ⟨fun a b c e hb=>?_,fun a c g h0 hb=>?_⟩ fun a h1 f=>?_
 ·obtain ⟨x,_,_,rfl⟩:=e;exact (h.rf a c x).resolve_left (Nx d hb)
 ·have:=h.rf a c 1;rw[show ((1:Nat):Int)=1 from rfl] at this;exact this.resolve_left (Nx d hb)
 ·exact (h.ld a (Jt.1 h1).1).resolve_left (Jt.1 h1).2
def Rel (K:Int->Prop) (m m':HM):Prop:=∀ a,K a->Aw m' a=true/\Ag m' a=Ag m a/\B7 m' a=B7 m a/\(∀ y,Ms m' a y true=Ms m a y true) /\
 ∀ x:Nat,(AE m' a (x:Int)=AE m a (x:Int)/\(AE m a (x:Int)=0\/(Aw m' (AE m a (x:Int))=true/\B7 m' (AE m a (x:Int))=B7 m (AE m a (x:Int))))) \/
  (AE m' a (x:Int)=0/\((x=0/\((Ag m a).2.2=1\/(Ag m a).2.2=2)/\¬ K (AE m a 0))\/(x=1/\(Ag m a).2.2=2/\AE m' a 0=0)))
variable {K:Int->Prop}
theorem Rel.refl (h:∀ a,K a->Aw m a=true /\ ∀ x:Nat,AE m a (x:Int)=0\/Aw m (AE m a (x:Int))=true):Rel K m m:=
 fun a b=>⟨(h a b).1,rfl,rfl,fun _=>rfl,fun x=>.inl ⟨rfl,((h a b).2 x).imp id fun h=>⟨h,rfl⟩⟩⟩
theorem Rel.trans {o k l:HM} (h:Rel K o k) (g:Rel K k l):Rel K o l:=by
 intro a n;obtain ⟨h1,m,A,B,h5⟩:=h a n;obtain ⟨u,v,w,z,i⟩:=g a n;refine ⟨u,v.trans m,w.trans A,fun y=>(z y).trans (B y),fun x=>?_⟩;have E:AE k a 0=0->AE l a 0=0:=fun h0=>by
  have:=i 0;rw[show ((0:Nat):Int)=0 from rfl] at this;rcases this with ⟨e,_⟩ | ⟨e,_⟩
  ·rw[e,h0]
  ·exact e
 rcases h5 x with ⟨c,j⟩ | ⟨c,t⟩
 ·rcases i x with ⟨b,f⟩ | ⟨b,d⟩
  ·left;rw[c] at b f;refine ⟨b, ?_⟩;rcases j with j | ⟨_,i1⟩
   ·exact .inl j
   ·rcases f with f | ⟨s,i2⟩
    ·exact .inl f
    ·exact .inr ⟨s,i2.trans i1⟩
  ·right;refine ⟨b, ?_⟩;rw[m] at d;rcases d with ⟨rfl,C,D⟩ | d
   ·left;rw[show ((0:Nat):Int)=0 from rfl] at c;exact ⟨rfl,C,by rw[<- c]; exact D⟩
   ·exact .inr d
 ·right;refine ⟨?_,t.imp id fun ⟨p,q,r⟩=>⟨p,q,E r⟩⟩;rcases i x with ⟨b,_⟩ | ⟨b,_⟩
  ·rw[b,c]
  ·exact b
theorem bt (m:HM):(DW m).Nodup:=by
 have:(DW m).Pairwise (·<·):=by
  unfold DW Cq;exact Ahz.2 ((K1 m).imp fun h=>by omega)
 exact this.imp fun h=>by omega
theorem RW (ws:List (BitVec 64)):∀ (l:List Int) (m:HM) (f:Int),MK m->MK (JE ws l (m,f)).1/\(JE ws l (m,f)).1.births=m.births/\(JE ws l (m,f)).1.bls.length=m.bls.length /\ ∀ a,(a ∈ l/\CJ 2 ws (a.toNat/2)=0->Aw (JE ws l (m,f)).1 a=false)/\(¬ (a ∈ l/\CJ 2 ws (a.toNat/2)=0)->Ge m (JE ws l (m,f)).1 a)
 | [],m,f,d=>⟨d,rfl,rfl,fun a=>⟨fun h=>(by cases h.1),fun _=>Ge.refl m a⟩⟩
 | b::l,m,f,d=>by
   rw[JE];by_cases hb:CJ 2 ws (b.toNat/2)=0
   ·rw[Aay hb];obtain ⟨s1,_,_,_,_,t⟩:=NK d.inv d.sh b;obtain ⟨o,p,q,r⟩:=RW ws l (Hw m b).2 (Ar (f+1)) (d.kill b);refine ⟨o,p.trans t,q.trans (by rw[s1]),fun a=>?_⟩;obtain ⟨s,i⟩:=r a;by_cases j:a ∈ l/\CJ 2 ws (a.toNat/2)=0
    ·exact ⟨fun _=>s j,fun n=>absurd ⟨Ab7 _ j.1,j.2⟩ n⟩
    ·have i:=i j;by_cases g:a=b
     ·subst g;exact ⟨fun _=>by rw[i.has]; exact si d.sh a,fun n=>absurd ⟨Acj,hb⟩ n⟩
     ·refine ⟨fun c=>absurd ⟨(Acd.1 c.1).resolve_left g,c.2⟩ j,fun _=>(sk d.inv d.sh g).trans i⟩
   ·rw[Aaz hb];obtain ⟨o,p,q,r⟩:=RW ws l m f d;refine ⟨o,p,q,fun a=>?_⟩;obtain ⟨s,i⟩:=r a;have e:(a ∈ b::l/\CJ 2 ws (a.toNat/2)=0)↔(a ∈ l/\CJ 2 ws (a.toNat/2)=0):=
     ⟨fun c=>⟨(Acd.1 c.1).resolve_left (fun e=>hb (by rw[<- e]; exact c.2)),c.2⟩,fun c=>⟨Ab7 _ c.1,c.2⟩⟩;exact ⟨fun c=>s (e.1 c),fun c=>i fun k=>c (e.2 k)⟩
theorem Ws {nb:Nat}:∀ (n x:Nat) (ws:List (BitVec 64)),ws.length=(32*nb*2+63)/64->x+n<=32*nb -> ∀ j,(x<=j/\j<x+n->CJ 2 (St ws n x) j=0)/\(j<x->CJ 2 (St ws n x) j=CJ 2 ws j)
 | 0,x,ws,c,f,j=>⟨fun h=>by omega,fun _=>rfl⟩
 | n+1,x,ws,c,f,j=>by
   rw[St];obtain ⟨a,b⟩:=Ws n (x+1) (FB 2 ws x 0) (by rw[Ek]; exact c) (by omega) j;have d:=OB (nb:=nb) c (j:=x) (v:=0) (by omega) (by decide) j;refine ⟨fun h=>?_,fun h=>?_⟩
   ·by_cases e:j=x
    ·rw[b (by omega),d,Aay e]
    ·exact a (by omega)
   ·rw[b (by omega),d,Aaz (by omega)]
def Zc (m:HM) (s:TC):Prop:=∀ j,j<32*m.bls.length->CJ 2 s.ws j≠0->Aw m ((2*j:Nat):Int)=true
theorem Zc.cV (e:Zc m s) (hw:Wl m s) {a:Int} (b:Aw m a=true) {v:Nat} (d:v<4):Zc m (Eh s a v):=by
 obtain ⟨y,rfl,hs⟩:=AY b;intro j c h0;unfold Eh at h0;simp only[HL] at h0;rw[OB hw hs.1 d] at h0;by_cases he:j=y
 ·rw[he]; exact EI hs
 ·rw[Aaz he] at h0; exact e j c h0
theorem Zc.HJ:∀ (l:List Int) {s:TC},Zc m s->Wl m s->Zc m (AA m s l)
 | [],s,b,hw=>b
 | a::l,s,b,hw=>by
   show Zc m (AA m (Cx m s a) l);refine Zc.HJ l ?_ (by unfold Wl; rw[U8]; exact hw);unfold Cx;split
   ·rename_i c; exact b.cV hw c.1 (v:=1) (by decide)
   ·exact b
theorem Zc.unit (k:MK m) (hw:Wl m s) (d:Zc m s):Zc (FU m r s).1 (FU m r s).2:=by
 unfold FU;split
 ·unfold GD;have idle:∀ (m':HM) (s':TC),m'.bls.length=m.bls.length->Wl m s'->Zc m' s'->Zc m' (PQ (32*m.bls.length) s'):=fun m' s' e f g=>by
   unfold PQ;split
   ·intro j c h0;exact absurd ((Ws (32*m.bls.length) 0 s'.ws f (by omega) j).1 (by rw[e] at c; omega)) h0
   ·exact g
  split
  ·exact idle m s rfl hw d
  ·rename_i b l e;simp only;obtain ⟨n,v,o,u⟩:=RW s.ws (Cq (HI m b)) m s.freed k;generalize JE s.ws (Cq (HI m b)) (m,s.freed)=q at *;have h:=(N2 n.inv n.inv2 b).len;have rs:=X6 q.1 b h;refine idle _ _ (h.trans o) hw fun j c h0=>?_;rw[h.trans o] at c;rw[(rs _).has,((u _).2 fun t=>h0 (by have:=t.2; rw[HL] at this; exact this)).has];exact d j c h0
 ·split
  ·simp only;unfold Xx;split
   ·exact d
   ·rename_i a l e;split
    ·rename_i p;refine Zc.cV (Zc.HJ _ (show Zc m { s with list:=l } from d) hw) (by unfold Wl; rw[KW]; exact hw) p (by decide)
    ·exact d
  ·unfold Xm;have h1:Zc m (if s.look=true then AA m s (AW r) else s)/\Wl m (if s.look=true then AA m s (AW r) else s):=by
    split
    ·exact ⟨Zc.HJ _ d hw,by unfold Wl; rw[KW]; exact hw⟩
    ·exact ⟨d,hw⟩
   generalize (if s.look=true then AA m s (AW r) else s)=s1 at *;have i:Zc m (NI m s1):=by unfold NI; exact Zc.HJ _ h1.1 h1.2
   simp only;split
   ·exact i
   ·obtain ⟨_,V⟩:=Tx (s:=NI m s1) (DW m) m k (bt m);intro j c h0;rw[V.has];rw[V.bls] at c;exact i j c h0
structure IF (m:HM) (r:D4) (s:TC):Prop where
 zc:Zc m s
 bn:s.born=if s.look then 0 else 2
 st:(s.ph=0/\IdI m r s)\/(s.ph=1/\tC m r s)\/(s.ph=2/\SwI m r s)
def KI (K:Int->Prop) (m:HM) (r:D4) (s:TC):Prop:=(s.ph=1 -> ∀ a,K a->Kp m (· ∈ AW r) a)/\(s.ph=2 -> ∀ a,K a->B5 m s a=true)
structure Abi (K:Int->Prop) (m:HM) (r:D4) (s:TC) (m':HM) (s':TC):Prop where
 run:IF m' r s'
 rel:Rel K m m'
 ki:KI K m' r s'
 brt:m'.births=m.births
 len:m'.bls.length=m.bls.length
 hm:MK m'
 lk:s'.look=s.look
 IY:∀ a,Aw m' a=true->Aw m a=true/\B7 m' a=B7 m a
theorem gW {k x:Int} (h:DV k x=true):(x=0/\(k=1\/k=2))\/(x=1/\k=2):=by
 unfold DV at h;simp at h;omega
theorem pX (o:MK m) (hw:Wl m s) (h:tC m r s) (I:s.list=[]) (he:(NI m (if s.look then AA m s (AW r) else s)).list=[]) (z:∀ a,K a->Kp m (· ∈ AW r) a):
  SwI (Im m s (DW m)) r { s with left:=s.left++WX (Im m s (DW m)),ph:=2 }/\Rel K m (Im m s (DW m))/\(∀ a,K a->B5 (Im m s (DW m)) s a=true)/\MK (Im m s (DW m))/\(∀ a,B5 (Im m s (DW m)) s a=B5 m s a)/\(∃ Q,Qf m (Im m s (DW m)) Q)/\tF m (B5 m s ·=true) /\ ∀ a ∈ r.all,Aw m a=true->B5 m s a=true:=by
 obtain ⟨_,h1,H⟩:=Yz o hw I he;have y:∀ a,B5 m s a=true->C0 s a=2:=fun a d=>by
  obtain ⟨w,L⟩:=AP.1 d;have:=h.mm.c2 a w;have:C0 s a≠1:=fun h1=>by
   have:=h.mm.gl a w h1;rw[I] at this; cases this
  omega
 have q:∀ a,Cl m s a->B5 m s a=true:=fun a d=>d.min (fun _ h=>h) (fun a b c i g e hb=>absurd (y a i) g) fun a c i f N i0 hb=>AP.2 ⟨hb,H a i f i0 hb⟩;have v:tF m (B5 m s ·=true):=⟨fun a b d e hb=>by
  cases f:s.look with
  | true=>exact AP.2 ⟨hb,h.inc f a b (AP.1 d).1 (y a d) e hb⟩
  | false=>exact q b ((h.snp f).bl a b (AP.1 d).1 (y a d) e hb),fun a d f h0 hb=>AP.2 ⟨hb,H a d f h0 hb⟩⟩;have k:∀ a ∈ r.all,Aw m a=true->B5 m s a=true:=fun a d j=>by
  cases f:s.look with
  | true=>exact AP.2 ⟨j,h1 f a d j⟩
  | false=>exact q a ((h.snp f).rt a d j)
 have F:∀ a,Kp m (· ∈ AW r) a->B5 m s a=true:=fun a d=>d.min v fun a w L=>k a (Jt.1 w).1 L;obtain ⟨p,V⟩:=Tx (DW m) m o (bt m);generalize M:Im m s (DW m)=m' at *;have G:∀ a,B5 m' s a=B5 m s a:=fun a=>by unfold B5; rw[V.has]
 have n:∀ a (l:List Int),B5 m' { s with left:=l,ph:=2 } a=B5 m s a:=fun a l=>G a;have ref:∀ a,B5 m s a=true -> ∀ x:Nat,(AE m' a (x:Int)=AE m a (x:Int)/\(AE m a (x:Int)=0\/B5 m s (AE m a (x:Int))=true))\/(AE m' a (x:Int)=0/\SC m s a=true/\DV (Ag m a).2.2 (x:Int)=true):=by
  intro a d x;rw[V.ref];have B:decide (a ∈ DW m)=true:=Aak (QU.1 (AP.1 d).1);rw[B,Af7];cases g:SC m s a with
  | true=>
    cases hs:DV (Ag m a).2.2 (x:Int) with
    | true=>exact .inr ⟨rfl,rfl,rfl⟩
    | false=>
      left;refine ⟨by simp, ?_⟩;rcases h.rf a (AP.1 d).1 x with h0 | h0
      ·exact .inl h0
      ·right;by_cases u:(x:Int)<(Ag m a).1
       ·exact v.Ko a _ d ⟨x,u,hs,rfl⟩ h0
       ·rw[dh u] at h0;rw[xL o] at h0; cases h0
  | false=>
    left;refine ⟨by simp, ?_⟩;rcases h.rf a (AP.1 d).1 x with h0 | h0
    ·exact .inl h0
    right;by_cases u:(x:Int)<(Ag m a).1;rotate_left
    ·rw[dh u] at h0;rw[xL o] at h0; cases h0
    cases hs:DV (Ag m a).2.2 (x:Int) with
    | false=>exact v.Ko a _ d ⟨x,u,hs,rfl⟩ h0
    | true=>
      have C:=gW hs;have t:(decide (AE m a 0≠0) && B5 m s (AE m a 0))=true:=by
       unfold SC at g;rw[d,Aak (show (Ag m a).2.2=1\/(Ag m a).2.2=2 by omega)] at g;cases t:(decide (AE m a 0≠0) && B5 m s (AE m a 0)) with
       | true=>rfl
       | false=>rw[t] at g; cases g
      rw[Ads] at t;rcases C with ⟨e,_⟩ | ⟨e,f⟩
      ·rw[e]; exact t.2
      ·rw[e] at h0 ⊢;exact v.ao a d f t.2 h0
 refine ⟨⟨fun a d x=>?_,fun a d=>?_,fun a d h0=>?_⟩,fun a d=>?_,fun a d=>by rw[G]; exact F a (z a d),p,G,⟨_,V⟩,v,k⟩
 ·rw[n] at d;rw[n];rcases ref a d x with ⟨e,E⟩ | ⟨e,_⟩
  ·rw[e]; exact E
  ·exact .inl e
 ·rw[n];exact (h.ld a d).imp id fun j=>k a d j
 ·obtain ⟨b,e,hb,hs,_⟩:=gg p d;refine Aas.2 (.inr ?_);rw[e];exact Aeb.2 ⟨b,Aea.2 ⟨Ag5.2 hb,Aak hs⟩,rfl⟩
 ·have hs:=F a (z a d);refine ⟨by rw[V.has]; exact (AP.1 hs).1,V.shp a,V.idn a,V.uF a,fun x=>?_⟩;rcases ref a hs x with ⟨e,E⟩ | ⟨e,g,D⟩
  ·exact .inl ⟨e,E.imp id fun j=>⟨by rw[V.has]; exact (AP.1 j).1,V.idn _⟩⟩
  ·right;refine ⟨e, ?_⟩;rcases gW D with ⟨O,f⟩ | ⟨P,f⟩
   ·left;refine ⟨by omega,f,fun A=>?_⟩;have J:=F _ (z _ A);unfold SC at g;rw[J,Aak (Nx o (AP.1 J).1)] at g;simp at g
   ·right;refine ⟨by omega,f, ?_⟩;rw[V.ref,Aak (QU.1 (AP.1 hs).1),g,f];rfl
theorem kA (hw:Wl m s) {ph:Int} {l:List Int} {a:Int} (b:Aw m a=true):C0 { s with ws:=St s.ws (32*m.bls.length) 0,ph:=ph,left:=l } a=0:=by
 obtain ⟨j,rfl,hs⟩:=AY b;have:=hs.1;unfold C0;rw[HL];exact (Ws (32*m.bls.length) 0 s.ws hw (by omega) j).1 (by omega)
theorem mF (t:MK m) (hw:Wl m s) (hp:s.ph=2) (h:SwI m r s):(((GD m s).2.ph=0/\IdI (GD m s).1 r (GD m s).2)\/((GD m s).2.ph=2/\SwI (GD m s).1 r (GD m s).2 /\ ∀ a,B5 m s a=true->B5 (GD m s).1 (GD m s).2 a=true))/\MK (GD m s).1/\(GD m s).1.births=m.births/\(GD m s).1.bls.length=m.bls.length/\(GD m s).2.look=s.look/\(GD m s).2.born=s.born/\(∀ a,B5 m s a=true->Ge m (GD m s).1 a)/\(∀ a,Aw (GD m s).1 a=true->Ge m (GD m s).1 a)/\((GD m s).2.ph=0 -> ∀ a,Aw (GD m s).1 a=true->B5 m s a=true):=by
 have idle:s.left=[] -> ∀ a,Aw m a=true->B5 m s a=true:=fun h0 a d=>by
  refine AP.2 ⟨d,fun k=>?_⟩;have:=h.wh a d k;rw[h0] at this; cases this
 unfold GD;cases p:s.left with
 | nil=>
   simp only;unfold PQ;rw[Aay p];refine ⟨.inl ⟨rfl,⟨fun a d x=>(h.rf a (idle p a d) x).imp id fun j=>(AP.1 j).1,fun a d=>(h.ld a d).imp id fun j=>(AP.1 j).1,fun a d=>?_⟩⟩,t,(by first | rfl | trivial),(by first | rfl | trivial),(by first | rfl | trivial),(by first | rfl | trivial),fun a _=>Ge.refl _ _,fun a _=>Ge.refl _ _,fun _ a d=>idle p a d⟩;exact kA (l:=s.left) hw d
 | cons b l=>
   simp only;obtain ⟨v,B,C,y⟩:=RW s.ws (Cq (HI m b)) m s.freed t;generalize JE s.ws (Cq (HI m b)) (m,s.freed)=q at *;have z:=(N2 v.inv v.inv2 b).len;have o:=v.release b;have rs:=X6 q.1 b z;have rb:=(Qz q.1 b).2.2.2.2;generalize (CZ q.1 b).2=m' at *;have w:∀ a,¬ (a ∈ Cq (HI m b)/\C0 s a=0)->Ge m m' a:=fun a d=>((y a).2 d).trans (rs a);have f:∀ a,B5 m s a=true->Ge m m' a:=fun a d=>w a fun j=>(AP.1 d).2 j.2;have g:∀ a,Aw m' a=true->Ge m m' a/\(C0 s a=0->a/64≠b):=fun a d=>by
    have u:¬ (a ∈ Cq (HI m b)/\C0 s a=0):=fun j=>by
     have:=(y a).1 j;rw[(rs a).has,this] at d; cases d
    refine ⟨w a u,fun h0 he=>u ⟨?_,h0⟩⟩;have hm:Aw m a=true:=by rw[<- (w a u).has]; exact d
    obtain ⟨c,e,_,_,k⟩:=gg t hm;rw[<- he,e]; exact k
   have hlen:m'.bls.length=m.bls.length:=z.trans C;have n:m'.births=m.births:=rb.trans B;unfold PQ;by_cases h0:l=[]
   ·subst h0;simp only[Aat];have i:∀ a,Aw m' a=true->B5 m s a=true:=fun a d=>by
     obtain ⟨s1,s2⟩:=g a d;have hm:Aw m a=true:=by rw[<- s1.has]; exact d
     refine AP.2 ⟨hm,fun k=>?_⟩;have:=h.wh a hm k;rw[p] at this;exact s2 k (by simpa using this)
    refine ⟨.inl ⟨(by first | rfl | trivial),⟨fun a d x=>?_,fun a d=>?_,fun a d=>?_⟩⟩,o,n,hlen,trivial,trivial,f,fun a d=>(g a d).1,fun _=>i⟩
    ·have hs:=i a d;rw[(f a hs).AE];refine (h.rf a hs x).imp id fun j=>?_;rw[(f _ j).has]; exact (AP.1 j).1
    ·refine (h.ld a d).imp id fun j=>?_;rw[(f _ j).has]; exact (AP.1 j).1
    ·have hm:Aw m a=true:=by rw[<- (g a d).1.has]; exact d
     have:=kA (s:={ s with freed:=q.2 }) (m:=m) hw (ph:=0) (l:=[]) hm;exact this
   ·simp only[Aaz h0];have A:∀ a,B5 m' { s with left:=l,freed:=q.2 } a=(Aw m' a && decide (C0 s a≠0)):=fun a=>rfl;have up:∀ a,B5 m s a=true->B5 m' { s with left:=l,freed:=q.2 } a=true:=fun a d=>by
     rw[A,(f a d).has,(AP.1 d).1,Aak (AP.1 d).2]; rfl
    have down:∀ a,B5 m' { s with left:=l,freed:=q.2 } a=true->B5 m s a=true:=fun a d=>by
     rw[A,Ads,Ad4] at d;exact AP.2 ⟨by rw[<- (g a d.1).1.has]; exact d.1,d.2⟩
    refine ⟨.inr ⟨hp,⟨fun a d x=>?_,fun a d=>(h.ld a d).imp id (up a),fun a d k=>?_⟩,up⟩,o,n,hlen,trivial,trivial,f,fun a d=>(g a d).1,fun j=>by rw[hp] at j; cases j⟩
    ·have hs:=down a d;rw[(f a hs).AE];exact (h.rf a hs x).imp id (up _)
    ·obtain ⟨s1,s2⟩:=g a d;have hm:Aw m a=true:=by rw[<- s1.has]; exact d
     have:=h.wh a hm k;rw[p] at this;exact (Acd.1 this).resolve_left (s2 k)
theorem qO (i:MK m) (T:Qj m.bls.length s) (h:IF m r s) (hp:s.ph≠0) (B:KI K m r s):Abi K m r s (FU m r s).1 (FU m r s).2:=by
 have hw:Wl m s:=T.wl;have f:=Zc.unit (r:=r) i hw h.zc
 revert f
 rcases h.st with ⟨h0,_⟩ | ⟨h1,hm⟩ | ⟨t,hs⟩
 ·exact absurd h0 hp
 ·have j:s.ph≠2:=by rw[h1]; decide
  have d:=B.1 h1;have G:Rel K m m:=Rel.refl fun a b=>⟨(d a b).has,fun x=>hm.rf a (d a b).has x⟩;unfold FU;rw[Aaz j];by_cases k:s.list≠[]
  ·rw[Aay k];obtain ⟨Z,p2,E,p4,F⟩:=qk i hw hm;intro f;exact ⟨⟨f,by rw[p4,E]; exact h.bn,.inr (.inl ⟨F.trans h1,Z⟩)⟩,G,⟨fun _=>d,fun c=>absurd (F.symm.trans c) j⟩,rfl,rfl,i,E,fun a b=>⟨b,rfl⟩⟩
  ·rw[Aaz k];have k:s.list=[]:=Af0.1 k;unfold Xm;simp only;by_cases he:(NI m (if s.look=true then AA m s (AW r) else s)).list≠[]
   ·rw[Aay he];have u:tC m r (if s.look=true then AA m s (AW r) else s)/\Wl m (if s.look=true then AA m s (AW r) else s)/\(if s.look=true then AA m s (AW r) else s).ph=s.ph/\(if s.look=true then AA m s (AW r) else s).look=s.look/\(if s.look=true then AA m s (AW r) else s).born=s.born:=by
     split
     ·obtain ⟨o,q2,p,q4,v⟩:=Dx m (AW r) s;exact ⟨hm.HJ hw _,by unfold Wl; rw[KW]; exact hw,o,p,v⟩
     ·exact ⟨hm,hw,rfl,rfl,rfl⟩
    generalize (if s.look=true then AA m s (AW r) else s)=s1 at *;obtain ⟨U,W,C,D,X⟩:=u;unfold NI;intro f;obtain ⟨o,q2,p,q4,v⟩:=Dx m (Qs m s1 (DW m)) s1;have Y:=U.HJ W (Qs m s1 (DW m));generalize AA m s1 (Qs m s1 (DW m))=s2 at *;exact ⟨⟨f,by rw[v,p,X,D]; exact h.bn,.inr (.inl ⟨o.trans (C.trans h1),Y⟩)⟩,G,⟨fun _=>d,fun c=>absurd ((o.trans C).symm.trans c) j⟩,rfl,rfl,i,p.trans D,fun a b=>⟨b,rfl⟩⟩
   ·have he:(NI m (if s.look then AA m s (AW r) else s)).list=[]:=Af0.1 he;rw[Aaz (by rw[he]; simp)];have S:=(Yz i hw k he).1;obtain ⟨H,I,J,L,a5,⟨Q,V⟩,_⟩:=pX i hw hm k he d;have q:NI m (if s.look=true then AA m s (AW r) else s)=s:=S;rw[q];intro f;exact ⟨⟨f,h.bn,.inr (.inr ⟨rfl,H⟩)⟩,I,⟨fun c=>(by cases c),fun _=>J⟩,V.brt,by rw[V.bls],L,rfl,fun a b=>⟨by rw[<- V.has]; exact b,V.idn a⟩⟩
 ·have e:=B.2 t;unfold FU;rw[Aay t];intro f;obtain ⟨w,M,N,O,y,P,z,A,_⟩:=mF i hw t hs;refine ⟨⟨f,by rw[P,y]; exact h.bn, ?_⟩,fun a b=>?_, ?_,N,O,M,y,fun a b=>⟨by rw[<- (A a b).has]; exact b,(A a b).idn⟩⟩
  ·rcases w with ⟨g,n⟩ | ⟨g,n,_⟩
   ·exact .inl ⟨g,n⟩
   ·exact .inr (.inr ⟨g,n⟩)
  ·have l:=z a (e a b);refine ⟨by rw[l.has]; exact (AP.1 (e a b)).1,l.shp,l.idn,l.uF,fun x=>.inl ⟨l.AE _,(hs.rf a (e a b) x).imp id fun c=>?_⟩⟩;have:=z _ c;exact ⟨by rw[this.has]; exact (AP.1 c).1,this.idn⟩
  ·rcases w with ⟨g,n⟩ | ⟨g,n,x3⟩
   ·exact ⟨fun c=>(by rw[g] at c; cases c),fun c=>(by rw[g] at c; cases c)⟩
   ·exact ⟨fun c=>(by rw[g] at c; cases c),fun _ a b=>x3 a (e a b)⟩
theorem dK (k:MK m) (h:IF m r s) (l:Qj m.bls.length s) (hp:s.ph=0) (n:s.list=[]):IF m r (Hd m r s)/\(Hd m r s).ph=1:=by
 have hi:IdI m r s:=by
  rcases h.st with ⟨_,h⟩ | ⟨h1,_⟩ | ⟨h1,_⟩
  ·exact h
  ·rw[hp] at h1; cases h1
  ·rw[hp] at h1; cases h1
 unfold Hd;have hw:Wl m { s with freed:=0,ph:=1 }:=l.wl;have o:Zc m (AA m { s with freed:=0,ph:=1 } (AW r)):=Zc.HJ _ (show Zc m { s with freed:=0,ph:=1 } from h.zc) hw;obtain ⟨j,t,p,u,q⟩:=Dx m (AW r) { s with freed:=0,ph:=1 };have d:∀ a,Aw m a=true->C0 (AA m { s with freed:=0,ph:=1 } (AW r)) a=if a ∈ AW r then 1 else 0:=fun a c=>by
  rw[HK _ _ hw c];have h0:C0 { s with freed:=0,ph:=1 } a=0:=hi.c0 a c;rw[h0];by_cases g:a ∈ AW r
  ·rw[Aay ⟨rfl,g⟩,Aay g]
  ·rw[Aaz (fun i=>g i.2),Aaz g]
 have e:=fun x=>KN (AW r) { s with freed:=0,ph:=1 } hw x;generalize AA m { s with freed:=0,ph:=1 } (AW r)=s1 at *;have nb:∀ a,Aw m a=true->C0 s1 a≠2:=fun a c=>by
  rw[d a c]; split <;> decide
 refine ⟨⟨o,by rw[q,p]; exact h.bn,.inr (.inl ⟨j,hi.rf,hi.ld,⟨fun a c=>?_,fun a c h1=>?_,fun a c=>?_⟩,fun _ a b c f=>absurd f (nb a c),fun _=>⟨fun a b c f=>absurd f (nb a c),fun a c i=>?_⟩⟩)⟩,j⟩
 ·rw[d a c]; split <;> decide
 ·rw[d a c] at h1;rw[e];split at h1
  ·rename_i g; exact .inr ⟨g,c,hi.c0 a c⟩
  ·cases h1
 ·rcases (e a).1 c with h1 | ⟨h1,f,_⟩
  ·have h1:a ∈ s.list:=h1;rw[n] at h1; cases h1
  ·refine AP.2 ⟨f, ?_⟩;rw[d a f,Aay h1]; decide
 ·exact .seen (AP.2 ⟨i,by rw[d a i,Aay (Jt.2 ⟨c,Nx k i⟩)]; decide⟩)
end
section
local instance qKJ:AJ:=Ao
variable {J:Aa} {m m':HM} {r:D4} {s:TC} {i:Cs} {p:PI} {c:CI}
def Clm (m m':HM):Prop:=m'=m \/ ∃ b c x y a d:Int,x≠0/\(a≠0\/c=1)/\m'=(BF m b c x y a d).2
theorem Clm.ok (f:MK m) (h:Clm m m'):MK m'/\(∀ a,Ge m m' a)/\m'.births=m.births/\m'.bls.length=m.bls.length:=by
 rcases h with rfl | ⟨b,c,x,y,d,e,h1,j,rfl⟩
 ·exact ⟨f,Ge.refl _,rfl,rfl⟩
 ·obtain ⟨_,_,g,i⟩:=OJ m b c x y d e;exact ⟨f.bH b c x y d e h1 j,nA m b c x y d e,i,g⟩
def xP (m:HM) (a:AS) (w:Int):PR:=if w>32 then cA m a w else Q0 m a (cp m a.s 0 w.toNat)
theorem qm (m:HM) (a:AS) (w:Int):Clm m (xP m a w).2.1/\(xP m a w).2.2=a:=by
 unfold xP;split
 ·unfold cA;split
  ·rename_i b hb;exact ⟨.inr ⟨_,_,_,_,_,_,by decide,.inl (by decide),rfl⟩,rfl⟩
  ·exact ⟨.inl rfl,rfl⟩
 ·unfold Q0;split
  ·exact ⟨.inl rfl,rfl⟩
  ·split
   ·exact ⟨.inr ⟨_,_,_,_,_,_,by decide,.inr rfl,rfl⟩,rfl⟩
   ·exact ⟨.inl rfl,rfl⟩
theorem rV (e:m.bls.length<=64) {s:Int} {w:Nat}:∀ g ∈ cp m s 0 w,g.1<=4096:=by
 intro g c;unfold cp at c;obtain ⟨d,h0,a⟩:=List.mem_filterMap.1 c;unfold Yv at h0;obtain ⟨b,_,hb⟩:=Afu.1 h0;have:=fU e _ d hb;unfold ey at a;split at a
 ·rename_i hw;cases a; dsimp only; omega
 ·cases a
theorem qc {c:Nat} {s:Int}:∀ {n x b:Nat},wD m c s n x=some b->b<=m.bls.length
 | 0,x,b,h=>by cases h
 | n+1,x,b,h=>by
   unfold wD at h;split at h
   ·split at h
    ·cases h; omega
    ·exact qc h
   ·cases h
theorem xQ (d:m.bls.length<=64) (a:AS) (w:Int):0<=(xP m a w).1.1/\(xP m a w).1.1<=10000:=by
 unfold xP;split
 ·unfold cA;split
  ·rename_i b hb;have:=qc hb;dsimp only; omega
  ·dsimp only; omega
 ·unfold Q0;split
  ·rename_i g l c;have:=rV (m:=m) d (s:=a.s) (w:=w.toNat) g (by rw[c]; exact Acj);dsimp only; omega
  ·split
   ·rename_i b hb;have:=nN hb;dsimp only; omega
   ·dsimp only; omega
structure AlR (m m':HM) (v e:Int) (sh:Int × Int × Int):Prop where
 hm:MK m'
 len:m'.bls.length=m.bls.length
 b2:m'.births<=m.births+1
 st:(e=0/\mU m m' v sh/\valid sh.1 sh.2.1 sh.2.2=true)\/(e≠0/\(valid sh.1 sh.2.1 sh.2.2=true->e=6)/\(∀ a,Ge m m' a)/\m'.births=m.births)
theorem mU.back {d e f:HM} {a:Int} {i:Int × Int × Int} (h:∀ a,Ge d e a) (hb:e.births=d.births) (g:mU e f a i):mU d f a i:=
 ⟨by rw[<- (h a).has]; exact g.IY,g.has,fun b c=>(h b).trans (g.same b c),g.shp,by rw[g.idn,hb],g.ref,by rw[g.brt,hb]⟩
theorem jS (k:MK m) (a:AS) (rr d g:Int) (c:PR) (l:Clm m c.2.1):AlR m (Ry m a rr d g c).2.1 (Ry m a rr d g c).1.1 (Ry m a rr d g c).1.2 (rr,d,g):=by
 obtain ⟨b,h,f,i⟩:=l.ok k;unfold Ry;split
 ·rename_i j;split
  ·split
   ·split
    ·rename_i h0;obtain ⟨v1,_⟩:=oz b.inv b.inv2 b.sh h0;refine ⟨b.place _ _ _ _, ?_, ?_,.inl ⟨rfl,v1.back h f,j⟩⟩
     ·show (CX _ _ _ _ _).2.2.bls.length=_;rw[(PX _ _ _ _ _).1,i]
     ·show (CX _ _ _ _ _).2.2.births<=_;rw[v1.brt,f]; exact Afp _
    ·rename_i h0;have e:(CX c.2.1 c.1.1 rr d g).2.2=c.2.1:=(Uv b.inv b.inv2 b.sh c.1.1 rr d g).err h0;refine ⟨by show MK (CX _ _ _ _ _).2.2; rw[e]; exact b,by show (CX _ _ _ _ _).2.2.bls.length=_; rw[e]; exact i,by show (CX _ _ _ _ _).2.2.births<=_; rw[e,f]; omega,.inr ⟨by dsimp only; decide,fun _=>rfl, ?_, ?_⟩⟩
     ·show ∀ a,Ge m (CX _ _ _ _ _).2.2 a;rw[e]; exact h
     ·show (CX _ _ _ _ _).2.2.births=_;rw[e]; exact f
   ·exact ⟨b,i,by dsimp only; omega,.inr ⟨by dsimp only; decide,fun _=>rfl,h,f⟩⟩
  ·exact ⟨b,i,by dsimp only; omega,.inr ⟨by dsimp only; decide,fun _=>rfl,h,f⟩⟩
 ·rename_i j;exact ⟨k,rfl,by dsimp only; omega,.inr ⟨by dsimp only; decide,fun n=>absurd n j,Ge.refl m,rfl⟩⟩
theorem Abz {nb:Nat} {ws:List (BitVec 64)} (b:ws.length=(32*nb*2+63)/64) {j:Nat} (a:j<32*nb) (h0:CJ 2 ws j=0) (y:Nat):CJ 2 (FB 2 ws j 0) y=CJ 2 ws y:=by
 rw[OB b a (by decide)];split
 ·rename_i e; rw[e,h0]
 ·rfl
theorem Qj.zX {nb:Nat} (h:Qj nb s) {j v:Nat} (a:j<32*nb) (c:v<4) (h0:v≠0\/CJ 2 s.ws j=0):Qj nb (Eh s ((2*j:Nat):Int) v):=by
 by_cases b:v=0
 ·subst b;have h0:=h0.resolve_left (fun h=>h rfl);have e:WZ nb (FB 2 s.ws j 0)=WZ nb s.ws:=by
   unfold WZ;congr 1;funext y;rw[Abz h.wl a h0]
  refine ⟨by show (FB 2 s.ws _ 0).length=_; rw[Ek]; exact h.wl, ?_,h.lr,h.lf,h.l0,h.s2⟩;show s.list.length<=WZ nb (FB 2 s.ws (((2*j:Nat):Int).toNat/2) 0);rw[HL,e]; exact h.ls
 ·exact h.cV a c b
theorem jY (k:Nat) (p:qOi) (n:Int) (J:Aa):IJ k (.func (.method "dustcart/alloc.place") #[cZ 0] #[]) [qVi p,qIi n] J=Hh k p n J:=by
 simp only[IJ,Hh,Ac]; kernel_rfl
theorem qP (k:Nat) (s:5000<=k) {ab:Nat} {a:AS} (hp:a.p=0) (h:Al J i m) (hA:Ec J ab i a) (b:ab ∉ i.l) (l:a.ok) (f:MK m) (hb:m.births<1000000) (rr d c:Int):
  yu (De (k+13) (Qk ab) rr d c J) J i ab (Ry m a rr d c (xP m a (words rr d c))):=by
 obtain ⟨p,r⟩:=qm m a (words rr d c);obtain ⟨n,_,o,_⟩:=p.ok f;refine tE k s h hA b l _ (fun e J0_ j A0=>?_) (fun e=>n.inv) (fun e=>by rw[o]; exact hb) (fun e=>xQ f.nt a _) (fun e=>by rw[r]);have hw:=tz e;obtain ⟨w,g⟩:∃ w:Nat,words rr d c=(w:Int):=⟨(words rr d c).toNat,by omega⟩;rw[g];unfold xP plV;rw[IT];by_cases q:(w:Int)>32
 ·rw[Aay q,Aay q,Mq];exact uS (k+3) (by omega) j A0 b (by omega)
 ·rw[Aaz q,Aaz q,hp,show (0:Int).toNat=0 from rfl,jY];exact cd k (by omega) j A0 b l f.inv f.b0 (by omega)
def Gg (m:HM) (sp rr d a:Int):(Int × Int) × HM × AS:=Ry m ⟨sp,0,0,0,0,0⟩ rr d a (xP m ⟨sp,0,0,0,0,0⟩ (words rr d a))
theorem Zk (b:MK m) (sp rr d a:Int):AlR m (Gg m sp rr d a).2.1 (Gg m sp rr d a).1.1 (Gg m sp rr d a).1.2 (rr,d,a):=jS b _ rr d a _ (qm _ _ _).1
def K6 (s:TC):Nat:=if s.ph=1 then s.born.toNat else if s.ph=2 then 2 else 0
def NV (m:HM) (s:TC) (sp rr d a:Int):TC:=if (Gg m sp rr d a).1.2=0 then Eh s (Gg m sp rr d a).1.1 (K6 s) else s
theorem mI (k:Nat) (hk:5000<=k) (T:Li J i p c m r s) (hb:m.births<1000000) (hz:Zc m s) (F:s.ph=0\/s.ph=1\/s.ph=2) (u:s.born=0\/s.born=2) (rr d b:Int) {sp:Int} (x:0<=sp/\sp<8):
  ∃ J',Jo (k+14) (Dz c) rr d b sp J=some (.tuple #[qIi (Gg m sp rr d b).1.1,qIi (Gg m sp rr d b).1.2],J')/\Li J' i p c (Gg m sp rr d b).2.1 r (NV m s sp rr d b)/\Mv (i.l++c.l) (i.l++c.l) J J':=by
 obtain ⟨B0,t⟩:∃ B0,Au.cells [qIi rr,qIi d,qIi b] Ad true=B0:=⟨_,rfl⟩;have y:∀ Z:Aa,Z[J.length]?=some B0->Aj .i64 Z J.length 0=some rr/\Aj .i64 Z J.length (0+1)=some d/\Aj .i64 Z J.length (0+1+1)=some b:=fun Z hm=>by
  simp[Aj,CW,hm,<- t,Bk]
 have T1:=T.app [B0];have I:(J++[B0])[J.length]?=some B0:=Ab5;obtain ⟨l0,l1,l2⟩:=y _ I;have em:AO (k+13) (Dz c) (J++[B0])=_:=Kc (k+12) T1.co;obtain ⟨H,C⟩:=Ny (k+12) rr d b (J++[B0]);have C:EV (k+13) rr d b (J++[B0])=_:=C;rw[Vr];simp only[Ae,t,em,AI,An,Aa4,By,l0,l1,l2,C];cases hv:valid rr d b with
 | false=>
   simp only[Adi,IS];have K:Gg m sp rr d b=((0,2),m,⟨sp,0,0,0,0,0⟩):=by unfold Gg Ry; rw[hv]; rfl
   refine ⟨_,by rw[K], ?_,(Mv.app _ _ _).trans (Mv.app _ _ _)⟩;unfold NV;rw[K,Aaz (show ¬ (2:Int)=0 by decide)];exact T1.app H
 | true=>
   have T2:=T1.app H;obtain ⟨J1_,n,⟨τ2,f⟩⟩:=wF (k+10) T2.h sp 0;have n:LU (k+13) (AU i) sp 0 (J++[B0]++H)=_:=n;rw[Aay ⟨x,by decide⟩] at n;obtain ⟨A0,o⟩:∃ A0,Au.cells ((⟨sp,0,0,0,0,0⟩:AS).row i.hb) Cz true=A0:=⟨_,rfl⟩;rw[o] at n;have T3:Li (J1_++[A0]) i p c m r s:=by rw[f]; exact (T2.app τ2).app _
   have hA:Ec (J1_++[A0]) J1_.length i ⟨sp,0,0,0,0,0⟩:=by rw[<- o]; exact Ab5
   have O:J.length<J1_.length:=by rw[f]; simp only[Aaw,Ac3]; omega
   have E:J1_.length ∉ i.l:=fun w=>by have:=T.h.lt _ w; omega
   have S:(J1_++[A0])[J.length]?=some B0:=by
    rw[f,AT (by simp only[Aaw,Ac3]; omega),AT (by simp only[Aaw,Ac3]; omega),AT (by simp)];exact I
   obtain ⟨l3,l4,l5⟩:=y _ S;obtain ⟨J2_,A,B,_,M⟩:=qP k hk (a:=⟨sp,0,0,0,0,0⟩) rfl T3.h hA E ⟨x,by dsimp only; omega,by dsimp only; omega,by dsimp only; omega,by dsimp only; omega,by dsimp only; omega⟩ T.mo hb rr d b;have V:=Zk T.mo sp rr d b;have A:De (k+13) (Qk J1_.length) rr d b (J1_++[A0])=some (.tuple #[qIi (Gg m sp rr d b).1.1,qIi (Gg m sp rr d b).1.2],J2_):=A;have B:Al J2_ i (Gg m sp rr d b).2.1:=B;unfold NV;generalize Gg m sp rr d b=z at *;obtain ⟨⟨v,e⟩,m',a'⟩:=z;simp only at A B V ⊢;have T4:Li J2_ i p c m' r s/\Mv (i.l++c.l) (i.l++c.l) J J2_:=by
    have hl:=M.len;rw[Aaw,Ac3] at hl;have low:∀ q,q<J.length->(J1_++[A0])[q]?=J[q]?:=fun q G=>by
     rw[f,AT (by simp only[Aaw,Ac3]; omega),AT (by simp only[Aaw,Ac3]; omega),AT (by simp only[Aaw,Ac3]; omega),AT G]
    have N:Br i J J2_:=⟨by omega,fun q G hn=>by rw[M.same q (by rw[Aaw]; omega) hn (by omega),low q G]⟩;exact ⟨T.gf B N V.hm V.len,N.mv.left c.l⟩
   simp only[Aa4,By,AI,T2.co.H7,IN,Aa0] at *;simp only[n,LK,Abx,By,l3,l4,l5,AI,A,B6];by_cases h0:e=0
   ·subst h0;rcases V.st with ⟨_,Q,_⟩ | ⟨w,_⟩
    rotate_left
    ·exact absurd rfl w
    obtain ⟨j,rfl,hs⟩:=AY Q.has;have g:K6 s<4:=by
     unfold K6;split
     ·rcases u with h | h <;> rw[h] <;> decide
     ·split <;> decide
    have hj:j<32*m.bls.length:=by have:=hs.1; rw[V.len] at this; exact this
    obtain ⟨J3_,D,h4,P⟩:=cW (k+3) T4.1.co hs.1 g;have D:CO (k+13) (Dz c) ((2*j:Nat):Int) (K6 s:Int) J2_=_:=D;have hzero:CJ 2 s.ws j=0:=Adv fun w=>by
     have:=hz j hj w;rw[Q.IY] at this; cases this
    have tk:Qj m'.bls.length (Eh s ((2*j:Nat):Int) (K6 s)):=T4.1.tok.zX hs.1 g (.inr hzero);refine ⟨J3_, ?_, ?_,T4.2.trans (P.right i.l)⟩
    ·have hc:∃ l,([qIi 0,qIi s.born,qIi 2]:List Value)[s.ph.toNat*1]?=some l/\Bk .i64 l=some (K6 s:Int)/\(0<=s.ph/\s.ph<((3:Nat):Int)):=by
      unfold K6;rcases F with h | h | h <;> rw[h]
      ·exact ⟨_,rfl,rfl,by decide⟩
      ·rcases u with L | L <;> rw[L] <;> exact ⟨_,rfl,rfl,by decide⟩
      ·exact ⟨_,rfl,rfl,by decide⟩
     obtain ⟨l,U,W,X⟩:=hc;have Y:Aj .i64 J2_ c.cb 3=some s.born:=by simp[Aj,CW,T4.1.co.cell,GG,Bk]
     simp only[Ad1,IS,AI,Y,T4.1.co.eR,Aay X,U,W,D,Gi,Aat]
    ·rw[Aay rfl];exact T4.1.Qm h4 P tk
   ·rw[show (e == 0)=false from by simpa using h0];simp only[By,AI,Aat];exact ⟨J2_,rfl,by rw[Aaz h0]; exact T4.1,T4.2⟩
end
section
local instance qKL:AJ:=Ao
variable {J:Aa} {m m':HM} {r:D4} {s:TC} {i:Cs} {p:PI} {c:CI} {kb:Nat}
abbrev KP (kb:Nat):qOi:=some ⟨kb,0,none⟩
structure VS (J:Aa) (kb:Nat) (i:Cs) (p:PI) (c:CI) (m:HM) (r:D4) (s:TC):Prop where
 col:J[kb]?=some (.cells [qVi (Dz c)] IE true)
 t:Li J i p c m r s
 nk:kb ∉ i.l/\kb ∉ p.l/\kb ∉ c.l
theorem VS.app (h:VS J kb i p c m r s) (τ:Aa):VS (J++τ) kb i p c m r s:=⟨(AT (Af h.col)).trans h.col,h.t.app τ,h.nk⟩
theorem VS.core (k:Nat) (h:VS J kb i p c m r s):Ap (k+1) (KP kb) J=some (qVi (Dz c),J):=by
 have a:B9 J kb 0=some (Dz c):=by simp[B9,CW,h.col,HR]
 rw[LB];simp only[show Lq P DU (qVi (KP kb)) (qVi none)=some false from by kernel_rfl,AI,By,IN,a]
def KG (mm:Option (Value × Aa)) (J:Aa) (kb:Nat) (i:Cs) (p:PI) (c:CI) (r:D4) (v:Value) (q:HM × TC):Prop:=
 ∃ J' a,mm=some (v,J')/\VS J' kb i p a q.1 r q.2/\Mv (i.l++c.l) (i.l++a.l) J J'/\a.cb=c.cb
theorem VS.go (h:VS J kb i p c m r s) {mm mm':Option (Value × Aa)} {v w:Value} {q:HM × TC} (g:TG mm J i p c r v q) (e:∀ J',mm=some (v,J')->mm'=some (w,J')):KG mm' J kb i p c r w q:=by
 obtain ⟨J',f,j,T,hm,b⟩:=g;have d:kb ∉ i.l++c.l:=fun a=>(Aas.1 a).elim h.nk.1 h.nk.2.2;have lt:=Af h.col;refine ⟨J',f,e J' j,⟨?_,T,h.nk.1,h.nk.2.1,fun a=>?_⟩,hm,b⟩
 ·rw[hm.same kb lt d,h.col]; unfold Dz; rw[b]
 ·rcases hm.new kb (Aas.2 (.inr a)) with h1 | h1
  ·exact d h1
  ·omega
theorem Yy (k:Nat) (b:5000<=k) (h:VS J kb i p c m r s) (hp:s.ph=0) (hs:U9 m r=true):KG (Bt (k+14) (KP kb) J) J kb i p c r (qIi 0) (m,Hd m r s):=
 h.go (ud k b h.t hp hs) fun J' e=>by
  rw[P7];have a:Ap (k+13) (KP kb) J=_:=h.core (k+12);simp only[a,AI,HR,e,Ah]
theorem kM (k:Nat) (d:20000<=k) (h:VS J kb i p c m r s) {N:Nat} (h1:1<=N) (b:N<=10000):KG (Cd (k+17) (KP kb) (N:Int) J) J kb i p c r (.tuple #[qIi ((Dr r N (m,s)).1:Int),qIi 0]) (Dr r N (m,s)).2:=
 h.go (xf k d h.t h1 b) fun J' e=>by
  rw[Qq];have a:Ap (k+16) (KP kb) J=_:=h.core (k+15);simp only[a,AI,HR,e,B6]
theorem cz (k:Nat) (j:20000<=k) (h:VS J kb i p c m r s):KG (Bm (k+17) (KP kb) J) J kb i p c r (.tuple #[qIi ((Dr r 7000 (m,s)).1:Int),qIi 0]) (bS r (m,s)):=by
 have em:AO (k+15) (Dz c) J=_:=Kc (k+14) h.t.co;obtain ⟨J',d,e,a,m',b,l⟩:=Rs k (by omega) c.cb 7000 0 (k+15) J c m s h.t rfl (ib h.t.tok h.t.mo.nt) (by omega) (by omega);rw[show ((0:Nat):Int)=0 from rfl] at e;have g:Ha (k+16) (Dz c) J=some (.tuple #[qIi ((Dr r 7000 (m,s)).1:Int),qIi 0],J'):=by
  rw[NH];simp only[em,AI,An,Aa4,By,e,Aat,Em,IN]
 refine h.go ⟨J',d,g,a,m',b⟩ fun J' e=>?_;rw[KA];have f:Ap (k+16) (KP kb) J=_:=h.core (k+15);simp only[f,AI,HR,e,B6]
theorem Yx (k:Nat) (h:VS J kb i p c m r s):Bs (k+3) (KP kb) J=some (qIi s.ph,J):=by
 rw[P6];have a:Ap (k+2) (KP kb) J=_:=h.core (k+1);have b:Jq (k+2) (Dz c) J=some (qIi s.ph,J):=by
  rw[Vt];simp only[Kc k h.t.co,AI,An,Aa4,By,IN,Aa0,h.t.co.eR]
 simp only[a,AI,HR,b,Ah]
theorem sf (k:Nat) (h:VS J kb i p c m r s):E7 (k+3) (KP kb) J=some (qIi s.freed,J):=by
 rw[P5];have a:Ap (k+2) (KP kb) J=_:=h.core (k+1);have b:Jp (k+2) (Dz c) J=some (qIi s.freed,J):=by
  rw[Vs];have em:AO (k+1) (Dz c) J=_:=Kc k h.t.co;simp only[em,AI,An,Aa4,By,IN,Aa0,h.t.co.ld8]
 simp only[a,AI,HR,b,Ah]
theorem kL (k:Nat) (h:VS J kb i p c m r s):∃ l τ,Db (k+3) (KP kb) J=some (.slice l.1 l.2.1 l.2.2,J++τ)/\Bf (J++τ) l s.list:=by
 have e:=h.t.mo.nt;have hlen:=h.t.tok.len;obtain ⟨l,τ,a,li,_⟩:=WY k c.ls.1 s.list.length s.list (by omega) h.t.co.ls.holds;refine ⟨l,τ, ?_,li⟩;rw[Qo];have b:Ap (k+2) (KP kb) J=_:=h.core (k+1);have d:JV (k+2) (Dz c) J=some (.slice l.1 l.2.1 l.2.2,J++τ):=by
  rw[Wm];have em:AO (k+1) (Dz c) J=_:=Kc k h.t.co;simp only[em,AI,An,Aa4,By,IN,Aa0,h.t.co.uT,a,Eo]
 simp only[b,AI,HR,d,Eo]
def xx (m:HM) (s:TC) (a:Int):Int:=if Aw m a then (C0 s a:Int) else -1
theorem nR (k:Nat) (h:VS J kb i p c m r s) (a:Int) (g:AQ a):Eb (k+7) (KP kb) a J=some (qIi (xx m s a),J):=by
 have b:Ap (k+6) (KP kb) J=_:=h.core (k+5);have em:AO (k+5) (Dz c) J=_:=Kc (k+4) h.t.co;have d:Bd (k+5) (AU i) a J=_:=Tm (k+1) h.t.h a g;have f:IA (k+6) (Dz c) a J=some (qIi (xx m s a),J):=by
  rw[Uc];simp only[em,AI,An,Aa4,By,IN,Aa0,h.t.co.H7,d];unfold xx;cases j:Aw m a with
  | false=>rfl
  | true=>
    have e:CG (k+5) (Dz c) a J=_:=oq (k+1) h.t.co j;simp only[Aa4,By,e,AI,Ah,Aat]
 rw[Pa];simp only[b,AI,HR,f,Ah]
theorem Yw (k:Nat) (x:5000<=k) (h:VS J kb i p c m r s) (hb:m.births<1000000) (y:Zc m s) (g:s.ph=0\/s.ph=1\/s.ph=2) (f:s.born=0\/s.born=2) (rr d a:Int) {sp:Int} (j:0<=sp/\sp<8):
  KG (BB (k+15) (KP kb) rr d a sp J) J kb i p c r (.tuple #[qIi (Gg m sp rr d a).1.1,qIi (Gg m sp rr d a).1.2]) ((Gg m sp rr d a).2.1,NV m s sp rr d a):=by
 obtain ⟨B0,b⟩:∃ B0,Au.cells [qIi rr,qIi d,qIi a] Ad true=B0:=⟨_,rfl⟩;have h1:=h.app [B0];obtain ⟨J',e,T,hm⟩:=mI k x h1.t hb y g f rr d a j;have n:(J++[B0])[J.length]?=some B0:=Ab5;have ld:Aj .i64 (J++[B0]) J.length 0=some rr/\Aj .i64 (J++[B0]) J.length (0+1)=some d/\Aj .i64 (J++[B0]) J.length (0+1+1)=some a:=by
  simp[Aj,CW,n,<- b,Bk]
 obtain ⟨z,A,B⟩:=ld;obtain ⟨J2_,t,u,w,C,o⟩:=h1.go (q:=((Gg m sp rr d a).2.1,NV m s sp rr d a)) ⟨J',c,e,T,hm,rfl⟩ (mm':=some (.tuple #[qIi (Gg m sp rr d a).1.1,qIi (Gg m sp rr d a).1.2],J')) (fun J' l=>by rw[e] at l; rw[Aej l]);refine ⟨J2_,t, ?_,w,(Mv.app _ _ _).trans C,o⟩;have v:Ap (k+14) (KP kb) (J++[B0])=_:=h1.core (k+13);rw[Pz];simp only[Ae,b,v,AI,HR,z,A,B,e,B6];exact u
def IC (m:HM) (s:TC) (a:Int):TC:=if s.ph=1 then Cx m s a else s
theorem XQ (k:Nat) (T:Li J i p c m r s) (a:Int) (f:AQ a):TG (CS (k+12) (Dz c) a J) J i p c r (.tuple #[]) (m,IC m s a):=by
 rw[Ud];simp only[AI,IN,T.co.eR];unfold IC;by_cases h:s.ph=1
 ·obtain ⟨J',d,e,b,hm,g⟩:=WS k T (by rw[h]; decide) a f;rw[Aay h,show (s.ph == 1)=true from by rw[h]; rfl];refine ⟨J',d, ?_,b,hm.right i.l,g⟩;simp only[IS,e,AI,Gi,Aat]
 ·rw[Aaz h,show (s.ph == 1)=false from by simpa using h];simp only[By,AI,Aat];exact ⟨J,c,rfl,T,Mv.refl _ _,rfl⟩
theorem tT (k:Nat) (T:Li J i p c m r s) (a x:Int) (b:AQ a):∃ τ,FM (k+8) (Dz c) a x J=some (.tuple #[qIi (AE m a x),qIi (KD m a x false).2],J++τ):=by
 obtain ⟨τ,e⟩:=V7 k T.h T.mo.inv a x b;have e:AM (k+7) (AU i) a x J=some (.tuple #[qIi (AE m a x),qIi (KD m a x false).2],J++τ):=e;refine ⟨τ, ?_⟩;rw[Xc];have em:AO (k+7) (Dz c) J=_:=Kc (k+6) T.co;simp only[em,AI,An,Aa4,By,IN,Aa0,T.co.H7,e,B6]
theorem ai (k:Nat) (T:Li J i p c m r s):Cr (k+1) (Dz c) J=some (qVi (AU i),J):=by
 rw[Wk];simp only[AI,IN,T.co.H7]
theorem oB (c:Inv m) {a x:Int} (h0:0<=x) (b:x<(Ag m a).1):(KD m a x false).2=0:=by
 have d:=dD b h0;obtain ⟨j,rfl,hs⟩:=AY d;rw[F6 hs] at b;obtain ⟨n,rfl⟩:∃ n:Nat,x=(n:Int):=⟨x.toNat,by omega⟩;unfold KD;rw[RR c hs b,Aay rfl]
theorem X4 (T:Li J i p c m r s) (a x:Int):AQ (AE m a x):=UO T.h.wi a x
end
section
local instance qKM:AJ:=Ao
variable {J:Aa} {m m':HM} {r:D4} {s:TC} {i:Cs} {p:PI} {c:CI} {kb:Nat}
def zV (m:HM) (s:TC) (a x IY:Int):TC:=if x=0/\(Ag m a).2.2=2 then IC m (IC m s IY) (AE m a 1) else IC m s IY
theorem TG.trans {mm mm':Option (Value × Aa)} {v w:Value} {q q':HM × TC} {J1_:Aa} {a:CI} (h:Mv (i.l++c.l) (i.l++a.l) J J1_) (j:a.cb=c.cb) (g:TG mm J1_ i p a r v q) (e:∀ J',mm=some (v,J')->mm'=some (w,J')):TG mm' J i p c r w q:=by
 obtain ⟨J',d,f,T,hm,b⟩:=g;exact ⟨J',d,e J' f,T,h.trans hm,b.trans j⟩
theorem Pf {b:Nat} {v:qOi} {T:TypeId} (h:J[b]?=some (.cells [qVi v] T true)):B9 J b 0=some v:=by simp[B9,CW,h,HR]
theorem vk (k:Nat) (h:VS J kb i p c m r s) (a x IY:Int) (B:AQ a) (F:AQ IY):KG (D6 (k+14) (KP kb) a x IY J) J kb i p c r (.tuple #[]) (m,zV m s a x IY):=by
 have G:=Pf h.col;obtain ⟨J1_,d,o,h1,z,n⟩:=h.go (XQ (k+1) h.t IY F) (fun _ e=>e);have o:CS (k+13) (Dz c) IY J=_:=o;have H:=Pf h1.col;have v:Cr (k+13) (Dz d) J1_=_:=ai (k+12) h1.t;unfold zV;rw[MR];simp only[AI,IN,Aa0,G,o,Gi];by_cases j:x=0;rotate_left
 ·rw[Aaz (fun y=>j y.1),show (x == 0)=false from by simpa using j];simp only[By,AI,Aat];exact ⟨J1_,d,rfl,h1,z,n⟩
 rw[show (x == 0)=true from by simpa using j];obtain ⟨τ,q⟩:=ik (k+6) h1.t.h a B;have q:EW (k+13) (AU i) a J1_=_:=q;have b:=h1.app τ;have I:=Pf b.col;have w:Cr (k+13) (Dz d) (J1_++τ)=_:=ai (k+12) b.t;simp only[IS,H,v,AI,HR,q,Ah];by_cases g:(Ag m a).2.2=2;rotate_left
 ·rw[Aaz (fun y=>g y.2),show ((Ag m a).2.2 == 2)=false from by simpa using g];simp only[By,AI,Aat];exact ⟨J1_++τ,d,rfl,b,z.trans (Mv.app _ _ _),n⟩
 rw[Aay ⟨j,g⟩,show ((Ag m a).2.2 == 2)=true from by simpa using g];obtain ⟨A,t⟩:=V7 (k+6) b.t.h b.t.mo.inv a 1 B;have t:AM (k+13) (AU i) a 1 (J1_++τ)=some (.tuple #[qIi (AE m a 1),qIi (KD m a 1 false).2],J1_++τ++A):=t;have f:=b.app A;have K:=Pf f.col;obtain ⟨l,D,u,E,L,C⟩:=f.go (XQ (k+1) f.t (AE m a 1) (X4 f.t a 1)) (fun _ e=>e);have u:CS (k+13) (Dz d) (AE m a 1) (J1_++τ++A)=_:=u;refine ⟨l,D, ?_,E,((z.trans (Mv.app _ _ _)).trans (Mv.app _ _ _)).trans L,C.trans n⟩;simp only[IS,I,w,AI,HR,t,B6,K,u,Gi,Aat]
def wE (m:HM) (s:TC) (a x to:Int):TC:=zV (BU m a x to).2 s a x (AE m a x)
theorem gi (k:Nat) (K:20<=k) (h:VS J kb i p c m r s) {a x to:Int} (g:AQ a) (j:AQ to) (h0:0<=x) (l:x<(Ag m a).1) (E:to=0\/Aw m to=true):KG (Ck (k+15) (KP kb) a x to J) J kb i p c r (qIi 0) ((BU m a x to).2,wE m s a x to):=by
 obtain ⟨H,V⟩:=U6 h.t.mo.inv h0 l E;obtain ⟨τ,b⟩:=tT (k+6) h.t a x g;rw[oB h.t.mo.inv h0 l] at b;have b:FM (k+14) (Dz c) a x J=_:=b;have h1:=h.app τ;obtain ⟨J2_,d,B,n⟩:=Tq (k+7) h1.t.h h1.t.mo.inv a x to g j;have d:CV (k+14) (AU i) a x to (J++τ)=some (qIi (BU m a x to).1,J2_):=d;rw[H] at d;have T2:=h1.t.gf B n (h1.t.mo.setRef a x to) (by rw[V.bls]);obtain ⟨o,I,f,C,F,t⟩:=h1.go (q:=((BU m a x to).2,s)) (mm:=some (qIi 0,J2_)) (mm':=some (qIi 0,J2_)) (v:=qIi 0) ⟨J2_,c,rfl,T2,n.mv.left c.l,rfl⟩ (fun _ e=>e);obtain ⟨_,rfl⟩:=Prod.mk.inj (Aej f);obtain ⟨J3_,w,y,D,G,u⟩:=vk k C a x (AE m a x) g (X4 h.t a x);refine ⟨J3_,w, ?_,D,((Mv.app _ _ _).trans F).trans G,u.trans t⟩;have A:Ap (k+14) (KP kb) J=_:=h.core (k+13);have z:Cr (k+14) (Dz c) (J++τ)=_:=ai (k+13) h1.t;rw[P8];simp only[A,AI,HR,b,B6,Abx,By,Pf h1.col,IN,Aa0,z,d,Ah,y,Gi]
def xI (m:HM) (s:TC) (a x:Int):TC:=if DV (Ag m a).2.2 x=true then IC m s (AE m a x) else s
theorem uN (k:Nat) (y:20<=k) (h:VS J kb i p c m r s) {a x:Int} (l:AQ a) (h0:0<=x) (v:x<(Ag m a).1):KG (ES (k+14) (KP kb) a x J) J kb i p c r (.tuple #[qIi (AE m a x),qIi 0]) (m,xI m s a x):=by
 obtain ⟨τ,d⟩:=tT (k+5) h.t a x l;rw[oB h.t.mo.inv h0 v] at d;have d:FM (k+13) (Dz c) a x J=_:=d;have h1:=h.app τ;obtain ⟨j,f⟩:=ik (k+6) h1.t.h a l;have f:EW (k+13) (AU i) a (J++τ)=_:=f;have b:=h1.app j;have t:Ap (k+13) (KP kb) J=_:=h.core (k+12);have q:Cr (k+13) (Dz c) (J++τ)=_:=ai (k+12) h1.t;have es:FG (k+13) (Ag m a).2.2 x (J++τ++j)=_:=iw (k+12) _ x _;unfold xI;rw[Qp];simp only[t,AI,HR,d,B6,Ad1,IS,Pf h1.col,IN,Aa0,q,f,Ah,es,An];cases hs:DV (Ag m a).2.2 x with
 | false=>
   simp only[By,AI,Aat,Ab8,Aa5];exact ⟨_,c,rfl,b,(Mv.app _ _ _).trans (Mv.app _ _ _),rfl⟩
 | true=>
   obtain ⟨J3_,o,g,u,w,n⟩:=b.go (XQ (k+1) b.t (AE m a x) (X4 b.t a x)) (fun _ e=>e);have g:CS (k+13) (Dz c) (AE m a x) (J++τ++j)=_:=g;simp only[IS,Pf b.col,AI,g,Gi,Aat];exact ⟨J3_,o,rfl,u,((Mv.app _ _ _).trans (Mv.app _ _ _)).trans w,n⟩
end
section
set_option maxRecDepth 100000
local instance qKN:AJ:=Ao
def awR:D4:=⟨1,List.replicate (16*1) 0,List.replicate 16 0,[]⟩
def awS:TC:=Xs (JF 4).bls.length false 2
def XL:=Gg (JF 4) 0 1 0 0
def uw:=NV (JF 4) awS 0 1 0 0
def dZ:=Gg XL.2.1 0 0 0 0
def zD:=NV XL.2.1 uw 0 0 0 0
def bB:D4:=(Om awR 0 0 0 XL.1.1).2
def zC:=(BU dZ.2.1 XL.1.1 0 dZ.1.1).2
def zE:=wE dZ.2.1 zD XL.1.1 0 dZ.1.1
def ux:=Hd zC bB zE
def awQ:=(Dr bB 1 (zC,ux)).2
def awE:=bS bB awQ
def awC:Bool:=decide (XL.1.2=0) && decide (dZ.1.2=0) && decide ((Om awR 0 0 0 XL.1.1).1=0) && decide (0<(Ag dZ.2.1 XL.1.1).1) && Aw dZ.2.1 dZ.1.1 && decide (zE.ph=0) && U9 zC bB && decide (ux.list=[XL.1.1]) && decide ((Dr bB 1 (zC,ux)).1=1) && decide (awQ.2.list=[dZ.1.1]) && decide (xx awQ.1 awQ.2 XL.1.1=2) && decide (awE.2.ph=0) && decide (awE.2.freed=0) &&
 decide (0<=XL.1.1/\XL.1.1<10000) && decide (0<=dZ.1.1/\dZ.1.1<10000) && (List.range 128).all (fun j=>decide (CJ 2 awS.ws j=0)) && (List.range 128).all (fun j=>decide (CJ 2 uw.ws j=0)) && decide (XL.2.1.bls.length=4) && decide (XL.2.1.births=1) && decide (uw.ph=0) && decide (uw.born=2) && decide (awS.ph=0)
theorem uv:awC=true:=by kernel_rfl
theorem awZ {m:HM} {s:TC} (b:m.bls.length=4) (h:∀ j ∈ List.range 128,CJ 2 s.ws j=0):Zc m s:=fun j a h0=>absurd (h j (Ag5.2 (by rw[b] at a; omega))) h0
theorem VS.vI {J J':Aa} {kb:Nat} {i:Cs} {p:PI} {c:CI} {m:HM} {r b:D4} {s:TC} (h:VS J kb i p c m r s) (f:Hg J' p b) (hm:Mv p.l p.l J J'):VS J' kb i p c m b s:=by
 have g:∀ x ∈ i.l,J'[x]?=J[x]?:=fun x a=>hm.same x (h.t.h.lt x a) (h.t.fp.ne (x:=0) (y:=1) (by simp) (by simp) (by decide) x a);have j:∀ x ∈ c.l,J'[x]?=J[x]?:=fun x a=>hm.same x (h.t.co.lt x a) (h.t.fp.ne (x:=2) (y:=1) (by simp) (by simp) (by decide) x a);exact ⟨(hm.same kb (Af h.col) h.nk.2.1).trans h.col,⟨h.t.h.Ax g,h.t.mo,f,h.t.co.Ax j,⟨h.t.fp.dj,fun L d q e=>Acp (h.t.fp.lt L d q e) hm.len⟩,h.t.tok⟩,h.nk⟩
theorem iA (J:Aa) (v:Int):Bf (J++[Au.cells [qIi v] Ak true]) (some ⟨J.length,0,none⟩,1,1) [v]:=.inl (.inr ⟨J.length,rfl,Ado _,rfl,Ab5⟩)
theorem Acu (a:Addr):Lq P DU (qVi (some a)) (qVi none)=some false:=by kernel_rfl
theorem uy (k:Nat) (hk:30000<=k) (J:Aa):∃ J',Lz (k+18) J=some (.bool true,J'):=by
 have C:=uv;unfold awC at C;simp only[Ads,Ad4,Afr] at C;obtain ⟨⟨⟨⟨⟨⟨⟨⟨⟨⟨⟨⟨⟨⟨⟨⟨⟨⟨⟨⟨⟨c1,c2⟩,c3⟩,c4⟩,c5⟩,c6⟩,c7⟩,c8⟩,c9⟩,P⟩,Q⟩,S⟩,U⟩,aj⟩,ak⟩,V⟩,W⟩,X⟩,Y⟩,Z⟩,aa⟩,ab⟩:=C;have bn:∀ {s:TC},s.born=2->s.born=0\/s.born=2:=fun h=>by omega
 have i1:AQ XL.1.1:=by unfold AQ; omega
 have i2:AQ dZ.1.1:=by unfold AQ; omega
 obtain ⟨J1_,i,e1,h1,n1,ai⟩:=tR (k+12) (n:=4) (by decide) (by decide) J;have e1:J9 (k+17) 4 J=_:=e1;obtain ⟨d,p,e2,h2,n2⟩:=vA (k+16) (n:=1) (by decide) (by decide) J1_;have e2:I6 (k+17) 1 J1_=_:=e2;have F1:Fp J1_ [i.l]:=(Fp.nil J).cons (fun q E=>⟨n1 q E,h1.lt q E⟩) ai.len;have F2:Fp (J1_++d) [i.l,p.l]:=(F1.cons (L:=p.l) (J':=J1_++d) (fun q E=>⟨n2 q E,h2.lt q E⟩) (by simp)).sub [1,0] (by decide) (by simp) rfl;obtain ⟨H,c,e3,T,n3⟩:=hY (k+11) (by omega) (h1.app d) (MK.new (by decide) (by decide)) h2 F2 false 2;have e3:Nk (k+16) (AU i) (F8 p) false 2 (J1_++d)=_:=e3;obtain ⟨K0,B⟩:∃ K0,Au.cells [qVi (Dz c)] IE true=K0:=⟨_,rfl⟩;have e4:KB (k+17) (AU i) (F8 p) (J1_++d)=some (.tuple #[qVi (KP (J1_++d++H).length),qIi 0],J1_++d++H++[K0]):=by
  rw[VD];simp only[e3,AI,LK,Abx,By,Ae,B]
 generalize ag:(J1_++d++H).length=kb at *;have A0:VS (J1_++d++H++[K0]) kb i p c (JF 4) awR awS:=⟨by rw[<- ag,Ab5,<- B],T.app [K0],fun D=>by have:=T.h.lt _ D; omega,fun D=>by have:=T.rt.lt _ D; omega,fun D=>by have:=T.co.lt _ D; omega⟩;obtain ⟨J5_,ac,K,A1,_,_⟩:=Yw (k+2) (by omega) A0 (by decide) (awZ rfl V) (.inl ab) (bn rfl) 1 0 0 (sp:=0) (by decide);have K:BB (k+17) (KP kb) 1 0 0 0 (J1_++d++H++[K0])=some (.tuple #[qIi XL.1.1,qIi XL.1.2],J5_):=K;have A1:VS J5_ kb i p ac XL.2.1 awR uw:=A1;obtain ⟨l,w,M,A2,_,_⟩:=Yw (k+2) (by omega) A1 (by rw[Y]; decide) (awZ X W) (.inl Z) (bn aa) 0 0 0 (sp:=0) (by decide);have M:BB (k+17) (KP kb) 0 0 0 0 J5_=some (.tuple #[qIi dZ.1.1,qIi dZ.1.2],l):=M;have A2:VS l kb i p w dZ.2.1 awR zD:=A2;obtain ⟨m,O,ah,m7⟩:=mW (k+13) A2.t.rt (kk:=0) (mt:=0) (ix:=0) (.inl ⟨rfl,by decide,by decide⟩) XL.1.1 i1;have O:Bc (k+17) (F8 p) 0 0 0 XL.1.1 l=some (qIi (Om awR 0 0 0 XL.1.1).1,m):=O;have A3:VS m kb i p w dZ.2.1 bB zD:=A2.vI ah m7;obtain ⟨o,ad,e8,A4,_,_⟩:=gi (k+2) (by omega) A3 (x:=0) i1 i2 (by decide) c4 (.inr c5);have e8:Ck (k+17) (KP kb) XL.1.1 0 dZ.1.1 m=some (qIi 0,o):=e8;have A4:VS o kb i p ad zC bB zE:=A4;obtain ⟨b,ae,e9,A5,_,_⟩:=Yy (k+3) (by omega) A4 c6 c7;have e9:Bt (k+17) (KP kb) o=some (qIi 0,b):=e9;have A5:VS b kb i p ae zC bB ux:=A5;obtain ⟨l1,g,r,F⟩:=kL (k+14) A5;have r:Db (k+17) (KP kb) b=_:=r;rw[c8] at F;have A6:=(A5.app g).app [Au.cells [qIi XL.1.1] Ak true];have x1:=ij (k+16) (F.app [Au.cells [qIi XL.1.1] Ak true]).g (iA (b++g) XL.1.1).g (by decide) (by show 1<_; omega);have x1:GH (k+17) (l1.1,l1.2.1,l1.2.2) (some ⟨(b++g).length,0,none⟩,1,1) (b++g++[Au.cells [qIi XL.1.1] Ak true])=_:=x1;obtain ⟨a,u,f,A7,_,_⟩:=kM k (by omega) A6 (N:=1) (by decide) (by decide);have f:Cd (k+17) (KP kb) 1 _=some (.tuple #[qIi ((Dr bB 1 (zC,ux)).1:Int),qIi 0],a):=f;rw[c9] at f;have A7:VS a kb i p u awQ.1 bB awQ.2:=A7;obtain ⟨l2,j,t,G⟩:=kL (k+14) A7;have t:Db (k+17) (KP kb) a=_:=t;rw[P] at G;have A8:=(A7.app j).app [Au.cells [qIi dZ.1.1] Ak true];have x2:=ij (k+16) (G.app [Au.cells [qIi dZ.1.1] Ak true]).g (iA (a++j) dZ.1.1).g (by decide) (by show 1<_; omega);have x2:GH (k+17) (l2.1,l2.2.1,l2.2.2) (some ⟨(a++j).length,0,none⟩,1,1) (a++j++[Au.cells [qIi dZ.1.1] Ak true])=_:=x2;have y:Eb (k+17) (KP kb) XL.1.1 _=_:=nR (k+10) A8 XL.1.1 i1;rw[Q] at y;obtain ⟨e,v,af,I,_,_⟩:=cz k (by omega) A8;have I:VS e kb i p v awE.1 bB awE.2:=I;have z:Bs (k+17) (KP kb) e=_:=Yx (k+14) I;have A:E7 (k+17) (KP kb) e=_:=sf (k+14) I;rw[S] at z;rw[U] at A;rw[c1] at K;rw[c2] at M;rw[c3] at O;refine ⟨e, ?_⟩;rw[Ya];simp only[e1,e2,AI,LK,Abl,zL,By,Abx,e4,Acu,K,B6,M,O,Ah,e8,e9,r,Eo,Ae,x1,An,Aa4,f,t,x2,y,af,Ad1,IS,z,A,show (((1:Nat):Int) != 1)=false from rfl]
end
section
local instance qHX:AJ:=Ao
variable {J:Aa} {r:D4}
theorem OG.flt {X:XI} {m:HM} {s:TC} (h:OG J X m r s):∀ p ∈ X.Ls.flatten,p<J.length:=fun p hp=>by
 obtain ⟨L,a,hp⟩:=Adw.1 hp;exact h.fp.lt L a p hp
theorem Acx (a:Addr):Lq P Ej (qVi (some a)) (qVi none)=some false:=by kernel_rfl
theorem Pe {ρ:Type} {a:Addr} {J J':Aa} {m:Option ρ} (h:J'[a.block]?=J[a.block]?):HH (some a) J J' m=m:=by
 have:Ao.k J J' a.block=true:=by unfold Ao; simpa using h
 show (bif Ao.k J J' a.block then m else none)=m;rw[this,IS]
theorem xo {α β:Type} {o:Option α} {f:α->Option β} {v:α} {z:Option β} (h:o=some v) (h2:f v=z):o.bind f=z:=by rw[h]; exact h2
theorem yR (p:qOi):HR (qVi p)=some p:=rfl
theorem dM (a:qOi) (n c:Nat):Eo (.slice a n c)=some (a,n,c):=rfl
end
section
local instance qKO:AJ:=Ao
variable {J:Aa}
structure YI where
 X:XI
 k:Bx
 l:Bx
def YI.fl (Y:YI):List Nat:=Y.X.Ls.flatten++(hs Y.k++hs Y.l)
structure YS where
 m:HM
 r:D4
 s:TC
 K:List Int
 L:List Int
 bn:Int
structure Rq (J:Aa) (Y:YI) (z:YS):Prop where
 x:OG J Y.X z.m z.r z.s
 run:J[Y.X.xb]?=some (.cells [qVi (ID Y.X.I),qVi (Jx Y.X),.slice Y.k.1 Y.k.2.1 Y.k.2.2,.slice Y.l.1 Y.l.2.1 Y.l.2.2,qIi z.bn] AN true)
 kl:Bf J Y.k z.K
 ll:CB 0 J Y.l z.L
 nk:∀ b ∈ hs Y.k,b ∉ Y.X.Ls.flatten
 nl:∀ b ∈ hs Y.l,b ∉ Y.X.Ls.flatten/\b ∉ hs Y.k
variable {Y:YI} {z:YS}
theorem CB.bl {s:Bx} {l:List Int} (h:CB 0 J s l):∀ b ∈ hs s,b<J.length:=(Bf.ints h).lt
theorem CB.lk {J':Aa} {s:Bx} {l:List Int} (h:CB 0 J s l) (d:∀ b ∈ hs s,J'[b]?=J[b]?):CB 0 J' s l:=by
 rcases h with h | ⟨b,h1,rfl,a,c⟩
 ·exact .inl h
 ·exact .inr ⟨b,h1,rfl,a,(d b (BV.2 ⟨_,rfl,rfl⟩)).trans c⟩
theorem Rq.cH (h:Rq J Y z):Be J Y.X.xb 3=some (Y.l.1,Y.l.2.1,Y.l.2.2):=by simp[Be,CW,h.run,Eo]
theorem Rq.st3 {J':Aa} (h:Rq J Y z) (e:J'[Y.X.xb]?=J[Y.X.xb]?) (v:Value):CY J' Y.X.xb 3 v=some (J'.set Y.X.xb (.cells [qVi (ID Y.X.I),qVi (Jx Y.X),.slice Y.k.1 Y.k.2.1 Y.k.2.2,v,qIi z.bn] AN true)):=by simp[CY,e,h.run]
theorem Rq.lt (h:Rq J Y z):∀ b ∈ Y.fl,b<J.length:=fun b hb=>by
 rcases Aas.1 hb with hb | hb
 ·exact h.x.flt b hb
 ·rcases Aas.1 hb with hb | hb
  ·exact h.kl.lt b hb
  ·exact h.ll.bl b hb
theorem Rq.Ax {J':Aa} (h:Rq J Y z) (d:J.length<=J'.length) (a:∀ b ∈ Y.fl,J'[b]?=J[b]?):Rq J' Y z:=by
 have h1:∀ b ∈ Y.X.Ls.flatten,J'[b]?=J[b]?:=fun b hb=>a b (Aas.2 (.inl hb));exact ⟨h.x.Ax d fun L c p hp=>h1 p (Adw.2 ⟨L,c,hp⟩),(h1 _ (Adw.2 ⟨[Y.X.xb],by simp[XI.Ls],by simp⟩)).trans h.run,h.kl.Ax fun b hb=>a b (Aas.2 (.inr (Aas.2 (.inl hb)))),h.ll.lk fun b hb=>a b (Aas.2 (.inr (Aas.2 (.inr hb)))),h.nk,h.nl⟩
theorem Rq.app (h:Rq J Y z) (τ:Aa):Rq (J++τ) Y z:=h.Ax (by simp) fun b hb=>AT (h.lt b hb)
def YG (mm:Option (Value × Aa)) (J:Aa) (Y:YI) (v:Value) (z:YS):Prop:=
 ∃ J' a,mm=some (v,J')/\Rq J' a z/\Mv Y.fl a.fl J J'/\a.X.xb=Y.X.xb/\a.X.kb=Y.X.kb/\a.X.I=Y.X.I
theorem Rq.yV {J':Aa} {a:XI} {m':HM} {e:D4} {s':TC} (h:Rq J Y z) (k:OG J' a m' e s') (hm:Mv Y.X.Ls.flatten a.Ls.flatten J J') (j:J'[Y.X.xb]?=J[Y.X.xb]?) (f:a.xb=Y.X.xb) (g:a.kb=Y.X.kb) (i:a.I=Y.X.I):
  Rq J' ⟨a,Y.k,Y.l⟩ { z with m:=m',r:=e,s:=s' }/\Mv Y.fl (⟨a,Y.k,Y.l⟩:YI).fl J J':=by
 have c:=hm.DR (X:=hs Y.k) h.kl.lt h.nk;have d:=hm.DR (X:=hs Y.l) h.ll.bl fun b hb=>(h.nl b hb).1;refine ⟨⟨k, ?_,h.kl.Ax c.1,h.ll.lk d.1,c.2.1,fun b hb=>⟨d.2.1 b hb,(h.nl b hb).2⟩⟩,hm.left _⟩;show J'[a.xb]?=_;rw[f,j,h.run];unfold Jx;rw[g,i]
theorem OG.k {X:XI} {m:HM} {r:D4} {s:TC} (h:OG J X m r s):VS J X.kb X.I.i X.I.p X.c m r s:=by
 have d:=fun {y:Nat} (b:y<X.Ls.length) (a:y≠4)=>h.fp.ne (x:=4) (y:=y) (by simp[XI.Ls]) b a X.kb (by simp[XI.Ls]);exact ⟨h.col,h.t,d (y:=0) (by simp[XI.Ls]) (by decide),d (y:=1) (by simp[XI.Ls]) (by decide),d (y:=2) (by simp[XI.Ls]) (by decide)⟩
theorem Rq.go (h:Rq J Y z) {mm:Option (Value × Aa)} {v:Value} {q:HM × TC} (g:KG mm J Y.X.kb Y.X.I.i Y.X.I.p Y.X.c z.r v q):YG mm J Y v { z with m:=q.1,s:=q.2 }:=by
 obtain ⟨J',j,e,K,hm,b⟩:=g;obtain ⟨h1,f⟩:=h.x.turn K.t hm b;have d:Y.X.xb ∉ Y.X.I.i.l++Y.X.c.l:=fun c=>(Aas.1 c).elim
  (h.x.fp.ne (x:=3) (y:=0) (by simp[XI.Ls]) (by simp[XI.Ls]) (by decide) Y.X.xb (by simp[XI.Ls]))
  (h.x.fp.ne (x:=3) (y:=2) (by simp[XI.Ls]) (by simp[XI.Ls]) (by decide) Y.X.xb (by simp[XI.Ls]));obtain ⟨a,i⟩:=h.yV h1 f (hm.same _ (Af h.run) d) rfl rfl rfl;exact ⟨J',_,e,a,i,rfl,rfl,rfl⟩
theorem jx (k:Nat) (h:Rq J Y z) {w:Int × Nat × Nat} (hp:Oq z.r w.1 w.2.1 w.2.2) (hw:w.1≠2) {a:Int} (f:AQ a) (h0:0<=a):YG (Bc (k+4) (F8 Y.X.I.p) w.1 (w.2.1:Int) (w.2.2:Int) a J) J Y (qIi 0) { z with r:=Hx z.r w.1 w.2.1 w.2.2 a }:=by
 obtain ⟨J',e,c,hm⟩:=mW k h.x.t.rt hp a f;have hs:Om z.r w.1 w.2.1 w.2.2 a=(0,Hx z.r w.1 w.2.1 w.2.2 a):=by unfold Om; rw[Aaz (fun b=>b.elim (by omega) fun b=>hw b.2)]
 rw[hs] at e c;obtain ⟨h1,g⟩:=h.x.vI c hm (vq z.r w.1 w.2.1 w.2.2 a).1;obtain ⟨d,i⟩:=h.yV h1 g (hm.same _ (Af h.run) (h.x.fp.ne (x:=3) (y:=1) (by simp[XI.Ls]) (by simp[XI.Ls]) (by decide) Y.X.xb (by simp[XI.Ls]))) rfl rfl rfl;exact ⟨J',_,e,d,i,rfl,rfl,rfl⟩
theorem w9 (k:Nat) (h:Rq J Y z) {a x v:Int} (d:AQ a) (f:AQ v) (h0:0<=x) (i:x<(Ag z.m a).2.1) (c:MK (GU z.m a x v).2):YG (DF (k+7) (AU Y.X.I.i) a x v J) J Y (qIi 0) { z with m:=(GU z.m a x v).2 }:=by
 obtain ⟨J',e,g,b⟩:=iu k h.x.t.h h.x.t.mo.inv a x v d f;obtain ⟨j,V⟩:=X8 h.x.t.mo.inv v h0 i;rw[j] at e;have T:=h.x.t.gf g b c (by rw[V.bls]);exact h.go (q:=((GU z.m a x v).2,z.s)) (h.x.k.go (q:=((GU z.m a x v).2,z.s)) ⟨J',Y.X.c,e,T,b.mv.left _,rfl⟩ fun _ e=>e)
theorem Rq.loose {J':Aa} {a:Bx} {L':List Int} (h:Rq J Y z) (hm:Mv (hs Y.l) (hs a) J J') (o:CB 0 J' a L'):
  Rq (J'.set Y.X.xb (.cells [qVi (ID Y.X.I),qVi (Jx Y.X),.slice Y.k.1 Y.k.2.1 Y.k.2.2,.slice a.1 a.2.1 a.2.2,qIi z.bn] AN true)) ⟨Y.X,Y.k,a⟩ { z with L:=L' }/\Mv Y.fl (⟨Y.X,Y.k,a⟩:YI).fl J (J'.set Y.X.xb (.cells [qVi (ID Y.X.I),qVi (Jx Y.X),.slice Y.k.1 Y.k.2.1 Y.k.2.2,.slice a.1 a.2.1 a.2.2,qIi z.bn] AN true))/\J'[Y.X.xb]?=J[Y.X.xb]?:=by
 have c:Y.X.xb ∈ Y.X.Ls.flatten:=Adw.2 ⟨[Y.X.xb],by simp[XI.Ls],by simp⟩;have l:=hm.DR (X:=Y.X.Ls.flatten) h.x.flt fun b hb d=>(h.nl b d).1 hb;have m:=hm.DR (X:=hs Y.k) h.kl.lt fun b hb d=>(h.nl b d).2 hb;have i:OG J' Y.X z.m z.r z.s:=h.x.Ax hm.len fun L n p hp=>l.1 p (Adw.2 ⟨L,n,hp⟩);obtain ⟨k,r⟩:=i.vM (.slice Y.k.1 Y.k.2.1 Y.k.2.2) (.slice a.1 a.2.1 a.2.2) (qIi z.bn);have f:∀ b ∈ hs a,b ∉ Y.X.Ls.flatten/\b ∉ hs Y.k:=fun b hb=>⟨fun j=>l.2.1 b j hb,fun j=>m.2.1 b j hb⟩;have g:∀ b,b≠Y.X.xb->(J'.set Y.X.xb (.cells [qVi (ID Y.X.I),qVi (Jx Y.X),.slice Y.k.1 Y.k.2.1 Y.k.2.2,.slice a.1 a.2.1 a.2.2,qIi z.bn] AN true))[b]?=J'[b]?:=fun b hb=>Aar (Adk hb);refine ⟨⟨k,Aa2 i.xbl,(h.kl.Ax m.1).Ax fun b hb=>g b fun e=>h.nk b hb (by rw[e]; exact c),o.lk fun b hb=>g b fun e=>(f b hb).1 (by rw[e]; exact c),h.nk,f⟩, ?_,l.1 _ c⟩;have q:Mv Y.fl (⟨Y.X,Y.k,a⟩:YI).fl J J':=hm.wide (fun b hb=>Aas.2 (.inr (Aas.2 (.inr hb)))) fun b hb=>by
  rcases Aas.1 hb with hb | hb
  ·exact .inl (Aas.2 (.inl hb))
  ·rcases Aas.1 hb with hb | hb
   ·exact .inl (Aas.2 (.inr (Aas.2 (.inl hb))))
   ·exact .inr (.inl hb)
 exact q.trans (Mv.set _ _ (Aas.2 (.inl c)))
end
section
local instance qKP:AJ:=Ao
variable {J:Aa} {Y:YI} {z:YS} {h1 h5 h8:Nat}
abbrev bp (b:Nat):Value:=qVi (some ⟨b,0,none⟩)
structure ry (J:Aa) (xb h1 h5 h8:Nat):Prop where
 c1:∃ T,J[h1]?=some (.cells [bp xb] T true)
 c5:∃ T,J[h5]?=some (.cells [.func (.func Gn) #[] #[bp h1]] T true)
 c8:∃ T,J[h8]?=some (.cells [.func (.func Gp) #[] #[bp h1,bp h5]] T true)
abbrev tlA (h1:Nat):Value:=.func (.func Th) #[] #[bp h1]
abbrev tlS (h1 h5 h8:Nat):Value:=.func (.func Ti) #[] #[bp h8,bp h5,bp h1]
abbrev tlL (h1 h8:Nat):Value:=.func (.func Tj) #[] #[bp h8,bp h1]
structure TY (J:Aa) (Y:YI) (z:YS) (h1 h5 h8:Nat):Prop where
 y:Rq J Y z
 t:ry J Y.X.xb h1 h5 h8
 n:∀ b ∈ [h1,h5,h8],b ∉ Y.fl
theorem ry.lt {e:Nat} (h:ry J e h1 h5 h8):∀ b ∈ [h1,h5,h8],b<J.length:=fun b hb=>by
 obtain ⟨_,a⟩:=h.c1;obtain ⟨_,d⟩:=h.c5;obtain ⟨_,c⟩:=h.c8;simp only[Acd,Aee,Aga] at hb;rcases hb with rfl | rfl | rfl
 ·exact Af a
 ·exact Af d
 ·exact Af c
theorem ry.Ax {e:Nat} {J':Aa} (h:ry J e h1 h5 h8) (d:∀ b ∈ [h1,h5,h8],J'[b]?=J[b]?):ry J' e h1 h5 h8:=by
 obtain ⟨_,a⟩:=h.c1;obtain ⟨_,f⟩:=h.c5;obtain ⟨_,c⟩:=h.c8;exact ⟨⟨_,(d _ (by simp)).trans a⟩,⟨_,(d _ (by simp)).trans f⟩,⟨_,(d _ (by simp)).trans c⟩⟩
theorem TY.app (h:TY J Y z h1 h5 h8) (τ:Aa):TY (J++τ) Y z h1 h5 h8:=⟨h.y.app τ,h.t.Ax fun b hb=>AT (h.t.lt b hb),h.n⟩
theorem TY.to {J':Aa} {c:YI} {z':YS} (h:TY J Y z h1 h5 h8) (g:Rq J' c z') (hm:Mv Y.fl c.fl J J') (e:c.X.xb=Y.X.xb):TY J' c z' h1 h5 h8:=by
 obtain ⟨a,b,_⟩:=hm.DR (X:=[h1,h5,h8]) h.t.lt h.n;refine ⟨g, ?_,b⟩;rw[e]; exact h.t.Ax a
def jP (mm:Option (Value × Aa)) (J:Aa) (Y:YI) (v:Value) (z:YS) (h1 h5 h8:Nat):Prop:=
 ∃ J' a,mm=some (v,J')/\TY J' a z h1 h5 h8/\Mv Y.fl a.fl J J'/\a.X.xb=Y.X.xb/\a.X.kb=Y.X.kb/\a.X.I=Y.X.I
theorem TY.go (h:TY J Y z h1 h5 h8) {mm:Option (Value × Aa)} {v:Value} {z':YS} (g:YG mm J Y v z'):jP mm J Y v z' h1 h5 h8:=by
 obtain ⟨J',b,e,y,m,a,c,d⟩:=g;exact ⟨J',b,e,h.to y m a,m,a,c,d⟩
theorem TY.l1 (h:TY J Y z h1 h5 h8):B9 J h1 0=some (JL Y.X):=by
 obtain ⟨_,a⟩:=h.t.c1;simp[B9,CW,a,HR]
theorem TY.l5 (h:TY J Y z h1 h5 h8):CW J h5 0=some (.func (.func Gn) #[] #[bp h1]):=by
 obtain ⟨_,a⟩:=h.t.c5;simp[CW,a]
theorem TY.l8 (h:TY J Y z h1 h5 h8):CW J h8 0=some (.func (.func Gp) #[] #[bp h1,bp h5]):=by
 obtain ⟨_,a⟩:=h.t.c8;simp[CW,a]
theorem wj (k:Nat) (h:Rq J Y z):∃ τ h1 h5 h8,FF (k+1) (JL Y.X) J=some (.agg #[tlA h1,tlS h1 h5 h8,tlL h1 h8],J++τ)/\TY (J++τ) Y z h1 h5 h8:=by
 refine ⟨[.cells [bp Y.X.xb] Ej true,.cells [tlA J.length,tlS J.length (J.length+2) (J.length+3),tlL J.length (J.length+3)] Hs true,.cells [.func (.func Gn) #[] #[bp J.length]] 132 true,.cells [.func (.func Gp) #[] #[bp J.length,bp (J.length+2)]] 133 true],J.length,J.length+2,J.length+3, ?_,h.app _,⟨⟨Ej, ?_⟩,⟨132, ?_⟩,⟨133, ?_⟩⟩,fun b hb=>fun a=>?_⟩
 ·rw[TJ];simp[Ae,CY,H5,Nm,Bb,Lh,Aaq]
 ·simp
 ·simp
 ·simp
 ·have:=h.lt b a;simp only[Acd,Aee,Aga] at hb;omega
theorem k9 (k:Nat) (h:TY J Y z h1 h5 h8) (a:Int) (d:AQ a) (x:Nat):∃ τ,GN (k+7) a (x:Int) (some ⟨h1,0,none⟩) J=some (.bool (DV (Ag z.m a).2.2 (x:Int)),J++τ):=by
 obtain ⟨τ,e⟩:=PD k h.y.x.t.h a d;obtain ⟨B0,b⟩:∃ B0,Au.cells [qIi (Ag z.m a).1,qIi (Ag z.m a).2.1,qIi (Ag z.m a).2.2] Ad true=B0:=⟨_,rfl⟩;have c:∀ Z:Aa,H5 (Z++[Au.cells [qIi 0,qIi 0,qIi 0] Ad true]) Z.length 0 [qIi (Ag z.m a).1,qIi (Ag z.m a).2.1,qIi (Ag z.m a).2.2]=some (Z++[B0]):=fun Z=>by
  rw[<- b]; simp[H5,Bb]
 have ld:∀ Z:Aa,Aj .i64 (Z++[B0]) Z.length 0=some (Ag z.m a).1/\Aj .i64 (Z++[B0]) Z.length (0+1)=some (Ag z.m a).2.1/\Aj .i64 (Z++[B0]) Z.length (0+1+1)=some (Ag z.m a).2.2:=fun Z=>by
  rw[<- b]; simp[Aj,CW,Bk]
 have f1:∀ Z:Aa,L8 (k+6) (Ag z.m a).1 (Ag z.m a).2.1 (Ag z.m a).2.2 (x:Int) Z=some (.bool (DV (Ag z.m a).2.2 (x:Int)),Z++[B0]++[B0]):=fun Z=>by
  rw[Yi];have es:=bh (k+4) (Ag z.m a).1 (Ag z.m a).2.1 (Ag z.m a).2.2 (x:=x) (Z++[B0]);rw[b] at es;simp only[Ae,b,(ld Z).1,(ld Z).2.1,(ld Z).2.2,AI,es,An,Bool.not_not]
 refine ⟨τ++[B0]++[B0]++[B0], ?_⟩;rw[show J++(τ++[B0]++[B0]++[B0])=J++τ++[B0]++[B0]++[B0] from by simp only[Aaq],QB];have e:AL (k+6) (AU Y.X.I.i) a J=_:=e;simp only[AI,h.l1,IN,Aa0,h.y.x.H7,h.y.x.dU,e,jq,Adl,Adx,Nat.reduceAdd,Aat,Aey,Ae4,HA,Ah,Ae,c,(ld _).1,(ld _).2.1,(ld _).2.2,f1,An]
def VG (m:HM) (a x:Int):List Int:=if AE m a x≠0/\DV (Ag m a).2.2 x=true then [B7 m (AE m a x)] else []
theorem qh (k:Nat) (M:10000<k) (h:TY J Y z h1 h5 h8) {a:Int} (y:AQ a) {x:Nat} (E:(x:Int)<(Ag z.m a).1) (K:z.L.length<=90000):jP (GO (k+9) a (x:Int) (some ⟨h1,0,none⟩) (some ⟨h5,0,none⟩) J) J Y (.tuple #[]) { z with L:=z.L++VG z.m a (x:Int) } h1 h5 h8:=by
 obtain ⟨τ,e⟩:=V7 (k+1) h.y.x.t.h h.y.x.t.mo.inv a (x:Int) y;rw[oB h.y.x.t.mo.inv (by omega) E] at e;have e:AM (k+8) (AU Y.X.I.i) a (x:Int) J=some (.tuple #[qIi (AE z.m a (x:Int)),qIi 0],J++τ):=e;have l:=h.app τ;have D:=X4 h.y.x.t a (x:Int);unfold VG;rw[QC];simp only[AI,h.l1,IN,Aa0,h.y.x.H7,h.y.x.dU,e,B6,Ad1,IS];by_cases h0:AE z.m a (x:Int)=0
 ·rw[Aaz (fun d=>d.1 h0),show (AE z.m a (x:Int) != 0)=false from by rw[h0]; rfl,Ab1];simp only[By,AI,Aat];exact ⟨_,Y,rfl,l,Mv.app _ _ _,rfl,rfl,rfl⟩
 rw[show (AE z.m a (x:Int) != 0)=true from Adz.2 h0];obtain ⟨c,n⟩:=k9 (k+1) l a y x;have n:Ip (k+8) (.func (.func Gn) #[] #[bp h1]) [qIi a,qIi (x:Int)] (J++τ)=_:=(Jz (k+8) a (x:Int) (some ⟨h1,0,none⟩) (J++τ)).trans n;have m:=l.app c;simp only[IS,l.l5,AI,n,An];cases hs:DV (Ag z.m a).2.2 (x:Int) with
 | false=>
   rw[Aaz (fun d=>by cases d.2),Ab1];simp only[By,AI,Aat];exact ⟨_,Y,rfl,m,(Mv.app _ _ _).trans (Mv.app _ _ _),rfl,rfl,rfl⟩
 | true=>
   rw[Aay ⟨h0,rfl⟩];obtain ⟨B0,g⟩:∃ B0,Au.cells [qIi (AE z.m a (x:Int))] Ak true=B0:=⟨_,rfl⟩;have w:=m.app [B0];have li:=iA (J++τ++c) (AE z.m a (x:Int));rw[g] at li;obtain ⟨o,j,p,t,C⟩:=kS (k+1) (by omega) w.y.x li (by simp) (fun v d=>by rw[Ac1.1 d]; exact D);have p:DM (k+8) (JL Y.X) (some ⟨(J++τ++c).length,0,none⟩,1,1) (J++τ++c++[B0])=_:=p;have b:=w.app j;have B:=t.form;obtain ⟨i,f,q,u,s⟩:=WV (J++τ++c++[B0]++j) Y.l z.L [B7 z.m (AE z.m a (x:Int))] o.1 1 (by simp; omega) b.y.ll (by simp) t.first
   have q:AH P Ak (Y.l.1,Y.l.2.1,Y.l.2.2) (o.1,o.2.1,o.2.2) (J++τ++c++[B0]++j)=some (i,f):=by
    rw[B]; exact q
   obtain ⟨I,A,F⟩:=b.y.loose u.mv s;have r:=m.y.cH;have st:=b.y.st3 F (.slice i.1 i.2.1 i.2.2);have G:f[h1]?=(J++τ++c++[B0]++j)[h1]?:=u.mv.same h1 (b.t.lt h1 (by simp)) fun d=>b.n h1 (by simp) (Aas.2 (.inr (Aas.2 (.inr d))));have H:=(((Mv.app Y.fl J τ).trans (Mv.app _ _ c)).trans (Mv.app _ _ [B0])).trans (Mv.app _ _ j);refine ⟨_,⟨Y.X,Y.k,i⟩, ?_,b.to I A rfl,H.trans A,rfl,rfl,rfl⟩;simp only[IS,m.l1,AI,r,IN,Ae,g,p,Np,dM,q,Pe (a:=⟨h1,0,none⟩) G,st,Aat]
theorem jP.trans {mm mm':Option (Value × Aa)} {v w:Value} {d:YS} {J1_:Aa} {Y1:YI} (hm:Mv Y.fl Y1.fl J J1_) (i:Y1.X.xb=Y.X.xb) (j:Y1.X.kb=Y.X.kb) (k:Y1.X.I=Y.X.I) (g:jP mm J1_ Y1 v d h1 h5 h8) (e:∀ J',mm=some (v,J')->mm'=some (w,J')):jP mm' J Y w d h1 h5 h8:=by
 obtain ⟨J',f,h,t,m,a,b,c⟩:=g;exact ⟨J',f,e J' h,t,hm.trans m,a.trans i,b.trans j,c.trans k⟩
theorem Rq.xr (h:Rq J Y z):B9 J Y.X.xb 1=some (Jx Y.X):=h.x.Fa
theorem oP (k:Nat) (j:5000<=k) (h:TY J Y z h1 h5 h8) (hb:z.m.births<1000000) (l:Zc z.m z.s) (g:z.s.ph=0\/z.s.ph=1\/z.s.ph=2) (f:z.s.born=0\/z.s.born=2) (rr d a:Int):
  jP (HB (k+16) (tlA h1) [.agg #[qIi rr,qIi d,qIi a]] J) J Y (.tuple #[qIi (Gg z.m 0 rr d a).1.1,qIi (Gg z.m 0 rr d a).1.2]) { z with m:=(Gg z.m 0 rr d a).2.1,s:=NV z.m z.s 0 rr d a } h1 h5 h8:=by
 obtain ⟨B0,c⟩:∃ B0,Au.cells [qIi rr,qIi d,qIi a] Ad true=B0:=⟨_,rfl⟩;have b:=h.app [B0];have i:(J++[B0])[J.length]?=some B0:=Ab5;have ld:Aj .i64 (J++[B0]) J.length 0=some rr/\Aj .i64 (J++[B0]) J.length (0+1)=some d/\Aj .i64 (J++[B0]) J.length (0+1+1)=some a:=by
  simp[Aj,CW,i,<- c,Bk]
 obtain ⟨n,o,p⟩:=ld;refine jP.trans (Mv.app _ _ [B0]) rfl rfl rfl (b.go (z':={ z with m:=(Gg z.m 0 rr d a).2.1,s:=NV z.m z.s 0 rr d a }) (b.y.go (q:=((Gg z.m 0 rr d a).2.1,NV z.m z.s 0 rr d a)) (Yw k j b.y.x.k hb l g f rr d a (sp:=0) (by decide)))) fun J' e=>?_;have e:BB (k+15) (Jx Y.X) rr d a 0 (J++[B0])=_:=e;refine (MQ (k+16) rr d a (some ⟨h1,0,none⟩) J).trans ?_;rw[QD];simp only[Ae,c,AI,b.l1,IN,b.y.xr,n,o,p,e,B6]
def stL (m:HM) (a x:Int):List Int:=VG m a x++if DV (Ag m a).2.2 x=true then [0] else []
theorem oQ (k:Nat) (hk:20000<=k) (h:TY J Y z h1 h5 h8) {a to:Int} (u:AQ a) (w:AQ to) {x:Nat} (F:(x:Int)<(Ag z.m a).1) (W:to=0\/Aw z.m to=true) (hL:z.L.length<=80000):
  jP (II (k+17) (tlS h1 h5 h8) [qIi a,qIi (x:Int),qIi to] J) J Y (qIi 0) { z with m:=(BU z.m a (x:Int) to).2,s:=wE z.m z.s a (x:Int) to,L:=z.L++stL z.m a (x:Int) } h1 h5 h8:=by
 obtain ⟨J1_,Y1,o,t1,m1,H,M,Q⟩:=qh (k+7) (by omega) h u F (by omega);have o:Io (k+16) (.func (.func Gp) #[] #[bp h1,bp h5]) [qIi a,qIi (x:Int)] J=_:=(Jy (k+16) a (x:Int) (some ⟨h1,0,none⟩) (some ⟨h5,0,none⟩) J).trans o;obtain ⟨b,p⟩:=k9 (k+9) t1 a u x;have p:Ip (k+16) (.func (.func Gn) #[] #[bp h1]) [qIi a,qIi (x:Int)] J1_=_:=(Jz (k+16) a (x:Int) (some ⟨h1,0,none⟩) J1_).trans p;have t2:=t1.app b;have key:∃ J3_ Y3,TY J3_ Y3 { z with L:=z.L++stL z.m a (x:Int) } h1 h5 h8/\Mv Y1.fl Y3.fl (J1_++b) J3_/\Y3.X.xb=Y1.X.xb/\Y3.X.kb=Y1.X.kb/\Y3.X.I=Y1.X.I/\(bif DV (Ag z.m a).2.2 (x:Int) then ((some ⟨h1,0,none⟩:qOi).bind fun D=>(B9 (J1_++b) D.block D.off).bind fun p9=>(some ⟨h1,0,none⟩:qOi).bind fun f=>(B9 (J1_++b) f.block f.off).bind fun B=>B.bind fun g=>(Be (J1_++b) g.block (g.off+3)).bind fun d=>Ae (J1_++b) (.cells [qIi 0] Ak true) fun t l=>(AH P Ak (d.1,d.2.1,d.2.2) (some ⟨t,0,none⟩,1,1) l).bind fun c=>HH (some ⟨h1,0,none⟩) l c.2 (p9.bind fun i=>(CY c.2 i.block (i.off+3) (.slice c.1.1 c.1.2.1 c.1.2.2)).bind fun C=>some (.normal,[],C))) else (some (.normal,[],J1_++b)):Option Bq)=some (.normal,[],J3_):=by
  unfold stL;cases hs:DV (Ag z.m a).2.2 (x:Int) with
  | false=>
    refine ⟨J1_++b,Y1, ?_,Mv.refl _ _,rfl,rfl,rfl,rfl⟩;rw[Aaz (by decide),Ab1];exact t2
  | true=>
    rw[Aay rfl];have t3:=t2.app [Au.cells [qIi 0] Ak true];have hlen:(z.L++VG z.m a (x:Int)).length<=80001:=by
     unfold VG; split <;> simp <;> omega
    obtain ⟨j,e,r,E,A⟩:=WV (J1_++b++[Au.cells [qIi 0] Ak true]) Y1.l (z.L++VG z.m a (x:Int)) [0] (some ⟨(J1_++b).length,0,none⟩) 1 (by simp at hlen ⊢; omega) t3.y.ll (by simp) (iA (J1_++b) 0).first
    have r:AH P Ak (Y1.l.1,Y1.l.2.1,Y1.l.2.2) (some ⟨(J1_++b).length,0,none⟩,1,1) (J1_++b++[Au.cells [qIi 0] Ak true])=some (j,e):=r;obtain ⟨y7,G,X⟩:=t3.y.loose E.mv A;have y:=t2.y.cH;have st:=t3.y.st3 X (.slice j.1 j.2.1 j.2.2);have Z:e[h1]?=(J1_++b++[Au.cells [qIi 0] Ak true])[h1]?:=E.mv.same h1 (t3.t.lt h1 (by simp)) fun V=>t3.n h1 (by simp) (Aas.2 (.inr (Aas.2 (.inr V))));refine ⟨_,⟨Y1.X,Y1.k,j⟩, ?_,(Mv.app _ _ _).trans G,rfl,rfl,rfl, ?_⟩
    ·have:=t3.to y7 G rfl;rw[Aaq] at this;exact this
    ·simp only[IS,t2.l1,AI,y,IN,Ae,r,Pe (a:=⟨h1,0,none⟩) Z,st]
 obtain ⟨J3_,Y3,t3,m3,I,N,S,U⟩:=key;obtain ⟨n,Y4,q,t4,m4,K,O,T⟩:=t3.go (t3.y.go (gi (k+1) (by omega) t3.y.x.k u w (by omega) F W));have q:Ck (k+16) (Jx Y3.X) a (x:Int) to J3_=_:=q;refine ⟨n,Y4, ?_,t4,((m1.trans (Mv.app _ _ _)).trans m3).trans m4,K.trans (I.trans H),O.trans (N.trans M),T.trans (S.trans Q)⟩;refine (Ni (k+17) a (x:Int) to (some ⟨h8,0,none⟩) (some ⟨h5,0,none⟩) (some ⟨h1,0,none⟩) J).trans ?_;rw[QE];simp only[AI,h.l8,o,Gi,t1.l5,p,An];refine xo (v:=(CA.normal,[],J3_)) U ?_;simp only[Aat,t3.l1,AI,IN,t3.y.xr,q,Ah]
end
section
local instance qKQ:AJ:=Ao
variable {J:Aa} {Y:YI} {z:YS} {h1 h5 h8:Nat}
theorem tu (k:Nat) (r:20000<=k) (h:TY J Y z h1 h5 h8) {a:Int} (e:AQ a) {x:Nat} (f:(x:Int)<(Ag z.m a).1) (q:z.L.length<=80000):
  jP (IH (k+17) (tlL h1 h8) [qIi a,qIi (x:Int)] J) J Y (.tuple #[qIi (AE z.m a (x:Int)),qIi 0]) { z with s:=xI z.m z.s a (x:Int),L:=z.L++VG z.m a (x:Int) } h1 h5 h8:=by
 obtain ⟨J1_,Y1,c,t1,o,g,j,m⟩:=qh (k+7) (by omega) h e f (by omega);have c:Io (k+16) (.func (.func Gp) #[] #[bp h1,bp h5]) [qIi a,qIi (x:Int)] J=_:=(Jy (k+16) a (x:Int) (some ⟨h1,0,none⟩) (some ⟨h5,0,none⟩) J).trans c;obtain ⟨b,Y4,d,t4,p,i,l,n⟩:=t1.go (t1.y.go (uN (k+2) (by omega) t1.y.x.k e (x:=(x:Int)) (by omega) f));have d:ES (k+16) (Jx Y1.X) a (x:Int) J1_=_:=d;refine ⟨b,Y4, ?_,t4,o.trans p,i.trans g,l.trans j,n.trans m⟩;refine (Nh (k+17) a (x:Int) (some ⟨h8,0,none⟩) (some ⟨h1,0,none⟩) J).trans ?_;rw[QG];simp only[AI,h.l8,c,Gi,t1.l1,IN,t1.y.xr,d,B6]
end
section
local instance qKR:AJ:=Ao
inductive Tl (z:YS):YS->Prop
 | none:Tl z z
 | full {m':HM}:(∀ a,Ge z.m m' a)->m'.births=z.m.births->m'.bls.length=z.m.bls.length->Tl z { z with m:=m' }
 | new {m':HM} {v:Int} {sh:Int × Int × Int} {w:Int × Nat × Nat}:mU z.m m' v sh->m'.bls.length=z.m.bls.length->Tl z { z with m:=m',s:=Eh z.s v (K6 z.s),r:=Hx z.r w.1 w.2.1 w.2.2 v }
 | store {a to:Int} {x:Nat}:a ∈ E9 z.m z.r->(x:Int)<(Ag z.m a).1->(to=0\/to ∈ E9 z.m z.r)->Tl z { z with m:=(BU z.m a (x:Int) to).2,s:=wE z.m z.s a (x:Int) to,L:=z.L++stL z.m a (x:Int) }
 | set {v:Int} {w:Int × Nat × Nat}:(v=0\/v ∈ E9 z.m z.r)->Tl z { z with r:=Hx z.r w.1 w.2.1 w.2.2 v }
 | load {a:Int} {x:Nat} {w:Int × Nat × Nat}:a ∈ E9 z.m z.r->(x:Int)<(Ag z.m a).1->Tl z { z with s:=xI z.m z.s a (x:Int),L:=z.L++VG z.m a (x:Int),r:=Hx z.r w.1 w.2.1 w.2.2 (AE z.m a (x:Int)) }
 | data {a x v:Int}:0<=x->x<(Ag z.m a).2.1->Tl z { z with m:=(GU z.m a x v).2 }
theorem eZ (m:HM) (s:TC) (a:Int):(IC m s a).ph=s.ph/\(IC m s a).left=s.left/\(IC m s a).look=s.look/\(IC m s a).born=s.born/\(IC m s a).ws.length=s.ws.length/\(s.ph≠1->IC m s a=s):=by
 unfold IC;split
 ·rename_i h;obtain ⟨b,c,d,g,e⟩:=Nr m s a;exact ⟨b,c,d,e,U8 m s a,fun f=>absurd h f⟩
 ·exact ⟨rfl,rfl,rfl,rfl,rfl,fun _=>rfl⟩
theorem Qc {m:HM} {s:TC} (h:s.ph=1) (a:Int):IC m s a=AA m s [a]:=by unfold IC; rw[Aay h]; rfl
theorem mn {m m':HM} (h:∀ b,Aw m' b=Aw m b) (s:TC) (a:Int):Cx m' s a=Cx m s a:=by unfold Cx; rw[h]
theorem XA {m m':HM} (h:∀ b,Aw m' b=Aw m b):∀ (l:List Int) (s:TC),AA m' s l=AA m s l
 | [],s=>rfl
 | a::l,s=>by
   show AA m' (Cx m' s a) l=AA m (Cx m s a) l;rw[mn h,XA h l]
theorem Sa {r:D4} {k:Int} {mt ix:Nat} {a v:Int} (h:v ∈ (Hx r k mt ix a).all):v=a\/v ∈ r.all:=YB h
structure Lk (m m':HM):Prop where
 has:∀ a,Aw m' a=Aw m a
 shp:∀ a,Ag m' a=Ag m a
 ref:∀ a x,AE m' a x=AE m a x
theorem Lk.same {m m':HM} (h:∀ a,Ge m m' a):Lk m m':=⟨fun a=>(h a).has,fun a=>(h a).shp,fun a x=>(h a).AE x⟩
theorem Lk.data {m m':HM} (h:Aba m m'):Lk m m':=⟨h.has,h.shp,h.ref⟩
theorem Lk.symm {m m':HM} (h:Lk m m'):Lk m' m:=⟨fun a=>(h.has a).symm,fun a=>(h.shp a).symm,fun a x=>(h.ref a x).symm⟩
theorem Lk.Ko {m m':HM} (h:Lk m m') {a b:Int}:Edge m' a b↔Edge m a b:=by
 unfold Edge;rw[h.shp];simp only[h.ref]
theorem Edge.Ax {m m':HM} {a b:Int} (h:Ge m m' a):Edge m' a b↔Edge m a b:=by
 unfold Edge;rw[h.shp];simp only[h.AE]
theorem Km {m m':HM} {s:TC} {a:Int} (h:Aw m' a=Aw m a):B5 m' s a=B5 m s a:=by unfold B5; rw[h]
theorem Cl.Ax {m m':HM} {s:TC} (h:Lk m m') {a:Int} (d:Cl m s a):Cl m' s a:=by
 refine d.min (fun a d=>.seen (by rw[Km (h.has a)]; exact d)) (fun a b c i f e hb=>.Ko i f (h.Ko.2 e) (by rw[h.has]; exact hb)) fun a c i g j i0 hb=>?_;rw[<- h.ref] at i0 hb ⊢;exact .ao i (by rw[h.shp]; exact g) i0 (by rw[h.has]; exact hb)
theorem Kp.Ax {m m':HM} {R:Int->Prop} (h:Lk m m') {a:Int} (g:Kp m R a):Kp m' R a:=by
 refine g.min ⟨fun a b c e hb=>.Ko c (h.Ko.2 e) (by rw[h.has]; exact hb),fun a c i d hb=>?_⟩ fun a h1 f=>.root h1 (by rw[h.has]; exact f);rw[<- h.ref] at d hb ⊢;exact .ao c (by rw[h.shp]; exact i) d (by rw[h.has]; exact hb)
theorem IF.Ax {m m':HM} {r:D4} {s:TC} (h:IF m r s) (hs:Lk m m') (n:m'.bls.length=m.bls.length):IF m' r s:=by
 have d:=hs.has;refine ⟨fun j l h0=>by rw[d]; exact h.zc j (by rw[<- n]; exact l) h0,h.bn, ?_⟩;rcases h.st with ⟨h1,f⟩ | ⟨h1,f⟩ | ⟨h1,f⟩
 ·exact .inl ⟨h1,fun a c x=>by rw[d] at c; rw[hs.ref,d]; exact f.rf a c x,fun a c=>by rw[d]; exact f.ld a c,fun a c=>f.c0 a (by rw[<- d]; exact c)⟩
 ·refine .inr (.inl ⟨h1,fun a c x=>by rw[d] at c; rw[hs.ref,d]; exact f.rf a c x,fun a c=>by rw[d]; exact f.ld a c,⟨fun a c=>f.mm.c2 a (by rw[<- d]; exact c),fun a c=>f.mm.gl a (by rw[<- d]; exact c),fun a c=>by rw[Km (d a)]; exact f.mm.ln a c⟩,fun g a b c k e hb=>f.inc g a b (by rw[<- d]; exact c) k (hs.Ko.1 e) (by rw[<- d]; exact hb),fun g=>⟨fun a b c k e hb=>((f.snp g).bl a b (by rw[<- d]; exact c) k (hs.Ko.1 e) (by rw[<- d]; exact hb)).Ax hs,fun a c i=>((f.snp g).rt a c (by rw[<- d]; exact i)).Ax hs⟩⟩)
 ·exact .inr (.inr ⟨h1,fun a c x=>by rw[Km (d a)] at c; rw[hs.ref,Km (d _)]; exact f.rf a c x,fun a c=>by rw[Km (d a)]; exact f.ld a c,fun a c=>f.wh a (by rw[<- d]; exact c)⟩)
def Fit (m:HM) (s:TC) (v:Int):Prop:=v=0\/(Aw m v=true/\(s.ph=1->s.look=false->Cl m s v)/\(s.ph=2->B5 m s v=true))
theorem IF.put {m:HM} {r:D4} {s:TC} (h:IF m r s) {k:Int} {mt ix:Nat} {v:Int} (i:MK m) (f:Fit m s v):IF m (Hx r k mt ix v) s:=by
 refine ⟨h.zc,h.bn, ?_⟩;rcases h.st with ⟨h1,b⟩ | ⟨h1,b⟩ | ⟨h1,b⟩
 ·exact .inl ⟨h1,b.rf,fun a c=>(Sa c).elim (fun e=>by rw[e]; exact f.imp id fun d=>d.1) (b.ld a),b.c0⟩
 ·exact .inr (.inl ⟨h1,b.rf,fun a c=>(Sa c).elim (fun e=>by rw[e]; exact f.imp id fun d=>d.1) (b.ld a),b.mm,b.inc,fun g=>⟨(b.snp g).bl,fun a c d=>(Sa c).elim (fun e=>by
   rcases f with f | f
   ·exact absurd (e.trans f) (Nx i d)
   ·rw[e]; exact f.2.1 h1 g) fun c=>(b.snp g).rt a c d⟩⟩)
 ·exact .inr (.inr ⟨h1,b.rf,fun a c=>(Sa c).elim (fun e=>by rw[e]; exact f.imp id fun d=>d.2.2 h1) (b.ld a),b.wh⟩)
theorem IF.fit {m:HM} {r:D4} {s:TC} (h:IF m r s) (d:MK m) {v:Int} (a:v=0\/v ∈ E9 m r):Fit m s v:=by
 rcases a with a | a
 ·exact .inl a
 ·have b:=(E8 d r).1 a;right;refine ⟨b.has,fun h1 e=>?_,fun c=>?_⟩
  ·rcases h.st with ⟨x,_⟩ | ⟨_,x⟩ | ⟨x,_⟩
   ·rw[h1] at x; cases x
   ·exact (x.snp e).kept b
   ·rw[h1] at x; cases x
  ·rcases h.st with ⟨x,_⟩ | ⟨x,_⟩ | ⟨_,x⟩
   ·rw[c] at x; cases x
   ·rw[c] at x; cases x
   ·exact x.kept d b
theorem IF.new {m m':HM} {r:D4} {s:TC} (h:IF m r s) (Q:MK m) (C:MK m') (K:Qj m.bls.length s) {v:Int} {M:Int × Int × Int} (V:mU m m' v M) (J:m'.bls.length=m.bls.length) {k:Int} {mt ix:Nat}:IF m' (Hx r k mt ix v) (Eh s v (K6 s)):=by
 have hw:Wl m' s:=by unfold Wl; rw[J]; exact K.wl
 have IY:∀ a,Aw m a=true->a≠v/\Aw m' a=true/\Ge m m' a:=fun a d=>by
  have g:a≠v:=by rintro rfl; rw[V.IY] at d; cases d
  exact ⟨g,by rw[(V.same a g).has]; exact d,V.same a g⟩
 have back:∀ a,Aw m' a=true->a=v\/Aw m a=true:=fun a d=>by
  by_cases g:a=v
  ·exact .inl g
  ·exact .inr (by rw[<- (V.same a g).has]; exact d)
 have q:K6 s<4/\K6 s≠1/\K6 s<=2:=by
  unfold K6;have I:=h.bn;split
  ·rw[I]; split <;> decide
  ·split <;> decide
 have f:∀ a,Aw m' a=true->C0 (Eh s v (K6 s)) a=if a=v then K6 s else C0 s a:=fun a d=>UN hw V.has d q.1
 have O:Zc m' (Eh s v (K6 s)):=Zc.cV (fun j L h0=>(IY _ (h.zc j (by rw[<- J]; exact L) h0)).2.1) hw V.has q.1;have t:XO m->XO m':=fun D a d x=>by
  rcases back a d with rfl | hm
  ·exact .inl (V.ref _)
  ·rw[(IY a hm).2.2.AE];exact (D a hm x).imp id fun w=>(IY _ w).2.1
 have Be:Mw m r->Mw m' (Hx r k mt ix v):=fun D a d=>(Sa d).elim (fun e=>.inr (by rw[e]; exact V.has)) fun d=>(D a d).imp id fun w=>(IY a w).2.1;have E:∀ b,Edge m' v b->Aw m' b=true->False:=fun b ⟨x,_,_,e⟩ hb=>by
  rw[V.ref] at e;rw[<- e,xL C] at hb; cases hb
 have Ko:∀ a b,XO m->Aw m a=true->Edge m' a b->Aw m' b=true->Edge m a b/\Aw m b=true:=fun a b D d e hb=>by
  have A:=(Edge.Ax (IY a d).2.2).1 e;obtain ⟨x,h1,l,H⟩:=A;refine ⟨⟨x,h1,l,H⟩, ?_⟩;rcases D a d x with h0 | h0
  ·rw[<- H,h0,xL C] at hb; cases hb
  ·rw[<- H]; exact h0
 have seen:∀ a,B5 m s a=true->B5 m' (Eh s v (K6 s)) a=true:=fun a d=>by
  obtain ⟨F,G⟩:=AP.1 d;obtain ⟨p,u,_⟩:=IY a F;exact AP.2 ⟨u,by rw[f a u,Aaz p]; exact G⟩
 have mono:∀ a,Cl m s a->Cl m' (Eh s v (K6 s)) a:=fun a d=>by
  refine d.min (fun a d=>.seen (seen a d)) (fun a b c i n e hb=>?_) fun a c i y P i0 hb=>?_
  ·obtain ⟨p,u,z⟩:=IY a c.has;exact .Ko i (by rw[f a u,Aaz p]; exact n) ((Edge.Ax z).2 e) (IY b hb).2.1
  ·obtain ⟨p,u,z⟩:=IY a c.has;have o:=(IY _ hb).2.1;rw[<- z.AE] at i0 o ⊢;exact .ao i (by rw[z.shp]; exact y) i0 o
 refine ⟨O,h.bn, ?_⟩;rcases h.st with ⟨h1,l⟩ | ⟨h1,l⟩ | ⟨h1,l⟩
 ·refine .inl ⟨h1,t l.rf,Be l.ld,fun a d=>?_⟩;rw[f a d];split
  ·unfold K6; rw[h1]; rfl
  ·rename_i g;exact l.c0 a ((back a d).resolve_left g)
 ·refine .inr (.inl ⟨h1,t l.rf,Be l.ld,⟨fun a d=>?_,fun a d n=>?_,fun a d=>seen a (l.mm.ln a d)⟩,fun y a b d n e hb=>?_,fun y=>⟨fun a b d n e hb=>?_,fun a d w=>?_⟩⟩)
  ·rw[f a d];split
   ·exact q.2.2
   ·rename_i g;exact l.mm.c2 a ((back a d).resolve_left g)
  ·rw[f a d] at n;split at n
   ·exact absurd n q.2.1
   ·rename_i g;exact l.mm.gl a ((back a d).resolve_left g) n
  ·rcases back a d with rfl | hm
   ·exact absurd (E b e hb) id
   ·obtain ⟨p,u,_⟩:=IY a hm;rw[f a d,Aaz p] at n;obtain ⟨A,o⟩:=Ko a b l.rf hm e hb;have:=l.inc y a b hm n A o;rw[f b hb,Aaz (IY b o).1]; exact this
  ·rcases back a d with rfl | hm
   ·exact absurd (E b e hb) id
   ·obtain ⟨p,u,_⟩:=IY a hm;rw[f a d,Aaz p] at n;obtain ⟨A,o⟩:=Ko a b l.rf hm e hb;exact mono b ((l.snp y).bl a b hm n A o)
  ·rcases back a w with rfl | hm
   ·refine .seen (AP.2 ⟨w, ?_⟩);have:s.look=false:=y;rw[f a w,Aay rfl];unfold K6;rw[Aay h1,h.bn,this]; decide
   ·rcases Sa d with e | d
    ·exact absurd e (IY a hm).1
    ·exact mono a ((l.snp y).rt a d hm)
 ·have B:K6 s=2:=by unfold K6; rw[h1]; rfl
  have N:B5 m' (Eh s v (K6 s)) v=true:=AP.2 ⟨V.has,by rw[f v V.has,Aay rfl,B]; decide⟩;refine .inr (.inr ⟨h1,fun a d x=>?_,fun a d=>(Sa d).elim (fun e=>.inr (by rw[e]; exact N)) fun d=>(l.ld a d).imp id (seen a),fun a d n=>?_⟩)
  ·obtain ⟨F,G⟩:=AP.1 d;rcases back a F with rfl | hm
   ·exact .inl (V.ref _)
   ·obtain ⟨p,u,z⟩:=IY a hm;rw[f a F,Aaz p] at G;rw[z.AE];exact (l.rf a (AP.2 ⟨hm,G⟩) x).imp id (seen _)
  ·rw[f a d] at n;split at n
   ·rw[B] at n; cases n
   ·rename_i g;exact l.wh a ((back a d).resolve_left g) n
end
section
local instance qKS:AJ:=Ao
def KV (m:HM) (a x:Int) (IY:Int):List Int:=IY::if x=0/\(Ag m a).2.2=2 then [AE m a 1] else []
theorem zW {m:HM} {s:TC} (h:s.ph=1) (a x IY:Int):zV m s a x IY=AA m s (KV m a x IY):=by
 unfold zV KV;split
 ·rw[Qc h,Qc (by rw[<- h]; exact (Dx m [IY] s).1)];rfl
 ·rw[Qc h]
theorem xO {m:HM} {s:TC} (h:s.ph≠1) (a x IY:Int):zV m s a x IY=s:=by
 have e:∀ b,IC m s b=s:=fun b=>by unfold IC; rw[Aaz h]
 unfold zV;split
 ·rw[e,e]
 ·rw[e]
theorem IF.store {m:HM} {r:D4} {s:TC} (h:IF m r s) (z:MK m) (U:Qj m.bls.length s) (M:s.look=false) {a to:Int} {x:Nat} (W:a ∈ E9 m r) (hx:(x:Int)<(Ag m a).1) (q:to=0\/to ∈ E9 m r):IF (BU m a (x:Int) to).2 r (wE m s a (x:Int) to)/\(wE m s a (x:Int) to).look=false/\(wE m s a (x:Int) to).ph=s.ph:=by
 have ka:=(E8 z r).1 W;have C:to=0\/Aw m to=true:=q.imp id fun d=>((E8 z r).1 d).has;obtain ⟨_,V⟩:=U6 z.inv (a:=a) (x:=(x:Int)) (v:=to) (by omega) hx C;have F:=h.fit z q;have hw:Wl m s:=U.wl;unfold wE;generalize Y:(BU m a (x:Int) to).2=m' at *;have d:=V.has;have E:XO m->XO m':=fun hr b hb y=>by
  rw[d] at hb;rw[V.ref,d];split
  ·exact C
  ·exact hr b hb y
 by_cases hp:s.ph=1;rotate_left
 ·rw[xO hp];refine ⟨⟨fun j B h0=>by rw[d]; exact h.zc j (by rw[V.bls] at B; exact B) h0,h.bn, ?_⟩,M,rfl⟩;rcases h.st with ⟨h1,k⟩ | ⟨h1,_⟩ | ⟨h1,k⟩
  ·exact .inl ⟨h1,E k.rf,fun b hb=>by rw[d]; exact k.ld b hb,fun b hb=>k.c0 b (by rw[<- d]; exact hb)⟩
  ·exact absurd h1 hp
  ·refine .inr (.inr ⟨h1,fun b hb y=>?_,fun b hb=>by rw[Km (d b)]; exact k.ld b hb,fun b hb=>k.wh b (by rw[<- d]; exact hb)⟩);rw[Km (d b)] at hb;rw[V.ref,Km (d _)];split
   ·exact F.imp id fun X=>X.2.2 h1
   ·exact k.rf b hb y
 ·rw[zW hp];have T:AA m' s (KV m' a (x:Int) (AE m a (x:Int)))=AA m s (KV m' a (x:Int) (AE m a (x:Int))):=XA d _ _;rw[T];obtain ⟨O,q2,P,q4,q5⟩:=Dx m (KV m' a (x:Int) (AE m a (x:Int))) s;have k:tC m r s:=by
   rcases h.st with ⟨y,_⟩ | ⟨_,y⟩ | ⟨y,_⟩
   ·rw[hp] at y; cases y
   ·exact y
   ·rw[hp] at y; cases y
  have f:∀ b,Aw m b=true->b ∈ KV m' a (x:Int) (AE m a (x:Int))->C0 (AA m s (KV m' a (x:Int) (AE m a (x:Int)))) b≠0:=fun b hb J=>by
   rw[HK _ _ hw hb];split
   ·decide
   ·rename_i A;exact fun h0=>A ⟨h0,J⟩
  have w:=k.HJ hw (KV m' a (x:Int) (AE m a (x:Int)));have hz:Zc m (AA m s (KV m' a (x:Int) (AE m a (x:Int)))):=Zc.HJ _ h.zc hw;have hold:AE m a (x:Int) ∈ KV m' a (x:Int) (AE m a (x:Int)):=Acj;have D:(x:Int)=0->(Ag m a).2.2=2->AE m a 1 ∈ KV m' a (x:Int) (AE m a (x:Int)):=fun e o=>by
   unfold KV;rw[V.shp,Aay ⟨e,o⟩,V.ref,Aaz (fun d=>by omega)];simp
  generalize AA m s (KV m' a (x:Int) (AE m a (x:Int)))=s2 at *;have p:s2.look=false:=P.trans M;have u:=w.snp p;have mono:∀ b,Cl m s2 b->Cl m' s2 b:=fun b hb=>by
   refine hb.min (fun b hb=>.seen (by rw[Km (d b)]; exact hb)) (fun y b c i A e hb=>?_) fun y c i o c0 i0 hb=>?_
   ·obtain ⟨n,G,H,l⟩:=e;by_cases g:y=a/\(n:Int)=(x:Int)
    ·obtain ⟨rfl,Z⟩:=g;rw[Z] at l;exact .seen (AP.2 ⟨by rw[d]; exact hb,f b hb (by rw[<- l]; exact hold)⟩)
    ·refine .Ko i A ⟨n,by rw[V.shp]; exact G,by rw[V.shp]; exact H, ?_⟩ (by rw[d]; exact hb);rw[V.ref,Aaz g]; exact l
   ·by_cases t:y=a
    ·subst t;by_cases Q:(x:Int)=0
     ·exact .seen (AP.2 ⟨by rw[d]; exact hb,f _ hb (D Q o)⟩)
     ·by_cases S:(x:Int)=1
      ·exact .seen (AP.2 ⟨by rw[d]; exact hb,f _ hb (by rw[<- S]; exact hold)⟩)
      ·have K:AE m' y 0=AE m y 0:=by rw[V.ref,Aaz (fun g=>Q g.2.symm)]
       have L:AE m' y 1=AE m y 1:=by rw[V.ref,Aaz (fun g=>S g.2.symm)]
       rw[<- K] at i0;rw[<- L] at hb ⊢;exact .ao i (by rw[V.shp]; exact o) i0 (by rw[d]; exact hb)
    ·have K:AE m' y 0=AE m y 0:=by rw[V.ref,Aaz (fun g=>t g.1)]
     have L:AE m' y 1=AE m y 1:=by rw[V.ref,Aaz (fun g=>t g.1)]
     rw[<- K] at i0;rw[<- L] at hb ⊢;exact .ao i (by rw[V.shp]; exact o) i0 (by rw[d]; exact hb)
  refine ⟨⟨fun j B h0=>by rw[d]; exact hz j (by rw[V.bls] at B; exact B) h0,by rw[q5,P]; exact h.bn,.inr (.inl ⟨O.trans hp,E w.rf,fun b hb=>by rw[d]; exact w.ld b hb,⟨fun b hb=>w.mm.c2 b (by rw[<- d]; exact hb),fun b hb=>w.mm.gl b (by rw[<- d]; exact hb),fun b hb=>by rw[Km (d b)]; exact w.mm.ln b hb⟩,fun o=>(by rw[p] at o; cases o),fun _=>⟨fun y b N A e hb=>?_,fun b hb I=>mono b (u.rt b hb (by rw[<- d]; exact I))⟩⟩)⟩,p,O⟩;rw[d] at N hb;obtain ⟨n,G,H,l⟩:=e;rw[V.shp] at G H;rw[V.ref] at l;split at l
  ·rcases q with q | q
   ·rw[<- l,q,xL z] at hb; cases hb
   ·rw[<- l];refine mono to ((xc.kept u) ((E8 z r).1 q))
  ·exact mono b (u.bl y b N A ⟨n,G,H,l⟩ hb)
theorem IF.load {m:HM} {r:D4} {s:TC} (h:IF m r s) (f:MK m) (k:Qj m.bls.length s) (g:s.look=false) {a:Int} {x:Nat} (l:a ∈ E9 m r) (o:(x:Int)<(Ag m a).1):IF m r (xI m s a (x:Int))/\(xI m s a (x:Int)).look=false/\(xI m s a (x:Int)).ph=s.ph/\Fit m (xI m s a (x:Int)) (AE m a (x:Int)):=by
 have e:=(E8 f r).1 l;have hw:Wl m s:=k.wl;have d:DV (Ag m a).2.2 (x:Int)=false->Fit m s (AE m a (x:Int)):=fun hs=>by
  by_cases h0:Aw m (AE m a (x:Int))=true
  ·exact h.fit f (.inr ((E8 f r).2 (e.Ko ⟨x,o,hs,rfl⟩ h0)))
  ·left;rcases h.st with ⟨_,b⟩ | ⟨_,b⟩ | ⟨_,b⟩
   ·exact (b.rf a e.has x).resolve_right h0
   ·exact (b.rf a e.has x).resolve_right h0
   ·exact (b.rf a (b.kept f e) x).resolve_right fun c=>h0 (AP.1 c).1
 unfold xI;cases hs:DV (Ag m a).2.2 (x:Int) with
 | false=>exact ⟨h,g,rfl,d hs⟩
 | true=>
   simp only[Aat];by_cases hp:s.ph=1
   ·rw[Qc hp];obtain ⟨i,q,j,t,p⟩:=Dx m [AE m a (x:Int)] s;have b:tC m r s:=by
     rcases h.st with ⟨y,_⟩ | ⟨_,y⟩ | ⟨y,_⟩
     ·rw[hp] at y; cases y
     ·exact y
     ·rw[hp] at y; cases y
    refine ⟨⟨Zc.HJ _ h.zc hw,by rw[p,j]; exact h.bn,.inr (.inl ⟨i.trans hp,b.HJ hw _⟩)⟩,j.trans g,i,(b.rf a e.has x).imp id fun c=>⟨c,fun _ _=>.seen (AP.2 ⟨c, ?_⟩),fun b=>by rw[i,hp] at b; cases b⟩⟩;rw[HK _ _ hw c];split
    ·decide
    ·rename_i n;exact fun h0=>n ⟨h0,by simp⟩
   ·rw[(eZ m s (AE m a (x:Int))).2.2.2.2.2 hp];refine ⟨h,g,rfl, ?_⟩;rcases h.st with ⟨h1,b⟩ | ⟨h1,_⟩ | ⟨h1,b⟩
    ·exact (b.rf a e.has x).imp id fun c=>⟨c,fun h=>absurd h hp,fun b=>by rw[h1] at b; cases b⟩
    ·exact absurd h1 hp
    ·exact (b.rf a (b.kept f e) x).imp id fun c=>⟨(AP.1 c).1,fun h=>absurd h hp,fun _=>c⟩
theorem Tl.run {z z':YS} (h:Tl z z') (b:IF z.m z.r z.s) (d:MK z.m) (k:MK z'.m) (l:Qj z.m.bls.length z.s) (e:z.s.look=false):IF z'.m z'.r z'.s/\z'.s.look=false/\z'.s.ph=z.s.ph/\z'.m.births<=z.m.births+1/\z'.m.bls.length=z.m.bls.length/\z'.K=z.K/\z'.bn=z.bn:=by
 cases h with
 | none=>exact ⟨b,e,rfl,by omega,rfl,rfl,rfl⟩
 | full h1 f c=>exact ⟨b.Ax (Lk.same h1) c,e,rfl,by dsimp only; omega,c,rfl,rfl⟩
 | new V c=>exact ⟨b.new d k l V c,e,rfl,by dsimp only; rw[V.brt]; omega,c,rfl,rfl⟩
 | @store a to x h1 f c=>
   obtain ⟨g,i,j⟩:=b.store d l e h1 f c;obtain ⟨n,p,o,_⟩:=N3 z.m a (x:Int) to;exact ⟨g,i,j,by dsimp only; rw[o]; omega,by dsimp only; rw[n],rfl,rfl⟩
 | set h1=>exact ⟨b.put d (b.fit d h1),e,rfl,by dsimp only; omega,rfl,rfl,rfl⟩
 | load h1 f=>
   obtain ⟨g,i,j,m⟩:=b.load d l e h1 f;exact ⟨g.put d m,i,j,by dsimp only; omega,rfl,rfl,rfl⟩
 | @data a x v h1 f=>
   obtain ⟨_,V⟩:=X8 d.inv v h1 f;exact ⟨b.Ax (Lk.data V) (by rw[V.bls]),e,rfl,by dsimp only; rw[V.brt]; omega,by dsimp only; rw[V.bls],rfl,rfl⟩
end
end
end Go.Proofs.YtjbledomkmdkmaaGreat
