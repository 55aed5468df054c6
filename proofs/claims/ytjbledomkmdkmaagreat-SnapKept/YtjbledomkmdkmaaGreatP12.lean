/- Part 12. -/
import Derived.OpenShut
import Derived.Test.YtjbledomkmdkmaaGreatP11
import Derived.Test.YtjbledomkmdkmaaGreatP10
import Derived.Test.YtjbledomkmdkmaaGreatP9
set_option linter.unusedVariables false
set_option linter.unusedSimpArgs false
set_option linter.unusedSectionVars false
namespace Go.Proofs.YtjbledomkmdkmaaGreat
open Go Go.AX Go.RowKit Go.ChangeShapes Go.WideShapes Go.ChangeAt
noncomputable section
section
set_option maxRecDepth 100000
variable {H:Type} {enc:TypeId × Value->H} {W:World} {base:Nat} {sp:Nat->Bool} {hd:Bool} {fuel:Nat} {cs:List Value} {x:DataW H × List MemPlace}
def IsU (v:Value):Prop:=∃ n,v = .int .u8 n/\0<=n/\n<256
def dK (T:TypeId) (z:Nat):Prop:=∀ {H:Type} {enc:TypeId × Value->H} {W:World} {base:Nat} {sp:Nat->Bool} {hd:Bool} {fuel:Nat} {cs:List Value} {x:DataW H × List MemPlace},cs.length=z->DataW.trod enc Tryz.prog W base sp hd fuel T cs=some x -> ∀ v ∈ cs,IsU v
theorem vG {n:Int} (h:(Lit.int .u8 n).wf=true):0<=n/\n<256:=by
 rw[Lit.wf_int_iff] at h;have h1:IntKind.u8.min=0:=by decide
 have a:IntKind.u8.max=255:=by decide
 rw[h1,a] at h;omega
theorem wL {T:TypeId} (b:Tryz.prog.underlying T=some (.int .u8)):dK T 1:=by
 intro H enc W base sp hd fuel cs x d a v c;obtain ⟨n,rfl,_,w⟩:=DataW.trod_int b a;rw[Ac1.1 c];exact ⟨n,rfl,vG w⟩
theorem bf {T e:TypeId} {n z:Nat} (i:Tryz.prog.underlying T=some (.array n e)) (k:Tryz.prog.cellsOf e=z) (h:dK e z) (h0:0<z):dK T (n*z):=by
 intro H enc W base sp hd fuel cs x b g v j;obtain ⟨xs,m,_,_,_,o,a⟩:=DataW.trod_array i g;obtain ⟨q,d,rfl⟩:=Adx.1 j;have h1:q/z<n:=by rw[b] at d; exact Nat.div_lt_of_lt_mul (by rw[Af8]; exact d)
 have c:=a (q/z) h1;have l:q/z*z+z<=n*z:=by
  have:(q/z+1)*z<=n*z:=Aeh _ h1;rw[Afv,Aih] at this; exact this
 rw[k,Aaj (by omega)] at c;refine h (by rw[Adc,Adf,b]; omega) c _ ?_;have f:=Agq q z;have h5:=Ael q h0;rw[Af8] at f;refine Adx.2 ⟨q % z,by rw[Adc,Adf,b]; omega, ?_⟩;rw[Aei,Aet];congr 1
def ao (T:TypeId) (z:Nat):El (Nat->Int):=⟨T,z,fun y=>(List.range z).map fun q=>.int .u8 (y q),fun y=>∀ q,q<z->0<=y q/\y q<256⟩
def vH (v:Option Value):Int:=match v with | some (.int .u8 n)=>n | _=>0
theorem dF {T:TypeId} {z:Nat} (i:Tryz.prog.cellsOf T=z) (z0:0<z) (h:dK T z):Z7 (ao T z) where
 zc:=i
 z0:=z0
 len:=fun y=>by simp[ao]
 one:=fun y v e=>by
  simp only[ao,Ad0] at e;obtain ⟨q,_,rfl⟩:=e;exact .inl ⟨_,_,rfl⟩
 rd:=fun {H enc W base sp hd fuel cs x} c g=>by
  have c:cs.length=z:=c;have f:=h c g;have d:∀ q,q<z -> ∃ n,cs[q]?=some (.int .u8 n)/\0<=n/\n<256:=fun q a=>by
   rw[Aaj (by omega)];obtain ⟨n,h1,b⟩:=f _ (Ac4 (by omega:q<cs.length));exact ⟨n,by rw[h1],b⟩
  refine ⟨fun q=>vH cs[q]?,fun q a=>?_,Ady fun q=>?_⟩
  ·obtain ⟨n,h1,b⟩:=d q a;simp only[h1,vH];exact b
  ·by_cases a:q<z
   ·obtain ⟨n,h1,_⟩:=d q a;simp[ao,a,h1,vH]
   ·rw[Adh (by omega),Adh (by simp[ao]; omega)]
def Sm (z:Nat) (l:List (Nat->Int)):List Int:=l.flatMap fun y=>(List.range z).map y
theorem fC (z:Nat):∀ l,(Sm z l).length=l.length*z
 | []=>by simp[Sm]
 | y::l=>by
   have:=fC z l;unfold Sm at this ⊢;rw[Agg,Abe,this,Aee,Agf,Ada,Afv,Aih,Nat.add_comm]
theorem fD (T:TypeId) (z:Nat):∀ l,qj (Sm z l)=(ao T z).row l
 | []=>rfl
 | y::l=>by
   have:=fD T z l;unfold Sm qj at this ⊢;rw[Agg,Aex,this];simp[El.row,ao]
theorem Tj.u8 {T:TypeId} {z:Nat} {J:Aa} {d:qOi} {l:List (Nat->Int)} {W:World} {v:Value} (h:Tj (ao T z) J d l) (e:P7 (ao T z) W v l) (c:Nat):Mj J.length J z ⟨d,l.length,c,Sm z l⟩:=by
 refine ⟨fC z l,fun v b=>?_, ?_⟩
 ·simp only[Sm,Afk,Ad0,Agv] at b;obtain ⟨y,g,q,f,rfl⟩:=b;exact e.1 y g q f
 ·rcases h with rfl | ⟨ab,h1,a⟩
  ·exact .inl rfl
  ·exact .inr ⟨ab,T,false,h1,(Abw.1 a).1,by rw[a,<- fD T z]; rfl⟩
theorem Vy:dK 5 1:=wL (by kernel_rfl)
theorem tO:dK 61 4:=bf Tryz.underlying61 (by kernel_rfl) Vy (by decide)
theorem nG:Z7 (ao 61 4):=dF (by kernel_rfl) (by decide) tO
theorem yZ:dK 52 3:=bf Tryz.underlying52 (by kernel_rfl) Vy (by decide)
theorem nF:Z7 (ao 52 3):=dF (by kernel_rfl) (by decide) yZ
theorem wM:dK 161 2:=bf Tryz.underlying161 (by kernel_rfl) Vy (by decide)
theorem nE:Z7 (ao 161 2):=dF (by kernel_rfl) (by decide) wM
theorem pA:Z7 (ao 5 1):=dF (by kernel_rfl) (by decide) Vy
theorem zd:dK 63 8:=by
 intro H enc W base sp hd fuel cs x b h v i;obtain ⟨xs,n,_,_,_,hlen,a⟩:=Ahq Tryz.underlying63 h;have hlen:xs.length=5:=hlen;obtain ⟨q,w,rfl⟩:=Adx.1 i;have j:Tryz.prog.cellsOf 5=1:=by kernel_rfl
 have c:DataW.trod enc Tryz.prog W base sp hd n 5 ((cs.drop 0).take (Tryz.prog.cellsOf 5))=xs[0]?:=a 0 _ rfl;rw[j,Aaj (show 0<xs.length by omega)] at c;by_cases p:0<=q/\q<1
 ·refine Vy (fuel:=n) (x:=xs[0]) (cs:=(cs.drop 0).take 1) (by simp[Adc,Adf,b]) c _ ?_;refine Adx.2 ⟨q-0,by rw[Adc,Adf,b]; omega, ?_⟩;rw[Aei,Aet];congr 1; omega
 have k:Tryz.prog.cellsOf 5=1:=by kernel_rfl
 have d:DataW.trod enc Tryz.prog W base sp hd n 5 ((cs.drop 1).take (Tryz.prog.cellsOf 5))=xs[1]?:=a 1 _ rfl;rw[k,Aaj (show 1<xs.length by omega)] at d;by_cases r:1<=q/\q<2
 ·refine Vy (fuel:=n) (x:=xs[1]) (cs:=(cs.drop 1).take 1) (by simp[Adc,Adf,b]) d _ ?_;refine Adx.2 ⟨q-1,by rw[Adc,Adf,b]; omega, ?_⟩;rw[Aei,Aet];congr 1; omega
 have l:Tryz.prog.cellsOf 5=1:=by kernel_rfl
 have e:DataW.trod enc Tryz.prog W base sp hd n 5 ((cs.drop 2).take (Tryz.prog.cellsOf 5))=xs[2]?:=a 2 _ rfl;rw[l,Aaj (show 2<xs.length by omega)] at e;by_cases s:2<=q/\q<3
 ·refine Vy (fuel:=n) (x:=xs[2]) (cs:=(cs.drop 2).take 1) (by simp[Adc,Adf,b]) e _ ?_;refine Adx.2 ⟨q-2,by rw[Adc,Adf,b]; omega, ?_⟩;rw[Aei,Aet];congr 1; omega
 have m:Tryz.prog.cellsOf 5=1:=by kernel_rfl
 have f:DataW.trod enc Tryz.prog W base sp hd n 5 ((cs.drop 3).take (Tryz.prog.cellsOf 5))=xs[3]?:=a 3 _ rfl;rw[m,Aaj (show 3<xs.length by omega)] at f;by_cases t:3<=q/\q<4
 ·refine Vy (fuel:=n) (x:=xs[3]) (cs:=(cs.drop 3).take 1) (by simp[Adc,Adf,b]) f _ ?_;refine Adx.2 ⟨q-3,by rw[Adc,Adf,b]; omega, ?_⟩;rw[Aei,Aet];congr 1; omega
 have o:Tryz.prog.cellsOf 61=4:=by kernel_rfl
 have g:DataW.trod enc Tryz.prog W base sp hd n 61 ((cs.drop 4).take (Tryz.prog.cellsOf 61))=xs[4]?:=a 4 _ rfl;rw[o,Aaj (show 4<xs.length by omega)] at g;by_cases u:4<=q/\q<8
 ·refine tO (fuel:=n) (x:=xs[4]) (cs:=(cs.drop 4).take 4) (by simp[Adc,Adf,b]) g _ ?_;refine Adx.2 ⟨q-4,by rw[Adc,Adf,b]; omega, ?_⟩;rw[Aei,Aet];congr 1; omega
 omega
theorem ze:dK 65 10:=by
 intro H enc W base sp hd fuel cs x b f v g;obtain ⟨xs,n,_,_,_,hlen,a⟩:=Ahq Tryz.underlying65 f;have hlen:xs.length=3:=hlen;obtain ⟨q,o,rfl⟩:=Adx.1 g;have h:Tryz.prog.cellsOf 63=8:=by kernel_rfl
 have c:DataW.trod enc Tryz.prog W base sp hd n 63 ((cs.drop 0).take (Tryz.prog.cellsOf 63))=xs[0]?:=a 0 _ rfl;rw[h,Aaj (show 0<xs.length by omega)] at c;by_cases k:0<=q/\q<8
 ·refine zd (fuel:=n) (x:=xs[0]) (cs:=(cs.drop 0).take 8) (by simp[Adc,Adf,b]) c _ ?_;refine Adx.2 ⟨q-0,by rw[Adc,Adf,b]; omega, ?_⟩;rw[Aei,Aet];congr 1; omega
 have i:Tryz.prog.cellsOf 5=1:=by kernel_rfl
 have d:DataW.trod enc Tryz.prog W base sp hd n 5 ((cs.drop 8).take (Tryz.prog.cellsOf 5))=xs[1]?:=a 1 _ rfl;rw[i,Aaj (show 1<xs.length by omega)] at d;by_cases l:8<=q/\q<9
 ·refine Vy (fuel:=n) (x:=xs[1]) (cs:=(cs.drop 8).take 1) (by simp[Adc,Adf,b]) d _ ?_;refine Adx.2 ⟨q-8,by rw[Adc,Adf,b]; omega, ?_⟩;rw[Aei,Aet];congr 1; omega
 have j:Tryz.prog.cellsOf 5=1:=by kernel_rfl
 have e:DataW.trod enc Tryz.prog W base sp hd n 5 ((cs.drop 9).take (Tryz.prog.cellsOf 5))=xs[2]?:=a 2 _ rfl;rw[j,Aaj (show 2<xs.length by omega)] at e;by_cases m:9<=q/\q<10
 ·refine Vy (fuel:=n) (x:=xs[2]) (cs:=(cs.drop 9).take 1) (by simp[Adc,Adf,b]) e _ ?_;refine Adx.2 ⟨q-9,by rw[Adc,Adf,b]; omega, ?_⟩;rw[Aei,Aet];congr 1; omega
 omega
theorem Wr:Z7 (ao 65 10):=dF (by kernel_rfl) (by decide) ze
theorem mR {O:Nat} {v:Value} {d:DataW H} {p:List MemPlace} (g:Value.okWide Tryz.prog W .any O 27 v) (h:DataW.Trod enc Tryz.prog W 0 (fun _=>true) true 27 v d p):
  ∃ b m o i li pl pi,v = .agg #[.int .u8 b,.int .u8 m,o,i,li,pl,pi]/\(0<=b/\b<256)/\(0<=m/\m<256)/\(∀ w ∈ [o,i,li,pl,pi],∃ a n c,w = .slice a n c)/\(∃ l,P7 (ao 61 4) W o l)/\(∃ l,P7 (ao 5 1) W i l)/\(∃ l,P7 (ao 52 3) W li l)/\(∃ l,P7 (ao 161 2) W pl l) /\ ∃ l,P7 (ao 5 1) W pi l:=by
 obtain ⟨cs,rfl,r⟩:=okWide_struct Tryz.underlying27 g;obtain ⟨fuel,q⟩:=h;have z:Tryz.prog.cellsOf 27=7:=by kernel_rfl
 have z1:Tryz.prog.cellsOf 5=1:=by kernel_rfl
 have s:Tryz.prog.cellsOf 22=1:=by kernel_rfl
 have ta:Tryz.prog.cellsOf 23=1:=by kernel_rfl
 have t:Tryz.prog.cellsOf 24=1:=by kernel_rfl
 have u:Tryz.prog.cellsOf 25=1:=by kernel_rfl
 have x:Tryz.prog.cellsOf 23=1:=by kernel_rfl
 obtain ⟨y,A,B,C,D,E,F,j⟩:=ym cs.toList (by simpa [z] using r);have f:cs = #[y,A,B,C,D,E,F]:=by apply Agy.1; rw[j]
 subst f;have q:DataW.trod enc Tryz.prog W 0 (fun _=>true) true fuel 27 [y,A,B,C,D,E,F]=_:=q;obtain ⟨xs,n,_,_,_,hlen,e⟩:=Ahq Tryz.underlying27 q;obtain ⟨y0,y1,y2,y3,y4,y5,y6,rfl⟩:=ym xs hlen;have G:=e 0 _ rfl;have I:=e 1 _ rfl;have J:=e 2 _ rfl;have K:=e 3 _ rfl;have L:=e 4 _ rfl;have M:=e 5 _ rfl;have N:=e 6 _ rfl;simp only[z1,s,ta,t,u,x,Agn,Ac6,Ahb,Agk,Ach,Acj] at G I J K L M N;obtain ⟨a0,P,_,w0⟩:=DataW.trod_int (k:=.u8) (by kernel_rfl) G;obtain ⟨a1,Q,_,w1⟩:=DataW.trod_int (k:=.u8) (by kernel_rfl) I;obtain ⟨v2,S,q2,s2⟩:=Rd nG (ST:=22) Tryz.underlying22 J;obtain ⟨v3,T,q3,Y⟩:=Rd pA (ST:=23) Tryz.underlying23 K;obtain ⟨v4,U,q4,Z⟩:=Rd nF (ST:=24) Tryz.underlying24 L;obtain ⟨v5,V,q5,s5⟩:=Rd nE (ST:=25) Tryz.underlying25 M;obtain ⟨v6,X,q6,s6⟩:=Rd pA (ST:=23) Tryz.underlying23 N;obtain ⟨rfl,_⟩:=Ae4 P;obtain ⟨rfl,_⟩:=Ae4 Q;obtain ⟨rfl,_⟩:=Ae4 S;obtain ⟨rfl,_⟩:=Ae4 T;obtain ⟨rfl,_⟩:=Ae4 U;obtain ⟨rfl,_⟩:=Ae4 V;obtain ⟨rfl,_⟩:=Ae4 X;refine ⟨_,_,_,_,_,_,_,rfl,vG w0,vG w1,fun w hw=>?_,s2,Y,Z,s5,s6⟩;simp only[Acv,Ad3,Afz] at hw;rcases hw with rfl | rfl | rfl | rfl | rfl <;> assumption
theorem Qu.app {J:Aa} {B:Bg} (h:Qu J.length J B) (τ:Aa):Qu (J++τ).length (J++τ) B:=by
 have up:∀ {w:Nat} {b:BL},Mj J.length J w b->Mj (J++τ).length (J++τ) w b:=fun hu=>
  ⟨hu.len,hu.rng,hu.at_.imp id fun ⟨q,T,d,a,e,c⟩=>⟨q,T,d,a,by rw[Abe]; omega,by rw[AT e]; exact c⟩⟩;exact ⟨h.b0,h.m0,up h.ob,up h.de,up h.li,up h.pl,up h.pi⟩
theorem qR {J:Aa} {Z:Mu} (O:Qa W J Z) {b m:Int} {o A li pl pi:Value} (hb:0<=b/\b<256) (hm:0<=m/\m<256) (hw:∀ w ∈ [o,A,li,pl,pi],∃ a n c,w = .slice a n c)
  (s2:∃ l,P7 (ao 61 4) W o l) (g:∃ l,P7 (ao 5 1) W A l) (i:∃ l,P7 (ao 52 3) W li l) (j:∃ l,P7 (ao 161 2) W pl l) (k:∃ l,P7 (ao 5 1) W pi l):
  ∃ (B:Bg) (τ:Aa) (z:Mu),Qu (J++τ).length (J++τ) B/\Qa W (J++τ) z/\(∀ x y,RV Z x y->RV z x y)/\RV z (.agg #[.int .u8 B.bl,.int .u8 B.mu,.slice B.ob.p B.ob.n B.ob.c,.slice B.de.p B.de.n B.de.c,.slice B.li.p B.li.n B.li.c,.slice B.pl.p B.pl.n B.pl.c,.slice B.pi.p B.pi.n B.pi.c]) (.agg #[.int .u8 b,.int .u8 m,o,A,li,pl,pi]):=by
 obtain ⟨L,s2⟩:=s2;obtain ⟨M,g⟩:=g;obtain ⟨N,i⟩:=i;obtain ⟨P,j⟩:=j;obtain ⟨Q,k⟩:=k;obtain ⟨V,E,S,Z2_,O2,S2,r,M2,_⟩:=O.add s2;obtain ⟨X,F,C,Z3_,O3,S3,s,M3,_⟩:=O2.add g;obtain ⟨Y,G,p,Z4_,O4,S4,t,q,_⟩:=O3.add i;obtain ⟨p5,H,f,Z5_,O5,S5,u,M5,_⟩:=O4.add j;obtain ⟨p6,I,d,Z6_,D,S6,T,e,_⟩:=O5.add k;have S2:=(((S2.app C).app p).app f).app d;have S3:=((S3.app p).app f).app d;have S4:=(S4.app f).app d;have S5:=S5.app d;have r:=e _ _ (M5 _ _ (q _ _ (M3 _ _ r)));have s:=e _ _ (M5 _ _ (q _ _ s));have t:=e _ _ (M5 _ _ t);have u:=e _ _ u;have U:J++S++C++p++f++d=J++(S++C++p++f++d):=by simp[Aae]
 rw[U] at D S2 S3 S4 S5 S6;refine ⟨⟨b,m,⟨V,L.length,E,Sm 4 L⟩,⟨X,M.length,F,Sm 1 M⟩,⟨Y,N.length,G,Sm 3 N⟩,⟨p5,P.length,H,Sm 2 P⟩,⟨p6,Q.length,I,Sm 1 Q⟩⟩,_,_,⟨hb,hm,S2.u8 s2 E,S3.u8 g F,S4.u8 i G,S5.u8 j H,S6.u8 k I⟩,D,fun x y h=>e _ _ (M5 _ _ (q _ _ (M3 _ _ (M2 _ _ h)))), ?_⟩;refine .agg (.cons (.int _ _) (.cons (.int _ _) (.cons r (.cons s (.cons t (.cons u (.cons T .nil))))))) ?_;intro v K;simp at K;rcases K with rfl | rfl | rfl | rfl | rfl | rfl | rfl <;> rfl
end
end
end Go.Proofs.YtjbledomkmdkmaaGreat
namespace Go.Proofs.YtjbledomkmdkmaaGreat
open Go Go.AX
noncomputable section
section
local instance qKA:AH:=Ao
variable {J:Aa}
def Sg (J:Aa) (s:Bv) (l:List Int):Prop:=Cq Ak 1 J s l.length (Bm l)\/(l=[] /\ ∃ b cs w,s=(some ⟨b,0,some 0⟩,0,0)/\J[b]?=some (.cells cs Ak w))
theorem Sg.li {s:Bv} {l:List Int} (h:Sg J s l):Bh J s l:=by
 rcases h with h | ⟨rfl,b,cs,w,h1,a⟩
 ·exact .inl h
 ·exact .inr ⟨rfl,b,cs,_,w,h1,a⟩
theorem Sg.lt {s:Bv} {l:List Int} (h:Sg J s l):∀ b ∈ hs s,b<J.length:=h.li.lt
theorem Sg.Aw {J':Aa} {s:Bv} {l:List Int} (h:Sg J s l) (c:∀ b ∈ hs s,J'[b]?=J[b]?):Sg J' s l:=by
 rcases h with (h | ⟨b,rfl,h1,a,d⟩) | ⟨rfl,b,cs,w,rfl,a⟩
 ·exact .inl (.inl h)
 ·exact .inl (.inr ⟨b,rfl,h1,a,by rw[c b (by simp[hs])]; exact d⟩)
 ·exact .inr ⟨rfl,b,cs,w,rfl,by rw[c b (by simp[hs])]; exact a⟩
theorem Sg.app {s:Bv} {l:List Int} (h:Sg J s l) (τ:Aa):Sg (J++τ) s l:=h.Aw fun b hb=>AT (h.lt b hb)
theorem Sg.form {s:Bv} {l:List Int} (h:Sg J s l):s=(s.1,l.length,l.length):=h.li.form
theorem Sg.nil (J:Aa) (w:Bool) (cs:List Value):Sg (J++[.cells cs Ak w]) (some ⟨J.length,0,some 0⟩,0,0) []:=.inr ⟨rfl,J.length,cs,w,rfl,Abv⟩
theorem Sg.part {s:Bv} {l:List Int} (h:Sg J s l) {a b:Nat} (f:a<=b) (hb:b<=l.length) (L H:Option Value) (j:L=some (qIi (a:Int))\/(L=none/\0=a)) (i:H=some (qIi (b:Int))\/(H=none/\l.length=b)):
  ∃ p c,Gh Ak 1 (s.1,l.length,l.length) L H none J=some (p,b-a,c)/\CZ J 1 p (b-a)=some (Bm ((l.drop a).take (b-a))):=by
 rcases h with h | ⟨rfl,x,cs,w,rfl,k⟩
 ·obtain ⟨p,c,d,m⟩:=W9 h a b f hb L H j i;refine ⟨p,c,d, ?_⟩;rw[m];simp[Bm,List.map_take,List.map_drop]
 ·have g:b=0:=by simpa using hb
  have e:a=0:=by omega
  subst g; subst e;have d:elemAt J x=some Ak:=by simp only[elemAt,k]
  refine ⟨some ⟨x,0,some 0⟩,0, ?_, ?_⟩
  ·rcases j with rfl | ⟨rfl,_⟩ <;> rcases i with rfl | ⟨rfl,_⟩ <;> simp[Gh,bound,d]
  ·simp[CZ,Nh,k,Bm]
theorem KR {l:List Int} {x:Nat} (h:x<l.length):l.drop x=l.getD x 0::l.drop (x+1):=by
 rw[Ac2 h,Abi,Aaj h]; rfl
theorem jn (k:Nat) {s:Bv} {l:List Int} (h:Bh J s l) (i:l.length<=1000000) (v:Int):∀ (n x f:Nat),x+n=l.length->n<f ->
  ∃ o,JY k f s.1 l.length l.length v (x:Int) J=some o/\(v ∈ l.drop x -> ∃ y:Nat,o=(.ret,[qIi (y:Int)],J))/\(v ∉ l.drop x->o=(.exit 0,[],J))
 | n,x,0,d,c=>by omega
 | 0,x,f+1,d,c=>by
   rw[QB];simp only[Aac (show ¬ (x:Int)<((l.length:Nat):Int) by omega),By];refine ⟨_,rfl,fun hm=>?_,fun _=>rfl⟩;rw[Ac5 (by omega)] at hm;cases hm
 | n+1,x,f+1,d,c=>by
   obtain ⟨b,e,m,_⟩:=h.ld (x:=x) (by omega);have p:=qSu x l.length (by omega);have r:=wSu x (by omega);obtain ⟨o,a,h1,g⟩:=jn k h i v n (x+1) f (by omega) (by omega);have hd:=KR (l:=l) (x:=x) (by omega);rw[QB];simp only[Aad (show (x:Int)<((l.length:Nat):Int) by omega),IS,p,Aah,e,AI,IT,Acu,IN,m,r];by_cases q:l.getD x 0=v
   ·rw[show (l.getD x 0 == v)=true from Ad7.2 q];simp only[IS];exact ⟨_,rfl,fun _=>⟨x,rfl⟩,fun hm=>absurd (by rw[hd,q]; exact Ac0) hm⟩
   ·rw[show (l.getD x 0 == v)=false from Acy.2 q];rw[e] at a;simp only[By,a];refine ⟨o,rfl,fun hm=>h1 ?_,fun hm=>g fun j=>hm (by rw[hd]; exact Abx _ j)⟩;rw[hd] at hm;rcases Acv.1 hm with hm | hm
    ·exact absurd hm.symm q
    ·exact hm
theorem oL (k:Nat) {s:Bv} {l:List Int} (h:Bh J s l) (g:l.length<=1000000) (f:l.length<k) (v:Int):Ix (k+2) (s.1,s.2.1,s.2.2) v J=some (.bool (decide (v ∈ l)),J):=by
 obtain ⟨o,e,h1,a⟩:=jn k h g v l.length 0 k (by omega) f;rw[show ((0:Nat):Int)=0 from rfl] at e;rw[bH,dT];have b:=h.form;have c:s.2.1=l.length:=by rw[b]
 have d:s.2.2=l.length:=by rw[b]
 simp only[c,d,e,AI];rw[Ac6] at h1 a;by_cases hm:v ∈ l
 ·obtain ⟨y,rfl⟩:=h1 hm;rw[Aad hm];simp only[reduceCtorEq,Abs,Aah,Ey,AI,Ah];rw[Aad (show (y:Int)>=0 by omega)]
 ·rw[a hm,Aac hm];simp only[Aah,AI,Ah];rfl
theorem pb {p:qOi} {c:Nat} {l:List Int} (g:l.length<=100000) (f:CZ (J++[.cells [] Ak true]) 1 p l.length=some (Bm l)):
  ∃ s τ,AG P Ak (some ⟨J.length,0,some 0⟩,0,0) (p,l.length,c) (J++[.cells [] Ak true])=some (s,J++[.cells [] Ak true]++τ)/\Sg (J++[.cells [] Ak true]++τ) s l /\ ∀ b ∈ hs s,J.length<=b:=by
 obtain ⟨s',τ,e,h1,d⟩:=Tl vE ub ta rfl rfl (by decide) (by decide) (by decide) J p l.length c g (Bm l) (by rw[Cj,Acu]) f;refine ⟨s',τ,e, ?_, ?_⟩
 ·by_cases h0:l.length=0
  ·have a:l=[]:=Ad6.1 h0;refine .inr ⟨a,J.length,[],true,d h0, ?_⟩;rw[Aae,Acr (Abp _)]; simp
  ·obtain ⟨h,i⟩:=h1 (by omega);exact .inl (.inr ⟨J.length+1,h,Ade _,by rw[Cj,Acu],i⟩)
 ·intro b hb;by_cases h0:l.length=0
  ·rw[d h0] at hb; simp[hs] at hb; omega
  ·rw[(h1 (by omega)).1] at hb; simp[hs] at hb; omega
theorem jq (k:Nat) {s:Bv} {l:List Int} (h:Bh J s l) (g:l.length<=100000):
  ∃ s' τ,Hj (k+1) (s.1,s.2.1,s.2.2) J=some (.slice s'.1 s'.2.1 s'.2.2,J++τ)/\Sg (J++τ) s' l /\ ∀ b ∈ hs s',J.length<=b:=by
 obtain ⟨s',τ,e,h1,d⟩:=pb (c:=s.2.2) g (bR [Au.cells [] Ak true] h.first);have f:=h.form;have a:s.2.1=l.length:=by rw[f]
 refine ⟨s',[.cells [] Ak true]++τ, ?_,by rw[<- Aae]; exact h1,d⟩;rw[ZK];simp only[Ae,a,e,AI,Aae]
def FL (l:List Int) (n:Int):Nat:=(l.takeWhile fun a=>decide (a<n)).length
def iI (l:List Int) (n:Int):List Int:=if l[FL l n]?=some n then l else l.take (FL l n)++[n]++l.drop (FL l n)
theorem pL (l:List Int) (n:Int):FL l n<=l.length:=(List.takeWhile_sublist _).length_le
theorem sf (a:Int) (l:List Int) (n:Int):FL (a::l) n=if a<n then FL l n+1 else 0:=by
 unfold FL;rw[List.takeWhile_cons];by_cases h:a<n <;> simp[h]
theorem fb (k:Nat) {s:Bv} {l:List Int} (h:Bh J s l) (g:l.length<=1000000) (v:Int):∀ (n x f:Nat),x+n=l.length->n<f ->
  Jl k f s.1 l.length l.length v (x:Int) J=some (.exit 0,[qIi ((x+FL (l.drop x) v:Nat):Int)],J)
 | n,x,0,d,c=>by omega
 | 0,x,f+1,d,c=>by
   rw[PD];simp only[Aac (show ¬ (x:Int)<((l.length:Nat):Int) by omega),By,AI];rw[Ac5 (by omega)]; rfl
 | n+1,x,f+1,d,c=>by
   obtain ⟨b,e,i,_⟩:=h.ld (x:=x) (by omega);have j:=qSu x l.length (by omega);have m:=wSu x (by omega);have a:=fb k h g v n (x+1) f (by omega) (by omega);rw[KR (l:=l) (x:=x) (by omega),sf];rw[PD];simp only[Aad (show (x:Int)<((l.length:Nat):Int) by omega),IS,j,Aah,e,AI,IT,Acu,IN,i,m];by_cases q:l.getD x 0<v
   ·rw[e] at a;simp only[Aad q,IS,a,Abm q];rw[show x+1+FL (l.drop (x+1)) v=x+(FL (l.drop (x+1)) v+1) from by omega]
   ·simp only[Aac q,By,Abo q,Abn]
theorem ur {ρ:Type} {a:qOi} {J J':Aa} {m:Option ρ} (h:∀ b,a=some b->b.block<J.length/\J'[b.block]?=J[b.block]?):fS a J J' m=m:=by
 cases a with
 | none=>rfl
 | some a=>
   obtain ⟨h1,c⟩:=h a rfl;have:AH.k J J' a.block=true:=by unfold AH.k qKA Ao; simpa using c
   show (bif Nat.blt a.block J.length && AH.k J J' a.block then m else none)=m;rw[this,Bool.and_true,show Nat.blt a.block J.length=true from by rw[Ahg]; exact h1,IS]
theorem tQ {b:Nat} {row a:List Value} {n n':Nat} {p:qOi} {c:Nat} (l:0<n) (d:row.length=n) (f:J[b]?=some (.cells row Ak true)) (k:n+n'<=1000000) (m:a.length=n') (j:CZ J 1 p n'=some a):
  ∃ s' J',AG P Ak (some ⟨b,0,none⟩,n,n) (p,n',c) J=some (s',J')/\Mv [b] (hs s') J J'/\Cq Ak 1 J' s' (n+n') (row++a):=by
 by_cases h0:n'=0
 ·subst h0;have i:a=[]:=Ad6.1 m;subst i;have o:(¬ (Gn (qIi 0)=false/\some 1=some (Value.cells (qIi 0)).size/\0<(Value.cells (qIi 0)).size))=False:=by simp[Gn,Value.cells]
  refine ⟨(some ⟨b,0,none⟩,n,n),J.set b (.cells row Ak true), ?_,Mv.set J _ (by simp),.inr ⟨b,by simp,Ade _,by simp[d], ?_⟩⟩
  ·unfold AG LB;simp only[vE,ub,ta,AI,j,o,Abs,Abn,Abp,Aah,HQ,Aem,By,IN,Acu,H0,f,Adn,d,Ba,Abu,qh];rw[<- d,Ae3]
  ·rw[Abu,Abq (Af f)]
 ·obtain ⟨s',J',e,g,h⟩:=VT vE ub ta rfl rfl (by decide) (by decide) (by decide) J (some ⟨b,0,none⟩,n,n) n row p n' c a k (by omega) (by omega) (.inr ⟨b,rfl,Ade _,by omega,f⟩) j;exact ⟨s',J',e,g.mv,h⟩
theorem yN (k:Nat) {s:Bv} {l:List Int} (h:Sg J s l) (hl:l.length<=100000) (hk:l.length<k) (v:Int):
  ∃ s' τ,LY (k+1) (s.1,s.2.1,s.2.2) v J=some (.slice s'.1 s'.2.1 s'.2.2,J++τ)/\Sg (J++τ) s' (iI l v) /\ ∀ b ∈ hs s',b ∈ hs s\/J.length<=b:=by
 have K:=fb k h.li (by omega) v l.length 0 k (by omega) hk;rw[show ((0:Nat):Int)=0 from rfl,Ac6,IN] at K;have S:=h.form;have L:s.2.1=l.length:=by rw[S]
 have M:s.2.2=l.length:=by rw[S]
 have hp:=pL l v;have wq:Ar ((FL l v:Nat):Int)=((FL l v:Nat):Int):=Ai (by unfold AO; omega);rw[bI];simp only[L,M,K,AI,Aah,Ey];by_cases f:l[FL l v]?=some v
 ·have g:FL l v<l.length:=(Abw.1 f).1;obtain ⟨b,w,E,_⟩:=h.li.ld g;have qx:(0<=((FL l v:Nat):Int)/\((FL l v:Nat):Int)<((l.length:Nat):Int))=True:=Adk (by omega);have B:l.getD (FL l v) 0=v:=by rw[Abi,f]; rfl
  simp only[Aad (show ((FL l v:Nat):Int)<((l.length:Nat):Int) by omega),IS,qx,Aah,w,AI,IT,Acu,IN,E,B,Adr];refine ⟨s,[], ?_, ?_,fun b hb=>.inl hb⟩
  ·rw[Abu,<- w,L,M]
  ·unfold iI;rw[Abm f,Abu]; exact h
 ·have m:(bif decide (((FL l v:Nat):Int)<((l.length:Nat):Int)) then (if 0<=((FL l v:Nat):Int)/\((FL l v:Nat):Int)<((l.length:Nat):Int) then s.1.bind fun I=>(Aj .i64 J I.block (I.off+((FL l v:Nat):Int).toNat*1)).bind fun n7=>some (n7 == v,J) else none) else some (false,J))=some (false,J):=by
   by_cases g:FL l v<l.length
   ·obtain ⟨b,w,E,_⟩:=h.li.ld g;have B:(l.getD (FL l v) 0 == v)=false:=by
     rw[Acy];intro hh;have N:l[FL l v]?=some (l.getD (FL l v) 0):=by rw[Abi,Aaj g]; rfl
     rw[hh] at N;exact f N
    rw[Aad (show ((FL l v:Nat):Int)<((l.length:Nat):Int) by omega),IS,Abm (by omega),w,AI,IT,Acu,IN,E,AI,B]
   ·rw[Aac (by omega),By]
  simp only[m,AI,By,Ae];obtain ⟨p1,V,O,Q⟩:=(h.app [.cells [] Ak true]).part (a:=0) (b:=FL l v) (Ade _) hp none (some (qIi ((FL l v:Nat):Int))) (.inr ⟨rfl,rfl⟩) (.inl rfl);rw[Ahd,Ac6] at Q;rw[Ahd] at O;have d:(l.take (FL l v)).length=FL l v:=by rw[Adc]; omega
  obtain ⟨s1,τ1,y,G,H⟩:=pb (J:=J) (c:=V) (l:=l.take (FL l v)) (by rw[d]; omega) (by rw[d]; exact Q);rw[d] at y;obtain ⟨Z1_,i⟩:∃ Z1_,J++[Au.cells [] Ak true]++τ1=Z1_:=⟨_,rfl⟩;rw[i] at y G;have aa:J.length<=Z1_.length:=by rw[<- i]; simp
  have u:∀ q,q<J.length->Z1_[q]?=J[q]?:=fun q t=>by rw[<- i,Aae,AT t]
  obtain ⟨s2,Z2_,T,U,r⟩:=G.li.push v Ak (by rw[d]; omega);have o:∀ q,q<J.length->Z2_[q]?=J[q]?:=fun q t=>by rw[r.same q (by omega) fun hm=>by have:=H q hm; omega,u q t]
  have kq:∀ {ρ:Type} (x:Option ρ),fS s.1 (Z1_++[.cells [qIi v] Ak true]) Z2_ x=x:=fun x=>ur fun b hb=>by
   have:=h.lt b.block (BQ.2 ⟨b,hb,rfl⟩);refine ⟨by rw[Abe]; omega, ?_⟩;rw[o _ this,AT (by omega),u _ this]
  have q1:∀ {ρ:Type} (x:Option ρ),FO (J++[Au.cells [] Ak true]) Z1_ x=x:=fun x=>by rw[<- i]; exact Nj _ _ x
  obtain ⟨p2,W,Y,Z⟩:=(h.Aw (J':=Z2_) fun b hb=>o b (h.lt b hb)).part (a:=FL l v) (b:=l.length) hp (Abp _) (some (qIi ((FL l v:Nat):Int))) none (.inl rfl) (.inr ⟨rfl,rfl⟩);have hn:¬ l.take (FL l v)++[v]=[]:=by simp
  obtain ⟨j,rfl,C,D⟩:∃ j,s2=(some ⟨j,0,none⟩,FL l v+1,FL l v+1)/\Z2_[j]?=some (.cells (Bm (l.take (FL l v)++[v])) Ak true)/\J.length<=j:=by
   have A:(l.take (FL l v)++[v]).length=FL l v+1:=by rw[Abe,d]; rfl
   rcases U with (⟨h0,_⟩ | ⟨j,e,_,_,X⟩) | ⟨h0,_⟩
   ·omega
   ·refine ⟨j,by rw[e,A],X, ?_⟩;rcases r.new j (by rw[e]; simp[hs]) with hm | hm
    ·exact H _ hm
    ·omega
   ·exact absurd h0 hn
  obtain ⟨s3,J3_,d1,d2,d3⟩:=tQ (n:=FL l v+1) (n':=l.length-FL l v) (p:=p2) (c:=W) (by omega) (by rw[Cj,Abe,d]; rfl) C (by omega) (by rw[Cj,Adc,Adf]; omega) Z;have l3:J.length<=J3_.length:=by have:=r.len; have:=d2.len; omega
  have F:∀ q,q<J.length->J3_[q]?=J[q]?:=fun q t=>by
   have:=r.len;rw[d2.same q (by omega) (by simp; omega),o q t]
  obtain ⟨τ,rfl⟩:=GA l3 F;refine ⟨s3,τ, ?_, ?_,fun b hb=>.inr ?_⟩
  ·have z:AG P Ak (s1.1,s1.2.1,s1.2.2) (some ⟨Z1_.length,0,none⟩,1,1) (Z1_++[.cells [qIi v] Ak true])=some ((some ⟨j,0,none⟩,FL l v+1,FL l v+1),Z2_):=T;simp only[O,AI,y,q1,Ae,z,kq,Y,d1]
  ·left;unfold iI;rw[Abo f];rw[show FL l v+1+(l.length-FL l v)=(l.take (FL l v)++[v]++l.drop (FL l v)).length from by simp; omega,show (l.drop (FL l v)).take (l.length-FL l v)=l.drop (FL l v) from Ado (by rw[Adf]; exact Abp _),<- KM] at d3;exact d3
  ·rcases d2.new b hb with hm | hm
   ·rw[Ac1.1 hm]; exact D
   ·have:=r.len; omega
end
section
local instance qKB:AH:=Ao
variable {J:Aa} {m:HM} {t:RM} {j:RI}
def Ue (m:HM) (l:List Int) (a:Int):List Int:=if Ax m a then iI l a else l
def fT (m:HM) (a:Int):List Int->Nat->List Int->List Int
 | [],_,out=>out
 | r::rs,x,out=>fT m a rs (x+1) (if Ee a (x:Int) then out else Ue m out r)
def Ol (m:HM) (out:List Int) (a:Int):List Int:=
 let o:=AQ m (a.toNat/2)
 let b:=fT m o.k o.refs 0 out
 if o.k=2/\o.refs.getD 0 0 ∈ b then Ue m b (o.refs.getD 1 0) else b
def K9 (m:HM) (out:List Int):List Int:=out.foldl (Ol m) out
def Lh (m:HM):Nat->List Int->List Int
 | 0,out=>out
 | n+1,out=>if (K9 m out).length=out.length then K9 m out else Lh m n (K9 m out)
def NS (m:HM) (start:List Int):List Int:=Lh m 2050 (start.foldl (Ue m) [])
structure Dx (m:HM) (l:List Int):Prop where
 so:l.Pairwise (·<·)
 ob:∀ a ∈ l,Ax m a=true
theorem Dx.nil (m:HM):Dx m []:=⟨List.Pairwise.nil,fun a h=>by cases h⟩
theorem oe (l:List Int) (v:Int):l.take (FL l v)=l.takeWhile (fun a=>decide (a<v))/\l.drop (FL l v)=l.dropWhile (fun a=>decide (a<v)):=by
 have h:=List.takeWhile_append_dropWhile (p:=fun a=>decide (a<v)) (l:=l);have h1:=List.take_left (l₁:=l.takeWhile fun a=>decide (a<v)) (l₂:=l.dropWhile fun a=>decide (a<v));have b:=List.drop_left (l₁:=l.takeWhile fun a=>decide (a<v)) (l₂:=l.dropWhile fun a=>decide (a<v));rw[h] at h1 b;exact ⟨h1,b⟩
theorem kF {l:List Int} {v a:Int}:a ∈ iI l v↔a=v\/a ∈ l:=by
 unfold iI;split
 ·rename_i h;have:=Afn h;exact ⟨.inr,fun h=>h.elim (fun e=>by rw[e]; exact this) id⟩
 ·rw[Aae,Aag,Aag,Ac1];have:a ∈ l↔a ∈ l.take (FL l v)\/a ∈ l.drop (FL l v):=by rw[<- Aag,Ae3]
  rw[this];constructor
  ·rintro (h | h | h)
   ·exact .inr (.inl h)
   ·exact .inl h
   ·exact .inr (.inr h)
  ·rintro (h | h | h)
   ·exact .inr (.inl h)
   ·exact .inl h
   ·exact .inr (.inr h)
theorem RB:∀ {l:List Int} {v:Int},l.Pairwise (·<·) -> ∀ a ∈ l.dropWhile (fun a=>decide (a<v)),v<=a
 | [],v,_,a,c=>by cases c
 | b::l,v,h,a,c=>by
   obtain ⟨h1,d⟩:=Ad9.1 h;rw[List.dropWhile_cons] at c;by_cases hb:b<v
   ·rw[Abm (by simpa using hb)] at c;exact RB d a c
   ·rw[Abo (by simpa using hb)] at c;rcases Acv.1 c with rfl | c
    ·omega
    ·have:=h1 a c; omega
theorem X8 {v:Int}:∀ {l:List Int},∀ a ∈ l.takeWhile (fun a=>decide (a<v)),a<v
 | [],a,c=>by cases c
 | b::l,a,c=>by
   rw[List.takeWhile_cons] at c;by_cases hb:b<v
   ·rw[Abm (by simpa using hb)] at c;rcases Acv.1 c with rfl | c
    ·exact hb
    ·exact X8 a c
   ·rw[Abo (by simpa using hb)] at c;cases c
theorem xv {l:List Int} {v:Int} (h:l.Pairwise (·<·)):(iI l v).Pairwise (·<·):=by
 unfold iI;split
 ·exact h
 ·rename_i o;obtain ⟨k,j⟩:=oe l v;have hd:∀ a ∈ l.drop (FL l v),v<a:=by
   intro a c;have h1:v<=a:=RB h a (by rw[<- j]; exact c);by_cases f:a=v
   ·exfalso;obtain ⟨x,e⟩:=List.mem_iff_getElem?.1 c;cases d:l[FL l v]? with
    | none=>
      rw[List.getElem?_eq_none_iff] at d;rw[Ac5 d] at c; cases c
    | some b=>
      have hb:v<=b:=RB h b (by rw[<- j]; exact Afn (i:=0) (by rw[Adq,Abn]; exact d));rw[Adq] at e;by_cases g:x=0
      ·subst g;rw[Abn,f] at e;exact o e
      ·have p:=(Abw.1 d);have q:=(Abw.1 e);obtain ⟨m,r⟩:=p;obtain ⟨n,s⟩:=q;have:=Af1.1 h (FL l v) (FL l v+x) m n (by omega);omega
   ·omega
  rw[Aae,Ag6];refine ⟨h.sublist (List.take_sublist _ _), ?_, ?_⟩
  ·rw[Agx,Ad9];exact ⟨hd,h.sublist (List.drop_sublist _ _)⟩
  ·intro a c b hb;have h1:a<v:=X8 a (by rw[<- k]; exact c);rcases Aag.1 hb with hb | hb
   ·rw[Ac1.1 hb]; exact h1
   ·have:=hd b hb; omega
theorem Dx.inc {l:List Int} (h:Dx m l) (a:Int):Dx m (Ue m l a):=by
 unfold Ue;split
 ·rename_i c;exact ⟨xv h.so,fun b hb=>(kF.1 hb).elim (fun e=>by rw[e]; exact c) (h.ob b)⟩
 ·exact h
theorem QQ {l:List Int} {a b:Int}:b ∈ Ue m l a↔b ∈ l\/(b=a/\Ax m a=true):=by
 unfold Ue;split
 ·rename_i h;rw[kF];exact ⟨fun hb=>hb.elim (fun e=>.inr ⟨e,h⟩) .inl,fun hb=>hb.elim .inr fun e=>.inl e.1⟩
 ·rename_i h;exact ⟨.inl,fun hb=>hb.elim id fun e=>absurd e.2 h⟩
theorem Dx.l3 (a:Int):∀ (rs:List Int) (x:Nat) (out:List Int),Dx m out->Dx m (fT m a rs x out)
 | [],_,_,h=>h
 | r::rs,x,out,h=>by
   unfold fT;refine Dx.l3 a rs _ _ ?_;split
   ·exact h
   ·exact h.inc r
theorem Dx.Ol {out:List Int} (h:Dx m out) (a:Int):Dx m (Ol m out a):=by
 unfold Go.Proofs.YtjbledomkmdkmaaGreat.Ol;simp only;split
 ·exact (Dx.l3 _ _ _ _ h).inc _
 ·exact Dx.l3 _ _ _ _ h
theorem Dx.fold {f:List Int->Int->List Int} (b:∀ out a,Dx m out->Dx m (f out a)):∀ (l:List Int) (out:List Int),Dx m out->Dx m (l.foldl f out)
 | [],_,h=>h
 | a::l,out,h=>Dx.fold b l _ (b out a h)
theorem Dx.round {out:List Int} (h:Dx m out):Dx m (K9 m out):=Dx.fold (fun o a h=>h.Ol a) out out h
theorem Qp:∀ {l k:List Int},l.Nodup->(∀ a ∈ l,a ∈ k)->l.length<=k.length
 | [],k,_,_=>Ade _
 | a::l,k,h,hs=>by
   obtain ⟨h1,d⟩:=Ae8.1 h;have c:a ∈ k:=hs a Ac0;have:=Qp (l:=l) (k:=k.erase a) d fun b hb=>(List.mem_erase_of_ne (by rintro rfl; exact h1 hb)).2 (hs b (Abx _ hb));rw[List.length_erase_of_mem c] at this;have e:0<k.length:=List.length_pos_of_mem c;simp only[Ada]; omega
theorem Ud {a:Int}:Ax m a=true↔a ∈ Ei m:=by
 unfold Ei C7;rw[Ad0];constructor
 ·intro h;obtain ⟨j,e,b⟩:=AV h;exact ⟨j,DO.2 b,e.symm⟩
 ·rintro ⟨j,b,rfl⟩;exact RJ (DO.1 b)
theorem Dx.len {l:List Int} (h:Dx m l) (d:m.bls.length<=64):l.length<=2048:=
 Adj (Qp (h.so.imp fun c=>by omega) fun a b=>Ud.1 (h.ob a b)) (Qx d)
theorem pz (l:List Int) (a:Int):l.length<=(Ue m l a).length:=by
 unfold Ue iI;split
 ·split
  ·exact Abp _
  ·have:=pL l a;simp; omega
 ·exact Abp _
theorem nK (a:Int):∀ (rs:List Int) (x:Nat) (out:List Int),out.length<=(fT m a rs x out).length
 | [],_,_=>Abp _
 | r::rs,x,out=>by
   unfold fT;refine Adj ?_ (nK a rs _ _);split
   ·exact Abp _
   ·exact pz _ _
theorem uF (out:List Int) (a:Int):out.length<=(Ol m out a).length:=by
 unfold Ol;simp only;split
 ·exact Adj (nK _ _ _ _) (pz _ _)
 ·exact nK _ _ _ _
theorem kj {f:List Int->Int->List Int} (b:∀ out a,out.length<=(f out a).length):∀ (l out:List Int),out.length<=(l.foldl f out).length
 | [],_=>Abp _
 | a::l,out=>Adj (b out a) (kj b l _)
theorem gE (out:List Int):out.length<=(K9 m out).length:=kj uF out out
theorem yq (f:Inv m) {y:Nat} (hs:Start m y) (b:CA m y=2):2<=Av m y:=by
 obtain ⟨r,d,k,a,he⟩:=f.good y hs;obtain ⟨g,i,h,_⟩:=Ke a;have c:Av m y=r:=by unfold Av; rw[he,g]
 have e:CA m y=k:=by unfold CA; rw[he,h]
 rw[e] at b;unfold valid at a;rw[Adu] at a;rw[c]; exact a.2.2.2.2.2.2.2 b
def nR (m:HM):HM:={ m with fw:=[] }
theorem RG.read (h:JH J j ⟨m.bls,Gp m,[],m.births⟩) (a:MK m):RG J j (nR m) ⟨m.bls,Gp m,[],m.births⟩:=
 ⟨h,⟨rfl,rfl,rfl,fun _=>rfl,rfl,trivial,trivial⟩,⟨a.inv.good,a.inv.fit,a.inv.apart,a.inv.idn,a.inv.plc,a.inv.brt,a.inv.onc⟩,⟨a.inv2.kind,a.inv2.zero⟩,a.sh.wl,a.nb,a.nt⟩
theorem VN (k:Nat) (g:5000<=k) (h:RG J j m t) {s:Bv} {l:List Int} (c:Sg J s l) (n:l.length<=4000) (a:Int):
  ∃ s' τ,Dy (k+4) (Bk j) (s.1,s.2.1,s.2.2) a J=some (.slice s'.1 s'.2.1 s'.2.2,J++τ)/\Sg (J++τ) s' (Ue m l a) /\ ∀ b ∈ hs s',b ∈ hs s\/J.length<=b:=by
 rw[We];simp only[ai k g h a,AI,An];unfold Ue;cases i:Ax m a with
 | true=>
   obtain ⟨s',τ,e,h1,f⟩:=yN (k+2) c (by omega) (by omega) a;have d:LY (k+3) (s.1,s.2.1,s.2.2) a J=_:=e;simp only[Abr,By,d,AI,Ej,Aah];exact ⟨s',τ,rfl,h1,f⟩
 | false=>
   simp only[Ac7,IS,Abz,Abs];exact ⟨s,[],by rw[Abu],by rw[Abu]; exact c,fun b hb=>.inl hb⟩
theorem aX (k:Nat) (r d a:Int) {x:Nat} (J:Aa):GN (k+1) r d a (x:Int) J=some (.bool (!Ee a (x:Int)),J++[.cells [qIi r,qIi d,qIi a] Ad true]):=by
 rw[WW];have f:Aj .i64 (J++[Au.cells [qIi r,qIi d,qIi a] Ad true]) J.length 2=some a:=by rw[Bt]; rfl
 simp only[Ae,IN,f,AI];generalize J++[Au.cells [qIi r,qIi d,qIi a] Ad true]=Z at f ⊢;generalize J.length=n at f ⊢;unfold Ee;by_cases i:x=0
 ·subst i;by_cases h1:a=1
  ·subst h1; simp
  ·by_cases b:a=2
   ·subst b; simp
   ·have c:(a != 1)=true:=Adp.2 h1;have e:(a != 2)=true:=Adp.2 b;simp[c,e,h1,b]
 ·have g:decide ((x:Int)>0)=true:=Aad (by omega);by_cases h1:a=1
  ·subst h1;have c:((1:Int) != 1)=false:=rfl;simp only[c,By,AI,g,IS,f,Adr];simp[i]
  ·have c:(a != 1)=true:=Adp.2 h1;have l:(a == 1)=false:=Acy.2 h1;by_cases b:a=2
   ·subst b;have e:((2:Int) != 2)=false:=rfl;simp only[c,e,l,By,AI,g,IS,f];by_cases h:x=1
    ·subst h; simp
    ·have j:decide ((x:Int)>1)=true:=Aad (by omega);rw[j];simp[i,h]; omega
   ·have e:(a != 2)=true:=Adp.2 b;simp[c,e,h1,b]
theorem uv (k:Nat) (w:5000<=k) (y:m.bls.length<=64) {o:RO} {p:Bv × Bv} {g:Nat}:∀ (n x f:Nat) (J:Aa) (s:Bv) (out:List Int),RG J j m t->GY J g o p->Dw J p.1 o.refs->o.refs.length<=500->Sg J s out->Dx m out->x+n=o.refs.length->n<f ->
  ∃ s' τ,G2 (k+4) f (Bk j) g (s.1,s.2.1,s.2.2) (x:Int) J=some (.exit 6,[.slice s'.1 s'.2.1 s'.2.2],J++τ)/\Sg (J++τ) s' (fT m o.k (o.refs.drop x) x out)
 | n,x,0,J,s,out,h,l,i,r,d,q,C,B=>by omega
 | 0,x,f+1,J,s,out,h,l,i,r,d,q,C,B=>by
   obtain ⟨P,Q,E,F,G,z,S,T⟩:=l.ld;rw[Ob];simp only[IN,z,AI,i.1,Aac (show ¬ (x:Int)<((o.refs.length:Nat):Int) by omega),By];refine ⟨s,[],by rw[Abu], ?_⟩;rw[Ac5 (by omega),Abu];exact d
 | n+1,x,f+1,J,s,out,h,l,i,r,d,q,C,B=>by
   obtain ⟨P,Q,E,F,G,z,S,T⟩:=l.ld;have N:=qSu x o.refs.length (by omega);have D:=wSu x (by omega);obtain ⟨a,v⟩:∃ a,Au.cells [qIi o.r,qIi o.d,qIi o.k] Ad true=a:=⟨_,rfl⟩;have es:GN (k+4) o.r o.d o.k (x:Int) J=some (.bool (!Ee o.k (x:Int)),J++[a]):=by rw[<- v]; exact aX (k+3) o.r o.d o.k J
   have c:GY (J++[a]) g o p:=by unfold GY at l ⊢; rw[AT (Af l)]; exact l
   obtain ⟨_,_,_,_,_,O,_,_⟩:=c.ld;have hd:o.refs.drop x=o.refs.getD x 0::o.refs.drop (x+1):=KR (by omega);rw[hd,fT];rw[Ob];simp only[IN,Nat.reduceAdd,z,AI,i.1,Aad (show (x:Int)<((o.refs.length:Nat):Int) by omega),IS,E,F,G,es,An];cases L:Ee o.k (x:Int) with
   | true=>
     obtain ⟨s',τ,e,h1⟩:=uv k w y n (x+1) f (J++[a]) s out (h.app _) c (i.app _) r (d.app _) q (by omega) (by omega);simp only[Abr,By,AI,Aah,Rh,D,e];exact ⟨s',[a]++τ,by simp only[Aae],by rw[<- Aae]; exact h1⟩
   | false=>
     obtain ⟨b,H,M,_⟩:=(i.app [a]).pE (x:=x) (by omega);obtain ⟨s1,A,I,K,_⟩:=VN k w (h.app [a]) (d.app [a]) (by have:=q.len y; omega) (o.refs.getD x 0);have u:GY (J++[a]++A) g o p:=by unfold GY at c ⊢; rw[AT (Af c)]; exact c
     obtain ⟨s',τ,e,h1⟩:=uv k w y n (x+1) f (J++[a]++A) s1 _ ((h.app _).app _) u ((i.app _).app _) r K (q.inc _) (by omega) (by omega);simp only[Ac7,IS,O,AI,i.1,N,Aah,H,IT,Acu,IN,M,I,Ej,Rh,D,e];exact ⟨s',[a]++(A++τ),by simp only[Aae],by rw[<- Aae,<- Aae]; exact h1⟩
theorem YT (k:Nat) (o:5000<=k) (p:m.bls.length<=64) {st:Bv} {l:List Int} (w:l.length<=1000000):∀ (n x f:Nat) (J:Aa) (s:Bv) (out:List Int),RG J j m t->Bh J st l->Sg J s out->Dx m out->x+n=l.length->n<f ->
  ∃ s' τ,G1 (k+4) f (Bk j) st.1 l.length l.length (s.1,s.2.1,s.2.2) (x:Int) J=some (.exit 0,[.slice s'.1 s'.2.1 s'.2.2],J++τ)/\Sg (J++τ) s' ((l.drop x).foldl (Ue m) out)
 | n,x,0,J,s,out,h,c,a,d,q,i=>by omega
 | 0,x,f+1,J,s,out,h,c,a,d,q,i=>by
   rw[NZ];simp only[Aac (show ¬ (x:Int)<((l.length:Nat):Int) by omega),By];refine ⟨s,[],by rw[Abu], ?_⟩;rw[Ac5 (by omega),Abu];exact a
 | n+1,x,f+1,J,s,out,h,c,a,d,q,i=>by
   have z:=qSu x l.length (by omega);have A:=wSu x (by omega);obtain ⟨b,g,y,_⟩:=c.ld (x:=x) (by omega);obtain ⟨s1,r,u,v,_⟩:=VN k o h a (by have:=d.len p; omega) (l.getD x 0);obtain ⟨s',τ,e,h1⟩:=YT k o p w n (x+1) f (J++r) s1 _ (h.app _) (c.app _) v (d.inc _) (by omega) (by omega);rw[g] at e;rw[KR (l:=l) (x:=x) (by omega),Ad4];rw[NZ];simp only[Aad (show (x:Int)<((l.length:Nat):Int) by omega),IS,z,Aah,g,AI,IT,Acu,IN,y,u,Ej,A,e];exact ⟨s',r++τ,by simp only[Aae],by rw[<- Aae]; exact h1⟩
theorem YV (k:Nat) (hk:5000<=k) (X:m.bls.length<=64) {st:Bv} {l:List Int} (hl:l.length<=1000000) (H:∀ a ∈ l,Ax m a=true):∀ (n x f:Nat) (J:Aa) (s:Bv) (out:List Int),RG J j m t->Bh J st l->Sg J s out->Dx m out->x+n=l.length->n<f ->
  ∃ s' τ,Fs (k+5) f (Bk j) true st.1 l.length l.length (s.1,s.2.1,s.2.2) (x:Int) J=some (.exit 4,[.slice s'.1 s'.2.1 s'.2.2],J++τ)/\Sg (J++τ) s' ((l.drop x).foldl (Ol m) out)
 | n,x,0,J,s,out,h,O,u,G,hx,hf=>by omega
 | 0,x,f+1,J,s,out,h,O,u,G,hx,hf=>by
   rw[Oa];simp only[Aac (show ¬ (x:Int)<((l.length:Nat):Int) by omega),By];refine ⟨s,[],by rw[Abu], ?_⟩;rw[Ac5 (by omega),Abu];exact u
 | n+1,x,f+1,J,s,out,h,O,u,G,hx,hf=>by
   have qx:=qSu x l.length (by omega);have w1:=wSu x (by omega);obtain ⟨b,e1,l1,_⟩:=O.ld (x:=x) (by omega);have E:l.getD x 0 ∈ l:=by rw[Abi,Aaj (by omega)]; exact Ac4 _
   generalize hv:l.getD x 0=v at *;obtain ⟨y,c,bo,p,F⟩:=h.found (H v E);have ei:Ay (k+5) (Bk j) v J=some (qIi (y:Int),J):=by rw[<- F.idx]; exact L9 (k+3) (by omega) h v
   have qy:(0<=(y:Int)/\(y:Int)<((t.ob.length:Nat):Int))=True:=Adk (by have:=F.xl; omega);have ej:v.toNat/2=c:=by rw[F.e]; omega
   obtain ⟨_,w2,w3,_⟩:=MX h.inv F.st;have ad:(AQ m c).refs.length=(Av m c).toNat:=by show (KD m _ _).length=_; rw[DC]
   obtain ⟨A,hA⟩:∃ A,Au.cells (Bu (AQ m c) p) Ab true=A:=⟨_,rfl⟩;have sa:H0 (J++[Au.cells [qIi 0,qIi 0,qIi 0,qIi 0,qIi 0,.slice none 0 0,.slice none 0 0,.bool false] Ab true]) J.length 0 [qIi (AQ m c).addr,qIi (AQ m c).id,qIi (AQ m c).r,qIi (AQ m c).d,qIi (AQ m c).k,.slice p.1.1 p.1.2.1 p.1.2.2,.slice p.2.1 p.2.2.1 p.2.2.2,.bool (AQ m c).Ww]=some (J++[A]):=by
    rw[<- hA]; exact X5 _ _ _ _ _ _ _ _ _ _ _ _ _ _ _ _ _ _
   have N:GY (J++[A]) J.length (AQ m c) p:=by unfold GY; rw[Abv,hA]
   obtain ⟨s1,d,S,D⟩:=uv (k+1) (by omega) X (AQ m c).refs.length 0 (k+5) (J++[A]) s out (h.app _) N (F.rs.app _) (by omega) (u.app _) G (by omega) (by omega);have S:G2 (k+5) (k+5) (Bk j) J.length (s.1,s.2.1,s.2.2) 0 (J++[A])=_:=S;rw[Ac6] at D;have Y:Dx m (fT m (AQ m c).k (AQ m c).refs 0 out):=Dx.l3 _ _ _ _ G;have Q:GY (J++[A]++d) J.length (AQ m c) p:=by unfold GY at N ⊢; rw[AT (Af N)]; exact N
   obtain ⟨z0,z1,z2,z3,z4,z5,z6,z7⟩:=Q.ld;have h1:=(h.app [A]).app d;have V:=(O.app [A]).app d;have q:=(F.rs.app [A]).app d;have ac:=Y.len X;obtain ⟨s2,w,e4,U,Z⟩:∃ (s2:Bv) (w:Aa),((bif ((AQ m c).k == 2) then (Bd (J++[A]++d) J.length 5).bind fun I=>if 0<=(0:Int)/\(0:Int)<(I.2.1:Nat) then I.1.bind fun B=>(Aj .i64 (J++[A]++d) B.block (B.off+(0:Int).toNat*1)).bind fun aa=>(Ix (k+5) (s1.1,s1.2.1,s1.2.2) aa (J++[A]++d)).bind fun L=>(Dk L.1).bind fun P=>some (P,L.2) else none else some (false,J++[A]++d)).bind fun o=>(bif o.1 then ((Bd o.2 J.length 5).bind fun K=>if 0<=(1:Int)/\(1:Int)<(K.2.1:Nat) then K.1.bind fun C=>(Aj .i64 o.2 C.block (C.off+(1:Int).toNat*1)).bind fun ab=>(Dy (k+5) (Bk j) (s1.1,s1.2.1,s1.2.2) ab o.2).bind fun M=>(Ej M.1).bind fun z=>some (C6.normal,[Value.slice z.1 z.2.1 z.2.2],M.2) else none) else (some (C6.normal,[Value.slice s1.1 s1.2.1 s1.2.2],o.2)):Option Bq))=some (C6.normal,[Value.slice s2.1 s2.2.1 s2.2.2],J++[A]++d++w)/\Sg (J++[A]++d++w) s2 (Ol m out v)/\Dx m (Ol m out v):=by
    have i:=G.Ol v;unfold Ol at i ⊢;simp only[ej] at i ⊢;by_cases g:(AQ m c).k=2
    ·have ae:2<=Av m c:=yq h.inv F.st g;obtain ⟨b0,f0,f1,_⟩:=q.pE (x:=0) (by omega);obtain ⟨b1,f2,f3,_⟩:=q.pE (x:=1) (by omega);rw[f0] at f2;cases f2;have eh:=oL (k+3) D.li (by omega) (by omega) ((AQ m c).refs.getD 0 0);have q0:(0<=(0:Int)/\(0:Int)<(((AQ m c).refs.length:Nat):Int))=True:=Adk (by omega);have q1:(0<=(1:Int)/\(1:Int)<(((AQ m c).refs.length:Nat):Int))=True:=Adk (by omega);have t0:(0:Int).toNat*1=0:=rfl;have t1:(1:Int).toNat*1=1:=rfl;simp only[show ((AQ m c).k == 2)=true from Ad7.2 g,IS,z5,AI,q.1,q0,Aah,f0,t0,Abn,f1,eh,An];by_cases r:(AQ m c).refs.getD 0 0 ∈ fT m (AQ m c).k (AQ m c).refs 0 out
     ·obtain ⟨s2,w,T,U,_⟩:=VN (k+1) (by omega) h1 D (by omega) ((AQ m c).refs.getD 1 0);have T:Dy (k+5) (Bk j) (s1.1,s1.2.1,s1.2.2) ((AQ m c).refs.getD 1 0) (J++[A]++d)=_:=T;refine ⟨s2,w, ?_, ?_,i⟩
      ·simp only[Aad r,IS,z5,AI,q.1,q1,Aah,f0,t1,IN,f3,T,Ej]
      ·rw[Abm ⟨g,r⟩]; exact U
     ·refine ⟨s1,[], ?_, ?_,i⟩
      ·simp only[Aac r,By,Abu]
      ·rw[Abo fun W=>r W.2,Abu]; exact D
    ·refine ⟨s1,[], ?_, ?_,i⟩
     ·simp only[show ((AQ m c).k == 2)=false from Acy.2 g,By,AI,Abu]
     ·rw[Abo fun W=>g W.1,Abu]; exact D
   obtain ⟨s',τ,e,h2⟩:=YV k hk X hl H n (x+1) f (J++[A]++d++w) s2 _ (h1.app _) (V.app _) U Z (by omega) (by omega);rw[e1] at e;rw[KR (l:=l) (x:=x) (by omega),Ad4,hv];rw[Oa];simp only[Aad (show (x:Int)<((l.length:Nat):Int) by omega),IS,IN,Nat.reduceAdd,h.at_.EX,AI,qx,Aah,e1,IT,Acu,l1,ei,Ah,qy,F.os,Adt,F.ld.l0,F.ld.l1,F.ld.l2,F.ld.l3,F.ld.l4,F.ld.l5,F.ld.l6,F.ld.l7,Ae,sa,S,Rh,z4];refine ⟨s',[A]++(d++(w++τ)), ?_,by simpa [Aae] using h2⟩;have e':Fs (k+5) f (Bk j) true (some ⟨b,0,none⟩) l.length l.length (s2.1,s2.2.1,s2.2.2) ((x+1:Nat):Int) (J++[A]++d++w)=some (.exit 4,[.slice s'.1 s'.2.1 s'.2.2],J++([A]++(d++(w++τ)))):=by rw[e]; simp[Aae]
   simp only[Acu] at e4;rw[<- Agr,e4];simp only[AI,Aah,Rh,w1,e']
theorem YU (k:Nat) (C:5000<=k) (x:m.bls.length<=64):∀ (n f:Nat) (J:Aa) (s:Bv) (out:List Int) (b:Int),RG J j m t->Sg J s out->Dx m out->(b=(out.length:Int)\/(b≠(out.length:Int)/\2050<=n+out.length))->n<f ->
  ∃ s' τ,Hz (k+6) f (Bk j) true (s.1,s.2.1,s.2.2) b J=some (.exit 2,[.slice s'.1 s'.2.1 s'.2.2],J++τ)/\Sg (J++τ) s' (if b=(out.length:Int) then out else Lh m n out)
 | n,0,J,s,out,b,h,a,g,A,B=>by omega
 | n,f+1,J,s,out,b,h,a,g,A,B=>by
   have F:=g.len x;have v:=a.form;have f1:s.2.1=out.length:=by rw[v]
   rw[Vh];by_cases i:b=(out.length:Int)
   ·rw[Abm i];simp only[f1,show (b != ((out.length:Nat):Int))=false from by rw[i]; simp,By];exact ⟨s,[],by rw[Abu,<- f1],by rw[Abu]; exact a⟩
   ·rw[Abo i];have E:=(A.resolve_left i).2;cases n with
    | zero=>omega
    | succ n=>
      have w:n<f:=by omega
      obtain ⟨s1,o,p,z,_⟩:=jq (k+5) a.li (by omega);have p:Hj (k+6) (s.1,s.2.1,s.2.2) J=_:=p;have d:=z.form;have f2:s1.2.1=out.length:=by rw[d]
      have f3:s1.2.2=out.length:=by rw[d]
      obtain ⟨s2,y,q,r⟩:=YV (k+1) (by omega) x (st:=s1) (l:=out) (by omega) g.ob out.length 0 (k+6) (J++o) s out (h.app _) z.li (a.app _) g (by omega) (by omega);have q:Fs (k+6) (k+6) (Bk j) true s1.1 out.length out.length (s.1,s.2.1,s.2.2) 0 (J++o)=_:=q;rw[Ac6] at r;have r:Sg (J++o++y) s2 (K9 m out):=r;have D:=gE (m:=m) out;obtain ⟨s',τ,e,u⟩:=YU k C x n f (J++o++y) s2 (K9 m out) ((out.length:Nat):Int) ((h.app _).app _) r g.round (by
       by_cases c:((out.length:Nat):Int)=(((K9 m out).length:Nat):Int)
       ·exact .inl c
       ·exact .inr ⟨c,by omega⟩) w;rw[f1] at p q;simp only[f1,show (b != ((out.length:Nat):Int))=true from by rw[Adp]; exact i,IS,p,AI,Ej,f2,f3,q,Aah,Rh,e];refine ⟨s',o++(y++τ),by simp only[Aae], ?_⟩;rw[<- Aae,<- Aae,Lh];by_cases c:(K9 m out).length=out.length
      ·rw[Abm (by rw[c])] at u;rw[Abm c]; exact u
      ·rw[Abo (by omega)] at u;rw[Abo c]; exact u
theorem jB (k:Nat) (r:5000<=k) (h:RG J j m t) {st:Bv} {l:List Int} (g:Bh J st l) (v:l.length<=4000):
  ∃ s' τ,GG (k+7) (Bk j) (st.1,st.2.1,st.2.2) true J=some (.slice s'.1 s'.2.1 s'.2.2,J++τ)/\Sg (J++τ) s' (NS m l):=by
 have n:=h.nt;have i:=g.form;have f1:st.2.1=l.length:=by rw[i]
 have f2:st.2.2=l.length:=by rw[i]
 obtain ⟨B0,b⟩:∃ B0,Au.cells [] Ak true=B0:=⟨_,rfl⟩;have h1:=h.app [B0];have s:Sg (J++[B0]) (some ⟨J.length,0,some 0⟩,0,0) []:=by rw[<- b]; exact Sg.nil J true []
 obtain ⟨s1,p,c,e⟩:=YT (k+2) (by omega) n (st:=st) (l:=l) (by omega) l.length 0 (k+6) (J++[B0]) (some ⟨J.length,0,some 0⟩,0,0) [] h1 (g.app _) s (Dx.nil m) (by omega) (by omega);have c:G1 (k+6) (k+6) (Bk j) st.1 l.length l.length (some ⟨J.length,0,some 0⟩,0,0) 0 (J++[B0])=_:=c;rw[Ac6] at e;have d:Dx m (l.foldl (Ue m) []):=Dx.fold (fun o a h=>h.inc a) l [] (Dx.nil m);obtain ⟨s2,u,q,f⟩:=YU k r n 2050 (k+6) (J++[B0]++p) s1 _ (-1) (h1.app _) e d (.inr ⟨by omega,by omega⟩) (by omega);rw[Abo (by omega)] at f;rw[Yd];simp only[Ae,b,f1,f2,c,AI,Aah,Rh,q];exact ⟨s2,[B0]++(p++u),by simp only[Aae],by rw[<- Aae,<- Aae]; exact f⟩
end
section
local instance qKC:AH:=Ao
variable {J:Aa} {p:PI} {r:D3}
def Un:List (Int × Nat × Nat)->List Value
 | []=>[]
 | x::l=>qIi x.1 :: qIi (x.2.1:Int) :: qIi (x.2.2:Int)::Un l
def Ec (kk:Int) (x:Nat):Int × Nat × Nat:=(kk,if kk=0 then x/16 else 0,if kk=0 then x % 16 else x)
def Qq (kk:Int):List Int->Nat->List (Int × Nat × Nat)
 | [],_=>[]
 | v::l,x=>(if v=0 then [] else [Ec kk x])++Qq kk l (x+1)
def EJ (r:D3):List (Int × Nat × Nat):=Qq 0 r.sl 0++Qq 1 r.gl 0++Qq 2 r.qu 0
theorem gu:∀ l a,Un (l++a)=Un l++Un a
 | [],_=>rfl
 | x::l,a=>by simp only[Un,Agm,gu l a]
theorem QV (kk:Int):∀ (l:List Int) (x:Nat),(Qq kk l x).length<=l.length
 | [],_=>Abp _
 | v::l,x=>by
   have:=QV kk l (x+1);simp only[Qq,Abe,Ada];split <;> simp <;> omega
theorem PQ (h:r.ok):(EJ r).length<=144:=by
 have h1:=QV 0 r.sl 0;have a:=QV 1 r.gl 0;have b:=QV 2 r.qu 0;have c:=h.sl; have h5:=h.gl; have d:=h.qu; have e:=h.m4;unfold EJ;rw[Abe,Abe];omega
abbrev BN (J:Aa) (s:Bv) (l:List (Int × Nat × Nat)):Prop:=Cq Am 3 J s l.length (Un l)
theorem szP:HR P Am=some 3:=by kernel_rfl
theorem byP:bytesOf P Am=some 24:=by kernel_rfl
theorem zzP:FR P Am=some (.agg #[qIi 0,qIi 0,qIi 0]):=by kernel_rfl
theorem BN.lt {s:Bv} {l:List (Int × Nat × Nat)} (h:BN J s l):∀ b ∈ hs s,b<J.length:=by
 intro b hb;rcases h with ⟨_,_,rfl⟩ | ⟨x,rfl,_,_,a⟩
 ·simp[hs] at hb
 ·simp[hs] at hb; subst hb; exact Af a
theorem BN.Aw {J':Aa} {s:Bv} {l:List (Int × Nat × Nat)} (h:BN J s l) (d:∀ b ∈ hs s,J'[b]?=J[b]?):BN J' s l:=by
 rcases h with h | ⟨x,rfl,h1,a,c⟩
 ·exact .inl h
 ·exact .inr ⟨x,rfl,h1,a,by rw[d x (by simp[hs])]; exact c⟩
theorem BN.app {s:Bv} {l:List (Int × Nat × Nat)} (h:BN J s l) (τ:Aa):BN (J++τ) s l:=BN.Aw h fun b hb=>AT (BN.lt h b hb)
theorem BN.nil (J:Aa):BN J (none,0,0) []:=.inl ⟨rfl,rfl,rfl⟩
theorem gw:∀ (l:List (Int × Nat × Nat)) (x:Nat) (a:x<l.length),(Un l)[x*3]?=some (qIi l[x].1)/\(Un l)[x*3+1]?=some (qIi (l[x].2.1:Int))/\(Un l)[x*3+2]?=some (qIi (l[x].2.2:Int))
 | y::l,0,a=>⟨rfl,rfl,rfl⟩
 | y::l,x+1,a=>by
   have:=gw l x (by simpa using a);rw[show (x+1)*3=x*3+3 from by omega];simpa [Un] using this
theorem BN.ld {s:Bv} {l:List (Int × Nat × Nat)} (h:BN J s l) {x:Nat} (f:x<l.length):∃ b,s.1=some ⟨b,0,none⟩/\Aj .i64 J b (x*3)=some l[x].1/\Aj .i64 J b (x*3+1)=some (l[x].2.1:Int)/\Aj .i64 J b (x*3+2)=some (l[x].2.2:Int)/\b<J.length:=by
 rcases h with ⟨h0,_⟩ | ⟨b,rfl,_,_,a⟩
 ·omega
 ·obtain ⟨c,d,e⟩:=gw l x f;exact ⟨b,rfl,by simp[Aj,CV,a,c,Bl],by simp[Aj,CV,a,d,Bl],by simp[Aj,CV,a,e,Bl],Af a⟩
theorem BN.push {s:Bv} {l:List (Int × Nat × Nat)} (h:BN J s l) (x:Int × Nat × Nat) (T:TypeId) (b:l.length<=900000):
  ∃ s' J',AG P Am (s.1,s.2.1,s.2.2) (some ⟨J.length,0,none⟩,1,1) (J++[.cells [qIi x.1,qIi (x.2.1:Int),qIi (x.2.2:Int)] T true])=some (s',J')/\BN J' s' (l++[x])/\Mv (hs s) (hs s') J J':=by
 obtain ⟨s',J',e,g,a⟩:=NF szP byP zzP rfl rfl (by decide) (by decide) (by decide) J s l.length (Un l) 1 1 [qIi x.1,qIi (x.2.1:Int),qIi (x.2.2:Int)] T (by omega) (by decide) rfl h;refine ⟨s',J',e, ?_,g.mv⟩;unfold BN;rw[Abe,gu];exact a
structure aL (Z:Aa) (h3 h6 top:Nat) (out:List (Int × Nat × Nat)):Prop where
 box:∃ s:Bv,Z[h3]?=some (.cells [.slice s.1 s.2.1 s.2.2] JF true)/\BN Z s out /\ ∀ b ∈ hs s,top<b
 rc:Z[h6]?=some (.loop 96 .ready (Hf 0 17 [(3,qVi (some ⟨h3,0,none⟩))]))
 h3t:h3<=top
 h6t:h6<=top
 ne:h3≠h6
 tl:top<Z.length
theorem aL.behind {Z a:Aa} {h3 h6 top:Nat} {out:List (Int × Nat × Nat)} (h:aL Z h3 h6 top out) (g:Z.length<=a.length) (f:∀ q,q<Z.length->a[q]?=Z[q]?):aL a h3 h6 top out:=by
 obtain ⟨s,e,l,n⟩:=h.box;have c:=h.h3t; have d:=h.h6t; have i:=h.tl;exact ⟨⟨s,by rw[f _ (by omega)]; exact e,BN.Aw l fun b hb=>f b (BN.lt l b hb),n⟩,by rw[f _ (by omega)]; exact h.rc,c,d,h.ne,by omega⟩
theorem aL.app {Z:Aa} {h3 h6 top:Nat} {out:List (Int × Nat × Nat)} (h:aL Z h3 h6 top out) (τ:Aa):aL (Z++τ) h3 h6 top out:=h.behind (by simp) fun q a=>AT a
theorem jA (k:Nat) {Z:Aa} {h3 h6 top:Nat} {out:List (Int × Nat × Nat)} (h:aL Z h3 h6 top out) (S:out.length<=1000) (z:Int × Nat × Nat) (P:qOi):
  ∃ m,Hg k h6 h3 z.1 (z.2.1:Int) (z.2.2:Int) P Z=some (.bool true,m)/\aL m h3 h6 top (out++[z])/\Su h3 top Z m:=by
 obtain ⟨s,e,l,n⟩:=h.box;have r:=h.h3t; have t:=h.h6t; have U:=h.tl;have c:∀ q ∈ hs s,q≠h3/\q≠h6:=fun q a=>by have:=n q a; omega
 obtain ⟨A,j⟩:∃ A,Au.cells [qIi z.1,qIi (z.2.1:Int),qIi (z.2.2:Int)] Am true=A:=⟨_,rfl⟩;obtain ⟨p,f⟩:∃ p,Au.loop 96 .busy (Hf 0 17 [(3,qVi (some ⟨h3,0,none⟩))])=p:=⟨_,rfl⟩;have u:(Z++[A])[h6]?=some (.loop 96 .ready (Hf 0 17 [(3,qVi (some ⟨h3,0,none⟩))])):=by rw[AT (by omega)]; exact h.rc
 obtain ⟨Z1_,b⟩:∃ Z1_,(Z++[A]).set h6 p=Z1_:=⟨_,rfl⟩;have T:Z1_.length=Z.length+1:=by rw[<- b]; simp
 have E:∀ q,q≠h6->Z1_[q]?=(Z++[A])[q]?:=fun q a=>by rw[<- b,Aaf (Ac9 a)]
 have d:∀ q,q≠h6->q<Z.length->Z1_[q]?=Z[q]?:=fun q a K=>by rw[E q a,AT K]
 have G:Z1_[h6]?=some (.loop 96 .busy (Hf 0 17 [(3,qVi (some ⟨h3,0,none⟩))])):=by rw[<- b,Abq (by simp; omega),f]
 have B:Z1_[h3]?=some (.cells [.slice s.1 s.2.1 s.2.2] JF true):=by rw[d _ h.ne (by omega)]; exact e
 have w:BN Z1_ s out:=BN.Aw l fun q a=>d q (c q a).2 (BN.lt l q a);have v:Bd Z1_ h3 0=some (s.1,s.2.1,s.2.2):=by simp[Bd,CV,B,Ej]
 have o:Z1_[Z.length]?=some A:=by rw[E _ (by omega),Abv]
 have M:Aj .i64 Z1_ Z.length 0=some z.1:=by simp[Aj,CV,o,<- j,Bl]
 have N:Aj .i64 Z1_ Z.length 1=some (z.2.1:Int):=by simp[Aj,CV,o,<- j,Bl]
 have O:Aj .i64 Z1_ Z.length 2=some (z.2.2:Int):=by simp[Aj,CV,o,<- j,Bl]
 unfold Hg;simp only[Ae,Ez,AI];rw[j,Ph u,f,b];obtain ⟨s',Z2_,J,x,i⟩:=BN.push w z Am (by omega);have g:∀ q ∈ hs s',top<q:=fun q a=>(i.new q a).elim (n q) fun Q=>by omega
 have F:Z2_[h3]?=some (.cells [.slice s.1 s.2.1 s.2.2] JF true):=i.IX B fun hm=>(c _ hm).1 rfl;have H:Z2_[h6]?=some (.loop 96 .busy (Hf 0 17 [(3,qVi (some ⟨h3,0,none⟩))])):=i.IX G fun hm=>(c _ hm).2 rfl;have C:=i.len;have st:CX Z2_ h3 0 (.slice s'.1 s'.2.1 s'.2.2)=some (Z2_.set h3 (.cells [.slice s'.1 s'.2.1 s'.2.2] JF true)):=by simp[CX,F]
 have I:(Z2_.set h3 (.cells [.slice s'.1 s'.2.1 s'.2.2] JF true))[h6]?=some (.loop 96 .busy (Hf 0 17 [(3,qVi (some ⟨h3,0,none⟩))])):=by rw[Aaf h.ne]; exact H
 simp only[v,IN,Nat.reduceAdd,M,N,O,AI,J,st];rw[Ph I];have D:=h.ne;refine ⟨_,rfl, ?_, ?_⟩
 ·refine ⟨⟨s', ?_,BN.Aw x fun q a=>?_,g⟩,Abq (by simp; omega),r,t,h.ne,by simp; omega⟩
  ·rw[Aaf h.ne.symm,Abq (by omega)]
  ·have:=g q a;rw[Aaf (by omega),Aaf (by omega)]
 ·refine ⟨by simp; omega,fun q a L=>?_⟩;by_cases y:q=h6
  ·subst y; rw[Abq (by simp; omega),h.rc]
  ·rw[Aaf (Ac9 y),Aaf (Ac9 L),i.same q (by omega) (fun hm=>by have:=n q hm; omega),d q y (by omega)]
theorem Uo (k:Nat) {h3 h6 top:Nat} {i1:Int} (i:i1=0\/i1=1\/i1=2) (sl:Bv) (l:List Int) (z:l.length<=200):∀ (n x f:Nat) (Z:Aa) (out:List (Int × Nat × Nat)),aL Z h3 h6 top out->Bh Z sl l->(∀ b ∈ hs sl,b<=top/\b≠h3/\b≠h6)->x+n=l.length->out.length+n<=1000->n<f ->
  ∃ d,Dh (k+3) f (.func (.yield h6) #[] #[]) i1 sl.1 l.length l.length ((l.length:Nat):Int) (x:Int) Z=some (.exit 2,[],d)/\aL d h3 h6 top (out++Qq i1 (l.drop x) x)/\Su h3 top Z d
 | n,x,0,Z,out,h,a,hb,D,A,y=>by omega
 | 0,x,f+1,Z,out,h,a,hb,D,A,y=>by
   rw[FI];simp only[Aac (show ¬ (x:Int)<((l.length:Nat):Int) by omega),By];rw[Ac5 (by omega)];exact ⟨Z,rfl,by simpa [Qq] using h,Su.refl _ _ _⟩
 | n+1,x,f+1,Z,out,h,a,hb,D,A,y=>by
   obtain ⟨b,e,F,_⟩:=a.ld (x:=x) (by omega);have H:=h.tl;have E:=hb b (Nu e);have G:=qSu x l.length (by omega);have I:=wSu x (by omega);rw[KR (l:=l) (x:=x) (by omega),Qq];rw[FI];simp only[Aad (show (x:Int)<((l.length:Nat):Int) by omega),IS,Ae,Ez,AI];have g:((bif i1 == (0:Int) then (if (16:Int)=0 then none else if (16:Int)=0 then none else (CX (Z++[Au.cells [qIi i1,qIi 0,qIi (x:Int)] Am true]) Z.length (0+1) (qIi (Ar ((x:Int).tdiv (16:Int))))).bind fun u=>(CX u Z.length (0+2) (qIi ((x:Int).tmod (16:Int)))).bind fun v=>some (.normal,[],v)) else (some (.normal,[],Z++[Au.cells [qIi i1,qIi 0,qIi (x:Int)] Am true])):Option Bq))=some (.normal,[],Z++[Au.cells [qIi (Ec i1 x).1,qIi ((Ec i1 x).2.1:Int),qIi ((Ec i1 x).2.2:Int)] Am true]):=by
    unfold Ec;by_cases h0:i1=0
    ·subst h0;have t1:(x:Int).tdiv 16=((x/16:Nat):Int):=Z2 x 16;have t2:(x:Int).tmod 16=((x % 16:Nat):Int):=Kq x 16;have t3:Ar ((x/16:Nat):Int)=((x/16:Nat):Int):=Ai (by unfold AO; omega);simp only[show ((0:Int) == 0)=true from rfl,IS,show ((16:Int)=0)=False from by simp,Abs,Aah,t1,t2,t3];simp only[CX,Abv,Ada,Adn,IN,show 1<0+1+1+1 from by omega,Aah,AI,Aen,Ae9];rw[Ae1 _ _ (Abp _)];simp
    ·simp only[show (i1 == (0:Int))=false from Acy.2 h0,By,Abo h0];rfl
   rw[g];obtain ⟨B,o⟩:∃ B,Au.cells [qIi (Ec i1 x).1,qIi ((Ec i1 x).2.1:Int),qIi ((Ec i1 x).2.2:Int)] Am true=B:=⟨_,rfl⟩;have h1:=h.app [B];have c:=a.app [B];have t:Aj .i64 (Z++[B]) b x=some (l.getD x 0):=by rw[HJ _ _ _ (by omega)]; exact F
   have f1:Su h3 top Z (Z++[B]):=Su.app H _;rw[o];simp only[AI,Aah,G,e,IT,Acu,IN,t,I];by_cases p:l.getD x 0=0
   ·obtain ⟨d,m,r,f2⟩:=Uo k i sl l z n (x+1) f _ out h1 c hb (by omega) (by omega) (by omega);rw[e] at m;rw[Abm p,Aev];refine ⟨d, ?_,r,f1.trans f2⟩;rw[show (l.getD x 0 != 0)=false from by rw[p]; rfl];simp only[By,AI];exact m
   ·have J:Aj .i64 (Z++[B]) Z.length 0=some (Ec i1 x).1:=by rw[<- o,Bt]; rfl
    have K:Aj .i64 (Z++[B]) Z.length 1=some ((Ec i1 x).2.1:Int):=by rw[<- o,Bt]; rfl
    have L:Aj .i64 (Z++[B]) Z.length 2=some ((Ec i1 x).2.2:Int):=by rw[<- o,Bt]; rfl
    obtain ⟨Z2_,m,r,f2⟩:=jA (k+2) h1 (by omega) (Ec i1 x) (some ⟨b,x,none⟩);have j:Bh Z2_ sl l:=c.Aw fun q C=>f2.same q (hb q C).1 (hb q C).2.1;obtain ⟨d,w,s,f3⟩:=Uo k i sl l z n (x+1) f _ _ r j hb (by omega) (by simp; omega) (by omega);rw[e] at w;rw[Abo p];refine ⟨d, ?_,by rw[<- Aae]; exact s,(f1.trans f2).trans f3⟩;rw[show (l.getD x 0 != 0)=true from Adp.2 p];simp only[IS,Nat.reduceAdd,J,K,L,AI];rw[Ml _ _ _ _ _ _ _ _ h1.rc,m];simp only[AI,An,Abr,By];exact w
theorem qJ (k:Nat) (hk:1000<k) (h:Ha J p r):∃ τ s,Ft (k+6) (F6 p) J=some (.slice s.1 s.2.1 s.2.2,J++τ)/\BN (J++τ) s (EJ r) /\ ∀ b ∈ hs s,J.length<=b:=by
 have f:=h.ok;have M:=f.sl;have X:=f.m4;have hg:=f.gl;have e:=f.qu;have w:=h.lt;rw[QC];have em:Bi (k+5) (F6 p) J=_:=Ni (k+4) h;simp only[em,AI,An,Abr,By,Ae];rw[NA];simp only[Ae,AI,kz,IS];rw[JK];rw[LZ];simp only[Ae];obtain ⟨t,j⟩:∃ O,Au.cells [.slice none 0 0] JF true=O:=⟨_,rfl⟩;obtain ⟨O2,l⟩:∃ O,Au.cells [qVi (F6 p)] FM true=O:=⟨_,rfl⟩;obtain ⟨O3,m⟩:∃ O,Au.loop 96 .ready (Hf 0 17 [(3,qVi (some ⟨J.length,0,none⟩))])=O:=⟨_,rfl⟩;rw[j,l,m];obtain ⟨Z,y⟩:∃ Z,J++[t]++[O2]++[O3]=Z:=⟨_,rfl⟩;have lm:Z.length=J.length+3:=by rw[<- y]; simp
 have d:Z=J++[t,O2,O3]:=by rw[<- y]; simp
 have lb:(J++[t]++[O2]).length=J.length+2:=by simp
 have la:(J++[t]).length=J.length+1:=by simp
 rw[y,lb,la];have g:Ha Z p r:=by rw[d]; exact h.app _
 have A:B7 Z (J.length+1) 0=some (F6 p):=by
  rw[d];simp only[B7,CV];rw[Acr (by omega),show J.length+1-J.length=1 from by omega];simp only[Acj,Ach,<- l];rfl
 simp only[AI,A,IN,Abn,g.EX,g.UH,g.cq];obtain ⟨O4,n⟩:∃ O,Au.cells [.slice p.s1.1 p.s1.2.1 p.s1.2.2,.slice p.s2.1 p.s2.2.1 p.s2.2.2,.slice p.s3.1 p.s3.2.1 p.s3.2.2] FP true=O:=⟨_,rfl⟩;rw[n];have c:Ha (Z++[O4]) p r:=g.app _;have Q:aL (Z++[O4]) J.length (J.length+2) (J.length+3) []:=by
  refine ⟨⟨(none,0,0), ?_,BN.nil _,fun b hb=>by simp[hs] at hb⟩, ?_,by omega,by omega,by omega,by simp[lm]⟩
  ·rw[d,Aae,Acr (Abp _),Afb,<- j]; rfl
  ·rw[d,Aae,Acr (by omega),show J.length+2-J.length=2 from by omega,<- m]; rfl
 have H:(Z++[O4])[J.length+3]?=some O4:=by rw[<- lm]; simp
 have a:∀ b ∈ p.l,b<=J.length+3/\b≠J.length/\b≠J.length+2:=fun b hb=>by have:=w b hb; omega
 have f1:=c.sl.form;have f2:=c.gl.form;have f3:=c.qu.form;have n1:=QV 0 r.sl 0;have n2:=QV 1 r.gl 0;obtain ⟨Z1_,I,S1,F1⟩:=Uo (k+1) (h3:=J.length) (h6:=J.length+2) (top:=J.length+3) (i1:=0) (by simp) p.s1 r.sl (by omega) r.sl.length 0 (k+4) _ [] Q c.sl (fun b hb=>a b (p.m1 hb)) (by omega) (by simp; omega) (by omega);rw[Aev,Ac6] at S1;have k1:∀ q ∈ p.l,Z1_[q]?=(Z++[O4])[q]?:=fun q e=>F1.same q (a q e).1 (a q e).2.1;have P:=c.Aw k1;have d1:Z1_[J.length+3]?=some O4:=(F1.same _ (Abp _) (by omega)).trans H;obtain ⟨Z2_,K,S2,F2⟩:=Uo (k+1) (h3:=J.length) (h6:=J.length+2) (top:=J.length+3) (i1:=1) (by simp) p.s2 r.gl (by omega) r.gl.length 0 (k+4) _ _ S1 P.gl (fun b hb=>a b (p.m2 hb)) (by omega) (by omega) (by omega);rw[Ac6] at S2;have k2:∀ q ∈ p.l,Z2_[q]?=Z1_[q]?:=fun q e=>F2.same q (a q e).1 (a q e).2.1;have p2:=P.Aw k2;have d2:Z2_[J.length+3]?=some O4:=(F2.same _ (Abp _) (by omega)).trans d1;obtain ⟨Z3_,L,S3,F3⟩:=Uo (k+1) (h3:=J.length) (h6:=J.length+2) (top:=J.length+3) (i1:=2) (by simp) p.s3 r.qu (by omega) r.qu.length 0 (k+4) _ _ S2 p2.qu (fun b hb=>a b (p.m3 hb)) (by omega) (by simp; omega) (by omega);rw[Ac6] at S3;have u:∀ (ν:Aa),ν[J.length+3]?=some O4->Bd ν (J.length+3) 0=some (p.s1.1,p.s1.2.1,p.s1.2.2)/\Bd ν (J.length+3) 1=some (p.s2.1,p.s2.2.1,p.s2.2.2)/\Bd ν (J.length+3) 2=some (p.s3.1,p.s3.2.1,p.s3.2.2):=by
  intro ν Y;simp[Bd,CV,Y,<- n,Ej]
 have w1:Ar ((0:Int)+1)=1:=by decide
 have w2:Ar ((1:Int)+1)=2:=by decide
 have w3:Ar ((2:Int)+1)=3:=by decide
 have B:p.s1.2.1=r.sl.length:=by rw[f1]
 have C:p.s1.2.2=r.sl.length:=by rw[f1]
 have D:p.s2.2.1=r.gl.length:=by rw[f2]
 have E:p.s2.2.2=r.gl.length:=by rw[f2]
 have F:p.s3.2.1=r.qu.length:=by rw[f3]
 have G:p.s3.2.2=r.qu.length:=by rw[f3]
 rw[show ((0:Nat):Int)=0 from rfl] at I K L;have V:Dg (k+4) (k+4) (.func (.yield (J.length+2)) #[] #[]) (J.length+3) ((3:Nat):Int) 0 (Z++[O4])=some (.exit 0,[],Z3_):=by
  obtain ⟨S,_,_⟩:=u _ H;obtain ⟨_,T,_⟩:=u _ d1;obtain ⟨_,_,U⟩:=u _ d2;rw[BO];simp only[show decide ((0:Int)<((3:Nat):Int))=true from rfl,IS,show ((0:Int)<=0/\(0:Int)<((3:Nat):Int))=True from by simp,Aah,Afc,Adw,IN,S,AI,B,C,I,w1];rw[BO];simp only[show decide ((1:Int)<((3:Nat):Int))=true from rfl,IS,show ((0:Int)<=1/\(1:Int)<((3:Nat):Int))=True from by simp,Aah,show (1:Int).toNat=1 from rfl,Acu,IN,T,AI,D,E,K,w2];rw[BO];simp only[show decide ((2:Int)<((3:Nat):Int))=true from rfl,IS,show ((0:Int)<=2/\(2:Int)<((3:Nat):Int))=True from by simp,Aah,show (2:Int).toNat=2 from rfl,Acu,IN,U,AI,F,G,L,w3];rw[BO];simp only[show decide ((3:Int)<((3:Nat):Int))=false from rfl,By]
 obtain ⟨s,o,v,i⟩:=S3.box;have x:=S3.rc;have N:Z.length+1<=Z3_.length:=by
  have W:=F1.len;have g2:=F2.len;have g3:=F3.len;simp at W;omega
 obtain ⟨τ,z⟩:∃ τ,Z3_.set (J.length+2) .dead=J++τ:=by
  refine GA (by simp; omega) fun q e=>?_;rw[Aaf (by omega),F3.same q (by omega) (by omega),F2.same q (by omega) (by omega),F1.same q (by omega) (by omega),d,Aae,AT e]
 refine ⟨τ,s, ?_, ?_,fun b hb=>by have:=i b hb; omega⟩
 ·rw[lm];simp only[V,Aah,AI];unfold OU;rw[x];have:Bd (Z3_.set (J.length+2) .dead) J.length 0=some (s.1,s.2.1,s.2.2):=by
   simp only[Bd,CV];rw[Aaf (by omega),o];rfl
  rw[z] at this;simp only[Aah,z,this,AI]
 ·rw[<- z];exact BN.Aw v fun q e=>Aaf (by have:=i q e; omega)
def CF (r:D3) (z:Int × Nat × Nat):Int:=if z.1=0 then r.sl.getD (16*z.2.1+z.2.2) 0 else if z.1=1 then r.gl.getD z.2.2 0 else r.qu.getD z.2.2 0
theorem Ha.Acl (h:Ha J p r) {z:Int × Nat × Nat} (hp:Oi r z.1 z.2.1 z.2.2):∃ b o,(z.1=0->p.s1.1=some ⟨b,0,none⟩/\o=16*z.2.1+z.2.2)/\(z.1=1->p.s2.1=some ⟨b,0,none⟩/\o=z.2.2)/\(z.1=2->p.s3.1=some ⟨b,0,none⟩/\o=z.2.2)/\Aj .i64 J b o=some (CF r z)/\b<J.length:=by
 have g:=h.ok.sl;have f:=h.ok.gl;unfold CF;rcases hp with ⟨e,hm,hi⟩ | ⟨e,_,hi⟩ | ⟨e,_,hi⟩
 ·obtain ⟨b,a,c,d⟩:=h.sl.ld (x:=16*z.2.1+z.2.2) (by omega);rw[Abm e];exact ⟨b,_,fun _=>⟨a,rfl⟩,fun h=>by omega,fun h=>by omega,c,Af d⟩
 ·obtain ⟨b,a,c,d⟩:=h.gl.ld (x:=z.2.2) (by omega);rw[Abo (by omega),Abm e];exact ⟨b,_,fun h=>by omega,fun _=>⟨a,rfl⟩,fun h=>by omega,c,Af d⟩
 ·obtain ⟨b,a,c,d⟩:=h.qu.ld (x:=z.2.2) (by omega);rw[Abo (by omega),Abo (by omega)];exact ⟨b,_,fun h=>by omega,fun h=>by omega,fun _=>⟨a,rfl⟩,c,Af d⟩
theorem yG (k:Nat) (h:Ha J p r) {z:Int × Nat × Nat} (hp:Oi r z.1 z.2.1 z.2.2):∃ τ,Iz (k+4) (F6 p) z.1 (z.2.1:Int) (z.2.2:Int) J=some (.tuple #[qIi (CF r z),qIi 0],J++τ):=by
 obtain ⟨B,a⟩:∃ B,Au.cells [qIi z.1,qIi (z.2.1:Int),qIi (z.2.2:Int)] Am true=B:=⟨_,rfl⟩;obtain ⟨b,o,h0,h1,l,d,e⟩:=h.Acl hp;have i:Ha (J++[B]++[B]) p r:=(h.app [B]).app [B];have g:=yf k i hp h0 h1 l;rw[a] at g;have em:=Ni (k+1) i;have f:∀ Z:Aa,Aj .i64 (Z++[B]) Z.length 0=some z.1/\Aj .i64 (Z++[B]) Z.length 1=some (z.2.1:Int)/\Aj .i64 (Z++[B]) Z.length 2=some (z.2.2:Int):=fun Z=>by
  rw[<- a];exact ⟨by rw[Bt]; rfl,by rw[Bt]; rfl,by rw[Bt]; rfl⟩
 obtain ⟨n,q,s⟩:=f J;obtain ⟨t,u,v⟩:=f (J++[B]);have m:J++[B]++[B]++[B]=J++[B,B,B]:=by simp
 have j:DB (k+3) (F6 p) z.1 (z.2.1:Int) (z.2.2:Int) (J++[B])=some (.tuple #[qVi (some ⟨b,o,none⟩),qIi 0],J++[B,B,B]):=by
  rw[MB];simp only[Ae,a,IN,Nat.reduceAdd,em,AI,An,Abr,By,t,u,v,g,HO,Aa3,m]
 have c:Aj .i64 (J++[B,B,B]) b o=some (CF r z):=by rw[HJ _ _ _ e]; exact d
 refine ⟨[B,B,B], ?_⟩;rw[TL];simp only[Ae,a,IN,Nat.reduceAdd,n,q,s,AI,j,LF,Abt,By,c]
theorem tD (k:Nat) (h:Ha J p r):∃ s τ,FY (k+2) (F6 p) J=some (.slice s.1 s.2.1 s.2.2,J++τ)/\Bh (J++τ) s r.qu /\ ∀ b ∈ hs s,J.length<=b:=by
 have f:=h.ok.qu;have d:=h.qu.form;have f1:p.s3.2.1=r.qu.length:=by rw[d]
 obtain ⟨s,τ,e,a,c⟩:=WT k p.s3.1 p.s3.2.2 r.qu (by omega) h.qu.holds;refine ⟨s,τ, ?_,a,c⟩;rw[R9];simp only[Ni k h,AI,An,Abr,By,IN,h.cq,f1,e,Ej]
end
section
local instance qKD:AH:=Ao
variable {J:Aa} {p:PI} {r rq:D3} {q:QI}
def Ss:List Int->Nat->List Int->List Int
 | [],_,acc=>acc
 | v::l,x,acc=>Ss l (x+1) (if v=0 then acc else acc.set x v)
theorem W8 {s:List Int}:∀ (l:List Int) (x:Nat) (acc:List Int),l=s.drop x->x<=s.length->acc=s.take x++List.replicate (s.length-x) 0->Ss l x acc=s
 | [],x,acc,b,i,c=>by
   have:s.length<=x:=by
    have:=Ad1 List.length b;rw[Adf] at this; simp at this; omega
   rw[Ss,c,Ado this,show s.length-x=0 from by omega]; simp
 | v::l,x,acc,b,i,c=>by
   have a:x<s.length:=by
    have:=Ad1 List.length b;rw[Adf] at this; simp at this; omega
   rw[KR a] at b;obtain ⟨h,d⟩:=Ae4 b;rw[Ss];refine W8 l (x+1) _ d a ?_;have f:s.length-x=(s.length-(x+1))+1:=by omega
   have g:s.take (x+1)=s.take x++[v]:=by
    rw[Age,h,Abi,Aaj a]; rfl
   have e:(s.take x).length=x:=by rw[Adc]; omega
   rw[g,c,f,Aek];split
   ·rename_i h0; rw[h0]; simp
   ·rw[Ae1 _ _ (by omega),e,Afb]; simp
theorem du {s:List Int}:∀ (l:List Int) (x:Nat),l=s.drop x->Ss l x s=s
 | [],x,_=>rfl
 | v::l,x,b=>by
   have a:x<s.length:=by
    have:=Ad1 List.length b;rw[Adf] at this; simp at this; omega
   rw[KR a] at b;obtain ⟨d,c⟩:=Ae4 b;rw[Ss];have:(if v=0 then s else s.set x v)=s:=by
    split
    ·rfl
    ·rw[d,Abi,Aaj a];show s.set x s[x]=s;exact List.set_getElem_self a
   rw[this];exact du l (x+1) c
def Og (r:D3) (ps:List (Int × Nat × Nat)) (rq:D3):D3:=ps.foldl (fun q z=>Ht q z.1 z.2.1 z.2.2 (CF r z)) rq
theorem Rc (r:D3) (a b:List (Int × Nat × Nat)) (rq:D3):Og r (a++b) rq=Og r b (Og r a rq):=by unfold Og; rw[Afq]
theorem vq (r:D3):∀ (l:List Int) (x:Nat) (rq:D3),l=r.sl.drop x->Og r (Qq 0 l x) rq={ rq with sl:=Ss l x rq.sl }
 | [],_,_,_=>rfl
 | v::l,x,rq,c=>by
   have d:x<r.sl.length:=by
    have:=Ad1 List.length c;rw[Adf] at this; simp at this; omega
   rw[KR d] at c;obtain ⟨e,a⟩:=Ae4 c;have b:16*(x/16)+x % 16=x:=Agq x 16;rw[Qq,Rc,Ss];by_cases h0:v=0
   ·rw[Abm h0,Abm h0];exact vq r l (x+1) rq a
   ·rw[Abo h0,Abo h0];have:Og r [Ec 0 x] rq={ rq with sl:=rq.sl.set x v }:=by
     unfold Og Ht CF Ec;simp only[Ad4,Ahl,Aah,b,<- e]
    rw[this];exact vq r l (x+1) _ a
theorem vr (r:D3):∀ (l:List Int) (x:Nat) (rq:D3),l=r.gl.drop x->Og r (Qq 1 l x) rq={ rq with gl:=Ss l x rq.gl }
 | [],_,_,_=>rfl
 | v::l,x,rq,b=>by
   have c:x<r.gl.length:=by
    have:=Ad1 List.length b;rw[Adf] at this; simp at this; omega
   rw[KR c] at b;obtain ⟨d,a⟩:=Ae4 b;rw[Qq,Rc,Ss];by_cases h0:v=0
   ·rw[Abm h0,Abm h0];exact vr r l (x+1) rq a
   ·rw[Abo h0,Abo h0];have:Og r [Ec 1 x] rq={ rq with gl:=rq.gl.set x v }:=by
     unfold Og Ht CF Ec;simp only[Ad4,Ahl,show ((1:Int)=0)=False from by simp,Abs,Aah,<- d]
    rw[this];exact vr r l (x+1) _ a
theorem vt (r:D3):∀ (l:List Int) (x:Nat) (rq:D3),l=r.qu.drop x->Og r (Qq 2 l x) rq={ rq with qu:=Ss l x rq.qu }
 | [],_,_,_=>rfl
 | v::l,x,rq,b=>by
   have c:x<r.qu.length:=by
    have:=Ad1 List.length b;rw[Adf] at this; simp at this; omega
   rw[KR c] at b;obtain ⟨d,a⟩:=Ae4 b;rw[Qq,Rc,Ss];by_cases h0:v=0
   ·rw[Abm h0,Abm h0];exact vt r l (x+1) rq a
   ·rw[Abo h0,Abo h0];have:Og r [Ec 2 x] rq={ rq with qu:=rq.qu.set x v }:=by
     unfold Og Ht CF Ec;simp only[Ad4,Ahl,show ((2:Int)=0)=False from by simp,show ((2:Int)=1)=False from by simp,Abs,<- d]
    rw[this];exact vt r l (x+1) _ a
theorem sJ (h:r.ok):Og r (EJ r) ⟨r.mu,List.replicate (16*r.mu) 0,List.replicate 16 0,r.qu⟩=r:=by
 unfold EJ;rw[Rc,Rc,vq r r.sl 0 _ rfl,vr r r.gl 0 _ rfl,vt r r.qu 0 _ rfl];simp only;rw[W8 r.sl 0 _ rfl (Ade _) (by rw[h.sl]; simp),W8 r.gl 0 _ rfl (Ade _) (by rw[h.gl]; simp),du r.qu 0 rfl]
theorem Xl {kk:Int} {z:Int × Nat × Nat}:∀ {l:List Int} {x:Nat},z ∈ Qq kk l x -> ∃ y,y<l.length/\z=Ec kk (x+y)/\l.getD y 0≠0
 | [],x,h=>by cases h
 | v::l,x,h=>by
   rw[Qq,Aag] at h;rcases h with h | h
   ·split at h
    ·cases h
    ·rename_i h0;rw[Ac1] at h;exact ⟨0,by simp,h,by simpa using h0⟩
   ·obtain ⟨y,h1,a,b⟩:=Xl h;exact ⟨y+1,by simp; omega,by rw[a]; congr 1; omega,by simpa using b⟩
theorem Ot {l:List Int} {x:Nat} (h:x<l.length):l.getD x 0 ∈ l:=by rw[Abi,Aaj h]; exact Ac4 h
theorem RU (h:r.ok) {z:Int × Nat × Nat} (a:z ∈ EJ r):Oi r z.1 z.2.1 z.2.2/\AO (CF r z)/\0<CF r z:=by
 have key:∀ v ∈ r.all,v≠0->AO v/\0<v:=fun v f h0=>by
  obtain ⟨h1,g⟩:=h.inn v f;exact ⟨h1,by omega⟩
 have e:=h.sl;have d:=h.gl;unfold EJ at a;rw[Aag,Aag] at a;rcases a with (a | a) | a
 ·obtain ⟨y,h1,rfl,b⟩:=Xl a;rw[IN];have c:16*(y/16)+y % 16=y:=Agq y 16;refine ⟨.inl ⟨rfl,by simp only[Ec,Aah]; omega,by simp only[Ec,Aah]; omega⟩, ?_⟩;have:CF r (Ec 0 y)=r.sl.getD y 0:=by unfold CF Ec; simp only[Aah,c]
  rw[this];exact key _ (by unfold D3.all; rw[Aag,Aag]; exact .inl (.inl (Ot h1))) b
 ·obtain ⟨y,h1,rfl,b⟩:=Xl a;rw[IN];refine ⟨.inr (.inl ⟨rfl,rfl,by simp[Ec]; omega⟩), ?_⟩;have:CF r (Ec 1 y)=r.gl.getD y 0:=rfl;rw[this];exact key _ (by unfold D3.all; rw[Aag,Aag]; exact .inl (.inr (Ot h1))) b
 ·obtain ⟨y,h1,rfl,b⟩:=Xl a;rw[IN];refine ⟨.inr (.inr ⟨rfl,rfl,by simp[Ec]; omega⟩), ?_⟩;have:CF r (Ec 2 y)=r.qu.getD y 0:=rfl;rw[this];exact key _ (by unfold D3.all; rw[Aag,Aag]; exact .inr (Ot h1)) b
theorem uR (rq:D3) (k:Int) (mt ix:Nat) (a:Int):(Ht rq k mt ix a).mu=rq.mu/\(Ht rq k mt ix a).qu.length=rq.qu.length:=by
 unfold Ht;split
 ·exact ⟨rfl,rfl⟩
 ·split
  ·exact ⟨rfl,rfl⟩
  ·exact ⟨rfl,Ac8⟩
theorem Si (k:Nat) {s:Bv} {ps:List (Int × Nat × Nat)} (F:∀ z ∈ ps,Oi r z.1 z.2.1 z.2.2/\AO (CF r z)/\0<CF r z) (A:ps.length<=1000) (hd:∀ b ∈ q.l,b ∉ p.l/\b ∉ hs s):∀ (n x f:Nat) (J:Aa) (rq:D3),Ha J p r->F5 J q rq->BN J s ps->rq.mu=r.mu->rq.qu.length=r.qu.length->x+n=ps.length->n<f ->
  ∃ J',DY (k+4) f (F6 p) (GP q) s.1 ps.length ps.length (x:Int) J=some (.exit 0,[],J')/\F5 J' q (Og r (ps.drop x) rq)/\Mv q.l q.l J J'
 | n,x,0,J,rq,w,v,hp,hm,y,E,D=>by omega
 | 0,x,f+1,J,rq,w,v,hp,hm,y,E,D=>by
   rw[LS];simp only[Aac (show ¬ (x:Int)<((ps.length:Nat):Int) by omega),By];rw[Ac5 (by omega)];exact ⟨J,rfl,v,Mv.refl _ _⟩
 | n+1,x,f+1,J,rq,w,v,hp,hm,y,E,D=>by
   have j:x<ps.length:=by omega
   have T:=qSu x ps.length (by omega);have U:=wSu x (by omega);obtain ⟨b,e,H,I,K,hb⟩:=BN.ld hp j;obtain ⟨M,Y,z3⟩:=F _ (Ac4 j);have g:ps.drop x=ps[x]::ps.drop (x+1):=Ac2 j;rw[g];generalize ps[x]=z at *;obtain ⟨τ,N⟩:=yG k w M;have t:=w.app τ;have B:=v.app τ;have l:=BN.app hp τ;have Z:Oi rq z.1 z.2.1 z.2.2:=by
    rcases M with ⟨a,b,c⟩ | h | ⟨a,b,c⟩
    ·exact .inl ⟨a,by omega,c⟩
    ·exact .inr (.inl h)
    ·exact .inr (.inr ⟨a,b,by omega⟩)
   obtain ⟨J2_,es,m,L⟩:=tE (k+2) B Z (CF r z) Y;have u:Of rq z.1 z.2.1 z.2.2 (CF r z)=(0,Ht rq z.1 z.2.1 z.2.2 (CF r z)):=by unfold Of; rw[Abo (by omega)]
   rw[u] at es m;obtain ⟨O,P⟩:=uR rq z.1 z.2.1 z.2.2 (CF r z);have G:∀ c,c<(J++τ).length->(c ∉ q.l)->J2_[c]?=(J++τ)[c]?:=fun c d Q=>L.same c d Q;obtain ⟨J3_,C,o,S⟩:=Si k F A hd n (x+1) f J2_ _ (t.Aw fun c d=>G c (t.lt c d) fun i=>(hd c i).1 d) m (BN.Aw l fun c d=>G c (BN.lt l c d) fun i=>(hd c i).2 d) (by rw[O]; exact hm) (by rw[P]; exact y) (by omega) (by omega);have V:Aj .i64 (J++τ) b (x*3)=some z.1:=by rw[HJ _ _ _ hb]; exact H
   have W:Aj .i64 (J++τ) b (x*3+1)=some (z.2.1:Int):=by rw[HJ _ _ _ hb]; exact I
   have X:Aj .i64 (J++τ) b (x*3+2)=some (z.2.2:Int):=by rw[HJ _ _ _ hb]; exact K
   rw[e] at C;refine ⟨J3_, ?_,by unfold Og at o ⊢; rw[Ad4]; exact o,((Mv.app q.l J τ).trans L).trans S⟩;rw[LS];simp only[Aad (show (x:Int)<((ps.length:Nat):Int) by omega),IS,T,Aah,e,AI,IT,IN,Adt,Nat.reduceAdd,H,I,K,N,B9,V,W,X,es,Ah,U,C]
theorem F5.Abl (h:F5 J q rq) {s':Bv} {l:List Int} (li:Bh J s' l) (m:l.length<=64) (hi:∀ v ∈ l,AO v/\0<=v) (f:∀ b ∈ hs s',b ∉ q.l):
  ∃ c,CX J q.qb 2 (.slice s'.1 s'.2.1 s'.2.2)=some (J.set q.qb c)/\F5 (J.set q.qb c) { q with s3:=s' } { rq with qu:=l }:=by
 have sep:=h.sep;have j:({ rq with qu:=l }:D3).ok:=⟨h.ok.m1,h.ok.m4,h.ok.sl,h.ok.gl,m,fun v d=>by
  unfold D3.all at d;rw[Aag] at d;rcases d with d | d
  ·exact h.ok.inn v (by unfold D3.all; rw[Aag]; exact .inl d)
  ·exact hi v d⟩;refine ⟨.cells [.slice q.ss.1 q.ss.2.1 q.ss.2.2,.slice q.s2.1 q.s2.2.1 q.s2.2.2,.slice s'.1 s'.2.1 s'.2.2] BM true,by simp[CX,h.cell], ?_⟩;have g:∀ x,x≠q.qb -> ∀ c,(J.set q.qb c)[x]?=J[x]?:=fun x i c=>Aaf i.symm;refine ⟨Abq (Af h.cell),h.ss.Aw fun a k=>g _ (sep.a0 _ (BQ.2 ⟨a,k,rfl⟩)).1 _,h.n,fun x i=>(h.inn x i).Aw fun b hb=>g _ (sep.a1 _ (q.mi i hb)).1 _,h.gl.Aw fun b hb=>g _ (sep.a2 _ hb).1 _,li.Aw fun b hb=>g _ (fun e=>f b hb (by rw[e]; exact QI.mem.2 (.inl rfl))) _,j,⟨fun b hb=>⟨(sep.a0 b hb).1,(sep.a0 b hb).2.1,(sep.a0 b hb).2.2.1,fun hm=>f b hm (QI.mem.2 (.inr (.inl hb)))⟩,fun b hb=>⟨(sep.a1 b hb).1,(sep.a1 b hb).2.1,fun hm=>f b hm (QI.mem.2 (.inr (.inr (.inl hb))))⟩,fun b hb=>⟨(sep.a2 b hb).1,fun hm=>f b hm (QI.mem.2 (.inr (.inr (.inr (.inl hb)))))⟩,fun b hb e=>f b hb (by rw[e]; exact QI.mem.2 (.inl rfl)),sep.nd⟩⟩
theorem Rk (k:Nat) (T:5000<=k) (h:Ha J p r):∃ τ q,BR (k+7) (F6 p) J=some (qVi (GP q),J++τ)/\F5 (J++τ) q r /\ ∀ b ∈ q.l,J.length<=b:=by
 have a:=h.ok;have f:=h.lt;obtain ⟨e,d,w,g,m⟩:=uY (k+4) (by omega) a.m1 a.m4 J;have w:It (k+6) (r.mu:Int) J=_:=w;have h1:=h.app e;have em:Cg (k+6) (F6 p) J=_:=YR (k+4) h;obtain ⟨s2,t,x,l,S⟩:=tD (k+4) h1;have x:FY (k+6) (F6 p) (J++e)=_:=x;have f2:=l.form;obtain ⟨s3,H,y,F,K⟩:=jq (k+5) l (by have:=a.qu; omega);have y:Hj (k+6) (s2.1,s2.2.1,s2.2.2) (J++e++t)=_:=y;have E:F5 (J++e++t++H) d ⟨r.mu,List.replicate (16*r.mu) 0,List.replicate 16 0,[]⟩:=(g.app t).app H;have D:∀ b ∈ d.l,b<(J++e).length:=g.lt;obtain ⟨c,es,i⟩:=E.Abl F.li a.qu (fun v O=>a.inn v (by unfold D3.all; rw[Aag]; exact .inr O)) (fun b hb hm=>by
  have h1:=K b hb;have C:=D b hm;rw[Abe] at h1;omega);generalize L:(J++e++t++H).set d.qb c=Z at *;have G:J.length<=d.qb:=m _ (QI.mem.2 (.inl rfl));have low:∀ b,b<J.length->Z[b]?=J[b]?:=fun b hb=>by
  rw[<- L,Aaf (by omega),Aae,Aae,AT hb]
 have U:J.length<=Z.length:=by rw[<- L]; simp
 have C:Ha Z p r:=h.Aw fun b hb=>low b (f b hb);obtain ⟨u,o,A,pl,N⟩:=qJ k (by omega) C;have A:Ft (k+6) (F6 p) Z=_:=A;have n:∀ b ∈ ({ d with s3:=s3 }:QI).l,J.length<=b/\b<Z.length:=fun b hb=>by
  refine ⟨?_,i.lt b hb⟩;rcases QI.mem.1 hb with rfl | hb | hb | hb | hb
  ·exact G
  ·exact m b (QI.mem.2 (.inr (.inl hb)))
  ·exact m b (QI.mem.2 (.inr (.inr (.inl hb))))
  ·exact m b (QI.mem.2 (.inr (.inr (.inr (.inl hb)))))
  ·have:=K b hb; simp at this; omega
 have I:o.2.1=(EJ r).length/\o.2.2=(EJ r).length:=by
  have:=Cq.form pl;constructor <;> rw[this]
 obtain ⟨J5_,B,j,M⟩:=Si (k+2) (q:={ d with s3:=s3 }) (s:=o) (ps:=EJ r) (fun z P=>RU a P) (by have:=PQ a; omega) (fun b hb=>⟨fun hm=>by have:=f b hm; have:=(n b hb).1; omega,fun hm=>by have:=N b hm; have:=(n b hb).2; omega⟩) (EJ r).length 0 (k+6) (Z++u) _ (C.app u) (i.app u) pl rfl rfl (by omega) (by have:=PQ a; omega);have B:DY (k+6) (k+6) (F6 p) (GP d) o.1 (EJ r).length (EJ r).length 0 (Z++u)=_:=B;rw[Ac6,sJ a] at j;obtain ⟨τ,Q⟩:∃ τ,J5_=J++τ:=GA (by have:=M.len; rw[Abe] at this; omega) fun b hb=>by
  rw[M.same b (by rw[Abe]; omega) (fun hm=>by have:=(n b hm).1; omega),AT (by omega),low b hb]
 subst Q;refine ⟨τ,{ d with s3:=s3 }, ?_,j,fun b hb=>(n b hb).1⟩;rw[Tw];simp only[em,AI,Ah,w,LF,Abt,By,x,Ej,y,IN,es,A,I.1,I.2,B,Aah]
end
section
local instance qKE:AH:=Ao
variable {J:Aa} {p:PI} {r:D3} {q:QI}
def NP (r:D3):List (Int × Nat × Nat):=(List.range' 0 (16*r.mu)).map (Ec 0)++(List.range' 0 16).map (Ec 1)++(List.range' 0 r.qu.length).map (Ec 2)
theorem UB {r:D3} {kk:Int}:∀ (l:List Int) (x:Nat),(∀ y,y<l.length->CF r (Ec kk (x+y))=l.getD y 0)->((List.range' x l.length).map (Ec kk)).filter (fun z=>decide (CF r z≠0))=Qq kk l x
 | [],_,_=>rfl
 | v::l,x,h=>by
   have h0:=h 0 (by simp);rw[Abn] at h0;have h0:CF r (Ec kk x)=v:=h0;have c:=UB l (x+1) fun y b=>by
    have:=h (y+1) (by simpa using b);rw[show x+1+y=x+(y+1) from by omega,this]; rfl
   rw[Ada,Afx,Aea,Aeq,Qq,h0,c];by_cases a:v=0
   ·rw[Abo (by simp[a]),Abm a]; rfl
   ·rw[Abm (by simp[a]),Abo a]; rfl
theorem Aa5 {r:D3} (y:Nat):CF r (Ec 0 y)=r.sl.getD y 0:=by
 have a:16*(y/16)+y % 16=y:=Agq y 16;unfold CF Ec; simp only[Aah,a]
theorem im (h:r.ok):(NP r).filter (fun z=>decide (CF r z≠0))=EJ r:=by
 have h0:=UB (r:=r) (kk:=0) r.sl 0 fun y _=>by rw[IN]; exact Aa5 y
 have h1:=UB (r:=r) (kk:=1) r.gl 0 fun y _=>by rw[IN]; rfl
 have a:=UB (r:=r) (kk:=2) r.qu 0 fun y _=>by rw[IN]; rfl
 rw[h.sl] at h0;rw[h.gl] at h1;unfold NP EJ;rw[Afl,Afl,h0,h1,a]
theorem qO (out:List Int):JJ out 0=out:=by unfold JJ; rw[Abm (.inl rfl)]
theorem UE {r:D3} {kk:Int}:∀ (l:List Int) (x:Nat) (out:List Int),(∀ y,y<l.length->CF r (Ec kk (x+y))=l.getD y 0)->((Qq kk l x).map (CF r)).foldl JJ out=l.foldl JJ out
 | [],_,_,_=>rfl
 | v::l,x,out,h=>by
   have h0:=h 0 (by simp);rw[Abn] at h0;have h0:CF r (Ec kk x)=v:=h0;have c:=fun out=>UE l (x+1) out fun y b=>by
    have:=h (y+1) (by simpa using b);rw[show x+1+y=x+(y+1) from by omega,this]; rfl
   rw[Qq,Aex,Afq,Ad4,c];by_cases a:v=0
   ·rw[Abm a,a,qO]; rfl
   ·rw[Abo a,Aea,List.map_nil,Ad4,Ahl,h0]
theorem Xi (r:D3):((EJ r).map (CF r)).foldl JJ []=Bf r:=by
 unfold EJ Bf D3.all;rw[Aex,Aex,Afq,Afq,Afq,Afq];rw[UE r.sl 0 [] fun y _=>by rw[IN]; exact Aa5 y];rw[UE r.gl 0 _ fun y _=>by rw[IN]; rfl];rw[UE r.qu 0 _ fun y _=>by rw[IN]; rfl]
theorem uf (h:r.ok) {z:Int × Nat × Nat} (a:z ∈ NP r):Oi r z.1 z.2.1 z.2.2:=by
 unfold NP at a;rw[Aag,Aag] at a;rcases a with (a | a) | a
 ·obtain ⟨y,b,rfl⟩:=Ad0.1 a;have:=(Af6.1 b).2;exact .inl ⟨rfl,by simp only[Ec,Aah]; omega,by simp only[Ec,Aah]; omega⟩
 ·obtain ⟨y,b,rfl⟩:=Ad0.1 a;have:=(Af6.1 b).2;exact .inr (.inl ⟨rfl,rfl,by simp[Ec]; omega⟩)
 ·obtain ⟨y,b,rfl⟩:=Ad0.1 a;have:=(Af6.1 b).2;exact .inr (.inr ⟨rfl,rfl,by simp[Ec]; omega⟩)
theorem ru (h:r.ok):(NP r).length<=144:=by
 have:=h.m4;have:=h.qu;unfold NP;simp;omega
theorem YL (k:Nat) {mt:Nat} (hm:mt<1000):∀ (n x f:Nat) (J:Aa) (s:Bv) (out:List (Int × Nat × Nat)),BN J s out->out.length+n<=1000->x+n=16->n<f ->
  ∃ s' J',Ep k f (mt:Int) (s.1,s.2.1,s.2.2) (x:Int) J=some (.exit 2,[.slice s'.1 s'.2.1 s'.2.2],J')/\BN J' s' (out++(List.range' (16*mt+x) n).map (Ec 0))/\Mv (hs s) (hs s') J J'
 | n,x,0,J,s,out,h,c,d,b=>by omega
 | 0,x,f+1,J,s,out,h,c,d,b=>by
   rw[KV];simp only[Aac (show ¬ (x:Int)<16 by omega),By];exact ⟨s,J,rfl,by simpa using h,Mv.refl _ _⟩
 | n+1,x,f+1,J,s,out,h,c,d,b=>by
   have l:=wSu x (by omega);obtain ⟨s1,J1_,e,h1,i⟩:=BN.push h (0,mt,x) Am (by omega);obtain ⟨s2,J2_,g,a,j⟩:=YL k hm n (x+1) f J1_ s1 _ h1 (by simp; omega) (by omega) (by omega);have hp:Ec 0 (16*mt+x)=(0,mt,x):=by
    unfold Ec;simp only[Aah];rw[show (16*mt+x)/16=mt from by omega,show (16*mt+x) % 16=x from by omega]
   rw[KV];simp only[Aad (show (x:Int)<16 by omega),IS,Ae,e,AI,l,g];refine ⟨s2,J2_,rfl, ?_,i.trans j⟩;rw[Afx,Aea,hp];rw[Aae] at a;exact a
theorem YK (k:Nat) (p:20<=k):∀ (n x f:Nat) (J:Aa) (s:Bv) (out:List (Int × Nat × Nat)),F5 J q r->BN J s out->(∀ b ∈ hs s,b ∉ q.l)->out.length+16*n<=900->x+n=r.mu->n<f ->
  ∃ s' J',Eo k f (GP q) (s.1,s.2.1,s.2.2) (x:Int) J=some (.exit 0,[.slice s'.1 s'.2.1 s'.2.2],J')/\BN J' s' (out++(List.range' (16*x) (16*n)).map (Ec 0))/\Mv (hs s) (hs s') J J'
 | n,x,0,J,s,out,a,h,hd,j,l,g=>by omega
 | 0,x,f+1,J,s,out,a,h,hd,j,l,g=>by
   rw[KU];simp only[IN,Abn,a.HI,AI,Aac (show ¬ (x:Int)<((r.mu:Nat):Int) by omega),By];exact ⟨s,J,rfl,by simpa using h,Mv.refl _ _⟩
 | n+1,x,f+1,J,s,out,a,h,hd,j,l,g=>by
   have t:=a.ok.m4;have v:=wSu x (by omega);obtain ⟨s1,J1_,e,h1,d⟩:=YL k (mt:=x) (by omega) 16 0 k J s out h (by omega) (by omega) (by omega);rw[show ((0:Nat):Int)=0 from rfl] at e;have c:F5 J1_ q r:=a.Aw fun b hb=>d.same b (a.lt b hb) fun hm=>hd b hm hb;obtain ⟨s2,J2_,m,o,u⟩:=YK k p n (x+1) f J1_ s1 _ c h1 (fun b hb hm=>by
    rcases d.new b hb with i | i
    ·exact hd b i hm
    ·have:=a.lt b hm; omega) (by simp; omega) (by omega) (by omega);rw[KU];simp only[IN,Abn,a.HI,AI,Aad (show (x:Int)<((r.mu:Nat):Int) by omega),IS,e,Aah,Rh,v,m];refine ⟨s2,J2_,rfl, ?_,d.trans u⟩;have:List.range' (16*x) (16*(n+1))=List.range' (16*x+0) 16++List.range' (16*(x+1)) (16*n):=by
    rw[show 16*(n+1)=16+16*n from by omega,<- List.range'_append_1];rfl
   rw[this,Aex,<- Aae];exact o
theorem YM (k:Nat):∀ (n x f:Nat) (J:Aa) (s:Bv) (out:List (Int × Nat × Nat)),BN J s out->out.length+n<=1000->x+n=16->n<f ->
  ∃ s' J',Er k f (s.1,s.2.1,s.2.2) (x:Int) J=some (.exit 4,[.slice s'.1 s'.2.1 s'.2.2],J')/\BN J' s' (out++(List.range' x n).map (Ec 1))/\Mv (hs s) (hs s') J J'
 | n,x,0,J,s,out,h,d,e,c=>by omega
 | 0,x,f+1,J,s,out,h,d,e,c=>by
   rw[KW];simp only[Aac (show ¬ (x:Int)<16 by omega),By];exact ⟨s,J,rfl,by simpa using h,Mv.refl _ _⟩
 | n+1,x,f+1,J,s,out,h,d,e,c=>by
   have l:=wSu x (by omega);obtain ⟨s1,J1_,a,h1,i⟩:=BN.push h (1,0,x) Am (by omega);rw[show ((0:Nat):Int)=0 from rfl] at a;obtain ⟨s2,J2_,g,b,j⟩:=YM k n (x+1) f J1_ s1 _ h1 (by simp; omega) (by omega) (by omega);rw[KW];simp only[Aad (show (x:Int)<16 by omega),IS,Ae,a,AI,l,g];refine ⟨s2,J2_,rfl, ?_,i.trans j⟩;rw[Afx,Aea];rw[Aae] at b;exact b
theorem YN (k:Nat):∀ (n x f:Nat) (J:Aa) (s:Bv) (out:List (Int × Nat × Nat)),F5 J q r->BN J s out->(∀ b ∈ hs s,b ∉ q.l)->out.length+n<=1000->x+n=r.qu.length->n<f ->
  ∃ s' J',Es k f (GP q) (s.1,s.2.1,s.2.2) (x:Int) J=some (.exit 6,[.slice s'.1 s'.2.1 s'.2.2],J')/\BN J' s' (out++(List.range' x n).map (Ec 2))/\Mv (hs s) (hs s') J J'
 | n,x,0,J,s,out,a,h,hd,l,m,i=>by omega
 | 0,x,f+1,J,s,out,a,h,hd,l,m,i=>by
   rw[KX];simp only[IN,Abn,a.UH,AI,Aac (show ¬ (x:Int)<((r.qu.length:Nat):Int) by omega),By];exact ⟨s,J,rfl,by simpa using h,Mv.refl _ _⟩
 | n+1,x,f+1,J,s,out,a,h,hd,l,m,i=>by
   have p:=a.ok.qu;have u:=wSu x (by omega);obtain ⟨s1,J1_,e,h1,d⟩:=BN.push h (2,0,x) Am (by omega);rw[show ((0:Nat):Int)=0 from rfl] at e;have c:F5 J1_ q r:=a.Aw fun b hb=>d.same b (a.lt b hb) fun hm=>hd b hm hb;obtain ⟨s2,J2_,o,g,t⟩:=YN k n (x+1) f J1_ s1 _ c h1 (fun b hb hm=>by
    rcases d.new b hb with j | j
    ·exact hd b j hm
    ·have:=a.lt b hm; omega) (by simp; omega) (by omega) (by omega);rw[KX];simp only[IN,Abn,a.UH,AI,Aad (show (x:Int)<((r.qu.length:Nat):Int) by omega),IS,Ae,e,u,o];refine ⟨s2,J2_,rfl, ?_,d.trans t⟩;rw[Afx,Aea];rw[Aae] at g;exact g
theorem tf (k:Nat) (x:200<=k) (h:F5 J q r):∃ s τ,Hd (k+1) (GP q) J=some (.slice s.1 s.2.1 s.2.2,J++τ)/\BN (J++τ) s (NP r) /\ ∀ b ∈ hs s,J.length<=b:=by
 have c:=h.ok;have n:=c.m4;have o:=c.qu;obtain ⟨k,rfl⟩:∃ p,k=p+1:=⟨k-1,by omega⟩;obtain ⟨s1,J1_,f,h1,t⟩:=YK (k+1) (by omega) r.mu 0 (k+1) J (none,0,0) [] h (BN.nil J) (fun b hb=>by simp[hs] at hb) (by simp; omega) (by omega) (by omega);obtain ⟨s2,J2_,g,j,u⟩:=YM (k+1) 16 0 (k+1) J1_ s1 _ h1 (by simp; omega) (by omega) (by omega);have a:=t.trans u;have e:F5 J2_ q r:=h.Aw fun b hb=>a.same b (h.lt b hb) (by simp[hs]);obtain ⟨w,J3_,i,l,v⟩:=YN (k+1) r.qu.length 0 (k+1) J2_ s2 _ e j (fun b hb hm=>by
  rcases a.new b hb with d | d
  ·simp[hs] at d
  ·have:=h.lt b hm; omega) (by simp; omega) (by omega) (by omega);have m:=a.trans v;obtain ⟨τ,rfl⟩:=GA m.len fun b hb=>m.same b hb (by simp[hs]);rw[show ((0:Nat):Int)=0 from rfl] at f g i;refine ⟨w,τ, ?_,by simpa [NP] using l,fun b hb=>(m.new b hb).elim (fun d=>by simp[hs] at d) id⟩;rw[R4];simp only[NG k h,AI,An,Abr,By,f,Aah,Rh,g,i]
theorem iJ (k:Nat) (h:F5 J q r) {z:Int × Nat × Nat} (hp:Oi r z.1 z.2.1 z.2.2):DJ (k+1) (GP q) z.1 (z.2.1:Int) (z.2.2:Int) J=some (qIi (CF r z),J++[Au.cells [qIi z.1,qIi (z.2.1:Int),qIi (z.2.2:Int)] Am true]):=by
 have n:=h.ok.sl;have p:=h.ok.gl;obtain ⟨o,mt,a⟩:=z;have hp:Oi r o mt a:=hp;have d:=h.app [Au.cells [qIi o,qIi (mt:Int),qIi (a:Int)] Am true];rw[TI];simp only[Ae,IN,Bt,Ach,Acj,AI,Ah];unfold CF;rcases hp with ⟨rfl,hm,hi⟩ | ⟨rfl,rfl,hi⟩ | ⟨rfl,rfl,hi⟩
 ·have e:mt<q.sl.length:=by rw[h.n]; exact hm
  obtain ⟨c,eq,s⟩:=d.Aa7 e;have f:=(h.inn mt e).form;have m:=XM n hm;have f1:q.sl[mt].2.1=16:=by rw[f]; exact m
  obtain ⟨b,i,g,_⟩:=(d.inn mt e).ld (x:=a) (by omega);have l:(chunk r.sl mt).getD a 0=r.sl.getD (16*mt+a) 0:=by
   unfold chunk;rw[Abi,Abi,Ads,Abm hi,Adq]
  rw[l] at g;have t:=qSu mt r.mu (by omega);have j:=qSu a 16 (by omega);simp only[show ((0:Int) == 0)=true from rfl,IS,d.HI,AI,t,Aah,eq,IT,Acu,IN,s,f1,j,i,g]
 ·obtain ⟨b,i,g,_⟩:=d.gl.ld (x:=a) (by omega);have j:=qSu a r.gl.length (by omega);simp only[show ((1:Int) == 0)=false from rfl,By,show ((1:Int) == 1)=true from rfl,IS,d.EX,AI,j,Aah,i,IT,Acu,IN,g,show ((1:Int)=0)=False from by simp,Abs]
 ·obtain ⟨b,i,g,_⟩:=d.qu.ld (x:=a) (by omega);have j:=qSu a r.qu.length (by omega);simp only[show ((2:Int) == 0)=false from rfl,By,show ((2:Int) == 1)=false from rfl,d.UH,AI,j,Aah,i,IT,Acu,IN,g,show ((2:Int)=0)=False from by simp,show ((2:Int)=1)=False from by simp,Abs]
theorem Rj (k:Nat) {sl:Bv} {ps:List (Int × Nat × Nat)} (w:∀ z ∈ ps,Oi r z.1 z.2.1 z.2.2) (m:ps.length<=500):∀ (n x f:Nat) (J:Aa) (s:Bv) (out:List (Int × Nat × Nat)),F5 J q r->BN J sl ps->BN J s out->(∀ b ∈ hs s,b ∉ q.l/\b ∉ hs sl)->out.length+n<=900->x+n=ps.length->n<f ->
  ∃ s' J',DV (k+1) f (GP q) sl.1 ps.length ps.length (s.1,s.2.1,s.2.2) (x:Int) J=some (.exit 0,[.slice s'.1 s'.2.1 s'.2.2],J')/\BN J' s' (out++(ps.drop x).filter (fun z=>decide (CF r z≠0)))/\Mv (hs s) (hs s') J J'
 | n,x,0,J,s,out,p,hp,h,hd,F,G,D=>by omega
 | 0,x,f+1,J,s,out,p,hp,h,hd,F,G,D=>by
   rw[Ky];simp only[Aac (show ¬ (x:Int)<((ps.length:Nat):Int) by omega),By];rw[Ac5 (by omega)];exact ⟨s,J,rfl,by simpa using h,Mv.refl _ _⟩
 | n+1,x,f+1,J,s,out,p,hp,h,hd,F,G,D=>by
   have j:x<ps.length:=by omega
   have S:=qSu x ps.length (by omega);have M:=wSu x (by omega);obtain ⟨b,e,I,K,L,hb⟩:=BN.ld hp j;have W:=w _ (Ac4 j);have i:ps.drop x=ps[x]::ps.drop (x+1):=Ac2 j;rw[i];generalize ps[x]=z at *;obtain ⟨B,P⟩:∃ B,Au.cells [qIi z.1,qIi (z.2.1:Int),qIi (z.2.2:Int)] Am true=B:=⟨_,rfl⟩;have C:=iJ k p W;rw[P] at C;have g:=p.app [B];have d:=BN.app hp [B];have h1:=BN.app h [B];have T:Aj .i64 (J++[B]) b (x*3)=some z.1:=by rw[HJ _ _ _ hb]; exact I
   have U:Aj .i64 (J++[B]) b (x*3+1)=some (z.2.1:Int):=by rw[HJ _ _ _ hb]; exact K
   have V:Aj .i64 (J++[B]) b (x*3+2)=some (z.2.2:Int):=by rw[HJ _ _ _ hb]; exact L
   rw[Ky];simp only[Aad (show (x:Int)<((ps.length:Nat):Int) by omega),IS,S,Aah,e,AI,IT,IN,Adt,Nat.reduceAdd,I,K,L,C,Ah];by_cases t:CF r z=0
   ·obtain ⟨s2,J2_,l,o,A⟩:=Rj k w m n (x+1) f (J++[B]) s out g d h1 hd (by omega) (by omega) (by omega);rw[e] at l;rw[Aeq,Abo (by simp[t])];simp only[show (CF r z != 0)=false from by rw[t]; rfl,By,AI,Aah,Rh,M,l];exact ⟨s2,J2_,rfl,o,(Mv.app _ _ _).trans A⟩
   ·obtain ⟨s1,J1_,N,O,y⟩:=BN.push h1 z Am (by omega);have H:∀ c,c<(J++[B]).length->c ∉ hs s->J1_[c]?=(J++[B])[c]?:=fun c a Q=>y.same c a Q;have v:F5 J1_ q r:=g.Aw fun c a=>H c (g.lt c a) fun hm=>(hd c hm).1 a;have u:BN J1_ sl ps:=BN.Aw d fun c a=>H c (BN.lt d c a) fun hm=>(hd c hm).2 a;obtain ⟨s2,J2_,l,o,A⟩:=Rj k w m n (x+1) f J1_ s1 _ v u O (fun c a=>by
     rcases y.new c a with E | E
     ·exact hd c E
     ·exact ⟨fun hm=>by have:=g.lt c hm; omega,fun hm=>by have:=BN.lt d c hm; omega⟩) (by simp; omega) (by omega) (by omega);rw[e] at l;rw[Aeq,Abm (by simp[t])];simp only[show (CF r z != 0)=true from Adp.2 t,IS,T,U,V,AI,Ae,N,Aah,Rh,M,l];rw[Aae] at o;exact ⟨s2,J2_,rfl,o,((Mv.app _ _ _).trans y).trans A⟩
theorem aN (k:Nat) (n:600<=k) (h:F5 J q r):∃ s τ,Dp (k+2) (GP q) J=some (.slice s.1 s.2.1 s.2.2,J++τ)/\BN (J++τ) s (EJ r) /\ ∀ b ∈ hs s,J.length<=b:=by
 obtain ⟨s1,a,g,e,o⟩:=tf k (by omega) h;have d:=Cq.form e;have f1:s1.2.1=(NP r).length:=by rw[d]
 have f2:s1.2.2=(NP r).length:=by rw[d]
 have hle:=ru h.ok;obtain ⟨s2,J2_,c,f,l⟩:=Rj k (sl:=s1) (ps:=NP r) (fun z j=>uf h.ok j) (by omega) (NP r).length 0 (k+1) (J++a) (none,0,0) [] (h.app a) e (BN.nil _) (fun b hb=>by simp[hs] at hb) (by simp; omega) (by omega) (by omega);rw[Ac6,Aev,im h.ok] at f;have m:=(Mv.app [] J a).trans l;obtain ⟨τ,rfl⟩:=GA m.len fun b hb=>m.same b hb (by simp);rw[show ((0:Nat):Int)=0 from rfl] at c;refine ⟨s2,τ, ?_,f,fun b hb=>(m.new b hb).elim (fun i=>by simp at i) id⟩;rw[QA];simp only[g,AI,Ej,f1,f2,c,Aah,Rh]
theorem YQ (k:Nat) {s:Bv} {l:List Int} (h:Bh J s l) (g:l.length<=1000000) (v:Int):∀ (n x f:Nat) (fd:Bool),x+n=l.length->n<f ->
  Eu k f s.1 l.length l.length v fd (x:Int) J=some (.exit 2,[.bool (fd || decide (v ∈ l.drop x))],J)
 | n,x,0,fd,d,c=>by omega
 | 0,x,f+1,fd,d,c=>by
   rw[KZ];simp only[Aac (show ¬ (x:Int)<((l.length:Nat):Int) by omega),By];rw[Ac5 (by omega)];simp
 | n+1,x,f+1,fd,d,c=>by
   obtain ⟨b,e,i,_⟩:=h.ld (x:=x) (by omega);have j:=qSu x l.length (by omega);have m:=wSu x (by omega);have a:=fun fd=>YQ k h g v n (x+1) f fd (by omega) (by omega);rw[e] at a;rw[KR (l:=l) (x:=x) (by omega)];rw[KZ];simp only[Aad (show (x:Int)<((l.length:Nat):Int) by omega),IS,j,Aah,e,AI,IT,Acu,IN,i,m];cases fd with
   | true=>
     simp only[IS,AI,a,Agu]
   | false=>
     simp only[By,AI,a,Ag2];have:(l.getD x 0 == v || decide (v ∈ l.drop (x+1)))=decide (v ∈ l.getD x 0::l.drop (x+1)):=by
      rw[Ag9];simp only[Ae7,Ad7,Adu,Acv];exact ⟨fun h=>h.imp Eq.symm id,fun h=>h.imp Eq.symm id⟩
     rw[this]
theorem Tg (k:Nat) (I:1000<k) {sl:Bv} {ps:List (Int × Nat × Nat)} (C:∀ z ∈ ps,Oi r z.1 z.2.1 z.2.2/\CF r z≠0) (o:ps.length<=500):∀ (n x f:Nat) (J:Aa) (s:Bv) (out:List Int),F5 J q r->BN J sl ps->Bh J s out->(∀ b ∈ hs s,b ∉ q.l/\b ∉ hs sl)->out.length+n<=900->x+n=ps.length->n<f ->
  ∃ s' J',Et (k+1) f (GP q) sl.1 ps.length ps.length (s.1,s.2.1,s.2.2) (x:Int) J=some (.exit 0,[.slice s'.1 s'.2.1 s'.2.2],J')/\Bh J' s' (((ps.drop x).map (CF r)).foldl JJ out)/\Mv (hs s) (hs s') J J'
 | n,x,0,J,s,out,t,hp,h,hd,K,L,H=>by omega
 | 0,x,f+1,J,s,out,t,hp,h,hd,K,L,H=>by
   rw[KY];simp only[Aac (show ¬ (x:Int)<((ps.length:Nat):Int) by omega),By];rw[Ac5 (by omega)];exact ⟨s,J,rfl,by simpa using h,Mv.refl _ _⟩
 | n+1,x,f+1,J,s,out,t,hp,h,hd,K,L,H=>by
   have j:x<ps.length:=by omega
   have V:=qSu x ps.length (by omega);have N:=wSu x (by omega);obtain ⟨b,e,S,T,U,hb⟩:=BN.ld hp j;obtain ⟨W,X⟩:=C _ (Ac4 j);have i:ps.drop x=ps[x]::ps.drop (x+1):=Ac2 j;rw[i];generalize ps[x]=z at *;obtain ⟨B,P⟩:∃ B,Au.cells [qIi z.1,qIi (z.2.1:Int),qIi (z.2.2:Int)] Am true=B:=⟨_,rfl⟩;have G:=iJ k t W;rw[P] at G;have g:=t.app [B];have d:=BN.app hp [B];have h1:=h.app [B];have m:=h.form;have f1:s.2.1=out.length:=by rw[m]
   have f2:s.2.2=out.length:=by rw[m]
   have el:=YQ (k+1) h1 (by omega) (CF r z) out.length 0 (k+1) false (by omega) (by omega);rw[show ((0:Nat):Int)=0 from rfl,Ac6,Ag2] at el;rw[Aea,Ad4];rw[KY];simp only[Aad (show (x:Int)<((ps.length:Nat):Int) by omega),IS,V,Aah,e,AI,IT,IN,Adt,Nat.reduceAdd,S,T,U,G,Ah,f1,f2,el,oF];by_cases u:CF r z ∈ out
   ·have v:JJ out (CF r z)=out:=by unfold JJ; rw[Abm (.inr u)]
    rw[v];obtain ⟨s2,J2_,l,w,E⟩:=Tg k I C o n (x+1) f (J++[B]) s out g d h1 hd (by omega) (by omega) (by omega);rw[e,f1,f2] at l;simp only[Aad u,Abr,By,AI,Aah,Rh,N,l];exact ⟨s2,J2_,rfl,w,(Mv.app _ _ _).trans E⟩
   ·have v:JJ out (CF r z)=out++[CF r z]:=by unfold JJ; rw[Abo fun p=>p.elim X u]
    rw[v];obtain ⟨s1,J1_,F,O,D⟩:=h1.push (CF r z) Ak (by omega);rw[f1,f2] at F;have M:∀ c,c<(J++[B]).length->c ∉ hs s->J1_[c]?=(J++[B])[c]?:=fun c a Q=>D.same c a Q;have A:F5 J1_ q r:=g.Aw fun c a=>M c (g.lt c a) fun hm=>(hd c hm).1 a;have y:BN J1_ sl ps:=BN.Aw d fun c a=>M c (BN.lt d c a) fun hm=>(hd c hm).2 a;obtain ⟨s2,J2_,l,w,E⟩:=Tg k I C o n (x+1) f J1_ s1 _ A y O (fun c a=>by
     rcases D.new c a with p | p
     ·exact hd c p
     ·exact ⟨fun hm=>by have:=g.lt c hm; omega,fun hm=>by have:=BN.lt d c hm; omega⟩) (by simp; omega) (by omega) (by omega);rw[e] at l;simp only[Aac u,Ac7,IS,AI,Ae,F,Aah,Rh,N,l];exact ⟨s2,J2_,rfl,w,((Mv.app _ _ _).trans D).trans E⟩
theorem XF (k:Nat) (n:1000<k) (h:F5 J q r):∃ s τ,BI (k+3) (GP q) J=some (.slice s.1 s.2.1 s.2.2,J++τ)/\Bh (J++τ) s (Bf r) /\ ∀ b ∈ hs s,J.length<=b:=by
 obtain ⟨s1,a,i,e,o⟩:=aN k (by omega) h;have d:=Cq.form e;have f1:s1.2.1=(EJ r).length:=by rw[d]
 have f2:s1.2.2=(EJ r).length:=by rw[d]
 have hle:=PQ h.ok;obtain ⟨s2,J2_,c,f,l⟩:=Tg (k+1) (by omega) (sl:=s1) (ps:=EJ r) (fun z g=>⟨(RU h.ok g).1,by have:=(RU h.ok g).2.2; omega⟩) (by omega) (EJ r).length 0 (k+2) (J++a) (none,0,0) [] (h.app a) e (Bh.nil _) (fun b hb=>by simp[hs] at hb) (by simp; omega) (by omega) (by omega);rw[Ac6,Xi] at f;have m:=(Mv.app [] J a).trans l;obtain ⟨τ,rfl⟩:=GA m.len fun b hb=>m.same b hb (by simp);rw[show ((0:Nat):Int)=0 from rfl] at c;refine ⟨s2,τ, ?_,f,fun b hb=>(m.new b hb).elim (fun j=>by simp at j) id⟩;rw[R5];simp only[i,AI,Ej,f1,f2,c,Aah,Rh]
theorem cj (m:HM):Ue (nR m)=Ue m:=rfl
theorem pB (m:HM) (a:Int):∀ (rs:List Int) (x:Nat) (out:List Int),fT (nR m) a rs x out=fT m a rs x out
 | [],_,_=>rfl
 | r::rs,x,out=>by rw[fT,fT,cj]; exact pB m a rs _ _
theorem uG (m:HM):Ol (nR m)=Ol m:=by
 funext out a;unfold Ol;simp only[pB,cj];rfl
theorem ou (m:HM) (out:List Int):K9 (nR m) out=K9 m out:=by unfold K9; rw[uG]
theorem Zv (m:HM):∀ (n:Nat) (out:List Int),Lh (nR m) n out=Lh m n out
 | 0,_=>rfl
 | n+1,out=>by rw[Lh,Lh,ou,Zv m n]
theorem W0 (m:HM) (l:List Int):NS (nR m) l=NS m l:=by unfold NS; rw[Zv,cj]
def GC (m:HM) (r:D3):List Int:=NS m (Bf r)
theorem cu (h:r.ok):(Bf r).length<=144:=by
 have key:∀ (l out:List Int),(l.foldl JJ out).length<=out.length+l.length:=by
  intro l
  induction l with
  | nil=>intro out; simp
  | cons v l b=>
    intro out;rw[Ad4];have h1:=b (JJ out v);have a:(JJ out v).length<=out.length+1:=by
     unfold JJ; split
     ·omega
     ·simp
    simp only[Ada]; omega
 have h1:=key r.all [];have a:=h.sl;have c:=h.gl;have d:=h.qu;have h5:=h.m4;unfold Bf;unfold D3.all at h1 ⊢;simp only[Abe,Adn] at h1;omega
theorem vX (k:Nat) (H:10000<=k) {m:HM} {i:Cp} {c:Nat} (C:B7 J c 0=some (AU i)) (A:B7 J c 1=some (F6 p)) (d:c<J.length) (h:Al J i m) (y:MK m) (z:Ha J p r):
  ∃ s τ,CU (k+12) (some ⟨c,0,none⟩) J=some (.slice s.1 s.2.1 s.2.2,J++τ)/\Sg (J++τ) s (GC m r)/\Dx m (GC m r):=by
 obtain ⟨b,j,f,D,_⟩:=gZ (k+1) (by omega) h y;have f:En (k+11) (AU i) J=_:=f;obtain ⟨e,q,g,rq,_⟩:=Rk (k+4) (by omega) (z.app b);have g:BR (k+11) (F6 p) (J++b)=_:=g;obtain ⟨v,w,l,li,_⟩:=XF (k+8) (by omega) rq;have l:BI (k+11) (GP q) (J++b++e)=_:=l;have I:=cu z.ok;obtain ⟨E,G,t,ls⟩:=jB (k+4) (by omega) (RG.read ((D.app e).app w) y) li (by omega);have t:GG (k+11) (Bk j) (v.1,v.2.1,v.2.2) true (J++b++e++w)=_:=t;have F:B7 (J++b) c 1=some (F6 p):=by simp only[B7,CV] at A ⊢; rw[AT d]; exact A
 have u:∀ {ρ:Type} (x:Option ρ),HL (some ⟨c,0,none⟩) J (J++b) x=x:=fun x=>PJ (AT d) x;refine ⟨E,b++(e++(w++G)), ?_, ?_, ?_⟩
 ·rw[SD];simp only[IN,Abn,C,AI,f,HO,u,F,g,l,Ej,t];simp only[Aae]
 ·rw[<- Aae,<- Aae,<- Aae];rw[W0] at ls; exact ls
 ·unfold GC NS;have:∀ (n:Nat) (out:List Int),Dx m out->Dx m (Lh m n out):=by
   intro n
   induction n with
   | zero=>intro out h; exact h
   | succ n B=>
     intro out h;rw[Lh];split
     ·exact h.round
     ·exact B _ h.round
  exact this _ _ (Dx.fold (fun o a h=>h.inc a) _ [] (Dx.nil m))
end
section
local instance qKF:AH:=Ao
variable {J:Aa} {m:HM} {r:D3} {s:TC} {X:XI} {i:Cp} {p:PI} {q:QI}
def MW (nb:Nat) (s:TC):Nat:=2*(32*nb-WU nb s.ws)+s.list.length
def HF (nb:Nat) (s:TC):Nat:=if s.ph=0 then 0 else if s.ph=2 then s.left.length+1 else MW nb s+67
theorem wU (nb:Nat) (ws:List (BitVec 64)):WU nb ws<=32*nb:=oZ _ _
theorem oy (h:Qw m.bls.length s) (a:Int):MW m.bls.length (Cu m s a)+(Cu m s a).list.length<=MW m.bls.length s+s.list.length/\s.list.length<=(Cu m s a).list.length:=by
 unfold Cu;split
 ·rename_i c;obtain ⟨j,rfl,hs⟩:=AV c.1;have e:((2*j:Nat):Int).toNat/2=j:=by omega
  have b:=c.2;unfold C9 at b;rw[e] at b;have h1:=(UA h.wl hs.1 (v:=1) (by decide) (by decide)).2 b;have d:=wU m.bls.length (F9 2 s.ws j 1);unfold MW Eb;simp only[e,Abe,Ada,Adn];omega
 ·exact ⟨Abp _,Abp _⟩
theorem PW (b:m.bls.length<=64):∀ (l:List Int) (s:TC),Qw m.bls.length s->s.ph≠2->MW m.bls.length (AM m s l)+(AM m s l).list.length<=MW m.bls.length s+s.list.length/\s.list.length<=(AM m s l).list.length
 | [],s,h,hp=>⟨Abp _,Abp _⟩
 | a::l,s,h,hp=>by
   obtain ⟨c,d⟩:=oy h a;obtain ⟨e,f⟩:=PW b l (Cu m s a) (h.vu b hp a) (by rw[(Nl m s a).1]; exact hp);exact ⟨Adj e c,Adj d f⟩
theorem YE (k:m.bls.length<=64) (h:Qw m.bls.length s) (g:Qw (HE m r s).1.bls.length (HE m r s).2) (hp:s.ph≠0):HF (HE m r s).1.bls.length (HE m r s).2<HF m.bls.length s:=by
 have hu:HF m.bls.length s=if s.ph=2 then s.left.length+1 else MW m.bls.length s+67:=by unfold HF; rw[Abo hp]
 rw[hu];by_cases c:s.ph=2
 ·rw[Abm c];unfold HE;rw[Abm c];unfold Hn;cases d:s.left with
  | nil=>
    simp only;have:HF m.bls.length (Sp (32*m.bls.length) s)=0:=by unfold Sp HF; rw[Abm d]; simp
    rw[this]; simp
  | cons b l=>
    simp only;unfold Sp;by_cases i:l=[]
    ·simp only[i,Aah];unfold HF; simp
    ·simp only[Abo i];unfold HF;simp[c]
 ·rw[Abo c];unfold HE;rw[Abo c];by_cases d:s.list≠[]
  ·rw[Abm d];simp only;unfold ZQ;cases n:s.list with
   | nil=>exact absurd n d
   | cons a l=>
     simp only;have h1:Qw m.bls.length { s with list:=l }:=⟨h.wl,by have:=h.ls; rw[n] at this; simp at this ⊢; omega,fun v C=>h.lr v (by rw[n]; exact Abx _ C),h.lf,h.l0,fun e=>absurd e c⟩;have G:MW m.bls.length s=MW m.bls.length { s with list:=l }+1:=by unfold MW; rw[n]; simp; omega
     split
     ·rename_i A;obtain ⟨j,rfl,hs⟩:=AV A;have E:=PW k (DR m ((2*j:Nat):Int)) { s with list:=l } h1 c;have y:=Qw.Kj k (DR m ((2*j:Nat):Int)) { s with list:=l } h1 c;have p:=(Ff m (DR m ((2*j:Nat):Int)) { s with list:=l }).1;generalize AM m { s with list:=l } (DR m ((2*j:Nat):Int))=s2 at *;have e:((2*j:Nat):Int).toNat/2=j:=by omega
      have h5:=(UA y.wl hs.1 (v:=2) (by decide) (by decide)).1;have F:MW m.bls.length (Eb s2 ((2*j:Nat):Int) 2)<=MW m.bls.length s2:=by unfold MW Eb; simp only[e]; omega
      have z:(Eb s2 ((2*j:Nat):Int) 2).ph=s.ph:=p;unfold HF;rw[z,Abo hp,Abo c];omega
     ·unfold HF;rw[Abo (show ¬ ({ s with list:=l }:TC).ph=0 from hp),Abo (show ¬ ({ s with list:=l }:TC).ph=2 from c)];omega
  ·rw[Abo d];have d:s.list=[]:=Agd.1 d;unfold Zn;have q:∃ s1,(if s.look then AM m s (Bf r) else s)=s1/\Qw m.bls.length s1/\s1.ph=s.ph/\MW m.bls.length s1+s1.list.length<=MW m.bls.length s:=by
    refine ⟨_,rfl, ?_⟩;split
    ·have:=PW k (Bf r) s h c;rw[d] at this;exact ⟨Qw.Kj k _ _ h c,(Ff m _ s).1,by simpa using this.1⟩
    ·exact ⟨h,rfl,by rw[d]; simp⟩
   obtain ⟨s1,u,t1,w,H⟩:=q;simp only[u];have t:∃ s2,RD m s1=s2/\s2.ph=s.ph/\MW m.bls.length s2+s2.list.length<=MW m.bls.length s:=by
    refine ⟨_,rfl, ?_⟩;unfold RD;have o:s1.ph≠2:=by rw[w]; exact c
    have:=(PW k (Qk m s1 (Ei m)) s1 t1 o).1;exact ⟨((Ff m _ s1).1).trans w,by omega⟩
   obtain ⟨s2,x,D,I⟩:=t;unfold HE Zn at g;rw[Abo c,Abo (by rw[d]; simp)] at g;simp only[u,x] at g ⊢;by_cases f:s2.list≠[]
   ·rw[Abm f];simp only;have:0<s2.list.length:=Aer.2 f;unfold HF;rw[D,Abo hp,Abo c];omega
   ·rw[Abo f] at g ⊢;simp only at g ⊢;have B:(s2.left++WS (IV m s2 (Ei m))).length<=64:=g.lf;unfold HF;simp only[Aah,show ((2:Int)=0)=False from by simp,Abs];omega
theorem gS (h:Qw m.bls.length s) (a:m.bls.length<=64):HF m.bls.length s<=7000:=by
 have:=h.len;have:=h.lf;unfold HF MW;split
 ·omega
 ·split <;> omega
theorem WH (k:Nat) (j:5000<=k) (b:Nat):∀ (n x f:Nat) (J:Aa) (c:CI) (m:HM) (s:TC),Lc J i p c m r s->c.cb=b->HF m.bls.length s<=n->n<f->x+n<=30000 ->
  ∃ J' d,Fy (k+15) f (some ⟨b,0,none⟩) (x:Int) J=some (.exit 0,[qIi ((x+(EL r n (m,s)).1:Nat):Int)],J')/\Lc J' i p d (EL r n (m,s)).2.1 r (EL r n (m,s)).2.2/\Mv (i.l++c.l) (i.l++d.l) J J'/\d.cb=b/\(EL r n (m,s)).2.2.ph=0
 | n,x,0,J,c,m,s,T,a,hu,h,l=>by omega
 | 0,x,f+1,J,c,m,s,T,a,hu,h,l=>by
   have d4:Aj .i64 J b 4=some s.ph:=by rw[<- a]; exact T.co.dW
   have hp:s.ph=0:=by
    apply Adl;intro hp;unfold HF at hu;rw[Abo hp] at hu;split at hu <;> omega
   rw[Mc];simp only[AI,IN,Abn,d4,hp,Abt,By];exact ⟨J,c,rfl,T,Mv.refl _ _,a,hp⟩
 | n+1,x,f+1,J,c,m,s,T,a,hu,h,l=>by
   have B:=wSu x (by omega);have d4:Aj .i64 J b 4=some s.ph:=by rw[<- a]; exact T.co.dW
   rw[Mc,EL];simp only[AI,IN,Abn,d4];by_cases hp:s.ph=0
   ·rw[Abm hp,show (s.ph != 0)=false from by rw[hp]; rfl];simp only[By];exact ⟨J,c,rfl,T,Mv.refl _ _,a,hp⟩
   ·rw[Abo hp,show (s.ph != 0)=true from Adp.2 hp];obtain ⟨J1_,t,v,T1,y,o⟩:=jh k j T;have g:=YE (r:=r) T.mo.nt T.tok T1.tok hp;obtain ⟨J2_,u,w,T2,z,q,A⟩:=WH k j b n (x+1) f J1_ t (HE m r s).1 (HE m r s).2 T1 (o.trans a) (by omega) (by omega) (by omega);have e:Eh (k+15) (some ⟨b,0,none⟩) J=some (.tuple #[],J1_):=by rw[<- a]; exact v
    refine ⟨J2_,u, ?_,T2,y.trans z,q,A⟩;simp only[IS,e,AI,Gg,B,w];rw[show x+1+(EL r n (HE m r s)).1=x+((EL r n (HE m r s)).1+1) from by omega]
abbrev Aa0 (r:D3) (q:HM × TC):HM × TC:=(EL r 7000 q).2
theorem Pm.rM (h:Pm J X m r s):B7 J X.I.sb 1=some (F6 X.I.p):=by simp[B7,CV,h.sc,HK,HO]
theorem Pm.Ack (h:Pm J X m r s):B7 J X.I.sb 3=some (GP X.I.q):=by simp[B7,CV,h.sc,HK,HO]
theorem Pm.sbl (h:Pm J X m r s):X.I.sb<J.length:=Af h.sc
theorem Pm.xbl (h:Pm J X m r s):X.xb<J.length:=by
 obtain ⟨_,_,_,e⟩:=h.run;exact Af e
theorem Pm.vm (h:Pm J X m r s) (d lo bn:Value):Pm (J.set X.xb (.cells [qVi (IM X.I),qVi (Kt X),d,lo,bn] AN true)) X m r s/\Mv X.Ls.flatten X.Ls.flatten J (J.set X.xb (.cells [qVi (IM X.I),qVi (Kt X),d,lo,bn] AN true)):=by
 have j:=fun {a b:Nat} (l:a<X.Ls.length) (hb:b<X.Ls.length) (f:b≠a)=>h.fp.ne l hb f;have c:∀ y (i:y<X.Ls.length),y≠3 -> ∀ x ∈ X.Ls[y],(J.set X.xb (.cells [qVi (IM X.I),qVi (Kt X),d,lo,bn] AN true))[x]?=J[x]?:=fun y i n x g=>by
  refine Aaf fun e=>?_;exact j (a:=y) (b:=3) i (by simp[XI.Ls]) (Ac9 n) x g (by rw[<- e]; simp[XI.Ls])
 refine ⟨⟨⟨d,lo,bn,Abq h.xbl⟩,(c 4 (by simp[XI.Ls]) (by decide) X.kb (by simp[XI.Ls])).trans h.col,(c 5 (by simp[XI.Ls]) (by decide) X.I.sb (by simp[XI.Ls])).trans h.sc,h.t.Aw (by simp) (c 0 (by simp[XI.Ls]) (by decide)) (c 1 (by simp[XI.Ls]) (by decide)) (c 2 (by simp[XI.Ls]) (by decide)), ?_,⟨h.fp.dj,fun L k x g=>by rw[Ac8]; exact h.fp.lt L k x g⟩⟩,Mv.set _ _ (Adm.2 ⟨[X.xb],by simp[XI.Ls],by simp⟩)⟩;obtain ⟨rq,a,b⟩:=h.q;exact ⟨rq,a.Aw (c 6 (by simp[XI.Ls]) (by decide)),b⟩
theorem Pm.vi {J':Aa} {k:D3} (h:Pm J X m r s) (n:Ha J' X.I.p k) (hm:Mv X.I.p.l X.I.p.l J J') (i:k.mu=r.mu):Pm J' X m k s/\Mv X.Ls.flatten X.Ls.flatten J J':=by
 have f:∀ y (j:y<X.Ls.length),y≠1 -> ∀ x ∈ X.Ls[y],J'[x]?=J[x]?:=fun y j l x d=>hm.same x (h.fp.lt _ (Ac4 j) x d) (h.fp.ne (x:=y) (y:=1) j (by simp[XI.Ls]) (Ac9 l) x d);refine ⟨⟨?_,(f 4 (by simp[XI.Ls]) (by decide) X.kb (by simp[XI.Ls])).trans h.col,(f 5 (by simp[XI.Ls]) (by decide) X.I.sb (by simp[XI.Ls])).trans h.sc,⟨h.t.h.Aw (f 0 (by simp[XI.Ls]) (by decide)),h.t.mo,n,h.t.co.Aw (f 2 (by simp[XI.Ls]) (by decide)),⟨h.t.fp.dj,fun L g x d=>Acz (h.t.fp.lt L g x d) hm.len⟩,h.t.tok⟩, ?_,⟨h.fp.dj,fun L g x d=>Acz (h.fp.lt L g x d) hm.len⟩⟩,hm.wide (fun x d=>Adm.2 ⟨X.I.p.l,by simp[XI.Ls],d⟩) fun x d=>.inl d⟩
 ·obtain ⟨a,b,c,e⟩:=h.run;exact ⟨a,b,c,(f 3 (by simp[XI.Ls]) (by decide) X.xb (by simp[XI.Ls])).trans e⟩
 ·obtain ⟨rq,a,b⟩:=h.q;exact ⟨rq,a.Aw (f 6 (by simp[XI.Ls]) (by decide)),b.trans i.symm⟩
theorem wJ (k:Nat) (h:Pm J X m r s) {n:Nat} (t:n<1000000):∃ τ,CB (k+3) (IM X.I) (n:Int) J=some (.agg #[qIi (HG r.mu n).1,qIi ((HG r.mu n).2.1:Int),qIi ((HG r.mu n).2.2:Int)],J++τ):=by
 obtain ⟨rq,i,g⟩:=h.q;have e:=i.ok.m1;have f:=i.ok.m4;have h1:=h.app [Au.cells [qIi 0,qIi 0,qIi 0] Am true];have a:Ds (k+2) (GP X.I.q) (J++[Au.cells [qIi 0,qIi 0,qIi 0] Am true])=_:=Xs k (i.app _);rw[g] at a e f;have q:(if (0:Int)>(n:Int) then (0:Int) else (n:Int))=(n:Int):=Abo (by omega);have c:(n:Int).tmod 40=((n % 40:Nat):Int):=Kq n 40;have d:∀ x y z:Value,Nh (J++[Au.cells [x,y,z] Am true]) J.length 0 3=some [x,y,z]:=fun x y z=>by simp[Nh]
 rw[M9];simp only[Ae,q,c,show ((40:Int)=0)=False from by simp,Abs];unfold HG;by_cases j:n % 40<24
 ·rw[Abm j,Aad (show ((n % 40:Nat):Int)<24 by omega)];have o:((n % 40:Nat):Int).tmod (r.mu:Int)=((n % 40 % r.mu:Nat):Int):=Kq _ _;have p:((n % 40:Nat):Int).tdiv 4=((n % 40/4:Nat):Int):=Z2 _ 4;have b:Ar ((n % 40/4:Nat):Int)=((n % 40/4:Nat):Int):=Ai (by unfold AO; omega);refine ⟨[Au.cells [qIi 0,qIi ((n % 40 % r.mu:Nat):Int),qIi ((n % 40/4:Nat):Int)] Am true], ?_⟩;simp only[IS,AI,IN,h1.Ack,a,Ah];rw[Abo (by omega),Abo (by decide)];simp only[o,p,b,Ez,AI,d];rfl
 ·rw[Abo j,Aac (show ¬ ((n % 40:Nat):Int)<24 by omega)];by_cases l:n % 40<36
  ·rw[Abm l,Aad (show ((n % 40:Nat):Int)<36 by omega)];have b:Ar (((n % 40:Nat):Int)-24)=((n % 40-24:Nat):Int):=by rw[Ai (by unfold AO; omega)]; omega
   refine ⟨[Au.cells [qIi 1,qIi 0,qIi ((n % 40-24:Nat):Int)] Am true], ?_⟩;simp only[IS,By,b,Ez,AI,d];rfl
  ·rw[Abo l,Aac (show ¬ ((n % 40:Nat):Int)<36 by omega)];have b:Ar (((n % 40:Nat):Int)-36)=((n % 40-36:Nat):Int):=by rw[Ai (by unfold AO; omega)]; omega
   refine ⟨[Au.cells [qIi 2,qIi 0,qIi ((n % 40-36:Nat):Int)] Am true], ?_⟩;simp only[By,b,Ez,AI,d];rfl
def Bx (m:HM) (a:Int):Int:=if Ax m a then m.wds.getD a.toNat 0 else 0
theorem Zq (k:Nat) {sl:Bv} {l:List Int} (G:l.length<=10000) (hi:∀ v ∈ l,AO v):∀ (n x f:Nat) (J:Aa) (o:Bv) (out:List Int),Pm J X m r s->Bh J sl l->Bh J o out->(∀ b ∈ hs o,b ∉ X.Ls.flatten/\b ∉ hs sl)->out.length+n<=20000->x+n=l.length->n<f ->
  ∃ o' J',Fo (k+6) f (Lj X) sl.1 l.length l.length (o.1,o.2.1,o.2.2) (x:Int) J=some (.exit 0,[.slice o'.1 o'.2.1 o'.2.2],J')/\Bh J' o' (out++(l.drop x).map (Bx m))/\Mv (hs o) (hs o') J J'
 | n,x,0,J,o,out,h,d,p,hd,hb,B,A=>by omega
 | 0,x,f+1,J,o,out,h,d,p,hd,hb,B,A=>by
   rw[LU];simp only[Aac (show ¬ (x:Int)<((l.length:Nat):Int) by omega),By];rw[Ac5 (by omega)];exact ⟨o,J,rfl,by simpa using p,Mv.refl _ _⟩
 | n+1,x,f+1,J,o,out,h,d,p,hd,hb,B,A=>by
   obtain ⟨b,e,I,_⟩:=d.ld (x:=x) (by omega);have i:l.getD x 0 ∈ l:=Ot (by omega);have O:=qSu x l.length (by omega);have P:=wSu x (by omega);obtain ⟨y,E⟩:∃ y,Di (k+6) (AU X.I.i) (l.getD x 0) J=some (.tuple #[qIi (Bx m (l.getD x 0)),qIi y],J):=by
    have:=jr k h.t.h (l.getD x 0) (hi _ i);unfold Bx;cases g:Ax m (l.getD x 0) with
    | true=>rw[g] at this; exact ⟨0,by simpa using this⟩
    | false=>rw[g] at this; exact ⟨4,by simpa using this⟩
   obtain ⟨M,J1_,D,F,q⟩:=p.push (Bx m (l.getD x 0)) Ak (by omega);have C:∀ c,c<J.length->c ∉ hs o->J1_[c]?=J[c]?:=fun c a H=>q.same c a H;have h1:Pm J1_ X m r s:=h.Aw q.len fun L j c a=>C c (h.fp.lt L j c a) fun hm=>(hd c hm).1 (Adm.2 ⟨L,j,a⟩);have t:Bh J1_ sl l:=d.Aw fun c a=>C c (d.lt c a) fun hm=>(hd c hm).2 a;obtain ⟨N,J2_,w,z,K⟩:=Zq k G hi n (x+1) f J1_ M _ h1 t F (fun c a=>by
    rcases q.new c a with g | g
    ·exact hd c g
    ·refine ⟨fun hm=>?_,fun hm=>by have:=d.lt c hm; omega⟩;obtain ⟨L,j,u⟩:=Adm.1 hm;have:=h.fp.lt L j c u; omega) (by simp; omega) (by omega) (by omega);rw[e] at w;rw[KR (l:=l) (x:=x) (by omega),Aea];rw[LU];simp only[Aad (show (x:Int)<((l.length:Nat):Int) by omega),IS,AI,IN,Abn,h.HI,h.dX,O,Aah,e,IT,Acu,I,E,B9,Ae,D,P,w];rw[Aae] at z;exact ⟨N,J2_,rfl,z,q.trans K⟩
theorem kG (k:Nat) (w:10000<k) (h:Pm J X m r s) {sl:Bv} {l:List Int} (d:Bh J sl l) (t:l.length<=10000) (hi:∀ v ∈ l,AO v):
  ∃ o τ,DI (k+7) (Lj X) (sl.1,sl.2.1,sl.2.2) J=some (.slice o.1 o.2.1 o.2.2,J++τ)/\Bh (J++τ) o (l.map (Bx m)) /\ ∀ b ∈ hs o,J.length<=b:=by
 have p:=d.form;have f1:sl.2.1=l.length:=by rw[p]
 have f2:sl.2.2=l.length:=by rw[p]
 obtain ⟨B0,c⟩:∃ B0,Au.cells [] Ak true=B0:=⟨_,rfl⟩;have u:Bh (J++[B0]) (some ⟨J.length,0,some 0⟩,0,0) []:=by rw[<- c]; exact (Sg.nil J true []).li
 have a:∀ b ∈ hs ((some ⟨J.length,0,some 0⟩,0,0):Bv),b=J.length:=fun b hb=>by simpa [hs] using hb
 obtain ⟨o,J',j,n,i⟩:=Zq k t hi l.length 0 (k+6) (J++[B0]) (some ⟨J.length,0,some 0⟩,0,0) [] (h.app _) (d.app _) u (fun b hb=>by
  rw[a b hb];refine ⟨fun hm=>?_,fun hm=>by have:=d.lt _ hm; omega⟩;obtain ⟨L,q,e⟩:=Adm.1 hm;have:=h.fp.lt L q _ e; omega) (by simp; omega) (by omega) (by omega);have g:J.length<=J'.length:=by have:=i.len; rw[Abe] at this; omega
 obtain ⟨τ,rfl⟩:=GA (J:=J) (J':=J') g fun b hb=>by
  rw[i.same b (by rw[Abe]; omega) (fun hm=>by have:=a b hm; omega),AT hb]
 rw[show ((0:Nat):Int)=0 from rfl] at j;rw[Aev,Ac6] at n;refine ⟨o,τ, ?_,n,fun b hb=>?_⟩
 ·rw[Tz];simp only[Ae,c,f1,f2,j,AI,Aah,Rh]
 ·rcases i.new b hb with f | f
  ·rw[a b f]; exact Abp _
  ·rw[Abe] at f; omega
theorem uL (b:m.bls.length<=64) {l:List Int} (h:Dx m l):∀ v ∈ l,AO v/\0<=v/\v<4096:=by
 intro v a;obtain ⟨j,rfl,hs⟩:=AV (h.ob v a);have:=hs.1;unfold AO; omega
theorem cm (k:Nat) (a:10000<=k) (h:Pm J X m r s):∃ o τ,CU (k+12) (IM X.I) J=some (.slice o.1 o.2.1 o.2.2,J++τ)/\Sg (J++τ) o (GC m r)/\Dx m (GC m r):=
 vX k a h.dX h.rM h.sbl h.t.h h.t.mo h.t.rt
end
section
local instance qKH:AH:=Ao
variable {m m':HM}
structure Gc (m m':HM) (a:Int):Prop where
 has:Ax m' a=Ax m a
 shp:Ag m' a=Ag m a
 idn:Bx m' a=Bx m a
 ref:∀ x d,K6 m' a x d=K6 m a x d
theorem Gc.refl (m:HM) (a:Int):Gc m m a:=⟨rfl,rfl,rfl,fun _ _=>rfl⟩
theorem Gc.trans {b c e:HM} {a:Int} (h:Gc b c a) (g:Gc c e a):Gc b e a:=
 ⟨g.has.trans h.has,g.shp.trans h.shp,g.idn.trans h.idn,fun x d=>(g.ref x d).trans (h.ref x d)⟩
theorem Gc.AA {a:Int} (h:Gc m m' a) (x:Int):Go.Proofs.YtjbledomkmdkmaaGreat.AA m' a x=Go.Proofs.YtjbledomkmdkmaaGreat.AA m a x:=Ad1 Prod.fst (h.ref x false)
theorem Gc.ue {a:Int} (h:Gc m m' a) (x:Int):Mo m' a x true=Mo m a x true:=Ad1 Prod.fst (h.ref x true)
theorem HD (j:Nat):((2*j:Nat):Int).toNat/2=j:=by omega
theorem pZ (b:Inv m) {j:Nat} (hs:Start m j) (a:Start m' j) (hw:∀ t,t<use m j->m'.wds.getD (2*j+t) 0=m.wds.getD (2*j+t) 0):Gc m m' ((2*j:Nat):Int):=by
 obtain ⟨o,p,q⟩:=b.use hs;have h1:=hw 1 (by omega);have h0:=hw 0 (by omega);rw[Abn] at h0;have f:Av m' j=Av m j:=by unfold Av; rw[h1]
 have e:Bp m' j=Bp m j:=by unfold Bp; rw[h1]
 have h:CA m' j=CA m j:=by unfold CA; rw[h1]
 obtain ⟨r,s,u,v,y,z⟩:=b.size hs;refine ⟨by rw[EE hs,EE a],by rw[F4 hs,F4 a,f,e,h], ?_,fun x d=>?_⟩
 ·unfold Bx;rw[EE hs,EE a,Abm rfl,Abm rfl,IT,h0]
 ·have g:BB m' ((2*j:Nat):Int) x d=BB m ((2*j:Nat):Int) x d:=by
   unfold BB;rw[EE hs,EE a];simp only[Aah,HD,f,e]
  unfold K6;rw[g];split
  ·rename_i i;obtain ⟨j',t,k,n,c,l,_⟩:=OV (w:=(BB m ((2*j:Nat):Int) x d).1) b (Ahj rfl i);have:j'=j:=by omega
   subst this;rw[c,IT,show 2*j'+2+t=2*j'+(2+t) from by omega,hw _ l]
  ·rfl
theorem gI {a:Int} (h:Ax m a=false) (b:Ax m' a=false):Gc m m' a:=by
 refine ⟨by rw[h,b],by unfold Ag; rw[h,b]; rfl,by unfold Bx; rw[h,b]; rfl,fun x d=>?_⟩;unfold K6 BB;rw[h,b];rfl
theorem lL (hw:m'.wds=m.wds) (hs:m'.stw=m.stw) (g:m'.bls.length=m.bls.length) (a:Int):Gc m m' a:=by
 have b:=cf g hs a;have e:∀ j,Av m' j=Av m j:=fun j=>by unfold Av; rw[hw]
 have c:∀ j,Bp m' j=Bp m j:=fun j=>by unfold Bp; rw[hw]
 have f:∀ j,CA m' j=CA m j:=fun j=>by unfold CA; rw[hw]
 refine ⟨b,by unfold Ag; rw[b,e,c,f],by unfold Bx; rw[b,hw],fun x d=>?_⟩;unfold K6 BB;rw[b,hw];simp only[e,c]
theorem rK (f:Inv m) (i:Sh m) {a b:Int} (h:b≠a):Gc m (Hs m a).2 b:=by
 unfold Hs;cases k:Ax m a with
 | false=>exact Gc.refl _ _
 | true=>
   obtain ⟨j,rfl,hs⟩:=AV k;rw[Abm rfl,HD];show Gc m (HN m j) b;cases hb:Ax m b with
   | true=>
     obtain ⟨y,rfl,d⟩:=AV hb;have c:y≠j:=fun e=>h (by rw[e]);refine pZ f d ((JG i.sl hs.1).2 ⟨c,d⟩) fun t l=>?_;have:=f.use d;exact Ng f hs d c (by omega) (by omega)
   | false=>
     refine gI hb ?_;cases g:Ax (HN m j) b with
     | false=>rfl
     | true=>
       obtain ⟨y,rfl,d⟩:=AV g;have:=((JG i.sl hs.1).1 d).2;rw[EE this] at hb; cases hb
theorem rI (d:Sh m) (a:Int):Ax (Hs m a).2 a=false:=by
 unfold Hs;cases c:Ax m a with
 | false=>exact c
 | true=>
   obtain ⟨j,rfl,hs⟩:=AV c;rw[Abm rfl,HD];show Ax (HN m j) ((2*j:Nat):Int)=false;cases b:Ax (HN m j) ((2*j:Nat):Int) with
   | false=>rfl
   | true=>
     obtain ⟨y,e,f⟩:=AV b;have:=(JG d.sl hs.1).1 f;exact absurd (show y=j by omega) this.1
theorem Xz (m:HM) (b:Int) (e:(CY m b).2.bls.length=m.bls.length) (a:Int):Gc m (CY m b).2 a:=by
 obtain ⟨c,d,_⟩:=Qr m b;exact lL c d e a
theorem mW (m:HM) (b c x y d e a:Int):Gc m (BA m b c x y d e).2 a:=by
 obtain ⟨f,g,h,_⟩:=OA m b c x y d e;exact lL f g h a
structure Ab1 (m m':HM) (a x v:Int):Prop where
 has:∀ b,Ax m' b=Ax m b
 shp:∀ b,Ag m' b=Ag m b
 idn:∀ b,Bx m' b=Bx m b
 ref:∀ b y,AA m' b y=if b=a/\y=x then v else AA m b y
 ue:∀ b y,Mo m' b y true=Mo m b y true
 bls:m'.bls=m.bls
 brt:m'.births=m.births
theorem W1 {a x:Int} {d:Bool} (h:¬ (0<=x/\x<if d then (Ag m a).2.1 else (Ag m a).1)):(K6 m a x d).1=0:=by
 unfold K6;rw[Abo];intro b;unfold BB at b;unfold Ag at h;split at b
 ·rename_i c;simp only[c,Aah] at h;cases d with
  | false=>
    simp only[Abz,Abs] at b h;rw[Abo h] at b; simp at b
  | true=>
    simp only[Aah] at b h;rw[Abo h] at b; simp at b
 ·simp at b
theorem gU (f:Inv m) {j t:Nat} (hs:Start m j) (C:2+t<use m j) (v:Int):(∀ b,Ax (GW m (2*j+2+t) v) b=Ax m b)/\(∀ b,Ag (GW m (2*j+2+t) v) b=Ag m b)/\(∀ b,Bx (GW m (2*j+2+t) v) b=Bx m b) /\ ∀ b y d,(K6 (GW m (2*j+2+t) v) b y d)=if b=((2*j:Nat):Int)/\(BB m b y d)=(((2*j+2+t:Nat):Int),0) then (v,0) else K6 m b y d:=by
 have u:=f.use hs;have o:=f.fit j hs;have key:=XC f hs (t:=t) (by omega) v;have g:∀ b,Ax (GW m (2*j+2+t) v) b=Ax m b:=fun b=>rfl;have n:∀ y,Start m y->Av (GW m (2*j+2+t) v) y=Av m y/\Bp (GW m (2*j+2+t) v) y=Bp m y/\CA (GW m (2*j+2+t) v) y=CA m y:=fun y A=>by
  have:=key y A 1 (by decide);exact ⟨by unfold Av; rw[this],by unfold Bp; rw[this],by unfold CA; rw[this]⟩
 have r:∀ b y d,BB (GW m (2*j+2+t) v) b y d=BB m b y d:=fun b y d=>by
  unfold BB;rw[g];cases hb:Ax m b with
  | false=>rfl
  | true=>
    obtain ⟨z,rfl,c⟩:=AV hb;obtain ⟨h,i,_⟩:=n z c;simp only[Aah,HD,h,i]
 refine ⟨g,fun b=>?_,fun b=>?_,fun b y d=>?_⟩
 ·unfold Ag;rw[g];cases hb:Ax m b with
  | false=>rfl
  | true=>
    obtain ⟨z,rfl,c⟩:=AV hb;obtain ⟨h,i,p⟩:=n z c;simp only[Aah,HD,h,i,p]
 ·unfold Bx;rw[g];cases hb:Ax m b with
  | false=>rfl
  | true=>
    obtain ⟨z,rfl,c⟩:=AV hb;have:=key z c 0 (by decide);rw[Abn] at this;rw[Abm rfl,Abm rfl,IT]; exact this
 ·unfold K6;rw[r];by_cases e:(BB m b y d).2=0
  ·rw[Abm e,Abm e];obtain ⟨z,q,c,rfl,hw,B,_⟩:=OV (w:=(BB m b y d).1) f (Ahj rfl e);have x:=f.use c;rw[hw,IT];show ((m.wds.set _ _).getD _ 0,(0:Int))=_;rw[Cn];by_cases he:2*j+2+t=2*z+2+q
   ·have l:z=j:=WO f c hs (a:=2*j+2+t) (by omega) (by omega) (by omega) (by omega);subst l;rw[Abm ⟨he,by omega⟩,Abm ⟨rfl,Ahj (by rw[hw,he]) e⟩]
   ·rw[Abo (fun s=>he s.1),Abo];rintro ⟨h1,k⟩;have:=Ad1 Prod.fst k;rw[hw] at this;simp only at this;omega
  ·rw[Abo e,Abo e,Abo];rintro ⟨h1,k⟩;exact e (by rw[k])
theorem dv {a x:Int} (h:x<(Ag m a).1) (h0:0<=x):Ax m a=true:=by
 cases b:Ax m a with
 | true=>rfl
 | false=>unfold Ag at h; rw[b] at h; simp at h; omega
theorem Uy (f:Inv m) {a x v:Int} (h0:0<=x) (g:x<(Ag m a).1) (e:v=0\/Ax m v=true):(BP m a x v).1=0/\Ab1 m (BP m a x v).2 a x v:=by
 have l:=dv g h0;obtain ⟨j,rfl,hs⟩:=AV l;rw[F4 hs] at g;simp only at g;obtain ⟨n,rfl⟩:∃ n:Nat,x=(n:Int):=⟨x.toNat,by omega⟩;have k:=RE f hs g;have p:=f.use hs;obtain ⟨u,w,z,A,B,C⟩:=f.size hs;have i:BP m ((2*j:Nat):Int) (n:Int) v=(0,GW m (2*j+2+n) v):=by
  unfold BP;rw[k];simp only[Aah,IT];rw[Abo];rintro ⟨h1,c⟩;rcases e with e | e
  ·exact h1 e
  ·rw[e] at c; cases c
 rw[i];obtain ⟨q,r,s,o⟩:=gU f hs (t:=n) (by omega) v;have inj:∀ y d,BB m ((2*j:Nat):Int) y d=(((2*j+2+n:Nat):Int),0)->d=false/\y=(n:Int):=by
  intro y d hd;unfold BB at hd;rw[l] at hd;simp only[Aah,HD] at hd;cases d with
  | false=>
    simp only[Abz,Abs] at hd;split at hd
    ·have:=Ad1 Prod.fst hd;simp only at this;exact ⟨rfl,by omega⟩
    ·have:=Ad1 Prod.snd hd; simp at this
  | true=>
    simp only[Aah] at hd;split at hd
    ·have:=Ad1 Prod.fst hd;simp only at this;omega
    ·have:=Ad1 Prod.snd hd; simp at this
 refine ⟨rfl,q,r,s,fun b y=>?_,fun b y=>?_,rfl,rfl⟩
 ·unfold AA;rw[o];by_cases h:b=((2*j:Nat):Int)/\y=(n:Int)
  ·obtain ⟨rfl,rfl⟩:=h;rw[Abm ⟨rfl,k⟩,Abm ⟨rfl,rfl⟩]
  ·rw[Abo h,Abo];rintro ⟨rfl,c⟩;exact h ⟨rfl,(inj _ _ c).2⟩
 ·unfold Mo;rw[o,Abo];rintro ⟨rfl,c⟩;exact absurd (inj _ _ c).1 (by decide)
structure Aap (m m':HM):Prop where
 has:∀ b,Ax m' b=Ax m b
 shp:∀ b,Ag m' b=Ag m b
 idn:∀ b,Bx m' b=Bx m b
 ref:∀ b y,AA m' b y=AA m b y
 bls:m'.bls=m.bls
 brt:m'.births=m.births
theorem X1 (e:Inv m) {a x:Int} (v:Int) (h0:0<=x) (d:x<(Ag m a).2.1):(GQ m a x v).1=0/\Aap m (GQ m a x v).2:=by
 have f:Ax m a=true:=by
  cases f:Ax m a with
  | true=>rfl
  | false=>unfold Ag at d; rw[f] at d; simp at d; omega
 obtain ⟨j,rfl,hs⟩:=AV f;rw[F4 hs] at d;simp only at d;obtain ⟨n,rfl⟩:∃ n:Nat,x=(n:Int):=⟨x.toNat,by omega⟩;have h:=Zi e hs d;have i:=e.use hs;obtain ⟨q,r,s,u,w,z⟩:=e.size hs;have g:GQ m ((2*j:Nat):Int) (n:Int) v=(0,GW m (2*j+2+((Av m j).toNat+n)) v):=by
  unfold GQ;rw[h];simp only[Aah,IT];rw[show 2*j+2+(Av m j).toNat+n=2*j+2+((Av m j).toNat+n) from by omega]
 rw[g];obtain ⟨k,l,o,p⟩:=gU e hs (t:=(Av m j).toNat+n) (by omega) v;refine ⟨rfl,k,l,o,fun b y=>?_,rfl,rfl⟩;unfold AA;rw[p,Abo];rintro ⟨rfl,c⟩;unfold BB at c;rw[f] at c;simp only[Aah,HD,Abz,Abs] at c;split at c
 ·have:=Ad1 Prod.fst c;simp only at this;omega
 ·have:=Ad1 Prod.snd c; simp at this
structure mH (m m':HM) (a:Int) (sh:Int × Int × Int):Prop where
 IX:Ax m a=false
 has:Ax m' a=true
 same:∀ b,b≠a->Gc m m' b
 shp:Ag m' a=sh
 idn:Bx m' a=m.births+1
 ref:∀ x,AA m' a x=0
 brt:m'.births=m.births+1
theorem nZ (q:Inv m) (u:Inv2 m) (s:Sh m) {a r d c:Int} (h:(CW m a r d c).2.1=0):mH m (CW m a r d c).2.2 a (r,d,c)/\valid r d c=true:=by
 unfold CW at h ⊢;cases k:valid r d c with
 | false=>rw[k] at h; simp at h
 | true=>
   rw[k] at h;simp only[Aah] at h ⊢;by_cases v:Me m a (Pk (num r d c)) (-1)=0;rotate_left
   ·rw[Abo v] at h; exact absurd h v
   rw[Abm v];have E:2<=Pk (num r d c):=by
    have p:=k;rw[Ko k];simp[valid] at p;omega
   obtain ⟨j,rfl,z,H,A⟩:=q.fits s.wl (YD _) E v;rw[HD];have g:∀ o,Start m o->2*o+sz m o<=2*j\/2*j+Pk (num r d c)<=2*o:=fun o J=>A o J (by omega);obtain ⟨L,M,N,_⟩:=Ke k;have K:=Ko k;have p:=k;simp[valid] at p;have C:¬ Start m j:=fun hs=>by
    have:=g j hs;have:=q.size hs;omega
   have l:Ax m ((2*j:Nat):Int)=false:=by
    cases hb:Ax m ((2*j:Nat):Int) with
    | false=>rfl
    | true=>
      obtain ⟨y,e,f⟩:=AV hb;exact absurd (show j=y by omega ▸ f) (by
       intro O; exact C (by rw[show j=y from by omega]; exact f))
   have i:Start (CR m j (num r d c)) j:=(J0 s.sl z).2 (.inl rfl);have wd:=fun x=>I9 s z (num r d c) x;have D:Av (CR m j (num r d c)) j=r:=by unfold Av; rw[wd,Abm rfl,L]
   have hd:Bp (CR m j (num r d c)) j=d:=by unfold Bp; rw[wd,Abm rfl,M]
   have I:CA (CR m j (num r d c)) j=c:=by unfold CA; rw[wd,Abm rfl,N]
   have hIn:Inv (CR m j (num r d c)):=by
    have:=(Up q u s ((2*j:Nat):Int) r d c).inv;unfold CW at this;rw[k,Abm rfl,Abm v,HD] at this;exact this
   refine ⟨⟨l,EE i,fun b hb=>?_,by rw[F4 i,D,hd,I], ?_,fun x=>?_,rfl⟩,trivial⟩
   ·cases w:Ax m b with
    | true=>
      obtain ⟨y,rfl,f⟩:=AV w;refine pZ q f ((J0 s.sl z).2 (.inr f)) fun t P=>?_;have:=g y f;have:=q.use f;rw[wd,Abo (by omega),Abo (by omega)]
    | false=>
      refine gI w ?_;cases B:Ax (CR m j (num r d c)) b with
      | false=>rfl
      | true=>
        obtain ⟨y,rfl,f⟩:=AV B;rcases (J0 s.sl z).1 f with rfl | F
        ·exact absurd rfl hb
        ·rw[EE F] at w; cases w
   ·unfold Bx;rw[EE i,Abm rfl,IT,wd,Abo (by omega),Abm rfl]
   ·by_cases G:0<=x/\x<r
    ·obtain ⟨n,rfl⟩:∃ n:Nat,x=(n:Int):=⟨x.toNat,by omega⟩;rw[iN hIn i (by rw[D]; exact G.2),wd,Abo (by omega),Abo (by omega)];refine u.zero _ fun y f Q S=>?_;have:=g y f;have:=q.use f;omega
    ·refine W1 ?_;rw[F4 i,D];simpa using G
def Edge (m:HM) (a b:Int):Prop:=∃ x:Nat,(x:Int)<(Ag m a).1/\Ee (Ag m a).2.2 (x:Int)=false/\AA m a (x:Int)=b
inductive Kp (m:HM) (R:Int->Prop):Int->Prop
 | root {a:Int}:R a->Ax m a=true->Kp m R a
 | Lf {a b:Int}:Kp m R a->Edge m a b->Ax m b=true->Kp m R b
 | eph {a:Int}:Kp m R a->(Ag m a).2.2=2->Kp m R (AA m a 0)->Ax m (AA m a 1)=true->Kp m R (AA m a 1)
variable {R:Int->Prop}
theorem Kp.has {a:Int} (h:Kp m R a):Ax m a=true:=by cases h <;> assumption
structure xZ (m:HM) (C:Int->Prop):Prop where
 Lf:∀ a b,C a->Edge m a b->Ax m b=true->C b
 eph:∀ a,C a->(Ag m a).2.2=2->C (AA m a 0)->Ax m (AA m a 1)=true->C (AA m a 1)
theorem Kp.min {C:Int->Prop} (hC:xZ m C) (c:∀ a,R a->Ax m a=true->C a) {a:Int} (h:Kp m R a):C a:=by
 induction h with
 | root h1 b=>exact c _ h1 b
 | Lf _ h1 b d=>exact hC.Lf _ _ d h1 b
 | eph _ h1 _ b i1 i2=>exact hC.eph _ i1 h1 i2 b
theorem Kp.wT (m:HM) (R:Int->Prop):xZ m (Kp m R):=⟨fun _ _ h e hb=>.Lf h e hb,fun _ h e a hb=>.eph h e a hb⟩
theorem iy {e b:Int}:∀ {rs:List Int} {x:Nat} {out:List Int},b ∈ fT m e rs x out↔b ∈ out \/ ∃ y,y<rs.length/\Ee e ((x+y:Nat):Int)=false/\rs.getD y 0=b/\Ax m b=true
 | [],x,out=>by simp[fT]
 | r::rs,x,out=>by
   rw[fT,iy];constructor
   ·rintro (h | ⟨y,h1,a,c,d⟩)
    ·split at h
     ·exact .inl h
     ·rename_i hs;rcases QQ.1 h with h | ⟨rfl,h⟩
      ·exact .inl h
      ·exact .inr ⟨0,by simp,by simpa using hs,rfl,h⟩
    ·exact .inr ⟨y+1,by simpa using h1,by rw[show x+(y+1)=x+1+y from by omega]; exact a,c,d⟩
   ·rintro (h | ⟨y,h1,a,c,d⟩)
    ·left;split
     ·exact h
     ·exact QQ.2 (.inl h)
    ·cases y with
     | zero=>
       rw[Abn] at a;left;rw[Abo (by rw[a]; simp)];exact QQ.2 (.inr ⟨c.symm,by rw[show r=b from c]; exact d⟩)
     | succ y=>exact .inr ⟨y,by simpa using h1,by rw[show x+1+y=x+(y+1) from by omega]; exact a,c,d⟩
theorem KO (a:Inv m) {j:Nat} (hs:Start m j) {y:Nat} (c:y<(AQ m j).refs.length):(AQ m j).refs.getD y 0=AA m ((2*j:Nat):Int) (y:Int)/\(y:Int)<(Ag m ((2*j:Nat):Int)).1:=by
 have b:(AQ m j).refs.length=(Av m j).toNat:=DC _ _ _;have h1:(y:Int)<Av m j:=by omega
 refine ⟨?_,by rw[F4 hs]; exact h1⟩;rw[iN a hs h1];show (KD m (2*j+2) (Av m j).toNat).getD y 0=_;unfold KD;rw[Abi,Ad5,List.getElem?_range' (by omega)];simp
theorem ND (e:Inv m) {out:List Int} {a b:Int} (t:Ax m a=true):b ∈ Ol m out a↔b ∈ out\/(Edge m a b/\Ax m b=true)\/((Ag m a).2.2=2/\(AA m a 0 ∈ out\/(Edge m a (AA m a 0)/\Ax m (AA m a 0)=true))/\b=AA m a 1/\Ax m b=true):=by
 obtain ⟨j,rfl,hs⟩:=AV t;have u:(AQ m j).refs.length=(Av m j).toNat:=DC _ _ _;obtain ⟨_,w,_⟩:=MX e hs;have c:(AQ m j).k=(Ag m ((2*j:Nat):Int)).2.2:=by rw[F4 hs]; rfl
 have i:∀ b,b ∈ fT m (AQ m j).k (AQ m j).refs 0 out↔b ∈ out\/(Edge m ((2*j:Nat):Int) b/\Ax m b=true):=by
  intro b;rw[iy];refine or_congr Iff.rfl ⟨?_, ?_⟩
  ·rintro ⟨y,h1,g,o,h5⟩;obtain ⟨d,s⟩:=KO e hs h1;rw[IN,c] at g;exact ⟨⟨y,s,g,by rw[<- d]; exact o⟩,h5⟩
  ·rintro ⟨⟨y,h1,g,o⟩,h5⟩;have f:=h1;rw[F4 hs] at f;simp only at f;have r:y<(AQ m j).refs.length:=by omega
   obtain ⟨d,_⟩:=KO e hs r;exact ⟨y,r,by rw[IN,c]; exact g,by rw[d]; exact o,h5⟩
 have v:(Ag m ((2*j:Nat):Int)).2.2=2->2<=(AQ m j).refs.length:=by
  intro h;rw[F4 hs] at h;rw[u];have:=yq e hs h;omega
 unfold Ol;simp only[HD];rw[c];by_cases k:(Ag m ((2*j:Nat):Int)).2.2=2
 ·have g:=v k;obtain ⟨q,_⟩:=KO e hs (y:=0) (by omega);obtain ⟨d,_⟩:=KO e hs (y:=1) (by omega);rw[show ((0:Nat):Int)=0 from rfl] at q;rw[show ((1:Nat):Int)=1 from rfl] at d;rw[q,d,<- c];by_cases l:AA m ((2*j:Nat):Int) 0 ∈ fT m (AQ m j).k (AQ m j).refs 0 out
  ·rw[Abm ⟨c.trans k,l⟩,QQ,i];have p:=(i _).1 l;constructor
   ·rintro ((h | h) | ⟨h,n⟩)
    ·exact .inl h
    ·exact .inr (.inl h)
    ·exact .inr (.inr ⟨c.trans k,p,h,by rw[h]; exact n⟩)
   ·rintro (h | h | ⟨_,_,h,n⟩)
    ·exact .inl (.inl h)
    ·exact .inl (.inr h)
    ·exact .inr ⟨h,by rw[<- h]; exact n⟩
  ·rw[Abo (fun h=>l h.2),i];constructor
   ·rintro (h | h)
    ·exact .inl h
    ·exact .inr (.inl h)
   ·rintro (h | h | ⟨_,h,_⟩)
    ·exact .inl h
    ·exact .inr h
    ·exact absurd ((i _).2 h) l
 ·rw[Abo (fun h=>k h.1),<- c,i];constructor
  ·rintro (h | h)
   ·exact .inl h
   ·exact .inr (.inl h)
  ·rintro (h | h | ⟨h,_⟩)
   ·exact .inl h
   ·exact .inr h
   ·exact absurd (c ▸ h) k
theorem RH (m:HM):∀ (l out:List Int) (b:Int),b ∈ out->b ∈ l.foldl (Ol m) out
 | [],_,_,h=>h
 | a::l,out,b,h=>RH m l _ b (by
   unfold Ol;simp only;have:b ∈ fT m (AQ m (a.toNat/2)).k (AQ m (a.toNat/2)).refs 0 out:=iy.2 (.inl h);split
   ·exact QQ.2 (.inl this)
   ·exact this)
theorem sG {out:List Int} {b:Int} (h:b ∈ out):b ∈ K9 m out:=RH m out out b h
theorem Zj (e:Inv m):∀ (l out:List Int) (a b:Int),a ∈ l->(∀ a ∈ l,Ax m a=true)->b ∈ Ol m out a->b ∈ l.foldl (Ol m) out
 | c::l,out,a,b,f,i,hb=>by
   rcases Acv.1 f with rfl | f
   ·exact RH m l _ b hb
   ·refine Zj e l _ a b f (fun x j=>i x (Abx _ j)) ?_;have d:∀ x,x ∈ out->x ∈ Ol m out c:=fun x j=>(ND e (i c Ac0)).2 (.inl j);have g:=i a (Abx _ f);rcases (ND e g).1 hb with h | h | ⟨h1,k,n⟩
    ·exact (ND e g).2 (.inl (d _ h))
    ·exact (ND e g).2 (.inr (.inl h))
    ·exact (ND e g).2 (.inr (.inr ⟨h1,k.imp (d _) id,n⟩))
theorem Xe (g:Inv m) {C:Int->Prop} (hC:xZ m C):∀ (l out:List Int),(∀ a ∈ l,C a/\Ax m a=true)->(∀ a ∈ out,C a) -> ∀ b ∈ l.foldl (Ol m) out,C b
 | [],out,_,h,b,hb=>h b hb
 | a::l,out,i,h,b,hb=>by
   obtain ⟨d,j⟩:=i a Ac0;refine Xe g hC l _ (fun x e=>i x (Abx _ e)) (fun x e=>?_) b hb;rcases (ND g j).1 e with k | ⟨h1,c⟩ | ⟨h1,c,n,f⟩
   ·exact h x k
   ·exact hC.Lf _ _ d h1 c
   ·rw[n] at f ⊢;exact hC.eph _ d h1 (c.elim (h _) fun c=>hC.Lf _ _ d c.1 c.2) f
theorem cW (c:Inv m) {C:Int->Prop} (hC:xZ m C):∀ (n:Nat) (out:List Int),Dx m out->(∀ a ∈ out,C a) -> ∀ b ∈ Lh m n out,C b
 | 0,out,_,h,b,hb=>h b hb
 | n+1,out,e,h,b,hb=>by
   have h1:=Xe c hC out out (fun a d=>⟨h a d,e.ob a d⟩) h;rw[Lh] at hb;split at hb
   ·exact h1 b hb
   ·exact cW c hC n _ e.round h1 b hb
theorem sM:∀ {l k:List Int},l.Pairwise (·<·)->k.Pairwise (·<·)->(∀ a ∈ l,a ∈ k)->k.length<=l.length -> ∀ a ∈ k,a ∈ l:=by
 intro l k d g hs i a c;by_cases h:a ∈ l
 ·exact h
 ·have h1:(a::l).Nodup:=Ae8.2 ⟨h,d.imp fun h=>by omega⟩;have b:=Qp h1 (k:=k) fun x f=>(Acv.1 f).elim (fun e=>by rw[e]; exact c) (hs x);rw[Ada] at b;omega
theorem cV (g:Inv m) (h:m.bls.length<=64):∀ (n:Nat) (out:List Int),Dx m out->2049<=n+out.length->Dx m (Lh m n out)/\(∀ a ∈ out,a ∈ Lh m n out)/\xZ m (· ∈ Lh m n out)
 | 0,out,d,o=>by have:=d.len h; omega
 | n+1,out,d,o=>by
   rw[Lh];have f:=d.round;have hs:∀ a ∈ out,a ∈ K9 m out:=fun a c=>sG c;split
   ·rename_i he;refine ⟨f,hs, ?_⟩;have back:=sM d.so f.so hs (by omega);have step:∀ a,a ∈ K9 m out -> ∀ b,b ∈ Ol m out a->b ∈ K9 m out:=fun a c b hb=>Zj g out out a b (back a c) d.ob hb;refine ⟨fun a b c e hb=>step a c b ((ND g (f.ob a c)).2 (.inr (.inl ⟨e,hb⟩))),fun a c l h0 hb=>?_⟩;exact step a c _ ((ND g (f.ob a c)).2 (.inr (.inr ⟨l,.inl (back _ h0),rfl,hb⟩)))
   ·rename_i he;have:=gE (m:=m) out;obtain ⟨i,j,k⟩:=cV g h n (K9 m out) f (by omega);exact ⟨i,fun a c=>j a (hs a c),k⟩
theorem RP {a:Int}:∀ {l out:List Int},a ∈ l.foldl (Ue m) out↔a ∈ out\/(a ∈ l/\Ax m a=true)
 | [],out=>by simp
 | b::l,out=>by
   rw[Ad4,RP,QQ];constructor
   ·rintro ((h | ⟨rfl,h⟩) | ⟨h,c⟩)
    ·exact .inl h
    ·exact .inr ⟨Ac0,h⟩
    ·exact .inr ⟨Abx _ h,c⟩
   ·rintro (h | ⟨h,c⟩)
    ·exact .inl (.inl h)
    ·rcases Acv.1 h with rfl | h
     ·exact .inl (.inr ⟨rfl,c⟩)
     ·exact .inr ⟨h,c⟩
theorem sB (c:Inv m) (j:m.bls.length<=64) (l:List Int):Dx m (NS m l) /\ ∀ a,a ∈ NS m l↔Kp m (· ∈ l) a:=by
 have h0:Dx m (l.foldl (Ue m) []):=Dx.fold (fun o a h=>h.inc a) l [] (Dx.nil m);obtain ⟨d,e,f⟩:=cV c j 2050 _ h0 (by omega);refine ⟨d,fun a=>⟨fun h=>?_,fun h=>?_⟩⟩
 ·refine cW c (Kp.wT m (· ∈ l)) 2050 _ h0 (fun b hb=>?_) a h;rcases RP.1 hb with hb | ⟨h1,g⟩
  ·cases hb
  ·exact .root h1 g
 ·exact h.min f fun b hb i=>e b (RP.2 (.inr ⟨hb,i⟩))
theorem Ih (b:MK m) (r:D3) {a:Int}:a ∈ GC m r↔Kp m (· ∈ Bf r) a:=(sB b.inv b.nt _).2 a
end
section
local instance qKI:AH:=Ao
variable {m m':HM} {r:D3} {s s':TC}
def Wl (m:HM) (s:TC):Prop:=s.ws.length=(32*m.bls.length*2+63)/64
theorem AY {a:Int}:Bz m s a=true↔Ax m a=true/\C9 s a≠0:=by unfold Bz; simp
theorem Yu (hw:Wl m s) {a b:Int} (c:Ax m a=true) (hb:Ax m b=true) {v:Nat} (d:v<4):C9 (Eb s a v) b=if b=a then v else C9 s b:=by
 obtain ⟨j,rfl,hs⟩:=AV c;obtain ⟨y,rfl,e⟩:=AV hb;unfold C9 Eb;simp only[HD];rw[Ox hw hs.1 d];by_cases h:y=j
 ·rw[Abm h,Abm (by rw[h])]
 ·rw[Abo h,Abo (by omega)]
theorem uN (s:TC) (a:Int) (v:Nat):(Eb s a v).ws.length=s.ws.length:=Eg _ _ _ _
theorem U2 (m:HM) (s:TC) (a:Int):(Cu m s a).ws.length=s.ws.length:=by
 unfold Cu;split
 ·exact Eg _ _ _ _
 ·rfl
theorem Nm (m:HM):∀ (l:List Int) (s:TC),(AM m s l).ws.length=s.ws.length
 | [],s=>rfl
 | a::l,s=>(Nm m l (Cu m s a)).trans (U2 m s a)
theorem gJ (hw:Wl m s) (a:Int) {b:Int} (hb:Ax m b=true):C9 (Cu m s a) b=if C9 s b=0/\b=a then 1 else C9 s b:=by
 unfold Cu;by_cases c:Ax m a=true/\C9 s a=0
 ·rw[Abm c];show C9 (Eb s a 1) b=_;rw[Yu hw c.1 hb (by decide)];by_cases h:b=a
  ·rw[Abm h,Abm ⟨by rw[h]; exact c.2,h⟩]
  ·rw[Abo h,Abo (fun d=>h d.2)]
 ·rw[Abo c,Abo];rintro ⟨h1,rfl⟩;exact c ⟨hb,h1⟩
theorem IL:∀ (l:List Int) (s:TC),Wl m s -> ∀ {b:Int},Ax m b=true->C9 (AM m s l) b=if C9 s b=0/\b ∈ l then 1 else C9 s b
 | [],s,hw,b,hb=>by rw[Abo (by simp)]; rfl
 | a::l,s,hw,b,hb=>by
   have h1:=gJ hw a hb;have f:=IL l (Cu m s a) (by unfold Wl; rw[U2]; exact hw) hb;show C9 (AM m (Cu m s a) l) b=_;rw[f];by_cases h0:C9 s b=0
   ·by_cases d:b=a
    ·have h1:C9 (Cu m s a) b=1:=by rw[h1,Abm ⟨h0,d⟩]
     rw[h1,Abo (by simp),Abm ⟨h0,by rw[d]; exact Ac0⟩]
    ·have h1:C9 (Cu m s a) b=C9 s b:=by rw[h1,Abo fun c=>d c.2]
     rw[h1];by_cases e:b ∈ l
     ·rw[Abm ⟨h0,e⟩,Abm ⟨h0,Abx _ e⟩]
     ·rw[Abo (fun c=>e c.2),Abo (fun c=>(Acv.1 c.2).elim d e)]
   ·have h1:C9 (Cu m s a) b=C9 s b:=by rw[h1,Abo fun c=>h0 c.1]
    rw[h1,Abo (fun c=>h0 c.1),Abo (fun c=>h0 c.1)]
theorem KE:∀ (l:List Int) (s:TC),Wl m s -> ∀ x,x ∈ (AM m s l).list↔x ∈ s.list\/(x ∈ l/\Ax m x=true/\C9 s x=0)
 | [],s,hw,x=>by simp[AM]
 | a::l,s,hw,x=>by
   show x ∈ (AM m (Cu m s a) l).list↔_;rw[KE l (Cu m s a) (by unfold Wl; rw[U2]; exact hw)];by_cases b:Ax m x=true
   ·rw[gJ hw a b];have g:x ∈ (Cu m s a).list↔x ∈ s.list\/(x=a/\C9 s x=0):=by
     unfold Cu;split
     ·rename_i c;simp only[Aag,Ac1];exact or_congr Iff.rfl ⟨fun e=>⟨e,by rw[e]; exact c.2⟩,fun e=>e.1⟩
     ·rename_i c;refine ⟨.inl,fun h=>h.elim id fun e=>absurd ⟨by rw[<- e.1]; exact b,by rw[<- e.1]; exact e.2⟩ c⟩
    rw[g];by_cases h0:C9 s x=0
    ·by_cases d:x=a
     ·have f:C9 s a=0:=by rw[<- d]; exact h0
      have i:Ax m a=true:=by rw[<- d]; exact b
      simp[d,f,i]
     ·simp[h0,d,b]
    ·simp[h0]
   ·have g:x ∈ (Cu m s a).list↔x ∈ s.list:=by
     unfold Cu;split
     ·rename_i c;simp only[Aag,Ac1];exact ⟨fun h=>h.elim id fun e=>absurd (by rw[e]; exact c.1) b,.inl⟩
     ·exact Iff.rfl
    rw[g];simp[b]
theorem gK:∀ (l:List Int) (s:TC),(∀ a ∈ l,Ax m a=true->C9 s a≠0)->AM m s l=s
 | [],s,_=>rfl
 | a::l,s,h=>by
   have:Cu m s a=s:=by
    unfold Cu;rw[Abo];rintro ⟨h1,c⟩;exact h a Ac0 h1 c
   show AM m (Cu m s a) l=s;rw[this];exact gK l s fun b hb=>h b (Abx _ hb)
theorem Zz (hw:Wl m s) {l:List Int} (h:(AM m s l).list=[]):AM m s l=s /\ ∀ a ∈ l,Ax m a=true->C9 s a≠0:=by
 have key:∀ a ∈ l,Ax m a=true->C9 s a≠0:=fun a b c h0=>by
  have:=(KE l s hw a).2 (.inr ⟨b,c,h0⟩);rw[h] at this; cases this
 exact ⟨gK l s key,key⟩
theorem xk {l:List Int} {v:Int}:v ∈ Qk m s l ↔ ∃ a,a ∈ l/\Bz m s a=true/\(Ag m a).2.2=2/\Bz m s (AA m a 0)=true/\v=AA m a 1:=by
 unfold Qk;simp only[Ad0,Adz,Adi,Adu];constructor
 ·rintro ⟨a,⟨h1,⟨b,c⟩,d⟩,h5⟩; exact ⟨a,h1,b,c,d,h5.symm⟩
 ·rintro ⟨a,h1,b,c,d,h5⟩; exact ⟨a,⟨h1,⟨b,c⟩,d⟩,h5.symm⟩
theorem cA {a b:Int}:b ∈ DR m a↔Edge m a b/\b≠0:=by
 unfold DR Edge;simp only[Ad0,Adz,Agv,Adi,Adu,Af4];constructor
 ·rintro ⟨x,⟨h1,c,d⟩,rfl⟩;exact ⟨⟨x,by omega,d,rfl⟩,c⟩
 ·rintro ⟨⟨x,h1,c,rfl⟩,d⟩;exact ⟨x,⟨by omega,d,c⟩,rfl⟩
theorem xn (a:MK m):Ax m 0=false:=by
 cases c:Ax m 0 with
 | false=>rfl
 | true=>
   obtain ⟨j,e,hs⟩:=AV c;have:j=0:=by omega
   subst this;have b:=a.inv2.kind 0 hs;have h0:(m.bls.getD 0 (0,0)).1=0:=a.b0;by_cases hw:sz m 0<=32
   ·have:=(b.1 hw).1;rw[show 2*0/64=0 from rfl,h0] at this; cases this
   ·have:=(b.2 (by omega)).1;rw[show 2*0/64=0 from rfl,h0] at this; cases this
theorem PH (b:MK m) {a:Int} (h:Ax m a=true):a≠0:=by
 rintro rfl;rw[xn b] at h; cases h
theorem fL (d:MK m) {a:Int} (h:Ax m a=true):∃ b:Nat,a/64=(b:Int)/\b<m.bls.length/\(Cb m (b:Int)=1\/Cb m (b:Int)=2)/\a ∈ C7 (HC m (b:Int)):=by
 obtain ⟨j,rfl,hs⟩:=AV h;have f:=hs.1;have c:=d.inv2.kind j hs;have e:2*j/64=j/32:=by omega
 refine ⟨j/32,by omega,by omega, ?_, ?_⟩
 ·unfold Cb;rw[Abm (by omega),IT,<- e];by_cases hw:sz m j<=32
  ·exact .inl (c.1 hw).1
  ·exact .inr (c.2 (by omega)).1
 ·unfold HC C7;rw[Abm (by omega),IT];refine Ad0.2 ⟨j, ?_,rfl⟩;unfold DE;exact Adz.2 ⟨Af6.2 ⟨by omega,by omega⟩,by simpa using hs.2⟩
theorem Yq:∀ (l out:List Int) (v:Int),v ∈ l.foldl JJ out↔v ∈ out\/(v ∈ l/\v≠0)
 | [],out,v=>by simp
 | a::l,out,v=>by
   rw[Ad4,Yq l];unfold JJ;split
   ·rename_i c;constructor
    ·rintro (h | h)
     ·exact .inl h
     ·exact .inr ⟨Abx _ h.1,h.2⟩
    ·rintro (h | ⟨h,b⟩)
     ·exact .inl h
     ·rcases Acv.1 h with rfl | h
      ·exact c.elim (fun e=>absurd e b) .inl
      ·exact .inr ⟨h,b⟩
   ·rename_i c;rw[Aag,Ac1];constructor
    ·rintro ((h | rfl) | h)
     ·exact .inl h
     ·exact .inr ⟨Ac0,fun e=>c (.inl e)⟩
     ·exact .inr ⟨Abx _ h.1,h.2⟩
    ·rintro (h | ⟨h,b⟩)
     ·exact .inl (.inl h)
     ·rcases Acv.1 h with rfl | h
      ·exact .inl (.inr rfl)
      ·exact .inr ⟨h,b⟩
theorem KN {v:Int}:v ∈ Bf r↔v ∈ r.all/\v≠0:=by
 unfold Bf;rw[Yq];simp
def XG (m:HM):Prop:=∀ a,Ax m a=true -> ∀ x:Nat,AA m a (x:Int)=0\/Ax m (AA m a (x:Int))=true
theorem cX {a:Int} {x:Nat} (h:¬ (x:Int)<(Ag m a).1):AA m a (x:Int)=0:=W1 (by simp only[Abz,Abs]; exact fun b=>h b.2)
theorem Qb.o (h:Qb m) (c:Inv m):XG m:=by
 intro a d x;by_cases b:(x:Int)<(Ag m a).1
 ·obtain ⟨j,rfl,hs⟩:=AV d;rw[F4 hs] at b;rw[iN c hs b];exact h j hs x b
 ·exact .inl (cX b)
theorem xJ (h:XG m) (e:Mq m r):U3 m r=true:=by
 unfold U3;rw[Adi];constructor
 ·rw[Afh];intro v b;rcases e v (KN.1 b).1 with h0 | h0 <;> simp[h0]
 ·rw[Afh];intro a c;have d:=Ud.2 c;rw[Afh];intro v b;unfold Ur at b;obtain ⟨x,f,rfl⟩:=Ad0.1 b;rcases h a d x with h0 | h0 <;> simp[h0]
structure MkI (m:HM) (s:TC):Prop where
 c2:∀ a,Ax m a=true->C9 s a<=2
 gl:∀ a,Ax m a=true->C9 s a=1->a ∈ s.list
 ln:∀ a ∈ s.list,Bz m s a=true
theorem MkI.Kj (h:MkI m s) (hw:Wl m s) (l:List Int):MkI m (AM m s l):=by
 refine ⟨fun a b=>?_,fun a b h1=>?_,fun a b=>?_⟩
 ·rw[IL l s hw b]; split
  ·decide
  ·exact h.c2 a b
 ·rw[IL l s hw b] at h1;rw[KE l s hw];split at h1
  ·rename_i e; exact .inr ⟨e.2,b,e.1⟩
  ·exact .inl (h.gl a b h1)
 ·rcases (KE l s hw a).1 b with h1 | ⟨h1,d,g⟩
  ·obtain ⟨c,f⟩:=AY.1 (h.ln a h1);refine AY.2 ⟨c, ?_⟩;rw[IL l s hw c]; split
   ·decide
   ·exact f
  ·refine AY.2 ⟨d, ?_⟩;rw[IL l s hw d,Abm ⟨g,h1⟩]; decide
inductive Cl (m:HM) (s:TC):Int->Prop
 | seen {a:Int}:Bz m s a=true->Cl m s a
 | Lf {a b:Int}:Cl m s a->C9 s a≠2->Edge m a b->Ax m b=true->Cl m s b
 | eph {a:Int}:Cl m s a->(Ag m a).2.2=2->Cl m s (AA m a 0)->Ax m (AA m a 1)=true->Cl m s (AA m a 1)
theorem Cl.has {a:Int} (h:Cl m s a):Ax m a=true:=by
 cases h with
 | seen h=>exact (AY.1 h).1
 | Lf _ _ _ h=>exact h
 | eph _ _ _ h=>exact h
theorem Cl.min {P:Int->Prop} (h1:∀ a,Bz m s a=true->P a) (h2:∀ a b,Cl m s a->P a->C9 s a≠2->Edge m a b->Ax m b=true->P b) (h3:∀ a,Cl m s a->P a->(Ag m a).2.2=2->Cl m s (AA m a 0)->P (AA m a 0)->Ax m (AA m a 1)=true->P (AA m a 1)) {a:Int} (h:Cl m s a):P a:=by
 induction h with
 | seen h=>exact h1 _ h
 | Lf c h e hb f=>exact h2 _ _ c f h e hb
 | eph c h d hb i1 i2=>exact h3 _ c i1 h d i2 hb
structure wD (m:HM) (r:D3) (s:TC):Prop where
 bl:∀ a b,Ax m a=true->C9 s a=2->Edge m a b->Ax m b=true->Cl m s b
 rt:∀ a ∈ r.all,Ax m a=true->Cl m s a
theorem wD.wT (h:wD m r s):xZ m (Cl m s) where
 Lf:=fun a b c e hb=>by
  by_cases d:C9 s a=2
  ·exact h.bl a b c.has d e hb
  ·exact .Lf c d e hb
 eph:=fun a c f h0 hb=>.eph c f h0 hb
theorem wD.kept (h:wD m r s) {a:Int} (c:Kp m (· ∈ Bf r) a):Cl m s a:=c.min h.wT fun a h1 b=>h.rt a (KN.1 h1).1 b
theorem Cl.up (g:∀ a,Ax m a=true->C9 s' a=C9 s a\/(C9 s a=0/\C9 s' a=1)) {a:Int} (h:Cl m s a):Cl m s' a:=by
 refine h.min (fun a j=>?_) (fun a b c f k e hb=>.Lf f ?_ e hb) fun a c f l n i0 hb=>.eph f l i0 hb
 ·obtain ⟨h1,i⟩:=AY.1 j;refine .seen (AY.2 ⟨h1, ?_⟩);rcases g a h1 with h | ⟨h,d⟩
  ·rw[h]; exact i
  ·rw[d]; decide
 ·rcases g a c.has with h | ⟨h,d⟩
  ·rw[h]; exact k
  ·rw[d]; decide
theorem gL (hw:Wl m s) (l:List Int):∀ a,Ax m a=true->C9 (AM m s l) a=C9 s a\/(C9 s a=0/\C9 (AM m s l) a=1):=by
 intro a b;rw[IL l s hw b];split
 ·rename_i h; exact .inr ⟨h.1,rfl⟩
 ·exact .inl rfl
theorem wD.up (h:wD m r s) (f:∀ a,Ax m a=true->C9 s' a=C9 s a\/(C9 s a=0/\C9 s' a=1)):wD m r s' where
 bl:=fun a b c d e hb=>by
  rcases f a c with h1 | ⟨h1,g⟩
  ·exact (h.bl a b c (by rw[<- h1]; exact d) e hb).up f
  ·rw[g] at d; cases d
 rt:=fun a c i=>(h.rt a c i).up f
def InI (m:HM) (s:TC):Prop:=∀ a b,Ax m a=true->C9 s a=2->Edge m a b->Ax m b=true->C9 s b≠0
theorem InI.up (h:InI m s) (i:∀ a,Ax m a=true->C9 s' a=C9 s a\/(C9 s a=0/\C9 s' a=1)):InI m s':=by
 intro a b g d e hb;have h1:C9 s a=2:=by
  rcases i a g with h1 | ⟨h1,c⟩
  ·rw[<- h1]; exact d
  ·rw[c] at d; cases d
 have c:=h a b g h1 e hb;rcases i b hb with f | ⟨f,j⟩
 ·rw[f]; exact c
 ·rw[j]; decide
structure tt (m:HM) (r:D3) (s:TC):Prop where
 rf:XG m
 ld:Mq m r
 mm:MkI m s
 inc:s.look=true->InI m s
 snp:s.look=false->wD m r s
theorem tt.Kj (h:tt m r s) (hw:Wl m s) (l:List Int):tt m r (AM m s l):=by
 have b:(AM m s l).look=s.look:=(Ff m l s).2.2.1;exact ⟨h.rf,h.ld,h.mm.Kj hw l,fun a=>(h.inc (b ▸ a)).up (gL hw l),fun a=>(h.snp (b ▸ a)).up (gL hw l)⟩
theorem xr (H:MK m) (hw:Wl m s) (h:tt m r s):tt m r (ZQ m s)/\(ZQ m s).ws.length=s.ws.length/\(ZQ m s).look=s.look/\(ZQ m s).born=s.born/\(ZQ m s).ph=s.ph:=by
 unfold ZQ;cases B:s.list with
 | nil=>exact ⟨h,rfl,rfl,rfl,rfl⟩
 | cons a l=>
   simp only;have I:=h.mm.ln a (by rw[B]; exact Ac0);obtain ⟨G,P⟩:=AY.1 I;rw[Abm G]
   let k:TC:={ s with list:=l }
   have p:Wl m k:=hw;have D:Wl m (AM m k (DR m a)):=by unfold Wl; rw[Nm]; exact p
   obtain ⟨K,Q,L,S,M⟩:=Ff m (DR m a) k;have d:∀ b,Ax m b=true->C9 (Eb (AM m k (DR m a)) a 2) b=if b=a then 2 else if C9 s b=0/\b ∈ DR m a then 1 else C9 s b:=fun b hb=>by
    rw[Yu D G hb (by decide),IL _ _ p hb]; rfl
   have i:∀ x,x ∈ (Eb (AM m k (DR m a)) a 2).list↔x ∈ l\/(x ∈ DR m a/\Ax m x=true/\C9 s x=0):=fun x=>KE _ k p x;show tt m r (Eb (AM m k (DR m a)) a 2)/\(Eb (AM m k (DR m a)) a 2).ws.length=s.ws.length/\(Eb (AM m k (DR m a)) a 2).look=s.look/\(Eb (AM m k (DR m a)) a 2).born=s.born/\(Eb (AM m k (DR m a)) a 2).ph=s.ph;generalize o:Eb (AM m k (DR m a)) a 2=s2 at d i ⊢;have f:s2.look=s.look:=by rw[<- o]; exact L
   have t:∀ b,Ax m b=true->C9 s b≠0->C9 s2 b≠0:=fun b hb h0=>by
    rw[d b hb]; split
    ·decide
    ·split
     ·decide
     ·exact h0
   have Lf:∀ b,Edge m a b->Ax m b=true->C9 s2 b≠0:=fun b e hb=>by
    rw[d b hb]; split
    ·decide
    ·split
     ·decide
     ·rename_i J;exact fun h0=>J ⟨h0,cA.2 ⟨e,PH H hb⟩⟩
   have mono:∀ b,Cl m s b->Cl m s2 b:=fun b hb=>by
    refine hb.min (fun x q=>?_) (fun x y c E n e j=>?_) fun x c E u N i0 j=>.eph E u i0 j
    ·obtain ⟨v,z⟩:=AY.1 q;exact .seen (AY.2 ⟨v,t x v z⟩)
    ·by_cases w:x=a
     ·subst w;exact .seen (AY.2 ⟨j,Lf y e j⟩)
     ·refine .Lf E ?_ e j;rw[d x c.has,Abo w]; split
      ·decide
      ·exact n
   have F:∀ b,Ax m b=true->C9 s2 b=2->b=a\/C9 s b=2:=fun b hb g=>by
    rw[d b hb] at g;split at g
    ·rename_i e; exact .inl e
    ·split at g
     ·cases g
     ·exact .inr g
   refine ⟨⟨h.rf,h.ld,⟨fun b hb=>?_,fun b hb h1=>?_,fun b hb=>?_⟩,fun u x y q g e j=>?_,fun u=>⟨fun x y q g e j=>?_,fun b hb A=>mono b ((h.snp (f ▸ u)).rt b hb A)⟩⟩, ?_,f, ?_, ?_⟩
   ·rw[d b hb]; split
    ·decide
    ·split
     ·decide
     ·exact h.mm.c2 b hb
   ·rw[i];rw[d b hb] at h1;split at h1
    ·cases h1
    ·rename_i C;split at h1
     ·rename_i n; exact .inr ⟨n.2,hb,n.1⟩
     ·have:=h.mm.gl b hb h1;rw[B] at this;exact (Acv.1 this).elim (fun e=>absurd e C) .inl
   ·rcases (i b).1 hb with h1 | ⟨h1,g,O⟩
    ·obtain ⟨v,z⟩:=AY.1 (h.mm.ln b (by rw[B]; exact Abx _ h1));exact AY.2 ⟨v,t b v z⟩
    ·exact AY.2 ⟨g,Lf b (cA.1 h1).1 g⟩
   ·rcases F x q g with rfl | g
    ·exact Lf y e j
    ·exact t y j (h.inc (f ▸ u) x y q g e j)
   ·rcases F x q g with rfl | g
    ·exact .seen (AY.2 ⟨j,Lf y e j⟩)
    ·exact mono y ((h.snp (f ▸ u)).bl x y q g e j)
   ·rw[<- o,uN,Nm]
   ·rw[<- o]; exact M
   ·rw[<- o]; exact K
theorem fU (i:MK m) (hw:Wl m s) (j:s.list=[]) (he:(RD m (if s.look then AM m s (Bf r) else s)).list=[]):RD m (if s.look then AM m s (Bf r) else s)=s/\(s.look=true -> ∀ a ∈ r.all,Ax m a=true->C9 s a≠0) /\ ∀ a,Bz m s a=true->(Ag m a).2.2=2->Bz m s (AA m a 0)=true->Ax m (AA m a 1)=true->C9 s (AA m a 1)≠0:=by
 have h1:(if s.look then AM m s (Bf r) else s)=s/\(s.look=true -> ∀ a ∈ Bf r,Ax m a=true->C9 s a≠0):=by
  cases d:s.look with
  | false=>exact ⟨rfl,fun h=>by cases h⟩
  | true=>
    rw[d,Abm rfl] at he;have g:Wl m (AM m s (Bf r)):=by unfold Wl; rw[Nm]; exact hw
    have f:(AM m s (Bf r)).list=[]:=by
     apply List.eq_nil_iff_forall_not_mem.2;intro x c;have:=(KE (Qk m (AM m s (Bf r)) (Ei m)) (AM m s (Bf r)) g x).2 (.inl c);unfold RD at he;rw[he] at this; cases this
    obtain ⟨a,b⟩:=Zz hw f;exact ⟨by rw[Abm rfl]; exact a,fun _=>b⟩
 rw[h1.1] at he ⊢;unfold RD at he ⊢;obtain ⟨a,b⟩:=Zz hw he;exact ⟨a,fun d x c e=>h1.2 d x (KN.2 ⟨c,PH i e⟩) e,fun x c d h0 e=>b _ (xk.2 ⟨x,Ud.1 (AY.1 c).1,c,d,h0,rfl⟩) e⟩
structure PY (m m':HM) (Q:Int->Int->Bool):Prop where
 has:∀ b,Ax m' b=Ax m b
 shp:∀ b,Ag m' b=Ag m b
 idn:∀ b,Bx m' b=Bx m b
 ref:∀ b y,AA m' b y=if Q b y=true then 0 else AA m b y
 ue:∀ b y,Mo m' b y true=Mo m b y true
 bls:m'.bls=m.bls
 brt:m'.births=m.births
theorem PY.refl (m:HM):PY m m fun _ _=>false:=⟨fun _=>rfl,fun _=>rfl,fun _=>rfl,fun _ _=>rfl,fun _ _=>rfl,rfl,rfl⟩
theorem PY.trans {d e f:HM} {a c Q:Int->Int->Bool} (h:PY d e a) (g:PY e f c) (i:∀ b y,Q b y=(a b y || c b y)):PY d f Q:=
 ⟨fun b=>(g.has b).trans (h.has b),fun b=>(g.shp b).trans (h.shp b),fun b=>(g.idn b).trans (h.idn b),fun b y=>by
  rw[g.ref,h.ref,i];cases a b y <;> cases c b y <;> rfl,fun b y=>(g.ue b y).trans (h.ue b y),g.bls.trans h.bls,g.brt.trans h.brt⟩
theorem PY.to {Q a:Int->Int->Bool} (h:PY m m' Q) (c:∀ b y,a b y=Q b y\/AA m b y=0):PY m m' a:=
 ⟨h.has,h.shp,h.idn,fun b y=>by
  rw[h.ref];rcases c b y with e | e
  ·rw[e]
  ·rw[e]; simp,h.ue,h.bls,h.brt⟩
theorem jU (a k:Int):∀ (n x:Nat) (m:HM),MK m->Ax m a=true->((x+n:Nat):Int)<=(Ag m a).1->MK (Sy a k n x m)/\PY m (Sy a k n x m) fun b y=>decide (b=a) && decide ((x:Int)<=y/\y<((x+n:Nat):Int)) && Ee k y
 | 0,x,m,e,g,j=>⟨e,(PY.refl m).to fun b y=>.inl (by
   have:decide ((x:Int)<=y/\y<((x+0:Nat):Int))=false:=Aac (by omega);rw[this]; simp)⟩
 | n+1,x,m,e,g,j=>by
   rw[Sy];have h1:MK (if AA m a (x:Int)≠0/\Ee k (x:Int)=true then (BP m a (x:Int) 0).2 else m)/\PY m (if AA m a (x:Int)≠0/\Ee k (x:Int)=true then (BP m a (x:Int) 0).2 else m) (fun b y=>decide (b=a/\y=(x:Int)) && Ee k (x:Int)):=by
    split
    ·rename_i f;obtain ⟨_,d⟩:=Uy e.inv (a:=a) (x:=(x:Int)) (v:=0) (by omega) (by omega) (.inl rfl);refine ⟨e.setRef _ _ _,d.has,d.shp,d.idn,fun b y=>?_,d.ue,d.bls,d.brt⟩;rw[d.ref,f.2];by_cases c:b=a/\y=(x:Int)
     ·rw[Abm c,Abm (by simp[c])]
     ·rw[Abo c,Abo (by simpa using c)]
    ·rename_i f;refine ⟨e,(PY.refl m).to fun b y=>?_⟩;by_cases c:b=a/\y=(x:Int)
     ·obtain ⟨rfl,rfl⟩:=c;by_cases h0:AA m b (x:Int)=0
      ·exact .inr h0
      ·left;have:Ee k (x:Int)=false:=by
        cases hs:Ee k (x:Int) with
        | false=>rfl
        | true=>exact absurd ⟨h0,hs⟩ f
       rw[this]; simp
     ·left; simp[c]
   obtain ⟨l,v1⟩:=h1;obtain ⟨o,v2⟩:=jU a k n (x+1) _ l (by rw[v1.has]; exact g) (by rw[v1.shp]; omega);refine ⟨o,v1.trans v2 fun b y=>?_⟩;by_cases hb:b=a
   ·by_cases i:y=(x:Int)
    ·subst hb; subst i;rw[show decide ((x:Int)<=(x:Int)/\(x:Int)<((x+(n+1):Nat):Int))=true from Aad (by omega),show decide (((x+1:Nat):Int)<=(x:Int)/\(x:Int)<((x+1+n:Nat):Int))=false from Aac (by omega)];simp
    ·rw[show decide (b=a/\y=(x:Int))=false from Aac fun h=>i h.2,show decide ((x:Int)<=y/\y<((x+(n+1):Nat):Int))=decide (((x+1:Nat):Int)<=y/\y<((x+1+n:Nat):Int)) from by rw[Ag1]; omega];simp
   ·rw[show decide (b=a)=false from Aac hb,show decide (b=a/\y=(x:Int))=false from Aac fun h=>hb h.1];simp
def Sx (m:HM) (s:TC) (a:Int):Bool:=Bz m s a && decide ((Ag m a).2.2=1\/(Ag m a).2.2=2) && !(decide (AA m a 0≠0) && Bz m s (AA m a 0))
theorem lX (c:Inv m) (a:Int):0<=(Ag m a).1:=by
 cases b:Ax m a with
 | false=>unfold Ag; rw[b]; simp
 | true=>
   obtain ⟨j,rfl,hs⟩:=AV b;rw[F4 hs];exact (MX c hs).2.1
theorem mX (d:MK m) {a:Int} (f:Bz m s a=true):MK (Qd m s a)/\PY m (Qd m s a) fun b y=>decide (b=a) && Sx m s a && Ee (Ag m a).2.2 y:=by
 unfold Qd;split
 ·rename_i h;refine ⟨d,(PY.refl m).to fun b y=>.inl ?_⟩;have:Sx m s a=false:=by
   unfold Sx;rw[Aac (fun e=>e.elim h.1 h.2)]; simp
  rw[this]; simp
 ·rename_i h;split
  ·rename_i c;refine ⟨d,(PY.refl m).to fun b y=>.inl ?_⟩;have:Sx m s a=false:=by
    unfold Sx;rw[Aad c.1,c.2]; simp
   rw[this]; simp
  ·rename_i c;have e:=(AY.1 f).1;have l:=lX d.inv a;obtain ⟨k,v1⟩:=jU a (Ag m a).2.2 (Ag m a).1.toNat 0 m d e (by omega);refine ⟨k,v1.to fun b y=>?_⟩;have i:Sx m s a=true:=by
    unfold Sx;rw[f,Aad (by omega)];have:(decide (AA m a 0≠0) && Bz m s (AA m a 0))=false:=by
     cases g:(decide (AA m a 0≠0) && Bz m s (AA m a 0)) with
     | false=>rfl
     | true=>
       rw[Adi,Adu] at g;exact absurd g c
    rw[this]; rfl
   rw[i,Bool.and_true];by_cases j:0<=y/\y<(Ag m a).1
   ·left;rw[show decide (((0:Nat):Int)<=y/\y<((0+(Ag m a).1.toNat:Nat):Int))=true from Aad (by omega),Bool.and_true]
   ·by_cases hb:b=a
    ·right; subst hb;exact W1 (by simpa using j)
    ·left; simp[hb]
theorem Tn:∀ (l:List Int) (m:HM),MK m->l.Nodup->MK (IV m s l)/\PY m (IV m s l) fun b y=>decide (b ∈ l) && Sx m s b && Ee (Ag m b).2.2 y
 | [],m,e,_=>⟨e,(PY.refl m).to fun b y=>.inl (by simp)⟩
 | a::l,m,e,g=>by
   obtain ⟨n,o⟩:=Ae8.1 g;have h1:MK (if Bz m s a=true then Qd m s a else m)/\PY m (if Bz m s a=true then Qd m s a else m) (fun b y=>decide (b=a) && Sx m s a && Ee (Ag m a).2.2 y):=by
    split
    ·rename_i h; exact mX e h
    ·rename_i h;refine ⟨e,(PY.refl m).to fun b y=>.inl ?_⟩;have:Sx m s a=false:=by unfold Sx; rw[Bool.not_eq_true] at h; rw[h]; simp
     rw[this]; simp
   obtain ⟨j,v1⟩:=h1;obtain ⟨k,v2⟩:=Tn l _ j o;refine ⟨k,v1.trans v2 fun b y=>?_⟩;have d:∀ c,Bz (if Bz m s a=true then Qd m s a else m) s c=Bz m s c:=fun c=>by
    show (Ax _ c && decide (C9 s c≠0))=(Ax m c && decide (C9 s c≠0));rw[v1.has]
   by_cases hb:b=a
   ·subst hb;rw[Aad (show b=b from rfl),Aad (Ac0 (a:=b) (l:=l)),Aac n];simp
   ·rw[Aac hb,show decide (b ∈ a::l)=decide (b ∈ l) from by rw[Ag1]; simp[hb]];have f:Sx (if Bz m s a=true then Qd m s a else m) s b=Sx m s b:=by
     unfold Sx;have i:AA (if Bz m s a=true then Qd m s a else m) b 0=AA m b 0:=by rw[v1.ref,Abo (by simp[hb])]
     rw[d,v1.shp,i,d]
    rw[f,v1.shp];simp
structure zW (m:HM) (r:D3) (s:TC):Prop where
 rf:∀ a,Bz m s a=true -> ∀ x:Nat,AA m a (x:Int)=0\/Bz m s (AA m a (x:Int))=true
 ld:∀ a ∈ r.all,a=0\/Bz m s a=true
 wh:∀ a,Ax m a=true->C9 s a=0->a/64 ∈ s.left
structure IdI (m:HM) (r:D3) (s:TC):Prop where
 rf:XG m
 ld:Mq m r
 c0:∀ a,Ax m a=true->C9 s a=0
theorem zW.kept (d:MK m) (h:zW m r s) {a:Int} (c:Kp m (· ∈ Bf r) a):Bz m s a=true:=by
 refine c.min (C:=(Bz m s ·=true)) ⟨fun a b c e hb=>?_,fun a c g h0 hb=>?_⟩ fun a h1 f=>?_
 ·obtain ⟨x,_,_,rfl⟩:=e;exact (h.rf a c x).resolve_left (PH d hb)
 ·have:=h.rf a c 1;rw[show ((1:Nat):Int)=1 from rfl] at this;exact this.resolve_left (PH d hb)
 ·exact (h.ld a (KN.1 h1).1).resolve_left (KN.1 h1).2
def Rel (K:Int->Prop) (m m':HM):Prop:=∀ a,K a->Ax m' a=true/\Ag m' a=Ag m a/\Bx m' a=Bx m a/\(∀ y,Mo m' a y true=Mo m a y true) /\
 ∀ x:Nat,(AA m' a (x:Int)=AA m a (x:Int)/\(AA m a (x:Int)=0\/(Ax m' (AA m a (x:Int))=true/\Bx m' (AA m a (x:Int))=Bx m (AA m a (x:Int))))) \/
  (AA m' a (x:Int)=0/\((x=0/\((Ag m a).2.2=1\/(Ag m a).2.2=2)/\¬ K (AA m a 0))\/(x=1/\(Ag m a).2.2=2/\AA m' a 0=0)))
variable {K:Int->Prop}
theorem Rel.refl (h:∀ a,K a->Ax m a=true /\ ∀ x:Nat,AA m a (x:Int)=0\/Ax m (AA m a (x:Int))=true):Rel K m m:=
 fun a b=>⟨(h a b).1,rfl,rfl,fun _=>rfl,fun x=>.inl ⟨rfl,((h a b).2 x).imp id fun h=>⟨h,rfl⟩⟩⟩
theorem Rel.trans {o k l:HM} (h:Rel K o k) (g:Rel K k l):Rel K o l:=by
 intro a n;obtain ⟨h1,m,A,B,h5⟩:=h a n;obtain ⟨u,v,w,z,i⟩:=g a n;refine ⟨u,v.trans m,w.trans A,fun y=>(z y).trans (B y),fun x=>?_⟩;have E:AA k a 0=0->AA l a 0=0:=fun h0=>by
  have:=i 0;rw[show ((0:Nat):Int)=0 from rfl] at this;rcases this with ⟨e,_⟩ | ⟨e,_⟩
  ·rw[e,h0]
  ·exact e
 rcases h5 x with ⟨c,j⟩ | ⟨c,t⟩
 ·rcases i x with ⟨b,f⟩ | ⟨b,d⟩
  ·left;rw[c] at b f;refine ⟨b, ?_⟩;rcases j with j | ⟨_,i1⟩
   ·exact .inl j
   ·rcases f with f | ⟨s,i2⟩
    ·exact .inl f
    ·exact .inr ⟨s,i2.trans i1⟩
  ·right;refine ⟨b, ?_⟩;rw[m] at d;rcases d with ⟨rfl,C,D⟩ | d
   ·left;rw[show ((0:Nat):Int)=0 from rfl] at c;exact ⟨rfl,C,by rw[<- c]; exact D⟩
   ·exact .inr d
 ·right;refine ⟨?_,t.imp id fun ⟨p,q,r⟩=>⟨p,q,E r⟩⟩;rcases i x with ⟨b,_⟩ | ⟨b,_⟩
  ·rw[b,c]
  ·exact b
theorem bd (m:HM):(Ei m).Nodup:=by
 have:(Ei m).Pairwise (·<·):=by
  unfold Ei C7;exact List.pairwise_map.2 ((LO m).imp fun h=>by omega)
 exact this.imp fun h=>by omega
theorem RK (ws:List (BitVec 64)):∀ (l:List Int) (m:HM) (f:Int),MK m->MK (JA ws l (m,f)).1/\(JA ws l (m,f)).1.births=m.births/\(JA ws l (m,f)).1.bls.length=m.bls.length /\ ∀ a,(a ∈ l/\CG 2 ws (a.toNat/2)=0->Ax (JA ws l (m,f)).1 a=false)/\(¬ (a ∈ l/\CG 2 ws (a.toNat/2)=0)->Gc m (JA ws l (m,f)).1 a)
 | [],m,f,d=>⟨d,rfl,rfl,fun a=>⟨fun h=>(by cases h.1),fun _=>Gc.refl m a⟩⟩
 | b::l,m,f,d=>by
   rw[JA];by_cases hb:CG 2 ws (b.toNat/2)=0
   ·rw[Abm hb];obtain ⟨s1,_,_,_,_,t⟩:=NC d.inv d.sh b;obtain ⟨o,p,q,r⟩:=RK ws l (Hs m b).2 (Ar (f+1)) (d.kill b);refine ⟨o,p.trans t,q.trans (by rw[s1]),fun a=>?_⟩;obtain ⟨s,i⟩:=r a;by_cases j:a ∈ l/\CG 2 ws (a.toNat/2)=0
    ·exact ⟨fun _=>s j,fun n=>absurd ⟨Abx _ j.1,j.2⟩ n⟩
    ·have i:=i j;by_cases g:a=b
     ·subst g;exact ⟨fun _=>by rw[i.has]; exact rI d.sh a,fun n=>absurd ⟨Ac0,hb⟩ n⟩
     ·refine ⟨fun c=>absurd ⟨(Acv.1 c.1).resolve_left g,c.2⟩ j,fun _=>(rK d.inv d.sh g).trans i⟩
   ·rw[Abo hb];obtain ⟨o,p,q,r⟩:=RK ws l m f d;refine ⟨o,p,q,fun a=>?_⟩;obtain ⟨s,i⟩:=r a;have e:(a ∈ b::l/\CG 2 ws (a.toNat/2)=0)↔(a ∈ l/\CG 2 ws (a.toNat/2)=0):=
     ⟨fun c=>⟨(Acv.1 c.1).resolve_left (fun e=>hb (by rw[<- e]; exact c.2)),c.2⟩,fun c=>⟨Abx _ c.1,c.2⟩⟩;exact ⟨fun c=>s (e.1 c),fun c=>i fun k=>c (e.2 k)⟩
theorem Wn {nb:Nat}:∀ (n x:Nat) (ws:List (BitVec 64)),ws.length=(32*nb*2+63)/64->x+n<=32*nb -> ∀ j,(x<=j/\j<x+n->CG 2 (Sk ws n x) j=0)/\(j<x->CG 2 (Sk ws n x) j=CG 2 ws j)
 | 0,x,ws,c,f,j=>⟨fun h=>by omega,fun _=>rfl⟩
 | n+1,x,ws,c,f,j=>by
   rw[Sk];obtain ⟨a,b⟩:=Wn n (x+1) (F9 2 ws x 0) (by rw[Eg]; exact c) (by omega) j;have d:=Ox (nb:=nb) c (j:=x) (v:=0) (by omega) (by decide) j;refine ⟨fun h=>?_,fun h=>?_⟩
   ·by_cases e:j=x
    ·rw[b (by omega),d,Abm e]
    ·exact a (by omega)
   ·rw[b (by omega),d,Abo (by omega)]
def Zc (m:HM) (s:TC):Prop:=∀ j,j<32*m.bls.length->CG 2 s.ws j≠0->Ax m ((2*j:Nat):Int)=true
theorem Zc.cK (e:Zc m s) (hw:Wl m s) {a:Int} (b:Ax m a=true) {v:Nat} (d:v<4):Zc m (Eb s a v):=by
 obtain ⟨y,rfl,hs⟩:=AV b;intro j c h0;unfold Eb at h0;simp only[HD] at h0;rw[Ox hw hs.1 d] at h0;by_cases he:j=y
 ·rw[he]; exact EE hs
 ·rw[Abo he] at h0; exact e j c h0
theorem Zc.Kj:∀ (l:List Int) {s:TC},Zc m s->Wl m s->Zc m (AM m s l)
 | [],s,b,hw=>b
 | a::l,s,b,hw=>by
   show Zc m (AM m (Cu m s a) l);refine Zc.Kj l ?_ (by unfold Wl; rw[U2]; exact hw);unfold Cu;split
   ·rename_i c; exact b.cK hw c.1 (v:=1) (by decide)
   ·exact b
theorem Zc.unit (k:MK m) (hw:Wl m s) (d:Zc m s):Zc (HE m r s).1 (HE m r s).2:=by
 unfold HE;split
 ·unfold Hn;have idle:∀ (m':HM) (s':TC),m'.bls.length=m.bls.length->Wl m s'->Zc m' s'->Zc m' (Sp (32*m.bls.length) s'):=fun m' s' e f g=>by
   unfold Sp;split
   ·intro j c h0;exact absurd ((Wn (32*m.bls.length) 0 s'.ws f (by omega) j).1 (by rw[e] at c; omega)) h0
   ·exact g
  split
  ·exact idle m s rfl hw d
  ·rename_i b l e;simp only;obtain ⟨n,v,o,u⟩:=RK s.ws (C7 (HC m b)) m s.freed k;generalize JA s.ws (C7 (HC m b)) (m,s.freed)=q at *;have h:=(Nx n.inv n.inv2 b).len;have rs:=Xz q.1 b h;refine idle _ _ (h.trans o) hw fun j c h0=>?_;rw[h.trans o] at c;rw[(rs _).has,((u _).2 fun t=>h0 (by have:=t.2; rw[HD] at this; exact this)).has];exact d j c h0
 ·split
  ·simp only;unfold ZQ;split
   ·exact d
   ·rename_i a l e;split
    ·rename_i p;refine Zc.cK (Zc.Kj _ (show Zc m { s with list:=l } from d) hw) (by unfold Wl; rw[Nm]; exact hw) p (by decide)
    ·exact d
  ·unfold Zn;have h1:Zc m (if s.look=true then AM m s (Bf r) else s)/\Wl m (if s.look=true then AM m s (Bf r) else s):=by
    split
    ·exact ⟨Zc.Kj _ d hw,by unfold Wl; rw[Nm]; exact hw⟩
    ·exact ⟨d,hw⟩
   generalize (if s.look=true then AM m s (Bf r) else s)=s1 at *;have i:Zc m (RD m s1):=by unfold RD; exact Zc.Kj _ h1.1 h1.2
   simp only;split
   ·exact i
   ·obtain ⟨_,V⟩:=Tn (s:=RD m s1) (Ei m) m k (bd m);intro j c h0;rw[V.has];rw[V.bls] at c;exact i j c h0
structure JI (m:HM) (r:D3) (s:TC):Prop where
 zc:Zc m s
 bn:s.born=if s.look then 0 else 2
 st:(s.ph=0/\IdI m r s)\/(s.ph=1/\tt m r s)\/(s.ph=2/\zW m r s)
def KI (K:Int->Prop) (m:HM) (r:D3) (s:TC):Prop:=(s.ph=1 -> ∀ a,K a->Kp m (· ∈ Bf r) a)/\(s.ph=2 -> ∀ a,K a->Bz m s a=true)
structure Aax (K:Int->Prop) (m:HM) (r:D3) (s:TC) (m':HM) (s':TC):Prop where
 run:JI m' r s'
 rel:Rel K m m'
 ki:KI K m' r s'
 brt:m'.births=m.births
 len:m'.bls.length=m.bls.length
 hm:MK m'
 lk:s'.look=s.look
 IX:∀ a,Ax m' a=true->Ax m a=true/\Bx m' a=Bx m a
theorem gM {k x:Int} (h:Ee k x=true):(x=0/\(k=1\/k=2))\/(x=1/\k=2):=by
 unfold Ee at h;simp at h;omega
theorem xe (o:MK m) (hw:Wl m s) (h:tt m r s) (I:s.list=[]) (he:(RD m (if s.look then AM m s (Bf r) else s)).list=[]) (z:∀ a,K a->Kp m (· ∈ Bf r) a):
  zW (IV m s (Ei m)) r { s with left:=s.left++WS (IV m s (Ei m)),ph:=2 }/\Rel K m (IV m s (Ei m))/\(∀ a,K a->Bz (IV m s (Ei m)) s a=true)/\MK (IV m s (Ei m))/\(∀ a,Bz (IV m s (Ei m)) s a=Bz m s a)/\(∃ Q,PY m (IV m s (Ei m)) Q)/\xZ m (Bz m s ·=true) /\ ∀ a ∈ r.all,Ax m a=true->Bz m s a=true:=by
 obtain ⟨_,h1,H⟩:=fU o hw I he;have y:∀ a,Bz m s a=true->C9 s a=2:=fun a d=>by
  obtain ⟨w,L⟩:=AY.1 d;have:=h.mm.c2 a w;have:C9 s a≠1:=fun h1=>by
   have:=h.mm.gl a w h1;rw[I] at this; cases this
  omega
 have q:∀ a,Cl m s a->Bz m s a=true:=fun a d=>d.min (fun _ h=>h) (fun a b c i g e hb=>absurd (y a i) g) fun a c i f N i0 hb=>AY.2 ⟨hb,H a i f i0 hb⟩;have v:xZ m (Bz m s ·=true):=⟨fun a b d e hb=>by
  cases f:s.look with
  | true=>exact AY.2 ⟨hb,h.inc f a b (AY.1 d).1 (y a d) e hb⟩
  | false=>exact q b ((h.snp f).bl a b (AY.1 d).1 (y a d) e hb),fun a d f h0 hb=>AY.2 ⟨hb,H a d f h0 hb⟩⟩;have k:∀ a ∈ r.all,Ax m a=true->Bz m s a=true:=fun a d j=>by
  cases f:s.look with
  | true=>exact AY.2 ⟨j,h1 f a d j⟩
  | false=>exact q a ((h.snp f).rt a d j)
 have F:∀ a,Kp m (· ∈ Bf r) a->Bz m s a=true:=fun a d=>d.min v fun a w L=>k a (KN.1 w).1 L;obtain ⟨p,V⟩:=Tn (Ei m) m o (bd m);generalize M:IV m s (Ei m)=m' at *;have G:∀ a,Bz m' s a=Bz m s a:=fun a=>by unfold Bz; rw[V.has]
 have n:∀ a (l:List Int),Bz m' { s with left:=l,ph:=2 } a=Bz m s a:=fun a l=>G a;have ref:∀ a,Bz m s a=true -> ∀ x:Nat,(AA m' a (x:Int)=AA m a (x:Int)/\(AA m a (x:Int)=0\/Bz m s (AA m a (x:Int))=true))\/(AA m' a (x:Int)=0/\Sx m s a=true/\Ee (Ag m a).2.2 (x:Int)=true):=by
  intro a d x;rw[V.ref];have B:decide (a ∈ Ei m)=true:=Aad (Ud.1 (AY.1 d).1);rw[B,Afw];cases g:Sx m s a with
  | true=>
    cases hs:Ee (Ag m a).2.2 (x:Int) with
    | true=>exact .inr ⟨rfl,rfl,rfl⟩
    | false=>
      left;refine ⟨by simp, ?_⟩;rcases h.rf a (AY.1 d).1 x with h0 | h0
      ·exact .inl h0
      ·right;by_cases u:(x:Int)<(Ag m a).1
       ·exact v.Lf a _ d ⟨x,u,hs,rfl⟩ h0
       ·rw[cX u] at h0;rw[xn o] at h0; cases h0
  | false=>
    left;refine ⟨by simp, ?_⟩;rcases h.rf a (AY.1 d).1 x with h0 | h0
    ·exact .inl h0
    right;by_cases u:(x:Int)<(Ag m a).1;rotate_left
    ·rw[cX u] at h0;rw[xn o] at h0; cases h0
    cases hs:Ee (Ag m a).2.2 (x:Int) with
    | false=>exact v.Lf a _ d ⟨x,u,hs,rfl⟩ h0
    | true=>
      have C:=gM hs;have t:(decide (AA m a 0≠0) && Bz m s (AA m a 0))=true:=by
       unfold Sx at g;rw[d,Aad (show (Ag m a).2.2=1\/(Ag m a).2.2=2 by omega)] at g;cases t:(decide (AA m a 0≠0) && Bz m s (AA m a 0)) with
       | true=>rfl
       | false=>rw[t] at g; cases g
      rw[Adi] at t;rcases C with ⟨e,_⟩ | ⟨e,f⟩
      ·rw[e]; exact t.2
      ·rw[e] at h0 ⊢;exact v.eph a d f t.2 h0
 refine ⟨⟨fun a d x=>?_,fun a d=>?_,fun a d h0=>?_⟩,fun a d=>?_,fun a d=>by rw[G]; exact F a (z a d),p,G,⟨_,V⟩,v,k⟩
 ·rw[n] at d;rw[n];rcases ref a d x with ⟨e,E⟩ | ⟨e,_⟩
  ·rw[e]; exact E
  ·exact .inl e
 ·rw[n];exact (h.ld a d).imp id fun j=>k a d j
 ·obtain ⟨b,e,hb,hs,_⟩:=fL p d;refine Aag.2 (.inr ?_);rw[e];exact Ad0.2 ⟨b,Adz.2 ⟨Agv.2 hb,Aad hs⟩,rfl⟩
 ·have hs:=F a (z a d);refine ⟨by rw[V.has]; exact (AY.1 hs).1,V.shp a,V.idn a,V.ue a,fun x=>?_⟩;rcases ref a hs x with ⟨e,E⟩ | ⟨e,g,D⟩
  ·exact .inl ⟨e,E.imp id fun j=>⟨by rw[V.has]; exact (AY.1 j).1,V.idn _⟩⟩
  ·right;refine ⟨e, ?_⟩;rcases gM D with ⟨O,f⟩ | ⟨P,f⟩
   ·left;refine ⟨by omega,f,fun A=>?_⟩;have J:=F _ (z _ A);unfold Sx at g;rw[J,Aad (PH o (AY.1 J).1)] at g;simp at g
   ·right;refine ⟨by omega,f, ?_⟩;rw[V.ref,Aad (Ud.1 (AY.1 hs).1),g,f];rfl
theorem kc (hw:Wl m s) {ph:Int} {l:List Int} {a:Int} (b:Ax m a=true):C9 { s with ws:=Sk s.ws (32*m.bls.length) 0,ph:=ph,left:=l } a=0:=by
 obtain ⟨j,rfl,hs⟩:=AV b;have:=hs.1;unfold C9;rw[HD];exact (Wn (32*m.bls.length) 0 s.ws hw (by omega) j).1 (by omega)
theorem vC (t:MK m) (hw:Wl m s) (hp:s.ph=2) (h:zW m r s):(((Hn m s).2.ph=0/\IdI (Hn m s).1 r (Hn m s).2)\/((Hn m s).2.ph=2/\zW (Hn m s).1 r (Hn m s).2 /\ ∀ a,Bz m s a=true->Bz (Hn m s).1 (Hn m s).2 a=true))/\MK (Hn m s).1/\(Hn m s).1.births=m.births/\(Hn m s).1.bls.length=m.bls.length/\(Hn m s).2.look=s.look/\(Hn m s).2.born=s.born/\(∀ a,Bz m s a=true->Gc m (Hn m s).1 a)/\(∀ a,Ax (Hn m s).1 a=true->Gc m (Hn m s).1 a)/\((Hn m s).2.ph=0 -> ∀ a,Ax (Hn m s).1 a=true->Bz m s a=true):=by
 have idle:s.left=[] -> ∀ a,Ax m a=true->Bz m s a=true:=fun h0 a d=>by
  refine AY.2 ⟨d,fun k=>?_⟩;have:=h.wh a d k;rw[h0] at this; cases this
 unfold Hn;cases p:s.left with
 | nil=>
   simp only;unfold Sp;rw[Abm p];refine ⟨.inl ⟨rfl,⟨fun a d x=>(h.rf a (idle p a d) x).imp id fun j=>(AY.1 j).1,fun a d=>(h.ld a d).imp id fun j=>(AY.1 j).1,fun a d=>?_⟩⟩,t,(by first | rfl | trivial),(by first | rfl | trivial),(by first | rfl | trivial),(by first | rfl | trivial),fun a _=>Gc.refl _ _,fun a _=>Gc.refl _ _,fun _ a d=>idle p a d⟩;exact kc (l:=s.left) hw d
 | cons b l=>
   simp only;obtain ⟨v,B,C,y⟩:=RK s.ws (C7 (HC m b)) m s.freed t;generalize JA s.ws (C7 (HC m b)) (m,s.freed)=q at *;have z:=(Nx v.inv v.inv2 b).len;have o:=v.release b;have rs:=Xz q.1 b z;have rb:=(Qr q.1 b).2.2.2.2;generalize (CY q.1 b).2=m' at *;have w:∀ a,¬ (a ∈ C7 (HC m b)/\C9 s a=0)->Gc m m' a:=fun a d=>((y a).2 d).trans (rs a);have f:∀ a,Bz m s a=true->Gc m m' a:=fun a d=>w a fun j=>(AY.1 d).2 j.2;have g:∀ a,Ax m' a=true->Gc m m' a/\(C9 s a=0->a/64≠b):=fun a d=>by
    have u:¬ (a ∈ C7 (HC m b)/\C9 s a=0):=fun j=>by
     have:=(y a).1 j;rw[(rs a).has,this] at d; cases d
    refine ⟨w a u,fun h0 he=>u ⟨?_,h0⟩⟩;have hm:Ax m a=true:=by rw[<- (w a u).has]; exact d
    obtain ⟨c,e,_,_,k⟩:=fL t hm;rw[<- he,e]; exact k
   have hlen:m'.bls.length=m.bls.length:=z.trans C;have n:m'.births=m.births:=rb.trans B;unfold Sp;by_cases h0:l=[]
   ·subst h0;simp only[Aah];have i:∀ a,Ax m' a=true->Bz m s a=true:=fun a d=>by
     obtain ⟨s1,s2⟩:=g a d;have hm:Ax m a=true:=by rw[<- s1.has]; exact d
     refine AY.2 ⟨hm,fun k=>?_⟩;have:=h.wh a hm k;rw[p] at this;exact s2 k (by simpa using this)
    refine ⟨.inl ⟨(by first | rfl | trivial),⟨fun a d x=>?_,fun a d=>?_,fun a d=>?_⟩⟩,o,n,hlen,trivial,trivial,f,fun a d=>(g a d).1,fun _=>i⟩
    ·have hs:=i a d;rw[(f a hs).AA];refine (h.rf a hs x).imp id fun j=>?_;rw[(f _ j).has]; exact (AY.1 j).1
    ·refine (h.ld a d).imp id fun j=>?_;rw[(f _ j).has]; exact (AY.1 j).1
    ·have hm:Ax m a=true:=by rw[<- (g a d).1.has]; exact d
     have:=kc (s:={ s with freed:=q.2 }) (m:=m) hw (ph:=0) (l:=[]) hm;exact this
   ·simp only[Abo h0];have A:∀ a,Bz m' { s with left:=l,freed:=q.2 } a=(Ax m' a && decide (C9 s a≠0)):=fun a=>rfl;have up:∀ a,Bz m s a=true->Bz m' { s with left:=l,freed:=q.2 } a=true:=fun a d=>by
     rw[A,(f a d).has,(AY.1 d).1,Aad (AY.1 d).2]; rfl
    have down:∀ a,Bz m' { s with left:=l,freed:=q.2 } a=true->Bz m s a=true:=fun a d=>by
     rw[A,Adi,Adu] at d;exact AY.2 ⟨by rw[<- (g a d.1).1.has]; exact d.1,d.2⟩
    refine ⟨.inr ⟨hp,⟨fun a d x=>?_,fun a d=>(h.ld a d).imp id (up a),fun a d k=>?_⟩,up⟩,o,n,hlen,trivial,trivial,f,fun a d=>(g a d).1,fun j=>by rw[hp] at j; cases j⟩
    ·have hs:=down a d;rw[(f a hs).AA];exact (h.rf a hs x).imp id (up _)
    ·obtain ⟨s1,s2⟩:=g a d;have hm:Ax m a=true:=by rw[<- s1.has]; exact d
     have:=h.wh a hm k;rw[p] at this;exact (Acv.1 this).resolve_left (s2 k)
theorem xR (i:MK m) (T:Qw m.bls.length s) (h:JI m r s) (hp:s.ph≠0) (B:KI K m r s):Aax K m r s (HE m r s).1 (HE m r s).2:=by
 have hw:Wl m s:=T.wl;have f:=Zc.unit (r:=r) i hw h.zc
 revert f
 rcases h.st with ⟨h0,_⟩ | ⟨h1,hm⟩ | ⟨t,hs⟩
 ·exact absurd h0 hp
 ·have j:s.ph≠2:=by rw[h1]; decide
  have d:=B.1 h1;have G:Rel K m m:=Rel.refl fun a b=>⟨(d a b).has,fun x=>hm.rf a (d a b).has x⟩;unfold HE;rw[Abo j];by_cases k:s.list≠[]
  ·rw[Abm k];obtain ⟨Z,p2,E,p4,F⟩:=xr i hw hm;intro f;exact ⟨⟨f,by rw[p4,E]; exact h.bn,.inr (.inl ⟨F.trans h1,Z⟩)⟩,G,⟨fun _=>d,fun c=>absurd (F.symm.trans c) j⟩,rfl,rfl,i,E,fun a b=>⟨b,rfl⟩⟩
  ·rw[Abo k];have k:s.list=[]:=Agd.1 k;unfold Zn;simp only;by_cases he:(RD m (if s.look=true then AM m s (Bf r) else s)).list≠[]
   ·rw[Abm he];have u:tt m r (if s.look=true then AM m s (Bf r) else s)/\Wl m (if s.look=true then AM m s (Bf r) else s)/\(if s.look=true then AM m s (Bf r) else s).ph=s.ph/\(if s.look=true then AM m s (Bf r) else s).look=s.look/\(if s.look=true then AM m s (Bf r) else s).born=s.born:=by
     split
     ·obtain ⟨o,q2,p,q4,v⟩:=Ff m (Bf r) s;exact ⟨hm.Kj hw _,by unfold Wl; rw[Nm]; exact hw,o,p,v⟩
     ·exact ⟨hm,hw,rfl,rfl,rfl⟩
    generalize (if s.look=true then AM m s (Bf r) else s)=s1 at *;obtain ⟨U,W,C,D,X⟩:=u;unfold RD;intro f;obtain ⟨o,q2,p,q4,v⟩:=Ff m (Qk m s1 (Ei m)) s1;have Y:=U.Kj W (Qk m s1 (Ei m));generalize AM m s1 (Qk m s1 (Ei m))=s2 at *;exact ⟨⟨f,by rw[v,p,X,D]; exact h.bn,.inr (.inl ⟨o.trans (C.trans h1),Y⟩)⟩,G,⟨fun _=>d,fun c=>absurd ((o.trans C).symm.trans c) j⟩,rfl,rfl,i,p.trans D,fun a b=>⟨b,rfl⟩⟩
   ·have he:(RD m (if s.look then AM m s (Bf r) else s)).list=[]:=Agd.1 he;rw[Abo (by rw[he]; simp)];have S:=(fU i hw k he).1;obtain ⟨H,I,J,L,a5,⟨Q,V⟩,_⟩:=xe i hw hm k he d;have q:RD m (if s.look=true then AM m s (Bf r) else s)=s:=S;rw[q];intro f;exact ⟨⟨f,h.bn,.inr (.inr ⟨rfl,H⟩)⟩,I,⟨fun c=>(by cases c),fun _=>J⟩,V.brt,by rw[V.bls],L,rfl,fun a b=>⟨by rw[<- V.has]; exact b,V.idn a⟩⟩
 ·have e:=B.2 t;unfold HE;rw[Abm t];intro f;obtain ⟨w,M,N,O,y,P,z,A,_⟩:=vC i hw t hs;refine ⟨⟨f,by rw[P,y]; exact h.bn, ?_⟩,fun a b=>?_, ?_,N,O,M,y,fun a b=>⟨by rw[<- (A a b).has]; exact b,(A a b).idn⟩⟩
  ·rcases w with ⟨g,n⟩ | ⟨g,n,_⟩
   ·exact .inl ⟨g,n⟩
   ·exact .inr (.inr ⟨g,n⟩)
  ·have l:=z a (e a b);refine ⟨by rw[l.has]; exact (AY.1 (e a b)).1,l.shp,l.idn,l.ue,fun x=>.inl ⟨l.AA _,(hs.rf a (e a b) x).imp id fun c=>?_⟩⟩;have:=z _ c;exact ⟨by rw[this.has]; exact (AY.1 c).1,this.idn⟩
  ·rcases w with ⟨g,n⟩ | ⟨g,n,x3⟩
   ·exact ⟨fun c=>(by rw[g] at c; cases c),fun c=>(by rw[g] at c; cases c)⟩
   ·exact ⟨fun c=>(by rw[g] at c; cases c),fun _ a b=>x3 a (e a b)⟩
theorem vA (k:MK m) (h:JI m r s) (l:Qw m.bls.length s) (hp:s.ph=0) (n:s.list=[]):JI m r (U4 m r s)/\(U4 m r s).ph=1:=by
 have hi:IdI m r s:=by
  rcases h.st with ⟨_,h⟩ | ⟨h1,_⟩ | ⟨h1,_⟩
  ·exact h
  ·rw[hp] at h1; cases h1
  ·rw[hp] at h1; cases h1
 unfold U4;have hw:Wl m { s with freed:=0,ph:=1 }:=l.wl;have o:Zc m (AM m { s with freed:=0,ph:=1 } (Bf r)):=Zc.Kj _ (show Zc m { s with freed:=0,ph:=1 } from h.zc) hw;obtain ⟨j,t,p,u,q⟩:=Ff m (Bf r) { s with freed:=0,ph:=1 };have d:∀ a,Ax m a=true->C9 (AM m { s with freed:=0,ph:=1 } (Bf r)) a=if a ∈ Bf r then 1 else 0:=fun a c=>by
  rw[IL _ _ hw c];have h0:C9 { s with freed:=0,ph:=1 } a=0:=hi.c0 a c;rw[h0];by_cases g:a ∈ Bf r
  ·rw[Abm ⟨rfl,g⟩,Abm g]
  ·rw[Abo (fun i=>g i.2),Abo g]
 have e:=fun x=>KE (Bf r) { s with freed:=0,ph:=1 } hw x;generalize AM m { s with freed:=0,ph:=1 } (Bf r)=s1 at *;have nb:∀ a,Ax m a=true->C9 s1 a≠2:=fun a c=>by
  rw[d a c]; split <;> decide
 refine ⟨⟨o,by rw[q,p]; exact h.bn,.inr (.inl ⟨j,hi.rf,hi.ld,⟨fun a c=>?_,fun a c h1=>?_,fun a c=>?_⟩,fun _ a b c f=>absurd f (nb a c),fun _=>⟨fun a b c f=>absurd f (nb a c),fun a c i=>?_⟩⟩)⟩,j⟩
 ·rw[d a c]; split <;> decide
 ·rw[d a c] at h1;rw[e];split at h1
  ·rename_i g; exact .inr ⟨g,c,hi.c0 a c⟩
  ·cases h1
 ·rcases (e a).1 c with h1 | ⟨h1,f,_⟩
  ·have h1:a ∈ s.list:=h1;rw[n] at h1; cases h1
  ·refine AY.2 ⟨f, ?_⟩;rw[d a f,Abm h1]; decide
 ·exact .seen (AY.2 ⟨i,by rw[d a i,Abm (KN.2 ⟨c,PH k i⟩)]; decide⟩)
end
section
local instance qKJ:AH:=Ao
variable {J:Aa} {m m':HM} {r:D3} {s:TC} {i:Cp} {p:PI} {c:CI}
def Clm (m m':HM):Prop:=m'=m \/ ∃ b c x y a d:Int,x≠0/\(a≠0\/c=1)/\m'=(BA m b c x y a d).2
theorem Clm.ok (f:MK m) (h:Clm m m'):MK m'/\(∀ a,Gc m m' a)/\m'.births=m.births/\m'.bls.length=m.bls.length:=by
 rcases h with rfl | ⟨b,c,x,y,d,e,h1,j,rfl⟩
 ·exact ⟨f,Gc.refl _,rfl,rfl⟩
 ·obtain ⟨_,_,g,i⟩:=OA m b c x y d e;exact ⟨f.bA b c x y d e h1 j,mW m b c x y d e,i,g⟩
def xt (m:HM) (a:AS) (w:Int):PR:=if w>32 then cn m a w else Qs m a (bZ m a.s 0 w.toNat)
theorem pM (m:HM) (a:AS) (w:Int):Clm m (xt m a w).2.1/\(xt m a w).2.2=a:=by
 unfold xt;split
 ·unfold cn;split
  ·rename_i b hb;exact ⟨.inr ⟨_,_,_,_,_,_,by decide,.inl (by decide),rfl⟩,rfl⟩
  ·exact ⟨.inl rfl,rfl⟩
 ·unfold Qs;split
  ·exact ⟨.inl rfl,rfl⟩
  ·split
   ·exact ⟨.inr ⟨_,_,_,_,_,_,by decide,.inr rfl,rfl⟩,rfl⟩
   ·exact ⟨.inl rfl,rfl⟩
theorem rA (e:m.bls.length<=64) {s:Int} {w:Nat}:∀ g ∈ bZ m s 0 w,g.1<=4096:=by
 intro g c;unfold bZ at c;obtain ⟨d,h0,a⟩:=List.mem_filterMap.1 c;unfold Yo at h0;obtain ⟨b,_,hb⟩:=Afk.1 h0;have:=fE e _ d hb;unfold dR at a;split at a
 ·rename_i hw;cases a; dsimp only; omega
 ·cases a
theorem pF {c:Nat} {s:Int}:∀ {n x b:Nat},vR m c s n x=some b->b<=m.bls.length
 | 0,x,b,h=>by cases h
 | n+1,x,b,h=>by
   unfold vR at h;split at h
   ·split at h
    ·cases h; omega
    ·exact pF h
   ·cases h
theorem xu (d:m.bls.length<=64) (a:AS) (w:Int):0<=(xt m a w).1.1/\(xt m a w).1.1<=10000:=by
 unfold xt;split
 ·unfold cn;split
  ·rename_i b hb;have:=pF hb;dsimp only; omega
  ·dsimp only; omega
 ·unfold Qs;split
  ·rename_i g l c;have:=rA (m:=m) d (s:=a.s) (w:=w.toNat) g (by rw[c]; exact Ac0);dsimp only; omega
  ·split
   ·rename_i b hb;have:=ny hb;dsimp only; omega
   ·dsimp only; omega
structure AlR (m m':HM) (v e:Int) (sh:Int × Int × Int):Prop where
 hm:MK m'
 len:m'.bls.length=m.bls.length
 b2:m'.births<=m.births+1
 st:(e=0/\mH m m' v sh/\valid sh.1 sh.2.1 sh.2.2=true)\/(e≠0/\(valid sh.1 sh.2.1 sh.2.2=true->e=6)/\(∀ a,Gc m m' a)/\m'.births=m.births)
theorem mH.back {d e f:HM} {a:Int} {i:Int × Int × Int} (h:∀ a,Gc d e a) (hb:e.births=d.births) (g:mH e f a i):mH d f a i:=
 ⟨by rw[<- (h a).has]; exact g.IX,g.has,fun b c=>(h b).trans (g.same b c),g.shp,by rw[g.idn,hb],g.ref,by rw[g.brt,hb]⟩
theorem jH (k:MK m) (a:AS) (rr d g:Int) (c:PR) (l:Clm m c.2.1):AlR m (Ro m a rr d g c).2.1 (Ro m a rr d g c).1.1 (Ro m a rr d g c).1.2 (rr,d,g):=by
 obtain ⟨b,h,f,i⟩:=l.ok k;unfold Ro;split
 ·rename_i j;split
  ·split
   ·split
    ·rename_i h0;obtain ⟨v1,_⟩:=nZ b.inv b.inv2 b.sh h0;refine ⟨b.place _ _ _ _, ?_, ?_,.inl ⟨rfl,v1.back h f,j⟩⟩
     ·show (CW _ _ _ _ _).2.2.bls.length=_;rw[(PO _ _ _ _ _).1,i]
     ·show (CW _ _ _ _ _).2.2.births<=_;rw[v1.brt,f]; exact Aff _
    ·rename_i h0;have e:(CW c.2.1 c.1.1 rr d g).2.2=c.2.1:=(Up b.inv b.inv2 b.sh c.1.1 rr d g).err h0;refine ⟨by show MK (CW _ _ _ _ _).2.2; rw[e]; exact b,by show (CW _ _ _ _ _).2.2.bls.length=_; rw[e]; exact i,by show (CW _ _ _ _ _).2.2.births<=_; rw[e,f]; omega,.inr ⟨by dsimp only; decide,fun _=>rfl, ?_, ?_⟩⟩
     ·show ∀ a,Gc m (CW _ _ _ _ _).2.2 a;rw[e]; exact h
     ·show (CW _ _ _ _ _).2.2.births=_;rw[e]; exact f
   ·exact ⟨b,i,by dsimp only; omega,.inr ⟨by dsimp only; decide,fun _=>rfl,h,f⟩⟩
  ·exact ⟨b,i,by dsimp only; omega,.inr ⟨by dsimp only; decide,fun _=>rfl,h,f⟩⟩
 ·rename_i j;exact ⟨k,rfl,by dsimp only; omega,.inr ⟨by dsimp only; decide,fun n=>absurd n j,Gc.refl m,rfl⟩⟩
theorem Abg {nb:Nat} {ws:List (BitVec 64)} (b:ws.length=(32*nb*2+63)/64) {j:Nat} (a:j<32*nb) (h0:CG 2 ws j=0) (y:Nat):CG 2 (F9 2 ws j 0) y=CG 2 ws y:=by
 rw[Ox b a (by decide)];split
 ·rename_i e; rw[e,h0]
 ·rfl
theorem Qw.zC {nb:Nat} (h:Qw nb s) {j v:Nat} (a:j<32*nb) (c:v<4) (h0:v≠0\/CG 2 s.ws j=0):Qw nb (Eb s ((2*j:Nat):Int) v):=by
 by_cases b:v=0
 ·subst b;have h0:=h0.resolve_left (fun h=>h rfl);have e:WU nb (F9 2 s.ws j 0)=WU nb s.ws:=by
   unfold WU;congr 1;funext y;rw[Abg h.wl a h0]
  refine ⟨by show (F9 2 s.ws _ 0).length=_; rw[Eg]; exact h.wl, ?_,h.lr,h.lf,h.l0,h.s2⟩;show s.list.length<=WU nb (F9 2 s.ws (((2*j:Nat):Int).toNat/2) 0);rw[HD,e]; exact h.ls
 ·exact h.cK a c b
theorem jN (k:Nat) (p:qOi) (n:Int) (J:Aa):IF k (.func (.method "dustcart/alloc.place") #[cP 0] #[]) [qVi p,qIi n] J=Hb k p n J:=by
 simp only[IF,Hb,Ac]; kernel_rfl
theorem ql (k:Nat) (s:5000<=k) {ab:Nat} {a:AS} (hp:a.p=0) (h:Al J i m) (hA:DX J ab i a) (b:ab ∉ i.l) (l:a.ok) (f:MK m) (hb:m.births<1000000) (rr d c:Int):
  xY (Dd (k+13) (Qc ab) rr d c J) J i ab (Ro m a rr d c (xt m a (words rr d c))):=by
 obtain ⟨p,r⟩:=pM m a (words rr d c);obtain ⟨n,_,o,_⟩:=p.ok f;refine td k s h hA b l _ (fun e J0_ j A0=>?_) (fun e=>n.inv) (fun e=>by rw[o]; exact hb) (fun e=>xu f.nt a _) (fun e=>by rw[r]);have hw:=sY e;obtain ⟨w,g⟩:∃ w:Nat,words rr d c=(w:Int):=⟨(words rr d c).toNat,by omega⟩;rw[g];unfold xt plV;rw[IT];by_cases q:(w:Int)>32
 ·rw[Abm q,Abm q,Mm];exact uw (k+3) (by omega) j A0 b (by omega)
 ·rw[Abo q,Abo q,hp,show (0:Int).toNat=0 from rfl,jN];exact bS k (by omega) j A0 b l f.inv f.b0 (by omega)
def Ge (m:HM) (sp rr d a:Int):(Int × Int) × HM × AS:=Ro m ⟨sp,0,0,0,0,0⟩ rr d a (xt m ⟨sp,0,0,0,0,0⟩ (words rr d a))
theorem Za (b:MK m) (sp rr d a:Int):AlR m (Ge m sp rr d a).2.1 (Ge m sp rr d a).1.1 (Ge m sp rr d a).1.2 (rr,d,a):=jH b _ rr d a _ (pM _ _ _).1
def Kv (s:TC):Nat:=if s.ph=1 then s.born.toNat else if s.ph=2 then 2 else 0
def NO (m:HM) (s:TC) (sp rr d a:Int):TC:=if (Ge m sp rr d a).1.2=0 then Eb s (Ge m sp rr d a).1.1 (Kv s) else s
theorem mg (k:Nat) (hk:5000<=k) (T:Lc J i p c m r s) (hb:m.births<1000000) (hz:Zc m s) (F:s.ph=0\/s.ph=1\/s.ph=2) (u:s.born=0\/s.born=2) (rr d b:Int) {sp:Int} (x:0<=sp/\sp<8):
  ∃ J',Jn (k+14) (D2 c) rr d b sp J=some (.tuple #[qIi (Ge m sp rr d b).1.1,qIi (Ge m sp rr d b).1.2],J')/\Lc J' i p c (Ge m sp rr d b).2.1 r (NO m s sp rr d b)/\Mv (i.l++c.l) (i.l++c.l) J J':=by
 obtain ⟨B0,t⟩:∃ B0,Au.cells [qIi rr,qIi d,qIi b] Ad true=B0:=⟨_,rfl⟩;have y:∀ Z:Aa,Z[J.length]?=some B0->Aj .i64 Z J.length 0=some rr/\Aj .i64 Z J.length (0+1)=some d/\Aj .i64 Z J.length (0+1+1)=some b:=fun Z hm=>by
  simp[Aj,CV,hm,<- t,Bl]
 have T1:=T.app [B0];have I:(J++[B0])[J.length]?=some B0:=Abv;obtain ⟨l0,l1,l2⟩:=y _ I;have em:AP (k+13) (D2 c) (J++[B0])=_:=KH (k+12) T1.co;obtain ⟨H,C⟩:=Nt (k+12) rr d b (J++[B0]);have C:ES (k+13) rr d b (J++[B0])=_:=C;rw[Vn];simp only[Ae,t,em,AI,An,Abr,By,l0,l1,l2,C];cases hv:valid rr d b with
 | false=>
   simp only[Ac7,IS];have K:Ge m sp rr d b=((0,2),m,⟨sp,0,0,0,0,0⟩):=by unfold Ge Ro; rw[hv]; rfl
   refine ⟨_,by rw[K], ?_,(Mv.app _ _ _).trans (Mv.app _ _ _)⟩;unfold NO;rw[K,Abo (show ¬ (2:Int)=0 by decide)];exact T1.app H
 | true=>
   have T2:=T1.app H;obtain ⟨J1_,n,⟨τ2,f⟩⟩:=vT (k+10) T2.h sp 0;have n:LP (k+13) (AU i) sp 0 (J++[B0]++H)=_:=n;rw[Abm ⟨x,by decide⟩] at n;obtain ⟨A0,o⟩:∃ A0,Au.cells ((⟨sp,0,0,0,0,0⟩:AS).row i.hb) Cw true=A0:=⟨_,rfl⟩;rw[o] at n;have T3:Lc (J1_++[A0]) i p c m r s:=by rw[f]; exact (T2.app τ2).app _
   have hA:DX (J1_++[A0]) J1_.length i ⟨sp,0,0,0,0,0⟩:=by rw[<- o]; exact Abv
   have O:J.length<J1_.length:=by rw[f]; simp only[Abe,Ac3]; omega
   have E:J1_.length ∉ i.l:=fun w=>by have:=T.h.lt _ w; omega
   have S:(J1_++[A0])[J.length]?=some B0:=by
    rw[f,AT (by simp only[Abe,Ac3]; omega),AT (by simp only[Abe,Ac3]; omega),AT (by simp)];exact I
   obtain ⟨l3,l4,l5⟩:=y _ S;obtain ⟨J2_,A,B,_,M⟩:=ql k hk (a:=⟨sp,0,0,0,0,0⟩) rfl T3.h hA E ⟨x,by dsimp only; omega,by dsimp only; omega,by dsimp only; omega,by dsimp only; omega,by dsimp only; omega⟩ T.mo hb rr d b;have V:=Za T.mo sp rr d b;have A:Dd (k+13) (Qc J1_.length) rr d b (J1_++[A0])=some (.tuple #[qIi (Ge m sp rr d b).1.1,qIi (Ge m sp rr d b).1.2],J2_):=A;have B:Al J2_ i (Ge m sp rr d b).2.1:=B;unfold NO;generalize Ge m sp rr d b=z at *;obtain ⟨⟨v,e⟩,m',a'⟩:=z;simp only at A B V ⊢;have T4:Lc J2_ i p c m' r s/\Mv (i.l++c.l) (i.l++c.l) J J2_:=by
    have hl:=M.len;rw[Abe,Ac3] at hl;have low:∀ q,q<J.length->(J1_++[A0])[q]?=J[q]?:=fun q G=>by
     rw[f,AT (by simp only[Abe,Ac3]; omega),AT (by simp only[Abe,Ac3]; omega),AT (by simp only[Abe,Ac3]; omega),AT G]
    have N:Br i J J2_:=⟨by omega,fun q G hn=>by rw[M.same q (by rw[Abe]; omega) hn (by omega),low q G]⟩;exact ⟨T.fK B N V.hm V.len,N.mv.left c.l⟩
   simp only[Abr,By,AI,T2.co.HI,IN,Abn] at *;simp only[n,LF,Abt,By,l3,l4,l5,AI,A,B9];by_cases h0:e=0
   ·subst h0;rcases V.st with ⟨_,Q,_⟩ | ⟨w,_⟩
    rotate_left
    ·exact absurd rfl w
    obtain ⟨j,rfl,hs⟩:=AV Q.has;have g:Kv s<4:=by
     unfold Kv;split
     ·rcases u with h | h <;> rw[h] <;> decide
     ·split <;> decide
    have hj:j<32*m.bls.length:=by have:=hs.1; rw[V.len] at this; exact this
    obtain ⟨J3_,D,h4,P⟩:=cM (k+3) T4.1.co hs.1 g;have D:CM (k+13) (D2 c) ((2*j:Nat):Int) (Kv s:Int) J2_=_:=D;have hzero:CG 2 s.ws j=0:=Adl fun w=>by
     have:=hz j hj w;rw[Q.IX] at this; cases this
    have tk:Qw m'.bls.length (Eb s ((2*j:Nat):Int) (Kv s)):=T4.1.tok.zC hs.1 g (.inr hzero);refine ⟨J3_, ?_, ?_,T4.2.trans (P.right i.l)⟩
    ·have hc:∃ l,([qIi 0,qIi s.born,qIi 2]:List Value)[s.ph.toNat*1]?=some l/\Bl .i64 l=some (Kv s:Int)/\(0<=s.ph/\s.ph<((3:Nat):Int)):=by
      unfold Kv;rcases F with h | h | h <;> rw[h]
      ·exact ⟨_,rfl,rfl,by decide⟩
      ·rcases u with L | L <;> rw[L] <;> exact ⟨_,rfl,rfl,by decide⟩
      ·exact ⟨_,rfl,rfl,by decide⟩
     obtain ⟨l,U,W,X⟩:=hc;have Y:Aj .i64 J2_ c.cb 3=some s.born:=by simp[Aj,CV,T4.1.co.cell,GD,Bl]
     simp only[Adr,IS,AI,Y,T4.1.co.dW,Abm X,U,W,D,Gg,Aah]
    ·rw[Abm rfl];exact T4.1.Qe h4 P tk
   ·rw[show (e == 0)=false from by simpa using h0];simp only[By,AI,Aah];exact ⟨J2_,rfl,by rw[Abo h0]; exact T4.1,T4.2⟩
end
section
local instance qKL:AH:=Ao
variable {J:Aa} {m m':HM} {r:D3} {s:TC} {i:Cp} {p:PI} {c:CI} {kb:Nat}
abbrev KJ (kb:Nat):qOi:=some ⟨kb,0,none⟩
structure VO (J:Aa) (kb:Nat) (i:Cp) (p:PI) (c:CI) (m:HM) (r:D3) (s:TC):Prop where
 col:J[kb]?=some (.cells [qVi (D2 c)] IB true)
 t:Lc J i p c m r s
 nk:kb ∉ i.l/\kb ∉ p.l/\kb ∉ c.l
theorem VO.app (h:VO J kb i p c m r s) (τ:Aa):VO (J++τ) kb i p c m r s:=⟨(AT (Af h.col)).trans h.col,h.t.app τ,h.nk⟩
theorem VO.core (k:Nat) (h:VO J kb i p c m r s):Ap (k+1) (KJ kb) J=some (qVi (D2 c),J):=by
 have a:B7 J kb 0=some (D2 c):=by simp[B7,CV,h.col,HO]
 rw[L6];simp only[show Ll P DQ (qVi (KJ kb)) (qVi none)=some false from by kernel_rfl,AI,By,IN,a]
def KG (mm:Option (Value × Aa)) (J:Aa) (kb:Nat) (i:Cp) (p:PI) (c:CI) (r:D3) (v:Value) (q:HM × TC):Prop:=
 ∃ J' a,mm=some (v,J')/\VO J' kb i p a q.1 r q.2/\Mv (i.l++c.l) (i.l++a.l) J J'/\a.cb=c.cb
theorem VO.go (h:VO J kb i p c m r s) {mm mm':Option (Value × Aa)} {v w:Value} {q:HM × TC} (g:TG mm J i p c r v q) (e:∀ J',mm=some (v,J')->mm'=some (w,J')):KG mm' J kb i p c r w q:=by
 obtain ⟨J',f,j,T,hm,b⟩:=g;have d:kb ∉ i.l++c.l:=fun a=>(Aag.1 a).elim h.nk.1 h.nk.2.2;have lt:=Af h.col;refine ⟨J',f,e J' j,⟨?_,T,h.nk.1,h.nk.2.1,fun a=>?_⟩,hm,b⟩
 ·rw[hm.same kb lt d,h.col]; unfold D2; rw[b]
 ·rcases hm.new kb (Aag.2 (.inr a)) with h1 | h1
  ·exact d h1
  ·omega
theorem fQ (k:Nat) (b:5000<=k) (h:VO J kb i p c m r s) (hp:s.ph=0) (hs:U3 m r=true):KG (Ch (k+14) (KJ kb) J) J kb i p c r (qIi 0) (m,U4 m r s):=
 h.go (tH k b h.t hp hs) fun J' e=>by
  rw[Pv];have a:Ap (k+13) (KJ kb) J=_:=h.core (k+12);simp only[a,AI,HO,e,Ah]
theorem kA (k:Nat) (d:20000<=k) (h:VO J kb i p c m r s) {N:Nat} (h1:1<=N) (b:N<=10000):KG (BZ (k+17) (KJ kb) (N:Int) J) J kb i p c r (.tuple #[qIi ((EL r N (m,s)).1:Int),qIi 0]) (EL r N (m,s)).2:=
 h.go (wG k d h.t h1 b) fun J' e=>by
  rw[Qi];have a:Ap (k+16) (KJ kb) J=_:=h.core (k+15);simp only[a,AI,HO,e,B9]
theorem nD (k:Nat) (j:20000<=k) (h:VO J kb i p c m r s):KG (Fx (k+17) (KJ kb) J) J kb i p c r (.tuple #[qIi ((EL r 7000 (m,s)).1:Int),qIi 0]) (Aa0 r (m,s)):=by
 have em:AP (k+15) (D2 c) J=_:=KH (k+14) h.t.co;obtain ⟨J',d,e,a,m',b,l⟩:=WH k (by omega) c.cb 7000 0 (k+15) J c m s h.t rfl (gS h.t.tok h.t.mo.nt) (by omega) (by omega);rw[show ((0:Nat):Int)=0 from rfl] at e;have g:I8 (k+16) (D2 c) J=some (.tuple #[qIi ((EL r 7000 (m,s)).1:Int),qIi 0],J'):=by
  rw[TT];simp only[em,AI,An,Abr,By,e,Aah,Ey,IN]
 refine h.go ⟨J',d,g,a,m',b⟩ fun J' e=>?_;rw[OT];have f:Ap (k+16) (KJ kb) J=_:=h.core (k+15);simp only[f,AI,HO,e,B9]
theorem UF (k:Nat) (h:VO J kb i p c m r s):Be (k+3) (KJ kb) J=some (qIi s.ph,J):=by
 rw[Pu];have a:Ap (k+2) (KJ kb) J=_:=h.core (k+1);have b:Jp (k+2) (D2 c) J=some (qIi s.ph,J):=by
  rw[Vp];simp only[KH k h.t.co,AI,An,Abr,By,IN,Abn,h.t.co.dW]
 simp only[a,AI,HO,b,Ah]
theorem rH (k:Nat) (h:VO J kb i p c m r s):Ex (k+3) (KJ kb) J=some (qIi s.freed,J):=by
 rw[Pt];have a:Ap (k+2) (KJ kb) J=_:=h.core (k+1);have b:Jo (k+2) (D2 c) J=some (qIi s.freed,J):=by
  rw[Vo];have em:AP (k+1) (D2 c) J=_:=KH k h.t.co;simp only[em,AI,An,Abr,By,IN,Abn,h.t.co.ld8]
 simp only[a,AI,HO,b,Ah]
theorem k9 (k:Nat) (h:VO J kb i p c m r s):∃ l τ,Da (k+3) (KJ kb) J=some (.slice l.1 l.2.1 l.2.2,J++τ)/\Bh (J++τ) l s.list:=by
 have e:=h.t.mo.nt;have hlen:=h.t.tok.len;obtain ⟨l,τ,a,li,_⟩:=WT k c.ls.1 s.list.length s.list (by omega) h.t.co.ls.holds;refine ⟨l,τ, ?_,li⟩;rw[Qg];have b:Ap (k+2) (KJ kb) J=_:=h.core (k+1);have d:JQ (k+2) (D2 c) J=some (.slice l.1 l.2.1 l.2.2,J++τ):=by
  rw[Wg];have em:AP (k+1) (D2 c) J=_:=KH k h.t.co;simp only[em,AI,An,Abr,By,IN,Abn,h.t.co.ux,a,Ej]
 simp only[b,AI,HO,d,Ej]
def wV (m:HM) (s:TC) (a:Int):Int:=if Ax m a then (C9 s a:Int) else -1
theorem nC (k:Nat) (h:VO J kb i p c m r s) (a:Int) (g:AO a):DW (k+7) (KJ kb) a J=some (qIi (wV m s a),J):=by
 have b:Ap (k+6) (KJ kb) J=_:=h.core (k+5);have em:AP (k+5) (D2 c) J=_:=KH (k+4) h.t.co;have d:Bc (k+5) (AU i) a J=_:=Te (k+1) h.t.h a g;have f:I7 (k+6) (D2 c) a J=some (qIi (wV m s a),J):=by
  rw[TS];simp only[em,AI,An,Abr,By,IN,Abn,h.t.co.HI,d];unfold wV;cases j:Ax m a with
  | false=>rfl
  | true=>
    have e:CE (k+5) (D2 c) a J=_:=nT (k+1) h.t.co j;simp only[Abr,By,e,AI,Ah,Aah]
 rw[OS];simp only[b,AI,HO,f,Ah]
theorem Yp (k:Nat) (x:5000<=k) (h:VO J kb i p c m r s) (hb:m.births<1000000) (y:Zc m s) (g:s.ph=0\/s.ph=1\/s.ph=2) (f:s.born=0\/s.born=2) (rr d a:Int) {sp:Int} (j:0<=sp/\sp<8):
  KG (B6 (k+15) (KJ kb) rr d a sp J) J kb i p c r (.tuple #[qIi (Ge m sp rr d a).1.1,qIi (Ge m sp rr d a).1.2]) ((Ge m sp rr d a).2.1,NO m s sp rr d a):=by
 obtain ⟨B0,b⟩:∃ B0,Au.cells [qIi rr,qIi d,qIi a] Ad true=B0:=⟨_,rfl⟩;have h1:=h.app [B0];obtain ⟨J',e,T,hm⟩:=mg k x h1.t hb y g f rr d a j;have n:(J++[B0])[J.length]?=some B0:=Abv;have ld:Aj .i64 (J++[B0]) J.length 0=some rr/\Aj .i64 (J++[B0]) J.length (0+1)=some d/\Aj .i64 (J++[B0]) J.length (0+1+1)=some a:=by
  simp[Aj,CV,n,<- b,Bl]
 obtain ⟨z,A,B⟩:=ld;obtain ⟨J2_,t,u,w,C,o⟩:=h1.go (q:=((Ge m sp rr d a).2.1,NO m s sp rr d a)) ⟨J',c,e,T,hm,rfl⟩ (mm':=some (.tuple #[qIi (Ge m sp rr d a).1.1,qIi (Ge m sp rr d a).1.2],J')) (fun J' l=>by rw[e] at l; rw[Ad8 l]);refine ⟨J2_,t, ?_,w,(Mv.app _ _ _).trans C,o⟩;have v:Ap (k+14) (KJ kb) (J++[B0])=_:=h1.core (k+13);rw[Ps];simp only[Ae,b,v,AI,HO,z,A,B,e,B9];exact u
def IA (m:HM) (s:TC) (a:Int):TC:=if s.ph=1 then Cu m s a else s
theorem XJ (k:Nat) (T:Lc J i p c m r s) (a:Int) (f:AO a):TG (CQ (k+12) (D2 c) a J) J i p c r (.tuple #[]) (m,IA m s a):=by
 rw[TU];simp only[AI,IN,T.co.dW];unfold IA;by_cases h:s.ph=1
 ·obtain ⟨J',d,e,b,hm,g⟩:=WM k T (by rw[h]; decide) a f;rw[Abm h,show (s.ph == 1)=true from by rw[h]; rfl];refine ⟨J',d, ?_,b,hm.right i.l,g⟩;simp only[IS,e,AI,Gg,Aah]
 ·rw[Abo h,show (s.ph == 1)=false from by simpa using h];simp only[By,AI,Aah];exact ⟨J,c,rfl,T,Mv.refl _ _,rfl⟩
theorem tw (k:Nat) (T:Lc J i p c m r s) (a x:Int) (b:AO a):∃ τ,FK (k+8) (D2 c) a x J=some (.tuple #[qIi (AA m a x),qIi (K6 m a x false).2],J++τ):=by
 obtain ⟨τ,e⟩:=Vw k T.h T.mo.inv a x b;have e:AL (k+7) (AU i) a x J=some (.tuple #[qIi (AA m a x),qIi (K6 m a x false).2],J++τ):=e;refine ⟨τ, ?_⟩;rw[WX];have em:AP (k+7) (D2 c) J=_:=KH (k+6) T.co;simp only[em,AI,An,Abr,By,IN,Abn,T.co.HI,e,B9]
theorem ZV (k:Nat) (T:Lc J i p c m r s):Co (k+1) (D2 c) J=some (qVi (AU i),J):=by
 rw[Wf];simp only[AI,IN,T.co.HI]
theorem oh (c:Inv m) {a x:Int} (h0:0<=x) (b:x<(Ag m a).1):(K6 m a x false).2=0:=by
 have d:=dv b h0;obtain ⟨j,rfl,hs⟩:=AV d;rw[F4 hs] at b;obtain ⟨n,rfl⟩:∃ n:Nat,x=(n:Int):=⟨x.toNat,by omega⟩;unfold K6;rw[RE c hs b,Abm rfl]
theorem Xx (T:Lc J i p c m r s) (a x:Int):AO (AA m a x):=UJ T.h.wi a x
end
end
end Go.Proofs.YtjbledomkmdkmaaGreat
