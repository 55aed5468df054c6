/- Part 10. -/
import Derived.Test.YtjbledomkmdkmaaGreatRows
import Derived.Test.YtjbledomkmdkmaaGreatChecked
import Derived.Deep.Slices
import Derived.DataShut
import Derived.Lib.SmallJoins
import Derived.Test.YtjbledomkmdkmaaGreatP7
import Derived.Test.YtjbledomkmdkmaaGreatP5
import Derived.Test.YtjbledomkmdkmaaGreatP6
set_option linter.unusedVariables false
set_option linter.unusedSimpArgs false
set_option linter.unusedSectionVars false
namespace Go.Proofs.YtjbledomkmdkmaaGreat
open Go Go.AX Go.RowKit Go.ChangeShapes Go.WideShapes Go.ChangeAt
noncomputable section
theorem own:ownKnob Tryz.prog.godebug=none:=by kernel_rfl
theorem laidOut:laidOutB Tryz.prog=true:=by kernel_rfl
theorem yG {α:Type}:∀ (l:List α),l.length=7 -> ∃ a b c d e f g,l=[a,b,c,d,e,f,g]
 | [a,b,c,d,e,f,g],_=>⟨a,b,c,d,e,f,g,rfl⟩
structure El (α:Type) where
 T:TypeId
 z:Nat
 cells:α->List Value
 ok:α->Prop
def plain (v:Value):Prop:=(∃ k n,v = .int k n) \/ ∃ b,v = .bool b
structure ZF {α:Type} (e:El α):Prop where
 zc:P.cellsOf e.T=e.z
 z0:0<e.z
 len:∀ y,(e.cells y).length=e.z
 one:∀ y,∀ v ∈ e.cells y,plain v
 rd:∀ {H:Type} {enc:TypeId × Value->H} {W:World} {base:Nat} {sp:Nat->Bool} {hd:Bool} {fuel:Nat} {cs:List Value} {x:DataW H × List MemPlace},cs.length=e.z->DataW.trod enc P W base sp hd fuel e.T cs=some x -> ∃ y,e.ok y/\cs=e.cells y
def El.row {α:Type} (e:El α):List α->List Value
 | []=>[]
 | x::l=>e.cells x++e.row l
section
variable {α:Type} {e:El α}
theorem jd (he:ZF e):∀ l:List α,(e.row l).length=e.z*l.length
 | []=>by simp[El.row]
 | x::l=>by
   simp only[El.row,Aaw,jd he l,he.len,Adl];rw[Nat.mul_add,Acg]; omega
theorem jc (he:ZF e):∀ (l:List α) (x:Nat) (b:x<l.length) (q:Nat),q<e.z->(e.row l)[x*e.z+q]?=(e.cells l[x])[q]?
 | y::l,0,b,q,a=>by
   simp only[El.row,Ad6,IN,Af5];rw[AT (by rw[he.len]; exact a)]
 | y::l,x+1,b,q,a=>by
   have h1:x<l.length:=by simpa using b
   simp only[El.row,Agk];have c:(x+1)*e.z=e.z+x*e.z:=by rw[Af6]; omega
   rw[Acf (by rw[he.len,c]; omega),he.len,<- jc he l x h1 q a];congr 1;rw[c]; omega
theorem vo {Z:Mu} {v:Value} (h:plain v):RV Z v v:=by
 rcases h with ⟨k,n,rfl⟩ | ⟨b,rfl⟩
 ·exact .int _ _
 ·exact .bool _
theorem gI {Z:Mu}:∀ {l:List Value},(∀ v ∈ l,plain v)->J5 Z l l
 | [],_=>.nil
 | v::l,h=>.cons (vo (h v (by simp))) (gI fun v a=>h v (by simp[a]))
theorem YJ (he:ZF e):∀ (l:List α),∀ v ∈ e.row l,plain v
 | [],v,h=>by simp[El.row] at h
 | x::l,v,h=>by
   simp only[El.row,Aas] at h;rcases h with h | h
   ·exact he.one x v h
   ·exact YJ he l v h
theorem Zo {p:Nat->α->Prop}:∀ (n:Nat),(∀ i,i<n -> ∃ a,p i a) -> ∃ l:List α,l.length=n /\ ∀ i (h:i<l.length),p i l[i]
 | 0,_=>⟨[],rfl,fun i h=>by simp at h⟩
 | n+1,h=>by
   obtain ⟨l,c,hp⟩:=Zo n fun i hi=>h i (by omega);obtain ⟨a,d⟩:=h n (by omega);refine ⟨l++[a],by simp[c],fun i hi=>?_⟩;by_cases b:i<l.length
   ·rw[Afw b]; exact hp i b
   ·have:i=l.length:=by simp at hi; omega
    subst this;rw[Ae8 (Aa1 _)];simp[c]; exact d
def PE (e:El α) (W:World) (v:Value) (l:List α):Prop:=
 (∀ x ∈ l,e.ok x)/\((l=[] /\ ∃ a,∀ Z,RV Z (.slice a 0 0) v) \/
  ∃ k,(∀ Z,dW P Z (.cells (e.row l) e.T false) k W.heap[k.b]?)/\k.b<W.heap.size /\ ∀ Z h,Z h=some k->RV Z (.slice (some ⟨h,0,none⟩) l.length l.length) v)
set_option maxRecDepth 100000 in
theorem Rl (he:ZF e) {ST:TypeId} {H:Type} {enc:TypeId × Value->H} {W:World} {hd:Bool} {fuel:Nat} {z:List Value} {x:DataW H × List MemPlace} (ht:Tryz.prog.underlying ST=some (.slice e.T)) (hf:DataW.trod enc Tryz.prog W 0 (fun _=>true) hd fuel ST z=some x):
  ∃ v,z=[v]/\(∃ a len cap,v = .slice a len cap) /\ ∃ l:List α,PE e W v l:=by
 have V:=he.z0;rcases Go.Deep.open_slice ht hf with ⟨h1,_⟩ | ⟨a,len,cap,g,n,D,Pl,h1,_,S,aa,U,_,Q⟩
 ·exact ⟨_,h1,⟨_,_,_,rfl⟩,[],(fun x u=>by simp at u),.inl ⟨rfl,none,fun _=>.sliceNil⟩⟩
 ·refine ⟨_,h1,⟨_,_,_,rfl⟩, ?_⟩;have hm:g=cap:=by simpa using U
  subst hm;by_cases P:g=0
  ·subst P;obtain rfl:len=0:=by omega
   exact ⟨[],(fun x u=>by simp at u),.inl ⟨rfl,some ⟨0,0,some 0⟩,fun _=>.sliceZ a rfl⟩⟩
  have f:∀ q,q<g -> ∃ j,W.cells? 0 (a.add (q*e.z)) e.z=some j /\ ∃ y:α,e.ok y/\j=e.cells y:=by
   intro q t;obtain ⟨j,G,I⟩:=Q q t;rw[show Tryz.prog.cellsOf e.T=e.z from he.zc] at G;obtain ⟨_,O,_⟩:=Ah0 G;exact ⟨j,G,he.rd O I⟩
  obtain ⟨z,f1,_,_⟩:=f 0 (by omega);obtain ⟨_,f2,f3⟩:=Ah0 f1;have f4:=f3 0 V;have hz:(a.add (0*e.z)).add 0=a:=by simp[Addr.add]
  rw[hz] at f4;have d:∃ v0,W.cell? a=some v0:=by
   rw[f4]; exact ⟨_,Aau (by omega)⟩
  obtain ⟨v0,d⟩:=d;have K:∃ c T F,W.heap[a.block]?=some (.cells c T F)/\a.spot=none:=by
   unfold World.cell? at d;split at d
   ·rename_i c T F hb;split at d
    ·cases d
    ·rename_i i;exact ⟨c,T,F,hb,by simpa using i⟩
   ·cases d
  obtain ⟨c,T,F,hb,i⟩:=K;have A:∀ o,W.cell? ⟨a.block,a.off+o,none⟩=c[a.off+o]?:=by
   intro o; simp[World.cell?,hb]
  have J:∀ q r,(a.add (q*e.z)).add r=⟨a.block,a.off+(q*e.z+r),none⟩:=by
   intro q r;obtain ⟨b,o,s⟩:=a;simp only at i;subst i;unfold Addr.add;by_cases h1:q*e.z=0
   ·by_cases E:r=0 <;> simp[h1,E]
   ·by_cases E:r=0 <;> simp[h1,E] <;> omega
  obtain ⟨l,hl,L⟩:=Zo (α:=α) (p:=fun q y=>e.ok y/\W.cells? 0 (a.add (q*e.z)) e.z=some (e.cells y)) g (fun q t=>by
   obtain ⟨j,G,y,I,O⟩:=f q t;exact ⟨y,I,by rw[<- O]; exact G⟩);have w:∀ q (t:q<l.length) r,r<e.z->c[a.off+(q*e.z+r)]?=(e.cells (l[q]))[r]?:=by
   intro q t r N;obtain ⟨_,I⟩:=L q t;obtain ⟨_,_,X⟩:=Ah0 I;rw[<- A,<- J,X r N]
  have m:=w (g-1) (by omega) (e.z-1) (by omega);have ab:(g-1)*e.z+e.z=g*e.z:=by
   have:g*e.z=(g-1+1)*e.z:=by rw[Nat.sub_add_cancel (by omega)]
   rw[this,Af6,Ais]
  have C:a.off+g*e.z<=c.size:=by
   have Y:e.z-1<(e.cells (l[g-1]'(by omega))).length:=by rw[he.len]; omega
   rw[Aau Y] at m;have:=(Ags.1 m).1;omega
  have B:(l.take len).length=len:=by simp; omega
  have M:((c.toList.drop a.off).take (e.z*len))=e.row (l.take len):=by
   apply Ad8;intro x;by_cases u:x<e.z*len
   ·rw[Ad2,Aay u,Ad0,Afa];have t:x/e.z<len:=Nat.div_lt_of_lt_mul u;have N:x % e.z<e.z:=Aev _ V;have ex:x/e.z*e.z+x % e.z=x:=by have:=Ag0 x e.z; rw[Agj] at this; exact this
    have h1:=jc he (l.take len) (x/e.z) (by omega) (x % e.z) N;rw[ex] at h1;rw[h1,Aes];have E:=w (x/e.z) (by omega) (x % e.z) N;rw[ex] at E;exact E
   ·rw[Ad2,Aaz u,Adr];rw[jd he,B]; omega
  refine ⟨l.take len, ?_,.inr ⟨⟨a.block,a.off,e.z,e.z*len,e.z*g⟩,fun Z=>?_,(Ags.1 hb).1,fun Z h hk=>?_⟩⟩
  ·intro x u;obtain ⟨q,t,rfl⟩:=Ad7.1 u;rw[Aes];exact (L q (by simp at t; omega)).1
  ·refine ⟨c,T,F,hb,by rw[jd he,B],by dsimp only; exact Nat.mul_le_mul_left _ (by omega),by dsimp only; rw[Agj]; exact C,he.zc.symm,(fun h=>by cases h), ?_, ?_⟩
   ·intro v hv;rcases YJ he _ v hv with ⟨k,n,rfl⟩ | ⟨b,rfl⟩ <;> rfl
   ·rw[M];exact gI (YJ he _)
  ·rw[B];have:=RV.slice (Z:=Z) (a:=⟨h,0,none⟩) (k:=⟨a.block,a.off,e.z,e.z*len,e.z*g⟩) (l:=len) (c:=len) (c':=g) hk rfl (Aa1 _) S (by dsimp only; rw[IN,Agj]; exact Aa1 _);have ha:(⟨a.block,a.off+0,none⟩:Addr)=a:=by
    obtain ⟨b,o,s⟩:=a;simp only at i;subst i; rfl
   simp only[ha] at this;exact this
set_option maxRecDepth 100000 in
theorem Aag (he:ZF e) {ST:TypeId} {H:Type} {enc:TypeId × Value->H} {W:World} {c:Nat} {v:Value} {d:DataW H} {p:List MemPlace} (b:Tryz.prog.underlying ST=some (.slice e.T)) (a:Value.okWide Tryz.prog W .any c ST v) (h:DataW.Trod enc Tryz.prog W 0 (fun _=>true) true ST v d p):
  ∃ l:List α,PE e W v l:=by
 obtain ⟨i,len,cap,rfl⟩:=okWide_slice b a;obtain ⟨fuel,g⟩:=h;obtain ⟨v,h1,_,f⟩:=Rl he b g;simp[Value.cells] at h1;rw[h1]; exact f
def Tt (e:El α) (J:Aa) (p:qOi) (l:List α):Prop:=l=[] \/ ∃ ab,p=some ⟨ab,0,none⟩/\J[ab]?=some (.cells (e.row l) e.T false)
theorem Tt.ld (he:ZF e) {J:Aa} {p:qOi} {l:List α} (h:Tt e J p l) {x:Nat} (b:x<l.length):∃ ab,p=some ⟨ab,0,none⟩/\ab<J.length /\ ∀ q,q<e.z->CW J ab (x*e.z+q)=(e.cells l[x])[q]?:=by
 rcases h with rfl | ⟨ab,h1,a⟩
 ·simp at b
 ·exact ⟨ab,h1,(Ab6.1 a).1,fun q c=>by simp only[CW,a]; exact jc he l x b q c⟩
theorem Tt.Ax {J J':Aa} {p:qOi} {l:List α} (h:Tt e J p l) (hs:∀ q,q<J.length->J'[q]?=J[q]?):Tt e J' p l:=by
 rcases h with h | ⟨ab,h1,a⟩
 ·exact .inl h
 ·exact .inr ⟨ab,h1,by rw[hs ab (Ab6.1 a).1]; exact a⟩
theorem Tt.app {J:Aa} {p:qOi} {l:List α} (h:Tt e J p l) (τ:Aa):Tt e (J++τ) p l:=by
 rcases h with h | ⟨ab,h1,a⟩
 ·exact .inl h
 ·exact .inr ⟨ab,h1,by rw[AT (Ab6.1 a).1]; exact a⟩
end
theorem Abu (W:World):R P (fun _=>none) [] W:=⟨fun h o k h1 _=>by simp at h1,fun h k h1=>(by cases h1),fun h a k b h1=>(by cases h1)⟩
structure Qh (W:World) (J:Aa) (Z:Mu):Prop where
 r:R P Z J W
 nw:∀ b,b<J.length->¬ AK J b
 fr:∀ hi,H8 Z J.length hi
theorem Qh.nil (W:World):Qh W [] (fun _=>none):=⟨Abu W,fun b hb=>absurd hb (Nat.not_lt_zero _),fun _ _ _ _=>rfl⟩
theorem Qh.add {W:World} {J:Aa} {Z:Mu} (h:Qh W J Z) {α:Type} {e:El α} {v:Value} {l:List α} (B:PE e W v l):
  ∃ i r τ m,Qh W (J++τ) m/\Tt e (J++τ) i l/\RV m (.slice i l.length r) v/\(∀ x y,RV Z x y->RV m x y)/\(∀ ab,i=some ab->l≠[]->ab.block<(J++τ).length):=by
 obtain ⟨_,⟨rfl,i,d⟩ | ⟨k,A,n,d⟩⟩:=B
 ·exact ⟨i,0,[],Z,by rw[Ab1]; exact h,.inl rfl,d _,fun _ _ h=>h,fun _ _ j=>absurd rfl j⟩
 ·have hle:Z.le (Z.put J.length k):=by
   intro a b c;by_cases q:a=J.length
   ·subst q;have:=h.fr (J.length+1) J.length (Aa1 _) (by omega);rw[this] at c; cases c
   ·simp[Mu.put,q,c]
  refine ⟨some ⟨J.length,0,none⟩,l.length,[.cells (e.row l) e.T false],Z.put J.length k,⟨⟨fun a o f h1 g=>?_,fun a f h1=>?_,fun a C f D h1 g w z hw _=>?_⟩,fun b hb=>?_,fun hi a h1 g=>?_⟩,.inr ⟨J.length,rfl,by simp⟩,d _ _ (by simp[Mu.put]),fun x y j=>j.mono hle,fun a u _=>by cases u; simp⟩
  ·by_cases q:a=J.length
   ·subst q;simp at h1; subst h1;have:k=f:=by simpa [Mu.put] using g
    subst this;exact A _
   ·have s:Z a=some f:=by simpa [Mu.put,q] using g
    have t:J[a]?=some o:=by
     rw[List.getElem?_append] at h1;split at h1
     ·exact h1
     ·rename_i j;have:=(Ab6.1 h1).1;simp at this; omega
    exact (h.r.obj a o f t s).mono hle
  ·by_cases q:a=J.length
   ·subst q;have:k=f:=by simpa [Mu.put] using h1
    subst this; exact n
   ·exact h.r.lt a f (by simpa [Mu.put,q] using h1)
  ·have p:∀ b,¬ AK (J++[Au.cells (e.row l) e.T false]) b:=by
    intro b;rcases Ae2 b J.length with q | q | q
    ·have:=h.nw b q;unfold AK at *;rw[AT q]; exact this
    ·subst q; simp[AK]
    ·unfold AK;rw[Adr (by simp; omega)]; simp
   rcases hw with hw | hw
   ·exact absurd hw (p _)
   ·exact absurd hw (p _)
  ·rcases Ael b J.length with q | q
   ·have:=h.nw b q;unfold AK at *;rw[AT q]; exact this
   ·have:b=J.length:=by simp at hb; omega
    subst this; simp[AK]
  ·simp at h1;have:a≠J.length:=by omega
   simp only[Mu.put,this,Aa5];exact h.fr hi a (by omega) g
theorem oR {f:Nat} (g:f≠YF) {k:Nat} {args gs:List Value} {J:Aa} {Z:Mu} {w:World}
  (h:∃ J',@fn Ao P X H k f args J=some (.bool true,J'))
  (a:Qh w J Z) (d:J5 Z args gs):
  Calls Tryz.prog f gs.toArray w fun x w'=>x = .returned (.bool true)/\Below w.heap.size w w':=by
 obtain ⟨J',h⟩:=h;obtain ⟨hlen,_,_,e⟩:=(@yD P Ao Tryz.checked.mixed X (@Adg Ao) Aap H k).fn _ _ _ _ _ g h;refine (e Z w gs.toArray a.r (a.fr _) (by simpa using d)).mono ?_;rintro x w' ⟨j,l,rfl,i,b,c⟩;cases i;exact ⟨rfl,et c a.nw⟩
end
end Go.Proofs.YtjbledomkmdkmaaGreat
