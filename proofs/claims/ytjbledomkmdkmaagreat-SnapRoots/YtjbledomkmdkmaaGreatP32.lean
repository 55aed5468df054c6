/-
 (LG of chapter 05, made wider.) Slices of elements of any plain kind, as they are handed in: read into the abstract memory, one behind the other.
-/
import Derived.Test.YtjbledomkmdkmaaGreatRows
import Derived.Test.YtjbledomkmdkmaaGreatChecked
import Derived.Deep.Slices
import Derived.DataShut
import Derived.Lib.SmallJoins
import Derived.Test.YtjbledomkmdkmaaGreatP17
import Derived.Test.YtjbledomkmdkmaaGreatP10
import Derived.Test.YtjbledomkmdkmaaGreatP11
set_option linter.unusedVariables false
set_option linter.unusedSimpArgs false
set_option linter.unusedSectionVars false
namespace Go.Proofs.YtjbledomkmdkmaaGreat
open Go Go.AX Go.RowKit Go.ChangeShapes Go.WideShapes Go.ChangeAt
noncomputable section
theorem own:ownKnob Tryz.prog.godebug=none:=by kernel_rfl
theorem laidOut:laidOutB Tryz.prog=true:=by kernel_rfl
theorem tz {α:Type}:∀ (l:List α),l.length=7 -> ∃ a b c d e f g,l=[a,b,c,d,e,f,g]
 | [a,b,c,d,e,f,g],_=>⟨a,b,c,d,e,f,g,rfl⟩
structure El (α:Type) where
 T:TypeId
 z:Nat
 cells:α->List Value
 ok:α->Prop
def plain (v:Value):Prop:=(∃ k n,v = .int k n) \/ ∃ b,v = .bool b
structure XL {α:Type} (e:El α):Prop where
 zc:P.cellsOf e.T=e.z
 z0:0<e.z
 len:∀ y,(e.cells y).length=e.z
 one:∀ y,∀ v ∈ e.cells y,plain v
 rd:∀ {H:Type} {enc:TypeId × Value->H} {W:World} {base:Nat} {sp:Nat->Bool} {hd:Bool} {fuel:Nat} {cs:List Value} {x:DataW H × List MemPlace},cs.length=e.z->DataW.trod enc P W base sp hd fuel e.T cs=some x -> ∃ y,e.ok y/\cs=e.cells y
def El.row {α:Type} (e:El α):List α->List Value
 | []=>[]
 | x::l=>e.cells x++e.row l
section
variable {α:Type} {e:El α}
theorem cP (he:XL e):∀ l:List α,(e.row l).length=e.z*l.length
 | []=>by simp[El.row]
 | x::l=>by
   simp only[El.row,yi,cP he l,he.len,ze];rw[Nat.mul_add,yH]; omega
theorem cO (he:XL e):∀ (l:List α) (x:Nat) (hx:x<l.length) (q:Nat),q<e.z->(e.row l)[x*e.z+q]?=(e.cells l[x])[q]?
 | y::l,0,hx,q,hq=>by
   simp only[El.row,zw,IN,Abc];rw[AT (by rw[he.len]; exact hq)]
 | y::l,x+1,hx,q,hq=>by
   have h1:x<l.length:=by simpa using hx
   simp only[El.row,Abq];have e0:(x+1)*e.z=e.z+x*e.z:=by rw[Abd]; omega
   rw[yD (by rw[he.len,e0]; omega),he.len,<- cO he l x h1 q hq];congr 1;rw[e0]; omega
theorem pS {Z:Mu} {v:Value} (h:plain v):RV Z v v:=by
 rcases h with ⟨k,n,rfl⟩ | ⟨b,rfl⟩
 ·exact .int _ _
 ·exact .bool _
theorem bm {Z:Mu}:∀ {l:List Value},(∀ v ∈ l,plain v)->It Z l l
 | [],_=>.nil
 | v::l,h=>.cons (pS (h v (by simp))) (bm fun v hv=>h v (by simp[hv]))
theorem Wo (he:XL e):∀ (l:List α),∀ v ∈ e.row l,plain v
 | [],v,h=>by simp[El.row] at h
 | x::l,v,h=>by
   simp only[El.row,yf] at h;rcases h with h | h
   ·exact he.one x v h
   ·exact Wo he l v h
theorem WI {p:Nat->α->Prop}:∀ (n:Nat),(∀ i,i<n -> ∃ a,p i a) -> ∃ l:List α,l.length=n /\ ∀ i (h:i<l.length),p i l[i]
 | 0,_=>⟨[],rfl,fun i h=>by simp at h⟩
 | n+1,h=>by
   obtain ⟨l,hl,hp⟩:=WI n fun i hi=>h i (by omega);obtain ⟨a,ha⟩:=h n (by omega);refine ⟨l++[a],by simp[hl],fun i hi=>?_⟩;by_cases hi':i<l.length
   ·rw[Aa3 hi']; exact hp i hi'
   ·have:i=l.length:=by simp at hi; omega
    subst this;rw[Aag (yj _)];simp[hl]; exact ha
def NU (e:El α) (W:World) (v:Value) (l:List α):Prop:=
 (∀ x ∈ l,e.ok x)/\((l=[] /\ ∃ pt,∀ Z,RV Z (.slice pt 0 0) v) \/
  ∃ k,(∀ Z,ZK P Z (.cells (e.row l) e.T false) k W.heap[k.b]?)/\k.b<W.heap.size /\ ∀ Z h,Z h=some k->RV Z (.slice (some ⟨h,0,none⟩) l.length l.length) v)
set_option maxRecDepth 100000 in
theorem Pz (he:XL e) {ST:TypeId} {H:Type} {enc:TypeId × Value->H} {W:World} {hd:Bool} {fuel:Nat} {cs0:List Value} {x:DataW H × List MemPlace} (ht:Tryz.prog.underlying ST=some (.slice e.T)) (hf:DataW.trod enc Tryz.prog W 0 (fun _=>true) hd fuel ST cs0=some x):
  ∃ v,cs0=[v]/\(∃ a len cap,v = .slice a len cap) /\ ∃ l:List α,NU e W v l:=by
 have z0:=he.z0;rcases Go.Deep.open_slice ht hf with ⟨h1,_⟩ | ⟨a,len,cap,mm,n,D,Pl,h1,_,hlc,hcm,hmm,_,hel⟩
 ·exact ⟨_,h1,⟨_,_,_,rfl⟩,[],(fun x hx=>by simp at hx),.inl ⟨rfl,none,fun _=>.sliceNil⟩⟩
 ·refine ⟨_,h1,⟨_,_,_,rfl⟩, ?_⟩;have hm:mm=cap:=by simpa using hmm
  subst hm;by_cases hc0:mm=0
  ·subst hc0;obtain rfl:len=0:=by omega
   exact ⟨[],(fun x hx=>by simp at hx),.inl ⟨rfl,some ⟨0,0,some 0⟩,fun _=>.sliceZ a rfl⟩⟩
  have hcells:∀ q,q<mm -> ∃ cs',W.cells? 0 (a.add (q*e.z)) e.z=some cs' /\ ∃ y:α,e.ok y/\cs'=e.cells y:=by
   intro q hq;obtain ⟨cs',g1,g2⟩:=hel q hq;rw[show Tryz.prog.cellsOf e.T=e.z from he.zc] at g1;obtain ⟨_,g3,_⟩:=Ada g1;exact ⟨cs',g1,he.rd g3 g2⟩
  obtain ⟨cs0,f1,_,_⟩:=hcells 0 (by omega);obtain ⟨_,f2,f3⟩:=Ada f1;have f4:=f3 0 z0;have hz:(a.add (0*e.z)).add 0=a:=by simp[Addr.add]
  rw[hz] at f4;have hc0':∃ v0,W.cell? a=some v0:=by
   rw[f4]; exact ⟨_,yg (by omega)⟩
  obtain ⟨v0,hc0'⟩:=hc0';have hblk:∃ c T fz,W.heap[a.block]?=some (.cells c T fz)/\a.spot=none:=by
   unfold World.cell? at hc0';split at hc0'
   ·rename_i c T fz hb;split at hc0'
    ·cases hc0'
    ·rename_i hsp;exact ⟨c,T,fz,hb,by simpa using hsp⟩
   ·cases hc0'
  obtain ⟨c,T,fz,hb,hsp⟩:=hblk;have hcell:∀ o,W.cell? ⟨a.block,a.off+o,none⟩=c[a.off+o]?:=by
   intro o; simp[World.cell?,hb]
  have hadd:∀ q r,(a.add (q*e.z)).add r=⟨a.block,a.off+(q*e.z+r),none⟩:=by
   intro q r;obtain ⟨b,o,s⟩:=a;simp only at hsp;subst hsp;unfold Addr.add;by_cases h1:q*e.z=0
   ·by_cases h2:r=0 <;> simp[h1,h2]
   ·by_cases h2:r=0 <;> simp[h1,h2] <;> omega
  obtain ⟨l,hl,hlp⟩:=WI (α:=α) (p:=fun q y=>e.ok y/\W.cells? 0 (a.add (q*e.z)) e.z=some (e.cells y)) mm (fun q hq=>by
   obtain ⟨cs',g1,y,g2,g3⟩:=hcells q hq;exact ⟨y,g2,by rw[<- g3]; exact g1⟩);have hget:∀ q (hq:q<l.length) r,r<e.z->c[a.off+(q*e.z+r)]?=(e.cells (l[q]))[r]?:=by
   intro q hq r hr;obtain ⟨_,g2⟩:=hlp q hq;obtain ⟨_,_,g4⟩:=Ada g2;rw[<- hcell,<- hadd,g4 r hr]
  have hlast:=hget (mm-1) (by omega) (e.z-1) (by omega);have hmz:(mm-1)*e.z+e.z=mm*e.z:=by
   have:mm*e.z=(mm-1+1)*e.z:=by rw[Nat.sub_add_cancel (by omega)]
   rw[this,Abd,Ad2]
  have hsize:a.off+mm*e.z<=c.size:=by
   have h9:e.z-1<(e.cells (l[mm-1]'(by omega))).length:=by rw[he.len]; omega
   rw[yg h9] at hlast;have:=(Ab1.1 hlast).1;omega
  have hlt:(l.take len).length=len:=by simp; omega
  have hrow:((c.toList.drop a.off).take (e.z*len))=e.row (l.take len):=by
   apply zy;intro x;by_cases hx:x<e.z*len
   ·rw[zt,yk hx,zs,Aai];have hq:x/e.z<len:=Nat.div_lt_of_lt_mul hx;have hr:x % e.z<e.z:=Aaq _ z0;have ex:x/e.z*e.z+x % e.z=x:=by have:=Ab9 x e.z; rw[Abp] at this; exact this
    have h1:=cO he (l.take len) (x/e.z) (by omega) (x % e.z) hr;rw[ex] at h1;rw[h1,Acg];have h2:=hget (x/e.z) (by omega) (x % e.z) hr;rw[ex] at h2;exact h2
   ·rw[zt,ym hx,zg];rw[cP he,hlt]; omega
  refine ⟨l.take len, ?_,.inr ⟨⟨a.block,a.off,e.z,e.z*len,e.z*mm⟩,fun Z=>?_,(Ab1.1 hb).1,fun Z h hk=>?_⟩⟩
  ·intro x hx;obtain ⟨q,hq,rfl⟩:=Ab4.1 hx;rw[Acg];exact (hlp q (by simp at hq; omega)).1
  ·refine ⟨c,T,fz,hb,by rw[cP he,hlt],by dsimp only; exact Nat.mul_le_mul_left _ (by omega),by dsimp only; rw[Abp]; exact hsize,he.zc.symm,(fun h=>by cases h), ?_, ?_⟩
   ·intro v hv;rcases Wo he _ v hv with ⟨k,n,rfl⟩ | ⟨b,rfl⟩ <;> rfl
   ·rw[hrow];exact bm (Wo he _)
  ·rw[hlt];have:=RV.slice (Z:=Z) (a:=⟨h,0,none⟩) (k:=⟨a.block,a.off,e.z,e.z*len,e.z*mm⟩) (l:=len) (c:=len) (c':=mm) hk rfl (yj _) hlc (by dsimp only; rw[IN,Abp]; exact yj _);have ha:(⟨a.block,a.off+0,none⟩:Addr)=a:=by
    obtain ⟨b,o,s⟩:=a;simp only at hsp;subst hsp; rfl
   simp only[ha] at this;exact this
set_option maxRecDepth 100000 in
theorem uN (he:XL e) {ST:TypeId} {H:Type} {enc:TypeId × Value->H} {W:World} {b0:Nat} {v:Value} {d:DataW H} {p:List MemPlace} (ht:Tryz.prog.underlying ST=some (.slice e.T)) (hval:Value.okWide Tryz.prog W .any b0 ST v) (h:DataW.Trod enc Tryz.prog W 0 (fun _=>true) true ST v d p):
  ∃ l:List α,NU e W v l:=by
 obtain ⟨a0,len,cap,rfl⟩:=okWide_slice ht hval;obtain ⟨fuel,hf⟩:=h;obtain ⟨v,h1,_,h2⟩:=Pz he ht hf;simp[Value.cells] at h1;rw[h1]; exact h2
def Ri (e:El α) (J:Aa) (p:Option Addr) (l:List α):Prop:=l=[] \/ ∃ ab,p=some ⟨ab,0,none⟩/\J[ab]?=some (.cells (e.row l) e.T false)
theorem Ri.ld (he:XL e) {J:Aa} {p:Option Addr} {l:List α} (h:Ri e J p l) {x:Nat} (hx:x<l.length):∃ ab,p=some ⟨ab,0,none⟩/\ab<J.length /\ ∀ q,q<e.z->D5 J ab (x*e.z+q)=(e.cells l[x])[q]?:=by
 rcases h with rfl | ⟨ab,h1,h2⟩
 ·simp at hx
 ·exact ⟨ab,h1,(yu.1 h2).1,fun q hq=>by simp only[D5,h2]; exact cO he l x hx q hq⟩
theorem Ri.Aw {J J':Aa} {p:Option Addr} {l:List α} (h:Ri e J p l) (hs:∀ q,q<J.length->J'[q]?=J[q]?):Ri e J' p l:=by
 rcases h with h | ⟨ab,h1,h2⟩
 ·exact .inl h
 ·exact .inr ⟨ab,h1,by rw[hs ab (yu.1 h2).1]; exact h2⟩
theorem Ri.app {J:Aa} {p:Option Addr} {l:List α} (h:Ri e J p l) (τ:Aa):Ri e (J++τ) p l:=by
 rcases h with h | ⟨ab,h1,h2⟩
 ·exact .inl h
 ·exact .inr ⟨ab,h1,by rw[AT (yu.1 h2).1]; exact h2⟩
end
theorem vL (W:World):R P (fun _=>none) [] W:=⟨fun h o k h1 _=>by simp at h1,fun h k h1=>(by cases h1),fun h h' k k' h1=>(by cases h1)⟩
structure Ow (W:World) (J:Aa) (Z:Mu):Prop where
 r:R P Z J W
 nw:∀ b,b<J.length->¬ Az J b
 fr:∀ hi,GL Z J.length hi
theorem Ow.nil (W:World):Ow W [] (fun _=>none):=⟨vL W,fun b hb=>absurd hb (Nat.not_lt_zero _),fun _ _ _ _=>rfl⟩
theorem Ow.add {W:World} {J:Aa} {Z:Mu} (h:Ow W J Z) {α:Type} {e:El α} {v:Value} {l:List α} (ho:NU e W v l):
  ∃ pt c2 τ Z',Ow W (J++τ) Z'/\Ri e (J++τ) pt l/\RV Z' (.slice pt l.length c2) v/\(∀ x y,RV Z x y->RV Z' x y)/\(∀ ab,pt=some ab->l≠[]->ab.block<(J++τ).length):=by
 obtain ⟨_,⟨rfl,pt,hrv⟩ | ⟨k,hk,hlt,hrv⟩⟩:=ho
 ·exact ⟨pt,0,[],Z,by rw[yw]; exact h,.inl rfl,hrv _,fun _ _ h=>h,fun _ _ hh=>absurd rfl hh⟩
 ·have hle:Z.le (Z.put J.length k):=by
   intro a b hab;by_cases q:a=J.length
   ·subst q;have:=h.fr (J.length+1) J.length (yj _) (by omega);rw[this] at hab; cases hab
   ·simp[Mu.put,q,hab]
  refine ⟨some ⟨J.length,0,none⟩,l.length,[.cells (e.row l) e.T false],Z.put J.length k,⟨⟨fun a o k1 h1 h2=>?_,fun a k1 h1=>?_,fun a a' k1 k2 h1 h2 ha1 ha2 hw _=>?_⟩,fun b hb=>?_,fun hi a h1 h2=>?_⟩,.inr ⟨J.length,rfl,by simp⟩,hrv _ _ (by simp[Mu.put]),fun x y hh=>hh.mono hle,fun a ha _=>by cases ha; simp⟩
  ·by_cases q:a=J.length
   ·subst q;simp at h1; subst h1;have:k=k1:=by simpa [Mu.put] using h2
    subst this;exact hk _
   ·have h3:Z a=some k1:=by simpa [Mu.put,q] using h2
    have h4:J[a]?=some o:=by
     rw[List.getElem?_append] at h1;split at h1
     ·exact h1
     ·rename_i hh;have:=(yu.1 h1).1;simp at this; omega
    exact (h.r.obj a o k1 h4 h3).mono hle
  ·by_cases q:a=J.length
   ·subst q;have:k=k1:=by simpa [Mu.put] using h1
    subst this; exact hlt
   ·exact h.r.lt a k1 (by simpa [Mu.put,q] using h1)
  ·have nw:∀ b,¬ Az (J++[Au.cells (e.row l) e.T false]) b:=by
    intro b;rcases Aaa b J.length with q | q | q
    ·have:=h.nw b q;unfold Az at *;rw[AT q]; exact this
    ·subst q; simp[Az]
    ·unfold Az;rw[zg (by simp; omega)]; simp
   rcases hw with hw | hw
   ·exact absurd hw (nw _)
   ·exact absurd hw (nw _)
  ·rcases zL b J.length with q | q
   ·have:=h.nw b q;unfold Az at *;rw[AT q]; exact this
   ·have:b=J.length:=by simp at hb; omega
    subst this; simp[Az]
  ·simp at h1;have:a≠J.length:=by omega
   simp only[Mu.put,this,yq];exact h.fr hi a (by omega) h2
theorem jz {f:Nat} (hf:f≠YF) {k:Nat} {args gs:List Value} {J:Aa} {Z:Mu} {w:World}
  (h:∃ J',@fn Ap P X H k f args J=some (.bool true,J'))
  (ho:Ow w J Z) (hV:It Z args gs):
  Calls Tryz.prog f gs.toArray w fun x w'=>x = .returned (.bool true)/\Below w.heap.size w w':=by
 obtain ⟨J',h⟩:=h;obtain ⟨hlen,_,_,hc⟩:=(@tv P Ap Tryz.checked.mixed X (@xe Ap) uR H k).fn _ _ _ _ _ hf h;refine (hc Z w gs.toArray ho.r (ho.fr _) (by simpa using hV)).mono ?_;rintro x w' ⟨Z',v',rfl,hv,hR',hS⟩;cases hv;exact ⟨rfl,ZN hS ho.nw⟩
end
end Go.Proofs.YtjbledomkmdkmaaGreat
