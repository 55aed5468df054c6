/- Slices of elements of any plain kind, as they are handed in: read into the abstract memory, one behind the other.; PRINTED BY A PROGRAM OF THIS SESSIO -/
import Derived.Test.YtlaplcglpnlieaaGreatRows
import Derived.Test.YtlaplcglpnlieaaGreatChecked
import Derived.Deep.Slices
import Derived.DataShut
import Derived.Lib.SmallJoins
import Derived.Test.YtlaplcglpnlieaaGreatP12
import Derived.Test.YtlaplcglpnlieaaGreatP6
import Derived.Test.YtlaplcglpnlieaaGreatP7
import Derived.Test.YtlaplcglpnlieaaGreatP23
import Derived.Test.YtlaplcglpnlieaaGreatP19
set_option linter.unusedVariables false
set_option linter.unusedSimpArgs false
set_option linter.unusedSectionVars false
section
namespace Go.Proofs.YtlaplcglpnlieaaGreat
open Go Go.AX Go.RowKit Go.ChangeShapes Go.WideShapes Go.ChangeAt
theorem own:ownKnob Tryz.prog.godebug=none:=by kernel_rfl
theorem laidOut:laidOutB Tryz.prog=true:=by kernel_rfl
theorem bN:Tryz.prog.underlying 3=some (.int .i64):=by kernel_rfl
theorem Qv {n:Int} (h:(Lit.int .i64 n).wf=true):AY n:=by
 rw[Lit.wf_int_iff] at h
 have h1:IntKind.i64.min = -9223372036854775808:=by decide
 have h2:IntKind.i64.max=9223372036854775807:=by decide
 rw[h1,h2] at h
 unfold AY; omega
theorem rA {α:Type}:∀ (l:List α),l.length=3 → ∃ a b c,l=[a,b,c]
 | [a,b,c],_=>⟨a,b,c,rfl⟩
theorem rB {α:Type}:∀ (l:List α),l.length=4 → ∃ a b c d,l=[a,b,c,d]
 | [a,b,c,d],_=>⟨a,b,c,d,rfl⟩
theorem rC {α:Type}:∀ (l:List α),l.length=6 → ∃ a b c d e f,l=[a,b,c,d,e,f]
 | [a,b,c,d,e,f],_=>⟨a,b,c,d,e,f,rfl⟩
structure El (α:Type) where
 T:TypeId
 z:Nat
 cells:α→List Value
 ok:α→Prop
def plain (v:Value):Prop:=(∃ n,v = .int .i64 n) ∨ ∃ b,v = .bool b
structure kI {α:Type} (e:El α):Prop where
 zc:P.cellsOf e.T=e.z
 z0:0<e.z
 len:∀ y,(e.cells y).length=e.z
 one:∀ y,∀ v ∈ e.cells y,plain v
 rd:∀ {H:Type} {enc:TypeId × Value→H} {W:World} {base:Nat} {sp:Nat→Bool} {hd:Bool} {fuel:Nat} {cs:List Value} {x:DataW H × List MemPlace},cs.length=e.z→DataW.trod enc P W base sp hd fuel e.T cs=some x → ∃ y,e.ok y∧cs=e.cells y
def El.row {α:Type} (e:El α):List α→List Value
 | []=>[]
 | x::l=>e.cells x++e.row l
section
variable {α:Type} {e:El α}
theorem eR (he:kI e):∀ l:List α,(e.row l).length=e.z*l.length
 | []=>by simp[El.row]
 | x::l=>by
   simp only[El.row,List.length_append,eR he l,he.len,List.length_cons]
   rw[Nat.mul_add,Nat.mul_one]; omega
theorem eQ (he:kI e):∀ (l:List α) (x:Nat) (hx:x<l.length) (q:Nat),q<e.z→(e.row l)[x*e.z+q]?=(e.cells l[x])[q]?
 | y::l,0,hx,q,hq=>by
   simp only[El.row,Nat.zero_mul,Nat.zero_add,List.getElem_cons_zero]
   rw[List.getElem?_append_left (by rw[he.len]; exact hq)]
 | y::l,x+1,hx,q,hq=>by
   have h1:x<l.length:=by simpa using hx
   simp only[El.row,List.getElem_cons_succ]
   have e0:(x+1)*e.z=e.z+x*e.z:=by rw[Nat.add_mul]; omega
   rw[List.getElem?_append_right (by rw[he.len,e0]; omega),he.len,← eQ he l x h1 q hq]
   congr 1
   rw[e0]; omega
theorem nQ {μ:Mu} {v:Value} (h:plain v):RV μ v v:=by
 rcases h with ⟨n,rfl⟩ | ⟨b,rfl⟩
 ·exact .int _ _
 ·exact .bool _
theorem dk {μ:Mu}:∀ {l:List Value},(∀ v ∈ l,plain v)→J9 μ l l
 | [],_=>.nil
 | v::l,h=>.cons (nQ (h v (by simp))) (dk fun v hv=>h v (by simp[hv]))
theorem Ys (he:kI e):∀ (l:List α),∀ v ∈ e.row l,plain v
 | [],v,h=>by simp[El.row] at h
 | x::l,v,h=>by
   simp only[El.row,List.mem_append] at h
   rcases h with h | h
   ·exact he.one x v h
   ·exact Ys he l v h
theorem YI {p:Nat→α→Prop}:∀ (n:Nat),(∀ i,i<n → ∃ a,p i a) → ∃ l:List α,l.length=n ∧ ∀ i (h:i<l.length),p i l[i]
 | 0,_=>⟨[],rfl,fun i h=>by simp at h⟩
 | n+1,h=>by
   obtain ⟨l,hl,hp⟩:=YI n fun i hi=>h i (by omega)
   obtain ⟨a,ha⟩:=h n (by omega)
   refine ⟨l++[a],by simp[hl],fun i hi=>?_⟩
   by_cases hi':i<l.length
   ·rw[List.getElem_append_left hi']; exact hp i hi'
   ·have:i=l.length:=by simp at hi; omega
    subst this
    rw[List.getElem_append_right (Nat.le_refl _)]
    simp[hl]; exact ha
def pR (e:El α) (W:World) (v:Value) (l:List α):Prop:=
 (∀ x ∈ l,e.ok x)∧((l=[] ∧ ∃ pt,∀ μ,RV μ (.slice pt 0 0) v) ∨
  ∃ k,(∀ μ,dS P μ (.cells (e.row l) e.T false) k W.heap[k.b]?)∧k.b<W.heap.size ∧ ∀ μ h,μ h=some k→RV μ (.slice (some ⟨h,0,none⟩) l.length l.length) v)
set_option maxRecDepth 100000 in
theorem qN (he:kI e) {ST:TypeId} {H:Type} {enc:TypeId × Value→H} {W:World} {b0:Nat} {v:Value} {d:DataW H} {p:List MemPlace} (ht:Tryz.prog.underlying ST=some (.slice e.T)) (hval:Value.okWide Tryz.prog W .any b0 ST v) (h:DataW.Trod enc Tryz.prog W 0 (fun _=>true) true ST v d p):
  ∃ l:List α,pR e W v l:=by
 have z0:=he.z0
 obtain ⟨a0,len,cap,rfl⟩:=okWide_slice ht hval
 obtain ⟨fuel,hf⟩:=h
 rcases Go.Deep.open_slice ht hf with ⟨h1,_⟩ | ⟨a,len',cap',mm,n,D,Pl,h1,_,hlc,hcm,hmm,_,hel⟩
 ·simp[Value.cells] at h1
  obtain ⟨rfl,rfl,rfl⟩:=h1
  exact ⟨[],(fun x hx=>by simp at hx),.inl ⟨rfl,none,fun _=>.sliceNil⟩⟩
 ·simp[Value.cells] at h1
  obtain ⟨rfl,rfl,rfl⟩:=h1
  have hm:mm=cap:=by simpa using hmm
  subst hm
  by_cases hc0:mm=0
  ·subst hc0
   obtain rfl:len=0:=by omega
   exact ⟨[],(fun x hx=>by simp at hx),.inl ⟨rfl,some ⟨0,0,some 0⟩,fun _=>.sliceZ a rfl⟩⟩
  have hcells:∀ q,q<mm → ∃ cs',W.cells? 0 (a.add (q*e.z)) e.z=some cs' ∧ ∃ y:α,e.ok y∧cs'=e.cells y:=by
   intro q hq
   obtain ⟨cs',g1,g2⟩:=hel q hq
   rw[show Tryz.prog.cellsOf e.T=e.z from he.zc] at g1
   obtain ⟨_,g3,_⟩:=World.cells?_some g1
   exact ⟨cs',g1,he.rd g3 g2⟩
  obtain ⟨cs0,f1,_,_⟩:=hcells 0 (by omega)
  obtain ⟨_,f2,f3⟩:=World.cells?_some f1
  have f4:=f3 0 z0
  have hz:(a.add (0*e.z)).add 0=a:=by simp[Addr.add]
  rw[hz] at f4
  have hc0':∃ v0,W.cell? a=some v0:=by
   rw[f4]; exact ⟨_,List.getElem?_eq_getElem (by omega)⟩
  obtain ⟨v0,hc0'⟩:=hc0'
  have hblk:∃ c T fz,W.heap[a.block]?=some (.cells c T fz)∧a.spot=none:=by
   unfold World.cell? at hc0'
   split at hc0'
   ·rename_i c T fz hb
    split at hc0'
    ·cases hc0'
    ·rename_i hsp
     exact ⟨c,T,fz,hb,by simpa using hsp⟩
   ·cases hc0'
  obtain ⟨c,T,fz,hb,hsp⟩:=hblk
  have hcell:∀ o,W.cell? ⟨a.block,a.off+o,none⟩=c[a.off+o]?:=by
   intro o; simp[World.cell?,hb]
  have hadd:∀ q r,(a.add (q*e.z)).add r=⟨a.block,a.off+(q*e.z+r),none⟩:=by
   intro q r
   obtain ⟨b,o,s⟩:=a
   simp only at hsp
   subst hsp
   unfold Addr.add
   by_cases h1:q*e.z=0
   ·by_cases h2:r=0 <;> simp[h1,h2]
   ·by_cases h2:r=0 <;> simp[h1,h2] <;> omega
  obtain ⟨l,hl,hlp⟩:=YI (α:=α) (p:=fun q y=>e.ok y∧W.cells? 0 (a.add (q*e.z)) e.z=some (e.cells y)) mm (fun q hq=>by
   obtain ⟨cs',g1,y,g2,g3⟩:=hcells q hq
   exact ⟨y,g2,by rw[← g3]; exact g1⟩)
  have hget:∀ q (hq:q<l.length) r,r<e.z→c[a.off+(q*e.z+r)]?=(e.cells (l[q]))[r]?:=by
   intro q hq r hr
   obtain ⟨_,g2⟩:=hlp q hq
   obtain ⟨_,_,g4⟩:=World.cells?_some g2
   rw[← hcell,← hadd,g4 r hr]
  have hlast:=hget (mm-1) (by omega) (e.z-1) (by omega)
  have hmz:(mm-1)*e.z+e.z=mm*e.z:=by
   have:mm*e.z=(mm-1+1)*e.z:=by rw[Nat.sub_add_cancel (by omega)]
   rw[this,Nat.add_mul,Nat.one_mul]
  have hsize:a.off+mm*e.z≤c.size:=by
   have h9:e.z-1<(e.cells (l[mm-1]'(by omega))).length:=by rw[he.len]; omega
   rw[List.getElem?_eq_getElem h9] at hlast
   have:=(Array.getElem?_eq_some_iff.1 hlast).1
   omega
  have hlt:(l.take len).length=len:=by simp; omega
  have hrow:((c.toList.drop a.off).take (e.z*len))=e.row (l.take len):=by
   apply List.ext_getElem?
   intro x
   by_cases hx:x<e.z*len
   ·rw[List.getElem?_take,if_pos hx,List.getElem?_drop,Array.getElem?_toList]
    have hq:x/e.z<len:=Nat.div_lt_of_lt_mul hx
    have hr:x % e.z<e.z:=Nat.mod_lt _ z0
    have ex:x/e.z*e.z+x % e.z=x:=by have:=Nat.div_add_mod x e.z; rw[Nat.mul_comm] at this; exact this
    have h1:=eQ he (l.take len) (x/e.z) (by omega) (x % e.z) hr
    rw[ex] at h1
    rw[h1,List.getElem_take]
    have h2:=hget (x/e.z) (by omega) (x % e.z) hr
    rw[ex] at h2
    exact h2
   ·rw[List.getElem?_take,if_neg hx,List.getElem?_eq_none]
    rw[eR he,hlt]; omega
  refine ⟨l.take len, ?_,.inr ⟨⟨a.block,a.off,e.z,e.z*len,e.z*mm⟩,fun μ=>?_,(Array.getElem?_eq_some_iff.1 hb).1,fun μ h hk=>?_⟩⟩
  ·intro x hx
   obtain ⟨q,hq,rfl⟩:=List.mem_iff_getElem.1 hx
   rw[List.getElem_take]
   exact (hlp q (by simp at hq; omega)).1
  ·refine ⟨c,T,fz,hb,by rw[eR he,hlt],by dsimp only; exact Nat.mul_le_mul_left _ (by omega),by dsimp only; rw[Nat.mul_comm]; exact hsize,he.zc.symm,(fun h=>by cases h), ?_, ?_⟩
   ·intro v hv
    rcases Ys he _ v hv with ⟨n,rfl⟩ | ⟨b,rfl⟩ <;> rfl
   ·rw[hrow]
    exact dk (Ys he _)
  ·rw[hlt]
   have:=RV.slice (μ:=μ) (a:=⟨h,0,none⟩) (k:=⟨a.block,a.off,e.z,e.z*len,e.z*mm⟩) (l:=len) (c:=len) (c':=mm) hk rfl (Nat.le_refl _) hlc (by dsimp only; rw[Nat.zero_add,Nat.mul_comm]; exact Nat.le_refl _)
   have ha:(⟨a.block,a.off+0,none⟩:Addr)=a:=by
    obtain ⟨b,o,s⟩:=a
    simp only at hsp
    subst hsp; rfl
   simp only[ha] at this
   exact this
def QN (e:El α) (σ:Aa) (p:Option Addr) (l:List α):Prop:=l=[] ∨ ∃ ab,p=some ⟨ab,0,none⟩∧σ[ab]?=some (.cells (e.row l) e.T false)
theorem QN.ld (he:kI e) {σ:Aa} {p:Option Addr} {l:List α} (h:QN e σ p l) {x:Nat} (hx:x<l.length):∃ ab,p=some ⟨ab,0,none⟩∧ab<σ.length ∧ ∀ q,q<e.z→Gs σ ab (x*e.z+q)=(e.cells l[x])[q]?:=by
 rcases h with rfl | ⟨ab,h1,h2⟩
 ·simp at hx
 ·exact ⟨ab,h1,(List.getElem?_eq_some_iff.1 h2).1,fun q hq=>by simp only[Gs,h2]; exact eQ he l x hx q hq⟩
theorem QN.Dd {σ σ':Aa} {p:Option Addr} {l:List α} (h:QN e σ p l) (hs:∀ q,q<σ.length→σ'[q]?=σ[q]?):QN e σ' p l:=by
 rcases h with h | ⟨ab,h1,h2⟩
 ·exact .inl h
 ·exact .inr ⟨ab,h1,by rw[hs ab (List.getElem?_eq_some_iff.1 h2).1]; exact h2⟩
theorem QN.app {σ:Aa} {p:Option Addr} {l:List α} (h:QN e σ p l) (τ:Aa):QN e (σ++τ) p l:=by
 rcases h with h | ⟨ab,h1,h2⟩
 ·exact .inl h
 ·exact .inr ⟨ab,h1,by rw[List.getElem?_append_left (List.getElem?_eq_some_iff.1 h2).1]; exact h2⟩
end
theorem rF (W:World):R P (fun _=>none) [] W:=⟨fun h o k h1 _=>by simp at h1,fun h k h1=>(by cases h1),fun h h' k k' h1=>(by cases h1)⟩
structure Uo (W:World) (σ:Aa) (μ:Mu):Prop where
 r:R P μ σ W
 nw:∀ b,b<σ.length→¬ Av σ b
 fr:∀ hi,Ij μ σ.length hi
theorem Uo.nil (W:World):Uo W [] (fun _=>none):=⟨rF W,fun b hb=>absurd hb (Nat.not_lt_zero _),fun _ _ _ _=>rfl⟩
theorem Uo.add {W:World} {σ:Aa} {μ:Mu} (h:Uo W σ μ) {α:Type} {e:El α} {v:Value} {l:List α} (ho:pR e W v l):
  ∃ pt c2 τ μ',Uo W (σ++τ) μ'∧QN e (σ++τ) pt l∧RV μ' (.slice pt l.length c2) v∧(∀ x y,RV μ x y→RV μ' x y)∧(∀ ab,pt=some ab→l≠[]→ab.block<(σ++τ).length):=by
 obtain ⟨_,⟨rfl,pt,hrv⟩ | ⟨k,hk,hlt,hrv⟩⟩:=ho
 ·exact ⟨pt,0,[],μ,by rw[List.append_nil]; exact h,.inl rfl,hrv _,fun _ _ h=>h,fun _ _ hh=>absurd rfl hh⟩
 ·have hle:μ.le (μ.put σ.length k):=by
   intro a b hab
   by_cases q:a=σ.length
   ·subst q
    have:=h.fr (σ.length+1) σ.length (Nat.le_refl _) (by omega)
    rw[this] at hab; cases hab
   ·simp[Mu.put,q,hab]
  refine ⟨some ⟨σ.length,0,none⟩,l.length,[.cells (e.row l) e.T false],μ.put σ.length k,⟨⟨fun a o k1 h1 h2=>?_,fun a k1 h1=>?_,fun a a' k1 k2 h1 h2 ha1 ha2 hw _=>?_⟩,fun b hb=>?_,fun hi a h1 h2=>?_⟩,.inr ⟨σ.length,rfl,by simp⟩,hrv _ _ (by simp[Mu.put]),fun x y hh=>hh.mono hle,fun a ha _=>by cases ha; simp⟩
  ·by_cases q:a=σ.length
   ·subst q
    simp at h1; subst h1
    have:k=k1:=by simpa [Mu.put] using h2
    subst this
    exact hk _
   ·have h3:μ a=some k1:=by simpa [Mu.put,q] using h2
    have h4:σ[a]?=some o:=by
     rw[List.getElem?_append] at h1
     split at h1
     ·exact h1
     ·rename_i hh
      have:=(List.getElem?_eq_some_iff.1 h1).1
      simp at this; omega
    exact (h.r.obj a o k1 h4 h3).mono hle
  ·by_cases q:a=σ.length
   ·subst q
    have:k=k1:=by simpa [Mu.put] using h1
    subst this; exact hlt
   ·exact h.r.lt a k1 (by simpa [Mu.put,q] using h1)
  ·have nw:∀ b,¬ Av (σ++[AP.cells (e.row l) e.T false]) b:=by
    intro b
    rcases Nat.lt_trichotomy b σ.length with q | q | q
    ·have:=h.nw b q
     unfold Av at *
     rw[List.getElem?_append_left q]; exact this
    ·subst q; simp[Av]
    ·unfold Av
     rw[List.getElem?_eq_none (by simp; omega)]; simp
   rcases hw with hw | hw
   ·exact absurd hw (nw _)
   ·exact absurd hw (nw _)
  ·rcases Nat.lt_or_ge b σ.length with q | q
   ·have:=h.nw b q
    unfold Av at *
    rw[List.getElem?_append_left q]; exact this
   ·have:b=σ.length:=by simp at hb; omega
    subst this; simp[Av]
  ·simp at h1
   have:a≠σ.length:=by omega
   simp only[Mu.put,this,if_false]
   exact h.fr hi a (by omega) h2
theorem jM {f:Nat} {k:Nat} {args gs:List Value} {σ:Aa} {μ:Mu} {w:World}
  (h:∃ σ',@fn Au P X2 H k f args σ=some (.bool true,σ'))
  (ho:Uo w σ μ) (hV:J9 μ args gs):
  Calls Tryz.prog f gs.toArray w fun x w'=>x = .returned (.bool true)∧Below w.heap.size w w':=by
 obtain ⟨σ',h⟩:=h
 obtain ⟨hlen,_,_,hc⟩:=@nh P Au Tryz.checked.mixed X2 (rL Tryz.checked.mixed) pN H k _ _ _ _ _ h
 refine (hc μ w gs.toArray ho.r (ho.fr _) (by simpa using hV)).mono ?_
 rintro x w' ⟨μ',v',rfl,hv,hR',hS⟩
 cases hv
 exact ⟨rfl,bY hS ho.nw⟩
end Go.Proofs.YtlaplcglpnlieaaGreat
end
section
set_option maxRecDepth 100000
namespace Go.Proofs.YtlaplcglpnlieaaGreat
open Go Go.AX Go.RowKit Go.ChangeShapes Go.WideShapes Go.ChangeAt
theorem z3:Tryz.prog.cellsOf 3=1:=by kernel_rfl
structure sC where
 r:Int
 d:Int
 c:Int
def sC.ok (y:sC):Prop:=AY y.r∧AY y.d∧AY y.c
structure Zk where
 k:Int
 a:Int
 b:Int
 r:Int
 d:Int
 c:Int
def Zk.ok (y:Zk):Prop:=AY y.k∧AY y.a∧AY y.b∧AY y.r∧AY y.d∧AY y.c
def YB:El Zk:=⟨HY,6,fun y=>[.int .i64 y.k,.int .i64 y.a,.int .i64 y.b,.int .i64 y.r,.int .i64 y.d,.int .i64 y.c],Zk.ok⟩
theorem rN:Tryz.prog.cellsOf 33=3:=by kernel_rfl
theorem fF:kI YB where
 zc:=by kernel_rfl
 z0:=by decide
 len:=fun _=>rfl
 one:=fun y v hv=>by
  simp[YB] at hv
  rcases hv with rfl | rfl | rfl | rfl | rfl | rfl <;> exact .inl ⟨_,rfl⟩
 rd:=fun hl hf=>by
  obtain ⟨c0,c1,c2,c3,c4,c5,rfl⟩:=rC _ hl
  obtain ⟨xs1,_,_,_,_,hlen1,hff1⟩:=DataW.trod_struct Tryz.underlying79 hf
  obtain ⟨y1_0,y1_1,y1_2,y1_3,rfl⟩:=rB xs1 hlen1
  have k1_0:=hff1 0 _ rfl
  have k1_1:=hff1 1 _ rfl
  have k1_2:=hff1 2 _ rfl
  have k1_3:=hff1 3 _ rfl
  simp[z3,rN] at k1_0 k1_1 k1_2 k1_3
  obtain ⟨a0,e0,_,w0⟩:=DataW.trod_int bN k1_0
  obtain ⟨a1,e1,_,w1⟩:=DataW.trod_int bN k1_1
  obtain ⟨a2,e2,_,w2⟩:=DataW.trod_int bN k1_2
  obtain ⟨xs2,_,_,_,_,hlen2,hff2⟩:=DataW.trod_struct Tryz.underlying33 k1_3
  obtain ⟨y2_0,y2_1,y2_2,rfl⟩:=rA xs2 hlen2
  have k2_0:=hff2 0 _ rfl
  have k2_1:=hff2 1 _ rfl
  have k2_2:=hff2 2 _ rfl
  simp[z3,rN] at k2_0 k2_1 k2_2
  obtain ⟨a3,e3,_,w3⟩:=DataW.trod_int bN k2_0
  obtain ⟨a4,e4,_,w4⟩:=DataW.trod_int bN k2_1
  obtain ⟨a5,e5,_,w5⟩:=DataW.trod_int bN k2_2
  simp at e0 e1 e2 e3 e4 e5
  subst e0 e1 e2 e3 e4 e5
  exact ⟨⟨a0,a1,a2,a3,a4,a5⟩,⟨Qv w0,Qv w1,Qv w2,Qv w3,Qv w4,Qv w5⟩,rfl⟩
end Go.Proofs.YtlaplcglpnlieaaGreat
end
section
namespace Go.Proofs.YtlaplcglpnlieaaGreat
open Go Go.AX
noncomputable local instance uM:AK:=Au
local instance tI:Kn:=⟨true⟩
variable {σ:Aa} {m:HM} {t:RM} {i:C8} {j:RI} {ab rb:Nat} {a:AS}
structure TK (σ:Aa) (i:C8) (j:RI) (m:HM) (t:RM) (ab rb:Nat) (a:AS):Prop where
 w:oB σ i j m t
 al:Cc σ ab i a
 rl:Kk σ rb j a
 abi:ab ∉ i.l
 abj:ab ∉ j.l
 rbi:rb ∉ i.l
 rbj:rb ∉ j.l
 ne:ab≠rb
 ok:a.ok
theorem TK.app (W:TK σ i j m t ab rb a) (τ:Aa):TK (σ++τ) i j m t ab rb a:=⟨W.w.app τ,W.al.app τ,W.rl.Dd (List.getElem?_append_left (Ae W.rl)) rfl,W.abi,W.abj,W.rbi,W.rbj,W.ne,W.ok⟩
theorem oB.rS (W:oB σ i j m t):XI m:=⟨W.g.inv,W.g.inv2,W.h.sh,W.z,W.b0,W.g.nb,W.g.nt⟩
structure jQ (i:C8) (j j':RI) (ab rb:Nat) (σ σ':Aa):Prop where
 len:σ.length≤σ'.length
 same:∀ q,q<σ.length→q ∉ i.l→q ∉ j.l→q≠ab→q≠rb→σ'[q]?=σ[q]?
 new:∀ q,q ∈ j'.l→q ∈ j.l∨σ.length≤q
 hb:j'.hb=j.hb
theorem jQ.trans {x y z:Aa} {j j' j'':RI} (h:jQ i j j' ab rb x y) (g:jQ i j' j'' ab rb y z):jQ i j j'' ab rb x z:=by
 refine ⟨Nat.le_trans h.len g.len,fun q h1 h2 h3 h4 h5=>?_,fun q hq=>?_,g.hb.trans h.hb⟩
 ·refine (g.same q (Nat.lt_of_lt_of_le h1 h.len) h2 (fun hm=>?_) h4 h5).trans (h.same q h1 h2 h3 h4 h5)
  rcases h.new q hm with h6 | h6
  ·exact h3 h6
  ·omega
 ·rcases g.new q hq with h1 | h1
  ·exact h.new q h1
  ·exact .inr (Nat.le_trans h.len h1)
theorem jQ.app (i:C8) (j:RI) (ab rb:Nat) (σ τ:Aa):jQ i j j ab rb σ (σ++τ):=⟨by simp,fun q h _ _ _ _=>List.getElem?_append_left h,fun _ h=>.inl h,rfl⟩
theorem TK.of {σ':Aa} {j':RI} {m':HM} {t':RM} (W:TK σ i j m t ab rb a) (W2:oB σ' i j' m' t') (k:pQ i j j' σ σ'):TK σ' i j' m' t' ab rb a∧jQ i j j' ab rb σ σ':=by
 have la:=W.al.lt
 have lr:=Ae W.rl
 refine ⟨⟨W2,W.al.Dd (k.same ab la W.abi W.abj),W.rl.Dd (k.same rb lr W.rbi W.rbj) k.hb,W.abi,fun hm=>?_,W.rbi,fun hm=>?_,W.ne,W.ok⟩,⟨k.len,fun q h1 h2 h3 _ _=>k.same q h1 h2 h3,k.new,k.hb⟩⟩
 ·rcases k.new ab hm with h | h
  ·exact W.abj h
  ·omega
 ·rcases k.new rb hm with h | h
  ·exact W.rbj h
  ·omega
theorem iM (W:TK σ i j m t ab rb a) (hb:m.births<1000) (r d c:Int):oG m a (Z3 m a r d c):=
 kM W.w.g.inv W.w.g.inv2 W.ok (fun hv=>nT W.w.g.inv W.w.g.inv2 W.w.g.nt W.ok (by have:=JG hv; omega)) (fun _=>(pk W.w.rS _).sh)
theorem cw {m:HM} {a:AS} {r d c:Int} {pr:PR} (hp:pr.2.1.fw=m.fw):(BH m a r d c pr).2.1.fw=m.fw:=by
 have hpl:∀ x,(Cw pr.2.1 x r d c).2.2.fw=m.fw:=fun x=>by
  unfold Cw; split
  ·split
   ·exact hp
   ·exact hp
  ·exact hp
 unfold BH; split
 ·split
  ·split
   ·split
    ·exact hpl _
    ·exact hpl _
   ·exact hp
  ·exact hp
 ·rfl
theorem Sb (m:HM) (b c x y x' y':Int):(Ce m b c x y x' y').2.fw=m.fw:=by
 unfold Ce; split
 ·split <;> rfl
 ·rfl
theorem ke (m:HM) (s:Int):(Uy m s).fw=m.fw:=by
 unfold Uy; split
 ·exact Sb _ _ _ _ _ _ _
 ·rfl
theorem Vs (m:HM) (a:AS) (l:List (Nat × Nat)):(Ci m a l).2.1.fw=m.fw:=by
 unfold Ci; split
 ·rfl
 ·split
  ·exact Sb _ _ _ _ _ _ _
  ·rfl
theorem fQ (m:HM) (a:AS) (v:Bool) (w:Int):(DS m a v w).2.1.fw=m.fw:=by
 unfold DS; split
 ·rfl
 ·split
  ·exact Sb _ _ _ _ _ _ _
  ·rfl
theorem nS (m:HM) (a:AS) (w:Int):(YV m a w).2.1.fw=m.fw:=by
 unfold YV; split
 ·unfold Mi; split
  ·exact Sb _ _ _ _ _ _ _
  ·rfl
 split
 ·exact Vs _ _ _
 split
 ·exact Vs _ _ _
 split
 ·unfold YS; split
  ·exact Vs _ _ _
  ·exact Vs _ _ _
 split
 ·exact fQ _ _ _ _
 ·unfold Hw; split
  ·rfl
  ·split
   ·exact fQ _ _ _ _
   ·split
    ·unfold Nu; split
     ·rfl
     ·exact ke _ _
    ·unfold Nu; split
     ·rfl
     ·exact ke _ _
theorem iN (k:Nat) (hk:60000≤k) (W:TK σ i j m t ab rb a) (hb:m.births<1000) (r d c:Int):
  ∃ σ1 σ2 j' t',AM (k+13) (D3 ab) r d c σ=some (.tuple #[.int .i64 (Z3 m a r d c).1.1,.int .i64 (Z3 m a r d c).1.2],σ1)∧Ec (k+13) (D3 rb) r d c σ1=some (.tuple #[.int .i64 (Z3 m a r d c).1.1,.int .i64 (Z3 m a r d c).1.2],σ2)∧TK σ2 i j' (Z3 m a r d c).2.1 t' ab rb (Z3 m a r d c).2.2∧jQ i j j' ab rb σ σ2∧(∀ q,q<σ.length→q ∉ i.l→q≠ab→σ1[q]?=σ[q]?):=by
 have ok:=iM W hb r d c
 have hfw:(Z3 m a r d c).2.1.fw=m.fw:=cw (nS m a _)
 obtain ⟨σ1,e1,h1,A1,K1⟩:=cp k (by omega) W.w.h W.al W.abi W.ok W.w.g.inv W.w.g.inv2 W.w.b0 (by omega) r d c
 have la:=W.al.lt
 have lr:=Ae W.rl
 have g1:RG σ1 j m t:=W.w.g.Dd (fun q hq=>K1.same q (W.w.g.at_.lt q hq) (fun hm=>W.w.off q hm hq) (fun e=>W.abj (by rw[← e]; exact hq))) K1.len
 have R1:TA σ1 j rb m t a:=⟨g1,W.w.P,W.w.rS,W.rl.Dd (K1.same rb lr W.rbi fun e=>W.ne e.symm) rfl,W.rbj⟩
 obtain ⟨σ2,j',t',e2,R2,K2⟩:=mc (k+3) (by omega) R1 W.ok (by omega) r d c
 have off2:∀ q,q<σ1.length→q ∉ j.l→q ∉ j'.l:=fun q hq hn hm=>by
  rcases K2.new q hm with h | h
  ·exact hn h
  ·omega
 have h2:Ag σ2 i (Z3 m a r d c).2.1:=h1.Dd fun q hq=>K2.same q (h1.lt q hq) (W.w.off q hq) fun e=>W.rbi (by rw[← e]; exact hq)
 refine ⟨σ1,σ2,j',t',e1,e2,⟨⟨h2,R2.g,R2.P,R2.M.fz,R2.M.b0,fun q hq=>off2 q (h1.lt q hq) (W.w.off q hq), ?_, ?_⟩,A1.Dd (K2.same ab (Ae A1) W.abj W.ne),R2.al,W.abi,off2 ab (Ae A1) W.abj,W.rbi,R2.off,W.ne,ok.ok⟩,⟨Nat.le_trans K1.len K2.len,fun q q1 q2 q3 q4 q5=>by rw[K2.same q (Nat.lt_of_lt_of_le q1 K1.len) q3 q5,K1.same q q1 q2 q4],fun q hq=>(K2.new q hq).imp id fun h=>Nat.le_trans K1.len h,K2.hb⟩,fun q q1 q2 q3=>K1.same q q1 q2 q3⟩
 ·have:=ok.b2; omega
 ·rw[hfw]; exact W.w.fl
end Go.Proofs.YtlaplcglpnlieaaGreat
end
section
namespace Go.Proofs.YtlaplcglpnlieaaGreat
open Go Go.AX
noncomputable local instance uN:AK:=Au
local instance tJ:Kn:=⟨true⟩
variable {σ:Aa} {m:HM} {t:RM} {i:C8} {j:RI} {ab rb:Nat} {a:AS}
def AS.zero (a:AS):AS:={ a with c:=0,l:=0,oc:=0,ol:=0 }
theorem kO (k:Nat) (hA:Cc σ ab i a):∃ σ',EU (k+2) (D3 ab) σ=some (.tuple #[],σ')∧Cc σ' ab i a.zero∧Fi ab σ σ':=by
 have s1:=hA.rU false 0 0
 have A1:=hA.put (a.put false 0 0)
 have s2:=A1.rU true 0 0
 rw[show mz false=3 from rfl] at s1
 rw[show mz true=5 from rfl] at s2
 have A2:=A1.put ((a.put false 0 0).put true 0 0)
 refine ⟨_, ?_,A2,(Fi.set _ _).trans (Fi.set _ _)⟩
 rw[Qg,My]
 simp only[ZP _ hA,Option.bind_some,As,cond_true,Nat.zero_add,s1,s2,if_true]
theorem mn (k:Nat) (h:TA σ j rb m t a):∃ σ',EY (k+3) (D3 rb) σ=some (.tuple #[],σ')∧TA σ' j rb m t a.zero∧Fi rb σ σ':=by
 have s1:=h.al.Gz 3 (.int .i64 0) { a with c:=0 } rfl (by decide)
 have h1:=h.RE { a with c:=0 }
 have s2:=h1.al.Gz 4 (.int .i64 0) { a with c:=0,l:=0 } rfl (by decide)
 have h2:=h1.RE { a with c:=0,l:=0 }
 have s3:=h2.al.Gz 5 (.int .i64 0) { a with c:=0,l:=0,oc:=0 } rfl (by decide)
 have h3:=h2.RE { a with c:=0,l:=0,oc:=0 }
 have s4:=h3.al.Gz 6 (.int .i64 0) a.zero rfl (by decide)
 have h4:=h3.RE a.zero
 refine ⟨_, ?_,h4,(((Fi.set _ _).trans (Fi.set _ _)).trans (Fi.set _ _)).trans (Fi.set _ _)⟩
 rw[Ql,M1]
 simp only[dx _ h,Option.bind_some,As,cond_true,Nat.zero_add,s1,s2,s3,s4,if_true]
def Tj (m:HM) (n:Int):Int:=if (D2 m).length=0∨n<0 then 0 else ((2*(D2 m).getD (n.toNat % (D2 m).length) 0:Nat):Int)
theorem qI (k:Nat) (hk:5000≤k) (g:RG σ j m t) (n:Int) (hn:AY n):∃ τ,OJ (k+3) (Ca j) n σ=some (.int .i64 (Tj m n),σ++τ):=by
 obtain ⟨τ,s,e1,h1⟩:=pq k hk g
 refine ⟨τ, ?_⟩
 have hl:s.2.1=(D2 m).length:=by rw[h1.len]; simp[E8]
 rw[ai,YE]
 simp only[e1,Option.bind_some,Hm,hl]
 by_cases q:(D2 m).length=0
 ·rw[show Tj m n=0 from if_pos (.inl q)]
  simp only[show ((((D2 m).length:Nat):Int) == 0)=true from by simp[q],cond_true,Option.bind_some]
 simp only[show ((((D2 m).length:Nat):Int) == 0)=false from by rw[beq_eq_false_iff_ne]; omega,cond_false,Option.bind_some]
 by_cases q2:n<0
 ·rw[show Tj m n=0 from if_pos (.inr q2)]
  simp only[decide_eq_true q2,cond_true]
 ·have hone:Tj m n=((2*(D2 m).getD (n.toNat % (D2 m).length) 0:Nat):Int):=if_neg (by omega)
  rw[hone]
  obtain ⟨p,rfl⟩:∃ p:Nat,n=(p:Int):=⟨n.toNat,by omega⟩
  have hm:p % (D2 m).length<(D2 m).length:=Nat.mod_lt _ (by omega)
  have hx:p % (D2 m).length<(E8 (D2 m)).length:=by simpa [E8] using hm
  obtain ⟨b,e0,_,_,l0⟩:=ints_at h1 hx
  have e2:((p:Int)).tmod (((D2 m).length:Nat):Int)=((p % (D2 m).length:Nat):Int):=rfl
  simp only[decide_eq_false q2,cond_false,e2,Int.toNat_natCast]
  rw[if_neg (show ¬ (((D2 m).length:Nat):Int)=0 by omega),if_pos (show (0:Int)≤((p % (D2 m).length:Nat):Int)∧((p % (D2 m).length:Nat):Int)<(((D2 m).length:Nat):Int) by omega),e0]
  simp only[Option.bind_some,Nat.zero_add,Nat.mul_one,l0]
  rw[SI _ hm,List.getD_eq_getElem?_getD,List.getElem?_eq_getElem hm]
  rfl
theorem ph (hnt:m.bls.length≤64) (n:Int):AY (Tj m n):=by
 unfold Tj AY
 split
 ·omega
 ·rename_i q
  have hm:n.toNat % (D2 m).length<(D2 m).length:=Nat.mod_lt _ (by omega)
  rw[List.getD_eq_getElem?_getD,List.getElem?_eq_getElem hm]
  have:=(Ej.1 (List.getElem_mem hm)).1
  simp only[Option.getD_some]
  omega
def oC (m:HM) (a:AS) (x:Zk):HM × AS:=
 if x.k=0 then (Z3 m a x.r x.d x.c).2
 else if x.k=1 then ((P2 m (Tj m x.a)).2,a)
 else if x.k=2 then (m,a.zero)
 else if x.k=4 then ((Ce m x.a 1 1 x.b 0 0).2,a)
 else if x.k=5 then ((HP m x.a).2,a)
 else if x.k=6 then ((Cw m x.a x.r x.d x.c).2.2,a)
 else if x.k=7 then ((Nw m x.a x.b).2,a)
 else (m,a)
theorem nR (k:Nat) (hk:60000≤k) (W0:TK σ i j m t ab rb a) (hb:m.births<1000) (hfl:m.fw.length<1000) (x:Zk) (hx:x.ok):
  ∃ σ' j' t',Nk (k+14) (En i) (D3 ab) (Ca j) (D3 rb) x.k x.a x.b x.r x.d x.c σ=some (.bool true,σ')∧TK σ' i j' (oC m a x).1 t' ab rb (oC m a x).2∧jQ i j j' ab rb σ σ':=by
 obtain ⟨h1,h2,h3,h4,h5,h6⟩:=hx
 rw[Zq,WO]
 simp only[An]
 obtain ⟨μ,hμ⟩:∃ μ,σ++[AP.cells [Value.int .i64 x.k,.int .i64 x.a,.int .i64 x.b,.int .i64 x.r,.int .i64 x.d,.int .i64 x.c] HY true]=μ:=⟨_,rfl⟩
 have W:TK μ i j m t ab rb a:=hμ ▸ W0.app _
 have hbox:μ[σ.length]?=some (AP.cells [Value.int .i64 x.k,.int .i64 x.a,.int .i64 x.b,.int .i64 x.r,.int .i64 x.d,.int .i64 x.c] HY true):=by rw[← hμ]; simp
 have hlt:σ.length<μ.length:=Ae hbox
 have hoff:σ.length ∉ i.l:=fun hm=>Nat.lt_irrefl _ (W0.w.h.lt _ hm)
 have hna:σ.length≠ab:=by have:=W0.al.lt; omega
 have K0:jQ i j j ab rb σ μ:=hμ ▸ jQ.app i j ab rb σ _
 have ldq:∀ (μ':Aa),μ'[σ.length]?=μ[σ.length]?→Ai .i64 μ' σ.length 0=some x.k∧Ai .i64 μ' σ.length 1=some x.a∧Ai .i64 μ' σ.length 2=some x.b∧Ai .i64 μ' σ.length 3=some x.r∧Ai .i64 μ' σ.length 4=some x.d∧Ai .i64 μ' σ.length 5=some x.c:=by
  intro μ' h
  rw[hbox] at h
  refine ⟨?_, ?_, ?_, ?_, ?_, ?_⟩ <;> simp[Ai,Gs,h,BF]
 obtain ⟨l0,l1,l2,l3,l4,l5⟩:=ldq μ rfl
 rw[hμ]
 simp only[Nat.zero_add,Nat.reduceAdd,l0,Option.bind_some]
 have c1:∀ (n:Int),x.k=n→(x.k == n)=true:=fun n hq=>by simpa using hq
 have c0:∀ (n:Int),x.k≠n→(x.k == n)=false:=fun n hq=>by simpa using hq
 have gs:∀ {A:Option (Value × Aa)} {B:Aa→Option (Value × Aa)} {v:Value} {y:Vu} {m':HM},(gb m y).2=m'→(∃ σ1,A=some (v,σ1)∧Ag σ1 i m'∧BG i μ σ1)→(∀ σ1,RG σ1 j m t→Ho (B σ1) σ1 j v m') →
   ∃ σ1 σ2 j' t',A=some (v,σ1)∧B σ1=some (v,σ2)∧TK σ2 i j' m' t' ab rb a∧jQ i j j' ab rb σ σ2∧σ1[σ.length]?=μ[σ.length]?:=by
  intro A B v y m' hd hA hB
  obtain ⟨I1,I2,_,b2,_,_⟩:=gf W.w.g.inv W.w.g.inv2 W.w.h.sh y
  have hF:=mZ W.w.z y
  have hBo:=W.w.b0.do y
  have hfw:=mY m y
  rw[hd] at I1 I2 b2 hF hBo hfw
  obtain ⟨σ1,σ2,j',t',eA,eB,W2,a2,s1⟩:=dm W.w hA I1 I2 hF hBo (by omega) (by omega) hB
  obtain ⟨T2,K2⟩:=W.of W2 a2
  exact ⟨σ1,σ2,j',t',eA,eB,T2,K0.trans K2,s1 _ hlt hoff⟩
 unfold oC
 by_cases q0:x.k=0
 ·rw[if_pos q0]
  obtain ⟨σ1,σ2,j',t',e1,e2,W2,K2,s1⟩:=iN k hk W hb x.r x.d x.c
  obtain ⟨_,m1,m2,m3,m4,m5⟩:=ldq σ1 (s1 _ hlt hoff hna)
  refine ⟨σ2,j',t', ?_,W2,K0.trans K2⟩
  simp only[c1 0 q0,cond_true,l3,l4,l5,Option.bind_some,e1,Ew,m3,m4,m5,e2,beq_self_eq_true]
 rw[if_neg q0]
 simp only[c0 0 q0,cond_false]
 by_cases q1:x.k=1
 ·rw[if_pos q1]
  obtain ⟨τ,e1⟩:=qI (k+10) (by omega) W.w.g x.a h2
  have W1:=W.app τ
  have hin:=ph W.w.g.nt x.a
  have K1:jQ i j j ab rb σ (μ++τ):=K0.trans (jQ.app _ _ _ _ _ _)
  obtain ⟨I1,I2,_,b2,_,_⟩:=gf W.w.g.inv W.w.g.inv2 W.w.h.sh ⟨5,Tj m x.a,0,0,0,0,0⟩
  have hF:=mZ W.w.z ⟨5,Tj m x.a,0,0,0,0,0⟩
  have hBo:=W.w.b0.do ⟨5,Tj m x.a,0,0,0,0,0⟩
  have hfw:=mY m ⟨5,Tj m x.a,0,0,0,0,0⟩
  have hd:gb m ⟨5,Tj m x.a,0,0,0,0,0⟩=P2 m (Tj m x.a):=by unfold gb; simp
  rw[hd] at I1 I2 b2 hF hBo hfw
  obtain ⟨σ1,σ2,j',t',eA,eB,W2,a2,s1⟩:=dm (A:=DF (k+13) (En i) (Tj m x.a) (μ++τ)) (B:=fun μ=>Fp (k+13) (Ca j) (Tj m x.a) μ) W1.w (kJ (k+1) W1.w.h W1.w.g.inv (Tj m x.a) hin) I1 I2 hF hBo (by omega) (by omega) (fun σ1 g=>nY (k+9) (by omega) g W1.w.P W1.w.h.sh (Tj m x.a))
  obtain ⟨T2,K2⟩:=W1.of W2 a2
  have eB':Fp (k+13) (Ca j) (Tj m x.a) σ1=_:=eB
  refine ⟨σ2,j',t', ?_,T2,K1.trans K2⟩
  simp only[c1 1 q1,cond_true,l1,Option.bind_some,e1,Ao,eA,eB',beq_self_eq_true]
 rw[if_neg q1]
 simp only[c0 1 q1,cond_false]
 by_cases q2:x.k=2
 ·rw[if_pos q2]
  obtain ⟨σ1,e1,A1,o1⟩:=kO (k+11) W.al
  have R1:TA σ1 j rb m t a:=⟨W.w.g.Dd (fun q hq=>o1.same q (W.w.g.at_.lt q hq) fun e=>W.abj (by rw[← e]; exact hq)) o1.len,W.w.P,W.w.rS,W.rl.Dd (o1.same rb (Ae W.rl) fun e=>W.ne e.symm) rfl,W.rbj⟩
  obtain ⟨σ2,e2,R2,o2⟩:=mn (k+10) R1
  have hh:Ag σ2 i m:=W.w.h.Dd fun q hq=>by
   have hql:=W.w.h.lt q hq
   rw[o2.same q (by have:=o1.len; omega) (fun e=>W.rbi (by rw[← e]; exact hq)),o1.same q hql (fun e=>W.abi (by rw[← e]; exact hq))]
  refine ⟨σ2,j,t, ?_,⟨⟨hh,R2.g,R2.P,W.w.z,W.w.b0,W.w.off,W.w.br,W.w.fl⟩,A1.Dd (o2.same ab (Ae A1) W.ne),R2.al,W.abi,W.abj,W.rbi,W.rbj,W.ne,⟨W.ok.s0,W.ok.p0,by unfold AS.zero; dsimp only; omega,by unfold AS.zero; dsimp only; omega,by unfold AS.zero; dsimp only; omega,by unfold AS.zero; dsimp only; omega⟩⟩,K0.trans ⟨Nat.le_trans o1.len o2.len,fun q h1 _ _ h4 h5=>by rw[o2.same q (by have:=o1.len; omega) h5,o1.same q h1 h4],fun _ h=>.inl h,rfl⟩⟩
  simp only[c1 2 q2,cond_true,e1,Option.bind_some,Jx,e2,if_true]
 rw[if_neg q2]
 simp only[c0 2 q2,cond_false]
 by_cases q4:x.k=4
 ·rw[if_pos q4]
  obtain ⟨σ1,σ2,j',t',eA,eB,T2,K2,s1⟩:=gs (A:=Cl (k+13) (En i) x.a x.b μ) (B:=fun μ=>CN (k+13) (Ca j) x.a x.b μ) (y:=⟨0,x.a,x.b,0,0,0,0⟩) (by unfold gb; simp) (ZE (k+6) (by omega) W.w.h x.a x.b h2) (fun σ1 g=>dq (k+11) g W.w.P W.w.z x.a x.b)
  obtain ⟨_,m1,m2,m3,m4,m5⟩:=ldq σ1 s1
  have eB':CN (k+13) (Ca j) x.a x.b σ1=_:=eB
  have kp:∀ {ρ:Type} (y:Option ρ),Sn (some ⟨σ.length,0,none⟩) μ σ1 y=y:=fun y=>Yj s1 y
  refine ⟨σ2,j',t', ?_,T2,K2⟩
  simp only[c1 4 q4,cond_true,l1,l2,Option.bind_some,eA,Ao,kp,m1,m2,eB',beq_self_eq_true,show (Bk.ret=Bk.normal)=False from by simp,if_false,if_true,T8]
 rw[if_neg q4]
 simp only[c0 4 q4,cond_false]
 by_cases q5:x.k=5
 ·rw[if_pos q5]
  obtain ⟨σ1,σ2,j',t',eA,eB,T2,K2,s1⟩:=gs (A:=F2 (k+13) (En i) x.a μ) (B:=fun μ=>Ei (k+13) (Ca j) x.a μ) (y:=⟨2,x.a,0,0,0,0,0⟩) (by unfold gb; simp) (dT (k+6) (by omega) W.w.h x.a) (fun σ1 g=>gQ (k+10) (by omega) g W.w.P x.a)
  obtain ⟨_,m1,m2,m3,m4,m5⟩:=ldq σ1 s1
  have eB':Ei (k+13) (Ca j) x.a σ1=_:=eB
  have kp:∀ {ρ:Type} (y:Option ρ),Sn (some ⟨σ.length,0,none⟩) μ σ1 y=y:=fun y=>Yj s1 y
  refine ⟨σ2,j',t', ?_,T2,K2⟩
  simp only[c1 5 q5,cond_true,l1,Option.bind_some,eA,Ao,kp,m1,eB',beq_self_eq_true,show (Bk.ret=Bk.normal)=False from by simp,if_false,if_true,T8]
 rw[if_neg q5]
 simp only[c0 5 q5,cond_false]
 by_cases q6:x.k=6
 ·rw[if_pos q6]
  obtain ⟨σ1,σ2,j',t',eA,eB,T2,K2,s1⟩:=gs (A:=Cn (k+13) (En i) x.a x.r x.d x.c μ) (B:=fun μ=>Dw (k+13) (Ca j) x.a x.r x.d x.c μ) (y:=⟨4,x.a,0,0,x.r,x.d,x.c⟩) (by unfold gb; simp) (fy (k+1) (by omega) W.w.h W.w.g.inv (by omega) x.a x.r x.d x.c h2) (fun σ1 g=>dw (k+8) (by omega) g W.w.P W.w.h.sh (by omega) x.a x.r x.d x.c)
  obtain ⟨_,m1,m2,m3,m4,m5⟩:=ldq σ1 s1
  have eB':Dw (k+13) (Ca j) x.a x.r x.d x.c σ1=_:=eB
  refine ⟨σ2,j',t', ?_,T2,K2⟩
  simp only[c1 6 q6,cond_true,l1,l3,l4,l5,Option.bind_some,eA,Ew,m1,m3,m4,m5,eB',beq_self_eq_true,show (Bk.ret=Bk.normal)=False from by simp,if_false,if_true,T8]
 rw[if_neg q6]
 simp only[c0 6 q6,cond_false]
 by_cases q7:x.k=7
 ·rw[if_pos q7]
  obtain ⟨σ1,σ2,j',t',eA,eB,T2,K2,s1⟩:=gs (A:=Gx (k+13) (En i) x.a x.b μ) (B:=fun μ=>EN (k+13) (Ca j) x.a x.b μ) (y:=⟨3,x.a,x.b,0,0,0,0⟩) (by unfold gb; simp) (iI (k+8) (by omega) W.w.h x.a x.b) (fun σ1 g=>ma (k+10) (by omega) g W.w.P x.a x.b)
  obtain ⟨_,m1,m2,m3,m4,m5⟩:=ldq σ1 s1
  have eB':EN (k+13) (Ca j) x.a x.b σ1=_:=eB
  have kp:∀ {ρ:Type} (y:Option ρ),Sn (some ⟨σ.length,0,none⟩) μ σ1 y=y:=fun y=>Yj s1 y
  refine ⟨σ2,j',t', ?_,T2,K2⟩
  simp only[c1 7 q7,cond_true,l1,l2,Option.bind_some,eA,Ao,kp,m1,m2,eB',beq_self_eq_true,show (Bk.ret=Bk.normal)=False from by simp,if_false,if_true,T8]
 rw[if_neg q7]
 simp only[c0 7 q7,cond_false,Option.bind_some,if_true]
 exact ⟨μ,j,t,rfl,W,K0⟩
theorem iL (k:Nat) (hA:Cc σ ab i a):DC (k+2) (D3 ab) σ=some (.tuple #[.int .i64 a.c,.int .i64 a.l,.int .i64 a.oc,.int .i64 a.ol],σ):=by
 rw[PB,Lw]
 simp only[ZP _ hA,Option.bind_some,As,Bool.not_true,cond_false,Nat.zero_add,Nat.add_zero,Nat.reduceAdd,hA.l3,hA.l4,hA.l5,hA.l6]
end Go.Proofs.YtlaplcglpnlieaaGreat
end
section
namespace Go.Proofs.YtlaplcglpnlieaaGreat
open Go Go.AX
noncomputable local instance uO:AK:=Au
local instance tK:Kn:=⟨true⟩
variable {σ:Aa} {m:HM} {t:RM} {i:C8} {j:RI} {ab rb:Nat} {a:AS}
theorem gK (k:Nat) (h:RG σ j m t) (s p:Int):KA (k+2) (Ca j) s p σ=(if (0≤s∧s<8)∧(0≤p∧p<5) then some (.tuple #[.pointer (D3 σ.length),.int .i64 0],σ++[AP.cells ((⟨s,p,0,0,0,0⟩:AS).row j.hb) Cx true]) else some (.tuple #[.pointer none,.int .i64 1],σ)):=by
 rw[ak,YG]
 simp only[Iv k h,Option.bind_some,As,Bool.not_true,cond_false]
 by_cases h1:s<0
 ·simp only[decide_eq_true h1,Option.bind_some,cond_true,if_neg (show ¬ ((0≤s∧s<8)∧(0≤p∧p<5)) by omega)]
 simp only[decide_eq_false h1,Option.bind_some,cond_false]
 by_cases h2:s≥8
 ·simp only[decide_eq_true h2,Option.bind_some,cond_true,if_neg (show ¬ ((0≤s∧s<8)∧(0≤p∧p<5)) by omega)]
 simp only[decide_eq_false h2,Option.bind_some,cond_false]
 by_cases h3:p<0
 ·simp only[decide_eq_true h3,Option.bind_some,cond_true,if_neg (show ¬ ((0≤s∧s<8)∧(0≤p∧p<5)) by omega)]
 simp only[decide_eq_false h3,Option.bind_some,cond_false]
 by_cases h4:p>4
 ·simp only[decide_eq_true h4,cond_true,if_neg (show ¬ ((0≤s∧s<8)∧(0≤p∧p<5)) by omega)]
 ·simp only[decide_eq_false h4,cond_false,if_pos (show (0≤s∧s<8)∧(0≤p∧p<5) by omega),An]
  rfl
theorem cS (k:Nat) (s:EF) (σ:Aa):L5 (k+1) s σ=some (.bool (decide (((s.2.1:Nat):Int)>80)),σ):=by
 rw[XW,VH]
theorem kj (k:Nat) (b:Int) (σ:Aa):OI (k+1) b σ=some (.bool (decide (b≤12∨b>64)),σ):=by
 rw[ah,YD]
 by_cases q:b≤12
 ·simp[q]
 ·simp[q]
theorem Qw (k:Nat) (σ:Aa):Fj (k+1) σ=some (.bool true,σ):=XV k σ
theorem jX {p:Option Addr} {l:List Zk} (h:QN YB σ p l) {x:Nat} (hx:x<l.length):∃ q,p=some ⟨q,0,none⟩∧q<σ.length∧Ai .i64 σ q (x*6)=some l[x].k∧Ai .i64 σ q (x*6+1)=some l[x].a∧Ai .i64 σ q (x*6+2)=some l[x].b∧Ai .i64 σ q (x*6+3)=some l[x].r∧Ai .i64 σ q (x*6+4)=some l[x].d∧Ai .i64 σ q (x*6+5)=some l[x].c:=by
 obtain ⟨q,h1,h2,h3⟩:=h.ld fF hx
 have key:∀ z v,z<6→(YB.cells l[x])[z]?=some (.int .i64 v)→Ai .i64 σ q (x*6+z)=some v:=by
  intro z v hz hv
  have:=h3 z hz
  unfold Ai
  rw[show Gs σ q (x*6+z)=_ from this,hv]
  rfl
 exact ⟨q,h1,h2,key 0 _ (by decide) rfl,key 1 _ (by decide) rfl,key 2 _ (by decide) rfl,key 3 _ (by decide) rfl,key 4 _ (by decide) rfl,key 5 _ (by decide) rfl⟩
theorem oV (W:TK σ i j m t ab rb a) (hb:m.births<1000) (x:Zk):(oC m a x).1.births≤m.births+1∧(oC m a x).1.fw=m.fw∧(oC m a x).1.bls.length=m.bls.length:=by
 have I:=W.w.g.inv; have I2:=W.w.g.inv2; have hS:=W.w.h.sh
 unfold oC
 split
 ·have ok:=iM W hb x.r x.d x.c
  exact ⟨ok.b2,cw (nS m a _),ok.len⟩
 split
 ·have k:=aL I I2 hS (Tj m x.a)
  exact ⟨k.b2,by unfold P2 LL; split <;> rfl,k.len⟩
 split
 ·exact ⟨by dsimp only; omega,rfl,rfl⟩
 split
 ·have k:=M5 I I2 x.a 1 1 x.b 0 0
  exact ⟨k.b2,Sb _ _ _ _ _ _ _,k.len⟩
 split
 ·have k:=VU I I2 x.a
  exact ⟨k.b2,by unfold HP; split <;> (first | rfl | (split <;> rfl)),k.len⟩
 split
 ·have k:=Rj I I2 hS x.a x.r x.d x.c
  exact ⟨k.b2,by unfold Cw; split <;> (first | rfl | (split <;> rfl)),k.len⟩
 split
 ·have k:=YZ I I2 x.a x.b
  exact ⟨k.b2,by unfold Nw; split <;> rfl,k.len⟩
 ·exact ⟨by dsimp only; omega,rfl,rfl⟩
end Go.Proofs.YtlaplcglpnlieaaGreat
end
section
namespace Go.Proofs.YtlaplcglpnlieaaGreat
open Go Go.AX
noncomputable local instance uP:AK:=Au
local instance tL:Kn:=⟨true⟩
variable {σ:Aa} {m:HM} {t:RM} {i:C8} {j:RI} {ab rb:Nat} {a:AS}
theorem qo (W:TK σ i j m t ab rb a) (hb:m.births<1000) (x:Zk):(oC m a x).2.s=a.s∧(oC m a x).2.p=a.p:=by
 unfold oC
 split
 ·have ok:=iM W hb x.r x.d x.c
  exact ⟨ok.s,ok.p⟩
 split
 ·exact ⟨rfl,rfl⟩
 split
 ·exact ⟨rfl,rfl⟩
 split
 ·exact ⟨rfl,rfl⟩
 split
 ·exact ⟨rfl,rfl⟩
 split
 ·exact ⟨rfl,rfl⟩
 split
 ·exact ⟨rfl,rfl⟩
 ·exact ⟨rfl,rfl⟩
structure Mk (σ σ':Aa) (i:C8) (ab:Nat) (m:HM) (a:AS) (s q:Int):Prop where
 h:Ag σ' i m
 al:Cc σ' ab i a
 off:ab ∉ i.l
 ok:a.ok
 M:XI m
 br:m.births≤80
 lo:∀ x ∈ i.l,σ.length≤x
 loa:σ.length≤ab
 same:∀ x,x<σ.length→σ'[x]?=σ[x]?
 len:σ.length≤σ'.length
 es:a.s=s
 ep:a.p=q
theorem aS (k:Nat) (hk:70000≤k) {σ0:Aa} {p:Option Addr} {c2:Nat} {l:List Zk} (hl:l.length≤80) (hok:∀ y ∈ l,y.ok) (S:QN YB σ0 p l):∀ (n x f:Nat) (σ:Aa) (i:C8) (j:RI) (m:HM) (t:RM) (ab rb:Nat) (a:AS),TK σ i j m t ab rb a→(∀ q,q<σ0.length→q ∉ i.l∧q ∉ j.l)→σ0.length≤ab→σ0.length≤rb→(∀ q,q<σ0.length→σ[q]?=σ0[q]?)→σ0.length≤σ.length→x+n=l.length→m.births≤x→m.fw.length=0→n<f →
  ∃ σ' j' m' t' a',G8 (k+16) f p l.length c2 (En i) (D3 ab) (Ca j) (D3 rb) (x:Int) σ=some (.exit 0,[],σ')∧TK σ' i j' m' t' ab rb a'∧(∀ q,q<σ0.length→σ'[q]?=σ0[q]?)∧σ0.length≤σ'.length∧m'.births≤l.length∧a'.s=a.s∧a'.p=a.p
 | n,x,0,σ,i,j,m,t,ab,rb,a,W,h1,h2,h3,h4,h5,hx,hb,hw,hf=>by omega
 | 0,x,f+1,σ,i,j,m,t,ab,rb,a,W,h1,h2,h3,h4,h5,hx,hb,hw,hf=>by
   rw[Qi,Pd]
   exact ⟨σ,j,m,t,a,by simp only[decide_eq_false (show ¬ (x:Int)<((l.length:Nat):Int) by omega),cond_false],W,h4,h5,by omega,rfl,rfl⟩
 | n+1,x,f+1,σ,i,j,m,t,ab,rb,a,W,h1,h2,h3,h4,h5,hx,hb,hw,hf=>by
   have hxl:x<l.length:=by omega
   obtain ⟨q0,rfl,hq0,_⟩:=jX S hxl
   have qx:(0≤(x:Int)∧(x:Int)<((l.length:Nat):Int))=True:=eq_true (by omega)
   have w1:Ac ((x:Int)+1)=((x+1:Nat):Int):=Ad (by unfold AY; omega)
   obtain ⟨q',e',_,f0,f1,f2,f3,f4,f5⟩:=jX (S.Dd h4) hxl
   cases e'
   obtain ⟨σ1,j2,t2,e1,W2,K2⟩:=nR (k+2) (by omega) W (by omega) (by omega) l[x] (hok _ (List.getElem_mem _))
   have hbr:=oV W (by omega) l[x]
   have hsp:=qo W (by omega) l[x]
   obtain ⟨σ',j3,m3,t3,a3,e3,W3,s3,l3,b3,p3,p4⟩:=aS k hk (c2:=c2) hl hok S n (x+1) f σ1 i j2 _ t2 ab rb _ W2 (fun q hq=>⟨(h1 q hq).1,fun hm=>by
    rcases K2.new q hm with h | h
    ·exact (h1 q hq).2 h
    ·omega⟩) h2 h3 (fun q hq=>by rw[K2.same q (by omega) (h1 q hq).1 (h1 q hq).2 (by omega) (by omega)]; exact h4 q hq) (by have:=K2.len; omega) (by omega) (by omega) (by rw[hbr.2.1]; exact hw) (by omega)
   rw[show Ca j2=Ca j from by unfold Ca; rw[K2.hb]] at e3
   refine ⟨σ',j3,m3,t3,a3, ?_,W3,s3,l3,b3,p3.trans hsp.1,p4.trans hsp.2⟩
   rw[Qi,Pd]
   simp only[decide_eq_true (show (x:Int)<((l.length:Nat):Int) by omega),cond_true,Option.bind_some,qx,if_true,Int.toNat_natCast,Nat.zero_add,Nat.add_zero,Nat.add_assoc,Nat.reduceAdd,f0,f1,f2,f3,f4,f5,e1,As,w1]
   exact e3
theorem nJ (k:Nat) (hk:1000000≤k) (b:Int) (s:Int) (q:Int) (p:Option Addr) (c2:Nat) (l:List Zk) (hok:∀ y ∈ l,y.ok) (S:QN YB σ p l):
  (∃ σ',KN (k+18) b s q (p,l.length,c2) σ=some (.tuple #[.pointer none,.pointer none],σ')) ∨
  (∃ σ' i ab m a,KN (k+18) b s q (p,l.length,c2) σ=some (.tuple #[.pointer (En i),.pointer (D3 ab)],σ')∧Mk σ σ' i ab m a s q):=by
 rw[Zp,WN]
 by_cases g2:2≤b∧b≤64
 rotate_left
 ·left
  have e1:G7 (k+17) b σ=_:=oK (k+16) b g2 σ
  simp only[e1,Option.bind_some,Vo,cS,kj,As]
  by_cases g0:((l.length:Nat):Int)>80
  ·simp only[decide_eq_true g0,cond_true,Option.bind_some]
   exact ⟨_,rfl⟩
  simp only[decide_eq_false g0,cond_false,Option.bind_some]
  by_cases g1:b≤12∨b>64
  ·simp only[decide_eq_true g1,Bool.not_true,cond_false,Option.bind_some,show ((1:Int) != 0)=true from rfl,cond_true]
   exact ⟨_,rfl⟩
  ·simp only[decide_eq_false g1,Bool.not_false,cond_true,Option.bind_some]
   exact ⟨_,rfl⟩
 obtain ⟨n,rfl⟩:∃ n:Nat,b=(n:Int):=⟨b.toNat,by omega⟩
 obtain ⟨σ1,i,e1,h1,lo1,k1⟩:=qj (k+12) (n:=n) (by omega) (by omega) σ
 have e1':G7 (k+17) (n:Int) σ=_:=e1
 simp only[e1',Option.bind_some,Vo,cS,kj,As]
 by_cases g0:((l.length:Nat):Int)>80
 ·simp only[decide_eq_true g0,cond_true,Option.bind_some]
  exact .inl ⟨_,rfl⟩
 simp only[decide_eq_false g0,cond_false,Option.bind_some]
 by_cases g1:(n:Int)≤12∨(n:Int)>64
 rotate_left
 ·simp only[decide_eq_false g1,Bool.not_false,cond_true,Option.bind_some]
  exact .inl ⟨_,rfl⟩
 simp only[decide_eq_true g1,Bool.not_true,cond_false,Option.bind_some,bne_self_eq_false]
 obtain ⟨σ2,e3,τ3,rfl⟩:=oF (k+14) h1 s q
 have e3':GO (k+17) (En i) s q σ1=_:=e3
 by_cases g3:(0≤s∧s<8)∧(0≤q∧q<5)
 rotate_left
 ·rw[if_neg g3] at e3'
  obtain ⟨τ,j,e2,r2,lo2⟩:=kA (k+16) (n:=n) (by omega) (by omega) (σ1++τ3)
  have e2':K9 (k+17) (n:Int) (σ1++τ3)=_:=e2
  have hg:RG (σ1++τ3++τ) j (Oh n) ⟨List.replicate n (0,0),[],[],0⟩:=⟨r2,RQ.new n,Inv.new n,Inv2.new n,h1.wl,h1.nb,h1.nt⟩
  have e4:=gK (k+15) hg s q
  rw[if_neg g3] at e4
  have e4':KA (k+17) (Ca j) s q (σ1++τ3++τ)=_:=e4
  simp only[e3',Option.bind_some,Vo,e2',e4',show ((1:Int) != 0)=true from rfl,cond_true]
  exact .inl ⟨_,rfl⟩
 rw[if_pos g3] at e3'
 obtain ⟨σ3,hσ3⟩:∃ σ3,σ1++τ3++[AP.cells ((⟨s,q,0,0,0,0⟩:AS).row i.hb) AV true]=σ3:=⟨_,rfl⟩
 have hA3:σ3[(σ1++τ3).length]?=some (AP.cells ((⟨s,q,0,0,0,0⟩:AS).row i.hb) AV true):=by rw[← hσ3]; simp
 have h3:Ag σ3 i (Oh n):=hσ3 ▸ (h1.app _).app _
 rw[hσ3] at e3'
 have hl3:σ3.length=(σ1++τ3).length+1:=by rw[← hσ3]; simp; omega
 have hlm:σ1.length≤(σ1++τ3).length:=by simp
 have hls:=k1.len
 obtain ⟨τ,j,e2,r2,lo2⟩:=kA (k+16) (n:=n) (by omega) (by omega) σ3
 have e2':K9 (k+17) (n:Int) σ3=_:=e2
 obtain ⟨σ4,hσ4⟩:∃ σ4,σ3++τ=σ4:=⟨_,rfl⟩
 rw[hσ4] at e2' r2
 have hl4:σ3.length≤σ4.length:=by rw[← hσ4]; simp
 have hA4:σ4[(σ1++τ3).length]?=some (AP.cells ((⟨s,q,0,0,0,0⟩:AS).row i.hb) AV true):=by rw[← hσ4,List.getElem?_append_left (by omega)]; exact hA3
 have W:oB σ4 i j (Oh n) ⟨List.replicate n (0,0),[],[],0⟩:=⟨hσ4 ▸ h3.app τ,⟨r2,RQ.new n,Inv.new n,Inv2.new n,h1.wl,h1.nb,h1.nt⟩,NM.new n,FZ.new n,B0.new n,fun q hq hm=>by have:=h3.lt q hq; have:=lo2 q hm; omega,by show (0:Int)≤1000; decide,by show 0≤1000; omega⟩
 have e4:=gK (k+15) W.g s q
 rw[if_pos g3] at e4
 have e4':KA (k+17) (Ca j) s q σ4=_:=e4
 obtain ⟨σ5,hσ5⟩:∃ σ5,σ4++[AP.cells ((⟨s,q,0,0,0,0⟩:AS).row j.hb) Cx true]=σ5:=⟨_,rfl⟩
 rw[hσ5] at e4'
 have hl5:σ5.length=σ4.length+1:=by rw[← hσ5]; simp
 have hlo:∀ x ∈ i.l,σ.length≤x∧x<σ1.length:=fun x hx=>⟨lo1 x hx,h1.lt x hx⟩
 have hlo2:∀ x ∈ j.l,σ3.length≤x∧x<σ4.length:=fun x hx=>⟨lo2 x hx,W.g.at_.lt x hx⟩
 have W5:TK σ5 i j (Oh n) ⟨List.replicate n (0,0),[],[],0⟩ (σ1++τ3).length σ4.length ⟨s,q,0,0,0,0⟩:=by
  refine ⟨hσ5 ▸ W.app _, ?_, ?_,fun hm=>?_,fun hm=>?_,fun hm=>?_,fun hm=>?_,by omega,⟨g3.1,g3.2,by dsimp only; omega,by dsimp only; omega,by dsimp only; omega,by dsimp only; omega⟩⟩
  ·unfold Cc; rw[← hσ5,List.getElem?_append_left (by omega)]; exact hA4
  ·unfold Kk; rw[← hσ5]; simp
  ·have:=hlo _ hm; omega
  ·have:=hlo2 _ hm; omega
  ·have:=hlo _ hm; omega
  ·have:=hlo2 _ hm; omega
 have s5:∀ x,x<σ.length→σ5[x]?=σ[x]?:=fun x hx=>by
  rw[← hσ5,List.getElem?_append_left (by omega),← hσ4,List.getElem?_append_left (by omega),← hσ3,List.append_assoc,List.getElem?_append_left (by omega)]
  exact k1.same x hx fun hm=>by have:=lo1 x hm; omega
 obtain ⟨σ',j',m',t',a',e5,W6,s6,l6,b6,p6,p7⟩:=aS (k+1) (by omega) (c2:=c2) (by omega) hok S l.length 0 (k+17) σ5 i j (Oh n) _ _ _ _ W5 (fun x hx=>⟨fun hm=>by have:=hlo x hm; omega,fun hm=>by have:=hlo2 x hm; omega⟩) (by omega) (by omega) s5 (by omega) (by omega) (Int.le_refl _) rfl (by omega)
 have e5':G8 (k+17) (k+17) p l.length c2 (En i) (D3 (σ1++τ3).length) (Ca j) (D3 σ4.length) 0 σ5=_:=e5
 simp only[e3',Option.bind_some,Vo,e2',e4',bne_self_eq_false,cond_false,e5',if_true]
 exact .inr ⟨σ',i,_,m',a',rfl,W6.w.h,W6.al,W6.abi,W6.ok,W6.w.rS,by omega,lo1,by omega,s6,l6,p6,p7⟩
end Go.Proofs.YtlaplcglpnlieaaGreat
end
section
namespace Go.Proofs.YtlaplcglpnlieaaGreat
open Go Go.AX
noncomputable local instance uQ:AK:=Au
local instance tM:Kn:=⟨true⟩
variable {σ:Aa} {m:HM} {i:C8} {ab:Nat} {a:AS}
theorem Gk.tail {σ':Aa} {s':EF} (g:Gk σ (none,0,0) σ' s'):(∃ τ,σ'=σ++τ) ∧ ∀ a,s'.1=some a→σ.length≤a.block:=by
 refine ⟨⟨σ'.drop σ.length, ?_⟩, ?_⟩
 ·refine List.ext_getElem? fun q=>?_
  by_cases h:q<σ.length
  ·rw[List.getElem?_append_left h]
   exact g.same q h fun a ha=>by cases ha
  ·rw[List.getElem?_append_right (by omega),List.getElem?_drop]
   congr 1; omega
 ·rcases g.new with rfl | h
  ·intro a ha; cases ha
  ·exact h
theorem sd:SE P Jw (.pointer none) (.pointer none)=some true:=by kernel_rfl
theorem YC {r d c:Int} {pr:PR} (hz:(BH m a r d c pr).1.2=0):valid r d c=true∧pr.1.2=true∧(BH m a r d c pr).1.1=pr.1.1:=by
 unfold BH at *
 split at hz
 ·rename_i q0
  split at hz
  ·rename_i q1
   split at hz
   ·rename_i q2
    split at hz
    ·rename_i q3
     rw[if_pos q0,if_pos q1,if_pos q2,if_pos q3]
     exact ⟨q0,q1,rfl⟩
    ·cases hz
   ·cases hz
  ·cases hz
 ·cases hz
end Go.Proofs.YtlaplcglpnlieaaGreat
end
section
namespace Go.Proofs.YtlaplcglpnlieaaGreat
open Go Go.AX
noncomputable local instance uR:AK:=Au
local instance tN:Kn:=⟨true⟩
variable {σ:Aa} {m:HM} {i:C8} {ab:Nat} {a:AS}
theorem dB {ls:List Bool}:∀ (f x:Nat) (g:Nat × Nat),g ∈ Sw ls f x→g.1<ls.length∧ls.getD g.1 false=false
 | 0,x,g,h=>by simp[Sw] at h
 | f+1,x,g,h=>by
   rw[Sw] at h
   by_cases hx:x<ls.length
   ·rw[if_pos hx] at h
    rcases List.mem_append.1 h with h | h
    ·by_cases q:x<Jy ls 8 x
     ·rw[if_pos q] at h
      rw[List.mem_singleton.1 h]
      refine ⟨hx, ?_⟩
      unfold Jy at q
      split at q
      ·rename_i q2; exact q2.2
      ·omega
     ·rw[if_neg q] at h; simp at h
    ·exact dB f _ g h
   ·rw[if_neg hx] at h; simp at h
theorem YL {lim:Int}:∀ {L:List Nat} {g:Nat × Nat × Nat},LK m lim L=some g→g.1 ∈ L∧g.2.1<(C6 m (g.1:Int)).length∧(C6 m (g.1:Int)).getD g.2.1 false=false
 | [],g,h=>by cases h
 | b::L,g,h=>by
   rw[LK] at h
   cases hb:Re (C6 m (b:Int)) b lim 9 0 with
   | some y=>
     rw[hb] at h
     cases h
     have:=dB 9 0 y (List.mem_of_find?_eq_some hb)
     exact ⟨by simp,this.1,this.2⟩
   | none=>
     rw[hb] at h
     obtain ⟨h1,h2,h3⟩:=YL h
     exact ⟨List.mem_cons_of_mem _ h1,h2,h3⟩
theorem lI (M:XI m) (ho:a.ok) {r d c:Int} (hp:a.p=4) (h8:words r d c≤8) (hc:(Z3 m a r d c).1.2=0):
  (Z3 m a r d c).1.1=a.c ∨ ∃ b x:Nat,(Z3 m a r d c).1.1=64*(b:Int)+8*(x:Int)∧b<64∧x<8∧(C6 m (b:Int)=[]∨(x<(C6 m (b:Int)).length∧(C6 m (b:Int)).getD x false=false)):=by
 obtain ⟨hv,h1,h2⟩:=YC hc
 have h2':(Z3 m a r d c).1.1=(YV m a (words r d c)).1.1:=h2
 rw[h2']
 have hw0:=JG hv
 have hnt:=M.nt
 have e:YV m a (words r d c)=Hw m a (words r d c):=by
  unfold YV
  rw[if_neg (by omega),if_neg (by omega),if_neg (by omega),if_neg (by omega),if_neg (by omega)]
 rw[e] at h1 ⊢
 unfold Hw at h1 ⊢
 by_cases q:a.l-a.c≥words r d c
 ·rw[if_pos q]; exact .inl rfl
 rw[if_neg q,if_neg (show ¬ words r d c>8 by omega)] at h1 ⊢
 by_cases q2:(Ld m a).2.2=true
 rotate_left
 ·rw[if_neg q2] at h1; cases h1
 rw[if_pos q2]
 right
 unfold Ld at q2 ⊢
 cases hh:LK m a.l (Bo m a.s m.bls.length) with
 | some g=>
   obtain ⟨g1,g2,g3⟩:=YL hh
   have g4:=OQ.1 g1
   have g5:=Oe m (g.1:Int)
   exact ⟨g.1,g.2.1,rfl,by omega,by omega,.inr ⟨g2,g3⟩⟩
 | none=>
   rw[hh] at q2
   unfold WS at q2 ⊢
   cases hb:Qp m with
   | none=>rw[hb] at q2; cases q2
   | some b=>
     have hf:=Ig hb
     refine ⟨b,0,by dsimp only; omega,by omega,by decide,.inl ?_⟩
     unfold C6
     rw[if_neg]
     unfold Ii
     rw[if_pos (by omega),Int.toNat_natCast,hf.2.2.1]
     decide
theorem bT (k:Nat) (hk:1000000≤k) {σ:Aa} (b:Int) (hb:AY b) (s:Int) (hs:AY s) (p:Option Addr) (c2:Nat) (l:List Zk) (hok:∀ y ∈ l,y.ok) (S:QN YB σ p l) (r:Int) (hr:AY r) (d:Int) (hd:AY d) (c:Int) (hc:AY c):
  ∃ σ',fn P (XK Kn.b) H (k+19) V6 [.int .i64 b,.int .i64 s,.slice p l.length c2,.agg #[.int .i64 r,.int .i64 d,.int .i64 c]] σ=some (.bool true,σ'):=by
 rw[show [Value.int .i64 b,.int .i64 s,.slice p l.length c2,.agg #[.int .i64 r,.int .i64 d,.int .i64 c]]=[.int .i64 b,.int .i64 s,.slice (p,l.length,c2).1 (p,l.length,c2).2.1 (p,l.length,c2).2.2,.agg #[.int .i64 r,.int .i64 d,.int .i64 c]] from rfl,V8,TN,PQ]
 simp only[An]
 obtain ⟨μ,hμ⟩:∃ μ,σ++[AP.cells [Value.int .i64 r,.int .i64 d,.int .i64 c] Al true]=μ:=⟨_,rfl⟩
 have hbox:μ[σ.length]?=some (AP.cells [Value.int .i64 r,.int .i64 d,.int .i64 c] Al true):=by rw[← hμ]; simp
 have hlt:σ.length<μ.length:=Ae hbox
 have ldq:∀ (μ':Aa),μ'[σ.length]?=μ[σ.length]?→Ai .i64 μ' σ.length 0=some r∧Ai .i64 μ' σ.length 1=some d∧Ai .i64 μ' σ.length 2=some c:=by
  intro μ' h
  rw[hbox] at h
  refine ⟨?_, ?_, ?_⟩ <;> simp[Ai,Gs,h,BF]
 have Sμ:QN YB μ p l:=hμ ▸ S.app _
 rw[hμ]
 rcases nJ k hk b s 4 p c2 l hok Sμ with ⟨σ1,e0⟩ | ⟨σ1,i,ab,m,a,e0,Y⟩
 ·simp only[e0,Option.bind_some,kC,sd,cond_true,Qw,As]
  exact ⟨_,rfl⟩
 obtain ⟨a0,a1,a2⟩:=ldq σ1 (Y.same _ hlt)
 have hle:=Y.len
 obtain ⟨τ2,e2⟩:=LI (k+16) r d c σ1
 simp only[e0,Option.bind_some,kC,rm,cond_false,Nat.zero_add,Nat.reduceAdd,a0,a1,a2,e2,Ao]
 by_cases g8:words r d c>8
 ·simp only[decide_eq_true g8,cond_true,Qw,Option.bind_some,As]
  exact ⟨_,rfl⟩
 have e3:DC (k+18) (D3 ab) (σ1++τ2)=_:=iL (k+16) (Y.al.app τ2)
 obtain ⟨τ4,i',e4,h4',lo4⟩:=m8 (k+15) (Y.h.app τ2)
 have e4':Gw (k+18) (En i) (σ1++τ2)=_:=e4
 obtain ⟨σ4,hσ4⟩:∃ σ4,σ1++τ2++τ4=σ4:=⟨_,rfl⟩
 rw[hσ4] at e4' h4'
 have H4:Ag σ4 i m:=hσ4 ▸ (Y.h.app τ2).app τ4
 have A4:Cc σ4 ab i a:=hσ4 ▸ (Y.al.app τ2).app τ4
 have s4:∀ x,x<σ1.length→σ4[x]?=σ1[x]?:=fun x hx=>by rw[← hσ4,List.append_assoc,List.getElem?_append_left hx]
 have hl4:(σ1++τ2).length≤σ4.length:=by rw[← hσ4]; simp
 have hl4':σ1.length≤σ4.length:=by rw[← hσ4]; simp
 obtain ⟨c0,c1,c3⟩:=ldq σ4 (by rw[s4 _ (by omega)]; exact Y.same _ hlt)
 have hbr:=Y.br
 obtain ⟨σ5,e5,H5,A5,K5⟩:=cp (k+5) (by omega) H4 A4 Y.off Y.ok Y.M.inv Y.M.inv2 Y.M.b0 (by omega) r d c
 have e5':AM (k+18) (D3 ab) r d c σ4=_:=e5
 have hq5:σ5[σ.length]?=μ[σ.length]?:=by
  rw[K5.same _ (by omega) (fun hm=>by have:=Y.lo _ hm; omega) (by have:=Y.loa; omega),s4 _ (by omega)]; exact Y.same _ hlt
 obtain ⟨f0,f1,f2⟩:=ldq σ5 hq5
 obtain ⟨τ6,e6⟩:=LI (k+16) r d c σ5
 simp only[decide_eq_false g8,cond_false,e3,mb,e4',Option.bind_some,VD,c0,c1,c3,e5',Ew]
 by_cases g0:(Z3 m a r d c).1.2=0
 rotate_left
 ·simp only[show ((Z3 m a r d c).1.2 != 0)=true from by simpa using g0,cond_true,Qw,Option.bind_some,As]
  exact ⟨_,rfl⟩
 have hlaw:=lI Y.M Y.ok Y.ep (by omega) g0
 have hv:=(YC g0).1
 have hw0:=JG hv
 have hca:=Y.ok.c0
 have hnt:=Y.M.nt
 obtain ⟨A,hA⟩:∃ A:Nat,(Z3 m a r d c).1.1=(A:Int)∧A≤10000:=by
  rcases hlaw with h | ⟨b,x,h,h1,h2,_⟩
  ·exact ⟨a.c.toNat,by omega,by omega⟩
  ·exact ⟨64*b+8*x,by omega,by omega⟩
 obtain ⟨W,hW⟩:∃ W:Nat,words r d c=(W:Int):=⟨(words r d c).toNat,by omega⟩
 rw[hA.1] at hlaw
 rw[hW] at hw0 e6 g8
 have w1:Ac ((A:Int)+(W:Int))=((A+W:Nat):Int):=Ad (by unfold AY; omega)
 have w2:Ac (((A+W:Nat):Int)-1)=((A+W-1:Nat):Int):=by rw[Ad (by unfold AY; omega)]; omega
 have w3:Ac ((((A+W-1:Nat):Int)).tdiv 8)=(((A+W-1)/8:Nat):Int):=by
  rw[show (((A+W-1:Nat):Int)).tdiv 8=(((A+W-1)/8:Nat):Int) from rfl]; exact Ad (by unfold AY; omega)
 have w4:Ac (((A:Int)).tdiv 8)=((A/8:Nat):Int):=by
  rw[show ((A:Int)).tdiv 8=((A/8:Nat):Int) from rfl]; exact Ad (by unfold AY; omega)
 have w5:Ac (((A/8:Nat):Int)+1)=((A/8+1:Nat):Int):=Ad (by unfold AY; omega)
 have w6:Ac (((A:Int)).tdiv 64)=((A/64:Nat):Int):=by
  rw[show ((A:Int)).tdiv 64=((A/64:Nat):Int) from rfl]; exact Ad (by unfold AY; omega)
 simp only[g0,hA.1,bne_self_eq_false,cond_false,show ((8:Int)=0)=False from by simp,show ((64:Int)=0)=False from by simp,if_false,f0,f1,f2,Option.bind_some,e6,Ao,w1,w2,w3,w4,w5,w6,decide_eq_false (show ¬ (((A+W-1)/8:Nat):Int)>((A/8+1:Nat):Int) by omega)]
 by_cases qc:(A:Int)=a.c
 ·simp only[show ((A:Int) == a.c)=true from by simpa using qc,cond_true,Qw,Option.bind_some,As]
  exact ⟨_,rfl⟩
 obtain ⟨B,x,hB,hB1,hx,hli⟩:=hlaw.resolve_left qc
 have hA2:A=64*B+8*x:=by omega
 have H5':Ag (σ5++τ6) i' m:=((h4'.Dd fun q hq=>K5.same q (h4'.lt q hq) (fun hm=>by have h1:=lo4 q hq; have h2:=Y.h.lt q hm; rw[List.length_append] at h1; omega) (fun e=>by have h1:=lo4 q hq; have h2:=Y.al.lt; rw[List.length_append] at h1; omega))).app _
 obtain ⟨τ7,sl,e7,S7,lo7⟩:=jT (k+11) (by omega) H5' Y.M.inv Y.M.inv2 Y.M.b0 ((A/64:Nat):Int)
 have e7':Cm (k+18) (En i') ((A/64:Nat):Int) (σ5++τ6)=_:=e7
 have d1:A/64=B:=by omega
 have d2:A/8=8*B+x:=by omega
 have d3:(A+W-1)/8=8*B+x:=by omega
 rw[d1] at e7' S7
 obtain ⟨σ7,hσ7⟩:∃ σ7,σ5++τ6++τ7=σ7:=⟨_,rfl⟩
 rw[hσ7] at e7' S7
 have w8:Ac (((8*B+x:Nat):Int)+1)=((8*B+x+1:Nat):Int):=Ad (by unfold AY; omega)
 have t1:(((8*B+x:Nat):Int)).tmod 8=(x:Int):=by
  rw[show (((8*B+x:Nat):Int)).tmod 8=(((8*B+x) % 8:Nat):Int) from rfl]; omega
 have e8:DK (k+18) (k+18) ((8*B+x:Nat):Int) sl.1 (C6 m (B:Int)).length sl.2.2 ((8*B+x:Nat):Int) σ7=some (.exit 0,[],σ7):=by
  rw[L0,JI]
  have nx:DK (k+18) (k+17) ((8*B+x:Nat):Int) sl.1 (C6 m (B:Int)).length sl.2.2 ((8*B+x+1:Nat):Int) σ7=some (.exit 0,[],σ7):=by
   rw[L0,JI]
   simp only[decide_eq_false (show ¬ (((8*B+x+1:Nat):Int))≤((8*B+x:Nat):Int) by omega),cond_false]
  rcases hli with h | ⟨h1,h2⟩
  ·rw[h] at nx ⊢
   simp only[decide_eq_true (show (((8*B+x:Nat):Int))≤((8*B+x:Nat):Int) by omega),cond_true,List.length_nil,decide_eq_false (show ¬ ((0:Nat):Int)>0 by omega),cond_false,Option.bind_some,w8]
   exact nx
  ·obtain ⟨q,e9,l9⟩:=WM S7 h1
   rw[e9] at nx ⊢
   simp only[decide_eq_true (show (((8*B+x:Nat):Int))≤((8*B+x:Nat):Int) by omega),cond_true,decide_eq_true (show (((C6 m (B:Int)).length:Nat):Int)>0 by omega),show ((8:Int)=0)=False from by simp,if_false,t1,if_pos (show (0:Int)≤(x:Int)∧(x:Int)<(((C6 m (B:Int)).length:Nat):Int) by omega),Option.bind_some,Int.toNat_natCast,Nat.zero_add,Nat.mul_one,l9,h2,cond_false,w8]
   exact nx
 have t2:((A:Int)).tmod 8=0:=by
  rw[show ((A:Int)).tmod 8=((A % 8:Nat):Int) from rfl]; omega
 simp only[show ((A:Int) == a.c)=false from by simpa using qc,cond_false,d1,d2,d3,e7',Option.bind_some,Hm,S7.len,e8,if_true,t2,beq_self_eq_true,cond_true,Qw,As]
 exact ⟨_,rfl⟩
end Go.Proofs.YtlaplcglpnlieaaGreat
end
