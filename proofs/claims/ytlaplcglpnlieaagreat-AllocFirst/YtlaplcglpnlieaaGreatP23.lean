/- Slices of elements of any plain kind, as they are handed in: read into the abstract memory, one behind the other.; PRINTED BY A PROGRAM OF THIS SESSIO -/
import Derived.Test.YtlaplcglpnlieaaGreatRows
import Derived.Test.YtlaplcglpnlieaaGreatChecked
import Derived.Deep.Slices
import Derived.DataShut
import Derived.Lib.SmallJoins
import Derived.Test.YtlaplcglpnlieaaGreatP12
import Derived.Test.YtlaplcglpnlieaaGreatP6
import Derived.Test.YtlaplcglpnlieaaGreatP7
import Derived.Test.YtlaplcglpnlieaaGreatP22
import Derived.Test.YtlaplcglpnlieaaGreatP18
set_option linter.unusedVariables false
set_option linter.unusedSimpArgs false
set_option linter.unusedSectionVars false
section
namespace Go.Proofs.YtlaplcglpnlieaaGreat
open Go Go.AX Go.RowKit Go.ChangeShapes Go.WideShapes Go.ChangeAt
theorem own:ownKnob Tryz.prog.godebug=none:=by kernel_rfl
theorem laidOut:laidOutB Tryz.prog=true:=by kernel_rfl
theorem bI:Tryz.prog.underlying 3=some (.int .i64):=by kernel_rfl
theorem Qn {n:Int} (h:(Lit.int .i64 n).wf=true):Bd n:=by
 rw[Lit.wf_int_iff] at h
 have h1:IntKind.i64.min = -9223372036854775808:=by decide
 have h2:IntKind.i64.max=9223372036854775807:=by decide
 rw[h1,h2] at h
 unfold Bd; omega
theorem re {α:Type}:∀ (l:List α),l.length=3 → ∃ a b c,l=[a,b,c]
 | [a,b,c],_=>⟨a,b,c,rfl⟩
theorem rf {α:Type}:∀ (l:List α),l.length=4 → ∃ a b c d,l=[a,b,c,d]
 | [a,b,c,d],_=>⟨a,b,c,d,rfl⟩
theorem rh {α:Type}:∀ (l:List α),l.length=6 → ∃ a b c d e f,l=[a,b,c,d,e,f]
 | [a,b,c,d,e,f],_=>⟨a,b,c,d,e,f,rfl⟩
structure El (α:Type) where
 T:TypeId
 z:Nat
 cells:α→List Value
 ok:α→Prop
def plain (v:Value):Prop:=(∃ n,v = .int .i64 n) ∨ ∃ b,v = .bool b
structure kA {α:Type} (e:El α):Prop where
 zc:P.cellsOf e.T=e.z
 z0:0<e.z
 len:∀ y,(e.cells y).length=e.z
 one:∀ y,∀ v ∈ e.cells y,plain v
 rd:∀ {H:Type} {enc:TypeId × Value→H} {W:World} {base:Nat} {sp:Nat→Bool} {hd:Bool} {fuel:Nat} {cs:List Value} {x:DataW H × List MemPlace},cs.length=e.z→DataW.trod enc P W base sp hd fuel e.T cs=some x → ∃ y,e.ok y∧cs=e.cells y
def El.row {α:Type} (e:El α):List α→List Value
 | []=>[]
 | x::l=>e.cells x++e.row l
section
variable {α:Type} {e:El α}
theorem eD (he:kA e):∀ l:List α,(e.row l).length=e.z*l.length
 | []=>by simp[El.row]
 | x::l=>by
   simp only[El.row,List.length_append,eD he l,he.len,List.length_cons]
   rw[Nat.mul_add,Nat.mul_one]; omega
theorem eC (he:kA e):∀ (l:List α) (x:Nat) (hx:x<l.length) (q:Nat),q<e.z→(e.row l)[x*e.z+q]?=(e.cells l[x])[q]?
 | y::l,0,hx,q,hq=>by
   simp only[El.row,Nat.zero_mul,Nat.zero_add,List.getElem_cons_zero]
   rw[List.getElem?_append_left (by rw[he.len]; exact hq)]
 | y::l,x+1,hx,q,hq=>by
   have h1:x<l.length:=by simpa using hx
   simp only[El.row,List.getElem_cons_succ]
   have e0:(x+1)*e.z=e.z+x*e.z:=by rw[Nat.add_mul]; omega
   rw[List.getElem?_append_right (by rw[he.len,e0]; omega),he.len,← eC he l x h1 q hq]
   congr 1
   rw[e0]; omega
theorem nE {μ:Mu} {v:Value} (h:plain v):RV μ v v:=by
 rcases h with ⟨n,rfl⟩ | ⟨b,rfl⟩
 ·exact .int _ _
 ·exact .bool _
theorem dg {μ:Mu}:∀ {l:List Value},(∀ v ∈ l,plain v)→J3 μ l l
 | [],_=>.nil
 | v::l,h=>.cons (nE (h v (by simp))) (dg fun v hv=>h v (by simp[hv]))
theorem Yn (he:kA e):∀ (l:List α),∀ v ∈ e.row l,plain v
 | [],v,h=>by simp[El.row] at h
 | x::l,v,h=>by
   simp only[El.row,List.mem_append] at h
   rcases h with h | h
   ·exact he.one x v h
   ·exact Yn he l v h
theorem YC {p:Nat→α→Prop}:∀ (n:Nat),(∀ i,i<n → ∃ a,p i a) → ∃ l:List α,l.length=n ∧ ∀ i (h:i<l.length),p i l[i]
 | 0,_=>⟨[],rfl,fun i h=>by simp at h⟩
 | n+1,h=>by
   obtain ⟨l,hl,hp⟩:=YC n fun i hi=>h i (by omega)
   obtain ⟨a,ha⟩:=h n (by omega)
   refine ⟨l++[a],by simp[hl],fun i hi=>?_⟩
   by_cases hi':i<l.length
   ·rw[List.getElem_append_left hi']; exact hp i hi'
   ·have:i=l.length:=by simp at hi; omega
    subst this
    rw[List.getElem_append_right (Nat.le_refl _)]
    simp[hl]; exact ha
def pG (e:El α) (W:World) (v:Value) (l:List α):Prop:=
 (∀ x ∈ l,e.ok x)∧((l=[] ∧ ∃ pt,∀ μ,RV μ (.slice pt 0 0) v) ∨
  ∃ k,(∀ μ,dM P μ (.cells (e.row l) e.T false) k W.heap[k.b]?)∧k.b<W.heap.size ∧ ∀ μ h,μ h=some k→RV μ (.slice (some ⟨h,0,none⟩) l.length l.length) v)
set_option maxRecDepth 100000 in
theorem qA (he:kA e) {ST:TypeId} {H:Type} {enc:TypeId × Value→H} {W:World} {b0:Nat} {v:Value} {d:DataW H} {p:List MemPlace} (ht:Tryz.prog.underlying ST=some (.slice e.T)) (hval:Value.okWide Tryz.prog W .any b0 ST v) (h:DataW.Trod enc Tryz.prog W 0 (fun _=>true) true ST v d p):
  ∃ l:List α,pG e W v l:=by
 have z0:=he.z0
 obtain ⟨a0,len,cap,rfl⟩:=okWide_slice ht hval
 obtain ⟨fuel,hf⟩:=h
 rcases Go.Deep.open_slice ht hf with ⟨h1,_⟩ | ⟨a,len',cap',mm,n,D,Pl,h1,_,hlc,hcm,hmm,_,hel⟩
 ·simp[Value.cells] at h1
  obtain ⟨rfl,rfl,rfl⟩:=h1
  exact ⟨[],(fun x hx=>by simp at hx),.inl ⟨rfl,none,fun _=>.sliceNil⟩⟩
 ·simp[Value.cells] at h1
  obtain ⟨rfl,rfl,rfl⟩:=h1
  have hm:mm=cap:=by simpa using hmm
  subst hm
  by_cases hc0:mm=0
  ·subst hc0
   obtain rfl:len=0:=by omega
   exact ⟨[],(fun x hx=>by simp at hx),.inl ⟨rfl,some ⟨0,0,some 0⟩,fun _=>.sliceZ a rfl⟩⟩
  have hcells:∀ q,q<mm → ∃ cs',W.cells? 0 (a.add (q*e.z)) e.z=some cs' ∧ ∃ y:α,e.ok y∧cs'=e.cells y:=by
   intro q hq
   obtain ⟨cs',g1,g2⟩:=hel q hq
   rw[show Tryz.prog.cellsOf e.T=e.z from he.zc] at g1
   obtain ⟨_,g3,_⟩:=World.cells?_some g1
   exact ⟨cs',g1,he.rd g3 g2⟩
  obtain ⟨cs0,f1,_,_⟩:=hcells 0 (by omega)
  obtain ⟨_,f2,f3⟩:=World.cells?_some f1
  have f4:=f3 0 z0
  have hz:(a.add (0*e.z)).add 0=a:=by simp[Addr.add]
  rw[hz] at f4
  have hc0':∃ v0,W.cell? a=some v0:=by
   rw[f4]; exact ⟨_,List.getElem?_eq_getElem (by omega)⟩
  obtain ⟨v0,hc0'⟩:=hc0'
  have hblk:∃ c T fz,W.heap[a.block]?=some (.cells c T fz)∧a.spot=none:=by
   unfold World.cell? at hc0'
   split at hc0'
   ·rename_i c T fz hb
    split at hc0'
    ·cases hc0'
    ·rename_i hsp
     exact ⟨c,T,fz,hb,by simpa using hsp⟩
   ·cases hc0'
  obtain ⟨c,T,fz,hb,hsp⟩:=hblk
  have hcell:∀ o,W.cell? ⟨a.block,a.off+o,none⟩=c[a.off+o]?:=by
   intro o; simp[World.cell?,hb]
  have hadd:∀ q r,(a.add (q*e.z)).add r=⟨a.block,a.off+(q*e.z+r),none⟩:=by
   intro q r
   obtain ⟨b,o,s⟩:=a
   simp only at hsp
   subst hsp
   unfold Addr.add
   by_cases h1:q*e.z=0
   ·by_cases h2:r=0 <;> simp[h1,h2]
   ·by_cases h2:r=0 <;> simp[h1,h2] <;> omega
  obtain ⟨l,hl,hlp⟩:=YC (α:=α) (p:=fun q y=>e.ok y∧W.cells? 0 (a.add (q*e.z)) e.z=some (e.cells y)) mm (fun q hq=>by
   obtain ⟨cs',g1,y,g2,g3⟩:=hcells q hq
   exact ⟨y,g2,by rw[← g3]; exact g1⟩)
  have hget:∀ q (hq:q<l.length) r,r<e.z→c[a.off+(q*e.z+r)]?=(e.cells (l[q]))[r]?:=by
   intro q hq r hr
   obtain ⟨_,g2⟩:=hlp q hq
   obtain ⟨_,_,g4⟩:=World.cells?_some g2
   rw[← hcell,← hadd,g4 r hr]
  have hlast:=hget (mm-1) (by omega) (e.z-1) (by omega)
  have hmz:(mm-1)*e.z+e.z=mm*e.z:=by
   have:mm*e.z=(mm-1+1)*e.z:=by rw[Nat.sub_add_cancel (by omega)]
   rw[this,Nat.add_mul,Nat.one_mul]
  have hsize:a.off+mm*e.z≤c.size:=by
   have h9:e.z-1<(e.cells (l[mm-1]'(by omega))).length:=by rw[he.len]; omega
   rw[List.getElem?_eq_getElem h9] at hlast
   have:=(Array.getElem?_eq_some_iff.1 hlast).1
   omega
  have hlt:(l.take len).length=len:=by simp; omega
  have hrow:((c.toList.drop a.off).take (e.z*len))=e.row (l.take len):=by
   apply List.ext_getElem?
   intro x
   by_cases hx:x<e.z*len
   ·rw[List.getElem?_take,if_pos hx,List.getElem?_drop,Array.getElem?_toList]
    have hq:x/e.z<len:=Nat.div_lt_of_lt_mul hx
    have hr:x % e.z<e.z:=Nat.mod_lt _ z0
    have ex:x/e.z*e.z+x % e.z=x:=by have:=Nat.div_add_mod x e.z; rw[Nat.mul_comm] at this; exact this
    have h1:=eC he (l.take len) (x/e.z) (by omega) (x % e.z) hr
    rw[ex] at h1
    rw[h1,List.getElem_take]
    have h2:=hget (x/e.z) (by omega) (x % e.z) hr
    rw[ex] at h2
    exact h2
   ·rw[List.getElem?_take,if_neg hx,List.getElem?_eq_none]
    rw[eD he,hlt]; omega
  refine ⟨l.take len, ?_,.inr ⟨⟨a.block,a.off,e.z,e.z*len,e.z*mm⟩,fun μ=>?_,(Array.getElem?_eq_some_iff.1 hb).1,fun μ h hk=>?_⟩⟩
  ·intro x hx
   obtain ⟨q,hq,rfl⟩:=List.mem_iff_getElem.1 hx
   rw[List.getElem_take]
   exact (hlp q (by simp at hq; omega)).1
  ·refine ⟨c,T,fz,hb,by rw[eD he,hlt],by dsimp only; exact Nat.mul_le_mul_left _ (by omega),by dsimp only; rw[Nat.mul_comm]; exact hsize,he.zc.symm,(fun h=>by cases h), ?_, ?_⟩
   ·intro v hv
    rcases Yn he _ v hv with ⟨n,rfl⟩ | ⟨b,rfl⟩ <;> rfl
   ·rw[hrow]
    exact dg (Yn he _)
  ·rw[hlt]
   have:=RV.slice (μ:=μ) (a:=⟨h,0,none⟩) (k:=⟨a.block,a.off,e.z,e.z*len,e.z*mm⟩) (l:=len) (c:=len) (c':=mm) hk rfl (Nat.le_refl _) hlc (by dsimp only; rw[Nat.zero_add,Nat.mul_comm]; exact Nat.le_refl _)
   have ha:(⟨a.block,a.off+0,none⟩:Addr)=a:=by
    obtain ⟨b,o,s⟩:=a
    simp only at hsp
    subst hsp; rfl
   simp only[ha] at this
   exact this
def QG (e:El α) (σ:Aa) (p:Option Addr) (l:List α):Prop:=l=[] ∨ ∃ ab,p=some ⟨ab,0,none⟩∧σ[ab]?=some (.cells (e.row l) e.T false)
theorem QG.ld (he:kA e) {σ:Aa} {p:Option Addr} {l:List α} (h:QG e σ p l) {x:Nat} (hx:x<l.length):∃ ab,p=some ⟨ab,0,none⟩∧ab<σ.length ∧ ∀ q,q<e.z→Gt σ ab (x*e.z+q)=(e.cells l[x])[q]?:=by
 rcases h with rfl | ⟨ab,h1,h2⟩
 ·simp at hx
 ·exact ⟨ab,h1,(List.getElem?_eq_some_iff.1 h2).1,fun q hq=>by simp only[Gt,h2]; exact eC he l x hx q hq⟩
theorem QG.Db {σ σ':Aa} {p:Option Addr} {l:List α} (h:QG e σ p l) (hs:∀ q,q<σ.length→σ'[q]?=σ[q]?):QG e σ' p l:=by
 rcases h with h | ⟨ab,h1,h2⟩
 ·exact .inl h
 ·exact .inr ⟨ab,h1,by rw[hs ab (List.getElem?_eq_some_iff.1 h2).1]; exact h2⟩
theorem QG.app {σ:Aa} {p:Option Addr} {l:List α} (h:QG e σ p l) (τ:Aa):QG e (σ++τ) p l:=by
 rcases h with h | ⟨ab,h1,h2⟩
 ·exact .inl h
 ·exact .inr ⟨ab,h1,by rw[List.getElem?_append_left (List.getElem?_eq_some_iff.1 h2).1]; exact h2⟩
end
theorem rk (W:World):R P (fun _=>none) [] W:=⟨fun h o k h1 _=>by simp at h1,fun h k h1=>(by cases h1),fun h h' k k' h1=>(by cases h1)⟩
structure TZ (W:World) (σ:Aa) (μ:Mu):Prop where
 r:R P μ σ W
 nw:∀ b,b<σ.length→¬ Av σ b
 fr:∀ hi,HY μ σ.length hi
theorem TZ.nil (W:World):TZ W [] (fun _=>none):=⟨rk W,fun b hb=>absurd hb (Nat.not_lt_zero _),fun _ _ _ _=>rfl⟩
theorem TZ.add {W:World} {σ:Aa} {μ:Mu} (h:TZ W σ μ) {α:Type} {e:El α} {v:Value} {l:List α} (ho:pG e W v l):
  ∃ pt c2 τ μ',TZ W (σ++τ) μ'∧QG e (σ++τ) pt l∧RV μ' (.slice pt l.length c2) v∧(∀ x y,RV μ x y→RV μ' x y)∧(∀ ab,pt=some ab→l≠[]→ab.block<(σ++τ).length):=by
 obtain ⟨_,⟨rfl,pt,hrv⟩ | ⟨k,hk,hlt,hrv⟩⟩:=ho
 ·exact ⟨pt,0,[],μ,by rw[List.append_nil]; exact h,.inl rfl,hrv _,fun _ _ h=>h,fun _ _ hh=>absurd rfl hh⟩
 ·have hle:μ.le (μ.put σ.length k):=by
   intro a b hab
   by_cases q:a=σ.length
   ·subst q
    have:=h.fr (σ.length+1) σ.length (Nat.le_refl _) (by omega)
    rw[this] at hab; cases hab
   ·simp[Mu.put,q,hab]
  refine ⟨some ⟨σ.length,0,none⟩,l.length,[.cells (e.row l) e.T false],μ.put σ.length k,⟨⟨fun a o k1 h1 h2=>?_,fun a k1 h1=>?_,fun a a' k1 k2 h1 h2 ha1 ha2 hw _=>?_⟩,fun b hb=>?_,fun hi a h1 h2=>?_⟩,.inr ⟨σ.length,rfl,by simp⟩,hrv _ _ (by simp[Mu.put]),fun x y hh=>hh.mono hle,fun a ha _=>by cases ha; simp⟩
  ·by_cases q:a=σ.length
   ·subst q
    simp at h1; subst h1
    have:k=k1:=by simpa [Mu.put] using h2
    subst this
    exact hk _
   ·have h3:μ a=some k1:=by simpa [Mu.put,q] using h2
    have h4:σ[a]?=some o:=by
     rw[List.getElem?_append] at h1
     split at h1
     ·exact h1
     ·rename_i hh
      have:=(List.getElem?_eq_some_iff.1 h1).1
      simp at this; omega
    exact (h.r.obj a o k1 h4 h3).mono hle
  ·by_cases q:a=σ.length
   ·subst q
    have:k=k1:=by simpa [Mu.put] using h1
    subst this; exact hlt
   ·exact h.r.lt a k1 (by simpa [Mu.put,q] using h1)
  ·have nw:∀ b,¬ Av (σ++[Bh.cells (e.row l) e.T false]) b:=by
    intro b
    rcases Nat.lt_trichotomy b σ.length with q | q | q
    ·have:=h.nw b q
     unfold Av at *
     rw[List.getElem?_append_left q]; exact this
    ·subst q; simp[Av]
    ·unfold Av
     rw[List.getElem?_eq_none (by simp; omega)]; simp
   rcases hw with hw | hw
   ·exact absurd hw (nw _)
   ·exact absurd hw (nw _)
  ·rcases Nat.lt_or_ge b σ.length with q | q
   ·have:=h.nw b q
    unfold Av at *
    rw[List.getElem?_append_left q]; exact this
   ·have:b=σ.length:=by simp at hb; omega
    subst this; simp[Av]
  ·simp at h1
   have:a≠σ.length:=by omega
   simp only[Mu.put,this,if_false]
   exact h.fr hi a (by omega) h2
theorem jD {f:Nat} {k:Nat} {args gs:List Value} {σ:Aa} {μ:Mu} {w:World}
  (h:∃ σ',@fn As P X2 H k f args σ=some (.bool true,σ'))
  (ho:TZ w σ μ) (hV:J3 μ args gs):
  Calls Tryz.prog f gs.toArray w fun x w'=>x = .returned (.bool true)∧Below w.heap.size w w':=by
 obtain ⟨σ',h⟩:=h
 obtain ⟨hlen,_,_,hc⟩:=@mQ P As Tryz.checked.mixed X2 (rz Tryz.checked.mixed) pC H k _ _ _ _ _ h
 refine (hc μ w gs.toArray ho.r (ho.fr _) (by simpa using hV)).mono ?_
 rintro x w' ⟨μ',v',rfl,hv,hR',hS⟩
 cases hv
 exact ⟨rfl,bV hS ho.nw⟩
end Go.Proofs.YtlaplcglpnlieaaGreat
end
section
set_option maxRecDepth 100000
namespace Go.Proofs.YtlaplcglpnlieaaGreat
open Go Go.AX Go.RowKit Go.ChangeShapes Go.WideShapes Go.ChangeAt
theorem z3:Tryz.prog.cellsOf 3=1:=by kernel_rfl
structure sb where
 r:Int
 d:Int
 c:Int
def sb.ok (y:sb):Prop:=Bd y.r∧Bd y.d∧Bd y.c
structure Zf where
 k:Int
 a:Int
 b:Int
 r:Int
 d:Int
 c:Int
def Zf.ok (y:Zf):Prop:=Bd y.k∧Bd y.a∧Bd y.b∧Bd y.r∧Bd y.d∧Bd y.c
def Y6:El Zf:=⟨HQ,6,fun y=>[.int .i64 y.k,.int .i64 y.a,.int .i64 y.b,.int .i64 y.r,.int .i64 y.d,.int .i64 y.c],Zf.ok⟩
theorem rB:Tryz.prog.cellsOf 33=3:=by kernel_rfl
theorem fp:kA Y6 where
 zc:=by kernel_rfl
 z0:=by decide
 len:=fun _=>rfl
 one:=fun y v hv=>by
  simp[Y6] at hv
  rcases hv with rfl | rfl | rfl | rfl | rfl | rfl <;> exact .inl ⟨_,rfl⟩
 rd:=fun hl hf=>by
  obtain ⟨c0,c1,c2,c3,c4,c5,rfl⟩:=rh _ hl
  obtain ⟨xs1,_,_,_,_,hlen1,hff1⟩:=DataW.trod_struct Tryz.underlying79 hf
  obtain ⟨y1_0,y1_1,y1_2,y1_3,rfl⟩:=rf xs1 hlen1
  have k1_0:=hff1 0 _ rfl
  have k1_1:=hff1 1 _ rfl
  have k1_2:=hff1 2 _ rfl
  have k1_3:=hff1 3 _ rfl
  simp[z3,rB] at k1_0 k1_1 k1_2 k1_3
  obtain ⟨a0,e0,_,w0⟩:=DataW.trod_int bI k1_0
  obtain ⟨a1,e1,_,w1⟩:=DataW.trod_int bI k1_1
  obtain ⟨a2,e2,_,w2⟩:=DataW.trod_int bI k1_2
  obtain ⟨xs2,_,_,_,_,hlen2,hff2⟩:=DataW.trod_struct Tryz.underlying33 k1_3
  obtain ⟨y2_0,y2_1,y2_2,rfl⟩:=re xs2 hlen2
  have k2_0:=hff2 0 _ rfl
  have k2_1:=hff2 1 _ rfl
  have k2_2:=hff2 2 _ rfl
  simp[z3,rB] at k2_0 k2_1 k2_2
  obtain ⟨a3,e3,_,w3⟩:=DataW.trod_int bI k2_0
  obtain ⟨a4,e4,_,w4⟩:=DataW.trod_int bI k2_1
  obtain ⟨a5,e5,_,w5⟩:=DataW.trod_int bI k2_2
  simp at e0 e1 e2 e3 e4 e5
  subst e0 e1 e2 e3 e4 e5
  exact ⟨⟨a0,a1,a2,a3,a4,a5⟩,⟨Qn w0,Qn w1,Qn w2,Qn w3,Qn w4,Qn w5⟩,rfl⟩
end Go.Proofs.YtlaplcglpnlieaaGreat
end
section
namespace Go.Proofs.YtlaplcglpnlieaaGreat
open Go Go.AX
noncomputable local instance uw:AL:=As
local instance ti:Kn:=⟨true⟩
variable {σ:Aa} {m:HM} {t:RM} {i:C8} {j:RI} {ab rb:Nat} {a:AS}
structure T8 (σ:Aa) (i:C8) (j:RI) (m:HM) (t:RM) (ab rb:Nat) (a:AS):Prop where
 w:oo σ i j m t
 al:Cf σ ab i a
 rl:Kf σ rb j a
 abi:ab ∉ i.l
 abj:ab ∉ j.l
 rbi:rb ∉ i.l
 rbj:rb ∉ j.l
 ne:ab≠rb
 ok:a.ok
theorem T8.app (W:T8 σ i j m t ab rb a) (τ:Aa):T8 (σ++τ) i j m t ab rb a:=⟨W.w.app τ,W.al.app τ,W.rl.Db (List.getElem?_append_left (Af W.rl)) rfl,W.abi,W.abj,W.rbi,W.rbj,W.ne,W.ok⟩
theorem oo.rH (W:oo σ i j m t):WH m:=⟨W.g.inv,W.g.inv2,W.h.sh,W.z,W.b0,W.g.nb,W.g.nt⟩
structure jH (i:C8) (j j':RI) (ab rb:Nat) (σ σ':Aa):Prop where
 len:σ.length≤σ'.length
 same:∀ q,q<σ.length→q ∉ i.l→q ∉ j.l→q≠ab→q≠rb→σ'[q]?=σ[q]?
 new:∀ q,q ∈ j'.l→q ∈ j.l∨σ.length≤q
 hb:j'.hb=j.hb
theorem jH.trans {x y z:Aa} {j j' j'':RI} (h:jH i j j' ab rb x y) (g:jH i j' j'' ab rb y z):jH i j j'' ab rb x z:=by
 refine ⟨Nat.le_trans h.len g.len,fun q h1 h2 h3 h4 h5=>?_,fun q hq=>?_,g.hb.trans h.hb⟩
 ·refine (g.same q (Nat.lt_of_lt_of_le h1 h.len) h2 (fun hm=>?_) h4 h5).trans (h.same q h1 h2 h3 h4 h5)
  rcases h.new q hm with h6 | h6
  ·exact h3 h6
  ·omega
 ·rcases g.new q hq with h1 | h1
  ·exact h.new q h1
  ·exact .inr (Nat.le_trans h.len h1)
theorem jH.app (i:C8) (j:RI) (ab rb:Nat) (σ τ:Aa):jH i j j ab rb σ (σ++τ):=⟨by simp,fun q h _ _ _ _=>List.getElem?_append_left h,fun _ h=>.inl h,rfl⟩
theorem T8.of {σ':Aa} {j':RI} {m':HM} {t':RM} (W:T8 σ i j m t ab rb a) (W2:oo σ' i j' m' t') (k:pF i j j' σ σ'):T8 σ' i j' m' t' ab rb a∧jH i j j' ab rb σ σ':=by
 have la:=W.al.lt
 have lr:=Af W.rl
 refine ⟨⟨W2,W.al.Db (k.same ab la W.abi W.abj),W.rl.Db (k.same rb lr W.rbi W.rbj) k.hb,W.abi,fun hm=>?_,W.rbi,fun hm=>?_,W.ne,W.ok⟩,⟨k.len,fun q h1 h2 h3 _ _=>k.same q h1 h2 h3,k.new,k.hb⟩⟩
 ·rcases k.new ab hm with h | h
  ·exact W.abj h
  ·omega
 ·rcases k.new rb hm with h | h
  ·exact W.rbj h
  ·omega
theorem iF (W:T8 σ i j m t ab rb a) (hb:m.births<1000) (r d c:Int):ox m a (Vn m a r d c):=
 kF W.w.g.inv W.w.g.inv2 W.ok (fun hv=>nH W.w.g.inv W.w.g.inv2 W.w.g.nt W.ok (by have:=KR hv; omega)) (fun _=>(oW W.w.rH _).sh)
theorem cq {m:HM} {a:AS} {r d c:Int} {pr:PR} (hp:pr.2.1.fw=m.fw):(BG m a r d c pr).2.1.fw=m.fw:=by
 have hpl:∀ x,(Cw pr.2.1 x r d c).2.2.fw=m.fw:=fun x=>by
  unfold Cw; split
  ·split
   ·exact hp
   ·exact hp
  ·exact hp
 unfold BG; split
 ·split
  ·split
   ·split
    ·exact hpl _
    ·exact hpl _
   ·exact hp
  ·exact hp
 ·rfl
theorem RS (m:HM) (b c x y x' y':Int):(Cg m b c x y x' y').2.fw=m.fw:=by
 unfold Cg; split
 ·split <;> rfl
 ·rfl
theorem jS (m:HM) (s:Int):(Ui m s).fw=m.fw:=by
 unfold Ui; split
 ·exact RS _ _ _ _ _ _ _
 ·rfl
theorem Vk (m:HM) (a:AS) (l:List (Nat × Nat)):(Ca m a l).2.1.fw=m.fw:=by
 unfold Ca; split
 ·rfl
 ·split
  ·exact RS _ _ _ _ _ _ _
  ·rfl
theorem fF (m:HM) (a:AS) (v:Bool) (w:Int):(DS m a v w).2.1.fw=m.fw:=by
 unfold DS; split
 ·rfl
 ·split
  ·exact RS _ _ _ _ _ _ _
  ·rfl
theorem nG (m:HM) (a:AS) (w:Int):(YQ m a w).2.1.fw=m.fw:=by
 unfold YQ; split
 ·unfold Me; split
  ·exact RS _ _ _ _ _ _ _
  ·rfl
 split
 ·exact Vk _ _ _
 split
 ·exact Vk _ _ _
 split
 ·unfold YN; split
  ·exact Vk _ _ _
  ·exact Vk _ _ _
 split
 ·exact fF _ _ _ _
 ·unfold ID; split
  ·rfl
  ·split
   ·exact fF _ _ _ _
   ·split
    ·unfold Ns; split
     ·rfl
     ·exact jS _ _
    ·unfold Ns; split
     ·rfl
     ·exact jS _ _
theorem iG (k:Nat) (hk:60000≤k) (W:T8 σ i j m t ab rb a) (hb:m.births<1000) (r d c:Int):
  ∃ σ1 σ2 j' t',AN (k+13) (DK ab) r d c σ=some (.tuple #[.int .i64 (Vn m a r d c).1.1,.int .i64 (Vn m a r d c).1.2],σ1)∧Ec (k+13) (DK rb) r d c σ1=some (.tuple #[.int .i64 (Vn m a r d c).1.1,.int .i64 (Vn m a r d c).1.2],σ2)∧T8 σ2 i j' (Vn m a r d c).2.1 t' ab rb (Vn m a r d c).2.2∧jH i j j' ab rb σ σ2∧(∀ q,q<σ.length→q ∉ i.l→q≠ab→σ1[q]?=σ[q]?):=by
 have ok:=iF W hb r d c
 have hfw:(Vn m a r d c).2.1.fw=m.fw:=cq (nG m a _)
 obtain ⟨σ1,e1,h1,A1,K1⟩:=cm k (by omega) W.w.h W.al W.abi W.ok W.w.g.inv W.w.g.inv2 W.w.b0 (by omega) r d c
 have la:=W.al.lt
 have lr:=Af W.rl
 have g1:RG σ1 j m t:=W.w.g.Db (fun q hq=>K1.same q (W.w.g.at_.lt q hq) (fun hm=>W.w.off q hm hq) (fun e=>W.abj (by rw[← e]; exact hq))) K1.len
 have R1:Tv σ1 j rb m t a:=⟨g1,W.w.P,W.w.rH,W.rl.Db (K1.same rb lr W.rbi fun e=>W.ne e.symm) rfl,W.rbj⟩
 obtain ⟨σ2,j',t',e2,R2,K2⟩:=lQ (k+3) (by omega) R1 W.ok (by omega) r d c
 have off2:∀ q,q<σ1.length→q ∉ j.l→q ∉ j'.l:=fun q hq hn hm=>by
  rcases K2.new q hm with h | h
  ·exact hn h
  ·omega
 have h2:Ah σ2 i (Vn m a r d c).2.1:=h1.Db fun q hq=>K2.same q (h1.lt q hq) (W.w.off q hq) fun e=>W.rbi (by rw[← e]; exact hq)
 refine ⟨σ1,σ2,j',t',e1,e2,⟨⟨h2,R2.g,R2.P,R2.M.fz,R2.M.b0,fun q hq=>off2 q (h1.lt q hq) (W.w.off q hq), ?_, ?_⟩,A1.Db (K2.same ab (Af A1) W.abj W.ne),R2.al,W.abi,off2 ab (Af A1) W.abj,W.rbi,R2.off,W.ne,ok.ok⟩,⟨Nat.le_trans K1.len K2.len,fun q q1 q2 q3 q4 q5=>by rw[K2.same q (Nat.lt_of_lt_of_le q1 K1.len) q3 q5,K1.same q q1 q2 q4],fun q hq=>(K2.new q hq).imp id fun h=>Nat.le_trans K1.len h,K2.hb⟩,fun q q1 q2 q3=>K1.same q q1 q2 q3⟩
 ·have:=ok.b2; omega
 ·rw[hfw]; exact W.w.fl
end Go.Proofs.YtlaplcglpnlieaaGreat
end
section
namespace Go.Proofs.YtlaplcglpnlieaaGreat
open Go Go.AX
noncomputable local instance ux:AL:=As
local instance tj:Kn:=⟨true⟩
variable {σ:Aa} {m:HM} {t:RM} {i:C8} {j:RI} {ab rb:Nat} {a:AS}
def AS.zero (a:AS):AS:={ a with c:=0,l:=0,oc:=0,ol:=0 }
theorem kH (k:Nat) (hA:Cf σ ab i a):∃ σ',ES (k+2) (DK ab) σ=some (.tuple #[],σ')∧Cf σ' ab i a.zero∧Fh ab σ σ':=by
 have s1:=hA.rJ false 0 0
 have A1:=hA.put (a.put false 0 0)
 have s2:=A1.rJ true 0 0
 rw[show mf false=3 from rfl] at s1
 rw[show mf true=5 from rfl] at s2
 have A2:=A1.put ((a.put false 0 0).put true 0 0)
 refine ⟨_, ?_,A2,(Fh.set _ _).trans (Fh.set _ _)⟩
 rw[PY,Ms]
 simp only[ft _ hA,Option.bind_some,Au,cond_true,Nat.zero_add,s1,s2,if_true]
theorem lX (k:Nat) (h:Tv σ j rb m t a):∃ σ',EV (k+3) (DK rb) σ=some (.tuple #[],σ')∧Tv σ' j rb m t a.zero∧Fh rb σ σ':=by
 have s1:=h.al.Gv 3 (.int .i64 0) { a with c:=0 } rfl (by decide)
 have h1:=h.R5 { a with c:=0 }
 have s2:=h1.al.Gv 4 (.int .i64 0) { a with c:=0,l:=0 } rfl (by decide)
 have h2:=h1.R5 { a with c:=0,l:=0 }
 have s3:=h2.al.Gv 5 (.int .i64 0) { a with c:=0,l:=0,oc:=0 } rfl (by decide)
 have h3:=h2.R5 { a with c:=0,l:=0,oc:=0 }
 have s4:=h3.al.Gv 6 (.int .i64 0) a.zero rfl (by decide)
 have h4:=h3.R5 a.zero
 refine ⟨_, ?_,h4,(((Fh.set _ _).trans (Fh.set _ _)).trans (Fh.set _ _)).trans (Fh.set _ _)⟩
 rw[Qd,Mw]
 simp only[du _ h,Option.bind_some,Au,cond_true,Nat.zero_add,s1,s2,s3,s4,if_true]
def SW (m:HM) (n:Int):Int:=if (D3 m).length=0∨n<0 then 0 else ((2*(D3 m).getD (n.toNat % (D3 m).length) 0:Nat):Int)
theorem qu (k:Nat) (hk:5000≤k) (g:RG σ j m t) (n:Int) (hn:Bd n):∃ τ,OG (k+3) (Cd j) n σ=some (.int .i64 (SW m n),σ++τ):=by
 obtain ⟨τ,s,e1,h1⟩:=oY k hk g
 refine ⟨τ, ?_⟩
 have hl:s.2.1=(D3 m).length:=by rw[h1.len]; simp[E8]
 rw[ZZ,Y8]
 simp only[e1,Option.bind_some,Hu,hl]
 by_cases q:(D3 m).length=0
 ·rw[show SW m n=0 from if_pos (.inl q)]
  simp only[show ((((D3 m).length:Nat):Int) == 0)=true from by simp[q],cond_true,Option.bind_some]
 simp only[show ((((D3 m).length:Nat):Int) == 0)=false from by rw[beq_eq_false_iff_ne]; omega,cond_false,Option.bind_some]
 by_cases q2:n<0
 ·rw[show SW m n=0 from if_pos (.inr q2)]
  simp only[decide_eq_true q2,cond_true]
 ·have hone:SW m n=((2*(D3 m).getD (n.toNat % (D3 m).length) 0:Nat):Int):=if_neg (by omega)
  rw[hone]
  obtain ⟨p,rfl⟩:∃ p:Nat,n=(p:Int):=⟨n.toNat,by omega⟩
  have hm:p % (D3 m).length<(D3 m).length:=Nat.mod_lt _ (by omega)
  have hx:p % (D3 m).length<(E8 (D3 m)).length:=by simpa [E8] using hm
  obtain ⟨b,e0,_,_,l0⟩:=ints_at h1 hx
  have e2:((p:Int)).tmod (((D3 m).length:Nat):Int)=((p % (D3 m).length:Nat):Int):=rfl
  simp only[decide_eq_false q2,cond_false,e2,Int.toNat_natCast]
  rw[if_neg (show ¬ (((D3 m).length:Nat):Int)=0 by omega),if_pos (show (0:Int)≤((p % (D3 m).length:Nat):Int)∧((p % (D3 m).length:Nat):Int)<(((D3 m).length:Nat):Int) by omega),e0]
  simp only[Option.bind_some,Nat.zero_add,Nat.mul_one,l0]
  rw[S7 _ hm,List.getD_eq_getElem?_getD,List.getElem?_eq_getElem hm]
  rfl
theorem oU (hnt:m.bls.length≤64) (n:Int):Bd (SW m n):=by
 unfold SW Bd
 split
 ·omega
 ·rename_i q
  have hm:n.toNat % (D3 m).length<(D3 m).length:=Nat.mod_lt _ (by omega)
  rw[List.getD_eq_getElem?_getD,List.getElem?_eq_getElem hm]
  have:=(Ek.1 (List.getElem_mem hm)).1
  simp only[Option.getD_some]
  omega
def oq (m:HM) (a:AS) (x:Zf):HM × AS:=
 if x.k=0 then (Vn m a x.r x.d x.c).2
 else if x.k=1 then ((Py m (SW m x.a)).2,a)
 else if x.k=2 then (m,a.zero)
 else if x.k=4 then ((Cg m x.a 1 1 x.b 0 0).2,a)
 else if x.k=5 then ((HH m x.a).2,a)
 else if x.k=6 then ((Cw m x.a x.r x.d x.c).2.2,a)
 else if x.k=7 then ((Nv m x.a x.b).2,a)
 else (m,a)
theorem nF (k:Nat) (hk:60000≤k) (W0:T8 σ i j m t ab rb a) (hb:m.births<1000) (hfl:m.fw.length<1000) (x:Zf) (hx:x.ok):
  ∃ σ' j' t',Nh (k+14) (DZ i) (DK ab) (Cd j) (DK rb) x.k x.a x.b x.r x.d x.c σ=some (.bool true,σ')∧T8 σ' i j' (oq m a x).1 t' ab rb (oq m a x).2∧jH i j j' ab rb σ σ':=by
 obtain ⟨h1,h2,h3,h4,h5,h6⟩:=hx
 rw[Zm,WM]
 simp only[Ap]
 obtain ⟨μ,hμ⟩:∃ μ,σ++[Bh.cells [Value.int .i64 x.k,.int .i64 x.a,.int .i64 x.b,.int .i64 x.r,.int .i64 x.d,.int .i64 x.c] HQ true]=μ:=⟨_,rfl⟩
 have W:T8 μ i j m t ab rb a:=hμ ▸ W0.app _
 have hbox:μ[σ.length]?=some (Bh.cells [Value.int .i64 x.k,.int .i64 x.a,.int .i64 x.b,.int .i64 x.r,.int .i64 x.d,.int .i64 x.c] HQ true):=by rw[← hμ]; simp
 have hlt:σ.length<μ.length:=Af hbox
 have hoff:σ.length ∉ i.l:=fun hm=>Nat.lt_irrefl _ (W0.w.h.lt _ hm)
 have hna:σ.length≠ab:=by have:=W0.al.lt; omega
 have K0:jH i j j ab rb σ μ:=hμ ▸ jH.app i j ab rb σ _
 have ldq:∀ (μ':Aa),μ'[σ.length]?=μ[σ.length]?→Ai .i64 μ' σ.length 0=some x.k∧Ai .i64 μ' σ.length 1=some x.a∧Ai .i64 μ' σ.length 2=some x.b∧Ai .i64 μ' σ.length 3=some x.r∧Ai .i64 μ' σ.length 4=some x.d∧Ai .i64 μ' σ.length 5=some x.c:=by
  intro μ' h
  rw[hbox] at h
  refine ⟨?_, ?_, ?_, ?_, ?_, ?_⟩ <;> simp[Ai,Gt,h,BE]
 obtain ⟨l0,l1,l2,l3,l4,l5⟩:=ldq μ rfl
 rw[hμ]
 simp only[Nat.zero_add,Nat.reduceAdd,l0,Option.bind_some]
 have c1:∀ (n:Int),x.k=n→(x.k == n)=true:=fun n hq=>by simpa using hq
 have c0:∀ (n:Int),x.k≠n→(x.k == n)=false:=fun n hq=>by simpa using hq
 have gs:∀ {A:Option (Value × Aa)} {B:Aa→Option (Value × Aa)} {v:Value} {y:Vm} {m':HM},(fU m y).2=m'→(∃ σ1,A=some (v,σ1)∧Ah σ1 i m'∧BF i μ σ1)→(∀ σ1,RG σ1 j m t→Hg (B σ1) σ1 j v m') →
   ∃ σ1 σ2 j' t',A=some (v,σ1)∧B σ1=some (v,σ2)∧T8 σ2 i j' m' t' ab rb a∧jH i j j' ab rb σ σ2∧σ1[σ.length]?=μ[σ.length]?:=by
  intro A B v y m' hd hA hB
  obtain ⟨I1,I2,_,b2,_,_⟩:=fW W.w.g.inv W.w.g.inv2 W.w.h.sh y
  have hF:=mL W.w.z y
  have hBo:=W.w.b0.do y
  have hfw:=mK m y
  rw[hd] at I1 I2 b2 hF hBo hfw
  obtain ⟨σ1,σ2,j',t',eA,eB,W2,a2,s1⟩:=dh W.w hA I1 I2 hF hBo (by omega) (by omega) hB
  obtain ⟨T2,K2⟩:=W.of W2 a2
  exact ⟨σ1,σ2,j',t',eA,eB,T2,K0.trans K2,s1 _ hlt hoff⟩
 unfold oq
 by_cases q0:x.k=0
 ·rw[if_pos q0]
  obtain ⟨σ1,σ2,j',t',e1,e2,W2,K2,s1⟩:=iG k hk W hb x.r x.d x.c
  obtain ⟨_,m1,m2,m3,m4,m5⟩:=ldq σ1 (s1 _ hlt hoff hna)
  refine ⟨σ2,j',t', ?_,W2,K0.trans K2⟩
  simp only[c1 0 q0,cond_true,l3,l4,l5,Option.bind_some,e1,Ex,m3,m4,m5,e2,beq_self_eq_true]
 rw[if_neg q0]
 simp only[c0 0 q0,cond_false]
 by_cases q1:x.k=1
 ·rw[if_pos q1]
  obtain ⟨τ,e1⟩:=qu (k+10) (by omega) W.w.g x.a h2
  have W1:=W.app τ
  have hin:=oU W.w.g.nt x.a
  have K1:jH i j j ab rb σ (μ++τ):=K0.trans (jH.app _ _ _ _ _ _)
  obtain ⟨I1,I2,_,b2,_,_⟩:=fW W.w.g.inv W.w.g.inv2 W.w.h.sh ⟨5,SW m x.a,0,0,0,0,0⟩
  have hF:=mL W.w.z ⟨5,SW m x.a,0,0,0,0,0⟩
  have hBo:=W.w.b0.do ⟨5,SW m x.a,0,0,0,0,0⟩
  have hfw:=mK m ⟨5,SW m x.a,0,0,0,0,0⟩
  have hd:fU m ⟨5,SW m x.a,0,0,0,0,0⟩=Py m (SW m x.a):=by unfold fU; simp
  rw[hd] at I1 I2 b2 hF hBo hfw
  obtain ⟨σ1,σ2,j',t',eA,eB,W2,a2,s1⟩:=dh (A:=DF (k+13) (DZ i) (SW m x.a) (μ++τ)) (B:=fun μ=>Fo (k+13) (Cd j) (SW m x.a) μ) W1.w (kB (k+1) W1.w.h W1.w.g.inv (SW m x.a) hin) I1 I2 hF hBo (by omega) (by omega) (fun σ1 g=>nM (k+9) (by omega) g W1.w.P W1.w.h.sh (SW m x.a))
  obtain ⟨T2,K2⟩:=W1.of W2 a2
  have eB':Fo (k+13) (Cd j) (SW m x.a) σ1=_:=eB
  refine ⟨σ2,j',t', ?_,T2,K1.trans K2⟩
  simp only[c1 1 q1,cond_true,l1,Option.bind_some,e1,An,eA,eB',beq_self_eq_true]
 rw[if_neg q1]
 simp only[c0 1 q1,cond_false]
 by_cases q2:x.k=2
 ·rw[if_pos q2]
  obtain ⟨σ1,e1,A1,o1⟩:=kH (k+11) W.al
  have R1:Tv σ1 j rb m t a:=⟨W.w.g.Db (fun q hq=>o1.same q (W.w.g.at_.lt q hq) fun e=>W.abj (by rw[← e]; exact hq)) o1.len,W.w.P,W.w.rH,W.rl.Db (o1.same rb (Af W.rl) fun e=>W.ne e.symm) rfl,W.rbj⟩
  obtain ⟨σ2,e2,R2,o2⟩:=lX (k+10) R1
  have hh:Ah σ2 i m:=W.w.h.Db fun q hq=>by
   have hql:=W.w.h.lt q hq
   rw[o2.same q (by have:=o1.len; omega) (fun e=>W.rbi (by rw[← e]; exact hq)),o1.same q hql (fun e=>W.abi (by rw[← e]; exact hq))]
  refine ⟨σ2,j,t, ?_,⟨⟨hh,R2.g,R2.P,W.w.z,W.w.b0,W.w.off,W.w.br,W.w.fl⟩,A1.Db (o2.same ab (Af A1) W.ne),R2.al,W.abi,W.abj,W.rbi,W.rbj,W.ne,⟨W.ok.s0,W.ok.p0,by unfold AS.zero; dsimp only; omega,by unfold AS.zero; dsimp only; omega,by unfold AS.zero; dsimp only; omega,by unfold AS.zero; dsimp only; omega⟩⟩,K0.trans ⟨Nat.le_trans o1.len o2.len,fun q h1 _ _ h4 h5=>by rw[o2.same q (by have:=o1.len; omega) h5,o1.same q h1 h4],fun _ h=>.inl h,rfl⟩⟩
  simp only[c1 2 q2,cond_true,e1,Option.bind_some,Jq,e2,if_true]
 rw[if_neg q2]
 simp only[c0 2 q2,cond_false]
 by_cases q4:x.k=4
 ·rw[if_pos q4]
  obtain ⟨σ1,σ2,j',t',eA,eB,T2,K2,s1⟩:=gs (A:=Cn (k+13) (DZ i) x.a x.b μ) (B:=fun μ=>CM (k+13) (Cd j) x.a x.b μ) (y:=⟨0,x.a,x.b,0,0,0,0⟩) (by unfold fU; simp) (ZA (k+6) (by omega) W.w.h x.a x.b h2) (fun σ1 g=>dk (k+11) g W.w.P W.w.z x.a x.b)
  obtain ⟨_,m1,m2,m3,m4,m5⟩:=ldq σ1 s1
  have eB':CM (k+13) (Cd j) x.a x.b σ1=_:=eB
  have kp:∀ {ρ:Type} (y:Option ρ),Qo (some ⟨σ.length,0,none⟩) μ σ1 y=y:=fun y=>UZ s1 y
  refine ⟨σ2,j',t', ?_,T2,K2⟩
  simp only[c1 4 q4,cond_true,l1,l2,Option.bind_some,eA,An,kp,m1,m2,eB',beq_self_eq_true,show (Bk.ret=Bk.normal)=False from by simp,if_false,if_true,Tt]
 rw[if_neg q4]
 simp only[c0 4 q4,cond_false]
 by_cases q5:x.k=5
 ·rw[if_pos q5]
  obtain ⟨σ1,σ2,j',t',eA,eB,T2,K2,s1⟩:=gs (A:=F3 (k+13) (DZ i) x.a μ) (B:=fun μ=>Ei (k+13) (Cd j) x.a μ) (y:=⟨2,x.a,0,0,0,0,0⟩) (by unfold fU; simp) (dN (k+6) (by omega) W.w.h x.a) (fun σ1 g=>gJ (k+10) (by omega) g W.w.P x.a)
  obtain ⟨_,m1,m2,m3,m4,m5⟩:=ldq σ1 s1
  have eB':Ei (k+13) (Cd j) x.a σ1=_:=eB
  have kp:∀ {ρ:Type} (y:Option ρ),Qo (some ⟨σ.length,0,none⟩) μ σ1 y=y:=fun y=>UZ s1 y
  refine ⟨σ2,j',t', ?_,T2,K2⟩
  simp only[c1 5 q5,cond_true,l1,Option.bind_some,eA,An,kp,m1,eB',beq_self_eq_true,show (Bk.ret=Bk.normal)=False from by simp,if_false,if_true,Tt]
 rw[if_neg q5]
 simp only[c0 5 q5,cond_false]
 by_cases q6:x.k=6
 ·rw[if_pos q6]
  obtain ⟨σ1,σ2,j',t',eA,eB,T2,K2,s1⟩:=gs (A:=Co (k+13) (DZ i) x.a x.r x.d x.c μ) (B:=fun μ=>Dv (k+13) (Cd j) x.a x.r x.d x.c μ) (y:=⟨4,x.a,0,0,x.r,x.d,x.c⟩) (by unfold fU; simp) (fh (k+1) (by omega) W.w.h W.w.g.inv (by omega) x.a x.r x.d x.c h2) (fun σ1 g=>dt (k+8) (by omega) g W.w.P W.w.h.sh (by omega) x.a x.r x.d x.c)
  obtain ⟨_,m1,m2,m3,m4,m5⟩:=ldq σ1 s1
  have eB':Dv (k+13) (Cd j) x.a x.r x.d x.c σ1=_:=eB
  refine ⟨σ2,j',t', ?_,T2,K2⟩
  simp only[c1 6 q6,cond_true,l1,l3,l4,l5,Option.bind_some,eA,Ex,m1,m3,m4,m5,eB',beq_self_eq_true,show (Bk.ret=Bk.normal)=False from by simp,if_false,if_true,Tt]
 rw[if_neg q6]
 simp only[c0 6 q6,cond_false]
 by_cases q7:x.k=7
 ·rw[if_pos q7]
  obtain ⟨σ1,σ2,j',t',eA,eB,T2,K2,s1⟩:=gs (A:=Gs (k+13) (DZ i) x.a x.b μ) (B:=fun μ=>EL (k+13) (Cd j) x.a x.b μ) (y:=⟨3,x.a,x.b,0,0,0,0⟩) (by unfold fU; simp) (iC (k+8) (by omega) W.w.h x.a x.b) (fun σ1 g=>lP (k+10) (by omega) g W.w.P x.a x.b)
  obtain ⟨_,m1,m2,m3,m4,m5⟩:=ldq σ1 s1
  have eB':EL (k+13) (Cd j) x.a x.b σ1=_:=eB
  have kp:∀ {ρ:Type} (y:Option ρ),Qo (some ⟨σ.length,0,none⟩) μ σ1 y=y:=fun y=>UZ s1 y
  refine ⟨σ2,j',t', ?_,T2,K2⟩
  simp only[c1 7 q7,cond_true,l1,l2,Option.bind_some,eA,An,kp,m1,m2,eB',beq_self_eq_true,show (Bk.ret=Bk.normal)=False from by simp,if_false,if_true,Tt]
 rw[if_neg q7]
 simp only[c0 7 q7,cond_false,Option.bind_some,if_true]
 exact ⟨μ,j,t,rfl,W,K0⟩
end Go.Proofs.YtlaplcglpnlieaaGreat
end
section
namespace Go.Proofs.YtlaplcglpnlieaaGreat
open Go Go.AX
noncomputable local instance uy:AL:=As
local instance tm:Kn:=⟨true⟩
variable {σ:Aa} {m:HM} {t:RM} {i:C8} {j:RI} {ab rb:Nat} {a:AS}
theorem gC (k:Nat) (h:RG σ j m t) (s p:Int):Ky (k+2) (Cd j) s p σ=(if (0≤s∧s<8)∧(0≤p∧p<5) then some (.tuple #[.pointer (DK σ.length),.int .i64 0],σ++[Bh.cells ((⟨s,p,0,0,0,0⟩:AS).row j.hb) Cx true]) else some (.tuple #[.pointer none,.int .i64 1],σ)):=by
 rw[ae,YA]
 simp only[Il k h,Option.bind_some,Au,Bool.not_true,cond_false]
 by_cases h1:s<0
 ·simp only[decide_eq_true h1,Option.bind_some,cond_true,if_neg (show ¬ ((0≤s∧s<8)∧(0≤p∧p<5)) by omega)]
 simp only[decide_eq_false h1,Option.bind_some,cond_false]
 by_cases h2:s≥8
 ·simp only[decide_eq_true h2,Option.bind_some,cond_true,if_neg (show ¬ ((0≤s∧s<8)∧(0≤p∧p<5)) by omega)]
 simp only[decide_eq_false h2,Option.bind_some,cond_false]
 by_cases h3:p<0
 ·simp only[decide_eq_true h3,Option.bind_some,cond_true,if_neg (show ¬ ((0≤s∧s<8)∧(0≤p∧p<5)) by omega)]
 simp only[decide_eq_false h3,Option.bind_some,cond_false]
 by_cases h4:p>4
 ·simp only[decide_eq_true h4,cond_true,if_neg (show ¬ ((0≤s∧s<8)∧(0≤p∧p<5)) by omega)]
 ·simp only[decide_eq_false h4,cond_false,if_pos (show (0≤s∧s<8)∧(0≤p∧p<5) by omega),Ap]
  rfl
theorem cO (k:Nat) (s:Ez) (σ:Aa):Lx (k+1) s σ=some (.bool (decide (((s.2.1:Nat):Int)>80)),σ):=by
 rw[XS,V8]
theorem jX (k:Nat) (b:Int) (σ:Aa):OE (k+1) b σ=some (.bool (decide (b≤12∨b>64)),σ):=by
 rw[ZY,Y7]
 by_cases q:b≤12
 ·simp[q]
 ·simp[q]
theorem Qp (k:Nat) (σ:Aa):Fi (k+1) σ=some (.bool true,σ):=XR k σ
theorem jN {p:Option Addr} {l:List Zf} (h:QG Y6 σ p l) {x:Nat} (hx:x<l.length):∃ q,p=some ⟨q,0,none⟩∧q<σ.length∧Ai .i64 σ q (x*6)=some l[x].k∧Ai .i64 σ q (x*6+1)=some l[x].a∧Ai .i64 σ q (x*6+2)=some l[x].b∧Ai .i64 σ q (x*6+3)=some l[x].r∧Ai .i64 σ q (x*6+4)=some l[x].d∧Ai .i64 σ q (x*6+5)=some l[x].c:=by
 obtain ⟨q,h1,h2,h3⟩:=h.ld fp hx
 have key:∀ z v,z<6→(Y6.cells l[x])[z]?=some (.int .i64 v)→Ai .i64 σ q (x*6+z)=some v:=by
  intro z v hz hv
  have:=h3 z hz
  unfold Ai
  rw[show Gt σ q (x*6+z)=_ from this,hv]
  rfl
 exact ⟨q,h1,h2,key 0 _ (by decide) rfl,key 1 _ (by decide) rfl,key 2 _ (by decide) rfl,key 3 _ (by decide) rfl,key 4 _ (by decide) rfl,key 5 _ (by decide) rfl⟩
theorem oJ (W:T8 σ i j m t ab rb a) (hb:m.births<1000) (x:Zf):(oq m a x).1.births≤m.births+1∧(oq m a x).1.fw=m.fw∧(oq m a x).1.bls.length=m.bls.length:=by
 have I:=W.w.g.inv; have I2:=W.w.g.inv2; have hS:=W.w.h.sh
 unfold oq
 split
 ·have ok:=iF W hb x.r x.d x.c
  exact ⟨ok.b2,cq (nG m a _),ok.len⟩
 split
 ·have k:=aF I I2 hS (SW m x.a)
  exact ⟨k.b2,by unfold Py LF; split <;> rfl,k.len⟩
 split
 ·exact ⟨by dsimp only; omega,rfl,rfl⟩
 split
 ·have k:=Mz I I2 x.a 1 1 x.b 0 0
  exact ⟨k.b2,RS _ _ _ _ _ _ _,k.len⟩
 split
 ·have k:=VM I I2 x.a
  exact ⟨k.b2,by unfold HH; split <;> (first | rfl | (split <;> rfl)),k.len⟩
 split
 ·have k:=Rb I I2 hS x.a x.r x.d x.c
  exact ⟨k.b2,by unfold Cw; split <;> (first | rfl | (split <;> rfl)),k.len⟩
 split
 ·have k:=YU I I2 x.a x.b
  exact ⟨k.b2,by unfold Nv; split <;> rfl,k.len⟩
 ·exact ⟨by dsimp only; omega,rfl,rfl⟩
end Go.Proofs.YtlaplcglpnlieaaGreat
end
section
namespace Go.Proofs.YtlaplcglpnlieaaGreat
open Go Go.AX
noncomputable local instance uz:AL:=As
local instance tn:Kn:=⟨true⟩
variable {σ:Aa} {m:HM} {t:RM} {i:C8} {j:RI} {ab rb:Nat} {a:AS}
theorem pX (W:T8 σ i j m t ab rb a) (hb:m.births<1000) (x:Zf):(oq m a x).2.s=a.s∧(oq m a x).2.p=a.p:=by
 unfold oq
 split
 ·have ok:=iF W hb x.r x.d x.c
  exact ⟨ok.s,ok.p⟩
 split
 ·exact ⟨rfl,rfl⟩
 split
 ·exact ⟨rfl,rfl⟩
 split
 ·exact ⟨rfl,rfl⟩
 split
 ·exact ⟨rfl,rfl⟩
 split
 ·exact ⟨rfl,rfl⟩
 split
 ·exact ⟨rfl,rfl⟩
 ·exact ⟨rfl,rfl⟩
structure Mk (σ σ':Aa) (i:C8) (ab:Nat) (m:HM) (a:AS) (s q:Int):Prop where
 h:Ah σ' i m
 al:Cf σ' ab i a
 off:ab ∉ i.l
 ok:a.ok
 M:WH m
 br:m.births≤80
 lo:∀ x ∈ i.l,σ.length≤x
 loa:σ.length≤ab
 same:∀ x,x<σ.length→σ'[x]?=σ[x]?
 len:σ.length≤σ'.length
 es:a.s=s
 ep:a.p=q
theorem aM (k:Nat) (hk:70000≤k) {σ0:Aa} {p:Option Addr} {c2:Nat} {l:List Zf} (hl:l.length≤80) (hok:∀ y ∈ l,y.ok) (S:QG Y6 σ0 p l):∀ (n x f:Nat) (σ:Aa) (i:C8) (j:RI) (m:HM) (t:RM) (ab rb:Nat) (a:AS),T8 σ i j m t ab rb a→(∀ q,q<σ0.length→q ∉ i.l∧q ∉ j.l)→σ0.length≤ab→σ0.length≤rb→(∀ q,q<σ0.length→σ[q]?=σ0[q]?)→σ0.length≤σ.length→x+n=l.length→m.births≤x→m.fw.length=0→n<f →
  ∃ σ' j' m' t' a',G4 (k+16) f p l.length c2 (DZ i) (DK ab) (Cd j) (DK rb) (x:Int) σ=some (.exit 0,[],σ')∧T8 σ' i j' m' t' ab rb a'∧(∀ q,q<σ0.length→σ'[q]?=σ0[q]?)∧σ0.length≤σ'.length∧m'.births≤l.length∧a'.s=a.s∧a'.p=a.p
 | n,x,0,σ,i,j,m,t,ab,rb,a,W,h1,h2,h3,h4,h5,hx,hb,hw,hf=>by omega
 | 0,x,f+1,σ,i,j,m,t,ab,rb,a,W,h1,h2,h3,h4,h5,hx,hb,hw,hf=>by
   rw[Qa,Pa]
   exact ⟨σ,j,m,t,a,by simp only[decide_eq_false (show ¬ (x:Int)<((l.length:Nat):Int) by omega),cond_false],W,h4,h5,by omega,rfl,rfl⟩
 | n+1,x,f+1,σ,i,j,m,t,ab,rb,a,W,h1,h2,h3,h4,h5,hx,hb,hw,hf=>by
   have hxl:x<l.length:=by omega
   obtain ⟨q0,rfl,hq0,_⟩:=jN S hxl
   have qx:(0≤(x:Int)∧(x:Int)<((l.length:Nat):Int))=True:=eq_true (by omega)
   have w1:Ac ((x:Int)+1)=((x+1:Nat):Int):=Ad (by unfold Bd; omega)
   obtain ⟨q',e',_,f0,f1,f2,f3,f4,f5⟩:=jN (S.Db h4) hxl
   cases e'
   obtain ⟨σ1,j2,t2,e1,W2,K2⟩:=nF (k+2) (by omega) W (by omega) (by omega) l[x] (hok _ (List.getElem_mem _))
   have hbr:=oJ W (by omega) l[x]
   have hsp:=pX W (by omega) l[x]
   obtain ⟨σ',j3,m3,t3,a3,e3,W3,s3,l3,b3,p3,p4⟩:=aM k hk (c2:=c2) hl hok S n (x+1) f σ1 i j2 _ t2 ab rb _ W2 (fun q hq=>⟨(h1 q hq).1,fun hm=>by
    rcases K2.new q hm with h | h
    ·exact (h1 q hq).2 h
    ·omega⟩) h2 h3 (fun q hq=>by rw[K2.same q (by omega) (h1 q hq).1 (h1 q hq).2 (by omega) (by omega)]; exact h4 q hq) (by have:=K2.len; omega) (by omega) (by omega) (by rw[hbr.2.1]; exact hw) (by omega)
   rw[show Cd j2=Cd j from by unfold Cd; rw[K2.hb]] at e3
   refine ⟨σ',j3,m3,t3,a3, ?_,W3,s3,l3,b3,p3.trans hsp.1,p4.trans hsp.2⟩
   rw[Qa,Pa]
   simp only[decide_eq_true (show (x:Int)<((l.length:Nat):Int) by omega),cond_true,Option.bind_some,qx,if_true,Int.toNat_natCast,Nat.zero_add,Nat.add_zero,Nat.add_assoc,Nat.reduceAdd,f0,f1,f2,f3,f4,f5,e1,Au,w1]
   exact e3
theorem nv (k:Nat) (hk:1000000≤k) (b:Int) (s:Int) (q:Int) (p:Option Addr) (c2:Nat) (l:List Zf) (hok:∀ y ∈ l,y.ok) (S:QG Y6 σ p l):
  (∃ σ',KK (k+18) b s q (p,l.length,c2) σ=some (.tuple #[.pointer none,.pointer none],σ')) ∨
  (∃ σ' i ab m a,KK (k+18) b s q (p,l.length,c2) σ=some (.tuple #[.pointer (DZ i),.pointer (DK ab)],σ')∧Mk σ σ' i ab m a s q):=by
 rw[Zl,WL]
 by_cases g2:2≤b∧b≤64
 rotate_left
 ·left
  have e1:G3 (k+17) b σ=_:=o8 (k+16) b g2 σ
  simp only[e1,Option.bind_some,Vg,cO,jX,Au]
  by_cases g0:((l.length:Nat):Int)>80
  ·simp only[decide_eq_true g0,cond_true,Option.bind_some]
   exact ⟨_,rfl⟩
  simp only[decide_eq_false g0,cond_false,Option.bind_some]
  by_cases g1:b≤12∨b>64
  ·simp only[decide_eq_true g1,Bool.not_true,cond_false,Option.bind_some,show ((1:Int) != 0)=true from rfl,cond_true]
   exact ⟨_,rfl⟩
  ·simp only[decide_eq_false g1,Bool.not_false,cond_true,Option.bind_some]
   exact ⟨_,rfl⟩
 obtain ⟨n,rfl⟩:∃ n:Nat,b=(n:Int):=⟨b.toNat,by omega⟩
 obtain ⟨σ1,i,e1,h1,lo1,k1⟩:=pT (k+12) (n:=n) (by omega) (by omega) σ
 have e1':G3 (k+17) (n:Int) σ=_:=e1
 simp only[e1',Option.bind_some,Vg,cO,jX,Au]
 by_cases g0:((l.length:Nat):Int)>80
 ·simp only[decide_eq_true g0,cond_true,Option.bind_some]
  exact .inl ⟨_,rfl⟩
 simp only[decide_eq_false g0,cond_false,Option.bind_some]
 by_cases g1:(n:Int)≤12∨(n:Int)>64
 rotate_left
 ·simp only[decide_eq_false g1,Bool.not_false,cond_true,Option.bind_some]
  exact .inl ⟨_,rfl⟩
 simp only[decide_eq_true g1,Bool.not_true,cond_false,Option.bind_some,bne_self_eq_false]
 obtain ⟨σ2,e3,τ3,rfl⟩:=ow (k+14) h1 s q
 have e3':GK (k+17) (DZ i) s q σ1=_:=e3
 by_cases g3:(0≤s∧s<8)∧(0≤q∧q<5)
 rotate_left
 ·rw[if_neg g3] at e3'
  obtain ⟨τ,j,e2,r2,lo2⟩:=kk (k+16) (n:=n) (by omega) (by omega) (σ1++τ3)
  have e2':Kx (k+17) (n:Int) (σ1++τ3)=_:=e2
  have hg:RG (σ1++τ3++τ) j (Of n) ⟨List.replicate n (0,0),[],[],0⟩:=⟨r2,RE.new n,Inv.new n,Inv2.new n,h1.wl,h1.nb,h1.nt⟩
  have e4:=gC (k+15) hg s q
  rw[if_neg g3] at e4
  have e4':Ky (k+17) (Cd j) s q (σ1++τ3++τ)=_:=e4
  simp only[e3',Option.bind_some,Vg,e2',e4',show ((1:Int) != 0)=true from rfl,cond_true]
  exact .inl ⟨_,rfl⟩
 rw[if_pos g3] at e3'
 obtain ⟨σ3,hσ3⟩:∃ σ3,σ1++τ3++[Bh.cells ((⟨s,q,0,0,0,0⟩:AS).row i.hb) AU true]=σ3:=⟨_,rfl⟩
 have hA3:σ3[(σ1++τ3).length]?=some (Bh.cells ((⟨s,q,0,0,0,0⟩:AS).row i.hb) AU true):=by rw[← hσ3]; simp
 have h3:Ah σ3 i (Of n):=hσ3 ▸ (h1.app _).app _
 rw[hσ3] at e3'
 have hl3:σ3.length=(σ1++τ3).length+1:=by rw[← hσ3]; simp; omega
 have hlm:σ1.length≤(σ1++τ3).length:=by simp
 have hls:=k1.len
 obtain ⟨τ,j,e2,r2,lo2⟩:=kk (k+16) (n:=n) (by omega) (by omega) σ3
 have e2':Kx (k+17) (n:Int) σ3=_:=e2
 obtain ⟨σ4,hσ4⟩:∃ σ4,σ3++τ=σ4:=⟨_,rfl⟩
 rw[hσ4] at e2' r2
 have hl4:σ3.length≤σ4.length:=by rw[← hσ4]; simp
 have hA4:σ4[(σ1++τ3).length]?=some (Bh.cells ((⟨s,q,0,0,0,0⟩:AS).row i.hb) AU true):=by rw[← hσ4,List.getElem?_append_left (by omega)]; exact hA3
 have W:oo σ4 i j (Of n) ⟨List.replicate n (0,0),[],[],0⟩:=⟨hσ4 ▸ h3.app τ,⟨r2,RE.new n,Inv.new n,Inv2.new n,h1.wl,h1.nb,h1.nt⟩,NL.new n,FZ.new n,B0.new n,fun q hq hm=>by have:=h3.lt q hq; have:=lo2 q hm; omega,by show (0:Int)≤1000; decide,by show 0≤1000; omega⟩
 have e4:=gC (k+15) W.g s q
 rw[if_pos g3] at e4
 have e4':Ky (k+17) (Cd j) s q σ4=_:=e4
 obtain ⟨σ5,hσ5⟩:∃ σ5,σ4++[Bh.cells ((⟨s,q,0,0,0,0⟩:AS).row j.hb) Cx true]=σ5:=⟨_,rfl⟩
 rw[hσ5] at e4'
 have hl5:σ5.length=σ4.length+1:=by rw[← hσ5]; simp
 have hlo:∀ x ∈ i.l,σ.length≤x∧x<σ1.length:=fun x hx=>⟨lo1 x hx,h1.lt x hx⟩
 have hlo2:∀ x ∈ j.l,σ3.length≤x∧x<σ4.length:=fun x hx=>⟨lo2 x hx,W.g.at_.lt x hx⟩
 have W5:T8 σ5 i j (Of n) ⟨List.replicate n (0,0),[],[],0⟩ (σ1++τ3).length σ4.length ⟨s,q,0,0,0,0⟩:=by
  refine ⟨hσ5 ▸ W.app _, ?_, ?_,fun hm=>?_,fun hm=>?_,fun hm=>?_,fun hm=>?_,by omega,⟨g3.1,g3.2,by dsimp only; omega,by dsimp only; omega,by dsimp only; omega,by dsimp only; omega⟩⟩
  ·unfold Cf; rw[← hσ5,List.getElem?_append_left (by omega)]; exact hA4
  ·unfold Kf; rw[← hσ5]; simp
  ·have:=hlo _ hm; omega
  ·have:=hlo2 _ hm; omega
  ·have:=hlo _ hm; omega
  ·have:=hlo2 _ hm; omega
 have s5:∀ x,x<σ.length→σ5[x]?=σ[x]?:=fun x hx=>by
  rw[← hσ5,List.getElem?_append_left (by omega),← hσ4,List.getElem?_append_left (by omega),← hσ3,List.append_assoc,List.getElem?_append_left (by omega)]
  exact k1.same x hx fun hm=>by have:=lo1 x hm; omega
 obtain ⟨σ',j',m',t',a',e5,W6,s6,l6,b6,p6,p7⟩:=aM (k+1) (by omega) (c2:=c2) (by omega) hok S l.length 0 (k+17) σ5 i j (Of n) _ _ _ _ W5 (fun x hx=>⟨fun hm=>by have:=hlo x hm; omega,fun hm=>by have:=hlo2 x hm; omega⟩) (by omega) (by omega) s5 (by omega) (by omega) (Int.le_refl _) rfl (by omega)
 have e5':G4 (k+17) (k+17) p l.length c2 (DZ i) (DK (σ1++τ3).length) (Cd j) (DK σ4.length) 0 σ5=_:=e5
 simp only[e3',Option.bind_some,Vg,e2',e4',bne_self_eq_false,cond_false,e5',if_true]
 exact .inr ⟨σ',i,_,m',a',rfl,W6.w.h,W6.al,W6.abi,W6.ok,W6.w.rH,by omega,lo1,by omega,s6,l6,p6,p7⟩
end Go.Proofs.YtlaplcglpnlieaaGreat
end
section
namespace Go.Proofs.YtlaplcglpnlieaaGreat
open Go Go.AX
noncomputable local instance u5:AL:=As
local instance tp:Kn:=⟨true⟩
variable {σ:Aa} {m:HM} {i:C8} {ab:Nat} {a:AS}
theorem ER.tail {σ':Aa} {s':Ez} (g:ER σ (none,0,0) σ' s'):(∃ τ,σ'=σ++τ) ∧ ∀ a,s'.1=some a→σ.length≤a.block:=by
 refine ⟨⟨σ'.drop σ.length, ?_⟩, ?_⟩
 ·refine List.ext_getElem? fun q=>?_
  by_cases h:q<σ.length
  ·rw[List.getElem?_append_left h]
   exact g.same q h fun a ha=>by cases ha
  ·rw[List.getElem?_append_right (by omega),List.getElem?_drop]
   congr 1; omega
 ·rcases g.new with rfl | h
  ·intro a ha; cases ha
  ·exact h
theorem rP:UT P Jp (.pointer none) (.pointer none)=some true:=by kernel_rfl
end Go.Proofs.YtlaplcglpnlieaaGreat
end
section
namespace Go.Proofs.YtlaplcglpnlieaaGreat
open Go Go.AX
noncomputable local instance u6:AL:=As
local instance tq:Kn:=⟨true⟩
variable {σ:Aa} {m:HM} {i:C8} {ab:Nat} {a:AS}
def X3 (m:HM) (s:Int) (x n:Nat):List Nat:=(List.range' x n).filter fun b=>decide ((m.bls.getD b (0,0)).1=1∧(m.bls.getD b (0,0)).2=s)
def Lb (m:HM) (s:Int):List (Nat × Nat):=Dg m (Bl m s m.bls.length)
theorem bL (m:HM) (s:Int) (x n:Nat):X3 m s x (n+1)=(if (m.bls.getD x (0,0)).1=1∧(m.bls.getD x (0,0)).2=s then [x] else [])++X3 m s (x+1) n:=by
 unfold X3
 rw[List.range'_succ,List.filter_cons]
 by_cases q:(m.bls.getD x (0,0)).1=1∧(m.bls.getD x (0,0)).2=s
 ·rw[if_pos (decide_eq_true q),if_pos q]; rfl
 ·rw[if_neg (by rw[decide_eq_false q]; decide),if_neg q]; rfl
theorem fb (h0:B0 m) (hb:1≤m.bls.length) (s:Int):X3 m s 1 (m.bls.length-1)=Bl m s m.bls.length:=by
 have e:Bl m s m.bls.length=X3 m s 0 m.bls.length:=by unfold Bl X3; rw[List.range_eq_range']
 obtain ⟨n,hn⟩:∃ n,m.bls.length=n+1:=⟨m.bls.length-1,by omega⟩
 rw[e,hn,bL,if_neg (fun h=>by unfold B0 at h0; omega)]
 rfl
theorem Ux (k:Nat) (hk:5000≤k) (hI:Inv m) (h0:B0 m) (s:Int):∀ (n x f:Nat) (μ:Aa) (o:Ez) (R0:List (Nat × Nat)),Ah μ i m→BI Ae 2 μ o R0.length (AJ R0)→qQ i o→R0.length+33*n≤10000→x+n=m.bls.length→n<f →
  ∃ μ' o',Hq (k+7) f (DZ i) s o (x:Int) μ=some (.exit 0,[.slice o'.1 o'.2.1 o'.2.2],μ')∧ER μ o μ' o'∧BI Ae 2 μ' o' (R0++Dg m (X3 m s x n)).length (AJ (R0++Dg m (X3 m s x n)))
 | n,x,0,μ,o,R0,h,ho,hof,hl,hx,hf=>by omega
 | 0,x,f+1,μ,o,R0,h,ho,hof,hl,hx,hf=>by
   have e1:=J2 (k+5) h
   have e1':AA (k+7) (DZ i) μ=_:=e1
   rw[LY,LJ]
   refine ⟨μ,o,by simp only[e1',Option.bind_some,An,decide_eq_false (show ¬ (x:Int)<((m.bls.length:Nat):Int) by omega),cond_false],ER.refl _ _, ?_⟩
   simpa [X3,Dg] using ho
 | n+1,x,f+1,μ,o,R0,h,ho,hof,hl,hx,hf=>by
   have hnt:=h.nt
   have hxl:x<m.bls.length:=by omega
   have e1':AA (k+7) (DZ i) μ=_:=J2 (k+5) h
   have e2':CE (k+7) (DZ i) (x:Int) μ=_:=fm (k+4) h hxl
   have e3':Bx (k+7) (DZ i) (x:Int) μ=_:=ZK (k+4) h hxl
   have w1:Ac ((x:Int)+1)=((x+1:Nat):Int):=Ad (by unfold Bd; omega)
   rw[bL]
   by_cases q:(m.bls.getD x (0,0)).1=1∧(m.bls.getD x (0,0)).2=s
   ·rw[if_pos q]
    obtain ⟨τ,s1,e4,h1,lo1⟩:=mj k hk h hI h0 (x:Int)
    have hlen:=M9 m (x:Int)
    have hf1:=h1.first
    have gA:ER μ o (μ++τ) o:=ER.app _ _ _
    obtain ⟨o2,μ2,e5,g2,h2⟩:∃ s' σ',Bs P Ae o (s1.1,(Fg m (x:Int)).length,s1.2.2) (μ++τ)=some (s',σ')∧ER (μ++τ) o σ' s'∧BI Ae 2 σ' s' (R0++Fg m (x:Int)).length (AJ (R0++Fg m (x:Int))):=by
     by_cases hz:(Fg m (x:Int)).length=0
     ·have hz':Fg m (x:Int)=[]:=List.length_eq_zero_iff.1 hz
      rw[hz'] at hf1 ⊢
      refine ⟨o,μ++τ,QL bG ZT bP rfl rfl (by decide) (μ++τ) o R0.length (AJ R0) s1.1 s1.2.2 (ho.app _) (by simpa [AJ] using hf1),ER.refl _ _, ?_⟩
      rw[List.append_nil]; exact ho.app _
     ·obtain ⟨s',σ',e,g,hh⟩:=PI bG ZT bP rfl rfl (by decide) (by decide) (by decide) (μ++τ) o R0.length (AJ R0) s1.1 (Fg m (x:Int)).length s1.2.2 (AJ (Fg m (x:Int))) (by omega) (by omega) (KA _) (ho.app _) hf1
      exact ⟨s',σ',e,g,by rw[List.length_append,Jr]; exact hh⟩
    have g3:=gA.trans g2
    obtain ⟨hh,of2⟩:=g3.heap h hof
    obtain ⟨μ3,o3,e6,g4,h4⟩:=Ux k hk hI h0 s n (x+1) f μ2 o2 _ hh h2 of2 (by rw[List.length_append]; omega) (by omega) (by omega)
    refine ⟨μ3,o3, ?_,g3.trans g4, ?_⟩
    ·rw[LY,LJ]
     simp only[e1',Option.bind_some,An,decide_eq_true (show (x:Int)<((m.bls.length:Nat):Int) by omega),cond_true,e2',e3',q.1,q.2,beq_self_eq_true,e4,Hu,h1.len,e5,if_true,F2,w1]
     exact e6
    ·rw[List.append_assoc] at h4
     simpa [Dg] using h4
   ·rw[if_neg q,List.nil_append]
    obtain ⟨μ3,o3,e6,g4,h4⟩:=Ux k hk hI h0 s n (x+1) f μ o R0 h ho hof (by omega) (by omega) (by omega)
    refine ⟨μ3,o3, ?_,g4,h4⟩
    rw[LY,LJ]
    by_cases q1:(m.bls.getD x (0,0)).1=1
    ·have q2:¬ (m.bls.getD x (0,0)).2=s:=fun hq=>q ⟨q1,hq⟩
     simp only[e1',Option.bind_some,An,decide_eq_true (show (x:Int)<((m.bls.length:Nat):Int) by omega),cond_true,e2',e3',q1,beq_self_eq_true,beq_eq_false_iff_ne.2 q2,cond_false,if_true,F2,w1]
     exact e6
    ·simp only[e1',Option.bind_some,An,decide_eq_true (show (x:Int)<((m.bls.length:Nat):Int) by omega),cond_true,e2',beq_eq_false_iff_ne.2 q1,cond_false,if_true,F2,w1]
     exact e6
theorem mS (k:Nat) (hk:5000≤k) (h:Ah σ i m) (hI:Inv m) (h0:B0 m) (s:Int):
  ∃ τ o,KJ (k+8) (DZ i) s σ=some (.slice o.1 o.2.1 o.2.2,σ++τ)∧BI Ae 2 (σ++τ) o (Lb m s).length (AJ (Lb m s)) ∧ ∀ x,o.1=some x→σ.length≤x.block:=by
 have hnt:=h.nt; have hnb:=h.nb
 obtain ⟨μ,o,e,g,hs⟩:=Ux k hk hI h0 s (m.bls.length-1) 1 (k+7) σ (none,0,0) [] h (BI.nil _ _ _) (fun a ha=>by cases ha) (by simp; omega) (by omega) (by omega)
 obtain ⟨⟨τ,rfl⟩,hn⟩:=g.tail
 refine ⟨τ,o, ?_, ?_,hn⟩
 ·rw[show ((1:Nat):Int)=1 from rfl] at e
  rw[Zk,WK]
  simp only[e,Option.bind_some,if_true,F2]
 ·rw[List.nil_append,fb h0 (by omega)] at hs
  exact hs
def IC (w ad:Int):List (Nat × Nat)→Bool→Int→Bool × Int
 | [],b,z=>(b,z)
 | g::l,b,z=>IC w ad l (b || decide ((g.2:Int)≥w)) (if (g.1:Int)=ad then (g.2:Int) else z)
theorem ku {s:Ez} {R:List (Nat × Nat)} (h:BI Ae 2 σ s R.length (AJ R)) {x:Nat} (hx:x<R.length):∃ b,s.1=some ⟨b,0,none⟩∧Ai .i64 σ b (x*2)=some (R[x].1:Int)∧Ai .i64 σ b (x*2+1)=some (R[x].2:Int):=by
 obtain ⟨b,h1,h2,h3⟩:=R6 h hx
 rw[List.getD_eq_getElem?_getD,List.getElem?_eq_getElem hx] at h2 h3
 exact ⟨b,h1,h2,h3⟩
theorem YE (k:Nat) {s:Ez} {R:List (Nat × Nat)} (h:BI Ae 2 σ s R.length (AJ R)) (hl:R.length≤10000) (w ad:Int):∀ (n x f:Nat) (b:Bool) (z:Int),x+n=R.length→n<f →
  EB k f s.1 R.length s.2.2 w ad b z (x:Int) σ=some (.exit 0,[.bool (IC w ad (R.drop x) b z).1,.int .i64 (IC w ad (R.drop x) b z).2],σ)
 | n,x,0,b,z,hx,hf=>by omega
 | 0,x,f+1,b,z,hx,hf=>by
   rw[Lv,JB,List.drop_eq_nil_of_le (by omega)]
   simp only[decide_eq_false (show ¬ (x:Int)<((R.length:Nat):Int) by omega),cond_false,IC]
 | n+1,x,f+1,b,z,hx,hf=>by
   have hxl:x<R.length:=by omega
   obtain ⟨q,e0,l0,l1⟩:=ku h hxl
   have w1:Ac ((x:Int)+1)=((x+1:Nat):Int):=Ad (by unfold Bd; omega)
   have ih:=YE k h hl w ad n (x+1) f (b || decide ((R[x].2:Int)≥w)) (if (R[x].1:Int)=ad then (R[x].2:Int) else z) (by omega) (by omega)
   rw[List.drop_eq_getElem_cons hxl,IC]
   rw[e0] at ih ⊢
   rw[Lv,JB]
   simp only[decide_eq_true (show (x:Int)<((R.length:Nat):Int) by omega),cond_true,if_pos (show (0:Int)≤(x:Int)∧(x:Int)<((R.length:Nat):Int) by omega),Option.bind_some,Int.toNat_natCast,Nat.zero_add,Nat.add_zero,l0,l1,w1]
   by_cases q1:(R[x].1:Int)=ad
   ·rw[if_pos q1] at ih
    simp only[show ((R[x].1:Int) == ad)=true from by simpa using q1,cond_true,Option.bind_some,if_true,D0,if_pos q1]
    cases b with
    | true=>simp only[cond_true,Option.bind_some,Bool.true_or] at ih ⊢; exact ih
    | false=>simp only[cond_false,Option.bind_some,Bool.false_or,l1] at ih ⊢; exact ih
   ·rw[if_neg q1] at ih
    simp only[show ((R[x].1:Int) == ad)=false from by simpa using q1,cond_false,Option.bind_some,if_true,D0,if_neg q1]
    cases b with
    | true=>simp only[cond_true,Option.bind_some,Bool.true_or] at ih ⊢; exact ih
    | false=>simp only[cond_false,Option.bind_some,Bool.false_or,l1] at ih ⊢; exact ih
theorem YF (k:Nat) {s:Ez} {R:List (Nat × Nat)} (h:BI Ae 2 σ s R.length (AJ R)) (hl:R.length≤10000) (be:Bool) (w ad z:Int) (hg:∀ g ∈ R,(g.2:Int)≥w→(be=false→¬ (g.1:Int)<ad)∧(be=true→¬ (g.2:Int)<z∧((g.2:Int)=z→¬ (g.1:Int)<ad))):∀ (n x f:Nat),x+n=R.length→n<f →
  EC k f be s.1 R.length s.2.2 w ad z (x:Int) σ=some (.exit 2,[],σ)
 | n,x,0,hx,hf=>by omega
 | 0,x,f+1,hx,hf=>by
   rw[Lw,JC]
   simp only[decide_eq_false (show ¬ (x:Int)<((R.length:Nat):Int) by omega),cond_false]
 | n+1,x,f+1,hx,hf=>by
   have hxl:x<R.length:=by omega
   obtain ⟨q,e0,l0,l1⟩:=ku h hxl
   have w1:Ac ((x:Int)+1)=((x+1:Nat):Int):=Ad (by unfold Bd; omega)
   have ih:=YF k h hl be w ad z hg n (x+1) f (by omega) (by omega)
   have hgx:=hg _ (List.getElem_mem hxl)
   rw[e0] at ih ⊢
   rw[Lw,JC]
   simp only[decide_eq_true (show (x:Int)<((R.length:Nat):Int) by omega),cond_true,if_pos (show (0:Int)≤(x:Int)∧(x:Int)<((R.length:Nat):Int) by omega),Option.bind_some,Int.toNat_natCast,Nat.zero_add,Nat.add_zero,l0,l1,w1]
   by_cases q1:(R[x].2:Int)≥w
   rotate_left
   ·simp only[decide_eq_false q1,cond_false,Option.bind_some]
    exact ih
   obtain ⟨g1,g2⟩:=hgx q1
   cases be with
   | false=>
     simp only[decide_eq_true q1,cond_true,Bool.not_false,l0,l1,decide_eq_false (g1 rfl),Option.bind_some,cond_false]
     exact ih
   | true=>
     obtain ⟨g3,g4⟩:=g2 rfl
     simp only[decide_eq_true q1,cond_true,Bool.not_true,cond_false,Option.bind_some,l0,l1,decide_eq_false g3]
     by_cases q2:(R[x].2:Int)=z
     ·simp only[show ((R[x].2:Int) == z)=true from by simpa using q2,cond_true,l0,l1,decide_eq_false (g4 q2),Option.bind_some,cond_false]
      exact ih
     ·simp only[show ((R[x].2:Int) == z)=false from by simpa using q2,cond_false,Option.bind_some]
      exact ih
end Go.Proofs.YtlaplcglpnlieaaGreat
end
