/- Slices of elements of any plain kind, as they are handed in: read into the abstract memory, one behind the other.; PRINTED BY A PROGRAM OF THIS SESSIO -/
import Derived.Test.YtlaplcglpnlieaaGreatRows
import Derived.Test.YtlaplcglpnlieaaGreatChecked
import Derived.Deep.Slices
import Derived.DataShut
import Derived.Lib.SmallJoins
import Derived.Test.YtlaplcglpnlieaaGreatP12
import Derived.Test.YtlaplcglpnlieaaGreatP6
import Derived.Test.YtlaplcglpnlieaaGreatP7
import Derived.Test.YtlaplcglpnlieaaGreatP22
import Derived.Test.YtlaplcglpnlieaaGreatP18
set_option linter.unusedVariables false
set_option linter.unusedSimpArgs false
set_option linter.unusedSectionVars false
section
namespace Go.Proofs.YtlaplcglpnlieaaGreat
open Go Go.AX Go.RowKit Go.ChangeShapes Go.WideShapes Go.ChangeAt
theorem own:ownKnob Tryz.prog.godebug=none:=by kernel_rfl
theorem laidOut:laidOutB Tryz.prog=true:=by kernel_rfl
theorem an:Tryz.prog.underlying 3=some (.int .i64):=by kernel_rfl
theorem PC {n:Int} (h:(Lit.int .i64 n).wf=true):AN n:=by
 rw[Lit.wf_int_iff] at h
 have h1:IntKind.i64.min = -9223372036854775808:=by decide
 have h2:IntKind.i64.max=9223372036854775807:=by decide
 rw[h1,h2] at h
 unfold AN; omega
theorem ti {α:Type}:∀ (l:List α),l.length=3 → ∃ a b c,l=[a,b,c]
 | [a,b,c],_=>⟨a,b,c,rfl⟩
theorem tj {α:Type}:∀ (l:List α),l.length=4 → ∃ a b c d,l=[a,b,c,d]
 | [a,b,c,d],_=>⟨a,b,c,d,rfl⟩
theorem tm {α:Type}:∀ (l:List α),l.length=6 → ∃ a b c d e f,l=[a,b,c,d,e,f]
 | [a,b,c,d,e,f],_=>⟨a,b,c,d,e,f,rfl⟩
structure El (α:Type) where
 T:TypeId
 z:Nat
 cells:α→List Value
 ok:α→Prop
def plain (v:Value):Prop:=(∃ n,v = .int .i64 n) ∨ ∃ b,v = .bool b
structure mJ {α:Type} (e:El α):Prop where
 zc:P.cellsOf e.T=e.z
 z0:0<e.z
 len:∀ y,(e.cells y).length=e.z
 one:∀ y,∀ v ∈ e.cells y,plain v
 rd:∀ {H:Type} {enc:TypeId × Value→H} {W:World} {base:Nat} {sp:Nat→Bool} {hd:Bool} {fuel:Nat} {cs:List Value} {x:DataW H × List MemPlace},cs.length=e.z→DataW.trod enc P W base sp hd fuel e.T cs=some x → ∃ y,e.ok y∧cs=e.cells y
def El.row {α:Type} (e:El α):List α→List Value
 | []=>[]
 | x::l=>e.cells x++e.row l
section
variable {α:Type} {e:El α}
theorem gK (he:mJ e):∀ l:List α,(e.row l).length=e.z*l.length
 | []=>by simp[El.row]
 | x::l=>by
   simp only[El.row,List.length_append,gK he l,he.len,List.length_cons]
   rw[Nat.mul_add,Nat.mul_one]; omega
theorem gJ (he:mJ e):∀ (l:List α) (x:Nat) (hx:x<l.length) (q:Nat),q<e.z→(e.row l)[x*e.z+q]?=(e.cells l[x])[q]?
 | y::l,0,hx,q,hq=>by
   simp only[El.row,Nat.zero_mul,Nat.zero_add,List.getElem_cons_zero]
   rw[List.getElem?_append_left (by rw[he.len]; exact hq)]
 | y::l,x+1,hx,q,hq=>by
   have h1:x<l.length:=by simpa using hx
   simp only[El.row,List.getElem_cons_succ]
   have e0:(x+1)*e.z=e.z+x*e.z:=by rw[Nat.add_mul]; omega
   rw[List.getElem?_append_right (by rw[he.len,e0]; omega),he.len,← gJ he l x h1 q hq]
   congr 1
   rw[e0]; omega
theorem pE {μ:Mu} {v:Value} (h:plain v):RV μ v v:=by
 rcases h with ⟨n,rfl⟩ | ⟨b,rfl⟩
 ·exact .int _ _
 ·exact .bool _
theorem ff {μ:Mu}:∀ {l:List Value},(∀ v ∈ l,plain v)→JS μ l l
 | [],_=>.nil
 | v::l,h=>.cons (pE (h v (by simp))) (ff fun v hv=>h v (by simp[hv]))
theorem Ze (he:mJ e):∀ (l:List α),∀ v ∈ e.row l,plain v
 | [],v,h=>by simp[El.row] at h
 | x::l,v,h=>by
   simp only[El.row,List.mem_append] at h
   rcases h with h | h
   ·exact he.one x v h
   ·exact Ze he l v h
theorem Z2 {p:Nat→α→Prop}:∀ (n:Nat),(∀ i,i<n → ∃ a,p i a) → ∃ l:List α,l.length=n ∧ ∀ i (h:i<l.length),p i l[i]
 | 0,_=>⟨[],rfl,fun i h=>by simp at h⟩
 | n+1,h=>by
   obtain ⟨l,hl,hp⟩:=Z2 n fun i hi=>h i (by omega)
   obtain ⟨a,ha⟩:=h n (by omega)
   refine ⟨l++[a],by simp[hl],fun i hi=>?_⟩
   by_cases hi':i<l.length
   ·rw[List.getElem_append_left hi']; exact hp i hi'
   ·have:i=l.length:=by simp at hi; omega
    subst this
    rw[List.getElem_append_right (Nat.le_refl _)]
    simp[hl]; exact ha
def rC (e:El α) (W:World) (v:Value) (l:List α):Prop:=
 (∀ x ∈ l,e.ok x)∧((l=[] ∧ ∃ pt,∀ μ,RV μ (.slice pt 0 0) v) ∨
  ∃ k,(∀ μ,gb P μ (.cells (e.row l) e.T false) k W.heap[k.b]?)∧k.b<W.heap.size ∧ ∀ μ h,μ h=some k→RV μ (.slice (some ⟨h,0,none⟩) l.length l.length) v)
set_option maxRecDepth 100000 in
theorem sF (he:mJ e) {ST:TypeId} {H:Type} {enc:TypeId × Value→H} {W:World} {b0:Nat} {v:Value} {d:DataW H} {p:List MemPlace} (ht:Tryz.prog.underlying ST=some (.slice e.T)) (hval:Value.okWide Tryz.prog W .any b0 ST v) (h:DataW.Trod enc Tryz.prog W 0 (fun _=>true) true ST v d p):
  ∃ l:List α,rC e W v l:=by
 have z0:=he.z0
 obtain ⟨a0,len,cap,rfl⟩:=okWide_slice ht hval
 obtain ⟨fuel,hf⟩:=h
 rcases Go.Deep.open_slice ht hf with ⟨h1,_⟩ | ⟨a,len',cap',mm,n,D,Pl,h1,_,hlc,hcm,hmm,_,hel⟩
 ·simp[Value.cells] at h1
  obtain ⟨rfl,rfl,rfl⟩:=h1
  exact ⟨[],(fun x hx=>by simp at hx),.inl ⟨rfl,none,fun _=>.sliceNil⟩⟩
 ·simp[Value.cells] at h1
  obtain ⟨rfl,rfl,rfl⟩:=h1
  have hm:mm=cap:=by simpa using hmm
  subst hm
  by_cases hc0:mm=0
  ·subst hc0
   obtain rfl:len=0:=by omega
   exact ⟨[],(fun x hx=>by simp at hx),.inl ⟨rfl,some ⟨0,0,some 0⟩,fun _=>.sliceZ a rfl⟩⟩
  have hcells:∀ q,q<mm → ∃ cs',W.cells? 0 (a.add (q*e.z)) e.z=some cs' ∧ ∃ y:α,e.ok y∧cs'=e.cells y:=by
   intro q hq
   obtain ⟨cs',g1,g2⟩:=hel q hq
   rw[show Tryz.prog.cellsOf e.T=e.z from he.zc] at g1
   obtain ⟨_,g3,_⟩:=World.cells?_some g1
   exact ⟨cs',g1,he.rd g3 g2⟩
  obtain ⟨cs0,f1,_,_⟩:=hcells 0 (by omega)
  obtain ⟨_,f2,f3⟩:=World.cells?_some f1
  have f4:=f3 0 z0
  have hz:(a.add (0*e.z)).add 0=a:=by simp[Addr.add]
  rw[hz] at f4
  have hc0':∃ v0,W.cell? a=some v0:=by
   rw[f4]; exact ⟨_,List.getElem?_eq_getElem (by omega)⟩
  obtain ⟨v0,hc0'⟩:=hc0'
  have hblk:∃ c T fz,W.heap[a.block]?=some (.cells c T fz)∧a.spot=none:=by
   unfold World.cell? at hc0'
   split at hc0'
   ·rename_i c T fz hb
    split at hc0'
    ·cases hc0'
    ·rename_i hsp
     exact ⟨c,T,fz,hb,by simpa using hsp⟩
   ·cases hc0'
  obtain ⟨c,T,fz,hb,hsp⟩:=hblk
  have hcell:∀ o,W.cell? ⟨a.block,a.off+o,none⟩=c[a.off+o]?:=by
   intro o; simp[World.cell?,hb]
  have hadd:∀ q r,(a.add (q*e.z)).add r=⟨a.block,a.off+(q*e.z+r),none⟩:=by
   intro q r
   obtain ⟨b,o,s⟩:=a
   simp only at hsp
   subst hsp
   unfold Addr.add
   by_cases h1:q*e.z=0
   ·by_cases h2:r=0 <;> simp[h1,h2]
   ·by_cases h2:r=0 <;> simp[h1,h2] <;> omega
  obtain ⟨l,hl,hlp⟩:=Z2 (α:=α) (p:=fun q y=>e.ok y∧W.cells? 0 (a.add (q*e.z)) e.z=some (e.cells y)) mm (fun q hq=>by
   obtain ⟨cs',g1,y,g2,g3⟩:=hcells q hq
   exact ⟨y,g2,by rw[← g3]; exact g1⟩)
  have hget:∀ q (hq:q<l.length) r,r<e.z→c[a.off+(q*e.z+r)]?=(e.cells (l[q]))[r]?:=by
   intro q hq r hr
   obtain ⟨_,g2⟩:=hlp q hq
   obtain ⟨_,_,g4⟩:=World.cells?_some g2
   rw[← hcell,← hadd,g4 r hr]
  have hlast:=hget (mm-1) (by omega) (e.z-1) (by omega)
  have hmz:(mm-1)*e.z+e.z=mm*e.z:=by
   have:mm*e.z=(mm-1+1)*e.z:=by rw[Nat.sub_add_cancel (by omega)]
   rw[this,Nat.add_mul,Nat.one_mul]
  have hsize:a.off+mm*e.z≤c.size:=by
   have h9:e.z-1<(e.cells (l[mm-1]'(by omega))).length:=by rw[he.len]; omega
   rw[List.getElem?_eq_getElem h9] at hlast
   have:=(Array.getElem?_eq_some_iff.1 hlast).1
   omega
  have hlt:(l.take len).length=len:=by simp; omega
  have hrow:((c.toList.drop a.off).take (e.z*len))=e.row (l.take len):=by
   apply List.ext_getElem?
   intro x
   by_cases hx:x<e.z*len
   ·rw[List.getElem?_take,if_pos hx,List.getElem?_drop,Array.getElem?_toList]
    have hq:x/e.z<len:=Nat.div_lt_of_lt_mul hx
    have hr:x % e.z<e.z:=Nat.mod_lt _ z0
    have ex:x/e.z*e.z+x % e.z=x:=by have:=Nat.div_add_mod x e.z; rw[Nat.mul_comm] at this; exact this
    have h1:=gJ he (l.take len) (x/e.z) (by omega) (x % e.z) hr
    rw[ex] at h1
    rw[h1,List.getElem_take]
    have h2:=hget (x/e.z) (by omega) (x % e.z) hr
    rw[ex] at h2
    exact h2
   ·rw[List.getElem?_take,if_neg hx,List.getElem?_eq_none]
    rw[gK he,hlt]; omega
  refine ⟨l.take len, ?_,.inr ⟨⟨a.block,a.off,e.z,e.z*len,e.z*mm⟩,fun μ=>?_,(Array.getElem?_eq_some_iff.1 hb).1,fun μ h hk=>?_⟩⟩
  ·intro x hx
   obtain ⟨q,hq,rfl⟩:=List.mem_iff_getElem.1 hx
   rw[List.getElem_take]
   exact (hlp q (by simp at hq; omega)).1
  ·refine ⟨c,T,fz,hb,by rw[gK he,hlt],by dsimp only; exact Nat.mul_le_mul_left _ (by omega),by dsimp only; rw[Nat.mul_comm]; exact hsize,he.zc.symm,(fun h=>by cases h), ?_, ?_⟩
   ·intro v hv
    rcases Ze he _ v hv with ⟨n,rfl⟩ | ⟨b,rfl⟩ <;> rfl
   ·rw[hrow]
    exact ff (Ze he _)
  ·rw[hlt]
   have:=RV.slice (μ:=μ) (a:=⟨h,0,none⟩) (k:=⟨a.block,a.off,e.z,e.z*len,e.z*mm⟩) (l:=len) (c:=len) (c':=mm) hk rfl (Nat.le_refl _) hlc (by dsimp only; rw[Nat.zero_add,Nat.mul_comm]; exact Nat.le_refl _)
   have ha:(⟨a.block,a.off+0,none⟩:Addr)=a:=by
    obtain ⟨b,o,s⟩:=a
    simp only at hsp
    subst hsp; rfl
   simp only[ha] at this
   exact this
def Ro (e:El α) (σ:Aa) (p:Option Addr) (l:List α):Prop:=l=[] ∨ ∃ ab,p=some ⟨ab,0,none⟩∧σ[ab]?=some (.cells (e.row l) e.T false)
theorem Ro.ld (he:mJ e) {σ:Aa} {p:Option Addr} {l:List α} (h:Ro e σ p l) {x:Nat} (hx:x<l.length):∃ ab,p=some ⟨ab,0,none⟩∧ab<σ.length ∧ ∀ q,q<e.z→G1 σ ab (x*e.z+q)=(e.cells l[x])[q]?:=by
 rcases h with rfl | ⟨ab,h1,h2⟩
 ·simp at hx
 ·exact ⟨ab,h1,(List.getElem?_eq_some_iff.1 h2).1,fun q hq=>by simp only[G1,h2]; exact gJ he l x hx q hq⟩
theorem Ro.CX {σ σ':Aa} {p:Option Addr} {l:List α} (h:Ro e σ p l) (hs:∀ q,q<σ.length→σ'[q]?=σ[q]?):Ro e σ' p l:=by
 rcases h with h | ⟨ab,h1,h2⟩
 ·exact .inl h
 ·exact .inr ⟨ab,h1,by rw[hs ab (List.getElem?_eq_some_iff.1 h2).1]; exact h2⟩
theorem Ro.app {σ:Aa} {p:Option Addr} {l:List α} (h:Ro e σ p l) (τ:Aa):Ro e (σ++τ) p l:=by
 rcases h with h | ⟨ab,h1,h2⟩
 ·exact .inl h
 ·exact .inr ⟨ab,h1,by rw[List.getElem?_append_left (List.getElem?_eq_some_iff.1 h2).1]; exact h2⟩
end
theorem tr (W:World):R P (fun _=>none) [] W:=⟨fun h o k h1 _=>by simp at h1,fun h k h1=>(by cases h1),fun h h' k k' h1=>(by cases h1)⟩
structure UQ (W:World) (σ:Aa) (μ:Mu):Prop where
 r:R P μ σ W
 nw:∀ b,b<σ.length→¬ Av σ b
 fr:∀ hi,Is μ σ.length hi
theorem UQ.nil (W:World):UQ W [] (fun _=>none):=⟨tr W,fun b hb=>absurd hb (Nat.not_lt_zero _),fun _ _ _ _=>rfl⟩
theorem UQ.add {W:World} {σ:Aa} {μ:Mu} (h:UQ W σ μ) {α:Type} {e:El α} {v:Value} {l:List α} (ho:rC e W v l):
  ∃ pt c2 τ μ',UQ W (σ++τ) μ'∧Ro e (σ++τ) pt l∧RV μ' (.slice pt l.length c2) v∧(∀ x y,RV μ x y→RV μ' x y)∧(∀ ab,pt=some ab→l≠[]→ab.block<(σ++τ).length):=by
 obtain ⟨_,⟨rfl,pt,hrv⟩ | ⟨k,hk,hlt,hrv⟩⟩:=ho
 ·exact ⟨pt,0,[],μ,by rw[List.append_nil]; exact h,.inl rfl,hrv _,fun _ _ h=>h,fun _ _ hh=>absurd rfl hh⟩
 ·have hle:μ.le (μ.put σ.length k):=by
   intro a b hab
   by_cases q:a=σ.length
   ·subst q
    have:=h.fr (σ.length+1) σ.length (Nat.le_refl _) (by omega)
    rw[this] at hab; cases hab
   ·simp[Mu.put,q,hab]
  refine ⟨some ⟨σ.length,0,none⟩,l.length,[.cells (e.row l) e.T false],μ.put σ.length k,⟨⟨fun a o k1 h1 h2=>?_,fun a k1 h1=>?_,fun a a' k1 k2 h1 h2 ha1 ha2 hw _=>?_⟩,fun b hb=>?_,fun hi a h1 h2=>?_⟩,.inr ⟨σ.length,rfl,by simp⟩,hrv _ _ (by simp[Mu.put]),fun x y hh=>hh.mono hle,fun a ha _=>by cases ha; simp⟩
  ·by_cases q:a=σ.length
   ·subst q
    simp at h1; subst h1
    have:k=k1:=by simpa [Mu.put] using h2
    subst this
    exact hk _
   ·have h3:μ a=some k1:=by simpa [Mu.put,q] using h2
    have h4:σ[a]?=some o:=by
     rw[List.getElem?_append] at h1
     split at h1
     ·exact h1
     ·rename_i hh
      have:=(List.getElem?_eq_some_iff.1 h1).1
      simp at this; omega
    exact (h.r.obj a o k1 h4 h3).mono hle
  ·by_cases q:a=σ.length
   ·subst q
    have:k=k1:=by simpa [Mu.put] using h1
    subst this; exact hlt
   ·exact h.r.lt a k1 (by simpa [Mu.put,q] using h1)
  ·have nw:∀ b,¬ Av (σ++[AY.cells (e.row l) e.T false]) b:=by
    intro b
    rcases Nat.lt_trichotomy b σ.length with q | q | q
    ·have:=h.nw b q
     unfold Av at *
     rw[List.getElem?_append_left q]; exact this
    ·subst q; simp[Av]
    ·unfold Av
     rw[List.getElem?_eq_none (by simp; omega)]; simp
   rcases hw with hw | hw
   ·exact absurd hw (nw _)
   ·exact absurd hw (nw _)
  ·rcases Nat.lt_or_ge b σ.length with q | q
   ·have:=h.nw b q
    unfold Av at *
    rw[List.getElem?_append_left q]; exact this
   ·have:b=σ.length:=by simp at hb; omega
    subst this; simp[Av]
  ·simp at h1
   have:a≠σ.length:=by omega
   simp only[Mu.put,this,if_false]
   exact h.fr hi a (by omega) h2
theorem lI {f:Nat} {k:Nat} {args gs:List Value} {σ:Aa} {μ:Mu} {w:World}
  (h:∃ σ',@fn As P X2 H k f args σ=some (.bool true,σ'))
  (ho:UQ w σ μ) (hV:JS μ args gs):
  Calls Tryz.prog f gs.toArray w fun x w'=>x = .returned (.bool true)∧Below w.heap.size w w':=by
 obtain ⟨σ',h⟩:=h
 obtain ⟨hlen,_,_,hc⟩:=@oQ P As Tryz.checked.mixed X2 (tB Tryz.checked.mixed) ry H k _ _ _ _ _ h
 refine (hc μ w gs.toArray ho.r (ho.fr _) (by simpa using hV)).mono ?_
 rintro x w' ⟨μ',v',rfl,hv,hR',hS⟩
 cases hv
 exact ⟨rfl,dt hS ho.nw⟩
end Go.Proofs.YtlaplcglpnlieaaGreat
end
section
set_option maxRecDepth 100000
namespace Go.Proofs.YtlaplcglpnlieaaGreat
open Go Go.AX Go.RowKit Go.ChangeShapes Go.WideShapes Go.ChangeAt
theorem z3:Tryz.prog.cellsOf 3=1:=by kernel_rfl
structure uf where
 r:Int
 d:Int
 c:Int
def uf.ok (y:uf):Prop:=AN y.r∧AN y.d∧AN y.c
structure Yv where
 k:Int
 a:Int
 b:Int
 r:Int
 d:Int
 c:Int
def Yv.ok (y:Yv):Prop:=AN y.k∧AN y.a∧AN y.b∧AN y.r∧AN y.d∧AN y.c
def Zv:El Yv:=⟨Ik,6,fun y=>[.int .i64 y.k,.int .i64 y.a,.int .i64 y.b,.int .i64 y.r,.int .i64 y.d,.int .i64 y.c],Yv.ok⟩
theorem tD:Tryz.prog.cellsOf 33=3:=by kernel_rfl
theorem ie:mJ Zv where
 zc:=by kernel_rfl
 z0:=by decide
 len:=fun _=>rfl
 one:=fun y v hv=>by
  simp[Zv] at hv
  rcases hv with rfl | rfl | rfl | rfl | rfl | rfl <;> exact .inl ⟨_,rfl⟩
 rd:=fun hl hf=>by
  obtain ⟨c0,c1,c2,c3,c4,c5,rfl⟩:=tm _ hl
  obtain ⟨xs1,_,_,_,_,hlen1,hff1⟩:=DataW.trod_struct Tryz.underlying79 hf
  obtain ⟨y1_0,y1_1,y1_2,y1_3,rfl⟩:=tj xs1 hlen1
  have k1_0:=hff1 0 _ rfl
  have k1_1:=hff1 1 _ rfl
  have k1_2:=hff1 2 _ rfl
  have k1_3:=hff1 3 _ rfl
  simp[z3,tD] at k1_0 k1_1 k1_2 k1_3
  obtain ⟨a0,e0,_,w0⟩:=DataW.trod_int an k1_0
  obtain ⟨a1,e1,_,w1⟩:=DataW.trod_int an k1_1
  obtain ⟨a2,e2,_,w2⟩:=DataW.trod_int an k1_2
  obtain ⟨xs2,_,_,_,_,hlen2,hff2⟩:=DataW.trod_struct Tryz.underlying33 k1_3
  obtain ⟨y2_0,y2_1,y2_2,rfl⟩:=ti xs2 hlen2
  have k2_0:=hff2 0 _ rfl
  have k2_1:=hff2 1 _ rfl
  have k2_2:=hff2 2 _ rfl
  simp[z3,tD] at k2_0 k2_1 k2_2
  obtain ⟨a3,e3,_,w3⟩:=DataW.trod_int an k2_0
  obtain ⟨a4,e4,_,w4⟩:=DataW.trod_int an k2_1
  obtain ⟨a5,e5,_,w5⟩:=DataW.trod_int an k2_2
  simp at e0 e1 e2 e3 e4 e5
  subst e0 e1 e2 e3 e4 e5
  exact ⟨⟨a0,a1,a2,a3,a4,a5⟩,⟨PC w0,PC w1,PC w2,PC w3,PC w4,PC w5⟩,rfl⟩
end Go.Proofs.YtlaplcglpnlieaaGreat
end
section
namespace Go.Proofs.YtlaplcglpnlieaaGreat
open Go Go.AX
noncomputable local instance wu:AK:=As
local instance uZ:Kn:=⟨true⟩
variable {σ:Aa} {m:HM} {t:RM} {i:C9} {j:RI} {ab rb:Nat} {a:AS}
structure Uv (σ:Aa) (i:C9) (j:RI) (m:HM) (t:RM) (ab rb:Nat) (a:AS):Prop where
 w:qh σ i j m t
 al:Ch σ ab i a
 rl:K8 σ rb j a
 abi:ab ∉ i.l
 abj:ab ∉ j.l
 rbi:rb ∉ i.l
 rbj:rb ∉ j.l
 ne:ab≠rb
 ok:a.ok
theorem Uv.app (W:Uv σ i j m t ab rb a) (τ:Aa):Uv (σ++τ) i j m t ab rb a:=⟨W.w.app τ,W.al.app τ,W.rl.CX (List.getElem?_append_left (Ae W.rl)) rfl,W.abi,W.abj,W.rbi,W.rbj,W.ne,W.ok⟩
theorem qh.tq (W:qh σ i j m t):Sr m:=⟨W.g.inv,W.g.inv2,W.h.sh,W.z,W.b0,W.g.nb,W.g.nt⟩
structure lM (i:C9) (j j':RI) (ab rb:Nat) (σ σ':Aa):Prop where
 len:σ.length≤σ'.length
 same:∀ q,q<σ.length→q ∉ i.l→q ∉ j.l→q≠ab→q≠rb→σ'[q]?=σ[q]?
 new:∀ q,q ∈ j'.l→q ∈ j.l∨σ.length≤q
 hb:j'.hb=j.hb
theorem lM.trans {x y z:Aa} {j j' j'':RI} (h:lM i j j' ab rb x y) (g:lM i j' j'' ab rb y z):lM i j j'' ab rb x z:=by
 refine ⟨Nat.le_trans h.len g.len,fun q h1 h2 h3 h4 h5=>?_,fun q hq=>?_,g.hb.trans h.hb⟩
 ·refine (g.same q (Nat.lt_of_lt_of_le h1 h.len) h2 (fun hm=>?_) h4 h5).trans (h.same q h1 h2 h3 h4 h5)
  rcases h.new q hm with h6 | h6
  ·exact h3 h6
  ·omega
 ·rcases g.new q hq with h1 | h1
  ·exact h.new q h1
  ·exact .inr (Nat.le_trans h.len h1)
theorem lM.app (i:C9) (j:RI) (ab rb:Nat) (σ τ:Aa):lM i j j ab rb σ (σ++τ):=⟨by simp,fun q h _ _ _ _=>List.getElem?_append_left h,fun _ h=>.inl h,rfl⟩
theorem Uv.of {σ':Aa} {j':RI} {m':HM} {t':RM} (W:Uv σ i j m t ab rb a) (W2:qh σ' i j' m' t') (k:rB i j j' σ σ'):Uv σ' i j' m' t' ab rb a∧lM i j j' ab rb σ σ':=by
 have la:=W.al.lt
 have lr:=Ae W.rl
 refine ⟨⟨W2,W.al.CX (k.same ab la W.abi W.abj),W.rl.CX (k.same rb lr W.rbi W.rbj) k.hb,W.abi,fun hm=>?_,W.rbi,fun hm=>?_,W.ne,W.ok⟩,⟨k.len,fun q h1 h2 h3 _ _=>k.same q h1 h2 h3,k.new,k.hb⟩⟩
 ·rcases k.new ab hm with h | h
  ·exact W.abj h
  ·omega
 ·rcases k.new rb hm with h | h
  ·exact W.rbj h
  ·omega
theorem kh (W:Uv σ i j m t ab rb a) (hb:m.births<1000) (r d c:Int):oh m a (Uh m a r d c):=
 dM W.w.g.inv W.w.g.inv2 W.ok (fun hv=>gC W.w.g.inv W.w.g.inv2 W.w.g.nt W.ok (by have:=HH hv; omega)) (fun _=>(aE W.w.tq _).sh)
theorem dL {m:HM} {a:AS} {r d c:Int} {pr:PR} (hp:pr.2.1.fw=m.fw):(Bu m a r d c pr).2.1.fw=m.fw:=by
 have hpl:∀ x,(Bv pr.2.1 x r d c).2.2.fw=m.fw:=fun x=>by
  unfold Bv; split
  ·split
   ·exact hp
   ·exact hp
  ·exact hp
 unfold Bu; split
 ·split
  ·split
   ·split
    ·exact hpl _
    ·exact hpl _
   ·exact hp
  ·exact hp
 ·rfl
theorem SB (m:HM) (b c x y x' y':Int):(Bs m b c x y x' y').2.fw=m.fw:=by
 unfold Bs; split
 ·split <;> rfl
 ·rfl
theorem ma (m:HM) (s:Int):(S7 m s).fw=m.fw:=by
 unfold S7; split
 ·exact SB _ _ _ _ _ _ _
 ·rfl
theorem VZ (m:HM) (a:AS) (l:List (Nat × Nat)):(BQ m a l).2.1.fw=m.fw:=by
 unfold BQ; split
 ·rfl
 ·split
  ·exact SB _ _ _ _ _ _ _
  ·rfl
theorem ir (m:HM) (a:AS) (v:Bool) (w:Int):(Dg m a v w).2.1.fw=m.fw:=by
 unfold Dg; split
 ·rfl
 ·split
  ·exact SB _ _ _ _ _ _ _
  ·rfl
theorem pG (m:HM) (a:AS) (w:Int):(UI m a w).2.1.fw=m.fw:=by
 unfold UI; split
 ·unfold KX; split
  ·exact SB _ _ _ _ _ _ _
  ·rfl
 split
 ·exact VZ _ _ _
 split
 ·exact VZ _ _ _
 split
 ·unfold SP; split
  ·exact VZ _ _ _
  ·exact VZ _ _ _
 split
 ·exact ir _ _ _ _
 ·unfold GJ; split
  ·rfl
  ·split
   ·exact ir _ _ _ _
   ·split
    ·unfold L5; split
     ·rfl
     ·exact ma _ _
    ·unfold L5; split
     ·rfl
     ·exact ma _ _
theorem kk (k:Nat) (hk:60000≤k) (W:Uv σ i j m t ab rb a) (hb:m.births<1000) (r d c:Int):
  ∃ σ1 σ2 j' t',AO (k+13) (DC ab) r d c σ=some (.tuple #[.int .i64 (Uh m a r d c).1.1,.int .i64 (Uh m a r d c).1.2],σ1)∧Em (k+13) (DC rb) r d c σ1=some (.tuple #[.int .i64 (Uh m a r d c).1.1,.int .i64 (Uh m a r d c).1.2],σ2)∧Uv σ2 i j' (Uh m a r d c).2.1 t' ab rb (Uh m a r d c).2.2∧lM i j j' ab rb σ σ2∧(∀ q,q<σ.length→q ∉ i.l→q≠ab→σ1[q]?=σ[q]?):=by
 have ok:=kh W hb r d c
 have hfw:(Uh m a r d c).2.1.fw=m.fw:=dL (pG m a _)
 obtain ⟨σ1,e1,h1,A1,K1⟩:=dI k (by omega) W.w.h W.al W.abi W.ok W.w.g.inv W.w.g.inv2 W.w.b0 (by omega) r d c
 have la:=W.al.lt
 have lr:=Ae W.rl
 have g1:RG σ1 j m t:=W.w.g.CX (fun q hq=>K1.same q (W.w.g.at_.lt q hq) (fun hm=>W.w.off q hm hq) (fun e=>W.abj (by rw[← e]; exact hq))) K1.len
 have R1:Ug σ1 j rb m t a:=⟨g1,W.w.P,W.w.tq,W.rl.CX (K1.same rb lr W.rbi fun e=>W.ne e.symm) rfl,W.rbj⟩
 obtain ⟨σ2,j',t',e2,R2,K2⟩:=nP (k+3) (by omega) R1 W.ok (by omega) r d c
 have off2:∀ q,q<σ1.length→q ∉ j.l→q ∉ j'.l:=fun q hq hn hm=>by
  rcases K2.new q hm with h | h
  ·exact hn h
  ·omega
 have h2:Ah σ2 i (Uh m a r d c).2.1:=h1.CX fun q hq=>K2.same q (h1.lt q hq) (W.w.off q hq) fun e=>W.rbi (by rw[← e]; exact hq)
 refine ⟨σ1,σ2,j',t',e1,e2,⟨⟨h2,R2.g,R2.P,R2.M.fz,R2.M.b0,fun q hq=>off2 q (h1.lt q hq) (W.w.off q hq), ?_, ?_⟩,A1.CX (K2.same ab (Ae A1) W.abj W.ne),R2.al,W.abi,off2 ab (Ae A1) W.abj,W.rbi,R2.off,W.ne,ok.ok⟩,⟨Nat.le_trans K1.len K2.len,fun q q1 q2 q3 q4 q5=>by rw[K2.same q (Nat.lt_of_lt_of_le q1 K1.len) q3 q5,K1.same q q1 q2 q4],fun q hq=>(K2.new q hq).imp id fun h=>Nat.le_trans K1.len h,K2.hb⟩,fun q q1 q2 q3=>K1.same q q1 q2 q3⟩
 ·have:=ok.b2; omega
 ·rw[hfw]; exact W.w.fl
end Go.Proofs.YtlaplcglpnlieaaGreat
end
section
namespace Go.Proofs.YtlaplcglpnlieaaGreat
open Go Go.AX
noncomputable local instance wv:AK:=As
local instance va:Kn:=⟨true⟩
variable {σ:Aa} {m:HM} {t:RM} {i:C9} {j:RI} {ab rb:Nat} {a:AS}
def AS.zero (a:AS):AS:={ a with c:=0,l:=0,oc:=0,ol:=0 }
theorem mQ (k:Nat) (hA:Ch σ ab i a):∃ σ',EY (k+2) (DC ab) σ=some (.tuple #[],σ')∧Ch σ' ab i a.zero∧Fo ab σ σ':=by
 have s1:=hA.tJ false 0 0
 have A1:=hA.put (a.put false 0 0)
 have s2:=A1.tJ true 0 0
 rw[show og false=3 from rfl] at s1
 rw[show og true=5 from rfl] at s2
 have A2:=A1.put ((a.put false 0 0).put true 0 0)
 refine ⟨_, ?_,A2,(Fo.set _ _).trans (Fo.set _ _)⟩
 rw[QA,MQ]
 simp only[aZ _ hA,Option.bind_some,Au,cond_true,Nat.zero_add,s1,s2,if_true]
theorem nW (k:Nat) (h:Ug σ j rb m t a):∃ σ',Fc (k+3) (DC rb) σ=some (.tuple #[],σ')∧Ug σ' j rb m t a.zero∧Fo rb σ σ':=by
 have s1:=h.al.G7 3 (.int .i64 0) { a with c:=0 } rfl (by decide)
 have h1:=h.Sj { a with c:=0 }
 have s2:=h1.al.G7 4 (.int .i64 0) { a with c:=0,l:=0 } rfl (by decide)
 have h2:=h1.Sj { a with c:=0,l:=0 }
 have s3:=h2.al.G7 5 (.int .i64 0) { a with c:=0,l:=0,oc:=0 } rfl (by decide)
 have h3:=h2.Sj { a with c:=0,l:=0,oc:=0 }
 have s4:=h3.al.G7 6 (.int .i64 0) a.zero rfl (by decide)
 have h4:=h3.Sj a.zero
 refine ⟨_, ?_,h4,(((Fo.set _ _).trans (Fo.set _ _)).trans (Fo.set _ _)).trans (Fo.set _ _)⟩
 rw[QH,MT]
 simp only[fu _ h,Option.bind_some,Au,cond_true,Nat.zero_add,s1,s2,s3,s4,if_true]
def TG (m:HM) (n:Int):Int:=if (BV m).length=0∨n<0 then 0 else ((2*(BV m).getD (n.toNat % (BV m).length) 0:Nat):Int)
theorem sv (k:Nat) (hk:5000≤k) (g:RG σ j m t) (n:Int) (hn:AN n):∃ τ,Pm (k+3) (Cg j) n σ=some (.int .i64 (TG m n),σ++τ):=by
 obtain ⟨τ,s,e1,h1⟩:=qT k hk g
 refine ⟨τ, ?_⟩
 have hl:s.2.1=(BV m).length:=by rw[h1.len]; simp[DE]
 rw[bC,Zx]
 simp only[e1,Option.bind_some,Hs,hl]
 by_cases q:(BV m).length=0
 ·rw[show TG m n=0 from if_pos (.inl q)]
  simp only[show ((((BV m).length:Nat):Int) == 0)=true from by simp[q],cond_true,Option.bind_some]
 simp only[show ((((BV m).length:Nat):Int) == 0)=false from by rw[beq_eq_false_iff_ne]; omega,cond_false,Option.bind_some]
 by_cases q2:n<0
 ·rw[show TG m n=0 from if_pos (.inr q2)]
  simp only[decide_eq_true q2,cond_true]
 ·have hone:TG m n=((2*(BV m).getD (n.toNat % (BV m).length) 0:Nat):Int):=if_neg (by omega)
  rw[hone]
  obtain ⟨p,rfl⟩:∃ p:Nat,n=(p:Int):=⟨n.toNat,by omega⟩
  have hm:p % (BV m).length<(BV m).length:=Nat.mod_lt _ (by omega)
  have hx:p % (BV m).length<(DE (BV m)).length:=by simpa [DE] using hm
  obtain ⟨b,e0,_,_,l0⟩:=ints_at h1 hx
  have e2:((p:Int)).tmod (((BV m).length:Nat):Int)=((p % (BV m).length:Nat):Int):=rfl
  simp only[decide_eq_false q2,cond_false,e2,Int.toNat_natCast]
  rw[if_neg (show ¬ (((BV m).length:Nat):Int)=0 by omega),if_pos (show (0:Int)≤((p % (BV m).length:Nat):Int)∧((p % (BV m).length:Nat):Int)<(((BV m).length:Nat):Int) by omega),e0]
  simp only[Option.bind_some,Nat.zero_add,Nat.mul_one,l0]
  rw[Qs _ hm,List.getD_eq_getElem?_getD,List.getElem?_eq_getElem hm]
  rfl
theorem qQ (hnt:m.bls.length≤64) (n:Int):AN (TG m n):=by
 unfold TG AN
 split
 ·omega
 ·rename_i q
  have hm:n.toNat % (BV m).length<(BV m).length:=Nat.mod_lt _ (by omega)
  rw[List.getD_eq_getElem?_getD,List.getElem?_eq_getElem hm]
  have:=(CA.1 (List.getElem_mem hm)).1
  simp only[Option.getD_some]
  omega
def jW (m:HM) (a:AS) (x:Yv):HM × AS:=
 if x.k=0 then (Uh m a x.r x.d x.c).2
 else if x.k=1 then ((Pv m (TG m x.a)).2,a)
 else if x.k=2 then (m,a.zero)
 else if x.k=4 then ((Bs m x.a 1 1 x.b 0 0).2,a)
 else if x.k=5 then ((GM m x.a).2,a)
 else if x.k=6 then ((Bv m x.a x.r x.d x.c).2.2,a)
 else if x.k=7 then ((LK m x.a x.b).2,a)
 else (m,a)
theorem pF (k:Nat) (hk:60000≤k) (W0:Uv σ i j m t ab rb a) (hb:m.births<1000) (hfl:m.fw.length<1000) (x:Yv) (hx:x.ok):
  ∃ σ' j' t',ND (k+14) (CW i) (DC ab) (Cg j) (DC rb) x.k x.a x.b x.r x.d x.c σ=some (.bool true,σ')∧Uv σ' i j' (jW m a x).1 t' ab rb (jW m a x).2∧lM i j j' ab rb σ σ':=by
 obtain ⟨h1,h2,h3,h4,h5,h6⟩:=hx
 rw[ZZ,X4]
 simp only[Ao]
 obtain ⟨μ,hμ⟩:∃ μ,σ++[AY.cells [Value.int .i64 x.k,.int .i64 x.a,.int .i64 x.b,.int .i64 x.r,.int .i64 x.d,.int .i64 x.c] Ik true]=μ:=⟨_,rfl⟩
 have W:Uv μ i j m t ab rb a:=hμ ▸ W0.app _
 have hbox:μ[σ.length]?=some (AY.cells [Value.int .i64 x.k,.int .i64 x.a,.int .i64 x.b,.int .i64 x.r,.int .i64 x.d,.int .i64 x.c] Ik true):=by rw[← hμ]; simp
 have hlt:σ.length<μ.length:=Ae hbox
 have hoff:σ.length ∉ i.l:=fun hm=>Nat.lt_irrefl _ (W0.w.h.lt _ hm)
 have hna:σ.length≠ab:=by have:=W0.al.lt; omega
 have K0:lM i j j ab rb σ μ:=hμ ▸ lM.app i j ab rb σ _
 have ldq:∀ (μ':Aa),μ'[σ.length]?=μ[σ.length]?→Ai .i64 μ' σ.length 0=some x.k∧Ai .i64 μ' σ.length 1=some x.a∧Ai .i64 μ' σ.length 2=some x.b∧Ai .i64 μ' σ.length 3=some x.r∧Ai .i64 μ' σ.length 4=some x.d∧Ai .i64 μ' σ.length 5=some x.c:=by
  intro μ' h
  rw[hbox] at h
  refine ⟨?_, ?_, ?_, ?_, ?_, ?_⟩ <;> simp[Ai,G1,h,B8]
 obtain ⟨l0,l1,l2,l3,l4,l5⟩:=ldq μ rfl
 rw[hμ]
 simp only[Nat.zero_add,Nat.reduceAdd,l0,Option.bind_some]
 have c1:∀ (n:Int),x.k=n→(x.k == n)=true:=fun n hq=>by simpa using hq
 have c0:∀ (n:Int),x.k≠n→(x.k == n)=false:=fun n hq=>by simpa using hq
 have gs:∀ {A:Option (Value × Aa)} {B:Aa→Option (Value × Aa)} {v:Value} {y:Wc} {m':HM},(iC m y).2=m'→(∃ σ1,A=some (v,σ1)∧Ah σ1 i m'∧BM i μ σ1)→(∀ σ1,RG σ1 j m t→Hw (B σ1) σ1 j v m') →
   ∃ σ1 σ2 j' t',A=some (v,σ1)∧B σ1=some (v,σ2)∧Uv σ2 i j' m' t' ab rb a∧lM i j j' ab rb σ σ2∧σ1[σ.length]?=μ[σ.length]?:=by
  intro A B v y m' hd hA hB
  obtain ⟨I1,I2,_,b2,_,_⟩:=iD W.w.g.inv W.w.g.inv2 W.w.h.sh y
  have hF:=oK W.w.z y
  have hBo:=W.w.b0.do y
  have hfw:=oJ m y
  rw[hd] at I1 I2 b2 hF hBo hfw
  obtain ⟨σ1,σ2,j',t',eA,eB,W2,a2,s1⟩:=fg W.w hA I1 I2 hF hBo (by omega) (by omega) hB
  obtain ⟨T2,K2⟩:=W.of W2 a2
  exact ⟨σ1,σ2,j',t',eA,eB,T2,K0.trans K2,s1 _ hlt hoff⟩
 unfold jW
 by_cases q0:x.k=0
 ·rw[if_pos q0]
  obtain ⟨σ1,σ2,j',t',e1,e2,W2,K2,s1⟩:=kk k hk W hb x.r x.d x.c
  obtain ⟨_,m1,m2,m3,m4,m5⟩:=ldq σ1 (s1 _ hlt hoff hna)
  refine ⟨σ2,j',t', ?_,W2,K0.trans K2⟩
  simp only[c1 0 q0,cond_true,l3,l4,l5,Option.bind_some,e1,Ed,m3,m4,m5,e2,beq_self_eq_true]
 rw[if_neg q0]
 simp only[c0 0 q0,cond_false]
 by_cases q1:x.k=1
 ·rw[if_pos q1]
  obtain ⟨τ,e1⟩:=sv (k+10) (by omega) W.w.g x.a h2
  have W1:=W.app τ
  have hin:=qQ W.w.g.nt x.a
  have K1:lM i j j ab rb σ (μ++τ):=K0.trans (lM.app _ _ _ _ _ _)
  obtain ⟨I1,I2,_,b2,_,_⟩:=iD W.w.g.inv W.w.g.inv2 W.w.h.sh ⟨5,TG m x.a,0,0,0,0,0⟩
  have hF:=oK W.w.z ⟨5,TG m x.a,0,0,0,0,0⟩
  have hBo:=W.w.b0.do ⟨5,TG m x.a,0,0,0,0,0⟩
  have hfw:=oJ m ⟨5,TG m x.a,0,0,0,0,0⟩
  have hd:iC m ⟨5,TG m x.a,0,0,0,0,0⟩=Pv m (TG m x.a):=by unfold iC; simp
  rw[hd] at I1 I2 b2 hF hBo hfw
  obtain ⟨σ1,σ2,j',t',eA,eB,W2,a2,s1⟩:=fg (A:=DO (k+13) (CW i) (TG m x.a) (μ++τ)) (B:=fun μ=>Fw (k+13) (Cg j) (TG m x.a) μ) W1.w (mK (k+1) W1.w.h W1.w.g.inv (TG m x.a) hin) I1 I2 hF hBo (by omega) (by omega) (fun σ1 g=>pL (k+9) (by omega) g W1.w.P W1.w.h.sh (TG m x.a))
  obtain ⟨T2,K2⟩:=W1.of W2 a2
  have eB':Fw (k+13) (Cg j) (TG m x.a) σ1=_:=eB
  refine ⟨σ2,j',t', ?_,T2,K1.trans K2⟩
  simp only[c1 1 q1,cond_true,l1,Option.bind_some,e1,Am,eA,eB',beq_self_eq_true]
 rw[if_neg q1]
 simp only[c0 1 q1,cond_false]
 by_cases q2:x.k=2
 ·rw[if_pos q2]
  obtain ⟨σ1,e1,A1,o1⟩:=mQ (k+11) W.al
  have R1:Ug σ1 j rb m t a:=⟨W.w.g.CX (fun q hq=>o1.same q (W.w.g.at_.lt q hq) fun e=>W.abj (by rw[← e]; exact hq)) o1.len,W.w.P,W.w.tq,W.rl.CX (o1.same rb (Ae W.rl) fun e=>W.ne e.symm) rfl,W.rbj⟩
  obtain ⟨σ2,e2,R2,o2⟩:=nW (k+10) R1
  have hh:Ah σ2 i m:=W.w.h.CX fun q hq=>by
   have hql:=W.w.h.lt q hq
   rw[o2.same q (by have:=o1.len; omega) (fun e=>W.rbi (by rw[← e]; exact hq)),o1.same q hql (fun e=>W.abi (by rw[← e]; exact hq))]
  refine ⟨σ2,j,t, ?_,⟨⟨hh,R2.g,R2.P,W.w.z,W.w.b0,W.w.off,W.w.br,W.w.fl⟩,A1.CX (o2.same ab (Ae A1) W.ne),R2.al,W.abi,W.abj,W.rbi,W.rbj,W.ne,⟨W.ok.s0,W.ok.p0,by unfold AS.zero; dsimp only; omega,by unfold AS.zero; dsimp only; omega,by unfold AS.zero; dsimp only; omega,by unfold AS.zero; dsimp only; omega⟩⟩,K0.trans ⟨Nat.le_trans o1.len o2.len,fun q h1 _ _ h4 h5=>by rw[o2.same q (by have:=o1.len; omega) h5,o1.same q h1 h4],fun _ h=>.inl h,rfl⟩⟩
  simp only[c1 2 q2,cond_true,e1,Option.bind_some,JG,e2,if_true]
 rw[if_neg q2]
 simp only[c0 2 q2,cond_false]
 by_cases q4:x.k=4
 ·rw[if_pos q4]
  obtain ⟨σ1,σ2,j',t',eA,eB,T2,K2,s1⟩:=gs (A:=Cp (k+13) (CW i) x.a x.b μ) (B:=fun μ=>CR (k+13) (Cg j) x.a x.b μ) (y:=⟨0,x.a,x.b,0,0,0,0⟩) (by unfold iC; simp) (aK (k+6) (by omega) W.w.h x.a x.b h2) (fun σ1 g=>fj (k+11) g W.w.P W.w.z x.a x.b)
  obtain ⟨_,m1,m2,m3,m4,m5⟩:=ldq σ1 s1
  have eB':CR (k+13) (Cg j) x.a x.b σ1=_:=eB
  have kp:∀ {ρ:Type} (y:Option ρ),SL (some ⟨σ.length,0,none⟩) μ σ1 y=y:=fun y=>YU s1 y
  refine ⟨σ2,j',t', ?_,T2,K2⟩
  simp only[c1 4 q4,cond_true,l1,l2,Option.bind_some,eA,Am,kp,m1,m2,eB',beq_self_eq_true,show (Bm.ret=Bm.normal)=False from by simp,if_false,if_true,Sm]
 rw[if_neg q4]
 simp only[c0 4 q4,cond_false]
 by_cases q5:x.k=5
 ·rw[if_pos q5]
  obtain ⟨σ1,σ2,j',t',eA,eB,T2,K2,s1⟩:=gs (A:=FA (k+13) (CW i) x.a μ) (B:=fun μ=>Eu (k+13) (Cg j) x.a μ) (y:=⟨2,x.a,0,0,0,0,0⟩) (by unfold iC; simp) (gf (k+6) (by omega) W.w.h x.a) (fun σ1 g=>jo (k+10) (by omega) g W.w.P x.a)
  obtain ⟨_,m1,m2,m3,m4,m5⟩:=ldq σ1 s1
  have eB':Eu (k+13) (Cg j) x.a σ1=_:=eB
  have kp:∀ {ρ:Type} (y:Option ρ),SL (some ⟨σ.length,0,none⟩) μ σ1 y=y:=fun y=>YU s1 y
  refine ⟨σ2,j',t', ?_,T2,K2⟩
  simp only[c1 5 q5,cond_true,l1,Option.bind_some,eA,Am,kp,m1,eB',beq_self_eq_true,show (Bm.ret=Bm.normal)=False from by simp,if_false,if_true,Sm]
 rw[if_neg q5]
 simp only[c0 5 q5,cond_false]
 by_cases q6:x.k=6
 ·rw[if_pos q6]
  obtain ⟨σ1,σ2,j',t',eA,eB,T2,K2,s1⟩:=gs (A:=Cq (k+13) (CW i) x.a x.r x.d x.c μ) (B:=fun μ=>D6 (k+13) (Cg j) x.a x.r x.d x.c μ) (y:=⟨4,x.a,0,0,x.r,x.d,x.c⟩) (by unfold iC; simp) (hU (k+1) (by omega) W.w.h W.w.g.inv (by omega) x.a x.r x.d x.c h2) (fun σ1 g=>fq (k+8) (by omega) g W.w.P W.w.h.sh (by omega) x.a x.r x.d x.c)
  obtain ⟨_,m1,m2,m3,m4,m5⟩:=ldq σ1 s1
  have eB':D6 (k+13) (Cg j) x.a x.r x.d x.c σ1=_:=eB
  refine ⟨σ2,j',t', ?_,T2,K2⟩
  simp only[c1 6 q6,cond_true,l1,l3,l4,l5,Option.bind_some,eA,Ed,m1,m3,m4,m5,eB',beq_self_eq_true,show (Bm.ret=Bm.normal)=False from by simp,if_false,if_true,Sm]
 rw[if_neg q6]
 simp only[c0 6 q6,cond_false]
 by_cases q7:x.k=7
 ·rw[if_pos q7]
  obtain ⟨σ1,σ2,j',t',eA,eB,T2,K2,s1⟩:=gs (A:=G3 (k+13) (CW i) x.a x.b μ) (B:=fun μ=>ER (k+13) (Cg j) x.a x.b μ) (y:=⟨3,x.a,x.b,0,0,0,0⟩) (by unfold iC; simp) (ke (k+8) (by omega) W.w.h x.a x.b) (fun σ1 g=>nO (k+10) (by omega) g W.w.P x.a x.b)
  obtain ⟨_,m1,m2,m3,m4,m5⟩:=ldq σ1 s1
  have eB':ER (k+13) (Cg j) x.a x.b σ1=_:=eB
  have kp:∀ {ρ:Type} (y:Option ρ),SL (some ⟨σ.length,0,none⟩) μ σ1 y=y:=fun y=>YU s1 y
  refine ⟨σ2,j',t', ?_,T2,K2⟩
  simp only[c1 7 q7,cond_true,l1,l2,Option.bind_some,eA,Am,kp,m1,m2,eB',beq_self_eq_true,show (Bm.ret=Bm.normal)=False from by simp,if_false,if_true,Sm]
 rw[if_neg q7]
 simp only[c0 7 q7,cond_false,Option.bind_some,if_true]
 exact ⟨μ,j,t,rfl,W,K0⟩
theorem aX (k:Nat) (hA:Ch σ ab i a):CQ (k+2) (DC ab) σ=some (.tuple #[.int .i64 a.c,.int .i64 a.l,.int .i64 a.oc,.int .i64 a.ol],σ):=by
 rw[Qg,LQ]
 simp only[aZ _ hA,Option.bind_some,Au,Bool.not_true,cond_false,Nat.zero_add,Nat.add_zero,Nat.reduceAdd,hA.l3,hA.l4,hA.l5,hA.l6]
end Go.Proofs.YtlaplcglpnlieaaGreat
end
section
namespace Go.Proofs.YtlaplcglpnlieaaGreat
open Go Go.AX
noncomputable local instance wx:AK:=As
local instance vc:Kn:=⟨true⟩
variable {σ:Aa} {m:HM} {t:RM} {i:C9} {j:RI} {ab rb:Nat} {a:AS}
theorem jh (k:Nat) (h:RG σ j m t) (s p:Int):KR (k+2) (Cg j) s p σ=(if (0≤s∧s<8)∧(0≤p∧p<5) then some (.tuple #[.pointer (DC σ.length),.int .i64 0],σ++[AY.cells ((⟨s,p,0,0,0,0⟩:AS).row j.hb) C0 true]) else some (.tuple #[.pointer none,.int .i64 1],σ)):=by
 rw[bE,Zz]
 simp only[I9 k h,Option.bind_some,Au,Bool.not_true,cond_false]
 by_cases h1:s<0
 ·simp only[decide_eq_true h1,Option.bind_some,cond_true,if_neg (show ¬ ((0≤s∧s<8)∧(0≤p∧p<5)) by omega)]
 simp only[decide_eq_false h1,Option.bind_some,cond_false]
 by_cases h2:s≥8
 ·simp only[decide_eq_true h2,Option.bind_some,cond_true,if_neg (show ¬ ((0≤s∧s<8)∧(0≤p∧p<5)) by omega)]
 simp only[decide_eq_false h2,Option.bind_some,cond_false]
 by_cases h3:p<0
 ·simp only[decide_eq_true h3,Option.bind_some,cond_true,if_neg (show ¬ ((0≤s∧s<8)∧(0≤p∧p<5)) by omega)]
 simp only[decide_eq_false h3,Option.bind_some,cond_false]
 by_cases h4:p>4
 ·simp only[decide_eq_true h4,cond_true,if_neg (show ¬ ((0≤s∧s<8)∧(0≤p∧p<5)) by omega)]
 ·simp only[decide_eq_false h4,cond_false,if_pos (show (0≤s∧s<8)∧(0≤p∧p<5) by omega),Ao]
  rfl
theorem eC (k:Nat) (s:En) (σ:Aa):LV (k+1) s σ=some (.bool (decide (((s.2.1:Nat):Int)>80)),σ):=by
 rw[YH,Wv]
theorem mi (k:Nat) (b:Int) (σ:Aa):Pk (k+1) b σ=some (.bool (decide (b≤12∨b>64)),σ):=by
 rw[bB,Zw]
 by_cases q:b≤12
 ·simp[q]
 ·simp[q]
theorem TB (k:Nat) (σ:Aa):Fp (k+1) σ=some (.bool true,σ):=YG k σ
theorem lU {p:Option Addr} {l:List Yv} (h:Ro Zv σ p l) {x:Nat} (hx:x<l.length):∃ q,p=some ⟨q,0,none⟩∧q<σ.length∧Ai .i64 σ q (x*6)=some l[x].k∧Ai .i64 σ q (x*6+1)=some l[x].a∧Ai .i64 σ q (x*6+2)=some l[x].b∧Ai .i64 σ q (x*6+3)=some l[x].r∧Ai .i64 σ q (x*6+4)=some l[x].d∧Ai .i64 σ q (x*6+5)=some l[x].c:=by
 obtain ⟨q,h1,h2,h3⟩:=h.ld ie hx
 have key:∀ z v,z<6→(Zv.cells l[x])[z]?=some (.int .i64 v)→Ai .i64 σ q (x*6+z)=some v:=by
  intro z v hz hv
  have:=h3 z hz
  unfold Ai
  rw[show G1 σ q (x*6+z)=_ from this,hv]
  rfl
 exact ⟨q,h1,h2,key 0 _ (by decide) rfl,key 1 _ (by decide) rfl,key 2 _ (by decide) rfl,key 3 _ (by decide) rfl,key 4 _ (by decide) rfl,key 5 _ (by decide) rfl⟩
theorem qG (W:Uv σ i j m t ab rb a) (hb:m.births<1000) (x:Yv):(jW m a x).1.births≤m.births+1∧(jW m a x).1.fw=m.fw∧(jW m a x).1.bls.length=m.bls.length:=by
 have I:=W.w.g.inv; have I2:=W.w.g.inv2; have hS:=W.w.h.sh
 unfold jW
 split
 ·have ok:=kh W hb x.r x.d x.c
  exact ⟨ok.b2,dL (pG m a _),ok.len⟩
 split
 ·have k:=cb I I2 hS (TG m x.a)
  exact ⟨k.b2,by unfold Pv Ml; split <;> rfl,k.len⟩
 split
 ·exact ⟨by dsimp only; omega,rfl,rfl⟩
 split
 ·have k:=MW I I2 x.a 1 1 x.b 0 0
  exact ⟨k.b2,SB _ _ _ _ _ _ _,k.len⟩
 split
 ·have k:=WG I I2 x.a
  exact ⟨k.b2,by unfold GM; split <;> (first | rfl | (split <;> rfl)),k.len⟩
 split
 ·have k:=RF I I2 hS x.a x.r x.d x.c
  exact ⟨k.b2,by unfold Bv; split <;> (first | rfl | (split <;> rfl)),k.len⟩
 split
 ·have k:=ZI I I2 x.a x.b
  exact ⟨k.b2,by unfold LK; split <;> rfl,k.len⟩
 ·exact ⟨by dsimp only; omega,rfl,rfl⟩
end Go.Proofs.YtlaplcglpnlieaaGreat
end
section
namespace Go.Proofs.YtlaplcglpnlieaaGreat
open Go Go.AX
noncomputable local instance wy:AK:=As
local instance vd:Kn:=⟨true⟩
variable {σ:Aa} {m:HM} {t:RM} {i:C9} {j:RI} {ab rb:Nat} {a:AS}
theorem rV (W:Uv σ i j m t ab rb a) (hb:m.births<1000) (x:Yv):(jW m a x).2.s=a.s∧(jW m a x).2.p=a.p:=by
 unfold jW
 split
 ·have ok:=kh W hb x.r x.d x.c
  exact ⟨ok.s,ok.p⟩
 split
 ·exact ⟨rfl,rfl⟩
 split
 ·exact ⟨rfl,rfl⟩
 split
 ·exact ⟨rfl,rfl⟩
 split
 ·exact ⟨rfl,rfl⟩
 split
 ·exact ⟨rfl,rfl⟩
 split
 ·exact ⟨rfl,rfl⟩
 ·exact ⟨rfl,rfl⟩
structure Mk (σ σ':Aa) (i:C9) (ab:Nat) (m:HM) (a:AS) (s q:Int):Prop where
 h:Ah σ' i m
 al:Ch σ' ab i a
 off:ab ∉ i.l
 ok:a.ok
 M:Sr m
 br:m.births≤80
 lo:∀ x ∈ i.l,σ.length≤x
 loa:σ.length≤ab
 same:∀ x,x<σ.length→σ'[x]?=σ[x]?
 len:σ.length≤σ'.length
 es:a.s=s
 ep:a.p=q
theorem cm {Q:HM→AS→Prop} (hQ:∀ m a x,Sr m→a.ok→m.births<1000→Q m a→Q (jW m a x).1 (jW m a x).2) (k:Nat) (hk:70000≤k) {σ0:Aa} {p:Option Addr} {c2:Nat} {l:List Yv} (hl:l.length≤80) (hok:∀ y ∈ l,y.ok) (S:Ro Zv σ0 p l):∀ (n x f:Nat) (σ:Aa) (i:C9) (j:RI) (m:HM) (t:RM) (ab rb:Nat) (a:AS),Uv σ i j m t ab rb a→(∀ q,q<σ0.length→q ∉ i.l∧q ∉ j.l)→σ0.length≤ab→σ0.length≤rb→(∀ q,q<σ0.length→σ[q]?=σ0[q]?)→σ0.length≤σ.length→x+n=l.length→m.births≤x→m.fw.length=0→n<f→Q m a →
  ∃ σ' j' m' t' a',GG (k+16) f p l.length c2 (CW i) (DC ab) (Cg j) (DC rb) (x:Int) σ=some (.exit 0,[],σ')∧Uv σ' i j' m' t' ab rb a'∧(∀ q,q<σ0.length→σ'[q]?=σ0[q]?)∧σ0.length≤σ'.length∧m'.births≤l.length∧a'.s=a.s∧a'.p=a.p∧Q m' a'
 | n,x,0,σ,i,j,m,t,ab,rb,a,W,h1,h2,h3,h4,h5,hx,hb,hw,hf,hq=>by omega
 | 0,x,f+1,σ,i,j,m,t,ab,rb,a,W,h1,h2,h3,h4,h5,hx,hb,hw,hf,hq=>by
   rw[QC,P8]
   exact ⟨σ,j,m,t,a,by simp only[decide_eq_false (show ¬ (x:Int)<((l.length:Nat):Int) by omega),cond_false],W,h4,h5,by omega,rfl,rfl,hq⟩
 | n+1,x,f+1,σ,i,j,m,t,ab,rb,a,W,h1,h2,h3,h4,h5,hx,hb,hw,hf,hq=>by
   have hxl:x<l.length:=by omega
   obtain ⟨q0,rfl,hq0,_⟩:=lU S hxl
   have qx:(0≤(x:Int)∧(x:Int)<((l.length:Nat):Int))=True:=eq_true (by omega)
   have w1:Ad ((x:Int)+1)=((x+1:Nat):Int):=Ac (by unfold AN; omega)
   obtain ⟨q',e',_,f0,f1,f2,f3,f4,f5⟩:=lU (S.CX h4) hxl
   cases e'
   obtain ⟨σ1,j2,t2,e1,W2,K2⟩:=pF (k+2) (by omega) W (by omega) (by omega) l[x] (hok _ (List.getElem_mem _))
   have hbr:=qG W (by omega) l[x]
   have hsp:=rV W (by omega) l[x]
   obtain ⟨σ',j3,m3,t3,a3,e3,W3,s3,l3,b3,p3,p4,q4⟩:=cm hQ k hk (c2:=c2) hl hok S n (x+1) f σ1 i j2 _ t2 ab rb _ W2 (fun q hq=>⟨(h1 q hq).1,fun hm=>by
    rcases K2.new q hm with h | h
    ·exact (h1 q hq).2 h
    ·omega⟩) h2 h3 (fun q hq=>by rw[K2.same q (by omega) (h1 q hq).1 (h1 q hq).2 (by omega) (by omega)]; exact h4 q hq) (by have:=K2.len; omega) (by omega) (by omega) (by rw[hbr.2.1]; exact hw) (by omega) (hQ _ _ _ W.w.tq W.ok (by omega) hq)
   rw[show Cg j2=Cg j from by unfold Cg; rw[K2.hb]] at e3
   refine ⟨σ',j3,m3,t3,a3, ?_,W3,s3,l3,b3,p3.trans hsp.1,p4.trans hsp.2,q4⟩
   rw[QC,P8]
   simp only[decide_eq_true (show (x:Int)<((l.length:Nat):Int) by omega),cond_true,Option.bind_some,qx,if_true,Int.toNat_natCast,Nat.zero_add,Nat.add_zero,Nat.add_assoc,Nat.reduceAdd,f0,f1,f2,f3,f4,f5,e1,Au,w1]
   exact e3
theorem nv {Q:HM→AS→Prop} (hQ:∀ m a x,Sr m→a.ok→m.births<1000→Q m a→Q (jW m a x).1 (jW m a x).2) (hQ0:∀ n s q,Q (Np n) ⟨s,q,0,0,0,0⟩) (k:Nat) (hk:1000000≤k) (b:Int) (s:Int) (q:Int) (p:Option Addr) (c2:Nat) (l:List Yv) (hok:∀ y ∈ l,y.ok) (S:Ro Zv σ p l):
  (∃ σ',Lj (k+18) b s q (p,l.length,c2) σ=some (.tuple #[.pointer none,.pointer none],σ')) ∨
  (∃ σ' i ab m a,Lj (k+18) b s q (p,l.length,c2) σ=some (.tuple #[.pointer (CW i),.pointer (DC ab)],σ')∧Mk σ σ' i ab m a s q∧Q m a):=by
 rw[ZY,X3]
 by_cases g2:2≤b∧b≤64
 rotate_left
 ·left
  have e1:GF (k+17) b σ=_:=qt (k+16) b g2 σ
  simp only[e1,Option.bind_some,VU,eC,mi,Au]
  by_cases g0:((l.length:Nat):Int)>80
  ·simp only[decide_eq_true g0,cond_true,Option.bind_some]
   exact ⟨_,rfl⟩
  simp only[decide_eq_false g0,cond_false,Option.bind_some]
  by_cases g1:b≤12∨b>64
  ·simp only[decide_eq_true g1,Bool.not_true,cond_false,Option.bind_some,show ((1:Int) != 0)=true from rfl,cond_true]
   exact ⟨_,rfl⟩
  ·simp only[decide_eq_false g1,Bool.not_false,cond_true,Option.bind_some]
   exact ⟨_,rfl⟩
 obtain ⟨n,rfl⟩:∃ n:Nat,b=(n:Int):=⟨b.toNat,by omega⟩
 obtain ⟨σ1,i,e1,h1,lo1,k1⟩:=rR (k+12) (n:=n) (by omega) (by omega) σ
 have e1':GF (k+17) (n:Int) σ=_:=e1
 simp only[e1',Option.bind_some,VU,eC,mi,Au]
 by_cases g0:((l.length:Nat):Int)>80
 ·simp only[decide_eq_true g0,cond_true,Option.bind_some]
  exact .inl ⟨_,rfl⟩
 simp only[decide_eq_false g0,cond_false,Option.bind_some]
 by_cases g1:(n:Int)≤12∨(n:Int)>64
 rotate_left
 ·simp only[decide_eq_false g1,Bool.not_false,cond_true,Option.bind_some]
  exact .inl ⟨_,rfl⟩
 simp only[decide_eq_true g1,Bool.not_true,cond_false,Option.bind_some,bne_self_eq_false]
 obtain ⟨σ2,e3,τ3,rfl⟩:=ql (k+14) h1 s q
 have e3':GY (k+17) (CW i) s q σ1=_:=e3
 by_cases g3:(0≤s∧s<8)∧(0≤q∧q<5)
 rotate_left
 ·rw[if_neg g3] at e3'
  obtain ⟨τ,j,e2,r2,lo2⟩:=m7 (k+16) (n:=n) (by omega) (by omega) (σ1++τ3)
  have e2':KQ (k+17) (n:Int) (σ1++τ3)=_:=e2
  have hg:RG (σ1++τ3++τ) j (Np n) ⟨List.replicate n (0,0),[],[],0⟩:=⟨r2,St.new n,Inv.new n,Inv2.new n,h1.wl,h1.nb,h1.nt⟩
  have e4:=jh (k+15) hg s q
  rw[if_neg g3] at e4
  have e4':KR (k+17) (Cg j) s q (σ1++τ3++τ)=_:=e4
  simp only[e3',Option.bind_some,VU,e2',e4',show ((1:Int) != 0)=true from rfl,cond_true]
  exact .inl ⟨_,rfl⟩
 rw[if_pos g3] at e3'
 obtain ⟨σ3,hσ3⟩:∃ σ3,σ1++τ3++[AY.cells ((⟨s,q,0,0,0,0⟩:AS).row i.hb) AV true]=σ3:=⟨_,rfl⟩
 have hA3:σ3[(σ1++τ3).length]?=some (AY.cells ((⟨s,q,0,0,0,0⟩:AS).row i.hb) AV true):=by rw[← hσ3]; simp
 have h3:Ah σ3 i (Np n):=hσ3 ▸ (h1.app _).app _
 rw[hσ3] at e3'
 have hl3:σ3.length=(σ1++τ3).length+1:=by rw[← hσ3]; simp; omega
 have hlm:σ1.length≤(σ1++τ3).length:=by simp
 have hls:=k1.len
 obtain ⟨τ,j,e2,r2,lo2⟩:=m7 (k+16) (n:=n) (by omega) (by omega) σ3
 have e2':KQ (k+17) (n:Int) σ3=_:=e2
 obtain ⟨σ4,hσ4⟩:∃ σ4,σ3++τ=σ4:=⟨_,rfl⟩
 rw[hσ4] at e2' r2
 have hl4:σ3.length≤σ4.length:=by rw[← hσ4]; simp
 have hA4:σ4[(σ1++τ3).length]?=some (AY.cells ((⟨s,q,0,0,0,0⟩:AS).row i.hb) AV true):=by rw[← hσ4,List.getElem?_append_left (by omega)]; exact hA3
 have W:qh σ4 i j (Np n) ⟨List.replicate n (0,0),[],[],0⟩:=⟨hσ4 ▸ h3.app τ,⟨r2,St.new n,Inv.new n,Inv2.new n,h1.wl,h1.nb,h1.nt⟩,Oo.new n,FZ.new n,B0.new n,fun q hq hm=>by have:=h3.lt q hq; have:=lo2 q hm; omega,by show (0:Int)≤1000; decide,by show 0≤1000; omega⟩
 have e4:=jh (k+15) W.g s q
 rw[if_pos g3] at e4
 have e4':KR (k+17) (Cg j) s q σ4=_:=e4
 obtain ⟨σ5,hσ5⟩:∃ σ5,σ4++[AY.cells ((⟨s,q,0,0,0,0⟩:AS).row j.hb) C0 true]=σ5:=⟨_,rfl⟩
 rw[hσ5] at e4'
 have hl5:σ5.length=σ4.length+1:=by rw[← hσ5]; simp
 have hlo:∀ x ∈ i.l,σ.length≤x∧x<σ1.length:=fun x hx=>⟨lo1 x hx,h1.lt x hx⟩
 have hlo2:∀ x ∈ j.l,σ3.length≤x∧x<σ4.length:=fun x hx=>⟨lo2 x hx,W.g.at_.lt x hx⟩
 have W5:Uv σ5 i j (Np n) ⟨List.replicate n (0,0),[],[],0⟩ (σ1++τ3).length σ4.length ⟨s,q,0,0,0,0⟩:=by
  refine ⟨hσ5 ▸ W.app _, ?_, ?_,fun hm=>?_,fun hm=>?_,fun hm=>?_,fun hm=>?_,by omega,⟨g3.1,g3.2,by dsimp only; omega,by dsimp only; omega,by dsimp only; omega,by dsimp only; omega⟩⟩
  ·unfold Ch; rw[← hσ5,List.getElem?_append_left (by omega)]; exact hA4
  ·unfold K8; rw[← hσ5]; simp
  ·have:=hlo _ hm; omega
  ·have:=hlo2 _ hm; omega
  ·have:=hlo _ hm; omega
  ·have:=hlo2 _ hm; omega
 have s5:∀ x,x<σ.length→σ5[x]?=σ[x]?:=fun x hx=>by
  rw[← hσ5,List.getElem?_append_left (by omega),← hσ4,List.getElem?_append_left (by omega),← hσ3,List.append_assoc,List.getElem?_append_left (by omega)]
  exact k1.same x hx fun hm=>by have:=lo1 x hm; omega
 obtain ⟨σ',j',m',t',a',e5,W6,s6,l6,b6,p6,p7,q7⟩:=cm hQ (k+1) (by omega) (c2:=c2) (by omega) hok S l.length 0 (k+17) σ5 i j (Np n) _ _ _ _ W5 (fun x hx=>⟨fun hm=>by have:=hlo x hm; omega,fun hm=>by have:=hlo2 x hm; omega⟩) (by omega) (by omega) s5 (by omega) (by omega) (Int.le_refl _) rfl (by omega) (hQ0 _ _ _)
 have e5':GG (k+17) (k+17) p l.length c2 (CW i) (DC (σ1++τ3).length) (Cg j) (DC σ4.length) 0 σ5=_:=e5
 simp only[e3',Option.bind_some,VU,e2',e4',bne_self_eq_false,cond_false,e5',if_true]
 exact .inr ⟨σ',i,_,m',a',rfl,⟨W6.w.h,W6.al,W6.abi,W6.ok,W6.w.tq,by omega,lo1,by omega,s6,l6,p6,p7⟩,q7⟩
end Go.Proofs.YtlaplcglpnlieaaGreat
end
section
namespace Go.Proofs.YtlaplcglpnlieaaGreat
open Go Go.AX
noncomputable local instance wz:AK:=As
local instance ve:Kn:=⟨true⟩
variable {σ:Aa} {m:HM} {i:C9} {ab:Nat} {a:AS}
def Hb (l:List (Int × Int)):List Int:=l.flatMap fun p=>[p.1,p.2]
theorem JE (l:List (Int × Int)):(Hb l).length=2*l.length:=by
 induction l with
 | nil=>rfl
 | cons p l ih=>simp only[Hb,List.flatMap_cons,List.length_append,List.length_cons,List.length_nil] at ih ⊢; omega
theorem EP.tail {σ':Aa} {s':En} (g:EP σ (none,0,0) σ' s'):(∃ τ,σ'=σ++τ) ∧ ∀ a,s'.1=some a→σ.length≤a.block:=by
 refine ⟨⟨σ'.drop σ.length, ?_⟩, ?_⟩
 ·refine List.ext_getElem? fun q=>?_
  by_cases h:q<σ.length
  ·rw[List.getElem?_append_left h]
   exact g.same q h fun a ha=>by cases ha
  ·rw[List.getElem?_append_right (by omega),List.getElem?_drop]
   congr 1; omega
 ·rcases g.new with rfl | h
  ·intro a ha; cases ha
  ·exact h
theorem WL (k:Nat):∀ (n x f:Nat) (σ:Aa) (s:En) (l:List Int),Ah σ i m→sN i s→AL 0 σ s l→l.length=2*x→x+n=m.bls.length→n<f →
  ∃ σ' s',G5 (k+3) f (CW i) s (x:Int) σ=some (.exit 0,[.slice s'.1 s'.2.1 s'.2.2],σ')∧EP σ s σ' s'∧AL 0 σ' s' (l++Hb (m.bls.drop x))
 | 0,x,0,σ,s,l,h,ho,hl,hln,hx,hf=>by omega
 | 0,x,f+1,σ,s,l,h,ho,hl,hln,hx,hf=>by
   rw[Pn,Ny]
   have q:decide ((x:Int)<((m.bls.length:Nat):Int))=false:=decide_eq_false (by omega)
   refine ⟨σ,s,by simp only[JR _ h,Am,Option.bind_some,q,cond_false],EP.refl _ _, ?_⟩
   rw[List.drop_eq_nil_of_le (by omega)]
   simpa [Hb] using hl
 | n+1,x,0,σ,s,l,h,ho,hl,hln,hx,hf=>by omega
 | n+1,x,f+1,σ,s,l,h,ho,hl,hln,hx,hf=>by
   have ht:=h.nt
   have hxl:x<m.bls.length:=by omega
   have q:decide ((x:Int)<((m.bls.length:Nat):Int))=true:=decide_eq_true (by omega)
   obtain ⟨s1,σ1,eA,g0,i1⟩:=mz σ s l [(m.bls.getD x (0,0)).1,(m.bls.getD x (0,0)).2] 2 (by simp only[List.length_cons,List.length_nil]; omega) hl (by simp)
   obtain ⟨h1,o1⟩:=g0.heap h ho
   obtain ⟨σ2,s2,e2,g2,i2⟩:=WL k n (x+1) f σ1 s1 _ h1 o1 i1 (by simp; omega) (by omega) (by omega)
   refine ⟨σ2,s2, ?_,g0.trans g2, ?_⟩
   ·rw[Pn,Ny]
    have w1:Ad ((x:Int)+1)=((x+1:Nat):Int):=Ac (by unfold AN; omega)
    have eA':Bo P Bk s (some ⟨σ.length,0,none⟩,2,2) (σ++[.cells [.int .i64 (m.bls.getD x (0,0)).1,.int .i64 (m.bls.getD x (0,0)).2] Bk true])=some (s1,σ1):=eA
    simp only[JR _ h,Am,Option.bind_some,q,cond_true,ib _ h hxl,aV _ h hxl,Ao,eA',w1]
    exact e2
   ·rw[List.append_assoc] at i2
    rw[List.drop_eq_getElem_cons hxl,Hb,List.flatMap_cons]
    have:m.bls.getD x (0,0)=m.bls[x]:=by simp[List.getElem?_eq_getElem hxl]
    rw[this] at i2
    exact i2
theorem dc (k:Nat) (hk:5000≤k) (h:Ah σ i m):∃ τ s,Hm (k+4) (CW i) σ=some (.slice s.1 s.2.1 s.2.2,σ++τ)∧AL σ.length (σ++τ) s (Hb m.bls):=by
 have ht:=h.nt
 obtain ⟨σ',s,e,g,hs⟩:=WL k m.bls.length 0 (k+3) σ (none,0,0) [] h (fun a ha=>by cases ha) (.inl ⟨rfl,rfl⟩) rfl (by omega) (by omega)
 obtain ⟨⟨τ,rfl⟩,hn⟩:=g.tail
 refine ⟨τ,s, ?_, ?_⟩
 ·rw[show ((0:Nat):Int)=0 from rfl] at e
  rw[XD,Vb]
  simp only[e,Option.bind_some,if_true,Gj]
 ·rw[List.nil_append,List.drop_zero] at hs
  exact hs.up hn
def SR (m:HM):List (Int × Int):=(BV m).map fun j=>(((2*j:Nat):Int),m.wds.getD (2*j) 0)
theorem V5 (k:Nat) (hI:Inv m) {p:Option Addr} {c c2:Nat} (hpA:∀ σ',(∀ q,p=some ⟨q,0,none⟩→σ'[q]?=σ[q]?)→AL 0 σ' (p,c,c2) (DE (BV m))) (hc:c=(BV m).length):∀ (n x f:Nat) (σ':Aa) (s:En) (l:List Int),Ah σ' i m→(∀ q,p=some ⟨q,0,none⟩→σ'[q]?=σ[q]?∧q<σ'.length)→sN i s→(∀ q,p=some ⟨q,0,none⟩ → ∀ a,s.1=some a→a.block≠q)→AL 0 σ' s l→l.length=2*x→x+n=(BV m).length→(BV m).length≤2048→n<f →
  ∃ σ'' s',Ga (k+7) f (CW i) p c c2 s (x:Int) σ'=some (.exit 0,[.slice s'.1 s'.2.1 s'.2.2],σ'')∧EP σ' s σ'' s'∧AL 0 σ'' s' (l++Hb ((SR m).drop x))
 | n,x,0,σ',s,l,h,hp,ho,hop,hl,hln,hx,hm,hf=>by omega
 | 0,x,f+1,σ',s,l,h,hp,ho,hop,hl,hln,hx,hm,hf=>by
   rw[Od,M4]
   refine ⟨σ',s,by simp only[hc,decide_eq_false (show ¬ (x:Int)<(((BV m).length:Nat):Int) by omega),cond_false],EP.refl _ _, ?_⟩
   rw[List.drop_eq_nil_of_le (by simp[SR]; omega)]
   simpa [Hb] using hl
 | n+1,x,f+1,σ',s,l,h,hp,ho,hop,hl,hln,hx,hm,hf=>by
   have hxl:x<(BV m).length:=by omega
   have hxa:x<(DE (BV m)).length:=by simpa [DE] using hxl
   have hS:=CA.1 (List.getElem_mem hxl)
   have hnt:=h.nt
   have hwl:=h.wl
   obtain ⟨b,e0,_,_,l0⟩:=ints_at (hpA σ' fun q hq=>(hp q hq).1) hxa
   cases e0
   obtain ⟨p1,p2⟩:=hp b rfl
   rw[Qs _ hxl] at l0
   have hj:=hS.1
   have hin:AN ((2*(BV m)[x]:Nat):Int):=by unfold AN; omega
   have hId:=hO (k+1) h ((2*(BV m)[x]:Nat):Int) hin
   rw[if_pos (show Pt m ((2*(BV m)[x]:Nat):Int)=true from aA hS),Int.toNat_natCast] at hId
   obtain ⟨s1,σ1,eA,g0,i1⟩:=mz σ' s l [((2*(BV m)[x]:Nat):Int),m.wds.getD (2*(BV m)[x]) 0] 2 (by simp only[List.length_cons,List.length_nil]; omega) hl (by simp)
   obtain ⟨h1,o1⟩:=g0.heap h ho
   have hb1:σ1[b]?=σ'[b]?:=g0.same b p2 fun a ha=>hop b rfl a ha
   obtain ⟨σ2,s2,e2,g2,i2⟩:=V5 k hI hpA hc n (x+1) f σ1 s1 _ h1 (fun q hq=>by
    cases hq
    exact ⟨hb1.trans p1,by have:=g0.len; omega⟩) o1 (fun q hq a ha=>by
    cases hq
    rcases g0.new with rfl | hn
    ·exact hop b rfl a ha
    ·have:=hn a ha; omega) i1 (by simp; omega) (by omega) hm (by omega)
   refine ⟨σ2,s2, ?_,g0.trans g2, ?_⟩
   ·rw[Od,M4]
    have w1:Ad ((x:Int)+1)=((x+1:Nat):Int):=Ac (by unfold AN; omega)
    have eA':Bo P Bk s (some ⟨σ'.length,0,none⟩,2,2) (σ'++[.cells [.int .i64 ((2*(BV m)[x]:Nat):Int),.int .i64 (m.wds.getD (2*(BV m)[x]) 0)] Bk true])=some (s1,σ1):=eA
    simp only[hc] at e2 ⊢
    simp only[decide_eq_true (show (x:Int)<(((BV m).length:Nat):Int) by omega),cond_true,if_pos (show (0:Int)≤(x:Int)∧(x:Int)<(((BV m).length:Nat):Int) by omega),Option.bind_some,Int.toNat_natCast,Nat.zero_add,Nat.mul_one,l0,hId,Ed,Ao,eA',w1]
    exact e2
   ·rw[List.append_assoc] at i2
    have hxo:x<(SR m).length:=by simpa [SR] using hxl
    rw[List.drop_eq_getElem_cons hxo,Hb,List.flatMap_cons]
    have:(SR m)[x]=(((2*(BV m)[x]:Nat):Int),m.wds.getD (2*(BV m)[x]) 0):=by simp[SR]
    rw[this]
    exact i2
theorem ZL (k:Nat) {s s':En} {l l':List Int} (h:AL 0 σ s l) (h':AL 0 σ s' l') (hl:l.length=l'.length) (hn:l.length≤100000):∀ (n x f:Nat),x+n=l.length→n<f →
  HD k f s.1 s.2.1 s.2.2 s'.1 s'.2.1 s'.2.2 (x:Int) σ=some (if l.drop x=l'.drop x then (.exit 0,[],σ) else (.ret,[.bool false],σ))
 | n,x,0,hx,hf=>by omega
 | 0,x,f+1,hx,hf=>by
   rw[QD,P9,h.len]
   simp only[decide_eq_false (show ¬ (x:Int)<((l.length:Nat):Int) by omega),cond_false]
   rw[List.drop_eq_nil_of_le (by omega),List.drop_eq_nil_of_le (by omega),if_pos rfl]
 | n+1,x,f+1,hx,hf=>by
   have hxl:x<l.length:=by omega
   have hxl':x<l'.length:=by omega
   obtain ⟨b,e0,_,_,l0⟩:=ints_at h hxl
   obtain ⟨b',e0',_,_,l0'⟩:=ints_at h' hxl'
   have ih:=ZL k h h' hl hn n (x+1) f (by omega) (by omega)
   have w1:Ad ((x:Int)+1)=((x+1:Nat):Int):=Ac (by unfold AN; omega)
   rw[e0,e0'] at ih ⊢
   rw[QD,P9]
   simp only[decide_eq_true (show (x:Int)<((l.length:Nat):Int) by omega),cond_true,if_pos (show (0:Int)≤(x:Int)∧(x:Int)<((l.length:Nat):Int) by omega),if_pos (show (0:Int)≤(x:Int)∧(x:Int)<((l'.length:Nat):Int) by omega),Option.bind_some,Int.toNat_natCast,Nat.zero_add,Nat.mul_one,l0,l0',w1]
   have g1:l.getD x 0=l[x]:=by simp[List.getElem?_eq_getElem hxl]
   have g2:l'.getD x 0=l'[x]:=by simp[List.getElem?_eq_getElem hxl']
   rw[List.drop_eq_getElem_cons hxl,List.drop_eq_getElem_cons hxl',g1,g2]
   by_cases q:l[x]=l'[x]
   ·rw[q]
    simp only[bne_self_eq_false,cond_false,List.cons.injEq,true_and]
    exact ih
   ·simp only[show (l[x] != l'[x])=true from bne_iff_ne.2 q,cond_true,List.cons.injEq,q,false_and,if_false]
theorem ju (k:Nat) {s s':En} {l l':List Int} {lo lo':Nat} (h:AL lo σ s l) (h':AL lo' σ s' l') (hn:l.length≤k) (hk:k≤k) (hn2:l.length≤100000):J9 (k+2) (s.1,s.2.1,s.2.2) (s'.1,s'.2.1,s'.2.2) σ=some (.bool (decide (l=l')),σ):=by
 rw[aa,X5]
 simp only[h.len,h'.len]
 by_cases q:l.length=l'.length
 ·have e:=ZL (k+1) h.um h'.um q hn2 l.length 0 (k+1) (by omega) (by omega)
  rw[h.len,h'.len,show ((0:Nat):Int)=0 from rfl,List.drop_zero,List.drop_zero] at e
  simp only[q,bne_self_eq_false,cond_false]
  rw[q] at e
  rw[e]
  by_cases r:l=l'
  ·simp[r]
  ·simp[r,Sm]
 ·have r:l≠l':=fun e=>q (by rw[e])
  simp only[show (((l.length:Nat):Int) != ((l'.length:Nat):Int))=true from bne_iff_ne.2 (by omega),cond_true,decide_eq_false r]
theorem rW (M:Sr m) (ho:a.ok) (r d c:Int):oh m a (Uh m a r d c):=
 dM M.inv M.inv2 ho (fun hv=>gC M.inv M.inv2 M.nt ho (by have:=HH hv; omega)) (fun _=>(aE M _).sh)
theorem tQ:UH P JF (.pointer none) (.pointer none)=some true:=by kernel_rfl
theorem ja (h:m.bls.length≤64):(SR m).length≤2048:=by
 have:=MP m 0 (32*m.bls.length)
 simp only[SR,BV,List.length_map]
 omega
theorem ZC (k:Nat) (hk:5000≤k) (h:Ah σ i m) (hI:Inv m):∃ τ s,GH (k+8) (CW i) σ=some (.slice s.1 s.2.1 s.2.2,σ++τ)∧AL σ.length (σ++τ) s (Hb (SR m)):=by
 have ht:=h.nt
 obtain ⟨τ1,s1,e1,h1⟩:=rN (k+1) (by omega) h
 have h1':AL σ.length (σ++τ1) s1 (DE (BV m)):=h1
 have hlen:=ja (m:=m) ht
 have hll:(BV m).length=(SR m).length:=by simp[SR]
 have key:(∃ p,s1=(p,(BV m).length,s1.2.2)):=⟨s1.1,by rw[show s1=(s1.1,s1.2.1,s1.2.2) from rfl,h1'.len]; simp[DE]⟩
 obtain ⟨σ',s,e,g,hs⟩:=V5 (i:=i) (σ:=σ++τ1) k hI (p:=s1.1) (c:=s1.2.1) (c2:=s1.2.2) (fun σ' hσ'=>by
  rcases h1' with ⟨he,rfl⟩ | ⟨b,g1,g2,g3,g4⟩
  ·exact .inl ⟨he,rfl⟩
  ·exact .inr ⟨b,Nat.zero_le _,g2,g3,by rw[hσ' b (by rw[g2]),g4]⟩) (by rw[h1'.len]; simp[DE]) (BV m).length 0 (k+7) (σ++τ1) (none,0,0) [] (h.app τ1) (fun q hq=>⟨rfl,by
   rcases h1' with ⟨he,rfl⟩ | ⟨b,g1,g2,g3,g4⟩
   ·cases hq
   ·rw[g2] at hq; cases hq; exact Ae g4⟩) (fun a ha=>by cases ha) (fun q hq a ha=>by cases ha) (.inl ⟨rfl,rfl⟩) rfl (by omega) (by omega) (by omega)
 obtain ⟨⟨τ,rfl⟩,hn⟩:=g.tail
 have e1':HC (k+7) (CW i) σ=_:=e1
 refine ⟨τ1++τ,s, ?_, ?_⟩
 ·rw[show ((0:Nat):Int)=0 from rfl] at e
  rw[WY,Uj]
  simp only[e1',Option.bind_some,Hs,e,if_true,Gj,List.append_assoc]
 ·rw[List.nil_append,List.drop_zero] at hs
  rw[← List.append_assoc]
  exact hs.up fun a ha=>by have:=hn a ha; simp at this; omega
theorem AL.same {lo:Nat} {σ':Aa} {s:En} {l:List Int} (h:AL lo σ s l) (hh:∀ q,lo≤q→q<σ.length→σ'[q]?=σ[q]?):AL lo σ' s l:=by
 rcases h with h | ⟨b,h1,h2,h3,h4⟩
 ·exact .inl h
 ·exact .inr ⟨b,h1,h2,h3,by rw[hh b h1 (Ae h4),h4]⟩
end Go.Proofs.YtlaplcglpnlieaaGreat
end
