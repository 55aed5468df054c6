/- Slices of elements of any plain kind, as they are handed in: read into the abstract memory, one behind the other.; PRINTED BY A PROGRAM OF THIS SESSIO -/
import Derived.Test.YtlaplcglpnlieaaGreatRows
import Derived.Test.YtlaplcglpnlieaaGreatChecked
import Derived.Deep.Slices
import Derived.DataShut
import Derived.Lib.SmallJoins
import Derived.Test.YtlaplcglpnlieaaGreatP12
import Derived.Test.YtlaplcglpnlieaaGreatP6
import Derived.Test.YtlaplcglpnlieaaGreatP7
import Derived.Test.YtlaplcglpnlieaaGreatP25
import Derived.Test.YtlaplcglpnlieaaGreatP20
set_option linter.unusedVariables false
set_option linter.unusedSimpArgs false
set_option linter.unusedSectionVars false
section
namespace Go.Proofs.YtlaplcglpnlieaaGreat
open Go Go.AX Go.RowKit Go.ChangeShapes Go.WideShapes Go.ChangeAt
theorem own:ownKnob Tryz.prog.godebug=none:=by kernel_rfl
theorem laidOut:laidOutB Tryz.prog=true:=by kernel_rfl
theorem kJ:Tryz.prog.underlying 3=some (.int .i64):=by kernel_rfl
theorem Vr {n:Int} (h:(Lit.int .i64 n).wf=true):AV n:=by
 rw[Lit.wf_int_iff] at h
 have h1:IntKind.i64.min = -9223372036854775808:=by decide
 have h2:IntKind.i64.max=9223372036854775807:=by decide
 rw[h1,h2] at h
 unfold AV; omega
theorem wZ {α:Type}:∀ (l:List α),l.length=3 → ∃ a b c,l=[a,b,c]
 | [a,b,c],_=>⟨a,b,c,rfl⟩
theorem xa {α:Type}:∀ (l:List α),l.length=4 → ∃ a b c d,l=[a,b,c,d]
 | [a,b,c,d],_=>⟨a,b,c,d,rfl⟩
theorem xb {α:Type}:∀ (l:List α),l.length=6 → ∃ a b c d e f,l=[a,b,c,d,e,f]
 | [a,b,c,d,e,f],_=>⟨a,b,c,d,e,f,rfl⟩
structure El (α:Type) where
 T:TypeId
 z:Nat
 cells:α→List Value
 ok:α→Prop
def plain (v:Value):Prop:=(∃ n,v = .int .i64 n) ∨ ∃ b,v = .bool b
structure pV {α:Type} (e:El α):Prop where
 zc:P.cellsOf e.T=e.z
 z0:0<e.z
 len:∀ y,(e.cells y).length=e.z
 one:∀ y,∀ v ∈ e.cells y,plain v
 rd:∀ {H:Type} {enc:TypeId × Value→H} {W:World} {base:Nat} {sp:Nat→Bool} {hd:Bool} {fuel:Nat} {cs:List Value} {x:DataW H × List MemPlace},cs.length=e.z→DataW.trod enc P W base sp hd fuel e.T cs=some x → ∃ y,e.ok y∧cs=e.cells y
def El.row {α:Type} (e:El α):List α→List Value
 | []=>[]
 | x::l=>e.cells x++e.row l
section
variable {α:Type} {e:El α}
theorem kr (he:pV e):∀ l:List α,(e.row l).length=e.z*l.length
 | []=>by simp[El.row]
 | x::l=>by
   simp only[El.row,List.length_append,kr he l,he.len,List.length_cons]
   rw[Nat.mul_add,Nat.mul_one]; omega
theorem kq (he:pV e):∀ (l:List α) (x:Nat) (hx:x<l.length) (q:Nat),q<e.z→(e.row l)[x*e.z+q]?=(e.cells l[x])[q]?
 | y::l,0,hx,q,hq=>by
   simp only[El.row,Nat.zero_mul,Nat.zero_add,List.getElem_cons_zero]
   rw[List.getElem?_append_left (by rw[he.len]; exact hq)]
 | y::l,x+1,hx,q,hq=>by
   have h1:x<l.length:=by simpa using hx
   simp only[El.row,List.getElem_cons_succ]
   have e0:(x+1)*e.z=e.z+x*e.z:=by rw[Nat.add_mul]; omega
   rw[List.getElem?_append_right (by rw[he.len,e0]; omega),he.len,← kq he l x h1 q hq]
   congr 1
   rw[e0]; omega
theorem th {μ:Mu} {v:Value} (h:plain v):RV μ v v:=by
 rcases h with ⟨n,rfl⟩ | ⟨b,rfl⟩
 ·exact .int _ _
 ·exact .bool _
theorem jo {μ:Mu}:∀ {l:List Value},(∀ v ∈ l,plain v)→KQ μ l l
 | [],_=>.nil
 | v::l,h=>.cons (th (h v (by simp))) (jo fun v hv=>h v (by simp[hv]))
theorem bU (he:pV e):∀ (l:List α),∀ v ∈ e.row l,plain v
 | [],v,h=>by simp[El.row] at h
 | x::l,v,h=>by
   simp only[El.row,List.mem_append] at h
   rcases h with h | h
   ·exact he.one x v h
   ·exact bU he l v h
theorem cA {p:Nat→α→Prop}:∀ (n:Nat),(∀ i,i<n → ∃ a,p i a) → ∃ l:List α,l.length=n ∧ ∀ i (h:i<l.length),p i l[i]
 | 0,_=>⟨[],rfl,fun i h=>by simp at h⟩
 | n+1,h=>by
   obtain ⟨l,hl,hp⟩:=cA n fun i hi=>h i (by omega)
   obtain ⟨a,ha⟩:=h n (by omega)
   refine ⟨l++[a],by simp[hl],fun i hi=>?_⟩
   by_cases hi':i<l.length
   ·rw[List.getElem_append_left hi']; exact hp i hi'
   ·have:i=l.length:=by simp at hi; omega
    subst this
    rw[List.getElem_append_right (Nat.le_refl _)]
    simp[hl]; exact ha
def vj (e:El α) (W:World) (v:Value) (l:List α):Prop:=
 (∀ x ∈ l,e.ok x)∧((l=[] ∧ ∃ pt,∀ μ,RV μ (.slice pt 0 0) v) ∨
  ∃ k,(∀ μ,jP P μ (.cells (e.row l) e.T false) k W.heap[k.b]?)∧k.b<W.heap.size ∧ ∀ μ h,μ h=some k→RV μ (.slice (some ⟨h,0,none⟩) l.length l.length) v)
set_option maxRecDepth 100000 in
theorem wu (he:pV e) {ST:TypeId} {H:Type} {enc:TypeId × Value→H} {W:World} {b0:Nat} {v:Value} {d:DataW H} {p:List MemPlace} (ht:Tryz.prog.underlying ST=some (.slice e.T)) (hval:Value.okWide Tryz.prog W .any b0 ST v) (h:DataW.Trod enc Tryz.prog W 0 (fun _=>true) true ST v d p):
  ∃ l:List α,vj e W v l:=by
 have z0:=he.z0
 obtain ⟨a0,len,cap,rfl⟩:=okWide_slice ht hval
 obtain ⟨fuel,hf⟩:=h
 rcases Go.Deep.open_slice ht hf with ⟨h1,_⟩ | ⟨a,len',cap',mm,n,D,Pl,h1,_,hlc,hcm,hmm,_,hel⟩
 ·simp[Value.cells] at h1
  obtain ⟨rfl,rfl,rfl⟩:=h1
  exact ⟨[],(fun x hx=>by simp at hx),.inl ⟨rfl,none,fun _=>.sliceNil⟩⟩
 ·simp[Value.cells] at h1
  obtain ⟨rfl,rfl,rfl⟩:=h1
  have hm:mm=cap:=by simpa using hmm
  subst hm
  by_cases hc0:mm=0
  ·subst hc0
   obtain rfl:len=0:=by omega
   exact ⟨[],(fun x hx=>by simp at hx),.inl ⟨rfl,some ⟨0,0,some 0⟩,fun _=>.sliceZ a rfl⟩⟩
  have hcells:∀ q,q<mm → ∃ cs',W.cells? 0 (a.add (q*e.z)) e.z=some cs' ∧ ∃ y:α,e.ok y∧cs'=e.cells y:=by
   intro q hq
   obtain ⟨cs',g1,g2⟩:=hel q hq
   rw[show Tryz.prog.cellsOf e.T=e.z from he.zc] at g1
   obtain ⟨_,g3,_⟩:=World.cells?_some g1
   exact ⟨cs',g1,he.rd g3 g2⟩
  obtain ⟨cs0,f1,_,_⟩:=hcells 0 (by omega)
  obtain ⟨_,f2,f3⟩:=World.cells?_some f1
  have f4:=f3 0 z0
  have hz:(a.add (0*e.z)).add 0=a:=by simp[Addr.add]
  rw[hz] at f4
  have hc0':∃ v0,W.cell? a=some v0:=by
   rw[f4]; exact ⟨_,List.getElem?_eq_getElem (by omega)⟩
  obtain ⟨v0,hc0'⟩:=hc0'
  have hblk:∃ c T fz,W.heap[a.block]?=some (.cells c T fz)∧a.spot=none:=by
   unfold World.cell? at hc0'
   split at hc0'
   ·rename_i c T fz hb
    split at hc0'
    ·cases hc0'
    ·rename_i hsp
     exact ⟨c,T,fz,hb,by simpa using hsp⟩
   ·cases hc0'
  obtain ⟨c,T,fz,hb,hsp⟩:=hblk
  have hcell:∀ o,W.cell? ⟨a.block,a.off+o,none⟩=c[a.off+o]?:=by
   intro o; simp[World.cell?,hb]
  have hadd:∀ q r,(a.add (q*e.z)).add r=⟨a.block,a.off+(q*e.z+r),none⟩:=by
   intro q r
   obtain ⟨b,o,s⟩:=a
   simp only at hsp
   subst hsp
   unfold Addr.add
   by_cases h1:q*e.z=0
   ·by_cases h2:r=0 <;> simp[h1,h2]
   ·by_cases h2:r=0 <;> simp[h1,h2] <;> omega
  obtain ⟨l,hl,hlp⟩:=cA (α:=α) (p:=fun q y=>e.ok y∧W.cells? 0 (a.add (q*e.z)) e.z=some (e.cells y)) mm (fun q hq=>by
   obtain ⟨cs',g1,y,g2,g3⟩:=hcells q hq
   exact ⟨y,g2,by rw[← g3]; exact g1⟩)
  have hget:∀ q (hq:q<l.length) r,r<e.z→c[a.off+(q*e.z+r)]?=(e.cells (l[q]))[r]?:=by
   intro q hq r hr
   obtain ⟨_,g2⟩:=hlp q hq
   obtain ⟨_,_,g4⟩:=World.cells?_some g2
   rw[← hcell,← hadd,g4 r hr]
  have hlast:=hget (mm-1) (by omega) (e.z-1) (by omega)
  have hmz:(mm-1)*e.z+e.z=mm*e.z:=by
   have:mm*e.z=(mm-1+1)*e.z:=by rw[Nat.sub_add_cancel (by omega)]
   rw[this,Nat.add_mul,Nat.one_mul]
  have hsize:a.off+mm*e.z≤c.size:=by
   have h9:e.z-1<(e.cells (l[mm-1]'(by omega))).length:=by rw[he.len]; omega
   rw[List.getElem?_eq_getElem h9] at hlast
   have:=(Array.getElem?_eq_some_iff.1 hlast).1
   omega
  have hlt:(l.take len).length=len:=by simp; omega
  have hrow:((c.toList.drop a.off).take (e.z*len))=e.row (l.take len):=by
   apply List.ext_getElem?
   intro x
   by_cases hx:x<e.z*len
   ·rw[List.getElem?_take,if_pos hx,List.getElem?_drop,Array.getElem?_toList]
    have hq:x/e.z<len:=Nat.div_lt_of_lt_mul hx
    have hr:x % e.z<e.z:=Nat.mod_lt _ z0
    have ex:x/e.z*e.z+x % e.z=x:=by have:=Nat.div_add_mod x e.z; rw[Nat.mul_comm] at this; exact this
    have h1:=kq he (l.take len) (x/e.z) (by omega) (x % e.z) hr
    rw[ex] at h1
    rw[h1,List.getElem_take]
    have h2:=hget (x/e.z) (by omega) (x % e.z) hr
    rw[ex] at h2
    exact h2
   ·rw[List.getElem?_take,if_neg hx,List.getElem?_eq_none]
    rw[kr he,hlt]; omega
  refine ⟨l.take len, ?_,.inr ⟨⟨a.block,a.off,e.z,e.z*len,e.z*mm⟩,fun μ=>?_,(Array.getElem?_eq_some_iff.1 hb).1,fun μ h hk=>?_⟩⟩
  ·intro x hx
   obtain ⟨q,hq,rfl⟩:=List.mem_iff_getElem.1 hx
   rw[List.getElem_take]
   exact (hlp q (by simp at hq; omega)).1
  ·refine ⟨c,T,fz,hb,by rw[kr he,hlt],by dsimp only; exact Nat.mul_le_mul_left _ (by omega),by dsimp only; rw[Nat.mul_comm]; exact hsize,he.zc.symm,(fun h=>by cases h), ?_, ?_⟩
   ·intro v hv
    rcases bU he _ v hv with ⟨n,rfl⟩ | ⟨b,rfl⟩ <;> rfl
   ·rw[hrow]
    exact jo (bU he _)
  ·rw[hlt]
   have:=RV.slice (μ:=μ) (a:=⟨h,0,none⟩) (k:=⟨a.block,a.off,e.z,e.z*len,e.z*mm⟩) (l:=len) (c:=len) (c':=mm) hk rfl (Nat.le_refl _) hlc (by dsimp only; rw[Nat.zero_add,Nat.mul_comm]; exact Nat.le_refl _)
   have ha:(⟨a.block,a.off+0,none⟩:Addr)=a:=by
    obtain ⟨b,o,s⟩:=a
    simp only at hsp
    subst hsp; rfl
   simp only[ha] at this
   exact this
def VM (e:El α) (σ:Aa) (p:Option Addr) (l:List α):Prop:=l=[] ∨ ∃ ab,p=some ⟨ab,0,none⟩∧σ[ab]?=some (.cells (e.row l) e.T false)
theorem VM.ld (he:pV e) {σ:Aa} {p:Option Addr} {l:List α} (h:VM e σ p l) {x:Nat} (hx:x<l.length):∃ ab,p=some ⟨ab,0,none⟩∧ab<σ.length ∧ ∀ q,q<e.z→Gr σ ab (x*e.z+q)=(e.cells l[x])[q]?:=by
 rcases h with rfl | ⟨ab,h1,h2⟩
 ·simp at hx
 ·exact ⟨ab,h1,(List.getElem?_eq_some_iff.1 h2).1,fun q hq=>by simp only[Gr,h2]; exact kq he l x hx q hq⟩
theorem VM.Cx {σ σ':Aa} {p:Option Addr} {l:List α} (h:VM e σ p l) (hs:∀ q,q<σ.length→σ'[q]?=σ[q]?):VM e σ' p l:=by
 rcases h with h | ⟨ab,h1,h2⟩
 ·exact .inl h
 ·exact .inr ⟨ab,h1,by rw[hs ab (List.getElem?_eq_some_iff.1 h2).1]; exact h2⟩
theorem VM.app {σ:Aa} {p:Option Addr} {l:List α} (h:VM e σ p l) (τ:Aa):VM e (σ++τ) p l:=by
 rcases h with h | ⟨ab,h1,h2⟩
 ·exact .inl h
 ·exact .inr ⟨ab,h1,by rw[List.getElem?_append_left (List.getElem?_eq_some_iff.1 h2).1]; exact h2⟩
end
theorem xf (W:World):R P (fun _=>none) [] W:=⟨fun h o k h1 _=>by simp at h1,fun h k h1=>(by cases h1),fun h h' k k' h1=>(by cases h1)⟩
structure WE (W:World) (σ:Aa) (μ:Mu):Prop where
 r:R P μ σ W
 nw:∀ b,b<σ.length→¬ A7 σ b
 fr:∀ hi,Js μ σ.length hi
theorem WE.nil (W:World):WE W [] (fun _=>none):=⟨xf W,fun b hb=>absurd hb (Nat.not_lt_zero _),fun _ _ _ _=>rfl⟩
theorem WE.add {W:World} {σ:Aa} {μ:Mu} (h:WE W σ μ) {α:Type} {e:El α} {v:Value} {l:List α} (ho:vj e W v l):
  ∃ pt c2 τ μ',WE W (σ++τ) μ'∧VM e (σ++τ) pt l∧RV μ' (.slice pt l.length c2) v∧(∀ x y,RV μ x y→RV μ' x y)∧(∀ ab,pt=some ab→l≠[]→ab.block<(σ++τ).length):=by
 obtain ⟨_,⟨rfl,pt,hrv⟩ | ⟨k,hk,hlt,hrv⟩⟩:=ho
 ·exact ⟨pt,0,[],μ,by rw[List.append_nil]; exact h,.inl rfl,hrv _,fun _ _ h=>h,fun _ _ hh=>absurd rfl hh⟩
 ·have hle:μ.le (μ.put σ.length k):=by
   intro a b hab
   by_cases q:a=σ.length
   ·subst q
    have:=h.fr (σ.length+1) σ.length (Nat.le_refl _) (by omega)
    rw[this] at hab; cases hab
   ·simp[Mu.put,q,hab]
  refine ⟨some ⟨σ.length,0,none⟩,l.length,[.cells (e.row l) e.T false],μ.put σ.length k,⟨⟨fun a o k1 h1 h2=>?_,fun a k1 h1=>?_,fun a a' k1 k2 h1 h2 ha1 ha2 hw _=>?_⟩,fun b hb=>?_,fun hi a h1 h2=>?_⟩,.inr ⟨σ.length,rfl,by simp⟩,hrv _ _ (by simp[Mu.put]),fun x y hh=>hh.mono hle,fun a ha _=>by cases ha; simp⟩
  ·by_cases q:a=σ.length
   ·subst q
    simp at h1; subst h1
    have:k=k1:=by simpa [Mu.put] using h2
    subst this
    exact hk _
   ·have h3:μ a=some k1:=by simpa [Mu.put,q] using h2
    have h4:σ[a]?=some o:=by
     rw[List.getElem?_append] at h1
     split at h1
     ·exact h1
     ·rename_i hh
      have:=(List.getElem?_eq_some_iff.1 h1).1
      simp at this; omega
    exact (h.r.obj a o k1 h4 h3).mono hle
  ·by_cases q:a=σ.length
   ·subst q
    have:k=k1:=by simpa [Mu.put] using h1
    subst this; exact hlt
   ·exact h.r.lt a k1 (by simpa [Mu.put,q] using h1)
  ·have nw:∀ b,¬ A7 (σ++[AJ.cells (e.row l) e.T false]) b:=by
    intro b
    rcases Nat.lt_trichotomy b σ.length with q | q | q
    ·have:=h.nw b q
     unfold A7 at *
     rw[List.getElem?_append_left q]; exact this
    ·subst q; simp[A7]
    ·unfold A7
     rw[List.getElem?_eq_none (by simp; omega)]; simp
   rcases hw with hw | hw
   ·exact absurd hw (nw _)
   ·exact absurd hw (nw _)
  ·rcases Nat.lt_or_ge b σ.length with q | q
   ·have:=h.nw b q
    unfold A7 at *
    rw[List.getElem?_append_left q]; exact this
   ·have:b=σ.length:=by simp at hb; omega
    subst this; simp[A7]
  ·simp at h1
   have:a≠σ.length:=by omega
   simp only[Mu.put,this,if_false]
   exact h.fr hi a (by omega) h2
theorem oS {f:Nat} {k:Nat} {args gs:List Value} {σ:Aa} {μ:Mu} {w:World}
  (h:∃ σ',@fn Az P X2 H k f args σ=some (.bool true,σ'))
  (ho:WE w σ μ) (hV:KQ μ args gs):
  Calls Tryz.prog f gs.toArray w fun x w'=>x = .returned (.bool true)∧Below w.heap.size w w':=by
 obtain ⟨σ',h⟩:=h
 obtain ⟨hlen,_,_,hc⟩:=@sG P Az Tryz.checked.mixed X2 (xn Tryz.checked.mixed) vf H k _ _ _ _ _ h
 refine (hc μ w gs.toArray ho.r (ho.fr _) (by simpa using hV)).mono ?_
 rintro x w' ⟨μ',v',rfl,hv,hR',hS⟩
 cases hv
 exact ⟨rfl,hY hS ho.nw⟩
end Go.Proofs.YtlaplcglpnlieaaGreat
end
section
set_option maxRecDepth 100000
namespace Go.Proofs.YtlaplcglpnlieaaGreat
open Go Go.AX Go.RowKit Go.ChangeShapes Go.WideShapes Go.ChangeAt
theorem z3:Tryz.prog.cellsOf 3=1:=by kernel_rfl
structure ya where
 r:Int
 d:Int
 c:Int
def ya.ok (y:ya):Prop:=AV y.r∧AV y.d∧AV y.c
structure gV where
 k:Int
 a:Int
 b:Int
 r:Int
 d:Int
 c:Int
def gV.ok (y:gV):Prop:=AV y.k∧AV y.a∧AV y.b∧AV y.r∧AV y.d∧AV y.c
def iy:El gV:=⟨Jj,6,fun y=>[.int .i64 y.k,.int .i64 y.a,.int .i64 y.b,.int .i64 y.r,.int .i64 y.d,.int .i64 y.c],gV.ok⟩
theorem xp:Tryz.prog.cellsOf 33=3:=by kernel_rfl
theorem kX:pV iy where
 zc:=by kernel_rfl
 z0:=by decide
 len:=fun _=>rfl
 one:=fun y v hv=>by
  simp[iy] at hv
  rcases hv with rfl | rfl | rfl | rfl | rfl | rfl <;> exact .inl ⟨_,rfl⟩
 rd:=fun hl hf=>by
  obtain ⟨c0,c1,c2,c3,c4,c5,rfl⟩:=xb _ hl
  obtain ⟨xs1,_,_,_,_,hlen1,hff1⟩:=DataW.trod_struct Tryz.underlying79 hf
  obtain ⟨y1_0,y1_1,y1_2,y1_3,rfl⟩:=xa xs1 hlen1
  have k1_0:=hff1 0 _ rfl
  have k1_1:=hff1 1 _ rfl
  have k1_2:=hff1 2 _ rfl
  have k1_3:=hff1 3 _ rfl
  simp[z3,xp] at k1_0 k1_1 k1_2 k1_3
  obtain ⟨a0,e0,_,w0⟩:=DataW.trod_int kJ k1_0
  obtain ⟨a1,e1,_,w1⟩:=DataW.trod_int kJ k1_1
  obtain ⟨a2,e2,_,w2⟩:=DataW.trod_int kJ k1_2
  obtain ⟨xs2,_,_,_,_,hlen2,hff2⟩:=DataW.trod_struct Tryz.underlying33 k1_3
  obtain ⟨y2_0,y2_1,y2_2,rfl⟩:=wZ xs2 hlen2
  have k2_0:=hff2 0 _ rfl
  have k2_1:=hff2 1 _ rfl
  have k2_2:=hff2 2 _ rfl
  simp[z3,xp] at k2_0 k2_1 k2_2
  obtain ⟨a3,e3,_,w3⟩:=DataW.trod_int kJ k2_0
  obtain ⟨a4,e4,_,w4⟩:=DataW.trod_int kJ k2_1
  obtain ⟨a5,e5,_,w5⟩:=DataW.trod_int kJ k2_2
  simp at e0 e1 e2 e3 e4 e5
  subst e0 e1 e2 e3 e4 e5
  exact ⟨⟨a0,a1,a2,a3,a4,a5⟩,⟨Vr w0,Vr w1,Vr w2,Vr w3,Vr w4,Vr w5⟩,rfl⟩
end Go.Proofs.YtlaplcglpnlieaaGreat
end
section
namespace Go.Proofs.YtlaplcglpnlieaaGreat
open Go Go.AX
noncomputable local instance zY:Bb:=Az
local instance za:Kn:=⟨true⟩
variable {σ:Aa} {m:HM} {t:RM} {i:CU} {j:RI} {ab rb:Nat} {a:AS}
structure RA (σ:Aa) (i:CU) (j:RI) (m:HM) (t:RM) (ab rb:Nat) (a:AS):Prop where
 w:hO σ i j m t
 al:Cs σ ab i a
 rl:Ly σ rb j a
 abi:ab ∉ i.l
 abj:ab ∉ j.l
 rbi:rb ∉ i.l
 rbj:rb ∉ j.l
 ne:ab≠rb
 ok:a.ok
theorem RA.app (W:RA σ i j m t ab rb a) (τ:Aa):RA (σ++τ) i j m t ab rb a:=⟨W.w.app τ,W.al.app τ,W.rl.Cx (List.getElem?_append_left (Af W.rl)) rfl,W.abi,W.abj,W.rbi,W.rbj,W.ne,W.ok⟩
theorem hO.xe (W:hO σ i j m t):dg m:=⟨W.g.inv,W.g.inv2,W.h.sh,W.z,W.b0,W.g.nb,W.g.nt⟩
structure oX (i:CU) (j j':RI) (ab rb:Nat) (σ σ':Aa):Prop where
 len:σ.length≤σ'.length
 same:∀ q,q<σ.length→q ∉ i.l→q ∉ j.l→q≠ab→q≠rb→σ'[q]?=σ[q]?
 new:∀ q,q ∈ j'.l→q ∈ j.l∨σ.length≤q
 hb:j'.hb=j.hb
theorem oX.trans {x y z:Aa} {j j' j'':RI} (h:oX i j j' ab rb x y) (g:oX i j' j'' ab rb y z):oX i j j'' ab rb x z:=by
 refine ⟨Nat.le_trans h.len g.len,fun q h1 h2 h3 h4 h5=>?_,fun q hq=>?_,g.hb.trans h.hb⟩
 ·refine (g.same q (Nat.lt_of_lt_of_le h1 h.len) h2 (fun hm=>?_) h4 h5).trans (h.same q h1 h2 h3 h4 h5)
  rcases h.new q hm with h6 | h6
  ·exact h3 h6
  ·omega
 ·rcases g.new q hq with h1 | h1
  ·exact h.new q h1
  ·exact .inr (Nat.le_trans h.len h1)
theorem oX.app (i:CU) (j:RI) (ab rb:Nat) (σ τ:Aa):oX i j j ab rb σ (σ++τ):=⟨by simp,fun q h _ _ _ _=>List.getElem?_append_left h,fun _ h=>.inl h,rfl⟩
theorem RA.of {σ':Aa} {j':RI} {m':HM} {t':RM} (W:RA σ i j m t ab rb a) (W2:hO σ' i j' m' t') (k:vi i j j' σ σ'):RA σ' i j' m' t' ab rb a∧oX i j j' ab rb σ σ':=by
 have la:=W.al.lt
 have lr:=Af W.rl
 refine ⟨⟨W2,W.al.Cx (k.same ab la W.abi W.abj),W.rl.Cx (k.same rb lr W.rbi W.rbj) k.hb,W.abi,fun hm=>?_,W.rbi,fun hm=>?_,W.ne,W.ok⟩,⟨k.len,fun q h1 h2 h3 _ _=>k.same q h1 h2 h3,k.new,k.hb⟩⟩
 ·rcases k.new ab hm with h | h
  ·exact W.abj h
  ·omega
 ·rcases k.new rb hm with h | h
  ·exact W.rbj h
  ·omega
theorem RA.yn (W:RA σ i j m t ab rb a):Uc σ j rb m t a:=⟨W.w.g,W.w.P,W.w.xe,W.rl,W.rbj⟩
theorem se (W:RA σ i j m t ab rb a) (hb:m.births<1000) (r d c:Int):tU m a (kY m a r d c):=
 qg W.w.g.inv W.w.g.inv2 W.ok (fun hv=>tm W.w.g.inv W.w.g.inv2 W.w.g.nt W.ok (by have:=Oi hv; omega)) (fun _=>(uI W.w.xe _).sh)
theorem iA {m:HM} {a:AS} {r d c:Int} {pr:PR} (hp:pr.2.1.fw=m.fw):(Cj m a r d c pr).2.1.fw=m.fw:=by
 have hpl:∀ x,(CC pr.2.1 x r d c).2.2.fw=m.fw:=fun x=>by
  unfold CC; split
  ·split
   ·exact hp
   ·exact hp
  ·exact hp
 unfold Cj; split
 ·split
  ·split
   ·split
    ·exact hpl _
    ·exact hpl _
   ·exact hp
  ·exact hp
 ·rfl
theorem Ut (m:HM) (b c x y x' y':Int):(Cw m b c x y x' y').2.fw=m.fw:=by
 unfold Cw; split
 ·split <;> rfl
 ·rfl
theorem pq (m:HM) (s:Int):(WU m s).fw=m.fw:=by
 unfold WU; split
 ·exact Ut _ _ _ _ _ _ _
 ·rfl
theorem Yc (m:HM) (a:AS) (l:List (Nat × Nat)):(C1 m a l).2.1.fw=m.fw:=by
 unfold C1; split
 ·rfl
 ·split
  ·exact Ut _ _ _ _ _ _ _
  ·rfl
theorem lk (m:HM) (a:AS) (v:Bool) (w:Int):(Eu m a v w).2.1.fw=m.fw:=by
 unfold Eu; split
 ·rfl
 ·split
  ·exact Ut _ _ _ _ _ _ _
  ·rfl
theorem tj (m:HM) (a:AS) (w:Int):(gi m a w).2.1.fw=m.fw:=by
 unfold gi; split
 ·unfold N5; split
  ·exact Ut _ _ _ _ _ _ _
  ·rfl
 split
 ·exact Yc _ _ _
 split
 ·exact Yc _ _ _
 split
 ·unfold cK; split
  ·exact Yc _ _ _
  ·exact Yc _ _ _
 split
 ·exact lk _ _ _ _
 ·unfold JX; split
  ·rfl
  ·split
   ·exact lk _ _ _ _
   ·split
    ·unfold ON; split
     ·rfl
     ·exact pq _ _
    ·unfold ON; split
     ·rfl
     ·exact pq _ _
theorem nE (k:Nat) (hk:60000≤k) (W:RA σ i j m t ab rb a) (hb:m.births<1000) (r d c:Int):
  ∃ σ1 σ2 j' t',B6 (k+13) (Ct ab) r d c σ=some (.tuple #[.int .i64 (kY m a r d c).1.1,.int .i64 (kY m a r d c).1.2],σ1)∧E5 (k+13) (Ct rb) r d c σ1=some (.tuple #[.int .i64 (kY m a r d c).1.1,.int .i64 (kY m a r d c).1.2],σ2)∧RA σ2 i j' (kY m a r d c).2.1 t' ab rb (kY m a r d c).2.2∧oX i j j' ab rb σ σ2∧(∀ q,q<σ.length→q ∉ i.l→q≠ab→σ1[q]?=σ[q]?):=by
 have ok:=se W hb r d c
 have hfw:(kY m a r d c).2.1.fw=m.fw:=iA (tj m a _)
 obtain ⟨σ1,e1,h1,A1,K1⟩:=pT k (by omega) W.w.h W.al W.abi W.ok W.w.g.inv W.w.g.inv2 W.w.b0 (by omega) r d c
 have la:=W.al.lt
 have lr:=Af W.rl
 have g1:RG σ1 j m t:=W.w.g.Cx (fun q hq=>K1.same q (W.w.g.at_.lt q hq) (fun hm=>W.w.off q hm hq) (fun e=>W.abj (by rw[← e]; exact hq))) K1.len
 have R1:Uc σ1 j rb m t a:=⟨g1,W.w.P,W.w.xe,W.rl.Cx (K1.same rb lr W.rbi fun e=>W.ne e.symm) rfl,W.rbj⟩
 obtain ⟨σ2,j',t',e2,R2,K2⟩:=rq (k+3) (by omega) R1 W.ok (by omega) r d c
 have off2:∀ q,q<σ1.length→q ∉ j.l→q ∉ j'.l:=fun q hq hn hm=>by
  rcases K2.new q hm with h | h
  ·exact hn h
  ·omega
 have h2:Ah σ2 i (kY m a r d c).2.1:=h1.Cx fun q hq=>K2.same q (h1.lt q hq) (W.w.off q hq) fun e=>W.rbi (by rw[← e]; exact hq)
 refine ⟨σ1,σ2,j',t',e1,e2,⟨⟨h2,R2.g,R2.P,R2.M.fz,R2.M.b0,fun q hq=>off2 q (h1.lt q hq) (W.w.off q hq), ?_, ?_⟩,A1.Cx (K2.same ab (Af A1) W.abj W.ne),R2.al,W.abi,off2 ab (Af A1) W.abj,W.rbi,R2.off,W.ne,ok.ok⟩,⟨Nat.le_trans K1.len K2.len,fun q q1 q2 q3 q4 q5=>by rw[K2.same q (Nat.lt_of_lt_of_le q1 K1.len) q3 q5,K1.same q q1 q2 q4],fun q hq=>(K2.new q hq).imp id fun h=>Nat.le_trans K1.len h,K2.hb⟩,fun q q1 q2 q3=>K1.same q q1 q2 q3⟩
 ·have:=ok.b2; omega
 ·rw[hfw]; exact W.w.fl
end Go.Proofs.YtlaplcglpnlieaaGreat
end
section
namespace Go.Proofs.YtlaplcglpnlieaaGreat
open Go Go.AX
noncomputable local instance zZ:Bb:=Az
local instance zb:Kn:=⟨true⟩
variable {σ:Aa} {m:HM} {t:RM} {i:CU} {j:RI} {ab rb:Nat} {a:AS}
def AS.zero (a:AS):AS:={ a with c:=0,l:=0,oc:=0,ol:=0 }
theorem qi (k:Nat) (hA:Cs σ ab i a):∃ σ',Fz (k+2) (Ct ab) σ=some (.tuple #[],σ')∧Cs σ' ab i a.zero∧FK ab σ σ':=by
 have s1:=hA.xy false 0 0
 have A1:=hA.put (a.put false 0 0)
 have s2:=A1.xy true 0 0
 rw[show rL false=3 from rfl] at s1
 rw[show rL true=5 from rfl] at s2
 have A2:=A1.put ((a.put false 0 0).put true 0 0)
 refine ⟨_, ?_,A2,(FK.set _ _).trans (FK.set _ _)⟩
 rw[Sg,NJ]
 simp only[WM _ hA,Option.bind_some,Ao,cond_true,Nat.zero_add,s1,s2,if_true]
theorem rD (k:Nat) (h:Uc σ j rb m t a):∃ σ',F6 (k+3) (Ct rb) σ=some (.tuple #[],σ')∧Uc σ' j rb m t a.zero∧FK rb σ σ':=by
 have s1:=h.al.Gn 3 (.int .i64 0) { a with c:=0 } rfl (by decide)
 have h1:=h.TU { a with c:=0 }
 have s2:=h1.al.Gn 4 (.int .i64 0) { a with c:=0,l:=0 } rfl (by decide)
 have h2:=h1.TU { a with c:=0,l:=0 }
 have s3:=h2.al.Gn 5 (.int .i64 0) { a with c:=0,l:=0,oc:=0 } rfl (by decide)
 have h3:=h2.TU { a with c:=0,l:=0,oc:=0 }
 have s4:=h3.al.Gn 6 (.int .i64 0) a.zero rfl (by decide)
 have h4:=h3.TU a.zero
 refine ⟨_, ?_,h4,(((FK.set _ _).trans (FK.set _ _)).trans (FK.set _ _)).trans (FK.set _ _)⟩
 rw[Ss,NO]
 simp only[XY _ h,Option.bind_some,Ao,cond_true,Nat.zero_add,s1,s2,s3,s4,if_true]
def Vx (m:HM) (n:Int):Int:=if (D1 m).length=0∨n<0 then 0 else ((2*(D1 m).getD (n.toNat % (D1 m).length) 0:Nat):Int)
theorem we (k:Nat) (hk:5000≤k) (g:RG σ j m t) (n:Int) (hn:AV n):∃ τ,Qq (k+3) (AY j) n σ=some (.int .i64 (Vx m n),σ++τ):=by
 obtain ⟨τ,s,e1,h1⟩:=pK k hk g
 refine ⟨τ, ?_⟩
 have hl:s.2.1=(D1 m).length:=by rw[h1.len]; simp[CK]
 rw[fb,c8]
 simp only[e1,Option.bind_some,Gp,hl]
 by_cases q:(D1 m).length=0
 ·rw[show Vx m n=0 from if_pos (.inl q)]
  simp only[show ((((D1 m).length:Nat):Int) == 0)=true from by simp[q],cond_true,Option.bind_some]
 simp only[show ((((D1 m).length:Nat):Int) == 0)=false from by rw[beq_eq_false_iff_ne]; omega,cond_false,Option.bind_some]
 by_cases q2:n<0
 ·rw[show Vx m n=0 from if_pos (.inr q2)]
  simp only[decide_eq_true q2,cond_true]
 ·have hone:Vx m n=((2*(D1 m).getD (n.toNat % (D1 m).length) 0:Nat):Int):=if_neg (by omega)
  rw[hone]
  obtain ⟨p,rfl⟩:∃ p:Nat,n=(p:Int):=⟨n.toNat,by omega⟩
  have hm:p % (D1 m).length<(D1 m).length:=Nat.mod_lt _ (by omega)
  have hx:p % (D1 m).length<(CK (D1 m)).length:=by simpa [CK] using hm
  obtain ⟨b,e0,_,_,l0⟩:=ints_at h1 hx
  have e2:((p:Int)).tmod (((D1 m).length:Nat):Int)=((p % (D1 m).length:Nat):Int):=rfl
  simp only[decide_eq_false q2,cond_false,e2,Int.toNat_natCast]
  rw[if_neg (show ¬ (((D1 m).length:Nat):Int)=0 by omega),if_pos (show (0:Int)≤((p % (D1 m).length:Nat):Int)∧((p % (D1 m).length:Nat):Int)<(((D1 m).length:Nat):Int) by omega),e0]
  simp only[Option.bind_some,Nat.zero_add,Nat.mul_one,l0]
  rw[RB _ hm,List.getD_eq_getElem?_getD,List.getElem?_eq_getElem hm]
  rfl
theorem uF (hnt:m.bls.length≤64) (n:Int):AV (Vx m n):=by
 unfold Vx AV
 split
 ·omega
 ·rename_i q
  have hm:n.toNat % (D1 m).length<(D1 m).length:=Nat.mod_lt _ (by omega)
  rw[List.getD_eq_getElem?_getD,List.getElem?_eq_getElem hm]
  have:=(E9.1 (List.getElem_mem hm)).1
  simp only[Option.getD_some]
  omega
def vK (m:HM) (a:AS) (x:gV):HM × AS:=
 if x.k=0 then (kY m a x.r x.d x.c).2
 else if x.k=1 then ((Rh m (Vx m x.a)).2,a)
 else if x.k=2 then (m,a.zero)
 else if x.k=4 then ((Cw m x.a 1 1 x.b 0 0).2,a)
 else if x.k=5 then ((Jb m x.a).2,a)
 else if x.k=6 then ((CC m x.a x.r x.d x.c).2.2,a)
 else if x.k=7 then ((OR m x.a x.b).2,a)
 else (m,a)
theorem ti (k:Nat) (hk:60000≤k) (W0:RA σ i j m t ab rb a) (hb:m.births<1000) (hfl:m.fw.length<1000) (x:gV) (hx:x.ok):
  ∃ σ' j' t',Mj (k+14) (BN i) (Ct ab) (AY j) (Ct rb) x.k x.a x.b x.r x.d x.c σ=some (.bool true,σ')∧RA σ' i j' (vK m a x).1 t' ab rb (vK m a x).2∧oX i j j' ab rb σ σ':=by
 obtain ⟨h1,h2,h3,h4,h5,h6⟩:=hx
 rw[dm,ZD]
 simp only[An]
 obtain ⟨μ,hμ⟩:∃ μ,σ++[AJ.cells [Value.int .i64 x.k,.int .i64 x.a,.int .i64 x.b,.int .i64 x.r,.int .i64 x.d,.int .i64 x.c] Jj true]=μ:=⟨_,rfl⟩
 have W:RA μ i j m t ab rb a:=hμ ▸ W0.app _
 have hbox:μ[σ.length]?=some (AJ.cells [Value.int .i64 x.k,.int .i64 x.a,.int .i64 x.b,.int .i64 x.r,.int .i64 x.d,.int .i64 x.c] Jj true):=by rw[← hμ]; simp
 have hlt:σ.length<μ.length:=Af hbox
 have hoff:σ.length ∉ i.l:=fun hm=>Nat.lt_irrefl _ (W0.w.h.lt _ hm)
 have hna:σ.length≠ab:=by have:=W0.al.lt; omega
 have K0:oX i j j ab rb σ μ:=hμ ▸ oX.app i j ab rb σ _
 have ldq:∀ (μ':Aa),μ'[σ.length]?=μ[σ.length]?→Ak .i64 μ' σ.length 0=some x.k∧Ak .i64 μ' σ.length 1=some x.a∧Ak .i64 μ' σ.length 2=some x.b∧Ak .i64 μ' σ.length 3=some x.r∧Ak .i64 μ' σ.length 4=some x.d∧Ak .i64 μ' σ.length 5=some x.c:=by
  intro μ' h
  rw[hbox] at h
  refine ⟨?_, ?_, ?_, ?_, ?_, ?_⟩ <;> simp[Ak,Gr,h,Bu]
 obtain ⟨l0,l1,l2,l3,l4,l5⟩:=ldq μ rfl
 rw[hμ]
 simp only[Nat.zero_add,Nat.reduceAdd,l0,Option.bind_some]
 have c1:∀ (n:Int),x.k=n→(x.k == n)=true:=fun n hq=>by simpa using hq
 have c0:∀ (n:Int),x.k≠n→(x.k == n)=false:=fun n hq=>by simpa using hq
 have gs:∀ {A:Option (Value × Aa)} {B:Aa→Option (Value × Aa)} {v:Value} {y:Ye} {m':HM},(lE m y).2=m'→(∃ σ1,A=some (v,σ1)∧Ah σ1 i m'∧BZ i μ σ1)→(∀ σ1,RG σ1 j m t→Is (B σ1) σ1 j v m') →
   ∃ σ1 σ2 j' t',A=some (v,σ1)∧B σ1=some (v,σ2)∧RA σ2 i j' m' t' ab rb a∧oX i j j' ab rb σ σ2∧σ1[σ.length]?=μ[σ.length]?:=by
  intro A B v y m' hd hA hB
  obtain ⟨I1,I2,_,b2,_,_⟩:=lF W.w.g.inv W.w.g.inv2 W.w.h.sh y
  have hF:=sx W.w.z y
  have hBo:=W.w.b0.do y
  have hfw:=sv m y
  rw[hd] at I1 I2 b2 hF hBo hfw
  obtain ⟨σ1,σ2,j',t',eA,eB,W2,a2,s1⟩:=jq W.w hA I1 I2 hF hBo (by omega) (by omega) hB
  obtain ⟨T2,K2⟩:=W.of W2 a2
  exact ⟨σ1,σ2,j',t',eA,eB,T2,K0.trans K2,s1 _ hlt hoff⟩
 unfold vK
 by_cases q0:x.k=0
 ·rw[if_pos q0]
  obtain ⟨σ1,σ2,j',t',e1,e2,W2,K2,s1⟩:=nE k hk W hb x.r x.d x.c
  obtain ⟨_,m1,m2,m3,m4,m5⟩:=ldq σ1 (s1 _ hlt hoff hna)
  refine ⟨σ2,j',t', ?_,W2,K0.trans K2⟩
  simp only[c1 0 q0,cond_true,l3,l4,l5,Option.bind_some,e1,Dj,m3,m4,m5,e2,beq_self_eq_true]
 rw[if_neg q0]
 simp only[c0 0 q0,cond_false]
 by_cases q1:x.k=1
 ·rw[if_pos q1]
  obtain ⟨τ,e1⟩:=we (k+10) (by omega) W.w.g x.a h2
  have W1:=W.app τ
  have hin:=uF W.w.g.nt x.a
  have K1:oX i j j ab rb σ (μ++τ):=K0.trans (oX.app _ _ _ _ _ _)
  obtain ⟨I1,I2,_,b2,_,_⟩:=lF W.w.g.inv W.w.g.inv2 W.w.h.sh ⟨5,Vx m x.a,0,0,0,0,0⟩
  have hF:=sx W.w.z ⟨5,Vx m x.a,0,0,0,0,0⟩
  have hBo:=W.w.b0.do ⟨5,Vx m x.a,0,0,0,0,0⟩
  have hfw:=sv m ⟨5,Vx m x.a,0,0,0,0,0⟩
  have hd:lE m ⟨5,Vx m x.a,0,0,0,0,0⟩=Rh m (Vx m x.a):=by unfold lE; simp
  rw[hd] at I1 I2 b2 hF hBo hfw
  obtain ⟨σ1,σ2,j',t',eA,eB,W2,a2,s1⟩:=jq (A:=Ed (k+13) (BN i) (Vx m x.a) (μ++τ)) (B:=fun μ=>FW (k+13) (AY j) (Vx m x.a) μ) W1.w (pW (k+1) W1.w.h W1.w.g.inv (Vx m x.a) hin) I1 I2 hF hBo (by omega) (by omega) (fun σ1 g=>tr (k+9) (by omega) g W1.w.P W1.w.h.sh (Vx m x.a))
  obtain ⟨T2,K2⟩:=W1.of W2 a2
  have eB':FW (k+13) (AY j) (Vx m x.a) σ1=_:=eB
  refine ⟨σ2,j',t', ?_,T2,K1.trans K2⟩
  simp only[c1 1 q1,cond_true,l1,Option.bind_some,e1,Am,eA,eB',beq_self_eq_true]
 rw[if_neg q1]
 simp only[c0 1 q1,cond_false]
 by_cases q2:x.k=2
 ·rw[if_pos q2]
  obtain ⟨σ1,e1,A1,o1⟩:=qi (k+11) W.al
  have R1:Uc σ1 j rb m t a:=⟨W.w.g.Cx (fun q hq=>o1.same q (W.w.g.at_.lt q hq) fun e=>W.abj (by rw[← e]; exact hq)) o1.len,W.w.P,W.w.xe,W.rl.Cx (o1.same rb (Af W.rl) fun e=>W.ne e.symm) rfl,W.rbj⟩
  obtain ⟨σ2,e2,R2,o2⟩:=rD (k+10) R1
  have hh:Ah σ2 i m:=W.w.h.Cx fun q hq=>by
   have hql:=W.w.h.lt q hq
   rw[o2.same q (by have:=o1.len; omega) (fun e=>W.rbi (by rw[← e]; exact hq)),o1.same q hql (fun e=>W.abi (by rw[← e]; exact hq))]
  refine ⟨σ2,j,t, ?_,⟨⟨hh,R2.g,R2.P,W.w.z,W.w.b0,W.w.off,W.w.br,W.w.fl⟩,A1.Cx (o2.same ab (Af A1) W.ne),R2.al,W.abi,W.abj,W.rbi,W.rbj,W.ne,⟨W.ok.s0,W.ok.p0,by unfold AS.zero; dsimp only; omega,by unfold AS.zero; dsimp only; omega,by unfold AS.zero; dsimp only; omega,by unfold AS.zero; dsimp only; omega⟩⟩,K0.trans ⟨Nat.le_trans o1.len o2.len,fun q h1 _ _ h4 h5=>by rw[o2.same q (by have:=o1.len; omega) h5,o1.same q h1 h4],fun _ h=>.inl h,rfl⟩⟩
  simp only[c1 2 q2,cond_true,e1,Option.bind_some,KE,e2,if_true]
 rw[if_neg q2]
 simp only[c0 2 q2,cond_false]
 by_cases q4:x.k=4
 ·rw[if_pos q4]
  obtain ⟨σ1,σ2,j',t',eA,eB,T2,K2,s1⟩:=gs (A:=C3 (k+13) (BN i) x.a x.b μ) (B:=fun μ=>Df (k+13) (AY j) x.a x.b μ) (y:=⟨0,x.a,x.b,0,0,0,0⟩) (by unfold lE; simp) (dP (k+6) (by omega) W.w.h x.a x.b h2) (fun σ1 g=>jt (k+11) g W.w.P W.w.z x.a x.b)
  obtain ⟨_,m1,m2,m3,m4,m5⟩:=ldq σ1 s1
  have eB':Df (k+13) (AY j) x.a x.b σ1=_:=eB
  have kp:∀ {ρ:Type} (y:Option ρ),U4 (some ⟨σ.length,0,none⟩) μ σ1 y=y:=fun y=>bK s1 y
  refine ⟨σ2,j',t', ?_,T2,K2⟩
  simp only[c1 4 q4,cond_true,l1,l2,Option.bind_some,eA,Am,kp,m1,m2,eB',beq_self_eq_true,show (Br.ret=Br.normal)=False from by simp,if_false,if_true,VK]
 rw[if_neg q4]
 simp only[c0 4 q4,cond_false]
 by_cases q5:x.k=5
 ·rw[if_pos q5]
  obtain ⟨σ1,σ2,j',t',eA,eB,T2,K2,s1⟩:=gs (A:=Gk (k+13) (BN i) x.a μ) (B:=fun μ=>E8 (k+13) (AY j) x.a μ) (y:=⟨2,x.a,0,0,0,0,0⟩) (by unfold lE; simp) (jQ (k+6) (by omega) W.w.h x.a) (fun σ1 g=>m6 (k+10) (by omega) g W.w.P x.a)
  obtain ⟨_,m1,m2,m3,m4,m5⟩:=ldq σ1 s1
  have eB':E8 (k+13) (AY j) x.a σ1=_:=eB
  have kp:∀ {ρ:Type} (y:Option ρ),U4 (some ⟨σ.length,0,none⟩) μ σ1 y=y:=fun y=>bK s1 y
  refine ⟨σ2,j',t', ?_,T2,K2⟩
  simp only[c1 5 q5,cond_true,l1,Option.bind_some,eA,Am,kp,m1,eB',beq_self_eq_true,show (Br.ret=Br.normal)=False from by simp,if_false,if_true,VK]
 rw[if_neg q5]
 simp only[c0 5 q5,cond_false]
 by_cases q6:x.k=6
 ·rw[if_pos q6]
  obtain ⟨σ1,σ2,j',t',eA,eB,T2,K2,s1⟩:=gs (A:=C4 (k+13) (BN i) x.a x.r x.d x.c μ) (B:=fun μ=>DJ (k+13) (AY j) x.a x.r x.d x.c μ) (y:=⟨4,x.a,0,0,x.r,x.d,x.c⟩) (by unfold lE; simp) (kR (k+1) (by omega) W.w.h W.w.g.inv (by omega) x.a x.r x.d x.c h2) (fun σ1 g=>jz (k+8) (by omega) g W.w.P W.w.h.sh (by omega) x.a x.r x.d x.c)
  obtain ⟨_,m1,m2,m3,m4,m5⟩:=ldq σ1 s1
  have eB':DJ (k+13) (AY j) x.a x.r x.d x.c σ1=_:=eB
  refine ⟨σ2,j',t', ?_,T2,K2⟩
  simp only[c1 6 q6,cond_true,l1,l3,l4,l5,Option.bind_some,eA,Dj,m1,m3,m4,m5,eB',beq_self_eq_true,show (Br.ret=Br.normal)=False from by simp,if_false,if_true,VK]
 rw[if_neg q6]
 simp only[c0 6 q6,cond_false]
 by_cases q7:x.k=7
 ·rw[if_pos q7]
  obtain ⟨σ1,σ2,j',t',eA,eB,T2,K2,s1⟩:=gs (A:=Hj (k+13) (BN i) x.a x.b μ) (B:=fun μ=>Fo (k+13) (AY j) x.a x.b μ) (y:=⟨3,x.a,x.b,0,0,0,0⟩) (by unfold lE; simp) (ny (k+8) (by omega) W.w.h x.a x.b) (fun σ1 g=>rk (k+10) (by omega) g W.w.P x.a x.b)
  obtain ⟨_,m1,m2,m3,m4,m5⟩:=ldq σ1 s1
  have eB':Fo (k+13) (AY j) x.a x.b σ1=_:=eB
  have kp:∀ {ρ:Type} (y:Option ρ),U4 (some ⟨σ.length,0,none⟩) μ σ1 y=y:=fun y=>bK s1 y
  refine ⟨σ2,j',t', ?_,T2,K2⟩
  simp only[c1 7 q7,cond_true,l1,l2,Option.bind_some,eA,Am,kp,m1,m2,eB',beq_self_eq_true,show (Br.ret=Br.normal)=False from by simp,if_false,if_true,VK]
 rw[if_neg q7]
 simp only[c0 7 q7,cond_false,Option.bind_some,if_true]
 exact ⟨μ,j,t,rfl,W,K0⟩
theorem nD (k:Nat) (hA:Cs σ ab i a):DY (k+2) (Ct ab) σ=some (.tuple #[.int .i64 a.c,.int .i64 a.l,.int .i64 a.oc,.int .i64 a.ol],σ):=by
 rw[Rq,MM]
 simp only[WM _ hA,Option.bind_some,Ao,Bool.not_true,cond_false,Nat.zero_add,Nat.add_zero,Nat.reduceAdd,hA.l3,hA.l4,hA.l5,hA.l6]
theorem nS (k:Nat) (W:RA σ i j m t ab rb a):Hx (k+4) (Ct ab) (Ct rb) σ=some (.bool true,σ):=by
 have m1:AE (k+2) (Ct ab) σ=_:=WM (k+1) W.al
 have m2:AM (k+2) (Ct rb) σ=_:=XY k W.yn
 have e1:DY (k+3) (Ct ab) σ=_:=nD (k+1) W.al
 have e2:Fg (k+3) (Ct rb) σ=some (.tuple #[.int .i64 a.c,.int .i64 a.l,.int .i64 a.oc,.int .i64 a.ol],σ):=by
  rw[Rs,MO]
  simp only[m2,Option.bind_some,Ao,Bool.not_true,cond_false,Nat.zero_add,W.rl.l3,W.rl.l4,W.rl.l5,W.rl.l6]
 have e3:F0 (k+3) (Ct ab) σ=some (.int .i64 a.s,σ):=by
  rw[Si,NK]
  simp only[m1,Option.bind_some,Ao,Bool.not_true,cond_false,Nat.zero_add,W.al.l1]
 have e4:F7 (k+3) (Ct rb) σ=some (.int .i64 a.s,σ):=by
  rw[St,NP]
  simp only[m2,Option.bind_some,Ao,Bool.not_true,cond_false,Nat.zero_add,W.rl.l1]
 have e5:Fe (k+3) (Ct ab) σ=some (.int .i64 a.p,σ):=by
  rw[Rr,MN]
  simp only[m1,Option.bind_some,Ao,Bool.not_true,cond_false,Nat.zero_add,W.al.l2]
 have e6:Fh (k+3) (Ct rb) σ=some (.int .i64 a.p,σ):=by
  rw[Rt,MP]
  simp only[m2,Option.bind_some,Ao,Bool.not_true,cond_false,Nat.zero_add,W.rl.l2]
 rw[Zd,VP]
 simp only[e1,Option.bind_some,rp,e2,beq_self_eq_true,cond_true,e3,e4,e5,e6,Am]
end Go.Proofs.YtlaplcglpnlieaaGreat
end
section
namespace Go.Proofs.YtlaplcglpnlieaaGreat
open Go Go.AX
noncomputable local instance qFB:Bb:=Az
local instance zd:Kn:=⟨true⟩
variable {σ:Aa} {m:HM} {t:RM} {i:CU} {j:RI} {ab rb:Nat} {a:AS}
theorem vy (μ:Aa) (hb:Nat) (a:AS) (T:TypeId):Ip (μ++[AJ.cells [.pointer none,.int .i64 (0:Int),.int .i64 (0:Int),.int .i64 (0:Int),.int .i64 (0:Int),.int .i64 (0:Int),.int .i64 (0:Int)] T true]) μ.length 0 [.pointer (some ⟨hb,0,none⟩),.int .i64 a.s,.int .i64 a.p,.int .i64 a.c,.int .i64 a.l,.int .i64 a.oc,.int .i64 a.ol]=some (μ++[AJ.cells (a.row hb) T true]):=xj _ _ _ _ _ _ _ _ _ _ _ _ _ _ _ _
theorem xi (μ:Aa) (hb hb':Nat) (a:AS) (T:TypeId):Gn (μ++[AJ.cells (a.row hb) T true]) μ.length 0 (.pointer (some ⟨hb',0,none⟩))=some (μ++[AJ.cells (a.row hb') T true]):=by
 simp[Gn,AS.row]
theorem qe (k:Nat) {i':CU} {m':HM} (hA:Cs σ ab i a) (h:Ah σ i' m'):Fy (k+3) (Ct ab) (BN i') σ=some (.pointer (Ct σ.length),σ++[AJ.cells (a.row i'.hb) Ba true]):=by
 have hnb:=h.nb
 have m1:AE (k+2) (Ct ab) σ=_:=WM (k+1) hA
 rw[Se,NI]
 simp only[m1,Option.bind_some,Ao,Bool.not_true,cond_false,I4 k h,Am,show (((m'.bls.length:Nat):Int) == 0)=false from by rw[beq_eq_false_iff_ne]; omega,Nat.zero_add,Nat.reduceAdd,hA.Z2,hA.l1,hA.l2,hA.l3,hA.l4,hA.l5,hA.l6,An,vy,xi]
theorem oK (k:Nat) {j':RI} {m':HM} {t':RM} (h:Uc σ j rb m t a) (g:RG σ j' m' t'):F5 (k+3) (Ct rb) (AY j') σ=some (.pointer (Ct σ.length),σ++[AJ.cells (a.row j'.hb) Bz true]):=by
 have m1:AM (k+2) (Ct rb) σ=_:=XY k h
 have m2:Ai (k+2) (AY j') σ=_:=FD (k+1) g
 rw[Sr,NN]
 simp only[m1,Option.bind_some,Ao,Bool.not_true,cond_false,m2,Nat.zero_add,Nat.reduceAdd,h.al.Z2,h.al.l1,h.al.l2,h.al.l3,h.al.l4,h.al.l5,h.al.l6,An,vy,xi]
theorem mn (k:Nat) (h:RG σ j m t) (s p:Int):Kp (k+2) (AY j) s p σ=(if (0≤s∧s<8)∧(0≤p∧p<5) then some (.tuple #[.pointer (Ct σ.length),.int .i64 0],σ++[AJ.cells ((⟨s,p,0,0,0,0⟩:AS).row j.hb) Bz true]) else some (.tuple #[.pointer none,.int .i64 1],σ)):=by
 rw[Xk,WT]
 simp only[FD k h,Option.bind_some,Ao,Bool.not_true,cond_false]
 by_cases h1:s<0
 ·simp only[decide_eq_true h1,Option.bind_some,cond_true,if_neg (show ¬ ((0≤s∧s<8)∧(0≤p∧p<5)) by omega)]
 simp only[decide_eq_false h1,Option.bind_some,cond_false]
 by_cases h2:s≥8
 ·simp only[decide_eq_true h2,Option.bind_some,cond_true,if_neg (show ¬ ((0≤s∧s<8)∧(0≤p∧p<5)) by omega)]
 simp only[decide_eq_false h2,Option.bind_some,cond_false]
 by_cases h3:p<0
 ·simp only[decide_eq_true h3,Option.bind_some,cond_true,if_neg (show ¬ ((0≤s∧s<8)∧(0≤p∧p<5)) by omega)]
 simp only[decide_eq_false h3,Option.bind_some,cond_false]
 by_cases h4:p>4
 ·simp only[decide_eq_true h4,cond_true,if_neg (show ¬ ((0≤s∧s<8)∧(0≤p∧p<5)) by omega)]
 ·simp only[decide_eq_false h4,cond_false,if_pos (show (0≤s∧s<8)∧(0≤p∧p<5) by omega),An]
  rfl
theorem qI (k:Nat) (s:EJ) (σ:Aa):MU (k+1) s σ=some (.bool (decide (((s.2.1:Nat):Int)>80)),σ):=by
 rw[bt,Y7]
theorem uy (k:Nat) (b:Int) (σ:Aa):Qp (k+1) b σ=some (.bool (decide (b≤12∨b>64)),σ):=by
 rw[eZ,cz]
 by_cases q:b≤12
 ·simp[q]
 ·simp[q]
theorem S8 (k:Nat) (σ:Aa):FL (k+1) σ=some (.bool true,σ):=bq k σ
theorem pg {p:Option Addr} {l:List gV} (h:VM iy σ p l) {x:Nat} (hx:x<l.length):∃ q,p=some ⟨q,0,none⟩∧q<σ.length∧Ak .i64 σ q (x*6)=some l[x].k∧Ak .i64 σ q (x*6+1)=some l[x].a∧Ak .i64 σ q (x*6+2)=some l[x].b∧Ak .i64 σ q (x*6+3)=some l[x].r∧Ak .i64 σ q (x*6+4)=some l[x].d∧Ak .i64 σ q (x*6+5)=some l[x].c:=by
 obtain ⟨q,h1,h2,h3⟩:=h.ld kX hx
 have key:∀ z v,z<6→(iy.cells l[x])[z]?=some (.int .i64 v)→Ak .i64 σ q (x*6+z)=some v:=by
  intro z v hz hv
  have:=h3 z hz
  unfold Ak
  rw[show Gr σ q (x*6+z)=_ from this,hv]
  rfl
 exact ⟨q,h1,h2,key 0 _ (by decide) rfl,key 1 _ (by decide) rfl,key 2 _ (by decide) rfl,key 3 _ (by decide) rfl,key 4 _ (by decide) rfl,key 5 _ (by decide) rfl⟩
theorem ur (W:RA σ i j m t ab rb a) (hb:m.births<1000) (x:gV):(vK m a x).1.births≤m.births+1∧(vK m a x).1.fw=m.fw∧(vK m a x).1.bls.length=m.bls.length:=by
 have I:=W.w.g.inv; have I2:=W.w.g.inv2; have hS:=W.w.h.sh
 unfold vK
 split
 ·have ok:=se W hb x.r x.d x.c
  exact ⟨ok.b2,iA (tj m a _),ok.len⟩
 split
 ·have k:=fM I I2 hS (Vx m x.a)
  exact ⟨k.b2,by unfold Rh Ni; split <;> rfl,k.len⟩
 split
 ·exact ⟨by dsimp only; omega,rfl,rfl⟩
 split
 ·have k:=NS I I2 x.a 1 1 x.b 0 0
  exact ⟨k.b2,Ut _ _ _ _ _ _ _,k.len⟩
 split
 ·have k:=YL I I2 x.a
  exact ⟨k.b2,by unfold Jb; split <;> (first | rfl | (split <;> rfl)),k.len⟩
 split
 ·have k:=T5 I I2 hS x.a x.r x.d x.c
  exact ⟨k.b2,by unfold CC; split <;> (first | rfl | (split <;> rfl)),k.len⟩
 split
 ·have k:=cS I I2 x.a x.b
  exact ⟨k.b2,by unfold OR; split <;> rfl,k.len⟩
 ·exact ⟨by dsimp only; omega,rfl,rfl⟩
theorem ZA (k:Nat) (hk:70000≤k) {σ0:Aa} {p:Option Addr} {c2:Nat} {l:List gV} (hl:l.length≤80) (hok:∀ y ∈ l,y.ok) (S:VM iy σ0 p l):∀ (n x f:Nat) (σ:Aa) (i:CU) (j:RI) (m:HM) (t:RM) (ab rb:Nat) (a:AS),RA σ i j m t ab rb a→(∀ q,q<σ0.length→q ∉ i.l∧q ∉ j.l)→σ0.length≤ab→σ0.length≤rb→(∀ q,q<σ0.length→σ[q]?=σ0[q]?)→σ0.length≤σ.length→x+n=l.length→m.births≤x→m.fw.length=0→n<f →
  ∃ σ' i' j' m' t' ab' rb' a',CG (k+16) f p l.length c2 (BN i) (AY j) (Ct ab) (Ct rb) (x:Int) σ=some (.exit 0,[.pointer (BN i'),.pointer (AY j'),.pointer (Ct rb')],σ')∧RA σ' i' j' m' t' ab' rb' a'
 | n,x,0,σ,i,j,m,t,ab,rb,a,W,h1,h2,h3,h4,h5,hx,hb,hw,hf=>by omega
 | 0,x,f+1,σ,i,j,m,t,ab,rb,a,W,h1,h2,h3,h4,h5,hx,hb,hw,hf=>by
   rw[Jo,Im]
   exact ⟨σ,i,j,m,t,ab,rb,a,by simp only[decide_eq_false (show ¬ (x:Int)<((l.length:Nat):Int) by omega),cond_false,Option.bind_some],W⟩
 | n+1,x,f+1,σ,i,j,m,t,ab,rb,a,W,h1,h2,h3,h4,h5,hx,hb,hw,hf=>by
   have hxl:x<l.length:=by omega
   obtain ⟨q0,rfl,hq0,_⟩:=pg S hxl
   have qx:(0≤(x:Int)∧(x:Int)<((l.length:Nat):Int))=True:=eq_true (by omega)
   have w1:Ae ((x:Int)+1)=((x+1:Nat):Int):=Ad (by unfold AV; omega)
   have ld:∀ (μ:Aa),(∀ q,q<σ0.length→μ[q]?=σ0[q]?)→Ak .i64 μ q0 (x*6)=some l[x].k∧Ak .i64 μ q0 (x*6+1)=some l[x].a∧Ak .i64 μ q0 (x*6+2)=some l[x].b∧Ak .i64 μ q0 (x*6+3)=some l[x].r∧Ak .i64 μ q0 (x*6+4)=some l[x].d∧Ak .i64 μ q0 (x*6+5)=some l[x].c:=by
    intro μ hμ
    obtain ⟨q',e',_,r⟩:=pg (S.Cx hμ) hxl
    cases e'; exact r
   have one:∀ (μ:Aa) (i1:CU) (j1:RI) (ab1 rb1:Nat),RA μ i1 j1 m t ab1 rb1 a→(∀ q,q<σ0.length→q ∉ i1.l∧q ∉ j1.l)→σ0.length≤ab1→σ0.length≤rb1→(∀ q,q<σ0.length→μ[q]?=σ0[q]?)→σ0.length≤μ.length → ∃ σ1 σ' i' j' m' t' ab' rb' a',Mj (k+16) (BN i1) (Ct ab1) (AY j1) (Ct rb1) l[x].k l[x].a l[x].b l[x].r l[x].d l[x].c μ=some (.bool true,σ1)∧Hx (k+16) (Ct ab1) (Ct rb1) σ1=some (.bool true,σ1)∧CG (k+16) f (some ⟨q0,0,none⟩) l.length c2 (BN i1) (AY j1) (Ct ab1) (Ct rb1) ((x+1:Nat):Int) σ1=some (.exit 0,[.pointer (BN i'),.pointer (AY j'),.pointer (Ct rb')],σ')∧RA σ' i' j' m' t' ab' rb' a':=by
    intro μ i1 j1 ab1 rb1 W1 g1 g2 g3 g4 g5
    obtain ⟨σ1,j2,t2,e1,W2,K2⟩:=ti (k+2) (by omega) W1 (by omega) (by omega) l[x] (hok _ (List.getElem_mem _))
    have hbr:=ur W1 (by omega) l[x]
    have e2:Hx (k+16) (Ct ab1) (Ct rb1) σ1=_:=nS (k+12) W2
    obtain ⟨σ',i3,j3,m3,t3,ab3,rb3,a3,e3,W3⟩:=ZA k hk (c2:=c2) hl hok S n (x+1) f σ1 i1 j2 _ t2 ab1 rb1 _ W2 (fun q hq=>⟨(g1 q hq).1,fun hm=>by
     rcases K2.new q hm with h | h
     ·exact (g1 q hq).2 h
     ·omega⟩) g2 g3 (fun q hq=>by rw[K2.same q (by omega) (g1 q hq).1 (g1 q hq).2 (by omega) (by omega)]; exact g4 q hq) (by have:=K2.len; omega) (by omega) (by omega) (by rw[hbr.2.1]; exact hw) (by omega)
    rw[show AY j2=AY j1 from by unfold AY; rw[K2.hb]] at e3
    exact ⟨σ1,σ',i3,j3,m3,t3,ab3,rb3,a3,e1,e2,e3,W3⟩
   obtain ⟨f0,f1,f2,f3,f4,f5⟩:=ld σ h4
   rw[Jo,Im]
   simp only[decide_eq_true (show (x:Int)<((l.length:Nat):Int) by omega),cond_true,vM,Option.bind_some,Bool.not_false,qx,if_true,Int.toNat_natCast,Nat.zero_add,Nat.add_zero,Nat.add_assoc,Nat.reduceAdd,f0,w1]
   by_cases q3:l[x].k=3
   ·obtain ⟨σ1,σ2,i',j',e1,e2,W2,s2,n2,l2⟩:=nQ (k+3) (by omega) W.w
    have hla:=W.al.lt
    have hlr:=Af W.rl
    have A2:Cs σ2 ab i a:=W.al.Cx (s2 ab hla)
    have e3:=qe (k+13) A2 W2.h
    have R2:Uc σ2 j rb m t a:=⟨W.w.g.Cx (fun q hq=>s2 q (W.w.g.at_.lt q hq)) l2,W.w.P,W.w.xe,W.rl.Cx (s2 rb hlr) rfl,W.rbj⟩
    obtain ⟨σ3,hσ3⟩:∃ σ3,σ2++[AJ.cells (a.row i'.hb) Ba true]=σ3:=⟨_,rfl⟩
    have e4:=oK (k+13) (σ:=σ3) (hσ3 ▸ R2.app _) (hσ3 ▸ W2.g.app _)
    rw[hσ3] at e3
    have hl3:σ3.length=σ2.length+1:=by rw[← hσ3]; simp
    obtain ⟨σ4,hσ4⟩:∃ σ4,σ3++[AJ.cells (a.row j'.hb) Bz true]=σ4:=⟨_,rfl⟩
    rw[hσ4] at e4
    have hl4:σ4.length=σ3.length+1:=by rw[← hσ4]; simp
    have W4:RA σ4 i' j' m t σ2.length σ3.length a:=by
     refine ⟨hσ4 ▸ (hσ3 ▸ W2.app _:hO σ3 i' j' m t).app _, ?_, ?_,fun hm=>?_,fun hm=>?_,fun hm=>?_,fun hm=>?_,by omega,W.ok⟩
     ·unfold Cs; rw[← hσ4,List.getElem?_append_left (by omega),← hσ3]; simp
     ·unfold Ly; rw[← hσ4]; simp
     ·have:=W2.h.lt _ hm; omega
     ·have:=W2.g.at_.lt _ hm; omega
     ·have:=W2.h.lt _ hm; omega
     ·have:=W2.g.at_.lt _ hm; omega
    have s4:∀ q,q<σ0.length→σ4[q]?=σ0[q]?:=fun q hq=>by
     rw[← hσ4,List.getElem?_append_left (by omega),← hσ3,List.getElem?_append_left (by omega),s2 q (by omega)]; exact h4 q hq
    obtain ⟨g0,g1,g2,g3,g4,g5⟩:=ld σ4 s4
    obtain ⟨σ5,σ',i5,j5,m5,t5,ab5,rb5,a5,e5,e6,e7,W7⟩:=one σ4 i' j' σ2.length σ3.length W4 (fun q hq=>n2 q (by omega)) (by omega) (by omega) s4 (by omega)
    refine ⟨σ',i5,j5,m5,t5,ab5,rb5,a5, ?_,W7⟩
    simp only[show (l[x].k == 3)=true from by simpa using q3,cond_true,e1,Option.bind_some,TZ,e2,e3,e4,if_true,jH,g0,g1,g2,g3,g4,g5,e5,Ao,Bool.not_true,cond_false,e6]
    exact e7
   ·obtain ⟨σ5,σ',i5,j5,m5,t5,ab5,rb5,a5,e5,e6,e7,W7⟩:=one σ i j ab rb W h1 h2 h3 h4 h5
    refine ⟨σ',i5,j5,m5,t5,ab5,rb5,a5, ?_,W7⟩
    simp only[show (l[x].k == 3)=false from by simpa using q3,cond_false,Option.bind_some,if_true,jH,f0,f1,f2,f3,f4,f5,e5,Ao,Bool.not_true,e6]
    exact e7
theorem lT (k:Nat) (σ:Aa):AF (k+2) none σ=some (.int .i64 0,σ):=by
 rw[Lh,Kt,MC,Mf]
 simp only[wS,Option.bind_some,Bool.not_true,cond_false,Ao,Bool.not_false,cond_true]
theorem rj (k:Nat) (σ:Aa):Ai (k+1) none σ=some (.bool false,σ):=by
 rw[Qr,Oy]
 simp only[wT,Option.bind_some,Bool.not_true,cond_false]
theorem sy:PX P Ch (.pointer none) (.pointer none)=some true:=by kernel_rfl
theorem vo:PX P Fw (.pointer none) (.pointer none)=some true:=by kernel_rfl
theorem gW (k:Nat) (hk:1000000≤k) {σ:Aa} (b:Int) (hb:AV b) (s:Int) (hs:AV s) (q:Int) (hq:AV q) (p:Option Addr) (c2:Nat) (l:List gV) (hok:∀ y ∈ l,y.ok) (S:VM iy σ p l):
  ∃ σ',fn P (XK Kn.b) H (k+18) Yv [.int .i64 b,.int .i64 s,.int .i64 q,.slice p l.length c2] σ=some (.bool true,σ'):=by
 rw[show [Value.int .i64 b,.int .i64 s,.int .i64 q,.slice p l.length c2]=[.int .i64 b,.int .i64 s,.int .i64 q,.slice (p,l.length,c2).1 (p,l.length,c2).2.1 (p,l.length,c2).2.2] from rfl,Yx,We,RJ]
 simp only[qI,Option.bind_some,Ao]
 by_cases g0:((l.length:Nat):Int)>80
 ·simp only[decide_eq_true g0,cond_true,Option.bind_some,S8,Ao]
  exact ⟨_,rfl⟩
 simp only[decide_eq_false g0,cond_false,uy,Option.bind_some,Ao]
 by_cases g1:b≤12∨b>64
 rotate_left
 ·simp only[decide_eq_false g1,Bool.not_false,cond_true,S8,Option.bind_some,Ao]
  exact ⟨_,rfl⟩
 simp only[decide_eq_true g1,Bool.not_true,cond_false]
 have noneLoop:∀ (h t:Option Addr) (μ:Aa),CG (k+17) (k+17) p l.length c2 h t none none 0 μ=some (.exit 0,[.pointer h,.pointer t,.pointer none],μ):=by
  intro h t μ
  rw[Jo,Im]
  cases decide ((0:Int)<((l.length:Nat):Int)) with
  | true=>simp only[cond_true,sy,Option.bind_some,Bool.not_true,cond_false]
  | false=>simp only[cond_false,Option.bind_some]
 by_cases g2:2≤b∧b≤64
 rotate_left
 ·have e1:Hv (k+17) b σ=_:=tX (k+16) b g2 σ
  have e2:Kl (k+17) b σ=_:=tu (k+16) b g2 σ
  have e3:Hb (k+17) none s q σ=some (.tuple #[.pointer none,.int .i64 1],σ):=by
   rw[Sj,Tf]
   simp only[lT,Option.bind_some,Am,beq_self_eq_true,cond_true]
  have e4:Kp (k+17) none s q σ=some (.tuple #[.pointer none,.int .i64 1],σ):=by
   rw[Xk,WT]
   simp only[rj,Option.bind_some,Ao,Bool.not_false,cond_true]
  simp only[e1,Option.bind_some,ax,e2,e3,e4,bne_self_eq_false,cond_false,vo,sy,Bool.not_true,beq_self_eq_true,noneLoop,if_true,gP,cond_true,S8,Ao]
  exact ⟨_,rfl⟩
 obtain ⟨n,rfl⟩:∃ n:Nat,b=(n:Int):=⟨b.toNat,by omega⟩
 obtain ⟨σ1,i,e1,h1,lo1,k1⟩:=vA (k+12) (n:=n) (by omega) (by omega) σ
 have e1':Hv (k+17) (n:Int) σ=_:=e1
 obtain ⟨τ,j,e2,r2,lo2⟩:=uN (k+16) (n:=n) (by omega) (by omega) σ1
 have e2':Kl (k+17) (n:Int) σ1=_:=e2
 have W:hO (σ1++τ) i j (Qy n) ⟨List.replicate n (0,0),[],[],0⟩:=⟨h1.app τ,⟨r2,UN.new n,Inv.new n,Inv2.new n,h1.wl,h1.nb,h1.nt⟩,Pt.new n,FZ.new n,B0.new n,fun q hq hm=>by have:=h1.lt q hq; have:=lo2 q hm; omega,by show (0:Int)≤1000; decide,by show 0≤1000; omega⟩
 obtain ⟨μ,hμ⟩:∃ μ,σ1++τ=μ:=⟨_,rfl⟩
 rw[hμ] at e2' W
 have hlμ:σ.length≤μ.length:=by have:=k1.len; rw[← hμ]; simp; omega
 have sμ:∀ x,x<σ.length→μ[x]?=σ[x]?:=fun x hx=>by
  have:=k1.len
  rw[← hμ,List.getElem?_append_left (by omega)]
  exact k1.same x hx fun hm=>by have:=lo1 x hm; omega
 obtain ⟨σ2,e3,τ3,rfl⟩:=tT (k+14) W.h s q
 have e3':Hb (k+17) (BN i) s q μ=_:=e3
 by_cases g3:(0≤s∧s<8)∧(0≤q∧q<5)
 ·rw[if_pos g3] at e3'
  obtain ⟨σ3,hσ3⟩:∃ σ3,μ++τ3++[AJ.cells ((⟨s,q,0,0,0,0⟩:AS).row i.hb) Ba true]=σ3:=⟨_,rfl⟩
  rw[hσ3] at e3'
  have W3:hO σ3 i j (Qy n) ⟨List.replicate n (0,0),[],[],0⟩:=hσ3 ▸ (W.app _).app _
  have e4:=mn (k+15) W3.g s q
  rw[if_pos g3] at e4
  have e4':Kp (k+17) (AY j) s q σ3=_:=e4
  have hl3:σ3.length=(μ++τ3).length+1:=by rw[← hσ3]; simp; omega
  obtain ⟨σ4,hσ4⟩:∃ σ4,σ3++[AJ.cells ((⟨s,q,0,0,0,0⟩:AS).row j.hb) Bz true]=σ4:=⟨_,rfl⟩
  rw[hσ4] at e4'
  have hlo:∀ x ∈ i.l,σ.length≤x∧x<μ.length:=fun x hx=>⟨lo1 x hx,W.h.lt x hx⟩
  have hlo2:∀ x ∈ j.l,σ.length≤x∧x<μ.length:=fun x hx=>⟨by have:=lo2 x hx; have:=k1.len; omega,W.g.at_.lt x hx⟩
  have hlm:μ.length≤(μ++τ3).length:=by simp
  have W4:RA σ4 i j (Qy n) ⟨List.replicate n (0,0),[],[],0⟩ (μ++τ3).length σ3.length ⟨s,q,0,0,0,0⟩:=by
   refine ⟨hσ4 ▸ W3.app _, ?_, ?_,fun hm=>?_,fun hm=>?_,fun hm=>?_,fun hm=>?_,by omega,⟨g3.1,g3.2,by dsimp only; omega,by dsimp only; omega,by dsimp only; omega,by dsimp only; omega⟩⟩
   ·unfold Cs; rw[← hσ4,List.getElem?_append_left (by omega),← hσ3]; simp
   ·unfold Ly; rw[← hσ4]; simp
   ·have:=hlo _ hm; omega
   ·have:=hlo2 _ hm; omega
   ·have:=hlo _ hm; omega
   ·have:=hlo2 _ hm; omega
  have hl4:σ4.length=σ3.length+1:=by rw[← hσ4]; simp
  obtain ⟨σ',i',j',m',t',ab',rb',a',e5,W5⟩:=ZA (k+1) (by omega) (c2:=c2) (by omega) hok S l.length 0 (k+17) σ4 i j (Qy n) _ _ _ _ W4 (fun x hx=>⟨fun hm=>by have:=hlo x hm; omega,fun hm=>by have:=hlo2 x hm; omega⟩) (by omega) (by omega) (fun x hx=>by
   rw[← hσ4,List.getElem?_append_left (by omega),← hσ3,List.append_assoc,List.getElem?_append_left (by omega)]; exact sμ x hx) (by omega) (by omega) (Int.le_refl _) rfl (by omega)
  have e5':CG (k+17) (k+17) p l.length c2 (BN i) (AY j) (Ct (μ++τ3).length) (Ct σ3.length) 0 σ4=_:=e5
  obtain ⟨τ6,e6⟩:=tY (k+5) (by omega) W5.w
  have e6':Mi (k+17) (BN i') (AY j') σ'=_:=e6
  simp only[e1',Option.bind_some,ax,e2',e3',e4',bne_self_eq_false,cond_false,wR,vM,Bool.not_false,beq_self_eq_true,Bool.not_true,e5',if_true,gP,e6',Ao,cond_true,S8]
  exact ⟨_,rfl⟩
 ·rw[if_neg g3] at e3'
  have e4:=mn (k+15) (W.g.app τ3) s q
  rw[if_neg g3] at e4
  have e4':Kp (k+17) (AY j) s q (μ++τ3)=_:=e4
  simp only[e1',Option.bind_some,ax,e2',e3',e4',bne_self_eq_false,cond_false,vo,sy,Bool.not_true,beq_self_eq_true,noneLoop,if_true,gP,cond_true,S8,Ao]
  exact ⟨_,rfl⟩
end Go.Proofs.YtlaplcglpnlieaaGreat
end
