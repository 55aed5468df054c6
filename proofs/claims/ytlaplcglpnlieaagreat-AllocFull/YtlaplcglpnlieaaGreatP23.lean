/- Slices of elements of any plain kind, as they are handed in: read into the abstract memory, one behind the other.; PRINTED BY A PROGRAM OF THIS SESSIO -/
import Derived.Test.YtlaplcglpnlieaaGreatRows
import Derived.Test.YtlaplcglpnlieaaGreatChecked
import Derived.Deep.Slices
import Derived.DataShut
import Derived.Lib.SmallJoins
import Derived.Test.YtlaplcglpnlieaaGreatP12
import Derived.Test.YtlaplcglpnlieaaGreatP6
import Derived.Test.YtlaplcglpnlieaaGreatP7
import Derived.Test.YtlaplcglpnlieaaGreatP22
import Derived.Test.YtlaplcglpnlieaaGreatP18
set_option linter.unusedVariables false
set_option linter.unusedSimpArgs false
set_option linter.unusedSectionVars false
section
namespace Go.Proofs.YtlaplcglpnlieaaGreat
open Go Go.AX Go.RowKit Go.ChangeShapes Go.WideShapes Go.ChangeAt
theorem own:ownKnob Tryz.prog.godebug=none:=by kernel_rfl
theorem laidOut:laidOutB Tryz.prog=true:=by kernel_rfl
theorem Z8:Tryz.prog.underlying 3=some (.int .i64):=by kernel_rfl
theorem Po {n:Int} (h:(Lit.int .i64 n).wf=true):AW n:=by
 rw[Lit.wf_int_iff] at h
 have h1:IntKind.i64.min = -9223372036854775808:=by decide
 have h2:IntKind.i64.max=9223372036854775807:=by decide
 rw[h1,h2] at h
 unfold AW; omega
theorem sF {α:Type}:∀ (l:List α),l.length=3 → ∃ a b c,l=[a,b,c]
 | [a,b,c],_=>⟨a,b,c,rfl⟩
theorem sG {α:Type}:∀ (l:List α),l.length=4 → ∃ a b c d,l=[a,b,c,d]
 | [a,b,c,d],_=>⟨a,b,c,d,rfl⟩
theorem sH {α:Type}:∀ (l:List α),l.length=6 → ∃ a b c d e f,l=[a,b,c,d,e,f]
 | [a,b,c,d,e,f],_=>⟨a,b,c,d,e,f,rfl⟩
structure El (α:Type) where
 T:TypeId
 z:Nat
 cells:α→List Value
 ok:α→Prop
def plain (v:Value):Prop:=(∃ n,v = .int .i64 n) ∨ ∃ b,v = .bool b
structure lL {α:Type} (e:El α):Prop where
 zc:P.cellsOf e.T=e.z
 z0:0<e.z
 len:∀ y,(e.cells y).length=e.z
 one:∀ y,∀ v ∈ e.cells y,plain v
 rd:∀ {H:Type} {enc:TypeId × Value→H} {W:World} {base:Nat} {sp:Nat→Bool} {hd:Bool} {fuel:Nat} {cs:List Value} {x:DataW H × List MemPlace},cs.length=e.z→DataW.trod enc P W base sp hd fuel e.T cs=some x → ∃ y,e.ok y∧cs=e.cells y
def El.row {α:Type} (e:El α):List α→List Value
 | []=>[]
 | x::l=>e.cells x++e.row l
section
variable {α:Type} {e:El α}
theorem fT (he:lL e):∀ l:List α,(e.row l).length=e.z*l.length
 | []=>by simp[El.row]
 | x::l=>by
   simp only[El.row,List.length_append,fT he l,he.len,List.length_cons]
   rw[Nat.mul_add,Nat.mul_one]; omega
theorem fQ (he:lL e):∀ (l:List α) (x:Nat) (hx:x<l.length) (q:Nat),q<e.z→(e.row l)[x*e.z+q]?=(e.cells l[x])[q]?
 | y::l,0,hx,q,hq=>by
   simp only[El.row,Nat.zero_mul,Nat.zero_add,List.getElem_cons_zero]
   rw[List.getElem?_append_left (by rw[he.len]; exact hq)]
 | y::l,x+1,hx,q,hq=>by
   have h1:x<l.length:=by simpa using hx
   simp only[El.row,List.getElem_cons_succ]
   have e0:(x+1)*e.z=e.z+x*e.z:=by rw[Nat.add_mul]; omega
   rw[List.getElem?_append_right (by rw[he.len,e0]; omega),he.len,← fQ he l x h1 q hq]
   congr 1
   rw[e0]; omega
theorem oM {μ:Mu} {v:Value} (h:plain v):RV μ v v:=by
 rcases h with ⟨n,rfl⟩ | ⟨b,rfl⟩
 ·exact .int _ _
 ·exact .bool _
theorem dR {μ:Mu}:∀ {l:List Value},(∀ v ∈ l,plain v)→J7 μ l l
 | [],_=>.nil
 | v::l,h=>.cons (oM (h v (by simp))) (dR fun v hv=>h v (by simp[hv]))
theorem Y5 (he:lL e):∀ (l:List α),∀ v ∈ e.row l,plain v
 | [],v,h=>by simp[El.row] at h
 | x::l,v,h=>by
   simp only[El.row,List.mem_append] at h
   rcases h with h | h
   ·exact he.one x v h
   ·exact Y5 he l v h
theorem YT {p:Nat→α→Prop}:∀ (n:Nat),(∀ i,i<n → ∃ a,p i a) → ∃ l:List α,l.length=n ∧ ∀ i (h:i<l.length),p i l[i]
 | 0,_=>⟨[],rfl,fun i h=>by simp at h⟩
 | n+1,h=>by
   obtain ⟨l,hl,hp⟩:=YT n fun i hi=>h i (by omega)
   obtain ⟨a,ha⟩:=h n (by omega)
   refine ⟨l++[a],by simp[hl],fun i hi=>?_⟩
   by_cases hi':i<l.length
   ·rw[List.getElem_append_left hi']; exact hp i hi'
   ·have:i=l.length:=by simp at hi; omega
    subst this
    rw[List.getElem_append_right (Nat.le_refl _)]
    simp[hl]; exact ha
def qN (e:El α) (W:World) (v:Value) (l:List α):Prop:=
 (∀ x ∈ l,e.ok x)∧((l=[] ∧ ∃ pt,∀ μ,RV μ (.slice pt 0 0) v) ∨
  ∃ k,(∀ μ,eZ P μ (.cells (e.row l) e.T false) k W.heap[k.b]?)∧k.b<W.heap.size ∧ ∀ μ h,μ h=some k→RV μ (.slice (some ⟨h,0,none⟩) l.length l.length) v)
set_option maxRecDepth 100000 in
theorem rR (he:lL e) {ST:TypeId} {H:Type} {enc:TypeId × Value→H} {W:World} {b0:Nat} {v:Value} {d:DataW H} {p:List MemPlace} (ht:Tryz.prog.underlying ST=some (.slice e.T)) (hval:Value.okWide Tryz.prog W .any b0 ST v) (h:DataW.Trod enc Tryz.prog W 0 (fun _=>true) true ST v d p):
  ∃ l:List α,qN e W v l:=by
 have z0:=he.z0
 obtain ⟨a0,len,cap,rfl⟩:=okWide_slice ht hval
 obtain ⟨fuel,hf⟩:=h
 rcases Go.Deep.open_slice ht hf with ⟨h1,_⟩ | ⟨a,len',cap',mm,n,D,Pl,h1,_,hlc,hcm,hmm,_,hel⟩
 ·simp[Value.cells] at h1
  obtain ⟨rfl,rfl,rfl⟩:=h1
  exact ⟨[],(fun x hx=>by simp at hx),.inl ⟨rfl,none,fun _=>.sliceNil⟩⟩
 ·simp[Value.cells] at h1
  obtain ⟨rfl,rfl,rfl⟩:=h1
  have hm:mm=cap:=by simpa using hmm
  subst hm
  by_cases hc0:mm=0
  ·subst hc0
   obtain rfl:len=0:=by omega
   exact ⟨[],(fun x hx=>by simp at hx),.inl ⟨rfl,some ⟨0,0,some 0⟩,fun _=>.sliceZ a rfl⟩⟩
  have hcells:∀ q,q<mm → ∃ cs',W.cells? 0 (a.add (q*e.z)) e.z=some cs' ∧ ∃ y:α,e.ok y∧cs'=e.cells y:=by
   intro q hq
   obtain ⟨cs',g1,g2⟩:=hel q hq
   rw[show Tryz.prog.cellsOf e.T=e.z from he.zc] at g1
   obtain ⟨_,g3,_⟩:=World.cells?_some g1
   exact ⟨cs',g1,he.rd g3 g2⟩
  obtain ⟨cs0,f1,_,_⟩:=hcells 0 (by omega)
  obtain ⟨_,f2,f3⟩:=World.cells?_some f1
  have f4:=f3 0 z0
  have hz:(a.add (0*e.z)).add 0=a:=by simp[Addr.add]
  rw[hz] at f4
  have hc0':∃ v0,W.cell? a=some v0:=by
   rw[f4]; exact ⟨_,List.getElem?_eq_getElem (by omega)⟩
  obtain ⟨v0,hc0'⟩:=hc0'
  have hblk:∃ c T fz,W.heap[a.block]?=some (.cells c T fz)∧a.spot=none:=by
   unfold World.cell? at hc0'
   split at hc0'
   ·rename_i c T fz hb
    split at hc0'
    ·cases hc0'
    ·rename_i hsp
     exact ⟨c,T,fz,hb,by simpa using hsp⟩
   ·cases hc0'
  obtain ⟨c,T,fz,hb,hsp⟩:=hblk
  have hcell:∀ o,W.cell? ⟨a.block,a.off+o,none⟩=c[a.off+o]?:=by
   intro o; simp[World.cell?,hb]
  have hadd:∀ q r,(a.add (q*e.z)).add r=⟨a.block,a.off+(q*e.z+r),none⟩:=by
   intro q r
   obtain ⟨b,o,s⟩:=a
   simp only at hsp
   subst hsp
   unfold Addr.add
   by_cases h1:q*e.z=0
   ·by_cases h2:r=0 <;> simp[h1,h2]
   ·by_cases h2:r=0 <;> simp[h1,h2] <;> omega
  obtain ⟨l,hl,hlp⟩:=YT (α:=α) (p:=fun q y=>e.ok y∧W.cells? 0 (a.add (q*e.z)) e.z=some (e.cells y)) mm (fun q hq=>by
   obtain ⟨cs',g1,y,g2,g3⟩:=hcells q hq
   exact ⟨y,g2,by rw[← g3]; exact g1⟩)
  have hget:∀ q (hq:q<l.length) r,r<e.z→c[a.off+(q*e.z+r)]?=(e.cells (l[q]))[r]?:=by
   intro q hq r hr
   obtain ⟨_,g2⟩:=hlp q hq
   obtain ⟨_,_,g4⟩:=World.cells?_some g2
   rw[← hcell,← hadd,g4 r hr]
  have hlast:=hget (mm-1) (by omega) (e.z-1) (by omega)
  have hmz:(mm-1)*e.z+e.z=mm*e.z:=by
   have:mm*e.z=(mm-1+1)*e.z:=by rw[Nat.sub_add_cancel (by omega)]
   rw[this,Nat.add_mul,Nat.one_mul]
  have hsize:a.off+mm*e.z≤c.size:=by
   have h9:e.z-1<(e.cells (l[mm-1]'(by omega))).length:=by rw[he.len]; omega
   rw[List.getElem?_eq_getElem h9] at hlast
   have:=(Array.getElem?_eq_some_iff.1 hlast).1
   omega
  have hlt:(l.take len).length=len:=by simp; omega
  have hrow:((c.toList.drop a.off).take (e.z*len))=e.row (l.take len):=by
   apply List.ext_getElem?
   intro x
   by_cases hx:x<e.z*len
   ·rw[List.getElem?_take,if_pos hx,List.getElem?_drop,Array.getElem?_toList]
    have hq:x/e.z<len:=Nat.div_lt_of_lt_mul hx
    have hr:x % e.z<e.z:=Nat.mod_lt _ z0
    have ex:x/e.z*e.z+x % e.z=x:=by have:=Nat.div_add_mod x e.z; rw[Nat.mul_comm] at this; exact this
    have h1:=fQ he (l.take len) (x/e.z) (by omega) (x % e.z) hr
    rw[ex] at h1
    rw[h1,List.getElem_take]
    have h2:=hget (x/e.z) (by omega) (x % e.z) hr
    rw[ex] at h2
    exact h2
   ·rw[List.getElem?_take,if_neg hx,List.getElem?_eq_none]
    rw[fT he,hlt]; omega
  refine ⟨l.take len, ?_,.inr ⟨⟨a.block,a.off,e.z,e.z*len,e.z*mm⟩,fun μ=>?_,(Array.getElem?_eq_some_iff.1 hb).1,fun μ h hk=>?_⟩⟩
  ·intro x hx
   obtain ⟨q,hq,rfl⟩:=List.mem_iff_getElem.1 hx
   rw[List.getElem_take]
   exact (hlp q (by simp at hq; omega)).1
  ·refine ⟨c,T,fz,hb,by rw[fT he,hlt],by dsimp only; exact Nat.mul_le_mul_left _ (by omega),by dsimp only; rw[Nat.mul_comm]; exact hsize,he.zc.symm,(fun h=>by cases h), ?_, ?_⟩
   ·intro v hv
    rcases Y5 he _ v hv with ⟨n,rfl⟩ | ⟨b,rfl⟩ <;> rfl
   ·rw[hrow]
    exact dR (Y5 he _)
  ·rw[hlt]
   have:=RV.slice (μ:=μ) (a:=⟨h,0,none⟩) (k:=⟨a.block,a.off,e.z,e.z*len,e.z*mm⟩) (l:=len) (c:=len) (c':=mm) hk rfl (Nat.le_refl _) hlc (by dsimp only; rw[Nat.zero_add,Nat.mul_comm]; exact Nat.le_refl _)
   have ha:(⟨a.block,a.off+0,none⟩:Addr)=a:=by
    obtain ⟨b,o,s⟩:=a
    simp only at hsp
    subst hsp; rfl
   simp only[ha] at this
   exact this
def QS (e:El α) (σ:Aa) (p:Option Addr) (l:List α):Prop:=l=[] ∨ ∃ ab,p=some ⟨ab,0,none⟩∧σ[ab]?=some (.cells (e.row l) e.T false)
theorem QS.ld (he:lL e) {σ:Aa} {p:Option Addr} {l:List α} (h:QS e σ p l) {x:Nat} (hx:x<l.length):∃ ab,p=some ⟨ab,0,none⟩∧ab<σ.length ∧ ∀ q,q<e.z→Gy σ ab (x*e.z+q)=(e.cells l[x])[q]?:=by
 rcases h with rfl | ⟨ab,h1,h2⟩
 ·simp at hx
 ·exact ⟨ab,h1,(List.getElem?_eq_some_iff.1 h2).1,fun q hq=>by simp only[Gy,h2]; exact fQ he l x hx q hq⟩
theorem QS.CT {σ σ':Aa} {p:Option Addr} {l:List α} (h:QS e σ p l) (hs:∀ q,q<σ.length→σ'[q]?=σ[q]?):QS e σ' p l:=by
 rcases h with h | ⟨ab,h1,h2⟩
 ·exact .inl h
 ·exact .inr ⟨ab,h1,by rw[hs ab (List.getElem?_eq_some_iff.1 h2).1]; exact h2⟩
theorem QS.app {σ:Aa} {p:Option Addr} {l:List α} (h:QS e σ p l) (τ:Aa):QS e (σ++τ) p l:=by
 rcases h with h | ⟨ab,h1,h2⟩
 ·exact .inl h
 ·exact .inr ⟨ab,h1,by rw[List.getElem?_append_left (List.getElem?_eq_some_iff.1 h2).1]; exact h2⟩
end
theorem sL (W:World):R P (fun _=>none) [] W:=⟨fun h o k h1 _=>by simp at h1,fun h k h1=>(by cases h1),fun h h' k k' h1=>(by cases h1)⟩
structure Up (W:World) (σ:Aa) (μ:Mu):Prop where
 r:R P μ σ W
 nw:∀ b,b<σ.length→¬ Av σ b
 fr:∀ hi,Ii μ σ.length hi
theorem Up.nil (W:World):Up W [] (fun _=>none):=⟨sL W,fun b hb=>absurd hb (Nat.not_lt_zero _),fun _ _ _ _=>rfl⟩
theorem Up.add {W:World} {σ:Aa} {μ:Mu} (h:Up W σ μ) {α:Type} {e:El α} {v:Value} {l:List α} (ho:qN e W v l):
  ∃ pt c2 τ μ',Up W (σ++τ) μ'∧QS e (σ++τ) pt l∧RV μ' (.slice pt l.length c2) v∧(∀ x y,RV μ x y→RV μ' x y)∧(∀ ab,pt=some ab→l≠[]→ab.block<(σ++τ).length):=by
 obtain ⟨_,⟨rfl,pt,hrv⟩ | ⟨k,hk,hlt,hrv⟩⟩:=ho
 ·exact ⟨pt,0,[],μ,by rw[List.append_nil]; exact h,.inl rfl,hrv _,fun _ _ h=>h,fun _ _ hh=>absurd rfl hh⟩
 ·have hle:μ.le (μ.put σ.length k):=by
   intro a b hab
   by_cases q:a=σ.length
   ·subst q
    have:=h.fr (σ.length+1) σ.length (Nat.le_refl _) (by omega)
    rw[this] at hab; cases hab
   ·simp[Mu.put,q,hab]
  refine ⟨some ⟨σ.length,0,none⟩,l.length,[.cells (e.row l) e.T false],μ.put σ.length k,⟨⟨fun a o k1 h1 h2=>?_,fun a k1 h1=>?_,fun a a' k1 k2 h1 h2 ha1 ha2 hw _=>?_⟩,fun b hb=>?_,fun hi a h1 h2=>?_⟩,.inr ⟨σ.length,rfl,by simp⟩,hrv _ _ (by simp[Mu.put]),fun x y hh=>hh.mono hle,fun a ha _=>by cases ha; simp⟩
  ·by_cases q:a=σ.length
   ·subst q
    simp at h1; subst h1
    have:k=k1:=by simpa [Mu.put] using h2
    subst this
    exact hk _
   ·have h3:μ a=some k1:=by simpa [Mu.put,q] using h2
    have h4:σ[a]?=some o:=by
     rw[List.getElem?_append] at h1
     split at h1
     ·exact h1
     ·rename_i hh
      have:=(List.getElem?_eq_some_iff.1 h1).1
      simp at this; omega
    exact (h.r.obj a o k1 h4 h3).mono hle
  ·by_cases q:a=σ.length
   ·subst q
    have:k=k1:=by simpa [Mu.put] using h1
    subst this; exact hlt
   ·exact h.r.lt a k1 (by simpa [Mu.put,q] using h1)
  ·have nw:∀ b,¬ Av (σ++[Bi.cells (e.row l) e.T false]) b:=by
    intro b
    rcases Nat.lt_trichotomy b σ.length with q | q | q
    ·have:=h.nw b q
     unfold Av at *
     rw[List.getElem?_append_left q]; exact this
    ·subst q; simp[Av]
    ·unfold Av
     rw[List.getElem?_eq_none (by simp; omega)]; simp
   rcases hw with hw | hw
   ·exact absurd hw (nw _)
   ·exact absurd hw (nw _)
  ·rcases Nat.lt_or_ge b σ.length with q | q
   ·have:=h.nw b q
    unfold Av at *
    rw[List.getElem?_append_left q]; exact this
   ·have:b=σ.length:=by simp at hb; omega
    subst this; simp[Av]
  ·simp at h1
   have:a≠σ.length:=by omega
   simp only[Mu.put,this,if_false]
   exact h.fr hi a (by omega) h2
theorem kF {f:Nat} {k:Nat} {args gs:List Value} {σ:Aa} {μ:Mu} {w:World}
  (h:∃ σ',@fn Au P X2 H k f args σ=some (.bool true,σ'))
  (ho:Up w σ μ) (hV:J7 μ args gs):
  Calls Tryz.prog f gs.toArray w fun x w'=>x = .returned (.bool true)∧Below w.heap.size w w':=by
 obtain ⟨σ',h⟩:=h
 obtain ⟨hlen,_,_,hc⟩:=@nY P Au Tryz.checked.mixed X2 (sS Tryz.checked.mixed) qI H k _ _ _ _ _ h
 refine (hc μ w gs.toArray ho.r (ho.fr _) (by simpa using hV)).mono ?_
 rintro x w' ⟨μ',v',rfl,hv,hR',hS⟩
 cases hv
 exact ⟨rfl,cH hS ho.nw⟩
end Go.Proofs.YtlaplcglpnlieaaGreat
end
section
set_option maxRecDepth 100000
namespace Go.Proofs.YtlaplcglpnlieaaGreat
open Go Go.AX Go.RowKit Go.ChangeShapes Go.WideShapes Go.ChangeAt
theorem z3:Tryz.prog.cellsOf 3=1:=by kernel_rfl
structure tz where
 r:Int
 d:Int
 c:Int
def tz.ok (y:tz):Prop:=AW y.r∧AW y.d∧AW y.c
structure WU where
 k:Int
 a:Int
 b:Int
 r:Int
 d:Int
 c:Int
def WU.ok (y:WU):Prop:=AW y.k∧AW y.a∧AW y.b∧AW y.r∧AW y.d∧AW y.c
def YM:El WU:=⟨HY,6,fun y=>[.int .i64 y.k,.int .i64 y.a,.int .i64 y.b,.int .i64 y.r,.int .i64 y.d,.int .i64 y.c],WU.ok⟩
theorem sU:Tryz.prog.cellsOf 33=3:=by kernel_rfl
theorem gw:lL YM where
 zc:=by kernel_rfl
 z0:=by decide
 len:=fun _=>rfl
 one:=fun y v hv=>by
  simp[YM] at hv
  rcases hv with rfl | rfl | rfl | rfl | rfl | rfl <;> exact .inl ⟨_,rfl⟩
 rd:=fun hl hf=>by
  obtain ⟨c0,c1,c2,c3,c4,c5,rfl⟩:=sH _ hl
  obtain ⟨xs1,_,_,_,_,hlen1,hff1⟩:=DataW.trod_struct Tryz.underlying79 hf
  obtain ⟨y1_0,y1_1,y1_2,y1_3,rfl⟩:=sG xs1 hlen1
  have k1_0:=hff1 0 _ rfl
  have k1_1:=hff1 1 _ rfl
  have k1_2:=hff1 2 _ rfl
  have k1_3:=hff1 3 _ rfl
  simp[z3,sU] at k1_0 k1_1 k1_2 k1_3
  obtain ⟨a0,e0,_,w0⟩:=DataW.trod_int Z8 k1_0
  obtain ⟨a1,e1,_,w1⟩:=DataW.trod_int Z8 k1_1
  obtain ⟨a2,e2,_,w2⟩:=DataW.trod_int Z8 k1_2
  obtain ⟨xs2,_,_,_,_,hlen2,hff2⟩:=DataW.trod_struct Tryz.underlying33 k1_3
  obtain ⟨y2_0,y2_1,y2_2,rfl⟩:=sF xs2 hlen2
  have k2_0:=hff2 0 _ rfl
  have k2_1:=hff2 1 _ rfl
  have k2_2:=hff2 2 _ rfl
  simp[z3,sU] at k2_0 k2_1 k2_2
  obtain ⟨a3,e3,_,w3⟩:=DataW.trod_int Z8 k2_0
  obtain ⟨a4,e4,_,w4⟩:=DataW.trod_int Z8 k2_1
  obtain ⟨a5,e5,_,w5⟩:=DataW.trod_int Z8 k2_2
  simp at e0 e1 e2 e3 e4 e5
  subst e0 e1 e2 e3 e4 e5
  exact ⟨⟨a0,a1,a2,a3,a4,a5⟩,⟨Po w0,Po w1,Po w2,Po w3,Po w4,Po w5⟩,rfl⟩
end Go.Proofs.YtlaplcglpnlieaaGreat
end
section
namespace Go.Proofs.YtlaplcglpnlieaaGreat
open Go Go.AX
noncomputable local instance vF:AF:=Au
local instance uz:Kn:=⟨true⟩
variable {σ:Aa} {m:HM} {t:RM} {i:Cs} {j:RI} {ab rb:Nat} {a:AS}
structure TP (σ:Aa) (i:Cs) (j:RI) (m:HM) (t:RM) (ab rb:Nat) (a:AS):Prop where
 w:pz σ i j m t
 al:Cj σ ab i a
 rl:Kj σ rb j a
 abi:ab ∉ i.l
 abj:ab ∉ j.l
 rbi:rb ∉ i.l
 rbj:rb ∉ j.l
 ne:ab≠rb
 ok:a.ok
theorem TP.app (W:TP σ i j m t ab rb a) (τ:Aa):TP (σ++τ) i j m t ab rb a:=⟨W.w.app τ,W.al.app τ,W.rl.CT (List.getElem?_append_left (Ae W.rl)) rfl,W.abi,W.abj,W.rbi,W.rbj,W.ne,W.ok⟩
theorem pz.sK (W:pz σ i j m t):PD m:=⟨W.g.inv,W.g.inv2,W.h.sh,W.z,W.b0,W.g.nb,W.g.nt⟩
structure kJ (i:Cs) (j j':RI) (ab rb:Nat) (σ σ':Aa):Prop where
 len:σ.length≤σ'.length
 same:∀ q,q<σ.length→q ∉ i.l→q ∉ j.l→q≠ab→q≠rb→σ'[q]?=σ[q]?
 new:∀ q,q ∈ j'.l→q ∈ j.l∨σ.length≤q
 hb:j'.hb=j.hb
theorem kJ.trans {x y z:Aa} {j j' j'':RI} (h:kJ i j j' ab rb x y) (g:kJ i j' j'' ab rb y z):kJ i j j'' ab rb x z:=by
 refine ⟨Nat.le_trans h.len g.len,fun q h1 h2 h3 h4 h5=>?_,fun q hq=>?_,g.hb.trans h.hb⟩
 ·refine (g.same q (Nat.lt_of_lt_of_le h1 h.len) h2 (fun hm=>?_) h4 h5).trans (h.same q h1 h2 h3 h4 h5)
  rcases h.new q hm with h6 | h6
  ·exact h3 h6
  ·omega
 ·rcases g.new q hq with h1 | h1
  ·exact h.new q h1
  ·exact .inr (Nat.le_trans h.len h1)
theorem kJ.app (i:Cs) (j:RI) (ab rb:Nat) (σ τ:Aa):kJ i j j ab rb σ (σ++τ):=⟨by simp,fun q h _ _ _ _=>List.getElem?_append_left h,fun _ h=>.inl h,rfl⟩
theorem TP.of {σ':Aa} {j':RI} {m':HM} {t':RM} (W:TP σ i j m t ab rb a) (W2:pz σ' i j' m' t') (k:qL i j j' σ σ'):TP σ' i j' m' t' ab rb a∧kJ i j j' ab rb σ σ':=by
 have la:=W.al.lt
 have lr:=Ae W.rl
 refine ⟨⟨W2,W.al.CT (k.same ab la W.abi W.abj),W.rl.CT (k.same rb lr W.rbi W.rbj) k.hb,W.abi,fun hm=>?_,W.rbi,fun hm=>?_,W.ne,W.ok⟩,⟨k.len,fun q h1 h2 h3 _ _=>k.same q h1 h2 h3,k.new,k.hb⟩⟩
 ·rcases k.new ab hm with h | h
  ·exact W.abj h
  ·omega
 ·rcases k.new rb hm with h | h
  ·exact W.rbj h
  ·omega
theorem jw (W:TP σ i j m t ab rb a) (hb:m.births<1000) (r d c:Int):pC m a (Uq m a r d c):=
 lS W.w.g.inv W.w.g.inv2 W.ok (fun hv=>kr W.w.g.inv W.w.g.inv2 W.w.g.nt W.ok (by have:=G1 hv; omega)) (fun _=>(lB W.w.sK _).sh)
theorem da {m:HM} {a:AS} {r d c:Int} {pr:PR} (hp:pr.2.1.fw=m.fw):(Bj m a r d c pr).2.1.fw=m.fw:=by
 have hpl:∀ x,(Br pr.2.1 x r d c).2.2.fw=m.fw:=fun x=>by
  unfold Br; split
  ·split
   ·exact hp
   ·exact hp
  ·exact hp
 unfold Bj; split
 ·split
  ·split
   ·split
    ·exact hpl _
    ·exact hpl _
   ·exact hp
  ·exact hp
 ·rfl
theorem Sj (m:HM) (b c x y x' y':Int):(Bp m b c x y x' y').2.fw=m.fw:=by
 unfold Bp; split
 ·split <;> rfl
 ·rfl
theorem kV (m:HM) (s:Int):(Sd m s).fw=m.fw:=by
 unfold Sd; split
 ·exact Sj _ _ _ _ _ _ _
 ·rfl
theorem Vy (m:HM) (a:AS) (l:List (Nat × Nat)):(B1 m a l).2.1.fw=m.fw:=by
 unfold B1; split
 ·rfl
 ·split
  ·exact Sj _ _ _ _ _ _ _
  ·rfl
theorem gC (m:HM) (a:AS) (v:Bool) (w:Int):(CA m a v w).2.1.fw=m.fw:=by
 unfold CA; split
 ·rfl
 ·split
  ·exact Sj _ _ _ _ _ _ _
  ·rfl
theorem oO (m:HM) (a:AS) (w:Int):(Q6 m a w).2.1.fw=m.fw:=by
 unfold Q6; split
 ·unfold JN; split
  ·exact Sj _ _ _ _ _ _ _
  ·rfl
 split
 ·exact Vy _ _ _
 split
 ·exact Vy _ _ _
 split
 ·unfold P8; split
  ·exact Vy _ _ _
  ·exact Vy _ _ _
 split
 ·exact gC _ _ _ _
 ·unfold Gs; split
  ·rfl
  ·split
   ·exact gC _ _ _ _
   ·split
    ·unfold Lf; split
     ·rfl
     ·exact kV _ _
    ·unfold Lf; split
     ·rfl
     ·exact kV _ _
theorem jy (k:Nat) (hk:60000≤k) (W:TP σ i j m t ab rb a) (hb:m.births<1000) (r d c:Int):
  ∃ σ1 σ2 j' t',AN (k+13) (D8 ab) r d c σ=some (.tuple #[.int .i64 (Uq m a r d c).1.1,.int .i64 (Uq m a r d c).1.2],σ1)∧Ej (k+13) (D8 rb) r d c σ1=some (.tuple #[.int .i64 (Uq m a r d c).1.1,.int .i64 (Uq m a r d c).1.2],σ2)∧TP σ2 i j' (Uq m a r d c).2.1 t' ab rb (Uq m a r d c).2.2∧kJ i j j' ab rb σ σ2∧(∀ q,q<σ.length→q ∉ i.l→q≠ab→σ1[q]?=σ[q]?):=by
 have ok:=jw W hb r d c
 have hfw:(Uq m a r d c).2.1.fw=m.fw:=da (oO m a _)
 obtain ⟨σ1,e1,h1,A1,K1⟩:=cX k (by omega) W.w.h W.al W.abi W.ok W.w.g.inv W.w.g.inv2 W.w.b0 (by omega) r d c
 have la:=W.al.lt
 have lr:=Ae W.rl
 have g1:RG σ1 j m t:=W.w.g.CT (fun q hq=>K1.same q (W.w.g.at_.lt q hq) (fun hm=>W.w.off q hm hq) (fun e=>W.abj (by rw[← e]; exact hq))) K1.len
 have R1:TD σ1 j rb m t a:=⟨g1,W.w.P,W.w.sK,W.rl.CT (K1.same rb lr W.rbi fun e=>W.ne e.symm) rfl,W.rbj⟩
 obtain ⟨σ2,j',t',e2,R2,K2⟩:=mV (k+3) (by omega) R1 W.ok (by omega) r d c
 have off2:∀ q,q<σ1.length→q ∉ j.l→q ∉ j'.l:=fun q hq hn hm=>by
  rcases K2.new q hm with h | h
  ·exact hn h
  ·omega
 have h2:Ah σ2 i (Uq m a r d c).2.1:=h1.CT fun q hq=>K2.same q (h1.lt q hq) (W.w.off q hq) fun e=>W.rbi (by rw[← e]; exact hq)
 refine ⟨σ1,σ2,j',t',e1,e2,⟨⟨h2,R2.g,R2.P,R2.M.fz,R2.M.b0,fun q hq=>off2 q (h1.lt q hq) (W.w.off q hq), ?_, ?_⟩,A1.CT (K2.same ab (Ae A1) W.abj W.ne),R2.al,W.abi,off2 ab (Ae A1) W.abj,W.rbi,R2.off,W.ne,ok.ok⟩,⟨Nat.le_trans K1.len K2.len,fun q q1 q2 q3 q4 q5=>by rw[K2.same q (Nat.lt_of_lt_of_le q1 K1.len) q3 q5,K1.same q q1 q2 q4],fun q hq=>(K2.new q hq).imp id fun h=>Nat.le_trans K1.len h,K2.hb⟩,fun q q1 q2 q3=>K1.same q q1 q2 q3⟩
 ·have:=ok.b2; omega
 ·rw[hfw]; exact W.w.fl
end Go.Proofs.YtlaplcglpnlieaaGreat
end
section
namespace Go.Proofs.YtlaplcglpnlieaaGreat
open Go Go.AX
noncomputable local instance vG:AF:=Au
local instance u5:Kn:=⟨true⟩
variable {σ:Aa} {m:HM} {t:RM} {i:Cs} {j:RI} {ab rb:Nat} {a:AS}
def AS.zero (a:AS):AS:={ a with c:=0,l:=0,oc:=0,ol:=0 }
theorem lU (k:Nat) (hA:Cj σ ab i a):∃ σ',EX (k+2) (D8 ab) σ=some (.tuple #[],σ')∧Cj σ' ab i a.zero∧Fm ab σ σ':=by
 have s1:=hA.td false 0 0
 have A1:=hA.put (a.put false 0 0)
 have s2:=A1.td true 0 0
 rw[show np false=3 from rfl] at s1
 rw[show np true=5 from rfl] at s2
 have A2:=A1.put ((a.put false 0 0).put true 0 0)
 refine ⟨_, ?_,A2,(Fm.set _ _).trans (Fm.set _ _)⟩
 rw[Ql,My]
 simp only[ag _ hA,Option.bind_some,As,cond_true,Nat.zero_add,s1,s2,if_true]
theorem nf (k:Nat) (h:TD σ j rb m t a):∃ σ',Fb (k+3) (D8 rb) σ=some (.tuple #[],σ')∧TD σ' j rb m t a.zero∧Fm rb σ σ':=by
 have s1:=h.al.G0 3 (.int .i64 0) { a with c:=0 } rfl (by decide)
 have h1:=h.RH { a with c:=0 }
 have s2:=h1.al.G0 4 (.int .i64 0) { a with c:=0,l:=0 } rfl (by decide)
 have h2:=h1.RH { a with c:=0,l:=0 }
 have s3:=h2.al.G0 5 (.int .i64 0) { a with c:=0,l:=0,oc:=0 } rfl (by decide)
 have h3:=h2.RH { a with c:=0,l:=0,oc:=0 }
 have s4:=h3.al.G0 6 (.int .i64 0) a.zero rfl (by decide)
 have h4:=h3.RH a.zero
 refine ⟨_, ?_,h4,(((Fm.set _ _).trans (Fm.set _ _)).trans (Fm.set _ _)).trans (Fm.set _ _)⟩
 rw[Qq,M4]
 simp only[ee _ h,Option.bind_some,As,cond_true,Nat.zero_add,s1,s2,s3,s4,if_true]
def Tn (m:HM) (n:Int):Int:=if (D7 m).length=0∨n<0 then 0 else ((2*(D7 m).getD (n.toNat % (D7 m).length) 0:Nat):Int)
theorem rK (k:Nat) (hk:5000≤k) (g:RG σ j m t) (n:Int) (hn:AW n):∃ τ,OO (k+3) (Ci j) n σ=some (.int .i64 (Tn m n),σ++τ):=by
 obtain ⟨τ,s,e1,h1⟩:=ql k hk g
 refine ⟨τ, ?_⟩
 have hl:s.2.1=(D7 m).length:=by rw[h1.len]; simp[EE]
 rw[aC,YO]
 simp only[e1,Option.bind_some,H7,hl]
 by_cases q:(D7 m).length=0
 ·rw[show Tn m n=0 from if_pos (.inl q)]
  simp only[show ((((D7 m).length:Nat):Int) == 0)=true from by simp[q],cond_true,Option.bind_some]
 simp only[show ((((D7 m).length:Nat):Int) == 0)=false from by rw[beq_eq_false_iff_ne]; omega,cond_false,Option.bind_some]
 by_cases q2:n<0
 ·rw[show Tn m n=0 from if_pos (.inr q2)]
  simp only[decide_eq_true q2,cond_true]
 ·have hone:Tn m n=((2*(D7 m).getD (n.toNat % (D7 m).length) 0:Nat):Int):=if_neg (by omega)
  rw[hone]
  obtain ⟨p,rfl⟩:∃ p:Nat,n=(p:Int):=⟨n.toNat,by omega⟩
  have hm:p % (D7 m).length<(D7 m).length:=Nat.mod_lt _ (by omega)
  have hx:p % (D7 m).length<(EE (D7 m)).length:=by simpa [EE] using hm
  obtain ⟨b,e0,_,_,l0⟩:=ints_at h1 hx
  have e2:((p:Int)).tmod (((D7 m).length:Nat):Int)=((p % (D7 m).length:Nat):Int):=rfl
  simp only[decide_eq_false q2,cond_false,e2,Int.toNat_natCast]
  rw[if_neg (show ¬ (((D7 m).length:Nat):Int)=0 by omega),if_pos (show (0:Int)≤((p % (D7 m).length:Nat):Int)∧((p % (D7 m).length:Nat):Int)<(((D7 m).length:Nat):Int) by omega),e0]
  simp only[Option.bind_some,Nat.zero_add,Nat.mul_one,l0]
  rw[SM _ hm,List.getD_eq_getElem?_getD,List.getElem?_eq_getElem hm]
  rfl
theorem qi (hnt:m.bls.length≤64) (n:Int):AW (Tn m n):=by
 unfold Tn AW
 split
 ·omega
 ·rename_i q
  have hm:n.toNat % (D7 m).length<(D7 m).length:=Nat.mod_lt _ (by omega)
  rw[List.getD_eq_getElem?_getD,List.getElem?_eq_getElem hm]
  have:=(Es.1 (List.getElem_mem hm)).1
  simp only[Option.getD_some]
  omega
def gm (m:HM) (a:AS) (x:WU):HM × AS:=
 if x.k=0 then (Uq m a x.r x.d x.c).2
 else if x.k=1 then ((OV m (Tn m x.a)).2,a)
 else if x.k=2 then (m,a.zero)
 else if x.k=4 then ((Bp m x.a 1 1 x.b 0 0).2,a)
 else if x.k=5 then ((GD m x.a).2,a)
 else if x.k=6 then ((Br m x.a x.r x.d x.c).2.2,a)
 else if x.k=7 then ((Ls m x.a x.b).2,a)
 else (m,a)
theorem oN (k:Nat) (hk:60000≤k) (W0:TP σ i j m t ab rb a) (hb:m.births<1000) (hfl:m.fw.length<1000) (x:WU) (hx:x.ok):
  ∃ σ' j' t',Nr (k+14) (DW i) (D8 ab) (Ci j) (D8 rb) x.k x.a x.b x.r x.d x.c σ=some (.bool true,σ')∧TP σ' i j' (gm m a x).1 t' ab rb (gm m a x).2∧kJ i j j' ab rb σ σ':=by
 obtain ⟨h1,h2,h3,h4,h5,h6⟩:=hx
 rw[Z1,Xc]
 simp only[Ap]
 obtain ⟨μ,hμ⟩:∃ μ,σ++[Bi.cells [Value.int .i64 x.k,.int .i64 x.a,.int .i64 x.b,.int .i64 x.r,.int .i64 x.d,.int .i64 x.c] HY true]=μ:=⟨_,rfl⟩
 have W:TP μ i j m t ab rb a:=hμ ▸ W0.app _
 have hbox:μ[σ.length]?=some (Bi.cells [Value.int .i64 x.k,.int .i64 x.a,.int .i64 x.b,.int .i64 x.r,.int .i64 x.d,.int .i64 x.c] HY true):=by rw[← hμ]; simp
 have hlt:σ.length<μ.length:=Ae hbox
 have hoff:σ.length ∉ i.l:=fun hm=>Nat.lt_irrefl _ (W0.w.h.lt _ hm)
 have hna:σ.length≠ab:=by have:=W0.al.lt; omega
 have K0:kJ i j j ab rb σ μ:=hμ ▸ kJ.app i j ab rb σ _
 have ldq:∀ (μ':Aa),μ'[σ.length]?=μ[σ.length]?→Ai .i64 μ' σ.length 0=some x.k∧Ai .i64 μ' σ.length 1=some x.a∧Ai .i64 μ' σ.length 2=some x.b∧Ai .i64 μ' σ.length 3=some x.r∧Ai .i64 μ' σ.length 4=some x.d∧Ai .i64 μ' σ.length 5=some x.c:=by
  intro μ' h
  rw[hbox] at h
  refine ⟨?_, ?_, ?_, ?_, ?_, ?_⟩ <;> simp[Ai,Gy,h,BA]
 obtain ⟨l0,l1,l2,l3,l4,l5⟩:=ldq μ rfl
 rw[hμ]
 simp only[Nat.zero_add,Nat.reduceAdd,l0,Option.bind_some]
 have c1:∀ (n:Int),x.k=n→(x.k == n)=true:=fun n hq=>by simpa using hq
 have c0:∀ (n:Int),x.k≠n→(x.k == n)=false:=fun n hq=>by simpa using hq
 have gs:∀ {A:Option (Value × Aa)} {B:Aa→Option (Value × Aa)} {v:Value} {y:V1} {m':HM},(gL m y).2=m'→(∃ σ1,A=some (v,σ1)∧Ah σ1 i m'∧BM i μ σ1)→(∀ σ1,RG σ1 j m t→Hp (B σ1) σ1 j v m') →
   ∃ σ1 σ2 j' t',A=some (v,σ1)∧B σ1=some (v,σ2)∧TP σ2 i j' m' t' ab rb a∧kJ i j j' ab rb σ σ2∧σ1[σ.length]?=μ[σ.length]?:=by
  intro A B v y m' hd hA hB
  obtain ⟨I1,I2,_,b2,_,_⟩:=gM W.w.g.inv W.w.g.inv2 W.w.h.sh y
  have hF:=nS W.w.z y
  have hBo:=W.w.b0.do y
  have hfw:=nR m y
  rw[hd] at I1 I2 b2 hF hBo hfw
  obtain ⟨σ1,σ2,j',t',eA,eB,W2,a2,s1⟩:=dS W.w hA I1 I2 hF hBo (by omega) (by omega) hB
  obtain ⟨T2,K2⟩:=W.of W2 a2
  exact ⟨σ1,σ2,j',t',eA,eB,T2,K0.trans K2,s1 _ hlt hoff⟩
 unfold gm
 by_cases q0:x.k=0
 ·rw[if_pos q0]
  obtain ⟨σ1,σ2,j',t',e1,e2,W2,K2,s1⟩:=jy k hk W hb x.r x.d x.c
  obtain ⟨_,m1,m2,m3,m4,m5⟩:=ldq σ1 (s1 _ hlt hoff hna)
  refine ⟨σ2,j',t', ?_,W2,K0.trans K2⟩
  simp only[c1 0 q0,cond_true,l3,l4,l5,Option.bind_some,e1,E6,m3,m4,m5,e2,beq_self_eq_true]
 rw[if_neg q0]
 simp only[c0 0 q0,cond_false]
 by_cases q1:x.k=1
 ·rw[if_pos q1]
  obtain ⟨τ,e1⟩:=rK (k+10) (by omega) W.w.g x.a h2
  have W1:=W.app τ
  have hin:=qi W.w.g.nt x.a
  have K1:kJ i j j ab rb σ (μ++τ):=K0.trans (kJ.app _ _ _ _ _ _)
  obtain ⟨I1,I2,_,b2,_,_⟩:=gM W.w.g.inv W.w.g.inv2 W.w.h.sh ⟨5,Tn m x.a,0,0,0,0,0⟩
  have hF:=nS W.w.z ⟨5,Tn m x.a,0,0,0,0,0⟩
  have hBo:=W.w.b0.do ⟨5,Tn m x.a,0,0,0,0,0⟩
  have hfw:=nR m ⟨5,Tn m x.a,0,0,0,0,0⟩
  have hd:gL m ⟨5,Tn m x.a,0,0,0,0,0⟩=OV m (Tn m x.a):=by unfold gL; simp
  rw[hd] at I1 I2 b2 hF hBo hfw
  obtain ⟨σ1,σ2,j',t',eA,eB,W2,a2,s1⟩:=dS (A:=DL (k+13) (DW i) (Tn m x.a) (μ++τ)) (B:=fun μ=>Fu (k+13) (Ci j) (Tn m x.a) μ) W1.w (lM (k+1) W1.w.h W1.w.g.inv (Tn m x.a) hin) I1 I2 hF hBo (by omega) (by omega) (fun σ1 g=>oT (k+9) (by omega) g W1.w.P W1.w.h.sh (Tn m x.a))
  obtain ⟨T2,K2⟩:=W1.of W2 a2
  have eB':Fu (k+13) (Ci j) (Tn m x.a) σ1=_:=eB
  refine ⟨σ2,j',t', ?_,T2,K1.trans K2⟩
  simp only[c1 1 q1,cond_true,l1,Option.bind_some,e1,Am,eA,eB',beq_self_eq_true]
 rw[if_neg q1]
 simp only[c0 1 q1,cond_false]
 by_cases q2:x.k=2
 ·rw[if_pos q2]
  obtain ⟨σ1,e1,A1,o1⟩:=lU (k+11) W.al
  have R1:TD σ1 j rb m t a:=⟨W.w.g.CT (fun q hq=>o1.same q (W.w.g.at_.lt q hq) fun e=>W.abj (by rw[← e]; exact hq)) o1.len,W.w.P,W.w.sK,W.rl.CT (o1.same rb (Ae W.rl) fun e=>W.ne e.symm) rfl,W.rbj⟩
  obtain ⟨σ2,e2,R2,o2⟩:=nf (k+10) R1
  have hh:Ah σ2 i m:=W.w.h.CT fun q hq=>by
   have hql:=W.w.h.lt q hq
   rw[o2.same q (by have:=o1.len; omega) (fun e=>W.rbi (by rw[← e]; exact hq)),o1.same q hql (fun e=>W.abi (by rw[← e]; exact hq))]
  refine ⟨σ2,j,t, ?_,⟨⟨hh,R2.g,R2.P,W.w.z,W.w.b0,W.w.off,W.w.br,W.w.fl⟩,A1.CT (o2.same ab (Ae A1) W.ne),R2.al,W.abi,W.abj,W.rbi,W.rbj,W.ne,⟨W.ok.s0,W.ok.p0,by unfold AS.zero; dsimp only; omega,by unfold AS.zero; dsimp only; omega,by unfold AS.zero; dsimp only; omega,by unfold AS.zero; dsimp only; omega⟩⟩,K0.trans ⟨Nat.le_trans o1.len o2.len,fun q h1 _ _ h4 h5=>by rw[o2.same q (by have:=o1.len; omega) h5,o1.same q h1 h4],fun _ h=>.inl h,rfl⟩⟩
  simp only[c1 2 q2,cond_true,e1,Option.bind_some,Ju,e2,if_true]
 rw[if_neg q2]
 simp only[c0 2 q2,cond_false]
 by_cases q4:x.k=4
 ·rw[if_pos q4]
  obtain ⟨σ1,σ2,j',t',eA,eB,T2,K2,s1⟩:=gs (A:=Cp (k+13) (DW i) x.a x.b μ) (B:=fun μ=>CO (k+13) (Ci j) x.a x.b μ) (y:=⟨0,x.a,x.b,0,0,0,0⟩) (by unfold gL; simp) (ZP (k+6) (by omega) W.w.h x.a x.b h2) (fun σ1 g=>dV (k+11) g W.w.P W.w.z x.a x.b)
  obtain ⟨_,m1,m2,m3,m4,m5⟩:=ldq σ1 s1
  have eB':CO (k+13) (Ci j) x.a x.b σ1=_:=eB
  have kp:∀ {ρ:Type} (y:Option ρ),Q0 (some ⟨σ.length,0,none⟩) μ σ1 y=y:=fun y=>Vm s1 y
  refine ⟨σ2,j',t', ?_,T2,K2⟩
  simp only[c1 4 q4,cond_true,l1,l2,Option.bind_some,eA,Am,kp,m1,m2,eB',beq_self_eq_true,show (Bm.ret=Bm.normal)=False from by simp,if_false,if_true,RN]
 rw[if_neg q4]
 simp only[c0 4 q4,cond_false]
 by_cases q5:x.k=5
 ·rw[if_pos q5]
  obtain ⟨σ1,σ2,j',t',eA,eB,T2,K2,s1⟩:=gs (A:=F8 (k+13) (DW i) x.a μ) (B:=fun μ=>Ep (k+13) (Ci j) x.a μ) (y:=⟨2,x.a,0,0,0,0,0⟩) (by unfold gL; simp) (fb (k+6) (by omega) W.w.h x.a) (fun σ1 g=>iB (k+10) (by omega) g W.w.P x.a)
  obtain ⟨_,m1,m2,m3,m4,m5⟩:=ldq σ1 s1
  have eB':Ep (k+13) (Ci j) x.a σ1=_:=eB
  have kp:∀ {ρ:Type} (y:Option ρ),Q0 (some ⟨σ.length,0,none⟩) μ σ1 y=y:=fun y=>Vm s1 y
  refine ⟨σ2,j',t', ?_,T2,K2⟩
  simp only[c1 5 q5,cond_true,l1,Option.bind_some,eA,Am,kp,m1,eB',beq_self_eq_true,show (Bm.ret=Bm.normal)=False from by simp,if_false,if_true,RN]
 rw[if_neg q5]
 simp only[c0 5 q5,cond_false]
 by_cases q6:x.k=6
 ·rw[if_pos q6]
  obtain ⟨σ1,σ2,j',t',eA,eB,T2,K2,s1⟩:=gs (A:=Cq (k+13) (DW i) x.a x.r x.d x.c μ) (B:=fun μ=>Dz (k+13) (Ci j) x.a x.r x.d x.c μ) (y:=⟨4,x.a,0,0,x.r,x.d,x.c⟩) (by unfold gL; simp) (gq (k+1) (by omega) W.w.h W.w.g.inv (by omega) x.a x.r x.d x.c h2) (fun σ1 g=>dZ (k+8) (by omega) g W.w.P W.w.h.sh (by omega) x.a x.r x.d x.c)
  obtain ⟨_,m1,m2,m3,m4,m5⟩:=ldq σ1 s1
  have eB':Dz (k+13) (Ci j) x.a x.r x.d x.c σ1=_:=eB
  refine ⟨σ2,j',t', ?_,T2,K2⟩
  simp only[c1 6 q6,cond_true,l1,l3,l4,l5,Option.bind_some,eA,E6,m1,m3,m4,m5,eB',beq_self_eq_true,show (Bm.ret=Bm.normal)=False from by simp,if_false,if_true,RN]
 rw[if_neg q6]
 simp only[c0 6 q6,cond_false]
 by_cases q7:x.k=7
 ·rw[if_pos q7]
  obtain ⟨σ1,σ2,j',t',eA,eB,T2,K2,s1⟩:=gs (A:=Gx (k+13) (DW i) x.a x.b μ) (B:=fun μ=>ER (k+13) (Ci j) x.a x.b μ) (y:=⟨3,x.a,x.b,0,0,0,0⟩) (by unfold gL; simp) (js (k+8) (by omega) W.w.h x.a x.b) (fun σ1 g=>mT (k+10) (by omega) g W.w.P x.a x.b)
  obtain ⟨_,m1,m2,m3,m4,m5⟩:=ldq σ1 s1
  have eB':ER (k+13) (Ci j) x.a x.b σ1=_:=eB
  have kp:∀ {ρ:Type} (y:Option ρ),Q0 (some ⟨σ.length,0,none⟩) μ σ1 y=y:=fun y=>Vm s1 y
  refine ⟨σ2,j',t', ?_,T2,K2⟩
  simp only[c1 7 q7,cond_true,l1,l2,Option.bind_some,eA,Am,kp,m1,m2,eB',beq_self_eq_true,show (Bm.ret=Bm.normal)=False from by simp,if_false,if_true,RN]
 rw[if_neg q7]
 simp only[c0 7 q7,cond_false,Option.bind_some,if_true]
 exact ⟨μ,j,t,rfl,W,K0⟩
theorem jv (k:Nat) (hA:Cj σ ab i a):DH (k+2) (D8 ab) σ=some (.tuple #[.int .i64 a.c,.int .i64 a.l,.int .i64 a.oc,.int .i64 a.ol],σ):=by
 rw[PH,Ly]
 simp only[ag _ hA,Option.bind_some,As,Bool.not_true,cond_false,Nat.zero_add,Nat.add_zero,Nat.reduceAdd,hA.l3,hA.l4,hA.l5,hA.l6]
end Go.Proofs.YtlaplcglpnlieaaGreat
end
section
namespace Go.Proofs.YtlaplcglpnlieaaGreat
open Go Go.AX
noncomputable local instance vH:AF:=Au
local instance u6:Kn:=⟨true⟩
variable {σ:Aa} {m:HM} {t:RM} {i:Cs} {j:RI} {ab rb:Nat} {a:AS}
theorem iu (k:Nat) (h:RG σ j m t) (s p:Int):KA (k+2) (Ci j) s p σ=(if (0≤s∧s<8)∧(0≤p∧p<5) then some (.tuple #[.pointer (D8 σ.length),.int .i64 0],σ++[Bi.cells ((⟨s,p,0,0,0,0⟩:AS).row j.hb) Cz true]) else some (.tuple #[.pointer none,.int .i64 1],σ)):=by
 rw[aE,YQ]
 simp only[Iw k h,Option.bind_some,As,Bool.not_true,cond_false]
 by_cases h1:s<0
 ·simp only[decide_eq_true h1,Option.bind_some,cond_true,if_neg (show ¬ ((0≤s∧s<8)∧(0≤p∧p<5)) by omega)]
 simp only[decide_eq_false h1,Option.bind_some,cond_false]
 by_cases h2:s≥8
 ·simp only[decide_eq_true h2,Option.bind_some,cond_true,if_neg (show ¬ ((0≤s∧s<8)∧(0≤p∧p<5)) by omega)]
 simp only[decide_eq_false h2,Option.bind_some,cond_false]
 by_cases h3:p<0
 ·simp only[decide_eq_true h3,Option.bind_some,cond_true,if_neg (show ¬ ((0≤s∧s<8)∧(0≤p∧p<5)) by omega)]
 simp only[decide_eq_false h3,Option.bind_some,cond_false]
 by_cases h4:p>4
 ·simp only[decide_eq_true h4,cond_true,if_neg (show ¬ ((0≤s∧s<8)∧(0≤p∧p<5)) by omega)]
 ·simp only[decide_eq_false h4,cond_false,if_pos (show (0≤s∧s<8)∧(0≤p∧p<5) by omega),Ap]
  rfl
theorem dB (k:Nat) (s:E8) (σ:Aa):L5 (k+1) s σ=some (.bool (decide (((s.2.1:Nat):Int)>80)),σ):=by
 rw[Yj,VL]
theorem lf (k:Nat) (b:Int) (σ:Aa):ON (k+1) b σ=some (.bool (decide (b≤12∨b>64)),σ):=by
 rw[aB,YN]
 by_cases q:b≤12
 ·simp[q]
 ·simp[q]
theorem Hi (k:Nat) (σ:Aa):Fo (k+1) σ=some (.bool true,σ):=Yi k σ
theorem kP {p:Option Addr} {l:List WU} (h:QS YM σ p l) {x:Nat} (hx:x<l.length):∃ q,p=some ⟨q,0,none⟩∧q<σ.length∧Ai .i64 σ q (x*6)=some l[x].k∧Ai .i64 σ q (x*6+1)=some l[x].a∧Ai .i64 σ q (x*6+2)=some l[x].b∧Ai .i64 σ q (x*6+3)=some l[x].r∧Ai .i64 σ q (x*6+4)=some l[x].d∧Ai .i64 σ q (x*6+5)=some l[x].c:=by
 obtain ⟨q,h1,h2,h3⟩:=h.ld gw hx
 have key:∀ z v,z<6→(YM.cells l[x])[z]?=some (.int .i64 v)→Ai .i64 σ q (x*6+z)=some v:=by
  intro z v hz hv
  have:=h3 z hz
  unfold Ai
  rw[show Gy σ q (x*6+z)=_ from this,hv]
  rfl
 exact ⟨q,h1,h2,key 0 _ (by decide) rfl,key 1 _ (by decide) rfl,key 2 _ (by decide) rfl,key 3 _ (by decide) rfl,key 4 _ (by decide) rfl,key 5 _ (by decide) rfl⟩
theorem pT (W:TP σ i j m t ab rb a) (hb:m.births<1000) (x:WU):(gm m a x).1.births≤m.births+1∧(gm m a x).1.fw=m.fw∧(gm m a x).1.bls.length=m.bls.length:=by
 have I:=W.w.g.inv; have I2:=W.w.g.inv2; have hS:=W.w.h.sh
 unfold gm
 split
 ·have ok:=jw W hb x.r x.d x.c
  exact ⟨ok.b2,da (oO m a _),ok.len⟩
 split
 ·have k:=bg I I2 hS (Tn m x.a)
  exact ⟨k.b2,by unfold OV LJ; split <;> rfl,k.len⟩
 split
 ·exact ⟨by dsimp only; omega,rfl,rfl⟩
 split
 ·have k:=M7 I I2 x.a 1 1 x.b 0 0
  exact ⟨k.b2,Sj _ _ _ _ _ _ _,k.len⟩
 split
 ·have k:=VZ I I2 x.a
  exact ⟨k.b2,by unfold GD; split <;> (first | rfl | (split <;> rfl)),k.len⟩
 split
 ·have k:=Rn I I2 hS x.a x.r x.d x.c
  exact ⟨k.b2,by unfold Br; split <;> (first | rfl | (split <;> rfl)),k.len⟩
 split
 ·have k:=Zj I I2 x.a x.b
  exact ⟨k.b2,by unfold Ls; split <;> rfl,k.len⟩
 ·exact ⟨by dsimp only; omega,rfl,rfl⟩
end Go.Proofs.YtlaplcglpnlieaaGreat
end
section
namespace Go.Proofs.YtlaplcglpnlieaaGreat
open Go Go.AX
noncomputable local instance vI:AF:=Au
local instance u7:Kn:=⟨true⟩
variable {σ:Aa} {m:HM} {t:RM} {i:Cs} {j:RI} {ab rb:Nat} {a:AS}
theorem rj (W:TP σ i j m t ab rb a) (hb:m.births<1000) (x:WU):(gm m a x).2.s=a.s∧(gm m a x).2.p=a.p:=by
 unfold gm
 split
 ·have ok:=jw W hb x.r x.d x.c
  exact ⟨ok.s,ok.p⟩
 split
 ·exact ⟨rfl,rfl⟩
 split
 ·exact ⟨rfl,rfl⟩
 split
 ·exact ⟨rfl,rfl⟩
 split
 ·exact ⟨rfl,rfl⟩
 split
 ·exact ⟨rfl,rfl⟩
 split
 ·exact ⟨rfl,rfl⟩
 ·exact ⟨rfl,rfl⟩
structure Mk (σ σ':Aa) (i:Cs) (ab:Nat) (m:HM) (a:AS) (s q:Int):Prop where
 h:Ah σ' i m
 al:Cj σ' ab i a
 off:ab ∉ i.l
 ok:a.ok
 M:PD m
 br:m.births≤80
 lo:∀ x ∈ i.l,σ.length≤x
 loa:σ.length≤ab
 same:∀ x,x<σ.length→σ'[x]?=σ[x]?
 len:σ.length≤σ'.length
 es:a.s=s
 ep:a.p=q
theorem bw {Q:HM→AS→Prop} (hQ:∀ m a x,PD m→a.ok→m.births<1000→Q m a→Q (gm m a x).1 (gm m a x).2) (k:Nat) (hk:70000≤k) {σ0:Aa} {p:Option Addr} {c2:Nat} {l:List WU} (hl:l.length≤80) (hok:∀ y ∈ l,y.ok) (S:QS YM σ0 p l):∀ (n x f:Nat) (σ:Aa) (i:Cs) (j:RI) (m:HM) (t:RM) (ab rb:Nat) (a:AS),TP σ i j m t ab rb a→(∀ q,q<σ0.length→q ∉ i.l∧q ∉ j.l)→σ0.length≤ab→σ0.length≤rb→(∀ q,q<σ0.length→σ[q]?=σ0[q]?)→σ0.length≤σ.length→x+n=l.length→m.births≤x→m.fw.length=0→n<f→Q m a →
  ∃ σ' j' m' t' a',G9 (k+16) f p l.length c2 (DW i) (D8 ab) (Ci j) (D8 rb) (x:Int) σ=some (.exit 0,[],σ')∧TP σ' i j' m' t' ab rb a'∧(∀ q,q<σ0.length→σ'[q]?=σ0[q]?)∧σ0.length≤σ'.length∧m'.births≤l.length∧a'.s=a.s∧a'.p=a.p∧Q m' a'
 | n,x,0,σ,i,j,m,t,ab,rb,a,W,h1,h2,h3,h4,h5,hx,hb,hw,hf,hq=>by omega
 | 0,x,f+1,σ,i,j,m,t,ab,rb,a,W,h1,h2,h3,h4,h5,hx,hb,hw,hf,hq=>by
   rw[Qn,Pk]
   exact ⟨σ,j,m,t,a,by simp only[decide_eq_false (show ¬ (x:Int)<((l.length:Nat):Int) by omega),cond_false],W,h4,h5,by omega,rfl,rfl,hq⟩
 | n+1,x,f+1,σ,i,j,m,t,ab,rb,a,W,h1,h2,h3,h4,h5,hx,hb,hw,hf,hq=>by
   have hxl:x<l.length:=by omega
   obtain ⟨q0,rfl,hq0,_⟩:=kP S hxl
   have qx:(0≤(x:Int)∧(x:Int)<((l.length:Nat):Int))=True:=eq_true (by omega)
   have w1:Ac ((x:Int)+1)=((x+1:Nat):Int):=Ad (by unfold AW; omega)
   obtain ⟨q',e',_,f0,f1,f2,f3,f4,f5⟩:=kP (S.CT h4) hxl
   cases e'
   obtain ⟨σ1,j2,t2,e1,W2,K2⟩:=oN (k+2) (by omega) W (by omega) (by omega) l[x] (hok _ (List.getElem_mem _))
   have hbr:=pT W (by omega) l[x]
   have hsp:=rj W (by omega) l[x]
   obtain ⟨σ',j3,m3,t3,a3,e3,W3,s3,l3,b3,p3,p4,q4⟩:=bw hQ k hk (c2:=c2) hl hok S n (x+1) f σ1 i j2 _ t2 ab rb _ W2 (fun q hq=>⟨(h1 q hq).1,fun hm=>by
    rcases K2.new q hm with h | h
    ·exact (h1 q hq).2 h
    ·omega⟩) h2 h3 (fun q hq=>by rw[K2.same q (by omega) (h1 q hq).1 (h1 q hq).2 (by omega) (by omega)]; exact h4 q hq) (by have:=K2.len; omega) (by omega) (by omega) (by rw[hbr.2.1]; exact hw) (by omega) (hQ _ _ _ W.w.sK W.ok (by omega) hq)
   rw[show Ci j2=Ci j from by unfold Ci; rw[K2.hb]] at e3
   refine ⟨σ',j3,m3,t3,a3, ?_,W3,s3,l3,b3,p3.trans hsp.1,p4.trans hsp.2,q4⟩
   rw[Qn,Pk]
   simp only[decide_eq_true (show (x:Int)<((l.length:Nat):Int) by omega),cond_true,Option.bind_some,qx,if_true,Int.toNat_natCast,Nat.zero_add,Nat.add_zero,Nat.add_assoc,Nat.reduceAdd,f0,f1,f2,f3,f4,f5,e1,As,w1]
   exact e3
theorem m9 {Q:HM→AS→Prop} (hQ:∀ m a x,PD m→a.ok→m.births<1000→Q m a→Q (gm m a x).1 (gm m a x).2) (hQ0:∀ n s q,Q (MS n) ⟨s,q,0,0,0,0⟩) (k:Nat) (hk:1000000≤k) (b:Int) (s:Int) (q:Int) (p:Option Addr) (c2:Nat) (l:List WU) (hok:∀ y ∈ l,y.ok) (S:QS YM σ p l):
  (∃ σ',KP (k+18) b s q (p,l.length,c2) σ=some (.tuple #[.pointer none,.pointer none],σ')) ∨
  (∃ σ' i ab m a,KP (k+18) b s q (p,l.length,c2) σ=some (.tuple #[.pointer (DW i),.pointer (D8 ab)],σ')∧Mk σ σ' i ab m a s q∧Q m a):=by
 rw[Z0,Xb]
 by_cases g2:2≤b∧b≤64
 rotate_left
 ·left
  have e1:G8 (k+17) b σ=_:=pH (k+16) b g2 σ
  simp only[e1,Option.bind_some,Vt,dB,lf,As]
  by_cases g0:((l.length:Nat):Int)>80
  ·simp only[decide_eq_true g0,cond_true,Option.bind_some]
   exact ⟨_,rfl⟩
  simp only[decide_eq_false g0,cond_false,Option.bind_some]
  by_cases g1:b≤12∨b>64
  ·simp only[decide_eq_true g1,Bool.not_true,cond_false,Option.bind_some,show ((1:Int) != 0)=true from rfl,cond_true]
   exact ⟨_,rfl⟩
  ·simp only[decide_eq_false g1,Bool.not_false,cond_true,Option.bind_some]
   exact ⟨_,rfl⟩
 obtain ⟨n,rfl⟩:∃ n:Nat,b=(n:Int):=⟨b.toNat,by omega⟩
 obtain ⟨σ1,i,e1,h1,lo1,k1⟩:=re (k+12) (n:=n) (by omega) (by omega) σ
 have e1':G8 (k+17) (n:Int) σ=_:=e1
 simp only[e1',Option.bind_some,Vt,dB,lf,As]
 by_cases g0:((l.length:Nat):Int)>80
 ·simp only[decide_eq_true g0,cond_true,Option.bind_some]
  exact .inl ⟨_,rfl⟩
 simp only[decide_eq_false g0,cond_false,Option.bind_some]
 by_cases g1:(n:Int)≤12∨(n:Int)>64
 rotate_left
 ·simp only[decide_eq_false g1,Bool.not_false,cond_true,Option.bind_some]
  exact .inl ⟨_,rfl⟩
 simp only[decide_eq_true g1,Bool.not_true,cond_false,Option.bind_some,bne_self_eq_false]
 obtain ⟨σ2,e3,τ3,rfl⟩:=pB (k+14) h1 s q
 have e3':GP (k+17) (DW i) s q σ1=_:=e3
 by_cases g3:(0≤s∧s<8)∧(0≤q∧q<5)
 rotate_left
 ·rw[if_neg g3] at e3'
  obtain ⟨τ,j,e2,r2,lo2⟩:=lD (k+16) (n:=n) (by omega) (by omega) (σ1++τ3)
  have e2':K9 (k+17) (n:Int) (σ1++τ3)=_:=e2
  have hg:RG (σ1++τ3++τ) j (MS n) ⟨List.replicate n (0,0),[],[],0⟩:=⟨r2,RU.new n,Inv.new n,Inv2.new n,h1.wl,h1.nb,h1.nt⟩
  have e4:=iu (k+15) hg s q
  rw[if_neg g3] at e4
  have e4':KA (k+17) (Ci j) s q (σ1++τ3++τ)=_:=e4
  simp only[e3',Option.bind_some,Vt,e2',e4',show ((1:Int) != 0)=true from rfl,cond_true]
  exact .inl ⟨_,rfl⟩
 rw[if_pos g3] at e3'
 obtain ⟨σ3,hσ3⟩:∃ σ3,σ1++τ3++[Bi.cells ((⟨s,q,0,0,0,0⟩:AS).row i.hb) AU true]=σ3:=⟨_,rfl⟩
 have hA3:σ3[(σ1++τ3).length]?=some (Bi.cells ((⟨s,q,0,0,0,0⟩:AS).row i.hb) AU true):=by rw[← hσ3]; simp
 have h3:Ah σ3 i (MS n):=hσ3 ▸ (h1.app _).app _
 rw[hσ3] at e3'
 have hl3:σ3.length=(σ1++τ3).length+1:=by rw[← hσ3]; simp; omega
 have hlm:σ1.length≤(σ1++τ3).length:=by simp
 have hls:=k1.len
 obtain ⟨τ,j,e2,r2,lo2⟩:=lD (k+16) (n:=n) (by omega) (by omega) σ3
 have e2':K9 (k+17) (n:Int) σ3=_:=e2
 obtain ⟨σ4,hσ4⟩:∃ σ4,σ3++τ=σ4:=⟨_,rfl⟩
 rw[hσ4] at e2' r2
 have hl4:σ3.length≤σ4.length:=by rw[← hσ4]; simp
 have hA4:σ4[(σ1++τ3).length]?=some (Bi.cells ((⟨s,q,0,0,0,0⟩:AS).row i.hb) AU true):=by rw[← hσ4,List.getElem?_append_left (by omega)]; exact hA3
 have W:pz σ4 i j (MS n) ⟨List.replicate n (0,0),[],[],0⟩:=⟨hσ4 ▸ h3.app τ,⟨r2,RU.new n,Inv.new n,Inv2.new n,h1.wl,h1.nb,h1.nt⟩,NS.new n,FZ.new n,B0.new n,fun q hq hm=>by have:=h3.lt q hq; have:=lo2 q hm; omega,by show (0:Int)≤1000; decide,by show 0≤1000; omega⟩
 have e4:=iu (k+15) W.g s q
 rw[if_pos g3] at e4
 have e4':KA (k+17) (Ci j) s q σ4=_:=e4
 obtain ⟨σ5,hσ5⟩:∃ σ5,σ4++[Bi.cells ((⟨s,q,0,0,0,0⟩:AS).row j.hb) Cz true]=σ5:=⟨_,rfl⟩
 rw[hσ5] at e4'
 have hl5:σ5.length=σ4.length+1:=by rw[← hσ5]; simp
 have hlo:∀ x ∈ i.l,σ.length≤x∧x<σ1.length:=fun x hx=>⟨lo1 x hx,h1.lt x hx⟩
 have hlo2:∀ x ∈ j.l,σ3.length≤x∧x<σ4.length:=fun x hx=>⟨lo2 x hx,W.g.at_.lt x hx⟩
 have W5:TP σ5 i j (MS n) ⟨List.replicate n (0,0),[],[],0⟩ (σ1++τ3).length σ4.length ⟨s,q,0,0,0,0⟩:=by
  refine ⟨hσ5 ▸ W.app _, ?_, ?_,fun hm=>?_,fun hm=>?_,fun hm=>?_,fun hm=>?_,by omega,⟨g3.1,g3.2,by dsimp only; omega,by dsimp only; omega,by dsimp only; omega,by dsimp only; omega⟩⟩
  ·unfold Cj; rw[← hσ5,List.getElem?_append_left (by omega)]; exact hA4
  ·unfold Kj; rw[← hσ5]; simp
  ·have:=hlo _ hm; omega
  ·have:=hlo2 _ hm; omega
  ·have:=hlo _ hm; omega
  ·have:=hlo2 _ hm; omega
 have s5:∀ x,x<σ.length→σ5[x]?=σ[x]?:=fun x hx=>by
  rw[← hσ5,List.getElem?_append_left (by omega),← hσ4,List.getElem?_append_left (by omega),← hσ3,List.append_assoc,List.getElem?_append_left (by omega)]
  exact k1.same x hx fun hm=>by have:=lo1 x hm; omega
 obtain ⟨σ',j',m',t',a',e5,W6,s6,l6,b6,p6,p7,q7⟩:=bw hQ (k+1) (by omega) (c2:=c2) (by omega) hok S l.length 0 (k+17) σ5 i j (MS n) _ _ _ _ W5 (fun x hx=>⟨fun hm=>by have:=hlo x hm; omega,fun hm=>by have:=hlo2 x hm; omega⟩) (by omega) (by omega) s5 (by omega) (by omega) (Int.le_refl _) rfl (by omega) (hQ0 _ _ _)
 have e5':G9 (k+17) (k+17) p l.length c2 (DW i) (D8 (σ1++τ3).length) (Ci j) (D8 σ4.length) 0 σ5=_:=e5
 simp only[e3',Option.bind_some,Vt,e2',e4',bne_self_eq_false,cond_false,e5',if_true]
 exact .inr ⟨σ',i,_,m',a',rfl,⟨W6.w.h,W6.al,W6.abi,W6.ok,W6.w.sK,by omega,lo1,by omega,s6,l6,p6,p7⟩,q7⟩
end Go.Proofs.YtlaplcglpnlieaaGreat
end
section
namespace Go.Proofs.YtlaplcglpnlieaaGreat
open Go Go.AX
noncomputable local instance vJ:AF:=Au
local instance u9:Kn:=⟨true⟩
variable {σ:Aa} {m:HM} {i:Cs} {ab:Nat} {a:AS}
theorem EW.tail {σ':Aa} {s':E8} (g:EW σ (none,0,0) σ' s'):(∃ τ,σ'=σ++τ) ∧ ∀ a,s'.1=some a→σ.length≤a.block:=by
 refine ⟨⟨σ'.drop σ.length, ?_⟩, ?_⟩
 ·refine List.ext_getElem? fun q=>?_
  by_cases h:q<σ.length
  ·rw[List.getElem?_append_left h]
   exact g.same q h fun a ha=>by cases ha
  ·rw[List.getElem?_append_right (by omega),List.getElem?_drop]
   congr 1; omega
 ·rcases g.new with rfl | h
  ·intro a ha; cases ha
  ·exact h
theorem tj:Vi P Jt (.pointer none) (.pointer none)=some true:=by kernel_rfl
theorem Du.same {lo:Nat} {σ':Aa} {s:E8} {l:List Int} (h:Du lo σ s l) (hh:∀ q,lo≤q→q<σ.length→σ'[q]?=σ[q]?):Du lo σ' s l:=by
 rcases h with h | ⟨b,h1,h2,h3,h4⟩
 ·exact .inl h
 ·exact .inr ⟨b,h1,h2,h3,by rw[hh b h1 (Ae h4),h4]⟩
end Go.Proofs.YtlaplcglpnlieaaGreat
end
section
namespace Go.Proofs.YtlaplcglpnlieaaGreat
open Go Go.AX
noncomputable local instance vK:AF:=Au
local instance uA:Kn:=⟨true⟩
variable {σ:Aa} {m:HM} {i:Cs} {ab:Nat} {a:AS}
def XM (m:HM) (s:Int) (x n:Nat):List Nat:=(List.range' x n).filter fun b=>decide ((m.bls.getD b (0,0)).1=1∧(m.bls.getD b (0,0)).2=s)
def MI (m:HM) (s:Int):List (Nat × Nat):=Di m (Bg m s m.bls.length)
theorem cy (m:HM) (s:Int) (x n:Nat):XM m s x (n+1)=(if (m.bls.getD x (0,0)).1=1∧(m.bls.getD x (0,0)).2=s then [x] else [])++XM m s (x+1) n:=by
 unfold XM
 rw[List.range'_succ,List.filter_cons]
 by_cases q:(m.bls.getD x (0,0)).1=1∧(m.bls.getD x (0,0)).2=s
 ·rw[if_pos (decide_eq_true q),if_pos q]; rfl
 ·rw[if_neg (by rw[decide_eq_false q]; decide),if_neg q]; rfl
theorem gi (h0:B0 m) (hb:1≤m.bls.length) (s:Int):XM m s 1 (m.bls.length-1)=Bg m s m.bls.length:=by
 have e:Bg m s m.bls.length=XM m s 0 m.bls.length:=by unfold Bg XM; rw[List.range_eq_range']
 obtain ⟨n,hn⟩:∃ n,m.bls.length=n+1:=⟨m.bls.length-1,by omega⟩
 rw[e,hn,cy,if_neg (fun h=>by unfold B0 at h0; omega)]
 rfl
theorem UC (k:Nat) (hk:5000≤k) (hI:Inv m) (h0:B0 m) (s:Int):∀ (n x f:Nat) (μ:Aa) (o:E8) (R0:List (Nat × Nat)),Ah μ i m→BQ Af 2 μ o R0.length (AL R0)→sj i o→R0.length+33*n≤10000→x+n=m.bls.length→n<f →
  ∃ μ' o',Hz (k+7) f (DW i) s o (x:Int) μ=some (.exit 0,[.slice o'.1 o'.2.1 o'.2.2],μ')∧EW μ o μ' o'∧BQ Af 2 μ' o' (R0++Di m (XM m s x n)).length (AL (R0++Di m (XM m s x n)))
 | n,x,0,μ,o,R0,h,ho,hof,hl,hx,hf=>by omega
 | 0,x,f+1,μ,o,R0,h,ho,hof,hl,hx,hf=>by
   have e1:=GR (k+5) h
   have e1':Az (k+7) (DW i) μ=_:=e1
   rw[Me,LO]
   refine ⟨μ,o,by simp only[e1',Option.bind_some,Am,decide_eq_false (show ¬ (x:Int)<((m.bls.length:Nat):Int) by omega),cond_false],EW.refl _ _, ?_⟩
   simpa [XM,Di] using ho
 | n+1,x,f+1,μ,o,R0,h,ho,hof,hl,hx,hf=>by
   have hnt:=h.nt
   have hxl:x<m.bls.length:=by omega
   have e1':Az (k+7) (DW i) μ=_:=GR (k+5) h
   have e2':BX (k+7) (DW i) (x:Int) μ=_:=WX (k+4) h hxl
   have e3':B7 (k+7) (DW i) (x:Int) μ=_:=aa (k+4) h hxl
   have w1:Ac ((x:Int)+1)=((x+1:Nat):Int):=Ad (by unfold AW; omega)
   rw[cy]
   by_cases q:(m.bls.getD x (0,0)).1=1∧(m.bls.getD x (0,0)).2=s
   ·rw[if_pos q]
    obtain ⟨τ,s1,e4,h1,lo1⟩:=nu k hk h hI h0 (x:Int)
    have hlen:=MJ m (x:Int)
    have hf1:=h1.first
    have gA:EW μ o (μ++τ) o:=EW.app _ _ _
    obtain ⟨o2,μ2,e5,g2,h2⟩:∃ s' σ',Bv P Af o (s1.1,(EN m (x:Int)).length,s1.2.2) (μ++τ)=some (s',σ')∧EW (μ++τ) o σ' s'∧BQ Af 2 σ' s' (R0++EN m (x:Int)).length (AL (R0++EN m (x:Int))):=by
     by_cases hz:(EN m (x:Int)).length=0
     ·have hz':EN m (x:Int)=[]:=List.length_eq_zero_iff.1 hz
      rw[hz'] at hf1 ⊢
      refine ⟨o,μ++τ,QX cq au c9 rfl rfl (by decide) (μ++τ) o R0.length (AL R0) s1.1 s1.2.2 (ho.app _) (by simpa [AL] using hf1),EW.refl _ _, ?_⟩
      rw[List.append_nil]; exact ho.app _
     ·obtain ⟨s',σ',e,g,hh⟩:=PY cq au c9 rfl rfl (by decide) (by decide) (by decide) (μ++τ) o R0.length (AL R0) s1.1 (EN m (x:Int)).length s1.2.2 (AL (EN m (x:Int))) (by omega) (by omega) (KG _) (ho.app _) hf1
      exact ⟨s',σ',e,g,by rw[List.length_append,Jv]; exact hh⟩
    have g3:=gA.trans g2
    obtain ⟨hh,of2⟩:=g3.heap h hof
    obtain ⟨μ3,o3,e6,g4,h4⟩:=UC k hk hI h0 s n (x+1) f μ2 o2 _ hh h2 of2 (by rw[List.length_append]; omega) (by omega) (by omega)
    refine ⟨μ3,o3, ?_,g3.trans g4, ?_⟩
    ·rw[Me,LO]
     simp only[e1',Option.bind_some,Am,decide_eq_true (show (x:Int)<((m.bls.length:Nat):Int) by omega),cond_true,e2',e3',q.1,q.2,beq_self_eq_true,e4,H7,h1.len,e5,if_true,F7,w1]
     exact e6
    ·rw[List.append_assoc] at h4
     simpa [Di] using h4
   ·rw[if_neg q,List.nil_append]
    obtain ⟨μ3,o3,e6,g4,h4⟩:=UC k hk hI h0 s n (x+1) f μ o R0 h ho hof (by omega) (by omega) (by omega)
    refine ⟨μ3,o3, ?_,g4,h4⟩
    rw[Me,LO]
    by_cases q1:(m.bls.getD x (0,0)).1=1
    ·have q2:¬ (m.bls.getD x (0,0)).2=s:=fun hq=>q ⟨q1,hq⟩
     simp only[e1',Option.bind_some,Am,decide_eq_true (show (x:Int)<((m.bls.length:Nat):Int) by omega),cond_true,e2',e3',q1,beq_self_eq_true,beq_eq_false_iff_ne.2 q2,cond_false,if_true,F7,w1]
     exact e6
    ·simp only[e1',Option.bind_some,Am,decide_eq_true (show (x:Int)<((m.bls.length:Nat):Int) by omega),cond_true,e2',beq_eq_false_iff_ne.2 q1,cond_false,if_true,F7,w1]
     exact e6
theorem od (k:Nat) (hk:5000≤k) (h:Ah σ i m) (hI:Inv m) (h0:B0 m) (s:Int):
  ∃ τ o,KO (k+8) (DW i) s σ=some (.slice o.1 o.2.1 o.2.2,σ++τ)∧BQ Af 2 (σ++τ) o (MI m s).length (AL (MI m s)) ∧ ∀ x,o.1=some x→σ.length≤x.block:=by
 have hnt:=h.nt; have hnb:=h.nb
 obtain ⟨μ,o,e,g,hs⟩:=UC k hk hI h0 s (m.bls.length-1) 1 (k+7) σ (none,0,0) [] h (BQ.nil _ _ _) (fun a ha=>by cases ha) (by simp; omega) (by omega) (by omega)
 obtain ⟨⟨τ,rfl⟩,hn⟩:=g.tail
 refine ⟨τ,o, ?_, ?_,hn⟩
 ·rw[show ((1:Nat):Int)=1 from rfl] at e
  rw[Zz,Xa]
  simp only[e,Option.bind_some,if_true,F7]
 ·rw[List.nil_append,gi h0 (by omega)] at hs
  exact hs
theorem qw {s:E8} {R:List (Nat × Nat)} (h:BQ Af 2 σ s R.length (AL R)) {x:Nat} (hx:x<R.length):∃ b,s.1=some ⟨b,0,none⟩∧Ai .i64 σ b (x*2)=some (R[x].1:Int)∧Ai .i64 σ b (x*2+1)=some (R[x].2:Int):=by
 obtain ⟨b,h1,h2,h3⟩:=RJ h hx
 rw[List.getD_eq_getElem?_getD,List.getElem?_eq_getElem hx] at h2 h3
 exact ⟨b,h1,h2,h3⟩
end Go.Proofs.YtlaplcglpnlieaaGreat
end
section
namespace Go.Proofs.YtlaplcglpnlieaaGreat
open Go Go.AX
noncomputable local instance vL:AF:=Au
local instance uB:Kn:=⟨true⟩
variable {σ:Aa} {m:HM} {i:Cs} {ab:Nat} {a:AS}
theorem Yx {s:Int} {w:Nat} {g:Nat × Nat}:g ∈ Bx m s 0 w↔g ∈ MI m s∧w≤g.2:=by
 unfold Bx MI
 rw[List.mem_filterMap]
 constructor
 ·rintro ⟨g',h1,h2⟩
  have h3:=Vh h2
  subst h3
  refine ⟨h1, ?_⟩
  unfold J1 at h2
  split at h2
  ·omega
  ·cases h2
 ·rintro ⟨h1,h2⟩
  refine ⟨g,h1, ?_⟩
  unfold J1
  obtain ⟨x,y⟩:=g
  dsimp only at h2 ⊢
  rw[if_pos (by omega)]
  congr 2 <;> omega
theorem gY (M:PD m) (hw:m.wds.length=64*m.bls.length) {s:Int} {g:Nat × Nat} (hg:g ∈ MI m s):∃ b,b<m.bls.length∧(m.bls.getD b (0,0)).1=1∧(m.bls.getD b (0,0)).2=s∧64*b≤g.1∧g.1+g.2≤64*b+64∧0<g.2∧g ∈ EN m (b:Int):=by
 unfold MI Di at hg
 obtain ⟨b,hb,h⟩:=List.mem_flatMap.1 hg
 obtain ⟨h1,h2,h3⟩:=OW.1 hb
 obtain ⟨h4,h5,h6⟩:=(Sr M.inv M.inv2 hw b h1).2 g h
 exact ⟨b,h1,h2,h3,h4,h5,h6,h⟩
end Go.Proofs.YtlaplcglpnlieaaGreat
end
