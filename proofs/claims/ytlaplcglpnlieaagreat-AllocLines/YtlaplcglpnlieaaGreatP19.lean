/- Both heaps are in the same state.; A call of both heaps.; A heap that nobody made: what its methods come to.; Looks, of heaps that nobody made.; Same, -/
import Derived.Test.YtlaplcglpnlieaaGreatP18
import Derived.Test.YtlaplcglpnlieaaGreatP14
import Derived.Test.YtlaplcglpnlieaaGreatP12
import Derived.Test.YtlaplcglpnlieaaGreatP13
set_option linter.unusedVariables false
set_option linter.unusedSimpArgs false
set_option linter.unusedSectionVars false
section
namespace Go.Proofs.YtlaplcglpnlieaaGreat
open Go Go.AX
noncomputable local instance vj:AK:=Au
local instance ue:Kn:=⟨true⟩
variable {σ:Aa} {m:HM} {t:RM} {i:C8} {j:RI}
theorem mQ {s:EF} {l:List Int} (h:Cd Bq 1 σ s l.length (CS l)) {x:Nat} (hx:x<l.length):∃ b,s.1=some ⟨b,0,none⟩∧Ai .i64 σ b x=some (l.getD x 0):=by
 rcases h with ⟨h,_⟩ | ⟨b,rfl,_,_,hc⟩
 ·omega
 ·exact ⟨b,rfl,nF hc hx⟩
theorem WM {s:EF} {l:List Bool} (h:Cd DW 1 σ s l.length (Gd l)) {x:Nat} (hx:x<l.length):∃ b,s.1=some ⟨b,0,none⟩∧Wu σ b x=some (l.getD x false):=by
 rcases h with ⟨h,_⟩ | ⟨b,rfl,_,_,hc⟩
 ·omega
 ·exact ⟨b,rfl,qB hc hx⟩
theorem Tz {s:EF} {l:List (Nat × Nat)} (h:Cd Af 2 σ s l.length (Bj l)) {x:Nat} (hx:x<l.length):∃ b,s.1=some ⟨b,0,none⟩∧Ai .i64 σ b (x*2)=some ((l.getD x (0,0)).1:Int)∧Ai .i64 σ b (x*2+1)=some ((l.getD x (0,0)).2:Int):=by
 rcases h with ⟨h,_⟩ | ⟨b,rfl,_,_,hc⟩
 ·omega
 ·obtain ⟨h1,h2⟩:=W8 l x hx
  exact ⟨b,rfl,by simp only[Ai,Gs,hc,h1,Option.bind_some,Ao],by simp only[Ai,Gs,hc,h2,Option.bind_some,Ao]⟩
end Go.Proofs.YtlaplcglpnlieaaGreat
end
section
namespace Go.Proofs.YtlaplcglpnlieaaGreat
open Go Go.AX
noncomputable local instance vk:AK:=Au
local instance uf:Kn:=⟨true⟩
variable {σ:Aa} {m:HM} {t:RM} {i:C8} {j:RI}
structure pQ (i:C8) (j j':RI) (σ σ':Aa):Prop where
 len:σ.length≤σ'.length
 same:∀ q,q<σ.length→q ∉ i.l→q ∉ j.l→σ'[q]?=σ[q]?
 new:∀ q,q ∈ j'.l→q ∈ j.l∨σ.length≤q
 hb:j'.hb=j.hb
theorem Yj {a:Addr} {σ σ':Aa} {ρ:Type} (h:σ'[a.block]?=σ[a.block]?) (x:Option ρ):Sn (some a) σ σ' x=x:=by
 have:@AK.k Au σ σ' a.block=true:=by
  unfold Au
  simpa using h
 unfold Sn
 simp only[this,cond_true]
theorem dm {μ:Aa} {A:Option (Value × Aa)} {B:Aa→Option (Value × Aa)} (W:oB μ i j m t) {v:Value} {m':HM} (hA:∃ σ1,A=some (v,σ1)∧Ag σ1 i m'∧BG i μ σ1) (hI:Inv m') (hI2:Inv2 m') (hF:FZ m') (hb:B0 m') (hbr:m'.births≤1000) (hfl:m'.fw.length≤1000)
  (hR:∀ σ1,RG σ1 j m t→Ho (B σ1) σ1 j v m'):∃ σ1 σ2 j' t',A=some (v,σ1)∧B σ1=some (v,σ2)∧oB σ2 i j' m' t'∧pQ i j j' μ σ2∧(∀ q,q<μ.length→q ∉ i.l→σ1[q]?=μ[q]?):=by
 obtain ⟨σ1,eA,h1,k1⟩:=hA
 have g1:RG σ1 j m t:=W.g.Dd (fun q hq=>k1.same q (W.g.at_.lt q hq) fun hm=>W.off q hm hq) k1.len
 obtain ⟨σ2,j',t',eB,r2,s2,p2,k2⟩:=hR σ1 g1
 have h2:Ag σ2 i m':=h1.Dd fun q hq=>k2.same q (h1.lt q hq) (W.off q hq)
 refine ⟨σ1,σ2,j',t',eA,eB,⟨h2,⟨r2,s2,hI,hI2,h2.wl,h2.nb,h2.nt⟩,p2,hF,hb,fun q hq hm=>?_,hbr,hfl⟩,⟨Nat.le_trans k1.len k2.len,fun q h1' h2' h3'=>?_,fun q hq=>?_,k2.hb⟩,fun q h1' h2'=>k1.same q h1' h2'⟩
 ·rcases k2.new q hm with e | e
  ·exact W.off q hq e
  ·have:=h1.lt q hq; omega
 ·rw[k2.same q (Nat.lt_of_lt_of_le h1' k1.len) h3',k1.same q h1' h2']
 ·rcases k2.new q hq with e | e
  ·exact .inl e
  ·exact .inr (Nat.le_trans k1.len e)
theorem Fh {c:Prop} [Decidable c] {r r':Int × HM} {n:Nat} (h:c→r.2.fw.length≤n) (h':¬ c→r'.2.fw.length≤n):(if c then r else r').2.fw.length≤n:=by
 split
 ·exact h ‹_›
 ·exact h' ‹_›
theorem mY (m:HM) (x:Vu):(gb m x).2.fw.length≤m.fw.length+1:=by
 have s:m.fw.length≤m.fw.length+1:=by omega
 unfold gb
 refine Fh (fun _=>?_) fun _=>?_
 ·unfold Ce; exact Fh (fun _=>Fh (fun _=>s) fun _=>s) fun _=>s
 refine Fh (fun _=>?_) fun _=>?_
 ·unfold Ce; exact Fh (fun _=>Fh (fun _=>s) fun _=>s) fun _=>s
 refine Fh (fun _=>?_) fun _=>?_
 ·unfold HP; exact Fh (fun _=>Fh (fun _=>s) fun _=>s) fun _=>s
 refine Fh (fun _=>?_) fun _=>?_
 ·unfold Nw; exact Fh (fun _=>s) fun _=>s
 refine Fh (fun _=>?_) fun _=>?_
 ·unfold Cw
  split
  ·split
   ·exact s
   ·exact s
  ·exact s
 refine Fh (fun _=>?_) fun _=>?_
 ·unfold P2; exact Fh (fun _=>s) fun _=>s
 refine Fh (fun _=>?_) fun _=>?_
 ·unfold dc; exact Fh (fun _=>Fh (fun _=>by show (Q8 _ _ m.fw).length≤_; rw[bB]; split <;> omega) fun _=>s) fun _=>s
 refine Fh (fun _=>?_) fun _=>?_
 ·unfold Vr; exact Fh (fun _=>Fh (fun _=>s) fun _=>s) fun _=>s
 refine Fh (fun _=>?_) fun _=>?_
 ·unfold S6; exact Fh (fun _=>s) fun _=>s
 refine Fh (fun _=>?_) fun _=>?_
 ·unfold dp
  refine Fh (fun _=>?_) fun _=>s
  split
  ·exact s
  ·exact Fh (fun _=>s) fun _=>s
 refine Fh (fun _=>?_) fun _=>?_
 ·unfold cl; exact Fh (fun _=>s) fun _=>s
 refine Fh (fun _=>?_) fun _=>?_
 ·unfold cl; exact Fh (fun _=>s) fun _=>s
 exact Fh (fun _=>Nat.zero_le _) fun _=>s
end Go.Proofs.YtlaplcglpnlieaaGreat
end
section
namespace Go.Proofs.YtlaplcglpnlieaaGreat
open Go Go.AX
noncomputable local instance vm:AK:=Au
local instance uh:Kn:=⟨true⟩
def rW (σ:Aa) (p:Option Addr):Prop:=
 p=none ∨ ∃ h T rw,p=some ⟨h,0,none⟩∧σ[h]?=some (.cells [.slice none 0 0,.slice none 0 0,.pointer none,.pointer none,.map none,.map none,.int .i64 0] T rw)
theorem rW.app {σ:Aa} {p:Option Addr} (h:rW σ p) (τ:Aa):rW (σ++τ) p:=by
 rcases h with h | ⟨b,T,rw,h1,h2⟩
 ·exact .inl h
 ·refine .inr ⟨b,T,rw,h1, ?_⟩
  rw[List.getElem?_append_left (List.getElem?_eq_some_iff.1 h2).1]; exact h2
end Go.Proofs.YtlaplcglpnlieaaGreat
end
section
set_option maxRecDepth 10000
namespace Go.Proofs.YtlaplcglpnlieaaGreat
open Go Go.AX
noncomputable local instance sR:AK:=Au
local instance sP:Kn:=⟨true⟩
end Go.Proofs.YtlaplcglpnlieaaGreat
end
section
set_option maxRecDepth 10000
namespace Go.Proofs.YtlaplcglpnlieaaGreat
open Go Go.AX
noncomputable local instance vn:AK:=Au
local instance ui:Kn:=⟨true⟩
variable {σ:Aa}
end Go.Proofs.YtlaplcglpnlieaaGreat
end
section
namespace Go.Proofs.YtlaplcglpnlieaaGreat
open Go Go.AX
noncomputable local instance vl:AK:=Au
local instance ug:Kn:=⟨true⟩
variable {σ:Aa} {m:HM} {t:RM} {i:C8} {j:RI}
end Go.Proofs.YtlaplcglpnlieaaGreat
end
section
namespace Go.Proofs.YtlaplcglpnlieaaGreat
open Go Go.AX
noncomputable local instance u6:AK:=Au
local instance tr:Kn:=⟨true⟩
variable {σ:Aa} {i:C8} {m:HM}
structure AS where
 s:Int
 p:Int
 c:Int
 l:Int
 oc:Int
 ol:Int
def AS.row (a:AS) (hb:Nat):List Value:=[.pointer (some ⟨hb,0,none⟩),.int .i64 a.s,.int .i64 a.p,.int .i64 a.c,.int .i64 a.l,.int .i64 a.oc,.int .i64 a.ol]
def Cc (σ:Aa) (ab:Nat) (i:C8) (a:AS):Prop:=σ[ab]?=some (.cells (a.row i.hb) AV true)
structure AS.ok (a:AS):Prop where
 s0:0≤a.s∧a.s<8
 p0:0≤a.p∧a.p<5
 c0:0≤a.c∧a.c≤10000
 l0:0≤a.l∧a.l≤10000
 oc0:0≤a.oc∧a.oc≤10000
 ol0:0≤a.ol∧a.ol≤10000
abbrev D3 (ab:Nat):Option Addr:=some ⟨ab,0,none⟩
variable {ab:Nat} {a:AS}
theorem Cc.X9 (h:Cc σ ab i a):Jb σ ab 0=some (En i):=by unfold Cc AS.row at h; simp[Jb,Gs,h,VD]
theorem Cc.l1 (h:Cc σ ab i a):Ai .i64 σ ab 1=some a.s:=by unfold Cc AS.row at h; simp[Ai,Gs,h,BF]
theorem Cc.l2 (h:Cc σ ab i a):Ai .i64 σ ab 2=some a.p:=by unfold Cc AS.row at h; simp[Ai,Gs,h,BF]
theorem Cc.l3 (h:Cc σ ab i a):Ai .i64 σ ab 3=some a.c:=by unfold Cc AS.row at h; simp[Ai,Gs,h,BF]
theorem Cc.l4 (h:Cc σ ab i a):Ai .i64 σ ab 4=some a.l:=by unfold Cc AS.row at h; simp[Ai,Gs,h,BF]
theorem Cc.l5 (h:Cc σ ab i a):Ai .i64 σ ab 5=some a.oc:=by unfold Cc AS.row at h; simp[Ai,Gs,h,BF]
theorem Cc.l6 (h:Cc σ ab i a):Ai .i64 σ ab 6=some a.ol:=by unfold Cc AS.row at h; simp[Ai,Gs,h,BF]
theorem Cc.lt (h:Cc σ ab i a):ab<σ.length:=Ae h
theorem Cc.Dd {σ':Aa} (h:Cc σ ab i a) (hs:σ'[ab]?=σ[ab]?):Cc σ' ab i a:=by unfold Cc; rw[hs]; exact h
theorem Cc.app (h:Cc σ ab i a) (τ:Aa):Cc (σ++τ) ab i a:=h.Dd (List.getElem?_append_left h.lt)
theorem Cc.Wr {σ':Aa} (h:Cc σ ab i a) (k:BG i σ σ') (hab:ab ∉ i.l):Cc σ' ab i a:=h.Dd (k.same ab h.lt hab)
theorem Cc.put (h:Cc σ ab i a) (a':AS):Cc (σ.set ab (.cells (a'.row i.hb) AV true)) ab i a':=by
 unfold Cc; rw[List.getElem?_set_self h.lt]
theorem Cc.st (h:Cc σ ab i a) (o:Nat) (vs:List Value) (a':AS) (hv:AF (a.row i.hb) o vs=a'.row i.hb) (hl:o+vs.length≤7):Kj σ ab o vs=some (σ.set ab (.cells (a'.row i.hb) AV true)):=by
 have h':=h
 unfold Cc at h'
 simp only[Kj,h']
 rw[if_pos (by simpa [AS.row] using hl),hv]
theorem Cc.Gz (h:Cc σ ab i a) (o:Nat) (v:Value) (a':AS) (hv:(a.row i.hb).set o v=a'.row i.hb) (hl:o<7):AX.Gz σ ab o v=some (σ.set ab (.cells (a'.row i.hb) AV true)):=by
 have h':=h
 unfold Cc at h'
 simp only[AX.Gz,h']
 rw[if_pos (by simpa [AS.row] using hl),hv]
structure Ck (i:C8) (ab:Nat) (σ σ':Aa):Prop where
 len:σ.length≤σ'.length
 same:∀ j,j<σ.length→j ∉ i.l→j≠ab→σ'[j]?=σ[j]?
theorem Ck.of {σ':Aa} (h:BG i σ σ'):Ck i ab σ σ':=⟨h.len,fun j h1 h2 _=>h.same j h1 h2⟩
theorem Ck.trans {x y z:Aa} (h:Ck i ab x y) (g:Ck i ab y z):Ck i ab x z:=
 ⟨Nat.le_trans h.len g.len,fun j h1 h2 h3=>(g.same j (Nat.lt_of_lt_of_le h1 h.len) h2 h3).trans (h.same j h1 h2 h3)⟩
theorem Ck.app (σ τ:Aa):Ck i ab σ (σ++τ):=.of (BG.app i σ τ)
theorem Ck.set (σ:Aa) (o:AP):Ck i ab σ (σ.set ab o):=⟨by simp,fun j _ _ h=>List.getElem?_set_ne fun e=>h e.symm⟩
theorem Ck.refl (σ:Aa):Ck i ab σ σ:=.of (BG.refl i σ)
theorem Ag.RE (h:Ag σ i m) (hab:ab ∉ i.l) (o:AP):Ag (σ.set ab o) i m:=h.Dd fun j hj=>List.getElem?_set_ne fun e=>hab (by rw[e]; exact hj)
theorem sb (x:Addr):SE P Hh (.pointer (some x)) (.pointer none)=some false:=by kernel_rfl
theorem rm (x:Addr):SE P Jw (.pointer (some x)) (.pointer none)=some false:=by kernel_rfl
theorem ZP (k:Nat) (hA:Cc σ ab i a):Bz (k+1) (D3 ab) σ=some (.bool true,σ):=by
 rw[KZ,Jj]
 simp only[sb,Option.bind_some,Bool.not_false,cond_true,Nat.zero_add,Nat.add_zero,hA.X9,rm]
def Sj (m:HM):Nat→Nat→Option Nat
 | 0,_=>none
 | n+1,x=>if (m.bls.getD x (0,0)).1=0∧(m.bls.getD x (0,0)).2=0 then some x else Sj m n (x+1)
def Qp (m:HM):Option Nat:=Sj m (m.bls.length-1) 1
def GG (m:HM) (b:Nat) (s:Int):HM:=(Ce m (b:Int) 1 1 s 0 0).2
theorem kX (m:HM) {x:Nat} {s:Int} (h1:1≤x) (hx:x<m.bls.length) (hs:0≤s∧s<8):
  Ce m (x:Int) 1 1 s 0 0=if (m.bls.getD x (0,0)).1=0∧(m.bls.getD x (0,0)).2=0 then (0,GG m x s) else (8,m):=by
 have e:(1≤(x:Int)∧(x:Int)<(m.bls.length:Int)∧(1:Int)≤1∧(1:Int)≤(m.bls.length:Int)-(x:Int)∧UP s=true):=⟨by omega,by omega,by omega,by omega,by unfold UP; simpa using hs⟩
 have u:Im m.bls x 1 0=if (m.bls.getD x (0,0)).1=0∧(m.bls.getD x (0,0)).2=0 then none else some 0:=by
  simp only[Im,Nat.add_zero]
 unfold GG Ce
 rw[if_pos e,Int.toNat_natCast,show (1:Int).toNat=1 from rfl,u]
 by_cases hf:(m.bls.getD x (0,0)).1=0∧(m.bls.getD x (0,0)).2=0
 ·simp only[hf,and_self,if_true]
 ·simp only[hf,if_false]; simp
theorem Ig {n x b:Nat} (h:Sj m n x=some b):x≤b∧b<x+n∧(m.bls.getD b (0,0)).1=0∧(m.bls.getD b (0,0)).2=0:=by
 induction n generalizing x with
 | zero=>cases h
 | succ n ih=>
   unfold Sj at h
   split at h
   ·cases h; omega
   ·have:=ih h; omega
def H7 (x y:Int):AP:=.cells [.int .i64 x,.int .i64 y] Em true
theorem YH (k:Nat) (hk:5000≤k) (hab:ab ∉ i.l) (hs:0≤a.s∧a.s<8) {h1:Nat} (hh1:h1 ∉ i.l) (hha:h1≠ab):∀ (n x f:Nat) (σ:Aa),Ag σ i m→Cc σ ab i a→σ[h1]?=some (H7 0 0)→1≤x→x+n=m.bls.length→n<f →
  ∃ σ',BN (k+8) f (D3 ab) h1 (x:Int) σ=some (match Sj m n x with | some b=>(.ret,[.bool true],σ') | none=>(.exit 0,[],σ'))∧Ag σ' i (match Sj m n x with | some b=>GG m b a.s | none=>m) ∧
   σ'[h1]?=some (match Sj m n x with | some b=>H7 (64*(b:Int)) (64*(b:Int)+64) | none=>H7 0 0)∧σ.length≤σ'.length ∧ ∀ q,q<σ.length→q ∉ i.l→q≠h1→σ'[q]?=σ[q]?
 | n,x,0,σ,h,hA,hc,hx,hn,hf=>by omega
 | 0,x,f+1,σ,h,hA,hc,hx,hn,hf=>by
   rw[Gm,Fk]
   refine ⟨σ, ?_,h,hc,Nat.le_refl _,fun _ _ _ _=>rfl⟩
   simp only[Option.bind_some,Nat.add_zero,hA.X9,Mx (k+6) h,Ao,decide_eq_false (show ¬ (x:Int)<((m.bls.length:Nat):Int) by omega),cond_false,Sj]
 | n+1,x,f+1,σ,h,hA,hc,hx,hn,hf=>by
   have hnt:=h.nt
   obtain ⟨σ1,e1,g1,k1⟩:=ZE (k+1) (by omega) h (x:Int) a.s (by unfold AY; omega)
   have hA1:=hA.Wr k1 hab
   rw[kX m hx (by omega) hs] at e1 g1
   have hc1:=(k1.same h1 (Ae hc) hh1).trans hc
   have w1:Ac ((x:Int)+1)=((x+1:Nat):Int):=Ad (by unfold AY; omega)
   have w2:Ac ((x:Int)*64)=64*(x:Int):=by rw[Ad (by unfold AY; omega)]; omega
   have w3:Ac (((x+1:Nat):Int)*64)=64*(x:Int)+64:=by rw[Ad (by unfold AY; omega)]; omega
   rw[Gm,Fk]
   simp only[Option.bind_some,Nat.add_zero,hA.X9,Mx (k+6) h,Ao,decide_eq_true (show (x:Int)<((m.bls.length:Nat):Int) by omega),cond_true,Nat.zero_add,hA.l1,e1,Sj]
   by_cases hfr:(m.bls.getD x (0,0)).1=0∧(m.bls.getD x (0,0)).2=0
   ·simp only[hfr,and_self,if_true] at g1 ⊢
    refine ⟨σ1.set h1 (H7 (64*(x:Int)) (64*(x:Int)+64)), ?_,g1.Dd fun j hj=>List.getElem?_set_ne fun e=>hh1 (by rw[e]; exact hj),by rw[List.getElem?_set_self (Ae hc1)],by simpa using k1.len,fun q hq h2 h3=>by rw[List.getElem?_set_ne (fun e=>h3 e.symm)]; exact k1.same q hq h2⟩
    simp only[beq_self_eq_true,cond_true,w1,w2,w3,Kj,hc1,H7]
    rfl
   ·simp only[hfr,if_false] at g1 ⊢
    obtain ⟨σ2,e2,g2,c2,l2,s2⟩:=YH k hk hab hs hh1 hha n (x+1) f σ1 g1 hA1 hc1 (by omega) (by omega) (by omega)
    refine ⟨σ2, ?_,g2,c2,Nat.le_trans k1.len l2,fun q hq h2 h3=>by rw[s2 q (Nat.lt_of_lt_of_le hq k1.len) h2 h3]; exact k1.same q hq h2⟩
    simp only[show ((8:Int) == 0)=false from rfl,cond_false,w1,e2]
def WS (m:HM):Int × Int × Bool:=match Qp m with | some b=>(64*(b:Int),64*(b:Int)+64,true) | none=>(0,0,false)
def Uy (m:HM) (s:Int):HM:=match Qp m with | some b=>GG m b s | none=>m
theorem ZV (k:Nat) (hk:5000≤k) (h:Ag σ i m) (hA:Cc σ ab i a) (hab:ab ∉ i.l) (hs:0≤a.s∧a.s<8):
  ∃ σ',Bs (k+9) (D3 ab) σ=some (.tuple #[.agg #[.int .i64 (WS m).1,.int .i64 (WS m).2.1],.bool (WS m).2.2],σ')∧Ag σ' i (Uy m a.s)∧BG i σ σ':=by
 have hnt:=h.nt; have hnb:=h.nb
 have hlt:=hA.lt
 obtain ⟨σ1,e1,g1,c1,l1,s1⟩:=YH k hk hab hs (h1:=σ.length) (fun hm=>Nat.lt_irrefl _ (h.lt _ hm)) (by omega) (m.bls.length-1) 1 (k+8) (σ++[H7 0 0]) (h.app _) (hA.app _) (by simp) (Nat.le_refl _) (by omega) (by omega)
 have kp:BG i σ σ1:=⟨by simp at l1; omega,fun q hq h2=>by rw[s1 q (by simp; omega) h2 (by omega),List.getElem?_append_left hq]⟩
 rw[Ky,I6]
 simp only[An,show (AP.cells [.int .i64 0,.int .i64 0] Em true)=H7 0 0 from rfl]
 rw[show ((1:Nat):Int)=1 from rfl] at e1
 unfold WS Uy Qp
 simp only[e1]
 cases hfr:Sj m (m.bls.length-1) 1 with
 | none=>
   simp only[hfr] at g1 c1
   refine ⟨σ1.set σ.length (H7 0 0), ?_,g1.Dd fun j hj=>List.getElem?_set_ne fun e=>Nat.lt_irrefl σ.length (by have:=h.lt _ hj; omega),kp.trans ⟨by simp,fun q hq h2=>?_⟩⟩
   ·simp only[Option.bind_some,if_true,Kj,c1,H7,Ue]
    simp[AF,Q3,List.getElem?_set_self (Ae c1)]
   ·rcases Nat.lt_trichotomy q σ.length with e | e | e
    ·rw[List.getElem?_set_ne (by omega)]
    ·rw[e,List.getElem?_set_self (Ae c1),c1]
    ·rw[List.getElem?_set_ne (by omega)]
 | some b=>
   simp only[hfr] at g1 c1
   refine ⟨σ1, ?_,g1,kp⟩
   simp only[Option.bind_some,show (Bk.ret=Bk.exit 0)=False from by simp,if_false,if_true,T8,Ue,c1,H7]
   rfl
def Ui (m:HM) (b:Int):Int:=if 0≤b∧b<(m.bls.length:Int) then (m.bls.getD b.toNat (0,0)).2 else -1
theorem oL (k:Nat) (h:Ag σ i m) (b:Int):Co (k+3) (En i) b σ=some (.int .i64 (Ui m b),σ):=by
 unfold Ui
 by_cases hb:0≤b∧b<(m.bls.length:Int)
 ·rw[if_pos hb]
  obtain ⟨n,rfl⟩:∃ n:Nat,b=(n:Int):=⟨b.toNat,by omega⟩
  rw[Int.toNat_natCast]
  exact fE k h (by omega)
 ·rw[if_neg hb,K7,JX]
  by_cases h0:b<0
  ·simp only[decide_eq_true h0,cond_true,Option.bind_some]
  ·simp only[decide_eq_false h0,cond_false,Mx k h,Option.bind_some,Ao,decide_eq_true (show b≥((m.bls.length:Nat):Int) by omega),cond_true]
end Go.Proofs.YtlaplcglpnlieaaGreat
end
section
namespace Go.Proofs.YtlaplcglpnlieaaGreat
open Go Go.AX
noncomputable local instance u7:AK:=Au
local instance tt:Kn:=⟨true⟩
variable {σ:Aa} {i:C8} {m:HM} {ab:Nat} {a:AS}
def AS.cu (a:AS) (v:Bool):Int:=bif v then a.oc else a.c
def AS.li (a:AS) (v:Bool):Int:=bif v then a.ol else a.l
def AS.put (a:AS) (v:Bool) (x y:Int):AS:=bif v then { a with oc:=x,ol:=y } else { a with c:=x,l:=y }
def mz (v:Bool):Nat:=bif v then 5 else 3
theorem Cc.lc (h:Cc σ ab i a) (v:Bool):Ai .i64 σ ab (mz v)=some (a.cu v):=match v with | false=>h.l3 | true=>h.l5
theorem Cc.ll (h:Cc σ ab i a) (v:Bool):Ai .i64 σ ab (mz v+1)=some (a.li v):=match v with | false=>h.l4 | true=>h.l6
theorem Cc.rU (h:Cc σ ab i a) (v:Bool) (x y:Int):Kj σ ab (mz v) [.int .i64 x,.int .i64 y]=some (σ.set ab (.cells ((a.put v x y).row i.hb) AV true)):=by
 cases v
 ·exact h.st 3 _ (a.put false x y) rfl (by simp)
 ·exact h.st 5 _ (a.put true x y) rfl (by simp)
theorem Cc.sH (h:Cc σ ab i a) (v:Bool) (x:Int):AX.Gz σ ab (mz v) (.int .i64 x)=some (σ.set ab (.cells ((a.put v x (a.li v)).row i.hb) AV true)):=by
 cases v
 ·exact h.Gz 3 _ (a.put false x a.l) rfl (by decide)
 ·exact h.Gz 5 _ (a.put true x a.ol) rfl (by decide)
theorem AS.ok.cu (h:a.ok) (v:Bool):0≤a.cu v∧a.cu v≤10000∧0≤a.li v∧a.li v≤10000:=by
 have h1:=h.c0; have h2:=h.l0; have h3:=h.oc0; have h4:=h.ol0
 cases v <;> simp only[AS.cu,AS.li,cond_true,cond_false] <;> omega
theorem AS.ok.put (h:a.ok) (v:Bool) {x y:Int} (hx:0≤x∧x≤10000) (hy:0≤y∧y≤10000):(a.put v x y).ok:=by
 cases v
 ·exact ⟨h.s0,h.p0,hx,hy,h.oc0,h.ol0⟩
 ·exact ⟨h.s0,h.p0,h.c0,h.l0,hx,hy⟩
theorem gJ (a:AS) (v:Bool) (x y:Int):(a.put v x y).s=a.s:=by cases v <;> rfl
theorem gI (a:AS) (v:Bool) (x y:Int):(a.put v x y).p=a.p:=by cases v <;> rfl
theorem jE (a:AS) (v:Bool) (x y:Int):(a.put v x y).cu v=x∧(a.put v x y).li v=y:=by cases v <;> exact ⟨rfl,rfl⟩
theorem po (a:AS) (v:Bool) (x y z w:Int):(a.put v x y).put v z w=a.put v z w:=by cases v <;> rfl
theorem pE (μ:Aa) (T:TypeId) (p q x y:Value):Kj (μ++[.cells [p,q] T true]) μ.length 0 [x,y]=some (μ++[.cells [x,y] T true]):=by
 simp[Kj,AF]
theorem js (μ:Aa) (T:TypeId) (x y:Int):Ai .i64 (μ++[.cells [.int .i64 x,.int .i64 y] T true]) μ.length 0=some x∧Ai .i64 (μ++[.cells [.int .i64 x,.int .i64 y] T true]) μ.length 1=some y:=by
 simp[Ai,Gs,BF]
theorem nn (k:Nat) (hA:Cc σ ab i a) (ho:a.ok) (v:Bool) (w:Int):DD (k+1) (some ⟨ab,mz v,none⟩) w σ=some (.bool (decide (a.li v-a.cu v≥w)),σ):=by
 have:=ho.cu v
 rw[Po,NO]
 simp only[Option.bind_some,Nat.add_zero,hA.lc,hA.ll,Ad (show AY (a.li v-a.cu v) by unfold AY; omega)]
theorem fj (k:Nat) (hA:Cc σ ab i a) (ho:a.ok) (v:Bool) {w:Int} (hw:0≤w∧w≤1000):De (k+1) (some ⟨ab,mz v,none⟩) w σ=some (.int .i64 (a.cu v),σ.set ab (.cells ((a.put v (a.cu v+w) (a.li v)).row i.hb) AV true)):=by
 have:=ho.cu v
 rw[OB,MP]
 have e1:Ac (a.cu v+w)=a.cu v+w:=Ad (by unfold AY; omega)
 have e2:Ac (a.cu v+w-w)=a.cu v:=by rw[Ad (by unfold AY; omega)]; omega
 simp only[Option.bind_some,Nat.add_zero,hA.lc,e1,hA.sH,(hA.put _).lc,jE,e2]
abbrev PR:=(Int × Bool) × HM × AS
def bU (mm:Option (Value × Aa)) (σ:Aa) (i:C8) (ab:Nat) (r:PR):Prop:=
 ∃ σ',mm=some (.tuple #[.int .i64 r.1.1,.bool r.1.2],σ')∧Ag σ' i r.2.1∧Cc σ' ab i r.2.2∧Ck i ab σ σ'
def DS (m:HM) (a:AS) (v:Bool) (w:Int):PR:=
 if a.li v-a.cu v≥w then ((a.cu v,true),m,a.put v (a.cu v+w) (a.li v))
 else match Qp m with
  | some b=>((64*(b:Int),true),GG m b a.s,a.put v (64*(b:Int)+w) (64*(b:Int)+64))
  | none=>((0,false),m,a)
theorem cA (k:Nat) (hk:5000≤k) (h:Ag σ i m) (hA:Cc σ ab i a) (hab:ab ∉ i.l) (ho:a.ok) (v:Bool) {w:Int} (hw:0≤w∧w≤1000):
  bU (Bw (k+10) (D3 ab) (some ⟨ab,mz v,none⟩) w σ) σ i ab (DS m a v w):=by
 have hcu:=ho.cu v
 have hnt:=h.nt
 rw[JZ,Ib]
 simp only[nn (k+8) hA ho v w,Option.bind_some,As]
 unfold DS
 by_cases q:a.li v-a.cu v≥w
 ·rw[if_pos q]
  simp only[decide_eq_true q,Bool.not_true,cond_false,Option.bind_some,if_true,fj (k+8) hA ho v hw,Ao]
  exact ⟨_,rfl,h.RE hab _,hA.put _,Ck.set _ _⟩
 ·rw[if_neg q]
  obtain ⟨σ1,e1,g1,k1⟩:=ZV k hk h hA hab ho.s0
  have hA1:=hA.Wr k1 hab
  simp only[decide_eq_false q,Bool.not_false,cond_true,e1,Option.bind_some,Zg,List.length_cons,List.length_nil,List.head?_cons,List.tail_cons,Z2,As,An,pE,Nat.zero_add,Nat.reduceAdd,if_true]
  unfold WS Uy at *
  cases hfr:Qp m with
  | none=>
    simp only[hfr] at g1 ⊢
    simp only[Bool.not_false,cond_true,Option.bind_some,show (Bk.ret=Bk.normal)=False from by simp,if_false,if_true,X7]
    exact ⟨_,rfl,g1.app _,hA1.app _,(Ck.of k1).trans (Ck.app _ _)⟩
  | some b=>
    simp only[hfr] at g1 ⊢
    have hb:=Ig hfr
    obtain ⟨l0,l1⟩:=js σ1 Em (64*(b:Int)) (64*(b:Int)+64)
    have hA2:=hA1.app [.cells [.int .i64 (64*(b:Int)),.int .i64 (64*(b:Int)+64)] Em true]
    have hA3:=hA2.put (a.put v (64*(b:Int)) (64*(b:Int)+64))
    have ho3:(a.put v (64*(b:Int)) (64*(b:Int)+64)).ok:=ho.put v (by omega) (by omega)
    have t3:=fj (k+8) hA3 ho3 v hw
    rw[(jE _ _ _ _).1,(jE _ _ _ _).2,po] at t3
    simp only[Bool.not_true,cond_false,l0,l1,Option.bind_some,hA2.rU,if_true,t3,Ao]
    exact ⟨_,rfl,((g1.app _).RE hab _).RE hab _,hA3.put _,(((Ck.of k1).trans (Ck.app _ _)).trans (Ck.set _ _)).trans (Ck.set _ _)⟩
theorem ca (k:Nat) (hk:5000≤k) (h:Ag σ i m) (hA:Cc σ ab i a) (hab:ab ∉ i.l) (ho:a.ok) {w:Int} (hw:0≤w∧w≤1000):
  bU (Dt (k+11) (D3 ab) w σ) σ i ab (DS m a false w):=by
 obtain ⟨σ1,e1,g1,a1,k1⟩:=cA k hk (h.app [.cells [] RF true]) (hA.app _) hab ho false hw
 rw[N9,LW]
 refine ⟨σ1, ?_,g1,a1,(Ck.app _ _).trans k1⟩
 rw[show mz false=3 from rfl] at e1
 simp only[An,Option.bind_some,Nat.zero_add,e1,Tl]
theorem iW {b c x y x' y':Int} (h:(Ce m b c x y x' y').1≠0):(Ce m b c x y x' y').2=m:=by
 unfold Ce at *
 split at h
 ·split at h
  ·exact absurd rfl h
  ·rename_i h1 h2; rw[if_pos h1,if_neg h2]
 ·rename_i h1; rw[if_neg h1]
def kr (m:HM) (c:Nat) (s:Int):Nat→Nat→Option Nat
 | 0,_=>none
 | n+1,x=>if x+c≤m.bls.length then (if (Ce m (x:Int) (c:Int) 2 s 3 s).1=0 then some x else kr m c s n (x+1)) else none
theorem YN (k:Nat) (hk:5000≤k) (hab:ab ∉ i.l) {c:Nat} (hc:c≤100):∀ (n x f:Nat) (σ:Aa),Ag σ i m→Cc σ ab i a→x≤100→m.bls.length<x+n→n<f →
  ∃ σ',BO (k+8) f (D3 ab) (c:Int) (x:Int) σ=some (match kr m c a.s n x with | some b=>(.ret,[.int .i64 (64*(b:Int)),.bool true],σ') | none=>(.exit 0,[],σ'))∧Ag σ' i (match kr m c a.s n x with | some b=>(Ce m (b:Int) (c:Int) 2 a.s 3 a.s).2 | none=>m)∧BG i σ σ'
 | n,x,0,σ,h,hA,hx,hn,hf=>by omega
 | n,x,f+1,σ,h,hA,hx,hn,hf=>by
   have hnt:=h.nt
   have w0:Ac ((x:Int)+(c:Int))=((x+c:Nat):Int):=Ad (by unfold AY; omega)
   rw[Jc,GX]
   simp only[Option.bind_some,Nat.add_zero,Nat.zero_add,hA.X9,Mx (k+6) h,Ao,w0]
   by_cases q:x+c≤m.bls.length
   ·obtain ⟨n,rfl⟩:∃ n',n=n'+1:=⟨n-1,by omega⟩
    obtain ⟨σ1,e1,g1,k1⟩:=Zm (k+1) (by omega) h (x:Int) (c:Int) a.s (by unfold AY; omega) (by unfold AY; omega)
    simp only[decide_eq_true (show ((x+c:Nat):Int)≤((m.bls.length:Nat):Int) by omega),cond_true,hA.l1,Option.bind_some,e1,Ao,kr,if_pos q]
    by_cases q2:(Ce m (x:Int) (c:Int) 2 a.s 3 a.s).1=0
    ·refine ⟨σ1, ?_, ?_,k1⟩
     ·simp only[q2,beq_self_eq_true,cond_true,if_true]
      rw[show Ac ((x:Int)*64)=64*(x:Int) from by rw[Ad (by unfold AY; omega)]; omega]
     ·simp only[q2,if_true]; exact g1
    ·rw[iW q2] at g1
     obtain ⟨σ2,e2,g2,k2⟩:=YN k hk hab hc n (x+1) f σ1 g1 (hA.Wr k1 hab) (by omega) (by omega) (by omega)
     refine ⟨σ2, ?_, ?_,k1.trans k2⟩
     ·simp only[show ((Ce m (x:Int) (c:Int) 2 a.s 3 a.s).1 == 0)=false from by simpa using q2,cond_false,if_neg q2]
      rw[show Ac ((x:Int)+1)=((x+1:Nat):Int) from Ad (by unfold AY; omega)]
      exact e2
     ·simp only[if_neg q2]; exact g2
   ·have z:kr m c a.s n x=none:=by
     cases n with
     | zero=>rfl
     | succ n=>simp only[kr,if_neg q]
    refine ⟨σ, ?_, ?_,BG.refl _ _⟩
    ·simp only[decide_eq_false (show ¬ ((x+c:Nat):Int)≤((m.bls.length:Nat):Int) by omega),cond_false,z]
    ·simp only[z]; exact h
def Mi (m:HM) (a:AS) (w:Int):PR:=
 match kr m ((w.toNat+63)/64) a.s m.bls.length 1 with
 | some b=>((64*(b:Int),true),(Ce m (b:Int) (((w.toNat+63)/64:Nat):Int) 2 a.s 3 a.s).2,a)
 | none=>((0,false),m,a)
theorem nC (k:Nat) (hk:5000≤k) (h:Ag σ i m) (hA:Cc σ ab i a) (hab:ab ∉ i.l) {w:Int} (hw:0≤w∧w≤1000):
  bU (BQ (k+9) (D3 ab) w σ) σ i ab (Mi m a w):=by
 have hnt:=h.nt
 obtain ⟨w,rfl⟩:∃ n:Nat,w=(n:Int):=⟨w.toNat,by omega⟩
 have e1:Ac (Ac (Ac ((w:Int)+64)-1))=Ac (Ac ((w:Int)+64)-1):=by
  rw[Ad (show AY ((w:Int)+64) by unfold AY; omega),Ad (show AY ((w:Int)+64-1) by unfold AY; omega),Ad (by unfold AY; omega)]
 have e2:Ac ((Ac (Ac ((w:Int)+64)-1)).tdiv 64)=(((w+63)/64:Nat):Int):=by
  rw[Ad (show AY ((w:Int)+64) by unfold AY; omega),Ad (show AY ((w:Int)+64-1) by unfold AY; omega),show (w:Int)+64-1=((w+63:Nat):Int) from by omega,show (((w+63:Nat):Int).tdiv 64)=(((w+63)/64:Nat):Int) from rfl]
  exact Ad (by unfold AY; omega)
 obtain ⟨σ1,e3,g1,k1⟩:=YN k hk hab (c:=(w+63)/64) (a:=a) (by omega) m.bls.length 1 (k+8) σ h hA (by omega) (by omega) (by omega)
 rw[show ((1:Nat):Int)=1 from rfl] at e3
 rw[Kz,I7]
 rw[if_neg (by decide)]
 unfold Mi bU
 simp only[e2,e3,Int.toNat_natCast,Option.bind_some]
 cases hl:kr m ((w+63)/64) a.s m.bls.length 1 with
 | none=>
   simp only[hl] at g1 ⊢
   exact ⟨σ1,by simp only[if_true],g1,hA.Wr k1 hab,Ck.of k1⟩
 | some b=>
   simp only[hl] at g1 ⊢
   exact ⟨σ1,by simp only[show (Bk.ret=Bk.exit 0)=False from by simp,if_false,if_true,X7],g1,hA.Wr k1 hab,Ck.of k1⟩
end Go.Proofs.YtlaplcglpnlieaaGreat
end
section
namespace Go.Proofs.YtlaplcglpnlieaaGreat
open Go Go.AX
noncomputable local instance u9:AK:=Au
local instance tu:Kn:=⟨true⟩
variable {σ:Aa} {i:C8} {m:HM} {ab:Nat} {a:AS}
def si:Nat→TypeId
 | 0=>IX
 | 1=>LO
 | 2=>JF
 | 3=>RF
 | _=>F1
def Wy (n:Nat):Value:=.iface (si n) (.agg #[])
def jD:AP:=.cells [Wy 0,Wy 1,Wy 2,Wy 3,Wy 4] TI true
theorem YU (k:Nat) (σ:Aa):DE (k+1) σ=some (.slice (some ⟨σ.length,0,none⟩) 5 5,σ++[jD]):=by
 rw[Pp,NP]; rfl
def rT (p w:Int):Value:=if w>32 then .func (.func LG) #[] #[] else .func (.method "dustcart/alloc.place") #[Wy p.toNat] #[]
def BH (m:HM) (a:AS) (r d c:Int) (pr:PR):(Int × Int) × HM × AS:=
 if valid r d c=true then
  (if pr.1.2=true then
   (if Ui pr.2.1 (pr.1.1.tdiv 64)=a.s then
    (if (Cw pr.2.1 pr.1.1 r d c).2.1=0 then ((pr.1.1,0),(Cw pr.2.1 pr.1.1 r d c).2.2,pr.2.2) else ((0,6),(Cw pr.2.1 pr.1.1 r d c).2.2,a))
   else ((0,6),pr.2.1,a))
  else ((0,6),pr.2.1,pr.2.2))
 else ((0,2),m,a)
def pP (mm:Option (Value × Aa)) (σ:Aa) (i:C8) (ab:Nat) (r:(Int × Int) × HM × AS):Prop:=
 ∃ σ',mm=some (.tuple #[.int .i64 r.1.1,.int .i64 r.1.2],σ')∧Ag σ' i r.2.1∧Cc σ' ab i r.2.2∧Ck i ab σ σ'
theorem sm (μ:Aa) (T:TypeId) (p q x y z u w p' q' x' y' z' u' w':Value):Kj (μ++[.cells [p,q,x,y,z,u,w] T true]) μ.length 0 [p',q',x',y',z',u',w']=some (μ++[.cells [p',q',x',y',z',u',w'] T true]):=by
 simp[Kj,AF]
set_option maxHeartbeats 1000000 in
theorem m7 (k:Nat) (hk:5000≤k) (h:Ag σ i m) (hA:Cc σ ab i a) (hab:ab ∉ i.l) (ho:a.ok) {r d c:Int} (pr:PR)
  (hp:valid r d c=true → ∀ σ0,Ag σ0 i m→Cc σ0 ab i a→bU (Cf (k+12) (rT a.p (words r d c)) [.pointer (D3 ab),.int .i64 (words r d c)] σ0) σ0 i ab pr)
  (hI:valid r d c=true→Inv pr.2.1) (hb:valid r d c=true→pr.2.1.births<1000000) (hadr:valid r d c=true→0≤pr.1.1∧pr.1.1≤10000) (hps:valid r d c=true→pr.2.2.s=a.s):
  pP (AM (k+13) (D3 ab) r d c σ) σ i ab (BH m a r d c pr):=by
 have hlt:=hA.lt
 rw[Kx,I5]
 simp only[An]
 obtain ⟨μ0,hμ0⟩:∃ μ0,σ++[AP.cells [Value.int .i64 r,.int .i64 d,.int .i64 c] Al true]=μ0:=⟨_,rfl⟩
 rw[hμ0]
 have h0:Ag μ0 i m:=hμ0 ▸ h.app _
 have A0:Cc μ0 ab i a:=hμ0 ▸ hA.app _
 have K0:Ck i ab σ μ0:=hμ0 ▸ Ck.app σ _
 have S0:μ0[σ.length]?=some (AP.cells [Value.int .i64 r,.int .i64 d,.int .i64 c] Al true):=by rw[← hμ0]; simp
 have bx:∀ {μ:Aa},μ[σ.length]?=some (AP.cells [Value.int .i64 r,.int .i64 d,.int .i64 c] Al true)→Ai .i64 μ σ.length 0=some r∧Ai .i64 μ σ.length 1=some d∧Ai .i64 μ σ.length 2=some c:=by
  intro μ hm; simp[Ai,Gs,hm,BF]
 obtain ⟨b0,b1,b2⟩:=bx S0
 obtain ⟨τ1,e1⟩:=R7 (k+11) r d c μ0
 simp only[ZP (k+11) A0,Option.bind_some,As,Bool.not_true,cond_false,Nat.zero_add,Nat.reduceAdd,b0,b1,b2,e1]
 unfold BH
 cases hv:valid r d c with
 | false=>
   simp only[Bool.not_false,cond_true,Bool.false_eq_true,if_false]
   exact ⟨μ0++τ1,rfl,h0.app _,A0.app _,K0.trans (Ck.app _ _)⟩
 | true=>
   have ha1:=hadr hv
   obtain ⟨τ2,e2⟩:=LI (k+10) r d c (μ0++τ1)
   have S1:(μ0++τ1)[σ.length]?=some (AP.cells [Value.int .i64 r,.int .i64 d,.int .i64 c] Al true):=by rw[List.getElem?_append_left (Ae S0)]; exact S0
   obtain ⟨c0,c1,c2⟩:=bx S1
   obtain ⟨μ2,hμ2⟩:∃ μ2,μ0++τ1++τ2=μ2:=⟨_,rfl⟩
   rw[hμ2] at e2
   have h2:Ag μ2 i m:=hμ2 ▸ (h0.app _).app _
   have A2:Cc μ2 ab i a:=hμ2 ▸ (A0.app _).app _
   have K2:Ck i ab σ μ2:=hμ2 ▸ (K0.trans (Ck.app _ _)).trans (Ck.app _ _)
   have S2:μ2[σ.length]?=some (AP.cells [Value.int .i64 r,.int .i64 d,.int .i64 c] Al true):=by rw[← hμ2,List.getElem?_append_left (Ae S1)]; exact S1
   obtain ⟨μ3,hμ3⟩:∃ μ3,μ2++[jD]=μ3:=⟨_,rfl⟩
   have e3:DE (k+12) μ2=_:=YU (k+11) μ2
   rw[hμ3] at e3
   have h3:Ag μ3 i m:=hμ3 ▸ h2.app _
   have A3:Cc μ3 ab i a:=hμ3 ▸ A2.app _
   have K3:Ck i ab σ μ3:=hμ3 ▸ K2.trans (Ck.app _ _)
   have S3:μ3[σ.length]?=some (AP.cells [Value.int .i64 r,.int .i64 d,.int .i64 c] Al true):=by rw[← hμ3,List.getElem?_append_left (Ae S2)]; exact S2
   have p0:=ho.p0
   have lp:Gs μ3 μ2.length a.p.toNat=some (Wy a.p.toNat):=by
    rw[← hμ3]; unfold jD; rw[ko]
    obtain ⟨n,hn⟩:∃ n:Nat,a.p=(n:Int):=⟨a.p.toNat,by omega⟩
    rw[hn,Int.toNat_natCast]
    match n,(show n<5 by omega) with
    | 0,_=>rfl
    | 1,_=>rfl
    | 2,_=>rfl
    | 3,_=>rfl
    | 4,_=>rfl
   have hnil:∀ (n:Nat) (K:Value→Option (Value × Aa)),nM (Wy n) K=K (Wy n):=fun _ _=>rfl
   obtain ⟨μ4,hμ4⟩:∃ μ4,μ3++[AP.cells (a.row i.hb) AV true]=μ4:=⟨_,rfl⟩
   have h4:Ag μ4 i m:=hμ4 ▸ h3.app _
   have A4:Cc μ4 ab i a:=hμ4 ▸ A3.app _
   have K4:Ck i ab σ μ4:=hμ4 ▸ K3.trans (Ck.app _ _)
   have S4:μ4[σ.length]?=some (AP.cells [Value.int .i64 r,.int .i64 d,.int .i64 c] Al true):=by rw[← hμ4,List.getElem?_append_left (Ae S3)]; exact S3
   have W4:Cc μ4 μ3.length i a:=by unfold Cc; rw[← hμ4]; simp
   have n3:μ3.length ∉ i.l:=fun hm=>Nat.lt_irrefl _ (h3.lt _ hm)
   have ns:σ.length ∉ i.l:=fun hm=>Nat.lt_irrefl _ (h.lt _ hm)
   have lab3:=A3.lt
   have l03:=K3.len
   obtain ⟨μ5,e5,h5,A5,K5⟩:=hp hv μ4 h4 A4
   have W5:Cc μ5 μ3.length i a:=W4.Dd (K5.same _ W4.lt n3 (by omega))
   have S5:μ5[σ.length]?=some (AP.cells [Value.int .i64 r,.int .i64 d,.int .i64 c] Al true):=by rw[K5.same _ (Ae S4) ns (by omega)]; exact S4
   have K05:=K4.trans K5
   simp only[Bool.not_true,cond_false,c0,c1,c2,e2,Option.bind_some,Ao,e3,Hm,A3.l2,Nat.zero_add,Nat.mul_one,lp,hnil]
   rw[if_pos (show 0≤a.p∧a.p<((5:Nat):Int) by omega)]
   have hsel:∀ (K:Ay→Option (Value × Aa)),((bif decide (words r d c>32) then (some (Bk.normal,[Value.func (.func LG) #[] #[]],μ3)) else (some (Bk.normal,[(Value.func (.method "dustcart/alloc.place") #[Wy a.p.toNat] #[])],μ3)):Option Ay).bind K)=K (.normal,[rT a.p (words r d c)],μ3):=by
    intro K
    unfold rT
    by_cases q:words r d c>32
    ·rw[decide_eq_true q,if_pos q]; rfl
    ·rw[decide_eq_false q,if_neg q]; rfl
   have hst:Kj (μ3++[AP.cells [.pointer none,.int .i64 (0:Int),.int .i64 (0:Int),.int .i64 (0:Int),.int .i64 (0:Int),.int .i64 (0:Int),.int .i64 (0:Int)] AV true]) μ3.length 0 [.pointer (En i),.int .i64 a.s,.int .i64 a.p,.int .i64 a.c,.int .i64 a.l,.int .i64 a.oc,.int .i64 a.ol]=some μ4:=by
    rw[sm,← hμ4]; rfl
   rw[hsel]
   simp only[if_true,qR,Option.bind_some,A3.X9,A3.l1,A3.l2,A3.l3,A3.l4,A3.l5,A3.l6,hst,e5,Tl]
   cases hok:pr.1.2 with
   | false=>
     simp only[Bool.not_false,cond_true,Bool.false_eq_true,if_false]
     exact ⟨μ5,rfl,h5,A5,K05⟩
   | true=>
     have wq:Ac (pr.1.1.tdiv 64)=pr.1.1.tdiv 64:=by
      rw[Int.tdiv_eq_ediv_of_nonneg ha1.1]; exact Ad (by unfold AY; omega)
     have e6:Co (k+12) (En i) (pr.1.1.tdiv 64) μ5=_:=oL (k+9) h5 (pr.1.1.tdiv 64)
     simp only[Bool.not_true,cond_false,A5.X9,Option.bind_some,wq,e6,Ao,A5.l1,hps hv,if_true]
     rw[if_neg (by decide)]
     have restore:∀ {μ:Aa} {a':AS},Cc μ ab i a'→Kj μ ab 0 [.pointer (En i),.int .i64 a.s,.int .i64 a.p,.int .i64 a.c,.int .i64 a.l,.int .i64 a.oc,.int .i64 a.ol]=some (μ.set ab (.cells (a.row i.hb) AV true)):=fun hh=>hh.st 0 _ a rfl (by simp)
     by_cases q:Ui pr.2.1 (pr.1.1.tdiv 64)=a.s
     ·obtain ⟨s0,s1,s2⟩:=bx S5
      obtain ⟨μ6,e7,h6,k6⟩:=fy k hk h5 (hI hv) (hb hv) pr.1.1 r d c (by unfold AY; omega)
      have A6:=A5.Wr k6 hab
      have W6:Cc μ6 μ3.length i a:=W5.Wr k6 n3
      have K06:=K05.trans (Ck.of k6)
      simp only[q,beq_self_eq_true,cond_true,s0,s1,s2,Option.bind_some,e7,Ew,if_true,DZ]
      by_cases q2:(Cw pr.2.1 pr.1.1 r d c).2.1=0
      ·simp only[q2,bne_self_eq_false,cond_false,if_true]
       exact ⟨μ6,rfl,h6,A6,K06⟩
      ·simp only[show ((Cw pr.2.1 pr.1.1 r d c).2.1 != 0)=true from by simpa using q2,cond_true,if_neg q2,W6.X9,W6.l1,W6.l2,W6.l3,W6.l4,W6.l5,W6.l6,Option.bind_some,restore A6]
       exact ⟨_,rfl,h6.RE hab _,A6.put a,K06.trans (Ck.set _ _)⟩
     ·simp only[show (Ui pr.2.1 (pr.1.1.tdiv 64) == a.s)=false from by simpa using q,cond_false,Option.bind_some,if_true,DZ,show ((5:Int) != 0)=true from rfl,cond_true,if_neg q,W5.X9,W5.l1,W5.l2,W5.l3,W5.l4,W5.l5,W5.l6,restore A5]
      exact ⟨_,rfl,h5.RE hab _,A5.put a,K05.trans (Ck.set _ _)⟩
theorem oF (k:Nat) (h:Ag σ i m) (s p:Int):∃ σ1,GO (k+3) (En i) s p σ=(if (0≤s∧s<8)∧(0≤p∧p<5) then some (.tuple #[.pointer (D3 σ1.length),.int .i64 0],σ1++[AP.cells ((⟨s,p,0,0,0,0⟩:AS).row i.hb) AV true]) else some (.tuple #[.pointer none,.int .i64 1],σ1)) ∧ ∃ τ,σ1=σ++τ:=by
 have hnb:=h.nb
 rw[U0,Ux]
 have q0:(((m.bls.length:Nat):Int) == 0)=false:=beq_eq_false_iff_ne.2 (by omega)
 simp only[Mx k h,Option.bind_some,Ao,q0,cond_false]
 by_cases h1:s<0
 ·refine ⟨σ, ?_,[],by simp⟩
  simp only[decide_eq_true h1,Option.bind_some,cond_true,if_neg (show ¬ ((0≤s∧s<8)∧(0≤p∧p<5)) by omega)]
 simp only[decide_eq_false h1,Option.bind_some,cond_false]
 by_cases h2:s≥8
 ·refine ⟨σ, ?_,[],by simp⟩
  simp only[decide_eq_true h2,Option.bind_some,cond_true,if_neg (show ¬ ((0≤s∧s<8)∧(0≤p∧p<5)) by omega)]
 simp only[decide_eq_false h2,Option.bind_some,cond_false]
 by_cases h3:p<0
 ·refine ⟨σ, ?_,[],by simp⟩
  simp only[decide_eq_true h3,Option.bind_some,cond_true,if_neg (show ¬ ((0≤s∧s<8)∧(0≤p∧p<5)) by omega)]
 simp only[decide_eq_false h3,Option.bind_some,cond_false,YU,Hm]
 by_cases h4:p≥((5:Nat):Int)
 ·refine ⟨σ++[jD], ?_,[jD],rfl⟩
  simp only[decide_eq_true h4,cond_true,if_neg (show ¬ ((0≤s∧s<8)∧(0≤p∧p<5)) by omega)]
 ·refine ⟨σ++[jD], ?_,[jD],rfl⟩
  simp only[decide_eq_false h4,cond_false,if_pos (show (0≤s∧s<8)∧(0≤p∧p<5) by omega),An]
  rfl
theorem iT (k:Nat) (p:Option Addr) (n:Int) (σ:Aa):Cf k (.func (.method "dustcart/alloc.place") #[Wy 3] #[]) [.pointer p,.int .i64 n] σ=Dt k p n σ:=by
 simp only[Cf,Dt,Ab]; kernel_rfl
end Go.Proofs.YtlaplcglpnlieaaGreat
end
section
namespace Go.Proofs.YtlaplcglpnlieaaGreat
open Go Go.AX
noncomputable local instance uD:AK:=Au
local instance tz:Kn:=⟨true⟩
variable {σ:Aa} {i:C8} {m:HM} {ab:Nat} {a:AS}
structure fC (m:HM) (a:AS) (pr:PR):Prop where
 inv:Inv pr.2.1
 inv2:Inv2 pr.2.1
 brt:pr.2.1.births=m.births
 len:pr.2.1.bls.length=m.bls.length
 adr:0≤pr.1.1∧pr.1.1≤10000
 s:pr.2.2.s=a.s
 p:pr.2.2.p=a.p
 ok:pr.2.2.ok
 no:pr.1.2=false→pr.2=(m,a)
theorem SW (m:HM) (b c x y x' y':Int):(Ce m b c x y x' y').2.births=m.births:=by
 unfold Ce
 split
 ·split <;> rfl
 ·rfl
theorem ZU (h:Inv m) (h2:Inv2 m) {b:Nat} (s:Int):Inv (GG m b s)∧Inv2 (GG m b s)∧(GG m b s).births=m.births∧(GG m b s).bls.length=m.bls.length:=by
 have k:=M5 h h2 (b:Int) 1 1 s 0 0
 exact ⟨k.inv,k.inv2,SW _ _ _ _ _ _ _,k.len⟩
theorem eU (h:Inv m) (h2:Inv2 m) (ho:a.ok):fC m a ((0,false),m,a):=⟨h,h2,rfl,rfl,by dsimp only; omega,rfl,rfl,ho,fun _=>rfl⟩
theorem fT (h:Inv m) (h2:Inv2 m) (hl:m.bls.length≤64) (ho:a.ok) (v:Bool) {w:Int} (hw:0≤w∧w≤1000):fC m a (DS m a v w):=by
 have hc:=ho.cu v
 unfold DS
 split
 ·exact ⟨h,h2,rfl,rfl,by dsimp only; omega,gJ _ _ _ _,gI _ _ _ _,ho.put v (by omega) (by omega),fun hh=>by cases hh⟩
 ·split
  ·rename_i b hb
   have:=Ig hb
   obtain ⟨k1,k2,k3,k4⟩:=ZU (b:=b) h h2 a.s
   exact ⟨k1,k2,k3,k4,by dsimp only; omega,gJ _ _ _ _,gI _ _ _ _,ho.put v (by omega) (by omega),fun hh=>by cases hh⟩
  ·exact eU h h2 ho
theorem nH {c:Nat} {s:Int}:∀ {n x b:Nat},kr m c s n x=some b→b+c≤m.bls.length
 | 0,x,b,h=>by cases h
 | n+1,x,b,h=>by
   unfold kr at h
   split at h
   ·split at h
    ·cases h; assumption
    ·exact nH h
   ·cases h
theorem lG (h:Inv m) (h2:Inv2 m) (hl:m.bls.length≤64) (ho:a.ok) (w:Int):fC m a (Mi m a w):=by
 unfold Mi
 split
 ·rename_i b hb
  have:=nH hb
  have k:=M5 h h2 (b:Int) (((w.toNat+63)/64:Nat):Int) 2 a.s 3 a.s
  exact ⟨k.inv,k.inv2,SW _ _ _ _ _ _ _,k.len,by dsimp only; omega,rfl,rfl,ho,fun hh=>by cases hh⟩
 ·exact eU h h2 ho
structure oG (m:HM) (a:AS) (r:(Int × Int) × HM × AS):Prop where
 inv:Inv r.2.1
 inv2:Inv2 r.2.1
 b1:m.births≤r.2.1.births
 b2:r.2.1.births≤m.births+1
 len:r.2.1.bls.length=m.bls.length
 s:r.2.2.s=a.s
 p:r.2.2.p=a.p
 ok:r.2.2.ok
theorem kM (h:Inv m) (h2:Inv2 m) (ho:a.ok) {r d c:Int} {pr:PR} (hp:valid r d c=true→fC m a pr) (hS:valid r d c=true→Sh pr.2.1):oG m a (BH m a r d c pr):=by
 unfold BH
 split
 ·rename_i hv
  obtain ⟨k1,k2,k3,k4,k5,k6,k7,k8,k9⟩:=hp hv
  have kp:=Rj k1 k2 (hS hv) pr.1.1 r d c
  have b1:=kp.b1; have b2:=kp.b2
  split
  ·split
   ·split
    ·exact ⟨kp.inv,kp.inv2,by dsimp only; omega,by dsimp only; omega,by rw[← k4]; exact kp.len,k6,k7,k8⟩
    ·exact ⟨kp.inv,kp.inv2,by dsimp only; omega,by dsimp only; omega,by rw[← k4]; exact kp.len,rfl,rfl,ho⟩
   ·exact ⟨k1,k2,by dsimp only; omega,by dsimp only; omega,k4,rfl,rfl,ho⟩
  ·exact ⟨k1,k2,by dsimp only; omega,by dsimp only; omega,k4,k6,k7,k8⟩
 ·exact ⟨h,h2,Int.le_refl _,by dsimp only; omega,rfl,rfl,rfl,ho⟩
theorem JG {r d c:Int} (h:valid r d c=true):2≤words r d c∧words r d c≤218∧words r d c % 2=0:=by
 unfold words
 rw[h]
 simp only[cond_true]
 simp[valid] at h
 omega
theorem kW (hS:Sh m) (b c x y x' y':Int):Sh (Ce m b c x y x' y').2:=by
 have key:∀ l:List (Int × Int),l.length=m.bls.length→Sh { m with bls:=l }:=fun l hl=>by
  obtain ⟨p,q,r⟩:=hS
  exact ⟨by simp only; rw[hl]; exact p,by simp only; rw[hl]; exact q,by simp only; rw[hl]; exact r⟩
 unfold Ce
 split
 ·split
  ·exact key _ (by simp[G1])
  ·exact hS
 ·exact hS
end Go.Proofs.YtlaplcglpnlieaaGreat
end
section
namespace Go.Proofs.YtlaplcglpnlieaaGreat
open Go Go.AX
noncomputable local instance uA:AK:=Au
local instance tv:Kn:=⟨true⟩
variable {σ:Aa} {i:C8} {m:HM} {ab:Nat} {a:AS}
def Bo (m:HM) (s:Int) (n:Nat):List Nat:=(List.range n).filter fun b=>decide ((m.bls.getD b (0,0)).1=1∧(m.bls.getD b (0,0)).2=s)
def UM (l:List Nat):List Int:=l.map fun b:Nat=>(b:Int)
theorem Nd (m:HM) (s:Int) (n:Nat):Bo m s (n+1)=Bo m s n++if (m.bls.getD n (0,0)).1=1∧(m.bls.getD n (0,0)).2=s then [n] else []:=by
 unfold Bo
 rw[List.range_succ,List.filter_append]
 congr 1
 by_cases q:(m.bls.getD n (0,0)).1=1∧(m.bls.getD n (0,0)).2=s
 ·rw[if_pos q,List.filter_cons,if_pos (decide_eq_true q)]; rfl
 ·rw[if_neg q,List.filter_cons,if_neg (by rw[decide_eq_false q]; decide)]; rfl
theorem Ku (m:HM) (s:Int) (n:Nat):(Bo m s n).length≤n:=by
 have:=List.length_filter_le (fun b=>decide ((m.bls.getD b (0,0)).1=1∧(m.bls.getD b (0,0)).2=s)) (List.range n)
 rw[List.length_range] at this; exact this
theorem OQ {m:HM} {s:Int} {n b:Nat}:b ∈ Bo m s n↔b<n∧(m.bls.getD b (0,0)).1=1∧(m.bls.getD b (0,0)).2=s:=by
 unfold Bo; simp[List.mem_filter]
theorem kg {α:Type} (x u y v:Int) (s:α):(bif x == u then some (y == v,s) else some (false,s))=some (decide (x=u∧y=v),s):=by
 by_cases q:x=u
 ·subst q
  by_cases q2:y=v
  ·subst q2; simp
  ·simp[q2]
 ·rw[show (x == u)=false from by simpa using q]; simp[q]
theorem SS (k:Nat) (h:Ag σ i m) (hA:Cc σ ab i a):∀ (n x f:Nat) (τ:Aa) (s:EF),x+n=m.bls.length→DX σ.length (σ++τ) s (UM (Bo m a.s x))→n<f →
  ∃ τ' s',Bu (k+4) f (D3 ab) ((m.bls.length:Nat):Int) s (x:Int) (σ++τ)=some (.exit 0,[.slice s'.1 s'.2.1 s'.2.2],σ++τ')∧DX σ.length (σ++τ') s' (UM (Bo m a.s m.bls.length))
 | n,x,0,τ,s,hx,hs,hf=>by omega
 | 0,x,f+1,τ,s,hx,hs,hf=>by
   obtain rfl:x=m.bls.length:=by omega
   rw[FO,Fc]
   exact ⟨τ,s,by simp only[decide_eq_false (Int.lt_irrefl _),cond_false],hs⟩
 | n+1,x,f+1,τ,s,hx,hs,hf=>by
   have hnt:=h.nt
   have hxl:x<m.bls.length:=by omega
   have g:=h.app τ
   have A:=hA.app τ
   have w1:Ac ((x:Int)+1)=((x+1:Nat):Int):=Ad (by unfold AY; omega)
   have e1:E9 (k+4) (En i) (x:Int) (σ++τ)=_:=mG (k+1) g hxl
   have e2:Co (k+4) (En i) (x:Int) (σ++τ)=_:=fE (k+1) g hxl
   rw[FO,Fc]
   simp only[decide_eq_true (show (x:Int)<((m.bls.length:Nat):Int) by omega),cond_true,Option.bind_some,Nat.add_zero,Nat.zero_add,A.X9,e1,e2,Ao,A.l1,w1]
   rw[kg]
   by_cases q:(m.bls.getD x (0,0)).1=1∧(m.bls.getD x (0,0)).2=a.s
   ·obtain ⟨s1,τ1,e3,i1⟩:=Wq σ τ s _ (x:Int) (by have:=Ku m a.s x; simp[UM]; omega) hs
    have e3':Bn P Bq (s.1,s.2.1,s.2.2) (some ⟨(σ++τ).length,0,none⟩,1,1) (σ++τ++[.cells [.int .i64 (x:Int)] Bq true])=_:=e3
    obtain ⟨τ2,s2,e4,i2⟩:=SS k h hA n (x+1) f τ1 s1 (by omega) (by rw[Nd,if_pos q]; simpa [UM] using i1) (by omega)
    refine ⟨τ2,s2, ?_,i2⟩
    simp only[decide_eq_true q,Option.bind_some,cond_true,An,e3',if_true,GA]
    exact e4
   ·obtain ⟨τ2,s2,e4,i2⟩:=SS k h hA n (x+1) f τ s (by omega) (by rw[Nd,if_neg q,List.append_nil]; exact hs) (by omega)
    refine ⟨τ2,s2, ?_,i2⟩
    simp only[decide_eq_false q,Option.bind_some,cond_false,if_true,GA]
    exact e4
theorem c8 (k:Nat) (hk:100≤k) (h:Ag σ i m) (hA:Cc σ ab i a):
  ∃ τ s,Bp (k+5) (D3 ab) σ=some (.slice s.1 s.2.1 s.2.2,σ++τ)∧DX σ.length (σ++τ) s (UM (Bo m a.s m.bls.length)):=by
 have hnt:=h.nt
 obtain ⟨τ,s,e,hs⟩:=SS k h hA m.bls.length 0 (k+4) [] (none,0,0) (by omega) (.inl ⟨rfl,rfl⟩) (by omega)
 rw[List.append_nil] at e
 refine ⟨τ,s, ?_,hs⟩
 have e':Bu (k+4) (k+4) (D3 ab) ((m.bls.length:Nat):Int) (none,0,0) 0 σ=_:=e
 have e0:AU (k+4) (En i) σ=_:=Mx (k+2) h
 rw[JY,Ia]
 simp only[Option.bind_some,Nat.add_zero,hA.X9,e0,Ao,e',if_true,GA]
def Kw (f w:Nat) (g:Nat × Nat):Option (Nat × Nat):=if w≤g.1+g.2-max f g.1 then some (max f g.1,g.1+g.2-max f g.1) else none
theorem sj (μ:Aa) (T:TypeId) (p q x:Value):Gz (μ++[.cells [p,q] T true]) μ.length 0 x=some (μ++[.cells [x,q] T true]):=by
 simp[Gz]
theorem sk (μ:Aa) (T:TypeId) (p q x:Value):Gz (μ++[.cells [p,q] T true]) μ.length 1 x=some (μ++[.cells [p,x] T true]):=by
 simp[Gz]
theorem oU (g:Nat × Nat) (fr w:Nat) (hfr:fr≤10000) (hw:1≤w) (hg:g.1+g.2≤10000) (μ:Aa):
  ∃ st sz:Int,((bif decide (Ac ((fr:Int)-(g.1:Int))>0) then ((Gz (μ++[.cells [.int .i64 (g.1:Int),.int .i64 (g.2:Int)] Af true]) μ.length 0 (.int .i64 (fr:Int))).bind fun s17=>(Gz s17 μ.length 1 (.int .i64 (Ac ((g.2:Int)-Ac ((fr:Int)-(g.1:Int)))))).bind fun s18=>some (.normal,[],s18)) else (some (.normal,[],μ++[.cells [.int .i64 (g.1:Int),.int .i64 (g.2:Int)] Af true])):Option Ay) =
   some (.normal,[],μ++[.cells [.int .i64 st,.int .i64 sz] Af true]))∧(match Kw fr w g with | some g'=>sz≥(w:Int)∧st=(g'.1:Int)∧sz=(g'.2:Int) | none=>¬ sz≥(w:Int)):=by
 have w1:Ac ((fr:Int)-(g.1:Int))=(fr:Int)-(g.1:Int):=Ad (by unfold AY; omega)
 have w2:Ac ((g.2:Int)-((fr:Int)-(g.1:Int)))=(g.2:Int)-((fr:Int)-(g.1:Int)):=Ad (by unfold AY; omega)
 rw[w1]
 unfold Kw
 by_cases q:(fr:Int)-(g.1:Int)>0
 ·refine ⟨(fr:Int),(g.2:Int)-((fr:Int)-(g.1:Int)), ?_, ?_⟩
  ·rw[decide_eq_true q]
   simp only[cond_true,w1,w2,Option.bind_some,sj,sk]
  ·rw[Nat.max_eq_left (by omega)]
   by_cases q2:w≤g.1+g.2-fr
   ·rw[if_pos q2]; dsimp only; omega
   ·rw[if_neg q2]; dsimp only; omega
 ·refine ⟨(g.1:Int),(g.2:Int), ?_, ?_⟩
  ·rw[decide_eq_false q]; rfl
  ·rw[Nat.max_eq_right (by omega)]
   by_cases q2:w≤g.1+g.2-g.1
   ·rw[if_pos q2]; dsimp only; omega
   ·rw[if_neg q2]; dsimp only; omega
def ra (s o:EF):Prop:=∀ a,o.1=some a → ∀ b,s.1=some b→a.block≠b.block
theorem Gk.sl {E:TypeId} {z n:Nat} {row:List Value} {σ':Aa} {s o o':EF} (g:Gk σ o σ' o') (h:Cd E z σ s n row) (ha:ra s o):Cd E z σ' s n row∧ra s o':=by
 refine ⟨h.Dd fun b hb=>?_,fun x hx b hb=>?_⟩
 ·exact g.same b.block (h.lt b hb) fun x hx=>ha x hx b hb
 ·rcases g.new with rfl | hw
  ·exact ha x hx b hb
  ·have:=hw x hx; have:=h.lt b hb; omega
theorem Wp (k:Nat) {fr w:Nat} (hfr:fr≤10000) (hw:1≤w∧w≤1000) {R:List (Nat × Nat)} (hR:R.length≤100) (hRb:∀ g ∈ R,g.1+g.2≤10000) (s:EF):∀ (n x f:Nat) (μ:Aa) (o:EF) (R0:List (Nat × Nat)),Cd Af 2 μ s R.length (Bj R)→Cd Af 2 μ o R0.length (Bj R0)→ra s o→R0.length+n≤100000→x+n=R.length→n<f →
  ∃ μ' o',BB k f (fr:Int) (w:Int) s.1 R.length s.2.2 ((R.length:Nat):Int) o (x:Int) μ=some (.exit 2,[.slice o'.1 o'.2.1 o'.2.2],μ')∧Gk μ o μ' o'∧Cd Af 2 μ' o' (R0++(R.drop x).filterMap (Kw fr w)).length (Bj (R0++(R.drop x).filterMap (Kw fr w)))
 | n,x,0,μ,o,R0,hs,ho,hd,hl,hx,hf=>by omega
 | 0,x,f+1,μ,o,R0,hs,ho,hd,hl,hx,hf=>by
   rw[G3,F8]
   refine ⟨μ,o,by simp only[decide_eq_false (show ¬ (x:Int)<((R.length:Nat):Int) by omega),cond_false],Gk.refl _ _, ?_⟩
   rw[List.drop_of_length_le (by omega)]
   simpa using ho
 | n+1,x,f+1,μ,o,R0,hs,ho,hd,hl,hx,hf=>by
   have hxl:x<R.length:=by omega
   obtain ⟨b,e0,l0,l1⟩:=Tz hs hxl
   have eg:R.getD x (0,0)=R[x]:=by rw[List.getD_eq_getElem?_getD,List.getElem?_eq_getElem hxl]; rfl
   rw[eg] at l0 l1
   have qx:(0≤(x:Int)∧(x:Int)<((R.length:Nat):Int))=True:=eq_true (by omega)
   have w1:Ac ((x:Int)+1)=((x+1:Nat):Int):=Ad (by unfold AY; omega)
   obtain ⟨st,sz,eb,hc⟩:=oU R[x] fr w hfr hw.1 (hRb _ (List.getElem_mem _)) μ
   have ea:∀ (st sz:Int),Ai .i64 (μ++[.cells [.int .i64 st,.int .i64 sz] Af true]) μ.length 0=some st∧Ai .i64 (μ++[.cells [.int .i64 st,.int .i64 sz] Af true]) μ.length 1=some sz:=fun st sz=>js μ Af st sz
   have hdr:R.drop x=R[x]::R.drop (x+1):=List.drop_eq_getElem_cons hxl
   rw[G3,F8]
   simp only[decide_eq_true (show (x:Int)<((R.length:Nat):Int) by omega),cond_true,qx,if_true,e0,Option.bind_some,Int.toNat_natCast,Nat.zero_add,Nat.add_zero,l0,l1,An,pE,(ea _ _).1,eb,(ea _ _).2,w1]
   have hg1:Cd Af 2 (μ++[.cells [.int .i64 st,.int .i64 sz] Af true]) s R.length (Bj R):=hs.app _
   cases hcg:Kw fr w R[x] with
   | none=>
     rw[hcg] at hc
     simp only[decide_eq_false (show ¬ sz≥(w:Int) from hc),cond_false,Option.bind_some,if_true,GA]
     obtain ⟨μ',o',e2,g2,h2⟩:=Wp k hfr hw hR hRb s n (x+1) f (μ++[.cells [.int .i64 st,.int .i64 sz] Af true]) o R0 hg1 (ho.app _) hd (by omega) (by omega) (by omega)
     rw[e0] at e2
     refine ⟨μ',o',e2,(Gk.app _ _ _).trans g2, ?_⟩
     rw[hdr,List.filterMap_cons_none hcg]; exact h2
   | some g=>
     rw[hcg] at hc
     obtain ⟨c1,rfl,rfl⟩:=hc
     simp only[decide_eq_true (show ((g.2:Nat):Int)≥(w:Int) from c1),cond_true,Option.bind_some]
     obtain ⟨o1,μ1,e1,g1,h1⟩:=ba ff dW fq rfl rfl (by decide) (by decide) (by decide) (μ++[.cells [.int .i64 (g.1:Int),.int .i64 (g.2:Int)] Af true]) o R0.length (Bj R0) 1 1 [.int .i64 (g.1:Int),.int .i64 (g.2:Int)] Af (by omega) (by decide) rfl (ho.app _)
     have e1':Bn P Af (o.1,o.2.1,o.2.2) (some ⟨(μ++[AP.cells [.int .i64 (g.1:Int),.int .i64 (g.2:Int)] Af true]).length,0,none⟩,1,1) (μ++[AP.cells [.int .i64 (g.1:Int),.int .i64 (g.2:Int)] Af true]++[AP.cells [.int .i64 (g.1:Int),.int .i64 (g.2:Int)] Af true])=_:=e1
     have gA:Gk μ o μ1 o1:=(Gk.app _ _ _).trans g1
     obtain ⟨s1,d1⟩:=gA.sl hs hd
     rw[show Bj R0++[Value.int .i64 (g.1:Int),.int .i64 (g.2:Int)]=Bj (R0++[g]) from by rw[KF]; rfl,show R0.length+1=(R0++[g]).length from by simp] at h1
     obtain ⟨μ',o',e2,g2,h2⟩:=Wp k hfr hw hR hRb s n (x+1) f μ1 o1 (R0++[g]) s1 h1 d1 (by simp; omega) (by omega) (by omega)
     rw[e0] at e2
     refine ⟨μ',o', ?_,gA.trans g2, ?_⟩
     ·simp only[e1',Option.bind_some,if_true,GA]
      exact e2
     ·rw[hdr,List.filterMap_cons_some hcg]; simpa using h2
def ES (m:HM) (l:List Nat):List (Nat × Nat):=l.flatMap fun b:Nat=>GQ m (b:Int)
def C5 (m:HM) (s:Int) (f w:Nat):List (Nat × Nat):=(ES m (Bo m s m.bls.length)).filterMap (Kw f w)
theorem km {a e M:Nat} (hM:e≤M):∀ g ∈ Ja a e,g.1+g.2≤M:=by
 intro g hg
 unfold Ja at hg
 split at hg
 ·simp at hg; subst hg; dsimp only; omega
 ·simp at hg
theorem cN (hnt:m.bls.length≤64) (b:Int):∀ g ∈ GQ m b,g.1+g.2≤4096:=by
 have aux:∀ (L:List Nat) (a:Nat),(∀ j ∈ L,2*j≤4096) → ∀ g ∈ (EA m L a).1,g.1+g.2≤4096:=by
  intro L
  induction L with
  | nil=>intro a _ g hg; simp[EA] at hg
  | cons j L ih=>
    intro a hL g hg
    rw[EA] at hg
    rcases List.mem_append.1 hg with h | h
    ·exact km (hL j (by simp)) g h
    ·exact ih _ (fun j hj=>hL j (by simp[hj])) g h
 intro g hg
 unfold GQ at hg
 split at hg
 ·rename_i hst
  obtain ⟨n,rfl,hn,_⟩:=Y1 hst
  rw[Int.toNat_natCast] at hg
  unfold aC at hg
  rcases List.mem_append.1 hg with h | h
  ·exact aux _ _ (fun j hj=>by have:=Jv.1 hj; omega) g h
  ·exact km (by omega) g h
 ·simp at hg
theorem Xb (hnt:m.bls.length≤64) (b:Int):∀ g ∈ GQ m b,g.1+g.2≤10000:=fun g hg=>by have:=cN hnt b g hg; omega
theorem dd {L:List Nat} {x:Nat} (hx:x<L.length):(UM L).getD x 0=((L[x]:Nat):Int):=by
 unfold UM
 rw[List.getD_eq_getElem?_getD,List.getElem?_map,List.getElem?_eq_getElem hx]; rfl
theorem aE (k:Nat) (hk:5000≤k) (hI:Inv m) (h0:B0 m) {fr w:Nat} (hfr:fr≤10000) (hw:1≤w∧w≤1000) {L:List Nat} (hL:∀ b ∈ L,b<m.bls.length) (hLl:L.length≤64) (s:EF):∀ (n x f:Nat) (μ:Aa) (o:EF) (R0:List (Nat × Nat)),Ag μ i m→Cc μ ab i a→Cd Bq 1 μ s (UM L).length (CS (UM L))→Cd Af 2 μ o R0.length (Bj R0)→ra s o→rQ i o→(∀ x,o.1=some x→x.block≠ab)→R0.length+33*n≤50000→x+n=L.length→n<f →
  ∃ μ' o',BA (k+7) f (D3 ab) (fr:Int) (w:Int) s.1 L.length s.2.2 ((L.length:Nat):Int) o (x:Int) μ=some (.exit 0,[.slice o'.1 o'.2.1 o'.2.2],μ')∧Gk μ o μ' o'∧Cd Af 2 μ' o' (R0++(ES m (L.drop x)).filterMap (Kw fr w)).length (Bj (R0++(ES m (L.drop x)).filterMap (Kw fr w)))
 | n,x,0,μ,o,R0,h,hA,hs,ho,hd,hof,hoa,hl,hx,hf=>by omega
 | 0,x,f+1,μ,o,R0,h,hA,hs,ho,hd,hof,hoa,hl,hx,hf=>by
   rw[G2,F7]
   refine ⟨μ,o,by simp only[decide_eq_false (show ¬ (x:Int)<((L.length:Nat):Int) by omega),cond_false],Gk.refl _ _, ?_⟩
   rw[List.drop_of_length_le (by omega)]
   simpa [ES] using ho
 | n+1,x,f+1,μ,o,R0,h,hA,hs,ho,hd,hof,hoa,hl,hx,hf=>by
   have hxl:x<L.length:=by omega
   obtain ⟨b,e0,l0⟩:=mQ hs (show x<(UM L).length by unfold UM; simpa using hxl)
   rw[dd hxl] at l0
   have qx:(0≤(x:Int)∧(x:Int)<((L.length:Nat):Int))=True:=eq_true (by omega)
   have w1:Ac ((x:Int)+1)=((x+1:Nat):Int):=Ad (by unfold AY; omega)
   obtain ⟨τ,s1,e1,h1,lo1⟩:=qg k hk h hI h0 ((L[x]:Nat):Int)
   have hlen:=PI m ((L[x]:Nat):Int)
   have gA:Gk μ o (μ++τ) o:=Gk.app _ _ _
   obtain ⟨sl1,_⟩:=gA.sl hs hd
   have d1:ra s1 o:=fun x hx b hb=>by have:=ho.lt x hx; have:=lo1 b hb; omega
   obtain ⟨μ1,o1,e2,g1,h2⟩:=Wp (k+7) hfr hw (R:=GQ m ((L[x]:Nat):Int)) (by omega) (Xb h.nt _) s1 (GQ m ((L[x]:Nat):Int)).length 0 (k+7) (μ++τ) o R0 h1 (ho.app _) d1 (by omega) (by omega) (by omega)
   rw[List.drop_zero] at h2
   have g2:Gk μ o μ1 o1:=gA.trans g1
   obtain ⟨hh1,of1⟩:=g2.heap h hof
   obtain ⟨hA1,oa1⟩:=g2.other hA hoa
   obtain ⟨hs1,d2⟩:=g2.sl hs hd
   have hfl:((GQ m ((L[x]:Nat):Int)).filterMap (Kw fr w)).length≤33:=Nat.le_trans (List.length_filterMap_le _ _) hlen
   obtain ⟨μ2,o2,e3,g3,h3⟩:=aE k hk hI h0 hfr hw hL hLl s n (x+1) f μ1 o1 _ hh1 hA1 hs1 h2 d2 of1 oa1 (by rw[List.length_append]; omega) (by omega) (by omega)
   rw[e0] at e3
   refine ⟨μ2,o2, ?_,g2.trans g3, ?_⟩
   ·have e2':BB (k+7) (k+7) (fr:Int) (w:Int) s1.1 (GQ m ((L[x]:Nat):Int)).length s1.2.2 (((GQ m ((L[x]:Nat):Int)).length:Nat):Int) (o.1,o.2.1,o.2.2) 0 (μ++τ)=_:=e2
    rw[G2,F7]
    simp only[decide_eq_true (show (x:Int)<((L.length:Nat):Int) by omega),cond_true,qx,if_true,e0,Option.bind_some,Int.toNat_natCast,Nat.zero_add,Nat.add_zero,Nat.mul_one,l0,hA.X9,e1,Hm,h1.len,e2',GA,w1]
    exact e3
   ·rw[List.drop_eq_getElem_cons hxl]
    simp only[ES,List.flatMap_cons,List.filterMap_append,List.append_assoc] at h3 ⊢
    exact h3
theorem Z6 (k:Nat) (hk:5000≤k) (h:Ag σ i m) (hA:Cc σ ab i a) (hI:Inv m) (h0:B0 m) {fr w:Nat} (hfr:fr≤10000) (hw:1≤w∧w≤1000):
  ∃ τ s,AL (k+8) (D3 ab) (fr:Int) (w:Int) σ=some (.slice s.1 s.2.1 s.2.2,σ++τ)∧Cd Af 2 (σ++τ) s (C5 m a.s fr w).length (Bj (C5 m a.s fr w)) ∧ ∀ x,s.1=some x→σ.length≤x.block:=by
 have hnt:=h.nt
 obtain ⟨τ1,s1,e1,h1⟩:=c8 (k+2) (by omega) h hA
 have hbl:=Ku m a.s m.bls.length
 obtain ⟨μ,o,e2,g2,h2⟩:=aE (ab:=ab) (a:=a) k hk hI h0 hfr hw (L:=Bo m a.s m.bls.length) (fun b hb=>(OQ.1 hb).1) (by omega) s1 (Bo m a.s m.bls.length).length 0 (k+7) (σ++τ1) (none,0,0) [] (h.app _) (hA.app _) h1.sl (Cd.nil _ _ _) (fun x hx=>by cases hx) (fun x hx=>by cases hx) (fun x hx=>by cases hx) (by simp; omega) (by omega) (by omega)
 obtain ⟨⟨τ,rfl⟩,hb⟩:=(show Gk (σ++τ1) (none,0,0) μ o from g2).behind (fun x hx=>by cases hx)
 refine ⟨τ,o, ?_,by simpa [C5] using h2,hb⟩
 have e1':Bp (k+7) (D3 ab) σ=_:=e1
 have e2':BA (k+7) (k+7) (D3 ab) (fr:Int) (w:Int) s1.1 (Bo m a.s m.bls.length).length s1.2.2 (((Bo m a.s m.bls.length).length:Nat):Int) (none,0,0) 0 (σ++τ1)=_:=e2
 have hlen:s1.2.1=(Bo m a.s m.bls.length).length:=by rw[h1.len]; simp[UM]
 rw[KX,Jh]
 simp only[e1',Option.bind_some,Hm,hlen,e2',if_true,GA]
end Go.Proofs.YtlaplcglpnlieaaGreat
end
