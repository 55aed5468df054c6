/- Both heaps are in the same state.; A call of both heaps.; A heap that nobody made: what its methods come to.; Looks, of heaps that nobody made.; Same, -/
import Derived.Test.YtlaplcglpnlieaaGreatP18
import Derived.Test.YtlaplcglpnlieaaGreatP14
import Derived.Test.YtlaplcglpnlieaaGreatP12
import Derived.Test.YtlaplcglpnlieaaGreatP13
set_option linter.unusedVariables false
set_option linter.unusedSimpArgs false
set_option linter.unusedSectionVars false
section
namespace Go.Proofs.YtlaplcglpnlieaaGreat
open Go Go.AX
noncomputable local instance wP:AN:=Au
local instance v9:Kn:=⟨true⟩
variable {σ:Aa} {m:HM} {t:RM} {i:C9} {j:RI}
theorem o7 {s:Ex} {l:List Int} (h:Ch AQ 1 σ s l.length (CA l)) {x:Nat} (hx:x<l.length):∃ b,s.1=some ⟨b,0,none⟩∧Ai .i64 σ b x=some (l.getD x 0):=by
 rcases h with ⟨h,_⟩ | ⟨b,rfl,_,_,hc⟩
 ·omega
 ·exact ⟨b,rfl,pe hc hx⟩
theorem aE {s:Ex} {l:List Bool} (h:Ch Eg 1 σ s l.length (Gl l)) {x:Nat} (hx:x<l.length):∃ b,s.1=some ⟨b,0,none⟩∧X4 σ b x=some (l.getD x false):=by
 rcases h with ⟨h,_⟩ | ⟨b,rfl,_,_,hc⟩
 ·omega
 ·exact ⟨b,rfl,sj hc hx⟩
theorem Uc {s:Ex} {l:List (Nat × Nat)} (h:Ch Ag 2 σ s l.length (Bm l)) {x:Nat} (hx:x<l.length):∃ b,s.1=some ⟨b,0,none⟩∧Ai .i64 σ b (x*2)=some ((l.getD x (0,0)).1:Int)∧Ai .i64 σ b (x*2+1)=some ((l.getD x (0,0)).2:Int):=by
 rcases h with ⟨h,_⟩ | ⟨b,rfl,_,_,hc⟩
 ·omega
 ·obtain ⟨h1,h2⟩:=Xv l x hx
  exact ⟨b,rfl,by simp only[Ai,G0,hc,h1,Option.bind_some,Ao],by simp only[Ai,G0,hc,h2,Option.bind_some,Ao]⟩
end Go.Proofs.YtlaplcglpnlieaaGreat
end
section
namespace Go.Proofs.YtlaplcglpnlieaaGreat
open Go Go.AX
noncomputable local instance wQ:AN:=Au
local instance vA:Kn:=⟨true⟩
variable {σ:Aa} {m:HM} {t:RM} {i:C9} {j:RI}
structure rB (i:C9) (j j':RI) (σ σ':Aa):Prop where
 len:σ.length≤σ'.length
 same:∀ q,q<σ.length→q ∉ i.l→q ∉ j.l→σ'[q]?=σ[q]?
 new:∀ q,q ∈ j'.l→q ∈ j.l∨σ.length≤q
 hb:j'.hb=j.hb
theorem Za {a:Addr} {σ σ':Aa} {ρ:Type} (h:σ'[a.block]?=σ[a.block]?) (x:Option ρ):SV (some a) σ σ' x=x:=by
 have:@AN.k Au σ σ' a.block=true:=by
  unfold Au
  simpa using h
 unfold SV
 simp only[this,cond_true]
theorem fj {μ:Aa} {A:Option (Value × Aa)} {B:Aa→Option (Value × Aa)} (W:qi μ i j m t) {v:Value} {m':HM} (hA:∃ σ1,A=some (v,σ1)∧Af σ1 i m'∧BH i μ σ1) (hI:Inv m') (hI2:Inv2 m') (hF:FZ m') (hb:B0 m') (hbr:m'.births≤1000) (hfl:m'.fw.length≤1000)
  (hR:∀ σ1,RG σ1 j m t→Hv (B σ1) σ1 j v m'):∃ σ1 σ2 j' t',A=some (v,σ1)∧B σ1=some (v,σ2)∧qi σ2 i j' m' t'∧rB i j j' μ σ2∧(∀ q,q<μ.length→q ∉ i.l→σ1[q]?=μ[q]?):=by
 obtain ⟨σ1,eA,h1,k1⟩:=hA
 have g1:RG σ1 j m t:=W.g.CO (fun q hq=>k1.same q (W.g.at_.lt q hq) fun hm=>W.off q hm hq) k1.len
 obtain ⟨σ2,j',t',eB,r2,s2,p2,k2⟩:=hR σ1 g1
 have h2:Af σ2 i m':=h1.CO fun q hq=>k2.same q (h1.lt q hq) (W.off q hq)
 refine ⟨σ1,σ2,j',t',eA,eB,⟨h2,⟨r2,s2,hI,hI2,h2.wl,h2.nb,h2.nt⟩,p2,hF,hb,fun q hq hm=>?_,hbr,hfl⟩,⟨Nat.le_trans k1.len k2.len,fun q h1' h2' h3'=>?_,fun q hq=>?_,k2.hb⟩,fun q h1' h2'=>k1.same q h1' h2'⟩
 ·rcases k2.new q hm with e | e
  ·exact W.off q hq e
  ·have:=h1.lt q hq; omega
 ·rw[k2.same q (Nat.lt_of_lt_of_le h1' k1.len) h3',k1.same q h1' h2']
 ·rcases k2.new q hq with e | e
  ·exact .inl e
  ·exact .inr (Nat.le_trans k1.len e)
theorem Fm {c:Prop} [Decidable c] {r r':Int × HM} {n:Nat} (h:c→r.2.fw.length≤n) (h':¬ c→r'.2.fw.length≤n):(if c then r else r').2.fw.length≤n:=by
 split
 ·exact h ‹_›
 ·exact h' ‹_›
theorem oF (m:HM) (x:We):(iD m x).2.fw.length≤m.fw.length+1:=by
 have s:m.fw.length≤m.fw.length+1:=by omega
 unfold iD
 refine Fm (fun _=>?_) fun _=>?_
 ·unfold Ci; exact Fm (fun _=>Fm (fun _=>s) fun _=>s) fun _=>s
 refine Fm (fun _=>?_) fun _=>?_
 ·unfold Ci; exact Fm (fun _=>Fm (fun _=>s) fun _=>s) fun _=>s
 refine Fm (fun _=>?_) fun _=>?_
 ·unfold Ia; exact Fm (fun _=>Fm (fun _=>s) fun _=>s) fun _=>s
 refine Fm (fun _=>?_) fun _=>?_
 ·unfold NM; exact Fm (fun _=>s) fun _=>s
 refine Fm (fun _=>?_) fun _=>?_
 ·unfold Cx
  split
  ·split
   ·exact s
   ·exact s
  ·exact s
 refine Fm (fun _=>?_) fun _=>?_
 ·unfold PZ; exact Fm (fun _=>s) fun _=>s
 refine Fm (fun _=>?_) fun _=>?_
 ·unfold eX; exact Fm (fun _=>Fm (fun _=>by show (Re _ _ m.fw).length≤_; rw[cV]; split <;> omega) fun _=>s) fun _=>s
 refine Fm (fun _=>?_) fun _=>?_
 ·unfold Wa; exact Fm (fun _=>Fm (fun _=>s) fun _=>s) fun _=>s
 refine Fm (fun _=>?_) fun _=>?_
 ·unfold Th; exact Fm (fun _=>s) fun _=>s
 refine Fm (fun _=>?_) fun _=>?_
 ·unfold fk
  refine Fm (fun _=>?_) fun _=>s
  split
  ·exact s
  ·exact Fm (fun _=>s) fun _=>s
 refine Fm (fun _=>?_) fun _=>?_
 ·unfold dI; exact Fm (fun _=>s) fun _=>s
 refine Fm (fun _=>?_) fun _=>?_
 ·unfold dI; exact Fm (fun _=>s) fun _=>s
 exact Fm (fun _=>Nat.zero_le _) fun _=>s
end Go.Proofs.YtlaplcglpnlieaaGreat
end
section
namespace Go.Proofs.YtlaplcglpnlieaaGreat
open Go Go.AX
noncomputable local instance wS:AN:=Au
local instance vC:Kn:=⟨true⟩
def tL (σ:Aa) (p:Option Addr):Prop:=
 p=none ∨ ∃ h T rw,p=some ⟨h,0,none⟩∧σ[h]?=some (.cells [.slice none 0 0,.slice none 0 0,.pointer none,.pointer none,.map none,.map none,.int .i64 0] T rw)
theorem tL.app {σ:Aa} {p:Option Addr} (h:tL σ p) (τ:Aa):tL (σ++τ) p:=by
 rcases h with h | ⟨b,T,rw,h1,h2⟩
 ·exact .inl h
 ·refine .inr ⟨b,T,rw,h1, ?_⟩
  rw[List.getElem?_append_left (List.getElem?_eq_some_iff.1 h2).1]; exact h2
end Go.Proofs.YtlaplcglpnlieaaGreat
end
section
set_option maxRecDepth 10000
namespace Go.Proofs.YtlaplcglpnlieaaGreat
open Go Go.AX
noncomputable local instance uv:AN:=Au
local instance ur:Kn:=⟨true⟩
end Go.Proofs.YtlaplcglpnlieaaGreat
end
section
set_option maxRecDepth 10000
namespace Go.Proofs.YtlaplcglpnlieaaGreat
open Go Go.AX
noncomputable local instance wT:AN:=Au
local instance vD:Kn:=⟨true⟩
variable {σ:Aa}
end Go.Proofs.YtlaplcglpnlieaaGreat
end
section
namespace Go.Proofs.YtlaplcglpnlieaaGreat
open Go Go.AX
noncomputable local instance wR:AN:=Au
local instance vB:Kn:=⟨true⟩
variable {σ:Aa} {m:HM} {t:RM} {i:C9} {j:RI}
end Go.Proofs.YtlaplcglpnlieaaGreat
end
section
namespace Go.Proofs.YtlaplcglpnlieaaGreat
open Go Go.AX
noncomputable local instance vR:AN:=Au
local instance uN:Kn:=⟨true⟩
variable {σ:Aa} {i:C9} {m:HM}
structure AS where
 s:Int
 p:Int
 c:Int
 l:Int
 oc:Int
 ol:Int
def AS.row (a:AS) (hb:Nat):List Value:=[.pointer (some ⟨hb,0,none⟩),.int .i64 a.s,.int .i64 a.p,.int .i64 a.c,.int .i64 a.l,.int .i64 a.oc,.int .i64 a.ol]
def BJ (σ:Aa) (ab:Nat) (i:C9) (a:AS):Prop:=σ[ab]?=some (.cells (a.row i.hb) AG true)
structure AS.ok (a:AS):Prop where
 s0:0≤a.s∧a.s<8
 p0:0≤a.p∧a.p<5
 c0:0≤a.c∧a.c≤10000
 l0:0≤a.l∧a.l≤10000
 oc0:0≤a.oc∧a.oc≤10000
 ol0:0≤a.ol∧a.ol≤10000
abbrev CV (ab:Nat):Option Addr:=some ⟨ab,0,none⟩
variable {ab:Nat} {a:AS}
theorem BJ.Ya (h:BJ σ ab i a):Js σ ab 0=some (De i):=by unfold BJ AS.row at h; simp[Js,G0,h,Wc]
theorem BJ.l1 (h:BJ σ ab i a):Ai .i64 σ ab 1=some a.s:=by unfold BJ AS.row at h; simp[Ai,G0,h,BG]
theorem BJ.l2 (h:BJ σ ab i a):Ai .i64 σ ab 2=some a.p:=by unfold BJ AS.row at h; simp[Ai,G0,h,BG]
theorem BJ.l3 (h:BJ σ ab i a):Ai .i64 σ ab 3=some a.c:=by unfold BJ AS.row at h; simp[Ai,G0,h,BG]
theorem BJ.l4 (h:BJ σ ab i a):Ai .i64 σ ab 4=some a.l:=by unfold BJ AS.row at h; simp[Ai,G0,h,BG]
theorem BJ.l5 (h:BJ σ ab i a):Ai .i64 σ ab 5=some a.oc:=by unfold BJ AS.row at h; simp[Ai,G0,h,BG]
theorem BJ.l6 (h:BJ σ ab i a):Ai .i64 σ ab 6=some a.ol:=by unfold BJ AS.row at h; simp[Ai,G0,h,BG]
theorem BJ.lt (h:BJ σ ab i a):ab<σ.length:=Ae h
theorem BJ.CO {σ':Aa} (h:BJ σ ab i a) (hs:σ'[ab]?=σ[ab]?):BJ σ' ab i a:=by unfold BJ; rw[hs]; exact h
theorem BJ.app (h:BJ σ ab i a) (τ:Aa):BJ (σ++τ) ab i a:=h.CO (List.getElem?_append_left h.lt)
theorem BJ.Xk {σ':Aa} (h:BJ σ ab i a) (k:BH i σ σ') (hab:ab ∉ i.l):BJ σ' ab i a:=h.CO (k.same ab h.lt hab)
theorem BJ.put (h:BJ σ ab i a) (a':AS):BJ (σ.set ab (.cells (a'.row i.hb) AG true)) ab i a':=by
 unfold BJ; rw[List.getElem?_set_self h.lt]
theorem BJ.st (h:BJ σ ab i a) (o:Nat) (vs:List Value) (a':AS) (hv:AH (a.row i.hb) o vs=a'.row i.hb) (hl:o+vs.length≤7):K8 σ ab o vs=some (σ.set ab (.cells (a'.row i.hb) AG true)):=by
 have h':=h
 unfold BJ at h'
 simp only[K8,h']
 rw[if_pos (by simpa [AS.row] using hl),hv]
theorem BJ.G2 (h:BJ σ ab i a) (o:Nat) (v:Value) (a':AS) (hv:(a.row i.hb).set o v=a'.row i.hb) (hl:o<7):AX.G2 σ ab o v=some (σ.set ab (.cells (a'.row i.hb) AG true)):=by
 have h':=h
 unfold BJ at h'
 simp only[AX.G2,h']
 rw[if_pos (by simpa [AS.row] using hl),hv]
structure Cb (i:C9) (ab:Nat) (σ σ':Aa):Prop where
 len:σ.length≤σ'.length
 same:∀ j,j<σ.length→j ∉ i.l→j≠ab→σ'[j]?=σ[j]?
theorem Cb.of {σ':Aa} (h:BH i σ σ'):Cb i ab σ σ':=⟨h.len,fun j h1 h2 _=>h.same j h1 h2⟩
theorem Cb.trans {x y z:Aa} (h:Cb i ab x y) (g:Cb i ab y z):Cb i ab x z:=
 ⟨Nat.le_trans h.len g.len,fun j h1 h2 h3=>(g.same j (Nat.lt_of_lt_of_le h1 h.len) h2 h3).trans (h.same j h1 h2 h3)⟩
theorem Cb.app (σ τ:Aa):Cb i ab σ (σ++τ):=.of (BH.app i σ τ)
theorem Cb.set (σ:Aa) (o:AP):Cb i ab σ (σ.set ab o):=⟨by simp,fun j _ _ h=>List.getElem?_set_ne fun e=>h e.symm⟩
theorem Cb.refl (σ:Aa):Cb i ab σ σ:=.of (BH.refl i σ)
theorem Af.Su (h:Af σ i m) (hab:ab ∉ i.l) (o:AP):Af (σ.set ab o) i m:=h.CO fun j hj=>List.getElem?_set_ne fun e=>hab (by rw[e]; exact hj)
theorem sZ (x:Addr):SO P Gf (.pointer (some x)) (.pointer none)=some false:=by kernel_rfl
theorem ta (x:Addr):SO P JG (.pointer (some x)) (.pointer none)=some false:=by kernel_rfl
theorem XB (k:Nat) (hA:BJ σ ab i a):Ba (k+1) (CV ab) σ=some (.bool true,σ):=by
 rw[Lu,J1]
 simp only[sZ,Option.bind_some,Bool.not_false,cond_true,Nat.zero_add,Nat.add_zero,hA.Ya,ta]
def SQ (m:HM):Nat→Nat→Option Nat
 | 0,_=>none
 | n+1,x=>if (m.bls.getD x (0,0)).1=0∧(m.bls.getD x (0,0)).2=0 then some x else SQ m n (x+1)
def RC (m:HM):Option Nat:=SQ m (m.bls.length-1) 1
def GO (m:HM) (b:Nat) (s:Int):HM:=(Ci m (b:Int) 1 1 s 0 0).2
theorem mO (m:HM) {x:Nat} {s:Int} (h1:1≤x) (hx:x<m.bls.length) (hs:0≤s∧s<8):
  Ci m (x:Int) 1 1 s 0 0=if (m.bls.getD x (0,0)).1=0∧(m.bls.getD x (0,0)).2=0 then (0,GO m x s) else (8,m):=by
 have e:(1≤(x:Int)∧(x:Int)<(m.bls.length:Int)∧(1:Int)≤1∧(1:Int)≤(m.bls.length:Int)-(x:Int)∧V8 s=true):=⟨by omega,by omega,by omega,by omega,by unfold V8; simpa using hs⟩
 have u:Ix m.bls x 1 0=if (m.bls.getD x (0,0)).1=0∧(m.bls.getD x (0,0)).2=0 then none else some 0:=by
  simp only[Ix,Nat.add_zero]
 unfold GO Ci
 rw[if_pos e,Int.toNat_natCast,show (1:Int).toNat=1 from rfl,u]
 by_cases hf:(m.bls.getD x (0,0)).1=0∧(m.bls.getD x (0,0)).2=0
 ·simp only[hf,and_self,if_true]
 ·simp only[hf,if_false]; simp
theorem JD {n x b:Nat} (h:SQ m n x=some b):x≤b∧b<x+n∧(m.bls.getD b (0,0)).1=0∧(m.bls.getD b (0,0)).2=0:=by
 induction n generalizing x with
 | zero=>cases h
 | succ n ih=>
   unfold SQ at h
   split at h
   ·cases h; omega
   ·have:=ih h; omega
def HF (x y:Int):AP:=.cells [.int .i64 x,.int .i64 y] Ew true
theorem Z7 (k:Nat) (hk:5000≤k) (hab:ab ∉ i.l) (hs:0≤a.s∧a.s<8) {h1:Nat} (hh1:h1 ∉ i.l) (hha:h1≠ab):∀ (n x f:Nat) (σ:Aa),Af σ i m→BJ σ ab i a→σ[h1]?=some (HF 0 0)→1≤x→x+n=m.bls.length→n<f →
  ∃ σ',BQ (k+8) f (CV ab) h1 (x:Int) σ=some (match SQ m n x with | some b=>(.ret,[.bool true],σ') | none=>(.exit 0,[],σ'))∧Af σ' i (match SQ m n x with | some b=>GO m b a.s | none=>m) ∧
   σ'[h1]?=some (match SQ m n x with | some b=>HF (64*(b:Int)) (64*(b:Int)+64) | none=>HF 0 0)∧σ.length≤σ'.length ∧ ∀ q,q<σ.length→q ∉ i.l→q≠h1→σ'[q]?=σ[q]?
 | n,x,0,σ,h,hA,hc,hx,hn,hf=>by omega
 | 0,x,f+1,σ,h,hA,hc,hx,hn,hf=>by
   rw[Gw,Fq]
   refine ⟨σ, ?_,h,hc,Nat.le_refl _,fun _ _ _ _=>rfl⟩
   simp only[Option.bind_some,Nat.add_zero,hA.Ya,IK (k+6) h,Ao,decide_eq_false (show ¬ (x:Int)<((m.bls.length:Nat):Int) by omega),cond_false,SQ]
 | n+1,x,f+1,σ,h,hA,hc,hx,hn,hf=>by
   have hnt:=h.nt
   obtain ⟨σ1,e1,g1,k1⟩:=aP (k+1) (by omega) h (x:Int) a.s (by unfold Bd; omega)
   have hA1:=hA.Xk k1 hab
   rw[mO m hx (by omega) hs] at e1 g1
   have hc1:=(k1.same h1 (Ae hc) hh1).trans hc
   have w1:Ac ((x:Int)+1)=((x+1:Nat):Int):=Ad (by unfold Bd; omega)
   have w2:Ac ((x:Int)*64)=64*(x:Int):=by rw[Ad (by unfold Bd; omega)]; omega
   have w3:Ac (((x+1:Nat):Int)*64)=64*(x:Int)+64:=by rw[Ad (by unfold Bd; omega)]; omega
   rw[Gw,Fq]
   simp only[Option.bind_some,Nat.add_zero,hA.Ya,IK (k+6) h,Ao,decide_eq_true (show (x:Int)<((m.bls.length:Nat):Int) by omega),cond_true,Nat.zero_add,hA.l1,e1,SQ]
   by_cases hfr:(m.bls.getD x (0,0)).1=0∧(m.bls.getD x (0,0)).2=0
   ·simp only[hfr,and_self,if_true] at g1 ⊢
    refine ⟨σ1.set h1 (HF (64*(x:Int)) (64*(x:Int)+64)), ?_,g1.CO fun j hj=>List.getElem?_set_ne fun e=>hh1 (by rw[e]; exact hj),by rw[List.getElem?_set_self (Ae hc1)],by simpa using k1.len,fun q hq h2 h3=>by rw[List.getElem?_set_ne (fun e=>h3 e.symm)]; exact k1.same q hq h2⟩
    simp only[beq_self_eq_true,cond_true,w1,w2,w3,K8,hc1,HF]
    rfl
   ·simp only[hfr,if_false] at g1 ⊢
    obtain ⟨σ2,e2,g2,c2,l2,s2⟩:=Z7 k hk hab hs hh1 hha n (x+1) f σ1 g1 hA1 hc1 (by omega) (by omega) (by omega)
    refine ⟨σ2, ?_,g2,c2,Nat.le_trans k1.len l2,fun q hq h2 h3=>by rw[s2 q (Nat.lt_of_lt_of_le hq k1.len) h2 h3]; exact k1.same q hq h2⟩
    simp only[show ((8:Int) == 0)=false from rfl,cond_false,w1,e2]
def YF (m:HM):Int × Int × Bool:=match RC m with | some b=>(64*(b:Int),64*(b:Int)+64,true) | none=>(0,0,false)
def Va (m:HM) (s:Int):HM:=match RC m with | some b=>GO m b s | none=>m
theorem bq (k:Nat) (hk:5000≤k) (h:Af σ i m) (hA:BJ σ ab i a) (hab:ab ∉ i.l) (hs:0≤a.s∧a.s<8):
  ∃ σ',Bu (k+9) (CV ab) σ=some (.tuple #[.agg #[.int .i64 (YF m).1,.int .i64 (YF m).2.1],.bool (YF m).2.2],σ')∧Af σ' i (Va m a.s)∧BH i σ σ':=by
 have hnt:=h.nt; have hnb:=h.nb
 have hlt:=hA.lt
 obtain ⟨σ1,e1,g1,c1,l1,s1⟩:=Z7 k hk hab hs (h1:=σ.length) (fun hm=>Nat.lt_irrefl _ (h.lt _ hm)) (by omega) (m.bls.length-1) 1 (k+8) (σ++[HF 0 0]) (h.app _) (hA.app _) (by simp) (Nat.le_refl _) (by omega) (by omega)
 have kp:BH i σ σ1:=⟨by simp at l1; omega,fun q hq h2=>by rw[s1 q (by simp; omega) h2 (by omega),List.getElem?_append_left hq]⟩
 rw[KM,IQ]
 simp only[Am,show (AP.cells [.int .i64 0,.int .i64 0] Ew true)=HF 0 0 from rfl]
 rw[show ((1:Nat):Int)=1 from rfl] at e1
 unfold YF Va RC
 simp only[e1]
 cases hfr:SQ m (m.bls.length-1) 1 with
 | none=>
   simp only[hfr] at g1 c1
   refine ⟨σ1.set σ.length (HF 0 0), ?_,g1.CO fun j hj=>List.getElem?_set_ne fun e=>Nat.lt_irrefl σ.length (by have:=h.lt _ hj; omega),kp.trans ⟨by simp,fun q hq h2=>?_⟩⟩
   ·simp only[Option.bind_some,if_true,K8,c1,HF,To]
    simp[AH,Ra,List.getElem?_set_self (Ae c1)]
   ·rcases Nat.lt_trichotomy q σ.length with e | e | e
    ·rw[List.getElem?_set_ne (by omega)]
    ·rw[e,List.getElem?_set_self (Ae c1),c1]
    ·rw[List.getElem?_set_ne (by omega)]
 | some b=>
   simp only[hfr] at g1 c1
   refine ⟨σ1, ?_,g1,kp⟩
   simp only[Option.bind_some,show (Bn.ret=Bn.exit 0)=False from by simp,if_false,if_true,Sw,To,c1,HF]
   rfl
def UI (m:HM) (b:Int):Int:=if 0≤b∧b<(m.bls.length:Int) then (m.bls.getD b.toNat (0,0)).2 else -1
theorem qv (k:Nat) (h:Af σ i m) (b:Int):BI (k+3) (De i) b σ=some (.int .i64 (UI m b),σ):=by
 unfold UI
 by_cases hb:0≤b∧b<(m.bls.length:Int)
 ·rw[if_pos hb]
  obtain ⟨n,rfl⟩:∃ n:Nat,b=(n:Int):=⟨b.toNat,by omega⟩
  rw[Int.toNat_natCast]
  exact ba k h (by omega)
 ·rw[if_neg hb,KP,Kq]
  by_cases h0:b<0
  ·simp only[decide_eq_true h0,cond_true,Option.bind_some]
  ·simp only[decide_eq_false h0,cond_false,IK k h,Option.bind_some,Ao,decide_eq_true (show b≥((m.bls.length:Nat):Int) by omega),cond_true]
end Go.Proofs.YtlaplcglpnlieaaGreat
end
section
namespace Go.Proofs.YtlaplcglpnlieaaGreat
open Go Go.AX
noncomputable local instance vS:AN:=Au
local instance uO:Kn:=⟨true⟩
variable {σ:Aa} {i:C9} {m:HM} {ab:Nat} {a:AS}
def AS.cu (a:AS) (v:Bool):Int:=bif v then a.oc else a.c
def AS.li (a:AS) (v:Bool):Int:=bif v then a.ol else a.l
def AS.put (a:AS) (v:Bool) (x y:Int):AS:=bif v then { a with oc:=x,ol:=y } else { a with c:=x,l:=y }
def nW (v:Bool):Nat:=bif v then 5 else 3
theorem BJ.lc (h:BJ σ ab i a) (v:Bool):Ai .i64 σ ab (nW v)=some (a.cu v):=match v with | false=>h.l3 | true=>h.l5
theorem BJ.ll (h:BJ σ ab i a) (v:Bool):Ai .i64 σ ab (nW v+1)=some (a.li v):=match v with | false=>h.l4 | true=>h.l6
theorem BJ.tH (h:BJ σ ab i a) (v:Bool) (x y:Int):K8 σ ab (nW v) [.int .i64 x,.int .i64 y]=some (σ.set ab (.cells ((a.put v x y).row i.hb) AG true)):=by
 cases v
 ·exact h.st 3 _ (a.put false x y) rfl (by simp)
 ·exact h.st 5 _ (a.put true x y) rfl (by simp)
theorem BJ.ug (h:BJ σ ab i a) (v:Bool) (x:Int):AX.G2 σ ab (nW v) (.int .i64 x)=some (σ.set ab (.cells ((a.put v x (a.li v)).row i.hb) AG true)):=by
 cases v
 ·exact h.G2 3 _ (a.put false x a.l) rfl (by decide)
 ·exact h.G2 5 _ (a.put true x a.ol) rfl (by decide)
theorem AS.ok.cu (h:a.ok) (v:Bool):0≤a.cu v∧a.cu v≤10000∧0≤a.li v∧a.li v≤10000:=by
 have h1:=h.c0; have h2:=h.l0; have h3:=h.oc0; have h4:=h.ol0
 cases v <;> simp only[AS.cu,AS.li,cond_true,cond_false] <;> omega
theorem AS.ok.put (h:a.ok) (v:Bool) {x y:Int} (hx:0≤x∧x≤10000) (hy:0≤y∧y≤10000):(a.put v x y).ok:=by
 cases v
 ·exact ⟨h.s0,h.p0,hx,hy,h.oc0,h.ol0⟩
 ·exact ⟨h.s0,h.p0,h.c0,h.l0,hx,hy⟩
theorem je (a:AS) (v:Bool) (x y:Int):(a.put v x y).s=a.s:=by cases v <;> rfl
theorem jd (a:AS) (v:Bool) (x y:Int):(a.put v x y).p=a.p:=by cases v <;> rfl
theorem lj (a:AS) (v:Bool) (x y:Int):(a.put v x y).cu v=x∧(a.put v x y).li v=y:=by cases v <;> exact ⟨rfl,rfl⟩
theorem qS (a:AS) (v:Bool) (x y z w:Int):(a.put v x y).put v z w=a.put v z w:=by cases v <;> rfl
theorem rf (μ:Aa) (T:TypeId) (p q x y:Value):K8 (μ++[.cells [p,q] T true]) μ.length 0 [x,y]=some (μ++[.cells [x,y] T true]):=by
 simp[K8,AH]
theorem kM (μ:Aa) (T:TypeId) (x y:Int):Ai .i64 (μ++[.cells [.int .i64 x,.int .i64 y] T true]) μ.length 0=some x∧Ai .i64 (μ++[.cells [.int .i64 x,.int .i64 y] T true]) μ.length 1=some y:=by
 simp[Ai,G0,BG]
theorem oP (k:Nat) (hA:BJ σ ab i a) (ho:a.ok) (v:Bool) (w:Int):DJ (k+1) (some ⟨ab,nW v,none⟩) w σ=some (.bool (decide (a.li v-a.cu v≥w)),σ):=by
 have:=ho.cu v
 rw[PJ,Ot]
 simp only[Option.bind_some,Nat.add_zero,hA.lc,hA.ll,Ad (show Bd (a.li v-a.cu v) by unfold Bd; omega)]
theorem gX (k:Nat) (hA:BJ σ ab i a) (ho:a.ok) (v:Bool) {w:Int} (hw:0≤w∧w≤1000):Dj (k+1) (some ⟨ab,nW v,none⟩) w σ=some (.int .i64 (a.cu v),σ.set ab (.cells ((a.put v (a.cu v+w) (a.li v)).row i.hb) AG true)):=by
 have:=ho.cu v
 rw[Pe,Np]
 have e1:Ac (a.cu v+w)=a.cu v+w:=Ad (by unfold Bd; omega)
 have e2:Ac (a.cu v+w-w)=a.cu v:=by rw[Ad (by unfold Bd; omega)]; omega
 simp only[Option.bind_some,Nat.add_zero,hA.lc,e1,hA.ug,(hA.put _).lc,lj,e2]
abbrev PR:=(Int × Bool) × HM × AS
def dt (mm:Option (Value × Aa)) (σ:Aa) (i:C9) (ab:Nat) (r:PR):Prop:=
 ∃ σ',mm=some (.tuple #[.int .i64 r.1.1,.bool r.1.2],σ')∧Af σ' i r.2.1∧BJ σ' ab i r.2.2∧Cb i ab σ σ'
def DY (m:HM) (a:AS) (v:Bool) (w:Int):PR:=
 if a.li v-a.cu v≥w then ((a.cu v,true),m,a.put v (a.cu v+w) (a.li v))
 else match RC m with
  | some b=>((64*(b:Int),true),GO m b a.s,a.put v (64*(b:Int)+w) (64*(b:Int)+64))
  | none=>((0,false),m,a)
theorem dT (k:Nat) (hk:5000≤k) (h:Af σ i m) (hA:BJ σ ab i a) (hab:ab ∉ i.l) (ho:a.ok) (v:Bool) {w:Int} (hw:0≤w∧w≤1000):
  dt (Bz (k+10) (CV ab) (some ⟨ab,nW v,none⟩) w σ) σ i ab (DY m a v w):=by
 have hcu:=ho.cu v
 have hnt:=h.nt
 rw[Ks,Iq]
 simp only[oP (k+8) hA ho v w,Option.bind_some,As]
 unfold DY
 by_cases q:a.li v-a.cu v≥w
 ·rw[if_pos q]
  simp only[decide_eq_true q,Bool.not_true,cond_false,Option.bind_some,if_true,gX (k+8) hA ho v hw,Ao]
  exact ⟨_,rfl,h.Su hab _,hA.put _,Cb.set _ _⟩
 ·rw[if_neg q]
  obtain ⟨σ1,e1,g1,k1⟩:=bq k hk h hA hab ho.s0
  have hA1:=hA.Xk k1 hab
  simp only[decide_eq_false q,Bool.not_false,cond_true,e1,Option.bind_some,ZV,List.length_cons,List.length_nil,List.head?_cons,List.tail_cons,aD,As,Am,rf,Nat.zero_add,Nat.reduceAdd,if_true]
  unfold YF Va at *
  cases hfr:RC m with
  | none=>
    simp only[hfr] at g1 ⊢
    simp only[Bool.not_false,cond_true,Option.bind_some,show (Bn.ret=Bn.normal)=False from by simp,if_false,if_true,Yy]
    exact ⟨_,rfl,g1.app _,hA1.app _,(Cb.of k1).trans (Cb.app _ _)⟩
  | some b=>
    simp only[hfr] at g1 ⊢
    have hb:=JD hfr
    obtain ⟨l0,l1⟩:=kM σ1 Ew (64*(b:Int)) (64*(b:Int)+64)
    have hA2:=hA1.app [.cells [.int .i64 (64*(b:Int)),.int .i64 (64*(b:Int)+64)] Ew true]
    have hA3:=hA2.put (a.put v (64*(b:Int)) (64*(b:Int)+64))
    have ho3:(a.put v (64*(b:Int)) (64*(b:Int)+64)).ok:=ho.put v (by omega) (by omega)
    have t3:=gX (k+8) hA3 ho3 v hw
    rw[(lj _ _ _ _).1,(lj _ _ _ _).2,qS] at t3
    simp only[Bool.not_true,cond_false,l0,l1,Option.bind_some,hA2.tH,if_true,t3,Ao]
    exact ⟨_,rfl,((g1.app _).Su hab _).Su hab _,hA3.put _,(((Cb.of k1).trans (Cb.app _ _)).trans (Cb.set _ _)).trans (Cb.set _ _)⟩
theorem dA (k:Nat) (hk:5000≤k) (h:Af σ i m) (hA:BJ σ ab i a) (hab:ab ∉ i.l) (ho:a.ok) {w:Int} (hw:0≤w∧w≤1000):
  dt (Dy (k+11) (CV ab) w σ) σ i ab (DY m a false w):=by
 obtain ⟨σ1,e1,g1,a1,k1⟩:=dT k hk (h.app [.cells [] Sv true]) (hA.app _) hab ho false hw
 rw[NZ,Mq]
 refine ⟨σ1, ?_,g1,a1,(Cb.app _ _).trans k1⟩
 rw[show nW false=3 from rfl] at e1
 simp only[Am,Option.bind_some,Nat.zero_add,e1,TP]
theorem kk {b c x y x' y':Int} (h:(Ci m b c x y x' y').1≠0):(Ci m b c x y x' y').2=m:=by
 unfold Ci at *
 split at h
 ·split at h
  ·exact absurd rfl h
  ·rename_i h1 h2; rw[if_pos h1,if_neg h2]
 ·rename_i h1; rw[if_neg h1]
def mg (m:HM) (c:Nat) (s:Int):Nat→Nat→Option Nat
 | 0,_=>none
 | n+1,x=>if x+c≤m.bls.length then (if (Ci m (x:Int) (c:Int) 2 s 3 s).1=0 then some x else mg m c s n (x+1)) else none
theorem ZC (k:Nat) (hk:5000≤k) (hab:ab ∉ i.l) {c:Nat} (hc:c≤100):∀ (n x f:Nat) (σ:Aa),Af σ i m→BJ σ ab i a→x≤100→m.bls.length<x+n→n<f →
  ∃ σ',BR (k+8) f (CV ab) (c:Int) (x:Int) σ=some (match mg m c a.s n x with | some b=>(.ret,[.int .i64 (64*(b:Int)),.bool true],σ') | none=>(.exit 0,[],σ'))∧Af σ' i (match mg m c a.s n x with | some b=>(Ci m (b:Int) (c:Int) 2 a.s 3 a.s).2 | none=>m)∧BH i σ σ'
 | n,x,0,σ,h,hA,hx,hn,hf=>by omega
 | n,x,f+1,σ,h,hA,hx,hn,hf=>by
   have hnt:=h.nt
   have w0:Ac ((x:Int)+(c:Int))=((x+c:Nat):Int):=Ad (by unfold Bd; omega)
   rw[Ju,Hf]
   simp only[Option.bind_some,Nat.add_zero,Nat.zero_add,hA.Ya,IK (k+6) h,Ao,w0]
   by_cases q:x+c≤m.bls.length
   ·obtain ⟨n,rfl⟩:∃ n',n=n'+1:=⟨n-1,by omega⟩
    obtain ⟨σ1,e1,g1,k1⟩:=ag (k+1) (by omega) h (x:Int) (c:Int) a.s (by unfold Bd; omega) (by unfold Bd; omega)
    simp only[decide_eq_true (show ((x+c:Nat):Int)≤((m.bls.length:Nat):Int) by omega),cond_true,hA.l1,Option.bind_some,e1,Ao,mg,if_pos q]
    by_cases q2:(Ci m (x:Int) (c:Int) 2 a.s 3 a.s).1=0
    ·refine ⟨σ1, ?_, ?_,k1⟩
     ·simp only[q2,beq_self_eq_true,cond_true,if_true]
      rw[show Ac ((x:Int)*64)=64*(x:Int) from by rw[Ad (by unfold Bd; omega)]; omega]
     ·simp only[q2,if_true]; exact g1
    ·rw[kk q2] at g1
     obtain ⟨σ2,e2,g2,k2⟩:=ZC k hk hab hc n (x+1) f σ1 g1 (hA.Xk k1 hab) (by omega) (by omega) (by omega)
     refine ⟨σ2, ?_, ?_,k1.trans k2⟩
     ·simp only[show ((Ci m (x:Int) (c:Int) 2 a.s 3 a.s).1 == 0)=false from by simpa using q2,cond_false,if_neg q2]
      rw[show Ac ((x:Int)+1)=((x+1:Nat):Int) from Ad (by unfold Bd; omega)]
      exact e2
     ·simp only[if_neg q2]; exact g2
   ·have z:mg m c a.s n x=none:=by
     cases n with
     | zero=>rfl
     | succ n=>simp only[mg,if_neg q]
    refine ⟨σ, ?_, ?_,BH.refl _ _⟩
    ·simp only[decide_eq_false (show ¬ ((x+c:Nat):Int)≤((m.bls.length:Nat):Int) by omega),cond_false,z]
    ·simp only[z]; exact h
def M8 (m:HM) (a:AS) (w:Int):PR:=
 match mg m ((w.toNat+63)/64) a.s m.bls.length 1 with
 | some b=>((64*(b:Int),true),(Ci m (b:Int) (((w.toNat+63)/64:Nat):Int) 2 a.s 3 a.s).2,a)
 | none=>((0,false),m,a)
theorem oZ (k:Nat) (hk:5000≤k) (h:Af σ i m) (hA:BJ σ ab i a) (hab:ab ∉ i.l) {w:Int} (hw:0≤w∧w≤1000):
  dt (BU (k+9) (CV ab) w σ) σ i ab (M8 m a w):=by
 have hnt:=h.nt
 obtain ⟨w,rfl⟩:∃ n:Nat,w=(n:Int):=⟨w.toNat,by omega⟩
 have e1:Ac (Ac (Ac ((w:Int)+64)-1))=Ac (Ac ((w:Int)+64)-1):=by
  rw[Ad (show Bd ((w:Int)+64) by unfold Bd; omega),Ad (show Bd ((w:Int)+64-1) by unfold Bd; omega),Ad (by unfold Bd; omega)]
 have e2:Ac ((Ac (Ac ((w:Int)+64)-1)).tdiv 64)=(((w+63)/64:Nat):Int):=by
  rw[Ad (show Bd ((w:Int)+64) by unfold Bd; omega),Ad (show Bd ((w:Int)+64-1) by unfold Bd; omega),show (w:Int)+64-1=((w+63:Nat):Int) from by omega,show (((w+63:Nat):Int).tdiv 64)=(((w+63)/64:Nat):Int) from rfl]
  exact Ad (by unfold Bd; omega)
 obtain ⟨σ1,e3,g1,k1⟩:=ZC k hk hab (c:=(w+63)/64) (a:=a) (by omega) m.bls.length 1 (k+8) σ h hA (by omega) (by omega) (by omega)
 rw[show ((1:Nat):Int)=1 from rfl] at e3
 rw[KN,IU]
 rw[if_neg (by decide)]
 unfold M8 dt
 simp only[e2,e3,Int.toNat_natCast,Option.bind_some]
 cases hl:mg m ((w+63)/64) a.s m.bls.length 1 with
 | none=>
   simp only[hl] at g1 ⊢
   exact ⟨σ1,by simp only[if_true],g1,hA.Xk k1 hab,Cb.of k1⟩
 | some b=>
   simp only[hl] at g1 ⊢
   exact ⟨σ1,by simp only[show (Bn.ret=Bn.exit 0)=False from by simp,if_false,if_true,Yy],g1,hA.Xk k1 hab,Cb.of k1⟩
end Go.Proofs.YtlaplcglpnlieaaGreat
end
section
namespace Go.Proofs.YtlaplcglpnlieaaGreat
open Go Go.AX
noncomputable local instance vT:AN:=Au
local instance uP:Kn:=⟨true⟩
variable {σ:Aa} {i:C9} {m:HM} {ab:Nat} {a:AS}
def tS:Nat→TypeId
 | 0=>Jq
 | 1=>Mi
 | 2=>JX
 | 3=>Sv
 | _=>F7
def Xs (n:Nat):Value:=.iface (tS n) (.agg #[])
def lg:AP:=.cells [Xs 0,Xs 1,Xs 2,Xs 3,Xs 4] Uv true
theorem ZJ (k:Nat) (σ:Aa):DK (k+1) σ=some (.slice (some ⟨σ.length,0,none⟩) 5 5,σ++[lg]):=by
 rw[PK,Ou]; rfl
def tG (p w:Int):Value:=if w>32 then .func (.func Mb) #[] #[] else .func (.method "dustcart/alloc.place") #[Xs p.toNat] #[]
def BM (m:HM) (a:AS) (r d c:Int) (pr:PR):(Int × Int) × HM × AS:=
 if valid r d c=true then
  (if pr.1.2=true then
   (if UI pr.2.1 (pr.1.1.tdiv 64)=a.s then
    (if (Cx pr.2.1 pr.1.1 r d c).2.1=0 then ((pr.1.1,0),(Cx pr.2.1 pr.1.1 r d c).2.2,pr.2.2) else ((0,6),(Cx pr.2.1 pr.1.1 r d c).2.2,a))
   else ((0,6),pr.2.1,a))
  else ((0,6),pr.2.1,pr.2.2))
 else ((0,2),m,a)
def rA (mm:Option (Value × Aa)) (σ:Aa) (i:C9) (ab:Nat) (r:(Int × Int) × HM × AS):Prop:=
 ∃ σ',mm=some (.tuple #[.int .i64 r.1.1,.int .i64 r.1.2],σ')∧Af σ' i r.2.1∧BJ σ' ab i r.2.2∧Cb i ab σ σ'
theorem tr (μ:Aa) (T:TypeId) (p q x y z u w p' q' x' y' z' u' w':Value):K8 (μ++[.cells [p,q,x,y,z,u,w] T true]) μ.length 0 [p',q',x',y',z',u',w']=some (μ++[.cells [p',q',x',y',z',u',w'] T true]):=by
 simp[K8,AH]
set_option maxHeartbeats 1000000 in
theorem nZ (k:Nat) (hk:5000≤k) (h:Af σ i m) (hA:BJ σ ab i a) (hab:ab ∉ i.l) (ho:a.ok) {r d c:Int} (pr:PR)
  (hp:valid r d c=true → ∀ σ0,Af σ0 i m→BJ σ0 ab i a→dt (Ck (k+12) (tG a.p (words r d c)) [.pointer (CV ab),.int .i64 (words r d c)] σ0) σ0 i ab pr)
  (hI:valid r d c=true→Inv pr.2.1) (hb:valid r d c=true→pr.2.1.births<1000000) (hadr:valid r d c=true→0≤pr.1.1∧pr.1.1≤10000) (hps:valid r d c=true→pr.2.2.s=a.s):
  rA (AL (k+13) (CV ab) r d c σ) σ i ab (BM m a r d c pr):=by
 have hlt:=hA.lt
 rw[KL,IP]
 simp only[Am]
 obtain ⟨μ0,hμ0⟩:∃ μ0,σ++[AP.cells [Value.int .i64 r,.int .i64 d,.int .i64 c] Al true]=μ0:=⟨_,rfl⟩
 rw[hμ0]
 have h0:Af μ0 i m:=hμ0 ▸ h.app _
 have A0:BJ μ0 ab i a:=hμ0 ▸ hA.app _
 have K0:Cb i ab σ μ0:=hμ0 ▸ Cb.app σ _
 have S0:μ0[σ.length]?=some (AP.cells [Value.int .i64 r,.int .i64 d,.int .i64 c] Al true):=by rw[← hμ0]; simp
 have bx:∀ {μ:Aa},μ[σ.length]?=some (AP.cells [Value.int .i64 r,.int .i64 d,.int .i64 c] Al true)→Ai .i64 μ σ.length 0=some r∧Ai .i64 μ σ.length 1=some d∧Ai .i64 μ σ.length 2=some c:=by
  intro μ hm; simp[Ai,G0,hm,BG]
 obtain ⟨b0,b1,b2⟩:=bx S0
 obtain ⟨τ1,e1⟩:=Sm (k+11) r d c μ0
 simp only[XB (k+11) A0,Option.bind_some,As,Bool.not_true,cond_false,Nat.zero_add,Nat.reduceAdd,b0,b1,b2,e1]
 unfold BM
 cases hv:valid r d c with
 | false=>
   simp only[Bool.not_false,cond_true,Bool.false_eq_true,if_false]
   exact ⟨μ0++τ1,rfl,h0.app _,A0.app _,K0.trans (Cb.app _ _)⟩
 | true=>
   have ha1:=hadr hv
   obtain ⟨τ2,e2⟩:=So (k+10) r d c (μ0++τ1)
   have S1:(μ0++τ1)[σ.length]?=some (AP.cells [Value.int .i64 r,.int .i64 d,.int .i64 c] Al true):=by rw[List.getElem?_append_left (Ae S0)]; exact S0
   obtain ⟨c0,c1,c2⟩:=bx S1
   obtain ⟨μ2,hμ2⟩:∃ μ2,μ0++τ1++τ2=μ2:=⟨_,rfl⟩
   rw[hμ2] at e2
   have h2:Af μ2 i m:=hμ2 ▸ (h0.app _).app _
   have A2:BJ μ2 ab i a:=hμ2 ▸ (A0.app _).app _
   have K2:Cb i ab σ μ2:=hμ2 ▸ (K0.trans (Cb.app _ _)).trans (Cb.app _ _)
   have S2:μ2[σ.length]?=some (AP.cells [Value.int .i64 r,.int .i64 d,.int .i64 c] Al true):=by rw[← hμ2,List.getElem?_append_left (Ae S1)]; exact S1
   obtain ⟨μ3,hμ3⟩:∃ μ3,μ2++[lg]=μ3:=⟨_,rfl⟩
   have e3:DK (k+12) μ2=_:=ZJ (k+11) μ2
   rw[hμ3] at e3
   have h3:Af μ3 i m:=hμ3 ▸ h2.app _
   have A3:BJ μ3 ab i a:=hμ3 ▸ A2.app _
   have K3:Cb i ab σ μ3:=hμ3 ▸ K2.trans (Cb.app _ _)
   have S3:μ3[σ.length]?=some (AP.cells [Value.int .i64 r,.int .i64 d,.int .i64 c] Al true):=by rw[← hμ3,List.getElem?_append_left (Ae S2)]; exact S2
   have p0:=ho.p0
   have lp:G0 μ3 μ2.length a.p.toNat=some (Xs a.p.toNat):=by
    rw[← hμ3]; unfold lg; rw[me]
    obtain ⟨n,hn⟩:∃ n:Nat,a.p=(n:Int):=⟨a.p.toNat,by omega⟩
    rw[hn,Int.toNat_natCast]
    match n,(show n<5 by omega) with
    | 0,_=>rfl
    | 1,_=>rfl
    | 2,_=>rfl
    | 3,_=>rfl
    | 4,_=>rfl
   have hnil:∀ (n:Nat) (K:Value→Option (Value × Aa)),pv (Xs n) K=K (Xs n):=fun _ _=>rfl
   obtain ⟨μ4,hμ4⟩:∃ μ4,μ3++[AP.cells (a.row i.hb) AG true]=μ4:=⟨_,rfl⟩
   have h4:Af μ4 i m:=hμ4 ▸ h3.app _
   have A4:BJ μ4 ab i a:=hμ4 ▸ A3.app _
   have K4:Cb i ab σ μ4:=hμ4 ▸ K3.trans (Cb.app _ _)
   have S4:μ4[σ.length]?=some (AP.cells [Value.int .i64 r,.int .i64 d,.int .i64 c] Al true):=by rw[← hμ4,List.getElem?_append_left (Ae S3)]; exact S3
   have W4:BJ μ4 μ3.length i a:=by unfold BJ; rw[← hμ4]; simp
   have n3:μ3.length ∉ i.l:=fun hm=>Nat.lt_irrefl _ (h3.lt _ hm)
   have ns:σ.length ∉ i.l:=fun hm=>Nat.lt_irrefl _ (h.lt _ hm)
   have lab3:=A3.lt
   have l03:=K3.len
   obtain ⟨μ5,e5,h5,A5,K5⟩:=hp hv μ4 h4 A4
   have W5:BJ μ5 μ3.length i a:=W4.CO (K5.same _ W4.lt n3 (by omega))
   have S5:μ5[σ.length]?=some (AP.cells [Value.int .i64 r,.int .i64 d,.int .i64 c] Al true):=by rw[K5.same _ (Ae S4) ns (by omega)]; exact S4
   have K05:=K4.trans K5
   simp only[Bool.not_true,cond_false,c0,c1,c2,e2,Option.bind_some,Ao,e3,GJ,A3.l2,Nat.zero_add,Nat.mul_one,lp,hnil]
   rw[if_pos (show 0≤a.p∧a.p<((5:Nat):Int) by omega)]
   have hsel:∀ (K:Aw→Option (Value × Aa)),((bif decide (words r d c>32) then (some (Bn.normal,[Value.func (.func Mb) #[] #[]],μ3)) else (some (Bn.normal,[(Value.func (.method "dustcart/alloc.place") #[Xs a.p.toNat] #[])],μ3)):Option Aw).bind K)=K (.normal,[tG a.p (words r d c)],μ3):=by
    intro K
    unfold tG
    by_cases q:words r d c>32
    ·rw[decide_eq_true q,if_pos q]; rfl
    ·rw[decide_eq_false q,if_neg q]; rfl
   have hst:K8 (μ3++[AP.cells [.pointer none,.int .i64 (0:Int),.int .i64 (0:Int),.int .i64 (0:Int),.int .i64 (0:Int),.int .i64 (0:Int),.int .i64 (0:Int)] AG true]) μ3.length 0 [.pointer (De i),.int .i64 a.s,.int .i64 a.p,.int .i64 a.c,.int .i64 a.l,.int .i64 a.oc,.int .i64 a.ol]=some μ4:=by
    rw[tr,← hμ4]; rfl
   rw[hsel]
   simp only[if_true,sG,Option.bind_some,A3.Ya,A3.l1,A3.l2,A3.l3,A3.l4,A3.l5,A3.l6,hst,e5,TP]
   cases hok:pr.1.2 with
   | false=>
     simp only[Bool.not_false,cond_true,Bool.false_eq_true,if_false]
     exact ⟨μ5,rfl,h5,A5,K05⟩
   | true=>
     have wq:Ac (pr.1.1.tdiv 64)=pr.1.1.tdiv 64:=by
      rw[Int.tdiv_eq_ediv_of_nonneg ha1.1]; exact Ad (by unfold Bd; omega)
     have e6:BI (k+12) (De i) (pr.1.1.tdiv 64) μ5=_:=qv (k+9) h5 (pr.1.1.tdiv 64)
     simp only[Bool.not_true,cond_false,A5.Ya,Option.bind_some,wq,e6,Ao,A5.l1,hps hv,if_true]
     rw[if_neg (by decide)]
     have restore:∀ {μ:Aa} {a':AS},BJ μ ab i a'→K8 μ ab 0 [.pointer (De i),.int .i64 a.s,.int .i64 a.p,.int .i64 a.c,.int .i64 a.l,.int .i64 a.oc,.int .i64 a.ol]=some (μ.set ab (.cells (a.row i.hb) AG true)):=fun hh=>hh.st 0 _ a rfl (by simp)
     by_cases q:UI pr.2.1 (pr.1.1.tdiv 64)=a.s
     ·obtain ⟨s0,s1,s2⟩:=bx S5
      obtain ⟨μ6,e7,h6,k6⟩:=ib k hk h5 (hI hv) (hb hv) pr.1.1 r d c (by unfold Bd; omega)
      have A6:=A5.Xk k6 hab
      have W6:BJ μ6 μ3.length i a:=W5.Xk k6 n3
      have K06:=K05.trans (Cb.of k6)
      simp only[q,beq_self_eq_true,cond_true,s0,s1,s2,Option.bind_some,e7,Ed,if_true,Eh]
      by_cases q2:(Cx pr.2.1 pr.1.1 r d c).2.1=0
      ·simp only[q2,bne_self_eq_false,cond_false,if_true]
       exact ⟨μ6,rfl,h6,A6,K06⟩
      ·simp only[show ((Cx pr.2.1 pr.1.1 r d c).2.1 != 0)=true from by simpa using q2,cond_true,if_neg q2,W6.Ya,W6.l1,W6.l2,W6.l3,W6.l4,W6.l5,W6.l6,Option.bind_some,restore A6]
       exact ⟨_,rfl,h6.Su hab _,A6.put a,K06.trans (Cb.set _ _)⟩
     ·simp only[show (UI pr.2.1 (pr.1.1.tdiv 64) == a.s)=false from by simpa using q,cond_false,Option.bind_some,if_true,Eh,show ((5:Int) != 0)=true from rfl,cond_true,if_neg q,W5.Ya,W5.l1,W5.l2,W5.l3,W5.l4,W5.l5,W5.l6,restore A5]
      exact ⟨_,rfl,h5.Su hab _,A5.put a,K05.trans (Cb.set _ _)⟩
theorem qm (k:Nat) (h:Af σ i m) (s p:Int):∃ σ1,GW (k+3) (De i) s p σ=(if (0≤s∧s<8)∧(0≤p∧p<5) then some (.tuple #[.pointer (CV σ1.length),.int .i64 0],σ1++[AP.cells ((⟨s,p,0,0,0,0⟩:AS).row i.hb) AG true]) else some (.tuple #[.pointer none,.int .i64 1],σ1)) ∧ ∃ τ,σ1=σ++τ:=by
 have hnb:=h.nb
 rw[Vc,UY]
 have q0:(((m.bls.length:Nat):Int) == 0)=false:=beq_eq_false_iff_ne.2 (by omega)
 simp only[IK k h,Option.bind_some,Ao,q0,cond_false]
 by_cases h1:s<0
 ·refine ⟨σ, ?_,[],by simp⟩
  simp only[decide_eq_true h1,Option.bind_some,cond_true,if_neg (show ¬ ((0≤s∧s<8)∧(0≤p∧p<5)) by omega)]
 simp only[decide_eq_false h1,Option.bind_some,cond_false]
 by_cases h2:s≥8
 ·refine ⟨σ, ?_,[],by simp⟩
  simp only[decide_eq_true h2,Option.bind_some,cond_true,if_neg (show ¬ ((0≤s∧s<8)∧(0≤p∧p<5)) by omega)]
 simp only[decide_eq_false h2,Option.bind_some,cond_false]
 by_cases h3:p<0
 ·refine ⟨σ, ?_,[],by simp⟩
  simp only[decide_eq_true h3,Option.bind_some,cond_true,if_neg (show ¬ ((0≤s∧s<8)∧(0≤p∧p<5)) by omega)]
 simp only[decide_eq_false h3,Option.bind_some,cond_false,ZJ,GJ]
 by_cases h4:p≥((5:Nat):Int)
 ·refine ⟨σ++[lg], ?_,[lg],rfl⟩
  simp only[decide_eq_true h4,cond_true,if_neg (show ¬ ((0≤s∧s<8)∧(0≤p∧p<5)) by omega)]
 ·refine ⟨σ++[lg], ?_,[lg],rfl⟩
  simp only[decide_eq_false h4,cond_false,if_pos (show (0≤s∧s<8)∧(0≤p∧p<5) by omega),Am]
  rfl
theorem kh (k:Nat) (p:Option Addr) (n:Int) (σ:Aa):Ck k (.func (.method "dustcart/alloc.place") #[Xs 3] #[]) [.pointer p,.int .i64 n] σ=Dy k p n σ:=by
 simp only[Ck,Dy,Ab]; kernel_rfl
end Go.Proofs.YtlaplcglpnlieaaGreat
end
section
namespace Go.Proofs.YtlaplcglpnlieaaGreat
open Go Go.AX
noncomputable local instance vX:AN:=Au
local instance uT:Kn:=⟨true⟩
variable {σ:Aa} {i:C9} {m:HM} {ab:Nat} {a:AS}
structure ic (m:HM) (a:AS) (pr:PR):Prop where
 inv:Inv pr.2.1
 inv2:Inv2 pr.2.1
 brt:pr.2.1.births=m.births
 len:pr.2.1.bls.length=m.bls.length
 adr:0≤pr.1.1∧pr.1.1≤10000
 s:pr.2.2.s=a.s
 p:pr.2.2.p=a.p
 ok:pr.2.2.ok
 no:pr.1.2=false→pr.2=(m,a)
theorem T7 (m:HM) (b c x y x' y':Int):(Ci m b c x y x' y').2.births=m.births:=by
 unfold Ci
 split
 ·split <;> rfl
 ·rfl
theorem bp (h:Inv m) (h2:Inv2 m) {b:Nat} (s:Int):Inv (GO m b s)∧Inv2 (GO m b s)∧(GO m b s).births=m.births∧(GO m b s).bls.length=m.bls.length:=by
 have k:=MU h h2 (b:Int) 1 1 s 0 0
 exact ⟨k.inv,k.inv2,T7 _ _ _ _ _ _ _,k.len⟩
theorem gN (h:Inv m) (h2:Inv2 m) (ho:a.ok):ic m a ((0,false),m,a):=⟨h,h2,rfl,rfl,by dsimp only; omega,rfl,rfl,ho,fun _=>rfl⟩
theorem iw (h:Inv m) (h2:Inv2 m) (hl:m.bls.length≤64) (ho:a.ok) (v:Bool) {w:Int} (hw:0≤w∧w≤1000):ic m a (DY m a v w):=by
 have hc:=ho.cu v
 unfold DY
 split
 ·exact ⟨h,h2,rfl,rfl,by dsimp only; omega,je _ _ _ _,jd _ _ _ _,ho.put v (by omega) (by omega),fun hh=>by cases hh⟩
 ·split
  ·rename_i b hb
   have:=JD hb
   obtain ⟨k1,k2,k3,k4⟩:=bp (b:=b) h h2 a.s
   exact ⟨k1,k2,k3,k4,by dsimp only; omega,je _ _ _ _,jd _ _ _ _,ho.put v (by omega) (by omega),fun hh=>by cases hh⟩
  ·exact gN h h2 ho
theorem pg {c:Nat} {s:Int}:∀ {n x b:Nat},mg m c s n x=some b→b+c≤m.bls.length
 | 0,x,b,h=>by cases h
 | n+1,x,b,h=>by
   unfold mg at h
   split at h
   ·split at h
    ·cases h; assumption
    ·exact pg h
   ·cases h
theorem nj (h:Inv m) (h2:Inv2 m) (hl:m.bls.length≤64) (ho:a.ok) (w:Int):ic m a (M8 m a w):=by
 unfold M8
 split
 ·rename_i b hb
  have:=pg hb
  have k:=MU h h2 (b:Int) (((w.toNat+63)/64:Nat):Int) 2 a.s 3 a.s
  exact ⟨k.inv,k.inv2,T7 _ _ _ _ _ _ _,k.len,by dsimp only; omega,rfl,rfl,ho,fun hh=>by cases hh⟩
 ·exact gN h h2 ho
structure nY (m:HM) (a:AS) (r:(Int × Int) × HM × AS):Prop where
 inv:Inv r.2.1
 inv2:Inv2 r.2.1
 b1:m.births≤r.2.1.births
 b2:r.2.1.births≤m.births+1
 len:r.2.1.bls.length=m.bls.length
 s:r.2.2.s=a.s
 p:r.2.2.p=a.p
 ok:r.2.2.ok
theorem dN (h:Inv m) (h2:Inv2 m) (ho:a.ok) {r d c:Int} {pr:PR} (hp:valid r d c=true→ic m a pr) (hS:valid r d c=true→Sh pr.2.1):nY m a (BM m a r d c pr):=by
 unfold BM
 split
 ·rename_i hv
  obtain ⟨k1,k2,k3,k4,k5,k6,k7,k8,k9⟩:=hp hv
  have kp:=RQ k1 k2 (hS hv) pr.1.1 r d c
  have b1:=kp.b1; have b2:=kp.b2
  split
  ·split
   ·split
    ·exact ⟨kp.inv,kp.inv2,by dsimp only; omega,by dsimp only; omega,by rw[← k4]; exact kp.len,k6,k7,k8⟩
    ·exact ⟨kp.inv,kp.inv2,by dsimp only; omega,by dsimp only; omega,by rw[← k4]; exact kp.len,rfl,rfl,ho⟩
   ·exact ⟨k1,k2,by dsimp only; omega,by dsimp only; omega,k4,rfl,rfl,ho⟩
  ·exact ⟨k1,k2,by dsimp only; omega,by dsimp only; omega,k4,k6,k7,k8⟩
 ·exact ⟨h,h2,Int.le_refl _,by dsimp only; omega,rfl,rfl,rfl,ho⟩
theorem Lo {r d c:Int} (h:valid r d c=true):2≤words r d c∧words r d c≤218∧words r d c % 2=0:=by
 unfold words
 rw[h]
 simp only[cond_true]
 simp[valid] at h
 omega
theorem mN (hS:Sh m) (b c x y x' y':Int):Sh (Ci m b c x y x' y').2:=by
 have key:∀ l:List (Int × Int),l.length=m.bls.length→Sh { m with bls:=l }:=fun l hl=>by
  obtain ⟨p,q,r⟩:=hS
  exact ⟨by simp only; rw[hl]; exact p,by simp only; rw[hl]; exact q,by simp only; rw[hl]; exact r⟩
 unfold Ci
 split
 ·split
  ·exact key _ (by simp[G9])
  ·exact hS
 ·exact hS
end Go.Proofs.YtlaplcglpnlieaaGreat
end
section
namespace Go.Proofs.YtlaplcglpnlieaaGreat
open Go Go.AX
noncomputable local instance vU:AN:=Au
local instance uQ:Kn:=⟨true⟩
variable {σ:Aa} {i:C9} {m:HM} {ab:Nat} {a:AS}
def Bs (m:HM) (s:Int) (n:Nat):List Nat:=(List.range n).filter fun b=>decide ((m.bls.getD b (0,0)).1=1∧(m.bls.getD b (0,0)).2=s)
def V2 (l:List Nat):List Int:=l.map fun b:Nat=>(b:Int)
theorem N4 (m:HM) (s:Int) (n:Nat):Bs m s (n+1)=Bs m s n++if (m.bls.getD n (0,0)).1=1∧(m.bls.getD n (0,0)).2=s then [n] else []:=by
 unfold Bs
 rw[List.range_succ,List.filter_append]
 congr 1
 by_cases q:(m.bls.getD n (0,0)).1=1∧(m.bls.getD n (0,0)).2=s
 ·rw[if_pos q,List.filter_cons,if_pos (decide_eq_true q)]; rfl
 ·rw[if_neg q,List.filter_cons,if_neg (by rw[decide_eq_false q]; decide)]; rfl
theorem KI (m:HM) (s:Int) (n:Nat):(Bs m s n).length≤n:=by
 have:=List.length_filter_le (fun b=>decide ((m.bls.getD b (0,0)).1=1∧(m.bls.getD b (0,0)).2=s)) (List.range n)
 rw[List.length_range] at this; exact this
theorem RK {m:HM} {s:Int} {n b:Nat}:b ∈ Bs m s n↔b<n∧(m.bls.getD b (0,0)).1=1∧(m.bls.getD b (0,0)).2=s:=by
 unfold Bs; simp[List.mem_filter]
theorem lU {α:Type} (x u y v:Int) (s:α):(bif x == u then some (y == v,s) else some (false,s))=some (decide (x=u∧y=v),s):=by
 by_cases q:x=u
 ·subst q
  by_cases q2:y=v
  ·subst q2; simp
  ·simp[q2]
 ·rw[show (x == u)=false from by simpa using q]; simp[q]
theorem T4 (k:Nat) (h:Af σ i m) (hA:BJ σ ab i a):∀ (n x f:Nat) (τ:Aa) (s:Ex),x+n=m.bls.length→Br σ.length (σ++τ) s (V2 (Bs m a.s x))→n<f →
  ∃ τ' s',Bw (k+4) f (CV ab) ((m.bls.length:Nat):Int) s (x:Int) (σ++τ)=some (.exit 0,[.slice s'.1 s'.2.1 s'.2.2],σ++τ')∧Br σ.length (σ++τ') s' (V2 (Bs m a.s m.bls.length))
 | n,x,0,τ,s,hx,hs,hf=>by omega
 | 0,x,f+1,τ,s,hx,hs,hf=>by
   obtain rfl:x=m.bls.length:=by omega
   rw[FU,Fh]
   exact ⟨τ,s,by simp only[decide_eq_false (Int.lt_irrefl _),cond_false],hs⟩
 | n+1,x,f+1,τ,s,hx,hs,hf=>by
   have hnt:=h.nt
   have hxl:x<m.bls.length:=by omega
   have g:=h.app τ
   have A:=hA.app τ
   have w1:Ac ((x:Int)+1)=((x+1:Nat):Int):=Ad (by unfold Bd; omega)
   have e1:Dk (k+4) (De i) (x:Int) (σ++τ)=_:=ig (k+1) g hxl
   have e2:BI (k+4) (De i) (x:Int) (σ++τ)=_:=ba (k+1) g hxl
   rw[FU,Fh]
   simp only[decide_eq_true (show (x:Int)<((m.bls.length:Nat):Int) by omega),cond_true,Option.bind_some,Nat.add_zero,Nat.zero_add,A.Ya,e1,e2,Ao,A.l1,w1]
   rw[lU]
   by_cases q:(m.bls.getD x (0,0)).1=1∧(m.bls.getD x (0,0)).2=a.s
   ·obtain ⟨s1,τ1,e3,i1⟩:=Xj σ τ s _ (x:Int) (by have:=KI m a.s x; simp[V2]; omega) hs
    have e3':AZ P AQ (s.1,s.2.1,s.2.2) (some ⟨(σ++τ).length,0,none⟩,1,1) (σ++τ++[.cells [.int .i64 (x:Int)] AQ true])=_:=e3
    obtain ⟨τ2,s2,e4,i2⟩:=T4 k h hA n (x+1) f τ1 s1 (by omega) (by rw[N4,if_pos q]; simpa [V2] using i1) (by omega)
    refine ⟨τ2,s2, ?_,i2⟩
    simp only[decide_eq_true q,Option.bind_some,cond_true,Am,e3',if_true,Gk]
    exact e4
   ·obtain ⟨τ2,s2,e4,i2⟩:=T4 k h hA n (x+1) f τ s (by omega) (by rw[N4,if_neg q,List.append_nil]; exact hs) (by omega)
    refine ⟨τ2,s2, ?_,i2⟩
    simp only[decide_eq_false q,Option.bind_some,cond_false,if_true,Gk]
    exact e4
theorem dR (k:Nat) (hk:100≤k) (h:Af σ i m) (hA:BJ σ ab i a):
  ∃ τ s,Bq (k+5) (CV ab) σ=some (.slice s.1 s.2.1 s.2.2,σ++τ)∧Br σ.length (σ++τ) s (V2 (Bs m a.s m.bls.length)):=by
 have hnt:=h.nt
 obtain ⟨τ,s,e,hs⟩:=T4 k h hA m.bls.length 0 (k+4) [] (none,0,0) (by omega) (.inl ⟨rfl,rfl⟩) (by omega)
 rw[List.append_nil] at e
 refine ⟨τ,s, ?_,hs⟩
 have e':Bw (k+4) (k+4) (CV ab) ((m.bls.length:Nat):Int) (none,0,0) 0 σ=_:=e
 have e0:AF (k+4) (De i) σ=_:=IK (k+2) h
 rw[Kr,Ip]
 simp only[Option.bind_some,Nat.add_zero,hA.Ya,e0,Ao,e',if_true,Gk]
def KK (f w:Nat) (g:Nat × Nat):Option (Nat × Nat):=if w≤g.1+g.2-max f g.1 then some (max f g.1,g.1+g.2-max f g.1) else none
theorem tT (μ:Aa) (T:TypeId) (p q x:Value):G2 (μ++[.cells [p,q] T true]) μ.length 0 x=some (μ++[.cells [x,q] T true]):=by
 simp[G2]
theorem tU (μ:Aa) (T:TypeId) (p q x:Value):G2 (μ++[.cells [p,q] T true]) μ.length 1 x=some (μ++[.cells [p,x] T true]):=by
 simp[G2]
theorem qG (g:Nat × Nat) (fr w:Nat) (hfr:fr≤10000) (hw:1≤w) (hg:g.1+g.2≤10000) (μ:Aa):
  ∃ st sz:Int,((bif decide (Ac ((fr:Int)-(g.1:Int))>0) then ((G2 (μ++[.cells [.int .i64 (g.1:Int),.int .i64 (g.2:Int)] Ag true]) μ.length 0 (.int .i64 (fr:Int))).bind fun s17=>(G2 s17 μ.length 1 (.int .i64 (Ac ((g.2:Int)-Ac ((fr:Int)-(g.1:Int)))))).bind fun s18=>some (.normal,[],s18)) else (some (.normal,[],μ++[.cells [.int .i64 (g.1:Int),.int .i64 (g.2:Int)] Ag true])):Option Aw) =
   some (.normal,[],μ++[.cells [.int .i64 st,.int .i64 sz] Ag true]))∧(match KK fr w g with | some g'=>sz≥(w:Int)∧st=(g'.1:Int)∧sz=(g'.2:Int) | none=>¬ sz≥(w:Int)):=by
 have w1:Ac ((fr:Int)-(g.1:Int))=(fr:Int)-(g.1:Int):=Ad (by unfold Bd; omega)
 have w2:Ac ((g.2:Int)-((fr:Int)-(g.1:Int)))=(g.2:Int)-((fr:Int)-(g.1:Int)):=Ad (by unfold Bd; omega)
 rw[w1]
 unfold KK
 by_cases q:(fr:Int)-(g.1:Int)>0
 ·refine ⟨(fr:Int),(g.2:Int)-((fr:Int)-(g.1:Int)), ?_, ?_⟩
  ·rw[decide_eq_true q]
   simp only[cond_true,w1,w2,Option.bind_some,tT,tU]
  ·rw[Nat.max_eq_left (by omega)]
   by_cases q2:w≤g.1+g.2-fr
   ·rw[if_pos q2]; dsimp only; omega
   ·rw[if_neg q2]; dsimp only; omega
 ·refine ⟨(g.1:Int),(g.2:Int), ?_, ?_⟩
  ·rw[decide_eq_false q]; rfl
  ·rw[Nat.max_eq_right (by omega)]
   by_cases q2:w≤g.1+g.2-g.1
   ·rw[if_pos q2]; dsimp only; omega
   ·rw[if_neg q2]; dsimp only; omega
def sQ (s o:Ex):Prop:=∀ a,o.1=some a → ∀ b,s.1=some b→a.block≠b.block
theorem ER.sl {E:TypeId} {z n:Nat} {row:List Value} {σ':Aa} {s o o':Ex} (g:ER σ o σ' o') (h:Ch E z σ s n row) (ha:sQ s o):Ch E z σ' s n row∧sQ s o':=by
 refine ⟨h.CO fun b hb=>?_,fun x hx b hb=>?_⟩
 ·exact g.same b.block (h.lt b hb) fun x hx=>ha x hx b hb
 ·rcases g.new with rfl | hw
  ·exact ha x hx b hb
  ·have:=hw x hx; have:=h.lt b hb; omega
theorem Xi (k:Nat) {fr w:Nat} (hfr:fr≤10000) (hw:1≤w∧w≤1000) {R:List (Nat × Nat)} (hR:R.length≤100) (hRb:∀ g ∈ R,g.1+g.2≤10000) (s:Ex):∀ (n x f:Nat) (μ:Aa) (o:Ex) (R0:List (Nat × Nat)),Ch Ag 2 μ s R.length (Bm R)→Ch Ag 2 μ o R0.length (Bm R0)→sQ s o→R0.length+n≤100000→x+n=R.length→n<f →
  ∃ μ' o',BE k f (fr:Int) (w:Int) s.1 R.length s.2.2 ((R.length:Nat):Int) o (x:Int) μ=some (.exit 2,[.slice o'.1 o'.2.1 o'.2.2],μ')∧ER μ o μ' o'∧Ch Ag 2 μ' o' (R0++(R.drop x).filterMap (KK fr w)).length (Bm (R0++(R.drop x).filterMap (KK fr w)))
 | n,x,0,μ,o,R0,hs,ho,hd,hl,hx,hf=>by omega
 | 0,x,f+1,μ,o,R0,hs,ho,hd,hl,hx,hf=>by
   rw[GB,FD]
   refine ⟨μ,o,by simp only[decide_eq_false (show ¬ (x:Int)<((R.length:Nat):Int) by omega),cond_false],ER.refl _ _, ?_⟩
   rw[List.drop_of_length_le (by omega)]
   simpa using ho
 | n+1,x,f+1,μ,o,R0,hs,ho,hd,hl,hx,hf=>by
   have hxl:x<R.length:=by omega
   obtain ⟨b,e0,l0,l1⟩:=Uc hs hxl
   have eg:R.getD x (0,0)=R[x]:=by rw[List.getD_eq_getElem?_getD,List.getElem?_eq_getElem hxl]; rfl
   rw[eg] at l0 l1
   have qx:(0≤(x:Int)∧(x:Int)<((R.length:Nat):Int))=True:=eq_true (by omega)
   have w1:Ac ((x:Int)+1)=((x+1:Nat):Int):=Ad (by unfold Bd; omega)
   obtain ⟨st,sz,eb,hc⟩:=qG R[x] fr w hfr hw.1 (hRb _ (List.getElem_mem _)) μ
   have ea:∀ (st sz:Int),Ai .i64 (μ++[.cells [.int .i64 st,.int .i64 sz] Ag true]) μ.length 0=some st∧Ai .i64 (μ++[.cells [.int .i64 st,.int .i64 sz] Ag true]) μ.length 1=some sz:=fun st sz=>kM μ Ag st sz
   have hdr:R.drop x=R[x]::R.drop (x+1):=List.drop_eq_getElem_cons hxl
   rw[GB,FD]
   simp only[decide_eq_true (show (x:Int)<((R.length:Nat):Int) by omega),cond_true,qx,if_true,e0,Option.bind_some,Int.toNat_natCast,Nat.zero_add,Nat.add_zero,l0,l1,Am,rf,(ea _ _).1,eb,(ea _ _).2,w1]
   have hg1:Ch Ag 2 (μ++[.cells [.int .i64 st,.int .i64 sz] Ag true]) s R.length (Bm R):=hs.app _
   cases hcg:KK fr w R[x] with
   | none=>
     rw[hcg] at hc
     simp only[decide_eq_false (show ¬ sz≥(w:Int) from hc),cond_false,Option.bind_some,if_true,Gk]
     obtain ⟨μ',o',e2,g2,h2⟩:=Xi k hfr hw hR hRb s n (x+1) f (μ++[.cells [.int .i64 st,.int .i64 sz] Ag true]) o R0 hg1 (ho.app _) hd (by omega) (by omega) (by omega)
     rw[e0] at e2
     refine ⟨μ',o',e2,(ER.app _ _ _).trans g2, ?_⟩
     rw[hdr,List.filterMap_cons_none hcg]; exact h2
   | some g=>
     rw[hcg] at hc
     obtain ⟨c1,rfl,rfl⟩:=hc
     simp only[decide_eq_true (show ((g.2:Nat):Int)≥(w:Int) from c1),cond_true,Option.bind_some]
     obtain ⟨o1,μ1,e1,g1,h1⟩:=cC gU gp hO rfl rfl (by decide) (by decide) (by decide) (μ++[.cells [.int .i64 (g.1:Int),.int .i64 (g.2:Int)] Ag true]) o R0.length (Bm R0) 1 1 [.int .i64 (g.1:Int),.int .i64 (g.2:Int)] Ag (by omega) (by decide) rfl (ho.app _)
     have e1':AZ P Ag (o.1,o.2.1,o.2.2) (some ⟨(μ++[AP.cells [.int .i64 (g.1:Int),.int .i64 (g.2:Int)] Ag true]).length,0,none⟩,1,1) (μ++[AP.cells [.int .i64 (g.1:Int),.int .i64 (g.2:Int)] Ag true]++[AP.cells [.int .i64 (g.1:Int),.int .i64 (g.2:Int)] Ag true])=_:=e1
     have gA:ER μ o μ1 o1:=(ER.app _ _ _).trans g1
     obtain ⟨s1,d1⟩:=gA.sl hs hd
     rw[show Bm R0++[Value.int .i64 (g.1:Int),.int .i64 (g.2:Int)]=Bm (R0++[g]) from by rw[KZ]; rfl,show R0.length+1=(R0++[g]).length from by simp] at h1
     obtain ⟨μ',o',e2,g2,h2⟩:=Xi k hfr hw hR hRb s n (x+1) f μ1 o1 (R0++[g]) s1 h1 d1 (by simp; omega) (by omega) (by omega)
     rw[e0] at e2
     refine ⟨μ',o', ?_,gA.trans g2, ?_⟩
     ·simp only[e1',Option.bind_some,if_true,Gk]
      exact e2
     ·rw[hdr,List.filterMap_cons_some hcg]; simpa using h2
def EW (m:HM) (l:List Nat):List (Nat × Nat):=l.flatMap fun b:Nat=>GY m (b:Int)
def C7 (m:HM) (s:Int) (f w:Nat):List (Nat × Nat):=(EW m (Bs m s m.bls.length)).filterMap (KK f w)
theorem ma {a e M:Nat} (hM:e≤M):∀ g ∈ Jt a e,g.1+g.2≤M:=by
 intro g hg
 unfold Jt at hg
 split at hg
 ·simp at hg; subst hg; dsimp only; omega
 ·simp at hg
theorem eu (hnt:m.bls.length≤64) (b:Int):∀ g ∈ GY m b,g.1+g.2≤4096:=by
 have aux:∀ (L:List Nat) (a:Nat),(∀ j ∈ L,2*j≤4096) → ∀ g ∈ (EE m L a).1,g.1+g.2≤4096:=by
  intro L
  induction L with
  | nil=>intro a _ g hg; simp[EE] at hg
  | cons j L ih=>
    intro a hL g hg
    rw[EE] at hg
    rcases List.mem_append.1 hg with h | h
    ·exact ma (hL j (by simp)) g h
    ·exact ih _ (fun j hj=>hL j (by simp[hj])) g h
 intro g hg
 unfold GY at hg
 split at hg
 ·rename_i hst
  obtain ⟨n,rfl,hn,_⟩:=Zt hst
  rw[Int.toNat_natCast] at hg
  unfold bU at hg
  rcases List.mem_append.1 hg with h | h
  ·exact aux _ _ (fun j hj=>by have:=JF.1 hj; omega) g h
  ·exact ma (by omega) g h
 ·simp at hg
theorem XT (hnt:m.bls.length≤64) (b:Int):∀ g ∈ GY m b,g.1+g.2≤10000:=fun g hg=>by have:=eu hnt b g hg; omega
theorem eY {L:List Nat} {x:Nat} (hx:x<L.length):(V2 L).getD x 0=((L[x]:Nat):Int):=by
 unfold V2
 rw[List.getD_eq_getElem?_getD,List.getElem?_map,List.getElem?_eq_getElem hx]; rfl
theorem bW (k:Nat) (hk:5000≤k) (hI:Inv m) (h0:B0 m) {fr w:Nat} (hfr:fr≤10000) (hw:1≤w∧w≤1000) {L:List Nat} (hL:∀ b ∈ L,b<m.bls.length) (hLl:L.length≤64) (s:Ex):∀ (n x f:Nat) (μ:Aa) (o:Ex) (R0:List (Nat × Nat)),Af μ i m→BJ μ ab i a→Ch AQ 1 μ s (V2 L).length (CA (V2 L))→Ch Ag 2 μ o R0.length (Bm R0)→sQ s o→sK i o→(∀ x,o.1=some x→x.block≠ab)→R0.length+33*n≤50000→x+n=L.length→n<f →
  ∃ μ' o',BB (k+7) f (CV ab) (fr:Int) (w:Int) s.1 L.length s.2.2 ((L.length:Nat):Int) o (x:Int) μ=some (.exit 0,[.slice o'.1 o'.2.1 o'.2.2],μ')∧ER μ o μ' o'∧Ch Ag 2 μ' o' (R0++(EW m (L.drop x)).filterMap (KK fr w)).length (Bm (R0++(EW m (L.drop x)).filterMap (KK fr w)))
 | n,x,0,μ,o,R0,h,hA,hs,ho,hd,hof,hoa,hl,hx,hf=>by omega
 | 0,x,f+1,μ,o,R0,h,hA,hs,ho,hd,hof,hoa,hl,hx,hf=>by
   rw[GA,FC]
   refine ⟨μ,o,by simp only[decide_eq_false (show ¬ (x:Int)<((L.length:Nat):Int) by omega),cond_false],ER.refl _ _, ?_⟩
   rw[List.drop_of_length_le (by omega)]
   simpa [EW] using ho
 | n+1,x,f+1,μ,o,R0,h,hA,hs,ho,hd,hof,hoa,hl,hx,hf=>by
   have hxl:x<L.length:=by omega
   obtain ⟨b,e0,l0⟩:=o7 hs (show x<(V2 L).length by unfold V2; simpa using hxl)
   rw[eY hxl] at l0
   have qx:(0≤(x:Int)∧(x:Int)<((L.length:Nat):Int))=True:=eq_true (by omega)
   have w1:Ac ((x:Int)+1)=((x+1:Nat):Int):=Ad (by unfold Bd; omega)
   obtain ⟨τ,s1,e1,h1,lo1⟩:=rP k hk h hI h0 ((L[x]:Nat):Int)
   have hlen:=Qp m ((L[x]:Nat):Int)
   have gA:ER μ o (μ++τ) o:=ER.app _ _ _
   obtain ⟨sl1,_⟩:=gA.sl hs hd
   have d1:sQ s1 o:=fun x hx b hb=>by have:=ho.lt x hx; have:=lo1 b hb; omega
   obtain ⟨μ1,o1,e2,g1,h2⟩:=Xi (k+7) hfr hw (R:=GY m ((L[x]:Nat):Int)) (by omega) (XT h.nt _) s1 (GY m ((L[x]:Nat):Int)).length 0 (k+7) (μ++τ) o R0 h1 (ho.app _) d1 (by omega) (by omega) (by omega)
   rw[List.drop_zero] at h2
   have g2:ER μ o μ1 o1:=gA.trans g1
   obtain ⟨hh1,of1⟩:=g2.heap h hof
   obtain ⟨hA1,oa1⟩:=g2.other hA hoa
   obtain ⟨hs1,d2⟩:=g2.sl hs hd
   have hfl:((GY m ((L[x]:Nat):Int)).filterMap (KK fr w)).length≤33:=Nat.le_trans (List.length_filterMap_le _ _) hlen
   obtain ⟨μ2,o2,e3,g3,h3⟩:=bW k hk hI h0 hfr hw hL hLl s n (x+1) f μ1 o1 _ hh1 hA1 hs1 h2 d2 of1 oa1 (by rw[List.length_append]; omega) (by omega) (by omega)
   rw[e0] at e3
   refine ⟨μ2,o2, ?_,g2.trans g3, ?_⟩
   ·have e2':BE (k+7) (k+7) (fr:Int) (w:Int) s1.1 (GY m ((L[x]:Nat):Int)).length s1.2.2 (((GY m ((L[x]:Nat):Int)).length:Nat):Int) (o.1,o.2.1,o.2.2) 0 (μ++τ)=_:=e2
    rw[GA,FC]
    simp only[decide_eq_true (show (x:Int)<((L.length:Nat):Int) by omega),cond_true,qx,if_true,e0,Option.bind_some,Int.toNat_natCast,Nat.zero_add,Nat.add_zero,Nat.mul_one,l0,hA.Ya,e1,GJ,h1.len,e2',Gk,w1]
    exact e3
   ·rw[List.drop_eq_getElem_cons hxl]
    simp only[EW,List.flatMap_cons,List.filterMap_append,List.append_assoc] at h3 ⊢
    exact h3
theorem aH (k:Nat) (hk:5000≤k) (h:Af σ i m) (hA:BJ σ ab i a) (hI:Inv m) (h0:B0 m) {fr w:Nat} (hfr:fr≤10000) (hw:1≤w∧w≤1000):
  ∃ τ s,AO (k+8) (CV ab) (fr:Int) (w:Int) σ=some (.slice s.1 s.2.1 s.2.2,σ++τ)∧Ch Ag 2 (σ++τ) s (C7 m a.s fr w).length (Bm (C7 m a.s fr w)) ∧ ∀ x,s.1=some x→σ.length≤x.block:=by
 have hnt:=h.nt
 obtain ⟨τ1,s1,e1,h1⟩:=dR (k+2) (by omega) h hA
 have hbl:=KI m a.s m.bls.length
 obtain ⟨μ,o,e2,g2,h2⟩:=bW (ab:=ab) (a:=a) k hk hI h0 hfr hw (L:=Bs m a.s m.bls.length) (fun b hb=>(RK.1 hb).1) (by omega) s1 (Bs m a.s m.bls.length).length 0 (k+7) (σ++τ1) (none,0,0) [] (h.app _) (hA.app _) h1.sl (Ch.nil _ _ _) (fun x hx=>by cases hx) (fun x hx=>by cases hx) (fun x hx=>by cases hx) (by simp; omega) (by omega) (by omega)
 obtain ⟨⟨τ,rfl⟩,hb⟩:=(show ER (σ++τ1) (none,0,0) μ o from g2).behind (fun x hx=>by cases hx)
 refine ⟨τ,o, ?_,by simpa [C7] using h2,hb⟩
 have e1':Bq (k+7) (CV ab) σ=_:=e1
 have e2':BB (k+7) (k+7) (CV ab) (fr:Int) (w:Int) s1.1 (Bs m a.s m.bls.length).length s1.2.2 (((Bs m a.s m.bls.length).length:Nat):Int) (none,0,0) 0 (σ++τ1)=_:=e2
 have hlen:s1.2.1=(Bs m a.s m.bls.length).length:=by rw[h1.len]; simp[V2]
 rw[Ls,Jz]
 simp only[e1',Option.bind_some,GJ,hlen,e2',if_true,Gk]
end Go.Proofs.YtlaplcglpnlieaaGreat
end
