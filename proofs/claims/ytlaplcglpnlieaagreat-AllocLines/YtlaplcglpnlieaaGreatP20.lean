/- The policies first, next, lines.; Holes; the policy lines.; A list of gaps in memory, swapped: insertion sort, swapRange, rotate. -/
import Derived.Test.YtlaplcglpnlieaaGreatP19
import Derived.Test.YtlaplcglpnlieaaGreatP18
set_option linter.unusedVariables false
set_option linter.unusedSimpArgs false
set_option linter.unusedSectionVars false
section
namespace Go.Proofs.YtlaplcglpnlieaaGreat
open Go Go.AX
noncomputable local instance uB:AK:=Au
local instance tw:Kn:=⟨true⟩
variable {σ:Aa} {i:C8} {m:HM} {ab:Nat} {a:AS}
def Ci (m:HM) (a:AS) (l:List (Nat × Nat)):PR:=
 match l with
 | g::_=>(((g.1:Int),true),m,a)
 | []=>match Qp m with
   | some b=>((64*(b:Int),true),GG m b a.s,a)
   | none=>((0,false),m,a)
theorem bK (k:Nat) (hk:5000≤k) (h:Ag σ i m) (hA:Cc σ ab i a) (hab:ab ∉ i.l) (ho:a.ok) {sl:EF} {l:List (Nat × Nat)} (hs:Cd Af 2 σ sl l.length (Bj l)):
  bU (AN (k+10) (D3 ab) sl σ) σ i ab (Ci m a l):=by
 rw[K6,I8]
 cases l with
 | cons g l=>
   obtain ⟨b,e0,l0,_⟩:=Tz hs (x:=0) (by simp)
   rw[hs.len]
   rw[Nat.zero_mul] at l0
   refine ⟨σ, ?_,h,hA,Ck.refl _⟩
   simp only[decide_eq_true (show (((g::l).length:Nat):Int)>0 by simp only[List.length_cons]; omega),cond_true,if_pos (show (0:Int)≤0∧(0:Int)<(((g::l).length:Nat):Int) by simp only[List.length_cons]; omega),e0,Option.bind_some,Int.toNat_zero,Nat.zero_mul,Nat.add_zero,l0,Ci]
   rfl
 | nil=>
   obtain ⟨σ1,e1,g1,k1⟩:=ZV k hk h hA hab ho.s0
   have hA1:=hA.Wr k1 hab
   rw[hs.len]
   simp only[List.length_nil,decide_eq_false (show ¬ ((0:Nat):Int)>0 by omega),cond_false,e1,Option.bind_some,Zg,List.length_cons,List.head?_cons,List.tail_cons,Z2,As,An,pE,Nat.zero_add,Nat.reduceAdd,if_true,(js _ _ _ _).1]
   unfold WS Uy at *
   cases hfr:Qp m with
   | none=>
     simp only[hfr] at g1 ⊢
     rw[show Ci m a []=((0,false),m,a) from by simp only[Ci,hfr]]
     exact ⟨_,rfl,g1.app _,hA1.app _,(Ck.of k1).trans (Ck.app _ _)⟩
   | some b=>
     simp only[hfr] at g1 ⊢
     rw[show Ci m a []=((64*(b:Int),true),GG m b a.s,a) from by simp only[Ci,hfr]]
     exact ⟨_,rfl,g1.app _,hA1.app _,(Ck.of k1).trans (Ck.app _ _)⟩
theorem ax (k:Nat) (hk:5000≤k) (h:Ag σ i m) (hA:Cc σ ab i a) (hab:ab ∉ i.l) (ho:a.ok) (hI:Inv m) (h0:B0 m) {w:Nat} (hw:1≤w∧w≤1000):
  bU (CU (k+12) (D3 ab) (w:Int) σ) σ i ab (Ci m a (C5 m a.s 0 w)):=by
 obtain ⟨τ,s,e1,h1,_⟩:=Z6 (k+3) (by omega) (h.app [.cells [] IX true]) (hA.app _) hI h0 (fr:=0) (by decide) hw
 obtain ⟨σ2,e2,g2,a2,k2⟩:=bK (k+1) (by omega) ((h.app [.cells [] IX true]).app τ) ((hA.app _).app _) hab ho h1
 refine ⟨σ2, ?_,g2,a2,((Ck.app _ _).trans (Ck.app _ _)).trans k2⟩
 have e1':AL (k+11) (D3 ab) 0 (w:Int) (σ++[.cells [] IX true])=_:=e1
 have e2':AN (k+11) (D3 ab) (s.1,s.2.1,s.2.2) (σ++[.cells [] IX true]++τ)=_:=e2
 rw[Ng,Lg]
 simp only[An,e1',Option.bind_some,Hm,e2',Tl]
def YS (m:HM) (a:AS) (w:Nat):PR:=
 if (Ci m a (C5 m a.s a.c.toNat w++C5 m a.s 0 w)).1.2=true then
  ((Ci m a (C5 m a.s a.c.toNat w++C5 m a.s 0 w)).1,(Ci m a (C5 m a.s a.c.toNat w++C5 m a.s 0 w)).2.1,a.put false ((Ci m a (C5 m a.s a.c.toNat w++C5 m a.s 0 w)).1.1+w) a.l)
 else Ci m a (C5 m a.s a.c.toNat w++C5 m a.s 0 w)
theorem iq (m:HM) (a:AS) (l:List (Nat × Nat)):(Ci m a l).2.2=a:=by
 unfold Ci
 split
 ·rfl
 ·split <;> rfl
theorem bI (hl:m.bls.length≤64) {l:List (Nat × Nat)} (hg:∀ g ∈ l,g.1≤10000):0≤(Ci m a l).1.1∧(Ci m a l).1.1≤10000:=by
 unfold Ci
 split
 ·have:=hg _ (List.mem_cons_self); dsimp only; omega
 ·split
  ·rename_i b hb
   have:=Ig hb
   dsimp only; omega
  ·dsimp only; omega
theorem oT {f w:Nat} {g g':Nat × Nat} (hf:f≤10000) (hg:g.1+g.2≤10000) (h:Kw f w g=some g'):g'.1≤10000:=by
 unfold Kw at h
 split at h
 ·cases h; dsimp only; omega
 ·cases h
theorem Sk (hl:m.bls.length≤64) {s:Int} {f w:Nat} (hf:f≤10000):∀ g ∈ C5 m s f w,g.1≤10000:=by
 intro g hg
 unfold C5 at hg
 obtain ⟨g0,h0,hc⟩:=List.mem_filterMap.1 hg
 unfold ES at h0
 obtain ⟨b,_,hb⟩:=List.mem_flatMap.1 h0
 exact oT hf (Xb hl _ g0 hb) hc
theorem ch (k:Nat) (hk:5000≤k) (h:Ag σ i m) (hA:Cc σ ab i a) (hab:ab ∉ i.l) (ho:a.ok) (hI:Inv m) (h0:B0 m) {w:Nat} (hw:1≤w∧w≤1000):
  bU (Du (k+12) (D3 ab) (w:Int) σ) σ i ab (YS m a w):=by
 have hc:=ho.c0
 have hnt:=h.nt
 obtain ⟨c,hcc⟩:∃ c:Nat,a.c=(c:Int):=⟨a.c.toNat,by omega⟩
 obtain ⟨τ1,s1,e1,h1,lo1⟩:=Z6 (k+3) (by omega) (h.app [.cells [] JF true]) (hA.app _) hI h0 (fr:=c) (by omega) hw
 obtain ⟨μ1,hμ1⟩:∃ μ1,σ++[AP.cells [] JF true]++τ1=μ1:=⟨_,rfl⟩
 rw[hμ1] at e1 h1
 have H1:Ag μ1 i m:=hμ1 ▸ (h.app _).app _
 have A1:Cc μ1 ab i a:=hμ1 ▸ (hA.app _).app _
 have K1:Ck i ab σ μ1:=hμ1 ▸ (Ck.app _ _).trans (Ck.app _ _)
 obtain ⟨τ2,s2,e2,h2,lo2⟩:=Z6 (k+3) (by omega) H1 A1 hI h0 (fr:=0) (by decide) hw
 have hlen:∀ f,(C5 m a.s f w).length≤64*33:=by
  intro f
  unfold C5
  refine Nat.le_trans (List.length_filterMap_le _ _) ?_
  unfold ES
  have hb:=Ku m a.s m.bls.length
  have aux:∀ L:List Nat,(L.flatMap fun b:Nat=>GQ m (b:Int)).length≤L.length*33:=by
   intro L
   induction L with
   | nil=>simp
   | cons b L ih=>
     have:=PI m (b:Int)
     rw[List.flatMap_cons,List.length_append,List.length_cons]; omega
  have:=aux (Bo m a.s m.bls.length)
  omega
 have hl1:=hlen c
 have hl2:=hlen 0
 obtain ⟨o,μ3,e3,g3,h3⟩:∃ o μ3,Bn P Af s1 (s2.1,s2.2.1,s2.2.2) (μ1++τ2)=some (o,μ3)∧Gk (μ1++τ2) s1 μ3 o∧Cd Af 2 μ3 o (C5 m a.s c w++C5 m a.s 0 w).length (Bj (C5 m a.s c w++C5 m a.s 0 w)):=by
  by_cases hz:C5 m a.s 0 w=[]
  ·rw[hz] at h2
   have f0:=h2.first
   have l2:=h2.len
   refine ⟨s1,μ1++τ2, ?_,Gk.refl _ _,by rw[hz,List.append_nil]; exact h1.app _⟩
   rw[show s2.2.1=0 from l2]
   exact Uv ff dW fq rfl rfl (by decide) (μ1++τ2) s1 _ _ s2.1 s2.2.2 (h1.app _) f0
  ·have hp:0<(C5 m a.s 0 w).length:=List.length_pos_iff.2 hz
   have f0:=h2.first
   have l2:=h2.len
   obtain ⟨o,μ3,e,g,hh⟩:=SL ff dW fq rfl rfl (by decide) (by decide) (by decide) (μ1++τ2) s1 (C5 m a.s c w).length (Bj (C5 m a.s c w)) s2.1 (C5 m a.s 0 w).length s2.2.2 (Bj (C5 m a.s 0 w)) (by omega) hp (Mm _) (h1.app _) f0
   rw[l2]
   exact ⟨o,μ3,e,g,by rw[KF,List.length_append]; exact hh⟩
 have hs1:∀ x,s1.1=some x→σ.length+1≤x.block:=fun x hx=>by have:=lo1 x hx; simp at this; omega
 have off1:rQ i s1:=fun x hx hm=>by have:=hs1 x hx; have:=h.lt _ hm; omega
 have oa1:∀ x,s1.1=some x→x.block≠ab:=fun x hx=>by have:=hs1 x hx; have:=hA.lt; omega
 obtain ⟨H3,_⟩:=g3.heap (H1.app τ2) off1
 obtain ⟨A3,_⟩:=g3.other (A1.app τ2) oa1
 have A3:Cc μ3 ab i a:=A3
 have K3:Ck i ab σ μ3:=⟨Nat.le_trans (K1.trans (Ck.app _ τ2)).len g3.len,fun q hq h1' h2'=>by
  rw[g3.same q (by have:=(K1.trans (Ck.app _ τ2)).len; omega) fun x hx=>by have:=hs1 x hx; omega]
  exact (K1.trans (Ck.app _ τ2)).same q hq h1' h2'⟩
 obtain ⟨μ4,e4,H4,A4,K4⟩:=bK (k+1) (by omega) H3 A3 hab ho h3
 rw[iq] at A4
 have e1':AL (k+11) (D3 ab) (c:Int) (w:Int) (σ++[.cells [] JF true])=_:=e1
 have e2':AL (k+11) (D3 ab) 0 (w:Int) μ1=_:=e2
 have e3':Bn P Af (s1.1,s1.2.1,s1.2.2) (s2.1,s2.2.1,s2.2.2) (μ1++τ2)=_:=e3
 have e4':AN (k+11) (D3 ab) (o.1,o.2.1,o.2.2) μ3=_:=e4
 have l3:Ai .i64 (σ++[.cells [] JF true]) ab 3=some (c:Int):=by rw[(hA.app _).l3,hcc]
 have had:=bI (m:=m) (a:=a) hnt (l:=C5 m a.s c w++C5 m a.s 0 w) (fun g hg=>by
  rcases List.mem_append.1 hg with hg | hg
  ·exact Sk hnt (by omega) g hg
  ·exact Sk hnt (by decide) g hg)
 unfold YS
 rw[show a.c.toNat=c from by omega]
 rw[NA,LX]
 simp only[An,Option.bind_some,Nat.zero_add,Nat.add_zero,l3,e1',Hm,e2',e3',e4',Tl]
 have hra:=iq m a (C5 m a.s c w++C5 m a.s 0 w)
 generalize Ci m a (C5 m a.s c w++C5 m a.s 0 w)=r at *
 by_cases q:r.1.2=true
 ·rw[if_pos q]
  simp only[q,cond_true,Ad (show AY (r.1.1+(w:Int)) by unfold AY; omega)]
  have:=A4.sH false (r.1.1+(w:Int))
  rw[show mz false=3 from rfl] at this
  simp only[this,Option.bind_some,if_true]
  exact ⟨μ4.set ab (.cells ((a.put false (r.1.1+(w:Int)) a.l).row i.hb) AV true),by rw[show ((r.1,r.2.1,a.put false (r.1.1+(w:Int)) a.l):PR).1.2=true from q]; rfl,H4.RE hab _,A4.put _,(K3.trans K4).trans (Ck.set _ _)⟩
 ·rw[if_neg q]
  have q':r.1.2=false:=by simpa using q
  simp only[q',cond_false,Option.bind_some,if_true]
  exact ⟨μ4,by simp only[q'],H4,by rw[hra]; exact A4,K3.trans K4⟩
end Go.Proofs.YtlaplcglpnlieaaGreat
end
section
namespace Go.Proofs.YtlaplcglpnlieaaGreat
open Go Go.AX
noncomputable local instance uC:AK:=Au
local instance tx:Kn:=⟨true⟩
variable {σ:Aa} {i:C8} {m:HM} {ab:Nat} {a:AS}
def Jy (ls:List Bool):Nat→Nat→Nat
 | 0,n=>n
 | f+1,n=>if n<ls.length∧ls.getD n false=false then Jy ls f (n+1) else n
theorem dA (ls:List Bool):∀ (f n:Nat),n≤Jy ls f n
 | 0,n=>Nat.le_refl _
 | f+1,n=>by
   unfold Jy
   split
   ·exact Nat.le_trans (Nat.le_succ n) (dA ls f (n+1))
   ·exact Nat.le_refl _
theorem Yu (ls:List Bool):∀ (f n:Nat),n≤ls.length→Jy ls f n≤ls.length
 | 0,n,h=>h
 | f+1,n,h=>by
   unfold Jy
   split
   ·exact Yu ls f (n+1) (by omega)
   ·exact h
def Sw (ls:List Bool):Nat→Nat→List (Nat × Nat)
 | 0,_=>[]
 | f+1,x=>if x<ls.length then (if x<Jy ls 8 x then [(x,Jy ls 8 x)] else [])++Sw ls f (max (Jy ls 8 x) x+1) else []
theorem aJ (k:Nat) {ls:List Bool} (hls:ls.length≤8) {s:EF} (hs:Cd DW 1 σ s ls.length (Gd ls)):∀ (n x f:Nat),x+n=ls.length→n<f →
  BZ k f s.1 ls.length s.2.2 (x:Int) σ=some (.exit 4,[.int .i64 ((Jy ls n x:Nat):Int)],σ)
 | n,x,0,hx,hf=>by omega
 | 0,x,f+1,hx,hf=>by
   rw[G5,FA]
   simp only[decide_eq_false (show ¬ (x:Int)<((ls.length:Nat):Int) by omega),cond_false,Option.bind_some,Jy]
 | n+1,x,f+1,hx,hf=>by
   have hxl:x<ls.length:=by omega
   obtain ⟨b,e0,l0⟩:=WM hs hxl
   have w1:Ac ((x:Int)+1)=((x+1:Nat):Int):=Ad (by unfold AY; omega)
   have ih:=aJ k hls hs n (x+1) f (by omega) (by omega)
   rw[e0] at ih
   rw[G5,FA]
   simp only[decide_eq_true (show (x:Int)<((ls.length:Nat):Int) by omega),cond_true,if_pos (show (0:Int)≤(x:Int)∧(x:Int)<((ls.length:Nat):Int) by omega),e0,Option.bind_some,Int.toNat_natCast,Nat.zero_add,Nat.mul_one,l0,Jy,w1,ih]
   cases ls.getD x false with
   | false=>simp only[Bool.not_false,cond_true,hxl,and_self,if_true]
   | true=>simp only[Bool.not_true,cond_false,Bool.true_eq_false,and_false,if_false]
theorem Za (ls:List Bool):∀ (f g n:Nat),ls.length≤n+f→ls.length≤n+g→Jy ls f n=Jy ls g n
 | 0,0,n,_,_=>rfl
 | 0,g+1,n,h,_=>by unfold Jy; rw[if_neg (by omega)]
 | f+1,0,n,_,h=>by unfold Jy; rw[if_neg (by omega)]
 | f+1,g+1,n,h1,h2=>by
   unfold Jy
   rw[Za ls f g (n+1) (by omega) (by omega)]
def Re (ls:List Bool) (b:Nat) (lim:Int) (f x:Nat):Option (Nat × Nat):=(Sw ls f x).find? fun g=>decide (64*(b:Int)+8*(g.1:Int)≥lim)
theorem aI (k:Nat) (hk:100≤k) {ls:List Bool} (hls:ls.length≤8) {b:Nat} (hb:b≤64) (s:EF) {h1:Nat} (hn1:h1≠ab) (hs1:∀ x,s.1=some x→x.block≠h1):∀ (n x f:Nat) (σ:Aa),Cc σ ab i a→Cd DW 1 σ s ls.length (Gd ls)→σ[h1]?=some (H7 0 0)→ls.length<x+n→x≤20→n<f →
  BX k f (D3 ab) h1 (b:Int) s.1 ls.length s.2.2 (x:Int) σ=some (match Re ls b a.l n x with | some g=>(.ret,[.bool true],σ.set h1 (H7 (64*(b:Int)+8*(g.1:Int)) (64*(b:Int)+8*(g.2:Int)))) | none=>(.exit 2,[],σ))
 | n,x,0,σ,hA,hs,hc,hx,hx2,hf=>by omega
 | n,x,f+1,σ,hA,hs,hc,hx,hx2,hf=>by
   rw[J5,Ht]
   by_cases hxl:x<ls.length
   ·obtain ⟨n,rfl⟩:∃ n',n=n'+1:=⟨n-1,by omega⟩
    have e1:=aJ k hls hs (ls.length-x) x k (by omega) (by omega)
    rw[Za ls (ls.length-x) 8 x (by omega) (by omega)] at e1
    have hge:=dA ls 8 x
    have hle:=Yu ls 8 x (by omega)
    generalize hr:Jy ls 8 x=r at *
    have w1:Ac ((b:Int)*64)=64*(b:Int):=by rw[Ad (by unfold AY; omega)]; omega
    have w2:Ac ((x:Int)*8)=8*(x:Int):=by rw[Ad (by unfold AY; omega)]; omega
    have w3:Ac (64*(b:Int)+8*(x:Int))=64*(b:Int)+8*(x:Int):=Ad (by unfold AY; omega)
    have w4:Ac ((r:Int)*8)=8*(r:Int):=by rw[Ad (by unfold AY; omega)]; omega
    have w5:Ac (64*(b:Int)+8*(r:Int))=64*(b:Int)+8*(r:Int):=Ad (by unfold AY; omega)
    have w6:Ac ((if ((r:Nat):Int)>(x:Int) then ((r:Nat):Int) else (x:Int))+1)=((max r x+1:Nat):Int):=by
     rw[show (if ((r:Nat):Int)>(x:Int) then ((r:Nat):Int) else (x:Int))=((max r x:Nat):Int) from by split <;> omega]
     exact Ad (by unfold AY; omega)
    have ih:=aI k hk hls hb s hn1 hs1 n (max r x+1) f σ hA hs hc (by omega) (by omega) (by omega)
    have ep:Re ls b a.l (n+1) x=if x<r then (if 64*(b:Int)+8*(x:Int)≥a.l then some (x,r) else Re ls b a.l n (max r x+1)) else Re ls b a.l n (max r x+1):=by
     unfold Re
     rw[Sw,if_pos hxl,hr]
     by_cases q:x<r
     ·rw[if_pos q,if_pos q,List.singleton_append,List.find?_cons]
      by_cases q2:64*(b:Int)+8*(x:Int)≥a.l
      ·rw[if_pos q2]; simp only[decide_eq_true q2]
      ·rw[if_neg q2]; simp only[decide_eq_false q2]
     ·rw[if_neg q,if_neg q,List.nil_append]
    simp only[decide_eq_true (show (x:Int)<((ls.length:Nat):Int) by omega),cond_true,e1,Option.bind_some,if_true,DZ,Nat.zero_add,Nat.reduceAdd,hA.l4,w1,w2,w3,w4,w5,w6,ep]
    by_cases q:x<r
    ·simp only[decide_eq_true (show ((r:Nat):Int)>(x:Int) by omega),cond_true,Option.bind_some,if_pos q]
     by_cases q2:64*(b:Int)+8*(x:Int)≥a.l
     ·simp only[decide_eq_true q2,cond_true,if_pos q2,Kj,hc,H7]
      rfl
     ·simp only[decide_eq_false q2,cond_false,if_neg q2,ih]
    ·simp only[decide_eq_false (show ¬ ((r:Nat):Int)>(x:Int) by omega),cond_false,Option.bind_some,if_neg q,ih]
   ·have ep:Re ls b a.l n x=none:=by
     unfold Re
     cases n with
     | zero=>rfl
     | succ n=>rw[Sw,if_neg hxl]; rfl
    simp only[decide_eq_false (show ¬ (x:Int)<((ls.length:Nat):Int) by omega),cond_false,ep]
def LK (m:HM) (lim:Int):List Nat→Option (Nat × Nat × Nat)
 | []=>none
 | b::l=>match Re (C6 m (b:Int)) b lim 9 0 with
   | some g=>some (b,g.1,g.2)
   | none=>LK m lim l
theorem Oe (m:HM) (b:Int):(C6 m b).length≤8:=by
 unfold C6
 split
 ·rw[Mj]; exact Nat.le_refl _
 ·simp
theorem aH (k:Nat) (hk:5000≤k) (hI:Inv m) (hI2:Inv2 m) (h0:B0 m) {L:List Nat} (hL:∀ b ∈ L,b<m.bls.length) {h1:Nat} (hn1:h1≠ab) (hn2:h1 ∉ i.l) (s:EF) (hs1:∀ x,s.1=some x→x.block≠h1) (hLl:L.length≤64):∀ (n x f:Nat) (σ:Aa),Ag σ i m→Cc σ ab i a→Cd Bq 1 σ s (UM L).length (CS (UM L))→σ[h1]?=some (H7 0 0)→x+n=L.length→n<f →
  ∃ σ',BE (k+7) f (D3 ab) h1 s.1 L.length s.2.2 ((L.length:Nat):Int) (x:Int) σ=some (match LK m a.l (L.drop x) with | some _=>(.ret,[.bool true],σ') | none=>(.exit 0,[],σ')) ∧
   σ'[h1]?=some (match LK m a.l (L.drop x) with | some g=>H7 (64*(g.1:Int)+8*(g.2.1:Int)) (64*(g.1:Int)+8*(g.2.2:Int)) | none=>H7 0 0)∧σ.length≤σ'.length ∧ ∀ q,q<σ.length→q≠h1→σ'[q]?=σ[q]?
 | n,x,0,σ,h,hA,hs,hc,hx,hf=>by omega
 | 0,x,f+1,σ,h,hA,hs,hc,hx,hf=>by
   rw[G4,F9,List.drop_of_length_le (by omega)]
   exact ⟨σ,by simp only[decide_eq_false (show ¬ (x:Int)<((L.length:Nat):Int) by omega),cond_false,LK],hc,Nat.le_refl _,fun _ _ _=>rfl⟩
 | n+1,x,f+1,σ,h,hA,hs,hc,hx,hf=>by
   have hnt:=h.nt
   have hxl:x<L.length:=by omega
   obtain ⟨b,e0,l0⟩:=mQ hs (show x<(UM L).length by unfold UM; simpa using hxl)
   rw[dd hxl] at l0
   have hbl:=hL L[x] (List.getElem_mem _)
   have qx:(0≤(x:Int)∧(x:Int)<((L.length:Nat):Int))=True:=eq_true (by omega)
   have w1:Ac ((x:Int)+1)=((x+1:Nat):Int):=Ad (by unfold AY; omega)
   obtain ⟨τ,s1,e1,g1,lo1⟩:=jT k hk h hI hI2 h0 ((L[x]:Nat):Int)
   have hcl:=Ae hc
   have hc1:(σ++τ)[h1]?=some (H7 0 0):=by rw[List.getElem?_append_left hcl]; exact hc
   have e2:=aI (k+7) (by omega) (Oe m ((L[x]:Nat):Int)) (b:=L[x]) (by omega) s1 (ab:=ab) (a:=a) hn1 (fun y hy=>by have:=lo1 y hy; omega) 9 0 (k+7) (σ++τ) (hA.app _) g1 hc1 (by have:=Oe m ((L[x]:Nat):Int); omega) (by omega) (by omega)
   have hdr:L.drop x=L[x]::L.drop (x+1):=List.drop_eq_getElem_cons hxl
   rw[G4,F9,hdr,LK]
   rw[show ((0:Nat):Int)=0 from rfl] at e2
   simp only[decide_eq_true (show (x:Int)<((L.length:Nat):Int) by omega),cond_true,qx,if_true,e0,Option.bind_some,Int.toNat_natCast,Nat.zero_add,Nat.add_zero,Nat.mul_one,l0,hA.X9,e1,Hm,g1.len,e2,w1]
   cases hg:Re (C6 m ((L[x]:Nat):Int)) L[x] a.l 9 0 with
   | some g=>
     refine ⟨(σ++τ).set h1 (H7 (64*((L[x]:Nat):Int)+8*(g.1:Int)) (64*((L[x]:Nat):Int)+8*(g.2:Int))), ?_,by rw[List.getElem?_set_self (Ae hc1)],by simp,fun q hq hn=>by rw[List.getElem?_set_ne (fun e=>hn e.symm),List.getElem?_append_left hq]⟩
     simp only[show (Bk.ret=Bk.exit 2)=False from by simp,if_false,if_true,T8]
   | none=>
     obtain ⟨σ',e3,c3,l3,s3⟩:=aH k hk hI hI2 h0 hL hn1 hn2 s hs1 hLl n (x+1) f (σ++τ) (h.app _) (hA.app _) (hs.app _) hc1 (by omega) (by omega)
     rw[e0] at e3
     refine ⟨σ', ?_,c3,by simp at l3; omega,fun q hq hn=>by rw[s3 q (by simp; omega) hn,List.getElem?_append_left hq]⟩
     simp only[if_true,e3]
def Ld (m:HM) (a:AS):Int × Int × Bool:=match LK m a.l (Bo m a.s m.bls.length) with | some g=>(64*(g.1:Int)+8*(g.2.1:Int),64*(g.1:Int)+8*(g.2.2:Int),true) | none=>WS m
def Nu (m:HM) (a:AS):HM:=match LK m a.l (Bo m a.s m.bls.length) with | some g=>m | none=>Uy m a.s
theorem pb (k:Nat) (hk:5000≤k) (h:Ag σ i m) (hA:Cc σ ab i a) (hab:ab ∉ i.l) (ho:a.ok) (hI:Inv m) (hI2:Inv2 m) (h0:B0 m):
  ∃ σ',CE (k+10) (D3 ab) σ=some (.tuple #[.agg #[.int .i64 (Ld m a).1,.int .i64 (Ld m a).2.1],.bool (Ld m a).2.2],σ')∧Ag σ' i (Nu m a)∧BG i σ σ':=by
 have hnt:=h.nt
 have hlt:=hA.lt
 have hnl:σ.length ∉ i.l:=fun hm=>Nat.lt_irrefl _ (h.lt _ hm)
 obtain ⟨τ1,s1,e1,g1⟩:=c8 (k+4) (by omega) (h.app [H7 0 0]) (hA.app [H7 0 0])
 have hbl:=Ku m a.s m.bls.length
 have hc0:(σ++[H7 0 0]++τ1)[σ.length]?=some (H7 0 0):=by rw[List.getElem?_append_left (by simp)]; simp
 obtain ⟨σ2,e2,c2,l2,k2⟩:=aH (ab:=ab) (a:=a) (i:=i) (k+2) (by omega) hI hI2 h0 (L:=Bo m a.s m.bls.length) (fun b hb=>(OQ.1 hb).1) (h1:=σ.length) (by omega) hnl s1 (fun x hx=>by have:=(g1.ge x hx).1; simp at this; omega) (by omega) (Bo m a.s m.bls.length).length 0 (k+9) (σ++[H7 0 0]++τ1) ((h.app _).app _) ((hA.app _).app _) g1.sl hc0 (by omega) (by omega)
 rw[List.drop_zero] at e2 c2
 have kp:BG i σ σ2:=⟨by simp at l2; omega,fun q hq hm=>by rw[k2 q (by simp; omega) (by omega),List.append_assoc,List.getElem?_append_left hq]⟩
 have h2:Ag σ2 i m:=h.Dd fun j hj=>by
  have:=h.lt j hj
  rw[k2 j (by simp; omega) (by omega),List.append_assoc,List.getElem?_append_left this]
 have A2:Cc σ2 ab i a:=hA.Wr kp hab
 have hlen:s1.2.1=(Bo m a.s m.bls.length).length:=by rw[g1.len]; simp[UM]
 have e1':Bp (k+9) (D3 ab) (σ++[H7 0 0])=_:=e1
 have e2':BE (k+9) (k+9) (D3 ab) σ.length s1.1 (Bo m a.s m.bls.length).length s1.2.2 (((Bo m a.s m.bls.length).length:Nat):Int) 0 (σ++[H7 0 0]++τ1)=_:=e2
 unfold Ld Nu
 rw[KY,Ji]
 simp only[An,show (AP.cells [.int .i64 0,.int .i64 0] Em true)=H7 0 0 from rfl,e1',Option.bind_some,Hm,hlen,e2']
 cases hh:LK m a.l (Bo m a.s m.bls.length) with
 | some g=>
   rw[hh] at c2
   refine ⟨σ2, ?_,h2,kp⟩
   simp only[show (Bk.ret=Bk.exit 0)=False from by simp,if_false,if_true,T8,Ue,c2,H7]
   rfl
 | none=>
   rw[hh] at c2
   obtain ⟨σ3,e3,h3,k3⟩:=ZV k hk h2 A2 hab ho.s0
   have c3:=(k3.same _ (Ae c2) hnl).trans c2
   refine ⟨σ3.set σ.length (H7 (WS m).1 (WS m).2.1), ?_,h3.Dd fun j hj=>List.getElem?_set_ne fun e=>hnl (by rw[e]; exact hj),⟨by have:=kp.len; have:=k3.len; simp; omega,fun q hq hm=>?_⟩⟩
   ·simp only[if_true,e3,Option.bind_some,Zg,List.length_cons,List.length_nil,List.head?_cons,List.tail_cons,Z2,As,Nat.zero_add,Nat.reduceAdd,Kj,c3,H7,Ue]
    simp[AF,Q3,List.getElem?_set_self (Ae c3)]
   ·have:=kp.len
    rw[List.getElem?_set_ne (by omega),k3.same q (by omega) hm,kp.same q hq hm]
end Go.Proofs.YtlaplcglpnlieaaGreat
end
section
namespace Go.Proofs.YtlaplcglpnlieaaGreat
open Go Go.AX
noncomputable local instance uE:AK:=Au
local instance tA:Kn:=⟨true⟩
variable {σ:Aa} {b:Nat} {R:List (Nat × Nat)}
def gd (R:List (Nat × Nat)) (x:Nat):Nat × Nat:=R.getD x (0,0)
def G0 (σ:Aa) (b:Nat) (R:List (Nat × Nat)):Prop:=σ[b]?=some (.cells (Bj R) Af true)
structure Fi (b:Nat) (σ σ':Aa):Prop where
 len:σ.length≤σ'.length
 same:∀ q,q<σ.length→q≠b→σ'[q]?=σ[q]?
theorem Fi.refl (σ:Aa):Fi b σ σ:=⟨Nat.le_refl _,fun _ _ _=>rfl⟩
theorem Fi.trans {x y z:Aa} (h:Fi b x y) (g:Fi b y z):Fi b x z:=⟨Nat.le_trans h.len g.len,fun q h1 h2=>(g.same q (Nat.lt_of_lt_of_le h1 h.len) h2).trans (h.same q h1 h2)⟩
theorem Fi.app (σ τ:Aa):Fi b σ (σ++τ):=⟨by simp,fun q h _=>List.getElem?_append_left h⟩
theorem Fi.set (σ:Aa) (o:AP):Fi b σ (σ.set b o):=⟨by simp,fun q _ h=>List.getElem?_set_ne fun e=>h e.symm⟩
theorem G0.app (h:G0 σ b R) (τ:Aa):G0 (σ++τ) b R:=by unfold G0; rw[List.getElem?_append_left (Ae h)]; exact h
theorem G0.ld (h:G0 σ b R) {x:Nat} (hx:x<R.length):Ai .i64 σ b (x*2)=some ((gd R x).1:Int)∧Ai .i64 σ b (x*2+1)=some ((gd R x).2:Int):=by
 obtain ⟨h1,h2⟩:=W8 R x hx
 unfold G0 at h
 exact ⟨by simp only[Ai,Gs,h,h1,Option.bind_some,Ao]; rfl,by simp only[Ai,Gs,h,h2,Option.bind_some,Ao]; rfl⟩
theorem bt:∀ (R:List (Nat × Nat)) (x:Nat) (e:Nat × Nat),x<R.length→AF (Bj R) (x*2) [.int .i64 (e.1:Int),.int .i64 (e.2:Int)]=Bj (R.set x e)
 | g::R,0,e,h=>by simp[Bj,AF]
 | g::R,x+1,e,h=>by
   have ih:=bt R x e (by simpa using h)
   simp only[List.set_cons_succ,Bj,← ih,AF]
   rw[show (x+1)*2=x*2+1+1 from by omega]
   simp[List.take_succ_cons,List.drop_succ_cons,Nat.add_right_comm]
theorem G0.st (h:G0 σ b R) {x:Nat} (hx:x<R.length) (e:Nat × Nat):Kj σ b (x*2) [.int .i64 (e.1:Int),.int .i64 (e.2:Int)]=some (σ.set b (.cells (Bj (R.set x e)) Af true))∧G0 (σ.set b (.cells (Bj (R.set x e)) Af true)) b (R.set x e):=by
 have h':=h
 unfold G0 at h'
 constructor
 ·simp only[Kj,h']
  rw[if_pos (by rw[Mm]; simp; omega),bt R x e hx]
 ·unfold G0; rw[List.getElem?_set_self (Ae h)]
theorem nj (R:List (Nat × Nat)) (x y:Nat) (e:Nat × Nat) (hx:x<R.length):gd (R.set x e) y=if y=x then e else gd R y:=by
 unfold gd
 rw[List.getD_eq_getElem?_getD,List.getElem?_set]
 by_cases q:x=y
 ·subst q; rw[if_pos rfl,if_pos rfl,if_pos hx]; rfl
 ·rw[if_neg q,if_neg (fun e=>q e.symm),List.getD_eq_getElem?_getD]
def sw (R:List (Nat × Nat)) (x y:Nat):List (Nat × Nat):=(R.set x (gd R y)).set y (gd R x)
theorem bL (R:List (Nat × Nat)) (x y:Nat):(sw R x y).length=R.length:=by simp[sw]
theorem gu (R:List (Nat × Nat)) (x y z:Nat) (hx:x<R.length) (hy:y<R.length):gd (sw R x y) z=if z=y then gd R x else if z=x then gd R y else gd R z:=by
 unfold sw
 rw[nj _ _ _ _ (by simpa using hy),nj _ _ _ _ hx]
theorem G0.sw (h:G0 σ b R) {x y:Nat} (hx:x<R.length) (hy:y<R.length):
  ∃ σ1 σ2,Kj σ b (x*2) [.int .i64 ((gd R y).1:Int),.int .i64 ((gd R y).2:Int)]=some σ1∧Kj σ1 b (y*2) [.int .i64 ((gd R x).1:Int),.int .i64 ((gd R x).2:Int)]=some σ2∧G0 σ2 b (sw R x y)∧Fi b σ σ2:=by
 obtain ⟨e1,h1⟩:=h.st hx (gd R y)
 obtain ⟨e2,h2⟩:=h1.st (x:=y) (by simpa using hy) (gd R x)
 exact ⟨_,_,e1,e2,h2,(Fi.set _ _).trans (Fi.set _ _)⟩
abbrev Qf:Value:=.func (.func Ns) #[] #[]
def bV (R:List (Nat × Nat)):Prop:=∀ x,(gd R x).1≤10000∧(gd R x).2≤10000
theorem dY (k:Nat) (e g:Nat × Nat) (he:e.2≤10000) (hg:g.2≤10000) (σ:Aa):∃ τ,CZ (k+1) Qf [.agg #[.int .i64 (e.1:Int),.int .i64 (e.2:Int)],.agg #[.int .i64 (g.1:Int),.int .i64 (g.2:Int)]] σ=some (.int .i64 ((e.2:Int)-(g.2:Int)),σ++τ):=by
 rw[show Qf = .func (.func Ns) #[] #[] from rfl,Nf,Lz,JH]
 simp only[An]
 have l1:Ai .i64 (σ++[AP.cells [.int .i64 (e.1:Int),.int .i64 (e.2:Int)] Af true]++[AP.cells [.int .i64 (g.1:Int),.int .i64 (g.2:Int)] Af true]) σ.length 1=some (e.2:Int):=by
  rw[et _ _ _ (by simp)]; exact (js _ _ _ _).2
 have l2:=(js (σ++[AP.cells [.int .i64 (e.1:Int),.int .i64 (e.2:Int)] Af true]) Af (g.1:Int) (g.2:Int)).2
 simp only[Nat.zero_add,l1,l2,Option.bind_some,Ad (show AY ((e.2:Int)-(g.2:Int)) by unfold AY; omega)]
 exact ⟨_,by rw[List.append_assoc]⟩
theorem ja (e g:Nat × Nat):decide ((e.2:Int)-(g.2:Int)<0)=decide (e.2<g.2):=by
 by_cases q:e.2<g.2
 ·rw[decide_eq_true q,decide_eq_true (by omega)]
 ·rw[decide_eq_false q,decide_eq_false (by omega)]
def Xl (e g:Nat × Nat):Prop:=e.2<g.2∨(e.2=g.2∧e.1<g.1)
theorem Xl.trans {e g h:Nat × Nat} (a:Xl e g) (c:Xl g h):Xl e h:=by unfold Xl at *; omega
def SD (R:List (Nat × Nat)) (lo hi:Nat):Prop:=∀ x y,lo≤x→x<y→y<hi→Xl (gd R x) (gd R y)
def O5 (R R':List (Nat × Nat)) (lo hi:Nat):Prop:=∀ e,(∃ x,lo≤x∧x<hi∧gd R' x=e)↔(∃ x,lo≤x∧x<hi∧gd R x=e)
def RP (R R':List (Nat × Nat)) (lo hi:Nat):Prop:=∀ x,x<lo∨hi≤x→gd R' x=gd R x
structure Zn (R R':List (Nat × Nat)) (lo hi:Nat):Prop where
 len:R'.length=R.length
 srt:SD R' lo hi
 set:O5 R R' lo hi
 out:RP R R' lo hi
theorem bV.of {R':List (Nat × Nat)} {lo hi:Nat} (h:bV R) (hs:O5 R R' lo hi) (ho:RP R R' lo hi):bV R':=by
 intro x
 by_cases q:lo≤x∧x<hi
 ·obtain ⟨y,_,_,hy⟩:=(hs (gd R' x)).1 ⟨x,q.1,q.2,rfl⟩
  rw[← hy]; exact h y
 ·rw[ho x (by omega)]; exact h x
theorem bV.sw (h:bV R) {x y:Nat} (hx:x<R.length) (hy:y<R.length):bV (sw R x y):=by
 intro z
 rw[gu _ _ _ _ hx hy]
 split
 ·exact h x
 ·split
  ·exact h y
  ·exact h z
theorem cW (k:Nat) {a:Nat} (hln:R.length≤3000):∀ (n j f:Nat) (σ:Aa) (R':List (Nat × Nat)),R'.length=R.length→G0 σ b R'→bV R'→j=a+n→j<R.length→SD R' a j→(∀ x,a≤x→x<j→(gd R' x).1<(gd R' j).1)→n<f →
  ∃ σ' R'',AH (k+1) f (some ⟨b,0,none⟩) R.length R.length (a:Int) Qf (j:Int) σ=some (.exit 2,[],σ')∧G0 σ' b R''∧Zn R' R'' a (j+1)∧Fi b σ σ'
 | n,j,0,σ,R',hl,h,hS,hj,hjl,hs,hlt,hf=>by omega
 | 0,j,f+1,σ,R',hl,h,hS,hj,hjl,hs,hlt,hf=>by
   rw[Dg,Cz]
   refine ⟨σ,R', ?_,h,⟨rfl,fun x y h1 h2 h3=>by omega,fun e=>Iff.rfl,fun x _=>rfl⟩,Fi.refl _⟩
   simp only[decide_eq_false (show ¬ (j:Int)>(a:Int) by omega),cond_false,Option.bind_some]
 | n+1,j,f+1,σ,R',hl,h,hS,hj,hjl,hs,hlt,hf=>by
   obtain ⟨p,rfl⟩:∃ p,j=p+1:=⟨j-1,by omega⟩
   have w1:Ac (((p+1:Nat):Int)-1)=(p:Int):=by rw[Ad (by unfold AY; omega)]; omega
   obtain ⟨l0,l1⟩:=h.ld (x:=p+1) (by omega)
   obtain ⟨l2,l3⟩:=h.ld (x:=p) (by omega)
   obtain ⟨τ,ec⟩:=dY k (gd R' (p+1)) (gd R' p) (hS _).2 (hS _).2 σ
   have q1:(0≤((p+1:Nat):Int)∧((p+1:Nat):Int)<((R.length:Nat):Int))=True:=eq_true (by omega)
   have q2:(0≤((p:Nat):Int)∧((p:Nat):Int)<((R.length:Nat):Int))=True:=eq_true (by omega)
   have h1:=h.app τ
   obtain ⟨m0,m1⟩:=h1.ld (x:=p+1) (by omega)
   obtain ⟨m2,m3⟩:=h1.ld (x:=p) (by omega)
   rw[Dg,Cz]
   simp only[decide_eq_true (show ((p+1:Nat):Int)>(a:Int) by omega),cond_true,q1,q2,if_true,w1,Option.bind_some,Int.toNat_natCast,Nat.zero_add,l0,l1,l2,l3,ec,Ao,ja,m0,m1,m2,m3]
   by_cases q:(gd R' (p+1)).2<(gd R' p).2
   ·obtain ⟨σ1,σ2,e1,e2,g2,o2⟩:=h1.sw (x:=p+1) (y:=p) (by omega) (by omega)
    have gs:∀ z,gd (sw R' (p+1) p) z=if z=p then gd R' (p+1) else if z=p+1 then gd R' p else gd R' z:=fun z=>gu _ _ _ _ (by omega) (by omega)
    obtain ⟨σ3,R3,e3,g3,d3,o3⟩:=cW k (a:=a) hln n p f σ2 (sw R' (p+1) p) (by rw[bL]; exact hl) g2 (hS.sw (by omega) (by omega)) (by omega) (by omega) (fun x y a1 a2 a3=>by
     rw[gs,gs,if_neg (by omega),if_neg (by omega),if_neg (by omega),if_neg (by omega)]; exact hs x y a1 a2 (by omega)) (fun x a1 a2=>by
     rw[gs,gs,if_neg (by omega),if_neg (by omega),if_pos rfl]; exact hlt x a1 (by omega)) (by omega)
    refine ⟨σ3,R3, ?_,g3,⟨by rw[d3.len,bL], ?_, ?_, ?_⟩,((Fi.app _ _).trans o2).trans o3⟩
    ·simp only[decide_eq_true q,cond_true,e1,Option.bind_some,e2,e3]
    ·intro x y a1 a2 a3
     by_cases q3:y<p+1
     ·exact d3.srt x y a1 a2 q3
     ·obtain rfl:y=p+1:=by omega
      rw[d3.out (p+1) (by omega),gs (p+1),if_neg (by omega),if_pos rfl]
      obtain ⟨z,z1,z2,hz⟩:=(d3.set (gd R3 x)).1 ⟨x,a1,by omega,rfl⟩
      rw[← hz,gs]
      split
      ·exact .inl q
      ·rw[if_neg (by omega)]; exact hs z p z1 (by omega) (by omega)
    ·intro e
     constructor
     ·rintro ⟨x,a1,a2,rfl⟩
      by_cases q3:x<p+1
      ·obtain ⟨z,z1,z2,hz⟩:=(d3.set (gd R3 x)).1 ⟨x,a1,q3,rfl⟩
       rw[← hz,gs]
       split
       ·exact ⟨p+1,by omega,by omega,rfl⟩
       ·rw[if_neg (by omega)]; exact ⟨z,z1,by omega,rfl⟩
      ·obtain rfl:x=p+1:=by omega
       rw[d3.out (p+1) (by omega),gs (p+1),if_neg (by omega),if_pos rfl]
       exact ⟨p,by omega,by omega,rfl⟩
     ·rintro ⟨x,a1,a2,rfl⟩
      by_cases q3:x=p
      ·subst q3
       refine ⟨x+1,by omega,by omega, ?_⟩
       rw[d3.out (x+1) (by omega),gs,if_neg (by omega),if_pos rfl]
      ·have:∃ z,a≤z∧z<p+1∧gd (sw R' (p+1) p) z=gd R' x:=by
        by_cases q4:x=p+1
        ·exact ⟨p,by omega,by omega,by rw[gs,if_pos rfl,q4]⟩
        ·exact ⟨x,a1,by omega,by rw[gs,if_neg q3,if_neg q4]⟩
       obtain ⟨z,z1,z2,z3⟩:=(d3.set (gd R' x)).2 this
       exact ⟨z,z1,by omega,z3⟩
    ·intro x hx
     rw[d3.out x (by omega),gs,if_neg (by omega),if_neg (by omega)]
   ·refine ⟨σ++τ,R', ?_,h1,⟨rfl, ?_,fun e=>Iff.rfl,fun x _=>rfl⟩,Fi.app _ _⟩
    ·simp only[decide_eq_false q,cond_false]
    ·have key:Xl (gd R' p) (gd R' (p+1)):=by
      have:=hlt p (by omega) (by omega)
      unfold Xl; omega
     intro x y a1 a2 a3
     by_cases q3:y<p+1
     ·exact hs x y a1 a2 q3
     ·obtain rfl:y=p+1:=by omega
      by_cases q4:x=p
      ·subst q4; exact key
      ·exact (hs x p a1 (by omega) (by omega)).trans key
def rP (R:List (Nat × Nat)) (lo hi:Nat):Prop:=∀ x y,lo≤x→x<y→y<hi→(gd R x).1<(gd R y).1
theorem cV (k:Nat) (hk:5000≤k) {a c:Nat} (hln:R.length≤3000) (hc:c≤R.length):∀ (n j f:Nat) (σ:Aa) (R':List (Nat × Nat)),R'.length=R.length→G0 σ b R'→bV R'→c≤j+n→a<j→SD R' a j→(∀ x y,a≤x→x<y→j≤y→y<c→(gd R' x).1<(gd R' y).1)→n<f →
  ∃ σ' R'',AG (k+1) f (some ⟨b,0,none⟩) R.length R.length (a:Int) (c:Int) Qf (j:Int) σ=some (.exit 0,[],σ')∧G0 σ' b R''∧Zn R' R'' a (max j c)∧Fi b σ σ'
 | n,j,0,σ,R',hl,h,hS,hj,haj,hs,hlt,hf=>by omega
 | n,j,f+1,σ,R',hl,h,hS,hj,haj,hs,hlt,hf=>by
   rw[Df,Cy]
   by_cases q:j<c
   ·obtain ⟨n,rfl⟩:∃ n',n=n'+1:=⟨n-1,by omega⟩
    obtain ⟨σ1,R1,e1,g1,d1,o1⟩:=cW k (a:=a) hln (j-a) j (k+1) σ R' hl h hS (by omega) (by omega) hs (fun x a1 a2=>hlt x j a1 a2 (Nat.le_refl _) q) (by omega)
    have w1:Ac ((j:Int)+1)=((j+1:Nat):Int):=Ad (by unfold AY; omega)
    obtain ⟨σ2,R2,e2,g2,d2,o2⟩:=cV k hk (a:=a) hln hc n (j+1) f σ1 R1 (d1.len.trans hl) g1 (hS.of d1.set d1.out) (by omega) (by omega) d1.srt (fun x y a1 a2 a3 a4=>by
     rw[d1.out y (by omega)]
     by_cases q2:x<j+1
     ·obtain ⟨z,z1,z2,hz⟩:=(d1.set (gd R1 x)).1 ⟨x,a1,q2,rfl⟩
      rw[← hz]; exact hlt z y z1 (by omega) (by omega) a4
     ·rw[d1.out x (by omega)]; exact hlt x y a1 a2 (by omega) a4) (by omega)
    refine ⟨σ2,R2, ?_,g2,⟨d2.len.trans d1.len, ?_, ?_, ?_⟩,o1.trans o2⟩
    ·simp only[decide_eq_true (show (j:Int)<(c:Int) by omega),cond_true,e1,Option.bind_some,if_true,w1,e2]
    ·rw[show max j c=max (j+1) c from by omega]; exact d2.srt
    ·rw[show max j c=max (j+1) c from by omega]
     intro e
     rw[d2.set e]
     constructor
     ·rintro ⟨x,a1,a2,rfl⟩
      by_cases q2:x<j+1
      ·obtain ⟨z,z1,z2,hz⟩:=(d1.set (gd R1 x)).1 ⟨x,a1,q2,rfl⟩
       exact ⟨z,z1,by omega,hz⟩
      ·exact ⟨x,a1,a2,(d1.out x (by omega)).symm⟩
     ·rintro ⟨x,a1,a2,rfl⟩
      by_cases q2:x<j+1
      ·obtain ⟨z,z1,z2,hz⟩:=(d1.set (gd R' x)).2 ⟨x,a1,q2,rfl⟩
       exact ⟨z,z1,by omega,hz⟩
      ·exact ⟨x,a1,a2,d1.out x (by omega)⟩
    ·intro x hx
     rw[d2.out x (by omega),d1.out x (by omega)]
   ·rw[show max j c=j from by omega]
    refine ⟨σ,R', ?_,h,⟨rfl,hs,fun e=>Iff.rfl,fun x _=>rfl⟩,Fi.refl _⟩
    simp only[decide_eq_false (show ¬ (j:Int)<(c:Int) by omega),cond_false]
theorem SD.one (a:Nat):SD R a (a+1):=fun x y h1 h2 h3=>by omega
theorem nv (k:Nat) (hk:5000≤k) {a c:Nat} (hln:R.length≤3000) (hac:a≤c) (hc:c≤R.length) (σ:Aa) (R':List (Nat × Nat)) (hl:R'.length=R.length) (h:G0 σ b R') (hS:bV R') (hI:rP R' a c):
  ∃ σ' R'',A9 (k+2) (some ⟨b,0,none⟩,R.length,R.length) (a:Int) (c:Int) Qf σ=some (.tuple #[],σ')∧G0 σ' b R''∧Zn R' R'' a c∧Fi b σ σ':=by
 obtain ⟨σ1,R1,e1,g1,d1,o1⟩:=cV k hk (a:=a) hln hc (c-a) (a+1) (k+1) σ R' hl h hS (by omega) (by omega) (SD.one a) (fun x y a1 a2 a3 a4=>hI x y a1 a2 a4) (by omega)
 have w1:Ac ((a:Int)+1)=((a+1:Nat):Int):=Ad (by unfold AY; omega)
 refine ⟨σ1,R1, ?_,g1, ?_,o1⟩
 ·rw[DQ,CO]
  simp only[w1,e1,Option.bind_some,if_true]
 ·by_cases q:a<c
  ·rw[show max (a+1) c=c from by omega] at d1; exact d1
  ·obtain rfl:a=c:=by omega
   rw[show max (a+1) a=a+1 from by omega] at d1
   have e0:gd R1 a=gd R' a:=by
    obtain ⟨z,z1,z2,hz⟩:=(d1.set (gd R1 a)).1 ⟨a,Nat.le_refl _,by omega,rfl⟩
    obtain rfl:z=a:=by omega
    exact hz.symm
   exact ⟨d1.len,fun x y _ _ _=>by omega,fun e=>⟨fun ⟨x,_,_,_⟩=>by omega,fun ⟨x,_,_,_⟩=>by omega⟩,fun x _=>by
    by_cases q2:x=a
    ·rw[q2]; exact e0
    ·exact d1.out x (by omega)⟩
theorem dG (k:Nat) (hln:R.length≤3000) {p q c:Nat} (hpq:p+c≤q) (hq:q+c≤R.length):∀ (n x f:Nat) (σ:Aa) (R':List (Nat × Nat)),R'.length=R.length→G0 σ b R'→x+n=c→n<f →
  ∃ σ' R'',B3 k f (some ⟨b,0,none⟩) R.length R.length (p:Int) (q:Int) (c:Int) (x:Int) σ=some (.exit 0,[],σ')∧G0 σ' b R''∧R''.length=R.length∧(∀ z,gd R'' z=if p+x≤z∧z<p+c then gd R' (z+(q-p)) else if q+x≤z∧z<q+c then gd R' (z-(q-p)) else gd R' z)∧Fi b σ σ'
 | n,x,0,σ,R',hl,h,hx,hf=>by omega
 | 0,x,f+1,σ,R',hl,h,hx,hf=>by
   rw[Ge,E3]
   refine ⟨σ,R', ?_,h,hl,fun z=>by rw[if_neg (by omega),if_neg (by omega)],Fi.refl _⟩
   simp only[decide_eq_false (show ¬ (x:Int)<(c:Int) by omega),cond_false]
 | n+1,x,f+1,σ,R',hl,h,hx,hf=>by
   have w1:Ac ((x:Int)+1)=((x+1:Nat):Int):=Ad (by unfold AY; omega)
   have w2:Ac ((q:Int)+(x:Int))=((q+x:Nat):Int):=Ad (by unfold AY; omega)
   have w3:Ac ((p:Int)+(x:Int))=((p+x:Nat):Int):=Ad (by unfold AY; omega)
   have q1:(0≤((q+x:Nat):Int)∧((q+x:Nat):Int)<((R.length:Nat):Int))=True:=eq_true (by omega)
   have q2:(0≤((p+x:Nat):Int)∧((p+x:Nat):Int)<((R.length:Nat):Int))=True:=eq_true (by omega)
   obtain ⟨l0,l1⟩:=h.ld (x:=q+x) (by omega)
   obtain ⟨l2,l3⟩:=h.ld (x:=p+x) (by omega)
   obtain ⟨σ1,σ2,e1,e2,g2,o2⟩:=h.sw (x:=p+x) (y:=q+x) (by omega) (by omega)
   obtain ⟨σ3,R3,e3,g3,l3',d3,o3⟩:=dG k hln hpq hq n (x+1) f σ2 (sw R' (p+x) (q+x)) (by rw[bL]; exact hl) g2 (by omega) (by omega)
   refine ⟨σ3,R3, ?_,g3,l3',fun z=>?_,o2.trans o3⟩
   ·rw[Ge,E3]
    simp only[decide_eq_true (show (x:Int)<(c:Int) by omega),cond_true,w1,w2,w3,q1,q2,if_true,Option.bind_some,Int.toNat_natCast,Nat.zero_add,l0,l1,l2,l3,e1,e2,e3]
   ·rw[d3 z]
    have gs:∀ z,gd (sw R' (p+x) (q+x)) z=if z=q+x then gd R' (p+x) else if z=p+x then gd R' (q+x) else gd R' z:=fun z=>gu _ _ _ _ (by omega) (by omega)
    by_cases c1:p+(x+1)≤z∧z<p+c
    ·rw[if_pos c1,if_pos (by omega),gs,if_neg (by omega),if_neg (by omega)]
    ·rw[if_neg c1]
     by_cases c2:q+(x+1)≤z∧z<q+c
     ·rw[if_pos c2,if_neg (by omega),if_pos (by omega),gs,if_neg (by omega),if_neg (by omega)]
     ·rw[if_neg c2,gs]
      by_cases c3:z=q+x
      ·rw[if_pos c3,if_neg (by omega),if_pos (by omega)]; congr 1; omega
      ·rw[if_neg c3]
       by_cases c4:z=p+x
       ·rw[if_pos c4,if_pos (by omega)]; congr 1; omega
       ·rw[if_neg c4,if_neg (by omega),if_neg (by omega)]
theorem jL (k:Nat) (hk:5000≤k) (hln:R.length≤3000) {p q c:Nat} (hpq:p+c≤q) (hq:q+c≤R.length) (σ:Aa) (R':List (Nat × Nat)) (hl:R'.length=R.length) (h:G0 σ b R') (v:Value):
  ∃ σ' R'',Bv (k+1) (some ⟨b,0,none⟩,R.length,R.length) (p:Int) (q:Int) (c:Int) v σ=some (.tuple #[],σ')∧G0 σ' b R''∧R''.length=R.length∧(∀ z,gd R'' z=if p≤z∧z<p+c then gd R' (z+(q-p)) else if q≤z∧z<q+c then gd R' (z-(q-p)) else gd R' z)∧Fi b σ σ':=by
 obtain ⟨σ1,R1,e1,g1,l1,d1,o1⟩:=dG k hln hpq hq c 0 k σ R' hl h (by omega) (by omega)
 refine ⟨σ1,R1, ?_,g1,l1,d1,o1⟩
 rw[show ((0:Nat):Int)=0 from rfl] at e1
 rw[Lo,Hr]
 simp only[e1,Option.bind_some,if_true]
def fD (R R':List (Nat × Nat)) (s m e:Nat):Prop:=∀ z,gd R' z=if z<s∨e≤z then gd R z else if z<s+(e-m) then gd R (z+(m-s)) else gd R (z-(e-m))
theorem Yr (k:Nat) (hk:5000≤k) (hln:R.length≤3000) {m:Nat} (v:Value):∀ (n i j f:Nat) (σ:Aa) (R':List (Nat × Nat)),R'.length=R.length→G0 σ b R'→1≤i→1≤j→i≤m→m+j≤R.length→i+j≤n→n<f →
  ∃ (σ':Aa) (R'':List (Nat × Nat)) (r:Nat),BM (k+1) f (some ⟨b,0,none⟩) R.length R.length (m:Int) v (i:Int) (j:Int) σ=some (.exit 0,[.int .i64 (r:Int)],σ')∧G0 σ' b R''∧R''.length=R.length∧1≤r∧r≤m∧m+r≤R.length∧(∀ R3,fD R'' R3 (m-r) m (m+r)→fD R' R3 (m-i) m (m+j))∧Fi b σ σ'
 | n,i,j,0,σ,R',hl,h,hi,hj,him,hjm,hn,hf=>by omega
 | n,i,j,f+1,σ,R',hl,h,hi,hj,him,hjm,hn,hf=>by
   rw[Ln,Hq]
   by_cases q:i=j
   ·subst q
    refine ⟨σ,R',i, ?_,h,hl,hi,him,hjm,fun R3 h3=>h3,Fi.refl _⟩
    simp only[bne_self_eq_false,cond_false]
   ·simp only[show ((i:Int) != (j:Int))=true from by simp; omega,cond_true]
    by_cases q2:i>j
    ·have w1:Ac ((m:Int)-(i:Int))=((m-i:Nat):Int):=by rw[Ad (by unfold AY; omega)]; omega
     have w2:Ac ((i:Int)-(j:Int))=((i-j:Nat):Int):=by rw[Ad (by unfold AY; omega)]; omega
     obtain ⟨σ1,R1,e1,g1,l1,d1,o1⟩:=jL k hk hln (p:=m-i) (q:=m) (c:=j) (by omega) (by omega) σ R' hl h v
     obtain ⟨σ2,R2,r,e2,g2,l2,r1,r2,r3,t2,o2⟩:=Yr k hk hln v (n-1) (i-j) j f σ1 R1 l1 g1 (by omega) hj (by omega) hjm (by omega) (by omega)
     refine ⟨σ2,R2,r, ?_,g2,l2,r1,r2,r3,fun R3 h3 z=>?_,o1.trans o2⟩
     ·simp only[decide_eq_true (show (i:Int)>(j:Int) by omega),cond_true,w1,w2,e1,Option.bind_some,Jx,if_true,GK,e2]
     ·rw[t2 R3 h3 z]
      by_cases c1:z<m-i∨m+j≤z
      ·rw[if_pos (by omega),if_pos c1,d1,if_neg (by omega),if_neg (by omega)]
      ·rw[if_neg c1]
       by_cases c2:z<m-i+(m+j-m)
       ·rw[if_pos (by omega),if_pos c2,d1,if_pos (by omega)]
       ·rw[if_neg c2,if_neg (by omega)]
        by_cases c3:z<m-(i-j)+(m+j-m)
        ·rw[if_pos c3,d1,if_neg (by omega),if_pos (by omega)]; congr 1; omega
        ·rw[if_neg c3,d1,if_neg (by omega),if_neg (by omega)]
    ·have w1:Ac ((m:Int)-(i:Int))=((m-i:Nat):Int):=by rw[Ad (by unfold AY; omega)]; omega
     have w2:Ac ((j:Int)-(i:Int))=((j-i:Nat):Int):=by rw[Ad (by unfold AY; omega)]; omega
     have w3:Ac (Ac ((m:Int)+(j:Int))-(i:Int))=((m+j-i:Nat):Int):=by rw[Ad (show AY ((m:Int)+(j:Int)) by unfold AY; omega),Ad (by unfold AY; omega)]; omega
     obtain ⟨σ1,R1,e1,g1,l1,d1,o1⟩:=jL k hk hln (p:=m-i) (q:=m+j-i) (c:=i) (by omega) (by omega) σ R' hl h v
     obtain ⟨σ2,R2,r,e2,g2,l2,r1,r2,r3,t2,o2⟩:=Yr k hk hln v (n-1) i (j-i) f σ1 R1 l1 g1 hi (by omega) him (by omega) (by omega) (by omega)
     refine ⟨σ2,R2,r, ?_,g2,l2,r1,r2,r3,fun R3 h3 z=>?_,o1.trans o2⟩
     ·simp only[decide_eq_false (show ¬ (i:Int)>(j:Int) by omega),cond_false,w1,w2,w3,e1,Option.bind_some,Jx,if_true,GK,e2]
     ·rw[t2 R3 h3 z]
      by_cases c1:z<m-i∨m+j≤z
      ·rw[if_pos (by omega),if_pos c1,d1,if_neg (by omega),if_neg (by omega)]
      ·rw[if_neg c1]
       by_cases c2:z<m-i+(m+j-m)
       ·rw[if_pos c2]
        by_cases c3:z<m-i+(m+(j-i)-m)
        ·rw[if_neg (by omega),if_pos c3,d1]
         by_cases c4:z+(m-(m-i))<m+j-i
         ·rw[if_neg (by omega),if_neg (by omega)]
         ·rw[if_neg (by omega),if_pos (by omega)]; congr 1; omega
        ·by_cases c5:m+(j-i)≤z
         ·exfalso; omega
         ·rw[if_neg (by omega),if_neg c3,d1,if_pos (by omega)]; congr 1; omega
       ·rw[if_neg c2]
        by_cases c3:m+(j-i)≤z
        ·rw[if_pos (by omega),d1,if_neg (by omega),if_pos (by omega)]; congr 1; omega
        ·exfalso; omega
theorem ml (k:Nat) (hk:10000≤k) (hln:R.length≤3000) {s m e:Nat} (hsm:s<m) (hme:m<e) (he:e≤R.length) (σ:Aa) (R':List (Nat × Nat)) (hl:R'.length=R.length) (h:G0 σ b R') (v:Value):
  ∃ σ' R'',Cg (k+2) (some ⟨b,0,none⟩,R.length,R.length) (s:Int) (m:Int) (e:Int) v σ=some (.tuple #[],σ')∧G0 σ' b R''∧R''.length=R.length∧fD R' R'' s m e∧Fi b σ σ':=by
 have w1:Ac ((m:Int)-(s:Int))=((m-s:Nat):Int):=by rw[Ad (by unfold AY; omega)]; omega
 have w2:Ac ((e:Int)-(m:Int))=((e-m:Nat):Int):=by rw[Ad (by unfold AY; omega)]; omega
 obtain ⟨σ1,R1,r,e1,g1,l1,r1,r2,r3,t1,o1⟩:=Yr k (by omega) hln (m:=m) v (e-s) (m-s) (e-m) (k+1) σ R' hl h (by omega) (by omega) (by omega) (by omega) (by omega) (by omega)
 have w3:Ac ((m:Int)-(r:Int))=((m-r:Nat):Int):=by rw[Ad (by unfold AY; omega)]; omega
 obtain ⟨σ2,R2,e2,g2,l2,d2,o2⟩:=jL k (by omega) hln (p:=m-r) (q:=m) (c:=r) (by omega) (by omega) σ1 R1 l1 g1 v
 refine ⟨σ2,R2, ?_,g2,l2, ?_,o1.trans o2⟩
 ·rw[MJ,IB]
  simp only[w1,w2,e1,Option.bind_some,if_true,DZ,w3,e2,Jx]
 ·have:=t1 R2 (fun z=>by
   rw[d2 z]
   by_cases c1:z<m-r∨m+r≤z
   ·rw[if_pos c1,if_neg (by omega),if_neg (by omega)]
   ·rw[if_neg c1]
    by_cases c2:z<m
    ·rw[if_pos (by omega),if_pos (by omega)]
    ·rw[if_neg (by omega),if_pos (by omega),if_neg (by omega)]; congr 1; omega)
  rw[show m-(m-s)=s from by omega,show m+(e-m)=e from by omega] at this
  exact this
end Go.Proofs.YtlaplcglpnlieaaGreat
end
