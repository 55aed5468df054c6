/- Areas, bumped, large; New; Alloc, whatever the policy places.; Alloc, whatever the policy places; New; Reset, Cursor, Space, Policy.; What placing kee -/
import Derived.Test.YtlaplcglpnlieaaGreatP20
import Derived.Test.YtlaplcglpnlieaaGreatP13
import Derived.Test.YtlaplcglpnlieaaGreatP12
import Derived.Test.YtlaplcglpnlieaaGreatP14
import Derived.Test.YtlaplcglpnlieaaGreatP19
set_option linter.unusedVariables false
set_option linter.unusedSimpArgs false
set_option linter.unusedSectionVars false
section
namespace Go.Proofs.YtlaplcglpnlieaaGreat
open Go Go.AX
noncomputable local instance zK:Bb:=Az
local instance yL:Kn:=⟨true⟩
variable {σ:Aa} {i:CU} {m:HM} {ab:Nat} {a:AS}
def AS.cu (a:AS) (v:Bool):Int:=bif v then a.oc else a.c
def AS.li (a:AS) (v:Bool):Int:=bif v then a.ol else a.l
def AS.put (a:AS) (v:Bool) (x y:Int):AS:=bif v then { a with oc:=x,ol:=y } else { a with c:=x,l:=y }
def rL (v:Bool):Nat:=bif v then 5 else 3
theorem Cs.lc (h:Cs σ ab i a) (v:Bool):Ak .i64 σ ab (rL v)=some (a.cu v):=match v with | false=>h.l3 | true=>h.l5
theorem Cs.ll (h:Cs σ ab i a) (v:Bool):Ak .i64 σ ab (rL v+1)=some (a.li v):=match v with | false=>h.l4 | true=>h.l6
theorem Cs.xy (h:Cs σ ab i a) (v:Bool) (x y:Int):Ip σ ab (rL v) [.int .i64 x,.int .i64 y]=some (σ.set ab (.cells ((a.put v x y).row i.hb) Ba true)):=by
 cases v
 ·exact h.st 3 _ (a.put false x y) rfl (by simp)
 ·exact h.st 5 _ (a.put true x y) rfl (by simp)
theorem Cs.ye (h:Cs σ ab i a) (v:Bool) (x:Int):AX.Gn σ ab (rL v) (.int .i64 x)=some (σ.set ab (.cells ((a.put v x (a.li v)).row i.hb) Ba true)):=by
 cases v
 ·exact h.Gn 3 _ (a.put false x a.l) rfl (by decide)
 ·exact h.Gn 5 _ (a.put true x a.ol) rfl (by decide)
theorem AS.ok.cu (h:a.ok) (v:Bool):0≤a.cu v∧a.cu v≤10000∧0≤a.li v∧a.li v≤10000:=by
 have h1:=h.c0; have h2:=h.l0; have h3:=h.oc0; have h4:=h.ol0
 cases v <;> simp only[AS.cu,AS.li,cond_true,cond_false] <;> omega
theorem AS.ok.put (h:a.ok) (v:Bool) {x y:Int} (hx:0≤x∧x≤10000) (hy:0≤y∧y≤10000):(a.put v x y).ok:=by
 cases v
 ·exact ⟨h.s0,h.p0,hx,hy,h.oc0,h.ol0⟩
 ·exact ⟨h.s0,h.p0,h.c0,h.l0,hx,hy⟩
theorem mj (a:AS) (v:Bool) (x y:Int):(a.put v x y).s=a.s:=by cases v <;> rfl
theorem mi (a:AS) (v:Bool) (x y:Int):(a.put v x y).p=a.p:=by cases v <;> rfl
theorem oH (a:AS) (v:Bool) (x y:Int):(a.put v x y).cu v=x∧(a.put v x y).li v=y:=by cases v <;> exact ⟨rfl,rfl⟩
theorem uJ (a:AS) (v:Bool) (x y z w:Int):(a.put v x y).put v z w=a.put v z w:=by cases v <;> rfl
theorem uW (μ:Aa) (T:TypeId) (p q x y:Value):Ip (μ++[.cells [p,q] T true]) μ.length 0 [x,y]=some (μ++[.cells [x,y] T true]):=by
 simp[Ip,AN]
theorem kP (μ:Aa) (T:TypeId) (x y:Int):Ak .i64 (μ++[.cells [.int .i64 x,.int .i64 y] T true]) μ.length 0=some x∧Ak .i64 (μ++[.cells [.int .i64 x,.int .i64 y] T true]) μ.length 1=some y:=by
 simp[Ak,Gr,Bu]
theorem sK (k:Nat) (hA:Cs σ ab i a) (ho:a.ok) (v:Bool) (w:Int):DZ (k+1) (some ⟨ab,rL v,none⟩) w σ=some (.bool (decide (a.li v-a.cu v≥w)),σ):=by
 have:=ho.cu v
 rw[QQ,Pv]
 simp only[Option.bind_some,Nat.add_zero,hA.lc,hA.ll,Ad (show AV (a.li v-a.cu v) by unfold AV; omega)]
theorem kH (k:Nat) (hA:Cs σ ab i a) (ho:a.ok) (v:Bool) {w:Int} (hw:0≤w∧w≤1000):D2 (k+1) (some ⟨ab,rL v,none⟩) w σ=some (.int .i64 (a.cu v),σ.set ab (.cells ((a.put v (a.cu v+w) (a.li v)).row i.hb) Ba true)):=by
 have:=ho.cu v
 rw[Qj,Oq]
 have e1:Ae (a.cu v+w)=a.cu v+w:=Ad (by unfold AV; omega)
 have e2:Ae (a.cu v+w-w)=a.cu v:=by rw[Ad (by unfold AV; omega)]; omega
 simp only[Option.bind_some,Nat.add_zero,hA.lc,e1,hA.ye,(hA.put _).lc,oH,e2]
abbrev PR:=(Int × Bool) × HM × AS
def gY (mm:Option (Value × Aa)) (σ:Aa) (i:CU) (ab:Nat) (r:PR):Prop:=
 ∃ σ',mm=some (.tuple #[.int .i64 r.1.1,.bool r.1.2],σ')∧Ah σ' i r.2.1∧Cs σ' ab i r.2.2∧C2 i ab σ σ'
def Eu (m:HM) (a:AS) (v:Bool) (w:Int):PR:=
 if a.li v-a.cu v≥w then ((a.cu v,true),m,a.put v (a.cu v+w) (a.li v))
 else match Tv m with
  | some b=>((64*(b:Int),true),HE m b a.s,a.put v (64*(b:Int)+w) (64*(b:Int)+64))
  | none=>((0,false),m,a)
theorem iG (k:Nat) (hk:5000≤k) (h:Ah σ i m) (hA:Cs σ ab i a) (hab:ab ∉ i.l) (ho:a.ok) (v:Bool) {w:Int} (hw:0≤w∧w≤1000):
  gY (BF (k+10) (Ct ab) (some ⟨ab,rL v,none⟩) w σ) σ i ab (Eu m a v w):=by
 have hcu:=ho.cu v
 have hnt:=h.nt
 rw[Lp,Jm]
 simp only[sK (k+8) hA ho v w,Option.bind_some,Ao]
 unfold Eu
 by_cases q:a.li v-a.cu v≥w
 ·rw[if_pos q]
  simp only[decide_eq_true q,Bool.not_true,cond_false,Option.bind_some,if_true,kH (k+8) hA ho v hw,Am]
  exact ⟨_,rfl,h.TU hab _,hA.put _,C2.set _ _⟩
 ·rw[if_neg q]
  obtain ⟨σ1,e1,g1,k1⟩:=eH k hk h hA hab ho.s0
  have hA1:=hA.Zm k1 hab
  simp only[decide_eq_false q,Bool.not_false,cond_true,e1,Option.bind_some,cj,List.length_cons,List.length_nil,List.head?_cons,List.tail_cons,dD,Ao,An,uW,Nat.zero_add,Nat.reduceAdd,if_true]
  unfold ba WU at *
  cases hfr:Tv m with
  | none=>
    simp only[hfr] at g1 ⊢
    simp only[Bool.not_false,cond_true,Option.bind_some,show (Br.ret=Br.normal)=False from by simp,if_false,if_true,aK]
    exact ⟨_,rfl,g1.app _,hA1.app _,(C2.of k1).trans (C2.app _ _)⟩
  | some b=>
    simp only[hfr] at g1 ⊢
    have hb:=KB hfr
    obtain ⟨l0,l1⟩:=kP σ1 EB (64*(b:Int)) (64*(b:Int)+64)
    have hA2:=hA1.app [.cells [.int .i64 (64*(b:Int)),.int .i64 (64*(b:Int)+64)] EB true]
    have hA3:=hA2.put (a.put v (64*(b:Int)) (64*(b:Int)+64))
    have ho3:(a.put v (64*(b:Int)) (64*(b:Int)+64)).ok:=ho.put v (by omega) (by omega)
    have t3:=kH (k+8) hA3 ho3 v hw
    rw[(oH _ _ _ _).1,(oH _ _ _ _).2,uJ] at t3
    simp only[Bool.not_true,cond_false,l0,l1,Option.bind_some,hA2.xy,if_true,t3,Am]
    exact ⟨_,rfl,((g1.app _).TU hab _).TU hab _,hA3.put _,(((C2.of k1).trans (C2.app _ _)).trans (C2.set _ _)).trans (C2.set _ _)⟩
theorem ib (k:Nat) (hk:5000≤k) (h:Ah σ i m) (hA:Cs σ ab i a) (hab:ab ∉ i.l) (ho:a.ok) {w:Int} (hw:0≤w∧w≤1000):
  gY (DG (k+11) (Ct ab) w σ) σ i ab (Eu m a false w):=by
 obtain ⟨σ1,e1,g1,a1,k1⟩:=iG k hk (h.app [.cells [] TW true]) (hA.app _) hab ho false hw
 rw[Pd,Ns]
 refine ⟨σ1, ?_,g1,a1,(C2.app _ _).trans k1⟩
 rw[show rL false=3 from rfl] at e1
 simp only[An,Option.bind_some,Nat.zero_add,e1,V0]
theorem nM {b c x y x' y':Int} (h:(Cw m b c x y x' y').1≠0):(Cw m b c x y x' y').2=m:=by
 unfold Cw at *
 split at h
 ·split at h
  ·exact absurd rfl h
  ·rename_i h1 h2; rw[if_pos h1,if_neg h2]
 ·rename_i h1; rw[if_neg h1]
def pG (m:HM) (c:Nat) (s:Int):Nat→Nat→Option Nat
 | 0,_=>none
 | n+1,x=>if x+c≤m.bls.length then (if (Cw m (x:Int) (c:Int) 2 s 3 s).1=0 then some x else pG m c s n (x+1)) else none
theorem cF (k:Nat) (hk:5000≤k) (hab:ab ∉ i.l) {c:Nat} (hc:c≤100):∀ (n x f:Nat) (σ:Aa),Ah σ i m→Cs σ ab i a→x≤100→m.bls.length<x+n→n<f →
  ∃ σ',Cg (k+8) f (Ct ab) (c:Int) (x:Int) σ=some (match pG m c a.s n x with | some b=>(.ret,[.int .i64 (64*(b:Int)),.bool true],σ') | none=>(.exit 0,[],σ'))∧Ah σ' i (match pG m c a.s n x with | some b=>(Cw m (b:Int) (c:Int) 2 a.s 3 a.s).2 | none=>m)∧BZ i σ σ'
 | n,x,0,σ,h,hA,hx,hn,hf=>by omega
 | n,x,f+1,σ,h,hA,hx,hn,hf=>by
   have hnt:=h.nt
   have w0:Ae ((x:Int)+(c:Int))=((x+c:Nat):Int):=Ad (by unfold AV; omega)
   rw[Ki,HV]
   simp only[Option.bind_some,Nat.add_zero,Nat.zero_add,hA.Z2,I4 (k+6) h,Am,w0]
   by_cases q:x+c≤m.bls.length
   ·obtain ⟨n,rfl⟩:∃ n',n=n'+1:=⟨n-1,by omega⟩
    obtain ⟨σ1,e1,g1,k1⟩:=de (k+1) (by omega) h (x:Int) (c:Int) a.s (by unfold AV; omega) (by unfold AV; omega)
    simp only[decide_eq_true (show ((x+c:Nat):Int)≤((m.bls.length:Nat):Int) by omega),cond_true,hA.l1,Option.bind_some,e1,Am,pG,if_pos q]
    by_cases q2:(Cw m (x:Int) (c:Int) 2 a.s 3 a.s).1=0
    ·refine ⟨σ1, ?_, ?_,k1⟩
     ·simp only[q2,beq_self_eq_true,cond_true,if_true]
      rw[show Ae ((x:Int)*64)=64*(x:Int) from by rw[Ad (by unfold AV; omega)]; omega]
     ·simp only[q2,if_true]; exact g1
    ·rw[nM q2] at g1
     obtain ⟨σ2,e2,g2,k2⟩:=cF k hk hab hc n (x+1) f σ1 g1 (hA.Zm k1 hab) (by omega) (by omega) (by omega)
     refine ⟨σ2, ?_, ?_,k1.trans k2⟩
     ·simp only[show ((Cw m (x:Int) (c:Int) 2 a.s 3 a.s).1 == 0)=false from by simpa using q2,cond_false,if_neg q2]
      rw[show Ae ((x:Int)+1)=((x+1:Nat):Int) from Ad (by unfold AV; omega)]
      exact e2
     ·simp only[if_neg q2]; exact g2
   ·have z:pG m c a.s n x=none:=by
     cases n with
     | zero=>rfl
     | succ n=>simp only[pG,if_neg q]
    refine ⟨σ, ?_, ?_,BZ.refl _ _⟩
    ·simp only[decide_eq_false (show ¬ ((x+c:Nat):Int)≤((m.bls.length:Nat):Int) by omega),cond_false,z]
    ·simp only[z]; exact h
def N5 (m:HM) (a:AS) (w:Int):PR:=
 match pG m ((w.toNat+63)/64) a.s m.bls.length 1 with
 | some b=>((64*(b:Int),true),(Cw m (b:Int) (((w.toNat+63)/64:Nat):Int) 2 a.s 3 a.s).2,a)
 | none=>((0,false),m,a)
theorem sU (k:Nat) (hk:5000≤k) (h:Ah σ i m) (hA:Cs σ ab i a) (hab:ab ∉ i.l) {w:Int} (hw:0≤w∧w≤1000):
  gY (Ck (k+9) (Ct ab) w σ) σ i ab (N5 m a w):=by
 have hnt:=h.nt
 obtain ⟨w,rfl⟩:∃ n:Nat,w=(n:Int):=⟨w.toNat,by omega⟩
 have e1:Ae (Ae (Ae ((w:Int)+64)-1))=Ae (Ae ((w:Int)+64)-1):=by
  rw[Ad (show AV ((w:Int)+64) by unfold AV; omega),Ad (show AV ((w:Int)+64-1) by unfold AV; omega),Ad (by unfold AV; omega)]
 have e2:Ae ((Ae (Ae ((w:Int)+64)-1)).tdiv 64)=(((w+63)/64:Nat):Int):=by
  rw[Ad (show AV ((w:Int)+64) by unfold AV; omega),Ad (show AV ((w:Int)+64-1) by unfold AV; omega),show (w:Int)+64-1=((w+63:Nat):Int) from by omega,show (((w+63:Nat):Int).tdiv 64)=(((w+63)/64:Nat):Int) from rfl]
  exact Ad (by unfold AV; omega)
 obtain ⟨σ1,e3,g1,k1⟩:=cF k hk hab (c:=(w+63)/64) (a:=a) (by omega) m.bls.length 1 (k+8) σ h hA (by omega) (by omega) (by omega)
 rw[show ((1:Nat):Int)=1 from rfl] at e3
 rw[LK,JD]
 rw[if_neg (by decide)]
 unfold N5 gY
 simp only[e2,e3,Int.toNat_natCast,Option.bind_some]
 cases hl:pG m ((w+63)/64) a.s m.bls.length 1 with
 | none=>
   simp only[hl] at g1 ⊢
   exact ⟨σ1,by simp only[if_true],g1,hA.Zm k1 hab,C2.of k1⟩
 | some b=>
   simp only[hl] at g1 ⊢
   exact ⟨σ1,by simp only[show (Br.ret=Br.exit 0)=False from by simp,if_false,if_true,aK],g1,hA.Zm k1 hab,C2.of k1⟩
end Go.Proofs.YtlaplcglpnlieaaGreat
end
section
namespace Go.Proofs.YtlaplcglpnlieaaGreat
open Go Go.AX
noncomputable local instance zL:Bb:=Az
local instance yM:Kn:=⟨true⟩
variable {σ:Aa} {i:CU} {m:HM} {ab:Nat} {a:AS}
def xN:Nat→TypeId
 | 0=>Ke
 | 1=>Nl
 | 2=>KW
 | 3=>TW
 | _=>Gh
def Zr (n:Nat):Value:=.iface (xN n) (.agg #[])
def oG:AJ:=.cells [Zr 0,Zr 1,Zr 2,Zr 3,Zr 4] VY true
theorem cN (k:Nat) (σ:Aa):Ea (k+1) σ=some (.slice (some ⟨σ.length,0,none⟩) 5 5,σ++[oG]):=by
 rw[QR,Pw]; rfl
def xx (p w:Int):Value:=if w>32 then .func (.func Ng) #[] #[] else .func (.method "dustcart/alloc.place") #[Zr p.toNat] #[]
def Cj (m:HM) (a:AS) (r d c:Int) (pr:PR):(Int × Int) × HM × AS:=
 if valid r d c=true then
  (if pr.1.2=true then
   (if W8 pr.2.1 (pr.1.1.tdiv 64)=a.s then
    (if (CC pr.2.1 pr.1.1 r d c).2.1=0 then ((pr.1.1,0),(CC pr.2.1 pr.1.1 r d c).2.2,pr.2.2) else ((0,6),(CC pr.2.1 pr.1.1 r d c).2.2,a))
   else ((0,6),pr.2.1,a))
  else ((0,6),pr.2.1,pr.2.2))
 else ((0,2),m,a)
def vh (mm:Option (Value × Aa)) (σ:Aa) (i:CU) (ab:Nat) (r:(Int × Int) × HM × AS):Prop:=
 ∃ σ',mm=some (.tuple #[.int .i64 r.1.1,.int .i64 r.1.2],σ')∧Ah σ' i r.2.1∧Cs σ' ab i r.2.2∧C2 i ab σ σ'
theorem xj (μ:Aa) (T:TypeId) (p q x y z u w p' q' x' y' z' u' w':Value):Ip (μ++[.cells [p,q,x,y,z,u,w] T true]) μ.length 0 [p',q',x',y',z',u',w']=some (μ++[.cells [p',q',x',y',z',u',w'] T true]):=by
 simp[Ip,AN]
set_option maxHeartbeats 1000000 in
theorem rN (k:Nat) (hk:5000≤k) (h:Ah σ i m) (hA:Cs σ ab i a) (hab:ab ∉ i.l) (ho:a.ok) {r d c:Int} (pr:PR)
  (hp:valid r d c=true → ∀ σ0,Ah σ0 i m→Cs σ0 ab i a→gY (Cy (k+12) (xx a.p (words r d c)) [.pointer (Ct ab),.int .i64 (words r d c)] σ0) σ0 i ab pr)
  (hI:valid r d c=true→Inv pr.2.1) (hb:valid r d c=true→pr.2.1.births<1000000) (hadr:valid r d c=true→0≤pr.1.1∧pr.1.1≤10000) (hps:valid r d c=true→pr.2.2.s=a.s):
  vh (B6 (k+13) (Ct ab) r d c σ) σ i ab (Cj m a r d c pr):=by
 have hlt:=hA.lt
 rw[LI,JB]
 simp only[An]
 obtain ⟨μ0,hμ0⟩:∃ μ0,σ++[AJ.cells [Value.int .i64 r,.int .i64 d,.int .i64 c] Ag true]=μ0:=⟨_,rfl⟩
 rw[hμ0]
 have h0:Ah μ0 i m:=hμ0 ▸ h.app _
 have A0:Cs μ0 ab i a:=hμ0 ▸ hA.app _
 have K0:C2 i ab σ μ0:=hμ0 ▸ C2.app σ _
 have S0:μ0[σ.length]?=some (AJ.cells [Value.int .i64 r,.int .i64 d,.int .i64 c] Ag true):=by rw[← hμ0]; simp
 have bx:∀ {μ:Aa},μ[σ.length]?=some (AJ.cells [Value.int .i64 r,.int .i64 d,.int .i64 c] Ag true)→Ak .i64 μ σ.length 0=some r∧Ak .i64 μ σ.length 1=some d∧Ak .i64 μ σ.length 2=some c:=by
  intro μ hm; simp[Ak,Gr,hm,Bu]
 obtain ⟨b0,b1,b2⟩:=bx S0
 obtain ⟨τ1,e1⟩:=TM (k+11) r d c μ0
 simp only[WM (k+11) A0,Option.bind_some,Ao,Bool.not_true,cond_false,Nat.zero_add,Nat.reduceAdd,b0,b1,b2,e1]
 unfold Cj
 cases hv:valid r d c with
 | false=>
   simp only[Bool.not_false,cond_true,Bool.false_eq_true,if_false]
   exact ⟨μ0++τ1,rfl,h0.app _,A0.app _,K0.trans (C2.app _ _)⟩
 | true=>
   have ha1:=hadr hv
   obtain ⟨τ2,e2⟩:=TO (k+10) r d c (μ0++τ1)
   have S1:(μ0++τ1)[σ.length]?=some (AJ.cells [Value.int .i64 r,.int .i64 d,.int .i64 c] Ag true):=by rw[List.getElem?_append_left (Af S0)]; exact S0
   obtain ⟨c0,c1,c2⟩:=bx S1
   obtain ⟨μ2,hμ2⟩:∃ μ2,μ0++τ1++τ2=μ2:=⟨_,rfl⟩
   rw[hμ2] at e2
   have h2:Ah μ2 i m:=hμ2 ▸ (h0.app _).app _
   have A2:Cs μ2 ab i a:=hμ2 ▸ (A0.app _).app _
   have K2:C2 i ab σ μ2:=hμ2 ▸ (K0.trans (C2.app _ _)).trans (C2.app _ _)
   have S2:μ2[σ.length]?=some (AJ.cells [Value.int .i64 r,.int .i64 d,.int .i64 c] Ag true):=by rw[← hμ2,List.getElem?_append_left (Af S1)]; exact S1
   obtain ⟨μ3,hμ3⟩:∃ μ3,μ2++[oG]=μ3:=⟨_,rfl⟩
   have e3:Ea (k+12) μ2=_:=cN (k+11) μ2
   rw[hμ3] at e3
   have h3:Ah μ3 i m:=hμ3 ▸ h2.app _
   have A3:Cs μ3 ab i a:=hμ3 ▸ A2.app _
   have K3:C2 i ab σ μ3:=hμ3 ▸ K2.trans (C2.app _ _)
   have S3:μ3[σ.length]?=some (AJ.cells [Value.int .i64 r,.int .i64 d,.int .i64 c] Ag true):=by rw[← hμ3,List.getElem?_append_left (Af S2)]; exact S2
   have p0:=ho.p0
   have lp:Gr μ3 μ2.length a.p.toNat=some (Zr a.p.toNat):=by
    rw[← hμ3]; unfold oG; rw[pE]
    obtain ⟨n,hn⟩:∃ n:Nat,a.p=(n:Int):=⟨a.p.toNat,by omega⟩
    rw[hn,Int.toNat_natCast]
    match n,(show n<5 by omega) with
    | 0,_=>rfl
    | 1,_=>rfl
    | 2,_=>rfl
    | 3,_=>rfl
    | 4,_=>rfl
   have hnil:∀ (n:Nat) (K:Value→Option (Value × Aa)),td (Zr n) K=K (Zr n):=fun _ _=>rfl
   obtain ⟨μ4,hμ4⟩:∃ μ4,μ3++[AJ.cells (a.row i.hb) Ba true]=μ4:=⟨_,rfl⟩
   have h4:Ah μ4 i m:=hμ4 ▸ h3.app _
   have A4:Cs μ4 ab i a:=hμ4 ▸ A3.app _
   have K4:C2 i ab σ μ4:=hμ4 ▸ K3.trans (C2.app _ _)
   have S4:μ4[σ.length]?=some (AJ.cells [Value.int .i64 r,.int .i64 d,.int .i64 c] Ag true):=by rw[← hμ4,List.getElem?_append_left (Af S3)]; exact S3
   have W4:Cs μ4 μ3.length i a:=by unfold Cs; rw[← hμ4]; simp
   have n3:μ3.length ∉ i.l:=fun hm=>Nat.lt_irrefl _ (h3.lt _ hm)
   have ns:σ.length ∉ i.l:=fun hm=>Nat.lt_irrefl _ (h.lt _ hm)
   have lab3:=A3.lt
   have l03:=K3.len
   obtain ⟨μ5,e5,h5,A5,K5⟩:=hp hv μ4 h4 A4
   have W5:Cs μ5 μ3.length i a:=W4.Cx (K5.same _ W4.lt n3 (by omega))
   have S5:μ5[σ.length]?=some (AJ.cells [Value.int .i64 r,.int .i64 d,.int .i64 c] Ag true):=by rw[K5.same _ (Af S4) ns (by omega)]; exact S4
   have K05:=K4.trans K5
   simp only[Bool.not_true,cond_false,c0,c1,c2,e2,Option.bind_some,Am,e3,Gp,A3.l2,Nat.zero_add,Nat.mul_one,lp,hnil]
   rw[if_pos (show 0≤a.p∧a.p<((5:Nat):Int) by omega)]
   have hsel:∀ (K:Ax→Option (Value × Aa)),((bif decide (words r d c>32) then (some (Br.normal,[Value.func (.func Ng) #[] #[]],μ3)) else (some (Br.normal,[(Value.func (.method "dustcart/alloc.place") #[Zr a.p.toNat] #[])],μ3)):Option Ax).bind K)=K (.normal,[xx a.p (words r d c)],μ3):=by
    intro K
    unfold xx
    by_cases q:words r d c>32
    ·rw[decide_eq_true q,if_pos q]; rfl
    ·rw[decide_eq_false q,if_neg q]; rfl
   have hst:Ip (μ3++[AJ.cells [.pointer none,.int .i64 (0:Int),.int .i64 (0:Int),.int .i64 (0:Int),.int .i64 (0:Int),.int .i64 (0:Int),.int .i64 (0:Int)] Ba true]) μ3.length 0 [.pointer (BN i),.int .i64 a.s,.int .i64 a.p,.int .i64 a.c,.int .i64 a.l,.int .i64 a.oc,.int .i64 a.ol]=some μ4:=by
    rw[xj,← hμ4]; rfl
   rw[hsel]
   simp only[if_true,wz,Option.bind_some,A3.Z2,A3.l1,A3.l2,A3.l3,A3.l4,A3.l5,A3.l6,hst,e5,V0]
   cases hok:pr.1.2 with
   | false=>
     simp only[Bool.not_false,cond_true,Bool.false_eq_true,if_false]
     exact ⟨μ5,rfl,h5,A5,K05⟩
   | true=>
     have wq:Ae (pr.1.1.tdiv 64)=pr.1.1.tdiv 64:=by
      rw[Int.tdiv_eq_ediv_of_nonneg ha1.1]; exact Ad (by unfold AV; omega)
     have e6:B5 (k+12) (BN i) (pr.1.1.tdiv 64) μ5=_:=ua (k+9) h5 (pr.1.1.tdiv 64)
     simp only[Bool.not_true,cond_false,A5.Z2,Option.bind_some,wq,e6,Am,A5.l1,hps hv,if_true]
     rw[if_neg (by decide)]
     have restore:∀ {μ:Aa} {a':AS},Cs μ ab i a'→Ip μ ab 0 [.pointer (BN i),.int .i64 a.s,.int .i64 a.p,.int .i64 a.c,.int .i64 a.l,.int .i64 a.oc,.int .i64 a.ol]=some (μ.set ab (.cells (a.row i.hb) Ba true)):=fun hh=>hh.st 0 _ a rfl (by simp)
     by_cases q:W8 pr.2.1 (pr.1.1.tdiv 64)=a.s
     ·obtain ⟨s0,s1,s2⟩:=bx S5
      obtain ⟨μ6,e7,h6,k6⟩:=kR k hk h5 (hI hv) (hb hv) pr.1.1 r d c (by unfold AV; omega)
      have A6:=A5.Zm k6 hab
      have W6:Cs μ6 μ3.length i a:=W5.Zm k6 n3
      have K06:=K05.trans (C2.of k6)
      simp only[q,beq_self_eq_true,cond_true,s0,s1,s2,Option.bind_some,e7,Dj,if_true,DQ]
      by_cases q2:(CC pr.2.1 pr.1.1 r d c).2.1=0
      ·simp only[q2,bne_self_eq_false,cond_false,if_true]
       exact ⟨μ6,rfl,h6,A6,K06⟩
      ·simp only[show ((CC pr.2.1 pr.1.1 r d c).2.1 != 0)=true from by simpa using q2,cond_true,if_neg q2,W6.Z2,W6.l1,W6.l2,W6.l3,W6.l4,W6.l5,W6.l6,Option.bind_some,restore A6]
       exact ⟨_,rfl,h6.TU hab _,A6.put a,K06.trans (C2.set _ _)⟩
     ·simp only[show (W8 pr.2.1 (pr.1.1.tdiv 64) == a.s)=false from by simpa using q,cond_false,Option.bind_some,if_true,DQ,show ((5:Int) != 0)=true from rfl,cond_true,if_neg q,W5.Z2,W5.l1,W5.l2,W5.l3,W5.l4,W5.l5,W5.l6,restore A5]
      exact ⟨_,rfl,h5.TU hab _,A5.put a,K05.trans (C2.set _ _)⟩
theorem tT (k:Nat) (h:Ah σ i m) (s p:Int):∃ σ1,Hb (k+3) (BN i) s p σ=(if (0≤s∧s<8)∧(0≤p∧p<5) then some (.tuple #[.pointer (Ct σ1.length),.int .i64 0],σ1++[AJ.cells ((⟨s,p,0,0,0,0⟩:AS).row i.hb) Ba true]) else some (.tuple #[.pointer none,.int .i64 1],σ1)) ∧ ∃ τ,σ1=σ++τ:=by
 have hnb:=h.nb
 rw[Sj,Tf]
 have q0:(((m.bls.length:Nat):Int) == 0)=false:=beq_eq_false_iff_ne.2 (by omega)
 simp only[I4 k h,Option.bind_some,Am,q0,cond_false]
 by_cases h1:s<0
 ·refine ⟨σ, ?_,[],by simp⟩
  simp only[decide_eq_true h1,Option.bind_some,cond_true,if_neg (show ¬ ((0≤s∧s<8)∧(0≤p∧p<5)) by omega)]
 simp only[decide_eq_false h1,Option.bind_some,cond_false]
 by_cases h2:s≥8
 ·refine ⟨σ, ?_,[],by simp⟩
  simp only[decide_eq_true h2,Option.bind_some,cond_true,if_neg (show ¬ ((0≤s∧s<8)∧(0≤p∧p<5)) by omega)]
 simp only[decide_eq_false h2,Option.bind_some,cond_false]
 by_cases h3:p<0
 ·refine ⟨σ, ?_,[],by simp⟩
  simp only[decide_eq_true h3,Option.bind_some,cond_true,if_neg (show ¬ ((0≤s∧s<8)∧(0≤p∧p<5)) by omega)]
 simp only[decide_eq_false h3,Option.bind_some,cond_false,cN,Gp]
 by_cases h4:p≥((5:Nat):Int)
 ·refine ⟨σ++[oG], ?_,[oG],rfl⟩
  simp only[decide_eq_true h4,cond_true,if_neg (show ¬ ((0≤s∧s<8)∧(0≤p∧p<5)) by omega)]
 ·refine ⟨σ++[oG], ?_,[oG],rfl⟩
  simp only[decide_eq_false h4,cond_false,if_pos (show (0≤s∧s<8)∧(0≤p∧p<5) by omega),An]
  rfl
theorem nJ (k:Nat) (p:Option Addr) (n:Int) (σ:Aa):Cy k (.func (.method "dustcart/alloc.place") #[Zr 3] #[]) [.pointer p,.int .i64 n] σ=DG k p n σ:=by
 simp only[Cy,DG,Ab]; kernel_rfl
end Go.Proofs.YtlaplcglpnlieaaGreat
end
section
namespace Go.Proofs.YtlaplcglpnlieaaGreat
open Go Go.AX
noncomputable local instance zP:Bb:=Az
local instance yQ:Kn:=⟨true⟩
variable {σ:Aa} {i:CU} {m:HM} {ab:Nat} {a:AS}
structure kS (m:HM) (a:AS) (pr:PR):Prop where
 inv:Inv pr.2.1
 inv2:Inv2 pr.2.1
 brt:pr.2.1.births=m.births
 len:pr.2.1.bls.length=m.bls.length
 adr:0≤pr.1.1∧pr.1.1≤10000
 s:pr.2.2.s=a.s
 p:pr.2.2.p=a.p
 ok:pr.2.2.ok
 no:pr.1.2=false→pr.2=(m,a)
theorem Vg (m:HM) (b c x y x' y':Int):(Cw m b c x y x' y').2.births=m.births:=by
 unfold Cw
 split
 ·split <;> rfl
 ·rfl
theorem eE (h:Inv m) (h2:Inv2 m) {b:Nat} (s:Int):Inv (HE m b s)∧Inv2 (HE m b s)∧(HE m b s).births=m.births∧(HE m b s).bls.length=m.bls.length:=by
 have k:=NS h h2 (b:Int) 1 1 s 0 0
 exact ⟨k.inv,k.inv2,Vg _ _ _ _ _ _ _,k.len⟩
theorem ku (h:Inv m) (h2:Inv2 m) (ho:a.ok):kS m a ((0,false),m,a):=⟨h,h2,rfl,rfl,by dsimp only; omega,rfl,rfl,ho,fun _=>rfl⟩
theorem ln (h:Inv m) (h2:Inv2 m) (hl:m.bls.length≤64) (ho:a.ok) (v:Bool) {w:Int} (hw:0≤w∧w≤1000):kS m a (Eu m a v w):=by
 have hc:=ho.cu v
 unfold Eu
 split
 ·exact ⟨h,h2,rfl,rfl,by dsimp only; omega,mj _ _ _ _,mi _ _ _ _,ho.put v (by omega) (by omega),fun hh=>by cases hh⟩
 ·split
  ·rename_i b hb
   have:=KB hb
   obtain ⟨k1,k2,k3,k4⟩:=eE (b:=b) h h2 a.s
   exact ⟨k1,k2,k3,k4,by dsimp only; omega,mj _ _ _ _,mi _ _ _ _,ho.put v (by omega) (by omega),fun hh=>by cases hh⟩
  ·exact ku h h2 ho
theorem sZ {c:Nat} {s:Int}:∀ {n x b:Nat},pG m c s n x=some b→b+c≤m.bls.length
 | 0,x,b,h=>by cases h
 | n+1,x,b,h=>by
   unfold pG at h
   split at h
   ·split at h
    ·cases h; assumption
    ·exact sZ h
   ·cases h
theorem qN (h:Inv m) (h2:Inv2 m) (hl:m.bls.length≤64) (ho:a.ok) (w:Int):kS m a (N5 m a w):=by
 unfold N5
 split
 ·rename_i b hb
  have:=sZ hb
  have k:=NS h h2 (b:Int) (((w.toNat+63)/64:Nat):Int) 2 a.s 3 a.s
  exact ⟨k.inv,k.inv2,Vg _ _ _ _ _ _ _,k.len,by dsimp only; omega,rfl,rfl,ho,fun hh=>by cases hh⟩
 ·exact ku h h2 ho
structure tU (m:HM) (a:AS) (r:(Int × Int) × HM × AS):Prop where
 inv:Inv r.2.1
 inv2:Inv2 r.2.1
 b1:m.births≤r.2.1.births
 b2:r.2.1.births≤m.births+1
 len:r.2.1.bls.length=m.bls.length
 s:r.2.2.s=a.s
 p:r.2.2.p=a.p
 ok:r.2.2.ok
theorem qg (h:Inv m) (h2:Inv2 m) (ho:a.ok) {r d c:Int} {pr:PR} (hp:valid r d c=true→kS m a pr) (hS:valid r d c=true→Sh pr.2.1):tU m a (Cj m a r d c pr):=by
 unfold Cj
 split
 ·rename_i hv
  obtain ⟨k1,k2,k3,k4,k5,k6,k7,k8,k9⟩:=hp hv
  have kp:=T5 k1 k2 (hS hv) pr.1.1 r d c
  have b1:=kp.b1; have b2:=kp.b2
  split
  ·split
   ·split
    ·exact ⟨kp.inv,kp.inv2,by dsimp only; omega,by dsimp only; omega,by rw[← k4]; exact kp.len,k6,k7,k8⟩
    ·exact ⟨kp.inv,kp.inv2,by dsimp only; omega,by dsimp only; omega,by rw[← k4]; exact kp.len,rfl,rfl,ho⟩
   ·exact ⟨k1,k2,by dsimp only; omega,by dsimp only; omega,k4,rfl,rfl,ho⟩
  ·exact ⟨k1,k2,by dsimp only; omega,by dsimp only; omega,k4,k6,k7,k8⟩
 ·exact ⟨h,h2,Int.le_refl _,by dsimp only; omega,rfl,rfl,rfl,ho⟩
theorem Oi {r d c:Int} (h:valid r d c=true):2≤words r d c∧words r d c≤218∧words r d c % 2=0:=by
 unfold words
 rw[h]
 simp only[cond_true]
 simp[valid] at h
 omega
theorem qt (hS:Sh m) (b c x y x' y':Int):Sh (Cw m b c x y x' y').2:=by
 have key:∀ l:List (Int × Int),l.length=m.bls.length→Sh { m with bls:=l }:=fun l hl=>by
  obtain ⟨p,q,r⟩:=hS
  exact ⟨by simp only; rw[hl]; exact p,by simp only; rw[hl]; exact q,by simp only; rw[hl]; exact r⟩
 unfold Cw
 split
 ·split
  ·exact key _ (by simp[Hp])
  ·exact hS
 ·exact hS
end Go.Proofs.YtlaplcglpnlieaaGreat
end
section
namespace Go.Proofs.YtlaplcglpnlieaaGreat
open Go Go.AX
noncomputable local instance zM:Bb:=Az
local instance yN:Kn:=⟨true⟩
variable {σ:Aa} {i:CU} {m:HM} {ab:Nat} {a:AS}
def B1 (m:HM) (s:Int) (n:Nat):List Nat:=(List.range n).filter fun b=>decide ((m.bls.getD b (0,0)).1=1∧(m.bls.getD b (0,0)).2=s)
def Xz (l:List Nat):List Int:=l.map fun b:Nat=>(b:Int)
theorem O8 (m:HM) (s:Int) (n:Nat):B1 m s (n+1)=B1 m s n++if (m.bls.getD n (0,0)).1=1∧(m.bls.getD n (0,0)).2=s then [n] else []:=by
 unfold B1
 rw[List.range_succ,List.filter_append]
 congr 1
 by_cases q:(m.bls.getD n (0,0)).1=1∧(m.bls.getD n (0,0)).2=s
 ·rw[if_pos q,List.filter_cons,if_pos (decide_eq_true q)]; rfl
 ·rw[if_neg q,List.filter_cons,if_neg (by rw[decide_eq_false q]; decide)]; rfl
theorem LF (m:HM) (s:Int) (n:Nat):(B1 m s n).length≤n:=by
 have:=List.length_filter_le (fun b=>decide ((m.bls.getD b (0,0)).1=1∧(m.bls.getD b (0,0)).2=s)) (List.range n)
 rw[List.length_range] at this; exact this
theorem T1 {m:HM} {s:Int} {n b:Nat}:b ∈ B1 m s n↔b<n∧(m.bls.getD b (0,0)).1=1∧(m.bls.getD b (0,0)).2=s:=by
 unfold B1; simp[List.mem_filter]
theorem px {α:Type} (x u y v:Int) (s:α):(bif x == u then some (y == v,s) else some (false,s))=some (decide (x=u∧y=v),s):=by
 by_cases q:x=u
 ·subst q
  by_cases q2:y=v
  ·subst q2; simp
  ·simp[q2]
 ·rw[show (x == u)=false from by simpa using q]; simp[q]
theorem Ve (k:Nat) (h:Ah σ i m) (hA:Cs σ ab i a):∀ (n x f:Nat) (τ:Aa) (s:EJ),x+n=m.bls.length→Dl σ.length (σ++τ) s (Xz (B1 m a.s x))→n<f →
  ∃ τ' s',B9 (k+4) f (Ct ab) ((m.bls.length:Nat):Int) s (x:Int) (σ++τ)=some (.exit 0,[.slice s'.1 s'.2.1 s'.2.2],σ++τ')∧Dl σ.length (σ++τ') s' (Xz (B1 m a.s m.bls.length))
 | n,x,0,τ,s,hx,hs,hf=>by omega
 | 0,x,f+1,τ,s,hx,hs,hf=>by
   obtain rfl:x=m.bls.length:=by omega
   rw[G9,FC]
   exact ⟨τ,s,by simp only[decide_eq_false (Int.lt_irrefl _),cond_false],hs⟩
 | n+1,x,f+1,τ,s,hx,hs,hf=>by
   have hnt:=h.nt
   have hxl:x<m.bls.length:=by omega
   have g:=h.app τ
   have A:=hA.app τ
   have w1:Ae ((x:Int)+1)=((x+1:Nat):Int):=Ad (by unfold AV; omega)
   have e1:C5 (k+4) (BN i) (x:Int) (σ++τ)=_:=kU (k+1) g hxl
   have e2:B5 (k+4) (BN i) (x:Int) (σ++τ)=_:=eh (k+1) g hxl
   rw[G9,FC]
   simp only[decide_eq_true (show (x:Int)<((m.bls.length:Nat):Int) by omega),cond_true,Option.bind_some,Nat.add_zero,Nat.zero_add,A.Z2,e1,e2,Am,A.l1,w1]
   rw[px]
   by_cases q:(m.bls.getD x (0,0)).1=1∧(m.bls.getD x (0,0)).2=a.s
   ·obtain ⟨s1,τ1,e3,i1⟩:=Zl σ τ s _ (x:Int) (by have:=LF m a.s x; simp[Xz]; omega) hs
    have e3':Be P AP (s.1,s.2.1,s.2.2) (some ⟨(σ++τ).length,0,none⟩,1,1) (σ++τ++[.cells [.int .i64 (x:Int)] AP true])=_:=e3
    obtain ⟨τ2,s2,e4,i2⟩:=Ve k h hA n (x+1) f τ1 s1 (by omega) (by rw[O8,if_pos q]; simpa [Xz] using i1) (by omega)
    refine ⟨τ2,s2, ?_,i2⟩
    simp only[decide_eq_true q,Option.bind_some,cond_true,An,e3',if_true,H5]
    exact e4
   ·obtain ⟨τ2,s2,e4,i2⟩:=Ve k h hA n (x+1) f τ s (by omega) (by rw[O8,if_neg q,List.append_nil]; exact hs) (by omega)
    refine ⟨τ2,s2, ?_,i2⟩
    simp only[decide_eq_false q,Option.bind_some,cond_false,if_true,H5]
    exact e4
theorem iE (k:Nat) (hk:100≤k) (h:Ah σ i m) (hA:Cs σ ab i a):
  ∃ τ s,Bx (k+5) (Ct ab) σ=some (.slice s.1 s.2.1 s.2.2,σ++τ)∧Dl σ.length (σ++τ) s (Xz (B1 m a.s m.bls.length)):=by
 have hnt:=h.nt
 obtain ⟨τ,s,e,hs⟩:=Ve k h hA m.bls.length 0 (k+4) [] (none,0,0) (by omega) (.inl ⟨rfl,rfl⟩) (by omega)
 rw[List.append_nil] at e
 refine ⟨τ,s, ?_,hs⟩
 have e':B9 (k+4) (k+4) (Ct ab) ((m.bls.length:Nat):Int) (none,0,0) 0 σ=_:=e
 have e0:AF (k+4) (BN i) σ=_:=I4 (k+2) h
 rw[Lo,Jl]
 simp only[Option.bind_some,Nat.add_zero,hA.Z2,e0,Am,e',if_true,H5]
def LH (f w:Nat) (g:Nat × Nat):Option (Nat × Nat):=if w≤g.1+g.2-max f g.1 then some (max f g.1,g.1+g.2-max f g.1) else none
theorem xO (μ:Aa) (T:TypeId) (p q x:Value):Gn (μ++[.cells [p,q] T true]) μ.length 0 x=some (μ++[.cells [x,q] T true]):=by
 simp[Gn]
theorem xP (μ:Aa) (T:TypeId) (p q x:Value):Gn (μ++[.cells [p,q] T true]) μ.length 1 x=some (μ++[.cells [p,x] T true]):=by
 simp[Gn]
theorem uq (g:Nat × Nat) (fr w:Nat) (hfr:fr≤10000) (hw:1≤w) (hg:g.1+g.2≤10000) (μ:Aa):
  ∃ st sz:Int,((bif decide (Ae ((fr:Int)-(g.1:Int))>0) then ((Gn (μ++[.cells [.int .i64 (g.1:Int),.int .i64 (g.2:Int)] Aj true]) μ.length 0 (.int .i64 (fr:Int))).bind fun s17=>(Gn s17 μ.length 1 (.int .i64 (Ae ((g.2:Int)-Ae ((fr:Int)-(g.1:Int)))))).bind fun s18=>some (.normal,[],s18)) else (some (.normal,[],μ++[.cells [.int .i64 (g.1:Int),.int .i64 (g.2:Int)] Aj true])):Option Ax) =
   some (.normal,[],μ++[.cells [.int .i64 st,.int .i64 sz] Aj true]))∧(match LH fr w g with | some g'=>sz≥(w:Int)∧st=(g'.1:Int)∧sz=(g'.2:Int) | none=>¬ sz≥(w:Int)):=by
 have w1:Ae ((fr:Int)-(g.1:Int))=(fr:Int)-(g.1:Int):=Ad (by unfold AV; omega)
 have w2:Ae ((g.2:Int)-((fr:Int)-(g.1:Int)))=(g.2:Int)-((fr:Int)-(g.1:Int)):=Ad (by unfold AV; omega)
 rw[w1]
 unfold LH
 by_cases q:(fr:Int)-(g.1:Int)>0
 ·refine ⟨(fr:Int),(g.2:Int)-((fr:Int)-(g.1:Int)), ?_, ?_⟩
  ·rw[decide_eq_true q]
   simp only[cond_true,w1,w2,Option.bind_some,xO,xP]
  ·rw[Nat.max_eq_left (by omega)]
   by_cases q2:w≤g.1+g.2-fr
   ·rw[if_pos q2]; dsimp only; omega
   ·rw[if_neg q2]; dsimp only; omega
 ·refine ⟨(g.1:Int),(g.2:Int), ?_, ?_⟩
  ·rw[decide_eq_false q]; rfl
  ·rw[Nat.max_eq_right (by omega)]
   by_cases q2:w≤g.1+g.2-g.1
   ·rw[if_pos q2]; dsimp only; omega
   ·rw[if_neg q2]; dsimp only; omega
def wL (s o:EJ):Prop:=∀ a,o.1=some a → ∀ b,s.1=some b→a.block≠b.block
theorem H6.sl {E:TypeId} {z n:Nat} {row:List Value} {σ':Aa} {s o o':EJ} (g:H6 σ o σ' o') (h:BU E z σ s n row) (ha:wL s o):BU E z σ' s n row∧wL s o':=by
 refine ⟨h.Cx fun b hb=>?_,fun x hx b hb=>?_⟩
 ·exact g.same b.block (h.lt b hb) fun x hx=>ha x hx b hb
 ·rcases g.new with rfl | hw
  ·exact ha x hx b hb
  ·have:=hw x hx; have:=h.lt b hb; omega
theorem Zk (k:Nat) {fr w:Nat} (hfr:fr≤10000) (hw:1≤w∧w≤1000) {R:List (Nat × Nat)} (hR:R.length≤100) (hRb:∀ g ∈ R,g.1+g.2≤10000) (s:EJ):∀ (n x f:Nat) (μ:Aa) (o:EJ) (R0:List (Nat × Nat)),BU Aj 2 μ s R.length (Bh R)→BU Aj 2 μ o R0.length (Bh R0)→wL s o→R0.length+n≤100000→x+n=R.length→n<f →
  ∃ μ' o',BW k f (fr:Int) (w:Int) s.1 R.length s.2.2 ((R.length:Nat):Int) o (x:Int) μ=some (.exit 2,[.slice o'.1 o'.2.1 o'.2.2],μ')∧H6 μ o μ' o'∧BU Aj 2 μ' o' (R0++(R.drop x).filterMap (LH fr w)).length (Bh (R0++(R.drop x).filterMap (LH fr w)))
 | n,x,0,μ,o,R0,hs,ho,hd,hl,hx,hf=>by omega
 | 0,x,f+1,μ,o,R0,hs,ho,hd,hl,hx,hf=>by
   rw[Hr,Gw]
   refine ⟨μ,o,by simp only[decide_eq_false (show ¬ (x:Int)<((R.length:Nat):Int) by omega),cond_false],H6.refl _ _, ?_⟩
   rw[List.drop_of_length_le (by omega)]
   simpa using ho
 | n+1,x,f+1,μ,o,R0,hs,ho,hd,hl,hx,hf=>by
   have hxl:x<R.length:=by omega
   obtain ⟨b,e0,l0,l1⟩:=SK hs hxl
   have eg:R.getD x (0,0)=R[x]:=by rw[List.getD_eq_getElem?_getD,List.getElem?_eq_getElem hxl]; rfl
   rw[eg] at l0 l1
   have qx:(0≤(x:Int)∧(x:Int)<((R.length:Nat):Int))=True:=eq_true (by omega)
   have w1:Ae ((x:Int)+1)=((x+1:Nat):Int):=Ad (by unfold AV; omega)
   obtain ⟨st,sz,eb,hc⟩:=uq R[x] fr w hfr hw.1 (hRb _ (List.getElem_mem _)) μ
   have ea:∀ (st sz:Int),Ak .i64 (μ++[.cells [.int .i64 st,.int .i64 sz] Aj true]) μ.length 0=some st∧Ak .i64 (μ++[.cells [.int .i64 st,.int .i64 sz] Aj true]) μ.length 1=some sz:=fun st sz=>kP μ Aj st sz
   have hdr:R.drop x=R[x]::R.drop (x+1):=List.drop_eq_getElem_cons hxl
   rw[Hr,Gw]
   simp only[decide_eq_true (show (x:Int)<((R.length:Nat):Int) by omega),cond_true,qx,if_true,e0,Option.bind_some,Int.toNat_natCast,Nat.zero_add,Nat.add_zero,l0,l1,An,uW,(ea _ _).1,eb,(ea _ _).2,w1]
   have hg1:BU Aj 2 (μ++[.cells [.int .i64 st,.int .i64 sz] Aj true]) s R.length (Bh R):=hs.app _
   cases hcg:LH fr w R[x] with
   | none=>
     rw[hcg] at hc
     simp only[decide_eq_false (show ¬ sz≥(w:Int) from hc),cond_false,Option.bind_some,if_true,H5]
     obtain ⟨μ',o',e2,g2,h2⟩:=Zk k hfr hw hR hRb s n (x+1) f (μ++[.cells [.int .i64 st,.int .i64 sz] Aj true]) o R0 hg1 (ho.app _) hd (by omega) (by omega) (by omega)
     rw[e0] at e2
     refine ⟨μ',o',e2,(H6.app _ _ _).trans g2, ?_⟩
     rw[hdr,List.filterMap_cons_none hcg]; exact h2
   | some g=>
     rw[hcg] at hc
     obtain ⟨c1,rfl,rfl⟩:=hc
     simp only[decide_eq_true (show ((g.2:Nat):Int)≥(w:Int) from c1),cond_true,Option.bind_some]
     obtain ⟨o1,μ1,e1,g1,h1⟩:=ak kF jU kM rfl rfl (by decide) (by decide) (by decide) (μ++[.cells [.int .i64 (g.1:Int),.int .i64 (g.2:Int)] Aj true]) o R0.length (Bh R0) 1 1 [.int .i64 (g.1:Int),.int .i64 (g.2:Int)] Aj (by omega) (by decide) rfl (ho.app _)
     have e1':Be P Aj (o.1,o.2.1,o.2.2) (some ⟨(μ++[AJ.cells [.int .i64 (g.1:Int),.int .i64 (g.2:Int)] Aj true]).length,0,none⟩,1,1) (μ++[AJ.cells [.int .i64 (g.1:Int),.int .i64 (g.2:Int)] Aj true]++[AJ.cells [.int .i64 (g.1:Int),.int .i64 (g.2:Int)] Aj true])=_:=e1
     have gA:H6 μ o μ1 o1:=(H6.app _ _ _).trans g1
     obtain ⟨s1,d1⟩:=gA.sl hs hd
     rw[show Bh R0++[Value.int .i64 (g.1:Int),.int .i64 (g.2:Int)]=Bh (R0++[g]) from by rw[LY]; rfl,show R0.length+1=(R0++[g]).length from by simp] at h1
     obtain ⟨μ',o',e2,g2,h2⟩:=Zk k hfr hw hR hRb s n (x+1) f μ1 o1 (R0++[g]) s1 h1 d1 (by simp; omega) (by omega) (by omega)
     rw[e0] at e2
     refine ⟨μ',o', ?_,gA.trans g2, ?_⟩
     ·simp only[e1',Option.bind_some,if_true,H5]
      exact e2
     ·rw[hdr,List.filterMap_cons_some hcg]; simpa using h2
def Fv (m:HM) (l:List Nat):List (Nat × Nat):=l.flatMap fun b:Nat=>H8 m (b:Int)
def CM (m:HM) (s:Int) (f w:Nat):List (Nat × Nat):=(Fv m (B1 m s m.bls.length)).filterMap (LH f w)
theorem pC {a e M:Nat} (hM:e≤M):∀ g ∈ Kh a e,g.1+g.2≤M:=by
 intro g hg
 unfold Kh at hg
 split at hg
 ·simp at hg; subst hg; dsimp only; omega
 ·simp at hg
theorem iT (hnt:m.bls.length≤64) (b:Int):∀ g ∈ H8 m b,g.1+g.2≤4096:=by
 have aux:∀ (L:List Nat) (a:Nat),(∀ j ∈ L,2*j≤4096) → ∀ g ∈ (ET m L a).1,g.1+g.2≤4096:=by
  intro L
  induction L with
  | nil=>intro a _ g hg; simp[ET] at hg
  | cons j L ih=>
    intro a hL g hg
    rw[ET] at hg
    rcases List.mem_append.1 hg with h | h
    ·exact pC (hL j (by simp)) g h
    ·exact ih _ (fun j hj=>hL j (by simp[hj])) g h
 intro g hg
 unfold H8 at hg
 split at hg
 ·rename_i hst
  obtain ⟨n,rfl,hn,_⟩:=cf hst
  rw[Int.toNat_natCast] at hg
  unfold fy at hg
  rcases List.mem_append.1 hg with h | h
  ·exact aux _ _ (fun j hj=>by have:=KD.1 hj; omega) g h
  ·exact pC (by omega) g h
 ·simp at hg
theorem ZP (hnt:m.bls.length≤64) (b:Int):∀ g ∈ H8 m b,g.1+g.2≤10000:=fun g hg=>by have:=iT hnt b g hg; omega
theorem ji {L:List Nat} {x:Nat} (hx:x<L.length):(Xz L).getD x 0=((L[x]:Nat):Int):=by
 unfold Xz
 rw[List.getD_eq_getElem?_getD,List.getElem?_map,List.getElem?_eq_getElem hx]; rfl
theorem fD (k:Nat) (hk:5000≤k) (hI:Inv m) (h0:B0 m) {fr w:Nat} (hfr:fr≤10000) (hw:1≤w∧w≤1000) {L:List Nat} (hL:∀ b ∈ L,b<m.bls.length) (hLl:L.length≤64) (s:EJ):∀ (n x f:Nat) (μ:Aa) (o:EJ) (R0:List (Nat × Nat)),Ah μ i m→Cs μ ab i a→BU AP 1 μ s (Xz L).length (CN (Xz L))→BU Aj 2 μ o R0.length (Bh R0)→wL s o→xr i o→(∀ x,o.1=some x→x.block≠ab)→R0.length+33*n≤50000→x+n=L.length→n<f →
  ∃ μ' o',BV (k+7) f (Ct ab) (fr:Int) (w:Int) s.1 L.length s.2.2 ((L.length:Nat):Int) o (x:Int) μ=some (.exit 0,[.slice o'.1 o'.2.1 o'.2.2],μ')∧H6 μ o μ' o'∧BU Aj 2 μ' o' (R0++(Fv m (L.drop x)).filterMap (LH fr w)).length (Bh (R0++(Fv m (L.drop x)).filterMap (LH fr w)))
 | n,x,0,μ,o,R0,h,hA,hs,ho,hd,hof,hoa,hl,hx,hf=>by omega
 | 0,x,f+1,μ,o,R0,h,hA,hs,ho,hd,hof,hoa,hl,hx,hf=>by
   rw[Hq,Gv]
   refine ⟨μ,o,by simp only[decide_eq_false (show ¬ (x:Int)<((L.length:Nat):Int) by omega),cond_false],H6.refl _ _, ?_⟩
   rw[List.drop_of_length_le (by omega)]
   simpa [Fv] using ho
 | n+1,x,f+1,μ,o,R0,h,hA,hs,ho,hd,hof,hoa,hl,hx,hf=>by
   have hxl:x<L.length:=by omega
   obtain ⟨b,e0,l0⟩:=jT hs (show x<(Xz L).length by unfold Xz; simpa using hxl)
   rw[ji hxl] at l0
   have qx:(0≤(x:Int)∧(x:Int)<((L.length:Nat):Int))=True:=eq_true (by omega)
   have w1:Ae ((x:Int)+1)=((x+1:Nat):Int):=Ad (by unfold AV; omega)
   obtain ⟨τ,s1,e1,h1,lo1⟩:=rP k hk h hI h0 ((L[x]:Nat):Int)
   have hlen:=PD m ((L[x]:Nat):Int)
   have gA:H6 μ o (μ++τ) o:=H6.app _ _ _
   obtain ⟨sl1,_⟩:=gA.sl hs hd
   have d1:wL s1 o:=fun x hx b hb=>by have:=ho.lt x hx; have:=lo1 b hb; omega
   obtain ⟨μ1,o1,e2,g1,h2⟩:=Zk (k+7) hfr hw (R:=H8 m ((L[x]:Nat):Int)) (by omega) (ZP h.nt _) s1 (H8 m ((L[x]:Nat):Int)).length 0 (k+7) (μ++τ) o R0 h1 (ho.app _) d1 (by omega) (by omega) (by omega)
   rw[List.drop_zero] at h2
   have g2:H6 μ o μ1 o1:=gA.trans g1
   obtain ⟨hh1,of1⟩:=g2.heap h hof
   obtain ⟨hA1,oa1⟩:=g2.other hA hoa
   obtain ⟨hs1,d2⟩:=g2.sl hs hd
   have hfl:((H8 m ((L[x]:Nat):Int)).filterMap (LH fr w)).length≤33:=Nat.le_trans (List.length_filterMap_le _ _) hlen
   obtain ⟨μ2,o2,e3,g3,h3⟩:=fD k hk hI h0 hfr hw hL hLl s n (x+1) f μ1 o1 _ hh1 hA1 hs1 h2 d2 of1 oa1 (by rw[List.length_append]; omega) (by omega) (by omega)
   rw[e0] at e3
   refine ⟨μ2,o2, ?_,g2.trans g3, ?_⟩
   ·have e2':BW (k+7) (k+7) (fr:Int) (w:Int) s1.1 (H8 m ((L[x]:Nat):Int)).length s1.2.2 (((H8 m ((L[x]:Nat):Int)).length:Nat):Int) (o.1,o.2.1,o.2.2) 0 (μ++τ)=_:=e2
    rw[Hq,Gv]
    simp only[decide_eq_true (show (x:Int)<((L.length:Nat):Int) by omega),cond_true,qx,if_true,e0,Option.bind_some,Int.toNat_natCast,Nat.zero_add,Nat.add_zero,Nat.mul_one,l0,hA.Z2,e1,Gp,h1.len,e2',H5,w1]
    exact e3
   ·rw[List.drop_eq_getElem_cons hxl]
    simp only[Fv,List.flatMap_cons,List.filterMap_append,List.append_assoc] at h3 ⊢
    exact h3
theorem dG (k:Nat) (hk:5000≤k) (h:Ah σ i m) (hA:Cs σ ab i a) (hI:Inv m) (h0:B0 m) {fr w:Nat} (hfr:fr≤10000) (hw:1≤w∧w≤1000):
  ∃ τ s,AZ (k+8) (Ct ab) (fr:Int) (w:Int) σ=some (.slice s.1 s.2.1 s.2.2,σ++τ)∧BU Aj 2 (σ++τ) s (CM m a.s fr w).length (Bh (CM m a.s fr w)) ∧ ∀ x,s.1=some x→σ.length≤x.block:=by
 have hnt:=h.nt
 obtain ⟨τ1,s1,e1,h1⟩:=iE (k+2) (by omega) h hA
 have hbl:=LF m a.s m.bls.length
 obtain ⟨μ,o,e2,g2,h2⟩:=fD (ab:=ab) (a:=a) k hk hI h0 hfr hw (L:=B1 m a.s m.bls.length) (fun b hb=>(T1.1 hb).1) (by omega) s1 (B1 m a.s m.bls.length).length 0 (k+7) (σ++τ1) (none,0,0) [] (h.app _) (hA.app _) h1.sl (BU.nil _ _ _) (fun x hx=>by cases hx) (fun x hx=>by cases hx) (fun x hx=>by cases hx) (by simp; omega) (by omega) (by omega)
 obtain ⟨⟨τ,rfl⟩,hb⟩:=(show H6 (σ++τ1) (none,0,0) μ o from g2).behind (fun x hx=>by cases hx)
 refine ⟨τ,o, ?_,by simpa [CM] using h2,hb⟩
 have e1':Bx (k+7) (Ct ab) σ=_:=e1
 have e2':BV (k+7) (k+7) (Ct ab) (fr:Int) (w:Int) s1.1 (B1 m a.s m.bls.length).length s1.2.2 (((B1 m a.s m.bls.length).length:Nat):Int) (none,0,0) 0 (σ++τ1)=_:=e2
 have hlen:s1.2.1=(B1 m a.s m.bls.length).length:=by rw[h1.len]; simp[Xz]
 rw[Mv,Kq]
 simp only[e1',Option.bind_some,Gp,hlen,e2',if_true,H5]
end Go.Proofs.YtlaplcglpnlieaaGreat
end
section
namespace Go.Proofs.YtlaplcglpnlieaaGreat
open Go Go.AX
noncomputable local instance zN:Bb:=Az
local instance yO:Kn:=⟨true⟩
variable {σ:Aa} {i:CU} {m:HM} {ab:Nat} {a:AS}
def C1 (m:HM) (a:AS) (l:List (Nat × Nat)):PR:=
 match l with
 | g::_=>(((g.1:Int),true),m,a)
 | []=>match Tv m with
   | some b=>((64*(b:Int),true),HE m b a.s,a)
   | none=>((0,false),m,a)
theorem gL (k:Nat) (hk:5000≤k) (h:Ah σ i m) (hA:Cs σ ab i a) (hab:ab ∉ i.l) (ho:a.ok) {sl:EJ} {l:List (Nat × Nat)} (hs:BU Aj 2 σ sl l.length (Bh l)):
  gY (Bc (k+10) (Ct ab) sl σ) σ i ab (C1 m a l):=by
 rw[LL,JE]
 cases l with
 | cons g l=>
   obtain ⟨b,e0,l0,_⟩:=SK hs (x:=0) (by simp)
   rw[hs.len]
   rw[Nat.zero_mul] at l0
   refine ⟨σ, ?_,h,hA,C2.refl _⟩
   simp only[decide_eq_true (show (((g::l).length:Nat):Int)>0 by simp only[List.length_cons]; omega),cond_true,if_pos (show (0:Int)≤0∧(0:Int)<(((g::l).length:Nat):Int) by simp only[List.length_cons]; omega),e0,Option.bind_some,Int.toNat_zero,Nat.zero_mul,Nat.add_zero,l0,C1]
   rfl
 | nil=>
   obtain ⟨σ1,e1,g1,k1⟩:=eH k hk h hA hab ho.s0
   have hA1:=hA.Zm k1 hab
   rw[hs.len]
   simp only[List.length_nil,decide_eq_false (show ¬ ((0:Nat):Int)>0 by omega),cond_false,e1,Option.bind_some,cj,List.length_cons,List.head?_cons,List.tail_cons,dD,Ao,An,uW,Nat.zero_add,Nat.reduceAdd,if_true,(kP _ _ _ _).1]
   unfold ba WU at *
   cases hfr:Tv m with
   | none=>
     simp only[hfr] at g1 ⊢
     rw[show C1 m a []=((0,false),m,a) from by simp only[C1,hfr]]
     exact ⟨_,rfl,g1.app _,hA1.app _,(C2.of k1).trans (C2.app _ _)⟩
   | some b=>
     simp only[hfr] at g1 ⊢
     rw[show C1 m a []=((64*(b:Int),true),HE m b a.s,a) from by simp only[C1,hfr]]
     exact ⟨_,rfl,g1.app _,hA1.app _,(C2.of k1).trans (C2.app _ _)⟩
theorem fm (k:Nat) (hk:5000≤k) (h:Ah σ i m) (hA:Cs σ ab i a) (hab:ab ∉ i.l) (ho:a.ok) (hI:Inv m) (h0:B0 m) {w:Nat} (hw:1≤w∧w≤1000):
  gY (Dp (k+12) (Ct ab) (w:Int) σ) σ i ab (C1 m a (CM m a.s 0 w)):=by
 obtain ⟨τ,s,e1,h1,_⟩:=dG (k+3) (by omega) (h.app [.cells [] Ke true]) (hA.app _) hI h0 (fr:=0) (by decide) hw
 obtain ⟨σ2,e2,g2,a2,k2⟩:=gL (k+1) (by omega) ((h.app [.cells [] Ke true]).app τ) ((hA.app _).app _) hab ho h1
 refine ⟨σ2, ?_,g2,a2,((C2.app _ _).trans (C2.app _ _)).trans k2⟩
 have e1':AZ (k+11) (Ct ab) 0 (w:Int) (σ++[.cells [] Ke true])=_:=e1
 have e2':Bc (k+11) (Ct ab) (s.1,s.2.1,s.2.2) (σ++[.cells [] Ke true]++τ)=_:=e2
 rw[OA,M5]
 simp only[An,e1',Option.bind_some,Gp,e2',V0]
def cK (m:HM) (a:AS) (w:Nat):PR:=
 if (C1 m a (CM m a.s a.c.toNat w++CM m a.s 0 w)).1.2=true then
  ((C1 m a (CM m a.s a.c.toNat w++CM m a.s 0 w)).1,(C1 m a (CM m a.s a.c.toNat w++CM m a.s 0 w)).2.1,a.put false ((C1 m a (CM m a.s a.c.toNat w++CM m a.s 0 w)).1.1+w) a.l)
 else C1 m a (CM m a.s a.c.toNat w++CM m a.s 0 w)
theorem mZ (m:HM) (a:AS) (l:List (Nat × Nat)):(C1 m a l).2.2=a:=by
 unfold C1
 split
 ·rfl
 ·split <;> rfl
theorem gJ (hl:m.bls.length≤64) {l:List (Nat × Nat)} (hg:∀ g ∈ l,g.1≤10000):0≤(C1 m a l).1.1∧(C1 m a l).1.1≤10000:=by
 unfold C1
 split
 ·have:=hg _ (List.mem_cons_self); dsimp only; omega
 ·split
  ·rename_i b hb
   have:=KB hb
   dsimp only; omega
  ·dsimp only; omega
theorem uo {f w:Nat} {g g':Nat × Nat} (hf:f≤10000) (hg:g.1+g.2≤10000) (h:LH f w g=some g'):g'.1≤10000:=by
 unfold LH at h
 split at h
 ·cases h; dsimp only; omega
 ·cases h
theorem U1 (hl:m.bls.length≤64) {s:Int} {f w:Nat} (hf:f≤10000):∀ g ∈ CM m s f w,g.1≤10000:=by
 intro g hg
 unfold CM at hg
 obtain ⟨g0,h0,hc⟩:=List.mem_filterMap.1 hg
 unfold Fv at h0
 obtain ⟨b,_,hb⟩:=List.mem_flatMap.1 h0
 exact uo hf (ZP hl _ g0 hb) hc
theorem ik (k:Nat) (hk:5000≤k) (h:Ah σ i m) (hA:Cs σ ab i a) (hab:ab ∉ i.l) (ho:a.ok) (hI:Inv m) (h0:B0 m) {w:Nat} (hw:1≤w∧w≤1000):
  gY (DH (k+12) (Ct ab) (w:Int) σ) σ i ab (cK m a w):=by
 have hc:=ho.c0
 have hnt:=h.nt
 obtain ⟨c,hcc⟩:∃ c:Nat,a.c=(c:Int):=⟨a.c.toNat,by omega⟩
 obtain ⟨τ1,s1,e1,h1,lo1⟩:=dG (k+3) (by omega) (h.app [.cells [] KW true]) (hA.app _) hI h0 (fr:=c) (by omega) hw
 obtain ⟨μ1,hμ1⟩:∃ μ1,σ++[AJ.cells [] KW true]++τ1=μ1:=⟨_,rfl⟩
 rw[hμ1] at e1 h1
 have H1:Ah μ1 i m:=hμ1 ▸ (h.app _).app _
 have A1:Cs μ1 ab i a:=hμ1 ▸ (hA.app _).app _
 have K1:C2 i ab σ μ1:=hμ1 ▸ (C2.app _ _).trans (C2.app _ _)
 obtain ⟨τ2,s2,e2,h2,lo2⟩:=dG (k+3) (by omega) H1 A1 hI h0 (fr:=0) (by decide) hw
 have hlen:∀ f,(CM m a.s f w).length≤64*33:=by
  intro f
  unfold CM
  refine Nat.le_trans (List.length_filterMap_le _ _) ?_
  unfold Fv
  have hb:=LF m a.s m.bls.length
  have aux:∀ L:List Nat,(L.flatMap fun b:Nat=>H8 m (b:Int)).length≤L.length*33:=by
   intro L
   induction L with
   | nil=>simp
   | cons b L ih=>
     have:=PD m (b:Int)
     rw[List.flatMap_cons,List.length_append,List.length_cons]; omega
  have:=aux (B1 m a.s m.bls.length)
  omega
 have hl1:=hlen c
 have hl2:=hlen 0
 obtain ⟨o,μ3,e3,g3,h3⟩:∃ o μ3,Be P Aj s1 (s2.1,s2.2.1,s2.2.2) (μ1++τ2)=some (o,μ3)∧H6 (μ1++τ2) s1 μ3 o∧BU Aj 2 μ3 o (CM m a.s c w++CM m a.s 0 w).length (Bh (CM m a.s c w++CM m a.s 0 w)):=by
  by_cases hz:CM m a.s 0 w=[]
  ·rw[hz] at h2
   have f0:=h2.first
   have l2:=h2.len
   refine ⟨s1,μ1++τ2, ?_,H6.refl _ _,by rw[hz,List.append_nil]; exact h1.app _⟩
   rw[show s2.2.1=0 from l2]
   exact WO kF jU kM rfl rfl (by decide) (μ1++τ2) s1 _ _ s2.1 s2.2.2 (h1.app _) f0
  ·have hp:0<(CM m a.s 0 w).length:=List.length_pos_iff.2 hz
   have f0:=h2.first
   have l2:=h2.len
   obtain ⟨o,μ3,e,g,hh⟩:=UW kF jU kM rfl rfl (by decide) (by decide) (by decide) (μ1++τ2) s1 (CM m a.s c w).length (Bh (CM m a.s c w)) s2.1 (CM m a.s 0 w).length s2.2.2 (Bh (CM m a.s 0 w)) (by omega) hp (N7 _) (h1.app _) f0
   rw[l2]
   exact ⟨o,μ3,e,g,by rw[LY,List.length_append]; exact hh⟩
 have hs1:∀ x,s1.1=some x→σ.length+1≤x.block:=fun x hx=>by have:=lo1 x hx; simp at this; omega
 have off1:xr i s1:=fun x hx hm=>by have:=hs1 x hx; have:=h.lt _ hm; omega
 have oa1:∀ x,s1.1=some x→x.block≠ab:=fun x hx=>by have:=hs1 x hx; have:=hA.lt; omega
 obtain ⟨H3,_⟩:=g3.heap (H1.app τ2) off1
 obtain ⟨A3,_⟩:=g3.other (A1.app τ2) oa1
 have A3:Cs μ3 ab i a:=A3
 have K3:C2 i ab σ μ3:=⟨Nat.le_trans (K1.trans (C2.app _ τ2)).len g3.len,fun q hq h1' h2'=>by
  rw[g3.same q (by have:=(K1.trans (C2.app _ τ2)).len; omega) fun x hx=>by have:=hs1 x hx; omega]
  exact (K1.trans (C2.app _ τ2)).same q hq h1' h2'⟩
 obtain ⟨μ4,e4,H4,A4,K4⟩:=gL (k+1) (by omega) H3 A3 hab ho h3
 rw[mZ] at A4
 have e1':AZ (k+11) (Ct ab) (c:Int) (w:Int) (σ++[.cells [] KW true])=_:=e1
 have e2':AZ (k+11) (Ct ab) 0 (w:Int) μ1=_:=e2
 have e3':Be P Aj (s1.1,s1.2.1,s1.2.2) (s2.1,s2.2.1,s2.2.2) (μ1++τ2)=_:=e3
 have e4':Bc (k+11) (Ct ab) (o.1,o.2.1,o.2.2) μ3=_:=e4
 have l3:Ak .i64 (σ++[.cells [] KW true]) ab 3=some (c:Int):=by rw[(hA.app _).l3,hcc]
 have had:=gJ (m:=m) (a:=a) hnt (l:=CM m a.s c w++CM m a.s 0 w) (fun g hg=>by
  rcases List.mem_append.1 hg with hg | hg
  ·exact U1 hnt (by omega) g hg
  ·exact U1 hnt (by decide) g hg)
 unfold cK
 rw[show a.c.toNat=c from by omega]
 rw[Pe,Nt]
 simp only[An,Option.bind_some,Nat.zero_add,Nat.add_zero,l3,e1',Gp,e2',e3',e4',V0]
 have hra:=mZ m a (CM m a.s c w++CM m a.s 0 w)
 generalize C1 m a (CM m a.s c w++CM m a.s 0 w)=r at *
 by_cases q:r.1.2=true
 ·rw[if_pos q]
  simp only[q,cond_true,Ad (show AV (r.1.1+(w:Int)) by unfold AV; omega)]
  have:=A4.ye false (r.1.1+(w:Int))
  rw[show rL false=3 from rfl] at this
  simp only[this,Option.bind_some,if_true]
  exact ⟨μ4.set ab (.cells ((a.put false (r.1.1+(w:Int)) a.l).row i.hb) Ba true),by rw[show ((r.1,r.2.1,a.put false (r.1.1+(w:Int)) a.l):PR).1.2=true from q]; rfl,H4.TU hab _,A4.put _,(K3.trans K4).trans (C2.set _ _)⟩
 ·rw[if_neg q]
  have q':r.1.2=false:=by simpa using q
  simp only[q',cond_false,Option.bind_some,if_true]
  exact ⟨μ4,by simp only[q'],H4,by rw[hra]; exact A4,K3.trans K4⟩
end Go.Proofs.YtlaplcglpnlieaaGreat
end
section
namespace Go.Proofs.YtlaplcglpnlieaaGreat
open Go Go.AX
noncomputable local instance zO:Bb:=Az
local instance yP:Kn:=⟨true⟩
variable {σ:Aa} {i:CU} {m:HM} {ab:Nat} {a:AS}
def LX (ls:List Bool):Nat→Nat→Nat
 | 0,n=>n
 | f+1,n=>if n<ls.length∧ls.getD n false=false then LX ls f (n+1) else n
theorem j7 (ls:List Bool):∀ (f n:Nat),n≤LX ls f n
 | 0,n=>Nat.le_refl _
 | f+1,n=>by
   unfold LX
   split
   ·exact Nat.le_trans (Nat.le_succ n) (j7 ls f (n+1))
   ·exact Nat.le_refl _
theorem bW (ls:List Bool):∀ (f n:Nat),n≤ls.length→LX ls f n≤ls.length
 | 0,n,h=>h
 | f+1,n,h=>by
   unfold LX
   split
   ·exact bW ls f (n+1) (by omega)
   ·exact h
def YN (ls:List Bool):Nat→Nat→List (Nat × Nat)
 | 0,_=>[]
 | f+1,x=>if x<ls.length then (if x<LX ls 8 x then [(x,LX ls 8 x)] else [])++YN ls f (max (LX ls 8 x) x+1) else []
theorem fK (k:Nat) {ls:List Bool} (hls:ls.length≤8) {s:EJ} (hs:BU Dv 1 σ s ls.length (FJ ls)):∀ (n x f:Nat),x+n=ls.length→n<f →
  Cq k f s.1 ls.length s.2.2 (x:Int) σ=some (.exit 4,[.int .i64 ((LX ls n x:Nat):Int)],σ)
 | n,x,0,hx,hf=>by omega
 | 0,x,f+1,hx,hf=>by
   rw[Ht,Gy]
   simp only[decide_eq_false (show ¬ (x:Int)<((ls.length:Nat):Int) by omega),cond_false,Option.bind_some,LX]
 | n+1,x,f+1,hx,hf=>by
   have hxl:x<ls.length:=by omega
   obtain ⟨b,e0,l0⟩:=XO hs hxl
   have w1:Ae ((x:Int)+1)=((x+1:Nat):Int):=Ad (by unfold AV; omega)
   have ih:=fK k hls hs n (x+1) f (by omega) (by omega)
   rw[e0] at ih
   rw[Ht,Gy]
   simp only[decide_eq_true (show (x:Int)<((ls.length:Nat):Int) by omega),cond_true,if_pos (show (0:Int)≤(x:Int)∧(x:Int)<((ls.length:Nat):Int) by omega),e0,Option.bind_some,Int.toNat_natCast,Nat.zero_add,Nat.mul_one,l0,LX,w1,ih]
   cases ls.getD x false with
   | false=>simp only[Bool.not_false,cond_true,hxl,and_self,if_true]
   | true=>simp only[Bool.not_true,cond_false,Bool.true_eq_false,and_false,if_false]
theorem cU (ls:List Bool):∀ (f g n:Nat),ls.length≤n+f→ls.length≤n+g→LX ls f n=LX ls g n
 | 0,0,n,_,_=>rfl
 | 0,g+1,n,h,_=>by unfold LX; rw[if_neg (by omega)]
 | f+1,0,n,_,h=>by unfold LX; rw[if_neg (by omega)]
 | f+1,g+1,n,h1,h2=>by
   unfold LX
   rw[cU ls f g (n+1) (by omega) (by omega)]
def U3 (ls:List Bool) (b:Nat) (lim:Int) (f x:Nat):Option (Nat × Nat):=(YN ls f x).find? fun g=>decide (64*(b:Int)+8*(g.1:Int)≥lim)
theorem fJ (k:Nat) (hk:100≤k) {ls:List Bool} (hls:ls.length≤8) {b:Nat} (hb:b≤64) (s:EJ) {h1:Nat} (hn1:h1≠ab) (hs1:∀ x,s.1=some x→x.block≠h1):∀ (n x f:Nat) (σ:Aa),Cs σ ab i a→BU Dv 1 σ s ls.length (FJ ls)→σ[h1]?=some (IC 0 0)→ls.length<x+n→x≤20→n<f →
  Cp k f (Ct ab) h1 (b:Int) s.1 ls.length s.2.2 (x:Int) σ=some (match U3 ls b a.l n x with | some g=>(.ret,[.bool true],σ.set h1 (IC (64*(b:Int)+8*(g.1:Int)) (64*(b:Int)+8*(g.2:Int)))) | none=>(.exit 2,[],σ))
 | n,x,0,σ,hA,hs,hc,hx,hx2,hf=>by omega
 | n,x,f+1,σ,hA,hs,hc,hx,hx2,hf=>by
   rw[KL,Ix]
   by_cases hxl:x<ls.length
   ·obtain ⟨n,rfl⟩:∃ n',n=n'+1:=⟨n-1,by omega⟩
    have e1:=fK k hls hs (ls.length-x) x k (by omega) (by omega)
    rw[cU ls (ls.length-x) 8 x (by omega) (by omega)] at e1
    have hge:=j7 ls 8 x
    have hle:=bW ls 8 x (by omega)
    generalize hr:LX ls 8 x=r at *
    have w1:Ae ((b:Int)*64)=64*(b:Int):=by rw[Ad (by unfold AV; omega)]; omega
    have w2:Ae ((x:Int)*8)=8*(x:Int):=by rw[Ad (by unfold AV; omega)]; omega
    have w3:Ae (64*(b:Int)+8*(x:Int))=64*(b:Int)+8*(x:Int):=Ad (by unfold AV; omega)
    have w4:Ae ((r:Int)*8)=8*(r:Int):=by rw[Ad (by unfold AV; omega)]; omega
    have w5:Ae (64*(b:Int)+8*(r:Int))=64*(b:Int)+8*(r:Int):=Ad (by unfold AV; omega)
    have w6:Ae ((if ((r:Nat):Int)>(x:Int) then ((r:Nat):Int) else (x:Int))+1)=((max r x+1:Nat):Int):=by
     rw[show (if ((r:Nat):Int)>(x:Int) then ((r:Nat):Int) else (x:Int))=((max r x:Nat):Int) from by split <;> omega]
     exact Ad (by unfold AV; omega)
    have ih:=fJ k hk hls hb s hn1 hs1 n (max r x+1) f σ hA hs hc (by omega) (by omega) (by omega)
    have ep:U3 ls b a.l (n+1) x=if x<r then (if 64*(b:Int)+8*(x:Int)≥a.l then some (x,r) else U3 ls b a.l n (max r x+1)) else U3 ls b a.l n (max r x+1):=by
     unfold U3
     rw[YN,if_pos hxl,hr]
     by_cases q:x<r
     ·rw[if_pos q,if_pos q,List.singleton_append,List.find?_cons]
      by_cases q2:64*(b:Int)+8*(x:Int)≥a.l
      ·rw[if_pos q2]; simp only[decide_eq_true q2]
      ·rw[if_neg q2]; simp only[decide_eq_false q2]
     ·rw[if_neg q,if_neg q,List.nil_append]
    simp only[decide_eq_true (show (x:Int)<((ls.length:Nat):Int) by omega),cond_true,e1,Option.bind_some,if_true,DQ,Nat.zero_add,Nat.reduceAdd,hA.l4,w1,w2,w3,w4,w5,w6,ep]
    by_cases q:x<r
    ·simp only[decide_eq_true (show ((r:Nat):Int)>(x:Int) by omega),cond_true,Option.bind_some,if_pos q]
     by_cases q2:64*(b:Int)+8*(x:Int)≥a.l
     ·simp only[decide_eq_true q2,cond_true,if_pos q2,Ip,hc,IC]
      rfl
     ·simp only[decide_eq_false q2,cond_false,if_neg q2,ih]
    ·simp only[decide_eq_false (show ¬ ((r:Nat):Int)>(x:Int) by omega),cond_false,Option.bind_some,if_neg q,ih]
   ·have ep:U3 ls b a.l n x=none:=by
     unfold U3
     cases n with
     | zero=>rfl
     | succ n=>rw[YN,if_neg hxl]; rfl
    simp only[decide_eq_false (show ¬ (x:Int)<((ls.length:Nat):Int) by omega),cond_false,ep]
def Pp (m:HM) (lim:Int):List Nat→Option (Nat × Nat × Nat)
 | []=>none
 | b::l=>match U3 (DO m (b:Int)) b lim 9 0 with
   | some g=>some (b,g.1,g.2)
   | none=>Pp m lim l
theorem SA (m:HM) (b:Int):(DO m b).length≤8:=by
 unfold DO
 split
 ·rw[LU]; exact Nat.le_refl _
 ·simp
theorem fH (k:Nat) (hk:5000≤k) (hI:Inv m) (hI2:Inv2 m) (h0:B0 m) {L:List Nat} (hL:∀ b ∈ L,b<m.bls.length) {h1:Nat} (hn1:h1≠ab) (hn2:h1 ∉ i.l) (s:EJ) (hs1:∀ x,s.1=some x→x.block≠h1) (hLl:L.length≤64):∀ (n x f:Nat) (σ:Aa),Ah σ i m→Cs σ ab i a→BU AP 1 σ s (Xz L).length (CN (Xz L))→σ[h1]?=some (IC 0 0)→x+n=L.length→n<f →
  ∃ σ',BX (k+7) f (Ct ab) h1 s.1 L.length s.2.2 ((L.length:Nat):Int) (x:Int) σ=some (match Pp m a.l (L.drop x) with | some _=>(.ret,[.bool true],σ') | none=>(.exit 0,[],σ')) ∧
   σ'[h1]?=some (match Pp m a.l (L.drop x) with | some g=>IC (64*(g.1:Int)+8*(g.2.1:Int)) (64*(g.1:Int)+8*(g.2.2:Int)) | none=>IC 0 0)∧σ.length≤σ'.length ∧ ∀ q,q<σ.length→q≠h1→σ'[q]?=σ[q]?
 | n,x,0,σ,h,hA,hs,hc,hx,hf=>by omega
 | 0,x,f+1,σ,h,hA,hs,hc,hx,hf=>by
   rw[Hs,Gx,List.drop_of_length_le (by omega)]
   exact ⟨σ,by simp only[decide_eq_false (show ¬ (x:Int)<((L.length:Nat):Int) by omega),cond_false,Pp],hc,Nat.le_refl _,fun _ _ _=>rfl⟩
 | n+1,x,f+1,σ,h,hA,hs,hc,hx,hf=>by
   have hnt:=h.nt
   have hxl:x<L.length:=by omega
   obtain ⟨b,e0,l0⟩:=jT hs (show x<(Xz L).length by unfold Xz; simpa using hxl)
   rw[ji hxl] at l0
   have hbl:=hL L[x] (List.getElem_mem _)
   have qx:(0≤(x:Int)∧(x:Int)<((L.length:Nat):Int))=True:=eq_true (by omega)
   have w1:Ae ((x:Int)+1)=((x+1:Nat):Int):=Ad (by unfold AV; omega)
   obtain ⟨τ,s1,e1,g1,lo1⟩:=pb k hk h hI hI2 h0 ((L[x]:Nat):Int)
   have hcl:=Af hc
   have hc1:(σ++τ)[h1]?=some (IC 0 0):=by rw[List.getElem?_append_left hcl]; exact hc
   have e2:=fJ (k+7) (by omega) (SA m ((L[x]:Nat):Int)) (b:=L[x]) (by omega) s1 (ab:=ab) (a:=a) hn1 (fun y hy=>by have:=lo1 y hy; omega) 9 0 (k+7) (σ++τ) (hA.app _) g1 hc1 (by have:=SA m ((L[x]:Nat):Int); omega) (by omega) (by omega)
   have hdr:L.drop x=L[x]::L.drop (x+1):=List.drop_eq_getElem_cons hxl
   rw[Hs,Gx,hdr,Pp]
   rw[show ((0:Nat):Int)=0 from rfl] at e2
   simp only[decide_eq_true (show (x:Int)<((L.length:Nat):Int) by omega),cond_true,qx,if_true,e0,Option.bind_some,Int.toNat_natCast,Nat.zero_add,Nat.add_zero,Nat.mul_one,l0,hA.Z2,e1,Gp,g1.len,e2,w1]
   cases hg:U3 (DO m ((L[x]:Nat):Int)) L[x] a.l 9 0 with
   | some g=>
     refine ⟨(σ++τ).set h1 (IC (64*((L[x]:Nat):Int)+8*(g.1:Int)) (64*((L[x]:Nat):Int)+8*(g.2:Int))), ?_,by rw[List.getElem?_set_self (Af hc1)],by simp,fun q hq hn=>by rw[List.getElem?_set_ne (fun e=>hn e.symm),List.getElem?_append_left hq]⟩
     simp only[show (Br.ret=Br.exit 2)=False from by simp,if_false,if_true,VK]
   | none=>
     obtain ⟨σ',e3,c3,l3,s3⟩:=fH k hk hI hI2 h0 hL hn1 hn2 s hs1 hLl n (x+1) f (σ++τ) (h.app _) (hA.app _) (hs.app _) hc1 (by omega) (by omega)
     rw[e0] at e3
     refine ⟨σ', ?_,c3,by simp at l3; omega,fun q hq hn=>by rw[s3 q (by simp; omega) hn,List.getElem?_append_left hq]⟩
     simp only[if_true,e3]
def Od (m:HM) (a:AS):Int × Int × Bool:=match Pp m a.l (B1 m a.s m.bls.length) with | some g=>(64*(g.1:Int)+8*(g.2.1:Int),64*(g.1:Int)+8*(g.2.2:Int),true) | none=>ba m
def ON (m:HM) (a:AS):HM:=match Pp m a.l (B1 m a.s m.bls.length) with | some g=>m | none=>WU m a.s
theorem u9 (k:Nat) (hk:5000≤k) (h:Ah σ i m) (hA:Cs σ ab i a) (hab:ab ∉ i.l) (ho:a.ok) (hI:Inv m) (hI2:Inv2 m) (h0:B0 m):
  ∃ σ',CW (k+10) (Ct ab) σ=some (.tuple #[.agg #[.int .i64 (Od m a).1,.int .i64 (Od m a).2.1],.bool (Od m a).2.2],σ')∧Ah σ' i (ON m a)∧BZ i σ σ':=by
 have hnt:=h.nt
 have hlt:=hA.lt
 have hnl:σ.length ∉ i.l:=fun hm=>Nat.lt_irrefl _ (h.lt _ hm)
 obtain ⟨τ1,s1,e1,g1⟩:=iE (k+4) (by omega) (h.app [IC 0 0]) (hA.app [IC 0 0])
 have hbl:=LF m a.s m.bls.length
 have hc0:(σ++[IC 0 0]++τ1)[σ.length]?=some (IC 0 0):=by rw[List.getElem?_append_left (by simp)]; simp
 obtain ⟨σ2,e2,c2,l2,k2⟩:=fH (ab:=ab) (a:=a) (i:=i) (k+2) (by omega) hI hI2 h0 (L:=B1 m a.s m.bls.length) (fun b hb=>(T1.1 hb).1) (h1:=σ.length) (by omega) hnl s1 (fun x hx=>by have:=(g1.ge x hx).1; simp at this; omega) (by omega) (B1 m a.s m.bls.length).length 0 (k+9) (σ++[IC 0 0]++τ1) ((h.app _).app _) ((hA.app _).app _) g1.sl hc0 (by omega) (by omega)
 rw[List.drop_zero] at e2 c2
 have kp:BZ i σ σ2:=⟨by simp at l2; omega,fun q hq hm=>by rw[k2 q (by simp; omega) (by omega),List.append_assoc,List.getElem?_append_left hq]⟩
 have h2:Ah σ2 i m:=h.Cx fun j hj=>by
  have:=h.lt j hj
  rw[k2 j (by simp; omega) (by omega),List.append_assoc,List.getElem?_append_left this]
 have A2:Cs σ2 ab i a:=hA.Zm kp hab
 have hlen:s1.2.1=(B1 m a.s m.bls.length).length:=by rw[g1.len]; simp[Xz]
 have e1':Bx (k+9) (Ct ab) (σ++[IC 0 0])=_:=e1
 have e2':BX (k+9) (k+9) (Ct ab) σ.length s1.1 (B1 m a.s m.bls.length).length s1.2.2 (((B1 m a.s m.bls.length).length:Nat):Int) 0 (σ++[IC 0 0]++τ1)=_:=e2
 unfold Od ON
 rw[Mw,Kr]
 simp only[An,show (AJ.cells [.int .i64 0,.int .i64 0] EB true)=IC 0 0 from rfl,e1',Option.bind_some,Gp,hlen,e2']
 cases hh:Pp m a.l (B1 m a.s m.bls.length) with
 | some g=>
   rw[hh] at c2
   refine ⟨σ2, ?_,h2,kp⟩
   simp only[show (Br.ret=Br.exit 0)=False from by simp,if_false,if_true,VK,R5,c2,IC]
   rfl
 | none=>
   rw[hh] at c2
   obtain ⟨σ3,e3,h3,k3⟩:=eH k hk h2 A2 hab ho.s0
   have c3:=(k3.same _ (Af c2) hnl).trans c2
   refine ⟨σ3.set σ.length (IC (ba m).1 (ba m).2.1), ?_,h3.Cx fun j hj=>List.getElem?_set_ne fun e=>hnl (by rw[e]; exact hj),⟨by have:=kp.len; have:=k3.len; simp; omega,fun q hq hm=>?_⟩⟩
   ·simp only[if_true,e3,Option.bind_some,cj,List.length_cons,List.length_nil,List.head?_cons,List.tail_cons,dD,Ao,Nat.zero_add,Nat.reduceAdd,Ip,c3,IC,R5]
    simp[AN,LV,List.getElem?_set_self (Af c3)]
   ·have:=kp.len
    rw[List.getElem?_set_ne (by omega),k3.same q (by omega) hm,kp.same q hq hm]
end Go.Proofs.YtlaplcglpnlieaaGreat
end
