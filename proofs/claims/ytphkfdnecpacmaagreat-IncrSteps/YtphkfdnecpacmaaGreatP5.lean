/- Regions whose order is drawn: what is needed of the order of the text.; Regions whose order is drawn: every order comes to what the order of the text  -/
import Derived.Orders
import Derived.Test.YtphkfdnecpacmaaGreatP4
set_option linter.unusedVariables false
set_option linter.unusedSimpArgs false
set_option linter.unusedSectionVars false
section
namespace Go.AX
open Go
variable {ρ:Type} {P:Program} [AA]
theorem jk {f:Edge→Nat} {j:Nat}:∀ {l:List Edge} {s:Nat},(l.foldl (fun s e=>s ||| 2 ^ e.on ||| f e) s).testBit j=true→s.testBit j=true ∨ ∃ e ∈ l,j=e.on∨(f e).testBit j=true
 | [],s,h=>.inl h
 | e::l,s,h=>by
   simp only[List.foldl_cons] at h
   rcases jk h with h | ⟨e',he',h⟩
   ·rw[Nat.testBit_or,Nat.testBit_or,Bool.or_eq_true,Bool.or_eq_true,Nat.testBit_two_pow] at h
    rcases h with (h | h) | h
    ·exact .inl h
    ·exact .inr ⟨e,by simp,.inl (by simpa [eq_comm] using h)⟩
    ·exact .inr ⟨e,by simp,.inr h⟩
   ·exact .inr ⟨e',by simp[he'],h⟩
theorem xA {acc:List Nat} {o:Oper} {j:Nat} (h:(oQ acc o).testBit j=true):∃ e ∈ o.after.toList,Region.binds .any e=true∧(j=e.on∨(acc.getD e.on 0).testBit j=true):=by
 rcases jk (f:=fun e=>acc.getD e.on 0) h with h | ⟨e,he,h⟩
 ·simp at h
 ·rw[List.mem_filter] at he
  exact ⟨e,he.1,he.2,h⟩
theorem jH:∀ (os:List Oper) (acc:List Nat),(RN os acc).take acc.length=acc∧(RN os acc).length=acc.length+os.length ∧
  ∀ i o,os[i]?=some o→(RN os acc)[acc.length+i]?=some (oQ ((RN os acc).take (acc.length+i)) o)
 | [],acc=>⟨by simp[RN],by simp[RN],by simp⟩
 | o::os,acc=>by
   simp only[RN]
   obtain ⟨h1,h2,h3⟩:=jH os (acc++[oQ acc o])
   simp only[List.length_append,List.length_singleton] at h1 h2 h3
   have hpre:(RN os (acc++[oQ acc o])).take acc.length=acc:=by
    have:=congrArg (List.take acc.length) h1
    rw[List.take_take] at this
    simpa [Nat.min_eq_left (Nat.le_succ _)] using this
   refine ⟨hpre,by rw[h2]; simp; omega, ?_⟩
   intro i o' hi
   cases i with
   | zero=>
     simp at hi; subst hi
     rw[Nat.add_zero,hpre]
     have:=congrArg (fun l=>l[acc.length]?) h1
     simp only[List.getElem?_take] at this
     rw[if_pos (by omega)] at this
     rw[this]; simp
   | succ i=>
     simp at hi
     have:=h3 i o' hi
     rwa [show acc.length+1+i=acc.length+(i+1) by omega] at this
section
variable {ops:List Oper}
theorem yD {i j:Nat} {o:Oper} (ho:ops[i]?=some o) (h:((RN ops []).getD i 0).testBit j=true):
  ∃ e ∈ o.after.toList,Region.binds .any e=true∧(j=e.on∨(e.on<i∧((RN ops []).getD e.on 0).testBit j=true)):=by
 obtain ⟨_,h2,h3⟩:=jH ops []
 have:=h3 i o ho
 simp only[List.length_nil,Nat.zero_add] at this
 rw[List.getD_eq_getElem?_getD,this,Option.getD_some] at h
 obtain ⟨e,he,hb,hj⟩:=xA h
 refine ⟨e,he,hb, ?_⟩
 rcases hj with hj | hj
 ·exact .inl hj
 ·right
  rw[List.getD_eq_getElem?_getD,List.getElem?_take] at hj
  by_cases hlt:e.on<i
  ·rw[if_pos hlt] at hj
   exact ⟨hlt,by rw[List.getD_eq_getElem?_getD]; exact hj⟩
  ·rw[if_neg hlt] at hj; simp at hj
theorem nZ {i j:Nat} (h:((RN ops []).getD i 0).testBit j=true):∃ o,ops[i]?=some o:=by
 obtain ⟨_,h2,_⟩:=jH ops []
 rcases Nat.lt_or_ge i ops.length with hi | hi
 ·exact ⟨_,List.getElem?_eq_getElem hi⟩
 ·rw[List.getD_eq_getElem?_getD,List.getElem?_eq_none (by rw[h2]; simpa using hi)] at h
  simp at h
theorem nY {S:Nat→Prop} (hdown:∀ i o,ops[i]?=some o→S i → ∀ e ∈ o.after.toList,Region.binds .any e=true→S e.on):
  ∀ (i:Nat) {o:Oper} {j:Nat},ops[i]?=some o→(∀ e ∈ o.after.toList,Region.binds .any e=true→S e.on)→((RN ops []).getD i 0).testBit j=true→S j:=by
 intro i
 induction i using Nat.strongRecOn with
 | _ i ih=>
   intro o j ho hedges h
   obtain ⟨e,he,hb,hj⟩:=yD ho h
   rcases hj with rfl | ⟨hlt,hj⟩
   ·exact hedges e he hb
   ·obtain ⟨o',ho'⟩:=nZ hj
    exact ih e.on hlt ho' (hdown _ _ ho' (hedges e he hb)) hj
theorem Acy (h0:∀ i o,ops[i]?=some o → ∀ e ∈ o.after.toList,Region.binds .any e=true→e.on<i):∀ (i:Nat) {j:Nat},((RN ops []).getD i 0).testBit j=true→j<i:=by
 intro i
 induction i using Nat.strongRecOn with
 | _ i ih=>
   intro j h
   obtain ⟨o,ho⟩:=nZ h
   obtain ⟨e,he,hb,hj⟩:=yD ho h
   have hlt:=h0 i o ho e he hb
   rcases hj with rfl | ⟨_,hj⟩
   ·exact hlt
   ·exact Nat.lt_trans (ih e.on hlt hj) hlt
structure Tq (P:Program) (ops:List Oper) (qf:Nat→QF):Prop where
 down:∀ i o,ops[i]?=some o → ∀ e ∈ o.after.toList,Region.binds .any e=true→e.on<i
 reg:∀ i j oi oj t,ops[i]?=some oi→ops[j]?=some oj→i≠j→oi.dst=some t→(t ∈ xz ops oj∨oj.dst=some t)→ordered (RN ops []) i j=true
 mem:∀ i j,i<ops.length→j<ops.length→i≠j→JI P ops qf i = .lo→JI P ops qf j ≠ .pure→ordered (RN ops []) i j=true∨Vy ops qf i j=true
theorem mem_zipIdx {l:List Oper} {i:Nat} {o:Oper} (h:l[i]?=some o):(o,i) ∈ l.zipIdx:=by
 rw[List.mem_zipIdx_iff_getElem?]; exact h
theorem uT {qf:Nat→QF} (h:gf P ops qf=true):Tq P ops qf:=by
 unfold gf at h
 simp only[List.all_eq_true,Bool.and_eq_true,Bool.or_eq_true,Bool.not_eq_true',beq_iff_eq,bne_iff_ne,ne_eq] at h
 refine ⟨?_, ?_, ?_⟩
 ·intro i o ho e he hb
  have:=(h (o,i) (mem_zipIdx ho)).1 e he
  rcases this with h | h
  ·rw[hb] at h; cases h
  ·simpa [Nat.blt_eq] using h
 ·intro i j oi oj t hi hj hij hdst hl
  have:=(h (oi,i) (mem_zipIdx hi)).2 (oj,j) (mem_zipIdx hj)
  rcases this with h | h
  ·exact absurd h hij
  ·have h:=h.1
   simp only[hdst] at h
   simp only[Bool.or_eq_true,Bool.and_eq_true,Bool.not_eq_true',bne_iff_ne,ne_eq] at h
   rcases h with h | h
   ·rcases hl with hl | hl
    ·have:=h.1; simp[hl] at this
    ·exact absurd hl h.2
   ·exact h
 ·intro i j hi hj hij hc hcj
  have:=(h (ops[i],i) (mem_zipIdx (List.getElem?_eq_getElem hi))).2 (ops[j],j) (mem_zipIdx (List.getElem?_eq_getElem hj))
  rcases this with h | h
  ·exact absurd h hij
  ·have h:=h.2
   rcases h with (h | h) | h
   ·rcases h with h | h
    ·exact absurd hc h
    ·exact absurd h hcj
   ·exact .inl h
   ·exact .inr h
end
structure Data (P:Program) (qf:Nat→QF) (ops:List Oper) (E0:AZ) (σ0:Aa) (E':AZ) (σ':Aa) where
 Ef:Nat→AZ
 Sf:Nat→Aa
 V:Nat→Value
 e0:Ef 0=E0
 s0:Sf 0=σ0
 en:Ef ops.length=E'
 sn:Sf ops.length=σ'
 step:∀ k o,ops[k]?=some o→Ef (k+1)=MW (Ef k) o.dst (some (V k)) ∧
  ((∃ regs,Nr (Ef k) regs∧yes ops o regs∧mJ P o (qf k).1 (fh o (tm regs)) (Sf k) (V k) (Sf (k+1)))∨((∃ regs,Nr (Ef k) regs∧no ops o regs)∧V k=undef∧Sf (k+1)=Sf k))
 GJ:∀ k o,ops[k]?=some o→Kept (qf k).2 (Ef k) (Sf k) (Sf (k+1))∨Sf (k+1)=Sf k
theorem Ag2 {qf:Nat→QF} {all:List Oper} {L:List (Nat × Oper)} {E E':AZ} {σ σ':Aa} (h:Tr P qf all L E σ E' σ'):
  ∃ (Ef:Nat→AZ) (Sf:Nat→Aa) (V:Nat→Value),Ef 0=E∧Sf 0=σ∧Ef L.length=E'∧Sf L.length=σ' ∧ ∀ k i o,L[k]?=some (i,o)→Ef (k+1)=MW (Ef k) o.dst (some (V k)) ∧
   ((∃ regs,Nr (Ef k) regs∧yes all o regs∧mJ P o (qf i).1 (fh o (tm regs)) (Sf k) (V k) (Sf (k+1)))∨((∃ regs,Nr (Ef k) regs∧no all o regs)∧V k=undef∧Sf (k+1)=Sf k))∧(Kept (qf i).2 (Ef k) (Sf k) (Sf (k+1))∨Sf (k+1)=Sf k):=by
 induction h with
 | @nil E σ=>exact ⟨fun _=>E,fun _=>σ,fun _=>undef,rfl,rfl,rfl,rfl,by simp⟩
 | @step i o rest E regs E' σ σ1 σ' v hw hy hf hkp ht ih=>
   obtain ⟨Ef,Sf,V,h1,h2,h3,h4,h5⟩:=ih
   refine ⟨fun k=>match k with | 0=>E | k+1=>Ef k,fun k=>match k with | 0=>σ | k+1=>Sf k,fun k=>match k with | 0=>v | k+1=>V k,rfl,rfl,h3,h4, ?_⟩
   intro k i' o' hk
   cases k with
   | zero=>
     simp at hk; obtain ⟨rfl,rfl⟩:=hk
     refine ⟨h1,.inl ⟨regs,hw,hy, ?_⟩,.inl ?_⟩
     ·simp only[h2]; exact hf
     ·simp only[h2]; exact hkp
   | succ k=>exact h5 k i' o' (by simpa using hk)
 | @skip i o rest E regs E' σ σ' hw hn ht ih=>
   obtain ⟨Ef,Sf,V,h1,h2,h3,h4,h5⟩:=ih
   refine ⟨fun k=>match k with | 0=>E | k+1=>Ef k,fun k=>match k with | 0=>σ | k+1=>Sf k,fun k=>match k with | 0=>undef | k+1=>V k,rfl,rfl,h3,h4, ?_⟩
   intro k i' o' hk
   cases k with
   | zero=>
     simp at hk; obtain ⟨rfl,rfl⟩:=hk
     exact ⟨h1,.inr ⟨⟨regs,hw,hn⟩,rfl,h2⟩,.inr h2⟩
   | succ k=>exact h5 k i' o' (by simpa using hk)
theorem Ag1 {qf:Nat→QF} {ops:List Oper} {E E':AZ} {σ σ':Aa} (h:Tr P qf ops (ops.zipIdx.map fun x=>(x.2,x.1)) E σ E' σ'):Nonempty (Data P qf ops E σ E' σ'):=by
 obtain ⟨Ef,Sf,V,h1,h2,h3,h4,h5⟩:=Ag2 h
 refine ⟨⟨Ef,Sf,V,h1,h2,by simpa using h3,by simpa using h4,fun k o hk=>?_,fun k o hk=>?_⟩⟩
 ·have:=h5 k k o (by simp[List.getElem?_zipIdx,hk])
  exact ⟨this.1,this.2.1⟩
 ·exact (h5 k k o (by simp[List.getElem?_zipIdx,hk])).2.2
theorem R.pre {μ:Mu} {σ σ2:Aa} {w:World} (h:R P μ σ2 w) (hp:σ <+: σ2):R P μ σ w:=by
 obtain ⟨t,rfl⟩:=hp
 refine ⟨?_,h.lt, ?_⟩
 ·intro x o k ho hk
  have hlt:x<σ.length:=(List.getElem?_eq_some_iff.1 ho).1
  exact h.obj x o k (by rw[List.getElem?_append_left hlt]; exact ho) hk
 ·intro a b ka kb h1 h2 h3 h4 h6 h5
  have hal:∀ x,alive σ x→alive (σ++t) x:=by
   intro x ⟨o,ho,hd⟩
   have hlt:x<σ.length:=(List.getElem?_eq_some_iff.1 ho).1
   exact ⟨o,by rw[List.getElem?_append_left hlt]; exact ho,hd⟩
  have hwal:∀ x,alive σ x→Ay σ x→Ay (σ++t) x:=by
   intro x ⟨o,ho,hd⟩ hw
   have hlt:x<σ.length:=(List.getElem?_eq_some_iff.1 ho).1
   unfold Ay at hw ⊢
   rwa [List.getElem?_append_left hlt]
  exact h.inj a b ka kb h1 h2 (hal a h3) (hal b h4) (h6.imp (hwal a h3) (hwal b h4)) h5
theorem R.extend {μ:Mu} {σ σ2:Aa} {w:World} (h:R P μ σ w) (hp:σ <+: σ2) (hf:HT μ σ.length σ2.length):R P μ σ2 w:=by
 obtain ⟨t,rfl⟩:=hp
 have key:∀ x k,μ x=some k→x<(σ++t).length→x<σ.length:=by
  intro x k hk hlt
  rcases Nat.lt_or_ge x σ.length with hx | hx
  ·exact hx
  ·rw[hf x hx hlt] at hk; cases hk
 refine ⟨?_,h.lt, ?_⟩
 ·intro x o k ho hk
  have hlt:=key x k hk (List.getElem?_eq_some_iff.1 ho).1
  rw[List.getElem?_append_left hlt] at ho
  exact h.obj x o k ho hk
 ·intro a b ka kb h1 h2 h3 h4 h6 h5
  have hal:∀ x k,μ x=some k→alive (σ++t) x→alive σ x:=by
   intro x k hk ⟨o,ho,hd⟩
   have hlt:=key x k hk (List.getElem?_eq_some_iff.1 ho).1
   rw[List.getElem?_append_left hlt] at ho
   exact ⟨o,ho,hd⟩
  have hwal:∀ x k,μ x=some k→alive (σ++t) x→Ay (σ++t) x→Ay σ x:=by
   intro x k hk ⟨o,ho,hd⟩ hw
   have hlt:=key x k hk (List.getElem?_eq_some_iff.1 ho).1
   unfold Ay at hw ⊢
   rwa [List.getElem?_append_left hlt] at hw
  exact h.inj a b ka kb h1 h2 (hal a ka h1 h3) (hal b kb h2 h4) (h6.imp (hwal a ka h1 h3) (hwal b kb h2 h4)) h5
theorem R.merge {μ μ':Mu} {σ σ' σM:Aa} {w w':World} (hM:R P μ σM w) (hp:σ <+: σ') (hp':σ' <+: σM) (hS:Step μ σ w μ' σ' w') (hR:R P μ' σ' w') (hf:HT μ σ.length σ'.length):R P μ' σM w':=by
 have hle:=hS.le hf
 have hl1:σ.length≤σ'.length:=hS.len
 have hl2:σ'.length≤σM.length:=hp'.length_le
 have get':∀ x,x<σ'.length→σM[x]?=σ'[x]?:=by
  obtain ⟨t,rfl⟩:=hp'
  intro x hx; rw[List.getElem?_append_left hx]
 have get:∀ x,x<σ.length→σM[x]?=σ[x]?:=by
  intro x hx
  rw[get' x (by omega)]
  obtain ⟨t,rfl⟩:=hp
  rw[List.getElem?_append_left hx]
 have walive:∀ x,x<σ.length→Ay σ x→alive σM x:=by
  intro x hx hw
  obtain ⟨o,ho,hd⟩:=bp hw
  exact ⟨o,by rw[get x hx]; exact ho,hd⟩
 have wwrit:∀ x,x<σ.length→Ay σ x→Ay σM x:=by
  intro x hx hw
  unfold Ay at hw ⊢
  rwa [get x hx]
 have GJ:∀ x k,σ'.length≤x→μ x=some k→alive σM x→w'.heap[k.b]?=w.heap[k.b]?:=by
  intro x k hx hk hal
  refine hS.frame k.b (hM.lt x k hk) ?_
  intro h0 k0 hh0 hk0 hkb hw0
  have:=hM.inj h0 x k0 k hk0 hk (walive h0 hh0 hw0) hal (.inl (wwrit h0 hh0 hw0)) hkb
  omega
 refine ⟨?_,hR.lt, ?_⟩
 ·intro x o k ho hk
  by_cases hx:x<σ'.length
  ·rw[get' x hx] at ho
   exact hR.obj x o k ho hk
  ·rw[hS.mu x (.inr (by omega))] at hk
   by_cases hd:o = .dead
   ·subst hd; trivial
   ·rw[GJ x k (by omega) hk ⟨o,ho,hd⟩]
    exact (hM.obj x o k ho hk).mono hle
 ·have side:∀ a b ka kb,μ' a=some ka→μ' b=some kb→alive σM a→alive σM b→Ay σM a∨Ay σM b→ka.b=kb.b→a<σ'.length→σ'.length≤b→a=b:=by
   intro a b ka kb ha hb hal hbl hww hab hal' hbl'
   rw[hS.mu b (.inr hbl')] at hb
   by_cases has:a<σ.length
   ·rw[hS.mu a (.inl has)] at ha
    exact hM.inj a b ka kb ha hb hal hbl hww hab
   ·rcases hS.new a ka (by omega) hal' ha with h | ⟨h0,k0,hh0,hk0,hkb,hw0⟩
    ·have:=hM.lt b kb hb; omega
    ·have:=hM.inj h0 b k0 kb hk0 hb (walive h0 hh0 hw0) hbl (.inl (wwrit h0 hh0 hw0)) (hkb.trans hab)
     omega
  intro a b ka kb ha hb hal hbl hww hab
  by_cases h1:a<σ'.length <;> by_cases h2:b<σ'.length
  ·have al:∀ x,x<σ'.length→alive σM x→alive σ' x:=by
    intro x hx ⟨o,ho,hd⟩; exact ⟨o,by rw[← get' x hx]; exact ho,hd⟩
   have wl:∀ x,x<σ'.length→Ay σM x→Ay σ' x:=by
    intro x hx hw
    unfold Ay at hw ⊢
    rwa [get' x hx] at hw
   exact hR.inj a b ka kb ha hb (al a h1 hal) (al b h2 hbl) (hww.imp (wl a h1) (wl b h2)) hab
  ·exact side a b ka kb ha hb hal hbl hww hab h1 (by omega)
  ·exact (side b a kb ka hb ha hbl hal hww.symm hab.symm h2 (by omega)).symm
  ·rw[hS.mu a (.inr (by omega))] at ha
   rw[hS.mu b (.inr (by omega))] at hb
   exact hM.inj a b ka kb ha hb hal hbl hww hab
end Go.AX
end
section
namespace Go.AX
open Go
variable {ρ:Type} {P:Program} [AA]
section
variable {qf:Nat→QF} {ops:List Oper} {E0 E':AZ} {σ0 σ':Aa}
def L (listed:Array Bool) (j:Nat):Prop:=listed.getD j false=true
theorem Data.xc (D:Data P qf ops E0 σ0 E' σ'):∀ k,k≤ops.length→(D.Ef k).length=E0.length
 | 0,_=>by rw[D.e0]
 | k+1,h=>by
   rw[(D.step k _ (List.getElem?_eq_getElem h)).1,EW]; exact D.xc k (by omega)
theorem Data.Ai2 (D:Data P qf ops E0 σ0 E' σ') {k:Nat} (h:k<ops.length):(D.Sf k).length≤(D.Sf (k+1)).length:=by
 rcases (D.step k _ (List.getElem?_eq_getElem h)).2 with ⟨_,_,_,hf⟩ | ⟨_,_,hs⟩
 ·exact hf.len
 ·rw[hs]; exact Nat.le_refl _
theorem Data.Lh (D:Data P qf ops E0 σ0 E' σ') {i:Nat}:∀ m,i≤m→m≤ops.length→(D.Sf i).length≤(D.Sf m).length:=by
 intro m hm
 induction hm with
 | refl=>intro _; exact Nat.le_refl _
 | step hm ih=>intro h; exact Nat.le_trans (ih (by omega)) (D.Ai2 h)
theorem rj {k:Nat} {o:Oper} (ho:ops[k]?=some o) (h:JI P ops qf k ≠ .lo):(JI P ops qf k=GR P o∧(U7 o=true→(qf k).1=true))∨(isApp o=true∧(qf k).1=true∧JI P ops qf k = .al):=by
 unfold JI at h ⊢
 rw[ho] at h ⊢
 simp only at h ⊢
 cases hc:(U7 o && !(qf k).1) with
 | true=>rw[hc] at h; exact absurd rfl h
 | false=>
   rw[cond_false]
   cases ha:(isApp o && (qf k).1) with
   | true=>
     rw[cond_true]
     simp only[Bool.and_eq_true] at ha
     exact .inr ⟨ha.1,ha.2,rfl⟩
   | false=>
     rw[cond_false]
     refine .inl ⟨rfl,fun hi=>?_⟩
     rw[hi] at hc; simpa using hc
theorem jJ {k:Nat} {o:Oper} (ho:ops[k]?=some o) (h:JI P ops qf k = .pure):GR P o = .pure:=by
 rcases rj (P:=P) (qf:=qf) ho (by rw[h]; simp) with ⟨h1,_⟩ | ⟨_,_,h1⟩
 ·rw[← h1]; exact h
 ·rw[h] at h1; cases h1
theorem xp {o:Oper} {c:Call} (ho:o.op = .call c) (h:GR P o = .al):U7 o=true:=by
 unfold U7
 rw[ho]
 cases hcal:c.callee with
 | builtin b=>
   simp only[GR,ho,hcal] at h
   cases b <;> cases hm:cl P c.argTypes.toList <;> simp[hm,qi] at h
 | invoke r m=>simp only[hcal]
 | value f=>simp only[hcal]
theorem Data.quiet (D:Data P qf ops E0 σ0 E' σ') {k:Nat} (h:k<ops.length) (hc:JI P ops qf k ≠ .lo):D.Sf k <+: D.Sf (k+1):=by
 have ho:=List.getElem?_eq_getElem h
 rcases rj (P:=P) (qf:=qf) ho hc with ⟨hcl,hq⟩ | ⟨happ,hqk,_⟩
 rotate_left
 ·rcases (D.step k _ ho).2 with ⟨_,_,_,hf⟩ | ⟨_,_,hs⟩
  ·exact hf.app happ hqk
  ·rw[hs]; exact List.prefix_refl _
 rcases (D.step k _ ho).2 with ⟨_,_,_,hf⟩ | ⟨_,_,hs⟩
 ·cases hcc:GR P ops[k] with
  | pure=>rw[(hf.pure hcc).1]; exact List.prefix_refl _
  | ld=>rw[hf.ld hcc]; exact List.prefix_refl _
  | al=>
    refine hf.al hcc ?_
    by_cases hcall:∃ c,ops[k].op = .call c
    ·obtain ⟨c,hc'⟩:=hcall
     exact .inr (hq (xp hc' hcc))
    ·exact .inl fun c hc'=>hcall ⟨c,hc'⟩
  | lo=>exact absurd (hcl.trans hcc) hc
 ·rw[hs]; exact List.prefix_refl _
theorem Data.chain (D:Data P qf ops E0 σ0 E' σ') {i:Nat}:∀ m,i≤m→m≤ops.length→(∀ k,i≤k→k<m→JI P ops qf k ≠ .lo)→D.Sf i <+: D.Sf m:=by
 intro m hm
 induction hm with
 | refl=>intro _ _; exact List.prefix_refl _
 | step hm ih=>intro h hk; exact (ih (by omega) fun k h1 h2=>hk k h1 (by omega)).trans (D.quiet h (hk _ hm (by omega)))
theorem Data.dp (D:Data P qf ops E0 σ0 E' σ') {i t:Nat}:∀ m,i≤m→m≤ops.length→(∀ k o,i≤k→k<m→ops[k]?=some o→o.dst≠some t)→(D.Ef m).getD t none=(D.Ef i).getD t none:=by
 intro m hm
 induction hm with
 | refl=>intro _ _; rfl
 | @step m hm ih=>
   intro h hk
   have ho:=List.getElem?_eq_getElem h
   rw[(D.step m _ ho).1,Oy (hk m _ hm (by omega) ho)]
   exact ih (by omega) fun k o h1 h2=>hk k o h1 (by omega)
theorem mQ (P:Program) (qf:Nat→QF) (ops:List Oper):∀ (d i:Nat),i+d=ops.length → ∃ m,i≤m∧m≤ops.length∧(∀ k,i≤k→k<m→JI P ops qf k ≠ .lo)∧(m=ops.length∨JI P ops qf m = .lo)
 | 0,i,h=>⟨i,Nat.le_refl _,by omega,fun k h1 h2=>absurd h2 (by omega),.inl (by omega)⟩
 | d+1,i,h=>by
   by_cases hc:JI P ops qf i = .lo
   ·exact ⟨i,Nat.le_refl _,by omega,fun k h1 h2=>absurd h2 (by omega),.inr hc⟩
   ·obtain ⟨m,h1,h2,h3,h4⟩:=mQ P qf ops d (i+1) (by omega)
    refine ⟨m,by omega,h2,fun k hk1 hk2=>?_,h4⟩
    by_cases hki:k=i
    ·subst hki; exact hc
    ·exact h3 k (by omega) hk2
theorem bZ (D:Data P qf ops E0 σ0 E' σ') {μ:Mu} {i:Nat}:∀ m,i≤m→m≤ops.length→(∀ k,i≤k→k<m→HT μ (D.Sf k).length (D.Sf (k+1)).length)→HT μ (D.Sf i).length (D.Sf m).length:=by
 intro m hm
 induction hm with
 | refl=>intro _ _ h h1 h2; omega
 | @step m hm ih=>
   intro hl hk h h1 h2
   by_cases hlt:h<(D.Sf m).length
   ·exact ih (by omega) (fun k a b=>hk k a (by omega)) h h1 hlt
   ·exact hk m hm (by omega) h (by omega) h2
theorem mH {σ σ2:Aa} (hp:σ <+: σ2) {h:Nat} (hl:h<σ.length):Ay σ2 h=Ay σ h:=by
 obtain ⟨t,rfl⟩:=hp
 unfold Ay; rw[List.getElem?_append_left hl]
theorem Adc {i j:Nat} (h:Af2 ops qf i j=true):∃ t o T a,ops[j]?=some o∧o.op = .load T (.tmp a)∧iy ops j=some t∧lM ops 8 a j=some t∧t ∈ (qf i).2:=by
 unfold Af2 at h
 split at h
 rotate_left
 ·cases h
 rename_i t ht
 have hc:t ∈ (qf i).2:=by simpa using h
 have ht0:=ht
 unfold iy at ht
 split at ht
 rotate_left
 ·cases ht
 rename_i o ho
 split at ht
 rotate_left
 ·cases ht
 rename_i T a hop
 exact ⟨t,o,T,a,ho,hop,ht0,ht,hc⟩
theorem Aj3 {j:Nat} (h:Aip ops j=true):∃ o T a,ops[j]?=some o∧o.op = .load T (.tmp a):=by
 unfold Aip at h
 split at h
 rotate_left
 ·cases h
 rename_i o ho
 split at h
 rotate_left
 ·cases h
 rename_i T a hop
 exact ⟨o,T,a,ho,hop⟩
theorem iz {i j:Nat} (h:Vy ops qf i j=true):∃ o T a,ops[j]?=some o∧o.op = .load T (.tmp a):=by
 unfold Vy at h
 rw[Bool.or_eq_true,Bool.and_eq_true] at h
 rcases h with h | ⟨h,_⟩
 ·obtain ⟨_,o,T,a,h1,h2,_⟩:=Adc h
  exact ⟨o,T,a,h1,h2⟩
 ·exact Aj3 h
theorem iM {j:Nat} {o:Oper} {T:TypeId} {x:Operand} (ho:ops[j]?=some o) (hop:o.op = .load T x):JI P ops qf j = .ld∧GR P o = .ld:=by
 have h0:GR P o = .ld:=by unfold GR; rw[hop]
 have h1:U7 o=false:=by unfold U7; rw[hop]
 have h2:isApp o=false:=by unfold isApp; rw[hop]
 refine ⟨?_,h0⟩
 unfold JI
 rw[ho]
 simp only[h1,h2,Bool.false_and,cond_false]
 exact h0
theorem Data.kg (D:Data P qf ops E0 σ0 E' σ') {j:Nat} {o:Oper} {T:TypeId} {x:Operand} (ho:ops[j]?=some o) (hop:o.op = .load T x):D.Sf (j+1)=D.Sf j:=by
 rcases (D.step j o ho).2 with ⟨_,_,_,hf⟩ | ⟨_,_,hs⟩
 ·exact hf.ld (iM (qf:=qf) ho hop).2
 ·exact hs
theorem Tq.lo_lo (hd:Tq P ops qf) {i j:Nat} (hi:i<ops.length) (hj:j<ops.length) (hij:i≠j) (hc:JI P ops qf i = .lo) (hcj:JI P ops qf j = .lo):ordered (RN ops []) i j=true:=by
 rcases hd.mem i j hi hj hij hc (by rw[hcj]; simp) with h | h
 ·exact h
 ·obtain ⟨o,T,a,ho,hop⟩:=iz h
  rw[(iM (P:=P) (qf:=qf) ho hop).1] at hcj
  cases hcj
theorem Tq.Ais (hd:Tq P ops qf) {i j:Nat} (hi:i<ops.length) (hj:j<ops.length) (hij:i≠j) (hc:JI P ops qf i = .lo) (hcj:JI P ops qf j ≠ .pure) (hn:∀ k,k<ops.length→Vy ops qf k j=false):ordered (RN ops []) i j=true:=by
 rcases hd.mem i j hi hj hij hc hcj with h | h
 ·exact h
 ·rw[hn i hi] at h; cases h
structure Tt (D:Data P qf ops E0 σ0 E' σ') (hi:Nat) (μ0:Mu) (w0:World) (listed:Array Bool) (μ:Mu) (w:World):Prop where
 mem:∃ m,m≤ops.length∧(∀ j,j<ops.length→JI P ops qf j = .lo→(L listed j↔j<m))∧(m=ops.length∨JI P ops qf m = .lo)∧R P μ (D.Sf m) w
 fresh:∀ j,j<ops.length→¬ L listed j→HT μ (D.Sf j).length (D.Sf (j+1)).length
 mu:∀ h,(h<(D.Sf 0).length∨(D.Sf ops.length).length≤h)→μ h=μ0 h
 new:∀ h k,(D.Sf 0).length≤h→h<(D.Sf ops.length).length→μ h=some k→w0.heap.size≤k.b ∨ ∃ h0 k0,h0<(D.Sf 0).length∧μ0 h0=some k0∧k0.b=k.b∧Ay (D.Sf 0) h0
 wr:∀ j,j<ops.length→L listed j → ∀ h,h<(D.Sf j).length→Ay (D.Sf (j+1)) h→Ay (D.Sf j) h
 size:w0.heap.size≤w.heap.size
 tape:w.tape=w0.tape
 os:w.os=w0.os
 output:w.output=w0.output
 frame:∀ b,b<w0.heap.size→(∀ h k,h<(D.Sf 0).length→μ0 h=some k→k.b=b→¬ Ay (D.Sf 0) h)→w.heap[b]?=w0.heap[b]?
theorem yp {listed:Array Bool} {i j:Nat} (hi:i<listed.size):L (listed.setIfInBounds i true) j↔j=i∨L listed j:=by
 unfold L
 by_cases h:i=j
 ·subst h; simp[hi]
 ·rw[getD_set_ne false h]
  constructor
  ·exact .inr
  ·rintro (rfl | h')
   ·exact absurd rfl h
   ·exact h'
structure nA (P:Program) (qf:Nat→QF) (ops:List Oper) (listed:Array Bool) (i:Nat):Prop where
 lt:i<ops.length
 size:listed.size=ops.length
 un:¬ L listed i
 ord:∀ j,j≠i→ordered (RN ops []) i j=true→(L listed j↔j<i)
variable {hi:Nat} {μ0 μ:Mu} {w0 w:World} {listed:Array Bool} {i:Nat}
theorem Tt.idle {D:Data P qf ops E0 σ0 E' σ'} (hd:Tq P ops qf) (h:Tt D hi μ0 w0 listed μ w) (hr:nA P qf ops listed i) (hs:D.Sf (i+1)=D.Sf i):Tt D hi μ0 w0 (listed.setIfInBounds i true) μ w:=by
 have hset:∀ j,L (listed.setIfInBounds i true) j↔j=i∨L listed j:=fun j=>yp (by rw[hr.size]; exact hr.lt)
 refine ⟨?_,fun j hj hl=>h.fresh j hj fun hl'=>hl ((hset j).2 (.inr hl')),h.mu,h.new, ?_,h.size,h.tape,h.os,h.output,h.frame⟩
 ·obtain ⟨m,hm,hlo,hml,hR⟩:=h.mem
  by_cases hc:JI P ops qf i = .lo
  ·have hmi:m=i:=by
    have hi':=hlo i hr.lt hc
    have him:¬ i<m:=fun hlt=>hr.un (hi'.2 hlt)
    rcases hml with rfl | hml
    ·exact absurd hr.lt him
    ·by_cases hne:m=i
     ·exact hne
     ·have hmn:m<ops.length:=by have:=hr.lt; omega
      have:=(hlo m hmn hml)
      have h2:=hr.ord m hne (hd.lo_lo hr.lt hmn (Ne.symm hne) hc hml)
      have:L listed m:=h2.2 (by omega)
      have:=(hlo m hmn hml).1 this
      omega
   subst hmi
   obtain ⟨m',h1,h2,h3,h4⟩:=mQ P qf ops (ops.length-(m+1)) (m+1) (by have:=hr.lt; omega)
   refine ⟨m',h2, ?_,h4, ?_⟩
   ·intro j hj hcj
    rw[hset]
    by_cases hjm:j=m
    ·subst hjm; simp; omega
    ·have:=hlo j hj hcj
     constructor
     ·rintro (h | h)
      ·exact absurd h hjm
      ·have:=this.1 h; omega
     ·intro hlt
      right
      apply this.2
      apply Classical.byContradiction
      intro hge
      exact h3 j (by omega) hlt hcj
   ·have hp:=D.chain (i:=m+1) m' h1 h2 h3
    rw[← hs] at hR
    refine hR.extend hp (bZ D m' h1 h2 fun k hk1 hk2=>?_)
    by_cases hkp:JI P ops qf k = .pure
    ·have hcl:=jJ (P:=P) (qf:=qf) (List.getElem?_eq_getElem (show k<ops.length by omega)) hkp
     rcases (D.step k _ (List.getElem?_eq_getElem (show k<ops.length by omega))).2 with ⟨_,_,_,hf⟩ | ⟨_,_,hsk⟩
     ·rw[(hf.pure hcl).1]; intro x a b; omega
     ·rw[hsk]; intro x a b; omega
    ·rcases hd.mem m k hr.lt (by omega) (by omega) hc hkp with hord | hfar
     ·refine h.fresh k (by omega) fun hl=>?_
      have:=(hr.ord k (by omega) hord).1 hl
      omega
     ·obtain ⟨o,T,a,ho,hop⟩:=iz hfar
      rw[D.kg ho hop]; intro x a b; omega
  ·refine ⟨m,hm, ?_,hml,hR⟩
   intro j hj hcj
   rw[hset]
   have hji:j≠i:=by rintro rfl; exact hc hcj
   simp only[hji,false_or]
   exact hlo j hj hcj
 ·intro j hj hl x hx hw
  by_cases hji:j=i
  ·subst hji; rw[hs] at hw; exact hw
  ·exact h.wr j hj (((hset j).1 hl).resolve_left hji) x hx hw
theorem Tt.at {D:Data P qf ops E0 σ0 E' σ'} (hd:Tq P ops qf) (h:Tt D hi μ0 w0 listed μ w) (hr:nA P qf ops listed i) (hc:JI P ops qf i ≠ .pure) (hn:∀ k,k<ops.length→Vy ops qf k i=false):
  ∃ m,m≤ops.length∧(∀ j,j<ops.length→JI P ops qf j = .lo→(L listed j↔j<m))∧(m=ops.length∨JI P ops qf m = .lo)∧R P μ (D.Sf m) w∧i≤m∧(∀ k,i≤k→k<m→JI P ops qf k ≠ .lo)∧(JI P ops qf i = .lo→m=i):=by
 obtain ⟨m,hm,hlo,hml,hR⟩:=h.mem
 have him:i≤m:=by
  apply Classical.byContradiction
  intro hlt
  have hmn:m<ops.length:=by have:=hr.lt; omega
  have hcm:JI P ops qf m = .lo:=hml.resolve_left (by omega)
  have hord:=hd.Ais hmn hr.lt (by omega) hcm hc hn
  have hord':ordered (RN ops []) i m=true:=by unfold ordered at hord ⊢; rw[Bool.or_comm]; exact hord
  have:=(hr.ord m (by omega) hord').2 (by omega)
  have:=(hlo m hmn hcm).1 this
  omega
 have hbt:∀ k,i≤k→k<m→JI P ops qf k ≠ .lo:=by
  intro k hk1 hk2 hck
  have hl:=(hlo k (by omega) hck).2 hk2
  by_cases hki:k=i
  ·subst hki; exact hr.un hl
  ·have hord:=hd.Ais (by omega) hr.lt hki hck hc hn
   have hord':ordered (RN ops []) i k=true:=by unfold ordered at hord ⊢; rw[Bool.or_comm]; exact hord
   have:=(hr.ord k hki hord').1 hl
   omega
 refine ⟨m,hm,hlo,hml,hR,him,hbt,fun hci=>?_⟩
 apply Classical.byContradiction
 intro hne
 exact hbt i (Nat.le_refl _) (by omega) hci
theorem Tt.run {D:Data P qf ops E0 σ0 E' σ'} (hd:Tq P ops qf) (h:Tt D hi μ0 w0 listed μ w) (hr:nA P qf ops listed i) (hc:JI P ops qf i ≠ .pure) (hnf:∀ k,k<ops.length→Vy ops qf k i=false):
  R P μ (D.Sf i) w ∧ ∀ (μ':Mu) (w':World),Step μ (D.Sf i) w μ' (D.Sf (i+1)) w'→R P μ' (D.Sf (i+1)) w'→Tt D hi μ0 w0 (listed.setIfInBounds i true) μ' w':=by
 have hset:∀ j,L (listed.setIfInBounds i true) j↔j=i∨L listed j:=fun j=>yp (by rw[hr.size]; exact hr.lt)
 obtain ⟨m,hm,hlo,hml,hR,him,hbt,hmi⟩:=h.at hd hr hc hnf
 have hpre:D.Sf i <+: D.Sf m:=D.chain m him hm hbt
 refine ⟨hR.pre hpre,fun μ' w' hS hR'=>?_⟩
 have hfi:=h.fresh i hr.lt hr.un
 have hlt:=hr.lt
 have hl0:(D.Sf 0).length≤(D.Sf i).length:=D.Lh i (Nat.zero_le _) (by omega)
 have hln:(D.Sf (i+1)).length≤(D.Sf ops.length).length:=D.Lh ops.length hlt (Nat.le_refl _)
 have hli:(D.Sf i).length≤(D.Sf ops.length).length:=D.Lh ops.length (by omega) (Nat.le_refl _)
 have hw0:∀ k,k≤i → ∀ x,x<(D.Sf 0).length→Ay (D.Sf k) x→Ay (D.Sf 0) x:=by
  intro k
  induction k with
  | zero=>intro _ x _ hw; exact hw
  | succ k ih=>
    intro hk x hx hw
    have hxk:x<(D.Sf k).length:=Nat.lt_of_lt_of_le hx (D.Lh k (Nat.zero_le _) (by omega))
    refine ih (by omega) x hx ?_
    by_cases hck:JI P ops qf k = .lo
    ·have hord:=hd.Ais (by omega) hlt (by omega) hck hc hnf
     have hord':ordered (RN ops []) i k=true:=by unfold ordered at hord ⊢; rw[Bool.or_comm]; exact hord
     exact h.wr k (by omega) ((hr.ord k (by omega) hord').2 (by omega)) x hxk hw
    ·rwa [mH (D.quiet (by omega) hck) hxk] at hw
 have hnew:∀ x k,(D.Sf 0).length≤x→x<(D.Sf ops.length).length→μ' x=some k→w0.heap.size≤k.b ∨ ∃ h0 k0,h0<(D.Sf 0).length∧μ0 h0=some k0∧k0.b=k.b∧Ay (D.Sf 0) h0:=by
  intro x k hx1 hx2 hk
  by_cases hxi:x<(D.Sf i).length∨(D.Sf (i+1)).length≤x
  ·rw[hS.mu x hxi] at hk
   exact h.new x k hx1 hx2 hk
  ·rcases hS.new x k (by omega) (by omega) hk with hb | ⟨h0,k0,g1,g2,g3,g4⟩
   ·exact .inl (Nat.le_trans h.size hb)
   ·by_cases h00:h0<(D.Sf 0).length
    ·rw[h.mu h0 (.inl h00)] at g2
     exact .inr ⟨h0,k0,h00,g2,g3,hw0 i (Nat.le_refl _) h0 h00 g4⟩
    ·rcases h.new h0 k0 (by omega) (by omega) g2 with hb | ⟨h1,k1,q1,q2,q3,q4⟩
     ·exact .inl (by omega)
     ·exact .inr ⟨h1,k1,q1,q2,q3.trans g3,q4⟩
 refine ⟨?_, ?_, ?_,hnew, ?_,Nat.le_trans h.size hS.size,hS.tape.trans h.tape,hS.os.trans h.os,hS.output.trans h.output, ?_⟩
 ·
  by_cases hci:JI P ops qf i = .lo
  ·have:=hmi hci
   subst this
   obtain ⟨m',h1,h2,h3,h4⟩:=mQ P qf ops (ops.length-(m+1)) (m+1) (by omega)
   refine ⟨m',h2, ?_,h4, ?_⟩
   ·intro j hj hcj
    rw[hset]
    by_cases hjm:j=m
    ·subst hjm; simp; omega
    ·have:=hlo j hj hcj
     constructor
     ·rintro (h | h)
      ·exact absurd h hjm
      ·have:=this.1 h; omega
     ·intro hlt'
      right
      apply this.2
      apply Classical.byContradiction
      intro hge
      exact h3 j (by omega) hlt' hcj
   ·have hp:=D.chain (i:=m+1) m' h1 h2 h3
    refine hR'.extend hp (bZ D m' h1 h2 fun k hk1 hk2=>?_)
    by_cases hkp:JI P ops qf k = .pure
    ·have hcl:=jJ (P:=P) (qf:=qf) (List.getElem?_eq_getElem (show k<ops.length by omega)) hkp
     rcases (D.step k _ (List.getElem?_eq_getElem (show k<ops.length by omega))).2 with ⟨_,_,_,hf⟩ | ⟨_,_,hsk⟩
     ·rw[(hf.pure hcl).1]; intro x a b; omega
     ·rw[hsk]; intro x a b; omega
    ·rcases hd.mem m k hlt (by omega) (by omega) hci hkp with hord | hfar
     ·have hun:¬ L listed k:=fun hl=>by
       have:=(hr.ord k (by omega) hord).1 hl
       omega
      intro x a b
      have hge:(D.Sf (m+1)).length≤(D.Sf k).length:=D.Lh k hk1 (by omega)
      rw[hS.mu x (.inr (by omega))]
      exact h.fresh k (by omega) hun x a b
     ·obtain ⟨o,T,a,ho,hop⟩:=iz hfar
      rw[D.kg ho hop]; intro x a b; omega
  ·have hne:i≠m:=by
    rintro rfl
    rcases hml with h | h
    ·omega
    ·exact hci h
   have hp1:D.Sf (i+1) <+: D.Sf m:=D.chain m (by omega) hm fun k h1 h2=>hbt k (by omega) h2
   refine ⟨m,hm, ?_,hml,hR.merge (D.quiet hlt hci) hp1 hS hR' hfi⟩
   intro j hj hcj
   rw[hset]
   have hji:j≠i:=by rintro rfl; exact hci hcj
   simp only[hji,false_or]
   exact hlo j hj hcj
 ·intro j hj hl x a b
  have hji:j≠i:=fun e=>hl ((hset j).2 (.inl e))
  have hfj:=h.fresh j hj (fun hl'=>hl ((hset j).2 (.inr hl'))) x a b
  rcases Nat.lt_or_ge j i with hlt' | hge
  ·have:(D.Sf (j+1)).length≤(D.Sf i).length:=D.Lh i hlt' (by omega)
   rw[hS.mu x (.inl (by omega))]; exact hfj
  ·have:(D.Sf (i+1)).length≤(D.Sf j).length:=D.Lh j (by omega) (by omega)
   rw[hS.mu x (.inr (by omega))]; exact hfj
 ·intro x hx
  rw[hS.mu x (by omega)]
  exact h.mu x hx
 ·intro j hj hl x hx hw
  by_cases hji:j=i
  ·subst hji; exact hS.wr x hx hw
  ·exact h.wr j hj (((hset j).1 hl).resolve_left hji) x hx hw
 ·intro b hb hn
  rw[hS.frame b (Nat.lt_of_lt_of_le hb h.size) ?_,h.frame b hb hn]
  intro x k hx hk hkb hw
  by_cases hx0:x<(D.Sf 0).length
  ·rw[h.mu x (.inl hx0)] at hk
   exact hn x k hx0 hk hkb (hw0 i (Nat.le_refl _) x hx0 hw)
  ·rcases h.new x k (by omega) (by omega) hk with hb' | ⟨h1,k1,q1,q2,q3,q4⟩
   ·omega
   ·exact hn h1 k1 q1 q2 (q3.trans hkb) q4
theorem kr (D:Data P qf ops E0 σ0 E' σ'):∀ (n a j:Nat) {t:Nat} {ad:Addr},j≤ops.length→lM ops n a j=some t→(D.Ef j).getD a none=some (.pointer (some ad)) →
  ∃ b,E0.getD t none=some (.pointer (some b))∧b.block=ad.block ∧ ∀ k,k≤ops.length→(D.Ef k).getD t none=E0.getD t none
 | 0,a,j,t,ad,hj,h,hv=>by cases h
 | n+1,a,j,t,ad,hj,h,hv=>by
   simp only[lM] at h
   split at h
   ·rename_i hnil
    cases h
    have hno:∀ (k:Nat) (o:Oper),ops[k]?=some o→o.dst≠some a:=by
     intro k o hk hd
     have:(o,k) ∈ ops.zipIdx.filter fun p=>p.1.dst == some a:=List.mem_filter.2 ⟨mem_zipIdx hk,by simp[hd]⟩
     rw[hnil] at this; cases this
    have hsame:∀ k,k≤ops.length→(D.Ef k).getD a none=E0.getD a none:=fun k hk=>by
     rw[D.dp (i:=0) k (Nat.zero_le _) hk fun x o _ _ hx=>hno x o hx,D.e0]
    exact ⟨ad,by rw[← hsame j hj]; exact hv,rfl,hsame⟩
   ·rename_i p hp
    cases hlt:Nat.blt p.2 j with
    | false=>rw[hlt] at h; cases h
    | true=>
      rw[hlt,cond_true] at h
      have hlt:p.2<j:=by simpa [Nat.blt_eq] using hlt
      have hmem:p ∈ ops.zipIdx.filter fun p=>p.1.dst == some a:=by rw[hp]; simp
      obtain ⟨hm1,hm2⟩:=List.mem_filter.1 hmem
      have hpo:ops[p.2]?=some p.1:=List.mem_zipIdx_iff_getElem?.1 hm1
      have hpd:p.1.dst=some a:=by simpa using hm2
      have hone:∀ (k:Nat) (o:Oper),p.2+1≤k→k<j→ops[k]?=some o→o.dst≠some a:=by
       intro k o h1 h2 hk hd
       have:(o,k) ∈ ops.zipIdx.filter fun p=>p.1.dst == some a:=List.mem_filter.2 ⟨mem_zipIdx hk,by simp[hd]⟩
       rw[hp] at this
       have:=List.mem_singleton.1 this
       rw[← this] at h1
       simp only at h1
       omega
      obtain ⟨hE,hst⟩:=D.step p.2 p.1 hpo
      rw[D.dp (i:=p.2+1) j (by omega) hj hone,hE,hpd] at hv
      simp only[MW,Mq] at hv
      have hV:D.V p.2 = .pointer (some ad):=by
       split at hv
       ·exact Option.some.inj hv
       ·rename_i hc
        have:a<(D.Ef p.2).length:=by
         rcases Nat.lt_or_ge a (D.Ef p.2).length with h | h
         ·exact h
         ·rw[List.getD_eq_getElem?_getD,List.getElem?_eq_none h] at hv; cases hv
        exact absurd (by simp[this]) hc
      have mv:∀ b,(p.1.op = .move (.tmp b)∨p.1.op = .nilCheck (.tmp b))→lM ops n b p.2=some t → ∃ b,E0.getD t none=some (.pointer (some b))∧b.block=ad.block ∧ ∀ k,k≤ops.length→(D.Ef k).getD t none=E0.getD t none:=by
       intro b hop h
       rcases hst with ⟨regs,hw,_,hf⟩ | ⟨_,hu,_⟩
       ·have h1:=hf.more.mv (.tmp b) hop
        rw[hV] at h1
        exact kr D n b p.2 (by omega) h (hw b _ (RX h1).2)
       ·rw[hV] at hu; cases hu
      split at h
      ·rename_i T b f hop
       rcases hst with ⟨regs,hw,_,hf⟩ | ⟨_,hu,_⟩
       ·obtain ⟨a0,a',h1,h2,h3⟩:=hf.more.fa T (.tmp b) f hop
        rw[hV] at h2
        cases h2
        obtain ⟨b',g1,g2,g3⟩:=kr D n b p.2 (by omega) h (hw b _ (RX h1).2)
        exact ⟨b',g1,g2.trans h3.symm,g3⟩
       ·rw[hV] at hu; cases hu
      ·rename_i b hop
       exact mv b (.inl hop) h
      ·rename_i b hop
       exact mv b (.inr hop) h
      ·cases h
   ·cases h
def only (h:Nat) (σ:Aa):Aa:=σ.mapIdx fun x o=>if x=h then o else .dead
theorem R.only {μ:Mu} {σ:Aa} {w:World} (hR:R P μ σ w) (h:Nat):R P μ (only h σ) w:=by
 have get:∀ x o,(AX.only h σ)[x]?=some o→(x=h∧σ[x]?=some o)∨o = .dead:=by
  intro x o ho
  unfold AX.only at ho
  rw[List.getElem?_mapIdx] at ho
  cases hq:σ[x]? with
  | none=>rw[hq] at ho; cases ho
  | some y=>
    rw[hq] at ho
    simp only[Option.map_some,Option.some.injEq] at ho
    by_cases hx:x=h
    ·rw[if_pos hx] at ho; exact .inl ⟨hx,by rw[ho]⟩
    ·rw[if_neg hx] at ho; exact .inr ho.symm
 refine ⟨?_,hR.lt, ?_⟩
 ·intro x o k ho hk
  rcases get x o ho with ⟨_,h2⟩ | rfl
  ·exact hR.obj x o k h2 hk
  ·trivial
 ·intro a b ka kb h1 h2 h3 h4 h6 h5
  obtain ⟨o,ho,hd⟩:=h3
  obtain ⟨o2,ho2,hd2⟩:=h4
  rcases get a o ho with ⟨e1,_⟩ | e
  ·rcases get b o2 ho2 with ⟨e2,_⟩ | e
   ·rw[e1,e2]
   ·exact absurd e hd2
  ·exact absurd e hd
theorem rW (D:Data P qf ops E0 σ0 E' σ') {k i:Nat} (h:Ad3 ops k i=true):i<k ∧ ∀ b,b<(D.Sf i).length→(D.Sf (k+1))[b]?=(D.Sf k)[b]?:=by
 unfold Ad3 at h
 split at h
 rotate_left
 ·cases h
 rename_i o ho
 have hkl:k<ops.length:=(List.getElem?_eq_some_iff.1 ho).1
 split at h
 rotate_left
 ·cases h
 rename_i T a y hop
 split at h
 rotate_left
 ·cases h
 rename_i p hp
 simp only[Bool.and_eq_true,Nat.blt_eq] at h
 obtain ⟨⟨hal,hjp⟩,hpk⟩:=h
 unfold Aj2 at hal
 split at hal
 rotate_left
 ·cases hal
 rename_i T' hpop
 have hmem:p ∈ ops.zipIdx.filter fun p=>p.1.dst == some a:=by rw[hp]; simp
 obtain ⟨hm1,hm2⟩:=List.mem_filter.1 hmem
 have hpo:ops[p.2]?=some p.1:=List.mem_zipIdx_iff_getElem?.1 hm1
 have hpd:p.1.dst=some a:=by simpa using hm2
 have hone:∀ (x:Nat) (o:Oper),p.2+1≤x→x<k→ops[x]?=some o→o.dst≠some a:=by
  intro x o h1 h2 hk hd
  have:(o,x) ∈ ops.zipIdx.filter fun p=>p.1.dst == some a:=List.mem_filter.2 ⟨mem_zipIdx hk,by simp[hd]⟩
  rw[hp] at this
  have:=List.mem_singleton.1 this
  rw[← this] at h1
  simp only at h1
  omega
 refine ⟨by omega,fun b hb=>?_⟩
 rcases (D.step k o ho).2 with ⟨regs,hw,_,hf⟩ | ⟨_,_,hs⟩
 rotate_left
 ·rw[hs]
 obtain ⟨ad,h1,h2⟩:=hf.more.st T (.tmp a) y hop
 have hv:(D.Ef k).getD a none=some (.pointer (some ad)):=hw a _ (RX h1).2
 obtain ⟨hE,hst⟩:=D.step p.2 p.1 hpo
 rw[D.dp (i:=p.2+1) k (by omega) (by omega) hone,hE,hpd] at hv
 simp only[MW,Mq] at hv
 have hV:D.V p.2 = .pointer (some ad):=by
  split at hv
  ·exact Option.some.inj hv
  ·rename_i hc
   have:a<(D.Ef p.2).length:=by
    rcases Nat.lt_or_ge a (D.Ef p.2).length with h | h
    ·exact h
    ·rw[List.getD_eq_getElem?_getD,List.getElem?_eq_none h] at hv; cases hv
   exact absurd (by simp[this]) hc
 rcases hst with ⟨regs,hw,_,hf2⟩ | ⟨_,hu,_⟩
 ·obtain ⟨a',g1,g2⟩:=hf2.more.al T' hpop
  rw[hV] at g1
  cases g1
  refine h2 b ?_
  have:=D.Lh (i:=i) p.2 (by omega) (by omega)
  omega
 ·rw[hV] at hu; cases hu
theorem Tt.far {D:Data P qf ops E0 σ0 E' σ'} (hd:Tq P ops qf) (h:Tt D hi μ0 w0 listed μ w) (hr:nA P qf ops listed i) {o:Oper} {T:TypeId} {a:Nat} (ho:ops[i]?=some o) (hop:o.op = .load T (.tmp a)) {regs:AZ} (hw:Nr (D.Ef i) regs)
  (hf:mJ P o (qf i).1 (fh o (tm regs)) (D.Sf i) (D.V i) (D.Sf (i+1))) (hlive:∀ t b,E0.getD t none=some (.pointer (some b))→b.block<σ0.length∨(D.Sf ops.length).length≤b.block):
  ∃ σ2,R P μ σ2 w∧mZ P o (fh o (tm regs)) σ2 (D.V i):=by
 obtain ⟨ad,hx,hat⟩:=hf.more.load T (.tmp a) hop
 have hlt:=hr.lt
 obtain ⟨m,hm,hlo,hml,hR⟩:=h.mem
 cases hq:(D.Sf i)[ad.block]? with
 | none=>exact ⟨[],hR.pre List.nil_prefix,hat [] (by rw[hq]; simp)⟩
 | some x=>
   have hlti:ad.block<(D.Sf i).length:=(List.getElem?_eq_some_iff.1 hq).1
   have ici:JI P ops qf i ≠ .lo:=by rw[(iM (P:=P) (qf:=qf) ho hop).1]; simp
   have loose_:∀ k,k<ops.length→k≠i→JI P ops qf k = .lo→(L listed k↔¬ k<i)→Vy ops qf k i=true:=by
    intro k hk hki hck hl
    rcases hd.mem k i hk hlt hki hck (by rw[(iM (P:=P) (qf:=qf) ho hop).1]; simp) with hord | hfar
    ·have hord':ordered (RN ops []) i k=true:=by unfold ordered at hord ⊢; rw[Bool.or_comm]; exact hord
     have:=hr.ord k hki hord'
     have h2:=this.symm.trans hl
     by_cases hc:k<i
     ·exact absurd hc (h2.1 hc)
     ·exact absurd (h2.2 hc) hc
    ·exact hfar
   have Rl:∀ k,Af2 ops qf k i=true → ∃ t b,t ∈ (qf k).2∧E0.getD t none=some (.pointer (some b))∧b.block=ad.block∧(∀ k,k≤ops.length→(D.Ef k).getD t none=E0.getD t none)∧ad.block<(D.Sf 0).length:=by
    intro k hk
    obtain ⟨t,o',T',a',ho',hop',hb',hroot,hc⟩:=Adc hk
    rw[ho] at ho'
    cases ho'
    rw[hop] at hop'
    cases hop'
    obtain ⟨b,hb1,hb2,hb3⟩:=kr D 8 a i (by omega) hroot (hw a _ (RX hx).2)
    refine ⟨t,b,hc,hb1,hb2,hb3, ?_⟩
    rw[D.s0]
    rcases hlive t b hb1 with hh | hh
    ·rw[← hb2]; exact hh
    ·have:=D.Lh (i:=i) ops.length (by omega) (Nat.le_refl _)
     omega
   have stepk:∀ k,k<ops.length→ad.block<(D.Sf k).length→(JI P ops qf k ≠ .lo∨Vy ops qf k i=true)→(D.Sf (k+1))[ad.block]?=(D.Sf k)[ad.block]?:=by
    intro k hk hlk hh
    rcases hh with hh | hh
    ·obtain ⟨τ,hτ⟩:=D.quiet hk hh
     rw[← hτ,List.getElem?_append_left hlk]
    ·unfold Vy at hh
     rw[Bool.or_eq_true,Bool.and_eq_true] at hh
     rcases hh with hh | ⟨_,hh⟩
     ·obtain ⟨t,b,htk,hb1,hb2,hb3,_⟩:=Rl k hh
      rcases D.GJ k _ (List.getElem?_eq_getElem hk) with hkp | hkp
      ·obtain ⟨p,h1,h2⟩:=hkp t htk
       rw[hb3 k (by omega),hb1] at h1
       cases h1
       rw[← hb2]; exact h2 b rfl
      ·rw[hkp]
     ·exact (rW D hh).2 _ hlti
   have same:(D.Sf m)[ad.block]?=(D.Sf i)[ad.block]?:=by
    rcases Nat.lt_or_ge m i with hmi | him
    ·have hml':JI P ops qf m = .lo:=hml.resolve_left (by omega)
     have hmf:Vy ops qf m i=true:=loose_ m (by omega) (by omega) hml' ⟨fun hl=>by have:=(hlo m (by omega) hml').1 hl; omega,fun hn=>by omega⟩
     have h0:ad.block<(D.Sf 0).length:=by
      unfold Vy at hmf
      rw[Bool.or_eq_true,Bool.and_eq_true] at hmf
      rcases hmf with hh | ⟨_,hh⟩
      ·obtain ⟨_,_,_,_,_,_,hh⟩:=Rl m hh
       exact hh
      ·have:=(rW D hh).1; omega
     have:∀ m',m≤m'→m'≤i→(D.Sf m')[ad.block]?=(D.Sf m)[ad.block]?:=by
      intro m' h1
      induction h1 with
      | refl=>intro _; rfl
      | @step k hk ih=>
        intro h2
        rw[stepk k (by omega) (Nat.lt_of_lt_of_le h0 (D.Lh k (Nat.zero_le _) (by omega))) ?_,ih (by omega)]
        by_cases hck:JI P ops qf k = .lo
        ·have hki:k≠i:=by omega
         have hkm:=hlo k (by omega) hck
         have hk':m≤k:=hk
         exact .inr (loose_ k (by omega) hki hck ⟨fun hl=>by have:=hkm.1 hl; omega,fun hn=>by omega⟩)
        ·exact .inl hck
     exact (this i (by omega) (Nat.le_refl _)).symm
    ·have:∀ m',i≤m'→m'≤m→(D.Sf m')[ad.block]?=(D.Sf i)[ad.block]?:=by
      intro m' h1
      induction h1 with
      | refl=>intro _; rfl
      | @step k hk ih=>
        intro h2
        have hk':i≤k:=hk
        rw[stepk k (by omega) (Nat.lt_of_lt_of_le hlti (D.Lh k hk' (by omega))) ?_,ih (by omega)]
        by_cases hck:JI P ops qf k = .lo
        ·have hki:k≠i:=by rintro rfl; exact ici hck
         have hkm:=hlo k (by omega) hck
         exact .inr (loose_ k (by omega) hki hck ⟨fun _=>by omega,fun _=>hkm.2 (by omega)⟩)
        ·exact .inl hck
     exact this m him (Nat.le_refl _)
   refine ⟨AX.only ad.block (D.Sf m),hR.only _,hat _ ?_⟩
   unfold AX.only
   rw[List.getElem?_mapIdx,same,hq]
   simp
def jz (D:Data P qf ops E0 σ0 E' σ') (listed:Array Bool) (μ:Mu) (tmps:Array Value):Prop:=
 ∀ t,∃ m,m≤ops.length∧(∀ j o,ops[j]?=some o→o.dst=some t→(L listed j↔j<m)) ∧ ∀ v,(D.Ef m).getD t none=some v → ∃ v',tmps[t]?=some v'∧RV μ v v'
theorem jz.at {D:Data P qf ops E0 σ0 E' σ'} (hd:Tq P ops qf) {tmps:Array Value} (h:jz D listed μ tmps) (hr:nA P qf ops listed i) {o:Oper} (ho:ops[i]?=some o) {t:Nat} (ht:t ∈ xz ops o∨o.dst=some t):
  ∀ v,(D.Ef i).getD t none=some v → ∃ v',tmps[t]?=some v'∧RV μ v v':=by
 obtain ⟨m,hm,hw,hv⟩:=h t
 have hlt:=hr.lt
 have key:∀ j oj,ops[j]?=some oj→oj.dst=some t→(L listed j↔j<i):=by
  intro j oj hj hdj
  by_cases hji:j=i
  ·subst hji
   constructor
   ·intro hl; exact absurd hl hr.un
   ·intro hl; omega
  ·have hord:=hd.reg j i oj o t hj ho hji hdj ht
   have hord':ordered (RN ops []) i j=true:=by unfold ordered at hord ⊢; rw[Bool.or_comm]; exact hord
   exact hr.ord j hji hord'
 have same:(D.Ef m).getD t none=(D.Ef i).getD t none:=by
  rcases Nat.le_total i m with him | hmi
  ·refine D.dp m him hm fun k ok h1 h2 hk hdk=>?_
   have a:=(hw k ok hk hdk).2 h2
   have:=(key k ok hk hdk).1 a
   omega
  ·refine (D.dp i hmi (by omega) fun k ok h1 h2 hk hdk=>?_).symm
   have a:=(key k ok hk hdk).2 h2
   have:=(hw k ok hk hdk).1 a
   omega
 rw[← same]; exact hv
theorem jz.put {D:Data P qf ops E0 σ0 E' σ'} (hd:Tq P ops qf) {a:Act} (h:jz D listed μ a.tmps) (hr:nA P qf ops listed i) {o:Oper} (ho:ops[i]?=some o) (hsz:E0.length≤a.tmps.size) {μ':Mu} (hle:μ.le μ') {v':Value} (hv:RV μ' (D.V i) v'):
  jz D (listed.setIfInBounds i true) μ' (a.put o.dst v').tmps:=by
 have hset:∀ j,L (listed.setIfInBounds i true) j↔j=i∨L listed j:=fun j=>yp (by rw[hr.size]; exact hr.lt)
 have hlt:=hr.lt
 intro t
 by_cases hdt:o.dst=some t
 ·refine ⟨i+1,by omega, ?_, ?_⟩
  ·intro j oj hj hdj
   rw[hset]
   by_cases hji:j=i
   ·subst hji; simp
   ·have hord:=hd.reg j i oj o t hj ho hji hdj (.inr hdt)
    have hord':ordered (RN ops []) i j=true:=by unfold ordered at hord ⊢; rw[Bool.or_comm]; exact hord
    have:=hr.ord j hji hord'
    simp only[hji,false_or]
    rw[this]; omega
  ·intro v hvv
   rw[(D.step i o ho).1,hdt] at hvv
   simp only[MW,Mq] at hvv
   simp only[hdt,Act.put,Array.getElem?_setIfInBounds,if_true]
   split at hvv
   ·rename_i hc
    cases hvv
    have:t<a.tmps.size:=by
     have:=D.xc i (by omega)
     omega
    rw[if_pos this]
    exact ⟨v',rfl,hv⟩
   ·rename_i hc
    have:t<(D.Ef i).length:=by
     rcases Nat.lt_or_ge t (D.Ef i).length with h | h
     ·exact h
     ·rw[List.getD_eq_getElem?_getD,List.getElem?_eq_none h] at hvv; cases hvv
    exact absurd ⟨trivial,this⟩ hc
 ·obtain ⟨m,hm,hw,hvm⟩:=h t
  refine ⟨m,hm, ?_, ?_⟩
  ·intro j oj hj hdj
   rw[hset]
   have hji:j≠i:=by
    rintro rfl
    rw[ho] at hj; cases hj; exact hdt hdj
   simp only[hji,false_or]
   exact hw j oj hj hdj
  ·intro v hvv
   obtain ⟨u,hu1,hu2⟩:=hvm v hvv
   exact ⟨u,by rw[Sw hdt]; exact hu1,hu2.mono hle⟩
end
end Go.AX
end
section
namespace Go.AX
open Go
variable {ρ:Type} {P:Program} [AA]
theorem count_set {l:List Bool} {i:Nat} (h:l[i]?=some false):(l.set i true).count false+1=l.count false:=by
 induction l generalizing i with
 | nil=>simp at h
 | cons b l ih=>
   cases i with
   | zero=>simp at h; subst h; simp
   | succ i=>
     simp at h
     have:=ih h
     cases b <;> simp[List.count_cons] <;> omega
theorem zW {l:List Bool} {n:Nat} (h:l.count false=n+1):∃ i:Nat,l[i]?=some false ∧ ∀ j:Nat,j<i→l[j]?=some true:=by
 induction l generalizing n with
 | nil=>simp at h
 | cons b l ih=>
   cases b with
   | false=>exact ⟨0,rfl,fun j hj=>by omega⟩
   | true=>
     simp at h
     obtain ⟨i,h1,h2⟩:=ih h
     refine ⟨i+1,by simpa using h1,fun j hj=>?_⟩
     cases j with
     | zero=>rfl
     | succ j=>simpa using h2 j (by omega)
section
variable {qf:Nat→QF} {all:Array Oper} {E0 E':AZ} {σ0 σ':Aa} {hi:Nat} {μ0:Mu} {w0:World}
theorem yd {ro:Option Nat} {nn:Nat} {Q:Exit→Act→World→Prop} (D:Data P qf all.toList E0 σ0 E' σ') (hd:Tq P all.toList qf) (a0:Act)
  (hQ:∀ (a':Act) (μ':Mu) (w':World),R P μ' σ' w'→Step μ0 σ0 w0 μ' σ' w'→OC μ' E' a'.tmps→a'.defers=a0.defers→a'.tmps.size=a0.tmps.size→(∀ t,(∀ o ∈ all.toList,o.dst≠some t)→a'.tmps[t]?=a0.tmps[t]?)→Q .normal a' w')
  (hE:E0.length≤a0.tmps.size) (hlive:∀ t b,E0.getD t none=some (.pointer (some b))→b.block<σ0.length∨(D.Sf all.toList.length).length≤b.block):
  ∀ (fuel:Nat) (listed:Array Bool) (a:Act) (μ:Mu) (w:World),listed.size=all.toList.length→listed.toList.count false=fuel →
   (∀ i o,all.toList[i]?=some o→L listed i → ∀ e ∈ o.after.toList,Region.binds .any e=true→L listed e.on) →
   Tt D hi μ0 w0 listed μ w→jz D listed μ a.tmps→a.defers=a0.defers→a.tmps.size=a0.tmps.size→(∀ t,(∀ o ∈ all.toList,o.dst≠some t)→a.tmps[t]?=a0.tmps[t]?) →
   wpAnyIn (FW ro) nn P .any all Q fuel listed a w:=by
 intro fuel
 induction fuel with
 | zero=>
   intro listed a μ w hsz hcount hdown hM hReg hdef hasz hoth
   have hallL:∀ j,j<all.toList.length→L listed j:=by
    intro j hj
    have hj':j<listed.toList.length:=by simp only[Array.length_toList] at hsz hj ⊢; omega
    have hne:listed.toList[j]≠false:=by
     intro he
     have:0<listed.toList.count false:=List.count_pos_iff.2 (he ▸ List.getElem_mem hj')
     omega
    have:listed.toList[j]=true:=by cases h:listed.toList[j] <;> simp_all
    unfold L
    have hj2:j<listed.size:=by simpa using hj'
    simp only[Array.getElem_toList] at this
    simp[hj2,this]
   refine ⟨?_, ?_⟩
   ·cases hr:Region.ready .any all listed with
    | nil=>rfl
    | cons x xs=>
      have:x ∈ Region.ready .any all listed:=by rw[hr]; simp
      obtain ⟨h1,o,ho,_⟩:=mem_ready.1 this
      have hx:x<all.toList.length:=by simpa using (Array.getElem?_eq_some_iff.1 ho).1
      have:=hallL x hx
      unfold L at this
      have hx2:x<listed.size:=by omega
      simp[hx2] at h1 this
      rw[h1] at this; cases this
   ·obtain ⟨m,hm,hlo,hml,hR⟩:=hM.mem
    have hmn:m=all.toList.length:=by
     rcases hml with h | h
     ·exact h
     ·by_cases hlt:m<all.toList.length
      ·have:=(hlo m hlt h).1 (hallL m hlt); omega
      ·omega
    subst hmn
    rw[D.sn] at hR
    refine hQ a μ w hR ?_ ?_ hdef hasz hoth
    ·have g1:=hM.mu
     have g2:=hM.new
     have g3:=hM.frame
     have g4:=D.Lh (i:=0) all.toList.length (Nat.zero_le _) (Nat.le_refl _)
     have g5:∀ h,h<(D.Sf 0).length→Ay (D.Sf all.toList.length) h→Ay (D.Sf 0) h:=by
      intro h hh
      have:∀ k,k≤all.toList.length→Ay (D.Sf k) h→Ay (D.Sf 0) h:=by
       intro k
       induction k with
       | zero=>intro _ hw; exact hw
       | succ k ih=>
         intro hk hw
         exact ih (by omega) (hM.wr k (by omega) (hallL k (by omega)) h (Nat.lt_of_lt_of_le hh (D.Lh k (Nat.zero_le _) (by omega))) hw)
      exact this _ (Nat.le_refl _)
     rw[D.s0,D.sn] at g1 g2 g4 g5
     rw[D.s0] at g3
     exact ⟨g4,g1,g5,g2,hM.size,hM.tape,hM.os,hM.output,g3⟩
    ·refine ⟨by rw[← D.en,D.xc _ (Nat.le_refl _),hasz]; exact hE,fun t v hv=>?_⟩
     obtain ⟨m',hm',hw,hvm⟩:=hReg t
     rw[← D.en] at hv
     refine hvm v ?_
     rw[← D.dp _ hm' (Nat.le_refl _) fun k o h1 h2 hk hdk=>?_]
     ·exact hv
     ·have:=(hw k o hk hdk).1 (hallL k h2); omega
 | succ fuel ih=>
   intro listed a μ w hsz hcount hdown hM hReg hdef hasz hoth
   refine ⟨?_, ?_⟩
   ·
    intro hnil
    obtain ⟨i,h1,h2⟩:=zW hcount
    have hil:i<listed.toList.length:=(List.getElem?_eq_some_iff.1 h1).1
    have hi':i<all.toList.length:=by simp only[Array.length_toList] at hil hsz ⊢; omega
    have:i ∈ Region.ready .any all listed:=by
     rw[mem_ready]
     have hi2:i<listed.size:=by simpa using hil
     have h1':listed[i]?=some false:=by simpa using h1
     refine ⟨by simp[h1'],all.toList[i],by simp,fun e he hb=>?_⟩
     have hlt:=hd.down i _ (List.getElem?_eq_getElem hi') e (by simpa using he) hb
     have h2':listed[e.on]?=some true:=by simpa using h2 e.on hlt
     simp[h2']
    rw[hnil] at this
    cases this
   ·intro i hir
    obtain ⟨hun,o,ho,hedges⟩:=mem_ready.1 hir
    have hol:all.toList[i]?=some o:=by simpa using ho
    have hlt:i<all.toList.length:=(List.getElem?_eq_some_iff.1 hol).1
    have hunL:¬ L listed i:=by
     unfold L
     have hi2:i<listed.size:=by omega
     simp[hi2] at hun ⊢
     exact hun
    have hedgesL:∀ e ∈ o.after.toList,Region.binds .any e=true→L listed e.on:=fun e he hb=>hedges e (by simpa using he) hb
    have hready:nA P qf all.toList listed i:=by
     refine ⟨hlt,hsz,hunL,fun j hji hord=>?_⟩
     unfold ordered at hord
     rw[Bool.or_eq_true] at hord
     rcases hord with hord | hord
     ·have h1:=nY (S:=L listed) hdown i hol hedgesL hord
      have h2:=Acy hd.down i hord
      exact ⟨fun _=>h2,fun _=>h1⟩
     ·have h2:=Acy hd.down j hord
      refine ⟨fun hl=>?_,fun hl=>by omega⟩
      obtain ⟨oj,hoj⟩:=nZ hord
      exact absurd (nY (S:=L listed) hdown j hoj (hdown j oj hoj hl) hord) hunL
    have hset:∀ j,L (listed.setIfInBounds i true) j↔j=i∨L listed j:=fun j=>yp (by omega)
    have hE2:E0.length≤a.tmps.size:=by omega
    have next:∀ (v':Value) (μ':Mu) (w':World),RV μ' (D.V i) v'→μ.le μ'→Tt D hi μ0 w0 (listed.setIfInBounds i true) μ' w'→wpAnyIn (FW ro) nn P .any all Q fuel (listed.setIfInBounds i true) (a.put o.dst v') w':=by
     intro v' μ' w' hv hle hM'
     refine ih _ _ μ' w' (by simpa using hsz) ?_ ?_ hM' (hReg.put hd hready hol hE2 hle hv) (by rw[← hdef]; cases o.dst <;> rfl) (by rw[iS,hasz]) ?_
     ·have hi2:i<listed.size:=by omega
      have h1:listed.toList[i]?=some false:=by
       simp[hi2] at hun ⊢; exact hun
      have:=count_set h1
      rw[Array.toList_setIfInBounds]; omega
     ·intro j oj hj hl e he hb
      rw[hset] at hl ⊢
      rcases hl with rfl | hl
      ·rw[hol] at hj; cases hj
       exact .inr (hedgesL e he hb)
      ·exact .inr (hdown j oj hj hl e he hb)
     ·intro t ht
      rw[Sw (ht o (List.mem_of_getElem? hol))]
      exact hoth t ht
    have hops:∀ (regs:AZ),Nr (D.Ef i) regs → ∀ x u,fh o (tm regs) x=some u→RV μ u (a.eval x):=by
     intro regs hw x u hx
     obtain ⟨hxo,hx⟩:=RX hx
     cases x with
     | tmp t=>
       obtain ⟨v',h1,h2⟩:=hReg.at hd hready hol (t:=t) (.inl (List.mem_append_left _ (List.mem_filterMap.2 ⟨.tmp t,by simpa using hxo,rfl⟩))) u (hw t u hx)
       simp only[Act.eval,Array.getD_eq_getD_getElem?,h1,Option.getD_some]
       exact h2
     | const v=>
       simp only[tm] at hx
       split at hx
       ·cases hx; exact .JR ‹_›
       ·cases hx
     | global g=>cases hx
     | func f=>cases hx; exact .func (fun l hl=>by cases hl) .nil .nil
    have hguard:∀ (regs:AZ),Nr (D.Ef i) regs → ∀ j want u,o.guard=some (j,want)→Uf all.toList regs j=some u → ∃ d v',XZ all.toList j=some d∧a.tmps[d]?=some v'∧RV μ u v':=by
     intro regs hw j want u hg hr
     unfold Uf at hr
     split at hr
     ·rename_i d hdj
      obtain ⟨v',h1,h2⟩:=hReg.at hd hready hol (t:=d) (.inl (List.mem_append_right _ (by rw[hg]; simp[hdj]))) u (hw d u hr)
      exact ⟨d,v',hdj,h1,h2⟩
     ·cases hr
    unfold wpOpIn
    rw[ho]
    simp only
    rcases (D.step i o hol).2 with ⟨regs,hw,hy,hf⟩ | ⟨⟨regs,hw,hn⟩,hV,hs⟩
    ·
     have hwant:Region.wanted o (yielded all a.tmps)=true:=by
      unfold yes at hy
      unfold Region.wanted
      split at hy
      ·rename_i hg; rw[hg]
      ·rename_i j want hg
       rw[hg]
       obtain ⟨d,v',h1,h2,h3⟩:=hguard regs hw j want _ hg hy
       cases h3
       unfold XZ at h1
       simp only[Array.getElem?_toList] at h1
       simp only[yielded,h1,Option.bind_some,h2]
       simp
     rw[if_pos hwant]
     by_cases hc:JI P all.toList qf i = .pure
     ·have hcl:GR P o = .pure:=by
       exact jJ (P:=P) (qf:=qf) hol hc
      obtain ⟨hs,hp⟩:=hf.pure hcl
      obtain ⟨v',h1,h2⟩:=hp μ w a.eval (hops regs hw)
      refine Sl (VH h1 (by intro d hd; cases hd)) ?_
      unfold Oper.wp
      rw[h1,Oper.upon_value]
      exact next v' μ w h2 (Mu.le_refl _) (hM.idle hd hready hs)
     ·by_cases hfb:∃ k,k<all.toList.length∧Vy all.toList qf k i=true
      ·obtain ⟨kf,_,hkf⟩:=hfb
       obtain ⟨o2,T,x,ho2,hop⟩:=iz hkf
       have hoo:o2=o:=by rw[hol] at ho2; exact (Option.some.inj ho2).symm
       subst hoo
       obtain ⟨σ2,hR2,hld⟩:=hM.far hd hready hol hop hw hf hlive
       obtain ⟨v',h1,h2⟩:=hld μ w a.eval hR2 (hops regs hw)
       refine Sl (VH h1 (by intro d hd; cases hd)) ?_
       unfold Oper.wp
       rw[h1,Oper.upon_value]
       exact next v' μ w h2 (Mu.le_refl _) (hM.idle hd hready (D.kg ho2 hop))
      have hfb:∀ k,k<all.toList.length→Vy all.toList qf k i=false:=fun k hk=>by
       cases hq:Vy all.toList qf k i with
       | false=>rfl
       | true=>exact absurd ⟨k,hk,hq⟩ hfb
      obtain ⟨hR,hrest⟩:=hM.run hd hready hc hfb
      refine hf.wp a μ w hR (hM.fresh i hlt hunL) (hops regs hw) _ _ _ _ ?_
      intro μ' v' w' hv hR' hS'
      exact next v' μ' w' hv (hS'.le (hM.fresh i hlt hunL)) (hrest μ' w' hS' hR')
    ·have hwant:Region.wanted o (yielded all a.tmps)=false:=by
      obtain ⟨j,want,hg,hn⟩:=hn
      unfold Region.wanted
      rw[hg]
      rcases hn with ⟨b,hr,hb⟩ | hr
      ·obtain ⟨d,v',h1,h2,h3⟩:=hguard regs hw j want _ hg hr
       cases h3
       unfold XZ at h1
       simp only[Array.getElem?_toList] at h1
       simp only[yielded,h1,Option.bind_some,h2]
       simpa using hb
      ·obtain ⟨d,v',h1,h2,h3⟩:=hguard regs hw j want _ hg hr
       unfold undef at h3
       cases h3
       unfold XZ at h1
       simp only[Array.getElem?_toList] at h1
       simp only[yielded,h1,Option.bind_some,h2]
       rfl
     rw[hwant]
     simp only[Bool.false_eq_true,if_false]
     refine ⟨fun _ _=>trivial, ?_⟩
     exact next undef μ w (by rw[hV]; exact Y2) (Mu.le_refl _) (hM.idle hd hready hs)
theorem Af0 {ro:Option Nat} {nn:Nat} {Q:Exit→Act→World→Prop} (hmix:P.follows .mixedOrders=true) {id:Nat} (ht:Tr P qf all.toList (all.toList.zipIdx.map fun x=>(x.2,x.1)) E0 σ0 E' σ') (hd:gf P all.toList qf=true) (hhi:σ'.length≤hi)
  (a:Act) (μ:Mu) (w:World) (hR:R P μ σ0 w) (hfr:HT μ σ0.length hi) (hreg:OC μ E0 a.tmps)
  (hQ:∀ (a':Act) (μ':Mu) (w':World),R P μ' σ' w'→Step μ σ0 w μ' σ' w'→OC μ' E' a'.tmps→a'.defers=a.defers→a'.tmps.size=a.tmps.size→(∀ t,(∀ o ∈ all.toList,o.dst≠some t)→a'.tmps[t]?=a.tmps[t]?)→Q .normal a' w'):
  (Code.region id all true).wpIn (FW ro) nn P Q a w:=by
 obtain ⟨D⟩:=Ag1 ht
 have hd':=uT hd
 refine wpIn_region_any hmix ?_
 have hrep:∀ j,¬ L (Array.replicate all.size false) j:=by
  intro j hl
  unfold L at hl
  by_cases hj:j<all.size <;> simp[hj] at hl
 refine yd (hi:=hi) (μ0:=μ) (w0:=w) D hd' a ?_ hreg.1 (by
  intro t b hb
  obtain ⟨v',h1,h2⟩:=hreg.2 t _ hb
  obtain ⟨k,hk,_⟩:=pq h2
  rw[D.sn]
  rcases Nat.lt_or_ge b.block σ0.length with h | h
  ·exact .inl h
  ·rcases Nat.lt_or_ge b.block hi with h' | h'
   ·rw[hfr b.block h h'] at hk; cases hk
   ·exact .inr (by omega)) all.size (Array.replicate all.size false) a μ _ (by simp) (by simp[List.count_replicate]) (fun i o _ hl=>absurd hl (hrep i)) ?_ ?_ rfl rfl fun _ _=>rfl
 ·intro a' μ' w' h1 h2 h3 h4 h5 h6
  exact hQ a' μ' w' h1 h2 h3 h4 h5 h6
 ·obtain ⟨m,h1,h2,h3,h4⟩:=mQ P qf all.toList all.toList.length 0 (by simp)
  have hfresh:∀ j,j<all.toList.length→HT μ (D.Sf j).length (D.Sf (j+1)).length:=by
   intro j hj
   refine hfr.sub ?_ ?_
   ·have:=D.Lh (i:=0) j (Nat.zero_le _) (by omega)
    rw[D.s0] at this; exact this
   ·have:=D.Lh (i:=j+1) all.toList.length hj (Nat.le_refl _)
    rw[D.sn] at this; omega
  refine ⟨⟨m,h2, ?_,h4, ?_⟩,fun j hj _=>hfresh j hj,fun _ _=>rfl, ?_,fun j _ hl=>absurd hl (hrep j),Nat.le_refl _,rfl,rfl,rfl,fun _ _ _=>rfl⟩
  ·intro j hj hc
   constructor
   ·intro hl; exact absurd hl (hrep j)
   ·intro hlt; exact absurd hc (h3 j (Nat.zero_le _) hlt)
  ·have hR':R P μ (D.Sf 0) w.drew:=by rw[D.s0]; exact hR.drew
   exact hR'.extend (D.chain m h1 h2 h3) (bZ D m h1 h2 fun k _ hk=>hfresh k (by omega))
  ·intro h k hh1 hh2 hk
   have:μ h=none:=hfr h (by rw[D.s0] at hh1; exact hh1) (by rw[D.sn] at hh2; omega)
   rw[this] at hk; cases hk
 ·intro t
  refine ⟨0,Nat.zero_le _,fun j o _ _=>⟨fun hl=>absurd hl (hrep j),fun h=>by omega⟩,fun v hv=>?_⟩
  rw[D.e0] at hv
  exact hreg.2 t v hv
end
end Go.AX
end
