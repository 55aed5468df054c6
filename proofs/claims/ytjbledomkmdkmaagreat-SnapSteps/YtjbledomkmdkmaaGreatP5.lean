/- Regions whose order is drawn: what is needed of the order of the text.; Regions whose order is drawn: every order comes to what the order of the text  -/
import Derived.Orders
import Derived.Test.YtjbledomkmdkmaaGreatP4
set_option linter.unusedVariables false
set_option linter.unusedSimpArgs false
set_option linter.unusedSectionVars false
section
namespace Go.AX
open Go
variable {ρ:Type} {P:Program} [A9]
theorem jx {f:Edge→Nat} {j:Nat}:∀ {l:List Edge} {s:Nat},(l.foldl (fun s e=>s ||| 2 ^ e.on ||| f e) s).testBit j=true→s.testBit j=true ∨ ∃ e ∈ l,j=e.on∨(f e).testBit j=true
 | [],s,h=>.inl h
 | e::l,s,h=>by
   simp only[List.foldl_cons] at h
   rcases jx h with h | ⟨e',he',h⟩
   ·rw[Nat.testBit_or,Nat.testBit_or,Bool.or_eq_true,Bool.or_eq_true,Nat.testBit_two_pow] at h
    rcases h with (h | h) | h
    ·exact .inl h
    ·exact .inr ⟨e,by simp,.inl (by simpa [eq_comm] using h)⟩
    ·exact .inr ⟨e,by simp,.inr h⟩
   ·exact .inr ⟨e',by simp[he'],h⟩
theorem xS {acc:List Nat} {o:Oper} {j:Nat} (h:(pb acc o).testBit j=true):∃ e ∈ o.after.toList,Region.binds .any e=true∧(j=e.on∨(acc.getD e.on 0).testBit j=true):=by
 rcases jx (f:=fun e=>acc.getD e.on 0) h with h | ⟨e,he,h⟩
 ·simp at h
 ·rw[List.mem_filter] at he
  exact ⟨e,he.1,he.2,h⟩
theorem jS:∀ (os:List Oper) (acc:List Nat),(RX os acc).take acc.length=acc∧(RX os acc).length=acc.length+os.length ∧
  ∀ i o,os[i]?=some o→(RX os acc)[acc.length+i]?=some (pb ((RX os acc).take (acc.length+i)) o)
 | [],acc=>⟨by simp[RX],by simp[RX],by simp⟩
 | o::os,acc=>by
   simp only[RX]
   obtain ⟨h1,h2,h3⟩:=jS os (acc++[pb acc o])
   simp only[List.length_append,List.length_singleton] at h1 h2 h3
   have hpre:(RX os (acc++[pb acc o])).take acc.length=acc:=by
    have:=congrArg (List.take acc.length) h1
    rw[List.take_take] at this
    simpa [Nat.min_eq_left (Nat.le_succ _)] using this
   refine ⟨hpre,by rw[h2]; simp; omega, ?_⟩
   intro i o' hi
   cases i with
   | zero=>
     simp at hi; subst hi
     rw[Nat.add_zero,hpre]
     have:=congrArg (fun l=>l[acc.length]?) h1
     simp only[List.getElem?_take] at this
     rw[if_pos (by omega)] at this
     rw[this]; simp
   | succ i=>
     simp at hi
     have:=h3 i o' hi
     rwa [show acc.length+1+i=acc.length+(i+1) by omega] at this
section
variable {ops:List Oper}
theorem yW {i j:Nat} {o:Oper} (ho:ops[i]?=some o) (h:((RX ops []).getD i 0).testBit j=true):
  ∃ e ∈ o.after.toList,Region.binds .any e=true∧(j=e.on∨(e.on<i∧((RX ops []).getD e.on 0).testBit j=true)):=by
 obtain ⟨_,h2,h3⟩:=jS ops []
 have:=h3 i o ho
 simp only[List.length_nil,Nat.zero_add] at this
 rw[List.getD_eq_getElem?_getD,this,Option.getD_some] at h
 obtain ⟨e,he,hb,hj⟩:=xS h
 refine ⟨e,he,hb, ?_⟩
 rcases hj with hj | hj
 ·exact .inl hj
 ·right
  rw[List.getD_eq_getElem?_getD,List.getElem?_take] at hj
  by_cases hlt:e.on<i
  ·rw[if_pos hlt] at hj
   exact ⟨hlt,by rw[List.getD_eq_getElem?_getD]; exact hj⟩
  ·rw[if_neg hlt] at hj; simp at hj
theorem ov {i j:Nat} (h:((RX ops []).getD i 0).testBit j=true):∃ o,ops[i]?=some o:=by
 obtain ⟨_,h2,_⟩:=jS ops []
 rcases Nat.lt_or_ge i ops.length with hi | hi
 ·exact ⟨_,List.getElem?_eq_getElem hi⟩
 ·rw[List.getD_eq_getElem?_getD,List.getElem?_eq_none (by rw[h2]; simpa using hi)] at h
  simp at h
theorem ou {S:Nat→Prop} (hdown:∀ i o,ops[i]?=some o→S i → ∀ e ∈ o.after.toList,Region.binds .any e=true→S e.on):
  ∀ (i:Nat) {o:Oper} {j:Nat},ops[i]?=some o→(∀ e ∈ o.after.toList,Region.binds .any e=true→S e.on)→((RX ops []).getD i 0).testBit j=true→S j:=by
 intro i
 induction i using Nat.strongRecOn with
 | _ i ih=>
   intro o j ho hedges h
   obtain ⟨e,he,hb,hj⟩:=yW ho h
   rcases hj with rfl | ⟨hlt,hj⟩
   ·exact hedges e he hb
   ·obtain ⟨o',ho'⟩:=ov hj
    exact ih e.on hlt ho' (hdown _ _ ho' (hedges e he hb)) hj
theorem Adk (h0:∀ i o,ops[i]?=some o → ∀ e ∈ o.after.toList,Region.binds .any e=true→e.on<i):∀ (i:Nat) {j:Nat},((RX ops []).getD i 0).testBit j=true→j<i:=by
 intro i
 induction i using Nat.strongRecOn with
 | _ i ih=>
   intro j h
   obtain ⟨o,ho⟩:=ov h
   obtain ⟨e,he,hb,hj⟩:=yW ho h
   have hlt:=h0 i o ho e he hb
   rcases hj with rfl | ⟨_,hj⟩
   ·exact hlt
   ·exact Nat.lt_trans (ih e.on hlt hj) hlt
structure R9 (P:Program) (ops:List Oper) (qf:Nat→QF):Prop where
 down:∀ i o,ops[i]?=some o → ∀ e ∈ o.after.toList,Region.binds .any e=true→e.on<i
 reg:∀ i j oi oj t,ops[i]?=some oi→ops[j]?=some oj→i≠j→oi.dst=some t→(t ∈ xR ops oj∨oj.dst=some t)→ordered (RX ops []) i j=true
 mem:∀ i j,i<ops.length→j<ops.length→i≠j→J9 P ops qf i = .lo→J9 P ops qf j ≠ .pure→ordered (RX ops []) i j=true∨Ul ops qf i j=true
theorem mem_zipIdx {l:List Oper} {i:Nat} {o:Oper} (h:l[i]?=some o):(o,i) ∈ l.zipIdx:=by
 rw[List.mem_zipIdx_iff_getElem?]; exact h
theorem vh {qf:Nat→QF} (h:gw P ops qf=true):R9 P ops qf:=by
 unfold gw at h
 simp only[List.all_eq_true,Bool.and_eq_true,Bool.or_eq_true,Bool.not_eq_true',beq_iff_eq,bne_iff_ne,ne_eq] at h
 refine ⟨?_, ?_, ?_⟩
 ·intro i o ho e he hb
  have:=(h (o,i) (mem_zipIdx ho)).1 e he
  rcases this with h | h
  ·rw[hb] at h; cases h
  ·simpa [Nat.blt_eq] using h
 ·intro i j oi oj t hi hj hij hdst hl
  have:=(h (oi,i) (mem_zipIdx hi)).2 (oj,j) (mem_zipIdx hj)
  rcases this with h | h
  ·exact absurd h hij
  ·have h:=h.1
   simp only[hdst] at h
   simp only[Bool.or_eq_true,Bool.and_eq_true,Bool.not_eq_true',bne_iff_ne,ne_eq] at h
   rcases h with h | h
   ·rcases hl with hl | hl
    ·have:=h.1; simp[hl] at this
    ·exact absurd hl h.2
   ·exact h
 ·intro i j hi hj hij hc hcj
  have:=(h (ops[i],i) (mem_zipIdx (List.getElem?_eq_getElem hi))).2 (ops[j],j) (mem_zipIdx (List.getElem?_eq_getElem hj))
  rcases this with h | h
  ·exact absurd h hij
  ·have h:=h.2
   rcases h with (h | h) | h
   ·rcases h with h | h
    ·exact absurd hc h
    ·exact absurd h hcj
   ·exact .inl h
   ·exact .inr h
end
structure Data (P:Program) (qf:Nat→QF) (ops:List Oper) (E0:AZ) (σ0:Aa) (E':AZ) (σ':Aa) where
 Ef:Nat→AZ
 Sf:Nat→Aa
 V:Nat→Value
 e0:Ef 0=E0
 s0:Sf 0=σ0
 en:Ef ops.length=E'
 sn:Sf ops.length=σ'
 step:∀ k o,ops[k]?=some o→Ef (k+1)=M7 (Ef k) o.dst (some (V k)) ∧
  ((∃ regs,Nx (Ef k) regs∧yes ops o regs∧mV P o (qf k).1 (fH o (tB regs)) (Sf k) (V k) (Sf (k+1)))∨((∃ regs,Nx (Ef k) regs∧no ops o regs)∧V k=undef∧Sf (k+1)=Sf k))
 GI:∀ k o,ops[k]?=some o→Kept (qf k).2 (Ef k) (Sf k) (Sf (k+1))∨(o.guard≠none∧Sf (k+1)=Sf k)
theorem Ahl {qf:Nat→QF} {all:List Oper} {L:List (Nat × Oper)} {E E':AZ} {σ σ':Aa} (h:Tr P qf all L E σ E' σ'):
  ∃ (Ef:Nat→AZ) (Sf:Nat→Aa) (V:Nat→Value),Ef 0=E∧Sf 0=σ∧Ef L.length=E'∧Sf L.length=σ' ∧ ∀ k i o,L[k]?=some (i,o)→Ef (k+1)=M7 (Ef k) o.dst (some (V k)) ∧
   ((∃ regs,Nx (Ef k) regs∧yes all o regs∧mV P o (qf i).1 (fH o (tB regs)) (Sf k) (V k) (Sf (k+1)))∨((∃ regs,Nx (Ef k) regs∧no all o regs)∧V k=undef∧Sf (k+1)=Sf k))∧(Kept (qf i).2 (Ef k) (Sf k) (Sf (k+1))∨(o.guard≠none∧Sf (k+1)=Sf k)):=by
 induction h with
 | @nil E σ=>exact ⟨fun _=>E,fun _=>σ,fun _=>undef,rfl,rfl,rfl,rfl,by simp⟩
 | @step i o rest E regs E' σ σ1 σ' v hw hy hf hkp ht ih=>
   obtain ⟨Ef,Sf,V,h1,h2,h3,h4,h5⟩:=ih
   refine ⟨fun k=>match k with | 0=>E | k+1=>Ef k,fun k=>match k with | 0=>σ | k+1=>Sf k,fun k=>match k with | 0=>v | k+1=>V k,rfl,rfl,h3,h4, ?_⟩
   intro k i' o' hk
   cases k with
   | zero=>
     simp at hk; obtain ⟨rfl,rfl⟩:=hk
     refine ⟨h1,.inl ⟨regs,hw,hy, ?_⟩,.inl ?_⟩
     ·simp only[h2]; exact hf
     ·simp only[h2]; exact hkp
   | succ k=>exact h5 k i' o' (by simpa using hk)
 | @skip i o rest E regs E' σ σ' hw hn ht ih=>
   obtain ⟨Ef,Sf,V,h1,h2,h3,h4,h5⟩:=ih
   refine ⟨fun k=>match k with | 0=>E | k+1=>Ef k,fun k=>match k with | 0=>σ | k+1=>Sf k,fun k=>match k with | 0=>undef | k+1=>V k,rfl,rfl,h3,h4, ?_⟩
   intro k i' o' hk
   cases k with
   | zero=>
     simp at hk; obtain ⟨rfl,rfl⟩:=hk
     exact ⟨h1,.inr ⟨⟨regs,hw,hn⟩,rfl,h2⟩,.inr ⟨by obtain ⟨j,want,hg,_⟩:=hn; rw[hg]; simp,h2⟩⟩
   | succ k=>exact h5 k i' o' (by simpa using hk)
theorem Ahk {qf:Nat→QF} {ops:List Oper} {E E':AZ} {σ σ':Aa} (h:Tr P qf ops (ops.zipIdx.map fun x=>(x.2,x.1)) E σ E' σ'):Nonempty (Data P qf ops E σ E' σ'):=by
 obtain ⟨Ef,Sf,V,h1,h2,h3,h4,h5⟩:=Ahl h
 refine ⟨⟨Ef,Sf,V,h1,h2,by simpa using h3,by simpa using h4,fun k o hk=>?_,fun k o hk=>?_⟩⟩
 ·have:=h5 k k o (by simp[List.getElem?_zipIdx,hk])
  exact ⟨this.1,this.2.1⟩
 ·exact (h5 k k o (by simp[List.getElem?_zipIdx,hk])).2.2
theorem R.pre {μ:Mu} {σ σ2:Aa} {w:World} (h:R P μ σ2 w) (hp:σ <+: σ2):R P μ σ w:=by
 obtain ⟨t,rfl⟩:=hp
 refine ⟨?_,h.lt, ?_⟩
 ·intro x o k ho hk
  have hlt:x<σ.length:=(List.getElem?_eq_some_iff.1 ho).1
  exact h.obj x o k (by rw[List.getElem?_append_left hlt]; exact ho) hk
 ·intro a b ka kb h1 h2 h3 h4 h6 h5
  have hal:∀ x,alive σ x→alive (σ++t) x:=by
   intro x ⟨o,ho,hd⟩
   have hlt:x<σ.length:=(List.getElem?_eq_some_iff.1 ho).1
   exact ⟨o,by rw[List.getElem?_append_left hlt]; exact ho,hd⟩
  have hwal:∀ x,alive σ x→Ay σ x→Ay (σ++t) x:=by
   intro x ⟨o,ho,hd⟩ hw
   have hlt:x<σ.length:=(List.getElem?_eq_some_iff.1 ho).1
   unfold Ay at hw ⊢
   rwa [List.getElem?_append_left hlt]
  exact h.inj a b ka kb h1 h2 (hal a h3) (hal b h4) (h6.imp (hwal a h3) (hwal b h4)) h5
theorem R.extend {μ:Mu} {σ σ2:Aa} {w:World} (h:R P μ σ w) (hp:σ <+: σ2) (hf:Ia μ σ.length σ2.length):R P μ σ2 w:=by
 obtain ⟨t,rfl⟩:=hp
 have key:∀ x k,μ x=some k→x<(σ++t).length→x<σ.length:=by
  intro x k hk hlt
  rcases Nat.lt_or_ge x σ.length with hx | hx
  ·exact hx
  ·rw[hf x hx hlt] at hk; cases hk
 refine ⟨?_,h.lt, ?_⟩
 ·intro x o k ho hk
  have hlt:=key x k hk (List.getElem?_eq_some_iff.1 ho).1
  rw[List.getElem?_append_left hlt] at ho
  exact h.obj x o k ho hk
 ·intro a b ka kb h1 h2 h3 h4 h6 h5
  have hal:∀ x k,μ x=some k→alive (σ++t) x→alive σ x:=by
   intro x k hk ⟨o,ho,hd⟩
   have hlt:=key x k hk (List.getElem?_eq_some_iff.1 ho).1
   rw[List.getElem?_append_left hlt] at ho
   exact ⟨o,ho,hd⟩
  have hwal:∀ x k,μ x=some k→alive (σ++t) x→Ay (σ++t) x→Ay σ x:=by
   intro x k hk ⟨o,ho,hd⟩ hw
   have hlt:=key x k hk (List.getElem?_eq_some_iff.1 ho).1
   unfold Ay at hw ⊢
   rwa [List.getElem?_append_left hlt] at hw
  exact h.inj a b ka kb h1 h2 (hal a ka h1 h3) (hal b kb h2 h4) (h6.imp (hwal a ka h1 h3) (hwal b kb h2 h4)) h5
theorem R.merge {μ μ':Mu} {σ σ' σM:Aa} {w w':World} (hM:R P μ σM w) (hp:σ <+: σ') (hp':σ' <+: σM) (hS:Step μ σ w μ' σ' w') (hR:R P μ' σ' w') (hf:Ia μ σ.length σ'.length):R P μ' σM w':=by
 have hle:=hS.le hf
 have hl1:σ.length≤σ'.length:=hS.len
 have hl2:σ'.length≤σM.length:=hp'.length_le
 have get':∀ x,x<σ'.length→σM[x]?=σ'[x]?:=by
  obtain ⟨t,rfl⟩:=hp'
  intro x hx; rw[List.getElem?_append_left hx]
 have get:∀ x,x<σ.length→σM[x]?=σ[x]?:=by
  intro x hx
  rw[get' x (by omega)]
  obtain ⟨t,rfl⟩:=hp
  rw[List.getElem?_append_left hx]
 have walive:∀ x,x<σ.length→Ay σ x→alive σM x:=by
  intro x hx hw
  obtain ⟨o,ho,hd⟩:=bG hw
  exact ⟨o,by rw[get x hx]; exact ho,hd⟩
 have wwrit:∀ x,x<σ.length→Ay σ x→Ay σM x:=by
  intro x hx hw
  unfold Ay at hw ⊢
  rwa [get x hx]
 have GI:∀ x k,σ'.length≤x→μ x=some k→alive σM x→w'.heap[k.b]?=w.heap[k.b]?:=by
  intro x k hx hk hal
  refine hS.frame k.b (hM.lt x k hk) ?_
  intro h0 k0 hh0 hk0 hkb hw0
  have:=hM.inj h0 x k0 k hk0 hk (walive h0 hh0 hw0) hal (.inl (wwrit h0 hh0 hw0)) hkb
  omega
 refine ⟨?_,hR.lt, ?_⟩
 ·intro x o k ho hk
  by_cases hx:x<σ'.length
  ·rw[get' x hx] at ho
   exact hR.obj x o k ho hk
  ·rw[hS.mu x (.inr (by omega))] at hk
   by_cases hd:o = .dead
   ·subst hd; trivial
   ·rw[GI x k (by omega) hk ⟨o,ho,hd⟩]
    exact (hM.obj x o k ho hk).mono hle
 ·have side:∀ a b ka kb,μ' a=some ka→μ' b=some kb→alive σM a→alive σM b→Ay σM a∨Ay σM b→ka.b=kb.b→a<σ'.length→σ'.length≤b→a=b:=by
   intro a b ka kb ha hb hal hbl hww hab hal' hbl'
   rw[hS.mu b (.inr hbl')] at hb
   by_cases has:a<σ.length
   ·rw[hS.mu a (.inl has)] at ha
    exact hM.inj a b ka kb ha hb hal hbl hww hab
   ·rcases hS.new a ka (by omega) hal' ha with h | ⟨h0,k0,hh0,hk0,hkb,hw0⟩
    ·have:=hM.lt b kb hb; omega
    ·have:=hM.inj h0 b k0 kb hk0 hb (walive h0 hh0 hw0) hbl (.inl (wwrit h0 hh0 hw0)) (hkb.trans hab)
     omega
  intro a b ka kb ha hb hal hbl hww hab
  by_cases h1:a<σ'.length <;> by_cases h2:b<σ'.length
  ·have al:∀ x,x<σ'.length→alive σM x→alive σ' x:=by
    intro x hx ⟨o,ho,hd⟩; exact ⟨o,by rw[← get' x hx]; exact ho,hd⟩
   have wl:∀ x,x<σ'.length→Ay σM x→Ay σ' x:=by
    intro x hx hw
    unfold Ay at hw ⊢
    rwa [get' x hx] at hw
   exact hR.inj a b ka kb ha hb (al a h1 hal) (al b h2 hbl) (hww.imp (wl a h1) (wl b h2)) hab
  ·exact side a b ka kb ha hb hal hbl hww hab h1 (by omega)
  ·exact (side b a kb ka hb ha hbl hal hww.symm hab.symm h2 (by omega)).symm
  ·rw[hS.mu a (.inr (by omega))] at ha
   rw[hS.mu b (.inr (by omega))] at hb
   exact hM.inj a b ka kb ha hb hal hbl hww hab
end Go.AX
end
section
namespace Go.AX
open Go
variable {ρ:Type} {P:Program} [A9]
section
variable {qf:Nat→QF} {ops:List Oper} {E0 E':AZ} {σ0 σ':Aa}
def L (listed:Array Bool) (j:Nat):Prop:=listed.getD j false=true
theorem Data.xt (D:Data P qf ops E0 σ0 E' σ'):∀ k,k≤ops.length→(D.Ef k).length=E0.length
 | 0,_=>by rw[D.e0]
 | k+1,h=>by
   rw[(D.step k _ (List.getElem?_eq_getElem h)).1,EX]; exact D.xt k (by omega)
theorem Data.Ajn (D:Data P qf ops E0 σ0 E' σ') {k:Nat} (h:k<ops.length):(D.Sf k).length≤(D.Sf (k+1)).length:=by
 rcases (D.step k _ (List.getElem?_eq_getElem h)).2 with ⟨_,_,_,hf⟩ | ⟨_,_,hs⟩
 ·exact hf.len
 ·rw[hs]; exact Nat.le_refl _
theorem Data.JV (D:Data P qf ops E0 σ0 E' σ') {i:Nat}:∀ m,i≤m→m≤ops.length→(D.Sf i).length≤(D.Sf m).length:=by
 intro m hm
 induction hm with
 | refl=>intro _; exact Nat.le_refl _
 | step hm ih=>intro h; exact Nat.le_trans (ih (by omega)) (D.Ajn h)
theorem rE {k:Nat} {o:Oper} (ho:ops[k]?=some o) (h:J9 P ops qf k ≠ .lo):(J9 P ops qf k=Gm P o∧(UG o=true→(qf k).1=true))∨(isApp o=true∧(qf k).1=true∧J9 P ops qf k = .al):=by
 unfold J9 at h ⊢
 rw[ho] at h ⊢
 simp only at h ⊢
 cases hc:(UG o && !(qf k).1) with
 | true=>rw[hc] at h; exact absurd rfl h
 | false=>
   rw[cond_false]
   cases ha:(isApp o && (qf k).1) with
   | true=>
     rw[cond_true]
     simp only[Bool.and_eq_true] at ha
     exact .inr ⟨ha.1,ha.2,rfl⟩
   | false=>
     rw[cond_false]
     refine .inl ⟨rfl,fun hi=>?_⟩
     rw[hi] at hc; simpa using hc
theorem jU {k:Nat} {o:Oper} (ho:ops[k]?=some o) (h:J9 P ops qf k = .pure):Gm P o = .pure:=by
 rcases rE (P:=P) (qf:=qf) ho (by rw[h]; simp) with ⟨h1,_⟩ | ⟨_,_,h1⟩
 ·rw[← h1]; exact h
 ·rw[h] at h1; cases h1
theorem xG {o:Oper} {c:Call} (ho:o.op = .call c) (h:Gm P o = .al):UG o=true:=by
 unfold UG
 rw[ho]
 cases hcal:c.callee with
 | builtin b=>
   simp only[Gm,ho,hcal] at h
   cases b <;> cases hm:c8 P c.argTypes.toList <;> simp[hm,q8] at h
 | invoke r m=>simp only[hcal]
 | value f=>simp only[hcal]
theorem Data.quiet (D:Data P qf ops E0 σ0 E' σ') {k:Nat} (h:k<ops.length) (hc:J9 P ops qf k ≠ .lo):D.Sf k <+: D.Sf (k+1):=by
 have ho:=List.getElem?_eq_getElem h
 rcases rE (P:=P) (qf:=qf) ho hc with ⟨hcl,hq⟩ | ⟨happ,hqk,_⟩
 rotate_left
 ·rcases (D.step k _ ho).2 with ⟨_,_,_,hf⟩ | ⟨_,_,hs⟩
  ·exact hf.app happ hqk
  ·rw[hs]; exact List.prefix_refl _
 rcases (D.step k _ ho).2 with ⟨_,_,_,hf⟩ | ⟨_,_,hs⟩
 ·cases hcc:Gm P ops[k] with
  | pure=>rw[(hf.pure hcc).1]; exact List.prefix_refl _
  | ld=>rw[hf.ld hcc]; exact List.prefix_refl _
  | al=>
    refine hf.al hcc ?_
    by_cases hcall:∃ c,ops[k].op = .call c
    ·obtain ⟨c,hc'⟩:=hcall
     exact .inr (hq (xG hc' hcc))
    ·exact .inl fun c hc'=>hcall ⟨c,hc'⟩
  | lo=>exact absurd (hcl.trans hcc) hc
 ·rw[hs]; exact List.prefix_refl _
theorem Data.chain (D:Data P qf ops E0 σ0 E' σ') {i:Nat}:∀ m,i≤m→m≤ops.length→(∀ k,i≤k→k<m→J9 P ops qf k ≠ .lo)→D.Sf i <+: D.Sf m:=by
 intro m hm
 induction hm with
 | refl=>intro _ _; exact List.prefix_refl _
 | step hm ih=>intro h hk; exact (ih (by omega) fun k h1 h2=>hk k h1 (by omega)).trans (D.quiet h (hk _ hm (by omega)))
theorem Data.WE (D:Data P qf ops E0 σ0 E' σ') {i t:Nat}:∀ m,i≤m→m≤ops.length→(∀ k o,i≤k→k<m→ops[k]?=some o→o.dst≠some t)→(D.Ef m).getD t none=(D.Ef i).getD t none:=by
 intro m hm
 induction hm with
 | refl=>intro _ _; rfl
 | @step m hm ih=>
   intro h hk
   have ho:=List.getElem?_eq_getElem h
   rw[(D.step m _ ho).1,OB (hk m _ hm (by omega) ho)]
   exact ih (by omega) fun k o h1 h2=>hk k o h1 (by omega)
theorem nf (P:Program) (qf:Nat→QF) (ops:List Oper):∀ (d i:Nat),i+d=ops.length → ∃ m,i≤m∧m≤ops.length∧(∀ k,i≤k→k<m→J9 P ops qf k ≠ .lo)∧(m=ops.length∨J9 P ops qf m = .lo)
 | 0,i,h=>⟨i,Nat.le_refl _,by omega,fun k h1 h2=>absurd h2 (by omega),.inl (by omega)⟩
 | d+1,i,h=>by
   by_cases hc:J9 P ops qf i = .lo
   ·exact ⟨i,Nat.le_refl _,by omega,fun k h1 h2=>absurd h2 (by omega),.inr hc⟩
   ·obtain ⟨m,h1,h2,h3,h4⟩:=nf P qf ops d (i+1) (by omega)
    refine ⟨m,by omega,h2,fun k hk1 hk2=>?_,h4⟩
    by_cases hki:k=i
    ·subst hki; exact hc
    ·exact h3 k (by omega) hk2
theorem cq (D:Data P qf ops E0 σ0 E' σ') {μ:Mu} {i:Nat}:∀ m,i≤m→m≤ops.length→(∀ k,i≤k→k<m→Ia μ (D.Sf k).length (D.Sf (k+1)).length)→Ia μ (D.Sf i).length (D.Sf m).length:=by
 intro m hm
 induction hm with
 | refl=>intro _ _ h h1 h2; omega
 | @step m hm ih=>
   intro hl hk h h1 h2
   by_cases hlt:h<(D.Sf m).length
   ·exact ih (by omega) (fun k a b=>hk k a (by omega)) h h1 hlt
   ·exact hk m hm (by omega) h (by omega) h2
theorem mT {σ σ2:Aa} (hp:σ <+: σ2) {h:Nat} (hl:h<σ.length):Ay σ2 h=Ay σ h:=by
 obtain ⟨t,rfl⟩:=hp
 unfold Ay; rw[List.getElem?_append_left hl]
def yA (o:Oper):Prop:=(∃ T a,o.op = .load T (.tmp a)) ∨ ∃ T a lo hi mx,o.op = .slice T (.tmp a) lo hi mx
theorem xx {i j:Nat} (h:Ai8 ops qf i j=true):∃ t o,ops[j]?=some o∧t ∈ (qf i).2∧((∃ T a,o.op = .load T (.tmp a)∧lY ops 8 a j=some t) ∨ ∃ T a lo hi mx,o.op = .slice T (.tmp a) lo hi mx∧vY ops 8 a j=some t∧bare ops i=true):=by
 unfold Ai8 at h
 split at h
 rotate_left
 ·cases h
 rename_i t ht
 rw[Bool.and_eq_true,Bool.or_eq_true] at h
 have hc:t ∈ (qf i).2:=by simpa using h.1
 unfold iL at ht
 split at ht
 rotate_left
 ·cases ht
 rename_i o ho
 split at ht
 ·rename_i T a hop
  exact ⟨t,o,ho,hc,.inl ⟨T,a,hop,ht⟩⟩
 ·rename_i T a lo hi mx hop
  refine ⟨t,o,ho,hc,.inr ⟨T,a,lo,hi,mx,hop,ht,h.2.resolve_left fun h'=>?_⟩⟩
  unfold xH at h'
  rw[ho] at h'
  simp only[hop] at h'
  cases h'
 ·cases ht
theorem Ah6 {j:Nat} (h:xH ops j=true):∃ o T a,ops[j]?=some o∧o.op = .load T (.tmp a):=by
 unfold xH at h
 split at h
 rotate_left
 ·cases h
 rename_i o ho
 split at h
 rotate_left
 ·cases h
 rename_i T a hop
 exact ⟨o,T,a,ho,hop⟩
theorem iM {i j:Nat} (h:Ul ops qf i j=true):∃ o,ops[j]?=some o∧yA o:=by
 unfold Ul at h
 rw[Bool.or_eq_true,Bool.and_eq_true] at h
 rcases h with h | ⟨h,_⟩
 ·obtain ⟨_,o,h1,_,h2⟩:=xx h
  rcases h2 with ⟨T,a,h2,_⟩ | ⟨T,a,lo,hi,mx,h2,_⟩
  ·exact ⟨o,h1,.inl ⟨T,a,h2⟩⟩
  ·exact ⟨o,h1,.inr ⟨T,a,lo,hi,mx,h2⟩⟩
 ·obtain ⟨o,T,a,h1,h2⟩:=Ah6 h
  exact ⟨o,h1,.inl ⟨T,a,h2⟩⟩
theorem oZ {j:Nat} {o:Oper} (ho:ops[j]?=some o) (hop:yA o):J9 P ops qf j = .ld∧Gm P o = .ld:=by
 have h0:Gm P o = .ld:=by rcases hop with ⟨T,a,hop⟩ | ⟨T,a,lo,hi,mx,hop⟩ <;> (unfold Gm; rw[hop])
 have h1:UG o=false:=by rcases hop with ⟨T,a,hop⟩ | ⟨T,a,lo,hi,mx,hop⟩ <;> (unfold UG; rw[hop])
 have h2:isApp o=false:=by rcases hop with ⟨T,a,hop⟩ | ⟨T,a,lo,hi,mx,hop⟩ <;> (unfold isApp; rw[hop])
 refine ⟨?_,h0⟩
 unfold J9
 rw[ho]
 simp only[h1,h2,Bool.false_and,cond_false]
 exact h0
theorem Data.kz (D:Data P qf ops E0 σ0 E' σ') {j:Nat} {o:Oper} (ho:ops[j]?=some o) (hop:yA o):D.Sf (j+1)=D.Sf j:=by
 rcases (D.step j o ho).2 with ⟨_,_,_,hf⟩ | ⟨_,_,hs⟩
 ·exact hf.ld (oZ (qf:=qf) ho hop).2
 ·exact hs
theorem R9.lo_lo (hd:R9 P ops qf) {i j:Nat} (hi:i<ops.length) (hj:j<ops.length) (hij:i≠j) (hc:J9 P ops qf i = .lo) (hcj:J9 P ops qf j = .lo):ordered (RX ops []) i j=true:=by
 rcases hd.mem i j hi hj hij hc (by rw[hcj]; simp) with h | h
 ·exact h
 ·obtain ⟨o,ho,hop⟩:=iM h
  rw[(oZ (P:=P) (qf:=qf) ho hop).1] at hcj
  cases hcj
theorem R9.Ajd (hd:R9 P ops qf) {i j:Nat} (hi:i<ops.length) (hj:j<ops.length) (hij:i≠j) (hc:J9 P ops qf i = .lo) (hcj:J9 P ops qf j ≠ .pure) (hn:∀ k,k<ops.length→Ul ops qf k j=false):ordered (RX ops []) i j=true:=by
 rcases hd.mem i j hi hj hij hc hcj with h | h
 ·exact h
 ·rw[hn i hi] at h; cases h
structure Qe (D:Data P qf ops E0 σ0 E' σ') (hi:Nat) (μ0:Mu) (w0:World) (listed:Array Bool) (μ:Mu) (w:World):Prop where
 mem:∃ m,m≤ops.length∧(∀ j,j<ops.length→J9 P ops qf j = .lo→(L listed j↔j<m))∧(m=ops.length∨J9 P ops qf m = .lo)∧R P μ (D.Sf m) w
 fresh:∀ j,j<ops.length→¬ L listed j→Ia μ (D.Sf j).length (D.Sf (j+1)).length
 mu:∀ h,(h<(D.Sf 0).length∨(D.Sf ops.length).length≤h)→μ h=μ0 h
 new:∀ h k,(D.Sf 0).length≤h→h<(D.Sf ops.length).length→μ h=some k→w0.heap.size≤k.b ∨ ∃ h0 k0,h0<(D.Sf 0).length∧μ0 h0=some k0∧k0.b=k.b∧Ay (D.Sf 0) h0
 wr:∀ j,j<ops.length→L listed j → ∀ h,h<(D.Sf j).length→Ay (D.Sf (j+1)) h→Ay (D.Sf j) h
 size:w0.heap.size≤w.heap.size
 tape:w.tape=w0.tape
 os:w.os=w0.os
 output:w.output=w0.output
 frame:∀ b,b<w0.heap.size→(∀ h k,h<(D.Sf 0).length→μ0 h=some k→k.b=b→¬ Ay (D.Sf 0) h)→w.heap[b]?=w0.heap[b]?
theorem yI {listed:Array Bool} {i j:Nat} (hi:i<listed.size):L (listed.setIfInBounds i true) j↔j=i∨L listed j:=by
 unfold L
 by_cases h:i=j
 ·subst h; simp[hi]
 ·rw[getD_set_ne false h]
  constructor
  ·exact .inr
  ·rintro (rfl | h')
   ·exact absurd rfl h
   ·exact h'
structure kY (P:Program) (qf:Nat→QF) (ops:List Oper) (listed:Array Bool) (i:Nat):Prop where
 lt:i<ops.length
 size:listed.size=ops.length
 un:¬ L listed i
 ord:∀ j,j≠i→ordered (RX ops []) i j=true→(L listed j↔j<i)
variable {hi:Nat} {μ0 μ:Mu} {w0 w:World} {listed:Array Bool} {i:Nat}
theorem Qe.idle {D:Data P qf ops E0 σ0 E' σ'} (hd:R9 P ops qf) (h:Qe D hi μ0 w0 listed μ w) (hr:kY P qf ops listed i) (hs:D.Sf (i+1)=D.Sf i):Qe D hi μ0 w0 (listed.setIfInBounds i true) μ w:=by
 have hset:∀ j,L (listed.setIfInBounds i true) j↔j=i∨L listed j:=fun j=>yI (by rw[hr.size]; exact hr.lt)
 refine ⟨?_,fun j hj hl=>h.fresh j hj fun hl'=>hl ((hset j).2 (.inr hl')),h.mu,h.new, ?_,h.size,h.tape,h.os,h.output,h.frame⟩
 ·obtain ⟨m,hm,hlo,hml,hR⟩:=h.mem
  by_cases hc:J9 P ops qf i = .lo
  ·have hmi:m=i:=by
    have hi':=hlo i hr.lt hc
    have him:¬ i<m:=fun hlt=>hr.un (hi'.2 hlt)
    rcases hml with rfl | hml
    ·exact absurd hr.lt him
    ·by_cases hne:m=i
     ·exact hne
     ·have hmn:m<ops.length:=by have:=hr.lt; omega
      have:=(hlo m hmn hml)
      have h2:=hr.ord m hne (hd.lo_lo hr.lt hmn (Ne.symm hne) hc hml)
      have:L listed m:=h2.2 (by omega)
      have:=(hlo m hmn hml).1 this
      omega
   subst hmi
   obtain ⟨m',h1,h2,h3,h4⟩:=nf P qf ops (ops.length-(m+1)) (m+1) (by have:=hr.lt; omega)
   refine ⟨m',h2, ?_,h4, ?_⟩
   ·intro j hj hcj
    rw[hset]
    by_cases hjm:j=m
    ·subst hjm; simp; omega
    ·have:=hlo j hj hcj
     constructor
     ·rintro (h | h)
      ·exact absurd h hjm
      ·have:=this.1 h; omega
     ·intro hlt
      right
      apply this.2
      apply Classical.byContradiction
      intro hge
      exact h3 j (by omega) hlt hcj
   ·have hp:=D.chain (i:=m+1) m' h1 h2 h3
    rw[← hs] at hR
    refine hR.extend hp (cq D m' h1 h2 fun k hk1 hk2=>?_)
    by_cases hkp:J9 P ops qf k = .pure
    ·have hcl:=jU (P:=P) (qf:=qf) (List.getElem?_eq_getElem (show k<ops.length by omega)) hkp
     rcases (D.step k _ (List.getElem?_eq_getElem (show k<ops.length by omega))).2 with ⟨_,_,_,hf⟩ | ⟨_,_,hsk⟩
     ·rw[(hf.pure hcl).1]; intro x a b; omega
     ·rw[hsk]; intro x a b; omega
    ·rcases hd.mem m k hr.lt (by omega) (by omega) hc hkp with hord | hfar
     ·refine h.fresh k (by omega) fun hl=>?_
      have:=(hr.ord k (by omega) hord).1 hl
      omega
     ·obtain ⟨o,ho,hop⟩:=iM hfar
      rw[D.kz ho hop]; intro x a b; omega
  ·refine ⟨m,hm, ?_,hml,hR⟩
   intro j hj hcj
   rw[hset]
   have hji:j≠i:=by rintro rfl; exact hc hcj
   simp only[hji,false_or]
   exact hlo j hj hcj
 ·intro j hj hl x hx hw
  by_cases hji:j=i
  ·subst hji; rw[hs] at hw; exact hw
  ·exact h.wr j hj (((hset j).1 hl).resolve_left hji) x hx hw
theorem Qe.at {D:Data P qf ops E0 σ0 E' σ'} (hd:R9 P ops qf) (h:Qe D hi μ0 w0 listed μ w) (hr:kY P qf ops listed i) (hc:J9 P ops qf i ≠ .pure) (hn:∀ k,k<ops.length→Ul ops qf k i=false):
  ∃ m,m≤ops.length∧(∀ j,j<ops.length→J9 P ops qf j = .lo→(L listed j↔j<m))∧(m=ops.length∨J9 P ops qf m = .lo)∧R P μ (D.Sf m) w∧i≤m∧(∀ k,i≤k→k<m→J9 P ops qf k ≠ .lo)∧(J9 P ops qf i = .lo→m=i):=by
 obtain ⟨m,hm,hlo,hml,hR⟩:=h.mem
 have him:i≤m:=by
  apply Classical.byContradiction
  intro hlt
  have hmn:m<ops.length:=by have:=hr.lt; omega
  have hcm:J9 P ops qf m = .lo:=hml.resolve_left (by omega)
  have hord:=hd.Ajd hmn hr.lt (by omega) hcm hc hn
  have hord':ordered (RX ops []) i m=true:=by unfold ordered at hord ⊢; rw[Bool.or_comm]; exact hord
  have:=(hr.ord m (by omega) hord').2 (by omega)
  have:=(hlo m hmn hcm).1 this
  omega
 have hbt:∀ k,i≤k→k<m→J9 P ops qf k ≠ .lo:=by
  intro k hk1 hk2 hck
  have hl:=(hlo k (by omega) hck).2 hk2
  by_cases hki:k=i
  ·subst hki; exact hr.un hl
  ·have hord:=hd.Ajd (by omega) hr.lt hki hck hc hn
   have hord':ordered (RX ops []) i k=true:=by unfold ordered at hord ⊢; rw[Bool.or_comm]; exact hord
   have:=(hr.ord k hki hord').1 hl
   omega
 refine ⟨m,hm,hlo,hml,hR,him,hbt,fun hci=>?_⟩
 apply Classical.byContradiction
 intro hne
 exact hbt i (Nat.le_refl _) (by omega) hci
theorem Qe.run {D:Data P qf ops E0 σ0 E' σ'} (hd:R9 P ops qf) (h:Qe D hi μ0 w0 listed μ w) (hr:kY P qf ops listed i) (hc:J9 P ops qf i ≠ .pure) (hnf:∀ k,k<ops.length→Ul ops qf k i=false):
  R P μ (D.Sf i) w ∧ ∀ (μ':Mu) (w':World),Step μ (D.Sf i) w μ' (D.Sf (i+1)) w'→R P μ' (D.Sf (i+1)) w'→Qe D hi μ0 w0 (listed.setIfInBounds i true) μ' w':=by
 have hset:∀ j,L (listed.setIfInBounds i true) j↔j=i∨L listed j:=fun j=>yI (by rw[hr.size]; exact hr.lt)
 obtain ⟨m,hm,hlo,hml,hR,him,hbt,hmi⟩:=h.at hd hr hc hnf
 have hpre:D.Sf i <+: D.Sf m:=D.chain m him hm hbt
 refine ⟨hR.pre hpre,fun μ' w' hS hR'=>?_⟩
 have hfi:=h.fresh i hr.lt hr.un
 have hlt:=hr.lt
 have hl0:(D.Sf 0).length≤(D.Sf i).length:=D.JV i (Nat.zero_le _) (by omega)
 have hln:(D.Sf (i+1)).length≤(D.Sf ops.length).length:=D.JV ops.length hlt (Nat.le_refl _)
 have hli:(D.Sf i).length≤(D.Sf ops.length).length:=D.JV ops.length (by omega) (Nat.le_refl _)
 have hw0:∀ k,k≤i → ∀ x,x<(D.Sf 0).length→Ay (D.Sf k) x→Ay (D.Sf 0) x:=by
  intro k
  induction k with
  | zero=>intro _ x _ hw; exact hw
  | succ k ih=>
    intro hk x hx hw
    have hxk:x<(D.Sf k).length:=Nat.lt_of_lt_of_le hx (D.JV k (Nat.zero_le _) (by omega))
    refine ih (by omega) x hx ?_
    by_cases hck:J9 P ops qf k = .lo
    ·have hord:=hd.Ajd (by omega) hlt (by omega) hck hc hnf
     have hord':ordered (RX ops []) i k=true:=by unfold ordered at hord ⊢; rw[Bool.or_comm]; exact hord
     exact h.wr k (by omega) ((hr.ord k (by omega) hord').2 (by omega)) x hxk hw
    ·rwa [mT (D.quiet (by omega) hck) hxk] at hw
 have hnew:∀ x k,(D.Sf 0).length≤x→x<(D.Sf ops.length).length→μ' x=some k→w0.heap.size≤k.b ∨ ∃ h0 k0,h0<(D.Sf 0).length∧μ0 h0=some k0∧k0.b=k.b∧Ay (D.Sf 0) h0:=by
  intro x k hx1 hx2 hk
  by_cases hxi:x<(D.Sf i).length∨(D.Sf (i+1)).length≤x
  ·rw[hS.mu x hxi] at hk
   exact h.new x k hx1 hx2 hk
  ·rcases hS.new x k (by omega) (by omega) hk with hb | ⟨h0,k0,g1,g2,g3,g4⟩
   ·exact .inl (Nat.le_trans h.size hb)
   ·by_cases h00:h0<(D.Sf 0).length
    ·rw[h.mu h0 (.inl h00)] at g2
     exact .inr ⟨h0,k0,h00,g2,g3,hw0 i (Nat.le_refl _) h0 h00 g4⟩
    ·rcases h.new h0 k0 (by omega) (by omega) g2 with hb | ⟨h1,k1,q1,q2,q3,q4⟩
     ·exact .inl (by omega)
     ·exact .inr ⟨h1,k1,q1,q2,q3.trans g3,q4⟩
 refine ⟨?_, ?_, ?_,hnew, ?_,Nat.le_trans h.size hS.size,hS.tape.trans h.tape,hS.os.trans h.os,hS.output.trans h.output, ?_⟩
 ·
  by_cases hci:J9 P ops qf i = .lo
  ·have:=hmi hci
   subst this
   obtain ⟨m',h1,h2,h3,h4⟩:=nf P qf ops (ops.length-(m+1)) (m+1) (by omega)
   refine ⟨m',h2, ?_,h4, ?_⟩
   ·intro j hj hcj
    rw[hset]
    by_cases hjm:j=m
    ·subst hjm; simp; omega
    ·have:=hlo j hj hcj
     constructor
     ·rintro (h | h)
      ·exact absurd h hjm
      ·have:=this.1 h; omega
     ·intro hlt'
      right
      apply this.2
      apply Classical.byContradiction
      intro hge
      exact h3 j (by omega) hlt' hcj
   ·have hp:=D.chain (i:=m+1) m' h1 h2 h3
    refine hR'.extend hp (cq D m' h1 h2 fun k hk1 hk2=>?_)
    by_cases hkp:J9 P ops qf k = .pure
    ·have hcl:=jU (P:=P) (qf:=qf) (List.getElem?_eq_getElem (show k<ops.length by omega)) hkp
     rcases (D.step k _ (List.getElem?_eq_getElem (show k<ops.length by omega))).2 with ⟨_,_,_,hf⟩ | ⟨_,_,hsk⟩
     ·rw[(hf.pure hcl).1]; intro x a b; omega
     ·rw[hsk]; intro x a b; omega
    ·rcases hd.mem m k hlt (by omega) (by omega) hci hkp with hord | hfar
     ·have hun:¬ L listed k:=fun hl=>by
       have:=(hr.ord k (by omega) hord).1 hl
       omega
      intro x a b
      have hge:(D.Sf (m+1)).length≤(D.Sf k).length:=D.JV k hk1 (by omega)
      rw[hS.mu x (.inr (by omega))]
      exact h.fresh k (by omega) hun x a b
     ·obtain ⟨o,ho,hop⟩:=iM hfar
      rw[D.kz ho hop]; intro x a b; omega
  ·have hne:i≠m:=by
    rintro rfl
    rcases hml with h | h
    ·omega
    ·exact hci h
   have hp1:D.Sf (i+1) <+: D.Sf m:=D.chain m (by omega) hm fun k h1 h2=>hbt k (by omega) h2
   refine ⟨m,hm, ?_,hml,hR.merge (D.quiet hlt hci) hp1 hS hR' hfi⟩
   intro j hj hcj
   rw[hset]
   have hji:j≠i:=by rintro rfl; exact hci hcj
   simp only[hji,false_or]
   exact hlo j hj hcj
 ·intro j hj hl x a b
  have hji:j≠i:=fun e=>hl ((hset j).2 (.inl e))
  have hfj:=h.fresh j hj (fun hl'=>hl ((hset j).2 (.inr hl'))) x a b
  rcases Nat.lt_or_ge j i with hlt' | hge
  ·have:(D.Sf (j+1)).length≤(D.Sf i).length:=D.JV i hlt' (by omega)
   rw[hS.mu x (.inl (by omega))]; exact hfj
  ·have:(D.Sf (i+1)).length≤(D.Sf j).length:=D.JV j (by omega) (by omega)
   rw[hS.mu x (.inr (by omega))]; exact hfj
 ·intro x hx
  rw[hS.mu x (by omega)]
  exact h.mu x hx
 ·intro j hj hl x hx hw
  by_cases hji:j=i
  ·subst hji; exact hS.wr x hx hw
  ·exact h.wr j hj (((hset j).1 hl).resolve_left hji) x hx hw
 ·intro b hb hn
  rw[hS.frame b (Nat.lt_of_lt_of_le hb h.size) ?_,h.frame b hb hn]
  intro x k hx hk hkb hw
  by_cases hx0:x<(D.Sf 0).length
  ·rw[h.mu x (.inl hx0)] at hk
   exact hn x k hx0 hk hkb (hw0 i (Nat.le_refl _) x hx0 hw)
  ·rcases h.new x k (by omega) (by omega) hk with hb' | ⟨h1,k1,q1,q2,q3,q4⟩
   ·omega
   ·exact hn h1 k1 q1 q2 (q3.trans hkb) q4
theorem kH (D:Data P qf ops E0 σ0 E' σ'):∀ (n a j:Nat) {t:Nat} {ad:Addr},j≤ops.length→lY ops n a j=some t→(D.Ef j).getD a none=some (.pointer (some ad)) →
  ∃ b,E0.getD t none=some (.pointer (some b))∧b.block=ad.block ∧ ∀ k,k≤ops.length→(D.Ef k).getD t none=E0.getD t none
 | 0,a,j,t,ad,hj,h,hv=>by cases h
 | n+1,a,j,t,ad,hj,h,hv=>by
   simp only[lY] at h
   split at h
   ·rename_i hnil
    cases h
    have hno:∀ (k:Nat) (o:Oper),ops[k]?=some o→o.dst≠some a:=by
     intro k o hk hd
     have:(o,k) ∈ ops.zipIdx.filter fun p=>p.1.dst == some a:=List.mem_filter.2 ⟨mem_zipIdx hk,by simp[hd]⟩
     rw[hnil] at this; cases this
    have hsame:∀ k,k≤ops.length→(D.Ef k).getD a none=E0.getD a none:=fun k hk=>by
     rw[D.WE (i:=0) k (Nat.zero_le _) hk fun x o _ _ hx=>hno x o hx,D.e0]
    exact ⟨ad,by rw[← hsame j hj]; exact hv,rfl,hsame⟩
   ·rename_i p hp
    cases hlt:Nat.blt p.2 j with
    | false=>rw[hlt] at h; cases h
    | true=>
      rw[hlt,cond_true] at h
      have hlt:p.2<j:=by simpa [Nat.blt_eq] using hlt
      have hmem:p ∈ ops.zipIdx.filter fun p=>p.1.dst == some a:=by rw[hp]; simp
      obtain ⟨hm1,hm2⟩:=List.mem_filter.1 hmem
      have hpo:ops[p.2]?=some p.1:=List.mem_zipIdx_iff_getElem?.1 hm1
      have hpd:p.1.dst=some a:=by simpa using hm2
      have hone:∀ (k:Nat) (o:Oper),p.2+1≤k→k<j→ops[k]?=some o→o.dst≠some a:=by
       intro k o h1 h2 hk hd
       have:(o,k) ∈ ops.zipIdx.filter fun p=>p.1.dst == some a:=List.mem_filter.2 ⟨mem_zipIdx hk,by simp[hd]⟩
       rw[hp] at this
       have:=List.mem_singleton.1 this
       rw[← this] at h1
       simp only at h1
       omega
      obtain ⟨hE,hst⟩:=D.step p.2 p.1 hpo
      rw[D.WE (i:=p.2+1) j (by omega) hj hone,hE,hpd] at hv
      simp only[M7,Lr] at hv
      have hV:D.V p.2 = .pointer (some ad):=by
       split at hv
       ·exact Option.some.inj hv
       ·rename_i hc
        have:a<(D.Ef p.2).length:=by
         rcases Nat.lt_or_ge a (D.Ef p.2).length with h | h
         ·exact h
         ·rw[List.getD_eq_getElem?_getD,List.getElem?_eq_none h] at hv; cases hv
        exact absurd (by simp[this]) hc
      have mv:∀ b,(p.1.op = .move (.tmp b)∨p.1.op = .nilCheck (.tmp b))→lY ops n b p.2=some t → ∃ b,E0.getD t none=some (.pointer (some b))∧b.block=ad.block ∧ ∀ k,k≤ops.length→(D.Ef k).getD t none=E0.getD t none:=by
       intro b hop h
       rcases hst with ⟨regs,hw,_,hf⟩ | ⟨_,hu,_⟩
       ·have h1:=hf.more.mv (.tmp b) hop
        rw[hV] at h1
        exact kH D n b p.2 (by omega) h (hw b _ (M9 h1).2)
       ·rw[hV] at hu; cases hu
      split at h
      ·rename_i T b f hop
       rcases hst with ⟨regs,hw,_,hf⟩ | ⟨_,hu,_⟩
       ·obtain ⟨a0,a',h1,h2,h3⟩:=hf.more.fa T (.tmp b) f hop
        rw[hV] at h2
        cases h2
        obtain ⟨b',g1,g2,g3⟩:=kH D n b p.2 (by omega) h (hw b _ (M9 h1).2)
        exact ⟨b',g1,g2.trans h3.symm,g3⟩
       ·rw[hV] at hu; cases hu
      ·rename_i b hop
       exact mv b (.inl hop) h
      ·rename_i b hop
       exact mv b (.inr hop) h
      ·cases h
   ·cases h
theorem pB (D:Data P qf ops E0 σ0 E' σ'):∀ (n a j:Nat) {t:Nat} {x:Option Addr} {l c:Nat},j≤ops.length→vY ops n a j=some t→(D.Ef j).getD a none=some (.slice x l c) →
  E0.getD t none=some (.slice x l c) ∧ ∀ k,k≤ops.length→(D.Ef k).getD t none=E0.getD t none
 | 0,a,j,t,x,l,c,hj,h,hv=>by cases h
 | n+1,a,j,t,x,l,c,hj,h,hv=>by
   simp only[vY] at h
   split at h
   ·rename_i hnil
    cases h
    have hno:∀ (k:Nat) (o:Oper),ops[k]?=some o→o.dst≠some a:=by
     intro k o hk hd
     have:(o,k) ∈ ops.zipIdx.filter fun p=>p.1.dst == some a:=List.mem_filter.2 ⟨mem_zipIdx hk,by simp[hd]⟩
     rw[hnil] at this; cases this
    have hsame:∀ k,k≤ops.length→(D.Ef k).getD a none=E0.getD a none:=fun k hk=>by
     rw[D.WE (i:=0) k (Nat.zero_le _) hk fun x o _ _ hx=>hno x o hx,D.e0]
    exact ⟨by rw[← hsame j hj]; exact hv,hsame⟩
   ·rename_i p hp
    cases hlt:Nat.blt p.2 j with
    | false=>rw[hlt] at h; cases h
    | true=>
      rw[hlt,cond_true] at h
      have hlt:p.2<j:=by simpa [Nat.blt_eq] using hlt
      have hmem:p ∈ ops.zipIdx.filter fun p=>p.1.dst == some a:=by rw[hp]; simp
      obtain ⟨hm1,hm2⟩:=List.mem_filter.1 hmem
      have hpo:ops[p.2]?=some p.1:=List.mem_zipIdx_iff_getElem?.1 hm1
      have hpd:p.1.dst=some a:=by simpa using hm2
      have hone:∀ (k:Nat) (o:Oper),p.2+1≤k→k<j→ops[k]?=some o→o.dst≠some a:=by
       intro k o h1 h2 hk hd
       have:(o,k) ∈ ops.zipIdx.filter fun p=>p.1.dst == some a:=List.mem_filter.2 ⟨mem_zipIdx hk,by simp[hd]⟩
       rw[hp] at this
       have:=List.mem_singleton.1 this
       rw[← this] at h1
       simp only at h1
       omega
      obtain ⟨hE,hst⟩:=D.step p.2 p.1 hpo
      rw[D.WE (i:=p.2+1) j (by omega) hj hone,hE,hpd] at hv
      simp only[M7,Lr] at hv
      have hV:D.V p.2 = .slice x l c:=by
       split at hv
       ·exact Option.some.inj hv
       ·rename_i hc
        have:a<(D.Ef p.2).length:=by
         rcases Nat.lt_or_ge a (D.Ef p.2).length with h | h
         ·exact h
         ·rw[List.getD_eq_getElem?_getD,List.getElem?_eq_none h] at hv; cases hv
        exact absurd (by simp[this]) hc
      split at h
      ·rename_i b hop
       rcases hst with ⟨regs,hw,_,hf⟩ | ⟨_,hu,_⟩
       ·have h1:=hf.more.mv (.tmp b) (.inl hop)
        rw[hV] at h1
        exact pB D n b p.2 (by omega) h (hw b _ (M9 h1).2)
       ·rw[hV] at hu; cases hu
      ·cases h
   ·cases h
def only (h:Nat) (σ:Aa):Aa:=σ.mapIdx fun x o=>if x=h then o else .dead
theorem R.only {μ:Mu} {σ:Aa} {w:World} (hR:R P μ σ w) (h:Nat):R P μ (only h σ) w:=by
 have get:∀ x o,(AX.only h σ)[x]?=some o→(x=h∧σ[x]?=some o)∨o = .dead:=by
  intro x o ho
  unfold AX.only at ho
  rw[List.getElem?_mapIdx] at ho
  cases hq:σ[x]? with
  | none=>rw[hq] at ho; cases ho
  | some y=>
    rw[hq] at ho
    simp only[Option.map_some,Option.some.injEq] at ho
    by_cases hx:x=h
    ·rw[if_pos hx] at ho; exact .inl ⟨hx,by rw[ho]⟩
    ·rw[if_neg hx] at ho; exact .inr ho.symm
 refine ⟨?_,hR.lt, ?_⟩
 ·intro x o k ho hk
  rcases get x o ho with ⟨_,h2⟩ | rfl
  ·exact hR.obj x o k h2 hk
  ·trivial
 ·intro a b ka kb h1 h2 h3 h4 h6 h5
  obtain ⟨o,ho,hd⟩:=h3
  obtain ⟨o2,ho2,hd2⟩:=h4
  rcases get a o ho with ⟨e1,_⟩ | e
  ·rcases get b o2 ho2 with ⟨e2,_⟩ | e
   ·rw[e1,e2]
   ·exact absurd e hd2
  ·exact absurd e hd
theorem sr (D:Data P qf ops E0 σ0 E' σ') {k i:Nat} (h:Aeo ops k i=true):i<k ∧ ∀ b,b<(D.Sf i).length→(D.Sf (k+1))[b]?=(D.Sf k)[b]?:=by
 unfold Aeo at h
 split at h
 rotate_left
 ·cases h
 rename_i o ho
 have hkl:k<ops.length:=(List.getElem?_eq_some_iff.1 ho).1
 split at h
 rotate_left
 ·cases h
 rename_i T a y hop
 split at h
 rotate_left
 ·cases h
 rename_i p hp
 simp only[Bool.and_eq_true,Nat.blt_eq] at h
 obtain ⟨⟨hal,hjp⟩,hpk⟩:=h
 unfold Akn at hal
 split at hal
 rotate_left
 ·cases hal
 rename_i T' hpop
 have hmem:p ∈ ops.zipIdx.filter fun p=>p.1.dst == some a:=by rw[hp]; simp
 obtain ⟨hm1,hm2⟩:=List.mem_filter.1 hmem
 have hpo:ops[p.2]?=some p.1:=List.mem_zipIdx_iff_getElem?.1 hm1
 have hpd:p.1.dst=some a:=by simpa using hm2
 have hone:∀ (x:Nat) (o:Oper),p.2+1≤x→x<k→ops[x]?=some o→o.dst≠some a:=by
  intro x o h1 h2 hk hd
  have:(o,x) ∈ ops.zipIdx.filter fun p=>p.1.dst == some a:=List.mem_filter.2 ⟨mem_zipIdx hk,by simp[hd]⟩
  rw[hp] at this
  have:=List.mem_singleton.1 this
  rw[← this] at h1
  simp only at h1
  omega
 refine ⟨by omega,fun b hb=>?_⟩
 rcases (D.step k o ho).2 with ⟨regs,hw,_,hf⟩ | ⟨_,_,hs⟩
 rotate_left
 ·rw[hs]
 obtain ⟨ad,h1,h2⟩:=hf.more.st T (.tmp a) y hop
 have hv:(D.Ef k).getD a none=some (.pointer (some ad)):=hw a _ (M9 h1).2
 obtain ⟨hE,hst⟩:=D.step p.2 p.1 hpo
 rw[D.WE (i:=p.2+1) k (by omega) (by omega) hone,hE,hpd] at hv
 simp only[M7,Lr] at hv
 have hV:D.V p.2 = .pointer (some ad):=by
  split at hv
  ·exact Option.some.inj hv
  ·rename_i hc
   have:a<(D.Ef p.2).length:=by
    rcases Nat.lt_or_ge a (D.Ef p.2).length with h | h
    ·exact h
    ·rw[List.getD_eq_getElem?_getD,List.getElem?_eq_none h] at hv; cases hv
   exact absurd (by simp[this]) hc
 rcases hst with ⟨regs,hw,_,hf2⟩ | ⟨_,hu,_⟩
 ·obtain ⟨a',g1,g2⟩:=hf2.more.al T' hpop
  rw[hV] at g1
  cases g1
  refine h2 b ?_
  have:=D.JV (i:=i) p.2 (by omega) (by omega)
  omega
 ·rw[hV] at hu; cases hu
theorem Qe.Ah4 {D:Data P qf ops E0 σ0 E' σ'} (hd:R9 P ops qf) (h:Qe D hi μ0 w0 listed μ w) (hr:kY P qf ops listed i) {bk:Nat} {Q:Aa→Prop} (hat:∀ σ2:Aa,σ2[bk]?=(D.Sf i)[bk]?→Q σ2) (hcl:J9 P ops qf i = .ld)
  (hold:bk<(D.Sf i).length → ∀ k,k<ops.length→Ul ops qf k i=true→(bk<(D.Sf k).length→(D.Sf (k+1))[bk]?=(D.Sf k)[bk]?)∧(k<i→bk<(D.Sf k).length)):∃ σ2,R P μ σ2 w∧Q σ2:=by
 have hlt:=hr.lt
 obtain ⟨m,hm,hlo,hml,hR⟩:=h.mem
 cases hq:(D.Sf i)[bk]? with
 | none=>exact ⟨[],hR.pre List.nil_prefix,hat [] (by rw[hq]; simp)⟩
 | some x=>
   have hlti:bk<(D.Sf i).length:=(List.getElem?_eq_some_iff.1 hq).1
   have hold:=hold hlti
   have ici:J9 P ops qf i ≠ .lo:=by rw[hcl]; simp
   have loose_:∀ k,k<ops.length→k≠i→J9 P ops qf k = .lo→(L listed k↔¬ k<i)→Ul ops qf k i=true:=by
    intro k hk hki hck hl
    rcases hd.mem k i hk hlt hki hck (by rw[hcl]; simp) with hord | hfar
    ·have hord':ordered (RX ops []) i k=true:=by unfold ordered at hord ⊢; rw[Bool.or_comm]; exact hord
     have:=hr.ord k hki hord'
     have h2:=this.symm.trans hl
     by_cases hc:k<i
     ·exact absurd hc (h2.1 hc)
     ·exact absurd (h2.2 hc) hc
    ·exact hfar
   have stepk:∀ k,k<ops.length→bk<(D.Sf k).length→(J9 P ops qf k ≠ .lo∨Ul ops qf k i=true)→(D.Sf (k+1))[bk]?=(D.Sf k)[bk]?:=by
    intro k hk hlk hh
    rcases hh with hh | hh
    ·obtain ⟨τ,hτ⟩:=D.quiet hk hh
     rw[← hτ,List.getElem?_append_left hlk]
    ·exact (hold k hk hh).1 hlk
   have same:(D.Sf m)[bk]?=(D.Sf i)[bk]?:=by
    rcases Nat.lt_or_ge m i with hmi | him
    ·have hml':J9 P ops qf m = .lo:=hml.resolve_left (by omega)
     have hmf:Ul ops qf m i=true:=loose_ m (by omega) (by omega) hml' ⟨fun hl=>by have:=(hlo m (by omega) hml').1 hl; omega,fun hn=>by omega⟩
     have h0:bk<(D.Sf m).length:=(hold m (by omega) hmf).2 hmi
     have:∀ m',m≤m'→m'≤i→(D.Sf m')[bk]?=(D.Sf m)[bk]?:=by
      intro m' h1
      induction h1 with
      | refl=>intro _; rfl
      | @step k hk ih=>
        intro h2
        have hk':m≤k:=hk
        rw[stepk k (by omega) (Nat.lt_of_lt_of_le h0 (D.JV k hk' (by omega))) ?_,ih (by omega)]
        by_cases hck:J9 P ops qf k = .lo
        ·have hki:k≠i:=by omega
         have hkm:=hlo k (by omega) hck
         exact .inr (loose_ k (by omega) hki hck ⟨fun hl=>by have:=hkm.1 hl; omega,fun hn=>by omega⟩)
        ·exact .inl hck
     exact (this i (by omega) (Nat.le_refl _)).symm
    ·have:∀ m',i≤m'→m'≤m→(D.Sf m')[bk]?=(D.Sf i)[bk]?:=by
      intro m' h1
      induction h1 with
      | refl=>intro _; rfl
      | @step k hk ih=>
        intro h2
        have hk':i≤k:=hk
        rw[stepk k (by omega) (Nat.lt_of_lt_of_le hlti (D.JV k hk' (by omega))) ?_,ih (by omega)]
        by_cases hck:J9 P ops qf k = .lo
        ·have hki:k≠i:=by rintro rfl; exact ici hck
         have hkm:=hlo k (by omega) hck
         exact .inr (loose_ k (by omega) hki hck ⟨fun _=>by omega,fun _=>hkm.2 (by omega)⟩)
        ·exact .inl hck
     exact this m him (Nat.le_refl _)
   refine ⟨AX.only bk (D.Sf m),hR.only _,hat _ ?_⟩
   unfold AX.only
   rw[List.getElem?_mapIdx,same,hq]
   simp
theorem Qe.far {D:Data P qf ops E0 σ0 E' σ'} (hd:R9 P ops qf) (h:Qe D hi μ0 w0 listed μ w) (hr:kY P qf ops listed i) {o:Oper} (ho:ops[i]?=some o) (hop:yA o) {regs:AZ} (hw:Nx (D.Ef i) regs)
  (hf:mV P o (qf i).1 (fH o (tB regs)) (D.Sf i) (D.V i) (D.Sf (i+1))) (hlive:∀ t b,E0.getD t none=some (.pointer (some b))→b.block<σ0.length∨(D.Sf ops.length).length≤b.block):
  ∃ σ2,R P μ σ2 w∧ig P o (fH o (tB regs)) σ2 (D.V i):=by
 have hlt:=hr.lt
 have hcl:=(oZ (P:=P) (qf:=qf) ho hop).1
 rcases hop with ⟨T,a,hop⟩ | ⟨T,a,lo,hi',mx,hop⟩
 ·obtain ⟨ad,hx,hat⟩:=hf.more.load T (.tmp a) hop
  refine h.Ah4 hd hr hat hcl fun hlti k hk hh=>?_
  unfold Ul at hh
  rw[Bool.or_eq_true,Bool.and_eq_true] at hh
  rcases hh with hh | ⟨_,hh⟩
  ·obtain ⟨t,o',ho',hc,hcase⟩:=xx hh
   rw[ho] at ho'
   cases ho'
   rcases hcase with ⟨T',a',hop',hroot⟩ | ⟨T',a',l1,l2,l3,hop',_⟩
   rotate_left
   ·rw[hop] at hop'; cases hop'
   rw[hop] at hop'
   cases hop'
   obtain ⟨b,hb1,hb2,hb3⟩:=kH D 8 a i (by omega) hroot (hw a _ (M9 hx).2)
   have h0:ad.block<(D.Sf 0).length:=by
    rw[D.s0]
    rcases hlive t b hb1 with hh | hh
    ·rw[← hb2]; exact hh
    ·have:=D.JV (i:=i) ops.length (by omega) (Nat.le_refl _)
     omega
   refine ⟨fun _=>?_,fun _=>Nat.lt_of_lt_of_le h0 (D.JV k (Nat.zero_le _) (by omega))⟩
   rcases D.GI k _ (List.getElem?_eq_getElem hk) with hkp | hkp
   ·rcases hkp t hc with ⟨p,h1,h2⟩ | ⟨p,l,c,h1,_⟩
    ·rw[hb3 k (by omega),hb1] at h1
     cases h1
     rw[← hb2]; exact h2 b rfl
    ·rw[hb3 k (by omega),hb1] at h1; cases h1
   ·rw[hkp.2]
  ·exact ⟨fun _=>(sr D hh).2 _ hlti,fun hki=>by have:=(sr D hh).1; omega⟩
 ·obtain ⟨x,l,c,hx,hat⟩:=hf.more.sl T (.tmp a) lo hi' mx hop
  cases x with
  | none=>
    obtain ⟨m,_,_,_,hR⟩:=h.mem
    exact ⟨[],hR.pre List.nil_prefix,hat [] fun b e=>by cases e⟩
  | some ad=>
    refine h.Ah4 hd hr (bk:=ad.block) (fun σ2 h2=>hat σ2 fun b e=>by cases e; exact h2) hcl fun hlti k hk hh=>?_
    unfold Ul at hh
    rw[Bool.or_eq_true,Bool.and_eq_true] at hh
    rcases hh with hh | ⟨hh,_⟩
    rotate_left
    ·obtain ⟨o',T',a',ho',hop'⟩:=Ah6 hh
     rw[ho] at ho'
     cases ho'
     rw[hop] at hop'; cases hop'
    obtain ⟨t,o',ho',hc,hcase⟩:=xx hh
    rw[ho] at ho'
    cases ho'
    rcases hcase with ⟨T',a',hop',_⟩ | ⟨T',a',l1,l2,l3,hop',hroot,hbare⟩
    ·rw[hop] at hop'; cases hop'
    rw[hop] at hop'
    cases hop'
    obtain ⟨hb1,hb3⟩:=pB D 8 a i (by omega) hroot (hw a _ (M9 hx).2)
    have hg:∀ (ok:Oper),ops[k]?=some ok→ok.guard=none:=fun ok hok=>by
     unfold bare at hbare
     rw[hok] at hbare
     simpa using hbare
    rcases D.GI k _ (List.getElem?_eq_getElem hk) with hkp | hkp
    ·rcases hkp t hc with ⟨p,h1,_⟩ | ⟨p,l',c',h1,h2⟩
     ·rw[hb3 k (by omega),hb1] at h1; cases h1
     ·rw[hb3 k (by omega),hb1] at h1
      cases h1
      exact ⟨fun _=>(h2 ad rfl).2,fun _=>(h2 ad rfl).1⟩
    ·exact absurd (hg _ (List.getElem?_eq_getElem hk)) hkp.1
def jF (D:Data P qf ops E0 σ0 E' σ') (listed:Array Bool) (μ:Mu) (tmps:Array Value):Prop:=
 ∀ t,∃ m,m≤ops.length∧(∀ j o,ops[j]?=some o→o.dst=some t→(L listed j↔j<m)) ∧ ∀ v,(D.Ef m).getD t none=some v → ∃ v',tmps[t]?=some v'∧RV μ v v'
theorem jF.at {D:Data P qf ops E0 σ0 E' σ'} (hd:R9 P ops qf) {tmps:Array Value} (h:jF D listed μ tmps) (hr:kY P qf ops listed i) {o:Oper} (ho:ops[i]?=some o) {t:Nat} (ht:t ∈ xR ops o∨o.dst=some t):
  ∀ v,(D.Ef i).getD t none=some v → ∃ v',tmps[t]?=some v'∧RV μ v v':=by
 obtain ⟨m,hm,hw,hv⟩:=h t
 have hlt:=hr.lt
 have key:∀ j oj,ops[j]?=some oj→oj.dst=some t→(L listed j↔j<i):=by
  intro j oj hj hdj
  by_cases hji:j=i
  ·subst hji
   constructor
   ·intro hl; exact absurd hl hr.un
   ·intro hl; omega
  ·have hord:=hd.reg j i oj o t hj ho hji hdj ht
   have hord':ordered (RX ops []) i j=true:=by unfold ordered at hord ⊢; rw[Bool.or_comm]; exact hord
   exact hr.ord j hji hord'
 have same:(D.Ef m).getD t none=(D.Ef i).getD t none:=by
  rcases Nat.le_total i m with him | hmi
  ·refine D.WE m him hm fun k ok h1 h2 hk hdk=>?_
   have a:=(hw k ok hk hdk).2 h2
   have:=(key k ok hk hdk).1 a
   omega
  ·refine (D.WE i hmi (by omega) fun k ok h1 h2 hk hdk=>?_).symm
   have a:=(key k ok hk hdk).2 h2
   have:=(hw k ok hk hdk).1 a
   omega
 rw[← same]; exact hv
theorem jF.put {D:Data P qf ops E0 σ0 E' σ'} (hd:R9 P ops qf) {a:Act} (h:jF D listed μ a.tmps) (hr:kY P qf ops listed i) {o:Oper} (ho:ops[i]?=some o) (hsz:E0.length≤a.tmps.size) {μ':Mu} (hle:μ.le μ') {v':Value} (hv:RV μ' (D.V i) v'):
  jF D (listed.setIfInBounds i true) μ' (a.put o.dst v').tmps:=by
 have hset:∀ j,L (listed.setIfInBounds i true) j↔j=i∨L listed j:=fun j=>yI (by rw[hr.size]; exact hr.lt)
 have hlt:=hr.lt
 intro t
 by_cases hdt:o.dst=some t
 ·refine ⟨i+1,by omega, ?_, ?_⟩
  ·intro j oj hj hdj
   rw[hset]
   by_cases hji:j=i
   ·subst hji; simp
   ·have hord:=hd.reg j i oj o t hj ho hji hdj (.inr hdt)
    have hord':ordered (RX ops []) i j=true:=by unfold ordered at hord ⊢; rw[Bool.or_comm]; exact hord
    have:=hr.ord j hji hord'
    simp only[hji,false_or]
    rw[this]; omega
  ·intro v hvv
   rw[(D.step i o ho).1,hdt] at hvv
   simp only[M7,Lr] at hvv
   simp only[hdt,Act.put,Array.getElem?_setIfInBounds,if_true]
   split at hvv
   ·rename_i hc
    cases hvv
    have:t<a.tmps.size:=by
     have:=D.xt i (by omega)
     omega
    rw[if_pos this]
    exact ⟨v',rfl,hv⟩
   ·rename_i hc
    have:t<(D.Ef i).length:=by
     rcases Nat.lt_or_ge t (D.Ef i).length with h | h
     ·exact h
     ·rw[List.getD_eq_getElem?_getD,List.getElem?_eq_none h] at hvv; cases hvv
    exact absurd ⟨trivial,this⟩ hc
 ·obtain ⟨m,hm,hw,hvm⟩:=h t
  refine ⟨m,hm, ?_, ?_⟩
  ·intro j oj hj hdj
   rw[hset]
   have hji:j≠i:=by
    rintro rfl
    rw[ho] at hj; cases hj; exact hdt hdj
   simp only[hji,false_or]
   exact hw j oj hj hdj
  ·intro v hvv
   obtain ⟨u,hu1,hu2⟩:=hvm v hvv
   exact ⟨u,by rw[SC hdt]; exact hu1,hu2.mono hle⟩
end
end Go.AX
end
