/- Regions whose order is drawn: what is needed of the order of the text.; Regions whose order is drawn: every order comes to what the order of the text  -/
import Derived.Orders
import Derived.Test.YtjbledomkmdkmaaGreatP5
set_option linter.unusedVariables false
set_option linter.unusedSimpArgs false
set_option linter.unusedSectionVars false
namespace Go.AX
open Go
noncomputable section
section
variable {ρ:Type} {P:Program} [AA]
theorem Vu {f:Edge->Nat} {j:Nat}:∀ {l:List Edge} {s:Nat},(l.foldl (fun s e=>s ||| 2 ^ e.on ||| f e) s).testBit j=true->s.testBit j=true \/ ∃ e ∈ l,j=e.on\/(f e).testBit j=true
 | [],s,h=>.inl h
 | e::l,s,h=>by
   simp only[zF] at h;rcases Vu h with h | ⟨e',he',h⟩
   ·rw[Nat.testBit_or,Nat.testBit_or,Aap,Aap,Nat.testBit_two_pow] at h;rcases h with (h | h) | h
    ·exact .inl h
    ·exact .inr ⟨e,by simp,.inl (by simpa [eq_comm] using h)⟩
    ·exact .inr ⟨e,by simp,.inr h⟩
   ·exact .inr ⟨e',by simp[he'],h⟩
theorem iO {acc:List Nat} {o:Oper} {j:Nat} (h:(Zf acc o).testBit j=true):∃ e ∈ o.after.toList,Region.binds .any e=true/\(j=e.on\/(acc.getD e.on 0).testBit j=true):=by
 rcases Vu (f:=fun e=>acc.getD e.on 0) h with h | ⟨e,he,h⟩
 ·simp at h
 ·rw[zO] at he;exact ⟨e,he.1,he.2,h⟩
theorem VA:∀ (os:List Oper) (acc:List Nat),(LM os acc).take acc.length=acc/\(LM os acc).length=acc.length+os.length /\
  ∀ i o,os[i]?=some o->(LM os acc)[acc.length+i]?=some (Zf ((LM os acc).take (acc.length+i)) o)
 | [],acc=>⟨by simp[LM],by simp[LM],by simp⟩
 | o::os,acc=>by
   simp only[LM];obtain ⟨h1,h2,h3⟩:=VA os (acc++[Zf acc o]);simp only[yi,zd] at h1 h2 h3;have hpre:(LM os (acc++[Zf acc o])).take acc.length=acc:=by
    have:=zC (List.take acc.length) h1;rw[List.take_take] at this;simpa [Abk (Nat.le_succ _)] using this
   refine ⟨hpre,by rw[h2]; simp; omega, ?_⟩;intro i o' hi;cases i with
   | zero=>
     simp at hi; subst hi;rw[yl,hpre];have:=zC (fun l=>l[acc.length]?) h1;simp only[zt] at this;rw[yk (by omega)] at this;rw[this]; simp
   | succ i=>
     simp at hi;have:=h3 i o' hi
     rwa [show acc.length+1+i=acc.length+(i+1) by omega] at this
section
variable {ops:List Oper}
theorem jM {i j:Nat} {o:Oper} (ho:ops[i]?=some o) (h:((LM ops []).getD i 0).testBit j=true):
  ∃ e ∈ o.after.toList,Region.binds .any e=true/\(j=e.on\/(e.on<i/\((LM ops []).getD e.on 0).testBit j=true)):=by
 obtain ⟨_,h2,h3⟩:=VA ops [];have:=h3 i o ho;simp only[zo,IN] at this;rw[yd,this,Aaz] at h;obtain ⟨e,he,hb,hj⟩:=iO h;refine ⟨e,he,hb, ?_⟩;rcases hj with hj | hj
 ·exact .inl hj
 ·right;rw[yd,zt] at hj;by_cases hlt:e.on<i
  ·rw[yk hlt] at hj;exact ⟨hlt,by rw[yd]; exact hj⟩
  ·rw[ym hlt] at hj; simp at hj
theorem Ys {i j:Nat} (h:((LM ops []).getD i 0).testBit j=true):∃ o,ops[i]?=some o:=by
 obtain ⟨_,h2,_⟩:=VA ops [];rcases zL i ops.length with hi | hi
 ·exact ⟨_,yg hi⟩
 ·rw[yd,zg (by rw[h2]; simpa using hi)] at h;simp at h
theorem Yr {S:Nat->Prop} (hdown:∀ i o,ops[i]?=some o->S i -> ∀ e ∈ o.after.toList,Region.binds .any e=true->S e.on):
  ∀ (i:Nat) {o:Oper} {j:Nat},ops[i]?=some o->(∀ e ∈ o.after.toList,Region.binds .any e=true->S e.on)->((LM ops []).getD i 0).testBit j=true->S j:=by
 intro i
 induction i using Nat.strongRecOn with
 | _ i ih=>
   intro o j ho hedges h;obtain ⟨e,he,hb,hj⟩:=jM ho h;rcases hj with rfl | ⟨hlt,hj⟩
   ·exact hedges e he hb
   ·obtain ⟨o',ho'⟩:=Ys hj;exact ih e.on hlt ho' (hdown _ _ ho' (hedges e he hb)) hj
theorem oN (h0:∀ i o,ops[i]?=some o -> ∀ e ∈ o.after.toList,Region.binds .any e=true->e.on<i):∀ (i:Nat) {j:Nat},((LM ops []).getD i 0).testBit j=true->j<i:=by
 intro i
 induction i using Nat.strongRecOn with
 | _ i ih=>
   intro j h;obtain ⟨o,ho⟩:=Ys h;obtain ⟨e,he,hb,hj⟩:=jM ho h;have hlt:=h0 i o ho e he hb;rcases hj with rfl | ⟨_,hj⟩
   ·exact hlt
   ·exact Nat.lt_trans (ih e.on hlt hj) hlt
structure LI (P:Program) (ops:List Oper) (qf:Nat->QF):Prop where
 down:∀ i o,ops[i]?=some o -> ∀ e ∈ o.after.toList,Region.binds .any e=true->e.on<i
 reg:∀ i j oi oj t,ops[i]?=some oi->ops[j]?=some oj->i≠j->oi.dst=some t->(t ∈ iN ops oj\/oj.dst=some t)->ordered (LM ops []) i j=true
 mem:∀ i j,i<ops.length->j<ops.length->i≠j->H3 P ops qf i = .lo->H3 P ops qf j ≠ .pure->ordered (LM ops []) i j=true\/MN ops qf i j=true
theorem mem_zipIdx {l:List Oper} {i:Nat} {o:Oper} (h:l[i]?=some o):(o,i) ∈ l.zipIdx:=by
 rw[zY]; exact h
theorem dX {qf:Nat->QF} (h:Um P ops qf=true):LI P ops qf:=by
 unfold Um at h;simp only[Aay,zn,Aap,Abv,zJ,zr,ne_eq] at h;refine ⟨?_, ?_, ?_⟩
 ·intro i o ho e he hb;have:=(h (o,i) (mem_zipIdx ho)).1 e he;rcases this with h | h
  ·rw[hb] at h; cases h
  ·simpa [Ac2] using h
 ·intro i j oi oj t hi hj hij hdst hl;have:=(h (oi,i) (mem_zipIdx hi)).2 (oj,j) (mem_zipIdx hj);rcases this with h | h
  ·exact absurd h hij
  ·have h:=h.1;simp only[hdst] at h;simp only[Aap,zn,Abv,zr,ne_eq] at h;rcases h with h | h
   ·rcases hl with hl | hl
    ·have:=h.1; simp[hl] at this
    ·exact absurd hl h.2
   ·exact h
 ·intro i j hi hj hij hc hcj;have:=(h (ops[i],i) (mem_zipIdx (yg hi))).2 (ops[j],j) (mem_zipIdx (yg hj));rcases this with h | h
  ·exact absurd h hij
  ·have h:=h.2;rcases h with (h | h) | h
   ·rcases h with h | h
    ·exact absurd hc h
    ·exact absurd h hcj
   ·exact .inl h
   ·exact .inr h
end
structure Data (P:Program) (qf:Nat->QF) (ops:List Oper) (E0:Bc) (J0_:Aa) (E':Bc) (J':Aa) where
 Ef:Nat->Bc
 Sf:Nat->Aa
 V:Nat->Value
 e0:Ef 0=E0
 s0:Sf 0=J0_
 en:Ef ops.length=E'
 sn:Sf ops.length=J'
 step:∀ k o,ops[k]?=some o->Ef (k+1)=Jz (Ef k) o.dst (some (V k)) /\
  ((∃ regs,JO (Ef k) regs/\yes ops o regs/\X9 P o (qf k).1 (TK o (cf regs)) (Sf k) (V k) (Sf (k+1)))\/((∃ regs,JO (Ef k) regs/\no ops o regs)/\V k=undef/\Sf (k+1)=Sf k))
 DH:∀ k o,ops[k]?=some o->Kept (qf k).2 (Ef k) (Sf k) (Sf (k+1))\/(o.guard≠none/\Sf (k+1)=Sf k)
theorem sY {qf:Nat->QF} {all:List Oper} {L:List (Nat × Oper)} {E E':Bc} {J J':Aa} (h:Tr P qf all L E J E' J'):
  ∃ (Ef:Nat->Bc) (Sf:Nat->Aa) (V:Nat->Value),Ef 0=E/\Sf 0=J/\Ef L.length=E'/\Sf L.length=J' /\ ∀ k i o,L[k]?=some (i,o)->Ef (k+1)=Jz (Ef k) o.dst (some (V k)) /\
   ((∃ regs,JO (Ef k) regs/\yes all o regs/\X9 P o (qf i).1 (TK o (cf regs)) (Sf k) (V k) (Sf (k+1)))\/((∃ regs,JO (Ef k) regs/\no all o regs)/\V k=undef/\Sf (k+1)=Sf k))/\(Kept (qf i).2 (Ef k) (Sf k) (Sf (k+1))\/(o.guard≠none/\Sf (k+1)=Sf k)):=by
 induction h with
 | @nil E J=>exact ⟨fun _=>E,fun _=>J,fun _=>undef,rfl,rfl,rfl,rfl,by simp⟩
 | @step i o rest E regs E' J J1_ J' v hw hy hf hkp ht ih=>
   obtain ⟨Ef,Sf,V,h1,h2,h3,h4,h5⟩:=ih;refine ⟨fun k=>match k with | 0=>E | k+1=>Ef k,fun k=>match k with | 0=>J | k+1=>Sf k,fun k=>match k with | 0=>v | k+1=>V k,rfl,rfl,h3,h4, ?_⟩;intro k i' o' hk;cases k with
   | zero=>
     simp at hk; obtain ⟨rfl,rfl⟩:=hk;refine ⟨h1,.inl ⟨regs,hw,hy, ?_⟩,.inl ?_⟩
     ·simp only[h2]; exact hf
     ·simp only[h2]; exact hkp
   | succ k=>exact h5 k i' o' (by simpa using hk)
 | @skip i o rest E regs E' J J' hw hn ht ih=>
   obtain ⟨Ef,Sf,V,h1,h2,h3,h4,h5⟩:=ih;refine ⟨fun k=>match k with | 0=>E | k+1=>Ef k,fun k=>match k with | 0=>J | k+1=>Sf k,fun k=>match k with | 0=>undef | k+1=>V k,rfl,rfl,h3,h4, ?_⟩;intro k i' o' hk;cases k with
   | zero=>
     simp at hk; obtain ⟨rfl,rfl⟩:=hk;exact ⟨h1,.inr ⟨⟨regs,hw,hn⟩,rfl,h2⟩,.inr ⟨by obtain ⟨j,want,hg,_⟩:=hn; rw[hg]; simp,h2⟩⟩
   | succ k=>exact h5 k i' o' (by simpa using hk)
theorem sX {qf:Nat->QF} {ops:List Oper} {E E':Bc} {J J':Aa} (h:Tr P qf ops (ops.zipIdx.map fun x=>(x.2,x.1)) E J E' J'):Nonempty (Data P qf ops E J E' J'):=by
 obtain ⟨Ef,Sf,V,h1,h2,h3,h4,h5⟩:=sY h;refine ⟨⟨Ef,Sf,V,h1,h2,by simpa using h3,by simpa using h4,fun k o hk=>?_,fun k o hk=>?_⟩⟩
 ·have:=h5 k k o (by simp[List.getElem?_zipIdx,hk]);exact ⟨this.1,this.2.1⟩
 ·exact (h5 k k o (by simp[List.getElem?_zipIdx,hk])).2.2
theorem R.pre {Z:Mu} {J J2_:Aa} {w:World} (h:R P Z J2_ w) (hp:J <+: J2_):R P Z J w:=by
 obtain ⟨t,rfl⟩:=hp;refine ⟨?_,h.lt, ?_⟩
 ·intro x o k ho hk;have hlt:x<J.length:=(yu.1 ho).1;exact h.obj x o k (by rw[AT hlt]; exact ho) hk
 ·intro a b ka kb h1 h2 h3 h4 h6 h5;have hal:∀ x,alive J x->alive (J++t) x:=by
   intro x ⟨o,ho,hd⟩;have hlt:x<J.length:=(yu.1 ho).1;exact ⟨o,by rw[AT hlt]; exact ho,hd⟩
  have hwal:∀ x,alive J x->Az J x->Az (J++t) x:=by
   intro x ⟨o,ho,hd⟩ hw;have hlt:x<J.length:=(yu.1 ho).1;unfold Az at hw ⊢
   rwa [AT hlt]
  exact h.inj a b ka kb h1 h2 (hal a h3) (hal b h4) (h6.imp (hwal a h3) (hwal b h4)) h5
theorem R.extend {Z:Mu} {J J2_:Aa} {w:World} (h:R P Z J w) (hp:J <+: J2_) (hf:GL Z J.length J2_.length):R P Z J2_ w:=by
 obtain ⟨t,rfl⟩:=hp;have key:∀ x k,Z x=some k->x<(J++t).length->x<J.length:=by
  intro x k hk hlt;rcases zL x J.length with hx | hx
  ·exact hx
  ·rw[hf x hx hlt] at hk; cases hk
 refine ⟨?_,h.lt, ?_⟩
 ·intro x o k ho hk;have hlt:=key x k hk (yu.1 ho).1;rw[AT hlt] at ho;exact h.obj x o k ho hk
 ·intro a b ka kb h1 h2 h3 h4 h6 h5;have hal:∀ x k,Z x=some k->alive (J++t) x->alive J x:=by
   intro x k hk ⟨o,ho,hd⟩;have hlt:=key x k hk (yu.1 ho).1;rw[AT hlt] at ho;exact ⟨o,ho,hd⟩
  have hwal:∀ x k,Z x=some k->alive (J++t) x->Az (J++t) x->Az J x:=by
   intro x k hk ⟨o,ho,hd⟩ hw;have hlt:=key x k hk (yu.1 ho).1;unfold Az at hw ⊢
   rwa [AT hlt] at hw
  exact h.inj a b ka kb h1 h2 (hal a ka h1 h3) (hal b kb h2 h4) (h6.imp (hwal a ka h1 h3) (hwal b kb h2 h4)) h5
theorem R.merge {Z Z':Mu} {J J' σM:Aa} {w w':World} (hM:R P Z σM w) (hp:J <+: J') (hp':J' <+: σM) (hS:Step Z J w Z' J' w') (hR:R P Z' J' w') (hf:GL Z J.length J'.length):R P Z' σM w':=by
 have hle:=hS.le hf;have hl1:J.length<=J'.length:=hS.len;have hl2:J'.length<=σM.length:=hp'.length_le;have get':∀ x,x<J'.length->σM[x]?=J'[x]?:=by
  obtain ⟨t,rfl⟩:=hp';intro x hx; rw[AT hx]
 have get:∀ x,x<J.length->σM[x]?=J[x]?:=by
  intro x hx;rw[get' x (by omega)];obtain ⟨t,rfl⟩:=hp;rw[AT hx]
 have walive:∀ x,x<J.length->Az J x->alive σM x:=by
  intro x hx hw;obtain ⟨o,ho,hd⟩:=Rj hw;exact ⟨o,by rw[get x hx]; exact ho,hd⟩
 have wwrit:∀ x,x<J.length->Az J x->Az σM x:=by
  intro x hx hw;unfold Az at hw ⊢
  rwa [get x hx]
 have DH:∀ x k,J'.length<=x->Z x=some k->alive σM x->w'.heap[k.b]?=w.heap[k.b]?:=by
  intro x k hx hk hal;refine hS.frame k.b (hM.lt x k hk) ?_;intro h0 k0 hh0 hk0 hkb hw0;have:=hM.inj h0 x k0 k hk0 hk (walive h0 hh0 hw0) hal (.inl (wwrit h0 hh0 hw0)) hkb;omega
 refine ⟨?_,hR.lt, ?_⟩
 ·intro x o k ho hk;by_cases hx:x<J'.length
  ·rw[get' x hx] at ho;exact hR.obj x o k ho hk
  ·rw[hS.mu x (.inr (by omega))] at hk;by_cases hd:o = .dead
   ·subst hd; trivial
   ·rw[DH x k (by omega) hk ⟨o,ho,hd⟩];exact (hM.obj x o k ho hk).mono hle
 ·have side:∀ a b ka kb,Z' a=some ka->Z' b=some kb->alive σM a->alive σM b->Az σM a\/Az σM b->ka.b=kb.b->a<J'.length->J'.length<=b->a=b:=by
   intro a b ka kb ha hb hal hbl hww hab hal' hbl';rw[hS.mu b (.inr hbl')] at hb;by_cases has:a<J.length
   ·rw[hS.mu a (.inl has)] at ha;exact hM.inj a b ka kb ha hb hal hbl hww hab
   ·rcases hS.new a ka (by omega) hal' ha with h | ⟨h0,k0,hh0,hk0,hkb,hw0⟩
    ·have:=hM.lt b kb hb; omega
    ·have:=hM.inj h0 b k0 kb hk0 hb (walive h0 hh0 hw0) hbl (.inl (wwrit h0 hh0 hw0)) (hkb.trans hab);omega
  intro a b ka kb ha hb hal hbl hww hab;by_cases h1:a<J'.length <;> by_cases h2:b<J'.length
  ·have al:∀ x,x<J'.length->alive σM x->alive J' x:=by
    intro x hx ⟨o,ho,hd⟩; exact ⟨o,by rw[<- get' x hx]; exact ho,hd⟩
   have wl:∀ x,x<J'.length->Az σM x->Az J' x:=by
    intro x hx hw;unfold Az at hw ⊢
    rwa [get' x hx] at hw
   exact hR.inj a b ka kb ha hb (al a h1 hal) (al b h2 hbl) (hww.imp (wl a h1) (wl b h2)) hab
  ·exact side a b ka kb ha hb hal hbl hww hab h1 (by omega)
  ·exact (side b a kb ka hb ha hbl hal hww.symm hab.symm h2 (by omega)).symm
  ·rw[hS.mu a (.inr (by omega))] at ha;rw[hS.mu b (.inr (by omega))] at hb;exact hM.inj a b ka kb ha hb hal hbl hww hab
end
section
variable {ρ:Type} {P:Program} [AA]
section
variable {qf:Nat->QF} {ops:List Oper} {E0 E':Bc} {J0_ J':Aa}
def L (listed:Array Bool) (j:Nat):Prop:=listed.getD j false=true
theorem Data.ik (D:Data P qf ops E0 J0_ E' J'):∀ k,k<=ops.length->(D.Ef k).length=E0.length
 | 0,_=>by rw[D.e0]
 | k+1,h=>by
   rw[(D.step k _ (yg h)).1,Ep]; exact D.ik k (by omega)
theorem Data.uM (D:Data P qf ops E0 J0_ E' J') {k:Nat} (h:k<ops.length):(D.Sf k).length<=(D.Sf (k+1)).length:=by
 rcases (D.step k _ (yg h)).2 with ⟨_,_,_,hf⟩ | ⟨_,_,hs⟩
 ·exact hf.len
 ·rw[hs]; exact yj _
theorem Data.HF (D:Data P qf ops E0 J0_ E' J') {i:Nat}:∀ m,i<=m->m<=ops.length->(D.Sf i).length<=(D.Sf m).length:=by
 intro m hm
 induction hm with
 | refl=>intro _; exact yj _
 | step hm ih=>intro h; exact zj (ih (by omega)) (D.uM h)
theorem aB {k:Nat} {o:Oper} (ho:ops[k]?=some o) (h:H3 P ops qf k ≠ .lo):(H3 P ops qf k=F6 P o/\(MT o=true->(qf k).1=true))\/(isApp o=true/\(qf k).1=true/\H3 P ops qf k = .al):=by
 unfold H3 at h ⊢;rw[ho] at h ⊢;simp only at h ⊢;cases hc:(MT o && !(qf k).1) with
 | true=>rw[hc] at h; exact absurd rfl h
 | false=>
   rw[By];cases ha:(isApp o && (qf k).1) with
   | true=>
     rw[IT];simp only[zn] at ha;exact .inr ⟨ha.1,ha.2,rfl⟩
   | false=>
     rw[By];refine .inl ⟨rfl,fun hi=>?_⟩;rw[hi] at hc; simpa using hc
theorem VE {k:Nat} {o:Oper} (ho:ops[k]?=some o) (h:H3 P ops qf k = .pure):F6 P o = .pure:=by
 rcases aB (P:=P) (qf:=qf) ho (by rw[h]; simp) with ⟨h1,_⟩ | ⟨_,_,h1⟩
 ·rw[<- h1]; exact h
 ·rw[h] at h1; cases h1
theorem iB {o:Oper} {c:Call} (ho:o.op = .call c) (h:F6 P o = .al):MT o=true:=by
 unfold MT;rw[ho];cases hcal:c.callee with
 | builtin b=>
   simp only[F6,ho,hcal] at h;cases b <;> cases hm:RQ P c.argTypes.toList <;> simp[hm,ZO] at h
 | invoke r m=>simp only[hcal]
 | value f=>simp only[hcal]
theorem Data.quiet (D:Data P qf ops E0 J0_ E' J') {k:Nat} (h:k<ops.length) (hc:H3 P ops qf k ≠ .lo):D.Sf k <+: D.Sf (k+1):=by
 have ho:=yg h;rcases aB (P:=P) (qf:=qf) ho hc with ⟨hcl,hq⟩ | ⟨happ,hqk,_⟩
 rotate_left
 ·rcases (D.step k _ ho).2 with ⟨_,_,_,hf⟩ | ⟨_,_,hs⟩
  ·exact hf.app happ hqk
  ·rw[hs]; exact Ab5 _
 rcases (D.step k _ ho).2 with ⟨_,_,_,hf⟩ | ⟨_,_,hs⟩
 ·cases hcc:F6 P ops[k] with
  | pure=>rw[(hf.pure hcc).1]; exact Ab5 _
  | ld=>rw[hf.ld hcc]; exact Ab5 _
  | al=>
    refine hf.al hcc ?_;by_cases hcall:∃ c,ops[k].op = .call c
    ·obtain ⟨c,hc'⟩:=hcall;exact .inr (hq (iB hc' hcc))
    ·exact .inl fun c hc'=>hcall ⟨c,hc'⟩
  | lo=>exact absurd (hcl.trans hcc) hc
 ·rw[hs]; exact Ab5 _
theorem Data.chain (D:Data P qf ops E0 J0_ E' J') {i:Nat}:∀ m,i<=m->m<=ops.length->(∀ k,i<=k->k<m->H3 P ops qf k ≠ .lo)->D.Sf i <+: D.Sf m:=by
 intro m hm
 induction hm with
 | refl=>intro _ _; exact Ab5 _
 | step hm ih=>intro h hk; exact (ih (by omega) fun k h1 h2=>hk k h1 (by omega)).trans (D.quiet h (hk _ hm (by omega)))
theorem Data.Ob (D:Data P qf ops E0 J0_ E' J') {i t:Nat}:∀ m,i<=m->m<=ops.length->(∀ k o,i<=k->k<m->ops[k]?=some o->o.dst≠some t)->(D.Ef m).getD t none=(D.Ef i).getD t none:=by
 intro m hm
 induction hm with
 | refl=>intro _ _; rfl
 | @step m hm ih=>
   intro h hk;have ho:=yg h;rw[(D.step m _ ho).1,Kt (hk m _ hm (by omega) ho)];exact ih (by omega) fun k o h1 h2=>hk k o h1 (by omega)
theorem XF (P:Program) (qf:Nat->QF) (ops:List Oper):∀ (d i:Nat),i+d=ops.length -> ∃ m,i<=m/\m<=ops.length/\(∀ k,i<=k->k<m->H3 P ops qf k ≠ .lo)/\(m=ops.length\/H3 P ops qf m = .lo)
 | 0,i,h=>⟨i,yj _,by omega,fun k h1 h2=>absurd h2 (by omega),.inl (by omega)⟩
 | d+1,i,h=>by
   by_cases hc:H3 P ops qf i = .lo
   ·exact ⟨i,yj _,by omega,fun k h1 h2=>absurd h2 (by omega),.inr hc⟩
   ·obtain ⟨m,h1,h2,h3,h4⟩:=XF P qf ops d (i+1) (by omega);refine ⟨m,by omega,h2,fun k hk1 hk2=>?_,h4⟩;by_cases hki:k=i
    ·subst hki; exact hc
    ·exact h3 k (by omega) hk2
theorem RL (D:Data P qf ops E0 J0_ E' J') {Z:Mu} {i:Nat}:∀ m,i<=m->m<=ops.length->(∀ k,i<=k->k<m->GL Z (D.Sf k).length (D.Sf (k+1)).length)->GL Z (D.Sf i).length (D.Sf m).length:=by
 intro m hm
 induction hm with
 | refl=>intro _ _ h h1 h2; omega
 | @step m hm ih=>
   intro hl hk h h1 h2;by_cases hlt:h<(D.Sf m).length
   ·exact ih (by omega) (fun k a b=>hk k a (by omega)) h h1 hlt
   ·exact hk m hm (by omega) h (by omega) h2
theorem X7 {J J2_:Aa} (hp:J <+: J2_) {h:Nat} (hl:h<J.length):Az J2_ h=Az J h:=by
 obtain ⟨t,rfl⟩:=hp;unfold Az; rw[AT hl]
def j9 (o:Oper):Prop:=(∃ T a,o.op = .load T (.tmp a)) \/ ∃ T a lo hi mx,o.op = .slice T (.tmp a) lo hi mx
theorem im {i j:Nat} (h:ux ops qf i j=true):∃ t o,ops[j]?=some o/\t ∈ (qf i).2/\((∃ T a,o.op = .load T (.tmp a)/\Xa ops 8 a j=some t) \/ ∃ T a lo hi mx,o.op = .slice T (.tmp a) lo hi mx/\fZ ops 8 a j=some t/\bare ops i=true):=by
 unfold ux at h;split at h;rotate_left
 ·cases h
 rename_i t ht;rw[zn,Aap] at h;have hc:t ∈ (qf i).2:=by simpa using h.1
 unfold UU at ht;split at ht;rotate_left
 ·cases ht
 rename_i o ho;split at ht
 ·rename_i T a hop;exact ⟨t,o,ho,hc,.inl ⟨T,a,hop,ht⟩⟩
 ·rename_i T a lo hi mx hop;refine ⟨t,o,ho,hc,.inr ⟨T,a,lo,hi,mx,hop,ht,h.2.resolve_left fun h'=>?_⟩⟩;unfold my at h';rw[ho] at h';simp only[hop] at h';cases h'
 ·cases ht
theorem tx {j:Nat} (h:my ops j=true):∃ o T a,ops[j]?=some o/\o.op = .load T (.tmp a):=by
 unfold my at h;split at h;rotate_left
 ·cases h
 rename_i o ho;split at h;rotate_left
 ·cases h
 rename_i T a hop;exact ⟨o,T,a,ho,hop⟩
theorem UW {i j:Nat} (h:MN ops qf i j=true):∃ o,ops[j]?=some o/\j9 o:=by
 unfold MN at h;rw[Aap,zn] at h;rcases h with h | ⟨h,_⟩
 ·obtain ⟨_,o,h1,_,h2⟩:=im h;rcases h2 with ⟨T,a,h2,_⟩ | ⟨T,a,lo,hi,mx,h2,_⟩
  ·exact ⟨o,h1,.inl ⟨T,a,h2⟩⟩
  ·exact ⟨o,h1,.inr ⟨T,a,lo,hi,mx,h2⟩⟩
 ·obtain ⟨o,T,a,h1,h2⟩:=tx h;exact ⟨o,h1,.inl ⟨T,a,h2⟩⟩
theorem Zd {j:Nat} {o:Oper} (ho:ops[j]?=some o) (hop:j9 o):H3 P ops qf j = .ld/\F6 P o = .ld:=by
 have h0:F6 P o = .ld:=by rcases hop with ⟨T,a,hop⟩ | ⟨T,a,lo,hi,mx,hop⟩ <;> (unfold F6; rw[hop])
 have h1:MT o=false:=by rcases hop with ⟨T,a,hop⟩ | ⟨T,a,lo,hi,mx,hop⟩ <;> (unfold MT; rw[hop])
 have h2:isApp o=false:=by rcases hop with ⟨T,a,hop⟩ | ⟨T,a,lo,hi,mx,hop⟩ <;> (unfold isApp; rw[hop])
 refine ⟨?_,h0⟩;unfold H3;rw[ho];simp only[h1,h2,Acd,By];exact h0
theorem Data.Wd (D:Data P qf ops E0 J0_ E' J') {j:Nat} {o:Oper} (ho:ops[j]?=some o) (hop:j9 o):D.Sf (j+1)=D.Sf j:=by
 rcases (D.step j o ho).2 with ⟨_,_,_,hf⟩ | ⟨_,_,hs⟩
 ·exact hf.ld (Zd (qf:=qf) ho hop).2
 ·exact hs
theorem LI.lo_lo (hd:LI P ops qf) {i j:Nat} (hi:i<ops.length) (hj:j<ops.length) (hij:i≠j) (hc:H3 P ops qf i = .lo) (hcj:H3 P ops qf j = .lo):ordered (LM ops []) i j=true:=by
 rcases hd.mem i j hi hj hij hc (by rw[hcj]; simp) with h | h
 ·exact h
 ·obtain ⟨o,ho,hop⟩:=UW h;rw[(Zd (P:=P) (qf:=qf) ho hop).1] at hcj;cases hcj
theorem LI.uB (hd:LI P ops qf) {i j:Nat} (hi:i<ops.length) (hj:j<ops.length) (hij:i≠j) (hc:H3 P ops qf i = .lo) (hcj:H3 P ops qf j ≠ .pure) (hn:∀ k,k<ops.length->MN ops qf k j=false):ordered (LM ops []) i j=true:=by
 rcases hd.mem i j hi hj hij hc hcj with h | h
 ·exact h
 ·rw[hn i hi] at h; cases h
structure KZ (D:Data P qf ops E0 J0_ E' J') (hi:Nat) (Z0_:Mu) (w0:World) (listed:Array Bool) (Z:Mu) (w:World):Prop where
 mem:∃ m,m<=ops.length/\(∀ j,j<ops.length->H3 P ops qf j = .lo->(L listed j↔j<m))/\(m=ops.length\/H3 P ops qf m = .lo)/\R P Z (D.Sf m) w
 fresh:∀ j,j<ops.length->¬ L listed j->GL Z (D.Sf j).length (D.Sf (j+1)).length
 mu:∀ h,(h<(D.Sf 0).length\/(D.Sf ops.length).length<=h)->Z h=Z0_ h
 new:∀ h k,(D.Sf 0).length<=h->h<(D.Sf ops.length).length->Z h=some k->w0.heap.size<=k.b \/ ∃ h0 k0,h0<(D.Sf 0).length/\Z0_ h0=some k0/\k0.b=k.b/\Az (D.Sf 0) h0
 wr:∀ j,j<ops.length->L listed j -> ∀ h,h<(D.Sf j).length->Az (D.Sf (j+1)) h->Az (D.Sf j) h
 size:w0.heap.size<=w.heap.size
 tape:w.tape=w0.tape
 os:w.os=w0.os
 output:w.output=w0.output
 frame:∀ b,b<w0.heap.size->(∀ h k,h<(D.Sf 0).length->Z0_ h=some k->k.b=b->¬ Az (D.Sf 0) h)->w.heap[b]?=w0.heap[b]?
theorem jD {listed:Array Bool} {i j:Nat} (hi:i<listed.size):L (listed.setIfInBounds i true) j↔j=i\/L listed j:=by
 unfold L;by_cases h:i=j
 ·subst h; simp[hi]
 ·rw[getD_set_ne false h];constructor
  ·exact .inr
  ·rintro (rfl | h')
   ·exact absurd rfl h
   ·exact h'
structure WC (P:Program) (qf:Nat->QF) (ops:List Oper) (listed:Array Bool) (i:Nat):Prop where
 lt:i<ops.length
 size:listed.size=ops.length
 un:¬ L listed i
 ord:∀ j,j≠i->ordered (LM ops []) i j=true->(L listed j↔j<i)
variable {hi:Nat} {Z0_ Z:Mu} {w0 w:World} {listed:Array Bool} {i:Nat}
theorem KZ.idle {D:Data P qf ops E0 J0_ E' J'} (hd:LI P ops qf) (h:KZ D hi Z0_ w0 listed Z w) (hr:WC P qf ops listed i) (hs:D.Sf (i+1)=D.Sf i):KZ D hi Z0_ w0 (listed.setIfInBounds i true) Z w:=by
 have hset:∀ j,L (listed.setIfInBounds i true) j↔j=i\/L listed j:=fun j=>jD (by rw[hr.size]; exact hr.lt);refine ⟨?_,fun j hj hl=>h.fresh j hj fun hl'=>hl ((hset j).2 (.inr hl')),h.mu,h.new, ?_,h.size,h.tape,h.os,h.output,h.frame⟩
 ·obtain ⟨m,hm,hlo,hml,hR⟩:=h.mem;by_cases hc:H3 P ops qf i = .lo
  ·have hmi:m=i:=by
    have hi':=hlo i hr.lt hc;have him:¬ i<m:=fun hlt=>hr.un (hi'.2 hlt);rcases hml with rfl | hml
    ·exact absurd hr.lt him
    ·by_cases hne:m=i
     ·exact hne
     ·have hmn:m<ops.length:=by have:=hr.lt; omega
      have:=(hlo m hmn hml);have h2:=hr.ord m hne (hd.lo_lo hr.lt hmn (yW hne) hc hml);have:L listed m:=h2.2 (by omega);have:=(hlo m hmn hml).1 this;omega
   subst hmi;obtain ⟨m',h1,h2,h3,h4⟩:=XF P qf ops (ops.length-(m+1)) (m+1) (by have:=hr.lt; omega);refine ⟨m',h2, ?_,h4, ?_⟩
   ·intro j hj hcj;rw[hset];by_cases hjm:j=m
    ·subst hjm; simp; omega
    ·have:=hlo j hj hcj;constructor
     ·rintro (h | h)
      ·exact absurd h hjm
      ·have:=this.1 h; omega
     ·intro hlt;right;apply this.2;apply zk;intro hge;exact h3 j (by omega) hlt hcj
   ·have hp:=D.chain (i:=m+1) m' h1 h2 h3;rw[<- hs] at hR;refine hR.extend hp (RL D m' h1 h2 fun k hk1 hk2=>?_);by_cases hkp:H3 P ops qf k = .pure
    ·have hcl:=VE (P:=P) (qf:=qf) (yg (show k<ops.length by omega)) hkp;rcases (D.step k _ (yg (show k<ops.length by omega))).2 with ⟨_,_,_,hf⟩ | ⟨_,_,hsk⟩
     ·rw[(hf.pure hcl).1]; intro x a b; omega
     ·rw[hsk]; intro x a b; omega
    ·rcases hd.mem m k hr.lt (by omega) (by omega) hc hkp with hord | hfar
     ·refine h.fresh k (by omega) fun hl=>?_;have:=(hr.ord k (by omega) hord).1 hl;omega
     ·obtain ⟨o,ho,hop⟩:=UW hfar;rw[D.Wd ho hop]; intro x a b; omega
  ·refine ⟨m,hm, ?_,hml,hR⟩;intro j hj hcj;rw[hset];have hji:j≠i:=by rintro rfl; exact hc hcj
   simp only[hji,Adg];exact hlo j hj hcj
 ·intro j hj hl x hx hw;by_cases hji:j=i
  ·subst hji; rw[hs] at hw; exact hw
  ·exact h.wr j hj (((hset j).1 hl).resolve_left hji) x hx hw
theorem KZ.at {D:Data P qf ops E0 J0_ E' J'} (hd:LI P ops qf) (h:KZ D hi Z0_ w0 listed Z w) (hr:WC P qf ops listed i) (hc:H3 P ops qf i ≠ .pure) (hn:∀ k,k<ops.length->MN ops qf k i=false):
  ∃ m,m<=ops.length/\(∀ j,j<ops.length->H3 P ops qf j = .lo->(L listed j↔j<m))/\(m=ops.length\/H3 P ops qf m = .lo)/\R P Z (D.Sf m) w/\i<=m/\(∀ k,i<=k->k<m->H3 P ops qf k ≠ .lo)/\(H3 P ops qf i = .lo->m=i):=by
 obtain ⟨m,hm,hlo,hml,hR⟩:=h.mem;have him:i<=m:=by
  apply zk;intro hlt;have hmn:m<ops.length:=by have:=hr.lt; omega
  have hcm:H3 P ops qf m = .lo:=hml.resolve_left (by omega);have hord:=hd.uB hmn hr.lt (by omega) hcm hc hn;have hord':ordered (LM ops []) i m=true:=by unfold ordered at hord ⊢; rw[Ace]; exact hord
  have:=(hr.ord m (by omega) hord').2 (by omega);have:=(hlo m hmn hcm).1 this;omega
 have hbt:∀ k,i<=k->k<m->H3 P ops qf k ≠ .lo:=by
  intro k hk1 hk2 hck;have hl:=(hlo k (by omega) hck).2 hk2;by_cases hki:k=i
  ·subst hki; exact hr.un hl
  ·have hord:=hd.uB (by omega) hr.lt hki hck hc hn;have hord':ordered (LM ops []) i k=true:=by unfold ordered at hord ⊢; rw[Ace]; exact hord
   have:=(hr.ord k hki hord').1 hl;omega
 refine ⟨m,hm,hlo,hml,hR,him,hbt,fun hci=>?_⟩;apply zk;intro hne;exact hbt i (yj _) (by omega) hci
theorem KZ.run {D:Data P qf ops E0 J0_ E' J'} (hd:LI P ops qf) (h:KZ D hi Z0_ w0 listed Z w) (hr:WC P qf ops listed i) (hc:H3 P ops qf i ≠ .pure) (hnf:∀ k,k<ops.length->MN ops qf k i=false):
  R P Z (D.Sf i) w /\ ∀ (Z':Mu) (w':World),Step Z (D.Sf i) w Z' (D.Sf (i+1)) w'->R P Z' (D.Sf (i+1)) w'->KZ D hi Z0_ w0 (listed.setIfInBounds i true) Z' w':=by
 have hset:∀ j,L (listed.setIfInBounds i true) j↔j=i\/L listed j:=fun j=>jD (by rw[hr.size]; exact hr.lt);obtain ⟨m,hm,hlo,hml,hR,him,hbt,hmi⟩:=h.at hd hr hc hnf;have hpre:D.Sf i <+: D.Sf m:=D.chain m him hm hbt;refine ⟨hR.pre hpre,fun Z' w' hS hR'=>?_⟩;have hfi:=h.fresh i hr.lt hr.un;have hlt:=hr.lt;have hl0:(D.Sf 0).length<=(D.Sf i).length:=D.HF i (zh _) (by omega);have hln:(D.Sf (i+1)).length<=(D.Sf ops.length).length:=D.HF ops.length hlt (yj _);have hli:(D.Sf i).length<=(D.Sf ops.length).length:=D.HF ops.length (by omega) (yj _);have hw0:∀ k,k<=i -> ∀ x,x<(D.Sf 0).length->Az (D.Sf k) x->Az (D.Sf 0) x:=by
  intro k
  induction k with
  | zero=>intro _ x _ hw; exact hw
  | succ k ih=>
    intro hk x hx hw;have hxk:x<(D.Sf k).length:=yG hx (D.HF k (zh _) (by omega));refine ih (by omega) x hx ?_;by_cases hck:H3 P ops qf k = .lo
    ·have hord:=hd.uB (by omega) hlt (by omega) hck hc hnf;have hord':ordered (LM ops []) i k=true:=by unfold ordered at hord ⊢; rw[Ace]; exact hord
     exact h.wr k (by omega) ((hr.ord k (by omega) hord').2 (by omega)) x hxk hw
    ·rwa [X7 (D.quiet (by omega) hck) hxk] at hw
 have hnew:∀ x k,(D.Sf 0).length<=x->x<(D.Sf ops.length).length->Z' x=some k->w0.heap.size<=k.b \/ ∃ h0 k0,h0<(D.Sf 0).length/\Z0_ h0=some k0/\k0.b=k.b/\Az (D.Sf 0) h0:=by
  intro x k hx1 hx2 hk;by_cases hxi:x<(D.Sf i).length\/(D.Sf (i+1)).length<=x
  ·rw[hS.mu x hxi] at hk;exact h.new x k hx1 hx2 hk
  ·rcases hS.new x k (by omega) (by omega) hk with hb | ⟨h0,k0,g1,g2,g3,g4⟩
   ·exact .inl (zj h.size hb)
   ·by_cases h00:h0<(D.Sf 0).length
    ·rw[h.mu h0 (.inl h00)] at g2;exact .inr ⟨h0,k0,h00,g2,g3,hw0 i (yj _) h0 h00 g4⟩
    ·rcases h.new h0 k0 (by omega) (by omega) g2 with hb | ⟨h1,k1,q1,q2,q3,q4⟩
     ·exact .inl (by omega)
     ·exact .inr ⟨h1,k1,q1,q2,q3.trans g3,q4⟩
 refine ⟨?_, ?_, ?_,hnew, ?_,zj h.size hS.size,hS.tape.trans h.tape,hS.os.trans h.os,hS.output.trans h.output, ?_⟩
 ·
  by_cases hci:H3 P ops qf i = .lo
  ·have:=hmi hci;subst this;obtain ⟨m',h1,h2,h3,h4⟩:=XF P qf ops (ops.length-(m+1)) (m+1) (by omega);refine ⟨m',h2, ?_,h4, ?_⟩
   ·intro j hj hcj;rw[hset];by_cases hjm:j=m
    ·subst hjm; simp; omega
    ·have:=hlo j hj hcj;constructor
     ·rintro (h | h)
      ·exact absurd h hjm
      ·have:=this.1 h; omega
     ·intro hlt';right;apply this.2;apply zk;intro hge;exact h3 j (by omega) hlt' hcj
   ·have hp:=D.chain (i:=m+1) m' h1 h2 h3;refine hR'.extend hp (RL D m' h1 h2 fun k hk1 hk2=>?_);by_cases hkp:H3 P ops qf k = .pure
    ·have hcl:=VE (P:=P) (qf:=qf) (yg (show k<ops.length by omega)) hkp;rcases (D.step k _ (yg (show k<ops.length by omega))).2 with ⟨_,_,_,hf⟩ | ⟨_,_,hsk⟩
     ·rw[(hf.pure hcl).1]; intro x a b; omega
     ·rw[hsk]; intro x a b; omega
    ·rcases hd.mem m k hlt (by omega) (by omega) hci hkp with hord | hfar
     ·have hun:¬ L listed k:=fun hl=>by
       have:=(hr.ord k (by omega) hord).1 hl;omega
      intro x a b;have hge:(D.Sf (m+1)).length<=(D.Sf k).length:=D.HF k hk1 (by omega);rw[hS.mu x (.inr (by omega))];exact h.fresh k (by omega) hun x a b
     ·obtain ⟨o,ho,hop⟩:=UW hfar;rw[D.Wd ho hop]; intro x a b; omega
  ·have hne:i≠m:=by
    rintro rfl;rcases hml with h | h
    ·omega
    ·exact hci h
   have hp1:D.Sf (i+1) <+: D.Sf m:=D.chain m (by omega) hm fun k h1 h2=>hbt k (by omega) h2;refine ⟨m,hm, ?_,hml,hR.merge (D.quiet hlt hci) hp1 hS hR' hfi⟩;intro j hj hcj;rw[hset];have hji:j≠i:=by rintro rfl; exact hci hcj
   simp only[hji,Adg];exact hlo j hj hcj
 ·intro j hj hl x a b;have hji:j≠i:=fun e=>hl ((hset j).2 (.inl e));have hfj:=h.fresh j hj (fun hl'=>hl ((hset j).2 (.inr hl'))) x a b;rcases zL j i with hlt' | hge
  ·have:(D.Sf (j+1)).length<=(D.Sf i).length:=D.HF i hlt' (by omega);rw[hS.mu x (.inl (by omega))]; exact hfj
  ·have:(D.Sf (i+1)).length<=(D.Sf j).length:=D.HF j (by omega) (by omega);rw[hS.mu x (.inr (by omega))]; exact hfj
 ·intro x hx;rw[hS.mu x (by omega)];exact h.mu x hx
 ·intro j hj hl x hx hw;by_cases hji:j=i
  ·subst hji; exact hS.wr x hx hw
  ·exact h.wr j hj (((hset j).1 hl).resolve_left hji) x hx hw
 ·intro b hb hn;rw[hS.frame b (yG hb h.size) ?_,h.frame b hb hn];intro x k hx hk hkb hw;by_cases hx0:x<(D.Sf 0).length
  ·rw[h.mu x (.inl hx0)] at hk;exact hn x k hx0 hk hkb (hw0 i (yj _) x hx0 hw)
  ·rcases h.new x k (by omega) (by omega) hk with hb' | ⟨h1,k1,q1,q2,q3,q4⟩
   ·omega
   ·exact hn h1 k1 q1 q2 (q3.trans hkb) q4
theorem Wn (D:Data P qf ops E0 J0_ E' J'):∀ (n a j:Nat) {t:Nat} {ad:Addr},j<=ops.length->Xa ops n a j=some t->(D.Ef j).getD a none=some (.pointer (some ad)) ->
  ∃ b,E0.getD t none=some (.pointer (some b))/\b.block=ad.block /\ ∀ k,k<=ops.length->(D.Ef k).getD t none=E0.getD t none
 | 0,a,j,t,ad,hj,h,hv=>by cases h
 | n+1,a,j,t,ad,hj,h,hv=>by
   simp only[Xa] at h;split at h
   ·rename_i hnil;cases h;have hno:∀ (k:Nat) (o:Oper),ops[k]?=some o->o.dst≠some a:=by
     intro k o hk hd;have:(o,k) ∈ ops.zipIdx.filter fun p=>p.1.dst == some a:=zO.2 ⟨mem_zipIdx hk,by simp[hd]⟩;rw[hnil] at this; cases this
    have hsame:∀ k,k<=ops.length->(D.Ef k).getD a none=E0.getD a none:=fun k hk=>by
     rw[D.Ob (i:=0) k (zh _) hk fun x o _ _ hx=>hno x o hx,D.e0]
    exact ⟨ad,by rw[<- hsame j hj]; exact hv,rfl,hsame⟩
   ·rename_i p hp;cases hlt:Nat.blt p.2 j with
    | false=>rw[hlt] at h; cases h
    | true=>
      rw[hlt,IT] at h;have hlt:p.2<j:=by simpa [Ac2] using hlt
      have hmem:p ∈ ops.zipIdx.filter fun p=>p.1.dst == some a:=by rw[hp]; simp
      obtain ⟨hm1,hm2⟩:=zO.1 hmem;have hpo:ops[p.2]?=some p.1:=zY.1 hm1;have hpd:p.1.dst=some a:=by simpa using hm2
      have hone:∀ (k:Nat) (o:Oper),p.2+1<=k->k<j->ops[k]?=some o->o.dst≠some a:=by
       intro k o h1 h2 hk hd;have:(o,k) ∈ ops.zipIdx.filter fun p=>p.1.dst == some a:=zO.2 ⟨mem_zipIdx hk,by simp[hd]⟩;rw[hp] at this;have:=yP.1 this;rw[<- this] at h1;simp only at h1;omega
      obtain ⟨hE,hst⟩:=D.step p.2 p.1 hpo;rw[D.Ob (i:=p.2+1) j (by omega) hj hone,hE,hpd] at hv;simp only[Jz,IL] at hv;have hV:D.V p.2 = .pointer (some ad):=by
       split at hv
       ·exact zH hv
       ·rename_i hc;have:a<(D.Ef p.2).length:=by
         rcases zL a (D.Ef p.2).length with h | h
         ·exact h
         ·rw[yd,zg h] at hv; cases hv
        exact absurd (by simp[this]) hc
      have mv:∀ b,(p.1.op = .move (.tmp b)\/p.1.op = .nilCheck (.tmp b))->Xa ops n b p.2=some t -> ∃ b,E0.getD t none=some (.pointer (some b))/\b.block=ad.block /\ ∀ k,k<=ops.length->(D.Ef k).getD t none=E0.getD t none:=by
       intro b hop h;rcases hst with ⟨regs,hw,_,hf⟩ | ⟨_,hu,_⟩
       ·have h1:=hf.more.mv (.tmp b) hop;rw[hV] at h1;exact Wn D n b p.2 (by omega) h (hw b _ (J1 h1).2)
       ·rw[hV] at hu; cases hu
      split at h
      ·rename_i T b f hop;rcases hst with ⟨regs,hw,_,hf⟩ | ⟨_,hu,_⟩
       ·obtain ⟨a0,a',h1,h2,h3⟩:=hf.more.fa T (.tmp b) f hop;rw[hV] at h2;cases h2;obtain ⟨b',g1,g2,g3⟩:=Wn D n b p.2 (by omega) h (hw b _ (J1 h1).2);exact ⟨b',g1,g2.trans h3.symm,g3⟩
       ·rw[hV] at hu; cases hu
      ·rename_i b hop;exact mv b (.inl hop) h
      ·rename_i b hop;exact mv b (.inr hop) h
      ·cases h
   ·cases h
theorem Zw (D:Data P qf ops E0 J0_ E' J'):∀ (n a j:Nat) {t:Nat} {x:Option Addr} {l c:Nat},j<=ops.length->fZ ops n a j=some t->(D.Ef j).getD a none=some (.slice x l c) ->
  E0.getD t none=some (.slice x l c) /\ ∀ k,k<=ops.length->(D.Ef k).getD t none=E0.getD t none
 | 0,a,j,t,x,l,c,hj,h,hv=>by cases h
 | n+1,a,j,t,x,l,c,hj,h,hv=>by
   simp only[fZ] at h;split at h
   ·rename_i hnil;cases h;have hno:∀ (k:Nat) (o:Oper),ops[k]?=some o->o.dst≠some a:=by
     intro k o hk hd;have:(o,k) ∈ ops.zipIdx.filter fun p=>p.1.dst == some a:=zO.2 ⟨mem_zipIdx hk,by simp[hd]⟩;rw[hnil] at this; cases this
    have hsame:∀ k,k<=ops.length->(D.Ef k).getD a none=E0.getD a none:=fun k hk=>by
     rw[D.Ob (i:=0) k (zh _) hk fun x o _ _ hx=>hno x o hx,D.e0]
    exact ⟨by rw[<- hsame j hj]; exact hv,hsame⟩
   ·rename_i p hp;cases hlt:Nat.blt p.2 j with
    | false=>rw[hlt] at h; cases h
    | true=>
      rw[hlt,IT] at h;have hlt:p.2<j:=by simpa [Ac2] using hlt
      have hmem:p ∈ ops.zipIdx.filter fun p=>p.1.dst == some a:=by rw[hp]; simp
      obtain ⟨hm1,hm2⟩:=zO.1 hmem;have hpo:ops[p.2]?=some p.1:=zY.1 hm1;have hpd:p.1.dst=some a:=by simpa using hm2
      have hone:∀ (k:Nat) (o:Oper),p.2+1<=k->k<j->ops[k]?=some o->o.dst≠some a:=by
       intro k o h1 h2 hk hd;have:(o,k) ∈ ops.zipIdx.filter fun p=>p.1.dst == some a:=zO.2 ⟨mem_zipIdx hk,by simp[hd]⟩;rw[hp] at this;have:=yP.1 this;rw[<- this] at h1;simp only at h1;omega
      obtain ⟨hE,hst⟩:=D.step p.2 p.1 hpo;rw[D.Ob (i:=p.2+1) j (by omega) hj hone,hE,hpd] at hv;simp only[Jz,IL] at hv;have hV:D.V p.2 = .slice x l c:=by
       split at hv
       ·exact zH hv
       ·rename_i hc;have:a<(D.Ef p.2).length:=by
         rcases zL a (D.Ef p.2).length with h | h
         ·exact h
         ·rw[yd,zg h] at hv; cases hv
        exact absurd (by simp[this]) hc
      split at h
      ·rename_i b hop;rcases hst with ⟨regs,hw,_,hf⟩ | ⟨_,hu,_⟩
       ·have h1:=hf.more.mv (.tmp b) (.inl hop);rw[hV] at h1;exact Zw D n b p.2 (by omega) h (hw b _ (J1 h1).2)
       ·rw[hV] at hu; cases hu
      ·cases h
   ·cases h
def only (h:Nat) (J:Aa):Aa:=J.mapIdx fun x o=>if x=h then o else .dead
theorem R.only {Z:Mu} {J:Aa} {w:World} (hR:R P Z J w) (h:Nat):R P Z (only h J) w:=by
 have get:∀ x o,(AX.only h J)[x]?=some o->(x=h/\J[x]?=some o)\/o = .dead:=by
  intro x o ho;unfold AX.only at ho;rw[List.getElem?_mapIdx] at ho;cases hq:J[x]? with
  | none=>rw[hq] at ho; cases ho
  | some y=>
    rw[hq] at ho;simp only[Aa8,zQ] at ho;by_cases hx:x=h
    ·rw[yk hx] at ho; exact .inl ⟨hx,by rw[ho]⟩
    ·rw[ym hx] at ho; exact .inr ho.symm
 refine ⟨?_,hR.lt, ?_⟩
 ·intro x o k ho hk;rcases get x o ho with ⟨_,h2⟩ | rfl
  ·exact hR.obj x o k h2 hk
  ·trivial
 ·intro a b ka kb h1 h2 h3 h4 h6 h5;obtain ⟨o,ho,hd⟩:=h3;obtain ⟨o2,ho2,hd2⟩:=h4;rcases get a o ho with ⟨e1,_⟩ | e
  ·rcases get b o2 ho2 with ⟨e2,_⟩ | e
   ·rw[e1,e2]
   ·exact absurd e hd2
  ·exact absurd e hd
theorem bp (D:Data P qf ops E0 J0_ E' J') {k i:Nat} (h:pT ops k i=true):i<k /\ ∀ b,b<(D.Sf i).length->(D.Sf (k+1))[b]?=(D.Sf k)[b]?:=by
 unfold pT at h;split at h;rotate_left
 ·cases h
 rename_i o ho;have hkl:k<ops.length:=(yu.1 ho).1;split at h;rotate_left
 ·cases h
 rename_i T a y hop;split at h;rotate_left
 ·cases h
 rename_i p hp;simp only[zn,Ac2] at h;obtain ⟨⟨hal,hjp⟩,hpk⟩:=h;unfold vF at hal;split at hal;rotate_left
 ·cases hal
 rename_i T' hpop;have hmem:p ∈ ops.zipIdx.filter fun p=>p.1.dst == some a:=by rw[hp]; simp
 obtain ⟨hm1,hm2⟩:=zO.1 hmem;have hpo:ops[p.2]?=some p.1:=zY.1 hm1;have hpd:p.1.dst=some a:=by simpa using hm2
 have hone:∀ (x:Nat) (o:Oper),p.2+1<=x->x<k->ops[x]?=some o->o.dst≠some a:=by
  intro x o h1 h2 hk hd;have:(o,x) ∈ ops.zipIdx.filter fun p=>p.1.dst == some a:=zO.2 ⟨mem_zipIdx hk,by simp[hd]⟩;rw[hp] at this;have:=yP.1 this;rw[<- this] at h1;simp only at h1;omega
 refine ⟨by omega,fun b hb=>?_⟩;rcases (D.step k o ho).2 with ⟨regs,hw,_,hf⟩ | ⟨_,_,hs⟩
 rotate_left
 ·rw[hs]
 obtain ⟨ad,h1,h2⟩:=hf.more.st T (.tmp a) y hop;have hv:(D.Ef k).getD a none=some (.pointer (some ad)):=hw a _ (J1 h1).2;obtain ⟨hE,hst⟩:=D.step p.2 p.1 hpo;rw[D.Ob (i:=p.2+1) k (by omega) (by omega) hone,hE,hpd] at hv;simp only[Jz,IL] at hv;have hV:D.V p.2 = .pointer (some ad):=by
  split at hv
  ·exact zH hv
  ·rename_i hc;have:a<(D.Ef p.2).length:=by
    rcases zL a (D.Ef p.2).length with h | h
    ·exact h
    ·rw[yd,zg h] at hv; cases hv
   exact absurd (by simp[this]) hc
 rcases hst with ⟨regs,hw,_,hf2⟩ | ⟨_,hu,_⟩
 ·obtain ⟨a',g1,g2⟩:=hf2.more.al T' hpop;rw[hV] at g1;cases g1;refine h2 b ?_;have:=D.HF (i:=i) p.2 (by omega) (by omega);omega
 ·rw[hV] at hu; cases hu
theorem KZ.tu {D:Data P qf ops E0 J0_ E' J'} (hd:LI P ops qf) (h:KZ D hi Z0_ w0 listed Z w) (hr:WC P qf ops listed i) {bk:Nat} {Q:Aa->Prop} (hat:∀ J2_:Aa,J2_[bk]?=(D.Sf i)[bk]?->Q J2_) (hcl:H3 P ops qf i = .ld)
  (hold:bk<(D.Sf i).length -> ∀ k,k<ops.length->MN ops qf k i=true->(bk<(D.Sf k).length->(D.Sf (k+1))[bk]?=(D.Sf k)[bk]?)/\(k<i->bk<(D.Sf k).length)):∃ J2_,R P Z J2_ w/\Q J2_:=by
 have hlt:=hr.lt;obtain ⟨m,hm,hlo,hml,hR⟩:=h.mem;cases hq:(D.Sf i)[bk]? with
 | none=>exact ⟨[],hR.pre Ado,hat [] (by rw[hq]; simp)⟩
 | some x=>
   have hlti:bk<(D.Sf i).length:=(yu.1 hq).1;have hold:=hold hlti;have ici:H3 P ops qf i ≠ .lo:=by rw[hcl]; simp
   have loose_:∀ k,k<ops.length->k≠i->H3 P ops qf k = .lo->(L listed k↔¬ k<i)->MN ops qf k i=true:=by
    intro k hk hki hck hl;rcases hd.mem k i hk hlt hki hck (by rw[hcl]; simp) with hord | hfar
    ·have hord':ordered (LM ops []) i k=true:=by unfold ordered at hord ⊢; rw[Ace]; exact hord
     have:=hr.ord k hki hord';have h2:=this.symm.trans hl;by_cases hc:k<i
     ·exact absurd hc (h2.1 hc)
     ·exact absurd (h2.2 hc) hc
    ·exact hfar
   have stepk:∀ k,k<ops.length->bk<(D.Sf k).length->(H3 P ops qf k ≠ .lo\/MN ops qf k i=true)->(D.Sf (k+1))[bk]?=(D.Sf k)[bk]?:=by
    intro k hk hlk hh;rcases hh with hh | hh
    ·obtain ⟨τ,hτ⟩:=D.quiet hk hh;rw[<- hτ,AT hlk]
    ·exact (hold k hk hh).1 hlk
   have same:(D.Sf m)[bk]?=(D.Sf i)[bk]?:=by
    rcases zL m i with hmi | him
    ·have hml':H3 P ops qf m = .lo:=hml.resolve_left (by omega);have hmf:MN ops qf m i=true:=loose_ m (by omega) (by omega) hml' ⟨fun hl=>by have:=(hlo m (by omega) hml').1 hl; omega,fun hn=>by omega⟩;have h0:bk<(D.Sf m).length:=(hold m (by omega) hmf).2 hmi;have:∀ m',m<=m'->m'<=i->(D.Sf m')[bk]?=(D.Sf m)[bk]?:=by
      intro m' h1
      induction h1 with
      | refl=>intro _; rfl
      | @step k hk ih=>
        intro h2;have hk':m<=k:=hk;rw[stepk k (by omega) (yG h0 (D.HF k hk' (by omega))) ?_,ih (by omega)];by_cases hck:H3 P ops qf k = .lo
        ·have hki:k≠i:=by omega
         have hkm:=hlo k (by omega) hck;exact .inr (loose_ k (by omega) hki hck ⟨fun hl=>by have:=hkm.1 hl; omega,fun hn=>by omega⟩)
        ·exact .inl hck
     exact (this i (by omega) (yj _)).symm
    ·have:∀ m',i<=m'->m'<=m->(D.Sf m')[bk]?=(D.Sf i)[bk]?:=by
      intro m' h1
      induction h1 with
      | refl=>intro _; rfl
      | @step k hk ih=>
        intro h2;have hk':i<=k:=hk;rw[stepk k (by omega) (yG hlti (D.HF k hk' (by omega))) ?_,ih (by omega)];by_cases hck:H3 P ops qf k = .lo
        ·have hki:k≠i:=by rintro rfl; exact ici hck
         have hkm:=hlo k (by omega) hck;exact .inr (loose_ k (by omega) hki hck ⟨fun _=>by omega,fun _=>hkm.2 (by omega)⟩)
        ·exact .inl hck
     exact this m him (yj _)
   refine ⟨AX.only bk (D.Sf m),hR.only _,hat _ ?_⟩;unfold AX.only;rw[List.getElem?_mapIdx,same,hq];simp
theorem KZ.xA {D:Data P qf ops E0 J0_ E' J'} (hd:LI P ops qf) (h:KZ D hi Z0_ w0 listed Z w) (hr:WC P qf ops listed i) {o:Oper} (ho:ops[i]?=some o) (hop:j9 o) {regs:Bc} (hw:JO (D.Ef i) regs)
  (hf:X9 P o (qf i).1 (TK o (cf regs)) (D.Sf i) (D.V i) (D.Sf (i+1))) (hlive:∀ t b,E0.getD t none=some (.pointer (some b))->b.block<J0_.length\/(D.Sf ops.length).length<=b.block):
  ∃ J2_,R P Z J2_ w/\UI P o (TK o (cf regs)) J2_ (D.V i):=by
 have hlt:=hr.lt;have hcl:=(Zd (P:=P) (qf:=qf) ho hop).1;rcases hop with ⟨T,a,hop⟩ | ⟨T,a,lo,hi',mx,hop⟩
 ·obtain ⟨ad,hx,hat⟩:=hf.more.load T (.tmp a) hop;refine h.tu hd hr hat hcl fun hlti k hk hh=>?_;unfold MN at hh;rw[Aap,zn] at hh;rcases hh with hh | ⟨_,hh⟩
  ·obtain ⟨t,o',ho',hc,hcase⟩:=im hh;rw[ho] at ho';cases ho';rcases hcase with ⟨T',a',hop',hroot⟩ | ⟨T',a',l1,l2,l3,hop',_⟩
   rotate_left
   ·rw[hop] at hop'; cases hop'
   rw[hop] at hop';cases hop';obtain ⟨b,hb1,hb2,hb3⟩:=Wn D 8 a i (by omega) hroot (hw a _ (J1 hx).2);have h0:ad.block<(D.Sf 0).length:=by
    rw[D.s0];rcases hlive t b hb1 with hh | hh
    ·rw[<- hb2]; exact hh
    ·have:=D.HF (i:=i) ops.length (by omega) (yj _);omega
   refine ⟨fun _=>?_,fun _=>yG h0 (D.HF k (zh _) (by omega))⟩;rcases D.DH k _ (yg hk) with hkp | hkp
   ·rcases hkp t hc with ⟨p,h1,h2⟩ | ⟨p,l,c,h1,_⟩
    ·rw[hb3 k (by omega),hb1] at h1;cases h1;rw[<- hb2]; exact h2 b rfl
    ·rw[hb3 k (by omega),hb1] at h1; cases h1
   ·rw[hkp.2]
  ·exact ⟨fun _=>(bp D hh).2 _ hlti,fun hki=>by have:=(bp D hh).1; omega⟩
 ·obtain ⟨x,l,c,hx,hat⟩:=hf.more.sl T (.tmp a) lo hi' mx hop;cases x with
  | none=>
    obtain ⟨m,_,_,_,hR⟩:=h.mem;exact ⟨[],hR.pre Ado,hat [] fun b e=>by cases e⟩
  | some ad=>
    refine h.tu hd hr (bk:=ad.block) (fun J2_ h2=>hat J2_ fun b e=>by cases e; exact h2) hcl fun hlti k hk hh=>?_;unfold MN at hh;rw[Aap,zn] at hh;rcases hh with hh | ⟨hh,_⟩
    rotate_left
    ·obtain ⟨o',T',a',ho',hop'⟩:=tx hh;rw[ho] at ho';cases ho';rw[hop] at hop'; cases hop'
    obtain ⟨t,o',ho',hc,hcase⟩:=im hh;rw[ho] at ho';cases ho';rcases hcase with ⟨T',a',hop',_⟩ | ⟨T',a',l1,l2,l3,hop',hroot,hbare⟩
    ·rw[hop] at hop'; cases hop'
    rw[hop] at hop';cases hop';obtain ⟨hb1,hb3⟩:=Zw D 8 a i (by omega) hroot (hw a _ (J1 hx).2);have hg:∀ (ok:Oper),ops[k]?=some ok->ok.guard=none:=fun ok hok=>by
     unfold bare at hbare;rw[hok] at hbare;simpa using hbare
    rcases D.DH k _ (yg hk) with hkp | hkp
    ·rcases hkp t hc with ⟨p,h1,_⟩ | ⟨p,l',c',h1,h2⟩
     ·rw[hb3 k (by omega),hb1] at h1; cases h1
     ·rw[hb3 k (by omega),hb1] at h1;cases h1;exact ⟨fun _=>(h2 ad rfl).2,fun _=>(h2 ad rfl).1⟩
    ·exact absurd (hg _ (yg hk)) hkp.1
def V8 (D:Data P qf ops E0 J0_ E' J') (listed:Array Bool) (Z:Mu) (tmps:Array Value):Prop:=
 ∀ t,∃ m,m<=ops.length/\(∀ j o,ops[j]?=some o->o.dst=some t->(L listed j↔j<m)) /\ ∀ v,(D.Ef m).getD t none=some v -> ∃ v',tmps[t]?=some v'/\RV Z v v'
theorem V8.at {D:Data P qf ops E0 J0_ E' J'} (hd:LI P ops qf) {tmps:Array Value} (h:V8 D listed Z tmps) (hr:WC P qf ops listed i) {o:Oper} (ho:ops[i]?=some o) {t:Nat} (ht:t ∈ iN ops o\/o.dst=some t):
  ∀ v,(D.Ef i).getD t none=some v -> ∃ v',tmps[t]?=some v'/\RV Z v v':=by
 obtain ⟨m,hm,hw,hv⟩:=h t;have hlt:=hr.lt;have key:∀ j oj,ops[j]?=some oj->oj.dst=some t->(L listed j↔j<i):=by
  intro j oj hj hdj;by_cases hji:j=i
  ·subst hji;constructor
   ·intro hl; exact absurd hl hr.un
   ·intro hl; omega
  ·have hord:=hd.reg j i oj o t hj ho hji hdj ht;have hord':ordered (LM ops []) i j=true:=by unfold ordered at hord ⊢; rw[Ace]; exact hord
   exact hr.ord j hji hord'
 have same:(D.Ef m).getD t none=(D.Ef i).getD t none:=by
  rcases Nat.le_total i m with him | hmi
  ·refine D.Ob m him hm fun k ok h1 h2 hk hdk=>?_;have a:=(hw k ok hk hdk).2 h2;have:=(key k ok hk hdk).1 a;omega
  ·refine (D.Ob i hmi (by omega) fun k ok h1 h2 hk hdk=>?_).symm;have a:=(key k ok hk hdk).2 h2;have:=(hw k ok hk hdk).1 a;omega
 rw[<- same]; exact hv
theorem V8.put {D:Data P qf ops E0 J0_ E' J'} (hd:LI P ops qf) {a:Act} (h:V8 D listed Z a.tmps) (hr:WC P qf ops listed i) {o:Oper} (ho:ops[i]?=some o) (hsz:E0.length<=a.tmps.size) {Z':Mu} (hle:Z.le Z') {v':Value} (hv:RV Z' (D.V i) v'):
  V8 D (listed.setIfInBounds i true) Z' (a.put o.dst v').tmps:=by
 have hset:∀ j,L (listed.setIfInBounds i true) j↔j=i\/L listed j:=fun j=>jD (by rw[hr.size]; exact hr.lt);have hlt:=hr.lt;intro t;by_cases hdt:o.dst=some t
 ·refine ⟨i+1,by omega, ?_, ?_⟩
  ·intro j oj hj hdj;rw[hset];by_cases hji:j=i
   ·subst hji; simp
   ·have hord:=hd.reg j i oj o t hj ho hji hdj (.inr hdt);have hord':ordered (LM ops []) i j=true:=by unfold ordered at hord ⊢; rw[Ace]; exact hord
    have:=hr.ord j hji hord';simp only[hji,Adg];rw[this]; omega
  ·intro v hvv;rw[(D.step i o ho).1,hdt] at hvv;simp only[Jz,IL] at hvv;simp only[hdt,Act.put,Aan,ye];split at hvv
   ·rename_i hc;cases hvv;have:t<a.tmps.size:=by
     have:=D.ik i (by omega);omega
    rw[yk this];exact ⟨v',rfl,hv⟩
   ·rename_i hc;have:t<(D.Ef i).length:=by
     rcases zL t (D.Ef i).length with h | h
     ·exact h
     ·rw[yd,zg h] at hvv; cases hvv
    exact absurd ⟨trivial,this⟩ hc
 ·obtain ⟨m,hm,hw,hvm⟩:=h t;refine ⟨m,hm, ?_, ?_⟩
  ·intro j oj hj hdj;rw[hset];have hji:j≠i:=by
    rintro rfl;rw[ho] at hj; cases hj; exact hdt hdj
   simp only[hji,Adg];exact hw j oj hj hdj
  ·intro v hvv;obtain ⟨u,hu1,hu2⟩:=hvm v hvv;exact ⟨u,by rw[Md hdt]; exact hu1,hu2.mono hle⟩
end
end
end
end Go.AX
