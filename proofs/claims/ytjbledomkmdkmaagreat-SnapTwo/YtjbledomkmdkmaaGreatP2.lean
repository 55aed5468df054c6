/- Part 2. -/
import Derived.Orders
import Derived.Test.YtjbledomkmdkmaaGreatP1
set_option linter.unusedVariables false
set_option linter.unusedSimpArgs false
set_option linter.unusedSectionVars false
namespace Go.AX
open Go
noncomputable section
section
variable {ρ:Type} {P:Program} [AJ]
theorem XF {f:Edge->Nat} {j:Nat}:∀ {l:List Edge} {s:Nat},(l.foldl (fun s e=>s ||| 2 ^ e.on ||| f e) s).testBit j=true->s.testBit j=true \/ ∃ e ∈ l,j=e.on\/(f e).testBit j=true
 | [],s,h=>.inl h
 | e::l,s,h=>by
   simp only[Aef] at h;rcases XF h with h | ⟨b,a,h⟩
   ·rw[Nat.testBit_or,Nat.testBit_or,Afh,Afh,Nat.testBit_two_pow] at h;rcases h with (h | h) | h
    ·exact .inl h
    ·exact .inr ⟨e,by simp,.inl (by simpa [eq_comm] using h)⟩
    ·exact .inr ⟨e,by simp,.inr h⟩
   ·exact .inr ⟨b,by simp[a],h⟩
theorem oe {acc:List Nat} {o:Oper} {j:Nat} (h:(cO acc o).testBit j=true):∃ e ∈ o.after.toList,Region.binds .any e=true/\(j=e.on\/(acc.getD e.on 0).testBit j=true):=by
 rcases XF (f:=fun e=>acc.getD e.on 0) h with h | ⟨e,he,h⟩
 ·simp at h
 ·rw[Aea] at he;exact ⟨e,he.1,he.2,h⟩
theorem XS:∀ (os:List Oper) (acc:List Nat),(Ng os acc).take acc.length=acc/\(Ng os acc).length=acc.length+os.length /\
  ∀ i o,os[i]?=some o->(Ng os acc)[acc.length+i]?=some (cO ((Ng os acc).take (acc.length+i)) o)
 | [],acc=>⟨by simp[Ng],by simp[Ng],by simp⟩
 | o::os,acc=>by
   simp only[Ng];obtain ⟨h1,b,c⟩:=XS os (acc++[cO acc o]);simp only[Aaw,Ac3] at h1 b c;have a:(Ng os (acc++[cO acc o])).take acc.length=acc:=by
    have:=Aec (List.take acc.length) h1;rw[List.take_take] at this;simpa [Age (Nat.le_succ _)] using this
   refine ⟨a,by rw[b]; simp; omega, ?_⟩;intro i o' hi;cases i with
   | zero=>
     simp at hi; subst hi;rw[Aa0,a];have:=Aec (fun l=>l[acc.length]?) h1;simp only[Ad2] at this;rw[Aay (by omega)] at this;rw[this]; simp
   | succ i=>
     simp at hi;have:=c i o' hi
     rwa [show acc.length+1+i=acc.length+(i+1) by omega] at this
section
variable {ops:List Oper}
theorem pz {i j:Nat} {o:Oper} (d:ops[i]?=some o) (h:((Ng ops []).getD i 0).testBit j=true):
  ∃ e ∈ o.after.toList,Region.binds .any e=true/\(j=e.on\/(e.on<i/\((Ng ops []).getD e.on 0).testBit j=true)):=by
 obtain ⟨_,f,c⟩:=XS ops [];have:=c i o d;simp only[Adx,IN] at this;rw[Aax,this,Afs] at h;obtain ⟨e,he,hb,a⟩:=oe h;refine ⟨e,he,hb, ?_⟩;rcases a with a | a
 ·exact .inl a
 ·right;rw[Aax,Ad2] at a;by_cases b:e.on<i
  ·rw[Aay b] at a;exact ⟨b,by rw[Aax]; exact a⟩
  ·rw[Aaz b] at a; simp at a
theorem bD {i j:Nat} (h:((Ng ops []).getD i 0).testBit j=true):∃ o,ops[i]?=some o:=by
 obtain ⟨_,a,_⟩:=XS ops [];rcases Ael i ops.length with hi | hi
 ·exact ⟨_,Aau hi⟩
 ·rw[Aax,Adr (by rw[a]; simpa using hi)] at h;simp at h
theorem bC {S:Nat->Prop} (b:∀ i o,ops[i]?=some o->S i -> ∀ e ∈ o.after.toList,Region.binds .any e=true->S e.on):
  ∀ (i:Nat) {o:Oper} {j:Nat},ops[i]?=some o->(∀ e ∈ o.after.toList,Region.binds .any e=true->S e.on)->((Ng ops []).getD i 0).testBit j=true->S j:=by
 intro i
 induction i using Nat.strongRecOn with
 | _ i k=>
   intro o j g a h;obtain ⟨e,he,hb,d⟩:=pz g h;rcases d with rfl | ⟨f,d⟩
   ·exact a e he hb
   ·obtain ⟨o',c⟩:=bD d;exact k e.on f c (b _ _ c (a e he hb)) d
theorem uz (h0:∀ i o,ops[i]?=some o -> ∀ e ∈ o.after.toList,Region.binds .any e=true->e.on<i):∀ (i:Nat) {j:Nat},((Ng ops []).getD i 0).testBit j=true->j<i:=by
 intro i
 induction i using Nat.strongRecOn with
 | _ i d=>
   intro j h;obtain ⟨o,c⟩:=bD h;obtain ⟨e,he,hb,b⟩:=pz c h;have a:=h0 i o c e he hb;rcases b with rfl | ⟨_,b⟩
   ·exact a
   ·exact Nat.lt_trans (d e.on a b) a
structure Nd (P:Program) (ops:List Oper) (qf:Nat->QF):Prop where
 down:∀ i o,ops[i]?=some o -> ∀ e ∈ o.after.toList,Region.binds .any e=true->e.on<i
 reg:∀ i j oi oj t,ops[i]?=some oi->ops[j]?=some oj->i≠j->oi.dst=some t->(t ∈ od ops oj\/oj.dst=some t)->ordered (Ng ops []) i j=true
 mem:∀ i j,i<ops.length->j<ops.length->i≠j->IG P ops qf i = .lo->IG P ops qf j ≠ .pure->ordered (Ng ops []) i j=true\/Oj ops qf i j=true
theorem mem_zipIdx {l:List Oper} {i:Nat} {o:Oper} (h:l[i]?=some o):(o,i) ∈ l.zipIdx:=by
 rw[Aez]; exact h
theorem ko {qf:Nat->QF} (h:Wr P ops qf=true):Nd P ops qf:=by
 unfold Wr at h;simp only[Afr,Ads,Afh,Agf,Aei,Adz,ne_eq] at h;refine ⟨?_, ?_, ?_⟩
 ·intro i o k e he hb;have:=(h (o,i) (mem_zipIdx k)).1 e he;rcases this with h | h
  ·rw[hb] at h; cases h
  ·simpa [Ahq] using h
 ·intro i j l m t hi f a b c;have:=(h (l,i) (mem_zipIdx hi)).2 (m,j) (mem_zipIdx f);rcases this with h | h
  ·exact absurd h a
  ·have h:=h.1;simp only[b] at h;simp only[Afh,Ads,Agf,Adz,ne_eq] at h;rcases h with h | h
   ·rcases c with c | c
    ·have:=h.1; simp[c] at this
    ·exact absurd c h.2
   ·exact h
 ·intro i j hi f a g d;have:=(h (ops[i],i) (mem_zipIdx (Aau hi))).2 (ops[j],j) (mem_zipIdx (Aau f));rcases this with h | h
  ·exact absurd h a
  ·have h:=h.2;rcases h with (h | h) | h
   ·rcases h with h | h
    ·exact absurd g h
    ·exact absurd h d
   ·exact .inl h
   ·exact .inr h
end
structure Data (P:Program) (qf:Nat->QF) (ops:List Oper) (E0:Bo) (J0_:Aa) (E':Bo) (J':Aa) where
 Ef:Nat->Bo
 Sf:Nat->Aa
 V:Nat->Value
 e0:Ef 0=E0
 s0:Sf 0=J0_
 en:Ef ops.length=E'
 sn:Sf ops.length=J'
 step:∀ k o,ops[k]?=some o->Ef (k+1)=KC (Ef k) o.dst (some (V k)) /\
  ((∃ regs,Lj (Ef k) regs/\yes ops o regs/\aj P o (qf k).1 (VK o (iG regs)) (Sf k) (V k) (Sf (k+1)))\/((∃ regs,Lj (Ef k) regs/\no ops o regs)/\V k=undef/\Sf (k+1)=Sf k))
 DR:∀ k o,ops[k]?=some o->Kept (qf k).2 (Ef k) (Sf k) (Sf (k+1))\/(o.guard≠none/\Sf (k+1)=Sf k)
theorem ym {qf:Nat->QF} {all:List Oper} {L:List (Nat × Oper)} {E E':Bo} {J J':Aa} (h:Tr P qf all L E J E' J'):
  ∃ (c:Nat->Bo) (b:Nat->Aa) (V:Nat->Value),c 0=E/\b 0=J/\c L.length=E'/\b L.length=J' /\ ∀ k i o,L[k]?=some (i,o)->c (k+1)=KC (c k) o.dst (some (V k)) /\
   ((∃ a,Lj (c k) a/\yes all o a/\aj P o (qf i).1 (VK o (iG a)) (b k) (V k) (b (k+1)))\/((∃ a,Lj (c k) a/\no all o a)/\V k=undef/\b (k+1)=b k))/\(Kept (qf i).2 (c k) (b k) (b (k+1))\/(o.guard≠none/\b (k+1)=b k)):=by
 induction h with
 | @nil E J=>exact ⟨fun _=>E,fun _=>J,fun _=>undef,rfl,rfl,rfl,rfl,by simp⟩
 | @step i o rest E a E' J J1_ J' v hw t q l s n=>
   obtain ⟨c,b,V,h1,e,f,g,h5⟩:=n;refine ⟨fun k=>match k with | 0=>E | k+1=>c k,fun k=>match k with | 0=>J | k+1=>b k,fun k=>match k with | 0=>v | k+1=>V k,rfl,rfl,f,g, ?_⟩;intro k m o' d;cases k with
   | zero=>
     simp at d; obtain ⟨rfl,rfl⟩:=d;refine ⟨h1,.inl ⟨a,hw,t, ?_⟩,.inl ?_⟩
     ·simp only[e]; exact q
     ·simp only[e]; exact l
   | succ k=>exact h5 k m o' (by simpa using d)
 | @skip i o rest E a E' J J' hw p s n=>
   obtain ⟨c,b,V,h1,e,f,g,h5⟩:=n;refine ⟨fun k=>match k with | 0=>E | k+1=>c k,fun k=>match k with | 0=>J | k+1=>b k,fun k=>match k with | 0=>undef | k+1=>V k,rfl,rfl,f,g, ?_⟩;intro k m o' d;cases k with
   | zero=>
     simp at d; obtain ⟨rfl,rfl⟩:=d;exact ⟨h1,.inr ⟨⟨a,hw,p⟩,rfl,e⟩,.inr ⟨by obtain ⟨j,want,r,_⟩:=p; rw[r]; simp,e⟩⟩
   | succ k=>exact h5 k m o' (by simpa using d)
theorem yl {qf:Nat->QF} {ops:List Oper} {E E':Bo} {J J':Aa} (h:Tr P qf ops (ops.zipIdx.map fun x=>(x.2,x.1)) E J E' J'):Nonempty (Data P qf ops E J E' J'):=by
 obtain ⟨b,c,V,h1,d,e,f,h5⟩:=ym h;refine ⟨⟨b,c,V,h1,d,by simpa using e,by simpa using f,fun k o a=>?_,fun k o a=>?_⟩⟩
 ·have:=h5 k k o (by simp[List.getElem?_zipIdx,a]);exact ⟨this.1,this.2.1⟩
 ·exact (h5 k k o (by simp[List.getElem?_zipIdx,a])).2.2
theorem R.pre {Z:Mu} {J J2_:Aa} {w:World} (h:R P Z J2_ w) (hp:J <+: J2_):R P Z J w:=by
 obtain ⟨t,rfl⟩:=hp;refine ⟨?_,h.lt, ?_⟩
 ·intro x o k e m;have c:x<J.length:=(Ab6.1 e).1;exact h.obj x o k (by rw[AT c]; exact e) m
 ·intro a b n kb h1 j g i l h5;have f:∀ x,alive J x->alive (J++t) x:=by
   intro x ⟨o,e,hd⟩;have c:x<J.length:=(Ab6.1 e).1;exact ⟨o,by rw[AT c]; exact e,hd⟩
  have d:∀ x,alive J x->AK J x->AK (J++t) x:=by
   intro x ⟨o,e,hd⟩ hw;have c:x<J.length:=(Ab6.1 e).1;unfold AK at hw ⊢
   rwa [AT c]
  exact h.inj a b n kb h1 j (f a g) (f b i) (l.imp (d a g) (d b i)) h5
theorem R.extend {Z:Mu} {J J2_:Aa} {w:World} (h:R P Z J w) (hp:J <+: J2_) (q:H8 Z J.length J2_.length):R P Z J2_ w:=by
 obtain ⟨t,rfl⟩:=hp;have key:∀ x k,Z x=some k->x<(J++t).length->x<J.length:=by
  intro x k d c;rcases Ael x J.length with j | j
  ·exact j
  ·rw[q x j c] at d; cases d
 refine ⟨?_,h.lt, ?_⟩
 ·intro x o k e d;have c:=key x k d (Ab6.1 e).1;rw[AT c] at e;exact h.obj x o k e d
 ·intro a b l kb h1 i m n p h5;have g:∀ x k,Z x=some k->alive (J++t) x->alive J x:=by
   intro x k d ⟨o,e,hd⟩;have c:=key x k d (Ab6.1 e).1;rw[AT c] at e;exact ⟨o,e,hd⟩
  have f:∀ x k,Z x=some k->alive (J++t) x->AK (J++t) x->AK J x:=by
   intro x k d ⟨o,e,hd⟩ hw;have c:=key x k d (Ab6.1 e).1;unfold AK at hw ⊢
   rwa [AT c] at hw
  exact h.inj a b l kb h1 i (g a l h1 m) (g b kb i n) (p.imp (f a l h1 m) (f b kb i n)) h5
theorem R.merge {Z A:Mu} {J J' f:Aa} {w w':World} (u:R P Z f w) (hp:J <+: J') (D:J' <+: f) (q:Step Z J w A J' w') (F:R P A J' w') (I:H8 Z J.length J'.length):R P A f w':=by
 have hle:=q.le I;have K:J.length<=J'.length:=q.len;have L:J'.length<=f.length:=D.length_le;have get':∀ x,x<J'.length->f[x]?=J'[x]?:=by
  obtain ⟨t,rfl⟩:=D;intro x g; rw[AT g]
 have get:∀ x,x<J.length->f[x]?=J[x]?:=by
  intro x g;rw[get' x (by omega)];obtain ⟨t,rfl⟩:=hp;rw[AT g]
 have i:∀ x,x<J.length->AK J x->alive f x:=by
  intro x g hw;obtain ⟨o,s,hd⟩:=Tu hw;exact ⟨o,by rw[get x g]; exact s,hd⟩
 have n:∀ x,x<J.length->AK J x->AK f x:=by
  intro x g hw;unfold AK at hw ⊢
  rwa [get x g]
 have H:∀ x k,J'.length<=x->Z x=some k->alive f x->w'.heap[k.b]?=w.heap[k.b]?:=by
  intro x k g v c;refine q.frame k.b (u.lt x k v) ?_;intro h0 G l y z m;have:=u.inj h0 x G k y v (i h0 l m) c (.inl (n h0 l m)) z;omega
 refine ⟨?_,F.lt, ?_⟩
 ·intro x o k s v;by_cases g:x<J'.length
  ·rw[get' x g] at s;exact F.obj x o k s v
  ·rw[q.mu x (.inr (by omega))] at v;by_cases hd:o = .dead
   ·subst hd; trivial
   ·rw[H x k (by omega) v ⟨o,s,hd⟩];exact (u.obj x o k s v).mono hle
 ·have side:∀ a b p kb,A a=some p->A b=some kb->alive f a->alive f b->AK f a\/AK f b->p.b=kb.b->a<J'.length->J'.length<=b->a=b:=by
   intro a b p kb r hb c e j d B C;rw[q.mu b (.inr C)] at hb;by_cases has:a<J.length
   ·rw[q.mu a (.inl has)] at r;exact u.inj a b p kb r hb c e j d
   ·rcases q.new a p (by omega) B r with h | ⟨h0,G,l,y,z,m⟩
    ·have:=u.lt b kb hb; omega
    ·have:=u.inj h0 b G kb y hb (i h0 l m) e (.inl (n h0 l m)) (z.trans d);omega
  intro a b p kb r hb c e j d;by_cases h1:a<J'.length <;> by_cases E:b<J'.length
  ·have al:∀ x,x<J'.length->alive f x->alive J' x:=by
    intro x g ⟨o,s,hd⟩; exact ⟨o,by rw[<- get' x g]; exact s,hd⟩
   have wl:∀ x,x<J'.length->AK f x->AK J' x:=by
    intro x g hw;unfold AK at hw ⊢
    rwa [get' x g] at hw
   exact F.inj a b p kb r hb (al a h1 c) (al b E e) (j.imp (wl a h1) (wl b E)) d
  ·exact side a b p kb r hb c e j d h1 (by omega)
  ·exact (side b a kb p hb r e c j.symm d.symm E (by omega)).symm
  ·rw[q.mu a (.inr (by omega))] at r;rw[q.mu b (.inr (by omega))] at hb;exact u.inj a b p kb r hb c e j d
end
section
variable {ρ:Type} {P:Program} [AJ]
section
variable {qf:Nat->QF} {ops:List Oper} {E0 E':Bo} {J0_ J':Aa}
def L (listed:Array Bool) (j:Nat):Prop:=listed.getD j false=true
theorem Data.nF (D:Data P qf ops E0 J0_ E' J'):∀ k,k<=ops.length->(D.Ef k).length=E0.length
 | 0,_=>by rw[D.e0]
 | k+1,h=>by
   rw[(D.step k _ (Aau h)).1,EO]; exact D.nF k (by omega)
theorem Data.Aaf (D:Data P qf ops E0 J0_ E' J') {k:Nat} (h:k<ops.length):(D.Sf k).length<=(D.Sf (k+1)).length:=by
 rcases (D.step k _ (Aau h)).2 with ⟨_,_,_,a⟩ | ⟨_,_,hs⟩
 ·exact a.len
 ·rw[hs]; exact Aa1 _
theorem Data.IZ (D:Data P qf ops E0 J0_ E' J') {i:Nat}:∀ m,i<=m->m<=ops.length->(D.Sf i).length<=(D.Sf m).length:=by
 intro m hm
 induction hm with
 | refl=>intro _; exact Aa1 _
 | step hm a=>intro h; exact Adt (a (by omega)) (D.Aaf h)
theorem fH {k:Nat} {o:Oper} (c:ops[k]?=some o) (h:IG P ops qf k ≠ .lo):(IG P ops qf k=Gh P o/\(Ou o=true->(qf k).1=true))\/(isApp o=true/\(qf k).1=true/\IG P ops qf k = .al):=by
 unfold IG at h ⊢;rw[c] at h ⊢;simp only at h ⊢;cases b:(Ou o && !(qf k).1) with
 | true=>rw[b] at h; exact absurd rfl h
 | false=>
   rw[By];cases a:(isApp o && (qf k).1) with
   | true=>
     rw[IS];simp only[Ads] at a;exact .inr ⟨a.1,a.2,rfl⟩
   | false=>
     rw[By];refine .inl ⟨rfl,fun hi=>?_⟩;rw[hi] at b; simpa using b
theorem XW {k:Nat} {o:Oper} (a:ops[k]?=some o) (h:IG P ops qf k = .pure):Gh P o = .pure:=by
 rcases fH (P:=P) (qf:=qf) a (by rw[h]; simp) with ⟨h1,_⟩ | ⟨_,_,h1⟩
 ·rw[<- h1]; exact h
 ·rw[h] at h1; cases h1
theorem nQ {o:Oper} {c:Call} (d:o.op = .call c) (h:Gh P o = .al):Ou o=true:=by
 unfold Ou;rw[d];cases a:c.callee with
 | builtin b=>
   simp only[Gh,d,a] at h;cases b <;> cases hm:Ul P c.argTypes.toList <;> simp[hm,eu] at h
 | invoke r m=>simp only[a]
 | value f=>simp only[a]
theorem Data.quiet (D:Data P qf ops E0 J0_ E' J') {k:Nat} (h:k<ops.length) (l:IG P ops qf k ≠ .lo):D.Sf k <+: D.Sf (k+1):=by
 have i:=Aau h;rcases fH (P:=P) (qf:=qf) i l with ⟨g,m⟩ | ⟨e,j,_⟩
 rotate_left
 ·rcases (D.step k _ i).2 with ⟨_,_,_,f⟩ | ⟨_,_,hs⟩
  ·exact f.app e j
  ·rw[hs]; exact Agv _
 rcases (D.step k _ i).2 with ⟨_,_,_,f⟩ | ⟨_,_,hs⟩
 ·cases b:Gh P ops[k] with
  | pure=>rw[(f.pure b).1]; exact Agv _
  | ld=>rw[f.ld b]; exact Agv _
  | al=>
    refine f.al b ?_;by_cases a:∃ c,ops[k].op = .call c
    ·obtain ⟨c,d⟩:=a;exact .inr (m (nQ d b))
    ·exact .inl fun c d=>a ⟨c,d⟩
  | lo=>exact absurd (g.trans b) l
 ·rw[hs]; exact Agv _
theorem Data.chain (D:Data P qf ops E0 J0_ E' J') {i:Nat}:∀ m,i<=m->m<=ops.length->(∀ k,i<=k->k<m->IG P ops qf k ≠ .lo)->D.Sf i <+: D.Sf m:=by
 intro m hm
 induction hm with
 | refl=>intro _ _; exact Agv _
 | step hm b=>intro h a; exact (b (by omega) fun k h1 c=>a k h1 (by omega)).trans (D.quiet h (a _ hm (by omega)))
theorem Data.PM (D:Data P qf ops E0 J0_ E' J') {i t:Nat}:∀ m,i<=m->m<=ops.length->(∀ k o,i<=k->k<m->ops[k]?=some o->o.dst≠some t)->(D.Ef m).getD t none=(D.Ef i).getD t none:=by
 intro m hm
 induction hm with
 | refl=>intro _ _; rfl
 | @step m hm c=>
   intro h a;have b:=Aau h;rw[(D.step m _ b).1,LI (a m _ hm (by omega) b)];exact c (by omega) fun k o h1 d=>a k o h1 (by omega)
theorem av (P:Program) (qf:Nat->QF) (ops:List Oper):∀ (d i:Nat),i+d=ops.length -> ∃ m,i<=m/\m<=ops.length/\(∀ k,i<=k->k<m->IG P ops qf k ≠ .lo)/\(m=ops.length\/IG P ops qf m = .lo)
 | 0,i,h=>⟨i,Aa1 _,by omega,fun k h1 a=>absurd a (by omega),.inl (by omega)⟩
 | d+1,i,h=>by
   by_cases e:IG P ops qf i = .lo
   ·exact ⟨i,Aa1 _,by omega,fun k h1 a=>absurd a (by omega),.inr e⟩
   ·obtain ⟨m,h1,a,f,g⟩:=av P qf ops d (i+1) (by omega);refine ⟨m,by omega,a,fun k j b=>?_,g⟩;by_cases c:k=i
    ·subst c; exact e
    ·exact f k (by omega) b
theorem Uh (D:Data P qf ops E0 J0_ E' J') {Z:Mu} {i:Nat}:∀ m,i<=m->m<=ops.length->(∀ k,i<=k->k<m->H8 Z (D.Sf k).length (D.Sf (k+1)).length)->H8 Z (D.Sf i).length (D.Sf m).length:=by
 intro m hm
 induction hm with
 | refl=>intro _ _ h h1 d; omega
 | @step m hm f=>
   intro g e h h1 d;by_cases c:h<(D.Sf m).length
   ·exact f (by omega) (fun k a b=>e k a (by omega)) h h1 c
   ·exact e m hm (by omega) h (by omega) d
theorem ah {J J2_:Aa} (hp:J <+: J2_) {h:Nat} (a:h<J.length):AK J2_ h=AK J h:=by
 obtain ⟨t,rfl⟩:=hp;unfold AK; rw[AT a]
def oX (o:Oper):Prop:=(∃ T a,o.op = .load T (.tmp a)) \/ ∃ T a lo hi b,o.op = .slice T (.tmp a) lo hi b
theorem nH {i j:Nat} (h:zM ops qf i j=true):∃ t o,ops[j]?=some o/\t ∈ (qf i).2/\((∃ T a,o.op = .load T (.tmp a)/\Z6 ops 8 a j=some t) \/ ∃ T a lo hi f,o.op = .slice T (.tmp a) lo hi f/\lQ ops 8 a j=some t/\bare ops i=true):=by
 unfold zM at h;split at h;rotate_left
 ·cases h
 rename_i t c;rw[Ads,Afh] at h;have g:t ∈ (qf i).2:=by simpa using h.1
 unfold Xf at c;split at c;rotate_left
 ·cases c
 rename_i o e;split at c
 ·rename_i T a b;exact ⟨t,o,e,g,.inl ⟨T,a,b,c⟩⟩
 ·rename_i T a lo hi f b;refine ⟨t,o,e,g,.inr ⟨T,a,lo,hi,f,b,c,h.2.resolve_left fun d=>?_⟩⟩;unfold se at d;rw[e] at d;simp only[b] at d;cases d
 ·cases c
theorem yF {j:Nat} (h:se ops j=true):∃ o T a,ops[j]?=some o/\o.op = .load T (.tmp a):=by
 unfold se at h;split at h;rotate_left
 ·cases h
 rename_i o c;split at h;rotate_left
 ·cases h
 rename_i T a b;exact ⟨o,T,a,c,b⟩
theorem Xg {i j:Nat} (h:Oj ops qf i j=true):∃ o,ops[j]?=some o/\oX o:=by
 unfold Oj at h;rw[Afh,Ads] at h;rcases h with h | ⟨h,_⟩
 ·obtain ⟨_,o,h1,_,b⟩:=nH h;rcases b with ⟨T,a,b,_⟩ | ⟨T,a,lo,hi,c,b,_⟩
  ·exact ⟨o,h1,.inl ⟨T,a,b⟩⟩
  ·exact ⟨o,h1,.inr ⟨T,a,lo,hi,c,b⟩⟩
 ·obtain ⟨o,T,a,h1,b⟩:=yF h;exact ⟨o,h1,.inl ⟨T,a,b⟩⟩
theorem cM {j:Nat} {o:Oper} (e:ops[j]?=some o) (b:oX o):IG P ops qf j = .ld/\Gh P o = .ld:=by
 have h0:Gh P o = .ld:=by rcases b with ⟨T,a,b⟩ | ⟨T,a,lo,hi,c,b⟩ <;> (unfold Gh; rw[b])
 have h1:Ou o=false:=by rcases b with ⟨T,a,b⟩ | ⟨T,a,lo,hi,c,b⟩ <;> (unfold Ou; rw[b])
 have d:isApp o=false:=by rcases b with ⟨T,a,b⟩ | ⟨T,a,lo,hi,c,b⟩ <;> (unfold isApp; rw[b])
 refine ⟨?_,h0⟩;unfold IG;rw[e];simp only[h1,d,Ag2,By];exact h0
theorem Data.Y6 (D:Data P qf ops E0 J0_ E' J') {j:Nat} {o:Oper} (b:ops[j]?=some o) (a:oX o):D.Sf (j+1)=D.Sf j:=by
 rcases (D.step j o b).2 with ⟨_,_,_,c⟩ | ⟨_,_,hs⟩
 ·exact c.ld (cM (qf:=qf) b a).2
 ·exact hs
theorem Nd.lo_lo (hd:Nd P ops qf) {i j:Nat} (hi:i<ops.length) (e:j<ops.length) (b:i≠j) (d:IG P ops qf i = .lo) (a:IG P ops qf j = .lo):ordered (Ng ops []) i j=true:=by
 rcases hd.mem i j hi e b d (by rw[a]; simp) with h | h
 ·exact h
 ·obtain ⟨o,f,c⟩:=Xg h;rw[(cM (P:=P) (qf:=qf) f c).1] at a;cases a
theorem Nd.zT (hd:Nd P ops qf) {i j:Nat} (hi:i<ops.length) (d:j<ops.length) (b:i≠j) (c:IG P ops qf i = .lo) (a:IG P ops qf j ≠ .pure) (e:∀ k,k<ops.length->Oj ops qf k j=false):ordered (Ng ops []) i j=true:=by
 rcases hd.mem i j hi d b c a with h | h
 ·exact h
 ·rw[e i hi] at h; cases h
structure Mx (D:Data P qf ops E0 J0_ E' J') (hi:Nat) (Z0_:Mu) (w0:World) (listed:Array Bool) (Z:Mu) (w:World):Prop where
 mem:∃ m,m<=ops.length/\(∀ j,j<ops.length->IG P ops qf j = .lo->(L listed j↔j<m))/\(m=ops.length\/IG P ops qf m = .lo)/\R P Z (D.Sf m) w
 fresh:∀ j,j<ops.length->¬ L listed j->H8 Z (D.Sf j).length (D.Sf (j+1)).length
 mu:∀ h,(h<(D.Sf 0).length\/(D.Sf ops.length).length<=h)->Z h=Z0_ h
 new:∀ h k,(D.Sf 0).length<=h->h<(D.Sf ops.length).length->Z h=some k->w0.heap.size<=k.b \/ ∃ h0 k0,h0<(D.Sf 0).length/\Z0_ h0=some k0/\k0.b=k.b/\AK (D.Sf 0) h0
 wr:∀ j,j<ops.length->L listed j -> ∀ h,h<(D.Sf j).length->AK (D.Sf (j+1)) h->AK (D.Sf j) h
 size:w0.heap.size<=w.heap.size
 tape:w.tape=w0.tape
 os:w.os=w0.os
 output:w.output=w0.output
 frame:∀ b,b<w0.heap.size->(∀ h k,h<(D.Sf 0).length->Z0_ h=some k->k.b=b->¬ AK (D.Sf 0) h)->w.heap[b]?=w0.heap[b]?
theorem pb {listed:Array Bool} {i j:Nat} (hi:i<listed.size):L (listed.setIfInBounds i true) j↔j=i\/L listed j:=by
 unfold L;by_cases h:i=j
 ·subst h; simp[hi]
 ·rw[getD_set_ne false h];constructor
  ·exact .inr
  ·rintro (rfl | a)
   ·exact absurd rfl h
   ·exact a
structure Zg (P:Program) (qf:Nat->QF) (ops:List Oper) (listed:Array Bool) (i:Nat):Prop where
 lt:i<ops.length
 size:listed.size=ops.length
 un:¬ L listed i
 ord:∀ j,j≠i->ordered (Ng ops []) i j=true->(L listed j↔j<i)
variable {hi:Nat} {Z0_ Z:Mu} {w0 w:World} {listed:Array Bool} {i:Nat}
theorem Mx.idle {D:Data P qf ops E0 J0_ E' J'} (hd:Nd P ops qf) (h:Mx D hi Z0_ w0 listed Z w) (g:Zg P qf ops listed i) (hs:D.Sf (i+1)=D.Sf i):Mx D hi Z0_ w0 (listed.setIfInBounds i true) Z w:=by
 have c:∀ j,L (listed.setIfInBounds i true) j↔j=i\/L listed j:=fun j=>pb (by rw[g.size]; exact g.lt);refine ⟨?_,fun j n y=>h.fresh j n fun G=>y ((c j).2 (.inr G)),h.mu,h.new, ?_,h.size,h.tape,h.os,h.output,h.frame⟩
 ·obtain ⟨m,hm,f,d,B⟩:=h.mem;by_cases A:IG P ops qf i = .lo
  ·have H:m=i:=by
    have E:=f i g.lt A;have F:¬ i<m:=fun p=>g.un (E.2 p);rcases d with rfl | d
    ·exact absurd g.lt F
    ·by_cases r:m=i
     ·exact r
     ·have q:m<ops.length:=by have:=g.lt; omega
      have:=(f m q d);have s:=g.ord m r (hd.lo_lo g.lt q (Adk r) A d);have:L listed m:=s.2 (by omega);have:=(f m q d).1 this;omega
   subst H;obtain ⟨m',h1,s,K,M⟩:=av P qf ops (ops.length-(m+1)) (m+1) (by have:=g.lt; omega);refine ⟨m',s, ?_,M, ?_⟩
   ·intro j n e;rw[c];by_cases u:j=m
    ·subst u; simp; omega
    ·have:=f j n e;constructor
     ·rintro (h | h)
      ·exact absurd h u
      ·have:=this.1 h; omega
     ·intro p;right;apply this.2;apply Adv;intro O;exact K j (by omega) p e
   ·have hp:=D.chain (i:=m+1) m' h1 s K;rw[<- hs] at B;refine B.extend hp (Uh D m' h1 s fun k Q S=>?_);by_cases v:IG P ops qf k = .pure
    ·have C:=XW (P:=P) (qf:=qf) (Aau (show k<ops.length by omega)) v;rcases (D.step k _ (Aau (show k<ops.length by omega))).2 with ⟨_,_,_,N⟩ | ⟨_,_,J⟩
     ·rw[(N.pure C).1]; intro x a b; omega
     ·rw[J]; intro x a b; omega
    ·rcases hd.mem m k g.lt (by omega) (by omega) A v with z | t
     ·refine h.fresh k (by omega) fun y=>?_;have:=(g.ord k (by omega) z).1 y;omega
     ·obtain ⟨o,T,I⟩:=Xg t;rw[D.Y6 T I]; intro x a b; omega
  ·refine ⟨m,hm, ?_,d,B⟩;intro j n e;rw[c];have l:j≠i:=by rintro rfl; exact A e
   simp only[l,Ah6];exact f j n e
 ·intro j n y x U hw;by_cases l:j=i
  ·subst l; rw[hs] at hw; exact hw
  ·exact h.wr j n (((c j).1 y).resolve_left l) x U hw
theorem Mx.at {D:Data P qf ops E0 J0_ E' J'} (hd:Nd P ops qf) (h:Mx D hi Z0_ w0 listed Z w) (e:Zg P qf ops listed i) (s:IG P ops qf i ≠ .pure) (u:∀ k,k<ops.length->Oj ops qf k i=false):
  ∃ m,m<=ops.length/\(∀ j,j<ops.length->IG P ops qf j = .lo->(L listed j↔j<m))/\(m=ops.length\/IG P ops qf m = .lo)/\R P Z (D.Sf m) w/\i<=m/\(∀ k,i<=k->k<m->IG P ops qf k ≠ .lo)/\(IG P ops qf i = .lo->m=i):=by
 obtain ⟨m,hm,d,n,v⟩:=h.mem;have q:i<=m:=by
  apply Adv;intro y;have o:m<ops.length:=by have:=e.lt; omega
  have l:IG P ops qf m = .lo:=n.resolve_left (by omega);have a:=hd.zT o e.lt (by omega) l s u;have b:ordered (Ng ops []) i m=true:=by unfold ordered at a ⊢; rw[Ag3]; exact a
  have:=(e.ord m (by omega) b).2 (by omega);have:=(d m o l).1 this;omega
 have f:∀ k,i<=k->k<m->IG P ops qf k ≠ .lo:=by
  intro k x r g;have t:=(d k (by omega) g).2 r;by_cases c:k=i
  ·subst c; exact e.un t
  ·have a:=hd.zT (by omega) e.lt c g s u;have b:ordered (Ng ops []) i k=true:=by unfold ordered at a ⊢; rw[Ag3]; exact a
   have:=(e.ord k c b).1 t;omega
 refine ⟨m,hm,d,n,v,q,f,fun p=>?_⟩;apply Adv;intro z;exact f i (Aa1 _) (by omega) p
theorem Mx.run {D:Data P qf ops E0 J0_ E' J'} (hd:Nd P ops qf) (h:Mx D hi Z0_ w0 listed Z w) (s:Zg P qf ops listed i) (hc:IG P ops qf i ≠ .pure) (T:∀ k,k<ops.length->Oj ops qf k i=false):
  R P Z (D.Sf i) w /\ ∀ (B:Mu) (w':World),Step Z (D.Sf i) w B (D.Sf (i+1)) w'->R P B (D.Sf (i+1)) w'->Mx D hi Z0_ w0 (listed.setIfInBounds i true) B w':=by
 have c:∀ j,L (listed.setIfInBounds i true) j↔j=i\/L listed j:=fun j=>pb (by rw[s.size]; exact s.lt);obtain ⟨m,hm,O,Q,hR,ac,F,af⟩:=h.at hd s hc T;have U:D.Sf i <+: D.Sf m:=D.chain m ac hm F;refine ⟨hR.pre U,fun B w' f E=>?_⟩;have ab:=h.fresh i s.lt s.un;have q:=s.lt;have au:(D.Sf 0).length<=(D.Sf i).length:=D.IZ i (Ado _) (by omega);have ax:(D.Sf (i+1)).length<=(D.Sf ops.length).length:=D.IZ ops.length q (Aa1 _);have aw:(D.Sf i).length<=(D.Sf ops.length).length:=D.IZ ops.length (by omega) (Aa1 _);have V:∀ k,k<=i -> ∀ x,x<(D.Sf 0).length->AK (D.Sf k) x->AK (D.Sf 0) x:=by
  intro k
  induction k with
  | zero=>intro _ x _ hw; exact hw
  | succ k ih=>
    intro r x t hw;have W:x<(D.Sf k).length:=Acp t (D.IZ k (Ado _) (by omega));refine ih (by omega) x t ?_;by_cases G:IG P ops qf k = .lo
    ·have d:=hd.zT (by omega) q (by omega) G hc T;have y:ordered (Ng ops []) i k=true:=by unfold ordered at d ⊢; rw[Ag3]; exact d
     exact h.wr k (by omega) ((s.ord k (by omega) y).2 (by omega)) x W hw
    ·rwa [ah (D.quiet (by omega) G) W] at hw
 have S:∀ x k,(D.Sf 0).length<=x->x<(D.Sf ops.length).length->B x=some k->w0.heap.size<=k.b \/ ∃ h0 X,h0<(D.Sf 0).length/\Z0_ h0=some X/\X.b=k.b/\AK (D.Sf 0) h0:=by
  intro x k am an r;by_cases ap:x<(D.Sf i).length\/(D.Sf (i+1)).length<=x
  ·rw[f.mu x ap] at r;exact h.new x k am an r
  ·rcases f.new x k (by omega) (by omega) r with hb | ⟨h0,X,g1,Y,g3,g4⟩
   ·exact .inl (Adt h.size hb)
   ·by_cases u:h0<(D.Sf 0).length
    ·rw[h.mu h0 (.inl u)] at Y;exact .inr ⟨h0,X,u,Y,g3,V i (Aa1 _) h0 u g4⟩
    ·rcases h.new h0 X (by omega) (by omega) Y with hb | ⟨h1,k1,q1,q2,q3,q4⟩
     ·exact .inl (by omega)
     ·exact .inr ⟨h1,k1,q1,q2,q3.trans g3,q4⟩
 refine ⟨?_, ?_, ?_,S, ?_,Adt h.size f.size,f.tape.trans h.tape,f.os.trans h.os,f.output.trans h.output, ?_⟩
 ·
  by_cases g:IG P ops qf i = .lo
  ·have:=af g;subst this;obtain ⟨m',h1,C,h3,h4⟩:=av P qf ops (ops.length-(m+1)) (m+1) (by omega);refine ⟨m',C, ?_,h4, ?_⟩
   ·intro j v l;rw[c];by_cases K:j=m
    ·subst K; simp; omega
    ·have:=O j v l;constructor
     ·rintro (h | h)
      ·exact absurd h K
      ·have:=this.1 h; omega
     ·intro p;right;apply this.2;apply Adv;intro J;exact h3 j (by omega) p l
   ·have hp:=D.chain (i:=m+1) m' h1 C h3;refine E.extend hp (Uh D m' h1 C fun k ad ar=>?_);by_cases N:IG P ops qf k = .pure
    ·have aa:=XW (P:=P) (qf:=qf) (Aau (show k<ops.length by omega)) N;rcases (D.step k _ (Aau (show k<ops.length by omega))).2 with ⟨_,_,_,hf⟩ | ⟨_,_,aj⟩
     ·rw[(hf.pure aa).1]; intro x a b; omega
     ·rw[aj]; intro x a b; omega
    ·rcases hd.mem m k q (by omega) (by omega) g N with d | H
     ·have ak:¬ L listed k:=fun A=>by
       have:=(s.ord k (by omega) d).1 A;omega
      intro x a b;have J:(D.Sf (m+1)).length<=(D.Sf k).length:=D.IZ k ad (by omega);rw[f.mu x (.inr (by omega))];exact h.fresh k (by omega) ak x a b
     ·obtain ⟨o,ho,ag⟩:=Xg H;rw[D.Y6 ho ag]; intro x a b; omega
  ·have ay:i≠m:=by
    rintro rfl;rcases Q with h | h
    ·omega
    ·exact g h
   have ai:D.Sf (i+1) <+: D.Sf m:=D.chain m (by omega) hm fun k h1 C=>F k (by omega) C;refine ⟨m,hm, ?_,Q,hR.merge (D.quiet q g) ai f E ab⟩;intro j v l;rw[c];have n:j≠i:=by rintro rfl; exact g l
   simp only[n,Ah6];exact O j v l
 ·intro j v A x a b;have n:j≠i:=fun e=>A ((c j).2 (.inl e));have I:=h.fresh j v (fun ae=>A ((c j).2 (.inr ae))) x a b;rcases Ael j i with p | J
  ·have:(D.Sf (j+1)).length<=(D.Sf i).length:=D.IZ i p (by omega);rw[f.mu x (.inl (by omega))]; exact I
  ·have:(D.Sf (i+1)).length<=(D.Sf j).length:=D.IZ j (by omega) (by omega);rw[f.mu x (.inr (by omega))]; exact I
 ·intro x t;rw[f.mu x (by omega)];exact h.mu x t
 ·intro j v A x t hw;by_cases n:j=i
  ·subst n; exact f.wr x t hw
  ·exact h.wr j v (((c j).1 A).resolve_left n) x t hw
 ·intro b hb hn;rw[f.frame b (Acp hb h.size) ?_,h.frame b hb hn];intro x k t r M hw;by_cases z:x<(D.Sf 0).length
  ·rw[h.mu x (.inl z)] at r;exact hn x k z r M (V i (Aa1 _) x z hw)
  ·rcases h.new x k (by omega) (by omega) r with aq | ⟨h1,k1,q1,q2,q3,q4⟩
   ·omega
   ·exact hn h1 k1 q1 q2 (q3.trans M) q4
theorem YH (D:Data P qf ops E0 J0_ E' J'):∀ (n a j:Nat) {t:Nat} {l:Addr},j<=ops.length->Z6 ops n a j=some t->(D.Ef j).getD a none=some (.pointer (some l)) ->
  ∃ b,E0.getD t none=some (.pointer (some b))/\b.block=l.block /\ ∀ k,k<=ops.length->(D.Ef k).getD t none=E0.getD t none
 | 0,a,j,t,l,A,h,g=>by cases h
 | n+1,a,j,t,l,A,h,g=>by
   simp only[Z6] at h;split at h
   ·rename_i r;cases h;have E:∀ (k:Nat) (o:Oper),ops[k]?=some o->o.dst≠some a:=by
     intro k o m hd;have:(o,k) ∈ ops.zipIdx.filter fun p=>p.1.dst == some a:=Aea.2 ⟨mem_zipIdx m,by simp[hd]⟩;rw[r] at this; cases this
    have d:∀ k,k<=ops.length->(D.Ef k).getD a none=E0.getD a none:=fun k m=>by
     rw[D.PM (i:=0) k (Ado _) m fun x o _ _ Q=>E x o Q,D.e0]
    exact ⟨l,by rw[<- d j A]; exact g,rfl,d⟩
   ·rename_i p hp;cases e:Nat.blt p.2 j with
    | false=>rw[e] at h; cases h
    | true=>
      rw[e,IS] at h;have e:p.2<j:=by simpa [Ahq] using e
      have q:p ∈ ops.zipIdx.filter fun p=>p.1.dst == some a:=by rw[hp]; simp
      obtain ⟨B,C⟩:=Aea.1 q;have G:ops[p.2]?=some p.1:=Aez.1 B;have F:p.1.dst=some a:=by simpa using C
      have s:∀ (k:Nat) (o:Oper),p.2+1<=k->k<j->ops[k]?=some o->o.dst≠some a:=by
       intro k o h1 y m hd;have:(o,k) ∈ ops.zipIdx.filter fun p=>p.1.dst == some a:=Aea.2 ⟨mem_zipIdx m,by simp[hd]⟩;rw[hp] at this;have:=Ac1.1 this;rw[<- this] at h1;simp only at h1;omega
      obtain ⟨N,u⟩:=D.step p.2 p.1 G;rw[D.PM (i:=p.2+1) j (by omega) A s,N,F] at g;simp only[KC,JX] at g;have w:D.V p.2 = .pointer (some l):=by
       split at g
       ·exact Aej g
       ·rename_i O;have:a<(D.Ef p.2).length:=by
         rcases Ael a (D.Ef p.2).length with h | h
         ·exact h
         ·rw[Aax,Adr h] at g; cases g
        exact absurd (by simp[this]) O
      have H:∀ b,(p.1.op = .move (.tmp b)\/p.1.op = .nilCheck (.tmp b))->Z6 ops n b p.2=some t -> ∃ b,E0.getD t none=some (.pointer (some b))/\b.block=l.block /\ ∀ k,k<=ops.length->(D.Ef k).getD t none=E0.getD t none:=by
       intro b c h;rcases u with ⟨v,hw,_,z⟩ | ⟨_,hu,_⟩
       ·have h1:=z.more.mv (.tmp b) c;rw[w] at h1;exact YH D n b p.2 (by omega) h (hw b _ (KE h1).2)
       ·rw[w] at hu; cases hu
      split at h
      ·rename_i T b f c;rcases u with ⟨v,hw,_,z⟩ | ⟨_,hu,_⟩
       ·obtain ⟨U,S,h1,y,M⟩:=z.more.fa T (.tmp b) f c;rw[w] at y;cases y;obtain ⟨I,J,K,L⟩:=YH D n b p.2 (by omega) h (hw b _ (KE h1).2);exact ⟨I,J,K.trans M.symm,L⟩
       ·rw[w] at hu; cases hu
      ·rename_i b c;exact H b (.inl c) h
      ·rename_i b c;exact H b (.inr c) h
      ·cases h
   ·cases h
theorem dt (D:Data P qf ops E0 J0_ E' J'):∀ (n a j:Nat) {t:Nat} {x:Option Addr} {l c:Nat},j<=ops.length->lQ ops n a j=some t->(D.Ef j).getD a none=some (.slice x l c) ->
  E0.getD t none=some (.slice x l c) /\ ∀ k,k<=ops.length->(D.Ef k).getD t none=E0.getD t none
 | 0,a,j,t,x,l,c,s,h,f=>by cases h
 | n+1,a,j,t,x,l,c,s,h,f=>by
   simp only[lQ] at h;split at h
   ·rename_i q;cases h;have w:∀ (k:Nat) (o:Oper),ops[k]?=some o->o.dst≠some a:=by
     intro k o g hd;have:(o,k) ∈ ops.zipIdx.filter fun p=>p.1.dst == some a:=Aea.2 ⟨mem_zipIdx g,by simp[hd]⟩;rw[q] at this; cases this
    have d:∀ k,k<=ops.length->(D.Ef k).getD a none=E0.getD a none:=fun k g=>by
     rw[D.PM (i:=0) k (Ado _) g fun x o _ _ I=>w x o I,D.e0]
    exact ⟨by rw[<- d j s]; exact f,d⟩
   ·rename_i p hp;cases e:Nat.blt p.2 j with
    | false=>rw[e] at h; cases h
    | true=>
      rw[e,IS] at h;have e:p.2<j:=by simpa [Ahq] using e
      have m:p ∈ ops.zipIdx.filter fun p=>p.1.dst == some a:=by rw[hp]; simp
      obtain ⟨u,v⟩:=Aea.1 m;have A:ops[p.2]?=some p.1:=Aez.1 u;have z:p.1.dst=some a:=by simpa using v
      have r:∀ (k:Nat) (o:Oper),p.2+1<=k->k<j->ops[k]?=some o->o.dst≠some a:=by
       intro k o h1 J g hd;have:(o,k) ∈ ops.zipIdx.filter fun p=>p.1.dst == some a:=Aea.2 ⟨mem_zipIdx g,by simp[hd]⟩;rw[hp] at this;have:=Ac1.1 this;rw[<- this] at h1;simp only at h1;omega
      obtain ⟨F,B⟩:=D.step p.2 p.1 A;rw[D.PM (i:=p.2+1) j (by omega) s r,F,z] at f;simp only[KC,JX] at f;have C:D.V p.2 = .slice x l c:=by
       split at f
       ·exact Aej f
       ·rename_i G;have:a<(D.Ef p.2).length:=by
         rcases Ael a (D.Ef p.2).length with h | h
         ·exact h
         ·rw[Aax,Adr h] at f; cases f
        exact absurd (by simp[this]) G
      split at h
      ·rename_i b y;rcases B with ⟨E,hw,_,H⟩ | ⟨_,hu,_⟩
       ·have h1:=H.more.mv (.tmp b) (.inl y);rw[C] at h1;exact dt D n b p.2 (by omega) h (hw b _ (KE h1).2)
       ·rw[C] at hu; cases hu
      ·cases h
   ·cases h
def only (h:Nat) (J:Aa):Aa:=J.mapIdx fun x o=>if x=h then o else .dead
theorem R.only {Z:Mu} {J:Aa} {w:World} (j:R P Z J w) (h:Nat):R P Z (only h J) w:=by
 have get:∀ x o,(AX.only h J)[x]?=some o->(x=h/\J[x]?=some o)\/o = .dead:=by
  intro x o c;unfold AX.only at c;rw[List.getElem?_mapIdx] at c;cases l:J[x]? with
  | none=>rw[l] at c; cases c
  | some y=>
    rw[l] at c;simp only[Af3,Aeq] at c;by_cases g:x=h
    ·rw[Aay g] at c; exact .inl ⟨g,by rw[c]⟩
    ·rw[Aaz g] at c; exact .inr c.symm
 refine ⟨?_,j.lt, ?_⟩
 ·intro x o k c r;rcases get x o c with ⟨_,i⟩ | rfl
  ·exact j.obj x o k i r
  ·trivial
 ·intro a b u kb h1 i p q t h5;obtain ⟨o,c,hd⟩:=p;obtain ⟨s,f,d⟩:=q;rcases get a o c with ⟨m,_⟩ | e
  ·rcases get b s f with ⟨n,_⟩ | e
   ·rw[m,n]
   ·exact absurd e d
  ·exact absurd e hd
theorem gJ (D:Data P qf ops E0 J0_ E' J') {k i:Nat} (h:vp ops k i=true):i<k /\ ∀ b,b<(D.Sf i).length->(D.Sf (k+1))[b]?=(D.Sf k)[b]?:=by
 unfold vp at h;split at h;rotate_left
 ·cases h
 rename_i o A;have I:k<ops.length:=(Ab6.1 A).1;split at h;rotate_left
 ·cases h
 rename_i T a y q;split at h;rotate_left
 ·cases h
 rename_i p hp;simp only[Ads,Ahq] at h;obtain ⟨⟨c,G⟩,J⟩:=h;unfold Abq at c;split at c;rotate_left
 ·cases c
 rename_i B g;have e:p ∈ ops.zipIdx.filter fun p=>p.1.dst == some a:=by rw[hp]; simp
 obtain ⟨m,n⟩:=Aea.1 e;have s:ops[p.2]?=some p.1:=Aez.1 m;have r:p.1.dst=some a:=by simpa using n
 have f:∀ (x:Nat) (o:Oper),p.2+1<=x->x<k->ops[x]?=some o->o.dst≠some a:=by
  intro x o h1 w H hd;have:(o,x) ∈ ops.zipIdx.filter fun p=>p.1.dst == some a:=Aea.2 ⟨mem_zipIdx H,by simp[hd]⟩;rw[hp] at this;have:=Ac1.1 this;rw[<- this] at h1;simp only at h1;omega
 refine ⟨by omega,fun b hb=>?_⟩;rcases (D.step k o A).2 with ⟨j,hw,_,F⟩ | ⟨_,_,hs⟩
 rotate_left
 ·rw[hs]
 obtain ⟨u,h1,w⟩:=F.more.st T (.tmp a) y q;have d:(D.Ef k).getD a none=some (.pointer (some u)):=hw a _ (KE h1).2;obtain ⟨C,t⟩:=D.step p.2 p.1 s;rw[D.PM (i:=p.2+1) k (by omega) (by omega) f,C,r] at d;simp only[KC,JX] at d;have z:D.V p.2 = .pointer (some u):=by
  split at d
  ·exact Aej d
  ·rename_i E;have:a<(D.Ef p.2).length:=by
    rcases Ael a (D.Ef p.2).length with h | h
    ·exact h
    ·rw[Aax,Adr h] at d; cases d
   exact absurd (by simp[this]) E
 rcases t with ⟨j,hw,_,l⟩ | ⟨_,hu,_⟩
 ·obtain ⟨K,v,L⟩:=l.more.al B g;rw[z] at v;cases v;refine w b ?_;have:=D.IZ (i:=i) p.2 (by omega) (by omega);omega
 ·rw[z] at hu; cases hu
theorem Mx.yC {D:Data P qf ops E0 J0_ E' J'} (hd:Nd P ops qf) (h:Mx D hi Z0_ w0 listed Z w) (I:Zg P qf ops listed i) {bk:Nat} {Q:Aa->Prop} (p:∀ J2_:Aa,J2_[bk]?=(D.Sf i)[bk]?->Q J2_) (q:IG P ops qf i = .ld)
  (hold:bk<(D.Sf i).length -> ∀ k,k<ops.length->Oj ops qf k i=true->(bk<(D.Sf k).length->(D.Sf (k+1))[bk]?=(D.Sf k)[bk]?)/\(k<i->bk<(D.Sf k).length)):∃ J2_,R P Z J2_ w/\Q J2_:=by
 have z:=I.lt;obtain ⟨m,hm,n,C,H⟩:=h.mem;cases E:(D.Sf i)[bk]? with
 | none=>exact ⟨[],H.pre Aif,p [] (by rw[E]; simp)⟩
 | some x=>
   have f:bk<(D.Sf i).length:=(Ab6.1 E).1;have hold:=hold f;have F:IG P ops qf i ≠ .lo:=by rw[q]; simp
   have b:∀ k,k<ops.length->k≠i->IG P ops qf k = .lo->(L listed k↔¬ k<i)->Oj ops qf k i=true:=by
    intro k e c a s;rcases hd.mem k i e z c a (by rw[q]; simp) with hord | hfar
    ·have o:ordered (Ng ops []) i k=true:=by unfold ordered at hord ⊢; rw[Ag3]; exact hord
     have:=I.ord k c o;have u:=this.symm.trans s;by_cases v:k<i
     ·exact absurd v (u.1 v)
     ·exact absurd (u.2 v) v
    ·exact hfar
   have d:∀ k,k<ops.length->bk<(D.Sf k).length->(IG P ops qf k ≠ .lo\/Oj ops qf k i=true)->(D.Sf (k+1))[bk]?=(D.Sf k)[bk]?:=by
    intro k e t r;rcases r with r | r
    ·obtain ⟨τ,K⟩:=D.quiet e r;rw[<- K,AT t]
    ·exact (hold k e r).1 t
   have same:(D.Sf m)[bk]?=(D.Sf i)[bk]?:=by
    rcases Ael m i with B | y
    ·have g:IG P ops qf m = .lo:=C.resolve_left (by omega);have A:Oj ops qf m i=true:=b m (by omega) (by omega) g ⟨fun s=>by have:=(n m (by omega) g).1 s; omega,fun J=>by omega⟩;have h0:bk<(D.Sf m).length:=(hold m (by omega) A).2 B;have:∀ m',m<=m'->m'<=i->(D.Sf m')[bk]?=(D.Sf m)[bk]?:=by
      intro m' h1
      induction h1 with
      | refl=>intro _; rfl
      | @step k e G=>
        intro u;have j:m<=k:=e;rw[d k (by omega) (Acp h0 (D.IZ k j (by omega))) ?_,G (by omega)];by_cases a:IG P ops qf k = .lo
        ·have c:k≠i:=by omega
         have l:=n k (by omega) a;exact .inr (b k (by omega) c a ⟨fun s=>by have:=l.1 s; omega,fun J=>by omega⟩)
        ·exact .inl a
     exact (this i (by omega) (Aa1 _)).symm
    ·have:∀ m',i<=m'->m'<=m->(D.Sf m')[bk]?=(D.Sf i)[bk]?:=by
      intro m' h1
      induction h1 with
      | refl=>intro _; rfl
      | @step k e G=>
        intro u;have j:i<=k:=e;rw[d k (by omega) (Acp f (D.IZ k j (by omega))) ?_,G (by omega)];by_cases a:IG P ops qf k = .lo
        ·have c:k≠i:=by rintro rfl; exact F a
         have l:=n k (by omega) a;exact .inr (b k (by omega) c a ⟨fun _=>by omega,fun _=>l.2 (by omega)⟩)
        ·exact .inl a
     exact this m y (Aa1 _)
   refine ⟨AX.only bk (D.Sf m),H.only _,p _ ?_⟩;unfold AX.only;rw[List.getElem?_mapIdx,same,E];simp
theorem Mx.far {D:Data P qf ops E0 J0_ E' J'} (hd:Nd P ops qf) (h:Mx D hi Z0_ w0 listed Z w) (N:Zg P qf ops listed i) {o:Oper} (J:ops[i]?=some o) (f:oX o) {regs:Bo} (hw:Lj (D.Ef i) regs)
  (Q:aj P o (qf i).1 (VK o (iG regs)) (D.Sf i) (D.V i) (D.Sf (i+1))) (A:∀ t b,E0.getD t none=some (.pointer (some b))->b.block<J0_.length\/(D.Sf ops.length).length<=b.block):
  ∃ J2_,R P Z J2_ w/\WR P o (VK o (iG regs)) J2_ (D.V i):=by
 have W:=N.lt;have F:=(cM (P:=P) (qf:=qf) J f).1;rcases f with ⟨T,a,f⟩ | ⟨T,a,lo,L,mx,f⟩
 ·obtain ⟨C,O,y⟩:=Q.more.load T (.tmp a) f;refine h.yC hd N y F fun z k I g=>?_;unfold Oj at g;rw[Afh,Ads] at g;rcases g with g | ⟨_,g⟩
  ·obtain ⟨t,o',j,K,q⟩:=nH g;rw[J] at j;cases j;rcases q with ⟨G,H,d,s⟩ | ⟨G,H,X,Y,l3,d,_⟩
   rotate_left
   ·rw[f] at d; cases d
   rw[f] at d;cases d;obtain ⟨b,u,E,v⟩:=YH D 8 a i (by omega) s (hw a _ (KE O).2);have h0:C.block<(D.Sf 0).length:=by
    rw[D.s0];rcases A t b u with g | g
    ·rw[<- E]; exact g
    ·have:=D.IZ (i:=i) ops.length (by omega) (Aa1 _);omega
   refine ⟨fun _=>?_,fun _=>Acp h0 (D.IZ k (Ado _) (by omega))⟩;rcases D.DR k _ (Aau I) with r | r
   ·rcases r t K with ⟨p,h1,B⟩ | ⟨p,l,c,h1,_⟩
    ·rw[v k (by omega),u] at h1;cases h1;rw[<- E]; exact B b rfl
    ·rw[v k (by omega),u] at h1; cases h1
   ·rw[r.2]
  ·exact ⟨fun _=>(gJ D g).2 _ z,fun V=>by have:=(gJ D g).1; omega⟩
 ·obtain ⟨x,l,c,O,y⟩:=Q.more.sl T (.tmp a) lo L mx f;cases x with
  | none=>
    obtain ⟨m,_,_,_,S⟩:=h.mem;exact ⟨[],S.pre Aif,y [] fun b e=>by cases e⟩
  | some C=>
    refine h.yC hd N (bk:=C.block) (fun J2_ B=>y J2_ fun b e=>by cases e; exact B) F fun z k I g=>?_;unfold Oj at g;rw[Afh,Ads] at g;rcases g with g | ⟨g,_⟩
    rotate_left
    ·obtain ⟨o',G,H,j,d⟩:=yF g;rw[J] at j;cases j;rw[f] at d; cases d
    obtain ⟨t,o',j,K,q⟩:=nH g;rw[J] at j;cases j;rcases q with ⟨G,H,d,_⟩ | ⟨G,H,X,Y,l3,d,s,n⟩
    ·rw[f] at d; cases d
    rw[f] at d;cases d;obtain ⟨u,v⟩:=dt D 8 a i (by omega) s (hw a _ (KE O).2);have U:∀ (ok:Oper),ops[k]?=some ok->ok.guard=none:=fun ok M=>by
     unfold bare at n;rw[M] at n;simpa using n
    rcases D.DR k _ (Aau I) with r | r
    ·rcases r t K with ⟨p,h1,_⟩ | ⟨p,l',c',h1,B⟩
     ·rw[v k (by omega),u] at h1; cases h1
     ·rw[v k (by omega),u] at h1;cases h1;exact ⟨fun _=>(B C rfl).2,fun _=>(B C rfl).1⟩
    ·exact absurd (U _ (Aau I)) r.1
def XP (D:Data P qf ops E0 J0_ E' J') (listed:Array Bool) (Z:Mu) (tmps:Array Value):Prop:=
 ∀ t,∃ m,m<=ops.length/\(∀ j o,ops[j]?=some o->o.dst=some t->(L listed j↔j<m)) /\ ∀ v,(D.Ef m).getD t none=some v -> ∃ a,tmps[t]?=some a/\RV Z v a
theorem XP.at {D:Data P qf ops E0 J0_ E' J'} (hd:Nd P ops qf) {tmps:Array Value} (h:XP D listed Z tmps) (r:Zg P qf ops listed i) {o:Oper} (y:ops[i]?=some o) {t:Nat} (z:t ∈ od ops o\/o.dst=some t):
  ∀ v,(D.Ef i).getD t none=some v -> ∃ u,tmps[t]?=some u/\RV Z v u:=by
 obtain ⟨m,hm,hw,A⟩:=h t;have x:=r.lt;have key:∀ j g,ops[j]?=some g->g.dst=some t->(L listed j↔j<i):=by
  intro j g w n;by_cases d:j=i
  ·subst d;constructor
   ·intro s; exact absurd s r.un
   ·intro s; omega
  ·have c:=hd.reg j i g o t w y d n z;have e:ordered (Ng ops []) i j=true:=by unfold ordered at c ⊢; rw[Ag3]; exact c
   exact r.ord j d e
 have same:(D.Ef m).getD t none=(D.Ef i).getD t none:=by
  rcases Nat.le_total i m with p | q
  ·refine D.PM m p hm fun k ok h1 l f b=>?_;have a:=(hw k ok f b).2 l;have:=(key k ok f b).1 a;omega
  ·refine (D.PM i q (by omega) fun k ok h1 l f b=>?_).symm;have a:=(key k ok f b).2 l;have:=(hw k ok f b).1 a;omega
 rw[<- same]; exact A
theorem XP.put {D:Data P qf ops E0 J0_ E' J'} (hd:Nd P ops qf) {a:Act} (h:XP D listed Z a.tmps) (n:Zg P qf ops listed i) {o:Oper} (q:ops[i]?=some o) (A:E0.length<=a.tmps.size) {p:Mu} (hle:Z.le p) {v':Value} (B:RV p (D.V i) v'):
  XP D (listed.setIfInBounds i true) p (a.put o.dst v').tmps:=by
 have g:∀ j,L (listed.setIfInBounds i true) j↔j=i\/L listed j:=fun j=>pb (by rw[n.size]; exact n.lt);have z:=n.lt;intro t;by_cases d:o.dst=some t
 ·refine ⟨i+1,by omega, ?_, ?_⟩
  ·intro j x l e;rw[g];by_cases c:j=i
   ·subst c; simp
   ·have f:=hd.reg j i x o t l q c e (.inr d);have k:ordered (Ng ops []) i j=true:=by unfold ordered at f ⊢; rw[Ag3]; exact f
    have:=n.ord j c k;simp only[c,Ah6];rw[this]; omega
  ·intro v b;rw[(D.step i o q).1,d] at b;simp only[KC,JX] at b;simp only[d,Act.put,Aff,Aat];split at b
   ·rename_i y;cases b;have:t<a.tmps.size:=by
     have:=D.nF i (by omega);omega
    rw[Aay this];exact ⟨v',rfl,B⟩
   ·rename_i y;have:t<(D.Ef i).length:=by
     rcases Ael t (D.Ef i).length with h | h
     ·exact h
     ·rw[Aax,Adr h] at b; cases b
    exact absurd ⟨trivial,this⟩ y
 ·obtain ⟨m,hm,hw,w⟩:=h t;refine ⟨m,hm, ?_, ?_⟩
  ·intro j x l e;rw[g];have c:j≠i:=by
    rintro rfl;rw[q] at l; cases l; exact d e
   simp only[c,Ah6];exact hw j x l e
  ·intro v b;obtain ⟨u,r,s⟩:=w v b;exact ⟨u,by rw[N1 d]; exact r,s.mono hle⟩
end
end
section
variable {ρ:Type} {P:Program} [AJ]
theorem count_set {l:List Bool} {i:Nat} (h:l[i]?=some false):(l.set i true).count false+1=l.count false:=by
 induction l generalizing i with
 | nil=>simp at h
 | cons b l a=>
   cases i with
   | zero=>simp at h; subst h; simp
   | succ i=>
     simp at h;have:=a h;cases b <;> simp[List.count_cons] <;> omega
theorem rN {l:List Bool} {n:Nat} (h:l.count false=n+1):∃ i:Nat,l[i]?=some false /\ ∀ j:Nat,j<i->l[j]?=some true:=by
 induction l generalizing n with
 | nil=>simp at h
 | cons b l d=>
   cases b with
   | false=>exact ⟨0,rfl,fun j c=>by omega⟩
   | true=>
     simp at h;obtain ⟨i,h1,a⟩:=d h;refine ⟨i+1,by simpa using h1,fun j c=>?_⟩;cases j with
     | zero=>rfl
     | succ j=>simpa using a j (by omega)
section
variable {qf:Nat->QF} {all:Array Oper} {E0 E':Bo} {J0_ J':Aa} {hi:Nat} {Z0_:Mu} {w0:World}
theorem oU {ro:Option Nat} {nn:Nat} {Q:Exit->Act->World->Prop} (D:Data P qf all.toList E0 J0_ E' J') (hd:Nd P all.toList qf) (a0:Act)
  (hQ:∀ (a':Act) (K:Mu) (w':World),R P K J' w'->Step Z0_ J0_ w0 K J' w'->LO K E' a'.tmps->a'.defers=a0.defers->a'.tmps.size=a0.tmps.size->(∀ t,(∀ o ∈ all.toList,o.dst≠some t)->a'.tmps[t]?=a0.tmps[t]?)->Q .normal a' w')
  (hE:E0.length<=a0.tmps.size) (ac:∀ t b,E0.getD t none=some (.pointer (some b))->b.block<J0_.length\/(D.Sf all.toList.length).length<=b.block):
  ∀ (fuel:Nat) (listed:Array Bool) (a:Act) (Z:Mu) (w:World),listed.size=all.toList.length->listed.toList.count false=fuel ->
   (∀ i o,all.toList[i]?=some o->L listed i -> ∀ e ∈ o.after.toList,Region.binds .any e=true->L listed e.on) ->
   Mx D hi Z0_ w0 listed Z w->XP D listed Z a.tmps->a.defers=a0.defers->a.tmps.size=a0.tmps.size->(∀ t,(∀ o ∈ all.toList,o.dst≠some t)->a.tmps[t]?=a0.tmps[t]?) ->
   wpAnyIn (FW ro) nn P .any all Q fuel listed a w:=by
 intro fuel
 induction fuel with
 | zero=>
   intro listed a Z w T I q B C M H O;have y:∀ j,j<all.toList.length->L listed j:=by
    intro j hj;have ai:j<listed.toList.length:=by simp only[Aen] at T hj ⊢; omega
    have be:listed.toList[j]≠false:=by
     intro he;have:0<listed.toList.count false:=List.count_pos_iff.2 (he ▸ Adb ai);omega
    have:listed.toList[j]=true:=by cases h:listed.toList[j] <;> simp_all
    unfold L;have a2:j<listed.size:=by simpa using ai
    simp only[Array.getElem_toList] at this;simp[a2,this]
   refine ⟨?_, ?_⟩
   ·cases W:Region.ready .any all listed with
    | nil=>rfl
    | cons x xs=>
      have:x ∈ Region.ready .any all listed:=by rw[W]; simp
      obtain ⟨h1,o,ho,_⟩:=mem_ready.1 this;have U:x<all.toList.length:=by simpa using (Ags.1 ho).1
      have:=y x U;unfold L at this;have bb:x<listed.size:=by omega
      simp[bb] at h1 this;rw[h1] at this; cases this
   ·obtain ⟨m,hm,a5,a7,hR⟩:=B.mem;have a8:m=all.toList.length:=by
     rcases a7 with h | h
     ·exact h
     ·by_cases F:m<all.toList.length
      ·have:=(a5 m F h).1 (y m F); omega
      ·omega
    subst a8;rw[D.sn] at hR;refine hQ a Z w hR ?_ ?_ M H O
    ·have g1:=B.mu;have g2:=B.new;have g3:=B.frame;have g4:=D.IZ (i:=0) all.toList.length (Ado _) (Aa1 _);have g5:∀ h,h<(D.Sf 0).length->AK (D.Sf all.toList.length) h->AK (D.Sf 0) h:=by
      intro h hh;have:∀ k,k<=all.toList.length->AK (D.Sf k) h->AK (D.Sf 0) h:=by
       intro k
       induction k with
       | zero=>intro _ hw; exact hw
       | succ k ih=>
         intro hk hw;exact ih (by omega) (B.wr k (by omega) (y k (by omega)) h (Acp hh (D.IZ k (Ado _) (by omega))) hw)
      exact this _ (Aa1 _)
     rw[D.s0,D.sn] at g1 g2 g4 g5;rw[D.s0] at g3;exact ⟨g4,g1,g5,g2,B.size,B.tape,B.os,B.output,g3⟩
    ·refine ⟨by rw[<- D.en,D.nF _ (Aa1 _),H]; exact hE,fun t v hv=>?_⟩;obtain ⟨m',a6,hw,ba⟩:=C t;rw[<- D.en] at hv;refine ba v ?_;rw[<- D.PM _ a6 (Aa1 _) fun k o h1 s hk ay=>?_]
     ·exact hv
     ·have:=(hw k o hk ay).1 (y k s); omega
 | succ fuel ih=>
   intro listed a Z w T I q B C M H O;refine ⟨?_, ?_⟩
   ·
    intro aj;obtain ⟨i,h1,s⟩:=rN I;have ah:i<listed.toList.length:=(Ab6.1 h1).1;have az:i<all.toList.length:=by simp only[Aen] at ah T ⊢; omega
    have:i ∈ Region.ready .any all listed:=by
     rw[mem_ready];have aa:i<listed.size:=by simpa using ah
     have ap:listed[i]?=some false:=by simpa using h1
     refine ⟨by simp[ap],all.toList[i],by simp,fun e he hb=>?_⟩;have F:=hd.down i _ (Aau az) e (by simpa using he) hb;have aq:listed[e.on]?=some true:=by simpa using s e.on F
     simp[aq]
    rw[aj] at this;cases this
   ·intro i a1;obtain ⟨ab,o,ho,X⟩:=mem_ready.1 a1;have r:all.toList[i]?=some o:=by simpa using ho
    have F:i<all.toList.length:=(Ab6.1 r).1;have J:¬ L listed i:=by
     unfold L;have aa:i<listed.size:=by omega
     simp[aa] at ab ⊢;exact ab
    have E:∀ e ∈ o.after.toList,Region.binds .any e=true->L listed e.on:=fun e he hb=>X e (by simpa using he) hb;have n:Zg P qf all.toList listed i:=by
     refine ⟨F,T,J,fun j bd p=>?_⟩;unfold ordered at p;rw[Afh] at p;rcases p with p | p
     ·have h1:=bC (S:=L listed) q i r E p;have s:=uz hd.down i p;exact ⟨fun _=>s,fun _=>h1⟩
     ·have s:=uz hd.down j p;refine ⟨fun hl=>?_,fun hl=>by omega⟩;obtain ⟨oj,ak⟩:=bD p;exact absurd (bC (S:=L listed) q j ak (q j oj ak hl) p) J
    have an:∀ j,L (listed.setIfInBounds i true) j↔j=i\/L listed j:=fun j=>pb (by omega);have ar:E0.length<=a.tmps.size:=by omega
    have next:∀ (A:Value) (K:Mu) (w':World),RV K (D.V i) A->Z.le K->Mx D hi Z0_ w0 (listed.setIfInBounds i true) K w'->wpAnyIn (FW ro) nn P .any all Q fuel (listed.setIfInBounds i true) (a.put o.dst A) w':=by
     intro A K w' hv hle au;refine ih _ _ K w' (by simpa using T) ?_ ?_ au (C.put hd n r ar hle hv) (by rw[<- M]; cases o.dst <;> rfl) (by rw[Xy,H]) ?_
     ·have aa:i<listed.size:=by omega
      have h1:listed.toList[i]?=some false:=by
       simp[aa] at ab ⊢; exact ab
      have:=count_set h1;rw[Ahp]; omega
     ·intro j oj hj hl e he hb;rw[an] at hl ⊢;rcases hl with rfl | hl
      ·rw[r] at hj; cases hj;exact .inr (E e he hb)
      ·exact .inr (q j oj hj hl e he hb)
     ·intro t ht;rw[N1 (ht o (Afx r))];exact O t ht
    have N:∀ (c:Bo),Lj (D.Ef i) c -> ∀ x u,VK o (iG c) x=some u->RV Z u (a.eval x):=by
     intro c hw x u U;obtain ⟨bc,U⟩:=KE U;cases x with
     | tmp t=>
       obtain ⟨A,h1,s⟩:=C.at hd n r (t:=t) (.inl (List.mem_append_left _ (List.mem_filterMap.2 ⟨.tmp t,by simpa using bc,rfl⟩))) u (hw t u U);simp only[Act.eval,Af4,h1,Afs];exact s
     | const v=>
       simp only[iG] at U;split at U
       ·cases U; exact .IX ‹_›
       ·cases U
     | global g=>cases U
     | func f=>cases U; exact .func (fun l hl=>by cases hl) .nil .nil
    have z:∀ (c:Bo),Lj (D.Ef i) c -> ∀ j want u,o.guard=some (j,want)->Ol all.toList c j=some u -> ∃ d A,QQ all.toList j=some d/\a.tmps[d]?=some A/\RV Z u A:=by
     intro c hw j want u V W;unfold Ol at W;split at W
     ·rename_i d ag;obtain ⟨A,h1,s⟩:=C.at hd n r (t:=d) (.inl (List.mem_append_right _ (by rw[V]; simp[ag]))) u (hw d u W);exact ⟨d,A,ag,h1,s⟩
     ·cases W
    unfold wpOpIn;rw[ho];simp only;rcases (D.step i o r).2 with ⟨c,hw,hy,hf⟩ | ⟨⟨c,hw,hn⟩,hV,hs⟩
    ·
     have G:Region.wanted o (yielded all a.tmps)=true:=by
      unfold yes at hy;unfold Region.wanted;split at hy
      ·rename_i V; rw[V]
      ·rename_i j want V;rw[V];obtain ⟨d,A,h1,s,h3⟩:=z c hw j want _ V hy;cases h3;unfold QQ at h1;simp only[Afa] at h1;simp only[yielded,h1,AI,s];simp
     rw[Aay G];by_cases hc:IG P all.toList qf i = .pure
     ·have ax:Gh P o = .pure:=by
       exact XW (P:=P) (qf:=qf) r hc
      obtain ⟨hs,hp⟩:=hf.pure ax;obtain ⟨A,h1,s⟩:=hp Z w a.eval (N c hw);refine Nt (Pk h1 (by intro d hd; cases hd)) ?_;unfold Oper.wp;rw[h1,Agz];exact next A Z w s (Mu.le_refl _) (B.idle hd n hs)
     ·by_cases Y:∃ k,k<all.toList.length/\Oj all.toList qf k i=true
      ·obtain ⟨kf,_,a3⟩:=Y;obtain ⟨o2,ad,am⟩:=Xg a3;have a9:o2=o:=by rw[r] at ad; exact (Aej ad).symm
       subst a9;obtain ⟨J2_,aw,a4⟩:=B.far hd n r am hw hf ac;obtain ⟨A,h1,s⟩:=a4 Z w a.eval aw (N c hw);refine Nt (Pk h1 (by intro d hd; cases hd)) ?_;unfold Oper.wp;rw[h1,Agz];exact next A Z w s (Mu.le_refl _) (B.idle hd n (D.Y6 ad am))
      have Y:∀ k,k<all.toList.length->Oj all.toList qf k i=false:=fun k hk=>by
       cases hq:Oj all.toList qf k i with
       | false=>rfl
       | true=>exact absurd ⟨k,hk,hq⟩ Y
      obtain ⟨hR,ae⟩:=B.run hd n hc Y;refine hf.wp a Z w hR (B.fresh i F J) (N c hw) _ _ _ _ ?_;intro K A w' hv av af;exact next A K w' hv (af.le (B.fresh i F J)) (ae K w' af av)
    ·have G:Region.wanted o (yielded all a.tmps)=false:=by
      obtain ⟨j,want,V,hn⟩:=hn;unfold Region.wanted;rw[V];rcases hn with ⟨b,W,hb⟩ | W
      ·obtain ⟨d,A,h1,s,h3⟩:=z c hw j want _ V W;cases h3;unfold QQ at h1;simp only[Afa] at h1;simp only[yielded,h1,AI,s];simpa using hb
      ·obtain ⟨d,A,h1,s,h3⟩:=z c hw j want _ V W;unfold undef at h3;cases h3;unfold QQ at h1;simp only[Afa] at h1;simp only[yielded,h1,AI,s];rfl
     rw[G];simp only[Ab8,Aa5];refine ⟨fun _ _=>trivial, ?_⟩;exact next undef Z w (by rw[hV]; exact Ri) (Mu.le_refl _) (B.idle hd n hs)
theorem xz {ro:Option Nat} {nn:Nat} {Q:Exit->Act->World->Prop} (u:P.follows .mixedOrders=true) {id:Nat} (N:Tr P qf all.toList (all.toList.zipIdx.map fun x=>(x.2,x.1)) E0 J0_ E' J') (hd:Wr P all.toList qf=true) (M:J'.length<=hi)
  (a:Act) (Z:Mu) (w:World) (J:R P Z J0_ w) (n:H8 Z J0_.length hi) (e:LO Z E0 a.tmps)
  (I:∀ (g:Act) (r:Mu) (w':World),R P r J' w'->Step Z J0_ w r J' w'->LO r E' g.tmps->g.defers=a.defers->g.tmps.size=a.tmps.size->(∀ t,(∀ o ∈ all.toList,o.dst≠some t)->g.tmps[t]?=a.tmps[t]?)->Q .normal g w'):
  (Code.region id all true).wpIn (FW ro) nn P Q a w:=by
 obtain ⟨D⟩:=yl N;have B:=ko hd;refine wpIn_region_any u ?_;have d:∀ j,¬ L (Array.replicate all.size false) j:=by
  intro j f;unfold L at f;by_cases p:j<all.size <;> simp[p] at f
 refine oU (hi:=hi) (Z0_:=Z) (w0:=w) D B a ?_ e.1 (by
  intro t b hb;obtain ⟨O,h1,l⟩:=e.2 t _ hb;obtain ⟨k,q,_⟩:=dx l;rw[D.sn];rcases Ael b.block J0_.length with h | h
  ·exact .inl h
  ·rcases Ael b.block hi with F | F
   ·rw[n b.block h F] at q; cases q
   ·exact .inr (by omega)) all.size (Array.replicate all.size false) a Z _ (by simp) (by simp[List.count_replicate]) (fun i o _ f=>absurd f (d i)) ?_ ?_ rfl rfl fun _ _=>rfl
 ·intro g r w' h1 l y z h5 H;exact I g r w' h1 l y z h5 H
 ·obtain ⟨m,h1,l,y,z⟩:=av P qf all.toList all.toList.length 0 (by simp);have c:∀ j,j<all.toList.length->H8 Z (D.Sf j).length (D.Sf (j+1)).length:=by
   intro j p;refine n.sub ?_ ?_
   ·have:=D.IZ (i:=0) j (Ado _) (by omega);rw[D.s0] at this; exact this
   ·have:=D.IZ (i:=j+1) all.toList.length p (Aa1 _);rw[D.sn] at this; omega
  refine ⟨⟨m,l, ?_,z, ?_⟩,fun j p _=>c j p,fun _ _=>rfl, ?_,fun j _ f=>absurd f (d j),Aa1 _,rfl,rfl,rfl,fun _ _ _=>rfl⟩
  ·intro j p K;constructor
   ·intro f; exact absurd f (d j)
   ·intro E; exact absurd K (y j (Ado _) E)
  ·have A:R P Z (D.Sf 0) w.drew:=by rw[D.s0]; exact J.drew
   exact A.extend (D.chain m h1 l y) (Uh D m h1 l fun k _ q=>c k (by omega))
  ·intro h k s C q;have:Z h=none:=n h (by rw[D.s0] at s; exact s) (by rw[D.sn] at C; omega);rw[this] at q; cases q
 ·intro t;refine ⟨0,Ado _,fun j o _ _=>⟨fun f=>absurd f (d j),fun h=>by omega⟩,fun v G=>?_⟩;rw[D.e0] at G;exact e.2 t v G
end
end
end
end Go.AX
